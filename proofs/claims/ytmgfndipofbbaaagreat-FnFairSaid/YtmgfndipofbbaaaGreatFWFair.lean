/-
Walks. No condition.
-/
import Derived.Test.YtmgfndipofbbaaaGreatFNf
import Derived.Test.YtmgfndipofbbaaaGreatChecked
import Derived.KernelRfl
import Derived.Test.YtmgfndipofbbaaaGreatFWFairb
namespace Go.Vi
open Go.Proofs
set_option linter.all false
set_option maxRecDepth 4000
set_option maxHeartbeats 2000000
open Nat renaming reduceBEq → A, reduceMul → B, reduceAdd → C, reduceDiv → E, le_of_ble_eq_true → uf
open Int renaming reduceBEq → F
attribute [local irreducible] go AWP
open List renaming map → W, map_nil → Y, all_eq_true → Z, cons_append → I, nil_append → zA, all_cons → zB, all_nil → zC
open Tryz renaming prog → X
open Bool renaming true → T, false → G
open Option renaming some → H, none → L
open _root_ renaming List → N, Option → O, Int → P, Bool → Q, Nat → U, rfl → V
/- 179:impl_planner_search -/
def M9:N (N U × AItem):= [([],(L,.mv 40 (S 0))),([],(L,.mv 41 (S 0))),([],(L,.mv 42 (S 0))),([],(L,.mv 43 (S 0))),([3],(L,.nilc 44 (S 43))),([4],(L,.faddr 45 (S 44) 15)),([5],(L,.load 46 (S 45) G 1)),([6],(L,.call 47 121 [(S 46)])),([],(L,.load 48 (S 2) T 2)),([0,0,3,4,5,6,7],(L,.nilc 49 (S 40))),([9,0,3,4,5,6,7],(L,.faddr 50 (S 49) 16)),([10,7,7,0,3,4,5,6,7],(L,.store (S 50) (S 47) 1)),([1,0,1,3,4,5,6,7,8,9,10,11],(L,.nilc 51 (S 41))),([12,0,1,3,4,5,6,7,8,9,10,11],(L,.faddr 52 (S 51) 17)),([13,8,11,0,1,3,4,5,6,7,8,9,10,11],(L,.store (S 52) (S 48) 2)),([2,0,1,2,3,4,5,6,7,8,9,10,11,12,13,14],(L,.nilc 53 (S 42))),([15,0,1,2,3,4,5,6,7,8,9,10,11,12,13,14],(L,.faddr 54 (S 53) 19)),([16,14,0,1,2,3,4,5,6,7,8,9,10,11,12,13,14],(L,.store (S 54) (KB T) 1))]
def F9:N (N U × AItem):= [([],(L,.mv 79 (S 0))),([],(L,.mv 80 (S 0))),([],(L,.mv 81 (S 0))),([2],(L,.nilc 82 (S 81))),([3],(L,.faddr 83 (S 82) 14)),([4],(L,.load 84 (S 83) G 1)),([],(L,.load 85 (S 5) T 4)),([6],(L,.bslice 86 4 [.int .i64 0,.int .i64 0,.int .i64 0,.sl []] 1 [(0,(S 85))])),([5,7],(L,.app 87 4 48 (S 84) (S 86))),([],(L,.mv 88 (S 0))),([9],(L,.nilc 89 (S 88))),([10],(L,.faddr 90 (S 89) 15)),([11],(L,.load 91 (S 90) G 1)),([],(L,.mv 92 (S 4))),([13],(L,.bslice 93 1 [.int .i64 0] 1 [(0,(S 92))])),([12,14,8],(L,.app 94 1 8 (S 91) (S 93))),([0,0,2,3,4,5,6,7,8,12,15],(L,.nilc 95 (S 79))),([16,0,2,3,4,5,6,7,8,12,15],(L,.faddr 96 (S 95) 14)),([17,8,15,0,2,3,4,5,6,7,8,12,15],(L,.store (S 96) (S 87) 1)),([1,0,1,2,3,4,5,6,7,8,9,10,11,12,13,14,15,16,17,18],(L,.nilc 97 (S 80))),([19,0,1,2,3,4,5,6,7,8,9,10,11,12,13,14,15,16,17,18],(L,.faddr 98 (S 97) 15)),([20,15,18,0,1,2,3,4,5,6,7,8,9,10,11,12,13,14,15,16,17,18],(L,.store (S 98) (S 94) 1))]
def I6:N (N U × AItem):= [([],(L,.mv 101 (S 0))),([],(L,.mv 102 (S 0))),([],(L,.mv 103 (S 0))),([2],(L,.nilc 104 (S 103))),([3],(L,.faddr 105 (S 104) 14)),([4],(L,.load 106 (S 105) G 1)),([],(L,.mv 107 (S 3))),([5,6],(L,.slc 108 4 (S 106) L (H (S 107)) L)),([],(L,.mv 109 (S 0))),([8],(L,.nilc 110 (S 109))),([9],(L,.faddr 111 (S 110) 15)),([10],(L,.load 112 (S 111) G 1)),([],(L,.mv 113 (S 3))),([11,12],(L,.slc 114 1 (S 112) L (H (S 113)) L)),([0,0,2,3,4,5,6,7,11],(L,.nilc 115 (S 101))),([14,0,2,3,4,5,6,7,11],(L,.faddr 116 (S 115) 14)),([15,7,0,2,3,4,5,6,7,11],(L,.store (S 116) (S 108) 1)),([1,0,1,2,3,4,5,6,7,8,9,10,11,12,13,14,15,16],(L,.nilc 117 (S 102))),([17,0,1,2,3,4,5,6,7,8,9,10,11,12,13,14,15,16],(L,.faddr 118 (S 117) 15)),([18,13,16,0,1,2,3,4,5,6,7,8,9,10,11,12,13,14,15,16],(L,.store (S 118) (S 114) 1))]
def C26:X3:= .seq (.reg [(L,.keep [0,3,61,62,63] [99999999999] [90000,90001,90002])]) (.seq (.reg [bn 64 .lss 63 62]) (.seq (.cond (S 64) .skip (.exit 0)) (.seq (.block 1 (.seq (.reg [mv 65 63,ia 66 61 63 4,lw 67 66 4,(L,.alloc 5 [aI 0,aI 0,aI 0,.nil]),mv 4 65,so 5 67 4]) (.seq (.seq (.drw [o0 (mv 68 0),o0 (L,.nilc 69 (S 68)),o0 (fa 70 69 0),o0 (lw 71 70 12),o0 (mv 72 0),o0 (L,.nilc 73 (S 72)),o0 (fa 74 73 14),o0 (ld 75 74),o0 (lw 76 5 4),o0 (ca 77 106 [S 71,S 75,S 76]),o0 (nt 78 77)]) (.cond (S 78) (.exit 1) .skip)) (.seq (.any F9) (.seq (.cal [mv 99 0] 100 179 [(S 99)]) (.any I6)))))) (.reg [(L,.bin 119 .add (S 63) (K 1)),mv 63 119]))))
def C3d:X3:= .seq (.reg [(L,.keep [0,2] [99999999999,2] [90000,90001,90002])]) (.seq (.reg [mv 28 0,(L,.nilc 29 (S 28)),fa 30 29 14,ld 31 30,ln 32 31,mv 3 32]) (.seq (.seq (.reg [mv 33 3,mv 34 0,(L,.nilc 35 (S 34)),fa 36 35 12,ld 37 36,ln 38 37,bn 39 .eql 33 38]) (.cond (S 39) (.seq (.any M9) .ret) .skip)) (.seq (.reg [mv 55 0,(L,.nilc 56 (S 55)),fa 57 56 12,ld 58 57,mv 59 3,ia 60 58 59 1,ld 61 60,ln 62 61,(L,.mv 63 (K 0))]) (.block 0 (.loop C26)))))
def cc460:X3:=(.seq (.drw [(H [2],mv 6 0),(H [2],(L,.nilc 7 (S 6))),(H [2],fa 8 7 13),(H [2],ld 9 8),(H [2],mv 10 0),(H [2],(L,.nilc 11 (S 10))),(H [2],fa 12 11 14),(H [2],ld 13 12),(H [2],(L,.callv 14 (S 9) [(S 13)])),(H [14],(L,.alloc 2 [aI 0,aI 0])),(L,so 2 14 2)]) (.seq (.seq (.drw [o0 (mv 15 0),o0 (L,.nilc 16 (S 15)),o0 (fa 17 16 19),o0 (ld 18 17),o0 (mv 19 18),o0 (H (19,T),.load 20 (S 2) T 2),o0 (H (19,T),.mv 21 (S 0)),o0 (H (19,T),.nilc 22 (S 21)),o0 (H (19,T),.faddr 23 (S 22) 17),o0 (H (19,T),.load 24 (S 23) T 2),o0 (H (19,T),.call 25 265 [(S 20),(S 24)]),o0 (H (19,T),.un 26 .not (S 25)),o0 (pa 27 19 26)]) (.cond (S 27) .ret .skip)) C3d))
abbrev C7(r1:Xh)(c0_ c1_:Q)(c2_ c3_:Q)(c4_ c5_:Q)(c6_ c7_:Q)(c8_ c9_:Q)(c10_ c12_:Q)(c13_ c15_ c16_:Q)(bx_:N (U × N AC))(rs_:Rows):St:=⟨[(0,vc (.pb 99999999999 0)),(2,vc (.pb 2 0)),(40,bif c0_ then vc (.pb 99999999999 0) else .undef),(41,bif c1_ then vc (.pb 99999999999 0) else .undef),(42,bif c2_ then vc (.pb 99999999999 0) else .undef),(43,bif c3_ then vc (.pb 99999999999 0) else .undef),(44,bif c4_ then vc (.pb 99999999999 0) else .undef),(45,bif c5_ then vc (.pb 99999999999 15) else .undef),(46,bif c6_ then vc (.own 90001) else .undef),(47,bif c7_ then vc (.own 3008) else .undef),(48,bif c8_ then va [aI r1.i0,aI r1.i1] else .undef),(49,bif c9_ then vc (.pb 99999999999 0) else .undef),(50,bif c10_ then vc (.pb 99999999999 16) else .undef),(51,bif c12_ then vc (.pb 99999999999 0) else .undef),(52,bif c13_ then vc (.pb 99999999999 17) else .undef),(53,bif c15_ then vc (.pb 99999999999 0) else .undef),(54,bif c16_ then vc (.pb 99999999999 19) else .undef)],bx_,rs_⟩
abbrev J6(F_w0:FuncId)(caps_w0:N D)(a0:Xc)(r1:Xh)(r7:(N P)):St:=(C7 r1 T T T T T T T T T T T T T T T [(99999999999,(dm a0.h.row++ [aL (W (rL X0.row) a0.choices),.dat (.clo F_w0 caps_w0),.own 90000,.own 90001,.own 3008,aI r1.i0,aI r1.i1,aB T])),(2,[aI r1.i0,aI r1.i1])] [(90000,4,W X0.row a0.plan),(90001,1,W rI a0.choice),(90002,1,W rI a0.best),(3008,1,W rI r7)])
theorem E6t(F_w0:FuncId)(caps_w0:N D)(a0:Xc)(r1:Xh)(v5:Q)(r7:(N P))(h7:D0 a0.choice=H r7):∀(f:U) (b15:Q),E2 X M9 (J6 F_w0 caps_w0 a0 r1 r7) f [T,T,T,T,T,T,T,T,T,T,T,T,T,T,T,b15,T,T] (C7 r1 T T T T T T T T T T T T T b15 T [(99999999999,(dm a0.h.row++ [aL (W (rL X0.row) a0.choices),.dat (.clo F_w0 caps_w0),.own 90000,.own 90001,.own 3008,aI r1.i0,aI r1.i1,aB T])),(2,[aI r1.i0,aI r1.i1])] [(90000,4,W X0.row a0.plan),(90001,1,W rI a0.choice),(90002,1,W rI a0.best),(3008,1,W rI r7)]):=by
 intro f
 induction f with
 | zero=>
  intro b15 h
  obtain rfl:b15=T:=Z.1 h b15 (by simp)
  rfl
 | succ f ih=>
  intro b15
  refine B2 ⟨?_,?_,?_,?_,?_,?_,?_,?_,?_,?_,?_,?_,?_,?_,?_,?_,?_,?_,⟨⟩⟩<;>try first | (intro h; cases h; done) | (intro h0 hw; obtain rfl:=hz h0 rfl; refine np ?_; simp only[C7,cdt,cdf,A1,A,B,C,E,F,J]; exact ih _)
theorem F1g(F_w0:FuncId)(caps_w0:N D)(a0:Xc)(r1:Xh)(v5:Q)(r7:(N P))(h7:D0 a0.choice=H r7):∀(f:U) (b2 b12:Q) (b15 b16:Q),E2 X M9 (J6 F_w0 caps_w0 a0 r1 r7) f [T,T,b2,T,T,T,T,T,T,T,T,T,b12,T,T,b15,b16,G] (C7 r1 T T b2 T T T T T T T T b12 T b15 b16 [(99999999999,(dm a0.h.row++ [aL (W (rL X0.row) a0.choices),.dat (.clo F_w0 caps_w0),.own 90000,.own 90001,.own 3008,aI r1.i0,aI r1.i1,aB v5])),(2,[aI r1.i0,aI r1.i1])] [(90000,4,W X0.row a0.plan),(90001,1,W rI a0.choice),(90002,1,W rI a0.best),(3008,1,W rI r7)]):=by
 intro f
 induction f with
 | zero=>intro b2 b12 b15 b16 h; simp at h
 | succ f ih=>
  intro b2 b12 b15 b16
  refine B2 ⟨?_,?_,?_,?_,?_,?_,?_,?_,?_,?_,?_,?_,?_,?_,?_,?_,?_,?_,⟨⟩⟩<;>try first | (intro h; cases h; done) | (intro h0 hw; obtain rfl:=hz h0 rfl; (try obtain rfl:=hq hw 2 rfl rfl); (try obtain rfl:=hq hw 12 rfl rfl); (try obtain rfl:=hq hw 15 rfl rfl); refine np ?_; simp only[C7,cdt,cdf,A1,A,B,C,E,F,J]; exact ih _ _ _ _)
  ·intro h0 hw
   obtain rfl:=hq hw 2 rfl rfl
   obtain rfl:=hq hw 12 rfl rfl
   obtain rfl:=hq hw 16 rfl rfl
   refine np ?_
   try simp only[C7,cdt,cdf,A1,A,B,C,E,F,J]
   exact E6t F_w0 caps_w0 a0 r1 v5 r7 h7 _ b15
theorem E9j(F_w0:FuncId)(caps_w0:N D)(a0:Xc)(r1:Xh)(v5:Q)(r7:(N P))(h7:D0 a0.choice=H r7):∀(f:U) (b1 b2:Q) (b8 b9:Q) (b12 b13:Q),E2 X M9 (J6 F_w0 caps_w0 a0 r1 r7) f [T,b1,b2,T,T,T,T,T,b8,b9,T,T,b12,b13,G,G,G,G] (C7 r1 T b1 b2 T T T T T b8 b9 T b12 b13 G G [(99999999999,(dm a0.h.row++ [aL (W (rL X0.row) a0.choices),.dat (.clo F_w0 caps_w0),.own 90000,.own 90001,.own 3008,aI a0.least.i0,aI a0.least.i1,aB v5])),(2,[aI r1.i0,aI r1.i1])] [(90000,4,W X0.row a0.plan),(90001,1,W rI a0.choice),(90002,1,W rI a0.best),(3008,1,W rI r7)]):=by
 intro f
 induction f with
 | zero=>intro b1 b2 b8 b9 b12 b13 h; simp at h
 | succ f ih=>
  intro b1 b2 b8 b9 b12 b13
  refine B2 ⟨?_,?_,?_,?_,?_,?_,?_,?_,?_,?_,?_,?_,?_,?_,?_,?_,?_,?_,⟨⟩⟩<;>try first | (intro h; cases h; done) | (intro _ hw; simp at hw; done) | (intro h0 hw; obtain rfl:=hz h0 rfl; (try obtain rfl:=hq hw 1 rfl rfl); (try obtain rfl:=hq hw 8 rfl rfl); (try obtain rfl:=hq hw 9 rfl rfl); (try obtain rfl:=hq hw 12 rfl rfl); refine np ?_; simp only[C7,cdt,cdf,A1,A,B,C,E,F,J]; exact ih _ _ _ _ _ _)
  ·intro h0 hw
   obtain rfl:=hq hw 1 rfl rfl
   obtain rfl:=hq hw 8 rfl rfl
   obtain rfl:=hq hw 9 rfl rfl
   obtain rfl:=hq hw 13 rfl rfl
   refine np ?_
   try simp only[C7,cdt,cdf,A1,A,B,C,E,F,J]
   exact F1g F_w0 caps_w0 a0 r1 v5 r7 h7 _ b2 b12 G G
theorem F0i(F_w0:FuncId)(caps_w0:N D)(a0:Xc)(r1:Xh)(v5:Q)(r7:(N P))(h7:D0 a0.choice=H r7):∀(f:U) (b0 b1:Q) (b2 b3:Q) (b4 b5:Q) (b8 b9 b10:Q),E2 X M9 (J6 F_w0 caps_w0 a0 r1 r7) f [b0,b1,b2,b3,b4,b5,T,T,b8,b9,b10,G,G,G,G,G,G,G] (C7 r1 b0 b1 b2 b3 b4 b5 T T b8 b9 b10 G G G G [(99999999999,(dm a0.h.row++ [aL (W (rL X0.row) a0.choices),.dat (.clo F_w0 caps_w0),.own 90000,.own 90001,.own 90002,aI a0.least.i0,aI a0.least.i1,aB v5])),(2,[aI r1.i0,aI r1.i1])] [(90000,4,W X0.row a0.plan),(90001,1,W rI a0.choice),(90002,1,W rI a0.best),(3008,1,W rI r7)]):=by
 intro f
 induction f with
 | zero=>intro b0 b1 b2 b3 b4 b5 b8 b9 b10 h; simp at h
 | succ f ih=>
  intro b0 b1 b2 b3 b4 b5 b8 b9 b10
  refine B2 ⟨?_,?_,?_,?_,?_,?_,?_,?_,?_,?_,?_,?_,?_,?_,?_,?_,?_,?_,⟨⟩⟩<;>try first | (intro h; cases h; done) | (intro _ hw; simp at hw; done) | (intro h0 hw; obtain rfl:=hz h0 rfl; (try obtain rfl:=hq hw 0 rfl rfl); (try obtain rfl:=hq hw 3 rfl rfl); (try obtain rfl:=hq hw 4 rfl rfl); (try obtain rfl:=hq hw 5 rfl rfl); (try obtain rfl:=hq hw 9 rfl rfl); refine np ?_; simp only[C7,cdt,cdf,A1,A,B,C,E,F,J]; exact ih _ _ _ _ _ _ _ _ _)
  ·intro h0 hw
   obtain rfl:=hq hw 0 rfl rfl
   obtain rfl:=hq hw 3 rfl rfl
   obtain rfl:=hq hw 4 rfl rfl
   obtain rfl:=hq hw 5 rfl rfl
   obtain rfl:=hq hw 10 rfl rfl
   refine np ?_
   try simp only[C7,cdt,cdf,A1,A,B,C,E,F,J]
   exact E9j F_w0 caps_w0 a0 r1 v5 r7 h7 _ b1 b2 b8 b9 G G
theorem E75(F_w0:FuncId)(caps_w0:N D)(a0:Xc)(r1:Xh)(v5:Q)(r7:(N P))(h7:D0 a0.choice=H r7):∀(f:U) (b0 b1:Q) (b2 b3:Q) (b4 b5:Q) (b6 b8:Q),E2 X M9 (J6 F_w0 caps_w0 a0 r1 r7) f [b0,b1,b2,b3,b4,b5,b6,G,b8,G,G,G,G,G,G,G,G,G] (C7 r1 b0 b1 b2 b3 b4 b5 b6 G b8 G G G G G G [(99999999999,(dm a0.h.row++ [aL (W (rL X0.row) a0.choices),.dat (.clo F_w0 caps_w0),.own 90000,.own 90001,.own 90002,aI a0.least.i0,aI a0.least.i1,aB v5])),(2,[aI r1.i0,aI r1.i1])] [(90000,4,W X0.row a0.plan),(90001,1,W rI a0.choice),(90002,1,W rI a0.best)]):=by
 intro f
 induction f with
 | zero=>intro b0 b1 b2 b3 b4 b5 b6 b8 h; simp at h
 | succ f ih=>
  intro b0 b1 b2 b3 b4 b5 b6 b8
  refine B2 ⟨?_,?_,?_,?_,?_,?_,?_,?_,?_,?_,?_,?_,?_,?_,?_,?_,?_,?_,⟨⟩⟩<;>try first | (intro _ hw; simp at hw; done) | (intro h0 hw; obtain rfl:=hz h0 rfl; (try obtain rfl:=hq hw 3 rfl rfl); (try obtain rfl:=hq hw 4 rfl rfl); (try obtain rfl:=hq hw 5 rfl rfl); refine np ?_; simp only[C7,cdt,cdf,A1,A,B,C,E,F,J]; exact ih _ _ _ _ _ _ _ _)
  ·intro h0 hw
   obtain rfl:=hq hw 6 rfl rfl
   refine np ?_
   try simp only[C7,cdt,cdf,A1,A,B,C,E,F,J]
   refine M4 (A4t _ _ h7) V (A3f V ⟨A1r,⟨⟩⟩) (by simp only[St.fresh,zB,zC,P0]; simp[AV.cells,V1.cells,AC.uses]) (uf V) ?_
   try simp only[A1,A,B,C,E,F,J]
   exact F0i F_w0 caps_w0 a0 r1 v5 r7 h7 _ b0 b1 b2 b3 b4 b5 b8 G G
abbrev A5(a0:Xc)(x8:N X0)(v9:P)(x19:X0)(wo5_ wo12_:AV)(c0_ c1_:Q)(c2_ c3_:Q)(c4_ c5_:Q)(c6_ c7_:Q)(c8_ c9_:Q)(c10_ c11_:Q)(c12_ c13_:Q)(c14_ c15_:Q)(c16_ c17_:Q)(c19_ c20_:Q)(bx_:N (U × N AC))(rs_:Rows):St:=⟨[(0,vc (.pb 99999999999 0)),(3,vc (aI (a0.plan.length:P))),(4,vc (aI v9)),(5,vc (.pb 5 0)),(61,vc (aL (W X0.row x8))),(62,vc (aI (x8.length:P))),(63,vc (aI v9)),(79,bif c0_ then vc (.pb 99999999999 0) else .undef),(80,bif c1_ then vc (.pb 99999999999 0) else .undef),(81,bif c2_ then vc (.pb 99999999999 0) else .undef),(82,bif c3_ then vc (.pb 99999999999 0) else .undef),(83,bif c4_ then vc (.pb 99999999999 14) else .undef),(84,bif c5_ then wo5_ else .undef),(85,bif c6_ then va (dm x19.row) else .undef),(86,bif c7_ then vc (.own 5504) else .undef),(87,bif c8_ then vc (.own 90000) else .undef),(88,bif c9_ then vc (.pb 99999999999 0) else .undef),(89,bif c10_ then vc (.pb 99999999999 0) else .undef),(90,bif c11_ then vc (.pb 99999999999 15) else .undef),(91,bif c12_ then wo12_ else .undef),(92,bif c13_ then vc (aI v9) else .undef),(93,bif c14_ then vc (.own 5952) else .undef),(94,bif c15_ then vc (.own 90001) else .undef),(95,bif c16_ then vc (.pb 99999999999 0) else .undef),(96,bif c17_ then vc (.pb 99999999999 14) else .undef),(97,bif c19_ then vc (.pb 99999999999 0) else .undef),(98,bif c20_ then vc (.pb 99999999999 15) else .undef)],bx_,rs_⟩
abbrev E3(F_w0:FuncId)(caps_w0:N D)(a0:Xc)(x8:N X0)(v9:P)(v10:X4)(v11:N (N X0))(v12 v13:P)(v14:Q)(v15:N X0)(v16 v17:N P)(x19:X0):St:=(A5 a0 x8 v9 x19 (vc (.undef)) (vc (.undef)) T T T T T T T T T T T T T T T T T T T T [(99999999999,(dm v10.row++ [aL (W (rL X0.row) v11),.dat (.clo F_w0 caps_w0),.own 90000,.own 90001,.own 90002,aI v12,aI v13,aB v14])),(5,(dm x19.row))] [(90000,4,W X0.row (v15++([x19]:N X0))),(90001,1,W rI (v16++([v9]:N P))),(90002,1,W rI v17),(5504,4,W X0.row ([x19]:N X0)),(5952,1,W rI ([v9]:N P))])
theorem F2v(F_w0:FuncId)(caps_w0:N D)(a0:Xc)(x8:N X0)(v9:P)(v10:X4)(v11:N (N X0))(v12 v13:P)(v14:Q)(v15:N X0)(v16 v17:N P)(x19:X0)(h22:(C9 v15.length ([x19]:N X0).length 48)=T)(h23:(C9 v16.length ([v9]:N P).length 8)=T):∀(f:U) (b19:Q),E2 X F9 (E3 F_w0 caps_w0 a0 x8 v9 v10 v11 v12 v13 v14 v15 v16 v17 x19) f [T,T,T,T,T,T,T,T,T,T,T,T,T,T,T,T,T,T,T,b19,T,T] (A5 a0 x8 v9 x19 (vc (.undef)) (vc (.undef)) T T T T T T T T T T T T T T T T T T b19 T [(99999999999,(dm v10.row++ [aL (W (rL X0.row) v11),.dat (.clo F_w0 caps_w0),.own 90000,.own 90001,.own 90002,aI v12,aI v13,aB v14])),(5,(dm x19.row))] [(90000,4,W X0.row (v15++([x19]:N X0))),(90001,1,W rI (v16++([v9]:N P))),(90002,1,W rI v17),(5504,4,W X0.row ([x19]:N X0)),(5952,1,W rI ([v9]:N P))]):=by
 intro f
 induction f with
 | zero=>
  intro b19 h
  obtain rfl:b19=T:=Z.1 h b19 (by simp)
  rfl
 | succ f ih=>
  intro b19
  refine B2 ⟨?_,?_,?_,?_,?_,?_,?_,?_,?_,?_,?_,?_,?_,?_,?_,?_,?_,?_,?_,?_,?_,?_,⟨⟩⟩<;>try first | (intro h; cases h; done) | (intro h0 hw; obtain rfl:=hz h0 rfl; refine np ?_; simp only[A5,cdt,cdf,A1,A,B,C,E,F,J]; exact ih _)
theorem F0j(F_w0:FuncId)(caps_w0:N D)(a0:Xc)(x8:N X0)(v9:P)(v10:X4)(v11:N (N X0))(v12 v13:P)(v14:Q)(v15:N X0)(v16 v17:N P)(x19:X0)(h22:(C9 v15.length ([x19]:N X0).length 48)=T)(h23:(C9 v16.length ([v9]:N P).length 8)=T):∀(f:U) (b1 b9:Q) (b10 b11:Q) (b16 b19 b20:Q),E2 X F9 (E3 F_w0 caps_w0 a0 x8 v9 v10 v11 v12 v13 v14 v15 v16 v17 x19) f [T,b1,T,T,T,T,T,T,T,b9,b10,b11,T,T,T,T,b16,T,T,b19,b20,G] (A5 a0 x8 v9 x19 (vc (.undef)) (vc (.undef)) T b1 T T T T T T T b9 b10 b11 T T T T b16 T b19 b20 [(99999999999,(dm v10.row++ [aL (W (rL X0.row) v11),.dat (.clo F_w0 caps_w0),.own 90000,.undef,.own 90002,aI v12,aI v13,aB v14])),(5,(dm x19.row))] [(90000,4,W X0.row (v15++([x19]:N X0))),(90001,1,W rI (v16++([v9]:N P))),(90002,1,W rI v17),(5504,4,W X0.row ([x19]:N X0)),(5952,1,W rI ([v9]:N P))]):=by
 intro f
 induction f with
 | zero=>intro b1 b9 b10 b11 b16 b19 b20 h; simp at h
 | succ f ih=>
  intro b1 b9 b10 b11 b16 b19 b20
  refine B2 ⟨?_,?_,?_,?_,?_,?_,?_,?_,?_,?_,?_,?_,?_,?_,?_,?_,?_,?_,?_,?_,?_,?_,⟨⟩⟩<;>try first | (intro h; cases h; done) | (intro h0 hw; obtain rfl:=hz h0 rfl; (try obtain rfl:=hq hw 1 rfl rfl); (try obtain rfl:=hq hw 9 rfl rfl); (try obtain rfl:=hq hw 10 rfl rfl); (try obtain rfl:=hq hw 11 rfl rfl); (try obtain rfl:=hq hw 16 rfl rfl); (try obtain rfl:=hq hw 19 rfl rfl); refine np ?_; simp only[A5,cdt,cdf,A1,A,B,C,E,F,J]; exact ih _ _ _ _ _ _ _)
  ·intro h0 hw
   obtain rfl:=hq hw 1 rfl rfl
   obtain rfl:=hq hw 9 rfl rfl
   obtain rfl:=hq hw 10 rfl rfl
   obtain rfl:=hq hw 11 rfl rfl
   obtain rfl:=hq hw 16 rfl rfl
   obtain rfl:=hq hw 20 rfl rfl
   refine np ?_
   try simp only[A5,cdt,cdf,A1,A,B,C,E,F,J]
   exact F2v F_w0 caps_w0 a0 x8 v9 v10 v11 v12 v13 v14 v15 v16 v17 x19 h22 h23 _ b19
theorem E8o(F_w0:FuncId)(caps_w0:N D)(a0:Xc)(x8:N X0)(v9:P)(v10:X4)(v11:N (N X0))(v12 v13:P)(v14:Q)(v15:N X0)(v16 v17:N P)(x19:X0)(h22:(C9 v15.length ([x19]:N X0).length 48)=T)(h23:(C9 v16.length ([v9]:N P).length 8)=T):∀(f:U) (b0 b1:Q) (b2 b3:Q) (b4 b9:Q) (b10 b11:Q) (b16 b17:Q),E2 X F9 (E3 F_w0 caps_w0 a0 x8 v9 v10 v11 v12 v13 v14 v15 v16 v17 x19) f [b0,b1,b2,b3,b4,T,T,T,T,b9,b10,b11,T,T,T,T,b16,b17,G,G,G,G] (A5 a0 x8 v9 x19 (vc (.undef)) (vc (.undef)) b0 b1 b2 b3 b4 T T T T b9 b10 b11 T T T T b16 b17 G G [(99999999999,(dm v10.row++ [aL (W (rL X0.row) v11),.dat (.clo F_w0 caps_w0),.undef,.undef,.own 90002,aI v12,aI v13,aB v14])),(5,(dm x19.row))] [(90000,4,W X0.row (v15++([x19]:N X0))),(90001,1,W rI (v16++([v9]:N P))),(90002,1,W rI v17),(5504,4,W X0.row ([x19]:N X0)),(5952,1,W rI ([v9]:N P))]):=by
 intro f
 induction f with
 | zero=>intro b0 b1 b2 b3 b4 b9 b10 b11 b16 b17 h; simp at h
 | succ f ih=>
  intro b0 b1 b2 b3 b4 b9 b10 b11 b16 b17
  refine B2 ⟨?_,?_,?_,?_,?_,?_,?_,?_,?_,?_,?_,?_,?_,?_,?_,?_,?_,?_,?_,?_,?_,?_,⟨⟩⟩<;>try first | (intro h; cases h; done) | (intro _ hw; simp at hw; done) | (intro h0 hw; obtain rfl:=hz h0 rfl; (try obtain rfl:=hq hw 0 rfl rfl); (try obtain rfl:=hq hw 2 rfl rfl); (try obtain rfl:=hq hw 3 rfl rfl); (try obtain rfl:=hq hw 4 rfl rfl); (try obtain rfl:=hq hw 9 rfl rfl); (try obtain rfl:=hq hw 10 rfl rfl); (try obtain rfl:=hq hw 16 rfl rfl); refine np ?_; simp only[A5,cdt,cdf,A1,A,B,C,E,F,J]; exact ih _ _ _ _ _ _ _ _ _ _)
  ·intro h0 hw
   obtain rfl:=hq hw 0 rfl rfl
   obtain rfl:=hq hw 2 rfl rfl
   obtain rfl:=hq hw 3 rfl rfl
   obtain rfl:=hq hw 4 rfl rfl
   obtain rfl:=hq hw 17 rfl rfl
   refine np ?_
   try simp only[A5,cdt,cdf,A1,A,B,C,E,F,J]
   exact F0j F_w0 caps_w0 a0 x8 v9 v10 v11 v12 v13 v14 v15 v16 v17 x19 h22 h23 _ b1 b9 b10 b11 b16 G G
theorem D7w(F_w0:FuncId)(caps_w0:N D)(a0:Xc)(x8:N X0)(v9:P)(v10:X4)(v11:N (N X0))(v12 v13:P)(v14:Q)(v15:N X0)(v16 v17:N P)(x19:X0)(h22:(C9 v15.length ([x19]:N X0).length 48)=T)(h23:(C9 v16.length ([v9]:N P).length 8)=T):∀(f:U) (b0 b1:Q) (b2 b3:Q) (b4 b9:Q) (b10 b11 b12:Q),E2 X F9 (E3 F_w0 caps_w0 a0 x8 v9 v10 v11 v12 v13 v14 v15 v16 v17 x19) f [b0,b1,b2,b3,b4,T,T,T,T,b9,b10,b11,b12,T,T,G,G,G,G,G,G,G] (A5 a0 x8 v9 x19 (vc (.undef)) (vc (.own 90001)) b0 b1 b2 b3 b4 T T T T b9 b10 b11 b12 T T G G G G G [(99999999999,(dm v10.row++ [aL (W (rL X0.row) v11),.dat (.clo F_w0 caps_w0),.undef,.own 90001,.own 90002,aI v12,aI v13,aB v14])),(5,(dm x19.row))] [(90000,4,W X0.row (v15++([x19]:N X0))),(90001,1,W rI v16),(90002,1,W rI v17),(5504,4,W X0.row ([x19]:N X0)),(5952,1,W rI ([v9]:N P))]):=by
 intro f
 induction f with
 | zero=>intro b0 b1 b2 b3 b4 b9 b10 b11 b12 h; simp at h
 | succ f ih=>
  intro b0 b1 b2 b3 b4 b9 b10 b11 b12
  refine B2 ⟨?_,?_,?_,?_,?_,?_,?_,?_,?_,?_,?_,?_,?_,?_,?_,?_,?_,?_,?_,?_,?_,?_,⟨⟩⟩<;>try first | (intro h; cases h; done) | (intro _ hw; simp at hw; done) | (intro h0 hw; obtain rfl:=hz h0 rfl; (try obtain rfl:=hq hw 2 rfl rfl); (try obtain rfl:=hq hw 3 rfl rfl); (try obtain rfl:=hq hw 9 rfl rfl); (try obtain rfl:=hq hw 10 rfl rfl); (try obtain rfl:=hq hw 11 rfl rfl); refine np ?_; simp only[A5,cdt,cdf,A1,A,B,C,E,F,J]; exact ih _ _ _ _ _ _ _ _ _)
  ·intro h0 hw
   obtain rfl:=hq hw 12 rfl rfl
   refine np ?_
   try simp only[h23,A5,cdt,cdf,A1,A,B,C,E,F,J]
   exact E8o F_w0 caps_w0 a0 x8 v9 v10 v11 v12 v13 v14 v15 v16 v17 x19 h22 h23 _ b0 b1 b2 b3 b4 b9 b10 b11 G G
theorem E9n(F_w0:FuncId)(caps_w0:N D)(a0:Xc)(x8:N X0)(v9:P)(v10:X4)(v11:N (N X0))(v12 v13:P)(v14:Q)(v15:N X0)(v16 v17:N P)(x19:X0)(h22:(C9 v15.length ([x19]:N X0).length 48)=T)(h23:(C9 v16.length ([v9]:N P).length 8)=T):∀(f:U) (b0 b1:Q) (b2 b3:Q) (b4 b9:Q) (b10 b11:Q) (b12 b13:Q),E2 X F9 (E3 F_w0 caps_w0 a0 x8 v9 v10 v11 v12 v13 v14 v15 v16 v17 x19) f [b0,b1,b2,b3,b4,T,T,T,T,b9,b10,b11,b12,b13,G,G,G,G,G,G,G,G] (A5 a0 x8 v9 x19 (vc (.undef)) (vc (.own 90001)) b0 b1 b2 b3 b4 T T T T b9 b10 b11 b12 b13 G G G G G G [(99999999999,(dm v10.row++ [aL (W (rL X0.row) v11),.dat (.clo F_w0 caps_w0),.undef,.own 90001,.own 90002,aI v12,aI v13,aB v14])),(5,(dm x19.row))] [(90000,4,W X0.row (v15++([x19]:N X0))),(90001,1,W rI v16),(90002,1,W rI v17),(5504,4,W X0.row ([x19]:N X0))]):=by
 intro f
 induction f with
 | zero=>intro b0 b1 b2 b3 b4 b9 b10 b11 b12 b13 h; simp at h
 | succ f ih=>
  intro b0 b1 b2 b3 b4 b9 b10 b11 b12 b13
  refine B2 ⟨?_,?_,?_,?_,?_,?_,?_,?_,?_,?_,?_,?_,?_,?_,?_,?_,?_,?_,?_,?_,?_,?_,⟨⟩⟩<;>try first | (intro h; cases h; done) | (intro _ hw; simp at hw; done) | (intro h0 hw; obtain rfl:=hz h0 rfl; (try obtain rfl:=hq hw 2 rfl rfl); (try obtain rfl:=hq hw 3 rfl rfl); (try obtain rfl:=hq hw 9 rfl rfl); (try obtain rfl:=hq hw 10 rfl rfl); (try obtain rfl:=hq hw 11 rfl rfl); refine np ?_; simp only[A5,cdt,cdf,A1,A,B,C,E,F,J]; exact ih _ _ _ _ _ _ _ _ _ _)
  ·intro h0 hw
   obtain rfl:=hq hw 13 rfl rfl
   refine np ?_
   try simp only[A5,cdt,cdf,A1,A,B,C,E,F,J]
   refine D4 (es:=W rI ([v9]:N P)) V (by simp only[St.fresh,zB,zC,P0]; simp[AV.cells,V1.cells,AC.uses]) ?_
   try simp only[A1,A,B,C,E,F,J]
   exact D7w F_w0 caps_w0 a0 x8 v9 v10 v11 v12 v13 v14 v15 v16 v17 x19 h22 h23 _ b0 b1 b2 b3 b4 b9 b10 b11 b12
theorem D7t(F_w0:FuncId)(caps_w0:N D)(a0:Xc)(x8:N X0)(v9:P)(v10:X4)(v11:N (N X0))(v12 v13:P)(v14:Q)(v15:N X0)(v16 v17:N P)(x19:X0)(h22:(C9 v15.length ([x19]:N X0).length 48)=T)(h23:(C9 v16.length ([v9]:N P).length 8)=T):∀(f:U) (b0 b1:Q) (b2 b3:Q) (b4 b5:Q) (b9 b10:Q) (b11 b12:Q),E2 X F9 (E3 F_w0 caps_w0 a0 x8 v9 v10 v11 v12 v13 v14 v15 v16 v17 x19) f [b0,b1,b2,b3,b4,b5,T,T,G,b9,b10,b11,b12,T,T,G,G,G,G,G,G,G] (A5 a0 x8 v9 x19 (vc (.own 90000)) (vc (.own 90001)) b0 b1 b2 b3 b4 b5 T T G b9 b10 b11 b12 T T G G G G G [(99999999999,(dm v10.row++ [aL (W (rL X0.row) v11),.dat (.clo F_w0 caps_w0),.own 90000,.own 90001,.own 90002,aI v12,aI v13,aB v14])),(5,(dm x19.row))] [(90000,4,W X0.row v15),(90001,1,W rI v16),(90002,1,W rI v17),(5504,4,W X0.row ([x19]:N X0)),(5952,1,W rI ([v9]:N P))]):=by
 intro f
 induction f with
 | zero=>intro b0 b1 b2 b3 b4 b5 b9 b10 b11 b12 h; simp at h
 | succ f ih=>
  intro b0 b1 b2 b3 b4 b5 b9 b10 b11 b12
  refine B2 ⟨?_,?_,?_,?_,?_,?_,?_,?_,?_,?_,?_,?_,?_,?_,?_,?_,?_,?_,?_,?_,?_,?_,⟨⟩⟩<;>try first | (intro h; cases h; done) | (intro _ hw; simp at hw; done) | (intro h0 hw; obtain rfl:=hz h0 rfl; (try obtain rfl:=hq hw 2 rfl rfl); (try obtain rfl:=hq hw 3 rfl rfl); (try obtain rfl:=hq hw 4 rfl rfl); (try obtain rfl:=hq hw 9 rfl rfl); (try obtain rfl:=hq hw 10 rfl rfl); (try obtain rfl:=hq hw 11 rfl rfl); refine np ?_; simp only[A5,cdt,cdf,A1,A,B,C,E,F,J]; exact ih _ _ _ _ _ _ _ _ _ _)
  ·intro h0 hw
   obtain rfl:=hq hw 5 rfl rfl
   refine np ?_
   try simp only[h22,A5,cdt,cdf,A1,A,B,C,E,F,J]
   exact D7w F_w0 caps_w0 a0 x8 v9 v10 v11 v12 v13 v14 v15 v16 v17 x19 h22 h23 _ b0 b1 b2 b3 b4 b9 b10 b11 b12
theorem F2o(F_w0:FuncId)(caps_w0:N D)(a0:Xc)(x8:N X0)(v9:P)(v10:X4)(v11:N (N X0))(v12 v13:P)(v14:Q)(v15:N X0)(v16 v17:N P)(x19:X0)(h22:(C9 v15.length ([x19]:N X0).length 48)=T)(h23:(C9 v16.length ([v9]:N P).length 8)=T):∀(f:U) (b0 b1:Q) (b2 b3:Q) (b4 b5:Q) (b9 b10:Q) (b11 b12 b13:Q),E2 X F9 (E3 F_w0 caps_w0 a0 x8 v9 v10 v11 v12 v13 v14 v15 v16 v17 x19) f [b0,b1,b2,b3,b4,b5,T,T,G,b9,b10,b11,b12,b13,G,G,G,G,G,G,G,G] (A5 a0 x8 v9 x19 (vc (.own 90000)) (vc (.own 90001)) b0 b1 b2 b3 b4 b5 T T G b9 b10 b11 b12 b13 G G G G G G [(99999999999,(dm v10.row++ [aL (W (rL X0.row) v11),.dat (.clo F_w0 caps_w0),.own 90000,.own 90001,.own 90002,aI v12,aI v13,aB v14])),(5,(dm x19.row))] [(90000,4,W X0.row v15),(90001,1,W rI v16),(90002,1,W rI v17),(5504,4,W X0.row ([x19]:N X0))]):=by
 intro f
 induction f with
 | zero=>intro b0 b1 b2 b3 b4 b5 b9 b10 b11 b12 b13 h; simp at h
 | succ f ih=>
  intro b0 b1 b2 b3 b4 b5 b9 b10 b11 b12 b13
  refine B2 ⟨?_,?_,?_,?_,?_,?_,?_,?_,?_,?_,?_,?_,?_,?_,?_,?_,?_,?_,?_,?_,?_,?_,⟨⟩⟩<;>try first | (intro h; cases h; done) | (intro _ hw; simp at hw; done) | (intro h0 hw; obtain rfl:=hz h0 rfl; (try obtain rfl:=hq hw 2 rfl rfl); (try obtain rfl:=hq hw 3 rfl rfl); (try obtain rfl:=hq hw 4 rfl rfl); (try obtain rfl:=hq hw 9 rfl rfl); (try obtain rfl:=hq hw 10 rfl rfl); (try obtain rfl:=hq hw 11 rfl rfl); refine np ?_; simp only[A5,cdt,cdf,A1,A,B,C,E,F,J]; exact ih _ _ _ _ _ _ _ _ _ _ _)
  ·intro h0 hw
   obtain rfl:=hq hw 5 rfl rfl
   refine np ?_
   try simp only[h22,A5,cdt,cdf,A1,A,B,C,E,F,J]
   exact E9n F_w0 caps_w0 a0 x8 v9 v10 v11 v12 v13 v14 v15 v16 v17 x19 h22 h23 _ b0 b1 b2 b3 b4 b9 b10 b11 b12 b13
  ·intro h0 hw
   obtain rfl:=hq hw 13 rfl rfl
   refine np ?_
   try simp only[A5,cdt,cdf,A1,A,B,C,E,F,J]
   refine D4 (es:=W rI ([v9]:N P)) V (by simp only[St.fresh,zB,zC,P0]; simp[AV.cells,V1.cells,AC.uses]) ?_
   try simp only[A1,A,B,C,E,F,J]
   exact D7t F_w0 caps_w0 a0 x8 v9 v10 v11 v12 v13 v14 v15 v16 v17 x19 h22 h23 _ b0 b1 b2 b3 b4 b5 b9 b10 b11 b12
theorem F2f(F_w0:FuncId)(caps_w0:N D)(a0:Xc)(x8:N X0)(v9:P)(v10:X4)(v11:N (N X0))(v12 v13:P)(v14:Q)(v15:N X0)(v16 v17:N P)(x19:X0)(h22:(C9 v15.length ([x19]:N X0).length 48)=T)(h23:(C9 v16.length ([v9]:N P).length 8)=T):∀(f:U) (b0 b1:Q) (b2 b3:Q) (b4 b5:Q) (b6 b9:Q) (b10 b11 b12:Q),E2 X F9 (E3 F_w0 caps_w0 a0 x8 v9 v10 v11 v12 v13 v14 v15 v16 v17 x19) f [b0,b1,b2,b3,b4,b5,b6,G,G,b9,b10,b11,b12,T,T,G,G,G,G,G,G,G] (A5 a0 x8 v9 x19 (vc (.own 90000)) (vc (.own 90001)) b0 b1 b2 b3 b4 b5 b6 G G b9 b10 b11 b12 T T G G G G G [(99999999999,(dm v10.row++ [aL (W (rL X0.row) v11),.dat (.clo F_w0 caps_w0),.own 90000,.own 90001,.own 90002,aI v12,aI v13,aB v14])),(5,(dm x19.row))] [(90000,4,W X0.row v15),(90001,1,W rI v16),(90002,1,W rI v17),(5952,1,W rI ([v9]:N P))]):=by
 intro f
 induction f with
 | zero=>intro b0 b1 b2 b3 b4 b5 b6 b9 b10 b11 b12 h; simp at h
 | succ f ih=>
  intro b0 b1 b2 b3 b4 b5 b6 b9 b10 b11 b12
  refine B2 ⟨?_,?_,?_,?_,?_,?_,?_,?_,?_,?_,?_,?_,?_,?_,?_,?_,?_,?_,?_,?_,?_,?_,⟨⟩⟩<;>try first | (intro h; cases h; done) | (intro _ hw; simp at hw; done) | (intro h0 hw; obtain rfl:=hz h0 rfl; (try obtain rfl:=hq hw 2 rfl rfl); (try obtain rfl:=hq hw 3 rfl rfl); (try obtain rfl:=hq hw 4 rfl rfl); (try obtain rfl:=hq hw 9 rfl rfl); (try obtain rfl:=hq hw 10 rfl rfl); (try obtain rfl:=hq hw 11 rfl rfl); refine np ?_; simp only[A5,cdt,cdf,A1,A,B,C,E,F,J]; exact ih _ _ _ _ _ _ _ _ _ _ _)
  ·intro h0 hw
   obtain rfl:=hq hw 6 rfl rfl
   refine⟨[],[(L,.keep [0,3,4,5,61,62,63,79,80,81,82,83,84,85,86,87,88,89,90,91,92,93,94,95,96,97,98] [99999999999,5] [90000,90001,90002,5504,5952])],V,V,?_⟩
   try simp only[A5,cdt,cdf,zA,I,A1,A,B,C,E,F,J]
   refine D4 (es:=W X0.row ([x19]:N X0)) V (by simp only[St.fresh,zB,zC,P0]; simp[AV.cells,V1.cells,AC.uses]) ?_
   try simp only[A1,A,B,C,E,F,J]
   exact D7t F_w0 caps_w0 a0 x8 v9 v10 v11 v12 v13 v14 v15 v16 v17 x19 h22 h23 _ b0 b1 b2 b3 b4 b5 b9 b10 b11 b12
theorem F0q(F_w0:FuncId)(caps_w0:N D)(a0:Xc)(x8:N X0)(v9:P)(v10:X4)(v11:N (N X0))(v12 v13:P)(v14:Q)(v15:N X0)(v16 v17:N P)(x19:X0)(h22:(C9 v15.length ([x19]:N X0).length 48)=T)(h23:(C9 v16.length ([v9]:N P).length 8)=T):∀(f:U) (b0 b1:Q) (b2 b3:Q) (b4 b5:Q) (b6 b9:Q) (b10 b11:Q) (b12 b13:Q),E2 X F9 (E3 F_w0 caps_w0 a0 x8 v9 v10 v11 v12 v13 v14 v15 v16 v17 x19) f [b0,b1,b2,b3,b4,b5,b6,G,G,b9,b10,b11,b12,b13,G,G,G,G,G,G,G,G] (A5 a0 x8 v9 x19 (vc (.own 90000)) (vc (.own 90001)) b0 b1 b2 b3 b4 b5 b6 G G b9 b10 b11 b12 b13 G G G G G G [(99999999999,(dm v10.row++ [aL (W (rL X0.row) v11),.dat (.clo F_w0 caps_w0),.own 90000,.own 90001,.own 90002,aI v12,aI v13,aB v14])),(5,(dm x19.row))] [(90000,4,W X0.row v15),(90001,1,W rI v16),(90002,1,W rI v17)]):=by
 intro f
 induction f with
 | zero=>intro b0 b1 b2 b3 b4 b5 b6 b9 b10 b11 b12 b13 h; simp at h
 | succ f ih=>
  intro b0 b1 b2 b3 b4 b5 b6 b9 b10 b11 b12 b13
  refine B2 ⟨?_,?_,?_,?_,?_,?_,?_,?_,?_,?_,?_,?_,?_,?_,?_,?_,?_,?_,?_,?_,?_,?_,⟨⟩⟩<;>try first | (intro _ hw; simp at hw; done) | (intro h0 hw; obtain rfl:=hz h0 rfl; (try obtain rfl:=hq hw 2 rfl rfl); (try obtain rfl:=hq hw 3 rfl rfl); (try obtain rfl:=hq hw 4 rfl rfl); (try obtain rfl:=hq hw 9 rfl rfl); (try obtain rfl:=hq hw 10 rfl rfl); (try obtain rfl:=hq hw 11 rfl rfl); refine np ?_; simp only[A5,cdt,cdf,A1,A,B,C,E,F,J]; exact ih _ _ _ _ _ _ _ _ _ _ _ _)
  ·intro h0 hw
   obtain rfl:=hq hw 6 rfl rfl
   refine np ?_
   try simp only[A5,cdt,cdf,A1,A,B,C,E,F,J]
   refine D4 (es:=W X0.row ([x19]:N X0)) V (by simp only[St.fresh,zB,zC,P0]; simp[AV.cells,V1.cells,AC.uses]) ?_
   try simp only[A1,A,B,C,E,F,J]
   exact F2o F_w0 caps_w0 a0 x8 v9 v10 v11 v12 v13 v14 v15 v16 v17 x19 h22 h23 _ b0 b1 b2 b3 b4 b5 b9 b10 b11 b12 b13
  ·intro h0 hw
   obtain rfl:=hq hw 13 rfl rfl
   refine np ?_
   try simp only[A5,cdt,cdf,A1,A,B,C,E,F,J]
   refine D4 (es:=W rI ([v9]:N P)) V (by simp only[St.fresh,zB,zC,P0]; simp[AV.cells,V1.cells,AC.uses]) ?_
   try simp only[A1,A,B,C,E,F,J]
   exact F2f F_w0 caps_w0 a0 x8 v9 v10 v11 v12 v13 v14 v15 v16 v17 x19 h22 h23 _ b0 b1 b2 b3 b4 b5 b6 b9 b10 b11 b12
abbrev A7(a0:Xc)(x8:N X0)(v9:P)(wo5_ wo11_:AV)(c0_ c1_:Q)(c2_ c3_:Q)(c4_ c5_:Q)(c6_ c7_:Q)(c8_ c9_:Q)(c10_ c11_:Q)(c12_ c13_:Q)(c14_ c15_:Q)(c17_ c18_:Q)(bx_:N (U × N AC))(rs_:Rows):St:=⟨[(0,vc (.pb 99999999999 0)),(3,vc (aI (a0.plan.length:P))),(61,vc (aL (W X0.row x8))),(62,vc (aI (x8.length:P))),(63,vc (aI v9)),(101,bif c0_ then vc (.pb 99999999999 0) else .undef),(102,bif c1_ then vc (.pb 99999999999 0) else .undef),(103,bif c2_ then vc (.pb 99999999999 0) else .undef),(104,bif c3_ then vc (.pb 99999999999 0) else .undef),(105,bif c4_ then vc (.pb 99999999999 14) else .undef),(106,bif c5_ then wo5_ else .undef),(107,bif c6_ then vc (aI (a0.plan.length:P)) else .undef),(108,bif c7_ then vc (.own 90000) else .undef),(109,bif c8_ then vc (.pb 99999999999 0) else .undef),(110,bif c9_ then vc (.pb 99999999999 0) else .undef),(111,bif c10_ then vc (.pb 99999999999 15) else .undef),(112,bif c11_ then wo11_ else .undef),(113,bif c12_ then vc (aI (a0.plan.length:P)) else .undef),(114,bif c13_ then vc (.own 90001) else .undef),(115,bif c14_ then vc (.pb 99999999999 0) else .undef),(116,bif c15_ then vc (.pb 99999999999 14) else .undef),(117,bif c17_ then vc (.pb 99999999999 0) else .undef),(118,bif c18_ then vc (.pb 99999999999 15) else .undef)],bx_,rs_⟩
abbrev G5(F_w0:FuncId)(caps_w0:N D)(a0:Xc)(x8:N X0)(v9:P)(r24:Xc)(p25 p26:U × U):St:=(A7 a0 x8 v9 (vc (.undef)) (vc (.undef)) T T T T T T T T T T T T T T T T T T [(99999999999,(dm r24.h.row++ [aL (W (rL X0.row) r24.choices),.dat (.clo F_w0 caps_w0),.own 90000,.own 90001,.own 90002,aI r24.least.i0,aI r24.least.i1,aB r24.found]))] [(90000,4,W X0.row (r24.plan.take p25.2)),(90001,1,W rI (r24.choice.take p26.2)),(90002,1,W rI r24.best)])
theorem E66(F_w0:FuncId)(caps_w0:N D)(a0:Xc)(x8:N X0)(v9:P)(r24:Xc)(p25 p26:U × U)(h25:bnd (r24.plan.length:P) (a0.plan.length:P) 0 r24.plan.length=H p25)(h26:bnd (r24.choice.length:P) (a0.plan.length:P) 0 r24.choice.length=H p26):∀(f:U) (b17:Q),E2 X I6 (G5 F_w0 caps_w0 a0 x8 v9 r24 p25 p26) f [T,T,T,T,T,T,T,T,T,T,T,T,T,T,T,T,T,b17,T,T] (A7 a0 x8 v9 (vc (.undef)) (vc (.undef)) T T T T T T T T T T T T T T T T b17 T [(99999999999,(dm r24.h.row++ [aL (W (rL X0.row) r24.choices),.dat (.clo F_w0 caps_w0),.own 90000,.own 90001,.own 90002,aI r24.least.i0,aI r24.least.i1,aB r24.found]))] [(90000,4,W X0.row (r24.plan.take p25.2)),(90001,1,W rI (r24.choice.take p26.2)),(90002,1,W rI r24.best)]):=by
 intro f
 induction f with
 | zero=>
  intro b17 h
  obtain rfl:b17=T:=Z.1 h b17 (by simp)
  rfl
 | succ f ih=>
  intro b17
  refine B2 ⟨?_,?_,?_,?_,?_,?_,?_,?_,?_,?_,?_,?_,?_,?_,?_,?_,?_,?_,?_,?_,⟨⟩⟩<;>try first | (intro h; cases h; done) | (intro h0 hw; obtain rfl:=hz h0 rfl; refine np ?_; simp only[A7,cdt,cdf,A1,A,B,C,E,F,J]; exact ih _)
theorem D8d(F_w0:FuncId)(caps_w0:N D)(a0:Xc)(x8:N X0)(v9:P)(r24:Xc)(p25 p26:U × U)(h25:bnd (r24.plan.length:P) (a0.plan.length:P) 0 r24.plan.length=H p25)(h26:bnd (r24.choice.length:P) (a0.plan.length:P) 0 r24.choice.length=H p26):∀(f:U) (b1 b8:Q) (b9 b10:Q) (b14 b17 b18:Q),E2 X I6 (G5 F_w0 caps_w0 a0 x8 v9 r24 p25 p26) f [T,b1,T,T,T,T,T,T,b8,b9,b10,T,T,T,b14,T,T,b17,b18,G] (A7 a0 x8 v9 (vc (.undef)) (vc (.undef)) T b1 T T T T T T b8 b9 b10 T T T b14 T b17 b18 [(99999999999,(dm r24.h.row++ [aL (W (rL X0.row) r24.choices),.dat (.clo F_w0 caps_w0),.own 90000,.undef,.own 90002,aI r24.least.i0,aI r24.least.i1,aB r24.found]))] [(90000,4,W X0.row (r24.plan.take p25.2)),(90001,1,W rI (r24.choice.take p26.2)),(90002,1,W rI r24.best)]):=by
 intro f
 induction f with
 | zero=>intro b1 b8 b9 b10 b14 b17 b18 h; simp at h
 | succ f ih=>
  intro b1 b8 b9 b10 b14 b17 b18
  refine B2 ⟨?_,?_,?_,?_,?_,?_,?_,?_,?_,?_,?_,?_,?_,?_,?_,?_,?_,?_,?_,?_,⟨⟩⟩<;>try first | (intro h; cases h; done) | (intro h0 hw; obtain rfl:=hz h0 rfl; (try obtain rfl:=hq hw 1 rfl rfl); (try obtain rfl:=hq hw 8 rfl rfl); (try obtain rfl:=hq hw 9 rfl rfl); (try obtain rfl:=hq hw 10 rfl rfl); (try obtain rfl:=hq hw 14 rfl rfl); (try obtain rfl:=hq hw 17 rfl rfl); refine np ?_; simp only[A7,cdt,cdf,A1,A,B,C,E,F,J]; exact ih _ _ _ _ _ _ _)
  ·intro h0 hw
   obtain rfl:=hq hw 1 rfl rfl
   obtain rfl:=hq hw 8 rfl rfl
   obtain rfl:=hq hw 9 rfl rfl
   obtain rfl:=hq hw 10 rfl rfl
   obtain rfl:=hq hw 14 rfl rfl
   obtain rfl:=hq hw 18 rfl rfl
   refine np ?_
   try simp only[A7,cdt,cdf,A1,A,B,C,E,F,J]
   exact E66 F_w0 caps_w0 a0 x8 v9 r24 p25 p26 h25 h26 _ b17
theorem D7n(F_w0:FuncId)(caps_w0:N D)(a0:Xc)(x8:N X0)(v9:P)(r24:Xc)(p25 p26:U × U)(h25:bnd (r24.plan.length:P) (a0.plan.length:P) 0 r24.plan.length=H p25)(h26:bnd (r24.choice.length:P) (a0.plan.length:P) 0 r24.choice.length=H p26):∀(f:U) (b0 b1:Q) (b2 b3:Q) (b4 b8:Q) (b9 b10:Q) (b14 b15:Q),E2 X I6 (G5 F_w0 caps_w0 a0 x8 v9 r24 p25 p26) f [b0,b1,b2,b3,b4,T,T,T,b8,b9,b10,T,T,T,b14,b15,G,G,G,G] (A7 a0 x8 v9 (vc (.undef)) (vc (.undef)) b0 b1 b2 b3 b4 T T T b8 b9 b10 T T T b14 b15 G G [(99999999999,(dm r24.h.row++ [aL (W (rL X0.row) r24.choices),.dat (.clo F_w0 caps_w0),.undef,.undef,.own 90002,aI r24.least.i0,aI r24.least.i1,aB r24.found]))] [(90000,4,W X0.row (r24.plan.take p25.2)),(90001,1,W rI (r24.choice.take p26.2)),(90002,1,W rI r24.best)]):=by
 intro f
 induction f with
 | zero=>intro b0 b1 b2 b3 b4 b8 b9 b10 b14 b15 h; simp at h
 | succ f ih=>
  intro b0 b1 b2 b3 b4 b8 b9 b10 b14 b15
  refine B2 ⟨?_,?_,?_,?_,?_,?_,?_,?_,?_,?_,?_,?_,?_,?_,?_,?_,?_,?_,?_,?_,⟨⟩⟩<;>try first | (intro h; cases h; done) | (intro _ hw; simp at hw; done) | (intro h0 hw; obtain rfl:=hz h0 rfl; (try obtain rfl:=hq hw 0 rfl rfl); (try obtain rfl:=hq hw 2 rfl rfl); (try obtain rfl:=hq hw 3 rfl rfl); (try obtain rfl:=hq hw 4 rfl rfl); (try obtain rfl:=hq hw 8 rfl rfl); (try obtain rfl:=hq hw 9 rfl rfl); (try obtain rfl:=hq hw 14 rfl rfl); refine np ?_; simp only[A7,cdt,cdf,A1,A,B,C,E,F,J]; exact ih _ _ _ _ _ _ _ _ _ _)
  ·intro h0 hw
   obtain rfl:=hq hw 0 rfl rfl
   obtain rfl:=hq hw 2 rfl rfl
   obtain rfl:=hq hw 3 rfl rfl
   obtain rfl:=hq hw 4 rfl rfl
   obtain rfl:=hq hw 15 rfl rfl
   refine np ?_
   try simp only[A7,cdt,cdf,A1,A,B,C,E,F,J]
   exact D8d F_w0 caps_w0 a0 x8 v9 r24 p25 p26 h25 h26 _ b1 b8 b9 b10 b14 G G
theorem E84(F_w0:FuncId)(caps_w0:N D)(a0:Xc)(x8:N X0)(v9:P)(r24:Xc)(p25 p26:U × U)(h25:bnd (r24.plan.length:P) (a0.plan.length:P) 0 r24.plan.length=H p25)(h26:bnd (r24.choice.length:P) (a0.plan.length:P) 0 r24.choice.length=H p26):∀(f:U) (b1 b8:Q) (b9 b10:Q) (b12 b14:Q),E2 X I6 (G5 F_w0 caps_w0 a0 x8 v9 r24 p25 p26) f [T,b1,T,T,T,T,T,T,b8,b9,b10,T,b12,G,b14,T,T,G,G,G] (A7 a0 x8 v9 (vc (.undef)) (vc (.own 90001)) T b1 T T T T T T b8 b9 b10 T b12 G b14 T G G [(99999999999,(dm r24.h.row++ [aL (W (rL X0.row) r24.choices),.dat (.clo F_w0 caps_w0),.own 90000,.own 90001,.own 90002,aI r24.least.i0,aI r24.least.i1,aB r24.found]))] [(90000,4,W X0.row (r24.plan.take p25.2)),(90001,1,W rI r24.choice),(90002,1,W rI r24.best)]):=by
 intro f
 induction f with
 | zero=>intro b1 b8 b9 b10 b12 b14 h; simp at h
 | succ f ih=>
  intro b1 b8 b9 b10 b12 b14
  refine B2 ⟨?_,?_,?_,?_,?_,?_,?_,?_,?_,?_,?_,?_,?_,?_,?_,?_,?_,?_,?_,?_,⟨⟩⟩<;>try first | (intro h; cases h; done) | (intro _ hw; simp at hw; done) | (intro h0 hw; obtain rfl:=hz h0 rfl; (try obtain rfl:=hq hw 8 rfl rfl); (try obtain rfl:=hq hw 9 rfl rfl); refine np ?_; simp only[A7,cdt,cdf,A1,A,B,C,E,F,J]; exact ih _ _ _ _ _ _)
  ·intro h0 hw
   obtain rfl:=hq hw 12 rfl rfl
   refine⟨[],[(L,.cut 114)],V,V,?_⟩
   try simp only[A7,cdt,cdf,zA,I,A1,A,B,C,E,F,J]
   refine A6m V V h26 (by rfl) ?_
   try simp only[A1,A,B,C,E,F,J]
   exact D8d F_w0 caps_w0 a0 x8 v9 r24 p25 p26 h25 h26 _ b1 b8 b9 b10 b14 G G
theorem F0u(F_w0:FuncId)(caps_w0:N D)(a0:Xc)(x8:N X0)(v9:P)(r24:Xc)(p25 p26:U × U)(h25:bnd (r24.plan.length:P) (a0.plan.length:P) 0 r24.plan.length=H p25)(h26:bnd (r24.choice.length:P) (a0.plan.length:P) 0 r24.choice.length=H p26):∀(f:U) (b0 b1:Q) (b2 b3:Q) (b4 b8:Q) (b9 b10:Q) (b11 b12:Q) (b14 b15:Q),E2 X I6 (G5 F_w0 caps_w0 a0 x8 v9 r24 p25 p26) f [b0,b1,b2,b3,b4,T,T,T,b8,b9,b10,b11,b12,G,b14,b15,G,G,G,G] (A7 a0 x8 v9 (vc (.undef)) (vc (.own 90001)) b0 b1 b2 b3 b4 T T T b8 b9 b10 b11 b12 G b14 b15 G G [(99999999999,(dm r24.h.row++ [aL (W (rL X0.row) r24.choices),.dat (.clo F_w0 caps_w0),.undef,.own 90001,.own 90002,aI r24.least.i0,aI r24.least.i1,aB r24.found]))] [(90000,4,W X0.row (r24.plan.take p25.2)),(90001,1,W rI r24.choice),(90002,1,W rI r24.best)]):=by
 intro f
 induction f with
 | zero=>intro b0 b1 b2 b3 b4 b8 b9 b10 b11 b12 b14 b15 h; simp at h
 | succ f ih=>
  intro b0 b1 b2 b3 b4 b8 b9 b10 b11 b12 b14 b15
  refine B2 ⟨?_,?_,?_,?_,?_,?_,?_,?_,?_,?_,?_,?_,?_,?_,?_,?_,?_,?_,?_,?_,⟨⟩⟩<;>try first | (intro h; cases h; done) | (intro _ hw; simp at hw; done) | (intro h0 hw; obtain rfl:=hz h0 rfl; (try obtain rfl:=hq hw 0 rfl rfl); (try obtain rfl:=hq hw 2 rfl rfl); (try obtain rfl:=hq hw 3 rfl rfl); (try obtain rfl:=hq hw 4 rfl rfl); (try obtain rfl:=hq hw 8 rfl rfl); (try obtain rfl:=hq hw 9 rfl rfl); (try obtain rfl:=hq hw 10 rfl rfl); (try obtain rfl:=hq hw 11 rfl rfl); (try obtain rfl:=hq hw 14 rfl rfl); refine np ?_; simp only[A7,cdt,cdf,A1,A,B,C,E,F,J]; exact ih _ _ _ _ _ _ _ _ _ _ _ _)
  ·intro h0 hw
   obtain rfl:=hq hw 11 rfl rfl
   obtain rfl:=hq hw 12 rfl rfl
   refine⟨[],[(L,.cut 114)],V,V,?_⟩
   try simp only[A7,cdt,cdf,zA,I,A1,A,B,C,E,F,J]
   refine A6m V V h26 (by rfl) ?_
   try simp only[A1,A,B,C,E,F,J]
   exact D7n F_w0 caps_w0 a0 x8 v9 r24 p25 p26 h25 h26 _ b0 b1 b2 b3 b4 b8 b9 b10 b14 b15
  ·intro h0 hw
   obtain rfl:=hq hw 0 rfl rfl
   obtain rfl:=hq hw 2 rfl rfl
   obtain rfl:=hq hw 3 rfl rfl
   obtain rfl:=hq hw 4 rfl rfl
   obtain rfl:=hq hw 11 rfl rfl
   obtain rfl:=hq hw 15 rfl rfl
   refine np ?_
   try simp only[A7,cdt,cdf,A1,A,B,C,E,F,J]
   exact E84 F_w0 caps_w0 a0 x8 v9 r24 p25 p26 h25 h26 _ b1 b8 b9 b10 b12 b14
theorem E9y(F_w0:FuncId)(caps_w0:N D)(a0:Xc)(x8:N X0)(v9:P)(r24:Xc)(p25 p26:U × U)(h25:bnd (r24.plan.length:P) (a0.plan.length:P) 0 r24.plan.length=H p25)(h26:bnd (r24.choice.length:P) (a0.plan.length:P) 0 r24.choice.length=H p26):∀(f:U) (b0 b1:Q) (b2 b3:Q) (b4 b5:Q) (b6 b8:Q) (b9 b10:Q),E2 X I6 (G5 F_w0 caps_w0 a0 x8 v9 r24 p25 p26) f [b0,b1,b2,b3,b4,b5,b6,G,b8,b9,b10,T,T,T,G,G,G,G,G,G] (A7 a0 x8 v9 (vc (.own 90000)) (vc (.undef)) b0 b1 b2 b3 b4 b5 b6 G b8 b9 b10 T T T G G G G [(99999999999,(dm r24.h.row++ [aL (W (rL X0.row) r24.choices),.dat (.clo F_w0 caps_w0),.own 90000,.undef,.own 90002,aI r24.least.i0,aI r24.least.i1,aB r24.found]))] [(90000,4,W X0.row r24.plan),(90001,1,W rI (r24.choice.take p26.2)),(90002,1,W rI r24.best)]):=by
 intro f
 induction f with
 | zero=>intro b0 b1 b2 b3 b4 b5 b6 b8 b9 b10 h; simp at h
 | succ f ih=>
  intro b0 b1 b2 b3 b4 b5 b6 b8 b9 b10
  refine B2 ⟨?_,?_,?_,?_,?_,?_,?_,?_,?_,?_,?_,?_,?_,?_,?_,?_,?_,?_,?_,?_,⟨⟩⟩<;>try first | (intro h; cases h; done) | (intro _ hw; simp at hw; done) | (intro h0 hw; obtain rfl:=hz h0 rfl; (try obtain rfl:=hq hw 2 rfl rfl); (try obtain rfl:=hq hw 3 rfl rfl); (try obtain rfl:=hq hw 4 rfl rfl); (try obtain rfl:=hq hw 8 rfl rfl); (try obtain rfl:=hq hw 9 rfl rfl); refine np ?_; simp only[A7,cdt,cdf,A1,A,B,C,E,F,J]; exact ih _ _ _ _ _ _ _ _ _ _)
  ·intro h0 hw
   obtain rfl:=hq hw 5 rfl rfl
   obtain rfl:=hq hw 6 rfl rfl
   refine⟨[],[(L,.cut 108)],V,V,?_⟩
   try simp only[A7,cdt,cdf,zA,I,A1,A,B,C,E,F,J]
   refine A6m V V h25 (by rfl) ?_
   try simp only[A1,A,B,C,E,F,J]
   exact D7n F_w0 caps_w0 a0 x8 v9 r24 p25 p26 h25 h26 _ b0 b1 b2 b3 b4 b8 b9 b10 G G
theorem E8e(F_w0:FuncId)(caps_w0:N D)(a0:Xc)(x8:N X0)(v9:P)(r24:Xc)(p25 p26:U × U)(h25:bnd (r24.plan.length:P) (a0.plan.length:P) 0 r24.plan.length=H p25)(h26:bnd (r24.choice.length:P) (a0.plan.length:P) 0 r24.choice.length=H p26):∀(f:U) (b0 b1:Q) (b2 b3:Q) (b4 b5:Q) (b6 b8:Q) (b9 b10:Q) (b11 b12:Q),E2 X I6 (G5 F_w0 caps_w0 a0 x8 v9 r24 p25 p26) f [b0,b1,b2,b3,b4,b5,b6,G,b8,b9,b10,b11,b12,G,G,G,G,G,G,G] (A7 a0 x8 v9 (vc (.own 90000)) (vc (.own 90001)) b0 b1 b2 b3 b4 b5 b6 G b8 b9 b10 b11 b12 G G G G G [(99999999999,(dm r24.h.row++ [aL (W (rL X0.row) r24.choices),.dat (.clo F_w0 caps_w0),.own 90000,.own 90001,.own 90002,aI r24.least.i0,aI r24.least.i1,aB r24.found]))] [(90000,4,W X0.row r24.plan),(90001,1,W rI r24.choice),(90002,1,W rI r24.best)]):=by
 intro f
 induction f with
 | zero=>intro b0 b1 b2 b3 b4 b5 b6 b8 b9 b10 b11 b12 h; simp at h
 | succ f ih=>
  intro b0 b1 b2 b3 b4 b5 b6 b8 b9 b10 b11 b12
  refine B2 ⟨?_,?_,?_,?_,?_,?_,?_,?_,?_,?_,?_,?_,?_,?_,?_,?_,?_,?_,?_,?_,⟨⟩⟩<;>try first | (intro _ hw; simp at hw; done) | (intro h0 hw; obtain rfl:=hz h0 rfl; (try obtain rfl:=hq hw 2 rfl rfl); (try obtain rfl:=hq hw 3 rfl rfl); (try obtain rfl:=hq hw 4 rfl rfl); (try obtain rfl:=hq hw 8 rfl rfl); (try obtain rfl:=hq hw 9 rfl rfl); (try obtain rfl:=hq hw 10 rfl rfl); refine np ?_; simp only[A7,cdt,cdf,A1,A,B,C,E,F,J]; exact ih _ _ _ _ _ _ _ _ _ _ _ _)
  ·intro h0 hw
   obtain rfl:=hq hw 5 rfl rfl
   obtain rfl:=hq hw 6 rfl rfl
   refine⟨[],[(L,.cut 108)],V,V,?_⟩
   try simp only[A7,cdt,cdf,zA,I,A1,A,B,C,E,F,J]
   refine A6m V V h25 (by rfl) ?_
   try simp only[A1,A,B,C,E,F,J]
   exact F0u F_w0 caps_w0 a0 x8 v9 r24 p25 p26 h25 h26 _ b0 b1 b2 b3 b4 b8 b9 b10 b11 b12 G G
  ·intro h0 hw
   obtain rfl:=hq hw 11 rfl rfl
   obtain rfl:=hq hw 12 rfl rfl
   refine⟨[],[(L,.cut 114)],V,V,?_⟩
   try simp only[A7,cdt,cdf,zA,I,A1,A,B,C,E,F,J]
   refine A6m V V h26 (by rfl) ?_
   try simp only[A1,A,B,C,E,F,J]
   exact E9y F_w0 caps_w0 a0 x8 v9 r24 p25 p26 h25 h26 _ b0 b1 b2 b3 b4 b5 b6 b8 b9 b10
theorem E6x(w0:(N X0)→O Xh)(rec_:Xc→O Xc)(F_w0:FuncId)(caps_w0:N D)(hF_w0:A3r X F_w0=T)(h_w0:∀z0 zr,w0 z0=H zr→FC X F_w0 ([.sc (.sl (W X0.row z0))]++caps_w0.map .sc) [.ag [.v (.int .i64 zr.i0),.v (.int .i64 zr.i1)]])(h_rec:∀(a0:Xc) zr,rec_ a0=H zr→FCz X 179 [.p] (R4 F_w0 caps_w0 a0) (Q8 a0) (R4 F_w0 caps_w0 zr) (Q8 zr) [])(a0:Xc)(x8:N X0):∀(n:U) (v9:P) (v10:X4) (v11:N (N X0)) (v12 v13:P) (v14:Q) (v15:N X0) (v16 v17:N P) (r:Xc),J1 w0 rec_ a0 x8 n v9 v10 v11 v12 v13 v14 v15 v16 v17=H r→∀σ:St,σ.kept [0,3,61,62,63] [99999999999] [90000,90001,90002]=⟨[(0,vc (.pb 99999999999 0)),(3,vc (aI (a0.plan.length:P))),(61,vc (aL (W X0.row x8))),(62,vc (aI (x8.length:P))),(63,vc (aI v9))],[(99999999999,(dm v10.row++ [aL (W (rL X0.row) v11),.dat (.clo F_w0 caps_w0),.own 90000,.own 90001,.own 90002,aI v12,aI v13,aB v14]))],[(90000,4,W X0.row v15),(90001,1,W rI v16),(90002,1,W rI v17)]⟩→go X (.code (.loop C26):: [.blk 0]) (A8p [] [] (R4 F_w0 caps_w0 r) (Q8 r)) .normal (H σ):=by
 intro n
 induction n with
 | zero=>intro _ _ _ _ _ _ _ _ _ r h; cases h
 | succ n ih=>
  intro v9 v10 v11 v12 v13 v14 v15 v16 v17 r h σ hσ
  rw[J1] at h
  refine B8 ?_
  rcases ic h with ⟨h18,h⟩|⟨h18,h⟩
  ·obtain⟨x19,h19,h⟩:=ob h
   try simp only[hσ,h18,h19,C26,A,B,C,E,F,J]
   refine D1 V V ?_
   try simp only[h18,h19,A,B,C,E,F,J]
   refine B4 V ?_
   obtain⟨r20,h20,h⟩:=ob h
   try simp only[h18,h19,A,B,C,E,F,J]
   refine B2c (B2u _ _ _ _ h20) (by first | rfl | kernel_rfl) (A0d V) V (uf V) ?_
   rcases ic h with ⟨h21,h⟩|⟨h21,h⟩
   ·try simp only[h18,h19,h21,A,B,C,E,F,J]
    obtain⟨h22,h⟩:=D7 h
    obtain⟨h23,h⟩:=D7 h
    refine A38 (ks:= [0,3,4,5,61,62,63]) (bs:= [99999999999,5]) (rs:= [90000,90001,90002]) (τ:=(E3 F_w0 caps_w0 a0 x8 v9 v10 v11 v12 v13 v14 v15 v16 v17 x19)) V (F0q F_w0 caps_w0 a0 x8 v9 v10 v11 v12 v13 v14 v15 v16 v17 x19 h22 h23 _ G G G G G G G G G G G G) ?_
    simp only[E3,A5,cdt]
    try simp only[h18,h19,h21,h22,h23,A,B,C,E,F,J]
    refine B8z ?_
    obtain⟨r24,h24,h⟩:=ob h
    try simp only[h18,h19,h21,h22,h23,A,B,C,E,F,J]
    refine A7s (h_rec _ _ h24) 99999999999 [90000,90001,90002] rfl V V V (by decide) V V V ?_
    try simp only[h18,h19,h21,h22,h23,A,B,C,E,F,J]
    obtain⟨p25,h25,h⟩:=ob h
    obtain⟨p26,h26,h⟩:=ob h
    refine A38 (ks:= [0,3,61,62,63]) (bs:= [99999999999]) (rs:= [90000,90001,90002]) (τ:=(G5 F_w0 caps_w0 a0 x8 v9 r24 p25 p26)) V (E8e F_w0 caps_w0 a0 x8 v9 r24 p25 p26 h25 h26 _ G G G G G G G G G G G G) ?_
    simp only[G5,A7,cdt]
    try simp only[h18,h19,h21,h22,h23,A,B,C,E,F,J]
    refine ih _ _ _ _ _ _ _ _ _ _ h _ ?_
    try simp only[h18,h19,h21,h22,h23,A,B,C,E,F,J,Y]
   ·try simp only[h18,h19,h21,A,B,C,E,F,J]
    refine ih _ _ _ _ _ _ _ _ _ _ h _ ?_
    try simp only[h18,h19,h21,A,B,C,E,F,J,Y]
  ·try simp only[hσ,h18,C26,A,B,C,E,F,J]
   cases h
   exact⟨trivial,[90000,90001,90002],by decide,by decide,V,V⟩
theorem D78(w0:(N X0)→O Xh)(rec_:Xc→O Xc)(F_w0:FuncId)(caps_w0:N D)(hF_w0:A3r X F_w0=T)(h_w0:∀z0 zr,w0 z0=H zr→FC X F_w0 ([.sc (.sl (W X0.row z0))]++caps_w0.map .sc) [.ag [.v (.int .i64 zr.i0),.v (.int .i64 zr.i1)]])(h_rec:∀(a0:Xc) zr,rec_ a0=H zr→FCz X 179 [.p] (R4 F_w0 caps_w0 a0) (Q8 a0) (R4 F_w0 caps_w0 zr) (Q8 zr) [])(a0:Xc)(r1:Xh)(v5:Q)(r:Xc)(h:J3 w0 rec_ a0 r1 v5=H r)(σ:St)(hσ:σ.kept [0,2] [99999999999,2] [90000,90001,90002]=⟨[(0,vc (.pb 99999999999 0)),(2,vc (.pb 2 0))],[(99999999999,(dm a0.h.row++ [aL (W (rL X0.row) a0.choices),.dat (.clo F_w0 caps_w0),.own 90000,.own 90001,.own 90002,aI a0.least.i0,aI a0.least.i1,aB v5])),(2,[aI r1.i0,aI r1.i1])],[(90000,4,W X0.row a0.plan),(90001,1,W rI a0.choice),(90002,1,W rI a0.best)]⟩):go X (.code C3d:: []) (A8p [] [] (R4 F_w0 caps_w0 r) (Q8 r)) .normal (H σ):=by
 unfold J3 at h
 rcases ic h with ⟨h6,h⟩|⟨h6,h⟩
 ·try simp only[hσ,h6,C3d,A,B,C,E,F,J]
  obtain⟨r7,h7,h⟩:=ob h
  refine A38 (ks:= [0,2]) (bs:= [99999999999,2]) (rs:= [90000,90001,90002]) (τ:=(J6 F_w0 caps_w0 a0 r1 r7)) V (E75 F_w0 caps_w0 a0 r1 v5 r7 h7 _ G G G G G G G G) ?_
  simp only[J6,C7,cdt]
  try simp only[h6,A,B,C,E,F,J]
  cases h
  exact⟨trivial,[90000,90001,3008],by decide,by decide,V,V⟩
 ·obtain⟨x8,h8,h⟩:=ob h
  try simp only[hσ,h6,h8,C3d,A,B,C,E,F,J]
  refine E6x w0 rec_ F_w0 caps_w0 hF_w0 h_w0 h_rec _ _ _ _ _ _ _ _ _ _ _ _ _ h _ ?_
  try simp only[h6,h8,A,B,C,E,F,J,Y]
theorem F1l:A6 X 179=H (cc460.strip,[],120):=by kernel_rfl
theorem B0e(w0:(N X0)→O Xh)(rec_:Xc→O Xc)(a0 r:Xc)(F_w0:FuncId)(caps_w0:N D)(hF_w0:A3r X F_w0=T)(h_w0:∀z0 zr,w0 z0=H zr→FC X F_w0 ([.sc (.sl (W X0.row z0))]++caps_w0.map .sc) [.ag [.v (.int .i64 zr.i0),.v (.int .i64 zr.i1)]])(h_rec:∀(a0:Xc) zr,rec_ a0=H zr→FCz X 179 [.p] (R4 F_w0 caps_w0 a0) (Q8 a0) (R4 F_w0 caps_w0 zr) (Q8 zr) [])(h:T3 w0 rec_ a0=H r):FCz X 179 [.p] (R4 F_w0 caps_w0 a0) (Q8 a0) (R4 F_w0 caps_w0 r) (Q8 r) []:=by
 unfold T3 at h
 refine C30 (σ:=⟨[(0,vc (.pb 99999999999 0))],[(99999999999,[aI a0.h.Forecast.Tide.Mean,aL (W Xi.row a0.h.Forecast.Tide.Parts),aL (W Xf.row a0.h.Forecast.Surges),aL (W Xb.row a0.h.Chart.Points),aL (W X2.row a0.h.Chart.Segments),aL (W Xa.row a0.h.Fleet),aI a0.h.Regime.Gap,aB a0.h.Regime.NoMeet,aI a0.h.Crew.Tugs,aI a0.h.Crew.Pilots,aI a0.h.Crew.Rest,aL (W rI a0.h.Crew.Moves),aL (W (rL X0.row) a0.choices),.dat (.clo F_w0 caps_w0),.own 90000,.own 90001,.own 90002,aI a0.least.i0,aI a0.least.i1,aB a0.found])],[(90000,4,W X0.row a0.plan),(90001,1,W rI a0.choice),(90002,1,W rI a0.best)]⟩) B0 F1l V V V V ?_
 simp only[cc460]
 try simp only[A,B,C,E,F,J]
 refine B4 V ?_
 obtain⟨r1,h1,h⟩:=ob h
 try simp only[A,B,C,E,F,J]
 refine D1a (h_w0 _ _ h1) hF_w0 (by first | rfl | kernel_rfl) (by first | rfl | kernel_rfl) (A0d V) V (uf V) ?_
 try simp only[A,B,C,E,F,J]
 refine B0a (m:= .box 2 [aI (0:P),aI (0:P)]) V V (A7k V V) ?_
 try simp only[A,B,C,E,F,J]
 refine B4 V ?_
 try simp only[A,B,C,E,F,J]
 refine B4 V ?_
 rcases ic h with ⟨h2,h⟩|⟨h2,h⟩
 ·obtain⟨r3,h3,h⟩:=ob h
  try simp only[h2,A,B,C,E,F,J]
  refine H0 (B3h _ _ _ h3) V V (uf V) ?_
  rcases ic h with ⟨h4,h⟩|⟨h4,h⟩
  ·try simp only[h2,h4,A,B,C,E,F,J]
   refine D78 w0 rec_ F_w0 caps_w0 hF_w0 h_w0 h_rec _ _ _ _ h _ ?_
   try simp only[h2,h4,A,B,C,E,F,J,Y]
  ·try simp only[h2,h4,A,B,C,E,F,J]
   cases h
   exact⟨trivial,[90000,90001,90002],by decide,by decide,V,V⟩
 ·try simp only[h2,A,B,C,E,F,J]
  refine D78 w0 rec_ F_w0 caps_w0 hF_w0 h_w0 h_rec _ _ _ _ h _ ?_
  try simp only[h2,A,B,C,E,F,J,Y]
theorem B0c(w0:(N X0)→O Xh)(F_w0:FuncId)(caps_w0:N D)(hF_w0:A3r X F_w0=T)(h_w0:∀z0 zr,w0 z0=H zr→FC X F_w0 ([.sc (.sl (W X0.row z0))]++caps_w0.map .sc) [.ag [.v (.int .i64 zr.i0),.v (.int .i64 zr.i1)]]):∀(n:U) (a0 r:Xc),F3 w0 n a0=H r→FCz X 179 [.p] (R4 F_w0 caps_w0 a0) (Q8 a0) (R4 F_w0 caps_w0 r) (Q8 r) []:=by
 intro n
 induction n with
 | zero=>intro _ r h; cases h
 | succ n ih=>intro a0 r h; rw[F3] at h; exact B0e w0 (F3 w0 n) a0 r F_w0 caps_w0 hF_w0 h_w0 ih h
theorem B1q(w0:(N X0)→O Xh)(a0 r:Xc)(F_w0:FuncId)(caps_w0:N D)(hF_w0:A3r X F_w0=T)(h_w0:∀z0 zr,w0 z0=H zr→FC X F_w0 ([.sc (.sl (W X0.row z0))]++caps_w0.map .sc) [.ag [.v (.int .i64 zr.i0),.v (.int .i64 zr.i1)]])(h:A36 w0 a0=H r):FCz X 179 [.p] (R4 F_w0 caps_w0 a0) (Q8 a0) (R4 F_w0 caps_w0 r) (Q8 r) []:=B0c w0 F_w0 caps_w0 hF_w0 h_w0 bigN a0 r h
/- 84:impl_leastPlan -/
def A49:N (N U × AItem):= [([],(L,.mv 17 (S 9))),([0],(L,.nilc 18 (S 17))),([1],(L,.faddr 19 (S 18) 16)),([2],(L,.load 20 (S 19) G 1)),([],(L,.mv 21 (S 9))),([4],(L,.nilc 22 (S 21))),([5],(L,.faddr 23 (S 22) 17)),([6],(L,.load 24 (S 23) T 2)),([],(L,.mv 25 (S 9))),([8],(L,.nilc 26 (S 25))),([9],(L,.faddr 27 (S 26) 19)),([10],(L,.load 28 (S 27) G 1)),([3,0,1,2,3],(L,.mv 6 (S 20))),([7,12,0,1,2,3,4,5,6,7,12],(L,.store (S 7) (S 24) 2)),([11,13,0,1,2,3,4,5,6,7,8,9,10,11,12,13],(L,.mv 8 (S 28)))]
def cc485:X3:=(.seq (.reg [bo 3 0,(L,.mv 6 KN),(L,.alloc 7 [aI 0,aI 0]),(L,.mv 8 (KB G))]) (.seq (.reg [lw 10 3 12,mv 11 1,mv 12 2,(L,.build 13 [aI 0,.nil,.nil,.nil,.nil,.nil,aI 0,aB G,aI 0,aI 0,aI 0,.nil,.nil,.undef,.nil,.nil,.nil,aI 0,aI 0,aB G] [(0,12,(S 10)),(12,1,(S 11)),(13,1,(S 12))]),bo 14 13,(L,.ownb 14 14 143232 4),(L,.ownb 14 15 143296 1),(L,.ownb 14 16 143360 1),mv 9 14]) (.seq (.cal [mv 15 9] 16 179 [(S 15)]) (.seq (.any A49) .ret))))
abbrev O2(r1:Xc)(c0_ c1_:Q)(c2_ c3_:Q)(c4_ c5_:Q)(c6_ c7_:Q)(c8_ c9_:Q)(c10_ c11_:Q)(c12_ c14_:Q)(bx_:N (U × N AC))(rs_:Rows):St:=⟨[(7,vc (.pb 7 0)),(9,vc (.pb 14 0)),(17,bif c0_ then vc (.pb 14 0) else .undef),(18,bif c1_ then vc (.pb 14 0) else .undef),(19,bif c2_ then vc (.pb 14 16) else .undef),(20,bif c3_ then vc (.own 143360) else .undef),(21,bif c4_ then vc (.pb 14 0) else .undef),(22,bif c5_ then vc (.pb 14 0) else .undef),(23,bif c6_ then vc (.pb 14 17) else .undef),(24,bif c7_ then va [aI r1.least.i0,aI r1.least.i1] else .undef),(25,bif c8_ then vc (.pb 14 0) else .undef),(26,bif c9_ then vc (.pb 14 0) else .undef),(27,bif c10_ then vc (.pb 14 19) else .undef),(28,bif c11_ then vc (aB r1.found) else .undef),(6,bif c12_ then vc (.own 143360) else .undef),(8,bif c14_ then vc (aB r1.found) else .undef)],bx_,rs_⟩
abbrev A1y(F_a2:FuncId)(caps_a2:N D)(r1:Xc):St:=(O2 r1 T T T T T T T T T T T T T T [(7,[aI r1.least.i0,aI r1.least.i1]),(14,(dm r1.h.row++ [aL (W (rL X0.row) r1.choices),.dat (.clo F_a2 caps_a2),.own 143232,.own 143296,.own 143360,aI r1.least.i0,aI r1.least.i1,aB r1.found]))] [(143232,4,W X0.row r1.plan),(143296,1,W rI r1.choice),(143360,1,W rI r1.best)])
theorem E71(F_a2:FuncId)(caps_a2:N D)(r1:Xc):∀(f:U) (b8 b9:Q) (b10 b11 b14:Q),E2 X A49 (A1y F_a2 caps_a2 r1) f [T,T,T,T,T,T,T,T,b8,b9,b10,b11,T,T,b14] (O2 r1 T T T T T T T T b8 b9 b10 b11 T b14 [(7,[aI r1.least.i0,aI r1.least.i1]),(14,(dm r1.h.row++ [aL (W (rL X0.row) r1.choices),.dat (.clo F_a2 caps_a2),.own 143232,.own 143296,.own 143360,aI r1.least.i0,aI r1.least.i1,aB r1.found]))] [(143232,4,W X0.row r1.plan),(143296,1,W rI r1.choice),(143360,1,W rI r1.best)]):=by
 intro f
 induction f with
 | zero=>
  intro b8 b9 b10 b11 b14 h
  obtain rfl:b8=T:=Z.1 h b8 (by simp)
  obtain rfl:b9=T:=Z.1 h b9 (by simp)
  obtain rfl:b10=T:=Z.1 h b10 (by simp)
  obtain rfl:b11=T:=Z.1 h b11 (by simp)
  obtain rfl:b14=T:=Z.1 h b14 (by simp)
  rfl
 | succ f ih=>
  intro b8 b9 b10 b11 b14
  refine B2 ⟨?_,?_,?_,?_,?_,?_,?_,?_,?_,?_,?_,?_,?_,?_,?_,⟨⟩⟩<;>try first | (intro h; cases h; done) | (intro h0 hw; obtain rfl:=hz h0 rfl; (try obtain rfl:=hq hw 8 rfl rfl); (try obtain rfl:=hq hw 9 rfl rfl); (try obtain rfl:=hq hw 10 rfl rfl); (try obtain rfl:=hq hw 11 rfl rfl); refine np ?_; simp only[O2,cdt,cdf,A1,A,B,C,E,F,J]; exact ih _ _ _ _ _)
theorem E8s(F_a2:FuncId)(caps_a2:N D)(r1:Xc):∀(f:U) (b0 b1:Q) (b2 b3:Q) (b4 b5:Q) (b6 b7:Q) (b8 b9:Q) (b10 b11 b12:Q),E2 X A49 (A1y F_a2 caps_a2 r1) f [b0,b1,b2,b3,b4,b5,b6,b7,b8,b9,b10,b11,b12,G,G] (O2 r1 b0 b1 b2 b3 b4 b5 b6 b7 b8 b9 b10 b11 b12 G [(7,[aI (0:P),aI (0:P)]),(14,(dm r1.h.row++ [aL (W (rL X0.row) r1.choices),.dat (.clo F_a2 caps_a2),.own 143232,.own 143296,.own 143360,aI r1.least.i0,aI r1.least.i1,aB r1.found]))] [(143232,4,W X0.row r1.plan),(143296,1,W rI r1.choice),(143360,1,W rI r1.best)]):=by
 intro f
 induction f with
 | zero=>intro b0 b1 b2 b3 b4 b5 b6 b7 b8 b9 b10 b11 b12 h; simp at h
 | succ f ih=>
  intro b0 b1 b2 b3 b4 b5 b6 b7 b8 b9 b10 b11 b12
  refine B2 ⟨?_,?_,?_,?_,?_,?_,?_,?_,?_,?_,?_,?_,?_,?_,?_,⟨⟩⟩<;>try first | (intro _ hw; simp at hw; done) | (intro h0 hw; obtain rfl:=hz h0 rfl; (try obtain rfl:=hq hw 0 rfl rfl); (try obtain rfl:=hq hw 1 rfl rfl); (try obtain rfl:=hq hw 2 rfl rfl); (try obtain rfl:=hq hw 3 rfl rfl); (try obtain rfl:=hq hw 4 rfl rfl); (try obtain rfl:=hq hw 5 rfl rfl); (try obtain rfl:=hq hw 6 rfl rfl); (try obtain rfl:=hq hw 8 rfl rfl); (try obtain rfl:=hq hw 9 rfl rfl); (try obtain rfl:=hq hw 10 rfl rfl); refine np ?_; simp only[O2,cdt,cdf,A1,A,B,C,E,F,J]; exact ih _ _ _ _ _ _ _ _ _ _ _ _ _)
  ·intro h0 hw
   obtain rfl:=hq hw 0 rfl rfl
   obtain rfl:=hq hw 1 rfl rfl
   obtain rfl:=hq hw 2 rfl rfl
   obtain rfl:=hq hw 3 rfl rfl
   obtain rfl:=hq hw 4 rfl rfl
   obtain rfl:=hq hw 5 rfl rfl
   obtain rfl:=hq hw 6 rfl rfl
   obtain rfl:=hq hw 7 rfl rfl
   obtain rfl:=hq hw 12 rfl rfl
   refine np ?_
   try simp only[O2,cdt,cdf,A1,A,B,C,E,F,J]
   exact E71 F_a2 caps_a2 r1 _ b8 b9 b10 b11 G
theorem F07:A6 X 84=H (cc485.strip,[6,.c 7 T 2,8],29):=by kernel_rfl
theorem A9h(a0:X4)(a1:N (N X0))(a2:(N X0)→O Xh)(r:(N P) × Xh × Q)(F_a2:FuncId)(caps_a2:N D)(hF_a2:A3r X F_a2=T)(h_a2:∀z0 zr,a2 z0=H zr→FC X F_a2 ([.sc (.sl (W X0.row z0))]++caps_a2.map .sc) [.ag [.v (.int .i64 zr.i0),.v (.int .i64 zr.i1)]])(h:A0q a0 a1 a2=H r):FC X 84 [.ag (X4.row a0),.sc (.sl (W (rL X0.row) a1)),.sc (.clo F_a2 caps_a2)] [.sc (.o 1 (W rI r.1)),.ag [.v (.int .i64 r.2.1.i0),.v (.int .i64 r.2.1.i1)],.sc (.v (.bool r.2.2))]:=by
 unfold A0q at h
 refine C8 B0 F07 V ?_
 simp only[cc485,A,B,C,E,F,J]
 try simp only[A,B,C,E,F,J]
 refine B3 V V V ?_
 try simp only[A,B,C,E,F,J]
 refine D1 V V ?_
 try simp only[A,B,C,E,F,J]
 refine B3 V V V ?_
 try simp only[A,B,C,E,F,J]
 refine A3s (cs':= [aI a0.Forecast.Tide.Mean,aL (W Xi.row a0.Forecast.Tide.Parts),aL (W Xf.row a0.Forecast.Surges),aL (W Xb.row a0.Chart.Points),aL (W X2.row a0.Chart.Segments),aL (W Xa.row a0.Fleet),aI a0.Regime.Gap,aB a0.Regime.NoMeet,aI a0.Crew.Tugs,aI a0.Crew.Pilots,aI a0.Crew.Rest,aL (W rI a0.Crew.Moves),aL (W (rL X0.row) a1),.dat (.clo F_a2 caps_a2),.own 143232,.nil,.nil,aI (0:P),aI (0:P),aB G]) V V V V ?_
 try simp only[A,B,C,E,F,J]
 refine A3s (cs':= [aI a0.Forecast.Tide.Mean,aL (W Xi.row a0.Forecast.Tide.Parts),aL (W Xf.row a0.Forecast.Surges),aL (W Xb.row a0.Chart.Points),aL (W X2.row a0.Chart.Segments),aL (W Xa.row a0.Fleet),aI a0.Regime.Gap,aB a0.Regime.NoMeet,aI a0.Crew.Tugs,aI a0.Crew.Pilots,aI a0.Crew.Rest,aL (W rI a0.Crew.Moves),aL (W (rL X0.row) a1),.dat (.clo F_a2 caps_a2),.own 143232,.own 143296,.nil,aI (0:P),aI (0:P),aB G]) V V V V ?_
 try simp only[A,B,C,E,F,J]
 refine A3s (cs':= [aI a0.Forecast.Tide.Mean,aL (W Xi.row a0.Forecast.Tide.Parts),aL (W Xf.row a0.Forecast.Surges),aL (W Xb.row a0.Chart.Points),aL (W X2.row a0.Chart.Segments),aL (W Xa.row a0.Fleet),aI a0.Regime.Gap,aB a0.Regime.NoMeet,aI a0.Crew.Tugs,aI a0.Crew.Pilots,aI a0.Crew.Rest,aL (W rI a0.Crew.Moves),aL (W (rL X0.row) a1),.dat (.clo F_a2 caps_a2),.own 143232,.own 143296,.own 143360,aI (0:P),aI (0:P),aB G]) V V V V ?_
 try simp only[A,B,C,E,F,J]
 refine B8z ?_
 obtain⟨r1,h1,h⟩:=ob h
 try simp only[A,B,C,E,F,J]
 refine A7s (B1q _ _ _ F_a2 caps_a2 hF_a2 h_a2 h1) 14 [143232,143296,143360] rfl V V V (by decide) V V V ?_
 try simp only[A,B,C,E,F,J]
 refine A38 (ks:= [7,9]) (bs:= [7,14]) (rs:= [143232,143296,143360]) (τ:=(A1y F_a2 caps_a2 r1)) V (E8s F_a2 caps_a2 r1 _ G G G G G G G G G G G G G) ?_
 simp only[A1y,O2,cdt]
 try simp only[A,B,C,E,F,J]
 cases h
 try simp only[M1,A,B,C,E,F,J]
 trivial
/- 31:impl_CostOf -/
def C3h:X3:= .seq (.reg [(L,.keep [3,6,7,8] [] [])]) (.seq (.reg [bn 9 .lss 8 7]) (.seq (.cond (S 9) .skip (.exit 0)) (.seq (.block 1 (.seq (.reg [ia 10 6 8 4,lw 11 10 4,(L,.alloc 5 [aI 0,aI 0,aI 0,.nil]),so 5 11 4]) (.reg [mv 12 3,fa 13 5 2,ld 14 13,bn 15 .add 12 14,mv 3 15]))) (.reg [(L,.bin 16 .add (S 8) (K 1)),mv 8 16]))))
def C8r:X3:=(.seq (.reg [mv 17 3,mv 2 17]) .ret)
def cc491:X3:=(.seq (.reg [(L,.mv 2 (K 0))]) (.seq (.reg [(L,.mv 3 (K 0))]) (.seq (.seq (.reg [mv 6 0,ln 7 6,(L,.mv 8 (K 0))]) (.block 0 (.loop C3h))) C8r)))
theorem E61(a0:N X0):∀(n:U) (v1 v2 r:P),Y3 a0 n v1 v2=H r→∀σ:St,σ.kept [3,6,7,8] [] []=⟨[(3,vc (aI v1)),(6,vc (aL (W X0.row a0))),(7,vc (aI (a0.length:P))),(8,vc (aI v2))],[],[]⟩→go X (.code (.loop C3h):: [.blk 0,.code C8r]) (Ret [2] [.sc (.v (.int .i64 r))]) .normal (H σ):=by
 intro n
 induction n with
 | zero=>intro _ _ r h; cases h
 | succ n ih=>
  intro v1 v2 r h σ hσ
  rw[Y3] at h
  refine B8 ?_
  rcases ic h with ⟨h3,h⟩|⟨h3,h⟩
  ·obtain⟨x4,h4,h⟩:=ob h
   try simp only[hσ,h3,h4,C3h,A,B,C,E,F,J]
   refine D1 V V ?_
   try simp only[h3,h4,A,B,C,E,F,J]
   refine ih _ _ _ h _ ?_
   try simp only[h3,h4,A,B,C,E,F,J,Y]
  ·try simp only[hσ,h3,C3h,C8r,A,B,C,E,F,J]
   cases h
   trivial
theorem E7g:A6 X 31=H (cc491.strip,[2],18):=by kernel_rfl
theorem A6h(a0:N X0)(r:P)(h:A1l a0=H r):FC X 31 [.sc (.sl (W X0.row a0))] [.sc (.v (.int .i64 r))]:=by
 unfold A1l at h
 refine C8 B0 E7g V ?_
 simp only[cc491,A,B,C,E,F,J]
 try simp only[A,B,C,E,F,J]
 refine E61 _ _ _ _ _ h _ ?_
 try simp only[A,B,C,E,F,J,Y]
/- 85:impl_byCost -/
def cc494:X3:=(.seq (.reg [(L,.alloc 2 [aI 0,aI 0])]) (.seq (.reg [mv 3 0,ca 4 31 [S 3],(L,.build 5 [aI 0,aI 0] [(0,1,(S 4))]),so 2 5 2]) .ret))
theorem F10:A6 X 85=H (cc494.strip,[.c 2 T 2],6):=by kernel_rfl
theorem C1e(a0:N X0)(r:Xh)(h:A4u a0=H r):FC X 85 [.sc (.sl (W X0.row a0))] [.ag [.v (.int .i64 r.i0),.v (.int .i64 r.i1)]]:=by
 unfold A4u at h
 refine C8 B0 F10 V ?_
 simp only[cc494,A,B,C,E,F,J]
 try simp only[A,B,C,E,F,J]
 refine D1 V V ?_
 obtain⟨r1,h1,h⟩:=ob h
 try simp only[A,B,C,E,F,J]
 refine A2 (A6h _ _ h1) V V (uf V) ?_
 try simp only[A,B,C,E,F,J]
 cases h
 try simp only[M1,A,B,C,E,F,J]
 trivial
/- 27:impl_BestPlan -/
def cc496:X3:=(.seq (.reg [bo 2 0,(L,.mv 4 KN),(L,.mv 5 (K 0)),(L,.mv 6 (KB G))]) (.seq (.seq (.reg [lw 10 2 12,mv 11 1,ca 12 18 [S 10,S 11],nt 13 12]) (.cond (S 13) (.seq (.reg [(L,.mv 4 KN),(L,.mv 5 (K 0)),(L,.mv 6 (KB G))]) .ret) .skip)) (.seq (.drw [(H [18,8],lw 15 2 12),(H [8],lw 16 2 12),(H [8],mv 17 1),(H [8],ca 18 107 [S 16,S 17]),(H [8],ca 19 84 [S 15,S 18,.c (.v (.sc (.dat (.clo 85 []))))]),(H [8],mv 14 19),(H [8],xt 20 14 0),(H [8],xt 21 14 1),(H [8],xt 22 14 2),(H [18,19],(L,.alloc 8 [aI 0,aI 0])),o0 (mv 7 20),(L,so 8 21 2),o0 (mv 9 22)]) (.seq (.drw [o0 (mv 23 7),o0 (fa 24 8 0),o0 (ld 25 24),o0 (mv 26 9),o0 (mv 4 23),o0 (mv 5 25),o0 (mv 6 26)]) .ret))))
theorem F1d:A6 X 27=H (cc496.strip,[4,5,6],27):=by kernel_rfl
theorem B64(a0:X4)(a1:N X9)(r:(N P) × P × Q)(h:A3d a0 a1=H r):FC X 27 [.ag (X4.row a0),.sc (.sl (W X9.row a1))] [.sc (.o 1 (W rI r.1)),.sc (.v (.int .i64 r.2.1)),.sc (.v (.bool r.2.2))]:=by
 unfold A3d at h
 refine C8 B0 F1d V ?_
 simp only[cc496,A,B,C,E,F,J]
 try simp only[A,B,C,E,F,J]
 refine B3 V V V ?_
 obtain⟨r1,h1,h⟩:=ob h
 try simp only[A,B,C,E,F,J]
 refine A2 (A33 _ _ _ h1) V V (uf V) ?_
 rcases ic h with ⟨h2,h⟩|⟨h2,h⟩
 ·try simp only[h2,A,B,C,E,F,J]
  refine B4 V ?_
  obtain⟨r3,h3,h⟩:=ob h
  try simp only[h2,A,B,C,E,F,J]
  refine H0 (A8u _ _ _ h3) V V (uf V) ?_
  obtain⟨r4,h4,h⟩:=ob h
  try simp only[h2,A,B,C,E,F,J]
  refine B2c (A9h _ _ _ _ 85 [] (by kernel_rfl) (fun z0 zr zh=>C1e z0 zr zh) h4) (by first | rfl | kernel_rfl) (A3f V ⟨A1r,V,V,V,⟨⟩⟩) V (uf V) ?_
  try simp only[h2,A,B,C,E,F,J]
  refine B0a (m:= .box 8 [aI (0:P),aI (0:P)]) V V (A7k V V) ?_
  try simp only[h2,A,B,C,E,F,J]
  refine B4 V ?_
  try simp only[h2,A,B,C,E,F,J]
  refine B4 V ?_
  try simp only[h2,A,B,C,E,F,J]
  cases h
  trivial
 ·try simp only[h2,A,B,C,E,F,J]
  cases h
  trivial
/- 109:impl_account -/
def C28:X3:= .seq (.reg [(L,.keep [1,3,6,7,14,15,16] [3,6,7] [704,768])]) (.seq (.reg [bn 17 .lss 16 15]) (.seq (.cond (S 17) .skip (.exit 0)) (.seq (.block 1 (.seq (.reg [mv 18 16,ia 19 14 16 4,lw 20 19 4,(L,.alloc 9 [aI 0,aI 0,aI 0,.nil]),mv 8 18,so 9 20 4]) (.seq (.drw [o0 (fa 21 3 5),o0 (ld 22 21),o0 (mv 23 1),o0 (mv 24 8),o0 (ia 25 23 24 5),o0 (fa 26 25 0),o0 (ld 27 26),o0 (ia 28 22 27 6),o0 (fa 29 28 3),o0 (ld 30 29),o0 (mv 10 30)]) (.seq (.drw [o0 (fa 31 7 0),o0 (ld 32 31),o0 (mv 33 10),o0 (ia 34 32 33 1),o0 (ld 35 34),o0 (fa 36 9 2),o0 (ld 37 36),o0 (bn 38 .add 35 37),o0 (ia 39 32 33 1),(L,so 39 38 1)]) (.reg [fa 40 7 1,ld 41 40,mv 42 10,ia 43 41 42 1,ld 44 43,(L,.bin 45 .add (S 44) (K 1)),ia 46 41 42 1,so 46 45 1]))))) (.reg [(L,.bin 47 .add (S 16) (K 1)),mv 16 47]))))
def C7y:X3:=(.seq (.reg [lw 48 7 2,so 6 48 2]) .ret)
def cc500:X3:=(.seq (.reg [bo 3 0,(L,.alloc 6 [.nil,.nil])]) (.seq (.drw [(H [12,7],(L,.mksl 11 1 8 [.int .i64 0] (K 4) (K 4))),(H [11,7],(L,.mksl 12 1 8 [.int .i64 0] (K 4) (K 4))),(H [7],(L,.build 13 [.nil,.nil] [(0,1,(S 11)),(1,1,(S 12))])),(H [11,12],(L,.alloc 7 [.nil,.nil])),(L,so 7 13 2)]) (.seq (.seq (.reg [mv 14 2,ln 15 14,(L,.mv 16 (K 0))]) (.block 0 (.loop C28))) C7y)))
theorem F16(a1:N X9)(a2:N X0)(a0:X4):∀(n:U) (v3:P) (v4 v5:N P) (r:Xn),V9 a1 a2 a0 n v3 v4 v5=H r→∀σ:St,σ.kept [1,3,6,7,14,15,16] [3,6,7] [704,768]=⟨[(1,vc (aL (W X9.row a1))),(3,vc (.pb 3 0)),(6,vc (.pb 6 0)),(7,vc (.pb 7 0)),(14,vc (aL (W X0.row a2))),(15,vc (aI (a2.length:P))),(16,vc (aI v3))],[(3,(dm a0.row)),(6,[.nil,.nil]),(7,[.own 704,.own 768])],[(704,1,W rI v4),(768,1,W rI v5)]⟩→go X (.code (.loop C28):: [.blk 0,.code C7y]) (Ret [.c 6 T 2] [.ag [.o 1 (W rI r.Waits),.o 1 (W rI r.Calls)]]) .normal (H σ):=by
 intro n
 induction n with
 | zero=>intro _ _ _ r h; cases h
 | succ n ih=>
  intro v3 v4 v5 r h σ hσ
  rw[V9] at h
  refine B8 ?_
  rcases ic h with ⟨h6,h⟩|⟨h6,h⟩
  ·obtain⟨x7,h7,h⟩:=ob h
   try simp only[hσ,h6,h7,C28,A,B,C,E,F,J]
   refine D1 V V ?_
   try simp only[h6,h7,A,B,C,E,F,J]
   refine B4 V ?_
   obtain⟨x8,h8,h⟩:=ob h
   obtain⟨x9,h9,h⟩:=ob h
   try simp only[h6,h7,h8,h9,A,B,C,E,F,J]
   refine B4 V ?_
   obtain⟨x10,h10,h⟩:=ob h
   have h10n:=M5 h10
   try simp only[h6,h7,h8,h9,h10,h10n,A,B,C,E,F,J]
   refine A37 (row:=rI) (y:=(IntKind.i64.wrap (x10+x7.Cost))) V V h10n V V (by rfl) ?_
   try simp only[h6,h7,h8,h9,h10,h10n,A,B,C,E,F,J]
   refine B4 V ?_
   obtain⟨x11,h11,h⟩:=ob h
   have h11n:=M5 h11
   try simp only[h6,h7,h8,h9,h10,h10n,h11,h11n,A,B,C,E,F,J]
   refine A37 (row:=rI) (y:=(IntKind.i64.wrap (x11+(1:P)))) V V h11n V V (by rfl) ?_
   try simp only[h6,h7,h8,h9,h10,h10n,h11,h11n,A,B,C,E,F,J]
   refine ih _ _ _ _ h _ ?_
   try simp only[h6,h7,h8,h9,h10,h10n,h11,h11n,A,B,C,E,F,J,Y]
  ·try simp only[hσ,h6,C28,C7y,A,B,C,E,F,J]
   cases h
   try simp only[M1,A,B,C,E,F,J]
   trivial
theorem E7p:A6 X 109=H (cc500.strip,[.c 6 T 2],49):=by kernel_rfl
theorem B1e(a0:X4)(a1:N X9)(a2:N X0)(r:Xn)(h:A17 a0 a1 a2=H r):FC X 109 [.ag (X4.row a0),.sc (.sl (W X9.row a1)),.sc (.sl (W X0.row a2))] [.ag [.o 1 (W rI r.Waits),.o 1 (W rI r.Calls)]]:=by
 unfold A17 at h
 refine C8 B0 E7p V ?_
 simp only[cc500,A,B,C,E,F,J]
 try simp only[A,B,C,E,F,J]
 refine B3 V V V ?_
 try simp only[A,B,C,E,F,J]
 refine D1 V V ?_
 try simp only[A,B,C,E,F,J]
 refine B4 V ?_
 obtain⟨n1,hn1,h⟩:=ob h
 try simp only[A,B,C,E,F,J]
 refine B0a (m:= .row 11 1 (W rI (List.replicate n1 (0:P)))) (B6w V V hn1 V (A6v V)) V (A9s V) ?_
 obtain⟨n2,hn2,h⟩:=ob h
 try simp only[A,B,C,E,F,J]
 refine B0a (m:= .row 12 1 (W rI (List.replicate n2 (0:P)))) (B6w V V hn2 V (A6v V)) V (A9s V) ?_
 try simp only[A,B,C,E,F,J]
 refine B0a (m:= .box 7 [.nil,.nil]) V V (A7k V V) ?_
 try simp only[A,B,C,E,F,J]
 refine B4 V ?_
 try simp only[A,B,C,E,F,J]
 refine F16 _ _ _ _ _ _ _ _ h _ ?_
 try simp only[A,B,C,E,F,J,Y]
/- 108:impl_FairPlan_1 -/
def C2a:X3:= .seq (.reg [(L,.keep [0,4,5,12,13,14] [4] [704])]) (.seq (.reg [bn 15 .lss 14 13]) (.seq (.cond (S 15) .skip (.exit 0)) (.seq (.block 1 (.seq (.reg [ia 16 12 14 1,ld 17 16,mv 7 17]) (.reg [mv 18 5,mv 19 7,(L,.mm 20 T (S 18) (S 19)),mv 5 20]))) (.reg [(L,.bin 21 .add (S 14) (K 1)),mv 14 21]))))
def D0b:X3:=(.seq (.reg [mv 22 5,mv 23 0,ca 24 31 [S 23],(L,.build 25 [aI 0,aI 0] [(0,1,(S 22)),(1,1,(S 24))]),so 4 25 2]) .ret)
def cc505:X3:=(.seq (.reg [(L,.alloc 4 [aI 0,aI 0])]) (.seq (.reg [(L,.mv 5 (K 0))]) (.seq (.seq (.reg [lw 8 1 12,ld 9 2,mv 10 0,ca 11 109 [S 8,S 9,S 10],(L,.field 12 (S 11) 0 G 1),ln 13 12,(L,.mv 14 (K 0))]) (.block 0 (.loop C2a))) D0b)))
theorem E9w(a0:N X0)(r1:Xn):∀(n:U) (v2 v3:P) (r:Xh),Q1 a0 r1 n v2 v3=H r→∀σ:St,σ.kept [0,4,5,12,13,14] [4] [704]=⟨[(0,vc (aL (W X0.row a0))),(4,vc (.pb 4 0)),(5,vc (aI v2)),(12,vc (.own 704)),(13,vc (aI (r1.Waits.length:P))),(14,vc (aI v3))],[(4,[aI (0:P),aI (0:P)])],[(704,1,W rI r1.Waits)]⟩→go X (.code (.loop C2a):: [.blk 0,.code D0b]) (Ret [.c 4 T 2] [.ag [.v (.int .i64 r.i0),.v (.int .i64 r.i1)]]) .normal (H σ):=by
 intro n
 induction n with
 | zero=>intro _ _ r h; cases h
 | succ n ih=>
  intro v2 v3 r h σ hσ
  rw[Q1] at h
  refine B8 ?_
  rcases ic h with ⟨h4,h⟩|⟨h4,h⟩
  ·obtain⟨x5,h5,h⟩:=ob h
   have h5n:=M5 h5
   try simp only[hσ,h4,h5,h5n,C2a,A,B,C,E,F,J]
   refine ih _ _ _ h _ ?_
   try simp only[h4,h5,h5n,A,B,C,E,F,J,Y]
  ·obtain⟨r6,h6,h⟩:=ob h
   try simp only[hσ,h4,C2a,D0b,A,B,C,E,F,J]
   refine A2 (A6h _ _ h6) V V (uf V) ?_
   try simp only[h4,A,B,C,E,F,J]
   cases h
   try simp only[M1,A,B,C,E,F,J]
   trivial
theorem F01:A6 X 108=H (cc505.strip,[.c 4 T 2],26):=by kernel_rfl
theorem E77(a0:N X0)(c0:X4)(c1:N X9)(r:Xh)(h:A0b a0 c0 c1=H r):FC X 108 [.sc (.sl (W X0.row a0)),.sc (.pd (X4.row c0)),.sc (.pd ((rL X9.row) c1))] [.ag [.v (.int .i64 r.i0),.v (.int .i64 r.i1)]]:=by
 unfold A0b at h
 refine C8 B0 F01 V ?_
 simp only[cc505,A,B,C,E,F,J]
 try simp only[A,B,C,E,F,J]
 refine D1 V V ?_
 obtain⟨r1,h1,h⟩:=ob h
 try simp only[A,B,C,E,F,J]
 refine A2 (B1e _ _ _ _ h1) V V (uf V) ?_
 try simp only[A,B,C,E,F,J]
 refine E9w _ _ _ _ _ _ h _ ?_
 try simp only[A,B,C,E,F,J,Y]
/- 28:impl_FairPlan -/
def cc509:X3:=(.seq (.reg [bo 2 0,bo 3 1,(L,.mv 4 KN),(L,.mv 5 (K 0)),(L,.mv 6 (KB G))]) (.seq (.seq (.reg [lw 10 2 12,ld 11 3,ca 12 18 [S 10,S 11],nt 13 12]) (.cond (S 13) (.seq (.reg [(L,.mv 4 KN),(L,.mv 5 (K 0)),(L,.mv 6 (KB G))]) .ret) .skip)) (.seq (.drw [(H [18,8],lw 15 2 12),(H [8],lw 16 2 12),(H [8],ld 17 3),(H [8],ca 18 107 [S 16,S 17]),(H [18,8],(L,.mkf 19 108 [(S 2),(S 3)])),(H [8],ca 20 84 [S 15,S 18,S 19]),(H [8],mv 14 20),(H [8],xt 21 14 0),(H [8],xt 22 14 1),(H [8],xt 23 14 2),(H [18,20],(L,.alloc 8 [aI 0,aI 0])),o0 (mv 7 21),(L,so 8 22 2),o0 (mv 9 23)]) (.seq (.drw [o0 (mv 24 7),o0 (fa 25 8 0),o0 (ld 26 25),o0 (mv 27 9),o0 (mv 4 24),o0 (mv 5 26),o0 (mv 6 27)]) .ret))))
theorem F0s:A6 X 28=H (cc509.strip,[4,5,6],28):=by kernel_rfl
theorem B8o(a0:X4)(a1:N X9)(r:(N P) × P × Q)(h:A28 a0 a1=H r):FC X 28 [.ag (X4.row a0),.sc (.sl (W X9.row a1))] [.sc (.o 1 (W rI r.1)),.sc (.v (.int .i64 r.2.1)),.sc (.v (.bool r.2.2))]:=by
 unfold A28 at h
 refine C8 B0 F0s V ?_
 simp only[cc509,A,B,C,E,F,J]
 try simp only[A,B,C,E,F,J]
 refine B3 V V V ?_
 try simp only[A,B,C,E,F,J]
 refine B3 V V V ?_
 obtain⟨r1,h1,h⟩:=ob h
 try simp only[A,B,C,E,F,J]
 refine A2 (A33 _ _ _ h1) V V (uf V) ?_
 rcases ic h with ⟨h2,h⟩|⟨h2,h⟩
 ·try simp only[h2,A,B,C,E,F,J]
  refine B4 V ?_
  obtain⟨r3,h3,h⟩:=ob h
  try simp only[h2,A,B,C,E,F,J]
  refine H0 (A8u _ _ _ h3) V V (uf V) ?_
  obtain⟨r4,h4,h⟩:=ob h
  try simp only[h2,A,B,C,E,F,J]
  refine B2c (A9h _ _ _ _ 108 [.pd (X4.row a0),.pd ((rL X9.row) a1)] (by kernel_rfl) (fun z0 zr zh=>E77 z0 a0 a1 zr zh) h4) (by first | rfl | kernel_rfl) (A3f V ⟨A1r,V,V,V,⟨⟩⟩) V (uf V) ?_
  try simp only[h2,A,B,C,E,F,J]
  refine B0a (m:= .box 8 [aI (0:P),aI (0:P)]) V V (A7k V V) ?_
  try simp only[h2,A,B,C,E,F,J]
  refine B4 V ?_
  try simp only[h2,A,B,C,E,F,J]
  refine B4 V ?_
  try simp only[h2,A,B,C,E,F,J]
  cases h
  trivial
 ·try simp only[h2,A,B,C,E,F,J]
  cases h
  trivial
/- 29:impl_PlanOf -/
def C11:X3:= .seq (.reg [(L,.keep [1,2,3,22] [3] [])]) (.cond (S 22) (.seq (.reg [(L,.mv 6 KN),(L,.mv 7 (KB G))]) .ret) .skip)
def C12:X3:= .seq (.reg [(L,.keep [2,3,8,24,25,26] [3] [1472])]) (.seq (.reg [bn 27 .lss 26 25]) (.seq (.cond (S 27) .skip (.exit 0)) (.seq (.block 1 (.seq (.reg [mv 28 26,ia 29 24 26 5,lw 30 29 5,(L,.alloc 10 [aI 0,aI 0,aI 0,aI 0,aI 0]),mv 9 28,so 10 30 5]) (.seq (.reg [lw 31 3 12,lw 32 10 5,ca 33 24 [S 31,S 32],mv 11 33]) (.seq (.seq (.reg [mv 34 2,mv 35 9,ia 36 34 35 1,ld 37 36,mv 38 11,ln 39 38,ca 40 94 [S 37,S 39],nt 41 40]) (.cond (S 41) (.seq (.reg [(L,.mv 6 KN),(L,.mv 7 (KB G))]) .ret) .skip)) (.reg [mv 42 8,mv 43 11,mv 44 2,mv 45 9,ia 46 44 45 1,ld 47 46,ia 48 43 47 4,lw 49 48 4,(L,.bslice 50 4 [.int .i64 0,.int .i64 0,.int .i64 0,.sl []] 1 [(0,(S 49))]),(L,.app 51 4 48 (S 42) (S 50)),mv 8 51]))))) (.reg [(L,.bin 52 .add (S 26) (K 1)),mv 26 52]))))
def C88:X3:=(.seq (.reg [mv 53 8,mv 6 53,(L,.mv 7 (KB T))]) .ret)
def C72:X3:=(.seq (.reg [(L,.bslice 23 4 [.int .i64 0,.int .i64 0,.int .i64 0,.sl []] 0 []),mv 8 23]) (.seq (.seq (.reg [mv 24 1,ln 25 24,(L,.mv 26 (K 0))]) (.block 0 (.loop C12))) C88))
def cc515:X3:=(.seq (.reg [bo 3 0,(L,.mv 6 KN),(L,.mv 7 (KB G))]) (.seq (.seq (.reg [lw 12 3 12,mv 13 1,ca 14 18 [S 12,S 13],nt 15 14,mv 16 15,(H (16,G),.mv 17 (S 2)),(H (16,G),.len 18 (S 17)),(H (16,G),.mv 19 (S 1)),(H (16,G),.len 20 (S 19)),(H (16,G),.bin 21 .neq (S 18) (S 20)),po 22 16 21]) C11) C72))
theorem E6g(a2:N P)(a1:N X9)(a0:X4):∀(n:U) (v5:P) (v6:N X0) (r:(N X0) × Q),Z1 a2 a1 a0 n v5 v6=H r→∀σ:St,σ.kept [2,3,8,24,25,26] [3] [1472]=⟨[(2,vc (aL (W rI a2))),(3,vc (.pb 3 0)),(8,vc (.own 1472)),(24,vc (aL (W X9.row a1))),(25,vc (aI (a1.length:P))),(26,vc (aI v5))],[(3,(dm a0.row))],[(1472,4,W X0.row v6)]⟩→go X (.code (.loop C12):: [.blk 0,.code C88]) (Ret [6,7] [.sc (.o 4 (W X0.row r.1)),.sc (.v (.bool r.2))]) .normal (H σ):=by
 intro n
 induction n with
 | zero=>intro _ _ r h; cases h
 | succ n ih=>
  intro v5 v6 r h σ hσ
  rw[Z1] at h
  refine B8 ?_
  rcases ic h with ⟨h7,h⟩|⟨h7,h⟩
  ·obtain⟨x8,h8,h⟩:=ob h
   try simp only[hσ,h7,h8,C12,A,B,C,E,F,J]
   refine D1 V V ?_
   obtain⟨r9,h9,h⟩:=ob h
   try simp only[h7,h8,A,B,C,E,F,J]
   refine A2 (A94 _ _ _ h9) V V (uf V) ?_
   obtain⟨x10,h10,h⟩:=ob h
   obtain⟨r11,h11,h⟩:=ob h
   try simp only[h7,h8,h10,A,B,C,E,F,J]
   refine A2 (E1 _ _ _ h11) V V (uf V) ?_
   rcases ic h with ⟨h12,h⟩|⟨h12,h⟩
   ·obtain⟨x13,h13,h⟩:=ob h
    have h13n:=M5 h13
    try simp only[h7,h8,h10,h12,h13,h13n,A,B,C,E,F,J]
    refine D4 (es:=W X0.row ([x13]:N X0)) V V ?_
    obtain⟨h14,h⟩:=D7 h
    try simp only[h7,h8,h10,h12,h13,h13n,h14,A,B,C,E,F,J]
    refine ih _ _ _ h _ ?_
    try simp only[h7,h8,h10,h12,h13,h13n,h14,A,B,C,E,F,J,Y]
   ·try simp only[h7,h8,h10,h12,A,B,C,E,F,J]
    cases h
    trivial
  ·try simp only[hσ,h7,C12,C88,A,B,C,E,F,J]
   cases h
   trivial
theorem D8e(a1:N X9)(a2:N P)(a0:X4)(v3:Q)(r:(N X0) × Q)(h:A3o a1 a2 a0 v3=H r)(σ:St)(hσ:σ.kept [1,2,3,22] [3] []=⟨[(1,vc (aL (W X9.row a1))),(2,vc (aL (W rI a2))),(3,vc (.pb 3 0)),(22,vc (aB v3))],[(3,(dm a0.row))],[]⟩):go X (.code C11:: [.code C72]) (Ret [6,7] [.sc (.o 4 (W X0.row r.1)),.sc (.v (.bool r.2))]) .normal (H σ):=by
 unfold A3o at h
 rcases ic h with ⟨h4,h⟩|⟨h4,h⟩
 ·try simp only[hσ,h4,C11,A,B,C,E,F,J]
  cases h
  trivial
 ·try simp only[hσ,h4,C11,C72,A,B,C,E,F,J]
  refine D4 (es:=W X0.row ([]:N X0)) V V ?_
  try simp only[h4,A,B,C,E,F,J]
  refine E6g _ _ _ _ _ _ _ h _ ?_
  try simp only[h4,A,B,C,E,F,J,Y]
theorem E8z:A6 X 29=H (cc515.strip,[6,7],54):=by kernel_rfl
theorem B2q(a0:X4)(a1:N X9)(a2:N P)(r:(N X0) × Q)(h:A20 a0 a1 a2=H r):FC X 29 [.ag (X4.row a0),.sc (.sl (W X9.row a1)),.sc (.sl (W rI a2))] [.sc (.o 4 (W X0.row r.1)),.sc (.v (.bool r.2))]:=by
 unfold A20 at h
 refine C8 B0 E8z V ?_
 simp only[cc515,A,B,C,E,F,J]
 try simp only[A,B,C,E,F,J]
 refine B3 V V V ?_
 obtain⟨r1,h1,h⟩:=ob h
 try simp only[A,B,C,E,F,J]
 refine A2 (A33 _ _ _ h1) V V (uf V) ?_
 rcases ic h with ⟨h2,h⟩|⟨h2,h⟩
 ·try simp only[h2,A,B,C,E,F,J]
  refine D8e _ _ _ _ _ h _ ?_
  try simp only[h2,A,B,C,E,F,J,Y]
 ·try simp only[h2,A,B,C,E,F,J]
  refine D8e _ _ _ _ _ h _ ?_
  try simp only[h2,A,B,C,E,F,J,Y]
/- 199:impl_OptionAt -/
def C18:X3:= .seq (.reg [(L,.keep [2,3,4,5,8,25] [4,5,8] [])]) (.cond (S 25) (.seq (.reg [(L,.build 26 [aI 0,aI 0,aI 0,.nil] []),so 8 26 4,(L,.mv 9 (KB G))]) .ret) .skip)
def C9x:X3:=(.seq (.reg [lw 28 4 12,lw 29 5 5,mv 30 2,ca 31 103 [S 28,S 29,S 30],mv 27 31,xt 32 27 0,xt 33 27 1,(L,.alloc 10 [.nil,.nil,.nil]),so 10 32 3,mv 11 33]) (.seq (.seq (.reg [mv 34 11,nt 35 34]) (.cond (S 35) (.seq (.reg [(L,.build 36 [aI 0,aI 0,aI 0,.nil] []),so 8 36 4,(L,.mv 9 (KB G))]) .ret) .skip)) (.seq (.reg [lw 38 4 12,lw 39 5 5,lw 40 10 3,mv 41 2,mv 42 3,ca 43 104 [S 38,S 39,S 40,S 41,S 42],mv 37 43,xt 44 37 0,xt 45 37 1,(L,.alloc 12 [aI 0,aI 0,aI 0,.nil]),so 12 44 4,mv 11 45]) (.seq (.seq (.reg [mv 46 11,nt 47 46]) (.cond (S 47) (.seq (.reg [(L,.build 48 [aI 0,aI 0,aI 0,.nil] []),so 8 48 4,(L,.mv 9 (KB G))]) .ret) .skip)) (.seq (.reg [lw 49 12 4,so 8 49 4,(L,.mv 9 (KB T))]) .ret)))))
def cc521:X3:=(.seq (.reg [bo 4 0,bo 5 1,(L,.alloc 8 [aI 0,aI 0,aI 0,.nil]),(L,.mv 9 (KB G))]) (.seq (.seq (.reg [lw 13 4 12,lw 14 5 5,ca 15 99 [S 13,S 14],nt 16 15,mv 17 16,(H (17,G),.mv 18 (S 3)),(H (17,G),.faddr 19 (S 5) 3),(H (17,G),.load 20 (S 19) G 1),(H (17,G),.faddr 21 (S 5) 4),(H (17,G),.load 22 (S 21) G 1),(H (17,G),.call 23 114 [(S 18),(S 20),(S 22)]),(H (17,G),.un 24 .not (S 23)),po 25 17 24]) C18) C9x))
theorem D79(a2:N P)(a3:P)(a0:X4)(a1:X9)(v4:Q)(r:X0 × Q)(h:A1s a2 a3 a0 a1 v4=H r)(σ:St)(hσ:σ.kept [2,3,4,5,8,25] [4,5,8] []=⟨[(2,vc (aL (W rI a2))),(3,vc (aI a3)),(4,vc (.pb 4 0)),(5,vc (.pb 5 0)),(8,vc (.pb 8 0)),(25,vc (aB v4))],[(4,(dm a0.row)),(5,(dm a1.row)),(8,[aI (0:P),aI (0:P),aI (0:P),.nil])],[]⟩):go X (.code C18:: [.code C9x]) (Ret [.c 8 T 4,9] [.ag [.v (.int .i64 r.1.Start),.v (.int .i64 r.1.Arrival),.v (.int .i64 r.1.Cost),.o 5 (W X5.row r.1.Passages)],.sc (.v (.bool r.2))]) .normal (H σ):=by
 unfold A1s at h
 rcases ic h with ⟨h5,h⟩|⟨h5,h⟩
 ·try simp only[hσ,h5,C18,A,B,C,E,F,J]
  cases h
  try simp only[M1,A,B,C,E,F,J]
  trivial
 ·obtain⟨r6,h6,h⟩:=ob h
  try simp only[hσ,h5,C18,C9x,A,B,C,E,F,J]
  refine A2 (A8s _ _ _ _ h6) V V (uf V) ?_
  try simp only[h5,A,B,C,E,F,J]
  refine D1 V V ?_
  rcases ic h with ⟨h7,h⟩|⟨h7,h⟩
  ·obtain⟨r9,h9,h⟩:=ob h
   try simp only[h5,h7,A,B,C,E,F,J]
   refine M4 (B2p _ _ _ _ _ _ h9) V (A3f V ⟨V,V,V,A1r,V,⟨⟩⟩) V (uf V) ?_
   try simp only[h5,h7,A,B,C,E,F,J]
   refine D1 V V ?_
   rcases ic h with ⟨h10,h⟩|⟨h10,h⟩
   ·try simp only[h5,h7,h10,A,B,C,E,F,J]
    cases h
    try simp only[M1,A,B,C,E,F,J]
    trivial
   ·try simp only[h5,h7,h10,A,B,C,E,F,J]
    cases h
    try simp only[M1,A,B,C,E,F,J]
    trivial
  ·try simp only[h5,h7,A,B,C,E,F,J]
   cases h
   try simp only[M1,A,B,C,E,F,J]
   trivial
theorem E6u:A6 X 199=H (cc521.strip,[.c 8 T 4,9],50):=by kernel_rfl
theorem B76(a0:X4)(a1:X9)(a2:N P)(a3:P)(r:X0 × Q)(h:A3l a0 a1 a2 a3=H r):FC X 199 [.ag (X4.row a0),.ag (X9.row a1),.sc (.sl (W rI a2)),.sc (.int .i64 a3)] [.ag [.v (.int .i64 r.1.Start),.v (.int .i64 r.1.Arrival),.v (.int .i64 r.1.Cost),.o 5 (W X5.row r.1.Passages)],.sc (.v (.bool r.2))]:=by
 unfold A3l at h
 refine C8 B0 E6u V ?_
 simp only[cc521,A,B,C,E,F,J]
 try simp only[A,B,C,E,F,J]
 refine B3 V V V ?_
 try simp only[A,B,C,E,F,J]
 refine B3 V V V ?_
 try simp only[A,B,C,E,F,J]
 refine D1 V V ?_
 obtain⟨r1,h1,h⟩:=ob h
 try simp only[A,B,C,E,F,J]
 refine A2 (B2v _ _ _ h1) V V (uf V) ?_
 rcases ic h with ⟨h2,h⟩|⟨h2,h⟩
 ·obtain⟨r3,h3,h⟩:=ob h
  try simp only[h2,A,B,C,E,F,J]
  refine A2 (G0 _ _ _ _ h3) V V (uf V) ?_
  try simp only[h2,A,B,C,E,F,J]
  refine D79 _ _ _ _ _ _ h _ ?_
  try simp only[h2,A,B,C,E,F,J,Y]
 ·try simp only[h2,A,B,C,E,F,J]
  refine D79 _ _ _ _ _ _ h _ ?_
  try simp only[h2,A,B,C,E,F,J,Y]
/- 276:slices_Equal_Passage -/
def C2p:X3:= .seq (.reg [(L,.keep [0,1,12,13] [] [])]) (.seq (.reg [bn 14 .lss 13 12]) (.seq (.cond (S 14) .skip (.exit 0)) (.seq (.block 1 (.seq (.reg [mv 15 13,mv 5 15]) (.seq (.drw [o0 (mv 16 0),o0 (mv 17 5),o0 (ia 18 16 17 5),o0 (lw 19 18 5),o0 (mv 20 1),o0 (mv 21 5),o0 (ia 22 20 21 5),o0 (lw 23 22 5),o0 (L,.geq 24 T [.i,.i,.b,.i,.i] (S 19) (S 23))]) (.cond (S 24) (.seq (.reg [(L,.mv 4 (KB G))]) .ret) .skip)))) (.reg [(L,.bin 25 .add (S 13) (K 1)),mv 13 25]))))
def D00:X3:=(.seq (.reg [(L,.mv 4 (KB T))]) .ret)
def cc526:X3:=(.seq (.reg [(L,.mv 4 (KB G))]) (.seq (.seq (.reg [mv 6 0,ln 7 6,mv 8 1,ln 9 8,bn 10 .neq 7 9]) (.cond (S 10) (.seq (.reg [(L,.mv 4 (KB G))]) .ret) .skip)) (.seq (.seq (.reg [mv 11 0,ln 12 11,(L,.mv 13 (K 0))]) (.block 0 (.loop C2p))) D00)))
theorem E9h(a0 a1:N X5):∀(n:U) (v2:P) (r:Q),K7 a0 a1 n v2=H r→∀σ:St,σ.kept [0,1,12,13] [] []=⟨[(0,vc (aL (W X5.row a0))),(1,vc (aL (W X5.row a1))),(12,vc (aI (a0.length:P))),(13,vc (aI v2))],[],[]⟩→go X (.code (.loop C2p):: [.blk 0,.code D00]) (Ret [4] [.sc (.v (.bool r))]) .normal (H σ):=by
 intro n
 induction n with
 | zero=>intro _ r h; cases h
 | succ n ih=>
  intro v2 r h σ hσ
  rw[K7] at h
  refine B8 ?_
  rcases ic h with ⟨h3,h⟩|⟨h3,h⟩
  ·try simp only[hσ,h3,C2p,A,B,C,E,F,J]
   refine B4 V ?_
   obtain⟨x4,h4,h⟩:=ob h
   obtain⟨x5,h5,h⟩:=ob h
   rcases ic h with ⟨h6,h⟩|⟨h6,h⟩
   ·try simp only[h3,h4,h5,h6,A,B,C,E,F,J]
    refine ih _ _ h _ ?_
    try simp only[h3,h4,h5,h6,A,B,C,E,F,J,Y]
   ·try simp only[h3,h4,h5,h6,A,B,C,E,F,J]
    cases h
    trivial
  ·try simp only[hσ,h3,C2p,D00,A,B,C,E,F,J]
   cases h
   trivial
theorem B03:A6 X 276=H (cc526.strip,[4],26):=by kernel_rfl
theorem B00(a0 a1:N X5)(r:Q)(h:V3 a0 a1=H r):FC X 276 [.sc (.sl (W X5.row a0)),.sc (.sl (W X5.row a1))] [.sc (.v (.bool r))]:=by
 unfold V3 at h
 refine C8 B0 B03 V ?_
 simp only[cc526,A,B,C,E,F,J]
 rcases ic h with ⟨h1,h⟩|⟨h1,h⟩
 ·try simp only[h1,A,B,C,E,F,J]
  cases h
  trivial
 ·try simp only[h1,A,B,C,E,F,J]
  refine E9h _ _ _ _ _ h _ ?_
  try simp only[h1,A,B,C,E,F,J,Y]
/- 200:impl_SameOptions -/
def cc528:X3:=(.seq (.reg [bo 2 0,bo 3 1,(L,.mv 4 (KB G))]) (.seq (.reg [fa 5 2 0,ld 6 5,fa 7 3 0,ld 8 7,bn 9 .eql 6 8,mv 10 9,(H (10,T),.faddr 11 (S 2) 1),(H (10,T),.load 12 (S 11) G 1),(H (10,T),.faddr 13 (S 3) 1),(H (10,T),.load 14 (S 13) G 1),(H (10,T),.bin 15 .eql (S 12) (S 14)),pa 16 10 15,mv 17 16,(H (17,T),.faddr 18 (S 2) 2),(H (17,T),.load 19 (S 18) G 1),(H (17,T),.faddr 20 (S 3) 2),(H (17,T),.load 21 (S 20) G 1),(H (17,T),.bin 22 .eql (S 19) (S 21)),pa 23 17 22,mv 24 23,(H (24,T),.faddr 25 (S 2) 3),(H (24,T),.load 26 (S 25) G 1),(H (24,T),.faddr 27 (S 3) 3),(H (24,T),.load 28 (S 27) G 1),(H (24,T),.call 29 276 [(S 26),(S 28)]),pa 30 24 29,mv 4 30]) .ret))
theorem E6e:A6 X 200=H (cc528.strip,[4],31):=by kernel_rfl
theorem B3f(a0 a1:X0)(r:Q)(h:A03 a0 a1=H r):FC X 200 [.ag (X0.row a0),.ag (X0.row a1)] [.sc (.v (.bool r))]:=by
 unfold A03 at h
 refine C8 B0 E6e V ?_
 simp only[cc528,A,B,C,E,F,J]
 try simp only[A,B,C,E,F,J]
 refine B3 V V V ?_
 try simp only[A,B,C,E,F,J]
 refine B3 V V V ?_
 rcases ic h with ⟨h1,h⟩|⟨h1,h⟩
 ·rcases ic h with ⟨h2,h⟩|⟨h2,h⟩
  ·rcases ic h with ⟨h3,h⟩|⟨h3,h⟩
   ·obtain⟨r4,h4,h⟩:=ob h
    try simp only[h1,h2,h3,A,B,C,E,F,J]
    refine A2 (B00 _ _ _ h4) V V (uf V) ?_
    try simp only[h1,h2,h3,A,B,C,E,F,J]
    cases h
    trivial
   ·try simp only[h1,h2,h3,A,B,C,E,F,J]
    cases h
    trivial
  ·try simp only[h1,h2,A,B,C,E,F,J]
   cases h
   trivial
 ·try simp only[h1,A,B,C,E,F,J]
  cases h
  trivial
/- 105:impl_IsOption -/
def C2v:X3:= .seq (.reg [(L,.keep [3,4,5,7,14,15,16] [3,4,5] [768])]) (.seq (.reg [bn 17 .lss 16 15]) (.seq (.cond (S 17) .skip (.exit 0)) (.seq (.block 1 (.seq (.reg [ia 18 14 16 5,lw 19 18 5,(L,.alloc 9 [aI 0,aI 0,aB G,aI 0,aI 0]),so 9 19 5]) (.reg [mv 20 7,fa 21 9 1,ld 22 21,(L,.bslice 23 1 [.int .i64 0] 1 [(0,(S 22))]),(L,.app 24 1 8 (S 20) (S 23)),mv 7 24]))) (.reg [(L,.bin 25 .add (S 16) (K 1)),mv 16 25]))))
def C92:X3:=(.seq (.reg [lw 27 3 12,lw 28 4 5,mv 29 7,fa 30 5 0,ld 31 30,ca 32 199 [S 27,S 28,S 29,S 31],mv 26 32,xt 33 26 0,xt 34 26 1,(L,.alloc 10 [aI 0,aI 0,aI 0,.nil]),so 10 33 4,mv 11 34]) (.seq (.reg [mv 35 11,mv 36 35,(H (36,T),.load 37 (S 10) T 4),(H (36,T),.load 38 (S 5) T 4),(H (36,T),.call 39 200 [(S 37),(S 38)]),pa 40 36 39,mv 6 40]) .ret))
def cc532:X3:=(.seq (.reg [bo 3 0,bo 4 1,bo 5 2,(L,.mv 6 (KB G))]) (.seq (.reg [(L,.bslice 12 1 [.int .i64 0] 0 []),mv 7 12]) (.seq (.seq (.reg [fa 13 5 3,ld 14 13,ln 15 14,(L,.mv 16 (K 0))]) (.block 0 (.loop C2v))) C92)))
theorem F0g(a2:X0)(a0:X4)(a1:X9):∀(n:U) (v1:P) (v2:N P) (r:Q),T4 a2 a0 a1 n v1 v2=H r→∀σ:St,σ.kept [3,4,5,7,14,15,16] [3,4,5] [768]=⟨[(3,vc (.pb 3 0)),(4,vc (.pb 4 0)),(5,vc (.pb 5 0)),(7,vc (.own 768)),(14,vc (aL (W X5.row a2.Passages))),(15,vc (aI (a2.Passages.length:P))),(16,vc (aI v1))],[(3,(dm a0.row)),(4,(dm a1.row)),(5,(dm a2.row))],[(768,1,W rI v2)]⟩→go X (.code (.loop C2v):: [.blk 0,.code C92]) (Ret [6] [.sc (.v (.bool r))]) .normal (H σ):=by
 intro n
 induction n with
 | zero=>intro _ _ r h; cases h
 | succ n ih=>
  intro v1 v2 r h σ hσ
  rw[T4] at h
  refine B8 ?_
  rcases ic h with ⟨h3,h⟩|⟨h3,h⟩
  ·obtain⟨x4,h4,h⟩:=ob h
   try simp only[hσ,h3,h4,C2v,A,B,C,E,F,J]
   refine D1 V V ?_
   try simp only[h3,h4,A,B,C,E,F,J]
   refine D4 (es:=W rI ([x4.Segment]:N P)) V V ?_
   obtain⟨h5,h⟩:=D7 h
   try simp only[h3,h4,h5,A,B,C,E,F,J]
   refine ih _ _ _ h _ ?_
   try simp only[h3,h4,h5,A,B,C,E,F,J,Y]
  ·obtain⟨r6,h6,h⟩:=ob h
   try simp only[hσ,h3,C2v,C92,A,B,C,E,F,J]
   refine M4 (B76 _ _ _ _ _ h6) V (A3f V ⟨V,V,V,A1r,V,⟨⟩⟩) V (uf V) ?_
   try simp only[h3,A,B,C,E,F,J]
   refine D1 V V ?_
   rcases ic h with ⟨h7,h⟩|⟨h7,h⟩
   ·obtain⟨r9,h9,h⟩:=ob h
    try simp only[h3,h7,A,B,C,E,F,J]
    refine M4 (B3f _ _ _ h9) V (A0d V) V (uf V) ?_
    try simp only[h3,h7,A,B,C,E,F,J]
    cases h
    trivial
   ·try simp only[h3,h7,A,B,C,E,F,J]
    cases h
    trivial
theorem F0l:A6 X 105=H (cc532.strip,[6],41):=by kernel_rfl
theorem B8e(a0:X4)(a1:X9)(a2:X0)(r:Q)(h:A3m a0 a1 a2=H r):FC X 105 [.ag (X4.row a0),.ag (X9.row a1),.ag (X0.row a2)] [.sc (.v (.bool r))]:=by
 unfold A3m at h
 refine C8 B0 F0l V ?_
 simp only[cc532,A,B,C,E,F,J]
 try simp only[A,B,C,E,F,J]
 refine B3 V V V ?_
 try simp only[A,B,C,E,F,J]
 refine B3 V V V ?_
 try simp only[A,B,C,E,F,J]
 refine B3 V V V ?_
 try simp only[A,B,C,E,F,J]
 refine D4 (es:=W rI ([]:N P)) V V ?_
 try simp only[A,B,C,E,F,J]
 refine F0g _ _ _ _ _ _ _ h _ ?_
 try simp only[A,B,C,E,F,J,Y]
/- 26:impl_IsPlan -/
def C2o:X3:= .seq (.reg [(L,.keep [2,3,20,21,22] [3] [])]) (.seq (.reg [bn 23 .lss 22 21]) (.seq (.cond (S 23) .skip (.exit 0)) (.seq (.block 1 (.seq (.reg [mv 24 22,ia 25 20 22 5,lw 26 25 5,(L,.alloc 8 [aI 0,aI 0,aI 0,aI 0,aI 0]),mv 7 24,so 8 26 5]) (.seq (.drw [o0 (lw 27 3 12),o0 (lw 28 8 5),o0 (mv 29 2),o0 (mv 30 7),o0 (ia 31 29 30 4),o0 (lw 32 31 4),o0 (ca 33 105 [S 27,S 28,S 32]),o0 (nt 34 33),o0 (mv 35 34),o0 (H (35,G),.load 36 (S 3) T 12),o0 (H (35,G),.mv 37 (S 2)),o0 (H (35,G),.mv 38 (S 7)),o0 (H (35,G),.slc 39 4 (S 37) L (H (S 38)) L),o0 (H (35,G),.mv 40 (S 2)),o0 (H (35,G),.mv 41 (S 7)),o0 (H (35,G),.iaddr 42 (S 40) (S 41) 4),o0 (H (35,G),.load 43 (S 42) T 4),o0 (H (35,G),.call 44 106 [(S 36),(S 39),(S 43)]),o0 (H (35,G),.un 45 .not (S 44)),o0 (po 46 35 45)]) (.cond (S 46) (.seq (.reg [(L,.mv 6 (KB G))]) .ret) .skip)))) (.reg [(L,.bin 47 .add (S 22) (K 1)),mv 22 47]))))
def C8d:X3:=(.seq (.reg [(L,.mv 6 (KB T))]) .ret)
def cc537:X3:=(.seq (.reg [bo 3 0,(L,.mv 6 (KB G))]) (.seq (.seq (.reg [lw 9 3 12,mv 10 1,ca 11 18 [S 9,S 10],nt 12 11,mv 13 12,(H (13,G),.mv 14 (S 2)),(H (13,G),.len 15 (S 14)),(H (13,G),.mv 16 (S 1)),(H (13,G),.len 17 (S 16)),(H (13,G),.bin 18 .neq (S 15) (S 17)),po 19 13 18]) (.cond (S 19) (.seq (.reg [(L,.mv 6 (KB G))]) .ret) .skip)) (.seq (.seq (.reg [mv 20 1,ln 21 20,(L,.mv 22 (K 0))]) (.block 0 (.loop C2o))) C8d)))
theorem E8c(a2:N X0)(a1:N X9)(a0:X4):∀(n:U) (v4:P) (r:Q),Z6 a2 a1 a0 n v4=H r→∀σ:St,σ.kept [2,3,20,21,22] [3] []=⟨[(2,vc (aL (W X0.row a2))),(3,vc (.pb 3 0)),(20,vc (aL (W X9.row a1))),(21,vc (aI (a1.length:P))),(22,vc (aI v4))],[(3,(dm a0.row))],[]⟩→go X (.code (.loop C2o):: [.blk 0,.code C8d]) (Ret [6] [.sc (.v (.bool r))]) .normal (H σ):=by
 intro n
 induction n with
 | zero=>intro _ r h; cases h
 | succ n ih=>
  intro v4 r h σ hσ
  rw[Z6] at h
  refine B8 ?_
  rcases ic h with ⟨h5,h⟩|⟨h5,h⟩
  ·obtain⟨x6,h6,h⟩:=ob h
   try simp only[hσ,h5,h6,C2o,A,B,C,E,F,J]
   refine D1 V V ?_
   try simp only[h5,h6,A,B,C,E,F,J]
   refine B4 V ?_
   obtain⟨x7,h7,h⟩:=ob h
   obtain⟨r9,h9,h⟩:=ob h
   try simp only[h5,h6,h7,A,B,C,E,F,J]
   refine H0 (B8e _ _ _ _ h9) V V (uf V) ?_
   rcases ic h with ⟨h10,h⟩|⟨h10,h⟩
   ·obtain⟨p11,h11,h⟩:=ob h
    obtain⟨r12,h12,h⟩:=ob h
    try simp only[h5,h6,h7,h10,h11,A,B,C,E,F,J]
    refine H0 (B2u _ _ _ _ h12) V V (uf V) ?_
    rcases ic h with ⟨h13,h⟩|⟨h13,h⟩
    ·try simp only[h5,h6,h7,h10,h11,h13,A,B,C,E,F,J]
     refine ih _ _ h _ ?_
     try simp only[h5,h6,h7,h10,h11,h13,A,B,C,E,F,J,Y]
    ·try simp only[h5,h6,h7,h10,h11,h13,A,B,C,E,F,J]
     cases h
     trivial
   ·try simp only[h5,h6,h7,h10,A,B,C,E,F,J]
    cases h
    trivial
  ·try simp only[hσ,h5,C2o,C8d,A,B,C,E,F,J]
   cases h
   trivial
theorem F1w:A6 X 26=H (cc537.strip,[6],48):=by kernel_rfl
theorem C1i(a0:X4)(a1:N X9)(a2:N X0)(r:Q)(h:A43 a0 a1 a2=H r):FC X 26 [.ag (X4.row a0),.sc (.sl (W X9.row a1)),.sc (.sl (W X0.row a2))] [.sc (.v (.bool r))]:=by
 unfold A43 at h
 refine C8 B0 F1w V ?_
 simp only[cc537,A,B,C,E,F,J]
 try simp only[A,B,C,E,F,J]
 refine B3 V V V ?_
 obtain⟨r1,h1,h⟩:=ob h
 try simp only[A,B,C,E,F,J]
 refine A2 (A33 _ _ _ h1) V V (uf V) ?_
 rcases ic h with ⟨h2,h⟩|⟨h2,h⟩
 ·rcases ic h with ⟨h3,h⟩|⟨h3,h⟩
  ·try simp only[h2,h3,A,B,C,E,F,J]
   cases h
   trivial
  ·try simp only[h2,h3,A,B,C,E,F,J]
   refine E8c _ _ _ _ _ _ h _ ?_
   try simp only[h2,h3,A,B,C,E,F,J,Y]
 ·try simp only[h2,A,B,C,E,F,J]
  cases h
  trivial
/- 30:impl_AccountOf -/
def cc540:X3:=(.seq (.reg [bo 3 0,(L,.alloc 6 [.nil,.nil]),(L,.mv 7 (KB G))]) (.seq (.seq (.reg [lw 8 3 12,mv 9 1,mv 10 2,ca 11 26 [S 8,S 9,S 10],nt 12 11]) (.cond (S 12) (.seq (.reg [(L,.build 13 [.nil,.nil] []),so 6 13 2,(L,.mv 7 (KB G))]) .ret) .skip)) (.seq (.reg [lw 14 3 12,mv 15 1,mv 16 2,ca 17 109 [S 14,S 15,S 16],so 6 17 2,(L,.mv 7 (KB T))]) .ret)))
theorem E68:A6 X 30=H (cc540.strip,[.c 6 T 2,7],18):=by kernel_rfl
theorem A9r(a0:X4)(a1:N X9)(a2:N X0)(r:Xn × Q)(h:A0t a0 a1 a2=H r):FC X 30 [.ag (X4.row a0),.sc (.sl (W X9.row a1)),.sc (.sl (W X0.row a2))] [.ag [.o 1 (W rI r.1.Waits),.o 1 (W rI r.1.Calls)],.sc (.v (.bool r.2))]:=by
 unfold A0t at h
 refine C8 B0 E68 V ?_
 simp only[cc540,A,B,C,E,F,J]
 try simp only[A,B,C,E,F,J]
 refine B3 V V V ?_
 try simp only[A,B,C,E,F,J]
 refine D1 V V ?_
 obtain⟨r1,h1,h⟩:=ob h
 try simp only[A,B,C,E,F,J]
 refine A2 (C1i _ _ _ _ h1) V V (uf V) ?_
 rcases ic h with ⟨h2,h⟩|⟨h2,h⟩
 ·obtain⟨r3,h3,h⟩:=ob h
  try simp only[h2,A,B,C,E,F,J]
  refine A2 (B1e _ _ _ _ h3) V V (uf V) ?_
  try simp only[h2,A,B,C,E,F,J]
  cases h
  try simp only[M1,A,B,C,E,F,J]
  trivial
 ·try simp only[h2,A,B,C,E,F,J]
  cases h
  try simp only[M1,A,B,C,E,F,J]
  trivial
/- 32:laws_greatest -/
def C3k:X3:= .seq (.reg [(L,.keep [3,6,7,8] [] [])]) (.seq (.reg [bn 9 .lss 8 7]) (.seq (.cond (S 9) .skip (.exit 0)) (.seq (.block 1 (.seq (.reg [ia 10 6 8 1,ld 11 10,mv 5 11]) (.reg [mv 12 3,mv 13 5,(L,.mm 14 T (S 12) (S 13)),mv 3 14]))) (.reg [(L,.bin 15 .add (S 8) (K 1)),mv 8 15]))))
def C9v:X3:=(.seq (.reg [mv 16 3,mv 2 16]) .ret)
def cc544:X3:=(.seq (.reg [(L,.mv 2 (K 0))]) (.seq (.reg [(L,.mv 3 (K 0))]) (.seq (.seq (.reg [mv 6 0,ln 7 6,(L,.mv 8 (K 0))]) (.block 0 (.loop C3k))) C9v)))
theorem E98(a0:N P):∀(n:U) (v1 v2 r:P),U2 a0 n v1 v2=H r→∀σ:St,σ.kept [3,6,7,8] [] []=⟨[(3,vc (aI v1)),(6,vc (aL (W rI a0))),(7,vc (aI (a0.length:P))),(8,vc (aI v2))],[],[]⟩→go X (.code (.loop C3k):: [.blk 0,.code C9v]) (Ret [2] [.sc (.v (.int .i64 r))]) .normal (H σ):=by
 intro n
 induction n with
 | zero=>intro _ _ r h; cases h
 | succ n ih=>
  intro v1 v2 r h σ hσ
  rw[U2] at h
  refine B8 ?_
  rcases ic h with ⟨h3,h⟩|⟨h3,h⟩
  ·obtain⟨x4,h4,h⟩:=ob h
   try simp only[hσ,h3,h4,C3k,A,B,C,E,F,J]
   refine ih _ _ _ h _ ?_
   try simp only[h3,h4,A,B,C,E,F,J,Y]
  ·try simp only[hσ,h3,C3k,C9v,A,B,C,E,F,J]
   cases h
   trivial
theorem F0o:A6 X 32=H (cc544.strip,[2],17):=by kernel_rfl
theorem B0f(a0:N P)(r:P)(h:A3p a0=H r):FC X 32 [.sc (.sl (W rI a0))] [.sc (.v (.int .i64 r))]:=by
 unfold A3p at h
 refine C8 B0 F0o V ?_
 simp only[cc544,A,B,C,E,F,J]
 try simp only[A,B,C,E,F,J]
 refine E98 _ _ _ _ _ h _ ?_
 try simp only[A,B,C,E,F,J,Y]
/- 4:laws_FnFair -/
def cc547:X3:=(.seq (.reg [(L,.mv 2 (KB G))]) (.seq (.seq (.reg [mv 19 0,ln 20 19,(L,.bin 21 .gtr (S 20) (K 1048576))]) (.cond (S 21) (.seq (.reg [(L,.mv 2 (KB T))]) .ret) .skip)) (.seq (.reg [mv 23 0,ca 24 14 [S 23],mv 22 24,xt 25 22 0,xt 26 22 1,(L,.alloc 3 [aI 0,.nil,.nil,.nil,.nil,.nil,aI 0,aB G,aI 0,aI 0,aI 0,.nil]),so 3 25 12,mv 4 26]) (.seq (.reg [lw 28 3 12,mv 29 4,ca 30 27 [S 28,S 29],mv 27 30,xt 31 27 0,xt 32 27 1,xt 33 27 2,mv 5 31,mv 6 32,mv 7 33]) (.seq (.reg [lw 35 3 12,mv 36 4,ca 37 28 [S 35,S 36],mv 34 37,xt 38 34 0,xt 39 34 1,xt 40 34 2,mv 8 38,mv 9 39,mv 10 40]) (.seq (.seq (.reg [lw 41 3 12,mv 42 4,ca 43 18 [S 41,S 42],nt 44 43,mv 45 44,(H (45,G),.mv 46 (S 7)),(H (45,G),.mv 47 (S 10)),(H (45,G),.beq 48 T (S 46) (S 47)),po 49 45 48]) (.cond (S 49) (.seq (.reg [(L,.mv 2 (KB G))]) .ret) .skip)) (.seq (.seq (.reg [mv 50 7,nt 51 50]) (.cond (S 51) (.seq (.reg [mv 52 8,ln 53 52,(L,.bin 54 .eql (S 53) (K 0)),mv 2 54]) .ret) .skip)) (.seq (.reg [lw 56 3 12,mv 57 4,mv 58 5,(L,.frz 1548),(L,.frz 1920),ca 59 29 [S 56,S 57,S 58],mv 55 59,xt 60 55 0,xt 61 55 1,mv 11 60,mv 12 61]) (.seq (.reg [lw 63 3 12,mv 64 4,mv 65 8,(L,.frz 2368),ca 66 29 [S 63,S 64,S 65],mv 62 66,xt 67 62 0,xt 68 62 1,mv 13 67,mv 14 68]) (.seq (.reg [lw 70 3 12,mv 71 4,mv 72 11,ca 73 30 [S 70,S 71,S 72],mv 69 73,xt 74 69 0,xt 75 69 1,(L,.alloc 15 [.nil,.nil]),so 15 74 2,mv 16 75]) (.seq (.reg [lw 77 3 12,mv 78 4,mv 79 13,ca 80 30 [S 77,S 78,S 79],mv 76 80,xt 81 76 0,xt 82 76 1,(L,.alloc 17 [.nil,.nil]),so 17 81 2,mv 18 82]) (.seq (.seq (.reg [mv 83 14,nt 84 83,mv 85 84,(H (85,G),.mv 86 (S 16)),(H (85,G),.un 87 .not (S 86)),po 88 85 87,mv 89 88,(H (89,G),.mv 90 (S 18)),(H (89,G),.un 91 .not (S 90)),po 92 89 91,mv 93 92,(H (93,G),.mv 94 (S 13)),(H (93,G),.call 95 31 [(S 94)]),(H (93,G),.mv 96 (S 11)),(H (93,G),.call 97 31 [(S 96)]),(H (93,G),.bin 98 .lss (S 95) (S 97)),po 99 93 98]) (.cond (S 99) (.seq (.reg [(L,.mv 2 (KB G))]) .ret) .skip)) (.seq (.reg [fa 100 17 0,ld 101 100,ca 102 32 [S 101],mv 103 9,bn 104 .eql 102 103,mv 105 104,(H (105,T),.mv 106 (S 9)),(H (105,T),.faddr 107 (S 15) 0),(H (105,T),.load 108 (S 107) G 1),(H (105,T),.call 109 32 [(S 108)]),(H (105,T),.bin 110 .leq (S 106) (S 109)),pa 111 105 110,mv 2 111]) .ret)))))))))))))
theorem F1x:A6 X 4=H (cc547.strip,[2],112):=by kernel_rfl
theorem w_laws_FnFair(a0:N P)(r:Q)(h:A6f a0=H r):FC X 4 [.sc (.sl (W r8 a0))] [.sc (.v (.bool r))]:=by
 unfold A6f at h
 refine C8 B0 F1x V ?_
 simp only[cc547,A,B,C,E,F,J]
 rcases ic h with ⟨h1,h⟩|⟨h1,h⟩
 ·try simp only[h1,A,B,C,E,F,J]
  cases h
  trivial
 ·obtain⟨r2,h2,h⟩:=ob h
  try simp only[h1,A,B,C,E,F,J]
  refine A2 (B6m _ _ h2) V V (uf V) ?_
  try simp only[h1,A,B,C,E,F,J]
  refine D1 V V ?_
  obtain⟨r3,h3,h⟩:=ob h
  try simp only[h1,A,B,C,E,F,J]
  refine M4 (B64 _ _ _ h3) V (A3f V ⟨A1r,V,V,⟨⟩⟩) V (uf V) ?_
  obtain⟨r4,h4,h⟩:=ob h
  try simp only[h1,A,B,C,E,F,J]
  refine M4 (B8o _ _ _ h4) V (A3f V ⟨A1r,V,V,⟨⟩⟩) V (uf V) ?_
  obtain⟨r5,h5,h⟩:=ob h
  try simp only[h1,A,B,C,E,F,J]
  refine M4 (A33 _ _ _ h5) V (A0d V) V (uf V) ?_
  rcases ic h with ⟨h6,h⟩|⟨h6,h⟩
  ·rcases ic h with ⟨h7,h⟩|⟨h7,h⟩
   ·try simp only[h1,h6,h7,A,B,C,E,F,J]
    rcases ic h with ⟨h8,h⟩|⟨h8,h⟩
    ·try simp only[h1,h6,h7,h8,A,B,C,E,F,J]
     refine V0 V ?_
     try simp only[h1,h6,h7,h8,A,B,C,E,F,J]
     refine V0 V ?_
     obtain⟨r9,h9,h⟩:=ob h
     try simp only[h1,h6,h7,h8,A,B,C,E,F,J]
     refine A2 (B2q _ _ _ _ h9) V V (uf V) ?_
     try simp only[h1,h6,h7,h8,A,B,C,E,F,J]
     refine V0 V ?_
     obtain⟨r10,h10,h⟩:=ob h
     try simp only[h1,h6,h7,h8,A,B,C,E,F,J]
     refine A2 (B2q _ _ _ _ h10) V V (uf V) ?_
     obtain⟨r11,h11,h⟩:=ob h
     try simp only[h1,h6,h7,h8,A,B,C,E,F,J]
     refine M4 (A9r _ _ _ _ h11) V (A3f V ⟨A1r,A1r,V,⟨⟩⟩) V (uf V) ?_
     try simp only[h1,h6,h7,h8,A,B,C,E,F,J]
     refine D1 V V ?_
     obtain⟨r12,h12,h⟩:=ob h
     try simp only[h1,h6,h7,h8,A,B,C,E,F,J]
     refine M4 (A9r _ _ _ _ h12) V (A3f V ⟨A1r,A1r,V,⟨⟩⟩) V (uf V) ?_
     try simp only[h1,h6,h7,h8,A,B,C,E,F,J]
     refine D1 V V ?_
     rcases ic h with ⟨h13,h⟩|⟨h13,h⟩
     ·rcases ic h with ⟨h14,h⟩|⟨h14,h⟩
      ·rcases ic h with ⟨h15,h⟩|⟨h15,h⟩
       ·obtain⟨r16,h16,h⟩:=ob h
        try simp only[h1,h6,h7,h8,h13,h14,h15,A,B,C,E,F,J]
        refine M4 (A6h _ _ h16) V (A0d V) V (uf V) ?_
        obtain⟨r17,h17,h⟩:=ob h
        try simp only[h1,h6,h7,h8,h13,h14,h15,A,B,C,E,F,J]
        refine M4 (A6h _ _ h17) V (A0d V) V (uf V) ?_
        rcases ic h with ⟨h18,h⟩|⟨h18,h⟩
        ·try simp only[h1,h6,h7,h8,h13,h14,h15,h18,A,B,C,E,F,J]
         cases h
         trivial
        ·obtain⟨r19,h19,h⟩:=ob h
         try simp only[h1,h6,h7,h8,h13,h14,h15,h18,A,B,C,E,F,J]
         refine M4 (B0f _ _ h19) V (A0d V) V (uf V) ?_
         rcases ic h with ⟨h20,h⟩|⟨h20,h⟩
         ·obtain⟨r21,h21,h⟩:=ob h
          try simp only[h1,h6,h7,h8,h13,h14,h15,h18,h20,A,B,C,E,F,J]
          refine M4 (B0f _ _ h21) V (A0d V) V (uf V) ?_
          try simp only[h1,h6,h7,h8,h13,h14,h15,h18,h20,A,B,C,E,F,J]
          cases h
          trivial
         ·try simp only[h1,h6,h7,h8,h13,h14,h15,h18,h20,A,B,C,E,F,J]
          cases h
          trivial
       ·try simp only[h1,h6,h7,h8,h13,h14,h15,A,B,C,E,F,J]
        cases h
        trivial
      ·try simp only[h1,h6,h7,h8,h13,h14,A,B,C,E,F,J]
       cases h
       trivial
     ·try simp only[h1,h6,h7,h8,h13,A,B,C,E,F,J]
      cases h
      trivial
    ·try simp only[h1,h6,h7,h8,A,B,C,E,F,J]
     cases h
     trivial
   ·try simp only[h1,h6,h7,A,B,C,E,F,J]
    cases h
    trivial
  ·try simp only[h1,h6,A,B,C,E,F,J]
   cases h
   trivial
end Go.Vi
