/-
Walks. No condition.
-/
import Derived.Test.YtdgododldkbndaaGreatFNf
import Derived.Test.YtdgododldkbndaaGreatChecked
import Derived.Test.YtdgododldkbndaaGreatFVi41
import Derived.KernelRfl
import Derived.Test.YtdgododldkbndaaGreatFWFairPlanb
namespace Go.Vi
open Go.Proofs
set_option linter.all false
set_option maxRecDepth 4000
set_option maxHeartbeats 2000000
open Nat renaming reduceBEq → C, reduceMul → E, reduceAdd → F, reduceDiv → G, le_of_ble_eq_true → uf
open Int renaming reduceBEq → H
attribute [local irreducible] go Bd J4
open List renaming map → Y, map_nil → I, all_cons → zE, all_nil → zF, all_eq_true → zG, cons_append → zI, nil_append → zJ
open Tryz renaming prog → Z
open Int renaming reduceNegSucc → zA, reduceOfNat → zB, toNat → zC
open Xb renaming row → zD
open Xc renaming row → zH
open Xd renaming row → zK
open Bool renaming true → T, false → L
open Option renaming some → N, none → O
open _root_ renaming List → P, Option → Q, Int → U, Bool → V, Nat → W, rfl → X
/- 176:impl_Chart_routesFrom -/
def ON:P (P W × AItem):= [([],(O,.mv 18 (S 5))),([],(O,.mv 19 (S 5))),([1],(O,.nilc 20 (S 19))),([2],(O,.load 21 (S 20) L 1)),([],(O,.mv 22 (S 3))),([4],(O,.call 23 109 [(S 22)])),([5],(O,.bslice 24 1 [.sl []] 1 [(0,(S 23))])),([3,6,5],(O,.app 25 1 24 (S 21) (S 24))),([0,0,1,2,3,4,5,6,7],(O,.nilc 26 (S 18))),([8,7,7,0,1,2,3,4,5,6,7],(O,.store (S 26) (S 25) 1))]
def Lo:P (P W × AItem):= [([],(O,.load 48 (S 6) T 2)),([],(O,.mv 49 (S 14))),([],(O,.mv 50 (S 2))),([],(O,.mv 51 (S 3))),([3],(O,.call 52 109 [(S 51)])),([],(O,.mv 53 (S 12))),([5],(O,.bslice 54 1 [.int .i64 0] 1 [(0,(S 53))])),([4,6,4],(O,.app 55 1 8 (S 52) (S 54))),([],(O,.load 56 (S 10) T 8)),([],(O,.mv 57 (S 5))),([0,1,2,7,8,9,7],(O,.call 58 176 [(S 48),(S 49),(S 50),(S 55),(S 56),(S 57)]))]
def Q2:Hw:=([(15,[1,2,3,5,6,10,30,31,32],[99999999999,6,10],[90000]),(30,[1,2,3,5,6,10,12,14,30,31,32,47],[99999999999,6,10],[90000])],[])
abbrev D0(a3:P U)(wo3_ wo5_:AV)(c0_ c1_:V)(c2_ c3_:V)(c4_ c5_:V)(c6_ c7_ c8_:V)(bx_:P (W × P AC))(rs_:Rows):St:=⟨[(3,vc (aL (Y rI a3))),(5,vc (.pb 99999999999 0)),(18,bif c0_ then vc (.pb 99999999999 0) else .undef),(19,bif c1_ then vc (.pb 99999999999 0) else .undef),(20,bif c2_ then vc (.pb 99999999999 0) else .undef),(21,bif c3_ then wo3_ else .undef),(22,bif c4_ then vc (aL (Y rI a3)) else .undef),(23,bif c5_ then wo5_ else .undef),(24,bif c6_ then vc (.own 1536) else .undef),(25,bif c7_ then vc (.own 90000) else .undef),(26,bif c8_ then vc (.pb 99999999999 0) else .undef)],bx_,rs_⟩
abbrev Jm(a3:P U)(a5:P (P U))(r2:(P U)):St:=(D0 a3 (vc (.undef)) (vc (aL (Y rI r2))) T T T T T T T T T [(99999999999,[.own 90000])] [(90000,1,Y (rL rI) (a5++([r2]:P (P U)))),(1536,1,Y (rL rI) ([r2]:P (P U)))])
theorem A1t(rec_:X1→U→U→(P U)→X8→(P (P U))→Q (P (P U)))(h_rec:∀(a0:X1) (a1 a2:U) (a3:P U) (a4:X8) (a5:P (P U)) zr,rec_ a0 a1 a2 a3 a4 a5=N zr→FCz Z 176 [.d (.ag (X1.row a0)),.d (.sc (.int .i64 a1)),.d (.sc (.int .i64 a2)),.d (.sc (.sl (Y rI a3))),.d (.ag (X8.row a4)),.p] [.r 0] [(1,Y (rL rI) a5)] [.r 0] [(1,Y (rL rI) zr)] [])(a3)(a5:P (P U))(r2)(h2:BD a3=N r2)(h3:(A3 a5.length ([r2]:P (P U)).length 24)=T):∀(f:W),Ae Z ON (Jm a3 a5 r2) f [T,T,T,T,T,T,T,T,T,T] (D0 a3 (vc (.undef)) (vc (aL (Y rI r2))) T T T T T T T T T [(99999999999,[.own 90000])] [(90000,1,Y (rL rI) (a5++([r2]:P (P U)))),(1536,1,Y (rL rI) ([r2]:P (P U)))]):=by
 intro f
 induction f with
 | zero=>intro h; rfl
 | succ f ih=>
  refine Aj ⟨?_,?_,?_,?_,?_,?_,?_,?_,?_,?_,⟨⟩⟩<;>try first | (intro h; cases h; done)
theorem A1u(rec_:X1→U→U→(P U)→X8→(P (P U))→Q (P (P U)))(h_rec:∀(a0:X1) (a1 a2:U) (a3:P U) (a4:X8) (a5:P (P U)) zr,rec_ a0 a1 a2 a3 a4 a5=N zr→FCz Z 176 [.d (.ag (X1.row a0)),.d (.sc (.int .i64 a1)),.d (.sc (.int .i64 a2)),.d (.sc (.sl (Y rI a3))),.d (.ag (X8.row a4)),.p] [.r 0] [(1,Y (rL rI) a5)] [.r 0] [(1,Y (rL rI) zr)] [])(a3)(a5:P (P U))(r2)(h2:BD a3=N r2)(h3:(A3 a5.length ([r2]:P (P U)).length 24)=T):∀(f:W) (b0 b1:V) (b2 b8:V),Ae Z ON (Jm a3 a5 r2) f [b0,b1,b2,T,T,T,T,T,b8,L] (D0 a3 (vc (.undef)) (vc (aL (Y rI r2))) b0 b1 b2 T T T T T b8 [(99999999999,[.undef])] [(90000,1,Y (rL rI) (a5++([r2]:P (P U)))),(1536,1,Y (rL rI) ([r2]:P (P U)))]):=by
 intro f
 induction f with
 | zero=>intro b0 b1 b2 b8 h; simp at h
 | succ f ih=>
  intro b0 b1 b2 b8;refine Aj ⟨?_,?_,?_,?_,?_,?_,?_,?_,?_,?_,⟨⟩⟩<;>try first | (intro h; cases h; done) | (intro h0 hw; obtain rfl:=hz h0 rfl; (try obtain rfl:=hq hw 0 rfl rfl); (try obtain rfl:=hq hw 1 rfl rfl); (try obtain rfl:=hq hw 2 rfl rfl); refine np ?_; simp only[D0,A6,A7,A2,C,E,F,G,H,J]; exact ih _ _ _ _)
  ·intro h0 hw;obtain rfl:=hq hw 0 rfl rfl;obtain rfl:=hq hw 1 rfl rfl;obtain rfl:=hq hw 2 rfl rfl;obtain rfl:=hq hw 8 rfl rfl;refine np ?_;try simp only[D0,A6,A7,A2,C,E,F,G,H,J]
   exact A1t rec_ h_rec a3 a5 r2 h2 h3 _
theorem A1v(rec_:X1→U→U→(P U)→X8→(P (P U))→Q (P (P U)))(h_rec:∀(a0:X1) (a1 a2:U) (a3:P U) (a4:X8) (a5:P (P U)) zr,rec_ a0 a1 a2 a3 a4 a5=N zr→FCz Z 176 [.d (.ag (X1.row a0)),.d (.sc (.int .i64 a1)),.d (.sc (.int .i64 a2)),.d (.sc (.sl (Y rI a3))),.d (.ag (X8.row a4)),.p] [.r 0] [(1,Y (rL rI) a5)] [.r 0] [(1,Y (rL rI) zr)] [])(a3)(a5:P (P U))(r2)(h2:BD a3=N r2)(h3:(A3 a5.length ([r2]:P (P U)).length 24)=T):∀(f:W) (b0 b1:V) (b2 b3:V),Ae Z ON (Jm a3 a5 r2) f [b0,b1,b2,b3,T,T,T,L,L,L] (D0 a3 (vc (.own 90000)) (vc (aL (Y rI r2))) b0 b1 b2 b3 T T T L L [(99999999999,[.own 90000])] [(90000,1,Y (rL rI) a5),(1536,1,Y (rL rI) ([r2]:P (P U)))]):=by
 intro f
 induction f with
 | zero=>intro b0 b1 b2 b3 h; simp at h
 | succ f ih=>
  intro b0 b1 b2 b3;refine Aj ⟨?_,?_,?_,?_,?_,?_,?_,?_,?_,?_,⟨⟩⟩<;>try first | (intro h; cases h; done) | (intro _ hw; simp at hw; done) | (intro h0 hw; obtain rfl:=hz h0 rfl; (try obtain rfl:=hq hw 1 rfl rfl); (try obtain rfl:=hq hw 2 rfl rfl); refine np ?_; simp only[D0,A6,A7,A2,C,E,F,G,H,J]; exact ih _ _ _ _)
  ·intro h0 hw;obtain rfl:=hq hw 3 rfl rfl;refine np ?_;try simp only[h3,D0,A6,A7,A2,C,E,F,G,H,J]
   exact A1u rec_ h_rec a3 a5 r2 h2 h3 _ b0 b1 b2 L
theorem A1w(rec_:X1→U→U→(P U)→X8→(P (P U))→Q (P (P U)))(h_rec:∀(a0:X1) (a1 a2:U) (a3:P U) (a4:X8) (a5:P (P U)) zr,rec_ a0 a1 a2 a3 a4 a5=N zr→FCz Z 176 [.d (.ag (X1.row a0)),.d (.sc (.int .i64 a1)),.d (.sc (.int .i64 a2)),.d (.sc (.sl (Y rI a3))),.d (.ag (X8.row a4)),.p] [.r 0] [(1,Y (rL rI) a5)] [.r 0] [(1,Y (rL rI) zr)] [])(a3)(a5:P (P U))(r2)(h2:BD a3=N r2)(h3:(A3 a5.length ([r2]:P (P U)).length 24)=T):∀(f:W) (b0 b1:V) (b2 b3:V),Ae Z ON (Jm a3 a5 r2) f [b0,b1,b2,b3,T,T,L,L,L,L] (D0 a3 (vc (.own 90000)) (vc (.own 1472)) b0 b1 b2 b3 T T L L L [(99999999999,[.own 90000])] [(90000,1,Y (rL rI) a5),(1472,1,Y rI r2)]):=by
 intro f
 induction f with
 | zero=>intro b0 b1 b2 b3 h; simp at h
 | succ f ih=>
  intro b0 b1 b2 b3;refine Aj ⟨?_,?_,?_,?_,?_,?_,?_,?_,?_,?_,⟨⟩⟩<;>try first | (intro h; cases h; done) | (intro _ hw; simp at hw; done) | (intro h0 hw; obtain rfl:=hz h0 rfl; (try obtain rfl:=hq hw 1 rfl rfl); (try obtain rfl:=hq hw 2 rfl rfl); refine np ?_; simp only[D0,A6,A7,A2,C,E,F,G,H,J]; exact ih _ _ _ _)
  ·intro h0 hw;refine⟨[(O,.frz 1472)],[],X,X,?_⟩;try simp only[D0,A6,A7,zJ,zI,A2,C,E,F,G,H,J]
   refine Cq ?_;try simp only[A2,C,E,F,G,H,J]
   refine At (es:=Y (rL rI) ([r2]:P (P U))) X (by simp only[St.fresh,zE,zF,Ak]; simp[AV.cells,V1.cells,AC.uses]) ?_;try simp only[A2,C,E,F,G,H,J]
   exact A1v rec_ h_rec a3 a5 r2 h2 h3 _ b0 b1 b2 b3
theorem A1x(rec_:X1→U→U→(P U)→X8→(P (P U))→Q (P (P U)))(h_rec:∀(a0:X1) (a1 a2:U) (a3:P U) (a4:X8) (a5:P (P U)) zr,rec_ a0 a1 a2 a3 a4 a5=N zr→FCz Z 176 [.d (.ag (X1.row a0)),.d (.sc (.int .i64 a1)),.d (.sc (.int .i64 a2)),.d (.sc (.sl (Y rI a3))),.d (.ag (X8.row a4)),.p] [.r 0] [(1,Y (rL rI) a5)] [.r 0] [(1,Y (rL rI) zr)] [])(a3)(a5:P (P U))(r2)(h2:BD a3=N r2)(h3:(A3 a5.length ([r2]:P (P U)).length 24)=T):∀(f:W) (b0 b1:V) (b2 b3 b4:V),Ae Z ON (Jm a3 a5 r2) f [b0,b1,b2,b3,b4,L,L,L,L,L] (D0 a3 (vc (.own 90000)) (vc (.own 1472)) b0 b1 b2 b3 b4 L L L L [(99999999999,[.own 90000])] [(90000,1,Y (rL rI) a5)]):=by
 intro f
 induction f with
 | zero=>intro b0 b1 b2 b3 b4 h; simp at h
 | succ f ih=>
  intro b0 b1 b2 b3 b4;refine Aj ⟨?_,?_,?_,?_,?_,?_,?_,?_,?_,?_,⟨⟩⟩<;>try first | (intro _ hw; simp at hw; done) | (intro h0 hw; obtain rfl:=hz h0 rfl; (try obtain rfl:=hq hw 1 rfl rfl); (try obtain rfl:=hq hw 2 rfl rfl); refine np ?_; simp only[D0,A6,A7,A2,C,E,F,G,H,J]; exact ih _ _ _ _ _)
  ·intro h0 hw;obtain rfl:=hq hw 4 rfl rfl;refine np ?_;try simp only[D0,A6,A7,A2,C,E,F,G,H,J]
   refine KT (Ac QO h2) X (by simp only[St.fresh,zE,zF,Ak]; simp[AV.cells,V1.cells,AC.uses]) (uf X) ?_;try simp only[A2,C,E,F,G,H,J]
   exact A1w rec_ h_rec a3 a5 r2 h2 h3 _ b0 b1 b2 b3
abbrev Ck(a1 a2:U)(a3:P U)(v6 r11:U)(a0:X1)(y7:X8)(wo4_ wo7_:AV)(c0_ c1_:V)(c2_ c3_:V)(c4_ c5_:V)(c6_ c7_:V)(c8_ c9_ c10_:V)(bx_:P (W × P AC))(rs_:Rows):St:=⟨[(1,vc (aI a1)),(2,vc (aI a2)),(3,vc (aL (Y rI a3))),(5,vc (.pb 99999999999 0)),(6,vc (.pb 6 0)),(10,vc (.pb 10 0)),(12,vc (aI v6)),(14,vc (aI r11)),(30,vc (aL (Y X2.row a0.Segments))),(31,vc (aI (a0.Segments.length:U))),(32,vc (aI v6)),(48,bif c0_ then va [aL (Y X7.row a0.Points),aL (Y X2.row a0.Segments)] else .undef),(49,bif c1_ then vc (aI r11) else .undef),(50,bif c2_ then vc (aI a2) else .undef),(51,bif c3_ then vc (aL (Y rI a3)) else .undef),(52,bif c4_ then wo4_ else .undef),(53,bif c5_ then vc (aI v6) else .undef),(54,bif c6_ then vc (.own 3456) else .undef),(55,bif c7_ then wo7_ else .undef),(56,bif c8_ then va [aB y7.i0,aB y7.i1,aB y7.i2,aB y7.i3,aB y7.i4,aB y7.i5,aB y7.i6,aB y7.i7] else .undef),(57,bif c9_ then vc (.pb 99999999999 0) else .undef),(58,bif c10_ then .tup [] else .undef)],bx_,rs_⟩
abbrev Hb(a1 a2:U)(a3:P U)(v6 r11:U)(a0:X1)(y7:X8)(r18:(P U))(r20:(P (P U))):St:=(Ck a1 a2 a3 v6 r11 a0 y7 (vc (.undef)) (vc (aL (Y rI (r18++([v6]:P U))))) T T T T T T T T T T T [(99999999999,[.own 90000]),(6,[aL (Y X7.row a0.Points),aL (Y X2.row a0.Segments)]),(10,[aB y7.i0,aB y7.i1,aB y7.i2,aB y7.i3,aB y7.i4,aB y7.i5,aB y7.i6,aB y7.i7])] [(90000,1,Y (rL rI) r20),(3456,1,Y rI ([v6]:P U))])
theorem A1y(rec_:X1→U→U→(P U)→X8→(P (P U))→Q (P (P U)))(h_rec:∀(a0:X1) (a1 a2:U) (a3:P U) (a4:X8) (a5:P (P U)) zr,rec_ a0 a1 a2 a3 a4 a5=N zr→FCz Z 176 [.d (.ag (X1.row a0)),.d (.sc (.int .i64 a1)),.d (.sc (.int .i64 a2)),.d (.sc (.sl (Y rI a3))),.d (.ag (X8.row a4)),.p] [.r 0] [(1,Y (rL rI) a5)] [.r 0] [(1,Y (rL rI) zr)] [])(a1:U)(a2)(a3)(v6)(r11)(a0)(y7)(v8)(r18)(r20)(h18:BD a3=N r18)(h19:(A3 r18.length ([v6]:P U).length 8)=T)(h20:rec_ a0 r11 a2 (r18++([v6]:P U)) y7 v8=N r20):∀(f:W),Ae Z Lo (Hb a1 a2 a3 v6 r11 a0 y7 r18 r20) f [T,T,T,T,T,T,T,T,T,T,T] (Ck a1 a2 a3 v6 r11 a0 y7 (vc (.undef)) (vc (aL (Y rI (r18++([v6]:P U))))) T T T T T T T T T T T [(99999999999,[.own 90000]),(6,[aL (Y X7.row a0.Points),aL (Y X2.row a0.Segments)]),(10,[aB y7.i0,aB y7.i1,aB y7.i2,aB y7.i3,aB y7.i4,aB y7.i5,aB y7.i6,aB y7.i7])] [(90000,1,Y (rL rI) r20),(3456,1,Y rI ([v6]:P U))]):=by
 intro f
 induction f with
 | zero=>intro h; rfl
 | succ f ih=>
  refine Aj ⟨?_,?_,?_,?_,?_,?_,?_,?_,?_,?_,?_,⟨⟩⟩<;>try first | (intro h; cases h; done)
theorem A1z(rec_:X1→U→U→(P U)→X8→(P (P U))→Q (P (P U)))(h_rec:∀(a0:X1) (a1 a2:U) (a3:P U) (a4:X8) (a5:P (P U)) zr,rec_ a0 a1 a2 a3 a4 a5=N zr→FCz Z 176 [.d (.ag (X1.row a0)),.d (.sc (.int .i64 a1)),.d (.sc (.int .i64 a2)),.d (.sc (.sl (Y rI a3))),.d (.ag (X8.row a4)),.p] [.r 0] [(1,Y (rL rI) a5)] [.r 0] [(1,Y (rL rI) zr)] [])(a1:U)(a2)(a3)(v6)(r11)(a0)(y7)(v8)(r18)(r20)(h18:BD a3=N r18)(h19:(A3 r18.length ([v6]:P U).length 8)=T)(h20:rec_ a0 r11 a2 (r18++([v6]:P U)) y7 v8=N r20):∀(f:W) (b0 b1:V) (b2 b8 b9:V),Ae Z Lo (Hb a1 a2 a3 v6 r11 a0 y7 r18 r20) f [b0,b1,b2,T,T,T,T,T,b8,b9,L] (Ck a1 a2 a3 v6 r11 a0 y7 (vc (.undef)) (vc (.own 3328)) b0 b1 b2 T T T T T b8 b9 L [(99999999999,[.own 90000]),(6,[aL (Y X7.row a0.Points),aL (Y X2.row a0.Segments)]),(10,[aB y7.i0,aB y7.i1,aB y7.i2,aB y7.i3,aB y7.i4,aB y7.i5,aB y7.i6,aB y7.i7])] [(90000,1,Y (rL rI) v8),(3328,1,Y rI (r18++([v6]:P U))),(3456,1,Y rI ([v6]:P U))]):=by
 intro f
 induction f with
 | zero=>intro b0 b1 b2 b8 b9 h; simp at h
 | succ f ih=>
  intro b0 b1 b2 b8 b9;refine Aj ⟨?_,?_,?_,?_,?_,?_,?_,?_,?_,?_,?_,⟨⟩⟩<;>try first | (intro h; cases h; done) | (intro h0 hw; obtain rfl:=hz h0 rfl; refine np ?_; simp only[Ck,A6,A7,A2,C,E,F,G,H,J]; exact ih _ _ _ _ _)
  ·intro h0 hw;obtain rfl:=hq hw 0 rfl rfl;obtain rfl:=hq hw 1 rfl rfl;obtain rfl:=hq hw 2 rfl rfl;obtain rfl:=hq hw 8 rfl rfl;obtain rfl:=hq hw 9 rfl rfl;refine⟨[(O,.frz 3328)],[],X,X,?_⟩;try simp only[Ck,A6,A7,zJ,zI,A2,C,E,F,G,H,J]
   refine Cq ?_;try simp only[A2,C,E,F,G,H,J]
   refine FI (h_rec _ _ _ _ _ _ _ h20) 99999999999 [90000] rfl X X X (by decide) X X X ?_;try simp only[A2,C,E,F,G,H,J]
   exact A1y rec_ h_rec a1 a2 a3 v6 r11 a0 y7 v8 r18 r20 h18 h19 h20 _
theorem aE(rec_:X1→U→U→(P U)→X8→(P (P U))→Q (P (P U)))(h_rec:∀(a0:X1) (a1 a2:U) (a3:P U) (a4:X8) (a5:P (P U)) zr,rec_ a0 a1 a2 a3 a4 a5=N zr→FCz Z 176 [.d (.ag (X1.row a0)),.d (.sc (.int .i64 a1)),.d (.sc (.int .i64 a2)),.d (.sc (.sl (Y rI a3))),.d (.ag (X8.row a4)),.p] [.r 0] [(1,Y (rL rI) a5)] [.r 0] [(1,Y (rL rI) zr)] [])(a1:U)(a2)(a3)(v6)(r11)(a0)(y7)(v8)(r18)(r20)(h18:BD a3=N r18)(h19:(A3 r18.length ([v6]:P U).length 8)=T)(h20:rec_ a0 r11 a2 (r18++([v6]:P U)) y7 v8=N r20):∀(f:W) (b0 b1:V) (b2 b8 b9:V),Ae Z Lo (Hb a1 a2 a3 v6 r11 a0 y7 r18 r20) f [b0,b1,b2,T,T,T,T,L,b8,b9,L] (Ck a1 a2 a3 v6 r11 a0 y7 (vc (.own 3328)) (vc (.own 3328)) b0 b1 b2 T T T T L b8 b9 L [(99999999999,[.own 90000]),(6,[aL (Y X7.row a0.Points),aL (Y X2.row a0.Segments)]),(10,[aB y7.i0,aB y7.i1,aB y7.i2,aB y7.i3,aB y7.i4,aB y7.i5,aB y7.i6,aB y7.i7])] [(90000,1,Y (rL rI) v8),(3328,1,Y rI r18),(3456,1,Y rI ([v6]:P U))]):=by
 intro f
 induction f with
 | zero=>intro b0 b1 b2 b8 b9 h; simp at h
 | succ f ih=>
  intro b0 b1 b2 b8 b9;refine Aj ⟨?_,?_,?_,?_,?_,?_,?_,?_,?_,?_,?_,⟨⟩⟩<;>try first | (intro h; cases h; done) | (intro _ hw; simp at hw; done) | (intro h0 hw; obtain rfl:=hz h0 rfl; refine np ?_; simp only[Ck,A6,A7,A2,C,E,F,G,H,J]; exact ih _ _ _ _ _)
  ·intro h0 hw;refine np ?_;try simp only[h19,Ck,A6,A7,A2,C,E,F,G,H,J]
   exact A1z rec_ h_rec a1 a2 a3 v6 r11 a0 y7 v8 r18 r20 h18 h19 h20 _ b0 b1 b2 b8 b9
theorem A11(rec_:X1→U→U→(P U)→X8→(P (P U))→Q (P (P U)))(h_rec:∀(a0:X1) (a1 a2:U) (a3:P U) (a4:X8) (a5:P (P U)) zr,rec_ a0 a1 a2 a3 a4 a5=N zr→FCz Z 176 [.d (.ag (X1.row a0)),.d (.sc (.int .i64 a1)),.d (.sc (.int .i64 a2)),.d (.sc (.sl (Y rI a3))),.d (.ag (X8.row a4)),.p] [.r 0] [(1,Y (rL rI) a5)] [.r 0] [(1,Y (rL rI) zr)] [])(a1:U)(a2)(a3)(v6)(r11)(a0)(y7)(v8)(r18)(r20)(h18:BD a3=N r18)(h19:(A3 r18.length ([v6]:P U).length 8)=T)(h20:rec_ a0 r11 a2 (r18++([v6]:P U)) y7 v8=N r20):∀(f:W) (b0 b1:V) (b2 b5:V) (b8 b9:V),Ae Z Lo (Hb a1 a2 a3 v6 r11 a0 y7 r18 r20) f [b0,b1,b2,T,T,b5,L,L,b8,b9,L] (Ck a1 a2 a3 v6 r11 a0 y7 (vc (.own 3328)) (vc (.own 3328)) b0 b1 b2 T T b5 L L b8 b9 L [(99999999999,[.own 90000]),(6,[aL (Y X7.row a0.Points),aL (Y X2.row a0.Segments)]),(10,[aB y7.i0,aB y7.i1,aB y7.i2,aB y7.i3,aB y7.i4,aB y7.i5,aB y7.i6,aB y7.i7])] [(90000,1,Y (rL rI) v8),(3328,1,Y rI r18)]):=by
 intro f
 induction f with
 | zero=>intro b0 b1 b2 b5 b8 b9 h; simp at h
 | succ f ih=>
  intro b0 b1 b2 b5 b8 b9;refine Aj ⟨?_,?_,?_,?_,?_,?_,?_,?_,?_,?_,?_,⟨⟩⟩<;>try first | (intro h; cases h; done) | (intro _ hw; simp at hw; done) | (intro h0 hw; obtain rfl:=hz h0 rfl; refine np ?_; simp only[Ck,A6,A7,A2,C,E,F,G,H,J]; exact ih _ _ _ _ _ _)
  ·intro h0 hw;obtain rfl:=hq hw 5 rfl rfl;refine np ?_;try simp only[Ck,A6,A7,A2,C,E,F,G,H,J]
   refine At (es:=Y rI ([v6]:P U)) X (by simp only[St.fresh,zE,zF,Ak]; simp[AV.cells,V1.cells,AC.uses]) ?_;try simp only[A2,C,E,F,G,H,J]
   exact aE rec_ h_rec a1 a2 a3 v6 r11 a0 y7 v8 r18 r20 h18 h19 h20 _ b0 b1 b2 b8 b9
theorem A12(rec_:X1→U→U→(P U)→X8→(P (P U))→Q (P (P U)))(h_rec:∀(a0:X1) (a1 a2:U) (a3:P U) (a4:X8) (a5:P (P U)) zr,rec_ a0 a1 a2 a3 a4 a5=N zr→FCz Z 176 [.d (.ag (X1.row a0)),.d (.sc (.int .i64 a1)),.d (.sc (.int .i64 a2)),.d (.sc (.sl (Y rI a3))),.d (.ag (X8.row a4)),.p] [.r 0] [(1,Y (rL rI) a5)] [.r 0] [(1,Y (rL rI) zr)] [])(a1:U)(a2)(a3)(v6)(r11)(a0)(y7)(v8)(r18)(r20)(h18:BD a3=N r18)(h19:(A3 r18.length ([v6]:P U).length 8)=T)(h20:rec_ a0 r11 a2 (r18++([v6]:P U)) y7 v8=N r20):∀(f:W) (b0 b1:V) (b2 b3:V) (b8 b9:V),Ae Z Lo (Hb a1 a2 a3 v6 r11 a0 y7 r18 r20) f [b0,b1,b2,b3,L,T,T,L,b8,b9,L] (Ck a1 a2 a3 v6 r11 a0 y7 (vc (.own 3328)) (vc (.own 3328)) b0 b1 b2 b3 L T T L b8 b9 L [(99999999999,[.own 90000]),(6,[aL (Y X7.row a0.Points),aL (Y X2.row a0.Segments)]),(10,[aB y7.i0,aB y7.i1,aB y7.i2,aB y7.i3,aB y7.i4,aB y7.i5,aB y7.i6,aB y7.i7])] [(90000,1,Y (rL rI) v8),(3456,1,Y rI ([v6]:P U))]):=by
 intro f
 induction f with
 | zero=>intro b0 b1 b2 b3 b8 b9 h; simp at h
 | succ f ih=>
  intro b0 b1 b2 b3 b8 b9;refine Aj ⟨?_,?_,?_,?_,?_,?_,?_,?_,?_,?_,?_,⟨⟩⟩<;>try first | (intro h; cases h; done) | (intro _ hw; simp at hw; done) | (intro h0 hw; obtain rfl:=hz h0 rfl; refine np ?_; simp only[Ck,A6,A7,A2,C,E,F,G,H,J]; exact ih _ _ _ _ _ _)
  ·intro h0 hw;obtain rfl:=hq hw 3 rfl rfl;refine⟨[],[(O,.keep [1,2,3,5,6,10,12,14,30,31,32,48,49,50,51,52,53,54,55,56,57,58] [99999999999,6,10] [90000,3328,3456])],X,X,?_⟩;try simp only[Ck,A6,A7,zJ,zI,A2,C,E,F,G,H,J]
   refine KT (Ac QO h18) X (by simp only[St.fresh,zE,zF,Ak]; simp[AV.cells,V1.cells,AC.uses]) (uf X) ?_;try simp only[A2,C,E,F,G,H,J]
   exact aE rec_ h_rec a1 a2 a3 v6 r11 a0 y7 v8 r18 r20 h18 h19 h20 _ b0 b1 b2 b8 b9
theorem A13(rec_:X1→U→U→(P U)→X8→(P (P U))→Q (P (P U)))(h_rec:∀(a0:X1) (a1 a2:U) (a3:P U) (a4:X8) (a5:P (P U)) zr,rec_ a0 a1 a2 a3 a4 a5=N zr→FCz Z 176 [.d (.ag (X1.row a0)),.d (.sc (.int .i64 a1)),.d (.sc (.int .i64 a2)),.d (.sc (.sl (Y rI a3))),.d (.ag (X8.row a4)),.p] [.r 0] [(1,Y (rL rI) a5)] [.r 0] [(1,Y (rL rI) zr)] [])(a1:U)(a2)(a3)(v6)(r11)(a0)(y7)(v8)(r18)(r20)(h18:BD a3=N r18)(h19:(A3 r18.length ([v6]:P U).length 8)=T)(h20:rec_ a0 r11 a2 (r18++([v6]:P U)) y7 v8=N r20):∀(f:W) (b0 b1:V) (b2 b3:V) (b5 b8 b9:V),Ae Z Lo (Hb a1 a2 a3 v6 r11 a0 y7 r18 r20) f [b0,b1,b2,b3,L,b5,L,L,b8,b9,L] (Ck a1 a2 a3 v6 r11 a0 y7 (vc (.own 3328)) (vc (.own 3328)) b0 b1 b2 b3 L b5 L L b8 b9 L [(99999999999,[.own 90000]),(6,[aL (Y X7.row a0.Points),aL (Y X2.row a0.Segments)]),(10,[aB y7.i0,aB y7.i1,aB y7.i2,aB y7.i3,aB y7.i4,aB y7.i5,aB y7.i6,aB y7.i7])] [(90000,1,Y (rL rI) v8)]):=by
 intro f
 induction f with
 | zero=>intro b0 b1 b2 b3 b5 b8 b9 h; simp at h
 | succ f ih=>
  intro b0 b1 b2 b3 b5 b8 b9;refine Aj ⟨?_,?_,?_,?_,?_,?_,?_,?_,?_,?_,?_,⟨⟩⟩<;>try first | (intro _ hw; simp at hw; done) | (intro h0 hw; obtain rfl:=hz h0 rfl; refine np ?_; simp only[Ck,A6,A7,A2,C,E,F,G,H,J]; exact ih _ _ _ _ _ _ _)
  ·intro h0 hw;obtain rfl:=hq hw 3 rfl rfl;refine np ?_;try simp only[Ck,A6,A7,A2,C,E,F,G,H,J]
   refine KT (Ac QO h18) X (by simp only[St.fresh,zE,zF,Ak]; simp[AV.cells,V1.cells,AC.uses]) (uf X) ?_;try simp only[A2,C,E,F,G,H,J]
   exact A11 rec_ h_rec a1 a2 a3 v6 r11 a0 y7 v8 r18 r20 h18 h19 h20 _ b0 b1 b2 b5 b8 b9
  ·intro h0 hw;obtain rfl:=hq hw 5 rfl rfl;refine np ?_;try simp only[Ck,A6,A7,A2,C,E,F,G,H,J]
   refine At (es:=Y rI ([v6]:P U)) X (by simp only[St.fresh,zE,zF,Ak]; simp[AV.cells,V1.cells,AC.uses]) ?_;try simp only[A2,C,E,F,G,H,J]
   exact A12 rec_ h_rec a1 a2 a3 v6 r11 a0 y7 v8 r18 r20 h18 h19 h20 _ b0 b1 b2 b3 b8 b9
def bU:=fun a1 a2 a3 v6 r11 (a0:X1) (y7:X8) v8 (k_:V→Q (P (P U)))=>∀{v16} {zr},k_ v16=N zr→Kh Z 176 Q2 30 [1,2,3,5,6,10,12,14,30,31,32,47] [99999999999,6,10] [90000] ⟨[pI 1 a1,pI 2 a2,pL 3 rI a3,(5,vc (.pb 99999999999 0)),pB 6,pB 10,pI 12 v6,pI 14 r11,pL 30 X2.row a0.Segments,pI 31 (a0.Segments.length:U),pI 32 v6,(47,vc (aB v16))],[(99999999999,[.own 90000]),(6,[aM X7.row a0.Points,aM X2.row a0.Segments]),(10,[aB y7.i0,aB y7.i1,aB y7.i2,aB y7.i3,aB y7.i4,aB y7.i5,aB y7.i6,aB y7.i7])],[(90000,1,Y (rL rI) v8)]⟩ (D3 [] [] [.r 0] [(1,Y (rL rI) zr)])
def TI:=fun a1 a2 a3 (a0:X1) (y7:X8) (k_:U→(P (P U))→Q (P (P U)))=>∀{v6 v8} {zr},k_ v6 v8=N zr→Kh Z 176 Q2 15 [1,2,3,5,6,10,30,31,32] [99999999999,6,10] [90000] ⟨[pI 1 a1,pI 2 a2,pL 3 rI a3,(5,vc (.pb 99999999999 0)),pB 6,pB 10,pL 30 X2.row a0.Segments,pI 31 (a0.Segments.length:U),pI 32 v6],[(99999999999,[.own 90000]),(6,[aM X7.row a0.Points,aM X2.row a0.Segments]),(10,[aB y7.i0,aB y7.i1,aB y7.i2,aB y7.i3,aB y7.i4,aB y7.i5,aB y7.i6,aB y7.i7])],[(90000,1,Y (rL rI) v8)]⟩ (D3 [] [] [.r 0] [(1,Y (rL rI) zr)])
theorem aF{rec_:X1→U→U→(P U)→X8→(P (P U))→Q (P (P U))}(h_rec:∀(a0:X1) (a1 a2:U) (a3:P U) (a4:X8) (a5:P (P U)) zr,rec_ a0 a1 a2 a3 a4 a5=N zr→FCz Z 176 [.d (.ag (X1.row a0)),.d (.sc (.int .i64 a1)),.d (.sc (.int .i64 a2)),.d (.sc (.sl (Y rI a3))),.d (.ag (X8.row a4)),.p] [.r 0] [(1,Y (rL rI) a5)] [.r 0] [(1,Y (rL rI) zr)] []){a1 a2 a3 v6 r11 a0 y7 v8}{NX}(WB:TI a1 a2 a3 a0 y7 NX):bU a1 a2 a3 v6 r11 a0 y7 v8 (Hv rec_ a1 a2 a3 v6 r11 a0 y7 v8 NX):=by
 intro v16 r h σ hσ S hS
 conv at hS=>rhs; reduce
 try simp only[zB,zA,Ah,UInt8.reduceOfNat] at hS
 subst hS;refine Ay ?_;unfold Hv at h;obtain⟨h17,h⟩|⟨h17,h⟩:=ic h
 ·try simp only[hσ,h17,C,E,F,G,H,J]
  obtain⟨r18,h18,h⟩:=ob h;obtain⟨h19,h⟩:=AW h;obtain⟨r20,h20,h⟩:=ob h;refine EA (ks:= [1,2,3,5,6,10,12,14,30,31,32]) (bs:= [99999999999,6,10]) (rs:= [90000]) (τ:=(Hb a1 a2 a3 v6 r11 a0 y7 r18 r20)) X (A13 rec_ h_rec a1 a2 a3 v6 r11 a0 y7 v8 r18 r20 h18 h19 h20 _ L L L L L L L) ?_;simp only[Hb,Ck,A6];try simp only[h17,h19,C,E,F,G,H,J]
  refine WB h ?_ (by kernel_rfl);try simp only[h17,h19,C,E,F,G,H,J,pL,aM,I]
 ·try simp only[hσ,h17,C,E,F,G,H,J]
  refine WB h ?_ (by kernel_rfl);try simp only[h17,C,E,F,G,H,J,pL,aM,I]
theorem A14{rec_:X1→U→U→(P U)→X8→(P (P U))→Q (P (P U))}(h_rec:∀(a0:X1) (a1 a2:U) (a3:P U) (a4:X8) (a5:P (P U)) zr,rec_ a0 a1 a2 a3 a4 a5=N zr→FCz Z 176 [.d (.ag (X1.row a0)),.d (.sc (.int .i64 a1)),.d (.sc (.int .i64 a2)),.d (.sc (.sl (Y rI a3))),.d (.ag (X8.row a4)),.p] [.r 0] [(1,Y (rL rI) a5)] [.r 0] [(1,Y (rL rI) zr)] []){a1 a2 a3 a0 y7}{n:W}:TI a1 a2 a3 a0 y7 (Gd rec_ a1 a2 a3 a0 y7 n):=by
 induction n with
 | zero=>intro _ _ r h; cases h
 | succ n ih=>
  intro v6 v8 r h σ hσ S hS
  conv at hS=>rhs; reduce
  try simp only[zB,zA,Ah,UInt8.reduceOfNat] at hS
  subst hS;rw[Gd] at h;refine AM (Ay ?_);obtain⟨h9,h⟩|⟨h9,h⟩:=ic h
  ·obtain⟨x10,h10,h⟩:=ob h;try simp only[hσ,h9,h10,C,E,F,G,H,J]
   refine By ?_;obtain⟨r11,h11,h⟩:=ob h;try simp only[h9,h10,C,E,F,G,H,J]
   refine AJ (Ac ZP h11) ?_;obtain⟨h12,h⟩|⟨h12,h⟩:=ic h
   ·obtain⟨h13,h⟩:=AW h;try simp only[h9,h10,h12,C,E,F,G,H,J]
    refine NJ X X h13 ?_;obtain⟨x14,h14,h⟩:=ob h;have h14n:=Av h14;have hA15:([aB y7.i0,aB y7.i1,aB y7.i2,aB y7.i3,aB y7.i4,aB y7.i5,aB y7.i6,aB y7.i7]:P AC)[zC r11]?=N (aB x14):=Un h14n;try simp only[h9,h10,h12,hA15,C,E,F,G,H,J]
    refine aF h_rec ih h ?_ (by kernel_rfl);try simp only[h9,h10,h12,hA15,C,E,F,G,H,J,pL,aM,I]
   ·try simp only[h9,h10,h12,C,E,F,G,H,J]
    refine aF h_rec ih h ?_ (by kernel_rfl);try simp only[h9,h10,h12,C,E,F,G,H,J,pL,aM,I]
  ·try simp only[hσ,h9,C,E,F,G,H,J]
   cases h;exact⟨trivial,[90000],by decide,by decide,X,X⟩
theorem jz:B4 Z 176=N ((BY Z 176 Q2).strip,[],60):=by kernel_rfl
theorem xG(rec_:X1→U→U→(P U)→X8→(P (P U))→Q (P (P U)))(a0:X1)(a1 a2:U)(a3:P U)(a4:X8)(a5:P (P U))(r:(P (P U)))(h_rec:∀(a0:X1) (a1 a2:U) (a3:P U) (a4:X8) (a5:P (P U)) zr,rec_ a0 a1 a2 a3 a4 a5=N zr→FCz Z 176 [.d (.ag (X1.row a0)),.d (.sc (.int .i64 a1)),.d (.sc (.int .i64 a2)),.d (.sc (.sl (Y rI a3))),.d (.ag (X8.row a4)),.p] [.r 0] [(1,Y (rL rI) a5)] [.r 0] [(1,Y (rL rI) zr)] [])(h:Pf rec_ a0 a1 a2 a3 a4 a5=N r):FCz Z 176 [.d (.ag (X1.row a0)),.d (.sc (.int .i64 a1)),.d (.sc (.int .i64 a2)),.d (.sc (.sl (Y rI a3))),.d (.ag (X8.row a4)),.p] [.r 0] [(1,Y (rL rI) a5)] [.r 0] [(1,Y (rL rI) r)] []:=by
 unfold Pf at h;refine Lq (σ:=⟨[(0,va [aL (Y X7.row a0.Points),aL (Y X2.row a0.Segments)]),(1,vc (aI a1)),(2,vc (aI a2)),(3,vc (aL (Y rI a3))),(4,va [aB a4.i0,aB a4.i1,aB a4.i2,aB a4.i3,aB a4.i4,aB a4.i5,aB a4.i6,aB a4.i7]),(5,vc (.pb 99999999999 0))],[(99999999999,[.own 90000])],[(90000,1,Y (rL rI) a5)]⟩) A4 jz X X X X ?_;refine C9 Q2 ?_;intro S hS
 conv at hS=>rhs; reduce
 try simp only[zB,zA,Ah,UInt8.reduceOfNat] at hS
 subst hS;try simp only[C,E,F,G,H,J]
 refine Bk ?_;try simp only[C,E,F,G,H,J]
 refine Bk ?_;obtain⟨h1,h⟩|⟨h1,h⟩:=ic h
 ·try simp only[h1,C,E,F,G,H,J]
  obtain⟨r2,h2,h⟩:=ob h;obtain⟨h3,h⟩:=AW h;refine EA (ks:= [3,5]) (bs:= [99999999999]) (rs:= [90000]) (τ:=(Jm a3 a5 r2)) X (A1x rec_ h_rec a3 a5 r2 h2 h3 _ L L L L L) ?_;simp only[Jm,D0,A6];try simp only[h1,h3,C,E,F,G,H,J]
  cases h;exact⟨trivial,[90000],by decide,by decide,X,X⟩
 ·obtain⟨h4,h⟩:=AW h;try simp only[h1,C,E,F,G,H,J]
  refine NJ X X h4 ?_;have hA5:BL [aB a4.i0,aB a4.i1,aB a4.i2,aB a4.i3,aB a4.i4,aB a4.i5,aB a4.i6,aB a4.i7] (zC a1) [aB T]= [aB ((X8.set a4 (zC a1) T)).i0,aB ((X8.set a4 (zC a1) T)).i1,aB ((X8.set a4 (zC a1) T)).i2,aB ((X8.set a4 (zC a1) T)).i3,aB ((X8.set a4 (zC a1) T)).i4,aB ((X8.set a4 (zC a1) T)).i5,aB ((X8.set a4 (zC a1) T)).i6,aB ((X8.set a4 (zC a1) T)).i7]:=X8.set_eq a4 (F2 h4);have hA5g:C4 [aB a4.i0,aB a4.i1,aB a4.i2,aB a4.i3,aB a4.i4,aB a4.i5,aB a4.i6,aB a4.i7] (zC a1+1)=T:=Rk (F2 h4);have hA5h:C4 [aB a4.i1,aB a4.i2,aB a4.i3,aB a4.i4,aB a4.i5,aB a4.i6,aB a4.i7] (zC a1)=T:=Rl (c:=aB a4.i0) (F2 h4);try simp only[h1,hA5,hA5g,hA5h,C,E,F,G,H,J]
  refine A14 h_rec h ?_ (by kernel_rfl);try simp only[h1,hA5,hA5g,hA5h,C,E,F,G,H,J,pL,aM,I]
theorem xH:∀(n:W) (a0:X1) (a1:U) (a2:U) (a3:P U) (a4:X8) (a5:P (P U)) (r:(P (P U))),Ge n a0 a1 a2 a3 a4 a5=N r→FCz Z 176 [.d (.ag (X1.row a0)),.d (.sc (.int .i64 a1)),.d (.sc (.int .i64 a2)),.d (.sc (.sl (Y rI a3))),.d (.ag (X8.row a4)),.p] [.r 0] [(1,Y (rL rI) a5)] [.r 0] [(1,Y (rL rI) r)] []:=by
 intro n
 induction n with
 | zero=>intro _ _ _ _ _ _ r h; cases h
 | succ n ih=>intro a0 a1 a2 a3 a4 a5 r h; rw[Ge] at h; exact xG (Ge n) a0 a1 a2 a3 a4 a5 r ih h
theorem xF{a0}{a1}{a2}{a3}{a4}{a5}{r}(h:RG a0 a1 a2 a3 a4 a5=N r):FCz Z 176 [.d (.ag (X1.row a0)),.d (.sc (.int .i64 a1)),.d (.sc (.int .i64 a2)),.d (.sc (.sl (Y rI a3))),.d (.ag (X8.row a4)),.p] [.r 0] [(1,Y (rL rI) a5)] [.r 0] [(1,Y (rL rI) r)] []:=xH bigN a0 a1 a2 a3 a4 a5 r h
/- 154:impl_RoutesBetween -/
instance xL:Ct 154 (∀{a0} {a1} {a2} {r},M0 a0 a1 a2=N r→FC Z 154 [.ag (X1.row a0),.sc (.int .i64 a1),.sc (.int .i64 a2)] [.sc (.o 1 (Y (rL rI) r))]):=by
 refine⟨fun{a0} {a1} {a2} {r} h=> ?_⟩;unfold M0 at h;refine A5 A4 h0 [6] 34 ?_;intro S hS
 conv at hS=>rhs; reduce
 try simp only[zB,zA,Ah,UInt8.reduceOfNat] at hS
 subst hS;simp only[C,E,F,G,H,J];try simp only[C,E,F,G,H,J]
 refine Bk ?_;obtain⟨r1,h1,h⟩:=ob h;try simp only[C,E,F,G,H,J]
 refine AJ (Ac xE h1) ?_;obtain⟨h2,h⟩|⟨h2,h⟩:=ic h
 ·obtain⟨r3,h3,h⟩:=ob h;try simp only[h2,C,E,F,G,H,J]
  refine AJ (Ac QP h3) ?_;obtain⟨h4,h⟩|⟨h4,h⟩:=ic h
  ·obtain⟨r5,h5,h⟩:=ob h;try simp only[h2,h4,C,E,F,G,H,J]
   refine AJ (Ac QP h5) ?_;obtain⟨h6,h⟩|⟨h6,h⟩:=ic h
   ·try simp only[h2,h4,h6,C,E,F,G,H,J]
    refine B7 (es:=Y (rL rI) ([]:P (P U))) ?_;try simp only[h2,h4,h6,C,E,F,G,H,J]
    refine By ?_;try simp only[h2,h4,h6,C,E,F,G,H,J]
    refine KR ?_;obtain⟨r7,h7,h⟩:=ob h;try simp only[h2,h4,h6,C,E,F,G,H,J]
    refine FI (xF h7) 7 [1728] rfl X X X (by decide) X X X ?_;try simp only[h2,h4,h6,C,E,F,G,H,J]
    cases h;exact t0
   ·try simp only[h2,h4,h6,C,E,F,G,H,J]
    cases h;exact t0
  ·try simp only[h2,h4,C,E,F,G,H,J]
   cases h;exact t0
 ·try simp only[h2,C,E,F,G,H,J]
  cases h;exact t0
/- 155:impl_RouteMinutes -/
def VW:Hw:=([(16,[2,5,11,12,13],[2],[])],[])
def bl:=fun a1 (a0:X1) (k_:U→U→Q U)=>∀{v3 v4} {zr},k_ v3 v4=N zr→Kh Z 155 VW 16 [2,5,11,12,13] [2] [] ⟨[pB 2,pI 5 v3,pL 11 rI a1,pI 12 (a1.length:U),pI 13 v4],[(2,[aM X7.row a0.Points,aM X2.row a0.Segments])],[]⟩ (A8 [4] [.sc (.v (.int .i64 zr))])
theorem A15{a1 a0}{n:W}:bl a1 a0 (HG a1 a0 n):=by
 induction n with
 | zero=>intro _ _ r h; cases h
 | succ n ih=>
  intro v3 v4 r h σ hσ;rw[HG] at h;exact gc
instance ZN:Ct 155 (∀{a0} {a1} {r},Gj a0 a1=N r→FC Z 155 [.ag (X1.row a0),.sc (.sl (Y rI a1))] [.sc (.v (.int .i64 r))]):=by
 refine⟨fun{a0} {a1} {r} h=> ?_⟩;unfold Gj at h;refine A5 A4 VW [4] 33 ?_;have k0:= @A15;exact gc
/- 112:impl_BestRoute -/
def VX:Hw:=([(18,[3,9,22,23,24],[3],[960])],[])
def bP:=fun r1 (a0:X1) (k_:(P U)→U→Q ((P U) × V))=>∀{v4 v5} {zr},k_ v4 v5=N zr→Kh Z 112 VX 18 [3,9,22,23,24] [3] [960] ⟨[pB 3,pL 9 rI v4,pW 22 960,pI 23 (r1.length:U),pI 24 v5],[(3,[aM X7.row a0.Points,aM X2.row a0.Segments])],[(960,1,Y (rL rI) r1)]⟩ (A8 [6,7] [.sc (.v (.sl (Y rI zr.1))),.sc (.v (.bool zr.2))])
theorem A16{r1 a0}{n:W}:bP r1 a0 (F5 r1 a0 n):=by
 induction n with
 | zero=>intro _ _ r h; cases h
 | succ n ih=>
  intro v4 v5 r h σ hσ S hS
  conv at hS=>rhs; reduce
  try simp only[zB,zA,Ah,UInt8.reduceOfNat] at hS
  subst hS;rw[F5] at h;refine AM (Ay ?_);obtain⟨h6,h⟩|⟨h6,h⟩:=ic h
  ·obtain⟨x7,h7,h⟩:=ob h;have h7n:=Av h7;try simp only[hσ,h6,h7,h7n,C,E,F,G,H,J]
   refine An ?_;obtain⟨r9,h9,h⟩:=ob h;try simp only[h6,h7,h7n,C,E,F,G,H,J]
   refine BS (Ac ZN h9) ?_;obtain⟨r10,h10,h⟩:=ob h;try simp only[h6,h7,h7n,C,E,F,G,H,J]
   refine BS (Ac ZN h10) ?_;obtain⟨h11,h⟩|⟨h11,h⟩:=ic h
   ·try simp only[h6,h7,h7n,h11,C,E,F,G,H,J]
    refine ih h ?_ (by kernel_rfl);try simp only[h6,h7,h7n,h11,C,E,F,G,H,J,pL,aM,I]
   ·try simp only[h6,h7,h7n,h11,C,E,F,G,H,J]
    refine ih h ?_ (by kernel_rfl);try simp only[h6,h7,h7n,h11,C,E,F,G,H,J,pL,aM,I]
  ·try simp only[hσ,h6,C,E,F,G,H,J]
   cases h;trivial
instance A6t:Ct 112 (∀{a0} {a1} {a2} {r},LH a0 a1 a2=N r→FC Z 112 [.ag (X1.row a0),.sc (.int .i64 a1),.sc (.int .i64 a2)] [.sc (.v (.sl (Y rI r.1))),.sc (.v (.bool r.2))]):=by
 refine⟨fun{a0} {a1} {a2} {r} h=> ?_⟩;unfold LH at h;refine A5 A4 VX [6,7] 38 ?_;intro S hS
 conv at hS=>rhs; reduce
 try simp only[zB,zA,Ah,UInt8.reduceOfNat] at hS
 subst hS;simp only[C,E,F,G,H,J];try simp only[C,E,F,G,H,J]
 refine Bk ?_;obtain⟨r1,h1,h⟩:=ob h;try simp only[C,E,F,G,H,J]
 refine AJ (Ac xL h1) ?_;obtain⟨h2,h⟩|⟨h2,h⟩:=ic h
 ·try simp only[h2,C,E,F,G,H,J]
  cases h;trivial
 ·obtain⟨x3,h3,h⟩:=ob h;have h3n:=Av h3;try simp only[h2,h3,h3n,C,E,F,G,H,J]
  refine A16 h ?_ (by kernel_rfl);try simp only[h2,h3,h3n,C,E,F,G,H,J,pL,aM,I]
/- 177:impl_Chart_points -/
def S4:Hw:=([(20,[1,3,8,9,22,23,24],[3,8],[1344]),(44,[1,3,8,9,22,23,24,47],[3,8],[1344])],[])
def bT:=fun r14 a2 v6 (a0:X1) (v7:X8) v8 (k_:V→Q ((P U) × V))=>∀{v19} {zr},k_ v19=N zr→Kh Z 177 S4 44 [1,3,8,9,22,23,24,47] [3,8] [1344] ⟨[pI 1 r14,pB 3,pB 8,pW 9 1344,pL 22 rI a2,pI 23 (a2.length:U),pI 24 v6,(47,vc (aB v19))],[(3,[aM X7.row a0.Points,aM X2.row a0.Segments]),(8,[aB v7.i0,aB v7.i1,aB v7.i2,aB v7.i3,aB v7.i4,aB v7.i5,aB v7.i6,aB v7.i7])],[(1344,1,Y rI v8)]⟩ (A8 [6,7] [.sc (.o 1 (Y rI zr.1)),.sc (.v (.bool zr.2))])
def TH:=fun a2 (a0:X1) (k_:U→U→X8→(P U)→Q ((P U) × V))=>∀{v5 v6 v7 v8} {zr},k_ v5 v6 v7 v8=N zr→Kh Z 177 S4 20 [1,3,8,9,22,23,24] [3,8] [1344] ⟨[pI 1 v5,pB 3,pB 8,pW 9 1344,pL 22 rI a2,pI 23 (a2.length:U),pI 24 v6],[(3,[aM X7.row a0.Points,aM X2.row a0.Segments]),(8,[aB v7.i0,aB v7.i1,aB v7.i2,aB v7.i3,aB v7.i4,aB v7.i5,aB v7.i6,aB v7.i7])],[(1344,1,Y rI v8)]⟩ (A8 [6,7] [.sc (.o 1 (Y rI zr.1)),.sc (.v (.bool zr.2))])
theorem aG{r14 a2 v6 a0 v7 v8}{Qi}(oe:TH a2 a0 Qi):bT r14 a2 v6 a0 v7 v8 (Hu r14 a2 v6 a0 v7 v8 Qi):=by
 intro v19 r h σ hσ S hS
 conv at hS=>rhs; reduce
 try simp only[zB,zA,Ah,UInt8.reduceOfNat] at hS
 subst hS;refine Ay ?_;unfold Hu at h;obtain⟨h20,h⟩|⟨h20,h⟩:=ic h
 ·try simp only[hσ,h20,C,E,F,G,H,J]
  cases h;trivial
 ·obtain⟨h21,h⟩:=AW h;try simp only[hσ,h20,C,E,F,G,H,J]
  refine NJ X X h21 ?_;have hA22:BL [aB v7.i0,aB v7.i1,aB v7.i2,aB v7.i3,aB v7.i4,aB v7.i5,aB v7.i6,aB v7.i7] (zC r14) [aB T]= [aB ((X8.set v7 (zC r14) T)).i0,aB ((X8.set v7 (zC r14) T)).i1,aB ((X8.set v7 (zC r14) T)).i2,aB ((X8.set v7 (zC r14) T)).i3,aB ((X8.set v7 (zC r14) T)).i4,aB ((X8.set v7 (zC r14) T)).i5,aB ((X8.set v7 (zC r14) T)).i6,aB ((X8.set v7 (zC r14) T)).i7]:=X8.set_eq v7 (F2 h21);have hA22g:C4 [aB v7.i0,aB v7.i1,aB v7.i2,aB v7.i3,aB v7.i4,aB v7.i5,aB v7.i6,aB v7.i7] (zC r14+1)=T:=Rk (F2 h21);have hA22h:C4 [aB v7.i1,aB v7.i2,aB v7.i3,aB v7.i4,aB v7.i5,aB v7.i6,aB v7.i7] (zC r14)=T:=Rl (c:=aB v7.i0) (F2 h21);try simp only[h20,hA22,hA22g,hA22h,C,E,F,G,H,J]
  refine B7 (es:=Y rI ([r14]:P U)) ?_;obtain⟨h23,h⟩:=AW h;try simp only[h20,hA22,hA22g,hA22h,h23,C,E,F,G,H,J]
  refine oe h ?_ (by kernel_rfl);try simp only[h20,hA22,hA22g,hA22h,h23,C,E,F,G,H,J,pL,aM,I]
theorem A17{a2 a0}{n:W}:TH a2 a0 (Gc a2 a0 n):=by
 induction n with
 | zero=>intro _ _ _ _ r h; cases h
 | succ n ih=>
  intro v5 v6 v7 v8 r h σ hσ S hS
  conv at hS=>rhs; reduce
  try simp only[zB,zA,Ah,UInt8.reduceOfNat] at hS
  subst hS;rw[Gc] at h;refine AM (Ay ?_);obtain⟨h9,h⟩|⟨h9,h⟩:=ic h
  ·obtain⟨x10,h10,h⟩:=ob h;obtain⟨r11,h11,h⟩:=ob h;try simp only[hσ,h9,h10,C,E,F,G,H,J]
   refine AJ (Ac QP h11) ?_;obtain⟨h12,h⟩|⟨h12,h⟩:=ic h
   ·obtain⟨x13,h13,h⟩:=ob h;obtain⟨r14,h14,h⟩:=ob h;try simp only[h9,h10,h12,h13,C,E,F,G,H,J]
    refine AJ (Ac ZP h14) ?_;obtain⟨h15,h⟩|⟨h15,h⟩:=ic h
    ·try simp only[h9,h10,h12,h13,h15,C,E,F,G,H,J]
     refine aG ih h ?_ (by kernel_rfl);try simp only[h9,h10,h12,h13,h15,C,E,F,G,H,J,pL,aM,I]
    ·obtain⟨h16,h⟩:=AW h;try simp only[h9,h10,h12,h13,h15,C,E,F,G,H,J]
     refine NJ X X h16 ?_;obtain⟨x17,h17,h⟩:=ob h;have h17n:=Av h17;have hA18:([aB v7.i0,aB v7.i1,aB v7.i2,aB v7.i3,aB v7.i4,aB v7.i5,aB v7.i6,aB v7.i7]:P AC)[zC r14]?=N (aB x17):=Un h17n;try simp only[h9,h10,h12,h13,h15,hA18,C,E,F,G,H,J]
     refine aG ih h ?_ (by kernel_rfl);try simp only[h9,h10,h12,h13,h15,hA18,C,E,F,G,H,J,pL,aM,I]
   ·try simp only[h9,h10,h12,C,E,F,G,H,J]
    cases h;trivial
  ·try simp only[hσ,h9,C,E,F,G,H,J]
   cases h;trivial
instance A6v:Ct 177 (∀{a0} {a1} {a2} {r},Ht a0 a1 a2=N r→FC Z 177 [.ag (X1.row a0),.sc (.int .i64 a1),.sc (.sl (Y rI a2))] [.sc (.o 1 (Y rI r.1)),.sc (.v (.bool r.2))]):=by
 refine⟨fun{a0} {a1} {a2} {r} h=> ?_⟩;unfold Ht at h;refine A5 A4 S4 [6,7] 56 ?_;intro S hS
 conv at hS=>rhs; reduce
 try simp only[zB,zA,Ah,UInt8.reduceOfNat] at hS
 subst hS;simp only[C,E,F,G,H,J];try simp only[C,E,F,G,H,J]
 refine Bk ?_;obtain⟨r1,h1,h⟩:=ob h;try simp only[C,E,F,G,H,J]
 refine AJ (Ac QP h1) ?_;obtain⟨h2,h⟩|⟨h2,h⟩:=ic h
 ·try simp only[h2,C,E,F,G,H,J]
  refine By ?_;obtain⟨h3,h⟩:=AW h;try simp only[h2,C,E,F,G,H,J]
  refine NJ X X h3 ?_;have hA4:BL [aB L,aB L,aB L,aB L,aB L,aB L,aB L,aB L] (zC a1) [aB T]= [aB ((X8.set (⟨L,L,L,L,L,L,L,L⟩:X8) (zC a1) T)).i0,aB ((X8.set (⟨L,L,L,L,L,L,L,L⟩:X8) (zC a1) T)).i1,aB ((X8.set (⟨L,L,L,L,L,L,L,L⟩:X8) (zC a1) T)).i2,aB ((X8.set (⟨L,L,L,L,L,L,L,L⟩:X8) (zC a1) T)).i3,aB ((X8.set (⟨L,L,L,L,L,L,L,L⟩:X8) (zC a1) T)).i4,aB ((X8.set (⟨L,L,L,L,L,L,L,L⟩:X8) (zC a1) T)).i5,aB ((X8.set (⟨L,L,L,L,L,L,L,L⟩:X8) (zC a1) T)).i6,aB ((X8.set (⟨L,L,L,L,L,L,L,L⟩:X8) (zC a1) T)).i7]:=X8.set_eq (⟨L,L,L,L,L,L,L,L⟩:X8) (F2 h3);have hA4g:C4 [aB L,aB L,aB L,aB L,aB L,aB L,aB L,aB L] (zC a1+1)=T:=Rk (F2 h3);have hA4h:C4 [aB L,aB L,aB L,aB L,aB L,aB L,aB L] (zC a1)=T:=Rl (c:=aB L) (F2 h3);try simp only[h2,hA4,hA4g,hA4h,C,E,F,G,H,J]
  refine B7 (es:=Y rI ([a1]:P U)) ?_;try simp only[h2,hA4,hA4g,hA4h,C,E,F,G,H,J]
  refine A17 h ?_ (by kernel_rfl);try simp only[h2,hA4,hA4g,hA4h,C,E,F,G,H,J,pL,aM,I]
 ·try simp only[h2,C,E,F,G,H,J]
  cases h;trivial
/- 156:impl_RoutePoints -/
instance ZO:Ct 156 (∀{a0} {a1} {a2} {r},DY a0 a1 a2=N r→FC Z 156 [.ag (X1.row a0),.sc (.int .i64 a1),.sc (.sl (Y rI a2))] [.sc (.o 1 (Y rI r))]):=by
 refine⟨fun{a0} {a1} {a2} {r} h=> ?_⟩;unfold DY at h;refine A5 A4 h0 [6] 20 ?_;exact gc
/- 178:impl_RouteOk -/
instance A7h:Ct 178 (∀{a0} {a1} {a2} {r},F9 a0 a1 a2=N r→FC Z 178 [.ag (X1.row a0),.sc (.int .i64 a1),.sc (.sl (Y rI a2))] [.sc (.v (.bool r))]):=by
 refine⟨fun{a0} {a1} {a2} {r} h=> ?_⟩;unfold F9 at h;refine A5 A4 h0 [6] 20 ?_;exact gc
/- 179:impl_Ship_minutes -/
instance ZQ:Ct 179 (∀{a0} {a1} {r},Fa a0 a1=N r→FC Z 179 [.ag (X4.row a0),.ag (X2.row a1)] [.sc (.v (.int .i64 r))]):=by
 refine⟨fun{a0} {a1} {r} h=> ?_⟩;unfold Fa at h;refine A5 A4 h0 [4] 12 ?_;exact gc
/- 201:impl_onSegment -/
instance A72:Ct 201 (∀{a0} {a1} {a2} {r},HR a0 a1 a2=N r→FC Z 201 [.ag (X1.row a0),.sc (.int .i64 a1),.ag (X4.row a2)] [.sc (.v (.bool r))]):=by
 refine⟨fun{a0} {a1} {a2} {r} h=> ?_⟩;unfold HR at h;refine A5 A4 h0 [6] 20 ?_;exact gc
/- 230:impl_Ship_squat -/
instance A7m:Ct 230 (∀{a0} {r},Pl a0=N r→FC Z 230 [.ag (X4.row a0)] [.sc (.v (.int .i64 r))]):=by
 refine⟨fun{a0} {r} h=> ?_⟩;unfold Pl at h;refine A5 A4 h0 [2] 11 ?_;exact gc
/- 221:impl_Ship_need -/
instance A7l:Ct 221 (∀{a0} {r},Pk a0=N r→FC Z 221 [.ag (X4.row a0)] [.sc (.v (.int .i64 r))]):=by
 refine⟨fun{a0} {r} h=> ?_⟩;unfold Pk at h;refine A5 A4 h0 [2] 9 ?_;exact gc
/- 204:impl_LevelFor -/
instance A66:Ct 204 (∀{a0} {a1} {a2} {r},LR a0 a1 a2=N r→FC Z 204 [.ag (X1.row a0),.sc (.int .i64 a1),.ag (X4.row a2)] [.sc (.v (.int .i64 r))]):=by
 refine⟨fun{a0} {a1} {a2} {r} h=> ?_⟩;unfold LR at h;refine A5 A4 h0 [6] 21 ?_;exact gc
/- 218:impl_windowsOf -/
def Q4:Hw:=([(10,[0,3,4,5],[],[384]),(35,[0,3,4,5],[],[384]),(36,[0,3,4,5],[],[384])],[])
def cW:=fun F_a0 caps_a0 v2 (k_:V→(P X5)→Q (P X5))=>∀{v11 v12} {zr},k_ v11 v12=N zr→Kh Z 218 Q4 36 [0,3,4,5] [] [384] ⟨[(0,vc (.dat (.clo F_a0 caps_a0))),pW 3 384,(4,vc (aB v11)),pI 5 v2],[],[(384,2,Y X5.row v12)]⟩ (A8 [2] [.sc (.o 2 (Y X5.row zr))])
def cV:=fun F_a0 caps_a0 v2 (k_:(P X5)→Q (P X5))=>∀{v9} {zr},k_ v9=N zr→Kh Z 218 Q4 35 [0,3,4,5] [] [384] ⟨[(0,vc (.dat (.clo F_a0 caps_a0))),pW 3 384,(4,vc (aB T)),pI 5 v2],[],[(384,2,Y X5.row v9)]⟩ (A8 [2] [.sc (.o 2 (Y X5.row zr))])
def QY:=fun F_a0 caps_a0 (k_:V→U→(P X5)→Q (P X5))=>∀{v1 v2 v3} {zr},k_ v1 v2 v3=N zr→Kh Z 218 Q4 10 [0,3,4,5] [] [384] ⟨[(0,vc (.dat (.clo F_a0 caps_a0))),pW 3 384,(4,vc (aB v1)),pI 5 v2],[],[(384,2,Y X5.row v3)]⟩ (A8 [2] [.sc (.o 2 (Y X5.row zr))])
theorem aH{a0:U→Q V}{F_a0 caps_a0}(hF_a0:BV Z F_a0=T)(h_a0:∀z0 zr,a0 z0=N zr→FC Z F_a0 ([.sc (.int .i64 z0)]++caps_a0.map .sc) [.sc (.v (.bool zr))]){v2}{FO}(Sl:QY F_a0 caps_a0 FO):cW F_a0 caps_a0 v2 (HZ a0 v2 FO):=by
 intro v11 v12 r h σ hσ;unfold HZ at h;have k0:= @Sl;exact gc
theorem aJ{a0:U→Q V}{F_a0 caps_a0}(hF_a0:BV Z F_a0=T)(h_a0:∀z0 zr,a0 z0=N zr→FC Z F_a0 ([.sc (.int .i64 z0)]++caps_a0.map .sc) [.sc (.v (.bool zr))]){v2}{FO}(Sl:QY F_a0 caps_a0 FO):cV F_a0 caps_a0 v2 (K7 a0 v2 FO):=by
 intro v9 r h σ hσ S hS
 conv at hS=>rhs; reduce
 try simp only[zB,zA,Ah,UInt8.reduceOfNat] at hS
 subst hS;refine Ay ?_;unfold K7 at h;obtain⟨x10,h10,h⟩:=ob h;have h10n:=Av h10;try simp only[hσ,h10,C,E,F,G,H,J]
 refine AS (row:=X5.row) (y:=(⟨x10.From,v2⟩:X5)) X X h10n X X (by rfl) ?_;try simp only[h10,C,E,F,G,H,J]
 refine aH hF_a0 h_a0 Sl h ?_ (by kernel_rfl);try simp only[h10,C,E,F,G,H,J,pL,aM,I]
theorem A18{a0:U→Q V}{F_a0 caps_a0}(hF_a0:BV Z F_a0=T)(h_a0:∀z0 zr,a0 z0=N zr→FC Z F_a0 ([.sc (.int .i64 z0)]++caps_a0.map .sc) [.sc (.v (.bool zr))]){n:W}:QY F_a0 caps_a0 (Fi a0 n):=by
 induction n with
 | zero=>intro _ _ _ r h; cases h
 | succ n ih=>
  intro v1 v2 v3 r h σ hσ S hS
  conv at hS=>rhs; reduce
  try simp only[zB,zA,Ah,UInt8.reduceOfNat] at hS
  subst hS;rw[Fi] at h;refine AM (Ay ?_);obtain⟨h4,h⟩|⟨h4,h⟩:=ic h
  ·obtain⟨r5,h5,h⟩:=ob h;try simp only[hσ,h4,C,E,F,G,H,J]
   refine nF (h_a0 _ _ h5) hF_a0 X X (Ce X) X (uf X) ?_;obtain⟨h6,h⟩|⟨h6,h⟩:=ic h
   ·obtain⟨h7,h⟩|⟨h7,h⟩:=ic h
    ·try simp only[h4,h6,h7,C,E,F,G,H,J]
     refine aJ hF_a0 h_a0 ih h ?_ (by kernel_rfl);try simp only[h4,h6,h7,C,E,F,G,H,J,pL,aM,I]
    ·try simp only[h4,h6,h7,C,E,F,G,H,J]
     refine B7 (es:=Y X5.row ([(⟨v2,(0:U)⟩:X5)]:P X5)) ?_;obtain⟨h8,h⟩:=AW h;try simp only[h4,h6,h7,h8,C,E,F,G,H,J]
     refine aJ hF_a0 h_a0 ih h ?_ (by kernel_rfl);try simp only[h4,h6,h7,h8,C,E,F,G,H,J,pL,aM,I]
   ·try simp only[h4,h6,C,E,F,G,H,J]
    refine aH hF_a0 h_a0 ih h ?_ (by kernel_rfl);try simp only[h4,h6,C,E,F,G,H,J,pL,aM,I]
  ·try simp only[hσ,h4,C,E,F,G,H,J]
   cases h;exact t0
theorem xe{a0}{r}(F_a0:FuncId)(caps_a0:P D)(hF_a0:BV Z F_a0=T)(h_a0:∀z0 zr,a0 z0=N zr→FC Z F_a0 ([.sc (.int .i64 z0)]++caps_a0.map .sc) [.sc (.v (.bool zr))])(h:Mm a0=N r):FC Z 218 [.sc (.clo F_a0 caps_a0)] [.sc (.o 2 (Y X5.row r))]:=by
 unfold Mm at h;refine A5 A4 Q4 [2] 30 ?_;have s0:= @AD (Y X5.row ([]:P X5));have k0:= @A18;exact gc
/- 234:impl_Wave -/
instance A7r:Ct 234 (∀{a0} {a1} {r},M6 a0 a1=N r→FC Z 234 [.sc (.int .i64 a0),.sc (.int .i64 a1)] [.sc (.v (.int .i64 r))]):=by
 refine⟨fun{a0} {a1} {r} h=> ?_⟩;unfold M6 at h;refine A5 A4 h0 [4] 46 ?_;exact gc
/- 228:impl_Tide_level -/
def VY:Hw:=([(8,[1,5,11,12,13],[],[])],[])
def bt:=fun a1 (a0:Xl) (k_:U→U→Q U)=>∀{v1 v2} {zr},k_ v1 v2=N zr→Kh Z 228 VY 8 [1,5,11,12,13] [] [] ⟨[pI 1 a1,pI 5 v1,pL 11 zH a0.Parts,pI 12 (a0.Parts.length:U),pI 13 v2],[],[]⟩ (A8 [4] [.sc (.v (.int .i64 zr))])
theorem A19{a1 a0}{n:W}:bt a1 a0 (HJ a1 a0 n):=by
 induction n with
 | zero=>intro _ _ r h; cases h
 | succ n ih=>
  intro v1 v2 r h σ hσ;rw[HJ] at h;exact gc
instance A7q:Ct 228 (∀{a0} {a1} {r},Pn a0 a1=N r→FC Z 228 [.ag (Xl.row a0),.sc (.int .i64 a1)] [.sc (.v (.int .i64 r))]):=by
 refine⟨fun{a0} {a1} {r} h=> ?_⟩;unfold Pn at h;refine A5 A4 VY [4] 32 ?_;have k0:= @A19;exact gc
/- 229:impl_Forecast_surge -/
def VZ:Hw:=([(8,[1,5,9,10,11],[],[])],[])
def ba:=fun a1 (a0:Xd) (k_:U→U→Q U)=>∀{v1 v2} {zr},k_ v1 v2=N zr→Kh Z 229 VZ 8 [1,5,9,10,11] [] [] ⟨[pI 1 a1,pI 5 v1,pL 9 X9.row a0.Surges,pI 10 (a0.Surges.length:U),pI 11 v2],[],[]⟩ (A8 [4] [.sc (.v (.int .i64 zr))])
theorem A2b{a1 a0}{n:W}:ba a1 a0 (F8 a1 a0 n):=by
 induction n with
 | zero=>intro _ _ r h; cases h
 | succ n ih=>
  intro v1 v2 r h σ hσ;rw[F8] at h;exact gc
instance A60:Ct 229 (∀{a0} {a1} {r},LM a0 a1=N r→FC Z 229 [.ag (zK a0),.sc (.int .i64 a1)] [.sc (.v (.int .i64 r))]):=by
 refine⟨fun{a0} {a1} {r} h=> ?_⟩;unfold LM at h;refine A5 A4 VZ [4] 23 ?_;have k0:= @A2b;exact gc
/- 220:impl_Forecast_low -/
instance A6z:Ct 220 (∀{a0} {a1} {r},LL a0 a1=N r→FC Z 220 [.ag (zK a0),.sc (.int .i64 a1)] [.sc (.v (.int .i64 r))]):=by
 refine⟨fun{a0} {a1} {r} h=> ?_⟩;unfold LL at h;refine A5 A4 h0 [4] 18 ?_;exact gc
/- 219:impl_LowWindows_1 -/
theorem A2c{a0}{c0}{c1}{r}(h:Pi a0 c0 c1=N r):FC Z 219 [.sc (.int .i64 a0),.sc (.pd (zK c0)),.sc (.pd (rI c1))] [.sc (.v (.bool r))]:=by
 unfold Pi at h;refine A5 A4 h0 [4] 10 ?_;exact gc
/- 203:impl_LowWindows -/
instance A67:Ct 203 (∀{a0} {a1} {r},LS a0 a1=N r→FC Z 203 [.ag (zK a0),.sc (.int .i64 a1)] [.sc (.o 2 (Y X5.row r))]):=by
 refine⟨fun{a0} {a1} {r} h=> ?_⟩;unfold LS at h;refine A5 A4 h0 [4] 10 ?_;intro S hS
 conv at hS=>rhs; reduce
 try simp only[zB,zA,Ah,UInt8.reduceOfNat] at hS
 subst hS;simp only[C,E,F,G,H,J];try simp only[C,E,F,G,H,J]
 refine Bk ?_;try simp only[C,E,F,G,H,J]
 refine Bk ?_;obtain⟨r1,h1,h⟩:=ob h;try simp only[C,E,F,G,H,J]
 refine AJ (Ac xJ h1) ?_;obtain⟨h2,h⟩|⟨h2,h⟩:=ic h
 ·obtain⟨r3,h3,h⟩:=ob h;try simp only[h2,C,E,F,G,H,J]
  refine Cf (xe 219 [.pd (zK a0),.pd (rI a1)] (by kernel_rfl) (fun z0 zr zh=>A2c zh) h3) X (CN X ⟨CB,⟨⟩⟩) X (uf X) ?_;try simp only[h2,C,E,F,G,H,J]
  cases h;exact t0
 ·try simp only[h2,C,E,F,G,H,J]
  cases h;exact t0
/- 205:impl_MinutesOn -/
instance A68:Ct 205 (∀{a0} {a1} {a2} {r},LU a0 a1 a2=N r→FC Z 205 [.ag (X1.row a0),.sc (.int .i64 a1),.ag (X4.row a2)] [.sc (.v (.int .i64 r))]):=by
 refine⟨fun{a0} {a1} {a2} {r} h=> ?_⟩;unfold LU at h;refine A5 A4 h0 [6] 30 ?_;exact gc
/- 206:impl_WindowsOk -/
def W0:Hw:=([(6,[0,5,6,7],[],[])],[])
def bu:=fun a0 (k_:U→Q V)=>∀{v1} {zr},k_ v1=N zr→Kh Z 206 W0 6 [0,5,6,7] [] [] ⟨[pL 0 X5.row a0,pL 5 X5.row a0,pI 6 (a0.length:U),pI 7 v1],[],[]⟩ (A8 [2] [.sc (.v (.bool zr))])
theorem A2d{a0}{n:W}:bu a0 (Fc a0 n):=by
 induction n with
 | zero=>intro _ r h; cases h
 | succ n ih=>
  intro v1 r h σ hσ;rw[Fc] at h;exact gc
instance A7s:Ct 206 (∀{a0} {r},JY a0=N r→FC Z 206 [.sc (.sl (Y X5.row a0))] [.sc (.v (.bool r))]):=by
 refine⟨fun{a0} {r} h=> ?_⟩;unfold JY at h;refine A5 A4 W0 [2] 44 ?_;have k0:= @A2d;exact gc
/- 202:impl_ShrinkWindows -/
def W1:Hw:=([(16,[1,5,17,18,19],[],[1024])],[])
def bq:=fun a1 a0 (k_:U→(P X5)→Q (P X5))=>∀{v5 v6} {zr},k_ v5 v6=N zr→Kh Z 202 W1 16 [1,5,17,18,19] [] [1024] ⟨[pI 1 a1,pW 5 1024,pL 17 X5.row a0,pI 18 (a0.length:U),pI 19 v5],[],[(1024,2,Y X5.row v6)]⟩ (A8 [4] [.sc (.o 2 (Y X5.row zr))])
theorem A2e{a1 a0}{n:W}:bq a1 a0 (Fb a1 a0 n):=by
 induction n with
 | zero=>intro _ _ r h; cases h
 | succ n ih=>
  intro v5 v6 r h σ hσ S hS
  conv at hS=>rhs; reduce
  try simp only[zB,zA,Ah,UInt8.reduceOfNat] at hS
  subst hS;rw[Fb] at h;refine AM (Ay ?_);obtain⟨h7,h⟩|⟨h7,h⟩:=ic h
  ·obtain⟨x8,h8,h⟩:=ob h;try simp only[hσ,h7,h8,C,E,F,G,H,J]
   refine By ?_;obtain⟨h9,h⟩|⟨h9,h⟩:=ic h
   ·try simp only[h7,h8,h9,C,E,F,G,H,J]
    refine B7 (es:=Y X5.row ([(⟨x8.From,(IntKind.i64.wrap (x8.To - a1))⟩:X5)]:P X5)) ?_;obtain⟨h10,h⟩:=AW h;try simp only[h7,h8,h9,h10,C,E,F,G,H,J]
    refine ih h ?_ (by kernel_rfl);try simp only[h7,h8,h9,h10,C,E,F,G,H,J,pL,aM,I]
   ·try simp only[h7,h8,h9,C,E,F,G,H,J]
    refine ih h ?_ (by kernel_rfl);try simp only[h7,h8,h9,C,E,F,G,H,J,pL,aM,I]
  ·try simp only[hσ,h7,C,E,F,G,H,J]
   cases h;exact t0
instance A7n:Ct 202 (∀{a0} {a1} {r},Pm a0 a1=N r→FC Z 202 [.sc (.sl (Y X5.row a0)),.sc (.int .i64 a1)] [.sc (.o 2 (Y X5.row r))]):=by
 refine⟨fun{a0} {a1} {r} h=> ?_⟩;unfold Pm at h;refine A5 A4 W1 [4] 42 ?_;have s0:= @AD (Y X5.row ([]:P X5));have k0:= @A2e;exact gc
/- 180:impl_SureStarts -/
instance xM:Ct 180 (∀{a0} {a1} {a2} {a3} {r},M3 a0 a1 a2 a3=N r→FC Z 180 [.ag (zK a0),.ag (X1.row a1),.sc (.int .i64 a2),.ag (X4.row a3)] [.sc (.o 2 (Y X5.row r))]):=by
 refine⟨fun{a0} {a1} {a2} {a3} {r} h=> ?_⟩;unfold M3 at h;refine A5 A4 h0 [8] 30 ?_;exact gc
/- 157:impl_voyageOf -/
def S5:Hw:=([(5,[3,4,5,6,7,10,34],[5,6,7,10],[]),(16,[4,5,6,7,10,12,43,44,45],[5,6,7,10,12],[140288,140352,140416])],[(11,3,(O,.ownb 12 0 140288 1)),(11,4,(O,.ownb 12 1 140352 1)),(11,5,(O,.ownb 12 2 140416 1)),(14,6,(O,.frz 2560))])
def cT:=fun a4 (a0:Xd) (a1:X1) (a2:X4) y11 y12 (k_:U→(P V)→(P U)→(P (P X5))→Q (Xk × V))=>∀{v13 v14 v15 v16} {zr},k_ v13 v14 v15 v16=N zr→Kh Z 157 S5 16 [4,5,6,7,10,12,43,44,45] [5,6,7,10,12] [140288,140352,140416] ⟨[pL 4 rI a4,pB 5,pB 6,pB 7,pB 10,pB 12,pL 43 rI y11,pI 44 y12,pI 45 v13],[(5,[aI a0.Tide.Mean,aM zH a0.Tide.Parts,aM X9.row a0.Surges]),(6,[aM X7.row a1.Points,aM X2.row a1.Segments]),(7,(dm a2.row)),(10,[.nil,.nil,.nil]),(12,[.own 140288,.own 140352,.own 140416])],[(140288,1,Y rB v14),(140352,1,Y rI v15),(140416,1,Y (rL X5.row) v16)]⟩ (A8 [.c 10 T 3,11] [.ag [.o 1 (Y rB zr.1.waits),.o 1 (Y rI zr.1.minutes),.o 1 (Y (rL X5.row) zr.1.sure)],.sc (.v (.bool zr.2))])
def cS:=fun a3 a4 (a0:Xd) (a1:X1) (a2:X4) (k_:V→Q (Xk × V))=>∀{v7} {zr},k_ v7=N zr→Kh Z 157 S5 5 [3,4,5,6,7,10,34] [5,6,7,10] [] ⟨[pI 3 a3,pL 4 rI a4,pB 5,pB 6,pB 7,pB 10,(34,vc (aB v7))],[(5,[aI a0.Tide.Mean,aM zH a0.Tide.Parts,aM X9.row a0.Surges]),(6,[aM X7.row a1.Points,aM X2.row a1.Segments]),(7,(dm a2.row)),(10,[.nil,.nil,.nil])],[]⟩ (A8 [.c 10 T 3,11] [.ag [.o 1 (Y rB zr.1.waits),.o 1 (Y rI zr.1.minutes),.o 1 (Y (rL X5.row) zr.1.sure)],.sc (.v (.bool zr.2))])
theorem A2f{a4 a0 a1 a2 y11 y12}{n:W}:cT a4 a0 a1 a2 y11 y12 (HX a4 a0 a1 a2 y11 y12 n):=by
 induction n with
 | zero=>intro _ _ _ _ r h; cases h
 | succ n ih=>
  intro v13 v14 v15 v16 r h σ hσ S hS
  conv at hS=>rhs; reduce
  try simp only[zB,zA,Ah,UInt8.reduceOfNat] at hS
  subst hS;rw[HX] at h;refine AM (Ay ?_);obtain⟨h17,h⟩|⟨h17,h⟩:=ic h
  ·obtain⟨x18,h18,h⟩:=ob h;try simp only[hσ,h17,h18,C,E,F,G,H,J]
   refine An ?_;obtain⟨x19,h19,h⟩:=ob h;try simp only[h17,h18,h19,C,E,F,G,H,J]
   refine B7 (es:=Y rB ([x19.Wait]:P V)) ?_;obtain⟨h20,h⟩:=AW h;try simp only[h17,h18,h19,h20,C,E,F,G,H,J]
   refine An ?_;try simp only[h17,h18,h19,h20,C,E,F,G,H,J]
   refine An ?_;try simp only[h17,h18,h19,h20,C,E,F,G,H,J]
   refine An ?_;obtain⟨x21,h21,h⟩:=ob h;obtain⟨x22,h22,h⟩:=ob h;obtain⟨r23,h23,h⟩:=ob h;try simp only[h17,h18,h19,h20,h21,h22,C,E,F,G,H,J]
   refine BS (Ac ZQ h23) ?_;try simp only[h17,h18,h19,h20,h21,h22,C,E,F,G,H,J]
   refine B7 (es:=Y rI ([r23]:P U)) ?_;obtain⟨h24,h⟩:=AW h;try simp only[h17,h18,h19,h20,h21,h22,h24,C,E,F,G,H,J]
   refine An ?_;try simp only[h17,h18,h19,h20,h21,h22,h24,C,E,F,G,H,J]
   refine An ?_;try simp only[h17,h18,h19,h20,h21,h22,h24,C,E,F,G,H,J]
   refine An ?_;obtain⟨r25,h25,h⟩:=ob h;try simp only[h17,h18,h19,h20,h21,h22,h24,C,E,F,G,H,J]
   refine BS (FC.asV (rs':= [.sc (.v (.sl (Y X5.row r25)))]) (Ac xM h25) X) ?_;try simp only[h17,h18,h19,h20,h21,h22,h24,C,E,F,G,H,J]
   refine B7 (es:=Y (rL X5.row) ([r25]:P (P X5))) ?_;obtain⟨h26,h⟩:=AW h;try simp only[h17,h18,h19,h20,h21,h22,h24,h26,C,E,F,G,H,J]
   refine An ?_;try simp only[h17,h18,h19,h20,h21,h22,h24,h26,C,E,F,G,H,J]
   refine An ?_;try simp only[h17,h18,h19,h20,h21,h22,h24,h26,C,E,F,G,H,J]
   refine ih h ?_ (by kernel_rfl);try simp only[h17,h18,h19,h20,h21,h22,h24,h26,C,E,F,G,H,J,pL,aM,I]
  ·try simp only[hσ,h17,C,E,F,G,H,J]
   cases h;try simp only[H4,C,E,F,G,H,J]
   trivial
theorem A2g{a3 a4 a0 a1 a2}:cS a3 a4 a0 a1 a2 (HW a3 a4 a0 a1 a2):=by
 intro v7 r h σ hσ S hS
 conv at hS=>rhs; reduce
 try simp only[zB,zA,Ah,UInt8.reduceOfNat] at hS
 subst hS;refine Ay ?_;unfold HW at h;obtain⟨h8,h⟩|⟨h8,h⟩:=ic h
 ·try simp only[hσ,h8,C,E,F,G,H,J]
  cases h;try simp only[H4,C,E,F,G,H,J]
  trivial
 ·try simp only[hσ,h8,C,E,F,G,H,J]
  refine By ?_;try simp only[h8,C,E,F,G,H,J]
  refine FL (cs':= [.own 140288,.nil,.nil]) X X X X ?_;try simp only[h8,C,E,F,G,H,J]
  refine FL (cs':= [.own 140288,.own 140352,.nil]) X X X X ?_;try simp only[h8,C,E,F,G,H,J]
  refine FL (cs':= [.own 140288,.own 140352,.own 140416]) X X X X ?_;obtain⟨r9,h9,h⟩:=ob h;try simp only[h8,C,E,F,G,H,J]
  refine AJ (Ac ZO h9) ?_;try simp only[h8,C,E,F,G,H,J]
  refine Cq ?_;obtain⟨p10,h10,h⟩:=ob h;try simp only[h8,h10,C,E,F,G,H,J]
  refine A2f h ?_ (by kernel_rfl);try simp only[h8,h10,C,E,F,G,H,J,pL,aM,I]
instance A75:Ct 157 (∀{a0} {a1} {a2} {a3} {a4} {r},HV a0 a1 a2 a3 a4=N r→FC Z 157 [.ag (zK a0),.ag (X1.row a1),.ag (X4.row a2),.sc (.int .i64 a3),.sc (.sl (Y rI a4))] [.ag [.o 1 (Y rB r.1.waits),.o 1 (Y rI r.1.minutes),.o 1 (Y (rL X5.row) r.1.sure)],.sc (.v (.bool r.2))]):=by
 refine⟨fun{a0} {a1} {a2} {a3} {a4} {r} h=> ?_⟩;unfold HV at h;refine A5 A4 S5 [.c 10 T 3,11] 91 ?_;have k0:= @A2g;exact gc
/- 113:impl_callVoyage -/
def W2:Hw:=([(7,[2,3,4,6,28],[3,4,6],[])],[])
def cA:=fun a2 (a0:X6) (a1:Xa) (k_:V→Q (Xk × V))=>∀{v4} {zr},k_ v4=N zr→Kh Z 113 W2 7 [2,3,4,6,28] [3,4,6] [] ⟨[pL 2 rI a2,pB 3,pB 4,pB 6,(28,vc (aB v4))],[(3,([aI a0.Forecast.Tide.Mean,aM zH a0.Forecast.Tide.Parts,aM X9.row a0.Forecast.Surges,aM X7.row a0.Chart.Points,aM X2.row a0.Chart.Segments,aM X4.row a0.Fleet,aI a0.Regime.Gap,aB a0.Regime.NoMeet]++dm a0.Crew.row)),(4,(dm a1.row)),(6,[.nil,.nil,.nil])],[]⟩ (A8 [.c 6 T 3,7] [.ag [.o 1 (Y rB zr.1.waits),.o 1 (Y rI zr.1.minutes),.o 1 (Y (rL X5.row) zr.1.sure)],.sc (.v (.bool zr.2))])
theorem aK{a2 a0 a1}:cA a2 a0 a1 (K0 a2 a0 a1):=by
 intro v4 r h σ hσ;unfold K0 at h;exact gc
instance A7v:Ct 113 (∀{a0} {a1} {a2} {r},HM a0 a1 a2=N r→FC Z 113 [.ag (X6.row a0),.ag (Xa.row a1),.sc (.sl (Y rI a2))] [.ag [.o 1 (Y rB r.1.waits),.o 1 (Y rI r.1.minutes),.o 1 (Y (rL X5.row) r.1.sure)],.sc (.v (.bool r.2))]):=by
 refine⟨fun{a0} {a1} {a2} {r} h=> ?_⟩;unfold HM at h;refine A5 A4 W2 [.c 6 T 3,7] 46 ?_;intro S hS
 conv at hS=>rhs; reduce
 try simp only[zB,zA,Ah,UInt8.reduceOfNat] at hS
 subst hS;simp only[C,E,F,G,H,J];try simp only[C,E,F,G,H,J]
 refine Bk ?_;try simp only[C,E,F,G,H,J]
 refine Bk ?_;try simp only[C,E,F,G,H,J]
 refine By ?_;obtain⟨r1,h1,h⟩:=ob h;try simp only[C,E,F,G,H,J]
 refine AJ (Ac ZO h1) ?_;try simp only[C,E,F,G,H,J]
 refine An ?_;obtain⟨h2,h⟩|⟨h2,h⟩:=ic h
 ·try simp only[h2,C,E,F,G,H,J]
  refine aK h ?_ (by kernel_rfl);try simp only[h2,C,E,F,G,H,J,pL,aM,I]
 ·obtain⟨x3,h3,h⟩:=ob h;have h3n:=Av h3;try simp only[h2,h3,h3n,C,E,F,G,H,J]
  refine aK h ?_ (by kernel_rfl);try simp only[h2,h3,h3n,C,E,F,G,H,J,pL,aM,I]
/- 181:impl_HasMinute -/
def W3:Hw:=([(6,[1,7,8,9],[],[])],[])
def bd:=fun a1 a0 (k_:U→Q V)=>∀{v1} {zr},k_ v1=N zr→Kh Z 181 W3 6 [1,7,8,9] [] [] ⟨[pI 1 a1,pL 7 X5.row a0,pI 8 (a0.length:U),pI 9 v1],[],[]⟩ (A8 [4] [.sc (.v (.bool zr))])
theorem A2i{a1 a0}{n:W}:bd a1 a0 (HC a1 a0 n):=by
 induction n with
 | zero=>intro _ r h; cases h
 | succ n ih=>
  intro v1 r h σ hσ;rw[HC] at h;exact gc
instance A63:Ct 181 (∀{a0} {a1} {r},LN a0 a1=N r→FC Z 181 [.sc (.sl (Y X5.row a0)),.sc (.int .i64 a1)] [.sc (.v (.bool r))]):=by
 refine⟨fun{a0} {a1} {r} h=> ?_⟩;unfold LN at h;refine A5 A4 W3 [4] 20 ?_;have k0:= @A2i;exact gc
/- 182:impl_NextMinute -/
def W4:Hw:=([(14,[1,10,11,12],[],[])],[])
def bg:=fun a1 a0 (k_:U→Q U)=>∀{v3} {zr},k_ v3=N zr→Kh Z 182 W4 14 [1,10,11,12] [] [] ⟨[pI 1 a1,pL 10 X5.row a0,pI 11 (a0.length:U),pI 12 v3],[],[]⟩ (A8 [4] [.sc (.v (.int .i64 zr))])
theorem A2j{a1 a0}{n:W}:bg a1 a0 (HD a1 a0 n):=by
 induction n with
 | zero=>intro _ r h; cases h
 | succ n ih=>
  intro v3 r h σ hσ;rw[HD] at h;exact gc
instance xK:Ct 182 (∀{a0} {a1} {r},LV a0 a1=N r→FC Z 182 [.sc (.sl (Y X5.row a0)),.sc (.int .i64 a1)] [.sc (.v (.int .i64 r))]):=by
 refine⟨fun{a0} {a1} {r} h=> ?_⟩;unfold LV at h;refine A5 A4 W4 [4] 25 ?_;have k0:= @A2j;exact gc
/- 158:impl_voyage_sail -/
def S6:Hw:=([(16,[2,6,7],[2],[1152]),(32,[2,6,7,9,59],[2],[1152])],[])
def cU:=fun v4 r10 (a0:Xk) v5 (k_:V→Q ((P U) × V))=>∀{v14} {zr},k_ v14=N zr→Kh Z 158 S6 32 [2,6,7,9,59] [2] [1152] ⟨[pB 2,pW 6 1152,pI 7 v4,pI 9 r10,(59,vc (aB v14))],[(2,(dm a0.row))],[(1152,1,Y rI v5)]⟩ (A8 [4,5] [.sc (.o 1 (Y rI zr.1)),.sc (.v (.bool zr.2))])
def TP:=fun(a0:Xk) (k_:U→(P U)→Q ((P U) × V))=>∀{v4 v5} {zr},k_ v4 v5=N zr→Kh Z 158 S6 16 [2,6,7] [2] [1152] ⟨[pB 2,pW 6 1152,pI 7 v4],[(2,(dm a0.row))],[(1152,1,Y rI v5)]⟩ (A8 [4,5] [.sc (.o 1 (Y rI zr.1)),.sc (.v (.bool zr.2))])
theorem Tr{v4 r10 a0 v5}{Ql}(oo:TP a0 Ql):cU v4 r10 a0 v5 (HY v4 r10 a0 v5 Ql):=by
 intro v14 r h σ hσ;unfold HY at h;have s0:= @AD (Y rI ([r10]:P U));have k0:= @oo;exact gc
theorem A2k{a0}{n:W}:TP a0 (Et a0 n):=by
 induction n with
 | zero=>intro _ _ r h; cases h
 | succ n ih=>
  intro v4 v5 r h σ hσ S hS
  conv at hS=>rhs; reduce
  try simp only[zB,zA,Ah,UInt8.reduceOfNat] at hS
  subst hS;rw[Et] at h;refine AM (Ay ?_);obtain⟨h6,h⟩|⟨h6,h⟩:=ic h
  ·try simp only[hσ,h6,C,E,F,G,H,J]
   refine An ?_;obtain⟨x7,h7,h⟩:=ob h;have h7n:=Av h7;obtain⟨x8,h8,h⟩:=ob h;obtain⟨x9,h9,h⟩:=ob h;obtain⟨r10,h10,h⟩:=ob h;try simp only[h6,h7,h7n,h8,h9,C,E,F,G,H,J]
   refine AJ (Ac xK h10) ?_;obtain⟨h11,h⟩|⟨h11,h⟩:=ic h
   ·try simp only[h6,h7,h7n,h8,h9,h11,C,E,F,G,H,J]
    refine Tr ih h ?_ (by kernel_rfl);try simp only[h6,h7,h7n,h8,h9,h11,C,E,F,G,H,J,pL,aM,I]
   ·obtain⟨h12,h⟩|⟨h12,h⟩:=ic h
    ·obtain⟨x13,h13,h⟩:=ob h;try simp only[h6,h7,h7n,h8,h9,h11,h12,h13,C,E,F,G,H,J]
     refine Tr ih h ?_ (by kernel_rfl);try simp only[h6,h7,h7n,h8,h9,h11,h12,h13,C,E,F,G,H,J,pL,aM,I]
    ·try simp only[h6,h7,h7n,h8,h9,h11,h12,C,E,F,G,H,J]
     refine Tr ih h ?_ (by kernel_rfl);try simp only[h6,h7,h7n,h8,h9,h11,h12,C,E,F,G,H,J,pL,aM,I]
  ·try simp only[hσ,h6,C,E,F,G,H,J]
   cases h;trivial
instance A76:Ct 158 (∀{a0} {a1} {r},Mj a0 a1=N r→FC Z 158 [.ag (Xk.row a0),.sc (.int .i64 a1)] [.sc (.o 1 (Y rI r.1)),.sc (.v (.bool r.2))]):=by
 refine⟨fun{a0} {a1} {r} h=> ?_⟩;unfold Mj at h;refine A5 A4 S6 [4,5] 65 ?_;have s0:= @AD (Y rI ([a1]:P U));have k0:= @A2k;exact gc
/- 159:impl_PassagesOf -/
def W5:Hw:=([(18,[1,5,6,8,13,14,40,41,42],[6,8],[2432,2496])],[])
def bj:=fun a1 a5 a4 (a0:X1) (a2:X4) r6 (k_:U→(P X3)→Q (P X3))=>∀{v7 v8} {zr},k_ v7 v8=N zr→Kh Z 159 W5 18 [1,5,6,8,13,14,40,41,42] [6,8] [2432,2496] ⟨[pI 1 a1,pL 5 rI a5,pB 6,pB 8,pW 13 2432,pW 14 2496,pL 40 rI a4,pI 41 (a4.length:U),pI 42 v7],[(6,[aM X7.row a0.Points,aM X2.row a0.Segments]),(8,(dm a2.row))],[(2432,1,Y rI r6),(2496,5,Y X3.row v8)]⟩ (A8 [12] [.sc (.o 5 (Y X3.row zr))])
theorem A2m{a1 a5 a4 a0 a2 r6}{n:W}:bj a1 a5 a4 a0 a2 r6 (HE a1 a5 a4 a0 a2 r6 n):=by
 induction n with
 | zero=>intro _ _ r h; cases h
 | succ n ih=>
  intro v7 v8 r h σ hσ S hS
  conv at hS=>rhs; reduce
  try simp only[zB,zA,Ah,UInt8.reduceOfNat] at hS
  subst hS;rw[HE] at h;refine AM (Ay ?_);obtain⟨h9,h⟩|⟨h9,h⟩:=ic h
  ·obtain⟨x10,h10,h⟩:=ob h;obtain⟨x11,h11,h⟩:=ob h;obtain⟨r12,h12,h⟩:=ob h;try simp only[hσ,h9,h10,h11,C,E,F,G,H,J]
   refine AJ (Ac xV h12) ?_;obtain⟨h13,h⟩|⟨h13,h⟩:=ic h
   ·obtain⟨x14,h14,h⟩:=ob h;try simp only[h9,h10,h11,h13,h14,C,E,F,G,H,J]
    refine By ?_;try simp only[h9,h10,h11,h13,h14,C,E,F,G,H,J]
    refine An ?_;obtain⟨x15,h15,h⟩:=ob h;have h15n:=Av h15;obtain⟨r16,h16,h⟩:=ob h;try simp only[h9,h10,h11,h13,h14,h15,h15n,C,E,F,G,H,J]
    refine BS (Ac ZQ h16) ?_;try simp only[h9,h10,h11,h13,h14,h15,h15n,C,E,F,G,H,J]
    refine B7 (es:=Y X3.row ([(⟨a1,x10,(x15==x14.A),x11,(IntKind.i64.wrap (x11+r16))⟩:X3)]:P X3)) ?_;obtain⟨h17,h⟩:=AW h;try simp only[h9,h10,h11,h13,h14,h15,h15n,h17,C,E,F,G,H,J]
    refine An ?_;try simp only[h9,h10,h11,h13,h14,h15,h15n,h17,C,E,F,G,H,J]
    refine ih h ?_ (by kernel_rfl);try simp only[h9,h10,h11,h13,h14,h15,h15n,h17,C,E,F,G,H,J,pL,aM,I]
   ·try simp only[h9,h10,h11,h13,C,E,F,G,H,J]
    cases h;exact t0
  ·try simp only[hσ,h9,C,E,F,G,H,J]
   cases h;exact t0
instance A7e:Ct 159 (∀{a0} {a1} {a2} {a3} {a4} {a5} {r},LY a0 a1 a2 a3 a4 a5=N r→FC Z 159 [.ag (X1.row a0),.sc (.int .i64 a1),.ag (X4.row a2),.sc (.int .i64 a3),.sc (.sl (Y rI a4)),.sc (.sl (Y rI a5))] [.sc (.o 5 (Y X3.row r))]):=by
 refine⟨fun{a0} {a1} {a2} {a3} {a4} {a5} {r} h=> ?_⟩;unfold LY at h;refine A5 A4 W5 [12] 85 ?_;have s0:= @AD (Y X3.row ([]:P X3));have k0:= @A2m;exact gc
/- 160:impl_ArrivalOf -/
instance A6s:Ct 160 (∀{a0} {a1} {a2} {a3} {r},LG a0 a1 a2 a3=N r→FC Z 160 [.ag (X1.row a0),.ag (X4.row a1),.sc (.sl (Y rI a2)),.sc (.sl (Y rI a3))] [.sc (.v (.int .i64 r))]):=by
 refine⟨fun{a0} {a1} {a2} {a3} {r} h=> ?_⟩;unfold LG at h;refine A5 A4 h0 [8] 55 ?_;exact gc
/- 114:impl_option -/
def bA:P (P W × AItem):= [([],(O,.load 72 (S 16) T 4)),([],(O,.faddr 73 (S 16) 1)),([1],(O,.load 74 (S 73) L 1)),([2],(O,.bin 75 .leq (S 74) (K 2880))),([0,0],(O,.store (S 10) (S 72) 4)),([3,4,0,1,2,3,4],(O,.mv 11 (S 75)))]
def W6:Hw:=([(24,[10,16,60,61,62],[10,16],[2752])],[])
abbrev Ji(a4 r5 v7:U)(c0_ c1_:V)(c2_ c3_ c5_:V)(bx_:P (W × P AC))(rs_:Rows):St:=⟨[(10,vc (.pb 10 0)),(16,vc (.pb 16 0)),(72,bif c0_ then va [aI a4,aI r5,aI v7,.own 2752] else .undef),(73,bif c1_ then vc (.pb 16 1) else .undef),(74,bif c2_ then vc (aI r5) else .undef),(75,bif c3_ then vc (aB (decide (r5≤(2880:U)))) else .undef),(11,bif c5_ then vc (aB (decide (r5≤(2880:U)))) else .undef)],bx_,rs_⟩
abbrev QM(a4 r5:U)(r4:(P X3))(v7:U):St:=(Ji a4 r5 v7 T T T T T [(10,[aI a4,aI r5,aI v7,.own 2752]),(16,[aI a4,aI r5,aI v7,.own 2752])] [(2752,5,Y X3.row r4)])
theorem A2n(a4 r5 r4 v7):∀(f:W) (b1 b2:V) (b3 b5:V),Ae Z bA (QM a4 r5 r4 v7) f [T,b1,b2,b3,T,b5] (Ji a4 r5 v7 T b1 b2 b3 b5 [(10,[aI a4,aI r5,aI v7,.own 2752]),(16,[aI a4,aI r5,aI v7,.own 2752])] [(2752,5,Y X3.row r4)]):=by
 intro f
 induction f with
 | zero=>
  intro b1 b2 b3 b5 h;obtain rfl:b1=T:=zG.1 h b1 (by simp);obtain rfl:b2=T:=zG.1 h b2 (by simp);obtain rfl:b3=T:=zG.1 h b3 (by simp);obtain rfl:b5=T:=zG.1 h b5 (by simp);rfl
 | succ f ih=>
  intro b1 b2 b3 b5;refine Aj ⟨?_,?_,?_,?_,?_,?_,⟨⟩⟩<;>try first | (intro h; cases h; done) | (intro h0 hw; obtain rfl:=hz h0 rfl; (try obtain rfl:=hq hw 1 rfl rfl); (try obtain rfl:=hq hw 2 rfl rfl); (try obtain rfl:=hq hw 3 rfl rfl); refine np ?_; simp only[Ji,A6,A7,A2,C,E,F,G,H,J]; exact ih _ _ _ _)
theorem A2o(a4 r5 r4 v7):∀(f:W) (b0 b1:V) (b2 b3:V),Ae Z bA (QM a4 r5 r4 v7) f [b0,b1,b2,b3,L,L] (Ji a4 r5 v7 b0 b1 b2 b3 L [(10,[aI (0:U),aI (0:U),aI (0:U),.nil]),(16,[aI a4,aI r5,aI v7,.own 2752])] [(2752,5,Y X3.row r4)]):=by
 intro f
 induction f with
 | zero=>intro b0 b1 b2 b3 h; simp at h
 | succ f ih=>
  intro b0 b1 b2 b3;refine Aj ⟨?_,?_,?_,?_,?_,?_,⟨⟩⟩<;>try first | (intro _ hw; simp at hw; done) | (intro h0 hw; obtain rfl:=hz h0 rfl; (try obtain rfl:=hq hw 1 rfl rfl); (try obtain rfl:=hq hw 2 rfl rfl); refine np ?_; simp only[Ji,A6,A7,A2,C,E,F,G,H,J]; exact ih _ _ _ _)
  ·intro h0 hw;obtain rfl:=hq hw 0 rfl rfl;refine np ?_;try simp only[Ji,A6,A7,A2,C,E,F,G,H,J]
   exact A2n a4 r5 r4 v7 _ b1 b2 b3 L
def cN:=fun(a2:Xk) a4 r5 r4 (k_:U→U→Q (X0 × V))=>∀{v6 v7} {zr},k_ v6 v7=N zr→Kh Z 114 W6 24 [10,16,60,61,62] [10,16] [2752] ⟨[pB 10,pB 16,pL 60 rI a2.minutes,pI 61 (a2.minutes.length:U),pI 62 v6],[(10,[aI (0:U),aI (0:U),aI (0:U),.nil]),(16,[aI a4,aI r5,aI v7,.own 2752])],[(2752,5,Y X3.row r4)]⟩ (A8 [.c 10 T 4,11] [.ag [.v (.int .i64 zr.1.Start),.v (.int .i64 zr.1.Arrival),.v (.int .i64 zr.1.Cost),.o 5 (Y X3.row zr.1.Passages)],.sc (.v (.bool zr.2))])
theorem A2p{a2 a4 r5 r4}{n:W}:cN a2 a4 r5 r4 (Gq a2 a4 r5 r4 n):=by
 induction n with
 | zero=>intro _ _ r h; cases h
 | succ n ih=>
  intro v6 v7 r h σ hσ S hS
  conv at hS=>rhs; reduce
  try simp only[zB,zA,Ah,UInt8.reduceOfNat] at hS
  subst hS;rw[Gq] at h;refine AM (Ay ?_);obtain⟨h8,h⟩|⟨h8,h⟩:=ic h
  ·obtain⟨x9,h9,h⟩:=ob h;try simp only[hσ,h8,h9,C,E,F,G,H,J]
   refine ih h ?_ (by kernel_rfl);try simp only[h8,h9,C,E,F,G,H,J,pL,aM,I]
  ·try simp only[hσ,h8,C,E,F,G,H,J]
   refine EA (ks:= [10,16]) (bs:= [10,16]) (rs:= [2752]) (τ:=(QM a4 r5 r4 v7)) X (A2o a4 r5 r4 v7 _ L L L L) ?_;simp only[QM,Ji,A6];try simp only[h8,C,E,F,G,H,J]
   cases h;try simp only[H4,C,E,F,G,H,J]
   trivial
instance xY:Ct 114 (∀{a0} {a1} {a2} {a3} {a4} {r},HS a0 a1 a2 a3 a4=N r→FC Z 114 [.ag (X6.row a0),.ag (Xa.row a1),.ag (Xk.row a2),.sc (.sl (Y rI a3)),.sc (.int .i64 a4)] [.ag [.v (.int .i64 r.1.Start),.v (.int .i64 r.1.Arrival),.v (.int .i64 r.1.Cost),.o 5 (Y X3.row r.1.Passages)],.sc (.v (.bool r.2))]):=by
 refine⟨fun{a0} {a1} {a2} {a3} {a4} {r} h=> ?_⟩;unfold HS at h;refine A5 A4 W6 [.c 10 T 4,11] 76 ?_;have k0:= @A2p;exact gc
/- 67:impl_OptionsOf -/
def S7:Hw:=([(28,[2,3,5,7,9,10],[2,3,7],[1984,1985,1986,2560]),(44,[2,3,5,7,9,10],[2,3,7],[1984,1985,1986,2560])],[(42,2,(O,.frz 3843))])
def bh:=fun(r3:(P U) × V) v7 (a0:X6) (a1:Xa) (r4:Xk × V) (k_:(P X0)→Q (P X0))=>∀{v14} {zr},k_ v14=N zr→Kh Z 67 S7 44 [2,3,5,7,9,10] [2,3,7] [1984,1985,1986,2560] ⟨[pB 2,pB 3,pL 5 rI r3.1,pB 7,pW 9 2560,pI 10 v7],[(2,([aI a0.Forecast.Tide.Mean,aM zH a0.Forecast.Tide.Parts,aM X9.row a0.Forecast.Surges,aM X7.row a0.Chart.Points,aM X2.row a0.Chart.Segments,aM X4.row a0.Fleet,aI a0.Regime.Gap,aB a0.Regime.NoMeet]++dm a0.Crew.row)),(3,(dm a1.row)),(7,[.own 1984,.own 1985,.own 1986])],[(1984,1,Y rB r4.1.waits),(1985,1,Y rI r4.1.minutes),(1986,1,Y (rL X5.row) r4.1.sure),(2560,4,Y X0.row v14)]⟩ (A8 [4] [.sc (.o 4 (Y X0.row zr))])
def TJ:=fun(r3:(P U) × V) (a0:X6) (a1:Xa) (r4:Xk × V) (k_:U→(P X0)→Q (P X0))=>∀{v7 v8} {zr},k_ v7 v8=N zr→Kh Z 67 S7 28 [2,3,5,7,9,10] [2,3,7] [1984,1985,1986,2560] ⟨[pB 2,pB 3,pL 5 rI r3.1,pB 7,pW 9 2560,pI 10 v7],[(2,([aI a0.Forecast.Tide.Mean,aM zH a0.Forecast.Tide.Parts,aM X9.row a0.Forecast.Surges,aM X7.row a0.Chart.Points,aM X2.row a0.Chart.Segments,aM X4.row a0.Fleet,aI a0.Regime.Gap,aB a0.Regime.NoMeet]++dm a0.Crew.row)),(3,(dm a1.row)),(7,[.own 1984,.own 1985,.own 1986])],[(1984,1,Y rB r4.1.waits),(1985,1,Y rI r4.1.minutes),(1986,1,Y (rL X5.row) r4.1.sure),(2560,4,Y X0.row v8)]⟩ (A8 [4] [.sc (.o 4 (Y X0.row zr))])
theorem aN{r3 v7 a0 a1 r4}{Qj}(oh:TJ r3 a0 a1 r4 Qj):bh r3 v7 a0 a1 r4 (JU r3 v7 a0 a1 r4 Qj):=by
 intro v14 r h σ hσ;unfold JU at h;have k0:= @oh;exact gc
theorem A2q{r3 a0 a1 r4}{n:W}:TJ r3 a0 a1 r4 (Gi r3 a0 a1 r4 n):=by
 induction n with
 | zero=>intro _ _ r h; cases h
 | succ n ih=>
  intro v7 v8 r h σ hσ S hS
  conv at hS=>rhs; reduce
  try simp only[zB,zA,Ah,UInt8.reduceOfNat] at hS
  subst hS;rw[Gi] at h;refine AM (Ay ?_);obtain⟨h9,h⟩|⟨h9,h⟩:=ic h
  ·obtain⟨h10,h⟩|⟨h10,h⟩:=ic h
   ·obtain⟨r11,h11,h⟩:=ob h;try simp only[hσ,h9,h10,C,E,F,G,H,J]
    refine Cf (Ac xY h11) X (CN X ⟨X,X,X,CB,X,⟨⟩⟩) X (uf X) ?_;try simp only[h9,h10,C,E,F,G,H,J]
    refine By ?_;obtain⟨h12,h⟩|⟨h12,h⟩:=ic h
    ·try simp only[h9,h10,h12,C,E,F,G,H,J]
     refine Cq ?_;try simp only[h9,h10,h12,C,E,F,G,H,J]
     refine B7 (es:=Y X0.row ([r11.1]:P X0)) ?_;obtain⟨h13,h⟩:=AW h;try simp only[h9,h10,h12,h13,C,E,F,G,H,J]
     refine aN ih h ?_ (by kernel_rfl);try simp only[h9,h10,h12,h13,C,E,F,G,H,J,pL,aM,I]
    ·try simp only[h9,h10,h12,C,E,F,G,H,J]
     refine aN ih h ?_ (by kernel_rfl);try simp only[h9,h10,h12,C,E,F,G,H,J,pL,aM,I]
   ·try simp only[hσ,h9,h10,C,E,F,G,H,J]
    cases h;exact t0
  ·try simp only[hσ,h9,C,E,F,G,H,J]
   cases h;exact t0
instance A69:Ct 67 (∀{a0} {a1} {r},De a0 a1=N r→FC Z 67 [.ag (X6.row a0),.ag (Xa.row a1)] [.sc (.o 4 (Y X0.row r))]):=by
 refine⟨fun{a0} {a1} {r} h=> ?_⟩;unfold De at h;refine A5 A4 S7 [4] 69 ?_;have s0:= @AD (Y X0.row ([]:P X0));have k0:= @A2q;exact gc
/- 33:impl_allOptions -/
def W7:Hw:=([(8,[2,5,9,10,11],[2],[512])],[(19,4,(O,.frz 1152))])
def bw:=fun a1 (a0:X6) (k_:U→(P (P X0))→Q (P (P X0)))=>∀{v1 v2} {zr},k_ v1 v2=N zr→Kh Z 33 W7 8 [2,5,9,10,11] [2] [512] ⟨[pB 2,pW 5 512,pL 9 Xa.row a1,pI 10 (a1.length:U),pI 11 v1],[(2,([aI a0.Forecast.Tide.Mean,aM zH a0.Forecast.Tide.Parts,aM X9.row a0.Forecast.Surges,aM X7.row a0.Chart.Points,aM X2.row a0.Chart.Segments,aM X4.row a0.Fleet,aI a0.Regime.Gap,aB a0.Regime.NoMeet]++dm a0.Crew.row))],[(512,1,Y (rL X0.row) v2)]⟩ (A8 [4] [.sc (.o 1 (Y (rL X0.row) zr))])
theorem A2r{a1 a0}{n:W}:bw a1 a0 (HL a1 a0 n):=by
 induction n with
 | zero=>intro _ _ r h; cases h
 | succ n ih=>
  intro v1 v2 r h σ hσ;rw[HL] at h;have s0:=fun(r5:(P X0))=> @AD (Y (rL X0.row) ([r5]:P (P X0)))
  exact gc
instance xN:Ct 33 (∀{a0} {a1} {r},Po a0 a1=N r→FC Z 33 [.ag (X6.row a0),.sc (.sl (Y Xa.row a1))] [.sc (.o 1 (Y (rL X0.row) r))]):=by
 refine⟨fun{a0} {a1} {r} h=> ?_⟩;unfold Po at h;refine A5 A4 W7 [4] 23 ?_;have s0:= @AD (Y (rL X0.row) ([]:P (P X0)));have k0:= @A2r;exact gc
/- 108:impl_weight_less -/
instance xd:Ct 108 (∀{a0} {a1} {r},Ml a0 a1=N r→FC Z 108 [.ag (Xj.row a0),.ag (Xj.row a1)] [.sc (.v (.bool r))]):=by
 refine⟨fun{a0} {a1} {r} h=> ?_⟩;unfold Ml at h;refine A5 A4 h0 [4] 24 ?_;exact gc
/- 195:impl_Overlaps -/
instance A7a:Ct 195 (∀{a0} {a1} {r},JV a0 a1=N r→FC Z 195 [.ag (X3.row a0),.ag (X3.row a1)] [.sc (.v (.bool r))]):=by
 refine⟨fun{a0} {a1} {r} h=> ?_⟩;unfold JV at h;refine A5 A4 h0 [4] 16 ?_;exact gc
/- 196:impl_near -/
instance A71:Ct 196 (∀{a0} {a1} {a2} {r},K6 a0 a1 a2=N r→FC Z 196 [.sc (.int .i64 a0),.sc (.int .i64 a1),.sc (.int .i64 a2)] [.sc (.v (.bool r))]):=by
 refine⟨fun{a0} {a1} {a2} {r} h=> ?_⟩;unfold K6 at h;refine A5 A4 h0 [6] 19 ?_;exact gc
/- 172:impl_conflict -/
def NN:Hw:=([(6,[4,5,6,7,9],[4,5,6,7],[]),(12,[4,5,6,7,24],[4,5,6,7],[]),(24,[5,6,7,41],[5,6,7],[]),(36,[6,7,72],[6,7],[])],[])
def cF:=fun(a2:X3) (a3:X3) (k_:V→Q U)=>∀{v22} {zr},k_ v22=N zr→Kh Z 172 NN 36 [6,7,72] [6,7] [] ⟨[pB 6,pB 7,(72,vc (aB v22))],[(6,(dm a2.row)),(7,(dm a3.row))],[]⟩ (A8 [8] [.sc (.v (.int .i64 zr))])
def cE:=fun(a1:Xi) (a2:X3) (a3:X3) (k_:V→V→Q U)=>∀{v15 v16} {zr},k_ v15 v16=N zr→Kh Z 172 NN 24 [5,6,7,41] [5,6,7] [] ⟨[pB 5,pB 6,pB 7,(41,vc (aB v15))],[(5,[aI a1.Gap,aB v16]),(6,(dm a2.row)),(7,(dm a3.row))],[]⟩ (A8 [8] [.sc (.v (.int .i64 zr))])
def cD:=fun(a0:X1) (a1:Xi) (a2:X3) (a3:X3) (k_:V→Q U)=>∀{v7} {zr},k_ v7=N zr→Kh Z 172 NN 12 [4,5,6,7,24] [4,5,6,7] [] ⟨[pB 4,pB 5,pB 6,pB 7,(24,vc (aB v7))],[(4,[aM X7.row a0.Points,aM X2.row a0.Segments]),(5,(dm a1.row)),(6,(dm a2.row)),(7,(dm a3.row))],[]⟩ (A8 [8] [.sc (.v (.int .i64 zr))])
def cC:=fun(a0:X1) (a1:Xi) (a2:X3) (a3:X3) (k_:V→Q U)=>∀{v3} {zr},k_ v3=N zr→Kh Z 172 NN 6 [4,5,6,7,9] [4,5,6,7] [] ⟨[pB 4,pB 5,pB 6,pB 7,(9,vc (aB v3))],[(4,[aM X7.row a0.Points,aM X2.row a0.Segments]),(5,(dm a1.row)),(6,(dm a2.row)),(7,(dm a3.row))],[]⟩ (A8 [8] [.sc (.v (.int .i64 zr))])
theorem A2s{a2 a3}:cF a2 a3 (Mb a2 a3):=by
 intro v22 r h σ hσ;unfold Mb at h;exact gc
theorem A2t{a1 a2 a3}:cE a1 a2 a3 (HO a1 a2 a3):=by
 intro v15 v16 r h σ hσ;unfold HO at h;have k0:= @A2s;exact gc
theorem A2u{a0 a1 a2 a3}:cD a0 a1 a2 a3 (Ma a0 a1 a2 a3):=by
 intro v7 r h σ hσ;unfold Ma at h;have k0:= @A2t;exact gc
theorem A2v{a0 a1 a2 a3}:cC a0 a1 a2 a3 (M9 a0 a1 a2 a3):=by
 intro v3 r h σ hσ;unfold M9 at h;have k0:= @A2u;exact gc
instance A7w:Ct 172 (∀{a0} {a1} {a2} {a3} {r},M8 a0 a1 a2 a3=N r→FC Z 172 [.ag (X1.row a0),.ag (Xi.row a1),.ag (X3.row a2),.ag (X3.row a3)] [.sc (.v (.int .i64 r))]):=by
 refine⟨fun{a0} {a1} {a2} {a3} {r} h=> ?_⟩;unfold M8 at h;refine A5 A4 NN [8] 116 ?_;have k0:= @A2v;exact gc
/- 151:impl_clashes -/
def S8:Hw:=([(6,[3,4,5,13,14,15],[4,5],[]),(20,[3,4,5,10,13,14,15,19,20,21],[4,5,10],[])],[])
def cB:=fun a3 a2 v1 (a0:X1) (a1:Xi) (x3:X3) (k_:U→Q V)=>∀{v4} {zr},k_ v4=N zr→Kh Z 151 S8 20 [3,4,5,10,13,14,15,19,20,21] [4,5,10] [] ⟨[pL 3 X3.row a3,pB 4,pB 5,pB 10,pL 13 X3.row a2,pI 14 (a2.length:U),pI 15 v1,pL 19 X3.row a3,pI 20 (a3.length:U),pI 21 v4],[(4,[aM X7.row a0.Points,aM X2.row a0.Segments]),(5,(dm a1.row)),(10,(dm x3.row))],[]⟩ (A8 [8] [.sc (.v (.bool zr))])
def TK:=fun a3 a2 (a0:X1) (a1:Xi) (k_:U→Q V)=>∀{v1} {zr},k_ v1=N zr→Kh Z 151 S8 6 [3,4,5,13,14,15] [4,5] [] ⟨[pL 3 X3.row a3,pB 4,pB 5,pL 13 X3.row a2,pI 14 (a2.length:U),pI 15 v1],[(4,[aM X7.row a0.Points,aM X2.row a0.Segments]),(5,(dm a1.row))],[]⟩ (A8 [8] [.sc (.v (.bool zr))])
theorem A2w{a3 a2 v1 a0 a1 x3}{NY}(oi:TK a3 a2 a0 a1 NY){n:W}:cB a3 a2 v1 a0 a1 x3 (HN a3 a2 v1 a0 a1 x3 NY n):=by
 induction n with
 | zero=>intro _ r h; cases h
 | succ n ih=>
  intro v4 r h σ hσ;rw[HN] at h;have k0:= @oi;exact gc
theorem A2x{a3 a2 a0 a1}{n:W}:TK a3 a2 a0 a1 (Fe a3 a2 a0 a1 n):=by
 induction n with
 | zero=>intro _ r h; cases h
 | succ n ih=>
  intro v1 r h σ hσ;rw[Fe] at h;have k0:= @A2w;exact gc
instance xO:Ct 151 (∀{a0} {a1} {a2} {a3} {r},M7 a0 a1 a2 a3=N r→FC Z 151 [.ag (X1.row a0),.ag (Xi.row a1),.sc (.sl (Y X3.row a2)),.sc (.sl (Y X3.row a3))] [.sc (.v (.bool r))]):=by
 refine⟨fun{a0} {a1} {a2} {a3} {r} h=> ?_⟩;unfold M7 at h;refine A5 A4 S8 [8] 33 ?_;have k0:= @A2x;exact gc
/- 153:impl_clone_Option -/
instance ZR:Ct 153 (∀{a0} {r},Er a0=N r→FC Z 153 [.sc (.sl (Y X0.row a0))] [.sc (.o 4 (Y X0.row r))]):=by
 refine⟨fun{a0} {r} h=> ?_⟩;unfold Er at h;refine A5 A4 h0 [2] 8 ?_;have s0:= @EJ _ X0.row (⟨(0:U),(0:U),(0:U),([]:P X3)⟩:X0);exact gc
/- 197:impl_Passage_ends -/
instance A7d:Ct 197 (∀{a0} {a1} {r},JW a0 a1=N r→FC Z 197 [.ag (X3.row a0),.ag (X1.row a1)] [.sc (.v (.int .i64 r.1)),.sc (.v (.int .i64 r.2))]):=by
 refine⟨fun{a0} {a1} {r} h=> ?_⟩;unfold JW at h;refine A5 A4 h0 [4,5] 23 ?_;exact gc
/- 173:impl_duty -/
instance A7y:Ct 173 (∀{a0} {a1} {a2} {r},K2 a0 a1 a2=N r→FC Z 173 [.ag (X1.row a0),.ag (X3.row a1),.ag (X3.row a2)] [.ag [.v (.int .i64 r.From),.v (.int .i64 r.To),.v (.int .i64 r.A),.v (.int .i64 r.B)]]):=by
 refine⟨fun{a0} {a1} {a2} {r} h=> ?_⟩;unfold K2 at h;refine A5 A4 h0 [.c 6 T 4] 30 ?_;exact gc
/- 213:impl_passageOk -/
instance A73:Ct 213 (∀{a0} {a1} {a2} {r},Mg a0 a1 a2=N r→FC Z 213 [.ag (X1.row a0),.sc (.sl (Y X4.row a1)),.ag (X3.row a2)] [.sc (.v (.bool r))]):=by
 refine⟨fun{a0} {a1} {a2} {r} h=> ?_⟩;unfold Mg at h;refine A5 A4 h0 [6] 51 ?_;exact gc
/- 198:impl_PassageOk -/
instance A7c:Ct 198 (∀{a0} {a1} {a2} {r},LX a0 a1 a2=N r→FC Z 198 [.ag (X1.row a0),.sc (.sl (Y X4.row a1)),.ag (X3.row a2)] [.sc (.v (.bool r))]):=by
 refine⟨fun{a0} {a1} {a2} {r} h=> ?_⟩;unfold LX at h;refine A5 A4 h0 [6] 19 ?_;exact gc
/- 174:impl_tugDuties -/
def S9:Hw:=([(8,[1,3,8,12,13,14],[3],[704]),(31,[1,3,8,10,12,13,14,28,29],[3,10],[704])],[])
def cR:=fun a1 a2 v1 (x7:X4) (a0:X1) (x4:X3) (k_:U→(P Xb)→Q ((P Xb) × V))=>∀{v8 v9} {zr},k_ v8 v9=N zr→Kh Z 174 S9 31 [1,3,8,10,12,13,14,28,29] [3,10] [704] ⟨[pL 1 X4.row a1,pB 3,pW 8 704,pB 10,pL 12 X3.row a2,pI 13 (a2.length:U),pI 14 v1,pI 28 x7.Tugs,pI 29 v8],[(3,[aM X7.row a0.Points,aM X2.row a0.Segments]),(10,(dm x4.row))],[(704,4,Y zD v9)]⟩ (A8 [6,7] [.sc (.o 4 (Y zD zr.1)),.sc (.v (.bool zr.2))])
def TO:=fun a1 a2 (a0:X1) (k_:U→(P Xb)→Q ((P Xb) × V))=>∀{v1 v2} {zr},k_ v1 v2=N zr→Kh Z 174 S9 8 [1,3,8,12,13,14] [3] [704] ⟨[pL 1 X4.row a1,pB 3,pW 8 704,pL 12 X3.row a2,pI 13 (a2.length:U),pI 14 v1],[(3,[aM X7.row a0.Points,aM X2.row a0.Segments])],[(704,4,Y zD v2)]⟩ (A8 [6,7] [.sc (.o 4 (Y zD zr.1)),.sc (.v (.bool zr.2))])
theorem A2y{a1 a2 v1 x7 a0 x4}{O0}(om:TO a1 a2 a0 O0){n:W}:cR a1 a2 v1 x7 a0 x4 (Gr a1 a2 v1 x7 a0 x4 O0 n):=by
 induction n with
 | zero=>intro _ _ r h; cases h
 | succ n ih=>
  intro v8 v9 r h σ hσ;rw[Gr] at h;have s0:=fun(r11:Xb)=> @AD (Y zD ([r11]:P Xb))
  have k0:= @om;exact gc
theorem A20{a1 a2 a0}{n:W}:TO a1 a2 a0 (Fh a1 a2 a0 n):=by
 induction n with
 | zero=>intro _ _ r h; cases h
 | succ n ih=>
  intro v1 v2 r h σ hσ;rw[Fh] at h;have k0:= @A2y;exact gc
instance A74:Ct 174 (∀{a0} {a1} {a2} {r},Mi a0 a1 a2=N r→FC Z 174 [.ag (X1.row a0),.sc (.sl (Y X4.row a1)),.sc (.sl (Y X3.row a2))] [.sc (.o 4 (Y zD r.1)),.sc (.v (.bool r.2))]):=by
 refine⟨fun{a0} {a1} {a2} {r} h=> ?_⟩;unfold Mi at h;refine A5 A4 S9 [6,7] 44 ?_;have s0:= @AD (Y zD ([]:P Xb));have k0:= @A20;exact gc
/- 225:impl_DutiesOk -/
def W9:Hw:=([(14,[8,9,10],[],[])],[])
def bW:=fun a0 (k_:U→Q V)=>∀{v2} {zr},k_ v2=N zr→Kh Z 225 W9 14 [8,9,10] [] [] ⟨[pL 8 zD a0,pI 9 (a0.length:U),pI 10 v2],[],[]⟩ (A8 [2] [.sc (.v (.bool zr))])
theorem A21{a0}{n:W}:bW a0 (Hy a0 n):=by
 induction n with
 | zero=>intro _ r h; cases h
 | succ n ih=>
  intro v2 r h σ hσ;rw[Hy] at h;exact gc
instance A6x:Ct 225 (∀{a0} {r},Hx a0=N r→FC Z 225 [.sc (.sl (Y zD a0))] [.sc (.v (.bool r))]):=by
 refine⟨fun{a0} {r} h=> ?_⟩;unfold Hx at h;refine A5 A4 W9 [2] 42 ?_;have k0:= @A21;exact gc
/- 214:impl_coverable -/
instance xP:Ct 214 (∀{a0} {a1} {a2} {r},Pp a0 a1 a2=N r→FC Z 214 [.sc (.int .i64 a0),.sc (.sl (Y rI a1)),.sc (.sl (Y zD a2))] [.sc (.v (.bool r))]):=by
 refine⟨fun{a0} {a1} {a2} {r} h=> ?_⟩;unfold Pp at h;refine A5 A4 h0 [6] 17 ?_;exact gc
/- 231:impl_Gap -/
def Wa:Hw:=([(5,[0,1,6,7,29],[6,7],[])],[])
def bc:=fun a0 a1 (a2:Xb) (a3:Xb) (k_:V→Q (U × V))=>∀{v8} {zr},k_ v8=N zr→Kh Z 231 Wa 5 [0,1,6,7,29] [6,7] [] ⟨[pI 0 a0,pL 1 rI a1,pB 6,pB 7,(29,vc (aB v8))],[(6,(dm a2.row)),(7,(dm a3.row))],[]⟩ (A8 [8,9] [.sc (.v (.int .i64 zr.1)),.sc (.v (.bool zr.2))])
theorem A22{a0 a1 a2 a3}:bc a0 a1 a2 a3 (HB a0 a1 a2 a3):=by
 intro v8 r h σ hσ;unfold HB at h;exact gc
instance A61:Ct 231 (∀{a0} {a1} {a2} {a3} {r},Ph a0 a1 a2 a3=N r→FC Z 231 [.sc (.int .i64 a0),.sc (.sl (Y rI a1)),.ag (zD a2),.ag (zD a3)] [.sc (.v (.int .i64 r.1)),.sc (.v (.bool r.2))]):=by
 refine⟨fun{a0} {a1} {a2} {a3} {r} h=> ?_⟩;unfold Ph at h;refine A5 A4 Wa [8,9] 41 ?_;have k0:= @A22;exact gc
/- 226:impl_CanFollow -/
instance ZL:Ct 226 (∀{a0} {a1} {a2} {a3} {r},JP a0 a1 a2 a3=N r→FC Z 226 [.sc (.int .i64 a0),.sc (.sl (Y rI a1)),.ag (zD a2),.ag (zD a3)] [.sc (.v (.bool r))]):=by
 refine⟨fun{a0} {a1} {a2} {a3} {r} h=> ?_⟩;unfold JP at h;refine A5 A4 h0 [8] 39 ?_;have s0:= @AD (Y zD ([a2]:P Xb));have s1:= @AD (Y zD ([a3]:P Xb));exact gc
/- 215:impl_partners -/
def Q5:Hw:=([(8,[0,1,2,7,15,16,17],[],[896]),(22,[0,1,2,7,8,9,15,16,17,22,23,24],[9],[896]),(35,[0,1,2,7,8,9,10,15,16,17,22,23,24,45],[9],[896])],[])
def cO:=fun a0 a1 a2 v2 v6 (x5:Xb) v7 (k_:V→Q (P U))=>∀{v14} {zr},k_ v14=N zr→Kh Z 215 Q5 35 [0,1,2,7,8,9,10,15,16,17,22,23,24,45] [9] [896] ⟨[pI 0 a0,pL 1 rI a1,pL 2 zD a2,pW 7 896,pI 8 v2,pB 9,pI 10 v6,pL 15 zD a2,pI 16 (a2.length:U),pI 17 v2,pL 22 zD a2,pI 23 (a2.length:U),pI 24 v6,(45,vc (aB v14))],[(9,(dm x5.row))],[(896,1,Y rU v7)]⟩ (A8 [6] [.sc (.o 1 (Y rU zr))])
def TN:=fun a0 a1 a2 v2 (x5:Xb) (k_:U→(P U)→Q (P U))=>∀{v6 v7} {zr},k_ v6 v7=N zr→Kh Z 215 Q5 22 [0,1,2,7,8,9,15,16,17,22,23,24] [9] [896] ⟨[pI 0 a0,pL 1 rI a1,pL 2 zD a2,pW 7 896,pI 8 v2,pB 9,pL 15 zD a2,pI 16 (a2.length:U),pI 17 v2,pL 22 zD a2,pI 23 (a2.length:U),pI 24 v6],[(9,(dm x5.row))],[(896,1,Y rU v7)]⟩ (A8 [6] [.sc (.o 1 (Y rU zr))])
def TM:=fun a0 a1 a2 (k_:U→(P U)→Q (P U))=>∀{v2 v3} {zr},k_ v2 v3=N zr→Kh Z 215 Q5 8 [0,1,2,7,15,16,17] [] [896] ⟨[pI 0 a0,pL 1 rI a1,pL 2 zD a2,pW 7 896,pL 15 zD a2,pI 16 (a2.length:U),pI 17 v2],[],[(896,1,Y rU v3)]⟩ (A8 [6] [.sc (.o 1 (Y rU zr))])
theorem Ts{a0 a1 a2 v2 v6 x5 v7}{NZ}(WD:TN a0 a1 a2 v2 x5 NZ):cO a0 a1 a2 v2 v6 x5 v7 (HT a0 a1 a2 v2 v6 x5 v7 NZ):=by
 intro v14 r h σ hσ S hS
 conv at hS=>rhs; reduce
 try simp only[zB,zA,Ah,UInt8.reduceOfNat] at hS
 subst hS;refine Ay ?_;unfold HT at h;obtain⟨h15,h⟩|⟨h15,h⟩:=ic h
 ·try simp only[hσ,h15,C,E,F,G,H,J]
  refine An ?_;obtain⟨x16,h16,h⟩:=ob h;have h16n:=Av h16;obtain⟨h17,h⟩:=J9 h;try simp only[h15,h16,h16n,h17,C,E,F,G,H,J]
  refine AS (row:=rU) (y:=(Bf .or .u64 x16 (Bn .u64 (1:U) v6))) X X h16n X X (by rfl) ?_;try simp only[h15,h16,h16n,h17,C,E,F,G,H,J]
  refine An ?_;try simp only[h15,h16,h16n,h17,C,E,F,G,H,J]
  refine WD h ?_ (by kernel_rfl);try simp only[h15,h16,h16n,h17,C,E,F,G,H,J,pL,aM,I]
 ·try simp only[hσ,h15,C,E,F,G,H,J]
  refine WD h ?_ (by kernel_rfl);try simp only[h15,C,E,F,G,H,J,pL,aM,I]
theorem A23{a0 a1 a2 v2 x5}{IY}(ol:TM a0 a1 a2 IY){n:W}:TN a0 a1 a2 v2 x5 (E0 a0 a1 a2 v2 x5 IY n):=by
 induction n with
 | zero=>intro _ _ r h; cases h
 | succ n ih=>
  intro v6 v7 r h σ hσ S hS
  conv at hS=>rhs; reduce
  try simp only[zB,zA,Ah,UInt8.reduceOfNat] at hS
  subst hS;rw[E0] at h;refine AM (Ay ?_);obtain⟨h8,h⟩|⟨h8,h⟩:=ic h
  ·obtain⟨x9,h9,h⟩:=ob h;try simp only[hσ,h8,h9,C,E,F,G,H,J]
   refine By ?_;obtain⟨h10,h⟩|⟨h10,h⟩:=ic h
   ·obtain⟨r11,h11,h⟩:=ob h;try simp only[h8,h9,h10,C,E,F,G,H,J]
    refine AJ (Ac ZL h11) ?_;obtain⟨h12,h⟩|⟨h12,h⟩:=ic h
    ·try simp only[h8,h9,h10,h12,C,E,F,G,H,J]
     refine Ts ih h ?_ (by kernel_rfl);try simp only[h8,h9,h10,h12,C,E,F,G,H,J,pL,aM,I]
    ·obtain⟨r13,h13,h⟩:=ob h;try simp only[h8,h9,h10,h12,C,E,F,G,H,J]
     refine AJ (Ac ZL h13) ?_;try simp only[h8,h9,h10,h12,C,E,F,G,H,J]
     refine Ts ih h ?_ (by kernel_rfl);try simp only[h8,h9,h10,h12,C,E,F,G,H,J,pL,aM,I]
   ·try simp only[h8,h9,h10,C,E,F,G,H,J]
    refine Ts ih h ?_ (by kernel_rfl);try simp only[h8,h9,h10,C,E,F,G,H,J,pL,aM,I]
  ·try simp only[hσ,h8,C,E,F,G,H,J]
   refine ol h ?_ (by kernel_rfl);try simp only[h8,C,E,F,G,H,J,pL,aM,I]
theorem A24{a0 a1 a2}{n:W}:TM a0 a1 a2 (Fg a0 a1 a2 n):=by
 induction n with
 | zero=>intro _ _ r h; cases h
 | succ n ih=>
  intro v2 v3 r h σ hσ;rw[Fg] at h;have k0:= @A23;exact gc
instance xZ:Ct 215 (∀{a0} {a1} {a2} {r},Mf a0 a1 a2=N r→FC Z 215 [.sc (.int .i64 a0),.sc (.sl (Y rI a1)),.sc (.sl (Y zD a2))] [.sc (.o 1 (Y rU r))]):=by
 refine⟨fun{a0} {a1} {a2} {r} h=> ?_⟩;unfold Mf at h;refine A5 A4 Q5 [6] 57 ?_;have s0:= @EJ _ rU (0:U);have k0:= @A24;exact gc
/- 233:math_bits_Len64 -/
def Q6:Hw:=([(10,[0,2],[],[]),(18,[0,2],[],[]),(26,[0,2],[],[])],[])
def dE:=fun(k_:U→U→Q U)=>∀{v8 v9} {zr},k_ v8 v9=N zr→Kh Z 233 Q6 26 [0,2] [] [] ⟨[(0,vc (.dat (.int .u64 v8))),pI 2 v9],[],[]⟩ (A8 [2] [.sc (.v (.int .i64 zr))])
def dD:=fun(k_:U→U→Q U)=>∀{v5 v6} {zr},k_ v5 v6=N zr→Kh Z 233 Q6 18 [0,2] [] [] ⟨[(0,vc (.dat (.int .u64 v5))),pI 2 v6],[],[]⟩ (A8 [2] [.sc (.v (.int .i64 zr))])
def dC:=fun(k_:U→U→Q U)=>∀{v2 v3} {zr},k_ v2 v3=N zr→Kh Z 233 Q6 10 [0,2] [] [] ⟨[(0,vc (.dat (.int .u64 v2))),pI 2 v3],[],[]⟩ (A8 [2] [.sc (.v (.int .i64 zr))])
theorem A25:dE Kn:=by
 intro v8 v9 r h σ hσ S hS
 conv at hS=>rhs; reduce
 try simp only[zB,zA,Ah,UInt8.reduceOfNat] at hS
 subst hS;refine Ay ?_;unfold Kn at h;obtain⟨b10,h10,h⟩:=ob h;try simp only[hσ,h10,C,E,F,G,H,J]
 cases h;exact t0
theorem A26:dD MX:=by
 intro v5 v6 r h σ hσ;unfold MX at h;have k0:= @A25;exact gc
theorem A27:dC MW:=by
 intro v2 v3 r h σ hσ;unfold MW at h;have k0:= @A26;exact gc
instance A9h:Ct 233 (∀{a0} {r},PI a0=N r→FC Z 233 [.sc (.int .u64 a0)] [.sc (.v (.int .i64 r))]):=by
 refine⟨fun{a0} {r} h=> ?_⟩;unfold PI at h;refine A5 A4 Q6 [2] 25 ?_;have k0:= @A27;exact gc
/- 227:math_bits_Len -/
instance xx:Ct 227 (∀{a0} {r},Km a0=N r→FC Z 227 [.sc (.int .u64 a0)] [.sc (.v (.int .i64 r))]):=by
 refine⟨fun{a0} {r} h=> ?_⟩;unfold Km at h;refine A5 A4 h0 [2] 8 ?_;exact gc
/- 216:impl_leastPersons -/
def NO:Hw:=([(14,[0,3,4,5,6],[],[896,1024]),(29,[0,3,4,5,6,7,8],[],[896,1024]),(34,[0,3,4,5,6,7,8,9],[],[896,1024]),(43,[0,3,4,5,6,7,8,9],[],[896,1024])],[])
def cL:=fun a0 y5 v6 v17 v18 v21 v19 (k_:(P U)→Q U)=>∀{v28} {zr},k_ v28=N zr→Kh Z 216 NO 43 [0,3,4,5,6,7,8,9] [] [896,1024] ⟨[pL 0 rU a0,pI 3 y5,pW 4 896,pW 5 1024,pI 6 v6,pI 7 v17,pI 8 v18,pI 9 v21],[],[(896,1,Y rB v19),(1024,1,Y rI v28)]⟩ (A8 [2] [.sc (.v (.int .i64 zr))])
def TL:=fun a0 y5 v6 v17 v18 v19 (k_:U→(P U)→Q U)=>∀{v21 v22} {zr},k_ v21 v22=N zr→Kh Z 216 NO 34 [0,3,4,5,6,7,8,9] [] [896,1024] ⟨[pL 0 rU a0,pI 3 y5,pW 4 896,pW 5 1024,pI 6 v6,pI 7 v17,pI 8 v18,pI 9 v21],[],[(896,1,Y rB v19),(1024,1,Y rI v22)]⟩ (A8 [2] [.sc (.v (.int .i64 zr))])
def cK:=fun a0 y5 v6 v8 (k_:U→U→(P V)→Q U)=>∀{v17 v18 v19} {zr},k_ v17 v18 v19=N zr→Kh Z 216 NO 29 [0,3,4,5,6,7,8] [] [896,1024] ⟨[pL 0 rU a0,pI 3 y5,pW 4 896,pW 5 1024,pI 6 v6,pI 7 v17,pI 8 v18],[],[(896,1,Y rB v19),(1024,1,Y rI v8)]⟩ (A8 [2] [.sc (.v (.int .i64 zr))])
def OT:=fun a0 y5 (k_:U→(P V)→(P U)→Q U)=>∀{v6 v7 v8} {zr},k_ v6 v7 v8=N zr→Kh Z 216 NO 14 [0,3,4,5,6] [] [896,1024] ⟨[pL 0 rU a0,pI 3 y5,pW 4 896,pW 5 1024,pI 6 v6],[],[(896,1,Y rB v7),(1024,1,Y rI v8)]⟩ (A8 [2] [.sc (.v (.int .i64 zr))])
theorem aO{a0 y5 v6 v17 v18 v21 v19}{CC}(NQ:OT a0 y5 CC){Qk}(oj:TL a0 y5 v6 v17 v18 v19 Qk):cL a0 y5 v6 v17 v18 v21 v19 (K5 a0 y5 v6 v17 v18 v21 v19 CC Qk):=by
 intro v28 r h σ hσ;unfold K5 at h;have k0:= @NQ; have k1:= @oj;exact gc
theorem A28{a0 y5 v6 v17 v18 v19}{CC}(NQ:OT a0 y5 CC){n:W}:TL a0 y5 v6 v17 v18 v19 (Gm a0 y5 v6 v17 v18 v19 CC n):=by
 induction n with
 | zero=>intro _ _ r h; cases h
 | succ n ih=>
  intro v21 v22 r h σ hσ S hS
  conv at hS=>rhs; reduce
  try simp only[zB,zA,Ah,UInt8.reduceOfNat] at hS
  subst hS;rw[Gm] at h;refine AM (Ay ?_);obtain⟨h23,h⟩:=J9 h;obtain⟨x24,h24,h⟩:=ob h;have h24n:=Av h24;obtain⟨h25,h⟩|⟨h25,h⟩:=ic h
  ·try simp only[hσ,h23,h24,h24n,h25,C,E,F,G,H,J]
   refine An ?_;obtain⟨x26,h26,h⟩:=ob h;have h26n:=Av h26;obtain⟨x27,h27,h⟩:=ob h;have h27n:=Av h27;try simp only[h23,h24,h24n,h25,h26,h26n,h27,h27n,C,E,F,G,H,J]
   refine AS (row:=rI) (y:=(if(IntKind.i64.wrap ((1:U)+x27))<x26 then(IntKind.i64.wrap ((1:U)+x27)) else x26)) X X h26n X X (by rfl) ?_;try simp only[h23,h24,h24n,h25,h26,h26n,h27,h27n,C,E,F,G,H,J]
   refine An ?_;try simp only[h23,h24,h24n,h25,h26,h26n,h27,h27n,C,E,F,G,H,J]
   refine aO NQ ih h ?_ (by kernel_rfl);try simp only[h23,h24,h24n,h25,h26,h26n,h27,h27n,C,E,F,G,H,J,pL,aM,I]
  ·try simp only[hσ,h23,h24,h24n,h25,C,E,F,G,H,J]
   refine aO NQ ih h ?_ (by kernel_rfl);try simp only[h23,h24,h24n,h25,C,E,F,G,H,J,pL,aM,I]
theorem aP{a0 y5 v6 v8}{CC}(NQ:OT a0 y5 CC):cK a0 y5 v6 v8 (K4 a0 y5 v6 v8 CC):=by
 intro v17 v18 v19 r h σ hσ;unfold K4 at h;have s0:= @H7 _ rI ((a0.length:U));have k0:= @A28;exact gc
theorem A29{a0 y5}{n:W}:OT a0 y5 (Es a0 y5 n):=by
 induction n with
 | zero=>intro _ _ _ r h; cases h
 | succ n ih=>
  intro v6 v7 v8 r h σ hσ S hS
  conv at hS=>rhs; reduce
  try simp only[zB,zA,Ah,UInt8.reduceOfNat] at hS
  subst hS;rw[Es] at h;refine AM (Ay ?_);obtain⟨h9,h⟩|⟨h9,h⟩:=ic h
  ·obtain⟨r10,h10,h⟩:=ob h;try simp only[hσ,h9,C,E,F,G,H,J]
   refine AJ (Ac xx h10) ?_;obtain⟨h11,h⟩:=J9 h;obtain⟨x12,h12,h⟩:=ob h;have h12n:=Av h12;obtain⟨h13,h⟩|⟨h13,h⟩:=ic h
   ·obtain⟨x14,h14,h⟩:=ob h;obtain⟨x15,h15,h⟩:=ob h;have h15n:=Av h15;try simp only[h9,h11,h12,h12n,h13,h14,h15,C,E,F,G,H,J]
    refine AS (row:=rB) (y:=((Bf .andNot .u64 (IntKind.u64.wrap (Bf .andNot .i64 v6 (Bn .i64 (1:U) (IntKind.i64.wrap (r10 - (1:U)))))) x14)==(0:U))) X X h15n X X (by rfl) ?_;try simp only[h9,h11,h12,h12n,h13,h14,h15,C,E,F,G,H,J]
    refine aP ih h ?_ (by kernel_rfl);try simp only[h9,h11,h12,h12n,h13,h14,h15,C,E,F,G,H,J,pL,aM,I]
   ·obtain⟨x16,h16,h⟩:=ob h;have h16n:=Av h16;try simp only[h9,h11,h12,h12n,h13,h16,C,E,F,G,H,J]
    refine AS (row:=rB) (y:=false) X X h16n X X (by rfl) ?_;try simp only[h9,h11,h12,h12n,h13,h16,C,E,F,G,H,J]
    refine aP ih h ?_ (by kernel_rfl);try simp only[h9,h11,h12,h12n,h13,h16,C,E,F,G,H,J,pL,aM,I]
  ·obtain⟨x30,h30,h⟩:=ob h;have h30n:=Av h30;try simp only[hσ,h9,h30,h30n,C,E,F,G,H,J]
   cases h;exact t0
instance xW:Ct 216 (∀{a0} {r},Me a0=N r→FC Z 216 [.sc (.sl (Y rU a0))] [.sc (.v (.int .i64 r))]):=by
 refine⟨fun{a0} {r} h=> ?_⟩;unfold Me at h;refine A5 A4 NO [2] 88 ?_;intro S hS
 conv at hS=>rhs; reduce
 try simp only[zB,zA,Ah,UInt8.reduceOfNat] at hS
 subst hS;simp only[C,E,F,G,H,J];obtain⟨h1,h⟩:=J9 h;obtain⟨n2,hn2,h⟩:=ob h;try simp only[h1,C,E,F,G,H,J]
 refine RO (es:=Y rB (List.replicate n2 L)) X X hn2 X (Jd X) X ?_;obtain⟨n3,hn3,h⟩:=ob h;try simp only[h1,C,E,F,G,H,J]
 refine RO (es:=Y rI (List.replicate n3 (0:U))) X X hn3 X (Jd X) X ?_;obtain⟨x4,h4,h⟩:=ob h;have h4n:=Av h4;try simp only[h1,h4,C,E,F,G,H,J]
 refine AS (row:=rB) (y:=true) X X h4n X X (by rfl) ?_;try simp only[h1,h4,C,E,F,G,H,J]
 refine A29 h ?_ (by kernel_rfl);try simp only[h1,h4,C,E,F,G,H,J,pL,aM,I]
/- 217:impl_coverer_cover -/
def NP:Hw:=([(16,[0,3,4],[99999999999],[90000,90001]),(31,[0,3,4],[99999999999],[90000,90001]),(51,[0,3,4],[99999999999],[90000,90001])],[(48,7,(O,.cut 95)),(55,7,(O,.cut 123))])
def cH:=fun(a0:Xg) v2 (k_:(P U)→U→(P U)→(P U)→Q (V × Xg))=>∀{v22 v23 v24 v25} {zr},k_ v22 v23 v24 v25=N zr→Kh Z 217 NP 51 [0,3,4] [99999999999] [90000,90001] ⟨[(0,vc (.pb 99999999999 0)),pI 3 (a0.who.length:U),pI 4 v2],[(99999999999,[aM rU v22,aI v23,.own 90000,.own 90001])],[(90000,1,Y rU v24),(90001,1,Y rI v25)]⟩ (D3 [2] [.sc (.v (.bool zr.1))] (CG zr.2) (CH zr.2))
def cG:=fun(a0:Xg) v2 v3 v4 v6 (k_:(P U)→Q (V × Xg))=>∀{v11} {zr},k_ v11=N zr→Kh Z 217 NP 31 [0,3,4] [99999999999] [90000,90001] ⟨[(0,vc (.pb 99999999999 0)),pI 3 (a0.who.length:U),pI 4 v2],[(99999999999,[aM rU v3,aI v4,.own 90000,.own 90001])],[(90000,1,Y rU v11),(90001,1,Y rI v6)]⟩ (D3 [2] [.sc (.v (.bool zr.1))] (CG zr.2) (CH zr.2))
def QX:=fun(a0:Xg) (k_:U→(P U)→U→(P U)→(P U)→Q (V × Xg))=>∀{v2 v3 v4 v5 v6} {zr},k_ v2 v3 v4 v5 v6=N zr→Kh Z 217 NP 16 [0,3,4] [99999999999] [90000,90001] ⟨[(0,vc (.pb 99999999999 0)),pI 3 (a0.who.length:U),pI 4 v2],[(99999999999,[aM rU v3,aI v4,.own 90000,.own 90001])],[(90000,1,Y rU v5),(90001,1,Y rI v6)]⟩ (D3 [2] [.sc (.v (.bool zr.1))] (CG zr.2) (CH zr.2))
theorem aQ{rec_:Xg→Q (V × Xg)}(h_rec:∀(a0:Xg) zr,rec_ a0=N zr→FCz Z 217 [.p] (CG a0) (CH a0) (CG zr.2) (CH zr.2) [.sc (.v (.bool zr.1))]){a0 v2}{EF}(Qa:QX a0 EF):cH a0 v2 (HP rec_ a0 v2 EF):=by
 intro v22 v23 v24 v25 r h σ hσ S hS
 conv at hS=>rhs; reduce
 try simp only[zB,zA,Ah,UInt8.reduceOfNat] at hS
 subst hS;refine Ay ?_;unfold HP at h;obtain⟨x26,h26,h⟩:=ob h;have h26n:=Av h26;obtain⟨h27,h⟩|⟨h27,h⟩:=ic h
 ·obtain⟨p28,h28,h⟩:=ob h;try simp only[hσ,h26,h26n,h27,C,E,F,G,H,J]
  refine IV X X h28 (by rfl) ?_;try simp only[h26,h26n,h27,C,E,F,G,H,J]
  cases h;exact⟨⟨X,⟨⟩⟩,[90000,90001],by decide,by decide,X,X⟩
 ·try simp only[hσ,h26,h26n,h27,C,E,F,G,H,J]
  refine Qa h ?_ (by kernel_rfl);try simp only[h26,h26n,h27,C,E,F,G,H,J,pL,aM,I]
theorem aR{rec_:Xg→Q (V × Xg)}(h_rec:∀(a0:Xg) zr,rec_ a0=N zr→FCz Z 217 [.p] (CG a0) (CH a0) (CG zr.2) (CH zr.2) [.sc (.v (.bool zr.1))]){a0 v2 v3 v4 v6}{EF}(Qa:QX a0 EF):cG a0 v2 v3 v4 v6 (K1 rec_ a0 v2 v3 v4 v6 EF):=by
 intro v11 r h σ hσ S hS
 conv at hS=>rhs; reduce
 try simp only[zB,zA,Ah,UInt8.reduceOfNat] at hS
 subst hS;refine Ay ?_;unfold K1 at h;try simp only[hσ,C,E,F,G,H,J]
 refine An ?_;obtain⟨x12,h12,h⟩:=ob h;have h12n:=Av h12;obtain⟨x13,h13,h⟩:=ob h;obtain⟨h14,h⟩|⟨h14,h⟩:=ic h
 ·try simp only[h12,h12n,h13,h14,C,E,F,G,H,J]
  refine An ?_;obtain⟨h15,h⟩:=J9 h;try simp only[h12,h12n,h13,h14,h15,C,E,F,G,H,J]
  refine AS (row:=rU) (y:=(Bf .or .u64 x12 (Bn .u64 (1:U) (a0.who.length:U)))) X X h12n X X (by rfl) ?_;try simp only[h12,h12n,h13,h14,h15,C,E,F,G,H,J]
  refine An ?_;try simp only[h12,h12n,h13,h14,h15,C,E,F,G,H,J]
  refine B7 (es:=Y rI ([v2]:P U)) ?_;obtain⟨h16,h⟩:=AW h;obtain⟨r17,h17,h⟩:=ob h;try simp only[h12,h12n,h13,h14,h15,h16,C,E,F,G,H,J]
  refine FI (h_rec _ _ h17) 99999999999 [90000,90001] rfl X X X (by decide) X X X ?_;obtain⟨h18,h⟩|⟨h18,h⟩:=ic h
  ·try simp only[h12,h12n,h13,h14,h15,h16,h18,C,E,F,G,H,J]
   cases h;exact⟨⟨X,⟨⟩⟩,[90000,90001],by decide,by decide,X,X⟩
  ·obtain⟨p19,h19,h⟩:=ob h;try simp only[h12,h12n,h13,h14,h15,h16,h18,C,E,F,G,H,J]
   refine IV X X h19 (by rfl) ?_;try simp only[h12,h12n,h13,h14,h15,h16,h18,C,E,F,G,H,J]
   refine An ?_;obtain⟨x20,h20,h⟩:=ob h;have h20n:=Av h20;obtain⟨h21,h⟩:=J9 h;try simp only[h12,h12n,h13,h14,h15,h16,h18,h20,h20n,h21,C,E,F,G,H,J]
   refine AS (row:=rU) (y:=(Bf .andNot .u64 x20 (Bn .u64 (1:U) (a0.who.length:U)))) X X h20n X X (by rfl) ?_;try simp only[h12,h12n,h13,h14,h15,h16,h18,h20,h20n,h21,C,E,F,G,H,J]
   refine An ?_;try simp only[h12,h12n,h13,h14,h15,h16,h18,h20,h20n,h21,C,E,F,G,H,J]
   refine aQ h_rec Qa h ?_ (by kernel_rfl);try simp only[h12,h12n,h13,h14,h15,h16,h18,h20,h20n,h21,C,E,F,G,H,J,pL,aM,I]
 ·try simp only[h12,h12n,h13,h14,C,E,F,G,H,J]
  refine aQ h_rec Qa h ?_ (by kernel_rfl);try simp only[h12,h12n,h13,h14,C,E,F,G,H,J,pL,aM,I]
theorem A3b{rec_:Xg→Q (V × Xg)}(h_rec:∀(a0:Xg) zr,rec_ a0=N zr→FCz Z 217 [.p] (CG a0) (CH a0) (CG zr.2) (CH zr.2) [.sc (.v (.bool zr.1))]){a0}{n:W}:QX a0 (Ff rec_ a0 n):=by
 induction n with
 | zero=>intro _ _ _ _ _ r h; cases h
 | succ n ih=>
  intro v2 v3 v4 v5 v6 r h σ hσ S hS
  conv at hS=>rhs; reduce
  try simp only[zB,zA,Ah,UInt8.reduceOfNat] at hS
  subst hS;rw[Ff] at h;refine AM (Ay ?_);obtain⟨h7,h⟩|⟨h7,h⟩:=ic h
  ·obtain⟨h8,h⟩|⟨h8,h⟩:=ic h
   ·obtain⟨h9,h⟩|⟨h9,h⟩:=ic h
    ·try simp only[hσ,h7,h8,h9,C,E,F,G,H,J]
     refine B7 (es:=Y rU ([(0:U)]:P U)) ?_;obtain⟨h10,h⟩:=AW h;try simp only[h7,h8,h9,h10,C,E,F,G,H,J]
     refine aR h_rec ih h ?_ (by kernel_rfl);try simp only[h7,h8,h9,h10,C,E,F,G,H,J,pL,aM,I]
    ·try simp only[hσ,h7,h8,h9,C,E,F,G,H,J]
     refine aR h_rec ih h ?_ (by kernel_rfl);try simp only[h7,h8,h9,C,E,F,G,H,J,pL,aM,I]
   ·try simp only[hσ,h7,h8,C,E,F,G,H,J]
    cases h;exact⟨⟨X,⟨⟩⟩,[90000,90001],by decide,by decide,X,X⟩
  ·try simp only[hσ,h7,C,E,F,G,H,J]
   cases h;exact⟨⟨X,⟨⟩⟩,[90000,90001],by decide,by decide,X,X⟩
theorem ka:B4 Z 217=N ((BY Z 217 NP).strip,[2],126):=by kernel_rfl
theorem xR(rec_:Xg→Q (V × Xg))(a0:Xg)(r:V × Xg)(h_rec:∀(a0:Xg) zr,rec_ a0=N zr→FCz Z 217 [.p] (CG a0) (CH a0) (CG zr.2) (CH zr.2) [.sc (.v (.bool zr.1))])(h:Mc rec_ a0=N r):FCz Z 217 [.p] (CG a0) (CH a0) (CG r.2) (CH r.2) [.sc (.v (.bool r.1))]:=by
 unfold Mc at h;refine Lq (σ:=⟨[(0,vc (.pb 99999999999 0))],[(99999999999,[aL (Y rU a0.sets),aI a0.most,.own 90000,.own 90001])],[(90000,1,Y rU a0.groups),(90001,1,Y rI a0.who)]⟩) A4 ka X X X X ?_;refine C9 NP ?_;intro S hS
 conv at hS=>rhs; reduce
 try simp only[zB,zA,Ah,UInt8.reduceOfNat] at hS
 subst hS;obtain⟨h1,h⟩|⟨h1,h⟩:=ic h
 ·try simp only[h1,C,E,F,G,H,J]
  cases h;exact⟨⟨X,⟨⟩⟩,[90000,90001],by decide,by decide,X,X⟩
 ·try simp only[h1,C,E,F,G,H,J]
  refine A3b h_rec h ?_ (by kernel_rfl);try simp only[h1,C,E,F,G,H,J,pL,aM,I]
theorem xS:∀(n:W) (a0:Xg) (r:V × Xg),DZ n a0=N r→FCz Z 217 [.p] (CG a0) (CH a0) (CG r.2) (CH r.2) [.sc (.v (.bool r.1))]:=by
 intro n
 induction n with
 | zero=>intro _ r h; cases h
 | succ n ih=>intro a0 r h; rw[DZ] at h; exact xR (DZ n) a0 r ih h
theorem xQ{a0}{r}(h:RH a0=N r):FCz Z 217 [.p] (CG a0) (CH a0) (CG r.2) (CH r.2) [.sc (.v (.bool r.1))]:=xS bigN a0 r h
/- 199:impl_LeastCover -/
def oX:Hw:=([],[(13,5,(O,.ownb 24 2 152704 1)),(13,6,(O,.ownb 24 3 152768 1)),(15,1,(O,.frz 1216))])
instance A65:Ct 199 (∀{a0} {a1} {a2} {r},LQ a0 a1 a2=N r→FC Z 199 [.sc (.int .i64 a0),.sc (.sl (Y rI a1)),.sc (.sl (Y zD a2))] [.sc (.o 1 (Y rI r.1)),.sc (.v (.int .i64 r.2.1)),.sc (.v (.bool r.2.2))]):=by
 refine⟨fun{a0} {a1} {a2} {r} h=> ?_⟩;unfold LQ at h;refine A5 A4 oX [6,7,8] 35 ?_;intro S hS
 conv at hS=>rhs; reduce
 try simp only[zB,zA,Ah,UInt8.reduceOfNat] at hS
 subst hS;simp only[C,E,F,G,H,J];obtain⟨r1,h1,h⟩:=ob h;try simp only[C,E,F,G,H,J]
 refine AJ (Ac xP h1) ?_;obtain⟨h2,h⟩|⟨h2,h⟩:=ic h
 ·obtain⟨r3,h3,h⟩:=ob h;try simp only[h2,C,E,F,G,H,J]
  refine AJ (Ac xZ h3) ?_;obtain⟨r4,h4,h⟩:=ob h;try simp only[h2,C,E,F,G,H,J]
  refine Cf (Ac xW h4) X (Ce X) X (uf X) ?_;try simp only[h2,C,E,F,G,H,J]
  refine Bk ?_;try simp only[h2,C,E,F,G,H,J]
  refine FL (cs':= [.own 1216,aI r4,.own 152704,.nil]) X X X X ?_;try simp only[h2,C,E,F,G,H,J]
  refine FL (cs':= [.own 1216,aI r4,.own 152704,.own 152768]) X X X X ?_;try simp only[h2,C,E,F,G,H,J]
  refine Cq ?_;obtain⟨r5,h5,h⟩:=ob h;try simp only[h2,C,E,F,G,H,J]
  refine FI (xQ h5) 24 [152704,152768] rfl X X X (by decide) X X X ?_;try simp only[h2,C,E,F,G,H,J]
  refine An ?_;try simp only[h2,C,E,F,G,H,J]
  cases h;trivial
 ·try simp only[h2,C,E,F,G,H,J]
  cases h;trivial
/- 175:impl_coverFits -/
instance A7x:Ct 175 (∀{a0} {a1} {a2} {a3} {r},Gk a0 a1 a2 a3=N r→FC Z 175 [.sc (.int .i64 a0),.sc (.sl (Y rI a1)),.sc (.sl (Y zD a2)),.sc (.int .i64 a3)] [.sc (.v (.bool r))]):=by
 refine⟨fun{a0} {a1} {a2} {a3} {r} h=> ?_⟩;unfold Gk at h;refine A5 A4 h0 [8] 27 ?_;exact gc
/- 152:impl_crewFits -/
def Wb:Hw:=([(8,[2,5,6,13,14,15],[2],[704,768])],[])
def cI:=fun a1 (a0:X6) (k_:U→(P X3)→(P Xb)→Q V)=>∀{v1 v2 v3} {zr},k_ v1 v2 v3=N zr→Kh Z 152 Wb 8 [2,5,6,13,14,15] [2] [704,768] ⟨[pB 2,pW 5 704,pW 6 768,pL 13 X0.row a1,pI 14 (a1.length:U),pI 15 v1],[(2,([aI a0.Forecast.Tide.Mean,aM zH a0.Forecast.Tide.Parts,aM X9.row a0.Forecast.Surges,aM X7.row a0.Chart.Points,aM X2.row a0.Chart.Segments,aM X4.row a0.Fleet,aI a0.Regime.Gap,aB a0.Regime.NoMeet]++dm a0.Crew.row))],[(704,5,Y X3.row v2),(768,4,Y zD v3)]⟩ (A8 [4] [.sc (.v (.bool zr))])
theorem A3c{a1 a0}{n:W}:cI a1 a0 (Gl a1 a0 n):=by
 induction n with
 | zero=>intro _ _ _ r h; cases h
 | succ n ih=>
  intro v1 v2 v3 r h σ hσ;rw[Gl] at h;have s0:=fun(r10:Xb)=> @AD (Y zD ([r10]:P Xb))
  exact gc
instance xT:Ct 152 (∀{a0} {a1} {r},DC a0 a1=N r→FC Z 152 [.ag (X6.row a0),.sc (.sl (Y X0.row a1))] [.sc (.v (.bool r))]):=by
 refine⟨fun{a0} {a1} {r} h=> ?_⟩;unfold DC at h;refine A5 A4 Wb [4] 79 ?_;have s0:= @AD (Y X3.row ([]:P X3));have s1:= @AD (Y zD ([]:P Xb));have k0:= @A3c;exact gc
/- 110:impl_fitsTo -/
def OO:P (P W × AItem):= [([],(O,.load 25 (S 3) T 12)),([],(O,.mv 26 (S 1))),([1],(O,.call 27 153 [(S 26)])),([],(O,.load 28 (S 5) T 4)),([3],(O,.bslice 29 4 [.int .i64 0,.int .i64 0,.int .i64 0,.sl []] 1 [(0,(S 28))])),([2,4,2],(O,.app 30 4 48 (S 27) (S 29))),([0,5,5],(O,.call 31 152 [(S 25),(S 30)])),([6,6,0,1,2,3,4,5,6],(O,.mv 6 (S 31)))]
def Wc:Hw:=([(6,[1,3,5,9,10,11],[3,5],[])],[])
abbrev Cu(a1:P X0)(a0:X6)(a2:X0)(r9:V)(wo2_:AV)(c0_ c1_:V)(c2_ c3_:V)(c4_ c5_:V)(c6_ c7_:V)(bx_:P (W × P AC))(rs_:Rows):St:=⟨[(1,vc (aL (Y X0.row a1))),(3,vc (.pb 3 0)),(5,vc (.pb 5 0)),(25,bif c0_ then va ([aI a0.Forecast.Tide.Mean,aL (Y zH a0.Forecast.Tide.Parts),aL (Y X9.row a0.Forecast.Surges),aL (Y X7.row a0.Chart.Points),aL (Y X2.row a0.Chart.Segments),aL (Y X4.row a0.Fleet),aI a0.Regime.Gap,aB a0.Regime.NoMeet]++dm a0.Crew.row) else .undef),(26,bif c1_ then vc (aL (Y X0.row a1)) else .undef),(27,bif c2_ then wo2_ else .undef),(28,bif c3_ then va (dm a2.row) else .undef),(29,bif c4_ then vc (.own 1856) else .undef),(30,bif c5_ then vc (.own 1728) else .undef),(31,bif c6_ then vc (aB r9) else .undef),(6,bif c7_ then vc (aB r9) else .undef)],bx_,rs_⟩
abbrev Jn(a1:P X0)(a0:X6)(a2:X0)(r6:(P X0))(r9:V):St:=(Cu a1 a0 a2 r9 (vc (.undef)) T T T T T T T T [(3,([aI a0.Forecast.Tide.Mean,aL (Y zH a0.Forecast.Tide.Parts),aL (Y X9.row a0.Forecast.Surges),aL (Y X7.row a0.Chart.Points),aL (Y X2.row a0.Chart.Segments),aL (Y X4.row a0.Fleet),aI a0.Regime.Gap,aB a0.Regime.NoMeet]++dm a0.Crew.row)),(5,(dm a2.row))] [(1728,4,Y X0.row (r6++([a2]:P X0))),(1856,4,Y X0.row ([a2]:P X0))])
theorem A3d(a1 a0 a2 r6 r9)(h6:Er a1=N r6)(h7:(A3 r6.length ([a2]:P X0).length 48)=T)(h9:DC a0 (r6++([a2]:P X0))=N r9):∀(f:W) (b0 b6 b7:V),Ae Z OO (Jn a1 a0 a2 r6 r9) f [b0,T,T,T,T,T,b6,b7] (Cu a1 a0 a2 r9 (vc (.undef)) b0 T T T T T b6 b7 [(3,([aI a0.Forecast.Tide.Mean,aL (Y zH a0.Forecast.Tide.Parts),aL (Y X9.row a0.Forecast.Surges),aL (Y X7.row a0.Chart.Points),aL (Y X2.row a0.Chart.Segments),aL (Y X4.row a0.Fleet),aI a0.Regime.Gap,aB a0.Regime.NoMeet]++dm a0.Crew.row)),(5,(dm a2.row))] [(1728,4,Y X0.row (r6++([a2]:P X0))),(1856,4,Y X0.row ([a2]:P X0))]):=by
 intro f
 induction f with
 | zero=>
  intro b0 b6 b7 h;obtain rfl:b0=T:=zG.1 h b0 (by simp);obtain rfl:b6=T:=zG.1 h b6 (by simp);obtain rfl:b7=T:=zG.1 h b7 (by simp);rfl
 | succ f ih=>
  intro b0 b6 b7;refine Aj ⟨?_,?_,?_,?_,?_,?_,?_,?_,⟨⟩⟩<;>try first | (intro h; cases h; done) | (intro h0 hw; obtain rfl:=hz h0 rfl; (try obtain rfl:=hq hw 0 rfl rfl); (try obtain rfl:=hq hw 6 rfl rfl); refine np ?_; simp only[Cu,A6,A7,A2,C,E,F,G,H,J]; exact ih _ _ _)
  ·intro h0 hw;obtain rfl:=hz h0 rfl;obtain rfl:=hq hw 0 rfl rfl;refine np ?_;try simp only[Cu,A6,A7,A2,C,E,F,G,H,J]
   refine Cf (Ac xT h9) X (Ce X) (by simp only[St.fresh,zE,zF,Ak]; simp[AV.cells,V1.cells,AC.uses]) (uf X) ?_;try simp only[A2,C,E,F,G,H,J]
   exact ih T T b7
theorem aT(a1 a0 a2 r6 r9)(h6:Er a1=N r6)(h7:(A3 r6.length ([a2]:P X0).length 48)=T)(h9:DC a0 (r6++([a2]:P X0))=N r9):∀(f:W) (b0:V),Ae Z OO (Jn a1 a0 a2 r6 r9) f [b0,T,T,T,T,L,L,L] (Cu a1 a0 a2 r9 (vc (.own 1728)) b0 T T T T L L L [(3,([aI a0.Forecast.Tide.Mean,aL (Y zH a0.Forecast.Tide.Parts),aL (Y X9.row a0.Forecast.Surges),aL (Y X7.row a0.Chart.Points),aL (Y X2.row a0.Chart.Segments),aL (Y X4.row a0.Fleet),aI a0.Regime.Gap,aB a0.Regime.NoMeet]++dm a0.Crew.row)),(5,(dm a2.row))] [(1728,4,Y X0.row r6),(1856,4,Y X0.row ([a2]:P X0))]):=by
 intro f
 induction f with
 | zero=>intro b0 h; simp at h
 | succ f ih=>
  intro b0;refine Aj ⟨?_,?_,?_,?_,?_,?_,?_,?_,⟨⟩⟩<;>try first | (intro h; cases h; done) | (intro _ hw; simp at hw; done) | (intro h0 hw; obtain rfl:=hz h0 rfl; refine np ?_; simp only[Cu,A6,A7,A2,C,E,F,G,H,J]; exact ih _)
  ·intro h0 hw;refine np ?_;try simp only[h7,Cu,A6,A7,A2,C,E,F,G,H,J]
   exact A3d a1 a0 a2 r6 r9 h6 h7 h9 _ b0 L L
theorem A3e(a1 a0 a2 r6 r9)(h6:Er a1=N r6)(h7:(A3 r6.length ([a2]:P X0).length 48)=T)(h9:DC a0 (r6++([a2]:P X0))=N r9):∀(f:W) (b0 b3:V),Ae Z OO (Jn a1 a0 a2 r6 r9) f [b0,T,T,b3,L,L,L,L] (Cu a1 a0 a2 r9 (vc (.own 1728)) b0 T T b3 L L L L [(3,([aI a0.Forecast.Tide.Mean,aL (Y zH a0.Forecast.Tide.Parts),aL (Y X9.row a0.Forecast.Surges),aL (Y X7.row a0.Chart.Points),aL (Y X2.row a0.Chart.Segments),aL (Y X4.row a0.Fleet),aI a0.Regime.Gap,aB a0.Regime.NoMeet]++dm a0.Crew.row)),(5,(dm a2.row))] [(1728,4,Y X0.row r6)]):=by
 intro f
 induction f with
 | zero=>intro b0 b3 h; simp at h
 | succ f ih=>
  intro b0 b3;refine Aj ⟨?_,?_,?_,?_,?_,?_,?_,?_,⟨⟩⟩<;>try first | (intro h; cases h; done) | (intro _ hw; simp at hw; done) | (intro h0 hw; obtain rfl:=hz h0 rfl; refine np ?_; simp only[Cu,A6,A7,A2,C,E,F,G,H,J]; exact ih _ _)
  ·intro h0 hw;obtain rfl:=hq hw 3 rfl rfl;refine np ?_;try simp only[Cu,A6,A7,A2,C,E,F,G,H,J]
   refine At (es:=Y X0.row ([a2]:P X0)) X (by simp only[St.fresh,zE,zF,Ak]; simp[AV.cells,V1.cells,AC.uses]) ?_;try simp only[A2,C,E,F,G,H,J]
   exact aT a1 a0 a2 r6 r9 h6 h7 h9 _ b0
theorem A3h(a1 a0 a2 r6 r9)(h6:Er a1=N r6)(h7:(A3 r6.length ([a2]:P X0).length 48)=T)(h9:DC a0 (r6++([a2]:P X0))=N r9):∀(f:W) (b0 b1:V),Ae Z OO (Jn a1 a0 a2 r6 r9) f [b0,b1,L,T,T,L,L,L] (Cu a1 a0 a2 r9 (vc (.own 1728)) b0 b1 L T T L L L [(3,([aI a0.Forecast.Tide.Mean,aL (Y zH a0.Forecast.Tide.Parts),aL (Y X9.row a0.Forecast.Surges),aL (Y X7.row a0.Chart.Points),aL (Y X2.row a0.Chart.Segments),aL (Y X4.row a0.Fleet),aI a0.Regime.Gap,aB a0.Regime.NoMeet]++dm a0.Crew.row)),(5,(dm a2.row))] [(1856,4,Y X0.row ([a2]:P X0))]):=by
 intro f
 induction f with
 | zero=>intro b0 b1 h; simp at h
 | succ f ih=>
  intro b0 b1;refine Aj ⟨?_,?_,?_,?_,?_,?_,?_,?_,⟨⟩⟩<;>try first | (intro h; cases h; done) | (intro _ hw; simp at hw; done) | (intro h0 hw; obtain rfl:=hz h0 rfl; refine np ?_; simp only[Cu,A6,A7,A2,C,E,F,G,H,J]; exact ih _ _)
  ·intro h0 hw;obtain rfl:=hq hw 1 rfl rfl;refine⟨[],[(O,.keep [1,3,5,25,26,27,28,29,30,31,6] [3,5] [1728,1856])],X,X,?_⟩;try simp only[Cu,A6,A7,zJ,zI,A2,C,E,F,G,H,J]
   refine KT (Ac ZR h6) X (by simp only[St.fresh,zE,zF,Ak]; simp[AV.cells,V1.cells,AC.uses]) (uf X) ?_;try simp only[A2,C,E,F,G,H,J]
   exact aT a1 a0 a2 r6 r9 h6 h7 h9 _ b0
theorem A3i(a1 a0 a2 r6 r9)(h6:Er a1=N r6)(h7:(A3 r6.length ([a2]:P X0).length 48)=T)(h9:DC a0 (r6++([a2]:P X0))=N r9):∀(f:W) (b0 b1 b3:V),Ae Z OO (Jn a1 a0 a2 r6 r9) f [b0,b1,L,b3,L,L,L,L] (Cu a1 a0 a2 r9 (vc (.own 1728)) b0 b1 L b3 L L L L [(3,([aI a0.Forecast.Tide.Mean,aL (Y zH a0.Forecast.Tide.Parts),aL (Y X9.row a0.Forecast.Surges),aL (Y X7.row a0.Chart.Points),aL (Y X2.row a0.Chart.Segments),aL (Y X4.row a0.Fleet),aI a0.Regime.Gap,aB a0.Regime.NoMeet]++dm a0.Crew.row)),(5,(dm a2.row))] []):=by
 intro f
 induction f with
 | zero=>intro b0 b1 b3 h; simp at h
 | succ f ih=>
  intro b0 b1 b3;refine Aj ⟨?_,?_,?_,?_,?_,?_,?_,?_,⟨⟩⟩<;>try first | (intro _ hw; simp at hw; done) | (intro h0 hw; obtain rfl:=hz h0 rfl; refine np ?_; simp only[Cu,A6,A7,A2,C,E,F,G,H,J]; exact ih _ _ _)
  ·intro h0 hw;obtain rfl:=hq hw 1 rfl rfl;refine np ?_;try simp only[Cu,A6,A7,A2,C,E,F,G,H,J]
   refine KT (Ac ZR h6) X (by simp only[St.fresh,zE,zF,Ak]; simp[AV.cells,V1.cells,AC.uses]) (uf X) ?_;try simp only[A2,C,E,F,G,H,J]
   exact A3e a1 a0 a2 r6 r9 h6 h7 h9 _ b0 b3
  ·intro h0 hw;obtain rfl:=hq hw 3 rfl rfl;refine np ?_;try simp only[Cu,A6,A7,A2,C,E,F,G,H,J]
   refine At (es:=Y X0.row ([a2]:P X0)) X (by simp only[St.fresh,zE,zF,Ak]; simp[AV.cells,V1.cells,AC.uses]) ?_;try simp only[A2,C,E,F,G,H,J]
   exact A3h a1 a0 a2 r6 r9 h6 h7 h9 _ b0 b1
def cJ:=fun a1 (a0:X6) (a2:X0) (k_:U→Q V)=>∀{v1} {zr},k_ v1=N zr→Kh Z 110 Wc 6 [1,3,5,9,10,11] [3,5] [] ⟨[pL 1 X0.row a1,pB 3,pB 5,pL 9 X0.row a1,pI 10 (a1.length:U),pI 11 v1],[(3,([aI a0.Forecast.Tide.Mean,aM zH a0.Forecast.Tide.Parts,aM X9.row a0.Forecast.Surges,aM X7.row a0.Chart.Points,aM X2.row a0.Chart.Segments,aM X4.row a0.Fleet,aI a0.Regime.Gap,aB a0.Regime.NoMeet]++dm a0.Crew.row)),(5,(dm a2.row))],[]⟩ (A8 [6] [.sc (.v (.bool zr))])
theorem A3j{a1 a0 a2}{n:W}:cJ a1 a0 a2 (HQ a1 a0 a2 n):=by
 induction n with
 | zero=>intro _ r h; cases h
 | succ n ih=>
  intro v1 r h σ hσ S hS
  conv at hS=>rhs; reduce
  try simp only[zB,zA,Ah,UInt8.reduceOfNat] at hS
  subst hS;rw[HQ] at h;refine AM (Ay ?_);obtain⟨h2,h⟩|⟨h2,h⟩:=ic h
  ·obtain⟨x3,h3,h⟩:=ob h;try simp only[hσ,h2,h3,C,E,F,G,H,J]
   refine By ?_;obtain⟨r4,h4,h⟩:=ob h;try simp only[h2,h3,C,E,F,G,H,J]
   refine AJ (Ac xO h4) ?_;obtain⟨h5,h⟩|⟨h5,h⟩:=ic h
   ·try simp only[h2,h3,h5,C,E,F,G,H,J]
    cases h;exact t0
   ·try simp only[h2,h3,h5,C,E,F,G,H,J]
    refine ih h ?_ (by kernel_rfl);try simp only[h2,h3,h5,C,E,F,G,H,J,pL,aM,I]
  ·try simp only[hσ,h2,C,E,F,G,H,J]
   obtain⟨r6,h6,h⟩:=ob h;obtain⟨h7,h⟩:=AW h;obtain⟨r9,h9,h⟩:=ob h;refine EA (ks:= [1,3,5]) (bs:= [3,5]) (rs:= []) (τ:=(Jn a1 a0 a2 r6 r9)) X (A3i a1 a0 a2 r6 r9 h6 h7 h9 _ L L L) ?_;simp only[Jn,Cu,A6];try simp only[h2,h7,C,E,F,G,H,J]
   cases h;exact t0
instance xU:Ct 110 (∀{a0} {a1} {a2} {r},Md a0 a1 a2=N r→FC Z 110 [.ag (X6.row a0),.sc (.sl (Y X0.row a1)),.ag (X0.row a2)] [.sc (.v (.bool r))]):=by
 refine⟨fun{a0} {a1} {a2} {r} h=> ?_⟩;unfold Md at h;refine A5 A4 Wc [6] 32 ?_;have k0:= @A3j;exact gc
end Go.Vi
