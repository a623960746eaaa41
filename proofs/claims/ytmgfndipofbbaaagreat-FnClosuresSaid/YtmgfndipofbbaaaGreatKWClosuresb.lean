/-
Walks. No condition.
-/
import Derived.Test.YtmgfndipofbbaaaGreatKNf
import Derived.Test.YtmgfndipofbbaaaGreatChecked
import Derived.KernelRfl
import Derived.Test.YtmgfndipofbbaaaGreatKWClosuresa
namespace Go.Vi
open Go.Proofs
set_option linter.all false
set_option maxRecDepth 4000
set_option maxHeartbeats 2000000
open Nat renaming reduceBEq → C, reduceMul → E, reduceAdd → F, reduceDiv → G, le_of_ble_eq_true → uf
open Int renaming reduceBEq → H
attribute [local irreducible] go AWP
open List renaming map → Y, map_nil → I, all_cons → zE, all_nil → zF, all_eq_true → zG, cons_append → zH, nil_append → zI
open Tryz renaming prog → Z
open Int renaming toNat → zA
open Xe renaming row → zB
open Xb renaming row → zC
open Xa renaming row → zD
open Xf renaming row → zJ
open Bool renaming true → T, false → L
open Option renaming some → N, none → O
open _root_ renaming List → P, Option → Q, Int → U, Bool → V, Nat → W, rfl → X
/- 269:impl_Chart_routesFrom -/
def N3:P (P W × AItem):= [([],(O,.mv 18 (S 5))),([],(O,.mv 19 (S 5))),([1],(O,.nilc 20 (S 19))),([2],(O,.load 21 (S 20) L 1)),([],(O,.mv 22 (S 3))),([4],(O,.call 23 121 [(S 22)])),([5],(O,.bslice 24 1 [.sl []] 1 [(0,(S 23))])),([3,6,5],(O,.app 25 1 24 (S 21) (S 24))),([0,0,1,2,3,4,5,6,7],(O,.nilc 26 (S 18))),([8,7,7,0,1,2,3,4,5,6,7],(O,.store (S 26) (S 25) 1))]
def K1:P (P W × AItem):= [([],(O,.load 48 (S 6) T 2)),([],(O,.mv 49 (S 14))),([],(O,.mv 50 (S 2))),([],(O,.mv 51 (S 3))),([3],(O,.call 52 121 [(S 51)])),([],(O,.mv 53 (S 12))),([5],(O,.bslice 54 1 [.int .i64 0] 1 [(0,(S 53))])),([4,6,4],(O,.app 55 1 8 (S 52) (S 54))),([],(O,.load 56 (S 10) T 8)),([],(O,.mv 57 (S 5))),([0,1,2,7,8,9,7],(O,.call 58 269 [(S 48),(S 49),(S 50),(S 55),(S 56),(S 57)]))]
def C5w:X2:= .seq (.reg [(O,.keep [1,2,3,5,6,10,12,14,30,31,32,47] [99999999999,6,10] [90000])]) (.cond (S 47) (.any K1) .skip)
def C41:X2:=(.reg [(O,.bin 59 .add (S 32) (K 1)),mv 32 59])
def B7h:X2:= .seq (.reg [(O,.keep [1,2,3,5,6,10,30,31,32] [99999999999,6,10] [90000])]) (.seq (.reg [bn 33 .lss 32 31]) (.seq (.cond (S 33) .skip (.exit 0)) (.seq (.block 1 (.seq (.reg [mv 34 32,ia 35 30 32 5,lw 36 35 5,(O,.alloc 13 [aI 0,aI 0,aI 0,aI 0,aB L]),mv 12 34,so 13 36 5]) (.seq (.reg [lw 37 13 5,mv 38 1,ca 39 327 [S 37,S 38],mv 14 39]) (.seq (.reg [mv 40 14,(O,.bin 41 .geq (S 40) (K 0)),mv 42 41,(N (42,T),.mv 43 (S 14)),(N (42,T),.aaddr 44 (S 10) (S 43) 8 1),(N (42,T),.load 45 (S 44) L 1),(N (42,T),.un 46 .not (S 45)),pa 47 42 46]) C5w)))) C41)))
def cc207:X2:=(.seq (.reg [bo 6 0,bo 10 4]) (.seq (.seq (.reg [mv 15 1,mv 16 2,bn 17 .eql 15 16]) (.cond (S 17) (.seq (.any N3) .ret) .skip)) (.seq (.reg [mv 27 1,(O,.aaddr 28 (S 10) (S 27) 8 1),(O,.store (S 28) (KB T) 1)]) (.seq (.reg [fa 29 6 1,ld 30 29,ln 31 30,(O,.mv 32 (K 0))]) (.block 0 (.loop B7h))))))
abbrev C9(a3:P U)(wo3_ wo5_:AV)(c0_ c1_:V)(c2_ c3_:V)(c4_ c5_:V)(c6_ c7_ c8_:V)(bx_:P (W × P AC))(rs_:Rows):St:=⟨[(3,vc (aL (Y rI a3))),(5,vc (.pb 99999999999 0)),(18,bif c0_ then vc (.pb 99999999999 0) else .undef),(19,bif c1_ then vc (.pb 99999999999 0) else .undef),(20,bif c2_ then vc (.pb 99999999999 0) else .undef),(21,bif c3_ then wo3_ else .undef),(22,bif c4_ then vc (aL (Y rI a3)) else .undef),(23,bif c5_ then wo5_ else .undef),(24,bif c6_ then vc (.own 1536) else .undef),(25,bif c7_ then vc (.own 90000) else .undef),(26,bif c8_ then vc (.pb 99999999999 0) else .undef)],bx_,rs_⟩
abbrev J7(a3:P U)(a5:P (P U))(r2:(P U)):St:=(C9 a3 (vc (.undef)) (vc (aL (Y rI r2))) T T T T T T T T T [(99999999999,[.own 90000])] [(90000,1,Y (rL rI) (a5++([r2]:P (P U)))),(1536,1,Y (rL rI) ([r2]:P (P U)))])
theorem F5g(rec_:X5→U→U→(P U)→X7→(P (P U))→Q (P (P U)))(h_rec:∀(a0:X5) (a1 a2:U) (a3:P U) (a4:X7) (a5:P (P U)) zr,rec_ a0 a1 a2 a3 a4 a5=N zr→FCz Z 269 [.d (.ag (X5.row a0)),.d (.sc (.int .i64 a1)),.d (.sc (.int .i64 a2)),.d (.sc (.sl (Y rI a3))),.d (.ag (X7.row a4)),.p] [.r 0] [(1,Y (rL rI) a5)] [.r 0] [(1,Y (rL rI) zr)] [])(a3:P U)(a5:P (P U))(r2:(P U))(h2:D6 a3=N r2)(h3:(D1 a5.length ([r2]:P (P U)).length 24)=T):∀(f:W),E3 Z N3 (J7 a3 a5 r2) f [T,T,T,T,T,T,T,T,T,T] (C9 a3 (vc (.undef)) (vc (aL (Y rI r2))) T T T T T T T T T [(99999999999,[.own 90000])] [(90000,1,Y (rL rI) (a5++([r2]:P (P U)))),(1536,1,Y (rL rI) ([r2]:P (P U)))]):=by
 intro f
 induction f with
 | zero=>intro h; rfl
 | succ f ih=>
  refine B3 ⟨?_,?_,?_,?_,?_,?_,?_,?_,?_,?_,⟨⟩⟩<;>try first | (intro h; cases h; done)
theorem F44(rec_:X5→U→U→(P U)→X7→(P (P U))→Q (P (P U)))(h_rec:∀(a0:X5) (a1 a2:U) (a3:P U) (a4:X7) (a5:P (P U)) zr,rec_ a0 a1 a2 a3 a4 a5=N zr→FCz Z 269 [.d (.ag (X5.row a0)),.d (.sc (.int .i64 a1)),.d (.sc (.int .i64 a2)),.d (.sc (.sl (Y rI a3))),.d (.ag (X7.row a4)),.p] [.r 0] [(1,Y (rL rI) a5)] [.r 0] [(1,Y (rL rI) zr)] [])(a3:P U)(a5:P (P U))(r2:(P U))(h2:D6 a3=N r2)(h3:(D1 a5.length ([r2]:P (P U)).length 24)=T):∀(f:W) (b0 b1:V) (b2 b8:V),E3 Z N3 (J7 a3 a5 r2) f [b0,b1,b2,T,T,T,T,T,b8,L] (C9 a3 (vc (.undef)) (vc (aL (Y rI r2))) b0 b1 b2 T T T T T b8 [(99999999999,[.undef])] [(90000,1,Y (rL rI) (a5++([r2]:P (P U)))),(1536,1,Y (rL rI) ([r2]:P (P U)))]):=by
 intro f
 induction f with
 | zero=>intro b0 b1 b2 b8 h; simp at h
 | succ f ih=>
  intro b0 b1 b2 b8
  refine B3 ⟨?_,?_,?_,?_,?_,?_,?_,?_,?_,?_,⟨⟩⟩<;>try first | (intro h; cases h; done) | (intro h0 hw; obtain rfl:=hz h0 rfl; (try obtain rfl:=hq hw 0 rfl rfl); (try obtain rfl:=hq hw 1 rfl rfl); (try obtain rfl:=hq hw 2 rfl rfl); refine np ?_; simp only[C9,cdt,cdf,A1,C,E,F,G,H,J]; exact ih _ _ _ _)
  ·intro h0 hw
   obtain rfl:=hq hw 0 rfl rfl
   obtain rfl:=hq hw 1 rfl rfl
   obtain rfl:=hq hw 2 rfl rfl
   obtain rfl:=hq hw 8 rfl rfl
   refine np ?_
   try simp only[C9,cdt,cdf,A1,C,E,F,G,H,J]
   exact F5g rec_ h_rec a3 a5 r2 h2 h3 _
theorem F2f(rec_:X5→U→U→(P U)→X7→(P (P U))→Q (P (P U)))(h_rec:∀(a0:X5) (a1 a2:U) (a3:P U) (a4:X7) (a5:P (P U)) zr,rec_ a0 a1 a2 a3 a4 a5=N zr→FCz Z 269 [.d (.ag (X5.row a0)),.d (.sc (.int .i64 a1)),.d (.sc (.int .i64 a2)),.d (.sc (.sl (Y rI a3))),.d (.ag (X7.row a4)),.p] [.r 0] [(1,Y (rL rI) a5)] [.r 0] [(1,Y (rL rI) zr)] [])(a3:P U)(a5:P (P U))(r2:(P U))(h2:D6 a3=N r2)(h3:(D1 a5.length ([r2]:P (P U)).length 24)=T):∀(f:W) (b0 b1:V) (b2 b3:V),E3 Z N3 (J7 a3 a5 r2) f [b0,b1,b2,b3,T,T,T,L,L,L] (C9 a3 (vc (.own 90000)) (vc (aL (Y rI r2))) b0 b1 b2 b3 T T T L L [(99999999999,[.own 90000])] [(90000,1,Y (rL rI) a5),(1536,1,Y (rL rI) ([r2]:P (P U)))]):=by
 intro f
 induction f with
 | zero=>intro b0 b1 b2 b3 h; simp at h
 | succ f ih=>
  intro b0 b1 b2 b3
  refine B3 ⟨?_,?_,?_,?_,?_,?_,?_,?_,?_,?_,⟨⟩⟩<;>try first | (intro h; cases h; done) | (intro _ hw; simp at hw; done) | (intro h0 hw; obtain rfl:=hz h0 rfl; (try obtain rfl:=hq hw 1 rfl rfl); (try obtain rfl:=hq hw 2 rfl rfl); refine np ?_; simp only[C9,cdt,cdf,A1,C,E,F,G,H,J]; exact ih _ _ _ _)
  ·intro h0 hw
   obtain rfl:=hq hw 3 rfl rfl
   refine np ?_
   try simp only[h3,C9,cdt,cdf,A1,C,E,F,G,H,J]
   exact F44 rec_ h_rec a3 a5 r2 h2 h3 _ b0 b1 b2 L
theorem F2z(rec_:X5→U→U→(P U)→X7→(P (P U))→Q (P (P U)))(h_rec:∀(a0:X5) (a1 a2:U) (a3:P U) (a4:X7) (a5:P (P U)) zr,rec_ a0 a1 a2 a3 a4 a5=N zr→FCz Z 269 [.d (.ag (X5.row a0)),.d (.sc (.int .i64 a1)),.d (.sc (.int .i64 a2)),.d (.sc (.sl (Y rI a3))),.d (.ag (X7.row a4)),.p] [.r 0] [(1,Y (rL rI) a5)] [.r 0] [(1,Y (rL rI) zr)] [])(a3:P U)(a5:P (P U))(r2:(P U))(h2:D6 a3=N r2)(h3:(D1 a5.length ([r2]:P (P U)).length 24)=T):∀(f:W) (b0 b1:V) (b2 b3:V),E3 Z N3 (J7 a3 a5 r2) f [b0,b1,b2,b3,T,T,L,L,L,L] (C9 a3 (vc (.own 90000)) (vc (.own 1472)) b0 b1 b2 b3 T T L L L [(99999999999,[.own 90000])] [(90000,1,Y (rL rI) a5),(1472,1,Y rI r2)]):=by
 intro f
 induction f with
 | zero=>intro b0 b1 b2 b3 h; simp at h
 | succ f ih=>
  intro b0 b1 b2 b3
  refine B3 ⟨?_,?_,?_,?_,?_,?_,?_,?_,?_,?_,⟨⟩⟩<;>try first | (intro h; cases h; done) | (intro _ hw; simp at hw; done) | (intro h0 hw; obtain rfl:=hz h0 rfl; (try obtain rfl:=hq hw 1 rfl rfl); (try obtain rfl:=hq hw 2 rfl rfl); refine np ?_; simp only[C9,cdt,cdf,A1,C,E,F,G,H,J]; exact ih _ _ _ _)
  ·intro h0 hw
   refine⟨[(O,.frz 1472)],[],X,X,?_⟩
   try simp only[C9,cdt,cdf,zI,zH,A1,C,E,F,G,H,J]
   refine O5 X ?_
   try simp only[A1,C,E,F,G,H,J]
   refine C7 (es:=Y (rL rI) ([r2]:P (P U))) X (by simp only[St.fresh,zE,zF,P8]; simp[AV.cells,V1.cells,AC.uses]) ?_
   try simp only[A1,C,E,F,G,H,J]
   exact F2f rec_ h_rec a3 a5 r2 h2 h3 _ b0 b1 b2 b3
theorem F6y(rec_:X5→U→U→(P U)→X7→(P (P U))→Q (P (P U)))(h_rec:∀(a0:X5) (a1 a2:U) (a3:P U) (a4:X7) (a5:P (P U)) zr,rec_ a0 a1 a2 a3 a4 a5=N zr→FCz Z 269 [.d (.ag (X5.row a0)),.d (.sc (.int .i64 a1)),.d (.sc (.int .i64 a2)),.d (.sc (.sl (Y rI a3))),.d (.ag (X7.row a4)),.p] [.r 0] [(1,Y (rL rI) a5)] [.r 0] [(1,Y (rL rI) zr)] [])(a3:P U)(a5:P (P U))(r2:(P U))(h2:D6 a3=N r2)(h3:(D1 a5.length ([r2]:P (P U)).length 24)=T):∀(f:W) (b0 b1:V) (b2 b3 b4:V),E3 Z N3 (J7 a3 a5 r2) f [b0,b1,b2,b3,b4,L,L,L,L,L] (C9 a3 (vc (.own 90000)) (vc (.own 1472)) b0 b1 b2 b3 b4 L L L L [(99999999999,[.own 90000])] [(90000,1,Y (rL rI) a5)]):=by
 intro f
 induction f with
 | zero=>intro b0 b1 b2 b3 b4 h; simp at h
 | succ f ih=>
  intro b0 b1 b2 b3 b4
  refine B3 ⟨?_,?_,?_,?_,?_,?_,?_,?_,?_,?_,⟨⟩⟩<;>try first | (intro _ hw; simp at hw; done) | (intro h0 hw; obtain rfl:=hz h0 rfl; (try obtain rfl:=hq hw 1 rfl rfl); (try obtain rfl:=hq hw 2 rfl rfl); refine np ?_; simp only[C9,cdt,cdf,A1,C,E,F,G,H,J]; exact ih _ _ _ _ _)
  ·intro h0 hw
   obtain rfl:=hq hw 4 rfl rfl
   refine np ?_
   try simp only[C9,cdt,cdf,A1,C,E,F,G,H,J]
   refine A2 (A57 _ _ h2) X (by simp only[St.fresh,zE,zF,P8]; simp[AV.cells,V1.cells,AC.uses]) (uf X) ?_
   try simp only[A1,C,E,F,G,H,J]
   exact F2z rec_ h_rec a3 a5 r2 h2 h3 _ b0 b1 b2 b3
abbrev B4(a1 a2:U)(a3:P U)(v6 r11:U)(a0:X5)(y7:X7)(wo4_ wo7_:AV)(c0_ c1_:V)(c2_ c3_:V)(c4_ c5_:V)(c6_ c7_:V)(c8_ c9_ c10_:V)(bx_:P (W × P AC))(rs_:Rows):St:=⟨[(1,vc (aI a1)),(2,vc (aI a2)),(3,vc (aL (Y rI a3))),(5,vc (.pb 99999999999 0)),(6,vc (.pb 6 0)),(10,vc (.pb 10 0)),(12,vc (aI v6)),(14,vc (aI r11)),(30,vc (aL (Y X3.row a0.Segments))),(31,vc (aI (a0.Segments.length:U))),(32,vc (aI v6)),(48,bif c0_ then va (dm a0.row) else .undef),(49,bif c1_ then vc (aI r11) else .undef),(50,bif c2_ then vc (aI a2) else .undef),(51,bif c3_ then vc (aL (Y rI a3)) else .undef),(52,bif c4_ then wo4_ else .undef),(53,bif c5_ then vc (aI v6) else .undef),(54,bif c6_ then vc (.own 3456) else .undef),(55,bif c7_ then wo7_ else .undef),(56,bif c8_ then va [aB y7.i0,aB y7.i1,aB y7.i2,aB y7.i3,aB y7.i4,aB y7.i5,aB y7.i6,aB y7.i7] else .undef),(57,bif c9_ then vc (.pb 99999999999 0) else .undef),(58,bif c10_ then .tup [] else .undef)],bx_,rs_⟩
abbrev H7(a1 a2:U)(a3:P U)(v6 r11:U)(a0:X5)(y7:X7)(r18:(P U))(r20:(P (P U))):St:=(B4 a1 a2 a3 v6 r11 a0 y7 (vc (.undef)) (vc (aL (Y rI (r18++([v6]:P U))))) T T T T T T T T T T T [(99999999999,[.own 90000]),(6,(dm a0.row)),(10,[aB y7.i0,aB y7.i1,aB y7.i2,aB y7.i3,aB y7.i4,aB y7.i5,aB y7.i6,aB y7.i7])] [(90000,1,Y (rL rI) r20),(3456,1,Y rI ([v6]:P U))])
theorem F4w(rec_:X5→U→U→(P U)→X7→(P (P U))→Q (P (P U)))(h_rec:∀(a0:X5) (a1 a2:U) (a3:P U) (a4:X7) (a5:P (P U)) zr,rec_ a0 a1 a2 a3 a4 a5=N zr→FCz Z 269 [.d (.ag (X5.row a0)),.d (.sc (.int .i64 a1)),.d (.sc (.int .i64 a2)),.d (.sc (.sl (Y rI a3))),.d (.ag (X7.row a4)),.p] [.r 0] [(1,Y (rL rI) a5)] [.r 0] [(1,Y (rL rI) zr)] [])(a1 a2:U)(a3:P U)(v6 r11:U)(a0:X5)(y7:X7)(v8:P (P U))(r18:(P U))(r20:(P (P U)))(h18:D6 a3=N r18)(h19:(D1 r18.length ([v6]:P U).length 8)=T)(h20:rec_ a0 r11 a2 (r18++([v6]:P U)) y7 v8=N r20):∀(f:W),E3 Z K1 (H7 a1 a2 a3 v6 r11 a0 y7 r18 r20) f [T,T,T,T,T,T,T,T,T,T,T] (B4 a1 a2 a3 v6 r11 a0 y7 (vc (.undef)) (vc (aL (Y rI (r18++([v6]:P U))))) T T T T T T T T T T T [(99999999999,[.own 90000]),(6,(dm a0.row)),(10,[aB y7.i0,aB y7.i1,aB y7.i2,aB y7.i3,aB y7.i4,aB y7.i5,aB y7.i6,aB y7.i7])] [(90000,1,Y (rL rI) r20),(3456,1,Y rI ([v6]:P U))]):=by
 intro f
 induction f with
 | zero=>intro h; rfl
 | succ f ih=>
  refine B3 ⟨?_,?_,?_,?_,?_,?_,?_,?_,?_,?_,?_,⟨⟩⟩<;>try first | (intro h; cases h; done)
theorem F1s(rec_:X5→U→U→(P U)→X7→(P (P U))→Q (P (P U)))(h_rec:∀(a0:X5) (a1 a2:U) (a3:P U) (a4:X7) (a5:P (P U)) zr,rec_ a0 a1 a2 a3 a4 a5=N zr→FCz Z 269 [.d (.ag (X5.row a0)),.d (.sc (.int .i64 a1)),.d (.sc (.int .i64 a2)),.d (.sc (.sl (Y rI a3))),.d (.ag (X7.row a4)),.p] [.r 0] [(1,Y (rL rI) a5)] [.r 0] [(1,Y (rL rI) zr)] [])(a1 a2:U)(a3:P U)(v6 r11:U)(a0:X5)(y7:X7)(v8:P (P U))(r18:(P U))(r20:(P (P U)))(h18:D6 a3=N r18)(h19:(D1 r18.length ([v6]:P U).length 8)=T)(h20:rec_ a0 r11 a2 (r18++([v6]:P U)) y7 v8=N r20):∀(f:W) (b0 b1:V) (b2 b8 b9:V),E3 Z K1 (H7 a1 a2 a3 v6 r11 a0 y7 r18 r20) f [b0,b1,b2,T,T,T,T,T,b8,b9,L] (B4 a1 a2 a3 v6 r11 a0 y7 (vc (.undef)) (vc (.own 3328)) b0 b1 b2 T T T T T b8 b9 L [(99999999999,[.own 90000]),(6,(dm a0.row)),(10,[aB y7.i0,aB y7.i1,aB y7.i2,aB y7.i3,aB y7.i4,aB y7.i5,aB y7.i6,aB y7.i7])] [(90000,1,Y (rL rI) v8),(3328,1,Y rI (r18++([v6]:P U))),(3456,1,Y rI ([v6]:P U))]):=by
 intro f
 induction f with
 | zero=>intro b0 b1 b2 b8 b9 h; simp at h
 | succ f ih=>
  intro b0 b1 b2 b8 b9
  refine B3 ⟨?_,?_,?_,?_,?_,?_,?_,?_,?_,?_,?_,⟨⟩⟩<;>try first | (intro h; cases h; done) | (intro h0 hw; obtain rfl:=hz h0 rfl; refine np ?_; simp only[B4,cdt,cdf,A1,C,E,F,G,H,J]; exact ih _ _ _ _ _)
  ·intro h0 hw
   obtain rfl:=hq hw 0 rfl rfl
   obtain rfl:=hq hw 1 rfl rfl
   obtain rfl:=hq hw 2 rfl rfl
   obtain rfl:=hq hw 8 rfl rfl
   obtain rfl:=hq hw 9 rfl rfl
   refine⟨[(O,.frz 3328)],[],X,X,?_⟩
   try simp only[B4,cdt,cdf,zI,zH,A1,C,E,F,G,H,J]
   refine O5 X ?_
   try simp only[A1,C,E,F,G,H,J]
   refine A89 (h_rec _ _ _ _ _ _ _ h20) 99999999999 [90000] rfl X X X (by decide) X X X ?_
   try simp only[A1,C,E,F,G,H,J]
   exact F4w rec_ h_rec a1 a2 a3 v6 r11 a0 y7 v8 r18 r20 h18 h19 h20 _
theorem E3a(rec_:X5→U→U→(P U)→X7→(P (P U))→Q (P (P U)))(h_rec:∀(a0:X5) (a1 a2:U) (a3:P U) (a4:X7) (a5:P (P U)) zr,rec_ a0 a1 a2 a3 a4 a5=N zr→FCz Z 269 [.d (.ag (X5.row a0)),.d (.sc (.int .i64 a1)),.d (.sc (.int .i64 a2)),.d (.sc (.sl (Y rI a3))),.d (.ag (X7.row a4)),.p] [.r 0] [(1,Y (rL rI) a5)] [.r 0] [(1,Y (rL rI) zr)] [])(a1 a2:U)(a3:P U)(v6 r11:U)(a0:X5)(y7:X7)(v8:P (P U))(r18:(P U))(r20:(P (P U)))(h18:D6 a3=N r18)(h19:(D1 r18.length ([v6]:P U).length 8)=T)(h20:rec_ a0 r11 a2 (r18++([v6]:P U)) y7 v8=N r20):∀(f:W) (b0 b1:V) (b2 b8 b9:V),E3 Z K1 (H7 a1 a2 a3 v6 r11 a0 y7 r18 r20) f [b0,b1,b2,T,T,T,T,L,b8,b9,L] (B4 a1 a2 a3 v6 r11 a0 y7 (vc (.own 3328)) (vc (.own 3328)) b0 b1 b2 T T T T L b8 b9 L [(99999999999,[.own 90000]),(6,(dm a0.row)),(10,[aB y7.i0,aB y7.i1,aB y7.i2,aB y7.i3,aB y7.i4,aB y7.i5,aB y7.i6,aB y7.i7])] [(90000,1,Y (rL rI) v8),(3328,1,Y rI r18),(3456,1,Y rI ([v6]:P U))]):=by
 intro f
 induction f with
 | zero=>intro b0 b1 b2 b8 b9 h; simp at h
 | succ f ih=>
  intro b0 b1 b2 b8 b9
  refine B3 ⟨?_,?_,?_,?_,?_,?_,?_,?_,?_,?_,?_,⟨⟩⟩<;>try first | (intro h; cases h; done) | (intro _ hw; simp at hw; done) | (intro h0 hw; obtain rfl:=hz h0 rfl; refine np ?_; simp only[B4,cdt,cdf,A1,C,E,F,G,H,J]; exact ih _ _ _ _ _)
  ·intro h0 hw
   refine np ?_
   try simp only[h19,B4,cdt,cdf,A1,C,E,F,G,H,J]
   exact F1s rec_ h_rec a1 a2 a3 v6 r11 a0 y7 v8 r18 r20 h18 h19 h20 _ b0 b1 b2 b8 b9
theorem F2p(rec_:X5→U→U→(P U)→X7→(P (P U))→Q (P (P U)))(h_rec:∀(a0:X5) (a1 a2:U) (a3:P U) (a4:X7) (a5:P (P U)) zr,rec_ a0 a1 a2 a3 a4 a5=N zr→FCz Z 269 [.d (.ag (X5.row a0)),.d (.sc (.int .i64 a1)),.d (.sc (.int .i64 a2)),.d (.sc (.sl (Y rI a3))),.d (.ag (X7.row a4)),.p] [.r 0] [(1,Y (rL rI) a5)] [.r 0] [(1,Y (rL rI) zr)] [])(a1 a2:U)(a3:P U)(v6 r11:U)(a0:X5)(y7:X7)(v8:P (P U))(r18:(P U))(r20:(P (P U)))(h18:D6 a3=N r18)(h19:(D1 r18.length ([v6]:P U).length 8)=T)(h20:rec_ a0 r11 a2 (r18++([v6]:P U)) y7 v8=N r20):∀(f:W) (b0 b1:V) (b2 b5:V) (b8 b9:V),E3 Z K1 (H7 a1 a2 a3 v6 r11 a0 y7 r18 r20) f [b0,b1,b2,T,T,b5,L,L,b8,b9,L] (B4 a1 a2 a3 v6 r11 a0 y7 (vc (.own 3328)) (vc (.own 3328)) b0 b1 b2 T T b5 L L b8 b9 L [(99999999999,[.own 90000]),(6,(dm a0.row)),(10,[aB y7.i0,aB y7.i1,aB y7.i2,aB y7.i3,aB y7.i4,aB y7.i5,aB y7.i6,aB y7.i7])] [(90000,1,Y (rL rI) v8),(3328,1,Y rI r18)]):=by
 intro f
 induction f with
 | zero=>intro b0 b1 b2 b5 b8 b9 h; simp at h
 | succ f ih=>
  intro b0 b1 b2 b5 b8 b9
  refine B3 ⟨?_,?_,?_,?_,?_,?_,?_,?_,?_,?_,?_,⟨⟩⟩<;>try first | (intro h; cases h; done) | (intro _ hw; simp at hw; done) | (intro h0 hw; obtain rfl:=hz h0 rfl; refine np ?_; simp only[B4,cdt,cdf,A1,C,E,F,G,H,J]; exact ih _ _ _ _ _ _)
  ·intro h0 hw
   obtain rfl:=hq hw 5 rfl rfl
   refine np ?_
   try simp only[B4,cdt,cdf,A1,C,E,F,G,H,J]
   refine C7 (es:=Y rI ([v6]:P U)) X (by simp only[St.fresh,zE,zF,P8]; simp[AV.cells,V1.cells,AC.uses]) ?_
   try simp only[A1,C,E,F,G,H,J]
   exact E3a rec_ h_rec a1 a2 a3 v6 r11 a0 y7 v8 r18 r20 h18 h19 h20 _ b0 b1 b2 b8 b9
theorem F58(rec_:X5→U→U→(P U)→X7→(P (P U))→Q (P (P U)))(h_rec:∀(a0:X5) (a1 a2:U) (a3:P U) (a4:X7) (a5:P (P U)) zr,rec_ a0 a1 a2 a3 a4 a5=N zr→FCz Z 269 [.d (.ag (X5.row a0)),.d (.sc (.int .i64 a1)),.d (.sc (.int .i64 a2)),.d (.sc (.sl (Y rI a3))),.d (.ag (X7.row a4)),.p] [.r 0] [(1,Y (rL rI) a5)] [.r 0] [(1,Y (rL rI) zr)] [])(a1 a2:U)(a3:P U)(v6 r11:U)(a0:X5)(y7:X7)(v8:P (P U))(r18:(P U))(r20:(P (P U)))(h18:D6 a3=N r18)(h19:(D1 r18.length ([v6]:P U).length 8)=T)(h20:rec_ a0 r11 a2 (r18++([v6]:P U)) y7 v8=N r20):∀(f:W) (b0 b1:V) (b2 b3:V) (b8 b9:V),E3 Z K1 (H7 a1 a2 a3 v6 r11 a0 y7 r18 r20) f [b0,b1,b2,b3,L,T,T,L,b8,b9,L] (B4 a1 a2 a3 v6 r11 a0 y7 (vc (.own 3328)) (vc (.own 3328)) b0 b1 b2 b3 L T T L b8 b9 L [(99999999999,[.own 90000]),(6,(dm a0.row)),(10,[aB y7.i0,aB y7.i1,aB y7.i2,aB y7.i3,aB y7.i4,aB y7.i5,aB y7.i6,aB y7.i7])] [(90000,1,Y (rL rI) v8),(3456,1,Y rI ([v6]:P U))]):=by
 intro f
 induction f with
 | zero=>intro b0 b1 b2 b3 b8 b9 h; simp at h
 | succ f ih=>
  intro b0 b1 b2 b3 b8 b9
  refine B3 ⟨?_,?_,?_,?_,?_,?_,?_,?_,?_,?_,?_,⟨⟩⟩<;>try first | (intro h; cases h; done) | (intro _ hw; simp at hw; done) | (intro h0 hw; obtain rfl:=hz h0 rfl; refine np ?_; simp only[B4,cdt,cdf,A1,C,E,F,G,H,J]; exact ih _ _ _ _ _ _)
  ·intro h0 hw
   obtain rfl:=hq hw 3 rfl rfl
   refine⟨[],[(O,.keep [1,2,3,5,6,10,12,14,30,31,32,48,49,50,51,52,53,54,55,56,57,58] [99999999999,6,10] [90000,3328,3456])],X,X,?_⟩
   try simp only[B4,cdt,cdf,zI,zH,A1,C,E,F,G,H,J]
   refine A2 (A57 _ _ h18) X (by simp only[St.fresh,zE,zF,P8]; simp[AV.cells,V1.cells,AC.uses]) (uf X) ?_
   try simp only[A1,C,E,F,G,H,J]
   exact E3a rec_ h_rec a1 a2 a3 v6 r11 a0 y7 v8 r18 r20 h18 h19 h20 _ b0 b1 b2 b8 b9
theorem F87(rec_:X5→U→U→(P U)→X7→(P (P U))→Q (P (P U)))(h_rec:∀(a0:X5) (a1 a2:U) (a3:P U) (a4:X7) (a5:P (P U)) zr,rec_ a0 a1 a2 a3 a4 a5=N zr→FCz Z 269 [.d (.ag (X5.row a0)),.d (.sc (.int .i64 a1)),.d (.sc (.int .i64 a2)),.d (.sc (.sl (Y rI a3))),.d (.ag (X7.row a4)),.p] [.r 0] [(1,Y (rL rI) a5)] [.r 0] [(1,Y (rL rI) zr)] [])(a1 a2:U)(a3:P U)(v6 r11:U)(a0:X5)(y7:X7)(v8:P (P U))(r18:(P U))(r20:(P (P U)))(h18:D6 a3=N r18)(h19:(D1 r18.length ([v6]:P U).length 8)=T)(h20:rec_ a0 r11 a2 (r18++([v6]:P U)) y7 v8=N r20):∀(f:W) (b0 b1:V) (b2 b3:V) (b5 b8 b9:V),E3 Z K1 (H7 a1 a2 a3 v6 r11 a0 y7 r18 r20) f [b0,b1,b2,b3,L,b5,L,L,b8,b9,L] (B4 a1 a2 a3 v6 r11 a0 y7 (vc (.own 3328)) (vc (.own 3328)) b0 b1 b2 b3 L b5 L L b8 b9 L [(99999999999,[.own 90000]),(6,(dm a0.row)),(10,[aB y7.i0,aB y7.i1,aB y7.i2,aB y7.i3,aB y7.i4,aB y7.i5,aB y7.i6,aB y7.i7])] [(90000,1,Y (rL rI) v8)]):=by
 intro f
 induction f with
 | zero=>intro b0 b1 b2 b3 b5 b8 b9 h; simp at h
 | succ f ih=>
  intro b0 b1 b2 b3 b5 b8 b9
  refine B3 ⟨?_,?_,?_,?_,?_,?_,?_,?_,?_,?_,?_,⟨⟩⟩<;>try first | (intro _ hw; simp at hw; done) | (intro h0 hw; obtain rfl:=hz h0 rfl; refine np ?_; simp only[B4,cdt,cdf,A1,C,E,F,G,H,J]; exact ih _ _ _ _ _ _ _)
  ·intro h0 hw
   obtain rfl:=hq hw 3 rfl rfl
   refine np ?_
   try simp only[B4,cdt,cdf,A1,C,E,F,G,H,J]
   refine A2 (A57 _ _ h18) X (by simp only[St.fresh,zE,zF,P8]; simp[AV.cells,V1.cells,AC.uses]) (uf X) ?_
   try simp only[A1,C,E,F,G,H,J]
   exact F2p rec_ h_rec a1 a2 a3 v6 r11 a0 y7 v8 r18 r20 h18 h19 h20 _ b0 b1 b2 b5 b8 b9
  ·intro h0 hw
   obtain rfl:=hq hw 5 rfl rfl
   refine np ?_
   try simp only[B4,cdt,cdf,A1,C,E,F,G,H,J]
   refine C7 (es:=Y rI ([v6]:P U)) X (by simp only[St.fresh,zE,zF,P8]; simp[AV.cells,V1.cells,AC.uses]) ?_
   try simp only[A1,C,E,F,G,H,J]
   exact F58 rec_ h_rec a1 a2 a3 v6 r11 a0 y7 v8 r18 r20 h18 h19 h20 _ b0 b1 b2 b3 b8 b9
theorem E23(rec_:X5→U→U→(P U)→X7→(P (P U))→Q (P (P U)))(h_rec:∀(a0:X5) (a1 a2:U) (a3:P U) (a4:X7) (a5:P (P U)) zr,rec_ a0 a1 a2 a3 a4 a5=N zr→FCz Z 269 [.d (.ag (X5.row a0)),.d (.sc (.int .i64 a1)),.d (.sc (.int .i64 a2)),.d (.sc (.sl (Y rI a3))),.d (.ag (X7.row a4)),.p] [.r 0] [(1,Y (rL rI) a5)] [.r 0] [(1,Y (rL rI) zr)] [])(a1 a2:U)(a3:P U)(v6 r11:U)(a0:X5)(y7:X7)(v8:P (P U))(T7:U→(P (P U))→Q (P (P U)))(A6h:∀(v6:U) (v8:P (P U)) zr,T7 v6 v8=N zr→∀σ:St,σ.kept [1,2,3,5,6,10,30,31,32] [99999999999,6,10] [90000]=⟨[(1,vc (aI a1)),(2,vc (aI a2)),(3,vc (aL (Y rI a3))),(5,vc (.pb 99999999999 0)),(6,vc (.pb 6 0)),(10,vc (.pb 10 0)),(30,vc (aL (Y X3.row a0.Segments))),(31,vc (aI (a0.Segments.length:U))),(32,vc (aI v6))],[(99999999999,[.own 90000]),(6,(dm a0.row)),(10,[aB y7.i0,aB y7.i1,aB y7.i2,aB y7.i3,aB y7.i4,aB y7.i5,aB y7.i6,aB y7.i7])],[(90000,1,Y (rL rI) v8)]⟩→go Z (.code (.loop B7h):: [.blk 0]) (B0a [] [] [.r 0] [(1,Y (rL rI) zr)]) .normal (N σ))(v16:V)(r:(P (P U)))(h:L1 rec_ a1 a2 a3 v6 r11 a0 y7 v8 T7 v16=N r)(σ:St)(hσ:σ.kept [1,2,3,5,6,10,12,14,30,31,32,47] [99999999999,6,10] [90000]=⟨[(1,vc (aI a1)),(2,vc (aI a2)),(3,vc (aL (Y rI a3))),(5,vc (.pb 99999999999 0)),(6,vc (.pb 6 0)),(10,vc (.pb 10 0)),(12,vc (aI v6)),(14,vc (aI r11)),(30,vc (aL (Y X3.row a0.Segments))),(31,vc (aI (a0.Segments.length:U))),(32,vc (aI v6)),(47,vc (aB v16))],[(99999999999,[.own 90000]),(6,(dm a0.row)),(10,[aB y7.i0,aB y7.i1,aB y7.i2,aB y7.i3,aB y7.i4,aB y7.i5,aB y7.i6,aB y7.i7])],[(90000,1,Y (rL rI) v8)]⟩):go Z (.code C5w:: [.blk 1,.code C41,.code (.loop B7h),.blk 0]) (B0a [] [] [.r 0] [(1,Y (rL rI) r)]) .normal (N σ):=by
 unfold L1 at h
 rcases ic h with ⟨h17,h⟩|⟨h17,h⟩
 ·try simp only[hσ,h17,C5w,C,E,F,G,H,J]
  obtain⟨r18,h18,h⟩:=ob h
  obtain⟨h19,h⟩:=D3 h
  obtain⟨r20,h20,h⟩:=ob h
  refine A4w (ks:= [1,2,3,5,6,10,12,14,30,31,32]) (bs:= [99999999999,6,10]) (rs:= [90000]) (τ:=(H7 a1 a2 a3 v6 r11 a0 y7 r18 r20)) X (F87 rec_ h_rec a1 a2 a3 v6 r11 a0 y7 v8 r18 r20 h18 h19 h20 _ L L L L L L L) ?_
  simp only[H7,B4,cdt]
  try simp only[h17,h19,C41,C,E,F,G,H,J]
  refine A6h _ _ _ h _ ?_
  try simp only[h17,h19,C,E,F,G,H,J,I]
 ·try simp only[hσ,h17,C5w,C41,C,E,F,G,H,J]
  refine A6h _ _ _ h _ ?_
  try simp only[h17,C,E,F,G,H,J,I]
theorem F6o(rec_:X5→U→U→(P U)→X7→(P (P U))→Q (P (P U)))(h_rec:∀(a0:X5) (a1 a2:U) (a3:P U) (a4:X7) (a5:P (P U)) zr,rec_ a0 a1 a2 a3 a4 a5=N zr→FCz Z 269 [.d (.ag (X5.row a0)),.d (.sc (.int .i64 a1)),.d (.sc (.int .i64 a2)),.d (.sc (.sl (Y rI a3))),.d (.ag (X7.row a4)),.p] [.r 0] [(1,Y (rL rI) a5)] [.r 0] [(1,Y (rL rI) zr)] [])(a1 a2:U)(a3:P U)(a0:X5)(y7:X7):∀(n:W) (v6:U) (v8:P (P U)) (r:(P (P U))),E7 rec_ a1 a2 a3 a0 y7 n v6 v8=N r→∀σ:St,σ.kept [1,2,3,5,6,10,30,31,32] [99999999999,6,10] [90000]=⟨[(1,vc (aI a1)),(2,vc (aI a2)),(3,vc (aL (Y rI a3))),(5,vc (.pb 99999999999 0)),(6,vc (.pb 6 0)),(10,vc (.pb 10 0)),(30,vc (aL (Y X3.row a0.Segments))),(31,vc (aI (a0.Segments.length:U))),(32,vc (aI v6))],[(99999999999,[.own 90000]),(6,(dm a0.row)),(10,[aB y7.i0,aB y7.i1,aB y7.i2,aB y7.i3,aB y7.i4,aB y7.i5,aB y7.i6,aB y7.i7])],[(90000,1,Y (rL rI) v8)]⟩→go Z (.code (.loop B7h):: [.blk 0]) (B0a [] [] [.r 0] [(1,Y (rL rI) r)]) .normal (N σ):=by
 intro n
 induction n with
 | zero=>intro _ _ r h; cases h
 | succ n ih=>
  intro v6 v8 r h σ hσ
  rw[E7] at h
  refine B0 ?_
  rcases ic h with ⟨h9,h⟩|⟨h9,h⟩
  ·obtain⟨x10,h10,h⟩:=ob h
   try simp only[hσ,h9,h10,B7h,C,E,F,G,H,J]
   refine D7 X X ?_
   obtain⟨r11,h11,h⟩:=ob h
   try simp only[h9,h10,C,E,F,G,H,J]
   refine A2 (A96 _ _ _ h11) X X (uf X) ?_
   rcases ic h with ⟨h12,h⟩|⟨h12,h⟩
   ·obtain⟨h13,h⟩:=D3 h
    try simp only[h9,h10,h12,C,E,F,G,H,J]
    refine C0a X X h13 ?_
    obtain⟨x14,h14,h⟩:=ob h
    have h14n:=N4 h14
    have hA15:([aB y7.i0,aB y7.i1,aB y7.i2,aB y7.i3,aB y7.i4,aB y7.i5,aB y7.i6,aB y7.i7]:P AC)[zA r11]?=N (aB x14):=D0k h14n
    try simp only[h9,h10,h12,hA15,C,E,F,G,H,J]
    refine E23 rec_ h_rec _ _ _ _ _ _ _ _ (E7 rec_ a1 a2 a3 a0 y7 n) ih _ _ h _ ?_
    try simp only[h9,h10,h12,hA15,C,E,F,G,H,J,I]
   ·try simp only[h9,h10,h12,C,E,F,G,H,J]
    refine E23 rec_ h_rec _ _ _ _ _ _ _ _ (E7 rec_ a1 a2 a3 a0 y7 n) ih _ _ h _ ?_
    try simp only[h9,h10,h12,C,E,F,G,H,J,I]
  ·try simp only[hσ,h9,B7h,C,E,F,G,H,J]
   cases h
   exact⟨trivial,[90000],by decide,by decide,X,X⟩
theorem F45:A5 Z 269=N (cc207.strip,[],60):=by kernel_rfl
theorem B0v(rec_:X5→U→U→(P U)→X7→(P (P U))→Q (P (P U)))(a0:X5)(a1 a2:U)(a3:P U)(a4:X7)(a5:P (P U))(r:(P (P U)))(h_rec:∀(a0:X5) (a1 a2:U) (a3:P U) (a4:X7) (a5:P (P U)) zr,rec_ a0 a1 a2 a3 a4 a5=N zr→FCz Z 269 [.d (.ag (X5.row a0)),.d (.sc (.int .i64 a1)),.d (.sc (.int .i64 a2)),.d (.sc (.sl (Y rI a3))),.d (.ag (X7.row a4)),.p] [.r 0] [(1,Y (rL rI) a5)] [.r 0] [(1,Y (rL rI) zr)] [])(h:A0r rec_ a0 a1 a2 a3 a4 a5=N r):FCz Z 269 [.d (.ag (X5.row a0)),.d (.sc (.int .i64 a1)),.d (.sc (.int .i64 a2)),.d (.sc (.sl (Y rI a3))),.d (.ag (X7.row a4)),.p] [.r 0] [(1,Y (rL rI) a5)] [.r 0] [(1,Y (rL rI) r)] []:=by
 unfold A0r at h
 refine C63 (σ:=⟨[(0,va (dm a0.row)),(1,vc (aI a1)),(2,vc (aI a2)),(3,vc (aL (Y rI a3))),(4,va [aB a4.i0,aB a4.i1,aB a4.i2,aB a4.i3,aB a4.i4,aB a4.i5,aB a4.i6,aB a4.i7]),(5,vc (.pb 99999999999 0))],[(99999999999,[.own 90000])],[(90000,1,Y (rL rI) a5)]⟩) A7 F45 X X X X ?_
 simp only[cc207]
 try simp only[C,E,F,G,H,J]
 refine B2 X X X ?_
 try simp only[C,E,F,G,H,J]
 refine B2 X X X ?_
 rcases ic h with ⟨h1,h⟩|⟨h1,h⟩
 ·try simp only[h1,C,E,F,G,H,J]
  obtain⟨r2,h2,h⟩:=ob h
  obtain⟨h3,h⟩:=D3 h
  refine A4w (ks:= [3,5]) (bs:= [99999999999]) (rs:= [90000]) (τ:=(J7 a3 a5 r2)) X (F6y rec_ h_rec a3 a5 r2 h2 h3 _ L L L L L) ?_
  simp only[J7,C9,cdt]
  try simp only[h1,h3,C,E,F,G,H,J]
  cases h
  exact⟨trivial,[90000],by decide,by decide,X,X⟩
 ·obtain⟨h4,h⟩:=D3 h
  try simp only[h1,C,E,F,G,H,J]
  refine C0a X X h4 ?_
  have hA5:A3o [aB a4.i0,aB a4.i1,aB a4.i2,aB a4.i3,aB a4.i4,aB a4.i5,aB a4.i6,aB a4.i7] (zA a1) [aB T]= [aB ((X7.set a4 (zA a1) T)).i0,aB ((X7.set a4 (zA a1) T)).i1,aB ((X7.set a4 (zA a1) T)).i2,aB ((X7.set a4 (zA a1) T)).i3,aB ((X7.set a4 (zA a1) T)).i4,aB ((X7.set a4 (zA a1) T)).i5,aB ((X7.set a4 (zA a1) T)).i6,aB ((X7.set a4 (zA a1) T)).i7]:=X7.set_eq a4 (A8m h4)
  have hA5g:A2n [aB a4.i0,aB a4.i1,aB a4.i2,aB a4.i3,aB a4.i4,aB a4.i5,aB a4.i6,aB a4.i7] (zA a1+1)=T:=C7y (A8m h4)
  have hA5h:A2n [aB a4.i1,aB a4.i2,aB a4.i3,aB a4.i4,aB a4.i5,aB a4.i6,aB a4.i7] (zA a1)=T:=C2f (c:=aB a4.i0) (A8m h4)
  try simp only[h1,hA5,hA5g,hA5h,C,E,F,G,H,J]
  refine F6o rec_ h_rec _ _ _ _ _ _ _ _ _ h _ ?_
  try simp only[h1,hA5,hA5g,hA5h,C,E,F,G,H,J,I]
theorem B02:∀(n:W) (a0:X5) (a1:U) (a2:U) (a3:P U) (a4:X7) (a5:P (P U)) (r:(P (P U))),G9 n a0 a1 a2 a3 a4 a5=N r→FCz Z 269 [.d (.ag (X5.row a0)),.d (.sc (.int .i64 a1)),.d (.sc (.int .i64 a2)),.d (.sc (.sl (Y rI a3))),.d (.ag (X7.row a4)),.p] [.r 0] [(1,Y (rL rI) a5)] [.r 0] [(1,Y (rL rI) r)] []:=by
 intro n
 induction n with
 | zero=>intro _ _ _ _ _ _ r h; cases h
 | succ n ih=>intro a0 a1 a2 a3 a4 a5 r h; rw[G9] at h; exact B0v (G9 n) a0 a1 a2 a3 a4 a5 r ih h
theorem B2d(a0:X5)(a1 a2:U)(a3:P U)(a4:X7)(a5:P (P U))(r:(P (P U)))(h:A4e a0 a1 a2 a3 a4 a5=N r):FCz Z 269 [.d (.ag (X5.row a0)),.d (.sc (.int .i64 a1)),.d (.sc (.int .i64 a2)),.d (.sc (.sl (Y rI a3))),.d (.ag (X7.row a4)),.p] [.r 0] [(1,Y (rL rI) a5)] [.r 0] [(1,Y (rL rI) r)] []:=B02 bigN a0 a1 a2 a3 a4 a5 r h
/- 192:impl_RoutesBetween -/
def cc222:X2:=(.seq (.reg [bo 3 0,(O,.mv 6 KN)]) (.seq (.seq (.reg [lw 8 3 2,ca 9 93 [S 8],nt 10 9,mv 11 10,(N (11,L),.mv 12 (S 1)),(N (11,L),.faddr 13 (S 3) 0),(N (11,L),.load 14 (S 13) L 1),(N (11,L),.len 15 (S 14)),(N (11,L),.call 16 94 [(S 12),(S 15)]),(N (11,L),.un 17 .not (S 16)),po 18 11 17,mv 19 18,(N (19,L),.mv 20 (S 2)),(N (19,L),.faddr 21 (S 3) 0),(N (19,L),.load 22 (S 21) L 1),(N (19,L),.len 23 (S 22)),(N (19,L),.call 24 94 [(S 20),(S 23)]),(N (19,L),.un 25 .not (S 24)),po 26 19 25]) (.cond (S 26) (.seq (.reg [(O,.mv 6 KN)]) .ret) .skip)) (.seq (.reg [(O,.bslice 27 1 [.sl []] 0 []),(O,.alloc 7 [.nil]),so 7 27 1]) (.seq (.cal [lw 28 3 2,mv 29 1,mv 30 2,(O,.build 31 [aB L,aB L,aB L,aB L,aB L,aB L,aB L,aB L] [])] 32 269 [(S 28),(S 29),(S 30),KN,(S 31),(S 7)]) (.seq (.reg [ld 33 7,mv 6 33]) .ret)))))
theorem F35:A5 Z 192=N (cc222.strip,[6],34):=by kernel_rfl
theorem B40(a0:X5)(a1 a2:U)(r:(P (P U)))(h:A00 a0 a1 a2=N r):FC Z 192 [.ag (X5.row a0),.sc (.int .i64 a1),.sc (.int .i64 a2)] [.sc (.o 1 (Y (rL rI) r))]:=by
 unfold A00 at h
 refine C4 A7 F35 X ?_
 simp only[cc222,C,E,F,G,H,J]
 try simp only[C,E,F,G,H,J]
 refine B2 X X X ?_
 obtain⟨r1,h1,h⟩:=ob h
 try simp only[C,E,F,G,H,J]
 refine A2 (W1 _ _ h1) X X (uf X) ?_
 rcases ic h with ⟨h2,h⟩|⟨h2,h⟩
 ·obtain⟨r3,h3,h⟩:=ob h
  try simp only[h2,C,E,F,G,H,J]
  refine A2 (E2 _ _ _ h3) X X (uf X) ?_
  rcases ic h with ⟨h4,h⟩|⟨h4,h⟩
  ·obtain⟨r5,h5,h⟩:=ob h
   try simp only[h2,h4,C,E,F,G,H,J]
   refine A2 (E2 _ _ _ h5) X X (uf X) ?_
   rcases ic h with ⟨h6,h⟩|⟨h6,h⟩
   ·try simp only[h2,h4,h6,C,E,F,G,H,J]
    refine C7 (es:=Y (rL rI) ([]:P (P U))) X X ?_
    try simp only[h2,h4,h6,C,E,F,G,H,J]
    refine D7 X X ?_
    try simp only[h2,h4,h6,C,E,F,G,H,J]
    refine C2p ?_
    obtain⟨r7,h7,h⟩:=ob h
    try simp only[h2,h4,h6,C,E,F,G,H,J]
    refine A89 (B2d _ _ _ _ _ _ _ h7) 7 [1728] rfl X X X (by decide) X X X ?_
    try simp only[h2,h4,h6,C,E,F,G,H,J]
    cases h
    trivial
   ·try simp only[h2,h4,h6,C,E,F,G,H,J]
    cases h
    trivial
  ·try simp only[h2,h4,C,E,F,G,H,J]
   cases h
   trivial
 ·try simp only[h2,C,E,F,G,H,J]
  cases h
  trivial
/- 193:impl_RouteMinutes -/
def C52:X2:= .seq (.reg [(O,.keep [2,5,11,12,13] [2] [])]) (.seq (.reg [bn 14 .lss 13 12]) (.seq (.cond (S 14) .skip (.exit 0)) (.seq (.block 1 (.seq (.reg [ia 15 11 13 1,ld 16 15,mv 7 16]) (.seq (.seq (.reg [mv 17 7,fa 18 2 1,ld 19 18,ln 20 19,ca 21 94 [S 17,S 20],nt 22 21]) (.cond (S 22) (.seq (.reg [(O,.mv 4 (K (-1)))]) .ret) .skip)) (.reg [mv 23 5,fa 24 2 1,ld 25 24,mv 26 7,ia 27 25 26 5,fa 28 27 3,ld 29 28,bn 30 .add 23 29,mv 5 30])))) (.reg [(O,.bin 31 .add (S 13) (K 1)),mv 13 31]))))
def D4k:X2:=(.seq (.reg [mv 32 5,mv 4 32]) .ret)
def cc226:X2:=(.seq (.reg [bo 2 0,(O,.mv 4 (K 0))]) (.seq (.seq (.reg [lw 8 2 2,ca 9 93 [S 8],nt 10 9]) (.cond (S 10) (.seq (.reg [(O,.mv 4 (K (-1)))]) .ret) .skip)) (.seq (.reg [(O,.mv 5 (K 0))]) (.seq (.seq (.reg [mv 11 1,ln 12 11,(O,.mv 13 (K 0))]) (.block 0 (.loop C52))) D4k))))
theorem F4x(a1:P U)(a0:X5):∀(n:W) (v3 v4 r:U),I1 a1 a0 n v3 v4=N r→∀σ:St,σ.kept [2,5,11,12,13] [2] []=⟨[(2,vc (.pb 2 0)),(5,vc (aI v3)),(11,vc (aL (Y rI a1))),(12,vc (aI (a1.length:U))),(13,vc (aI v4))],[(2,(dm a0.row))],[]⟩→go Z (.code (.loop C52):: [.blk 0,.code D4k]) (Ret [4] [.sc (.v (.int .i64 r))]) .normal (N σ):=by
 intro n
 induction n with
 | zero=>intro _ _ r h; cases h
 | succ n ih=>
  intro v3 v4 r h σ hσ
  rw[I1] at h
  refine B0 ?_
  rcases ic h with ⟨h5,h⟩|⟨h5,h⟩
  ·obtain⟨x6,h6,h⟩:=ob h
   obtain⟨r7,h7,h⟩:=ob h
   try simp only[hσ,h5,h6,C52,C,E,F,G,H,J]
   refine A2 (E2 _ _ _ h7) X X (uf X) ?_
   rcases ic h with ⟨h8,h⟩|⟨h8,h⟩
   ·obtain⟨x9,h9,h⟩:=ob h
    try simp only[h5,h6,h8,h9,C,E,F,G,H,J]
    refine ih _ _ _ h _ ?_
    try simp only[h5,h6,h8,h9,C,E,F,G,H,J,I]
   ·try simp only[h5,h6,h8,C,E,F,G,H,J]
    cases h
    trivial
  ·try simp only[hσ,h5,C52,D4k,C,E,F,G,H,J]
   cases h
   trivial
theorem F82:A5 Z 193=N (cc226.strip,[4],33):=by kernel_rfl
theorem A6t(a0:X5)(a1:P U)(r:U)(h:M7 a0 a1=N r):FC Z 193 [.ag (X5.row a0),.sc (.sl (Y rI a1))] [.sc (.v (.int .i64 r))]:=by
 unfold M7 at h
 refine C4 A7 F82 X ?_
 simp only[cc226,C,E,F,G,H,J]
 try simp only[C,E,F,G,H,J]
 refine B2 X X X ?_
 obtain⟨r1,h1,h⟩:=ob h
 try simp only[C,E,F,G,H,J]
 refine A2 (W1 _ _ h1) X X (uf X) ?_
 rcases ic h with ⟨h2,h⟩|⟨h2,h⟩
 ·try simp only[h2,C,E,F,G,H,J]
  refine F4x _ _ _ _ _ _ h _ ?_
  try simp only[h2,C,E,F,G,H,J,I]
 ·try simp only[h2,C,E,F,G,H,J]
  cases h
  trivial
/- 102:impl_BestRoute -/
def C6x:X2:= .seq (.reg [(O,.keep [3,9,22,23,24] [3] [960])]) (.seq (.reg [bn 25 .lss 24 23]) (.seq (.cond (S 25) .skip (.exit 0)) (.seq (.block 1 (.seq (.reg [ia 26 22 24 1,ld 27 26,mv 11 27]) (.seq (.drw [o0 (lw 28 3 2),o0 (mv 29 11),o0 (ca 30 193 [S 28,S 29]),(N [30],lw 31 3 2),(N [30],mv 32 9),o0 (ca 33 193 [S 31,S 32]),o0 (bn 34 .lss 30 33)]) (.cond (S 34) (.reg [mv 35 11,mv 9 35]) .skip)))) (.reg [(O,.bin 36 .add (S 24) (K 1)),mv 24 36]))))
def D26:X2:=(.seq (.reg [mv 37 9,mv 6 37,(O,.mv 7 (KB T))]) .ret)
def cc231:X2:=(.seq (.reg [bo 3 0,(O,.mv 6 KN),(O,.mv 7 (KB L))]) (.seq (.reg [lw 12 3 2,mv 13 1,mv 14 2,ca 15 192 [S 12,S 13,S 14],mv 8 15]) (.seq (.seq (.reg [mv 16 8,ln 17 16,(O,.bin 18 .eql (S 17) (K 0))]) (.cond (S 18) (.seq (.reg [(O,.mv 6 KN),(O,.mv 7 (KB L))]) .ret) .skip)) (.seq (.reg [mv 19 8,(O,.iaddr 20 (S 19) (K 0) 1),ld 21 20,mv 9 21]) (.seq (.seq (.reg [mv 22 8,ln 23 22,(O,.mv 24 (K 0))]) (.block 0 (.loop C6x))) D26)))))
theorem F33(r1:(P (P U)))(a0:X5):∀(n:W) (v4:P U) (v5:U) (r:(P U) × V),P6 r1 a0 n v4 v5=N r→∀σ:St,σ.kept [3,9,22,23,24] [3] [960]=⟨[(3,vc (.pb 3 0)),(9,vc (aL (Y rI v4))),(22,vc (.own 960)),(23,vc (aI (r1.length:U))),(24,vc (aI v5))],[(3,(dm a0.row))],[(960,1,Y (rL rI) r1)]⟩→go Z (.code (.loop C6x):: [.blk 0,.code D26]) (Ret [6,7] [.sc (.v (.sl (Y rI r.1))),.sc (.v (.bool r.2))]) .normal (N σ):=by
 intro n
 induction n with
 | zero=>intro _ _ r h; cases h
 | succ n ih=>
  intro v4 v5 r h σ hσ
  rw[P6] at h
  refine B0 ?_
  rcases ic h with ⟨h6,h⟩|⟨h6,h⟩
  ·obtain⟨x7,h7,h⟩:=ob h
   have h7n:=N4 h7
   try simp only[hσ,h6,h7,h7n,C6x,C,E,F,G,H,J]
   refine C3 X ?_
   obtain⟨r9,h9,h⟩:=ob h
   try simp only[h6,h7,h7n,C,E,F,G,H,J]
   refine F9 (A6t _ _ _ h9) X X (uf X) ?_
   obtain⟨r10,h10,h⟩:=ob h
   try simp only[h6,h7,h7n,C,E,F,G,H,J]
   refine F9 (A6t _ _ _ h10) X X (uf X) ?_
   rcases ic h with ⟨h11,h⟩|⟨h11,h⟩
   ·try simp only[h6,h7,h7n,h11,C,E,F,G,H,J]
    refine ih _ _ _ h _ ?_
    try simp only[h6,h7,h7n,h11,C,E,F,G,H,J,I]
   ·try simp only[h6,h7,h7n,h11,C,E,F,G,H,J]
    refine ih _ _ _ h _ ?_
    try simp only[h6,h7,h7n,h11,C,E,F,G,H,J,I]
  ·try simp only[hσ,h6,C6x,D26,C,E,F,G,H,J]
   cases h
   trivial
theorem F37:A5 Z 102=N (cc231.strip,[6,7],38):=by kernel_rfl
theorem B9a(a0:X5)(a1 a2:U)(r:(P U) × V)(h:A3n a0 a1 a2=N r):FC Z 102 [.ag (X5.row a0),.sc (.int .i64 a1),.sc (.int .i64 a2)] [.sc (.v (.sl (Y rI r.1))),.sc (.v (.bool r.2))]:=by
 unfold A3n at h
 refine C4 A7 F37 X ?_
 simp only[cc231,C,E,F,G,H,J]
 try simp only[C,E,F,G,H,J]
 refine B2 X X X ?_
 obtain⟨r1,h1,h⟩:=ob h
 try simp only[C,E,F,G,H,J]
 refine A2 (B40 _ _ _ _ h1) X X (uf X) ?_
 rcases ic h with ⟨h2,h⟩|⟨h2,h⟩
 ·try simp only[h2,C,E,F,G,H,J]
  cases h
  trivial
 ·obtain⟨x3,h3,h⟩:=ob h
  have h3n:=N4 h3
  try simp only[h2,h3,h3n,C,E,F,G,H,J]
  refine F33 _ _ _ _ _ _ h _ ?_
  try simp only[h2,h3,h3n,C,E,F,G,H,J,I]
/- 270:impl_Chart_points -/
def C44:X2:= .seq (.reg [(O,.keep [1,3,8,9,22,23,24,47] [3,8] [1344])]) (.cond (S 47) (.seq (.reg [(O,.mv 6 KN),(O,.mv 7 (KB L))]) .ret) .skip)
def D4g:X2:=(.seq (.reg [mv 48 1,(O,.aaddr 49 (S 8) (S 48) 8 1),(O,.store (S 49) (KB T) 1)]) (.reg [mv 50 9,mv 51 1,(O,.bslice 52 1 [.int .i64 0] 1 [(0,(S 51))]),(O,.app 53 1 8 (S 50) (S 52)),mv 9 53]))
def D19:X2:=(.reg [(O,.bin 54 .add (S 24) (K 1)),mv 24 54])
def B7t:X2:= .seq (.reg [(O,.keep [1,3,8,9,22,23,24] [3,8] [1344])]) (.seq (.reg [bn 25 .lss 24 23]) (.seq (.cond (S 25) .skip (.exit 0)) (.seq (.block 1 (.seq (.reg [ia 26 22 24 1,ld 27 26,mv 11 27]) (.seq (.seq (.reg [mv 28 11,fa 29 3 1,ld 30 29,ln 31 30,ca 32 94 [S 28,S 31],nt 33 32]) (.cond (S 33) (.seq (.reg [(O,.mv 6 KN),(O,.mv 7 (KB L))]) .ret) .skip)) (.seq (.reg [fa 34 3 1,ld 35 34,mv 36 11,ia 37 35 36 5,lw 38 37 5,mv 39 1,ca 40 327 [S 38,S 39],mv 1 40]) (.seq (.seq (.reg [mv 41 1,(O,.bin 42 .lss (S 41) (K 0)),mv 43 42,(N (43,L),.mv 44 (S 1)),(N (43,L),.aaddr 45 (S 8) (S 44) 8 1),(N (43,L),.load 46 (S 45) L 1),po 47 43 46]) C44) D4g))))) D19)))
def C1z:X2:=(.seq (.reg [mv 55 9,mv 6 55,(O,.mv 7 (KB T))]) .ret)
def cc239:X2:=(.seq (.reg [bo 3 0,(O,.mv 6 KN),(O,.mv 7 (KB L))]) (.seq (.seq (.reg [mv 12 1,fa 13 3 0,ld 14 13,ln 15 14,ca 16 94 [S 12,S 15],nt 17 16]) (.cond (S 17) (.seq (.reg [(O,.mv 6 KN),(O,.mv 7 (KB L))]) .ret) .skip)) (.seq (.reg [(O,.alloc 8 [aB L,aB L,aB L,aB L,aB L,aB L,aB L,aB L])]) (.seq (.reg [mv 18 1,(O,.aaddr 19 (S 8) (S 18) 8 1),(O,.store (S 19) (KB T) 1)]) (.seq (.reg [mv 20 1,(O,.bslice 21 1 [.int .i64 0] 1 [(0,(S 20))]),mv 9 21]) (.seq (.seq (.reg [mv 22 2,ln 23 22,(O,.mv 24 (K 0))]) (.block 0 (.loop B7t))) C1z))))))
theorem E3c(r14:U)(a2:P U)(v6:U)(a0:X5)(v7:X7)(v8:P U)(A2t:U→U→X7→(P U)→Q ((P U) × V))(B23:∀(v5 v6:U) (v7:X7) (v8:P U) zr,A2t v5 v6 v7 v8=N zr→∀σ:St,σ.kept [1,3,8,9,22,23,24] [3,8] [1344]=⟨[(1,vc (aI v5)),(3,vc (.pb 3 0)),(8,vc (.pb 8 0)),(9,vc (.own 1344)),(22,vc (aL (Y rI a2))),(23,vc (aI (a2.length:U))),(24,vc (aI v6))],[(3,(dm a0.row)),(8,[aB v7.i0,aB v7.i1,aB v7.i2,aB v7.i3,aB v7.i4,aB v7.i5,aB v7.i6,aB v7.i7])],[(1344,1,Y rI v8)]⟩→go Z (.code (.loop B7t):: [.blk 0,.code C1z]) (Ret [6,7] [.sc (.o 1 (Y rI zr.1)),.sc (.v (.bool zr.2))]) .normal (N σ))(v19:V)(r:(P U) × V)(h:O7 r14 a2 v6 a0 v7 v8 A2t v19=N r)(σ:St)(hσ:σ.kept [1,3,8,9,22,23,24,47] [3,8] [1344]=⟨[(1,vc (aI r14)),(3,vc (.pb 3 0)),(8,vc (.pb 8 0)),(9,vc (.own 1344)),(22,vc (aL (Y rI a2))),(23,vc (aI (a2.length:U))),(24,vc (aI v6)),(47,vc (aB v19))],[(3,(dm a0.row)),(8,[aB v7.i0,aB v7.i1,aB v7.i2,aB v7.i3,aB v7.i4,aB v7.i5,aB v7.i6,aB v7.i7])],[(1344,1,Y rI v8)]⟩):go Z (.code C44:: [.code D4g,.blk 1,.code D19,.code (.loop B7t),.blk 0,.code C1z]) (Ret [6,7] [.sc (.o 1 (Y rI r.1)),.sc (.v (.bool r.2))]) .normal (N σ):=by
 unfold O7 at h
 rcases ic h with ⟨h20,h⟩|⟨h20,h⟩
 ·try simp only[hσ,h20,C44,C,E,F,G,H,J]
  cases h
  trivial
 ·obtain⟨h21,h⟩:=D3 h
  try simp only[hσ,h20,C44,D4g,C,E,F,G,H,J]
  refine C0a X X h21 ?_
  have hA22:A3o [aB v7.i0,aB v7.i1,aB v7.i2,aB v7.i3,aB v7.i4,aB v7.i5,aB v7.i6,aB v7.i7] (zA r14) [aB T]= [aB ((X7.set v7 (zA r14) T)).i0,aB ((X7.set v7 (zA r14) T)).i1,aB ((X7.set v7 (zA r14) T)).i2,aB ((X7.set v7 (zA r14) T)).i3,aB ((X7.set v7 (zA r14) T)).i4,aB ((X7.set v7 (zA r14) T)).i5,aB ((X7.set v7 (zA r14) T)).i6,aB ((X7.set v7 (zA r14) T)).i7]:=X7.set_eq v7 (A8m h21)
  have hA22g:A2n [aB v7.i0,aB v7.i1,aB v7.i2,aB v7.i3,aB v7.i4,aB v7.i5,aB v7.i6,aB v7.i7] (zA r14+1)=T:=C7y (A8m h21)
  have hA22h:A2n [aB v7.i1,aB v7.i2,aB v7.i3,aB v7.i4,aB v7.i5,aB v7.i6,aB v7.i7] (zA r14)=T:=C2f (c:=aB v7.i0) (A8m h21)
  try simp only[h20,hA22,hA22g,hA22h,C,E,F,G,H,J]
  refine C7 (es:=Y rI ([r14]:P U)) X X ?_
  obtain⟨h23,h⟩:=D3 h
  try simp only[h20,hA22,hA22g,hA22h,h23,D19,C,E,F,G,H,J]
  refine B23 _ _ _ _ _ h _ ?_
  try simp only[h20,hA22,hA22g,hA22h,h23,C,E,F,G,H,J,I]
theorem F4u(a2:P U)(a0:X5):∀(n:W) (v5 v6:U) (v7:X7) (v8:P U) (r:(P U) × V),I2 a2 a0 n v5 v6 v7 v8=N r→∀σ:St,σ.kept [1,3,8,9,22,23,24] [3,8] [1344]=⟨[(1,vc (aI v5)),(3,vc (.pb 3 0)),(8,vc (.pb 8 0)),(9,vc (.own 1344)),(22,vc (aL (Y rI a2))),(23,vc (aI (a2.length:U))),(24,vc (aI v6))],[(3,(dm a0.row)),(8,[aB v7.i0,aB v7.i1,aB v7.i2,aB v7.i3,aB v7.i4,aB v7.i5,aB v7.i6,aB v7.i7])],[(1344,1,Y rI v8)]⟩→go Z (.code (.loop B7t):: [.blk 0,.code C1z]) (Ret [6,7] [.sc (.o 1 (Y rI r.1)),.sc (.v (.bool r.2))]) .normal (N σ):=by
 intro n
 induction n with
 | zero=>intro _ _ _ _ r h; cases h
 | succ n ih=>
  intro v5 v6 v7 v8 r h σ hσ
  rw[I2] at h
  refine B0 ?_
  rcases ic h with ⟨h9,h⟩|⟨h9,h⟩
  ·obtain⟨x10,h10,h⟩:=ob h
   obtain⟨r11,h11,h⟩:=ob h
   try simp only[hσ,h9,h10,B7t,C,E,F,G,H,J]
   refine A2 (E2 _ _ _ h11) X X (uf X) ?_
   rcases ic h with ⟨h12,h⟩|⟨h12,h⟩
   ·obtain⟨x13,h13,h⟩:=ob h
    obtain⟨r14,h14,h⟩:=ob h
    try simp only[h9,h10,h12,h13,C,E,F,G,H,J]
    refine A2 (A96 _ _ _ h14) X X (uf X) ?_
    rcases ic h with ⟨h15,h⟩|⟨h15,h⟩
    ·try simp only[h9,h10,h12,h13,h15,C,E,F,G,H,J]
     refine E3c _ _ _ _ _ _ (I2 a2 a0 n) ih _ _ h _ ?_
     try simp only[h9,h10,h12,h13,h15,C,E,F,G,H,J,I]
    ·obtain⟨h16,h⟩:=D3 h
     try simp only[h9,h10,h12,h13,h15,C,E,F,G,H,J]
     refine C0a X X h16 ?_
     obtain⟨x17,h17,h⟩:=ob h
     have h17n:=N4 h17
     have hA18:([aB v7.i0,aB v7.i1,aB v7.i2,aB v7.i3,aB v7.i4,aB v7.i5,aB v7.i6,aB v7.i7]:P AC)[zA r14]?=N (aB x17):=D0k h17n
     try simp only[h9,h10,h12,h13,h15,hA18,C,E,F,G,H,J]
     refine E3c _ _ _ _ _ _ (I2 a2 a0 n) ih _ _ h _ ?_
     try simp only[h9,h10,h12,h13,h15,hA18,C,E,F,G,H,J,I]
   ·try simp only[h9,h10,h12,C,E,F,G,H,J]
    cases h
    trivial
  ·try simp only[hσ,h9,B7t,C1z,C,E,F,G,H,J]
   cases h
   trivial
theorem F7d:A5 Z 270=N (cc239.strip,[6,7],56):=by kernel_rfl
theorem A8y(a0:X5)(a1:U)(a2:P U)(r:(P U) × V)(h:S9 a0 a1 a2=N r):FC Z 270 [.ag (X5.row a0),.sc (.int .i64 a1),.sc (.sl (Y rI a2))] [.sc (.o 1 (Y rI r.1)),.sc (.v (.bool r.2))]:=by
 unfold S9 at h
 refine C4 A7 F7d X ?_
 simp only[cc239,C,E,F,G,H,J]
 try simp only[C,E,F,G,H,J]
 refine B2 X X X ?_
 obtain⟨r1,h1,h⟩:=ob h
 try simp only[C,E,F,G,H,J]
 refine A2 (E2 _ _ _ h1) X X (uf X) ?_
 rcases ic h with ⟨h2,h⟩|⟨h2,h⟩
 ·try simp only[h2,C,E,F,G,H,J]
  refine D7 X X ?_
  obtain⟨h3,h⟩:=D3 h
  try simp only[h2,C,E,F,G,H,J]
  refine C0a X X h3 ?_
  have hA4:A3o [aB L,aB L,aB L,aB L,aB L,aB L,aB L,aB L] (zA a1) [aB T]= [aB ((X7.set (⟨L,L,L,L,L,L,L,L⟩:X7) (zA a1) T)).i0,aB ((X7.set (⟨L,L,L,L,L,L,L,L⟩:X7) (zA a1) T)).i1,aB ((X7.set (⟨L,L,L,L,L,L,L,L⟩:X7) (zA a1) T)).i2,aB ((X7.set (⟨L,L,L,L,L,L,L,L⟩:X7) (zA a1) T)).i3,aB ((X7.set (⟨L,L,L,L,L,L,L,L⟩:X7) (zA a1) T)).i4,aB ((X7.set (⟨L,L,L,L,L,L,L,L⟩:X7) (zA a1) T)).i5,aB ((X7.set (⟨L,L,L,L,L,L,L,L⟩:X7) (zA a1) T)).i6,aB ((X7.set (⟨L,L,L,L,L,L,L,L⟩:X7) (zA a1) T)).i7]:=X7.set_eq (⟨L,L,L,L,L,L,L,L⟩:X7) (A8m h3)
  have hA4g:A2n [aB L,aB L,aB L,aB L,aB L,aB L,aB L,aB L] (zA a1+1)=T:=C7y (A8m h3)
  have hA4h:A2n [aB L,aB L,aB L,aB L,aB L,aB L,aB L] (zA a1)=T:=C2f (c:=aB L) (A8m h3)
  try simp only[h2,hA4,hA4g,hA4h,C,E,F,G,H,J]
  refine C7 (es:=Y rI ([a1]:P U)) X X ?_
  try simp only[h2,hA4,hA4g,hA4h,C,E,F,G,H,J]
  refine F4u _ _ _ _ _ _ _ _ h _ ?_
  try simp only[h2,hA4,hA4g,hA4h,C,E,F,G,H,J,I]
 ·try simp only[h2,C,E,F,G,H,J]
  cases h
  trivial
/- 194:impl_RoutePoints -/
def cc243:X2:=(.seq (.reg [bo 3 0,(O,.mv 6 KN)]) (.seq (.seq (.reg [lw 9 3 2,ca 10 93 [S 9],nt 11 10]) (.cond (S 11) (.seq (.reg [(O,.mv 6 KN)]) .ret) .skip)) (.seq (.reg [lw 13 3 2,mv 14 1,mv 15 2,ca 16 270 [S 13,S 14,S 15],mv 12 16,xt 17 12 0,xt 18 12 1,mv 7 17,mv 8 18]) (.seq (.reg [mv 19 7,mv 6 19]) .ret))))
theorem F2j:A5 Z 194=N (cc243.strip,[6],20):=by kernel_rfl
theorem A64(a0:X5)(a1:U)(a2:P U)(r:(P U))(h:N5 a0 a1 a2=N r):FC Z 194 [.ag (X5.row a0),.sc (.int .i64 a1),.sc (.sl (Y rI a2))] [.sc (.o 1 (Y rI r))]:=by
 unfold N5 at h
 refine C4 A7 F2j X ?_
 simp only[cc243,C,E,F,G,H,J]
 try simp only[C,E,F,G,H,J]
 refine B2 X X X ?_
 obtain⟨r1,h1,h⟩:=ob h
 try simp only[C,E,F,G,H,J]
 refine A2 (W1 _ _ h1) X X (uf X) ?_
 rcases ic h with ⟨h2,h⟩|⟨h2,h⟩
 ·obtain⟨r3,h3,h⟩:=ob h
  try simp only[h2,C,E,F,G,H,J]
  refine A2 (A8y _ _ _ _ h3) X X (uf X) ?_
  try simp only[h2,C,E,F,G,H,J]
  cases h
  trivial
 ·try simp only[h2,C,E,F,G,H,J]
  cases h
  trivial
/- 271:impl_RouteOk -/
def cc245:X2:=(.seq (.reg [bo 3 0,(O,.mv 6 (KB L))]) (.seq (.seq (.reg [lw 9 3 2,ca 10 93 [S 9],nt 11 10]) (.cond (S 11) (.seq (.reg [(O,.mv 6 (KB L))]) .ret) .skip)) (.seq (.reg [lw 13 3 2,mv 14 1,mv 15 2,ca 16 270 [S 13,S 14,S 15],mv 12 16,xt 17 12 0,xt 18 12 1,mv 7 17,mv 8 18]) (.seq (.reg [mv 19 8,mv 6 19]) .ret))))
theorem F4a:A5 Z 271=N (cc245.strip,[6],20):=by kernel_rfl
theorem B3t(a0:X5)(a1:U)(a2:P U)(r:V)(h:A14 a0 a1 a2=N r):FC Z 271 [.ag (X5.row a0),.sc (.int .i64 a1),.sc (.sl (Y rI a2))] [.sc (.v (.bool r))]:=by
 unfold A14 at h
 refine C4 A7 F4a X ?_
 simp only[cc245,C,E,F,G,H,J]
 try simp only[C,E,F,G,H,J]
 refine B2 X X X ?_
 obtain⟨r1,h1,h⟩:=ob h
 try simp only[C,E,F,G,H,J]
 refine A2 (W1 _ _ h1) X X (uf X) ?_
 rcases ic h with ⟨h2,h⟩|⟨h2,h⟩
 ·obtain⟨r3,h3,h⟩:=ob h
  try simp only[h2,C,E,F,G,H,J]
  refine A2 (A8y _ _ _ _ h3) X X (uf X) ?_
  try simp only[h2,C,E,F,G,H,J]
  cases h
  trivial
 ·try simp only[h2,C,E,F,G,H,J]
  cases h
  trivial
/- 272:impl_Ship_minutes -/
def cc247:X2:=(.seq (.reg [bo 2 0,bo 3 1,(O,.mv 4 (K 0))]) (.seq (.seq (.reg [fa 5 2 5,ld 6 5]) (.cond (S 6) (.seq (.reg [fa 7 3 3,ld 8 7,(O,.bin 9 .mul (K 2) (S 8)),mv 4 9]) .ret) .skip)) (.seq (.reg [fa 10 3 3,ld 11 10,mv 4 11]) .ret)))
theorem F15:A5 Z 272=N (cc247.strip,[4],12):=by kernel_rfl
theorem A1t(a0:Xb)(a1:X3)(r:U)(h:M6 a0 a1=N r):FC Z 272 [.ag (zC a0),.ag (X3.row a1)] [.sc (.v (.int .i64 r))]:=by
 unfold M6 at h
 refine C4 A7 F15 X ?_
 simp only[cc247,C,E,F,G,H,J]
 try simp only[C,E,F,G,H,J]
 refine B2 X X X ?_
 try simp only[C,E,F,G,H,J]
 refine B2 X X X ?_
 rcases ic h with ⟨h1,h⟩|⟨h1,h⟩
 ·try simp only[h1,C,E,F,G,H,J]
  cases h
  trivial
 ·try simp only[h1,C,E,F,G,H,J]
  cases h
  trivial
/- 281:impl_onSegment -/
def cc249:X2:=(.seq (.reg [bo 3 0,bo 5 2,(O,.mv 6 (KB L))]) (.seq (.reg [lw 7 3 2,ca 8 93 [S 7],mv 9 8,(N (9,T),.load 10 (S 5) T 6),(N (9,T),.call 11 266 [(S 10)]),pa 12 9 11,mv 13 12,(N (13,T),.mv 14 (S 1)),(N (13,T),.faddr 15 (S 3) 1),(N (13,T),.load 16 (S 15) L 1),(N (13,T),.len 17 (S 16)),(N (13,T),.call 18 94 [(S 14),(S 17)]),pa 19 13 18,mv 6 19]) .ret))
theorem F84:A5 Z 281=N (cc249.strip,[6],20):=by kernel_rfl
theorem B1m(a0:X5)(a1:U)(a2:Xb)(r:V)(h:A13 a0 a1 a2=N r):FC Z 281 [.ag (X5.row a0),.sc (.int .i64 a1),.ag (zC a2)] [.sc (.v (.bool r))]:=by
 unfold A13 at h
 refine C4 A7 F84 X ?_
 simp only[cc249,C,E,F,G,H,J]
 try simp only[C,E,F,G,H,J]
 refine B2 X X X ?_
 try simp only[C,E,F,G,H,J]
 refine B2 X X X ?_
 obtain⟨r1,h1,h⟩:=ob h
 try simp only[C,E,F,G,H,J]
 refine A2 (W1 _ _ h1) X X (uf X) ?_
 rcases ic h with ⟨h2,h⟩|⟨h2,h⟩
 ·obtain⟨r3,h3,h⟩:=ob h
  try simp only[h2,C,E,F,G,H,J]
  refine A2 (A4i _ _ h3) X X (uf X) ?_
  rcases ic h with ⟨h4,h⟩|⟨h4,h⟩
  ·obtain⟨r5,h5,h⟩:=ob h
   try simp only[h2,h4,C,E,F,G,H,J]
   refine A2 (E2 _ _ _ h5) X X (uf X) ?_
   try simp only[h2,h4,C,E,F,G,H,J]
   cases h
   trivial
  ·try simp only[h2,h4,C,E,F,G,H,J]
   cases h
   trivial
 ·try simp only[h2,C,E,F,G,H,J]
  cases h
  trivial
/- 337:impl_Ship_squat -/
def cc251:X2:=(.seq (.reg [bo 1 0,(O,.mv 2 (K 0))]) (.seq (.seq (.reg [fa 3 1 5,ld 4 3]) (.cond (S 4) (.seq (.reg [fa 5 1 2,ld 6 5,(O,.bin 7 .quo (S 6) (K 50)),mv 2 7]) .ret) .skip)) (.seq (.reg [fa 8 1 2,ld 9 8,(O,.bin 10 .quo (S 9) (K 20)),mv 2 10]) .ret)))
theorem F4h:A5 Z 337=N (cc251.strip,[2],11):=by kernel_rfl
theorem B8o(a0:Xb)(r:U)(h:A5b a0=N r):FC Z 337 [.ag (zC a0)] [.sc (.v (.int .i64 r))]:=by
 unfold A5b at h
 refine C4 A7 F4h X ?_
 simp only[cc251,C,E,F,G,H,J]
 try simp only[C,E,F,G,H,J]
 refine B2 X X X ?_
 rcases ic h with ⟨h1,h⟩|⟨h1,h⟩
 ·try simp only[h1,C,E,F,G,H,J]
  cases h
  trivial
 ·try simp only[h1,C,E,F,G,H,J]
  cases h
  trivial
/- 282:impl_Ship_need -/
def cc253:X2:=(.seq (.reg [bo 1 0,(O,.mv 2 (K 0))]) (.seq (.drw [(N [6],fa 3 1 2),(N [6],ld 4 3),o0 (lw 5 1 6),o0 (ca 6 337 [S 5]),o0 (bn 7 .add 4 6),o0 (O,.bin 8 .add (S 7) (K 50)),o0 (mv 2 8)]) .ret))
theorem F7r:A5 Z 282=N (cc253.strip,[2],9):=by kernel_rfl
theorem B9l(a0:Xb)(r:U)(h:A58 a0=N r):FC Z 282 [.ag (zC a0)] [.sc (.v (.int .i64 r))]:=by
 unfold A58 at h
 refine C4 A7 F7r X ?_
 simp only[cc253,C,E,F,G,H,J]
 try simp only[C,E,F,G,H,J]
 refine B2 X X X ?_
 try simp only[C,E,F,G,H,J]
 refine C3 X ?_
 obtain⟨r1,h1,h⟩:=ob h
 try simp only[C,E,F,G,H,J]
 refine F9 (B8o _ _ h1) X X (uf X) ?_
 try simp only[C,E,F,G,H,J]
 cases h
 trivial
/- 206:impl_LevelFor -/
def cc255:X2:=(.seq (.reg [bo 3 0,bo 5 2,(O,.mv 6 (K 0))]) (.seq (.seq (.reg [lw 7 3 2,mv 8 1,lw 9 5 6,ca 10 281 [S 7,S 8,S 9],nt 11 10]) (.cond (S 11) (.seq (.reg [(O,.mv 6 (K 0))]) .ret) .skip)) (.seq (.drw [o0 (lw 12 5 6),o0 (ca 13 282 [S 12]),(N [13],fa 14 3 1),(N [13],ld 15 14),(N [13],mv 16 1),(N [13],ia 17 15 16 5),(N [13],fa 18 17 2),(N [13],ld 19 18),o0 (bn 20 .sub 13 19),o0 (mv 6 20)]) .ret)))
theorem F30:A5 Z 206=N (cc255.strip,[6],21):=by kernel_rfl
theorem C04(a0:X5)(a1:U)(a2:Xb)(r:U)(h:A4p a0 a1 a2=N r):FC Z 206 [.ag (X5.row a0),.sc (.int .i64 a1),.ag (zC a2)] [.sc (.v (.int .i64 r))]:=by
 unfold A4p at h
 refine C4 A7 F30 X ?_
 simp only[cc255,C,E,F,G,H,J]
 try simp only[C,E,F,G,H,J]
 refine B2 X X X ?_
 try simp only[C,E,F,G,H,J]
 refine B2 X X X ?_
 obtain⟨r1,h1,h⟩:=ob h
 try simp only[C,E,F,G,H,J]
 refine A2 (B1m _ _ _ _ h1) X X (uf X) ?_
 rcases ic h with ⟨h2,h⟩|⟨h2,h⟩
 ·try simp only[h2,C,E,F,G,H,J]
  refine C3 X ?_
  obtain⟨r3,h3,h⟩:=ob h
  try simp only[h2,C,E,F,G,H,J]
  refine F9 (B9l _ _ h3) X X (uf X) ?_
  obtain⟨x4,h4,h⟩:=ob h
  try simp only[h2,h4,C,E,F,G,H,J]
  cases h
  trivial
 ·try simp only[h2,C,E,F,G,H,J]
  cases h
  trivial
/- 361:impl_windowsOf -/
def D31:X2:= .seq (.reg [(O,.keep [0,3,4,5] [] [384])]) (.reg [mv 22 3,mv 23 3,ln 24 23,(O,.bin 25 .sub (S 24) (K 1)),mv 26 5,ia 27 22 25 2,fa 28 27 1,so 28 26 1])
def C55:X2:= .seq (.reg [(O,.keep [0,3,4,5] [] [384])]) (.reg [mv 9 5,(O,.bin 10 .add (S 9) (K 1)),mv 5 10])
def B2p:X2:= .seq (.reg [(O,.keep [0,3,4,5] [] [384])]) (.seq (.seq (.reg [mv 7 5,(O,.bin 8 .leq (S 7) (K 2880))]) (.cond (S 8) .skip (.exit 0))) (.seq (.block 1 (.seq (.seq (.reg [mv 11 0,mv 12 5,(O,.callv 13 (S 11) [(S 12)]),nt 14 13]) (.cond (S 14) (.seq (.reg [(O,.mv 4 (KB L))]) (.exit 1)) .skip)) (.seq (.seq (.reg [mv 15 4,nt 16 15]) (.cond (S 16) (.seq (.reg [mv 17 3,mv 18 5,(O,.build 19 [aI 0,aI 0] [(0,1,(S 18))]),(O,.bslice 20 2 [.int .i64 0,.int .i64 0] 1 [(0,(S 19))]),(O,.app 21 2 16 (S 17) (S 20)),mv 3 21]) (.reg [(O,.mv 4 (KB T))])) .skip)) D31))) C55))
def B44:X2:=(.seq (.reg [mv 29 3,mv 2 29]) .ret)
def cc261:X2:=(.seq (.reg [(O,.mv 2 KN)]) (.seq (.reg [(O,.bslice 6 2 [.int .i64 0,.int .i64 0] 0 []),mv 3 6]) (.seq (.reg [(O,.mv 4 (KB L))]) (.seq (.seq (.reg [(O,.mv 5 (K 0))]) (.block 0 (.loop B2p))) B44))))
theorem E27(a0:U→Q V)(F_a0:FuncId)(caps_a0:P D)(hF_a0:V6 Z F_a0=T)(h_a0:∀z0 zr,a0 z0=N zr→FC Z F_a0 ([.sc (.int .i64 z0)]++caps_a0.map .sc) [.sc (.v (.bool zr))])(v2:U)(L4:V→U→(P X9)→Q (P X9))(A6r:∀(v1:V) (v2:U) (v3:P X9) zr,L4 v1 v2 v3=N zr→∀σ:St,σ.kept [0,3,4,5] [] [384]=⟨[(0,vc (.dat (.clo F_a0 caps_a0))),(3,vc (.own 384)),(4,vc (aB v1)),(5,vc (aI v2))],[],[(384,2,Y X9.row v3)]⟩→go Z (.code (.loop B2p):: [.blk 0,.code B44]) (Ret [2] [.sc (.o 2 (Y X9.row zr))]) .normal (N σ))(v11:V)(v12:P X9)(r:(P X9))(h:U8 a0 v2 L4 v11 v12=N r)(σ:St)(hσ:σ.kept [0,3,4,5] [] [384]=⟨[(0,vc (.dat (.clo F_a0 caps_a0))),(3,vc (.own 384)),(4,vc (aB v11)),(5,vc (aI v2))],[],[(384,2,Y X9.row v12)]⟩):go Z (.code C55:: [.code (.loop B2p),.blk 0,.code B44]) (Ret [2] [.sc (.o 2 (Y X9.row r))]) .normal (N σ):=by
 unfold U8 at h
 try simp only[hσ,C55,C,E,F,G,H,J]
 refine A6r _ _ _ _ h _ ?_
 try simp only[C,E,F,G,H,J,I]
theorem E2g(a0:U→Q V)(F_a0:FuncId)(caps_a0:P D)(hF_a0:V6 Z F_a0=T)(h_a0:∀z0 zr,a0 z0=N zr→FC Z F_a0 ([.sc (.int .i64 z0)]++caps_a0.map .sc) [.sc (.v (.bool zr))])(v2:U)(L4:V→U→(P X9)→Q (P X9))(A6r:∀(v1:V) (v2:U) (v3:P X9) zr,L4 v1 v2 v3=N zr→∀σ:St,σ.kept [0,3,4,5] [] [384]=⟨[(0,vc (.dat (.clo F_a0 caps_a0))),(3,vc (.own 384)),(4,vc (aB v1)),(5,vc (aI v2))],[],[(384,2,Y X9.row v3)]⟩→go Z (.code (.loop B2p):: [.blk 0,.code B44]) (Ret [2] [.sc (.o 2 (Y X9.row zr))]) .normal (N σ))(v9:P X9)(r:(P X9))(h:A0h a0 v2 L4 v9=N r)(σ:St)(hσ:σ.kept [0,3,4,5] [] [384]=⟨[(0,vc (.dat (.clo F_a0 caps_a0))),(3,vc (.own 384)),(4,vc (aB T)),(5,vc (aI v2))],[],[(384,2,Y X9.row v9)]⟩):go Z (.code D31:: [.blk 1,.code C55,.code (.loop B2p),.blk 0,.code B44]) (Ret [2] [.sc (.o 2 (Y X9.row r))]) .normal (N σ):=by
 unfold A0h at h
 obtain⟨x10,h10,h⟩:=ob h
 have h10n:=N4 h10
 try simp only[hσ,h10,D31,C,E,F,G,H,J]
 refine A6c (row:=X9.row) (y:=(⟨x10.From,v2⟩:X9)) X X h10n X X (by rfl) ?_
 try simp only[h10,C,E,F,G,H,J]
 refine E27 a0 F_a0 caps_a0 hF_a0 h_a0 _ L4 A6r _ _ _ h _ ?_
 try simp only[h10,C,E,F,G,H,J,I]
theorem F69(a0:U→Q V)(F_a0:FuncId)(caps_a0:P D)(hF_a0:V6 Z F_a0=T)(h_a0:∀z0 zr,a0 z0=N zr→FC Z F_a0 ([.sc (.int .i64 z0)]++caps_a0.map .sc) [.sc (.v (.bool zr))]):∀(n:W) (v1:V) (v2:U) (v3:P X9) (r:(P X9)),H8 a0 n v1 v2 v3=N r→∀σ:St,σ.kept [0,3,4,5] [] [384]=⟨[(0,vc (.dat (.clo F_a0 caps_a0))),(3,vc (.own 384)),(4,vc (aB v1)),(5,vc (aI v2))],[],[(384,2,Y X9.row v3)]⟩→go Z (.code (.loop B2p):: [.blk 0,.code B44]) (Ret [2] [.sc (.o 2 (Y X9.row r))]) .normal (N σ):=by
 intro n
 induction n with
 | zero=>intro _ _ _ r h; cases h
 | succ n ih=>
  intro v1 v2 v3 r h σ hσ
  rw[H8] at h
  refine B0 ?_
  rcases ic h with ⟨h4,h⟩|⟨h4,h⟩
  ·obtain⟨r5,h5,h⟩:=ob h
   try simp only[hσ,h4,B2p,C,E,F,G,H,J]
   refine A9f (h_a0 _ _ h5) hF_a0 X X (R5 X) X (uf X) ?_
   rcases ic h with ⟨h6,h⟩|⟨h6,h⟩
   ·rcases ic h with ⟨h7,h⟩|⟨h7,h⟩
    ·try simp only[h4,h6,h7,C,E,F,G,H,J]
     refine E2g a0 F_a0 caps_a0 hF_a0 h_a0 _ (H8 a0 n) ih _ _ h _ ?_
     try simp only[h4,h6,h7,C,E,F,G,H,J,I]
    ·try simp only[h4,h6,h7,C,E,F,G,H,J]
     refine C7 (es:=Y X9.row ([(⟨v2,(0:U)⟩:X9)]:P X9)) X X ?_
     obtain⟨h8,h⟩:=D3 h
     try simp only[h4,h6,h7,h8,C,E,F,G,H,J]
     refine E2g a0 F_a0 caps_a0 hF_a0 h_a0 _ (H8 a0 n) ih _ _ h _ ?_
     try simp only[h4,h6,h7,h8,C,E,F,G,H,J,I]
   ·try simp only[h4,h6,C,E,F,G,H,J]
    refine E27 a0 F_a0 caps_a0 hF_a0 h_a0 _ (H8 a0 n) ih _ _ _ h _ ?_
    try simp only[h4,h6,C,E,F,G,H,J,I]
  ·try simp only[hσ,h4,B2p,B44,C,E,F,G,H,J]
   cases h
   trivial
theorem F3w:A5 Z 361=N (cc261.strip,[2],30):=by kernel_rfl
theorem B9b(a0:U→Q V)(r:(P X9))(F_a0:FuncId)(caps_a0:P D)(hF_a0:V6 Z F_a0=T)(h_a0:∀z0 zr,a0 z0=N zr→FC Z F_a0 ([.sc (.int .i64 z0)]++caps_a0.map .sc) [.sc (.v (.bool zr))])(h:A53 a0=N r):FC Z 361 [.sc (.clo F_a0 caps_a0)] [.sc (.o 2 (Y X9.row r))]:=by
 unfold A53 at h
 refine C4 A7 F3w X ?_
 simp only[cc261,C,E,F,G,H,J]
 try simp only[C,E,F,G,H,J]
 refine C7 (es:=Y X9.row ([]:P X9)) X X ?_
 try simp only[C,E,F,G,H,J]
 refine F69 a0 F_a0 caps_a0 hF_a0 h_a0 _ _ _ _ _ h _ ?_
 try simp only[C,E,F,G,H,J,I]
/- 284:impl_Wave -/
def cc266:X2:=(.seq (.reg [(O,.mv 4 (K 0))]) (.seq (.seq (.reg [mv 7 1,ca 8 338 [S 7],nt 9 8]) (.cond (S 9) (.seq (.reg [(O,.mv 4 (K 0))]) .ret) .skip)) (.seq (.reg [mv 10 0,mv 11 1,bn 12 .rem 10 11,mv 13 1,bn 14 .add 12 13,mv 15 1,bn 16 .rem 14 15,mv 5 16]) (.seq (.reg [mv 17 1,(O,.bin 18 .quo (S 17) (K 2)),mv 6 18]) (.seq (.seq (.reg [mv 19 5,mv 20 6,bn 21 .geq 19 20]) (.cond (S 21) (.seq (.reg [mv 22 5,mv 23 6,bn 24 .sub 22 23,mv 5 24]) (.seq (.reg [mv 25 5,(O,.bin 26 .mul (K 40000) (S 25)),mv 27 6,mv 28 5,bn 29 .sub 27 28,bn 30 .mul 26 29,mv 31 6,mv 32 6,bn 33 .mul 31 32,bn 34 .quo 30 33,(O,.un 35 .neg (S 34)),mv 4 35]) .ret)) .skip)) (.seq (.reg [mv 36 5,(O,.bin 37 .mul (K 40000) (S 36)),mv 38 6,mv 39 5,bn 40 .sub 38 39,bn 41 .mul 37 40,mv 42 6,mv 43 6,bn 44 .mul 42 43,bn 45 .quo 41 44,mv 4 45]) .ret))))))
theorem F5v:A5 Z 284=N (cc266.strip,[4],46):=by kernel_rfl
theorem C9p(a0 a1 r:U)(h:A7q a0 a1=N r):FC Z 284 [.sc (.int .i64 a0),.sc (.int .i64 a1)] [.sc (.v (.int .i64 r))]:=by
 unfold A7q at h
 refine C4 A7 F5v X ?_
 simp only[cc266,C,E,F,G,H,J]
 obtain⟨r1,h1,h⟩:=ob h
 try simp only[C,E,F,G,H,J]
 refine A2 (B2g _ _ h1) X X (uf X) ?_
 rcases ic h with ⟨h2,h⟩|⟨h2,h⟩
 ·obtain⟨h3,h⟩:=A1h h
  obtain⟨h4,h⟩:=A1h h
  rcases ic h with ⟨h5,h⟩|⟨h5,h⟩
  ·obtain⟨h6,h⟩:=A1h h
   try simp only[h2,h3,h4,h5,h6,C,E,F,G,H,J]
   cases h
   trivial
  ·obtain⟨h7,h⟩:=A1h h
   try simp only[h2,h3,h4,h5,h7,C,E,F,G,H,J]
   cases h
   trivial
 ·try simp only[h2,C,E,F,G,H,J]
  cases h
  trivial
/- 210:impl_Tide_level -/
def C6g:X2:= .seq (.reg [(O,.keep [1,5,11,12,13] [] [])]) (.seq (.reg [bn 14 .lss 13 12]) (.seq (.cond (S 14) .skip (.exit 0)) (.seq (.block 1 (.seq (.reg [ia 15 11 13 3,lw 16 15 3,(O,.alloc 7 [aI 0,aI 0,aI 0]),so 7 16 3]) (.drw [(N [26],mv 17 5),(N [26],fa 18 7 0),(N [26],ld 19 18),o0 (mv 20 1),o0 (fa 21 7 2),o0 (ld 22 21),o0 (bn 23 .add 20 22),o0 (fa 24 7 1),o0 (ld 25 24),o0 (ca 26 284 [S 23,S 25]),o0 (bn 27 .mul 19 26),o0 (O,.bin 28 .quo (S 27) (K 10000)),o0 (bn 29 .add 17 28),o0 (mv 5 29)]))) (.reg [(O,.bin 30 .add (S 13) (K 1)),mv 13 30]))))
def D5j:X2:=(.seq (.reg [mv 31 5,mv 4 31]) .ret)
def cc270:X2:=(.seq (.reg [bo 2 0,(O,.mv 4 (K 0))]) (.seq (.reg [fa 8 2 0,ld 9 8,mv 5 9]) (.seq (.seq (.reg [fa 10 2 1,ld 11 10,ln 12 11,(O,.mv 13 (K 0))]) (.block 0 (.loop C6g))) D5j)))
theorem F5e(a1:U)(a0:Xn):∀(n:W) (v1 v2 r:U),S5 a1 a0 n v1 v2=N r→∀σ:St,σ.kept [1,5,11,12,13] [] []=⟨[(1,vc (aI a1)),(5,vc (aI v1)),(11,vc (aL (Y Xi.row a0.Parts))),(12,vc (aI (a0.Parts.length:U))),(13,vc (aI v2))],[],[]⟩→go Z (.code (.loop C6g):: [.blk 0,.code D5j]) (Ret [4] [.sc (.v (.int .i64 r))]) .normal (N σ):=by
 intro n
 induction n with
 | zero=>intro _ _ r h; cases h
 | succ n ih=>
  intro v1 v2 r h σ hσ
  rw[S5] at h
  refine B0 ?_
  rcases ic h with ⟨h3,h⟩|⟨h3,h⟩
  ·obtain⟨x4,h4,h⟩:=ob h
   try simp only[hσ,h3,h4,C6g,C,E,F,G,H,J]
   refine D7 X X ?_
   try simp only[h3,h4,C,E,F,G,H,J]
   refine C3 X ?_
   obtain⟨r5,h5,h⟩:=ob h
   try simp only[h3,h4,C,E,F,G,H,J]
   refine F9 (C9p _ _ _ h5) X X (uf X) ?_
   try simp only[h3,h4,C,E,F,G,H,J]
   refine ih _ _ _ h _ ?_
   try simp only[h3,h4,C,E,F,G,H,J,I]
  ·try simp only[hσ,h3,C6g,D5j,C,E,F,G,H,J]
   cases h
   trivial
theorem F63:A5 Z 210=N (cc270.strip,[4],32):=by kernel_rfl
theorem B78(a0:Xn)(a1 r:U)(h:A5f a0 a1=N r):FC Z 210 [.ag (Xn.row a0),.sc (.int .i64 a1)] [.sc (.v (.int .i64 r))]:=by
 unfold A5f at h
 refine C4 A7 F63 X ?_
 simp only[cc270,C,E,F,G,H,J]
 try simp only[C,E,F,G,H,J]
 refine B2 X X X ?_
 try simp only[C,E,F,G,H,J]
 refine F5e _ _ _ _ _ _ h _ ?_
 try simp only[C,E,F,G,H,J,I]
/- 211:impl_Forecast_surge -/
def C5l:X2:= .seq (.reg [(O,.keep [1,5,9,10,11] [] [])]) (.seq (.reg [bn 12 .lss 11 10]) (.seq (.cond (S 12) .skip (.exit 0)) (.seq (.block 1 (.seq (.reg [mv 13 11,ia 14 9 11 3,lw 15 14 3,(O,.alloc 7 [aI 0,aI 0,aI 0]),mv 6 13,so 7 15 3]) (.seq (.reg [fa 16 7 0,ld 17 16,mv 18 1,bn 19 .leq 17 18]) (.cond (S 19) (.reg [mv 20 6,mv 5 20]) .skip)))) (.reg [(O,.bin 21 .add (S 11) (K 1)),mv 11 21]))))
def D2k:X2:=(.seq (.reg [mv 22 5,mv 4 22]) .ret)
def cc275:X2:=(.seq (.reg [bo 2 0,(O,.mv 4 (K 0))]) (.seq (.reg [(O,.mv 5 (K 0))]) (.seq (.seq (.reg [fa 8 2 2,ld 9 8,ln 10 9,(O,.mv 11 (K 0))]) (.block 0 (.loop C5l))) D2k)))
theorem F9a(a1:U)(a0:Xf):∀(n:W) (v1 v2 r:U),I5 a1 a0 n v1 v2=N r→∀σ:St,σ.kept [1,5,9,10,11] [] []=⟨[(1,vc (aI a1)),(5,vc (aI v1)),(9,vc (aL (Y Xg.row a0.Surges))),(10,vc (aI (a0.Surges.length:U))),(11,vc (aI v2))],[],[]⟩→go Z (.code (.loop C5l):: [.blk 0,.code D2k]) (Ret [4] [.sc (.v (.int .i64 r))]) .normal (N σ):=by
 intro n
 induction n with
 | zero=>intro _ _ r h; cases h
 | succ n ih=>
  intro v1 v2 r h σ hσ
  rw[I5] at h
  refine B0 ?_
  rcases ic h with ⟨h3,h⟩|⟨h3,h⟩
  ·obtain⟨x4,h4,h⟩:=ob h
   try simp only[hσ,h3,h4,C5l,C,E,F,G,H,J]
   refine D7 X X ?_
   rcases ic h with ⟨h5,h⟩|⟨h5,h⟩
   ·try simp only[h3,h4,h5,C,E,F,G,H,J]
    refine ih _ _ _ h _ ?_
    try simp only[h3,h4,h5,C,E,F,G,H,J,I]
   ·try simp only[h3,h4,h5,C,E,F,G,H,J]
    refine ih _ _ _ h _ ?_
    try simp only[h3,h4,h5,C,E,F,G,H,J,I]
  ·try simp only[hσ,h3,C5l,D2k,C,E,F,G,H,J]
   cases h
   trivial
theorem F65:A5 Z 211=N (cc275.strip,[4],23):=by kernel_rfl
theorem B3x(a0:Xf)(a1 r:U)(h:A2s a0 a1=N r):FC Z 211 [.ag (zJ a0),.sc (.int .i64 a1)] [.sc (.v (.int .i64 r))]:=by
 unfold A2s at h
 refine C4 A7 F65 X ?_
 simp only[cc275,C,E,F,G,H,J]
 try simp only[C,E,F,G,H,J]
 refine B2 X X X ?_
 try simp only[C,E,F,G,H,J]
 refine F9a _ _ _ _ _ _ h _ ?_
 try simp only[C,E,F,G,H,J,I]
/- 119:impl_Forecast_low -/
def cc278:X2:=(.seq (.reg [bo 2 0,(O,.mv 4 (K 0))]) (.seq (.drw [o0 (fa 5 2 0),o0 (lw 6 5 2),o0 (mv 7 1),o0 (ca 8 210 [S 6,S 7]),(N [8,13],fa 9 2 2),(N [8,13],ld 10 9),(N [8],lw 11 2 3),(N [8],mv 12 1),o0 (ca 13 211 [S 11,S 12]),o0 (ia 14 10 13 3),o0 (fa 15 14 1),o0 (ld 16 15),o0 (bn 17 .add 8 16),o0 (mv 4 17)]) .ret))
theorem F85:A5 Z 119=N (cc278.strip,[4],18):=by kernel_rfl
theorem B5k(a0:Xf)(a1 r:U)(h:O0 a0 a1=N r):FC Z 119 [.ag (zJ a0),.sc (.int .i64 a1)] [.sc (.v (.int .i64 r))]:=by
 unfold O0 at h
 refine C4 A7 F85 X ?_
 simp only[cc278,C,E,F,G,H,J]
 try simp only[C,E,F,G,H,J]
 refine B2 X X X ?_
 try simp only[C,E,F,G,H,J]
 refine C3 X ?_
 obtain⟨r1,h1,h⟩:=ob h
 try simp only[C,E,F,G,H,J]
 refine F9 (B78 _ _ _ h1) X X (uf X) ?_
 obtain⟨r2,h2,h⟩:=ob h
 try simp only[C,E,F,G,H,J]
 refine F9 (B3x _ _ _ h2) X X (uf X) ?_
 obtain⟨x3,h3,h⟩:=ob h
 try simp only[h3,C,E,F,G,H,J]
 cases h
 trivial
/- 362:impl_LowWindows_1 -/
def cc280:X2:=(.seq (.reg [(O,.mv 4 (KB L))]) (.seq (.drw [o0 (lw 5 1 3),o0 (mv 6 0),o0 (ca 7 119 [S 5,S 6]),(N [7],ld 8 2),o0 (bn 9 .geq 7 8),o0 (mv 4 9)]) .ret))
theorem F41:A5 Z 362=N (cc280.strip,[4],10):=by kernel_rfl
theorem F7j(a0:U)(c0:Xf)(c1:U)(r:V)(h:A1x a0 c0 c1=N r):FC Z 362 [.sc (.int .i64 a0),.sc (.pd (zJ c0)),.sc (.pd (rI c1))] [.sc (.v (.bool r))]:=by
 unfold A1x at h
 refine C4 A7 F41 X ?_
 simp only[cc280,C,E,F,G,H,J]
 try simp only[C,E,F,G,H,J]
 refine C3 X ?_
 obtain⟨r1,h1,h⟩:=ob h
 try simp only[C,E,F,G,H,J]
 refine F9 (B5k _ _ _ h1) X X (uf X) ?_
 try simp only[C,E,F,G,H,J]
 cases h
 trivial
/- 329:impl_LowWindows -/
def cc283:X2:=(.seq (.reg [bo 2 0,bo 3 1,(O,.mv 4 KN)]) (.seq (.seq (.reg [lw 5 2 3,ca 6 116 [S 5],nt 7 6]) (.cond (S 7) (.seq (.reg [(O,.mv 4 KN)]) .ret) .skip)) (.seq (.reg [(O,.mkf 8 362 [(S 2),(S 3)]),ca 9 361 [S 8],mv 4 9]) .ret)))
theorem F7o:A5 Z 329=N (cc283.strip,[4],10):=by kernel_rfl
theorem B8g(a0:Xf)(a1:U)(r:(P X9))(h:A5h a0 a1=N r):FC Z 329 [.ag (zJ a0),.sc (.int .i64 a1)] [.sc (.o 2 (Y X9.row r))]:=by
 unfold A5h at h
 refine C4 A7 F7o X ?_
 simp only[cc283,C,E,F,G,H,J]
 try simp only[C,E,F,G,H,J]
 refine B2 X X X ?_
 try simp only[C,E,F,G,H,J]
 refine B2 X X X ?_
 obtain⟨r1,h1,h⟩:=ob h
 try simp only[C,E,F,G,H,J]
 refine A2 (A5j _ _ h1) X X (uf X) ?_
 rcases ic h with ⟨h2,h⟩|⟨h2,h⟩
 ·obtain⟨r3,h3,h⟩:=ob h
  try simp only[h2,C,E,F,G,H,J]
  refine R4 (B9b _ _ 362 [.pd (zJ a0),.pd (rI a1)] (by kernel_rfl) (fun z0 zr zh=>F7j z0 a0 a1 zr zh) h3) X (A7z X ⟨A7y,⟨⟩⟩) X (uf X) ?_
  try simp only[h2,C,E,F,G,H,J]
  cases h
  trivial
 ·try simp only[h2,C,E,F,G,H,J]
  cases h
  trivial
/- 330:impl_MinutesOn -/
def cc285:X2:=(.seq (.reg [bo 3 0,bo 5 2,(O,.mv 6 (K 0))]) (.seq (.seq (.reg [lw 7 3 2,ca 8 93 [S 7],nt 9 8,mv 10 9,(N (10,L),.load 11 (S 5) T 6),(N (10,L),.call 12 266 [(S 11)]),(N (10,L),.un 13 .not (S 12)),po 14 10 13,mv 15 14,(N (15,L),.mv 16 (S 1)),(N (15,L),.faddr 17 (S 3) 1),(N (15,L),.load 18 (S 17) L 1),(N (15,L),.len 19 (S 18)),(N (15,L),.call 20 94 [(S 16),(S 19)]),(N (15,L),.un 21 .not (S 20)),po 22 15 21]) (.cond (S 22) (.seq (.reg [(O,.mv 6 (K 0))]) .ret) .skip)) (.seq (.drw [o0 (lw 23 5 6),o0 (fa 24 3 1),o0 (ld 25 24),o0 (mv 26 1),o0 (ia 27 25 26 5),o0 (lw 28 27 5),o0 (ca 29 272 [S 23,S 28]),o0 (mv 6 29)]) .ret)))
theorem F2o:A5 Z 330=N (cc285.strip,[6],30):=by kernel_rfl
theorem B85(a0:X5)(a1:U)(a2:Xb)(r:U)(h:A59 a0 a1 a2=N r):FC Z 330 [.ag (X5.row a0),.sc (.int .i64 a1),.ag (zC a2)] [.sc (.v (.int .i64 r))]:=by
 unfold A59 at h
 refine C4 A7 F2o X ?_
 simp only[cc285,C,E,F,G,H,J]
 try simp only[C,E,F,G,H,J]
 refine B2 X X X ?_
 try simp only[C,E,F,G,H,J]
 refine B2 X X X ?_
 obtain⟨r1,h1,h⟩:=ob h
 try simp only[C,E,F,G,H,J]
 refine A2 (W1 _ _ h1) X X (uf X) ?_
 rcases ic h with ⟨h2,h⟩|⟨h2,h⟩
 ·obtain⟨r3,h3,h⟩:=ob h
  try simp only[h2,C,E,F,G,H,J]
  refine A2 (A4i _ _ h3) X X (uf X) ?_
  rcases ic h with ⟨h4,h⟩|⟨h4,h⟩
  ·obtain⟨r5,h5,h⟩:=ob h
   try simp only[h2,h4,C,E,F,G,H,J]
   refine A2 (E2 _ _ _ h5) X X (uf X) ?_
   rcases ic h with ⟨h6,h⟩|⟨h6,h⟩
   ·try simp only[h2,h4,h6,C,E,F,G,H,J]
    refine C3 X ?_
    obtain⟨x7,h7,h⟩:=ob h
    obtain⟨r9,h9,h⟩:=ob h
    try simp only[h2,h4,h6,h7,C,E,F,G,H,J]
    refine F9 (A1t _ _ _ h9) X X (uf X) ?_
    try simp only[h2,h4,h6,h7,C,E,F,G,H,J]
    cases h
    trivial
   ·try simp only[h2,h4,h6,C,E,F,G,H,J]
    cases h
    trivial
  ·try simp only[h2,h4,C,E,F,G,H,J]
   cases h
   trivial
 ·try simp only[h2,C,E,F,G,H,J]
  cases h
  trivial
/- 331:impl_WindowsOk -/
def C6m:X2:= .seq (.reg [(O,.keep [0,5,6,7] [] [])]) (.seq (.reg [bn 8 .lss 7 6]) (.seq (.cond (S 8) .skip (.exit 0)) (.seq (.block 1 (.seq (.reg [mv 9 7,ia 10 5 7 2,lw 11 10 2,(O,.alloc 4 [aI 0,aI 0]),mv 3 9,so 4 11 2]) (.seq (.drw [o0 (fa 12 4 0),o0 (ld 13 12),o0 (O,.bin 14 .lss (S 13) (K 0)),o0 (mv 15 14),o0 (N (15,L),.faddr 16 (S 4) 0),o0 (N (15,L),.load 17 (S 16) L 1),o0 (N (15,L),.faddr 18 (S 4) 1),o0 (N (15,L),.load 19 (S 18) L 1),o0 (N (15,L),.bin 20 .gtr (S 17) (S 19)),o0 (po 21 15 20),o0 (mv 22 21),o0 (N (22,L),.faddr 23 (S 4) 1),o0 (N (22,L),.load 24 (S 23) L 1),o0 (N (22,L),.bin 25 .gtr (S 24) (K 2880)),o0 (po 26 22 25),o0 (mv 27 26),o0 (N (27,L),.mv 28 (S 3)),o0 (N (27,L),.bin 29 .gtr (S 28) (K 0)),o0 (N (27,L),.mv 30 (S 29)),o0 (N (30,T),.mv 31 (S 0)),o0 (N (30,T),.mv 32 (S 3)),o0 (N (30,T),.bin 33 .sub (S 32) (K 1)),o0 (N (30,T),.iaddr 34 (S 31) (S 33) 2),o0 (N (30,T),.faddr 35 (S 34) 1),o0 (N (30,T),.load 36 (S 35) L 1),o0 (N (30,T),.bin 37 .add (S 36) (K 1)),o0 (N (30,T),.faddr 38 (S 4) 0),o0 (N (30,T),.load 39 (S 38) L 1),o0 (N (30,T),.bin 40 .geq (S 37) (S 39)),o0 (N (27,L),.pick 41 (S 30) (S 40) (KB L)),o0 (po 42 27 41)]) (.cond (S 42) (.seq (.reg [(O,.mv 2 (KB L))]) .ret) .skip)))) (.reg [(O,.bin 43 .add (S 7) (K 1)),mv 7 43]))))
def D3a:X2:=(.seq (.reg [(O,.mv 2 (KB T))]) .ret)
def cc289:X2:=(.seq (.reg [(O,.mv 2 (KB L))]) (.seq (.seq (.reg [mv 5 0,ln 6 5,(O,.mv 7 (K 0))]) (.block 0 (.loop C6m))) D3a))
theorem F3d(a0:P X9):∀(n:W) (v1:U) (r:V),P4 a0 n v1=N r→∀σ:St,σ.kept [0,5,6,7] [] []=⟨[(0,vc (aL (Y X9.row a0))),(5,vc (aL (Y X9.row a0))),(6,vc (aI (a0.length:U))),(7,vc (aI v1))],[],[]⟩→go Z (.code (.loop C6m):: [.blk 0,.code D3a]) (Ret [2] [.sc (.v (.bool r))]) .normal (N σ):=by
 intro n
 induction n with
 | zero=>intro _ r h; cases h
 | succ n ih=>
  intro v1 r h σ hσ
  rw[P4] at h
  refine B0 ?_
  rcases ic h with ⟨h2,h⟩|⟨h2,h⟩
  ·obtain⟨x3,h3,h⟩:=ob h
   try simp only[hσ,h2,h3,C6m,C,E,F,G,H,J]
   refine D7 X X ?_
   try simp only[h2,h3,C,E,F,G,H,J]
   refine C3 X ?_
   rcases ic h with ⟨h4,h⟩|⟨h4,h⟩
   ·try simp only[h2,h3,h4,C,E,F,G,H,J]
    cases h
    trivial
   ·rcases ic h with ⟨h5,h⟩|⟨h5,h⟩
    ·try simp only[h2,h3,h4,h5,C,E,F,G,H,J]
     cases h
     trivial
    ·rcases ic h with ⟨h6,h⟩|⟨h6,h⟩
     ·try simp only[h2,h3,h4,h5,h6,C,E,F,G,H,J]
      cases h
      trivial
     ·rcases ic h with ⟨h7,h⟩|⟨h7,h⟩
      ·obtain⟨x8,h8,h⟩:=ob h
       rcases ic h with ⟨h9,h⟩|⟨h9,h⟩
       ·try simp only[h2,h3,h4,h5,h6,h7,h8,h9,C,E,F,G,H,J]
        cases h
        trivial
       ·try simp only[h2,h3,h4,h5,h6,h7,h8,h9,C,E,F,G,H,J]
        refine ih _ _ h _ ?_
        try simp only[h2,h3,h4,h5,h6,h7,h8,h9,C,E,F,G,H,J,I]
      ·try simp only[h2,h3,h4,h5,h6,h7,C,E,F,G,H,J]
       refine ih _ _ h _ ?_
       try simp only[h2,h3,h4,h5,h6,h7,C,E,F,G,H,J,I]
  ·try simp only[hσ,h2,C6m,D3a,C,E,F,G,H,J]
   cases h
   trivial
theorem F7g:A5 Z 331=N (cc289.strip,[2],44):=by kernel_rfl
theorem B1t(a0:P X9)(r:V)(h:A3w a0=N r):FC Z 331 [.sc (.sl (Y X9.row a0))] [.sc (.v (.bool r))]:=by
 unfold A3w at h
 refine C4 A7 F7g X ?_
 simp only[cc289,C,E,F,G,H,J]
 try simp only[C,E,F,G,H,J]
 refine F3d _ _ _ _ h _ ?_
 try simp only[C,E,F,G,H,J,I]
/- 328:impl_ShrinkWindows -/
def C6z:X2:= .seq (.reg [(O,.keep [1,5,17,18,19] [] [1024])]) (.seq (.reg [bn 20 .lss 19 18]) (.seq (.cond (S 20) .skip (.exit 0)) (.seq (.block 1 (.seq (.reg [ia 21 17 19 2,lw 22 21 2,(O,.alloc 7 [aI 0,aI 0]),so 7 22 2]) (.seq (.reg [fa 23 7 1,ld 24 23,fa 25 7 0,ld 26 25,bn 27 .sub 24 26,mv 28 1,bn 29 .geq 27 28]) (.cond (S 29) (.reg [mv 30 5,fa 31 7 0,ld 32 31,fa 33 7 1,ld 34 33,mv 35 1,bn 36 .sub 34 35,(O,.build 37 [aI 0,aI 0] [(0,1,(S 32)),(1,1,(S 36))]),(O,.bslice 38 2 [.int .i64 0,.int .i64 0] 1 [(0,(S 37))]),(O,.app 39 2 16 (S 30) (S 38)),mv 5 39]) .skip)))) (.reg [(O,.bin 40 .add (S 19) (K 1)),mv 19 40]))))
def D1l:X2:=(.seq (.reg [mv 41 5,mv 4 41]) .ret)
def cc294:X2:=(.seq (.reg [(O,.mv 4 KN)]) (.seq (.seq (.reg [mv 8 0,ca 9 331 [S 8],nt 10 9,mv 11 10,(N (11,L),.mv 12 (S 1)),(N (11,L),.call 13 117 [(S 12)]),(N (11,L),.un 14 .not (S 13)),po 15 11 14]) (.cond (S 15) (.seq (.reg [(O,.mv 4 KN)]) .ret) .skip)) (.seq (.reg [(O,.bslice 16 2 [.int .i64 0,.int .i64 0] 0 []),mv 5 16]) (.seq (.seq (.reg [mv 17 0,ln 18 17,(O,.mv 19 (K 0))]) (.block 0 (.loop C6z))) D1l))))
theorem F8m(a1:U)(a0:P X9):∀(n:W) (v5:U) (v6:P X9) (r:(P X9)),L3 a1 a0 n v5 v6=N r→∀σ:St,σ.kept [1,5,17,18,19] [] [1024]=⟨[(1,vc (aI a1)),(5,vc (.own 1024)),(17,vc (aL (Y X9.row a0))),(18,vc (aI (a0.length:U))),(19,vc (aI v5))],[],[(1024,2,Y X9.row v6)]⟩→go Z (.code (.loop C6z):: [.blk 0,.code D1l]) (Ret [4] [.sc (.o 2 (Y X9.row r))]) .normal (N σ):=by
 intro n
 induction n with
 | zero=>intro _ _ r h; cases h
 | succ n ih=>
  intro v5 v6 r h σ hσ
  rw[L3] at h
  refine B0 ?_
  rcases ic h with ⟨h7,h⟩|⟨h7,h⟩
  ·obtain⟨x8,h8,h⟩:=ob h
   try simp only[hσ,h7,h8,C6z,C,E,F,G,H,J]
   refine D7 X X ?_
   rcases ic h with ⟨h9,h⟩|⟨h9,h⟩
   ·try simp only[h7,h8,h9,C,E,F,G,H,J]
    refine C7 (es:=Y X9.row ([(⟨x8.From,(IntKind.i64.wrap (x8.To - a1))⟩:X9)]:P X9)) X X ?_
    obtain⟨h10,h⟩:=D3 h
    try simp only[h7,h8,h9,h10,C,E,F,G,H,J]
    refine ih _ _ _ h _ ?_
    try simp only[h7,h8,h9,h10,C,E,F,G,H,J,I]
   ·try simp only[h7,h8,h9,C,E,F,G,H,J]
    refine ih _ _ _ h _ ?_
    try simp only[h7,h8,h9,C,E,F,G,H,J,I]
  ·try simp only[hσ,h7,C6z,D1l,C,E,F,G,H,J]
   cases h
   trivial
theorem F2x:A5 Z 328=N (cc294.strip,[4],42):=by kernel_rfl
theorem B4g(a0:P X9)(a1:U)(r:(P X9))(h:A0z a0 a1=N r):FC Z 328 [.sc (.sl (Y X9.row a0)),.sc (.int .i64 a1)] [.sc (.o 2 (Y X9.row r))]:=by
 unfold A0z at h
 refine C4 A7 F2x X ?_
 simp only[cc294,C,E,F,G,H,J]
 obtain⟨r1,h1,h⟩:=ob h
 try simp only[C,E,F,G,H,J]
 refine A2 (B1t _ _ h1) X X (uf X) ?_
 rcases ic h with ⟨h2,h⟩|⟨h2,h⟩
 ·obtain⟨r3,h3,h⟩:=ob h
  try simp only[h2,C,E,F,G,H,J]
  refine A2 (T8 _ _ h3) X X (uf X) ?_
  rcases ic h with ⟨h4,h⟩|⟨h4,h⟩
  ·try simp only[h2,h4,C,E,F,G,H,J]
   refine C7 (es:=Y X9.row ([]:P X9)) X X ?_
   try simp only[h2,h4,C,E,F,G,H,J]
   refine F8m _ _ _ _ _ _ h _ ?_
   try simp only[h2,h4,C,E,F,G,H,J,I]
  ·try simp only[h2,h4,C,E,F,G,H,J]
   cases h
   trivial
 ·try simp only[h2,C,E,F,G,H,J]
  cases h
  trivial
/- 273:impl_SureStarts -/
def cc297:X2:=(.seq (.reg [bo 4 0,bo 5 1,bo 7 3,(O,.mv 8 KN)]) (.seq (.seq (.reg [lw 9 4 3,ca 10 116 [S 9],nt 11 10,mv 12 11,(N (12,L),.load 13 (S 5) T 2),(N (12,L),.mv 14 (S 2)),(N (12,L),.load 15 (S 7) T 6),(N (12,L),.call 16 281 [(S 13),(S 14),(S 15)]),(N (12,L),.un 17 .not (S 16)),po 18 12 17]) (.cond (S 18) (.seq (.reg [(O,.mv 8 KN)]) .ret) .skip)) (.seq (.drw [(N [23],lw 19 4 3),o0 (lw 20 5 2),o0 (mv 21 2),o0 (lw 22 7 6),o0 (ca 23 206 [S 20,S 21,S 22]),o0 (ca 24 329 [S 19,S 23]),(N [23,24],lw 25 5 2),(N [23,24],mv 26 2),(N [23,24],lw 27 7 6),o0 (ca 28 330 [S 25,S 26,S 27]),o0 (ca 29 328 [S 24,S 28]),o0 (mv 8 29)]) .ret)))
theorem F7a:A5 Z 273=N (cc297.strip,[8],30):=by kernel_rfl
theorem B8m(a0:Xf)(a1:X5)(a2:U)(a3:Xb)(r:(P X9))(h:A24 a0 a1 a2 a3=N r):FC Z 273 [.ag (zJ a0),.ag (X5.row a1),.sc (.int .i64 a2),.ag (zC a3)] [.sc (.o 2 (Y X9.row r))]:=by
 unfold A24 at h
 refine C4 A7 F7a X ?_
 simp only[cc297,C,E,F,G,H,J]
 try simp only[C,E,F,G,H,J]
 refine B2 X X X ?_
 try simp only[C,E,F,G,H,J]
 refine B2 X X X ?_
 try simp only[C,E,F,G,H,J]
 refine B2 X X X ?_
 obtain⟨r1,h1,h⟩:=ob h
 try simp only[C,E,F,G,H,J]
 refine A2 (A5j _ _ h1) X X (uf X) ?_
 rcases ic h with ⟨h2,h⟩|⟨h2,h⟩
 ·obtain⟨r3,h3,h⟩:=ob h
  try simp only[h2,C,E,F,G,H,J]
  refine A2 (B1m _ _ _ _ h3) X X (uf X) ?_
  rcases ic h with ⟨h4,h⟩|⟨h4,h⟩
  ·try simp only[h2,h4,C,E,F,G,H,J]
   refine C3 X ?_
   obtain⟨r5,h5,h⟩:=ob h
   try simp only[h2,h4,C,E,F,G,H,J]
   refine F9 (C04 _ _ _ _ h5) X X (uf X) ?_
   obtain⟨r6,h6,h⟩:=ob h
   try simp only[h2,h4,C,E,F,G,H,J]
   refine F9 (B8g _ _ _ h6) X X (uf X) ?_
   obtain⟨r7,h7,h⟩:=ob h
   try simp only[h2,h4,C,E,F,G,H,J]
   refine F9 (B85 _ _ _ _ h7) X X (uf X) ?_
   obtain⟨r9,h9,h⟩:=ob h
   try simp only[h2,h4,C,E,F,G,H,J]
   refine B9i (B4g _ _ _ h9) (by first | rfl | kernel_rfl) (A7z X ⟨A7y,⟨⟩⟩) X (uf X) ?_
   try simp only[h2,h4,C,E,F,G,H,J]
   cases h
   trivial
  ·try simp only[h2,h4,C,E,F,G,H,J]
   cases h
   trivial
 ·try simp only[h2,C,E,F,G,H,J]
  cases h
  trivial
/- 195:impl_voyageOf -/
def C5y:X2:= .seq (.reg [(O,.keep [3,4,5,6,7,10,34] [5,6,7,10] [])]) (.cond (S 34) (.seq (.reg [(O,.build 35 [.nil,.nil,.nil] []),so 10 35 3,(O,.mv 11 (KB L))]) .ret) .skip)
def C60:X2:= .seq (.reg [(O,.keep [4,5,6,7,10,12,43,44,45] [5,6,7,10,12] [140288,140352,140416])]) (.seq (.reg [bn 46 .lss 45 44]) (.seq (.cond (S 46) .skip (.exit 0)) (.seq (.block 1 (.seq (.reg [mv 47 45,ia 48 43 45 1,ld 49 48,mv 13 47,mv 14 49]) (.seq (.drw [(N [58],fa 50 12 0),(N [58],ld 51 50),o0 (fa 52 6 0),o0 (ld 53 52),o0 (mv 54 14),o0 (ia 55 53 54 2),o0 (fa 56 55 1),o0 (ld 57 56),o0 (O,.bslice 58 1 [.bool L] 1 [(0,(S 57))]),(O,(O,.app 59 1 1 (S 51) (S 58))),o0 (fa 60 12 0),(O,so 60 59 1)]) (.seq (.drw [(N [72,73],fa 61 12 1),(N [72,73],ld 62 61),o0 (lw 63 7 6),o0 (fa 64 6 1),o0 (ld 65 64),o0 (mv 66 4),o0 (mv 67 13),o0 (ia 68 66 67 1),o0 (ld 69 68),o0 (ia 70 65 69 5),o0 (lw 71 70 5),o0 (ca 72 272 [S 63,S 71]),o0 (O,.bslice 73 1 [.int .i64 0] 1 [(0,(S 72))]),(O,(O,.app 74 1 8 (S 62) (S 73))),o0 (fa 75 12 1),(O,so 75 74 1)]) (.drw [(N [85,86],fa 76 12 2),(N [85,86],ld 77 76),o0 (lw 78 5 3),o0 (lw 79 6 2),o0 (mv 80 4),o0 (mv 81 13),o0 (ia 82 80 81 1),o0 (ld 83 82),o0 (lw 84 7 6),o0 (ca 85 273 [S 78,S 79,S 83,S 84]),o0 (O,.bslice 86 1 [.sl []] 1 [(0,(S 85))]),(O,(O,.app 87 1 24 (S 77) (S 86))),o0 (fa 88 12 2),(O,so 88 87 1)]))))) (.reg [(O,.bin 89 .add (S 45) (K 1)),mv 45 89]))))
def D3g:X2:=(.seq (.reg [lw 90 12 3,so 10 90 3,(O,.mv 11 (KB T))]) .ret)
def D10:X2:=(.seq (.reg [(O,.build 36 [.nil,.nil,.nil] []),(O,.alloc 12 [.nil,.nil,.nil]),so 12 36 3,(O,.ownb 12 0 140288 1),(O,.ownb 12 1 140352 1),(O,.ownb 12 2 140416 1)]) (.seq (.seq (.reg [lw 37 6 2,mv 38 3,mv 39 4,ca 40 194 [S 37,S 38,S 39],mv 41 4,ln 42 41,(O,.frz 2560),(O,.slc 43 1 (S 40) O (N (S 42)) O),ln 44 43,(O,.mv 45 (K 0))]) (.block 0 (.loop C60))) D3g))
def cc303:X2:=(.seq (.reg [bo 5 0,bo 6 1,bo 7 2,(O,.alloc 10 [.nil,.nil,.nil]),(O,.mv 11 (KB L))]) (.seq (.seq (.reg [lw 15 5 3,ca 16 116 [S 15],nt 17 16,mv 18 17,(N (18,L),.load 19 (S 7) T 6),(N (18,L),.call 20 266 [(S 19)]),(N (18,L),.un 21 .not (S 20)),po 22 18 21,mv 23 22,(N (23,L),.load 24 (S 6) T 2),(N (23,L),.mv 25 (S 3)),(N (23,L),.mv 26 (S 4)),(N (23,L),.call 27 271 [(S 24),(S 25),(S 26)]),(N (23,L),.un 28 .not (S 27)),po 29 23 28,mv 30 29,(N (30,L),.mv 31 (S 4)),(N (30,L),.len 32 (S 31)),(N (30,L),.bin 33 .eql (S 32) (K 0)),po 34 30 33]) C5y) D10))
theorem F1z(a4:P U)(a0:Xf)(a1:X5)(a2:Xb)(y11:P U)(y12:U):∀(n:W) (v13:U) (v14:P V) (v15:P U) (v16:P (P X9)) (r:Xk × V),W5 a4 a0 a1 a2 y11 y12 n v13 v14 v15 v16=N r→∀σ:St,σ.kept [4,5,6,7,10,12,43,44,45] [5,6,7,10,12] [140288,140352,140416]=⟨[(4,vc (aL (Y rI a4))),(5,vc (.pb 5 0)),(6,vc (.pb 6 0)),(7,vc (.pb 7 0)),(10,vc (.pb 10 0)),(12,vc (.pb 12 0)),(43,vc (aL (Y rI y11))),(44,vc (aI y12)),(45,vc (aI v13))],[(5,(dm a0.row)),(6,(dm a1.row)),(7,(dm a2.row)),(10,[.nil,.nil,.nil]),(12,[.own 140288,.own 140352,.own 140416])],[(140288,1,Y rB v14),(140352,1,Y rI v15),(140416,1,Y (rL X9.row) v16)]⟩→go Z (.code (.loop C60):: [.blk 0,.code D3g]) (Ret [.c 10 T 3,11] [.ag [.o 1 (Y rB r.1.waits),.o 1 (Y rI r.1.minutes),.o 1 (Y (rL X9.row) r.1.sure)],.sc (.v (.bool r.2))]) .normal (N σ):=by
 intro n
 induction n with
 | zero=>intro _ _ _ _ r h; cases h
 | succ n ih=>
  intro v13 v14 v15 v16 r h σ hσ
  rw[W5] at h
  refine B0 ?_
  rcases ic h with ⟨h17,h⟩|⟨h17,h⟩
  ·obtain⟨x18,h18,h⟩:=ob h
   try simp only[hσ,h17,h18,C60,C,E,F,G,H,J]
   refine C3 X ?_
   obtain⟨x19,h19,h⟩:=ob h
   try simp only[h17,h18,h19,C,E,F,G,H,J]
   refine C7 (es:=Y rB ([x19.Wait]:P V)) X X ?_
   obtain⟨h20,h⟩:=D3 h
   try simp only[h17,h18,h19,h20,C,E,F,G,H,J]
   refine C3 X ?_
   try simp only[h17,h18,h19,h20,C,E,F,G,H,J]
   refine C3 X ?_
   try simp only[h17,h18,h19,h20,C,E,F,G,H,J]
   refine C3 X ?_
   obtain⟨x21,h21,h⟩:=ob h
   obtain⟨x22,h22,h⟩:=ob h
   obtain⟨r23,h23,h⟩:=ob h
   try simp only[h17,h18,h19,h20,h21,h22,C,E,F,G,H,J]
   refine F9 (A1t _ _ _ h23) X X (uf X) ?_
   try simp only[h17,h18,h19,h20,h21,h22,C,E,F,G,H,J]
   refine C7 (es:=Y rI ([r23]:P U)) X X ?_
   obtain⟨h24,h⟩:=D3 h
   try simp only[h17,h18,h19,h20,h21,h22,h24,C,E,F,G,H,J]
   refine C3 X ?_
   try simp only[h17,h18,h19,h20,h21,h22,h24,C,E,F,G,H,J]
   refine C3 X ?_
   try simp only[h17,h18,h19,h20,h21,h22,h24,C,E,F,G,H,J]
   refine C3 X ?_
   obtain⟨r25,h25,h⟩:=ob h
   try simp only[h17,h18,h19,h20,h21,h22,h24,C,E,F,G,H,J]
   refine F9 (FC.asV (rs':= [.sc (.v (.sl (Y X9.row r25)))]) (B8m _ _ _ _ _ h25) X) X X (uf X) ?_
   try simp only[h17,h18,h19,h20,h21,h22,h24,C,E,F,G,H,J]
   refine C7 (es:=Y (rL X9.row) ([r25]:P (P X9))) X X ?_
   obtain⟨h26,h⟩:=D3 h
   try simp only[h17,h18,h19,h20,h21,h22,h24,h26,C,E,F,G,H,J]
   refine C3 X ?_
   try simp only[h17,h18,h19,h20,h21,h22,h24,h26,C,E,F,G,H,J]
   refine C3 X ?_
   try simp only[h17,h18,h19,h20,h21,h22,h24,h26,C,E,F,G,H,J]
   refine ih _ _ _ _ _ h _ ?_
   try simp only[h17,h18,h19,h20,h21,h22,h24,h26,C,E,F,G,H,J,I]
  ·try simp only[hσ,h17,C60,D3g,C,E,F,G,H,J]
   cases h
   try simp only[Q8,C,E,F,G,H,J]
   trivial
theorem C5d(a3:U)(a4:P U)(a0:Xf)(a1:X5)(a2:Xb)(v7:V)(r:Xk × V)(h:W8 a3 a4 a0 a1 a2 v7=N r)(σ:St)(hσ:σ.kept [3,4,5,6,7,10,34] [5,6,7,10] []=⟨[(3,vc (aI a3)),(4,vc (aL (Y rI a4))),(5,vc (.pb 5 0)),(6,vc (.pb 6 0)),(7,vc (.pb 7 0)),(10,vc (.pb 10 0)),(34,vc (aB v7))],[(5,(dm a0.row)),(6,(dm a1.row)),(7,(dm a2.row)),(10,[.nil,.nil,.nil])],[]⟩):go Z (.code C5y:: [.code D10]) (Ret [.c 10 T 3,11] [.ag [.o 1 (Y rB r.1.waits),.o 1 (Y rI r.1.minutes),.o 1 (Y (rL X9.row) r.1.sure)],.sc (.v (.bool r.2))]) .normal (N σ):=by
 unfold W8 at h
 rcases ic h with ⟨h8,h⟩|⟨h8,h⟩
 ·try simp only[hσ,h8,C5y,C,E,F,G,H,J]
  cases h
  try simp only[Q8,C,E,F,G,H,J]
  trivial
 ·try simp only[hσ,h8,C5y,D10,C,E,F,G,H,J]
  refine D7 X X ?_
  try simp only[h8,C,E,F,G,H,J]
  refine A47 (cs':= [.own 140288,.nil,.nil]) X X X X ?_
  try simp only[h8,C,E,F,G,H,J]
  refine A47 (cs':= [.own 140288,.own 140352,.nil]) X X X X ?_
  try simp only[h8,C,E,F,G,H,J]
  refine A47 (cs':= [.own 140288,.own 140352,.own 140416]) X X X X ?_
  obtain⟨r9,h9,h⟩:=ob h
  try simp only[h8,C,E,F,G,H,J]
  refine A2 (A64 _ _ _ _ h9) X X (uf X) ?_
  try simp only[h8,C,E,F,G,H,J]
  refine O5 X ?_
  obtain⟨p10,h10,h⟩:=ob h
  try simp only[h8,h10,C,E,F,G,H,J]
  refine F1z _ _ _ _ _ _ _ _ _ _ _ _ h _ ?_
  try simp only[h8,h10,C,E,F,G,H,J,I]
theorem F5p:A5 Z 195=N (cc303.strip,[.c 10 T 3,11],91):=by kernel_rfl
theorem C1q(a0:Xf)(a1:X5)(a2:Xb)(a3:U)(a4:P U)(r:Xk × V)(h:A41 a0 a1 a2 a3 a4=N r):FC Z 195 [.ag (zJ a0),.ag (X5.row a1),.ag (zC a2),.sc (.int .i64 a3),.sc (.sl (Y rI a4))] [.ag [.o 1 (Y rB r.1.waits),.o 1 (Y rI r.1.minutes),.o 1 (Y (rL X9.row) r.1.sure)],.sc (.v (.bool r.2))]:=by
 unfold A41 at h
 refine C4 A7 F5p X ?_
 simp only[cc303,C,E,F,G,H,J]
 try simp only[C,E,F,G,H,J]
 refine B2 X X X ?_
 try simp only[C,E,F,G,H,J]
 refine B2 X X X ?_
 try simp only[C,E,F,G,H,J]
 refine B2 X X X ?_
 try simp only[C,E,F,G,H,J]
 refine D7 X X ?_
 obtain⟨r1,h1,h⟩:=ob h
 try simp only[C,E,F,G,H,J]
 refine A2 (A5j _ _ h1) X X (uf X) ?_
 rcases ic h with ⟨h2,h⟩|⟨h2,h⟩
 ·obtain⟨r3,h3,h⟩:=ob h
  try simp only[h2,C,E,F,G,H,J]
  refine A2 (A4i _ _ h3) X X (uf X) ?_
  rcases ic h with ⟨h4,h⟩|⟨h4,h⟩
  ·obtain⟨r5,h5,h⟩:=ob h
   try simp only[h2,h4,C,E,F,G,H,J]
   refine A2 (B3t _ _ _ _ h5) X X (uf X) ?_
   rcases ic h with ⟨h6,h⟩|⟨h6,h⟩
   ·try simp only[h2,h4,h6,C,E,F,G,H,J]
    refine C5d _ _ _ _ _ _ _ h _ ?_
    try simp only[h2,h4,h6,C,E,F,G,H,J,I]
   ·try simp only[h2,h4,h6,C,E,F,G,H,J]
    refine C5d _ _ _ _ _ _ _ h _ ?_
    try simp only[h2,h4,h6,C,E,F,G,H,J,I]
  ·try simp only[h2,h4,C,E,F,G,H,J]
   refine C5d _ _ _ _ _ _ _ h _ ?_
   try simp only[h2,h4,C,E,F,G,H,J,I]
 ·try simp only[h2,C,E,F,G,H,J]
  refine C5d _ _ _ _ _ _ _ h _ ?_
  try simp only[h2,C,E,F,G,H,J,I]
/- 103:impl_callVoyage -/
def C6d:X2:= .seq (.reg [(O,.keep [2,3,4,6,28] [3,4,6] [])]) (.cond (S 28) (.seq (.reg [(O,.build 29 [.nil,.nil,.nil] []),so 6 29 3,(O,.mv 7 (KB L))]) .ret) .skip)
def D4m:X2:=(.seq (.drw [o0 (fa 30 3 0),o0 (lw 31 30 3),o0 (fa 32 3 3),o0 (lw 33 32 2),o0 (fa 34 3 5),o0 (ld 35 34),o0 (fa 36 4 0),o0 (ld 37 36),o0 (ia 38 35 37 6),o0 (lw 39 38 6),o0 (fa 40 4 1),o0 (ld 41 40),o0 (mv 42 2),o0 (ca 43 195 [S 31,S 33,S 39,S 41,S 42]),o0 (xt 44 43 0),o0 (xt 45 43 1),(O,so 6 44 3),o0 (mv 7 45)]) .ret)
def cc309:X2:=(.seq (.reg [bo 3 0,bo 4 1,(O,.alloc 6 [.nil,.nil,.nil]),(O,.mv 7 (KB L))]) (.seq (.reg [fa 9 3 3,lw 10 9 2,fa 11 4 1,ld 12 11,mv 13 2,ca 14 194 [S 10,S 12,S 13],mv 8 14]) (.seq (.seq (.drw [o0 (mv 15 8),o0 (ln 16 15),o0 (O,.bin 17 .eql (S 16) (K 0)),o0 (mv 18 17),o0 (N (18,L),.mv 19 (S 8)),o0 (N (18,L),.mv 20 (S 8)),o0 (N (18,L),.len 21 (S 20)),o0 (N (18,L),.bin 22 .sub (S 21) (K 1)),o0 (N (18,L),.iaddr 23 (S 19) (S 22) 1),o0 (N (18,L),.load 24 (S 23) L 1),o0 (N (18,L),.faddr 25 (S 4) 2),o0 (N (18,L),.load 26 (S 25) L 1),o0 (N (18,L),.bin 27 .neq (S 24) (S 26)),o0 (po 28 18 27)]) C6d) D4m)))
theorem E2r(a2:P U)(a0:X6)(a1:X8)(v4:V)(r:Xk × V)(h:Y8 a2 a0 a1 v4=N r)(σ:St)(hσ:σ.kept [2,3,4,6,28] [3,4,6] []=⟨[(2,vc (aL (Y rI a2))),(3,vc (.pb 3 0)),(4,vc (.pb 4 0)),(6,vc (.pb 6 0)),(28,vc (aB v4))],[(3,(dm a0.row)),(4,(dm a1.row)),(6,[.nil,.nil,.nil])],[]⟩):go Z (.code C6d:: [.code D4m]) (Ret [.c 6 T 3,7] [.ag [.o 1 (Y rB r.1.waits),.o 1 (Y rI r.1.minutes),.o 1 (Y (rL X9.row) r.1.sure)],.sc (.v (.bool r.2))]) .normal (N σ):=by
 unfold Y8 at h
 rcases ic h with ⟨h5,h⟩|⟨h5,h⟩
 ·try simp only[hσ,h5,C6d,C,E,F,G,H,J]
  cases h
  try simp only[Q8,C,E,F,G,H,J]
  trivial
 ·try simp only[hσ,h5,C6d,D4m,C,E,F,G,H,J]
  refine C3 X ?_
  obtain⟨x6,h6,h⟩:=ob h
  obtain⟨r7,h7,h⟩:=ob h
  try simp only[h5,h6,C,E,F,G,H,J]
  refine F9 (C1q _ _ _ _ _ _ h7) X X (uf X) ?_
  try simp only[h5,h6,C,E,F,G,H,J]
  refine C3 X ?_
  try simp only[h5,h6,C,E,F,G,H,J]
  cases h
  try simp only[Q8,C,E,F,G,H,J]
  trivial
theorem F23:A5 Z 103=N (cc309.strip,[.c 6 T 3,7],46):=by kernel_rfl
theorem B0o(a0:X6)(a1:X8)(a2:P U)(r:Xk × V)(h:S0 a0 a1 a2=N r):FC Z 103 [.ag (X6.row a0),.ag (X8.row a1),.sc (.sl (Y rI a2))] [.ag [.o 1 (Y rB r.1.waits),.o 1 (Y rI r.1.minutes),.o 1 (Y (rL X9.row) r.1.sure)],.sc (.v (.bool r.2))]:=by
 unfold S0 at h
 refine C4 A7 F23 X ?_
 simp only[cc309,C,E,F,G,H,J]
 try simp only[C,E,F,G,H,J]
 refine B2 X X X ?_
 try simp only[C,E,F,G,H,J]
 refine B2 X X X ?_
 try simp only[C,E,F,G,H,J]
 refine D7 X X ?_
 obtain⟨r1,h1,h⟩:=ob h
 try simp only[C,E,F,G,H,J]
 refine A2 (A64 _ _ _ _ h1) X X (uf X) ?_
 try simp only[C,E,F,G,H,J]
 refine C3 X ?_
 rcases ic h with ⟨h2,h⟩|⟨h2,h⟩
 ·try simp only[h2,C,E,F,G,H,J]
  refine E2r _ _ _ _ _ h _ ?_
  try simp only[h2,C,E,F,G,H,J,I]
 ·obtain⟨x3,h3,h⟩:=ob h
  have h3n:=N4 h3
  try simp only[h2,h3,h3n,C,E,F,G,H,J]
  refine E2r _ _ _ _ _ h _ ?_
  try simp only[h2,h3,h3n,C,E,F,G,H,J,I]
/- 274:impl_HasMinute -/
def C43:X2:= .seq (.reg [(O,.keep [1,7,8,9] [] [])]) (.seq (.reg [bn 10 .lss 9 8]) (.seq (.cond (S 10) .skip (.exit 0)) (.seq (.block 1 (.seq (.reg [ia 11 7 9 2,lw 12 11 2,(O,.alloc 6 [aI 0,aI 0]),so 6 12 2]) (.seq (.reg [mv 13 1,fa 14 6 0,ld 15 14,fa 16 6 1,ld 17 16,ca 18 114 [S 13,S 15,S 17]]) (.cond (S 18) (.seq (.reg [(O,.mv 4 (KB T))]) .ret) .skip)))) (.reg [(O,.bin 19 .add (S 9) (K 1)),mv 9 19]))))
def D46:X2:=(.seq (.reg [(O,.mv 4 (KB L))]) .ret)
def cc314:X2:=(.seq (.reg [(O,.mv 4 (KB L))]) (.seq (.seq (.reg [mv 7 0,ln 8 7,(O,.mv 9 (K 0))]) (.block 0 (.loop C43))) D46))
theorem F5c(a1:U)(a0:P X9):∀(n:W) (v1:U) (r:V),U7 a1 a0 n v1=N r→∀σ:St,σ.kept [1,7,8,9] [] []=⟨[(1,vc (aI a1)),(7,vc (aL (Y X9.row a0))),(8,vc (aI (a0.length:U))),(9,vc (aI v1))],[],[]⟩→go Z (.code (.loop C43):: [.blk 0,.code D46]) (Ret [4] [.sc (.v (.bool r))]) .normal (N σ):=by
 intro n
 induction n with
 | zero=>intro _ r h; cases h
 | succ n ih=>
  intro v1 r h σ hσ
  rw[U7] at h
  refine B0 ?_
  rcases ic h with ⟨h2,h⟩|⟨h2,h⟩
  ·obtain⟨x3,h3,h⟩:=ob h
   try simp only[hσ,h2,h3,C43,C,E,F,G,H,J]
   refine D7 X X ?_
   obtain⟨r4,h4,h⟩:=ob h
   try simp only[h2,h3,C,E,F,G,H,J]
   refine A2 (G3 _ _ _ _ h4) X X (uf X) ?_
   rcases ic h with ⟨h5,h⟩|⟨h5,h⟩
   ·try simp only[h2,h3,h5,C,E,F,G,H,J]
    cases h
    trivial
   ·try simp only[h2,h3,h5,C,E,F,G,H,J]
    refine ih _ _ h _ ?_
    try simp only[h2,h3,h5,C,E,F,G,H,J,I]
  ·try simp only[hσ,h2,C43,D46,C,E,F,G,H,J]
   cases h
   trivial
theorem F7q:A5 Z 274=N (cc314.strip,[4],20):=by kernel_rfl
theorem B9p(a0:P X9)(a1:U)(r:V)(h:A54 a0 a1=N r):FC Z 274 [.sc (.sl (Y X9.row a0)),.sc (.int .i64 a1)] [.sc (.v (.bool r))]:=by
 unfold A54 at h
 refine C4 A7 F7q X ?_
 simp only[cc314,C,E,F,G,H,J]
 try simp only[C,E,F,G,H,J]
 refine F5c _ _ _ _ _ h _ ?_
 try simp only[C,E,F,G,H,J,I]
/- 275:impl_NextMinute -/
def C5k:X2:= .seq (.reg [(O,.keep [1,10,11,12] [] [])]) (.seq (.reg [bn 13 .lss 12 11]) (.seq (.cond (S 13) .skip (.exit 0)) (.seq (.block 1 (.seq (.reg [ia 14 10 12 2,lw 15 14 2,(O,.alloc 6 [aI 0,aI 0]),so 6 15 2]) (.seq (.reg [fa 16 6 1,ld 17 16,mv 18 1,bn 19 .geq 17 18]) (.cond (S 19) (.seq (.reg [fa 20 6 0,ld 21 20,mv 22 1,(O,.mm 23 T (S 21) (S 22)),mv 4 23]) .ret) .skip)))) (.reg [(O,.bin 24 .add (S 12) (K 1)),mv 12 24]))))
def D2w:X2:=(.seq (.reg [(O,.mv 4 (K (-1)))]) .ret)
def cc319:X2:=(.seq (.reg [(O,.mv 4 (K 0))]) (.seq (.seq (.reg [mv 7 0,ca 8 331 [S 7],nt 9 8]) (.cond (S 9) (.seq (.reg [(O,.mv 4 (K (-1)))]) .ret) .skip)) (.seq (.seq (.reg [mv 10 0,ln 11 10,(O,.mv 12 (K 0))]) (.block 0 (.loop C5k))) D2w)))
theorem F64(a1:U)(a0:P X9):∀(n:W) (v3 r:U),T2 a1 a0 n v3=N r→∀σ:St,σ.kept [1,10,11,12] [] []=⟨[(1,vc (aI a1)),(10,vc (aL (Y X9.row a0))),(11,vc (aI (a0.length:U))),(12,vc (aI v3))],[],[]⟩→go Z (.code (.loop C5k):: [.blk 0,.code D2w]) (Ret [4] [.sc (.v (.int .i64 r))]) .normal (N σ):=by
 intro n
 induction n with
 | zero=>intro _ r h; cases h
 | succ n ih=>
  intro v3 r h σ hσ
  rw[T2] at h
  refine B0 ?_
  rcases ic h with ⟨h4,h⟩|⟨h4,h⟩
  ·obtain⟨x5,h5,h⟩:=ob h
   try simp only[hσ,h4,h5,C5k,C,E,F,G,H,J]
   refine D7 X X ?_
   rcases ic h with ⟨h6,h⟩|⟨h6,h⟩
   ·try simp only[h4,h5,h6,C,E,F,G,H,J]
    cases h
    trivial
   ·try simp only[h4,h5,h6,C,E,F,G,H,J]
    refine ih _ _ h _ ?_
    try simp only[h4,h5,h6,C,E,F,G,H,J,I]
  ·try simp only[hσ,h4,C5k,D2w,C,E,F,G,H,J]
   cases h
   trivial
theorem F5w:A5 Z 275=N (cc319.strip,[4],25):=by kernel_rfl
theorem B8d(a0:P X9)(a1 r:U)(h:A21 a0 a1=N r):FC Z 275 [.sc (.sl (Y X9.row a0)),.sc (.int .i64 a1)] [.sc (.v (.int .i64 r))]:=by
 unfold A21 at h
 refine C4 A7 F5w X ?_
 simp only[cc319,C,E,F,G,H,J]
 obtain⟨r1,h1,h⟩:=ob h
 try simp only[C,E,F,G,H,J]
 refine A2 (B1t _ _ h1) X X (uf X) ?_
 rcases ic h with ⟨h2,h⟩|⟨h2,h⟩
 ·try simp only[h2,C,E,F,G,H,J]
  refine F64 _ _ _ _ _ h _ ?_
  try simp only[h2,C,E,F,G,H,J,I]
 ·try simp only[h2,C,E,F,G,H,J]
  cases h
  trivial
/- 196:impl_voyage_sail -/
def C40:X2:= .seq (.reg [(O,.keep [2,6,7,9,59] [2] [1152])]) (.cond (S 59) (.seq (.reg [(O,.mv 4 KN),(O,.mv 5 (KB L))]) .ret) .skip)
def D3d:X2:=(.reg [mv 60 6,mv 61 9,(O,.bslice 62 1 [.int .i64 0] 1 [(0,(S 61))]),(O,.app 63 1 8 (S 60) (S 62)),mv 6 63])
def D2m:X2:=(.reg [mv 24 7,(O,.bin 25 .add (S 24) (K 1)),mv 7 25])
def B7k:X2:= .seq (.reg [(O,.keep [2,6,7] [2] [1152])]) (.seq (.seq (.reg [mv 19 7,fa 20 2 2,ld 21 20,ln 22 21,bn 23 .lss 19 22]) (.cond (S 23) .skip (.exit 0))) (.seq (.block 1 (.seq (.drw [o0 (mv 26 6),o0 (mv 27 7),o0 (O,.bin 28 .sub (S 27) (K 1)),o0 (ia 29 26 28 1),o0 (ld 30 29),o0 (fa 31 2 1),o0 (ld 32 31),o0 (mv 33 7),o0 (O,.bin 34 .sub (S 33) (K 1)),o0 (ia 35 32 34 1),o0 (ld 36 35),o0 (bn 37 .add 30 36),o0 (mv 8 37)]) (.seq (.reg [fa 38 2 2,ld 39 38,mv 40 7,ia 41 39 40 1,ld 42 41,mv 43 8,ca 44 275 [S 42,S 43],mv 9 44]) (.seq (.seq (.reg [mv 45 9,(O,.bin 46 .lss (S 45) (K 0)),mv 47 46,(N (47,L),.mv 48 (S 9)),(N (47,L),.mv 49 (S 8)),(N (47,L),.bin 50 .gtr (S 48) (S 49)),(N (47,L),.mv 51 (S 50)),(N (51,T),.faddr 52 (S 2) 0),(N (51,T),.load 53 (S 52) L 1),(N (51,T),.mv 54 (S 7)),(N (51,T),.iaddr 55 (S 53) (S 54) 1),(N (51,T),.load 56 (S 55) L 1),(N (51,T),.un 57 .not (S 56)),(N (47,L),.pick 58 (S 51) (S 57) (KB L)),po 59 47 58]) C40) D3d)))) D2m))
def C0o:X2:=(.seq (.reg [mv 64 6,mv 4 64,(O,.mv 5 (KB T))]) .ret)
def cc327:X2:=(.seq (.reg [bo 2 0,(O,.mv 4 KN),(O,.mv 5 (KB L))]) (.seq (.seq (.reg [fa 10 2 2,ld 11 10,(O,.iaddr 12 (S 11) (K 0) 1),ld 13 12,mv 14 1,ca 15 274 [S 13,S 14],nt 16 15]) (.cond (S 16) (.seq (.reg [(O,.mv 4 KN),(O,.mv 5 (KB L))]) .ret) .skip)) (.seq (.reg [mv 17 1,(O,.bslice 18 1 [.int .i64 0] 1 [(0,(S 17))]),mv 6 18]) (.seq (.seq (.reg [(O,.mv 7 (K 1))]) (.block 0 (.loop B7k))) C0o))))
theorem D40(v4 r10:U)(a0:Xk)(v5:P U)(A29:U→(P U)→Q ((P U) × V))(B3j:∀(v4:U) (v5:P U) zr,A29 v4 v5=N zr→∀σ:St,σ.kept [2,6,7] [2] [1152]=⟨[(2,vc (.pb 2 0)),(6,vc (.own 1152)),(7,vc (aI v4))],[(2,(dm a0.row))],[(1152,1,Y rI v5)]⟩→go Z (.code (.loop B7k):: [.blk 0,.code C0o]) (Ret [4,5] [.sc (.o 1 (Y rI zr.1)),.sc (.v (.bool zr.2))]) .normal (N σ))(v14:V)(r:(P U) × V)(h:K9 v4 r10 a0 v5 A29 v14=N r)(σ:St)(hσ:σ.kept [2,6,7,9,59] [2] [1152]=⟨[(2,vc (.pb 2 0)),(6,vc (.own 1152)),(7,vc (aI v4)),(9,vc (aI r10)),(59,vc (aB v14))],[(2,(dm a0.row))],[(1152,1,Y rI v5)]⟩):go Z (.code C40:: [.code D3d,.blk 1,.code D2m,.code (.loop B7k),.blk 0,.code C0o]) (Ret [4,5] [.sc (.o 1 (Y rI r.1)),.sc (.v (.bool r.2))]) .normal (N σ):=by
 unfold K9 at h
 rcases ic h with ⟨h15,h⟩|⟨h15,h⟩
 ·try simp only[hσ,h15,C40,C,E,F,G,H,J]
  cases h
  trivial
 ·try simp only[hσ,h15,C40,D3d,C,E,F,G,H,J]
  refine C7 (es:=Y rI ([r10]:P U)) X X ?_
  obtain⟨h16,h⟩:=D3 h
  try simp only[h15,h16,D2m,C,E,F,G,H,J]
  refine B3j _ _ _ h _ ?_
  try simp only[h15,h16,C,E,F,G,H,J,I]
theorem F6m(a0:Xk):∀(n:W) (v4:U) (v5:P U) (r:(P U) × V),F5 a0 n v4 v5=N r→∀σ:St,σ.kept [2,6,7] [2] [1152]=⟨[(2,vc (.pb 2 0)),(6,vc (.own 1152)),(7,vc (aI v4))],[(2,(dm a0.row))],[(1152,1,Y rI v5)]⟩→go Z (.code (.loop B7k):: [.blk 0,.code C0o]) (Ret [4,5] [.sc (.o 1 (Y rI r.1)),.sc (.v (.bool r.2))]) .normal (N σ):=by
 intro n
 induction n with
 | zero=>intro _ _ r h; cases h
 | succ n ih=>
  intro v4 v5 r h σ hσ
  rw[F5] at h
  refine B0 ?_
  rcases ic h with ⟨h6,h⟩|⟨h6,h⟩
  ·try simp only[hσ,h6,B7k,C,E,F,G,H,J]
   refine C3 X ?_
   obtain⟨x7,h7,h⟩:=ob h
   have h7n:=N4 h7
   obtain⟨x8,h8,h⟩:=ob h
   obtain⟨x9,h9,h⟩:=ob h
   obtain⟨r10,h10,h⟩:=ob h
   try simp only[h6,h7,h7n,h8,h9,C,E,F,G,H,J]
   refine A2 (B8d _ _ _ h10) X X (uf X) ?_
   rcases ic h with ⟨h11,h⟩|⟨h11,h⟩
   ·try simp only[h6,h7,h7n,h8,h9,h11,C,E,F,G,H,J]
    refine D40 _ _ _ _ (F5 a0 n) ih _ _ h _ ?_
    try simp only[h6,h7,h7n,h8,h9,h11,C,E,F,G,H,J,I]
   ·rcases ic h with ⟨h12,h⟩|⟨h12,h⟩
    ·obtain⟨x13,h13,h⟩:=ob h
     try simp only[h6,h7,h7n,h8,h9,h11,h12,h13,C,E,F,G,H,J]
     refine D40 _ _ _ _ (F5 a0 n) ih _ _ h _ ?_
     try simp only[h6,h7,h7n,h8,h9,h11,h12,h13,C,E,F,G,H,J,I]
    ·try simp only[h6,h7,h7n,h8,h9,h11,h12,C,E,F,G,H,J]
     refine D40 _ _ _ _ (F5 a0 n) ih _ _ h _ ?_
     try simp only[h6,h7,h7n,h8,h9,h11,h12,C,E,F,G,H,J,I]
  ·try simp only[hσ,h6,B7k,C0o,C,E,F,G,H,J]
   cases h
   trivial
theorem F2c:A5 Z 196=N (cc327.strip,[4,5],65):=by kernel_rfl
theorem B6h(a0:Xk)(a1:U)(r:(P U) × V)(h:A2c a0 a1=N r):FC Z 196 [.ag (Xk.row a0),.sc (.int .i64 a1)] [.sc (.o 1 (Y rI r.1)),.sc (.v (.bool r.2))]:=by
 unfold A2c at h
 refine C4 A7 F2c X ?_
 simp only[cc327,C,E,F,G,H,J]
 try simp only[C,E,F,G,H,J]
 refine B2 X X X ?_
 obtain⟨x1,h1,h⟩:=ob h
 obtain⟨r2,h2,h⟩:=ob h
 try simp only[h1,C,E,F,G,H,J]
 refine A2 (B9p _ _ _ h2) X X (uf X) ?_
 rcases ic h with ⟨h3,h⟩|⟨h3,h⟩
 ·try simp only[h1,h3,C,E,F,G,H,J]
  refine C7 (es:=Y rI ([a1]:P U)) X X ?_
  try simp only[h1,h3,C,E,F,G,H,J]
  refine F6m _ _ _ _ _ h _ ?_
  try simp only[h1,h3,C,E,F,G,H,J,I]
 ·try simp only[h1,h3,C,E,F,G,H,J]
  cases h
  trivial
/- 197:impl_PassagesOf -/
def C6o:X2:= .seq (.reg [(O,.keep [1,5,6,8,13,14,40,41,42] [6,8] [2432,2496])]) (.seq (.reg [bn 43 .lss 42 41]) (.seq (.cond (S 43) .skip (.exit 0)) (.seq (.block 1 (.seq (.reg [mv 44 42,ia 45 40 42 1,ld 46 45,mv 15 44,mv 16 46]) (.seq (.seq (.reg [mv 47 5,mv 48 15,ia 49 47 48 1,ld 50 49,ca 51 117 [S 50],nt 52 51]) (.cond (S 52) (.seq (.reg [(O,.mv 12 KN)]) .ret) .skip)) (.seq (.reg [fa 53 6 1,ld 54 53,mv 55 16,ia 56 54 55 5,lw 57 56 5,(O,.alloc 17 [aI 0,aI 0,aI 0,aI 0,aB L]),so 17 57 5]) (.drw [(N [78,81],mv 58 14),(N [78],mv 59 1),(N [78],mv 60 16),(N [78],mv 61 13),(N [78],mv 62 15),(N [78],ia 63 61 62 1),(N [78],ld 64 63),(N [78],fa 65 17 0),(N [78],ld 66 65),(N [78],bn 67 .eql 64 66),(N [78],mv 68 5),(N [78],mv 69 15),(N [78],ia 70 68 69 1),(N [78],ld 71 70),(N [78],mv 72 5),(N [78],mv 73 15),(N [78],ia 74 72 73 1),(N [78],ld 75 74),o0 (lw 76 8 6),o0 (lw 77 17 5),o0 (ca 78 272 [S 76,S 77]),o0 (bn 79 .add 75 78),o0 (O,.build 80 [aI 0,aI 0,aB L,aI 0,aI 0] [(0,1,(S 59)),(1,1,(S 60)),(2,1,(S 67)),(3,1,(S 71)),(4,1,(S 79))]),o0 (O,.bslice 81 5 [.int .i64 0,.int .i64 0,.bool L,.int .i64 0,.int .i64 0] 1 [(0,(S 80))]),(O,(O,.app 82 5 40 (S 58) (S 81))),o0 (mv 14 82)]))))) (.reg [(O,.bin 83 .add (S 42) (K 1)),mv 42 83]))))
def D43:X2:=(.seq (.reg [mv 84 14,mv 12 84]) .ret)
def cc333:X2:=(.seq (.reg [bo 6 0,bo 8 2,(O,.mv 12 KN)]) (.seq (.seq (.reg [lw 18 6 2,mv 19 3,mv 20 4,ca 21 271 [S 18,S 19,S 20],nt 22 21,mv 23 22,(N (23,L),.load 24 (S 8) T 6),(N (23,L),.call 25 266 [(S 24)]),(N (23,L),.un 26 .not (S 25)),po 27 23 26,mv 28 27,(N (28,L),.mv 29 (S 4)),(N (28,L),.len 30 (S 29)),(N (28,L),.mv 31 (S 5)),(N (28,L),.len 32 (S 31)),(N (28,L),.bin 33 .neq (S 30) (S 32)),po 34 28 33]) (.cond (S 34) (.seq (.reg [(O,.mv 12 KN)]) .ret) .skip)) (.seq (.reg [lw 35 6 2,mv 36 3,mv 37 4,ca 38 194 [S 35,S 36,S 37],mv 13 38]) (.seq (.reg [(O,.bslice 39 5 [.int .i64 0,.int .i64 0,.bool L,.int .i64 0,.int .i64 0] 0 []),mv 14 39]) (.seq (.seq (.reg [mv 40 4,ln 41 40,(O,.mv 42 (K 0))]) (.block 0 (.loop C6o))) D43)))))
theorem F1k(a1:U)(a5 a4:P U)(a0:X5)(a2:Xb)(r6:(P U)):∀(n:W) (v7:U) (v8:P X4) (r:(P X4)),T0 a1 a5 a4 a0 a2 r6 n v7 v8=N r→∀σ:St,σ.kept [1,5,6,8,13,14,40,41,42] [6,8] [2432,2496]=⟨[(1,vc (aI a1)),(5,vc (aL (Y rI a5))),(6,vc (.pb 6 0)),(8,vc (.pb 8 0)),(13,vc (.own 2432)),(14,vc (.own 2496)),(40,vc (aL (Y rI a4))),(41,vc (aI (a4.length:U))),(42,vc (aI v7))],[(6,(dm a0.row)),(8,(dm a2.row))],[(2432,1,Y rI r6),(2496,5,Y X4.row v8)]⟩→go Z (.code (.loop C6o):: [.blk 0,.code D43]) (Ret [12] [.sc (.o 5 (Y X4.row r))]) .normal (N σ):=by
 intro n
 induction n with
 | zero=>intro _ _ r h; cases h
 | succ n ih=>
  intro v7 v8 r h σ hσ
  rw[T0] at h
  refine B0 ?_
  rcases ic h with ⟨h9,h⟩|⟨h9,h⟩
  ·obtain⟨x10,h10,h⟩:=ob h
   obtain⟨x11,h11,h⟩:=ob h
   obtain⟨r12,h12,h⟩:=ob h
   try simp only[hσ,h9,h10,h11,C6o,C,E,F,G,H,J]
   refine A2 (T8 _ _ h12) X X (uf X) ?_
   rcases ic h with ⟨h13,h⟩|⟨h13,h⟩
   ·obtain⟨x14,h14,h⟩:=ob h
    try simp only[h9,h10,h11,h13,h14,C,E,F,G,H,J]
    refine D7 X X ?_
    try simp only[h9,h10,h11,h13,h14,C,E,F,G,H,J]
    refine C3 X ?_
    obtain⟨x15,h15,h⟩:=ob h
    have h15n:=N4 h15
    obtain⟨r16,h16,h⟩:=ob h
    try simp only[h9,h10,h11,h13,h14,h15,h15n,C,E,F,G,H,J]
    refine F9 (A1t _ _ _ h16) X X (uf X) ?_
    try simp only[h9,h10,h11,h13,h14,h15,h15n,C,E,F,G,H,J]
    refine C7 (es:=Y X4.row ([(⟨a1,x10,(x15==x14.A),x11,(IntKind.i64.wrap (x11+r16))⟩:X4)]:P X4)) X X ?_
    obtain⟨h17,h⟩:=D3 h
    try simp only[h9,h10,h11,h13,h14,h15,h15n,h17,C,E,F,G,H,J]
    refine C3 X ?_
    try simp only[h9,h10,h11,h13,h14,h15,h15n,h17,C,E,F,G,H,J]
    refine ih _ _ _ h _ ?_
    try simp only[h9,h10,h11,h13,h14,h15,h15n,h17,C,E,F,G,H,J,I]
   ·try simp only[h9,h10,h11,h13,C,E,F,G,H,J]
    cases h
    trivial
  ·try simp only[hσ,h9,C6o,D43,C,E,F,G,H,J]
   cases h
   trivial
theorem F3r:A5 Z 197=N (cc333.strip,[12],85):=by kernel_rfl
theorem B8a(a0:X5)(a1:U)(a2:Xb)(a3:U)(a4 a5:P U)(r:(P X4))(h:A2z a0 a1 a2 a3 a4 a5=N r):FC Z 197 [.ag (X5.row a0),.sc (.int .i64 a1),.ag (zC a2),.sc (.int .i64 a3),.sc (.sl (Y rI a4)),.sc (.sl (Y rI a5))] [.sc (.o 5 (Y X4.row r))]:=by
 unfold A2z at h
 refine C4 A7 F3r X ?_
 simp only[cc333,C,E,F,G,H,J]
 try simp only[C,E,F,G,H,J]
 refine B2 X X X ?_
 try simp only[C,E,F,G,H,J]
 refine B2 X X X ?_
 obtain⟨r1,h1,h⟩:=ob h
 try simp only[C,E,F,G,H,J]
 refine A2 (B3t _ _ _ _ h1) X X (uf X) ?_
 rcases ic h with ⟨h2,h⟩|⟨h2,h⟩
 ·obtain⟨r3,h3,h⟩:=ob h
  try simp only[h2,C,E,F,G,H,J]
  refine A2 (A4i _ _ h3) X X (uf X) ?_
  rcases ic h with ⟨h4,h⟩|⟨h4,h⟩
  ·rcases ic h with ⟨h5,h⟩|⟨h5,h⟩
   ·try simp only[h2,h4,h5,C,E,F,G,H,J]
    cases h
    trivial
   ·obtain⟨r6,h6,h⟩:=ob h
    try simp only[h2,h4,h5,C,E,F,G,H,J]
    refine A2 (A64 _ _ _ _ h6) X X (uf X) ?_
    try simp only[h2,h4,h5,C,E,F,G,H,J]
    refine C7 (es:=Y X4.row ([]:P X4)) X X ?_
    try simp only[h2,h4,h5,C,E,F,G,H,J]
    refine F1k _ _ _ _ _ _ _ _ _ _ h _ ?_
    try simp only[h2,h4,h5,C,E,F,G,H,J,I]
  ·try simp only[h2,h4,C,E,F,G,H,J]
   cases h
   trivial
 ·try simp only[h2,C,E,F,G,H,J]
  cases h
  trivial
/- 198:impl_ArrivalOf -/
def cc336:X2:=(.seq (.reg [bo 4 0,bo 5 1,(O,.mv 8 (K 0))]) (.seq (.seq (.reg [lw 10 4 2,mv 11 2,ca 12 193 [S 10,S 11],(O,.bin 13 .lss (S 12) (K 0)),mv 14 13,(N (14,L),.load 15 (S 5) T 6),(N (14,L),.call 16 266 [(S 15)]),(N (14,L),.un 17 .not (S 16)),po 18 14 17,mv 19 18,(N (19,L),.mv 20 (S 2)),(N (19,L),.len 21 (S 20)),(N (19,L),.bin 22 .eql (S 21) (K 0)),po 23 19 22,mv 24 23,(N (24,L),.mv 25 (S 2)),(N (24,L),.len 26 (S 25)),(N (24,L),.mv 27 (S 3)),(N (24,L),.len 28 (S 27)),(N (24,L),.bin 29 .neq (S 26) (S 28)),po 30 24 29]) (.cond (S 30) (.seq (.reg [(O,.mv 8 (K (-1)))]) .ret) .skip)) (.seq (.reg [mv 31 2,ln 32 31,(O,.bin 33 .sub (S 32) (K 1)),mv 9 33]) (.seq (.seq (.reg [mv 34 3,mv 35 9,ia 36 34 35 1,ld 37 36,ca 38 117 [S 37],nt 39 38]) (.cond (S 39) (.seq (.reg [(O,.mv 8 (K (-1)))]) .ret) .skip)) (.seq (.drw [(N [53],mv 40 3),(N [53],mv 41 9),(N [53],ia 42 40 41 1),(N [53],ld 43 42),o0 (lw 44 5 6),o0 (fa 45 4 1),o0 (ld 46 45),o0 (mv 47 2),o0 (mv 48 9),o0 (ia 49 47 48 1),o0 (ld 50 49),o0 (ia 51 46 50 5),o0 (lw 52 51 5),o0 (ca 53 272 [S 44,S 52]),o0 (bn 54 .add 43 53),o0 (mv 8 54)]) .ret)))))
theorem F3u:A5 Z 198=N (cc336.strip,[8],55):=by kernel_rfl
theorem B9n(a0:X5)(a1:Xb)(a2 a3:P U)(r:U)(h:A3x a0 a1 a2 a3=N r):FC Z 198 [.ag (X5.row a0),.ag (zC a1),.sc (.sl (Y rI a2)),.sc (.sl (Y rI a3))] [.sc (.v (.int .i64 r))]:=by
 unfold A3x at h
 refine C4 A7 F3u X ?_
 simp only[cc336,C,E,F,G,H,J]
 try simp only[C,E,F,G,H,J]
 refine B2 X X X ?_
 try simp only[C,E,F,G,H,J]
 refine B2 X X X ?_
 obtain⟨r1,h1,h⟩:=ob h
 try simp only[C,E,F,G,H,J]
 refine A2 (A6t _ _ _ h1) X X (uf X) ?_
 rcases ic h with ⟨h2,h⟩|⟨h2,h⟩
 ·try simp only[h2,C,E,F,G,H,J]
  cases h
  trivial
 ·obtain⟨r3,h3,h⟩:=ob h
  try simp only[h2,C,E,F,G,H,J]
  refine A2 (A4i _ _ h3) X X (uf X) ?_
  rcases ic h with ⟨h4,h⟩|⟨h4,h⟩
  ·rcases ic h with ⟨h5,h⟩|⟨h5,h⟩
   ·try simp only[h2,h4,h5,C,E,F,G,H,J]
    cases h
    trivial
   ·rcases ic h with ⟨h6,h⟩|⟨h6,h⟩
    ·try simp only[h2,h4,h5,h6,C,E,F,G,H,J]
     cases h
     trivial
    ·obtain⟨x7,h7,h⟩:=ob h
     obtain⟨r9,h9,h⟩:=ob h
     try simp only[h2,h4,h5,h6,h7,C,E,F,G,H,J]
     refine A2 (T8 _ _ h9) X X (uf X) ?_
     rcases ic h with ⟨h10,h⟩|⟨h10,h⟩
     ·try simp only[h2,h4,h5,h6,h7,h10,C,E,F,G,H,J]
      refine C3 X ?_
      obtain⟨x11,h11,h⟩:=ob h
      obtain⟨x12,h12,h⟩:=ob h
      obtain⟨r13,h13,h⟩:=ob h
      try simp only[h2,h4,h5,h6,h7,h10,h11,h12,C,E,F,G,H,J]
      refine F9 (A1t _ _ _ h13) X X (uf X) ?_
      try simp only[h2,h4,h5,h6,h7,h10,h11,h12,C,E,F,G,H,J]
      cases h
      trivial
     ·try simp only[h2,h4,h5,h6,h7,h10,C,E,F,G,H,J]
      cases h
      trivial
  ·try simp only[h2,h4,C,E,F,G,H,J]
   cases h
   trivial
/- 104:impl_option -/
def A79:P (P W × AItem):= [([],(O,.load 72 (S 16) T 4)),([],(O,.faddr 73 (S 16) 1)),([1],(O,.load 74 (S 73) L 1)),([2],(O,.bin 75 .leq (S 74) (K 2880))),([0,0],(O,.store (S 10) (S 72) 4)),([3,4,0,1,2,3,4],(O,.mv 11 (S 75)))]
def C5r:X2:= .seq (.reg [(O,.keep [10,16,60,61,62] [10,16] [2752])]) (.seq (.reg [bn 63 .lss 62 61]) (.seq (.cond (S 63) .skip (.exit 0)) (.seq (.block 1 (.seq (.reg [ia 64 60 62 1,ld 65 64,mv 18 65]) (.reg [fa 66 16 2,ld 67 66,mv 68 18,bn 69 .sub 67 68,fa 70 16 2,so 70 69 1]))) (.reg [(O,.bin 71 .add (S 62) (K 1)),mv 62 71]))))
def D42:X2:=(.seq (.any A79) .ret)
def cc340:X2:=(.seq (.reg [bo 5 0,bo 6 1,bo 7 2,(O,.alloc 10 [aI 0,aI 0,aI 0,.nil]),(O,.mv 11 (KB L))]) (.seq (.reg [lw 20 7 3,mv 21 4,ca 22 196 [S 20,S 21],mv 19 22,xt 23 19 0,xt 24 19 1,mv 12 23,mv 13 24]) (.seq (.seq (.reg [mv 25 13,nt 26 25]) (.cond (S 26) (.seq (.reg [(O,.build 27 [aI 0,aI 0,aI 0,.nil] []),so 10 27 4,(O,.mv 11 (KB L))]) .ret) .skip)) (.seq (.reg [fa 28 5 5,ld 29 28,fa 30 6 0,ld 31 30,ia 32 29 31 6,lw 33 32 6,(O,.alloc 14 [aS [],aI 0,aI 0,aI 0,aI 0,aB L]),so 14 33 6]) (.seq (.reg [fa 34 5 3,lw 35 34 2,fa 36 6 0,ld 37 36,lw 38 14 6,fa 39 6 1,ld 40 39,mv 41 3,mv 42 12,ca 43 197 [S 35,S 37,S 38,S 40,S 41,S 42],mv 15 43]) (.seq (.reg [mv 44 4,fa 45 5 3,lw 46 45 2,lw 47 14 6,mv 48 3,mv 49 12,ca 50 198 [S 46,S 47,S 48,S 49],mv 51 15,(O,.build 52 [aI 0,aI 0,aI 0,.nil] [(0,1,(S 44)),(1,1,(S 50)),(3,1,(S 51))]),(O,.alloc 16 [aI 0,aI 0,aI 0,.nil]),so 16 52 4]) (.seq (.reg [fa 53 16 1,ld 54 53,fa 55 6 3,ld 56 55,bn 57 .sub 54 56,fa 58 16 2,so 58 57 1]) (.seq (.seq (.reg [fa 59 7 1,ld 60 59,ln 61 60,(O,.mv 62 (K 0))]) (.block 0 (.loop C5r))) D42))))))))
abbrev Y2(a4 r5 v7:U)(c0_ c1_:V)(c2_ c3_ c5_:V)(bx_:P (W × P AC))(rs_:Rows):St:=⟨[(10,vc (.pb 10 0)),(16,vc (.pb 16 0)),(72,bif c0_ then va [aI a4,aI r5,aI v7,.own 2752] else .undef),(73,bif c1_ then vc (.pb 16 1) else .undef),(74,bif c2_ then vc (aI r5) else .undef),(75,bif c3_ then vc (aB (decide (r5≤(2880:U)))) else .undef),(11,bif c5_ then vc (aB (decide (r5≤(2880:U)))) else .undef)],bx_,rs_⟩
abbrev A5c(a4 r5:U)(r4:(P X4))(v7:U):St:=(Y2 a4 r5 v7 T T T T T [(10,[aI a4,aI r5,aI v7,.own 2752]),(16,[aI a4,aI r5,aI v7,.own 2752])] [(2752,5,Y X4.row r4)])
theorem F73(a4 r5:U)(r4:(P X4))(v7:U):∀(f:W) (b1 b2:V) (b3 b5:V),E3 Z A79 (A5c a4 r5 r4 v7) f [T,b1,b2,b3,T,b5] (Y2 a4 r5 v7 T b1 b2 b3 b5 [(10,[aI a4,aI r5,aI v7,.own 2752]),(16,[aI a4,aI r5,aI v7,.own 2752])] [(2752,5,Y X4.row r4)]):=by
 intro f
 induction f with
 | zero=>
  intro b1 b2 b3 b5 h
  obtain rfl:b1=T:=zG.1 h b1 (by simp)
  obtain rfl:b2=T:=zG.1 h b2 (by simp)
  obtain rfl:b3=T:=zG.1 h b3 (by simp)
  obtain rfl:b5=T:=zG.1 h b5 (by simp)
  rfl
 | succ f ih=>
  intro b1 b2 b3 b5
  refine B3 ⟨?_,?_,?_,?_,?_,?_,⟨⟩⟩<;>try first | (intro h; cases h; done) | (intro h0 hw; obtain rfl:=hz h0 rfl; (try obtain rfl:=hq hw 1 rfl rfl); (try obtain rfl:=hq hw 2 rfl rfl); (try obtain rfl:=hq hw 3 rfl rfl); refine np ?_; simp only[Y2,cdt,cdf,A1,C,E,F,G,H,J]; exact ih _ _ _ _)
theorem F4d(a4 r5:U)(r4:(P X4))(v7:U):∀(f:W) (b0 b1:V) (b2 b3:V),E3 Z A79 (A5c a4 r5 r4 v7) f [b0,b1,b2,b3,L,L] (Y2 a4 r5 v7 b0 b1 b2 b3 L [(10,[aI (0:U),aI (0:U),aI (0:U),.nil]),(16,[aI a4,aI r5,aI v7,.own 2752])] [(2752,5,Y X4.row r4)]):=by
 intro f
 induction f with
 | zero=>intro b0 b1 b2 b3 h; simp at h
 | succ f ih=>
  intro b0 b1 b2 b3
  refine B3 ⟨?_,?_,?_,?_,?_,?_,⟨⟩⟩<;>try first | (intro _ hw; simp at hw; done) | (intro h0 hw; obtain rfl:=hz h0 rfl; (try obtain rfl:=hq hw 1 rfl rfl); (try obtain rfl:=hq hw 2 rfl rfl); refine np ?_; simp only[Y2,cdt,cdf,A1,C,E,F,G,H,J]; exact ih _ _ _ _)
  ·intro h0 hw
   obtain rfl:=hq hw 0 rfl rfl
   refine np ?_
   try simp only[Y2,cdt,cdf,A1,C,E,F,G,H,J]
   exact F73 a4 r5 r4 v7 _ b1 b2 b3 L
theorem F28(a2:Xk)(a4 r5:U)(r4:(P X4)):∀(n:W) (v6 v7:U) (r:X0 × V),A04 a2 a4 r5 r4 n v6 v7=N r→∀σ:St,σ.kept [10,16,60,61,62] [10,16] [2752]=⟨[(10,vc (.pb 10 0)),(16,vc (.pb 16 0)),(60,vc (aL (Y rI a2.minutes))),(61,vc (aI (a2.minutes.length:U))),(62,vc (aI v6))],[(10,[aI (0:U),aI (0:U),aI (0:U),.nil]),(16,[aI a4,aI r5,aI v7,.own 2752])],[(2752,5,Y X4.row r4)]⟩→go Z (.code (.loop C5r):: [.blk 0,.code D42]) (Ret [.c 10 T 4,11] [.ag [.v (.int .i64 r.1.Start),.v (.int .i64 r.1.Arrival),.v (.int .i64 r.1.Cost),.o 5 (Y X4.row r.1.Passages)],.sc (.v (.bool r.2))]) .normal (N σ):=by
 intro n
 induction n with
 | zero=>intro _ _ r h; cases h
 | succ n ih=>
  intro v6 v7 r h σ hσ
  rw[A04] at h
  refine B0 ?_
  rcases ic h with ⟨h8,h⟩|⟨h8,h⟩
  ·obtain⟨x9,h9,h⟩:=ob h
   try simp only[hσ,h8,h9,C5r,C,E,F,G,H,J]
   refine ih _ _ _ h _ ?_
   try simp only[h8,h9,C,E,F,G,H,J,I]
  ·try simp only[hσ,h8,C5r,D42,C,E,F,G,H,J]
   refine A4w (ks:= [10,16]) (bs:= [10,16]) (rs:= [2752]) (τ:=(A5c a4 r5 r4 v7)) X (F4d a4 r5 r4 v7 _ L L L L) ?_
   simp only[A5c,Y2,cdt]
   try simp only[h8,C,E,F,G,H,J]
   cases h
   try simp only[Q8,C,E,F,G,H,J]
   trivial
theorem F4v:A5 Z 104=N (cc340.strip,[.c 10 T 4,11],76):=by kernel_rfl
theorem B5e(a0:X6)(a1:X8)(a2:Xk)(a3:P U)(a4:U)(r:X0 × V)(h:Z7 a0 a1 a2 a3 a4=N r):FC Z 104 [.ag (X6.row a0),.ag (X8.row a1),.ag (Xk.row a2),.sc (.sl (Y rI a3)),.sc (.int .i64 a4)] [.ag [.v (.int .i64 r.1.Start),.v (.int .i64 r.1.Arrival),.v (.int .i64 r.1.Cost),.o 5 (Y X4.row r.1.Passages)],.sc (.v (.bool r.2))]:=by
 unfold Z7 at h
 refine C4 A7 F4v X ?_
 simp only[cc340,C,E,F,G,H,J]
 try simp only[C,E,F,G,H,J]
 refine B2 X X X ?_
 try simp only[C,E,F,G,H,J]
 refine B2 X X X ?_
 try simp only[C,E,F,G,H,J]
 refine B2 X X X ?_
 try simp only[C,E,F,G,H,J]
 refine D7 X X ?_
 obtain⟨r1,h1,h⟩:=ob h
 try simp only[C,E,F,G,H,J]
 refine A2 (B6h _ _ _ h1) X X (uf X) ?_
 rcases ic h with ⟨h2,h⟩|⟨h2,h⟩
 ·obtain⟨x3,h3,h⟩:=ob h
  try simp only[h2,h3,C,E,F,G,H,J]
  refine D7 X X ?_
  obtain⟨r4,h4,h⟩:=ob h
  try simp only[h2,h3,C,E,F,G,H,J]
  refine R4 (B8a _ _ _ _ _ _ _ h4) X (A7z X ⟨A7y,⟨⟩⟩) X (uf X) ?_
  obtain⟨r5,h5,h⟩:=ob h
  try simp only[h2,h3,C,E,F,G,H,J]
  refine R4 (B9n _ _ _ _ _ h5) X (R5 X) X (uf X) ?_
  try simp only[h2,h3,C,E,F,G,H,J]
  refine D7 X X ?_
  try simp only[h2,h3,C,E,F,G,H,J]
  refine F28 _ _ _ _ _ _ _ _ h _ ?_
  try simp only[h2,h3,C,E,F,G,H,J,I]
 ·try simp only[h2,C,E,F,G,H,J]
  cases h
  try simp only[Q8,C,E,F,G,H,J]
  trivial
/- 24:impl_OptionsOf -/
def D27:X2:= .seq (.reg [(O,.keep [2,3,5,7,9,10] [2,3,7] [1984,1985,1986,2560])]) (.reg [mv 52 10,(O,.bin 53 .add (S 52) (K 15)),mv 10 53])
def B4x:X2:= .seq (.reg [(O,.keep [2,3,5,7,9,10] [2,3,7] [1984,1985,1986,2560])]) (.seq (.seq (.reg [mv 43 10,fa 44 3 4,ld 45 44,bn 46 .leq 43 45,mv 47 46,(N (47,T),.mv 48 (S 9)),(N (47,T),.len 49 (S 48)),(N (47,T),.bin 50 .lss (S 49) (K 8)),pa 51 47 50]) (.cond (S 51) .skip (.exit 0))) (.seq (.block 1 (.seq (.reg [lw 55 2 12,lw 56 3 5,lw 57 7 3,mv 58 5,mv 59 10,ca 60 104 [S 55,S 56,S 57,S 58,S 59],mv 54 60,xt 61 54 0,xt 62 54 1,(O,.alloc 11 [aI 0,aI 0,aI 0,.nil]),so 11 61 4,mv 12 62]) (.seq (.reg [mv 63 12]) (.cond (S 63) (.reg [mv 64 9,lw 65 11 4,(O,.frz 3843),(O,.bslice 66 4 [.int .i64 0,.int .i64 0,.int .i64 0,.sl []] 1 [(0,(S 65))]),(O,.app 67 4 48 (S 64) (S 66)),mv 9 67]) .skip)))) D27))
def B7x:X2:=(.seq (.reg [mv 68 9,mv 4 68]) .ret)
def cc348:X2:=(.seq (.reg [bo 2 0,bo 3 1,(O,.mv 4 KN)]) (.seq (.seq (.reg [lw 13 2 12,lw 14 3 5,ca 15 99 [S 13,S 14],nt 16 15]) (.cond (S 16) (.seq (.reg [(O,.mv 4 KN)]) .ret) .skip)) (.seq (.reg [fa 18 2 3,lw 19 18 2,fa 20 3 1,ld 21 20,fa 22 3 2,ld 23 22,ca 24 102 [S 19,S 21,S 23],mv 17 24,xt 25 17 0,xt 26 17 1,mv 5 25,mv 6 26]) (.seq (.reg [lw 28 2 12,lw 29 3 5,mv 30 5,ca 31 103 [S 28,S 29,S 30],mv 27 31,xt 32 27 0,xt 33 27 1,(O,.alloc 7 [.nil,.nil,.nil]),so 7 32 3,mv 8 33]) (.seq (.seq (.reg [mv 34 6,nt 35 34,mv 36 35,(N (36,L),.mv 37 (S 8)),(N (36,L),.un 38 .not (S 37)),po 39 36 38]) (.cond (S 39) (.seq (.reg [(O,.mv 4 KN)]) .ret) .skip)) (.seq (.reg [(O,.bslice 40 4 [.int .i64 0,.int .i64 0,.int .i64 0,.sl []] 0 []),mv 9 40]) (.seq (.seq (.reg [fa 41 3 3,ld 42 41,mv 10 42]) (.block 0 (.loop B4x))) B7x)))))))
theorem E2h(r3:(P U) × V)(v7:U)(a0:X6)(a1:X8)(r4:Xk × V)(A4m:U→(P X0)→Q (P X0))(B5o:∀(v7:U) (v8:P X0) zr,A4m v7 v8=N zr→∀σ:St,σ.kept [2,3,5,7,9,10] [2,3,7] [1984,1985,1986,2560]=⟨[(2,vc (.pb 2 0)),(3,vc (.pb 3 0)),(5,vc (aL (Y rI r3.1))),(7,vc (.pb 7 0)),(9,vc (.own 2560)),(10,vc (aI v7))],[(2,(dm a0.row)),(3,(dm a1.row)),(7,[.own 1984,.own 1985,.own 1986])],[(1984,1,Y rB r4.1.waits),(1985,1,Y rI r4.1.minutes),(1986,1,Y (rL X9.row) r4.1.sure),(2560,4,Y X0.row v8)]⟩→go Z (.code (.loop B4x):: [.blk 0,.code B7x]) (Ret [4] [.sc (.o 4 (Y X0.row zr))]) .normal (N σ))(v14:P X0)(r:(P X0))(h:A0k r3 v7 a0 a1 r4 A4m v14=N r)(σ:St)(hσ:σ.kept [2,3,5,7,9,10] [2,3,7] [1984,1985,1986,2560]=⟨[(2,vc (.pb 2 0)),(3,vc (.pb 3 0)),(5,vc (aL (Y rI r3.1))),(7,vc (.pb 7 0)),(9,vc (.own 2560)),(10,vc (aI v7))],[(2,(dm a0.row)),(3,(dm a1.row)),(7,[.own 1984,.own 1985,.own 1986])],[(1984,1,Y rB r4.1.waits),(1985,1,Y rI r4.1.minutes),(1986,1,Y (rL X9.row) r4.1.sure),(2560,4,Y X0.row v14)]⟩):go Z (.code D27:: [.code (.loop B4x),.blk 0,.code B7x]) (Ret [4] [.sc (.o 4 (Y X0.row r))]) .normal (N σ):=by
 unfold A0k at h
 try simp only[hσ,D27,C,E,F,G,H,J]
 refine B5o _ _ _ h _ ?_
 try simp only[C,E,F,G,H,J,I]
theorem F5y(r3:(P U) × V)(a0:X6)(a1:X8)(r4:Xk × V):∀(n:W) (v7:U) (v8:P X0) (r:(P X0)),L6 r3 a0 a1 r4 n v7 v8=N r→∀σ:St,σ.kept [2,3,5,7,9,10] [2,3,7] [1984,1985,1986,2560]=⟨[(2,vc (.pb 2 0)),(3,vc (.pb 3 0)),(5,vc (aL (Y rI r3.1))),(7,vc (.pb 7 0)),(9,vc (.own 2560)),(10,vc (aI v7))],[(2,(dm a0.row)),(3,(dm a1.row)),(7,[.own 1984,.own 1985,.own 1986])],[(1984,1,Y rB r4.1.waits),(1985,1,Y rI r4.1.minutes),(1986,1,Y (rL X9.row) r4.1.sure),(2560,4,Y X0.row v8)]⟩→go Z (.code (.loop B4x):: [.blk 0,.code B7x]) (Ret [4] [.sc (.o 4 (Y X0.row r))]) .normal (N σ):=by
 intro n
 induction n with
 | zero=>intro _ _ r h; cases h
 | succ n ih=>
  intro v7 v8 r h σ hσ
  rw[L6] at h
  refine B0 ?_
  rcases ic h with ⟨h9,h⟩|⟨h9,h⟩
  ·rcases ic h with ⟨h10,h⟩|⟨h10,h⟩
   ·obtain⟨r11,h11,h⟩:=ob h
    try simp only[hσ,h9,h10,B4x,C,E,F,G,H,J]
    refine R4 (B5e _ _ _ _ _ _ h11) X (A7z X ⟨X,X,X,A7y,X,⟨⟩⟩) X (uf X) ?_
    try simp only[h9,h10,C,E,F,G,H,J]
    refine D7 X X ?_
    rcases ic h with ⟨h12,h⟩|⟨h12,h⟩
    ·try simp only[h9,h10,h12,C,E,F,G,H,J]
     refine O5 X ?_
     try simp only[h9,h10,h12,C,E,F,G,H,J]
     refine C7 (es:=Y X0.row ([r11.1]:P X0)) X X ?_
     obtain⟨h13,h⟩:=D3 h
     try simp only[h9,h10,h12,h13,C,E,F,G,H,J]
     refine E2h _ _ _ _ _ (L6 r3 a0 a1 r4 n) ih _ _ h _ ?_
     try simp only[h9,h10,h12,h13,C,E,F,G,H,J,I]
    ·try simp only[h9,h10,h12,C,E,F,G,H,J]
     refine E2h _ _ _ _ _ (L6 r3 a0 a1 r4 n) ih _ _ h _ ?_
     try simp only[h9,h10,h12,C,E,F,G,H,J,I]
   ·try simp only[hσ,h9,h10,B4x,B7x,C,E,F,G,H,J]
    cases h
    trivial
  ·try simp only[hσ,h9,B4x,B7x,C,E,F,G,H,J]
   cases h
   trivial
theorem F3i:A5 Z 24=N (cc348.strip,[4],69):=by kernel_rfl
theorem A77(a0:X6)(a1:X8)(r:(P X0))(h:K0 a0 a1=N r):FC Z 24 [.ag (X6.row a0),.ag (X8.row a1)] [.sc (.o 4 (Y X0.row r))]:=by
 unfold K0 at h
 refine C4 A7 F3i X ?_
 simp only[cc348,C,E,F,G,H,J]
 try simp only[C,E,F,G,H,J]
 refine B2 X X X ?_
 try simp only[C,E,F,G,H,J]
 refine B2 X X X ?_
 obtain⟨r1,h1,h⟩:=ob h
 try simp only[C,E,F,G,H,J]
 refine A2 (B0g _ _ _ h1) X X (uf X) ?_
 rcases ic h with ⟨h2,h⟩|⟨h2,h⟩
 ·obtain⟨r3,h3,h⟩:=ob h
  try simp only[h2,C,E,F,G,H,J]
  refine A2 (B9a _ _ _ _ h3) X X (uf X) ?_
  obtain⟨r4,h4,h⟩:=ob h
  try simp only[h2,C,E,F,G,H,J]
  refine A2 (B0o _ _ _ _ h4) X X (uf X) ?_
  try simp only[h2,C,E,F,G,H,J]
  refine D7 X X ?_
  rcases ic h with ⟨h5,h⟩|⟨h5,h⟩
  ·rcases ic h with ⟨h6,h⟩|⟨h6,h⟩
   ·try simp only[h2,h5,h6,C,E,F,G,H,J]
    refine C7 (es:=Y X0.row ([]:P X0)) X X ?_
    try simp only[h2,h5,h6,C,E,F,G,H,J]
    refine F5y _ _ _ _ _ _ _ _ h _ ?_
    try simp only[h2,h5,h6,C,E,F,G,H,J,I]
   ·try simp only[h2,h5,h6,C,E,F,G,H,J]
    cases h
    trivial
  ·try simp only[h2,h5,C,E,F,G,H,J]
   cases h
   trivial
 ·try simp only[h2,C,E,F,G,H,J]
  cases h
  trivial
/- 191:slices_IndexFunc_Option -/
def C48:X2:= .seq (.reg [(O,.keep [0,1,7,8] [] [])]) (.seq (.reg [bn 9 .lss 8 7]) (.seq (.cond (S 9) .skip (.exit 0)) (.seq (.block 1 (.seq (.reg [mv 10 8,mv 5 10]) (.seq (.reg [mv 11 1,mv 12 0,mv 13 5,ia 14 12 13 4,lw 15 14 4,(O,.callv 16 (S 11) [(S 15)])]) (.cond (S 16) (.seq (.reg [mv 17 5,mv 4 17]) .ret) .skip)))) (.reg [(O,.bin 18 .add (S 8) (K 1)),mv 8 18]))))
def D48:X2:=(.seq (.reg [(O,.mv 4 (K (-1)))]) .ret)
def cc354:X2:=(.seq (.reg [(O,.mv 4 (K 0))]) (.seq (.seq (.reg [mv 6 0,ln 7 6,(O,.mv 8 (K 0))]) (.block 0 (.loop C48))) D48))
theorem F3s(a1:X0→Q V)(F_a1:FuncId)(caps_a1:P D)(hF_a1:V6 Z F_a1=T)(h_a1:∀z0 zr,a1 z0=N zr→FC Z F_a1 ([.ag (X0.row z0)]++caps_a1.map .sc) [.sc (.v (.bool zr))])(a0:P X0):∀(n:W) (v1 r:U),J4 a1 a0 n v1=N r→∀σ:St,σ.kept [0,1,7,8] [] []=⟨[(0,vc (aL (Y X0.row a0))),(1,vc (.dat (.clo F_a1 caps_a1))),(7,vc (aI (a0.length:U))),(8,vc (aI v1))],[],[]⟩→go Z (.code (.loop C48):: [.blk 0,.code D48]) (Ret [4] [.sc (.v (.int .i64 r))]) .normal (N σ):=by
 intro n
 induction n with
 | zero=>intro _ r h; cases h
 | succ n ih=>
  intro v1 r h σ hσ
  rw[J4] at h
  refine B0 ?_
  rcases ic h with ⟨h2,h⟩|⟨h2,h⟩
  ·obtain⟨x3,h3,h⟩:=ob h
   obtain⟨r4,h4,h⟩:=ob h
   try simp only[hσ,h2,h3,C48,C,E,F,G,H,J]
   refine A9f (h_a1 _ _ h4) hF_a1 X X (R5 X) X (uf X) ?_
   rcases ic h with ⟨h5,h⟩|⟨h5,h⟩
   ·try simp only[h2,h3,h5,C,E,F,G,H,J]
    cases h
    trivial
   ·try simp only[h2,h3,h5,C,E,F,G,H,J]
    refine ih _ _ h _ ?_
    try simp only[h2,h3,h5,C,E,F,G,H,J,I]
  ·try simp only[hσ,h2,C48,D48,C,E,F,G,H,J]
   cases h
   trivial
theorem B05:A5 Z 191=N (cc354.strip,[4],19):=by kernel_rfl
theorem B0s(a0:P X0)(a1:X0→Q V)(r:U)(F_a1:FuncId)(caps_a1:P D)(hF_a1:V6 Z F_a1=T)(h_a1:∀z0 zr,a1 z0=N zr→FC Z F_a1 ([.ag (X0.row z0)]++caps_a1.map .sc) [.sc (.v (.bool zr))])(h:A0s a0 a1=N r):FC Z 191 [.sc (.sl (Y X0.row a0)),.sc (.clo F_a1 caps_a1)] [.sc (.v (.int .i64 r))]:=by
 unfold A0s at h
 refine C4 A7 B05 X ?_
 simp only[cc354,C,E,F,G,H,J]
 try simp only[C,E,F,G,H,J]
 refine F3s a1 F_a1 caps_a1 hF_a1 h_a1 _ _ _ _ h _ ?_
 try simp only[C,E,F,G,H,J,I]
/- 100:slices_DeleteFunc_Option -/
def D3j:X2:= .seq (.reg [(O,.keep [0,1,5,6] [] [90000])]) (.reg [mv 20 6,(O,.bin 21 .add (S 20) (K 1)),mv 6 21])
def B7s:X2:= .seq (.reg [(O,.keep [0,1,5,6] [] [90000])]) (.seq (.seq (.reg [mv 16 6,mv 17 0,ln 18 17,bn 19 .lss 16 18]) (.cond (S 19) .skip (.exit 0))) (.seq (.block 1 (.seq (.reg [mv 22 0,mv 23 6,ia 24 22 23 4,lw 25 24 4,(O,.alloc 7 [aI 0,aI 0,aI 0,.nil]),so 7 25 4]) (.seq (.reg [mv 26 1,lw 27 7 4,(O,.callv 28 (S 26) [(S 27)]),nt 29 28]) (.cond (S 29) (.seq (.reg [mv 30 0,mv 31 5,lw 32 7 4,ia 33 30 31 4,so 33 32 4]) (.reg [mv 34 5,(O,.bin 35 .add (S 34) (K 1)),mv 5 35])) .skip)))) D3j))
def C02:X2:=(.seq (.reg [mv 36 0,mv 37 5,(O,.slc 38 4 (S 36) (N (S 37)) O O),(O,.clr (S 38) 4 [.int .i64 0,.int .i64 0,.int .i64 0,.sl []])]) (.seq (.reg [mv 39 0,mv 40 5,(O,.slc 41 4 (S 39) O (N (S 40)) O),(O,.cut 41),mv 4 41]) .ret))
def cc359:X2:=(.seq (.reg [(O,.mv 4 KN)]) (.seq (.reg [mv 8 0,mv 9 1,ca 10 191 [S 8,S 9],mv 5 10]) (.seq (.seq (.reg [mv 11 5,(O,.bin 12 .eql (S 11) (K (-1)))]) (.cond (S 12) (.seq (.reg [mv 13 0,mv 4 13]) .ret) .skip)) (.seq (.seq (.reg [mv 14 5,(O,.bin 15 .add (S 14) (K 1)),mv 6 15]) (.block 0 (.loop B7s))) C02))))
theorem E20(a1:X0→Q V)(F_a1:FuncId)(caps_a1:P D)(hF_a1:V6 Z F_a1=T)(h_a1:∀z0 zr,a1 z0=N zr→FC Z F_a1 ([.ag (X0.row z0)]++caps_a1.map .sc) [.sc (.v (.bool zr))])(v4:U)(k_slices_DeleteFunc_Option_1:U→U→(P X0)→Q (P X0))(hk_slices_DeleteFunc_Option_1:∀(v3 v4:U) (v5:P X0) zr,k_slices_DeleteFunc_Option_1 v3 v4 v5=N zr→∀σ:St,σ.kept [0,1,5,6] [] [90000]=⟨[(0,vc (.own 90000)),(1,vc (.dat (.clo F_a1 caps_a1))),(5,vc (aI v3)),(6,vc (aI v4))],[],[(90000,4,Y X0.row v5)]⟩→go Z (.code (.loop B7s):: [.blk 0,.code C02]) (C62 [4] 4 (Y X0.row zr)) .normal (N σ))(v12:U)(v13:P X0)(r:(P X0))(h:L7 a1 v4 k_slices_DeleteFunc_Option_1 v12 v13=N r)(σ:St)(hσ:σ.kept [0,1,5,6] [] [90000]=⟨[(0,vc (.own 90000)),(1,vc (.dat (.clo F_a1 caps_a1))),(5,vc (aI v12)),(6,vc (aI v4))],[],[(90000,4,Y X0.row v13)]⟩):go Z (.code D3j:: [.code (.loop B7s),.blk 0,.code C02]) (C62 [4] 4 (Y X0.row r)) .normal (N σ):=by
 unfold L7 at h
 try simp only[hσ,D3j,C,E,F,G,H,J]
 refine hk_slices_DeleteFunc_Option_1 _ _ _ _ h _ ?_
 try simp only[C,E,F,G,H,J,I]
theorem F2b(a1:X0→Q V)(F_a1:FuncId)(caps_a1:P D)(hF_a1:V6 Z F_a1=T)(h_a1:∀z0 zr,a1 z0=N zr→FC Z F_a1 ([.ag (X0.row z0)]++caps_a1.map .sc) [.sc (.v (.bool zr))]):∀(n:W) (v3 v4:U) (v5:P X0) (r:(P X0)),E5 a1 n v3 v4 v5=N r→∀σ:St,σ.kept [0,1,5,6] [] [90000]=⟨[(0,vc (.own 90000)),(1,vc (.dat (.clo F_a1 caps_a1))),(5,vc (aI v3)),(6,vc (aI v4))],[],[(90000,4,Y X0.row v5)]⟩→go Z (.code (.loop B7s):: [.blk 0,.code C02]) (C62 [4] 4 (Y X0.row r)) .normal (N σ):=by
 intro n
 induction n with
 | zero=>intro _ _ _ r h; cases h
 | succ n ih=>
  intro v3 v4 v5 r h σ hσ
  rw[E5] at h
  refine B0 ?_
  rcases ic h with ⟨h6,h⟩|⟨h6,h⟩
  ·obtain⟨x7,h7,h⟩:=ob h
   have h7n:=N4 h7
   try simp only[hσ,h6,h7,h7n,B7s,C,E,F,G,H,J]
   refine D7 X X ?_
   obtain⟨r9,h9,h⟩:=ob h
   try simp only[h6,h7,h7n,C,E,F,G,H,J]
   refine A9f (h_a1 _ _ h9) hF_a1 X X (R5 X) X (uf X) ?_
   rcases ic h with ⟨h10,h⟩|⟨h10,h⟩
   ·try simp only[h6,h7,h7n,h10,C,E,F,G,H,J]
    refine E20 a1 F_a1 caps_a1 hF_a1 h_a1 _ (E5 a1 n) ih _ _ _ h _ ?_
    try simp only[h6,h7,h7n,h10,C,E,F,G,H,J,I]
   ·obtain⟨x11,h11,h⟩:=ob h
    have h11n:=N4 h11
    try simp only[h6,h7,h7n,h10,h11,C,E,F,G,H,J]
    refine A6c (row:=X0.row) (y:=x7) X X h11n X X (by rfl) ?_
    try simp only[h6,h7,h7n,h10,h11,C,E,F,G,H,J]
    refine E20 a1 F_a1 caps_a1 hF_a1 h_a1 _ (E5 a1 n) ih _ _ _ h _ ?_
    try simp only[h6,h7,h7n,h10,h11,C,E,F,G,H,J,I]
  ·obtain⟨p14,h14,h⟩:=ob h
   try simp only[hσ,h6,B7s,C02,C,E,F,G,H,J]
   refine E1t (zx:=(⟨(0:U),(0:U),(0:U),([]:P X4)⟩:X0)) X X h14 (by rfl) ?_
   obtain⟨p15,h15,h⟩:=ob h
   try simp only[h6,C,E,F,G,H,J]
   refine A60 X X h15 (by rfl) ?_
   try simp only[h6,C,E,F,G,H,J]
   cases h
   trivial
theorem B0k:A5 Z 100=N (cc359.strip,[4],42):=by kernel_rfl
theorem B0f(a0:P X0)(a1:X0→Q V)(r:(P X0))(F_a1:FuncId)(caps_a1:P D)(hF_a1:V6 Z F_a1=T)(h_a1:∀z0 zr,a1 z0=N zr→FC Z F_a1 ([.ag (X0.row z0)]++caps_a1.map .sc) [.sc (.v (.bool zr))])(h:Q5 a0 a1=N r):FCt Z 100 [.r,.d (.sc (.clo F_a1 caps_a1))] 4 (Y X0.row a0) (Y X0.row r):=by
 unfold Q5 at h
 refine E9h (σ:=⟨[(0,vc (.own 90000)),(1,vc (.dat (.clo F_a1 caps_a1)))],[],[(90000,4,Y X0.row a0)]⟩) A7 B0k X X ?_
 simp only[cc359]
 obtain⟨r1,h1,h⟩:=ob h
 try simp only[C,E,F,G,H,J]
 refine R4 (B0s _ _ _ F_a1 caps_a1 hF_a1 h_a1 h1) X (R5 X) X (uf X) ?_
 rcases ic h with ⟨h2,h⟩|⟨h2,h⟩
 ·try simp only[h2,C,E,F,G,H,J]
  cases h
  trivial
 ·try simp only[h2,C,E,F,G,H,J]
  refine F2b a1 F_a1 caps_a1 hF_a1 h_a1 _ _ _ _ _ h _ ?_
  try simp only[h2,C,E,F,G,H,J,I]
/- 189:slices_IndexFunc_Passage -/
def C6c:X2:= .seq (.reg [(O,.keep [0,1,7,8] [] [])]) (.seq (.reg [bn 9 .lss 8 7]) (.seq (.cond (S 9) .skip (.exit 0)) (.seq (.block 1 (.seq (.reg [mv 10 8,mv 5 10]) (.seq (.reg [mv 11 1,mv 12 0,mv 13 5,ia 14 12 13 5,lw 15 14 5,(O,.callv 16 (S 11) [(S 15)])]) (.cond (S 16) (.seq (.reg [mv 17 5,mv 4 17]) .ret) .skip)))) (.reg [(O,.bin 18 .add (S 8) (K 1)),mv 8 18]))))
def D1o:X2:=(.seq (.reg [(O,.mv 4 (K (-1)))]) .ret)
def cc364:X2:=(.seq (.reg [(O,.mv 4 (K 0))]) (.seq (.seq (.reg [mv 6 0,ln 7 6,(O,.mv 8 (K 0))]) (.block 0 (.loop C6c))) D1o))
theorem F3b(a1:X4→Q V)(F_a1:FuncId)(caps_a1:P D)(hF_a1:V6 Z F_a1=T)(h_a1:∀z0 zr,a1 z0=N zr→FC Z F_a1 ([.ag (X4.row z0)]++caps_a1.map .sc) [.sc (.v (.bool zr))])(a0:P X4):∀(n:W) (v1 r:U),J2 a1 a0 n v1=N r→∀σ:St,σ.kept [0,1,7,8] [] []=⟨[(0,vc (aL (Y X4.row a0))),(1,vc (.dat (.clo F_a1 caps_a1))),(7,vc (aI (a0.length:U))),(8,vc (aI v1))],[],[]⟩→go Z (.code (.loop C6c):: [.blk 0,.code D1o]) (Ret [4] [.sc (.v (.int .i64 r))]) .normal (N σ):=by
 intro n
 induction n with
 | zero=>intro _ r h; cases h
 | succ n ih=>
  intro v1 r h σ hσ
  rw[J2] at h
  refine B0 ?_
  rcases ic h with ⟨h2,h⟩|⟨h2,h⟩
  ·obtain⟨x3,h3,h⟩:=ob h
   obtain⟨r4,h4,h⟩:=ob h
   try simp only[hσ,h2,h3,C6c,C,E,F,G,H,J]
   refine A9f (h_a1 _ _ h4) hF_a1 X X (R5 X) X (uf X) ?_
   rcases ic h with ⟨h5,h⟩|⟨h5,h⟩
   ·try simp only[h2,h3,h5,C,E,F,G,H,J]
    cases h
    trivial
   ·try simp only[h2,h3,h5,C,E,F,G,H,J]
    refine ih _ _ h _ ?_
    try simp only[h2,h3,h5,C,E,F,G,H,J,I]
  ·try simp only[hσ,h2,C6c,D1o,C,E,F,G,H,J]
   cases h
   trivial
theorem B0c:A5 Z 189=N (cc364.strip,[4],19):=by kernel_rfl
theorem A98(a0:P X4)(a1:X4→Q V)(r:U)(F_a1:FuncId)(caps_a1:P D)(hF_a1:V6 Z F_a1=T)(h_a1:∀z0 zr,a1 z0=N zr→FC Z F_a1 ([.ag (X4.row z0)]++caps_a1.map .sc) [.sc (.v (.bool zr))])(h:Z5 a0 a1=N r):FC Z 189 [.sc (.sl (Y X4.row a0)),.sc (.clo F_a1 caps_a1)] [.sc (.v (.int .i64 r))]:=by
 unfold Z5 at h
 refine C4 A7 B0c X ?_
 simp only[cc364,C,E,F,G,H,J]
 try simp only[C,E,F,G,H,J]
 refine F3b a1 F_a1 caps_a1 hF_a1 h_a1 _ _ _ _ h _ ?_
 try simp only[C,E,F,G,H,J,I]
/- 95:slices_ContainsFunc_Passage -/
def cc366:X2:=(.seq (.reg [(O,.mv 4 (KB L))]) (.seq (.reg [mv 5 0,mv 6 1,ca 7 189 [S 5,S 6],(O,.bin 8 .geq (S 7) (K 0)),mv 4 8]) .ret))
theorem A8x:A5 Z 95=N (cc366.strip,[4],9):=by kernel_rfl
theorem A8u(a0:P X4)(a1:X4→Q V)(r:V)(F_a1:FuncId)(caps_a1:P D)(hF_a1:V6 Z F_a1=T)(h_a1:∀z0 zr,a1 z0=N zr→FC Z F_a1 ([.ag (X4.row z0)]++caps_a1.map .sc) [.sc (.v (.bool zr))])(h:U3 a0 a1=N r):FC Z 95 [.sc (.sl (Y X4.row a0)),.sc (.clo F_a1 caps_a1)] [.sc (.v (.bool r))]:=by
 unfold U3 at h
 refine C4 A7 A8x X ?_
 simp only[cc366,C,E,F,G,H,J]
 obtain⟨r1,h1,h⟩:=ob h
 try simp only[C,E,F,G,H,J]
 refine A2 (A98 _ _ _ F_a1 caps_a1 hF_a1 h_a1 h1) X X (uf X) ?_
 try simp only[C,E,F,G,H,J]
 cases h
 trivial
/- 190:slices_IndexFunc_Closure -/
def C6q:X2:= .seq (.reg [(O,.keep [0,1,7,8] [] [])]) (.seq (.reg [bn 9 .lss 8 7]) (.seq (.cond (S 9) .skip (.exit 0)) (.seq (.block 1 (.seq (.reg [mv 10 8,mv 5 10]) (.seq (.reg [mv 11 1,mv 12 0,mv 13 5,ia 14 12 13 3,lw 15 14 3,(O,.callv 16 (S 11) [(S 15)])]) (.cond (S 16) (.seq (.reg [mv 17 5,mv 4 17]) .ret) .skip)))) (.reg [(O,.bin 18 .add (S 8) (K 1)),mv 8 18]))))
def D1h:X2:=(.seq (.reg [(O,.mv 4 (K (-1)))]) .ret)
def cc369:X2:=(.seq (.reg [(O,.mv 4 (K 0))]) (.seq (.seq (.reg [mv 6 0,ln 7 6,(O,.mv 8 (K 0))]) (.block 0 (.loop C6q))) D1h))
theorem F5k(a1:Xa→Q V)(F_a1:FuncId)(caps_a1:P D)(hF_a1:V6 Z F_a1=T)(h_a1:∀z0 zr,a1 z0=N zr→FC Z F_a1 ([.ag (zD z0)]++caps_a1.map .sc) [.sc (.v (.bool zr))])(a0:P Xa):∀(n:W) (v1 r:U),J0 a1 a0 n v1=N r→∀σ:St,σ.kept [0,1,7,8] [] []=⟨[(0,vc (aL (Y zD a0))),(1,vc (.dat (.clo F_a1 caps_a1))),(7,vc (aI (a0.length:U))),(8,vc (aI v1))],[],[]⟩→go Z (.code (.loop C6q):: [.blk 0,.code D1h]) (Ret [4] [.sc (.v (.int .i64 r))]) .normal (N σ):=by
 intro n
 induction n with
 | zero=>intro _ r h; cases h
 | succ n ih=>
  intro v1 r h σ hσ
  rw[J0] at h
  refine B0 ?_
  rcases ic h with ⟨h2,h⟩|⟨h2,h⟩
  ·obtain⟨x3,h3,h⟩:=ob h
   obtain⟨r4,h4,h⟩:=ob h
   try simp only[hσ,h2,h3,C6q,C,E,F,G,H,J]
   refine A9f (h_a1 _ _ h4) hF_a1 X X (R5 X) X (uf X) ?_
   rcases ic h with ⟨h5,h⟩|⟨h5,h⟩
   ·try simp only[h2,h3,h5,C,E,F,G,H,J]
    cases h
    trivial
   ·try simp only[h2,h3,h5,C,E,F,G,H,J]
    refine ih _ _ h _ ?_
    try simp only[h2,h3,h5,C,E,F,G,H,J,I]
  ·try simp only[hσ,h2,C6q,D1h,C,E,F,G,H,J]
   cases h
   trivial
theorem B0j:A5 Z 190=N (cc369.strip,[4],19):=by kernel_rfl
theorem B0e(a0:P Xa)(a1:Xa→Q V)(r:U)(F_a1:FuncId)(caps_a1:P D)(hF_a1:V6 Z F_a1=T)(h_a1:∀z0 zr,a1 z0=N zr→FC Z F_a1 ([.ag (zD z0)]++caps_a1.map .sc) [.sc (.v (.bool zr))])(h:Z4 a0 a1=N r):FC Z 190 [.sc (.sl (Y zD a0)),.sc (.clo F_a1 caps_a1)] [.sc (.v (.int .i64 r))]:=by
 unfold Z4 at h
 refine C4 A7 B0j X ?_
 simp only[cc369,C,E,F,G,H,J]
 try simp only[C,E,F,G,H,J]
 refine F5k a1 F_a1 caps_a1 hF_a1 h_a1 _ _ _ _ h _ ?_
 try simp only[C,E,F,G,H,J,I]
/- 97:slices_ContainsFunc_Closure -/
def cc371:X2:=(.seq (.reg [(O,.mv 4 (KB L))]) (.seq (.reg [mv 5 0,mv 6 1,ca 7 190 [S 5,S 6],(O,.bin 8 .geq (S 7) (K 0)),mv 4 8]) .ret))
theorem A8v:A5 Z 97=N (cc371.strip,[4],9):=by kernel_rfl
theorem A8w(a0:P Xa)(a1:Xa→Q V)(r:V)(F_a1:FuncId)(caps_a1:P D)(hF_a1:V6 Z F_a1=T)(h_a1:∀z0 zr,a1 z0=N zr→FC Z F_a1 ([.ag (zD z0)]++caps_a1.map .sc) [.sc (.v (.bool zr))])(h:U5 a0 a1=N r):FC Z 97 [.sc (.sl (Y zD a0)),.sc (.clo F_a1 caps_a1)] [.sc (.v (.bool r))]:=by
 unfold U5 at h
 refine C4 A7 A8v X ?_
 simp only[cc371,C,E,F,G,H,J]
 obtain⟨r1,h1,h⟩:=ob h
 try simp only[C,E,F,G,H,J]
 refine A2 (B0e _ _ _ F_a1 caps_a1 hF_a1 h_a1 h1) X X (uf X) ?_
 try simp only[C,E,F,G,H,J]
 cases h
 trivial
/- 98:impl_HitsClosure_1 -/
def cc372:X2:=(.seq (.reg [bo 2 0,(O,.mv 3 (KB L))]) (.seq (.reg [fa 4 2 0,ld 5 4,fa 6 1 1,ld 7 6,bn 8 .eql 5 7,mv 9 8,(N (9,T),.faddr 10 (S 2) 1),(N (9,T),.load 11 (S 10) L 1),(N (9,T),.faddr 12 (S 1) 3),(N (9,T),.load 13 (S 12) L 1),(N (9,T),.mm 14 T (S 11) (S 13)),(N (9,T),.faddr 15 (S 2) 2),(N (9,T),.load 16 (S 15) L 1),(N (9,T),.faddr 17 (S 1) 4),(N (9,T),.load 18 (S 17) L 1),(N (9,T),.mm 19 L (S 16) (S 18)),(N (9,T),.bin 20 .lss (S 14) (S 19)),pa 21 9 20,mv 3 21]) .ret))
theorem F7z:A5 Z 98=N (cc372.strip,[3],22):=by kernel_rfl
theorem F2l(a0:Xa)(c0:X4)(r:V)(h:V9 a0 c0=N r):FC Z 98 [.ag (zD a0),.sc (.pd (X4.row c0))] [.sc (.v (.bool r))]:=by
 unfold V9 at h
 refine C4 A7 F7z X ?_
 simp only[cc372,C,E,F,G,H,J]
 try simp only[C,E,F,G,H,J]
 refine B2 X X X ?_
 rcases ic h with ⟨h1,h⟩|⟨h1,h⟩
 ·try simp only[h1,C,E,F,G,H,J]
  cases h
  trivial
 ·try simp only[h1,C,E,F,G,H,J]
  cases h
  trivial
/- 21:impl_HitsClosure -/
def cc375:X2:=(.seq (.reg [bo 2 0,(O,.mv 4 (KB L))]) (.seq (.reg [mv 5 1,(O,.mkf 6 98 [(S 2)]),ca 7 97 [S 5,S 6],mv 4 7]) .ret))
theorem F56:A5 Z 21=N (cc375.strip,[4],8):=by kernel_rfl
theorem A9w(a0:X4)(a1:P Xa)(r:V)(h:A0p a0 a1=N r):FC Z 21 [.ag (X4.row a0),.sc (.sl (Y zD a1))] [.sc (.v (.bool r))]:=by
 unfold A0p at h
 refine C4 A7 F56 X ?_
 simp only[cc375,C,E,F,G,H,J]
 try simp only[C,E,F,G,H,J]
 refine B2 X X X ?_
 obtain⟨r1,h1,h⟩:=ob h
 try simp only[C,E,F,G,H,J]
 refine R4 (A8w _ _ _ 98 [.pd (X4.row a0)] (by kernel_rfl) (fun z0 zr zh=>F2l z0 a0 zr zh) h1) X (R5 X) X (uf X) ?_
 try simp only[C,E,F,G,H,J]
 cases h
 trivial
/- 96:impl_ShutOut_1 -/
def cc377:X2:=(.seq (.reg [bo 2 0,(O,.mv 3 (KB L))]) (.seq (.reg [lw 4 2 5,ld 5 1,ca 6 21 [S 4,S 5],mv 3 6]) .ret))
theorem F4z:A5 Z 96=N (cc377.strip,[3],7):=by kernel_rfl
theorem F24(a0:X4)(c0:P Xa)(r:V)(h:A3v a0 c0=N r):FC Z 96 [.ag (X4.row a0),.sc (.pd ((rL zD) c0))] [.sc (.v (.bool r))]:=by
 unfold A3v at h
 refine C4 A7 F4z X ?_
 simp only[cc377,C,E,F,G,H,J]
 try simp only[C,E,F,G,H,J]
 refine B2 X X X ?_
 obtain⟨r1,h1,h⟩:=ob h
 try simp only[C,E,F,G,H,J]
 refine A2 (A9w _ _ _ h1) X X (uf X) ?_
 try simp only[C,E,F,G,H,J]
 cases h
 trivial
/- 20:impl_ShutOut -/
def cc380:X2:=(.seq (.reg [bo 2 0,bo 3 1,(O,.mv 4 (KB L))]) (.seq (.reg [fa 5 2 3,ld 6 5,(O,.mkf 7 96 [(S 3)]),ca 8 95 [S 6,S 7],mv 4 8]) .ret))
theorem F6r:A5 Z 20=N (cc380.strip,[4],9):=by kernel_rfl
theorem B3m(a0:X0)(a1:P Xa)(r:V)(h:A3g a0 a1=N r):FC Z 20 [.ag (X0.row a0),.sc (.sl (Y zD a1))] [.sc (.v (.bool r))]:=by
 unfold A3g at h
 refine C4 A7 F6r X ?_
 simp only[cc380,C,E,F,G,H,J]
 try simp only[C,E,F,G,H,J]
 refine B2 X X X ?_
 try simp only[C,E,F,G,H,J]
 refine B2 X X X ?_
 obtain⟨r1,h1,h⟩:=ob h
 try simp only[C,E,F,G,H,J]
 refine R4 (A8u _ _ _ 96 [.pd ((rL zD) a1)] (by kernel_rfl) (fun z0 zr zh=>F24 z0 a1 zr zh) h1) X (R5 X) X (uf X) ?_
 try simp only[C,E,F,G,H,J]
 cases h
 trivial
/- 101:impl_OpenOptions_1 -/
def cc382:X2:=(.seq (.reg [bo 2 0,(O,.mv 3 (KB L))]) (.seq (.reg [lw 4 2 4,ld 5 1,ca 6 20 [S 4,S 5],mv 3 6]) .ret))
theorem F5h:A5 Z 101=N (cc382.strip,[3],7):=by kernel_rfl
theorem F2y(a0:X0)(c0:P Xa)(r:V)(h:A28 a0 c0=N r):FC Z 101 [.ag (X0.row a0),.sc (.pd ((rL zD) c0))] [.sc (.v (.bool r))]:=by
 unfold A28 at h
 refine C4 A7 F5h X ?_
 simp only[cc382,C,E,F,G,H,J]
 try simp only[C,E,F,G,H,J]
 refine B2 X X X ?_
 obtain⟨r1,h1,h⟩:=ob h
 try simp only[C,E,F,G,H,J]
 refine A2 (B3m _ _ _ h1) X X (uf X) ?_
 try simp only[C,E,F,G,H,J]
 cases h
 trivial
/- 23:impl_OpenOptions -/
def cc385:X2:=(.seq (.reg [bo 3 0,bo 4 1,bo 5 2,(O,.mv 6 KN)]) (.seq (.seq (.reg [lw 7 3 12,lw 8 4 5,ca 9 99 [S 7,S 8],nt 10 9,mv 11 10,(N (11,L),.faddr 12 (S 3) 3),(N (11,L),.load 13 (S 12) T 2),(N (11,L),.load 14 (S 5) L 1),(N (11,L),.call 15 19 [(S 13),(S 14)]),(N (11,L),.un 16 .not (S 15)),po 17 11 16]) (.cond (S 17) (.seq (.reg [(O,.mv 6 KN)]) .ret) .skip)) (.seq (.reg [lw 18 3 12,lw 19 4 5,ca 20 24 [S 18,S 19],(O,.frzb 5),(O,.mkf 21 101 [(S 5)]),ca 22 100 [S 20,S 21],mv 6 22]) .ret)))
theorem F8x:A5 Z 23=N (cc385.strip,[6],23):=by kernel_rfl
theorem A92(a0:X6)(a1:X8)(a2:P Xa)(r:(P X0))(h:A0m a0 a1 a2=N r):FC Z 23 [.ag (X6.row a0),.ag (X8.row a1),.sc (.sl (Y zD a2))] [.sc (.o 4 (Y X0.row r))]:=by
 unfold A0m at h
 refine C4 A7 F8x X ?_
 simp only[cc385,C,E,F,G,H,J]
 try simp only[C,E,F,G,H,J]
 refine B2 X X X ?_
 try simp only[C,E,F,G,H,J]
 refine B2 X X X ?_
 try simp only[C,E,F,G,H,J]
 refine B2 X X X ?_
 obtain⟨r1,h1,h⟩:=ob h
 try simp only[C,E,F,G,H,J]
 refine A2 (B0g _ _ _ h1) X X (uf X) ?_
 rcases ic h with ⟨h2,h⟩|⟨h2,h⟩
 ·obtain⟨r3,h3,h⟩:=ob h
  try simp only[h2,C,E,F,G,H,J]
  refine A2 (A5a _ _ _ h3) X X (uf X) ?_
  rcases ic h with ⟨h4,h⟩|⟨h4,h⟩
  ·obtain⟨r5,h5,h⟩:=ob h
   try simp only[h2,h4,C,E,F,G,H,J]
   refine A2 (A77 _ _ _ h5) X X (uf X) ?_
   try simp only[h2,h4,C,E,F,G,H,J]
   refine B37 X X ?_
   obtain⟨r6,h6,h⟩:=ob h
   try simp only[h2,h4,List.drop_zero,C,E,F,G,H,J]
   refine D86 (B0f _ _ _ 101 [.pd ((rL zD) a2)] (by kernel_rfl) (fun z0 zr zh=>F2y z0 a2 zr zh) h6) 1280 X X X X X ?_
   rw[D2l]
   try simp only[h2,h4,List.drop_zero,C,E,F,G,H,J]
   cases h
   trivial
  ·try simp only[h2,h4,C,E,F,G,H,J]
   cases h
   trivial
 ·try simp only[h2,C,E,F,G,H,J]
  cases h
  trivial
/- 265:impl_weight_less -/
def cc387:X2:=(.seq (.reg [bo 2 0,bo 3 1,(O,.mv 4 (KB L))]) (.seq (.reg [fa 5 2 0,ld 6 5,fa 7 3 0,ld 8 7,bn 9 .lss 6 8,mv 10 9,(N (10,L),.faddr 11 (S 2) 0),(N (10,L),.load 12 (S 11) L 1),(N (10,L),.faddr 13 (S 3) 0),(N (10,L),.load 14 (S 13) L 1),(N (10,L),.bin 15 .eql (S 12) (S 14)),(N (10,L),.mv 16 (S 15)),(N (16,T),.faddr 17 (S 2) 1),(N (16,T),.load 18 (S 17) L 1),(N (16,T),.faddr 19 (S 3) 1),(N (16,T),.load 20 (S 19) L 1),(N (16,T),.bin 21 .lss (S 18) (S 20)),(N (10,L),.pick 22 (S 16) (S 21) (KB L)),po 23 10 22,mv 4 23]) .ret))
theorem F2g:A5 Z 265=N (cc387.strip,[4],24):=by kernel_rfl
theorem B6v(a0 a1:Xj)(r:V)(h:A2j a0 a1=N r):FC Z 265 [.ag (Xj.row a0),.ag (Xj.row a1)] [.sc (.v (.bool r))]:=by
 unfold A2j at h
 refine C4 A7 F2g X ?_
 simp only[cc387,C,E,F,G,H,J]
 try simp only[C,E,F,G,H,J]
 refine B2 X X X ?_
 try simp only[C,E,F,G,H,J]
 refine B2 X X X ?_
 rcases ic h with ⟨h1,h⟩|⟨h1,h⟩
 ·try simp only[h1,C,E,F,G,H,J]
  cases h
  trivial
 ·rcases ic h with ⟨h2,h⟩|⟨h2,h⟩
  ·try simp only[h1,h2,C,E,F,G,H,J]
   cases h
   trivial
  ·try simp only[h1,h2,C,E,F,G,H,J]
   cases h
   trivial
/- 332:impl_Overlaps -/
def cc389:X2:=(.seq (.reg [bo 2 0,bo 3 1,(O,.mv 4 (KB L))]) (.seq (.reg [fa 5 2 3,ld 6 5,fa 7 3 3,ld 8 7,(O,.mm 9 T (S 6) (S 8)),fa 10 2 4,ld 11 10,fa 12 3 4,ld 13 12,(O,.mm 14 L (S 11) (S 13)),bn 15 .lss 9 14,mv 4 15]) .ret))
theorem F2u:A5 Z 332=N (cc389.strip,[4],16):=by kernel_rfl
theorem B2m(a0 a1:X4)(r:V)(h:A4n a0 a1=N r):FC Z 332 [.ag (X4.row a0),.ag (X4.row a1)] [.sc (.v (.bool r))]:=by
 unfold A4n at h
 refine C4 A7 F2u X ?_
 simp only[cc389,C,E,F,G,H,J]
 try simp only[C,E,F,G,H,J]
 refine B2 X X X ?_
 try simp only[C,E,F,G,H,J]
 refine B2 X X X ?_
 try simp only[C,E,F,G,H,J]
 cases h
 trivial
/- 333:impl_near -/
def cc391:X2:=(.seq (.reg [(O,.mv 6 (KB L))]) (.seq (.reg [mv 7 0,mv 8 1,(O,.mm 9 T (S 7) (S 8)),(O,.conv 10 .u64 (S 9)),mv 11 0,mv 12 1,(O,.mm 13 L (S 11) (S 12)),(O,.conv 14 .u64 (S 13)),bn 15 .sub 10 14,mv 16 2,(O,.conv 17 .u64 (S 16)),bn 18 .lss 15 17,mv 6 18]) .ret))
theorem F8d:A5 Z 333=N (cc391.strip,[6],19):=by kernel_rfl
theorem B8p(a0 a1 a2:U)(r:V)(h:A7x a0 a1 a2=N r):FC Z 333 [.sc (.int .i64 a0),.sc (.int .i64 a1),.sc (.int .i64 a2)] [.sc (.v (.bool r))]:=by
 unfold A7x at h
 refine C4 A7 F8d X ?_
 simp only[cc391,C,E,F,G,H,J]
 try simp only[C,E,F,G,H,J]
 cases h
 trivial
/- 277:impl_conflict -/
def A9m:X2:= .seq (.reg [(O,.keep [6,7,72] [6,7] [])]) (.cond (S 72) (.seq (.reg [(O,.mv 8 (K 3))]) .ret) (.seq (.reg [fa 90 6 3,ld 91 90,fa 92 7 3,ld 93 92,bn 94 .lss 91 93,mv 95 94,(N (95,T),.faddr 96 (S 6) 4),(N (95,T),.load 97 (S 96) L 1),(N (95,T),.faddr 98 (S 7) 4),(N (95,T),.load 99 (S 98) L 1),(N (95,T),.bin 100 .gtr (S 97) (S 99)),pa 101 95 100,mv 102 101,(N (102,L),.faddr 103 (S 6) 3),(N (102,L),.load 104 (S 103) L 1),(N (102,L),.faddr 105 (S 7) 3),(N (102,L),.load 106 (S 105) L 1),(N (102,L),.bin 107 .gtr (S 104) (S 106)),(N (102,L),.mv 108 (S 107)),(N (108,T),.faddr 109 (S 6) 4),(N (108,T),.load 110 (S 109) L 1),(N (108,T),.faddr 111 (S 7) 4),(N (108,T),.load 112 (S 111) L 1),(N (108,T),.bin 113 .lss (S 110) (S 112)),(N (102,L),.pick 114 (S 108) (S 113) (KB L)),po 115 102 114,mv 89 115]) (.cond (S 89) (.seq (.reg [(O,.mv 8 (K 4))]) .ret) .skip)))
def C1s:X2:= .seq (.reg [(O,.keep [5,6,7,41] [5,6,7] [])]) (.cond (S 41) (.seq (.reg [(O,.mv 8 (K 2))]) .ret) (.seq (.reg [fa 67 6 2,ld 68 67,fa 69 7 2,ld 70 69,(O,.beq 71 T (S 68) (S 70)),mv 66 71]) (.cond (S 66) (.seq (.reg [(O,.mv 8 (K 0))]) .ret) (.seq (.reg [fa 73 6 3,ld 74 73,fa 75 7 3,ld 76 75,fa 77 5 0,ld 78 77,ca 79 333 [S 74,S 76,S 78],mv 80 79,(N (80,L),.faddr 81 (S 6) 4),(N (80,L),.load 82 (S 81) L 1),(N (80,L),.faddr 83 (S 7) 4),(N (80,L),.load 84 (S 83) L 1),(N (80,L),.faddr 85 (S 5) 0),(N (80,L),.load 86 (S 85) L 1),(N (80,L),.call 87 333 [(S 82),(S 84),(S 86)]),po 88 80 87,mv 72 88]) A9m))))
def B7d:X2:= .seq (.reg [(O,.keep [4,5,6,7,24] [4,5,6,7] [])]) (.cond (S 24) (.seq (.reg [(O,.mv 8 (K 1))]) .ret) (.seq (.reg [fa 36 6 0,ld 37 36,fa 38 7 0,ld 39 38,bn 40 .eql 37 39,mv 35 40]) (.cond (S 35) (.seq (.reg [(O,.mv 8 (K 0))]) .ret) (.seq (.reg [fa 42 6 2,ld 43 42,fa 44 7 2,ld 45 44,(O,.beq 46 T (S 43) (S 45)),mv 47 46,(N (47,T),.load 48 (S 6) T 5),(N (47,T),.load 49 (S 7) T 5),(N (47,T),.call 50 332 [(S 48),(S 49)]),pa 51 47 50,mv 52 51,(N (52,T),.faddr 53 (S 5) 1),(N (52,T),.load 54 (S 53) L 1),(N (52,T),.mv 55 (S 54)),(N (55,L),.faddr 56 (S 4) 1),(N (55,L),.load 57 (S 56) L 1),(N (55,L),.faddr 58 (S 6) 1),(N (55,L),.load 59 (S 58) L 1),(N (55,L),.iaddr 60 (S 57) (S 59) 5),(N (55,L),.faddr 61 (S 60) 4),(N (55,L),.load 62 (S 61) L 1),(N (55,L),.un 63 .not (S 62)),(N (52,T),.pick 64 (S 55) (KB T) (S 63)),pa 65 52 64,mv 41 65]) C1s))))
def C0m:X2:= .seq (.reg [(O,.keep [4,5,6,7,9] [4,5,6,7] [])]) (.cond (S 9) (.seq (.reg [(O,.mv 8 (K 0))]) .ret) (.seq (.reg [fa 25 6 0,ld 26 25,fa 27 7 0,ld 28 27,bn 29 .eql 26 28,mv 30 29,(N (30,T),.load 31 (S 6) T 5),(N (30,T),.load 32 (S 7) T 5),(N (30,T),.call 33 332 [(S 31),(S 32)]),pa 34 30 33,mv 24 34]) B7d))
def B07:X2:=(.seq (.reg [(O,.mv 8 (K 0))]) .ret)
def cc398:X2:=(.seq (.reg [bo 4 0,bo 5 1,bo 6 2,bo 7 3,(O,.mv 8 (K 0))]) (.seq (.block 0 (.seq (.reg [fa 10 6 1,ld 11 10,fa 12 7 1,ld 13 12,bn 14 .neq 11 13,mv 15 14,(N (15,L),.faddr 16 (S 6) 1),(N (15,L),.load 17 (S 16) L 1),(N (15,L),.faddr 18 (S 4) 1),(N (15,L),.load 19 (S 18) L 1),(N (15,L),.len 20 (S 19)),(N (15,L),.call 21 94 [(S 17),(S 20)]),(N (15,L),.un 22 .not (S 21)),po 23 15 22,mv 9 23]) C0m)) B07))
theorem E2m(a2 a3:X4)(v22:V)(r:U)(h:A1f a2 a3 v22=N r)(σ:St)(hσ:σ.kept [6,7,72] [6,7] []=⟨[(6,vc (.pb 6 0)),(7,vc (.pb 7 0)),(72,vc (aB v22))],[(6,(dm a2.row)),(7,(dm a3.row))],[]⟩):go Z (.code A9m:: [.blk 0,.code B07]) (Ret [8] [.sc (.v (.int .i64 r))]) .normal (N σ):=by
 unfold A1f at h
 rcases ic h with ⟨h23,h⟩|⟨h23,h⟩
 ·try simp only[hσ,h23,A9m,C,E,F,G,H,J]
  cases h
  trivial
 ·rcases ic h with ⟨h24,h⟩|⟨h24,h⟩
  ·rcases ic h with ⟨h25,h⟩|⟨h25,h⟩
   ·try simp only[hσ,h23,h24,h25,A9m,C,E,F,G,H,J]
    cases h
    trivial
   ·rcases ic h with ⟨h26,h⟩|⟨h26,h⟩
    ·rcases ic h with ⟨h28,h⟩|⟨h28,h⟩
     ·try simp only[hσ,h23,h24,h25,h26,h28,A9m,C,E,F,G,H,J]
      cases h
      trivial
     ·try simp only[hσ,h23,h24,h25,h26,h28,A9m,B07,C,E,F,G,H,J]
      cases h
      trivial
    ·try simp only[hσ,h23,h24,h25,h26,A9m,B07,C,E,F,G,H,J]
     cases h
     trivial
  ·rcases ic h with ⟨h27,h⟩|⟨h27,h⟩
   ·rcases ic h with ⟨h29,h⟩|⟨h29,h⟩
    ·try simp only[hσ,h23,h24,h27,h29,A9m,C,E,F,G,H,J]
     cases h
     trivial
    ·try simp only[hσ,h23,h24,h27,h29,A9m,B07,C,E,F,G,H,J]
     cases h
     trivial
   ·try simp only[hσ,h23,h24,h27,A9m,B07,C,E,F,G,H,J]
    cases h
    trivial
theorem C6y(a1:Xl)(a2 a3:X4)(v15 v16:V)(r:U)(h:S2 a1 a2 a3 v15 v16=N r)(σ:St)(hσ:σ.kept [5,6,7,41] [5,6,7] []=⟨[(5,vc (.pb 5 0)),(6,vc (.pb 6 0)),(7,vc (.pb 7 0)),(41,vc (aB v15))],[(5,[aI a1.Gap,aB v16]),(6,(dm a2.row)),(7,(dm a3.row))],[]⟩):go Z (.code C1s:: [.blk 0,.code B07]) (Ret [8] [.sc (.v (.int .i64 r))]) .normal (N σ):=by
 unfold S2 at h
 rcases ic h with ⟨h17,h⟩|⟨h17,h⟩
 ·try simp only[hσ,h17,C1s,C,E,F,G,H,J]
  cases h
  trivial
 ·rcases ic h with ⟨h18,h⟩|⟨h18,h⟩
  ·obtain⟨r19,h19,h⟩:=ob h
   try simp only[hσ,h17,h18,C1s,C,E,F,G,H,J]
   refine A2 (B8p _ _ _ _ h19) X X (uf X) ?_
   rcases ic h with ⟨h20,h⟩|⟨h20,h⟩
   ·try simp only[h17,h18,h20,C,E,F,G,H,J]
    refine E2m _ _ _ _ h _ ?_
    try simp only[h17,h18,h20,C,E,F,G,H,J,I]
   ·obtain⟨r21,h21,h⟩:=ob h
    try simp only[h17,h18,h20,C,E,F,G,H,J]
    refine A2 (B8p _ _ _ _ h21) X X (uf X) ?_
    try simp only[h17,h18,h20,C,E,F,G,H,J]
    refine E2m _ _ _ _ h _ ?_
    try simp only[h17,h18,h20,C,E,F,G,H,J,I]
  ·try simp only[hσ,h17,h18,C1s,C,E,F,G,H,J]
   cases h
   trivial
theorem E2t(a0:X5)(a1:Xl)(a2 a3:X4)(v7:V)(r:U)(h:A1b a0 a1 a2 a3 v7=N r)(σ:St)(hσ:σ.kept [4,5,6,7,24] [4,5,6,7] []=⟨[(4,vc (.pb 4 0)),(5,vc (.pb 5 0)),(6,vc (.pb 6 0)),(7,vc (.pb 7 0)),(24,vc (aB v7))],[(4,(dm a0.row)),(5,(dm a1.row)),(6,(dm a2.row)),(7,(dm a3.row))],[]⟩):go Z (.code B7d:: [.blk 0,.code B07]) (Ret [8] [.sc (.v (.int .i64 r))]) .normal (N σ):=by
 unfold A1b at h
 rcases ic h with ⟨h8,h⟩|⟨h8,h⟩
 ·try simp only[hσ,h8,B7d,C,E,F,G,H,J]
  cases h
  trivial
 ·rcases ic h with ⟨h9,h⟩|⟨h9,h⟩
  ·try simp only[hσ,h8,h9,B7d,C,E,F,G,H,J]
   cases h
   trivial
  ·rcases ic h with ⟨h10,h⟩|⟨h10,h⟩
   ·try simp only[hσ,h8,h9,h10,B7d,C,E,F,G,H,J]
    refine C6y _ _ _ _ _ _ h _ ?_
    try simp only[h8,h9,h10,C,E,F,G,H,J,I]
   ·obtain⟨r11,h11,h⟩:=ob h
    try simp only[hσ,h8,h9,h10,B7d,C,E,F,G,H,J]
    refine A2 (B2m _ _ _ h11) X X (uf X) ?_
    rcases ic h with ⟨h12,h⟩|⟨h12,h⟩
    ·rcases ic h with ⟨h13,h⟩|⟨h13,h⟩
     ·try simp only[h8,h9,h10,h12,h13,C,E,F,G,H,J]
      refine C6y _ _ _ _ _ _ h _ ?_
      try simp only[h8,h9,h10,h12,h13,C,E,F,G,H,J,I]
     ·obtain⟨x14,h14,h⟩:=ob h
      try simp only[h8,h9,h10,h12,h13,h14,C,E,F,G,H,J]
      refine C6y _ _ _ _ _ _ h _ ?_
      try simp only[h8,h9,h10,h12,h13,h14,C,E,F,G,H,J,I]
    ·try simp only[h8,h9,h10,h12,C,E,F,G,H,J]
     refine C6y _ _ _ _ _ _ h _ ?_
     try simp only[h8,h9,h10,h12,C,E,F,G,H,J,I]
theorem E2x(a0:X5)(a1:Xl)(a2 a3:X4)(v3:V)(r:U)(h:A1e a0 a1 a2 a3 v3=N r)(σ:St)(hσ:σ.kept [4,5,6,7,9] [4,5,6,7] []=⟨[(4,vc (.pb 4 0)),(5,vc (.pb 5 0)),(6,vc (.pb 6 0)),(7,vc (.pb 7 0)),(9,vc (aB v3))],[(4,(dm a0.row)),(5,(dm a1.row)),(6,(dm a2.row)),(7,(dm a3.row))],[]⟩):go Z (.code C0m:: [.blk 0,.code B07]) (Ret [8] [.sc (.v (.int .i64 r))]) .normal (N σ):=by
 unfold A1e at h
 rcases ic h with ⟨h4,h⟩|⟨h4,h⟩
 ·try simp only[hσ,h4,C0m,C,E,F,G,H,J]
  cases h
  trivial
 ·rcases ic h with ⟨h5,h⟩|⟨h5,h⟩
  ·obtain⟨r6,h6,h⟩:=ob h
   try simp only[hσ,h4,h5,C0m,C,E,F,G,H,J]
   refine A2 (B2m _ _ _ h6) X X (uf X) ?_
   try simp only[h4,h5,C,E,F,G,H,J]
   refine E2t _ _ _ _ _ _ h _ ?_
   try simp only[h4,h5,C,E,F,G,H,J,I]
  ·try simp only[hσ,h4,h5,C0m,C,E,F,G,H,J]
   refine E2t _ _ _ _ _ _ h _ ?_
   try simp only[h4,h5,C,E,F,G,H,J,I]
theorem F2d:A5 Z 277=N (cc398.strip,[8],116):=by kernel_rfl
theorem C05(a0:X5)(a1:Xl)(a2 a3:X4)(r:U)(h:A40 a0 a1 a2 a3=N r):FC Z 277 [.ag (X5.row a0),.ag (Xl.row a1),.ag (X4.row a2),.ag (X4.row a3)] [.sc (.v (.int .i64 r))]:=by
 unfold A40 at h
 refine C4 A7 F2d X ?_
 simp only[cc398,C,E,F,G,H,J]
 try simp only[C,E,F,G,H,J]
 refine B2 X X X ?_
 try simp only[C,E,F,G,H,J]
 refine B2 X X X ?_
 try simp only[C,E,F,G,H,J]
 refine B2 X X X ?_
 try simp only[C,E,F,G,H,J]
 refine B2 X X X ?_
 rcases ic h with ⟨h1,h⟩|⟨h1,h⟩
 ·try simp only[h1,C,E,F,G,H,J]
  refine E2x _ _ _ _ _ _ h _ ?_
  try simp only[h1,C,E,F,G,H,J,I]
 ·obtain⟨r2,h2,h⟩:=ob h
  try simp only[h1,C,E,F,G,H,J]
  refine A2 (E2 _ _ _ h2) X X (uf X) ?_
  try simp only[h1,C,E,F,G,H,J]
  refine E2x _ _ _ _ _ _ h _ ?_
  try simp only[h1,C,E,F,G,H,J,I]
/- 201:impl_clashes -/
def C53:X2:= .seq (.reg [(O,.keep [3,4,5,10,13,14,15,19,20,21] [4,5,10] [])]) (.seq (.reg [bn 22 .lss 21 20]) (.seq (.cond (S 22) .skip (.exit 2)) (.seq (.block 3 (.seq (.reg [ia 23 19 21 5,lw 24 23 5,(O,.alloc 12 [aI 0,aI 0,aB L,aI 0,aI 0]),so 12 24 5]) (.seq (.reg [lw 25 4 2,lw 26 5 2,lw 27 10 5,lw 28 12 5,ca 29 277 [S 25,S 26,S 27,S 28],(O,.bin 30 .neq (S 29) (K 0))]) (.cond (S 30) (.seq (.reg [(O,.mv 8 (KB T))]) .ret) .skip)))) (.reg [(O,.bin 31 .add (S 21) (K 1)),mv 21 31]))))
def D5d:X2:=(.reg [(O,.bin 32 .add (S 15) (K 1)),mv 15 32])
def B7p:X2:= .seq (.reg [(O,.keep [3,4,5,13,14,15] [4,5] [])]) (.seq (.reg [bn 16 .lss 15 14]) (.seq (.cond (S 16) .skip (.exit 0)) (.seq (.block 1 (.seq (.reg [ia 17 13 15 5,lw 18 17 5,(O,.alloc 10 [aI 0,aI 0,aB L,aI 0,aI 0]),so 10 18 5]) (.seq (.reg [mv 19 3,ln 20 19,(O,.mv 21 (K 0))]) (.block 2 (.loop C53))))) D5d)))
def C07:X2:=(.seq (.reg [(O,.mv 8 (KB L))]) .ret)
def cc408:X2:=(.seq (.reg [bo 4 0,bo 5 1,(O,.mv 8 (KB L))]) (.seq (.seq (.reg [mv 13 2,ln 14 13,(O,.mv 15 (K 0))]) (.block 0 (.loop B7p))) C07))
theorem F4c(a3 a2:P X4)(v1:U)(a0:X5)(a1:Xl)(x3:X4)(A36:U→Q V)(B8l:∀(v1:U) zr,A36 v1=N zr→∀σ:St,σ.kept [3,4,5,13,14,15] [4,5] []=⟨[(3,vc (aL (Y X4.row a3))),(4,vc (.pb 4 0)),(5,vc (.pb 5 0)),(13,vc (aL (Y X4.row a2))),(14,vc (aI (a2.length:U))),(15,vc (aI v1))],[(4,(dm a0.row)),(5,(dm a1.row))],[]⟩→go Z (.code (.loop B7p):: [.blk 0,.code C07]) (Ret [8] [.sc (.v (.bool zr))]) .normal (N σ)):∀(n:W) (v4:U) (r:V),Z9 a3 a2 v1 a0 a1 x3 A36 n v4=N r→∀σ:St,σ.kept [3,4,5,10,13,14,15,19,20,21] [4,5,10] []=⟨[(3,vc (aL (Y X4.row a3))),(4,vc (.pb 4 0)),(5,vc (.pb 5 0)),(10,vc (.pb 10 0)),(13,vc (aL (Y X4.row a2))),(14,vc (aI (a2.length:U))),(15,vc (aI v1)),(19,vc (aL (Y X4.row a3))),(20,vc (aI (a3.length:U))),(21,vc (aI v4))],[(4,(dm a0.row)),(5,(dm a1.row)),(10,(dm x3.row))],[]⟩→go Z (.code (.loop C53):: [.blk 2,.blk 1,.code D5d,.code (.loop B7p),.blk 0,.code C07]) (Ret [8] [.sc (.v (.bool r))]) .normal (N σ):=by
 intro n
 induction n with
 | zero=>intro _ r h; cases h
 | succ n ih=>
  intro v4 r h σ hσ
  rw[Z9] at h
  refine B0 ?_
  rcases ic h with ⟨h5,h⟩|⟨h5,h⟩
  ·obtain⟨x6,h6,h⟩:=ob h
   try simp only[hσ,h5,h6,C53,C,E,F,G,H,J]
   refine D7 X X ?_
   obtain⟨r7,h7,h⟩:=ob h
   try simp only[h5,h6,C,E,F,G,H,J]
   refine A2 (C05 _ _ _ _ _ h7) X X (uf X) ?_
   rcases ic h with ⟨h8,h⟩|⟨h8,h⟩
   ·try simp only[h5,h6,h8,C,E,F,G,H,J]
    cases h
    trivial
   ·try simp only[h5,h6,h8,C,E,F,G,H,J]
    refine ih _ _ h _ ?_
    try simp only[h5,h6,h8,C,E,F,G,H,J,I]
  ·try simp only[hσ,h5,C53,D5d,C,E,F,G,H,J]
   refine B8l _ _ h _ ?_
   try simp only[h5,C,E,F,G,H,J,I]
theorem F3e(a3 a2:P X4)(a0:X5)(a1:Xl):∀(n:W) (v1:U) (r:V),Q4 a3 a2 a0 a1 n v1=N r→∀σ:St,σ.kept [3,4,5,13,14,15] [4,5] []=⟨[(3,vc (aL (Y X4.row a3))),(4,vc (.pb 4 0)),(5,vc (.pb 5 0)),(13,vc (aL (Y X4.row a2))),(14,vc (aI (a2.length:U))),(15,vc (aI v1))],[(4,(dm a0.row)),(5,(dm a1.row))],[]⟩→go Z (.code (.loop B7p):: [.blk 0,.code C07]) (Ret [8] [.sc (.v (.bool r))]) .normal (N σ):=by
 intro n
 induction n with
 | zero=>intro _ r h; cases h
 | succ n ih=>
  intro v1 r h σ hσ
  rw[Q4] at h
  refine B0 ?_
  rcases ic h with ⟨h2,h⟩|⟨h2,h⟩
  ·obtain⟨x3,h3,h⟩:=ob h
   try simp only[hσ,h2,h3,B7p,C,E,F,G,H,J]
   refine D7 X X ?_
   try simp only[h2,h3,C,E,F,G,H,J]
   refine F4c _ _ _ _ _ _ (Q4 a3 a2 a0 a1 n) ih _ _ _ h _ ?_
   try simp only[h2,h3,C,E,F,G,H,J,I]
  ·try simp only[hσ,h2,B7p,C07,C,E,F,G,H,J]
   cases h
   trivial
theorem F7x:A5 Z 201=N (cc408.strip,[8],33):=by kernel_rfl
theorem C2x(a0:X5)(a1:Xl)(a2 a3:P X4)(r:V)(h:A7a a0 a1 a2 a3=N r):FC Z 201 [.ag (X5.row a0),.ag (Xl.row a1),.sc (.sl (Y X4.row a2)),.sc (.sl (Y X4.row a3))] [.sc (.v (.bool r))]:=by
 unfold A7a at h
 refine C4 A7 F7x X ?_
 simp only[cc408,C,E,F,G,H,J]
 try simp only[C,E,F,G,H,J]
 refine B2 X X X ?_
 try simp only[C,E,F,G,H,J]
 refine B2 X X X ?_
 try simp only[C,E,F,G,H,J]
 refine F3e _ _ _ _ _ _ _ h _ ?_
 try simp only[C,E,F,G,H,J,I]
/- 203:impl_clone_Option -/
def cc412:X2:=(.seq (.reg [(O,.mv 2 KN)]) (.seq (.reg [mv 3 0,ln 4 3,(O,.mksl 5 4 48 [.int .i64 0,.int .i64 0,.int .i64 0,.sl []] (K 0) (S 4)),mv 6 0,(O,.app 7 4 48 (S 5) (S 6)),mv 2 7]) .ret))
theorem F8e:A5 Z 203=N (cc412.strip,[2],8):=by kernel_rfl
theorem A80(a0:P X0)(r:(P X0))(h:J9 a0=N r):FC Z 203 [.sc (.sl (Y X0.row a0))] [.sc (.o 4 (Y X0.row r))]:=by
 unfold J9 at h
 refine C4 A7 F8e X ?_
 simp only[cc412,C,E,F,G,H,J]
 obtain⟨n1,hn1,h⟩:=ob h
 try simp only[C,E,F,G,H,J]
 refine B3r (es:=Y X0.row (List.replicate n1 (⟨(0:U),(0:U),(0:U),([]:P X4)⟩:X0))) X X hn1 X (B1g X) X ?_
 obtain⟨h2,h⟩:=D3 h
 try simp only[h2,C,E,F,G,H,J]
 cases h
 trivial
/- 334:impl_Passage_ends -/
def cc414:X2:=(.seq (.reg [bo 2 0,bo 3 1,(O,.mv 4 (K 0)),(O,.mv 5 (K 0))]) (.seq (.reg [fa 7 3 1,ld 8 7,fa 9 2 1,ld 10 9,ia 11 8 10 5,lw 12 11 5,(O,.alloc 6 [aI 0,aI 0,aI 0,aI 0,aB L]),so 6 12 5]) (.seq (.seq (.reg [fa 13 2 2,ld 14 13]) (.cond (S 14) (.seq (.drw [o0 (fa 15 6 0),o0 (ld 16 15),o0 (fa 17 6 1),o0 (ld 18 17),o0 (mv 4 16),o0 (mv 5 18)]) .ret) .skip)) (.seq (.drw [o0 (fa 19 6 1),o0 (ld 20 19),o0 (fa 21 6 0),o0 (ld 22 21),o0 (mv 4 20),o0 (mv 5 22)]) .ret))))
theorem F7c:A5 Z 334=N (cc414.strip,[4,5],23):=by kernel_rfl
theorem A8z(a0:X4)(a1:X5)(r:U × U)(h:Y7 a0 a1=N r):FC Z 334 [.ag (X4.row a0),.ag (X5.row a1)] [.sc (.v (.int .i64 r.1)),.sc (.v (.int .i64 r.2))]:=by
 unfold Y7 at h
 refine C4 A7 F7c X ?_
 simp only[cc414,C,E,F,G,H,J]
 try simp only[C,E,F,G,H,J]
 refine B2 X X X ?_
 try simp only[C,E,F,G,H,J]
 refine B2 X X X ?_
 obtain⟨x1,h1,h⟩:=ob h
 try simp only[h1,C,E,F,G,H,J]
 refine D7 X X ?_
 rcases ic h with ⟨h2,h⟩|⟨h2,h⟩
 ·try simp only[h1,h2,C,E,F,G,H,J]
  refine C3 X ?_
  try simp only[h1,h2,C,E,F,G,H,J]
  cases h
  trivial
 ·try simp only[h1,h2,C,E,F,G,H,J]
  refine C3 X ?_
  try simp only[h1,h2,C,E,F,G,H,J]
  cases h
  trivial
/- 278:impl_duty -/
def cc416:X2:=(.seq (.reg [bo 3 0,bo 4 1,bo 5 2,(O,.alloc 6 [aI 0,aI 0,aI 0,aI 0])]) (.seq (.reg [lw 12 4 5,lw 13 3 2,ca 14 334 [S 12,S 13],mv 11 14,xt 15 11 0,xt 16 11 1,mv 7 15,mv 8 16]) (.seq (.reg [lw 18 5 5,lw 19 3 2,ca 20 334 [S 18,S 19],mv 17 20,xt 21 17 0,xt 22 17 1,mv 9 21,mv 10 22]) (.seq (.reg [fa 23 4 3,ld 24 23,fa 25 5 4,ld 26 25,mv 27 7,mv 28 10,(O,.build 29 [aI 0,aI 0,aI 0,aI 0] [(0,1,(S 24)),(1,1,(S 26)),(2,1,(S 27)),(3,1,(S 28))]),so 6 29 4]) .ret))))
theorem F6q:A5 Z 278=N (cc416.strip,[.c 6 T 4],30):=by kernel_rfl
theorem B8w(a0:X5)(a1 a2:X4)(r:Xe)(h:A6n a0 a1 a2=N r):FC Z 278 [.ag (X5.row a0),.ag (X4.row a1),.ag (X4.row a2)] [.ag [.v (.int .i64 r.From),.v (.int .i64 r.To),.v (.int .i64 r.A),.v (.int .i64 r.B)]]:=by
 unfold A6n at h
 refine C4 A7 F6q X ?_
 simp only[cc416,C,E,F,G,H,J]
 try simp only[C,E,F,G,H,J]
 refine B2 X X X ?_
 try simp only[C,E,F,G,H,J]
 refine B2 X X X ?_
 try simp only[C,E,F,G,H,J]
 refine B2 X X X ?_
 try simp only[C,E,F,G,H,J]
 refine D7 X X ?_
 obtain⟨r1,h1,h⟩:=ob h
 try simp only[C,E,F,G,H,J]
 refine A2 (A8z _ _ _ h1) X X (uf X) ?_
 obtain⟨r2,h2,h⟩:=ob h
 try simp only[C,E,F,G,H,J]
 refine A2 (A8z _ _ _ h2) X X (uf X) ?_
 try simp only[C,E,F,G,H,J]
 cases h
 try simp only[Q8,C,E,F,G,H,J]
 trivial
/- 205:impl_passageOk -/
def cc418:X2:=(.seq (.reg [bo 3 0,bo 5 2,(O,.mv 6 (KB L))]) (.seq (.seq (.reg [fa 7 5 0,ld 8 7,mv 9 1,ln 10 9,ca 11 94 [S 8,S 10],nt 12 11,mv 13 12,(N (13,L),.faddr 14 (S 5) 1),(N (13,L),.load 15 (S 14) L 1),(N (13,L),.faddr 16 (S 3) 1),(N (13,L),.load 17 (S 16) L 1),(N (13,L),.len 18 (S 17)),(N (13,L),.call 19 94 [(S 15),(S 18)]),(N (13,L),.un 20 .not (S 19)),po 21 13 20,mv 22 21,(N (22,L),.faddr 23 (S 5) 3),(N (22,L),.load 24 (S 23) L 1),(N (22,L),.call 25 117 [(S 24)]),(N (22,L),.un 26 .not (S 25)),po 27 22 26,mv 28 27,(N (28,L),.faddr 29 (S 5) 4),(N (28,L),.load 30 (S 29) L 1),(N (28,L),.bin 31 .gtr (S 30) (K 2880)),po 32 28 31]) (.cond (S 32) (.seq (.reg [(O,.mv 6 (KB L))]) .ret) .skip)) (.seq (.drw [(N [48],fa 33 5 4),(N [48],ld 34 33),(N [48],fa 35 5 3),(N [48],ld 36 35),o0 (mv 37 1),o0 (fa 38 5 0),o0 (ld 39 38),o0 (ia 40 37 39 6),o0 (lw 41 40 6),o0 (fa 42 3 1),o0 (ld 43 42),o0 (fa 44 5 1),o0 (ld 45 44),o0 (ia 46 43 45 5),o0 (lw 47 46 5),o0 (ca 48 272 [S 41,S 47]),o0 (bn 49 .add 36 48),o0 (bn 50 .eql 34 49),o0 (mv 6 50)]) .ret)))
theorem F7k:A5 Z 205=N (cc418.strip,[6],51):=by kernel_rfl
theorem B9q(a0:X5)(a1:P Xb)(a2:X4)(r:V)(h:A3y a0 a1 a2=N r):FC Z 205 [.ag (X5.row a0),.sc (.sl (Y zC a1)),.ag (X4.row a2)] [.sc (.v (.bool r))]:=by
 unfold A3y at h
 refine C4 A7 F7k X ?_
 simp only[cc418,C,E,F,G,H,J]
 try simp only[C,E,F,G,H,J]
 refine B2 X X X ?_
 try simp only[C,E,F,G,H,J]
 refine B2 X X X ?_
 obtain⟨r1,h1,h⟩:=ob h
 try simp only[C,E,F,G,H,J]
 refine A2 (E2 _ _ _ h1) X X (uf X) ?_
 rcases ic h with ⟨h2,h⟩|⟨h2,h⟩
 ·obtain⟨r3,h3,h⟩:=ob h
  try simp only[h2,C,E,F,G,H,J]
  refine A2 (E2 _ _ _ h3) X X (uf X) ?_
  rcases ic h with ⟨h4,h⟩|⟨h4,h⟩
  ·obtain⟨r5,h5,h⟩:=ob h
   try simp only[h2,h4,C,E,F,G,H,J]
   refine A2 (T8 _ _ h5) X X (uf X) ?_
   rcases ic h with ⟨h6,h⟩|⟨h6,h⟩
   ·rcases ic h with ⟨h7,h⟩|⟨h7,h⟩
    ·try simp only[h2,h4,h6,h7,C,E,F,G,H,J]
     cases h
     trivial
    ·try simp only[h2,h4,h6,h7,C,E,F,G,H,J]
     refine C3 X ?_
     obtain⟨x8,h8,h⟩:=ob h
     obtain⟨x9,h9,h⟩:=ob h
     obtain⟨r10,h10,h⟩:=ob h
     try simp only[h2,h4,h6,h7,h8,h9,C,E,F,G,H,J]
     refine F9 (A1t _ _ _ h10) X X (uf X) ?_
     try simp only[h2,h4,h6,h7,h8,h9,C,E,F,G,H,J]
     cases h
     trivial
   ·try simp only[h2,h4,h6,C,E,F,G,H,J]
    cases h
    trivial
  ·try simp only[h2,h4,C,E,F,G,H,J]
   cases h
   trivial
 ·try simp only[h2,C,E,F,G,H,J]
  cases h
  trivial
/- 335:impl_PassageOk -/
def cc420:X2:=(.seq (.reg [bo 3 0,bo 5 2,(O,.mv 6 (KB L))]) (.seq (.reg [lw 7 3 2,ca 8 93 [S 7],mv 9 8,(N (9,T),.mv 10 (S 1)),(N (9,T),.call 11 183 [(S 10)]),pa 12 9 11,mv 13 12,(N (13,T),.load 14 (S 3) T 2),(N (13,T),.mv 15 (S 1)),(N (13,T),.load 16 (S 5) T 5),(N (13,T),.call 17 205 [(S 14),(S 15),(S 16)]),pa 18 13 17,mv 6 18]) .ret))
theorem F14:A5 Z 335=N (cc420.strip,[6],19):=by kernel_rfl
theorem B82(a0:X5)(a1:P Xb)(a2:X4)(r:V)(h:A3r a0 a1 a2=N r):FC Z 335 [.ag (X5.row a0),.sc (.sl (Y zC a1)),.ag (X4.row a2)] [.sc (.v (.bool r))]:=by
 unfold A3r at h
 refine C4 A7 F14 X ?_
 simp only[cc420,C,E,F,G,H,J]
 try simp only[C,E,F,G,H,J]
 refine B2 X X X ?_
 try simp only[C,E,F,G,H,J]
 refine B2 X X X ?_
 obtain⟨r1,h1,h⟩:=ob h
 try simp only[C,E,F,G,H,J]
 refine A2 (W1 _ _ h1) X X (uf X) ?_
 rcases ic h with ⟨h2,h⟩|⟨h2,h⟩
 ·obtain⟨r3,h3,h⟩:=ob h
  try simp only[h2,C,E,F,G,H,J]
  refine A2 (B3w _ _ h3) X X (uf X) ?_
  rcases ic h with ⟨h4,h⟩|⟨h4,h⟩
  ·obtain⟨r5,h5,h⟩:=ob h
   try simp only[h2,h4,C,E,F,G,H,J]
   refine A2 (B9q _ _ _ _ h5) X X (uf X) ?_
   try simp only[h2,h4,C,E,F,G,H,J]
   cases h
   trivial
  ·try simp only[h2,h4,C,E,F,G,H,J]
   cases h
   trivial
 ·try simp only[h2,C,E,F,G,H,J]
  cases h
  trivial
/- 279:impl_tugDuties -/
def C0i:X2:= .seq (.reg [(O,.keep [1,3,8,10,12,13,14,28,29] [3,10] [704])]) (.seq (.reg [bn 30 .lss 29 28]) (.seq (.cond (S 30) .skip (.exit 2)) (.seq (.block 3 (.reg [mv 31 8,lw 32 3 2,lw 33 10 5,lw 34 10 5,ca 35 278 [S 32,S 33,S 34],(O,.bslice 36 4 [.int .i64 0,.int .i64 0,.int .i64 0,.int .i64 0] 1 [(0,(S 35))]),(O,.app 37 4 32 (S 31) (S 36)),mv 8 37])) (.reg [(O,.bin 38 .add (S 29) (K 1)),mv 29 38]))))
def C5p:X2:=(.seq (.reg [mv 39 8,ln 40 39,(O,.bin 41 .gtr (S 40) (K 12))]) (.cond (S 41) (.seq (.reg [(O,.mv 6 KN),(O,.mv 7 (KB L))]) .ret) .skip))
def D37:X2:=(.reg [(O,.bin 42 .add (S 14) (K 1)),mv 14 42])
def B7w:X2:= .seq (.reg [(O,.keep [1,3,8,12,13,14] [3] [704])]) (.seq (.reg [bn 15 .lss 14 13]) (.seq (.cond (S 15) .skip (.exit 0)) (.seq (.block 1 (.seq (.reg [ia 16 12 14 5,lw 17 16 5,(O,.alloc 10 [aI 0,aI 0,aB L,aI 0,aI 0]),so 10 17 5]) (.seq (.seq (.reg [lw 18 3 2,mv 19 1,lw 20 10 5,ca 21 335 [S 18,S 19,S 20],nt 22 21]) (.cond (S 22) (.seq (.reg [(O,.mv 6 KN),(O,.mv 7 (KB L))]) .ret) .skip)) (.seq (.seq (.reg [mv 23 1,fa 24 10 0,ld 25 24,ia 26 23 25 6,fa 27 26 4,ld 28 27,(O,.mv 29 (K 0))]) (.block 2 (.loop C0i))) C5p)))) D37)))
def C0l:X2:=(.seq (.reg [mv 43 8,mv 6 43,(O,.mv 7 (KB T))]) .ret)
def cc427:X2:=(.seq (.reg [bo 3 0,(O,.mv 6 KN),(O,.mv 7 (KB L))]) (.seq (.reg [(O,.bslice 11 4 [.int .i64 0,.int .i64 0,.int .i64 0,.int .i64 0] 0 []),mv 8 11]) (.seq (.seq (.reg [mv 12 2,ln 13 12,(O,.mv 14 (K 0))]) (.block 0 (.loop B7w))) C0l)))
theorem F4f(a1:P Xb)(a2:P X4)(v1:U)(x7:Xb)(a0:X5)(x4:X4)(A2g:U→(P Xe)→Q ((P Xe) × V))(B5h:∀(v1:U) (v2:P Xe) zr,A2g v1 v2=N zr→∀σ:St,σ.kept [1,3,8,12,13,14] [3] [704]=⟨[(1,vc (aL (Y zC a1))),(3,vc (.pb 3 0)),(8,vc (.own 704)),(12,vc (aL (Y X4.row a2))),(13,vc (aI (a2.length:U))),(14,vc (aI v1))],[(3,(dm a0.row))],[(704,4,Y zB v2)]⟩→go Z (.code (.loop B7w):: [.blk 0,.code C0l]) (Ret [6,7] [.sc (.o 4 (Y zB zr.1)),.sc (.v (.bool zr.2))]) .normal (N σ)):∀(n:W) (v8:U) (v9:P Xe) (r:(P Xe) × V),P5 a1 a2 v1 x7 a0 x4 A2g n v8 v9=N r→∀σ:St,σ.kept [1,3,8,10,12,13,14,28,29] [3,10] [704]=⟨[(1,vc (aL (Y zC a1))),(3,vc (.pb 3 0)),(8,vc (.own 704)),(10,vc (.pb 10 0)),(12,vc (aL (Y X4.row a2))),(13,vc (aI (a2.length:U))),(14,vc (aI v1)),(28,vc (aI x7.Tugs)),(29,vc (aI v8))],[(3,(dm a0.row)),(10,(dm x4.row))],[(704,4,Y zB v9)]⟩→go Z (.code (.loop C0i):: [.blk 2,.code C5p,.blk 1,.code D37,.code (.loop B7w),.blk 0,.code C0l]) (Ret [6,7] [.sc (.o 4 (Y zB r.1)),.sc (.v (.bool r.2))]) .normal (N σ):=by
 intro n
 induction n with
 | zero=>intro _ _ r h; cases h
 | succ n ih=>
  intro v8 v9 r h σ hσ
  rw[P5] at h
  refine B0 ?_
  rcases ic h with ⟨h10,h⟩|⟨h10,h⟩
  ·obtain⟨r11,h11,h⟩:=ob h
   try simp only[hσ,h10,C0i,C,E,F,G,H,J]
   refine A2 (B8w _ _ _ _ h11) X X (uf X) ?_
   try simp only[h10,C,E,F,G,H,J]
   refine C7 (es:=Y zB ([r11]:P Xe)) X X ?_
   obtain⟨h12,h⟩:=D3 h
   try simp only[h10,h12,C,E,F,G,H,J]
   refine ih _ _ _ h _ ?_
   try simp only[h10,h12,C,E,F,G,H,J,I]
  ·rcases ic h with ⟨h13,h⟩|⟨h13,h⟩
   ·try simp only[hσ,h10,h13,C0i,C5p,C,E,F,G,H,J]
    cases h
    trivial
   ·try simp only[hσ,h10,h13,C0i,C5p,D37,C,E,F,G,H,J]
    refine B5h _ _ _ h _ ?_
    try simp only[h10,h13,C,E,F,G,H,J,I]
theorem F4k(a1:P Xb)(a2:P X4)(a0:X5):∀(n:W) (v1:U) (v2:P Xe) (r:(P Xe) × V),L2 a1 a2 a0 n v1 v2=N r→∀σ:St,σ.kept [1,3,8,12,13,14] [3] [704]=⟨[(1,vc (aL (Y zC a1))),(3,vc (.pb 3 0)),(8,vc (.own 704)),(12,vc (aL (Y X4.row a2))),(13,vc (aI (a2.length:U))),(14,vc (aI v1))],[(3,(dm a0.row))],[(704,4,Y zB v2)]⟩→go Z (.code (.loop B7w):: [.blk 0,.code C0l]) (Ret [6,7] [.sc (.o 4 (Y zB r.1)),.sc (.v (.bool r.2))]) .normal (N σ):=by
 intro n
 induction n with
 | zero=>intro _ _ r h; cases h
 | succ n ih=>
  intro v1 v2 r h σ hσ
  rw[L2] at h
  refine B0 ?_
  rcases ic h with ⟨h3,h⟩|⟨h3,h⟩
  ·obtain⟨x4,h4,h⟩:=ob h
   try simp only[hσ,h3,h4,B7w,C,E,F,G,H,J]
   refine D7 X X ?_
   obtain⟨r5,h5,h⟩:=ob h
   try simp only[h3,h4,C,E,F,G,H,J]
   refine A2 (B82 _ _ _ _ h5) X X (uf X) ?_
   rcases ic h with ⟨h6,h⟩|⟨h6,h⟩
   ·obtain⟨x7,h7,h⟩:=ob h
    try simp only[h3,h4,h6,h7,C,E,F,G,H,J]
    refine F4f _ _ _ _ _ _ (L2 a1 a2 a0 n) ih _ _ _ _ h _ ?_
    try simp only[h3,h4,h6,h7,C,E,F,G,H,J,I]
   ·try simp only[h3,h4,h6,C,E,F,G,H,J]
    cases h
    trivial
  ·try simp only[hσ,h3,B7w,C0l,C,E,F,G,H,J]
   cases h
   trivial
theorem F76:A5 Z 279=N (cc427.strip,[6,7],44):=by kernel_rfl
theorem B9c(a0:X5)(a1:P Xb)(a2:P X4)(r:(P Xe) × V)(h:A5z a0 a1 a2=N r):FC Z 279 [.ag (X5.row a0),.sc (.sl (Y zC a1)),.sc (.sl (Y X4.row a2))] [.sc (.o 4 (Y zB r.1)),.sc (.v (.bool r.2))]:=by
 unfold A5z at h
 refine C4 A7 F76 X ?_
 simp only[cc427,C,E,F,G,H,J]
 try simp only[C,E,F,G,H,J]
 refine B2 X X X ?_
 try simp only[C,E,F,G,H,J]
 refine C7 (es:=Y zB ([]:P Xe)) X X ?_
 try simp only[C,E,F,G,H,J]
 refine F4k _ _ _ _ _ _ _ h _ ?_
 try simp only[C,E,F,G,H,J,I]
/- 378:impl_DutiesOk -/
def C6n:X2:= .seq (.reg [(O,.keep [8,9,10] [] [])]) (.seq (.reg [bn 11 .lss 10 9]) (.seq (.cond (S 11) .skip (.exit 0)) (.seq (.block 1 (.seq (.reg [ia 12 8 10 4,lw 13 12 4,(O,.alloc 4 [aI 0,aI 0,aI 0,aI 0]),so 4 13 4]) (.seq (.reg [fa 14 4 0,ld 15 14,(O,.bin 16 .lss (S 15) (K 0)),mv 17 16,(N (17,L),.faddr 18 (S 4) 0),(N (17,L),.load 19 (S 18) L 1),(N (17,L),.faddr 20 (S 4) 1),(N (17,L),.load 21 (S 20) L 1),(N (17,L),.bin 22 .geq (S 19) (S 21)),po 23 17 22,mv 24 23,(N (24,L),.faddr 25 (S 4) 1),(N (24,L),.load 26 (S 25) L 1),(N (24,L),.bin 27 .gtr (S 26) (K 2880)),po 28 24 27,mv 29 28,(N (29,L),.faddr 30 (S 4) 2),(N (29,L),.load 31 (S 30) L 1),(N (29,L),.call 32 94 [(S 31),(K 8)]),(N (29,L),.un 33 .not (S 32)),po 34 29 33,mv 35 34,(N (35,L),.faddr 36 (S 4) 3),(N (35,L),.load 37 (S 36) L 1),(N (35,L),.call 38 94 [(S 37),(K 8)]),(N (35,L),.un 39 .not (S 38)),po 40 35 39]) (.cond (S 40) (.seq (.reg [(O,.mv 2 (KB L))]) .ret) .skip)))) (.reg [(O,.bin 41 .add (S 10) (K 1)),mv 10 41]))))
def D2b:X2:=(.seq (.reg [(O,.mv 2 (KB T))]) .ret)
def cc433:X2:=(.seq (.reg [(O,.mv 2 (KB L))]) (.seq (.seq (.reg [mv 5 0,ln 6 5,(O,.bin 7 .gtr (S 6) (K 12))]) (.cond (S 7) (.seq (.reg [(O,.mv 2 (KB L))]) .ret) .skip)) (.seq (.seq (.reg [mv 8 0,ln 9 8,(O,.mv 10 (K 0))]) (.block 0 (.loop C6n))) D2b)))
theorem F25(a0:P Xe):∀(n:W) (v2:U) (r:V),W7 a0 n v2=N r→∀σ:St,σ.kept [8,9,10] [] []=⟨[(8,vc (aL (Y zB a0))),(9,vc (aI (a0.length:U))),(10,vc (aI v2))],[],[]⟩→go Z (.code (.loop C6n):: [.blk 0,.code D2b]) (Ret [2] [.sc (.v (.bool r))]) .normal (N σ):=by
 intro n
 induction n with
 | zero=>intro _ r h; cases h
 | succ n ih=>
  intro v2 r h σ hσ
  rw[W7] at h
  refine B0 ?_
  rcases ic h with ⟨h3,h⟩|⟨h3,h⟩
  ·obtain⟨x4,h4,h⟩:=ob h
   try simp only[hσ,h3,h4,C6n,C,E,F,G,H,J]
   refine D7 X X ?_
   rcases ic h with ⟨h5,h⟩|⟨h5,h⟩
   ·try simp only[h3,h4,h5,C,E,F,G,H,J]
    cases h
    trivial
   ·rcases ic h with ⟨h6,h⟩|⟨h6,h⟩
    ·try simp only[h3,h4,h5,h6,C,E,F,G,H,J]
     cases h
     trivial
    ·rcases ic h with ⟨h7,h⟩|⟨h7,h⟩
     ·try simp only[h3,h4,h5,h6,h7,C,E,F,G,H,J]
      cases h
      trivial
     ·obtain⟨r9,h9,h⟩:=ob h
      try simp only[h3,h4,h5,h6,h7,C,E,F,G,H,J]
      refine A2 (E2 _ _ _ h9) X X (uf X) ?_
      rcases ic h with ⟨h10,h⟩|⟨h10,h⟩
      ·obtain⟨r11,h11,h⟩:=ob h
       try simp only[h3,h4,h5,h6,h7,h10,C,E,F,G,H,J]
       refine A2 (E2 _ _ _ h11) X X (uf X) ?_
       rcases ic h with ⟨h12,h⟩|⟨h12,h⟩
       ·try simp only[h3,h4,h5,h6,h7,h10,h12,C,E,F,G,H,J]
        refine ih _ _ h _ ?_
        try simp only[h3,h4,h5,h6,h7,h10,h12,C,E,F,G,H,J,I]
       ·try simp only[h3,h4,h5,h6,h7,h10,h12,C,E,F,G,H,J]
        cases h
        trivial
      ·try simp only[h3,h4,h5,h6,h7,h10,C,E,F,G,H,J]
       cases h
       trivial
  ·try simp only[hσ,h3,C6n,D2b,C,E,F,G,H,J]
   cases h
   trivial
theorem F39:A5 Z 378=N (cc433.strip,[2],42):=by kernel_rfl
theorem A8q(a0:P Xe)(r:V)(h:A02 a0=N r):FC Z 378 [.sc (.sl (Y zB a0))] [.sc (.v (.bool r))]:=by
 unfold A02 at h
 refine C4 A7 F39 X ?_
 simp only[cc433,C,E,F,G,H,J]
 rcases ic h with ⟨h1,h⟩|⟨h1,h⟩
 ·try simp only[h1,C,E,F,G,H,J]
  cases h
  trivial
 ·try simp only[h1,C,E,F,G,H,J]
  refine F25 _ _ _ _ h _ ?_
  try simp only[h1,C,E,F,G,H,J,I]
/- 363:impl_coverable -/
def cc436:X2:=(.seq (.reg [(O,.mv 6 (KB L))]) (.seq (.reg [mv 7 2,ca 8 378 [S 7],mv 9 8,(N (9,T),.mv 10 (S 0)),(N (9,T),.call 11 117 [(S 10)]),pa 12 9 11,mv 13 12,(N (13,T),.mv 14 (S 1)),(N (13,T),.call 15 268 [(S 14)]),pa 16 13 15,mv 6 16]) .ret))
theorem F3v:A5 Z 363=N (cc436.strip,[6],17):=by kernel_rfl
theorem B9e(a0:U)(a1:P U)(a2:P Xe)(r:V)(h:A11 a0 a1 a2=N r):FC Z 363 [.sc (.int .i64 a0),.sc (.sl (Y rI a1)),.sc (.sl (Y zB a2))] [.sc (.v (.bool r))]:=by
 unfold A11 at h
 refine C4 A7 F3v X ?_
 simp only[cc436,C,E,F,G,H,J]
 obtain⟨r1,h1,h⟩:=ob h
 try simp only[C,E,F,G,H,J]
 refine A2 (A8q _ _ h1) X X (uf X) ?_
 rcases ic h with ⟨h2,h⟩|⟨h2,h⟩
 ·obtain⟨r3,h3,h⟩:=ob h
  try simp only[h2,C,E,F,G,H,J]
  refine A2 (T8 _ _ h3) X X (uf X) ?_
  rcases ic h with ⟨h4,h⟩|⟨h4,h⟩
  ·obtain⟨r5,h5,h⟩:=ob h
   try simp only[h2,h4,C,E,F,G,H,J]
   refine A2 (A9a _ _ h5) X X (uf X) ?_
   try simp only[h2,h4,C,E,F,G,H,J]
   cases h
   trivial
  ·try simp only[h2,h4,C,E,F,G,H,J]
   cases h
   trivial
 ·try simp only[h2,C,E,F,G,H,J]
  cases h
  trivial
/- 391:impl_Gap -/
def C6f:X2:= .seq (.reg [(O,.keep [0,1,6,7,29] [6,7] [])]) (.cond (S 29) (.seq (.reg [(O,.mv 8 (K 0)),(O,.mv 9 (KB L))]) .ret) .skip)
def D3e:X2:=(.seq (.reg [mv 30 0,mv 31 1,fa 32 6 3,ld 33 32,(O,.bin 34 .mul (K 8) (S 33)),fa 35 7 2,ld 36 35,bn 37 .add 34 36,ia 38 31 37 1,ld 39 38,bn 40 .add 30 39,mv 8 40,(O,.mv 9 (KB T))]) .ret)
def cc440:X2:=(.seq (.reg [bo 6 2,bo 7 3,(O,.mv 8 (K 0)),(O,.mv 9 (KB L))]) (.seq (.seq (.reg [mv 10 0,ca 11 117 [S 10],nt 12 11,mv 13 12,(N (13,L),.mv 14 (S 1)),(N (13,L),.call 15 268 [(S 14)]),(N (13,L),.un 16 .not (S 15)),po 17 13 16,mv 18 17,(N (18,L),.faddr 19 (S 6) 3),(N (18,L),.load 20 (S 19) L 1),(N (18,L),.call 21 94 [(S 20),(K 8)]),(N (18,L),.un 22 .not (S 21)),po 23 18 22,mv 24 23,(N (24,L),.faddr 25 (S 7) 2),(N (24,L),.load 26 (S 25) L 1),(N (24,L),.call 27 94 [(S 26),(K 8)]),(N (24,L),.un 28 .not (S 27)),po 29 24 28]) C6f) D3e))
theorem C5v(a0:U)(a1:P U)(a2 a3:Xe)(v8:V)(r:U × V)(h:A3k a0 a1 a2 a3 v8=N r)(σ:St)(hσ:σ.kept [0,1,6,7,29] [6,7] []=⟨[(0,vc (aI a0)),(1,vc (aL (Y rI a1))),(6,vc (.pb 6 0)),(7,vc (.pb 7 0)),(29,vc (aB v8))],[(6,(dm a2.row)),(7,(dm a3.row))],[]⟩):go Z (.code C6f:: [.code D3e]) (Ret [8,9] [.sc (.v (.int .i64 r.1)),.sc (.v (.bool r.2))]) .normal (N σ):=by
 unfold A3k at h
 rcases ic h with ⟨h9,h⟩|⟨h9,h⟩
 ·try simp only[hσ,h9,C6f,C,E,F,G,H,J]
  cases h
  trivial
 ·obtain⟨x10,h10,h⟩:=ob h
  try simp only[hσ,h9,h10,C6f,D3e,C,E,F,G,H,J]
  cases h
  trivial
theorem F51:A5 Z 391=N (cc440.strip,[8,9],41):=by kernel_rfl
theorem D4q(a0:U)(a1:P U)(a2 a3:Xe)(r:U × V)(h:B0x a0 a1 a2 a3=N r):FC Z 391 [.sc (.int .i64 a0),.sc (.sl (Y rI a1)),.ag (zB a2),.ag (zB a3)] [.sc (.v (.int .i64 r.1)),.sc (.v (.bool r.2))]:=by
 unfold B0x at h
 refine C4 A7 F51 X ?_
 simp only[cc440,C,E,F,G,H,J]
 try simp only[C,E,F,G,H,J]
 refine B2 X X X ?_
 try simp only[C,E,F,G,H,J]
 refine B2 X X X ?_
 obtain⟨r1,h1,h⟩:=ob h
 try simp only[C,E,F,G,H,J]
 refine A2 (T8 _ _ h1) X X (uf X) ?_
 rcases ic h with ⟨h2,h⟩|⟨h2,h⟩
 ·obtain⟨r3,h3,h⟩:=ob h
  try simp only[h2,C,E,F,G,H,J]
  refine A2 (A9a _ _ h3) X X (uf X) ?_
  rcases ic h with ⟨h4,h⟩|⟨h4,h⟩
  ·obtain⟨r5,h5,h⟩:=ob h
   try simp only[h2,h4,C,E,F,G,H,J]
   refine A2 (E2 _ _ _ h5) X X (uf X) ?_
   rcases ic h with ⟨h6,h⟩|⟨h6,h⟩
   ·obtain⟨r7,h7,h⟩:=ob h
    try simp only[h2,h4,h6,C,E,F,G,H,J]
    refine A2 (E2 _ _ _ h7) X X (uf X) ?_
    try simp only[h2,h4,h6,C,E,F,G,H,J]
    refine C5v _ _ _ _ _ _ h _ ?_
    try simp only[h2,h4,h6,C,E,F,G,H,J,I]
   ·try simp only[h2,h4,h6,C,E,F,G,H,J]
    refine C5v _ _ _ _ _ _ h _ ?_
    try simp only[h2,h4,h6,C,E,F,G,H,J,I]
  ·try simp only[h2,h4,C,E,F,G,H,J]
   refine C5v _ _ _ _ _ _ h _ ?_
   try simp only[h2,h4,C,E,F,G,H,J,I]
 ·try simp only[h2,C,E,F,G,H,J]
  refine C5v _ _ _ _ _ _ h _ ?_
  try simp only[h2,C,E,F,G,H,J,I]
/- 379:impl_CanFollow -/
def cc443:X2:=(.seq (.reg [bo 6 2,bo 7 3,(O,.mv 8 (KB L))]) (.seq (.reg [mv 12 0,mv 13 1,lw 14 6 4,lw 15 7 4,ca 16 391 [S 12,S 13,S 14,S 15],mv 11 16,xt 17 11 0,xt 18 11 1,mv 9 17,mv 10 18]) (.seq (.reg [mv 19 10,mv 20 19,(N (20,T),.load 21 (S 6) T 4),(N (20,T),.bslice 22 4 [.int .i64 0,.int .i64 0,.int .i64 0,.int .i64 0] 1 [(0,(S 21))]),(N (20,T),.call 23 378 [(S 22)]),pa 24 20 23,mv 25 24,(N (25,T),.load 26 (S 7) T 4),(N (25,T),.bslice 27 4 [.int .i64 0,.int .i64 0,.int .i64 0,.int .i64 0] 1 [(0,(S 26))]),(N (25,T),.call 28 378 [(S 27)]),pa 29 25 28,mv 30 29,(N (30,T),.faddr 31 (S 6) 1),(N (30,T),.load 32 (S 31) L 1),(N (30,T),.mv 33 (S 9)),(N (30,T),.bin 34 .add (S 32) (S 33)),(N (30,T),.faddr 35 (S 7) 0),(N (30,T),.load 36 (S 35) L 1),(N (30,T),.bin 37 .leq (S 34) (S 36)),pa 38 30 37,mv 8 38]) .ret)))
theorem F3a:A5 Z 379=N (cc443.strip,[8],39):=by kernel_rfl
theorem B16(a0:U)(a1:P U)(a2 a3:Xe)(r:V)(h:A16 a0 a1 a2 a3=N r):FC Z 379 [.sc (.int .i64 a0),.sc (.sl (Y rI a1)),.ag (zB a2),.ag (zB a3)] [.sc (.v (.bool r))]:=by
 unfold A16 at h
 refine C4 A7 F3a X ?_
 simp only[cc443,C,E,F,G,H,J]
 try simp only[C,E,F,G,H,J]
 refine B2 X X X ?_
 try simp only[C,E,F,G,H,J]
 refine B2 X X X ?_
 obtain⟨r1,h1,h⟩:=ob h
 try simp only[C,E,F,G,H,J]
 refine A2 (D4q _ _ _ _ _ h1) X X (uf X) ?_
 rcases ic h with ⟨h2,h⟩|⟨h2,h⟩
 ·try simp only[h2,C,E,F,G,H,J]
  refine C7 (es:=Y zB ([a2]:P Xe)) X X ?_
  obtain⟨r3,h3,h⟩:=ob h
  try simp only[h2,C,E,F,G,H,J]
  refine R4 (A8q _ _ h3) X (R5 X) X (uf X) ?_
  rcases ic h with ⟨h4,h⟩|⟨h4,h⟩
  ·try simp only[h2,h4,C,E,F,G,H,J]
   refine C7 (es:=Y zB ([a3]:P Xe)) X X ?_
   obtain⟨r5,h5,h⟩:=ob h
   try simp only[h2,h4,C,E,F,G,H,J]
   refine R4 (A8q _ _ h5) X (R5 X) X (uf X) ?_
   rcases ic h with ⟨h6,h⟩|⟨h6,h⟩
   ·try simp only[h2,h4,h6,C,E,F,G,H,J]
    cases h
    trivial
   ·try simp only[h2,h4,h6,C,E,F,G,H,J]
    cases h
    trivial
  ·try simp only[h2,h4,C,E,F,G,H,J]
   cases h
   trivial
 ·try simp only[h2,C,E,F,G,H,J]
  cases h
  trivial
end Go.Vi
