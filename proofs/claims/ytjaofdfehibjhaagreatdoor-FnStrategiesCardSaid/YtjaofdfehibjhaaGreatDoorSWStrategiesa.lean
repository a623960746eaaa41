/-
Walks. No condition.
-/
import Derived.Test.YtjaofdfehibjhaaGreatDoorSNf
import Derived.Test.YtjaofdfehibjhaaGreatDoorChecked
import Derived.Test.YtjaofdfehibjhaaGreatDoorSSh
import Derived.KernelRfl
namespace Go.Vi
open Go.Proofs
set_option linter.all false
set_option maxRecDepth 4000
set_option maxHeartbeats 2000000
open Nat renaming reduceBEq → A, reduceMul → B, reduceAdd → C, reduceDiv → E, le_of_ble_eq_true → uf
open Int renaming reduceBEq → F
attribute [local irreducible] go AWP
open List renaming map → W, map_nil → Y, all_cons → zC, all_nil → zD, replicate → zE
open Tryz renaming prog → X
open Xe renaming row → Z
open Xa renaming row → I
open Xd renaming row → zA
open Xc renaming row → zB
open IntKind renaming wrap → zF
open Bool renaming true → T, false → G
open Option renaming some → H, none → L
open _root_ renaming List → N, Int → O, Bool → P, Nat → Q, UInt8 → U, rfl → V
theorem mixed:Tryz.prog.follows .mixedOrders=T:=by kernel_rfl
/- 19:spec_l01New -/
def cc0:X2:= .seq (.reg [(L,.keep [0,3,4] [] [])]) (.seq (.seq (.reg [mv 8 4,mv 9 0,ln 10 9,bn 11 .lss 8 10,mv 12 11,(H (12,T),.mv 13 (S 4)),(H (12,T),.bin 14 .lss (S 13) (K 4000)),pa 15 12 14]) (.cond (S 15) .skip (.exit 0))) (.seq (.block 1 (.reg [mv 18 3,(L,.bin 19 .mul (S 18) (K 79)),mv 20 0,mv 21 4,ia 22 20 21 1,ld 23 22,(L,.conv 24 .i64 (S 23)),bn 25 .add 19 24,(L,.bin 26 .add (S 25) (K 7)),(L,.bin 27 .and (S 26) (K 1073741823)),mv 3 27])) (.reg [mv 16 4,(L,.bin 17 .add (S 16) (K 1)),mv 4 17])))
def cc1:X2:= .seq (.reg [(L,.keep [0,3] [] [])]) (.seq (.reg [mv 28 0,mv 29 3,(L,.build 30 [.nil,aI 0,aI 0] [(0,1,(S 28)),(2,1,(S 29))]),bo 31 30,mv 2 31]) .ret)
def cc2:X2:=(.seq (.reg [(L,.mv 2 (.c (.v (.sc .undef))))]) (.seq (.reg [mv 5 0,ln 6 5,(L,.bin 7 .add (K 1976) (S 6)),mv 3 7]) (.seq (.seq (.reg [(L,.mv 4 (K 0))]) (.block 0 (.loop cc0))) cc1)))
theorem ww3(a0:N O)(v1:O)(r:X1)(h:A22 a0 v1=H r)(σ:St)(hσ:σ.kept [0,3] [] []=⟨[(0,vc (aL (W r8 a0))),(3,vc (aI v1))],[],[]⟩):go X (.code cc1:: []) (D2v [2] [.sl (W r8 r.b),.int .i64 r.i,.int .i64 r.h]) .normal (H σ):=by
 unfold A22 at h
 try simp only[hσ,cc1,A,B,C,E,F,J]
 refine B2 V V V ?_
 try simp only[A,B,C,E,F,J]
 cases h
 exact⟨_,31,V,V,V,V⟩
theorem ww4(a0:N O):∀(n:Q) (v1 v2:O) (r:X1),A1b a0 n v1 v2=H r→∀σ:St,σ.kept [0,3,4] [] []=⟨[(0,vc (aL (W r8 a0))),(3,vc (aI v1)),(4,vc (aI v2))],[],[]⟩→go X (.code (.loop cc0):: [.blk 0,.code cc1]) (D2v [2] [.sl (W r8 r.b),.int .i64 r.i,.int .i64 r.h]) .normal (H σ):=by
 intro n
 induction n with
 | zero=>intro _ _ r h; cases h
 | succ n ih=>
  intro v1 v2 r h σ hσ
  rw[A1b] at h
  refine B5 ?_
  rcases ic h with ⟨h3,h⟩|⟨h3,h⟩
  ·rcases ic h with ⟨h4,h⟩|⟨h4,h⟩
   ·obtain⟨x5,h5,h⟩:=ob h
    try simp only[hσ,h3,h4,h5,cc0,A,B,C,E,F,J]
    refine ih _ _ _ h _ ?_
    try simp only[h3,h4,h5,A,B,C,E,F,J,Y]
   ·try simp only[hσ,h3,h4,cc0,A,B,C,E,F,J]
    refine ww3 _ _ _ h _ ?_
    try simp only[h3,h4,A,B,C,E,F,J,Y]
  ·try simp only[hσ,h3,cc0,A,B,C,E,F,J]
   refine ww3 _ _ _ h _ ?_
   try simp only[h3,A,B,C,E,F,J,Y]
theorem ee5:A5 X 19=H (cc2.strip,[2],32):=by kernel_rfl
theorem C41(a0:N O)(r:X1)(h:A6s a0=H r):FCn X 19 [.sc (.sl (W r8 a0))] [.sl (W r8 r.b),.int .i64 r.i,.int .i64 r.h]:=by
 unfold A6s at h
 refine F0w (σ:=⟨[(0,vc (aL (W r8 a0)))],[],[]⟩) mixed ee5 V V ?_
 simp only[cc2]
 try simp only[A,B,C,E,F,J]
 refine ww4 _ _ _ _ _ h _ ?_
 try simp only[A,B,C,E,F,J,Y]
/- 73:spec_l01Byte -/
def cc6:X2:=(.seq (.reg [(L,.mv 2 (K 0))]) (.seq (.reg [mv 4 0,mv 5 0,(L,.nilc 6 (S 5)),fa 7 6 2,ld 8 7,(L,.bin 9 .mul (S 8) (K 6364136223846793005)),(L,.bin 10 .add (S 9) (K 1442695040888963407)),(L,.nilc 11 (S 4)),fa 12 11 2,so 12 10 1]) (.seq (.drw [o0 (mv 13 0),o0 (L,.nilc 14 (S 13)),o0 (fa 15 14 2),o0 (ld 16 15),o0 (L,.bin 17 .shr (S 16) (.c (.v (.sc (.dat (.int .u64 33)))))),o0 (mv 18 0),o0 (L,.nilc 19 (S 18)),o0 (fa 20 19 2),o0 (ld 21 20),o0 (L,.bin 22 .shr (S 21) (.c (.v (.sc (.dat (.int .u64 45)))))),o0 (bn 23 .xor 17 22),o0 (L,.bin 24 .and (S 23) (K 255)),o0 (mv 3 24)]) (.seq (.seq (.drw [o0 (mv 25 0),o0 (L,.nilc 26 (S 25)),o0 (fa 27 26 1),o0 (ld 28 27),o0 (mv 29 0),o0 (L,.nilc 30 (S 29)),o0 (fa 31 30 0),o0 (ld 32 31),o0 (ln 33 32),o0 (bn 34 .lss 28 33)]) (.cond (S 34) (.seq (.drw [o0 (mv 35 3),o0 (mv 36 0),o0 (L,.nilc 37 (S 36)),o0 (fa 38 37 0),o0 (ld 39 38),o0 (mv 40 0),o0 (L,.nilc 41 (S 40)),o0 (fa 42 41 1),o0 (ld 43 42),o0 (ia 44 39 43 1),o0 (ld 45 44),o0 (L,.conv 46 .i64 (S 45)),o0 (bn 47 .add 35 46),o0 (L,.bin 48 .and (S 47) (K 255)),o0 (mv 3 48)]) (.reg [mv 49 0,mv 50 0,(L,.nilc 51 (S 50)),fa 52 51 1,ld 53 52,(L,.bin 54 .add (S 53) (K 1)),(L,.nilc 55 (S 49)),fa 56 55 1,so 56 54 1])) .skip)) (.seq (.reg [mv 57 3,mv 2 57]) .ret)))))
theorem ee7:A5 X 73=H (cc6.strip,[2],58):=by kernel_rfl
theorem A58(a0:X1)(r:O × X1)(h:Y4 a0=H r):FCy X 73 [.p] [.sl (W r8 a0.b),.int .i64 a0.i,.int .i64 a0.h] [.sl (W r8 r.2.b),.int .i64 r.2.i,.int .i64 r.2.h] [.sc (.v (.int .i64 r.1))]:=by
 unfold Y4 at h
 refine A4s (σ:=⟨[(0,vc (.pb 99999999999 0))],[(99999999999,[aL (W r8 a0.b),aI a0.i,aI a0.h])],[]⟩) mixed ee7 V V ?_
 simp only[cc6]
 try simp only[A,B,C,E,F,J]
 refine B3 V ?_
 try simp only[A,B,C,E,F,J]
 refine B3 V ?_
 rcases ic h with ⟨h1,h⟩|⟨h1,h⟩
 ·try simp only[h1,A,B,C,E,F,J]
  refine B3 V ?_
  obtain⟨x2,h2,h⟩:=ob h
  try simp only[h1,h2,A,B,C,E,F,J]
  cases h
  trivial
 ·try simp only[h1,A,B,C,E,F,J]
  cases h
  trivial
/- 43:spec_l01Below -/
def cc8:X2:=(.seq (.reg [(L,.mv 4 (K 0))]) (.seq (.seq (.reg [mv 9 1,(L,.bin 10 .leq (S 9) (K 0))]) (.cond (S 10) (.seq (.reg [(L,.mv 4 (K 0))]) .ret) .skip)) (.seq (.seq (.reg [mv 11 1,(L,.bin 12 .leq (S 11) (K 256))]) (.cond (S 12) (.seq (.reg [mv 13 0,ca 14 73 [S 13],mv 15 1,bn 16 .rem 14 15,mv 4 16]) .ret) .skip)) (.seq (.reg [mv 17 0,ca 18 73 [S 17],mv 5 18]) (.seq (.reg [mv 19 0,ca 20 73 [S 19],mv 6 20]) (.seq (.reg [mv 21 0,ca 22 73 [S 21],mv 7 22]) (.seq (.reg [mv 23 0,ca 24 73 [S 23],mv 8 24]) (.seq (.reg [mv 25 5,(L,.bin 26 .mul (S 25) (K 16777216)),mv 27 6,(L,.bin 28 .mul (S 27) (K 65536)),bn 29 .add 26 28,mv 30 7,(L,.bin 31 .mul (S 30) (K 256)),bn 32 .add 29 31,mv 33 8,bn 34 .add 32 33,mv 35 1,bn 36 .rem 34 35,mv 4 36]) .ret))))))))
theorem ee9:A5 X 43=H (cc8.strip,[4],37):=by kernel_rfl
theorem B8(a0:X1)(a1:O)(r:O × X1)(h:A4 a0 a1=H r):FCy X 43 [.p,.d (.sc (.int .i64 a1))] [.sl (W r8 a0.b),.int .i64 a0.i,.int .i64 a0.h] [.sl (W r8 r.2.b),.int .i64 r.2.i,.int .i64 r.2.h] [.sc (.v (.int .i64 r.1))]:=by
 unfold A4 at h
 refine A4s (σ:=⟨[(0,vc (.pb 99999999999 0)),(1,vc (aI a1))],[(99999999999,[aL (W r8 a0.b),aI a0.i,aI a0.h])],[]⟩) mixed ee9 V V ?_
 simp only[cc8]
 rcases ic h with ⟨h1,h⟩|⟨h1,h⟩
 ·try simp only[h1,A,B,C,E,F,J]
  cases h
  trivial
 ·rcases ic h with ⟨h2,h⟩|⟨h2,h⟩
  ·obtain⟨r3,h3,h⟩:=ob h
   try simp only[h1,h2,A,B,C,E,F,J]
   refine C7 (A58 _ _ h3) 99999999999 V V V ?_
   obtain⟨h4,h⟩:=A1u h
   try simp only[h1,h2,h4,A,B,C,E,F,J]
   cases h
   trivial
  ·obtain⟨r5,h5,h⟩:=ob h
   try simp only[h1,h2,A,B,C,E,F,J]
   refine C7 (A58 _ _ h5) 99999999999 V V V ?_
   obtain⟨r6,h6,h⟩:=ob h
   try simp only[h1,h2,A,B,C,E,F,J]
   refine C7 (A58 _ _ h6) 99999999999 V V V ?_
   obtain⟨r7,h7,h⟩:=ob h
   try simp only[h1,h2,A,B,C,E,F,J]
   refine C7 (A58 _ _ h7) 99999999999 V V V ?_
   obtain⟨r9,h9,h⟩:=ob h
   try simp only[h1,h2,A,B,C,E,F,J]
   refine C7 (A58 _ _ h9) 99999999999 V V V ?_
   obtain⟨h10,h⟩:=A1u h
   try simp only[h1,h2,h10,A,B,C,E,F,J]
   cases h
   trivial
/- 157:spec_l01Pick -/
def cc10:X2:=(.seq (.reg [(L,.mv 4 (K 0))]) (.seq (.reg [mv 5 1,mv 6 0,mv 7 1,ln 8 7,ca 9 43 [S 6,S 8],ia 10 5 9 1,ld 11 10,mv 4 11]) .ret))
theorem G1r:A5 X 157=H (cc10.strip,[4],12):=by kernel_rfl
theorem C2n(a0:X1)(a1:N O)(r:O × X1)(h:A56 a0 a1=H r):FCy X 157 [.p,.d (.sc (.sl (W rI a1)))] [.sl (W r8 a0.b),.int .i64 a0.i,.int .i64 a0.h] [.sl (W r8 r.2.b),.int .i64 r.2.i,.int .i64 r.2.h] [.sc (.v (.int .i64 r.1))]:=by
 unfold A56 at h
 refine A4s (σ:=⟨[(0,vc (.pb 99999999999 0)),(1,vc (aL (W rI a1)))],[(99999999999,[aL (W r8 a0.b),aI a0.i,aI a0.h])],[]⟩) mixed G1r V V ?_
 simp only[cc10]
 obtain⟨r1,h1,h⟩:=ob h
 try simp only[A,B,C,E,F,J]
 refine C7 (B8 _ _ _ h1) 99999999999 V V V ?_
 obtain⟨x2,h2,h⟩:=ob h
 try simp only[h2,A,B,C,E,F,J]
 cases h
 trivial
/- 137:spec_l02Part -/
def cc12:X2:=(.seq (.reg [(L,.alloc 2 [aI 0,aI 0,aI 0])]) (.seq (.reg [mv 4 0,ca 5 43 [S 4,K 300],mv 6 0,(L,.bslice 7 1 [.int .i64 0] 5 [(0,(K 744)),(1,(K 720)),(2,(K 1440)),(3,(K 372)),(4,(K 240))]),(L,.frz 448),ca 8 157 [S 6,S 7],(L,.build 9 [aI 0,aI 0,aI 0] [(0,1,(S 5)),(1,1,(S 8))]),(L,.alloc 3 [aI 0,aI 0,aI 0]),so 3 9 3]) (.seq (.reg [mv 10 0,fa 11 3 1,ld 12 11,ca 13 43 [S 10,S 12],fa 14 3 2,so 14 13 1]) (.seq (.reg [lw 15 3 3,so 2 15 3]) .ret))))
theorem G1i:A5 X 137=H (cc12.strip,[.c 2 T 3],16):=by kernel_rfl
theorem C2m(a0:X1)(r:Xe × X1)(h:Q5 a0=H r):FCy X 137 [.p] [.sl (W r8 a0.b),.int .i64 a0.i,.int .i64 a0.h] [.sl (W r8 r.2.b),.int .i64 r.2.i,.int .i64 r.2.h] [.ag [.v (.int .i64 r.1.Amp),.v (.int .i64 r.1.Period),.v (.int .i64 r.1.Phase)]]:=by
 unfold Q5 at h
 refine A4s (σ:=⟨[(0,vc (.pb 99999999999 0))],[(99999999999,[aL (W r8 a0.b),aI a0.i,aI a0.h])],[]⟩) mixed G1i V V ?_
 simp only[cc12]
 try simp only[A,B,C,E,F,J]
 refine B7 V V ?_
 obtain⟨r1,h1,h⟩:=ob h
 try simp only[A,B,C,E,F,J]
 refine C7 (B8 _ _ _ h1) 99999999999 V V V ?_
 try simp only[A,B,C,E,F,J]
 refine D6 (es:=W rI ([(744:O),(720:O),(1440:O),(372:O),(240:O)]:N O)) V V ?_
 try simp only[A,B,C,E,F,J]
 refine N7 V ?_
 obtain⟨r2,h2,h⟩:=ob h
 try simp only[A,B,C,E,F,J]
 refine C7 (C2n _ _ _ h2) 99999999999 V V V ?_
 try simp only[A,B,C,E,F,J]
 refine B7 V V ?_
 obtain⟨r3,h3,h⟩:=ob h
 try simp only[A,B,C,E,F,J]
 refine C7 (B8 _ _ _ h3) 99999999999 V V V ?_
 try simp only[A,B,C,E,F,J]
 cases h
 try simp only[I2,A,B,C,E,F,J]
 trivial
/- 116:spec_l02Draw -/
def A1l:N (N Q × AItem):= [([],(L,.faddr 15 (S 3) 1)),([0],(L,.load 16 (S 15) G 1)),([],(L,.mv 17 (S 0))),([2],(L,.call 18 137 [(S 17)])),([3],(L,.bslice 19 3 [.int .i64 0,.int .i64 0,.int .i64 0] 1 [(0,(S 18))])),([1,4,3],(L,.app 20 3 24 (S 16) (S 19))),([0,1,2,3,4,5],(L,.faddr 21 (S 3) 1)),([6,5,5,0,1,2,3,4,5],(L,.store (S 21) (S 20) 1))]
def D5d:X2:= .seq (.reg [(L,.keep [0,2,3,4] [99999999999,2,3] [131136])]) (.seq (.seq (.reg [mv 11 4,(L,.bin 12 .gtr (S 11) (K 0))]) (.cond (S 12) .skip (.exit 0))) (.seq (.block 1 (.any A1l)) (.reg [mv 13 4,(L,.bin 14 .sub (S 13) (K 1)),mv 4 14])))
def E1x:X2:=(.seq (.reg [(L,.frz 131136),lw 22 3 2,so 2 22 2]) .ret)
def cc16:X2:=(.seq (.reg [(L,.alloc 2 [aI 0,.nil])]) (.seq (.reg [mv 5 0,ca 6 43 [S 5,K 300],(L,.build 7 [aI 0,.nil] [(0,1,(S 6))]),(L,.alloc 3 [aI 0,.nil]),so 3 7 2,(L,.ownb 3 1 131136 3)]) (.seq (.seq (.reg [mv 8 0,ca 9 43 [S 8,K 2],(L,.bin 10 .add (K 1) (S 9)),mv 4 10]) (.block 0 (.loop D5d))) E1x)))
abbrev F4(v3:O)(r9:Xe × X1)(wo1_:AV)(c0_ c1_:P)(c2_ c3_:P)(c4_ c5_ c6_:P)(bx_:N (Q × N AC))(rs_:Rows):St:=⟨[(0,vc (.pb 99999999999 0)),(2,vc (.pb 2 0)),(3,vc (.pb 3 0)),(4,vc (aI v3)),(15,bif c0_ then vc (.pb 3 1) else .undef),(16,bif c1_ then wo1_ else .undef),(17,bif c2_ then vc (.pb 99999999999 0) else .undef),(18,bif c3_ then va (dm r9.1.row) else .undef),(19,bif c4_ then vc (.own 1216) else .undef),(20,bif c5_ then vc (.own 131136) else .undef),(21,bif c6_ then vc (.pb 3 1) else .undef)],bx_,rs_⟩
abbrev V7(r1:O × X1)(v3:O)(v7:N Xe)(r9:Xe × X1):St:=(F4 v3 r9 (vc (.undef)) T T T T T T T [(99999999999,(dm r9.2.row)),(2,[aI (0:O),.nil]),(3,[aI r1.1,.own 131136])] [(131136,3,W Z (v7++([r9.1]:N Xe))),(1216,3,W Z ([r9.1]:N Xe))])
theorem G1g(r1:O × X1)(v3:O)(v4:N O)(v5 v6:O)(v7:N Xe)(r9:Xe × X1)(h9:Q5 (⟨v4,v5,v6⟩:X1)=H r9)(h10:(B9 v7.length ([r9.1]:N Xe).length 24)=T):∀(f:Q),E0 X A1l (V7 r1 v3 v7 r9) f [T,T,T,T,T,T,T,T] (F4 v3 r9 (vc (.undef)) T T T T T T T [(99999999999,(dm r9.2.row)),(2,[aI (0:O),.nil]),(3,[aI r1.1,.own 131136])] [(131136,3,W Z (v7++([r9.1]:N Xe))),(1216,3,W Z ([r9.1]:N Xe))]):=by
 intro f
 induction f with
 | zero=>intro h; rfl
 | succ f ih=>
  refine A9 ⟨?_,?_,?_,?_,?_,?_,?_,?_,⟨⟩⟩<;>try first | (intro h; cases h; done)
theorem G1m(r1:O × X1)(v3:O)(v4:N O)(v5 v6:O)(v7:N Xe)(r9:Xe × X1)(h9:Q5 (⟨v4,v5,v6⟩:X1)=H r9)(h10:(B9 v7.length ([r9.1]:N Xe).length 24)=T):∀(f:Q) (b0 b6:P),E0 X A1l (V7 r1 v3 v7 r9) f [b0,T,T,T,T,T,b6,G] (F4 v3 r9 (vc (.undef)) b0 T T T T T b6 [(99999999999,(dm r9.2.row)),(2,[aI (0:O),.nil]),(3,[aI r1.1,.undef])] [(131136,3,W Z (v7++([r9.1]:N Xe))),(1216,3,W Z ([r9.1]:N Xe))]):=by
 intro f
 induction f with
 | zero=>intro b0 b6 h; simp at h
 | succ f ih=>
  intro b0 b6
  refine A9 ⟨?_,?_,?_,?_,?_,?_,?_,?_,⟨⟩⟩<;>try first | (intro h; cases h; done) | (intro h0 hw; obtain rfl:=hz h0 rfl; (try obtain rfl:=hq hw 0 rfl rfl); refine np ?_; simp only[F4,cdt,cdf,A1,A,B,C,E,F,J]; exact ih _ _)
  ·intro h0 hw
   obtain rfl:=hq hw 0 rfl rfl
   obtain rfl:=hq hw 6 rfl rfl
   refine np ?_
   try simp only[F4,cdt,cdf,A1,A,B,C,E,F,J]
   exact G1g r1 v3 v4 v5 v6 v7 r9 h9 h10 _
theorem G07(r1:O × X1)(v3:O)(v4:N O)(v5 v6:O)(v7:N Xe)(r9:Xe × X1)(h9:Q5 (⟨v4,v5,v6⟩:X1)=H r9)(h10:(B9 v7.length ([r9.1]:N Xe).length 24)=T):∀(f:Q) (b0 b1:P),E0 X A1l (V7 r1 v3 v7 r9) f [b0,b1,T,T,T,G,G,G] (F4 v3 r9 (vc (.own 131136)) b0 b1 T T T G G [(99999999999,(dm r9.2.row)),(2,[aI (0:O),.nil]),(3,[aI r1.1,.own 131136])] [(131136,3,W Z v7),(1216,3,W Z ([r9.1]:N Xe))]):=by
 intro f
 induction f with
 | zero=>intro b0 b1 h; simp at h
 | succ f ih=>
  intro b0 b1
  refine A9 ⟨?_,?_,?_,?_,?_,?_,?_,?_,⟨⟩⟩<;>try first | (intro h; cases h; done) | (intro _ hw; simp at hw; done) | (intro h0 hw; obtain rfl:=hz h0 rfl; (try obtain rfl:=hq hw 0 rfl rfl); refine np ?_; simp only[F4,cdt,cdf,A1,A,B,C,E,F,J]; exact ih _ _)
  ·intro h0 hw
   obtain rfl:=hq hw 1 rfl rfl
   refine np ?_
   try simp only[h10,F4,cdt,cdf,A1,A,B,C,E,F,J]
   exact G1m r1 v3 v4 v5 v6 v7 r9 h9 h10 _ b0 G
theorem G1q(r1:O × X1)(v3:O)(v4:N O)(v5 v6:O)(v7:N Xe)(r9:Xe × X1)(h9:Q5 (⟨v4,v5,v6⟩:X1)=H r9)(h10:(B9 v7.length ([r9.1]:N Xe).length 24)=T):∀(f:Q) (b0 b1:P),E0 X A1l (V7 r1 v3 v7 r9) f [b0,b1,T,T,G,G,G,G] (F4 v3 r9 (vc (.own 131136)) b0 b1 T T G G G [(99999999999,(dm r9.2.row)),(2,[aI (0:O),.nil]),(3,[aI r1.1,.own 131136])] [(131136,3,W Z v7)]):=by
 intro f
 induction f with
 | zero=>intro b0 b1 h; simp at h
 | succ f ih=>
  intro b0 b1
  refine A9 ⟨?_,?_,?_,?_,?_,?_,?_,?_,⟨⟩⟩<;>try first | (intro h; cases h; done) | (intro _ hw; simp at hw; done) | (intro h0 hw; obtain rfl:=hz h0 rfl; (try obtain rfl:=hq hw 0 rfl rfl); refine np ?_; simp only[F4,cdt,cdf,A1,A,B,C,E,F,J]; exact ih _ _)
  ·intro h0 hw
   refine np ?_
   try simp only[F4,cdt,cdf,A1,A,B,C,E,F,J]
   refine D6 (es:=W Z ([r9.1]:N Xe)) V (by simp only[St.fresh,zC,zD,H5]; simp[AV.cells,V1.cells,AC.uses]) ?_
   try simp only[A1,A,B,C,E,F,J]
   exact G07 r1 v3 v4 v5 v6 v7 r9 h9 h10 _ b0 b1
theorem G0z(r1:O × X1)(v3:O)(v4:N O)(v5 v6:O)(v7:N Xe)(r9:Xe × X1)(h9:Q5 (⟨v4,v5,v6⟩:X1)=H r9)(h10:(B9 v7.length ([r9.1]:N Xe).length 24)=T):∀(f:Q) (b0 b1 b2:P),E0 X A1l (V7 r1 v3 v7 r9) f [b0,b1,b2,G,G,G,G,G] (F4 v3 r9 (vc (.own 131136)) b0 b1 b2 G G G G [(99999999999,[aL (W r8 v4),aI v5,aI v6]),(2,[aI (0:O),.nil]),(3,[aI r1.1,.own 131136])] [(131136,3,W Z v7)]):=by
 intro f
 induction f with
 | zero=>intro b0 b1 b2 h; simp at h
 | succ f ih=>
  intro b0 b1 b2
  refine A9 ⟨?_,?_,?_,?_,?_,?_,?_,?_,⟨⟩⟩<;>try first | (intro _ hw; simp at hw; done) | (intro h0 hw; obtain rfl:=hz h0 rfl; (try obtain rfl:=hq hw 0 rfl rfl); refine np ?_; simp only[F4,cdt,cdf,A1,A,B,C,E,F,J]; exact ih _ _ _)
  ·intro h0 hw
   obtain rfl:=hq hw 2 rfl rfl
   refine np ?_
   try simp only[F4,cdt,cdf,A1,A,B,C,E,F,J]
   refine C7 (C2m _ _ h9) 99999999999 V V V ?_
   try simp only[A1,A,B,C,E,F,J]
   exact G1q r1 v3 v4 v5 v6 v7 r9 h9 h10 _ b0 b1
theorem G1f(r1:O × X1):∀(n:Q) (v3:O) (v4:N O) (v5 v6:O) (v7:N Xe) (r:Xn × X1),A0p r1 n v3 v4 v5 v6 v7=H r→∀σ:St,σ.kept [0,2,3,4] [99999999999,2,3] [131136]=⟨[(0,vc (.pb 99999999999 0)),(2,vc (.pb 2 0)),(3,vc (.pb 3 0)),(4,vc (aI v3))],[(99999999999,[aL (W r8 v4),aI v5,aI v6]),(2,[aI (0:O),.nil]),(3,[aI r1.1,.own 131136])],[(131136,3,W Z v7)]⟩→go X (.code (.loop D5d):: [.blk 0,.code E1x]) (B15 [.c 2 T 2] [.ag [.v (.int .i64 r.1.Mean),.v (.sl (W Z r.1.Parts))]] [.sl (W r8 r.2.b),.int .i64 r.2.i,.int .i64 r.2.h]) .normal (H σ):=by
 intro n
 induction n with
 | zero=>intro _ _ _ _ _ r h; cases h
 | succ n ih=>
  intro v3 v4 v5 v6 v7 r h σ hσ
  rw[A0p] at h
  refine B5 ?_
  rcases ic h with ⟨h8,h⟩|⟨h8,h⟩
  ·try simp only[hσ,h8,D5d,A,B,C,E,F,J]
   obtain⟨r9,h9,h⟩:=ob h
   obtain⟨h10,h⟩:=C9 h
   refine A3l (ks:= [0,2,3,4]) (bs:= [99999999999,2,3]) (rs:= [131136]) (τ:=(V7 r1 v3 v7 r9)) V (G0z r1 v3 v4 v5 v6 v7 r9 h9 h10 _ G G G) ?_
   simp only[V7,F4,cdt]
   try simp only[h8,h10,A,B,C,E,F,J]
   refine ih _ _ _ _ _ _ h _ ?_
   try simp only[h8,h10,A,B,C,E,F,J,Y]
  ·try simp only[hσ,h8,D5d,E1x,A,B,C,E,F,J]
   refine N7 V ?_
   try simp only[h8,A,B,C,E,F,J]
   cases h
   try simp only[I2,A,B,C,E,F,J]
   trivial
theorem G08:A5 X 116=H (cc16.strip,[.c 2 T 2],23):=by kernel_rfl
theorem C2e(a0:X1)(r:Xn × X1)(h:A6b a0=H r):FCy X 116 [.p] [.sl (W r8 a0.b),.int .i64 a0.i,.int .i64 a0.h] [.sl (W r8 r.2.b),.int .i64 r.2.i,.int .i64 r.2.h] [.ag [.v (.int .i64 r.1.Mean),.v (.sl (W Z r.1.Parts))]]:=by
 unfold A6b at h
 refine A4s (σ:=⟨[(0,vc (.pb 99999999999 0))],[(99999999999,[aL (W r8 a0.b),aI a0.i,aI a0.h])],[]⟩) mixed G08 V V ?_
 simp only[cc16]
 try simp only[A,B,C,E,F,J]
 refine B7 V V ?_
 obtain⟨r1,h1,h⟩:=ob h
 try simp only[A,B,C,E,F,J]
 refine C7 (B8 _ _ _ h1) 99999999999 V V V ?_
 try simp only[A,B,C,E,F,J]
 refine B7 V V ?_
 try simp only[A,B,C,E,F,J]
 refine A4p (cs':= [aI r1.1,.own 131136]) V V V V ?_
 obtain⟨r2,h2,h⟩:=ob h
 try simp only[A,B,C,E,F,J]
 refine C7 (B8 _ _ _ h2) 99999999999 V V V ?_
 try simp only[A,B,C,E,F,J]
 refine G1f _ _ _ _ _ _ _ _ h _ ?_
 try simp only[A,B,C,E,F,J,Y]
/- 93:spec_l03Draw -/
def A1t:N (N Q × AItem):= [([],(L,.faddr 20 (S 3) 2)),([0],(L,.load 21 (S 20) G 1)),([],(L,.mv 22 (S 4))),([],(L,.mv 23 (S 6))),([],(L,.mv 24 (S 6))),([],(L,.mv 25 (S 0))),([5],(L,.call 26 43 [(S 25),(K 60)])),([4,6],(L,.bin 27 .add (S 24) (S 26))),([2,3,7],(L,.build 28 [aI 0,aI 0,aI 0] [(0,1,(S 22)),(1,1,(S 23)),(2,1,(S 27))])),([8],(L,.bslice 29 3 [.int .i64 0,.int .i64 0,.int .i64 0] 1 [(0,(S 28))])),([1,9,6],(L,.app 30 3 24 (S 21) (S 29))),([0,1,2,3,4,5,6,7,8,9,10],(L,.faddr 31 (S 3) 2)),([11,10,10,0,1,2,3,4,5,6,7,8,9,10],(L,.store (S 31) (S 30) 1))]
def D41:X2:= .seq (.reg [(L,.keep [0,2,3,4,5] [99999999999,2,3] [131200])]) (.seq (.seq (.reg [mv 13 5,(L,.bin 14 .gtr (S 13) (K 0))]) (.cond (S 14) .skip (.exit 0))) (.seq (.block 1 (.seq (.reg [mv 17 0,ca 18 43 [S 17,K 60],(L,.bin 19 .sub (S 18) (K 40)),mv 6 19]) (.seq (.any A1t) (.reg [mv 32 4,(L,.bin 33 .add (S 32) (K 100)),mv 34 0,ca 35 43 [S 34,K 700],bn 36 .add 33 35,mv 4 36])))) (.reg [mv 15 5,(L,.bin 16 .sub (S 15) (K 1)),mv 5 16])))
def E0i:X2:=(.seq (.reg [(L,.frz 131200),lw 37 3 3,so 2 37 3]) .ret)
def cc26:X2:=(.seq (.reg [(L,.alloc 2 [aI 0,.nil,.nil])]) (.seq (.reg [mv 7 0,ca 8 116 [S 7],(L,.build 9 [aI 0,.nil,.nil] [(0,2,(S 8))]),(L,.alloc 3 [aI 0,.nil,.nil]),so 3 9 3,(L,.ownb 3 2 131200 3)]) (.seq (.reg [(L,.mv 4 (K 0))]) (.seq (.seq (.reg [mv 10 0,ca 11 43 [S 10,K 3],(L,.bin 12 .add (K 1) (S 11)),mv 5 12]) (.block 0 (.loop D41))) E0i))))
abbrev F3(v3 v4:O)(r10 r11:O × X1)(wo1_:AV)(c0_ c1_:P)(c2_ c3_:P)(c4_ c5_:P)(c6_ c7_:P)(c8_ c9_:P)(c10_ c11_:P)(bx_:N (Q × N AC))(rs_:Rows):St:=⟨[(0,vc (.pb 99999999999 0)),(2,vc (.pb 2 0)),(3,vc (.pb 3 0)),(4,vc (aI v3)),(5,vc (aI v4)),(6,vc (aI (zF .i64 (r10.1 - (40:O))))),(20,bif c0_ then vc (.pb 3 2) else .undef),(21,bif c1_ then wo1_ else .undef),(22,bif c2_ then vc (aI v3) else .undef),(23,bif c3_ then vc (aI (zF .i64 (r10.1 - (40:O)))) else .undef),(24,bif c4_ then vc (aI (zF .i64 (r10.1 - (40:O)))) else .undef),(25,bif c5_ then vc (.pb 99999999999 0) else .undef),(26,bif c6_ then vc (aI r11.1) else .undef),(27,bif c7_ then vc (aI (zF .i64 ((zF .i64 (r10.1 - (40:O)))+r11.1))) else .undef),(28,bif c8_ then va [aI v3,aI (zF .i64 (r10.1 - (40:O))),aI (zF .i64 ((zF .i64 (r10.1 - (40:O)))+r11.1))] else .undef),(29,bif c9_ then vc (.own 1856) else .undef),(30,bif c10_ then vc (.own 131200) else .undef),(31,bif c11_ then vc (.pb 3 2) else .undef)],bx_,rs_⟩
abbrev V9(r1:Xn × X1)(v3 v4:O)(v8:N X6)(r10 r11:O × X1):St:=(F3 v3 v4 r10 r11 (vc (.undef)) T T T T T T T T T T T T [(99999999999,(dm r11.2.row)),(2,[aI (0:O),.nil,.nil]),(3,[aI r1.1.Mean,aL (W Z r1.1.Parts),.own 131200])] [(131200,3,W X6.row (v8++([(⟨v3,(zF .i64 (r10.1 - (40:O))),(zF .i64 ((zF .i64 (r10.1 - (40:O)))+r11.1))⟩:X6)]:N X6))),(1856,3,W X6.row ([(⟨v3,(zF .i64 (r10.1 - (40:O))),(zF .i64 ((zF .i64 (r10.1 - (40:O)))+r11.1))⟩:X6)]:N X6))])
theorem G0n(r1:Xn × X1)(v3 v4:O)(v8:N X6)(r10 r11:O × X1)(h11:A4 r10.2 (60:O)=H r11)(h12:(B9 v8.length ([(⟨v3,(zF .i64 (r10.1 - (40:O))),(zF .i64 ((zF .i64 (r10.1 - (40:O)))+r11.1))⟩:X6)]:N X6).length 24)=T):∀(f:Q),E0 X A1t (V9 r1 v3 v4 v8 r10 r11) f [T,T,T,T,T,T,T,T,T,T,T,T,T] (F3 v3 v4 r10 r11 (vc (.undef)) T T T T T T T T T T T T [(99999999999,(dm r11.2.row)),(2,[aI (0:O),.nil,.nil]),(3,[aI r1.1.Mean,aL (W Z r1.1.Parts),.own 131200])] [(131200,3,W X6.row (v8++([(⟨v3,(zF .i64 (r10.1 - (40:O))),(zF .i64 ((zF .i64 (r10.1 - (40:O)))+r11.1))⟩:X6)]:N X6))),(1856,3,W X6.row ([(⟨v3,(zF .i64 (r10.1 - (40:O))),(zF .i64 ((zF .i64 (r10.1 - (40:O)))+r11.1))⟩:X6)]:N X6))]):=by
 intro f
 induction f with
 | zero=>intro h; rfl
 | succ f ih=>
  refine A9 ⟨?_,?_,?_,?_,?_,?_,?_,?_,?_,?_,?_,?_,?_,⟨⟩⟩<;>try first | (intro h; cases h; done)
theorem G1h(r1:Xn × X1)(v3 v4:O)(v8:N X6)(r10 r11:O × X1)(h11:A4 r10.2 (60:O)=H r11)(h12:(B9 v8.length ([(⟨v3,(zF .i64 (r10.1 - (40:O))),(zF .i64 ((zF .i64 (r10.1 - (40:O)))+r11.1))⟩:X6)]:N X6).length 24)=T):∀(f:Q) (b0 b2:P) (b3 b4:P) (b7 b11:P),E0 X A1t (V9 r1 v3 v4 v8 r10 r11) f [b0,T,b2,b3,b4,T,T,b7,T,T,T,b11,G] (F3 v3 v4 r10 r11 (vc (.undef)) b0 T b2 b3 b4 T T b7 T T T b11 [(99999999999,(dm r11.2.row)),(2,[aI (0:O),.nil,.nil]),(3,[aI r1.1.Mean,aL (W Z r1.1.Parts),.undef])] [(131200,3,W X6.row (v8++([(⟨v3,(zF .i64 (r10.1 - (40:O))),(zF .i64 ((zF .i64 (r10.1 - (40:O)))+r11.1))⟩:X6)]:N X6))),(1856,3,W X6.row ([(⟨v3,(zF .i64 (r10.1 - (40:O))),(zF .i64 ((zF .i64 (r10.1 - (40:O)))+r11.1))⟩:X6)]:N X6))]):=by
 intro f
 induction f with
 | zero=>intro b0 b2 b3 b4 b7 b11 h; simp at h
 | succ f ih=>
  intro b0 b2 b3 b4 b7 b11
  refine A9 ⟨?_,?_,?_,?_,?_,?_,?_,?_,?_,?_,?_,?_,?_,⟨⟩⟩<;>try first | (intro h; cases h; done) | (intro h0 hw; obtain rfl:=hz h0 rfl; (try obtain rfl:=hq hw 0 rfl rfl); (try obtain rfl:=hq hw 2 rfl rfl); (try obtain rfl:=hq hw 3 rfl rfl); (try obtain rfl:=hq hw 4 rfl rfl); (try obtain rfl:=hq hw 7 rfl rfl); refine np ?_; simp only[F3,cdt,cdf,A1,A,B,C,E,F,J]; exact ih _ _ _ _ _ _)
  ·intro h0 hw
   obtain rfl:=hq hw 0 rfl rfl
   obtain rfl:=hq hw 2 rfl rfl
   obtain rfl:=hq hw 3 rfl rfl
   obtain rfl:=hq hw 4 rfl rfl
   obtain rfl:=hq hw 7 rfl rfl
   obtain rfl:=hq hw 11 rfl rfl
   refine np ?_
   try simp only[F3,cdt,cdf,A1,A,B,C,E,F,J]
   exact G0n r1 v3 v4 v8 r10 r11 h11 h12 _
theorem G02(r1:Xn × X1)(v3 v4:O)(v8:N X6)(r10 r11:O × X1)(h11:A4 r10.2 (60:O)=H r11)(h12:(B9 v8.length ([(⟨v3,(zF .i64 (r10.1 - (40:O))),(zF .i64 ((zF .i64 (r10.1 - (40:O)))+r11.1))⟩:X6)]:N X6).length 24)=T):∀(f:Q) (b0 b1:P) (b2 b3:P) (b4 b7:P),E0 X A1t (V9 r1 v3 v4 v8 r10 r11) f [b0,b1,b2,b3,b4,T,T,b7,T,T,G,G,G] (F3 v3 v4 r10 r11 (vc (.own 131200)) b0 b1 b2 b3 b4 T T b7 T T G G [(99999999999,(dm r11.2.row)),(2,[aI (0:O),.nil,.nil]),(3,[aI r1.1.Mean,aL (W Z r1.1.Parts),.own 131200])] [(131200,3,W X6.row v8),(1856,3,W X6.row ([(⟨v3,(zF .i64 (r10.1 - (40:O))),(zF .i64 ((zF .i64 (r10.1 - (40:O)))+r11.1))⟩:X6)]:N X6))]):=by
 intro f
 induction f with
 | zero=>intro b0 b1 b2 b3 b4 b7 h; simp at h
 | succ f ih=>
  intro b0 b1 b2 b3 b4 b7
  refine A9 ⟨?_,?_,?_,?_,?_,?_,?_,?_,?_,?_,?_,?_,?_,⟨⟩⟩<;>try first | (intro h; cases h; done) | (intro _ hw; simp at hw; done) | (intro h0 hw; obtain rfl:=hz h0 rfl; (try obtain rfl:=hq hw 0 rfl rfl); (try obtain rfl:=hq hw 4 rfl rfl); refine np ?_; simp only[F3,cdt,cdf,A1,A,B,C,E,F,J]; exact ih _ _ _ _ _ _)
  ·intro h0 hw
   obtain rfl:=hq hw 1 rfl rfl
   refine np ?_
   try simp only[h12,F3,cdt,cdf,A1,A,B,C,E,F,J]
   exact G1h r1 v3 v4 v8 r10 r11 h11 h12 _ b0 b2 b3 b4 b7 G
theorem G0s(r1:Xn × X1)(v3 v4:O)(v8:N X6)(r10 r11:O × X1)(h11:A4 r10.2 (60:O)=H r11)(h12:(B9 v8.length ([(⟨v3,(zF .i64 (r10.1 - (40:O))),(zF .i64 ((zF .i64 (r10.1 - (40:O)))+r11.1))⟩:X6)]:N X6).length 24)=T):∀(f:Q) (b0 b1:P) (b2 b3:P) (b4 b7 b8:P),E0 X A1t (V9 r1 v3 v4 v8 r10 r11) f [b0,b1,b2,b3,b4,T,T,b7,b8,G,G,G,G] (F3 v3 v4 r10 r11 (vc (.own 131200)) b0 b1 b2 b3 b4 T T b7 b8 G G G [(99999999999,(dm r11.2.row)),(2,[aI (0:O),.nil,.nil]),(3,[aI r1.1.Mean,aL (W Z r1.1.Parts),.own 131200])] [(131200,3,W X6.row v8)]):=by
 intro f
 induction f with
 | zero=>intro b0 b1 b2 b3 b4 b7 b8 h; simp at h
 | succ f ih=>
  intro b0 b1 b2 b3 b4 b7 b8
  refine A9 ⟨?_,?_,?_,?_,?_,?_,?_,?_,?_,?_,?_,?_,?_,⟨⟩⟩<;>try first | (intro h; cases h; done) | (intro _ hw; simp at hw; done) | (intro h0 hw; obtain rfl:=hz h0 rfl; (try obtain rfl:=hq hw 0 rfl rfl); (try obtain rfl:=hq hw 2 rfl rfl); (try obtain rfl:=hq hw 3 rfl rfl); (try obtain rfl:=hq hw 4 rfl rfl); (try obtain rfl:=hq hw 7 rfl rfl); refine np ?_; simp only[F3,cdt,cdf,A1,A,B,C,E,F,J]; exact ih _ _ _ _ _ _ _)
  ·intro h0 hw
   obtain rfl:=hq hw 8 rfl rfl
   refine np ?_
   try simp only[F3,cdt,cdf,A1,A,B,C,E,F,J]
   refine D6 (es:=W X6.row ([(⟨v3,(zF .i64 (r10.1 - (40:O))),(zF .i64 ((zF .i64 (r10.1 - (40:O)))+r11.1))⟩:X6)]:N X6)) V (by simp only[St.fresh,zC,zD,H5]; simp[AV.cells,V1.cells,AC.uses]) ?_
   try simp only[A1,A,B,C,E,F,J]
   exact G02 r1 v3 v4 v8 r10 r11 h11 h12 _ b0 b1 b2 b3 b4 b7
theorem G06(r1:Xn × X1)(v3 v4:O)(v8:N X6)(r10 r11:O × X1)(h11:A4 r10.2 (60:O)=H r11)(h12:(B9 v8.length ([(⟨v3,(zF .i64 (r10.1 - (40:O))),(zF .i64 ((zF .i64 (r10.1 - (40:O)))+r11.1))⟩:X6)]:N X6).length 24)=T):∀(f:Q) (b0 b1:P) (b2 b3:P) (b4 b5:P),E0 X A1t (V9 r1 v3 v4 v8 r10 r11) f [b0,b1,b2,b3,b4,b5,G,G,G,G,G,G,G] (F3 v3 v4 r10 r11 (vc (.own 131200)) b0 b1 b2 b3 b4 b5 G G G G G G [(99999999999,(dm r10.2.row)),(2,[aI (0:O),.nil,.nil]),(3,[aI r1.1.Mean,aL (W Z r1.1.Parts),.own 131200])] [(131200,3,W X6.row v8)]):=by
 intro f
 induction f with
 | zero=>intro b0 b1 b2 b3 b4 b5 h; simp at h
 | succ f ih=>
  intro b0 b1 b2 b3 b4 b5
  refine A9 ⟨?_,?_,?_,?_,?_,?_,?_,?_,?_,?_,?_,?_,?_,⟨⟩⟩<;>try first | (intro _ hw; simp at hw; done) | (intro h0 hw; obtain rfl:=hz h0 rfl; (try obtain rfl:=hq hw 0 rfl rfl); refine np ?_; simp only[F3,cdt,cdf,A1,A,B,C,E,F,J]; exact ih _ _ _ _ _ _)
  ·intro h0 hw
   obtain rfl:=hq hw 5 rfl rfl
   refine np ?_
   try simp only[F3,cdt,cdf,A1,A,B,C,E,F,J]
   refine C7 (B8 _ _ _ h11) 99999999999 V V V ?_
   try simp only[A1,A,B,C,E,F,J]
   exact G0s r1 v3 v4 v8 r10 r11 h11 h12 _ b0 b1 b2 b3 b4 G G
theorem G0d(r1:Xn × X1):∀(n:Q) (v3 v4:O) (v5:N O) (v6 v7:O) (v8:N X6) (r:X8 × X1),S0 r1 n v3 v4 v5 v6 v7 v8=H r→∀σ:St,σ.kept [0,2,3,4,5] [99999999999,2,3] [131200]=⟨[(0,vc (.pb 99999999999 0)),(2,vc (.pb 2 0)),(3,vc (.pb 3 0)),(4,vc (aI v3)),(5,vc (aI v4))],[(99999999999,[aL (W r8 v5),aI v6,aI v7]),(2,[aI (0:O),.nil,.nil]),(3,[aI r1.1.Mean,aL (W Z r1.1.Parts),.own 131200])],[(131200,3,W X6.row v8)]⟩→go X (.code (.loop D41):: [.blk 0,.code E0i]) (B15 [.c 2 T 3] [.ag [.v (.int .i64 r.1.Tide.Mean),.v (.sl (W Z r.1.Tide.Parts)),.v (.sl (W X6.row r.1.Surges))]] [.sl (W r8 r.2.b),.int .i64 r.2.i,.int .i64 r.2.h]) .normal (H σ):=by
 intro n
 induction n with
 | zero=>intro _ _ _ _ _ _ r h; cases h
 | succ n ih=>
  intro v3 v4 v5 v6 v7 v8 r h σ hσ
  rw[S0] at h
  refine B5 ?_
  rcases ic h with ⟨h9,h⟩|⟨h9,h⟩
  ·obtain⟨r10,h10,h⟩:=ob h
   try simp only[hσ,h9,D41,A,B,C,E,F,J]
   refine C7 (B8 _ _ _ h10) 99999999999 V V V ?_
   try simp only[h9,A,B,C,E,F,J]
   obtain⟨r11,h11,h⟩:=ob h
   obtain⟨h12,h⟩:=C9 h
   refine A3l (ks:= [0,2,3,4,5,6]) (bs:= [99999999999,2,3]) (rs:= [131200]) (τ:=(V9 r1 v3 v4 v8 r10 r11)) V (G06 r1 v3 v4 v8 r10 r11 h11 h12 _ G G G G G G) ?_
   simp only[V9,F3,cdt]
   obtain⟨r13,h13,h⟩:=ob h
   try simp only[h9,h12,A,B,C,E,F,J]
   refine C7 (B8 _ _ _ h13) 99999999999 V V V ?_
   try simp only[h9,h12,A,B,C,E,F,J]
   refine ih _ _ _ _ _ _ _ h _ ?_
   try simp only[h9,h12,A,B,C,E,F,J,Y]
  ·try simp only[hσ,h9,D41,E0i,A,B,C,E,F,J]
   refine N7 V ?_
   try simp only[h9,A,B,C,E,F,J]
   cases h
   try simp only[I2,A,B,C,E,F,J]
   trivial
theorem G1n:A5 X 93=H (cc26.strip,[.c 2 T 3],38):=by kernel_rfl
theorem C28(a0:X1)(r:X8 × X1)(h:A3t a0=H r):FCy X 93 [.p] [.sl (W r8 a0.b),.int .i64 a0.i,.int .i64 a0.h] [.sl (W r8 r.2.b),.int .i64 r.2.i,.int .i64 r.2.h] [.ag [.v (.int .i64 r.1.Tide.Mean),.v (.sl (W Z r.1.Tide.Parts)),.v (.sl (W X6.row r.1.Surges))]]:=by
 unfold A3t at h
 refine A4s (σ:=⟨[(0,vc (.pb 99999999999 0))],[(99999999999,[aL (W r8 a0.b),aI a0.i,aI a0.h])],[]⟩) mixed G1n V V ?_
 simp only[cc26]
 try simp only[A,B,C,E,F,J]
 refine B7 V V ?_
 obtain⟨r1,h1,h⟩:=ob h
 try simp only[A,B,C,E,F,J]
 refine C7 (C2e _ _ h1) 99999999999 V V V ?_
 try simp only[A,B,C,E,F,J]
 refine B7 V V ?_
 try simp only[A,B,C,E,F,J]
 refine A4p (cs':= [aI r1.1.Mean,aL (W Z r1.1.Parts),.own 131200]) V V V V ?_
 obtain⟨r2,h2,h⟩:=ob h
 try simp only[A,B,C,E,F,J]
 refine C7 (B8 _ _ _ h2) 99999999999 V V V ?_
 try simp only[A,B,C,E,F,J]
 refine G0d _ _ _ _ _ _ _ _ _ h _ ?_
 try simp only[A,B,C,E,F,J,Y]
/- 45:spec_l01Once -/
def cc34:X2:=(.seq (.reg [(L,.mv 4 (KB G))]) (.seq (.reg [mv 5 0,mv 6 1,ca 7 43 [S 5,S 6],(L,.bin 8 .eql (S 7) (K 0)),mv 4 8]) .ret))
theorem G09:A5 X 45=H (cc34.strip,[4],9):=by kernel_rfl
theorem Y3(a0:X1)(a1:O)(r:P × X1)(h:I3 a0 a1=H r):FCy X 45 [.p,.d (.sc (.int .i64 a1))] [.sl (W r8 a0.b),.int .i64 a0.i,.int .i64 a0.h] [.sl (W r8 r.2.b),.int .i64 r.2.i,.int .i64 r.2.h] [.sc (.v (.bool r.1))]:=by
 unfold I3 at h
 refine A4s (σ:=⟨[(0,vc (.pb 99999999999 0)),(1,vc (aI a1))],[(99999999999,[aL (W r8 a0.b),aI a0.i,aI a0.h])],[]⟩) mixed G09 V V ?_
 simp only[cc34]
 obtain⟨r1,h1,h⟩:=ob h
 try simp only[A,B,C,E,F,J]
 refine C7 (B8 _ _ _ h1) 99999999999 V V V ?_
 try simp only[A,B,C,E,F,J]
 cases h
 trivial
/- 94:spec_l05Draw -/
def Y9:N (N Q × AItem):= [([],(L,.faddr 39 (S 3) 1)),([0],(L,.load 40 (S 39) G 1)),([],(L,.mv 41 (S 0))),([2],(L,.call 42 43 [(S 41),(K 300)])),([3],(L,.bin 43 .add (K 700) (S 42))),([],(L,.mv 44 (S 0))),([5,3],(L,.call 45 43 [(S 44),(K 30)])),([6],(L,.bin 46 .add (K 20) (S 45))),([4,7],(L,.build 47 [aI 0,aI 0,aI 0,aI 0,aB G] [(0,1,(K 3)),(1,1,(K 1)),(2,1,(S 43)),(3,1,(S 46)),(4,1,(KB T))])),([8],(L,.bslice 48 5 [.int .i64 0,.int .i64 0,.int .i64 0,.int .i64 0,.bool G] 1 [(0,(S 47))])),([1,9,6],(L,.app 49 5 40 (S 40) (S 48))),([0,1,2,3,4,5,6,7,8,9,10],(L,.faddr 50 (S 3) 1)),([11,10,10,0,1,2,3,4,5,6,7,8,9,10],(L,.store (S 50) (S 49) 1))]
def A1p:N (N Q × AItem):= [([],(L,.faddr 59 (S 3) 1)),([0],(L,.load 60 (S 59) G 1)),([],(L,.mv 61 (S 0))),([2],(L,.call 62 43 [(S 61),(K 300)])),([3],(L,.bin 63 .add (K 800) (S 62))),([4],(L,.build 64 [aI 0,aI 0,aI 0,aI 0,aB G] [(0,1,(K 2)),(1,1,(K 4)),(2,1,(S 63)),(3,1,(K 15))])),([5],(L,.bslice 65 5 [.int .i64 0,.int .i64 0,.int .i64 0,.int .i64 0,.bool G] 1 [(0,(S 64))])),([1,6,3],(L,.app 66 5 40 (S 60) (S 65))),([0,1,2,3,4,5,6,7],(L,.faddr 67 (S 3) 1)),([8,7,7,0,1,2,3,4,5,6,7],(L,.store (S 67) (S 66) 1))]
def E1b:X2:= .seq (.reg [(L,.keep [0,2,3] [99999999999,2,3] [640,2240])]) (.seq (.seq (.reg [mv 51 0,ca 52 45 [S 51,K 3]]) (.cond (S 52) (.seq (.reg [fa 53 3 0,ld 54 53,(L,.build 55 [aS [],aB G] [(0,1,(KS [100,111,99,107])),(1,1,(KB T))]),(L,.bslice 56 2 [.str [],.bool G] 1 [(0,(S 55))]),(L,.app 57 2 24 (S 54) (S 56)),fa 58 3 0,so 58 57 1]) (.any A1p)) .skip)) (.seq (.reg [(L,.frz 640),(L,.frz 2240),lw 68 3 2,so 2 68 2]) .ret))
def cc37:X2:=(.seq (.reg [(L,.alloc 2 [.nil,.nil])]) (.seq (.reg [(L,.build 4 [aS [],aB G] [(0,1,(KS [115,101,97])),(1,1,(KB T))]),(L,.build 5 [aS [],aB G] [(0,1,(KS [98,97,114]))]),mv 6 0,ca 7 45 [S 6,K 2],(L,.build 8 [aS [],aB G] [(0,1,(KS [114,111,97,100])),(1,1,(S 7))]),(L,.build 9 [aS [],aB G] [(0,1,(KS [113,117,97,121])),(1,1,(KB T))]),(L,.bslice 10 2 [.str [],.bool G] 4 [(0,(S 4)),(1,(S 5)),(2,(S 8)),(3,(S 9))]),(L,.build 11 [.nil,.nil] [(0,1,(S 10))]),(L,.alloc 3 [.nil,.nil]),so 3 11 2]) (.seq (.reg [mv 12 0,ca 13 43 [S 12,K 300],(L,.bin 14 .add (K 900) (S 13)),mv 15 0,ca 16 43 [S 15,K 40],(L,.bin 17 .add (K 10) (S 16)),(L,.build 18 [aI 0,aI 0,aI 0,aI 0,aB G] [(0,1,(K 0)),(1,1,(K 1)),(2,1,(S 14)),(3,1,(S 17))]),mv 19 0,ca 20 43 [S 19,K 300],(L,.bin 21 .add (K 800) (S 20)),mv 22 0,ca 23 43 [S 22,K 30],(L,.bin 24 .add (K 10) (S 23)),mv 25 0,ca 26 45 [S 25,K 2],(L,.build 27 [aI 0,aI 0,aI 0,aI 0,aB G] [(0,1,(K 1)),(1,1,(K 2)),(2,1,(S 21)),(3,1,(S 24)),(4,1,(S 26))]),mv 28 0,ca 29 43 [S 28,K 200],(L,.bin 30 .add (K 900) (S 29)),mv 31 0,ca 32 43 [S 31,K 20],(L,.bin 33 .add (K 5) (S 32)),(L,.build 34 [aI 0,aI 0,aI 0,aI 0,aB G] [(0,1,(K 2)),(1,1,(K 3)),(2,1,(S 30)),(3,1,(S 33))]),(L,.bslice 35 5 [.int .i64 0,.int .i64 0,.int .i64 0,.int .i64 0,.bool G] 3 [(0,(S 18)),(1,(S 27)),(2,(S 34))]),fa 36 3 1,so 36 35 1]) (.seq (.seq (.reg [mv 37 0,ca 38 45 [S 37,K 3]]) (.cond (S 38) (.any Y9) .skip)) E1b))))
abbrev E2(r12 r13:O × X1)(wo1_:AV)(c0_ c1_:P)(c2_ c3_:P)(c4_ c5_:P)(c6_ c7_:P)(c8_ c9_:P)(c10_ c11_:P)(bx_:N (Q × N AC))(rs_:Rows):St:=⟨[(0,vc (.pb 99999999999 0)),(2,vc (.pb 2 0)),(3,vc (.pb 3 0)),(39,bif c0_ then vc (.pb 3 1) else .undef),(40,bif c1_ then wo1_ else .undef),(41,bif c2_ then vc (.pb 99999999999 0) else .undef),(42,bif c3_ then vc (aI r12.1) else .undef),(43,bif c4_ then vc (aI (zF .i64 ((700:O)+r12.1))) else .undef),(44,bif c5_ then vc (.pb 99999999999 0) else .undef),(45,bif c6_ then vc (aI r13.1) else .undef),(46,bif c7_ then vc (aI (zF .i64 ((20:O)+r13.1))) else .undef),(47,bif c8_ then va [aI (3:O),aI (1:O),aI (zF .i64 ((700:O)+r12.1)),aI (zF .i64 ((20:O)+r13.1)),aB T] else .undef),(48,bif c9_ then vc (.own 3072) else .undef),(49,bif c10_ then vc (.own 2240) else .undef),(50,bif c11_ then vc (.pb 3 1) else .undef)],bx_,rs_⟩
abbrev R6(r1:P × X1)(r2 r3:O × X1)(r4 r5:O × X1)(r6:P × X1)(r7 r9:O × X1)(r12 r13:O × X1):St:=(E2 r12 r13 (vc (.undef)) T T T T T T T T T T T T [(99999999999,(dm r13.2.row)),(2,[.nil,.nil]),(3,[.own 640,.own 2240])] [(640,2,W zA ([(⟨([115,101,97]:N U),T⟩:Xd),(⟨([98,97,114]:N U),G⟩:Xd),(⟨([114,111,97,100]:N U),r1.1⟩:Xd),(⟨([113,117,97,121]:N U),T⟩:Xd)]:N Xd)),(2240,5,W X3.row (([(⟨(0:O),(1:O),(zF .i64 ((900:O)+r2.1)),(zF .i64 ((10:O)+r3.1)),G⟩:X3),(⟨(1:O),(2:O),(zF .i64 ((800:O)+r4.1)),(zF .i64 ((10:O)+r5.1)),r6.1⟩:X3),(⟨(2:O),(3:O),(zF .i64 ((900:O)+r7.1)),(zF .i64 ((5:O)+r9.1)),G⟩:X3)]:N X3)++([(⟨(3:O),(1:O),(zF .i64 ((700:O)+r12.1)),(zF .i64 ((20:O)+r13.1)),T⟩:X3)]:N X3))),(3072,5,W X3.row ([(⟨(3:O),(1:O),(zF .i64 ((700:O)+r12.1)),(zF .i64 ((20:O)+r13.1)),T⟩:X3)]:N X3))])
theorem G0h(r1:P × X1)(r2 r3:O × X1)(r4 r5:O × X1)(r6:P × X1)(r7 r9:O × X1)(r10:P × X1)(r12 r13:O × X1)(h12:A4 r10.2 (300:O)=H r12)(h13:A4 r12.2 (30:O)=H r13)(h14:(B9 ([(⟨(0:O),(1:O),(zF .i64 ((900:O)+r2.1)),(zF .i64 ((10:O)+r3.1)),G⟩:X3),(⟨(1:O),(2:O),(zF .i64 ((800:O)+r4.1)),(zF .i64 ((10:O)+r5.1)),r6.1⟩:X3),(⟨(2:O),(3:O),(zF .i64 ((900:O)+r7.1)),(zF .i64 ((5:O)+r9.1)),G⟩:X3)]:N X3).length ([(⟨(3:O),(1:O),(zF .i64 ((700:O)+r12.1)),(zF .i64 ((20:O)+r13.1)),T⟩:X3)]:N X3).length 40)=T):∀(f:Q),E0 X Y9 (R6 r1 r2 r3 r4 r5 r6 r7 r9 r12 r13) f [T,T,T,T,T,T,T,T,T,T,T,T,T] (E2 r12 r13 (vc (.undef)) T T T T T T T T T T T T [(99999999999,(dm r13.2.row)),(2,[.nil,.nil]),(3,[.own 640,.own 2240])] [(640,2,W zA ([(⟨([115,101,97]:N U),T⟩:Xd),(⟨([98,97,114]:N U),G⟩:Xd),(⟨([114,111,97,100]:N U),r1.1⟩:Xd),(⟨([113,117,97,121]:N U),T⟩:Xd)]:N Xd)),(2240,5,W X3.row (([(⟨(0:O),(1:O),(zF .i64 ((900:O)+r2.1)),(zF .i64 ((10:O)+r3.1)),G⟩:X3),(⟨(1:O),(2:O),(zF .i64 ((800:O)+r4.1)),(zF .i64 ((10:O)+r5.1)),r6.1⟩:X3),(⟨(2:O),(3:O),(zF .i64 ((900:O)+r7.1)),(zF .i64 ((5:O)+r9.1)),G⟩:X3)]:N X3)++([(⟨(3:O),(1:O),(zF .i64 ((700:O)+r12.1)),(zF .i64 ((20:O)+r13.1)),T⟩:X3)]:N X3))),(3072,5,W X3.row ([(⟨(3:O),(1:O),(zF .i64 ((700:O)+r12.1)),(zF .i64 ((20:O)+r13.1)),T⟩:X3)]:N X3))]):=by
 intro f
 induction f with
 | zero=>intro h; rfl
 | succ f ih=>
  refine A9 ⟨?_,?_,?_,?_,?_,?_,?_,?_,?_,?_,?_,?_,?_,⟨⟩⟩<;>try first | (intro h; cases h; done)
theorem G1l(r1:P × X1)(r2 r3:O × X1)(r4 r5:O × X1)(r6:P × X1)(r7 r9:O × X1)(r10:P × X1)(r12 r13:O × X1)(h12:A4 r10.2 (300:O)=H r12)(h13:A4 r12.2 (30:O)=H r13)(h14:(B9 ([(⟨(0:O),(1:O),(zF .i64 ((900:O)+r2.1)),(zF .i64 ((10:O)+r3.1)),G⟩:X3),(⟨(1:O),(2:O),(zF .i64 ((800:O)+r4.1)),(zF .i64 ((10:O)+r5.1)),r6.1⟩:X3),(⟨(2:O),(3:O),(zF .i64 ((900:O)+r7.1)),(zF .i64 ((5:O)+r9.1)),G⟩:X3)]:N X3).length ([(⟨(3:O),(1:O),(zF .i64 ((700:O)+r12.1)),(zF .i64 ((20:O)+r13.1)),T⟩:X3)]:N X3).length 40)=T):∀(f:Q) (b0 b4:P) (b7 b11:P),E0 X Y9 (R6 r1 r2 r3 r4 r5 r6 r7 r9 r12 r13) f [b0,T,T,T,b4,T,T,b7,T,T,T,b11,G] (E2 r12 r13 (vc (.undef)) b0 T T T b4 T T b7 T T T b11 [(99999999999,(dm r13.2.row)),(2,[.nil,.nil]),(3,[.own 640,.undef])] [(640,2,W zA ([(⟨([115,101,97]:N U),T⟩:Xd),(⟨([98,97,114]:N U),G⟩:Xd),(⟨([114,111,97,100]:N U),r1.1⟩:Xd),(⟨([113,117,97,121]:N U),T⟩:Xd)]:N Xd)),(2240,5,W X3.row (([(⟨(0:O),(1:O),(zF .i64 ((900:O)+r2.1)),(zF .i64 ((10:O)+r3.1)),G⟩:X3),(⟨(1:O),(2:O),(zF .i64 ((800:O)+r4.1)),(zF .i64 ((10:O)+r5.1)),r6.1⟩:X3),(⟨(2:O),(3:O),(zF .i64 ((900:O)+r7.1)),(zF .i64 ((5:O)+r9.1)),G⟩:X3)]:N X3)++([(⟨(3:O),(1:O),(zF .i64 ((700:O)+r12.1)),(zF .i64 ((20:O)+r13.1)),T⟩:X3)]:N X3))),(3072,5,W X3.row ([(⟨(3:O),(1:O),(zF .i64 ((700:O)+r12.1)),(zF .i64 ((20:O)+r13.1)),T⟩:X3)]:N X3))]):=by
 intro f
 induction f with
 | zero=>intro b0 b4 b7 b11 h; simp at h
 | succ f ih=>
  intro b0 b4 b7 b11
  refine A9 ⟨?_,?_,?_,?_,?_,?_,?_,?_,?_,?_,?_,?_,?_,⟨⟩⟩<;>try first | (intro h; cases h; done) | (intro h0 hw; obtain rfl:=hz h0 rfl; (try obtain rfl:=hq hw 0 rfl rfl); (try obtain rfl:=hq hw 4 rfl rfl); (try obtain rfl:=hq hw 7 rfl rfl); refine np ?_; simp only[E2,cdt,cdf,A1,A,B,C,E,F,J]; exact ih _ _ _ _)
  ·intro h0 hw
   obtain rfl:=hq hw 0 rfl rfl
   obtain rfl:=hq hw 4 rfl rfl
   obtain rfl:=hq hw 7 rfl rfl
   obtain rfl:=hq hw 11 rfl rfl
   refine np ?_
   try simp only[E2,cdt,cdf,A1,A,B,C,E,F,J]
   exact G0h r1 r2 r3 r4 r5 r6 r7 r9 r10 r12 r13 h12 h13 h14 _
theorem G0m(r1:P × X1)(r2 r3:O × X1)(r4 r5:O × X1)(r6:P × X1)(r7 r9:O × X1)(r10:P × X1)(r12 r13:O × X1)(h12:A4 r10.2 (300:O)=H r12)(h13:A4 r12.2 (30:O)=H r13)(h14:(B9 ([(⟨(0:O),(1:O),(zF .i64 ((900:O)+r2.1)),(zF .i64 ((10:O)+r3.1)),G⟩:X3),(⟨(1:O),(2:O),(zF .i64 ((800:O)+r4.1)),(zF .i64 ((10:O)+r5.1)),r6.1⟩:X3),(⟨(2:O),(3:O),(zF .i64 ((900:O)+r7.1)),(zF .i64 ((5:O)+r9.1)),G⟩:X3)]:N X3).length ([(⟨(3:O),(1:O),(zF .i64 ((700:O)+r12.1)),(zF .i64 ((20:O)+r13.1)),T⟩:X3)]:N X3).length 40)=T):∀(f:Q) (b0 b1:P) (b4 b7:P),E0 X Y9 (R6 r1 r2 r3 r4 r5 r6 r7 r9 r12 r13) f [b0,b1,T,T,b4,T,T,b7,T,T,G,G,G] (E2 r12 r13 (vc (.own 2240)) b0 b1 T T b4 T T b7 T T G G [(99999999999,(dm r13.2.row)),(2,[.nil,.nil]),(3,[.own 640,.own 2240])] [(640,2,W zA ([(⟨([115,101,97]:N U),T⟩:Xd),(⟨([98,97,114]:N U),G⟩:Xd),(⟨([114,111,97,100]:N U),r1.1⟩:Xd),(⟨([113,117,97,121]:N U),T⟩:Xd)]:N Xd)),(2240,5,W X3.row ([(⟨(0:O),(1:O),(zF .i64 ((900:O)+r2.1)),(zF .i64 ((10:O)+r3.1)),G⟩:X3),(⟨(1:O),(2:O),(zF .i64 ((800:O)+r4.1)),(zF .i64 ((10:O)+r5.1)),r6.1⟩:X3),(⟨(2:O),(3:O),(zF .i64 ((900:O)+r7.1)),(zF .i64 ((5:O)+r9.1)),G⟩:X3)]:N X3)),(3072,5,W X3.row ([(⟨(3:O),(1:O),(zF .i64 ((700:O)+r12.1)),(zF .i64 ((20:O)+r13.1)),T⟩:X3)]:N X3))]):=by
 intro f
 induction f with
 | zero=>intro b0 b1 b4 b7 h; simp at h
 | succ f ih=>
  intro b0 b1 b4 b7
  refine A9 ⟨?_,?_,?_,?_,?_,?_,?_,?_,?_,?_,?_,?_,?_,⟨⟩⟩<;>try first | (intro h; cases h; done) | (intro _ hw; simp at hw; done) | (intro h0 hw; obtain rfl:=hz h0 rfl; (try obtain rfl:=hq hw 0 rfl rfl); refine np ?_; simp only[E2,cdt,cdf,A1,A,B,C,E,F,J]; exact ih _ _ _ _)
  ·intro h0 hw
   obtain rfl:=hq hw 1 rfl rfl
   refine np ?_
   try simp only[h14,E2,cdt,cdf,A1,A,B,C,E,F,J]
   exact G1l r1 r2 r3 r4 r5 r6 r7 r9 r10 r12 r13 h12 h13 h14 _ b0 b4 b7 G
theorem G1k(r1:P × X1)(r2 r3:O × X1)(r4 r5:O × X1)(r6:P × X1)(r7 r9:O × X1)(r10:P × X1)(r12 r13:O × X1)(h12:A4 r10.2 (300:O)=H r12)(h13:A4 r12.2 (30:O)=H r13)(h14:(B9 ([(⟨(0:O),(1:O),(zF .i64 ((900:O)+r2.1)),(zF .i64 ((10:O)+r3.1)),G⟩:X3),(⟨(1:O),(2:O),(zF .i64 ((800:O)+r4.1)),(zF .i64 ((10:O)+r5.1)),r6.1⟩:X3),(⟨(2:O),(3:O),(zF .i64 ((900:O)+r7.1)),(zF .i64 ((5:O)+r9.1)),G⟩:X3)]:N X3).length ([(⟨(3:O),(1:O),(zF .i64 ((700:O)+r12.1)),(zF .i64 ((20:O)+r13.1)),T⟩:X3)]:N X3).length 40)=T):∀(f:Q) (b0 b1:P) (b4 b7 b8:P),E0 X Y9 (R6 r1 r2 r3 r4 r5 r6 r7 r9 r12 r13) f [b0,b1,T,T,b4,T,T,b7,b8,G,G,G,G] (E2 r12 r13 (vc (.own 2240)) b0 b1 T T b4 T T b7 b8 G G G [(99999999999,(dm r13.2.row)),(2,[.nil,.nil]),(3,[.own 640,.own 2240])] [(640,2,W zA ([(⟨([115,101,97]:N U),T⟩:Xd),(⟨([98,97,114]:N U),G⟩:Xd),(⟨([114,111,97,100]:N U),r1.1⟩:Xd),(⟨([113,117,97,121]:N U),T⟩:Xd)]:N Xd)),(2240,5,W X3.row ([(⟨(0:O),(1:O),(zF .i64 ((900:O)+r2.1)),(zF .i64 ((10:O)+r3.1)),G⟩:X3),(⟨(1:O),(2:O),(zF .i64 ((800:O)+r4.1)),(zF .i64 ((10:O)+r5.1)),r6.1⟩:X3),(⟨(2:O),(3:O),(zF .i64 ((900:O)+r7.1)),(zF .i64 ((5:O)+r9.1)),G⟩:X3)]:N X3))]):=by
 intro f
 induction f with
 | zero=>intro b0 b1 b4 b7 b8 h; simp at h
 | succ f ih=>
  intro b0 b1 b4 b7 b8
  refine A9 ⟨?_,?_,?_,?_,?_,?_,?_,?_,?_,?_,?_,?_,?_,⟨⟩⟩<;>try first | (intro h; cases h; done) | (intro _ hw; simp at hw; done) | (intro h0 hw; obtain rfl:=hz h0 rfl; (try obtain rfl:=hq hw 0 rfl rfl); (try obtain rfl:=hq hw 4 rfl rfl); (try obtain rfl:=hq hw 7 rfl rfl); refine np ?_; simp only[E2,cdt,cdf,A1,A,B,C,E,F,J]; exact ih _ _ _ _ _)
  ·intro h0 hw
   obtain rfl:=hq hw 8 rfl rfl
   refine np ?_
   try simp only[E2,cdt,cdf,A1,A,B,C,E,F,J]
   refine D6 (es:=W X3.row ([(⟨(3:O),(1:O),(zF .i64 ((700:O)+r12.1)),(zF .i64 ((20:O)+r13.1)),T⟩:X3)]:N X3)) V (by simp only[St.fresh,zC,zD,H5]; simp[AV.cells,V1.cells,AC.uses]) ?_
   try simp only[A1,A,B,C,E,F,J]
   exact G0m r1 r2 r3 r4 r5 r6 r7 r9 r10 r12 r13 h12 h13 h14 _ b0 b1 b4 b7
theorem G01(r1:P × X1)(r2 r3:O × X1)(r4 r5:O × X1)(r6:P × X1)(r7 r9:O × X1)(r10:P × X1)(r12 r13:O × X1)(h12:A4 r10.2 (300:O)=H r12)(h13:A4 r12.2 (30:O)=H r13)(h14:(B9 ([(⟨(0:O),(1:O),(zF .i64 ((900:O)+r2.1)),(zF .i64 ((10:O)+r3.1)),G⟩:X3),(⟨(1:O),(2:O),(zF .i64 ((800:O)+r4.1)),(zF .i64 ((10:O)+r5.1)),r6.1⟩:X3),(⟨(2:O),(3:O),(zF .i64 ((900:O)+r7.1)),(zF .i64 ((5:O)+r9.1)),G⟩:X3)]:N X3).length ([(⟨(3:O),(1:O),(zF .i64 ((700:O)+r12.1)),(zF .i64 ((20:O)+r13.1)),T⟩:X3)]:N X3).length 40)=T):∀(f:Q) (b0 b1:P) (b4 b5:P),E0 X Y9 (R6 r1 r2 r3 r4 r5 r6 r7 r9 r12 r13) f [b0,b1,T,T,b4,b5,G,G,G,G,G,G,G] (E2 r12 r13 (vc (.own 2240)) b0 b1 T T b4 b5 G G G G G G [(99999999999,(dm r12.2.row)),(2,[.nil,.nil]),(3,[.own 640,.own 2240])] [(640,2,W zA ([(⟨([115,101,97]:N U),T⟩:Xd),(⟨([98,97,114]:N U),G⟩:Xd),(⟨([114,111,97,100]:N U),r1.1⟩:Xd),(⟨([113,117,97,121]:N U),T⟩:Xd)]:N Xd)),(2240,5,W X3.row ([(⟨(0:O),(1:O),(zF .i64 ((900:O)+r2.1)),(zF .i64 ((10:O)+r3.1)),G⟩:X3),(⟨(1:O),(2:O),(zF .i64 ((800:O)+r4.1)),(zF .i64 ((10:O)+r5.1)),r6.1⟩:X3),(⟨(2:O),(3:O),(zF .i64 ((900:O)+r7.1)),(zF .i64 ((5:O)+r9.1)),G⟩:X3)]:N X3))]):=by
 intro f
 induction f with
 | zero=>intro b0 b1 b4 b5 h; simp at h
 | succ f ih=>
  intro b0 b1 b4 b5
  refine A9 ⟨?_,?_,?_,?_,?_,?_,?_,?_,?_,?_,?_,?_,?_,⟨⟩⟩<;>try first | (intro h; cases h; done) | (intro _ hw; simp at hw; done) | (intro h0 hw; obtain rfl:=hz h0 rfl; (try obtain rfl:=hq hw 0 rfl rfl); refine np ?_; simp only[E2,cdt,cdf,A1,A,B,C,E,F,J]; exact ih _ _ _ _)
  ·intro h0 hw
   obtain rfl:=hq hw 5 rfl rfl
   refine np ?_
   try simp only[E2,cdt,cdf,A1,A,B,C,E,F,J]
   refine C7 (B8 _ _ _ h13) 99999999999 V V V ?_
   try simp only[A1,A,B,C,E,F,J]
   exact G1k r1 r2 r3 r4 r5 r6 r7 r9 r10 r12 r13 h12 h13 h14 _ b0 b1 b4 G G
theorem G0f(r1:P × X1)(r2 r3:O × X1)(r4 r5:O × X1)(r6:P × X1)(r7 r9:O × X1)(r10:P × X1)(r12 r13:O × X1)(h12:A4 r10.2 (300:O)=H r12)(h13:A4 r12.2 (30:O)=H r13)(h14:(B9 ([(⟨(0:O),(1:O),(zF .i64 ((900:O)+r2.1)),(zF .i64 ((10:O)+r3.1)),G⟩:X3),(⟨(1:O),(2:O),(zF .i64 ((800:O)+r4.1)),(zF .i64 ((10:O)+r5.1)),r6.1⟩:X3),(⟨(2:O),(3:O),(zF .i64 ((900:O)+r7.1)),(zF .i64 ((5:O)+r9.1)),G⟩:X3)]:N X3).length ([(⟨(3:O),(1:O),(zF .i64 ((700:O)+r12.1)),(zF .i64 ((20:O)+r13.1)),T⟩:X3)]:N X3).length 40)=T):∀(f:Q) (b0 b1:P) (b2 b5:P),E0 X Y9 (R6 r1 r2 r3 r4 r5 r6 r7 r9 r12 r13) f [b0,b1,b2,G,G,b5,G,G,G,G,G,G,G] (E2 r12 r13 (vc (.own 2240)) b0 b1 b2 G G b5 G G G G G G [(99999999999,(dm r10.2.row)),(2,[.nil,.nil]),(3,[.own 640,.own 2240])] [(640,2,W zA ([(⟨([115,101,97]:N U),T⟩:Xd),(⟨([98,97,114]:N U),G⟩:Xd),(⟨([114,111,97,100]:N U),r1.1⟩:Xd),(⟨([113,117,97,121]:N U),T⟩:Xd)]:N Xd)),(2240,5,W X3.row ([(⟨(0:O),(1:O),(zF .i64 ((900:O)+r2.1)),(zF .i64 ((10:O)+r3.1)),G⟩:X3),(⟨(1:O),(2:O),(zF .i64 ((800:O)+r4.1)),(zF .i64 ((10:O)+r5.1)),r6.1⟩:X3),(⟨(2:O),(3:O),(zF .i64 ((900:O)+r7.1)),(zF .i64 ((5:O)+r9.1)),G⟩:X3)]:N X3))]):=by
 intro f
 induction f with
 | zero=>intro b0 b1 b2 b5 h; simp at h
 | succ f ih=>
  intro b0 b1 b2 b5
  refine A9 ⟨?_,?_,?_,?_,?_,?_,?_,?_,?_,?_,?_,?_,?_,⟨⟩⟩<;>try first | (intro _ hw; simp at hw; done) | (intro h0 hw; obtain rfl:=hz h0 rfl; (try obtain rfl:=hq hw 0 rfl rfl); refine np ?_; simp only[E2,cdt,cdf,A1,A,B,C,E,F,J]; exact ih _ _ _ _)
  ·intro h0 hw
   obtain rfl:=hq hw 2 rfl rfl
   refine np ?_
   try simp only[E2,cdt,cdf,A1,A,B,C,E,F,J]
   refine C7 (B8 _ _ _ h12) 99999999999 V V V ?_
   try simp only[A1,A,B,C,E,F,J]
   exact G01 r1 r2 r3 r4 r5 r6 r7 r9 r10 r12 r13 h12 h13 h14 _ b0 b1 G b5
abbrev F6(r23:O × X1)(wo1_:AV)(c0_ c1_:P)(c2_ c3_:P)(c4_ c5_:P)(c6_ c7_ c8_:P)(bx_:N (Q × N AC))(rs_:Rows):St:=⟨[(0,vc (.pb 99999999999 0)),(2,vc (.pb 2 0)),(3,vc (.pb 3 0)),(59,bif c0_ then vc (.pb 3 1) else .undef),(60,bif c1_ then wo1_ else .undef),(61,bif c2_ then vc (.pb 99999999999 0) else .undef),(62,bif c3_ then vc (aI r23.1) else .undef),(63,bif c4_ then vc (aI (zF .i64 ((800:O)+r23.1))) else .undef),(64,bif c5_ then va [aI (2:O),aI (4:O),aI (zF .i64 ((800:O)+r23.1)),aI (15:O),aB G] else .undef),(65,bif c6_ then vc (.own 4160) else .undef),(66,bif c7_ then vc (.own 2240) else .undef),(67,bif c8_ then vc (.pb 3 1) else .undef)],bx_,rs_⟩
abbrev W7(v18:N Xd)(v19:N X3)(r23:O × X1):St:=(F6 r23 (vc (.undef)) T T T T T T T T T [(99999999999,(dm r23.2.row)),(2,[.nil,.nil]),(3,[.own 640,.own 2240])] [(640,2,W zA (v18++([(⟨([100,111,99,107]:N U),T⟩:Xd)]:N Xd))),(2240,5,W X3.row (v19++([(⟨(2:O),(4:O),(zF .i64 ((800:O)+r23.1)),(15:O),G⟩:X3)]:N X3))),(4160,5,W X3.row ([(⟨(2:O),(4:O),(zF .i64 ((800:O)+r23.1)),(15:O),G⟩:X3)]:N X3))])
theorem G0l(v18:N Xd)(v19:N X3)(r20:P × X1)(r23:O × X1)(h23:A4 r20.2 (300:O)=H r23)(h24:(B9 v19.length ([(⟨(2:O),(4:O),(zF .i64 ((800:O)+r23.1)),(15:O),G⟩:X3)]:N X3).length 40)=T):∀(f:Q),E0 X A1p (W7 v18 v19 r23) f [T,T,T,T,T,T,T,T,T,T] (F6 r23 (vc (.undef)) T T T T T T T T T [(99999999999,(dm r23.2.row)),(2,[.nil,.nil]),(3,[.own 640,.own 2240])] [(640,2,W zA (v18++([(⟨([100,111,99,107]:N U),T⟩:Xd)]:N Xd))),(2240,5,W X3.row (v19++([(⟨(2:O),(4:O),(zF .i64 ((800:O)+r23.1)),(15:O),G⟩:X3)]:N X3))),(4160,5,W X3.row ([(⟨(2:O),(4:O),(zF .i64 ((800:O)+r23.1)),(15:O),G⟩:X3)]:N X3))]):=by
 intro f
 induction f with
 | zero=>intro h; rfl
 | succ f ih=>
  refine A9 ⟨?_,?_,?_,?_,?_,?_,?_,?_,?_,?_,⟨⟩⟩<;>try first | (intro h; cases h; done)
theorem G0r(v18:N Xd)(v19:N X3)(r20:P × X1)(r23:O × X1)(h23:A4 r20.2 (300:O)=H r23)(h24:(B9 v19.length ([(⟨(2:O),(4:O),(zF .i64 ((800:O)+r23.1)),(15:O),G⟩:X3)]:N X3).length 40)=T):∀(f:Q) (b0 b4 b8:P),E0 X A1p (W7 v18 v19 r23) f [b0,T,T,T,b4,T,T,T,b8,G] (F6 r23 (vc (.undef)) b0 T T T b4 T T T b8 [(99999999999,(dm r23.2.row)),(2,[.nil,.nil]),(3,[.own 640,.undef])] [(640,2,W zA (v18++([(⟨([100,111,99,107]:N U),T⟩:Xd)]:N Xd))),(2240,5,W X3.row (v19++([(⟨(2:O),(4:O),(zF .i64 ((800:O)+r23.1)),(15:O),G⟩:X3)]:N X3))),(4160,5,W X3.row ([(⟨(2:O),(4:O),(zF .i64 ((800:O)+r23.1)),(15:O),G⟩:X3)]:N X3))]):=by
 intro f
 induction f with
 | zero=>intro b0 b4 b8 h; simp at h
 | succ f ih=>
  intro b0 b4 b8
  refine A9 ⟨?_,?_,?_,?_,?_,?_,?_,?_,?_,?_,⟨⟩⟩<;>try first | (intro h; cases h; done) | (intro h0 hw; obtain rfl:=hz h0 rfl; (try obtain rfl:=hq hw 0 rfl rfl); (try obtain rfl:=hq hw 4 rfl rfl); refine np ?_; simp only[F6,cdt,cdf,A1,A,B,C,E,F,J]; exact ih _ _ _)
  ·intro h0 hw
   obtain rfl:=hq hw 0 rfl rfl
   obtain rfl:=hq hw 4 rfl rfl
   obtain rfl:=hq hw 8 rfl rfl
   refine np ?_
   try simp only[F6,cdt,cdf,A1,A,B,C,E,F,J]
   exact G0l v18 v19 r20 r23 h23 h24 _
theorem G0t(v18:N Xd)(v19:N X3)(r20:P × X1)(r23:O × X1)(h23:A4 r20.2 (300:O)=H r23)(h24:(B9 v19.length ([(⟨(2:O),(4:O),(zF .i64 ((800:O)+r23.1)),(15:O),G⟩:X3)]:N X3).length 40)=T):∀(f:Q) (b0 b1 b4:P),E0 X A1p (W7 v18 v19 r23) f [b0,b1,T,T,b4,T,T,G,G,G] (F6 r23 (vc (.own 2240)) b0 b1 T T b4 T T G G [(99999999999,(dm r23.2.row)),(2,[.nil,.nil]),(3,[.own 640,.own 2240])] [(640,2,W zA (v18++([(⟨([100,111,99,107]:N U),T⟩:Xd)]:N Xd))),(2240,5,W X3.row v19),(4160,5,W X3.row ([(⟨(2:O),(4:O),(zF .i64 ((800:O)+r23.1)),(15:O),G⟩:X3)]:N X3))]):=by
 intro f
 induction f with
 | zero=>intro b0 b1 b4 h; simp at h
 | succ f ih=>
  intro b0 b1 b4
  refine A9 ⟨?_,?_,?_,?_,?_,?_,?_,?_,?_,?_,⟨⟩⟩<;>try first | (intro h; cases h; done) | (intro _ hw; simp at hw; done) | (intro h0 hw; obtain rfl:=hz h0 rfl; (try obtain rfl:=hq hw 0 rfl rfl); refine np ?_; simp only[F6,cdt,cdf,A1,A,B,C,E,F,J]; exact ih _ _ _)
  ·intro h0 hw
   obtain rfl:=hq hw 1 rfl rfl
   refine np ?_
   try simp only[h24,F6,cdt,cdf,A1,A,B,C,E,F,J]
   exact G0r v18 v19 r20 r23 h23 h24 _ b0 b4 G
theorem G0p(v18:N Xd)(v19:N X3)(r20:P × X1)(r23:O × X1)(h23:A4 r20.2 (300:O)=H r23)(h24:(B9 v19.length ([(⟨(2:O),(4:O),(zF .i64 ((800:O)+r23.1)),(15:O),G⟩:X3)]:N X3).length 40)=T):∀(f:Q) (b0 b1:P) (b4 b5:P),E0 X A1p (W7 v18 v19 r23) f [b0,b1,T,T,b4,b5,G,G,G,G] (F6 r23 (vc (.own 2240)) b0 b1 T T b4 b5 G G G [(99999999999,(dm r23.2.row)),(2,[.nil,.nil]),(3,[.own 640,.own 2240])] [(640,2,W zA (v18++([(⟨([100,111,99,107]:N U),T⟩:Xd)]:N Xd))),(2240,5,W X3.row v19)]):=by
 intro f
 induction f with
 | zero=>intro b0 b1 b4 b5 h; simp at h
 | succ f ih=>
  intro b0 b1 b4 b5
  refine A9 ⟨?_,?_,?_,?_,?_,?_,?_,?_,?_,?_,⟨⟩⟩<;>try first | (intro h; cases h; done) | (intro _ hw; simp at hw; done) | (intro h0 hw; obtain rfl:=hz h0 rfl; (try obtain rfl:=hq hw 0 rfl rfl); (try obtain rfl:=hq hw 4 rfl rfl); refine np ?_; simp only[F6,cdt,cdf,A1,A,B,C,E,F,J]; exact ih _ _ _ _)
  ·intro h0 hw
   obtain rfl:=hq hw 5 rfl rfl
   refine np ?_
   try simp only[F6,cdt,cdf,A1,A,B,C,E,F,J]
   refine D6 (es:=W X3.row ([(⟨(2:O),(4:O),(zF .i64 ((800:O)+r23.1)),(15:O),G⟩:X3)]:N X3)) V (by simp only[St.fresh,zC,zD,H5]; simp[AV.cells,V1.cells,AC.uses]) ?_
   try simp only[A1,A,B,C,E,F,J]
   exact G0t v18 v19 r20 r23 h23 h24 _ b0 b1 b4
theorem G1e(v18:N Xd)(v19:N X3)(r20:P × X1)(r23:O × X1)(h23:A4 r20.2 (300:O)=H r23)(h24:(B9 v19.length ([(⟨(2:O),(4:O),(zF .i64 ((800:O)+r23.1)),(15:O),G⟩:X3)]:N X3).length 40)=T):∀(f:Q) (b0 b1 b2:P),E0 X A1p (W7 v18 v19 r23) f [b0,b1,b2,G,G,G,G,G,G,G] (F6 r23 (vc (.own 2240)) b0 b1 b2 G G G G G G [(99999999999,(dm r20.2.row)),(2,[.nil,.nil]),(3,[.own 640,.own 2240])] [(640,2,W zA (v18++([(⟨([100,111,99,107]:N U),T⟩:Xd)]:N Xd))),(2240,5,W X3.row v19)]):=by
 intro f
 induction f with
 | zero=>intro b0 b1 b2 h; simp at h
 | succ f ih=>
  intro b0 b1 b2
  refine A9 ⟨?_,?_,?_,?_,?_,?_,?_,?_,?_,?_,⟨⟩⟩<;>try first | (intro _ hw; simp at hw; done) | (intro h0 hw; obtain rfl:=hz h0 rfl; (try obtain rfl:=hq hw 0 rfl rfl); refine np ?_; simp only[F6,cdt,cdf,A1,A,B,C,E,F,J]; exact ih _ _ _)
  ·intro h0 hw
   obtain rfl:=hq hw 2 rfl rfl
   refine np ?_
   try simp only[F6,cdt,cdf,A1,A,B,C,E,F,J]
   refine C7 (B8 _ _ _ h23) 99999999999 V V V ?_
   try simp only[A1,A,B,C,E,F,J]
   exact G0p v18 v19 r20 r23 h23 h24 _ b0 b1 G G
theorem E8n(v15:N O)(v16 v17:O)(v18:N Xd)(v19:N X3)(r:X9 × X1)(h:A2f v15 v16 v17 v18 v19=H r)(σ:St)(hσ:σ.kept [0,2,3] [99999999999,2,3] [640,2240]=⟨[(0,vc (.pb 99999999999 0)),(2,vc (.pb 2 0)),(3,vc (.pb 3 0))],[(99999999999,[aL (W r8 v15),aI v16,aI v17]),(2,[.nil,.nil]),(3,[.own 640,.own 2240])],[(640,2,W zA v18),(2240,5,W X3.row v19)]⟩):go X (.code E1b:: []) (B15 [.c 2 T 2] [.ag [.v (.sl (W zA r.1.Points)),.v (.sl (W X3.row r.1.Segments))]] [.sl (W r8 r.2.b),.int .i64 r.2.i,.int .i64 r.2.h]) .normal (H σ):=by
 unfold A2f at h
 obtain⟨r20,h20,h⟩:=ob h
 try simp only[hσ,E1b,A,B,C,E,F,J]
 refine C7 (Y3 _ _ _ h20) 99999999999 V V V ?_
 rcases ic h with ⟨h21,h⟩|⟨h21,h⟩
 ·try simp only[h21,A,B,C,E,F,J]
  refine D6 (es:=W zA ([(⟨([100,111,99,107]:N U),T⟩:Xd)]:N Xd)) V V ?_
  obtain⟨h22,h⟩:=C9 h
  try simp only[h21,h22,A,B,C,E,F,J]
  obtain⟨r23,h23,h⟩:=ob h
  obtain⟨h24,h⟩:=C9 h
  refine A3l (ks:= [0,2,3]) (bs:= [99999999999,2,3]) (rs:= [640,2240]) (τ:=(W7 v18 v19 r23)) V (G1e v18 v19 r20 r23 h23 h24 _ G G G) ?_
  simp only[W7,F6,cdt]
  try simp only[h21,h22,h24,A,B,C,E,F,J]
  refine N7 V ?_
  try simp only[h21,h22,h24,A,B,C,E,F,J]
  refine N7 V ?_
  try simp only[h21,h22,h24,A,B,C,E,F,J]
  cases h
  try simp only[I2,A,B,C,E,F,J]
  trivial
 ·try simp only[h21,A,B,C,E,F,J]
  refine N7 V ?_
  try simp only[h21,A,B,C,E,F,J]
  refine N7 V ?_
  try simp only[h21,A,B,C,E,F,J]
  cases h
  try simp only[I2,A,B,C,E,F,J]
  trivial
theorem G0y:A5 X 94=H (cc37.strip,[.c 2 T 2],69):=by kernel_rfl
theorem C2s(a0:X1)(r:X9 × X1)(h:A50 a0=H r):FCy X 94 [.p] [.sl (W r8 a0.b),.int .i64 a0.i,.int .i64 a0.h] [.sl (W r8 r.2.b),.int .i64 r.2.i,.int .i64 r.2.h] [.ag [.v (.sl (W zA r.1.Points)),.v (.sl (W X3.row r.1.Segments))]]:=by
 unfold A50 at h
 refine A4s (σ:=⟨[(0,vc (.pb 99999999999 0))],[(99999999999,[aL (W r8 a0.b),aI a0.i,aI a0.h])],[]⟩) mixed G0y V V ?_
 simp only[cc37]
 try simp only[A,B,C,E,F,J]
 refine B7 V V ?_
 obtain⟨r1,h1,h⟩:=ob h
 try simp only[A,B,C,E,F,J]
 refine C7 (Y3 _ _ _ h1) 99999999999 V V V ?_
 try simp only[A,B,C,E,F,J]
 refine D6 (es:=W zA ([(⟨([115,101,97]:N U),T⟩:Xd),(⟨([98,97,114]:N U),G⟩:Xd),(⟨([114,111,97,100]:N U),r1.1⟩:Xd),(⟨([113,117,97,121]:N U),T⟩:Xd)]:N Xd)) V V ?_
 try simp only[A,B,C,E,F,J]
 refine B7 V V ?_
 obtain⟨r2,h2,h⟩:=ob h
 try simp only[A,B,C,E,F,J]
 refine C7 (B8 _ _ _ h2) 99999999999 V V V ?_
 obtain⟨r3,h3,h⟩:=ob h
 try simp only[A,B,C,E,F,J]
 refine C7 (B8 _ _ _ h3) 99999999999 V V V ?_
 obtain⟨r4,h4,h⟩:=ob h
 try simp only[A,B,C,E,F,J]
 refine C7 (B8 _ _ _ h4) 99999999999 V V V ?_
 obtain⟨r5,h5,h⟩:=ob h
 try simp only[A,B,C,E,F,J]
 refine C7 (B8 _ _ _ h5) 99999999999 V V V ?_
 obtain⟨r6,h6,h⟩:=ob h
 try simp only[A,B,C,E,F,J]
 refine C7 (Y3 _ _ _ h6) 99999999999 V V V ?_
 obtain⟨r7,h7,h⟩:=ob h
 try simp only[A,B,C,E,F,J]
 refine C7 (B8 _ _ _ h7) 99999999999 V V V ?_
 obtain⟨r9,h9,h⟩:=ob h
 try simp only[A,B,C,E,F,J]
 refine C7 (B8 _ _ _ h9) 99999999999 V V V ?_
 try simp only[A,B,C,E,F,J]
 refine D6 (es:=W X3.row ([(⟨(0:O),(1:O),(zF .i64 ((900:O)+r2.1)),(zF .i64 ((10:O)+r3.1)),G⟩:X3),(⟨(1:O),(2:O),(zF .i64 ((800:O)+r4.1)),(zF .i64 ((10:O)+r5.1)),r6.1⟩:X3),(⟨(2:O),(3:O),(zF .i64 ((900:O)+r7.1)),(zF .i64 ((5:O)+r9.1)),G⟩:X3)]:N X3)) V V ?_
 obtain⟨r10,h10,h⟩:=ob h
 try simp only[A,B,C,E,F,J]
 refine C7 (Y3 _ _ _ h10) 99999999999 V V V ?_
 rcases ic h with ⟨h11,h⟩|⟨h11,h⟩
 ·try simp only[h11,A,B,C,E,F,J]
  obtain⟨r12,h12,h⟩:=ob h
  obtain⟨r13,h13,h⟩:=ob h
  obtain⟨h14,h⟩:=C9 h
  refine A3l (ks:= [0,2,3]) (bs:= [99999999999,2,3]) (rs:= [640,2240]) (τ:=(R6 r1 r2 r3 r4 r5 r6 r7 r9 r12 r13)) V (G0f r1 r2 r3 r4 r5 r6 r7 r9 r10 r12 r13 h12 h13 h14 _ G G G G) ?_
  simp only[R6,E2,cdt]
  try simp only[h11,h14,A,B,C,E,F,J]
  refine E8n _ _ _ _ _ _ h _ ?_
  try simp only[h11,h14,A,B,C,E,F,J,Y]
 ·try simp only[h11,A,B,C,E,F,J]
  refine E8n _ _ _ _ _ _ h _ ?_
  try simp only[h11,A,B,C,E,F,J,Y]
/- 138:spec_FormatInt -/
def D1y:X2:= .seq (.reg [(L,.keep [0,3] [] [])]) (.seq (.seq (.reg [mv 25 0,(L,.bin 26 .gtr (S 25) (K 9))]) (.cond (S 26) .skip (.exit 0))) (.block 1 (.seq (.reg [mv 27 0,(L,.bin 28 .rem (S 27) (K 10)),(L,.bin 29 .add (K 48) (S 28)),(L,.conv 30 .u8 (S 29)),(L,.bslice 31 1 [.int .u8 0] 1 [(0,(S 30))]),(L,.sconv 32 (S 31)),mv 33 3,bn 34 .add 32 33,mv 3 34]) (.reg [mv 35 0,(L,.bin 36 .quo (S 35) (K 10)),mv 0 36]))))
def E0m:X2:=(.seq (.reg [mv 37 0,(L,.bin 38 .add (K 48) (S 37)),(L,.conv 39 .u8 (S 38)),(L,.bslice 40 1 [.int .u8 0] 1 [(0,(S 39))]),(L,.sconv 41 (S 40)),mv 42 3,bn 43 .add 41 42,mv 2 43]) .ret)
def cc53:X2:=(.seq (.reg [(L,.mv 2 (KS []))]) (.seq (.seq (.reg [mv 4 0,(L,.bin 5 .lss (S 4) (K 0))]) (.cond (S 5) (.seq (.seq (.reg [mv 6 0,(L,.bin 7 .quo (S 6) (K 10)),(L,.bin 8 .eql (S 7) (K 0))]) (.cond (S 8) (.seq (.reg [mv 9 0,(L,.bin 10 .sub (K 48) (S 9)),(L,.conv 11 .u8 (S 10)),(L,.bslice 12 1 [.int .u8 0] 1 [(0,(S 11))]),(L,.sconv 13 (S 12)),(L,.bin 14 .add (KS [45]) (S 13)),mv 2 14]) .ret) .skip)) (.seq (.drw [(H [22],mv 15 0),(H [22],(L,.bin 16 .quo (S 15) (K 10))),(H [22],ca 17 138 [S 16]),(H [17],mv 18 0),(H [17],(L,.bin 19 .rem (S 18) (K 10))),(H [17],(L,.bin 20 .sub (K 48) (S 19))),(H [17],(L,.conv 21 .u8 (S 20))),(H [17],(L,.bslice 22 1 [.int .u8 0] 1 [(0,(S 21))])),(H [17],(L,.sconv 23 (S 22))),o0 (bn 24 .add 17 23),o0 (mv 2 24)]) .ret)) .skip)) (.seq (.reg [(L,.mv 3 (KS []))]) (.seq (.block 0 (.loop D1y)) E0m))))
theorem G0j(rec_:O→Option (N U))(h_rec:∀(a0:O) zr,rec_ a0=H zr→FC X 138 [.sc (.int .i64 a0)] [.sc (.v (.str zr))]):∀(n:Q) (v6:O) (v7:N U) (r:(N U)),A47 rec_ n v6 v7=H r→∀σ:St,σ.kept [0,3] [] []=⟨[(0,vc (aI v6)),(3,vc (aS v7))],[],[]⟩→go X (.code (.loop D1y):: [.blk 0,.code E0m]) (Ret [2] [.sc (.v (.str r))]) .normal (H σ):=by
 intro n
 induction n with
 | zero=>intro _ _ r h; cases h
 | succ n ih=>
  intro v6 v7 r h σ hσ
  rw[A47] at h
  refine B5 ?_
  rcases ic h with ⟨h8,h⟩|⟨h8,h⟩
  ·try simp only[hσ,h8,D1y,A,B,C,E,F,J]
   refine D6 (es:=W r8 ([(IntKind.u8.wrap (zF .i64 ((48:O)+(zF .i64 (Int.tmod v6 (10:O))))))]:N O)) V V ?_
   obtain⟨h9,h⟩:=C9 h
   try simp only[h8,h9,A,B,C,E,F,J]
   refine ih _ _ _ h _ ?_
   try simp only[h8,h9,A,B,C,E,F,J,Y]
  ·try simp only[hσ,h8,D1y,E0m,A,B,C,E,F,J]
   refine D6 (es:=W r8 ([(IntKind.u8.wrap (zF .i64 ((48:O)+v6)))]:N O)) V V ?_
   obtain⟨h10,h⟩:=C9 h
   try simp only[h8,h10,A,B,C,E,F,J]
   cases h
   trivial
theorem G1a:A5 X 138=H (cc53.strip,[2],44):=by kernel_rfl
theorem B51(rec_:O→Option (N U))(a0:O)(r:(N U))(h_rec:∀(a0:O) zr,rec_ a0=H zr→FC X 138 [.sc (.int .i64 a0)] [.sc (.v (.str zr))])(h:A7p rec_ a0=H r):FC X 138 [.sc (.int .i64 a0)] [.sc (.v (.str r))]:=by
 unfold A7p at h
 refine C3 mixed G1a V ?_
 simp only[cc53,A,B,C,E,F,J]
 rcases ic h with ⟨h1,h⟩|⟨h1,h⟩
 ·rcases ic h with ⟨h2,h⟩|⟨h2,h⟩
  ·try simp only[h1,h2,A,B,C,E,F,J]
   refine D6 (es:=W r8 ([(IntKind.u8.wrap (zF .i64 ((48:O) - a0)))]:N O)) V V ?_
   obtain⟨h3,h⟩:=C9 h
   try simp only[h1,h2,h3,A,B,C,E,F,J]
   cases h
   trivial
  ·try simp only[h1,h2,A,B,C,E,F,J]
   refine B3 V ?_
   obtain⟨r4,h4,h⟩:=ob h
   try simp only[h1,h2,A,B,C,E,F,J]
   refine E1 (h_rec _ _ h4) V V (uf V) ?_
   try simp only[h1,h2,A,B,C,E,F,J]
   refine B6b (m:= .row 22 1 (W r8 ([(IntKind.u8.wrap (zF .i64 ((48:O) - (zF .i64 (Int.tmod a0 (10:O))))))]:N O))) V V (B9y V) ?_
   obtain⟨h5,h⟩:=C9 h
   try simp only[h1,h2,h5,A,B,C,E,F,J]
   cases h
   trivial
 ·try simp only[h1,A,B,C,E,F,J]
  refine G0j rec_ h_rec _ _ _ _ h _ ?_
  try simp only[h1,A,B,C,E,F,J,Y]
theorem B55:∀(n:Q) (a0:O) (r:(N U)),A2o n a0=H r→FC X 138 [.sc (.int .i64 a0)] [.sc (.v (.str r))]:=by
 intro n
 induction n with
 | zero=>intro _ r h; cases h
 | succ n ih=>intro a0 r h; rw[A2o] at h; exact B51 (A2o n) a0 r ih h
theorem B9u(a0:O)(r:(N U))(h:A8v a0=H r):FC X 138 [.sc (.int .i64 a0)] [.sc (.v (.str r))]:=B55 bigN a0 r h
/- 117:spec_l06Ship -/
def cc56:X2:=(.seq (.reg [(L,.alloc 4 [aS [],aI 0,aI 0,aI 0,aI 0,aB G])]) (.seq (.reg [mv 5 1,ca 6 138 [S 5],(L,.bin 7 .add (KS [115]) (S 6)),mv 8 0,ca 9 43 [S 8,K 200],(L,.bin 10 .add (K 40) (S 9)),mv 11 0,ca 12 43 [S 11,K 500],(L,.bin 13 .add (K 600) (S 12)),mv 14 0,ca 15 43 [S 14,K 4],mv 16 0,ca 17 43 [S 16,K 3],mv 18 0,ca 19 45 [S 18,K 4],(L,.build 20 [aS [],aI 0,aI 0,aI 0,aI 0,aB G] [(0,1,(S 7)),(1,1,(S 10)),(2,1,(S 13)),(3,1,(S 15)),(4,1,(S 17)),(5,1,(S 19))]),so 4 20 6]) .ret))
theorem G1s:A5 X 117=H (cc56.strip,[.c 4 T 6],21):=by kernel_rfl
theorem C2x(a0:X1)(a1:O)(r:Xc × X1)(h:A3y a0 a1=H r):FCy X 117 [.p,.d (.sc (.int .i64 a1))] [.sl (W r8 a0.b),.int .i64 a0.i,.int .i64 a0.h] [.sl (W r8 r.2.b),.int .i64 r.2.i,.int .i64 r.2.h] [.ag [.v (.str r.1.Name),.v (.int .i64 r.1.Length),.v (.int .i64 r.1.Draught),.v (.int .i64 r.1.Line),.v (.int .i64 r.1.Tugs),.v (.bool r.1.Slow)]]:=by
 unfold A3y at h
 refine A4s (σ:=⟨[(0,vc (.pb 99999999999 0)),(1,vc (aI a1))],[(99999999999,[aL (W r8 a0.b),aI a0.i,aI a0.h])],[]⟩) mixed G1s V V ?_
 simp only[cc56]
 try simp only[A,B,C,E,F,J]
 refine B7 V V ?_
 obtain⟨r1,h1,h⟩:=ob h
 try simp only[A,B,C,E,F,J]
 refine A2 (B9u _ _ h1) V V (uf V) ?_
 obtain⟨h2,h⟩:=C9 h
 obtain⟨r3,h3,h⟩:=ob h
 try simp only[h2,A,B,C,E,F,J]
 refine C7 (B8 _ _ _ h3) 99999999999 V V V ?_
 obtain⟨r4,h4,h⟩:=ob h
 try simp only[h2,A,B,C,E,F,J]
 refine C7 (B8 _ _ _ h4) 99999999999 V V V ?_
 obtain⟨r5,h5,h⟩:=ob h
 try simp only[h2,A,B,C,E,F,J]
 refine C7 (B8 _ _ _ h5) 99999999999 V V V ?_
 obtain⟨r6,h6,h⟩:=ob h
 try simp only[h2,A,B,C,E,F,J]
 refine C7 (B8 _ _ _ h6) 99999999999 V V V ?_
 obtain⟨r7,h7,h⟩:=ob h
 try simp only[h2,A,B,C,E,F,J]
 refine C7 (Y3 _ _ _ h7) 99999999999 V V V ?_
 try simp only[h2,A,B,C,E,F,J]
 cases h
 try simp only[I2,A,B,C,E,F,J]
 trivial
/- 95:spec_l06Fleet -/
def D1z:X2:= .seq (.reg [(L,.keep [0,5,6] [99999999999] [448])]) (.seq (.seq (.reg [mv 12 6,(L,.bin 13 .gtr (S 12) (K 0))]) (.cond (S 13) .skip (.exit 0))) (.seq (.block 1 (.reg [mv 16 5,mv 17 0,mv 18 5,ln 19 18,ca 20 117 [S 17,S 19],(L,.bslice 21 6 [.str [],.int .i64 0,.int .i64 0,.int .i64 0,.int .i64 0,.bool G] 1 [(0,(S 20))]),(L,.app 22 6 56 (S 16) (S 21)),mv 5 22])) (.reg [mv 14 6,(L,.bin 15 .sub (S 14) (K 1)),mv 6 15])))
def E0z:X2:=(.seq (.reg [mv 23 5,mv 4 23]) .ret)
def cc60:X2:=(.seq (.reg [(L,.mv 4 KN)]) (.seq (.reg [(L,.bslice 7 6 [.str [],.int .i64 0,.int .i64 0,.int .i64 0,.int .i64 0,.bool G] 0 []),mv 5 7]) (.seq (.seq (.reg [mv 8 0,mv 9 1,ca 10 43 [S 8,S 9],(L,.bin 11 .add (K 1) (S 10)),mv 6 11]) (.block 0 (.loop D1z))) E0z)))
theorem G1o:∀(n:Q) (v2:O) (v3:N O) (v4 v5:O) (v6:N Xc) (r:(N Xc) × X1),Z3 n v2 v3 v4 v5 v6=H r→∀σ:St,σ.kept [0,5,6] [99999999999] [448]=⟨[(0,vc (.pb 99999999999 0)),(5,vc (.own 448)),(6,vc (aI v2))],[(99999999999,[aL (W r8 v3),aI v4,aI v5])],[(448,6,W zB v6)]⟩→go X (.code (.loop D1z):: [.blk 0,.code E0z]) (C21 [4] [.sc (.o 6 (W zB r.1))] [.sl (W r8 r.2.b),.int .i64 r.2.i,.int .i64 r.2.h]) .normal (H σ):=by
 intro n
 induction n with
 | zero=>intro _ _ _ _ _ r h; cases h
 | succ n ih=>
  intro v2 v3 v4 v5 v6 r h σ hσ
  rw[Z3] at h
  refine B5 ?_
  rcases ic h with ⟨h7,h⟩|⟨h7,h⟩
  ·obtain⟨r9,h9,h⟩:=ob h
   try simp only[hσ,h7,D1z,A,B,C,E,F,J]
   refine C7 (C2x _ _ _ h9) 99999999999 V V V ?_
   try simp only[h7,A,B,C,E,F,J]
   refine D6 (es:=W zB ([r9.1]:N Xc)) V V ?_
   obtain⟨h10,h⟩:=C9 h
   try simp only[h7,h10,A,B,C,E,F,J]
   refine ih _ _ _ _ _ _ h _ ?_
   try simp only[h7,h10,A,B,C,E,F,J,Y]
  ·try simp only[hσ,h7,D1z,E0z,A,B,C,E,F,J]
   cases h
   trivial
theorem G0k:A5 X 95=H (cc60.strip,[4],24):=by kernel_rfl
theorem C1h(a0:X1)(a1:O)(r:(N Xc) × X1)(h:A5d a0 a1=H r):FCo X 95 [.p,.d (.sc (.int .i64 a1))] [.sl (W r8 a0.b),.int .i64 a0.i,.int .i64 a0.h] [.sl (W r8 r.2.b),.int .i64 r.2.i,.int .i64 r.2.h] [.sc (.o 6 (W zB r.1))]:=by
 unfold A5d at h
 refine D6r (σ:=⟨[(0,vc (.pb 99999999999 0)),(1,vc (aI a1))],[(99999999999,[aL (W r8 a0.b),aI a0.i,aI a0.h])],[]⟩) mixed G0k V V ?_
 simp only[cc60]
 try simp only[A,B,C,E,F,J]
 refine D6 (es:=W zB ([]:N Xc)) V V ?_
 obtain⟨r1,h1,h⟩:=ob h
 try simp only[A,B,C,E,F,J]
 refine C7 (B8 _ _ _ h1) 99999999999 V V V ?_
 try simp only[A,B,C,E,F,J]
 refine G1o _ _ _ _ _ _ _ h _ ?_
 try simp only[A,B,C,E,F,J,Y]
/- 96:spec_l09Regime -/
def cc63:X2:=(.seq (.reg [(L,.alloc 2 [aI 0,aB G])]) (.seq (.reg [mv 3 0,ca 4 43 [S 3,K 30],mv 5 0,ca 6 45 [S 5,K 4],(L,.build 7 [aI 0,aB G] [(0,1,(S 4)),(1,1,(S 6))]),so 2 7 2]) .ret))
theorem G0v:A5 X 96=H (cc63.strip,[.c 2 T 2],8):=by kernel_rfl
theorem B9w(a0:X1)(r:Xm × X1)(h:A37 a0=H r):FCy X 96 [.p] [.sl (W r8 a0.b),.int .i64 a0.i,.int .i64 a0.h] [.sl (W r8 r.2.b),.int .i64 r.2.i,.int .i64 r.2.h] [.ag [.v (.int .i64 r.1.Gap),.v (.bool r.1.NoMeet)]]:=by
 unfold A37 at h
 refine A4s (σ:=⟨[(0,vc (.pb 99999999999 0))],[(99999999999,[aL (W r8 a0.b),aI a0.i,aI a0.h])],[]⟩) mixed G0v V V ?_
 simp only[cc63]
 try simp only[A,B,C,E,F,J]
 refine B7 V V ?_
 obtain⟨r1,h1,h⟩:=ob h
 try simp only[A,B,C,E,F,J]
 refine C7 (B8 _ _ _ h1) 99999999999 V V V ?_
 obtain⟨r2,h2,h⟩:=ob h
 try simp only[A,B,C,E,F,J]
 refine C7 (Y3 _ _ _ h2) 99999999999 V V V ?_
 try simp only[A,B,C,E,F,J]
 cases h
 try simp only[I2,A,B,C,E,F,J]
 trivial
/- 139:spec_StayingMoves -/
def cc65:X2:=(.seq (.reg [(L,.mv 0 KN)]) (.seq (.reg [(L,.mksl 1 1 8 [.int .i64 0] (K 64) (K 64)),mv 0 1]) .ret))
theorem G0o:A5 X 139=H (cc65.strip,[0],2):=by kernel_rfl
theorem B5j(r:(N O))(h:A4v=H r):FC X 139 [] [.sc (.o 1 (W rI r))]:=by
 unfold A4v at h
 refine C3 mixed G0o V ?_
 simp only[cc65,A,B,C,E,F,J]
 obtain⟨n1,hn1,h⟩:=ob h
 try simp only[A,B,C,E,F,J]
 refine A7l (es:=W rI (zE n1 (0:O))) V V hn1 V (A54 V) V ?_
 try simp only[A,B,C,E,F,J]
 cases h
 trivial
/- 118:spec_l13Moves -/
def C8j:X2:= .seq (.reg [(L,.keep [0,3,7,8] [99999999999] [320])]) (.seq (.reg [bn 9 .lss 8 7]) (.seq (.cond (S 9) .skip (.exit 0)) (.seq (.block 1 (.seq (.reg [mv 10 8,mv 4 10]) (.seq (.reg [mv 11 4,(L,.bin 12 .rem (S 11) (K 9)),(L,.bin 13 .neq (S 12) (K 0))]) (.cond (S 13) (.reg [mv 14 3,mv 15 4,mv 16 0,ca 17 43 [S 16,K 5],(L,.bin 18 .mul (K 5) (S 17)),ia 19 14 15 1,so 19 18 1]) .skip)))) (.reg [(L,.bin 20 .add (S 8) (K 1)),mv 8 20]))))
def D80:X2:=(.seq (.reg [(L,.frz 320),mv 21 3,mv 2 21]) .ret)
def cc69:X2:=(.seq (.reg [(L,.mv 2 KN)]) (.seq (.reg [ca 5 139 [],mv 3 5]) (.seq (.seq (.reg [mv 6 3,ln 7 6,(L,.mv 8 (K 0))]) (.block 0 (.loop C8j))) D80)))
theorem G1u(r1:(N O)):∀(n:Q) (v2:O) (v3:N O) (v4 v5:O) (v6:N O) (r:(N O) × X1),T1 r1 n v2 v3 v4 v5 v6=H r→∀σ:St,σ.kept [0,3,7,8] [99999999999] [320]=⟨[(0,vc (.pb 99999999999 0)),(3,vc (.own 320)),(7,vc (aI (r1.length:O))),(8,vc (aI v2))],[(99999999999,[aL (W r8 v3),aI v4,aI v5])],[(320,1,W rI v6)]⟩→go X (.code (.loop C8j):: [.blk 0,.code D80]) (B15 [2] [.sc (.v (.sl (W rI r.1)))] [.sl (W r8 r.2.b),.int .i64 r.2.i,.int .i64 r.2.h]) .normal (H σ):=by
 intro n
 induction n with
 | zero=>intro _ _ _ _ _ r h; cases h
 | succ n ih=>
  intro v2 v3 v4 v5 v6 r h σ hσ
  rw[T1] at h
  refine B5 ?_
  rcases ic h with ⟨h7,h⟩|⟨h7,h⟩
  ·rcases ic h with ⟨h8,h⟩|⟨h8,h⟩
   ·obtain⟨r9,h9,h⟩:=ob h
    try simp only[hσ,h7,h8,C8j,A,B,C,E,F,J]
    refine C7 (B8 _ _ _ h9) 99999999999 V V V ?_
    obtain⟨x10,h10,h⟩:=ob h
    have h10n:=M2 h10
    try simp only[h7,h8,h10,A,B,C,E,F,J]
    refine A5j (row:=rI) (y:=(zF .i64 ((5:O)*r9.1))) V V h10n V V (by rfl) ?_
    try simp only[h7,h8,h10,A,B,C,E,F,J]
    refine ih _ _ _ _ _ _ h _ ?_
    try simp only[h7,h8,h10,A,B,C,E,F,J,Y]
   ·try simp only[hσ,h7,h8,C8j,A,B,C,E,F,J]
    refine ih _ _ _ _ _ _ h _ ?_
    try simp only[h7,h8,A,B,C,E,F,J,Y]
  ·try simp only[hσ,h7,C8j,D80,A,B,C,E,F,J]
   refine N7 V ?_
   try simp only[h7,A,B,C,E,F,J]
   cases h
   trivial
theorem G0x:A5 X 118=H (cc69.strip,[2],22):=by kernel_rfl
theorem C05(a0:X1)(r:(N O) × X1)(h:A5b a0=H r):FCy X 118 [.p] [.sl (W r8 a0.b),.int .i64 a0.i,.int .i64 a0.h] [.sl (W r8 r.2.b),.int .i64 r.2.i,.int .i64 r.2.h] [.sc (.v (.sl (W rI r.1)))]:=by
 unfold A5b at h
 refine A4s (σ:=⟨[(0,vc (.pb 99999999999 0))],[(99999999999,[aL (W r8 a0.b),aI a0.i,aI a0.h])],[]⟩) mixed G0x V V ?_
 simp only[cc69]
 obtain⟨r1,h1,h⟩:=ob h
 try simp only[A,B,C,E,F,J]
 refine A2 (B5j _ h1) V V (uf V) ?_
 try simp only[A,B,C,E,F,J]
 refine G1u _ _ _ _ _ _ _ _ h _ ?_
 try simp only[A,B,C,E,F,J,Y]
/- 97:spec_l14Crew -/
def cc72:X2:=(.seq (.reg [(L,.alloc 2 [aI 0,aI 0,aI 0,.nil])]) (.seq (.reg [mv 3 0,ca 4 43 [S 3,K 4],(L,.bin 5 .add (K 1) (S 4)),mv 6 0,ca 7 43 [S 6,K 3],(L,.bin 8 .add (K 1) (S 7)),mv 9 0,ca 10 43 [S 9,K 60],mv 11 0,ca 12 118 [S 11],(L,.build 13 [aI 0,aI 0,aI 0,.nil] [(0,1,(S 5)),(1,1,(S 8)),(2,1,(S 10)),(3,1,(S 12))]),so 2 13 4]) .ret))
theorem G00:A5 X 97=H (cc72.strip,[.c 2 T 4],14):=by kernel_rfl
theorem C25(a0:X1)(r:Xp × X1)(h:A53 a0=H r):FCy X 97 [.p] [.sl (W r8 a0.b),.int .i64 a0.i,.int .i64 a0.h] [.sl (W r8 r.2.b),.int .i64 r.2.i,.int .i64 r.2.h] [.ag [.v (.int .i64 r.1.Tugs),.v (.int .i64 r.1.Pilots),.v (.int .i64 r.1.Rest),.v (.sl (W rI r.1.Moves))]]:=by
 unfold A53 at h
 refine A4s (σ:=⟨[(0,vc (.pb 99999999999 0))],[(99999999999,[aL (W r8 a0.b),aI a0.i,aI a0.h])],[]⟩) mixed G00 V V ?_
 simp only[cc72]
 try simp only[A,B,C,E,F,J]
 refine B7 V V ?_
 obtain⟨r1,h1,h⟩:=ob h
 try simp only[A,B,C,E,F,J]
 refine C7 (B8 _ _ _ h1) 99999999999 V V V ?_
 obtain⟨r2,h2,h⟩:=ob h
 try simp only[A,B,C,E,F,J]
 refine C7 (B8 _ _ _ h2) 99999999999 V V V ?_
 obtain⟨r3,h3,h⟩:=ob h
 try simp only[A,B,C,E,F,J]
 refine C7 (B8 _ _ _ h3) 99999999999 V V V ?_
 obtain⟨r4,h4,h⟩:=ob h
 try simp only[A,B,C,E,F,J]
 refine C7 (C05 _ _ h4) 99999999999 V V V ?_
 try simp only[A,B,C,E,F,J]
 cases h
 try simp only[I2,A,B,C,E,F,J]
 trivial
/- 71:spec_l15Harbour -/
def D44:X2:= .seq (.reg [(L,.keep [0,2,3,26,27] [99999999999,2,3] [640])]) (.seq (.reg [bn 28 .lss 27 26]) (.seq (.cond (S 28) .skip (.exit 0)) (.seq (.block 1 (.seq (.reg [mv 29 27,mv 4 29]) (.drw [o0 (fa 30 3 5),o0 (ld 31 30),o0 (mv 32 4),o0 (fa 33 3 5),o0 (ld 34 33),o0 (mv 35 4),o0 (ia 36 34 35 6),o0 (fa 37 36 4),o0 (ld 38 37),o0 (L,.mm 39 G (S 38) (K 1)),o0 (ia 40 31 32 6),o0 (fa 41 40 4),(L,so 41 39 1)]))) (.reg [(L,.bin 42 .add (S 27) (K 1)),mv 27 42]))))
def E15:X2:=(.seq (.reg [(L,.frz 640),lw 43 3 12,so 2 43 12]) .ret)
def cc76:X2:=(.seq (.reg [(L,.alloc 2 [aI 0,.nil,.nil,.nil,.nil,.nil,aI 0,aB G,aI 0,aI 0,aI 0,.nil])]) (.seq (.reg [mv 5 0,ca 6 93 [S 5],mv 7 0,ca 8 94 [S 7],mv 9 0,ca 10 95 [S 9,K 3],mv 11 0,ca 12 96 [S 11],mv 13 0,ca 14 97 [S 13],(L,.build 15 [aI 0,.nil,.nil,.nil,.nil,.nil,aI 0,aB G,aI 0,aI 0,aI 0,.nil] [(0,3,(S 6)),(3,2,(S 8)),(5,1,(S 10)),(6,2,(S 12)),(8,4,(S 14))]),(L,.alloc 3 [aI 0,.nil,.nil,.nil,.nil,.nil,aI 0,aB G,aI 0,aI 0,aI 0,.nil]),so 3 15 12]) (.seq (.reg [fa 16 3 0,fa 17 16 0,fa 18 17 0,ld 19 18,(L,.bin 20 .add (S 19) (K 150)),fa 21 3 0,fa 22 21 0,fa 23 22 0,so 23 20 1]) (.seq (.seq (.reg [fa 24 3 5,ld 25 24,ln 26 25,(L,.mv 27 (K 0))]) (.block 0 (.loop D44))) E15))))
theorem G1d(r3:(N Xc) × X1)(r5:Xp × X1)(r1:X8 × X1)(r2:X9 × X1)(r4:Xm × X1)(y7:O):∀(n:Q) (v6:O) (v8:N Xc) (r:X4 × X1),T7 r3 r5 r1 r2 r4 y7 n v6 v8=H r→∀σ:St,σ.kept [0,2,3,26,27] [99999999999,2,3] [640]=⟨[(0,vc (.pb 99999999999 0)),(2,vc (.pb 2 0)),(3,vc (.pb 3 0)),(26,vc (aI (r3.1.length:O))),(27,vc (aI v6))],[(99999999999,(dm r5.2.row)),(2,[aI (0:O),.nil,.nil,.nil,.nil,.nil,aI (0:O),aB G,aI (0:O),aI (0:O),aI (0:O),.nil]),(3,([aI y7,aL (W Z r1.1.Tide.Parts),aL (W X6.row r1.1.Surges),aL (W zA r2.1.Points),aL (W X3.row r2.1.Segments),.own 640,aI r4.1.Gap,aB r4.1.NoMeet]++dm r5.1.row))],[(640,6,W zB v8)]⟩→go X (.code (.loop D44):: [.blk 0,.code E15]) (B15 [.c 2 T 12] [.ag [.v (.int .i64 r.1.Forecast.Tide.Mean),.v (.sl (W Z r.1.Forecast.Tide.Parts)),.v (.sl (W X6.row r.1.Forecast.Surges)),.v (.sl (W zA r.1.Chart.Points)),.v (.sl (W X3.row r.1.Chart.Segments)),.v (.sl (W zB r.1.Fleet)),.v (.int .i64 r.1.Regime.Gap),.v (.bool r.1.Regime.NoMeet),.v (.int .i64 r.1.Crew.Tugs),.v (.int .i64 r.1.Crew.Pilots),.v (.int .i64 r.1.Crew.Rest),.v (.sl (W rI r.1.Crew.Moves))]] [.sl (W r8 r.2.b),.int .i64 r.2.i,.int .i64 r.2.h]) .normal (H σ):=by
 intro n
 induction n with
 | zero=>intro _ _ r h; cases h
 | succ n ih=>
  intro v6 v8 r h σ hσ
  rw[T7] at h
  refine B5 ?_
  rcases ic h with ⟨h9,h⟩|⟨h9,h⟩
  ·try simp only[hσ,h9,D44,A,B,C,E,F,J]
   refine B3 V ?_
   obtain⟨x10,h10,h⟩:=ob h
   have h10n:=M2 h10
   try simp only[h9,h10,h10n,A,B,C,E,F,J]
   refine A5j (row:=zB) (y:=(⟨x10.Name,x10.Length,x10.Draught,x10.Line,(if(1:O)<x10.Tugs then(1:O) else x10.Tugs),x10.Slow⟩:Xc)) V V h10n V V (by rfl) ?_
   try simp only[h9,h10,h10n,A,B,C,E,F,J]
   refine B3 V ?_
   try simp only[h9,h10,h10n,A,B,C,E,F,J]
   refine ih _ _ _ h _ ?_
   try simp only[h9,h10,h10n,A,B,C,E,F,J,Y]
  ·try simp only[hσ,h9,D44,E15,A,B,C,E,F,J]
   refine N7 V ?_
   try simp only[h9,A,B,C,E,F,J]
   cases h
   try simp only[I2,A,B,C,E,F,J]
   trivial
theorem G1j:A5 X 71=H (cc76.strip,[.c 2 T 12],44):=by kernel_rfl
theorem B76(a0:X1)(r:X4 × X1)(h:A3n a0=H r):FCy X 71 [.p] [.sl (W r8 a0.b),.int .i64 a0.i,.int .i64 a0.h] [.sl (W r8 r.2.b),.int .i64 r.2.i,.int .i64 r.2.h] [.ag [.v (.int .i64 r.1.Forecast.Tide.Mean),.v (.sl (W Z r.1.Forecast.Tide.Parts)),.v (.sl (W X6.row r.1.Forecast.Surges)),.v (.sl (W zA r.1.Chart.Points)),.v (.sl (W X3.row r.1.Chart.Segments)),.v (.sl (W zB r.1.Fleet)),.v (.int .i64 r.1.Regime.Gap),.v (.bool r.1.Regime.NoMeet),.v (.int .i64 r.1.Crew.Tugs),.v (.int .i64 r.1.Crew.Pilots),.v (.int .i64 r.1.Crew.Rest),.v (.sl (W rI r.1.Crew.Moves))]]:=by
 unfold A3n at h
 refine A4s (σ:=⟨[(0,vc (.pb 99999999999 0))],[(99999999999,[aL (W r8 a0.b),aI a0.i,aI a0.h])],[]⟩) mixed G1j V V ?_
 simp only[cc76]
 try simp only[A,B,C,E,F,J]
 refine B7 V V ?_
 obtain⟨r1,h1,h⟩:=ob h
 try simp only[A,B,C,E,F,J]
 refine C7 (C28 _ _ h1) 99999999999 V V V ?_
 obtain⟨r2,h2,h⟩:=ob h
 try simp only[A,B,C,E,F,J]
 refine C7 (C2s _ _ h2) 99999999999 V V V ?_
 obtain⟨r3,h3,h⟩:=ob h
 try simp only[A,B,C,E,F,J]
 refine C7g (C1h _ _ _ h3) 99999999999 V V V V ?_
 obtain⟨r4,h4,h⟩:=ob h
 try simp only[A,B,C,E,F,J]
 refine C7 (B9w _ _ h4) 99999999999 V V V ?_
 obtain⟨r5,h5,h⟩:=ob h
 try simp only[A,B,C,E,F,J]
 refine C7 (C25 _ _ h5) 99999999999 V V V ?_
 try simp only[A,B,C,E,F,J]
 refine B7 V V ?_
 try simp only[A,B,C,E,F,J]
 refine G1d _ _ _ _ _ _ _ _ _ _ h _ ?_
 try simp only[A,B,C,E,F,J,Y]
/- 72:spec_l15Call -/
def A5u:N (N Q × AItem):= [([],(L,.faddr 15 (S 5) 3)),([0],(L,.load 16 (S 15) G 1)),([1],(L,.bin 17 .add (S 16) (K 60))),([],(L,.mv 18 (S 0))),([3],(L,.call 19 43 [(S 18),(K 400)])),([2,4],(L,.bin 20 .add (S 17) (S 19))),([0,1,2,3,4,5],(L,.faddr 21 (S 5) 4)),([6,5,4,0,1,2,3,4,5],(L,.store (S 21) (S 20) 1))]
def D8w:X2:= .seq (.reg [(L,.keep [0,4,5] [99999999999,4,5] [])]) (.seq (.any A5u) (.seq (.reg [lw 22 5 5,so 4 22 5]) .ret))
def cc80:X2:=(.seq (.reg [(L,.alloc 4 [aI 0,aI 0,aI 0,aI 0,aI 0])]) (.seq (.reg [mv 6 1,mv 7 0,ca 8 43 [S 7,K 30],(L,.bin 9 .mul (K 15) (S 8)),(L,.build 10 [aI 0,aI 0,aI 0,aI 0,aI 0] [(0,1,(S 6)),(2,1,(K 3)),(3,1,(S 9))]),(L,.alloc 5 [aI 0,aI 0,aI 0,aI 0,aI 0]),so 5 10 5]) (.seq (.seq (.reg [mv 11 0,ca 12 45 [S 11,K 3]]) (.cond (S 12) (.seq (.reg [fa 13 5 1,(L,.store (S 13) (K 3) 1)]) (.reg [fa 14 5 2,(L,.store (S 14) (K 0) 1)])) .skip)) D8w)))
abbrev O3(v6:O)(r7:O × X1)(c0_ c1_:P)(c2_ c3_:P)(c4_ c5_ c6_:P)(bx_:N (Q × N AC))(rs_:Rows):St:=⟨[(0,vc (.pb 99999999999 0)),(4,vc (.pb 4 0)),(5,vc (.pb 5 0)),(15,bif c0_ then vc (.pb 5 3) else .undef),(16,bif c1_ then vc (aI v6) else .undef),(17,bif c2_ then vc (aI (zF .i64 (v6+(60:O)))) else .undef),(18,bif c3_ then vc (.pb 99999999999 0) else .undef),(19,bif c4_ then vc (aI r7.1) else .undef),(20,bif c5_ then vc (aI (zF .i64 ((zF .i64 (v6+(60:O)))+r7.1))) else .undef),(21,bif c6_ then vc (.pb 5 4) else .undef)],bx_,rs_⟩
abbrev A2q(a1 v4:O)(v5 v6:O)(r7:O × X1):St:=(O3 v6 r7 T T T T T T T [(99999999999,(dm r7.2.row)),(4,[aI (0:O),aI (0:O),aI (0:O),aI (0:O),aI (0:O)]),(5,[aI a1,aI v4,aI v5,aI v6,aI (zF .i64 ((zF .i64 (v6+(60:O)))+r7.1))])] [])
theorem G1t(r2:P × X1)(a1 v4:O)(v5 v6:O)(r7:O × X1)(h7:A4 r2.2 (400:O)=H r7):∀(f:Q),E0 X A5u (A2q a1 v4 v5 v6 r7) f [T,T,T,T,T,T,T,T] (O3 v6 r7 T T T T T T T [(99999999999,(dm r7.2.row)),(4,[aI (0:O),aI (0:O),aI (0:O),aI (0:O),aI (0:O)]),(5,[aI a1,aI v4,aI v5,aI v6,aI (zF .i64 ((zF .i64 (v6+(60:O)))+r7.1))])] []):=by
 intro f
 induction f with
 | zero=>intro h; rfl
 | succ f ih=>
  refine A9 ⟨?_,?_,?_,?_,?_,?_,?_,?_,⟨⟩⟩<;>try first | (intro h; cases h; done)
theorem G0g(r2:P × X1)(a1 v4:O)(v5 v6:O)(r7:O × X1)(h7:A4 r2.2 (400:O)=H r7):∀(f:Q) (b0 b1:P) (b2 b5 b6:P),E0 X A5u (A2q a1 v4 v5 v6 r7) f [b0,b1,b2,T,T,b5,b6,G] (O3 v6 r7 b0 b1 b2 T T b5 b6 [(99999999999,(dm r7.2.row)),(4,[aI (0:O),aI (0:O),aI (0:O),aI (0:O),aI (0:O)]),(5,[aI a1,aI v4,aI v5,aI v6,aI (0:O)])] []):=by
 intro f
 induction f with
 | zero=>intro b0 b1 b2 b5 b6 h; simp at h
 | succ f ih=>
  intro b0 b1 b2 b5 b6
  refine A9 ⟨?_,?_,?_,?_,?_,?_,?_,?_,⟨⟩⟩<;>try first | (intro h; cases h; done) | (intro h0 hw; obtain rfl:=hz h0 rfl; (try obtain rfl:=hq hw 0 rfl rfl); (try obtain rfl:=hq hw 1 rfl rfl); (try obtain rfl:=hq hw 2 rfl rfl); (try obtain rfl:=hq hw 5 rfl rfl); refine np ?_; simp only[O3,cdt,cdf,A1,A,B,C,E,F,J]; exact ih _ _ _ _ _)
  ·intro h0 hw
   obtain rfl:=hq hw 0 rfl rfl
   obtain rfl:=hq hw 1 rfl rfl
   obtain rfl:=hq hw 2 rfl rfl
   obtain rfl:=hq hw 5 rfl rfl
   obtain rfl:=hq hw 6 rfl rfl
   refine np ?_
   try simp only[O3,cdt,cdf,A1,A,B,C,E,F,J]
   exact G1t r2 a1 v4 v5 v6 r7 h7 _
theorem G1b(r2:P × X1)(a1 v4:O)(v5 v6:O)(r7:O × X1)(h7:A4 r2.2 (400:O)=H r7):∀(f:Q) (b0 b1:P) (b2 b3:P),E0 X A5u (A2q a1 v4 v5 v6 r7) f [b0,b1,b2,b3,G,G,G,G] (O3 v6 r7 b0 b1 b2 b3 G G G [(99999999999,(dm r2.2.row)),(4,[aI (0:O),aI (0:O),aI (0:O),aI (0:O),aI (0:O)]),(5,[aI a1,aI v4,aI v5,aI v6,aI (0:O)])] []):=by
 intro f
 induction f with
 | zero=>intro b0 b1 b2 b3 h; simp at h
 | succ f ih=>
  intro b0 b1 b2 b3
  refine A9 ⟨?_,?_,?_,?_,?_,?_,?_,?_,⟨⟩⟩<;>try first | (intro _ hw; simp at hw; done) | (intro h0 hw; obtain rfl:=hz h0 rfl; (try obtain rfl:=hq hw 0 rfl rfl); (try obtain rfl:=hq hw 1 rfl rfl); refine np ?_; simp only[O3,cdt,cdf,A1,A,B,C,E,F,J]; exact ih _ _ _ _)
  ·intro h0 hw
   obtain rfl:=hq hw 3 rfl rfl
   refine np ?_
   try simp only[O3,cdt,cdf,A1,A,B,C,E,F,J]
   refine C7 (B8 _ _ _ h7) 99999999999 V V V ?_
   try simp only[A1,A,B,C,E,F,J]
   exact G0g r2 a1 v4 v5 v6 r7 h7 _ b0 b1 b2 G G
theorem F0z(r2:P × X1)(a1 v4:O)(v5 v6:O)(r:Xa × X1)(h:A30 r2 a1 v4 v5 v6=H r)(σ:St)(hσ:σ.kept [0,4,5] [99999999999,4,5] []=⟨[(0,vc (.pb 99999999999 0)),(4,vc (.pb 4 0)),(5,vc (.pb 5 0))],[(99999999999,(dm r2.2.row)),(4,[aI (0:O),aI (0:O),aI (0:O),aI (0:O),aI (0:O)]),(5,[aI a1,aI v4,aI v5,aI v6,aI (0:O)])],[]⟩):go X (.code D8w:: []) (B15 [.c 4 T 5] [.ag [.v (.int .i64 r.1.Ship),.v (.int .i64 r.1.From),.v (.int .i64 r.1.To),.v (.int .i64 r.1.Ready),.v (.int .i64 r.1.Due)]] [.sl (W r8 r.2.b),.int .i64 r.2.i,.int .i64 r.2.h]) .normal (H σ):=by
 unfold A30 at h
 try simp only[hσ,D8w,A,B,C,E,F,J]
 obtain⟨r7,h7,h⟩:=ob h
 refine A3l (ks:= [0,4,5]) (bs:= [99999999999,4,5]) (rs:= []) (τ:=(A2q a1 v4 v5 v6 r7)) V (G1b r2 a1 v4 v5 v6 r7 h7 _ G G G G) ?_
 simp only[A2q,O3,cdt]
 try simp only[A,B,C,E,F,J]
 cases h
 try simp only[I2,A,B,C,E,F,J]
 trivial
theorem G0e:A5 X 72=H (cc80.strip,[.c 4 T 5],23):=by kernel_rfl
theorem C18(a0:X1)(a1:O)(r:Xa × X1)(h:A3x a0 a1=H r):FCy X 72 [.p,.d (.sc (.int .i64 a1))] [.sl (W r8 a0.b),.int .i64 a0.i,.int .i64 a0.h] [.sl (W r8 r.2.b),.int .i64 r.2.i,.int .i64 r.2.h] [.ag [.v (.int .i64 r.1.Ship),.v (.int .i64 r.1.From),.v (.int .i64 r.1.To),.v (.int .i64 r.1.Ready),.v (.int .i64 r.1.Due)]]:=by
 unfold A3x at h
 refine A4s (σ:=⟨[(0,vc (.pb 99999999999 0)),(1,vc (aI a1))],[(99999999999,[aL (W r8 a0.b),aI a0.i,aI a0.h])],[]⟩) mixed G0e V V ?_
 simp only[cc80]
 try simp only[A,B,C,E,F,J]
 refine B7 V V ?_
 obtain⟨r1,h1,h⟩:=ob h
 try simp only[A,B,C,E,F,J]
 refine C7 (B8 _ _ _ h1) 99999999999 V V V ?_
 try simp only[A,B,C,E,F,J]
 refine B7 V V ?_
 obtain⟨r2,h2,h⟩:=ob h
 try simp only[A,B,C,E,F,J]
 refine C7 (Y3 _ _ _ h2) 99999999999 V V V ?_
 rcases ic h with ⟨h3,h⟩|⟨h3,h⟩
 ·try simp only[h3,A,B,C,E,F,J]
  refine F0z _ _ _ _ _ _ h _ ?_
  try simp only[h3,A,B,C,E,F,J,Y]
 ·try simp only[h3,A,B,C,E,F,J]
  refine F0z _ _ _ _ _ _ h _ ?_
  try simp only[h3,A,B,C,E,F,J,Y]
/- 42:spec_l16Case -/
def D2p:X2:= .seq (.reg [(L,.keep [0,2,4,5,6,12,13,22] [99999999999,2,4] [576])]) (.cond (S 22) (.reg [mv 23 5,mv 24 0,mv 25 6,ca 26 72 [S 24,S 25],(L,.bslice 27 5 [.int .i64 0,.int .i64 0,.int .i64 0,.int .i64 0,.int .i64 0] 1 [(0,(S 26))]),(L,.app 28 5 40 (S 23) (S 27)),mv 5 28]) .skip)
def D47:X2:=(.reg [(L,.bin 29 .add (S 13) (K 1)),mv 13 29])
def B9v:X2:= .seq (.reg [(L,.keep [0,2,4,5,12,13] [99999999999,2,4] [576])]) (.seq (.reg [bn 14 .lss 13 12]) (.seq (.cond (S 14) .skip (.exit 0)) (.seq (.block 1 (.seq (.reg [mv 15 13,mv 6 15]) (.seq (.reg [mv 16 6,(L,.bin 17 .eql (S 16) (K 0)),mv 18 17,(H (18,G),.mv 19 (S 0)),(H (18,G),.call 20 45 [(S 19),(K 4)]),(H (18,G),.un 21 .not (S 20)),po 22 18 21]) D2p))) D47)))
def C8i:X2:=(.seq (.reg [lw 30 4 12,mv 31 5,so 2 30 12,mv 3 31]) .ret)
def cc90:X2:=(.seq (.reg [(L,.alloc 2 [aI 0,.nil,.nil,.nil,.nil,.nil,aI 0,aB G,aI 0,aI 0,aI 0,.nil]),(L,.mv 3 KN)]) (.seq (.reg [mv 7 0,ca 8 71 [S 7],(L,.alloc 4 [aI 0,.nil,.nil,.nil,.nil,.nil,aI 0,aB G,aI 0,aI 0,aI 0,.nil]),so 4 8 12]) (.seq (.reg [(L,.bslice 9 5 [.int .i64 0,.int .i64 0,.int .i64 0,.int .i64 0,.int .i64 0] 0 []),mv 5 9]) (.seq (.seq (.reg [fa 10 4 5,ld 11 10,ln 12 11,(L,.mv 13 (K 0))]) (.block 0 (.loop B9v))) C8i))))
theorem F0b(v2:O)(r1:X4 × X1)(v6:N Xa)(A4q:O→(N O)→O→O→(N Xa)→Option (X4 × (N Xa) × X1))(B00:∀(v2:O) (v3:N O) (v4 v5:O) (v6:N Xa) zr,A4q v2 v3 v4 v5 v6=H zr→∀σ:St,σ.kept [0,2,4,5,12,13] [99999999999,2,4] [576]=⟨[(0,vc (.pb 99999999999 0)),(2,vc (.pb 2 0)),(4,vc (.pb 4 0)),(5,vc (.own 576)),(12,vc (aI (r1.1.Fleet.length:O))),(13,vc (aI v2))],[(99999999999,[aL (W r8 v3),aI v4,aI v5]),(2,[aI (0:O),.nil,.nil,.nil,.nil,.nil,aI (0:O),aB G,aI (0:O),aI (0:O),aI (0:O),.nil]),(4,(dm r1.1.row))],[(576,5,W I v6)]⟩→go X (.code (.loop B9v):: [.blk 0,.code C8i]) (C21 [.c 2 T 12,3] [.ag [.v (.int .i64 zr.1.Forecast.Tide.Mean),.v (.sl (W Z zr.1.Forecast.Tide.Parts)),.v (.sl (W X6.row zr.1.Forecast.Surges)),.v (.sl (W zA zr.1.Chart.Points)),.v (.sl (W X3.row zr.1.Chart.Segments)),.v (.sl (W zB zr.1.Fleet)),.v (.int .i64 zr.1.Regime.Gap),.v (.bool zr.1.Regime.NoMeet),.v (.int .i64 zr.1.Crew.Tugs),.v (.int .i64 zr.1.Crew.Pilots),.v (.int .i64 zr.1.Crew.Rest),.v (.sl (W rI zr.1.Crew.Moves))],.sc (.o 5 (W I zr.2.1))] [.sl (W r8 zr.2.2.b),.int .i64 zr.2.2.i,.int .i64 zr.2.2.h]) .normal (H σ))(v10:P)(v11:N O)(v12 v13:O)(r:X4 × (N Xa) × X1)(h:V6 v2 r1 v6 A4q v10 v11 v12 v13=H r)(σ:St)(hσ:σ.kept [0,2,4,5,6,12,13,22] [99999999999,2,4] [576]=⟨[(0,vc (.pb 99999999999 0)),(2,vc (.pb 2 0)),(4,vc (.pb 4 0)),(5,vc (.own 576)),(6,vc (aI v2)),(12,vc (aI (r1.1.Fleet.length:O))),(13,vc (aI v2)),(22,vc (aB v10))],[(99999999999,[aL (W r8 v11),aI v12,aI v13]),(2,[aI (0:O),.nil,.nil,.nil,.nil,.nil,aI (0:O),aB G,aI (0:O),aI (0:O),aI (0:O),.nil]),(4,(dm r1.1.row))],[(576,5,W I v6)]⟩):go X (.code D2p:: [.blk 1,.code D47,.code (.loop B9v),.blk 0,.code C8i]) (C21 [.c 2 T 12,3] [.ag [.v (.int .i64 r.1.Forecast.Tide.Mean),.v (.sl (W Z r.1.Forecast.Tide.Parts)),.v (.sl (W X6.row r.1.Forecast.Surges)),.v (.sl (W zA r.1.Chart.Points)),.v (.sl (W X3.row r.1.Chart.Segments)),.v (.sl (W zB r.1.Fleet)),.v (.int .i64 r.1.Regime.Gap),.v (.bool r.1.Regime.NoMeet),.v (.int .i64 r.1.Crew.Tugs),.v (.int .i64 r.1.Crew.Pilots),.v (.int .i64 r.1.Crew.Rest),.v (.sl (W rI r.1.Crew.Moves))],.sc (.o 5 (W I r.2.1))] [.sl (W r8 r.2.2.b),.int .i64 r.2.2.i,.int .i64 r.2.2.h]) .normal (H σ):=by
 unfold V6 at h
 rcases ic h with ⟨h14,h⟩|⟨h14,h⟩
 ·obtain⟨r15,h15,h⟩:=ob h
  try simp only[hσ,h14,D2p,A,B,C,E,F,J]
  refine C7 (C18 _ _ _ h15) 99999999999 V V V ?_
  try simp only[h14,A,B,C,E,F,J]
  refine D6 (es:=W I ([r15.1]:N Xa)) V V ?_
  obtain⟨h16,h⟩:=C9 h
  try simp only[h14,h16,D47,A,B,C,E,F,J]
  refine B00 _ _ _ _ _ _ h _ ?_
  try simp only[h14,h16,A,B,C,E,F,J,Y]
 ·try simp only[hσ,h14,D2p,D47,A,B,C,E,F,J]
  refine B00 _ _ _ _ _ _ h _ ?_
  try simp only[h14,A,B,C,E,F,J,Y]
theorem G1p(r1:X4 × X1):∀(n:Q) (v2:O) (v3:N O) (v4 v5:O) (v6:N Xa) (r:X4 × (N Xa) × X1),J2 r1 n v2 v3 v4 v5 v6=H r→∀σ:St,σ.kept [0,2,4,5,12,13] [99999999999,2,4] [576]=⟨[(0,vc (.pb 99999999999 0)),(2,vc (.pb 2 0)),(4,vc (.pb 4 0)),(5,vc (.own 576)),(12,vc (aI (r1.1.Fleet.length:O))),(13,vc (aI v2))],[(99999999999,[aL (W r8 v3),aI v4,aI v5]),(2,[aI (0:O),.nil,.nil,.nil,.nil,.nil,aI (0:O),aB G,aI (0:O),aI (0:O),aI (0:O),.nil]),(4,(dm r1.1.row))],[(576,5,W I v6)]⟩→go X (.code (.loop B9v):: [.blk 0,.code C8i]) (C21 [.c 2 T 12,3] [.ag [.v (.int .i64 r.1.Forecast.Tide.Mean),.v (.sl (W Z r.1.Forecast.Tide.Parts)),.v (.sl (W X6.row r.1.Forecast.Surges)),.v (.sl (W zA r.1.Chart.Points)),.v (.sl (W X3.row r.1.Chart.Segments)),.v (.sl (W zB r.1.Fleet)),.v (.int .i64 r.1.Regime.Gap),.v (.bool r.1.Regime.NoMeet),.v (.int .i64 r.1.Crew.Tugs),.v (.int .i64 r.1.Crew.Pilots),.v (.int .i64 r.1.Crew.Rest),.v (.sl (W rI r.1.Crew.Moves))],.sc (.o 5 (W I r.2.1))] [.sl (W r8 r.2.2.b),.int .i64 r.2.2.i,.int .i64 r.2.2.h]) .normal (H σ):=by
 intro n
 induction n with
 | zero=>intro _ _ _ _ _ r h; cases h
 | succ n ih=>
  intro v2 v3 v4 v5 v6 r h σ hσ
  rw[J2] at h
  refine B5 ?_
  rcases ic h with ⟨h7,h⟩|⟨h7,h⟩
  ·rcases ic h with ⟨h8,h⟩|⟨h8,h⟩
   ·try simp only[hσ,h7,h8,B9v,A,B,C,E,F,J]
    refine F0b _ _ _ (J2 r1 n) ih _ _ _ _ _ h _ ?_
    try simp only[h7,h8,A,B,C,E,F,J,Y]
   ·obtain⟨r9,h9,h⟩:=ob h
    try simp only[hσ,h7,h8,B9v,A,B,C,E,F,J]
    refine C7 (Y3 _ _ _ h9) 99999999999 V V V ?_
    try simp only[h7,h8,A,B,C,E,F,J]
    refine F0b _ _ _ (J2 r1 n) ih _ _ _ _ _ h _ ?_
    try simp only[h7,h8,A,B,C,E,F,J,Y]
  ·try simp only[hσ,h7,B9v,C8i,A,B,C,E,F,J]
   cases h
   try simp only[I2,A,B,C,E,F,J]
   trivial
theorem G0u:A5 X 42=H (cc90.strip,[.c 2 T 12,3],32):=by kernel_rfl
theorem C19(a0:X1)(r:X4 × (N Xa) × X1)(h:A7x a0=H r):FCo X 42 [.p] [.sl (W r8 a0.b),.int .i64 a0.i,.int .i64 a0.h] [.sl (W r8 r.2.2.b),.int .i64 r.2.2.i,.int .i64 r.2.2.h] [.ag [.v (.int .i64 r.1.Forecast.Tide.Mean),.v (.sl (W Z r.1.Forecast.Tide.Parts)),.v (.sl (W X6.row r.1.Forecast.Surges)),.v (.sl (W zA r.1.Chart.Points)),.v (.sl (W X3.row r.1.Chart.Segments)),.v (.sl (W zB r.1.Fleet)),.v (.int .i64 r.1.Regime.Gap),.v (.bool r.1.Regime.NoMeet),.v (.int .i64 r.1.Crew.Tugs),.v (.int .i64 r.1.Crew.Pilots),.v (.int .i64 r.1.Crew.Rest),.v (.sl (W rI r.1.Crew.Moves))],.sc (.o 5 (W I r.2.1))]:=by
 unfold A7x at h
 refine D6r (σ:=⟨[(0,vc (.pb 99999999999 0))],[(99999999999,[aL (W r8 a0.b),aI a0.i,aI a0.h])],[]⟩) mixed G0u V V ?_
 simp only[cc90]
 try simp only[A,B,C,E,F,J]
 refine B7 V V ?_
 obtain⟨r1,h1,h⟩:=ob h
 try simp only[A,B,C,E,F,J]
 refine C7 (B76 _ _ h1) 99999999999 V V V ?_
 try simp only[A,B,C,E,F,J]
 refine B7 V V ?_
 try simp only[A,B,C,E,F,J]
 refine D6 (es:=W I ([]:N Xa)) V V ?_
 try simp only[A,B,C,E,F,J]
 refine G1p _ _ _ _ _ _ _ _ h _ ?_
 try simp only[A,B,C,E,F,J,Y]
/- 44:spec_l03Surge -/
def D4e:X2:= .seq (.reg [(L,.keep [1,4,5,13,14,15] [4,5] [])]) (.seq (.reg [bn 16 .lss 15 14]) (.seq (.cond (S 16) .skip (.exit 0)) (.seq (.block 1 (.seq (.reg [ia 17 13 15 3,lw 18 17 3,(L,.alloc 7 [aI 0,aI 0,aI 0]),so 7 18 3]) (.seq (.reg [fa 19 7 0,ld 20 19,mv 21 1,bn 22 .leq 20 21]) (.cond (S 22) (.reg [lw 23 7 3,so 5 23 3]) .skip)))) (.reg [(L,.bin 24 .add (S 15) (K 1)),mv 15 24]))))
def E1i:X2:=(.seq (.reg [lw 25 5 3,so 4 25 3]) .ret)
def cc96:X2:=(.seq (.reg [bo 2 0,(L,.alloc 4 [aI 0,aI 0,aI 0])]) (.seq (.reg [fa 8 2 2,ld 9 8,(L,.iaddr 10 (S 9) (K 0) 3),lw 11 10 3,(L,.alloc 5 [aI 0,aI 0,aI 0]),so 5 11 3]) (.seq (.seq (.reg [fa 12 2 2,ld 13 12,ln 14 13,(L,.mv 15 (K 0))]) (.block 0 (.loop D4e))) E1i)))
theorem G0w(a1:O)(a0:X8):∀(n:Q) (v2 v3:O) (v4 v5:O) (r:X6),T5 a1 a0 n v2 v3 v4 v5=H r→∀σ:St,σ.kept [1,4,5,13,14,15] [4,5] []=⟨[(1,vc (aI a1)),(4,vc (.pb 4 0)),(5,vc (.pb 5 0)),(13,vc (aL (W X6.row a0.Surges))),(14,vc (aI (a0.Surges.length:O))),(15,vc (aI v2))],[(4,[aI (0:O),aI (0:O),aI (0:O)]),(5,[aI v3,aI v4,aI v5])],[]⟩→go X (.code (.loop D4e):: [.blk 0,.code E1i]) (Ret [.c 4 T 3] [.ag [.v (.int .i64 r.From),.v (.int .i64 r.Low),.v (.int .i64 r.High)]]) .normal (H σ):=by
 intro n
 induction n with
 | zero=>intro _ _ _ _ r h; cases h
 | succ n ih=>
  intro v2 v3 v4 v5 r h σ hσ
  rw[T5] at h
  refine B5 ?_
  rcases ic h with ⟨h6,h⟩|⟨h6,h⟩
  ·obtain⟨x7,h7,h⟩:=ob h
   try simp only[hσ,h6,h7,D4e,A,B,C,E,F,J]
   refine B7 V V ?_
   rcases ic h with ⟨h8,h⟩|⟨h8,h⟩
   ·try simp only[h6,h7,h8,A,B,C,E,F,J]
    refine ih _ _ _ _ _ h _ ?_
    try simp only[h6,h7,h8,A,B,C,E,F,J,Y]
   ·try simp only[h6,h7,h8,A,B,C,E,F,J]
    refine ih _ _ _ _ _ h _ ?_
    try simp only[h6,h7,h8,A,B,C,E,F,J,Y]
  ·try simp only[hσ,h6,D4e,E1i,A,B,C,E,F,J]
   cases h
   try simp only[I2,A,B,C,E,F,J]
   trivial
theorem G0q:A5 X 44=H (cc96.strip,[.c 4 T 3],26):=by kernel_rfl
theorem C1c(a0:X8)(a1:O)(r:X6)(h:A46 a0 a1=H r):FC X 44 [.ag (X8.row a0),.sc (.int .i64 a1)] [.ag [.v (.int .i64 r.From),.v (.int .i64 r.Low),.v (.int .i64 r.High)]]:=by
 unfold A46 at h
 refine C3 mixed G0q V ?_
 simp only[cc96,A,B,C,E,F,J]
 try simp only[A,B,C,E,F,J]
 refine B2 V V V ?_
 try simp only[A,B,C,E,F,J]
 refine B7 V V ?_
 obtain⟨x1,h1,h⟩:=ob h
 try simp only[h1,A,B,C,E,F,J]
 refine B7 V V ?_
 try simp only[h1,A,B,C,E,F,J]
 refine G0w _ _ _ _ _ _ _ _ h _ ?_
 try simp only[h1,A,B,C,E,F,J,Y]
/- 18:spec_l19Case -/
def A1m:N (N Q × AItem):= [([],(L,.mv 62 (S 11))),([],(L,.faddr 63 (S 10) 1)),([1],(L,.load 64 (S 63) G 1)),([2],(L,.bin 65 .add (S 64) (K 1))),([],(L,.mv 66 (S 0))),([],(L,.faddr 67 (S 10) 2)),([5],(L,.load 68 (S 67) G 1)),([],(L,.faddr 69 (S 10) 1)),([7],(L,.load 70 (S 69) G 1)),([6,8],(L,.bin 71 .sub (S 68) (S 70))),([4,9],(L,.call 72 43 [(S 66),(S 71)])),([3,10],(L,.bin 73 .add (S 65) (S 72))),([11],(L,.bslice 74 1 [.int .i64 0] 1 [(0,(S 73))])),([0,12,10],(L,.app 75 1 8 (S 62) (S 74))),([13,13,0,1,2,3,4,5,6,7,8,9,10,11,12,13],(L,.mv 11 (S 75)))]
def D1q:X2:= .seq (.reg [(L,.keep [0,2,6,7,8,20,21] [99999999999,2,6] [908])]) (.seq (.reg [bn 22 .lss 21 20]) (.seq (.cond (S 22) .skip (.exit 0)) (.seq (.block 1 (.seq (.reg [mv 23 21,mv 9 23]) (.seq (.reg [mv 24 7,mv 25 9,mv 26 7,mv 27 9,ia 28 26 27 5,fa 29 28 3,ld 30 29,mv 31 8,bn 32 .add 30 31,ia 33 24 25 5,fa 34 33 3,so 34 32 1]) (.reg [mv 35 7,mv 36 9,mv 37 7,mv 38 9,ia 39 37 38 5,fa 40 39 4,ld 41 40,mv 42 8,bn 43 .add 41 42,ia 44 35 36 5,fa 45 44 4,so 45 43 1])))) (.reg [(L,.bin 46 .add (S 21) (K 1)),mv 21 46]))))
def C6s:X2:= .seq (.reg [(L,.keep [0,2,6,7,8,10,11,61] [99999999999,2,6,10] [908,3264])]) (.cond (S 61) (.any A1m) .skip)
def C58:X2:= .seq (.reg [(L,.keep [0,2,6,7,8,11] [99999999999,2,6] [908,3264])]) (.seq (.reg [lw 76 6 12,(L,.frz 908),mv 77 7,mv 78 8,(L,.frz 3264),mv 79 11,so 2 76 12,mv 3 77,mv 4 78,mv 5 79]) .ret)
def D5u:X2:=(.seq (.reg [fa 47 6 0,lw 48 47 3,mv 49 8,ca 50 44 [S 48,S 49],(L,.alloc 10 [aI 0,aI 0,aI 0]),so 10 50 3]) (.seq (.reg [(L,.bslice 51 1 [.int .i64 0] 0 []),mv 11 51]) (.seq (.seq (.reg [fa 52 10 2,ld 53 52,fa 54 10 1,ld 55 54,bn 56 .gtr 53 55,mv 57 56,(H (57,T),.mv 58 (S 0)),(H (57,T),.call 59 45 [(S 58),(K 3)]),(H (57,T),.un 60 .not (S 59)),pa 61 57 60]) C6s) C58)))
def cc103:X2:=(.seq (.reg [(L,.alloc 2 [aI 0,.nil,.nil,.nil,.nil,.nil,aI 0,aB G,aI 0,aI 0,aI 0,.nil]),(L,.mv 3 KN),(L,.mv 4 (K 0)),(L,.mv 5 KN)]) (.seq (.reg [mv 13 0,ca 14 42 [S 13],mv 12 14,xt 15 12 0,xt 16 12 1,(L,.alloc 6 [aI 0,.nil,.nil,.nil,.nil,.nil,aI 0,aB G,aI 0,aI 0,aI 0,.nil]),so 6 15 12,mv 7 16]) (.seq (.reg [mv 17 0,ca 18 43 [S 17,K 120],mv 8 18]) (.seq (.seq (.reg [mv 19 7,ln 20 19,(L,.mv 21 (K 0))]) (.block 0 (.loop D1q))) D5u))))
abbrev F5(r2:O × X1)(r9:X6)(r17:O × X1)(ws11_ wo0_:AV)(c0_ c1_:P)(c2_ c3_:P)(c4_ c5_:P)(c6_ c7_:P)(c8_ c9_:P)(c10_ c11_:P)(c12_ c13_:P)(bx_:N (Q × N AC))(rs_:Rows):St:=⟨[(0,vc (.pb 99999999999 0)),(2,vc (.pb 2 0)),(6,vc (.pb 6 0)),(7,vc (.own 908)),(8,vc (aI r2.1)),(10,vc (.pb 10 0)),(11,ws11_),(62,bif c0_ then wo0_ else .undef),(63,bif c1_ then vc (.pb 10 1) else .undef),(64,bif c2_ then vc (aI r9.Low) else .undef),(65,bif c3_ then vc (aI (zF .i64 (r9.Low+(1:O)))) else .undef),(66,bif c4_ then vc (.pb 99999999999 0) else .undef),(67,bif c5_ then vc (.pb 10 2) else .undef),(68,bif c6_ then vc (aI r9.High) else .undef),(69,bif c7_ then vc (.pb 10 1) else .undef),(70,bif c8_ then vc (aI r9.Low) else .undef),(71,bif c9_ then vc (aI (zF .i64 (r9.High - r9.Low))) else .undef),(72,bif c10_ then vc (aI r17.1) else .undef),(73,bif c11_ then vc (aI (zF .i64 ((zF .i64 (r9.Low+(1:O)))+r17.1))) else .undef),(74,bif c12_ then vc (.own 4736) else .undef),(75,bif c13_ then vc (.own 3264) else .undef),(11,.undef)],bx_,rs_⟩
abbrev W8(r2:O × X1)(r1:X4 × (N Xa) × X1)(r9:X6)(v4:N Xa)(r17:O × X1):St:=(F5 r2 r9 r17 (vc (.own 3264)) (vc (.undef)) T T T T T T T T T T T T T T [(99999999999,(dm r17.2.row)),(2,[aI (0:O),.nil,.nil,.nil,.nil,.nil,aI (0:O),aB G,aI (0:O),aI (0:O),aI (0:O),.nil]),(6,(dm r1.1.row)),(10,(dm r9.row))] [(908,5,W I v4),(3264,1,W rI ([(zF .i64 ((zF .i64 (r9.Low+(1:O)))+r17.1))]:N O)),(4736,1,W rI ([(zF .i64 ((zF .i64 (r9.Low+(1:O)))+r17.1))]:N O))])
theorem F48(r2:O × X1)(r1:X4 × (N Xa) × X1)(r9:X6)(v4:N Xa)(v13:N O)(v14 v15:O)(r17:O × X1)(h17:A4 (⟨v13,v14,v15⟩:X1) (zF .i64 (r9.High - r9.Low))=H r17)(h18:(B9 ([]:N O).length ([(zF .i64 ((zF .i64 (r9.Low+(1:O)))+r17.1))]:N O).length 8)=T):∀(f:Q),E0 X A1m (W8 r2 r1 r9 v4 r17) f [T,T,T,T,T,T,T,T,T,T,T,T,T,T,T] (F5 r2 r9 r17 (vc (.own 3264)) (vc (.undef)) T T T T T T T T T T T T T T [(99999999999,(dm r17.2.row)),(2,[aI (0:O),.nil,.nil,.nil,.nil,.nil,aI (0:O),aB G,aI (0:O),aI (0:O),aI (0:O),.nil]),(6,(dm r1.1.row)),(10,(dm r9.row))] [(908,5,W I v4),(3264,1,W rI ([(zF .i64 ((zF .i64 (r9.Low+(1:O)))+r17.1))]:N O)),(4736,1,W rI ([(zF .i64 ((zF .i64 (r9.Low+(1:O)))+r17.1))]:N O))]):=by
 intro f
 induction f with
 | zero=>intro h; rfl
 | succ f ih=>
  refine A9 ⟨?_,?_,?_,?_,?_,?_,?_,?_,?_,?_,?_,?_,?_,?_,?_,⟨⟩⟩<;>try first | (intro h; cases h; done)
theorem F7z(r2:O × X1)(r1:X4 × (N Xa) × X1)(r9:X6)(v4:N Xa)(v13:N O)(v14 v15:O)(r17:O × X1)(h17:A4 (⟨v13,v14,v15⟩:X1) (zF .i64 (r9.High - r9.Low))=H r17)(h18:(B9 ([]:N O).length ([(zF .i64 ((zF .i64 (r9.Low+(1:O)))+r17.1))]:N O).length 8)=T):∀(f:Q) (b1 b2:P) (b3 b5:P) (b6 b7 b8:P),E0 X A1m (W8 r2 r1 r9 v4 r17) f [T,b1,b2,b3,T,b5,b6,b7,b8,T,T,T,T,T,G] (F5 r2 r9 r17 (vc (.undef)) (vc (.undef)) T b1 b2 b3 T b5 b6 b7 b8 T T T T T [(99999999999,(dm r17.2.row)),(2,[aI (0:O),.nil,.nil,.nil,.nil,.nil,aI (0:O),aB G,aI (0:O),aI (0:O),aI (0:O),.nil]),(6,(dm r1.1.row)),(10,(dm r9.row))] [(908,5,W I v4),(3264,1,W rI ([(zF .i64 ((zF .i64 (r9.Low+(1:O)))+r17.1))]:N O)),(4736,1,W rI ([(zF .i64 ((zF .i64 (r9.Low+(1:O)))+r17.1))]:N O))]):=by
 intro f
 induction f with
 | zero=>intro b1 b2 b3 b5 b6 b7 b8 h; simp at h
 | succ f ih=>
  intro b1 b2 b3 b5 b6 b7 b8
  refine A9 ⟨?_,?_,?_,?_,?_,?_,?_,?_,?_,?_,?_,?_,?_,?_,?_,⟨⟩⟩<;>try first | (intro h; cases h; done) | (intro h0 hw; obtain rfl:=hz h0 rfl; (try obtain rfl:=hq hw 1 rfl rfl); (try obtain rfl:=hq hw 2 rfl rfl); (try obtain rfl:=hq hw 5 rfl rfl); (try obtain rfl:=hq hw 7 rfl rfl); refine np ?_; simp only[F5,cdt,cdf,A1,A,B,C,E,F,J]; exact ih _ _ _ _ _ _ _)
  ·intro h0 hw
   obtain rfl:=hq hw 1 rfl rfl
   obtain rfl:=hq hw 2 rfl rfl
   obtain rfl:=hq hw 3 rfl rfl
   obtain rfl:=hq hw 5 rfl rfl
   obtain rfl:=hq hw 6 rfl rfl
   obtain rfl:=hq hw 7 rfl rfl
   obtain rfl:=hq hw 8 rfl rfl
   refine np ?_
   try simp only[F5,cdt,cdf,A1,A,B,C,E,F,J]
   exact F48 r2 r1 r9 v4 v13 v14 v15 r17 h17 h18 _
theorem F92(r2:O × X1)(r1:X4 × (N Xa) × X1)(r9:X6)(v4:N Xa)(v13:N O)(v14 v15:O)(r17:O × X1)(h17:A4 (⟨v13,v14,v15⟩:X1) (zF .i64 (r9.High - r9.Low))=H r17)(h18:(B9 ([]:N O).length ([(zF .i64 ((zF .i64 (r9.Low+(1:O)))+r17.1))]:N O).length 8)=T):∀(f:Q) (b0 b1:P) (b2 b3:P) (b5 b6:P) (b7 b8:P),E0 X A1m (W8 r2 r1 r9 v4 r17) f [b0,b1,b2,b3,T,b5,b6,b7,b8,T,T,T,T,G,G] (F5 r2 r9 r17 (vc (.own 3264)) (vc (.own 3264)) b0 b1 b2 b3 T b5 b6 b7 b8 T T T T G [(99999999999,(dm r17.2.row)),(2,[aI (0:O),.nil,.nil,.nil,.nil,.nil,aI (0:O),aB G,aI (0:O),aI (0:O),aI (0:O),.nil]),(6,(dm r1.1.row)),(10,(dm r9.row))] [(908,5,W I v4),(3264,1,W rI ([]:N O)),(4736,1,W rI ([(zF .i64 ((zF .i64 (r9.Low+(1:O)))+r17.1))]:N O))]):=by
 intro f
 induction f with
 | zero=>intro b0 b1 b2 b3 b5 b6 b7 b8 h; simp at h
 | succ f ih=>
  intro b0 b1 b2 b3 b5 b6 b7 b8
  refine A9 ⟨?_,?_,?_,?_,?_,?_,?_,?_,?_,?_,?_,?_,?_,?_,?_,⟨⟩⟩<;>try first | (intro h; cases h; done) | (intro _ hw; simp at hw; done) | (intro h0 hw; obtain rfl:=hz h0 rfl; (try obtain rfl:=hq hw 1 rfl rfl); (try obtain rfl:=hq hw 2 rfl rfl); (try obtain rfl:=hq hw 5 rfl rfl); (try obtain rfl:=hq hw 7 rfl rfl); refine np ?_; simp only[F5,cdt,cdf,A1,A,B,C,E,F,J]; exact ih _ _ _ _ _ _ _ _)
  ·intro h0 hw
   obtain rfl:=hq hw 0 rfl rfl
   refine np ?_
   try simp only[h18,F5,cdt,cdf,A1,A,B,C,E,F,J]
   exact F7z r2 r1 r9 v4 v13 v14 v15 r17 h17 h18 _ b1 b2 b3 b5 b6 b7 b8
theorem F3k(r2:O × X1)(r1:X4 × (N Xa) × X1)(r9:X6)(v4:N Xa)(v13:N O)(v14 v15:O)(r17:O × X1)(h17:A4 (⟨v13,v14,v15⟩:X1) (zF .i64 (r9.High - r9.Low))=H r17)(h18:(B9 ([]:N O).length ([(zF .i64 ((zF .i64 (r9.Low+(1:O)))+r17.1))]:N O).length 8)=T):∀(f:Q) (b0 b1:P) (b2 b3:P) (b5 b6:P) (b7 b8 b11:P),E0 X A1m (W8 r2 r1 r9 v4 r17) f [b0,b1,b2,b3,T,b5,b6,b7,b8,T,T,b11,G,G,G] (F5 r2 r9 r17 (vc (.own 3264)) (vc (.own 3264)) b0 b1 b2 b3 T b5 b6 b7 b8 T T b11 G G [(99999999999,(dm r17.2.row)),(2,[aI (0:O),.nil,.nil,.nil,.nil,.nil,aI (0:O),aB G,aI (0:O),aI (0:O),aI (0:O),.nil]),(6,(dm r1.1.row)),(10,(dm r9.row))] [(908,5,W I v4),(3264,1,W rI ([]:N O))]):=by
 intro f
 induction f with
 | zero=>intro b0 b1 b2 b3 b5 b6 b7 b8 b11 h; simp at h
 | succ f ih=>
  intro b0 b1 b2 b3 b5 b6 b7 b8 b11
  refine A9 ⟨?_,?_,?_,?_,?_,?_,?_,?_,?_,?_,?_,?_,?_,?_,?_,⟨⟩⟩<;>try first | (intro h; cases h; done) | (intro _ hw; simp at hw; done) | (intro h0 hw; obtain rfl:=hz h0 rfl; (try obtain rfl:=hq hw 1 rfl rfl); (try obtain rfl:=hq hw 2 rfl rfl); (try obtain rfl:=hq hw 3 rfl rfl); (try obtain rfl:=hq hw 5 rfl rfl); (try obtain rfl:=hq hw 7 rfl rfl); refine np ?_; simp only[F5,cdt,cdf,A1,A,B,C,E,F,J]; exact ih _ _ _ _ _ _ _ _ _)
  ·intro h0 hw
   obtain rfl:=hq hw 11 rfl rfl
   refine np ?_
   try simp only[F5,cdt,cdf,A1,A,B,C,E,F,J]
   refine D6 (es:=W rI ([(zF .i64 ((zF .i64 (r9.Low+(1:O)))+r17.1))]:N O)) V (by simp only[St.fresh,zC,zD,H5]; simp[AV.cells,V1.cells,AC.uses]) ?_
   try simp only[A1,A,B,C,E,F,J]
   exact F92 r2 r1 r9 v4 v13 v14 v15 r17 h17 h18 _ b0 b1 b2 b3 b5 b6 b7 b8
theorem F4t(r2:O × X1)(r1:X4 × (N Xa) × X1)(r9:X6)(v4:N Xa)(v13:N O)(v14 v15:O)(r17:O × X1)(h17:A4 (⟨v13,v14,v15⟩:X1) (zF .i64 (r9.High - r9.Low))=H r17)(h18:(B9 ([]:N O).length ([(zF .i64 ((zF .i64 (r9.Low+(1:O)))+r17.1))]:N O).length 8)=T):∀(f:Q) (b0 b1:P) (b2 b3:P) (b4 b5:P) (b6 b7:P) (b8 b9:P),E0 X A1m (W8 r2 r1 r9 v4 r17) f [b0,b1,b2,b3,b4,b5,b6,b7,b8,b9,G,G,G,G,G] (F5 r2 r9 r17 (vc (.own 3264)) (vc (.own 3264)) b0 b1 b2 b3 b4 b5 b6 b7 b8 b9 G G G G [(99999999999,[aL (W r8 v13),aI v14,aI v15]),(2,[aI (0:O),.nil,.nil,.nil,.nil,.nil,aI (0:O),aB G,aI (0:O),aI (0:O),aI (0:O),.nil]),(6,(dm r1.1.row)),(10,(dm r9.row))] [(908,5,W I v4),(3264,1,W rI ([]:N O))]):=by
 intro f
 induction f with
 | zero=>intro b0 b1 b2 b3 b4 b5 b6 b7 b8 b9 h; simp at h
 | succ f ih=>
  intro b0 b1 b2 b3 b4 b5 b6 b7 b8 b9
  refine A9 ⟨?_,?_,?_,?_,?_,?_,?_,?_,?_,?_,?_,?_,?_,?_,?_,⟨⟩⟩<;>try first | (intro _ hw; simp at hw; done) | (intro h0 hw; obtain rfl:=hz h0 rfl; (try obtain rfl:=hq hw 1 rfl rfl); (try obtain rfl:=hq hw 2 rfl rfl); (try obtain rfl:=hq hw 5 rfl rfl); (try obtain rfl:=hq hw 6 rfl rfl); (try obtain rfl:=hq hw 7 rfl rfl); (try obtain rfl:=hq hw 8 rfl rfl); refine np ?_; simp only[F5,cdt,cdf,A1,A,B,C,E,F,J]; exact ih _ _ _ _ _ _ _ _ _ _)
  ·intro h0 hw
   obtain rfl:=hq hw 4 rfl rfl
   obtain rfl:=hq hw 9 rfl rfl
   refine np ?_
   try simp only[F5,cdt,cdf,A1,A,B,C,E,F,J]
   refine C7 (B8 _ _ _ h17) 99999999999 V V V ?_
   try simp only[A1,A,B,C,E,F,J]
   exact F3k r2 r1 r9 v4 v13 v14 v15 r17 h17 h18 _ b0 b1 b2 b3 b5 b6 b7 b8 G
theorem E3s(r2:O × X1)(r1:X4 × (N Xa) × X1)(v4:N Xa)(v19:N O)(v20 v21:O)(v22:N O)(r:X4 × (N Xa) × O × (N O) × X1)(h:A4m r2 r1 v4 v19 v20 v21 v22=H r)(σ:St)(hσ:σ.kept [0,2,6,7,8,11] [99999999999,2,6] [908,3264]=⟨[(0,vc (.pb 99999999999 0)),(2,vc (.pb 2 0)),(6,vc (.pb 6 0)),(7,vc (.own 908)),(8,vc (aI r2.1)),(11,vc (.own 3264))],[(99999999999,[aL (W r8 v19),aI v20,aI v21]),(2,[aI (0:O),.nil,.nil,.nil,.nil,.nil,aI (0:O),aB G,aI (0:O),aI (0:O),aI (0:O),.nil]),(6,(dm r1.1.row))],[(908,5,W I v4),(3264,1,W rI v22)]⟩):go X (.code C58:: []) (B15 [.c 2 T 12,3,4,5] [.ag [.v (.int .i64 r.1.Forecast.Tide.Mean),.v (.sl (W Z r.1.Forecast.Tide.Parts)),.v (.sl (W X6.row r.1.Forecast.Surges)),.v (.sl (W zA r.1.Chart.Points)),.v (.sl (W X3.row r.1.Chart.Segments)),.v (.sl (W zB r.1.Fleet)),.v (.int .i64 r.1.Regime.Gap),.v (.bool r.1.Regime.NoMeet),.v (.int .i64 r.1.Crew.Tugs),.v (.int .i64 r.1.Crew.Pilots),.v (.int .i64 r.1.Crew.Rest),.v (.sl (W rI r.1.Crew.Moves))],.sc (.v (.sl (W I r.2.1))),.sc (.v (.int .i64 r.2.2.1)),.sc (.v (.sl (W rI r.2.2.2.1)))] [.sl (W r8 r.2.2.2.2.b),.int .i64 r.2.2.2.2.i,.int .i64 r.2.2.2.2.h]) .normal (H σ):=by
 unfold A4m at h
 try simp only[hσ,C58,A,B,C,E,F,J]
 refine N7 V ?_
 try simp only[A,B,C,E,F,J]
 refine N7 V ?_
 try simp only[A,B,C,E,F,J]
 cases h
 try simp only[I2,A,B,C,E,F,J]
 trivial
theorem E29(r2:O × X1)(r1:X4 × (N Xa) × X1)(r9:X6)(v4:N Xa)(v12:P)(v13:N O)(v14 v15:O)(r:X4 × (N Xa) × O × (N O) × X1)(h:A0i r2 r1 r9 v4 v12 v13 v14 v15=H r)(σ:St)(hσ:σ.kept [0,2,6,7,8,10,11,61] [99999999999,2,6,10] [908,3264]=⟨[(0,vc (.pb 99999999999 0)),(2,vc (.pb 2 0)),(6,vc (.pb 6 0)),(7,vc (.own 908)),(8,vc (aI r2.1)),(10,vc (.pb 10 0)),(11,vc (.own 3264)),(61,vc (aB v12))],[(99999999999,[aL (W r8 v13),aI v14,aI v15]),(2,[aI (0:O),.nil,.nil,.nil,.nil,.nil,aI (0:O),aB G,aI (0:O),aI (0:O),aI (0:O),.nil]),(6,(dm r1.1.row)),(10,(dm r9.row))],[(908,5,W I v4),(3264,1,W rI ([]:N O))]⟩):go X (.code C6s:: [.code C58]) (B15 [.c 2 T 12,3,4,5] [.ag [.v (.int .i64 r.1.Forecast.Tide.Mean),.v (.sl (W Z r.1.Forecast.Tide.Parts)),.v (.sl (W X6.row r.1.Forecast.Surges)),.v (.sl (W zA r.1.Chart.Points)),.v (.sl (W X3.row r.1.Chart.Segments)),.v (.sl (W zB r.1.Fleet)),.v (.int .i64 r.1.Regime.Gap),.v (.bool r.1.Regime.NoMeet),.v (.int .i64 r.1.Crew.Tugs),.v (.int .i64 r.1.Crew.Pilots),.v (.int .i64 r.1.Crew.Rest),.v (.sl (W rI r.1.Crew.Moves))],.sc (.v (.sl (W I r.2.1))),.sc (.v (.int .i64 r.2.2.1)),.sc (.v (.sl (W rI r.2.2.2.1)))] [.sl (W r8 r.2.2.2.2.b),.int .i64 r.2.2.2.2.i,.int .i64 r.2.2.2.2.h]) .normal (H σ):=by
 unfold A0i at h
 rcases ic h with ⟨h16,h⟩|⟨h16,h⟩
 ·try simp only[hσ,h16,C6s,A,B,C,E,F,J]
  obtain⟨r17,h17,h⟩:=ob h
  obtain⟨h18,h⟩:=C9 h
  refine A3l (ks:= [0,2,6,7,8,10,11]) (bs:= [99999999999,2,6,10]) (rs:= [908,3264]) (τ:=(W8 r2 r1 r9 v4 r17)) V (F4t r2 r1 r9 v4 v13 v14 v15 r17 h17 h18 _ G G G G G G G G G G) ?_
  simp only[W8,F5,cdt]
  try simp only[h16,h18,A,B,C,E,F,J]
  refine E3s _ _ _ _ _ _ _ _ h _ ?_
  try simp only[h16,h18,A,B,C,E,F,J,Y]
 ·try simp only[hσ,h16,C6s,A,B,C,E,F,J]
  refine E3s _ _ _ _ _ _ _ _ h _ ?_
  try simp only[h16,A,B,C,E,F,J,Y]
theorem F93(r2:O × X1)(r1:X4 × (N Xa) × X1):∀(n:Q) (v3:O) (v4:N Xa) (r:X4 × (N Xa) × O × (N O) × X1),A0j r2 r1 n v3 v4=H r→∀σ:St,σ.kept [0,2,6,7,8,20,21] [99999999999,2,6] [908]=⟨[(0,vc (.pb 99999999999 0)),(2,vc (.pb 2 0)),(6,vc (.pb 6 0)),(7,vc (.own 908)),(8,vc (aI r2.1)),(20,vc (aI (r1.2.1.length:O))),(21,vc (aI v3))],[(99999999999,(dm r2.2.row)),(2,[aI (0:O),.nil,.nil,.nil,.nil,.nil,aI (0:O),aB G,aI (0:O),aI (0:O),aI (0:O),.nil]),(6,(dm r1.1.row))],[(908,5,W I v4)]⟩→go X (.code (.loop D1q):: [.blk 0,.code D5u]) (B15 [.c 2 T 12,3,4,5] [.ag [.v (.int .i64 r.1.Forecast.Tide.Mean),.v (.sl (W Z r.1.Forecast.Tide.Parts)),.v (.sl (W X6.row r.1.Forecast.Surges)),.v (.sl (W zA r.1.Chart.Points)),.v (.sl (W X3.row r.1.Chart.Segments)),.v (.sl (W zB r.1.Fleet)),.v (.int .i64 r.1.Regime.Gap),.v (.bool r.1.Regime.NoMeet),.v (.int .i64 r.1.Crew.Tugs),.v (.int .i64 r.1.Crew.Pilots),.v (.int .i64 r.1.Crew.Rest),.v (.sl (W rI r.1.Crew.Moves))],.sc (.v (.sl (W I r.2.1))),.sc (.v (.int .i64 r.2.2.1)),.sc (.v (.sl (W rI r.2.2.2.1)))] [.sl (W r8 r.2.2.2.2.b),.int .i64 r.2.2.2.2.i,.int .i64 r.2.2.2.2.h]) .normal (H σ):=by
 intro n
 induction n with
 | zero=>intro _ _ r h; cases h
 | succ n ih=>
  intro v3 v4 r h σ hσ
  rw[A0j] at h
  refine B5 ?_
  rcases ic h with ⟨h5,h⟩|⟨h5,h⟩
  ·obtain⟨x6,h6,h⟩:=ob h
   have h6n:=M2 h6
   try simp only[hσ,h5,h6,h6n,D1q,A,B,C,E,F,J]
   refine A5j (row:=I) (y:=(⟨x6.Ship,x6.From,x6.To,(zF .i64 (x6.Ready+r2.1)),x6.Due⟩:Xa)) V V h6n V V (by rfl) ?_
   obtain⟨x7,h7,h⟩:=ob h
   have h7n:=M2 h7
   try simp only[h5,h6,h6n,h7,h7n,A,B,C,E,F,J]
   refine A5j (row:=I) (y:=(⟨x7.Ship,x7.From,x7.To,x7.Ready,(zF .i64 (x7.Due+r2.1))⟩:Xa)) V V h7n V V (by rfl) ?_
   try simp only[h5,h6,h6n,h7,h7n,A,B,C,E,F,J]
   refine ih _ _ _ h _ ?_
   try simp only[h5,h6,h6n,h7,h7n,A,B,C,E,F,J,Y]
  ·obtain⟨r9,h9,h⟩:=ob h
   try simp only[hσ,h5,D1q,D5u,A,B,C,E,F,J]
   refine A2 (C1c _ _ _ h9) V V (uf V) ?_
   try simp only[h5,A,B,C,E,F,J]
   refine B7 V V ?_
   try simp only[h5,A,B,C,E,F,J]
   refine D6 (es:=W rI ([]:N O)) V V ?_
   rcases ic h with ⟨h10,h⟩|⟨h10,h⟩
   ·obtain⟨r11,h11,h⟩:=ob h
    try simp only[h5,h10,A,B,C,E,F,J]
    refine C7 (Y3 _ _ _ h11) 99999999999 V V V ?_
    try simp only[h5,h10,A,B,C,E,F,J]
    refine E29 _ _ _ _ _ _ _ _ _ h _ ?_
    try simp only[h5,h10,A,B,C,E,F,J,Y]
   ·try simp only[h5,h10,A,B,C,E,F,J]
    refine E29 _ _ _ _ _ _ _ _ _ h _ ?_
    try simp only[h5,h10,A,B,C,E,F,J,Y]
theorem F7d:A5 X 18=H (cc103.strip,[.c 2 T 12,3,4,5],80):=by kernel_rfl
theorem C17(a0:X1)(r:X4 × (N Xa) × O × (N O) × X1)(h:A7v a0=H r):FCy X 18 [.p] [.sl (W r8 a0.b),.int .i64 a0.i,.int .i64 a0.h] [.sl (W r8 r.2.2.2.2.b),.int .i64 r.2.2.2.2.i,.int .i64 r.2.2.2.2.h] [.ag [.v (.int .i64 r.1.Forecast.Tide.Mean),.v (.sl (W Z r.1.Forecast.Tide.Parts)),.v (.sl (W X6.row r.1.Forecast.Surges)),.v (.sl (W zA r.1.Chart.Points)),.v (.sl (W X3.row r.1.Chart.Segments)),.v (.sl (W zB r.1.Fleet)),.v (.int .i64 r.1.Regime.Gap),.v (.bool r.1.Regime.NoMeet),.v (.int .i64 r.1.Crew.Tugs),.v (.int .i64 r.1.Crew.Pilots),.v (.int .i64 r.1.Crew.Rest),.v (.sl (W rI r.1.Crew.Moves))],.sc (.v (.sl (W I r.2.1))),.sc (.v (.int .i64 r.2.2.1)),.sc (.v (.sl (W rI r.2.2.2.1)))]:=by
 unfold A7v at h
 refine A4s (σ:=⟨[(0,vc (.pb 99999999999 0))],[(99999999999,[aL (W r8 a0.b),aI a0.i,aI a0.h])],[]⟩) mixed F7d V V ?_
 simp only[cc103]
 try simp only[A,B,C,E,F,J]
 refine B7 V V ?_
 obtain⟨r1,h1,h⟩:=ob h
 try simp only[A,B,C,E,F,J]
 refine C7g (C19 _ _ h1) 99999999999 V V V V ?_
 try simp only[A,B,C,E,F,J]
 refine B7 V V ?_
 obtain⟨r2,h2,h⟩:=ob h
 try simp only[A,B,C,E,F,J]
 refine C7 (B8 _ _ _ h2) 99999999999 V V V ?_
 try simp only[A,B,C,E,F,J]
 refine F93 _ _ _ _ _ _ h _ ?_
 try simp only[A,B,C,E,F,J,Y]
/- 4:spec_MakeWait -/
def cc113:X2:=(.seq (.reg [(L,.alloc 2 [aI 0,.nil,.nil,.nil,.nil,.nil,aI 0,aB G,aI 0,aI 0,aI 0,.nil]),(L,.mv 3 KN),(L,.mv 4 (K 0)),(L,.mv 5 KN)]) (.seq (.reg [mv 6 0,ca 7 19 [S 6],ca 8 18 [S 7],xt 9 8 0,xt 10 8 1,xt 11 8 2,xt 12 8 3,so 2 9 12,mv 3 10,mv 4 11,mv 5 12]) .ret))
theorem F8y:A5 X 4=H (cc113.strip,[.c 2 T 12,3,4,5],13):=by kernel_rfl
theorem C1u(a0:N O)(r:X4 × (N Xa) × O × (N O))(h:A5o a0=H r):FC X 4 [.sc (.sl (W r8 a0))] [.ag [.v (.int .i64 r.1.Forecast.Tide.Mean),.v (.sl (W Z r.1.Forecast.Tide.Parts)),.v (.sl (W X6.row r.1.Forecast.Surges)),.v (.sl (W zA r.1.Chart.Points)),.v (.sl (W X3.row r.1.Chart.Segments)),.v (.sl (W zB r.1.Fleet)),.v (.int .i64 r.1.Regime.Gap),.v (.bool r.1.Regime.NoMeet),.v (.int .i64 r.1.Crew.Tugs),.v (.int .i64 r.1.Crew.Pilots),.v (.int .i64 r.1.Crew.Rest),.v (.sl (W rI r.1.Crew.Moves))],.sc (.v (.sl (W I r.2.1))),.sc (.v (.int .i64 r.2.2.1)),.sc (.v (.sl (W rI r.2.2.2)))]:=by
 unfold A5o at h
 refine C3 mixed F8y V ?_
 simp only[cc113,A,B,C,E,F,J]
 try simp only[A,B,C,E,F,J]
 refine B7 V V ?_
 obtain⟨r1,h1,h⟩:=ob h
 try simp only[A,B,C,E,F,J]
 refine D9r (C41 _ _ h1) V V ?_
 obtain⟨r2,h2,h⟩:=ob h
 try simp only[A,B,C,E,F,J]
 refine C7 (C17 _ _ h2) 7 V V V ?_
 try simp only[A,B,C,E,F,J]
 cases h
 try simp only[I2,A,B,C,E,F,J]
 trivial
/- 31:impl_within -/
def cc115:X2:=(.seq (.reg [(L,.mv 6 (KB G))]) (.seq (.reg [mv 7 1,mv 8 0,bn 9 .leq 7 8,mv 10 9,(H (10,T),.mv 11 (S 0)),(H (10,T),.mv 12 (S 2)),(H (10,T),.bin 13 .leq (S 11) (S 12)),pa 14 10 13,mv 6 14]) .ret))
theorem F3c:A5 X 31=H (cc115.strip,[6],15):=by kernel_rfl
theorem F8(a0 a1 a2:O)(r:P)(h:E3 a0 a1 a2=H r):FC X 31 [.sc (.int .i64 a0),.sc (.int .i64 a1),.sc (.int .i64 a2)] [.sc (.v (.bool r))]:=by
 unfold E3 at h
 refine C3 mixed F3c V ?_
 simp only[cc115,A,B,C,E,F,J]
 rcases ic h with ⟨h1,h⟩|⟨h1,h⟩
 ·try simp only[h1,A,B,C,E,F,J]
  cases h
  trivial
 ·try simp only[h1,A,B,C,E,F,J]
  cases h
  trivial
/- 106:impl_isPeriod -/
def cc117:X2:=(.seq (.reg [(L,.mv 2 (KB G))]) (.seq (.reg [mv 3 0,ca 4 31 [S 3,K 4,K 2880],mv 5 4,(H (5,T),.mv 6 (S 0)),(H (5,T),.bin 7 .rem (S 6) (K 4)),(H (5,T),.bin 8 .eql (S 7) (K 0)),pa 9 5 8,mv 2 9]) .ret))
theorem F7o:A5 X 106=H (cc117.strip,[2],10):=by kernel_rfl
theorem B26(a0:O)(r:P)(h:A2y a0=H r):FC X 106 [.sc (.int .i64 a0)] [.sc (.v (.bool r))]:=by
 unfold A2y at h
 refine C3 mixed F7o V ?_
 simp only[cc117,A,B,C,E,F,J]
 obtain⟨r1,h1,h⟩:=ob h
 try simp only[A,B,C,E,F,J]
 refine A2 (F8 _ _ _ _ h1) V V (uf V) ?_
 rcases ic h with ⟨h2,h⟩|⟨h2,h⟩
 ·try simp only[h2,A,B,C,E,F,J]
  cases h
  trivial
 ·try simp only[h2,A,B,C,E,F,J]
  cases h
  trivial
/- 79:impl_PartOk -/
def cc119:X2:=(.seq (.reg [bo 1 0,(L,.mv 2 (KB G))]) (.seq (.reg [fa 3 1 0,ld 4 3,ca 5 31 [S 4,K 0,K 1000],mv 6 5,(H (6,T),.faddr 7 (S 1) 1),(H (6,T),.load 8 (S 7) G 1),(H (6,T),.call 9 106 [(S 8)]),pa 10 6 9,mv 11 10,(H (11,T),.faddr 12 (S 1) 2),(H (11,T),.load 13 (S 12) G 1),(H (11,T),.faddr 14 (S 1) 1),(H (11,T),.load 15 (S 14) G 1),(H (11,T),.bin 16 .sub (S 15) (K 1)),(H (11,T),.call 17 31 [(S 13),(K 0),(S 16)]),pa 18 11 17,mv 2 18]) .ret))
theorem F56:A5 X 79=H (cc119.strip,[2],19):=by kernel_rfl
theorem C4y(a0:Xe)(r:P)(h:A62 a0=H r):FC X 79 [.ag (Z a0)] [.sc (.v (.bool r))]:=by
 unfold A62 at h
 refine C3 mixed F56 V ?_
 simp only[cc119,A,B,C,E,F,J]
 try simp only[A,B,C,E,F,J]
 refine B2 V V V ?_
 obtain⟨r1,h1,h⟩:=ob h
 try simp only[A,B,C,E,F,J]
 refine A2 (F8 _ _ _ _ h1) V V (uf V) ?_
 rcases ic h with ⟨h2,h⟩|⟨h2,h⟩
 ·obtain⟨r3,h3,h⟩:=ob h
  try simp only[h2,A,B,C,E,F,J]
  refine A2 (B26 _ _ h3) V V (uf V) ?_
  rcases ic h with ⟨h4,h⟩|⟨h4,h⟩
  ·obtain⟨r5,h5,h⟩:=ob h
   try simp only[h2,h4,A,B,C,E,F,J]
   refine A2 (F8 _ _ _ _ h5) V V (uf V) ?_
   try simp only[h2,h4,A,B,C,E,F,J]
   cases h
   trivial
  ·try simp only[h2,h4,A,B,C,E,F,J]
   cases h
   trivial
 ·try simp only[h2,A,B,C,E,F,J]
  cases h
  trivial
/- 51:impl_TideOk -/
def C5t:X2:= .seq (.reg [(L,.keep [16,17,18] [] [])]) (.seq (.reg [bn 19 .lss 18 17]) (.seq (.cond (S 19) .skip (.exit 0)) (.seq (.block 1 (.seq (.reg [ia 20 16 18 3,lw 21 20 3,(L,.alloc 4 [aI 0,aI 0,aI 0]),so 4 21 3]) (.seq (.reg [lw 22 4 3,ca 23 79 [S 22],nt 24 23]) (.cond (S 24) (.seq (.reg [(L,.mv 2 (KB G))]) .ret) .skip)))) (.reg [(L,.bin 25 .add (S 18) (K 1)),mv 18 25]))))
def D34:X2:=(.seq (.reg [(L,.mv 2 (KB T))]) .ret)
def cc123:X2:=(.seq (.reg [bo 1 0,(L,.mv 2 (KB G))]) (.seq (.seq (.reg [fa 5 1 0,ld 6 5,ca 7 31 [S 6,K (-1000),K 1000],nt 8 7,mv 9 8,(H (9,G),.faddr 10 (S 1) 1),(H (9,G),.load 11 (S 10) G 1),(H (9,G),.len 12 (S 11)),(H (9,G),.bin 13 .gtr (S 12) (K 4)),po 14 9 13]) (.cond (S 14) (.seq (.reg [(L,.mv 2 (KB G))]) .ret) .skip)) (.seq (.seq (.reg [fa 15 1 1,ld 16 15,ln 17 16,(L,.mv 18 (K 0))]) (.block 0 (.loop C5t))) D34)))
theorem F5h(a0:Xn):∀(n:Q) (v4:O) (r:P),A09 a0 n v4=H r→∀σ:St,σ.kept [16,17,18] [] []=⟨[(16,vc (aL (W Z a0.Parts))),(17,vc (aI (a0.Parts.length:O))),(18,vc (aI v4))],[],[]⟩→go X (.code (.loop C5t):: [.blk 0,.code D34]) (Ret [2] [.sc (.v (.bool r))]) .normal (H σ):=by
 intro n
 induction n with
 | zero=>intro _ r h; cases h
 | succ n ih=>
  intro v4 r h σ hσ
  rw[A09] at h
  refine B5 ?_
  rcases ic h with ⟨h5,h⟩|⟨h5,h⟩
  ·obtain⟨x6,h6,h⟩:=ob h
   try simp only[hσ,h5,h6,C5t,A,B,C,E,F,J]
   refine B7 V V ?_
   obtain⟨r7,h7,h⟩:=ob h
   try simp only[h5,h6,A,B,C,E,F,J]
   refine A2 (C4y _ _ h7) V V (uf V) ?_
   rcases ic h with ⟨h8,h⟩|⟨h8,h⟩
   ·try simp only[h5,h6,h8,A,B,C,E,F,J]
    refine ih _ _ h _ ?_
    try simp only[h5,h6,h8,A,B,C,E,F,J,Y]
   ·try simp only[h5,h6,h8,A,B,C,E,F,J]
    cases h
    trivial
  ·try simp only[hσ,h5,C5t,D34,A,B,C,E,F,J]
   cases h
   trivial
theorem F8h:A5 X 51=H (cc123.strip,[2],26):=by kernel_rfl
theorem C4v(a0:Xn)(r:P)(h:A61 a0=H r):FC X 51 [.ag (Xn.row a0)] [.sc (.v (.bool r))]:=by
 unfold A61 at h
 refine C3 mixed F8h V ?_
 simp only[cc123,A,B,C,E,F,J]
 try simp only[A,B,C,E,F,J]
 refine B2 V V V ?_
 obtain⟨r1,h1,h⟩:=ob h
 try simp only[A,B,C,E,F,J]
 refine A2 (F8 _ _ _ _ h1) V V (uf V) ?_
 rcases ic h with ⟨h2,h⟩|⟨h2,h⟩
 ·rcases ic h with ⟨h3,h⟩|⟨h3,h⟩
  ·try simp only[h2,h3,A,B,C,E,F,J]
   cases h
   trivial
  ·try simp only[h2,h3,A,B,C,E,F,J]
   refine F5h _ _ _ _ h _ ?_
   try simp only[h2,h3,A,B,C,E,F,J,Y]
 ·try simp only[h2,A,B,C,E,F,J]
  cases h
  trivial
/- 25:impl_isMinute -/
def cc126:X2:=(.seq (.reg [(L,.mv 2 (KB G))]) (.seq (.reg [mv 3 0,ca 4 31 [S 3,K 0,K 2880],mv 2 4]) .ret))
theorem F3x:A5 X 25=H (cc126.strip,[2],5):=by kernel_rfl
theorem O5(a0:O)(r:P)(h:G9 a0=H r):FC X 25 [.sc (.int .i64 a0)] [.sc (.v (.bool r))]:=by
 unfold G9 at h
 refine C3 mixed F3x V ?_
 simp only[cc126,A,B,C,E,F,J]
 obtain⟨r1,h1,h⟩:=ob h
 try simp only[A,B,C,E,F,J]
 refine A2 (F8 _ _ _ _ h1) V V (uf V) ?_
 try simp only[A,B,C,E,F,J]
 cases h
 trivial
/- 52:impl_SurgeOk -/
def cc128:X2:=(.seq (.reg [bo 1 0,(L,.mv 2 (KB G))]) (.seq (.reg [fa 3 1 0,ld 4 3,ca 5 25 [S 4],mv 6 5,(H (6,T),.faddr 7 (S 1) 1),(H (6,T),.load 8 (S 7) G 1),(H (6,T),.bin 9 .leq (K (-500)) (S 8)),pa 10 6 9,mv 11 10,(H (11,T),.faddr 12 (S 1) 1),(H (11,T),.load 13 (S 12) G 1),(H (11,T),.faddr 14 (S 1) 2),(H (11,T),.load 15 (S 14) G 1),(H (11,T),.bin 16 .leq (S 13) (S 15)),pa 17 11 16,mv 18 17,(H (18,T),.faddr 19 (S 1) 2),(H (18,T),.load 20 (S 19) G 1),(H (18,T),.bin 21 .leq (S 20) (K 500)),pa 22 18 21,mv 2 22]) .ret))
theorem F7j:A5 X 52=H (cc128.strip,[2],23):=by kernel_rfl
theorem C2u(a0:X6)(r:P)(h:A57 a0=H r):FC X 52 [.ag (X6.row a0)] [.sc (.v (.bool r))]:=by
 unfold A57 at h
 refine C3 mixed F7j V ?_
 simp only[cc128,A,B,C,E,F,J]
 try simp only[A,B,C,E,F,J]
 refine B2 V V V ?_
 obtain⟨r1,h1,h⟩:=ob h
 try simp only[A,B,C,E,F,J]
 refine A2 (O5 _ _ h1) V V (uf V) ?_
 rcases ic h with ⟨h2,h⟩|⟨h2,h⟩
 ·rcases ic h with ⟨h3,h⟩|⟨h3,h⟩
  ·rcases ic h with ⟨h4,h⟩|⟨h4,h⟩
   ·try simp only[h2,h3,h4,A,B,C,E,F,J]
    cases h
    trivial
   ·try simp only[h2,h3,h4,A,B,C,E,F,J]
    cases h
    trivial
  ·try simp only[h2,h3,A,B,C,E,F,J]
   cases h
   trivial
 ·try simp only[h2,A,B,C,E,F,J]
  cases h
  trivial
/- 24:impl_ForecastOk -/
def C5m:X2:= .seq (.reg [(L,.keep [1,25,26,27] [1] [])]) (.seq (.reg [bn 28 .lss 27 26]) (.seq (.cond (S 28) .skip (.exit 0)) (.seq (.block 1 (.seq (.reg [mv 29 27,ia 30 25 27 3,lw 31 30 3,(L,.alloc 4 [aI 0,aI 0,aI 0]),mv 3 29,so 4 31 3]) (.seq (.drw [o0 (lw 32 4 3),o0 (ca 33 52 [S 32]),o0 (nt 34 33),o0 (mv 35 34),o0 (H (35,G),.mv 36 (S 3)),o0 (H (35,G),.bin 37 .gtr (S 36) (K 0)),o0 (H (35,G),.mv 38 (S 37)),o0 (H (38,T),.faddr 39 (S 1) 2),o0 (H (38,T),.load 40 (S 39) G 1),o0 (H (38,T),.mv 41 (S 3)),o0 (H (38,T),.bin 42 .sub (S 41) (K 1)),o0 (H (38,T),.iaddr 43 (S 40) (S 42) 3),o0 (H (38,T),.faddr 44 (S 43) 0),o0 (H (38,T),.load 45 (S 44) G 1),o0 (H (38,T),.faddr 46 (S 4) 0),o0 (H (38,T),.load 47 (S 46) G 1),o0 (H (38,T),.bin 48 .geq (S 45) (S 47)),o0 (H (35,G),.pick 49 (S 38) (S 48) (KB G)),o0 (po 50 35 49)]) (.cond (S 50) (.seq (.reg [(L,.mv 2 (KB G))]) .ret) .skip)))) (.reg [(L,.bin 51 .add (S 27) (K 1)),mv 27 51]))))
def D4q:X2:=(.seq (.reg [(L,.mv 2 (KB T))]) .ret)
def cc132:X2:=(.seq (.reg [bo 1 0,(L,.mv 2 (KB G))]) (.seq (.seq (.reg [fa 5 1 0,lw 6 5 2,ca 7 51 [S 6],nt 8 7,mv 9 8,(H (9,G),.faddr 10 (S 1) 2),(H (9,G),.load 11 (S 10) G 1),(H (9,G),.len 12 (S 11)),(H (9,G),.call 13 31 [(S 12),(K 1),(K 6)]),(H (9,G),.un 14 .not (S 13)),po 15 9 14,mv 16 15,(H (16,G),.faddr 17 (S 1) 2),(H (16,G),.load 18 (S 17) G 1),(H (16,G),.iaddr 19 (S 18) (K 0) 3),(H (16,G),.faddr 20 (S 19) 0),(H (16,G),.load 21 (S 20) G 1),(H (16,G),.bin 22 .neq (S 21) (K 0)),po 23 16 22]) (.cond (S 23) (.seq (.reg [(L,.mv 2 (KB G))]) .ret) .skip)) (.seq (.seq (.reg [fa 24 1 2,ld 25 24,ln 26 25,(L,.mv 27 (K 0))]) (.block 0 (.loop C5m))) D4q)))
theorem F33(a0:X8):∀(n:Q) (v7:O) (r:P),P0 a0 n v7=H r→∀σ:St,σ.kept [1,25,26,27] [1] []=⟨[(1,vc (.pb 1 0)),(25,vc (aL (W X6.row a0.Surges))),(26,vc (aI (a0.Surges.length:O))),(27,vc (aI v7))],[(1,(dm a0.row))],[]⟩→go X (.code (.loop C5m):: [.blk 0,.code D4q]) (Ret [2] [.sc (.v (.bool r))]) .normal (H σ):=by
 intro n
 induction n with
 | zero=>intro _ r h; cases h
 | succ n ih=>
  intro v7 r h σ hσ
  rw[P0] at h
  refine B5 ?_
  rcases ic h with ⟨h8,h⟩|⟨h8,h⟩
  ·obtain⟨x9,h9,h⟩:=ob h
   try simp only[hσ,h8,h9,C5m,A,B,C,E,F,J]
   refine B7 V V ?_
   try simp only[h8,h9,A,B,C,E,F,J]
   refine B3 V ?_
   obtain⟨r10,h10,h⟩:=ob h
   try simp only[h8,h9,A,B,C,E,F,J]
   refine E1 (C2u _ _ h10) V V (uf V) ?_
   rcases ic h with ⟨h11,h⟩|⟨h11,h⟩
   ·rcases ic h with ⟨h12,h⟩|⟨h12,h⟩
    ·obtain⟨x13,h13,h⟩:=ob h
     rcases ic h with ⟨h14,h⟩|⟨h14,h⟩
     ·try simp only[h8,h9,h11,h12,h13,h14,A,B,C,E,F,J]
      cases h
      trivial
     ·try simp only[h8,h9,h11,h12,h13,h14,A,B,C,E,F,J]
      refine ih _ _ h _ ?_
      try simp only[h8,h9,h11,h12,h13,h14,A,B,C,E,F,J,Y]
    ·try simp only[h8,h9,h11,h12,A,B,C,E,F,J]
     refine ih _ _ h _ ?_
     try simp only[h8,h9,h11,h12,A,B,C,E,F,J,Y]
   ·try simp only[h8,h9,h11,A,B,C,E,F,J]
    cases h
    trivial
  ·try simp only[hσ,h8,C5m,D4q,A,B,C,E,F,J]
   cases h
   trivial
theorem F8b:A5 X 24=H (cc132.strip,[2],52):=by kernel_rfl
theorem P2(a0:X8)(r:P)(h:I4 a0=H r):FC X 24 [.ag (X8.row a0)] [.sc (.v (.bool r))]:=by
 unfold I4 at h
 refine C3 mixed F8b V ?_
 simp only[cc132,A,B,C,E,F,J]
 try simp only[A,B,C,E,F,J]
 refine B2 V V V ?_
 obtain⟨r1,h1,h⟩:=ob h
 try simp only[A,B,C,E,F,J]
 refine A2 (C4v _ _ h1) V V (uf V) ?_
 rcases ic h with ⟨h2,h⟩|⟨h2,h⟩
 ·obtain⟨r3,h3,h⟩:=ob h
  try simp only[h2,A,B,C,E,F,J]
  refine A2 (F8 _ _ _ _ h3) V V (uf V) ?_
  rcases ic h with ⟨h4,h⟩|⟨h4,h⟩
  ·obtain⟨x5,h5,h⟩:=ob h
   rcases ic h with ⟨h6,h⟩|⟨h6,h⟩
   ·try simp only[h2,h4,h5,h6,A,B,C,E,F,J]
    cases h
    trivial
   ·try simp only[h2,h4,h5,h6,A,B,C,E,F,J]
    refine F33 _ _ _ _ h _ ?_
    try simp only[h2,h4,h5,h6,A,B,C,E,F,J,Y]
  ·try simp only[h2,h4,A,B,C,E,F,J]
   cases h
   trivial
 ·try simp only[h2,A,B,C,E,F,J]
  cases h
  trivial
/- 26:impl_Forecast_surge -/
def C5d:X2:= .seq (.reg [(L,.keep [1,5,9,10,11] [] [])]) (.seq (.reg [bn 12 .lss 11 10]) (.seq (.cond (S 12) .skip (.exit 0)) (.seq (.block 1 (.seq (.reg [mv 13 11,ia 14 9 11 3,lw 15 14 3,(L,.alloc 7 [aI 0,aI 0,aI 0]),mv 6 13,so 7 15 3]) (.seq (.reg [fa 16 7 0,ld 17 16,mv 18 1,bn 19 .leq 17 18]) (.cond (S 19) (.reg [mv 20 6,mv 5 20]) .skip)))) (.reg [(L,.bin 21 .add (S 11) (K 1)),mv 11 21]))))
def D5m:X2:=(.seq (.reg [mv 22 5,mv 4 22]) .ret)
def cc137:X2:=(.seq (.reg [bo 2 0,(L,.mv 4 (K 0))]) (.seq (.reg [(L,.mv 5 (K 0))]) (.seq (.seq (.reg [fa 8 2 2,ld 9 8,ln 10 9,(L,.mv 11 (K 0))]) (.block 0 (.loop C5d))) D5m)))
theorem F9r(a1:O)(a0:X8):∀(n:Q) (v1 v2 r:O),E8 a1 a0 n v1 v2=H r→∀σ:St,σ.kept [1,5,9,10,11] [] []=⟨[(1,vc (aI a1)),(5,vc (aI v1)),(9,vc (aL (W X6.row a0.Surges))),(10,vc (aI (a0.Surges.length:O))),(11,vc (aI v2))],[],[]⟩→go X (.code (.loop C5d):: [.blk 0,.code D5m]) (Ret [4] [.sc (.v (.int .i64 r))]) .normal (H σ):=by
 intro n
 induction n with
 | zero=>intro _ _ r h; cases h
 | succ n ih=>
  intro v1 v2 r h σ hσ
  rw[E8] at h
  refine B5 ?_
  rcases ic h with ⟨h3,h⟩|⟨h3,h⟩
  ·obtain⟨x4,h4,h⟩:=ob h
   try simp only[hσ,h3,h4,C5d,A,B,C,E,F,J]
   refine B7 V V ?_
   rcases ic h with ⟨h5,h⟩|⟨h5,h⟩
   ·try simp only[h3,h4,h5,A,B,C,E,F,J]
    refine ih _ _ _ h _ ?_
    try simp only[h3,h4,h5,A,B,C,E,F,J,Y]
   ·try simp only[h3,h4,h5,A,B,C,E,F,J]
    refine ih _ _ _ h _ ?_
    try simp only[h3,h4,h5,A,B,C,E,F,J,Y]
  ·try simp only[hσ,h3,C5d,D5m,A,B,C,E,F,J]
   cases h
   trivial
theorem F51:A5 X 26=H (cc137.strip,[4],23):=by kernel_rfl
theorem H4(a0:X8)(a1 r:O)(h:C5 a0 a1=H r):FC X 26 [.ag (X8.row a0),.sc (.int .i64 a1)] [.sc (.v (.int .i64 r))]:=by
 unfold C5 at h
 refine C3 mixed F51 V ?_
 simp only[cc137,A,B,C,E,F,J]
 try simp only[A,B,C,E,F,J]
 refine B2 V V V ?_
 try simp only[A,B,C,E,F,J]
 refine F9r _ _ _ _ _ _ h _ ?_
 try simp only[A,B,C,E,F,J,Y]
/- 6:impl_SurgeAt -/
def C5f:X2:= .seq (.reg [(L,.keep [1,2,15] [2] [])]) (.cond (S 15) (.seq (.reg [(L,.mv 4 (K 0)),(L,.mv 5 (K 0)),(L,.mv 6 (KB G))]) .ret) .skip)
def D5a:X2:=(.seq (.drw [(H [20,7],fa 16 2 2),(H [20,7],ld 17 16),(H [7],lw 18 2 3),(H [7],mv 19 1),(H [7],ca 20 26 [S 18,S 19]),(H [7],ia 21 17 20 3),(H [7],lw 22 21 3),(H [20],(L,.alloc 7 [aI 0,aI 0,aI 0])),(L,so 7 22 3)]) (.seq (.drw [o0 (fa 23 7 1),o0 (ld 24 23),o0 (fa 25 7 2),o0 (ld 26 25),o0 (mv 4 24),o0 (mv 5 26),o0 (L,.mv 6 (KB T))]) .ret))
def cc142:X2:=(.seq (.reg [bo 2 0,(L,.mv 4 (K 0)),(L,.mv 5 (K 0)),(L,.mv 6 (KB G))]) (.seq (.seq (.reg [lw 8 2 3,ca 9 24 [S 8],nt 10 9,mv 11 10,(H (11,G),.mv 12 (S 1)),(H (11,G),.call 13 25 [(S 12)]),(H (11,G),.un 14 .not (S 13)),po 15 11 14]) C5f) D5a))
theorem E3o(a1:O)(a0:X8)(v4:P)(r:O × O × P)(h:A4b a1 a0 v4=H r)(σ:St)(hσ:σ.kept [1,2,15] [2] []=⟨[(1,vc (aI a1)),(2,vc (.pb 2 0)),(15,vc (aB v4))],[(2,(dm a0.row))],[]⟩):go X (.code C5f:: [.code D5a]) (Ret [4,5,6] [.sc (.v (.int .i64 r.1)),.sc (.v (.int .i64 r.2.1)),.sc (.v (.bool r.2.2))]) .normal (H σ):=by
 unfold A4b at h
 rcases ic h with ⟨h5,h⟩|⟨h5,h⟩
 ·try simp only[hσ,h5,C5f,A,B,C,E,F,J]
  cases h
  trivial
 ·try simp only[hσ,h5,C5f,D5a,A,B,C,E,F,J]
  refine B3 V ?_
  obtain⟨r6,h6,h⟩:=ob h
  try simp only[h5,A,B,C,E,F,J]
  refine E1 (H4 _ _ _ h6) V V (uf V) ?_
  obtain⟨x7,h7,h⟩:=ob h
  try simp only[h5,h7,A,B,C,E,F,J]
  refine B6b (m:= .box 7 [aI (0:O),aI (0:O),aI (0:O)]) V V (A9o V V) ?_
  try simp only[h5,h7,A,B,C,E,F,J]
  refine B3 V ?_
  try simp only[h5,h7,A,B,C,E,F,J]
  refine B3 V ?_
  try simp only[h5,h7,A,B,C,E,F,J]
  cases h
  trivial
theorem F4q:A5 X 6=H (cc142.strip,[4,5,6],27):=by kernel_rfl
theorem A91(a0:X8)(a1:O)(r:O × O × P)(h:S8 a0 a1=H r):FC X 6 [.ag (X8.row a0),.sc (.int .i64 a1)] [.sc (.v (.int .i64 r.1)),.sc (.v (.int .i64 r.2.1)),.sc (.v (.bool r.2.2))]:=by
 unfold S8 at h
 refine C3 mixed F4q V ?_
 simp only[cc142,A,B,C,E,F,J]
 try simp only[A,B,C,E,F,J]
 refine B2 V V V ?_
 obtain⟨r1,h1,h⟩:=ob h
 try simp only[A,B,C,E,F,J]
 refine A2 (P2 _ _ h1) V V (uf V) ?_
 rcases ic h with ⟨h2,h⟩|⟨h2,h⟩
 ·obtain⟨r3,h3,h⟩:=ob h
  try simp only[h2,A,B,C,E,F,J]
  refine A2 (O5 _ _ h3) V V (uf V) ?_
  try simp only[h2,A,B,C,E,F,J]
  refine E3o _ _ _ _ h _ ?_
  try simp only[h2,A,B,C,E,F,J,Y]
 ·try simp only[h2,A,B,C,E,F,J]
  refine E3o _ _ _ _ h _ ?_
  try simp only[h2,A,B,C,E,F,J,Y]
/- 80:impl_IsName -/
def B4y:X2:= .seq (.reg [(L,.keep [0,3,4] [] [])]) (.seq (.reg [mv 25 4,nt 26 25,mv 27 26,(H (27,T),.mv 28 (S 3)),(H (27,T),.bin 29 .eql (S 28) (K 0)),(H (27,T),.mv 30 (S 29)),(H (30,G),.mv 31 (S 0)),(H (30,G),.mv 32 (S 3)),(H (30,G),.idx 33 (S 31) (S 32)),(H (30,G),.bin 34 .lss (S 33) (K8 48)),(H (27,T),.pick 35 (S 30) (KB T) (S 34)),(H (27,T),.mv 36 (S 35)),(H (36,G),.mv 37 (S 0)),(H (36,G),.mv 38 (S 3)),(H (36,G),.idx 39 (S 37) (S 38)),(H (36,G),.bin 40 .gtr (S 39) (K8 57)),(H (27,T),.pick 41 (S 36) (KB T) (S 40)),pa 42 27 41]) (.cond (S 42) (.seq (.reg [(L,.mv 2 (KB G))]) .ret) .skip))
def C6p:X2:= .seq (.reg [(L,.keep [0,3] [] [])]) (.reg [mv 13 3,(L,.bin 14 .add (S 13) (K 1)),mv 3 14])
def B1e:X2:= .seq (.reg [(L,.keep [0,3] [] [])]) (.seq (.seq (.reg [mv 9 3,mv 10 0,(L,.slen 11 (S 10)),bn 12 .lss 9 11]) (.cond (S 12) .skip (.exit 0))) (.seq (.block 1 (.seq (.reg [mv 15 0,mv 16 3,(L,.idx 17 (S 15) (S 16)),(L,.bin 18 .geq (S 17) (K8 97)),mv 19 18,(H (19,T),.mv 20 (S 0)),(H (19,T),.mv 21 (S 3)),(H (19,T),.idx 22 (S 20) (S 21)),(H (19,T),.bin 23 .leq (S 22) (K8 122)),pa 24 19 23,mv 4 24]) B4y)) C6p))
def B4c:X2:=(.seq (.reg [(L,.mv 2 (KB T))]) .ret)
def cc149:X2:=(.seq (.reg [(L,.mv 2 (KB G))]) (.seq (.seq (.reg [mv 5 0,(L,.slen 6 (S 5)),ca 7 31 [S 6,K 1,K 8],nt 8 7]) (.cond (S 8) (.seq (.reg [(L,.mv 2 (KB G))]) .ret) .skip)) (.seq (.seq (.reg [(L,.mv 3 (K 0))]) (.block 0 (.loop B1e))) B4c)))
theorem E2l(a0:N U)(v3:O)(M1:O→Option P)(A6m:∀(v3:O) zr,M1 v3=H zr→∀σ:St,σ.kept [0,3] [] []=⟨[(0,vc (aS a0)),(3,vc (aI v3))],[],[]⟩→go X (.code (.loop B1e):: [.blk 0,.code B4c]) (Ret [2] [.sc (.v (.bool zr))]) .normal (H σ))(r:P)(h:A5g a0 v3 M1=H r)(σ:St)(hσ:σ.kept [0,3] [] []=⟨[(0,vc (aS a0)),(3,vc (aI v3))],[],[]⟩):go X (.code C6p:: [.code (.loop B1e),.blk 0,.code B4c]) (Ret [2] [.sc (.v (.bool r))]) .normal (H σ):=by
 unfold A5g at h
 try simp only[hσ,C6p,A,B,C,E,F,J]
 refine A6m _ _ h _ ?_
 try simp only[A,B,C,E,F,J,Y]
theorem E3f(a0:N U)(v3:O)(M1:O→Option P)(A6m:∀(v3:O) zr,M1 v3=H zr→∀σ:St,σ.kept [0,3] [] []=⟨[(0,vc (aS a0)),(3,vc (aI v3))],[],[]⟩→go X (.code (.loop B1e):: [.blk 0,.code B4c]) (Ret [2] [.sc (.v (.bool zr))]) .normal (H σ))(v7 r:P)(h:A5f a0 v3 M1 v7=H r)(σ:St)(hσ:σ.kept [0,3,4] [] []=⟨[(0,vc (aS a0)),(3,vc (aI v3)),(4,vc (aB v7))],[],[]⟩):go X (.code B4y:: [.blk 1,.code C6p,.code (.loop B1e),.blk 0,.code B4c]) (Ret [2] [.sc (.v (.bool r))]) .normal (H σ):=by
 unfold A5f at h
 rcases ic h with ⟨h8,h⟩|⟨h8,h⟩
 ·try simp only[hσ,h8,B4y,A,B,C,E,F,J]
  refine E2l _ _ M1 A6m _ h _ ?_
  try simp only[h8,A,B,C,E,F,J,Y]
 ·rcases ic h with ⟨h9,h⟩|⟨h9,h⟩
  ·try simp only[hσ,h8,h9,B4y,A,B,C,E,F,J]
   cases h
   trivial
  ·obtain⟨b10,h10,h⟩:=ob h
   rcases ic h with ⟨h11,h⟩|⟨h11,h⟩
   ·try simp only[hσ,h8,h9,h10,h11,B4y,A,B,C,E,F,J]
    cases h
    trivial
   ·rcases ic h with ⟨h12,h⟩|⟨h12,h⟩
    ·try simp only[hσ,h8,h9,h10,h11,h12,B4y,A,B,C,E,F,J]
     cases h
     trivial
    ·try simp only[hσ,h8,h9,h10,h11,h12,B4y,A,B,C,E,F,J]
     refine E2l _ _ M1 A6m _ h _ ?_
     try simp only[h8,h9,h10,h11,h12,A,B,C,E,F,J,Y]
theorem F35(a0:N U):∀(n:Q) (v3:O) (r:P),Q8 a0 n v3=H r→∀σ:St,σ.kept [0,3] [] []=⟨[(0,vc (aS a0)),(3,vc (aI v3))],[],[]⟩→go X (.code (.loop B1e):: [.blk 0,.code B4c]) (Ret [2] [.sc (.v (.bool r))]) .normal (H σ):=by
 intro n
 induction n with
 | zero=>intro _ r h; cases h
 | succ n ih=>
  intro v3 r h σ hσ
  rw[Q8] at h
  refine B5 ?_
  rcases ic h with ⟨h4,h⟩|⟨h4,h⟩
  ·obtain⟨b5,h5,h⟩:=ob h
   rcases ic h with ⟨h6,h⟩|⟨h6,h⟩
   ·try simp only[hσ,h4,h5,h6,B1e,A,B,C,E,F,J]
    refine E3f _ _ (Q8 a0 n) ih _ _ h _ ?_
    try simp only[h4,h5,h6,A,B,C,E,F,J,Y]
   ·try simp only[hσ,h4,h5,h6,B1e,A,B,C,E,F,J]
    refine E3f _ _ (Q8 a0 n) ih _ _ h _ ?_
    try simp only[h4,h5,h6,A,B,C,E,F,J,Y]
  ·try simp only[hσ,h4,B1e,B4c,A,B,C,E,F,J]
   cases h
   trivial
theorem F9c:A5 X 80=H (cc149.strip,[2],43):=by kernel_rfl
theorem B45(a0:N U)(r:P)(h:A42 a0=H r):FC X 80 [.sc (.str a0)] [.sc (.v (.bool r))]:=by
 unfold A42 at h
 refine C3 mixed F9c V ?_
 simp only[cc149,A,B,C,E,F,J]
 obtain⟨r1,h1,h⟩:=ob h
 try simp only[A,B,C,E,F,J]
 refine A2 (F8 _ _ _ _ h1) V V (uf V) ?_
 rcases ic h with ⟨h2,h⟩|⟨h2,h⟩
 ·try simp only[h2,A,B,C,E,F,J]
  refine F35 _ _ _ _ h _ ?_
  try simp only[h2,A,B,C,E,F,J,Y]
 ·try simp only[h2,A,B,C,E,F,J]
  cases h
  trivial
/- 81:impl_PointNamed -/
def C5q:X2:= .seq (.reg [(L,.keep [1,8,9,10] [] [])]) (.seq (.reg [bn 11 .lss 10 9]) (.seq (.cond (S 11) .skip (.exit 0)) (.seq (.block 1 (.seq (.reg [mv 12 10,ia 13 8 10 2,lw 14 13 2,(L,.alloc 6 [aS [],aB G]),mv 5 12,so 6 14 2]) (.seq (.reg [fa 15 6 0,ld 16 15,mv 17 1,bn 18 .eql 16 17]) (.cond (S 18) (.seq (.reg [mv 19 5,mv 4 19]) .ret) .skip)))) (.reg [(L,.bin 20 .add (S 10) (K 1)),mv 10 20]))))
def D26:X2:=(.seq (.reg [(L,.mv 4 (K (-1)))]) .ret)
def cc156:X2:=(.seq (.reg [bo 2 0,(L,.mv 4 (K 0))]) (.seq (.seq (.reg [fa 7 2 0,ld 8 7,ln 9 8,(L,.mv 10 (K 0))]) (.block 0 (.loop C5q))) D26))
theorem F2z(a1:N U)(a0:X9):∀(n:Q) (v1 r:O),U3 a1 a0 n v1=H r→∀σ:St,σ.kept [1,8,9,10] [] []=⟨[(1,vc (aS a1)),(8,vc (aL (W zA a0.Points))),(9,vc (aI (a0.Points.length:O))),(10,vc (aI v1))],[],[]⟩→go X (.code (.loop C5q):: [.blk 0,.code D26]) (Ret [4] [.sc (.v (.int .i64 r))]) .normal (H σ):=by
 intro n
 induction n with
 | zero=>intro _ r h; cases h
 | succ n ih=>
  intro v1 r h σ hσ
  rw[U3] at h
  refine B5 ?_
  rcases ic h with ⟨h2,h⟩|⟨h2,h⟩
  ·obtain⟨x3,h3,h⟩:=ob h
   try simp only[hσ,h2,h3,C5q,A,B,C,E,F,J]
   refine B7 V V ?_
   rcases ic h with ⟨h4,h⟩|⟨h4,h⟩
   ·try simp only[h2,h3,h4,A,B,C,E,F,J]
    cases h
    trivial
   ·try simp only[h2,h3,h4,A,B,C,E,F,J]
    refine ih _ _ h _ ?_
    try simp only[h2,h3,h4,A,B,C,E,F,J,Y]
  ·try simp only[hσ,h2,C5q,D26,A,B,C,E,F,J]
   cases h
   trivial
theorem F29:A5 X 81=H (cc156.strip,[4],21):=by kernel_rfl
theorem B75(a0:X9)(a1:N U)(r:O)(h:A3c a0 a1=H r):FC X 81 [.ag (X9.row a0),.sc (.str a1)] [.sc (.v (.int .i64 r))]:=by
 unfold A3c at h
 refine C3 mixed F29 V ?_
 simp only[cc156,A,B,C,E,F,J]
 try simp only[A,B,C,E,F,J]
 refine B2 V V V ?_
 try simp only[A,B,C,E,F,J]
 refine F2z _ _ _ _ _ h _ ?_
 try simp only[A,B,C,E,F,J,Y]
/- 50:impl_isIndex -/
def cc159:X2:=(.seq (.reg [(L,.mv 4 (KB G))]) (.seq (.reg [mv 5 0,(L,.bin 6 .geq (S 5) (K 0)),mv 7 6,(H (7,T),.mv 8 (S 0)),(H (7,T),.mv 9 (S 1)),(H (7,T),.bin 10 .lss (S 8) (S 9)),pa 11 7 10,mv 4 11]) .ret))
theorem F2g:A5 X 50=H (cc159.strip,[4],12):=by kernel_rfl
theorem E9(a0 a1:O)(r:P)(h:D9 a0 a1=H r):FC X 50 [.sc (.int .i64 a0),.sc (.int .i64 a1)] [.sc (.v (.bool r))]:=by
 unfold D9 at h
 refine C3 mixed F2g V ?_
 simp only[cc159,A,B,C,E,F,J]
 rcases ic h with ⟨h1,h⟩|⟨h1,h⟩
 ·try simp only[h1,A,B,C,E,F,J]
  cases h
  trivial
 ·try simp only[h1,A,B,C,E,F,J]
  cases h
  trivial
/- 82:impl_Segment_joins -/
def cc161:X2:=(.seq (.reg [bo 3 0,(L,.mv 6 (KB G))]) (.seq (.reg [fa 7 3 0,ld 8 7,mv 9 1,bn 10 .eql 8 9,mv 11 10,(H (11,T),.faddr 12 (S 3) 1),(H (11,T),.load 13 (S 12) G 1),(H (11,T),.mv 14 (S 2)),(H (11,T),.bin 15 .eql (S 13) (S 14)),pa 16 11 15,mv 17 16,(H (17,G),.faddr 18 (S 3) 0),(H (17,G),.load 19 (S 18) G 1),(H (17,G),.mv 20 (S 2)),(H (17,G),.bin 21 .eql (S 19) (S 20)),(H (17,G),.mv 22 (S 21)),(H (22,T),.faddr 23 (S 3) 1),(H (22,T),.load 24 (S 23) G 1),(H (22,T),.mv 25 (S 1)),(H (22,T),.bin 26 .eql (S 24) (S 25)),(H (17,G),.pick 27 (S 22) (S 26) (KB G)),po 28 17 27,mv 6 28]) .ret))
theorem F6n:A5 X 82=H (cc161.strip,[6],29):=by kernel_rfl
theorem B4v(a0:X3)(a1 a2:O)(r:P)(h:A1a a0 a1 a2=H r):FC X 82 [.ag (X3.row a0),.sc (.int .i64 a1),.sc (.int .i64 a2)] [.sc (.v (.bool r))]:=by
 unfold A1a at h
 refine C3 mixed F6n V ?_
 simp only[cc161,A,B,C,E,F,J]
 try simp only[A,B,C,E,F,J]
 refine B2 V V V ?_
 rcases ic h with ⟨h1,h⟩|⟨h1,h⟩
 ·rcases ic h with ⟨h2,h⟩|⟨h2,h⟩
  ·try simp only[h1,h2,A,B,C,E,F,J]
   cases h
   trivial
  ·rcases ic h with ⟨h3,h⟩|⟨h3,h⟩
   ·try simp only[h1,h2,h3,A,B,C,E,F,J]
    cases h
    trivial
   ·try simp only[h1,h2,h3,A,B,C,E,F,J]
    cases h
    trivial
 ·rcases ic h with ⟨h4,h⟩|⟨h4,h⟩
  ·try simp only[h1,h4,A,B,C,E,F,J]
   cases h
   trivial
  ·try simp only[h1,h4,A,B,C,E,F,J]
   cases h
   trivial
/- 53:impl_ChartOk -/
def C53:X2:= .seq (.reg [(L,.keep [1,20,21,22] [1] [])]) (.seq (.reg [bn 23 .lss 22 21]) (.seq (.cond (S 23) .skip (.exit 0)) (.seq (.block 1 (.seq (.reg [mv 24 22,ia 25 20 22 2,lw 26 25 2,(L,.alloc 4 [aS [],aB G]),mv 3 24,so 4 26 2]) (.seq (.reg [fa 27 4 0,ld 28 27,ca 29 80 [S 28],nt 30 29,mv 31 30,(H (31,G),.load 32 (S 1) T 2),(H (31,G),.faddr 33 (S 4) 0),(H (31,G),.load 34 (S 33) G 1),(H (31,G),.call 35 81 [(S 32),(S 34)]),(H (31,G),.mv 36 (S 3)),(H (31,G),.bin 37 .neq (S 35) (S 36)),po 38 31 37]) (.cond (S 38) (.seq (.reg [(L,.mv 2 (KB G))]) .ret) .skip)))) (.reg [(L,.bin 39 .add (S 22) (K 1)),mv 22 39]))))
def C61:X2:= .seq (.reg [(L,.keep [1,6,41,42,43,86,87,88] [1,6] [])]) (.seq (.reg [bn 89 .lss 88 87]) (.seq (.cond (S 89) .skip (.exit 4)) (.seq (.block 5 (.seq (.reg [ia 90 86 88 5,lw 91 90 5,(L,.alloc 8 [aI 0,aI 0,aI 0,aI 0,aB G]),so 8 91 5]) (.seq (.reg [lw 92 8 5,fa 93 6 0,ld 94 93,fa 95 6 1,ld 96 95,ca 97 82 [S 92,S 94,S 96]]) (.cond (S 97) (.seq (.reg [(L,.mv 2 (KB G))]) .ret) .skip)))) (.reg [(L,.bin 98 .add (S 88) (K 1)),mv 88 98]))))
def D5k:X2:=(.reg [(L,.bin 99 .add (S 43) (K 1)),mv 43 99])
def B7m:X2:= .seq (.reg [(L,.keep [1,41,42,43] [1] [])]) (.seq (.reg [bn 44 .lss 43 42]) (.seq (.cond (S 44) .skip (.exit 2)) (.seq (.block 3 (.seq (.reg [mv 45 43,ia 46 41 43 5,lw 47 46 5,(L,.alloc 6 [aI 0,aI 0,aI 0,aI 0,aB G]),mv 5 45,so 6 47 5]) (.seq (.seq (.reg [fa 48 6 0,ld 49 48,fa 50 1 0,ld 51 50,ln 52 51,ca 53 50 [S 49,S 52],nt 54 53,mv 55 54,(H (55,G),.faddr 56 (S 6) 1),(H (55,G),.load 57 (S 56) G 1),(H (55,G),.faddr 58 (S 1) 0),(H (55,G),.load 59 (S 58) G 1),(H (55,G),.len 60 (S 59)),(H (55,G),.call 61 50 [(S 57),(S 60)]),(H (55,G),.un 62 .not (S 61)),po 63 55 62,mv 64 63,(H (64,G),.faddr 65 (S 6) 0),(H (64,G),.load 66 (S 65) G 1),(H (64,G),.faddr 67 (S 6) 1),(H (64,G),.load 68 (S 67) G 1),(H (64,G),.bin 69 .eql (S 66) (S 68)),po 70 64 69,mv 71 70,(H (71,G),.faddr 72 (S 6) 2),(H (71,G),.load 73 (S 72) G 1),(H (71,G),.call 74 31 [(S 73),(K 0),(K 3000)]),(H (71,G),.un 75 .not (S 74)),po 76 71 75,mv 77 76,(H (77,G),.faddr 78 (S 6) 3),(H (77,G),.load 79 (S 78) G 1),(H (77,G),.call 80 31 [(S 79),(K 1),(K 240)]),(H (77,G),.un 81 .not (S 80)),po 82 77 81]) (.cond (S 82) (.seq (.reg [(L,.mv 2 (KB G))]) .ret) .skip)) (.seq (.reg [fa 83 1 1,ld 84 83,mv 85 5,(L,.slc 86 5 (S 84) L (H (S 85)) L),ln 87 86,(L,.mv 88 (K 0))]) (.block 4 (.loop C61)))))) D5k)))
def C1k:X2:=(.seq (.reg [(L,.mv 2 (KB T))]) .ret)
def D32:X2:=(.seq (.seq (.reg [fa 40 1 1,ld 41 40,ln 42 41,(L,.mv 43 (K 0))]) (.block 2 (.loop B7m))) C1k)
def cc169:X2:=(.seq (.reg [bo 1 0,(L,.mv 2 (KB G))]) (.seq (.seq (.reg [fa 9 1 0,ld 10 9,ln 11 10,(L,.bin 12 .gtr (S 11) (K 8)),mv 13 12,(H (13,G),.faddr 14 (S 1) 1),(H (13,G),.load 15 (S 14) G 1),(H (13,G),.len 16 (S 15)),(H (13,G),.bin 17 .gtr (S 16) (K 10)),po 18 13 17]) (.cond (S 18) (.seq (.reg [(L,.mv 2 (KB G))]) .ret) .skip)) (.seq (.seq (.reg [fa 19 1 0,ld 20 19,ln 21 20,(L,.mv 22 (K 0))]) (.block 0 (.loop C53))) D32)))
theorem F2l(a0:X9)(v11:O)(x13:X3)(y24:N X3)(y25:O)(A4k:O→Option P)(B77:∀(v11:O) zr,A4k v11=H zr→∀σ:St,σ.kept [1,41,42,43] [1] []=⟨[(1,vc (.pb 1 0)),(41,vc (aL (W X3.row a0.Segments))),(42,vc (aI (a0.Segments.length:O))),(43,vc (aI v11))],[(1,(dm a0.row))],[]⟩→go X (.code (.loop B7m):: [.blk 2,.code C1k]) (Ret [2] [.sc (.v (.bool zr))]) .normal (H σ)):∀(n:Q) (v26:O) (r:P),A0m a0 v11 x13 y24 y25 A4k n v26=H r→∀σ:St,σ.kept [1,6,41,42,43,86,87,88] [1,6] []=⟨[(1,vc (.pb 1 0)),(6,vc (.pb 6 0)),(41,vc (aL (W X3.row a0.Segments))),(42,vc (aI (a0.Segments.length:O))),(43,vc (aI v11)),(86,vc (aL (W X3.row y24))),(87,vc (aI y25)),(88,vc (aI v26))],[(1,(dm a0.row)),(6,(dm x13.row))],[]⟩→go X (.code (.loop C61):: [.blk 4,.blk 3,.code D5k,.code (.loop B7m),.blk 2,.code C1k]) (Ret [2] [.sc (.v (.bool r))]) .normal (H σ):=by
 intro n
 induction n with
 | zero=>intro _ r h; cases h
 | succ n ih=>
  intro v26 r h σ hσ
  rw[A0m] at h
  refine B5 ?_
  rcases ic h with ⟨h27,h⟩|⟨h27,h⟩
  ·obtain⟨x28,h28,h⟩:=ob h
   try simp only[hσ,h27,h28,C61,A,B,C,E,F,J]
   refine B7 V V ?_
   obtain⟨r29,h29,h⟩:=ob h
   try simp only[h27,h28,A,B,C,E,F,J]
   refine A2 (B4v _ _ _ _ h29) V V (uf V) ?_
   rcases ic h with ⟨h30,h⟩|⟨h30,h⟩
   ·try simp only[h27,h28,h30,A,B,C,E,F,J]
    cases h
    trivial
   ·try simp only[h27,h28,h30,A,B,C,E,F,J]
    refine ih _ _ h _ ?_
    try simp only[h27,h28,h30,A,B,C,E,F,J,Y]
  ·try simp only[hσ,h27,C61,D5k,A,B,C,E,F,J]
   refine B77 _ _ h _ ?_
   try simp only[h27,A,B,C,E,F,J,Y]
theorem F2j(a0:X9):∀(n:Q) (v11:O) (r:P),M3 a0 n v11=H r→∀σ:St,σ.kept [1,41,42,43] [1] []=⟨[(1,vc (.pb 1 0)),(41,vc (aL (W X3.row a0.Segments))),(42,vc (aI (a0.Segments.length:O))),(43,vc (aI v11))],[(1,(dm a0.row))],[]⟩→go X (.code (.loop B7m):: [.blk 2,.code C1k]) (Ret [2] [.sc (.v (.bool r))]) .normal (H σ):=by
 intro n
 induction n with
 | zero=>intro _ r h; cases h
 | succ n ih=>
  intro v11 r h σ hσ
  rw[M3] at h
  refine B5 ?_
  rcases ic h with ⟨h12,h⟩|⟨h12,h⟩
  ·obtain⟨x13,h13,h⟩:=ob h
   try simp only[hσ,h12,h13,B7m,A,B,C,E,F,J]
   refine B7 V V ?_
   obtain⟨r14,h14,h⟩:=ob h
   try simp only[h12,h13,A,B,C,E,F,J]
   refine A2 (E9 _ _ _ h14) V V (uf V) ?_
   rcases ic h with ⟨h15,h⟩|⟨h15,h⟩
   ·obtain⟨r16,h16,h⟩:=ob h
    try simp only[h12,h13,h15,A,B,C,E,F,J]
    refine A2 (E9 _ _ _ h16) V V (uf V) ?_
    rcases ic h with ⟨h17,h⟩|⟨h17,h⟩
    ·rcases ic h with ⟨h18,h⟩|⟨h18,h⟩
     ·try simp only[h12,h13,h15,h17,h18,A,B,C,E,F,J]
      cases h
      trivial
     ·obtain⟨r19,h19,h⟩:=ob h
      try simp only[h12,h13,h15,h17,h18,A,B,C,E,F,J]
      refine A2 (F8 _ _ _ _ h19) V V (uf V) ?_
      rcases ic h with ⟨h20,h⟩|⟨h20,h⟩
      ·obtain⟨r21,h21,h⟩:=ob h
       try simp only[h12,h13,h15,h17,h18,h20,A,B,C,E,F,J]
       refine A2 (F8 _ _ _ _ h21) V V (uf V) ?_
       rcases ic h with ⟨h22,h⟩|⟨h22,h⟩
       ·obtain⟨p23,h23,h⟩:=ob h
        try simp only[h12,h13,h15,h17,h18,h20,h22,h23,A,B,C,E,F,J]
        refine F2l _ _ _ _ _ (M3 a0 n) ih _ _ _ h _ ?_
        try simp only[h12,h13,h15,h17,h18,h20,h22,h23,A,B,C,E,F,J,Y]
       ·try simp only[h12,h13,h15,h17,h18,h20,h22,A,B,C,E,F,J]
        cases h
        trivial
      ·try simp only[h12,h13,h15,h17,h18,h20,A,B,C,E,F,J]
       cases h
       trivial
    ·try simp only[h12,h13,h15,h17,A,B,C,E,F,J]
     cases h
     trivial
   ·try simp only[h12,h13,h15,A,B,C,E,F,J]
    cases h
    trivial
  ·try simp only[hσ,h12,B7m,C1k,A,B,C,E,F,J]
   cases h
   trivial
theorem F2e(a0:X9):∀(n:Q) (v3:O) (r:P),A0f a0 n v3=H r→∀σ:St,σ.kept [1,20,21,22] [1] []=⟨[(1,vc (.pb 1 0)),(20,vc (aL (W zA a0.Points))),(21,vc (aI (a0.Points.length:O))),(22,vc (aI v3))],[(1,(dm a0.row))],[]⟩→go X (.code (.loop C53):: [.blk 0,.code D32]) (Ret [2] [.sc (.v (.bool r))]) .normal (H σ):=by
 intro n
 induction n with
 | zero=>intro _ r h; cases h
 | succ n ih=>
  intro v3 r h σ hσ
  rw[A0f] at h
  refine B5 ?_
  rcases ic h with ⟨h4,h⟩|⟨h4,h⟩
  ·obtain⟨x5,h5,h⟩:=ob h
   try simp only[hσ,h4,h5,C53,A,B,C,E,F,J]
   refine B7 V V ?_
   obtain⟨r6,h6,h⟩:=ob h
   try simp only[h4,h5,A,B,C,E,F,J]
   refine A2 (B45 _ _ h6) V V (uf V) ?_
   rcases ic h with ⟨h7,h⟩|⟨h7,h⟩
   ·obtain⟨r9,h9,h⟩:=ob h
    try simp only[h4,h5,h7,A,B,C,E,F,J]
    refine A2 (B75 _ _ _ h9) V V (uf V) ?_
    rcases ic h with ⟨h10,h⟩|⟨h10,h⟩
    ·try simp only[h4,h5,h7,h10,A,B,C,E,F,J]
     cases h
     trivial
    ·try simp only[h4,h5,h7,h10,A,B,C,E,F,J]
     refine ih _ _ h _ ?_
     try simp only[h4,h5,h7,h10,A,B,C,E,F,J,Y]
   ·try simp only[h4,h5,h7,A,B,C,E,F,J]
    cases h
    trivial
  ·try simp only[hσ,h4,C53,D32,A,B,C,E,F,J]
   refine F2j _ _ _ _ h _ ?_
   try simp only[h4,A,B,C,E,F,J,Y]
theorem F8l:A5 X 53=H (cc169.strip,[2],100):=by kernel_rfl
theorem A0v(a0:X9)(r:P)(h:N8 a0=H r):FC X 53 [.ag (X9.row a0)] [.sc (.v (.bool r))]:=by
 unfold N8 at h
 refine C3 mixed F8l V ?_
 simp only[cc169,A,B,C,E,F,J]
 try simp only[A,B,C,E,F,J]
 refine B2 V V V ?_
 rcases ic h with ⟨h1,h⟩|⟨h1,h⟩
 ·try simp only[h1,A,B,C,E,F,J]
  cases h
  trivial
 ·rcases ic h with ⟨h2,h⟩|⟨h2,h⟩
  ·try simp only[h1,h2,A,B,C,E,F,J]
   cases h
   trivial
  ·try simp only[h1,h2,A,B,C,E,F,J]
   refine F2e _ _ _ _ h _ ?_
   try simp only[h1,h2,A,B,C,E,F,J,Y]
/- 83:impl_ShipOk -/
def cc174:X2:=(.seq (.reg [bo 1 0,(L,.mv 2 (KB G))]) (.seq (.reg [fa 3 1 0,ld 4 3,ca 5 80 [S 4],mv 6 5,(H (6,T),.faddr 7 (S 1) 1),(H (6,T),.load 8 (S 7) G 1),(H (6,T),.call 9 31 [(S 8),(K 10),(K 400)]),pa 10 6 9,mv 11 10,(H (11,T),.faddr 12 (S 1) 2),(H (11,T),.load 13 (S 12) G 1),(H (11,T),.call 14 31 [(S 13),(K 100),(K 2000)]),pa 15 11 14,mv 16 15,(H (16,T),.faddr 17 (S 1) 3),(H (16,T),.load 18 (S 17) G 1),(H (16,T),.call 19 50 [(S 18),(K 4)]),pa 20 16 19,mv 21 20,(H (21,T),.faddr 22 (S 1) 4),(H (21,T),.load 23 (S 22) G 1),(H (21,T),.call 24 31 [(S 23),(K 0),(K 4)]),pa 25 21 24,mv 2 25]) .ret))
theorem F6v:A5 X 83=H (cc174.strip,[2],26):=by kernel_rfl
theorem A4z(a0:Xc)(r:P)(h:Y1 a0=H r):FC X 83 [.ag (zB a0)] [.sc (.v (.bool r))]:=by
 unfold Y1 at h
 refine C3 mixed F6v V ?_
 simp only[cc174,A,B,C,E,F,J]
 try simp only[A,B,C,E,F,J]
 refine B2 V V V ?_
 obtain⟨r1,h1,h⟩:=ob h
 try simp only[A,B,C,E,F,J]
 refine A2 (B45 _ _ h1) V V (uf V) ?_
 rcases ic h with ⟨h2,h⟩|⟨h2,h⟩
 ·obtain⟨r3,h3,h⟩:=ob h
  try simp only[h2,A,B,C,E,F,J]
  refine A2 (F8 _ _ _ _ h3) V V (uf V) ?_
  rcases ic h with ⟨h4,h⟩|⟨h4,h⟩
  ·obtain⟨r5,h5,h⟩:=ob h
   try simp only[h2,h4,A,B,C,E,F,J]
   refine A2 (F8 _ _ _ _ h5) V V (uf V) ?_
   rcases ic h with ⟨h6,h⟩|⟨h6,h⟩
   ·obtain⟨r7,h7,h⟩:=ob h
    try simp only[h2,h4,h6,A,B,C,E,F,J]
    refine A2 (E9 _ _ _ h7) V V (uf V) ?_
    rcases ic h with ⟨h8,h⟩|⟨h8,h⟩
    ·obtain⟨r9,h9,h⟩:=ob h
     try simp only[h2,h4,h6,h8,A,B,C,E,F,J]
     refine A2 (F8 _ _ _ _ h9) V V (uf V) ?_
     try simp only[h2,h4,h6,h8,A,B,C,E,F,J]
     cases h
     trivial
    ·try simp only[h2,h4,h6,h8,A,B,C,E,F,J]
     cases h
     trivial
   ·try simp only[h2,h4,h6,A,B,C,E,F,J]
    cases h
    trivial
  ·try simp only[h2,h4,A,B,C,E,F,J]
   cases h
   trivial
 ·try simp only[h2,A,B,C,E,F,J]
  cases h
  trivial
/- 84:impl_ShipNamed -/
def C57:X2:= .seq (.reg [(L,.keep [1,7,8,9] [] [])]) (.seq (.reg [bn 10 .lss 9 8]) (.seq (.cond (S 10) .skip (.exit 0)) (.seq (.block 1 (.seq (.reg [mv 11 9,ia 12 7 9 6,lw 13 12 6,(L,.alloc 6 [aS [],aI 0,aI 0,aI 0,aI 0,aB G]),mv 5 11,so 6 13 6]) (.seq (.reg [fa 14 6 0,ld 15 14,mv 16 1,bn 17 .eql 15 16]) (.cond (S 17) (.seq (.reg [mv 18 5,mv 4 18]) .ret) .skip)))) (.reg [(L,.bin 19 .add (S 9) (K 1)),mv 9 19]))))
def D1u:X2:=(.seq (.reg [(L,.mv 4 (K (-1)))]) .ret)
def cc178:X2:=(.seq (.reg [(L,.mv 4 (K 0))]) (.seq (.seq (.reg [mv 7 0,ln 8 7,(L,.mv 9 (K 0))]) (.block 0 (.loop C57))) D1u))
theorem F5n(a1:N U)(a0:N Xc):∀(n:Q) (v1 r:O),V8 a1 a0 n v1=H r→∀σ:St,σ.kept [1,7,8,9] [] []=⟨[(1,vc (aS a1)),(7,vc (aL (W zB a0))),(8,vc (aI (a0.length:O))),(9,vc (aI v1))],[],[]⟩→go X (.code (.loop C57):: [.blk 0,.code D1u]) (Ret [4] [.sc (.v (.int .i64 r))]) .normal (H σ):=by
 intro n
 induction n with
 | zero=>intro _ r h; cases h
 | succ n ih=>
  intro v1 r h σ hσ
  rw[V8] at h
  refine B5 ?_
  rcases ic h with ⟨h2,h⟩|⟨h2,h⟩
  ·obtain⟨x3,h3,h⟩:=ob h
   try simp only[hσ,h2,h3,C57,A,B,C,E,F,J]
   refine B7 V V ?_
   rcases ic h with ⟨h4,h⟩|⟨h4,h⟩
   ·try simp only[h2,h3,h4,A,B,C,E,F,J]
    cases h
    trivial
   ·try simp only[h2,h3,h4,A,B,C,E,F,J]
    refine ih _ _ h _ ?_
    try simp only[h2,h3,h4,A,B,C,E,F,J,Y]
  ·try simp only[hσ,h2,C57,D1u,A,B,C,E,F,J]
   cases h
   trivial
theorem F9e:A5 X 84=H (cc178.strip,[4],20):=by kernel_rfl
theorem B85(a0:N Xc)(a1:N U)(r:O)(h:A35 a0 a1=H r):FC X 84 [.sc (.sl (W zB a0)),.sc (.str a1)] [.sc (.v (.int .i64 r))]:=by
 unfold A35 at h
 refine C3 mixed F9e V ?_
 simp only[cc178,A,B,C,E,F,J]
 try simp only[A,B,C,E,F,J]
 refine F5n _ _ _ _ _ h _ ?_
 try simp only[A,B,C,E,F,J,Y]
/- 54:impl_FleetOk -/
def C5j:X2:= .seq (.reg [(L,.keep [0,8,9,10] [] [])]) (.seq (.reg [bn 11 .lss 10 9]) (.seq (.cond (S 11) .skip (.exit 0)) (.seq (.block 1 (.seq (.reg [mv 12 10,ia 13 8 10 6,lw 14 13 6,(L,.alloc 4 [aS [],aI 0,aI 0,aI 0,aI 0,aB G]),mv 3 12,so 4 14 6]) (.seq (.reg [lw 15 4 6,ca 16 83 [S 15],nt 17 16,mv 18 17,(H (18,G),.mv 19 (S 0)),(H (18,G),.faddr 20 (S 4) 0),(H (18,G),.load 21 (S 20) G 1),(H (18,G),.call 22 84 [(S 19),(S 21)]),(H (18,G),.mv 23 (S 3)),(H (18,G),.bin 24 .neq (S 22) (S 23)),po 25 18 24]) (.cond (S 25) (.seq (.reg [(L,.mv 2 (KB G))]) .ret) .skip)))) (.reg [(L,.bin 26 .add (S 10) (K 1)),mv 10 26]))))
def D5i:X2:=(.seq (.reg [(L,.mv 2 (KB T))]) .ret)
def cc183:X2:=(.seq (.reg [(L,.mv 2 (KB G))]) (.seq (.seq (.reg [mv 5 0,ln 6 5,(L,.bin 7 .gtr (S 6) (K 6))]) (.cond (S 7) (.seq (.reg [(L,.mv 2 (KB G))]) .ret) .skip)) (.seq (.seq (.reg [mv 8 0,ln 9 8,(L,.mv 10 (K 0))]) (.block 0 (.loop C5j))) D5i)))
theorem F2v(a0:N Xc):∀(n:Q) (v2:O) (r:P),A0k a0 n v2=H r→∀σ:St,σ.kept [0,8,9,10] [] []=⟨[(0,vc (aL (W zB a0))),(8,vc (aL (W zB a0))),(9,vc (aI (a0.length:O))),(10,vc (aI v2))],[],[]⟩→go X (.code (.loop C5j):: [.blk 0,.code D5i]) (Ret [2] [.sc (.v (.bool r))]) .normal (H σ):=by
 intro n
 induction n with
 | zero=>intro _ r h; cases h
 | succ n ih=>
  intro v2 r h σ hσ
  rw[A0k] at h
  refine B5 ?_
  rcases ic h with ⟨h3,h⟩|⟨h3,h⟩
  ·obtain⟨x4,h4,h⟩:=ob h
   try simp only[hσ,h3,h4,C5j,A,B,C,E,F,J]
   refine B7 V V ?_
   obtain⟨r5,h5,h⟩:=ob h
   try simp only[h3,h4,A,B,C,E,F,J]
   refine A2 (A4z _ _ h5) V V (uf V) ?_
   rcases ic h with ⟨h6,h⟩|⟨h6,h⟩
   ·obtain⟨r7,h7,h⟩:=ob h
    try simp only[h3,h4,h6,A,B,C,E,F,J]
    refine A2 (B85 _ _ _ h7) V V (uf V) ?_
    rcases ic h with ⟨h8,h⟩|⟨h8,h⟩
    ·try simp only[h3,h4,h6,h8,A,B,C,E,F,J]
     cases h
     trivial
    ·try simp only[h3,h4,h6,h8,A,B,C,E,F,J]
     refine ih _ _ h _ ?_
     try simp only[h3,h4,h6,h8,A,B,C,E,F,J,Y]
   ·try simp only[h3,h4,h6,A,B,C,E,F,J]
    cases h
    trivial
  ·try simp only[hσ,h3,C5j,D5i,A,B,C,E,F,J]
   cases h
   trivial
theorem G0a:A5 X 54=H (cc183.strip,[2],27):=by kernel_rfl
theorem B39(a0:N Xc)(r:P)(h:A3u a0=H r):FC X 54 [.sc (.sl (W zB a0))] [.sc (.v (.bool r))]:=by
 unfold A3u at h
 refine C3 mixed G0a V ?_
 simp only[cc183,A,B,C,E,F,J]
 rcases ic h with ⟨h1,h⟩|⟨h1,h⟩
 ·try simp only[h1,A,B,C,E,F,J]
  cases h
  trivial
 ·try simp only[h1,A,B,C,E,F,J]
  refine F2v _ _ _ _ h _ ?_
  try simp only[h1,A,B,C,E,F,J,Y]
/- 55:impl_RegimeOk -/
def cc186:X2:=(.seq (.reg [bo 1 0,(L,.mv 2 (KB G))]) (.seq (.reg [fa 3 1 0,ld 4 3,ca 5 31 [S 4,K 0,K 60],mv 2 5]) .ret))
theorem F8u:A5 X 55=H (cc186.strip,[2],6):=by kernel_rfl
theorem C0t(a0:Xm)(r:P)(h:A7g a0=H r):FC X 55 [.ag (Xm.row a0)] [.sc (.v (.bool r))]:=by
 unfold A7g at h
 refine C3 mixed F8u V ?_
 simp only[cc186,A,B,C,E,F,J]
 try simp only[A,B,C,E,F,J]
 refine B2 V V V ?_
 obtain⟨r1,h1,h⟩:=ob h
 try simp only[A,B,C,E,F,J]
 refine A2 (F8 _ _ _ _ h1) V V (uf V) ?_
 try simp only[A,B,C,E,F,J]
 cases h
 trivial
/- 85:impl_movesOk -/
def C6l:X2:= .seq (.reg [(L,.keep [8,9,10] [] [])]) (.seq (.reg [bn 11 .lss 10 9]) (.seq (.cond (S 11) .skip (.exit 0)) (.seq (.block 1 (.seq (.reg [ia 12 8 10 1,ld 13 12,mv 4 13]) (.seq (.reg [mv 14 4,ca 15 31 [S 14,K 0,K 240],nt 16 15]) (.cond (S 16) (.seq (.reg [(L,.mv 2 (KB G))]) .ret) .skip)))) (.reg [(L,.bin 17 .add (S 10) (K 1)),mv 10 17]))))
def D19:X2:=(.seq (.reg [(L,.mv 2 (KB T))]) .ret)
def cc190:X2:=(.seq (.reg [(L,.mv 2 (KB G))]) (.seq (.seq (.reg [mv 5 0,ln 6 5,(L,.bin 7 .neq (S 6) (K 64))]) (.cond (S 7) (.seq (.reg [(L,.mv 2 (KB G))]) .ret) .skip)) (.seq (.seq (.reg [mv 8 0,ln 9 8,(L,.mv 10 (K 0))]) (.block 0 (.loop C6l))) D19)))
theorem F50(a0:N O):∀(n:Q) (v2:O) (r:P),Y0 a0 n v2=H r→∀σ:St,σ.kept [8,9,10] [] []=⟨[(8,vc (aL (W rI a0))),(9,vc (aI (a0.length:O))),(10,vc (aI v2))],[],[]⟩→go X (.code (.loop C6l):: [.blk 0,.code D19]) (Ret [2] [.sc (.v (.bool r))]) .normal (H σ):=by
 intro n
 induction n with
 | zero=>intro _ r h; cases h
 | succ n ih=>
  intro v2 r h σ hσ
  rw[Y0] at h
  refine B5 ?_
  rcases ic h with ⟨h3,h⟩|⟨h3,h⟩
  ·obtain⟨x4,h4,h⟩:=ob h
   obtain⟨r5,h5,h⟩:=ob h
   try simp only[hσ,h3,h4,C6l,A,B,C,E,F,J]
   refine A2 (F8 _ _ _ _ h5) V V (uf V) ?_
   rcases ic h with ⟨h6,h⟩|⟨h6,h⟩
   ·try simp only[h3,h4,h6,A,B,C,E,F,J]
    refine ih _ _ h _ ?_
    try simp only[h3,h4,h6,A,B,C,E,F,J,Y]
   ·try simp only[h3,h4,h6,A,B,C,E,F,J]
    cases h
    trivial
  ·try simp only[hσ,h3,C6l,D19,A,B,C,E,F,J]
   cases h
   trivial
theorem F4g:A5 X 85=H (cc190.strip,[2],18):=by kernel_rfl
theorem A9x(a0:N O)(r:P)(h:A0u a0=H r):FC X 85 [.sc (.sl (W rI a0))] [.sc (.v (.bool r))]:=by
 unfold A0u at h
 refine C3 mixed F4g V ?_
 simp only[cc190,A,B,C,E,F,J]
 rcases ic h with ⟨h1,h⟩|⟨h1,h⟩
 ·try simp only[h1,A,B,C,E,F,J]
  cases h
  trivial
 ·try simp only[h1,A,B,C,E,F,J]
  refine F50 _ _ _ _ h _ ?_
  try simp only[h1,A,B,C,E,F,J,Y]
/- 56:impl_CrewOk -/
def cc193:X2:=(.seq (.reg [bo 1 0,(L,.mv 2 (KB G))]) (.seq (.reg [fa 3 1 0,ld 4 3,ca 5 31 [S 4,K 0,K 12],mv 6 5,(H (6,T),.faddr 7 (S 1) 1),(H (6,T),.load 8 (S 7) G 1),(H (6,T),.call 9 31 [(S 8),(K 0),(K 12)]),pa 10 6 9,mv 11 10,(H (11,T),.faddr 12 (S 1) 2),(H (11,T),.load 13 (S 12) G 1),(H (11,T),.call 14 25 [(S 13)]),pa 15 11 14,mv 16 15,(H (16,T),.faddr 17 (S 1) 3),(H (16,T),.load 18 (S 17) G 1),(H (16,T),.call 19 85 [(S 18)]),pa 20 16 19,mv 2 20]) .ret))
theorem F8a:A5 X 56=H (cc193.strip,[2],21):=by kernel_rfl
theorem C40(a0:Xp)(r:P)(h:A6v a0=H r):FC X 56 [.ag (Xp.row a0)] [.sc (.v (.bool r))]:=by
 unfold A6v at h
 refine C3 mixed F8a V ?_
 simp only[cc193,A,B,C,E,F,J]
 try simp only[A,B,C,E,F,J]
 refine B2 V V V ?_
 obtain⟨r1,h1,h⟩:=ob h
 try simp only[A,B,C,E,F,J]
 refine A2 (F8 _ _ _ _ h1) V V (uf V) ?_
 rcases ic h with ⟨h2,h⟩|⟨h2,h⟩
 ·obtain⟨r3,h3,h⟩:=ob h
  try simp only[h2,A,B,C,E,F,J]
  refine A2 (F8 _ _ _ _ h3) V V (uf V) ?_
  rcases ic h with ⟨h4,h⟩|⟨h4,h⟩
  ·obtain⟨r5,h5,h⟩:=ob h
   try simp only[h2,h4,A,B,C,E,F,J]
   refine A2 (O5 _ _ h5) V V (uf V) ?_
   rcases ic h with ⟨h6,h⟩|⟨h6,h⟩
   ·obtain⟨r7,h7,h⟩:=ob h
    try simp only[h2,h4,h6,A,B,C,E,F,J]
    refine A2 (A9x _ _ h7) V V (uf V) ?_
    try simp only[h2,h4,h6,A,B,C,E,F,J]
    cases h
    trivial
   ·try simp only[h2,h4,h6,A,B,C,E,F,J]
    cases h
    trivial
  ·try simp only[h2,h4,A,B,C,E,F,J]
   cases h
   trivial
 ·try simp only[h2,A,B,C,E,F,J]
  cases h
  trivial
/- 27:impl_HarbourOk -/
def cc195:X2:=(.seq (.reg [bo 1 0,(L,.mv 2 (KB G))]) (.seq (.reg [fa 3 1 0,lw 4 3 3,ca 5 24 [S 4],mv 6 5,(H (6,T),.faddr 7 (S 1) 3),(H (6,T),.load 8 (S 7) T 2),(H (6,T),.call 9 53 [(S 8)]),pa 10 6 9,mv 11 10,(H (11,T),.faddr 12 (S 1) 5),(H (11,T),.load 13 (S 12) G 1),(H (11,T),.call 14 54 [(S 13)]),pa 15 11 14,mv 16 15,(H (16,T),.faddr 17 (S 1) 6),(H (16,T),.load 18 (S 17) T 2),(H (16,T),.call 19 55 [(S 18)]),pa 20 16 19,mv 21 20,(H (21,T),.faddr 22 (S 1) 8),(H (21,T),.load 23 (S 22) T 4),(H (21,T),.call 24 56 [(S 23)]),pa 25 21 24,mv 2 25]) .ret))
theorem F3w:A5 X 27=H (cc195.strip,[2],26):=by kernel_rfl
theorem A6k(a0:X4)(r:P)(h:W4 a0=H r):FC X 27 [.ag (X4.row a0)] [.sc (.v (.bool r))]:=by
 unfold W4 at h
 refine C3 mixed F3w V ?_
 simp only[cc195,A,B,C,E,F,J]
 try simp only[A,B,C,E,F,J]
 refine B2 V V V ?_
 obtain⟨r1,h1,h⟩:=ob h
 try simp only[A,B,C,E,F,J]
 refine A2 (P2 _ _ h1) V V (uf V) ?_
 rcases ic h with ⟨h2,h⟩|⟨h2,h⟩
 ·obtain⟨r3,h3,h⟩:=ob h
  try simp only[h2,A,B,C,E,F,J]
  refine A2 (A0v _ _ h3) V V (uf V) ?_
  rcases ic h with ⟨h4,h⟩|⟨h4,h⟩
  ·obtain⟨r5,h5,h⟩:=ob h
   try simp only[h2,h4,A,B,C,E,F,J]
   refine A2 (B39 _ _ h5) V V (uf V) ?_
   rcases ic h with ⟨h6,h⟩|⟨h6,h⟩
   ·obtain⟨r7,h7,h⟩:=ob h
    try simp only[h2,h4,h6,A,B,C,E,F,J]
    refine A2 (C0t _ _ h7) V V (uf V) ?_
    rcases ic h with ⟨h8,h⟩|⟨h8,h⟩
    ·obtain⟨r9,h9,h⟩:=ob h
     try simp only[h2,h4,h6,h8,A,B,C,E,F,J]
     refine A2 (C40 _ _ h9) V V (uf V) ?_
     try simp only[h2,h4,h6,h8,A,B,C,E,F,J]
     cases h
     trivial
    ·try simp only[h2,h4,h6,h8,A,B,C,E,F,J]
     cases h
     trivial
   ·try simp only[h2,h4,h6,A,B,C,E,F,J]
    cases h
    trivial
  ·try simp only[h2,h4,A,B,C,E,F,J]
   cases h
   trivial
 ·try simp only[h2,A,B,C,E,F,J]
  cases h
  trivial
/- 28:impl_callOk -/
def cc197:X2:=(.seq (.reg [bo 2 0,bo 3 1,(L,.mv 4 (KB G))]) (.seq (.reg [fa 6 2 3,fa 7 6 0,ld 8 7,ln 9 8,mv 5 9]) (.seq (.reg [fa 10 3 0,ld 11 10,fa 12 2 5,ld 13 12,ln 14 13,ca 15 50 [S 11,S 14],mv 16 15,(H (16,T),.faddr 17 (S 3) 1),(H (16,T),.load 18 (S 17) G 1),(H (16,T),.mv 19 (S 5)),(H (16,T),.call 20 50 [(S 18),(S 19)]),pa 21 16 20,mv 22 21,(H (22,T),.faddr 23 (S 3) 2),(H (22,T),.load 24 (S 23) G 1),(H (22,T),.mv 25 (S 5)),(H (22,T),.call 26 50 [(S 24),(S 25)]),pa 27 22 26,mv 28 27,(H (28,T),.faddr 29 (S 3) 1),(H (28,T),.load 30 (S 29) G 1),(H (28,T),.faddr 31 (S 3) 2),(H (28,T),.load 32 (S 31) G 1),(H (28,T),.bin 33 .neq (S 30) (S 32)),pa 34 28 33,mv 35 34,(H (35,T),.faddr 36 (S 3) 3),(H (35,T),.load 37 (S 36) G 1),(H (35,T),.call 38 25 [(S 37)]),pa 39 35 38,mv 40 39,(H (40,T),.faddr 41 (S 3) 4),(H (40,T),.load 42 (S 41) G 1),(H (40,T),.faddr 43 (S 3) 3),(H (40,T),.load 44 (S 43) G 1),(H (40,T),.call 45 31 [(S 42),(S 44),(K 2880)]),pa 46 40 45,mv 4 46]) .ret)))
theorem F8o:A5 X 28=H (cc197.strip,[4],47):=by kernel_rfl
theorem B5d(a0:X4)(a1:Xa)(r:P)(h:A41 a0 a1=H r):FC X 28 [.ag (X4.row a0),.ag (I a1)] [.sc (.v (.bool r))]:=by
 unfold A41 at h
 refine C3 mixed F8o V ?_
 simp only[cc197,A,B,C,E,F,J]
 try simp only[A,B,C,E,F,J]
 refine B2 V V V ?_
 try simp only[A,B,C,E,F,J]
 refine B2 V V V ?_
 obtain⟨r1,h1,h⟩:=ob h
 try simp only[A,B,C,E,F,J]
 refine A2 (E9 _ _ _ h1) V V (uf V) ?_
 rcases ic h with ⟨h2,h⟩|⟨h2,h⟩
 ·obtain⟨r3,h3,h⟩:=ob h
  try simp only[h2,A,B,C,E,F,J]
  refine A2 (E9 _ _ _ h3) V V (uf V) ?_
  rcases ic h with ⟨h4,h⟩|⟨h4,h⟩
  ·obtain⟨r5,h5,h⟩:=ob h
   try simp only[h2,h4,A,B,C,E,F,J]
   refine A2 (E9 _ _ _ h5) V V (uf V) ?_
   rcases ic h with ⟨h6,h⟩|⟨h6,h⟩
   ·rcases ic h with ⟨h7,h⟩|⟨h7,h⟩
    ·obtain⟨r9,h9,h⟩:=ob h
     try simp only[h2,h4,h6,h7,A,B,C,E,F,J]
     refine A2 (O5 _ _ h9) V V (uf V) ?_
     rcases ic h with ⟨h10,h⟩|⟨h10,h⟩
     ·obtain⟨r11,h11,h⟩:=ob h
      try simp only[h2,h4,h6,h7,h10,A,B,C,E,F,J]
      refine A2 (F8 _ _ _ _ h11) V V (uf V) ?_
      try simp only[h2,h4,h6,h7,h10,A,B,C,E,F,J]
      cases h
      trivial
     ·try simp only[h2,h4,h6,h7,h10,A,B,C,E,F,J]
      cases h
      trivial
    ·try simp only[h2,h4,h6,h7,A,B,C,E,F,J]
     cases h
     trivial
   ·try simp only[h2,h4,h6,A,B,C,E,F,J]
    cases h
    trivial
  ·try simp only[h2,h4,A,B,C,E,F,J]
   cases h
   trivial
 ·try simp only[h2,A,B,C,E,F,J]
  cases h
  trivial
/- 7:impl_CallsOk -/
def C5k:X2:= .seq (.reg [(L,.keep [1,2,6,17,18,19,30,31,32] [2,6] [])]) (.seq (.reg [bn 33 .lss 32 31]) (.seq (.cond (S 33) .skip (.exit 2)) (.seq (.block 3 (.seq (.reg [ia 34 30 32 5,lw 35 34 5,(L,.alloc 8 [aI 0,aI 0,aI 0,aI 0,aI 0]),so 8 35 5]) (.seq (.reg [fa 36 8 0,ld 37 36,fa 38 6 0,ld 39 38,bn 40 .eql 37 39]) (.cond (S 40) (.seq (.reg [(L,.mv 4 (KB G))]) .ret) .skip)))) (.reg [(L,.bin 41 .add (S 32) (K 1)),mv 32 41]))))
def D3g:X2:=(.reg [(L,.bin 42 .add (S 19) (K 1)),mv 19 42])
def B68:X2:= .seq (.reg [(L,.keep [1,2,17,18,19] [2] [])]) (.seq (.reg [bn 20 .lss 19 18]) (.seq (.cond (S 20) .skip (.exit 0)) (.seq (.block 1 (.seq (.reg [mv 21 19,ia 22 17 19 5,lw 23 22 5,(L,.alloc 6 [aI 0,aI 0,aI 0,aI 0,aI 0]),mv 5 21,so 6 23 5]) (.seq (.seq (.reg [lw 24 2 12,lw 25 6 5,ca 26 28 [S 24,S 25],nt 27 26]) (.cond (S 27) (.seq (.reg [(L,.mv 4 (KB G))]) .ret) .skip)) (.seq (.reg [mv 28 1,mv 29 5,(L,.slc 30 5 (S 28) L (H (S 29)) L),ln 31 30,(L,.mv 32 (K 0))]) (.block 2 (.loop C5k)))))) D3g)))
def C06:X2:=(.seq (.reg [(L,.mv 4 (KB T))]) .ret)
def cc203:X2:=(.seq (.reg [bo 2 0,(L,.mv 4 (KB G))]) (.seq (.seq (.reg [lw 9 2 12,ca 10 27 [S 9],nt 11 10,mv 12 11,(H (12,G),.mv 13 (S 1)),(H (12,G),.len 14 (S 13)),(H (12,G),.bin 15 .gtr (S 14) (K 6)),po 16 12 15]) (.cond (S 16) (.seq (.reg [(L,.mv 4 (KB G))]) .ret) .skip)) (.seq (.seq (.reg [mv 17 1,ln 18 17,(L,.mv 19 (K 0))]) (.block 0 (.loop B68))) C06)))
theorem F5d(a1:N Xa)(v4:O)(a0:X4)(x6:Xa)(y10:N Xa)(y11:O)(A4d:O→Option P)(B8f:∀(v4:O) zr,A4d v4=H zr→∀σ:St,σ.kept [1,2,17,18,19] [2] []=⟨[(1,vc (aL (W I a1))),(2,vc (.pb 2 0)),(17,vc (aL (W I a1))),(18,vc (aI (a1.length:O))),(19,vc (aI v4))],[(2,(dm a0.row))],[]⟩→go X (.code (.loop B68):: [.blk 0,.code C06]) (Ret [4] [.sc (.v (.bool zr))]) .normal (H σ)):∀(n:Q) (v12:O) (r:P),A0n a1 v4 a0 x6 y10 y11 A4d n v12=H r→∀σ:St,σ.kept [1,2,6,17,18,19,30,31,32] [2,6] []=⟨[(1,vc (aL (W I a1))),(2,vc (.pb 2 0)),(6,vc (.pb 6 0)),(17,vc (aL (W I a1))),(18,vc (aI (a1.length:O))),(19,vc (aI v4)),(30,vc (aL (W I y10))),(31,vc (aI y11)),(32,vc (aI v12))],[(2,(dm a0.row)),(6,(dm x6.row))],[]⟩→go X (.code (.loop C5k):: [.blk 2,.blk 1,.code D3g,.code (.loop B68),.blk 0,.code C06]) (Ret [4] [.sc (.v (.bool r))]) .normal (H σ):=by
 intro n
 induction n with
 | zero=>intro _ r h; cases h
 | succ n ih=>
  intro v12 r h σ hσ
  rw[A0n] at h
  refine B5 ?_
  rcases ic h with ⟨h13,h⟩|⟨h13,h⟩
  ·obtain⟨x14,h14,h⟩:=ob h
   try simp only[hσ,h13,h14,C5k,A,B,C,E,F,J]
   refine B7 V V ?_
   rcases ic h with ⟨h15,h⟩|⟨h15,h⟩
   ·try simp only[h13,h14,h15,A,B,C,E,F,J]
    cases h
    trivial
   ·try simp only[h13,h14,h15,A,B,C,E,F,J]
    refine ih _ _ h _ ?_
    try simp only[h13,h14,h15,A,B,C,E,F,J,Y]
  ·try simp only[hσ,h13,C5k,D3g,A,B,C,E,F,J]
   refine B8f _ _ h _ ?_
   try simp only[h13,A,B,C,E,F,J,Y]
theorem F7h(a1:N Xa)(a0:X4):∀(n:Q) (v4:O) (r:P),R8 a1 a0 n v4=H r→∀σ:St,σ.kept [1,2,17,18,19] [2] []=⟨[(1,vc (aL (W I a1))),(2,vc (.pb 2 0)),(17,vc (aL (W I a1))),(18,vc (aI (a1.length:O))),(19,vc (aI v4))],[(2,(dm a0.row))],[]⟩→go X (.code (.loop B68):: [.blk 0,.code C06]) (Ret [4] [.sc (.v (.bool r))]) .normal (H σ):=by
 intro n
 induction n with
 | zero=>intro _ r h; cases h
 | succ n ih=>
  intro v4 r h σ hσ
  rw[R8] at h
  refine B5 ?_
  rcases ic h with ⟨h5,h⟩|⟨h5,h⟩
  ·obtain⟨x6,h6,h⟩:=ob h
   try simp only[hσ,h5,h6,B68,A,B,C,E,F,J]
   refine B7 V V ?_
   obtain⟨r7,h7,h⟩:=ob h
   try simp only[h5,h6,A,B,C,E,F,J]
   refine A2 (B5d _ _ _ h7) V V (uf V) ?_
   rcases ic h with ⟨h8,h⟩|⟨h8,h⟩
   ·obtain⟨p9,h9,h⟩:=ob h
    try simp only[h5,h6,h8,h9,A,B,C,E,F,J]
    refine F5d _ _ _ _ _ _ (R8 a1 a0 n) ih _ _ _ h _ ?_
    try simp only[h5,h6,h8,h9,A,B,C,E,F,J,Y]
   ·try simp only[h5,h6,h8,A,B,C,E,F,J]
    cases h
    trivial
  ·try simp only[hσ,h5,B68,C06,A,B,C,E,F,J]
   cases h
   trivial
theorem F28:A5 X 7=H (cc203.strip,[4],43):=by kernel_rfl
theorem A3v(a0:X4)(a1:N Xa)(r:P)(h:O0 a0 a1=H r):FC X 7 [.ag (X4.row a0),.sc (.sl (W I a1))] [.sc (.v (.bool r))]:=by
 unfold O0 at h
 refine C3 mixed F28 V ?_
 simp only[cc203,A,B,C,E,F,J]
 try simp only[A,B,C,E,F,J]
 refine B2 V V V ?_
 obtain⟨r1,h1,h⟩:=ob h
 try simp only[A,B,C,E,F,J]
 refine A2 (A6k _ _ h1) V V (uf V) ?_
 rcases ic h with ⟨h2,h⟩|⟨h2,h⟩
 ·rcases ic h with ⟨h3,h⟩|⟨h3,h⟩
  ·try simp only[h2,h3,A,B,C,E,F,J]
   cases h
   trivial
  ·try simp only[h2,h3,A,B,C,E,F,J]
   refine F7h _ _ _ _ _ h _ ?_
   try simp only[h2,h3,A,B,C,E,F,J,Y]
 ·try simp only[h2,A,B,C,E,F,J]
  cases h
  trivial
/- 20:impl_cutsOk -/
def B2w:X2:= .seq (.reg [(L,.keep [0,1,2,12,13,14] [] [])]) (.seq (.reg [bn 15 .lss 14 13]) (.seq (.cond (S 15) .skip (.exit 0)) (.seq (.block 1 (.seq (.reg [mv 16 14,ia 17 12 14 1,ld 18 17,mv 7 16,mv 8 18]) (.seq (.reg [mv 19 8,mv 20 1,bn 21 .leq 19 20,mv 22 21,(H (22,G),.mv 23 (S 8)),(H (22,G),.mv 24 (S 2)),(H (22,G),.bin 25 .gtr (S 23) (S 24)),po 26 22 25,mv 27 26,(H (27,G),.mv 28 (S 7)),(H (27,G),.bin 29 .gtr (S 28) (K 0)),(H (27,G),.mv 30 (S 29)),(H (30,T),.mv 31 (S 0)),(H (30,T),.mv 32 (S 7)),(H (30,T),.bin 33 .sub (S 32) (K 1)),(H (30,T),.iaddr 34 (S 31) (S 33) 1),(H (30,T),.load 35 (S 34) G 1),(H (30,T),.mv 36 (S 8)),(H (30,T),.bin 37 .geq (S 35) (S 36)),(H (27,G),.pick 38 (S 30) (S 37) (KB G)),po 39 27 38]) (.cond (S 39) (.seq (.reg [(L,.mv 6 (KB G))]) .ret) .skip)))) (.reg [(L,.bin 40 .add (S 14) (K 1)),mv 14 40]))))
def D3p:X2:=(.seq (.reg [(L,.mv 6 (KB T))]) .ret)
def cc209:X2:=(.seq (.reg [(L,.mv 6 (KB G))]) (.seq (.seq (.reg [mv 9 0,ln 10 9,(L,.bin 11 .gtr (S 10) (K 3))]) (.cond (S 11) (.seq (.reg [(L,.mv 6 (KB G))]) .ret) .skip)) (.seq (.seq (.reg [mv 12 0,ln 13 12,(L,.mv 14 (K 0))]) (.block 0 (.loop B2w))) D3p)))
theorem F8d(a0:N O)(a1 a2:O):∀(n:Q) (v2:O) (r:P),Z8 a0 a1 a2 n v2=H r→∀σ:St,σ.kept [0,1,2,12,13,14] [] []=⟨[(0,vc (aL (W rI a0))),(1,vc (aI a1)),(2,vc (aI a2)),(12,vc (aL (W rI a0))),(13,vc (aI (a0.length:O))),(14,vc (aI v2))],[],[]⟩→go X (.code (.loop B2w):: [.blk 0,.code D3p]) (Ret [6] [.sc (.v (.bool r))]) .normal (H σ):=by
 intro n
 induction n with
 | zero=>intro _ r h; cases h
 | succ n ih=>
  intro v2 r h σ hσ
  rw[Z8] at h
  refine B5 ?_
  rcases ic h with ⟨h3,h⟩|⟨h3,h⟩
  ·obtain⟨x4,h4,h⟩:=ob h
   rcases ic h with ⟨h5,h⟩|⟨h5,h⟩
   ·try simp only[hσ,h3,h4,h5,B2w,A,B,C,E,F,J]
    cases h
    trivial
   ·rcases ic h with ⟨h6,h⟩|⟨h6,h⟩
    ·try simp only[hσ,h3,h4,h5,h6,B2w,A,B,C,E,F,J]
     cases h
     trivial
    ·rcases ic h with ⟨h7,h⟩|⟨h7,h⟩
     ·obtain⟨x8,h8,h⟩:=ob h
      rcases ic h with ⟨h9,h⟩|⟨h9,h⟩
      ·try simp only[hσ,h3,h4,h5,h6,h7,h8,h9,B2w,A,B,C,E,F,J]
       cases h
       trivial
      ·try simp only[hσ,h3,h4,h5,h6,h7,h8,h9,B2w,A,B,C,E,F,J]
       refine ih _ _ h _ ?_
       try simp only[h3,h4,h5,h6,h7,h8,h9,A,B,C,E,F,J,Y]
     ·try simp only[hσ,h3,h4,h5,h6,h7,B2w,A,B,C,E,F,J]
      refine ih _ _ h _ ?_
      try simp only[h3,h4,h5,h6,h7,A,B,C,E,F,J,Y]
  ·try simp only[hσ,h3,B2w,D3p,A,B,C,E,F,J]
   cases h
   trivial
theorem F4j:A5 X 20=H (cc209.strip,[6],41):=by kernel_rfl
theorem C4w(a0:N O)(a1 a2:O)(r:P)(h:A6u a0 a1 a2=H r):FC X 20 [.sc (.sl (W rI a0)),.sc (.int .i64 a1),.sc (.int .i64 a2)] [.sc (.v (.bool r))]:=by
 unfold A6u at h
 refine C3 mixed F4j V ?_
 simp only[cc209,A,B,C,E,F,J]
 rcases ic h with ⟨h1,h⟩|⟨h1,h⟩
 ·try simp only[h1,A,B,C,E,F,J]
  cases h
  trivial
 ·try simp only[h1,A,B,C,E,F,J]
  refine F8d _ _ _ _ _ _ h _ ?_
  try simp only[h1,A,B,C,E,F,J,Y]
/- 21:impl_clone_int -/
def cc212:X2:=(.seq (.reg [(L,.mv 2 KN)]) (.seq (.reg [mv 3 0,ln 4 3,(L,.mksl 5 1 8 [.int .i64 0] (K 0) (S 4)),mv 6 0,(L,.app 7 1 8 (S 5) (S 6)),mv 2 7]) .ret))
theorem F53:A5 X 21=H (cc212.strip,[2],8):=by kernel_rfl
theorem A16(a0:N O)(r:(N O))(h:D5 a0=H r):FC X 21 [.sc (.sl (W rI a0))] [.sc (.o 1 (W rI r))]:=by
 unfold D5 at h
 refine C3 mixed F53 V ?_
 simp only[cc212,A,B,C,E,F,J]
 obtain⟨n1,hn1,h⟩:=ob h
 try simp only[A,B,C,E,F,J]
 refine A7l (es:=W rI (zE n1 (0:O))) V V hn1 V (A54 V) V ?_
 obtain⟨h2,h⟩:=C9 h
 try simp only[h2,A,B,C,E,F,J]
 cases h
 trivial
/- 86:impl_clone_Part -/
def cc214:X2:=(.seq (.reg [(L,.mv 2 KN)]) (.seq (.reg [mv 3 0,ln 4 3,(L,.mksl 5 3 24 [.int .i64 0,.int .i64 0,.int .i64 0] (K 0) (S 4)),mv 6 0,(L,.app 7 3 24 (S 5) (S 6)),mv 2 7]) .ret))
theorem F40:A5 X 86=H (cc214.strip,[2],8):=by kernel_rfl
theorem B74(a0:N Xe)(r:(N Xe))(h:A3j a0=H r):FC X 86 [.sc (.sl (W Z a0))] [.sc (.o 3 (W Z r))]:=by
 unfold A3j at h
 refine C3 mixed F40 V ?_
 simp only[cc214,A,B,C,E,F,J]
 obtain⟨n1,hn1,h⟩:=ob h
 try simp only[A,B,C,E,F,J]
 refine A7l (es:=W Z (zE n1 (⟨(0:O),(0:O),(0:O)⟩:Xe))) V V hn1 V (A54 V) V ?_
 obtain⟨h2,h⟩:=C9 h
 try simp only[h2,A,B,C,E,F,J]
 cases h
 trivial
/- 57:impl_copyTide -/
def cc216:X2:=(.seq (.reg [bo 1 0,(L,.alloc 2 [aI 0,.nil])]) (.seq (.drw [(H [7],fa 3 1 0),(H [7],ld 4 3),o0 (fa 5 1 1),o0 (ld 6 5),o0 (ca 7 86 [S 6]),o0 (L,.build 8 [aI 0,.nil] [(0,1,(S 4)),(1,1,(S 7))]),(L,so 2 8 2)]) .ret))
theorem F5b:A5 X 57=H (cc216.strip,[.c 2 T 2],9):=by kernel_rfl
theorem B2q(a0 r:Xn)(h:A20 a0=H r):FC X 57 [.ag (Xn.row a0)] [.ag [.v (.int .i64 r.Mean),.o 3 (W Z r.Parts)]]:=by
 unfold A20 at h
 refine C3 mixed F5b V ?_
 simp only[cc216,A,B,C,E,F,J]
 try simp only[A,B,C,E,F,J]
 refine B2 V V V ?_
 try simp only[A,B,C,E,F,J]
 refine B7 V V ?_
 try simp only[A,B,C,E,F,J]
 refine B3 V ?_
 obtain⟨r1,h1,h⟩:=ob h
 try simp only[A,B,C,E,F,J]
 refine E1 (B74 _ _ h1) V V (uf V) ?_
 try simp only[A,B,C,E,F,J]
 refine B3 V ?_
 try simp only[A,B,C,E,F,J]
 cases h
 try simp only[I2,A,B,C,E,F,J]
 trivial
/- 37:impl_clone_Surge -/
def cc218:X2:=(.seq (.reg [(L,.mv 2 KN)]) (.seq (.reg [mv 3 0,ln 4 3,(L,.mksl 5 3 24 [.int .i64 0,.int .i64 0,.int .i64 0] (K 0) (S 4)),mv 6 0,(L,.app 7 3 24 (S 5) (S 6)),mv 2 7]) .ret))
theorem F6k:A5 X 37=H (cc218.strip,[2],8):=by kernel_rfl
theorem A7k(a0:N X6)(r:(N X6))(h:L7 a0=H r):FC X 37 [.sc (.sl (W X6.row a0))] [.sc (.o 3 (W X6.row r))]:=by
 unfold L7 at h
 refine C3 mixed F6k V ?_
 simp only[cc218,A,B,C,E,F,J]
 obtain⟨n1,hn1,h⟩:=ob h
 try simp only[A,B,C,E,F,J]
 refine A7l (es:=W X6.row (zE n1 (⟨(0:O),(0:O),(0:O)⟩:X6))) V V hn1 V (A54 V) V ?_
 obtain⟨h2,h⟩:=C9 h
 try simp only[h2,A,B,C,E,F,J]
 cases h
 trivial
/- 32:impl_ReviseBand -/
def C5n:X2:= .seq (.reg [(L,.keep [1,2,3,4,8,20] [4,8] [])]) (.cond (S 20) (.seq (.reg [(L,.build 21 [aI 0,.nil,.nil] []),so 8 21 3,(L,.mv 9 (KB G))]) .ret) .skip)
def D2m:X2:= .seq (.reg [(L,.keep [1,2,3,4,8,10,11,12] [4,8,11,12] [2049,2432])]) (.seq (.reg [fa 50 12 2,ld 51 50,fa 52 12 2,ld 53 52,ln 54 53,(L,.bin 55 .sub (S 54) (K 1)),mv 56 1,fa 57 11 1,ld 58 57,mv 59 2,(L,.mm 60 T (S 58) (S 59)),fa 61 11 2,ld 62 61,mv 63 3,(L,.mm 64 G (S 62) (S 63)),(L,.build 65 [aI 0,aI 0,aI 0] [(0,1,(S 56)),(1,1,(S 60)),(2,1,(S 64))]),ia 66 51 55 3,so 66 65 3]) (.seq (.drw [o0 (fa 67 12 2),o0 (ld 68 67),o0 (fa 69 4 2),o0 (ld 70 69),o0 (mv 71 10),o0 (L,.bin 72 .add (S 71) (K 1)),o0 (L,.slc 73 3 (S 70) (H (S 72)) L L),(L,(L,.app 74 3 24 (S 68) (S 73))),o0 (fa 75 12 2),(L,so 75 74 1)]) (.seq (.seq (.reg [lw 76 12 3,ca 77 24 [S 76],nt 78 77]) (.cond (S 78) (.seq (.reg [(L,.build 79 [aI 0,.nil,.nil] []),so 8 79 3,(L,.mv 9 (KB G))]) .ret) .skip)) (.seq (.reg [lw 80 12 3,so 8 80 3,(L,.mv 9 (KB T))]) .ret))))
def D5s:X2:=(.seq (.reg [lw 22 4 3,mv 23 1,ca 24 26 [S 22,S 23],mv 10 24]) (.seq (.reg [fa 25 4 2,ld 26 25,mv 27 10,ia 28 26 27 3,lw 29 28 3,(L,.alloc 11 [aI 0,aI 0,aI 0]),so 11 29 3]) (.seq (.drw [(H [12],fa 30 4 0),(H [12],lw 31 30 2),(H [12],ca 32 57 [S 31]),(H [32,12],fa 33 4 2),(H [32,12],ld 34 33),(H [32,12],mv 35 10),(H [32,12],(L,.bin 36 .add (S 35) (K 1))),(H [32,12],(L,.slc 37 3 (S 34) L (H (S 36)) L)),(H [12],ca 38 37 [S 37]),(H [12],(L,.build 39 [aI 0,.nil,.nil] [(0,2,(S 32)),(2,1,(S 38))])),(H [32,38],(L,.alloc 12 [aI 0,.nil,.nil])),(L,so 12 39 3)]) (.seq (.seq (.reg [fa 40 11 0,ld 41 40,mv 42 1,bn 43 .neq 41 42]) (.cond (S 43) (.reg [fa 44 12 2,ld 45 44,(L,.build 46 [aI 0,aI 0,aI 0] []),(L,.bslice 47 3 [.int .i64 0,.int .i64 0,.int .i64 0] 1 [(0,(S 46))]),(L,.app 48 3 24 (S 45) (S 47)),fa 49 12 2,so 49 48 1]) .skip)) D2m))))
def cc223:X2:=(.seq (.reg [bo 4 0,(L,.alloc 8 [aI 0,.nil,.nil]),(L,.mv 9 (KB G))]) (.seq (.seq (.reg [lw 13 4 3,ca 14 24 [S 13],nt 15 14,mv 16 15,(H (16,G),.mv 17 (S 1)),(H (16,G),.call 18 25 [(S 17)]),(H (16,G),.un 19 .not (S 18)),po 20 16 19]) C5n) D5s))
theorem E22(a1 a2:O)(a3 r6:O)(a0:X8)(x7:X6)(r9:Xn)(v14:N X6)(r:X8 × P)(h:A0a a1 a2 a3 r6 a0 x7 r9 v14=H r)(σ:St)(hσ:σ.kept [1,2,3,4,8,10,11,12] [4,8,11,12] [2049,2432]=⟨[(1,vc (aI a1)),(2,vc (aI a2)),(3,vc (aI a3)),(4,vc (.pb 4 0)),(8,vc (.pb 8 0)),(10,vc (aI r6)),(11,vc (.pb 11 0)),(12,vc (.pb 12 0))],[(4,(dm a0.row)),(8,[aI (0:O),.nil,.nil]),(11,(dm x7.row)),(12,[aI r9.Mean,.own 2049,.own 2432])],[(2049,3,W Z r9.Parts),(2432,3,W X6.row v14)]⟩):go X (.code D2m:: []) (Ret [.c 8 T 3,9] [.ag [.v (.int .i64 r.1.Tide.Mean),.o 3 (W Z r.1.Tide.Parts),.o 3 (W X6.row r.1.Surges)],.sc (.v (.bool r.2))]) .normal (H σ):=by
 unfold A0a at h
 obtain⟨x15,h15,h⟩:=ob h
 have h15n:=M2 h15
 try simp only[hσ,h15,D2m,A,B,C,E,F,J]
 refine A5j (row:=X6.row) (y:=(⟨a1,(if x7.Low<a2 then a2 else x7.Low),(if a3<x7.High then a3 else x7.High)⟩:X6)) V V h15n V V (by rfl) ?_
 try simp only[h15,A,B,C,E,F,J]
 refine B3 V ?_
 obtain⟨p16,h16,h⟩:=ob h
 obtain⟨h17,h⟩:=C9 h
 try simp only[h15,h16,h17,A,B,C,E,F,J]
 refine B3 V ?_
 try simp only[h15,h16,h17,A,B,C,E,F,J]
 refine B3 V ?_
 obtain⟨r18,h18,h⟩:=ob h
 try simp only[h15,h16,h17,A,B,C,E,F,J]
 refine P4 (P2 _ _ h18) V (N9 V) V (uf V) ?_
 rcases ic h with ⟨h19,h⟩|⟨h19,h⟩
 ·try simp only[h15,h16,h17,h19,A,B,C,E,F,J]
  cases h
  try simp only[I2,A,B,C,E,F,J]
  trivial
 ·try simp only[h15,h16,h17,h19,A,B,C,E,F,J]
  cases h
  try simp only[I2,A,B,C,E,F,J]
  trivial
theorem E3m(a1 a2 a3:O)(a0:X8)(v4:P)(r:X8 × P)(h:A1y a1 a2 a3 a0 v4=H r)(σ:St)(hσ:σ.kept [1,2,3,4,8,20] [4,8] []=⟨[(1,vc (aI a1)),(2,vc (aI a2)),(3,vc (aI a3)),(4,vc (.pb 4 0)),(8,vc (.pb 8 0)),(20,vc (aB v4))],[(4,(dm a0.row)),(8,[aI (0:O),.nil,.nil])],[]⟩):go X (.code C5n:: [.code D5s]) (Ret [.c 8 T 3,9] [.ag [.v (.int .i64 r.1.Tide.Mean),.o 3 (W Z r.1.Tide.Parts),.o 3 (W X6.row r.1.Surges)],.sc (.v (.bool r.2))]) .normal (H σ):=by
 unfold A1y at h
 rcases ic h with ⟨h5,h⟩|⟨h5,h⟩
 ·try simp only[hσ,h5,C5n,A,B,C,E,F,J]
  cases h
  try simp only[I2,A,B,C,E,F,J]
  trivial
 ·obtain⟨r6,h6,h⟩:=ob h
  try simp only[hσ,h5,C5n,D5s,A,B,C,E,F,J]
  refine A2 (H4 _ _ _ h6) V V (uf V) ?_
  obtain⟨x7,h7,h⟩:=ob h
  try simp only[h5,h7,A,B,C,E,F,J]
  refine B7 V V ?_
  try simp only[h5,h7,A,B,C,E,F,J]
  refine B3 V ?_
  obtain⟨r9,h9,h⟩:=ob h
  try simp only[h5,h7,A,B,C,E,F,J]
  refine E1 (B2q _ _ h9) V V (uf V) ?_
  obtain⟨p10,h10,h⟩:=ob h
  obtain⟨r11,h11,h⟩:=ob h
  try simp only[h5,h7,h10,A,B,C,E,F,J]
  refine E1 (A7k _ _ h11) V V (uf V) ?_
  try simp only[h5,h7,h10,A,B,C,E,F,J]
  refine B6b (m:= .box 12 [aI (0:O),.nil,.nil]) V V (A9o V V) ?_
  try simp only[h5,h7,h10,A,B,C,E,F,J]
  refine B3 V ?_
  rcases ic h with ⟨h12,h⟩|⟨h12,h⟩
  ·try simp only[h5,h7,h10,h12,A,B,C,E,F,J]
   refine D6 (es:=W X6.row ([(⟨(0:O),(0:O),(0:O)⟩:X6)]:N X6)) V V ?_
   obtain⟨h13,h⟩:=C9 h
   try simp only[h5,h7,h10,h12,h13,A,B,C,E,F,J]
   refine E22 _ _ _ _ _ _ _ _ _ h _ ?_
   try simp only[h5,h7,h10,h12,h13,A,B,C,E,F,J,Y]
  ·try simp only[h5,h7,h10,h12,A,B,C,E,F,J]
   refine E22 _ _ _ _ _ _ _ _ _ h _ ?_
   try simp only[h5,h7,h10,h12,A,B,C,E,F,J,Y]
theorem F5t:A5 X 32=H (cc223.strip,[.c 8 T 3,9],81):=by kernel_rfl
theorem B8e(a0:X8)(a1 a2 a3:O)(r:X8 × P)(h:A3d a0 a1 a2 a3=H r):FC X 32 [.ag (X8.row a0),.sc (.int .i64 a1),.sc (.int .i64 a2),.sc (.int .i64 a3)] [.ag [.v (.int .i64 r.1.Tide.Mean),.o 3 (W Z r.1.Tide.Parts),.o 3 (W X6.row r.1.Surges)],.sc (.v (.bool r.2))]:=by
 unfold A3d at h
 refine C3 mixed F5t V ?_
 simp only[cc223,A,B,C,E,F,J]
 try simp only[A,B,C,E,F,J]
 refine B2 V V V ?_
 try simp only[A,B,C,E,F,J]
 refine B7 V V ?_
 obtain⟨r1,h1,h⟩:=ob h
 try simp only[A,B,C,E,F,J]
 refine A2 (P2 _ _ h1) V V (uf V) ?_
 rcases ic h with ⟨h2,h⟩|⟨h2,h⟩
 ·obtain⟨r3,h3,h⟩:=ob h
  try simp only[h2,A,B,C,E,F,J]
  refine A2 (O5 _ _ h3) V V (uf V) ?_
  try simp only[h2,A,B,C,E,F,J]
  refine E3m _ _ _ _ _ _ h _ ?_
  try simp only[h2,A,B,C,E,F,J,Y]
 ·try simp only[h2,A,B,C,E,F,J]
  refine E3m _ _ _ _ _ _ h _ ?_
  try simp only[h2,A,B,C,E,F,J,Y]
end Go.Vi
