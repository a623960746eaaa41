/-
Walks. No condition.
-/
import Derived.Test.YtmgfndipofbbaaaGreatKNf
import Derived.Test.YtmgfndipofbbaaaGreatChecked
import Derived.KernelRfl
namespace Go.Vi
open Go.Proofs
set_option linter.all false
set_option maxRecDepth 4000
set_option maxHeartbeats 2000000
open Nat renaming reduceBEq → A, reduceMul → B, reduceAdd → C, reduceDiv → E, le_of_ble_eq_true → uf
open Int renaming reduceBEq → F
attribute [local irreducible] go AWP
open List renaming map → W, map_nil → Y, all_cons → zC, all_nil → zD
open Tryz renaming prog → X
open Xi renaming row → Z
open Xc renaming row → I
open Xg renaming row → zA
open Xb renaming row → zB
open Xa renaming row → zE
open IntKind renaming wrap → zF
open Bool renaming true → T, false → G
open Option renaming some → H, none → L
open _root_ renaming List → N, Int → O, Bool → P, Nat → Q, UInt8 → U, rfl → V
theorem A7:Tryz.prog.follows .mixedOrders=T:=by kernel_rfl
/- 81:spec_l01New -/
def cc0:X2:= .seq (.reg [(L,.keep [0,3,4] [] [])]) (.seq (.seq (.reg [mv 8 4,mv 9 0,ln 10 9,bn 11 .lss 8 10,mv 12 11,(H (12,T),.mv 13 (S 4)),(H (12,T),.bin 14 .lss (S 13) (K 4000)),pa 15 12 14]) (.cond (S 15) .skip (.exit 0))) (.seq (.block 1 (.reg [mv 18 3,(L,.bin 19 .mul (S 18) (K 79)),mv 20 0,mv 21 4,ia 22 20 21 1,ld 23 22,(L,.conv 24 .i64 (S 23)),bn 25 .add 19 24,(L,.bin 26 .add (S 25) (K 7)),(L,.bin 27 .and (S 26) (K 1073741823)),mv 3 27])) (.reg [mv 16 4,(L,.bin 17 .add (S 16) (K 1)),mv 4 17])))
def cc1:X2:= .seq (.reg [(L,.keep [0,3] [] [])]) (.seq (.reg [mv 28 0,mv 29 3,(L,.build 30 [.nil,aI 0,aI 0] [(0,1,(S 28)),(2,1,(S 29))]),bo 31 30,mv 2 31]) .ret)
def cc2:X2:=(.seq (.reg [(L,.mv 2 (.c (.v (.sc .undef))))]) (.seq (.reg [mv 5 0,ln 6 5,(L,.bin 7 .add (K 1976) (S 6)),mv 3 7]) (.seq (.seq (.reg [(L,.mv 4 (K 0))]) (.block 0 (.loop cc0))) cc1)))
theorem ww3(a0:N O)(v1:O)(r:X1)(h:A2r a0 v1=H r)(σ:St)(hσ:σ.kept [0,3] [] []=⟨[(0,vc (aL (W r8 a0))),(3,vc (aI v1))],[],[]⟩):go X (.code cc1:: []) (C82 [2] [.sl (W r8 r.b),.int .i64 r.i,.int .i64 r.h]) .normal (H σ):=by
 unfold A2r at h
 try simp only[hσ,cc1,A,B,C,E,F,J]
 refine B2 V V V ?_
 try simp only[A,B,C,E,F,J]
 cases h
 exact⟨_,31,V,V,V,V⟩
theorem ww4(a0:N O):∀(n:Q) (v1 v2:O) (r:X1),A05 a0 n v1 v2=H r→∀σ:St,σ.kept [0,3,4] [] []=⟨[(0,vc (aL (W r8 a0))),(3,vc (aI v1)),(4,vc (aI v2))],[],[]⟩→go X (.code (.loop cc0):: [.blk 0,.code cc1]) (C82 [2] [.sl (W r8 r.b),.int .i64 r.i,.int .i64 r.h]) .normal (H σ):=by
 intro n
 induction n with
 | zero=>intro _ _ r h; cases h
 | succ n ih=>
  intro v1 v2 r h σ hσ
  rw[A05] at h
  refine B0 ?_
  rcases ic h with ⟨h3,h⟩|⟨h3,h⟩
  ·rcases ic h with ⟨h4,h⟩|⟨h4,h⟩
   ·obtain⟨x5,h5,h⟩:=ob h
    try simp only[hσ,h3,h4,h5,cc0,A,B,C,E,F,J]
    refine ih _ _ _ h _ ?_
    try simp only[h3,h4,h5,A,B,C,E,F,J,Y]
   ·try simp only[hσ,h3,h4,cc0,A,B,C,E,F,J]
    refine ww3 _ _ _ h _ ?_
    try simp only[h3,h4,A,B,C,E,F,J,Y]
  ·try simp only[hσ,h3,cc0,A,B,C,E,F,J]
   refine ww3 _ _ _ h _ ?_
   try simp only[h3,A,B,C,E,F,J,Y]
theorem ee5:A5 X 81=H (cc2.strip,[2],32):=by kernel_rfl
theorem B5d(a0:N O)(r:X1)(h:A4f a0=H r):FCn X 81 [.sc (.sl (W r8 a0))] [.sl (W r8 r.b),.int .i64 r.i,.int .i64 r.h]:=by
 unfold A4f at h
 refine D6o (σ:=⟨[(0,vc (aL (W r8 a0)))],[],[]⟩) A7 ee5 V V ?_
 simp only[cc2]
 try simp only[A,B,C,E,F,J]
 refine ww4 _ _ _ _ _ h _ ?_
 try simp only[A,B,C,E,F,J,Y]
/- 178:spec_l01Byte -/
def cc6:X2:=(.seq (.reg [(L,.mv 2 (K 0))]) (.seq (.reg [mv 4 0,mv 5 0,(L,.nilc 6 (S 5)),fa 7 6 2,ld 8 7,(L,.bin 9 .mul (S 8) (K 6364136223846793005)),(L,.bin 10 .add (S 9) (K 1442695040888963407)),(L,.nilc 11 (S 4)),fa 12 11 2,so 12 10 1]) (.seq (.drw [o0 (mv 13 0),o0 (L,.nilc 14 (S 13)),o0 (fa 15 14 2),o0 (ld 16 15),o0 (L,.bin 17 .shr (S 16) (.c (.v (.sc (.dat (.int .u64 33)))))),o0 (mv 18 0),o0 (L,.nilc 19 (S 18)),o0 (fa 20 19 2),o0 (ld 21 20),o0 (L,.bin 22 .shr (S 21) (.c (.v (.sc (.dat (.int .u64 45)))))),o0 (bn 23 .xor 17 22),o0 (L,.bin 24 .and (S 23) (K 255)),o0 (mv 3 24)]) (.seq (.seq (.drw [o0 (mv 25 0),o0 (L,.nilc 26 (S 25)),o0 (fa 27 26 1),o0 (ld 28 27),o0 (mv 29 0),o0 (L,.nilc 30 (S 29)),o0 (fa 31 30 0),o0 (ld 32 31),o0 (ln 33 32),o0 (bn 34 .lss 28 33)]) (.cond (S 34) (.seq (.drw [o0 (mv 35 3),o0 (mv 36 0),o0 (L,.nilc 37 (S 36)),o0 (fa 38 37 0),o0 (ld 39 38),o0 (mv 40 0),o0 (L,.nilc 41 (S 40)),o0 (fa 42 41 1),o0 (ld 43 42),o0 (ia 44 39 43 1),o0 (ld 45 44),o0 (L,.conv 46 .i64 (S 45)),o0 (bn 47 .add 35 46),o0 (L,.bin 48 .and (S 47) (K 255)),o0 (mv 3 48)]) (.reg [mv 49 0,mv 50 0,(L,.nilc 51 (S 50)),fa 52 51 1,ld 53 52,(L,.bin 54 .add (S 53) (K 1)),(L,.nilc 55 (S 49)),fa 56 55 1,so 56 54 1])) .skip)) (.seq (.reg [mv 57 3,mv 2 57]) .ret)))))
theorem ee7:A5 X 178=H (cc6.strip,[2],58):=by kernel_rfl
theorem A3h(a0:X1)(r:O × X1)(h:O4 a0=H r):FCy X 178 [.p] [.sl (W r8 a0.b),.int .i64 a0.i,.int .i64 a0.h] [.sl (W r8 r.2.b),.int .i64 r.2.i,.int .i64 r.2.h] [.sc (.v (.int .i64 r.1))]:=by
 unfold O4 at h
 refine A30 (σ:=⟨[(0,vc (.pb 99999999999 0))],[(99999999999,[aL (W r8 a0.b),aI a0.i,aI a0.h])],[]⟩) A7 ee7 V V ?_
 simp only[cc6]
 try simp only[A,B,C,E,F,J]
 refine C3 V ?_
 try simp only[A,B,C,E,F,J]
 refine C3 V ?_
 rcases ic h with ⟨h1,h⟩|⟨h1,h⟩
 ·try simp only[h1,A,B,C,E,F,J]
  refine C3 V ?_
  obtain⟨x2,h2,h⟩:=ob h
  try simp only[h1,h2,A,B,C,E,F,J]
  cases h
  trivial
 ·try simp only[h1,A,B,C,E,F,J]
  cases h
  trivial
/- 120:spec_l01Below -/
def cc8:X2:=(.seq (.reg [(L,.mv 4 (K 0))]) (.seq (.seq (.reg [mv 9 1,(L,.bin 10 .leq (S 9) (K 0))]) (.cond (S 10) (.seq (.reg [(L,.mv 4 (K 0))]) .ret) .skip)) (.seq (.seq (.reg [mv 11 1,(L,.bin 12 .leq (S 11) (K 256))]) (.cond (S 12) (.seq (.reg [mv 13 0,ca 14 178 [S 13],mv 15 1,bn 16 .rem 14 15,mv 4 16]) .ret) .skip)) (.seq (.reg [mv 17 0,ca 18 178 [S 17],mv 5 18]) (.seq (.reg [mv 19 0,ca 20 178 [S 19],mv 6 20]) (.seq (.reg [mv 21 0,ca 22 178 [S 21],mv 7 22]) (.seq (.reg [mv 23 0,ca 24 178 [S 23],mv 8 24]) (.seq (.reg [mv 25 5,(L,.bin 26 .mul (S 25) (K 16777216)),mv 27 6,(L,.bin 28 .mul (S 27) (K 65536)),bn 29 .add 26 28,mv 30 7,(L,.bin 31 .mul (S 30) (K 256)),bn 32 .add 29 31,mv 33 8,bn 34 .add 32 33,mv 35 1,bn 36 .rem 34 35,mv 4 36]) .ret))))))))
theorem ee9:A5 X 120=H (cc8.strip,[4],37):=by kernel_rfl
theorem B5(a0:X1)(a1:O)(r:O × X1)(h:A4 a0 a1=H r):FCy X 120 [.p,.d (.sc (.int .i64 a1))] [.sl (W r8 a0.b),.int .i64 a0.i,.int .i64 a0.h] [.sl (W r8 r.2.b),.int .i64 r.2.i,.int .i64 r.2.h] [.sc (.v (.int .i64 r.1))]:=by
 unfold A4 at h
 refine A30 (σ:=⟨[(0,vc (.pb 99999999999 0)),(1,vc (aI a1))],[(99999999999,[aL (W r8 a0.b),aI a0.i,aI a0.h])],[]⟩) A7 ee9 V V ?_
 simp only[cc8]
 rcases ic h with ⟨h1,h⟩|⟨h1,h⟩
 ·try simp only[h1,A,B,C,E,F,J]
  cases h
  trivial
 ·rcases ic h with ⟨h2,h⟩|⟨h2,h⟩
  ·obtain⟨r3,h3,h⟩:=ob h
   try simp only[h1,h2,A,B,C,E,F,J]
   refine B7 (A3h _ _ h3) 99999999999 V V V ?_
   obtain⟨h4,h⟩:=A1h h
   try simp only[h1,h2,h4,A,B,C,E,F,J]
   cases h
   trivial
  ·obtain⟨r5,h5,h⟩:=ob h
   try simp only[h1,h2,A,B,C,E,F,J]
   refine B7 (A3h _ _ h5) 99999999999 V V V ?_
   obtain⟨r6,h6,h⟩:=ob h
   try simp only[h1,h2,A,B,C,E,F,J]
   refine B7 (A3h _ _ h6) 99999999999 V V V ?_
   obtain⟨r7,h7,h⟩:=ob h
   try simp only[h1,h2,A,B,C,E,F,J]
   refine B7 (A3h _ _ h7) 99999999999 V V V ?_
   obtain⟨r9,h9,h⟩:=ob h
   try simp only[h1,h2,A,B,C,E,F,J]
   refine B7 (A3h _ _ h9) 99999999999 V V V ?_
   obtain⟨h10,h⟩:=A1h h
   try simp only[h1,h2,h10,A,B,C,E,F,J]
   cases h
   trivial
/- 204:spec_l01Pick -/
def cc10:X2:=(.seq (.reg [(L,.mv 4 (K 0))]) (.seq (.reg [mv 5 1,mv 6 0,mv 7 1,ln 8 7,ca 9 120 [S 6,S 8],ia 10 5 9 1,ld 11 10,mv 4 11]) .ret))
theorem F92:A5 X 204=H (cc10.strip,[4],12):=by kernel_rfl
theorem C2m(a0:X1)(a1:N O)(r:O × X1)(h:A5s a0 a1=H r):FCy X 204 [.p,.d (.sc (.sl (W rI a1)))] [.sl (W r8 a0.b),.int .i64 a0.i,.int .i64 a0.h] [.sl (W r8 r.2.b),.int .i64 r.2.i,.int .i64 r.2.h] [.sc (.v (.int .i64 r.1))]:=by
 unfold A5s at h
 refine A30 (σ:=⟨[(0,vc (.pb 99999999999 0)),(1,vc (aL (W rI a1)))],[(99999999999,[aL (W r8 a0.b),aI a0.i,aI a0.h])],[]⟩) A7 F92 V V ?_
 simp only[cc10]
 obtain⟨r1,h1,h⟩:=ob h
 try simp only[A,B,C,E,F,J]
 refine B7 (B5 _ _ _ h1) 99999999999 V V V ?_
 obtain⟨x2,h2,h⟩:=ob h
 try simp only[h2,A,B,C,E,F,J]
 cases h
 trivial
/- 358:spec_l02Part -/
def cc12:X2:=(.seq (.reg [(L,.alloc 2 [aI 0,aI 0,aI 0])]) (.seq (.reg [mv 4 0,ca 5 120 [S 4,K 300],mv 6 0,(L,.bslice 7 1 [.int .i64 0] 5 [(0,(K 744)),(1,(K 720)),(2,(K 1440)),(3,(K 372)),(4,(K 240))]),(L,.frz 448),ca 8 204 [S 6,S 7],(L,.build 9 [aI 0,aI 0,aI 0] [(0,1,(S 5)),(1,1,(S 8))]),(L,.alloc 3 [aI 0,aI 0,aI 0]),so 3 9 3]) (.seq (.reg [mv 10 0,fa 11 3 1,ld 12 11,ca 13 120 [S 10,S 12],fa 14 3 2,so 14 13 1]) (.seq (.reg [lw 15 3 3,so 2 15 3]) .ret))))
theorem G0u:A5 X 358=H (cc12.strip,[.c 2 T 3],16):=by kernel_rfl
theorem C2o(a0:X1)(r:Xi × X1)(h:P1 a0=H r):FCy X 358 [.p] [.sl (W r8 a0.b),.int .i64 a0.i,.int .i64 a0.h] [.sl (W r8 r.2.b),.int .i64 r.2.i,.int .i64 r.2.h] [.ag [.v (.int .i64 r.1.Amp),.v (.int .i64 r.1.Period),.v (.int .i64 r.1.Phase)]]:=by
 unfold P1 at h
 refine A30 (σ:=⟨[(0,vc (.pb 99999999999 0))],[(99999999999,[aL (W r8 a0.b),aI a0.i,aI a0.h])],[]⟩) A7 G0u V V ?_
 simp only[cc12]
 try simp only[A,B,C,E,F,J]
 refine D7 V V ?_
 obtain⟨r1,h1,h⟩:=ob h
 try simp only[A,B,C,E,F,J]
 refine B7 (B5 _ _ _ h1) 99999999999 V V V ?_
 try simp only[A,B,C,E,F,J]
 refine C7 (es:=W rI ([(744:O),(720:O),(1440:O),(372:O),(240:O)]:N O)) V V ?_
 try simp only[A,B,C,E,F,J]
 refine O5 V ?_
 obtain⟨r2,h2,h⟩:=ob h
 try simp only[A,B,C,E,F,J]
 refine B7 (C2m _ _ _ h2) 99999999999 V V V ?_
 try simp only[A,B,C,E,F,J]
 refine D7 V V ?_
 obtain⟨r3,h3,h⟩:=ob h
 try simp only[A,B,C,E,F,J]
 refine B7 (B5 _ _ _ h3) 99999999999 V V V ?_
 try simp only[A,B,C,E,F,J]
 cases h
 try simp only[Q8,A,B,C,E,F,J]
 trivial
/- 324:spec_l02Draw -/
def A1g:N (N Q × AItem):= [([],(L,.faddr 15 (S 3) 1)),([0],(L,.load 16 (S 15) G 1)),([],(L,.mv 17 (S 0))),([2],(L,.call 18 358 [(S 17)])),([3],(L,.bslice 19 3 [.int .i64 0,.int .i64 0,.int .i64 0] 1 [(0,(S 18))])),([1,4,3],(L,.app 20 3 24 (S 16) (S 19))),([0,1,2,3,4,5],(L,.faddr 21 (S 3) 1)),([6,5,5,0,1,2,3,4,5],(L,.store (S 21) (S 20) 1))]
def D14:X2:= .seq (.reg [(L,.keep [0,2,3,4] [99999999999,2,3] [131136])]) (.seq (.seq (.reg [mv 11 4,(L,.bin 12 .gtr (S 11) (K 0))]) (.cond (S 12) .skip (.exit 0))) (.seq (.block 1 (.any A1g)) (.reg [mv 13 4,(L,.bin 14 .sub (S 13) (K 1)),mv 4 14])))
def D92:X2:=(.seq (.reg [(L,.frz 131136),lw 22 3 2,so 2 22 2]) .ret)
def cc16:X2:=(.seq (.reg [(L,.alloc 2 [aI 0,.nil])]) (.seq (.reg [mv 5 0,ca 6 120 [S 5,K 300],(L,.build 7 [aI 0,.nil] [(0,1,(S 6))]),(L,.alloc 3 [aI 0,.nil]),so 3 7 2,(L,.ownb 3 1 131136 3)]) (.seq (.seq (.reg [mv 8 0,ca 9 120 [S 8,K 2],(L,.bin 10 .add (K 1) (S 9)),mv 4 10]) (.block 0 (.loop D14))) D92)))
abbrev F1(v3:O)(r9:Xi × X1)(wo1_:AV)(c0_ c1_:P)(c2_ c3_:P)(c4_ c5_ c6_:P)(bx_:N (Q × N AC))(rs_:Rows):St:=⟨[(0,vc (.pb 99999999999 0)),(2,vc (.pb 2 0)),(3,vc (.pb 3 0)),(4,vc (aI v3)),(15,bif c0_ then vc (.pb 3 1) else .undef),(16,bif c1_ then wo1_ else .undef),(17,bif c2_ then vc (.pb 99999999999 0) else .undef),(18,bif c3_ then va (dm r9.1.row) else .undef),(19,bif c4_ then vc (.own 1216) else .undef),(20,bif c5_ then vc (.own 131136) else .undef),(21,bif c6_ then vc (.pb 3 1) else .undef)],bx_,rs_⟩
abbrev V3(r1:O × X1)(v3:O)(v7:N Xi)(r9:Xi × X1):St:=(F1 v3 r9 (vc (.undef)) T T T T T T T [(99999999999,(dm r9.2.row)),(2,[aI (0:O),.nil]),(3,[aI r1.1,.own 131136])] [(131136,3,W Z (v7++([r9.1]:N Xi))),(1216,3,W Z ([r9.1]:N Xi))])
theorem F9x(r1:O × X1)(v3:O)(v4:N O)(v5 v6:O)(v7:N Xi)(r9:Xi × X1)(h9:P1 (⟨v4,v5,v6⟩:X1)=H r9)(h10:(D1 v7.length ([r9.1]:N Xi).length 24)=T):∀(f:Q),E3 X A1g (V3 r1 v3 v7 r9) f [T,T,T,T,T,T,T,T] (F1 v3 r9 (vc (.undef)) T T T T T T T [(99999999999,(dm r9.2.row)),(2,[aI (0:O),.nil]),(3,[aI r1.1,.own 131136])] [(131136,3,W Z (v7++([r9.1]:N Xi))),(1216,3,W Z ([r9.1]:N Xi))]):=by
 intro f
 induction f with
 | zero=>intro h; rfl
 | succ f ih=>
  refine B3 ⟨?_,?_,?_,?_,?_,?_,?_,?_,⟨⟩⟩<;>try first | (intro h; cases h; done)
theorem F9l(r1:O × X1)(v3:O)(v4:N O)(v5 v6:O)(v7:N Xi)(r9:Xi × X1)(h9:P1 (⟨v4,v5,v6⟩:X1)=H r9)(h10:(D1 v7.length ([r9.1]:N Xi).length 24)=T):∀(f:Q) (b0 b6:P),E3 X A1g (V3 r1 v3 v7 r9) f [b0,T,T,T,T,T,b6,G] (F1 v3 r9 (vc (.undef)) b0 T T T T T b6 [(99999999999,(dm r9.2.row)),(2,[aI (0:O),.nil]),(3,[aI r1.1,.undef])] [(131136,3,W Z (v7++([r9.1]:N Xi))),(1216,3,W Z ([r9.1]:N Xi))]):=by
 intro f
 induction f with
 | zero=>intro b0 b6 h; simp at h
 | succ f ih=>
  intro b0 b6
  refine B3 ⟨?_,?_,?_,?_,?_,?_,?_,?_,⟨⟩⟩<;>try first | (intro h; cases h; done) | (intro h0 hw; obtain rfl:=hz h0 rfl; (try obtain rfl:=hq hw 0 rfl rfl); refine np ?_; simp only[F1,cdt,cdf,A1,A,B,C,E,F,J]; exact ih _ _)
  ·intro h0 hw
   obtain rfl:=hq hw 0 rfl rfl
   obtain rfl:=hq hw 6 rfl rfl
   refine np ?_
   try simp only[F1,cdt,cdf,A1,A,B,C,E,F,J]
   exact F9x r1 v3 v4 v5 v6 v7 r9 h9 h10 _
theorem F9g(r1:O × X1)(v3:O)(v4:N O)(v5 v6:O)(v7:N Xi)(r9:Xi × X1)(h9:P1 (⟨v4,v5,v6⟩:X1)=H r9)(h10:(D1 v7.length ([r9.1]:N Xi).length 24)=T):∀(f:Q) (b0 b1:P),E3 X A1g (V3 r1 v3 v7 r9) f [b0,b1,T,T,T,G,G,G] (F1 v3 r9 (vc (.own 131136)) b0 b1 T T T G G [(99999999999,(dm r9.2.row)),(2,[aI (0:O),.nil]),(3,[aI r1.1,.own 131136])] [(131136,3,W Z v7),(1216,3,W Z ([r9.1]:N Xi))]):=by
 intro f
 induction f with
 | zero=>intro b0 b1 h; simp at h
 | succ f ih=>
  intro b0 b1
  refine B3 ⟨?_,?_,?_,?_,?_,?_,?_,?_,⟨⟩⟩<;>try first | (intro h; cases h; done) | (intro _ hw; simp at hw; done) | (intro h0 hw; obtain rfl:=hz h0 rfl; (try obtain rfl:=hq hw 0 rfl rfl); refine np ?_; simp only[F1,cdt,cdf,A1,A,B,C,E,F,J]; exact ih _ _)
  ·intro h0 hw
   obtain rfl:=hq hw 1 rfl rfl
   refine np ?_
   try simp only[h10,F1,cdt,cdf,A1,A,B,C,E,F,J]
   exact F9l r1 v3 v4 v5 v6 v7 r9 h9 h10 _ b0 G
theorem G0h(r1:O × X1)(v3:O)(v4:N O)(v5 v6:O)(v7:N Xi)(r9:Xi × X1)(h9:P1 (⟨v4,v5,v6⟩:X1)=H r9)(h10:(D1 v7.length ([r9.1]:N Xi).length 24)=T):∀(f:Q) (b0 b1:P),E3 X A1g (V3 r1 v3 v7 r9) f [b0,b1,T,T,G,G,G,G] (F1 v3 r9 (vc (.own 131136)) b0 b1 T T G G G [(99999999999,(dm r9.2.row)),(2,[aI (0:O),.nil]),(3,[aI r1.1,.own 131136])] [(131136,3,W Z v7)]):=by
 intro f
 induction f with
 | zero=>intro b0 b1 h; simp at h
 | succ f ih=>
  intro b0 b1
  refine B3 ⟨?_,?_,?_,?_,?_,?_,?_,?_,⟨⟩⟩<;>try first | (intro h; cases h; done) | (intro _ hw; simp at hw; done) | (intro h0 hw; obtain rfl:=hz h0 rfl; (try obtain rfl:=hq hw 0 rfl rfl); refine np ?_; simp only[F1,cdt,cdf,A1,A,B,C,E,F,J]; exact ih _ _)
  ·intro h0 hw
   refine np ?_
   try simp only[F1,cdt,cdf,A1,A,B,C,E,F,J]
   refine C7 (es:=W Z ([r9.1]:N Xi)) V (by simp only[St.fresh,zC,zD,P8]; simp[AV.cells,V1.cells,AC.uses]) ?_
   try simp only[A1,A,B,C,E,F,J]
   exact F9g r1 v3 v4 v5 v6 v7 r9 h9 h10 _ b0 b1
theorem F9h(r1:O × X1)(v3:O)(v4:N O)(v5 v6:O)(v7:N Xi)(r9:Xi × X1)(h9:P1 (⟨v4,v5,v6⟩:X1)=H r9)(h10:(D1 v7.length ([r9.1]:N Xi).length 24)=T):∀(f:Q) (b0 b1 b2:P),E3 X A1g (V3 r1 v3 v7 r9) f [b0,b1,b2,G,G,G,G,G] (F1 v3 r9 (vc (.own 131136)) b0 b1 b2 G G G G [(99999999999,[aL (W r8 v4),aI v5,aI v6]),(2,[aI (0:O),.nil]),(3,[aI r1.1,.own 131136])] [(131136,3,W Z v7)]):=by
 intro f
 induction f with
 | zero=>intro b0 b1 b2 h; simp at h
 | succ f ih=>
  intro b0 b1 b2
  refine B3 ⟨?_,?_,?_,?_,?_,?_,?_,?_,⟨⟩⟩<;>try first | (intro _ hw; simp at hw; done) | (intro h0 hw; obtain rfl:=hz h0 rfl; (try obtain rfl:=hq hw 0 rfl rfl); refine np ?_; simp only[F1,cdt,cdf,A1,A,B,C,E,F,J]; exact ih _ _ _)
  ·intro h0 hw
   obtain rfl:=hq hw 2 rfl rfl
   refine np ?_
   try simp only[F1,cdt,cdf,A1,A,B,C,E,F,J]
   refine B7 (C2o _ _ h9) 99999999999 V V V ?_
   try simp only[A1,A,B,C,E,F,J]
   exact G0h r1 v3 v4 v5 v6 v7 r9 h9 h10 _ b0 b1
theorem F9n(r1:O × X1):∀(n:Q) (v3:O) (v4:N O) (v5 v6:O) (v7:N Xi) (r:Xn × X1),A0f r1 n v3 v4 v5 v6 v7=H r→∀σ:St,σ.kept [0,2,3,4] [99999999999,2,3] [131136]=⟨[(0,vc (.pb 99999999999 0)),(2,vc (.pb 2 0)),(3,vc (.pb 3 0)),(4,vc (aI v3))],[(99999999999,[aL (W r8 v4),aI v5,aI v6]),(2,[aI (0:O),.nil]),(3,[aI r1.1,.own 131136])],[(131136,3,W Z v7)]⟩→go X (.code (.loop D14):: [.blk 0,.code D92]) (B4u [.c 2 T 2] [.ag [.v (.int .i64 r.1.Mean),.v (.sl (W Z r.1.Parts))]] [.sl (W r8 r.2.b),.int .i64 r.2.i,.int .i64 r.2.h]) .normal (H σ):=by
 intro n
 induction n with
 | zero=>intro _ _ _ _ _ r h; cases h
 | succ n ih=>
  intro v3 v4 v5 v6 v7 r h σ hσ
  rw[A0f] at h
  refine B0 ?_
  rcases ic h with ⟨h8,h⟩|⟨h8,h⟩
  ·try simp only[hσ,h8,D14,A,B,C,E,F,J]
   obtain⟨r9,h9,h⟩:=ob h
   obtain⟨h10,h⟩:=D3 h
   refine A4w (ks:= [0,2,3,4]) (bs:= [99999999999,2,3]) (rs:= [131136]) (τ:=(V3 r1 v3 v7 r9)) V (F9h r1 v3 v4 v5 v6 v7 r9 h9 h10 _ G G G) ?_
   simp only[V3,F1,cdt]
   try simp only[h8,h10,A,B,C,E,F,J]
   refine ih _ _ _ _ _ _ h _ ?_
   try simp only[h8,h10,A,B,C,E,F,J,Y]
  ·try simp only[hσ,h8,D14,D92,A,B,C,E,F,J]
   refine O5 V ?_
   try simp only[h8,A,B,C,E,F,J]
   cases h
   try simp only[Q8,A,B,C,E,F,J]
   trivial
theorem F9f:A5 X 324=H (cc16.strip,[.c 2 T 2],23):=by kernel_rfl
theorem C25(a0:X1)(r:Xn × X1)(h:A5p a0=H r):FCy X 324 [.p] [.sl (W r8 a0.b),.int .i64 a0.i,.int .i64 a0.h] [.sl (W r8 r.2.b),.int .i64 r.2.i,.int .i64 r.2.h] [.ag [.v (.int .i64 r.1.Mean),.v (.sl (W Z r.1.Parts))]]:=by
 unfold A5p at h
 refine A30 (σ:=⟨[(0,vc (.pb 99999999999 0))],[(99999999999,[aL (W r8 a0.b),aI a0.i,aI a0.h])],[]⟩) A7 F9f V V ?_
 simp only[cc16]
 try simp only[A,B,C,E,F,J]
 refine D7 V V ?_
 obtain⟨r1,h1,h⟩:=ob h
 try simp only[A,B,C,E,F,J]
 refine B7 (B5 _ _ _ h1) 99999999999 V V V ?_
 try simp only[A,B,C,E,F,J]
 refine D7 V V ?_
 try simp only[A,B,C,E,F,J]
 refine A47 (cs':= [aI r1.1,.own 131136]) V V V V ?_
 obtain⟨r2,h2,h⟩:=ob h
 try simp only[A,B,C,E,F,J]
 refine B7 (B5 _ _ _ h2) 99999999999 V V V ?_
 try simp only[A,B,C,E,F,J]
 refine F9n _ _ _ _ _ _ _ _ h _ ?_
 try simp only[A,B,C,E,F,J,Y]
/- 260:spec_l03Draw -/
def A1d:N (N Q × AItem):= [([],(L,.faddr 20 (S 3) 2)),([0],(L,.load 21 (S 20) G 1)),([],(L,.mv 22 (S 4))),([],(L,.mv 23 (S 6))),([],(L,.mv 24 (S 6))),([],(L,.mv 25 (S 0))),([5],(L,.call 26 120 [(S 25),(K 60)])),([4,6],(L,.bin 27 .add (S 24) (S 26))),([2,3,7],(L,.build 28 [aI 0,aI 0,aI 0] [(0,1,(S 22)),(1,1,(S 23)),(2,1,(S 27))])),([8],(L,.bslice 29 3 [.int .i64 0,.int .i64 0,.int .i64 0] 1 [(0,(S 28))])),([1,9,6],(L,.app 30 3 24 (S 21) (S 29))),([0,1,2,3,4,5,6,7,8,9,10],(L,.faddr 31 (S 3) 2)),([11,10,10,0,1,2,3,4,5,6,7,8,9,10],(L,.store (S 31) (S 30) 1))]
def D29:X2:= .seq (.reg [(L,.keep [0,2,3,4,5] [99999999999,2,3] [131200])]) (.seq (.seq (.reg [mv 13 5,(L,.bin 14 .gtr (S 13) (K 0))]) (.cond (S 14) .skip (.exit 0))) (.seq (.block 1 (.seq (.reg [mv 17 0,ca 18 120 [S 17,K 60],(L,.bin 19 .sub (S 18) (K 40)),mv 6 19]) (.seq (.any A1d) (.reg [mv 32 4,(L,.bin 33 .add (S 32) (K 100)),mv 34 0,ca 35 120 [S 34,K 700],bn 36 .add 33 35,mv 4 36])))) (.reg [mv 15 5,(L,.bin 16 .sub (S 15) (K 1)),mv 5 16])))
def D8w:X2:=(.seq (.reg [(L,.frz 131200),lw 37 3 3,so 2 37 3]) .ret)
def cc26:X2:=(.seq (.reg [(L,.alloc 2 [aI 0,.nil,.nil])]) (.seq (.reg [mv 7 0,ca 8 324 [S 7],(L,.build 9 [aI 0,.nil,.nil] [(0,2,(S 8))]),(L,.alloc 3 [aI 0,.nil,.nil]),so 3 9 3,(L,.ownb 3 2 131200 3)]) (.seq (.reg [(L,.mv 4 (K 0))]) (.seq (.seq (.reg [mv 10 0,ca 11 120 [S 10,K 3],(L,.bin 12 .add (K 1) (S 11)),mv 5 12]) (.block 0 (.loop D29))) D8w))))
abbrev F0(v3 v4:O)(r10 r11:O × X1)(wo1_:AV)(c0_ c1_:P)(c2_ c3_:P)(c4_ c5_:P)(c6_ c7_:P)(c8_ c9_:P)(c10_ c11_:P)(bx_:N (Q × N AC))(rs_:Rows):St:=⟨[(0,vc (.pb 99999999999 0)),(2,vc (.pb 2 0)),(3,vc (.pb 3 0)),(4,vc (aI v3)),(5,vc (aI v4)),(6,vc (aI (zF .i64 (r10.1 - (40:O))))),(20,bif c0_ then vc (.pb 3 2) else .undef),(21,bif c1_ then wo1_ else .undef),(22,bif c2_ then vc (aI v3) else .undef),(23,bif c3_ then vc (aI (zF .i64 (r10.1 - (40:O)))) else .undef),(24,bif c4_ then vc (aI (zF .i64 (r10.1 - (40:O)))) else .undef),(25,bif c5_ then vc (.pb 99999999999 0) else .undef),(26,bif c6_ then vc (aI r11.1) else .undef),(27,bif c7_ then vc (aI (zF .i64 ((zF .i64 (r10.1 - (40:O)))+r11.1))) else .undef),(28,bif c8_ then va [aI v3,aI (zF .i64 (r10.1 - (40:O))),aI (zF .i64 ((zF .i64 (r10.1 - (40:O)))+r11.1))] else .undef),(29,bif c9_ then vc (.own 1856) else .undef),(30,bif c10_ then vc (.own 131200) else .undef),(31,bif c11_ then vc (.pb 3 2) else .undef)],bx_,rs_⟩
abbrev V0(r1:Xn × X1)(v3 v4:O)(v8:N Xg)(r10 r11:O × X1):St:=(F0 v3 v4 r10 r11 (vc (.undef)) T T T T T T T T T T T T [(99999999999,(dm r11.2.row)),(2,[aI (0:O),.nil,.nil]),(3,[aI r1.1.Mean,aL (W Z r1.1.Parts),.own 131200])] [(131200,3,W zA (v8++([(⟨v3,(zF .i64 (r10.1 - (40:O))),(zF .i64 ((zF .i64 (r10.1 - (40:O)))+r11.1))⟩:Xg)]:N Xg))),(1856,3,W zA ([(⟨v3,(zF .i64 (r10.1 - (40:O))),(zF .i64 ((zF .i64 (r10.1 - (40:O)))+r11.1))⟩:Xg)]:N Xg))])
theorem F9o(r1:Xn × X1)(v3 v4:O)(v8:N Xg)(r10 r11:O × X1)(h11:A4 r10.2 (60:O)=H r11)(h12:(D1 v8.length ([(⟨v3,(zF .i64 (r10.1 - (40:O))),(zF .i64 ((zF .i64 (r10.1 - (40:O)))+r11.1))⟩:Xg)]:N Xg).length 24)=T):∀(f:Q),E3 X A1d (V0 r1 v3 v4 v8 r10 r11) f [T,T,T,T,T,T,T,T,T,T,T,T,T] (F0 v3 v4 r10 r11 (vc (.undef)) T T T T T T T T T T T T [(99999999999,(dm r11.2.row)),(2,[aI (0:O),.nil,.nil]),(3,[aI r1.1.Mean,aL (W Z r1.1.Parts),.own 131200])] [(131200,3,W zA (v8++([(⟨v3,(zF .i64 (r10.1 - (40:O))),(zF .i64 ((zF .i64 (r10.1 - (40:O)))+r11.1))⟩:Xg)]:N Xg))),(1856,3,W zA ([(⟨v3,(zF .i64 (r10.1 - (40:O))),(zF .i64 ((zF .i64 (r10.1 - (40:O)))+r11.1))⟩:Xg)]:N Xg))]):=by
 intro f
 induction f with
 | zero=>intro h; rfl
 | succ f ih=>
  refine B3 ⟨?_,?_,?_,?_,?_,?_,?_,?_,?_,?_,?_,?_,?_,⟨⟩⟩<;>try first | (intro h; cases h; done)
theorem G0l(r1:Xn × X1)(v3 v4:O)(v8:N Xg)(r10 r11:O × X1)(h11:A4 r10.2 (60:O)=H r11)(h12:(D1 v8.length ([(⟨v3,(zF .i64 (r10.1 - (40:O))),(zF .i64 ((zF .i64 (r10.1 - (40:O)))+r11.1))⟩:Xg)]:N Xg).length 24)=T):∀(f:Q) (b0 b2:P) (b3 b4:P) (b7 b11:P),E3 X A1d (V0 r1 v3 v4 v8 r10 r11) f [b0,T,b2,b3,b4,T,T,b7,T,T,T,b11,G] (F0 v3 v4 r10 r11 (vc (.undef)) b0 T b2 b3 b4 T T b7 T T T b11 [(99999999999,(dm r11.2.row)),(2,[aI (0:O),.nil,.nil]),(3,[aI r1.1.Mean,aL (W Z r1.1.Parts),.undef])] [(131200,3,W zA (v8++([(⟨v3,(zF .i64 (r10.1 - (40:O))),(zF .i64 ((zF .i64 (r10.1 - (40:O)))+r11.1))⟩:Xg)]:N Xg))),(1856,3,W zA ([(⟨v3,(zF .i64 (r10.1 - (40:O))),(zF .i64 ((zF .i64 (r10.1 - (40:O)))+r11.1))⟩:Xg)]:N Xg))]):=by
 intro f
 induction f with
 | zero=>intro b0 b2 b3 b4 b7 b11 h; simp at h
 | succ f ih=>
  intro b0 b2 b3 b4 b7 b11
  refine B3 ⟨?_,?_,?_,?_,?_,?_,?_,?_,?_,?_,?_,?_,?_,⟨⟩⟩<;>try first | (intro h; cases h; done) | (intro h0 hw; obtain rfl:=hz h0 rfl; (try obtain rfl:=hq hw 0 rfl rfl); (try obtain rfl:=hq hw 2 rfl rfl); (try obtain rfl:=hq hw 3 rfl rfl); (try obtain rfl:=hq hw 4 rfl rfl); (try obtain rfl:=hq hw 7 rfl rfl); refine np ?_; simp only[F0,cdt,cdf,A1,A,B,C,E,F,J]; exact ih _ _ _ _ _ _)
  ·intro h0 hw
   obtain rfl:=hq hw 0 rfl rfl
   obtain rfl:=hq hw 2 rfl rfl
   obtain rfl:=hq hw 3 rfl rfl
   obtain rfl:=hq hw 4 rfl rfl
   obtain rfl:=hq hw 7 rfl rfl
   obtain rfl:=hq hw 11 rfl rfl
   refine np ?_
   try simp only[F0,cdt,cdf,A1,A,B,C,E,F,J]
   exact F9o r1 v3 v4 v8 r10 r11 h11 h12 _
theorem F9i(r1:Xn × X1)(v3 v4:O)(v8:N Xg)(r10 r11:O × X1)(h11:A4 r10.2 (60:O)=H r11)(h12:(D1 v8.length ([(⟨v3,(zF .i64 (r10.1 - (40:O))),(zF .i64 ((zF .i64 (r10.1 - (40:O)))+r11.1))⟩:Xg)]:N Xg).length 24)=T):∀(f:Q) (b0 b1:P) (b2 b3:P) (b4 b7:P),E3 X A1d (V0 r1 v3 v4 v8 r10 r11) f [b0,b1,b2,b3,b4,T,T,b7,T,T,G,G,G] (F0 v3 v4 r10 r11 (vc (.own 131200)) b0 b1 b2 b3 b4 T T b7 T T G G [(99999999999,(dm r11.2.row)),(2,[aI (0:O),.nil,.nil]),(3,[aI r1.1.Mean,aL (W Z r1.1.Parts),.own 131200])] [(131200,3,W zA v8),(1856,3,W zA ([(⟨v3,(zF .i64 (r10.1 - (40:O))),(zF .i64 ((zF .i64 (r10.1 - (40:O)))+r11.1))⟩:Xg)]:N Xg))]):=by
 intro f
 induction f with
 | zero=>intro b0 b1 b2 b3 b4 b7 h; simp at h
 | succ f ih=>
  intro b0 b1 b2 b3 b4 b7
  refine B3 ⟨?_,?_,?_,?_,?_,?_,?_,?_,?_,?_,?_,?_,?_,⟨⟩⟩<;>try first | (intro h; cases h; done) | (intro _ hw; simp at hw; done) | (intro h0 hw; obtain rfl:=hz h0 rfl; (try obtain rfl:=hq hw 0 rfl rfl); (try obtain rfl:=hq hw 4 rfl rfl); refine np ?_; simp only[F0,cdt,cdf,A1,A,B,C,E,F,J]; exact ih _ _ _ _ _ _)
  ·intro h0 hw
   obtain rfl:=hq hw 1 rfl rfl
   refine np ?_
   try simp only[h12,F0,cdt,cdf,A1,A,B,C,E,F,J]
   exact G0l r1 v3 v4 v8 r10 r11 h11 h12 _ b0 b2 b3 b4 b7 G
theorem F9v(r1:Xn × X1)(v3 v4:O)(v8:N Xg)(r10 r11:O × X1)(h11:A4 r10.2 (60:O)=H r11)(h12:(D1 v8.length ([(⟨v3,(zF .i64 (r10.1 - (40:O))),(zF .i64 ((zF .i64 (r10.1 - (40:O)))+r11.1))⟩:Xg)]:N Xg).length 24)=T):∀(f:Q) (b0 b1:P) (b2 b3:P) (b4 b7 b8:P),E3 X A1d (V0 r1 v3 v4 v8 r10 r11) f [b0,b1,b2,b3,b4,T,T,b7,b8,G,G,G,G] (F0 v3 v4 r10 r11 (vc (.own 131200)) b0 b1 b2 b3 b4 T T b7 b8 G G G [(99999999999,(dm r11.2.row)),(2,[aI (0:O),.nil,.nil]),(3,[aI r1.1.Mean,aL (W Z r1.1.Parts),.own 131200])] [(131200,3,W zA v8)]):=by
 intro f
 induction f with
 | zero=>intro b0 b1 b2 b3 b4 b7 b8 h; simp at h
 | succ f ih=>
  intro b0 b1 b2 b3 b4 b7 b8
  refine B3 ⟨?_,?_,?_,?_,?_,?_,?_,?_,?_,?_,?_,?_,?_,⟨⟩⟩<;>try first | (intro h; cases h; done) | (intro _ hw; simp at hw; done) | (intro h0 hw; obtain rfl:=hz h0 rfl; (try obtain rfl:=hq hw 0 rfl rfl); (try obtain rfl:=hq hw 2 rfl rfl); (try obtain rfl:=hq hw 3 rfl rfl); (try obtain rfl:=hq hw 4 rfl rfl); (try obtain rfl:=hq hw 7 rfl rfl); refine np ?_; simp only[F0,cdt,cdf,A1,A,B,C,E,F,J]; exact ih _ _ _ _ _ _ _)
  ·intro h0 hw
   obtain rfl:=hq hw 8 rfl rfl
   refine np ?_
   try simp only[F0,cdt,cdf,A1,A,B,C,E,F,J]
   refine C7 (es:=W zA ([(⟨v3,(zF .i64 (r10.1 - (40:O))),(zF .i64 ((zF .i64 (r10.1 - (40:O)))+r11.1))⟩:Xg)]:N Xg)) V (by simp only[St.fresh,zC,zD,P8]; simp[AV.cells,V1.cells,AC.uses]) ?_
   try simp only[A1,A,B,C,E,F,J]
   exact F9i r1 v3 v4 v8 r10 r11 h11 h12 _ b0 b1 b2 b3 b4 b7
theorem G0c(r1:Xn × X1)(v3 v4:O)(v8:N Xg)(r10 r11:O × X1)(h11:A4 r10.2 (60:O)=H r11)(h12:(D1 v8.length ([(⟨v3,(zF .i64 (r10.1 - (40:O))),(zF .i64 ((zF .i64 (r10.1 - (40:O)))+r11.1))⟩:Xg)]:N Xg).length 24)=T):∀(f:Q) (b0 b1:P) (b2 b3:P) (b4 b5:P),E3 X A1d (V0 r1 v3 v4 v8 r10 r11) f [b0,b1,b2,b3,b4,b5,G,G,G,G,G,G,G] (F0 v3 v4 r10 r11 (vc (.own 131200)) b0 b1 b2 b3 b4 b5 G G G G G G [(99999999999,(dm r10.2.row)),(2,[aI (0:O),.nil,.nil]),(3,[aI r1.1.Mean,aL (W Z r1.1.Parts),.own 131200])] [(131200,3,W zA v8)]):=by
 intro f
 induction f with
 | zero=>intro b0 b1 b2 b3 b4 b5 h; simp at h
 | succ f ih=>
  intro b0 b1 b2 b3 b4 b5
  refine B3 ⟨?_,?_,?_,?_,?_,?_,?_,?_,?_,?_,?_,?_,?_,⟨⟩⟩<;>try first | (intro _ hw; simp at hw; done) | (intro h0 hw; obtain rfl:=hz h0 rfl; (try obtain rfl:=hq hw 0 rfl rfl); refine np ?_; simp only[F0,cdt,cdf,A1,A,B,C,E,F,J]; exact ih _ _ _ _ _ _)
  ·intro h0 hw
   obtain rfl:=hq hw 5 rfl rfl
   refine np ?_
   try simp only[F0,cdt,cdf,A1,A,B,C,E,F,J]
   refine B7 (B5 _ _ _ h11) 99999999999 V V V ?_
   try simp only[A1,A,B,C,E,F,J]
   exact F9v r1 v3 v4 v8 r10 r11 h11 h12 _ b0 b1 b2 b3 b4 G G
theorem F9z(r1:Xn × X1):∀(n:Q) (v3 v4:O) (v5:N O) (v6 v7:O) (v8:N Xg) (r:Xf × X1),Q3 r1 n v3 v4 v5 v6 v7 v8=H r→∀σ:St,σ.kept [0,2,3,4,5] [99999999999,2,3] [131200]=⟨[(0,vc (.pb 99999999999 0)),(2,vc (.pb 2 0)),(3,vc (.pb 3 0)),(4,vc (aI v3)),(5,vc (aI v4))],[(99999999999,[aL (W r8 v5),aI v6,aI v7]),(2,[aI (0:O),.nil,.nil]),(3,[aI r1.1.Mean,aL (W Z r1.1.Parts),.own 131200])],[(131200,3,W zA v8)]⟩→go X (.code (.loop D29):: [.blk 0,.code D8w]) (B4u [.c 2 T 3] [.ag [.v (.int .i64 r.1.Tide.Mean),.v (.sl (W Z r.1.Tide.Parts)),.v (.sl (W zA r.1.Surges))]] [.sl (W r8 r.2.b),.int .i64 r.2.i,.int .i64 r.2.h]) .normal (H σ):=by
 intro n
 induction n with
 | zero=>intro _ _ _ _ _ _ r h; cases h
 | succ n ih=>
  intro v3 v4 v5 v6 v7 v8 r h σ hσ
  rw[Q3] at h
  refine B0 ?_
  rcases ic h with ⟨h9,h⟩|⟨h9,h⟩
  ·obtain⟨r10,h10,h⟩:=ob h
   try simp only[hσ,h9,D29,A,B,C,E,F,J]
   refine B7 (B5 _ _ _ h10) 99999999999 V V V ?_
   try simp only[h9,A,B,C,E,F,J]
   obtain⟨r11,h11,h⟩:=ob h
   obtain⟨h12,h⟩:=D3 h
   refine A4w (ks:= [0,2,3,4,5,6]) (bs:= [99999999999,2,3]) (rs:= [131200]) (τ:=(V0 r1 v3 v4 v8 r10 r11)) V (G0c r1 v3 v4 v8 r10 r11 h11 h12 _ G G G G G G) ?_
   simp only[V0,F0,cdt]
   obtain⟨r13,h13,h⟩:=ob h
   try simp only[h9,h12,A,B,C,E,F,J]
   refine B7 (B5 _ _ _ h13) 99999999999 V V V ?_
   try simp only[h9,h12,A,B,C,E,F,J]
   refine ih _ _ _ _ _ _ _ h _ ?_
   try simp only[h9,h12,A,B,C,E,F,J,Y]
  ·try simp only[hσ,h9,D29,D8w,A,B,C,E,F,J]
   refine O5 V ?_
   try simp only[h9,A,B,C,E,F,J]
   cases h
   try simp only[Q8,A,B,C,E,F,J]
   trivial
theorem F97:A5 X 260=H (cc26.strip,[.c 2 T 3],38):=by kernel_rfl
theorem C2n(a0:X1)(r:Xf × X1)(h:A3j a0=H r):FCy X 260 [.p] [.sl (W r8 a0.b),.int .i64 a0.i,.int .i64 a0.h] [.sl (W r8 r.2.b),.int .i64 r.2.i,.int .i64 r.2.h] [.ag [.v (.int .i64 r.1.Tide.Mean),.v (.sl (W Z r.1.Tide.Parts)),.v (.sl (W zA r.1.Surges))]]:=by
 unfold A3j at h
 refine A30 (σ:=⟨[(0,vc (.pb 99999999999 0))],[(99999999999,[aL (W r8 a0.b),aI a0.i,aI a0.h])],[]⟩) A7 F97 V V ?_
 simp only[cc26]
 try simp only[A,B,C,E,F,J]
 refine D7 V V ?_
 obtain⟨r1,h1,h⟩:=ob h
 try simp only[A,B,C,E,F,J]
 refine B7 (C25 _ _ h1) 99999999999 V V V ?_
 try simp only[A,B,C,E,F,J]
 refine D7 V V ?_
 try simp only[A,B,C,E,F,J]
 refine A47 (cs':= [aI r1.1.Mean,aL (W Z r1.1.Parts),.own 131200]) V V V V ?_
 obtain⟨r2,h2,h⟩:=ob h
 try simp only[A,B,C,E,F,J]
 refine B7 (B5 _ _ _ h2) 99999999999 V V V ?_
 try simp only[A,B,C,E,F,J]
 refine F9z _ _ _ _ _ _ _ _ _ h _ ?_
 try simp only[A,B,C,E,F,J,Y]
/- 176:spec_l01Once -/
def cc34:X2:=(.seq (.reg [(L,.mv 4 (KB G))]) (.seq (.reg [mv 5 0,mv 6 1,ca 7 120 [S 5,S 6],(L,.bin 8 .eql (S 7) (K 0)),mv 4 8]) .ret))
theorem F9r:A5 X 176=H (cc34.strip,[4],9):=by kernel_rfl
theorem A0j(a0:X1)(a1:O)(r:P × X1)(h:J1 a0 a1=H r):FCy X 176 [.p,.d (.sc (.int .i64 a1))] [.sl (W r8 a0.b),.int .i64 a0.i,.int .i64 a0.h] [.sl (W r8 r.2.b),.int .i64 r.2.i,.int .i64 r.2.h] [.sc (.v (.bool r.1))]:=by
 unfold J1 at h
 refine A30 (σ:=⟨[(0,vc (.pb 99999999999 0)),(1,vc (aI a1))],[(99999999999,[aL (W r8 a0.b),aI a0.i,aI a0.h])],[]⟩) A7 F9r V V ?_
 simp only[cc34]
 obtain⟨r1,h1,h⟩:=ob h
 try simp only[A,B,C,E,F,J]
 refine B7 (B5 _ _ _ h1) 99999999999 V V V ?_
 try simp only[A,B,C,E,F,J]
 cases h
 trivial
/- 261:spec_l05Draw -/
def Y0:N (N Q × AItem):= [([],(L,.faddr 39 (S 3) 1)),([0],(L,.load 40 (S 39) G 1)),([],(L,.mv 41 (S 0))),([2],(L,.call 42 120 [(S 41),(K 300)])),([3],(L,.bin 43 .add (K 700) (S 42))),([],(L,.mv 44 (S 0))),([5,3],(L,.call 45 120 [(S 44),(K 30)])),([6],(L,.bin 46 .add (K 20) (S 45))),([4,7],(L,.build 47 [aI 0,aI 0,aI 0,aI 0,aB G] [(0,1,(K 3)),(1,1,(K 1)),(2,1,(S 43)),(3,1,(S 46)),(4,1,(KB T))])),([8],(L,.bslice 48 5 [.int .i64 0,.int .i64 0,.int .i64 0,.int .i64 0,.bool G] 1 [(0,(S 47))])),([1,9,6],(L,.app 49 5 40 (S 40) (S 48))),([0,1,2,3,4,5,6,7,8,9,10],(L,.faddr 50 (S 3) 1)),([11,10,10,0,1,2,3,4,5,6,7,8,9,10],(L,.store (S 50) (S 49) 1))]
def A1c:N (N Q × AItem):= [([],(L,.faddr 59 (S 3) 1)),([0],(L,.load 60 (S 59) G 1)),([],(L,.mv 61 (S 0))),([2],(L,.call 62 120 [(S 61),(K 300)])),([3],(L,.bin 63 .add (K 800) (S 62))),([4],(L,.build 64 [aI 0,aI 0,aI 0,aI 0,aB G] [(0,1,(K 2)),(1,1,(K 4)),(2,1,(S 63)),(3,1,(K 15))])),([5],(L,.bslice 65 5 [.int .i64 0,.int .i64 0,.int .i64 0,.int .i64 0,.bool G] 1 [(0,(S 64))])),([1,6,3],(L,.app 66 5 40 (S 60) (S 65))),([0,1,2,3,4,5,6,7],(L,.faddr 67 (S 3) 1)),([8,7,7,0,1,2,3,4,5,6,7],(L,.store (S 67) (S 66) 1))]
def D8s:X2:= .seq (.reg [(L,.keep [0,2,3] [99999999999,2,3] [640,2240])]) (.seq (.seq (.reg [mv 51 0,ca 52 176 [S 51,K 3]]) (.cond (S 52) (.seq (.reg [fa 53 3 0,ld 54 53,(L,.build 55 [aS [],aB G] [(0,1,(KS [100,111,99,107])),(1,1,(KB T))]),(L,.bslice 56 2 [.str [],.bool G] 1 [(0,(S 55))]),(L,.app 57 2 24 (S 54) (S 56)),fa 58 3 0,so 58 57 1]) (.any A1c)) .skip)) (.seq (.reg [(L,.frz 640),(L,.frz 2240),lw 68 3 2,so 2 68 2]) .ret))
def cc37:X2:=(.seq (.reg [(L,.alloc 2 [.nil,.nil])]) (.seq (.reg [(L,.build 4 [aS [],aB G] [(0,1,(KS [115,101,97])),(1,1,(KB T))]),(L,.build 5 [aS [],aB G] [(0,1,(KS [98,97,114]))]),mv 6 0,ca 7 176 [S 6,K 2],(L,.build 8 [aS [],aB G] [(0,1,(KS [114,111,97,100])),(1,1,(S 7))]),(L,.build 9 [aS [],aB G] [(0,1,(KS [113,117,97,121])),(1,1,(KB T))]),(L,.bslice 10 2 [.str [],.bool G] 4 [(0,(S 4)),(1,(S 5)),(2,(S 8)),(3,(S 9))]),(L,.build 11 [.nil,.nil] [(0,1,(S 10))]),(L,.alloc 3 [.nil,.nil]),so 3 11 2]) (.seq (.reg [mv 12 0,ca 13 120 [S 12,K 300],(L,.bin 14 .add (K 900) (S 13)),mv 15 0,ca 16 120 [S 15,K 40],(L,.bin 17 .add (K 10) (S 16)),(L,.build 18 [aI 0,aI 0,aI 0,aI 0,aB G] [(0,1,(K 0)),(1,1,(K 1)),(2,1,(S 14)),(3,1,(S 17))]),mv 19 0,ca 20 120 [S 19,K 300],(L,.bin 21 .add (K 800) (S 20)),mv 22 0,ca 23 120 [S 22,K 30],(L,.bin 24 .add (K 10) (S 23)),mv 25 0,ca 26 176 [S 25,K 2],(L,.build 27 [aI 0,aI 0,aI 0,aI 0,aB G] [(0,1,(K 1)),(1,1,(K 2)),(2,1,(S 21)),(3,1,(S 24)),(4,1,(S 26))]),mv 28 0,ca 29 120 [S 28,K 200],(L,.bin 30 .add (K 900) (S 29)),mv 31 0,ca 32 120 [S 31,K 20],(L,.bin 33 .add (K 5) (S 32)),(L,.build 34 [aI 0,aI 0,aI 0,aI 0,aB G] [(0,1,(K 2)),(1,1,(K 3)),(2,1,(S 30)),(3,1,(S 33))]),(L,.bslice 35 5 [.int .i64 0,.int .i64 0,.int .i64 0,.int .i64 0,.bool G] 3 [(0,(S 18)),(1,(S 27)),(2,(S 34))]),fa 36 3 1,so 36 35 1]) (.seq (.seq (.reg [mv 37 0,ca 38 176 [S 37,K 3]]) (.cond (S 38) (.any Y0) .skip)) D8s))))
abbrev E0(r12 r13:O × X1)(wo1_:AV)(c0_ c1_:P)(c2_ c3_:P)(c4_ c5_:P)(c6_ c7_:P)(c8_ c9_:P)(c10_ c11_:P)(bx_:N (Q × N AC))(rs_:Rows):St:=⟨[(0,vc (.pb 99999999999 0)),(2,vc (.pb 2 0)),(3,vc (.pb 3 0)),(39,bif c0_ then vc (.pb 3 1) else .undef),(40,bif c1_ then wo1_ else .undef),(41,bif c2_ then vc (.pb 99999999999 0) else .undef),(42,bif c3_ then vc (aI r12.1) else .undef),(43,bif c4_ then vc (aI (zF .i64 ((700:O)+r12.1))) else .undef),(44,bif c5_ then vc (.pb 99999999999 0) else .undef),(45,bif c6_ then vc (aI r13.1) else .undef),(46,bif c7_ then vc (aI (zF .i64 ((20:O)+r13.1))) else .undef),(47,bif c8_ then va [aI (3:O),aI (1:O),aI (zF .i64 ((700:O)+r12.1)),aI (zF .i64 ((20:O)+r13.1)),aB T] else .undef),(48,bif c9_ then vc (.own 3072) else .undef),(49,bif c10_ then vc (.own 2240) else .undef),(50,bif c11_ then vc (.pb 3 1) else .undef)],bx_,rs_⟩
abbrev P7(r1:P × X1)(r2 r3:O × X1)(r4 r5:O × X1)(r6:P × X1)(r7 r9:O × X1)(r12 r13:O × X1):St:=(E0 r12 r13 (vc (.undef)) T T T T T T T T T T T T [(99999999999,(dm r13.2.row)),(2,[.nil,.nil]),(3,[.own 640,.own 2240])] [(640,2,W I ([(⟨([115,101,97]:N U),T⟩:Xc),(⟨([98,97,114]:N U),G⟩:Xc),(⟨([114,111,97,100]:N U),r1.1⟩:Xc),(⟨([113,117,97,121]:N U),T⟩:Xc)]:N Xc)),(2240,5,W X3.row (([(⟨(0:O),(1:O),(zF .i64 ((900:O)+r2.1)),(zF .i64 ((10:O)+r3.1)),G⟩:X3),(⟨(1:O),(2:O),(zF .i64 ((800:O)+r4.1)),(zF .i64 ((10:O)+r5.1)),r6.1⟩:X3),(⟨(2:O),(3:O),(zF .i64 ((900:O)+r7.1)),(zF .i64 ((5:O)+r9.1)),G⟩:X3)]:N X3)++([(⟨(3:O),(1:O),(zF .i64 ((700:O)+r12.1)),(zF .i64 ((20:O)+r13.1)),T⟩:X3)]:N X3))),(3072,5,W X3.row ([(⟨(3:O),(1:O),(zF .i64 ((700:O)+r12.1)),(zF .i64 ((20:O)+r13.1)),T⟩:X3)]:N X3))])
theorem F96(r1:P × X1)(r2 r3:O × X1)(r4 r5:O × X1)(r6:P × X1)(r7 r9:O × X1)(r10:P × X1)(r12 r13:O × X1)(h12:A4 r10.2 (300:O)=H r12)(h13:A4 r12.2 (30:O)=H r13)(h14:(D1 ([(⟨(0:O),(1:O),(zF .i64 ((900:O)+r2.1)),(zF .i64 ((10:O)+r3.1)),G⟩:X3),(⟨(1:O),(2:O),(zF .i64 ((800:O)+r4.1)),(zF .i64 ((10:O)+r5.1)),r6.1⟩:X3),(⟨(2:O),(3:O),(zF .i64 ((900:O)+r7.1)),(zF .i64 ((5:O)+r9.1)),G⟩:X3)]:N X3).length ([(⟨(3:O),(1:O),(zF .i64 ((700:O)+r12.1)),(zF .i64 ((20:O)+r13.1)),T⟩:X3)]:N X3).length 40)=T):∀(f:Q),E3 X Y0 (P7 r1 r2 r3 r4 r5 r6 r7 r9 r12 r13) f [T,T,T,T,T,T,T,T,T,T,T,T,T] (E0 r12 r13 (vc (.undef)) T T T T T T T T T T T T [(99999999999,(dm r13.2.row)),(2,[.nil,.nil]),(3,[.own 640,.own 2240])] [(640,2,W I ([(⟨([115,101,97]:N U),T⟩:Xc),(⟨([98,97,114]:N U),G⟩:Xc),(⟨([114,111,97,100]:N U),r1.1⟩:Xc),(⟨([113,117,97,121]:N U),T⟩:Xc)]:N Xc)),(2240,5,W X3.row (([(⟨(0:O),(1:O),(zF .i64 ((900:O)+r2.1)),(zF .i64 ((10:O)+r3.1)),G⟩:X3),(⟨(1:O),(2:O),(zF .i64 ((800:O)+r4.1)),(zF .i64 ((10:O)+r5.1)),r6.1⟩:X3),(⟨(2:O),(3:O),(zF .i64 ((900:O)+r7.1)),(zF .i64 ((5:O)+r9.1)),G⟩:X3)]:N X3)++([(⟨(3:O),(1:O),(zF .i64 ((700:O)+r12.1)),(zF .i64 ((20:O)+r13.1)),T⟩:X3)]:N X3))),(3072,5,W X3.row ([(⟨(3:O),(1:O),(zF .i64 ((700:O)+r12.1)),(zF .i64 ((20:O)+r13.1)),T⟩:X3)]:N X3))]):=by
 intro f
 induction f with
 | zero=>intro h; rfl
 | succ f ih=>
  refine B3 ⟨?_,?_,?_,?_,?_,?_,?_,?_,?_,?_,?_,?_,?_,⟨⟩⟩<;>try first | (intro h; cases h; done)
theorem F99(r1:P × X1)(r2 r3:O × X1)(r4 r5:O × X1)(r6:P × X1)(r7 r9:O × X1)(r10:P × X1)(r12 r13:O × X1)(h12:A4 r10.2 (300:O)=H r12)(h13:A4 r12.2 (30:O)=H r13)(h14:(D1 ([(⟨(0:O),(1:O),(zF .i64 ((900:O)+r2.1)),(zF .i64 ((10:O)+r3.1)),G⟩:X3),(⟨(1:O),(2:O),(zF .i64 ((800:O)+r4.1)),(zF .i64 ((10:O)+r5.1)),r6.1⟩:X3),(⟨(2:O),(3:O),(zF .i64 ((900:O)+r7.1)),(zF .i64 ((5:O)+r9.1)),G⟩:X3)]:N X3).length ([(⟨(3:O),(1:O),(zF .i64 ((700:O)+r12.1)),(zF .i64 ((20:O)+r13.1)),T⟩:X3)]:N X3).length 40)=T):∀(f:Q) (b0 b4:P) (b7 b11:P),E3 X Y0 (P7 r1 r2 r3 r4 r5 r6 r7 r9 r12 r13) f [b0,T,T,T,b4,T,T,b7,T,T,T,b11,G] (E0 r12 r13 (vc (.undef)) b0 T T T b4 T T b7 T T T b11 [(99999999999,(dm r13.2.row)),(2,[.nil,.nil]),(3,[.own 640,.undef])] [(640,2,W I ([(⟨([115,101,97]:N U),T⟩:Xc),(⟨([98,97,114]:N U),G⟩:Xc),(⟨([114,111,97,100]:N U),r1.1⟩:Xc),(⟨([113,117,97,121]:N U),T⟩:Xc)]:N Xc)),(2240,5,W X3.row (([(⟨(0:O),(1:O),(zF .i64 ((900:O)+r2.1)),(zF .i64 ((10:O)+r3.1)),G⟩:X3),(⟨(1:O),(2:O),(zF .i64 ((800:O)+r4.1)),(zF .i64 ((10:O)+r5.1)),r6.1⟩:X3),(⟨(2:O),(3:O),(zF .i64 ((900:O)+r7.1)),(zF .i64 ((5:O)+r9.1)),G⟩:X3)]:N X3)++([(⟨(3:O),(1:O),(zF .i64 ((700:O)+r12.1)),(zF .i64 ((20:O)+r13.1)),T⟩:X3)]:N X3))),(3072,5,W X3.row ([(⟨(3:O),(1:O),(zF .i64 ((700:O)+r12.1)),(zF .i64 ((20:O)+r13.1)),T⟩:X3)]:N X3))]):=by
 intro f
 induction f with
 | zero=>intro b0 b4 b7 b11 h; simp at h
 | succ f ih=>
  intro b0 b4 b7 b11
  refine B3 ⟨?_,?_,?_,?_,?_,?_,?_,?_,?_,?_,?_,?_,?_,⟨⟩⟩<;>try first | (intro h; cases h; done) | (intro h0 hw; obtain rfl:=hz h0 rfl; (try obtain rfl:=hq hw 0 rfl rfl); (try obtain rfl:=hq hw 4 rfl rfl); (try obtain rfl:=hq hw 7 rfl rfl); refine np ?_; simp only[E0,cdt,cdf,A1,A,B,C,E,F,J]; exact ih _ _ _ _)
  ·intro h0 hw
   obtain rfl:=hq hw 0 rfl rfl
   obtain rfl:=hq hw 4 rfl rfl
   obtain rfl:=hq hw 7 rfl rfl
   obtain rfl:=hq hw 11 rfl rfl
   refine np ?_
   try simp only[E0,cdt,cdf,A1,A,B,C,E,F,J]
   exact F96 r1 r2 r3 r4 r5 r6 r7 r9 r10 r12 r13 h12 h13 h14 _
theorem F9m(r1:P × X1)(r2 r3:O × X1)(r4 r5:O × X1)(r6:P × X1)(r7 r9:O × X1)(r10:P × X1)(r12 r13:O × X1)(h12:A4 r10.2 (300:O)=H r12)(h13:A4 r12.2 (30:O)=H r13)(h14:(D1 ([(⟨(0:O),(1:O),(zF .i64 ((900:O)+r2.1)),(zF .i64 ((10:O)+r3.1)),G⟩:X3),(⟨(1:O),(2:O),(zF .i64 ((800:O)+r4.1)),(zF .i64 ((10:O)+r5.1)),r6.1⟩:X3),(⟨(2:O),(3:O),(zF .i64 ((900:O)+r7.1)),(zF .i64 ((5:O)+r9.1)),G⟩:X3)]:N X3).length ([(⟨(3:O),(1:O),(zF .i64 ((700:O)+r12.1)),(zF .i64 ((20:O)+r13.1)),T⟩:X3)]:N X3).length 40)=T):∀(f:Q) (b0 b1:P) (b4 b7:P),E3 X Y0 (P7 r1 r2 r3 r4 r5 r6 r7 r9 r12 r13) f [b0,b1,T,T,b4,T,T,b7,T,T,G,G,G] (E0 r12 r13 (vc (.own 2240)) b0 b1 T T b4 T T b7 T T G G [(99999999999,(dm r13.2.row)),(2,[.nil,.nil]),(3,[.own 640,.own 2240])] [(640,2,W I ([(⟨([115,101,97]:N U),T⟩:Xc),(⟨([98,97,114]:N U),G⟩:Xc),(⟨([114,111,97,100]:N U),r1.1⟩:Xc),(⟨([113,117,97,121]:N U),T⟩:Xc)]:N Xc)),(2240,5,W X3.row ([(⟨(0:O),(1:O),(zF .i64 ((900:O)+r2.1)),(zF .i64 ((10:O)+r3.1)),G⟩:X3),(⟨(1:O),(2:O),(zF .i64 ((800:O)+r4.1)),(zF .i64 ((10:O)+r5.1)),r6.1⟩:X3),(⟨(2:O),(3:O),(zF .i64 ((900:O)+r7.1)),(zF .i64 ((5:O)+r9.1)),G⟩:X3)]:N X3)),(3072,5,W X3.row ([(⟨(3:O),(1:O),(zF .i64 ((700:O)+r12.1)),(zF .i64 ((20:O)+r13.1)),T⟩:X3)]:N X3))]):=by
 intro f
 induction f with
 | zero=>intro b0 b1 b4 b7 h; simp at h
 | succ f ih=>
  intro b0 b1 b4 b7
  refine B3 ⟨?_,?_,?_,?_,?_,?_,?_,?_,?_,?_,?_,?_,?_,⟨⟩⟩<;>try first | (intro h; cases h; done) | (intro _ hw; simp at hw; done) | (intro h0 hw; obtain rfl:=hz h0 rfl; (try obtain rfl:=hq hw 0 rfl rfl); refine np ?_; simp only[E0,cdt,cdf,A1,A,B,C,E,F,J]; exact ih _ _ _ _)
  ·intro h0 hw
   obtain rfl:=hq hw 1 rfl rfl
   refine np ?_
   try simp only[h14,E0,cdt,cdf,A1,A,B,C,E,F,J]
   exact F99 r1 r2 r3 r4 r5 r6 r7 r9 r10 r12 r13 h12 h13 h14 _ b0 b4 b7 G
theorem F91(r1:P × X1)(r2 r3:O × X1)(r4 r5:O × X1)(r6:P × X1)(r7 r9:O × X1)(r10:P × X1)(r12 r13:O × X1)(h12:A4 r10.2 (300:O)=H r12)(h13:A4 r12.2 (30:O)=H r13)(h14:(D1 ([(⟨(0:O),(1:O),(zF .i64 ((900:O)+r2.1)),(zF .i64 ((10:O)+r3.1)),G⟩:X3),(⟨(1:O),(2:O),(zF .i64 ((800:O)+r4.1)),(zF .i64 ((10:O)+r5.1)),r6.1⟩:X3),(⟨(2:O),(3:O),(zF .i64 ((900:O)+r7.1)),(zF .i64 ((5:O)+r9.1)),G⟩:X3)]:N X3).length ([(⟨(3:O),(1:O),(zF .i64 ((700:O)+r12.1)),(zF .i64 ((20:O)+r13.1)),T⟩:X3)]:N X3).length 40)=T):∀(f:Q) (b0 b1:P) (b4 b7 b8:P),E3 X Y0 (P7 r1 r2 r3 r4 r5 r6 r7 r9 r12 r13) f [b0,b1,T,T,b4,T,T,b7,b8,G,G,G,G] (E0 r12 r13 (vc (.own 2240)) b0 b1 T T b4 T T b7 b8 G G G [(99999999999,(dm r13.2.row)),(2,[.nil,.nil]),(3,[.own 640,.own 2240])] [(640,2,W I ([(⟨([115,101,97]:N U),T⟩:Xc),(⟨([98,97,114]:N U),G⟩:Xc),(⟨([114,111,97,100]:N U),r1.1⟩:Xc),(⟨([113,117,97,121]:N U),T⟩:Xc)]:N Xc)),(2240,5,W X3.row ([(⟨(0:O),(1:O),(zF .i64 ((900:O)+r2.1)),(zF .i64 ((10:O)+r3.1)),G⟩:X3),(⟨(1:O),(2:O),(zF .i64 ((800:O)+r4.1)),(zF .i64 ((10:O)+r5.1)),r6.1⟩:X3),(⟨(2:O),(3:O),(zF .i64 ((900:O)+r7.1)),(zF .i64 ((5:O)+r9.1)),G⟩:X3)]:N X3))]):=by
 intro f
 induction f with
 | zero=>intro b0 b1 b4 b7 b8 h; simp at h
 | succ f ih=>
  intro b0 b1 b4 b7 b8
  refine B3 ⟨?_,?_,?_,?_,?_,?_,?_,?_,?_,?_,?_,?_,?_,⟨⟩⟩<;>try first | (intro h; cases h; done) | (intro _ hw; simp at hw; done) | (intro h0 hw; obtain rfl:=hz h0 rfl; (try obtain rfl:=hq hw 0 rfl rfl); (try obtain rfl:=hq hw 4 rfl rfl); (try obtain rfl:=hq hw 7 rfl rfl); refine np ?_; simp only[E0,cdt,cdf,A1,A,B,C,E,F,J]; exact ih _ _ _ _ _)
  ·intro h0 hw
   obtain rfl:=hq hw 8 rfl rfl
   refine np ?_
   try simp only[E0,cdt,cdf,A1,A,B,C,E,F,J]
   refine C7 (es:=W X3.row ([(⟨(3:O),(1:O),(zF .i64 ((700:O)+r12.1)),(zF .i64 ((20:O)+r13.1)),T⟩:X3)]:N X3)) V (by simp only[St.fresh,zC,zD,P8]; simp[AV.cells,V1.cells,AC.uses]) ?_
   try simp only[A1,A,B,C,E,F,J]
   exact F9m r1 r2 r3 r4 r5 r6 r7 r9 r10 r12 r13 h12 h13 h14 _ b0 b1 b4 b7
theorem F90(r1:P × X1)(r2 r3:O × X1)(r4 r5:O × X1)(r6:P × X1)(r7 r9:O × X1)(r10:P × X1)(r12 r13:O × X1)(h12:A4 r10.2 (300:O)=H r12)(h13:A4 r12.2 (30:O)=H r13)(h14:(D1 ([(⟨(0:O),(1:O),(zF .i64 ((900:O)+r2.1)),(zF .i64 ((10:O)+r3.1)),G⟩:X3),(⟨(1:O),(2:O),(zF .i64 ((800:O)+r4.1)),(zF .i64 ((10:O)+r5.1)),r6.1⟩:X3),(⟨(2:O),(3:O),(zF .i64 ((900:O)+r7.1)),(zF .i64 ((5:O)+r9.1)),G⟩:X3)]:N X3).length ([(⟨(3:O),(1:O),(zF .i64 ((700:O)+r12.1)),(zF .i64 ((20:O)+r13.1)),T⟩:X3)]:N X3).length 40)=T):∀(f:Q) (b0 b1:P) (b4 b5:P),E3 X Y0 (P7 r1 r2 r3 r4 r5 r6 r7 r9 r12 r13) f [b0,b1,T,T,b4,b5,G,G,G,G,G,G,G] (E0 r12 r13 (vc (.own 2240)) b0 b1 T T b4 b5 G G G G G G [(99999999999,(dm r12.2.row)),(2,[.nil,.nil]),(3,[.own 640,.own 2240])] [(640,2,W I ([(⟨([115,101,97]:N U),T⟩:Xc),(⟨([98,97,114]:N U),G⟩:Xc),(⟨([114,111,97,100]:N U),r1.1⟩:Xc),(⟨([113,117,97,121]:N U),T⟩:Xc)]:N Xc)),(2240,5,W X3.row ([(⟨(0:O),(1:O),(zF .i64 ((900:O)+r2.1)),(zF .i64 ((10:O)+r3.1)),G⟩:X3),(⟨(1:O),(2:O),(zF .i64 ((800:O)+r4.1)),(zF .i64 ((10:O)+r5.1)),r6.1⟩:X3),(⟨(2:O),(3:O),(zF .i64 ((900:O)+r7.1)),(zF .i64 ((5:O)+r9.1)),G⟩:X3)]:N X3))]):=by
 intro f
 induction f with
 | zero=>intro b0 b1 b4 b5 h; simp at h
 | succ f ih=>
  intro b0 b1 b4 b5
  refine B3 ⟨?_,?_,?_,?_,?_,?_,?_,?_,?_,?_,?_,?_,?_,⟨⟩⟩<;>try first | (intro h; cases h; done) | (intro _ hw; simp at hw; done) | (intro h0 hw; obtain rfl:=hz h0 rfl; (try obtain rfl:=hq hw 0 rfl rfl); refine np ?_; simp only[E0,cdt,cdf,A1,A,B,C,E,F,J]; exact ih _ _ _ _)
  ·intro h0 hw
   obtain rfl:=hq hw 5 rfl rfl
   refine np ?_
   try simp only[E0,cdt,cdf,A1,A,B,C,E,F,J]
   refine B7 (B5 _ _ _ h13) 99999999999 V V V ?_
   try simp only[A1,A,B,C,E,F,J]
   exact F91 r1 r2 r3 r4 r5 r6 r7 r9 r10 r12 r13 h12 h13 h14 _ b0 b1 b4 G G
theorem G0k(r1:P × X1)(r2 r3:O × X1)(r4 r5:O × X1)(r6:P × X1)(r7 r9:O × X1)(r10:P × X1)(r12 r13:O × X1)(h12:A4 r10.2 (300:O)=H r12)(h13:A4 r12.2 (30:O)=H r13)(h14:(D1 ([(⟨(0:O),(1:O),(zF .i64 ((900:O)+r2.1)),(zF .i64 ((10:O)+r3.1)),G⟩:X3),(⟨(1:O),(2:O),(zF .i64 ((800:O)+r4.1)),(zF .i64 ((10:O)+r5.1)),r6.1⟩:X3),(⟨(2:O),(3:O),(zF .i64 ((900:O)+r7.1)),(zF .i64 ((5:O)+r9.1)),G⟩:X3)]:N X3).length ([(⟨(3:O),(1:O),(zF .i64 ((700:O)+r12.1)),(zF .i64 ((20:O)+r13.1)),T⟩:X3)]:N X3).length 40)=T):∀(f:Q) (b0 b1:P) (b2 b5:P),E3 X Y0 (P7 r1 r2 r3 r4 r5 r6 r7 r9 r12 r13) f [b0,b1,b2,G,G,b5,G,G,G,G,G,G,G] (E0 r12 r13 (vc (.own 2240)) b0 b1 b2 G G b5 G G G G G G [(99999999999,(dm r10.2.row)),(2,[.nil,.nil]),(3,[.own 640,.own 2240])] [(640,2,W I ([(⟨([115,101,97]:N U),T⟩:Xc),(⟨([98,97,114]:N U),G⟩:Xc),(⟨([114,111,97,100]:N U),r1.1⟩:Xc),(⟨([113,117,97,121]:N U),T⟩:Xc)]:N Xc)),(2240,5,W X3.row ([(⟨(0:O),(1:O),(zF .i64 ((900:O)+r2.1)),(zF .i64 ((10:O)+r3.1)),G⟩:X3),(⟨(1:O),(2:O),(zF .i64 ((800:O)+r4.1)),(zF .i64 ((10:O)+r5.1)),r6.1⟩:X3),(⟨(2:O),(3:O),(zF .i64 ((900:O)+r7.1)),(zF .i64 ((5:O)+r9.1)),G⟩:X3)]:N X3))]):=by
 intro f
 induction f with
 | zero=>intro b0 b1 b2 b5 h; simp at h
 | succ f ih=>
  intro b0 b1 b2 b5
  refine B3 ⟨?_,?_,?_,?_,?_,?_,?_,?_,?_,?_,?_,?_,?_,⟨⟩⟩<;>try first | (intro _ hw; simp at hw; done) | (intro h0 hw; obtain rfl:=hz h0 rfl; (try obtain rfl:=hq hw 0 rfl rfl); refine np ?_; simp only[E0,cdt,cdf,A1,A,B,C,E,F,J]; exact ih _ _ _ _)
  ·intro h0 hw
   obtain rfl:=hq hw 2 rfl rfl
   refine np ?_
   try simp only[E0,cdt,cdf,A1,A,B,C,E,F,J]
   refine B7 (B5 _ _ _ h12) 99999999999 V V V ?_
   try simp only[A1,A,B,C,E,F,J]
   exact F90 r1 r2 r3 r4 r5 r6 r7 r9 r10 r12 r13 h12 h13 h14 _ b0 b1 G b5
abbrev F2(r23:O × X1)(wo1_:AV)(c0_ c1_:P)(c2_ c3_:P)(c4_ c5_:P)(c6_ c7_ c8_:P)(bx_:N (Q × N AC))(rs_:Rows):St:=⟨[(0,vc (.pb 99999999999 0)),(2,vc (.pb 2 0)),(3,vc (.pb 3 0)),(59,bif c0_ then vc (.pb 3 1) else .undef),(60,bif c1_ then wo1_ else .undef),(61,bif c2_ then vc (.pb 99999999999 0) else .undef),(62,bif c3_ then vc (aI r23.1) else .undef),(63,bif c4_ then vc (aI (zF .i64 ((800:O)+r23.1))) else .undef),(64,bif c5_ then va [aI (2:O),aI (4:O),aI (zF .i64 ((800:O)+r23.1)),aI (15:O),aB G] else .undef),(65,bif c6_ then vc (.own 4160) else .undef),(66,bif c7_ then vc (.own 2240) else .undef),(67,bif c8_ then vc (.pb 3 1) else .undef)],bx_,rs_⟩
abbrev V2(v18:N Xc)(v19:N X3)(r23:O × X1):St:=(F2 r23 (vc (.undef)) T T T T T T T T T [(99999999999,(dm r23.2.row)),(2,[.nil,.nil]),(3,[.own 640,.own 2240])] [(640,2,W I (v18++([(⟨([100,111,99,107]:N U),T⟩:Xc)]:N Xc))),(2240,5,W X3.row (v19++([(⟨(2:O),(4:O),(zF .i64 ((800:O)+r23.1)),(15:O),G⟩:X3)]:N X3))),(4160,5,W X3.row ([(⟨(2:O),(4:O),(zF .i64 ((800:O)+r23.1)),(15:O),G⟩:X3)]:N X3))])
theorem G0t(v18:N Xc)(v19:N X3)(r20:P × X1)(r23:O × X1)(h23:A4 r20.2 (300:O)=H r23)(h24:(D1 v19.length ([(⟨(2:O),(4:O),(zF .i64 ((800:O)+r23.1)),(15:O),G⟩:X3)]:N X3).length 40)=T):∀(f:Q),E3 X A1c (V2 v18 v19 r23) f [T,T,T,T,T,T,T,T,T,T] (F2 r23 (vc (.undef)) T T T T T T T T T [(99999999999,(dm r23.2.row)),(2,[.nil,.nil]),(3,[.own 640,.own 2240])] [(640,2,W I (v18++([(⟨([100,111,99,107]:N U),T⟩:Xc)]:N Xc))),(2240,5,W X3.row (v19++([(⟨(2:O),(4:O),(zF .i64 ((800:O)+r23.1)),(15:O),G⟩:X3)]:N X3))),(4160,5,W X3.row ([(⟨(2:O),(4:O),(zF .i64 ((800:O)+r23.1)),(15:O),G⟩:X3)]:N X3))]):=by
 intro f
 induction f with
 | zero=>intro h; rfl
 | succ f ih=>
  refine B3 ⟨?_,?_,?_,?_,?_,?_,?_,?_,?_,?_,⟨⟩⟩<;>try first | (intro h; cases h; done)
theorem F9u(v18:N Xc)(v19:N X3)(r20:P × X1)(r23:O × X1)(h23:A4 r20.2 (300:O)=H r23)(h24:(D1 v19.length ([(⟨(2:O),(4:O),(zF .i64 ((800:O)+r23.1)),(15:O),G⟩:X3)]:N X3).length 40)=T):∀(f:Q) (b0 b4 b8:P),E3 X A1c (V2 v18 v19 r23) f [b0,T,T,T,b4,T,T,T,b8,G] (F2 r23 (vc (.undef)) b0 T T T b4 T T T b8 [(99999999999,(dm r23.2.row)),(2,[.nil,.nil]),(3,[.own 640,.undef])] [(640,2,W I (v18++([(⟨([100,111,99,107]:N U),T⟩:Xc)]:N Xc))),(2240,5,W X3.row (v19++([(⟨(2:O),(4:O),(zF .i64 ((800:O)+r23.1)),(15:O),G⟩:X3)]:N X3))),(4160,5,W X3.row ([(⟨(2:O),(4:O),(zF .i64 ((800:O)+r23.1)),(15:O),G⟩:X3)]:N X3))]):=by
 intro f
 induction f with
 | zero=>intro b0 b4 b8 h; simp at h
 | succ f ih=>
  intro b0 b4 b8
  refine B3 ⟨?_,?_,?_,?_,?_,?_,?_,?_,?_,?_,⟨⟩⟩<;>try first | (intro h; cases h; done) | (intro h0 hw; obtain rfl:=hz h0 rfl; (try obtain rfl:=hq hw 0 rfl rfl); (try obtain rfl:=hq hw 4 rfl rfl); refine np ?_; simp only[F2,cdt,cdf,A1,A,B,C,E,F,J]; exact ih _ _ _)
  ·intro h0 hw
   obtain rfl:=hq hw 0 rfl rfl
   obtain rfl:=hq hw 4 rfl rfl
   obtain rfl:=hq hw 8 rfl rfl
   refine np ?_
   try simp only[F2,cdt,cdf,A1,A,B,C,E,F,J]
   exact G0t v18 v19 r20 r23 h23 h24 _
theorem F9w(v18:N Xc)(v19:N X3)(r20:P × X1)(r23:O × X1)(h23:A4 r20.2 (300:O)=H r23)(h24:(D1 v19.length ([(⟨(2:O),(4:O),(zF .i64 ((800:O)+r23.1)),(15:O),G⟩:X3)]:N X3).length 40)=T):∀(f:Q) (b0 b1 b4:P),E3 X A1c (V2 v18 v19 r23) f [b0,b1,T,T,b4,T,T,G,G,G] (F2 r23 (vc (.own 2240)) b0 b1 T T b4 T T G G [(99999999999,(dm r23.2.row)),(2,[.nil,.nil]),(3,[.own 640,.own 2240])] [(640,2,W I (v18++([(⟨([100,111,99,107]:N U),T⟩:Xc)]:N Xc))),(2240,5,W X3.row v19),(4160,5,W X3.row ([(⟨(2:O),(4:O),(zF .i64 ((800:O)+r23.1)),(15:O),G⟩:X3)]:N X3))]):=by
 intro f
 induction f with
 | zero=>intro b0 b1 b4 h; simp at h
 | succ f ih=>
  intro b0 b1 b4
  refine B3 ⟨?_,?_,?_,?_,?_,?_,?_,?_,?_,?_,⟨⟩⟩<;>try first | (intro h; cases h; done) | (intro _ hw; simp at hw; done) | (intro h0 hw; obtain rfl:=hz h0 rfl; (try obtain rfl:=hq hw 0 rfl rfl); refine np ?_; simp only[F2,cdt,cdf,A1,A,B,C,E,F,J]; exact ih _ _ _)
  ·intro h0 hw
   obtain rfl:=hq hw 1 rfl rfl
   refine np ?_
   try simp only[h24,F2,cdt,cdf,A1,A,B,C,E,F,J]
   exact F9u v18 v19 r20 r23 h23 h24 _ b0 b4 G
theorem G0f(v18:N Xc)(v19:N X3)(r20:P × X1)(r23:O × X1)(h23:A4 r20.2 (300:O)=H r23)(h24:(D1 v19.length ([(⟨(2:O),(4:O),(zF .i64 ((800:O)+r23.1)),(15:O),G⟩:X3)]:N X3).length 40)=T):∀(f:Q) (b0 b1:P) (b4 b5:P),E3 X A1c (V2 v18 v19 r23) f [b0,b1,T,T,b4,b5,G,G,G,G] (F2 r23 (vc (.own 2240)) b0 b1 T T b4 b5 G G G [(99999999999,(dm r23.2.row)),(2,[.nil,.nil]),(3,[.own 640,.own 2240])] [(640,2,W I (v18++([(⟨([100,111,99,107]:N U),T⟩:Xc)]:N Xc))),(2240,5,W X3.row v19)]):=by
 intro f
 induction f with
 | zero=>intro b0 b1 b4 b5 h; simp at h
 | succ f ih=>
  intro b0 b1 b4 b5
  refine B3 ⟨?_,?_,?_,?_,?_,?_,?_,?_,?_,?_,⟨⟩⟩<;>try first | (intro h; cases h; done) | (intro _ hw; simp at hw; done) | (intro h0 hw; obtain rfl:=hz h0 rfl; (try obtain rfl:=hq hw 0 rfl rfl); (try obtain rfl:=hq hw 4 rfl rfl); refine np ?_; simp only[F2,cdt,cdf,A1,A,B,C,E,F,J]; exact ih _ _ _ _)
  ·intro h0 hw
   obtain rfl:=hq hw 5 rfl rfl
   refine np ?_
   try simp only[F2,cdt,cdf,A1,A,B,C,E,F,J]
   refine C7 (es:=W X3.row ([(⟨(2:O),(4:O),(zF .i64 ((800:O)+r23.1)),(15:O),G⟩:X3)]:N X3)) V (by simp only[St.fresh,zC,zD,P8]; simp[AV.cells,V1.cells,AC.uses]) ?_
   try simp only[A1,A,B,C,E,F,J]
   exact F9w v18 v19 r20 r23 h23 h24 _ b0 b1 b4
theorem F9e(v18:N Xc)(v19:N X3)(r20:P × X1)(r23:O × X1)(h23:A4 r20.2 (300:O)=H r23)(h24:(D1 v19.length ([(⟨(2:O),(4:O),(zF .i64 ((800:O)+r23.1)),(15:O),G⟩:X3)]:N X3).length 40)=T):∀(f:Q) (b0 b1 b2:P),E3 X A1c (V2 v18 v19 r23) f [b0,b1,b2,G,G,G,G,G,G,G] (F2 r23 (vc (.own 2240)) b0 b1 b2 G G G G G G [(99999999999,(dm r20.2.row)),(2,[.nil,.nil]),(3,[.own 640,.own 2240])] [(640,2,W I (v18++([(⟨([100,111,99,107]:N U),T⟩:Xc)]:N Xc))),(2240,5,W X3.row v19)]):=by
 intro f
 induction f with
 | zero=>intro b0 b1 b2 h; simp at h
 | succ f ih=>
  intro b0 b1 b2
  refine B3 ⟨?_,?_,?_,?_,?_,?_,?_,?_,?_,?_,⟨⟩⟩<;>try first | (intro _ hw; simp at hw; done) | (intro h0 hw; obtain rfl:=hz h0 rfl; (try obtain rfl:=hq hw 0 rfl rfl); refine np ?_; simp only[F2,cdt,cdf,A1,A,B,C,E,F,J]; exact ih _ _ _)
  ·intro h0 hw
   obtain rfl:=hq hw 2 rfl rfl
   refine np ?_
   try simp only[F2,cdt,cdf,A1,A,B,C,E,F,J]
   refine B7 (B5 _ _ _ h23) 99999999999 V V V ?_
   try simp only[A1,A,B,C,E,F,J]
   exact G0f v18 v19 r20 r23 h23 h24 _ b0 b1 G G
theorem E86(v15:N O)(v16 v17:O)(v18:N Xc)(v19:N X3)(r:X5 × X1)(h:A15 v15 v16 v17 v18 v19=H r)(σ:St)(hσ:σ.kept [0,2,3] [99999999999,2,3] [640,2240]=⟨[(0,vc (.pb 99999999999 0)),(2,vc (.pb 2 0)),(3,vc (.pb 3 0))],[(99999999999,[aL (W r8 v15),aI v16,aI v17]),(2,[.nil,.nil]),(3,[.own 640,.own 2240])],[(640,2,W I v18),(2240,5,W X3.row v19)]⟩):go X (.code D8s:: []) (B4u [.c 2 T 2] [.ag [.v (.sl (W I r.1.Points)),.v (.sl (W X3.row r.1.Segments))]] [.sl (W r8 r.2.b),.int .i64 r.2.i,.int .i64 r.2.h]) .normal (H σ):=by
 unfold A15 at h
 obtain⟨r20,h20,h⟩:=ob h
 try simp only[hσ,D8s,A,B,C,E,F,J]
 refine B7 (A0j _ _ _ h20) 99999999999 V V V ?_
 rcases ic h with ⟨h21,h⟩|⟨h21,h⟩
 ·try simp only[h21,A,B,C,E,F,J]
  refine C7 (es:=W I ([(⟨([100,111,99,107]:N U),T⟩:Xc)]:N Xc)) V V ?_
  obtain⟨h22,h⟩:=D3 h
  try simp only[h21,h22,A,B,C,E,F,J]
  obtain⟨r23,h23,h⟩:=ob h
  obtain⟨h24,h⟩:=D3 h
  refine A4w (ks:= [0,2,3]) (bs:= [99999999999,2,3]) (rs:= [640,2240]) (τ:=(V2 v18 v19 r23)) V (F9e v18 v19 r20 r23 h23 h24 _ G G G) ?_
  simp only[V2,F2,cdt]
  try simp only[h21,h22,h24,A,B,C,E,F,J]
  refine O5 V ?_
  try simp only[h21,h22,h24,A,B,C,E,F,J]
  refine O5 V ?_
  try simp only[h21,h22,h24,A,B,C,E,F,J]
  cases h
  try simp only[Q8,A,B,C,E,F,J]
  trivial
 ·try simp only[h21,A,B,C,E,F,J]
  refine O5 V ?_
  try simp only[h21,A,B,C,E,F,J]
  refine O5 V ?_
  try simp only[h21,A,B,C,E,F,J]
  cases h
  try simp only[Q8,A,B,C,E,F,J]
  trivial
theorem F9j:A5 X 261=H (cc37.strip,[.c 2 T 2],69):=by kernel_rfl
theorem C2y(a0:X1)(r:X5 × X1)(h:A5v a0=H r):FCy X 261 [.p] [.sl (W r8 a0.b),.int .i64 a0.i,.int .i64 a0.h] [.sl (W r8 r.2.b),.int .i64 r.2.i,.int .i64 r.2.h] [.ag [.v (.sl (W I r.1.Points)),.v (.sl (W X3.row r.1.Segments))]]:=by
 unfold A5v at h
 refine A30 (σ:=⟨[(0,vc (.pb 99999999999 0))],[(99999999999,[aL (W r8 a0.b),aI a0.i,aI a0.h])],[]⟩) A7 F9j V V ?_
 simp only[cc37]
 try simp only[A,B,C,E,F,J]
 refine D7 V V ?_
 obtain⟨r1,h1,h⟩:=ob h
 try simp only[A,B,C,E,F,J]
 refine B7 (A0j _ _ _ h1) 99999999999 V V V ?_
 try simp only[A,B,C,E,F,J]
 refine C7 (es:=W I ([(⟨([115,101,97]:N U),T⟩:Xc),(⟨([98,97,114]:N U),G⟩:Xc),(⟨([114,111,97,100]:N U),r1.1⟩:Xc),(⟨([113,117,97,121]:N U),T⟩:Xc)]:N Xc)) V V ?_
 try simp only[A,B,C,E,F,J]
 refine D7 V V ?_
 obtain⟨r2,h2,h⟩:=ob h
 try simp only[A,B,C,E,F,J]
 refine B7 (B5 _ _ _ h2) 99999999999 V V V ?_
 obtain⟨r3,h3,h⟩:=ob h
 try simp only[A,B,C,E,F,J]
 refine B7 (B5 _ _ _ h3) 99999999999 V V V ?_
 obtain⟨r4,h4,h⟩:=ob h
 try simp only[A,B,C,E,F,J]
 refine B7 (B5 _ _ _ h4) 99999999999 V V V ?_
 obtain⟨r5,h5,h⟩:=ob h
 try simp only[A,B,C,E,F,J]
 refine B7 (B5 _ _ _ h5) 99999999999 V V V ?_
 obtain⟨r6,h6,h⟩:=ob h
 try simp only[A,B,C,E,F,J]
 refine B7 (A0j _ _ _ h6) 99999999999 V V V ?_
 obtain⟨r7,h7,h⟩:=ob h
 try simp only[A,B,C,E,F,J]
 refine B7 (B5 _ _ _ h7) 99999999999 V V V ?_
 obtain⟨r9,h9,h⟩:=ob h
 try simp only[A,B,C,E,F,J]
 refine B7 (B5 _ _ _ h9) 99999999999 V V V ?_
 try simp only[A,B,C,E,F,J]
 refine C7 (es:=W X3.row ([(⟨(0:O),(1:O),(zF .i64 ((900:O)+r2.1)),(zF .i64 ((10:O)+r3.1)),G⟩:X3),(⟨(1:O),(2:O),(zF .i64 ((800:O)+r4.1)),(zF .i64 ((10:O)+r5.1)),r6.1⟩:X3),(⟨(2:O),(3:O),(zF .i64 ((900:O)+r7.1)),(zF .i64 ((5:O)+r9.1)),G⟩:X3)]:N X3)) V V ?_
 obtain⟨r10,h10,h⟩:=ob h
 try simp only[A,B,C,E,F,J]
 refine B7 (A0j _ _ _ h10) 99999999999 V V V ?_
 rcases ic h with ⟨h11,h⟩|⟨h11,h⟩
 ·try simp only[h11,A,B,C,E,F,J]
  obtain⟨r12,h12,h⟩:=ob h
  obtain⟨r13,h13,h⟩:=ob h
  obtain⟨h14,h⟩:=D3 h
  refine A4w (ks:= [0,2,3]) (bs:= [99999999999,2,3]) (rs:= [640,2240]) (τ:=(P7 r1 r2 r3 r4 r5 r6 r7 r9 r12 r13)) V (G0k r1 r2 r3 r4 r5 r6 r7 r9 r10 r12 r13 h12 h13 h14 _ G G G G) ?_
  simp only[P7,E0,cdt]
  try simp only[h11,h14,A,B,C,E,F,J]
  refine E86 _ _ _ _ _ _ h _ ?_
  try simp only[h11,h14,A,B,C,E,F,J,Y]
 ·try simp only[h11,A,B,C,E,F,J]
  refine E86 _ _ _ _ _ _ h _ ?_
  try simp only[h11,A,B,C,E,F,J,Y]
/- 359:spec_FormatInt -/
def D39:X2:= .seq (.reg [(L,.keep [0,3] [] [])]) (.seq (.seq (.reg [mv 25 0,(L,.bin 26 .gtr (S 25) (K 9))]) (.cond (S 26) .skip (.exit 0))) (.block 1 (.seq (.reg [mv 27 0,(L,.bin 28 .rem (S 27) (K 10)),(L,.bin 29 .add (K 48) (S 28)),(L,.conv 30 .u8 (S 29)),(L,.bslice 31 1 [.int .u8 0] 1 [(0,(S 30))]),(L,.sconv 32 (S 31)),mv 33 3,bn 34 .add 32 33,mv 3 34]) (.reg [mv 35 0,(L,.bin 36 .quo (S 35) (K 10)),mv 0 36]))))
def D90:X2:=(.seq (.reg [mv 37 0,(L,.bin 38 .add (K 48) (S 37)),(L,.conv 39 .u8 (S 38)),(L,.bslice 40 1 [.int .u8 0] 1 [(0,(S 39))]),(L,.sconv 41 (S 40)),mv 42 3,bn 43 .add 41 42,mv 2 43]) .ret)
def cc53:X2:=(.seq (.reg [(L,.mv 2 (KS []))]) (.seq (.seq (.reg [mv 4 0,(L,.bin 5 .lss (S 4) (K 0))]) (.cond (S 5) (.seq (.seq (.reg [mv 6 0,(L,.bin 7 .quo (S 6) (K 10)),(L,.bin 8 .eql (S 7) (K 0))]) (.cond (S 8) (.seq (.reg [mv 9 0,(L,.bin 10 .sub (K 48) (S 9)),(L,.conv 11 .u8 (S 10)),(L,.bslice 12 1 [.int .u8 0] 1 [(0,(S 11))]),(L,.sconv 13 (S 12)),(L,.bin 14 .add (KS [45]) (S 13)),mv 2 14]) .ret) .skip)) (.seq (.drw [(H [22],mv 15 0),(H [22],(L,.bin 16 .quo (S 15) (K 10))),(H [22],ca 17 359 [S 16]),(H [17],mv 18 0),(H [17],(L,.bin 19 .rem (S 18) (K 10))),(H [17],(L,.bin 20 .sub (K 48) (S 19))),(H [17],(L,.conv 21 .u8 (S 20))),(H [17],(L,.bslice 22 1 [.int .u8 0] 1 [(0,(S 21))])),(H [17],(L,.sconv 23 (S 22))),o0 (bn 24 .add 17 23),o0 (mv 2 24)]) .ret)) .skip)) (.seq (.reg [(L,.mv 3 (KS []))]) (.seq (.block 0 (.loop D39)) D90))))
theorem G0v(rec_:O→Option (N U))(h_rec:∀(a0:O) zr,rec_ a0=H zr→FC X 359 [.sc (.int .i64 a0)] [.sc (.v (.str zr))]):∀(n:Q) (v6:O) (v7:N U) (r:(N U)),A4v rec_ n v6 v7=H r→∀σ:St,σ.kept [0,3] [] []=⟨[(0,vc (aI v6)),(3,vc (aS v7))],[],[]⟩→go X (.code (.loop D39):: [.blk 0,.code D90]) (Ret [2] [.sc (.v (.str r))]) .normal (H σ):=by
 intro n
 induction n with
 | zero=>intro _ _ r h; cases h
 | succ n ih=>
  intro v6 v7 r h σ hσ
  rw[A4v] at h
  refine B0 ?_
  rcases ic h with ⟨h8,h⟩|⟨h8,h⟩
  ·try simp only[hσ,h8,D39,A,B,C,E,F,J]
   refine C7 (es:=W r8 ([(IntKind.u8.wrap (zF .i64 ((48:O)+(zF .i64 (Int.tmod v6 (10:O))))))]:N O)) V V ?_
   obtain⟨h9,h⟩:=D3 h
   try simp only[h8,h9,A,B,C,E,F,J]
   refine ih _ _ _ h _ ?_
   try simp only[h8,h9,A,B,C,E,F,J,Y]
  ·try simp only[hσ,h8,D39,D90,A,B,C,E,F,J]
   refine C7 (es:=W r8 ([(IntKind.u8.wrap (zF .i64 ((48:O)+v6)))]:N O)) V V ?_
   obtain⟨h10,h⟩:=D3 h
   try simp only[h8,h10,A,B,C,E,F,J]
   cases h
   trivial
theorem F95:A5 X 359=H (cc53.strip,[2],44):=by kernel_rfl
theorem B6f(rec_:O→Option (N U))(a0:O)(r:(N U))(h_rec:∀(a0:O) zr,rec_ a0=H zr→FC X 359 [.sc (.int .i64 a0)] [.sc (.v (.str zr))])(h:A61 rec_ a0=H r):FC X 359 [.sc (.int .i64 a0)] [.sc (.v (.str r))]:=by
 unfold A61 at h
 refine C4 A7 F95 V ?_
 simp only[cc53,A,B,C,E,F,J]
 rcases ic h with ⟨h1,h⟩|⟨h1,h⟩
 ·rcases ic h with ⟨h2,h⟩|⟨h2,h⟩
  ·try simp only[h1,h2,A,B,C,E,F,J]
   refine C7 (es:=W r8 ([(IntKind.u8.wrap (zF .i64 ((48:O) - a0)))]:N O)) V V ?_
   obtain⟨h3,h⟩:=D3 h
   try simp only[h1,h2,h3,A,B,C,E,F,J]
   cases h
   trivial
  ·try simp only[h1,h2,A,B,C,E,F,J]
   refine C3 V ?_
   obtain⟨r4,h4,h⟩:=ob h
   try simp only[h1,h2,A,B,C,E,F,J]
   refine F9 (h_rec _ _ h4) V V (uf V) ?_
   try simp only[h1,h2,A,B,C,E,F,J]
   refine C8s (m:= .row 22 1 (W r8 ([(IntKind.u8.wrap (zF .i64 ((48:O) - (zF .i64 (Int.tmod a0 (10:O))))))]:N O))) V V (B86 V) ?_
   obtain⟨h5,h⟩:=D3 h
   try simp only[h1,h2,h5,A,B,C,E,F,J]
   cases h
   trivial
 ·try simp only[h1,A,B,C,E,F,J]
  refine G0v rec_ h_rec _ _ _ _ h _ ?_
  try simp only[h1,A,B,C,E,F,J,Y]
theorem B60:∀(n:Q) (a0:O) (r:(N U)),A2l n a0=H r→FC X 359 [.sc (.int .i64 a0)] [.sc (.v (.str r))]:=by
 intro n
 induction n with
 | zero=>intro _ r h; cases h
 | succ n ih=>intro a0 r h; rw[A2l] at h; exact B6f (A2l n) a0 r ih h
theorem B9r(a0:O)(r:(N U))(h:A8a a0=H r):FC X 359 [.sc (.int .i64 a0)] [.sc (.v (.str r))]:=B60 bigN a0 r h
/- 325:spec_l06Ship -/
def cc56:X2:=(.seq (.reg [(L,.alloc 4 [aS [],aI 0,aI 0,aI 0,aI 0,aB G])]) (.seq (.reg [mv 5 1,ca 6 359 [S 5],(L,.bin 7 .add (KS [115]) (S 6)),mv 8 0,ca 9 120 [S 8,K 200],(L,.bin 10 .add (K 40) (S 9)),mv 11 0,ca 12 120 [S 11,K 500],(L,.bin 13 .add (K 600) (S 12)),mv 14 0,ca 15 120 [S 14,K 4],mv 16 0,ca 17 120 [S 16,K 3],mv 18 0,ca 19 176 [S 18,K 4],(L,.build 20 [aS [],aI 0,aI 0,aI 0,aI 0,aB G] [(0,1,(S 7)),(1,1,(S 10)),(2,1,(S 13)),(3,1,(S 15)),(4,1,(S 17)),(5,1,(S 19))]),so 4 20 6]) .ret))
theorem G0g:A5 X 325=H (cc56.strip,[.c 4 T 6],21):=by kernel_rfl
theorem C18(a0:X1)(a1:O)(r:Xb × X1)(h:A3c a0 a1=H r):FCy X 325 [.p,.d (.sc (.int .i64 a1))] [.sl (W r8 a0.b),.int .i64 a0.i,.int .i64 a0.h] [.sl (W r8 r.2.b),.int .i64 r.2.i,.int .i64 r.2.h] [.ag [.v (.str r.1.Name),.v (.int .i64 r.1.Length),.v (.int .i64 r.1.Draught),.v (.int .i64 r.1.Line),.v (.int .i64 r.1.Tugs),.v (.bool r.1.Slow)]]:=by
 unfold A3c at h
 refine A30 (σ:=⟨[(0,vc (.pb 99999999999 0)),(1,vc (aI a1))],[(99999999999,[aL (W r8 a0.b),aI a0.i,aI a0.h])],[]⟩) A7 G0g V V ?_
 simp only[cc56]
 try simp only[A,B,C,E,F,J]
 refine D7 V V ?_
 obtain⟨r1,h1,h⟩:=ob h
 try simp only[A,B,C,E,F,J]
 refine A2 (B9r _ _ h1) V V (uf V) ?_
 obtain⟨h2,h⟩:=D3 h
 obtain⟨r3,h3,h⟩:=ob h
 try simp only[h2,A,B,C,E,F,J]
 refine B7 (B5 _ _ _ h3) 99999999999 V V V ?_
 obtain⟨r4,h4,h⟩:=ob h
 try simp only[h2,A,B,C,E,F,J]
 refine B7 (B5 _ _ _ h4) 99999999999 V V V ?_
 obtain⟨r5,h5,h⟩:=ob h
 try simp only[h2,A,B,C,E,F,J]
 refine B7 (B5 _ _ _ h5) 99999999999 V V V ?_
 obtain⟨r6,h6,h⟩:=ob h
 try simp only[h2,A,B,C,E,F,J]
 refine B7 (B5 _ _ _ h6) 99999999999 V V V ?_
 obtain⟨r7,h7,h⟩:=ob h
 try simp only[h2,A,B,C,E,F,J]
 refine B7 (A0j _ _ _ h7) 99999999999 V V V ?_
 try simp only[h2,A,B,C,E,F,J]
 cases h
 try simp only[Q8,A,B,C,E,F,J]
 trivial
/- 262:spec_l06Fleet -/
def D2d:X2:= .seq (.reg [(L,.keep [0,5,6] [99999999999] [448])]) (.seq (.seq (.reg [mv 12 6,(L,.bin 13 .gtr (S 12) (K 0))]) (.cond (S 13) .skip (.exit 0))) (.seq (.block 1 (.reg [mv 16 5,mv 17 0,mv 18 5,ln 19 18,ca 20 325 [S 17,S 19],(L,.bslice 21 6 [.str [],.int .i64 0,.int .i64 0,.int .i64 0,.int .i64 0,.bool G] 1 [(0,(S 20))]),(L,.app 22 6 56 (S 16) (S 21)),mv 5 22])) (.reg [mv 14 6,(L,.bin 15 .sub (S 14) (K 1)),mv 6 15])))
def D81:X2:=(.seq (.reg [mv 23 5,mv 4 23]) .ret)
def cc60:X2:=(.seq (.reg [(L,.mv 4 KN)]) (.seq (.reg [(L,.bslice 7 6 [.str [],.int .i64 0,.int .i64 0,.int .i64 0,.int .i64 0,.bool G] 0 []),mv 5 7]) (.seq (.seq (.reg [mv 8 0,mv 9 1,ca 10 120 [S 8,S 9],(L,.bin 11 .add (K 1) (S 10)),mv 6 11]) (.block 0 (.loop D2d))) D81)))
theorem G0j:∀(n:Q) (v2:O) (v3:N O) (v4 v5:O) (v6:N Xb) (r:(N Xb) × X1),W9 n v2 v3 v4 v5 v6=H r→∀σ:St,σ.kept [0,5,6] [99999999999] [448]=⟨[(0,vc (.pb 99999999999 0)),(5,vc (.own 448)),(6,vc (aI v2))],[(99999999999,[aL (W r8 v3),aI v4,aI v5])],[(448,6,W zB v6)]⟩→go X (.code (.loop D2d):: [.blk 0,.code D81]) (C2u [4] [.sc (.o 6 (W zB r.1))] [.sl (W r8 r.2.b),.int .i64 r.2.i,.int .i64 r.2.h]) .normal (H σ):=by
 intro n
 induction n with
 | zero=>intro _ _ _ _ _ r h; cases h
 | succ n ih=>
  intro v2 v3 v4 v5 v6 r h σ hσ
  rw[W9] at h
  refine B0 ?_
  rcases ic h with ⟨h7,h⟩|⟨h7,h⟩
  ·obtain⟨r9,h9,h⟩:=ob h
   try simp only[hσ,h7,D2d,A,B,C,E,F,J]
   refine B7 (C18 _ _ _ h9) 99999999999 V V V ?_
   try simp only[h7,A,B,C,E,F,J]
   refine C7 (es:=W zB ([r9.1]:N Xb)) V V ?_
   obtain⟨h10,h⟩:=D3 h
   try simp only[h7,h10,A,B,C,E,F,J]
   refine ih _ _ _ _ _ _ h _ ?_
   try simp only[h7,h10,A,B,C,E,F,J,Y]
  ·try simp only[hσ,h7,D2d,D81,A,B,C,E,F,J]
   cases h
   trivial
theorem F98:A5 X 262=H (cc60.strip,[4],24):=by kernel_rfl
theorem B97(a0:X1)(a1:O)(r:(N Xb) × X1)(h:A4z a0 a1=H r):FCo X 262 [.p,.d (.sc (.int .i64 a1))] [.sl (W r8 a0.b),.int .i64 a0.i,.int .i64 a0.h] [.sl (W r8 r.2.b),.int .i64 r.2.i,.int .i64 r.2.h] [.sc (.o 6 (W zB r.1))]:=by
 unfold A4z at h
 refine D6t (σ:=⟨[(0,vc (.pb 99999999999 0)),(1,vc (aI a1))],[(99999999999,[aL (W r8 a0.b),aI a0.i,aI a0.h])],[]⟩) A7 F98 V V ?_
 simp only[cc60]
 try simp only[A,B,C,E,F,J]
 refine C7 (es:=W zB ([]:N Xb)) V V ?_
 obtain⟨r1,h1,h⟩:=ob h
 try simp only[A,B,C,E,F,J]
 refine B7 (B5 _ _ _ h1) 99999999999 V V V ?_
 try simp only[A,B,C,E,F,J]
 refine G0j _ _ _ _ _ _ _ h _ ?_
 try simp only[A,B,C,E,F,J,Y]
/- 263:spec_l09Regime -/
def cc63:X2:=(.seq (.reg [(L,.alloc 2 [aI 0,aB G])]) (.seq (.reg [mv 3 0,ca 4 120 [S 3,K 30],mv 5 0,ca 6 176 [S 5,K 4],(L,.build 7 [aI 0,aB G] [(0,1,(S 4)),(1,1,(S 6))]),so 2 7 2]) .ret))
theorem F9k:A5 X 263=H (cc63.strip,[.c 2 T 2],8):=by kernel_rfl
theorem B88(a0:X1)(r:Xl × X1)(h:A38 a0=H r):FCy X 263 [.p] [.sl (W r8 a0.b),.int .i64 a0.i,.int .i64 a0.h] [.sl (W r8 r.2.b),.int .i64 r.2.i,.int .i64 r.2.h] [.ag [.v (.int .i64 r.1.Gap),.v (.bool r.1.NoMeet)]]:=by
 unfold A38 at h
 refine A30 (σ:=⟨[(0,vc (.pb 99999999999 0))],[(99999999999,[aL (W r8 a0.b),aI a0.i,aI a0.h])],[]⟩) A7 F9k V V ?_
 simp only[cc63]
 try simp only[A,B,C,E,F,J]
 refine D7 V V ?_
 obtain⟨r1,h1,h⟩:=ob h
 try simp only[A,B,C,E,F,J]
 refine B7 (B5 _ _ _ h1) 99999999999 V V V ?_
 obtain⟨r2,h2,h⟩:=ob h
 try simp only[A,B,C,E,F,J]
 refine B7 (A0j _ _ _ h2) 99999999999 V V V ?_
 try simp only[A,B,C,E,F,J]
 cases h
 try simp only[Q8,A,B,C,E,F,J]
 trivial
/- 360:spec_StayingMoves -/
def cc65:X2:=(.seq (.reg [(L,.mv 0 KN)]) (.seq (.reg [(L,.mksl 1 1 8 [.int .i64 0] (K 64) (K 64)),mv 0 1]) .ret))
theorem F9s:A5 X 360=H (cc65.strip,[0],2):=by kernel_rfl
theorem B5l(r:(N O))(h:A4b=H r):FC X 360 [] [.sc (.o 1 (W rI r))]:=by
 unfold A4b at h
 refine C4 A7 F9s V ?_
 simp only[cc65,A,B,C,E,F,J]
 obtain⟨n1,hn1,h⟩:=ob h
 try simp only[A,B,C,E,F,J]
 refine B3r (es:=W rI (List.replicate n1 (0:O))) V V hn1 V (B1g V) V ?_
 try simp only[A,B,C,E,F,J]
 cases h
 trivial
/- 326:spec_l13Moves -/
def C69:X2:= .seq (.reg [(L,.keep [0,3,7,8] [99999999999] [320])]) (.seq (.reg [bn 9 .lss 8 7]) (.seq (.cond (S 9) .skip (.exit 0)) (.seq (.block 1 (.seq (.reg [mv 10 8,mv 4 10]) (.seq (.reg [mv 11 4,(L,.bin 12 .rem (S 11) (K 9)),(L,.bin 13 .neq (S 12) (K 0))]) (.cond (S 13) (.reg [mv 14 3,mv 15 4,mv 16 0,ca 17 120 [S 16,K 5],(L,.bin 18 .mul (K 5) (S 17)),ia 19 14 15 1,so 19 18 1]) .skip)))) (.reg [(L,.bin 20 .add (S 8) (K 1)),mv 8 20]))))
def E0d:X2:=(.seq (.reg [(L,.frz 320),mv 21 3,mv 2 21]) .ret)
def cc69:X2:=(.seq (.reg [(L,.mv 2 KN)]) (.seq (.reg [ca 5 360 [],mv 3 5]) (.seq (.seq (.reg [mv 6 3,ln 7 6,(L,.mv 8 (K 0))]) (.block 0 (.loop C69))) E0d)))
theorem F93(r1:(N O)):∀(n:Q) (v2:O) (v3:N O) (v4 v5:O) (v6:N O) (r:(N O) × X1),R8 r1 n v2 v3 v4 v5 v6=H r→∀σ:St,σ.kept [0,3,7,8] [99999999999] [320]=⟨[(0,vc (.pb 99999999999 0)),(3,vc (.own 320)),(7,vc (aI (r1.length:O))),(8,vc (aI v2))],[(99999999999,[aL (W r8 v3),aI v4,aI v5])],[(320,1,W rI v6)]⟩→go X (.code (.loop C69):: [.blk 0,.code E0d]) (B4u [2] [.sc (.v (.sl (W rI r.1)))] [.sl (W r8 r.2.b),.int .i64 r.2.i,.int .i64 r.2.h]) .normal (H σ):=by
 intro n
 induction n with
 | zero=>intro _ _ _ _ _ r h; cases h
 | succ n ih=>
  intro v2 v3 v4 v5 v6 r h σ hσ
  rw[R8] at h
  refine B0 ?_
  rcases ic h with ⟨h7,h⟩|⟨h7,h⟩
  ·rcases ic h with ⟨h8,h⟩|⟨h8,h⟩
   ·obtain⟨r9,h9,h⟩:=ob h
    try simp only[hσ,h7,h8,C69,A,B,C,E,F,J]
    refine B7 (B5 _ _ _ h9) 99999999999 V V V ?_
    obtain⟨x10,h10,h⟩:=ob h
    have h10n:=N4 h10
    try simp only[h7,h8,h10,A,B,C,E,F,J]
    refine A6c (row:=rI) (y:=(zF .i64 ((5:O)*r9.1))) V V h10n V V (by rfl) ?_
    try simp only[h7,h8,h10,A,B,C,E,F,J]
    refine ih _ _ _ _ _ _ h _ ?_
    try simp only[h7,h8,h10,A,B,C,E,F,J,Y]
   ·try simp only[hσ,h7,h8,C69,A,B,C,E,F,J]
    refine ih _ _ _ _ _ _ h _ ?_
    try simp only[h7,h8,A,B,C,E,F,J,Y]
  ·try simp only[hσ,h7,C69,E0d,A,B,C,E,F,J]
   refine O5 V ?_
   try simp only[h7,A,B,C,E,F,J]
   cases h
   trivial
theorem G0q:A5 X 326=H (cc69.strip,[2],22):=by kernel_rfl
theorem B94(a0:X1)(r:(N O) × X1)(h:A4r a0=H r):FCy X 326 [.p] [.sl (W r8 a0.b),.int .i64 a0.i,.int .i64 a0.h] [.sl (W r8 r.2.b),.int .i64 r.2.i,.int .i64 r.2.h] [.sc (.v (.sl (W rI r.1)))]:=by
 unfold A4r at h
 refine A30 (σ:=⟨[(0,vc (.pb 99999999999 0))],[(99999999999,[aL (W r8 a0.b),aI a0.i,aI a0.h])],[]⟩) A7 G0q V V ?_
 simp only[cc69]
 obtain⟨r1,h1,h⟩:=ob h
 try simp only[A,B,C,E,F,J]
 refine A2 (B5l _ h1) V V (uf V) ?_
 try simp only[A,B,C,E,F,J]
 refine F93 _ _ _ _ _ _ _ _ h _ ?_
 try simp only[A,B,C,E,F,J,Y]
/- 264:spec_l14Crew -/
def cc72:X2:=(.seq (.reg [(L,.alloc 2 [aI 0,aI 0,aI 0,.nil])]) (.seq (.reg [mv 3 0,ca 4 120 [S 3,K 4],(L,.bin 5 .add (K 1) (S 4)),mv 6 0,ca 7 120 [S 6,K 3],(L,.bin 8 .add (K 1) (S 7)),mv 9 0,ca 10 120 [S 9,K 60],mv 11 0,ca 12 326 [S 11],(L,.build 13 [aI 0,aI 0,aI 0,.nil] [(0,1,(S 5)),(1,1,(S 8)),(2,1,(S 10)),(3,1,(S 12))]),so 2 13 4]) .ret))
theorem F9p:A5 X 264=H (cc72.strip,[.c 2 T 4],14):=by kernel_rfl
theorem C2d(a0:X1)(r:Xo × X1)(h:A5n a0=H r):FCy X 264 [.p] [.sl (W r8 a0.b),.int .i64 a0.i,.int .i64 a0.h] [.sl (W r8 r.2.b),.int .i64 r.2.i,.int .i64 r.2.h] [.ag [.v (.int .i64 r.1.Tugs),.v (.int .i64 r.1.Pilots),.v (.int .i64 r.1.Rest),.v (.sl (W rI r.1.Moves))]]:=by
 unfold A5n at h
 refine A30 (σ:=⟨[(0,vc (.pb 99999999999 0))],[(99999999999,[aL (W r8 a0.b),aI a0.i,aI a0.h])],[]⟩) A7 F9p V V ?_
 simp only[cc72]
 try simp only[A,B,C,E,F,J]
 refine D7 V V ?_
 obtain⟨r1,h1,h⟩:=ob h
 try simp only[A,B,C,E,F,J]
 refine B7 (B5 _ _ _ h1) 99999999999 V V V ?_
 obtain⟨r2,h2,h⟩:=ob h
 try simp only[A,B,C,E,F,J]
 refine B7 (B5 _ _ _ h2) 99999999999 V V V ?_
 obtain⟨r3,h3,h⟩:=ob h
 try simp only[A,B,C,E,F,J]
 refine B7 (B5 _ _ _ h3) 99999999999 V V V ?_
 obtain⟨r4,h4,h⟩:=ob h
 try simp only[A,B,C,E,F,J]
 refine B7 (B94 _ _ h4) 99999999999 V V V ?_
 try simp only[A,B,C,E,F,J]
 cases h
 try simp only[Q8,A,B,C,E,F,J]
 trivial
/- 175:spec_l15Harbour -/
def D1p:X2:= .seq (.reg [(L,.keep [0,2,3,26,27] [99999999999,2,3] [640])]) (.seq (.reg [bn 28 .lss 27 26]) (.seq (.cond (S 28) .skip (.exit 0)) (.seq (.block 1 (.seq (.reg [mv 29 27,mv 4 29]) (.drw [o0 (fa 30 3 5),o0 (ld 31 30),o0 (mv 32 4),o0 (fa 33 3 5),o0 (ld 34 33),o0 (mv 35 4),o0 (ia 36 34 35 6),o0 (fa 37 36 4),o0 (ld 38 37),o0 (L,.mm 39 G (S 38) (K 1)),o0 (ia 40 31 32 6),o0 (fa 41 40 4),(L,so 41 39 1)]))) (.reg [(L,.bin 42 .add (S 27) (K 1)),mv 27 42]))))
def E00:X2:=(.seq (.reg [(L,.frz 640),lw 43 3 12,so 2 43 12]) .ret)
def cc76:X2:=(.seq (.reg [(L,.alloc 2 [aI 0,.nil,.nil,.nil,.nil,.nil,aI 0,aB G,aI 0,aI 0,aI 0,.nil])]) (.seq (.reg [mv 5 0,ca 6 260 [S 5],mv 7 0,ca 8 261 [S 7],mv 9 0,ca 10 262 [S 9,K 3],mv 11 0,ca 12 263 [S 11],mv 13 0,ca 14 264 [S 13],(L,.build 15 [aI 0,.nil,.nil,.nil,.nil,.nil,aI 0,aB G,aI 0,aI 0,aI 0,.nil] [(0,3,(S 6)),(3,2,(S 8)),(5,1,(S 10)),(6,2,(S 12)),(8,4,(S 14))]),(L,.alloc 3 [aI 0,.nil,.nil,.nil,.nil,.nil,aI 0,aB G,aI 0,aI 0,aI 0,.nil]),so 3 15 12]) (.seq (.reg [fa 16 3 0,fa 17 16 0,fa 18 17 0,ld 19 18,(L,.bin 20 .add (S 19) (K 150)),fa 21 3 0,fa 22 21 0,fa 23 22 0,so 23 20 1]) (.seq (.seq (.reg [fa 24 3 5,ld 25 24,ln 26 25,(L,.mv 27 (K 0))]) (.block 0 (.loop D1p))) E00))))
theorem G0r(r3:(N Xb) × X1)(r5:Xo × X1)(r1:Xf × X1)(r2:X5 × X1)(r4:Xl × X1)(y7:O):∀(n:Q) (v6:O) (v8:N Xb) (r:X6 × X1),S7 r3 r5 r1 r2 r4 y7 n v6 v8=H r→∀σ:St,σ.kept [0,2,3,26,27] [99999999999,2,3] [640]=⟨[(0,vc (.pb 99999999999 0)),(2,vc (.pb 2 0)),(3,vc (.pb 3 0)),(26,vc (aI (r3.1.length:O))),(27,vc (aI v6))],[(99999999999,(dm r5.2.row)),(2,[aI (0:O),.nil,.nil,.nil,.nil,.nil,aI (0:O),aB G,aI (0:O),aI (0:O),aI (0:O),.nil]),(3,([aI y7,aL (W Z r1.1.Tide.Parts),aL (W zA r1.1.Surges),aL (W I r2.1.Points),aL (W X3.row r2.1.Segments),.own 640,aI r4.1.Gap,aB r4.1.NoMeet]++dm r5.1.row))],[(640,6,W zB v8)]⟩→go X (.code (.loop D1p):: [.blk 0,.code E00]) (B4u [.c 2 T 12] [.ag [.v (.int .i64 r.1.Forecast.Tide.Mean),.v (.sl (W Z r.1.Forecast.Tide.Parts)),.v (.sl (W zA r.1.Forecast.Surges)),.v (.sl (W I r.1.Chart.Points)),.v (.sl (W X3.row r.1.Chart.Segments)),.v (.sl (W zB r.1.Fleet)),.v (.int .i64 r.1.Regime.Gap),.v (.bool r.1.Regime.NoMeet),.v (.int .i64 r.1.Crew.Tugs),.v (.int .i64 r.1.Crew.Pilots),.v (.int .i64 r.1.Crew.Rest),.v (.sl (W rI r.1.Crew.Moves))]] [.sl (W r8 r.2.b),.int .i64 r.2.i,.int .i64 r.2.h]) .normal (H σ):=by
 intro n
 induction n with
 | zero=>intro _ _ r h; cases h
 | succ n ih=>
  intro v6 v8 r h σ hσ
  rw[S7] at h
  refine B0 ?_
  rcases ic h with ⟨h9,h⟩|⟨h9,h⟩
  ·try simp only[hσ,h9,D1p,A,B,C,E,F,J]
   refine C3 V ?_
   obtain⟨x10,h10,h⟩:=ob h
   have h10n:=N4 h10
   try simp only[h9,h10,h10n,A,B,C,E,F,J]
   refine A6c (row:=zB) (y:=(⟨x10.Name,x10.Length,x10.Draught,x10.Line,(if(1:O)<x10.Tugs then(1:O) else x10.Tugs),x10.Slow⟩:Xb)) V V h10n V V (by rfl) ?_
   try simp only[h9,h10,h10n,A,B,C,E,F,J]
   refine C3 V ?_
   try simp only[h9,h10,h10n,A,B,C,E,F,J]
   refine ih _ _ _ h _ ?_
   try simp only[h9,h10,h10n,A,B,C,E,F,J,Y]
  ·try simp only[hσ,h9,D1p,E00,A,B,C,E,F,J]
   refine O5 V ?_
   try simp only[h9,A,B,C,E,F,J]
   cases h
   try simp only[Q8,A,B,C,E,F,J]
   trivial
theorem G0m:A5 X 175=H (cc76.strip,[.c 2 T 12],44):=by kernel_rfl
theorem B79(a0:X1)(r:X6 × X1)(h:A2y a0=H r):FCy X 175 [.p] [.sl (W r8 a0.b),.int .i64 a0.i,.int .i64 a0.h] [.sl (W r8 r.2.b),.int .i64 r.2.i,.int .i64 r.2.h] [.ag [.v (.int .i64 r.1.Forecast.Tide.Mean),.v (.sl (W Z r.1.Forecast.Tide.Parts)),.v (.sl (W zA r.1.Forecast.Surges)),.v (.sl (W I r.1.Chart.Points)),.v (.sl (W X3.row r.1.Chart.Segments)),.v (.sl (W zB r.1.Fleet)),.v (.int .i64 r.1.Regime.Gap),.v (.bool r.1.Regime.NoMeet),.v (.int .i64 r.1.Crew.Tugs),.v (.int .i64 r.1.Crew.Pilots),.v (.int .i64 r.1.Crew.Rest),.v (.sl (W rI r.1.Crew.Moves))]]:=by
 unfold A2y at h
 refine A30 (σ:=⟨[(0,vc (.pb 99999999999 0))],[(99999999999,[aL (W r8 a0.b),aI a0.i,aI a0.h])],[]⟩) A7 G0m V V ?_
 simp only[cc76]
 try simp only[A,B,C,E,F,J]
 refine D7 V V ?_
 obtain⟨r1,h1,h⟩:=ob h
 try simp only[A,B,C,E,F,J]
 refine B7 (C2n _ _ h1) 99999999999 V V V ?_
 obtain⟨r2,h2,h⟩:=ob h
 try simp only[A,B,C,E,F,J]
 refine B7 (C2y _ _ h2) 99999999999 V V V ?_
 obtain⟨r3,h3,h⟩:=ob h
 try simp only[A,B,C,E,F,J]
 refine C68 (B97 _ _ _ h3) 99999999999 V V V V ?_
 obtain⟨r4,h4,h⟩:=ob h
 try simp only[A,B,C,E,F,J]
 refine B7 (B88 _ _ h4) 99999999999 V V V ?_
 obtain⟨r5,h5,h⟩:=ob h
 try simp only[A,B,C,E,F,J]
 refine B7 (C2d _ _ h5) 99999999999 V V V ?_
 try simp only[A,B,C,E,F,J]
 refine D7 V V ?_
 try simp only[A,B,C,E,F,J]
 refine G0r _ _ _ _ _ _ _ _ _ _ h _ ?_
 try simp only[A,B,C,E,F,J,Y]
/- 177:spec_l15Call -/
def A5l:N (N Q × AItem):= [([],(L,.faddr 15 (S 5) 3)),([0],(L,.load 16 (S 15) G 1)),([1],(L,.bin 17 .add (S 16) (K 60))),([],(L,.mv 18 (S 0))),([3],(L,.call 19 120 [(S 18),(K 400)])),([2,4],(L,.bin 20 .add (S 17) (S 19))),([0,1,2,3,4,5],(L,.faddr 21 (S 5) 4)),([6,5,4,0,1,2,3,4,5],(L,.store (S 21) (S 20) 1))]
def D8y:X2:= .seq (.reg [(L,.keep [0,4,5] [99999999999,4,5] [])]) (.seq (.any A5l) (.seq (.reg [lw 22 5 5,so 4 22 5]) .ret))
def cc80:X2:=(.seq (.reg [(L,.alloc 4 [aI 0,aI 0,aI 0,aI 0,aI 0])]) (.seq (.reg [mv 6 1,mv 7 0,ca 8 120 [S 7,K 30],(L,.bin 9 .mul (K 15) (S 8)),(L,.build 10 [aI 0,aI 0,aI 0,aI 0,aI 0] [(0,1,(S 6)),(2,1,(K 3)),(3,1,(S 9))]),(L,.alloc 5 [aI 0,aI 0,aI 0,aI 0,aI 0]),so 5 10 5]) (.seq (.seq (.reg [mv 11 0,ca 12 176 [S 11,K 3]]) (.cond (S 12) (.seq (.reg [fa 13 5 1,(L,.store (S 13) (K 3) 1)]) (.reg [fa 14 5 2,(L,.store (S 14) (K 0) 1)])) .skip)) D8y)))
abbrev N7(v6:O)(r7:O × X1)(c0_ c1_:P)(c2_ c3_:P)(c4_ c5_ c6_:P)(bx_:N (Q × N AC))(rs_:Rows):St:=⟨[(0,vc (.pb 99999999999 0)),(4,vc (.pb 4 0)),(5,vc (.pb 5 0)),(15,bif c0_ then vc (.pb 5 3) else .undef),(16,bif c1_ then vc (aI v6) else .undef),(17,bif c2_ then vc (aI (zF .i64 (v6+(60:O)))) else .undef),(18,bif c3_ then vc (.pb 99999999999 0) else .undef),(19,bif c4_ then vc (aI r7.1) else .undef),(20,bif c5_ then vc (aI (zF .i64 ((zF .i64 (v6+(60:O)))+r7.1))) else .undef),(21,bif c6_ then vc (.pb 5 4) else .undef)],bx_,rs_⟩
abbrev A2h(a1 v4:O)(v5 v6:O)(r7:O × X1):St:=(N7 v6 r7 T T T T T T T [(99999999999,(dm r7.2.row)),(4,[aI (0:O),aI (0:O),aI (0:O),aI (0:O),aI (0:O)]),(5,[aI a1,aI v4,aI v5,aI v6,aI (zF .i64 ((zF .i64 (v6+(60:O)))+r7.1))])] [])
theorem G0n(r2:P × X1)(a1 v4:O)(v5 v6:O)(r7:O × X1)(h7:A4 r2.2 (400:O)=H r7):∀(f:Q),E3 X A5l (A2h a1 v4 v5 v6 r7) f [T,T,T,T,T,T,T,T] (N7 v6 r7 T T T T T T T [(99999999999,(dm r7.2.row)),(4,[aI (0:O),aI (0:O),aI (0:O),aI (0:O),aI (0:O)]),(5,[aI a1,aI v4,aI v5,aI v6,aI (zF .i64 ((zF .i64 (v6+(60:O)))+r7.1))])] []):=by
 intro f
 induction f with
 | zero=>intro h; rfl
 | succ f ih=>
  refine B3 ⟨?_,?_,?_,?_,?_,?_,?_,?_,⟨⟩⟩<;>try first | (intro h; cases h; done)
theorem G0o(r2:P × X1)(a1 v4:O)(v5 v6:O)(r7:O × X1)(h7:A4 r2.2 (400:O)=H r7):∀(f:Q) (b0 b1:P) (b2 b5 b6:P),E3 X A5l (A2h a1 v4 v5 v6 r7) f [b0,b1,b2,T,T,b5,b6,G] (N7 v6 r7 b0 b1 b2 T T b5 b6 [(99999999999,(dm r7.2.row)),(4,[aI (0:O),aI (0:O),aI (0:O),aI (0:O),aI (0:O)]),(5,[aI a1,aI v4,aI v5,aI v6,aI (0:O)])] []):=by
 intro f
 induction f with
 | zero=>intro b0 b1 b2 b5 b6 h; simp at h
 | succ f ih=>
  intro b0 b1 b2 b5 b6
  refine B3 ⟨?_,?_,?_,?_,?_,?_,?_,?_,⟨⟩⟩<;>try first | (intro h; cases h; done) | (intro h0 hw; obtain rfl:=hz h0 rfl; (try obtain rfl:=hq hw 0 rfl rfl); (try obtain rfl:=hq hw 1 rfl rfl); (try obtain rfl:=hq hw 2 rfl rfl); (try obtain rfl:=hq hw 5 rfl rfl); refine np ?_; simp only[N7,cdt,cdf,A1,A,B,C,E,F,J]; exact ih _ _ _ _ _)
  ·intro h0 hw
   obtain rfl:=hq hw 0 rfl rfl
   obtain rfl:=hq hw 1 rfl rfl
   obtain rfl:=hq hw 2 rfl rfl
   obtain rfl:=hq hw 5 rfl rfl
   obtain rfl:=hq hw 6 rfl rfl
   refine np ?_
   try simp only[N7,cdt,cdf,A1,A,B,C,E,F,J]
   exact G0n r2 a1 v4 v5 v6 r7 h7 _
theorem F9y(r2:P × X1)(a1 v4:O)(v5 v6:O)(r7:O × X1)(h7:A4 r2.2 (400:O)=H r7):∀(f:Q) (b0 b1:P) (b2 b3:P),E3 X A5l (A2h a1 v4 v5 v6 r7) f [b0,b1,b2,b3,G,G,G,G] (N7 v6 r7 b0 b1 b2 b3 G G G [(99999999999,(dm r2.2.row)),(4,[aI (0:O),aI (0:O),aI (0:O),aI (0:O),aI (0:O)]),(5,[aI a1,aI v4,aI v5,aI v6,aI (0:O)])] []):=by
 intro f
 induction f with
 | zero=>intro b0 b1 b2 b3 h; simp at h
 | succ f ih=>
  intro b0 b1 b2 b3
  refine B3 ⟨?_,?_,?_,?_,?_,?_,?_,?_,⟨⟩⟩<;>try first | (intro _ hw; simp at hw; done) | (intro h0 hw; obtain rfl:=hz h0 rfl; (try obtain rfl:=hq hw 0 rfl rfl); (try obtain rfl:=hq hw 1 rfl rfl); refine np ?_; simp only[N7,cdt,cdf,A1,A,B,C,E,F,J]; exact ih _ _ _ _)
  ·intro h0 hw
   obtain rfl:=hq hw 3 rfl rfl
   refine np ?_
   try simp only[N7,cdt,cdf,A1,A,B,C,E,F,J]
   refine B7 (B5 _ _ _ h7) 99999999999 V V V ?_
   try simp only[A1,A,B,C,E,F,J]
   exact G0o r2 a1 v4 v5 v6 r7 h7 _ b0 b1 b2 G G
theorem E7l(r2:P × X1)(a1 v4:O)(v5 v6:O)(r:X8 × X1)(h:A32 r2 a1 v4 v5 v6=H r)(σ:St)(hσ:σ.kept [0,4,5] [99999999999,4,5] []=⟨[(0,vc (.pb 99999999999 0)),(4,vc (.pb 4 0)),(5,vc (.pb 5 0))],[(99999999999,(dm r2.2.row)),(4,[aI (0:O),aI (0:O),aI (0:O),aI (0:O),aI (0:O)]),(5,[aI a1,aI v4,aI v5,aI v6,aI (0:O)])],[]⟩):go X (.code D8y:: []) (B4u [.c 4 T 5] [.ag [.v (.int .i64 r.1.Ship),.v (.int .i64 r.1.From),.v (.int .i64 r.1.To),.v (.int .i64 r.1.Ready),.v (.int .i64 r.1.Due)]] [.sl (W r8 r.2.b),.int .i64 r.2.i,.int .i64 r.2.h]) .normal (H σ):=by
 unfold A32 at h
 try simp only[hσ,D8y,A,B,C,E,F,J]
 obtain⟨r7,h7,h⟩:=ob h
 refine A4w (ks:= [0,4,5]) (bs:= [99999999999,4,5]) (rs:= []) (τ:=(A2h a1 v4 v5 v6 r7)) V (F9y r2 a1 v4 v5 v6 r7 h7 _ G G G G) ?_
 simp only[A2h,N7,cdt]
 try simp only[A,B,C,E,F,J]
 cases h
 try simp only[Q8,A,B,C,E,F,J]
 trivial
theorem F9t:A5 X 177=H (cc80.strip,[.c 4 T 5],23):=by kernel_rfl
theorem C21(a0:X1)(a1:O)(r:X8 × X1)(h:A3f a0 a1=H r):FCy X 177 [.p,.d (.sc (.int .i64 a1))] [.sl (W r8 a0.b),.int .i64 a0.i,.int .i64 a0.h] [.sl (W r8 r.2.b),.int .i64 r.2.i,.int .i64 r.2.h] [.ag [.v (.int .i64 r.1.Ship),.v (.int .i64 r.1.From),.v (.int .i64 r.1.To),.v (.int .i64 r.1.Ready),.v (.int .i64 r.1.Due)]]:=by
 unfold A3f at h
 refine A30 (σ:=⟨[(0,vc (.pb 99999999999 0)),(1,vc (aI a1))],[(99999999999,[aL (W r8 a0.b),aI a0.i,aI a0.h])],[]⟩) A7 F9t V V ?_
 simp only[cc80]
 try simp only[A,B,C,E,F,J]
 refine D7 V V ?_
 obtain⟨r1,h1,h⟩:=ob h
 try simp only[A,B,C,E,F,J]
 refine B7 (B5 _ _ _ h1) 99999999999 V V V ?_
 try simp only[A,B,C,E,F,J]
 refine D7 V V ?_
 obtain⟨r2,h2,h⟩:=ob h
 try simp only[A,B,C,E,F,J]
 refine B7 (A0j _ _ _ h2) 99999999999 V V V ?_
 rcases ic h with ⟨h3,h⟩|⟨h3,h⟩
 ·try simp only[h3,A,B,C,E,F,J]
  refine E7l _ _ _ _ _ _ h _ ?_
  try simp only[h3,A,B,C,E,F,J,Y]
 ·try simp only[h3,A,B,C,E,F,J]
  refine E7l _ _ _ _ _ _ h _ ?_
  try simp only[h3,A,B,C,E,F,J,Y]
/- 80:spec_l16Case -/
def D2n:X2:= .seq (.reg [(L,.keep [0,2,4,5,6,12,13,22] [99999999999,2,4] [576])]) (.cond (S 22) (.reg [mv 23 5,mv 24 0,mv 25 6,ca 26 177 [S 24,S 25],(L,.bslice 27 5 [.int .i64 0,.int .i64 0,.int .i64 0,.int .i64 0,.int .i64 0] 1 [(0,(S 26))]),(L,.app 28 5 40 (S 23) (S 27)),mv 5 28]) .skip)
def D1f:X2:=(.reg [(L,.bin 29 .add (S 13) (K 1)),mv 13 29])
def B9o:X2:= .seq (.reg [(L,.keep [0,2,4,5,12,13] [99999999999,2,4] [576])]) (.seq (.reg [bn 14 .lss 13 12]) (.seq (.cond (S 14) .skip (.exit 0)) (.seq (.block 1 (.seq (.reg [mv 15 13,mv 6 15]) (.seq (.reg [mv 16 6,(L,.bin 17 .eql (S 16) (K 0)),mv 18 17,(H (18,G),.mv 19 (S 0)),(H (18,G),.call 20 176 [(S 19),(K 4)]),(H (18,G),.un 21 .not (S 20)),po 22 18 21]) D2n))) D1f)))
def C7g:X2:=(.seq (.reg [lw 30 4 12,mv 31 5,so 2 30 12,mv 3 31]) .ret)
def cc90:X2:=(.seq (.reg [(L,.alloc 2 [aI 0,.nil,.nil,.nil,.nil,.nil,aI 0,aB G,aI 0,aI 0,aI 0,.nil]),(L,.mv 3 KN)]) (.seq (.reg [mv 7 0,ca 8 175 [S 7],(L,.alloc 4 [aI 0,.nil,.nil,.nil,.nil,.nil,aI 0,aB G,aI 0,aI 0,aI 0,.nil]),so 4 8 12]) (.seq (.reg [(L,.bslice 9 5 [.int .i64 0,.int .i64 0,.int .i64 0,.int .i64 0,.int .i64 0] 0 []),mv 5 9]) (.seq (.seq (.reg [fa 10 4 5,ld 11 10,ln 12 11,(L,.mv 13 (K 0))]) (.block 0 (.loop B9o))) C7g))))
theorem F04(v2:O)(r1:X6 × X1)(v6:N X8)(A37:O→(N O)→O→O→(N X8)→Option (X6 × (N X8) × X1))(B0p:∀(v2:O) (v3:N O) (v4 v5:O) (v6:N X8) zr,A37 v2 v3 v4 v5 v6=H zr→∀σ:St,σ.kept [0,2,4,5,12,13] [99999999999,2,4] [576]=⟨[(0,vc (.pb 99999999999 0)),(2,vc (.pb 2 0)),(4,vc (.pb 4 0)),(5,vc (.own 576)),(12,vc (aI (r1.1.Fleet.length:O))),(13,vc (aI v2))],[(99999999999,[aL (W r8 v3),aI v4,aI v5]),(2,[aI (0:O),.nil,.nil,.nil,.nil,.nil,aI (0:O),aB G,aI (0:O),aI (0:O),aI (0:O),.nil]),(4,(dm r1.1.row))],[(576,5,W X8.row v6)]⟩→go X (.code (.loop B9o):: [.blk 0,.code C7g]) (C2u [.c 2 T 12,3] [.ag [.v (.int .i64 zr.1.Forecast.Tide.Mean),.v (.sl (W Z zr.1.Forecast.Tide.Parts)),.v (.sl (W zA zr.1.Forecast.Surges)),.v (.sl (W I zr.1.Chart.Points)),.v (.sl (W X3.row zr.1.Chart.Segments)),.v (.sl (W zB zr.1.Fleet)),.v (.int .i64 zr.1.Regime.Gap),.v (.bool zr.1.Regime.NoMeet),.v (.int .i64 zr.1.Crew.Tugs),.v (.int .i64 zr.1.Crew.Pilots),.v (.int .i64 zr.1.Crew.Rest),.v (.sl (W rI zr.1.Crew.Moves))],.sc (.o 5 (W X8.row zr.2.1))] [.sl (W r8 zr.2.2.b),.int .i64 zr.2.2.i,.int .i64 zr.2.2.h]) .normal (H σ))(v10:P)(v11:N O)(v12 v13:O)(r:X6 × (N X8) × X1)(h:V5 v2 r1 v6 A37 v10 v11 v12 v13=H r)(σ:St)(hσ:σ.kept [0,2,4,5,6,12,13,22] [99999999999,2,4] [576]=⟨[(0,vc (.pb 99999999999 0)),(2,vc (.pb 2 0)),(4,vc (.pb 4 0)),(5,vc (.own 576)),(6,vc (aI v2)),(12,vc (aI (r1.1.Fleet.length:O))),(13,vc (aI v2)),(22,vc (aB v10))],[(99999999999,[aL (W r8 v11),aI v12,aI v13]),(2,[aI (0:O),.nil,.nil,.nil,.nil,.nil,aI (0:O),aB G,aI (0:O),aI (0:O),aI (0:O),.nil]),(4,(dm r1.1.row))],[(576,5,W X8.row v6)]⟩):go X (.code D2n:: [.blk 1,.code D1f,.code (.loop B9o),.blk 0,.code C7g]) (C2u [.c 2 T 12,3] [.ag [.v (.int .i64 r.1.Forecast.Tide.Mean),.v (.sl (W Z r.1.Forecast.Tide.Parts)),.v (.sl (W zA r.1.Forecast.Surges)),.v (.sl (W I r.1.Chart.Points)),.v (.sl (W X3.row r.1.Chart.Segments)),.v (.sl (W zB r.1.Fleet)),.v (.int .i64 r.1.Regime.Gap),.v (.bool r.1.Regime.NoMeet),.v (.int .i64 r.1.Crew.Tugs),.v (.int .i64 r.1.Crew.Pilots),.v (.int .i64 r.1.Crew.Rest),.v (.sl (W rI r.1.Crew.Moves))],.sc (.o 5 (W X8.row r.2.1))] [.sl (W r8 r.2.2.b),.int .i64 r.2.2.i,.int .i64 r.2.2.h]) .normal (H σ):=by
 unfold V5 at h
 rcases ic h with ⟨h14,h⟩|⟨h14,h⟩
 ·obtain⟨r15,h15,h⟩:=ob h
  try simp only[hσ,h14,D2n,A,B,C,E,F,J]
  refine B7 (C21 _ _ _ h15) 99999999999 V V V ?_
  try simp only[h14,A,B,C,E,F,J]
  refine C7 (es:=W X8.row ([r15.1]:N X8)) V V ?_
  obtain⟨h16,h⟩:=D3 h
  try simp only[h14,h16,D1f,A,B,C,E,F,J]
  refine B0p _ _ _ _ _ _ h _ ?_
  try simp only[h14,h16,A,B,C,E,F,J,Y]
 ·try simp only[hσ,h14,D2n,D1f,A,B,C,E,F,J]
  refine B0p _ _ _ _ _ _ h _ ?_
  try simp only[h14,A,B,C,E,F,J,Y]
theorem G0d(r1:X6 × X1):∀(n:Q) (v2:O) (v3:N O) (v4 v5:O) (v6:N X8) (r:X6 × (N X8) × X1),I9 r1 n v2 v3 v4 v5 v6=H r→∀σ:St,σ.kept [0,2,4,5,12,13] [99999999999,2,4] [576]=⟨[(0,vc (.pb 99999999999 0)),(2,vc (.pb 2 0)),(4,vc (.pb 4 0)),(5,vc (.own 576)),(12,vc (aI (r1.1.Fleet.length:O))),(13,vc (aI v2))],[(99999999999,[aL (W r8 v3),aI v4,aI v5]),(2,[aI (0:O),.nil,.nil,.nil,.nil,.nil,aI (0:O),aB G,aI (0:O),aI (0:O),aI (0:O),.nil]),(4,(dm r1.1.row))],[(576,5,W X8.row v6)]⟩→go X (.code (.loop B9o):: [.blk 0,.code C7g]) (C2u [.c 2 T 12,3] [.ag [.v (.int .i64 r.1.Forecast.Tide.Mean),.v (.sl (W Z r.1.Forecast.Tide.Parts)),.v (.sl (W zA r.1.Forecast.Surges)),.v (.sl (W I r.1.Chart.Points)),.v (.sl (W X3.row r.1.Chart.Segments)),.v (.sl (W zB r.1.Fleet)),.v (.int .i64 r.1.Regime.Gap),.v (.bool r.1.Regime.NoMeet),.v (.int .i64 r.1.Crew.Tugs),.v (.int .i64 r.1.Crew.Pilots),.v (.int .i64 r.1.Crew.Rest),.v (.sl (W rI r.1.Crew.Moves))],.sc (.o 5 (W X8.row r.2.1))] [.sl (W r8 r.2.2.b),.int .i64 r.2.2.i,.int .i64 r.2.2.h]) .normal (H σ):=by
 intro n
 induction n with
 | zero=>intro _ _ _ _ _ r h; cases h
 | succ n ih=>
  intro v2 v3 v4 v5 v6 r h σ hσ
  rw[I9] at h
  refine B0 ?_
  rcases ic h with ⟨h7,h⟩|⟨h7,h⟩
  ·rcases ic h with ⟨h8,h⟩|⟨h8,h⟩
   ·try simp only[hσ,h7,h8,B9o,A,B,C,E,F,J]
    refine F04 _ _ _ (I9 r1 n) ih _ _ _ _ _ h _ ?_
    try simp only[h7,h8,A,B,C,E,F,J,Y]
   ·obtain⟨r9,h9,h⟩:=ob h
    try simp only[hσ,h7,h8,B9o,A,B,C,E,F,J]
    refine B7 (A0j _ _ _ h9) 99999999999 V V V ?_
    try simp only[h7,h8,A,B,C,E,F,J]
    refine F04 _ _ _ (I9 r1 n) ih _ _ _ _ _ h _ ?_
    try simp only[h7,h8,A,B,C,E,F,J,Y]
  ·try simp only[hσ,h7,B9o,C7g,A,B,C,E,F,J]
   cases h
   try simp only[Q8,A,B,C,E,F,J]
   trivial
theorem G0i:A5 X 80=H (cc90.strip,[.c 2 T 12,3],32):=by kernel_rfl
theorem C2a(a0:X1)(r:X6 × (N X8) × X1)(h:A7h a0=H r):FCo X 80 [.p] [.sl (W r8 a0.b),.int .i64 a0.i,.int .i64 a0.h] [.sl (W r8 r.2.2.b),.int .i64 r.2.2.i,.int .i64 r.2.2.h] [.ag [.v (.int .i64 r.1.Forecast.Tide.Mean),.v (.sl (W Z r.1.Forecast.Tide.Parts)),.v (.sl (W zA r.1.Forecast.Surges)),.v (.sl (W I r.1.Chart.Points)),.v (.sl (W X3.row r.1.Chart.Segments)),.v (.sl (W zB r.1.Fleet)),.v (.int .i64 r.1.Regime.Gap),.v (.bool r.1.Regime.NoMeet),.v (.int .i64 r.1.Crew.Tugs),.v (.int .i64 r.1.Crew.Pilots),.v (.int .i64 r.1.Crew.Rest),.v (.sl (W rI r.1.Crew.Moves))],.sc (.o 5 (W X8.row r.2.1))]:=by
 unfold A7h at h
 refine D6t (σ:=⟨[(0,vc (.pb 99999999999 0))],[(99999999999,[aL (W r8 a0.b),aI a0.i,aI a0.h])],[]⟩) A7 G0i V V ?_
 simp only[cc90]
 try simp only[A,B,C,E,F,J]
 refine D7 V V ?_
 obtain⟨r1,h1,h⟩:=ob h
 try simp only[A,B,C,E,F,J]
 refine B7 (B79 _ _ h1) 99999999999 V V V ?_
 try simp only[A,B,C,E,F,J]
 refine D7 V V ?_
 try simp only[A,B,C,E,F,J]
 refine C7 (es:=W X8.row ([]:N X8)) V V ?_
 try simp only[A,B,C,E,F,J]
 refine G0d _ _ _ _ _ _ _ _ h _ ?_
 try simp only[A,B,C,E,F,J,Y]
/- 14:spec_MakeCalls -/
def cc94:X2:=(.seq (.reg [(L,.alloc 2 [aI 0,.nil,.nil,.nil,.nil,.nil,aI 0,aB G,aI 0,aI 0,aI 0,.nil]),(L,.mv 3 KN)]) (.seq (.reg [mv 4 0,ca 5 81 [S 4],ca 6 80 [S 5],xt 7 6 0,xt 8 6 1,so 2 7 12,mv 3 8]) .ret))
theorem G0p:A5 X 14=H (cc94.strip,[.c 2 T 12,3],9):=by kernel_rfl
theorem B9m(a0:N O)(r:X6 × (N X8))(h:A3s a0=H r):FC X 14 [.sc (.sl (W r8 a0))] [.ag [.v (.int .i64 r.1.Forecast.Tide.Mean),.v (.sl (W Z r.1.Forecast.Tide.Parts)),.v (.sl (W zA r.1.Forecast.Surges)),.v (.sl (W I r.1.Chart.Points)),.v (.sl (W X3.row r.1.Chart.Segments)),.v (.sl (W zB r.1.Fleet)),.v (.int .i64 r.1.Regime.Gap),.v (.bool r.1.Regime.NoMeet),.v (.int .i64 r.1.Crew.Tugs),.v (.int .i64 r.1.Crew.Pilots),.v (.int .i64 r.1.Crew.Rest),.v (.sl (W rI r.1.Crew.Moves))],.sc (.o 5 (W X8.row r.2))]:=by
 unfold A3s at h
 refine C4 A7 G0p V ?_
 simp only[cc94,A,B,C,E,F,J]
 try simp only[A,B,C,E,F,J]
 refine D7 V V ?_
 obtain⟨r1,h1,h⟩:=ob h
 try simp only[A,B,C,E,F,J]
 refine B9k (B5d _ _ h1) V V ?_
 obtain⟨r2,h2,h⟩:=ob h
 try simp only[A,B,C,E,F,J]
 refine C68 (C2a _ _ h2) 5 V V V V ?_
 try simp only[A,B,C,E,F,J]
 cases h
 try simp only[Q8,A,B,C,E,F,J]
 trivial
/- 83:spec_l28New -/
def D1a:X2:= .seq (.reg [(L,.keep [1,5,6] [8] [])]) (.seq (.seq (.reg [mv 9 6,mv 10 1,bn 11 .lss 9 10]) (.cond (S 11) .skip (.exit 0))) (.seq (.block 1 (.reg [mv 14 5,ca 15 178 [S 14]])) (.reg [mv 12 6,(L,.bin 13 .add (S 12) (K 1)),mv 6 13])))
def D9h:X2:=(.seq (.reg [mv 16 5,mv 4 16]) .ret)
def cc98:X2:=(.seq (.reg [(L,.mv 4 (.c (.v (.sc .undef))))]) (.seq (.reg [mv 7 0,ca 8 81 [S 7],mv 5 8]) (.seq (.seq (.reg [(L,.mv 6 (K 0))]) (.block 0 (.loop D1a))) D9h)))
theorem G0e(a1:O):∀(n:Q) (v2:O) (v3:N O) (v4 v5:O) (r:X1),A08 a1 n v2 v3 v4 v5=H r→∀σ:St,σ.kept [1,5,6] [8] []=⟨[(1,vc (aI a1)),(5,vc (.pb 8 0)),(6,vc (aI v2))],[(8,[aL (W r8 v3),aI v4,aI v5])],[]⟩→go X (.code (.loop D1a):: [.blk 0,.code D9h]) (C82 [4] [.sl (W r8 r.b),.int .i64 r.i,.int .i64 r.h]) .normal (H σ):=by
 intro n
 induction n with
 | zero=>intro _ _ _ _ r h; cases h
 | succ n ih=>
  intro v2 v3 v4 v5 r h σ hσ
  rw[A08] at h
  refine B0 ?_
  rcases ic h with ⟨h6,h⟩|⟨h6,h⟩
  ·obtain⟨r7,h7,h⟩:=ob h
   try simp only[hσ,h6,D1a,A,B,C,E,F,J]
   refine B7 (A3h _ _ h7) 8 V V V ?_
   try simp only[h6,A,B,C,E,F,J]
   refine ih _ _ _ _ _ h _ ?_
   try simp only[h6,A,B,C,E,F,J,Y]
  ·try simp only[hσ,h6,D1a,D9h,A,B,C,E,F,J]
   cases h
   exact⟨_,8,V,V,V,V⟩
theorem F4q:A5 X 83=H (cc98.strip,[4],17):=by kernel_rfl
theorem C4v(a0:N O)(a1:O)(r:X1)(h:Z6 a0 a1=H r):FCn X 83 [.sc (.sl (W r8 a0)),.sc (.int .i64 a1)] [.sl (W r8 r.b),.int .i64 r.i,.int .i64 r.h]:=by
 unfold Z6 at h
 refine D6o (σ:=⟨[(0,vc (aL (W r8 a0))),(1,vc (aI a1))],[],[]⟩) A7 F4q V V ?_
 simp only[cc98]
 obtain⟨r1,h1,h⟩:=ob h
 try simp only[A,B,C,E,F,J]
 refine B9k (B5d _ _ h1) V V ?_
 try simp only[A,B,C,E,F,J]
 refine G0e _ _ _ _ _ _ _ h _ ?_
 try simp only[A,B,C,E,F,J,Y]
/- 82:spec_l22Draw -/
def C49:X2:= .seq (.reg [(L,.keep [0,3,5,6] [99999999999,3] [512])]) (.seq (.seq (.reg [mv 11 6,(L,.bin 12 .gtr (S 11) (K 0))]) (.cond (S 12) .skip (.exit 0))) (.seq (.block 1 (.seq (.reg [mv 15 0,ca 16 120 [S 15,K 600],mv 7 16]) (.reg [mv 17 5,mv 18 0,fa 19 3 1,ld 20 19,ln 21 20,(L,.mm 22 T (K 1) (S 21)),ca 23 120 [S 18,S 22],mv 24 7,mv 25 7,(L,.bin 26 .add (S 25) (K 20)),mv 27 0,ca 28 120 [S 27,K 300],bn 29 .add 26 28,(L,.build 30 [aI 0,aI 0,aI 0] [(0,1,(S 23)),(1,1,(S 24)),(2,1,(S 29))]),(L,.bslice 31 3 [.int .i64 0,.int .i64 0,.int .i64 0] 1 [(0,(S 30))]),(L,.app 32 3 24 (S 17) (S 31)),mv 5 32]))) (.reg [mv 13 6,(L,.bin 14 .sub (S 13) (K 1)),mv 6 14])))
def D1g:X2:=(.seq (.reg [(L,.frz 512),mv 33 5,mv 4 33]) .ret)
def cc103:X2:=(.seq (.reg [bo 3 1,(L,.mv 4 KN)]) (.seq (.reg [(L,.bslice 8 3 [.int .i64 0,.int .i64 0,.int .i64 0] 0 []),mv 5 8]) (.seq (.seq (.reg [mv 9 0,ca 10 120 [S 9,K 3],mv 6 10]) (.block 0 (.loop C49))) D1g)))
theorem F5x(a1:X5):∀(n:Q) (v2:O) (v3:N O) (v4 v5:O) (v6:N Xa) (r:(N Xa) × X1),A0e a1 n v2 v3 v4 v5 v6=H r→∀σ:St,σ.kept [0,3,5,6] [99999999999,3] [512]=⟨[(0,vc (.pb 99999999999 0)),(3,vc (.pb 3 0)),(5,vc (.own 512)),(6,vc (aI v2))],[(99999999999,[aL (W r8 v3),aI v4,aI v5]),(3,(dm a1.row))],[(512,3,W zE v6)]⟩→go X (.code (.loop C49):: [.blk 0,.code D1g]) (B4u [4] [.sc (.v (.sl (W zE r.1)))] [.sl (W r8 r.2.b),.int .i64 r.2.i,.int .i64 r.2.h]) .normal (H σ):=by
 intro n
 induction n with
 | zero=>intro _ _ _ _ _ r h; cases h
 | succ n ih=>
  intro v2 v3 v4 v5 v6 r h σ hσ
  rw[A0e] at h
  refine B0 ?_
  rcases ic h with ⟨h7,h⟩|⟨h7,h⟩
  ·obtain⟨r9,h9,h⟩:=ob h
   try simp only[hσ,h7,C49,A,B,C,E,F,J]
   refine B7 (B5 _ _ _ h9) 99999999999 V V V ?_
   obtain⟨r10,h10,h⟩:=ob h
   try simp only[h7,A,B,C,E,F,J]
   refine B7 (B5 _ _ _ h10) 99999999999 V V V ?_
   obtain⟨r11,h11,h⟩:=ob h
   try simp only[h7,A,B,C,E,F,J]
   refine B7 (B5 _ _ _ h11) 99999999999 V V V ?_
   try simp only[h7,A,B,C,E,F,J]
   refine C7 (es:=W zE ([(⟨r10.1,r9.1,(zF .i64 ((zF .i64 (r9.1+(20:O)))+r11.1))⟩:Xa)]:N Xa)) V V ?_
   obtain⟨h12,h⟩:=D3 h
   try simp only[h7,h12,A,B,C,E,F,J]
   refine ih _ _ _ _ _ _ h _ ?_
   try simp only[h7,h12,A,B,C,E,F,J,Y]
  ·try simp only[hσ,h7,C49,D1g,A,B,C,E,F,J]
   refine O5 V ?_
   try simp only[h7,A,B,C,E,F,J]
   cases h
   trivial
theorem F17:A5 X 82=H (cc103.strip,[4],34):=by kernel_rfl
theorem C19(a0:X1)(a1:X5)(r:(N Xa) × X1)(h:A0i a0 a1=H r):FCy X 82 [.p,.d (.ag (X5.row a1))] [.sl (W r8 a0.b),.int .i64 a0.i,.int .i64 a0.h] [.sl (W r8 r.2.b),.int .i64 r.2.i,.int .i64 r.2.h] [.sc (.v (.sl (W zE r.1)))]:=by
 unfold A0i at h
 refine A30 (σ:=⟨[(0,vc (.pb 99999999999 0)),(1,va (dm a1.row))],[(99999999999,[aL (W r8 a0.b),aI a0.i,aI a0.h])],[]⟩) A7 F17 V V ?_
 simp only[cc103]
 try simp only[A,B,C,E,F,J]
 refine B2 V V V ?_
 try simp only[A,B,C,E,F,J]
 refine C7 (es:=W zE ([]:N Xa)) V V ?_
 obtain⟨r1,h1,h⟩:=ob h
 try simp only[A,B,C,E,F,J]
 refine B7 (B5 _ _ _ h1) 99999999999 V V V ?_
 try simp only[A,B,C,E,F,J]
 refine F5x _ _ _ _ _ _ _ _ h _ ?_
 try simp only[A,B,C,E,F,J,Y]
/- 15:spec_MakeClosures -/
def A2b:N (N Q × AItem):= [([],(L,.mv 7 (S 0))),([],(L,.mv 8 (S 1))),([0,1],(L,.call 9 83 [(S 7),(S 8)])),([],(L,.load 10 (S 5) T 2)),([2,3,2],(L,.call 11 82 [(S 9),(S 10)])),([4,4,0,1,2,3,4],(L,.mv 6 (S 11)))]
def cc106:X2:=(.seq (.reg [bo 5 2,(L,.mv 6 KN)]) (.seq (.any A2b) .ret))
abbrev G7(a0:N O)(a1:O)(a2:X5)(r2:(N Xa) × X1)(c0_ c1_:P)(c2_ c3_:P)(c4_ c5_:P)(bx_:N (Q × N AC))(rs_:Rows):St:=⟨[(0,vc (aL (W r8 a0))),(1,vc (aI a1)),(5,vc (.pb 5 0)),(7,bif c0_ then vc (aL (W r8 a0)) else .undef),(8,bif c1_ then vc (aI a1) else .undef),(9,bif c2_ then vc (.pb 9 0) else .undef),(10,bif c3_ then va (dm a2.row) else .undef),(11,bif c4_ then vc (aL (W zE r2.1)) else .undef),(6,bif c5_ then vc (aL (W zE r2.1)) else .undef)],bx_,rs_⟩
abbrev W2(a0:N O)(a1:O)(a2:X5)(r2:(N Xa) × X1):St:=(G7 a0 a1 a2 r2 T T T T T T [(5,(dm a2.row)),(9,(dm r2.2.row))] [])
theorem F42(a0:N O)(a1:O)(a2:X5)(r1:X1)(r2:(N Xa) × X1)(h1:Z6 a0 a1=H r1)(h2:A0i r1 a2=H r2):∀(f:Q) (b5:P),E3 X A2b (W2 a0 a1 a2 r2) f [T,T,T,T,T,b5] (G7 a0 a1 a2 r2 T T T T T b5 [(5,(dm a2.row)),(9,(dm r2.2.row))] []):=by
 intro f
 induction f with
 | zero=>
  intro b5 h
  obtain rfl:b5=T:=List.all_eq_true.1 h b5 (by simp)
  rfl
 | succ f ih=>
  intro b5
  refine B3 ⟨?_,?_,?_,?_,?_,?_,⟨⟩⟩<;>try first | (intro h; cases h; done) | (intro h0 hw; obtain rfl:=hz h0 rfl; refine np ?_; simp only[G7,cdt,cdf,A1,A,B,C,E,F,J]; exact ih _)
theorem F16(a0:N O)(a1:O)(a2:X5)(r1:X1)(r2:(N Xa) × X1)(h1:Z6 a0 a1=H r1)(h2:A0i r1 a2=H r2):∀(f:Q) (b3:P),E3 X A2b (W2 a0 a1 a2 r2) f [T,T,T,b3,G,G] (G7 a0 a1 a2 r2 T T T b3 G G [(5,(dm a2.row)),(9,(dm r1.row))] []):=by
 intro f
 induction f with
 | zero=>intro b3 h; simp at h
 | succ f ih=>
  intro b3
  refine B3 ⟨?_,?_,?_,?_,?_,?_,⟨⟩⟩<;>try first | (intro h; cases h; done) | (intro _ hw; simp at hw; done) | (intro h0 hw; obtain rfl:=hz h0 rfl; refine np ?_; simp only[G7,cdt,cdf,A1,A,B,C,E,F,J]; exact ih _)
  ·intro h0 hw
   obtain rfl:=hq hw 3 rfl rfl
   refine np ?_
   try simp only[G7,cdt,cdf,A1,A,B,C,E,F,J]
   refine B7 (C19 _ _ _ h2) 9 V V V ?_
   try simp only[A1,A,B,C,E,F,J]
   exact F42 a0 a1 a2 r1 r2 h1 h2 _ G
theorem F8j(a0:N O)(a1:O)(a2:X5)(r1:X1)(r2:(N Xa) × X1)(h1:Z6 a0 a1=H r1)(h2:A0i r1 a2=H r2):∀(f:Q) (b0 b1 b3:P),E3 X A2b (W2 a0 a1 a2 r2) f [b0,b1,G,b3,G,G] (G7 a0 a1 a2 r2 b0 b1 G b3 G G [(5,(dm a2.row))] []):=by
 intro f
 induction f with
 | zero=>intro b0 b1 b3 h; simp at h
 | succ f ih=>
  intro b0 b1 b3
  refine B3 ⟨?_,?_,?_,?_,?_,?_,⟨⟩⟩<;>try first | (intro _ hw; simp at hw; done) | (intro h0 hw; obtain rfl:=hz h0 rfl; refine np ?_; simp only[G7,cdt,cdf,A1,A,B,C,E,F,J]; exact ih _ _ _)
  ·intro h0 hw
   obtain rfl:=hq hw 0 rfl rfl
   obtain rfl:=hq hw 1 rfl rfl
   refine np ?_
   try simp only[G7,cdt,cdf,A1,A,B,C,E,F,J]
   refine B9k (C4v _ _ _ h1) V (by simp only[St.fresh,zC,zD,P8]; simp[AV.cells,V1.cells,AC.uses]) ?_
   try simp only[A1,A,B,C,E,F,J]
   exact F16 a0 a1 a2 r1 r2 h1 h2 _ b3
theorem F3j:A5 X 15=H (cc106.strip,[6],12):=by kernel_rfl
theorem B5m(a0:N O)(a1:O)(a2:X5)(r:(N Xa))(h:A1v a0 a1 a2=H r):FC X 15 [.sc (.sl (W r8 a0)),.sc (.int .i64 a1),.ag (X5.row a2)] [.sc (.v (.sl (W zE r)))]:=by
 unfold A1v at h
 refine C4 A7 F3j V ?_
 simp only[cc106,A,B,C,E,F,J]
 try simp only[A,B,C,E,F,J]
 refine B2 V V V ?_
 try simp only[A,B,C,E,F,J]
 obtain⟨r1,h1,h⟩:=ob h
 obtain⟨r2,h2,h⟩:=ob h
 refine A4w (ks:= [0,1,5]) (bs:= [5]) (rs:= []) (τ:=(W2 a0 a1 a2 r2)) V (F8j a0 a1 a2 r1 r2 h1 h2 _ G G G) ?_
 simp only[W2,G7,cdt]
 try simp only[A,B,C,E,F,J]
 cases h
 trivial
/- 114:impl_within -/
def cc111:X2:=(.seq (.reg [(L,.mv 6 (KB G))]) (.seq (.reg [mv 7 1,mv 8 0,bn 9 .leq 7 8,mv 10 9,(H (10,T),.mv 11 (S 0)),(H (10,T),.mv 12 (S 2)),(H (10,T),.bin 13 .leq (S 11) (S 12)),pa 14 10 13,mv 6 14]) .ret))
theorem F20:A5 X 114=H (cc111.strip,[6],15):=by kernel_rfl
theorem G3(a0 a1 a2:O)(r:P)(h:E4 a0 a1 a2=H r):FC X 114 [.sc (.int .i64 a0),.sc (.int .i64 a1),.sc (.int .i64 a2)] [.sc (.v (.bool r))]:=by
 unfold E4 at h
 refine C4 A7 F20 V ?_
 simp only[cc111,A,B,C,E,F,J]
 rcases ic h with ⟨h1,h⟩|⟨h1,h⟩
 ·try simp only[h1,A,B,C,E,F,J]
  cases h
  trivial
 ·try simp only[h1,A,B,C,E,F,J]
  cases h
  trivial
/- 338:impl_isPeriod -/
def cc113:X2:=(.seq (.reg [(L,.mv 2 (KB G))]) (.seq (.reg [mv 3 0,ca 4 114 [S 3,K 4,K 2880],mv 5 4,(H (5,T),.mv 6 (S 0)),(H (5,T),.bin 7 .rem (S 6) (K 4)),(H (5,T),.bin 8 .eql (S 7) (K 0)),pa 9 5 8,mv 2 9]) .ret))
theorem F3y:A5 X 338=H (cc113.strip,[2],10):=by kernel_rfl
theorem B2g(a0:O)(r:P)(h:A2o a0=H r):FC X 338 [.sc (.int .i64 a0)] [.sc (.v (.bool r))]:=by
 unfold A2o at h
 refine C4 A7 F3y V ?_
 simp only[cc113,A,B,C,E,F,J]
 obtain⟨r1,h1,h⟩:=ob h
 try simp only[A,B,C,E,F,J]
 refine A2 (G3 _ _ _ _ h1) V V (uf V) ?_
 rcases ic h with ⟨h2,h⟩|⟨h2,h⟩
 ·try simp only[h2,A,B,C,E,F,J]
  cases h
  trivial
 ·try simp only[h2,A,B,C,E,F,J]
  cases h
  trivial
/- 283:impl_PartOk -/
def cc115:X2:=(.seq (.reg [bo 1 0,(L,.mv 2 (KB G))]) (.seq (.reg [fa 3 1 0,ld 4 3,ca 5 114 [S 4,K 0,K 1000],mv 6 5,(H (6,T),.faddr 7 (S 1) 1),(H (6,T),.load 8 (S 7) G 1),(H (6,T),.call 9 338 [(S 8)]),pa 10 6 9,mv 11 10,(H (11,T),.faddr 12 (S 1) 2),(H (11,T),.load 13 (S 12) G 1),(H (11,T),.faddr 14 (S 1) 1),(H (11,T),.load 15 (S 14) G 1),(H (11,T),.bin 16 .sub (S 15) (K 1)),(H (11,T),.call 17 114 [(S 13),(K 0),(S 16)]),pa 18 11 17,mv 2 18]) .ret))
theorem F8y:A5 X 283=H (cc115.strip,[2],19):=by kernel_rfl
theorem C4o(a0:Xi)(r:P)(h:A6d a0=H r):FC X 283 [.ag (Z a0)] [.sc (.v (.bool r))]:=by
 unfold A6d at h
 refine C4 A7 F8y V ?_
 simp only[cc115,A,B,C,E,F,J]
 try simp only[A,B,C,E,F,J]
 refine B2 V V V ?_
 obtain⟨r1,h1,h⟩:=ob h
 try simp only[A,B,C,E,F,J]
 refine A2 (G3 _ _ _ _ h1) V V (uf V) ?_
 rcases ic h with ⟨h2,h⟩|⟨h2,h⟩
 ·obtain⟨r3,h3,h⟩:=ob h
  try simp only[h2,A,B,C,E,F,J]
  refine A2 (B2g _ _ h3) V V (uf V) ?_
  rcases ic h with ⟨h4,h⟩|⟨h4,h⟩
  ·obtain⟨r5,h5,h⟩:=ob h
   try simp only[h2,h4,A,B,C,E,F,J]
   refine A2 (G3 _ _ _ _ h5) V V (uf V) ?_
   try simp only[h2,h4,A,B,C,E,F,J]
   cases h
   trivial
  ·try simp only[h2,h4,A,B,C,E,F,J]
   cases h
   trivial
 ·try simp only[h2,A,B,C,E,F,J]
  cases h
  trivial
/- 207:impl_TideOk -/
def C6e:X2:= .seq (.reg [(L,.keep [16,17,18] [] [])]) (.seq (.reg [bn 19 .lss 18 17]) (.seq (.cond (S 19) .skip (.exit 0)) (.seq (.block 1 (.seq (.reg [ia 20 16 18 3,lw 21 20 3,(L,.alloc 4 [aI 0,aI 0,aI 0]),so 4 21 3]) (.seq (.reg [lw 22 4 3,ca 23 283 [S 22],nt 24 23]) (.cond (S 24) (.seq (.reg [(L,.mv 2 (KB G))]) .ret) .skip)))) (.reg [(L,.bin 25 .add (S 18) (K 1)),mv 18 25]))))
def D4s:X2:=(.seq (.reg [(L,.mv 2 (KB T))]) .ret)
def cc119:X2:=(.seq (.reg [bo 1 0,(L,.mv 2 (KB G))]) (.seq (.seq (.reg [fa 5 1 0,ld 6 5,ca 7 114 [S 6,K (-1000),K 1000],nt 8 7,mv 9 8,(H (9,G),.faddr 10 (S 1) 1),(H (9,G),.load 11 (S 10) G 1),(H (9,G),.len 12 (S 11)),(H (9,G),.bin 13 .gtr (S 12) (K 4)),po 14 9 13]) (.cond (S 14) (.seq (.reg [(L,.mv 2 (KB G))]) .ret) .skip)) (.seq (.seq (.reg [fa 15 1 1,ld 16 15,ln 17 16,(L,.mv 18 (K 0))]) (.block 0 (.loop C6e))) D4s)))
theorem F3c(a0:Xn):∀(n:Q) (v4:O) (r:P),A01 a0 n v4=H r→∀σ:St,σ.kept [16,17,18] [] []=⟨[(16,vc (aL (W Z a0.Parts))),(17,vc (aI (a0.Parts.length:O))),(18,vc (aI v4))],[],[]⟩→go X (.code (.loop C6e):: [.blk 0,.code D4s]) (Ret [2] [.sc (.v (.bool r))]) .normal (H σ):=by
 intro n
 induction n with
 | zero=>intro _ r h; cases h
 | succ n ih=>
  intro v4 r h σ hσ
  rw[A01] at h
  refine B0 ?_
  rcases ic h with ⟨h5,h⟩|⟨h5,h⟩
  ·obtain⟨x6,h6,h⟩:=ob h
   try simp only[hσ,h5,h6,C6e,A,B,C,E,F,J]
   refine D7 V V ?_
   obtain⟨r7,h7,h⟩:=ob h
   try simp only[h5,h6,A,B,C,E,F,J]
   refine A2 (C4o _ _ h7) V V (uf V) ?_
   rcases ic h with ⟨h8,h⟩|⟨h8,h⟩
   ·try simp only[h5,h6,h8,A,B,C,E,F,J]
    refine ih _ _ h _ ?_
    try simp only[h5,h6,h8,A,B,C,E,F,J,Y]
   ·try simp only[h5,h6,h8,A,B,C,E,F,J]
    cases h
    trivial
  ·try simp only[hσ,h5,C6e,D4s,A,B,C,E,F,J]
   cases h
   trivial
theorem F3m:A5 X 207=H (cc119.strip,[2],26):=by kernel_rfl
theorem C4w(a0:Xn)(r:P)(h:A6i a0=H r):FC X 207 [.ag (Xn.row a0)] [.sc (.v (.bool r))]:=by
 unfold A6i at h
 refine C4 A7 F3m V ?_
 simp only[cc119,A,B,C,E,F,J]
 try simp only[A,B,C,E,F,J]
 refine B2 V V V ?_
 obtain⟨r1,h1,h⟩:=ob h
 try simp only[A,B,C,E,F,J]
 refine A2 (G3 _ _ _ _ h1) V V (uf V) ?_
 rcases ic h with ⟨h2,h⟩|⟨h2,h⟩
 ·rcases ic h with ⟨h3,h⟩|⟨h3,h⟩
  ·try simp only[h2,h3,A,B,C,E,F,J]
   cases h
   trivial
  ·try simp only[h2,h3,A,B,C,E,F,J]
   refine F3c _ _ _ _ h _ ?_
   try simp only[h2,h3,A,B,C,E,F,J,Y]
 ·try simp only[h2,A,B,C,E,F,J]
  cases h
  trivial
/- 117:impl_isMinute -/
def cc122:X2:=(.seq (.reg [(L,.mv 2 (KB G))]) (.seq (.reg [mv 3 0,ca 4 114 [S 3,K 0,K 2880],mv 2 4]) .ret))
theorem F12:A5 X 117=H (cc122.strip,[2],5):=by kernel_rfl
theorem T8(a0:O)(r:P)(h:I6 a0=H r):FC X 117 [.sc (.int .i64 a0)] [.sc (.v (.bool r))]:=by
 unfold I6 at h
 refine C4 A7 F12 V ?_
 simp only[cc122,A,B,C,E,F,J]
 obtain⟨r1,h1,h⟩:=ob h
 try simp only[A,B,C,E,F,J]
 refine A2 (G3 _ _ _ _ h1) V V (uf V) ?_
 try simp only[A,B,C,E,F,J]
 cases h
 trivial
/- 208:impl_SurgeOk -/
def cc124:X2:=(.seq (.reg [bo 1 0,(L,.mv 2 (KB G))]) (.seq (.reg [fa 3 1 0,ld 4 3,ca 5 117 [S 4],mv 6 5,(H (6,T),.faddr 7 (S 1) 1),(H (6,T),.load 8 (S 7) G 1),(H (6,T),.bin 9 .leq (K (-500)) (S 8)),pa 10 6 9,mv 11 10,(H (11,T),.faddr 12 (S 1) 1),(H (11,T),.load 13 (S 12) G 1),(H (11,T),.faddr 14 (S 1) 2),(H (11,T),.load 15 (S 14) G 1),(H (11,T),.bin 16 .leq (S 13) (S 15)),pa 17 11 16,mv 18 17,(H (18,T),.faddr 19 (S 1) 2),(H (18,T),.load 20 (S 19) G 1),(H (18,T),.bin 21 .leq (S 20) (K 500)),pa 22 18 21,mv 2 22]) .ret))
theorem F2v:A5 X 208=H (cc124.strip,[2],23):=by kernel_rfl
theorem C2k(a0:Xg)(r:P)(h:A5r a0=H r):FC X 208 [.ag (zA a0)] [.sc (.v (.bool r))]:=by
 unfold A5r at h
 refine C4 A7 F2v V ?_
 simp only[cc124,A,B,C,E,F,J]
 try simp only[A,B,C,E,F,J]
 refine B2 V V V ?_
 obtain⟨r1,h1,h⟩:=ob h
 try simp only[A,B,C,E,F,J]
 refine A2 (T8 _ _ h1) V V (uf V) ?_
 rcases ic h with ⟨h2,h⟩|⟨h2,h⟩
 ·rcases ic h with ⟨h3,h⟩|⟨h3,h⟩
  ·rcases ic h with ⟨h4,h⟩|⟨h4,h⟩
   ·try simp only[h2,h3,h4,A,B,C,E,F,J]
    cases h
    trivial
   ·try simp only[h2,h3,h4,A,B,C,E,F,J]
    cases h
    trivial
  ·try simp only[h2,h3,A,B,C,E,F,J]
   cases h
   trivial
 ·try simp only[h2,A,B,C,E,F,J]
  cases h
  trivial
/- 116:impl_ForecastOk -/
def C5i:X2:= .seq (.reg [(L,.keep [1,25,26,27] [1] [])]) (.seq (.reg [bn 28 .lss 27 26]) (.seq (.cond (S 28) .skip (.exit 0)) (.seq (.block 1 (.seq (.reg [mv 29 27,ia 30 25 27 3,lw 31 30 3,(L,.alloc 4 [aI 0,aI 0,aI 0]),mv 3 29,so 4 31 3]) (.seq (.drw [o0 (lw 32 4 3),o0 (ca 33 208 [S 32]),o0 (nt 34 33),o0 (mv 35 34),o0 (H (35,G),.mv 36 (S 3)),o0 (H (35,G),.bin 37 .gtr (S 36) (K 0)),o0 (H (35,G),.mv 38 (S 37)),o0 (H (38,T),.faddr 39 (S 1) 2),o0 (H (38,T),.load 40 (S 39) G 1),o0 (H (38,T),.mv 41 (S 3)),o0 (H (38,T),.bin 42 .sub (S 41) (K 1)),o0 (H (38,T),.iaddr 43 (S 40) (S 42) 3),o0 (H (38,T),.faddr 44 (S 43) 0),o0 (H (38,T),.load 45 (S 44) G 1),o0 (H (38,T),.faddr 46 (S 4) 0),o0 (H (38,T),.load 47 (S 46) G 1),o0 (H (38,T),.bin 48 .geq (S 45) (S 47)),o0 (H (35,G),.pick 49 (S 38) (S 48) (KB G)),o0 (po 50 35 49)]) (.cond (S 50) (.seq (.reg [(L,.mv 2 (KB G))]) .ret) .skip)))) (.reg [(L,.bin 51 .add (S 27) (K 1)),mv 27 51]))))
def D22:X2:=(.seq (.reg [(L,.mv 2 (KB T))]) .ret)
def cc128:X2:=(.seq (.reg [bo 1 0,(L,.mv 2 (KB G))]) (.seq (.seq (.reg [fa 5 1 0,lw 6 5 2,ca 7 207 [S 6],nt 8 7,mv 9 8,(H (9,G),.faddr 10 (S 1) 2),(H (9,G),.load 11 (S 10) G 1),(H (9,G),.len 12 (S 11)),(H (9,G),.call 13 114 [(S 12),(K 1),(K 6)]),(H (9,G),.un 14 .not (S 13)),po 15 9 14,mv 16 15,(H (16,G),.faddr 17 (S 1) 2),(H (16,G),.load 18 (S 17) G 1),(H (16,G),.iaddr 19 (S 18) (K 0) 3),(H (16,G),.faddr 20 (S 19) 0),(H (16,G),.load 21 (S 20) G 1),(H (16,G),.bin 22 .neq (S 21) (K 0)),po 23 16 22]) (.cond (S 23) (.seq (.reg [(L,.mv 2 (KB G))]) .ret) .skip)) (.seq (.seq (.reg [fa 24 1 2,ld 25 24,ln 26 25,(L,.mv 27 (K 0))]) (.block 0 (.loop C5i))) D22)))
theorem F54(a0:Xf):∀(n:Q) (v7:O) (r:P),O2 a0 n v7=H r→∀σ:St,σ.kept [1,25,26,27] [1] []=⟨[(1,vc (.pb 1 0)),(25,vc (aL (W zA a0.Surges))),(26,vc (aI (a0.Surges.length:O))),(27,vc (aI v7))],[(1,(dm a0.row))],[]⟩→go X (.code (.loop C5i):: [.blk 0,.code D22]) (Ret [2] [.sc (.v (.bool r))]) .normal (H σ):=by
 intro n
 induction n with
 | zero=>intro _ r h; cases h
 | succ n ih=>
  intro v7 r h σ hσ
  rw[O2] at h
  refine B0 ?_
  rcases ic h with ⟨h8,h⟩|⟨h8,h⟩
  ·obtain⟨x9,h9,h⟩:=ob h
   try simp only[hσ,h8,h9,C5i,A,B,C,E,F,J]
   refine D7 V V ?_
   try simp only[h8,h9,A,B,C,E,F,J]
   refine C3 V ?_
   obtain⟨r10,h10,h⟩:=ob h
   try simp only[h8,h9,A,B,C,E,F,J]
   refine F9 (C2k _ _ h10) V V (uf V) ?_
   rcases ic h with ⟨h11,h⟩|⟨h11,h⟩
   ·rcases ic h with ⟨h12,h⟩|⟨h12,h⟩
    ·obtain⟨x13,h13,h⟩:=ob h
     rcases ic h with ⟨h14,h⟩|⟨h14,h⟩
     ·try simp only[h8,h9,h11,h12,h13,h14,A,B,C,E,F,J]
      cases h
      trivial
     ·try simp only[h8,h9,h11,h12,h13,h14,A,B,C,E,F,J]
      refine ih _ _ h _ ?_
      try simp only[h8,h9,h11,h12,h13,h14,A,B,C,E,F,J,Y]
    ·try simp only[h8,h9,h11,h12,A,B,C,E,F,J]
     refine ih _ _ h _ ?_
     try simp only[h8,h9,h11,h12,A,B,C,E,F,J,Y]
   ·try simp only[h8,h9,h11,A,B,C,E,F,J]
    cases h
    trivial
  ·try simp only[hσ,h8,C5i,D22,A,B,C,E,F,J]
   cases h
   trivial
theorem F5t:A5 X 116=H (cc128.strip,[2],52):=by kernel_rfl
theorem A5j(a0:Xf)(r:P)(h:S4 a0=H r):FC X 116 [.ag (Xf.row a0)] [.sc (.v (.bool r))]:=by
 unfold S4 at h
 refine C4 A7 F5t V ?_
 simp only[cc128,A,B,C,E,F,J]
 try simp only[A,B,C,E,F,J]
 refine B2 V V V ?_
 obtain⟨r1,h1,h⟩:=ob h
 try simp only[A,B,C,E,F,J]
 refine A2 (C4w _ _ h1) V V (uf V) ?_
 rcases ic h with ⟨h2,h⟩|⟨h2,h⟩
 ·obtain⟨r3,h3,h⟩:=ob h
  try simp only[h2,A,B,C,E,F,J]
  refine A2 (G3 _ _ _ _ h3) V V (uf V) ?_
  rcases ic h with ⟨h4,h⟩|⟨h4,h⟩
  ·obtain⟨x5,h5,h⟩:=ob h
   rcases ic h with ⟨h6,h⟩|⟨h6,h⟩
   ·try simp only[h2,h4,h5,h6,A,B,C,E,F,J]
    cases h
    trivial
   ·try simp only[h2,h4,h5,h6,A,B,C,E,F,J]
    refine F54 _ _ _ _ h _ ?_
    try simp only[h2,h4,h5,h6,A,B,C,E,F,J,Y]
  ·try simp only[h2,h4,A,B,C,E,F,J]
   cases h
   trivial
 ·try simp only[h2,A,B,C,E,F,J]
  cases h
  trivial
/- 186:impl_IsName -/
def B4o:X2:= .seq (.reg [(L,.keep [0,3,4] [] [])]) (.seq (.reg [mv 25 4,nt 26 25,mv 27 26,(H (27,T),.mv 28 (S 3)),(H (27,T),.bin 29 .eql (S 28) (K 0)),(H (27,T),.mv 30 (S 29)),(H (30,G),.mv 31 (S 0)),(H (30,G),.mv 32 (S 3)),(H (30,G),.idx 33 (S 31) (S 32)),(H (30,G),.bin 34 .lss (S 33) (K8 48)),(H (27,T),.pick 35 (S 30) (KB T) (S 34)),(H (27,T),.mv 36 (S 35)),(H (36,G),.mv 37 (S 0)),(H (36,G),.mv 38 (S 3)),(H (36,G),.idx 39 (S 37) (S 38)),(H (36,G),.bin 40 .gtr (S 39) (K8 57)),(H (27,T),.pick 41 (S 36) (KB T) (S 40)),pa 42 27 41]) (.cond (S 42) (.seq (.reg [(L,.mv 2 (KB G))]) .ret) .skip))
def C5b:X2:= .seq (.reg [(L,.keep [0,3] [] [])]) (.reg [mv 13 3,(L,.bin 14 .add (S 13) (K 1)),mv 3 14])
def B0r:X2:= .seq (.reg [(L,.keep [0,3] [] [])]) (.seq (.seq (.reg [mv 9 3,mv 10 0,(L,.slen 11 (S 10)),bn 12 .lss 9 11]) (.cond (S 12) .skip (.exit 0))) (.seq (.block 1 (.seq (.reg [mv 15 0,mv 16 3,(L,.idx 17 (S 15) (S 16)),(L,.bin 18 .geq (S 17) (K8 97)),mv 19 18,(H (19,T),.mv 20 (S 0)),(H (19,T),.mv 21 (S 3)),(H (19,T),.idx 22 (S 20) (S 21)),(H (19,T),.bin 23 .leq (S 22) (K8 122)),pa 24 19 23,mv 4 24]) B4o)) C5b))
def B4s:X2:=(.seq (.reg [(L,.mv 2 (KB T))]) .ret)
def cc135:X2:=(.seq (.reg [(L,.mv 2 (KB G))]) (.seq (.seq (.reg [mv 5 0,(L,.slen 6 (S 5)),ca 7 114 [S 6,K 1,K 8],nt 8 7]) (.cond (S 8) (.seq (.reg [(L,.mv 2 (KB G))]) .ret) .skip)) (.seq (.seq (.reg [(L,.mv 3 (K 0))]) (.block 0 (.loop B0r))) B4s)))
theorem E2n(a0:N U)(v3:O)(L9:O→Option P)(A51:∀(v3:O) zr,L9 v3=H zr→∀σ:St,σ.kept [0,3] [] []=⟨[(0,vc (aS a0)),(3,vc (aI v3))],[],[]⟩→go X (.code (.loop B0r):: [.blk 0,.code B4s]) (Ret [2] [.sc (.v (.bool zr))]) .normal (H σ))(r:P)(h:A4y a0 v3 L9=H r)(σ:St)(hσ:σ.kept [0,3] [] []=⟨[(0,vc (aS a0)),(3,vc (aI v3))],[],[]⟩):go X (.code C5b:: [.code (.loop B0r),.blk 0,.code B4s]) (Ret [2] [.sc (.v (.bool r))]) .normal (H σ):=by
 unfold A4y at h
 try simp only[hσ,C5b,A,B,C,E,F,J]
 refine A51 _ _ h _ ?_
 try simp only[A,B,C,E,F,J,Y]
theorem E2l(a0:N U)(v3:O)(L9:O→Option P)(A51:∀(v3:O) zr,L9 v3=H zr→∀σ:St,σ.kept [0,3] [] []=⟨[(0,vc (aS a0)),(3,vc (aI v3))],[],[]⟩→go X (.code (.loop B0r):: [.blk 0,.code B4s]) (Ret [2] [.sc (.v (.bool zr))]) .normal (H σ))(v7 r:P)(h:A46 a0 v3 L9 v7=H r)(σ:St)(hσ:σ.kept [0,3,4] [] []=⟨[(0,vc (aS a0)),(3,vc (aI v3)),(4,vc (aB v7))],[],[]⟩):go X (.code B4o:: [.blk 1,.code C5b,.code (.loop B0r),.blk 0,.code B4s]) (Ret [2] [.sc (.v (.bool r))]) .normal (H σ):=by
 unfold A46 at h
 rcases ic h with ⟨h8,h⟩|⟨h8,h⟩
 ·try simp only[hσ,h8,B4o,A,B,C,E,F,J]
  refine E2n _ _ L9 A51 _ h _ ?_
  try simp only[h8,A,B,C,E,F,J,Y]
 ·rcases ic h with ⟨h9,h⟩|⟨h9,h⟩
  ·try simp only[hσ,h8,h9,B4o,A,B,C,E,F,J]
   cases h
   trivial
  ·obtain⟨b10,h10,h⟩:=ob h
   rcases ic h with ⟨h11,h⟩|⟨h11,h⟩
   ·try simp only[hσ,h8,h9,h10,h11,B4o,A,B,C,E,F,J]
    cases h
    trivial
   ·rcases ic h with ⟨h12,h⟩|⟨h12,h⟩
    ·try simp only[hσ,h8,h9,h10,h11,h12,B4o,A,B,C,E,F,J]
     cases h
     trivial
    ·try simp only[hσ,h8,h9,h10,h11,h12,B4o,A,B,C,E,F,J]
     refine E2n _ _ L9 A51 _ h _ ?_
     try simp only[h8,h9,h10,h11,h12,A,B,C,E,F,J,Y]
theorem F4e(a0:N U):∀(n:Q) (v3:O) (r:P),P3 a0 n v3=H r→∀σ:St,σ.kept [0,3] [] []=⟨[(0,vc (aS a0)),(3,vc (aI v3))],[],[]⟩→go X (.code (.loop B0r):: [.blk 0,.code B4s]) (Ret [2] [.sc (.v (.bool r))]) .normal (H σ):=by
 intro n
 induction n with
 | zero=>intro _ r h; cases h
 | succ n ih=>
  intro v3 r h σ hσ
  rw[P3] at h
  refine B0 ?_
  rcases ic h with ⟨h4,h⟩|⟨h4,h⟩
  ·obtain⟨b5,h5,h⟩:=ob h
   rcases ic h with ⟨h6,h⟩|⟨h6,h⟩
   ·try simp only[hσ,h4,h5,h6,B0r,A,B,C,E,F,J]
    refine E2l _ _ (P3 a0 n) ih _ _ h _ ?_
    try simp only[h4,h5,h6,A,B,C,E,F,J,Y]
   ·try simp only[hσ,h4,h5,h6,B0r,A,B,C,E,F,J]
    refine E2l _ _ (P3 a0 n) ih _ _ h _ ?_
    try simp only[h4,h5,h6,A,B,C,E,F,J,Y]
  ·try simp only[hσ,h4,B0r,B4s,A,B,C,E,F,J]
   cases h
   trivial
theorem F5l:A5 X 186=H (cc135.strip,[2],43):=by kernel_rfl
theorem B5g(a0:N U)(r:P)(h:A4g a0=H r):FC X 186 [.sc (.str a0)] [.sc (.v (.bool r))]:=by
 unfold A4g at h
 refine C4 A7 F5l V ?_
 simp only[cc135,A,B,C,E,F,J]
 obtain⟨r1,h1,h⟩:=ob h
 try simp only[A,B,C,E,F,J]
 refine A2 (G3 _ _ _ _ h1) V V (uf V) ?_
 rcases ic h with ⟨h2,h⟩|⟨h2,h⟩
 ·try simp only[h2,A,B,C,E,F,J]
  refine F4e _ _ _ _ h _ ?_
  try simp only[h2,A,B,C,E,F,J,Y]
 ·try simp only[h2,A,B,C,E,F,J]
  cases h
  trivial
/- 187:impl_PointNamed -/
def C6i:X2:= .seq (.reg [(L,.keep [1,8,9,10] [] [])]) (.seq (.reg [bn 11 .lss 10 9]) (.seq (.cond (S 11) .skip (.exit 0)) (.seq (.block 1 (.seq (.reg [mv 12 10,ia 13 8 10 2,lw 14 13 2,(L,.alloc 6 [aS [],aB G]),mv 5 12,so 6 14 2]) (.seq (.reg [fa 15 6 0,ld 16 15,mv 17 1,bn 18 .eql 16 17]) (.cond (S 18) (.seq (.reg [mv 19 5,mv 4 19]) .ret) .skip)))) (.reg [(L,.bin 20 .add (S 10) (K 1)),mv 10 20]))))
def D5a:X2:=(.seq (.reg [(L,.mv 4 (K (-1)))]) .ret)
def cc142:X2:=(.seq (.reg [bo 2 0,(L,.mv 4 (K 0))]) (.seq (.seq (.reg [fa 7 2 0,ld 8 7,ln 9 8,(L,.mv 10 (K 0))]) (.block 0 (.loop C6i))) D5a))
theorem F8a(a1:N U)(a0:X5):∀(n:Q) (v1 r:O),T1 a1 a0 n v1=H r→∀σ:St,σ.kept [1,8,9,10] [] []=⟨[(1,vc (aS a1)),(8,vc (aL (W I a0.Points))),(9,vc (aI (a0.Points.length:O))),(10,vc (aI v1))],[],[]⟩→go X (.code (.loop C6i):: [.blk 0,.code D5a]) (Ret [4] [.sc (.v (.int .i64 r))]) .normal (H σ):=by
 intro n
 induction n with
 | zero=>intro _ r h; cases h
 | succ n ih=>
  intro v1 r h σ hσ
  rw[T1] at h
  refine B0 ?_
  rcases ic h with ⟨h2,h⟩|⟨h2,h⟩
  ·obtain⟨x3,h3,h⟩:=ob h
   try simp only[hσ,h2,h3,C6i,A,B,C,E,F,J]
   refine D7 V V ?_
   rcases ic h with ⟨h4,h⟩|⟨h4,h⟩
   ·try simp only[h2,h3,h4,A,B,C,E,F,J]
    cases h
    trivial
   ·try simp only[h2,h3,h4,A,B,C,E,F,J]
    refine ih _ _ h _ ?_
    try simp only[h2,h3,h4,A,B,C,E,F,J,Y]
  ·try simp only[hσ,h2,C6i,D5a,A,B,C,E,F,J]
   cases h
   trivial
theorem F29:A5 X 187=H (cc142.strip,[4],21):=by kernel_rfl
theorem B8i(a0:X5)(a1:N U)(r:O)(h:A23 a0 a1=H r):FC X 187 [.ag (X5.row a0),.sc (.str a1)] [.sc (.v (.int .i64 r))]:=by
 unfold A23 at h
 refine C4 A7 F29 V ?_
 simp only[cc142,A,B,C,E,F,J]
 try simp only[A,B,C,E,F,J]
 refine B2 V V V ?_
 try simp only[A,B,C,E,F,J]
 refine F8a _ _ _ _ _ h _ ?_
 try simp only[A,B,C,E,F,J,Y]
/- 94:impl_isIndex -/
def cc145:X2:=(.seq (.reg [(L,.mv 4 (KB G))]) (.seq (.reg [mv 5 0,(L,.bin 6 .geq (S 5) (K 0)),mv 7 6,(H (7,T),.mv 8 (S 0)),(H (7,T),.mv 9 (S 1)),(H (7,T),.bin 10 .lss (S 8) (S 9)),pa 11 7 10,mv 4 11]) .ret))
theorem F1l:A5 X 94=H (cc145.strip,[4],12):=by kernel_rfl
theorem E2(a0 a1:O)(r:P)(h:D2 a0 a1=H r):FC X 94 [.sc (.int .i64 a0),.sc (.int .i64 a1)] [.sc (.v (.bool r))]:=by
 unfold D2 at h
 refine C4 A7 F1l V ?_
 simp only[cc145,A,B,C,E,F,J]
 rcases ic h with ⟨h1,h⟩|⟨h1,h⟩
 ·try simp only[h1,A,B,C,E,F,J]
  cases h
  trivial
 ·try simp only[h1,A,B,C,E,F,J]
  cases h
  trivial
/- 188:impl_Segment_joins -/
def cc147:X2:=(.seq (.reg [bo 3 0,(L,.mv 6 (KB G))]) (.seq (.reg [fa 7 3 0,ld 8 7,mv 9 1,bn 10 .eql 8 9,mv 11 10,(H (11,T),.faddr 12 (S 3) 1),(H (11,T),.load 13 (S 12) G 1),(H (11,T),.mv 14 (S 2)),(H (11,T),.bin 15 .eql (S 13) (S 14)),pa 16 11 15,mv 17 16,(H (17,G),.faddr 18 (S 3) 0),(H (17,G),.load 19 (S 18) G 1),(H (17,G),.mv 20 (S 2)),(H (17,G),.bin 21 .eql (S 19) (S 20)),(H (17,G),.mv 22 (S 21)),(H (22,T),.faddr 23 (S 3) 1),(H (22,T),.load 24 (S 23) G 1),(H (22,T),.mv 25 (S 1)),(H (22,T),.bin 26 .eql (S 24) (S 25)),(H (17,G),.pick 27 (S 22) (S 26) (KB G)),po 28 17 27,mv 6 28]) .ret))
theorem F2q:A5 X 188=H (cc147.strip,[6],29):=by kernel_rfl
theorem B4e(a0:X3)(a1 a2:O)(r:P)(h:A07 a0 a1 a2=H r):FC X 188 [.ag (X3.row a0),.sc (.int .i64 a1),.sc (.int .i64 a2)] [.sc (.v (.bool r))]:=by
 unfold A07 at h
 refine C4 A7 F2q V ?_
 simp only[cc147,A,B,C,E,F,J]
 try simp only[A,B,C,E,F,J]
 refine B2 V V V ?_
 rcases ic h with ⟨h1,h⟩|⟨h1,h⟩
 ·rcases ic h with ⟨h2,h⟩|⟨h2,h⟩
  ·try simp only[h1,h2,A,B,C,E,F,J]
   cases h
   trivial
  ·rcases ic h with ⟨h3,h⟩|⟨h3,h⟩
   ·try simp only[h1,h2,h3,A,B,C,E,F,J]
    cases h
    trivial
   ·try simp only[h1,h2,h3,A,B,C,E,F,J]
    cases h
    trivial
 ·rcases ic h with ⟨h4,h⟩|⟨h4,h⟩
  ·try simp only[h1,h4,A,B,C,E,F,J]
   cases h
   trivial
  ·try simp only[h1,h4,A,B,C,E,F,J]
   cases h
   trivial
/- 93:impl_ChartOk -/
def C54:X2:= .seq (.reg [(L,.keep [1,20,21,22] [1] [])]) (.seq (.reg [bn 23 .lss 22 21]) (.seq (.cond (S 23) .skip (.exit 0)) (.seq (.block 1 (.seq (.reg [mv 24 22,ia 25 20 22 2,lw 26 25 2,(L,.alloc 4 [aS [],aB G]),mv 3 24,so 4 26 2]) (.seq (.reg [fa 27 4 0,ld 28 27,ca 29 186 [S 28],nt 30 29,mv 31 30,(H (31,G),.load 32 (S 1) T 2),(H (31,G),.faddr 33 (S 4) 0),(H (31,G),.load 34 (S 33) G 1),(H (31,G),.call 35 187 [(S 32),(S 34)]),(H (31,G),.mv 36 (S 3)),(H (31,G),.bin 37 .neq (S 35) (S 36)),po 38 31 37]) (.cond (S 38) (.seq (.reg [(L,.mv 2 (KB G))]) .ret) .skip)))) (.reg [(L,.bin 39 .add (S 22) (K 1)),mv 22 39]))))
def C51:X2:= .seq (.reg [(L,.keep [1,6,41,42,43,86,87,88] [1,6] [])]) (.seq (.reg [bn 89 .lss 88 87]) (.seq (.cond (S 89) .skip (.exit 4)) (.seq (.block 5 (.seq (.reg [ia 90 86 88 5,lw 91 90 5,(L,.alloc 8 [aI 0,aI 0,aI 0,aI 0,aB G]),so 8 91 5]) (.seq (.reg [lw 92 8 5,fa 93 6 0,ld 94 93,fa 95 6 1,ld 96 95,ca 97 188 [S 92,S 94,S 96]]) (.cond (S 97) (.seq (.reg [(L,.mv 2 (KB G))]) .ret) .skip)))) (.reg [(L,.bin 98 .add (S 88) (K 1)),mv 88 98]))))
def D36:X2:=(.reg [(L,.bin 99 .add (S 43) (K 1)),mv 43 99])
def B7z:X2:= .seq (.reg [(L,.keep [1,41,42,43] [1] [])]) (.seq (.reg [bn 44 .lss 43 42]) (.seq (.cond (S 44) .skip (.exit 2)) (.seq (.block 3 (.seq (.reg [mv 45 43,ia 46 41 43 5,lw 47 46 5,(L,.alloc 6 [aI 0,aI 0,aI 0,aI 0,aB G]),mv 5 45,so 6 47 5]) (.seq (.seq (.reg [fa 48 6 0,ld 49 48,fa 50 1 0,ld 51 50,ln 52 51,ca 53 94 [S 49,S 52],nt 54 53,mv 55 54,(H (55,G),.faddr 56 (S 6) 1),(H (55,G),.load 57 (S 56) G 1),(H (55,G),.faddr 58 (S 1) 0),(H (55,G),.load 59 (S 58) G 1),(H (55,G),.len 60 (S 59)),(H (55,G),.call 61 94 [(S 57),(S 60)]),(H (55,G),.un 62 .not (S 61)),po 63 55 62,mv 64 63,(H (64,G),.faddr 65 (S 6) 0),(H (64,G),.load 66 (S 65) G 1),(H (64,G),.faddr 67 (S 6) 1),(H (64,G),.load 68 (S 67) G 1),(H (64,G),.bin 69 .eql (S 66) (S 68)),po 70 64 69,mv 71 70,(H (71,G),.faddr 72 (S 6) 2),(H (71,G),.load 73 (S 72) G 1),(H (71,G),.call 74 114 [(S 73),(K 0),(K 3000)]),(H (71,G),.un 75 .not (S 74)),po 76 71 75,mv 77 76,(H (77,G),.faddr 78 (S 6) 3),(H (77,G),.load 79 (S 78) G 1),(H (77,G),.call 80 114 [(S 79),(K 1),(K 240)]),(H (77,G),.un 81 .not (S 80)),po 82 77 81]) (.cond (S 82) (.seq (.reg [(L,.mv 2 (KB G))]) .ret) .skip)) (.seq (.reg [fa 83 1 1,ld 84 83,mv 85 5,(L,.slc 86 5 (S 84) L (H (S 85)) L),ln 87 86,(L,.mv 88 (K 0))]) (.block 4 (.loop C51)))))) D36)))
def C0v:X2:=(.seq (.reg [(L,.mv 2 (KB T))]) .ret)
def D3m:X2:=(.seq (.seq (.reg [fa 40 1 1,ld 41 40,ln 42 41,(L,.mv 43 (K 0))]) (.block 2 (.loop B7z))) C0v)
def cc155:X2:=(.seq (.reg [bo 1 0,(L,.mv 2 (KB G))]) (.seq (.seq (.reg [fa 9 1 0,ld 10 9,ln 11 10,(L,.bin 12 .gtr (S 11) (K 8)),mv 13 12,(H (13,G),.faddr 14 (S 1) 1),(H (13,G),.load 15 (S 14) G 1),(H (13,G),.len 16 (S 15)),(H (13,G),.bin 17 .gtr (S 16) (K 10)),po 18 13 17]) (.cond (S 18) (.seq (.reg [(L,.mv 2 (KB G))]) .ret) .skip)) (.seq (.seq (.reg [fa 19 1 0,ld 20 19,ln 21 20,(L,.mv 22 (K 0))]) (.block 0 (.loop C54))) D3m)))
theorem F2t(a0:X5)(v11:O)(x13:X3)(y24:N X3)(y25:O)(A3u:O→Option P)(B8k:∀(v11:O) zr,A3u v11=H zr→∀σ:St,σ.kept [1,41,42,43] [1] []=⟨[(1,vc (.pb 1 0)),(41,vc (aL (W X3.row a0.Segments))),(42,vc (aI (a0.Segments.length:O))),(43,vc (aI v11))],[(1,(dm a0.row))],[]⟩→go X (.code (.loop B7z):: [.blk 2,.code C0v]) (Ret [2] [.sc (.v (.bool zr))]) .normal (H σ)):∀(n:Q) (v26:O) (r:P),Z8 a0 v11 x13 y24 y25 A3u n v26=H r→∀σ:St,σ.kept [1,6,41,42,43,86,87,88] [1,6] []=⟨[(1,vc (.pb 1 0)),(6,vc (.pb 6 0)),(41,vc (aL (W X3.row a0.Segments))),(42,vc (aI (a0.Segments.length:O))),(43,vc (aI v11)),(86,vc (aL (W X3.row y24))),(87,vc (aI y25)),(88,vc (aI v26))],[(1,(dm a0.row)),(6,(dm x13.row))],[]⟩→go X (.code (.loop C51):: [.blk 4,.blk 3,.code D36,.code (.loop B7z),.blk 2,.code C0v]) (Ret [2] [.sc (.v (.bool r))]) .normal (H σ):=by
 intro n
 induction n with
 | zero=>intro _ r h; cases h
 | succ n ih=>
  intro v26 r h σ hσ
  rw[Z8] at h
  refine B0 ?_
  rcases ic h with ⟨h27,h⟩|⟨h27,h⟩
  ·obtain⟨x28,h28,h⟩:=ob h
   try simp only[hσ,h27,h28,C51,A,B,C,E,F,J]
   refine D7 V V ?_
   obtain⟨r29,h29,h⟩:=ob h
   try simp only[h27,h28,A,B,C,E,F,J]
   refine A2 (B4e _ _ _ _ h29) V V (uf V) ?_
   rcases ic h with ⟨h30,h⟩|⟨h30,h⟩
   ·try simp only[h27,h28,h30,A,B,C,E,F,J]
    cases h
    trivial
   ·try simp only[h27,h28,h30,A,B,C,E,F,J]
    refine ih _ _ h _ ?_
    try simp only[h27,h28,h30,A,B,C,E,F,J,Y]
  ·try simp only[hσ,h27,C51,D36,A,B,C,E,F,J]
   refine B8k _ _ h _ ?_
   try simp only[h27,A,B,C,E,F,J,Y]
theorem F26(a0:X5):∀(n:Q) (v11:O) (r:P),M3 a0 n v11=H r→∀σ:St,σ.kept [1,41,42,43] [1] []=⟨[(1,vc (.pb 1 0)),(41,vc (aL (W X3.row a0.Segments))),(42,vc (aI (a0.Segments.length:O))),(43,vc (aI v11))],[(1,(dm a0.row))],[]⟩→go X (.code (.loop B7z):: [.blk 2,.code C0v]) (Ret [2] [.sc (.v (.bool r))]) .normal (H σ):=by
 intro n
 induction n with
 | zero=>intro _ r h; cases h
 | succ n ih=>
  intro v11 r h σ hσ
  rw[M3] at h
  refine B0 ?_
  rcases ic h with ⟨h12,h⟩|⟨h12,h⟩
  ·obtain⟨x13,h13,h⟩:=ob h
   try simp only[hσ,h12,h13,B7z,A,B,C,E,F,J]
   refine D7 V V ?_
   obtain⟨r14,h14,h⟩:=ob h
   try simp only[h12,h13,A,B,C,E,F,J]
   refine A2 (E2 _ _ _ h14) V V (uf V) ?_
   rcases ic h with ⟨h15,h⟩|⟨h15,h⟩
   ·obtain⟨r16,h16,h⟩:=ob h
    try simp only[h12,h13,h15,A,B,C,E,F,J]
    refine A2 (E2 _ _ _ h16) V V (uf V) ?_
    rcases ic h with ⟨h17,h⟩|⟨h17,h⟩
    ·rcases ic h with ⟨h18,h⟩|⟨h18,h⟩
     ·try simp only[h12,h13,h15,h17,h18,A,B,C,E,F,J]
      cases h
      trivial
     ·obtain⟨r19,h19,h⟩:=ob h
      try simp only[h12,h13,h15,h17,h18,A,B,C,E,F,J]
      refine A2 (G3 _ _ _ _ h19) V V (uf V) ?_
      rcases ic h with ⟨h20,h⟩|⟨h20,h⟩
      ·obtain⟨r21,h21,h⟩:=ob h
       try simp only[h12,h13,h15,h17,h18,h20,A,B,C,E,F,J]
       refine A2 (G3 _ _ _ _ h21) V V (uf V) ?_
       rcases ic h with ⟨h22,h⟩|⟨h22,h⟩
       ·obtain⟨p23,h23,h⟩:=ob h
        try simp only[h12,h13,h15,h17,h18,h20,h22,h23,A,B,C,E,F,J]
        refine F2t _ _ _ _ _ (M3 a0 n) ih _ _ _ h _ ?_
        try simp only[h12,h13,h15,h17,h18,h20,h22,h23,A,B,C,E,F,J,Y]
       ·try simp only[h12,h13,h15,h17,h18,h20,h22,A,B,C,E,F,J]
        cases h
        trivial
      ·try simp only[h12,h13,h15,h17,h18,h20,A,B,C,E,F,J]
       cases h
       trivial
    ·try simp only[h12,h13,h15,h17,A,B,C,E,F,J]
     cases h
     trivial
   ·try simp only[h12,h13,h15,A,B,C,E,F,J]
    cases h
    trivial
  ·try simp only[hσ,h12,B7z,C0v,A,B,C,E,F,J]
   cases h
   trivial
theorem F7u(a0:X5):∀(n:Q) (v3:O) (r:P),A0a a0 n v3=H r→∀σ:St,σ.kept [1,20,21,22] [1] []=⟨[(1,vc (.pb 1 0)),(20,vc (aL (W I a0.Points))),(21,vc (aI (a0.Points.length:O))),(22,vc (aI v3))],[(1,(dm a0.row))],[]⟩→go X (.code (.loop C54):: [.blk 0,.code D3m]) (Ret [2] [.sc (.v (.bool r))]) .normal (H σ):=by
 intro n
 induction n with
 | zero=>intro _ r h; cases h
 | succ n ih=>
  intro v3 r h σ hσ
  rw[A0a] at h
  refine B0 ?_
  rcases ic h with ⟨h4,h⟩|⟨h4,h⟩
  ·obtain⟨x5,h5,h⟩:=ob h
   try simp only[hσ,h4,h5,C54,A,B,C,E,F,J]
   refine D7 V V ?_
   obtain⟨r6,h6,h⟩:=ob h
   try simp only[h4,h5,A,B,C,E,F,J]
   refine A2 (B5g _ _ h6) V V (uf V) ?_
   rcases ic h with ⟨h7,h⟩|⟨h7,h⟩
   ·obtain⟨r9,h9,h⟩:=ob h
    try simp only[h4,h5,h7,A,B,C,E,F,J]
    refine A2 (B8i _ _ _ h9) V V (uf V) ?_
    rcases ic h with ⟨h10,h⟩|⟨h10,h⟩
    ·try simp only[h4,h5,h7,h10,A,B,C,E,F,J]
     cases h
     trivial
    ·try simp only[h4,h5,h7,h10,A,B,C,E,F,J]
     refine ih _ _ h _ ?_
     try simp only[h4,h5,h7,h10,A,B,C,E,F,J,Y]
   ·try simp only[h4,h5,h7,A,B,C,E,F,J]
    cases h
    trivial
  ·try simp only[hσ,h4,C54,D3m,A,B,C,E,F,J]
   refine F26 _ _ _ _ h _ ?_
   try simp only[h4,A,B,C,E,F,J,Y]
theorem F7f:A5 X 93=H (cc155.strip,[2],100):=by kernel_rfl
theorem W1(a0:X5)(r:P)(h:L8 a0=H r):FC X 93 [.ag (X5.row a0)] [.sc (.v (.bool r))]:=by
 unfold L8 at h
 refine C4 A7 F7f V ?_
 simp only[cc155,A,B,C,E,F,J]
 try simp only[A,B,C,E,F,J]
 refine B2 V V V ?_
 rcases ic h with ⟨h1,h⟩|⟨h1,h⟩
 ·try simp only[h1,A,B,C,E,F,J]
  cases h
  trivial
 ·rcases ic h with ⟨h2,h⟩|⟨h2,h⟩
  ·try simp only[h1,h2,A,B,C,E,F,J]
   cases h
   trivial
  ·try simp only[h1,h2,A,B,C,E,F,J]
   refine F7u _ _ _ _ h _ ?_
   try simp only[h1,h2,A,B,C,E,F,J,Y]
/- 266:impl_ShipOk -/
def cc160:X2:=(.seq (.reg [bo 1 0,(L,.mv 2 (KB G))]) (.seq (.reg [fa 3 1 0,ld 4 3,ca 5 186 [S 4],mv 6 5,(H (6,T),.faddr 7 (S 1) 1),(H (6,T),.load 8 (S 7) G 1),(H (6,T),.call 9 114 [(S 8),(K 10),(K 400)]),pa 10 6 9,mv 11 10,(H (11,T),.faddr 12 (S 1) 2),(H (11,T),.load 13 (S 12) G 1),(H (11,T),.call 14 114 [(S 13),(K 100),(K 2000)]),pa 15 11 14,mv 16 15,(H (16,T),.faddr 17 (S 1) 3),(H (16,T),.load 18 (S 17) G 1),(H (16,T),.call 19 94 [(S 18),(K 4)]),pa 20 16 19,mv 21 20,(H (21,T),.faddr 22 (S 1) 4),(H (21,T),.load 23 (S 22) G 1),(H (21,T),.call 24 114 [(S 23),(K 0),(K 4)]),pa 25 21 24,mv 2 25]) .ret))
theorem F88:A5 X 266=H (cc160.strip,[2],26):=by kernel_rfl
theorem A4i(a0:Xb)(r:P)(h:V7 a0=H r):FC X 266 [.ag (zB a0)] [.sc (.v (.bool r))]:=by
 unfold V7 at h
 refine C4 A7 F88 V ?_
 simp only[cc160,A,B,C,E,F,J]
 try simp only[A,B,C,E,F,J]
 refine B2 V V V ?_
 obtain⟨r1,h1,h⟩:=ob h
 try simp only[A,B,C,E,F,J]
 refine A2 (B5g _ _ h1) V V (uf V) ?_
 rcases ic h with ⟨h2,h⟩|⟨h2,h⟩
 ·obtain⟨r3,h3,h⟩:=ob h
  try simp only[h2,A,B,C,E,F,J]
  refine A2 (G3 _ _ _ _ h3) V V (uf V) ?_
  rcases ic h with ⟨h4,h⟩|⟨h4,h⟩
  ·obtain⟨r5,h5,h⟩:=ob h
   try simp only[h2,h4,A,B,C,E,F,J]
   refine A2 (G3 _ _ _ _ h5) V V (uf V) ?_
   rcases ic h with ⟨h6,h⟩|⟨h6,h⟩
   ·obtain⟨r7,h7,h⟩:=ob h
    try simp only[h2,h4,h6,A,B,C,E,F,J]
    refine A2 (E2 _ _ _ h7) V V (uf V) ?_
    rcases ic h with ⟨h8,h⟩|⟨h8,h⟩
    ·obtain⟨r9,h9,h⟩:=ob h
     try simp only[h2,h4,h6,h8,A,B,C,E,F,J]
     refine A2 (G3 _ _ _ _ h9) V V (uf V) ?_
     try simp only[h2,h4,h6,h8,A,B,C,E,F,J]
     cases h
     trivial
    ·try simp only[h2,h4,h6,h8,A,B,C,E,F,J]
     cases h
     trivial
   ·try simp only[h2,h4,h6,A,B,C,E,F,J]
    cases h
    trivial
  ·try simp only[h2,h4,A,B,C,E,F,J]
   cases h
   trivial
 ·try simp only[h2,A,B,C,E,F,J]
  cases h
  trivial
/- 267:impl_ShipNamed -/
def C47:X2:= .seq (.reg [(L,.keep [1,7,8,9] [] [])]) (.seq (.reg [bn 10 .lss 9 8]) (.seq (.cond (S 10) .skip (.exit 0)) (.seq (.block 1 (.seq (.reg [mv 11 9,ia 12 7 9 6,lw 13 12 6,(L,.alloc 6 [aS [],aI 0,aI 0,aI 0,aI 0,aB G]),mv 5 11,so 6 13 6]) (.seq (.reg [fa 14 6 0,ld 15 14,mv 16 1,bn 17 .eql 15 16]) (.cond (S 17) (.seq (.reg [mv 18 5,mv 4 18]) .ret) .skip)))) (.reg [(L,.bin 19 .add (S 9) (K 1)),mv 9 19]))))
def D1q:X2:=(.seq (.reg [(L,.mv 4 (K (-1)))]) .ret)
def cc164:X2:=(.seq (.reg [(L,.mv 4 (K 0))]) (.seq (.seq (.reg [mv 7 0,ln 8 7,(L,.mv 9 (K 0))]) (.block 0 (.loop C47))) D1q))
theorem F57(a1:N U)(a0:N Xb):∀(n:Q) (v1 r:O),U9 a1 a0 n v1=H r→∀σ:St,σ.kept [1,7,8,9] [] []=⟨[(1,vc (aS a1)),(7,vc (aL (W zB a0))),(8,vc (aI (a0.length:O))),(9,vc (aI v1))],[],[]⟩→go X (.code (.loop C47):: [.blk 0,.code D1q]) (Ret [4] [.sc (.v (.int .i64 r))]) .normal (H σ):=by
 intro n
 induction n with
 | zero=>intro _ r h; cases h
 | succ n ih=>
  intro v1 r h σ hσ
  rw[U9] at h
  refine B0 ?_
  rcases ic h with ⟨h2,h⟩|⟨h2,h⟩
  ·obtain⟨x3,h3,h⟩:=ob h
   try simp only[hσ,h2,h3,C47,A,B,C,E,F,J]
   refine D7 V V ?_
   rcases ic h with ⟨h4,h⟩|⟨h4,h⟩
   ·try simp only[h2,h3,h4,A,B,C,E,F,J]
    cases h
    trivial
   ·try simp only[h2,h3,h4,A,B,C,E,F,J]
    refine ih _ _ h _ ?_
    try simp only[h2,h3,h4,A,B,C,E,F,J,Y]
  ·try simp only[hσ,h2,C47,D1q,A,B,C,E,F,J]
   cases h
   trivial
theorem F1r:A5 X 267=H (cc164.strip,[4],20):=by kernel_rfl
theorem B9j(a0:N Xb)(a1:N U)(r:O)(h:A31 a0 a1=H r):FC X 267 [.sc (.sl (W zB a0)),.sc (.str a1)] [.sc (.v (.int .i64 r))]:=by
 unfold A31 at h
 refine C4 A7 F1r V ?_
 simp only[cc164,A,B,C,E,F,J]
 try simp only[A,B,C,E,F,J]
 refine F57 _ _ _ _ _ h _ ?_
 try simp only[A,B,C,E,F,J,Y]
/- 183:impl_FleetOk -/
def C5o:X2:= .seq (.reg [(L,.keep [0,8,9,10] [] [])]) (.seq (.reg [bn 11 .lss 10 9]) (.seq (.cond (S 11) .skip (.exit 0)) (.seq (.block 1 (.seq (.reg [mv 12 10,ia 13 8 10 6,lw 14 13 6,(L,.alloc 4 [aS [],aI 0,aI 0,aI 0,aI 0,aB G]),mv 3 12,so 4 14 6]) (.seq (.reg [lw 15 4 6,ca 16 266 [S 15],nt 17 16,mv 18 17,(H (18,G),.mv 19 (S 0)),(H (18,G),.faddr 20 (S 4) 0),(H (18,G),.load 21 (S 20) G 1),(H (18,G),.call 22 267 [(S 19),(S 21)]),(H (18,G),.mv 23 (S 3)),(H (18,G),.bin 24 .neq (S 22) (S 23)),po 25 18 24]) (.cond (S 25) (.seq (.reg [(L,.mv 2 (KB G))]) .ret) .skip)))) (.reg [(L,.bin 26 .add (S 10) (K 1)),mv 10 26]))))
def D3b:X2:=(.seq (.reg [(L,.mv 2 (KB T))]) .ret)
def cc169:X2:=(.seq (.reg [(L,.mv 2 (KB G))]) (.seq (.seq (.reg [mv 5 0,ln 6 5,(L,.bin 7 .gtr (S 6) (K 6))]) (.cond (S 7) (.seq (.reg [(L,.mv 2 (KB G))]) .ret) .skip)) (.seq (.seq (.reg [mv 8 0,ln 9 8,(L,.mv 10 (K 0))]) (.block 0 (.loop C5o))) D3b)))
theorem F6e(a0:N Xb):∀(n:Q) (v2:O) (r:P),A0c a0 n v2=H r→∀σ:St,σ.kept [0,8,9,10] [] []=⟨[(0,vc (aL (W zB a0))),(8,vc (aL (W zB a0))),(9,vc (aI (a0.length:O))),(10,vc (aI v2))],[],[]⟩→go X (.code (.loop C5o):: [.blk 0,.code D3b]) (Ret [2] [.sc (.v (.bool r))]) .normal (H σ):=by
 intro n
 induction n with
 | zero=>intro _ r h; cases h
 | succ n ih=>
  intro v2 r h σ hσ
  rw[A0c] at h
  refine B0 ?_
  rcases ic h with ⟨h3,h⟩|⟨h3,h⟩
  ·obtain⟨x4,h4,h⟩:=ob h
   try simp only[hσ,h3,h4,C5o,A,B,C,E,F,J]
   refine D7 V V ?_
   obtain⟨r5,h5,h⟩:=ob h
   try simp only[h3,h4,A,B,C,E,F,J]
   refine A2 (A4i _ _ h5) V V (uf V) ?_
   rcases ic h with ⟨h6,h⟩|⟨h6,h⟩
   ·obtain⟨r7,h7,h⟩:=ob h
    try simp only[h3,h4,h6,A,B,C,E,F,J]
    refine A2 (B9j _ _ _ h7) V V (uf V) ?_
    rcases ic h with ⟨h8,h⟩|⟨h8,h⟩
    ·try simp only[h3,h4,h6,h8,A,B,C,E,F,J]
     cases h
     trivial
    ·try simp only[h3,h4,h6,h8,A,B,C,E,F,J]
     refine ih _ _ h _ ?_
     try simp only[h3,h4,h6,h8,A,B,C,E,F,J,Y]
   ·try simp only[h3,h4,h6,A,B,C,E,F,J]
    cases h
    trivial
  ·try simp only[hσ,h3,C5o,D3b,A,B,C,E,F,J]
   cases h
   trivial
theorem F2a:A5 X 183=H (cc169.strip,[2],27):=by kernel_rfl
theorem B3w(a0:N Xb)(r:P)(h:A3i a0=H r):FC X 183 [.sc (.sl (W zB a0))] [.sc (.v (.bool r))]:=by
 unfold A3i at h
 refine C4 A7 F2a V ?_
 simp only[cc169,A,B,C,E,F,J]
 rcases ic h with ⟨h1,h⟩|⟨h1,h⟩
 ·try simp only[h1,A,B,C,E,F,J]
  cases h
  trivial
 ·try simp only[h1,A,B,C,E,F,J]
  refine F6e _ _ _ _ h _ ?_
  try simp only[h1,A,B,C,E,F,J,Y]
/- 184:impl_RegimeOk -/
def cc172:X2:=(.seq (.reg [bo 1 0,(L,.mv 2 (KB G))]) (.seq (.reg [fa 3 1 0,ld 4 3,ca 5 114 [S 4,K 0,K 60],mv 2 5]) .ret))
theorem F70:A5 X 184=H (cc172.strip,[2],6):=by kernel_rfl
theorem C06(a0:Xl)(r:P)(h:A6v a0=H r):FC X 184 [.ag (Xl.row a0)] [.sc (.v (.bool r))]:=by
 unfold A6v at h
 refine C4 A7 F70 V ?_
 simp only[cc172,A,B,C,E,F,J]
 try simp only[A,B,C,E,F,J]
 refine B2 V V V ?_
 obtain⟨r1,h1,h⟩:=ob h
 try simp only[A,B,C,E,F,J]
 refine A2 (G3 _ _ _ _ h1) V V (uf V) ?_
 try simp only[A,B,C,E,F,J]
 cases h
 trivial
/- 268:impl_movesOk -/
def C5n:X2:= .seq (.reg [(L,.keep [8,9,10] [] [])]) (.seq (.reg [bn 11 .lss 10 9]) (.seq (.cond (S 11) .skip (.exit 0)) (.seq (.block 1 (.seq (.reg [ia 12 8 10 1,ld 13 12,mv 4 13]) (.seq (.reg [mv 14 4,ca 15 114 [S 14,K 0,K 240],nt 16 15]) (.cond (S 16) (.seq (.reg [(L,.mv 2 (KB G))]) .ret) .skip)))) (.reg [(L,.bin 17 .add (S 10) (K 1)),mv 10 17]))))
def D44:X2:=(.seq (.reg [(L,.mv 2 (KB T))]) .ret)
def cc176:X2:=(.seq (.reg [(L,.mv 2 (KB G))]) (.seq (.seq (.reg [mv 5 0,ln 6 5,(L,.bin 7 .neq (S 6) (K 64))]) (.cond (S 7) (.seq (.reg [(L,.mv 2 (KB G))]) .ret) .skip)) (.seq (.seq (.reg [mv 8 0,ln 9 8,(L,.mv 10 (K 0))]) (.block 0 (.loop C5n))) D44)))
theorem F81(a0:N O):∀(n:Q) (v2:O) (r:P),U6 a0 n v2=H r→∀σ:St,σ.kept [8,9,10] [] []=⟨[(8,vc (aL (W rI a0))),(9,vc (aI (a0.length:O))),(10,vc (aI v2))],[],[]⟩→go X (.code (.loop C5n):: [.blk 0,.code D44]) (Ret [2] [.sc (.v (.bool r))]) .normal (H σ):=by
 intro n
 induction n with
 | zero=>intro _ r h; cases h
 | succ n ih=>
  intro v2 r h σ hσ
  rw[U6] at h
  refine B0 ?_
  rcases ic h with ⟨h3,h⟩|⟨h3,h⟩
  ·obtain⟨x4,h4,h⟩:=ob h
   obtain⟨r5,h5,h⟩:=ob h
   try simp only[hσ,h3,h4,C5n,A,B,C,E,F,J]
   refine A2 (G3 _ _ _ _ h5) V V (uf V) ?_
   rcases ic h with ⟨h6,h⟩|⟨h6,h⟩
   ·try simp only[h3,h4,h6,A,B,C,E,F,J]
    refine ih _ _ h _ ?_
    try simp only[h3,h4,h6,A,B,C,E,F,J,Y]
   ·try simp only[h3,h4,h6,A,B,C,E,F,J]
    cases h
    trivial
  ·try simp only[hσ,h3,C5n,D44,A,B,C,E,F,J]
   cases h
   trivial
theorem F5z:A5 X 268=H (cc176.strip,[2],18):=by kernel_rfl
theorem A9a(a0:N O)(r:P)(h:A0o a0=H r):FC X 268 [.sc (.sl (W rI a0))] [.sc (.v (.bool r))]:=by
 unfold A0o at h
 refine C4 A7 F5z V ?_
 simp only[cc176,A,B,C,E,F,J]
 rcases ic h with ⟨h1,h⟩|⟨h1,h⟩
 ·try simp only[h1,A,B,C,E,F,J]
  cases h
  trivial
 ·try simp only[h1,A,B,C,E,F,J]
  refine F81 _ _ _ _ h _ ?_
  try simp only[h1,A,B,C,E,F,J,Y]
/- 185:impl_CrewOk -/
def cc179:X2:=(.seq (.reg [bo 1 0,(L,.mv 2 (KB G))]) (.seq (.reg [fa 3 1 0,ld 4 3,ca 5 114 [S 4,K 0,K 12],mv 6 5,(H (6,T),.faddr 7 (S 1) 1),(H (6,T),.load 8 (S 7) G 1),(H (6,T),.call 9 114 [(S 8),(K 0),(K 12)]),pa 10 6 9,mv 11 10,(H (11,T),.faddr 12 (S 1) 2),(H (11,T),.load 13 (S 12) G 1),(H (11,T),.call 14 117 [(S 13)]),pa 15 11 14,mv 16 15,(H (16,T),.faddr 17 (S 1) 3),(H (16,T),.load 18 (S 17) G 1),(H (16,T),.call 19 268 [(S 18)]),pa 20 16 19,mv 2 20]) .ret))
theorem F5a:A5 X 185=H (cc179.strip,[2],21):=by kernel_rfl
theorem C4g(a0:Xo)(r:P)(h:A6f a0=H r):FC X 185 [.ag (Xo.row a0)] [.sc (.v (.bool r))]:=by
 unfold A6f at h
 refine C4 A7 F5a V ?_
 simp only[cc179,A,B,C,E,F,J]
 try simp only[A,B,C,E,F,J]
 refine B2 V V V ?_
 obtain⟨r1,h1,h⟩:=ob h
 try simp only[A,B,C,E,F,J]
 refine A2 (G3 _ _ _ _ h1) V V (uf V) ?_
 rcases ic h with ⟨h2,h⟩|⟨h2,h⟩
 ·obtain⟨r3,h3,h⟩:=ob h
  try simp only[h2,A,B,C,E,F,J]
  refine A2 (G3 _ _ _ _ h3) V V (uf V) ?_
  rcases ic h with ⟨h4,h⟩|⟨h4,h⟩
  ·obtain⟨r5,h5,h⟩:=ob h
   try simp only[h2,h4,A,B,C,E,F,J]
   refine A2 (T8 _ _ h5) V V (uf V) ?_
   rcases ic h with ⟨h6,h⟩|⟨h6,h⟩
   ·obtain⟨r7,h7,h⟩:=ob h
    try simp only[h2,h4,h6,A,B,C,E,F,J]
    refine A2 (A9a _ _ h7) V V (uf V) ?_
    try simp only[h2,h4,h6,A,B,C,E,F,J]
    cases h
    trivial
   ·try simp only[h2,h4,h6,A,B,C,E,F,J]
    cases h
    trivial
  ·try simp only[h2,h4,A,B,C,E,F,J]
   cases h
   trivial
 ·try simp only[h2,A,B,C,E,F,J]
  cases h
  trivial
/- 91:impl_HarbourOk -/
def cc181:X2:=(.seq (.reg [bo 1 0,(L,.mv 2 (KB G))]) (.seq (.reg [fa 3 1 0,lw 4 3 3,ca 5 116 [S 4],mv 6 5,(H (6,T),.faddr 7 (S 1) 3),(H (6,T),.load 8 (S 7) T 2),(H (6,T),.call 9 93 [(S 8)]),pa 10 6 9,mv 11 10,(H (11,T),.faddr 12 (S 1) 5),(H (11,T),.load 13 (S 12) G 1),(H (11,T),.call 14 183 [(S 13)]),pa 15 11 14,mv 16 15,(H (16,T),.faddr 17 (S 1) 6),(H (16,T),.load 18 (S 17) T 2),(H (16,T),.call 19 184 [(S 18)]),pa 20 16 19,mv 21 20,(H (21,T),.faddr 22 (S 1) 8),(H (21,T),.load 23 (S 22) T 4),(H (21,T),.call 24 185 [(S 23)]),pa 25 21 24,mv 2 25]) .ret))
theorem F3g:A5 X 91=H (cc181.strip,[2],26):=by kernel_rfl
theorem B1w(a0:X6)(r:P)(h:A18 a0=H r):FC X 91 [.ag (X6.row a0)] [.sc (.v (.bool r))]:=by
 unfold A18 at h
 refine C4 A7 F3g V ?_
 simp only[cc181,A,B,C,E,F,J]
 try simp only[A,B,C,E,F,J]
 refine B2 V V V ?_
 obtain⟨r1,h1,h⟩:=ob h
 try simp only[A,B,C,E,F,J]
 refine A2 (A5j _ _ h1) V V (uf V) ?_
 rcases ic h with ⟨h2,h⟩|⟨h2,h⟩
 ·obtain⟨r3,h3,h⟩:=ob h
  try simp only[h2,A,B,C,E,F,J]
  refine A2 (W1 _ _ h3) V V (uf V) ?_
  rcases ic h with ⟨h4,h⟩|⟨h4,h⟩
  ·obtain⟨r5,h5,h⟩:=ob h
   try simp only[h2,h4,A,B,C,E,F,J]
   refine A2 (B3w _ _ h5) V V (uf V) ?_
   rcases ic h with ⟨h6,h⟩|⟨h6,h⟩
   ·obtain⟨r7,h7,h⟩:=ob h
    try simp only[h2,h4,h6,A,B,C,E,F,J]
    refine A2 (C06 _ _ h7) V V (uf V) ?_
    rcases ic h with ⟨h8,h⟩|⟨h8,h⟩
    ·obtain⟨r9,h9,h⟩:=ob h
     try simp only[h2,h4,h6,h8,A,B,C,E,F,J]
     refine A2 (C4g _ _ h9) V V (uf V) ?_
     try simp only[h2,h4,h6,h8,A,B,C,E,F,J]
     cases h
     trivial
    ·try simp only[h2,h4,h6,h8,A,B,C,E,F,J]
     cases h
     trivial
   ·try simp only[h2,h4,h6,A,B,C,E,F,J]
    cases h
    trivial
  ·try simp only[h2,h4,A,B,C,E,F,J]
   cases h
   trivial
 ·try simp only[h2,A,B,C,E,F,J]
  cases h
  trivial
/- 92:impl_callOk -/
def cc183:X2:=(.seq (.reg [bo 2 0,bo 3 1,(L,.mv 4 (KB G))]) (.seq (.reg [fa 6 2 3,fa 7 6 0,ld 8 7,ln 9 8,mv 5 9]) (.seq (.reg [fa 10 3 0,ld 11 10,fa 12 2 5,ld 13 12,ln 14 13,ca 15 94 [S 11,S 14],mv 16 15,(H (16,T),.faddr 17 (S 3) 1),(H (16,T),.load 18 (S 17) G 1),(H (16,T),.mv 19 (S 5)),(H (16,T),.call 20 94 [(S 18),(S 19)]),pa 21 16 20,mv 22 21,(H (22,T),.faddr 23 (S 3) 2),(H (22,T),.load 24 (S 23) G 1),(H (22,T),.mv 25 (S 5)),(H (22,T),.call 26 94 [(S 24),(S 25)]),pa 27 22 26,mv 28 27,(H (28,T),.faddr 29 (S 3) 1),(H (28,T),.load 30 (S 29) G 1),(H (28,T),.faddr 31 (S 3) 2),(H (28,T),.load 32 (S 31) G 1),(H (28,T),.bin 33 .neq (S 30) (S 32)),pa 34 28 33,mv 35 34,(H (35,T),.faddr 36 (S 3) 3),(H (35,T),.load 37 (S 36) G 1),(H (35,T),.call 38 117 [(S 37)]),pa 39 35 38,mv 40 39,(H (40,T),.faddr 41 (S 3) 4),(H (40,T),.load 42 (S 41) G 1),(H (40,T),.faddr 43 (S 3) 3),(H (40,T),.load 44 (S 43) G 1),(H (40,T),.call 45 114 [(S 42),(S 44),(K 2880)]),pa 46 40 45,mv 4 46]) .ret)))
theorem F4j:A5 X 92=H (cc183.strip,[4],47):=by kernel_rfl
theorem B5b(a0:X6)(a1:X8)(r:P)(h:A4h a0 a1=H r):FC X 92 [.ag (X6.row a0),.ag (X8.row a1)] [.sc (.v (.bool r))]:=by
 unfold A4h at h
 refine C4 A7 F4j V ?_
 simp only[cc183,A,B,C,E,F,J]
 try simp only[A,B,C,E,F,J]
 refine B2 V V V ?_
 try simp only[A,B,C,E,F,J]
 refine B2 V V V ?_
 obtain⟨r1,h1,h⟩:=ob h
 try simp only[A,B,C,E,F,J]
 refine A2 (E2 _ _ _ h1) V V (uf V) ?_
 rcases ic h with ⟨h2,h⟩|⟨h2,h⟩
 ·obtain⟨r3,h3,h⟩:=ob h
  try simp only[h2,A,B,C,E,F,J]
  refine A2 (E2 _ _ _ h3) V V (uf V) ?_
  rcases ic h with ⟨h4,h⟩|⟨h4,h⟩
  ·obtain⟨r5,h5,h⟩:=ob h
   try simp only[h2,h4,A,B,C,E,F,J]
   refine A2 (E2 _ _ _ h5) V V (uf V) ?_
   rcases ic h with ⟨h6,h⟩|⟨h6,h⟩
   ·rcases ic h with ⟨h7,h⟩|⟨h7,h⟩
    ·obtain⟨r9,h9,h⟩:=ob h
     try simp only[h2,h4,h6,h7,A,B,C,E,F,J]
     refine A2 (T8 _ _ h9) V V (uf V) ?_
     rcases ic h with ⟨h10,h⟩|⟨h10,h⟩
     ·obtain⟨r11,h11,h⟩:=ob h
      try simp only[h2,h4,h6,h7,h10,A,B,C,E,F,J]
      refine A2 (G3 _ _ _ _ h11) V V (uf V) ?_
      try simp only[h2,h4,h6,h7,h10,A,B,C,E,F,J]
      cases h
      trivial
     ·try simp only[h2,h4,h6,h7,h10,A,B,C,E,F,J]
      cases h
      trivial
    ·try simp only[h2,h4,h6,h7,A,B,C,E,F,J]
     cases h
     trivial
   ·try simp only[h2,h4,h6,A,B,C,E,F,J]
    cases h
    trivial
  ·try simp only[h2,h4,A,B,C,E,F,J]
   cases h
   trivial
 ·try simp only[h2,A,B,C,E,F,J]
  cases h
  trivial
/- 18:impl_CallsOk -/
def C6u:X2:= .seq (.reg [(L,.keep [1,2,6,17,18,19,30,31,32] [2,6] [])]) (.seq (.reg [bn 33 .lss 32 31]) (.seq (.cond (S 33) .skip (.exit 2)) (.seq (.block 3 (.seq (.reg [ia 34 30 32 5,lw 35 34 5,(L,.alloc 8 [aI 0,aI 0,aI 0,aI 0,aI 0]),so 8 35 5]) (.seq (.reg [fa 36 8 0,ld 37 36,fa 38 6 0,ld 39 38,bn 40 .eql 37 39]) (.cond (S 40) (.seq (.reg [(L,.mv 4 (KB G))]) .ret) .skip)))) (.reg [(L,.bin 41 .add (S 32) (K 1)),mv 32 41]))))
def D3x:X2:=(.reg [(L,.bin 42 .add (S 19) (K 1)),mv 19 42])
def B7e:X2:= .seq (.reg [(L,.keep [1,2,17,18,19] [2] [])]) (.seq (.reg [bn 20 .lss 19 18]) (.seq (.cond (S 20) .skip (.exit 0)) (.seq (.block 1 (.seq (.reg [mv 21 19,ia 22 17 19 5,lw 23 22 5,(L,.alloc 6 [aI 0,aI 0,aI 0,aI 0,aI 0]),mv 5 21,so 6 23 5]) (.seq (.seq (.reg [lw 24 2 12,lw 25 6 5,ca 26 92 [S 24,S 25],nt 27 26]) (.cond (S 27) (.seq (.reg [(L,.mv 4 (KB G))]) .ret) .skip)) (.seq (.reg [mv 28 1,mv 29 5,(L,.slc 30 5 (S 28) L (H (S 29)) L),ln 31 30,(L,.mv 32 (K 0))]) (.block 2 (.loop C6u)))))) D3x)))
def C09:X2:=(.seq (.reg [(L,.mv 4 (KB T))]) .ret)
def cc189:X2:=(.seq (.reg [bo 2 0,(L,.mv 4 (KB G))]) (.seq (.seq (.reg [lw 9 2 12,ca 10 91 [S 9],nt 11 10,mv 12 11,(H (12,G),.mv 13 (S 1)),(H (12,G),.len 14 (S 13)),(H (12,G),.bin 15 .gtr (S 14) (K 6)),po 16 12 15]) (.cond (S 16) (.seq (.reg [(L,.mv 4 (KB G))]) .ret) .skip)) (.seq (.seq (.reg [mv 17 1,ln 18 17,(L,.mv 19 (K 0))]) (.block 0 (.loop B7e))) C09)))
theorem F7n(a1:N X8)(v4:O)(a0:X6)(x6:X8)(y10:N X8)(y11:O)(A33:O→Option P)(B8h:∀(v4:O) zr,A33 v4=H zr→∀σ:St,σ.kept [1,2,17,18,19] [2] []=⟨[(1,vc (aL (W X8.row a1))),(2,vc (.pb 2 0)),(17,vc (aL (W X8.row a1))),(18,vc (aI (a1.length:O))),(19,vc (aI v4))],[(2,(dm a0.row))],[]⟩→go X (.code (.loop B7e):: [.blk 0,.code C09]) (Ret [4] [.sc (.v (.bool zr))]) .normal (H σ)):∀(n:Q) (v12:O) (r:P),A0b a1 v4 a0 x6 y10 y11 A33 n v12=H r→∀σ:St,σ.kept [1,2,6,17,18,19,30,31,32] [2,6] []=⟨[(1,vc (aL (W X8.row a1))),(2,vc (.pb 2 0)),(6,vc (.pb 6 0)),(17,vc (aL (W X8.row a1))),(18,vc (aI (a1.length:O))),(19,vc (aI v4)),(30,vc (aL (W X8.row y10))),(31,vc (aI y11)),(32,vc (aI v12))],[(2,(dm a0.row)),(6,(dm x6.row))],[]⟩→go X (.code (.loop C6u):: [.blk 2,.blk 1,.code D3x,.code (.loop B7e),.blk 0,.code C09]) (Ret [4] [.sc (.v (.bool r))]) .normal (H σ):=by
 intro n
 induction n with
 | zero=>intro _ r h; cases h
 | succ n ih=>
  intro v12 r h σ hσ
  rw[A0b] at h
  refine B0 ?_
  rcases ic h with ⟨h13,h⟩|⟨h13,h⟩
  ·obtain⟨x14,h14,h⟩:=ob h
   try simp only[hσ,h13,h14,C6u,A,B,C,E,F,J]
   refine D7 V V ?_
   rcases ic h with ⟨h15,h⟩|⟨h15,h⟩
   ·try simp only[h13,h14,h15,A,B,C,E,F,J]
    cases h
    trivial
   ·try simp only[h13,h14,h15,A,B,C,E,F,J]
    refine ih _ _ h _ ?_
    try simp only[h13,h14,h15,A,B,C,E,F,J,Y]
  ·try simp only[hσ,h13,C6u,D3x,A,B,C,E,F,J]
   refine B8h _ _ h _ ?_
   try simp only[h13,A,B,C,E,F,J,Y]
theorem F5u(a1:N X8)(a0:X6):∀(n:Q) (v4:O) (r:P),Q1 a1 a0 n v4=H r→∀σ:St,σ.kept [1,2,17,18,19] [2] []=⟨[(1,vc (aL (W X8.row a1))),(2,vc (.pb 2 0)),(17,vc (aL (W X8.row a1))),(18,vc (aI (a1.length:O))),(19,vc (aI v4))],[(2,(dm a0.row))],[]⟩→go X (.code (.loop B7e):: [.blk 0,.code C09]) (Ret [4] [.sc (.v (.bool r))]) .normal (H σ):=by
 intro n
 induction n with
 | zero=>intro _ r h; cases h
 | succ n ih=>
  intro v4 r h σ hσ
  rw[Q1] at h
  refine B0 ?_
  rcases ic h with ⟨h5,h⟩|⟨h5,h⟩
  ·obtain⟨x6,h6,h⟩:=ob h
   try simp only[hσ,h5,h6,B7e,A,B,C,E,F,J]
   refine D7 V V ?_
   obtain⟨r7,h7,h⟩:=ob h
   try simp only[h5,h6,A,B,C,E,F,J]
   refine A2 (B5b _ _ _ h7) V V (uf V) ?_
   rcases ic h with ⟨h8,h⟩|⟨h8,h⟩
   ·obtain⟨p9,h9,h⟩:=ob h
    try simp only[h5,h6,h8,h9,A,B,C,E,F,J]
    refine F7n _ _ _ _ _ _ (Q1 a1 a0 n) ih _ _ _ h _ ?_
    try simp only[h5,h6,h8,h9,A,B,C,E,F,J,Y]
   ·try simp only[h5,h6,h8,A,B,C,E,F,J]
    cases h
    trivial
  ·try simp only[hσ,h5,B7e,C09,A,B,C,E,F,J]
   cases h
   trivial
theorem F53:A5 X 18=H (cc189.strip,[4],43):=by kernel_rfl
theorem A5t(a0:X6)(a1:N X8)(r:P)(h:V8 a0 a1=H r):FC X 18 [.ag (X6.row a0),.sc (.sl (W X8.row a1))] [.sc (.v (.bool r))]:=by
 unfold V8 at h
 refine C4 A7 F53 V ?_
 simp only[cc189,A,B,C,E,F,J]
 try simp only[A,B,C,E,F,J]
 refine B2 V V V ?_
 obtain⟨r1,h1,h⟩:=ob h
 try simp only[A,B,C,E,F,J]
 refine A2 (B1w _ _ h1) V V (uf V) ?_
 rcases ic h with ⟨h2,h⟩|⟨h2,h⟩
 ·rcases ic h with ⟨h3,h⟩|⟨h3,h⟩
  ·try simp only[h2,h3,A,B,C,E,F,J]
   cases h
   trivial
  ·try simp only[h2,h3,A,B,C,E,F,J]
   refine F5u _ _ _ _ _ h _ ?_
   try simp only[h2,h3,A,B,C,E,F,J,Y]
 ·try simp only[h2,A,B,C,E,F,J]
  cases h
  trivial
/- 19:impl_ClosuresOk -/
def C5c:X2:= .seq (.reg [(L,.keep [2,15,16,17] [2] [])]) (.seq (.reg [bn 18 .lss 17 16]) (.seq (.cond (S 18) .skip (.exit 0)) (.seq (.block 1 (.seq (.reg [ia 19 15 17 3,lw 20 19 3,(L,.alloc 6 [aI 0,aI 0,aI 0]),so 6 20 3]) (.seq (.reg [fa 21 6 0,ld 22 21,fa 23 2 1,ld 24 23,ln 25 24,ca 26 94 [S 22,S 25],nt 27 26,mv 28 27,(H (28,G),.faddr 29 (S 6) 1),(H (28,G),.load 30 (S 29) G 1),(H (28,G),.bin 31 .lss (S 30) (K 0)),po 32 28 31,mv 33 32,(H (33,G),.faddr 34 (S 6) 1),(H (33,G),.load 35 (S 34) G 1),(H (33,G),.faddr 36 (S 6) 2),(H (33,G),.load 37 (S 36) G 1),(H (33,G),.bin 38 .geq (S 35) (S 37)),po 39 33 38,mv 40 39,(H (40,G),.faddr 41 (S 6) 2),(H (40,G),.load 42 (S 41) G 1),(H (40,G),.bin 43 .gtr (S 42) (K 2880)),po 44 40 43]) (.cond (S 44) (.seq (.reg [(L,.mv 4 (KB G))]) .ret) .skip)))) (.reg [(L,.bin 45 .add (S 17) (K 1)),mv 17 45]))))
def D2a:X2:=(.seq (.reg [(L,.mv 4 (KB T))]) .ret)
def cc195:X2:=(.seq (.reg [bo 2 0,(L,.mv 4 (KB G))]) (.seq (.seq (.reg [lw 7 2 2,ca 8 93 [S 7],nt 9 8,mv 10 9,(H (10,G),.mv 11 (S 1)),(H (10,G),.len 12 (S 11)),(H (10,G),.bin 13 .gtr (S 12) (K 4)),po 14 10 13]) (.cond (S 14) (.seq (.reg [(L,.mv 4 (KB G))]) .ret) .skip)) (.seq (.seq (.reg [mv 15 1,ln 16 15,(L,.mv 17 (K 0))]) (.block 0 (.loop C5c))) D2a)))
theorem F3h(a1:N Xa)(a0:X5):∀(n:Q) (v4:O) (r:P),S8 a1 a0 n v4=H r→∀σ:St,σ.kept [2,15,16,17] [2] []=⟨[(2,vc (.pb 2 0)),(15,vc (aL (W zE a1))),(16,vc (aI (a1.length:O))),(17,vc (aI v4))],[(2,(dm a0.row))],[]⟩→go X (.code (.loop C5c):: [.blk 0,.code D2a]) (Ret [4] [.sc (.v (.bool r))]) .normal (H σ):=by
 intro n
 induction n with
 | zero=>intro _ r h; cases h
 | succ n ih=>
  intro v4 r h σ hσ
  rw[S8] at h
  refine B0 ?_
  rcases ic h with ⟨h5,h⟩|⟨h5,h⟩
  ·obtain⟨x6,h6,h⟩:=ob h
   try simp only[hσ,h5,h6,C5c,A,B,C,E,F,J]
   refine D7 V V ?_
   obtain⟨r7,h7,h⟩:=ob h
   try simp only[h5,h6,A,B,C,E,F,J]
   refine A2 (E2 _ _ _ h7) V V (uf V) ?_
   rcases ic h with ⟨h8,h⟩|⟨h8,h⟩
   ·rcases ic h with ⟨h9,h⟩|⟨h9,h⟩
    ·try simp only[h5,h6,h8,h9,A,B,C,E,F,J]
     cases h
     trivial
    ·rcases ic h with ⟨h10,h⟩|⟨h10,h⟩
     ·try simp only[h5,h6,h8,h9,h10,A,B,C,E,F,J]
      cases h
      trivial
     ·rcases ic h with ⟨h11,h⟩|⟨h11,h⟩
      ·try simp only[h5,h6,h8,h9,h10,h11,A,B,C,E,F,J]
       cases h
       trivial
      ·try simp only[h5,h6,h8,h9,h10,h11,A,B,C,E,F,J]
       refine ih _ _ h _ ?_
       try simp only[h5,h6,h8,h9,h10,h11,A,B,C,E,F,J,Y]
   ·try simp only[h5,h6,h8,A,B,C,E,F,J]
    cases h
    trivial
  ·try simp only[hσ,h5,C5c,D2a,A,B,C,E,F,J]
   cases h
   trivial
theorem F6h:A5 X 19=H (cc195.strip,[4],46):=by kernel_rfl
theorem A5a(a0:X5)(a1:N Xa)(r:P)(h:R9 a0 a1=H r):FC X 19 [.ag (X5.row a0),.sc (.sl (W zE a1))] [.sc (.v (.bool r))]:=by
 unfold R9 at h
 refine C4 A7 F6h V ?_
 simp only[cc195,A,B,C,E,F,J]
 try simp only[A,B,C,E,F,J]
 refine B2 V V V ?_
 obtain⟨r1,h1,h⟩:=ob h
 try simp only[A,B,C,E,F,J]
 refine A2 (W1 _ _ h1) V V (uf V) ?_
 rcases ic h with ⟨h2,h⟩|⟨h2,h⟩
 ·rcases ic h with ⟨h3,h⟩|⟨h3,h⟩
  ·try simp only[h2,h3,A,B,C,E,F,J]
   cases h
   trivial
  ·try simp only[h2,h3,A,B,C,E,F,J]
   refine F3h _ _ _ _ _ h _ ?_
   try simp only[h2,h3,A,B,C,E,F,J,Y]
 ·try simp only[h2,A,B,C,E,F,J]
  cases h
  trivial
/- 99:impl_CallOk -/
def cc198:X2:=(.seq (.reg [bo 2 0,bo 3 1,(L,.mv 4 (KB G))]) (.seq (.reg [lw 5 2 12,ca 6 91 [S 5],mv 7 6,(H (7,T),.load 8 (S 2) T 12),(H (7,T),.load 9 (S 3) T 5),(H (7,T),.call 10 92 [(S 8),(S 9)]),pa 11 7 10,mv 4 11]) .ret))
theorem F7b:A5 X 99=H (cc198.strip,[4],12):=by kernel_rfl
theorem B0g(a0:X6)(a1:X8)(r:P)(h:A2u a0 a1=H r):FC X 99 [.ag (X6.row a0),.ag (X8.row a1)] [.sc (.v (.bool r))]:=by
 unfold A2u at h
 refine C4 A7 F7b V ?_
 simp only[cc198,A,B,C,E,F,J]
 try simp only[A,B,C,E,F,J]
 refine B2 V V V ?_
 try simp only[A,B,C,E,F,J]
 refine B2 V V V ?_
 obtain⟨r1,h1,h⟩:=ob h
 try simp only[A,B,C,E,F,J]
 refine A2 (B1w _ _ h1) V V (uf V) ?_
 rcases ic h with ⟨h2,h⟩|⟨h2,h⟩
 ·obtain⟨r3,h3,h⟩:=ob h
  try simp only[h2,A,B,C,E,F,J]
  refine A2 (B5b _ _ _ h3) V V (uf V) ?_
  try simp only[h2,A,B,C,E,F,J]
  cases h
  trivial
 ·try simp only[h2,A,B,C,E,F,J]
  cases h
  trivial
/- 121:impl_clone_int -/
def cc200:X2:=(.seq (.reg [(L,.mv 2 KN)]) (.seq (.reg [mv 3 0,ln 4 3,(L,.mksl 5 1 8 [.int .i64 0] (K 0) (S 4)),mv 6 0,(L,.app 7 1 8 (S 5) (S 6)),mv 2 7]) .ret))
theorem F4r:A5 X 121=H (cc200.strip,[2],8):=by kernel_rfl
theorem A57(a0:N O)(r:(N O))(h:D6 a0=H r):FC X 121 [.sc (.sl (W rI a0))] [.sc (.o 1 (W rI r))]:=by
 unfold D6 at h
 refine C4 A7 F4r V ?_
 simp only[cc200,A,B,C,E,F,J]
 obtain⟨n1,hn1,h⟩:=ob h
 try simp only[A,B,C,E,F,J]
 refine B3r (es:=W rI (List.replicate n1 (0:O))) V V hn1 V (B1g V) V ?_
 obtain⟨h2,h⟩:=D3 h
 try simp only[h2,A,B,C,E,F,J]
 cases h
 trivial
/- 327:impl_Segment_end -/
def cc202:X2:=(.seq (.reg [bo 2 0,(L,.mv 4 (K 0))]) (.seq (.seq (.reg [mv 5 1]) (.block 0 (.seq (.reg [fa 7 2 0,ld 8 7,bn 9 .eql 5 8,mv 6 9]) (.cond (S 6) (.seq (.reg [fa 10 2 1,ld 11 10,mv 4 11]) .ret) (.seq (.reg [fa 13 2 1,ld 14 13,bn 15 .eql 5 14,mv 12 15]) (.cond (S 12) (.seq (.reg [fa 16 2 0,ld 17 16,mv 4 17]) .ret) .skip)))))) (.seq (.reg [(L,.mv 4 (K (-1)))]) .ret)))
theorem F4o:A5 X 327=H (cc202.strip,[4],18):=by kernel_rfl
theorem A96(a0:X3)(a1 r:O)(h:A0n a0 a1=H r):FC X 327 [.ag (X3.row a0),.sc (.int .i64 a1)] [.sc (.v (.int .i64 r))]:=by
 unfold A0n at h
 refine C4 A7 F4o V ?_
 simp only[cc202,A,B,C,E,F,J]
 try simp only[A,B,C,E,F,J]
 refine B2 V V V ?_
 rcases ic h with ⟨h1,h⟩|⟨h1,h⟩
 ·try simp only[h1,A,B,C,E,F,J]
  cases h
  trivial
 ·rcases ic h with ⟨h2,h⟩|⟨h2,h⟩
  ·try simp only[h1,h2,A,B,C,E,F,J]
   cases h
   trivial
  ·try simp only[h1,h2,A,B,C,E,F,J]
   cases h
   trivial
end Go.Vi
