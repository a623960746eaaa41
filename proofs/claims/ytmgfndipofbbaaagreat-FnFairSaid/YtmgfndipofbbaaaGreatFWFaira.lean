/-
Walks. No condition.
-/
import Derived.Test.YtmgfndipofbbaaaGreatFNf
import Derived.Test.YtmgfndipofbbaaaGreatChecked
import Derived.KernelRfl
namespace Go.Vi
open Go.Proofs
set_option linter.all false
set_option maxRecDepth 4000
set_option maxHeartbeats 2000000
open Nat renaming reduceBEq → A, reduceMul → B, reduceAdd → C, reduceDiv → E, le_of_ble_eq_true → uf
open Int renaming reduceBEq → F
attribute [local irreducible] go AWP
open List renaming map → X, map_nil → Z, all_cons → zC, all_nil → zD, cons_append → zG, nil_append → zH
open Tryz renaming prog → Y
open Xi renaming row → I
open Xb renaming row → zA
open Xf renaming row → zB
open Xa renaming row → zE
open Int renaming toNat → zF
open IntKind renaming wrap → zI
open Bool renaming true → T, false → G
open Option renaming some → H, none → L
open _root_ renaming List → N, Option → O, Int → P, Bool → Q, Nat → U, UInt8 → V, rfl → W
theorem B0:Tryz.prog.follows .mixedOrders=T:=by kernel_rfl
/- 81:spec_l01New -/
def cc0:X3:= .seq (.reg [(L,.keep [0,3,4] [] [])]) (.seq (.seq (.reg [mv 8 4,mv 9 0,ln 10 9,bn 11 .lss 8 10,mv 12 11,(H (12,T),.mv 13 (S 4)),(H (12,T),.bin 14 .lss (S 13) (K 4000)),pa 15 12 14]) (.cond (S 15) .skip (.exit 0))) (.seq (.block 1 (.reg [mv 18 3,(L,.bin 19 .mul (S 18) (K 79)),mv 20 0,mv 21 4,ia 22 20 21 1,ld 23 22,(L,.conv 24 .i64 (S 23)),bn 25 .add 19 24,(L,.bin 26 .add (S 25) (K 7)),(L,.bin 27 .and (S 26) (K 1073741823)),mv 3 27])) (.reg [mv 16 4,(L,.bin 17 .add (S 16) (K 1)),mv 4 17])))
def cc1:X3:= .seq (.reg [(L,.keep [0,3] [] [])]) (.seq (.reg [mv 28 0,mv 29 3,(L,.build 30 [.nil,aI 0,aI 0] [(0,1,(S 28)),(2,1,(S 29))]),bo 31 30,mv 2 31]) .ret)
def cc2:X3:=(.seq (.reg [(L,.mv 2 (.c (.v (.sc .undef))))]) (.seq (.reg [mv 5 0,ln 6 5,(L,.bin 7 .add (K 1976) (S 6)),mv 3 7]) (.seq (.seq (.reg [(L,.mv 4 (K 0))]) (.block 0 (.loop cc0))) cc1)))
theorem ww3(a0:N P)(v1:P)(r:X1)(h:A1d a0 v1=H r)(σ:St)(hσ:σ.kept [0,3] [] []=⟨[(0,vc (aL (X r8 a0))),(3,vc (aI v1))],[],[]⟩):go Y (.code cc1:: []) (C7x [2] [.sl (X r8 r.b),.int .i64 r.i,.int .i64 r.h]) .normal (H σ):=by
 unfold A1d at h
 try simp only[hσ,cc1,A,B,C,E,F,J]
 refine B3 W W W ?_
 try simp only[A,B,C,E,F,J]
 cases h
 exact⟨_,31,W,W,W,W⟩
theorem ww4(a0:N P):∀(n:U) (v1 v2:P) (r:X1),Z0 a0 n v1 v2=H r→∀σ:St,σ.kept [0,3,4] [] []=⟨[(0,vc (aL (X r8 a0))),(3,vc (aI v1)),(4,vc (aI v2))],[],[]⟩→go Y (.code (.loop cc0):: [.blk 0,.code cc1]) (C7x [2] [.sl (X r8 r.b),.int .i64 r.i,.int .i64 r.h]) .normal (H σ):=by
 intro n
 induction n with
 | zero=>intro _ _ r h; cases h
 | succ n ih=>
  intro v1 v2 r h σ hσ
  rw[Z0] at h
  refine B8 ?_
  rcases ic h with ⟨h3,h⟩|⟨h3,h⟩
  ·rcases ic h with ⟨h4,h⟩|⟨h4,h⟩
   ·obtain⟨x5,h5,h⟩:=ob h
    try simp only[hσ,h3,h4,h5,cc0,A,B,C,E,F,J]
    refine ih _ _ _ h _ ?_
    try simp only[h3,h4,h5,A,B,C,E,F,J,Z]
   ·try simp only[hσ,h3,h4,cc0,A,B,C,E,F,J]
    refine ww3 _ _ _ h _ ?_
    try simp only[h3,h4,A,B,C,E,F,J,Z]
  ·try simp only[hσ,h3,cc0,A,B,C,E,F,J]
   refine ww3 _ _ _ h _ ?_
   try simp only[h3,A,B,C,E,F,J,Z]
theorem ee5:A6 Y 81=H (cc2.strip,[2],32):=by kernel_rfl
theorem C1m(a0:N P)(r:X1)(h:A4w a0=H r):FCn Y 81 [.sc (.sl (X r8 a0))] [.sl (X r8 r.b),.int .i64 r.i,.int .i64 r.h]:=by
 unfold A4w at h
 refine E6d (σ:=⟨[(0,vc (aL (X r8 a0)))],[],[]⟩) B0 ee5 W W ?_
 simp only[cc2]
 try simp only[A,B,C,E,F,J]
 refine ww4 _ _ _ _ _ h _ ?_
 try simp only[A,B,C,E,F,J,Z]
/- 178:spec_l01Byte -/
def cc6:X3:=(.seq (.reg [(L,.mv 2 (K 0))]) (.seq (.reg [mv 4 0,mv 5 0,(L,.nilc 6 (S 5)),fa 7 6 2,ld 8 7,(L,.bin 9 .mul (S 8) (K 6364136223846793005)),(L,.bin 10 .add (S 9) (K 1442695040888963407)),(L,.nilc 11 (S 4)),fa 12 11 2,so 12 10 1]) (.seq (.drw [o0 (mv 13 0),o0 (L,.nilc 14 (S 13)),o0 (fa 15 14 2),o0 (ld 16 15),o0 (L,.bin 17 .shr (S 16) (.c (.v (.sc (.dat (.int .u64 33)))))),o0 (mv 18 0),o0 (L,.nilc 19 (S 18)),o0 (fa 20 19 2),o0 (ld 21 20),o0 (L,.bin 22 .shr (S 21) (.c (.v (.sc (.dat (.int .u64 45)))))),o0 (bn 23 .xor 17 22),o0 (L,.bin 24 .and (S 23) (K 255)),o0 (mv 3 24)]) (.seq (.seq (.drw [o0 (mv 25 0),o0 (L,.nilc 26 (S 25)),o0 (fa 27 26 1),o0 (ld 28 27),o0 (mv 29 0),o0 (L,.nilc 30 (S 29)),o0 (fa 31 30 0),o0 (ld 32 31),o0 (ln 33 32),o0 (bn 34 .lss 28 33)]) (.cond (S 34) (.seq (.drw [o0 (mv 35 3),o0 (mv 36 0),o0 (L,.nilc 37 (S 36)),o0 (fa 38 37 0),o0 (ld 39 38),o0 (mv 40 0),o0 (L,.nilc 41 (S 40)),o0 (fa 42 41 1),o0 (ld 43 42),o0 (ia 44 39 43 1),o0 (ld 45 44),o0 (L,.conv 46 .i64 (S 45)),o0 (bn 47 .add 35 46),o0 (L,.bin 48 .and (S 47) (K 255)),o0 (mv 3 48)]) (.reg [mv 49 0,mv 50 0,(L,.nilc 51 (S 50)),fa 52 51 1,ld 53 52,(L,.bin 54 .add (S 53) (K 1)),(L,.nilc 55 (S 49)),fa 56 55 1,so 56 54 1])) .skip)) (.seq (.reg [mv 57 3,mv 2 57]) .ret)))))
theorem ee7:A6 Y 178=H (cc6.strip,[2],58):=by kernel_rfl
theorem A39(a0:X1)(r:P × X1)(h:T0 a0=H r):FCy Y 178 [.p] [.sl (X r8 a0.b),.int .i64 a0.i,.int .i64 a0.h] [.sl (X r8 r.2.b),.int .i64 r.2.i,.int .i64 r.2.h] [.sc (.v (.int .i64 r.1))]:=by
 unfold T0 at h
 refine A3h (σ:=⟨[(0,vc (.pb 99999999999 0))],[(99999999999,[aL (X r8 a0.b),aI a0.i,aI a0.h])],[]⟩) B0 ee7 W W ?_
 simp only[cc6]
 try simp only[A,B,C,E,F,J]
 refine B4 W ?_
 try simp only[A,B,C,E,F,J]
 refine B4 W ?_
 rcases ic h with ⟨h1,h⟩|⟨h1,h⟩
 ·try simp only[h1,A,B,C,E,F,J]
  refine B4 W ?_
  obtain⟨x2,h2,h⟩:=ob h
  try simp only[h1,h2,A,B,C,E,F,J]
  cases h
  trivial
 ·try simp only[h1,A,B,C,E,F,J]
  cases h
  trivial
/- 120:spec_l01Below -/
def cc8:X3:=(.seq (.reg [(L,.mv 4 (K 0))]) (.seq (.seq (.reg [mv 9 1,(L,.bin 10 .leq (S 9) (K 0))]) (.cond (S 10) (.seq (.reg [(L,.mv 4 (K 0))]) .ret) .skip)) (.seq (.seq (.reg [mv 11 1,(L,.bin 12 .leq (S 11) (K 256))]) (.cond (S 12) (.seq (.reg [mv 13 0,ca 14 178 [S 13],mv 15 1,bn 16 .rem 14 15,mv 4 16]) .ret) .skip)) (.seq (.reg [mv 17 0,ca 18 178 [S 17],mv 5 18]) (.seq (.reg [mv 19 0,ca 20 178 [S 19],mv 6 20]) (.seq (.reg [mv 21 0,ca 22 178 [S 21],mv 7 22]) (.seq (.reg [mv 23 0,ca 24 178 [S 23],mv 8 24]) (.seq (.reg [mv 25 5,(L,.bin 26 .mul (S 25) (K 16777216)),mv 27 6,(L,.bin 28 .mul (S 27) (K 65536)),bn 29 .add 26 28,mv 30 7,(L,.bin 31 .mul (S 30) (K 256)),bn 32 .add 29 31,mv 33 8,bn 34 .add 32 33,mv 35 1,bn 36 .rem 34 35,mv 4 36]) .ret))))))))
theorem ee9:A6 Y 120=H (cc8.strip,[4],37):=by kernel_rfl
theorem B6(a0:X1)(a1:P)(r:P × X1)(h:A4 a0 a1=H r):FCy Y 120 [.p,.d (.sc (.int .i64 a1))] [.sl (X r8 a0.b),.int .i64 a0.i,.int .i64 a0.h] [.sl (X r8 r.2.b),.int .i64 r.2.i,.int .i64 r.2.h] [.sc (.v (.int .i64 r.1))]:=by
 unfold A4 at h
 refine A3h (σ:=⟨[(0,vc (.pb 99999999999 0)),(1,vc (aI a1))],[(99999999999,[aL (X r8 a0.b),aI a0.i,aI a0.h])],[]⟩) B0 ee9 W W ?_
 simp only[cc8]
 rcases ic h with ⟨h1,h⟩|⟨h1,h⟩
 ·try simp only[h1,A,B,C,E,F,J]
  cases h
  trivial
 ·rcases ic h with ⟨h2,h⟩|⟨h2,h⟩
  ·obtain⟨r3,h3,h⟩:=ob h
   try simp only[h1,h2,A,B,C,E,F,J]
   refine C4 (A39 _ _ h3) 99999999999 W W W ?_
   obtain⟨h4,h⟩:=A0g h
   try simp only[h1,h2,h4,A,B,C,E,F,J]
   cases h
   trivial
  ·obtain⟨r5,h5,h⟩:=ob h
   try simp only[h1,h2,A,B,C,E,F,J]
   refine C4 (A39 _ _ h5) 99999999999 W W W ?_
   obtain⟨r6,h6,h⟩:=ob h
   try simp only[h1,h2,A,B,C,E,F,J]
   refine C4 (A39 _ _ h6) 99999999999 W W W ?_
   obtain⟨r7,h7,h⟩:=ob h
   try simp only[h1,h2,A,B,C,E,F,J]
   refine C4 (A39 _ _ h7) 99999999999 W W W ?_
   obtain⟨r9,h9,h⟩:=ob h
   try simp only[h1,h2,A,B,C,E,F,J]
   refine C4 (A39 _ _ h9) 99999999999 W W W ?_
   obtain⟨h10,h⟩:=A0g h
   try simp only[h1,h2,h10,A,B,C,E,F,J]
   cases h
   trivial
/- 204:spec_l01Pick -/
def cc10:X3:=(.seq (.reg [(L,.mv 4 (K 0))]) (.seq (.reg [mv 5 1,mv 6 0,mv 7 1,ln 8 7,ca 9 120 [S 6,S 8],ia 10 5 9 1,ld 11 10,mv 4 11]) .ret))
theorem F3n:A6 Y 204=H (cc10.strip,[4],12):=by kernel_rfl
theorem B9g(a0:X1)(a1:N P)(r:P × X1)(h:A35 a0 a1=H r):FCy Y 204 [.p,.d (.sc (.sl (X rI a1)))] [.sl (X r8 a0.b),.int .i64 a0.i,.int .i64 a0.h] [.sl (X r8 r.2.b),.int .i64 r.2.i,.int .i64 r.2.h] [.sc (.v (.int .i64 r.1))]:=by
 unfold A35 at h
 refine A3h (σ:=⟨[(0,vc (.pb 99999999999 0)),(1,vc (aL (X rI a1)))],[(99999999999,[aL (X r8 a0.b),aI a0.i,aI a0.h])],[]⟩) B0 F3n W W ?_
 simp only[cc10]
 obtain⟨r1,h1,h⟩:=ob h
 try simp only[A,B,C,E,F,J]
 refine C4 (B6 _ _ _ h1) 99999999999 W W W ?_
 obtain⟨x2,h2,h⟩:=ob h
 try simp only[h2,A,B,C,E,F,J]
 cases h
 trivial
/- 358:spec_l02Part -/
def cc12:X3:=(.seq (.reg [(L,.alloc 2 [aI 0,aI 0,aI 0])]) (.seq (.reg [mv 4 0,ca 5 120 [S 4,K 300],mv 6 0,(L,.bslice 7 1 [.int .i64 0] 5 [(0,(K 744)),(1,(K 720)),(2,(K 1440)),(3,(K 372)),(4,(K 240))]),(L,.frz 448),ca 8 204 [S 6,S 7],(L,.build 9 [aI 0,aI 0,aI 0] [(0,1,(S 5)),(1,1,(S 8))]),(L,.alloc 3 [aI 0,aI 0,aI 0]),so 3 9 3]) (.seq (.reg [mv 10 0,fa 11 3 1,ld 12 11,ca 13 120 [S 10,S 12],fa 14 3 2,so 14 13 1]) (.seq (.reg [lw 15 3 3,so 2 15 3]) .ret))))
theorem F3t:A6 Y 358=H (cc12.strip,[.c 2 T 3],16):=by kernel_rfl
theorem B9s(a0:X1)(r:Xi × X1)(h:N3 a0=H r):FCy Y 358 [.p] [.sl (X r8 a0.b),.int .i64 a0.i,.int .i64 a0.h] [.sl (X r8 r.2.b),.int .i64 r.2.i,.int .i64 r.2.h] [.ag [.v (.int .i64 r.1.Amp),.v (.int .i64 r.1.Period),.v (.int .i64 r.1.Phase)]]:=by
 unfold N3 at h
 refine A3h (σ:=⟨[(0,vc (.pb 99999999999 0))],[(99999999999,[aL (X r8 a0.b),aI a0.i,aI a0.h])],[]⟩) B0 F3t W W ?_
 simp only[cc12]
 try simp only[A,B,C,E,F,J]
 refine D1 W W ?_
 obtain⟨r1,h1,h⟩:=ob h
 try simp only[A,B,C,E,F,J]
 refine C4 (B6 _ _ _ h1) 99999999999 W W W ?_
 try simp only[A,B,C,E,F,J]
 refine D4 (es:=X rI ([(744:P),(720:P),(1440:P),(372:P),(240:P)]:N P)) W W ?_
 try simp only[A,B,C,E,F,J]
 refine V0 W ?_
 obtain⟨r2,h2,h⟩:=ob h
 try simp only[A,B,C,E,F,J]
 refine C4 (B9g _ _ _ h2) 99999999999 W W W ?_
 try simp only[A,B,C,E,F,J]
 refine D1 W W ?_
 obtain⟨r3,h3,h⟩:=ob h
 try simp only[A,B,C,E,F,J]
 refine C4 (B6 _ _ _ h3) 99999999999 W W W ?_
 try simp only[A,B,C,E,F,J]
 cases h
 try simp only[M1,A,B,C,E,F,J]
 trivial
/- 324:spec_l02Draw -/
def Z9:N (N U × AItem):= [([],(L,.faddr 15 (S 3) 1)),([0],(L,.load 16 (S 15) G 1)),([],(L,.mv 17 (S 0))),([2],(L,.call 18 358 [(S 17)])),([3],(L,.bslice 19 3 [.int .i64 0,.int .i64 0,.int .i64 0] 1 [(0,(S 18))])),([1,4,3],(L,.app 20 3 24 (S 16) (S 19))),([0,1,2,3,4,5],(L,.faddr 21 (S 3) 1)),([6,5,5,0,1,2,3,4,5],(L,.store (S 21) (S 20) 1))]
def C8q:X3:= .seq (.reg [(L,.keep [0,2,3,4] [99999999999,2,3] [131136])]) (.seq (.seq (.reg [mv 11 4,(L,.bin 12 .gtr (S 11) (K 0))]) (.cond (S 12) .skip (.exit 0))) (.seq (.block 1 (.any Z9)) (.reg [mv 13 4,(L,.bin 14 .sub (S 13) (K 1)),mv 4 14])))
def D4r:X3:=(.seq (.reg [(L,.frz 131136),lw 22 3 2,so 2 22 2]) .ret)
def cc16:X3:=(.seq (.reg [(L,.alloc 2 [aI 0,.nil])]) (.seq (.reg [mv 5 0,ca 6 120 [S 5,K 300],(L,.build 7 [aI 0,.nil] [(0,1,(S 6))]),(L,.alloc 3 [aI 0,.nil]),so 3 7 2,(L,.ownb 3 1 131136 3)]) (.seq (.seq (.reg [mv 8 0,ca 9 120 [S 8,K 2],(L,.bin 10 .add (K 1) (S 9)),mv 4 10]) (.block 0 (.loop C8q))) D4r)))
abbrev E8(v3:P)(r9:Xi × X1)(wo1_:AV)(c0_ c1_:Q)(c2_ c3_:Q)(c4_ c5_ c6_:Q)(bx_:N (U × N AC))(rs_:Rows):St:=⟨[(0,vc (.pb 99999999999 0)),(2,vc (.pb 2 0)),(3,vc (.pb 3 0)),(4,vc (aI v3)),(15,bif c0_ then vc (.pb 3 1) else .undef),(16,bif c1_ then wo1_ else .undef),(17,bif c2_ then vc (.pb 99999999999 0) else .undef),(18,bif c3_ then va (dm r9.1.row) else .undef),(19,bif c4_ then vc (.own 1216) else .undef),(20,bif c5_ then vc (.own 131136) else .undef),(21,bif c6_ then vc (.pb 3 1) else .undef)],bx_,rs_⟩
abbrev S5(r1:P × X1)(v3:P)(v7:N Xi)(r9:Xi × X1):St:=(E8 v3 r9 (vc (.undef)) T T T T T T T [(99999999999,(dm r9.2.row)),(2,[aI (0:P),.nil]),(3,[aI r1.1,.own 131136])] [(131136,3,X I (v7++([r9.1]:N Xi))),(1216,3,X I ([r9.1]:N Xi))])
theorem F34(r1:P × X1)(v3:P)(v4:N P)(v5 v6:P)(v7:N Xi)(r9:Xi × X1)(h9:N3 (⟨v4,v5,v6⟩:X1)=H r9)(h10:(C9 v7.length ([r9.1]:N Xi).length 24)=T):∀(f:U),E2 Y Z9 (S5 r1 v3 v7 r9) f [T,T,T,T,T,T,T,T] (E8 v3 r9 (vc (.undef)) T T T T T T T [(99999999999,(dm r9.2.row)),(2,[aI (0:P),.nil]),(3,[aI r1.1,.own 131136])] [(131136,3,X I (v7++([r9.1]:N Xi))),(1216,3,X I ([r9.1]:N Xi))]):=by
 intro f
 induction f with
 | zero=>intro h; rfl
 | succ f ih=>
  refine B2 ⟨?_,?_,?_,?_,?_,?_,?_,?_,⟨⟩⟩<;>try first | (intro h; cases h; done)
theorem F4g(r1:P × X1)(v3:P)(v4:N P)(v5 v6:P)(v7:N Xi)(r9:Xi × X1)(h9:N3 (⟨v4,v5,v6⟩:X1)=H r9)(h10:(C9 v7.length ([r9.1]:N Xi).length 24)=T):∀(f:U) (b0 b6:Q),E2 Y Z9 (S5 r1 v3 v7 r9) f [b0,T,T,T,T,T,b6,G] (E8 v3 r9 (vc (.undef)) b0 T T T T T b6 [(99999999999,(dm r9.2.row)),(2,[aI (0:P),.nil]),(3,[aI r1.1,.undef])] [(131136,3,X I (v7++([r9.1]:N Xi))),(1216,3,X I ([r9.1]:N Xi))]):=by
 intro f
 induction f with
 | zero=>intro b0 b6 h; simp at h
 | succ f ih=>
  intro b0 b6
  refine B2 ⟨?_,?_,?_,?_,?_,?_,?_,?_,⟨⟩⟩<;>try first | (intro h; cases h; done) | (intro h0 hw; obtain rfl:=hz h0 rfl; (try obtain rfl:=hq hw 0 rfl rfl); refine np ?_; simp only[E8,cdt,cdf,A1,A,B,C,E,F,J]; exact ih _ _)
  ·intro h0 hw
   obtain rfl:=hq hw 0 rfl rfl
   obtain rfl:=hq hw 6 rfl rfl
   refine np ?_
   try simp only[E8,cdt,cdf,A1,A,B,C,E,F,J]
   exact F34 r1 v3 v4 v5 v6 v7 r9 h9 h10 _
theorem F3r(r1:P × X1)(v3:P)(v4:N P)(v5 v6:P)(v7:N Xi)(r9:Xi × X1)(h9:N3 (⟨v4,v5,v6⟩:X1)=H r9)(h10:(C9 v7.length ([r9.1]:N Xi).length 24)=T):∀(f:U) (b0 b1:Q),E2 Y Z9 (S5 r1 v3 v7 r9) f [b0,b1,T,T,T,G,G,G] (E8 v3 r9 (vc (.own 131136)) b0 b1 T T T G G [(99999999999,(dm r9.2.row)),(2,[aI (0:P),.nil]),(3,[aI r1.1,.own 131136])] [(131136,3,X I v7),(1216,3,X I ([r9.1]:N Xi))]):=by
 intro f
 induction f with
 | zero=>intro b0 b1 h; simp at h
 | succ f ih=>
  intro b0 b1
  refine B2 ⟨?_,?_,?_,?_,?_,?_,?_,?_,⟨⟩⟩<;>try first | (intro h; cases h; done) | (intro _ hw; simp at hw; done) | (intro h0 hw; obtain rfl:=hz h0 rfl; (try obtain rfl:=hq hw 0 rfl rfl); refine np ?_; simp only[E8,cdt,cdf,A1,A,B,C,E,F,J]; exact ih _ _)
  ·intro h0 hw
   obtain rfl:=hq hw 1 rfl rfl
   refine np ?_
   try simp only[h10,E8,cdt,cdf,A1,A,B,C,E,F,J]
   exact F4g r1 v3 v4 v5 v6 v7 r9 h9 h10 _ b0 G
theorem F4q(r1:P × X1)(v3:P)(v4:N P)(v5 v6:P)(v7:N Xi)(r9:Xi × X1)(h9:N3 (⟨v4,v5,v6⟩:X1)=H r9)(h10:(C9 v7.length ([r9.1]:N Xi).length 24)=T):∀(f:U) (b0 b1:Q),E2 Y Z9 (S5 r1 v3 v7 r9) f [b0,b1,T,T,G,G,G,G] (E8 v3 r9 (vc (.own 131136)) b0 b1 T T G G G [(99999999999,(dm r9.2.row)),(2,[aI (0:P),.nil]),(3,[aI r1.1,.own 131136])] [(131136,3,X I v7)]):=by
 intro f
 induction f with
 | zero=>intro b0 b1 h; simp at h
 | succ f ih=>
  intro b0 b1
  refine B2 ⟨?_,?_,?_,?_,?_,?_,?_,?_,⟨⟩⟩<;>try first | (intro h; cases h; done) | (intro _ hw; simp at hw; done) | (intro h0 hw; obtain rfl:=hz h0 rfl; (try obtain rfl:=hq hw 0 rfl rfl); refine np ?_; simp only[E8,cdt,cdf,A1,A,B,C,E,F,J]; exact ih _ _)
  ·intro h0 hw
   refine np ?_
   try simp only[E8,cdt,cdf,A1,A,B,C,E,F,J]
   refine D4 (es:=X I ([r9.1]:N Xi)) W (by simp only[St.fresh,zC,zD,P0]; simp[AV.cells,V1.cells,AC.uses]) ?_
   try simp only[A1,A,B,C,E,F,J]
   exact F3r r1 v3 v4 v5 v6 v7 r9 h9 h10 _ b0 b1
theorem F3s(r1:P × X1)(v3:P)(v4:N P)(v5 v6:P)(v7:N Xi)(r9:Xi × X1)(h9:N3 (⟨v4,v5,v6⟩:X1)=H r9)(h10:(C9 v7.length ([r9.1]:N Xi).length 24)=T):∀(f:U) (b0 b1 b2:Q),E2 Y Z9 (S5 r1 v3 v7 r9) f [b0,b1,b2,G,G,G,G,G] (E8 v3 r9 (vc (.own 131136)) b0 b1 b2 G G G G [(99999999999,[aL (X r8 v4),aI v5,aI v6]),(2,[aI (0:P),.nil]),(3,[aI r1.1,.own 131136])] [(131136,3,X I v7)]):=by
 intro f
 induction f with
 | zero=>intro b0 b1 b2 h; simp at h
 | succ f ih=>
  intro b0 b1 b2
  refine B2 ⟨?_,?_,?_,?_,?_,?_,?_,?_,⟨⟩⟩<;>try first | (intro _ hw; simp at hw; done) | (intro h0 hw; obtain rfl:=hz h0 rfl; (try obtain rfl:=hq hw 0 rfl rfl); refine np ?_; simp only[E8,cdt,cdf,A1,A,B,C,E,F,J]; exact ih _ _ _)
  ·intro h0 hw
   obtain rfl:=hq hw 2 rfl rfl
   refine np ?_
   try simp only[E8,cdt,cdf,A1,A,B,C,E,F,J]
   refine C4 (B9s _ _ h9) 99999999999 W W W ?_
   try simp only[A1,A,B,C,E,F,J]
   exact F4q r1 v3 v4 v5 v6 v7 r9 h9 h10 _ b0 b1
theorem F3p(r1:P × X1):∀(n:U) (v3:P) (v4:N P) (v5 v6:P) (v7:N Xi) (r:Xl × X1),W0 r1 n v3 v4 v5 v6 v7=H r→∀σ:St,σ.kept [0,2,3,4] [99999999999,2,3] [131136]=⟨[(0,vc (.pb 99999999999 0)),(2,vc (.pb 2 0)),(3,vc (.pb 3 0)),(4,vc (aI v3))],[(99999999999,[aL (X r8 v4),aI v5,aI v6]),(2,[aI (0:P),.nil]),(3,[aI r1.1,.own 131136])],[(131136,3,X I v7)]⟩→go Y (.code (.loop C8q):: [.blk 0,.code D4r]) (B35 [.c 2 T 2] [.ag [.v (.int .i64 r.1.Mean),.v (.sl (X I r.1.Parts))]] [.sl (X r8 r.2.b),.int .i64 r.2.i,.int .i64 r.2.h]) .normal (H σ):=by
 intro n
 induction n with
 | zero=>intro _ _ _ _ _ r h; cases h
 | succ n ih=>
  intro v3 v4 v5 v6 v7 r h σ hσ
  rw[W0] at h
  refine B8 ?_
  rcases ic h with ⟨h8,h⟩|⟨h8,h⟩
  ·try simp only[hσ,h8,C8q,A,B,C,E,F,J]
   obtain⟨r9,h9,h⟩:=ob h
   obtain⟨h10,h⟩:=D7 h
   refine A38 (ks:= [0,2,3,4]) (bs:= [99999999999,2,3]) (rs:= [131136]) (τ:=(S5 r1 v3 v7 r9)) W (F3s r1 v3 v4 v5 v6 v7 r9 h9 h10 _ G G G) ?_
   simp only[S5,E8,cdt]
   try simp only[h8,h10,A,B,C,E,F,J]
   refine ih _ _ _ _ _ _ h _ ?_
   try simp only[h8,h10,A,B,C,E,F,J,Z]
  ·try simp only[hσ,h8,C8q,D4r,A,B,C,E,F,J]
   refine V0 W ?_
   try simp only[h8,A,B,C,E,F,J]
   cases h
   try simp only[M1,A,B,C,E,F,J]
   trivial
theorem F4o:A6 Y 324=H (cc16.strip,[.c 2 T 2],23):=by kernel_rfl
theorem B9p(a0:X1)(r:Xl × X1)(h:A4g a0=H r):FCy Y 324 [.p] [.sl (X r8 a0.b),.int .i64 a0.i,.int .i64 a0.h] [.sl (X r8 r.2.b),.int .i64 r.2.i,.int .i64 r.2.h] [.ag [.v (.int .i64 r.1.Mean),.v (.sl (X I r.1.Parts))]]:=by
 unfold A4g at h
 refine A3h (σ:=⟨[(0,vc (.pb 99999999999 0))],[(99999999999,[aL (X r8 a0.b),aI a0.i,aI a0.h])],[]⟩) B0 F4o W W ?_
 simp only[cc16]
 try simp only[A,B,C,E,F,J]
 refine D1 W W ?_
 obtain⟨r1,h1,h⟩:=ob h
 try simp only[A,B,C,E,F,J]
 refine C4 (B6 _ _ _ h1) 99999999999 W W W ?_
 try simp only[A,B,C,E,F,J]
 refine D1 W W ?_
 try simp only[A,B,C,E,F,J]
 refine A3s (cs':= [aI r1.1,.own 131136]) W W W W ?_
 obtain⟨r2,h2,h⟩:=ob h
 try simp only[A,B,C,E,F,J]
 refine C4 (B6 _ _ _ h2) 99999999999 W W W ?_
 try simp only[A,B,C,E,F,J]
 refine F3p _ _ _ _ _ _ _ _ h _ ?_
 try simp only[A,B,C,E,F,J,Z]
/- 260:spec_l03Draw -/
def A0e:N (N U × AItem):= [([],(L,.faddr 20 (S 3) 2)),([0],(L,.load 21 (S 20) G 1)),([],(L,.mv 22 (S 4))),([],(L,.mv 23 (S 6))),([],(L,.mv 24 (S 6))),([],(L,.mv 25 (S 0))),([5],(L,.call 26 120 [(S 25),(K 60)])),([4,6],(L,.bin 27 .add (S 24) (S 26))),([2,3,7],(L,.build 28 [aI 0,aI 0,aI 0] [(0,1,(S 22)),(1,1,(S 23)),(2,1,(S 27))])),([8],(L,.bslice 29 3 [.int .i64 0,.int .i64 0,.int .i64 0] 1 [(0,(S 28))])),([1,9,6],(L,.app 30 3 24 (S 21) (S 29))),([0,1,2,3,4,5,6,7,8,9,10],(L,.faddr 31 (S 3) 2)),([11,10,10,0,1,2,3,4,5,6,7,8,9,10],(L,.store (S 31) (S 30) 1))]
def C9k:X3:= .seq (.reg [(L,.keep [0,2,3,4,5] [99999999999,2,3] [131200])]) (.seq (.seq (.reg [mv 13 5,(L,.bin 14 .gtr (S 13) (K 0))]) (.cond (S 14) .skip (.exit 0))) (.seq (.block 1 (.seq (.reg [mv 17 0,ca 18 120 [S 17,K 60],(L,.bin 19 .sub (S 18) (K 40)),mv 6 19]) (.seq (.any A0e) (.reg [mv 32 4,(L,.bin 33 .add (S 32) (K 100)),mv 34 0,ca 35 120 [S 34,K 700],bn 36 .add 33 35,mv 4 36])))) (.reg [mv 15 5,(L,.bin 16 .sub (S 15) (K 1)),mv 5 16])))
def D46:X3:=(.seq (.reg [(L,.frz 131200),lw 37 3 3,so 2 37 3]) .ret)
def cc26:X3:=(.seq (.reg [(L,.alloc 2 [aI 0,.nil,.nil])]) (.seq (.reg [mv 7 0,ca 8 324 [S 7],(L,.build 9 [aI 0,.nil,.nil] [(0,2,(S 8))]),(L,.alloc 3 [aI 0,.nil,.nil]),so 3 9 3,(L,.ownb 3 2 131200 3)]) (.seq (.reg [(L,.mv 4 (K 0))]) (.seq (.seq (.reg [mv 10 0,ca 11 120 [S 10,K 3],(L,.bin 12 .add (K 1) (S 11)),mv 5 12]) (.block 0 (.loop C9k))) D46))))
abbrev E7(v3 v4:P)(r10 r11:P × X1)(wo1_:AV)(c0_ c1_:Q)(c2_ c3_:Q)(c4_ c5_:Q)(c6_ c7_:Q)(c8_ c9_:Q)(c10_ c11_:Q)(bx_:N (U × N AC))(rs_:Rows):St:=⟨[(0,vc (.pb 99999999999 0)),(2,vc (.pb 2 0)),(3,vc (.pb 3 0)),(4,vc (aI v3)),(5,vc (aI v4)),(6,vc (aI (zI .i64 (r10.1 - (40:P))))),(20,bif c0_ then vc (.pb 3 2) else .undef),(21,bif c1_ then wo1_ else .undef),(22,bif c2_ then vc (aI v3) else .undef),(23,bif c3_ then vc (aI (zI .i64 (r10.1 - (40:P)))) else .undef),(24,bif c4_ then vc (aI (zI .i64 (r10.1 - (40:P)))) else .undef),(25,bif c5_ then vc (.pb 99999999999 0) else .undef),(26,bif c6_ then vc (aI r11.1) else .undef),(27,bif c7_ then vc (aI (zI .i64 ((zI .i64 (r10.1 - (40:P)))+r11.1))) else .undef),(28,bif c8_ then va [aI v3,aI (zI .i64 (r10.1 - (40:P))),aI (zI .i64 ((zI .i64 (r10.1 - (40:P)))+r11.1))] else .undef),(29,bif c9_ then vc (.own 1856) else .undef),(30,bif c10_ then vc (.own 131200) else .undef),(31,bif c11_ then vc (.pb 3 2) else .undef)],bx_,rs_⟩
abbrev S0(r1:Xl × X1)(v3 v4:P)(v8:N Xf)(r10 r11:P × X1):St:=(E7 v3 v4 r10 r11 (vc (.undef)) T T T T T T T T T T T T [(99999999999,(dm r11.2.row)),(2,[aI (0:P),.nil,.nil]),(3,[aI r1.1.Mean,aL (X I r1.1.Parts),.own 131200])] [(131200,3,X zB (v8++([(⟨v3,(zI .i64 (r10.1 - (40:P))),(zI .i64 ((zI .i64 (r10.1 - (40:P)))+r11.1))⟩:Xf)]:N Xf))),(1856,3,X zB ([(⟨v3,(zI .i64 (r10.1 - (40:P))),(zI .i64 ((zI .i64 (r10.1 - (40:P)))+r11.1))⟩:Xf)]:N Xf))])
theorem F3f(r1:Xl × X1)(v3 v4:P)(v8:N Xf)(r10 r11:P × X1)(h11:A4 r10.2 (60:P)=H r11)(h12:(C9 v8.length ([(⟨v3,(zI .i64 (r10.1 - (40:P))),(zI .i64 ((zI .i64 (r10.1 - (40:P)))+r11.1))⟩:Xf)]:N Xf).length 24)=T):∀(f:U),E2 Y A0e (S0 r1 v3 v4 v8 r10 r11) f [T,T,T,T,T,T,T,T,T,T,T,T,T] (E7 v3 v4 r10 r11 (vc (.undef)) T T T T T T T T T T T T [(99999999999,(dm r11.2.row)),(2,[aI (0:P),.nil,.nil]),(3,[aI r1.1.Mean,aL (X I r1.1.Parts),.own 131200])] [(131200,3,X zB (v8++([(⟨v3,(zI .i64 (r10.1 - (40:P))),(zI .i64 ((zI .i64 (r10.1 - (40:P)))+r11.1))⟩:Xf)]:N Xf))),(1856,3,X zB ([(⟨v3,(zI .i64 (r10.1 - (40:P))),(zI .i64 ((zI .i64 (r10.1 - (40:P)))+r11.1))⟩:Xf)]:N Xf))]):=by
 intro f
 induction f with
 | zero=>intro h; rfl
 | succ f ih=>
  refine B2 ⟨?_,?_,?_,?_,?_,?_,?_,?_,?_,?_,?_,?_,?_,⟨⟩⟩<;>try first | (intro h; cases h; done)
theorem F4s(r1:Xl × X1)(v3 v4:P)(v8:N Xf)(r10 r11:P × X1)(h11:A4 r10.2 (60:P)=H r11)(h12:(C9 v8.length ([(⟨v3,(zI .i64 (r10.1 - (40:P))),(zI .i64 ((zI .i64 (r10.1 - (40:P)))+r11.1))⟩:Xf)]:N Xf).length 24)=T):∀(f:U) (b0 b2:Q) (b3 b4:Q) (b7 b11:Q),E2 Y A0e (S0 r1 v3 v4 v8 r10 r11) f [b0,T,b2,b3,b4,T,T,b7,T,T,T,b11,G] (E7 v3 v4 r10 r11 (vc (.undef)) b0 T b2 b3 b4 T T b7 T T T b11 [(99999999999,(dm r11.2.row)),(2,[aI (0:P),.nil,.nil]),(3,[aI r1.1.Mean,aL (X I r1.1.Parts),.undef])] [(131200,3,X zB (v8++([(⟨v3,(zI .i64 (r10.1 - (40:P))),(zI .i64 ((zI .i64 (r10.1 - (40:P)))+r11.1))⟩:Xf)]:N Xf))),(1856,3,X zB ([(⟨v3,(zI .i64 (r10.1 - (40:P))),(zI .i64 ((zI .i64 (r10.1 - (40:P)))+r11.1))⟩:Xf)]:N Xf))]):=by
 intro f
 induction f with
 | zero=>intro b0 b2 b3 b4 b7 b11 h; simp at h
 | succ f ih=>
  intro b0 b2 b3 b4 b7 b11
  refine B2 ⟨?_,?_,?_,?_,?_,?_,?_,?_,?_,?_,?_,?_,?_,⟨⟩⟩<;>try first | (intro h; cases h; done) | (intro h0 hw; obtain rfl:=hz h0 rfl; (try obtain rfl:=hq hw 0 rfl rfl); (try obtain rfl:=hq hw 2 rfl rfl); (try obtain rfl:=hq hw 3 rfl rfl); (try obtain rfl:=hq hw 4 rfl rfl); (try obtain rfl:=hq hw 7 rfl rfl); refine np ?_; simp only[E7,cdt,cdf,A1,A,B,C,E,F,J]; exact ih _ _ _ _ _ _)
  ·intro h0 hw
   obtain rfl:=hq hw 0 rfl rfl
   obtain rfl:=hq hw 2 rfl rfl
   obtain rfl:=hq hw 3 rfl rfl
   obtain rfl:=hq hw 4 rfl rfl
   obtain rfl:=hq hw 7 rfl rfl
   obtain rfl:=hq hw 11 rfl rfl
   refine np ?_
   try simp only[E7,cdt,cdf,A1,A,B,C,E,F,J]
   exact F3f r1 v3 v4 v8 r10 r11 h11 h12 _
theorem F3w(r1:Xl × X1)(v3 v4:P)(v8:N Xf)(r10 r11:P × X1)(h11:A4 r10.2 (60:P)=H r11)(h12:(C9 v8.length ([(⟨v3,(zI .i64 (r10.1 - (40:P))),(zI .i64 ((zI .i64 (r10.1 - (40:P)))+r11.1))⟩:Xf)]:N Xf).length 24)=T):∀(f:U) (b0 b1:Q) (b2 b3:Q) (b4 b7:Q),E2 Y A0e (S0 r1 v3 v4 v8 r10 r11) f [b0,b1,b2,b3,b4,T,T,b7,T,T,G,G,G] (E7 v3 v4 r10 r11 (vc (.own 131200)) b0 b1 b2 b3 b4 T T b7 T T G G [(99999999999,(dm r11.2.row)),(2,[aI (0:P),.nil,.nil]),(3,[aI r1.1.Mean,aL (X I r1.1.Parts),.own 131200])] [(131200,3,X zB v8),(1856,3,X zB ([(⟨v3,(zI .i64 (r10.1 - (40:P))),(zI .i64 ((zI .i64 (r10.1 - (40:P)))+r11.1))⟩:Xf)]:N Xf))]):=by
 intro f
 induction f with
 | zero=>intro b0 b1 b2 b3 b4 b7 h; simp at h
 | succ f ih=>
  intro b0 b1 b2 b3 b4 b7
  refine B2 ⟨?_,?_,?_,?_,?_,?_,?_,?_,?_,?_,?_,?_,?_,⟨⟩⟩<;>try first | (intro h; cases h; done) | (intro _ hw; simp at hw; done) | (intro h0 hw; obtain rfl:=hz h0 rfl; (try obtain rfl:=hq hw 0 rfl rfl); (try obtain rfl:=hq hw 4 rfl rfl); refine np ?_; simp only[E7,cdt,cdf,A1,A,B,C,E,F,J]; exact ih _ _ _ _ _ _)
  ·intro h0 hw
   obtain rfl:=hq hw 1 rfl rfl
   refine np ?_
   try simp only[h12,E7,cdt,cdf,A1,A,B,C,E,F,J]
   exact F4s r1 v3 v4 v8 r10 r11 h11 h12 _ b0 b2 b3 b4 b7 G
theorem F3k(r1:Xl × X1)(v3 v4:P)(v8:N Xf)(r10 r11:P × X1)(h11:A4 r10.2 (60:P)=H r11)(h12:(C9 v8.length ([(⟨v3,(zI .i64 (r10.1 - (40:P))),(zI .i64 ((zI .i64 (r10.1 - (40:P)))+r11.1))⟩:Xf)]:N Xf).length 24)=T):∀(f:U) (b0 b1:Q) (b2 b3:Q) (b4 b7 b8:Q),E2 Y A0e (S0 r1 v3 v4 v8 r10 r11) f [b0,b1,b2,b3,b4,T,T,b7,b8,G,G,G,G] (E7 v3 v4 r10 r11 (vc (.own 131200)) b0 b1 b2 b3 b4 T T b7 b8 G G G [(99999999999,(dm r11.2.row)),(2,[aI (0:P),.nil,.nil]),(3,[aI r1.1.Mean,aL (X I r1.1.Parts),.own 131200])] [(131200,3,X zB v8)]):=by
 intro f
 induction f with
 | zero=>intro b0 b1 b2 b3 b4 b7 b8 h; simp at h
 | succ f ih=>
  intro b0 b1 b2 b3 b4 b7 b8
  refine B2 ⟨?_,?_,?_,?_,?_,?_,?_,?_,?_,?_,?_,?_,?_,⟨⟩⟩<;>try first | (intro h; cases h; done) | (intro _ hw; simp at hw; done) | (intro h0 hw; obtain rfl:=hz h0 rfl; (try obtain rfl:=hq hw 0 rfl rfl); (try obtain rfl:=hq hw 2 rfl rfl); (try obtain rfl:=hq hw 3 rfl rfl); (try obtain rfl:=hq hw 4 rfl rfl); (try obtain rfl:=hq hw 7 rfl rfl); refine np ?_; simp only[E7,cdt,cdf,A1,A,B,C,E,F,J]; exact ih _ _ _ _ _ _ _)
  ·intro h0 hw
   obtain rfl:=hq hw 8 rfl rfl
   refine np ?_
   try simp only[E7,cdt,cdf,A1,A,B,C,E,F,J]
   refine D4 (es:=X zB ([(⟨v3,(zI .i64 (r10.1 - (40:P))),(zI .i64 ((zI .i64 (r10.1 - (40:P)))+r11.1))⟩:Xf)]:N Xf)) W (by simp only[St.fresh,zC,zD,P0]; simp[AV.cells,V1.cells,AC.uses]) ?_
   try simp only[A1,A,B,C,E,F,J]
   exact F3w r1 v3 v4 v8 r10 r11 h11 h12 _ b0 b1 b2 b3 b4 b7
theorem F3m(r1:Xl × X1)(v3 v4:P)(v8:N Xf)(r10 r11:P × X1)(h11:A4 r10.2 (60:P)=H r11)(h12:(C9 v8.length ([(⟨v3,(zI .i64 (r10.1 - (40:P))),(zI .i64 ((zI .i64 (r10.1 - (40:P)))+r11.1))⟩:Xf)]:N Xf).length 24)=T):∀(f:U) (b0 b1:Q) (b2 b3:Q) (b4 b5:Q),E2 Y A0e (S0 r1 v3 v4 v8 r10 r11) f [b0,b1,b2,b3,b4,b5,G,G,G,G,G,G,G] (E7 v3 v4 r10 r11 (vc (.own 131200)) b0 b1 b2 b3 b4 b5 G G G G G G [(99999999999,(dm r10.2.row)),(2,[aI (0:P),.nil,.nil]),(3,[aI r1.1.Mean,aL (X I r1.1.Parts),.own 131200])] [(131200,3,X zB v8)]):=by
 intro f
 induction f with
 | zero=>intro b0 b1 b2 b3 b4 b5 h; simp at h
 | succ f ih=>
  intro b0 b1 b2 b3 b4 b5
  refine B2 ⟨?_,?_,?_,?_,?_,?_,?_,?_,?_,?_,?_,?_,?_,⟨⟩⟩<;>try first | (intro _ hw; simp at hw; done) | (intro h0 hw; obtain rfl:=hz h0 rfl; (try obtain rfl:=hq hw 0 rfl rfl); refine np ?_; simp only[E7,cdt,cdf,A1,A,B,C,E,F,J]; exact ih _ _ _ _ _ _)
  ·intro h0 hw
   obtain rfl:=hq hw 5 rfl rfl
   refine np ?_
   try simp only[E7,cdt,cdf,A1,A,B,C,E,F,J]
   refine C4 (B6 _ _ _ h11) 99999999999 W W W ?_
   try simp only[A1,A,B,C,E,F,J]
   exact F3k r1 v3 v4 v8 r10 r11 h11 h12 _ b0 b1 b2 b3 b4 G G
theorem F3u(r1:Xl × X1):∀(n:U) (v3 v4:P) (v5:N P) (v6 v7:P) (v8:N Xf) (r:Xe × X1),O4 r1 n v3 v4 v5 v6 v7 v8=H r→∀σ:St,σ.kept [0,2,3,4,5] [99999999999,2,3] [131200]=⟨[(0,vc (.pb 99999999999 0)),(2,vc (.pb 2 0)),(3,vc (.pb 3 0)),(4,vc (aI v3)),(5,vc (aI v4))],[(99999999999,[aL (X r8 v5),aI v6,aI v7]),(2,[aI (0:P),.nil,.nil]),(3,[aI r1.1.Mean,aL (X I r1.1.Parts),.own 131200])],[(131200,3,X zB v8)]⟩→go Y (.code (.loop C9k):: [.blk 0,.code D46]) (B35 [.c 2 T 3] [.ag [.v (.int .i64 r.1.Tide.Mean),.v (.sl (X I r.1.Tide.Parts)),.v (.sl (X zB r.1.Surges))]] [.sl (X r8 r.2.b),.int .i64 r.2.i,.int .i64 r.2.h]) .normal (H σ):=by
 intro n
 induction n with
 | zero=>intro _ _ _ _ _ _ r h; cases h
 | succ n ih=>
  intro v3 v4 v5 v6 v7 v8 r h σ hσ
  rw[O4] at h
  refine B8 ?_
  rcases ic h with ⟨h9,h⟩|⟨h9,h⟩
  ·obtain⟨r10,h10,h⟩:=ob h
   try simp only[hσ,h9,C9k,A,B,C,E,F,J]
   refine C4 (B6 _ _ _ h10) 99999999999 W W W ?_
   try simp only[h9,A,B,C,E,F,J]
   obtain⟨r11,h11,h⟩:=ob h
   obtain⟨h12,h⟩:=D7 h
   refine A38 (ks:= [0,2,3,4,5,6]) (bs:= [99999999999,2,3]) (rs:= [131200]) (τ:=(S0 r1 v3 v4 v8 r10 r11)) W (F3m r1 v3 v4 v8 r10 r11 h11 h12 _ G G G G G G) ?_
   simp only[S0,E7,cdt]
   obtain⟨r13,h13,h⟩:=ob h
   try simp only[h9,h12,A,B,C,E,F,J]
   refine C4 (B6 _ _ _ h13) 99999999999 W W W ?_
   try simp only[h9,h12,A,B,C,E,F,J]
   refine ih _ _ _ _ _ _ _ h _ ?_
   try simp only[h9,h12,A,B,C,E,F,J,Z]
  ·try simp only[hσ,h9,C9k,D46,A,B,C,E,F,J]
   refine V0 W ?_
   try simp only[h9,A,B,C,E,F,J]
   cases h
   try simp only[M1,A,B,C,E,F,J]
   trivial
theorem F31:A6 Y 260=H (cc26.strip,[.c 2 T 3],38):=by kernel_rfl
theorem B82(a0:X1)(r:Xe × X1)(h:A19 a0=H r):FCy Y 260 [.p] [.sl (X r8 a0.b),.int .i64 a0.i,.int .i64 a0.h] [.sl (X r8 r.2.b),.int .i64 r.2.i,.int .i64 r.2.h] [.ag [.v (.int .i64 r.1.Tide.Mean),.v (.sl (X I r.1.Tide.Parts)),.v (.sl (X zB r.1.Surges))]]:=by
 unfold A19 at h
 refine A3h (σ:=⟨[(0,vc (.pb 99999999999 0))],[(99999999999,[aL (X r8 a0.b),aI a0.i,aI a0.h])],[]⟩) B0 F31 W W ?_
 simp only[cc26]
 try simp only[A,B,C,E,F,J]
 refine D1 W W ?_
 obtain⟨r1,h1,h⟩:=ob h
 try simp only[A,B,C,E,F,J]
 refine C4 (B9p _ _ h1) 99999999999 W W W ?_
 try simp only[A,B,C,E,F,J]
 refine D1 W W ?_
 try simp only[A,B,C,E,F,J]
 refine A3s (cs':= [aI r1.1.Mean,aL (X I r1.1.Parts),.own 131200]) W W W W ?_
 obtain⟨r2,h2,h⟩:=ob h
 try simp only[A,B,C,E,F,J]
 refine C4 (B6 _ _ _ h2) 99999999999 W W W ?_
 try simp only[A,B,C,E,F,J]
 refine F3u _ _ _ _ _ _ _ _ _ h _ ?_
 try simp only[A,B,C,E,F,J,Z]
/- 176:spec_l01Once -/
def cc34:X3:=(.seq (.reg [(L,.mv 4 (KB G))]) (.seq (.reg [mv 5 0,mv 6 1,ca 7 120 [S 5,S 6],(L,.bin 8 .eql (S 7) (K 0)),mv 4 8]) .ret))
theorem F4c:A6 Y 176=H (cc34.strip,[4],9):=by kernel_rfl
theorem W6(a0:X1)(a1:P)(r:Q × X1)(h:I3 a0 a1=H r):FCy Y 176 [.p,.d (.sc (.int .i64 a1))] [.sl (X r8 a0.b),.int .i64 a0.i,.int .i64 a0.h] [.sl (X r8 r.2.b),.int .i64 r.2.i,.int .i64 r.2.h] [.sc (.v (.bool r.1))]:=by
 unfold I3 at h
 refine A3h (σ:=⟨[(0,vc (.pb 99999999999 0)),(1,vc (aI a1))],[(99999999999,[aL (X r8 a0.b),aI a0.i,aI a0.h])],[]⟩) B0 F4c W W ?_
 simp only[cc34]
 obtain⟨r1,h1,h⟩:=ob h
 try simp only[A,B,C,E,F,J]
 refine C4 (B6 _ _ _ h1) 99999999999 W W W ?_
 try simp only[A,B,C,E,F,J]
 cases h
 trivial
/- 261:spec_l05Draw -/
def U3:N (N U × AItem):= [([],(L,.faddr 39 (S 3) 1)),([0],(L,.load 40 (S 39) G 1)),([],(L,.mv 41 (S 0))),([2],(L,.call 42 120 [(S 41),(K 300)])),([3],(L,.bin 43 .add (K 700) (S 42))),([],(L,.mv 44 (S 0))),([5,3],(L,.call 45 120 [(S 44),(K 30)])),([6],(L,.bin 46 .add (K 20) (S 45))),([4,7],(L,.build 47 [aI 0,aI 0,aI 0,aI 0,aB G] [(0,1,(K 3)),(1,1,(K 1)),(2,1,(S 43)),(3,1,(S 46)),(4,1,(KB T))])),([8],(L,.bslice 48 5 [.int .i64 0,.int .i64 0,.int .i64 0,.int .i64 0,.bool G] 1 [(0,(S 47))])),([1,9,6],(L,.app 49 5 40 (S 40) (S 48))),([0,1,2,3,4,5,6,7,8,9,10],(L,.faddr 50 (S 3) 1)),([11,10,10,0,1,2,3,4,5,6,7,8,9,10],(L,.store (S 50) (S 49) 1))]
def A0a:N (N U × AItem):= [([],(L,.faddr 59 (S 3) 1)),([0],(L,.load 60 (S 59) G 1)),([],(L,.mv 61 (S 0))),([2],(L,.call 62 120 [(S 61),(K 300)])),([3],(L,.bin 63 .add (K 800) (S 62))),([4],(L,.build 64 [aI 0,aI 0,aI 0,aI 0,aB G] [(0,1,(K 2)),(1,1,(K 4)),(2,1,(S 63)),(3,1,(K 15))])),([5],(L,.bslice 65 5 [.int .i64 0,.int .i64 0,.int .i64 0,.int .i64 0,.bool G] 1 [(0,(S 64))])),([1,6,3],(L,.app 66 5 40 (S 60) (S 65))),([0,1,2,3,4,5,6,7],(L,.faddr 67 (S 3) 1)),([8,7,7,0,1,2,3,4,5,6,7],(L,.store (S 67) (S 66) 1))]
def D6g:X3:= .seq (.reg [(L,.keep [0,2,3] [99999999999,2,3] [640,2240])]) (.seq (.seq (.reg [mv 51 0,ca 52 176 [S 51,K 3]]) (.cond (S 52) (.seq (.reg [fa 53 3 0,ld 54 53,(L,.build 55 [aS [],aB G] [(0,1,(KS [100,111,99,107])),(1,1,(KB T))]),(L,.bslice 56 2 [.str [],.bool G] 1 [(0,(S 55))]),(L,.app 57 2 24 (S 54) (S 56)),fa 58 3 0,so 58 57 1]) (.any A0a)) .skip)) (.seq (.reg [(L,.frz 640),(L,.frz 2240),lw 68 3 2,so 2 68 2]) .ret))
def cc37:X3:=(.seq (.reg [(L,.alloc 2 [.nil,.nil])]) (.seq (.reg [(L,.build 4 [aS [],aB G] [(0,1,(KS [115,101,97])),(1,1,(KB T))]),(L,.build 5 [aS [],aB G] [(0,1,(KS [98,97,114]))]),mv 6 0,ca 7 176 [S 6,K 2],(L,.build 8 [aS [],aB G] [(0,1,(KS [114,111,97,100])),(1,1,(S 7))]),(L,.build 9 [aS [],aB G] [(0,1,(KS [113,117,97,121])),(1,1,(KB T))]),(L,.bslice 10 2 [.str [],.bool G] 4 [(0,(S 4)),(1,(S 5)),(2,(S 8)),(3,(S 9))]),(L,.build 11 [.nil,.nil] [(0,1,(S 10))]),(L,.alloc 3 [.nil,.nil]),so 3 11 2]) (.seq (.reg [mv 12 0,ca 13 120 [S 12,K 300],(L,.bin 14 .add (K 900) (S 13)),mv 15 0,ca 16 120 [S 15,K 40],(L,.bin 17 .add (K 10) (S 16)),(L,.build 18 [aI 0,aI 0,aI 0,aI 0,aB G] [(0,1,(K 0)),(1,1,(K 1)),(2,1,(S 14)),(3,1,(S 17))]),mv 19 0,ca 20 120 [S 19,K 300],(L,.bin 21 .add (K 800) (S 20)),mv 22 0,ca 23 120 [S 22,K 30],(L,.bin 24 .add (K 10) (S 23)),mv 25 0,ca 26 176 [S 25,K 2],(L,.build 27 [aI 0,aI 0,aI 0,aI 0,aB G] [(0,1,(K 1)),(1,1,(K 2)),(2,1,(S 21)),(3,1,(S 24)),(4,1,(S 26))]),mv 28 0,ca 29 120 [S 28,K 200],(L,.bin 30 .add (K 900) (S 29)),mv 31 0,ca 32 120 [S 31,K 20],(L,.bin 33 .add (K 5) (S 32)),(L,.build 34 [aI 0,aI 0,aI 0,aI 0,aB G] [(0,1,(K 2)),(1,1,(K 3)),(2,1,(S 30)),(3,1,(S 33))]),(L,.bslice 35 5 [.int .i64 0,.int .i64 0,.int .i64 0,.int .i64 0,.bool G] 3 [(0,(S 18)),(1,(S 27)),(2,(S 34))]),fa 36 3 1,so 36 35 1]) (.seq (.seq (.reg [mv 37 0,ca 38 176 [S 37,K 3]]) (.cond (S 38) (.any U3) .skip)) D6g))))
abbrev D5(r12 r13:P × X1)(wo1_:AV)(c0_ c1_:Q)(c2_ c3_:Q)(c4_ c5_:Q)(c6_ c7_:Q)(c8_ c9_:Q)(c10_ c11_:Q)(bx_:N (U × N AC))(rs_:Rows):St:=⟨[(0,vc (.pb 99999999999 0)),(2,vc (.pb 2 0)),(3,vc (.pb 3 0)),(39,bif c0_ then vc (.pb 3 1) else .undef),(40,bif c1_ then wo1_ else .undef),(41,bif c2_ then vc (.pb 99999999999 0) else .undef),(42,bif c3_ then vc (aI r12.1) else .undef),(43,bif c4_ then vc (aI (zI .i64 ((700:P)+r12.1))) else .undef),(44,bif c5_ then vc (.pb 99999999999 0) else .undef),(45,bif c6_ then vc (aI r13.1) else .undef),(46,bif c7_ then vc (aI (zI .i64 ((20:P)+r13.1))) else .undef),(47,bif c8_ then va [aI (3:P),aI (1:P),aI (zI .i64 ((700:P)+r12.1)),aI (zI .i64 ((20:P)+r13.1)),aB T] else .undef),(48,bif c9_ then vc (.own 3072) else .undef),(49,bif c10_ then vc (.own 2240) else .undef),(50,bif c11_ then vc (.pb 3 1) else .undef)],bx_,rs_⟩
abbrev N9(r1:Q × X1)(r2 r3:P × X1)(r4 r5:P × X1)(r6:Q × X1)(r7 r9:P × X1)(r12 r13:P × X1):St:=(D5 r12 r13 (vc (.undef)) T T T T T T T T T T T T [(99999999999,(dm r13.2.row)),(2,[.nil,.nil]),(3,[.own 640,.own 2240])] [(640,2,X zA ([(⟨([115,101,97]:N V),T⟩:Xb),(⟨([98,97,114]:N V),G⟩:Xb),(⟨([114,111,97,100]:N V),r1.1⟩:Xb),(⟨([113,117,97,121]:N V),T⟩:Xb)]:N Xb)),(2240,5,X X2.row (([(⟨(0:P),(1:P),(zI .i64 ((900:P)+r2.1)),(zI .i64 ((10:P)+r3.1)),G⟩:X2),(⟨(1:P),(2:P),(zI .i64 ((800:P)+r4.1)),(zI .i64 ((10:P)+r5.1)),r6.1⟩:X2),(⟨(2:P),(3:P),(zI .i64 ((900:P)+r7.1)),(zI .i64 ((5:P)+r9.1)),G⟩:X2)]:N X2)++([(⟨(3:P),(1:P),(zI .i64 ((700:P)+r12.1)),(zI .i64 ((20:P)+r13.1)),T⟩:X2)]:N X2))),(3072,5,X X2.row ([(⟨(3:P),(1:P),(zI .i64 ((700:P)+r12.1)),(zI .i64 ((20:P)+r13.1)),T⟩:X2)]:N X2))])
theorem F3y(r1:Q × X1)(r2 r3:P × X1)(r4 r5:P × X1)(r6:Q × X1)(r7 r9:P × X1)(r10:Q × X1)(r12 r13:P × X1)(h12:A4 r10.2 (300:P)=H r12)(h13:A4 r12.2 (30:P)=H r13)(h14:(C9 ([(⟨(0:P),(1:P),(zI .i64 ((900:P)+r2.1)),(zI .i64 ((10:P)+r3.1)),G⟩:X2),(⟨(1:P),(2:P),(zI .i64 ((800:P)+r4.1)),(zI .i64 ((10:P)+r5.1)),r6.1⟩:X2),(⟨(2:P),(3:P),(zI .i64 ((900:P)+r7.1)),(zI .i64 ((5:P)+r9.1)),G⟩:X2)]:N X2).length ([(⟨(3:P),(1:P),(zI .i64 ((700:P)+r12.1)),(zI .i64 ((20:P)+r13.1)),T⟩:X2)]:N X2).length 40)=T):∀(f:U),E2 Y U3 (N9 r1 r2 r3 r4 r5 r6 r7 r9 r12 r13) f [T,T,T,T,T,T,T,T,T,T,T,T,T] (D5 r12 r13 (vc (.undef)) T T T T T T T T T T T T [(99999999999,(dm r13.2.row)),(2,[.nil,.nil]),(3,[.own 640,.own 2240])] [(640,2,X zA ([(⟨([115,101,97]:N V),T⟩:Xb),(⟨([98,97,114]:N V),G⟩:Xb),(⟨([114,111,97,100]:N V),r1.1⟩:Xb),(⟨([113,117,97,121]:N V),T⟩:Xb)]:N Xb)),(2240,5,X X2.row (([(⟨(0:P),(1:P),(zI .i64 ((900:P)+r2.1)),(zI .i64 ((10:P)+r3.1)),G⟩:X2),(⟨(1:P),(2:P),(zI .i64 ((800:P)+r4.1)),(zI .i64 ((10:P)+r5.1)),r6.1⟩:X2),(⟨(2:P),(3:P),(zI .i64 ((900:P)+r7.1)),(zI .i64 ((5:P)+r9.1)),G⟩:X2)]:N X2)++([(⟨(3:P),(1:P),(zI .i64 ((700:P)+r12.1)),(zI .i64 ((20:P)+r13.1)),T⟩:X2)]:N X2))),(3072,5,X X2.row ([(⟨(3:P),(1:P),(zI .i64 ((700:P)+r12.1)),(zI .i64 ((20:P)+r13.1)),T⟩:X2)]:N X2))]):=by
 intro f
 induction f with
 | zero=>intro h; rfl
 | succ f ih=>
  refine B2 ⟨?_,?_,?_,?_,?_,?_,?_,?_,?_,?_,?_,?_,?_,⟨⟩⟩<;>try first | (intro h; cases h; done)
theorem F3j(r1:Q × X1)(r2 r3:P × X1)(r4 r5:P × X1)(r6:Q × X1)(r7 r9:P × X1)(r10:Q × X1)(r12 r13:P × X1)(h12:A4 r10.2 (300:P)=H r12)(h13:A4 r12.2 (30:P)=H r13)(h14:(C9 ([(⟨(0:P),(1:P),(zI .i64 ((900:P)+r2.1)),(zI .i64 ((10:P)+r3.1)),G⟩:X2),(⟨(1:P),(2:P),(zI .i64 ((800:P)+r4.1)),(zI .i64 ((10:P)+r5.1)),r6.1⟩:X2),(⟨(2:P),(3:P),(zI .i64 ((900:P)+r7.1)),(zI .i64 ((5:P)+r9.1)),G⟩:X2)]:N X2).length ([(⟨(3:P),(1:P),(zI .i64 ((700:P)+r12.1)),(zI .i64 ((20:P)+r13.1)),T⟩:X2)]:N X2).length 40)=T):∀(f:U) (b0 b4:Q) (b7 b11:Q),E2 Y U3 (N9 r1 r2 r3 r4 r5 r6 r7 r9 r12 r13) f [b0,T,T,T,b4,T,T,b7,T,T,T,b11,G] (D5 r12 r13 (vc (.undef)) b0 T T T b4 T T b7 T T T b11 [(99999999999,(dm r13.2.row)),(2,[.nil,.nil]),(3,[.own 640,.undef])] [(640,2,X zA ([(⟨([115,101,97]:N V),T⟩:Xb),(⟨([98,97,114]:N V),G⟩:Xb),(⟨([114,111,97,100]:N V),r1.1⟩:Xb),(⟨([113,117,97,121]:N V),T⟩:Xb)]:N Xb)),(2240,5,X X2.row (([(⟨(0:P),(1:P),(zI .i64 ((900:P)+r2.1)),(zI .i64 ((10:P)+r3.1)),G⟩:X2),(⟨(1:P),(2:P),(zI .i64 ((800:P)+r4.1)),(zI .i64 ((10:P)+r5.1)),r6.1⟩:X2),(⟨(2:P),(3:P),(zI .i64 ((900:P)+r7.1)),(zI .i64 ((5:P)+r9.1)),G⟩:X2)]:N X2)++([(⟨(3:P),(1:P),(zI .i64 ((700:P)+r12.1)),(zI .i64 ((20:P)+r13.1)),T⟩:X2)]:N X2))),(3072,5,X X2.row ([(⟨(3:P),(1:P),(zI .i64 ((700:P)+r12.1)),(zI .i64 ((20:P)+r13.1)),T⟩:X2)]:N X2))]):=by
 intro f
 induction f with
 | zero=>intro b0 b4 b7 b11 h; simp at h
 | succ f ih=>
  intro b0 b4 b7 b11
  refine B2 ⟨?_,?_,?_,?_,?_,?_,?_,?_,?_,?_,?_,?_,?_,⟨⟩⟩<;>try first | (intro h; cases h; done) | (intro h0 hw; obtain rfl:=hz h0 rfl; (try obtain rfl:=hq hw 0 rfl rfl); (try obtain rfl:=hq hw 4 rfl rfl); (try obtain rfl:=hq hw 7 rfl rfl); refine np ?_; simp only[D5,cdt,cdf,A1,A,B,C,E,F,J]; exact ih _ _ _ _)
  ·intro h0 hw
   obtain rfl:=hq hw 0 rfl rfl
   obtain rfl:=hq hw 4 rfl rfl
   obtain rfl:=hq hw 7 rfl rfl
   obtain rfl:=hq hw 11 rfl rfl
   refine np ?_
   try simp only[D5,cdt,cdf,A1,A,B,C,E,F,J]
   exact F3y r1 r2 r3 r4 r5 r6 r7 r9 r10 r12 r13 h12 h13 h14 _
theorem F3e(r1:Q × X1)(r2 r3:P × X1)(r4 r5:P × X1)(r6:Q × X1)(r7 r9:P × X1)(r10:Q × X1)(r12 r13:P × X1)(h12:A4 r10.2 (300:P)=H r12)(h13:A4 r12.2 (30:P)=H r13)(h14:(C9 ([(⟨(0:P),(1:P),(zI .i64 ((900:P)+r2.1)),(zI .i64 ((10:P)+r3.1)),G⟩:X2),(⟨(1:P),(2:P),(zI .i64 ((800:P)+r4.1)),(zI .i64 ((10:P)+r5.1)),r6.1⟩:X2),(⟨(2:P),(3:P),(zI .i64 ((900:P)+r7.1)),(zI .i64 ((5:P)+r9.1)),G⟩:X2)]:N X2).length ([(⟨(3:P),(1:P),(zI .i64 ((700:P)+r12.1)),(zI .i64 ((20:P)+r13.1)),T⟩:X2)]:N X2).length 40)=T):∀(f:U) (b0 b1:Q) (b4 b7:Q),E2 Y U3 (N9 r1 r2 r3 r4 r5 r6 r7 r9 r12 r13) f [b0,b1,T,T,b4,T,T,b7,T,T,G,G,G] (D5 r12 r13 (vc (.own 2240)) b0 b1 T T b4 T T b7 T T G G [(99999999999,(dm r13.2.row)),(2,[.nil,.nil]),(3,[.own 640,.own 2240])] [(640,2,X zA ([(⟨([115,101,97]:N V),T⟩:Xb),(⟨([98,97,114]:N V),G⟩:Xb),(⟨([114,111,97,100]:N V),r1.1⟩:Xb),(⟨([113,117,97,121]:N V),T⟩:Xb)]:N Xb)),(2240,5,X X2.row ([(⟨(0:P),(1:P),(zI .i64 ((900:P)+r2.1)),(zI .i64 ((10:P)+r3.1)),G⟩:X2),(⟨(1:P),(2:P),(zI .i64 ((800:P)+r4.1)),(zI .i64 ((10:P)+r5.1)),r6.1⟩:X2),(⟨(2:P),(3:P),(zI .i64 ((900:P)+r7.1)),(zI .i64 ((5:P)+r9.1)),G⟩:X2)]:N X2)),(3072,5,X X2.row ([(⟨(3:P),(1:P),(zI .i64 ((700:P)+r12.1)),(zI .i64 ((20:P)+r13.1)),T⟩:X2)]:N X2))]):=by
 intro f
 induction f with
 | zero=>intro b0 b1 b4 b7 h; simp at h
 | succ f ih=>
  intro b0 b1 b4 b7
  refine B2 ⟨?_,?_,?_,?_,?_,?_,?_,?_,?_,?_,?_,?_,?_,⟨⟩⟩<;>try first | (intro h; cases h; done) | (intro _ hw; simp at hw; done) | (intro h0 hw; obtain rfl:=hz h0 rfl; (try obtain rfl:=hq hw 0 rfl rfl); refine np ?_; simp only[D5,cdt,cdf,A1,A,B,C,E,F,J]; exact ih _ _ _ _)
  ·intro h0 hw
   obtain rfl:=hq hw 1 rfl rfl
   refine np ?_
   try simp only[h14,D5,cdt,cdf,A1,A,B,C,E,F,J]
   exact F3j r1 r2 r3 r4 r5 r6 r7 r9 r10 r12 r13 h12 h13 h14 _ b0 b4 b7 G
theorem F38(r1:Q × X1)(r2 r3:P × X1)(r4 r5:P × X1)(r6:Q × X1)(r7 r9:P × X1)(r10:Q × X1)(r12 r13:P × X1)(h12:A4 r10.2 (300:P)=H r12)(h13:A4 r12.2 (30:P)=H r13)(h14:(C9 ([(⟨(0:P),(1:P),(zI .i64 ((900:P)+r2.1)),(zI .i64 ((10:P)+r3.1)),G⟩:X2),(⟨(1:P),(2:P),(zI .i64 ((800:P)+r4.1)),(zI .i64 ((10:P)+r5.1)),r6.1⟩:X2),(⟨(2:P),(3:P),(zI .i64 ((900:P)+r7.1)),(zI .i64 ((5:P)+r9.1)),G⟩:X2)]:N X2).length ([(⟨(3:P),(1:P),(zI .i64 ((700:P)+r12.1)),(zI .i64 ((20:P)+r13.1)),T⟩:X2)]:N X2).length 40)=T):∀(f:U) (b0 b1:Q) (b4 b7 b8:Q),E2 Y U3 (N9 r1 r2 r3 r4 r5 r6 r7 r9 r12 r13) f [b0,b1,T,T,b4,T,T,b7,b8,G,G,G,G] (D5 r12 r13 (vc (.own 2240)) b0 b1 T T b4 T T b7 b8 G G G [(99999999999,(dm r13.2.row)),(2,[.nil,.nil]),(3,[.own 640,.own 2240])] [(640,2,X zA ([(⟨([115,101,97]:N V),T⟩:Xb),(⟨([98,97,114]:N V),G⟩:Xb),(⟨([114,111,97,100]:N V),r1.1⟩:Xb),(⟨([113,117,97,121]:N V),T⟩:Xb)]:N Xb)),(2240,5,X X2.row ([(⟨(0:P),(1:P),(zI .i64 ((900:P)+r2.1)),(zI .i64 ((10:P)+r3.1)),G⟩:X2),(⟨(1:P),(2:P),(zI .i64 ((800:P)+r4.1)),(zI .i64 ((10:P)+r5.1)),r6.1⟩:X2),(⟨(2:P),(3:P),(zI .i64 ((900:P)+r7.1)),(zI .i64 ((5:P)+r9.1)),G⟩:X2)]:N X2))]):=by
 intro f
 induction f with
 | zero=>intro b0 b1 b4 b7 b8 h; simp at h
 | succ f ih=>
  intro b0 b1 b4 b7 b8
  refine B2 ⟨?_,?_,?_,?_,?_,?_,?_,?_,?_,?_,?_,?_,?_,⟨⟩⟩<;>try first | (intro h; cases h; done) | (intro _ hw; simp at hw; done) | (intro h0 hw; obtain rfl:=hz h0 rfl; (try obtain rfl:=hq hw 0 rfl rfl); (try obtain rfl:=hq hw 4 rfl rfl); (try obtain rfl:=hq hw 7 rfl rfl); refine np ?_; simp only[D5,cdt,cdf,A1,A,B,C,E,F,J]; exact ih _ _ _ _ _)
  ·intro h0 hw
   obtain rfl:=hq hw 8 rfl rfl
   refine np ?_
   try simp only[D5,cdt,cdf,A1,A,B,C,E,F,J]
   refine D4 (es:=X X2.row ([(⟨(3:P),(1:P),(zI .i64 ((700:P)+r12.1)),(zI .i64 ((20:P)+r13.1)),T⟩:X2)]:N X2)) W (by simp only[St.fresh,zC,zD,P0]; simp[AV.cells,V1.cells,AC.uses]) ?_
   try simp only[A1,A,B,C,E,F,J]
   exact F3e r1 r2 r3 r4 r5 r6 r7 r9 r10 r12 r13 h12 h13 h14 _ b0 b1 b4 b7
theorem F3o(r1:Q × X1)(r2 r3:P × X1)(r4 r5:P × X1)(r6:Q × X1)(r7 r9:P × X1)(r10:Q × X1)(r12 r13:P × X1)(h12:A4 r10.2 (300:P)=H r12)(h13:A4 r12.2 (30:P)=H r13)(h14:(C9 ([(⟨(0:P),(1:P),(zI .i64 ((900:P)+r2.1)),(zI .i64 ((10:P)+r3.1)),G⟩:X2),(⟨(1:P),(2:P),(zI .i64 ((800:P)+r4.1)),(zI .i64 ((10:P)+r5.1)),r6.1⟩:X2),(⟨(2:P),(3:P),(zI .i64 ((900:P)+r7.1)),(zI .i64 ((5:P)+r9.1)),G⟩:X2)]:N X2).length ([(⟨(3:P),(1:P),(zI .i64 ((700:P)+r12.1)),(zI .i64 ((20:P)+r13.1)),T⟩:X2)]:N X2).length 40)=T):∀(f:U) (b0 b1:Q) (b4 b5:Q),E2 Y U3 (N9 r1 r2 r3 r4 r5 r6 r7 r9 r12 r13) f [b0,b1,T,T,b4,b5,G,G,G,G,G,G,G] (D5 r12 r13 (vc (.own 2240)) b0 b1 T T b4 b5 G G G G G G [(99999999999,(dm r12.2.row)),(2,[.nil,.nil]),(3,[.own 640,.own 2240])] [(640,2,X zA ([(⟨([115,101,97]:N V),T⟩:Xb),(⟨([98,97,114]:N V),G⟩:Xb),(⟨([114,111,97,100]:N V),r1.1⟩:Xb),(⟨([113,117,97,121]:N V),T⟩:Xb)]:N Xb)),(2240,5,X X2.row ([(⟨(0:P),(1:P),(zI .i64 ((900:P)+r2.1)),(zI .i64 ((10:P)+r3.1)),G⟩:X2),(⟨(1:P),(2:P),(zI .i64 ((800:P)+r4.1)),(zI .i64 ((10:P)+r5.1)),r6.1⟩:X2),(⟨(2:P),(3:P),(zI .i64 ((900:P)+r7.1)),(zI .i64 ((5:P)+r9.1)),G⟩:X2)]:N X2))]):=by
 intro f
 induction f with
 | zero=>intro b0 b1 b4 b5 h; simp at h
 | succ f ih=>
  intro b0 b1 b4 b5
  refine B2 ⟨?_,?_,?_,?_,?_,?_,?_,?_,?_,?_,?_,?_,?_,⟨⟩⟩<;>try first | (intro h; cases h; done) | (intro _ hw; simp at hw; done) | (intro h0 hw; obtain rfl:=hz h0 rfl; (try obtain rfl:=hq hw 0 rfl rfl); refine np ?_; simp only[D5,cdt,cdf,A1,A,B,C,E,F,J]; exact ih _ _ _ _)
  ·intro h0 hw
   obtain rfl:=hq hw 5 rfl rfl
   refine np ?_
   try simp only[D5,cdt,cdf,A1,A,B,C,E,F,J]
   refine C4 (B6 _ _ _ h13) 99999999999 W W W ?_
   try simp only[A1,A,B,C,E,F,J]
   exact F38 r1 r2 r3 r4 r5 r6 r7 r9 r10 r12 r13 h12 h13 h14 _ b0 b1 b4 G G
theorem F3x(r1:Q × X1)(r2 r3:P × X1)(r4 r5:P × X1)(r6:Q × X1)(r7 r9:P × X1)(r10:Q × X1)(r12 r13:P × X1)(h12:A4 r10.2 (300:P)=H r12)(h13:A4 r12.2 (30:P)=H r13)(h14:(C9 ([(⟨(0:P),(1:P),(zI .i64 ((900:P)+r2.1)),(zI .i64 ((10:P)+r3.1)),G⟩:X2),(⟨(1:P),(2:P),(zI .i64 ((800:P)+r4.1)),(zI .i64 ((10:P)+r5.1)),r6.1⟩:X2),(⟨(2:P),(3:P),(zI .i64 ((900:P)+r7.1)),(zI .i64 ((5:P)+r9.1)),G⟩:X2)]:N X2).length ([(⟨(3:P),(1:P),(zI .i64 ((700:P)+r12.1)),(zI .i64 ((20:P)+r13.1)),T⟩:X2)]:N X2).length 40)=T):∀(f:U) (b0 b1:Q) (b2 b5:Q),E2 Y U3 (N9 r1 r2 r3 r4 r5 r6 r7 r9 r12 r13) f [b0,b1,b2,G,G,b5,G,G,G,G,G,G,G] (D5 r12 r13 (vc (.own 2240)) b0 b1 b2 G G b5 G G G G G G [(99999999999,(dm r10.2.row)),(2,[.nil,.nil]),(3,[.own 640,.own 2240])] [(640,2,X zA ([(⟨([115,101,97]:N V),T⟩:Xb),(⟨([98,97,114]:N V),G⟩:Xb),(⟨([114,111,97,100]:N V),r1.1⟩:Xb),(⟨([113,117,97,121]:N V),T⟩:Xb)]:N Xb)),(2240,5,X X2.row ([(⟨(0:P),(1:P),(zI .i64 ((900:P)+r2.1)),(zI .i64 ((10:P)+r3.1)),G⟩:X2),(⟨(1:P),(2:P),(zI .i64 ((800:P)+r4.1)),(zI .i64 ((10:P)+r5.1)),r6.1⟩:X2),(⟨(2:P),(3:P),(zI .i64 ((900:P)+r7.1)),(zI .i64 ((5:P)+r9.1)),G⟩:X2)]:N X2))]):=by
 intro f
 induction f with
 | zero=>intro b0 b1 b2 b5 h; simp at h
 | succ f ih=>
  intro b0 b1 b2 b5
  refine B2 ⟨?_,?_,?_,?_,?_,?_,?_,?_,?_,?_,?_,?_,?_,⟨⟩⟩<;>try first | (intro _ hw; simp at hw; done) | (intro h0 hw; obtain rfl:=hz h0 rfl; (try obtain rfl:=hq hw 0 rfl rfl); refine np ?_; simp only[D5,cdt,cdf,A1,A,B,C,E,F,J]; exact ih _ _ _ _)
  ·intro h0 hw
   obtain rfl:=hq hw 2 rfl rfl
   refine np ?_
   try simp only[D5,cdt,cdf,A1,A,B,C,E,F,J]
   refine C4 (B6 _ _ _ h12) 99999999999 W W W ?_
   try simp only[A1,A,B,C,E,F,J]
   exact F3o r1 r2 r3 r4 r5 r6 r7 r9 r10 r12 r13 h12 h13 h14 _ b0 b1 G b5
abbrev E9(r23:P × X1)(wo1_:AV)(c0_ c1_:Q)(c2_ c3_:Q)(c4_ c5_:Q)(c6_ c7_ c8_:Q)(bx_:N (U × N AC))(rs_:Rows):St:=⟨[(0,vc (.pb 99999999999 0)),(2,vc (.pb 2 0)),(3,vc (.pb 3 0)),(59,bif c0_ then vc (.pb 3 1) else .undef),(60,bif c1_ then wo1_ else .undef),(61,bif c2_ then vc (.pb 99999999999 0) else .undef),(62,bif c3_ then vc (aI r23.1) else .undef),(63,bif c4_ then vc (aI (zI .i64 ((800:P)+r23.1))) else .undef),(64,bif c5_ then va [aI (2:P),aI (4:P),aI (zI .i64 ((800:P)+r23.1)),aI (15:P),aB G] else .undef),(65,bif c6_ then vc (.own 4160) else .undef),(66,bif c7_ then vc (.own 2240) else .undef),(67,bif c8_ then vc (.pb 3 1) else .undef)],bx_,rs_⟩
abbrev S4(v18:N Xb)(v19:N X2)(r23:P × X1):St:=(E9 r23 (vc (.undef)) T T T T T T T T T [(99999999999,(dm r23.2.row)),(2,[.nil,.nil]),(3,[.own 640,.own 2240])] [(640,2,X zA (v18++([(⟨([100,111,99,107]:N V),T⟩:Xb)]:N Xb))),(2240,5,X X2.row (v19++([(⟨(2:P),(4:P),(zI .i64 ((800:P)+r23.1)),(15:P),G⟩:X2)]:N X2))),(4160,5,X X2.row ([(⟨(2:P),(4:P),(zI .i64 ((800:P)+r23.1)),(15:P),G⟩:X2)]:N X2))])
theorem F3i(v18:N Xb)(v19:N X2)(r20:Q × X1)(r23:P × X1)(h23:A4 r20.2 (300:P)=H r23)(h24:(C9 v19.length ([(⟨(2:P),(4:P),(zI .i64 ((800:P)+r23.1)),(15:P),G⟩:X2)]:N X2).length 40)=T):∀(f:U),E2 Y A0a (S4 v18 v19 r23) f [T,T,T,T,T,T,T,T,T,T] (E9 r23 (vc (.undef)) T T T T T T T T T [(99999999999,(dm r23.2.row)),(2,[.nil,.nil]),(3,[.own 640,.own 2240])] [(640,2,X zA (v18++([(⟨([100,111,99,107]:N V),T⟩:Xb)]:N Xb))),(2240,5,X X2.row (v19++([(⟨(2:P),(4:P),(zI .i64 ((800:P)+r23.1)),(15:P),G⟩:X2)]:N X2))),(4160,5,X X2.row ([(⟨(2:P),(4:P),(zI .i64 ((800:P)+r23.1)),(15:P),G⟩:X2)]:N X2))]):=by
 intro f
 induction f with
 | zero=>intro h; rfl
 | succ f ih=>
  refine B2 ⟨?_,?_,?_,?_,?_,?_,?_,?_,?_,?_,⟨⟩⟩<;>try first | (intro h; cases h; done)
theorem F4f(v18:N Xb)(v19:N X2)(r20:Q × X1)(r23:P × X1)(h23:A4 r20.2 (300:P)=H r23)(h24:(C9 v19.length ([(⟨(2:P),(4:P),(zI .i64 ((800:P)+r23.1)),(15:P),G⟩:X2)]:N X2).length 40)=T):∀(f:U) (b0 b4 b8:Q),E2 Y A0a (S4 v18 v19 r23) f [b0,T,T,T,b4,T,T,T,b8,G] (E9 r23 (vc (.undef)) b0 T T T b4 T T T b8 [(99999999999,(dm r23.2.row)),(2,[.nil,.nil]),(3,[.own 640,.undef])] [(640,2,X zA (v18++([(⟨([100,111,99,107]:N V),T⟩:Xb)]:N Xb))),(2240,5,X X2.row (v19++([(⟨(2:P),(4:P),(zI .i64 ((800:P)+r23.1)),(15:P),G⟩:X2)]:N X2))),(4160,5,X X2.row ([(⟨(2:P),(4:P),(zI .i64 ((800:P)+r23.1)),(15:P),G⟩:X2)]:N X2))]):=by
 intro f
 induction f with
 | zero=>intro b0 b4 b8 h; simp at h
 | succ f ih=>
  intro b0 b4 b8
  refine B2 ⟨?_,?_,?_,?_,?_,?_,?_,?_,?_,?_,⟨⟩⟩<;>try first | (intro h; cases h; done) | (intro h0 hw; obtain rfl:=hz h0 rfl; (try obtain rfl:=hq hw 0 rfl rfl); (try obtain rfl:=hq hw 4 rfl rfl); refine np ?_; simp only[E9,cdt,cdf,A1,A,B,C,E,F,J]; exact ih _ _ _)
  ·intro h0 hw
   obtain rfl:=hq hw 0 rfl rfl
   obtain rfl:=hq hw 4 rfl rfl
   obtain rfl:=hq hw 8 rfl rfl
   refine np ?_
   try simp only[E9,cdt,cdf,A1,A,B,C,E,F,J]
   exact F3i v18 v19 r20 r23 h23 h24 _
theorem F4i(v18:N Xb)(v19:N X2)(r20:Q × X1)(r23:P × X1)(h23:A4 r20.2 (300:P)=H r23)(h24:(C9 v19.length ([(⟨(2:P),(4:P),(zI .i64 ((800:P)+r23.1)),(15:P),G⟩:X2)]:N X2).length 40)=T):∀(f:U) (b0 b1 b4:Q),E2 Y A0a (S4 v18 v19 r23) f [b0,b1,T,T,b4,T,T,G,G,G] (E9 r23 (vc (.own 2240)) b0 b1 T T b4 T T G G [(99999999999,(dm r23.2.row)),(2,[.nil,.nil]),(3,[.own 640,.own 2240])] [(640,2,X zA (v18++([(⟨([100,111,99,107]:N V),T⟩:Xb)]:N Xb))),(2240,5,X X2.row v19),(4160,5,X X2.row ([(⟨(2:P),(4:P),(zI .i64 ((800:P)+r23.1)),(15:P),G⟩:X2)]:N X2))]):=by
 intro f
 induction f with
 | zero=>intro b0 b1 b4 h; simp at h
 | succ f ih=>
  intro b0 b1 b4
  refine B2 ⟨?_,?_,?_,?_,?_,?_,?_,?_,?_,?_,⟨⟩⟩<;>try first | (intro h; cases h; done) | (intro _ hw; simp at hw; done) | (intro h0 hw; obtain rfl:=hz h0 rfl; (try obtain rfl:=hq hw 0 rfl rfl); refine np ?_; simp only[E9,cdt,cdf,A1,A,B,C,E,F,J]; exact ih _ _ _)
  ·intro h0 hw
   obtain rfl:=hq hw 1 rfl rfl
   refine np ?_
   try simp only[h24,E9,cdt,cdf,A1,A,B,C,E,F,J]
   exact F4f v18 v19 r20 r23 h23 h24 _ b0 b4 G
theorem F4d(v18:N Xb)(v19:N X2)(r20:Q × X1)(r23:P × X1)(h23:A4 r20.2 (300:P)=H r23)(h24:(C9 v19.length ([(⟨(2:P),(4:P),(zI .i64 ((800:P)+r23.1)),(15:P),G⟩:X2)]:N X2).length 40)=T):∀(f:U) (b0 b1:Q) (b4 b5:Q),E2 Y A0a (S4 v18 v19 r23) f [b0,b1,T,T,b4,b5,G,G,G,G] (E9 r23 (vc (.own 2240)) b0 b1 T T b4 b5 G G G [(99999999999,(dm r23.2.row)),(2,[.nil,.nil]),(3,[.own 640,.own 2240])] [(640,2,X zA (v18++([(⟨([100,111,99,107]:N V),T⟩:Xb)]:N Xb))),(2240,5,X X2.row v19)]):=by
 intro f
 induction f with
 | zero=>intro b0 b1 b4 b5 h; simp at h
 | succ f ih=>
  intro b0 b1 b4 b5
  refine B2 ⟨?_,?_,?_,?_,?_,?_,?_,?_,?_,?_,⟨⟩⟩<;>try first | (intro h; cases h; done) | (intro _ hw; simp at hw; done) | (intro h0 hw; obtain rfl:=hz h0 rfl; (try obtain rfl:=hq hw 0 rfl rfl); (try obtain rfl:=hq hw 4 rfl rfl); refine np ?_; simp only[E9,cdt,cdf,A1,A,B,C,E,F,J]; exact ih _ _ _ _)
  ·intro h0 hw
   obtain rfl:=hq hw 5 rfl rfl
   refine np ?_
   try simp only[E9,cdt,cdf,A1,A,B,C,E,F,J]
   refine D4 (es:=X X2.row ([(⟨(2:P),(4:P),(zI .i64 ((800:P)+r23.1)),(15:P),G⟩:X2)]:N X2)) W (by simp only[St.fresh,zC,zD,P0]; simp[AV.cells,V1.cells,AC.uses]) ?_
   try simp only[A1,A,B,C,E,F,J]
   exact F4i v18 v19 r20 r23 h23 h24 _ b0 b1 b4
theorem F4n(v18:N Xb)(v19:N X2)(r20:Q × X1)(r23:P × X1)(h23:A4 r20.2 (300:P)=H r23)(h24:(C9 v19.length ([(⟨(2:P),(4:P),(zI .i64 ((800:P)+r23.1)),(15:P),G⟩:X2)]:N X2).length 40)=T):∀(f:U) (b0 b1 b2:Q),E2 Y A0a (S4 v18 v19 r23) f [b0,b1,b2,G,G,G,G,G,G,G] (E9 r23 (vc (.own 2240)) b0 b1 b2 G G G G G G [(99999999999,(dm r20.2.row)),(2,[.nil,.nil]),(3,[.own 640,.own 2240])] [(640,2,X zA (v18++([(⟨([100,111,99,107]:N V),T⟩:Xb)]:N Xb))),(2240,5,X X2.row v19)]):=by
 intro f
 induction f with
 | zero=>intro b0 b1 b2 h; simp at h
 | succ f ih=>
  intro b0 b1 b2
  refine B2 ⟨?_,?_,?_,?_,?_,?_,?_,?_,?_,?_,⟨⟩⟩<;>try first | (intro _ hw; simp at hw; done) | (intro h0 hw; obtain rfl:=hz h0 rfl; (try obtain rfl:=hq hw 0 rfl rfl); refine np ?_; simp only[E9,cdt,cdf,A1,A,B,C,E,F,J]; exact ih _ _ _)
  ·intro h0 hw
   obtain rfl:=hq hw 2 rfl rfl
   refine np ?_
   try simp only[E9,cdt,cdf,A1,A,B,C,E,F,J]
   refine C4 (B6 _ _ _ h23) 99999999999 W W W ?_
   try simp only[A1,A,B,C,E,F,J]
   exact F4d v18 v19 r20 r23 h23 h24 _ b0 b1 G G
theorem E35(v15:N P)(v16 v17:P)(v18:N Xb)(v19:N X2)(r:X7 × X1)(h:A00 v15 v16 v17 v18 v19=H r)(σ:St)(hσ:σ.kept [0,2,3] [99999999999,2,3] [640,2240]=⟨[(0,vc (.pb 99999999999 0)),(2,vc (.pb 2 0)),(3,vc (.pb 3 0))],[(99999999999,[aL (X r8 v15),aI v16,aI v17]),(2,[.nil,.nil]),(3,[.own 640,.own 2240])],[(640,2,X zA v18),(2240,5,X X2.row v19)]⟩):go Y (.code D6g:: []) (B35 [.c 2 T 2] [.ag [.v (.sl (X zA r.1.Points)),.v (.sl (X X2.row r.1.Segments))]] [.sl (X r8 r.2.b),.int .i64 r.2.i,.int .i64 r.2.h]) .normal (H σ):=by
 unfold A00 at h
 obtain⟨r20,h20,h⟩:=ob h
 try simp only[hσ,D6g,A,B,C,E,F,J]
 refine C4 (W6 _ _ _ h20) 99999999999 W W W ?_
 rcases ic h with ⟨h21,h⟩|⟨h21,h⟩
 ·try simp only[h21,A,B,C,E,F,J]
  refine D4 (es:=X zA ([(⟨([100,111,99,107]:N V),T⟩:Xb)]:N Xb)) W W ?_
  obtain⟨h22,h⟩:=D7 h
  try simp only[h21,h22,A,B,C,E,F,J]
  obtain⟨r23,h23,h⟩:=ob h
  obtain⟨h24,h⟩:=D7 h
  refine A38 (ks:= [0,2,3]) (bs:= [99999999999,2,3]) (rs:= [640,2240]) (τ:=(S4 v18 v19 r23)) W (F4n v18 v19 r20 r23 h23 h24 _ G G G) ?_
  simp only[S4,E9,cdt]
  try simp only[h21,h22,h24,A,B,C,E,F,J]
  refine V0 W ?_
  try simp only[h21,h22,h24,A,B,C,E,F,J]
  refine V0 W ?_
  try simp only[h21,h22,h24,A,B,C,E,F,J]
  cases h
  try simp only[M1,A,B,C,E,F,J]
  trivial
 ·try simp only[h21,A,B,C,E,F,J]
  refine V0 W ?_
  try simp only[h21,A,B,C,E,F,J]
  refine V0 W ?_
  try simp only[h21,A,B,C,E,F,J]
  cases h
  try simp only[M1,A,B,C,E,F,J]
  trivial
theorem F3g:A6 Y 261=H (cc37.strip,[.c 2 T 2],69):=by kernel_rfl
theorem B9j(a0:X1)(r:X7 × X1)(h:A31 a0=H r):FCy Y 261 [.p] [.sl (X r8 a0.b),.int .i64 a0.i,.int .i64 a0.h] [.sl (X r8 r.2.b),.int .i64 r.2.i,.int .i64 r.2.h] [.ag [.v (.sl (X zA r.1.Points)),.v (.sl (X X2.row r.1.Segments))]]:=by
 unfold A31 at h
 refine A3h (σ:=⟨[(0,vc (.pb 99999999999 0))],[(99999999999,[aL (X r8 a0.b),aI a0.i,aI a0.h])],[]⟩) B0 F3g W W ?_
 simp only[cc37]
 try simp only[A,B,C,E,F,J]
 refine D1 W W ?_
 obtain⟨r1,h1,h⟩:=ob h
 try simp only[A,B,C,E,F,J]
 refine C4 (W6 _ _ _ h1) 99999999999 W W W ?_
 try simp only[A,B,C,E,F,J]
 refine D4 (es:=X zA ([(⟨([115,101,97]:N V),T⟩:Xb),(⟨([98,97,114]:N V),G⟩:Xb),(⟨([114,111,97,100]:N V),r1.1⟩:Xb),(⟨([113,117,97,121]:N V),T⟩:Xb)]:N Xb)) W W ?_
 try simp only[A,B,C,E,F,J]
 refine D1 W W ?_
 obtain⟨r2,h2,h⟩:=ob h
 try simp only[A,B,C,E,F,J]
 refine C4 (B6 _ _ _ h2) 99999999999 W W W ?_
 obtain⟨r3,h3,h⟩:=ob h
 try simp only[A,B,C,E,F,J]
 refine C4 (B6 _ _ _ h3) 99999999999 W W W ?_
 obtain⟨r4,h4,h⟩:=ob h
 try simp only[A,B,C,E,F,J]
 refine C4 (B6 _ _ _ h4) 99999999999 W W W ?_
 obtain⟨r5,h5,h⟩:=ob h
 try simp only[A,B,C,E,F,J]
 refine C4 (B6 _ _ _ h5) 99999999999 W W W ?_
 obtain⟨r6,h6,h⟩:=ob h
 try simp only[A,B,C,E,F,J]
 refine C4 (W6 _ _ _ h6) 99999999999 W W W ?_
 obtain⟨r7,h7,h⟩:=ob h
 try simp only[A,B,C,E,F,J]
 refine C4 (B6 _ _ _ h7) 99999999999 W W W ?_
 obtain⟨r9,h9,h⟩:=ob h
 try simp only[A,B,C,E,F,J]
 refine C4 (B6 _ _ _ h9) 99999999999 W W W ?_
 try simp only[A,B,C,E,F,J]
 refine D4 (es:=X X2.row ([(⟨(0:P),(1:P),(zI .i64 ((900:P)+r2.1)),(zI .i64 ((10:P)+r3.1)),G⟩:X2),(⟨(1:P),(2:P),(zI .i64 ((800:P)+r4.1)),(zI .i64 ((10:P)+r5.1)),r6.1⟩:X2),(⟨(2:P),(3:P),(zI .i64 ((900:P)+r7.1)),(zI .i64 ((5:P)+r9.1)),G⟩:X2)]:N X2)) W W ?_
 obtain⟨r10,h10,h⟩:=ob h
 try simp only[A,B,C,E,F,J]
 refine C4 (W6 _ _ _ h10) 99999999999 W W W ?_
 rcases ic h with ⟨h11,h⟩|⟨h11,h⟩
 ·try simp only[h11,A,B,C,E,F,J]
  obtain⟨r12,h12,h⟩:=ob h
  obtain⟨r13,h13,h⟩:=ob h
  obtain⟨h14,h⟩:=D7 h
  refine A38 (ks:= [0,2,3]) (bs:= [99999999999,2,3]) (rs:= [640,2240]) (τ:=(N9 r1 r2 r3 r4 r5 r6 r7 r9 r12 r13)) W (F3x r1 r2 r3 r4 r5 r6 r7 r9 r10 r12 r13 h12 h13 h14 _ G G G G) ?_
  simp only[N9,D5,cdt]
  try simp only[h11,h14,A,B,C,E,F,J]
  refine E35 _ _ _ _ _ _ h _ ?_
  try simp only[h11,h14,A,B,C,E,F,J,Z]
 ·try simp only[h11,A,B,C,E,F,J]
  refine E35 _ _ _ _ _ _ h _ ?_
  try simp only[h11,A,B,C,E,F,J,Z]
/- 359:spec_FormatInt -/
def C9u:X3:= .seq (.reg [(L,.keep [0,3] [] [])]) (.seq (.seq (.reg [mv 25 0,(L,.bin 26 .gtr (S 25) (K 9))]) (.cond (S 26) .skip (.exit 0))) (.block 1 (.seq (.reg [mv 27 0,(L,.bin 28 .rem (S 27) (K 10)),(L,.bin 29 .add (K 48) (S 28)),(L,.conv 30 .u8 (S 29)),(L,.bslice 31 1 [.int .u8 0] 1 [(0,(S 30))]),(L,.sconv 32 (S 31)),mv 33 3,bn 34 .add 32 33,mv 3 34]) (.reg [mv 35 0,(L,.bin 36 .quo (S 35) (K 10)),mv 0 36]))))
def D5h:X3:=(.seq (.reg [mv 37 0,(L,.bin 38 .add (K 48) (S 37)),(L,.conv 39 .u8 (S 38)),(L,.bslice 40 1 [.int .u8 0] 1 [(0,(S 39))]),(L,.sconv 41 (S 40)),mv 42 3,bn 43 .add 41 42,mv 2 43]) .ret)
def cc53:X3:=(.seq (.reg [(L,.mv 2 (KS []))]) (.seq (.seq (.reg [mv 4 0,(L,.bin 5 .lss (S 4) (K 0))]) (.cond (S 5) (.seq (.seq (.reg [mv 6 0,(L,.bin 7 .quo (S 6) (K 10)),(L,.bin 8 .eql (S 7) (K 0))]) (.cond (S 8) (.seq (.reg [mv 9 0,(L,.bin 10 .sub (K 48) (S 9)),(L,.conv 11 .u8 (S 10)),(L,.bslice 12 1 [.int .u8 0] 1 [(0,(S 11))]),(L,.sconv 13 (S 12)),(L,.bin 14 .add (KS [45]) (S 13)),mv 2 14]) .ret) .skip)) (.seq (.drw [(H [22],mv 15 0),(H [22],(L,.bin 16 .quo (S 15) (K 10))),(H [22],ca 17 359 [S 16]),(H [17],mv 18 0),(H [17],(L,.bin 19 .rem (S 18) (K 10))),(H [17],(L,.bin 20 .sub (K 48) (S 19))),(H [17],(L,.conv 21 .u8 (S 20))),(H [17],(L,.bslice 22 1 [.int .u8 0] 1 [(0,(S 21))])),(H [17],(L,.sconv 23 (S 22))),o0 (bn 24 .add 17 23),o0 (mv 2 24)]) .ret)) .skip)) (.seq (.reg [(L,.mv 3 (KS []))]) (.seq (.block 0 (.loop C9u)) D5h))))
theorem F4a(rec_:P→O (N V))(h_rec:∀(a0:P) zr,rec_ a0=H zr→FC Y 359 [.sc (.int .i64 a0)] [.sc (.v (.str zr))]):∀(n:U) (v6:P) (v7:N V) (r:(N V)),A22 rec_ n v6 v7=H r→∀σ:St,σ.kept [0,3] [] []=⟨[(0,vc (aI v6)),(3,vc (aS v7))],[],[]⟩→go Y (.code (.loop C9u):: [.blk 0,.code D5h]) (Ret [2] [.sc (.v (.str r))]) .normal (H σ):=by
 intro n
 induction n with
 | zero=>intro _ _ r h; cases h
 | succ n ih=>
  intro v6 v7 r h σ hσ
  rw[A22] at h
  refine B8 ?_
  rcases ic h with ⟨h8,h⟩|⟨h8,h⟩
  ·try simp only[hσ,h8,C9u,A,B,C,E,F,J]
   refine D4 (es:=X r8 ([(IntKind.u8.wrap (zI .i64 ((48:P)+(zI .i64 (Int.tmod v6 (10:P))))))]:N P)) W W ?_
   obtain⟨h9,h⟩:=D7 h
   try simp only[h8,h9,A,B,C,E,F,J]
   refine ih _ _ _ h _ ?_
   try simp only[h8,h9,A,B,C,E,F,J,Z]
  ·try simp only[hσ,h8,C9u,D5h,A,B,C,E,F,J]
   refine D4 (es:=X r8 ([(IntKind.u8.wrap (zI .i64 ((48:P)+v6)))]:N P)) W W ?_
   obtain⟨h10,h⟩:=D7 h
   try simp only[h8,h10,A,B,C,E,F,J]
   cases h
   trivial
theorem F3c:A6 Y 359=H (cc53.strip,[2],44):=by kernel_rfl
theorem B3p(rec_:P→O (N V))(a0:P)(r:(N V))(h_rec:∀(a0:P) zr,rec_ a0=H zr→FC Y 359 [.sc (.int .i64 a0)] [.sc (.v (.str zr))])(h:A5j rec_ a0=H r):FC Y 359 [.sc (.int .i64 a0)] [.sc (.v (.str r))]:=by
 unfold A5j at h
 refine C8 B0 F3c W ?_
 simp only[cc53,A,B,C,E,F,J]
 rcases ic h with ⟨h1,h⟩|⟨h1,h⟩
 ·rcases ic h with ⟨h2,h⟩|⟨h2,h⟩
  ·try simp only[h1,h2,A,B,C,E,F,J]
   refine D4 (es:=X r8 ([(IntKind.u8.wrap (zI .i64 ((48:P) - a0)))]:N P)) W W ?_
   obtain⟨h3,h⟩:=D7 h
   try simp only[h1,h2,h3,A,B,C,E,F,J]
   cases h
   trivial
  ·try simp only[h1,h2,A,B,C,E,F,J]
   refine B4 W ?_
   obtain⟨r4,h4,h⟩:=ob h
   try simp only[h1,h2,A,B,C,E,F,J]
   refine H0 (h_rec _ _ h4) W W (uf W) ?_
   try simp only[h1,h2,A,B,C,E,F,J]
   refine B0a (m:= .row 22 1 (X r8 ([(IntKind.u8.wrap (zI .i64 ((48:P) - (zI .i64 (Int.tmod a0 (10:P))))))]:N P))) W W (A9s W) ?_
   obtain⟨h5,h⟩:=D7 h
   try simp only[h1,h2,h5,A,B,C,E,F,J]
   cases h
   trivial
 ·try simp only[h1,A,B,C,E,F,J]
  refine F4a rec_ h_rec _ _ _ _ h _ ?_
  try simp only[h1,A,B,C,E,F,J,Z]
theorem B4f:∀(n:U) (a0:P) (r:(N V)),A04 n a0=H r→FC Y 359 [.sc (.int .i64 a0)] [.sc (.v (.str r))]:=by
 intro n
 induction n with
 | zero=>intro _ r h; cases h
 | succ n ih=>intro a0 r h; rw[A04] at h; exact B3p (A04 n) a0 r ih h
theorem B56(a0:P)(r:(N V))(h:A6o a0=H r):FC Y 359 [.sc (.int .i64 a0)] [.sc (.v (.str r))]:=B4f bigN a0 r h
/- 325:spec_l06Ship -/
def cc56:X3:=(.seq (.reg [(L,.alloc 4 [aS [],aI 0,aI 0,aI 0,aI 0,aB G])]) (.seq (.reg [mv 5 1,ca 6 359 [S 5],(L,.bin 7 .add (KS [115]) (S 6)),mv 8 0,ca 9 120 [S 8,K 200],(L,.bin 10 .add (K 40) (S 9)),mv 11 0,ca 12 120 [S 11,K 500],(L,.bin 13 .add (K 600) (S 12)),mv 14 0,ca 15 120 [S 14,K 4],mv 16 0,ca 17 120 [S 16,K 3],mv 18 0,ca 19 176 [S 18,K 4],(L,.build 20 [aS [],aI 0,aI 0,aI 0,aI 0,aB G] [(0,1,(S 7)),(1,1,(S 10)),(2,1,(S 13)),(3,1,(S 15)),(4,1,(S 17)),(5,1,(S 19))]),so 4 20 6]) .ret))
theorem F3h:A6 Y 325=H (cc56.strip,[.c 4 T 6],21):=by kernel_rfl
theorem B9f(a0:X1)(a1:P)(r:Xa × X1)(h:A18 a0 a1=H r):FCy Y 325 [.p,.d (.sc (.int .i64 a1))] [.sl (X r8 a0.b),.int .i64 a0.i,.int .i64 a0.h] [.sl (X r8 r.2.b),.int .i64 r.2.i,.int .i64 r.2.h] [.ag [.v (.str r.1.Name),.v (.int .i64 r.1.Length),.v (.int .i64 r.1.Draught),.v (.int .i64 r.1.Line),.v (.int .i64 r.1.Tugs),.v (.bool r.1.Slow)]]:=by
 unfold A18 at h
 refine A3h (σ:=⟨[(0,vc (.pb 99999999999 0)),(1,vc (aI a1))],[(99999999999,[aL (X r8 a0.b),aI a0.i,aI a0.h])],[]⟩) B0 F3h W W ?_
 simp only[cc56]
 try simp only[A,B,C,E,F,J]
 refine D1 W W ?_
 obtain⟨r1,h1,h⟩:=ob h
 try simp only[A,B,C,E,F,J]
 refine A2 (B56 _ _ h1) W W (uf W) ?_
 obtain⟨h2,h⟩:=D7 h
 obtain⟨r3,h3,h⟩:=ob h
 try simp only[h2,A,B,C,E,F,J]
 refine C4 (B6 _ _ _ h3) 99999999999 W W W ?_
 obtain⟨r4,h4,h⟩:=ob h
 try simp only[h2,A,B,C,E,F,J]
 refine C4 (B6 _ _ _ h4) 99999999999 W W W ?_
 obtain⟨r5,h5,h⟩:=ob h
 try simp only[h2,A,B,C,E,F,J]
 refine C4 (B6 _ _ _ h5) 99999999999 W W W ?_
 obtain⟨r6,h6,h⟩:=ob h
 try simp only[h2,A,B,C,E,F,J]
 refine C4 (B6 _ _ _ h6) 99999999999 W W W ?_
 obtain⟨r7,h7,h⟩:=ob h
 try simp only[h2,A,B,C,E,F,J]
 refine C4 (W6 _ _ _ h7) 99999999999 W W W ?_
 try simp only[h2,A,B,C,E,F,J]
 cases h
 try simp only[M1,A,B,C,E,F,J]
 trivial
/- 262:spec_l06Fleet -/
def C7m:X3:= .seq (.reg [(L,.keep [0,5,6] [99999999999] [448])]) (.seq (.seq (.reg [mv 12 6,(L,.bin 13 .gtr (S 12) (K 0))]) (.cond (S 13) .skip (.exit 0))) (.seq (.block 1 (.reg [mv 16 5,mv 17 0,mv 18 5,ln 19 18,ca 20 325 [S 17,S 19],(L,.bslice 21 6 [.str [],.int .i64 0,.int .i64 0,.int .i64 0,.int .i64 0,.bool G] 1 [(0,(S 20))]),(L,.app 22 6 56 (S 16) (S 21)),mv 5 22])) (.reg [mv 14 6,(L,.bin 15 .sub (S 14) (K 1)),mv 6 15])))
def D4u:X3:=(.seq (.reg [mv 23 5,mv 4 23]) .ret)
def cc60:X3:=(.seq (.reg [(L,.mv 4 KN)]) (.seq (.reg [(L,.bslice 7 6 [.str [],.int .i64 0,.int .i64 0,.int .i64 0,.int .i64 0,.bool G] 0 []),mv 5 7]) (.seq (.seq (.reg [mv 8 0,mv 9 1,ca 10 120 [S 8,S 9],(L,.bin 11 .add (K 1) (S 10)),mv 6 11]) (.block 0 (.loop C7m))) D4u)))
theorem F4m:∀(n:U) (v2:P) (v3:N P) (v4 v5:P) (v6:N Xa) (r:(N Xa) × X1),T9 n v2 v3 v4 v5 v6=H r→∀σ:St,σ.kept [0,5,6] [99999999999] [448]=⟨[(0,vc (.pb 99999999999 0)),(5,vc (.own 448)),(6,vc (aI v2))],[(99999999999,[aL (X r8 v3),aI v4,aI v5])],[(448,6,X zE v6)]⟩→go Y (.code (.loop C7m):: [.blk 0,.code D4u]) (B86 [4] [.sc (.o 6 (X zE r.1))] [.sl (X r8 r.2.b),.int .i64 r.2.i,.int .i64 r.2.h]) .normal (H σ):=by
 intro n
 induction n with
 | zero=>intro _ _ _ _ _ r h; cases h
 | succ n ih=>
  intro v2 v3 v4 v5 v6 r h σ hσ
  rw[T9] at h
  refine B8 ?_
  rcases ic h with ⟨h7,h⟩|⟨h7,h⟩
  ·obtain⟨r9,h9,h⟩:=ob h
   try simp only[hσ,h7,C7m,A,B,C,E,F,J]
   refine C4 (B9f _ _ _ h9) 99999999999 W W W ?_
   try simp only[h7,A,B,C,E,F,J]
   refine D4 (es:=X zE ([r9.1]:N Xa)) W W ?_
   obtain⟨h10,h⟩:=D7 h
   try simp only[h7,h10,A,B,C,E,F,J]
   refine ih _ _ _ _ _ _ h _ ?_
   try simp only[h7,h10,A,B,C,E,F,J,Z]
  ·try simp only[hσ,h7,C7m,D4u,A,B,C,E,F,J]
   cases h
   trivial
theorem F36:A6 Y 262=H (cc60.strip,[4],24):=by kernel_rfl
theorem B8l(a0:X1)(a1:P)(r:(N Xa) × X1)(h:A3k a0 a1=H r):FCo Y 262 [.p,.d (.sc (.int .i64 a1))] [.sl (X r8 a0.b),.int .i64 a0.i,.int .i64 a0.h] [.sl (X r8 r.2.b),.int .i64 r.2.i,.int .i64 r.2.h] [.sc (.o 6 (X zE r.1))]:=by
 unfold A3k at h
 refine D2d (σ:=⟨[(0,vc (.pb 99999999999 0)),(1,vc (aI a1))],[(99999999999,[aL (X r8 a0.b),aI a0.i,aI a0.h])],[]⟩) B0 F36 W W ?_
 simp only[cc60]
 try simp only[A,B,C,E,F,J]
 refine D4 (es:=X zE ([]:N Xa)) W W ?_
 obtain⟨r1,h1,h⟩:=ob h
 try simp only[A,B,C,E,F,J]
 refine C4 (B6 _ _ _ h1) 99999999999 W W W ?_
 try simp only[A,B,C,E,F,J]
 refine F4m _ _ _ _ _ _ _ h _ ?_
 try simp only[A,B,C,E,F,J,Z]
/- 263:spec_l09Regime -/
def cc63:X3:=(.seq (.reg [(L,.alloc 2 [aI 0,aB G])]) (.seq (.reg [mv 3 0,ca 4 120 [S 3,K 30],mv 5 0,ca 6 176 [S 5,K 4],(L,.build 7 [aI 0,aB G] [(0,1,(S 4)),(1,1,(S 6))]),so 2 7 2]) .ret))
theorem F4b:A6 Y 263=H (cc63.strip,[.c 2 T 2],8):=by kernel_rfl
theorem B58(a0:X1)(r:Xk × X1)(h:A2m a0=H r):FCy Y 263 [.p] [.sl (X r8 a0.b),.int .i64 a0.i,.int .i64 a0.h] [.sl (X r8 r.2.b),.int .i64 r.2.i,.int .i64 r.2.h] [.ag [.v (.int .i64 r.1.Gap),.v (.bool r.1.NoMeet)]]:=by
 unfold A2m at h
 refine A3h (σ:=⟨[(0,vc (.pb 99999999999 0))],[(99999999999,[aL (X r8 a0.b),aI a0.i,aI a0.h])],[]⟩) B0 F4b W W ?_
 simp only[cc63]
 try simp only[A,B,C,E,F,J]
 refine D1 W W ?_
 obtain⟨r1,h1,h⟩:=ob h
 try simp only[A,B,C,E,F,J]
 refine C4 (B6 _ _ _ h1) 99999999999 W W W ?_
 obtain⟨r2,h2,h⟩:=ob h
 try simp only[A,B,C,E,F,J]
 refine C4 (W6 _ _ _ h2) 99999999999 W W W ?_
 try simp only[A,B,C,E,F,J]
 cases h
 try simp only[M1,A,B,C,E,F,J]
 trivial
/- 360:spec_StayingMoves -/
def cc65:X3:=(.seq (.reg [(L,.mv 0 KN)]) (.seq (.reg [(L,.mksl 1 1 8 [.int .i64 0] (K 64) (K 64)),mv 0 1]) .ret))
theorem F33:A6 Y 360=H (cc65.strip,[0],2):=by kernel_rfl
theorem B21(r:(N P))(h:A2u=H r):FC Y 360 [] [.sc (.o 1 (X rI r))]:=by
 unfold A2u at h
 refine C8 B0 F33 W ?_
 simp only[cc65,A,B,C,E,F,J]
 obtain⟨n1,hn1,h⟩:=ob h
 try simp only[A,B,C,E,F,J]
 refine B1f (es:=X rI (List.replicate n1 (0:P))) W W hn1 W (A6v W) W ?_
 try simp only[A,B,C,E,F,J]
 cases h
 trivial
/- 326:spec_l13Moves -/
def C42:X3:= .seq (.reg [(L,.keep [0,3,7,8] [99999999999] [320])]) (.seq (.reg [bn 9 .lss 8 7]) (.seq (.cond (S 9) .skip (.exit 0)) (.seq (.block 1 (.seq (.reg [mv 10 8,mv 4 10]) (.seq (.reg [mv 11 4,(L,.bin 12 .rem (S 11) (K 9)),(L,.bin 13 .neq (S 12) (K 0))]) (.cond (S 13) (.reg [mv 14 3,mv 15 4,mv 16 0,ca 17 120 [S 16,K 5],(L,.bin 18 .mul (K 5) (S 17)),ia 19 14 15 1,so 19 18 1]) .skip)))) (.reg [(L,.bin 20 .add (S 8) (K 1)),mv 8 20]))))
def D51:X3:=(.seq (.reg [(L,.frz 320),mv 21 3,mv 2 21]) .ret)
def cc69:X3:=(.seq (.reg [(L,.mv 2 KN)]) (.seq (.reg [ca 5 360 [],mv 3 5]) (.seq (.seq (.reg [mv 6 3,ln 7 6,(L,.mv 8 (K 0))]) (.block 0 (.loop C42))) D51)))
theorem F4p(r1:(N P)):∀(n:U) (v2:P) (v3:N P) (v4 v5:P) (v6:N P) (r:(N P) × X1),P4 r1 n v2 v3 v4 v5 v6=H r→∀σ:St,σ.kept [0,3,7,8] [99999999999] [320]=⟨[(0,vc (.pb 99999999999 0)),(3,vc (.own 320)),(7,vc (aI (r1.length:P))),(8,vc (aI v2))],[(99999999999,[aL (X r8 v3),aI v4,aI v5])],[(320,1,X rI v6)]⟩→go Y (.code (.loop C42):: [.blk 0,.code D51]) (B35 [2] [.sc (.v (.sl (X rI r.1)))] [.sl (X r8 r.2.b),.int .i64 r.2.i,.int .i64 r.2.h]) .normal (H σ):=by
 intro n
 induction n with
 | zero=>intro _ _ _ _ _ r h; cases h
 | succ n ih=>
  intro v2 v3 v4 v5 v6 r h σ hσ
  rw[P4] at h
  refine B8 ?_
  rcases ic h with ⟨h7,h⟩|⟨h7,h⟩
  ·rcases ic h with ⟨h8,h⟩|⟨h8,h⟩
   ·obtain⟨r9,h9,h⟩:=ob h
    try simp only[hσ,h7,h8,C42,A,B,C,E,F,J]
    refine C4 (B6 _ _ _ h9) 99999999999 W W W ?_
    obtain⟨x10,h10,h⟩:=ob h
    have h10n:=M5 h10
    try simp only[h7,h8,h10,A,B,C,E,F,J]
    refine A37 (row:=rI) (y:=(zI .i64 ((5:P)*r9.1))) W W h10n W W (by rfl) ?_
    try simp only[h7,h8,h10,A,B,C,E,F,J]
    refine ih _ _ _ _ _ _ h _ ?_
    try simp only[h7,h8,h10,A,B,C,E,F,J,Z]
   ·try simp only[hσ,h7,h8,C42,A,B,C,E,F,J]
    refine ih _ _ _ _ _ _ h _ ?_
    try simp only[h7,h8,A,B,C,E,F,J,Z]
  ·try simp only[hσ,h7,C42,D51,A,B,C,E,F,J]
   refine V0 W ?_
   try simp only[h7,A,B,C,E,F,J]
   cases h
   trivial
theorem F3l:A6 Y 326=H (cc69.strip,[2],22):=by kernel_rfl
theorem B7m(a0:X1)(r:(N P) × X1)(h:A3n a0=H r):FCy Y 326 [.p] [.sl (X r8 a0.b),.int .i64 a0.i,.int .i64 a0.h] [.sl (X r8 r.2.b),.int .i64 r.2.i,.int .i64 r.2.h] [.sc (.v (.sl (X rI r.1)))]:=by
 unfold A3n at h
 refine A3h (σ:=⟨[(0,vc (.pb 99999999999 0))],[(99999999999,[aL (X r8 a0.b),aI a0.i,aI a0.h])],[]⟩) B0 F3l W W ?_
 simp only[cc69]
 obtain⟨r1,h1,h⟩:=ob h
 try simp only[A,B,C,E,F,J]
 refine A2 (B21 _ h1) W W (uf W) ?_
 try simp only[A,B,C,E,F,J]
 refine F4p _ _ _ _ _ _ _ _ h _ ?_
 try simp only[A,B,C,E,F,J,Z]
/- 264:spec_l14Crew -/
def cc72:X3:=(.seq (.reg [(L,.alloc 2 [aI 0,aI 0,aI 0,.nil])]) (.seq (.reg [mv 3 0,ca 4 120 [S 3,K 4],(L,.bin 5 .add (K 1) (S 4)),mv 6 0,ca 7 120 [S 6,K 3],(L,.bin 8 .add (K 1) (S 7)),mv 9 0,ca 10 120 [S 9,K 60],mv 11 0,ca 12 326 [S 11],(L,.build 13 [aI 0,aI 0,aI 0,.nil] [(0,1,(S 5)),(1,1,(S 8)),(2,1,(S 10)),(3,1,(S 12))]),so 2 13 4]) .ret))
theorem F4r:A6 Y 264=H (cc72.strip,[.c 2 T 4],14):=by kernel_rfl
theorem B9r(a0:X1)(r:Xo × X1)(h:A32 a0=H r):FCy Y 264 [.p] [.sl (X r8 a0.b),.int .i64 a0.i,.int .i64 a0.h] [.sl (X r8 r.2.b),.int .i64 r.2.i,.int .i64 r.2.h] [.ag [.v (.int .i64 r.1.Tugs),.v (.int .i64 r.1.Pilots),.v (.int .i64 r.1.Rest),.v (.sl (X rI r.1.Moves))]]:=by
 unfold A32 at h
 refine A3h (σ:=⟨[(0,vc (.pb 99999999999 0))],[(99999999999,[aL (X r8 a0.b),aI a0.i,aI a0.h])],[]⟩) B0 F4r W W ?_
 simp only[cc72]
 try simp only[A,B,C,E,F,J]
 refine D1 W W ?_
 obtain⟨r1,h1,h⟩:=ob h
 try simp only[A,B,C,E,F,J]
 refine C4 (B6 _ _ _ h1) 99999999999 W W W ?_
 obtain⟨r2,h2,h⟩:=ob h
 try simp only[A,B,C,E,F,J]
 refine C4 (B6 _ _ _ h2) 99999999999 W W W ?_
 obtain⟨r3,h3,h⟩:=ob h
 try simp only[A,B,C,E,F,J]
 refine C4 (B6 _ _ _ h3) 99999999999 W W W ?_
 obtain⟨r4,h4,h⟩:=ob h
 try simp only[A,B,C,E,F,J]
 refine C4 (B7m _ _ h4) 99999999999 W W W ?_
 try simp only[A,B,C,E,F,J]
 cases h
 try simp only[M1,A,B,C,E,F,J]
 trivial
/- 175:spec_l15Harbour -/
def C7w:X3:= .seq (.reg [(L,.keep [0,2,3,26,27] [99999999999,2,3] [640])]) (.seq (.reg [bn 28 .lss 27 26]) (.seq (.cond (S 28) .skip (.exit 0)) (.seq (.block 1 (.seq (.reg [mv 29 27,mv 4 29]) (.drw [o0 (fa 30 3 5),o0 (ld 31 30),o0 (mv 32 4),o0 (fa 33 3 5),o0 (ld 34 33),o0 (mv 35 4),o0 (ia 36 34 35 6),o0 (fa 37 36 4),o0 (ld 38 37),o0 (L,.mm 39 G (S 38) (K 1)),o0 (ia 40 31 32 6),o0 (fa 41 40 4),(L,so 41 39 1)]))) (.reg [(L,.bin 42 .add (S 27) (K 1)),mv 27 42]))))
def D35:X3:=(.seq (.reg [(L,.frz 640),lw 43 3 12,so 2 43 12]) .ret)
def cc76:X3:=(.seq (.reg [(L,.alloc 2 [aI 0,.nil,.nil,.nil,.nil,.nil,aI 0,aB G,aI 0,aI 0,aI 0,.nil])]) (.seq (.reg [mv 5 0,ca 6 260 [S 5],mv 7 0,ca 8 261 [S 7],mv 9 0,ca 10 262 [S 9,K 3],mv 11 0,ca 12 263 [S 11],mv 13 0,ca 14 264 [S 13],(L,.build 15 [aI 0,.nil,.nil,.nil,.nil,.nil,aI 0,aB G,aI 0,aI 0,aI 0,.nil] [(0,3,(S 6)),(3,2,(S 8)),(5,1,(S 10)),(6,2,(S 12)),(8,4,(S 14))]),(L,.alloc 3 [aI 0,.nil,.nil,.nil,.nil,.nil,aI 0,aB G,aI 0,aI 0,aI 0,.nil]),so 3 15 12]) (.seq (.reg [fa 16 3 0,fa 17 16 0,fa 18 17 0,ld 19 18,(L,.bin 20 .add (S 19) (K 150)),fa 21 3 0,fa 22 21 0,fa 23 22 0,so 23 20 1]) (.seq (.seq (.reg [fa 24 3 5,ld 25 24,ln 26 25,(L,.mv 27 (K 0))]) (.block 0 (.loop C7w))) D35))))
theorem F4k(r3:(N Xa) × X1)(r5:Xo × X1)(r1:Xe × X1)(r2:X7 × X1)(r4:Xk × X1)(y7:P):∀(n:U) (v6:P) (v8:N Xa) (r:X4 × X1),Q2 r3 r5 r1 r2 r4 y7 n v6 v8=H r→∀σ:St,σ.kept [0,2,3,26,27] [99999999999,2,3] [640]=⟨[(0,vc (.pb 99999999999 0)),(2,vc (.pb 2 0)),(3,vc (.pb 3 0)),(26,vc (aI (r3.1.length:P))),(27,vc (aI v6))],[(99999999999,(dm r5.2.row)),(2,[aI (0:P),.nil,.nil,.nil,.nil,.nil,aI (0:P),aB G,aI (0:P),aI (0:P),aI (0:P),.nil]),(3,([aI y7,aL (X I r1.1.Tide.Parts),aL (X zB r1.1.Surges),aL (X zA r2.1.Points),aL (X X2.row r2.1.Segments),.own 640,aI r4.1.Gap,aB r4.1.NoMeet]++dm r5.1.row))],[(640,6,X zE v8)]⟩→go Y (.code (.loop C7w):: [.blk 0,.code D35]) (B35 [.c 2 T 12] [.ag [.v (.int .i64 r.1.Forecast.Tide.Mean),.v (.sl (X I r.1.Forecast.Tide.Parts)),.v (.sl (X zB r.1.Forecast.Surges)),.v (.sl (X zA r.1.Chart.Points)),.v (.sl (X X2.row r.1.Chart.Segments)),.v (.sl (X zE r.1.Fleet)),.v (.int .i64 r.1.Regime.Gap),.v (.bool r.1.Regime.NoMeet),.v (.int .i64 r.1.Crew.Tugs),.v (.int .i64 r.1.Crew.Pilots),.v (.int .i64 r.1.Crew.Rest),.v (.sl (X rI r.1.Crew.Moves))]] [.sl (X r8 r.2.b),.int .i64 r.2.i,.int .i64 r.2.h]) .normal (H σ):=by
 intro n
 induction n with
 | zero=>intro _ _ r h; cases h
 | succ n ih=>
  intro v6 v8 r h σ hσ
  rw[Q2] at h
  refine B8 ?_
  rcases ic h with ⟨h9,h⟩|⟨h9,h⟩
  ·try simp only[hσ,h9,C7w,A,B,C,E,F,J]
   refine B4 W ?_
   obtain⟨x10,h10,h⟩:=ob h
   have h10n:=M5 h10
   try simp only[h9,h10,h10n,A,B,C,E,F,J]
   refine A37 (row:=zE) (y:=(⟨x10.Name,x10.Length,x10.Draught,x10.Line,(if(1:P)<x10.Tugs then(1:P) else x10.Tugs),x10.Slow⟩:Xa)) W W h10n W W (by rfl) ?_
   try simp only[h9,h10,h10n,A,B,C,E,F,J]
   refine B4 W ?_
   try simp only[h9,h10,h10n,A,B,C,E,F,J]
   refine ih _ _ _ h _ ?_
   try simp only[h9,h10,h10n,A,B,C,E,F,J,Z]
  ·try simp only[hσ,h9,C7w,D35,A,B,C,E,F,J]
   refine V0 W ?_
   try simp only[h9,A,B,C,E,F,J]
   cases h
   try simp only[M1,A,B,C,E,F,J]
   trivial
theorem F3q:A6 Y 175=H (cc76.strip,[.c 2 T 12],44):=by kernel_rfl
theorem B5o(a0:X1)(r:X4 × X1)(h:A1p a0=H r):FCy Y 175 [.p] [.sl (X r8 a0.b),.int .i64 a0.i,.int .i64 a0.h] [.sl (X r8 r.2.b),.int .i64 r.2.i,.int .i64 r.2.h] [.ag [.v (.int .i64 r.1.Forecast.Tide.Mean),.v (.sl (X I r.1.Forecast.Tide.Parts)),.v (.sl (X zB r.1.Forecast.Surges)),.v (.sl (X zA r.1.Chart.Points)),.v (.sl (X X2.row r.1.Chart.Segments)),.v (.sl (X zE r.1.Fleet)),.v (.int .i64 r.1.Regime.Gap),.v (.bool r.1.Regime.NoMeet),.v (.int .i64 r.1.Crew.Tugs),.v (.int .i64 r.1.Crew.Pilots),.v (.int .i64 r.1.Crew.Rest),.v (.sl (X rI r.1.Crew.Moves))]]:=by
 unfold A1p at h
 refine A3h (σ:=⟨[(0,vc (.pb 99999999999 0))],[(99999999999,[aL (X r8 a0.b),aI a0.i,aI a0.h])],[]⟩) B0 F3q W W ?_
 simp only[cc76]
 try simp only[A,B,C,E,F,J]
 refine D1 W W ?_
 obtain⟨r1,h1,h⟩:=ob h
 try simp only[A,B,C,E,F,J]
 refine C4 (B82 _ _ h1) 99999999999 W W W ?_
 obtain⟨r2,h2,h⟩:=ob h
 try simp only[A,B,C,E,F,J]
 refine C4 (B9j _ _ h2) 99999999999 W W W ?_
 obtain⟨r3,h3,h⟩:=ob h
 try simp only[A,B,C,E,F,J]
 refine C5d (B8l _ _ _ h3) 99999999999 W W W W ?_
 obtain⟨r4,h4,h⟩:=ob h
 try simp only[A,B,C,E,F,J]
 refine C4 (B58 _ _ h4) 99999999999 W W W ?_
 obtain⟨r5,h5,h⟩:=ob h
 try simp only[A,B,C,E,F,J]
 refine C4 (B9r _ _ h5) 99999999999 W W W ?_
 try simp only[A,B,C,E,F,J]
 refine D1 W W ?_
 try simp only[A,B,C,E,F,J]
 refine F4k _ _ _ _ _ _ _ _ _ _ h _ ?_
 try simp only[A,B,C,E,F,J,Z]
/- 177:spec_l15Call -/
def A30:N (N U × AItem):= [([],(L,.faddr 15 (S 5) 3)),([0],(L,.load 16 (S 15) G 1)),([1],(L,.bin 17 .add (S 16) (K 60))),([],(L,.mv 18 (S 0))),([3],(L,.call 19 120 [(S 18),(K 400)])),([2,4],(L,.bin 20 .add (S 17) (S 19))),([0,1,2,3,4,5],(L,.faddr 21 (S 5) 4)),([6,5,4,0,1,2,3,4,5],(L,.store (S 21) (S 20) 1))]
def D4x:X3:= .seq (.reg [(L,.keep [0,4,5] [99999999999,4,5] [])]) (.seq (.any A30) (.seq (.reg [lw 22 5 5,so 4 22 5]) .ret))
def cc80:X3:=(.seq (.reg [(L,.alloc 4 [aI 0,aI 0,aI 0,aI 0,aI 0])]) (.seq (.reg [mv 6 1,mv 7 0,ca 8 120 [S 7,K 30],(L,.bin 9 .mul (K 15) (S 8)),(L,.build 10 [aI 0,aI 0,aI 0,aI 0,aI 0] [(0,1,(S 6)),(2,1,(K 3)),(3,1,(S 9))]),(L,.alloc 5 [aI 0,aI 0,aI 0,aI 0,aI 0]),so 5 10 5]) (.seq (.seq (.reg [mv 11 0,ca 12 176 [S 11,K 3]]) (.cond (S 12) (.seq (.reg [fa 13 5 1,(L,.store (S 13) (K 3) 1)]) (.reg [fa 14 5 2,(L,.store (S 14) (K 0) 1)])) .skip)) D4x)))
abbrev L9(v6:P)(r7:P × X1)(c0_ c1_:Q)(c2_ c3_:Q)(c4_ c5_ c6_:Q)(bx_:N (U × N AC))(rs_:Rows):St:=⟨[(0,vc (.pb 99999999999 0)),(4,vc (.pb 4 0)),(5,vc (.pb 5 0)),(15,bif c0_ then vc (.pb 5 3) else .undef),(16,bif c1_ then vc (aI v6) else .undef),(17,bif c2_ then vc (aI (zI .i64 (v6+(60:P)))) else .undef),(18,bif c3_ then vc (.pb 99999999999 0) else .undef),(19,bif c4_ then vc (aI r7.1) else .undef),(20,bif c5_ then vc (aI (zI .i64 ((zI .i64 (v6+(60:P)))+r7.1))) else .undef),(21,bif c6_ then vc (.pb 5 4) else .undef)],bx_,rs_⟩
abbrev A08(a1 v4:P)(v5 v6:P)(r7:P × X1):St:=(L9 v6 r7 T T T T T T T [(99999999999,(dm r7.2.row)),(4,[aI (0:P),aI (0:P),aI (0:P),aI (0:P),aI (0:P)]),(5,[aI a1,aI v4,aI v5,aI v6,aI (zI .i64 ((zI .i64 (v6+(60:P)))+r7.1))])] [])
theorem F4h(r2:Q × X1)(a1 v4:P)(v5 v6:P)(r7:P × X1)(h7:A4 r2.2 (400:P)=H r7):∀(f:U),E2 Y A30 (A08 a1 v4 v5 v6 r7) f [T,T,T,T,T,T,T,T] (L9 v6 r7 T T T T T T T [(99999999999,(dm r7.2.row)),(4,[aI (0:P),aI (0:P),aI (0:P),aI (0:P),aI (0:P)]),(5,[aI a1,aI v4,aI v5,aI v6,aI (zI .i64 ((zI .i64 (v6+(60:P)))+r7.1))])] []):=by
 intro f
 induction f with
 | zero=>intro h; rfl
 | succ f ih=>
  refine B2 ⟨?_,?_,?_,?_,?_,?_,?_,?_,⟨⟩⟩<;>try first | (intro h; cases h; done)
theorem F39(r2:Q × X1)(a1 v4:P)(v5 v6:P)(r7:P × X1)(h7:A4 r2.2 (400:P)=H r7):∀(f:U) (b0 b1:Q) (b2 b5 b6:Q),E2 Y A30 (A08 a1 v4 v5 v6 r7) f [b0,b1,b2,T,T,b5,b6,G] (L9 v6 r7 b0 b1 b2 T T b5 b6 [(99999999999,(dm r7.2.row)),(4,[aI (0:P),aI (0:P),aI (0:P),aI (0:P),aI (0:P)]),(5,[aI a1,aI v4,aI v5,aI v6,aI (0:P)])] []):=by
 intro f
 induction f with
 | zero=>intro b0 b1 b2 b5 b6 h; simp at h
 | succ f ih=>
  intro b0 b1 b2 b5 b6
  refine B2 ⟨?_,?_,?_,?_,?_,?_,?_,?_,⟨⟩⟩<;>try first | (intro h; cases h; done) | (intro h0 hw; obtain rfl:=hz h0 rfl; (try obtain rfl:=hq hw 0 rfl rfl); (try obtain rfl:=hq hw 1 rfl rfl); (try obtain rfl:=hq hw 2 rfl rfl); (try obtain rfl:=hq hw 5 rfl rfl); refine np ?_; simp only[L9,cdt,cdf,A1,A,B,C,E,F,J]; exact ih _ _ _ _ _)
  ·intro h0 hw
   obtain rfl:=hq hw 0 rfl rfl
   obtain rfl:=hq hw 1 rfl rfl
   obtain rfl:=hq hw 2 rfl rfl
   obtain rfl:=hq hw 5 rfl rfl
   obtain rfl:=hq hw 6 rfl rfl
   refine np ?_
   try simp only[L9,cdt,cdf,A1,A,B,C,E,F,J]
   exact F4h r2 a1 v4 v5 v6 r7 h7 _
theorem F4j(r2:Q × X1)(a1 v4:P)(v5 v6:P)(r7:P × X1)(h7:A4 r2.2 (400:P)=H r7):∀(f:U) (b0 b1:Q) (b2 b3:Q),E2 Y A30 (A08 a1 v4 v5 v6 r7) f [b0,b1,b2,b3,G,G,G,G] (L9 v6 r7 b0 b1 b2 b3 G G G [(99999999999,(dm r2.2.row)),(4,[aI (0:P),aI (0:P),aI (0:P),aI (0:P),aI (0:P)]),(5,[aI a1,aI v4,aI v5,aI v6,aI (0:P)])] []):=by
 intro f
 induction f with
 | zero=>intro b0 b1 b2 b3 h; simp at h
 | succ f ih=>
  intro b0 b1 b2 b3
  refine B2 ⟨?_,?_,?_,?_,?_,?_,?_,?_,⟨⟩⟩<;>try first | (intro _ hw; simp at hw; done) | (intro h0 hw; obtain rfl:=hz h0 rfl; (try obtain rfl:=hq hw 0 rfl rfl); (try obtain rfl:=hq hw 1 rfl rfl); refine np ?_; simp only[L9,cdt,cdf,A1,A,B,C,E,F,J]; exact ih _ _ _ _)
  ·intro h0 hw
   obtain rfl:=hq hw 3 rfl rfl
   refine np ?_
   try simp only[L9,cdt,cdf,A1,A,B,C,E,F,J]
   refine C4 (B6 _ _ _ h7) 99999999999 W W W ?_
   try simp only[A1,A,B,C,E,F,J]
   exact F39 r2 a1 v4 v5 v6 r7 h7 _ b0 b1 b2 G G
theorem E49(r2:Q × X1)(a1 v4:P)(v5 v6:P)(r:X9 × X1)(h:A2s r2 a1 v4 v5 v6=H r)(σ:St)(hσ:σ.kept [0,4,5] [99999999999,4,5] []=⟨[(0,vc (.pb 99999999999 0)),(4,vc (.pb 4 0)),(5,vc (.pb 5 0))],[(99999999999,(dm r2.2.row)),(4,[aI (0:P),aI (0:P),aI (0:P),aI (0:P),aI (0:P)]),(5,[aI a1,aI v4,aI v5,aI v6,aI (0:P)])],[]⟩):go Y (.code D4x:: []) (B35 [.c 4 T 5] [.ag [.v (.int .i64 r.1.Ship),.v (.int .i64 r.1.From),.v (.int .i64 r.1.To),.v (.int .i64 r.1.Ready),.v (.int .i64 r.1.Due)]] [.sl (X r8 r.2.b),.int .i64 r.2.i,.int .i64 r.2.h]) .normal (H σ):=by
 unfold A2s at h
 try simp only[hσ,D4x,A,B,C,E,F,J]
 obtain⟨r7,h7,h⟩:=ob h
 refine A38 (ks:= [0,4,5]) (bs:= [99999999999,4,5]) (rs:= []) (τ:=(A08 a1 v4 v5 v6 r7)) W (F4j r2 a1 v4 v5 v6 r7 h7 _ G G G G) ?_
 simp only[A08,L9,cdt]
 try simp only[A,B,C,E,F,J]
 cases h
 try simp only[M1,A,B,C,E,F,J]
 trivial
theorem F30:A6 Y 177=H (cc80.strip,[.c 4 T 5],23):=by kernel_rfl
theorem B9i(a0:X1)(a1:P)(r:X9 × X1)(h:A15 a0 a1=H r):FCy Y 177 [.p,.d (.sc (.int .i64 a1))] [.sl (X r8 a0.b),.int .i64 a0.i,.int .i64 a0.h] [.sl (X r8 r.2.b),.int .i64 r.2.i,.int .i64 r.2.h] [.ag [.v (.int .i64 r.1.Ship),.v (.int .i64 r.1.From),.v (.int .i64 r.1.To),.v (.int .i64 r.1.Ready),.v (.int .i64 r.1.Due)]]:=by
 unfold A15 at h
 refine A3h (σ:=⟨[(0,vc (.pb 99999999999 0)),(1,vc (aI a1))],[(99999999999,[aL (X r8 a0.b),aI a0.i,aI a0.h])],[]⟩) B0 F30 W W ?_
 simp only[cc80]
 try simp only[A,B,C,E,F,J]
 refine D1 W W ?_
 obtain⟨r1,h1,h⟩:=ob h
 try simp only[A,B,C,E,F,J]
 refine C4 (B6 _ _ _ h1) 99999999999 W W W ?_
 try simp only[A,B,C,E,F,J]
 refine D1 W W ?_
 obtain⟨r2,h2,h⟩:=ob h
 try simp only[A,B,C,E,F,J]
 refine C4 (W6 _ _ _ h2) 99999999999 W W W ?_
 rcases ic h with ⟨h3,h⟩|⟨h3,h⟩
 ·try simp only[h3,A,B,C,E,F,J]
  refine E49 _ _ _ _ _ _ h _ ?_
  try simp only[h3,A,B,C,E,F,J,Z]
 ·try simp only[h3,A,B,C,E,F,J]
  refine E49 _ _ _ _ _ _ h _ ?_
  try simp only[h3,A,B,C,E,F,J,Z]
/- 80:spec_l16Case -/
def C7z:X3:= .seq (.reg [(L,.keep [0,2,4,5,6,12,13,22] [99999999999,2,4] [576])]) (.cond (S 22) (.reg [mv 23 5,mv 24 0,mv 25 6,ca 26 177 [S 24,S 25],(L,.bslice 27 5 [.int .i64 0,.int .i64 0,.int .i64 0,.int .i64 0,.int .i64 0] 1 [(0,(S 26))]),(L,.app 28 5 40 (S 23) (S 27)),mv 5 28]) .skip)
def C86:X3:=(.reg [(L,.bin 29 .add (S 13) (K 1)),mv 13 29])
def B6l:X3:= .seq (.reg [(L,.keep [0,2,4,5,12,13] [99999999999,2,4] [576])]) (.seq (.reg [bn 14 .lss 13 12]) (.seq (.cond (S 14) .skip (.exit 0)) (.seq (.block 1 (.seq (.reg [mv 15 13,mv 6 15]) (.seq (.reg [mv 16 6,(L,.bin 17 .eql (S 16) (K 0)),mv 18 17,(H (18,G),.mv 19 (S 0)),(H (18,G),.call 20 176 [(S 19),(K 4)]),(H (18,G),.un 21 .not (S 20)),po 22 18 21]) C7z))) C86)))
def C4g:X3:=(.seq (.reg [lw 30 4 12,mv 31 5,so 2 30 12,mv 3 31]) .ret)
def cc90:X3:=(.seq (.reg [(L,.alloc 2 [aI 0,.nil,.nil,.nil,.nil,.nil,aI 0,aB G,aI 0,aI 0,aI 0,.nil]),(L,.mv 3 KN)]) (.seq (.reg [mv 7 0,ca 8 175 [S 7],(L,.alloc 4 [aI 0,.nil,.nil,.nil,.nil,.nil,aI 0,aB G,aI 0,aI 0,aI 0,.nil]),so 4 8 12]) (.seq (.reg [(L,.bslice 9 5 [.int .i64 0,.int .i64 0,.int .i64 0,.int .i64 0,.int .i64 0] 0 []),mv 5 9]) (.seq (.seq (.reg [fa 10 4 5,ld 11 10,ln 12 11,(L,.mv 13 (K 0))]) (.block 0 (.loop B6l))) C4g))))
theorem E4i(v2:P)(r1:X4 × X1)(v6:N X9)(A2t:P→(N P)→P→P→(N X9)→O (X4 × (N X9) × X1))(A8r:∀(v2:P) (v3:N P) (v4 v5:P) (v6:N X9) zr,A2t v2 v3 v4 v5 v6=H zr→∀σ:St,σ.kept [0,2,4,5,12,13] [99999999999,2,4] [576]=⟨[(0,vc (.pb 99999999999 0)),(2,vc (.pb 2 0)),(4,vc (.pb 4 0)),(5,vc (.own 576)),(12,vc (aI (r1.1.Fleet.length:P))),(13,vc (aI v2))],[(99999999999,[aL (X r8 v3),aI v4,aI v5]),(2,[aI (0:P),.nil,.nil,.nil,.nil,.nil,aI (0:P),aB G,aI (0:P),aI (0:P),aI (0:P),.nil]),(4,(dm r1.1.row))],[(576,5,X X9.row v6)]⟩→go Y (.code (.loop B6l):: [.blk 0,.code C4g]) (B86 [.c 2 T 12,3] [.ag [.v (.int .i64 zr.1.Forecast.Tide.Mean),.v (.sl (X I zr.1.Forecast.Tide.Parts)),.v (.sl (X zB zr.1.Forecast.Surges)),.v (.sl (X zA zr.1.Chart.Points)),.v (.sl (X X2.row zr.1.Chart.Segments)),.v (.sl (X zE zr.1.Fleet)),.v (.int .i64 zr.1.Regime.Gap),.v (.bool zr.1.Regime.NoMeet),.v (.int .i64 zr.1.Crew.Tugs),.v (.int .i64 zr.1.Crew.Pilots),.v (.int .i64 zr.1.Crew.Rest),.v (.sl (X rI zr.1.Crew.Moves))],.sc (.o 5 (X X9.row zr.2.1))] [.sl (X r8 zr.2.2.b),.int .i64 zr.2.2.i,.int .i64 zr.2.2.h]) .normal (H σ))(v10:Q)(v11:N P)(v12 v13:P)(r:X4 × (N X9) × X1)(h:S7 v2 r1 v6 A2t v10 v11 v12 v13=H r)(σ:St)(hσ:σ.kept [0,2,4,5,6,12,13,22] [99999999999,2,4] [576]=⟨[(0,vc (.pb 99999999999 0)),(2,vc (.pb 2 0)),(4,vc (.pb 4 0)),(5,vc (.own 576)),(6,vc (aI v2)),(12,vc (aI (r1.1.Fleet.length:P))),(13,vc (aI v2)),(22,vc (aB v10))],[(99999999999,[aL (X r8 v11),aI v12,aI v13]),(2,[aI (0:P),.nil,.nil,.nil,.nil,.nil,aI (0:P),aB G,aI (0:P),aI (0:P),aI (0:P),.nil]),(4,(dm r1.1.row))],[(576,5,X X9.row v6)]⟩):go Y (.code C7z:: [.blk 1,.code C86,.code (.loop B6l),.blk 0,.code C4g]) (B86 [.c 2 T 12,3] [.ag [.v (.int .i64 r.1.Forecast.Tide.Mean),.v (.sl (X I r.1.Forecast.Tide.Parts)),.v (.sl (X zB r.1.Forecast.Surges)),.v (.sl (X zA r.1.Chart.Points)),.v (.sl (X X2.row r.1.Chart.Segments)),.v (.sl (X zE r.1.Fleet)),.v (.int .i64 r.1.Regime.Gap),.v (.bool r.1.Regime.NoMeet),.v (.int .i64 r.1.Crew.Tugs),.v (.int .i64 r.1.Crew.Pilots),.v (.int .i64 r.1.Crew.Rest),.v (.sl (X rI r.1.Crew.Moves))],.sc (.o 5 (X X9.row r.2.1))] [.sl (X r8 r.2.2.b),.int .i64 r.2.2.i,.int .i64 r.2.2.h]) .normal (H σ):=by
 unfold S7 at h
 rcases ic h with ⟨h14,h⟩|⟨h14,h⟩
 ·obtain⟨r15,h15,h⟩:=ob h
  try simp only[hσ,h14,C7z,A,B,C,E,F,J]
  refine C4 (B9i _ _ _ h15) 99999999999 W W W ?_
  try simp only[h14,A,B,C,E,F,J]
  refine D4 (es:=X X9.row ([r15.1]:N X9)) W W ?_
  obtain⟨h16,h⟩:=D7 h
  try simp only[h14,h16,C86,A,B,C,E,F,J]
  refine A8r _ _ _ _ _ _ h _ ?_
  try simp only[h14,h16,A,B,C,E,F,J,Z]
 ·try simp only[hσ,h14,C7z,C86,A,B,C,E,F,J]
  refine A8r _ _ _ _ _ _ h _ ?_
  try simp only[h14,A,B,C,E,F,J,Z]
theorem F4e(r1:X4 × X1):∀(n:U) (v2:P) (v3:N P) (v4 v5:P) (v6:N X9) (r:X4 × (N X9) × X1),I2 r1 n v2 v3 v4 v5 v6=H r→∀σ:St,σ.kept [0,2,4,5,12,13] [99999999999,2,4] [576]=⟨[(0,vc (.pb 99999999999 0)),(2,vc (.pb 2 0)),(4,vc (.pb 4 0)),(5,vc (.own 576)),(12,vc (aI (r1.1.Fleet.length:P))),(13,vc (aI v2))],[(99999999999,[aL (X r8 v3),aI v4,aI v5]),(2,[aI (0:P),.nil,.nil,.nil,.nil,.nil,aI (0:P),aB G,aI (0:P),aI (0:P),aI (0:P),.nil]),(4,(dm r1.1.row))],[(576,5,X X9.row v6)]⟩→go Y (.code (.loop B6l):: [.blk 0,.code C4g]) (B86 [.c 2 T 12,3] [.ag [.v (.int .i64 r.1.Forecast.Tide.Mean),.v (.sl (X I r.1.Forecast.Tide.Parts)),.v (.sl (X zB r.1.Forecast.Surges)),.v (.sl (X zA r.1.Chart.Points)),.v (.sl (X X2.row r.1.Chart.Segments)),.v (.sl (X zE r.1.Fleet)),.v (.int .i64 r.1.Regime.Gap),.v (.bool r.1.Regime.NoMeet),.v (.int .i64 r.1.Crew.Tugs),.v (.int .i64 r.1.Crew.Pilots),.v (.int .i64 r.1.Crew.Rest),.v (.sl (X rI r.1.Crew.Moves))],.sc (.o 5 (X X9.row r.2.1))] [.sl (X r8 r.2.2.b),.int .i64 r.2.2.i,.int .i64 r.2.2.h]) .normal (H σ):=by
 intro n
 induction n with
 | zero=>intro _ _ _ _ _ r h; cases h
 | succ n ih=>
  intro v2 v3 v4 v5 v6 r h σ hσ
  rw[I2] at h
  refine B8 ?_
  rcases ic h with ⟨h7,h⟩|⟨h7,h⟩
  ·rcases ic h with ⟨h8,h⟩|⟨h8,h⟩
   ·try simp only[hσ,h7,h8,B6l,A,B,C,E,F,J]
    refine E4i _ _ _ (I2 r1 n) ih _ _ _ _ _ h _ ?_
    try simp only[h7,h8,A,B,C,E,F,J,Z]
   ·obtain⟨r9,h9,h⟩:=ob h
    try simp only[hσ,h7,h8,B6l,A,B,C,E,F,J]
    refine C4 (W6 _ _ _ h9) 99999999999 W W W ?_
    try simp only[h7,h8,A,B,C,E,F,J]
    refine E4i _ _ _ (I2 r1 n) ih _ _ _ _ _ h _ ?_
    try simp only[h7,h8,A,B,C,E,F,J,Z]
  ·try simp only[hσ,h7,B6l,C4g,A,B,C,E,F,J]
   cases h
   try simp only[M1,A,B,C,E,F,J]
   trivial
theorem F3d:A6 Y 80=H (cc90.strip,[.c 2 T 12,3],32):=by kernel_rfl
theorem B9t(a0:X1)(r:X4 × (N X9) × X1)(h:A5y a0=H r):FCo Y 80 [.p] [.sl (X r8 a0.b),.int .i64 a0.i,.int .i64 a0.h] [.sl (X r8 r.2.2.b),.int .i64 r.2.2.i,.int .i64 r.2.2.h] [.ag [.v (.int .i64 r.1.Forecast.Tide.Mean),.v (.sl (X I r.1.Forecast.Tide.Parts)),.v (.sl (X zB r.1.Forecast.Surges)),.v (.sl (X zA r.1.Chart.Points)),.v (.sl (X X2.row r.1.Chart.Segments)),.v (.sl (X zE r.1.Fleet)),.v (.int .i64 r.1.Regime.Gap),.v (.bool r.1.Regime.NoMeet),.v (.int .i64 r.1.Crew.Tugs),.v (.int .i64 r.1.Crew.Pilots),.v (.int .i64 r.1.Crew.Rest),.v (.sl (X rI r.1.Crew.Moves))],.sc (.o 5 (X X9.row r.2.1))]:=by
 unfold A5y at h
 refine D2d (σ:=⟨[(0,vc (.pb 99999999999 0))],[(99999999999,[aL (X r8 a0.b),aI a0.i,aI a0.h])],[]⟩) B0 F3d W W ?_
 simp only[cc90]
 try simp only[A,B,C,E,F,J]
 refine D1 W W ?_
 obtain⟨r1,h1,h⟩:=ob h
 try simp only[A,B,C,E,F,J]
 refine C4 (B5o _ _ h1) 99999999999 W W W ?_
 try simp only[A,B,C,E,F,J]
 refine D1 W W ?_
 try simp only[A,B,C,E,F,J]
 refine D4 (es:=X X9.row ([]:N X9)) W W ?_
 try simp only[A,B,C,E,F,J]
 refine F4e _ _ _ _ _ _ _ _ h _ ?_
 try simp only[A,B,C,E,F,J,Z]
/- 14:spec_MakeCalls -/
def cc94:X3:=(.seq (.reg [(L,.alloc 2 [aI 0,.nil,.nil,.nil,.nil,.nil,aI 0,aB G,aI 0,aI 0,aI 0,.nil]),(L,.mv 3 KN)]) (.seq (.reg [mv 4 0,ca 5 81 [S 4],ca 6 80 [S 5],xt 7 6 0,xt 8 6 1,so 2 7 12,mv 3 8]) .ret))
theorem F37:A6 Y 14=H (cc94.strip,[.c 2 T 12,3],9):=by kernel_rfl
theorem B6m(a0:N P)(r:X4 × (N X9))(h:A2c a0=H r):FC Y 14 [.sc (.sl (X r8 a0))] [.ag [.v (.int .i64 r.1.Forecast.Tide.Mean),.v (.sl (X I r.1.Forecast.Tide.Parts)),.v (.sl (X zB r.1.Forecast.Surges)),.v (.sl (X zA r.1.Chart.Points)),.v (.sl (X X2.row r.1.Chart.Segments)),.v (.sl (X zE r.1.Fleet)),.v (.int .i64 r.1.Regime.Gap),.v (.bool r.1.Regime.NoMeet),.v (.int .i64 r.1.Crew.Tugs),.v (.int .i64 r.1.Crew.Pilots),.v (.int .i64 r.1.Crew.Rest),.v (.sl (X rI r.1.Crew.Moves))],.sc (.o 5 (X X9.row r.2))]:=by
 unfold A2c at h
 refine C8 B0 F37 W ?_
 simp only[cc94,A,B,C,E,F,J]
 try simp only[A,B,C,E,F,J]
 refine D1 W W ?_
 obtain⟨r1,h1,h⟩:=ob h
 try simp only[A,B,C,E,F,J]
 refine D6x (C1m _ _ h1) W W ?_
 obtain⟨r2,h2,h⟩:=ob h
 try simp only[A,B,C,E,F,J]
 refine C5d (B9t _ _ h2) 5 W W W W ?_
 try simp only[A,B,C,E,F,J]
 cases h
 try simp only[M1,A,B,C,E,F,J]
 trivial
/- 114:impl_within -/
def cc96:X3:=(.seq (.reg [(L,.mv 6 (KB G))]) (.seq (.reg [mv 7 1,mv 8 0,bn 9 .leq 7 8,mv 10 9,(H (10,T),.mv 11 (S 0)),(H (10,T),.mv 12 (S 2)),(H (10,T),.bin 13 .leq (S 11) (S 12)),pa 14 10 13,mv 6 14]) .ret))
theorem F32:A6 Y 114=H (cc96.strip,[6],15):=by kernel_rfl
theorem G0(a0 a1 a2:P)(r:Q)(h:E0 a0 a1 a2=H r):FC Y 114 [.sc (.int .i64 a0),.sc (.int .i64 a1),.sc (.int .i64 a2)] [.sc (.v (.bool r))]:=by
 unfold E0 at h
 refine C8 B0 F32 W ?_
 simp only[cc96,A,B,C,E,F,J]
 rcases ic h with ⟨h1,h⟩|⟨h1,h⟩
 ·try simp only[h1,A,B,C,E,F,J]
  cases h
  trivial
 ·try simp only[h1,A,B,C,E,F,J]
  cases h
  trivial
/- 338:impl_isPeriod -/
def cc98:X3:=(.seq (.reg [(L,.mv 2 (KB G))]) (.seq (.reg [mv 3 0,ca 4 114 [S 3,K 4,K 2880],mv 5 4,(H (5,T),.mv 6 (S 0)),(H (5,T),.bin 7 .rem (S 6) (K 4)),(H (5,T),.bin 8 .eql (S 7) (K 0)),pa 9 5 8,mv 2 9]) .ret))
theorem F3z:A6 Y 338=H (cc98.strip,[2],10):=by kernel_rfl
theorem B0t(a0:P)(r:Q)(h:A1i a0=H r):FC Y 338 [.sc (.int .i64 a0)] [.sc (.v (.bool r))]:=by
 unfold A1i at h
 refine C8 B0 F3z W ?_
 simp only[cc98,A,B,C,E,F,J]
 obtain⟨r1,h1,h⟩:=ob h
 try simp only[A,B,C,E,F,J]
 refine A2 (G0 _ _ _ _ h1) W W (uf W) ?_
 rcases ic h with ⟨h2,h⟩|⟨h2,h⟩
 ·try simp only[h2,A,B,C,E,F,J]
  cases h
  trivial
 ·try simp only[h2,A,B,C,E,F,J]
  cases h
  trivial
/- 283:impl_PartOk -/
def cc100:X3:=(.seq (.reg [bo 1 0,(L,.mv 2 (KB G))]) (.seq (.reg [fa 3 1 0,ld 4 3,ca 5 114 [S 4,K 0,K 1000],mv 6 5,(H (6,T),.faddr 7 (S 1) 1),(H (6,T),.load 8 (S 7) G 1),(H (6,T),.call 9 338 [(S 8)]),pa 10 6 9,mv 11 10,(H (11,T),.faddr 12 (S 1) 2),(H (11,T),.load 13 (S 12) G 1),(H (11,T),.faddr 14 (S 1) 1),(H (11,T),.load 15 (S 14) G 1),(H (11,T),.bin 16 .sub (S 15) (K 1)),(H (11,T),.call 17 114 [(S 13),(K 0),(S 16)]),pa 18 11 17,mv 2 18]) .ret))
theorem E94:A6 Y 283=H (cc100.strip,[2],19):=by kernel_rfl
theorem C1p(a0:Xi)(r:Q)(h:A4v a0=H r):FC Y 283 [.ag (I a0)] [.sc (.v (.bool r))]:=by
 unfold A4v at h
 refine C8 B0 E94 W ?_
 simp only[cc100,A,B,C,E,F,J]
 try simp only[A,B,C,E,F,J]
 refine B3 W W W ?_
 obtain⟨r1,h1,h⟩:=ob h
 try simp only[A,B,C,E,F,J]
 refine A2 (G0 _ _ _ _ h1) W W (uf W) ?_
 rcases ic h with ⟨h2,h⟩|⟨h2,h⟩
 ·obtain⟨r3,h3,h⟩:=ob h
  try simp only[h2,A,B,C,E,F,J]
  refine A2 (B0t _ _ h3) W W (uf W) ?_
  rcases ic h with ⟨h4,h⟩|⟨h4,h⟩
  ·obtain⟨r5,h5,h⟩:=ob h
   try simp only[h2,h4,A,B,C,E,F,J]
   refine A2 (G0 _ _ _ _ h5) W W (uf W) ?_
   try simp only[h2,h4,A,B,C,E,F,J]
   cases h
   trivial
  ·try simp only[h2,h4,A,B,C,E,F,J]
   cases h
   trivial
 ·try simp only[h2,A,B,C,E,F,J]
  cases h
  trivial
/- 207:impl_TideOk -/
def C2n:X3:= .seq (.reg [(L,.keep [16,17,18] [] [])]) (.seq (.reg [bn 19 .lss 18 17]) (.seq (.cond (S 19) .skip (.exit 0)) (.seq (.block 1 (.seq (.reg [ia 20 16 18 3,lw 21 20 3,(L,.alloc 4 [aI 0,aI 0,aI 0]),so 4 21 3]) (.seq (.reg [lw 22 4 3,ca 23 283 [S 22],nt 24 23]) (.cond (S 24) (.seq (.reg [(L,.mv 2 (KB G))]) .ret) .skip)))) (.reg [(L,.bin 25 .add (S 18) (K 1)),mv 18 25]))))
def D0f:X3:=(.seq (.reg [(L,.mv 2 (KB T))]) .ret)
def cc104:X3:=(.seq (.reg [bo 1 0,(L,.mv 2 (KB G))]) (.seq (.seq (.reg [fa 5 1 0,ld 6 5,ca 7 114 [S 6,K (-1000),K 1000],nt 8 7,mv 9 8,(H (9,G),.faddr 10 (S 1) 1),(H (9,G),.load 11 (S 10) G 1),(H (9,G),.len 12 (S 11)),(H (9,G),.bin 13 .gtr (S 12) (K 4)),po 14 9 13]) (.cond (S 14) (.seq (.reg [(L,.mv 2 (KB G))]) .ret) .skip)) (.seq (.seq (.reg [fa 15 1 1,ld 16 15,ln 17 16,(L,.mv 18 (K 0))]) (.block 0 (.loop C2n))) D0f)))
theorem F1u(a0:Xl):∀(n:U) (v4:P) (r:Q),Y9 a0 n v4=H r→∀σ:St,σ.kept [16,17,18] [] []=⟨[(16,vc (aL (X I a0.Parts))),(17,vc (aI (a0.Parts.length:P))),(18,vc (aI v4))],[],[]⟩→go Y (.code (.loop C2n):: [.blk 0,.code D0f]) (Ret [2] [.sc (.v (.bool r))]) .normal (H σ):=by
 intro n
 induction n with
 | zero=>intro _ r h; cases h
 | succ n ih=>
  intro v4 r h σ hσ
  rw[Y9] at h
  refine B8 ?_
  rcases ic h with ⟨h5,h⟩|⟨h5,h⟩
  ·obtain⟨x6,h6,h⟩:=ob h
   try simp only[hσ,h5,h6,C2n,A,B,C,E,F,J]
   refine D1 W W ?_
   obtain⟨r7,h7,h⟩:=ob h
   try simp only[h5,h6,A,B,C,E,F,J]
   refine A2 (C1p _ _ h7) W W (uf W) ?_
   rcases ic h with ⟨h8,h⟩|⟨h8,h⟩
   ·try simp only[h5,h6,h8,A,B,C,E,F,J]
    refine ih _ _ h _ ?_
    try simp only[h5,h6,h8,A,B,C,E,F,J,Z]
   ·try simp only[h5,h6,h8,A,B,C,E,F,J]
    cases h
    trivial
  ·try simp only[hσ,h5,C2n,D0f,A,B,C,E,F,J]
   cases h
   trivial
theorem E7z:A6 Y 207=H (cc104.strip,[2],26):=by kernel_rfl
theorem C07(a0:Xl)(r:Q)(h:A4x a0=H r):FC Y 207 [.ag (Xl.row a0)] [.sc (.v (.bool r))]:=by
 unfold A4x at h
 refine C8 B0 E7z W ?_
 simp only[cc104,A,B,C,E,F,J]
 try simp only[A,B,C,E,F,J]
 refine B3 W W W ?_
 obtain⟨r1,h1,h⟩:=ob h
 try simp only[A,B,C,E,F,J]
 refine A2 (G0 _ _ _ _ h1) W W (uf W) ?_
 rcases ic h with ⟨h2,h⟩|⟨h2,h⟩
 ·rcases ic h with ⟨h3,h⟩|⟨h3,h⟩
  ·try simp only[h2,h3,A,B,C,E,F,J]
   cases h
   trivial
  ·try simp only[h2,h3,A,B,C,E,F,J]
   refine F1u _ _ _ _ h _ ?_
   try simp only[h2,h3,A,B,C,E,F,J,Z]
 ·try simp only[h2,A,B,C,E,F,J]
  cases h
  trivial
/- 117:impl_isMinute -/
def cc107:X3:=(.seq (.reg [(L,.mv 2 (KB G))]) (.seq (.reg [mv 3 0,ca 4 114 [S 3,K 0,K 2880],mv 2 4]) .ret))
theorem E69:A6 Y 117=H (cc107.strip,[2],5):=by kernel_rfl
theorem R5(a0:P)(r:Q)(h:I0 a0=H r):FC Y 117 [.sc (.int .i64 a0)] [.sc (.v (.bool r))]:=by
 unfold I0 at h
 refine C8 B0 E69 W ?_
 simp only[cc107,A,B,C,E,F,J]
 obtain⟨r1,h1,h⟩:=ob h
 try simp only[A,B,C,E,F,J]
 refine A2 (G0 _ _ _ _ h1) W W (uf W) ?_
 try simp only[A,B,C,E,F,J]
 cases h
 trivial
/- 208:impl_SurgeOk -/
def cc109:X3:=(.seq (.reg [bo 1 0,(L,.mv 2 (KB G))]) (.seq (.reg [fa 3 1 0,ld 4 3,ca 5 117 [S 4],mv 6 5,(H (6,T),.faddr 7 (S 1) 1),(H (6,T),.load 8 (S 7) G 1),(H (6,T),.bin 9 .leq (K (-500)) (S 8)),pa 10 6 9,mv 11 10,(H (11,T),.faddr 12 (S 1) 1),(H (11,T),.load 13 (S 12) G 1),(H (11,T),.faddr 14 (S 1) 2),(H (11,T),.load 15 (S 14) G 1),(H (11,T),.bin 16 .leq (S 13) (S 15)),pa 17 11 16,mv 18 17,(H (18,T),.faddr 19 (S 1) 2),(H (18,T),.load 20 (S 19) G 1),(H (18,T),.bin 21 .leq (S 20) (K 500)),pa 22 18 21,mv 2 22]) .ret))
theorem F2h:A6 Y 208=H (cc109.strip,[2],23):=by kernel_rfl
theorem B9n(a0:Xf)(r:Q)(h:A4f a0=H r):FC Y 208 [.ag (zB a0)] [.sc (.v (.bool r))]:=by
 unfold A4f at h
 refine C8 B0 F2h W ?_
 simp only[cc109,A,B,C,E,F,J]
 try simp only[A,B,C,E,F,J]
 refine B3 W W W ?_
 obtain⟨r1,h1,h⟩:=ob h
 try simp only[A,B,C,E,F,J]
 refine A2 (R5 _ _ h1) W W (uf W) ?_
 rcases ic h with ⟨h2,h⟩|⟨h2,h⟩
 ·rcases ic h with ⟨h3,h⟩|⟨h3,h⟩
  ·rcases ic h with ⟨h4,h⟩|⟨h4,h⟩
   ·try simp only[h2,h3,h4,A,B,C,E,F,J]
    cases h
    trivial
   ·try simp only[h2,h3,h4,A,B,C,E,F,J]
    cases h
    trivial
  ·try simp only[h2,h3,A,B,C,E,F,J]
   cases h
   trivial
 ·try simp only[h2,A,B,C,E,F,J]
  cases h
  trivial
/- 116:impl_ForecastOk -/
def C13:X3:= .seq (.reg [(L,.keep [1,25,26,27] [1] [])]) (.seq (.reg [bn 28 .lss 27 26]) (.seq (.cond (S 28) .skip (.exit 0)) (.seq (.block 1 (.seq (.reg [mv 29 27,ia 30 25 27 3,lw 31 30 3,(L,.alloc 4 [aI 0,aI 0,aI 0]),mv 3 29,so 4 31 3]) (.seq (.drw [o0 (lw 32 4 3),o0 (ca 33 208 [S 32]),o0 (nt 34 33),o0 (mv 35 34),o0 (H (35,G),.mv 36 (S 3)),o0 (H (35,G),.bin 37 .gtr (S 36) (K 0)),o0 (H (35,G),.mv 38 (S 37)),o0 (H (38,T),.faddr 39 (S 1) 2),o0 (H (38,T),.load 40 (S 39) G 1),o0 (H (38,T),.mv 41 (S 3)),o0 (H (38,T),.bin 42 .sub (S 41) (K 1)),o0 (H (38,T),.iaddr 43 (S 40) (S 42) 3),o0 (H (38,T),.faddr 44 (S 43) 0),o0 (H (38,T),.load 45 (S 44) G 1),o0 (H (38,T),.faddr 46 (S 4) 0),o0 (H (38,T),.load 47 (S 46) G 1),o0 (H (38,T),.bin 48 .geq (S 45) (S 47)),o0 (H (35,G),.pick 49 (S 38) (S 48) (KB G)),o0 (po 50 35 49)]) (.cond (S 50) (.seq (.reg [(L,.mv 2 (KB G))]) .ret) .skip)))) (.reg [(L,.bin 51 .add (S 27) (K 1)),mv 27 51]))))
def C9j:X3:=(.seq (.reg [(L,.mv 2 (KB T))]) .ret)
def cc113:X3:=(.seq (.reg [bo 1 0,(L,.mv 2 (KB G))]) (.seq (.seq (.reg [fa 5 1 0,lw 6 5 2,ca 7 207 [S 6],nt 8 7,mv 9 8,(H (9,G),.faddr 10 (S 1) 2),(H (9,G),.load 11 (S 10) G 1),(H (9,G),.len 12 (S 11)),(H (9,G),.call 13 114 [(S 12),(K 1),(K 6)]),(H (9,G),.un 14 .not (S 13)),po 15 9 14,mv 16 15,(H (16,G),.faddr 17 (S 1) 2),(H (16,G),.load 18 (S 17) G 1),(H (16,G),.iaddr 19 (S 18) (K 0) 3),(H (16,G),.faddr 20 (S 19) 0),(H (16,G),.load 21 (S 20) G 1),(H (16,G),.bin 22 .neq (S 21) (K 0)),po 23 16 22]) (.cond (S 23) (.seq (.reg [(L,.mv 2 (KB G))]) .ret) .skip)) (.seq (.seq (.reg [fa 24 1 2,ld 25 24,ln 26 25,(L,.mv 27 (K 0))]) (.block 0 (.loop C13))) C9j)))
theorem E8p(a0:Xe):∀(n:U) (v7:P) (r:Q),M7 a0 n v7=H r→∀σ:St,σ.kept [1,25,26,27] [1] []=⟨[(1,vc (.pb 1 0)),(25,vc (aL (X zB a0.Surges))),(26,vc (aI (a0.Surges.length:P))),(27,vc (aI v7))],[(1,(dm a0.row))],[]⟩→go Y (.code (.loop C13):: [.blk 0,.code C9j]) (Ret [2] [.sc (.v (.bool r))]) .normal (H σ):=by
 intro n
 induction n with
 | zero=>intro _ r h; cases h
 | succ n ih=>
  intro v7 r h σ hσ
  rw[M7] at h
  refine B8 ?_
  rcases ic h with ⟨h8,h⟩|⟨h8,h⟩
  ·obtain⟨x9,h9,h⟩:=ob h
   try simp only[hσ,h8,h9,C13,A,B,C,E,F,J]
   refine D1 W W ?_
   try simp only[h8,h9,A,B,C,E,F,J]
   refine B4 W ?_
   obtain⟨r10,h10,h⟩:=ob h
   try simp only[h8,h9,A,B,C,E,F,J]
   refine H0 (B9n _ _ h10) W W (uf W) ?_
   rcases ic h with ⟨h11,h⟩|⟨h11,h⟩
   ·rcases ic h with ⟨h12,h⟩|⟨h12,h⟩
    ·obtain⟨x13,h13,h⟩:=ob h
     rcases ic h with ⟨h14,h⟩|⟨h14,h⟩
     ·try simp only[h8,h9,h11,h12,h13,h14,A,B,C,E,F,J]
      cases h
      trivial
     ·try simp only[h8,h9,h11,h12,h13,h14,A,B,C,E,F,J]
      refine ih _ _ h _ ?_
      try simp only[h8,h9,h11,h12,h13,h14,A,B,C,E,F,J,Z]
    ·try simp only[h8,h9,h11,h12,A,B,C,E,F,J]
     refine ih _ _ h _ ?_
     try simp only[h8,h9,h11,h12,A,B,C,E,F,J,Z]
   ·try simp only[h8,h9,h11,A,B,C,E,F,J]
    cases h
    trivial
  ·try simp only[hσ,h8,C13,C9j,A,B,C,E,F,J]
   cases h
   trivial
theorem F1n:A6 Y 116=H (cc113.strip,[2],52):=by kernel_rfl
theorem A3w(a0:Xe)(r:Q)(h:P5 a0=H r):FC Y 116 [.ag (Xe.row a0)] [.sc (.v (.bool r))]:=by
 unfold P5 at h
 refine C8 B0 F1n W ?_
 simp only[cc113,A,B,C,E,F,J]
 try simp only[A,B,C,E,F,J]
 refine B3 W W W ?_
 obtain⟨r1,h1,h⟩:=ob h
 try simp only[A,B,C,E,F,J]
 refine A2 (C07 _ _ h1) W W (uf W) ?_
 rcases ic h with ⟨h2,h⟩|⟨h2,h⟩
 ·obtain⟨r3,h3,h⟩:=ob h
  try simp only[h2,A,B,C,E,F,J]
  refine A2 (G0 _ _ _ _ h3) W W (uf W) ?_
  rcases ic h with ⟨h4,h⟩|⟨h4,h⟩
  ·obtain⟨x5,h5,h⟩:=ob h
   rcases ic h with ⟨h6,h⟩|⟨h6,h⟩
   ·try simp only[h2,h4,h5,h6,A,B,C,E,F,J]
    cases h
    trivial
   ·try simp only[h2,h4,h5,h6,A,B,C,E,F,J]
    refine E8p _ _ _ _ h _ ?_
    try simp only[h2,h4,h5,h6,A,B,C,E,F,J,Z]
  ·try simp only[h2,h4,A,B,C,E,F,J]
   cases h
   trivial
 ·try simp only[h2,A,B,C,E,F,J]
  cases h
  trivial
/- 186:impl_IsName -/
def B2f:X3:= .seq (.reg [(L,.keep [0,3,4] [] [])]) (.seq (.reg [mv 25 4,nt 26 25,mv 27 26,(H (27,T),.mv 28 (S 3)),(H (27,T),.bin 29 .eql (S 28) (K 0)),(H (27,T),.mv 30 (S 29)),(H (30,G),.mv 31 (S 0)),(H (30,G),.mv 32 (S 3)),(H (30,G),.idx 33 (S 31) (S 32)),(H (30,G),.bin 34 .lss (S 33) (K8 48)),(H (27,T),.pick 35 (S 30) (KB T) (S 34)),(H (27,T),.mv 36 (S 35)),(H (36,G),.mv 37 (S 0)),(H (36,G),.mv 38 (S 3)),(H (36,G),.idx 39 (S 37) (S 38)),(H (36,G),.bin 40 .gtr (S 39) (K8 57)),(H (27,T),.pick 41 (S 36) (KB T) (S 40)),pa 42 27 41]) (.cond (S 42) (.seq (.reg [(L,.mv 2 (KB G))]) .ret) .skip))
def C2m:X3:= .seq (.reg [(L,.keep [0,3] [] [])]) (.reg [mv 13 3,(L,.bin 14 .add (S 13) (K 1)),mv 3 14])
def A81:X3:= .seq (.reg [(L,.keep [0,3] [] [])]) (.seq (.seq (.reg [mv 9 3,mv 10 0,(L,.slen 11 (S 10)),bn 12 .lss 9 11]) (.cond (S 12) .skip (.exit 0))) (.seq (.block 1 (.seq (.reg [mv 15 0,mv 16 3,(L,.idx 17 (S 15) (S 16)),(L,.bin 18 .geq (S 17) (K8 97)),mv 19 18,(H (19,T),.mv 20 (S 0)),(H (19,T),.mv 21 (S 3)),(H (19,T),.idx 22 (S 20) (S 21)),(H (19,T),.bin 23 .leq (S 22) (K8 122)),pa 24 19 23,mv 4 24]) B2f)) C2m))
def B2n:X3:=(.seq (.reg [(L,.mv 2 (KB T))]) .ret)
def cc120:X3:=(.seq (.reg [(L,.mv 2 (KB G))]) (.seq (.seq (.reg [mv 5 0,(L,.slen 6 (S 5)),ca 7 114 [S 6,K 1,K 8],nt 8 7]) (.cond (S 8) (.seq (.reg [(L,.mv 2 (KB G))]) .ret) .skip)) (.seq (.seq (.reg [(L,.mv 3 (K 0))]) (.block 0 (.loop A81))) B2n)))
theorem D7q(a0:N V)(v3:P)(K4:P→O Q)(A4q:∀(v3:P) zr,K4 v3=H zr→∀σ:St,σ.kept [0,3] [] []=⟨[(0,vc (aS a0)),(3,vc (aI v3))],[],[]⟩→go Y (.code (.loop A81):: [.blk 0,.code B2n]) (Ret [2] [.sc (.v (.bool zr))]) .normal (H σ))(r:Q)(h:A29 a0 v3 K4=H r)(σ:St)(hσ:σ.kept [0,3] [] []=⟨[(0,vc (aS a0)),(3,vc (aI v3))],[],[]⟩):go Y (.code C2m:: [.code (.loop A81),.blk 0,.code B2n]) (Ret [2] [.sc (.v (.bool r))]) .normal (H σ):=by
 unfold A29 at h
 try simp only[hσ,C2m,A,B,C,E,F,J]
 refine A4q _ _ h _ ?_
 try simp only[A,B,C,E,F,J,Z]
theorem D8h(a0:N V)(v3:P)(K4:P→O Q)(A4q:∀(v3:P) zr,K4 v3=H zr→∀σ:St,σ.kept [0,3] [] []=⟨[(0,vc (aS a0)),(3,vc (aI v3))],[],[]⟩→go Y (.code (.loop A81):: [.blk 0,.code B2n]) (Ret [2] [.sc (.v (.bool zr))]) .normal (H σ))(v7 r:Q)(h:A3e a0 v3 K4 v7=H r)(σ:St)(hσ:σ.kept [0,3,4] [] []=⟨[(0,vc (aS a0)),(3,vc (aI v3)),(4,vc (aB v7))],[],[]⟩):go Y (.code B2f:: [.blk 1,.code C2m,.code (.loop A81),.blk 0,.code B2n]) (Ret [2] [.sc (.v (.bool r))]) .normal (H σ):=by
 unfold A3e at h
 rcases ic h with ⟨h8,h⟩|⟨h8,h⟩
 ·try simp only[hσ,h8,B2f,A,B,C,E,F,J]
  refine D7q _ _ K4 A4q _ h _ ?_
  try simp only[h8,A,B,C,E,F,J,Z]
 ·rcases ic h with ⟨h9,h⟩|⟨h9,h⟩
  ·try simp only[hσ,h8,h9,B2f,A,B,C,E,F,J]
   cases h
   trivial
  ·obtain⟨b10,h10,h⟩:=ob h
   rcases ic h with ⟨h11,h⟩|⟨h11,h⟩
   ·try simp only[hσ,h8,h9,h10,h11,B2f,A,B,C,E,F,J]
    cases h
    trivial
   ·rcases ic h with ⟨h12,h⟩|⟨h12,h⟩
    ·try simp only[hσ,h8,h9,h10,h11,h12,B2f,A,B,C,E,F,J]
     cases h
     trivial
    ·try simp only[hσ,h8,h9,h10,h11,h12,B2f,A,B,C,E,F,J]
     refine D7q _ _ K4 A4q _ h _ ?_
     try simp only[h8,h9,h10,h11,h12,A,B,C,E,F,J,Z]
theorem F2t(a0:N V):∀(n:U) (v3:P) (r:Q),N7 a0 n v3=H r→∀σ:St,σ.kept [0,3] [] []=⟨[(0,vc (aS a0)),(3,vc (aI v3))],[],[]⟩→go Y (.code (.loop A81):: [.blk 0,.code B2n]) (Ret [2] [.sc (.v (.bool r))]) .normal (H σ):=by
 intro n
 induction n with
 | zero=>intro _ r h; cases h
 | succ n ih=>
  intro v3 r h σ hσ
  rw[N7] at h
  refine B8 ?_
  rcases ic h with ⟨h4,h⟩|⟨h4,h⟩
  ·obtain⟨b5,h5,h⟩:=ob h
   rcases ic h with ⟨h6,h⟩|⟨h6,h⟩
   ·try simp only[hσ,h4,h5,h6,A81,A,B,C,E,F,J]
    refine D8h _ _ (N7 a0 n) ih _ _ h _ ?_
    try simp only[h4,h5,h6,A,B,C,E,F,J,Z]
   ·try simp only[hσ,h4,h5,h6,A81,A,B,C,E,F,J]
    refine D8h _ _ (N7 a0 n) ih _ _ h _ ?_
    try simp only[h4,h5,h6,A,B,C,E,F,J,Z]
  ·try simp only[hσ,h4,A81,B2n,A,B,C,E,F,J]
   cases h
   trivial
theorem F0e:A6 Y 186=H (cc120.strip,[2],43):=by kernel_rfl
theorem B2x(a0:N V)(r:Q)(h:A21 a0=H r):FC Y 186 [.sc (.str a0)] [.sc (.v (.bool r))]:=by
 unfold A21 at h
 refine C8 B0 F0e W ?_
 simp only[cc120,A,B,C,E,F,J]
 obtain⟨r1,h1,h⟩:=ob h
 try simp only[A,B,C,E,F,J]
 refine A2 (G0 _ _ _ _ h1) W W (uf W) ?_
 rcases ic h with ⟨h2,h⟩|⟨h2,h⟩
 ·try simp only[h2,A,B,C,E,F,J]
  refine F2t _ _ _ _ h _ ?_
  try simp only[h2,A,B,C,E,F,J,Z]
 ·try simp only[h2,A,B,C,E,F,J]
  cases h
  trivial
/- 187:impl_PointNamed -/
def C3a:X3:= .seq (.reg [(L,.keep [1,8,9,10] [] [])]) (.seq (.reg [bn 11 .lss 10 9]) (.seq (.cond (S 11) .skip (.exit 0)) (.seq (.block 1 (.seq (.reg [mv 12 10,ia 13 8 10 2,lw 14 13 2,(L,.alloc 6 [aS [],aB G]),mv 5 12,so 6 14 2]) (.seq (.reg [fa 15 6 0,ld 16 15,mv 17 1,bn 18 .eql 16 17]) (.cond (S 18) (.seq (.reg [mv 19 5,mv 4 19]) .ret) .skip)))) (.reg [(L,.bin 20 .add (S 10) (K 1)),mv 10 20]))))
def C9e:X3:=(.seq (.reg [(L,.mv 4 (K (-1)))]) .ret)
def cc127:X3:=(.seq (.reg [bo 2 0,(L,.mv 4 (K 0))]) (.seq (.seq (.reg [fa 7 2 0,ld 8 7,ln 9 8,(L,.mv 10 (K 0))]) (.block 0 (.loop C3a))) C9e))
theorem F00(a1:N V)(a0:X7):∀(n:U) (v1 r:P),Q0 a1 a0 n v1=H r→∀σ:St,σ.kept [1,8,9,10] [] []=⟨[(1,vc (aS a1)),(8,vc (aL (X zA a0.Points))),(9,vc (aI (a0.Points.length:P))),(10,vc (aI v1))],[],[]⟩→go Y (.code (.loop C3a):: [.blk 0,.code C9e]) (Ret [4] [.sc (.v (.int .i64 r))]) .normal (H σ):=by
 intro n
 induction n with
 | zero=>intro _ r h; cases h
 | succ n ih=>
  intro v1 r h σ hσ
  rw[Q0] at h
  refine B8 ?_
  rcases ic h with ⟨h2,h⟩|⟨h2,h⟩
  ·obtain⟨x3,h3,h⟩:=ob h
   try simp only[hσ,h2,h3,C3a,A,B,C,E,F,J]
   refine D1 W W ?_
   rcases ic h with ⟨h4,h⟩|⟨h4,h⟩
   ·try simp only[h2,h3,h4,A,B,C,E,F,J]
    cases h
    trivial
   ·try simp only[h2,h3,h4,A,B,C,E,F,J]
    refine ih _ _ h _ ?_
    try simp only[h2,h3,h4,A,B,C,E,F,J,Z]
  ·try simp only[hσ,h2,C3a,C9e,A,B,C,E,F,J]
   cases h
   trivial
theorem E73:A6 Y 187=H (cc127.strip,[4],21):=by kernel_rfl
theorem B5f(a0:X7)(a1:N V)(r:P)(h:A1t a0 a1=H r):FC Y 187 [.ag (X7.row a0),.sc (.str a1)] [.sc (.v (.int .i64 r))]:=by
 unfold A1t at h
 refine C8 B0 E73 W ?_
 simp only[cc127,A,B,C,E,F,J]
 try simp only[A,B,C,E,F,J]
 refine B3 W W W ?_
 try simp only[A,B,C,E,F,J]
 refine F00 _ _ _ _ _ h _ ?_
 try simp only[A,B,C,E,F,J,Z]
/- 94:impl_isIndex -/
def cc130:X3:=(.seq (.reg [(L,.mv 4 (KB G))]) (.seq (.reg [mv 5 0,(L,.bin 6 .geq (S 5) (K 0)),mv 7 6,(H (7,T),.mv 8 (S 0)),(H (7,T),.mv 9 (S 1)),(H (7,T),.bin 10 .lss (S 8) (S 9)),pa 11 7 10,mv 4 11]) .ret))
theorem E9a:A6 Y 94=H (cc130.strip,[4],12):=by kernel_rfl
theorem E1(a0 a1:P)(r:Q)(h:D2 a0 a1=H r):FC Y 94 [.sc (.int .i64 a0),.sc (.int .i64 a1)] [.sc (.v (.bool r))]:=by
 unfold D2 at h
 refine C8 B0 E9a W ?_
 simp only[cc130,A,B,C,E,F,J]
 rcases ic h with ⟨h1,h⟩|⟨h1,h⟩
 ·try simp only[h1,A,B,C,E,F,J]
  cases h
  trivial
 ·try simp only[h1,A,B,C,E,F,J]
  cases h
  trivial
/- 188:impl_Segment_joins -/
def cc132:X3:=(.seq (.reg [bo 3 0,(L,.mv 6 (KB G))]) (.seq (.reg [fa 7 3 0,ld 8 7,mv 9 1,bn 10 .eql 8 9,mv 11 10,(H (11,T),.faddr 12 (S 3) 1),(H (11,T),.load 13 (S 12) G 1),(H (11,T),.mv 14 (S 2)),(H (11,T),.bin 15 .eql (S 13) (S 14)),pa 16 11 15,mv 17 16,(H (17,G),.faddr 18 (S 3) 0),(H (17,G),.load 19 (S 18) G 1),(H (17,G),.mv 20 (S 2)),(H (17,G),.bin 21 .eql (S 19) (S 20)),(H (17,G),.mv 22 (S 21)),(H (22,T),.faddr 23 (S 3) 1),(H (22,T),.load 24 (S 23) G 1),(H (22,T),.mv 25 (S 1)),(H (22,T),.bin 26 .eql (S 24) (S 25)),(H (17,G),.pick 27 (S 22) (S 26) (KB G)),po 28 17 27,mv 6 28]) .ret))
theorem F2u:A6 Y 188=H (cc132.strip,[6],29):=by kernel_rfl
theorem B2l(a0:X2)(a1 a2:P)(r:Q)(h:Z7 a0 a1 a2=H r):FC Y 188 [.ag (X2.row a0),.sc (.int .i64 a1),.sc (.int .i64 a2)] [.sc (.v (.bool r))]:=by
 unfold Z7 at h
 refine C8 B0 F2u W ?_
 simp only[cc132,A,B,C,E,F,J]
 try simp only[A,B,C,E,F,J]
 refine B3 W W W ?_
 rcases ic h with ⟨h1,h⟩|⟨h1,h⟩
 ·rcases ic h with ⟨h2,h⟩|⟨h2,h⟩
  ·try simp only[h1,h2,A,B,C,E,F,J]
   cases h
   trivial
  ·rcases ic h with ⟨h3,h⟩|⟨h3,h⟩
   ·try simp only[h1,h2,h3,A,B,C,E,F,J]
    cases h
    trivial
   ·try simp only[h1,h2,h3,A,B,C,E,F,J]
    cases h
    trivial
 ·rcases ic h with ⟨h4,h⟩|⟨h4,h⟩
  ·try simp only[h1,h4,A,B,C,E,F,J]
   cases h
   trivial
  ·try simp only[h1,h4,A,B,C,E,F,J]
   cases h
   trivial
/- 93:impl_ChartOk -/
def C2z:X3:= .seq (.reg [(L,.keep [1,20,21,22] [1] [])]) (.seq (.reg [bn 23 .lss 22 21]) (.seq (.cond (S 23) .skip (.exit 0)) (.seq (.block 1 (.seq (.reg [mv 24 22,ia 25 20 22 2,lw 26 25 2,(L,.alloc 4 [aS [],aB G]),mv 3 24,so 4 26 2]) (.seq (.reg [fa 27 4 0,ld 28 27,ca 29 186 [S 28],nt 30 29,mv 31 30,(H (31,G),.load 32 (S 1) T 2),(H (31,G),.faddr 33 (S 4) 0),(H (31,G),.load 34 (S 33) G 1),(H (31,G),.call 35 187 [(S 32),(S 34)]),(H (31,G),.mv 36 (S 3)),(H (31,G),.bin 37 .neq (S 35) (S 36)),po 38 31 37]) (.cond (S 38) (.seq (.reg [(L,.mv 2 (KB G))]) .ret) .skip)))) (.reg [(L,.bin 39 .add (S 22) (K 1)),mv 22 39]))))
def C2j:X3:= .seq (.reg [(L,.keep [1,6,41,42,43,86,87,88] [1,6] [])]) (.seq (.reg [bn 89 .lss 88 87]) (.seq (.cond (S 89) .skip (.exit 4)) (.seq (.block 5 (.seq (.reg [ia 90 86 88 5,lw 91 90 5,(L,.alloc 8 [aI 0,aI 0,aI 0,aI 0,aB G]),so 8 91 5]) (.seq (.reg [lw 92 8 5,fa 93 6 0,ld 94 93,fa 95 6 1,ld 96 95,ca 97 188 [S 92,S 94,S 96]]) (.cond (S 97) (.seq (.reg [(L,.mv 2 (KB G))]) .ret) .skip)))) (.reg [(L,.bin 98 .add (S 88) (K 1)),mv 88 98]))))
def C8i:X3:=(.reg [(L,.bin 99 .add (S 43) (K 1)),mv 43 99])
def B4x:X3:= .seq (.reg [(L,.keep [1,41,42,43] [1] [])]) (.seq (.reg [bn 44 .lss 43 42]) (.seq (.cond (S 44) .skip (.exit 2)) (.seq (.block 3 (.seq (.reg [mv 45 43,ia 46 41 43 5,lw 47 46 5,(L,.alloc 6 [aI 0,aI 0,aI 0,aI 0,aB G]),mv 5 45,so 6 47 5]) (.seq (.seq (.reg [fa 48 6 0,ld 49 48,fa 50 1 0,ld 51 50,ln 52 51,ca 53 94 [S 49,S 52],nt 54 53,mv 55 54,(H (55,G),.faddr 56 (S 6) 1),(H (55,G),.load 57 (S 56) G 1),(H (55,G),.faddr 58 (S 1) 0),(H (55,G),.load 59 (S 58) G 1),(H (55,G),.len 60 (S 59)),(H (55,G),.call 61 94 [(S 57),(S 60)]),(H (55,G),.un 62 .not (S 61)),po 63 55 62,mv 64 63,(H (64,G),.faddr 65 (S 6) 0),(H (64,G),.load 66 (S 65) G 1),(H (64,G),.faddr 67 (S 6) 1),(H (64,G),.load 68 (S 67) G 1),(H (64,G),.bin 69 .eql (S 66) (S 68)),po 70 64 69,mv 71 70,(H (71,G),.faddr 72 (S 6) 2),(H (71,G),.load 73 (S 72) G 1),(H (71,G),.call 74 114 [(S 73),(K 0),(K 3000)]),(H (71,G),.un 75 .not (S 74)),po 76 71 75,mv 77 76,(H (77,G),.faddr 78 (S 6) 3),(H (77,G),.load 79 (S 78) G 1),(H (77,G),.call 80 114 [(S 79),(K 1),(K 240)]),(H (77,G),.un 81 .not (S 80)),po 82 77 81]) (.cond (S 82) (.seq (.reg [(L,.mv 2 (KB G))]) .ret) .skip)) (.seq (.reg [fa 83 1 1,ld 84 83,mv 85 5,(L,.slc 86 5 (S 84) L (H (S 85)) L),ln 87 86,(L,.mv 88 (K 0))]) (.block 4 (.loop C2j)))))) C8i)))
def B71:X3:=(.seq (.reg [(L,.mv 2 (KB T))]) .ret)
def C81:X3:=(.seq (.seq (.reg [fa 40 1 1,ld 41 40,ln 42 41,(L,.mv 43 (K 0))]) (.block 2 (.loop B4x))) B71)
def cc140:X3:=(.seq (.reg [bo 1 0,(L,.mv 2 (KB G))]) (.seq (.seq (.reg [fa 9 1 0,ld 10 9,ln 11 10,(L,.bin 12 .gtr (S 11) (K 8)),mv 13 12,(H (13,G),.faddr 14 (S 1) 1),(H (13,G),.load 15 (S 14) G 1),(H (13,G),.len 16 (S 15)),(H (13,G),.bin 17 .gtr (S 16) (K 10)),po 18 13 17]) (.cond (S 18) (.seq (.reg [(L,.mv 2 (KB G))]) .ret) .skip)) (.seq (.seq (.reg [fa 19 1 0,ld 20 19,ln 21 20,(L,.mv 22 (K 0))]) (.block 0 (.loop C2z))) C81)))
theorem E86(a0:X7)(v11:P)(x13:X2)(y24:N X2)(y25:P)(A2r:P→O Q)(B5g:∀(v11:P) zr,A2r v11=H zr→∀σ:St,σ.kept [1,41,42,43] [1] []=⟨[(1,vc (.pb 1 0)),(41,vc (aL (X X2.row a0.Segments))),(42,vc (aI (a0.Segments.length:P))),(43,vc (aI v11))],[(1,(dm a0.row))],[]⟩→go Y (.code (.loop B4x):: [.blk 2,.code B71]) (Ret [2] [.sc (.v (.bool zr))]) .normal (H σ)):∀(n:U) (v26:P) (r:Q),V7 a0 v11 x13 y24 y25 A2r n v26=H r→∀σ:St,σ.kept [1,6,41,42,43,86,87,88] [1,6] []=⟨[(1,vc (.pb 1 0)),(6,vc (.pb 6 0)),(41,vc (aL (X X2.row a0.Segments))),(42,vc (aI (a0.Segments.length:P))),(43,vc (aI v11)),(86,vc (aL (X X2.row y24))),(87,vc (aI y25)),(88,vc (aI v26))],[(1,(dm a0.row)),(6,(dm x13.row))],[]⟩→go Y (.code (.loop C2j):: [.blk 4,.blk 3,.code C8i,.code (.loop B4x),.blk 2,.code B71]) (Ret [2] [.sc (.v (.bool r))]) .normal (H σ):=by
 intro n
 induction n with
 | zero=>intro _ r h; cases h
 | succ n ih=>
  intro v26 r h σ hσ
  rw[V7] at h
  refine B8 ?_
  rcases ic h with ⟨h27,h⟩|⟨h27,h⟩
  ·obtain⟨x28,h28,h⟩:=ob h
   try simp only[hσ,h27,h28,C2j,A,B,C,E,F,J]
   refine D1 W W ?_
   obtain⟨r29,h29,h⟩:=ob h
   try simp only[h27,h28,A,B,C,E,F,J]
   refine A2 (B2l _ _ _ _ h29) W W (uf W) ?_
   rcases ic h with ⟨h30,h⟩|⟨h30,h⟩
   ·try simp only[h27,h28,h30,A,B,C,E,F,J]
    cases h
    trivial
   ·try simp only[h27,h28,h30,A,B,C,E,F,J]
    refine ih _ _ h _ ?_
    try simp only[h27,h28,h30,A,B,C,E,F,J,Z]
  ·try simp only[hσ,h27,C2j,C8i,A,B,C,E,F,J]
   refine B5g _ _ h _ ?_
   try simp only[h27,A,B,C,E,F,J,Z]
theorem E63(a0:X7):∀(n:U) (v11:P) (r:Q),K5 a0 n v11=H r→∀σ:St,σ.kept [1,41,42,43] [1] []=⟨[(1,vc (.pb 1 0)),(41,vc (aL (X X2.row a0.Segments))),(42,vc (aI (a0.Segments.length:P))),(43,vc (aI v11))],[(1,(dm a0.row))],[]⟩→go Y (.code (.loop B4x):: [.blk 2,.code B71]) (Ret [2] [.sc (.v (.bool r))]) .normal (H σ):=by
 intro n
 induction n with
 | zero=>intro _ r h; cases h
 | succ n ih=>
  intro v11 r h σ hσ
  rw[K5] at h
  refine B8 ?_
  rcases ic h with ⟨h12,h⟩|⟨h12,h⟩
  ·obtain⟨x13,h13,h⟩:=ob h
   try simp only[hσ,h12,h13,B4x,A,B,C,E,F,J]
   refine D1 W W ?_
   obtain⟨r14,h14,h⟩:=ob h
   try simp only[h12,h13,A,B,C,E,F,J]
   refine A2 (E1 _ _ _ h14) W W (uf W) ?_
   rcases ic h with ⟨h15,h⟩|⟨h15,h⟩
   ·obtain⟨r16,h16,h⟩:=ob h
    try simp only[h12,h13,h15,A,B,C,E,F,J]
    refine A2 (E1 _ _ _ h16) W W (uf W) ?_
    rcases ic h with ⟨h17,h⟩|⟨h17,h⟩
    ·rcases ic h with ⟨h18,h⟩|⟨h18,h⟩
     ·try simp only[h12,h13,h15,h17,h18,A,B,C,E,F,J]
      cases h
      trivial
     ·obtain⟨r19,h19,h⟩:=ob h
      try simp only[h12,h13,h15,h17,h18,A,B,C,E,F,J]
      refine A2 (G0 _ _ _ _ h19) W W (uf W) ?_
      rcases ic h with ⟨h20,h⟩|⟨h20,h⟩
      ·obtain⟨r21,h21,h⟩:=ob h
       try simp only[h12,h13,h15,h17,h18,h20,A,B,C,E,F,J]
       refine A2 (G0 _ _ _ _ h21) W W (uf W) ?_
       rcases ic h with ⟨h22,h⟩|⟨h22,h⟩
       ·obtain⟨p23,h23,h⟩:=ob h
        try simp only[h12,h13,h15,h17,h18,h20,h22,h23,A,B,C,E,F,J]
        refine E86 _ _ _ _ _ (K5 a0 n) ih _ _ _ h _ ?_
        try simp only[h12,h13,h15,h17,h18,h20,h22,h23,A,B,C,E,F,J,Z]
       ·try simp only[h12,h13,h15,h17,h18,h20,h22,A,B,C,E,F,J]
        cases h
        trivial
      ·try simp only[h12,h13,h15,h17,h18,h20,A,B,C,E,F,J]
       cases h
       trivial
    ·try simp only[h12,h13,h15,h17,A,B,C,E,F,J]
     cases h
     trivial
   ·try simp only[h12,h13,h15,A,B,C,E,F,J]
    cases h
    trivial
  ·try simp only[hσ,h12,B4x,B71,A,B,C,E,F,J]
   cases h
   trivial
theorem F0c(a0:X7):∀(n:U) (v3:P) (r:Q),V6 a0 n v3=H r→∀σ:St,σ.kept [1,20,21,22] [1] []=⟨[(1,vc (.pb 1 0)),(20,vc (aL (X zA a0.Points))),(21,vc (aI (a0.Points.length:P))),(22,vc (aI v3))],[(1,(dm a0.row))],[]⟩→go Y (.code (.loop C2z):: [.blk 0,.code C81]) (Ret [2] [.sc (.v (.bool r))]) .normal (H σ):=by
 intro n
 induction n with
 | zero=>intro _ r h; cases h
 | succ n ih=>
  intro v3 r h σ hσ
  rw[V6] at h
  refine B8 ?_
  rcases ic h with ⟨h4,h⟩|⟨h4,h⟩
  ·obtain⟨x5,h5,h⟩:=ob h
   try simp only[hσ,h4,h5,C2z,A,B,C,E,F,J]
   refine D1 W W ?_
   obtain⟨r6,h6,h⟩:=ob h
   try simp only[h4,h5,A,B,C,E,F,J]
   refine A2 (B2x _ _ h6) W W (uf W) ?_
   rcases ic h with ⟨h7,h⟩|⟨h7,h⟩
   ·obtain⟨r9,h9,h⟩:=ob h
    try simp only[h4,h5,h7,A,B,C,E,F,J]
    refine A2 (B5f _ _ _ h9) W W (uf W) ?_
    rcases ic h with ⟨h10,h⟩|⟨h10,h⟩
    ·try simp only[h4,h5,h7,h10,A,B,C,E,F,J]
     cases h
     trivial
    ·try simp only[h4,h5,h7,h10,A,B,C,E,F,J]
     refine ih _ _ h _ ?_
     try simp only[h4,h5,h7,h10,A,B,C,E,F,J,Z]
   ·try simp only[h4,h5,h7,A,B,C,E,F,J]
    cases h
    trivial
  ·try simp only[hσ,h4,C2z,C81,A,B,C,E,F,J]
   refine E63 _ _ _ _ h _ ?_
   try simp only[h4,A,B,C,E,F,J,Z]
theorem E96:A6 Y 93=H (cc140.strip,[2],100):=by kernel_rfl
theorem W5(a0:X7)(r:Q)(h:L7 a0=H r):FC Y 93 [.ag (X7.row a0)] [.sc (.v (.bool r))]:=by
 unfold L7 at h
 refine C8 B0 E96 W ?_
 simp only[cc140,A,B,C,E,F,J]
 try simp only[A,B,C,E,F,J]
 refine B3 W W W ?_
 rcases ic h with ⟨h1,h⟩|⟨h1,h⟩
 ·try simp only[h1,A,B,C,E,F,J]
  cases h
  trivial
 ·rcases ic h with ⟨h2,h⟩|⟨h2,h⟩
  ·try simp only[h1,h2,A,B,C,E,F,J]
   cases h
   trivial
  ·try simp only[h1,h2,A,B,C,E,F,J]
   refine F0c _ _ _ _ h _ ?_
   try simp only[h1,h2,A,B,C,E,F,J,Z]
/- 266:impl_ShipOk -/
def cc145:X3:=(.seq (.reg [bo 1 0,(L,.mv 2 (KB G))]) (.seq (.reg [fa 3 1 0,ld 4 3,ca 5 186 [S 4],mv 6 5,(H (6,T),.faddr 7 (S 1) 1),(H (6,T),.load 8 (S 7) G 1),(H (6,T),.call 9 114 [(S 8),(K 10),(K 400)]),pa 10 6 9,mv 11 10,(H (11,T),.faddr 12 (S 1) 2),(H (11,T),.load 13 (S 12) G 1),(H (11,T),.call 14 114 [(S 13),(K 100),(K 2000)]),pa 15 11 14,mv 16 15,(H (16,T),.faddr 17 (S 1) 3),(H (16,T),.load 18 (S 17) G 1),(H (16,T),.call 19 94 [(S 18),(K 4)]),pa 20 16 19,mv 21 20,(H (21,T),.faddr 22 (S 1) 4),(H (21,T),.load 23 (S 22) G 1),(H (21,T),.call 24 114 [(S 23),(K 0),(K 4)]),pa 25 21 24,mv 2 25]) .ret))
theorem F1h:A6 Y 266=H (cc145.strip,[2],26):=by kernel_rfl
theorem A2y(a0:Xa)(r:Q)(h:S9 a0=H r):FC Y 266 [.ag (zE a0)] [.sc (.v (.bool r))]:=by
 unfold S9 at h
 refine C8 B0 F1h W ?_
 simp only[cc145,A,B,C,E,F,J]
 try simp only[A,B,C,E,F,J]
 refine B3 W W W ?_
 obtain⟨r1,h1,h⟩:=ob h
 try simp only[A,B,C,E,F,J]
 refine A2 (B2x _ _ h1) W W (uf W) ?_
 rcases ic h with ⟨h2,h⟩|⟨h2,h⟩
 ·obtain⟨r3,h3,h⟩:=ob h
  try simp only[h2,A,B,C,E,F,J]
  refine A2 (G0 _ _ _ _ h3) W W (uf W) ?_
  rcases ic h with ⟨h4,h⟩|⟨h4,h⟩
  ·obtain⟨r5,h5,h⟩:=ob h
   try simp only[h2,h4,A,B,C,E,F,J]
   refine A2 (G0 _ _ _ _ h5) W W (uf W) ?_
   rcases ic h with ⟨h6,h⟩|⟨h6,h⟩
   ·obtain⟨r7,h7,h⟩:=ob h
    try simp only[h2,h4,h6,A,B,C,E,F,J]
    refine A2 (E1 _ _ _ h7) W W (uf W) ?_
    rcases ic h with ⟨h8,h⟩|⟨h8,h⟩
    ·obtain⟨r9,h9,h⟩:=ob h
     try simp only[h2,h4,h6,h8,A,B,C,E,F,J]
     refine A2 (G0 _ _ _ _ h9) W W (uf W) ?_
     try simp only[h2,h4,h6,h8,A,B,C,E,F,J]
     cases h
     trivial
    ·try simp only[h2,h4,h6,h8,A,B,C,E,F,J]
     cases h
     trivial
   ·try simp only[h2,h4,h6,A,B,C,E,F,J]
    cases h
    trivial
  ·try simp only[h2,h4,A,B,C,E,F,J]
   cases h
   trivial
 ·try simp only[h2,A,B,C,E,F,J]
  cases h
  trivial
/- 267:impl_ShipNamed -/
def C1w:X3:= .seq (.reg [(L,.keep [1,7,8,9] [] [])]) (.seq (.reg [bn 10 .lss 9 8]) (.seq (.cond (S 10) .skip (.exit 0)) (.seq (.block 1 (.seq (.reg [mv 11 9,ia 12 7 9 6,lw 13 12 6,(L,.alloc 6 [aS [],aI 0,aI 0,aI 0,aI 0,aB G]),mv 5 11,so 6 13 6]) (.seq (.reg [fa 14 6 0,ld 15 14,mv 16 1,bn 17 .eql 15 16]) (.cond (S 17) (.seq (.reg [mv 18 5,mv 4 18]) .ret) .skip)))) (.reg [(L,.bin 19 .add (S 9) (K 1)),mv 9 19]))))
def D0w:X3:=(.seq (.reg [(L,.mv 4 (K (-1)))]) .ret)
def cc149:X3:=(.seq (.reg [(L,.mv 4 (K 0))]) (.seq (.seq (.reg [mv 7 0,ln 8 7,(L,.mv 9 (K 0))]) (.block 0 (.loop C1w))) D0w))
theorem E6m(a1:N V)(a0:N Xa):∀(n:U) (v1 r:P),S6 a1 a0 n v1=H r→∀σ:St,σ.kept [1,7,8,9] [] []=⟨[(1,vc (aS a1)),(7,vc (aL (X zE a0))),(8,vc (aI (a0.length:P))),(9,vc (aI v1))],[],[]⟩→go Y (.code (.loop C1w):: [.blk 0,.code D0w]) (Ret [4] [.sc (.v (.int .i64 r))]) .normal (H σ):=by
 intro n
 induction n with
 | zero=>intro _ r h; cases h
 | succ n ih=>
  intro v1 r h σ hσ
  rw[S6] at h
  refine B8 ?_
  rcases ic h with ⟨h2,h⟩|⟨h2,h⟩
  ·obtain⟨x3,h3,h⟩:=ob h
   try simp only[hσ,h2,h3,C1w,A,B,C,E,F,J]
   refine D1 W W ?_
   rcases ic h with ⟨h4,h⟩|⟨h4,h⟩
   ·try simp only[h2,h3,h4,A,B,C,E,F,J]
    cases h
    trivial
   ·try simp only[h2,h3,h4,A,B,C,E,F,J]
    refine ih _ _ h _ ?_
    try simp only[h2,h3,h4,A,B,C,E,F,J,Z]
  ·try simp only[hσ,h2,C1w,D0w,A,B,C,E,F,J]
   cases h
   trivial
theorem F2c:A6 Y 267=H (cc149.strip,[4],20):=by kernel_rfl
theorem B6c(a0:N Xa)(a1:N V)(r:P)(h:A2p a0 a1=H r):FC Y 267 [.sc (.sl (X zE a0)),.sc (.str a1)] [.sc (.v (.int .i64 r))]:=by
 unfold A2p at h
 refine C8 B0 F2c W ?_
 simp only[cc149,A,B,C,E,F,J]
 try simp only[A,B,C,E,F,J]
 refine E6m _ _ _ _ _ h _ ?_
 try simp only[A,B,C,E,F,J,Z]
/- 183:impl_FleetOk -/
def C29:X3:= .seq (.reg [(L,.keep [0,8,9,10] [] [])]) (.seq (.reg [bn 11 .lss 10 9]) (.seq (.cond (S 11) .skip (.exit 0)) (.seq (.block 1 (.seq (.reg [mv 12 10,ia 13 8 10 6,lw 14 13 6,(L,.alloc 4 [aS [],aI 0,aI 0,aI 0,aI 0,aB G]),mv 3 12,so 4 14 6]) (.seq (.reg [lw 15 4 6,ca 16 266 [S 15],nt 17 16,mv 18 17,(H (18,G),.mv 19 (S 0)),(H (18,G),.faddr 20 (S 4) 0),(H (18,G),.load 21 (S 20) G 1),(H (18,G),.call 22 267 [(S 19),(S 21)]),(H (18,G),.mv 23 (S 3)),(H (18,G),.bin 24 .neq (S 22) (S 23)),po 25 18 24]) (.cond (S 25) (.seq (.reg [(L,.mv 2 (KB G))]) .ret) .skip)))) (.reg [(L,.bin 26 .add (S 10) (K 1)),mv 10 26]))))
def D05:X3:=(.seq (.reg [(L,.mv 2 (KB T))]) .ret)
def cc154:X3:=(.seq (.reg [(L,.mv 2 (KB G))]) (.seq (.seq (.reg [mv 5 0,ln 6 5,(L,.bin 7 .gtr (S 6) (K 6))]) (.cond (S 7) (.seq (.reg [(L,.mv 2 (KB G))]) .ret) .skip)) (.seq (.seq (.reg [mv 8 0,ln 9 8,(L,.mv 10 (K 0))]) (.block 0 (.loop C29))) D05)))
theorem F0n(a0:N Xa):∀(n:U) (v2:P) (r:Q),V8 a0 n v2=H r→∀σ:St,σ.kept [0,8,9,10] [] []=⟨[(0,vc (aL (X zE a0))),(8,vc (aL (X zE a0))),(9,vc (aI (a0.length:P))),(10,vc (aI v2))],[],[]⟩→go Y (.code (.loop C29):: [.blk 0,.code D05]) (Ret [2] [.sc (.v (.bool r))]) .normal (H σ):=by
 intro n
 induction n with
 | zero=>intro _ r h; cases h
 | succ n ih=>
  intro v2 r h σ hσ
  rw[V8] at h
  refine B8 ?_
  rcases ic h with ⟨h3,h⟩|⟨h3,h⟩
  ·obtain⟨x4,h4,h⟩:=ob h
   try simp only[hσ,h3,h4,C29,A,B,C,E,F,J]
   refine D1 W W ?_
   obtain⟨r5,h5,h⟩:=ob h
   try simp only[h3,h4,A,B,C,E,F,J]
   refine A2 (A2y _ _ h5) W W (uf W) ?_
   rcases ic h with ⟨h6,h⟩|⟨h6,h⟩
   ·obtain⟨r7,h7,h⟩:=ob h
    try simp only[h3,h4,h6,A,B,C,E,F,J]
    refine A2 (B6c _ _ _ h7) W W (uf W) ?_
    rcases ic h with ⟨h8,h⟩|⟨h8,h⟩
    ·try simp only[h3,h4,h6,h8,A,B,C,E,F,J]
     cases h
     trivial
    ·try simp only[h3,h4,h6,h8,A,B,C,E,F,J]
     refine ih _ _ h _ ?_
     try simp only[h3,h4,h6,h8,A,B,C,E,F,J,Z]
   ·try simp only[h3,h4,h6,A,B,C,E,F,J]
    cases h
    trivial
  ·try simp only[hσ,h3,C29,D05,A,B,C,E,F,J]
   cases h
   trivial
theorem E7t:A6 Y 183=H (cc154.strip,[2],27):=by kernel_rfl
theorem B1p(a0:N Xa)(r:Q)(h:A12 a0=H r):FC Y 183 [.sc (.sl (X zE a0))] [.sc (.v (.bool r))]:=by
 unfold A12 at h
 refine C8 B0 E7t W ?_
 simp only[cc154,A,B,C,E,F,J]
 rcases ic h with ⟨h1,h⟩|⟨h1,h⟩
 ·try simp only[h1,A,B,C,E,F,J]
  cases h
  trivial
 ·try simp only[h1,A,B,C,E,F,J]
  refine F0n _ _ _ _ h _ ?_
  try simp only[h1,A,B,C,E,F,J,Z]
/- 184:impl_RegimeOk -/
def cc157:X3:=(.seq (.reg [bo 1 0,(L,.mv 2 (KB G))]) (.seq (.reg [fa 3 1 0,ld 4 3,ca 5 114 [S 4,K 0,K 60],mv 2 5]) .ret))
theorem F1k:A6 Y 184=H (cc157.strip,[2],6):=by kernel_rfl
theorem B8w(a0:Xk)(r:Q)(h:A5e a0=H r):FC Y 184 [.ag (Xk.row a0)] [.sc (.v (.bool r))]:=by
 unfold A5e at h
 refine C8 B0 F1k W ?_
 simp only[cc157,A,B,C,E,F,J]
 try simp only[A,B,C,E,F,J]
 refine B3 W W W ?_
 obtain⟨r1,h1,h⟩:=ob h
 try simp only[A,B,C,E,F,J]
 refine A2 (G0 _ _ _ _ h1) W W (uf W) ?_
 try simp only[A,B,C,E,F,J]
 cases h
 trivial
/- 268:impl_movesOk -/
def C2l:X3:= .seq (.reg [(L,.keep [8,9,10] [] [])]) (.seq (.reg [bn 11 .lss 10 9]) (.seq (.cond (S 11) .skip (.exit 0)) (.seq (.block 1 (.seq (.reg [ia 12 8 10 1,ld 13 12,mv 4 13]) (.seq (.reg [mv 14 4,ca 15 114 [S 14,K 0,K 240],nt 16 15]) (.cond (S 16) (.seq (.reg [(L,.mv 2 (KB G))]) .ret) .skip)))) (.reg [(L,.bin 17 .add (S 10) (K 1)),mv 10 17]))))
def C9y:X3:=(.seq (.reg [(L,.mv 2 (KB T))]) .ret)
def cc161:X3:=(.seq (.reg [(L,.mv 2 (KB G))]) (.seq (.seq (.reg [mv 5 0,ln 6 5,(L,.bin 7 .neq (S 6) (K 64))]) (.cond (S 7) (.seq (.reg [(L,.mv 2 (KB G))]) .ret) .skip)) (.seq (.seq (.reg [mv 8 0,ln 9 8,(L,.mv 10 (K 0))]) (.block 0 (.loop C2l))) C9y)))
theorem F1r(a0:N P):∀(n:U) (v2:P) (r:Q),R9 a0 n v2=H r→∀σ:St,σ.kept [8,9,10] [] []=⟨[(8,vc (aL (X rI a0))),(9,vc (aI (a0.length:P))),(10,vc (aI v2))],[],[]⟩→go Y (.code (.loop C2l):: [.blk 0,.code C9y]) (Ret [2] [.sc (.v (.bool r))]) .normal (H σ):=by
 intro n
 induction n with
 | zero=>intro _ r h; cases h
 | succ n ih=>
  intro v2 r h σ hσ
  rw[R9] at h
  refine B8 ?_
  rcases ic h with ⟨h3,h⟩|⟨h3,h⟩
  ·obtain⟨x4,h4,h⟩:=ob h
   obtain⟨r5,h5,h⟩:=ob h
   try simp only[hσ,h3,h4,C2l,A,B,C,E,F,J]
   refine A2 (G0 _ _ _ _ h5) W W (uf W) ?_
   rcases ic h with ⟨h6,h⟩|⟨h6,h⟩
   ·try simp only[h3,h4,h6,A,B,C,E,F,J]
    refine ih _ _ h _ ?_
    try simp only[h3,h4,h6,A,B,C,E,F,J,Z]
   ·try simp only[h3,h4,h6,A,B,C,E,F,J]
    cases h
    trivial
  ·try simp only[hσ,h3,C2l,C9y,A,B,C,E,F,J]
   cases h
   trivial
theorem E8t:A6 Y 268=H (cc161.strip,[2],18):=by kernel_rfl
theorem A7p(a0:N P)(r:Q)(h:W4 a0=H r):FC Y 268 [.sc (.sl (X rI a0))] [.sc (.v (.bool r))]:=by
 unfold W4 at h
 refine C8 B0 E8t W ?_
 simp only[cc161,A,B,C,E,F,J]
 rcases ic h with ⟨h1,h⟩|⟨h1,h⟩
 ·try simp only[h1,A,B,C,E,F,J]
  cases h
  trivial
 ·try simp only[h1,A,B,C,E,F,J]
  refine F1r _ _ _ _ h _ ?_
  try simp only[h1,A,B,C,E,F,J,Z]
/- 185:impl_CrewOk -/
def cc164:X3:=(.seq (.reg [bo 1 0,(L,.mv 2 (KB G))]) (.seq (.reg [fa 3 1 0,ld 4 3,ca 5 114 [S 4,K 0,K 12],mv 6 5,(H (6,T),.faddr 7 (S 1) 1),(H (6,T),.load 8 (S 7) G 1),(H (6,T),.call 9 114 [(S 8),(K 0),(K 12)]),pa 10 6 9,mv 11 10,(H (11,T),.faddr 12 (S 1) 2),(H (11,T),.load 13 (S 12) G 1),(H (11,T),.call 14 117 [(S 13)]),pa 15 11 14,mv 16 15,(H (16,T),.faddr 17 (S 1) 3),(H (16,T),.load 18 (S 17) G 1),(H (16,T),.call 19 268 [(S 18)]),pa 20 16 19,mv 2 20]) .ret))
theorem E9k:A6 Y 185=H (cc164.strip,[2],21):=by kernel_rfl
theorem C1n(a0:Xo)(r:Q)(h:A4y a0=H r):FC Y 185 [.ag (Xo.row a0)] [.sc (.v (.bool r))]:=by
 unfold A4y at h
 refine C8 B0 E9k W ?_
 simp only[cc164,A,B,C,E,F,J]
 try simp only[A,B,C,E,F,J]
 refine B3 W W W ?_
 obtain⟨r1,h1,h⟩:=ob h
 try simp only[A,B,C,E,F,J]
 refine A2 (G0 _ _ _ _ h1) W W (uf W) ?_
 rcases ic h with ⟨h2,h⟩|⟨h2,h⟩
 ·obtain⟨r3,h3,h⟩:=ob h
  try simp only[h2,A,B,C,E,F,J]
  refine A2 (G0 _ _ _ _ h3) W W (uf W) ?_
  rcases ic h with ⟨h4,h⟩|⟨h4,h⟩
  ·obtain⟨r5,h5,h⟩:=ob h
   try simp only[h2,h4,A,B,C,E,F,J]
   refine A2 (R5 _ _ h5) W W (uf W) ?_
   rcases ic h with ⟨h6,h⟩|⟨h6,h⟩
   ·obtain⟨r7,h7,h⟩:=ob h
    try simp only[h2,h4,h6,A,B,C,E,F,J]
    refine A2 (A7p _ _ h7) W W (uf W) ?_
    try simp only[h2,h4,h6,A,B,C,E,F,J]
    cases h
    trivial
   ·try simp only[h2,h4,h6,A,B,C,E,F,J]
    cases h
    trivial
  ·try simp only[h2,h4,A,B,C,E,F,J]
   cases h
   trivial
 ·try simp only[h2,A,B,C,E,F,J]
  cases h
  trivial
/- 91:impl_HarbourOk -/
def cc166:X3:=(.seq (.reg [bo 1 0,(L,.mv 2 (KB G))]) (.seq (.reg [fa 3 1 0,lw 4 3 3,ca 5 116 [S 4],mv 6 5,(H (6,T),.faddr 7 (S 1) 3),(H (6,T),.load 8 (S 7) T 2),(H (6,T),.call 9 93 [(S 8)]),pa 10 6 9,mv 11 10,(H (11,T),.faddr 12 (S 1) 5),(H (11,T),.load 13 (S 12) G 1),(H (11,T),.call 14 183 [(S 13)]),pa 15 11 14,mv 16 15,(H (16,T),.faddr 17 (S 1) 6),(H (16,T),.load 18 (S 17) T 2),(H (16,T),.call 19 184 [(S 18)]),pa 20 16 19,mv 21 20,(H (21,T),.faddr 22 (S 1) 8),(H (21,T),.load 23 (S 22) T 4),(H (21,T),.call 24 185 [(S 23)]),pa 25 21 24,mv 2 25]) .ret))
theorem F3b:A6 Y 91=H (cc166.strip,[2],26):=by kernel_rfl
theorem A91(a0:X4)(r:Q)(h:A0w a0=H r):FC Y 91 [.ag (X4.row a0)] [.sc (.v (.bool r))]:=by
 unfold A0w at h
 refine C8 B0 F3b W ?_
 simp only[cc166,A,B,C,E,F,J]
 try simp only[A,B,C,E,F,J]
 refine B3 W W W ?_
 obtain⟨r1,h1,h⟩:=ob h
 try simp only[A,B,C,E,F,J]
 refine A2 (A3w _ _ h1) W W (uf W) ?_
 rcases ic h with ⟨h2,h⟩|⟨h2,h⟩
 ·obtain⟨r3,h3,h⟩:=ob h
  try simp only[h2,A,B,C,E,F,J]
  refine A2 (W5 _ _ h3) W W (uf W) ?_
  rcases ic h with ⟨h4,h⟩|⟨h4,h⟩
  ·obtain⟨r5,h5,h⟩:=ob h
   try simp only[h2,h4,A,B,C,E,F,J]
   refine A2 (B1p _ _ h5) W W (uf W) ?_
   rcases ic h with ⟨h6,h⟩|⟨h6,h⟩
   ·obtain⟨r7,h7,h⟩:=ob h
    try simp only[h2,h4,h6,A,B,C,E,F,J]
    refine A2 (B8w _ _ h7) W W (uf W) ?_
    rcases ic h with ⟨h8,h⟩|⟨h8,h⟩
    ·obtain⟨r9,h9,h⟩:=ob h
     try simp only[h2,h4,h6,h8,A,B,C,E,F,J]
     refine A2 (C1n _ _ h9) W W (uf W) ?_
     try simp only[h2,h4,h6,h8,A,B,C,E,F,J]
     cases h
     trivial
    ·try simp only[h2,h4,h6,h8,A,B,C,E,F,J]
     cases h
     trivial
   ·try simp only[h2,h4,h6,A,B,C,E,F,J]
    cases h
    trivial
  ·try simp only[h2,h4,A,B,C,E,F,J]
   cases h
   trivial
 ·try simp only[h2,A,B,C,E,F,J]
  cases h
  trivial
/- 92:impl_callOk -/
def cc168:X3:=(.seq (.reg [bo 2 0,bo 3 1,(L,.mv 4 (KB G))]) (.seq (.reg [fa 6 2 3,fa 7 6 0,ld 8 7,ln 9 8,mv 5 9]) (.seq (.reg [fa 10 3 0,ld 11 10,fa 12 2 5,ld 13 12,ln 14 13,ca 15 94 [S 11,S 14],mv 16 15,(H (16,T),.faddr 17 (S 3) 1),(H (16,T),.load 18 (S 17) G 1),(H (16,T),.mv 19 (S 5)),(H (16,T),.call 20 94 [(S 18),(S 19)]),pa 21 16 20,mv 22 21,(H (22,T),.faddr 23 (S 3) 2),(H (22,T),.load 24 (S 23) G 1),(H (22,T),.mv 25 (S 5)),(H (22,T),.call 26 94 [(S 24),(S 25)]),pa 27 22 26,mv 28 27,(H (28,T),.faddr 29 (S 3) 1),(H (28,T),.load 30 (S 29) G 1),(H (28,T),.faddr 31 (S 3) 2),(H (28,T),.load 32 (S 31) G 1),(H (28,T),.bin 33 .neq (S 30) (S 32)),pa 34 28 33,mv 35 34,(H (35,T),.faddr 36 (S 3) 3),(H (35,T),.load 37 (S 36) G 1),(H (35,T),.call 38 117 [(S 37)]),pa 39 35 38,mv 40 39,(H (40,T),.faddr 41 (S 3) 4),(H (40,T),.load 42 (S 41) G 1),(H (40,T),.faddr 43 (S 3) 3),(H (40,T),.load 44 (S 43) G 1),(H (40,T),.call 45 114 [(S 42),(S 44),(K 2880)]),pa 46 40 45,mv 4 46]) .ret)))
theorem F1i:A6 Y 92=H (cc168.strip,[4],47):=by kernel_rfl
theorem B2r(a0:X4)(a1:X9)(r:Q)(h:A2x a0 a1=H r):FC Y 92 [.ag (X4.row a0),.ag (X9.row a1)] [.sc (.v (.bool r))]:=by
 unfold A2x at h
 refine C8 B0 F1i W ?_
 simp only[cc168,A,B,C,E,F,J]
 try simp only[A,B,C,E,F,J]
 refine B3 W W W ?_
 try simp only[A,B,C,E,F,J]
 refine B3 W W W ?_
 obtain⟨r1,h1,h⟩:=ob h
 try simp only[A,B,C,E,F,J]
 refine A2 (E1 _ _ _ h1) W W (uf W) ?_
 rcases ic h with ⟨h2,h⟩|⟨h2,h⟩
 ·obtain⟨r3,h3,h⟩:=ob h
  try simp only[h2,A,B,C,E,F,J]
  refine A2 (E1 _ _ _ h3) W W (uf W) ?_
  rcases ic h with ⟨h4,h⟩|⟨h4,h⟩
  ·obtain⟨r5,h5,h⟩:=ob h
   try simp only[h2,h4,A,B,C,E,F,J]
   refine A2 (E1 _ _ _ h5) W W (uf W) ?_
   rcases ic h with ⟨h6,h⟩|⟨h6,h⟩
   ·rcases ic h with ⟨h7,h⟩|⟨h7,h⟩
    ·obtain⟨r9,h9,h⟩:=ob h
     try simp only[h2,h4,h6,h7,A,B,C,E,F,J]
     refine A2 (R5 _ _ h9) W W (uf W) ?_
     rcases ic h with ⟨h10,h⟩|⟨h10,h⟩
     ·obtain⟨r11,h11,h⟩:=ob h
      try simp only[h2,h4,h6,h7,h10,A,B,C,E,F,J]
      refine A2 (G0 _ _ _ _ h11) W W (uf W) ?_
      try simp only[h2,h4,h6,h7,h10,A,B,C,E,F,J]
      cases h
      trivial
     ·try simp only[h2,h4,h6,h7,h10,A,B,C,E,F,J]
      cases h
      trivial
    ·try simp only[h2,h4,h6,h7,A,B,C,E,F,J]
     cases h
     trivial
   ·try simp only[h2,h4,h6,A,B,C,E,F,J]
    cases h
    trivial
  ·try simp only[h2,h4,A,B,C,E,F,J]
   cases h
   trivial
 ·try simp only[h2,A,B,C,E,F,J]
  cases h
  trivial
/- 18:impl_CallsOk -/
def C2y:X3:= .seq (.reg [(L,.keep [1,2,6,17,18,19,30,31,32] [2,6] [])]) (.seq (.reg [bn 33 .lss 32 31]) (.seq (.cond (S 33) .skip (.exit 2)) (.seq (.block 3 (.seq (.reg [ia 34 30 32 5,lw 35 34 5,(L,.alloc 8 [aI 0,aI 0,aI 0,aI 0,aI 0]),so 8 35 5]) (.seq (.reg [fa 36 8 0,ld 37 36,fa 38 6 0,ld 39 38,bn 40 .eql 37 39]) (.cond (S 40) (.seq (.reg [(L,.mv 4 (KB G))]) .ret) .skip)))) (.reg [(L,.bin 41 .add (S 32) (K 1)),mv 32 41]))))
def D0y:X3:=(.reg [(L,.bin 42 .add (S 19) (K 1)),mv 19 42])
def B4o:X3:= .seq (.reg [(L,.keep [1,2,17,18,19] [2] [])]) (.seq (.reg [bn 20 .lss 19 18]) (.seq (.cond (S 20) .skip (.exit 0)) (.seq (.block 1 (.seq (.reg [mv 21 19,ia 22 17 19 5,lw 23 22 5,(L,.alloc 6 [aI 0,aI 0,aI 0,aI 0,aI 0]),mv 5 21,so 6 23 5]) (.seq (.seq (.reg [lw 24 2 12,lw 25 6 5,ca 26 92 [S 24,S 25],nt 27 26]) (.cond (S 27) (.seq (.reg [(L,.mv 4 (KB G))]) .ret) .skip)) (.seq (.reg [mv 28 1,mv 29 5,(L,.slc 30 5 (S 28) L (H (S 29)) L),ln 31 30,(L,.mv 32 (K 0))]) (.block 2 (.loop C2y)))))) D0y)))
def B8u:X3:=(.seq (.reg [(L,.mv 4 (KB T))]) .ret)
def cc174:X3:=(.seq (.reg [bo 2 0,(L,.mv 4 (KB G))]) (.seq (.seq (.reg [lw 9 2 12,ca 10 91 [S 9],nt 11 10,mv 12 11,(H (12,G),.mv 13 (S 1)),(H (12,G),.len 14 (S 13)),(H (12,G),.bin 15 .gtr (S 14) (K 6)),po 16 12 15]) (.cond (S 16) (.seq (.reg [(L,.mv 4 (KB G))]) .ret) .skip)) (.seq (.seq (.reg [mv 17 1,ln 18 17,(L,.mv 19 (K 0))]) (.block 0 (.loop B4o))) B8u)))
theorem F23(a1:N X9)(v4:P)(a0:X4)(x6:X9)(y10:N X9)(y11:P)(A2d:P→O Q)(B5n:∀(v4:P) zr,A2d v4=H zr→∀σ:St,σ.kept [1,2,17,18,19] [2] []=⟨[(1,vc (aL (X X9.row a1))),(2,vc (.pb 2 0)),(17,vc (aL (X X9.row a1))),(18,vc (aI (a1.length:P))),(19,vc (aI v4))],[(2,(dm a0.row))],[]⟩→go Y (.code (.loop B4o):: [.blk 0,.code B8u]) (Ret [4] [.sc (.v (.bool zr))]) .normal (H σ)):∀(n:U) (v12:P) (r:Q),V5 a1 v4 a0 x6 y10 y11 A2d n v12=H r→∀σ:St,σ.kept [1,2,6,17,18,19,30,31,32] [2,6] []=⟨[(1,vc (aL (X X9.row a1))),(2,vc (.pb 2 0)),(6,vc (.pb 6 0)),(17,vc (aL (X X9.row a1))),(18,vc (aI (a1.length:P))),(19,vc (aI v4)),(30,vc (aL (X X9.row y10))),(31,vc (aI y11)),(32,vc (aI v12))],[(2,(dm a0.row)),(6,(dm x6.row))],[]⟩→go Y (.code (.loop C2y):: [.blk 2,.blk 1,.code D0y,.code (.loop B4o),.blk 0,.code B8u]) (Ret [4] [.sc (.v (.bool r))]) .normal (H σ):=by
 intro n
 induction n with
 | zero=>intro _ r h; cases h
 | succ n ih=>
  intro v12 r h σ hσ
  rw[V5] at h
  refine B8 ?_
  rcases ic h with ⟨h13,h⟩|⟨h13,h⟩
  ·obtain⟨x14,h14,h⟩:=ob h
   try simp only[hσ,h13,h14,C2y,A,B,C,E,F,J]
   refine D1 W W ?_
   rcases ic h with ⟨h15,h⟩|⟨h15,h⟩
   ·try simp only[h13,h14,h15,A,B,C,E,F,J]
    cases h
    trivial
   ·try simp only[h13,h14,h15,A,B,C,E,F,J]
    refine ih _ _ h _ ?_
    try simp only[h13,h14,h15,A,B,C,E,F,J,Z]
  ·try simp only[hσ,h13,C2y,D0y,A,B,C,E,F,J]
   refine B5n _ _ h _ ?_
   try simp only[h13,A,B,C,E,F,J,Z]
theorem F0t(a1:N X9)(a0:X4):∀(n:U) (v4:P) (r:Q),O3 a1 a0 n v4=H r→∀σ:St,σ.kept [1,2,17,18,19] [2] []=⟨[(1,vc (aL (X X9.row a1))),(2,vc (.pb 2 0)),(17,vc (aL (X X9.row a1))),(18,vc (aI (a1.length:P))),(19,vc (aI v4))],[(2,(dm a0.row))],[]⟩→go Y (.code (.loop B4o):: [.blk 0,.code B8u]) (Ret [4] [.sc (.v (.bool r))]) .normal (H σ):=by
 intro n
 induction n with
 | zero=>intro _ r h; cases h
 | succ n ih=>
  intro v4 r h σ hσ
  rw[O3] at h
  refine B8 ?_
  rcases ic h with ⟨h5,h⟩|⟨h5,h⟩
  ·obtain⟨x6,h6,h⟩:=ob h
   try simp only[hσ,h5,h6,B4o,A,B,C,E,F,J]
   refine D1 W W ?_
   obtain⟨r7,h7,h⟩:=ob h
   try simp only[h5,h6,A,B,C,E,F,J]
   refine A2 (B2r _ _ _ h7) W W (uf W) ?_
   rcases ic h with ⟨h8,h⟩|⟨h8,h⟩
   ·obtain⟨p9,h9,h⟩:=ob h
    try simp only[h5,h6,h8,h9,A,B,C,E,F,J]
    refine F23 _ _ _ _ _ _ (O3 a1 a0 n) ih _ _ _ h _ ?_
    try simp only[h5,h6,h8,h9,A,B,C,E,F,J,Z]
   ·try simp only[h5,h6,h8,A,B,C,E,F,J]
    cases h
    trivial
  ·try simp only[hσ,h5,B4o,B8u,A,B,C,E,F,J]
   cases h
   trivial
theorem E7r:A6 Y 18=H (cc174.strip,[4],43):=by kernel_rfl
theorem A33(a0:X4)(a1:N X9)(r:Q)(h:T2 a0 a1=H r):FC Y 18 [.ag (X4.row a0),.sc (.sl (X X9.row a1))] [.sc (.v (.bool r))]:=by
 unfold T2 at h
 refine C8 B0 E7r W ?_
 simp only[cc174,A,B,C,E,F,J]
 try simp only[A,B,C,E,F,J]
 refine B3 W W W ?_
 obtain⟨r1,h1,h⟩:=ob h
 try simp only[A,B,C,E,F,J]
 refine A2 (A91 _ _ h1) W W (uf W) ?_
 rcases ic h with ⟨h2,h⟩|⟨h2,h⟩
 ·rcases ic h with ⟨h3,h⟩|⟨h3,h⟩
  ·try simp only[h2,h3,A,B,C,E,F,J]
   cases h
   trivial
  ·try simp only[h2,h3,A,B,C,E,F,J]
   refine F0t _ _ _ _ _ h _ ?_
   try simp only[h2,h3,A,B,C,E,F,J,Z]
 ·try simp only[h2,A,B,C,E,F,J]
  cases h
  trivial
/- 99:impl_CallOk -/
def cc178:X3:=(.seq (.reg [bo 2 0,bo 3 1,(L,.mv 4 (KB G))]) (.seq (.reg [lw 5 2 12,ca 6 91 [S 5],mv 7 6,(H (7,T),.load 8 (S 2) T 12),(H (7,T),.load 9 (S 3) T 5),(H (7,T),.call 10 92 [(S 8),(S 9)]),pa 11 7 10,mv 4 11]) .ret))
theorem E7b:A6 Y 99=H (cc178.strip,[4],12):=by kernel_rfl
theorem B2v(a0:X4)(a1:X9)(r:Q)(h:A2z a0 a1=H r):FC Y 99 [.ag (X4.row a0),.ag (X9.row a1)] [.sc (.v (.bool r))]:=by
 unfold A2z at h
 refine C8 B0 E7b W ?_
 simp only[cc178,A,B,C,E,F,J]
 try simp only[A,B,C,E,F,J]
 refine B3 W W W ?_
 try simp only[A,B,C,E,F,J]
 refine B3 W W W ?_
 obtain⟨r1,h1,h⟩:=ob h
 try simp only[A,B,C,E,F,J]
 refine A2 (A91 _ _ h1) W W (uf W) ?_
 rcases ic h with ⟨h2,h⟩|⟨h2,h⟩
 ·obtain⟨r3,h3,h⟩:=ob h
  try simp only[h2,A,B,C,E,F,J]
  refine A2 (B2r _ _ _ h3) W W (uf W) ?_
  try simp only[h2,A,B,C,E,F,J]
  cases h
  trivial
 ·try simp only[h2,A,B,C,E,F,J]
  cases h
  trivial
/- 121:impl_clone_int -/
def cc180:X3:=(.seq (.reg [(L,.mv 2 KN)]) (.seq (.reg [mv 3 0,ln 4 3,(L,.mksl 5 1 8 [.int .i64 0] (K 0) (S 4)),mv 6 0,(L,.app 7 1 8 (S 5) (S 6)),mv 2 7]) .ret))
theorem E6n:A6 Y 121=H (cc180.strip,[2],8):=by kernel_rfl
theorem A4t(a0:N P)(r:(N P))(h:D0 a0=H r):FC Y 121 [.sc (.sl (X rI a0))] [.sc (.o 1 (X rI r))]:=by
 unfold D0 at h
 refine C8 B0 E6n W ?_
 simp only[cc180,A,B,C,E,F,J]
 obtain⟨n1,hn1,h⟩:=ob h
 try simp only[A,B,C,E,F,J]
 refine B1f (es:=X rI (List.replicate n1 (0:P))) W W hn1 W (A6v W) W ?_
 obtain⟨h2,h⟩:=D7 h
 try simp only[h2,A,B,C,E,F,J]
 cases h
 trivial
/- 327:impl_Segment_end -/
def cc182:X3:=(.seq (.reg [bo 2 0,(L,.mv 4 (K 0))]) (.seq (.seq (.reg [mv 5 1]) (.block 0 (.seq (.reg [fa 7 2 0,ld 8 7,bn 9 .eql 5 8,mv 6 9]) (.cond (S 6) (.seq (.reg [fa 10 2 1,ld 11 10,mv 4 11]) .ret) (.seq (.reg [fa 13 2 1,ld 14 13,bn 15 .eql 5 14,mv 12 15]) (.cond (S 12) (.seq (.reg [fa 16 2 0,ld 17 16,mv 4 17]) .ret) .skip)))))) (.seq (.reg [(L,.mv 4 (K (-1)))]) .ret)))
theorem F1a:A6 Y 327=H (cc182.strip,[4],18):=by kernel_rfl
theorem A79(a0:X2)(a1 r:P)(h:W8 a0 a1=H r):FC Y 327 [.ag (X2.row a0),.sc (.int .i64 a1)] [.sc (.v (.int .i64 r))]:=by
 unfold W8 at h
 refine C8 B0 F1a W ?_
 simp only[cc182,A,B,C,E,F,J]
 try simp only[A,B,C,E,F,J]
 refine B3 W W W ?_
 rcases ic h with ⟨h1,h⟩|⟨h1,h⟩
 ·try simp only[h1,A,B,C,E,F,J]
  cases h
  trivial
 ·rcases ic h with ⟨h2,h⟩|⟨h2,h⟩
  ·try simp only[h1,h2,A,B,C,E,F,J]
   cases h
   trivial
  ·try simp only[h1,h2,A,B,C,E,F,J]
   cases h
   trivial
/- 269:impl_Chart_routesFrom -/
def L8:N (N U × AItem):= [([],(L,.mv 18 (S 5))),([],(L,.mv 19 (S 5))),([1],(L,.nilc 20 (S 19))),([2],(L,.load 21 (S 20) G 1)),([],(L,.mv 22 (S 3))),([4],(L,.call 23 121 [(S 22)])),([5],(L,.bslice 24 1 [.sl []] 1 [(0,(S 23))])),([3,6,5],(L,.app 25 1 24 (S 21) (S 24))),([0,0,1,2,3,4,5,6,7],(L,.nilc 26 (S 18))),([8,7,7,0,1,2,3,4,5,6,7],(L,.store (S 26) (S 25) 1))]
def J0:N (N U × AItem):= [([],(L,.load 48 (S 6) T 2)),([],(L,.mv 49 (S 14))),([],(L,.mv 50 (S 2))),([],(L,.mv 51 (S 3))),([3],(L,.call 52 121 [(S 51)])),([],(L,.mv 53 (S 12))),([5],(L,.bslice 54 1 [.int .i64 0] 1 [(0,(S 53))])),([4,6,4],(L,.app 55 1 8 (S 52) (S 54))),([],(L,.load 56 (S 10) T 8)),([],(L,.mv 57 (S 5))),([0,1,2,7,8,9,7],(L,.call 58 269 [(S 48),(S 49),(S 50),(S 55),(S 56),(S 57)]))]
def C3b:X3:= .seq (.reg [(L,.keep [1,2,3,5,6,10,12,14,30,31,32,47] [99999999999,6,10] [90000])]) (.cond (S 47) (.any J0) .skip)
def C2q:X3:=(.reg [(L,.bin 59 .add (S 32) (K 1)),mv 32 59])
def B44:X3:= .seq (.reg [(L,.keep [1,2,3,5,6,10,30,31,32] [99999999999,6,10] [90000])]) (.seq (.reg [bn 33 .lss 32 31]) (.seq (.cond (S 33) .skip (.exit 0)) (.seq (.block 1 (.seq (.reg [mv 34 32,ia 35 30 32 5,lw 36 35 5,(L,.alloc 13 [aI 0,aI 0,aI 0,aI 0,aB G]),mv 12 34,so 13 36 5]) (.seq (.reg [lw 37 13 5,mv 38 1,ca 39 327 [S 37,S 38],mv 14 39]) (.seq (.reg [mv 40 14,(L,.bin 41 .geq (S 40) (K 0)),mv 42 41,(H (42,T),.mv 43 (S 14)),(H (42,T),.aaddr 44 (S 10) (S 43) 8 1),(H (42,T),.load 45 (S 44) G 1),(H (42,T),.un 46 .not (S 45)),pa 47 42 46]) C3b)))) C2q)))
def cc187:X3:=(.seq (.reg [bo 6 0,bo 10 4]) (.seq (.seq (.reg [mv 15 1,mv 16 2,bn 17 .eql 15 16]) (.cond (S 17) (.seq (.any L8) .ret) .skip)) (.seq (.reg [mv 27 1,(L,.aaddr 28 (S 10) (S 27) 8 1),(L,.store (S 28) (KB T) 1)]) (.seq (.reg [fa 29 6 1,ld 30 29,ln 31 30,(L,.mv 32 (K 0))]) (.block 0 (.loop B44))))))
abbrev C5(a3:N P)(wo3_ wo5_:AV)(c0_ c1_:Q)(c2_ c3_:Q)(c4_ c5_:Q)(c6_ c7_ c8_:Q)(bx_:N (U × N AC))(rs_:Rows):St:=⟨[(3,vc (aL (X rI a3))),(5,vc (.pb 99999999999 0)),(18,bif c0_ then vc (.pb 99999999999 0) else .undef),(19,bif c1_ then vc (.pb 99999999999 0) else .undef),(20,bif c2_ then vc (.pb 99999999999 0) else .undef),(21,bif c3_ then wo3_ else .undef),(22,bif c4_ then vc (aL (X rI a3)) else .undef),(23,bif c5_ then wo5_ else .undef),(24,bif c6_ then vc (.own 1536) else .undef),(25,bif c7_ then vc (.own 90000) else .undef),(26,bif c8_ then vc (.pb 99999999999 0) else .undef)],bx_,rs_⟩
abbrev I5(a3:N P)(a5:N (N P))(r2:(N P)):St:=(C5 a3 (vc (.undef)) (vc (aL (X rI r2))) T T T T T T T T T [(99999999999,[.own 90000])] [(90000,1,X (rL rI) (a5++([r2]:N (N P)))),(1536,1,X (rL rI) ([r2]:N (N P)))])
theorem F13(rec_:X7→P→P→(N P)→X6→(N (N P))→O (N (N P)))(h_rec:∀(a0:X7) (a1 a2:P) (a3:N P) (a4:X6) (a5:N (N P)) zr,rec_ a0 a1 a2 a3 a4 a5=H zr→FCz Y 269 [.d (.ag (X7.row a0)),.d (.sc (.int .i64 a1)),.d (.sc (.int .i64 a2)),.d (.sc (.sl (X rI a3))),.d (.ag (X6.row a4)),.p] [.r 0] [(1,X (rL rI) a5)] [.r 0] [(1,X (rL rI) zr)] [])(a3:N P)(a5:N (N P))(r2:(N P))(h2:D0 a3=H r2)(h3:(C9 a5.length ([r2]:N (N P)).length 24)=T):∀(f:U),E2 Y L8 (I5 a3 a5 r2) f [T,T,T,T,T,T,T,T,T,T] (C5 a3 (vc (.undef)) (vc (aL (X rI r2))) T T T T T T T T T [(99999999999,[.own 90000])] [(90000,1,X (rL rI) (a5++([r2]:N (N P)))),(1536,1,X (rL rI) ([r2]:N (N P)))]):=by
 intro f
 induction f with
 | zero=>intro h; rfl
 | succ f ih=>
  refine B2 ⟨?_,?_,?_,?_,?_,?_,?_,?_,?_,?_,⟨⟩⟩<;>try first | (intro h; cases h; done)
theorem E8j(rec_:X7→P→P→(N P)→X6→(N (N P))→O (N (N P)))(h_rec:∀(a0:X7) (a1 a2:P) (a3:N P) (a4:X6) (a5:N (N P)) zr,rec_ a0 a1 a2 a3 a4 a5=H zr→FCz Y 269 [.d (.ag (X7.row a0)),.d (.sc (.int .i64 a1)),.d (.sc (.int .i64 a2)),.d (.sc (.sl (X rI a3))),.d (.ag (X6.row a4)),.p] [.r 0] [(1,X (rL rI) a5)] [.r 0] [(1,X (rL rI) zr)] [])(a3:N P)(a5:N (N P))(r2:(N P))(h2:D0 a3=H r2)(h3:(C9 a5.length ([r2]:N (N P)).length 24)=T):∀(f:U) (b0 b1:Q) (b2 b8:Q),E2 Y L8 (I5 a3 a5 r2) f [b0,b1,b2,T,T,T,T,T,b8,G] (C5 a3 (vc (.undef)) (vc (aL (X rI r2))) b0 b1 b2 T T T T T b8 [(99999999999,[.undef])] [(90000,1,X (rL rI) (a5++([r2]:N (N P)))),(1536,1,X (rL rI) ([r2]:N (N P)))]):=by
 intro f
 induction f with
 | zero=>intro b0 b1 b2 b8 h; simp at h
 | succ f ih=>
  intro b0 b1 b2 b8
  refine B2 ⟨?_,?_,?_,?_,?_,?_,?_,?_,?_,?_,⟨⟩⟩<;>try first | (intro h; cases h; done) | (intro h0 hw; obtain rfl:=hz h0 rfl; (try obtain rfl:=hq hw 0 rfl rfl); (try obtain rfl:=hq hw 1 rfl rfl); (try obtain rfl:=hq hw 2 rfl rfl); refine np ?_; simp only[C5,cdt,cdf,A1,A,B,C,E,F,J]; exact ih _ _ _ _)
  ·intro h0 hw
   obtain rfl:=hq hw 0 rfl rfl
   obtain rfl:=hq hw 1 rfl rfl
   obtain rfl:=hq hw 2 rfl rfl
   obtain rfl:=hq hw 8 rfl rfl
   refine np ?_
   try simp only[C5,cdt,cdf,A1,A,B,C,E,F,J]
   exact F13 rec_ h_rec a3 a5 r2 h2 h3 _
theorem E8x(rec_:X7→P→P→(N P)→X6→(N (N P))→O (N (N P)))(h_rec:∀(a0:X7) (a1 a2:P) (a3:N P) (a4:X6) (a5:N (N P)) zr,rec_ a0 a1 a2 a3 a4 a5=H zr→FCz Y 269 [.d (.ag (X7.row a0)),.d (.sc (.int .i64 a1)),.d (.sc (.int .i64 a2)),.d (.sc (.sl (X rI a3))),.d (.ag (X6.row a4)),.p] [.r 0] [(1,X (rL rI) a5)] [.r 0] [(1,X (rL rI) zr)] [])(a3:N P)(a5:N (N P))(r2:(N P))(h2:D0 a3=H r2)(h3:(C9 a5.length ([r2]:N (N P)).length 24)=T):∀(f:U) (b0 b1:Q) (b2 b3:Q),E2 Y L8 (I5 a3 a5 r2) f [b0,b1,b2,b3,T,T,T,G,G,G] (C5 a3 (vc (.own 90000)) (vc (aL (X rI r2))) b0 b1 b2 b3 T T T G G [(99999999999,[.own 90000])] [(90000,1,X (rL rI) a5),(1536,1,X (rL rI) ([r2]:N (N P)))]):=by
 intro f
 induction f with
 | zero=>intro b0 b1 b2 b3 h; simp at h
 | succ f ih=>
  intro b0 b1 b2 b3
  refine B2 ⟨?_,?_,?_,?_,?_,?_,?_,?_,?_,?_,⟨⟩⟩<;>try first | (intro h; cases h; done) | (intro _ hw; simp at hw; done) | (intro h0 hw; obtain rfl:=hz h0 rfl; (try obtain rfl:=hq hw 1 rfl rfl); (try obtain rfl:=hq hw 2 rfl rfl); refine np ?_; simp only[C5,cdt,cdf,A1,A,B,C,E,F,J]; exact ih _ _ _ _)
  ·intro h0 hw
   obtain rfl:=hq hw 3 rfl rfl
   refine np ?_
   try simp only[h3,C5,cdt,cdf,A1,A,B,C,E,F,J]
   exact E8j rec_ h_rec a3 a5 r2 h2 h3 _ b0 b1 b2 G
theorem E9m(rec_:X7→P→P→(N P)→X6→(N (N P))→O (N (N P)))(h_rec:∀(a0:X7) (a1 a2:P) (a3:N P) (a4:X6) (a5:N (N P)) zr,rec_ a0 a1 a2 a3 a4 a5=H zr→FCz Y 269 [.d (.ag (X7.row a0)),.d (.sc (.int .i64 a1)),.d (.sc (.int .i64 a2)),.d (.sc (.sl (X rI a3))),.d (.ag (X6.row a4)),.p] [.r 0] [(1,X (rL rI) a5)] [.r 0] [(1,X (rL rI) zr)] [])(a3:N P)(a5:N (N P))(r2:(N P))(h2:D0 a3=H r2)(h3:(C9 a5.length ([r2]:N (N P)).length 24)=T):∀(f:U) (b0 b1:Q) (b2 b3:Q),E2 Y L8 (I5 a3 a5 r2) f [b0,b1,b2,b3,T,T,G,G,G,G] (C5 a3 (vc (.own 90000)) (vc (.own 1472)) b0 b1 b2 b3 T T G G G [(99999999999,[.own 90000])] [(90000,1,X (rL rI) a5),(1472,1,X rI r2)]):=by
 intro f
 induction f with
 | zero=>intro b0 b1 b2 b3 h; simp at h
 | succ f ih=>
  intro b0 b1 b2 b3
  refine B2 ⟨?_,?_,?_,?_,?_,?_,?_,?_,?_,?_,⟨⟩⟩<;>try first | (intro h; cases h; done) | (intro _ hw; simp at hw; done) | (intro h0 hw; obtain rfl:=hz h0 rfl; (try obtain rfl:=hq hw 1 rfl rfl); (try obtain rfl:=hq hw 2 rfl rfl); refine np ?_; simp only[C5,cdt,cdf,A1,A,B,C,E,F,J]; exact ih _ _ _ _)
  ·intro h0 hw
   refine⟨[(L,.frz 1472)],[],W,W,?_⟩
   try simp only[C5,cdt,cdf,zH,zG,A1,A,B,C,E,F,J]
   refine V0 W ?_
   try simp only[A1,A,B,C,E,F,J]
   refine D4 (es:=X (rL rI) ([r2]:N (N P))) W (by simp only[St.fresh,zC,zD,P0]; simp[AV.cells,V1.cells,AC.uses]) ?_
   try simp only[A1,A,B,C,E,F,J]
   exact E8x rec_ h_rec a3 a5 r2 h2 h3 _ b0 b1 b2 b3
theorem F2b(rec_:X7→P→P→(N P)→X6→(N (N P))→O (N (N P)))(h_rec:∀(a0:X7) (a1 a2:P) (a3:N P) (a4:X6) (a5:N (N P)) zr,rec_ a0 a1 a2 a3 a4 a5=H zr→FCz Y 269 [.d (.ag (X7.row a0)),.d (.sc (.int .i64 a1)),.d (.sc (.int .i64 a2)),.d (.sc (.sl (X rI a3))),.d (.ag (X6.row a4)),.p] [.r 0] [(1,X (rL rI) a5)] [.r 0] [(1,X (rL rI) zr)] [])(a3:N P)(a5:N (N P))(r2:(N P))(h2:D0 a3=H r2)(h3:(C9 a5.length ([r2]:N (N P)).length 24)=T):∀(f:U) (b0 b1:Q) (b2 b3 b4:Q),E2 Y L8 (I5 a3 a5 r2) f [b0,b1,b2,b3,b4,G,G,G,G,G] (C5 a3 (vc (.own 90000)) (vc (.own 1472)) b0 b1 b2 b3 b4 G G G G [(99999999999,[.own 90000])] [(90000,1,X (rL rI) a5)]):=by
 intro f
 induction f with
 | zero=>intro b0 b1 b2 b3 b4 h; simp at h
 | succ f ih=>
  intro b0 b1 b2 b3 b4
  refine B2 ⟨?_,?_,?_,?_,?_,?_,?_,?_,?_,?_,⟨⟩⟩<;>try first | (intro _ hw; simp at hw; done) | (intro h0 hw; obtain rfl:=hz h0 rfl; (try obtain rfl:=hq hw 1 rfl rfl); (try obtain rfl:=hq hw 2 rfl rfl); refine np ?_; simp only[C5,cdt,cdf,A1,A,B,C,E,F,J]; exact ih _ _ _ _ _)
  ·intro h0 hw
   obtain rfl:=hq hw 4 rfl rfl
   refine np ?_
   try simp only[C5,cdt,cdf,A1,A,B,C,E,F,J]
   refine A2 (A4t _ _ h2) W (by simp only[St.fresh,zC,zD,P0]; simp[AV.cells,V1.cells,AC.uses]) (uf W) ?_
   try simp only[A1,A,B,C,E,F,J]
   exact E9m rec_ h_rec a3 a5 r2 h2 h3 _ b0 b1 b2 b3
abbrev B1(a1 a2:P)(a3:N P)(v6 r11:P)(a0:X7)(y7:X6)(wo4_ wo7_:AV)(c0_ c1_:Q)(c2_ c3_:Q)(c4_ c5_:Q)(c6_ c7_:Q)(c8_ c9_ c10_:Q)(bx_:N (U × N AC))(rs_:Rows):St:=⟨[(1,vc (aI a1)),(2,vc (aI a2)),(3,vc (aL (X rI a3))),(5,vc (.pb 99999999999 0)),(6,vc (.pb 6 0)),(10,vc (.pb 10 0)),(12,vc (aI v6)),(14,vc (aI r11)),(30,vc (aL (X X2.row a0.Segments))),(31,vc (aI (a0.Segments.length:P))),(32,vc (aI v6)),(48,bif c0_ then va (dm a0.row) else .undef),(49,bif c1_ then vc (aI r11) else .undef),(50,bif c2_ then vc (aI a2) else .undef),(51,bif c3_ then vc (aL (X rI a3)) else .undef),(52,bif c4_ then wo4_ else .undef),(53,bif c5_ then vc (aI v6) else .undef),(54,bif c6_ then vc (.own 3456) else .undef),(55,bif c7_ then wo7_ else .undef),(56,bif c8_ then va [aB y7.i0,aB y7.i1,aB y7.i2,aB y7.i3,aB y7.i4,aB y7.i5,aB y7.i6,aB y7.i7] else .undef),(57,bif c9_ then vc (.pb 99999999999 0) else .undef),(58,bif c10_ then .tup [] else .undef)],bx_,rs_⟩
abbrev G8(a1 a2:P)(a3:N P)(v6 r11:P)(a0:X7)(y7:X6)(r18:(N P))(r20:(N (N P))):St:=(B1 a1 a2 a3 v6 r11 a0 y7 (vc (.undef)) (vc (aL (X rI (r18++([v6]:N P))))) T T T T T T T T T T T [(99999999999,[.own 90000]),(6,(dm a0.row)),(10,[aB y7.i0,aB y7.i1,aB y7.i2,aB y7.i3,aB y7.i4,aB y7.i5,aB y7.i6,aB y7.i7])] [(90000,1,X (rL rI) r20),(3456,1,X rI ([v6]:N P))])
theorem E89(rec_:X7→P→P→(N P)→X6→(N (N P))→O (N (N P)))(h_rec:∀(a0:X7) (a1 a2:P) (a3:N P) (a4:X6) (a5:N (N P)) zr,rec_ a0 a1 a2 a3 a4 a5=H zr→FCz Y 269 [.d (.ag (X7.row a0)),.d (.sc (.int .i64 a1)),.d (.sc (.int .i64 a2)),.d (.sc (.sl (X rI a3))),.d (.ag (X6.row a4)),.p] [.r 0] [(1,X (rL rI) a5)] [.r 0] [(1,X (rL rI) zr)] [])(a1 a2:P)(a3:N P)(v6 r11:P)(a0:X7)(y7:X6)(v8:N (N P))(r18:(N P))(r20:(N (N P)))(h18:D0 a3=H r18)(h19:(C9 r18.length ([v6]:N P).length 8)=T)(h20:rec_ a0 r11 a2 (r18++([v6]:N P)) y7 v8=H r20):∀(f:U),E2 Y J0 (G8 a1 a2 a3 v6 r11 a0 y7 r18 r20) f [T,T,T,T,T,T,T,T,T,T,T] (B1 a1 a2 a3 v6 r11 a0 y7 (vc (.undef)) (vc (aL (X rI (r18++([v6]:N P))))) T T T T T T T T T T T [(99999999999,[.own 90000]),(6,(dm a0.row)),(10,[aB y7.i0,aB y7.i1,aB y7.i2,aB y7.i3,aB y7.i4,aB y7.i5,aB y7.i6,aB y7.i7])] [(90000,1,X (rL rI) r20),(3456,1,X rI ([v6]:N P))]):=by
 intro f
 induction f with
 | zero=>intro h; rfl
 | succ f ih=>
  refine B2 ⟨?_,?_,?_,?_,?_,?_,?_,?_,?_,?_,?_,⟨⟩⟩<;>try first | (intro h; cases h; done)
theorem E8m(rec_:X7→P→P→(N P)→X6→(N (N P))→O (N (N P)))(h_rec:∀(a0:X7) (a1 a2:P) (a3:N P) (a4:X6) (a5:N (N P)) zr,rec_ a0 a1 a2 a3 a4 a5=H zr→FCz Y 269 [.d (.ag (X7.row a0)),.d (.sc (.int .i64 a1)),.d (.sc (.int .i64 a2)),.d (.sc (.sl (X rI a3))),.d (.ag (X6.row a4)),.p] [.r 0] [(1,X (rL rI) a5)] [.r 0] [(1,X (rL rI) zr)] [])(a1 a2:P)(a3:N P)(v6 r11:P)(a0:X7)(y7:X6)(v8:N (N P))(r18:(N P))(r20:(N (N P)))(h18:D0 a3=H r18)(h19:(C9 r18.length ([v6]:N P).length 8)=T)(h20:rec_ a0 r11 a2 (r18++([v6]:N P)) y7 v8=H r20):∀(f:U) (b0 b1:Q) (b2 b8 b9:Q),E2 Y J0 (G8 a1 a2 a3 v6 r11 a0 y7 r18 r20) f [b0,b1,b2,T,T,T,T,T,b8,b9,G] (B1 a1 a2 a3 v6 r11 a0 y7 (vc (.undef)) (vc (.own 3328)) b0 b1 b2 T T T T T b8 b9 G [(99999999999,[.own 90000]),(6,(dm a0.row)),(10,[aB y7.i0,aB y7.i1,aB y7.i2,aB y7.i3,aB y7.i4,aB y7.i5,aB y7.i6,aB y7.i7])] [(90000,1,X (rL rI) v8),(3328,1,X rI (r18++([v6]:N P))),(3456,1,X rI ([v6]:N P))]):=by
 intro f
 induction f with
 | zero=>intro b0 b1 b2 b8 b9 h; simp at h
 | succ f ih=>
  intro b0 b1 b2 b8 b9
  refine B2 ⟨?_,?_,?_,?_,?_,?_,?_,?_,?_,?_,?_,⟨⟩⟩<;>try first | (intro h; cases h; done) | (intro h0 hw; obtain rfl:=hz h0 rfl; refine np ?_; simp only[B1,cdt,cdf,A1,A,B,C,E,F,J]; exact ih _ _ _ _ _)
  ·intro h0 hw
   obtain rfl:=hq hw 0 rfl rfl
   obtain rfl:=hq hw 1 rfl rfl
   obtain rfl:=hq hw 2 rfl rfl
   obtain rfl:=hq hw 8 rfl rfl
   obtain rfl:=hq hw 9 rfl rfl
   refine⟨[(L,.frz 3328)],[],W,W,?_⟩
   try simp only[B1,cdt,cdf,zH,zG,A1,A,B,C,E,F,J]
   refine V0 W ?_
   try simp only[A1,A,B,C,E,F,J]
   refine A7s (h_rec _ _ _ _ _ _ _ h20) 99999999999 [90000] rfl W W W (by decide) W W W ?_
   try simp only[A1,A,B,C,E,F,J]
   exact E89 rec_ h_rec a1 a2 a3 v6 r11 a0 y7 v8 r18 r20 h18 h19 h20 _
theorem D73(rec_:X7→P→P→(N P)→X6→(N (N P))→O (N (N P)))(h_rec:∀(a0:X7) (a1 a2:P) (a3:N P) (a4:X6) (a5:N (N P)) zr,rec_ a0 a1 a2 a3 a4 a5=H zr→FCz Y 269 [.d (.ag (X7.row a0)),.d (.sc (.int .i64 a1)),.d (.sc (.int .i64 a2)),.d (.sc (.sl (X rI a3))),.d (.ag (X6.row a4)),.p] [.r 0] [(1,X (rL rI) a5)] [.r 0] [(1,X (rL rI) zr)] [])(a1 a2:P)(a3:N P)(v6 r11:P)(a0:X7)(y7:X6)(v8:N (N P))(r18:(N P))(r20:(N (N P)))(h18:D0 a3=H r18)(h19:(C9 r18.length ([v6]:N P).length 8)=T)(h20:rec_ a0 r11 a2 (r18++([v6]:N P)) y7 v8=H r20):∀(f:U) (b0 b1:Q) (b2 b8 b9:Q),E2 Y J0 (G8 a1 a2 a3 v6 r11 a0 y7 r18 r20) f [b0,b1,b2,T,T,T,T,G,b8,b9,G] (B1 a1 a2 a3 v6 r11 a0 y7 (vc (.own 3328)) (vc (.own 3328)) b0 b1 b2 T T T T G b8 b9 G [(99999999999,[.own 90000]),(6,(dm a0.row)),(10,[aB y7.i0,aB y7.i1,aB y7.i2,aB y7.i3,aB y7.i4,aB y7.i5,aB y7.i6,aB y7.i7])] [(90000,1,X (rL rI) v8),(3328,1,X rI r18),(3456,1,X rI ([v6]:N P))]):=by
 intro f
 induction f with
 | zero=>intro b0 b1 b2 b8 b9 h; simp at h
 | succ f ih=>
  intro b0 b1 b2 b8 b9
  refine B2 ⟨?_,?_,?_,?_,?_,?_,?_,?_,?_,?_,?_,⟨⟩⟩<;>try first | (intro h; cases h; done) | (intro _ hw; simp at hw; done) | (intro h0 hw; obtain rfl:=hz h0 rfl; refine np ?_; simp only[B1,cdt,cdf,A1,A,B,C,E,F,J]; exact ih _ _ _ _ _)
  ·intro h0 hw
   refine np ?_
   try simp only[h19,B1,cdt,cdf,A1,A,B,C,E,F,J]
   exact E8m rec_ h_rec a1 a2 a3 v6 r11 a0 y7 v8 r18 r20 h18 h19 h20 _ b0 b1 b2 b8 b9
theorem F2e(rec_:X7→P→P→(N P)→X6→(N (N P))→O (N (N P)))(h_rec:∀(a0:X7) (a1 a2:P) (a3:N P) (a4:X6) (a5:N (N P)) zr,rec_ a0 a1 a2 a3 a4 a5=H zr→FCz Y 269 [.d (.ag (X7.row a0)),.d (.sc (.int .i64 a1)),.d (.sc (.int .i64 a2)),.d (.sc (.sl (X rI a3))),.d (.ag (X6.row a4)),.p] [.r 0] [(1,X (rL rI) a5)] [.r 0] [(1,X (rL rI) zr)] [])(a1 a2:P)(a3:N P)(v6 r11:P)(a0:X7)(y7:X6)(v8:N (N P))(r18:(N P))(r20:(N (N P)))(h18:D0 a3=H r18)(h19:(C9 r18.length ([v6]:N P).length 8)=T)(h20:rec_ a0 r11 a2 (r18++([v6]:N P)) y7 v8=H r20):∀(f:U) (b0 b1:Q) (b2 b5:Q) (b8 b9:Q),E2 Y J0 (G8 a1 a2 a3 v6 r11 a0 y7 r18 r20) f [b0,b1,b2,T,T,b5,G,G,b8,b9,G] (B1 a1 a2 a3 v6 r11 a0 y7 (vc (.own 3328)) (vc (.own 3328)) b0 b1 b2 T T b5 G G b8 b9 G [(99999999999,[.own 90000]),(6,(dm a0.row)),(10,[aB y7.i0,aB y7.i1,aB y7.i2,aB y7.i3,aB y7.i4,aB y7.i5,aB y7.i6,aB y7.i7])] [(90000,1,X (rL rI) v8),(3328,1,X rI r18)]):=by
 intro f
 induction f with
 | zero=>intro b0 b1 b2 b5 b8 b9 h; simp at h
 | succ f ih=>
  intro b0 b1 b2 b5 b8 b9
  refine B2 ⟨?_,?_,?_,?_,?_,?_,?_,?_,?_,?_,?_,⟨⟩⟩<;>try first | (intro h; cases h; done) | (intro _ hw; simp at hw; done) | (intro h0 hw; obtain rfl:=hz h0 rfl; refine np ?_; simp only[B1,cdt,cdf,A1,A,B,C,E,F,J]; exact ih _ _ _ _ _ _)
  ·intro h0 hw
   obtain rfl:=hq hw 5 rfl rfl
   refine np ?_
   try simp only[B1,cdt,cdf,A1,A,B,C,E,F,J]
   refine D4 (es:=X rI ([v6]:N P)) W (by simp only[St.fresh,zC,zD,P0]; simp[AV.cells,V1.cells,AC.uses]) ?_
   try simp only[A1,A,B,C,E,F,J]
   exact D73 rec_ h_rec a1 a2 a3 v6 r11 a0 y7 v8 r18 r20 h18 h19 h20 _ b0 b1 b2 b8 b9
theorem E8i(rec_:X7→P→P→(N P)→X6→(N (N P))→O (N (N P)))(h_rec:∀(a0:X7) (a1 a2:P) (a3:N P) (a4:X6) (a5:N (N P)) zr,rec_ a0 a1 a2 a3 a4 a5=H zr→FCz Y 269 [.d (.ag (X7.row a0)),.d (.sc (.int .i64 a1)),.d (.sc (.int .i64 a2)),.d (.sc (.sl (X rI a3))),.d (.ag (X6.row a4)),.p] [.r 0] [(1,X (rL rI) a5)] [.r 0] [(1,X (rL rI) zr)] [])(a1 a2:P)(a3:N P)(v6 r11:P)(a0:X7)(y7:X6)(v8:N (N P))(r18:(N P))(r20:(N (N P)))(h18:D0 a3=H r18)(h19:(C9 r18.length ([v6]:N P).length 8)=T)(h20:rec_ a0 r11 a2 (r18++([v6]:N P)) y7 v8=H r20):∀(f:U) (b0 b1:Q) (b2 b3:Q) (b8 b9:Q),E2 Y J0 (G8 a1 a2 a3 v6 r11 a0 y7 r18 r20) f [b0,b1,b2,b3,G,T,T,G,b8,b9,G] (B1 a1 a2 a3 v6 r11 a0 y7 (vc (.own 3328)) (vc (.own 3328)) b0 b1 b2 b3 G T T G b8 b9 G [(99999999999,[.own 90000]),(6,(dm a0.row)),(10,[aB y7.i0,aB y7.i1,aB y7.i2,aB y7.i3,aB y7.i4,aB y7.i5,aB y7.i6,aB y7.i7])] [(90000,1,X (rL rI) v8),(3456,1,X rI ([v6]:N P))]):=by
 intro f
 induction f with
 | zero=>intro b0 b1 b2 b3 b8 b9 h; simp at h
 | succ f ih=>
  intro b0 b1 b2 b3 b8 b9
  refine B2 ⟨?_,?_,?_,?_,?_,?_,?_,?_,?_,?_,?_,⟨⟩⟩<;>try first | (intro h; cases h; done) | (intro _ hw; simp at hw; done) | (intro h0 hw; obtain rfl:=hz h0 rfl; refine np ?_; simp only[B1,cdt,cdf,A1,A,B,C,E,F,J]; exact ih _ _ _ _ _ _)
  ·intro h0 hw
   obtain rfl:=hq hw 3 rfl rfl
   refine⟨[],[(L,.keep [1,2,3,5,6,10,12,14,30,31,32,48,49,50,51,52,53,54,55,56,57,58] [99999999999,6,10] [90000,3328,3456])],W,W,?_⟩
   try simp only[B1,cdt,cdf,zH,zG,A1,A,B,C,E,F,J]
   refine A2 (A4t _ _ h18) W (by simp only[St.fresh,zC,zD,P0]; simp[AV.cells,V1.cells,AC.uses]) (uf W) ?_
   try simp only[A1,A,B,C,E,F,J]
   exact D73 rec_ h_rec a1 a2 a3 v6 r11 a0 y7 v8 r18 r20 h18 h19 h20 _ b0 b1 b2 b8 b9
theorem E6v(rec_:X7→P→P→(N P)→X6→(N (N P))→O (N (N P)))(h_rec:∀(a0:X7) (a1 a2:P) (a3:N P) (a4:X6) (a5:N (N P)) zr,rec_ a0 a1 a2 a3 a4 a5=H zr→FCz Y 269 [.d (.ag (X7.row a0)),.d (.sc (.int .i64 a1)),.d (.sc (.int .i64 a2)),.d (.sc (.sl (X rI a3))),.d (.ag (X6.row a4)),.p] [.r 0] [(1,X (rL rI) a5)] [.r 0] [(1,X (rL rI) zr)] [])(a1 a2:P)(a3:N P)(v6 r11:P)(a0:X7)(y7:X6)(v8:N (N P))(r18:(N P))(r20:(N (N P)))(h18:D0 a3=H r18)(h19:(C9 r18.length ([v6]:N P).length 8)=T)(h20:rec_ a0 r11 a2 (r18++([v6]:N P)) y7 v8=H r20):∀(f:U) (b0 b1:Q) (b2 b3:Q) (b5 b8 b9:Q),E2 Y J0 (G8 a1 a2 a3 v6 r11 a0 y7 r18 r20) f [b0,b1,b2,b3,G,b5,G,G,b8,b9,G] (B1 a1 a2 a3 v6 r11 a0 y7 (vc (.own 3328)) (vc (.own 3328)) b0 b1 b2 b3 G b5 G G b8 b9 G [(99999999999,[.own 90000]),(6,(dm a0.row)),(10,[aB y7.i0,aB y7.i1,aB y7.i2,aB y7.i3,aB y7.i4,aB y7.i5,aB y7.i6,aB y7.i7])] [(90000,1,X (rL rI) v8)]):=by
 intro f
 induction f with
 | zero=>intro b0 b1 b2 b3 b5 b8 b9 h; simp at h
 | succ f ih=>
  intro b0 b1 b2 b3 b5 b8 b9
  refine B2 ⟨?_,?_,?_,?_,?_,?_,?_,?_,?_,?_,?_,⟨⟩⟩<;>try first | (intro _ hw; simp at hw; done) | (intro h0 hw; obtain rfl:=hz h0 rfl; refine np ?_; simp only[B1,cdt,cdf,A1,A,B,C,E,F,J]; exact ih _ _ _ _ _ _ _)
  ·intro h0 hw
   obtain rfl:=hq hw 3 rfl rfl
   refine np ?_
   try simp only[B1,cdt,cdf,A1,A,B,C,E,F,J]
   refine A2 (A4t _ _ h18) W (by simp only[St.fresh,zC,zD,P0]; simp[AV.cells,V1.cells,AC.uses]) (uf W) ?_
   try simp only[A1,A,B,C,E,F,J]
   exact F2e rec_ h_rec a1 a2 a3 v6 r11 a0 y7 v8 r18 r20 h18 h19 h20 _ b0 b1 b2 b5 b8 b9
  ·intro h0 hw
   obtain rfl:=hq hw 5 rfl rfl
   refine np ?_
   try simp only[B1,cdt,cdf,A1,A,B,C,E,F,J]
   refine D4 (es:=X rI ([v6]:N P)) W (by simp only[St.fresh,zC,zD,P0]; simp[AV.cells,V1.cells,AC.uses]) ?_
   try simp only[A1,A,B,C,E,F,J]
   exact E8i rec_ h_rec a1 a2 a3 v6 r11 a0 y7 v8 r18 r20 h18 h19 h20 _ b0 b1 b2 b3 b8 b9
theorem D8a(rec_:X7→P→P→(N P)→X6→(N (N P))→O (N (N P)))(h_rec:∀(a0:X7) (a1 a2:P) (a3:N P) (a4:X6) (a5:N (N P)) zr,rec_ a0 a1 a2 a3 a4 a5=H zr→FCz Y 269 [.d (.ag (X7.row a0)),.d (.sc (.int .i64 a1)),.d (.sc (.int .i64 a2)),.d (.sc (.sl (X rI a3))),.d (.ag (X6.row a4)),.p] [.r 0] [(1,X (rL rI) a5)] [.r 0] [(1,X (rL rI) zr)] [])(a1 a2:P)(a3:N P)(v6 r11:P)(a0:X7)(y7:X6)(v8:N (N P))(Q9:P→(N (N P))→O (N (N P)))(A40:∀(v6:P) (v8:N (N P)) zr,Q9 v6 v8=H zr→∀σ:St,σ.kept [1,2,3,5,6,10,30,31,32] [99999999999,6,10] [90000]=⟨[(1,vc (aI a1)),(2,vc (aI a2)),(3,vc (aL (X rI a3))),(5,vc (.pb 99999999999 0)),(6,vc (.pb 6 0)),(10,vc (.pb 10 0)),(30,vc (aL (X X2.row a0.Segments))),(31,vc (aI (a0.Segments.length:P))),(32,vc (aI v6))],[(99999999999,[.own 90000]),(6,(dm a0.row)),(10,[aB y7.i0,aB y7.i1,aB y7.i2,aB y7.i3,aB y7.i4,aB y7.i5,aB y7.i6,aB y7.i7])],[(90000,1,X (rL rI) v8)]⟩→go Y (.code (.loop B44):: [.blk 0]) (A8p [] [] [.r 0] [(1,X (rL rI) zr)]) .normal (H σ))(v16:Q)(r:(N (N P)))(h:J5 rec_ a1 a2 a3 v6 r11 a0 y7 v8 Q9 v16=H r)(σ:St)(hσ:σ.kept [1,2,3,5,6,10,12,14,30,31,32,47] [99999999999,6,10] [90000]=⟨[(1,vc (aI a1)),(2,vc (aI a2)),(3,vc (aL (X rI a3))),(5,vc (.pb 99999999999 0)),(6,vc (.pb 6 0)),(10,vc (.pb 10 0)),(12,vc (aI v6)),(14,vc (aI r11)),(30,vc (aL (X X2.row a0.Segments))),(31,vc (aI (a0.Segments.length:P))),(32,vc (aI v6)),(47,vc (aB v16))],[(99999999999,[.own 90000]),(6,(dm a0.row)),(10,[aB y7.i0,aB y7.i1,aB y7.i2,aB y7.i3,aB y7.i4,aB y7.i5,aB y7.i6,aB y7.i7])],[(90000,1,X (rL rI) v8)]⟩):go Y (.code C3b:: [.blk 1,.code C2q,.code (.loop B44),.blk 0]) (A8p [] [] [.r 0] [(1,X (rL rI) r)]) .normal (H σ):=by
 unfold J5 at h
 rcases ic h with ⟨h17,h⟩|⟨h17,h⟩
 ·try simp only[hσ,h17,C3b,A,B,C,E,F,J]
  obtain⟨r18,h18,h⟩:=ob h
  obtain⟨h19,h⟩:=D7 h
  obtain⟨r20,h20,h⟩:=ob h
  refine A38 (ks:= [1,2,3,5,6,10,12,14,30,31,32]) (bs:= [99999999999,6,10]) (rs:= [90000]) (τ:=(G8 a1 a2 a3 v6 r11 a0 y7 r18 r20)) W (E6v rec_ h_rec a1 a2 a3 v6 r11 a0 y7 v8 r18 r20 h18 h19 h20 _ G G G G G G G) ?_
  simp only[G8,B1,cdt]
  try simp only[h17,h19,C2q,A,B,C,E,F,J]
  refine A40 _ _ _ h _ ?_
  try simp only[h17,h19,A,B,C,E,F,J,Z]
 ·try simp only[hσ,h17,C3b,C2q,A,B,C,E,F,J]
  refine A40 _ _ _ h _ ?_
  try simp only[h17,A,B,C,E,F,J,Z]
theorem E8h(rec_:X7→P→P→(N P)→X6→(N (N P))→O (N (N P)))(h_rec:∀(a0:X7) (a1 a2:P) (a3:N P) (a4:X6) (a5:N (N P)) zr,rec_ a0 a1 a2 a3 a4 a5=H zr→FCz Y 269 [.d (.ag (X7.row a0)),.d (.sc (.int .i64 a1)),.d (.sc (.int .i64 a2)),.d (.sc (.sl (X rI a3))),.d (.ag (X6.row a4)),.p] [.r 0] [(1,X (rL rI) a5)] [.r 0] [(1,X (rL rI) zr)] [])(a1 a2:P)(a3:N P)(a0:X7)(y7:X6):∀(n:U) (v6:P) (v8:N (N P)) (r:(N (N P))),E4 rec_ a1 a2 a3 a0 y7 n v6 v8=H r→∀σ:St,σ.kept [1,2,3,5,6,10,30,31,32] [99999999999,6,10] [90000]=⟨[(1,vc (aI a1)),(2,vc (aI a2)),(3,vc (aL (X rI a3))),(5,vc (.pb 99999999999 0)),(6,vc (.pb 6 0)),(10,vc (.pb 10 0)),(30,vc (aL (X X2.row a0.Segments))),(31,vc (aI (a0.Segments.length:P))),(32,vc (aI v6))],[(99999999999,[.own 90000]),(6,(dm a0.row)),(10,[aB y7.i0,aB y7.i1,aB y7.i2,aB y7.i3,aB y7.i4,aB y7.i5,aB y7.i6,aB y7.i7])],[(90000,1,X (rL rI) v8)]⟩→go Y (.code (.loop B44):: [.blk 0]) (A8p [] [] [.r 0] [(1,X (rL rI) r)]) .normal (H σ):=by
 intro n
 induction n with
 | zero=>intro _ _ r h; cases h
 | succ n ih=>
  intro v6 v8 r h σ hσ
  rw[E4] at h
  refine B8 ?_
  rcases ic h with ⟨h9,h⟩|⟨h9,h⟩
  ·obtain⟨x10,h10,h⟩:=ob h
   try simp only[hσ,h9,h10,B44,A,B,C,E,F,J]
   refine D1 W W ?_
   obtain⟨r11,h11,h⟩:=ob h
   try simp only[h9,h10,A,B,C,E,F,J]
   refine A2 (A79 _ _ _ h11) W W (uf W) ?_
   rcases ic h with ⟨h12,h⟩|⟨h12,h⟩
   ·obtain⟨h13,h⟩:=D7 h
    try simp only[h9,h10,h12,A,B,C,E,F,J]
    refine B7l W W h13 ?_
    obtain⟨x14,h14,h⟩:=ob h
    have h14n:=M5 h14
    have hA15:([aB y7.i0,aB y7.i1,aB y7.i2,aB y7.i3,aB y7.i4,aB y7.i5,aB y7.i6,aB y7.i7]:N AC)[zF r11]?=H (aB x14):=C60 h14n
    try simp only[h9,h10,h12,hA15,A,B,C,E,F,J]
    refine D8a rec_ h_rec _ _ _ _ _ _ _ _ (E4 rec_ a1 a2 a3 a0 y7 n) ih _ _ h _ ?_
    try simp only[h9,h10,h12,hA15,A,B,C,E,F,J,Z]
   ·try simp only[h9,h10,h12,A,B,C,E,F,J]
    refine D8a rec_ h_rec _ _ _ _ _ _ _ _ (E4 rec_ a1 a2 a3 a0 y7 n) ih _ _ h _ ?_
    try simp only[h9,h10,h12,A,B,C,E,F,J,Z]
  ·try simp only[hσ,h9,B44,A,B,C,E,F,J]
   cases h
   exact⟨trivial,[90000],by decide,by decide,W,W⟩
theorem F2z:A6 Y 269=H (cc187.strip,[],60):=by kernel_rfl
theorem A86(rec_:X7→P→P→(N P)→X6→(N (N P))→O (N (N P)))(a0:X7)(a1 a2:P)(a3:N P)(a4:X6)(a5:N (N P))(r:(N (N P)))(h_rec:∀(a0:X7) (a1 a2:P) (a3:N P) (a4:X6) (a5:N (N P)) zr,rec_ a0 a1 a2 a3 a4 a5=H zr→FCz Y 269 [.d (.ag (X7.row a0)),.d (.sc (.int .i64 a1)),.d (.sc (.int .i64 a2)),.d (.sc (.sl (X rI a3))),.d (.ag (X6.row a4)),.p] [.r 0] [(1,X (rL rI) a5)] [.r 0] [(1,X (rL rI) zr)] [])(h:W9 rec_ a0 a1 a2 a3 a4 a5=H r):FCz Y 269 [.d (.ag (X7.row a0)),.d (.sc (.int .i64 a1)),.d (.sc (.int .i64 a2)),.d (.sc (.sl (X rI a3))),.d (.ag (X6.row a4)),.p] [.r 0] [(1,X (rL rI) a5)] [.r 0] [(1,X (rL rI) r)] []:=by
 unfold W9 at h
 refine C30 (σ:=⟨[(0,va (dm a0.row)),(1,vc (aI a1)),(2,vc (aI a2)),(3,vc (aL (X rI a3))),(4,va [aB a4.i0,aB a4.i1,aB a4.i2,aB a4.i3,aB a4.i4,aB a4.i5,aB a4.i6,aB a4.i7]),(5,vc (.pb 99999999999 0))],[(99999999999,[.own 90000])],[(90000,1,X (rL rI) a5)]⟩) B0 F2z W W W W ?_
 simp only[cc187]
 try simp only[A,B,C,E,F,J]
 refine B3 W W W ?_
 try simp only[A,B,C,E,F,J]
 refine B3 W W W ?_
 rcases ic h with ⟨h1,h⟩|⟨h1,h⟩
 ·try simp only[h1,A,B,C,E,F,J]
  obtain⟨r2,h2,h⟩:=ob h
  obtain⟨h3,h⟩:=D7 h
  refine A38 (ks:= [3,5]) (bs:= [99999999999]) (rs:= [90000]) (τ:=(I5 a3 a5 r2)) W (F2b rec_ h_rec a3 a5 r2 h2 h3 _ G G G G G) ?_
  simp only[I5,C5,cdt]
  try simp only[h1,h3,A,B,C,E,F,J]
  cases h
  exact⟨trivial,[90000],by decide,by decide,W,W⟩
 ·obtain⟨h4,h⟩:=D7 h
  try simp only[h1,A,B,C,E,F,J]
  refine B7l W W h4 ?_
  have hA5:A2g [aB a4.i0,aB a4.i1,aB a4.i2,aB a4.i3,aB a4.i4,aB a4.i5,aB a4.i6,aB a4.i7] (zF a1) [aB T]= [aB ((X6.set a4 (zF a1) T)).i0,aB ((X6.set a4 (zF a1) T)).i1,aB ((X6.set a4 (zF a1) T)).i2,aB ((X6.set a4 (zF a1) T)).i3,aB ((X6.set a4 (zF a1) T)).i4,aB ((X6.set a4 (zF a1) T)).i5,aB ((X6.set a4 (zF a1) T)).i6,aB ((X6.set a4 (zF a1) T)).i7]:=X6.set_eq a4 (A7a h4)
  have hA5g:A1f [aB a4.i0,aB a4.i1,aB a4.i2,aB a4.i3,aB a4.i4,aB a4.i5,aB a4.i6,aB a4.i7] (zF a1+1)=T:=C5a (A7a h4)
  have hA5h:A1f [aB a4.i1,aB a4.i2,aB a4.i3,aB a4.i4,aB a4.i5,aB a4.i6,aB a4.i7] (zF a1)=T:=B9w (c:=aB a4.i0) (A7a h4)
  try simp only[h1,hA5,hA5g,hA5h,A,B,C,E,F,J]
  refine E8h rec_ h_rec _ _ _ _ _ _ _ _ _ h _ ?_
  try simp only[h1,hA5,hA5g,hA5h,A,B,C,E,F,J,Z]
theorem A83:∀(n:U) (a0:X7) (a1:P) (a2:P) (a3:N P) (a4:X6) (a5:N (N P)) (r:(N (N P))),G4 n a0 a1 a2 a3 a4 a5=H r→FCz Y 269 [.d (.ag (X7.row a0)),.d (.sc (.int .i64 a1)),.d (.sc (.int .i64 a2)),.d (.sc (.sl (X rI a3))),.d (.ag (X6.row a4)),.p] [.r 0] [(1,X (rL rI) a5)] [.r 0] [(1,X (rL rI) r)] []:=by
 intro n
 induction n with
 | zero=>intro _ _ _ _ _ _ r h; cases h
 | succ n ih=>intro a0 a1 a2 a3 a4 a5 r h; rw[G4] at h; exact A86 (G4 n) a0 a1 a2 a3 a4 a5 r ih h
theorem B0d(a0:X7)(a1 a2:P)(a3:N P)(a4:X6)(a5:N (N P))(r:(N (N P)))(h:A2w a0 a1 a2 a3 a4 a5=H r):FCz Y 269 [.d (.ag (X7.row a0)),.d (.sc (.int .i64 a1)),.d (.sc (.int .i64 a2)),.d (.sc (.sl (X rI a3))),.d (.ag (X6.row a4)),.p] [.r 0] [(1,X (rL rI) a5)] [.r 0] [(1,X (rL rI) r)] []:=A83 bigN a0 a1 a2 a3 a4 a5 r h
/- 192:impl_RoutesBetween -/
def cc202:X3:=(.seq (.reg [bo 3 0,(L,.mv 6 KN)]) (.seq (.seq (.reg [lw 8 3 2,ca 9 93 [S 8],nt 10 9,mv 11 10,(H (11,G),.mv 12 (S 1)),(H (11,G),.faddr 13 (S 3) 0),(H (11,G),.load 14 (S 13) G 1),(H (11,G),.len 15 (S 14)),(H (11,G),.call 16 94 [(S 12),(S 15)]),(H (11,G),.un 17 .not (S 16)),po 18 11 17,mv 19 18,(H (19,G),.mv 20 (S 2)),(H (19,G),.faddr 21 (S 3) 0),(H (19,G),.load 22 (S 21) G 1),(H (19,G),.len 23 (S 22)),(H (19,G),.call 24 94 [(S 20),(S 23)]),(H (19,G),.un 25 .not (S 24)),po 26 19 25]) (.cond (S 26) (.seq (.reg [(L,.mv 6 KN)]) .ret) .skip)) (.seq (.reg [(L,.bslice 27 1 [.sl []] 0 []),(L,.alloc 7 [.nil]),so 7 27 1]) (.seq (.cal [lw 28 3 2,mv 29 1,mv 30 2,(L,.build 31 [aB G,aB G,aB G,aB G,aB G,aB G,aB G,aB G] [])] 32 269 [(S 28),(S 29),(S 30),KN,(S 31),(S 7)]) (.seq (.reg [ld 33 7,mv 6 33]) .ret)))))
theorem E67:A6 Y 192=H (cc202.strip,[6],34):=by kernel_rfl
theorem B15(a0:X7)(a1 a2:P)(r:(N (N P)))(h:Y8 a0 a1 a2=H r):FC Y 192 [.ag (X7.row a0),.sc (.int .i64 a1),.sc (.int .i64 a2)] [.sc (.o 1 (X (rL rI) r))]:=by
 unfold Y8 at h
 refine C8 B0 E67 W ?_
 simp only[cc202,A,B,C,E,F,J]
 try simp only[A,B,C,E,F,J]
 refine B3 W W W ?_
 obtain⟨r1,h1,h⟩:=ob h
 try simp only[A,B,C,E,F,J]
 refine A2 (W5 _ _ h1) W W (uf W) ?_
 rcases ic h with ⟨h2,h⟩|⟨h2,h⟩
 ·obtain⟨r3,h3,h⟩:=ob h
  try simp only[h2,A,B,C,E,F,J]
  refine A2 (E1 _ _ _ h3) W W (uf W) ?_
  rcases ic h with ⟨h4,h⟩|⟨h4,h⟩
  ·obtain⟨r5,h5,h⟩:=ob h
   try simp only[h2,h4,A,B,C,E,F,J]
   refine A2 (E1 _ _ _ h5) W W (uf W) ?_
   rcases ic h with ⟨h6,h⟩|⟨h6,h⟩
   ·try simp only[h2,h4,h6,A,B,C,E,F,J]
    refine D4 (es:=X (rL rI) ([]:N (N P))) W W ?_
    try simp only[h2,h4,h6,A,B,C,E,F,J]
    refine D1 W W ?_
    try simp only[h2,h4,h6,A,B,C,E,F,J]
    refine B8z ?_
    obtain⟨r7,h7,h⟩:=ob h
    try simp only[h2,h4,h6,A,B,C,E,F,J]
    refine A7s (B0d _ _ _ _ _ _ _ h7) 7 [1728] rfl W W W (by decide) W W W ?_
    try simp only[h2,h4,h6,A,B,C,E,F,J]
    cases h
    trivial
   ·try simp only[h2,h4,h6,A,B,C,E,F,J]
    cases h
    trivial
  ·try simp only[h2,h4,A,B,C,E,F,J]
   cases h
   trivial
 ·try simp only[h2,A,B,C,E,F,J]
  cases h
  trivial
/- 193:impl_RouteMinutes -/
def C17:X3:= .seq (.reg [(L,.keep [2,5,11,12,13] [2] [])]) (.seq (.reg [bn 14 .lss 13 12]) (.seq (.cond (S 14) .skip (.exit 0)) (.seq (.block 1 (.seq (.reg [ia 15 11 13 1,ld 16 15,mv 7 16]) (.seq (.seq (.reg [mv 17 7,fa 18 2 1,ld 19 18,ln 20 19,ca 21 94 [S 17,S 20],nt 22 21]) (.cond (S 22) (.seq (.reg [(L,.mv 4 (K (-1)))]) .ret) .skip)) (.reg [mv 23 5,fa 24 2 1,ld 25 24,mv 26 7,ia 27 25 26 5,fa 28 27 3,ld 29 28,bn 30 .add 23 29,mv 5 30])))) (.reg [(L,.bin 31 .add (S 13) (K 1)),mv 13 31]))))
def D0z:X3:=(.seq (.reg [mv 32 5,mv 4 32]) .ret)
def cc206:X3:=(.seq (.reg [bo 2 0,(L,.mv 4 (K 0))]) (.seq (.seq (.reg [lw 8 2 2,ca 9 93 [S 8],nt 10 9]) (.cond (S 10) (.seq (.reg [(L,.mv 4 (K (-1)))]) .ret) .skip)) (.seq (.reg [(L,.mv 5 (K 0))]) (.seq (.seq (.reg [mv 11 1,ln 12 11,(L,.mv 13 (K 0))]) (.block 0 (.loop C17))) D0z))))
theorem F11(a1:N P)(a0:X7):∀(n:U) (v3 v4 r:P),H6 a1 a0 n v3 v4=H r→∀σ:St,σ.kept [2,5,11,12,13] [2] []=⟨[(2,vc (.pb 2 0)),(5,vc (aI v3)),(11,vc (aL (X rI a1))),(12,vc (aI (a1.length:P))),(13,vc (aI v4))],[(2,(dm a0.row))],[]⟩→go Y (.code (.loop C17):: [.blk 0,.code D0z]) (Ret [4] [.sc (.v (.int .i64 r))]) .normal (H σ):=by
 intro n
 induction n with
 | zero=>intro _ _ r h; cases h
 | succ n ih=>
  intro v3 v4 r h σ hσ
  rw[H6] at h
  refine B8 ?_
  rcases ic h with ⟨h5,h⟩|⟨h5,h⟩
  ·obtain⟨x6,h6,h⟩:=ob h
   obtain⟨r7,h7,h⟩:=ob h
   try simp only[hσ,h5,h6,C17,A,B,C,E,F,J]
   refine A2 (E1 _ _ _ h7) W W (uf W) ?_
   rcases ic h with ⟨h8,h⟩|⟨h8,h⟩
   ·obtain⟨x9,h9,h⟩:=ob h
    try simp only[h5,h6,h8,h9,A,B,C,E,F,J]
    refine ih _ _ _ h _ ?_
    try simp only[h5,h6,h8,h9,A,B,C,E,F,J,Z]
   ·try simp only[h5,h6,h8,A,B,C,E,F,J]
    cases h
    trivial
  ·try simp only[hσ,h5,C17,D0z,A,B,C,E,F,J]
   cases h
   trivial
theorem E9e:A6 Y 193=H (cc206.strip,[4],33):=by kernel_rfl
theorem A5a(a0:X7)(a1:N P)(r:P)(h:L0 a0 a1=H r):FC Y 193 [.ag (X7.row a0),.sc (.sl (X rI a1))] [.sc (.v (.int .i64 r))]:=by
 unfold L0 at h
 refine C8 B0 E9e W ?_
 simp only[cc206,A,B,C,E,F,J]
 try simp only[A,B,C,E,F,J]
 refine B3 W W W ?_
 obtain⟨r1,h1,h⟩:=ob h
 try simp only[A,B,C,E,F,J]
 refine A2 (W5 _ _ h1) W W (uf W) ?_
 rcases ic h with ⟨h2,h⟩|⟨h2,h⟩
 ·try simp only[h2,A,B,C,E,F,J]
  refine F11 _ _ _ _ _ _ h _ ?_
  try simp only[h2,A,B,C,E,F,J,Z]
 ·try simp only[h2,A,B,C,E,F,J]
  cases h
  trivial
end Go.Vi
