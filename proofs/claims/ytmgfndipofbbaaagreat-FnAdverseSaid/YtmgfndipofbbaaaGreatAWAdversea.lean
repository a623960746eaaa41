/-
Walks. No condition.
-/
import Derived.Test.YtmgfndipofbbaaaGreatANf
import Derived.Test.YtmgfndipofbbaaaGreatChecked
import Derived.Test.YtmgfndipofbbaaaGreatAFc
import Derived.KernelRfl
namespace Go.Vi
open Go.Proofs
set_option linter.all false
set_option maxRecDepth 4000
set_option maxHeartbeats 2000000
open Nat renaming reduceBEq → A, reduceMul → B, reduceAdd → C, reduceDiv → E, le_of_ble_eq_true → uf
open Int renaming reduceBEq → F
attribute [local irreducible] go AWP
open List renaming map → N, map_nil → P, all_cons → Z, all_nil → I
open Tryz renaming prog → O
open XSegment renaming row → Q
open XPart renaming row → U
open XPoint renaming row → V
open XSurge renaming row → W
open XShip renaming row → X
open XCall renaming row → Y
open XHarbour renaming row → zA
open IntKind renaming wrap → zB
open Bool renaming true → T, false → G
open Option renaming some → H, none → L
theorem B4:Tryz.prog.follows .mixedOrders=T:=by kernel_rfl
/- 81:spec_l01New -/
def cc0:ACode:= .seq (.reg [(L,.keep [0,3,4] [] [])]) (.seq (.seq (.reg [mv 8 4,mv 9 0,ln 10 9,bn 11 .lss 8 10,mv 12 11,(H (12,T),.mv 13 (S 4)),(H (12,T),.bin 14 .lss (S 13) (K 4000)),pa 15 12 14]) (.cond (S 15) .skip (.exit 0))) (.seq (.block 1 (.reg [mv 18 3,(L,.bin 19 .mul (S 18) (K 79)),mv 20 0,mv 21 4,ia 22 20 21 1,ld 23 22,(L,.conv 24 .i64 (S 23)),bn 25 .add 19 24,(L,.bin 26 .add (S 25) (K 7)),(L,.bin 27 .and (S 26) (K 1073741823)),mv 3 27])) (.reg [mv 16 4,(L,.bin 17 .add (S 16) (K 1)),mv 4 17])))
def cc1:ACode:= .seq (.reg [(L,.keep [0,3] [] [])]) (.seq (.reg [mv 28 0,mv 29 3,(L,.build 30 [.nil,aI 0,aI 0] [(0,1,(S 28)),(2,1,(S 29))]),bo 31 30,mv 2 31]) .ret)
def cc2:ACode:=(.seq (.reg [(L,.mv 2 (.c (.v (.sc .undef))))]) (.seq (.reg [mv 5 0,ln 6 5,(L,.bin 7 .add (K 1976) (S 6)),mv 3 7]) (.seq (.seq (.reg [(L,.mv 4 (K 0))]) (.block 0 (.loop cc0))) cc1)))
theorem ww3(a0:List Int)(v1:Int)(r:Xl01Cur)(h:A1t a0 v1=H r)(σ:St)(hσ:σ.kept [0,3] [] []=⟨[(0,vc (aL (N r8 a0))),(3,vc (aI v1))],[],[]⟩):go O (.code cc1:: []) (C6h [2] [.sl (N r8 r.b),.int .i64 r.i,.int .i64 r.h]) .normal (H σ):=by
 unfold A1t at h
 try simp only[hσ,cc1,A,B,C,E,F,J]
 refine B7 rfl rfl rfl ?_
 try simp only[A,B,C,E,F,J]
 cases h
 exact⟨_,31,rfl,rfl,rfl,rfl⟩
theorem ww4(a0:List Int):∀(n:Nat) (v1 v2:Int) (r:Xl01Cur),A0e a0 n v1 v2=H r→∀σ:St,σ.kept [0,3,4] [] []=⟨[(0,vc (aL (N r8 a0))),(3,vc (aI v1)),(4,vc (aI v2))],[],[]⟩→go O (.code (.loop cc0):: [.blk 0,.code cc1]) (C6h [2] [.sl (N r8 r.b),.int .i64 r.i,.int .i64 r.h]) .normal (H σ):=by
 intro n
 induction n with
 | zero=>intro _ _ r h; cases h
 | succ n ih=>
  intro v1 v2 r h σ hσ
  rw[A0e] at h
  refine B8 ?_
  rcases ic h with ⟨h3,h⟩|⟨h3,h⟩
  ·rcases ic h with ⟨h4,h⟩|⟨h4,h⟩
   ·obtain⟨x5,h5,h⟩:=ob h
    try simp only[hσ,h3,h4,h5,cc0,A,B,C,E,F,J]
    refine ih _ _ _ h _ ?_
    try simp only[h3,h4,h5,A,B,C,E,F,J,P]
   ·try simp only[hσ,h3,h4,cc0,A,B,C,E,F,J]
    refine ww3 _ _ _ h _ ?_
    try simp only[h3,h4,A,B,C,E,F,J,P]
  ·try simp only[hσ,h3,cc0,A,B,C,E,F,J]
   refine ww3 _ _ _ h _ ?_
   try simp only[h3,A,B,C,E,F,J,P]
theorem ee5:B0 O 81=H (cc2.strip,[2],32):=by kernel_rfl
theorem B3f(a0:List Int)(r:Xl01Cur)(h:A3e a0=H r):FCn O 81 [.sc (.sl (N r8 a0))] [.sl (N r8 r.b),.int .i64 r.i,.int .i64 r.h]:=by
 unfold A3e at h
 refine D4o (σ:=⟨[(0,vc (aL (N r8 a0)))],[],[]⟩) B4 ee5 rfl rfl ?_
 simp only[cc2]
 try simp only[A,B,C,E,F,J]
 refine ww4 _ _ _ _ _ h _ ?_
 try simp only[A,B,C,E,F,J,P]
/- 178:spec_l01Byte -/
def cc6:ACode:=(.seq (.reg [(L,.mv 2 (K 0))]) (.seq (.reg [mv 4 0,mv 5 0,(L,.nilc 6 (S 5)),fa 7 6 2,ld 8 7,(L,.bin 9 .mul (S 8) (K 6364136223846793005)),(L,.bin 10 .add (S 9) (K 1442695040888963407)),(L,.nilc 11 (S 4)),fa 12 11 2,so 12 10 1]) (.seq (.drw [o0 (mv 13 0),o0 (L,.nilc 14 (S 13)),o0 (fa 15 14 2),o0 (ld 16 15),o0 (L,.bin 17 .shr (S 16) (.c (.v (.sc (.dat (.int .u64 33)))))),o0 (mv 18 0),o0 (L,.nilc 19 (S 18)),o0 (fa 20 19 2),o0 (ld 21 20),o0 (L,.bin 22 .shr (S 21) (.c (.v (.sc (.dat (.int .u64 45)))))),o0 (bn 23 .xor 17 22),o0 (L,.bin 24 .and (S 23) (K 255)),o0 (mv 3 24)]) (.seq (.seq (.drw [o0 (mv 25 0),o0 (L,.nilc 26 (S 25)),o0 (fa 27 26 1),o0 (ld 28 27),o0 (mv 29 0),o0 (L,.nilc 30 (S 29)),o0 (fa 31 30 0),o0 (ld 32 31),o0 (ln 33 32),o0 (bn 34 .lss 28 33)]) (.cond (S 34) (.seq (.drw [o0 (mv 35 3),o0 (mv 36 0),o0 (L,.nilc 37 (S 36)),o0 (fa 38 37 0),o0 (ld 39 38),o0 (mv 40 0),o0 (L,.nilc 41 (S 40)),o0 (fa 42 41 1),o0 (ld 43 42),o0 (ia 44 39 43 1),o0 (ld 45 44),o0 (L,.conv 46 .i64 (S 45)),o0 (bn 47 .add 35 46),o0 (L,.bin 48 .and (S 47) (K 255)),o0 (mv 3 48)]) (.reg [mv 49 0,mv 50 0,(L,.nilc 51 (S 50)),fa 52 51 1,ld 53 52,(L,.bin 54 .add (S 53) (K 1)),(L,.nilc 55 (S 49)),fa 56 55 1,so 56 54 1])) .skip)) (.seq (.reg [mv 57 3,mv 2 57]) .ret)))))
theorem ee7:B0 O 178=H (cc6.strip,[2],58):=by kernel_rfl
theorem A2n(a0:Xl01Cur)(r:Int × Xl01Cur)(h:N7 a0=H r):FCy O 178 [.p] [.sl (N r8 a0.b),.int .i64 a0.i,.int .i64 a0.h] [.sl (N r8 r.2.b),.int .i64 r.2.i,.int .i64 r.2.h] [.sc (.v (.int .i64 r.1))]:=by
 unfold N7 at h
 refine A2v (σ:=⟨[(0,vc (.pb 99999999999 0))],[(99999999999,[aL (N r8 a0.b),aI a0.i,aI a0.h])],[]⟩) B4 ee7 rfl rfl ?_
 simp only[cc6]
 try simp only[A,B,C,E,F,J]
 refine C6 rfl ?_
 try simp only[A,B,C,E,F,J]
 refine C6 rfl ?_
 rcases ic h with ⟨h1,h⟩|⟨h1,h⟩
 ·try simp only[h1,A,B,C,E,F,J]
  refine C6 rfl ?_
  obtain⟨x2,h2,h⟩:=ob h
  try simp only[h1,h2,A,B,C,E,F,J]
  cases h
  trivial
 ·try simp only[h1,A,B,C,E,F,J]
  cases h
  trivial
/- 120:spec_l01Below -/
def cc8:ACode:=(.seq (.reg [(L,.mv 4 (K 0))]) (.seq (.seq (.reg [mv 9 1,(L,.bin 10 .leq (S 9) (K 0))]) (.cond (S 10) (.seq (.reg [(L,.mv 4 (K 0))]) .ret) .skip)) (.seq (.seq (.reg [mv 11 1,(L,.bin 12 .leq (S 11) (K 256))]) (.cond (S 12) (.seq (.reg [mv 13 0,ca 14 178 [S 13],mv 15 1,bn 16 .rem 14 15,mv 4 16]) .ret) .skip)) (.seq (.reg [mv 17 0,ca 18 178 [S 17],mv 5 18]) (.seq (.reg [mv 19 0,ca 20 178 [S 19],mv 6 20]) (.seq (.reg [mv 21 0,ca 22 178 [S 21],mv 7 22]) (.seq (.reg [mv 23 0,ca 24 178 [S 23],mv 8 24]) (.seq (.reg [mv 25 5,(L,.bin 26 .mul (S 25) (K 16777216)),mv 27 6,(L,.bin 28 .mul (S 27) (K 65536)),bn 29 .add 26 28,mv 30 7,(L,.bin 31 .mul (S 30) (K 256)),bn 32 .add 29 31,mv 33 8,bn 34 .add 32 33,mv 35 1,bn 36 .rem 34 35,mv 4 36]) .ret))))))))
theorem ee9:B0 O 120=H (cc8.strip,[4],37):=by kernel_rfl
theorem B9(a0:Xl01Cur)(a1:Int)(r:Int × Xl01Cur)(h:A8 a0 a1=H r):FCy O 120 [.p,.d (.sc (.int .i64 a1))] [.sl (N r8 a0.b),.int .i64 a0.i,.int .i64 a0.h] [.sl (N r8 r.2.b),.int .i64 r.2.i,.int .i64 r.2.h] [.sc (.v (.int .i64 r.1))]:=by
 unfold A8 at h
 refine A2v (σ:=⟨[(0,vc (.pb 99999999999 0)),(1,vc (aI a1))],[(99999999999,[aL (N r8 a0.b),aI a0.i,aI a0.h])],[]⟩) B4 ee9 rfl rfl ?_
 simp only[cc8]
 rcases ic h with ⟨h1,h⟩|⟨h1,h⟩
 ·try simp only[h1,A,B,C,E,F,J]
  cases h
  trivial
 ·rcases ic h with ⟨h2,h⟩|⟨h2,h⟩
  ·obtain⟨r3,h3,h⟩:=ob h
   try simp only[h1,h2,A,B,C,E,F,J]
   refine C3 (A2n _ _ h3) 99999999999 rfl rfl rfl ?_
   obtain⟨h4,h⟩:=A0u h
   try simp only[h1,h2,h4,A,B,C,E,F,J]
   cases h
   trivial
  ·obtain⟨r5,h5,h⟩:=ob h
   try simp only[h1,h2,A,B,C,E,F,J]
   refine C3 (A2n _ _ h5) 99999999999 rfl rfl rfl ?_
   obtain⟨r6,h6,h⟩:=ob h
   try simp only[h1,h2,A,B,C,E,F,J]
   refine C3 (A2n _ _ h6) 99999999999 rfl rfl rfl ?_
   obtain⟨r7,h7,h⟩:=ob h
   try simp only[h1,h2,A,B,C,E,F,J]
   refine C3 (A2n _ _ h7) 99999999999 rfl rfl rfl ?_
   obtain⟨r9,h9,h⟩:=ob h
   try simp only[h1,h2,A,B,C,E,F,J]
   refine C3 (A2n _ _ h9) 99999999999 rfl rfl rfl ?_
   obtain⟨h10,h⟩:=A0u h
   try simp only[h1,h2,h10,A,B,C,E,F,J]
   cases h
   trivial
/- 204:spec_l01Pick -/
def cc10:ACode:=(.seq (.reg [(L,.mv 4 (K 0))]) (.seq (.reg [mv 5 1,mv 6 0,mv 7 1,ln 8 7,ca 9 120 [S 6,S 8],ia 10 5 9 1,ld 11 10,mv 4 11]) .ret))
theorem F58:B0 O 204=H (cc10.strip,[4],12):=by kernel_rfl
theorem B2a(a0:Xl01Cur)(a1:List Int)(r:Int × Xl01Cur)(h:A2h a0 a1=H r):FCy O 204 [.p,.d (.sc (.sl (N rI a1)))] [.sl (N r8 a0.b),.int .i64 a0.i,.int .i64 a0.h] [.sl (N r8 r.2.b),.int .i64 r.2.i,.int .i64 r.2.h] [.sc (.v (.int .i64 r.1))]:=by
 unfold A2h at h
 refine A2v (σ:=⟨[(0,vc (.pb 99999999999 0)),(1,vc (aL (N rI a1)))],[(99999999999,[aL (N r8 a0.b),aI a0.i,aI a0.h])],[]⟩) B4 F58 rfl rfl ?_
 simp only[cc10]
 obtain⟨r1,h1,h⟩:=ob h
 try simp only[A,B,C,E,F,J]
 refine C3 (B9 _ _ _ h1) 99999999999 rfl rfl rfl ?_
 obtain⟨x2,h2,h⟩:=ob h
 try simp only[h2,A,B,C,E,F,J]
 cases h
 trivial
/- 358:spec_l02Part -/
def cc12:ACode:=(.seq (.reg [(L,.alloc 2 [aI 0,aI 0,aI 0])]) (.seq (.reg [mv 4 0,ca 5 120 [S 4,K 300],mv 6 0,(L,.bslice 7 1 [.int .i64 0] 5 [(0,(K 744)),(1,(K 720)),(2,(K 1440)),(3,(K 372)),(4,(K 240))]),(L,.frz 448),ca 8 204 [S 6,S 7],(L,.build 9 [aI 0,aI 0,aI 0] [(0,1,(S 5)),(1,1,(S 8))]),(L,.alloc 3 [aI 0,aI 0,aI 0]),so 3 9 3]) (.seq (.reg [mv 10 0,fa 11 3 1,ld 12 11,ca 13 120 [S 10,S 12],fa 14 3 2,so 14 13 1]) (.seq (.reg [lw 15 3 3,so 2 15 3]) .ret))))
theorem F42:B0 O 358=H (cc12.strip,[.c 2 T 3],16):=by kernel_rfl
theorem B91(a0:Xl01Cur)(r:XPart × Xl01Cur)(h:N6 a0=H r):FCy O 358 [.p] [.sl (N r8 a0.b),.int .i64 a0.i,.int .i64 a0.h] [.sl (N r8 r.2.b),.int .i64 r.2.i,.int .i64 r.2.h] [.ag [.v (.int .i64 r.1.Amp),.v (.int .i64 r.1.Period),.v (.int .i64 r.1.Phase)]]:=by
 unfold N6 at h
 refine A2v (σ:=⟨[(0,vc (.pb 99999999999 0))],[(99999999999,[aL (N r8 a0.b),aI a0.i,aI a0.h])],[]⟩) B4 F42 rfl rfl ?_
 simp only[cc12]
 try simp only[A,B,C,E,F,J]
 refine E0 rfl rfl ?_
 obtain⟨r1,h1,h⟩:=ob h
 try simp only[A,B,C,E,F,J]
 refine C3 (B9 _ _ _ h1) 99999999999 rfl rfl rfl ?_
 try simp only[A,B,C,E,F,J]
 refine D8 (es:=N rI ([(744:Int),(720:Int),(1440:Int),(372:Int),(240:Int)]:List Int)) rfl rfl ?_
 try simp only[A,B,C,E,F,J]
 refine U4 rfl ?_
 obtain⟨r2,h2,h⟩:=ob h
 try simp only[A,B,C,E,F,J]
 refine C3 (B2a _ _ _ h2) 99999999999 rfl rfl rfl ?_
 try simp only[A,B,C,E,F,J]
 refine E0 rfl rfl ?_
 obtain⟨r3,h3,h⟩:=ob h
 try simp only[A,B,C,E,F,J]
 refine C3 (B9 _ _ _ h3) 99999999999 rfl rfl rfl ?_
 try simp only[A,B,C,E,F,J]
 cases h
 try simp only[W9,A,B,C,E,F,J]
 trivial
/- 324:spec_l02Draw -/
def A0t:List (List Nat × AItem):= [([],(L,.faddr 15 (S 3) 1)),([0],(L,.load 16 (S 15) G 1)),([],(L,.mv 17 (S 0))),([2],(L,.call 18 358 [(S 17)])),([3],(L,.bslice 19 3 [.int .i64 0,.int .i64 0,.int .i64 0] 1 [(0,(S 18))])),([1,4,3],(L,.app 20 3 24 (S 16) (S 19))),([0,1,2,3,4,5],(L,.faddr 21 (S 3) 1)),([6,5,5,0,1,2,3,4,5],(L,.store (S 21) (S 20) 1))]
def C82:ACode:= .seq (.reg [(L,.keep [0,2,3,4] [99999999999,2,3] [131136])]) (.seq (.seq (.reg [mv 11 4,(L,.bin 12 .gtr (S 11) (K 0))]) (.cond (S 12) .skip (.exit 0))) (.seq (.block 1 (.any A0t)) (.reg [mv 13 4,(L,.bin 14 .sub (S 13) (K 1)),mv 4 14])))
def D52:ACode:=(.seq (.reg [(L,.frz 131136),lw 22 3 2,so 2 22 2]) .ret)
def cc16:ACode:=(.seq (.reg [(L,.alloc 2 [aI 0,.nil])]) (.seq (.reg [mv 5 0,ca 6 120 [S 5,K 300],(L,.build 7 [aI 0,.nil] [(0,1,(S 6))]),(L,.alloc 3 [aI 0,.nil]),so 3 7 2,(L,.ownb 3 1 131136 3)]) (.seq (.seq (.reg [mv 8 0,ca 9 120 [S 8,K 2],(L,.bin 10 .add (K 1) (S 9)),mv 4 10]) (.block 0 (.loop C82))) D52)))
abbrev D6(v3:Int)(r9:XPart × Xl01Cur)(wo1_:AV)(c0_ c1_:Bool)(c2_ c3_:Bool)(c4_ c5_ c6_:Bool)(bx_:List (Nat × List AC))(rs_:Rows):St:=⟨[(0,vc (.pb 99999999999 0)),(2,vc (.pb 2 0)),(3,vc (.pb 3 0)),(4,vc (aI v3)),(15,bif c0_ then vc (.pb 3 1) else .undef),(16,bif c1_ then wo1_ else .undef),(17,bif c2_ then vc (.pb 99999999999 0) else .undef),(18,bif c3_ then va (dm r9.1.row) else .undef),(19,bif c4_ then vc (.own 1216) else .undef),(20,bif c5_ then vc (.own 131136) else .undef),(21,bif c6_ then vc (.pb 3 1) else .undef)],bx_,rs_⟩
abbrev T5(r1:Int × Xl01Cur)(v3:Int)(v7:List XPart)(r9:XPart × Xl01Cur):St:=(D6 v3 r9 (vc (.undef)) T T T T T T T [(99999999999,(dm r9.2.row)),(2,[aI (0:Int),.nil]),(3,[aI r1.1,.own 131136])] [(131136,3,N U (v7++([r9.1]:List XPart))),(1216,3,N U ([r9.1]:List XPart))])
theorem F5i(r1:Int × Xl01Cur)(v3:Int)(v4:List Int)(v5 v6:Int)(v7:List XPart)(r9:XPart × Xl01Cur)(h9:N6 (⟨v4,v5,v6⟩:Xl01Cur)=H r9)(h10:(D4 v7.length ([r9.1]:List XPart).length 24)=T):∀(f:Nat),E8 O A0t (T5 r1 v3 v7 r9) f [T,T,T,T,T,T,T,T] (D6 v3 r9 (vc (.undef)) T T T T T T T [(99999999999,(dm r9.2.row)),(2,[aI (0:Int),.nil]),(3,[aI r1.1,.own 131136])] [(131136,3,N U (v7++([r9.1]:List XPart))),(1216,3,N U ([r9.1]:List XPart))]):=by
 intro f
 induction f with
 | zero=>intro h; rfl
 | succ f ih=>
  refine B6 ⟨?_,?_,?_,?_,?_,?_,?_,?_,⟨⟩⟩
  ·intro h; cases h
  ·intro h; cases h
  ·intro h; cases h
  ·intro h; cases h
  ·intro h; cases h
  ·intro h; cases h
  ·intro h; cases h
  ·intro h; cases h
theorem F5c(r1:Int × Xl01Cur)(v3:Int)(v4:List Int)(v5 v6:Int)(v7:List XPart)(r9:XPart × Xl01Cur)(h9:N6 (⟨v4,v5,v6⟩:Xl01Cur)=H r9)(h10:(D4 v7.length ([r9.1]:List XPart).length 24)=T):∀(f:Nat) (b0 b6:Bool),E8 O A0t (T5 r1 v3 v7 r9) f [b0,T,T,T,T,T,b6,G] (D6 v3 r9 (vc (.undef)) b0 T T T T T b6 [(99999999999,(dm r9.2.row)),(2,[aI (0:Int),.nil]),(3,[aI r1.1,.undef])] [(131136,3,N U (v7++([r9.1]:List XPart))),(1216,3,N U ([r9.1]:List XPart))]):=by
 intro f
 induction f with
 | zero=>intro b0 b6 h; simp at h
 | succ f ih=>
  intro b0 b6
  refine B6 ⟨?_,?_,?_,?_,?_,?_,?_,?_,⟨⟩⟩
  ·intro h0 hw
   obtain rfl:=hz h0 rfl
   refine np ?_
   try simp only[D6,cdt,cdf,A1,A,B,C,E,F,J]
   exact ih T b6
  ·intro h; cases h
  ·intro h; cases h
  ·intro h; cases h
  ·intro h; cases h
  ·intro h; cases h
  ·intro h0 hw
   obtain rfl:=hz h0 rfl
   obtain rfl:=hq hw 0 rfl rfl
   refine np ?_
   try simp only[D6,cdt,cdf,A1,A,B,C,E,F,J]
   exact ih T T
  ·intro h0 hw
   obtain rfl:=hq hw 0 rfl rfl
   obtain rfl:=hq hw 6 rfl rfl
   refine np ?_
   try simp only[D6,cdt,cdf,A1,A,B,C,E,F,J]
   exact F5i r1 v3 v4 v5 v6 v7 r9 h9 h10 _
theorem F59(r1:Int × Xl01Cur)(v3:Int)(v4:List Int)(v5 v6:Int)(v7:List XPart)(r9:XPart × Xl01Cur)(h9:N6 (⟨v4,v5,v6⟩:Xl01Cur)=H r9)(h10:(D4 v7.length ([r9.1]:List XPart).length 24)=T):∀(f:Nat) (b0 b1:Bool),E8 O A0t (T5 r1 v3 v7 r9) f [b0,b1,T,T,T,G,G,G] (D6 v3 r9 (vc (.own 131136)) b0 b1 T T T G G [(99999999999,(dm r9.2.row)),(2,[aI (0:Int),.nil]),(3,[aI r1.1,.own 131136])] [(131136,3,N U v7),(1216,3,N U ([r9.1]:List XPart))]):=by
 intro f
 induction f with
 | zero=>intro b0 b1 h; simp at h
 | succ f ih=>
  intro b0 b1
  refine B6 ⟨?_,?_,?_,?_,?_,?_,?_,?_,⟨⟩⟩
  ·intro h0 hw
   obtain rfl:=hz h0 rfl
   refine np ?_
   try simp only[D6,cdt,cdf,A1,A,B,C,E,F,J]
   exact ih T b1
  ·intro h0 hw
   obtain rfl:=hz h0 rfl
   obtain rfl:=hq hw 0 rfl rfl
   refine np ?_
   try simp only[D6,cdt,cdf,A1,A,B,C,E,F,J]
   exact ih T T
  ·intro h; cases h
  ·intro h; cases h
  ·intro h; cases h
  ·intro h0 hw
   obtain rfl:=hq hw 1 rfl rfl
   refine np ?_
   try simp only[h10,D6,cdt,cdf,A1,A,B,C,E,F,J]
   exact F5c r1 v3 v4 v5 v6 v7 r9 h9 h10 _ b0 G
  ·intro _ hw; have:=hw 5 (by simp); cases this
  ·intro _ hw; have:=hw 6 (by simp); cases this
theorem F46(r1:Int × Xl01Cur)(v3:Int)(v4:List Int)(v5 v6:Int)(v7:List XPart)(r9:XPart × Xl01Cur)(h9:N6 (⟨v4,v5,v6⟩:Xl01Cur)=H r9)(h10:(D4 v7.length ([r9.1]:List XPart).length 24)=T):∀(f:Nat) (b0 b1:Bool),E8 O A0t (T5 r1 v3 v7 r9) f [b0,b1,T,T,G,G,G,G] (D6 v3 r9 (vc (.own 131136)) b0 b1 T T G G G [(99999999999,(dm r9.2.row)),(2,[aI (0:Int),.nil]),(3,[aI r1.1,.own 131136])] [(131136,3,N U v7)]):=by
 intro f
 induction f with
 | zero=>intro b0 b1 h; simp at h
 | succ f ih=>
  intro b0 b1
  refine B6 ⟨?_,?_,?_,?_,?_,?_,?_,?_,⟨⟩⟩
  ·intro h0 hw
   obtain rfl:=hz h0 rfl
   refine np ?_
   try simp only[D6,cdt,cdf,A1,A,B,C,E,F,J]
   exact ih T b1
  ·intro h0 hw
   obtain rfl:=hz h0 rfl
   obtain rfl:=hq hw 0 rfl rfl
   refine np ?_
   try simp only[D6,cdt,cdf,A1,A,B,C,E,F,J]
   exact ih T T
  ·intro h; cases h
  ·intro h; cases h
  ·intro h0 hw
   refine np ?_
   try simp only[D6,cdt,cdf,A1,A,B,C,E,F,J]
   refine D8 (es:=N U ([r9.1]:List XPart)) rfl (by simp only[St.fresh,Z,I,Q1]; simp[AV.cells,V1.cells,AC.uses]) ?_
   try simp only[A1,A,B,C,E,F,J]
   exact F59 r1 v3 v4 v5 v6 v7 r9 h9 h10 _ b0 b1
  ·intro _ hw; have:=hw 4 (by simp); cases this
  ·intro _ hw; have:=hw 4 (by simp); cases this
  ·intro _ hw; have:=hw 6 (by simp); cases this
theorem F51(r1:Int × Xl01Cur)(v3:Int)(v4:List Int)(v5 v6:Int)(v7:List XPart)(r9:XPart × Xl01Cur)(h9:N6 (⟨v4,v5,v6⟩:Xl01Cur)=H r9)(h10:(D4 v7.length ([r9.1]:List XPart).length 24)=T):∀(f:Nat) (b0 b1 b2:Bool),E8 O A0t (T5 r1 v3 v7 r9) f [b0,b1,b2,G,G,G,G,G] (D6 v3 r9 (vc (.own 131136)) b0 b1 b2 G G G G [(99999999999,[aL (N r8 v4),aI v5,aI v6]),(2,[aI (0:Int),.nil]),(3,[aI r1.1,.own 131136])] [(131136,3,N U v7)]):=by
 intro f
 induction f with
 | zero=>intro b0 b1 b2 h; simp at h
 | succ f ih=>
  intro b0 b1 b2
  refine B6 ⟨?_,?_,?_,?_,?_,?_,?_,?_,⟨⟩⟩
  ·intro h0 hw
   obtain rfl:=hz h0 rfl
   refine np ?_
   try simp only[D6,cdt,cdf,A1,A,B,C,E,F,J]
   exact ih T b1 b2
  ·intro h0 hw
   obtain rfl:=hz h0 rfl
   obtain rfl:=hq hw 0 rfl rfl
   refine np ?_
   try simp only[D6,cdt,cdf,A1,A,B,C,E,F,J]
   exact ih T T b2
  ·intro h0 hw
   obtain rfl:=hz h0 rfl
   refine np ?_
   try simp only[D6,cdt,cdf,A1,A,B,C,E,F,J]
   exact ih b0 b1 T
  ·intro h0 hw
   obtain rfl:=hq hw 2 rfl rfl
   refine np ?_
   try simp only[D6,cdt,cdf,A1,A,B,C,E,F,J]
   refine C3 (B91 _ _ h9) 99999999999 rfl rfl rfl ?_
   try simp only[A1,A,B,C,E,F,J]
   exact F46 r1 v3 v4 v5 v6 v7 r9 h9 h10 _ b0 b1
  ·intro _ hw; have:=hw 3 (by simp); cases this
  ·intro _ hw; have:=hw 4 (by simp); cases this
  ·intro _ hw; have:=hw 3 (by simp); cases this
  ·intro _ hw; have:=hw 6 (by simp); cases this
theorem F4y(r1:Int × Xl01Cur):∀(n:Nat) (v3:Int) (v4:List Int) (v5 v6:Int) (v7:List XPart) (r:XTide × Xl01Cur),X8 r1 n v3 v4 v5 v6 v7=H r→∀σ:St,σ.kept [0,2,3,4] [99999999999,2,3] [131136]=⟨[(0,vc (.pb 99999999999 0)),(2,vc (.pb 2 0)),(3,vc (.pb 3 0)),(4,vc (aI v3))],[(99999999999,[aL (N r8 v4),aI v5,aI v6]),(2,[aI (0:Int),.nil]),(3,[aI r1.1,.own 131136])],[(131136,3,N U v7)]⟩→go O (.code (.loop C82):: [.blk 0,.code D52]) (B2l [.c 2 T 2] [.ag [.v (.int .i64 r.1.Mean),.v (.sl (N U r.1.Parts))]] [.sl (N r8 r.2.b),.int .i64 r.2.i,.int .i64 r.2.h]) .normal (H σ):=by
 intro n
 induction n with
 | zero=>intro _ _ _ _ _ r h; cases h
 | succ n ih=>
  intro v3 v4 v5 v6 v7 r h σ hσ
  rw[X8] at h
  refine B8 ?_
  rcases ic h with ⟨h8,h⟩|⟨h8,h⟩
  ·try simp only[hσ,h8,C82,A,B,C,E,F,J]
   obtain⟨r9,h9,h⟩:=ob h
   obtain⟨h10,h⟩:=E2 h
   refine A37 (ks:= [0,2,3,4]) (bs:= [99999999999,2,3]) (rs:= [131136]) (τ:=(T5 r1 v3 v7 r9)) rfl (F51 r1 v3 v4 v5 v6 v7 r9 h9 h10 _ G G G) ?_
   simp only[T5,D6,cdt]
   try simp only[h8,h10,A,B,C,E,F,J]
   refine ih _ _ _ _ _ _ h _ ?_
   try simp only[h8,h10,A,B,C,E,F,J,P]
  ·try simp only[hσ,h8,C82,D52,A,B,C,E,F,J]
   refine U4 rfl ?_
   try simp only[h8,A,B,C,E,F,J]
   cases h
   try simp only[W9,A,B,C,E,F,J]
   trivial
theorem F5n:B0 O 324=H (cc16.strip,[.c 2 T 2],23):=by kernel_rfl
theorem C0c(a0:Xl01Cur)(r:XTide × Xl01Cur)(h:A4g a0=H r):FCy O 324 [.p] [.sl (N r8 a0.b),.int .i64 a0.i,.int .i64 a0.h] [.sl (N r8 r.2.b),.int .i64 r.2.i,.int .i64 r.2.h] [.ag [.v (.int .i64 r.1.Mean),.v (.sl (N U r.1.Parts))]]:=by
 unfold A4g at h
 refine A2v (σ:=⟨[(0,vc (.pb 99999999999 0))],[(99999999999,[aL (N r8 a0.b),aI a0.i,aI a0.h])],[]⟩) B4 F5n rfl rfl ?_
 simp only[cc16]
 try simp only[A,B,C,E,F,J]
 refine E0 rfl rfl ?_
 obtain⟨r1,h1,h⟩:=ob h
 try simp only[A,B,C,E,F,J]
 refine C3 (B9 _ _ _ h1) 99999999999 rfl rfl rfl ?_
 try simp only[A,B,C,E,F,J]
 refine E0 rfl rfl ?_
 try simp only[A,B,C,E,F,J]
 refine A30 (cs':= [aI r1.1,.own 131136]) rfl rfl rfl rfl ?_
 obtain⟨r2,h2,h⟩:=ob h
 try simp only[A,B,C,E,F,J]
 refine C3 (B9 _ _ _ h2) 99999999999 rfl rfl rfl ?_
 try simp only[A,B,C,E,F,J]
 refine F4y _ _ _ _ _ _ _ _ h _ ?_
 try simp only[A,B,C,E,F,J,P]
/- 260:spec_l03Draw -/
def A0p:List (List Nat × AItem):= [([],(L,.faddr 20 (S 3) 2)),([0],(L,.load 21 (S 20) G 1)),([],(L,.mv 22 (S 4))),([],(L,.mv 23 (S 6))),([],(L,.mv 24 (S 6))),([],(L,.mv 25 (S 0))),([5],(L,.call 26 120 [(S 25),(K 60)])),([4,6],(L,.bin 27 .add (S 24) (S 26))),([2,3,7],(L,.build 28 [aI 0,aI 0,aI 0] [(0,1,(S 22)),(1,1,(S 23)),(2,1,(S 27))])),([8],(L,.bslice 29 3 [.int .i64 0,.int .i64 0,.int .i64 0] 1 [(0,(S 28))])),([1,9,6],(L,.app 30 3 24 (S 21) (S 29))),([0,1,2,3,4,5,6,7,8,9,10],(L,.faddr 31 (S 3) 2)),([11,10,10,0,1,2,3,4,5,6,7,8,9,10],(L,.store (S 31) (S 30) 1))]
def D0u:ACode:= .seq (.reg [(L,.keep [0,2,3,4,5] [99999999999,2,3] [131200])]) (.seq (.seq (.reg [mv 13 5,(L,.bin 14 .gtr (S 13) (K 0))]) (.cond (S 14) .skip (.exit 0))) (.seq (.block 1 (.seq (.reg [mv 17 0,ca 18 120 [S 17,K 60],(L,.bin 19 .sub (S 18) (K 40)),mv 6 19]) (.seq (.any A0p) (.reg [mv 32 4,(L,.bin 33 .add (S 32) (K 100)),mv 34 0,ca 35 120 [S 34,K 700],bn 36 .add 33 35,mv 4 36])))) (.reg [mv 15 5,(L,.bin 16 .sub (S 15) (K 1)),mv 5 16])))
def D6v:ACode:=(.seq (.reg [(L,.frz 131200),lw 37 3 3,so 2 37 3]) .ret)
def cc26:ACode:=(.seq (.reg [(L,.alloc 2 [aI 0,.nil,.nil])]) (.seq (.reg [mv 7 0,ca 8 324 [S 7],(L,.build 9 [aI 0,.nil,.nil] [(0,2,(S 8))]),(L,.alloc 3 [aI 0,.nil,.nil]),so 3 9 3,(L,.ownb 3 2 131200 3)]) (.seq (.reg [(L,.mv 4 (K 0))]) (.seq (.seq (.reg [mv 10 0,ca 11 120 [S 10,K 3],(L,.bin 12 .add (K 1) (S 11)),mv 5 12]) (.block 0 (.loop D0u))) D6v))))
abbrev B2(v3 v4:Int)(r10 r11:Int × Xl01Cur)(wo1_:AV)(c0_ c1_:Bool)(c2_ c3_:Bool)(c4_ c5_:Bool)(c6_ c7_:Bool)(c8_ c9_:Bool)(c10_ c11_:Bool)(bx_:List (Nat × List AC))(rs_:Rows):St:=⟨[(0,vc (.pb 99999999999 0)),(2,vc (.pb 2 0)),(3,vc (.pb 3 0)),(4,vc (aI v3)),(5,vc (aI v4)),(6,vc (aI (zB .i64 (r10.1 - (40:Int))))),(20,bif c0_ then vc (.pb 3 2) else .undef),(21,bif c1_ then wo1_ else .undef),(22,bif c2_ then vc (aI v3) else .undef),(23,bif c3_ then vc (aI (zB .i64 (r10.1 - (40:Int)))) else .undef),(24,bif c4_ then vc (aI (zB .i64 (r10.1 - (40:Int)))) else .undef),(25,bif c5_ then vc (.pb 99999999999 0) else .undef),(26,bif c6_ then vc (aI r11.1) else .undef),(27,bif c7_ then vc (aI (zB .i64 ((zB .i64 (r10.1 - (40:Int)))+r11.1))) else .undef),(28,bif c8_ then va [aI v3,aI (zB .i64 (r10.1 - (40:Int))),aI (zB .i64 ((zB .i64 (r10.1 - (40:Int)))+r11.1))] else .undef),(29,bif c9_ then vc (.own 1856) else .undef),(30,bif c10_ then vc (.own 131200) else .undef),(31,bif c11_ then vc (.pb 3 2) else .undef)],bx_,rs_⟩
abbrev T2(r1:XTide × Xl01Cur)(v3 v4:Int)(v8:List XSurge)(r10 r11:Int × Xl01Cur):St:=(B2 v3 v4 r10 r11 (vc (.undef)) T T T T T T T T T T T T [(99999999999,(dm r11.2.row)),(2,[aI (0:Int),.nil,.nil]),(3,[aI r1.1.Mean,aL (N U r1.1.Parts),.own 131200])] [(131200,3,N W (v8++([(⟨v3,(zB .i64 (r10.1 - (40:Int))),(zB .i64 ((zB .i64 (r10.1 - (40:Int)))+r11.1))⟩:XSurge)]:List XSurge))),(1856,3,N W ([(⟨v3,(zB .i64 (r10.1 - (40:Int))),(zB .i64 ((zB .i64 (r10.1 - (40:Int)))+r11.1))⟩:XSurge)]:List XSurge))])
theorem F5m(r1:XTide × Xl01Cur)(v3 v4:Int)(v8:List XSurge)(r10 r11:Int × Xl01Cur)(h11:A8 r10.2 (60:Int)=H r11)(h12:(D4 v8.length ([(⟨v3,(zB .i64 (r10.1 - (40:Int))),(zB .i64 ((zB .i64 (r10.1 - (40:Int)))+r11.1))⟩:XSurge)]:List XSurge).length 24)=T):∀(f:Nat),E8 O A0p (T2 r1 v3 v4 v8 r10 r11) f [T,T,T,T,T,T,T,T,T,T,T,T,T] (B2 v3 v4 r10 r11 (vc (.undef)) T T T T T T T T T T T T [(99999999999,(dm r11.2.row)),(2,[aI (0:Int),.nil,.nil]),(3,[aI r1.1.Mean,aL (N U r1.1.Parts),.own 131200])] [(131200,3,N W (v8++([(⟨v3,(zB .i64 (r10.1 - (40:Int))),(zB .i64 ((zB .i64 (r10.1 - (40:Int)))+r11.1))⟩:XSurge)]:List XSurge))),(1856,3,N W ([(⟨v3,(zB .i64 (r10.1 - (40:Int))),(zB .i64 ((zB .i64 (r10.1 - (40:Int)))+r11.1))⟩:XSurge)]:List XSurge))]):=by
 intro f
 induction f with
 | zero=>intro h; rfl
 | succ f ih=>
  refine B6 ⟨?_,?_,?_,?_,?_,?_,?_,?_,?_,?_,?_,?_,?_,⟨⟩⟩
  ·intro h; cases h
  ·intro h; cases h
  ·intro h; cases h
  ·intro h; cases h
  ·intro h; cases h
  ·intro h; cases h
  ·intro h; cases h
  ·intro h; cases h
  ·intro h; cases h
  ·intro h; cases h
  ·intro h; cases h
  ·intro h; cases h
  ·intro h; cases h
theorem F47(r1:XTide × Xl01Cur)(v3 v4:Int)(v8:List XSurge)(r10 r11:Int × Xl01Cur)(h11:A8 r10.2 (60:Int)=H r11)(h12:(D4 v8.length ([(⟨v3,(zB .i64 (r10.1 - (40:Int))),(zB .i64 ((zB .i64 (r10.1 - (40:Int)))+r11.1))⟩:XSurge)]:List XSurge).length 24)=T):∀(f:Nat) (b0 b2:Bool) (b3 b4:Bool) (b7 b11:Bool),E8 O A0p (T2 r1 v3 v4 v8 r10 r11) f [b0,T,b2,b3,b4,T,T,b7,T,T,T,b11,G] (B2 v3 v4 r10 r11 (vc (.undef)) b0 T b2 b3 b4 T T b7 T T T b11 [(99999999999,(dm r11.2.row)),(2,[aI (0:Int),.nil,.nil]),(3,[aI r1.1.Mean,aL (N U r1.1.Parts),.undef])] [(131200,3,N W (v8++([(⟨v3,(zB .i64 (r10.1 - (40:Int))),(zB .i64 ((zB .i64 (r10.1 - (40:Int)))+r11.1))⟩:XSurge)]:List XSurge))),(1856,3,N W ([(⟨v3,(zB .i64 (r10.1 - (40:Int))),(zB .i64 ((zB .i64 (r10.1 - (40:Int)))+r11.1))⟩:XSurge)]:List XSurge))]):=by
 intro f
 induction f with
 | zero=>intro b0 b2 b3 b4 b7 b11 h; simp at h
 | succ f ih=>
  intro b0 b2 b3 b4 b7 b11
  refine B6 ⟨?_,?_,?_,?_,?_,?_,?_,?_,?_,?_,?_,?_,?_,⟨⟩⟩
  ·intro h0 hw
   obtain rfl:=hz h0 rfl
   refine np ?_
   try simp only[B2,cdt,cdf,A1,A,B,C,E,F,J]
   exact ih T b2 b3 b4 b7 b11
  ·intro h; cases h
  ·intro h0 hw
   obtain rfl:=hz h0 rfl
   refine np ?_
   try simp only[B2,cdt,cdf,A1,A,B,C,E,F,J]
   exact ih b0 T b3 b4 b7 b11
  ·intro h0 hw
   obtain rfl:=hz h0 rfl
   refine np ?_
   try simp only[B2,cdt,cdf,A1,A,B,C,E,F,J]
   exact ih b0 b2 T b4 b7 b11
  ·intro h0 hw
   obtain rfl:=hz h0 rfl
   refine np ?_
   try simp only[B2,cdt,cdf,A1,A,B,C,E,F,J]
   exact ih b0 b2 b3 T b7 b11
  ·intro h; cases h
  ·intro h; cases h
  ·intro h0 hw
   obtain rfl:=hz h0 rfl
   obtain rfl:=hq hw 4 rfl rfl
   refine np ?_
   try simp only[B2,cdt,cdf,A1,A,B,C,E,F,J]
   exact ih b0 b2 b3 T T b11
  ·intro h; cases h
  ·intro h; cases h
  ·intro h; cases h
  ·intro h0 hw
   obtain rfl:=hz h0 rfl
   obtain rfl:=hq hw 0 rfl rfl
   obtain rfl:=hq hw 2 rfl rfl
   obtain rfl:=hq hw 3 rfl rfl
   obtain rfl:=hq hw 4 rfl rfl
   obtain rfl:=hq hw 7 rfl rfl
   refine np ?_
   try simp only[B2,cdt,cdf,A1,A,B,C,E,F,J]
   exact ih T T T T T T
  ·intro h0 hw
   obtain rfl:=hq hw 0 rfl rfl
   obtain rfl:=hq hw 2 rfl rfl
   obtain rfl:=hq hw 3 rfl rfl
   obtain rfl:=hq hw 4 rfl rfl
   obtain rfl:=hq hw 7 rfl rfl
   obtain rfl:=hq hw 11 rfl rfl
   refine np ?_
   try simp only[B2,cdt,cdf,A1,A,B,C,E,F,J]
   exact F5m r1 v3 v4 v8 r10 r11 h11 h12 _
theorem F5g(r1:XTide × Xl01Cur)(v3 v4:Int)(v8:List XSurge)(r10 r11:Int × Xl01Cur)(h11:A8 r10.2 (60:Int)=H r11)(h12:(D4 v8.length ([(⟨v3,(zB .i64 (r10.1 - (40:Int))),(zB .i64 ((zB .i64 (r10.1 - (40:Int)))+r11.1))⟩:XSurge)]:List XSurge).length 24)=T):∀(f:Nat) (b0 b1:Bool) (b2 b3:Bool) (b4 b7:Bool),E8 O A0p (T2 r1 v3 v4 v8 r10 r11) f [b0,b1,b2,b3,b4,T,T,b7,T,T,G,G,G] (B2 v3 v4 r10 r11 (vc (.own 131200)) b0 b1 b2 b3 b4 T T b7 T T G G [(99999999999,(dm r11.2.row)),(2,[aI (0:Int),.nil,.nil]),(3,[aI r1.1.Mean,aL (N U r1.1.Parts),.own 131200])] [(131200,3,N W v8),(1856,3,N W ([(⟨v3,(zB .i64 (r10.1 - (40:Int))),(zB .i64 ((zB .i64 (r10.1 - (40:Int)))+r11.1))⟩:XSurge)]:List XSurge))]):=by
 intro f
 induction f with
 | zero=>intro b0 b1 b2 b3 b4 b7 h; simp at h
 | succ f ih=>
  intro b0 b1 b2 b3 b4 b7
  refine B6 ⟨?_,?_,?_,?_,?_,?_,?_,?_,?_,?_,?_,?_,?_,⟨⟩⟩
  ·intro h0 hw
   obtain rfl:=hz h0 rfl
   refine np ?_
   try simp only[B2,cdt,cdf,A1,A,B,C,E,F,J]
   exact ih T b1 b2 b3 b4 b7
  ·intro h0 hw
   obtain rfl:=hz h0 rfl
   obtain rfl:=hq hw 0 rfl rfl
   refine np ?_
   try simp only[B2,cdt,cdf,A1,A,B,C,E,F,J]
   exact ih T T b2 b3 b4 b7
  ·intro h0 hw
   obtain rfl:=hz h0 rfl
   refine np ?_
   try simp only[B2,cdt,cdf,A1,A,B,C,E,F,J]
   exact ih b0 b1 T b3 b4 b7
  ·intro h0 hw
   obtain rfl:=hz h0 rfl
   refine np ?_
   try simp only[B2,cdt,cdf,A1,A,B,C,E,F,J]
   exact ih b0 b1 b2 T b4 b7
  ·intro h0 hw
   obtain rfl:=hz h0 rfl
   refine np ?_
   try simp only[B2,cdt,cdf,A1,A,B,C,E,F,J]
   exact ih b0 b1 b2 b3 T b7
  ·intro h; cases h
  ·intro h; cases h
  ·intro h0 hw
   obtain rfl:=hz h0 rfl
   obtain rfl:=hq hw 4 rfl rfl
   refine np ?_
   try simp only[B2,cdt,cdf,A1,A,B,C,E,F,J]
   exact ih b0 b1 b2 b3 T T
  ·intro h; cases h
  ·intro h; cases h
  ·intro h0 hw
   obtain rfl:=hq hw 1 rfl rfl
   refine np ?_
   try simp only[h12,B2,cdt,cdf,A1,A,B,C,E,F,J]
   exact F47 r1 v3 v4 v8 r10 r11 h11 h12 _ b0 b2 b3 b4 b7 G
  ·intro _ hw; have:=hw 10 (by simp); cases this
  ·intro _ hw; have:=hw 11 (by simp); cases this
theorem F41(r1:XTide × Xl01Cur)(v3 v4:Int)(v8:List XSurge)(r10 r11:Int × Xl01Cur)(h11:A8 r10.2 (60:Int)=H r11)(h12:(D4 v8.length ([(⟨v3,(zB .i64 (r10.1 - (40:Int))),(zB .i64 ((zB .i64 (r10.1 - (40:Int)))+r11.1))⟩:XSurge)]:List XSurge).length 24)=T):∀(f:Nat) (b0 b1:Bool) (b2 b3:Bool) (b4 b7 b8:Bool),E8 O A0p (T2 r1 v3 v4 v8 r10 r11) f [b0,b1,b2,b3,b4,T,T,b7,b8,G,G,G,G] (B2 v3 v4 r10 r11 (vc (.own 131200)) b0 b1 b2 b3 b4 T T b7 b8 G G G [(99999999999,(dm r11.2.row)),(2,[aI (0:Int),.nil,.nil]),(3,[aI r1.1.Mean,aL (N U r1.1.Parts),.own 131200])] [(131200,3,N W v8)]):=by
 intro f
 induction f with
 | zero=>intro b0 b1 b2 b3 b4 b7 b8 h; simp at h
 | succ f ih=>
  intro b0 b1 b2 b3 b4 b7 b8
  refine B6 ⟨?_,?_,?_,?_,?_,?_,?_,?_,?_,?_,?_,?_,?_,⟨⟩⟩
  ·intro h0 hw
   obtain rfl:=hz h0 rfl
   refine np ?_
   try simp only[B2,cdt,cdf,A1,A,B,C,E,F,J]
   exact ih T b1 b2 b3 b4 b7 b8
  ·intro h0 hw
   obtain rfl:=hz h0 rfl
   obtain rfl:=hq hw 0 rfl rfl
   refine np ?_
   try simp only[B2,cdt,cdf,A1,A,B,C,E,F,J]
   exact ih T T b2 b3 b4 b7 b8
  ·intro h0 hw
   obtain rfl:=hz h0 rfl
   refine np ?_
   try simp only[B2,cdt,cdf,A1,A,B,C,E,F,J]
   exact ih b0 b1 T b3 b4 b7 b8
  ·intro h0 hw
   obtain rfl:=hz h0 rfl
   refine np ?_
   try simp only[B2,cdt,cdf,A1,A,B,C,E,F,J]
   exact ih b0 b1 b2 T b4 b7 b8
  ·intro h0 hw
   obtain rfl:=hz h0 rfl
   refine np ?_
   try simp only[B2,cdt,cdf,A1,A,B,C,E,F,J]
   exact ih b0 b1 b2 b3 T b7 b8
  ·intro h; cases h
  ·intro h; cases h
  ·intro h0 hw
   obtain rfl:=hz h0 rfl
   obtain rfl:=hq hw 4 rfl rfl
   refine np ?_
   try simp only[B2,cdt,cdf,A1,A,B,C,E,F,J]
   exact ih b0 b1 b2 b3 T T b8
  ·intro h0 hw
   obtain rfl:=hz h0 rfl
   obtain rfl:=hq hw 2 rfl rfl
   obtain rfl:=hq hw 3 rfl rfl
   obtain rfl:=hq hw 7 rfl rfl
   refine np ?_
   try simp only[B2,cdt,cdf,A1,A,B,C,E,F,J]
   exact ih b0 b1 T T b4 T T
  ·intro h0 hw
   obtain rfl:=hq hw 8 rfl rfl
   refine np ?_
   try simp only[B2,cdt,cdf,A1,A,B,C,E,F,J]
   refine D8 (es:=N W ([(⟨v3,(zB .i64 (r10.1 - (40:Int))),(zB .i64 ((zB .i64 (r10.1 - (40:Int)))+r11.1))⟩:XSurge)]:List XSurge)) rfl (by simp only[St.fresh,Z,I,Q1]; simp[AV.cells,V1.cells,AC.uses]) ?_
   try simp only[A1,A,B,C,E,F,J]
   exact F5g r1 v3 v4 v8 r10 r11 h11 h12 _ b0 b1 b2 b3 b4 b7
  ·intro _ hw; have:=hw 9 (by simp); cases this
  ·intro _ hw; have:=hw 9 (by simp); cases this
  ·intro _ hw; have:=hw 11 (by simp); cases this
theorem F5w(r1:XTide × Xl01Cur)(v3 v4:Int)(v8:List XSurge)(r10 r11:Int × Xl01Cur)(h11:A8 r10.2 (60:Int)=H r11)(h12:(D4 v8.length ([(⟨v3,(zB .i64 (r10.1 - (40:Int))),(zB .i64 ((zB .i64 (r10.1 - (40:Int)))+r11.1))⟩:XSurge)]:List XSurge).length 24)=T):∀(f:Nat) (b0 b1:Bool) (b2 b3:Bool) (b4 b5:Bool),E8 O A0p (T2 r1 v3 v4 v8 r10 r11) f [b0,b1,b2,b3,b4,b5,G,G,G,G,G,G,G] (B2 v3 v4 r10 r11 (vc (.own 131200)) b0 b1 b2 b3 b4 b5 G G G G G G [(99999999999,(dm r10.2.row)),(2,[aI (0:Int),.nil,.nil]),(3,[aI r1.1.Mean,aL (N U r1.1.Parts),.own 131200])] [(131200,3,N W v8)]):=by
 intro f
 induction f with
 | zero=>intro b0 b1 b2 b3 b4 b5 h; simp at h
 | succ f ih=>
  intro b0 b1 b2 b3 b4 b5
  refine B6 ⟨?_,?_,?_,?_,?_,?_,?_,?_,?_,?_,?_,?_,?_,⟨⟩⟩
  ·intro h0 hw
   obtain rfl:=hz h0 rfl
   refine np ?_
   try simp only[B2,cdt,cdf,A1,A,B,C,E,F,J]
   exact ih T b1 b2 b3 b4 b5
  ·intro h0 hw
   obtain rfl:=hz h0 rfl
   obtain rfl:=hq hw 0 rfl rfl
   refine np ?_
   try simp only[B2,cdt,cdf,A1,A,B,C,E,F,J]
   exact ih T T b2 b3 b4 b5
  ·intro h0 hw
   obtain rfl:=hz h0 rfl
   refine np ?_
   try simp only[B2,cdt,cdf,A1,A,B,C,E,F,J]
   exact ih b0 b1 T b3 b4 b5
  ·intro h0 hw
   obtain rfl:=hz h0 rfl
   refine np ?_
   try simp only[B2,cdt,cdf,A1,A,B,C,E,F,J]
   exact ih b0 b1 b2 T b4 b5
  ·intro h0 hw
   obtain rfl:=hz h0 rfl
   refine np ?_
   try simp only[B2,cdt,cdf,A1,A,B,C,E,F,J]
   exact ih b0 b1 b2 b3 T b5
  ·intro h0 hw
   obtain rfl:=hz h0 rfl
   refine np ?_
   try simp only[B2,cdt,cdf,A1,A,B,C,E,F,J]
   exact ih b0 b1 b2 b3 b4 T
  ·intro h0 hw
   obtain rfl:=hq hw 5 rfl rfl
   refine np ?_
   try simp only[B2,cdt,cdf,A1,A,B,C,E,F,J]
   refine C3 (B9 _ _ _ h11) 99999999999 rfl rfl rfl ?_
   try simp only[A1,A,B,C,E,F,J]
   exact F41 r1 v3 v4 v8 r10 r11 h11 h12 _ b0 b1 b2 b3 b4 G G
  ·intro _ hw; have:=hw 6 (by simp); cases this
  ·intro _ hw; have:=hw 7 (by simp); cases this
  ·intro _ hw; have:=hw 8 (by simp); cases this
  ·intro _ hw; have:=hw 9 (by simp); cases this
  ·intro _ hw; have:=hw 6 (by simp); cases this
  ·intro _ hw; have:=hw 11 (by simp); cases this
theorem F5h(r1:XTide × Xl01Cur):∀(n:Nat) (v3 v4:Int) (v5:List Int) (v6 v7:Int) (v8:List XSurge) (r:XForecast × Xl01Cur),P0 r1 n v3 v4 v5 v6 v7 v8=H r→∀σ:St,σ.kept [0,2,3,4,5] [99999999999,2,3] [131200]=⟨[(0,vc (.pb 99999999999 0)),(2,vc (.pb 2 0)),(3,vc (.pb 3 0)),(4,vc (aI v3)),(5,vc (aI v4))],[(99999999999,[aL (N r8 v5),aI v6,aI v7]),(2,[aI (0:Int),.nil,.nil]),(3,[aI r1.1.Mean,aL (N U r1.1.Parts),.own 131200])],[(131200,3,N W v8)]⟩→go O (.code (.loop D0u):: [.blk 0,.code D6v]) (B2l [.c 2 T 3] [.ag [.v (.int .i64 r.1.Tide.Mean),.v (.sl (N U r.1.Tide.Parts)),.v (.sl (N W r.1.Surges))]] [.sl (N r8 r.2.b),.int .i64 r.2.i,.int .i64 r.2.h]) .normal (H σ):=by
 intro n
 induction n with
 | zero=>intro _ _ _ _ _ _ r h; cases h
 | succ n ih=>
  intro v3 v4 v5 v6 v7 v8 r h σ hσ
  rw[P0] at h
  refine B8 ?_
  rcases ic h with ⟨h9,h⟩|⟨h9,h⟩
  ·obtain⟨r10,h10,h⟩:=ob h
   try simp only[hσ,h9,D0u,A,B,C,E,F,J]
   refine C3 (B9 _ _ _ h10) 99999999999 rfl rfl rfl ?_
   try simp only[h9,A,B,C,E,F,J]
   obtain⟨r11,h11,h⟩:=ob h
   obtain⟨h12,h⟩:=E2 h
   refine A37 (ks:= [0,2,3,4,5,6]) (bs:= [99999999999,2,3]) (rs:= [131200]) (τ:=(T2 r1 v3 v4 v8 r10 r11)) rfl (F5w r1 v3 v4 v8 r10 r11 h11 h12 _ G G G G G G) ?_
   simp only[T2,B2,cdt]
   obtain⟨r13,h13,h⟩:=ob h
   try simp only[h9,h12,A,B,C,E,F,J]
   refine C3 (B9 _ _ _ h13) 99999999999 rfl rfl rfl ?_
   try simp only[h9,h12,A,B,C,E,F,J]
   refine ih _ _ _ _ _ _ _ h _ ?_
   try simp only[h9,h12,A,B,C,E,F,J,P]
  ·try simp only[hσ,h9,D0u,D6v,A,B,C,E,F,J]
   refine U4 rfl ?_
   try simp only[h9,A,B,C,E,F,J]
   cases h
   try simp only[W9,A,B,C,E,F,J]
   trivial
theorem F44:B0 O 260=H (cc26.strip,[.c 2 T 3],38):=by kernel_rfl
theorem B9x(a0:Xl01Cur)(r:XForecast × Xl01Cur)(h:A2j a0=H r):FCy O 260 [.p] [.sl (N r8 a0.b),.int .i64 a0.i,.int .i64 a0.h] [.sl (N r8 r.2.b),.int .i64 r.2.i,.int .i64 r.2.h] [.ag [.v (.int .i64 r.1.Tide.Mean),.v (.sl (N U r.1.Tide.Parts)),.v (.sl (N W r.1.Surges))]]:=by
 unfold A2j at h
 refine A2v (σ:=⟨[(0,vc (.pb 99999999999 0))],[(99999999999,[aL (N r8 a0.b),aI a0.i,aI a0.h])],[]⟩) B4 F44 rfl rfl ?_
 simp only[cc26]
 try simp only[A,B,C,E,F,J]
 refine E0 rfl rfl ?_
 obtain⟨r1,h1,h⟩:=ob h
 try simp only[A,B,C,E,F,J]
 refine C3 (C0c _ _ h1) 99999999999 rfl rfl rfl ?_
 try simp only[A,B,C,E,F,J]
 refine E0 rfl rfl ?_
 try simp only[A,B,C,E,F,J]
 refine A30 (cs':= [aI r1.1.Mean,aL (N U r1.1.Parts),.own 131200]) rfl rfl rfl rfl ?_
 obtain⟨r2,h2,h⟩:=ob h
 try simp only[A,B,C,E,F,J]
 refine C3 (B9 _ _ _ h2) 99999999999 rfl rfl rfl ?_
 try simp only[A,B,C,E,F,J]
 refine F5h _ _ _ _ _ _ _ _ _ h _ ?_
 try simp only[A,B,C,E,F,J,P]
/- 176:spec_l01Once -/
def cc34:ACode:=(.seq (.reg [(L,.mv 4 (KB G))]) (.seq (.reg [mv 5 0,mv 6 1,ca 7 120 [S 5,S 6],(L,.bin 8 .eql (S 7) (K 0)),mv 4 8]) .ret))
theorem F56:B0 O 176=H (cc34.strip,[4],9):=by kernel_rfl
theorem Y8(a0:Xl01Cur)(a1:Int)(r:Bool × Xl01Cur)(h:I7 a0 a1=H r):FCy O 176 [.p,.d (.sc (.int .i64 a1))] [.sl (N r8 a0.b),.int .i64 a0.i,.int .i64 a0.h] [.sl (N r8 r.2.b),.int .i64 r.2.i,.int .i64 r.2.h] [.sc (.v (.bool r.1))]:=by
 unfold I7 at h
 refine A2v (σ:=⟨[(0,vc (.pb 99999999999 0)),(1,vc (aI a1))],[(99999999999,[aL (N r8 a0.b),aI a0.i,aI a0.h])],[]⟩) B4 F56 rfl rfl ?_
 simp only[cc34]
 obtain⟨r1,h1,h⟩:=ob h
 try simp only[A,B,C,E,F,J]
 refine C3 (B9 _ _ _ h1) 99999999999 rfl rfl rfl ?_
 try simp only[A,B,C,E,F,J]
 cases h
 trivial
/- 261:spec_l05Draw -/
def V4:List (List Nat × AItem):= [([],(L,.faddr 39 (S 3) 1)),([0],(L,.load 40 (S 39) G 1)),([],(L,.mv 41 (S 0))),([2],(L,.call 42 120 [(S 41),(K 300)])),([3],(L,.bin 43 .add (K 700) (S 42))),([],(L,.mv 44 (S 0))),([5,3],(L,.call 45 120 [(S 44),(K 30)])),([6],(L,.bin 46 .add (K 20) (S 45))),([4,7],(L,.build 47 [aI 0,aI 0,aI 0,aI 0,aB G] [(0,1,(K 3)),(1,1,(K 1)),(2,1,(S 43)),(3,1,(S 46)),(4,1,(KB T))])),([8],(L,.bslice 48 5 [.int .i64 0,.int .i64 0,.int .i64 0,.int .i64 0,.bool G] 1 [(0,(S 47))])),([1,9,6],(L,.app 49 5 40 (S 40) (S 48))),([0,1,2,3,4,5,6,7,8,9,10],(L,.faddr 50 (S 3) 1)),([11,10,10,0,1,2,3,4,5,6,7,8,9,10],(L,.store (S 50) (S 49) 1))]
def A0s:List (List Nat × AItem):= [([],(L,.faddr 59 (S 3) 1)),([0],(L,.load 60 (S 59) G 1)),([],(L,.mv 61 (S 0))),([2],(L,.call 62 120 [(S 61),(K 300)])),([3],(L,.bin 63 .add (K 800) (S 62))),([4],(L,.build 64 [aI 0,aI 0,aI 0,aI 0,aB G] [(0,1,(K 2)),(1,1,(K 4)),(2,1,(S 63)),(3,1,(K 15))])),([5],(L,.bslice 65 5 [.int .i64 0,.int .i64 0,.int .i64 0,.int .i64 0,.bool G] 1 [(0,(S 64))])),([1,6,3],(L,.app 66 5 40 (S 60) (S 65))),([0,1,2,3,4,5,6,7],(L,.faddr 67 (S 3) 1)),([8,7,7,0,1,2,3,4,5,6,7],(L,.store (S 67) (S 66) 1))]
def D8d:ACode:= .seq (.reg [(L,.keep [0,2,3] [99999999999,2,3] [640,2240])]) (.seq (.seq (.reg [mv 51 0,ca 52 176 [S 51,K 3]]) (.cond (S 52) (.seq (.reg [fa 53 3 0,ld 54 53,(L,.build 55 [aS [],aB G] [(0,1,(KS [100,111,99,107])),(1,1,(KB T))]),(L,.bslice 56 2 [.str [],.bool G] 1 [(0,(S 55))]),(L,.app 57 2 24 (S 54) (S 56)),fa 58 3 0,so 58 57 1]) (.any A0s)) .skip)) (.seq (.reg [(L,.frz 640),(L,.frz 2240),lw 68 3 2,so 2 68 2]) .ret))
def cc37:ACode:=(.seq (.reg [(L,.alloc 2 [.nil,.nil])]) (.seq (.reg [(L,.build 4 [aS [],aB G] [(0,1,(KS [115,101,97])),(1,1,(KB T))]),(L,.build 5 [aS [],aB G] [(0,1,(KS [98,97,114]))]),mv 6 0,ca 7 176 [S 6,K 2],(L,.build 8 [aS [],aB G] [(0,1,(KS [114,111,97,100])),(1,1,(S 7))]),(L,.build 9 [aS [],aB G] [(0,1,(KS [113,117,97,121])),(1,1,(KB T))]),(L,.bslice 10 2 [.str [],.bool G] 4 [(0,(S 4)),(1,(S 5)),(2,(S 8)),(3,(S 9))]),(L,.build 11 [.nil,.nil] [(0,1,(S 10))]),(L,.alloc 3 [.nil,.nil]),so 3 11 2]) (.seq (.reg [mv 12 0,ca 13 120 [S 12,K 300],(L,.bin 14 .add (K 900) (S 13)),mv 15 0,ca 16 120 [S 15,K 40],(L,.bin 17 .add (K 10) (S 16)),(L,.build 18 [aI 0,aI 0,aI 0,aI 0,aB G] [(0,1,(K 0)),(1,1,(K 1)),(2,1,(S 14)),(3,1,(S 17))]),mv 19 0,ca 20 120 [S 19,K 300],(L,.bin 21 .add (K 800) (S 20)),mv 22 0,ca 23 120 [S 22,K 30],(L,.bin 24 .add (K 10) (S 23)),mv 25 0,ca 26 176 [S 25,K 2],(L,.build 27 [aI 0,aI 0,aI 0,aI 0,aB G] [(0,1,(K 1)),(1,1,(K 2)),(2,1,(S 21)),(3,1,(S 24)),(4,1,(S 26))]),mv 28 0,ca 29 120 [S 28,K 200],(L,.bin 30 .add (K 900) (S 29)),mv 31 0,ca 32 120 [S 31,K 20],(L,.bin 33 .add (K 5) (S 32)),(L,.build 34 [aI 0,aI 0,aI 0,aI 0,aB G] [(0,1,(K 2)),(1,1,(K 3)),(2,1,(S 30)),(3,1,(S 33))]),(L,.bslice 35 5 [.int .i64 0,.int .i64 0,.int .i64 0,.int .i64 0,.bool G] 3 [(0,(S 18)),(1,(S 27)),(2,(S 34))]),fa 36 3 1,so 36 35 1]) (.seq (.seq (.reg [mv 37 0,ca 38 176 [S 37,K 3]]) (.cond (S 38) (.any V4) .skip)) D8d))))
abbrev B3(r12 r13:Int × Xl01Cur)(wo1_:AV)(c0_ c1_:Bool)(c2_ c3_:Bool)(c4_ c5_:Bool)(c6_ c7_:Bool)(c8_ c9_:Bool)(c10_ c11_:Bool)(bx_:List (Nat × List AC))(rs_:Rows):St:=⟨[(0,vc (.pb 99999999999 0)),(2,vc (.pb 2 0)),(3,vc (.pb 3 0)),(39,bif c0_ then vc (.pb 3 1) else .undef),(40,bif c1_ then wo1_ else .undef),(41,bif c2_ then vc (.pb 99999999999 0) else .undef),(42,bif c3_ then vc (aI r12.1) else .undef),(43,bif c4_ then vc (aI (zB .i64 ((700:Int)+r12.1))) else .undef),(44,bif c5_ then vc (.pb 99999999999 0) else .undef),(45,bif c6_ then vc (aI r13.1) else .undef),(46,bif c7_ then vc (aI (zB .i64 ((20:Int)+r13.1))) else .undef),(47,bif c8_ then va [aI (3:Int),aI (1:Int),aI (zB .i64 ((700:Int)+r12.1)),aI (zB .i64 ((20:Int)+r13.1)),aB T] else .undef),(48,bif c9_ then vc (.own 3072) else .undef),(49,bif c10_ then vc (.own 2240) else .undef),(50,bif c11_ then vc (.pb 3 1) else .undef)],bx_,rs_⟩
abbrev O5(r1:Bool × Xl01Cur)(r2 r3:Int × Xl01Cur)(r4 r5:Int × Xl01Cur)(r6:Bool × Xl01Cur)(r7 r9:Int × Xl01Cur)(r12 r13:Int × Xl01Cur):St:=(B3 r12 r13 (vc (.undef)) T T T T T T T T T T T T [(99999999999,(dm r13.2.row)),(2,[.nil,.nil]),(3,[.own 640,.own 2240])] [(640,2,N V ([(⟨([115,101,97]:List UInt8),T⟩:XPoint),(⟨([98,97,114]:List UInt8),G⟩:XPoint),(⟨([114,111,97,100]:List UInt8),r1.1⟩:XPoint),(⟨([113,117,97,121]:List UInt8),T⟩:XPoint)]:List XPoint)),(2240,5,N Q (([(⟨(0:Int),(1:Int),(zB .i64 ((900:Int)+r2.1)),(zB .i64 ((10:Int)+r3.1)),G⟩:XSegment),(⟨(1:Int),(2:Int),(zB .i64 ((800:Int)+r4.1)),(zB .i64 ((10:Int)+r5.1)),r6.1⟩:XSegment),(⟨(2:Int),(3:Int),(zB .i64 ((900:Int)+r7.1)),(zB .i64 ((5:Int)+r9.1)),G⟩:XSegment)]:List XSegment)++([(⟨(3:Int),(1:Int),(zB .i64 ((700:Int)+r12.1)),(zB .i64 ((20:Int)+r13.1)),T⟩:XSegment)]:List XSegment))),(3072,5,N Q ([(⟨(3:Int),(1:Int),(zB .i64 ((700:Int)+r12.1)),(zB .i64 ((20:Int)+r13.1)),T⟩:XSegment)]:List XSegment))])
theorem F5l(r1:Bool × Xl01Cur)(r2 r3:Int × Xl01Cur)(r4 r5:Int × Xl01Cur)(r6:Bool × Xl01Cur)(r7 r9:Int × Xl01Cur)(r10:Bool × Xl01Cur)(r12 r13:Int × Xl01Cur)(h12:A8 r10.2 (300:Int)=H r12)(h13:A8 r12.2 (30:Int)=H r13)(h14:(D4 ([(⟨(0:Int),(1:Int),(zB .i64 ((900:Int)+r2.1)),(zB .i64 ((10:Int)+r3.1)),G⟩:XSegment),(⟨(1:Int),(2:Int),(zB .i64 ((800:Int)+r4.1)),(zB .i64 ((10:Int)+r5.1)),r6.1⟩:XSegment),(⟨(2:Int),(3:Int),(zB .i64 ((900:Int)+r7.1)),(zB .i64 ((5:Int)+r9.1)),G⟩:XSegment)]:List XSegment).length ([(⟨(3:Int),(1:Int),(zB .i64 ((700:Int)+r12.1)),(zB .i64 ((20:Int)+r13.1)),T⟩:XSegment)]:List XSegment).length 40)=T):∀(f:Nat),E8 O V4 (O5 r1 r2 r3 r4 r5 r6 r7 r9 r12 r13) f [T,T,T,T,T,T,T,T,T,T,T,T,T] (B3 r12 r13 (vc (.undef)) T T T T T T T T T T T T [(99999999999,(dm r13.2.row)),(2,[.nil,.nil]),(3,[.own 640,.own 2240])] [(640,2,N V ([(⟨([115,101,97]:List UInt8),T⟩:XPoint),(⟨([98,97,114]:List UInt8),G⟩:XPoint),(⟨([114,111,97,100]:List UInt8),r1.1⟩:XPoint),(⟨([113,117,97,121]:List UInt8),T⟩:XPoint)]:List XPoint)),(2240,5,N Q (([(⟨(0:Int),(1:Int),(zB .i64 ((900:Int)+r2.1)),(zB .i64 ((10:Int)+r3.1)),G⟩:XSegment),(⟨(1:Int),(2:Int),(zB .i64 ((800:Int)+r4.1)),(zB .i64 ((10:Int)+r5.1)),r6.1⟩:XSegment),(⟨(2:Int),(3:Int),(zB .i64 ((900:Int)+r7.1)),(zB .i64 ((5:Int)+r9.1)),G⟩:XSegment)]:List XSegment)++([(⟨(3:Int),(1:Int),(zB .i64 ((700:Int)+r12.1)),(zB .i64 ((20:Int)+r13.1)),T⟩:XSegment)]:List XSegment))),(3072,5,N Q ([(⟨(3:Int),(1:Int),(zB .i64 ((700:Int)+r12.1)),(zB .i64 ((20:Int)+r13.1)),T⟩:XSegment)]:List XSegment))]):=by
 intro f
 induction f with
 | zero=>intro h; rfl
 | succ f ih=>
  refine B6 ⟨?_,?_,?_,?_,?_,?_,?_,?_,?_,?_,?_,?_,?_,⟨⟩⟩
  ·intro h; cases h
  ·intro h; cases h
  ·intro h; cases h
  ·intro h; cases h
  ·intro h; cases h
  ·intro h; cases h
  ·intro h; cases h
  ·intro h; cases h
  ·intro h; cases h
  ·intro h; cases h
  ·intro h; cases h
  ·intro h; cases h
  ·intro h; cases h
theorem F6a(r1:Bool × Xl01Cur)(r2 r3:Int × Xl01Cur)(r4 r5:Int × Xl01Cur)(r6:Bool × Xl01Cur)(r7 r9:Int × Xl01Cur)(r10:Bool × Xl01Cur)(r12 r13:Int × Xl01Cur)(h12:A8 r10.2 (300:Int)=H r12)(h13:A8 r12.2 (30:Int)=H r13)(h14:(D4 ([(⟨(0:Int),(1:Int),(zB .i64 ((900:Int)+r2.1)),(zB .i64 ((10:Int)+r3.1)),G⟩:XSegment),(⟨(1:Int),(2:Int),(zB .i64 ((800:Int)+r4.1)),(zB .i64 ((10:Int)+r5.1)),r6.1⟩:XSegment),(⟨(2:Int),(3:Int),(zB .i64 ((900:Int)+r7.1)),(zB .i64 ((5:Int)+r9.1)),G⟩:XSegment)]:List XSegment).length ([(⟨(3:Int),(1:Int),(zB .i64 ((700:Int)+r12.1)),(zB .i64 ((20:Int)+r13.1)),T⟩:XSegment)]:List XSegment).length 40)=T):∀(f:Nat) (b0 b4:Bool) (b7 b11:Bool),E8 O V4 (O5 r1 r2 r3 r4 r5 r6 r7 r9 r12 r13) f [b0,T,T,T,b4,T,T,b7,T,T,T,b11,G] (B3 r12 r13 (vc (.undef)) b0 T T T b4 T T b7 T T T b11 [(99999999999,(dm r13.2.row)),(2,[.nil,.nil]),(3,[.own 640,.undef])] [(640,2,N V ([(⟨([115,101,97]:List UInt8),T⟩:XPoint),(⟨([98,97,114]:List UInt8),G⟩:XPoint),(⟨([114,111,97,100]:List UInt8),r1.1⟩:XPoint),(⟨([113,117,97,121]:List UInt8),T⟩:XPoint)]:List XPoint)),(2240,5,N Q (([(⟨(0:Int),(1:Int),(zB .i64 ((900:Int)+r2.1)),(zB .i64 ((10:Int)+r3.1)),G⟩:XSegment),(⟨(1:Int),(2:Int),(zB .i64 ((800:Int)+r4.1)),(zB .i64 ((10:Int)+r5.1)),r6.1⟩:XSegment),(⟨(2:Int),(3:Int),(zB .i64 ((900:Int)+r7.1)),(zB .i64 ((5:Int)+r9.1)),G⟩:XSegment)]:List XSegment)++([(⟨(3:Int),(1:Int),(zB .i64 ((700:Int)+r12.1)),(zB .i64 ((20:Int)+r13.1)),T⟩:XSegment)]:List XSegment))),(3072,5,N Q ([(⟨(3:Int),(1:Int),(zB .i64 ((700:Int)+r12.1)),(zB .i64 ((20:Int)+r13.1)),T⟩:XSegment)]:List XSegment))]):=by
 intro f
 induction f with
 | zero=>intro b0 b4 b7 b11 h; simp at h
 | succ f ih=>
  intro b0 b4 b7 b11
  refine B6 ⟨?_,?_,?_,?_,?_,?_,?_,?_,?_,?_,?_,?_,?_,⟨⟩⟩
  ·intro h0 hw
   obtain rfl:=hz h0 rfl
   refine np ?_
   try simp only[B3,cdt,cdf,A1,A,B,C,E,F,J]
   exact ih T b4 b7 b11
  ·intro h; cases h
  ·intro h; cases h
  ·intro h; cases h
  ·intro h0 hw
   obtain rfl:=hz h0 rfl
   refine np ?_
   try simp only[B3,cdt,cdf,A1,A,B,C,E,F,J]
   exact ih b0 T b7 b11
  ·intro h; cases h
  ·intro h; cases h
  ·intro h0 hw
   obtain rfl:=hz h0 rfl
   refine np ?_
   try simp only[B3,cdt,cdf,A1,A,B,C,E,F,J]
   exact ih b0 b4 T b11
  ·intro h; cases h
  ·intro h; cases h
  ·intro h; cases h
  ·intro h0 hw
   obtain rfl:=hz h0 rfl
   obtain rfl:=hq hw 0 rfl rfl
   obtain rfl:=hq hw 4 rfl rfl
   obtain rfl:=hq hw 7 rfl rfl
   refine np ?_
   try simp only[B3,cdt,cdf,A1,A,B,C,E,F,J]
   exact ih T T T T
  ·intro h0 hw
   obtain rfl:=hq hw 0 rfl rfl
   obtain rfl:=hq hw 4 rfl rfl
   obtain rfl:=hq hw 7 rfl rfl
   obtain rfl:=hq hw 11 rfl rfl
   refine np ?_
   try simp only[B3,cdt,cdf,A1,A,B,C,E,F,J]
   exact F5l r1 r2 r3 r4 r5 r6 r7 r9 r10 r12 r13 h12 h13 h14 _
theorem F6e(r1:Bool × Xl01Cur)(r2 r3:Int × Xl01Cur)(r4 r5:Int × Xl01Cur)(r6:Bool × Xl01Cur)(r7 r9:Int × Xl01Cur)(r10:Bool × Xl01Cur)(r12 r13:Int × Xl01Cur)(h12:A8 r10.2 (300:Int)=H r12)(h13:A8 r12.2 (30:Int)=H r13)(h14:(D4 ([(⟨(0:Int),(1:Int),(zB .i64 ((900:Int)+r2.1)),(zB .i64 ((10:Int)+r3.1)),G⟩:XSegment),(⟨(1:Int),(2:Int),(zB .i64 ((800:Int)+r4.1)),(zB .i64 ((10:Int)+r5.1)),r6.1⟩:XSegment),(⟨(2:Int),(3:Int),(zB .i64 ((900:Int)+r7.1)),(zB .i64 ((5:Int)+r9.1)),G⟩:XSegment)]:List XSegment).length ([(⟨(3:Int),(1:Int),(zB .i64 ((700:Int)+r12.1)),(zB .i64 ((20:Int)+r13.1)),T⟩:XSegment)]:List XSegment).length 40)=T):∀(f:Nat) (b0 b1:Bool) (b4 b7:Bool),E8 O V4 (O5 r1 r2 r3 r4 r5 r6 r7 r9 r12 r13) f [b0,b1,T,T,b4,T,T,b7,T,T,G,G,G] (B3 r12 r13 (vc (.own 2240)) b0 b1 T T b4 T T b7 T T G G [(99999999999,(dm r13.2.row)),(2,[.nil,.nil]),(3,[.own 640,.own 2240])] [(640,2,N V ([(⟨([115,101,97]:List UInt8),T⟩:XPoint),(⟨([98,97,114]:List UInt8),G⟩:XPoint),(⟨([114,111,97,100]:List UInt8),r1.1⟩:XPoint),(⟨([113,117,97,121]:List UInt8),T⟩:XPoint)]:List XPoint)),(2240,5,N Q ([(⟨(0:Int),(1:Int),(zB .i64 ((900:Int)+r2.1)),(zB .i64 ((10:Int)+r3.1)),G⟩:XSegment),(⟨(1:Int),(2:Int),(zB .i64 ((800:Int)+r4.1)),(zB .i64 ((10:Int)+r5.1)),r6.1⟩:XSegment),(⟨(2:Int),(3:Int),(zB .i64 ((900:Int)+r7.1)),(zB .i64 ((5:Int)+r9.1)),G⟩:XSegment)]:List XSegment)),(3072,5,N Q ([(⟨(3:Int),(1:Int),(zB .i64 ((700:Int)+r12.1)),(zB .i64 ((20:Int)+r13.1)),T⟩:XSegment)]:List XSegment))]):=by
 intro f
 induction f with
 | zero=>intro b0 b1 b4 b7 h; simp at h
 | succ f ih=>
  intro b0 b1 b4 b7
  refine B6 ⟨?_,?_,?_,?_,?_,?_,?_,?_,?_,?_,?_,?_,?_,⟨⟩⟩
  ·intro h0 hw
   obtain rfl:=hz h0 rfl
   refine np ?_
   try simp only[B3,cdt,cdf,A1,A,B,C,E,F,J]
   exact ih T b1 b4 b7
  ·intro h0 hw
   obtain rfl:=hz h0 rfl
   obtain rfl:=hq hw 0 rfl rfl
   refine np ?_
   try simp only[B3,cdt,cdf,A1,A,B,C,E,F,J]
   exact ih T T b4 b7
  ·intro h; cases h
  ·intro h; cases h
  ·intro h0 hw
   obtain rfl:=hz h0 rfl
   refine np ?_
   try simp only[B3,cdt,cdf,A1,A,B,C,E,F,J]
   exact ih b0 b1 T b7
  ·intro h; cases h
  ·intro h; cases h
  ·intro h0 hw
   obtain rfl:=hz h0 rfl
   refine np ?_
   try simp only[B3,cdt,cdf,A1,A,B,C,E,F,J]
   exact ih b0 b1 b4 T
  ·intro h; cases h
  ·intro h; cases h
  ·intro h0 hw
   obtain rfl:=hq hw 1 rfl rfl
   refine np ?_
   try simp only[h14,B3,cdt,cdf,A1,A,B,C,E,F,J]
   exact F6a r1 r2 r3 r4 r5 r6 r7 r9 r10 r12 r13 h12 h13 h14 _ b0 b4 b7 G
  ·intro _ hw; have:=hw 10 (by simp); cases this
  ·intro _ hw; have:=hw 11 (by simp); cases this
theorem F57(r1:Bool × Xl01Cur)(r2 r3:Int × Xl01Cur)(r4 r5:Int × Xl01Cur)(r6:Bool × Xl01Cur)(r7 r9:Int × Xl01Cur)(r10:Bool × Xl01Cur)(r12 r13:Int × Xl01Cur)(h12:A8 r10.2 (300:Int)=H r12)(h13:A8 r12.2 (30:Int)=H r13)(h14:(D4 ([(⟨(0:Int),(1:Int),(zB .i64 ((900:Int)+r2.1)),(zB .i64 ((10:Int)+r3.1)),G⟩:XSegment),(⟨(1:Int),(2:Int),(zB .i64 ((800:Int)+r4.1)),(zB .i64 ((10:Int)+r5.1)),r6.1⟩:XSegment),(⟨(2:Int),(3:Int),(zB .i64 ((900:Int)+r7.1)),(zB .i64 ((5:Int)+r9.1)),G⟩:XSegment)]:List XSegment).length ([(⟨(3:Int),(1:Int),(zB .i64 ((700:Int)+r12.1)),(zB .i64 ((20:Int)+r13.1)),T⟩:XSegment)]:List XSegment).length 40)=T):∀(f:Nat) (b0 b1:Bool) (b4 b7 b8:Bool),E8 O V4 (O5 r1 r2 r3 r4 r5 r6 r7 r9 r12 r13) f [b0,b1,T,T,b4,T,T,b7,b8,G,G,G,G] (B3 r12 r13 (vc (.own 2240)) b0 b1 T T b4 T T b7 b8 G G G [(99999999999,(dm r13.2.row)),(2,[.nil,.nil]),(3,[.own 640,.own 2240])] [(640,2,N V ([(⟨([115,101,97]:List UInt8),T⟩:XPoint),(⟨([98,97,114]:List UInt8),G⟩:XPoint),(⟨([114,111,97,100]:List UInt8),r1.1⟩:XPoint),(⟨([113,117,97,121]:List UInt8),T⟩:XPoint)]:List XPoint)),(2240,5,N Q ([(⟨(0:Int),(1:Int),(zB .i64 ((900:Int)+r2.1)),(zB .i64 ((10:Int)+r3.1)),G⟩:XSegment),(⟨(1:Int),(2:Int),(zB .i64 ((800:Int)+r4.1)),(zB .i64 ((10:Int)+r5.1)),r6.1⟩:XSegment),(⟨(2:Int),(3:Int),(zB .i64 ((900:Int)+r7.1)),(zB .i64 ((5:Int)+r9.1)),G⟩:XSegment)]:List XSegment))]):=by
 intro f
 induction f with
 | zero=>intro b0 b1 b4 b7 b8 h; simp at h
 | succ f ih=>
  intro b0 b1 b4 b7 b8
  refine B6 ⟨?_,?_,?_,?_,?_,?_,?_,?_,?_,?_,?_,?_,?_,⟨⟩⟩
  ·intro h0 hw
   obtain rfl:=hz h0 rfl
   refine np ?_
   try simp only[B3,cdt,cdf,A1,A,B,C,E,F,J]
   exact ih T b1 b4 b7 b8
  ·intro h0 hw
   obtain rfl:=hz h0 rfl
   obtain rfl:=hq hw 0 rfl rfl
   refine np ?_
   try simp only[B3,cdt,cdf,A1,A,B,C,E,F,J]
   exact ih T T b4 b7 b8
  ·intro h; cases h
  ·intro h; cases h
  ·intro h0 hw
   obtain rfl:=hz h0 rfl
   refine np ?_
   try simp only[B3,cdt,cdf,A1,A,B,C,E,F,J]
   exact ih b0 b1 T b7 b8
  ·intro h; cases h
  ·intro h; cases h
  ·intro h0 hw
   obtain rfl:=hz h0 rfl
   refine np ?_
   try simp only[B3,cdt,cdf,A1,A,B,C,E,F,J]
   exact ih b0 b1 b4 T b8
  ·intro h0 hw
   obtain rfl:=hz h0 rfl
   obtain rfl:=hq hw 4 rfl rfl
   obtain rfl:=hq hw 7 rfl rfl
   refine np ?_
   try simp only[B3,cdt,cdf,A1,A,B,C,E,F,J]
   exact ih b0 b1 T T T
  ·intro h0 hw
   obtain rfl:=hq hw 8 rfl rfl
   refine np ?_
   try simp only[B3,cdt,cdf,A1,A,B,C,E,F,J]
   refine D8 (es:=N Q ([(⟨(3:Int),(1:Int),(zB .i64 ((700:Int)+r12.1)),(zB .i64 ((20:Int)+r13.1)),T⟩:XSegment)]:List XSegment)) rfl (by simp only[St.fresh,Z,I,Q1]; simp[AV.cells,V1.cells,AC.uses]) ?_
   try simp only[A1,A,B,C,E,F,J]
   exact F6e r1 r2 r3 r4 r5 r6 r7 r9 r10 r12 r13 h12 h13 h14 _ b0 b1 b4 b7
  ·intro _ hw; have:=hw 9 (by simp); cases this
  ·intro _ hw; have:=hw 9 (by simp); cases this
  ·intro _ hw; have:=hw 11 (by simp); cases this
theorem F55(r1:Bool × Xl01Cur)(r2 r3:Int × Xl01Cur)(r4 r5:Int × Xl01Cur)(r6:Bool × Xl01Cur)(r7 r9:Int × Xl01Cur)(r10:Bool × Xl01Cur)(r12 r13:Int × Xl01Cur)(h12:A8 r10.2 (300:Int)=H r12)(h13:A8 r12.2 (30:Int)=H r13)(h14:(D4 ([(⟨(0:Int),(1:Int),(zB .i64 ((900:Int)+r2.1)),(zB .i64 ((10:Int)+r3.1)),G⟩:XSegment),(⟨(1:Int),(2:Int),(zB .i64 ((800:Int)+r4.1)),(zB .i64 ((10:Int)+r5.1)),r6.1⟩:XSegment),(⟨(2:Int),(3:Int),(zB .i64 ((900:Int)+r7.1)),(zB .i64 ((5:Int)+r9.1)),G⟩:XSegment)]:List XSegment).length ([(⟨(3:Int),(1:Int),(zB .i64 ((700:Int)+r12.1)),(zB .i64 ((20:Int)+r13.1)),T⟩:XSegment)]:List XSegment).length 40)=T):∀(f:Nat) (b0 b1:Bool) (b4 b5:Bool),E8 O V4 (O5 r1 r2 r3 r4 r5 r6 r7 r9 r12 r13) f [b0,b1,T,T,b4,b5,G,G,G,G,G,G,G] (B3 r12 r13 (vc (.own 2240)) b0 b1 T T b4 b5 G G G G G G [(99999999999,(dm r12.2.row)),(2,[.nil,.nil]),(3,[.own 640,.own 2240])] [(640,2,N V ([(⟨([115,101,97]:List UInt8),T⟩:XPoint),(⟨([98,97,114]:List UInt8),G⟩:XPoint),(⟨([114,111,97,100]:List UInt8),r1.1⟩:XPoint),(⟨([113,117,97,121]:List UInt8),T⟩:XPoint)]:List XPoint)),(2240,5,N Q ([(⟨(0:Int),(1:Int),(zB .i64 ((900:Int)+r2.1)),(zB .i64 ((10:Int)+r3.1)),G⟩:XSegment),(⟨(1:Int),(2:Int),(zB .i64 ((800:Int)+r4.1)),(zB .i64 ((10:Int)+r5.1)),r6.1⟩:XSegment),(⟨(2:Int),(3:Int),(zB .i64 ((900:Int)+r7.1)),(zB .i64 ((5:Int)+r9.1)),G⟩:XSegment)]:List XSegment))]):=by
 intro f
 induction f with
 | zero=>intro b0 b1 b4 b5 h; simp at h
 | succ f ih=>
  intro b0 b1 b4 b5
  refine B6 ⟨?_,?_,?_,?_,?_,?_,?_,?_,?_,?_,?_,?_,?_,⟨⟩⟩
  ·intro h0 hw
   obtain rfl:=hz h0 rfl
   refine np ?_
   try simp only[B3,cdt,cdf,A1,A,B,C,E,F,J]
   exact ih T b1 b4 b5
  ·intro h0 hw
   obtain rfl:=hz h0 rfl
   obtain rfl:=hq hw 0 rfl rfl
   refine np ?_
   try simp only[B3,cdt,cdf,A1,A,B,C,E,F,J]
   exact ih T T b4 b5
  ·intro h; cases h
  ·intro h; cases h
  ·intro h0 hw
   obtain rfl:=hz h0 rfl
   refine np ?_
   try simp only[B3,cdt,cdf,A1,A,B,C,E,F,J]
   exact ih b0 b1 T b5
  ·intro h0 hw
   obtain rfl:=hz h0 rfl
   refine np ?_
   try simp only[B3,cdt,cdf,A1,A,B,C,E,F,J]
   exact ih b0 b1 b4 T
  ·intro h0 hw
   obtain rfl:=hq hw 5 rfl rfl
   refine np ?_
   try simp only[B3,cdt,cdf,A1,A,B,C,E,F,J]
   refine C3 (B9 _ _ _ h13) 99999999999 rfl rfl rfl ?_
   try simp only[A1,A,B,C,E,F,J]
   exact F57 r1 r2 r3 r4 r5 r6 r7 r9 r10 r12 r13 h12 h13 h14 _ b0 b1 b4 G G
  ·intro _ hw; have:=hw 6 (by simp); cases this
  ·intro _ hw; have:=hw 7 (by simp); cases this
  ·intro _ hw; have:=hw 8 (by simp); cases this
  ·intro _ hw; have:=hw 9 (by simp); cases this
  ·intro _ hw; have:=hw 6 (by simp); cases this
  ·intro _ hw; have:=hw 11 (by simp); cases this
theorem F54(r1:Bool × Xl01Cur)(r2 r3:Int × Xl01Cur)(r4 r5:Int × Xl01Cur)(r6:Bool × Xl01Cur)(r7 r9:Int × Xl01Cur)(r10:Bool × Xl01Cur)(r12 r13:Int × Xl01Cur)(h12:A8 r10.2 (300:Int)=H r12)(h13:A8 r12.2 (30:Int)=H r13)(h14:(D4 ([(⟨(0:Int),(1:Int),(zB .i64 ((900:Int)+r2.1)),(zB .i64 ((10:Int)+r3.1)),G⟩:XSegment),(⟨(1:Int),(2:Int),(zB .i64 ((800:Int)+r4.1)),(zB .i64 ((10:Int)+r5.1)),r6.1⟩:XSegment),(⟨(2:Int),(3:Int),(zB .i64 ((900:Int)+r7.1)),(zB .i64 ((5:Int)+r9.1)),G⟩:XSegment)]:List XSegment).length ([(⟨(3:Int),(1:Int),(zB .i64 ((700:Int)+r12.1)),(zB .i64 ((20:Int)+r13.1)),T⟩:XSegment)]:List XSegment).length 40)=T):∀(f:Nat) (b0 b1:Bool) (b2 b5:Bool),E8 O V4 (O5 r1 r2 r3 r4 r5 r6 r7 r9 r12 r13) f [b0,b1,b2,G,G,b5,G,G,G,G,G,G,G] (B3 r12 r13 (vc (.own 2240)) b0 b1 b2 G G b5 G G G G G G [(99999999999,(dm r10.2.row)),(2,[.nil,.nil]),(3,[.own 640,.own 2240])] [(640,2,N V ([(⟨([115,101,97]:List UInt8),T⟩:XPoint),(⟨([98,97,114]:List UInt8),G⟩:XPoint),(⟨([114,111,97,100]:List UInt8),r1.1⟩:XPoint),(⟨([113,117,97,121]:List UInt8),T⟩:XPoint)]:List XPoint)),(2240,5,N Q ([(⟨(0:Int),(1:Int),(zB .i64 ((900:Int)+r2.1)),(zB .i64 ((10:Int)+r3.1)),G⟩:XSegment),(⟨(1:Int),(2:Int),(zB .i64 ((800:Int)+r4.1)),(zB .i64 ((10:Int)+r5.1)),r6.1⟩:XSegment),(⟨(2:Int),(3:Int),(zB .i64 ((900:Int)+r7.1)),(zB .i64 ((5:Int)+r9.1)),G⟩:XSegment)]:List XSegment))]):=by
 intro f
 induction f with
 | zero=>intro b0 b1 b2 b5 h; simp at h
 | succ f ih=>
  intro b0 b1 b2 b5
  refine B6 ⟨?_,?_,?_,?_,?_,?_,?_,?_,?_,?_,?_,?_,?_,⟨⟩⟩
  ·intro h0 hw
   obtain rfl:=hz h0 rfl
   refine np ?_
   try simp only[B3,cdt,cdf,A1,A,B,C,E,F,J]
   exact ih T b1 b2 b5
  ·intro h0 hw
   obtain rfl:=hz h0 rfl
   obtain rfl:=hq hw 0 rfl rfl
   refine np ?_
   try simp only[B3,cdt,cdf,A1,A,B,C,E,F,J]
   exact ih T T b2 b5
  ·intro h0 hw
   obtain rfl:=hz h0 rfl
   refine np ?_
   try simp only[B3,cdt,cdf,A1,A,B,C,E,F,J]
   exact ih b0 b1 T b5
  ·intro h0 hw
   obtain rfl:=hq hw 2 rfl rfl
   refine np ?_
   try simp only[B3,cdt,cdf,A1,A,B,C,E,F,J]
   refine C3 (B9 _ _ _ h12) 99999999999 rfl rfl rfl ?_
   try simp only[A1,A,B,C,E,F,J]
   exact F55 r1 r2 r3 r4 r5 r6 r7 r9 r10 r12 r13 h12 h13 h14 _ b0 b1 G b5
  ·intro _ hw; have:=hw 3 (by simp); cases this
  ·intro h0 hw
   obtain rfl:=hz h0 rfl
   refine np ?_
   try simp only[B3,cdt,cdf,A1,A,B,C,E,F,J]
   exact ih b0 b1 b2 T
  ·intro _ hw; have:=hw 3 (by simp); cases this
  ·intro _ hw; have:=hw 6 (by simp); cases this
  ·intro _ hw; have:=hw 4 (by simp); cases this
  ·intro _ hw; have:=hw 8 (by simp); cases this
  ·intro _ hw; have:=hw 9 (by simp); cases this
  ·intro _ hw; have:=hw 3 (by simp); cases this
  ·intro _ hw; have:=hw 11 (by simp); cases this
abbrev D0(r23:Int × Xl01Cur)(wo1_:AV)(c0_ c1_:Bool)(c2_ c3_:Bool)(c4_ c5_:Bool)(c6_ c7_ c8_:Bool)(bx_:List (Nat × List AC))(rs_:Rows):St:=⟨[(0,vc (.pb 99999999999 0)),(2,vc (.pb 2 0)),(3,vc (.pb 3 0)),(59,bif c0_ then vc (.pb 3 1) else .undef),(60,bif c1_ then wo1_ else .undef),(61,bif c2_ then vc (.pb 99999999999 0) else .undef),(62,bif c3_ then vc (aI r23.1) else .undef),(63,bif c4_ then vc (aI (zB .i64 ((800:Int)+r23.1))) else .undef),(64,bif c5_ then va [aI (2:Int),aI (4:Int),aI (zB .i64 ((800:Int)+r23.1)),aI (15:Int),aB G] else .undef),(65,bif c6_ then vc (.own 4160) else .undef),(66,bif c7_ then vc (.own 2240) else .undef),(67,bif c8_ then vc (.pb 3 1) else .undef)],bx_,rs_⟩
abbrev T9(v18:List XPoint)(v19:List XSegment)(r23:Int × Xl01Cur):St:=(D0 r23 (vc (.undef)) T T T T T T T T T [(99999999999,(dm r23.2.row)),(2,[.nil,.nil]),(3,[.own 640,.own 2240])] [(640,2,N V (v18++([(⟨([100,111,99,107]:List UInt8),T⟩:XPoint)]:List XPoint))),(2240,5,N Q (v19++([(⟨(2:Int),(4:Int),(zB .i64 ((800:Int)+r23.1)),(15:Int),G⟩:XSegment)]:List XSegment))),(4160,5,N Q ([(⟨(2:Int),(4:Int),(zB .i64 ((800:Int)+r23.1)),(15:Int),G⟩:XSegment)]:List XSegment))])
theorem F5s(v18:List XPoint)(v19:List XSegment)(r20:Bool × Xl01Cur)(r23:Int × Xl01Cur)(h23:A8 r20.2 (300:Int)=H r23)(h24:(D4 v19.length ([(⟨(2:Int),(4:Int),(zB .i64 ((800:Int)+r23.1)),(15:Int),G⟩:XSegment)]:List XSegment).length 40)=T):∀(f:Nat),E8 O A0s (T9 v18 v19 r23) f [T,T,T,T,T,T,T,T,T,T] (D0 r23 (vc (.undef)) T T T T T T T T T [(99999999999,(dm r23.2.row)),(2,[.nil,.nil]),(3,[.own 640,.own 2240])] [(640,2,N V (v18++([(⟨([100,111,99,107]:List UInt8),T⟩:XPoint)]:List XPoint))),(2240,5,N Q (v19++([(⟨(2:Int),(4:Int),(zB .i64 ((800:Int)+r23.1)),(15:Int),G⟩:XSegment)]:List XSegment))),(4160,5,N Q ([(⟨(2:Int),(4:Int),(zB .i64 ((800:Int)+r23.1)),(15:Int),G⟩:XSegment)]:List XSegment))]):=by
 intro f
 induction f with
 | zero=>intro h; rfl
 | succ f ih=>
  refine B6 ⟨?_,?_,?_,?_,?_,?_,?_,?_,?_,?_,⟨⟩⟩
  ·intro h; cases h
  ·intro h; cases h
  ·intro h; cases h
  ·intro h; cases h
  ·intro h; cases h
  ·intro h; cases h
  ·intro h; cases h
  ·intro h; cases h
  ·intro h; cases h
  ·intro h; cases h
theorem F53(v18:List XPoint)(v19:List XSegment)(r20:Bool × Xl01Cur)(r23:Int × Xl01Cur)(h23:A8 r20.2 (300:Int)=H r23)(h24:(D4 v19.length ([(⟨(2:Int),(4:Int),(zB .i64 ((800:Int)+r23.1)),(15:Int),G⟩:XSegment)]:List XSegment).length 40)=T):∀(f:Nat) (b0 b4 b8:Bool),E8 O A0s (T9 v18 v19 r23) f [b0,T,T,T,b4,T,T,T,b8,G] (D0 r23 (vc (.undef)) b0 T T T b4 T T T b8 [(99999999999,(dm r23.2.row)),(2,[.nil,.nil]),(3,[.own 640,.undef])] [(640,2,N V (v18++([(⟨([100,111,99,107]:List UInt8),T⟩:XPoint)]:List XPoint))),(2240,5,N Q (v19++([(⟨(2:Int),(4:Int),(zB .i64 ((800:Int)+r23.1)),(15:Int),G⟩:XSegment)]:List XSegment))),(4160,5,N Q ([(⟨(2:Int),(4:Int),(zB .i64 ((800:Int)+r23.1)),(15:Int),G⟩:XSegment)]:List XSegment))]):=by
 intro f
 induction f with
 | zero=>intro b0 b4 b8 h; simp at h
 | succ f ih=>
  intro b0 b4 b8
  refine B6 ⟨?_,?_,?_,?_,?_,?_,?_,?_,?_,?_,⟨⟩⟩
  ·intro h0 hw
   obtain rfl:=hz h0 rfl
   refine np ?_
   try simp only[D0,cdt,cdf,A1,A,B,C,E,F,J]
   exact ih T b4 b8
  ·intro h; cases h
  ·intro h; cases h
  ·intro h; cases h
  ·intro h0 hw
   obtain rfl:=hz h0 rfl
   refine np ?_
   try simp only[D0,cdt,cdf,A1,A,B,C,E,F,J]
   exact ih b0 T b8
  ·intro h; cases h
  ·intro h; cases h
  ·intro h; cases h
  ·intro h0 hw
   obtain rfl:=hz h0 rfl
   obtain rfl:=hq hw 0 rfl rfl
   obtain rfl:=hq hw 4 rfl rfl
   refine np ?_
   try simp only[D0,cdt,cdf,A1,A,B,C,E,F,J]
   exact ih T T T
  ·intro h0 hw
   obtain rfl:=hq hw 0 rfl rfl
   obtain rfl:=hq hw 4 rfl rfl
   obtain rfl:=hq hw 8 rfl rfl
   refine np ?_
   try simp only[D0,cdt,cdf,A1,A,B,C,E,F,J]
   exact F5s v18 v19 r20 r23 h23 h24 _
theorem F6c(v18:List XPoint)(v19:List XSegment)(r20:Bool × Xl01Cur)(r23:Int × Xl01Cur)(h23:A8 r20.2 (300:Int)=H r23)(h24:(D4 v19.length ([(⟨(2:Int),(4:Int),(zB .i64 ((800:Int)+r23.1)),(15:Int),G⟩:XSegment)]:List XSegment).length 40)=T):∀(f:Nat) (b0 b1 b4:Bool),E8 O A0s (T9 v18 v19 r23) f [b0,b1,T,T,b4,T,T,G,G,G] (D0 r23 (vc (.own 2240)) b0 b1 T T b4 T T G G [(99999999999,(dm r23.2.row)),(2,[.nil,.nil]),(3,[.own 640,.own 2240])] [(640,2,N V (v18++([(⟨([100,111,99,107]:List UInt8),T⟩:XPoint)]:List XPoint))),(2240,5,N Q v19),(4160,5,N Q ([(⟨(2:Int),(4:Int),(zB .i64 ((800:Int)+r23.1)),(15:Int),G⟩:XSegment)]:List XSegment))]):=by
 intro f
 induction f with
 | zero=>intro b0 b1 b4 h; simp at h
 | succ f ih=>
  intro b0 b1 b4
  refine B6 ⟨?_,?_,?_,?_,?_,?_,?_,?_,?_,?_,⟨⟩⟩
  ·intro h0 hw
   obtain rfl:=hz h0 rfl
   refine np ?_
   try simp only[D0,cdt,cdf,A1,A,B,C,E,F,J]
   exact ih T b1 b4
  ·intro h0 hw
   obtain rfl:=hz h0 rfl
   obtain rfl:=hq hw 0 rfl rfl
   refine np ?_
   try simp only[D0,cdt,cdf,A1,A,B,C,E,F,J]
   exact ih T T b4
  ·intro h; cases h
  ·intro h; cases h
  ·intro h0 hw
   obtain rfl:=hz h0 rfl
   refine np ?_
   try simp only[D0,cdt,cdf,A1,A,B,C,E,F,J]
   exact ih b0 b1 T
  ·intro h; cases h
  ·intro h; cases h
  ·intro h0 hw
   obtain rfl:=hq hw 1 rfl rfl
   refine np ?_
   try simp only[h24,D0,cdt,cdf,A1,A,B,C,E,F,J]
   exact F53 v18 v19 r20 r23 h23 h24 _ b0 b4 G
  ·intro _ hw; have:=hw 7 (by simp); cases this
  ·intro _ hw; have:=hw 8 (by simp); cases this
theorem F6g(v18:List XPoint)(v19:List XSegment)(r20:Bool × Xl01Cur)(r23:Int × Xl01Cur)(h23:A8 r20.2 (300:Int)=H r23)(h24:(D4 v19.length ([(⟨(2:Int),(4:Int),(zB .i64 ((800:Int)+r23.1)),(15:Int),G⟩:XSegment)]:List XSegment).length 40)=T):∀(f:Nat) (b0 b1:Bool) (b4 b5:Bool),E8 O A0s (T9 v18 v19 r23) f [b0,b1,T,T,b4,b5,G,G,G,G] (D0 r23 (vc (.own 2240)) b0 b1 T T b4 b5 G G G [(99999999999,(dm r23.2.row)),(2,[.nil,.nil]),(3,[.own 640,.own 2240])] [(640,2,N V (v18++([(⟨([100,111,99,107]:List UInt8),T⟩:XPoint)]:List XPoint))),(2240,5,N Q v19)]):=by
 intro f
 induction f with
 | zero=>intro b0 b1 b4 b5 h; simp at h
 | succ f ih=>
  intro b0 b1 b4 b5
  refine B6 ⟨?_,?_,?_,?_,?_,?_,?_,?_,?_,?_,⟨⟩⟩
  ·intro h0 hw
   obtain rfl:=hz h0 rfl
   refine np ?_
   try simp only[D0,cdt,cdf,A1,A,B,C,E,F,J]
   exact ih T b1 b4 b5
  ·intro h0 hw
   obtain rfl:=hz h0 rfl
   obtain rfl:=hq hw 0 rfl rfl
   refine np ?_
   try simp only[D0,cdt,cdf,A1,A,B,C,E,F,J]
   exact ih T T b4 b5
  ·intro h; cases h
  ·intro h; cases h
  ·intro h0 hw
   obtain rfl:=hz h0 rfl
   refine np ?_
   try simp only[D0,cdt,cdf,A1,A,B,C,E,F,J]
   exact ih b0 b1 T b5
  ·intro h0 hw
   obtain rfl:=hz h0 rfl
   obtain rfl:=hq hw 4 rfl rfl
   refine np ?_
   try simp only[D0,cdt,cdf,A1,A,B,C,E,F,J]
   exact ih b0 b1 T T
  ·intro h0 hw
   obtain rfl:=hq hw 5 rfl rfl
   refine np ?_
   try simp only[D0,cdt,cdf,A1,A,B,C,E,F,J]
   refine D8 (es:=N Q ([(⟨(2:Int),(4:Int),(zB .i64 ((800:Int)+r23.1)),(15:Int),G⟩:XSegment)]:List XSegment)) rfl (by simp only[St.fresh,Z,I,Q1]; simp[AV.cells,V1.cells,AC.uses]) ?_
   try simp only[A1,A,B,C,E,F,J]
   exact F6c v18 v19 r20 r23 h23 h24 _ b0 b1 b4
  ·intro _ hw; have:=hw 6 (by simp); cases this
  ·intro _ hw; have:=hw 6 (by simp); cases this
  ·intro _ hw; have:=hw 8 (by simp); cases this
theorem F5j(v18:List XPoint)(v19:List XSegment)(r20:Bool × Xl01Cur)(r23:Int × Xl01Cur)(h23:A8 r20.2 (300:Int)=H r23)(h24:(D4 v19.length ([(⟨(2:Int),(4:Int),(zB .i64 ((800:Int)+r23.1)),(15:Int),G⟩:XSegment)]:List XSegment).length 40)=T):∀(f:Nat) (b0 b1 b2:Bool),E8 O A0s (T9 v18 v19 r23) f [b0,b1,b2,G,G,G,G,G,G,G] (D0 r23 (vc (.own 2240)) b0 b1 b2 G G G G G G [(99999999999,(dm r20.2.row)),(2,[.nil,.nil]),(3,[.own 640,.own 2240])] [(640,2,N V (v18++([(⟨([100,111,99,107]:List UInt8),T⟩:XPoint)]:List XPoint))),(2240,5,N Q v19)]):=by
 intro f
 induction f with
 | zero=>intro b0 b1 b2 h; simp at h
 | succ f ih=>
  intro b0 b1 b2
  refine B6 ⟨?_,?_,?_,?_,?_,?_,?_,?_,?_,?_,⟨⟩⟩
  ·intro h0 hw
   obtain rfl:=hz h0 rfl
   refine np ?_
   try simp only[D0,cdt,cdf,A1,A,B,C,E,F,J]
   exact ih T b1 b2
  ·intro h0 hw
   obtain rfl:=hz h0 rfl
   obtain rfl:=hq hw 0 rfl rfl
   refine np ?_
   try simp only[D0,cdt,cdf,A1,A,B,C,E,F,J]
   exact ih T T b2
  ·intro h0 hw
   obtain rfl:=hz h0 rfl
   refine np ?_
   try simp only[D0,cdt,cdf,A1,A,B,C,E,F,J]
   exact ih b0 b1 T
  ·intro h0 hw
   obtain rfl:=hq hw 2 rfl rfl
   refine np ?_
   try simp only[D0,cdt,cdf,A1,A,B,C,E,F,J]
   refine C3 (B9 _ _ _ h23) 99999999999 rfl rfl rfl ?_
   try simp only[A1,A,B,C,E,F,J]
   exact F6g v18 v19 r20 r23 h23 h24 _ b0 b1 G G
  ·intro _ hw; have:=hw 3 (by simp); cases this
  ·intro _ hw; have:=hw 4 (by simp); cases this
  ·intro _ hw; have:=hw 5 (by simp); cases this
  ·intro _ hw; have:=hw 6 (by simp); cases this
  ·intro _ hw; have:=hw 3 (by simp); cases this
  ·intro _ hw; have:=hw 8 (by simp); cases this
theorem E38(v15:List Int)(v16 v17:Int)(v18:List XPoint)(v19:List XSegment)(r:XChart × Xl01Cur)(h:A02 v15 v16 v17 v18 v19=H r)(σ:St)(hσ:σ.kept [0,2,3] [99999999999,2,3] [640,2240]=⟨[(0,vc (.pb 99999999999 0)),(2,vc (.pb 2 0)),(3,vc (.pb 3 0))],[(99999999999,[aL (N r8 v15),aI v16,aI v17]),(2,[.nil,.nil]),(3,[.own 640,.own 2240])],[(640,2,N V v18),(2240,5,N Q v19)]⟩):go O (.code D8d:: []) (B2l [.c 2 T 2] [.ag [.v (.sl (N V r.1.Points)),.v (.sl (N Q r.1.Segments))]] [.sl (N r8 r.2.b),.int .i64 r.2.i,.int .i64 r.2.h]) .normal (H σ):=by
 unfold A02 at h
 obtain⟨r20,h20,h⟩:=ob h
 try simp only[hσ,D8d,A,B,C,E,F,J]
 refine C3 (Y8 _ _ _ h20) 99999999999 rfl rfl rfl ?_
 rcases ic h with ⟨h21,h⟩|⟨h21,h⟩
 ·try simp only[h21,A,B,C,E,F,J]
  refine D8 (es:=N V ([(⟨([100,111,99,107]:List UInt8),T⟩:XPoint)]:List XPoint)) rfl rfl ?_
  obtain⟨h22,h⟩:=E2 h
  try simp only[h21,h22,A,B,C,E,F,J]
  obtain⟨r23,h23,h⟩:=ob h
  obtain⟨h24,h⟩:=E2 h
  refine A37 (ks:= [0,2,3]) (bs:= [99999999999,2,3]) (rs:= [640,2240]) (τ:=(T9 v18 v19 r23)) rfl (F5j v18 v19 r20 r23 h23 h24 _ G G G) ?_
  simp only[T9,D0,cdt]
  try simp only[h21,h22,h24,A,B,C,E,F,J]
  refine U4 rfl ?_
  try simp only[h21,h22,h24,A,B,C,E,F,J]
  refine U4 rfl ?_
  try simp only[h21,h22,h24,A,B,C,E,F,J]
  cases h
  try simp only[W9,A,B,C,E,F,J]
  trivial
 ·try simp only[h21,A,B,C,E,F,J]
  refine U4 rfl ?_
  try simp only[h21,A,B,C,E,F,J]
  refine U4 rfl ?_
  try simp only[h21,A,B,C,E,F,J]
  cases h
  try simp only[W9,A,B,C,E,F,J]
  trivial
theorem F5t:B0 O 261=H (cc37.strip,[.c 2 T 2],69):=by kernel_rfl
theorem C0k(a0:Xl01Cur)(r:XChart × Xl01Cur)(h:A38 a0=H r):FCy O 261 [.p] [.sl (N r8 a0.b),.int .i64 a0.i,.int .i64 a0.h] [.sl (N r8 r.2.b),.int .i64 r.2.i,.int .i64 r.2.h] [.ag [.v (.sl (N V r.1.Points)),.v (.sl (N Q r.1.Segments))]]:=by
 unfold A38 at h
 refine A2v (σ:=⟨[(0,vc (.pb 99999999999 0))],[(99999999999,[aL (N r8 a0.b),aI a0.i,aI a0.h])],[]⟩) B4 F5t rfl rfl ?_
 simp only[cc37]
 try simp only[A,B,C,E,F,J]
 refine E0 rfl rfl ?_
 obtain⟨r1,h1,h⟩:=ob h
 try simp only[A,B,C,E,F,J]
 refine C3 (Y8 _ _ _ h1) 99999999999 rfl rfl rfl ?_
 try simp only[A,B,C,E,F,J]
 refine D8 (es:=N V ([(⟨([115,101,97]:List UInt8),T⟩:XPoint),(⟨([98,97,114]:List UInt8),G⟩:XPoint),(⟨([114,111,97,100]:List UInt8),r1.1⟩:XPoint),(⟨([113,117,97,121]:List UInt8),T⟩:XPoint)]:List XPoint)) rfl rfl ?_
 try simp only[A,B,C,E,F,J]
 refine E0 rfl rfl ?_
 obtain⟨r2,h2,h⟩:=ob h
 try simp only[A,B,C,E,F,J]
 refine C3 (B9 _ _ _ h2) 99999999999 rfl rfl rfl ?_
 obtain⟨r3,h3,h⟩:=ob h
 try simp only[A,B,C,E,F,J]
 refine C3 (B9 _ _ _ h3) 99999999999 rfl rfl rfl ?_
 obtain⟨r4,h4,h⟩:=ob h
 try simp only[A,B,C,E,F,J]
 refine C3 (B9 _ _ _ h4) 99999999999 rfl rfl rfl ?_
 obtain⟨r5,h5,h⟩:=ob h
 try simp only[A,B,C,E,F,J]
 refine C3 (B9 _ _ _ h5) 99999999999 rfl rfl rfl ?_
 obtain⟨r6,h6,h⟩:=ob h
 try simp only[A,B,C,E,F,J]
 refine C3 (Y8 _ _ _ h6) 99999999999 rfl rfl rfl ?_
 obtain⟨r7,h7,h⟩:=ob h
 try simp only[A,B,C,E,F,J]
 refine C3 (B9 _ _ _ h7) 99999999999 rfl rfl rfl ?_
 obtain⟨r9,h9,h⟩:=ob h
 try simp only[A,B,C,E,F,J]
 refine C3 (B9 _ _ _ h9) 99999999999 rfl rfl rfl ?_
 try simp only[A,B,C,E,F,J]
 refine D8 (es:=N Q ([(⟨(0:Int),(1:Int),(zB .i64 ((900:Int)+r2.1)),(zB .i64 ((10:Int)+r3.1)),G⟩:XSegment),(⟨(1:Int),(2:Int),(zB .i64 ((800:Int)+r4.1)),(zB .i64 ((10:Int)+r5.1)),r6.1⟩:XSegment),(⟨(2:Int),(3:Int),(zB .i64 ((900:Int)+r7.1)),(zB .i64 ((5:Int)+r9.1)),G⟩:XSegment)]:List XSegment)) rfl rfl ?_
 obtain⟨r10,h10,h⟩:=ob h
 try simp only[A,B,C,E,F,J]
 refine C3 (Y8 _ _ _ h10) 99999999999 rfl rfl rfl ?_
 rcases ic h with ⟨h11,h⟩|⟨h11,h⟩
 ·try simp only[h11,A,B,C,E,F,J]
  obtain⟨r12,h12,h⟩:=ob h
  obtain⟨r13,h13,h⟩:=ob h
  obtain⟨h14,h⟩:=E2 h
  refine A37 (ks:= [0,2,3]) (bs:= [99999999999,2,3]) (rs:= [640,2240]) (τ:=(O5 r1 r2 r3 r4 r5 r6 r7 r9 r12 r13)) rfl (F54 r1 r2 r3 r4 r5 r6 r7 r9 r10 r12 r13 h12 h13 h14 _ G G G G) ?_
  simp only[O5,B3,cdt]
  try simp only[h11,h14,A,B,C,E,F,J]
  refine E38 _ _ _ _ _ _ h _ ?_
  try simp only[h11,h14,A,B,C,E,F,J,P]
 ·try simp only[h11,A,B,C,E,F,J]
  refine E38 _ _ _ _ _ _ h _ ?_
  try simp only[h11,A,B,C,E,F,J,P]
/- 359:spec_FormatInt -/
def D1f:ACode:= .seq (.reg [(L,.keep [0,3] [] [])]) (.seq (.seq (.reg [mv 25 0,(L,.bin 26 .gtr (S 25) (K 9))]) (.cond (S 26) .skip (.exit 0))) (.block 1 (.seq (.reg [mv 27 0,(L,.bin 28 .rem (S 27) (K 10)),(L,.bin 29 .add (K 48) (S 28)),(L,.conv 30 .u8 (S 29)),(L,.bslice 31 1 [.int .u8 0] 1 [(0,(S 30))]),(L,.sconv 32 (S 31)),mv 33 3,bn 34 .add 32 33,mv 3 34]) (.reg [mv 35 0,(L,.bin 36 .quo (S 35) (K 10)),mv 0 36]))))
def D5t:ACode:=(.seq (.reg [mv 37 0,(L,.bin 38 .add (K 48) (S 37)),(L,.conv 39 .u8 (S 38)),(L,.bslice 40 1 [.int .u8 0] 1 [(0,(S 39))]),(L,.sconv 41 (S 40)),mv 42 3,bn 43 .add 41 42,mv 2 43]) .ret)
def cc53:ACode:=(.seq (.reg [(L,.mv 2 (KS []))]) (.seq (.seq (.reg [mv 4 0,(L,.bin 5 .lss (S 4) (K 0))]) (.cond (S 5) (.seq (.seq (.reg [mv 6 0,(L,.bin 7 .quo (S 6) (K 10)),(L,.bin 8 .eql (S 7) (K 0))]) (.cond (S 8) (.seq (.reg [mv 9 0,(L,.bin 10 .sub (K 48) (S 9)),(L,.conv 11 .u8 (S 10)),(L,.bslice 12 1 [.int .u8 0] 1 [(0,(S 11))]),(L,.sconv 13 (S 12)),(L,.bin 14 .add (KS [45]) (S 13)),mv 2 14]) .ret) .skip)) (.seq (.drw [(H [22],mv 15 0),(H [22],(L,.bin 16 .quo (S 15) (K 10))),(H [22],ca 17 359 [S 16]),(H [17],mv 18 0),(H [17],(L,.bin 19 .rem (S 18) (K 10))),(H [17],(L,.bin 20 .sub (K 48) (S 19))),(H [17],(L,.conv 21 .u8 (S 20))),(H [17],(L,.bslice 22 1 [.int .u8 0] 1 [(0,(S 21))])),(H [17],(L,.sconv 23 (S 22))),o0 (bn 24 .add 17 23),o0 (mv 2 24)]) .ret)) .skip)) (.seq (.reg [(L,.mv 3 (KS []))]) (.seq (.block 0 (.loop D1f)) D5t))))
theorem F5u(rec_:Int→Option (List UInt8))(h_rec:∀(a0:Int) zr,rec_ a0=H zr→FC O 359 [.sc (.int .i64 a0)] [.sc (.v (.str zr))]):∀(n:Nat) (v6:Int) (v7:List UInt8) (r:(List UInt8)),A3q rec_ n v6 v7=H r→∀σ:St,σ.kept [0,3] [] []=⟨[(0,vc (aI v6)),(3,vc (aS v7))],[],[]⟩→go O (.code (.loop D1f):: [.blk 0,.code D5t]) (Ret [2] [.sc (.v (.str r))]) .normal (H σ):=by
 intro n
 induction n with
 | zero=>intro _ _ r h; cases h
 | succ n ih=>
  intro v6 v7 r h σ hσ
  rw[A3q] at h
  refine B8 ?_
  rcases ic h with ⟨h8,h⟩|⟨h8,h⟩
  ·try simp only[hσ,h8,D1f,A,B,C,E,F,J]
   refine D8 (es:=N r8 ([(IntKind.u8.wrap (zB .i64 ((48:Int)+(zB .i64 (Int.tmod v6 (10:Int))))))]:List Int)) rfl rfl ?_
   obtain⟨h9,h⟩:=E2 h
   try simp only[h8,h9,A,B,C,E,F,J]
   refine ih _ _ _ h _ ?_
   try simp only[h8,h9,A,B,C,E,F,J,P]
  ·try simp only[hσ,h8,D1f,D5t,A,B,C,E,F,J]
   refine D8 (es:=N r8 ([(IntKind.u8.wrap (zB .i64 ((48:Int)+v6)))]:List Int)) rfl rfl ?_
   obtain⟨h10,h⟩:=E2 h
   try simp only[h8,h10,A,B,C,E,F,J]
   cases h
   trivial
theorem F5k:B0 O 359=H (cc53.strip,[2],44):=by kernel_rfl
theorem B3y(rec_:Int→Option (List UInt8))(a0:Int)(r:(List UInt8))(h_rec:∀(a0:Int) zr,rec_ a0=H zr→FC O 359 [.sc (.int .i64 a0)] [.sc (.v (.str zr))])(h:A5v rec_ a0=H r):FC O 359 [.sc (.int .i64 a0)] [.sc (.v (.str r))]:=by
 unfold A5v at h
 refine D3 B4 F5k rfl ?_
 simp only[cc53,A,B,C,E,F,J]
 rcases ic h with ⟨h1,h⟩|⟨h1,h⟩
 ·rcases ic h with ⟨h2,h⟩|⟨h2,h⟩
  ·try simp only[h1,h2,A,B,C,E,F,J]
   refine D8 (es:=N r8 ([(IntKind.u8.wrap (zB .i64 ((48:Int) - a0)))]:List Int)) rfl rfl ?_
   obtain⟨h3,h⟩:=E2 h
   try simp only[h1,h2,h3,A,B,C,E,F,J]
   cases h
   trivial
  ·try simp only[h1,h2,A,B,C,E,F,J]
   refine C6 rfl ?_
   obtain⟨r4,h4,h⟩:=ob h
   try simp only[h1,h2,A,B,C,E,F,J]
   refine E6 (h_rec _ _ h4) rfl rfl (uf rfl) ?_
   try simp only[h1,h2,A,B,C,E,F,J]
   refine C6m (m:= .row 22 1 (N r8 ([(IntKind.u8.wrap (zB .i64 ((48:Int) - (zB .i64 (Int.tmod a0 (10:Int))))))]:List Int))) rfl rfl (B69 rfl) ?_
   obtain⟨h5,h⟩:=E2 h
   try simp only[h1,h2,h5,A,B,C,E,F,J]
   cases h
   trivial
 ·try simp only[h1,A,B,C,E,F,J]
  refine F5u rec_ h_rec _ _ _ _ h _ ?_
  try simp only[h1,A,B,C,E,F,J,P]
theorem B3r:∀(n:Nat) (a0:Int) (r:(List UInt8)),A1f n a0=H r→FC O 359 [.sc (.int .i64 a0)] [.sc (.v (.str r))]:=by
 intro n
 induction n with
 | zero=>intro _ r h; cases h
 | succ n ih=>intro a0 r h; rw[A1f] at h; exact B3y (A1f n) a0 r ih h
theorem B68(a0:Int)(r:(List UInt8))(h:A66 a0=H r):FC O 359 [.sc (.int .i64 a0)] [.sc (.v (.str r))]:=B3r bigN a0 r h
/- 325:spec_l06Ship -/
def cc56:ACode:=(.seq (.reg [(L,.alloc 4 [aS [],aI 0,aI 0,aI 0,aI 0,aB G])]) (.seq (.reg [mv 5 1,ca 6 359 [S 5],(L,.bin 7 .add (KS [115]) (S 6)),mv 8 0,ca 9 120 [S 8,K 200],(L,.bin 10 .add (K 40) (S 9)),mv 11 0,ca 12 120 [S 11,K 500],(L,.bin 13 .add (K 600) (S 12)),mv 14 0,ca 15 120 [S 14,K 4],mv 16 0,ca 17 120 [S 16,K 3],mv 18 0,ca 19 176 [S 18,K 4],(L,.build 20 [aS [],aI 0,aI 0,aI 0,aI 0,aB G] [(0,1,(S 7)),(1,1,(S 10)),(2,1,(S 13)),(3,1,(S 15)),(4,1,(S 17)),(5,1,(S 19))]),so 4 20 6]) .ret))
theorem F6b:B0 O 325=H (cc56.strip,[.c 4 T 6],21):=by kernel_rfl
theorem C0a(a0:Xl01Cur)(a1:Int)(r:XShip × Xl01Cur)(h:A2g a0 a1=H r):FCy O 325 [.p,.d (.sc (.int .i64 a1))] [.sl (N r8 a0.b),.int .i64 a0.i,.int .i64 a0.h] [.sl (N r8 r.2.b),.int .i64 r.2.i,.int .i64 r.2.h] [.ag [.v (.str r.1.Name),.v (.int .i64 r.1.Length),.v (.int .i64 r.1.Draught),.v (.int .i64 r.1.Line),.v (.int .i64 r.1.Tugs),.v (.bool r.1.Slow)]]:=by
 unfold A2g at h
 refine A2v (σ:=⟨[(0,vc (.pb 99999999999 0)),(1,vc (aI a1))],[(99999999999,[aL (N r8 a0.b),aI a0.i,aI a0.h])],[]⟩) B4 F6b rfl rfl ?_
 simp only[cc56]
 try simp only[A,B,C,E,F,J]
 refine E0 rfl rfl ?_
 obtain⟨r1,h1,h⟩:=ob h
 try simp only[A,B,C,E,F,J]
 refine A4 (B68 _ _ h1) rfl rfl (uf rfl) ?_
 obtain⟨h2,h⟩:=E2 h
 obtain⟨r3,h3,h⟩:=ob h
 try simp only[h2,A,B,C,E,F,J]
 refine C3 (B9 _ _ _ h3) 99999999999 rfl rfl rfl ?_
 obtain⟨r4,h4,h⟩:=ob h
 try simp only[h2,A,B,C,E,F,J]
 refine C3 (B9 _ _ _ h4) 99999999999 rfl rfl rfl ?_
 obtain⟨r5,h5,h⟩:=ob h
 try simp only[h2,A,B,C,E,F,J]
 refine C3 (B9 _ _ _ h5) 99999999999 rfl rfl rfl ?_
 obtain⟨r6,h6,h⟩:=ob h
 try simp only[h2,A,B,C,E,F,J]
 refine C3 (B9 _ _ _ h6) 99999999999 rfl rfl rfl ?_
 obtain⟨r7,h7,h⟩:=ob h
 try simp only[h2,A,B,C,E,F,J]
 refine C3 (Y8 _ _ _ h7) 99999999999 rfl rfl rfl ?_
 try simp only[h2,A,B,C,E,F,J]
 cases h
 try simp only[W9,A,B,C,E,F,J]
 trivial
/- 262:spec_l06Fleet -/
def C90:ACode:= .seq (.reg [(L,.keep [0,5,6] [99999999999] [448])]) (.seq (.seq (.reg [mv 12 6,(L,.bin 13 .gtr (S 12) (K 0))]) (.cond (S 13) .skip (.exit 0))) (.seq (.block 1 (.reg [mv 16 5,mv 17 0,mv 18 5,ln 19 18,ca 20 325 [S 17,S 19],(L,.bslice 21 6 [.str [],.int .i64 0,.int .i64 0,.int .i64 0,.int .i64 0,.bool G] 1 [(0,(S 20))]),(L,.app 22 6 56 (S 16) (S 21)),mv 5 22])) (.reg [mv 14 6,(L,.bin 15 .sub (S 14) (K 1)),mv 6 15])))
def D7u:ACode:=(.seq (.reg [mv 23 5,mv 4 23]) .ret)
def cc60:ACode:=(.seq (.reg [(L,.mv 4 KN)]) (.seq (.reg [(L,.bslice 7 6 [.str [],.int .i64 0,.int .i64 0,.int .i64 0,.int .i64 0,.bool G] 0 []),mv 5 7]) (.seq (.seq (.reg [mv 8 0,mv 9 1,ca 10 120 [S 8,S 9],(L,.bin 11 .add (K 1) (S 10)),mv 6 11]) (.block 0 (.loop C90))) D7u)))
theorem F40:∀(n:Nat) (v2:Int) (v3:List Int) (v4 v5:Int) (v6:List XShip) (r:(List XShip) × Xl01Cur),V6 n v2 v3 v4 v5 v6=H r→∀σ:St,σ.kept [0,5,6] [99999999999] [448]=⟨[(0,vc (.pb 99999999999 0)),(5,vc (.own 448)),(6,vc (aI v2))],[(99999999999,[aL (N r8 v3),aI v4,aI v5])],[(448,6,N X v6)]⟩→go O (.code (.loop C90):: [.blk 0,.code D7u]) (C0h [4] [.sc (.o 6 (N X r.1))] [.sl (N r8 r.2.b),.int .i64 r.2.i,.int .i64 r.2.h]) .normal (H σ):=by
 intro n
 induction n with
 | zero=>intro _ _ _ _ _ r h; cases h
 | succ n ih=>
  intro v2 v3 v4 v5 v6 r h σ hσ
  rw[V6] at h
  refine B8 ?_
  rcases ic h with ⟨h7,h⟩|⟨h7,h⟩
  ·obtain⟨r9,h9,h⟩:=ob h
   try simp only[hσ,h7,C90,A,B,C,E,F,J]
   refine C3 (C0a _ _ _ h9) 99999999999 rfl rfl rfl ?_
   try simp only[h7,A,B,C,E,F,J]
   refine D8 (es:=N X ([r9.1]:List XShip)) rfl rfl ?_
   obtain⟨h10,h⟩:=E2 h
   try simp only[h7,h10,A,B,C,E,F,J]
   refine ih _ _ _ _ _ _ h _ ?_
   try simp only[h7,h10,A,B,C,E,F,J,P]
  ·try simp only[hσ,h7,C90,D7u,A,B,C,E,F,J]
   cases h
   trivial
theorem F50:B0 O 262=H (cc60.strip,[4],24):=by kernel_rfl
theorem B75(a0:Xl01Cur)(a1:Int)(r:(List XShip) × Xl01Cur)(h:A3k a0 a1=H r):FCo O 262 [.p,.d (.sc (.int .i64 a1))] [.sl (N r8 a0.b),.int .i64 a0.i,.int .i64 a0.h] [.sl (N r8 r.2.b),.int .i64 r.2.i,.int .i64 r.2.h] [.sc (.o 6 (N X r.1))]:=by
 unfold A3k at h
 refine D29 (σ:=⟨[(0,vc (.pb 99999999999 0)),(1,vc (aI a1))],[(99999999999,[aL (N r8 a0.b),aI a0.i,aI a0.h])],[]⟩) B4 F50 rfl rfl ?_
 simp only[cc60]
 try simp only[A,B,C,E,F,J]
 refine D8 (es:=N X ([]:List XShip)) rfl rfl ?_
 obtain⟨r1,h1,h⟩:=ob h
 try simp only[A,B,C,E,F,J]
 refine C3 (B9 _ _ _ h1) 99999999999 rfl rfl rfl ?_
 try simp only[A,B,C,E,F,J]
 refine F40 _ _ _ _ _ _ _ h _ ?_
 try simp only[A,B,C,E,F,J,P]
/- 263:spec_l09Regime -/
def cc63:ACode:=(.seq (.reg [(L,.alloc 2 [aI 0,aB G])]) (.seq (.reg [mv 3 0,ca 4 120 [S 3,K 30],mv 5 0,ca 6 176 [S 5,K 4],(L,.build 7 [aI 0,aB G] [(0,1,(S 4)),(1,1,(S 6))]),so 2 7 2]) .ret))
theorem F5v:B0 O 263=H (cc63.strip,[.c 2 T 2],8):=by kernel_rfl
theorem B7d(a0:Xl01Cur)(r:XRegime × Xl01Cur)(h:A25 a0=H r):FCy O 263 [.p] [.sl (N r8 a0.b),.int .i64 a0.i,.int .i64 a0.h] [.sl (N r8 r.2.b),.int .i64 r.2.i,.int .i64 r.2.h] [.ag [.v (.int .i64 r.1.Gap),.v (.bool r.1.NoMeet)]]:=by
 unfold A25 at h
 refine A2v (σ:=⟨[(0,vc (.pb 99999999999 0))],[(99999999999,[aL (N r8 a0.b),aI a0.i,aI a0.h])],[]⟩) B4 F5v rfl rfl ?_
 simp only[cc63]
 try simp only[A,B,C,E,F,J]
 refine E0 rfl rfl ?_
 obtain⟨r1,h1,h⟩:=ob h
 try simp only[A,B,C,E,F,J]
 refine C3 (B9 _ _ _ h1) 99999999999 rfl rfl rfl ?_
 obtain⟨r2,h2,h⟩:=ob h
 try simp only[A,B,C,E,F,J]
 refine C3 (Y8 _ _ _ h2) 99999999999 rfl rfl rfl ?_
 try simp only[A,B,C,E,F,J]
 cases h
 try simp only[W9,A,B,C,E,F,J]
 trivial
/- 360:spec_StayingMoves -/
def cc65:ACode:=(.seq (.reg [(L,.mv 0 KN)]) (.seq (.reg [(L,.mksl 1 1 8 [.int .i64 0] (K 64) (K 64)),mv 0 1]) .ret))
theorem F5o:B0 O 360=H (cc65.strip,[0],2):=by kernel_rfl
theorem B3n(r:(List Int))(h:A3a=H r):FC O 360 [] [.sc (.o 1 (N rI r))]:=by
 unfold A3a at h
 refine D3 B4 F5o rfl ?_
 simp only[cc65,A,B,C,E,F,J]
 obtain⟨n1,hn1,h⟩:=ob h
 try simp only[A,B,C,E,F,J]
 refine B17 (es:=N rI (List.replicate n1 (0:Int))) rfl rfl hn1 rfl (A90 rfl) rfl ?_
 try simp only[A,B,C,E,F,J]
 cases h
 trivial
/- 326:spec_l13Moves -/
def C6f:ACode:= .seq (.reg [(L,.keep [0,3,7,8] [99999999999] [320])]) (.seq (.reg [bn 9 .lss 8 7]) (.seq (.cond (S 9) .skip (.exit 0)) (.seq (.block 1 (.seq (.reg [mv 10 8,mv 4 10]) (.seq (.reg [mv 11 4,(L,.bin 12 .rem (S 11) (K 9)),(L,.bin 13 .neq (S 12) (K 0))]) (.cond (S 13) (.reg [mv 14 3,mv 15 4,mv 16 0,ca 17 120 [S 16,K 5],(L,.bin 18 .mul (K 5) (S 17)),ia 19 14 15 1,so 19 18 1]) .skip)))) (.reg [(L,.bin 20 .add (S 8) (K 1)),mv 8 20]))))
def D5h:ACode:=(.seq (.reg [(L,.frz 320),mv 21 3,mv 2 21]) .ret)
def cc69:ACode:=(.seq (.reg [(L,.mv 2 KN)]) (.seq (.reg [ca 5 360 [],mv 3 5]) (.seq (.seq (.reg [mv 6 3,ln 7 6,(L,.mv 8 (K 0))]) (.block 0 (.loop C6f))) D5h)))
theorem F5q(r1:(List Int)):∀(n:Nat) (v2:Int) (v3:List Int) (v4 v5:Int) (v6:List Int) (r:(List Int) × Xl01Cur),Q6 r1 n v2 v3 v4 v5 v6=H r→∀σ:St,σ.kept [0,3,7,8] [99999999999] [320]=⟨[(0,vc (.pb 99999999999 0)),(3,vc (.own 320)),(7,vc (aI (r1.length:Int))),(8,vc (aI v2))],[(99999999999,[aL (N r8 v3),aI v4,aI v5])],[(320,1,N rI v6)]⟩→go O (.code (.loop C6f):: [.blk 0,.code D5h]) (B2l [2] [.sc (.v (.sl (N rI r.1)))] [.sl (N r8 r.2.b),.int .i64 r.2.i,.int .i64 r.2.h]) .normal (H σ):=by
 intro n
 induction n with
 | zero=>intro _ _ _ _ _ r h; cases h
 | succ n ih=>
  intro v2 v3 v4 v5 v6 r h σ hσ
  rw[Q6] at h
  refine B8 ?_
  rcases ic h with ⟨h7,h⟩|⟨h7,h⟩
  ·rcases ic h with ⟨h8,h⟩|⟨h8,h⟩
   ·obtain⟨r9,h9,h⟩:=ob h
    try simp only[hσ,h7,h8,C6f,A,B,C,E,F,J]
    refine C3 (B9 _ _ _ h9) 99999999999 rfl rfl rfl ?_
    obtain⟨x10,h10,h⟩:=ob h
    have h10n:=P7 h10
    try simp only[h7,h8,h10,A,B,C,E,F,J]
    refine A5y (row:=rI) (y:=(zB .i64 ((5:Int)*r9.1))) rfl rfl h10n rfl rfl (by rfl) ?_
    try simp only[h7,h8,h10,A,B,C,E,F,J]
    refine ih _ _ _ _ _ _ h _ ?_
    try simp only[h7,h8,h10,A,B,C,E,F,J,P]
   ·try simp only[hσ,h7,h8,C6f,A,B,C,E,F,J]
    refine ih _ _ _ _ _ _ h _ ?_
    try simp only[h7,h8,A,B,C,E,F,J,P]
  ·try simp only[hσ,h7,C6f,D5h,A,B,C,E,F,J]
   refine U4 rfl ?_
   try simp only[h7,A,B,C,E,F,J]
   cases h
   trivial
theorem F6f:B0 O 326=H (cc69.strip,[2],22):=by kernel_rfl
theorem B7v(a0:Xl01Cur)(r:(List Int) × Xl01Cur)(h:A3n a0=H r):FCy O 326 [.p] [.sl (N r8 a0.b),.int .i64 a0.i,.int .i64 a0.h] [.sl (N r8 r.2.b),.int .i64 r.2.i,.int .i64 r.2.h] [.sc (.v (.sl (N rI r.1)))]:=by
 unfold A3n at h
 refine A2v (σ:=⟨[(0,vc (.pb 99999999999 0))],[(99999999999,[aL (N r8 a0.b),aI a0.i,aI a0.h])],[]⟩) B4 F6f rfl rfl ?_
 simp only[cc69]
 obtain⟨r1,h1,h⟩:=ob h
 try simp only[A,B,C,E,F,J]
 refine A4 (B3n _ h1) rfl rfl (uf rfl) ?_
 try simp only[A,B,C,E,F,J]
 refine F5q _ _ _ _ _ _ _ _ h _ ?_
 try simp only[A,B,C,E,F,J,P]
/- 264:spec_l14Crew -/
def cc72:ACode:=(.seq (.reg [(L,.alloc 2 [aI 0,aI 0,aI 0,.nil])]) (.seq (.reg [mv 3 0,ca 4 120 [S 3,K 4],(L,.bin 5 .add (K 1) (S 4)),mv 6 0,ca 7 120 [S 6,K 3],(L,.bin 8 .add (K 1) (S 7)),mv 9 0,ca 10 120 [S 9,K 60],mv 11 0,ca 12 326 [S 11],(L,.build 13 [aI 0,aI 0,aI 0,.nil] [(0,1,(S 5)),(1,1,(S 8)),(2,1,(S 10)),(3,1,(S 12))]),so 2 13 4]) .ret))
theorem F5x:B0 O 264=H (cc72.strip,[.c 2 T 4],14):=by kernel_rfl
theorem B9s(a0:Xl01Cur)(r:XCrew × Xl01Cur)(h:A4h a0=H r):FCy O 264 [.p] [.sl (N r8 a0.b),.int .i64 a0.i,.int .i64 a0.h] [.sl (N r8 r.2.b),.int .i64 r.2.i,.int .i64 r.2.h] [.ag [.v (.int .i64 r.1.Tugs),.v (.int .i64 r.1.Pilots),.v (.int .i64 r.1.Rest),.v (.sl (N rI r.1.Moves))]]:=by
 unfold A4h at h
 refine A2v (σ:=⟨[(0,vc (.pb 99999999999 0))],[(99999999999,[aL (N r8 a0.b),aI a0.i,aI a0.h])],[]⟩) B4 F5x rfl rfl ?_
 simp only[cc72]
 try simp only[A,B,C,E,F,J]
 refine E0 rfl rfl ?_
 obtain⟨r1,h1,h⟩:=ob h
 try simp only[A,B,C,E,F,J]
 refine C3 (B9 _ _ _ h1) 99999999999 rfl rfl rfl ?_
 obtain⟨r2,h2,h⟩:=ob h
 try simp only[A,B,C,E,F,J]
 refine C3 (B9 _ _ _ h2) 99999999999 rfl rfl rfl ?_
 obtain⟨r3,h3,h⟩:=ob h
 try simp only[A,B,C,E,F,J]
 refine C3 (B9 _ _ _ h3) 99999999999 rfl rfl rfl ?_
 obtain⟨r4,h4,h⟩:=ob h
 try simp only[A,B,C,E,F,J]
 refine C3 (B7v _ _ h4) 99999999999 rfl rfl rfl ?_
 try simp only[A,B,C,E,F,J]
 cases h
 try simp only[W9,A,B,C,E,F,J]
 trivial
/- 175:spec_l15Harbour -/
def C9u:ACode:= .seq (.reg [(L,.keep [0,2,3,26,27] [99999999999,2,3] [640])]) (.seq (.reg [bn 28 .lss 27 26]) (.seq (.cond (S 28) .skip (.exit 0)) (.seq (.block 1 (.seq (.reg [mv 29 27,mv 4 29]) (.drw [o0 (fa 30 3 5),o0 (ld 31 30),o0 (mv 32 4),o0 (fa 33 3 5),o0 (ld 34 33),o0 (mv 35 4),o0 (ia 36 34 35 6),o0 (fa 37 36 4),o0 (ld 38 37),o0 (L,.mm 39 G (S 38) (K 1)),o0 (ia 40 31 32 6),o0 (fa 41 40 4),(L,so 41 39 1)]))) (.reg [(L,.bin 42 .add (S 27) (K 1)),mv 27 42]))))
def D5e:ACode:=(.seq (.reg [(L,.frz 640),lw 43 3 12,so 2 43 12]) .ret)
def cc76:ACode:=(.seq (.reg [(L,.alloc 2 [aI 0,.nil,.nil,.nil,.nil,.nil,aI 0,aB G,aI 0,aI 0,aI 0,.nil])]) (.seq (.reg [mv 5 0,ca 6 260 [S 5],mv 7 0,ca 8 261 [S 7],mv 9 0,ca 10 262 [S 9,K 3],mv 11 0,ca 12 263 [S 11],mv 13 0,ca 14 264 [S 13],(L,.build 15 [aI 0,.nil,.nil,.nil,.nil,.nil,aI 0,aB G,aI 0,aI 0,aI 0,.nil] [(0,3,(S 6)),(3,2,(S 8)),(5,1,(S 10)),(6,2,(S 12)),(8,4,(S 14))]),(L,.alloc 3 [aI 0,.nil,.nil,.nil,.nil,.nil,aI 0,aB G,aI 0,aI 0,aI 0,.nil]),so 3 15 12]) (.seq (.reg [fa 16 3 0,fa 17 16 0,fa 18 17 0,ld 19 18,(L,.bin 20 .add (S 19) (K 150)),fa 21 3 0,fa 22 21 0,fa 23 22 0,so 23 20 1]) (.seq (.seq (.reg [fa 24 3 5,ld 25 24,ln 26 25,(L,.mv 27 (K 0))]) (.block 0 (.loop C9u))) D5e))))
theorem F5d(r3:(List XShip) × Xl01Cur)(r5:XCrew × Xl01Cur)(r1:XForecast × Xl01Cur)(r2:XChart × Xl01Cur)(r4:XRegime × Xl01Cur)(y7:Int):∀(n:Nat) (v6:Int) (v8:List XShip) (r:XHarbour × Xl01Cur),R8 r3 r5 r1 r2 r4 y7 n v6 v8=H r→∀σ:St,σ.kept [0,2,3,26,27] [99999999999,2,3] [640]=⟨[(0,vc (.pb 99999999999 0)),(2,vc (.pb 2 0)),(3,vc (.pb 3 0)),(26,vc (aI (r3.1.length:Int))),(27,vc (aI v6))],[(99999999999,(dm r5.2.row)),(2,[aI (0:Int),.nil,.nil,.nil,.nil,.nil,aI (0:Int),aB G,aI (0:Int),aI (0:Int),aI (0:Int),.nil]),(3,([aI y7,aL (N U r1.1.Tide.Parts),aL (N W r1.1.Surges),aL (N V r2.1.Points),aL (N Q r2.1.Segments),.own 640,aI r4.1.Gap,aB r4.1.NoMeet]++dm r5.1.row))],[(640,6,N X v8)]⟩→go O (.code (.loop C9u):: [.blk 0,.code D5e]) (B2l [.c 2 T 12] [.ag [.v (.int .i64 r.1.Forecast.Tide.Mean),.v (.sl (N U r.1.Forecast.Tide.Parts)),.v (.sl (N W r.1.Forecast.Surges)),.v (.sl (N V r.1.Chart.Points)),.v (.sl (N Q r.1.Chart.Segments)),.v (.sl (N X r.1.Fleet)),.v (.int .i64 r.1.Regime.Gap),.v (.bool r.1.Regime.NoMeet),.v (.int .i64 r.1.Crew.Tugs),.v (.int .i64 r.1.Crew.Pilots),.v (.int .i64 r.1.Crew.Rest),.v (.sl (N rI r.1.Crew.Moves))]] [.sl (N r8 r.2.b),.int .i64 r.2.i,.int .i64 r.2.h]) .normal (H σ):=by
 intro n
 induction n with
 | zero=>intro _ _ r h; cases h
 | succ n ih=>
  intro v6 v8 r h σ hσ
  rw[R8] at h
  refine B8 ?_
  rcases ic h with ⟨h9,h⟩|⟨h9,h⟩
  ·try simp only[hσ,h9,C9u,A,B,C,E,F,J]
   refine C6 rfl ?_
   obtain⟨x10,h10,h⟩:=ob h
   have h10n:=P7 h10
   try simp only[h9,h10,h10n,A,B,C,E,F,J]
   refine A5y (row:=X) (y:=(⟨x10.Name,x10.Length,x10.Draught,x10.Line,(if(1:Int)<x10.Tugs then(1:Int) else x10.Tugs),x10.Slow⟩:XShip)) rfl rfl h10n rfl rfl (by rfl) ?_
   try simp only[h9,h10,h10n,A,B,C,E,F,J]
   refine C6 rfl ?_
   try simp only[h9,h10,h10n,A,B,C,E,F,J]
   refine ih _ _ _ h _ ?_
   try simp only[h9,h10,h10n,A,B,C,E,F,J,P]
  ·try simp only[hσ,h9,C9u,D5e,A,B,C,E,F,J]
   refine U4 rfl ?_
   try simp only[h9,A,B,C,E,F,J]
   cases h
   try simp only[W9,A,B,C,E,F,J]
   trivial
theorem F49:B0 O 175=H (cc76.strip,[.c 2 T 12],44):=by kernel_rfl
theorem B6c(a0:Xl01Cur)(r:XHarbour × Xl01Cur)(h:A19 a0=H r):FCy O 175 [.p] [.sl (N r8 a0.b),.int .i64 a0.i,.int .i64 a0.h] [.sl (N r8 r.2.b),.int .i64 r.2.i,.int .i64 r.2.h] [.ag [.v (.int .i64 r.1.Forecast.Tide.Mean),.v (.sl (N U r.1.Forecast.Tide.Parts)),.v (.sl (N W r.1.Forecast.Surges)),.v (.sl (N V r.1.Chart.Points)),.v (.sl (N Q r.1.Chart.Segments)),.v (.sl (N X r.1.Fleet)),.v (.int .i64 r.1.Regime.Gap),.v (.bool r.1.Regime.NoMeet),.v (.int .i64 r.1.Crew.Tugs),.v (.int .i64 r.1.Crew.Pilots),.v (.int .i64 r.1.Crew.Rest),.v (.sl (N rI r.1.Crew.Moves))]]:=by
 unfold A19 at h
 refine A2v (σ:=⟨[(0,vc (.pb 99999999999 0))],[(99999999999,[aL (N r8 a0.b),aI a0.i,aI a0.h])],[]⟩) B4 F49 rfl rfl ?_
 simp only[cc76]
 try simp only[A,B,C,E,F,J]
 refine E0 rfl rfl ?_
 obtain⟨r1,h1,h⟩:=ob h
 try simp only[A,B,C,E,F,J]
 refine C3 (B9x _ _ h1) 99999999999 rfl rfl rfl ?_
 obtain⟨r2,h2,h⟩:=ob h
 try simp only[A,B,C,E,F,J]
 refine C3 (C0k _ _ h2) 99999999999 rfl rfl rfl ?_
 obtain⟨r3,h3,h⟩:=ob h
 try simp only[A,B,C,E,F,J]
 refine C42 (B75 _ _ _ h3) 99999999999 rfl rfl rfl rfl ?_
 obtain⟨r4,h4,h⟩:=ob h
 try simp only[A,B,C,E,F,J]
 refine C3 (B7d _ _ h4) 99999999999 rfl rfl rfl ?_
 obtain⟨r5,h5,h⟩:=ob h
 try simp only[A,B,C,E,F,J]
 refine C3 (B9s _ _ h5) 99999999999 rfl rfl rfl ?_
 try simp only[A,B,C,E,F,J]
 refine E0 rfl rfl ?_
 try simp only[A,B,C,E,F,J]
 refine F5d _ _ _ _ _ _ _ _ _ _ h _ ?_
 try simp only[A,B,C,E,F,J,P]
/- 177:spec_l15Call -/
def A34:List (List Nat × AItem):= [([],(L,.faddr 15 (S 5) 3)),([0],(L,.load 16 (S 15) G 1)),([1],(L,.bin 17 .add (S 16) (K 60))),([],(L,.mv 18 (S 0))),([3],(L,.call 19 120 [(S 18),(K 400)])),([2,4],(L,.bin 20 .add (S 17) (S 19))),([0,1,2,3,4,5],(L,.faddr 21 (S 5) 4)),([6,5,4,0,1,2,3,4,5],(L,.store (S 21) (S 20) 1))]
def D5s:ACode:= .seq (.reg [(L,.keep [0,4,5] [99999999999,4,5] [])]) (.seq (.any A34) (.seq (.reg [lw 22 5 5,so 4 22 5]) .ret))
def cc80:ACode:=(.seq (.reg [(L,.alloc 4 [aI 0,aI 0,aI 0,aI 0,aI 0])]) (.seq (.reg [mv 6 1,mv 7 0,ca 8 120 [S 7,K 30],(L,.bin 9 .mul (K 15) (S 8)),(L,.build 10 [aI 0,aI 0,aI 0,aI 0,aI 0] [(0,1,(S 6)),(2,1,(K 3)),(3,1,(S 9))]),(L,.alloc 5 [aI 0,aI 0,aI 0,aI 0,aI 0]),so 5 10 5]) (.seq (.seq (.reg [mv 11 0,ca 12 176 [S 11,K 3]]) (.cond (S 12) (.seq (.reg [fa 13 5 1,(L,.store (S 13) (K 3) 1)]) (.reg [fa 14 5 2,(L,.store (S 14) (K 0) 1)])) .skip)) D5s)))
abbrev E7(v6:Int)(r7:Int × Xl01Cur)(c0_ c1_:Bool)(c2_ c3_:Bool)(c4_ c5_ c6_:Bool)(bx_:List (Nat × List AC))(rs_:Rows):St:=⟨[(0,vc (.pb 99999999999 0)),(4,vc (.pb 4 0)),(5,vc (.pb 5 0)),(15,bif c0_ then vc (.pb 5 3) else .undef),(16,bif c1_ then vc (aI v6) else .undef),(17,bif c2_ then vc (aI (zB .i64 (v6+(60:Int)))) else .undef),(18,bif c3_ then vc (.pb 99999999999 0) else .undef),(19,bif c4_ then vc (aI r7.1) else .undef),(20,bif c5_ then vc (aI (zB .i64 ((zB .i64 (v6+(60:Int)))+r7.1))) else .undef),(21,bif c6_ then vc (.pb 5 4) else .undef)],bx_,rs_⟩
abbrev A1l(a1 v4:Int)(v5 v6:Int)(r7:Int × Xl01Cur):St:=(E7 v6 r7 T T T T T T T [(99999999999,(dm r7.2.row)),(4,[aI (0:Int),aI (0:Int),aI (0:Int),aI (0:Int),aI (0:Int)]),(5,[aI a1,aI v4,aI v5,aI v6,aI (zB .i64 ((zB .i64 (v6+(60:Int)))+r7.1))])] [])
theorem F6d(r2:Bool × Xl01Cur)(a1 v4:Int)(v5 v6:Int)(r7:Int × Xl01Cur)(h7:A8 r2.2 (400:Int)=H r7):∀(f:Nat),E8 O A34 (A1l a1 v4 v5 v6 r7) f [T,T,T,T,T,T,T,T] (E7 v6 r7 T T T T T T T [(99999999999,(dm r7.2.row)),(4,[aI (0:Int),aI (0:Int),aI (0:Int),aI (0:Int),aI (0:Int)]),(5,[aI a1,aI v4,aI v5,aI v6,aI (zB .i64 ((zB .i64 (v6+(60:Int)))+r7.1))])] []):=by
 intro f
 induction f with
 | zero=>intro h; rfl
 | succ f ih=>
  refine B6 ⟨?_,?_,?_,?_,?_,?_,?_,?_,⟨⟩⟩
  ·intro h; cases h
  ·intro h; cases h
  ·intro h; cases h
  ·intro h; cases h
  ·intro h; cases h
  ·intro h; cases h
  ·intro h; cases h
  ·intro h; cases h
theorem F5r(r2:Bool × Xl01Cur)(a1 v4:Int)(v5 v6:Int)(r7:Int × Xl01Cur)(h7:A8 r2.2 (400:Int)=H r7):∀(f:Nat) (b0 b1:Bool) (b2 b5 b6:Bool),E8 O A34 (A1l a1 v4 v5 v6 r7) f [b0,b1,b2,T,T,b5,b6,G] (E7 v6 r7 b0 b1 b2 T T b5 b6 [(99999999999,(dm r7.2.row)),(4,[aI (0:Int),aI (0:Int),aI (0:Int),aI (0:Int),aI (0:Int)]),(5,[aI a1,aI v4,aI v5,aI v6,aI (0:Int)])] []):=by
 intro f
 induction f with
 | zero=>intro b0 b1 b2 b5 b6 h; simp at h
 | succ f ih=>
  intro b0 b1 b2 b5 b6
  refine B6 ⟨?_,?_,?_,?_,?_,?_,?_,?_,⟨⟩⟩
  ·intro h0 hw
   obtain rfl:=hz h0 rfl
   refine np ?_
   try simp only[E7,cdt,cdf,A1,A,B,C,E,F,J]
   exact ih T b1 b2 b5 b6
  ·intro h0 hw
   obtain rfl:=hz h0 rfl
   obtain rfl:=hq hw 0 rfl rfl
   refine np ?_
   try simp only[E7,cdt,cdf,A1,A,B,C,E,F,J]
   exact ih T T b2 b5 b6
  ·intro h0 hw
   obtain rfl:=hz h0 rfl
   obtain rfl:=hq hw 1 rfl rfl
   refine np ?_
   try simp only[E7,cdt,cdf,A1,A,B,C,E,F,J]
   exact ih b0 T T b5 b6
  ·intro h; cases h
  ·intro h; cases h
  ·intro h0 hw
   obtain rfl:=hz h0 rfl
   obtain rfl:=hq hw 2 rfl rfl
   refine np ?_
   try simp only[E7,cdt,cdf,A1,A,B,C,E,F,J]
   exact ih b0 b1 T T b6
  ·intro h0 hw
   obtain rfl:=hz h0 rfl
   obtain rfl:=hq hw 0 rfl rfl
   obtain rfl:=hq hw 1 rfl rfl
   obtain rfl:=hq hw 2 rfl rfl
   obtain rfl:=hq hw 5 rfl rfl
   refine np ?_
   try simp only[E7,cdt,cdf,A1,A,B,C,E,F,J]
   exact ih T T T T T
  ·intro h0 hw
   obtain rfl:=hq hw 0 rfl rfl
   obtain rfl:=hq hw 1 rfl rfl
   obtain rfl:=hq hw 2 rfl rfl
   obtain rfl:=hq hw 5 rfl rfl
   obtain rfl:=hq hw 6 rfl rfl
   refine np ?_
   try simp only[E7,cdt,cdf,A1,A,B,C,E,F,J]
   exact F6d r2 a1 v4 v5 v6 r7 h7 _
theorem F5a(r2:Bool × Xl01Cur)(a1 v4:Int)(v5 v6:Int)(r7:Int × Xl01Cur)(h7:A8 r2.2 (400:Int)=H r7):∀(f:Nat) (b0 b1:Bool) (b2 b3:Bool),E8 O A34 (A1l a1 v4 v5 v6 r7) f [b0,b1,b2,b3,G,G,G,G] (E7 v6 r7 b0 b1 b2 b3 G G G [(99999999999,(dm r2.2.row)),(4,[aI (0:Int),aI (0:Int),aI (0:Int),aI (0:Int),aI (0:Int)]),(5,[aI a1,aI v4,aI v5,aI v6,aI (0:Int)])] []):=by
 intro f
 induction f with
 | zero=>intro b0 b1 b2 b3 h; simp at h
 | succ f ih=>
  intro b0 b1 b2 b3
  refine B6 ⟨?_,?_,?_,?_,?_,?_,?_,?_,⟨⟩⟩
  ·intro h0 hw
   obtain rfl:=hz h0 rfl
   refine np ?_
   try simp only[E7,cdt,cdf,A1,A,B,C,E,F,J]
   exact ih T b1 b2 b3
  ·intro h0 hw
   obtain rfl:=hz h0 rfl
   obtain rfl:=hq hw 0 rfl rfl
   refine np ?_
   try simp only[E7,cdt,cdf,A1,A,B,C,E,F,J]
   exact ih T T b2 b3
  ·intro h0 hw
   obtain rfl:=hz h0 rfl
   obtain rfl:=hq hw 1 rfl rfl
   refine np ?_
   try simp only[E7,cdt,cdf,A1,A,B,C,E,F,J]
   exact ih b0 T T b3
  ·intro h0 hw
   obtain rfl:=hz h0 rfl
   refine np ?_
   try simp only[E7,cdt,cdf,A1,A,B,C,E,F,J]
   exact ih b0 b1 b2 T
  ·intro h0 hw
   obtain rfl:=hq hw 3 rfl rfl
   refine np ?_
   try simp only[E7,cdt,cdf,A1,A,B,C,E,F,J]
   refine C3 (B9 _ _ _ h7) 99999999999 rfl rfl rfl ?_
   try simp only[A1,A,B,C,E,F,J]
   exact F5r r2 a1 v4 v5 v6 r7 h7 _ b0 b1 b2 G G
  ·intro _ hw; have:=hw 4 (by simp); cases this
  ·intro _ hw; have:=hw 4 (by simp); cases this
  ·intro _ hw; have:=hw 6 (by simp); cases this
theorem E4z(r2:Bool × Xl01Cur)(a1 v4:Int)(v5 v6:Int)(r:XCall × Xl01Cur)(h:A2r r2 a1 v4 v5 v6=H r)(σ:St)(hσ:σ.kept [0,4,5] [99999999999,4,5] []=⟨[(0,vc (.pb 99999999999 0)),(4,vc (.pb 4 0)),(5,vc (.pb 5 0))],[(99999999999,(dm r2.2.row)),(4,[aI (0:Int),aI (0:Int),aI (0:Int),aI (0:Int),aI (0:Int)]),(5,[aI a1,aI v4,aI v5,aI v6,aI (0:Int)])],[]⟩):go O (.code D5s:: []) (B2l [.c 4 T 5] [.ag [.v (.int .i64 r.1.Ship),.v (.int .i64 r.1.From),.v (.int .i64 r.1.To),.v (.int .i64 r.1.Ready),.v (.int .i64 r.1.Due)]] [.sl (N r8 r.2.b),.int .i64 r.2.i,.int .i64 r.2.h]) .normal (H σ):=by
 unfold A2r at h
 try simp only[hσ,D5s,A,B,C,E,F,J]
 obtain⟨r7,h7,h⟩:=ob h
 refine A37 (ks:= [0,4,5]) (bs:= [99999999999,4,5]) (rs:= []) (τ:=(A1l a1 v4 v5 v6 r7)) rfl (F5a r2 a1 v4 v5 v6 r7 h7 _ G G G G) ?_
 simp only[A1l,E7,cdt]
 try simp only[A,B,C,E,F,J]
 cases h
 try simp only[W9,A,B,C,E,F,J]
 trivial
theorem F5e:B0 O 177=H (cc80.strip,[.c 4 T 5],23):=by kernel_rfl
theorem B9y(a0:Xl01Cur)(a1:Int)(r:XCall × Xl01Cur)(h:A2f a0 a1=H r):FCy O 177 [.p,.d (.sc (.int .i64 a1))] [.sl (N r8 a0.b),.int .i64 a0.i,.int .i64 a0.h] [.sl (N r8 r.2.b),.int .i64 r.2.i,.int .i64 r.2.h] [.ag [.v (.int .i64 r.1.Ship),.v (.int .i64 r.1.From),.v (.int .i64 r.1.To),.v (.int .i64 r.1.Ready),.v (.int .i64 r.1.Due)]]:=by
 unfold A2f at h
 refine A2v (σ:=⟨[(0,vc (.pb 99999999999 0)),(1,vc (aI a1))],[(99999999999,[aL (N r8 a0.b),aI a0.i,aI a0.h])],[]⟩) B4 F5e rfl rfl ?_
 simp only[cc80]
 try simp only[A,B,C,E,F,J]
 refine E0 rfl rfl ?_
 obtain⟨r1,h1,h⟩:=ob h
 try simp only[A,B,C,E,F,J]
 refine C3 (B9 _ _ _ h1) 99999999999 rfl rfl rfl ?_
 try simp only[A,B,C,E,F,J]
 refine E0 rfl rfl ?_
 obtain⟨r2,h2,h⟩:=ob h
 try simp only[A,B,C,E,F,J]
 refine C3 (Y8 _ _ _ h2) 99999999999 rfl rfl rfl ?_
 rcases ic h with ⟨h3,h⟩|⟨h3,h⟩
 ·try simp only[h3,A,B,C,E,F,J]
  refine E4z _ _ _ _ _ _ h _ ?_
  try simp only[h3,A,B,C,E,F,J,P]
 ·try simp only[h3,A,B,C,E,F,J]
  refine E4z _ _ _ _ _ _ h _ ?_
  try simp only[h3,A,B,C,E,F,J,P]
/- 80:spec_l16Case -/
def D1j:ACode:= .seq (.reg [(L,.keep [0,2,4,5,6,12,13,22] [99999999999,2,4] [576])]) (.cond (S 22) (.reg [mv 23 5,mv 24 0,mv 25 6,ca 26 177 [S 24,S 25],(L,.bslice 27 5 [.int .i64 0,.int .i64 0,.int .i64 0,.int .i64 0,.int .i64 0] 1 [(0,(S 26))]),(L,.app 28 5 40 (S 23) (S 27)),mv 5 28]) .skip)
def C9w:ACode:=(.reg [(L,.bin 29 .add (S 13) (K 1)),mv 13 29])
def B6t:ACode:= .seq (.reg [(L,.keep [0,2,4,5,12,13] [99999999999,2,4] [576])]) (.seq (.reg [bn 14 .lss 13 12]) (.seq (.cond (S 14) .skip (.exit 0)) (.seq (.block 1 (.seq (.reg [mv 15 13,mv 6 15]) (.seq (.reg [mv 16 6,(L,.bin 17 .eql (S 16) (K 0)),mv 18 17,(H (18,G),.mv 19 (S 0)),(H (18,G),.call 20 176 [(S 19),(K 4)]),(H (18,G),.un 21 .not (S 20)),po 22 18 21]) D1j))) C9w)))
def C5d:ACode:=(.seq (.reg [lw 30 4 12,mv 31 5,so 2 30 12,mv 3 31]) .ret)
def cc90:ACode:=(.seq (.reg [(L,.alloc 2 [aI 0,.nil,.nil,.nil,.nil,.nil,aI 0,aB G,aI 0,aI 0,aI 0,.nil]),(L,.mv 3 KN)]) (.seq (.reg [mv 7 0,ca 8 175 [S 7],(L,.alloc 4 [aI 0,.nil,.nil,.nil,.nil,.nil,aI 0,aB G,aI 0,aI 0,aI 0,.nil]),so 4 8 12]) (.seq (.reg [(L,.bslice 9 5 [.int .i64 0,.int .i64 0,.int .i64 0,.int .i64 0,.int .i64 0] 0 []),mv 5 9]) (.seq (.seq (.reg [fa 10 4 5,ld 11 10,ln 12 11,(L,.mv 13 (K 0))]) (.block 0 (.loop B6t))) C5d))))
theorem E4n(v2:Int)(r1:XHarbour × Xl01Cur)(v6:List XCall)(A29:Int→(List Int)→Int→Int→(List XCall)→Option (XHarbour × (List XCall) × Xl01Cur))(A9i:∀(v2:Int) (v3:List Int) (v4 v5:Int) (v6:List XCall) zr,A29 v2 v3 v4 v5 v6=H zr→∀σ:St,σ.kept [0,2,4,5,12,13] [99999999999,2,4] [576]=⟨[(0,vc (.pb 99999999999 0)),(2,vc (.pb 2 0)),(4,vc (.pb 4 0)),(5,vc (.own 576)),(12,vc (aI (r1.1.Fleet.length:Int))),(13,vc (aI v2))],[(99999999999,[aL (N r8 v3),aI v4,aI v5]),(2,[aI (0:Int),.nil,.nil,.nil,.nil,.nil,aI (0:Int),aB G,aI (0:Int),aI (0:Int),aI (0:Int),.nil]),(4,(dm r1.1.row))],[(576,5,N Y v6)]⟩→go O (.code (.loop B6t):: [.blk 0,.code C5d]) (C0h [.c 2 T 12,3] [.ag [.v (.int .i64 zr.1.Forecast.Tide.Mean),.v (.sl (N U zr.1.Forecast.Tide.Parts)),.v (.sl (N W zr.1.Forecast.Surges)),.v (.sl (N V zr.1.Chart.Points)),.v (.sl (N Q zr.1.Chart.Segments)),.v (.sl (N X zr.1.Fleet)),.v (.int .i64 zr.1.Regime.Gap),.v (.bool zr.1.Regime.NoMeet),.v (.int .i64 zr.1.Crew.Tugs),.v (.int .i64 zr.1.Crew.Pilots),.v (.int .i64 zr.1.Crew.Rest),.v (.sl (N rI zr.1.Crew.Moves))],.sc (.o 5 (N Y zr.2.1))] [.sl (N r8 zr.2.2.b),.int .i64 zr.2.2.i,.int .i64 zr.2.2.h]) .normal (H σ))(v10:Bool)(v11:List Int)(v12 v13:Int)(r:XHarbour × (List XCall) × Xl01Cur)(h:U2 v2 r1 v6 A29 v10 v11 v12 v13=H r)(σ:St)(hσ:σ.kept [0,2,4,5,6,12,13,22] [99999999999,2,4] [576]=⟨[(0,vc (.pb 99999999999 0)),(2,vc (.pb 2 0)),(4,vc (.pb 4 0)),(5,vc (.own 576)),(6,vc (aI v2)),(12,vc (aI (r1.1.Fleet.length:Int))),(13,vc (aI v2)),(22,vc (aB v10))],[(99999999999,[aL (N r8 v11),aI v12,aI v13]),(2,[aI (0:Int),.nil,.nil,.nil,.nil,.nil,aI (0:Int),aB G,aI (0:Int),aI (0:Int),aI (0:Int),.nil]),(4,(dm r1.1.row))],[(576,5,N Y v6)]⟩):go O (.code D1j:: [.blk 1,.code C9w,.code (.loop B6t),.blk 0,.code C5d]) (C0h [.c 2 T 12,3] [.ag [.v (.int .i64 r.1.Forecast.Tide.Mean),.v (.sl (N U r.1.Forecast.Tide.Parts)),.v (.sl (N W r.1.Forecast.Surges)),.v (.sl (N V r.1.Chart.Points)),.v (.sl (N Q r.1.Chart.Segments)),.v (.sl (N X r.1.Fleet)),.v (.int .i64 r.1.Regime.Gap),.v (.bool r.1.Regime.NoMeet),.v (.int .i64 r.1.Crew.Tugs),.v (.int .i64 r.1.Crew.Pilots),.v (.int .i64 r.1.Crew.Rest),.v (.sl (N rI r.1.Crew.Moves))],.sc (.o 5 (N Y r.2.1))] [.sl (N r8 r.2.2.b),.int .i64 r.2.2.i,.int .i64 r.2.2.h]) .normal (H σ):=by
 unfold U2 at h
 rcases ic h with ⟨h14,h⟩|⟨h14,h⟩
 ·obtain⟨r15,h15,h⟩:=ob h
  try simp only[hσ,h14,D1j,A,B,C,E,F,J]
  refine C3 (B9y _ _ _ h15) 99999999999 rfl rfl rfl ?_
  try simp only[h14,A,B,C,E,F,J]
  refine D8 (es:=N Y ([r15.1]:List XCall)) rfl rfl ?_
  obtain⟨h16,h⟩:=E2 h
  try simp only[h14,h16,C9w,A,B,C,E,F,J]
  refine A9i _ _ _ _ _ _ h _ ?_
  try simp only[h14,h16,A,B,C,E,F,J,P]
 ·try simp only[hσ,h14,D1j,C9w,A,B,C,E,F,J]
  refine A9i _ _ _ _ _ _ h _ ?_
  try simp only[h14,A,B,C,E,F,J,P]
theorem F48(r1:XHarbour × Xl01Cur):∀(n:Nat) (v2:Int) (v3:List Int) (v4 v5:Int) (v6:List XCall) (r:XHarbour × (List XCall) × Xl01Cur),I8 r1 n v2 v3 v4 v5 v6=H r→∀σ:St,σ.kept [0,2,4,5,12,13] [99999999999,2,4] [576]=⟨[(0,vc (.pb 99999999999 0)),(2,vc (.pb 2 0)),(4,vc (.pb 4 0)),(5,vc (.own 576)),(12,vc (aI (r1.1.Fleet.length:Int))),(13,vc (aI v2))],[(99999999999,[aL (N r8 v3),aI v4,aI v5]),(2,[aI (0:Int),.nil,.nil,.nil,.nil,.nil,aI (0:Int),aB G,aI (0:Int),aI (0:Int),aI (0:Int),.nil]),(4,(dm r1.1.row))],[(576,5,N Y v6)]⟩→go O (.code (.loop B6t):: [.blk 0,.code C5d]) (C0h [.c 2 T 12,3] [.ag [.v (.int .i64 r.1.Forecast.Tide.Mean),.v (.sl (N U r.1.Forecast.Tide.Parts)),.v (.sl (N W r.1.Forecast.Surges)),.v (.sl (N V r.1.Chart.Points)),.v (.sl (N Q r.1.Chart.Segments)),.v (.sl (N X r.1.Fleet)),.v (.int .i64 r.1.Regime.Gap),.v (.bool r.1.Regime.NoMeet),.v (.int .i64 r.1.Crew.Tugs),.v (.int .i64 r.1.Crew.Pilots),.v (.int .i64 r.1.Crew.Rest),.v (.sl (N rI r.1.Crew.Moves))],.sc (.o 5 (N Y r.2.1))] [.sl (N r8 r.2.2.b),.int .i64 r.2.2.i,.int .i64 r.2.2.h]) .normal (H σ):=by
 intro n
 induction n with
 | zero=>intro _ _ _ _ _ r h; cases h
 | succ n ih=>
  intro v2 v3 v4 v5 v6 r h σ hσ
  rw[I8] at h
  refine B8 ?_
  rcases ic h with ⟨h7,h⟩|⟨h7,h⟩
  ·rcases ic h with ⟨h8,h⟩|⟨h8,h⟩
   ·try simp only[hσ,h7,h8,B6t,A,B,C,E,F,J]
    refine E4n _ _ _ (I8 r1 n) ih _ _ _ _ _ h _ ?_
    try simp only[h7,h8,A,B,C,E,F,J,P]
   ·obtain⟨r9,h9,h⟩:=ob h
    try simp only[hσ,h7,h8,B6t,A,B,C,E,F,J]
    refine C3 (Y8 _ _ _ h9) 99999999999 rfl rfl rfl ?_
    try simp only[h7,h8,A,B,C,E,F,J]
    refine E4n _ _ _ (I8 r1 n) ih _ _ _ _ _ h _ ?_
    try simp only[h7,h8,A,B,C,E,F,J,P]
  ·try simp only[hσ,h7,B6t,C5d,A,B,C,E,F,J]
   cases h
   try simp only[W9,A,B,C,E,F,J]
   trivial
theorem F5z:B0 O 80=H (cc90.strip,[.c 2 T 12,3],32):=by kernel_rfl
theorem B98(a0:Xl01Cur)(r:XHarbour × (List XCall) × Xl01Cur)(h:A6g a0=H r):FCo O 80 [.p] [.sl (N r8 a0.b),.int .i64 a0.i,.int .i64 a0.h] [.sl (N r8 r.2.2.b),.int .i64 r.2.2.i,.int .i64 r.2.2.h] [.ag [.v (.int .i64 r.1.Forecast.Tide.Mean),.v (.sl (N U r.1.Forecast.Tide.Parts)),.v (.sl (N W r.1.Forecast.Surges)),.v (.sl (N V r.1.Chart.Points)),.v (.sl (N Q r.1.Chart.Segments)),.v (.sl (N X r.1.Fleet)),.v (.int .i64 r.1.Regime.Gap),.v (.bool r.1.Regime.NoMeet),.v (.int .i64 r.1.Crew.Tugs),.v (.int .i64 r.1.Crew.Pilots),.v (.int .i64 r.1.Crew.Rest),.v (.sl (N rI r.1.Crew.Moves))],.sc (.o 5 (N Y r.2.1))]:=by
 unfold A6g at h
 refine D29 (σ:=⟨[(0,vc (.pb 99999999999 0))],[(99999999999,[aL (N r8 a0.b),aI a0.i,aI a0.h])],[]⟩) B4 F5z rfl rfl ?_
 simp only[cc90]
 try simp only[A,B,C,E,F,J]
 refine E0 rfl rfl ?_
 obtain⟨r1,h1,h⟩:=ob h
 try simp only[A,B,C,E,F,J]
 refine C3 (B6c _ _ h1) 99999999999 rfl rfl rfl ?_
 try simp only[A,B,C,E,F,J]
 refine E0 rfl rfl ?_
 try simp only[A,B,C,E,F,J]
 refine D8 (es:=N Y ([]:List XCall)) rfl rfl ?_
 try simp only[A,B,C,E,F,J]
 refine F48 _ _ _ _ _ _ _ _ h _ ?_
 try simp only[A,B,C,E,F,J,P]
/- 14:spec_MakeCalls -/
def cc94:ACode:=(.seq (.reg [(L,.alloc 2 [aI 0,.nil,.nil,.nil,.nil,.nil,aI 0,aB G,aI 0,aI 0,aI 0,.nil]),(L,.mv 3 KN)]) (.seq (.reg [mv 4 0,ca 5 81 [S 4],ca 6 80 [S 5],xt 7 6 0,xt 8 6 1,so 2 7 12,mv 3 8]) .ret))
theorem F52:B0 O 14=H (cc94.strip,[.c 2 T 12,3],9):=by kernel_rfl
theorem B65(a0:List Int)(r:XHarbour × (List XCall))(h:A21 a0=H r):FC O 14 [.sc (.sl (N r8 a0))] [.ag [.v (.int .i64 r.1.Forecast.Tide.Mean),.v (.sl (N U r.1.Forecast.Tide.Parts)),.v (.sl (N W r.1.Forecast.Surges)),.v (.sl (N V r.1.Chart.Points)),.v (.sl (N Q r.1.Chart.Segments)),.v (.sl (N X r.1.Fleet)),.v (.int .i64 r.1.Regime.Gap),.v (.bool r.1.Regime.NoMeet),.v (.int .i64 r.1.Crew.Tugs),.v (.int .i64 r.1.Crew.Pilots),.v (.int .i64 r.1.Crew.Rest),.v (.sl (N rI r.1.Crew.Moves))],.sc (.o 5 (N Y r.2))]:=by
 unfold A21 at h
 refine D3 B4 F52 rfl ?_
 simp only[cc94,A,B,C,E,F,J]
 try simp only[A,B,C,E,F,J]
 refine E0 rfl rfl ?_
 obtain⟨r1,h1,h⟩:=ob h
 try simp only[A,B,C,E,F,J]
 refine B6z (B3f _ _ h1) rfl rfl ?_
 obtain⟨r2,h2,h⟩:=ob h
 try simp only[A,B,C,E,F,J]
 refine C42 (B98 _ _ h2) 5 rfl rfl rfl rfl ?_
 try simp only[A,B,C,E,F,J]
 cases h
 try simp only[W9,A,B,C,E,F,J]
 trivial
/- 114:impl_within -/
def cc96:ACode:=(.seq (.reg [(L,.mv 6 (KB G))]) (.seq (.reg [mv 7 1,mv 8 0,bn 9 .leq 7 8,mv 10 9,(H (10,T),.mv 11 (S 0)),(H (10,T),.mv 12 (S 2)),(H (10,T),.bin 13 .leq (S 11) (S 12)),pa 14 10 13,mv 6 14]) .ret))
theorem F43:B0 O 114=H (cc96.strip,[6],15):=by kernel_rfl
theorem G0(a0 a1 a2:Int)(r:Bool)(h:E4 a0 a1 a2=H r):FC O 114 [.sc (.int .i64 a0),.sc (.int .i64 a1),.sc (.int .i64 a2)] [.sc (.v (.bool r))]:=by
 unfold E4 at h
 refine D3 B4 F43 rfl ?_
 simp only[cc96,A,B,C,E,F,J]
 rcases ic h with ⟨h1,h⟩|⟨h1,h⟩
 ·try simp only[h1,A,B,C,E,F,J]
  cases h
  trivial
 ·try simp only[h1,A,B,C,E,F,J]
  cases h
  trivial
/- 338:impl_isPeriod -/
def cc98:ACode:=(.seq (.reg [(L,.mv 2 (KB G))]) (.seq (.reg [mv 3 0,ca 4 114 [S 3,K 4,K 2880],mv 5 4,(H (5,T),.mv 6 (S 0)),(H (5,T),.bin 7 .rem (S 6) (K 4)),(H (5,T),.bin 8 .eql (S 7) (K 0)),pa 9 5 8,mv 2 9]) .ret))
theorem F4z:B0 O 338=H (cc98.strip,[2],10):=by kernel_rfl
theorem B1i(a0:Int)(r:Bool)(h:A1q a0=H r):FC O 338 [.sc (.int .i64 a0)] [.sc (.v (.bool r))]:=by
 unfold A1q at h
 refine D3 B4 F4z rfl ?_
 simp only[cc98,A,B,C,E,F,J]
 obtain⟨r1,h1,h⟩:=ob h
 try simp only[A,B,C,E,F,J]
 refine A4 (G0 _ _ _ _ h1) rfl rfl (uf rfl) ?_
 rcases ic h with ⟨h2,h⟩|⟨h2,h⟩
 ·try simp only[h2,A,B,C,E,F,J]
  cases h
  trivial
 ·try simp only[h2,A,B,C,E,F,J]
  cases h
  trivial
/- 283:impl_PartOk -/
def cc100:ACode:=(.seq (.reg [bo 1 0,(L,.mv 2 (KB G))]) (.seq (.reg [fa 3 1 0,ld 4 3,ca 5 114 [S 4,K 0,K 1000],mv 6 5,(H (6,T),.faddr 7 (S 1) 1),(H (6,T),.load 8 (S 7) G 1),(H (6,T),.call 9 338 [(S 8)]),pa 10 6 9,mv 11 10,(H (11,T),.faddr 12 (S 1) 2),(H (11,T),.load 13 (S 12) G 1),(H (11,T),.faddr 14 (S 1) 1),(H (11,T),.load 15 (S 14) G 1),(H (11,T),.bin 16 .sub (S 15) (K 1)),(H (11,T),.call 17 114 [(S 13),(K 0),(S 16)]),pa 18 11 17,mv 2 18]) .ret))
theorem F29:B0 O 283=H (cc100.strip,[2],19):=by kernel_rfl
theorem C2h(a0:XPart)(r:Bool)(h:A49 a0=H r):FC O 283 [.ag (U a0)] [.sc (.v (.bool r))]:=by
 unfold A49 at h
 refine D3 B4 F29 rfl ?_
 simp only[cc100,A,B,C,E,F,J]
 try simp only[A,B,C,E,F,J]
 refine B7 rfl rfl rfl ?_
 obtain⟨r1,h1,h⟩:=ob h
 try simp only[A,B,C,E,F,J]
 refine A4 (G0 _ _ _ _ h1) rfl rfl (uf rfl) ?_
 rcases ic h with ⟨h2,h⟩|⟨h2,h⟩
 ·obtain⟨r3,h3,h⟩:=ob h
  try simp only[h2,A,B,C,E,F,J]
  refine A4 (B1i _ _ h3) rfl rfl (uf rfl) ?_
  rcases ic h with ⟨h4,h⟩|⟨h4,h⟩
  ·obtain⟨r5,h5,h⟩:=ob h
   try simp only[h2,h4,A,B,C,E,F,J]
   refine A4 (G0 _ _ _ _ h5) rfl rfl (uf rfl) ?_
   try simp only[h2,h4,A,B,C,E,F,J]
   cases h
   trivial
  ·try simp only[h2,h4,A,B,C,E,F,J]
   cases h
   trivial
 ·try simp only[h2,A,B,C,E,F,J]
  cases h
  trivial
/- 207:impl_TideOk -/
def C4e:ACode:= .seq (.reg [(L,.keep [16,17,18] [] [])]) (.seq (.reg [bn 19 .lss 18 17]) (.seq (.cond (S 19) .skip (.exit 0)) (.seq (.block 1 (.seq (.reg [ia 20 16 18 3,lw 21 20 3,(L,.alloc 4 [aI 0,aI 0,aI 0]),so 4 21 3]) (.seq (.reg [lw 22 4 3,ca 23 283 [S 22],nt 24 23]) (.cond (S 24) (.seq (.reg [(L,.mv 2 (KB G))]) .ret) .skip)))) (.reg [(L,.bin 25 .add (S 18) (K 1)),mv 18 25]))))
def C9h:ACode:=(.seq (.reg [(L,.mv 2 (KB T))]) .ret)
def cc104:ACode:=(.seq (.reg [bo 1 0,(L,.mv 2 (KB G))]) (.seq (.seq (.reg [fa 5 1 0,ld 6 5,ca 7 114 [S 6,K (-1000),K 1000],nt 8 7,mv 9 8,(H (9,G),.faddr 10 (S 1) 1),(H (9,G),.load 11 (S 10) G 1),(H (9,G),.len 12 (S 11)),(H (9,G),.bin 13 .gtr (S 12) (K 4)),po 14 9 13]) (.cond (S 14) (.seq (.reg [(L,.mv 2 (KB G))]) .ret) .skip)) (.seq (.seq (.reg [fa 15 1 1,ld 16 15,ln 17 16,(L,.mv 18 (K 0))]) (.block 0 (.loop C4e))) C9h)))
theorem F07(a0:XTide):∀(n:Nat) (v4:Int) (r:Bool),A0d a0 n v4=H r→∀σ:St,σ.kept [16,17,18] [] []=⟨[(16,vc (aL (N U a0.Parts))),(17,vc (aI (a0.Parts.length:Int))),(18,vc (aI v4))],[],[]⟩→go O (.code (.loop C4e):: [.blk 0,.code C9h]) (Ret [2] [.sc (.v (.bool r))]) .normal (H σ):=by
 intro n
 induction n with
 | zero=>intro _ r h; cases h
 | succ n ih=>
  intro v4 r h σ hσ
  rw[A0d] at h
  refine B8 ?_
  rcases ic h with ⟨h5,h⟩|⟨h5,h⟩
  ·obtain⟨x6,h6,h⟩:=ob h
   try simp only[hσ,h5,h6,C4e,A,B,C,E,F,J]
   refine E0 rfl rfl ?_
   obtain⟨r7,h7,h⟩:=ob h
   try simp only[h5,h6,A,B,C,E,F,J]
   refine A4 (C2h _ _ h7) rfl rfl (uf rfl) ?_
   rcases ic h with ⟨h8,h⟩|⟨h8,h⟩
   ·try simp only[h5,h6,h8,A,B,C,E,F,J]
    refine ih _ _ h _ ?_
    try simp only[h5,h6,h8,A,B,C,E,F,J,P]
   ·try simp only[h5,h6,h8,A,B,C,E,F,J]
    cases h
    trivial
  ·try simp only[hσ,h5,C4e,C9h,A,B,C,E,F,J]
   cases h
   trivial
theorem E8c:B0 O 207=H (cc104.strip,[2],26):=by kernel_rfl
theorem C2m(a0:XTide)(r:Bool)(h:A4y a0=H r):FC O 207 [.ag (XTide.row a0)] [.sc (.v (.bool r))]:=by
 unfold A4y at h
 refine D3 B4 E8c rfl ?_
 simp only[cc104,A,B,C,E,F,J]
 try simp only[A,B,C,E,F,J]
 refine B7 rfl rfl rfl ?_
 obtain⟨r1,h1,h⟩:=ob h
 try simp only[A,B,C,E,F,J]
 refine A4 (G0 _ _ _ _ h1) rfl rfl (uf rfl) ?_
 rcases ic h with ⟨h2,h⟩|⟨h2,h⟩
 ·rcases ic h with ⟨h3,h⟩|⟨h3,h⟩
  ·try simp only[h2,h3,A,B,C,E,F,J]
   cases h
   trivial
  ·try simp only[h2,h3,A,B,C,E,F,J]
   refine F07 _ _ _ _ h _ ?_
   try simp only[h2,h3,A,B,C,E,F,J,P]
 ·try simp only[h2,A,B,C,E,F,J]
  cases h
  trivial
/- 117:impl_isMinute -/
def cc107:ACode:=(.seq (.reg [(L,.mv 2 (KB G))]) (.seq (.reg [mv 3 0,ca 4 114 [S 3,K 0,K 2880],mv 2 4]) .ret))
theorem F37:B0 O 117=H (cc107.strip,[2],5):=by kernel_rfl
theorem M9(a0:Int)(r:Bool)(h:G9 a0=H r):FC O 117 [.sc (.int .i64 a0)] [.sc (.v (.bool r))]:=by
 unfold G9 at h
 refine D3 B4 F37 rfl ?_
 simp only[cc107,A,B,C,E,F,J]
 obtain⟨r1,h1,h⟩:=ob h
 try simp only[A,B,C,E,F,J]
 refine A4 (G0 _ _ _ _ h1) rfl rfl (uf rfl) ?_
 try simp only[A,B,C,E,F,J]
 cases h
 trivial
/- 208:impl_SurgeOk -/
def cc109:ACode:=(.seq (.reg [bo 1 0,(L,.mv 2 (KB G))]) (.seq (.reg [fa 3 1 0,ld 4 3,ca 5 117 [S 4],mv 6 5,(H (6,T),.faddr 7 (S 1) 1),(H (6,T),.load 8 (S 7) G 1),(H (6,T),.bin 9 .leq (K (-500)) (S 8)),pa 10 6 9,mv 11 10,(H (11,T),.faddr 12 (S 1) 1),(H (11,T),.load 13 (S 12) G 1),(H (11,T),.faddr 14 (S 1) 2),(H (11,T),.load 15 (S 14) G 1),(H (11,T),.bin 16 .leq (S 13) (S 15)),pa 17 11 16,mv 18 17,(H (18,T),.faddr 19 (S 1) 2),(H (18,T),.load 20 (S 19) G 1),(H (18,T),.bin 21 .leq (S 20) (K 500)),pa 22 18 21,mv 2 22]) .ret))
theorem F0w:B0 O 208=H (cc109.strip,[2],23):=by kernel_rfl
theorem C0q(a0:XSurge)(r:Bool)(h:A39 a0=H r):FC O 208 [.ag (W a0)] [.sc (.v (.bool r))]:=by
 unfold A39 at h
 refine D3 B4 F0w rfl ?_
 simp only[cc109,A,B,C,E,F,J]
 try simp only[A,B,C,E,F,J]
 refine B7 rfl rfl rfl ?_
 obtain⟨r1,h1,h⟩:=ob h
 try simp only[A,B,C,E,F,J]
 refine A4 (M9 _ _ h1) rfl rfl (uf rfl) ?_
 rcases ic h with ⟨h2,h⟩|⟨h2,h⟩
 ·rcases ic h with ⟨h3,h⟩|⟨h3,h⟩
  ·rcases ic h with ⟨h4,h⟩|⟨h4,h⟩
   ·try simp only[h2,h3,h4,A,B,C,E,F,J]
    cases h
    trivial
   ·try simp only[h2,h3,h4,A,B,C,E,F,J]
    cases h
    trivial
  ·try simp only[h2,h3,A,B,C,E,F,J]
   cases h
   trivial
 ·try simp only[h2,A,B,C,E,F,J]
  cases h
  trivial
/- 116:impl_ForecastOk -/
def C20:ACode:= .seq (.reg [(L,.keep [1,25,26,27] [1] [])]) (.seq (.reg [bn 28 .lss 27 26]) (.seq (.cond (S 28) .skip (.exit 0)) (.seq (.block 1 (.seq (.reg [mv 29 27,ia 30 25 27 3,lw 31 30 3,(L,.alloc 4 [aI 0,aI 0,aI 0]),mv 3 29,so 4 31 3]) (.seq (.drw [o0 (lw 32 4 3),o0 (ca 33 208 [S 32]),o0 (nt 34 33),o0 (mv 35 34),o0 (H (35,G),.mv 36 (S 3)),o0 (H (35,G),.bin 37 .gtr (S 36) (K 0)),o0 (H (35,G),.mv 38 (S 37)),o0 (H (38,T),.faddr 39 (S 1) 2),o0 (H (38,T),.load 40 (S 39) G 1),o0 (H (38,T),.mv 41 (S 3)),o0 (H (38,T),.bin 42 .sub (S 41) (K 1)),o0 (H (38,T),.iaddr 43 (S 40) (S 42) 3),o0 (H (38,T),.faddr 44 (S 43) 0),o0 (H (38,T),.load 45 (S 44) G 1),o0 (H (38,T),.faddr 46 (S 4) 0),o0 (H (38,T),.load 47 (S 46) G 1),o0 (H (38,T),.bin 48 .geq (S 45) (S 47)),o0 (H (35,G),.pick 49 (S 38) (S 48) (KB G)),o0 (po 50 35 49)]) (.cond (S 50) (.seq (.reg [(L,.mv 2 (KB G))]) .ret) .skip)))) (.reg [(L,.bin 51 .add (S 27) (K 1)),mv 27 51]))))
def C9z:ACode:=(.seq (.reg [(L,.mv 2 (KB T))]) .ret)
def cc113:ACode:=(.seq (.reg [bo 1 0,(L,.mv 2 (KB G))]) (.seq (.seq (.reg [fa 5 1 0,lw 6 5 2,ca 7 207 [S 6],nt 8 7,mv 9 8,(H (9,G),.faddr 10 (S 1) 2),(H (9,G),.load 11 (S 10) G 1),(H (9,G),.len 12 (S 11)),(H (9,G),.call 13 114 [(S 12),(K 1),(K 6)]),(H (9,G),.un 14 .not (S 13)),po 15 9 14,mv 16 15,(H (16,G),.faddr 17 (S 1) 2),(H (16,G),.load 18 (S 17) G 1),(H (16,G),.iaddr 19 (S 18) (K 0) 3),(H (16,G),.faddr 20 (S 19) 0),(H (16,G),.load 21 (S 20) G 1),(H (16,G),.bin 22 .neq (S 21) (K 0)),po 23 16 22]) (.cond (S 23) (.seq (.reg [(L,.mv 2 (KB G))]) .ret) .skip)) (.seq (.seq (.reg [fa 24 1 2,ld 25 24,ln 26 25,(L,.mv 27 (K 0))]) (.block 0 (.loop C20))) C9z)))
theorem F2m(a0:XForecast):∀(n:Nat) (v7:Int) (r:Bool),N3 a0 n v7=H r→∀σ:St,σ.kept [1,25,26,27] [1] []=⟨[(1,vc (.pb 1 0)),(25,vc (aL (N W a0.Surges))),(26,vc (aI (a0.Surges.length:Int))),(27,vc (aI v7))],[(1,(dm a0.row))],[]⟩→go O (.code (.loop C20):: [.blk 0,.code C9z]) (Ret [2] [.sc (.v (.bool r))]) .normal (H σ):=by
 intro n
 induction n with
 | zero=>intro _ r h; cases h
 | succ n ih=>
  intro v7 r h σ hσ
  rw[N3] at h
  refine B8 ?_
  rcases ic h with ⟨h8,h⟩|⟨h8,h⟩
  ·obtain⟨x9,h9,h⟩:=ob h
   try simp only[hσ,h8,h9,C20,A,B,C,E,F,J]
   refine E0 rfl rfl ?_
   try simp only[h8,h9,A,B,C,E,F,J]
   refine C6 rfl ?_
   obtain⟨r10,h10,h⟩:=ob h
   try simp only[h8,h9,A,B,C,E,F,J]
   refine E6 (C0q _ _ h10) rfl rfl (uf rfl) ?_
   rcases ic h with ⟨h11,h⟩|⟨h11,h⟩
   ·rcases ic h with ⟨h12,h⟩|⟨h12,h⟩
    ·obtain⟨x13,h13,h⟩:=ob h
     rcases ic h with ⟨h14,h⟩|⟨h14,h⟩
     ·try simp only[h8,h9,h11,h12,h13,h14,A,B,C,E,F,J]
      cases h
      trivial
     ·try simp only[h8,h9,h11,h12,h13,h14,A,B,C,E,F,J]
      refine ih _ _ h _ ?_
      try simp only[h8,h9,h11,h12,h13,h14,A,B,C,E,F,J,P]
    ·try simp only[h8,h9,h11,h12,A,B,C,E,F,J]
     refine ih _ _ h _ ?_
     try simp only[h8,h9,h11,h12,A,B,C,E,F,J,P]
   ·try simp only[h8,h9,h11,A,B,C,E,F,J]
    cases h
    trivial
  ·try simp only[hσ,h8,C20,C9z,A,B,C,E,F,J]
   cases h
   trivial
theorem E8w:B0 O 116=H (cc113.strip,[2],52):=by kernel_rfl
theorem A0n(a0:XForecast)(r:Bool)(h:M3 a0=H r):FC O 116 [.ag (XForecast.row a0)] [.sc (.v (.bool r))]:=by
 unfold M3 at h
 refine D3 B4 E8w rfl ?_
 simp only[cc113,A,B,C,E,F,J]
 try simp only[A,B,C,E,F,J]
 refine B7 rfl rfl rfl ?_
 obtain⟨r1,h1,h⟩:=ob h
 try simp only[A,B,C,E,F,J]
 refine A4 (C2m _ _ h1) rfl rfl (uf rfl) ?_
 rcases ic h with ⟨h2,h⟩|⟨h2,h⟩
 ·obtain⟨r3,h3,h⟩:=ob h
  try simp only[h2,A,B,C,E,F,J]
  refine A4 (G0 _ _ _ _ h3) rfl rfl (uf rfl) ?_
  rcases ic h with ⟨h4,h⟩|⟨h4,h⟩
  ·obtain⟨x5,h5,h⟩:=ob h
   rcases ic h with ⟨h6,h⟩|⟨h6,h⟩
   ·try simp only[h2,h4,h5,h6,A,B,C,E,F,J]
    cases h
    trivial
   ·try simp only[h2,h4,h5,h6,A,B,C,E,F,J]
    refine F2m _ _ _ _ h _ ?_
    try simp only[h2,h4,h5,h6,A,B,C,E,F,J,P]
  ·try simp only[h2,h4,A,B,C,E,F,J]
   cases h
   trivial
 ·try simp only[h2,A,B,C,E,F,J]
  cases h
  trivial
/- 186:impl_IsName -/
def B21:ACode:= .seq (.reg [(L,.keep [0,3,4] [] [])]) (.seq (.reg [mv 25 4,nt 26 25,mv 27 26,(H (27,T),.mv 28 (S 3)),(H (27,T),.bin 29 .eql (S 28) (K 0)),(H (27,T),.mv 30 (S 29)),(H (30,G),.mv 31 (S 0)),(H (30,G),.mv 32 (S 3)),(H (30,G),.idx 33 (S 31) (S 32)),(H (30,G),.bin 34 .lss (S 33) (K8 48)),(H (27,T),.pick 35 (S 30) (KB T) (S 34)),(H (27,T),.mv 36 (S 35)),(H (36,G),.mv 37 (S 0)),(H (36,G),.mv 38 (S 3)),(H (36,G),.idx 39 (S 37) (S 38)),(H (36,G),.bin 40 .gtr (S 39) (K8 57)),(H (27,T),.pick 41 (S 36) (KB T) (S 40)),pa 42 27 41]) (.cond (S 42) (.seq (.reg [(L,.mv 2 (KB G))]) .ret) .skip))
def C3v:ACode:= .seq (.reg [(L,.keep [0,3] [] [])]) (.reg [mv 13 3,(L,.bin 14 .add (S 13) (K 1)),mv 3 14])
def A9n:ACode:= .seq (.reg [(L,.keep [0,3] [] [])]) (.seq (.seq (.reg [mv 9 3,mv 10 0,(L,.slen 11 (S 10)),bn 12 .lss 9 11]) (.cond (S 12) .skip (.exit 0))) (.seq (.block 1 (.seq (.reg [mv 15 0,mv 16 3,(L,.idx 17 (S 15) (S 16)),(L,.bin 18 .geq (S 17) (K8 97)),mv 19 18,(H (19,T),.mv 20 (S 0)),(H (19,T),.mv 21 (S 3)),(H (19,T),.idx 22 (S 20) (S 21)),(H (19,T),.bin 23 .leq (S 22) (K8 122)),pa 24 19 23,mv 4 24]) B21)) C3v))
def B3d:ACode:=(.seq (.reg [(L,.mv 2 (KB T))]) .ret)
def cc120:ACode:=(.seq (.reg [(L,.mv 2 (KB G))]) (.seq (.seq (.reg [mv 5 0,(L,.slen 6 (S 5)),ca 7 114 [S 6,K 1,K 8],nt 8 7]) (.cond (S 8) (.seq (.reg [(L,.mv 2 (KB G))]) .ret) .skip)) (.seq (.seq (.reg [(L,.mv 3 (K 0))]) (.block 0 (.loop A9n))) B3d)))
theorem D9h(a0:List UInt8)(v3:Int)(L5:Int→Option Bool)(A4q:∀(v3:Int) zr,L5 v3=H zr→∀σ:St,σ.kept [0,3] [] []=⟨[(0,vc (aS a0)),(3,vc (aI v3))],[],[]⟩→go O (.code (.loop A9n):: [.blk 0,.code B3d]) (Ret [2] [.sc (.v (.bool zr))]) .normal (H σ))(r:Bool)(h:A3z a0 v3 L5=H r)(σ:St)(hσ:σ.kept [0,3] [] []=⟨[(0,vc (aS a0)),(3,vc (aI v3))],[],[]⟩):go O (.code C3v:: [.code (.loop A9n),.blk 0,.code B3d]) (Ret [2] [.sc (.v (.bool r))]) .normal (H σ):=by
 unfold A3z at h
 try simp only[hσ,C3v,A,B,C,E,F,J]
 refine A4q _ _ h _ ?_
 try simp only[A,B,C,E,F,J,P]
theorem D8t(a0:List UInt8)(v3:Int)(L5:Int→Option Bool)(A4q:∀(v3:Int) zr,L5 v3=H zr→∀σ:St,σ.kept [0,3] [] []=⟨[(0,vc (aS a0)),(3,vc (aI v3))],[],[]⟩→go O (.code (.loop A9n):: [.blk 0,.code B3d]) (Ret [2] [.sc (.v (.bool zr))]) .normal (H σ))(v7 r:Bool)(h:A3x a0 v3 L5 v7=H r)(σ:St)(hσ:σ.kept [0,3,4] [] []=⟨[(0,vc (aS a0)),(3,vc (aI v3)),(4,vc (aB v7))],[],[]⟩):go O (.code B21:: [.blk 1,.code C3v,.code (.loop A9n),.blk 0,.code B3d]) (Ret [2] [.sc (.v (.bool r))]) .normal (H σ):=by
 unfold A3x at h
 rcases ic h with ⟨h8,h⟩|⟨h8,h⟩
 ·try simp only[hσ,h8,B21,A,B,C,E,F,J]
  refine D9h _ _ L5 A4q _ h _ ?_
  try simp only[h8,A,B,C,E,F,J,P]
 ·rcases ic h with ⟨h9,h⟩|⟨h9,h⟩
  ·try simp only[hσ,h8,h9,B21,A,B,C,E,F,J]
   cases h
   trivial
  ·obtain⟨b10,h10,h⟩:=ob h
   rcases ic h with ⟨h11,h⟩|⟨h11,h⟩
   ·try simp only[hσ,h8,h9,h10,h11,B21,A,B,C,E,F,J]
    cases h
    trivial
   ·rcases ic h with ⟨h12,h⟩|⟨h12,h⟩
    ·try simp only[hσ,h8,h9,h10,h11,h12,B21,A,B,C,E,F,J]
     cases h
     trivial
    ·try simp only[hσ,h8,h9,h10,h11,h12,B21,A,B,C,E,F,J]
     refine D9h _ _ L5 A4q _ h _ ?_
     try simp only[h8,h9,h10,h11,h12,A,B,C,E,F,J,P]
theorem F0l(a0:List UInt8):∀(n:Nat) (v3:Int) (r:Bool),O2 a0 n v3=H r→∀σ:St,σ.kept [0,3] [] []=⟨[(0,vc (aS a0)),(3,vc (aI v3))],[],[]⟩→go O (.code (.loop A9n):: [.blk 0,.code B3d]) (Ret [2] [.sc (.v (.bool r))]) .normal (H σ):=by
 intro n
 induction n with
 | zero=>intro _ r h; cases h
 | succ n ih=>
  intro v3 r h σ hσ
  rw[O2] at h
  refine B8 ?_
  rcases ic h with ⟨h4,h⟩|⟨h4,h⟩
  ·obtain⟨b5,h5,h⟩:=ob h
   rcases ic h with ⟨h6,h⟩|⟨h6,h⟩
   ·try simp only[hσ,h4,h5,h6,A9n,A,B,C,E,F,J]
    refine D8t _ _ (O2 a0 n) ih _ _ h _ ?_
    try simp only[h4,h5,h6,A,B,C,E,F,J,P]
   ·try simp only[hσ,h4,h5,h6,A9n,A,B,C,E,F,J]
    refine D8t _ _ (O2 a0 n) ih _ _ h _ ?_
    try simp only[h4,h5,h6,A,B,C,E,F,J,P]
  ·try simp only[hσ,h4,A9n,B3d,A,B,C,E,F,J]
   cases h
   trivial
theorem F1w:B0 O 186=H (cc120.strip,[2],43):=by kernel_rfl
theorem B3g(a0:List UInt8)(r:Bool)(h:A3h a0=H r):FC O 186 [.sc (.str a0)] [.sc (.v (.bool r))]:=by
 unfold A3h at h
 refine D3 B4 F1w rfl ?_
 simp only[cc120,A,B,C,E,F,J]
 obtain⟨r1,h1,h⟩:=ob h
 try simp only[A,B,C,E,F,J]
 refine A4 (G0 _ _ _ _ h1) rfl rfl (uf rfl) ?_
 rcases ic h with ⟨h2,h⟩|⟨h2,h⟩
 ·try simp only[h2,A,B,C,E,F,J]
  refine F0l _ _ _ _ h _ ?_
  try simp only[h2,A,B,C,E,F,J,P]
 ·try simp only[h2,A,B,C,E,F,J]
  cases h
  trivial
/- 187:impl_PointNamed -/
def C30:ACode:= .seq (.reg [(L,.keep [1,8,9,10] [] [])]) (.seq (.reg [bn 11 .lss 10 9]) (.seq (.cond (S 11) .skip (.exit 0)) (.seq (.block 1 (.seq (.reg [mv 12 10,ia 13 8 10 2,lw 14 13 2,(L,.alloc 6 [aS [],aB G]),mv 5 12,so 6 14 2]) (.seq (.reg [fa 15 6 0,ld 16 15,mv 17 1,bn 18 .eql 16 17]) (.cond (S 18) (.seq (.reg [mv 19 5,mv 4 19]) .ret) .skip)))) (.reg [(L,.bin 20 .add (S 10) (K 1)),mv 10 20]))))
def D16:ACode:=(.seq (.reg [(L,.mv 4 (K (-1)))]) .ret)
def cc127:ACode:=(.seq (.reg [bo 2 0,(L,.mv 4 (K 0))]) (.seq (.seq (.reg [fa 7 2 0,ld 8 7,ln 9 8,(L,.mv 10 (K 0))]) (.block 0 (.loop C30))) D16))
theorem E9x(a1:List UInt8)(a0:XChart):∀(n:Nat) (v1 r:Int),Q7 a1 a0 n v1=H r→∀σ:St,σ.kept [1,8,9,10] [] []=⟨[(1,vc (aS a1)),(8,vc (aL (N V a0.Points))),(9,vc (aI (a0.Points.length:Int))),(10,vc (aI v1))],[],[]⟩→go O (.code (.loop C30):: [.blk 0,.code D16]) (Ret [4] [.sc (.v (.int .i64 r))]) .normal (H σ):=by
 intro n
 induction n with
 | zero=>intro _ r h; cases h
 | succ n ih=>
  intro v1 r h σ hσ
  rw[Q7] at h
  refine B8 ?_
  rcases ic h with ⟨h2,h⟩|⟨h2,h⟩
  ·obtain⟨x3,h3,h⟩:=ob h
   try simp only[hσ,h2,h3,C30,A,B,C,E,F,J]
   refine E0 rfl rfl ?_
   rcases ic h with ⟨h4,h⟩|⟨h4,h⟩
   ·try simp only[h2,h3,h4,A,B,C,E,F,J]
    cases h
    trivial
   ·try simp only[h2,h3,h4,A,B,C,E,F,J]
    refine ih _ _ h _ ?_
    try simp only[h2,h3,h4,A,B,C,E,F,J,P]
  ·try simp only[hσ,h2,C30,D16,A,B,C,E,F,J]
   cases h
   trivial
theorem F1m:B0 O 187=H (cc127.strip,[4],21):=by kernel_rfl
theorem B59(a0:XChart)(a1:List UInt8)(r:Int)(h:A15 a0 a1=H r):FC O 187 [.ag (XChart.row a0),.sc (.str a1)] [.sc (.v (.int .i64 r))]:=by
 unfold A15 at h
 refine D3 B4 F1m rfl ?_
 simp only[cc127,A,B,C,E,F,J]
 try simp only[A,B,C,E,F,J]
 refine B7 rfl rfl rfl ?_
 try simp only[A,B,C,E,F,J]
 refine E9x _ _ _ _ _ h _ ?_
 try simp only[A,B,C,E,F,J,P]
/- 94:impl_isIndex -/
def cc130:ACode:=(.seq (.reg [(L,.mv 4 (KB G))]) (.seq (.reg [mv 5 0,(L,.bin 6 .geq (S 5) (K 0)),mv 7 6,(H (7,T),.mv 8 (S 0)),(H (7,T),.mv 9 (S 1)),(H (7,T),.bin 10 .lss (S 8) (S 9)),pa 11 7 10,mv 4 11]) .ret))
theorem F20:B0 O 94=H (cc130.strip,[4],12):=by kernel_rfl
theorem E5(a0 a1:Int)(r:Bool)(h:D7 a0 a1=H r):FC O 94 [.sc (.int .i64 a0),.sc (.int .i64 a1)] [.sc (.v (.bool r))]:=by
 unfold D7 at h
 refine D3 B4 F20 rfl ?_
 simp only[cc130,A,B,C,E,F,J]
 rcases ic h with ⟨h1,h⟩|⟨h1,h⟩
 ·try simp only[h1,A,B,C,E,F,J]
  cases h
  trivial
 ·try simp only[h1,A,B,C,E,F,J]
  cases h
  trivial
/- 188:impl_Segment_joins -/
def cc132:ACode:=(.seq (.reg [bo 3 0,(L,.mv 6 (KB G))]) (.seq (.reg [fa 7 3 0,ld 8 7,mv 9 1,bn 10 .eql 8 9,mv 11 10,(H (11,T),.faddr 12 (S 3) 1),(H (11,T),.load 13 (S 12) G 1),(H (11,T),.mv 14 (S 2)),(H (11,T),.bin 15 .eql (S 13) (S 14)),pa 16 11 15,mv 17 16,(H (17,G),.faddr 18 (S 3) 0),(H (17,G),.load 19 (S 18) G 1),(H (17,G),.mv 20 (S 2)),(H (17,G),.bin 21 .eql (S 19) (S 20)),(H (17,G),.mv 22 (S 21)),(H (22,T),.faddr 23 (S 3) 1),(H (22,T),.load 24 (S 23) G 1),(H (22,T),.mv 25 (S 1)),(H (22,T),.bin 26 .eql (S 24) (S 25)),(H (17,G),.pick 27 (S 22) (S 26) (KB G)),po 28 17 27,mv 6 28]) .ret))
theorem F24:B0 O 188=H (cc132.strip,[6],29):=by kernel_rfl
theorem B26(a0:XSegment)(a1 a2:Int)(r:Bool)(h:A0j a0 a1 a2=H r):FC O 188 [.ag (Q a0),.sc (.int .i64 a1),.sc (.int .i64 a2)] [.sc (.v (.bool r))]:=by
 unfold A0j at h
 refine D3 B4 F24 rfl ?_
 simp only[cc132,A,B,C,E,F,J]
 try simp only[A,B,C,E,F,J]
 refine B7 rfl rfl rfl ?_
 rcases ic h with ⟨h1,h⟩|⟨h1,h⟩
 ·rcases ic h with ⟨h2,h⟩|⟨h2,h⟩
  ·try simp only[h1,h2,A,B,C,E,F,J]
   cases h
   trivial
  ·rcases ic h with ⟨h3,h⟩|⟨h3,h⟩
   ·try simp only[h1,h2,h3,A,B,C,E,F,J]
    cases h
    trivial
   ·try simp only[h1,h2,h3,A,B,C,E,F,J]
    cases h
    trivial
 ·rcases ic h with ⟨h4,h⟩|⟨h4,h⟩
  ·try simp only[h1,h4,A,B,C,E,F,J]
   cases h
   trivial
  ·try simp only[h1,h4,A,B,C,E,F,J]
   cases h
   trivial
/- 93:impl_ChartOk -/
def C3c:ACode:= .seq (.reg [(L,.keep [1,20,21,22] [1] [])]) (.seq (.reg [bn 23 .lss 22 21]) (.seq (.cond (S 23) .skip (.exit 0)) (.seq (.block 1 (.seq (.reg [mv 24 22,ia 25 20 22 2,lw 26 25 2,(L,.alloc 4 [aS [],aB G]),mv 3 24,so 4 26 2]) (.seq (.reg [fa 27 4 0,ld 28 27,ca 29 186 [S 28],nt 30 29,mv 31 30,(H (31,G),.load 32 (S 1) T 2),(H (31,G),.faddr 33 (S 4) 0),(H (31,G),.load 34 (S 33) G 1),(H (31,G),.call 35 187 [(S 32),(S 34)]),(H (31,G),.mv 36 (S 3)),(H (31,G),.bin 37 .neq (S 35) (S 36)),po 38 31 37]) (.cond (S 38) (.seq (.reg [(L,.mv 2 (KB G))]) .ret) .skip)))) (.reg [(L,.bin 39 .add (S 22) (K 1)),mv 22 39]))))
def C3z:ACode:= .seq (.reg [(L,.keep [1,6,41,42,43,86,87,88] [1,6] [])]) (.seq (.reg [bn 89 .lss 88 87]) (.seq (.cond (S 89) .skip (.exit 4)) (.seq (.block 5 (.seq (.reg [ia 90 86 88 5,lw 91 90 5,(L,.alloc 8 [aI 0,aI 0,aI 0,aI 0,aB G]),so 8 91 5]) (.seq (.reg [lw 92 8 5,fa 93 6 0,ld 94 93,fa 95 6 1,ld 96 95,ca 97 188 [S 92,S 94,S 96]]) (.cond (S 97) (.seq (.reg [(L,.mv 2 (KB G))]) .ret) .skip)))) (.reg [(L,.bin 98 .add (S 88) (K 1)),mv 88 98]))))
def D1u:ACode:=(.reg [(L,.bin 99 .add (S 43) (K 1)),mv 43 99])
def B5h:ACode:= .seq (.reg [(L,.keep [1,41,42,43] [1] [])]) (.seq (.reg [bn 44 .lss 43 42]) (.seq (.cond (S 44) .skip (.exit 2)) (.seq (.block 3 (.seq (.reg [mv 45 43,ia 46 41 43 5,lw 47 46 5,(L,.alloc 6 [aI 0,aI 0,aI 0,aI 0,aB G]),mv 5 45,so 6 47 5]) (.seq (.seq (.reg [fa 48 6 0,ld 49 48,fa 50 1 0,ld 51 50,ln 52 51,ca 53 94 [S 49,S 52],nt 54 53,mv 55 54,(H (55,G),.faddr 56 (S 6) 1),(H (55,G),.load 57 (S 56) G 1),(H (55,G),.faddr 58 (S 1) 0),(H (55,G),.load 59 (S 58) G 1),(H (55,G),.len 60 (S 59)),(H (55,G),.call 61 94 [(S 57),(S 60)]),(H (55,G),.un 62 .not (S 61)),po 63 55 62,mv 64 63,(H (64,G),.faddr 65 (S 6) 0),(H (64,G),.load 66 (S 65) G 1),(H (64,G),.faddr 67 (S 6) 1),(H (64,G),.load 68 (S 67) G 1),(H (64,G),.bin 69 .eql (S 66) (S 68)),po 70 64 69,mv 71 70,(H (71,G),.faddr 72 (S 6) 2),(H (71,G),.load 73 (S 72) G 1),(H (71,G),.call 74 114 [(S 73),(K 0),(K 3000)]),(H (71,G),.un 75 .not (S 74)),po 76 71 75,mv 77 76,(H (77,G),.faddr 78 (S 6) 3),(H (77,G),.load 79 (S 78) G 1),(H (77,G),.call 80 114 [(S 79),(K 1),(K 240)]),(H (77,G),.un 81 .not (S 80)),po 82 77 81]) (.cond (S 82) (.seq (.reg [(L,.mv 2 (KB G))]) .ret) .skip)) (.seq (.reg [fa 83 1 1,ld 84 83,mv 85 5,(L,.slc 86 5 (S 84) L (H (S 85)) L),ln 87 86,(L,.mv 88 (K 0))]) (.block 4 (.loop C3z)))))) D1u)))
def B8a:ACode:=(.seq (.reg [(L,.mv 2 (KB T))]) .ret)
def C8q:ACode:=(.seq (.seq (.reg [fa 40 1 1,ld 41 40,ln 42 41,(L,.mv 43 (K 0))]) (.block 2 (.loop B5h))) B8a)
def cc140:ACode:=(.seq (.reg [bo 1 0,(L,.mv 2 (KB G))]) (.seq (.seq (.reg [fa 9 1 0,ld 10 9,ln 11 10,(L,.bin 12 .gtr (S 11) (K 8)),mv 13 12,(H (13,G),.faddr 14 (S 1) 1),(H (13,G),.load 15 (S 14) G 1),(H (13,G),.len 16 (S 15)),(H (13,G),.bin 17 .gtr (S 16) (K 10)),po 18 13 17]) (.cond (S 18) (.seq (.reg [(L,.mv 2 (KB G))]) .ret) .skip)) (.seq (.seq (.reg [fa 19 1 0,ld 20 19,ln 21 20,(L,.mv 22 (K 0))]) (.block 0 (.loop C3c))) C8q)))
theorem F2t(a0:XChart)(v11:Int)(x13:XSegment)(y24:List XSegment)(y25:Int)(A2p:Int→Option Bool)(B58:∀(v11:Int) zr,A2p v11=H zr→∀σ:St,σ.kept [1,41,42,43] [1] []=⟨[(1,vc (.pb 1 0)),(41,vc (aL (N Q a0.Segments))),(42,vc (aI (a0.Segments.length:Int))),(43,vc (aI v11))],[(1,(dm a0.row))],[]⟩→go O (.code (.loop B5h):: [.blk 2,.code B8a]) (Ret [2] [.sc (.v (.bool zr))]) .normal (H σ)):∀(n:Nat) (v26:Int) (r:Bool),X9 a0 v11 x13 y24 y25 A2p n v26=H r→∀σ:St,σ.kept [1,6,41,42,43,86,87,88] [1,6] []=⟨[(1,vc (.pb 1 0)),(6,vc (.pb 6 0)),(41,vc (aL (N Q a0.Segments))),(42,vc (aI (a0.Segments.length:Int))),(43,vc (aI v11)),(86,vc (aL (N Q y24))),(87,vc (aI y25)),(88,vc (aI v26))],[(1,(dm a0.row)),(6,(dm x13.row))],[]⟩→go O (.code (.loop C3z):: [.blk 4,.blk 3,.code D1u,.code (.loop B5h),.blk 2,.code B8a]) (Ret [2] [.sc (.v (.bool r))]) .normal (H σ):=by
 intro n
 induction n with
 | zero=>intro _ r h; cases h
 | succ n ih=>
  intro v26 r h σ hσ
  rw[X9] at h
  refine B8 ?_
  rcases ic h with ⟨h27,h⟩|⟨h27,h⟩
  ·obtain⟨x28,h28,h⟩:=ob h
   try simp only[hσ,h27,h28,C3z,A,B,C,E,F,J]
   refine E0 rfl rfl ?_
   obtain⟨r29,h29,h⟩:=ob h
   try simp only[h27,h28,A,B,C,E,F,J]
   refine A4 (B26 _ _ _ _ h29) rfl rfl (uf rfl) ?_
   rcases ic h with ⟨h30,h⟩|⟨h30,h⟩
   ·try simp only[h27,h28,h30,A,B,C,E,F,J]
    cases h
    trivial
   ·try simp only[h27,h28,h30,A,B,C,E,F,J]
    refine ih _ _ h _ ?_
    try simp only[h27,h28,h30,A,B,C,E,F,J,P]
  ·try simp only[hσ,h27,C3z,D1u,A,B,C,E,F,J]
   refine B58 _ _ h _ ?_
   try simp only[h27,A,B,C,E,F,J,P]
theorem F3p(a0:XChart):∀(n:Nat) (v11:Int) (r:Bool),L6 a0 n v11=H r→∀σ:St,σ.kept [1,41,42,43] [1] []=⟨[(1,vc (.pb 1 0)),(41,vc (aL (N Q a0.Segments))),(42,vc (aI (a0.Segments.length:Int))),(43,vc (aI v11))],[(1,(dm a0.row))],[]⟩→go O (.code (.loop B5h):: [.blk 2,.code B8a]) (Ret [2] [.sc (.v (.bool r))]) .normal (H σ):=by
 intro n
 induction n with
 | zero=>intro _ r h; cases h
 | succ n ih=>
  intro v11 r h σ hσ
  rw[L6] at h
  refine B8 ?_
  rcases ic h with ⟨h12,h⟩|⟨h12,h⟩
  ·obtain⟨x13,h13,h⟩:=ob h
   try simp only[hσ,h12,h13,B5h,A,B,C,E,F,J]
   refine E0 rfl rfl ?_
   obtain⟨r14,h14,h⟩:=ob h
   try simp only[h12,h13,A,B,C,E,F,J]
   refine A4 (E5 _ _ _ h14) rfl rfl (uf rfl) ?_
   rcases ic h with ⟨h15,h⟩|⟨h15,h⟩
   ·obtain⟨r16,h16,h⟩:=ob h
    try simp only[h12,h13,h15,A,B,C,E,F,J]
    refine A4 (E5 _ _ _ h16) rfl rfl (uf rfl) ?_
    rcases ic h with ⟨h17,h⟩|⟨h17,h⟩
    ·rcases ic h with ⟨h18,h⟩|⟨h18,h⟩
     ·try simp only[h12,h13,h15,h17,h18,A,B,C,E,F,J]
      cases h
      trivial
     ·obtain⟨r19,h19,h⟩:=ob h
      try simp only[h12,h13,h15,h17,h18,A,B,C,E,F,J]
      refine A4 (G0 _ _ _ _ h19) rfl rfl (uf rfl) ?_
      rcases ic h with ⟨h20,h⟩|⟨h20,h⟩
      ·obtain⟨r21,h21,h⟩:=ob h
       try simp only[h12,h13,h15,h17,h18,h20,A,B,C,E,F,J]
       refine A4 (G0 _ _ _ _ h21) rfl rfl (uf rfl) ?_
       rcases ic h with ⟨h22,h⟩|⟨h22,h⟩
       ·obtain⟨p23,h23,h⟩:=ob h
        try simp only[h12,h13,h15,h17,h18,h20,h22,h23,A,B,C,E,F,J]
        refine F2t _ _ _ _ _ (L6 a0 n) ih _ _ _ h _ ?_
        try simp only[h12,h13,h15,h17,h18,h20,h22,h23,A,B,C,E,F,J,P]
       ·try simp only[h12,h13,h15,h17,h18,h20,h22,A,B,C,E,F,J]
        cases h
        trivial
      ·try simp only[h12,h13,h15,h17,h18,h20,A,B,C,E,F,J]
       cases h
       trivial
    ·try simp only[h12,h13,h15,h17,A,B,C,E,F,J]
     cases h
     trivial
   ·try simp only[h12,h13,h15,A,B,C,E,F,J]
    cases h
    trivial
  ·try simp only[hσ,h12,B5h,B8a,A,B,C,E,F,J]
   cases h
   trivial
theorem F04(a0:XChart):∀(n:Nat) (v3:Int) (r:Bool),X4 a0 n v3=H r→∀σ:St,σ.kept [1,20,21,22] [1] []=⟨[(1,vc (.pb 1 0)),(20,vc (aL (N V a0.Points))),(21,vc (aI (a0.Points.length:Int))),(22,vc (aI v3))],[(1,(dm a0.row))],[]⟩→go O (.code (.loop C3c):: [.blk 0,.code C8q]) (Ret [2] [.sc (.v (.bool r))]) .normal (H σ):=by
 intro n
 induction n with
 | zero=>intro _ r h; cases h
 | succ n ih=>
  intro v3 r h σ hσ
  rw[X4] at h
  refine B8 ?_
  rcases ic h with ⟨h4,h⟩|⟨h4,h⟩
  ·obtain⟨x5,h5,h⟩:=ob h
   try simp only[hσ,h4,h5,C3c,A,B,C,E,F,J]
   refine E0 rfl rfl ?_
   obtain⟨r6,h6,h⟩:=ob h
   try simp only[h4,h5,A,B,C,E,F,J]
   refine A4 (B3g _ _ h6) rfl rfl (uf rfl) ?_
   rcases ic h with ⟨h7,h⟩|⟨h7,h⟩
   ·obtain⟨r9,h9,h⟩:=ob h
    try simp only[h4,h5,h7,A,B,C,E,F,J]
    refine A4 (B59 _ _ _ h9) rfl rfl (uf rfl) ?_
    rcases ic h with ⟨h10,h⟩|⟨h10,h⟩
    ·try simp only[h4,h5,h7,h10,A,B,C,E,F,J]
     cases h
     trivial
    ·try simp only[h4,h5,h7,h10,A,B,C,E,F,J]
     refine ih _ _ h _ ?_
     try simp only[h4,h5,h7,h10,A,B,C,E,F,J,P]
   ·try simp only[h4,h5,h7,A,B,C,E,F,J]
    cases h
    trivial
  ·try simp only[hσ,h4,C3c,C8q,A,B,C,E,F,J]
   refine F3p _ _ _ _ h _ ?_
   try simp only[h4,A,B,C,E,F,J,P]
theorem F1i:B0 O 93=H (cc140.strip,[2],100):=by kernel_rfl
theorem Z0(a0:XChart)(r:Bool)(h:M8 a0=H r):FC O 93 [.ag (XChart.row a0)] [.sc (.v (.bool r))]:=by
 unfold M8 at h
 refine D3 B4 F1i rfl ?_
 simp only[cc140,A,B,C,E,F,J]
 try simp only[A,B,C,E,F,J]
 refine B7 rfl rfl rfl ?_
 rcases ic h with ⟨h1,h⟩|⟨h1,h⟩
 ·try simp only[h1,A,B,C,E,F,J]
  cases h
  trivial
 ·rcases ic h with ⟨h2,h⟩|⟨h2,h⟩
  ·try simp only[h1,h2,A,B,C,E,F,J]
   cases h
   trivial
  ·try simp only[h1,h2,A,B,C,E,F,J]
   refine F04 _ _ _ _ h _ ?_
   try simp only[h1,h2,A,B,C,E,F,J,P]
/- 266:impl_ShipOk -/
def cc145:ACode:=(.seq (.reg [bo 1 0,(L,.mv 2 (KB G))]) (.seq (.reg [fa 3 1 0,ld 4 3,ca 5 186 [S 4],mv 6 5,(H (6,T),.faddr 7 (S 1) 1),(H (6,T),.load 8 (S 7) G 1),(H (6,T),.call 9 114 [(S 8),(K 10),(K 400)]),pa 10 6 9,mv 11 10,(H (11,T),.faddr 12 (S 1) 2),(H (11,T),.load 13 (S 12) G 1),(H (11,T),.call 14 114 [(S 13),(K 100),(K 2000)]),pa 15 11 14,mv 16 15,(H (16,T),.faddr 17 (S 1) 3),(H (16,T),.load 18 (S 17) G 1),(H (16,T),.call 19 94 [(S 18),(K 4)]),pa 20 16 19,mv 21 20,(H (21,T),.faddr 22 (S 1) 4),(H (21,T),.load 23 (S 22) G 1),(H (21,T),.call 24 114 [(S 23),(K 0),(K 4)]),pa 25 21 24,mv 2 25]) .ret))
theorem F3y:B0 O 266=H (cc145.strip,[2],26):=by kernel_rfl
theorem A3g(a0:XShip)(r:Bool)(h:U3 a0=H r):FC O 266 [.ag (X a0)] [.sc (.v (.bool r))]:=by
 unfold U3 at h
 refine D3 B4 F3y rfl ?_
 simp only[cc145,A,B,C,E,F,J]
 try simp only[A,B,C,E,F,J]
 refine B7 rfl rfl rfl ?_
 obtain⟨r1,h1,h⟩:=ob h
 try simp only[A,B,C,E,F,J]
 refine A4 (B3g _ _ h1) rfl rfl (uf rfl) ?_
 rcases ic h with ⟨h2,h⟩|⟨h2,h⟩
 ·obtain⟨r3,h3,h⟩:=ob h
  try simp only[h2,A,B,C,E,F,J]
  refine A4 (G0 _ _ _ _ h3) rfl rfl (uf rfl) ?_
  rcases ic h with ⟨h4,h⟩|⟨h4,h⟩
  ·obtain⟨r5,h5,h⟩:=ob h
   try simp only[h2,h4,A,B,C,E,F,J]
   refine A4 (G0 _ _ _ _ h5) rfl rfl (uf rfl) ?_
   rcases ic h with ⟨h6,h⟩|⟨h6,h⟩
   ·obtain⟨r7,h7,h⟩:=ob h
    try simp only[h2,h4,h6,A,B,C,E,F,J]
    refine A4 (E5 _ _ _ h7) rfl rfl (uf rfl) ?_
    rcases ic h with ⟨h8,h⟩|⟨h8,h⟩
    ·obtain⟨r9,h9,h⟩:=ob h
     try simp only[h2,h4,h6,h8,A,B,C,E,F,J]
     refine A4 (G0 _ _ _ _ h9) rfl rfl (uf rfl) ?_
     try simp only[h2,h4,h6,h8,A,B,C,E,F,J]
     cases h
     trivial
    ·try simp only[h2,h4,h6,h8,A,B,C,E,F,J]
     cases h
     trivial
   ·try simp only[h2,h4,h6,A,B,C,E,F,J]
    cases h
    trivial
  ·try simp only[h2,h4,A,B,C,E,F,J]
   cases h
   trivial
 ·try simp only[h2,A,B,C,E,F,J]
  cases h
  trivial
/- 267:impl_ShipNamed -/
def C3s:ACode:= .seq (.reg [(L,.keep [1,7,8,9] [] [])]) (.seq (.reg [bn 10 .lss 9 8]) (.seq (.cond (S 10) .skip (.exit 0)) (.seq (.block 1 (.seq (.reg [mv 11 9,ia 12 7 9 6,lw 13 12 6,(L,.alloc 6 [aS [],aI 0,aI 0,aI 0,aI 0,aB G]),mv 5 11,so 6 13 6]) (.seq (.reg [fa 14 6 0,ld 15 14,mv 16 1,bn 17 .eql 15 16]) (.cond (S 17) (.seq (.reg [mv 18 5,mv 4 18]) .ret) .skip)))) (.reg [(L,.bin 19 .add (S 9) (K 1)),mv 9 19]))))
def C9v:ACode:=(.seq (.reg [(L,.mv 4 (K (-1)))]) .ret)
def cc149:ACode:=(.seq (.reg [(L,.mv 4 (K 0))]) (.seq (.seq (.reg [mv 7 0,ln 8 7,(L,.mv 9 (K 0))]) (.block 0 (.loop C3s))) C9v))
theorem F1h(a1:List UInt8)(a0:List XShip):∀(n:Nat) (v1 r:Int),T3 a1 a0 n v1=H r→∀σ:St,σ.kept [1,7,8,9] [] []=⟨[(1,vc (aS a1)),(7,vc (aL (N X a0))),(8,vc (aI (a0.length:Int))),(9,vc (aI v1))],[],[]⟩→go O (.code (.loop C3s):: [.blk 0,.code C9v]) (Ret [4] [.sc (.v (.int .i64 r))]) .normal (H σ):=by
 intro n
 induction n with
 | zero=>intro _ r h; cases h
 | succ n ih=>
  intro v1 r h σ hσ
  rw[T3] at h
  refine B8 ?_
  rcases ic h with ⟨h2,h⟩|⟨h2,h⟩
  ·obtain⟨x3,h3,h⟩:=ob h
   try simp only[hσ,h2,h3,C3s,A,B,C,E,F,J]
   refine E0 rfl rfl ?_
   rcases ic h with ⟨h4,h⟩|⟨h4,h⟩
   ·try simp only[h2,h3,h4,A,B,C,E,F,J]
    cases h
    trivial
   ·try simp only[h2,h3,h4,A,B,C,E,F,J]
    refine ih _ _ h _ ?_
    try simp only[h2,h3,h4,A,B,C,E,F,J,P]
  ·try simp only[hσ,h2,C3s,C9v,A,B,C,E,F,J]
   cases h
   trivial
theorem E8v:B0 O 267=H (cc149.strip,[4],20):=by kernel_rfl
theorem B7c(a0:List XShip)(a1:List UInt8)(r:Int)(h:A2t a0 a1=H r):FC O 267 [.sc (.sl (N X a0)),.sc (.str a1)] [.sc (.v (.int .i64 r))]:=by
 unfold A2t at h
 refine D3 B4 E8v rfl ?_
 simp only[cc149,A,B,C,E,F,J]
 try simp only[A,B,C,E,F,J]
 refine F1h _ _ _ _ _ h _ ?_
 try simp only[A,B,C,E,F,J,P]
/- 183:impl_FleetOk -/
def C24:ACode:= .seq (.reg [(L,.keep [0,8,9,10] [] [])]) (.seq (.reg [bn 11 .lss 10 9]) (.seq (.cond (S 11) .skip (.exit 0)) (.seq (.block 1 (.seq (.reg [mv 12 10,ia 13 8 10 6,lw 14 13 6,(L,.alloc 4 [aS [],aI 0,aI 0,aI 0,aI 0,aB G]),mv 3 12,so 4 14 6]) (.seq (.reg [lw 15 4 6,ca 16 266 [S 15],nt 17 16,mv 18 17,(H (18,G),.mv 19 (S 0)),(H (18,G),.faddr 20 (S 4) 0),(H (18,G),.load 21 (S 20) G 1),(H (18,G),.call 22 267 [(S 19),(S 21)]),(H (18,G),.mv 23 (S 3)),(H (18,G),.bin 24 .neq (S 22) (S 23)),po 25 18 24]) (.cond (S 25) (.seq (.reg [(L,.mv 2 (KB G))]) .ret) .skip)))) (.reg [(L,.bin 26 .add (S 10) (K 1)),mv 10 26]))))
def D0q:ACode:=(.seq (.reg [(L,.mv 2 (KB T))]) .ret)
def cc154:ACode:=(.seq (.reg [(L,.mv 2 (KB G))]) (.seq (.seq (.reg [mv 5 0,ln 6 5,(L,.bin 7 .gtr (S 6) (K 6))]) (.cond (S 7) (.seq (.reg [(L,.mv 2 (KB G))]) .ret) .skip)) (.seq (.seq (.reg [mv 8 0,ln 9 8,(L,.mv 10 (K 0))]) (.block 0 (.loop C24))) D0q)))
theorem F0e(a0:List XShip):∀(n:Nat) (v2:Int) (r:Bool),Y0 a0 n v2=H r→∀σ:St,σ.kept [0,8,9,10] [] []=⟨[(0,vc (aL (N X a0))),(8,vc (aL (N X a0))),(9,vc (aI (a0.length:Int))),(10,vc (aI v2))],[],[]⟩→go O (.code (.loop C24):: [.blk 0,.code D0q]) (Ret [2] [.sc (.v (.bool r))]) .normal (H σ):=by
 intro n
 induction n with
 | zero=>intro _ r h; cases h
 | succ n ih=>
  intro v2 r h σ hσ
  rw[Y0] at h
  refine B8 ?_
  rcases ic h with ⟨h3,h⟩|⟨h3,h⟩
  ·obtain⟨x4,h4,h⟩:=ob h
   try simp only[hσ,h3,h4,C24,A,B,C,E,F,J]
   refine E0 rfl rfl ?_
   obtain⟨r5,h5,h⟩:=ob h
   try simp only[h3,h4,A,B,C,E,F,J]
   refine A4 (A3g _ _ h5) rfl rfl (uf rfl) ?_
   rcases ic h with ⟨h6,h⟩|⟨h6,h⟩
   ·obtain⟨r7,h7,h⟩:=ob h
    try simp only[h3,h4,h6,A,B,C,E,F,J]
    refine A4 (B7c _ _ _ h7) rfl rfl (uf rfl) ?_
    rcases ic h with ⟨h8,h⟩|⟨h8,h⟩
    ·try simp only[h3,h4,h6,h8,A,B,C,E,F,J]
     cases h
     trivial
    ·try simp only[h3,h4,h6,h8,A,B,C,E,F,J]
     refine ih _ _ h _ ?_
     try simp only[h3,h4,h6,h8,A,B,C,E,F,J,P]
   ·try simp only[h3,h4,h6,A,B,C,E,F,J]
    cases h
    trivial
  ·try simp only[hσ,h3,C24,D0q,A,B,C,E,F,J]
   cases h
   trivial
theorem F35:B0 O 183=H (cc154.strip,[2],27):=by kernel_rfl
theorem B2e(a0:List XShip)(r:Bool)(h:A2m a0=H r):FC O 183 [.sc (.sl (N X a0))] [.sc (.v (.bool r))]:=by
 unfold A2m at h
 refine D3 B4 F35 rfl ?_
 simp only[cc154,A,B,C,E,F,J]
 rcases ic h with ⟨h1,h⟩|⟨h1,h⟩
 ·try simp only[h1,A,B,C,E,F,J]
  cases h
  trivial
 ·try simp only[h1,A,B,C,E,F,J]
  refine F0e _ _ _ _ h _ ?_
  try simp only[h1,A,B,C,E,F,J,P]
/- 184:impl_RegimeOk -/
def cc157:ACode:=(.seq (.reg [bo 1 0,(L,.mv 2 (KB G))]) (.seq (.reg [fa 3 1 0,ld 4 3,ca 5 114 [S 4,K 0,K 60],mv 2 5]) .ret))
theorem F0x:B0 O 184=H (cc157.strip,[2],6):=by kernel_rfl
theorem B9m(a0:XRegime)(r:Bool)(h:A5o a0=H r):FC O 184 [.ag (XRegime.row a0)] [.sc (.v (.bool r))]:=by
 unfold A5o at h
 refine D3 B4 F0x rfl ?_
 simp only[cc157,A,B,C,E,F,J]
 try simp only[A,B,C,E,F,J]
 refine B7 rfl rfl rfl ?_
 obtain⟨r1,h1,h⟩:=ob h
 try simp only[A,B,C,E,F,J]
 refine A4 (G0 _ _ _ _ h1) rfl rfl (uf rfl) ?_
 try simp only[A,B,C,E,F,J]
 cases h
 trivial
/- 268:impl_movesOk -/
def C27:ACode:= .seq (.reg [(L,.keep [8,9,10] [] [])]) (.seq (.reg [bn 11 .lss 10 9]) (.seq (.cond (S 11) .skip (.exit 0)) (.seq (.block 1 (.seq (.reg [ia 12 8 10 1,ld 13 12,mv 4 13]) (.seq (.reg [mv 14 4,ca 15 114 [S 14,K 0,K 240],nt 16 15]) (.cond (S 16) (.seq (.reg [(L,.mv 2 (KB G))]) .ret) .skip)))) (.reg [(L,.bin 17 .add (S 10) (K 1)),mv 10 17]))))
def C9i:ACode:=(.seq (.reg [(L,.mv 2 (KB T))]) .ret)
def cc161:ACode:=(.seq (.reg [(L,.mv 2 (KB G))]) (.seq (.seq (.reg [mv 5 0,ln 6 5,(L,.bin 7 .neq (S 6) (K 64))]) (.cond (S 7) (.seq (.reg [(L,.mv 2 (KB G))]) .ret) .skip)) (.seq (.seq (.reg [mv 8 0,ln 9 8,(L,.mv 10 (K 0))]) (.block 0 (.loop C27))) C9i)))
theorem E8z(a0:List Int):∀(n:Nat) (v2:Int) (r:Bool),U0 a0 n v2=H r→∀σ:St,σ.kept [8,9,10] [] []=⟨[(8,vc (aL (N rI a0))),(9,vc (aI (a0.length:Int))),(10,vc (aI v2))],[],[]⟩→go O (.code (.loop C27):: [.blk 0,.code C9i]) (Ret [2] [.sc (.v (.bool r))]) .normal (H σ):=by
 intro n
 induction n with
 | zero=>intro _ r h; cases h
 | succ n ih=>
  intro v2 r h σ hσ
  rw[U0] at h
  refine B8 ?_
  rcases ic h with ⟨h3,h⟩|⟨h3,h⟩
  ·obtain⟨x4,h4,h⟩:=ob h
   obtain⟨r5,h5,h⟩:=ob h
   try simp only[hσ,h3,h4,C27,A,B,C,E,F,J]
   refine A4 (G0 _ _ _ _ h5) rfl rfl (uf rfl) ?_
   rcases ic h with ⟨h6,h⟩|⟨h6,h⟩
   ·try simp only[h3,h4,h6,A,B,C,E,F,J]
    refine ih _ _ h _ ?_
    try simp only[h3,h4,h6,A,B,C,E,F,J,P]
   ·try simp only[h3,h4,h6,A,B,C,E,F,J]
    cases h
    trivial
  ·try simp only[hσ,h3,C27,C9i,A,B,C,E,F,J]
   cases h
   trivial
theorem F2n:B0 O 268=H (cc161.strip,[2],18):=by kernel_rfl
theorem A74(a0:List Int)(r:Bool)(h:Y3 a0=H r):FC O 268 [.sc (.sl (N rI a0))] [.sc (.v (.bool r))]:=by
 unfold Y3 at h
 refine D3 B4 F2n rfl ?_
 simp only[cc161,A,B,C,E,F,J]
 rcases ic h with ⟨h1,h⟩|⟨h1,h⟩
 ·try simp only[h1,A,B,C,E,F,J]
  cases h
  trivial
 ·try simp only[h1,A,B,C,E,F,J]
  refine E8z _ _ _ _ h _ ?_
  try simp only[h1,A,B,C,E,F,J,P]
/- 185:impl_CrewOk -/
def cc164:ACode:=(.seq (.reg [bo 1 0,(L,.mv 2 (KB G))]) (.seq (.reg [fa 3 1 0,ld 4 3,ca 5 114 [S 4,K 0,K 12],mv 6 5,(H (6,T),.faddr 7 (S 1) 1),(H (6,T),.load 8 (S 7) G 1),(H (6,T),.call 9 114 [(S 8),(K 0),(K 12)]),pa 10 6 9,mv 11 10,(H (11,T),.faddr 12 (S 1) 2),(H (11,T),.load 13 (S 12) G 1),(H (11,T),.call 14 117 [(S 13)]),pa 15 11 14,mv 16 15,(H (16,T),.faddr 17 (S 1) 3),(H (16,T),.load 18 (S 17) G 1),(H (16,T),.call 19 268 [(S 18)]),pa 20 16 19,mv 2 20]) .ret))
theorem E7z:B0 O 185=H (cc164.strip,[2],21):=by kernel_rfl
theorem C2c(a0:XCrew)(r:Bool)(h:A46 a0=H r):FC O 185 [.ag (XCrew.row a0)] [.sc (.v (.bool r))]:=by
 unfold A46 at h
 refine D3 B4 E7z rfl ?_
 simp only[cc164,A,B,C,E,F,J]
 try simp only[A,B,C,E,F,J]
 refine B7 rfl rfl rfl ?_
 obtain⟨r1,h1,h⟩:=ob h
 try simp only[A,B,C,E,F,J]
 refine A4 (G0 _ _ _ _ h1) rfl rfl (uf rfl) ?_
 rcases ic h with ⟨h2,h⟩|⟨h2,h⟩
 ·obtain⟨r3,h3,h⟩:=ob h
  try simp only[h2,A,B,C,E,F,J]
  refine A4 (G0 _ _ _ _ h3) rfl rfl (uf rfl) ?_
  rcases ic h with ⟨h4,h⟩|⟨h4,h⟩
  ·obtain⟨r5,h5,h⟩:=ob h
   try simp only[h2,h4,A,B,C,E,F,J]
   refine A4 (M9 _ _ h5) rfl rfl (uf rfl) ?_
   rcases ic h with ⟨h6,h⟩|⟨h6,h⟩
   ·obtain⟨r7,h7,h⟩:=ob h
    try simp only[h2,h4,h6,A,B,C,E,F,J]
    refine A4 (A74 _ _ h7) rfl rfl (uf rfl) ?_
    try simp only[h2,h4,h6,A,B,C,E,F,J]
    cases h
    trivial
   ·try simp only[h2,h4,h6,A,B,C,E,F,J]
    cases h
    trivial
  ·try simp only[h2,h4,A,B,C,E,F,J]
   cases h
   trivial
 ·try simp only[h2,A,B,C,E,F,J]
  cases h
  trivial
/- 91:impl_HarbourOk -/
def cc166:ACode:=(.seq (.reg [bo 1 0,(L,.mv 2 (KB G))]) (.seq (.reg [fa 3 1 0,lw 4 3 3,ca 5 116 [S 4],mv 6 5,(H (6,T),.faddr 7 (S 1) 3),(H (6,T),.load 8 (S 7) T 2),(H (6,T),.call 9 93 [(S 8)]),pa 10 6 9,mv 11 10,(H (11,T),.faddr 12 (S 1) 5),(H (11,T),.load 13 (S 12) G 1),(H (11,T),.call 14 183 [(S 13)]),pa 15 11 14,mv 16 15,(H (16,T),.faddr 17 (S 1) 6),(H (16,T),.load 18 (S 17) T 2),(H (16,T),.call 19 184 [(S 18)]),pa 20 16 19,mv 21 20,(H (21,T),.faddr 22 (S 1) 8),(H (21,T),.load 23 (S 22) T 4),(H (21,T),.call 24 185 [(S 23)]),pa 25 21 24,mv 2 25]) .ret))
theorem E95:B0 O 91=H (cc166.strip,[2],26):=by kernel_rfl
theorem A65(a0:XHarbour)(r:Bool)(h:X7 a0=H r):FC O 91 [.ag (zA a0)] [.sc (.v (.bool r))]:=by
 unfold X7 at h
 refine D3 B4 E95 rfl ?_
 simp only[cc166,A,B,C,E,F,J]
 try simp only[A,B,C,E,F,J]
 refine B7 rfl rfl rfl ?_
 obtain⟨r1,h1,h⟩:=ob h
 try simp only[A,B,C,E,F,J]
 refine A4 (A0n _ _ h1) rfl rfl (uf rfl) ?_
 rcases ic h with ⟨h2,h⟩|⟨h2,h⟩
 ·obtain⟨r3,h3,h⟩:=ob h
  try simp only[h2,A,B,C,E,F,J]
  refine A4 (Z0 _ _ h3) rfl rfl (uf rfl) ?_
  rcases ic h with ⟨h4,h⟩|⟨h4,h⟩
  ·obtain⟨r5,h5,h⟩:=ob h
   try simp only[h2,h4,A,B,C,E,F,J]
   refine A4 (B2e _ _ h5) rfl rfl (uf rfl) ?_
   rcases ic h with ⟨h6,h⟩|⟨h6,h⟩
   ·obtain⟨r7,h7,h⟩:=ob h
    try simp only[h2,h4,h6,A,B,C,E,F,J]
    refine A4 (B9m _ _ h7) rfl rfl (uf rfl) ?_
    rcases ic h with ⟨h8,h⟩|⟨h8,h⟩
    ·obtain⟨r9,h9,h⟩:=ob h
     try simp only[h2,h4,h6,h8,A,B,C,E,F,J]
     refine A4 (C2c _ _ h9) rfl rfl (uf rfl) ?_
     try simp only[h2,h4,h6,h8,A,B,C,E,F,J]
     cases h
     trivial
    ·try simp only[h2,h4,h6,h8,A,B,C,E,F,J]
     cases h
     trivial
   ·try simp only[h2,h4,h6,A,B,C,E,F,J]
    cases h
    trivial
  ·try simp only[h2,h4,A,B,C,E,F,J]
   cases h
   trivial
 ·try simp only[h2,A,B,C,E,F,J]
  cases h
  trivial
/- 92:impl_callOk -/
def cc168:ACode:=(.seq (.reg [bo 2 0,bo 3 1,(L,.mv 4 (KB G))]) (.seq (.reg [fa 6 2 3,fa 7 6 0,ld 8 7,ln 9 8,mv 5 9]) (.seq (.reg [fa 10 3 0,ld 11 10,fa 12 2 5,ld 13 12,ln 14 13,ca 15 94 [S 11,S 14],mv 16 15,(H (16,T),.faddr 17 (S 3) 1),(H (16,T),.load 18 (S 17) G 1),(H (16,T),.mv 19 (S 5)),(H (16,T),.call 20 94 [(S 18),(S 19)]),pa 21 16 20,mv 22 21,(H (22,T),.faddr 23 (S 3) 2),(H (22,T),.load 24 (S 23) G 1),(H (22,T),.mv 25 (S 5)),(H (22,T),.call 26 94 [(S 24),(S 25)]),pa 27 22 26,mv 28 27,(H (28,T),.faddr 29 (S 3) 1),(H (28,T),.load 30 (S 29) G 1),(H (28,T),.faddr 31 (S 3) 2),(H (28,T),.load 32 (S 31) G 1),(H (28,T),.bin 33 .neq (S 30) (S 32)),pa 34 28 33,mv 35 34,(H (35,T),.faddr 36 (S 3) 3),(H (35,T),.load 37 (S 36) G 1),(H (35,T),.call 38 117 [(S 37)]),pa 39 35 38,mv 40 39,(H (40,T),.faddr 41 (S 3) 4),(H (40,T),.load 42 (S 41) G 1),(H (40,T),.faddr 43 (S 3) 3),(H (40,T),.load 44 (S 43) G 1),(H (40,T),.call 45 114 [(S 42),(S 44),(K 2880)]),pa 46 40 45,mv 4 46]) .ret)))
theorem F0o:B0 O 92=H (cc168.strip,[4],47):=by kernel_rfl
theorem B3j(a0:XHarbour)(a1:XCall)(r:Bool)(h:A3f a0 a1=H r):FC O 92 [.ag (zA a0),.ag (Y a1)] [.sc (.v (.bool r))]:=by
 unfold A3f at h
 refine D3 B4 F0o rfl ?_
 simp only[cc168,A,B,C,E,F,J]
 try simp only[A,B,C,E,F,J]
 refine B7 rfl rfl rfl ?_
 try simp only[A,B,C,E,F,J]
 refine B7 rfl rfl rfl ?_
 obtain⟨r1,h1,h⟩:=ob h
 try simp only[A,B,C,E,F,J]
 refine A4 (E5 _ _ _ h1) rfl rfl (uf rfl) ?_
 rcases ic h with ⟨h2,h⟩|⟨h2,h⟩
 ·obtain⟨r3,h3,h⟩:=ob h
  try simp only[h2,A,B,C,E,F,J]
  refine A4 (E5 _ _ _ h3) rfl rfl (uf rfl) ?_
  rcases ic h with ⟨h4,h⟩|⟨h4,h⟩
  ·obtain⟨r5,h5,h⟩:=ob h
   try simp only[h2,h4,A,B,C,E,F,J]
   refine A4 (E5 _ _ _ h5) rfl rfl (uf rfl) ?_
   rcases ic h with ⟨h6,h⟩|⟨h6,h⟩
   ·rcases ic h with ⟨h7,h⟩|⟨h7,h⟩
    ·obtain⟨r9,h9,h⟩:=ob h
     try simp only[h2,h4,h6,h7,A,B,C,E,F,J]
     refine A4 (M9 _ _ h9) rfl rfl (uf rfl) ?_
     rcases ic h with ⟨h10,h⟩|⟨h10,h⟩
     ·obtain⟨r11,h11,h⟩:=ob h
      try simp only[h2,h4,h6,h7,h10,A,B,C,E,F,J]
      refine A4 (G0 _ _ _ _ h11) rfl rfl (uf rfl) ?_
      try simp only[h2,h4,h6,h7,h10,A,B,C,E,F,J]
      cases h
      trivial
     ·try simp only[h2,h4,h6,h7,h10,A,B,C,E,F,J]
      cases h
      trivial
    ·try simp only[h2,h4,h6,h7,A,B,C,E,F,J]
     cases h
     trivial
   ·try simp only[h2,h4,h6,A,B,C,E,F,J]
    cases h
    trivial
  ·try simp only[h2,h4,A,B,C,E,F,J]
   cases h
   trivial
 ·try simp only[h2,A,B,C,E,F,J]
  cases h
  trivial
/- 18:impl_CallsOk -/
def C2t:ACode:= .seq (.reg [(L,.keep [1,2,6,17,18,19,30,31,32] [2,6] [])]) (.seq (.reg [bn 33 .lss 32 31]) (.seq (.cond (S 33) .skip (.exit 2)) (.seq (.block 3 (.seq (.reg [ia 34 30 32 5,lw 35 34 5,(L,.alloc 8 [aI 0,aI 0,aI 0,aI 0,aI 0]),so 8 35 5]) (.seq (.reg [fa 36 8 0,ld 37 36,fa 38 6 0,ld 39 38,bn 40 .eql 37 39]) (.cond (S 40) (.seq (.reg [(L,.mv 4 (KB G))]) .ret) .skip)))) (.reg [(L,.bin 41 .add (S 32) (K 1)),mv 32 41]))))
def D01:ACode:=(.reg [(L,.bin 42 .add (S 19) (K 1)),mv 19 42])
def B5v:ACode:= .seq (.reg [(L,.keep [1,2,17,18,19] [2] [])]) (.seq (.reg [bn 20 .lss 19 18]) (.seq (.cond (S 20) .skip (.exit 0)) (.seq (.block 1 (.seq (.reg [mv 21 19,ia 22 17 19 5,lw 23 22 5,(L,.alloc 6 [aI 0,aI 0,aI 0,aI 0,aI 0]),mv 5 21,so 6 23 5]) (.seq (.seq (.reg [lw 24 2 12,lw 25 6 5,ca 26 92 [S 24,S 25],nt 27 26]) (.cond (S 27) (.seq (.reg [(L,.mv 4 (KB G))]) .ret) .skip)) (.seq (.reg [mv 28 1,mv 29 5,(L,.slc 30 5 (S 28) L (H (S 29)) L),ln 31 30,(L,.mv 32 (K 0))]) (.block 2 (.loop C2t)))))) D01)))
def B7s:ACode:=(.seq (.reg [(L,.mv 4 (KB T))]) .ret)
def cc174:ACode:=(.seq (.reg [bo 2 0,(L,.mv 4 (KB G))]) (.seq (.seq (.reg [lw 9 2 12,ca 10 91 [S 9],nt 11 10,mv 12 11,(H (12,G),.mv 13 (S 1)),(H (12,G),.len 14 (S 13)),(H (12,G),.bin 15 .gtr (S 14) (K 6)),po 16 12 15]) (.cond (S 16) (.seq (.reg [(L,.mv 4 (KB G))]) .ret) .skip)) (.seq (.seq (.reg [mv 17 1,ln 18 17,(L,.mv 19 (K 0))]) (.block 0 (.loop B5v))) B7s)))
theorem F0d(a1:List XCall)(v4:Int)(a0:XHarbour)(x6:XCall)(y10:List XCall)(y11:Int)(A20:Int→Option Bool)(B5x:∀(v4:Int) zr,A20 v4=H zr→∀σ:St,σ.kept [1,2,17,18,19] [2] []=⟨[(1,vc (aL (N Y a1))),(2,vc (.pb 2 0)),(17,vc (aL (N Y a1))),(18,vc (aI (a1.length:Int))),(19,vc (aI v4))],[(2,(dm a0.row))],[]⟩→go O (.code (.loop B5v):: [.blk 0,.code B7s]) (Ret [4] [.sc (.v (.bool zr))]) .normal (H σ)):∀(n:Nat) (v12:Int) (r:Bool),X1 a1 v4 a0 x6 y10 y11 A20 n v12=H r→∀σ:St,σ.kept [1,2,6,17,18,19,30,31,32] [2,6] []=⟨[(1,vc (aL (N Y a1))),(2,vc (.pb 2 0)),(6,vc (.pb 6 0)),(17,vc (aL (N Y a1))),(18,vc (aI (a1.length:Int))),(19,vc (aI v4)),(30,vc (aL (N Y y10))),(31,vc (aI y11)),(32,vc (aI v12))],[(2,(dm a0.row)),(6,(dm x6.row))],[]⟩→go O (.code (.loop C2t):: [.blk 2,.blk 1,.code D01,.code (.loop B5v),.blk 0,.code B7s]) (Ret [4] [.sc (.v (.bool r))]) .normal (H σ):=by
 intro n
 induction n with
 | zero=>intro _ r h; cases h
 | succ n ih=>
  intro v12 r h σ hσ
  rw[X1] at h
  refine B8 ?_
  rcases ic h with ⟨h13,h⟩|⟨h13,h⟩
  ·obtain⟨x14,h14,h⟩:=ob h
   try simp only[hσ,h13,h14,C2t,A,B,C,E,F,J]
   refine E0 rfl rfl ?_
   rcases ic h with ⟨h15,h⟩|⟨h15,h⟩
   ·try simp only[h13,h14,h15,A,B,C,E,F,J]
    cases h
    trivial
   ·try simp only[h13,h14,h15,A,B,C,E,F,J]
    refine ih _ _ h _ ?_
    try simp only[h13,h14,h15,A,B,C,E,F,J,P]
  ·try simp only[hσ,h13,C2t,D01,A,B,C,E,F,J]
   refine B5x _ _ h _ ?_
   try simp only[h13,A,B,C,E,F,J,P]
theorem F1o(a1:List XCall)(a0:XHarbour):∀(n:Nat) (v4:Int) (r:Bool),P5 a1 a0 n v4=H r→∀σ:St,σ.kept [1,2,17,18,19] [2] []=⟨[(1,vc (aL (N Y a1))),(2,vc (.pb 2 0)),(17,vc (aL (N Y a1))),(18,vc (aI (a1.length:Int))),(19,vc (aI v4))],[(2,(dm a0.row))],[]⟩→go O (.code (.loop B5v):: [.blk 0,.code B7s]) (Ret [4] [.sc (.v (.bool r))]) .normal (H σ):=by
 intro n
 induction n with
 | zero=>intro _ r h; cases h
 | succ n ih=>
  intro v4 r h σ hσ
  rw[P5] at h
  refine B8 ?_
  rcases ic h with ⟨h5,h⟩|⟨h5,h⟩
  ·obtain⟨x6,h6,h⟩:=ob h
   try simp only[hσ,h5,h6,B5v,A,B,C,E,F,J]
   refine E0 rfl rfl ?_
   obtain⟨r7,h7,h⟩:=ob h
   try simp only[h5,h6,A,B,C,E,F,J]
   refine A4 (B3j _ _ _ h7) rfl rfl (uf rfl) ?_
   rcases ic h with ⟨h8,h⟩|⟨h8,h⟩
   ·obtain⟨p9,h9,h⟩:=ob h
    try simp only[h5,h6,h8,h9,A,B,C,E,F,J]
    refine F0d _ _ _ _ _ _ (P5 a1 a0 n) ih _ _ _ h _ ?_
    try simp only[h5,h6,h8,h9,A,B,C,E,F,J,P]
   ·try simp only[h5,h6,h8,A,B,C,E,F,J]
    cases h
    trivial
  ·try simp only[hσ,h5,B5v,B7s,A,B,C,E,F,J]
   cases h
   trivial
theorem E7y:B0 O 18=H (cc174.strip,[4],43):=by kernel_rfl
theorem A71(a0:XHarbour)(a1:List XCall)(r:Bool)(h:A1b a0 a1=H r):FC O 18 [.ag (zA a0),.sc (.sl (N Y a1))] [.sc (.v (.bool r))]:=by
 unfold A1b at h
 refine D3 B4 E7y rfl ?_
 simp only[cc174,A,B,C,E,F,J]
 try simp only[A,B,C,E,F,J]
 refine B7 rfl rfl rfl ?_
 obtain⟨r1,h1,h⟩:=ob h
 try simp only[A,B,C,E,F,J]
 refine A4 (A65 _ _ h1) rfl rfl (uf rfl) ?_
 rcases ic h with ⟨h2,h⟩|⟨h2,h⟩
 ·rcases ic h with ⟨h3,h⟩|⟨h3,h⟩
  ·try simp only[h2,h3,A,B,C,E,F,J]
   cases h
   trivial
  ·try simp only[h2,h3,A,B,C,E,F,J]
   refine F1o _ _ _ _ _ h _ ?_
   try simp only[h2,h3,A,B,C,E,F,J,P]
 ·try simp only[h2,A,B,C,E,F,J]
  cases h
  trivial
/- 99:impl_CallOk -/
def cc178:ACode:=(.seq (.reg [bo 2 0,bo 3 1,(L,.mv 4 (KB G))]) (.seq (.reg [lw 5 2 12,ca 6 91 [S 5],mv 7 6,(H (7,T),.load 8 (S 2) T 12),(H (7,T),.load 9 (S 3) T 5),(H (7,T),.call 10 92 [(S 8),(S 9)]),pa 11 7 10,mv 4 11]) .ret))
theorem F3h:B0 O 99=H (cc178.strip,[4],12):=by kernel_rfl
theorem C14(a0:XHarbour)(a1:XCall)(r:Bool)(h:A4x a0 a1=H r):FC O 99 [.ag (zA a0),.ag (Y a1)] [.sc (.v (.bool r))]:=by
 unfold A4x at h
 refine D3 B4 F3h rfl ?_
 simp only[cc178,A,B,C,E,F,J]
 try simp only[A,B,C,E,F,J]
 refine B7 rfl rfl rfl ?_
 try simp only[A,B,C,E,F,J]
 refine B7 rfl rfl rfl ?_
 obtain⟨r1,h1,h⟩:=ob h
 try simp only[A,B,C,E,F,J]
 refine A4 (A65 _ _ h1) rfl rfl (uf rfl) ?_
 rcases ic h with ⟨h2,h⟩|⟨h2,h⟩
 ·obtain⟨r3,h3,h⟩:=ob h
  try simp only[h2,A,B,C,E,F,J]
  refine A4 (B3j _ _ _ h3) rfl rfl (uf rfl) ?_
  try simp only[h2,A,B,C,E,F,J]
  cases h
  trivial
 ·try simp only[h2,A,B,C,E,F,J]
  cases h
  trivial
/- 121:impl_clone_int -/
def cc180:ACode:=(.seq (.reg [(L,.mv 2 KN)]) (.seq (.reg [mv 3 0,ln 4 3,(L,.mksl 5 1 8 [.int .i64 0] (K 0) (S 4)),mv 6 0,(L,.app 7 1 8 (S 5) (S 6)),mv 2 7]) .ret))
theorem F1f:B0 O 121=H (cc180.strip,[2],8):=by kernel_rfl
theorem A4v(a0:List Int)(r:(List Int))(h:D5 a0=H r):FC O 121 [.sc (.sl (N rI a0))] [.sc (.o 1 (N rI r))]:=by
 unfold D5 at h
 refine D3 B4 F1f rfl ?_
 simp only[cc180,A,B,C,E,F,J]
 obtain⟨n1,hn1,h⟩:=ob h
 try simp only[A,B,C,E,F,J]
 refine B17 (es:=N rI (List.replicate n1 (0:Int))) rfl rfl hn1 rfl (A90 rfl) rfl ?_
 obtain⟨h2,h⟩:=E2 h
 try simp only[h2,A,B,C,E,F,J]
 cases h
 trivial
/- 327:impl_Segment_end -/
def cc182:ACode:=(.seq (.reg [bo 2 0,(L,.mv 4 (K 0))]) (.seq (.seq (.reg [mv 5 1]) (.block 0 (.seq (.reg [fa 7 2 0,ld 8 7,bn 9 .eql 5 8,mv 6 9]) (.cond (S 6) (.seq (.reg [fa 10 2 1,ld 11 10,mv 4 11]) .ret) (.seq (.reg [fa 13 2 1,ld 14 13,bn 15 .eql 5 14,mv 12 15]) (.cond (S 12) (.seq (.reg [fa 16 2 0,ld 17 16,mv 4 17]) .ret) .skip)))))) (.seq (.reg [(L,.mv 4 (K (-1)))]) .ret)))
theorem F1j:B0 O 327=H (cc182.strip,[4],18):=by kernel_rfl
theorem A8z(a0:XSegment)(a1 r:Int)(h:Y2 a0 a1=H r):FC O 327 [.ag (Q a0),.sc (.int .i64 a1)] [.sc (.v (.int .i64 r))]:=by
 unfold Y2 at h
 refine D3 B4 F1j rfl ?_
 simp only[cc182,A,B,C,E,F,J]
 try simp only[A,B,C,E,F,J]
 refine B7 rfl rfl rfl ?_
 rcases ic h with ⟨h1,h⟩|⟨h1,h⟩
 ·try simp only[h1,A,B,C,E,F,J]
  cases h
  trivial
 ·rcases ic h with ⟨h2,h⟩|⟨h2,h⟩
  ·try simp only[h1,h2,A,B,C,E,F,J]
   cases h
   trivial
  ·try simp only[h1,h2,A,B,C,E,F,J]
   cases h
   trivial
end Go.Vi
