/-
Walks. No condition.
-/
import Derived.Test.YthkepjhahmknfaaGreatDoorLNf
import Derived.Test.YthkepjhahmknfaaGreatDoorChecked
import Derived.Test.YthkepjhahmknfaaGreatDoorLSh
import Derived.KernelRfl
import Derived.Test.YthkepjhahmknfaaGreatDoorLWPlanLinesb
namespace Go.Vi
open Go.Proofs
set_option linter.all false
set_option maxRecDepth 4000
set_option maxHeartbeats 2000000
open Nat renaming reduceBEq → C, reduceMul → E, reduceAdd → F, reduceDiv → G, le_of_ble_eq_true → uf
open Int renaming reduceBEq → H
attribute [local irreducible] go Bk
open List renaming map → Z, map_nil → zA, length_set → zB, all_cons → zF, all_nil → zG, replicate → zH, all_eq_true → zI
open Tryz renaming prog → I
open Xd renaming row → zC
open Xb renaming row → zD
open Xa renaming row → zE
open IntKind renaming wrap → zJ
open Bool renaming true → T, false → L
open Option renaming some → N, none → O
open _root_ renaming List → P, Option → Q, Int → U, Bool → V, Nat → W, UInt8 → X, rfl → Y
/- 137:slices_Equal_Passage -/
def QL:X0:=A1 [Ae [0,1,12,13] [] []] (A1 [bn 14 .lss 13 12] (Av 14 0 1 (A1 [mv 15 13,mv 5 15] (A5 (.drw [o0 (mv 16 0),o0 (mv 17 5),o0 (ia 18 16 17 5),o0 (lw 19 18 5),o0 (mv 20 1),o0 (mv 21 5),o0 (ia 22 20 21 5),o0 (lw 23 22 5),o0 (O,.geq 24 T [.i,.i,.b,.i,.i] (S 19) (S 23))]) (Aq 24 (A2 [A3 4 L])))) (Au 25 13)))
def Vg:X0:=(A2 [A3 4 T])
def cS:X0:=(A1 [A3 4 L] (Aa [mv 6 0,ln 7 6,mv 8 1,ln 9 8,bn 10 .neq 7 9] 10 (A2 [A3 4 L]) (A5 (A1 [mv 11 0,ln 12 11,A6 13 0] (Ah 0 QL)) Vg)))
def nc:=fun a0 a1 (k_:U→Q V)=>∀{v2} {zr},k_ v2=N zr→Kp I [0,1,12,13] [] [] ⟨[pL 0 X1.row a0,pL 1 X1.row a1,pI 12 (a0.length:U),pI 13 v2],[],[]⟩ (.code (.loop QL):: [.blk 0,.code Vg]) (Ag [4] [.sc (.v (.bool zr))])
theorem B6r{a0 a1}{n:W}:nc a0 a1 (I9 a0 a1 n):=by
 induction n with
 | zero=>intro _ r h; cases h
 | succ n ih=>
  intro v2 r h σ hσ;rw[I9] at h;refine Ai ?_;obtain⟨h3,h⟩|⟨h3,h⟩:=ic h
  ·try simp only[hσ,h3,QL,C,E,F,G,H,J]
   refine An ?_;obtain⟨x4,h4,h⟩:=ob h;obtain⟨x5,h5,h⟩:=ob h;obtain⟨h6,h⟩|⟨h6,h⟩:=ic h
   ·try simp only[h3,h4,h5,h6,C,E,F,G,H,J]
    refine ih h ?_;try simp only[h3,h4,h5,h6,C,E,F,G,H,J,pL,aM,zA]
   ·try simp only[h3,h4,h5,h6,C,E,F,G,H,J]
    cases h;exact t0
  ·try simp only[hσ,h3,QL,Vg,C,E,F,G,H,J]
   cases h;exact t0
theorem B2h{a0}{a1}{r}(h:Sl a0 a1=N r):FC I 137 [.sc (.sl (Z X1.row a0)),.sc (.sl (Z X1.row a1))] [.sc (.v (.bool r))]:=by
 unfold Sl at h;refine A9 mixed cS [4] 26 ?_;simp only[cS,C,E,F,G,H,J];obtain⟨h1,h⟩|⟨h1,h⟩:=ic h
 ·try simp only[h1,C,E,F,G,H,J]
  cases h;exact t0
 ·try simp only[h1,C,E,F,G,H,J]
  refine B6r h ?_;try simp only[h1,C,E,F,G,H,J,pL,aM,zA]
/- 101:impl_SameOptions -/
def cT:X0:=(A1 [bo 2 0,bo 3 1,A3 4 L] (A2 [fa 5 2 0,ld 6 5,fa 7 3 0,ld 8 7,bn 9 .eql 6 8,mv 10 9,Ab 10 T 11 2 1,Ad 10 T 12 11,Ab 10 T 13 3 1,Ad 10 T 14 13,AK 10 T 15 .eql 12 14,pa 16 10 15,mv 17 16,Ab 17 T 18 2 2,Ad 17 T 19 18,Ab 17 T 20 3 2,Ad 17 T 21 20,AK 17 T 22 .eql 19 21,pa 23 17 22,mv 24 23,Ab 24 T 25 2 3,Ad 24 T 26 25,Ab 24 T 27 3 3,Ad 24 T 28 27,Ak 24 T 29 137 [S 26,S 28],pa 30 24 29,mv 4 30]))
theorem A9h{a0}{a1}{r}(h:Ht a0 a1=N r):FC I 101 [.ag (X2.row a0),.ag (X2.row a1)] [.sc (.v (.bool r))]:=by
 unfold Ht at h;refine A9 mixed cT [4] 31 ?_;simp only[cT,C,E,F,G,H,J];try simp only[C,E,F,G,H,J]
 refine A8 ?_;try simp only[C,E,F,G,H,J]
 refine A8 ?_;obtain⟨h1,h⟩|⟨h1,h⟩:=ic h
 ·obtain⟨h2,h⟩|⟨h2,h⟩:=ic h
  ·obtain⟨h3,h⟩|⟨h3,h⟩:=ic h
   ·obtain⟨r4,h4,h⟩:=ob h;try simp only[h1,h2,h3,C,E,F,G,H,J]
    refine A4 (B2h h4) ?_;try simp only[h1,h2,h3,C,E,F,G,H,J]
    cases h;exact t0
   ·try simp only[h1,h2,h3,C,E,F,G,H,J]
    cases h;exact t0
  ·try simp only[h1,h2,C,E,F,G,H,J]
   cases h;exact t0
 ·try simp only[h1,C,E,F,G,H,J]
  cases h;exact t0
/- 68:impl_IsOption -/
def QM:X0:=A1 [Ae [3,4,5,7,14,15,16] [3,4,5] [768]] (A1 [bn 17 .lss 16 15] (Av 17 0 1 (A1 [ia 18 14 16 5,lw 19 18 5,Al 9 [aI 0,aI 0,aB L,aI 0,aI 0],so 9 19 5] (.reg [mv 20 7,fa 21 9 1,ld 22 21,AD 23 1 [.int .i64 0] 1 [(0,(S 22))],Be 24 1 8 20 23,mv 7 24])) (Au 25 16)))
def Vh:X0:=(A1 [lw 27 3 12,lw 28 4 5,mv 29 7,fa 30 5 0,ld 31 30,ca 32 100 [S 27,S 28,S 29,S 31],mv 26 32,xt 33 26 0,xt 34 26 1,Al 10 [aI 0,aI 0,aI 0,.nil],so 10 33 4,mv 11 34] (A2 [mv 35 11,mv 36 35,AQ 36 T 37 10 4,AQ 36 T 38 5 4,Ak 36 T 39 101 [S 37,S 38],pa 40 36 39,mv 6 40]))
def cU:X0:=(A1 [bo 3 0,bo 4 1,bo 5 2,A3 6 L] (A1 [AD 12 1 [.int .i64 0] 0 [],mv 7 12] (A5 (A1 [fa 13 5 3,ld 14 13,ln 15 14,A6 16 0] (Ah 0 QM)) Vh)))
def ly:=fun(a2:X2) (a0:X7) (a1:Xa) (k_:U→(P U)→Q V)=>∀{v1 v2} {zr},k_ v1 v2=N zr→Kp I [3,4,5,7,14,15,16] [3,4,5] [768] ⟨[pB 3,pB 4,pB 5,pW 7 768,pL 14 X1.row a2.Passages,pI 15 (a2.Passages.length:U),pI 16 v1],[(3,([aI a0.Forecast.Tide.Mean,aM zC a0.Forecast.Tide.Parts,aM zD a0.Forecast.Surges,aM X9.row a0.Chart.Points,aM X3.row a0.Chart.Segments,aM X5.row a0.Fleet,aI a0.Regime.Gap,aB a0.Regime.NoMeet]++dm a0.Crew.row)),(4,(dm a1.row)),(5,[aI a2.Start,aI a2.Arrival,aI a2.Cost,aM X1.row a2.Passages])],[(768,1,Z rI v2)]⟩ (.code (.loop QM):: [.blk 0,.code Vh]) (Ag [6] [.sc (.v (.bool zr))])
theorem B6s{a2 a0 a1}{n:W}:ly a2 a0 a1 (Hk a2 a0 a1 n):=by
 induction n with
 | zero=>intro _ _ r h; cases h
 | succ n ih=>
  intro v1 v2 r h σ hσ;rw[Hk] at h;refine Ai ?_;obtain⟨h3,h⟩|⟨h3,h⟩:=ic h
  ·obtain⟨x4,h4,h⟩:=ob h;try simp only[hσ,h3,h4,QM,C,E,F,G,H,J]
   refine Am ?_;try simp only[h3,h4,C,E,F,G,H,J]
   refine Ax (es:=Z rI ([x4.Segment]:P U)) ?_;obtain⟨h5,h⟩:=AT h;try simp only[h3,h4,h5,C,E,F,G,H,J]
   refine ih h ?_;try simp only[h3,h4,h5,C,E,F,G,H,J,pL,aM,zA]
  ·obtain⟨r6,h6,h⟩:=ob h;try simp only[hσ,h3,QM,Vh,C,E,F,G,H,J]
   refine B7 (A9a h6) Y (BO Y ⟨Y,Y,Y,B3,Y,⟨⟩⟩) Y (uf Y) ?_;try simp only[h3,C,E,F,G,H,J]
   refine Am ?_;obtain⟨h7,h⟩|⟨h7,h⟩:=ic h
   ·obtain⟨r9,h9,h⟩:=ob h;try simp only[h3,h7,C,E,F,G,H,J]
    refine B7 (A9h h9) Y (BD Y) Y (uf Y) ?_;try simp only[h3,h7,C,E,F,G,H,J]
    cases h;exact t0
   ·try simp only[h3,h7,C,E,F,G,H,J]
    cases h;exact t0
theorem A82{a0}{a1}{a2}{r}(h:Hh a0 a1 a2=N r):FC I 68 [.ag (X7.row a0),.ag (zE a1),.ag (X2.row a2)] [.sc (.v (.bool r))]:=by
 unfold Hh at h;refine A9 mixed cU [6] 41 ?_;simp only[cU,C,E,F,G,H,J];try simp only[C,E,F,G,H,J]
 refine A8 ?_;try simp only[C,E,F,G,H,J]
 refine A8 ?_;try simp only[C,E,F,G,H,J]
 refine A8 ?_;try simp only[C,E,F,G,H,J]
 refine Ax (es:=Z rI ([]:P U)) ?_;try simp only[C,E,F,G,H,J]
 refine B6s h ?_;try simp only[C,E,F,G,H,J,pL,aM,zA]
/- 180:impl_Overlaps -/
def cV:X0:=(A1 [bo 2 0,bo 3 1,A3 4 L] (A2 [fa 5 2 3,ld 6 5,fa 7 3 3,ld 8 7,(O,.mm 9 T (S 6) (S 8)),fa 10 2 4,ld 11 10,fa 12 3 4,ld 13 12,(O,.mm 14 L (S 11) (S 13)),bn 15 .lss 9 14,mv 4 15]))
theorem jY{a0}{a1}{r}(h:JH a0 a1=N r):FC I 180 [.ag (X1.row a0),.ag (X1.row a1)] [.sc (.v (.bool r))]:=by
 unfold JH at h;refine A9 mixed cV [4] 16 ?_;simp only[cV,C,E,F,G,H,J];try simp only[C,E,F,G,H,J]
 refine A8 ?_;try simp only[C,E,F,G,H,J]
 refine A8 ?_;try simp only[C,E,F,G,H,J]
 cases h;exact t0
/- 181:impl_near -/
def cW:X0:=(A1 [A3 6 L] (A2 [mv 7 0,mv 8 1,(O,.mm 9 T (S 7) (S 8)),(O,.conv 10 .u64 (S 9)),mv 11 0,mv 12 1,(O,.mm 13 L (S 11) (S 12)),(O,.conv 14 .u64 (S 13)),bn 15 .sub 10 14,mv 16 2,(O,.conv 17 .u64 (S 16)),bn 18 .lss 15 17,mv 6 18]))
theorem ji{a0}{a1}{a2}{r}(h:JR a0 a1 a2=N r):FC I 181 [.sc (.int .i64 a0),.sc (.int .i64 a1),.sc (.int .i64 a2)] [.sc (.v (.bool r))]:=by
 unfold JR at h;refine A9 mixed cW [6] 19 ?_;simp only[cW,C,E,F,G,H,J];try simp only[C,E,F,G,H,J]
 cases h;exact t0
/- 138:impl_conflict -/
def E6:X0:=A1 [Ae [6,7,72] [6,7] []] (AL 72 (A2 [A6 8 3]) (A1 [fa 90 6 3,ld 91 90,fa 92 7 3,ld 93 92,bn 94 .lss 91 93,mv 95 94,Ab 95 T 96 6 4,Ad 95 T 97 96,Ab 95 T 98 7 4,Ad 95 T 99 98,AK 95 T 100 .gtr 97 99,pa 101 95 100,mv 102 101,Ab 102 L 103 6 3,Ad 102 L 104 103,Ab 102 L 105 7 3,Ad 102 L 106 105,AK 102 L 107 .gtr 104 106,Af 102 L 108 107,Ab 108 T 109 6 4,Ad 108 T 110 109,Ab 108 T 111 7 4,Ad 108 T 112 111,AK 108 T 113 .lss 110 112,(N (102,L),.pick 114 (S 108) (S 113) (KB L)),po 115 102 114,mv 89 115] (Aq 89 (A2 [A6 8 4]))))
def Ly:X0:=A1 [Ae [5,6,7,41] [5,6,7] []] (AL 41 (A2 [A6 8 2]) (A1 [fa 67 6 2,ld 68 67,fa 69 7 2,ld 70 69,(O,.beq 71 T (S 68) (S 70)),mv 66 71] (AL 66 (A2 [A6 8 0]) (A1 [fa 73 6 3,ld 74 73,fa 75 7 3,ld 76 75,fa 77 5 0,ld 78 77,ca 79 181 [S 74,S 76,S 78],mv 80 79,Ab 80 L 81 6 4,Ad 80 L 82 81,Ab 80 L 83 7 4,Ad 80 L 84 83,Ab 80 L 85 5 0,Ad 80 L 86 85,Ak 80 L 87 181 [S 82,S 84,S 86],po 88 80 87,mv 72 88] E6))))
def Jp:X0:=A1 [Ae [4,5,6,7,24] [4,5,6,7] []] (AL 24 (A2 [A6 8 1]) (A1 [fa 36 6 0,ld 37 36,fa 38 7 0,ld 39 38,bn 40 .eql 37 39,mv 35 40] (AL 35 (A2 [A6 8 0]) (A1 [fa 42 6 2,ld 43 42,fa 44 7 2,ld 45 44,(O,.beq 46 T (S 43) (S 45)),mv 47 46,AQ 47 T 48 6 5,AQ 47 T 49 7 5,Ak 47 T 50 180 [S 48,S 49],pa 51 47 50,mv 52 51,Ab 52 T 53 5 1,Ad 52 T 54 53,Af 52 T 55 54,Ab 55 L 56 4 1,Ad 55 L 57 56,Ab 55 L 58 6 1,Ad 55 L 59 58,CC 55 L 60 57 59 5,Ab 55 L 61 60 4,Ad 55 L 62 61,AN 55 L 63 62,(N (52,T),.pick 64 (S 55) (KB T) (S 63)),pa 65 52 64,mv 41 65] Ly))))
def Lz:X0:=A1 [Ae [4,5,6,7,9] [4,5,6,7] []] (AL 9 (A2 [A6 8 0]) (A1 [fa 25 6 0,ld 26 25,fa 27 7 0,ld 28 27,bn 29 .eql 26 28,mv 30 29,AQ 30 T 31 6 5,AQ 30 T 32 7 5,Ak 30 T 33 180 [S 31,S 32],pa 34 30 33,mv 24 34] Jp))
def EN:X0:=(A2 [A6 8 0])
def cX:X0:=(A1 [bo 4 0,bo 5 1,bo 6 2,bo 7 3,A6 8 0] (A5 (.block 0 (A1 [fa 10 6 1,ld 11 10,fa 12 7 1,ld 13 12,bn 14 .neq 11 13,mv 15 14,Ab 15 L 16 6 1,Ad 15 L 17 16,Ab 15 L 18 4 1,Ad 15 L 19 18,B1 15 L 20 19,Ak 15 L 21 131 [S 17,S 20],AN 15 L 22 21,po 23 15 22,mv 9 23] Lz)) EN))
def mQ:=fun(a2:X1) (a3:X1) (k_:V→Q U)=>∀{v22} {zr},k_ v22=N zr→Kp I [6,7,72] [6,7] [] ⟨[pB 6,pB 7,(72,vc (aB v22))],[(6,(dm a2.row)),(7,(dm a3.row))],[]⟩ (.code E6:: [.blk 0,.code EN]) (Ag [8] [.sc (.v (.int .i64 zr))])
def mP:=fun(a1:Xg) (a2:X1) (a3:X1) (k_:V→V→Q U)=>∀{v15 v16} {zr},k_ v15 v16=N zr→Kp I [5,6,7,41] [5,6,7] [] ⟨[pB 5,pB 6,pB 7,(41,vc (aB v15))],[(5,[aI a1.Gap,aB v16]),(6,(dm a2.row)),(7,(dm a3.row))],[]⟩ (.code Ly:: [.blk 0,.code EN]) (Ag [8] [.sc (.v (.int .i64 zr))])
def mO:=fun(a0:X6) (a1:Xg) (a2:X1) (a3:X1) (k_:V→Q U)=>∀{v7} {zr},k_ v7=N zr→Kp I [4,5,6,7,24] [4,5,6,7] [] ⟨[pB 4,pB 5,pB 6,pB 7,(24,vc (aB v7))],[(4,[aM X9.row a0.Points,aM X3.row a0.Segments]),(5,(dm a1.row)),(6,(dm a2.row)),(7,(dm a3.row))],[]⟩ (.code Jp:: [.blk 0,.code EN]) (Ag [8] [.sc (.v (.int .i64 zr))])
def mN:=fun(a0:X6) (a1:Xg) (a2:X1) (a3:X1) (k_:V→Q U)=>∀{v3} {zr},k_ v3=N zr→Kp I [4,5,6,7,9] [4,5,6,7] [] ⟨[pB 4,pB 5,pB 6,pB 7,(9,vc (aB v3))],[(4,[aM X9.row a0.Points,aM X3.row a0.Segments]),(5,(dm a1.row)),(6,(dm a2.row)),(7,(dm a3.row))],[]⟩ (.code Lz:: [.blk 0,.code EN]) (Ag [8] [.sc (.v (.int .i64 zr))])
theorem ky{a2 a3}:mQ a2 a3 (Mq a2 a3):=by
 intro v22 r h σ hσ;unfold Mq at h;obtain⟨h23,h⟩|⟨h23,h⟩:=ic h
 ·try simp only[hσ,h23,E6,C,E,F,G,H,J]
  cases h;exact t0
 ·obtain⟨h24,h⟩|⟨h24,h⟩:=ic h
  ·obtain⟨h25,h⟩|⟨h25,h⟩:=ic h
   ·try simp only[hσ,h23,h24,h25,E6,C,E,F,G,H,J]
    cases h;exact t0
   ·obtain⟨h26,h⟩|⟨h26,h⟩:=ic h
    ·obtain⟨h28,h⟩|⟨h28,h⟩:=ic h
     ·try simp only[hσ,h23,h24,h25,h26,h28,E6,C,E,F,G,H,J]
      cases h;exact t0
     ·try simp only[hσ,h23,h24,h25,h26,h28,E6,EN,C,E,F,G,H,J]
      cases h;exact t0
    ·try simp only[hσ,h23,h24,h25,h26,E6,EN,C,E,F,G,H,J]
     cases h;exact t0
  ·obtain⟨h27,h⟩|⟨h27,h⟩:=ic h
   ·obtain⟨h29,h⟩|⟨h29,h⟩:=ic h
    ·try simp only[hσ,h23,h24,h27,h29,E6,C,E,F,G,H,J]
     cases h;exact t0
    ·try simp only[hσ,h23,h24,h27,h29,E6,EN,C,E,F,G,H,J]
     cases h;exact t0
   ·try simp only[hσ,h23,h24,h27,E6,EN,C,E,F,G,H,J]
    cases h;exact t0
theorem Tx{a1 a2 a3}:mP a1 a2 a3 (Hz a1 a2 a3):=by
 intro v15 v16 r h σ hσ;unfold Hz at h;obtain⟨h17,h⟩|⟨h17,h⟩:=ic h
 ·try simp only[hσ,h17,Ly,C,E,F,G,H,J]
  cases h;exact t0
 ·obtain⟨h18,h⟩|⟨h18,h⟩:=ic h
  ·obtain⟨r19,h19,h⟩:=ob h;try simp only[hσ,h17,h18,Ly,C,E,F,G,H,J]
   refine A4 (ji h19) ?_;obtain⟨h20,h⟩|⟨h20,h⟩:=ic h
   ·try simp only[h17,h18,h20,C,E,F,G,H,J]
    refine ky h ?_;try simp only[h17,h18,h20,C,E,F,G,H,J,pL,aM,zA]
   ·obtain⟨r21,h21,h⟩:=ob h;try simp only[h17,h18,h20,C,E,F,G,H,J]
    refine A4 (ji h21) ?_;try simp only[h17,h18,h20,C,E,F,G,H,J]
    refine ky h ?_;try simp only[h17,h18,h20,C,E,F,G,H,J,pL,aM,zA]
  ·try simp only[hσ,h17,h18,Ly,C,E,F,G,H,J]
   cases h;exact t0
theorem kz{a0 a1 a2 a3}:mO a0 a1 a2 a3 (Mp a0 a1 a2 a3):=by
 intro v7 r h σ hσ;unfold Mp at h;obtain⟨h8,h⟩|⟨h8,h⟩:=ic h
 ·try simp only[hσ,h8,Jp,C,E,F,G,H,J]
  cases h;exact t0
 ·obtain⟨h9,h⟩|⟨h9,h⟩:=ic h
  ·try simp only[hσ,h8,h9,Jp,C,E,F,G,H,J]
   cases h;exact t0
  ·obtain⟨h10,h⟩|⟨h10,h⟩:=ic h
   ·try simp only[hσ,h8,h9,h10,Jp,C,E,F,G,H,J]
    refine Tx h ?_;try simp only[h8,h9,h10,C,E,F,G,H,J,pL,aM,zA]
   ·obtain⟨r11,h11,h⟩:=ob h;try simp only[hσ,h8,h9,h10,Jp,C,E,F,G,H,J]
    refine A4 (jY h11) ?_;obtain⟨h12,h⟩|⟨h12,h⟩:=ic h
    ·obtain⟨h13,h⟩|⟨h13,h⟩:=ic h
     ·try simp only[h8,h9,h10,h12,h13,C,E,F,G,H,J]
      refine Tx h ?_;try simp only[h8,h9,h10,h12,h13,C,E,F,G,H,J,pL,aM,zA]
     ·obtain⟨x14,h14,h⟩:=ob h;try simp only[h8,h9,h10,h12,h13,h14,C,E,F,G,H,J]
      refine Tx h ?_;try simp only[h8,h9,h10,h12,h13,h14,C,E,F,G,H,J,pL,aM,zA]
    ·try simp only[h8,h9,h10,h12,C,E,F,G,H,J]
     refine Tx h ?_;try simp only[h8,h9,h10,h12,C,E,F,G,H,J,pL,aM,zA]
theorem lA{a0 a1 a2 a3}:mN a0 a1 a2 a3 (Mo a0 a1 a2 a3):=by
 intro v3 r h σ hσ;unfold Mo at h;obtain⟨h4,h⟩|⟨h4,h⟩:=ic h
 ·try simp only[hσ,h4,Lz,C,E,F,G,H,J]
  cases h;exact t0
 ·obtain⟨h5,h⟩|⟨h5,h⟩:=ic h
  ·obtain⟨r6,h6,h⟩:=ob h;try simp only[hσ,h4,h5,Lz,C,E,F,G,H,J]
   refine A4 (jY h6) ?_;try simp only[h4,h5,C,E,F,G,H,J]
   refine kz h ?_;try simp only[h4,h5,C,E,F,G,H,J,pL,aM,zA]
  ·try simp only[hσ,h4,h5,Lz,C,E,F,G,H,J]
   refine kz h ?_;try simp only[h4,h5,C,E,F,G,H,J,pL,aM,zA]
theorem A9v{a0}{a1}{a2}{a3}{r}(h:Mn a0 a1 a2 a3=N r):FC I 138 [.ag (X6.row a0),.ag (Xg.row a1),.ag (X1.row a2),.ag (X1.row a3)] [.sc (.v (.int .i64 r))]:=by
 unfold Mn at h;refine A9 mixed cX [8] 116 ?_;simp only[cX,C,E,F,G,H,J];try simp only[C,E,F,G,H,J]
 refine A8 ?_;try simp only[C,E,F,G,H,J]
 refine A8 ?_;try simp only[C,E,F,G,H,J]
 refine A8 ?_;try simp only[C,E,F,G,H,J]
 refine A8 ?_;obtain⟨h1,h⟩|⟨h1,h⟩:=ic h
 ·try simp only[h1,C,E,F,G,H,J]
  refine lA h ?_;try simp only[h1,C,E,F,G,H,J,pL,aM,zA]
 ·obtain⟨r2,h2,h⟩:=ob h;try simp only[h1,C,E,F,G,H,J]
  refine A4 (Cv h2) ?_;try simp only[h1,C,E,F,G,H,J]
  refine lA h ?_;try simp only[h1,C,E,F,G,H,J,pL,aM,zA]
/- 102:impl_clashes -/
def QN:X0:=A1 [Ae [3,4,5,10,13,14,15,19,20,21] [4,5,10] []] (A1 [bn 22 .lss 21 20] (Av 22 2 3 (A1 [ia 23 19 21 5,lw 24 23 5,Al 12 [aI 0,aI 0,aB L,aI 0,aI 0],so 12 24 5] (A1 [lw 25 4 2,lw 26 5 2,lw 27 10 5,lw 28 12 5,ca 29 138 [S 25,S 26,S 27,S 28],Ac 30 .neq 29 0] (Aq 30 (A2 [A3 8 T])))) (Au 31 21)))
def Vk:X0:=(Au 32 15)
def LA:X0:=A1 [Ae [3,4,5,13,14,15] [4,5] []] (A1 [bn 16 .lss 15 14] (Av 16 0 1 (A1 [ia 17 13 15 5,lw 18 17 5,Al 10 [aI 0,aI 0,aB L,aI 0,aI 0],so 10 18 5] (A1 [mv 19 3,ln 20 19,A6 21 0] (Ah 2 QN))) Vk))
def QO:X0:=(A2 [A3 8 L])
def cZ:X0:=(A1 [bo 4 0,bo 5 1,A3 8 L] (A5 (A1 [mv 13 2,ln 14 13,A6 15 0] (Ah 0 LA)) QO))
def mM:=fun a3 a2 v1 (a0:X6) (a1:Xg) (x3:X1) (k_:U→Q V)=>∀{v4} {zr},k_ v4=N zr→Kp I [3,4,5,10,13,14,15,19,20,21] [4,5,10] [] ⟨[pL 3 X1.row a3,pB 4,pB 5,pB 10,pL 13 X1.row a2,pI 14 (a2.length:U),pI 15 v1,pL 19 X1.row a3,pI 20 (a3.length:U),pI 21 v4],[(4,[aM X9.row a0.Points,aM X3.row a0.Segments]),(5,(dm a1.row)),(10,(dm x3.row))],[]⟩ (.code (.loop QN):: [.blk 2,.blk 1,.code Vk,.code (.loop LA),.blk 0,.code QO]) (Ag [8] [.sc (.v (.bool zr))])
def Yr:=fun a3 a2 (a0:X6) (a1:Xg) (k_:U→Q V)=>∀{v1} {zr},k_ v1=N zr→Kp I [3,4,5,13,14,15] [4,5] [] ⟨[pL 3 X1.row a3,pB 4,pB 5,pL 13 X1.row a2,pI 14 (a2.length:U),pI 15 v1],[(4,[aM X9.row a0.Points,aM X3.row a0.Segments]),(5,(dm a1.row))],[]⟩ (.code (.loop LA):: [.blk 0,.code QO]) (Ag [8] [.sc (.v (.bool zr))])
theorem B6t{a3 a2 v1 a0 a1 x3}{Oc}(xT:Yr a3 a2 a0 a1 Oc){n:W}:mM a3 a2 v1 a0 a1 x3 (Hy a3 a2 v1 a0 a1 x3 Oc n):=by
 induction n with
 | zero=>intro _ r h; cases h
 | succ n ih=>
  intro v4 r h σ hσ;rw[Hy] at h;refine Ai ?_;obtain⟨h5,h⟩|⟨h5,h⟩:=ic h
  ·obtain⟨x6,h6,h⟩:=ob h;try simp only[hσ,h5,h6,QN,C,E,F,G,H,J]
   refine Am ?_;obtain⟨r7,h7,h⟩:=ob h;try simp only[h5,h6,C,E,F,G,H,J]
   refine A4 (A9v h7) ?_;obtain⟨h8,h⟩|⟨h8,h⟩:=ic h
   ·try simp only[h5,h6,h8,C,E,F,G,H,J]
    cases h;exact t0
   ·try simp only[h5,h6,h8,C,E,F,G,H,J]
    refine ih h ?_;try simp only[h5,h6,h8,C,E,F,G,H,J,pL,aM,zA]
  ·try simp only[hσ,h5,QN,Vk,C,E,F,G,H,J]
   refine xT h ?_;try simp only[h5,C,E,F,G,H,J,pL,aM,zA]
theorem B6u{a3 a2 a0 a1}{n:W}:Yr a3 a2 a0 a1 (EW a3 a2 a0 a1 n):=by
 induction n with
 | zero=>intro _ r h; cases h
 | succ n ih=>
  intro v1 r h σ hσ;rw[EW] at h;refine Ai ?_;obtain⟨h2,h⟩|⟨h2,h⟩:=ic h
  ·obtain⟨x3,h3,h⟩:=ob h;try simp only[hσ,h2,h3,LA,C,E,F,G,H,J]
   refine Am ?_;try simp only[h2,h3,C,E,F,G,H,J]
   refine B6t ih h ?_;try simp only[h2,h3,C,E,F,G,H,J,pL,aM,zA]
  ·try simp only[hσ,h2,LA,QO,C,E,F,G,H,J]
   cases h;exact t0
theorem A9u{a0}{a1}{a2}{a3}{r}(h:Mm a0 a1 a2 a3=N r):FC I 102 [.ag (X6.row a0),.ag (Xg.row a1),.sc (.sl (Z X1.row a2)),.sc (.sl (Z X1.row a3))] [.sc (.v (.bool r))]:=by
 unfold Mm at h;refine A9 mixed cZ [8] 33 ?_;simp only[cZ,C,E,F,G,H,J];try simp only[C,E,F,G,H,J]
 refine A8 ?_;try simp only[C,E,F,G,H,J]
 refine A8 ?_;try simp only[C,E,F,G,H,J]
 refine B6u h ?_;try simp only[C,E,F,G,H,J,pL,aM,zA]
/- 104:impl_clone_Option -/
def cb:X0:=(A1 [Ay 2] (A2 [mv 3 0,ln 4 3,(O,.mksl 5 4 48 [.int .i64 0,.int .i64 0,.int .i64 0,.sl []] (K 0) (S 4)),mv 6 0,Be 7 4 48 5 6,mv 2 7]))
theorem je{a0}{r}(h:Eb a0=N r):FC I 104 [.sc (.sl (Z X2.row a0))] [.sc (.o 4 (Z X2.row r))]:=by
 unfold Eb at h;refine A9 mixed cb [2] 8 ?_;simp only[cb,C,E,F,G,H,J];obtain⟨n1,hn1,h⟩:=ob h;try simp only[C,E,F,G,H,J]
 refine Dd (es:=Z X2.row (zH n1 (⟨(0:U),(0:U),(0:U),([]:P X1)⟩:X2))) Y Y hn1 Y (Dl Y) Y ?_;obtain⟨h2,h⟩:=AT h;try simp only[h2,C,E,F,G,H,J]
 cases h;exact t0
/- 182:impl_Passage_ends -/
def cd:X0:=(A1 [bo 2 0,bo 3 1,A6 4 0,A6 5 0] (A1 [fa 7 3 1,ld 8 7,fa 9 2 1,ld 10 9,ia 11 8 10 5,lw 12 11 5,Al 6 [aI 0,aI 0,aI 0,aI 0,aB L],so 6 12 5] (Aa [fa 13 2 2,ld 14 13] 14 (A5 (.drw [o0 (fa 15 6 0),o0 (ld 16 15),o0 (fa 17 6 1),o0 (ld 18 17),o0 (mv 4 16),o0 (mv 5 18)]) .ret) (A5 (.drw [o0 (fa 19 6 1),o0 (ld 20 19),o0 (fa 21 6 0),o0 (ld 22 21),o0 (mv 4 20),o0 (mv 5 22)]) .ret))))
theorem jZ{a0}{a1}{r}(h:JI a0 a1=N r):FC I 182 [.ag (X1.row a0),.ag (X6.row a1)] [.sc (.v (.int .i64 r.1)),.sc (.v (.int .i64 r.2))]:=by
 unfold JI at h;refine A9 mixed cd [4,5] 23 ?_;simp only[cd,C,E,F,G,H,J];try simp only[C,E,F,G,H,J]
 refine A8 ?_;try simp only[C,E,F,G,H,J]
 refine A8 ?_;obtain⟨x1,h1,h⟩:=ob h;try simp only[h1,C,E,F,G,H,J]
 refine Am ?_;obtain⟨h2,h⟩|⟨h2,h⟩:=ic h
 ·try simp only[h1,h2,C,E,F,G,H,J]
  refine An ?_;try simp only[h1,h2,C,E,F,G,H,J]
  cases h;trivial
 ·try simp only[h1,h2,C,E,F,G,H,J]
  refine An ?_;try simp only[h1,h2,C,E,F,G,H,J]
  cases h;trivial
/- 139:impl_duty -/
def ce:X0:=(A1 [bo 3 0,bo 4 1,bo 5 2,Al 6 [aI 0,aI 0,aI 0,aI 0]] (A1 [lw 12 4 5,lw 13 3 2,ca 14 182 [S 12,S 13],mv 11 14,xt 15 11 0,xt 16 11 1,mv 7 15,mv 8 16] (A1 [lw 18 5 5,lw 19 3 2,ca 20 182 [S 18,S 19],mv 17 20,xt 21 17 0,xt 22 17 1,mv 9 21,mv 10 22] (A2 [fa 23 4 3,ld 24 23,fa 25 5 4,ld 26 25,mv 27 7,mv 28 10,BH 29 [aI 0,aI 0,aI 0,aI 0] [(0,1,(S 24)),(1,1,(S 26)),(2,1,(S 27)),(3,1,(S 28))],so 6 29 4]))))
theorem jg{a0}{a1}{a2}{r}(h:JN a0 a1 a2=N r):FC I 139 [.ag (X6.row a0),.ag (X1.row a1),.ag (X1.row a2)] [.ag [.v (.int .i64 r.From),.v (.int .i64 r.To),.v (.int .i64 r.A),.v (.int .i64 r.B)]]:=by
 unfold JN at h;refine A9 mixed ce [.c 6 T 4] 30 ?_;simp only[ce,C,E,F,G,H,J];try simp only[C,E,F,G,H,J]
 refine A8 ?_;try simp only[C,E,F,G,H,J]
 refine A8 ?_;try simp only[C,E,F,G,H,J]
 refine A8 ?_;try simp only[C,E,F,G,H,J]
 refine Am ?_;obtain⟨r1,h1,h⟩:=ob h;try simp only[C,E,F,G,H,J]
 refine A4 (jZ h1) ?_;obtain⟨r2,h2,h⟩:=ob h;try simp only[C,E,F,G,H,J]
 refine A4 (jZ h2) ?_;try simp only[C,E,F,G,H,J]
 cases h;try simp only[Bh,C,E,F,G,H,J]
 trivial
/- 208:impl_passageOk -/
def cf:X0:=(A1 [bo 3 0,bo 5 2,A3 6 L] (Aa [fa 7 5 0,ld 8 7,mv 9 1,ln 10 9,ca 11 131 [S 8,S 10],nt 12 11,mv 13 12,Ab 13 L 14 5 1,Ad 13 L 15 14,Ab 13 L 16 3 1,Ad 13 L 17 16,B1 13 L 18 17,Ak 13 L 19 131 [S 15,S 18],AN 13 L 20 19,po 21 13 20,mv 22 21,Ab 22 L 23 5 3,Ad 22 L 24 23,Ak 22 L 25 132 [S 24],AN 22 L 26 25,po 27 22 26,mv 28 27,Ab 28 L 29 5 4,Ad 28 L 30 29,AP 28 L 31 .gtr 30 2880,po 32 28 31] 32 (A2 [A3 6 L]) (A5 (.drw [(N [48],fa 33 5 4),(N [48],ld 34 33),(N [48],fa 35 5 3),(N [48],ld 36 35),o0 (mv 37 1),o0 (fa 38 5 0),o0 (ld 39 38),o0 (ia 40 37 39 6),o0 (lw 41 40 6),o0 (fa 42 3 1),o0 (ld 43 42),o0 (fa 44 5 1),o0 (ld 45 44),o0 (ia 46 43 45 5),o0 (lw 47 46 5),o0 (ca 48 203 [S 41,S 47]),o0 (bn 49 .add 36 48),o0 (bn 50 .eql 34 49),o0 (mv 6 50)]) .ret)))
theorem A95{a0}{a1}{a2}{r}(h:Mw a0 a1 a2=N r):FC I 208 [.ag (X6.row a0),.sc (.sl (Z X5.row a1)),.ag (X1.row a2)] [.sc (.v (.bool r))]:=by
 unfold Mw at h;refine A9 mixed cf [6] 51 ?_;simp only[cf,C,E,F,G,H,J];try simp only[C,E,F,G,H,J]
 refine A8 ?_;try simp only[C,E,F,G,H,J]
 refine A8 ?_;obtain⟨r1,h1,h⟩:=ob h;try simp only[C,E,F,G,H,J]
 refine A4 (Cv h1) ?_;obtain⟨h2,h⟩|⟨h2,h⟩:=ic h
 ·obtain⟨r3,h3,h⟩:=ob h;try simp only[h2,C,E,F,G,H,J]
  refine A4 (Cv h3) ?_;obtain⟨h4,h⟩|⟨h4,h⟩:=ic h
  ·obtain⟨r5,h5,h⟩:=ob h;try simp only[h2,h4,C,E,F,G,H,J]
   refine A4 (FD h5) ?_;obtain⟨h6,h⟩|⟨h6,h⟩:=ic h
   ·obtain⟨h7,h⟩|⟨h7,h⟩:=ic h
    ·try simp only[h2,h4,h6,h7,C,E,F,G,H,J]
     cases h;exact t0
    ·try simp only[h2,h4,h6,h7,C,E,F,G,H,J]
     refine An ?_;obtain⟨x8,h8,h⟩:=ob h;obtain⟨x9,h9,h⟩:=ob h;obtain⟨r10,h10,h⟩:=ob h;try simp only[h2,h4,h6,h7,h8,h9,C,E,F,G,H,J]
     refine AF (OR h10) ?_;try simp only[h2,h4,h6,h7,h8,h9,C,E,F,G,H,J]
     cases h;exact t0
   ·try simp only[h2,h4,h6,C,E,F,G,H,J]
    cases h;exact t0
  ·try simp only[h2,h4,C,E,F,G,H,J]
   cases h;exact t0
 ·try simp only[h2,C,E,F,G,H,J]
  cases h;exact t0
/- 183:impl_PassageOk -/
def cg:X0:=(A1 [bo 3 0,bo 5 2,A3 6 L] (A2 [lw 7 3 2,ca 8 127 [S 7],mv 9 8,Af 9 T 10 1,Ak 9 T 11 128 [S 10],pa 12 9 11,mv 13 12,AQ 13 T 14 3 2,Af 13 T 15 1,AQ 13 T 16 5 5,Ak 13 T 17 208 [S 14,S 15,S 16],pa 18 13 17,mv 6 18]))
theorem A9c{a0}{a1}{a2}{r}(h:Ma a0 a1 a2=N r):FC I 183 [.ag (X6.row a0),.sc (.sl (Z X5.row a1)),.ag (X1.row a2)] [.sc (.v (.bool r))]:=by
 unfold Ma at h;refine A9 mixed cg [6] 19 ?_;simp only[cg,C,E,F,G,H,J];try simp only[C,E,F,G,H,J]
 refine A8 ?_;try simp only[C,E,F,G,H,J]
 refine A8 ?_;obtain⟨r1,h1,h⟩:=ob h;try simp only[C,E,F,G,H,J]
 refine A4 (Ja h1) ?_;obtain⟨h2,h⟩|⟨h2,h⟩:=ic h
 ·obtain⟨r3,h3,h⟩:=ob h;try simp only[h2,C,E,F,G,H,J]
  refine A4 (jV h3) ?_;obtain⟨h4,h⟩|⟨h4,h⟩:=ic h
  ·obtain⟨r5,h5,h⟩:=ob h;try simp only[h2,h4,C,E,F,G,H,J]
   refine A4 (A95 h5) ?_;try simp only[h2,h4,C,E,F,G,H,J]
   cases h;exact t0
  ·try simp only[h2,h4,C,E,F,G,H,J]
   cases h;exact t0
 ·try simp only[h2,C,E,F,G,H,J]
  cases h;exact t0
/- 140:impl_tugDuties -/
def LB:X0:=A1 [Ae [1,3,8,10,12,13,14,28,29] [3,10] [704]] (A1 [bn 30 .lss 29 28] (Av 30 2 3 (.reg [mv 31 8,lw 32 3 2,lw 33 10 5,lw 34 10 5,ca 35 139 [S 32,S 33,S 34],AD 36 4 [.int .i64 0,.int .i64 0,.int .i64 0,.int .i64 0] 1 [(0,(S 35))],Be 37 4 32 31 36,mv 8 37]) (Au 38 29)))
def QP:X0:=(A1 [mv 39 8,ln 40 39,Ac 41 .gtr 40 12] (Aq 41 (A2 [Ay 6,A3 7 L])))
def Vl:X0:=(Au 42 14)
def LC:X0:=A1 [Ae [1,3,8,12,13,14] [3] [704]] (A1 [bn 15 .lss 14 13] (Av 15 0 1 (A1 [ia 16 12 14 5,lw 17 16 5,Al 10 [aI 0,aI 0,aB L,aI 0,aI 0],so 10 17 5] (Aa [lw 18 3 2,mv 19 1,lw 20 10 5,ca 21 183 [S 18,S 19,S 20],nt 22 21] 22 (A2 [Ay 6,A3 7 L]) (A5 (A1 [mv 23 1,fa 24 10 0,ld 25 24,ia 26 23 25 6,fa 27 26 4,ld 28 27,A6 29 0] (Ah 2 LB)) QP))) Vl))
def QQ:X0:=(A2 [mv 43 8,mv 6 43,A3 7 T])
def ch:X0:=(A1 [bo 3 0,Ay 6,A3 7 L] (A1 [AD 11 4 [.int .i64 0,.int .i64 0,.int .i64 0,.int .i64 0] 0 [],mv 8 11] (A5 (A1 [mv 12 2,ln 13 12,A6 14 0] (Ah 0 LC)) QQ)))
def ma:=fun a1 a2 v1 (x7:X5) (a0:X6) (x4:X1) (k_:U→(P X8)→Q ((P X8) × V))=>∀{v8 v9} {zr},k_ v8 v9=N zr→Kp I [1,3,8,10,12,13,14,28,29] [3,10] [704] ⟨[pL 1 X5.row a1,pB 3,pW 8 704,pB 10,pL 12 X1.row a2,pI 13 (a2.length:U),pI 14 v1,pI 28 x7.Tugs,pI 29 v8],[(3,[aM X9.row a0.Points,aM X3.row a0.Segments]),(10,(dm x4.row))],[(704,4,Z X8.row v9)]⟩ (.code (.loop LB):: [.blk 2,.code QP,.blk 1,.code Vl,.code (.loop LC),.blk 0,.code QQ]) (Ag [6,7] [.sc (.o 4 (Z X8.row zr.1)),.sc (.v (.bool zr.2))])
def Yv:=fun a1 a2 (a0:X6) (k_:U→(P X8)→Q ((P X8) × V))=>∀{v1 v2} {zr},k_ v1 v2=N zr→Kp I [1,3,8,12,13,14] [3] [704] ⟨[pL 1 X5.row a1,pB 3,pW 8 704,pL 12 X1.row a2,pI 13 (a2.length:U),pI 14 v1],[(3,[aM X9.row a0.Points,aM X3.row a0.Segments])],[(704,4,Z X8.row v2)]⟩ (.code (.loop LC):: [.blk 0,.code QQ]) (Ag [6,7] [.sc (.o 4 (Z X8.row zr.1)),.sc (.v (.bool zr.2))])
theorem B6w{a1 a2 v1 x7 a0 x4}{Oe}(xW:Yv a1 a2 a0 Oe){n:W}:ma a1 a2 v1 x7 a0 x4 (FX a1 a2 v1 x7 a0 x4 Oe n):=by
 induction n with
 | zero=>intro _ _ r h; cases h
 | succ n ih=>
  intro v8 v9 r h σ hσ;rw[FX] at h;refine Ai ?_;obtain⟨h10,h⟩|⟨h10,h⟩:=ic h
  ·obtain⟨r11,h11,h⟩:=ob h;try simp only[hσ,h10,LB,C,E,F,G,H,J]
   refine A4 (jg h11) ?_;try simp only[h10,C,E,F,G,H,J]
   refine Ax (es:=Z X8.row ([r11]:P X8)) ?_;obtain⟨h12,h⟩:=AT h;try simp only[h10,h12,C,E,F,G,H,J]
   refine ih h ?_;try simp only[h10,h12,C,E,F,G,H,J,pL,aM,zA]
  ·obtain⟨h13,h⟩|⟨h13,h⟩:=ic h
   ·try simp only[hσ,h10,h13,LB,QP,C,E,F,G,H,J]
    cases h;trivial
   ·try simp only[hσ,h10,h13,LB,QP,Vl,C,E,F,G,H,J]
    refine xW h ?_;try simp only[h10,h13,C,E,F,G,H,J,pL,aM,zA]
theorem B6x{a1 a2 a0}{n:W}:Yv a1 a2 a0 (EZ a1 a2 a0 n):=by
 induction n with
 | zero=>intro _ _ r h; cases h
 | succ n ih=>
  intro v1 v2 r h σ hσ;rw[EZ] at h;refine Ai ?_;obtain⟨h3,h⟩|⟨h3,h⟩:=ic h
  ·obtain⟨x4,h4,h⟩:=ob h;try simp only[hσ,h3,h4,LC,C,E,F,G,H,J]
   refine Am ?_;obtain⟨r5,h5,h⟩:=ob h;try simp only[h3,h4,C,E,F,G,H,J]
   refine A4 (A9c h5) ?_;obtain⟨h6,h⟩|⟨h6,h⟩:=ic h
   ·obtain⟨x7,h7,h⟩:=ob h;try simp only[h3,h4,h6,h7,C,E,F,G,H,J]
    refine B6w ih h ?_;try simp only[h3,h4,h6,h7,C,E,F,G,H,J,pL,aM,zA]
   ·try simp only[h3,h4,h6,C,E,F,G,H,J]
    cases h;trivial
  ·try simp only[hσ,h3,LC,QQ,C,E,F,G,H,J]
   cases h;trivial
theorem A96{a0}{a1}{a2}{r}(h:Mx a0 a1 a2=N r):FC I 140 [.ag (X6.row a0),.sc (.sl (Z X5.row a1)),.sc (.sl (Z X1.row a2))] [.sc (.o 4 (Z X8.row r.1)),.sc (.v (.bool r.2))]:=by
 unfold Mx at h;refine A9 mixed ch [6,7] 44 ?_;simp only[ch,C,E,F,G,H,J];try simp only[C,E,F,G,H,J]
 refine A8 ?_;try simp only[C,E,F,G,H,J]
 refine Ax (es:=Z X8.row ([]:P X8)) ?_;try simp only[C,E,F,G,H,J]
 refine B6x h ?_;try simp only[C,E,F,G,H,J,pL,aM,zA]
/- 231:impl_DutiesOk -/
def QR:X0:=A1 [Ae [8,9,10] [] []] (A1 [bn 11 .lss 10 9] (Av 11 0 1 (A1 [ia 12 8 10 4,lw 13 12 4,Al 4 [aI 0,aI 0,aI 0,aI 0],so 4 13 4] (A1 [fa 14 4 0,ld 15 14,Ac 16 .lss 15 0,mv 17 16,Ab 17 L 18 4 0,Ad 17 L 19 18,Ab 17 L 20 4 1,Ad 17 L 21 20,AK 17 L 22 .geq 19 21,po 23 17 22,mv 24 23,Ab 24 L 25 4 1,Ad 24 L 26 25,AP 24 L 27 .gtr 26 2880,po 28 24 27,mv 29 28,Ab 29 L 30 4 2,Ad 29 L 31 30,Ak 29 L 32 131 [S 31,K 8],AN 29 L 33 32,po 34 29 33,mv 35 34,Ab 35 L 36 4 3,Ad 35 L 37 36,Ak 35 L 38 131 [S 37,K 8],AN 35 L 39 38,po 40 35 39] (Aq 40 (A2 [A3 2 L])))) (Au 41 10)))
def Vm:X0:=(A2 [A3 2 T])
def ck:X0:=(A1 [A3 2 L] (Aa [mv 5 0,ln 6 5,Ac 7 .gtr 6 12] 7 (A2 [A3 2 L]) (A5 (A1 [mv 8 0,ln 9 8,A6 10 0] (Ah 0 QR)) Vm)))
def lj:=fun a0 (k_:U→Q V)=>∀{v2} {zr},k_ v2=N zr→Kp I [8,9,10] [] [] ⟨[pL 8 X8.row a0,pI 9 (a0.length:U),pI 10 v2],[],[]⟩ (.code (.loop QR):: [.blk 0,.code Vm]) (Ag [2] [.sc (.v (.bool zr))])
theorem B6y{a0}{n:W}:lj a0 (Hd a0 n):=by
 induction n with
 | zero=>intro _ r h; cases h
 | succ n ih=>
  intro v2 r h σ hσ;rw[Hd] at h;refine Ai ?_;obtain⟨h3,h⟩|⟨h3,h⟩:=ic h
  ·obtain⟨x4,h4,h⟩:=ob h;try simp only[hσ,h3,h4,QR,C,E,F,G,H,J]
   refine Am ?_;obtain⟨h5,h⟩|⟨h5,h⟩:=ic h
   ·try simp only[h3,h4,h5,C,E,F,G,H,J]
    cases h;exact t0
   ·obtain⟨h6,h⟩|⟨h6,h⟩:=ic h
    ·try simp only[h3,h4,h5,h6,C,E,F,G,H,J]
     cases h;exact t0
    ·obtain⟨h7,h⟩|⟨h7,h⟩:=ic h
     ·try simp only[h3,h4,h5,h6,h7,C,E,F,G,H,J]
      cases h;exact t0
     ·obtain⟨r9,h9,h⟩:=ob h;try simp only[h3,h4,h5,h6,h7,C,E,F,G,H,J]
      refine A4 (Cv h9) ?_;obtain⟨h10,h⟩|⟨h10,h⟩:=ic h
      ·obtain⟨r11,h11,h⟩:=ob h;try simp only[h3,h4,h5,h6,h7,h10,C,E,F,G,H,J]
       refine A4 (Cv h11) ?_;obtain⟨h12,h⟩|⟨h12,h⟩:=ic h
       ·try simp only[h3,h4,h5,h6,h7,h10,h12,C,E,F,G,H,J]
        refine ih h ?_;try simp only[h3,h4,h5,h6,h7,h10,h12,C,E,F,G,H,J,pL,aM,zA]
       ·try simp only[h3,h4,h5,h6,h7,h10,h12,C,E,F,G,H,J]
        cases h;exact t0
      ·try simp only[h3,h4,h5,h6,h7,h10,C,E,F,G,H,J]
       cases h;exact t0
  ·try simp only[hσ,h3,QR,Vm,C,E,F,G,H,J]
   cases h;exact t0
theorem XW{a0}{r}(h:Hc a0=N r):FC I 231 [.sc (.sl (Z X8.row a0))] [.sc (.v (.bool r))]:=by
 unfold Hc at h;refine A9 mixed ck [2] 42 ?_;simp only[ck,C,E,F,G,H,J];obtain⟨h1,h⟩|⟨h1,h⟩:=ic h
 ·try simp only[h1,C,E,F,G,H,J]
  cases h;exact t0
 ·try simp only[h1,C,E,F,G,H,J]
  refine B6y h ?_;try simp only[h1,C,E,F,G,H,J,pL,aM,zA]
/- 209:impl_coverable -/
def cl:X0:=(A1 [A3 6 L] (A2 [mv 7 2,ca 8 231 [S 7],mv 9 8,Af 9 T 10 0,Ak 9 T 11 132 [S 10],pa 12 9 11,mv 13 12,Af 13 T 14 1,Ak 13 T 15 174 [S 14],pa 16 13 15,mv 6 16]))
theorem A9w{a0}{a1}{a2}{r}(h:RY a0 a1 a2=N r):FC I 209 [.sc (.int .i64 a0),.sc (.sl (Z rI a1)),.sc (.sl (Z X8.row a2))] [.sc (.v (.bool r))]:=by
 unfold RY at h;refine A9 mixed cl [6] 17 ?_;simp only[cl,C,E,F,G,H,J];obtain⟨r1,h1,h⟩:=ob h;try simp only[C,E,F,G,H,J]
 refine A4 (XW h1) ?_;obtain⟨h2,h⟩|⟨h2,h⟩:=ic h
 ·obtain⟨r3,h3,h⟩:=ob h;try simp only[h2,C,E,F,G,H,J]
  refine A4 (FD h3) ?_;obtain⟨h4,h⟩|⟨h4,h⟩:=ic h
  ·obtain⟨r5,h5,h⟩:=ob h;try simp only[h2,h4,C,E,F,G,H,J]
   refine A4 (XY h5) ?_;try simp only[h2,h4,C,E,F,G,H,J]
   cases h;exact t0
  ·try simp only[h2,h4,C,E,F,G,H,J]
   cases h;exact t0
 ·try simp only[h2,C,E,F,G,H,J]
  cases h;exact t0
/- 247:impl_Gap -/
def QS:X0:=A1 [Ae [0,1,6,7,29] [6,7] []] (Aq 29 (A2 [A6 8 0,A3 9 L]))
def Vn:X0:=(A2 [mv 30 0,mv 31 1,fa 32 6 3,ld 33 32,(O,.bin 34 .mul (K 8) (S 33)),fa 35 7 2,ld 36 35,bn 37 .add 34 36,ia 38 31 37 1,ld 39 38,bn 40 .add 30 39,mv 8 40,A3 9 T])
def cm:X0:=(A1 [bo 6 2,bo 7 3,A6 8 0,A3 9 L] (A5 (A1 [mv 10 0,ca 11 132 [S 10],nt 12 11,mv 13 12,Af 13 L 14 1,Ak 13 L 15 174 [S 14],AN 13 L 16 15,po 17 13 16,mv 18 17,Ab 18 L 19 6 3,Ad 18 L 20 19,Ak 18 L 21 131 [S 20,K 8],AN 18 L 22 21,po 23 18 22,mv 24 23,Ab 24 L 25 7 2,Ad 24 L 26 25,Ak 24 L 27 131 [S 26,K 8],AN 24 L 28 27,po 29 24 28] QS) Vn))
def lq:=fun a0 a1 (a2:X8) (a3:X8) (k_:V→Q (U × V))=>∀{v8} {zr},k_ v8=N zr→Kp I [0,1,6,7,29] [6,7] [] ⟨[pI 0 a0,pL 1 rI a1,pB 6,pB 7,(29,vc (aB v8))],[(6,(dm a2.row)),(7,(dm a3.row))],[]⟩ (.code QS:: [.code Vn]) (Ag [8,9] [.sc (.v (.int .i64 zr.1)),.sc (.v (.bool zr.2))])
theorem Ty{a0 a1 a2 a3}:lq a0 a1 a2 a3 (Hf a0 a1 a2 a3):=by
 intro v8 r h σ hσ;unfold Hf at h;obtain⟨h9,h⟩|⟨h9,h⟩:=ic h
 ·try simp only[hσ,h9,QS,C,E,F,G,H,J]
  cases h;trivial
 ·obtain⟨x10,h10,h⟩:=ob h;try simp only[hσ,h9,h10,QS,Vn,C,E,F,G,H,J]
  cases h;trivial
theorem A80{a0}{a1}{a2}{a3}{r}(h:RN a0 a1 a2 a3=N r):FC I 247 [.sc (.int .i64 a0),.sc (.sl (Z rI a1)),.ag (X8.row a2),.ag (X8.row a3)] [.sc (.v (.int .i64 r.1)),.sc (.v (.bool r.2))]:=by
 unfold RN at h;refine A9 mixed cm [8,9] 41 ?_;simp only[cm,C,E,F,G,H,J];try simp only[C,E,F,G,H,J]
 refine A8 ?_;try simp only[C,E,F,G,H,J]
 refine A8 ?_;obtain⟨r1,h1,h⟩:=ob h;try simp only[C,E,F,G,H,J]
 refine A4 (FD h1) ?_;obtain⟨h2,h⟩|⟨h2,h⟩:=ic h
 ·obtain⟨r3,h3,h⟩:=ob h;try simp only[h2,C,E,F,G,H,J]
  refine A4 (XY h3) ?_;obtain⟨h4,h⟩|⟨h4,h⟩:=ic h
  ·obtain⟨r5,h5,h⟩:=ob h;try simp only[h2,h4,C,E,F,G,H,J]
   refine A4 (Cv h5) ?_;obtain⟨h6,h⟩|⟨h6,h⟩:=ic h
   ·obtain⟨r7,h7,h⟩:=ob h;try simp only[h2,h4,h6,C,E,F,G,H,J]
    refine A4 (Cv h7) ?_;try simp only[h2,h4,h6,C,E,F,G,H,J]
    refine Ty h ?_;try simp only[h2,h4,h6,C,E,F,G,H,J,pL,aM,zA]
   ·try simp only[h2,h4,h6,C,E,F,G,H,J]
    refine Ty h ?_;try simp only[h2,h4,h6,C,E,F,G,H,J,pL,aM,zA]
  ·try simp only[h2,h4,C,E,F,G,H,J]
   refine Ty h ?_;try simp only[h2,h4,C,E,F,G,H,J,pL,aM,zA]
 ·try simp only[h2,C,E,F,G,H,J]
  refine Ty h ?_;try simp only[h2,C,E,F,G,H,J,pL,aM,zA]
/- 232:impl_CanFollow -/
def cn:X0:=(A1 [bo 6 2,bo 7 3,A3 8 L] (A1 [mv 12 0,mv 13 1,lw 14 6 4,lw 15 7 4,ca 16 247 [S 12,S 13,S 14,S 15],mv 11 16,xt 17 11 0,xt 18 11 1,mv 9 17,mv 10 18] (A2 [mv 19 10,mv 20 19,AQ 20 T 21 6 4,(N (20,T),.bslice 22 4 [.int .i64 0,.int .i64 0,.int .i64 0,.int .i64 0] 1 [(0,(S 21))]),Ak 20 T 23 231 [S 22],pa 24 20 23,mv 25 24,AQ 25 T 26 7 4,(N (25,T),.bslice 27 4 [.int .i64 0,.int .i64 0,.int .i64 0,.int .i64 0] 1 [(0,(S 26))]),Ak 25 T 28 231 [S 27],pa 29 25 28,mv 30 29,Ab 30 T 31 6 1,Ad 30 T 32 31,Af 30 T 33 9,AK 30 T 34 .add 32 33,Ab 30 T 35 7 0,Ad 30 T 36 35,AK 30 T 37 .leq 34 36,pa 38 30 37,mv 8 38])))
theorem jT{a0}{a1}{a2}{a3}{r}(h:JB a0 a1 a2 a3=N r):FC I 232 [.sc (.int .i64 a0),.sc (.sl (Z rI a1)),.ag (X8.row a2),.ag (X8.row a3)] [.sc (.v (.bool r))]:=by
 unfold JB at h;refine A9 mixed cn [8] 39 ?_;simp only[cn,C,E,F,G,H,J];try simp only[C,E,F,G,H,J]
 refine A8 ?_;try simp only[C,E,F,G,H,J]
 refine A8 ?_;obtain⟨r1,h1,h⟩:=ob h;try simp only[C,E,F,G,H,J]
 refine A4 (A80 h1) ?_;obtain⟨h2,h⟩|⟨h2,h⟩:=ic h
 ·try simp only[h2,C,E,F,G,H,J]
  refine Ax (es:=Z X8.row ([a2]:P X8)) ?_;obtain⟨r3,h3,h⟩:=ob h;try simp only[h2,C,E,F,G,H,J]
  refine B7 (XW h3) Y (BD Y) Y (uf Y) ?_;obtain⟨h4,h⟩|⟨h4,h⟩:=ic h
  ·try simp only[h2,h4,C,E,F,G,H,J]
   refine Ax (es:=Z X8.row ([a3]:P X8)) ?_;obtain⟨r5,h5,h⟩:=ob h;try simp only[h2,h4,C,E,F,G,H,J]
   refine B7 (XW h5) Y (BD Y) Y (uf Y) ?_;obtain⟨h6,h⟩|⟨h6,h⟩:=ic h
   ·try simp only[h2,h4,h6,C,E,F,G,H,J]
    cases h;exact t0
   ·try simp only[h2,h4,h6,C,E,F,G,H,J]
    cases h;exact t0
  ·try simp only[h2,h4,C,E,F,G,H,J]
   cases h;exact t0
 ·try simp only[h2,C,E,F,G,H,J]
  cases h;exact t0
/- 210:impl_partners -/
def QU:X0:=A1 [Ae [0,1,2,7,8,9,10,15,16,17,22,23,24,45] [9] [896]] (Aq 45 (.drw [o0 (mv 46 7),o0 (mv 47 8),o0 (ia 48 46 47 1),o0 (ld 49 48),o0 (mv 50 10),o0 (O,.bin 51 .shl (.c (.v (.sc (.dat (.int .u64 1))))) (S 50)),o0 (bn 52 .or 49 51),o0 (ia 53 46 47 1),(O,so 53 52 1)]))
def QV:X0:=(Au 54 24)
def LD:X0:=A1 [Ae [0,1,2,7,8,9,15,16,17,22,23,24] [9] [896]] (A1 [bn 25 .lss 24 23] (Av 25 2 3 (A1 [mv 26 24,ia 27 22 24 4,lw 28 27 4,Al 11 [aI 0,aI 0,aI 0,aI 0],mv 10 26,so 11 28 4] (A1 [mv 29 8,mv 30 10,bn 31 .neq 29 30,mv 32 31,Af 32 T 33 0,Af 32 T 34 1,AQ 32 T 35 9 4,AQ 32 T 36 11 4,Ak 32 T 37 232 [S 33,S 34,S 35,S 36],Af 32 T 38 37,Af 38 L 39 0,Af 38 L 40 1,AQ 38 L 41 11 4,AQ 38 L 42 9 4,Ak 38 L 43 232 [S 39,S 40,S 41,S 42],(N (32,T),.pick 44 (S 38) (KB T) (S 43)),pa 45 32 44] QU)) QV))
def QW:X0:=(Au 55 17)
def Jq:X0:=A1 [Ae [0,1,2,7,15,16,17] [] [896]] (A1 [bn 18 .lss 17 16] (Av 18 0 1 (A1 [mv 19 17,ia 20 15 17 4,lw 21 20 4,Al 9 [aI 0,aI 0,aI 0,aI 0],mv 8 19,so 9 21 4] (A1 [mv 22 2,ln 23 22,A6 24 0] (Ah 2 LD))) QW))
def LF:X0:=(A2 [mv 56 7,mv 6 56])
def co:X0:=(A1 [Ay 6] (A1 [mv 12 2,ln 13 12,(O,.mksl 14 1 8 [.int .u64 0] (S 13) (S 13)),mv 7 14] (A5 (A1 [mv 15 2,ln 16 15,A6 17 0] (Ah 0 Jq)) LF)))
def mZ:=fun a0 a1 a2 v2 v6 (x5:X8) v7 (k_:V→Q (P U))=>∀{v14} {zr},k_ v14=N zr→Kp I [0,1,2,7,8,9,10,15,16,17,22,23,24,45] [9] [896] ⟨[pI 0 a0,pL 1 rI a1,pL 2 X8.row a2,pW 7 896,pI 8 v2,pB 9,pI 10 v6,pL 15 X8.row a2,pI 16 (a2.length:U),pI 17 v2,pL 22 X8.row a2,pI 23 (a2.length:U),pI 24 v6,(45,vc (aB v14))],[(9,(dm x5.row))],[(896,1,Z rU v7)]⟩ (.code QU:: [.blk 3,.code QV,.code (.loop LD),.blk 2,.blk 1,.code QW,.code (.loop Jq),.blk 0,.code LF]) (Ag [6] [.sc (.o 1 (Z rU zr))])
def Yu:=fun a0 a1 a2 v2 (x5:X8) (k_:U→(P U)→Q (P U))=>∀{v6 v7} {zr},k_ v6 v7=N zr→Kp I [0,1,2,7,8,9,15,16,17,22,23,24] [9] [896] ⟨[pI 0 a0,pL 1 rI a1,pL 2 X8.row a2,pW 7 896,pI 8 v2,pB 9,pL 15 X8.row a2,pI 16 (a2.length:U),pI 17 v2,pL 22 X8.row a2,pI 23 (a2.length:U),pI 24 v6],[(9,(dm x5.row))],[(896,1,Z rU v7)]⟩ (.code (.loop LD):: [.blk 2,.blk 1,.code QW,.code (.loop Jq),.blk 0,.code LF]) (Ag [6] [.sc (.o 1 (Z rU zr))])
def Yt:=fun a0 a1 a2 (k_:U→(P U)→Q (P U))=>∀{v2 v3} {zr},k_ v2 v3=N zr→Kp I [0,1,2,7,15,16,17] [] [896] ⟨[pI 0 a0,pL 1 rI a1,pL 2 X8.row a2,pW 7 896,pL 15 X8.row a2,pI 16 (a2.length:U),pI 17 v2],[],[(896,1,Z rU v3)]⟩ (.code (.loop Jq):: [.blk 0,.code LF]) (Ag [6] [.sc (.o 1 (Z rU zr))])
theorem Yf{a0 a1 a2 v2 v6 x5 v7}{Od}(fI:Yu a0 a1 a2 v2 x5 Od):mZ a0 a1 a2 v2 v6 x5 v7 (HD a0 a1 a2 v2 v6 x5 v7 Od):=by
 intro v14 r h σ hσ;unfold HD at h;obtain⟨h15,h⟩|⟨h15,h⟩:=ic h
 ·try simp only[hσ,h15,QU,C,E,F,G,H,J]
  refine An ?_;obtain⟨x16,h16,h⟩:=ob h;have h16n:=AH h16;obtain⟨h17,h⟩:=Dj h;try simp only[h15,h16,h16n,h17,C,E,F,G,H,J]
  refine AZ (row:=rU) (y:=(Bq .or .u64 x16 (Bw .u64 (1:U) v6))) Y Y h16n Y Y (by rfl) ?_;try simp only[h15,h16,h16n,h17,C,E,F,G,H,J]
  refine An ?_;try simp only[h15,h16,h16n,h17,QV,C,E,F,G,H,J]
  refine fI h ?_;try simp only[h15,h16,h16n,h17,C,E,F,G,H,J,pL,aM,zA]
 ·try simp only[hσ,h15,QU,QV,C,E,F,G,H,J]
  refine fI h ?_;try simp only[h15,C,E,F,G,H,J,pL,aM,zA]
theorem B6z{a0 a1 a2 v2 x5}{IQ}(xV:Yt a0 a1 a2 IQ){n:W}:Yu a0 a1 a2 v2 x5 (DO a0 a1 a2 v2 x5 IQ n):=by
 induction n with
 | zero=>intro _ _ r h; cases h
 | succ n ih=>
  intro v6 v7 r h σ hσ;rw[DO] at h;refine Ai ?_;obtain⟨h8,h⟩|⟨h8,h⟩:=ic h
  ·obtain⟨x9,h9,h⟩:=ob h;try simp only[hσ,h8,h9,LD,C,E,F,G,H,J]
   refine Am ?_;obtain⟨h10,h⟩|⟨h10,h⟩:=ic h
   ·obtain⟨r11,h11,h⟩:=ob h;try simp only[h8,h9,h10,C,E,F,G,H,J]
    refine A4 (jT h11) ?_;obtain⟨h12,h⟩|⟨h12,h⟩:=ic h
    ·try simp only[h8,h9,h10,h12,C,E,F,G,H,J]
     refine Yf ih h ?_;try simp only[h8,h9,h10,h12,C,E,F,G,H,J,pL,aM,zA]
    ·obtain⟨r13,h13,h⟩:=ob h;try simp only[h8,h9,h10,h12,C,E,F,G,H,J]
     refine A4 (jT h13) ?_;try simp only[h8,h9,h10,h12,C,E,F,G,H,J]
     refine Yf ih h ?_;try simp only[h8,h9,h10,h12,C,E,F,G,H,J,pL,aM,zA]
   ·try simp only[h8,h9,h10,C,E,F,G,H,J]
    refine Yf ih h ?_;try simp only[h8,h9,h10,C,E,F,G,H,J,pL,aM,zA]
  ·try simp only[hσ,h8,LD,QW,C,E,F,G,H,J]
   refine xV h ?_;try simp only[h8,C,E,F,G,H,J,pL,aM,zA]
theorem B60{a0 a1 a2}{n:W}:Yt a0 a1 a2 (EY a0 a1 a2 n):=by
 induction n with
 | zero=>intro _ _ r h; cases h
 | succ n ih=>
  intro v2 v3 r h σ hσ;rw[EY] at h;refine Ai ?_;obtain⟨h4,h⟩|⟨h4,h⟩:=ic h
  ·obtain⟨x5,h5,h⟩:=ob h;try simp only[hσ,h4,h5,Jq,C,E,F,G,H,J]
   refine Am ?_;try simp only[h4,h5,C,E,F,G,H,J]
   refine B6z ih h ?_;try simp only[h4,h5,C,E,F,G,H,J,pL,aM,zA]
  ·try simp only[hσ,h4,Jq,LF,C,E,F,G,H,J]
   cases h;exact t0
theorem A94{a0}{a1}{a2}{r}(h:Mv a0 a1 a2=N r):FC I 210 [.sc (.int .i64 a0),.sc (.sl (Z rI a1)),.sc (.sl (Z X8.row a2))] [.sc (.o 1 (Z rU r))]:=by
 unfold Mv at h;refine A9 mixed co [6] 57 ?_;simp only[co,C,E,F,G,H,J];obtain⟨n1,hn1,h⟩:=ob h;try simp only[C,E,F,G,H,J]
 refine Dd (es:=Z rU (zH n1 (0:U))) Y Y hn1 Y (Dl Y) Y ?_;try simp only[C,E,F,G,H,J]
 refine B60 h ?_;try simp only[C,E,F,G,H,J,pL,aM,zA]
/- 249:math_bits_Len64 -/
def Vp:X0:=A1 [Ae [0,2] [] []] (A2 [mv 19 2,mv 20 0,(O,.conv 21 .u8 (S 20)),(O,.idx 22 (KS [0,1,2,2,3,3,3,3,4,4,4,4,4,4,4,4,5,5,5,5,5,5,5,5,5,5,5,5,5,5,5,5,6,6,6,6,6,6,6,6,6,6,6,6,6,6,6,6,6,6,6,6,6,6,6,6,6,6,6,6,6,6,6,6,7,7,7,7,7,7,7,7,7,7,7,7,7,7,7,7,7,7,7,7,7,7,7,7,7,7,7,7,7,7,7,7,7,7,7,7,7,7,7,7,7,7,7,7,7,7,7,7,7,7,7,7,7,7,7,7,7,7,7,7,7,7,7,7,8,8,8,8,8,8,8,8,8,8,8,8,8,8,8,8,8,8,8,8,8,8,8,8,8,8,8,8,8,8,8,8,8,8,8,8,8,8,8,8,8,8,8,8,8,8,8,8,8,8,8,8,8,8,8,8,8,8,8,8,8,8,8,8,8,8,8,8,8,8,8,8,8,8,8,8,8,8,8,8,8,8,8,8,8,8,8,8,8,8,8,8,8,8,8,8,8,8,8,8,8,8,8,8,8,8,8,8,8,8,8,8,8,8,8,8,8,8,8,8,8,8,8,8,8,8,8,8]) (S 21)),(O,.conv 23 .i64 (S 22)),bn 24 .add 19 23,mv 2 24])
def QX:X0:=A1 [Ae [0,2] [] []] (Aa [mv 13 0,(O,.bin 14 .geq (S 13) (.c (.v (.sc (.dat (.int .u64 256))))))] 14 (A1 [mv 15 0,(O,.bin 16 .shr (S 15) (.c (.v (.sc (.dat (.int .u64 8)))))),mv 0 16] (.reg [mv 17 2,Ac 18 .add 17 8,mv 2 18])) Vp)
def QY:X0:=A1 [Ae [0,2] [] []] (Aa [mv 7 0,(O,.bin 8 .geq (S 7) (.c (.v (.sc (.dat (.int .u64 65536))))))] 8 (A1 [mv 9 0,(O,.bin 10 .shr (S 9) (.c (.v (.sc (.dat (.int .u64 16)))))),mv 0 10] (.reg [mv 11 2,Ac 12 .add 11 16,mv 2 12])) QX)
def cp:X0:=(A1 [A6 2 0] (Aa [mv 3 0,(O,.bin 4 .geq (S 3) (.c (.v (.sc (.dat (.int .u64 4294967296))))))] 4 (A1 [mv 5 0,(O,.bin 6 .shr (S 5) (.c (.v (.sc (.dat (.int .u64 32)))))),mv 0 6] (.reg [A6 2 32])) QY))
def nb:=fun(k_:U→U→Q U)=>∀{v8 v9} {zr},k_ v8 v9=N zr→Kp I [0,2] [] [] ⟨[(0,vc (.dat (.int .u64 v8))),pI 2 v9],[],[]⟩ (.code Vp:: []) (Ag [2] [.sc (.v (.int .i64 zr))])
def na:=fun(k_:U→U→Q U)=>∀{v5 v6} {zr},k_ v5 v6=N zr→Kp I [0,2] [] [] ⟨[(0,vc (.dat (.int .u64 v5))),pI 2 v6],[],[]⟩ (.code QX:: []) (Ag [2] [.sc (.v (.int .i64 zr))])
def nZ:=fun(k_:U→U→Q U)=>∀{v2 v3} {zr},k_ v2 v3=N zr→Kp I [0,2] [] [] ⟨[(0,vc (.dat (.int .u64 v2))),pI 2 v3],[],[]⟩ (.code QY:: []) (Ag [2] [.sc (.v (.int .i64 zr))])
theorem lB:nb K6:=by
 intro v8 v9 r h σ hσ;unfold K6 at h;obtain⟨b10,h10,h⟩:=ob h;try simp only[hσ,h10,Vp,C,E,F,G,H,J]
 cases h;exact t0
theorem lC:na Nm:=by
 intro v5 v6 r h σ hσ;unfold Nm at h;obtain⟨h7,h⟩|⟨h7,h⟩:=ic h
 ·try simp only[hσ,h7,QX,C,E,F,G,H,J]
  refine lB h ?_;try simp only[h7,C,E,F,G,H,J,pL,aM,zA]
 ·try simp only[hσ,h7,QX,C,E,F,G,H,J]
  refine lB h ?_;try simp only[h7,C,E,F,G,H,J,pL,aM,zA]
theorem lD:nZ Nl:=by
 intro v2 v3 r h σ hσ;unfold Nl at h;obtain⟨h4,h⟩|⟨h4,h⟩:=ic h
 ·try simp only[hσ,h4,QY,C,E,F,G,H,J]
  refine lC h ?_;try simp only[h4,C,E,F,G,H,J,pL,aM,zA]
 ·try simp only[hσ,h4,QY,C,E,F,G,H,J]
  refine lC h ?_;try simp only[h4,C,E,F,G,H,J,pL,aM,zA]
theorem B2g{a0}{r}(h:Sk a0=N r):FC I 249 [.sc (.int .u64 a0)] [.sc (.v (.int .i64 r))]:=by
 unfold Sk at h;refine A9 mixed cp [2] 25 ?_;simp only[cp,C,E,F,G,H,J];obtain⟨h1,h⟩|⟨h1,h⟩:=ic h
 ·try simp only[h1,C,E,F,G,H,J]
  refine lD h ?_;try simp only[h1,C,E,F,G,H,J,pL,aM,zA]
 ·try simp only[h1,C,E,F,G,H,J]
  refine lD h ?_;try simp only[h1,C,E,F,G,H,J,pL,aM,zA]
/- 233:math_bits_Len -/
def cq:X0:=(A1 [A6 2 0] (A5 (.cond (KB L) (A2 [mv 3 0,(O,.conv 4 .u32 (S 3)),ca 5 248 [S 4],mv 2 5]) .skip) (A2 [mv 6 0,ca 7 249 [S 6],mv 2 7])))
theorem B2f{a0}{r}(h:K5 a0=N r):FC I 233 [.sc (.int .u64 a0)] [.sc (.v (.int .i64 r))]:=by
 unfold K5 at h;refine A9 mixed cq [2] 8 ?_;simp only[cq,C,E,F,G,H,J];obtain⟨r1,h1,h⟩:=ob h;try simp only[C,E,F,G,H,J]
 refine A4 (B2g h1) ?_;try simp only[C,E,F,G,H,J]
 cases h;exact t0
/- 211:impl_leastPersons -/
def QZ:X0:=A1 [Ae [0,3,4,5,6,7,8,9] [] [896,1024]] (A1 [mv 81 9,Ac 82 .eql 81 0] (Aq 82 (.exit 2)))
def Vq:X0:=(.reg [mv 55 9,Ac 56 .sub 55 1,mv 57 8,bn 58 .and 56 57,mv 9 58])
def LG:X0:=A1 [Ae [0,3,4,5,6,7,8,9] [] [896,1024]] (A5 (.block 3 (Aa [mv 59 4,mv 60 9,mv 61 7,(O,.bin 62 .shl (K 1) (S 61)),bn 63 .or 60 62,ia 64 59 63 1,ld 65 64] 65 (.drw [o0 (mv 66 5),o0 (mv 67 6),o0 (mv 68 5),o0 (mv 69 6),o0 (ia 70 68 69 1),o0 (ld 71 70),o0 (mv 72 5),o0 (mv 73 8),o0 (mv 74 9),o0 (bn 75 .andNot 73 74),o0 (ia 76 72 75 1),o0 (ld 77 76),o0 (O,.bin 78 .add (K 1) (S 77)),o0 (O,.mm 79 L (S 71) (S 78)),o0 (ia 80 66 67 1),(O,so 80 79 1)]) QZ)) Vq)
def Vr:X0:=A1 [Ae [0,3,4,5,6,7,8] [] [896,1024]] (A1 [mv 49 5,mv 50 6,mv 51 0,ln 52 51,ia 53 49 50 1,so 53 52 1] (A1 [mv 54 8,mv 9 54] (Ah 2 LG)))
def LH:X0:=(.reg [mv 22 6,Ac 23 .add 22 1,mv 6 23])
def H1:X0:=A1 [Ae [0,3,4,5,6] [] [896,1024]] (A5 (A1 [mv 19 6,mv 20 3,bn 21 .lss 19 20] (AL 21 .skip (.exit 0))) (A5 (.block 1 (A1 [mv 24 6,(O,.conv 25 .u64 (S 24)),ca 26 233 [S 25],Ac 27 .sub 26 1,mv 7 27] (A1 [mv 28 6,mv 29 7,(O,.bin 30 .shl (K 1) (S 29)),bn 31 .andNot 28 30,mv 8 31] (A1 [mv 32 4,mv 33 6,mv 34 4,mv 35 8,ia 36 34 35 1,ld 37 36,mv 38 37,Af 38 T 39 8,(N (38,T),.conv 40 .u64 (S 39)),Af 38 T 41 0,Af 38 T 42 7,CC 38 T 43 41 42 1,Ad 38 T 44 43,AK 38 T 45 .andNot 40 44,(N (38,T),.bin 46 .eql (S 45) (.c (.v (.sc (.dat (.int .u64 0)))))),pa 47 38 46,ia 48 32 33 1,so 48 47 1] Vr)))) LH))
def Jr:X0:=(A2 [mv 83 5,mv 84 3,Ac 85 .sub 84 1,ia 86 83 85 1,ld 87 86,mv 2 87])
def ct:X0:=(A1 [A6 2 0] (A1 [mv 10 0,ln 11 10,(O,.bin 12 .shl (K 1) (S 11)),mv 3 12] (A1 [mv 13 3,(O,.mksl 14 1 1 [.bool L] (S 13) (S 13)),mv 4 14] (A1 [mv 15 3,(O,.mksl 16 1 8 [.int .i64 0] (S 15) (S 15)),mv 5 16] (A1 [mv 17 4,(O,.iaddr 18 (S 17) (K 0) 1),(O,.store (S 18) (KB T) 1)] (A5 (A1 [A6 6 1] (Ah 0 H1)) Jr))))))
def mW:=fun a0 y5 v6 v17 v18 v21 v19 (k_:(P U)→Q U)=>∀{v28} {zr},k_ v28=N zr→Kp I [0,3,4,5,6,7,8,9] [] [896,1024] ⟨[pL 0 rU a0,pI 3 y5,pW 4 896,pW 5 1024,pI 6 v6,pI 7 v17,pI 8 v18,pI 9 v21],[],[(896,1,Z rB v19),(1024,1,Z rI v28)]⟩ (.code QZ:: [.blk 3,.code Vq,.code (.loop LG),.blk 2,.blk 1,.code LH,.code (.loop H1),.blk 0,.code Jr]) (Ag [2] [.sc (.v (.int .i64 zr))])
def Ys:=fun a0 y5 v6 v17 v18 v19 (k_:U→(P U)→Q U)=>∀{v21 v22} {zr},k_ v21 v22=N zr→Kp I [0,3,4,5,6,7,8,9] [] [896,1024] ⟨[pL 0 rU a0,pI 3 y5,pW 4 896,pW 5 1024,pI 6 v6,pI 7 v17,pI 8 v18,pI 9 v21],[],[(896,1,Z rB v19),(1024,1,Z rI v22)]⟩ (.code (.loop LG):: [.blk 2,.blk 1,.code LH,.code (.loop H1),.blk 0,.code Jr]) (Ag [2] [.sc (.v (.int .i64 zr))])
def mV:=fun a0 y5 v6 v8 (k_:U→U→(P V)→Q U)=>∀{v17 v18 v19} {zr},k_ v17 v18 v19=N zr→Kp I [0,3,4,5,6,7,8] [] [896,1024] ⟨[pL 0 rU a0,pI 3 y5,pW 4 896,pW 5 1024,pI 6 v6,pI 7 v17,pI 8 v18],[],[(896,1,Z rB v19),(1024,1,Z rI v8)]⟩ (.code Vr:: [.blk 1,.code LH,.code (.loop H1),.blk 0,.code Jr]) (Ag [2] [.sc (.v (.int .i64 zr))])
def P2:=fun a0 y5 (k_:U→(P V)→(P U)→Q U)=>∀{v6 v7 v8} {zr},k_ v6 v7 v8=N zr→Kp I [0,3,4,5,6] [] [896,1024] ⟨[pL 0 rU a0,pI 3 y5,pW 4 896,pW 5 1024,pI 6 v6],[],[(896,1,Z rB v7),(1024,1,Z rI v8)]⟩ (.code (.loop H1):: [.blk 0,.code Jr]) (Ag [2] [.sc (.v (.int .i64 zr))])
theorem lE{a0 y5 v6 v17 v18 v21 v19}{CD}(Ky:P2 a0 y5 CD){SW}(xU:Ys a0 y5 v6 v17 v18 v19 SW):mW a0 y5 v6 v17 v18 v21 v19 (JQ a0 y5 v6 v17 v18 v21 v19 CD SW):=by
 intro v28 r h σ hσ;unfold JQ at h;obtain⟨h29,h⟩|⟨h29,h⟩:=ic h
 ·try simp only[hσ,h29,QZ,LH,C,E,F,G,H,J]
  refine Ky h ?_;try simp only[h29,C,E,F,G,H,J,pL,aM,zA]
 ·try simp only[hσ,h29,QZ,Vq,C,E,F,G,H,J]
  refine xU h ?_;try simp only[h29,C,E,F,G,H,J,pL,aM,zA]
theorem B61{a0 y5 v6 v17 v18 v19}{CD}(Ky:P2 a0 y5 CD){n:W}:Ys a0 y5 v6 v17 v18 v19 (FT a0 y5 v6 v17 v18 v19 CD n):=by
 induction n with
 | zero=>intro _ _ r h; cases h
 | succ n ih=>
  intro v21 v22 r h σ hσ;rw[FT] at h;refine Ai ?_;obtain⟨h23,h⟩:=Dj h;obtain⟨x24,h24,h⟩:=ob h;have h24n:=AH h24;obtain⟨h25,h⟩|⟨h25,h⟩:=ic h
  ·try simp only[hσ,h23,h24,h24n,h25,LG,C,E,F,G,H,J]
   refine An ?_;obtain⟨x26,h26,h⟩:=ob h;have h26n:=AH h26;obtain⟨x27,h27,h⟩:=ob h;have h27n:=AH h27;try simp only[h23,h24,h24n,h25,h26,h26n,h27,h27n,C,E,F,G,H,J]
   refine AZ (row:=rI) (y:=(if(zJ .i64 ((1:U)+x27))<x26 then(zJ .i64 ((1:U)+x27)) else x26)) Y Y h26n Y Y (by rfl) ?_;try simp only[h23,h24,h24n,h25,h26,h26n,h27,h27n,C,E,F,G,H,J]
   refine An ?_;try simp only[h23,h24,h24n,h25,h26,h26n,h27,h27n,C,E,F,G,H,J]
   refine lE Ky ih h ?_;try simp only[h23,h24,h24n,h25,h26,h26n,h27,h27n,C,E,F,G,H,J,pL,aM,zA]
  ·try simp only[hσ,h23,h24,h24n,h25,LG,C,E,F,G,H,J]
   refine lE Ky ih h ?_;try simp only[h23,h24,h24n,h25,C,E,F,G,H,J,pL,aM,zA]
theorem lF{a0 y5 v6 v8}{CD}(Ky:P2 a0 y5 CD):mV a0 y5 v6 v8 (JP a0 y5 v6 v8 CD):=by
 intro v17 v18 v19 r h σ hσ;unfold JP at h;obtain⟨x20,h20,h⟩:=ob h;have h20n:=AH h20;try simp only[hσ,h20,Vr,C,E,F,G,H,J]
 refine AZ (row:=rI) (y:=(a0.length:U)) Y Y h20n Y Y (by rfl) ?_;try simp only[h20,C,E,F,G,H,J]
 refine B61 Ky h ?_;try simp only[h20,C,E,F,G,H,J,pL,aM,zA]
theorem B63{a0 y5}{n:W}:P2 a0 y5 (Ed a0 y5 n):=by
 induction n with
 | zero=>intro _ _ _ r h; cases h
 | succ n ih=>
  intro v6 v7 v8 r h σ hσ;rw[Ed] at h;refine Ai ?_;obtain⟨h9,h⟩|⟨h9,h⟩:=ic h
  ·obtain⟨r10,h10,h⟩:=ob h;try simp only[hσ,h9,H1,C,E,F,G,H,J]
   refine A4 (B2f h10) ?_;obtain⟨h11,h⟩:=Dj h;obtain⟨x12,h12,h⟩:=ob h;have h12n:=AH h12;obtain⟨h13,h⟩|⟨h13,h⟩:=ic h
   ·obtain⟨x14,h14,h⟩:=ob h;obtain⟨x15,h15,h⟩:=ob h;have h15n:=AH h15;try simp only[h9,h11,h12,h12n,h13,h14,h15,C,E,F,G,H,J]
    refine AZ (row:=rB) (y:=((Bq .andNot .u64 (IntKind.u64.wrap (Bq .andNot .i64 v6 (Bw .i64 (1:U) (zJ .i64 (r10 - (1:U)))))) x14)==(0:U))) Y Y h15n Y Y (by rfl) ?_;try simp only[h9,h11,h12,h12n,h13,h14,h15,C,E,F,G,H,J]
    refine lF ih h ?_;try simp only[h9,h11,h12,h12n,h13,h14,h15,C,E,F,G,H,J,pL,aM,zA]
   ·obtain⟨x16,h16,h⟩:=ob h;have h16n:=AH h16;try simp only[h9,h11,h12,h12n,h13,h16,C,E,F,G,H,J]
    refine AZ (row:=rB) (y:=false) Y Y h16n Y Y (by rfl) ?_;try simp only[h9,h11,h12,h12n,h13,h16,C,E,F,G,H,J]
    refine lF ih h ?_;try simp only[h9,h11,h12,h12n,h13,h16,C,E,F,G,H,J,pL,aM,zA]
  ·obtain⟨x30,h30,h⟩:=ob h;have h30n:=AH h30;try simp only[hσ,h9,h30,h30n,H1,Jr,C,E,F,G,H,J]
   cases h;exact t0
theorem A92{a0}{r}(h:Mu a0=N r):FC I 211 [.sc (.sl (Z rU a0))] [.sc (.v (.int .i64 r))]:=by
 unfold Mu at h;refine A9 mixed ct [2] 88 ?_;simp only[ct,C,E,F,G,H,J];obtain⟨h1,h⟩:=Dj h;obtain⟨n2,hn2,h⟩:=ob h;try simp only[h1,C,E,F,G,H,J]
 refine Dd (es:=Z rB (zH n2 L)) Y Y hn2 Y (Dl Y) Y ?_;obtain⟨n3,hn3,h⟩:=ob h;try simp only[h1,C,E,F,G,H,J]
 refine Dd (es:=Z rI (zH n3 (0:U))) Y Y hn3 Y (Dl Y) Y ?_;obtain⟨x4,h4,h⟩:=ob h;have h4n:=AH h4;try simp only[h1,h4,C,E,F,G,H,J]
 refine AZ (row:=rB) (y:=true) Y Y h4n Y Y (by rfl) ?_;try simp only[h1,h4,C,E,F,G,H,J]
 refine B63 h ?_;try simp only[h1,h4,C,E,F,G,H,J,pL,aM,zA]
/- 212:impl_coverer_cover -/
def R4:X0:=A1 [Ae [0,3,4] [99999999999] [90000,90001]] (A1 [mv 109 0,(O,.nilc 110 (S 109)),fa 111 110 2,ld 112 111,mv 113 4,ia 114 112 113 1,ld 115 114,(O,.bin 116 .eql (S 115) (.c (.v (.sc (.dat (.int .u64 0))))))] (Aq 116 (A1 [mv 117 0,mv 118 0,(O,.nilc 119 (S 118)),fa 120 119 2,ld 121 120,mv 122 4,(O,.slc 123 1 (S 121) O (N (S 122)) O),(O,.cut 123),(O,.nilc 124 (S 117)),fa 125 124 2,so 125 123 1] (.exit 0))))
def Vs:X0:=A1 [Ae [0,3,4] [99999999999] [90000,90001]] (A5 (A5 (.drw [o0 (mv 50 0),o0 (O,.nilc 51 (S 50)),o0 (fa 52 51 2),o0 (ld 53 52),o0 (mv 54 4),o0 (ia 55 53 54 1),o0 (ld 56 55),o0 (mv 57 0),o0 (O,.nilc 58 (S 57)),o0 (fa 59 58 0),o0 (ld 60 59),o0 (mv 61 3),o0 (ia 62 60 61 1),o0 (ld 63 62),o0 (bn 64 .andNot 56 63),o0 (O,.bin 65 .eql (S 64) (.c (.v (.sc (.dat (.int .u64 0))))))]) (Aq 65 (A5 (.drw [o0 (mv 66 0),o0 (O,.nilc 67 (S 66)),o0 (fa 68 67 2),o0 (ld 69 68),o0 (mv 70 4),o0 (ia 71 69 70 1),o0 (ld 72 71),o0 (mv 73 3),o0 (O,.bin 74 .shl (.c (.v (.sc (.dat (.int .u64 1))))) (S 73)),o0 (bn 75 .or 72 74),o0 (ia 76 69 70 1),(O,so 76 75 1)]) (A1 [mv 77 0,mv 78 0,(O,.nilc 79 (S 78)),fa 80 79 3,ld 81 80,mv 82 4,AD 83 1 [.int .i64 0] 1 [(0,(S 82))],Be 84 1 8 81 83,(O,.nilc 85 (S 77)),fa 86 85 3,so 86 84 1] (Aa [mv 87 0,ca 88 212 [S 87]] 88 (A2 [A3 2 T]) (A1 [mv 89 0,mv 90 0,(O,.nilc 91 (S 90)),fa 92 91 3,ld 93 92,mv 94 3,(O,.slc 95 1 (S 93) O (N (S 94)) O),(O,.cut 95),(O,.nilc 96 (S 89)),fa 97 96 3,so 97 95 1] (.drw [o0 (mv 98 0),o0 (O,.nilc 99 (S 98)),o0 (fa 100 99 2),o0 (ld 101 100),o0 (mv 102 4),o0 (ia 103 101 102 1),o0 (ld 104 103),o0 (mv 105 3),o0 (O,.bin 106 .shl (.c (.v (.sc (.dat (.int .u64 1))))) (S 105)),o0 (bn 107 .andNot 104 106),o0 (ia 108 101 102 1),(O,so 108 107 1)]))))))) R4)
def R5:X0:=(.reg [mv 32 4,Ac 33 .add 32 1,mv 4 33])
def FI:X0:=A1 [Ae [0,3,4] [99999999999] [90000,90001]] (A5 (A1 [mv 17 4,mv 18 0,(O,.nilc 19 (S 18)),fa 20 19 2,ld 21 20,ln 22 21,bn 23 .leq 17 22,mv 24 23,Af 24 T 25 4,Af 24 T 26 0,(N (24,T),.nilc 27 (S 26)),Ab 24 T 28 27 1,Ad 24 T 29 28,AK 24 T 30 .lss 25 29,pa 31 24 30] (AL 31 .skip (.exit 0))) (A5 (.block 1 (Aa [mv 34 4,mv 35 0,(O,.nilc 36 (S 35)),fa 37 36 2,ld 38 37,ln 39 38,bn 40 .eql 34 39] 40 (.reg [mv 41 0,mv 42 0,(O,.nilc 43 (S 42)),fa 44 43 2,ld 45 44,AD 46 1 [.int .u64 0] 1 [(0,(.c (.v (.sc (.dat (.int .u64 0))))))],Be 47 1 8 45 46,(O,.nilc 48 (S 41)),fa 49 48 2,so 49 47 1]) Vs)) R5))
def H2:X0:=(A2 [A3 2 L])
def cc586:X0:=(A1 [A3 2 L] (A1 [mv 5 0,(O,.nilc 6 (S 5)),fa 7 6 3,ld 8 7,ln 9 8,mv 3 9] (Aa [mv 10 3,mv 11 0,(O,.nilc 12 (S 11)),fa 13 12 0,ld 14 13,ln 15 14,bn 16 .eql 10 15] 16 (A2 [A3 2 T]) (A5 (A1 [A6 4 0] (Ah 0 FI)) H2))))
def mS:=fun(a0:Xf) v2 (k_:(P U)→U→(P U)→(P U)→Q (V × Xf))=>∀{v22 v23 v24 v25} {zr},k_ v22 v23 v24 v25=N zr→Kp I [0,3,4] [99999999999] [90000,90001] ⟨[(0,vc (.pb 99999999999 0)),pI 3 (a0.who.length:U),pI 4 v2],[(99999999999,[aM rU v22,aI v23,.own 90000,.own 90001])],[(90000,1,Z rU v24),(90001,1,Z rI v25)]⟩ (.code R4:: [.blk 1,.code R5,.code (.loop FI),.blk 0,.code H2]) (L6 [2] [.sc (.v (.bool zr.1))] (CI zr.2) (CJ zr.2))
def mR:=fun(a0:Xf) v2 v3 v4 v6 (k_:(P U)→Q (V × Xf))=>∀{v11} {zr},k_ v11=N zr→Kp I [0,3,4] [99999999999] [90000,90001] ⟨[(0,vc (.pb 99999999999 0)),pI 3 (a0.who.length:U),pI 4 v2],[(99999999999,[aM rU v3,aI v4,.own 90000,.own 90001])],[(90000,1,Z rU v11),(90001,1,Z rI v6)]⟩ (.code Vs:: [.blk 1,.code R5,.code (.loop FI),.blk 0,.code H2]) (L6 [2] [.sc (.v (.bool zr.1))] (CI zr.2) (CJ zr.2))
def TA:=fun(a0:Xf) (k_:U→(P U)→U→(P U)→(P U)→Q (V × Xf))=>∀{v2 v3 v4 v5 v6} {zr},k_ v2 v3 v4 v5 v6=N zr→Kp I [0,3,4] [99999999999] [90000,90001] ⟨[(0,vc (.pb 99999999999 0)),pI 3 (a0.who.length:U),pI 4 v2],[(99999999999,[aM rU v3,aI v4,.own 90000,.own 90001])],[(90000,1,Z rU v5),(90001,1,Z rI v6)]⟩ (.code (.loop FI):: [.blk 0,.code H2]) (L6 [2] [.sc (.v (.bool zr.1))] (CI zr.2) (CJ zr.2))
theorem lG{rec_:Xf→Q (V × Xf)}(h_rec:∀(a0:Xf) zr,rec_ a0=N zr→FCz I 212 [.p] (CI a0) (CJ a0) (CI zr.2) (CJ zr.2) [.sc (.v (.bool zr.1))]){a0 v2}{Eo}(SI:TA a0 Eo):mS a0 v2 (HA rec_ a0 v2 Eo):=by
 intro v22 v23 v24 v25 r h σ hσ;unfold HA at h;obtain⟨x26,h26,h⟩:=ob h;have h26n:=AH h26;obtain⟨h27,h⟩|⟨h27,h⟩:=ic h
 ·obtain⟨p28,h28,h⟩:=ob h;try simp only[hσ,h26,h26n,h27,R4,C,E,F,G,H,J]
  refine fF Y Y h28 (by rfl) ?_;try simp only[h26,h26n,h27,H2,C,E,F,G,H,J]
  cases h;exact⟨⟨Y,⟨⟩⟩,[90000,90001],by decide,by decide,Y,Y⟩
 ·try simp only[hσ,h26,h26n,h27,R4,R5,C,E,F,G,H,J]
  refine SI h ?_;try simp only[h26,h26n,h27,C,E,F,G,H,J,pL,aM,zA]
theorem lH{rec_:Xf→Q (V × Xf)}(h_rec:∀(a0:Xf) zr,rec_ a0=N zr→FCz I 212 [.p] (CI a0) (CJ a0) (CI zr.2) (CJ zr.2) [.sc (.v (.bool zr.1))]){a0 v2 v3 v4 v6}{Eo}(SI:TA a0 Eo):mR a0 v2 v3 v4 v6 (JM rec_ a0 v2 v3 v4 v6 Eo):=by
 intro v11 r h σ hσ;unfold JM at h;try simp only[hσ,Vs,C,E,F,G,H,J]
 refine An ?_;obtain⟨x12,h12,h⟩:=ob h;have h12n:=AH h12;obtain⟨x13,h13,h⟩:=ob h;obtain⟨h14,h⟩|⟨h14,h⟩:=ic h
 ·try simp only[h12,h12n,h13,h14,C,E,F,G,H,J]
  refine An ?_;obtain⟨h15,h⟩:=Dj h;try simp only[h12,h12n,h13,h14,h15,C,E,F,G,H,J]
  refine AZ (row:=rU) (y:=(Bq .or .u64 x12 (Bw .u64 (1:U) (a0.who.length:U)))) Y Y h12n Y Y (by rfl) ?_;try simp only[h12,h12n,h13,h14,h15,C,E,F,G,H,J]
  refine An ?_;try simp only[h12,h12n,h13,h14,h15,C,E,F,G,H,J]
  refine Ax (es:=Z rI ([v2]:P U)) ?_;obtain⟨h16,h⟩:=AT h;obtain⟨r17,h17,h⟩:=ob h;try simp only[h12,h12n,h13,h14,h15,h16,C,E,F,G,H,J]
  refine fD (h_rec _ _ h17) 99999999999 [90000,90001] rfl Y Y Y (by decide) Y Y Y ?_;obtain⟨h18,h⟩|⟨h18,h⟩:=ic h
  ·try simp only[h12,h12n,h13,h14,h15,h16,h18,C,E,F,G,H,J]
   cases h;exact⟨⟨Y,⟨⟩⟩,[90000,90001],by decide,by decide,Y,Y⟩
  ·obtain⟨p19,h19,h⟩:=ob h;try simp only[h12,h12n,h13,h14,h15,h16,h18,C,E,F,G,H,J]
   refine fF Y Y h19 (by rfl) ?_;try simp only[h12,h12n,h13,h14,h15,h16,h18,C,E,F,G,H,J]
   refine An ?_;obtain⟨x20,h20,h⟩:=ob h;have h20n:=AH h20;obtain⟨h21,h⟩:=Dj h;try simp only[h12,h12n,h13,h14,h15,h16,h18,h20,h20n,h21,C,E,F,G,H,J]
   refine AZ (row:=rU) (y:=(Bq .andNot .u64 x20 (Bw .u64 (1:U) (a0.who.length:U)))) Y Y h20n Y Y (by rfl) ?_;try simp only[h12,h12n,h13,h14,h15,h16,h18,h20,h20n,h21,C,E,F,G,H,J]
   refine An ?_;try simp only[h12,h12n,h13,h14,h15,h16,h18,h20,h20n,h21,C,E,F,G,H,J]
   refine lG h_rec SI h ?_;try simp only[h12,h12n,h13,h14,h15,h16,h18,h20,h20n,h21,C,E,F,G,H,J,pL,aM,zA]
 ·try simp only[h12,h12n,h13,h14,C,E,F,G,H,J]
  refine lG h_rec SI h ?_;try simp only[h12,h12n,h13,h14,C,E,F,G,H,J,pL,aM,zA]
theorem B64{rec_:Xf→Q (V × Xf)}(h_rec:∀(a0:Xf) zr,rec_ a0=N zr→FCz I 212 [.p] (CI a0) (CJ a0) (CI zr.2) (CJ zr.2) [.sc (.v (.bool zr.1))]){a0}{n:W}:TA a0 (EX rec_ a0 n):=by
 induction n with
 | zero=>intro _ _ _ _ _ r h; cases h
 | succ n ih=>
  intro v2 v3 v4 v5 v6 r h σ hσ;rw[EX] at h;refine Ai ?_;obtain⟨h7,h⟩|⟨h7,h⟩:=ic h
  ·obtain⟨h8,h⟩|⟨h8,h⟩:=ic h
   ·obtain⟨h9,h⟩|⟨h9,h⟩:=ic h
    ·try simp only[hσ,h7,h8,h9,FI,C,E,F,G,H,J]
     refine Ax (es:=Z rU ([(0:U)]:P U)) ?_;obtain⟨h10,h⟩:=AT h;try simp only[h7,h8,h9,h10,C,E,F,G,H,J]
     refine lH h_rec ih h ?_;try simp only[h7,h8,h9,h10,C,E,F,G,H,J,pL,aM,zA]
    ·try simp only[hσ,h7,h8,h9,FI,C,E,F,G,H,J]
     refine lH h_rec ih h ?_;try simp only[h7,h8,h9,C,E,F,G,H,J,pL,aM,zA]
   ·try simp only[hσ,h7,h8,FI,H2,C,E,F,G,H,J]
    cases h;exact⟨⟨Y,⟨⟩⟩,[90000,90001],by decide,by decide,Y,Y⟩
  ·try simp only[hσ,h7,FI,H2,C,E,F,G,H,J]
   cases h;exact⟨⟨Y,⟨⟩⟩,[90000,90001],by decide,by decide,Y,Y⟩
theorem tS:Bd I 212=N (cc586.strip,[2],126):=by kernel_rfl
theorem A9y(rec_:Xf→Q (V × Xf))(a0:Xf)(r:V × Xf)(h_rec:∀(a0:Xf) zr,rec_ a0=N zr→FCz I 212 [.p] (CI a0) (CJ a0) (CI zr.2) (CJ zr.2) [.sc (.v (.bool zr.1))])(h:Mr rec_ a0=N r):FCz I 212 [.p] (CI a0) (CJ a0) (CI r.2) (CJ r.2) [.sc (.v (.bool r.1))]:=by
 unfold Mr at h;refine lZ (σ:=⟨[(0,vc (.pb 99999999999 0))],[(99999999999,[aL (Z rU a0.sets),aI a0.most,.own 90000,.own 90001])],[(90000,1,Z rU a0.groups),(90001,1,Z rI a0.who)]⟩) mixed tS Y Y Y Y ?_;simp only[cc586];obtain⟨h1,h⟩|⟨h1,h⟩:=ic h
 ·try simp only[h1,C,E,F,G,H,J]
  cases h;exact⟨⟨Y,⟨⟩⟩,[90000,90001],by decide,by decide,Y,Y⟩
 ·try simp only[h1,C,E,F,G,H,J]
  refine B64 h_rec h ?_;try simp only[h1,C,E,F,G,H,J,pL,aM,zA]
theorem A9z:∀(n:W) (a0:Xf) (r:V × Xf),DN n a0=N r→FCz I 212 [.p] (CI a0) (CJ a0) (CI r.2) (CJ r.2) [.sc (.v (.bool r.1))]:=by
 intro n
 induction n with
 | zero=>intro _ r h; cases h
 | succ n ih=>intro a0 r h; rw[DN] at h; exact A9y (DN n) a0 r ih h
theorem A9x{a0}{r}(h:Wg a0=N r):FCz I 212 [.p] (CI a0) (CJ a0) (CI r.2) (CJ r.2) [.sc (.v (.bool r.1))]:=A9z bigN a0 r h
/- 184:impl_LeastCover -/
def cv:X0:=(A1 [Ay 6,A6 7 0,A3 8 L] (Aa [mv 11 0,mv 12 1,mv 13 2,ca 14 209 [S 11,S 12,S 13],nt 15 14] 15 (A2 [Ay 6,A6 7 0,A3 8 L]) (A1 [mv 16 0,mv 17 1,mv 18 2,ca 19 210 [S 16,S 17,S 18],mv 9 19] (A1 [mv 20 9,mv 21 9,ca 22 211 [S 21],BH 23 [.nil,aI 0,.nil,.nil] [(0,1,(S 20)),(1,1,(S 22))],bo 24 23,(O,.ownb 24 2 152704 1),(O,.ownb 24 3 152768 1),mv 10 24] (A1 [mv 25 10,(O,.frz 1216),ca 26 212 [S 25]] (A5 (.drw [o0 (mv 27 10),o0 (O,.nilc 28 (S 27)),o0 (fa 29 28 3),o0 (ld 30 29),o0 (mv 31 10),o0 (O,.nilc 32 (S 31)),o0 (fa 33 32 1),o0 (ld 34 33),o0 (mv 6 30),o0 (mv 7 34),o0 (A3 8 T)]) .ret))))))
theorem A85{a0}{a1}{a2}{r}(h:M3 a0 a1 a2=N r):FC I 184 [.sc (.int .i64 a0),.sc (.sl (Z rI a1)),.sc (.sl (Z X8.row a2))] [.sc (.o 1 (Z rI r.1)),.sc (.v (.int .i64 r.2.1)),.sc (.v (.bool r.2.2))]:=by
 unfold M3 at h;refine A9 mixed cv [6,7,8] 35 ?_;simp only[cv,C,E,F,G,H,J];obtain⟨r1,h1,h⟩:=ob h;try simp only[C,E,F,G,H,J]
 refine A4 (A9w h1) ?_;obtain⟨h2,h⟩|⟨h2,h⟩:=ic h
 ·obtain⟨r3,h3,h⟩:=ob h;try simp only[h2,C,E,F,G,H,J]
  refine A4 (A94 h3) ?_;obtain⟨r4,h4,h⟩:=ob h;try simp only[h2,C,E,F,G,H,J]
  refine B7 (A92 h4) Y (BD Y) Y (uf Y) ?_;try simp only[h2,C,E,F,G,H,J]
  refine A8 ?_;try simp only[h2,C,E,F,G,H,J]
  refine O4 (cs':= [.own 1216,aI r4,.own 152704,.nil]) Y Y Y Y ?_;try simp only[h2,C,E,F,G,H,J]
  refine O4 (cs':= [.own 1216,aI r4,.own 152704,.own 152768]) Y Y Y Y ?_;try simp only[h2,C,E,F,G,H,J]
  refine D0 ?_;obtain⟨r5,h5,h⟩:=ob h;try simp only[h2,C,E,F,G,H,J]
  refine fD (A9x h5) 24 [152704,152768] rfl Y Y Y (by decide) Y Y Y ?_;try simp only[h2,C,E,F,G,H,J]
  refine An ?_;try simp only[h2,C,E,F,G,H,J]
  cases h;trivial
 ·try simp only[h2,C,E,F,G,H,J]
  cases h;trivial
/- 141:impl_coverFits -/
def cw:X0:=(A1 [A3 8 L] (Aa [mv 12 2,ln 13 12,mv 14 3,bn 15 .leq 13 14] 15 (A2 [A3 8 T]) (A1 [mv 17 0,mv 18 1,mv 19 2,ca 20 184 [S 17,S 18,S 19],mv 16 20,xt 21 16 0,xt 22 16 1,xt 23 16 2,mv 9 21,mv 10 22,mv 11 23] (A2 [mv 24 10,mv 25 3,bn 26 .leq 24 25,mv 8 26]))))
theorem jf{a0}{a1}{a2}{a3}{r}(h:FR a0 a1 a2 a3=N r):FC I 141 [.sc (.int .i64 a0),.sc (.sl (Z rI a1)),.sc (.sl (Z X8.row a2)),.sc (.int .i64 a3)] [.sc (.v (.bool r))]:=by
 unfold FR at h;refine A9 mixed cw [8] 27 ?_;simp only[cw,C,E,F,G,H,J];obtain⟨h1,h⟩|⟨h1,h⟩:=ic h
 ·try simp only[h1,C,E,F,G,H,J]
  cases h;exact t0
 ·obtain⟨r2,h2,h⟩:=ob h;try simp only[h1,C,E,F,G,H,J]
  refine A4 (A85 h2) ?_;try simp only[h1,C,E,F,G,H,J]
  cases h;exact t0
/- 103:impl_crewFits -/
def R6:X0:=A1 [Ae [2,5,6,13,14,15] [2] [704,768]] (A1 [bn 16 .lss 15 14] (Av 16 0 1 (A1 [ia 17 13 15 4,lw 18 17 4,Al 8 [aI 0,aI 0,aI 0,.nil],so 8 18 4] (A1 [mv 19 5,fa 20 8 3,ld 21 20,Be 22 5 40 19 21,mv 5 22] (A1 [fa 23 8 3,ld 24 23,ln 25 24,Ac 26 .gtr 25 0] (Aq 26 (.drw [(N [42,43],mv 27 6),o0 (fa 28 2 3),o0 (lw 29 28 2),o0 (fa 30 8 3),o0 (ld 31 30),o0 (O,.iaddr 32 (S 31) (K 0) 5),o0 (lw 33 32 5),o0 (fa 34 8 3),o0 (ld 35 34),o0 (fa 36 8 3),o0 (ld 37 36),o0 (ln 38 37),o0 (Ac 39 .sub 38 1),o0 (ia 40 35 39 5),o0 (lw 41 40 5),o0 (ca 42 139 [S 29,S 33,S 41]),o0 (AD 43 4 [.int .i64 0,.int .i64 0,.int .i64 0,.int .i64 0] 1 [(0,(S 42))]),(O,Be 44 4 32 27 43),o0 (mv 6 44)]))))) (Au 45 15)))
def Vt:X0:=(A1 [fa 47 2 3,lw 48 47 2,fa 49 2 5,ld 50 49,mv 51 5,ca 52 140 [S 48,S 50,S 51],mv 46 52,xt 53 46 0,xt 54 46 1,mv 9 53,mv 10 54] (A2 [mv 55 10,mv 56 55,Ab 56 T 57 2 8,Ab 56 T 58 57 3,Ad 56 T 59 58,Af 56 T 60 9,Ab 56 T 61 2 8,Ab 56 T 62 61 0,Ad 56 T 63 62,Ak 56 T 64 141 [K 0,S 59,S 60,S 63],pa 65 56 64,mv 66 65,Ab 66 T 67 2 8,Ab 66 T 68 67 2,Ad 66 T 69 68,Ab 66 T 70 2 8,Ab 66 T 71 70 3,Ad 66 T 72 71,Af 66 T 73 6,Ab 66 T 74 2 8,Ab 66 T 75 74 1,Ad 66 T 76 75,Ak 66 T 77 141 [S 69,S 72,S 73,S 76],pa 78 66 77,mv 4 78]))
def cy:X0:=(A1 [bo 2 0,A3 4 L] (A1 [AD 11 5 [.int .i64 0,.int .i64 0,.bool L,.int .i64 0,.int .i64 0] 0 [],AD 12 4 [.int .i64 0,.int .i64 0,.int .i64 0,.int .i64 0] 0 [],mv 5 11,mv 6 12] (A5 (A1 [mv 13 1,ln 14 13,A6 15 0] (Ah 0 R6)) Vt)))
def mT:=fun a1 (a0:X7) (k_:U→(P X1)→(P X8)→Q V)=>∀{v1 v2 v3} {zr},k_ v1 v2 v3=N zr→Kp I [2,5,6,13,14,15] [2] [704,768] ⟨[pB 2,pW 5 704,pW 6 768,pL 13 X2.row a1,pI 14 (a1.length:U),pI 15 v1],[(2,([aI a0.Forecast.Tide.Mean,aM zC a0.Forecast.Tide.Parts,aM zD a0.Forecast.Surges,aM X9.row a0.Chart.Points,aM X3.row a0.Chart.Segments,aM X5.row a0.Fleet,aI a0.Regime.Gap,aB a0.Regime.NoMeet]++dm a0.Crew.row))],[(704,5,Z X1.row v2),(768,4,Z X8.row v3)]⟩ (.code (.loop R6):: [.blk 0,.code Vt]) (Ag [4] [.sc (.v (.bool zr))])
theorem B65{a1 a0}{n:W}:mT a1 a0 (FS a1 a0 n):=by
 induction n with
 | zero=>intro _ _ _ r h; cases h
 | succ n ih=>
  intro v1 v2 v3 r h σ hσ;rw[FS] at h;refine Ai ?_;obtain⟨h4,h⟩|⟨h4,h⟩:=ic h
  ·obtain⟨x5,h5,h⟩:=ob h;try simp only[hσ,h4,h5,R6,C,E,F,G,H,J]
   refine Am ?_;obtain⟨h6,h⟩:=AT h;obtain⟨h7,h⟩|⟨h7,h⟩:=ic h
   ·try simp only[h4,h5,h6,h7,C,E,F,G,H,J]
    refine An ?_;obtain⟨x8,h8,h⟩:=ob h;obtain⟨x9,h9,h⟩:=ob h;obtain⟨r10,h10,h⟩:=ob h;try simp only[h4,h5,h6,h7,h8,h9,C,E,F,G,H,J]
    refine AF (jg h10) ?_;try simp only[h4,h5,h6,h7,h8,h9,C,E,F,G,H,J]
    refine Ax (es:=Z X8.row ([r10]:P X8)) ?_;obtain⟨h11,h⟩:=AT h;try simp only[h4,h5,h6,h7,h8,h9,h11,C,E,F,G,H,J]
    refine An ?_;try simp only[h4,h5,h6,h7,h8,h9,h11,C,E,F,G,H,J]
    refine ih h ?_;try simp only[h4,h5,h6,h7,h8,h9,h11,C,E,F,G,H,J,pL,aM,zA]
   ·try simp only[h4,h5,h6,h7,C,E,F,G,H,J]
    refine ih h ?_;try simp only[h4,h5,h6,h7,C,E,F,G,H,J,pL,aM,zA]
  ·obtain⟨r12,h12,h⟩:=ob h;try simp only[hσ,h4,R6,Vt,C,E,F,G,H,J]
   refine B7 (A96 h12) Y (BO Y ⟨B3,Y,⟨⟩⟩) Y (uf Y) ?_;obtain⟨h13,h⟩|⟨h13,h⟩:=ic h
   ·obtain⟨r14,h14,h⟩:=ob h;try simp only[h4,h13,C,E,F,G,H,J]
    refine B7 (jf h14) Y (BD Y) Y (uf Y) ?_;obtain⟨h15,h⟩|⟨h15,h⟩:=ic h
    ·obtain⟨r16,h16,h⟩:=ob h;try simp only[h4,h13,h15,C,E,F,G,H,J]
     refine B7 (jf h16) Y (BD Y) Y (uf Y) ?_;try simp only[h4,h13,h15,C,E,F,G,H,J]
     cases h;exact t0
    ·try simp only[h4,h13,h15,C,E,F,G,H,J]
     cases h;exact t0
   ·try simp only[h4,h13,C,E,F,G,H,J]
    cases h;exact t0
theorem A90{a0}{a1}{r}(h:Ec a0 a1=N r):FC I 103 [.ag (X7.row a0),.sc (.sl (Z X2.row a1))] [.sc (.v (.bool r))]:=by
 unfold Ec at h;refine A9 mixed cy [4] 79 ?_;simp only[cy,C,E,F,G,H,J];try simp only[C,E,F,G,H,J]
 refine A8 ?_;try simp only[C,E,F,G,H,J]
 refine Ax (es:=Z X1.row ([]:P X1)) ?_;try simp only[C,E,F,G,H,J]
 refine Ax (es:=Z X8.row ([]:P X8)) ?_;try simp only[C,E,F,G,H,J]
 refine B65 h ?_;try simp only[C,E,F,G,H,J,pL,aM,zA]
/- 69:impl_fitsTo -/
def L3:P (P W × AItem):= [([],(O,.load 25 (S 3) T 12)),([],(O,.mv 26 (S 1))),([1],(O,.call 27 104 [(S 26)])),([],(O,.load 28 (S 5) T 4)),([3],(O,.bslice 29 4 [.int .i64 0,.int .i64 0,.int .i64 0,.sl []] 1 [(0,(S 28))])),([2,4,2],(O,.app 30 4 48 (S 27) (S 29))),([0,5,5],(O,.call 31 103 [(S 25),(S 30)])),([6,6,0,1,2,3,4,5,6],(O,.mv 6 (S 31)))]
def R7:X0:=A1 [Ae [1,3,5,9,10,11] [3,5] []] (A1 [bn 12 .lss 11 10] (Av 12 0 1 (A1 [ia 13 9 11 4,lw 14 13 4,Al 8 [aI 0,aI 0,aI 0,.nil],so 8 14 4] (A1 [fa 15 3 3,lw 16 15 2,fa 17 3 6,lw 18 17 2,fa 19 8 3,ld 20 19,fa 21 5 3,ld 22 21,ca 23 102 [S 16,S 18,S 20,S 22]] (Aq 23 (A2 [A3 6 L])))) (Au 24 11)))
def Vu:X0:=(A5 (.any L3) .ret)
def cz:X0:=(A1 [bo 3 0,bo 5 2,A3 6 L] (A5 (A1 [mv 9 1,ln 10 9,A6 11 0] (Ah 0 R7)) Vu))
abbrev Cu(a1:P X2)(a0:X7)(a2:X2)(r9:V)(wo2_:AV)(c0_ c1_:V)(c2_ c3_:V)(c4_ c5_:V)(c6_ c7_:V)(bx_:P (W × P AC))(rs_:Rows):St:=⟨[(1,vc (aL (Z X2.row a1))),(3,vc (.pb 3 0)),(5,vc (.pb 5 0)),(25,bif c0_ then va ([aI a0.Forecast.Tide.Mean,aL (Z zC a0.Forecast.Tide.Parts),aL (Z zD a0.Forecast.Surges),aL (Z X9.row a0.Chart.Points),aL (Z X3.row a0.Chart.Segments),aL (Z X5.row a0.Fleet),aI a0.Regime.Gap,aB a0.Regime.NoMeet]++dm a0.Crew.row) else .undef),(26,bif c1_ then vc (aL (Z X2.row a1)) else .undef),(27,bif c2_ then wo2_ else .undef),(28,bif c3_ then va [aI a2.Start,aI a2.Arrival,aI a2.Cost,aL (Z X1.row a2.Passages)] else .undef),(29,bif c4_ then vc (.own 1856) else .undef),(30,bif c5_ then vc (.own 1728) else .undef),(31,bif c6_ then vc (aB r9) else .undef),(6,bif c7_ then vc (aB r9) else .undef)],bx_,rs_⟩
abbrev J8(a1:P X2)(a0:X7)(a2:X2)(r6:(P X2))(r9:V):St:=(Cu a1 a0 a2 r9 (vc (.undef)) T T T T T T T T [(3,([aI a0.Forecast.Tide.Mean,aL (Z zC a0.Forecast.Tide.Parts),aL (Z zD a0.Forecast.Surges),aL (Z X9.row a0.Chart.Points),aL (Z X3.row a0.Chart.Segments),aL (Z X5.row a0.Fleet),aI a0.Regime.Gap,aB a0.Regime.NoMeet]++dm a0.Crew.row)),(5,[aI a2.Start,aI a2.Arrival,aI a2.Cost,aL (Z X1.row a2.Passages)])] [(1728,4,Z X2.row (r6++([a2]:P X2))),(1856,4,Z X2.row ([a2]:P X2))])
theorem B66(a1 a0 a2 r6 r9)(h6:Eb a1=N r6)(h7:(AJ r6.length ([a2]:P X2).length 48)=T)(h9:Ec a0 (r6++([a2]:P X2))=N r9):∀(f:W) (b0 b6 b7:V),Cd I L3 (J8 a1 a0 a2 r6 r9) f [b0,T,T,T,T,T,b6,b7] (Cu a1 a0 a2 r9 (vc (.undef)) b0 T T T T T b6 b7 [(3,([aI a0.Forecast.Tide.Mean,aL (Z zC a0.Forecast.Tide.Parts),aL (Z zD a0.Forecast.Surges),aL (Z X9.row a0.Chart.Points),aL (Z X3.row a0.Chart.Segments),aL (Z X5.row a0.Fleet),aI a0.Regime.Gap,aB a0.Regime.NoMeet]++dm a0.Crew.row)),(5,[aI a2.Start,aI a2.Arrival,aI a2.Cost,aL (Z X1.row a2.Passages)])] [(1728,4,Z X2.row (r6++([a2]:P X2))),(1856,4,Z X2.row ([a2]:P X2))]):=by
 intro f
 induction f with
 | zero=>
  intro b0 b6 b7 h;obtain rfl:b0=T:=zI.1 h b0 (by simp);obtain rfl:b6=T:=zI.1 h b6 (by simp);obtain rfl:b7=T:=zI.1 h b7 (by simp);rfl
 | succ f ih=>
  intro b0 b6 b7;refine EI ⟨?_,?_,?_,?_,?_,?_,?_,?_,⟨⟩⟩<;>try first | (intro h; cases h; done) | (intro h0 hw; obtain rfl:=hz h0 rfl; (try obtain rfl:=hq hw 0 rfl rfl); (try obtain rfl:=hq hw 6 rfl rfl); refine np ?_; simp only[Cu,C8,Cy,BT,C,E,F,G,H,J]; exact ih _ _ _)
  ·intro h0 hw;obtain rfl:=hz h0 rfl;obtain rfl:=hq hw 0 rfl rfl;refine np ?_;try simp only[Cu,C8,Cy,BT,C,E,F,G,H,J]
   refine B7 (A90 h9) Y (BD Y) (by simp only[St.fresh,zF,zG,L9]; simp[AV.cells,V1.cells,AC.uses]) (uf Y) ?_;try simp only[BT,C,E,F,G,H,J]
   exact ih T T b7
theorem lI(a1 a0 a2 r6 r9)(h6:Eb a1=N r6)(h7:(AJ r6.length ([a2]:P X2).length 48)=T)(h9:Ec a0 (r6++([a2]:P X2))=N r9):∀(f:W) (b0:V),Cd I L3 (J8 a1 a0 a2 r6 r9) f [b0,T,T,T,T,L,L,L] (Cu a1 a0 a2 r9 (vc (.own 1728)) b0 T T T T L L L [(3,([aI a0.Forecast.Tide.Mean,aL (Z zC a0.Forecast.Tide.Parts),aL (Z zD a0.Forecast.Surges),aL (Z X9.row a0.Chart.Points),aL (Z X3.row a0.Chart.Segments),aL (Z X5.row a0.Fleet),aI a0.Regime.Gap,aB a0.Regime.NoMeet]++dm a0.Crew.row)),(5,[aI a2.Start,aI a2.Arrival,aI a2.Cost,aL (Z X1.row a2.Passages)])] [(1728,4,Z X2.row r6),(1856,4,Z X2.row ([a2]:P X2))]):=by
 intro f
 induction f with
 | zero=>intro b0 h; simp at h
 | succ f ih=>
  intro b0;refine EI ⟨?_,?_,?_,?_,?_,?_,?_,?_,⟨⟩⟩<;>try first | (intro h; cases h; done) | (intro _ hw; simp at hw; done) | (intro h0 hw; obtain rfl:=hz h0 rfl; refine np ?_; simp only[Cu,C8,Cy,BT,C,E,F,G,H,J]; exact ih _)
  ·intro h0 hw;refine np ?_;try simp only[h7,Cu,C8,Cy,BT,C,E,F,G,H,J]
   exact B66 a1 a0 a2 r6 r9 h6 h7 h9 _ b0 L L
theorem B67(a1 a0 a2 r6 r9)(h6:Eb a1=N r6)(h7:(AJ r6.length ([a2]:P X2).length 48)=T)(h9:Ec a0 (r6++([a2]:P X2))=N r9):∀(f:W) (b0 b3:V),Cd I L3 (J8 a1 a0 a2 r6 r9) f [b0,T,T,b3,L,L,L,L] (Cu a1 a0 a2 r9 (vc (.own 1728)) b0 T T b3 L L L L [(3,([aI a0.Forecast.Tide.Mean,aL (Z zC a0.Forecast.Tide.Parts),aL (Z zD a0.Forecast.Surges),aL (Z X9.row a0.Chart.Points),aL (Z X3.row a0.Chart.Segments),aL (Z X5.row a0.Fleet),aI a0.Regime.Gap,aB a0.Regime.NoMeet]++dm a0.Crew.row)),(5,[aI a2.Start,aI a2.Arrival,aI a2.Cost,aL (Z X1.row a2.Passages)])] [(1728,4,Z X2.row r6)]):=by
 intro f
 induction f with
 | zero=>intro b0 b3 h; simp at h
 | succ f ih=>
  intro b0 b3;refine EI ⟨?_,?_,?_,?_,?_,?_,?_,?_,⟨⟩⟩<;>try first | (intro h; cases h; done) | (intro _ hw; simp at hw; done) | (intro h0 hw; obtain rfl:=hz h0 rfl; refine np ?_; simp only[Cu,C8,Cy,BT,C,E,F,G,H,J]; exact ih _ _)
  ·intro h0 hw;obtain rfl:=hq hw 3 rfl rfl;refine np ?_;try simp only[Cu,C8,Cy,BT,C,E,F,G,H,J]
   refine Wm (es:=Z X2.row ([a2]:P X2)) Y (by simp only[St.fresh,zF,zG,L9]; simp[AV.cells,V1.cells,AC.uses]) ?_;try simp only[BT,C,E,F,G,H,J]
   exact lI a1 a0 a2 r6 r9 h6 h7 h9 _ b0
theorem B68(a1 a0 a2 r6 r9)(h6:Eb a1=N r6)(h7:(AJ r6.length ([a2]:P X2).length 48)=T)(h9:Ec a0 (r6++([a2]:P X2))=N r9):∀(f:W) (b0 b1:V),Cd I L3 (J8 a1 a0 a2 r6 r9) f [b0,b1,L,T,T,L,L,L] (Cu a1 a0 a2 r9 (vc (.own 1728)) b0 b1 L T T L L L [(3,([aI a0.Forecast.Tide.Mean,aL (Z zC a0.Forecast.Tide.Parts),aL (Z zD a0.Forecast.Surges),aL (Z X9.row a0.Chart.Points),aL (Z X3.row a0.Chart.Segments),aL (Z X5.row a0.Fleet),aI a0.Regime.Gap,aB a0.Regime.NoMeet]++dm a0.Crew.row)),(5,[aI a2.Start,aI a2.Arrival,aI a2.Cost,aL (Z X1.row a2.Passages)])] [(1856,4,Z X2.row ([a2]:P X2))]):=by
 intro f
 induction f with
 | zero=>intro b0 b1 h; simp at h
 | succ f ih=>
  intro b0 b1;refine EI ⟨?_,?_,?_,?_,?_,?_,?_,?_,⟨⟩⟩<;>try first | (intro h; cases h; done) | (intro _ hw; simp at hw; done) | (intro h0 hw; obtain rfl:=hz h0 rfl; refine np ?_; simp only[Cu,C8,Cy,BT,C,E,F,G,H,J]; exact ih _ _)
  ·intro h0 hw;obtain rfl:=hq hw 1 rfl rfl;refine⟨[],[(O,.keep [1,3,5,25,26,27,28,29,30,31,6] [3,5] [1728,1856])],Y,Y,?_⟩;try simp only[Cu,C8,Cy,List.nil_append,List.cons_append,BT,C,E,F,G,H,J]
   refine Wn (je h6) Y (by simp only[St.fresh,zF,zG,L9]; simp[AV.cells,V1.cells,AC.uses]) (uf Y) ?_;try simp only[BT,C,E,F,G,H,J]
   exact lI a1 a0 a2 r6 r9 h6 h7 h9 _ b0
theorem B69(a1 a0 a2 r6 r9)(h6:Eb a1=N r6)(h7:(AJ r6.length ([a2]:P X2).length 48)=T)(h9:Ec a0 (r6++([a2]:P X2))=N r9):∀(f:W) (b0 b1 b3:V),Cd I L3 (J8 a1 a0 a2 r6 r9) f [b0,b1,L,b3,L,L,L,L] (Cu a1 a0 a2 r9 (vc (.own 1728)) b0 b1 L b3 L L L L [(3,([aI a0.Forecast.Tide.Mean,aL (Z zC a0.Forecast.Tide.Parts),aL (Z zD a0.Forecast.Surges),aL (Z X9.row a0.Chart.Points),aL (Z X3.row a0.Chart.Segments),aL (Z X5.row a0.Fleet),aI a0.Regime.Gap,aB a0.Regime.NoMeet]++dm a0.Crew.row)),(5,[aI a2.Start,aI a2.Arrival,aI a2.Cost,aL (Z X1.row a2.Passages)])] []):=by
 intro f
 induction f with
 | zero=>intro b0 b1 b3 h; simp at h
 | succ f ih=>
  intro b0 b1 b3;refine EI ⟨?_,?_,?_,?_,?_,?_,?_,?_,⟨⟩⟩<;>try first | (intro _ hw; simp at hw; done) | (intro h0 hw; obtain rfl:=hz h0 rfl; refine np ?_; simp only[Cu,C8,Cy,BT,C,E,F,G,H,J]; exact ih _ _ _)
  ·intro h0 hw;obtain rfl:=hq hw 1 rfl rfl;refine np ?_;try simp only[Cu,C8,Cy,BT,C,E,F,G,H,J]
   refine Wn (je h6) Y (by simp only[St.fresh,zF,zG,L9]; simp[AV.cells,V1.cells,AC.uses]) (uf Y) ?_;try simp only[BT,C,E,F,G,H,J]
   exact B67 a1 a0 a2 r6 r9 h6 h7 h9 _ b0 b3
  ·intro h0 hw;obtain rfl:=hq hw 3 rfl rfl;refine np ?_;try simp only[Cu,C8,Cy,BT,C,E,F,G,H,J]
   refine Wm (es:=Z X2.row ([a2]:P X2)) Y (by simp only[St.fresh,zF,zG,L9]; simp[AV.cells,V1.cells,AC.uses]) ?_;try simp only[BT,C,E,F,G,H,J]
   exact B68 a1 a0 a2 r6 r9 h6 h7 h9 _ b0 b1
def mU:=fun a1 (a0:X7) (a2:X2) (k_:U→Q V)=>∀{v1} {zr},k_ v1=N zr→Kp I [1,3,5,9,10,11] [3,5] [] ⟨[pL 1 X2.row a1,pB 3,pB 5,pL 9 X2.row a1,pI 10 (a1.length:U),pI 11 v1],[(3,([aI a0.Forecast.Tide.Mean,aM zC a0.Forecast.Tide.Parts,aM zD a0.Forecast.Surges,aM X9.row a0.Chart.Points,aM X3.row a0.Chart.Segments,aM X5.row a0.Fleet,aI a0.Regime.Gap,aB a0.Regime.NoMeet]++dm a0.Crew.row)),(5,[aI a2.Start,aI a2.Arrival,aI a2.Cost,aM X1.row a2.Passages])],[]⟩ (.code (.loop R7):: [.blk 0,.code Vu]) (Ag [6] [.sc (.v (.bool zr))])
theorem B7a{a1 a0 a2}{n:W}:mU a1 a0 a2 (HB a1 a0 a2 n):=by
 induction n with
 | zero=>intro _ r h; cases h
 | succ n ih=>
  intro v1 r h σ hσ;rw[HB] at h;refine Ai ?_;obtain⟨h2,h⟩|⟨h2,h⟩:=ic h
  ·obtain⟨x3,h3,h⟩:=ob h;try simp only[hσ,h2,h3,R7,C,E,F,G,H,J]
   refine Am ?_;obtain⟨r4,h4,h⟩:=ob h;try simp only[h2,h3,C,E,F,G,H,J]
   refine A4 (A9u h4) ?_;obtain⟨h5,h⟩|⟨h5,h⟩:=ic h
   ·try simp only[h2,h3,h5,C,E,F,G,H,J]
    cases h;exact t0
   ·try simp only[h2,h3,h5,C,E,F,G,H,J]
    refine ih h ?_;try simp only[h2,h3,h5,C,E,F,G,H,J,pL,aM,zA]
  ·try simp only[hσ,h2,R7,Vu,C,E,F,G,H,J]
   obtain⟨r6,h6,h⟩:=ob h;obtain⟨h7,h⟩:=AT h;obtain⟨r9,h9,h⟩:=ob h;refine Wl (ks:= [1,3,5]) (bs:= [3,5]) (rs:= []) (τ:=(J8 a1 a0 a2 r6 r9)) Y (B69 a1 a0 a2 r6 r9 h6 h7 h9 _ L L L) ?_;simp only[J8,Cu,C8];try simp only[h2,h7,C,E,F,G,H,J]
   cases h;exact t0
theorem A91{a0}{a1}{a2}{r}(h:Ms a0 a1 a2=N r):FC I 69 [.ag (X7.row a0),.sc (.sl (Z X2.row a1)),.ag (X2.row a2)] [.sc (.v (.bool r))]:=by
 unfold Ms at h;refine A9 mixed cz [6] 32 ?_;simp only[cz,C,E,F,G,H,J];try simp only[C,E,F,G,H,J]
 refine A8 ?_;try simp only[C,E,F,G,H,J]
 refine A8 ?_;try simp only[C,E,F,G,H,J]
 refine B7a h ?_;try simp only[C,E,F,G,H,J,pL,aM,zA]
/- 35:impl_IsPlan -/
def R8:X0:=A1 [Ae [2,3,20,21,22] [3] []] (A1 [bn 23 .lss 22 21] (Av 23 0 1 (A1 [mv 24 22,ia 25 20 22 5,lw 26 25 5,Al 8 [aI 0,aI 0,aI 0,aI 0,aI 0],mv 7 24,so 8 26 5] (A5 (.drw [o0 (lw 27 3 12),o0 (lw 28 8 5),o0 (mv 29 2),o0 (mv 30 7),o0 (ia 31 29 30 4),o0 (lw 32 31 4),o0 (ca 33 68 [S 27,S 28,S 32]),o0 (nt 34 33),o0 (mv 35 34),o0 (AQ 35 L 36 3 12),o0 (Af 35 L 37 2),o0 (Af 35 L 38 7),o0 (N (35,L),.slc 39 4 (S 37) O (N (S 38)) O),o0 (Af 35 L 40 2),o0 (Af 35 L 41 7),o0 (CC 35 L 42 40 41 4),o0 (AQ 35 L 43 42 4),o0 (Ak 35 L 44 69 [S 36,S 39,S 43]),o0 (AN 35 L 45 44),o0 (po 46 35 45)]) (Aq 46 (A2 [A3 6 L])))) (Au 47 22)))
def Vw:X0:=(A2 [A3 6 T])
def dB:X0:=(A1 [bo 3 0,A3 6 L] (Aa [lw 9 3 12,mv 10 1,ca 11 67 [S 9,S 10],nt 12 11,mv 13 12,Af 13 L 14 2,B1 13 L 15 14,Af 13 L 16 1,B1 13 L 17 16,AK 13 L 18 .neq 15 17,po 19 13 18] 19 (A2 [A3 6 L]) (A5 (A1 [mv 20 1,ln 21 20,A6 22 0] (Ah 0 R8)) Vw)))
def lz:=fun a2 a1 (a0:X7) (k_:U→Q V)=>∀{v4} {zr},k_ v4=N zr→Kp I [2,3,20,21,22] [3] [] ⟨[pL 2 X2.row a2,pB 3,pL 20 zE a1,pI 21 (a1.length:U),pI 22 v4],[(3,([aI a0.Forecast.Tide.Mean,aM zC a0.Forecast.Tide.Parts,aM zD a0.Forecast.Surges,aM X9.row a0.Chart.Points,aM X3.row a0.Chart.Segments,aM X5.row a0.Fleet,aI a0.Regime.Gap,aB a0.Regime.NoMeet]++dm a0.Crew.row))],[]⟩ (.code (.loop R8):: [.blk 0,.code Vw]) (Ag [6] [.sc (.v (.bool zr))])
theorem B7b{a2 a1 a0}{n:W}:lz a2 a1 a0 (FO a2 a1 a0 n):=by
 induction n with
 | zero=>intro _ r h; cases h
 | succ n ih=>
  intro v4 r h σ hσ;rw[FO] at h;refine Ai ?_;obtain⟨h5,h⟩|⟨h5,h⟩:=ic h
  ·obtain⟨x6,h6,h⟩:=ob h;try simp only[hσ,h5,h6,R8,C,E,F,G,H,J]
   refine Am ?_;try simp only[h5,h6,C,E,F,G,H,J]
   refine An ?_;obtain⟨x7,h7,h⟩:=ob h;obtain⟨r9,h9,h⟩:=ob h;try simp only[h5,h6,h7,C,E,F,G,H,J]
   refine AF (A82 h9) ?_;obtain⟨h10,h⟩|⟨h10,h⟩:=ic h
   ·obtain⟨p11,h11,h⟩:=ob h;obtain⟨r12,h12,h⟩:=ob h;try simp only[h5,h6,h7,h10,h11,C,E,F,G,H,J]
    refine AF (A91 h12) ?_;obtain⟨h13,h⟩|⟨h13,h⟩:=ic h
    ·try simp only[h5,h6,h7,h10,h11,h13,C,E,F,G,H,J]
     refine ih h ?_;try simp only[h5,h6,h7,h10,h11,h13,C,E,F,G,H,J,pL,aM,zA]
    ·try simp only[h5,h6,h7,h10,h11,h13,C,E,F,G,H,J]
     cases h;exact t0
   ·try simp only[h5,h6,h7,h10,C,E,F,G,H,J]
    cases h;exact t0
  ·try simp only[hσ,h5,R8,Vw,C,E,F,G,H,J]
   cases h;exact t0
theorem A83{a0}{a1}{a2}{r}(h:M2 a0 a1 a2=N r):FC I 35 [.ag (X7.row a0),.sc (.sl (Z zE a1)),.sc (.sl (Z X2.row a2))] [.sc (.v (.bool r))]:=by
 unfold M2 at h;refine A9 mixed dB [6] 48 ?_;simp only[dB,C,E,F,G,H,J];try simp only[C,E,F,G,H,J]
 refine A8 ?_;obtain⟨r1,h1,h⟩:=ob h;try simp only[C,E,F,G,H,J]
 refine A4 (A8v h1) ?_;obtain⟨h2,h⟩|⟨h2,h⟩:=ic h
 ·obtain⟨h3,h⟩|⟨h3,h⟩:=ic h
  ·try simp only[h2,h3,C,E,F,G,H,J]
   cases h;exact t0
  ·try simp only[h2,h3,C,E,F,G,H,J]
   refine B7b h ?_;try simp only[h2,h3,C,E,F,G,H,J,pL,aM,zA]
 ·try simp only[h2,C,E,F,G,H,J]
  cases h;exact t0
/- 105:impl_FormatInt -/
def dD:X0:=(A1 [(O,.mv 2 (KS []))] (A2 [mv 3 0,ca 4 142 [S 3],mv 2 4]))
theorem A8z{a0}{r}(h:LY a0=N r):FC I 105 [.sc (.int .i64 a0)] [.sc (.v (.str r))]:=by
 unfold LY at h;refine A9 mixed dD [2] 5 ?_;simp only[dD,C,E,F,G,H,J];obtain⟨r1,h1,h⟩:=ob h;try simp only[C,E,F,G,H,J]
 refine A4 (B3z _ _ h1) ?_;try simp only[C,E,F,G,H,J]
 cases h;exact t0
/- 70:impl_word -/
def dE:X0:=(A1 [(O,.mv 2 (KS []))] (A5 (A1 [mv 5 0] (.block 0 (A1 [(O,.tass 6 (S 5) 3 (aI 0)),xt 7 6 1,xt 8 6 0] (AL 7 (A1 [mv 3 8] (A2 [mv 9 3,ca 10 105 [S 9],mv 2 10])) (A1 [(O,.tass 11 (S 5) 9 (aS [])),xt 12 11 1,xt 13 11 0] (Aq 12 (A1 [mv 4 13] (A2 [mv 14 4,mv 2 14])))))))) (A2 [(O,.mv 2 (KS []))])))
theorem B0a{a0}{r}(h:MA a0=N r):FC I 70 [.sc (P8 a0)] [.sc (.v (.str r))]:=by
 unfold MA at h;refine A9 mixed dE [2] 15 ?_;simp only[dE,C,E,F,G,H,J];obtain⟨h1,h⟩|⟨h1,h⟩:=ic h
 ·try simp only[h1,C,E,F,G,H,J]
  cases h;exact t0
 ·obtain⟨r2,h2,h⟩:=ob h;try simp only[h1,C,E,F,G,H,J]
  refine A4 (A8z h2) ?_;try simp only[h1,C,E,F,G,H,J]
  cases h;exact t0
/- 71:impl_Join -/
def dF:X0:=(A1 [(O,.mv 4 (KS []))] (A2 [mv 5 0,mv 6 1,ca 7 106 [S 5,S 6],mv 4 7]))
theorem A84{a0}{a1}{r}(h:JF a0 a1=N r):FC I 71 [.sc (.sl (Z rS a0)),.sc (.str a1)] [.sc (.v (.str r))]:=by
 unfold JF at h;refine A9 mixed dF [4] 8 ?_;simp only[dF,C,E,F,G,H,J];obtain⟨r1,h1,h⟩:=ob h;try simp only[C,E,F,G,H,J]
 refine A4 (B30 _ _ _ h1) ?_;try simp only[C,E,F,G,H,J]
 cases h;exact t0
/- 36:impl_words -/
def R9:X0:=A1 [Ae [3,7,8,9] [] [384]] (A1 [bn 10 .lss 9 8] (Av 10 0 1 (A1 [ia 11 7 9 1,ld 12 11,mv 5 12] (.reg [mv 13 3,mv 14 5,ca 15 70 [S 14],AD 16 1 [.str []] 1 [(0,(S 15))],Be 17 1 16 13 16,mv 3 17])) (Au 18 9)))
def Vx:X0:=(A2 [mv 19 3,ca 20 71 [S 19,KS [32]],mv 2 20])
def dG:X0:=(A1 [(O,.mv 2 (KS []))] (A1 [AD 6 1 [.str []] 0 [],mv 3 6] (A5 (A1 [mv 7 0,ln 8 7,A6 9 0] (Ah 0 R9)) Vx)))
def mg:=fun a0 (k_:U→(P (P X))→Q (P X))=>∀{v1 v2} {zr},k_ v1 v2=N zr→Kp I [3,7,8,9] [] [384] ⟨[pW 3 384,pL 7 rA a0,pI 8 (a0.length:U),pI 9 v1],[],[(384,1,Z rS v2)]⟩ (.code (.loop R9):: [.blk 0,.code Vx]) (Ag [2] [.sc (.v (.str zr))])
theorem B7c{a0}{n:W}:mg a0 (HJ a0 n):=by
 induction n with
 | zero=>intro _ _ r h; cases h
 | succ n ih=>
  intro v1 v2 r h σ hσ;rw[HJ] at h;refine Ai ?_;obtain⟨h3,h⟩|⟨h3,h⟩:=ic h
  ·obtain⟨x4,h4,h⟩:=ob h;obtain⟨r5,h5,h⟩:=ob h;try simp only[hσ,h3,h4,R9,C,E,F,G,H,J]
   refine A4 (B0a h5) ?_;try simp only[h3,h4,C,E,F,G,H,J]
   refine Ax (es:=Z rS ([r5]:P (P X))) ?_;obtain⟨h6,h⟩:=AT h;try simp only[h3,h4,h6,C,E,F,G,H,J]
   refine ih h ?_;try simp only[h3,h4,h6,C,E,F,G,H,J,pL,aM,zA]
  ·obtain⟨r7,h7,h⟩:=ob h;try simp only[hσ,h3,R9,Vx,C,E,F,G,H,J]
   refine B7 (A84 h7) Y (BD Y) Y (uf Y) ?_;try simp only[h3,C,E,F,G,H,J]
   cases h;exact t0
theorem B0b{a0}{r}(h:MB a0=N r):FC I 36 [.sc (.sl (Z rA a0))] [.sc (.v (.str r))]:=by
 unfold MB at h;refine A9 mixed dG [2] 21 ?_;simp only[dG,C,E,F,G,H,J];try simp only[C,E,F,G,H,J]
 refine Ax (es:=Z rS ([]:P (P X))) ?_;try simp only[C,E,F,G,H,J]
 refine B7c h ?_;try simp only[C,E,F,G,H,J,pL,aM,zA]
/- 11:impl_PlanLines -/
def Ra:X0:=A1 [Ae [1,3,7,16,17,18] [3] [960]] (A1 [bn 19 .lss 18 17] (Av 19 0 1 (A1 [mv 20 18,ia 21 16 18 4,lw 22 21 4,Al 9 [aI 0,aI 0,aI 0,.nil],mv 8 20,so 9 22 4] (.drw [(N [47,48,49],mv 23 7),o0 (fa 24 3 5),o0 (ld 25 24),o0 (mv 26 1),o0 (mv 27 8),o0 (ia 28 26 27 5),o0 (fa 29 28 0),o0 (ld 30 29),o0 (ia 31 25 30 6),o0 (fa 32 31 0),o0 (ld 33 32),o0 (O,.mkif 34 9 (S 33)),o0 (O,.mkif 35 9 (KS [115,116,97,114,116])),o0 (fa 36 9 0),o0 (ld 37 36),o0 (O,.mkif 38 3 (S 37)),o0 (O,.mkif 39 9 (KS [97,114,114,105,118,101])),o0 (fa 40 9 1),o0 (ld 41 40),o0 (O,.mkif 42 3 (S 41)),o0 (O,.mkif 43 9 (KS [119,97,105,116])),o0 (fa 44 9 2),o0 (ld 45 44),o0 (O,.mkif 46 3 (S 45)),o0 (AD 47 1 [.noi] 7 [(0,(S 34)),(1,(S 35)),(2,(S 38)),(3,(S 39)),(4,(S 42)),(5,(S 43)),(6,(S 46))]),o0 (ca 48 36 [S 47]),o0 (AD 49 1 [.str []] 1 [(0,(S 48))]),(O,Be 50 1 16 23 49),o0 (mv 7 50)])) (Au 51 18)))
def Vy:X0:=(A2 [mv 52 7,mv 6 52])
def dH:X0:=(A1 [bo 3 0,Ay 6] (Aa [lw 10 3 12,mv 11 1,mv 12 2,ca 13 35 [S 10,S 11,S 12],nt 14 13] 14 (A2 [Ay 6]) (A1 [AD 15 1 [.str []] 0 [],mv 7 15] (A5 (A1 [mv 16 2,ln 17 16,A6 18 0] (Ah 0 Ra)) Vy))))
def mD:=fun a1 a2 (a0:X7) (k_:U→(P (P X))→Q (P (P X)))=>∀{v3 v4} {zr},k_ v3 v4=N zr→Kp I [1,3,7,16,17,18] [3] [960] ⟨[pL 1 zE a1,pB 3,pW 7 960,pL 16 X2.row a2,pI 17 (a2.length:U),pI 18 v3],[(3,([aI a0.Forecast.Tide.Mean,aM zC a0.Forecast.Tide.Parts,aM zD a0.Forecast.Surges,aM X9.row a0.Chart.Points,aM X3.row a0.Chart.Segments,aM X5.row a0.Fleet,aI a0.Regime.Gap,aB a0.Regime.NoMeet]++dm a0.Crew.row))],[(960,1,Z rS v4)]⟩ (.code (.loop Ra):: [.blk 0,.code Vy]) (Ag [6] [.sc (.o 1 (Z rS zr))])
theorem B7d{a1 a2 a0}{n:W}:mD a1 a2 a0 (FP a1 a2 a0 n):=by
 induction n with
 | zero=>intro _ _ r h; cases h
 | succ n ih=>
  intro v3 v4 r h σ hσ;rw[FP] at h;refine Ai ?_;obtain⟨h5,h⟩|⟨h5,h⟩:=ic h
  ·obtain⟨x6,h6,h⟩:=ob h;try simp only[hσ,h5,h6,Ra,C,E,F,G,H,J]
   refine Am ?_;try simp only[h5,h6,C,E,F,G,H,J]
   refine An ?_;obtain⟨x7,h7,h⟩:=ob h;obtain⟨x8,h8,h⟩:=ob h;try simp only[h5,h6,h7,h8,C,E,F,G,H,J]
   refine Ax (es:=Z rA ([(⟨T,x8.Name,0⟩:Xl),(⟨T,([115,116,97,114,116]:P X),0⟩:Xl),(⟨L,[],x6.Start⟩:Xl),(⟨T,([97,114,114,105,118,101]:P X),0⟩:Xl),(⟨L,[],x6.Arrival⟩:Xl),(⟨T,([119,97,105,116]:P X),0⟩:Xl),(⟨L,[],x6.Cost⟩:Xl)]:P Xl)) ?_;obtain⟨r9,h9,h⟩:=ob h;try simp only[h5,h6,h7,h8,C,E,F,G,H,J]
   refine Gr (B0b h9) (by first | rfl | kernel_rfl) (BD Y) Y (uf Y) ?_;try simp only[h5,h6,h7,h8,C,E,F,G,H,J]
   refine Ax (es:=Z rS ([r9]:P (P X))) ?_;obtain⟨h10,h⟩:=AT h;try simp only[h5,h6,h7,h8,h10,C,E,F,G,H,J]
   refine An ?_;try simp only[h5,h6,h7,h8,h10,C,E,F,G,H,J]
   refine ih h ?_;try simp only[h5,h6,h7,h8,h10,C,E,F,G,H,J,pL,aM,zA]
  ·try simp only[hσ,h5,Ra,Vy,C,E,F,G,H,J]
   cases h;exact t0
theorem ja{a0}{a1}{a2}{r}(h:JJ a0 a1 a2=N r):FC I 11 [.ag (X7.row a0),.sc (.sl (Z zE a1)),.sc (.sl (Z X2.row a2))] [.sc (.o 1 (Z rS r))]:=by
 unfold JJ at h;refine A9 mixed dH [6] 53 ?_;simp only[dH,C,E,F,G,H,J];try simp only[C,E,F,G,H,J]
 refine A8 ?_;obtain⟨r1,h1,h⟩:=ob h;try simp only[C,E,F,G,H,J]
 refine A4 (A83 h1) ?_;obtain⟨h2,h⟩|⟨h2,h⟩:=ic h
 ·try simp only[h2,C,E,F,G,H,J]
  refine Ax (es:=Z rS ([]:P (P X))) ?_;try simp only[h2,C,E,F,G,H,J]
  refine B7d h ?_;try simp only[h2,C,E,F,G,H,J,pL,aM,zA]
 ·try simp only[h2,C,E,F,G,H,J]
  cases h;exact t0
/- 12:laws_eqStringS -/
def Rc:X0:=A1 [Ae [0,1,5] [] []] (A5 (A1 [mv 11 5,mv 12 0,ln 13 12,bn 14 .lss 11 13] (AL 14 .skip (.exit 0))) (A5 (.block 1 (A5 (.drw [o0 (mv 17 0),o0 (mv 18 5),o0 (ia 19 17 18 1),o0 (ld 20 19),o0 (mv 21 1),o0 (mv 22 5),o0 (ia 23 21 22 1),o0 (ld 24 23),o0 (bn 25 .neq 20 24)]) (Aq 25 (A2 [A3 4 L])))) (.reg [mv 15 5,Ac 16 .add 15 1,mv 5 16])))
def Vz:X0:=(A2 [A3 4 T])
def dI:X0:=(A1 [A3 4 L] (Aa [mv 6 0,ln 7 6,mv 8 1,ln 9 8,bn 10 .neq 7 9] 10 (A2 [A3 4 L]) (A5 (A1 [A6 5 0] (Ah 0 Rc)) Vz)))
def mz:=fun a0 a1 (k_:U→Q V)=>∀{v2} {zr},k_ v2=N zr→Kp I [0,1,5] [] [] ⟨[pL 0 rS a0,pL 1 rS a1,pI 5 v2],[],[]⟩ (.code (.loop Rc):: [.blk 0,.code Vz]) (Ag [4] [.sc (.v (.bool zr))])
theorem B7e{a0 a1}{n:W}:mz a0 a1 (HS a0 a1 n):=by
 induction n with
 | zero=>intro _ r h; cases h
 | succ n ih=>
  intro v2 r h σ hσ;rw[HS] at h;refine Ai ?_;obtain⟨h3,h⟩|⟨h3,h⟩:=ic h
  ·try simp only[hσ,h3,Rc,C,E,F,G,H,J]
   refine An ?_;obtain⟨x4,h4,h⟩:=ob h;obtain⟨x5,h5,h⟩:=ob h;obtain⟨h6,h⟩|⟨h6,h⟩:=ic h
   ·try simp only[h3,h4,h5,h6,C,E,F,G,H,J]
    refine ih h ?_;try simp only[h3,h4,h5,h6,C,E,F,G,H,J,pL,aM,zA]
   ·try simp only[h3,h4,h5,h6,C,E,F,G,H,J]
    cases h;exact t0
  ·try simp only[hσ,h3,Rc,Vz,C,E,F,G,H,J]
   cases h;exact t0
theorem XZ{a0}{a1}{r}(h:FY a0 a1=N r):FC I 12 [.sc (.sl (Z rS a0)),.sc (.sl (Z rS a1))] [.sc (.v (.bool r))]:=by
 unfold FY at h;refine A9 mixed dI [4] 26 ?_;simp only[dI,C,E,F,G,H,J];obtain⟨h1,h⟩|⟨h1,h⟩:=ic h
 ·try simp only[h1,C,E,F,G,H,J]
  cases h;exact t0
 ·try simp only[h1,C,E,F,G,H,J]
  refine B7e h ?_;try simp only[h1,C,E,F,G,H,J,pL,aM,zA]
/- 146:laws_eqPart -/
def dJ:X0:=(A1 [bo 2 0,bo 3 1,A3 4 L] (Aa [fa 5 2 0,ld 6 5,fa 7 3 0,ld 8 7,bn 9 .neq 6 8] 9 (A2 [A3 4 L]) (Aa [fa 10 2 1,ld 11 10,fa 12 3 1,ld 13 12,bn 14 .neq 11 13] 14 (A2 [A3 4 L]) (Aa [fa 15 2 2,ld 16 15,fa 17 3 2,ld 18 17,bn 19 .neq 16 18] 19 (A2 [A3 4 L]) (A2 [A3 4 T])))))
theorem B0l{a0}{a1}{r}(h:MK a0 a1=N r):FC I 146 [.ag (zC a0),.ag (zC a1)] [.sc (.v (.bool r))]:=by
 unfold MK at h;refine A9 mixed dJ [4] 20 ?_;simp only[dJ,C,E,F,G,H,J];try simp only[C,E,F,G,H,J]
 refine A8 ?_;try simp only[C,E,F,G,H,J]
 refine A8 ?_;obtain⟨h1,h⟩|⟨h1,h⟩:=ic h
 ·try simp only[h1,C,E,F,G,H,J]
  cases h;exact t0
 ·obtain⟨h2,h⟩|⟨h2,h⟩:=ic h
  ·try simp only[h1,h2,C,E,F,G,H,J]
   cases h;exact t0
  ·obtain⟨h3,h⟩|⟨h3,h⟩:=ic h
   ·try simp only[h1,h2,h3,C,E,F,G,H,J]
    cases h;exact t0
   ·try simp only[h1,h2,h3,C,E,F,G,H,J]
    cases h;exact t0
/- 107:laws_eqPartS -/
def Rd:X0:=A1 [Ae [0,1,5] [] []] (A5 (A1 [mv 11 5,mv 12 0,ln 13 12,bn 14 .lss 11 13] (AL 14 .skip (.exit 0))) (A5 (.block 1 (A5 (.drw [o0 (mv 17 0),o0 (mv 18 5),o0 (ia 19 17 18 3),o0 (lw 20 19 3),o0 (mv 21 1),o0 (mv 22 5),o0 (ia 23 21 22 3),o0 (lw 24 23 3),o0 (ca 25 146 [S 20,S 24]),o0 (nt 26 25)]) (Aq 26 (A2 [A3 4 L])))) (.reg [mv 15 5,Ac 16 .add 15 1,mv 5 16])))
def VA:X0:=(A2 [A3 4 T])
def dK:X0:=(A1 [A3 4 L] (Aa [mv 6 0,ln 7 6,mv 8 1,ln 9 8,bn 10 .neq 7 9] 10 (A2 [A3 4 L]) (A5 (A1 [A6 5 0] (Ah 0 Rd)) VA)))
def mq:=fun a0 a1 (k_:U→Q V)=>∀{v2} {zr},k_ v2=N zr→Kp I [0,1,5] [] [] ⟨[pL 0 zC a0,pL 1 zC a1,pI 5 v2],[],[]⟩ (.code (.loop Rd):: [.blk 0,.code VA]) (Ag [4] [.sc (.v (.bool zr))])
theorem B7f{a0 a1}{n:W}:mq a0 a1 (HN a0 a1 n):=by
 induction n with
 | zero=>intro _ r h; cases h
 | succ n ih=>
  intro v2 r h σ hσ;rw[HN] at h;refine Ai ?_;obtain⟨h3,h⟩|⟨h3,h⟩:=ic h
  ·try simp only[hσ,h3,Rd,C,E,F,G,H,J]
   refine An ?_;obtain⟨x4,h4,h⟩:=ob h;obtain⟨x5,h5,h⟩:=ob h;obtain⟨r6,h6,h⟩:=ob h;try simp only[h3,h4,h5,C,E,F,G,H,J]
   refine AF (B0l h6) ?_;obtain⟨h7,h⟩|⟨h7,h⟩:=ic h
   ·try simp only[h3,h4,h5,h7,C,E,F,G,H,J]
    refine ih h ?_;try simp only[h3,h4,h5,h7,C,E,F,G,H,J,pL,aM,zA]
   ·try simp only[h3,h4,h5,h7,C,E,F,G,H,J]
    cases h;exact t0
  ·try simp only[hσ,h3,Rd,VA,C,E,F,G,H,J]
   cases h;exact t0
theorem B0m{a0}{a1}{r}(h:ML a0 a1=N r):FC I 107 [.sc (.sl (Z zC a0)),.sc (.sl (Z zC a1))] [.sc (.v (.bool r))]:=by
 unfold ML at h;refine A9 mixed dK [4] 27 ?_;simp only[dK,C,E,F,G,H,J];obtain⟨h1,h⟩|⟨h1,h⟩:=ic h
 ·try simp only[h1,C,E,F,G,H,J]
  cases h;exact t0
 ·try simp only[h1,C,E,F,G,H,J]
  refine B7f h ?_;try simp only[h1,C,E,F,G,H,J,pL,aM,zA]
/- 72:laws_eqTide -/
def dL:X0:=(A1 [bo 2 0,bo 3 1,A3 4 L] (Aa [fa 5 2 0,ld 6 5,fa 7 3 0,ld 8 7,bn 9 .neq 6 8] 9 (A2 [A3 4 L]) (Aa [fa 10 2 1,ld 11 10,fa 12 3 1,ld 13 12,ca 14 107 [S 11,S 13],nt 15 14] 15 (A2 [A3 4 L]) (A2 [A3 4 T]))))
theorem B0y{a0}{a1}{r}(h:S4 a0 a1=N r):FC I 72 [.ag (Xi.row a0),.ag (Xi.row a1)] [.sc (.v (.bool r))]:=by
 unfold S4 at h;refine A9 mixed dL [4] 16 ?_;simp only[dL,C,E,F,G,H,J];try simp only[C,E,F,G,H,J]
 refine A8 ?_;try simp only[C,E,F,G,H,J]
 refine A8 ?_;obtain⟨h1,h⟩|⟨h1,h⟩:=ic h
 ·try simp only[h1,C,E,F,G,H,J]
  cases h;exact t0
 ·obtain⟨r2,h2,h⟩:=ob h;try simp only[h1,C,E,F,G,H,J]
  refine A4 (B0m h2) ?_;obtain⟨h3,h⟩|⟨h3,h⟩:=ic h
  ·try simp only[h1,h3,C,E,F,G,H,J]
   cases h;exact t0
  ·try simp only[h1,h3,C,E,F,G,H,J]
   cases h;exact t0
/- 108:laws_eqSurge -/
def dM:X0:=(A1 [bo 2 0,bo 3 1,A3 4 L] (Aa [fa 5 2 0,ld 6 5,fa 7 3 0,ld 8 7,bn 9 .neq 6 8] 9 (A2 [A3 4 L]) (Aa [fa 10 2 1,ld 11 10,fa 12 3 1,ld 13 12,bn 14 .neq 11 13] 14 (A2 [A3 4 L]) (Aa [fa 15 2 2,ld 16 15,fa 17 3 2,ld 18 17,bn 19 .neq 16 18] 19 (A2 [A3 4 L]) (A2 [A3 4 T])))))
theorem B0w{a0}{a1}{r}(h:MU a0 a1=N r):FC I 108 [.ag (zD a0),.ag (zD a1)] [.sc (.v (.bool r))]:=by
 unfold MU at h;refine A9 mixed dM [4] 20 ?_;simp only[dM,C,E,F,G,H,J];try simp only[C,E,F,G,H,J]
 refine A8 ?_;try simp only[C,E,F,G,H,J]
 refine A8 ?_;obtain⟨h1,h⟩|⟨h1,h⟩:=ic h
 ·try simp only[h1,C,E,F,G,H,J]
  cases h;exact t0
 ·obtain⟨h2,h⟩|⟨h2,h⟩:=ic h
  ·try simp only[h1,h2,C,E,F,G,H,J]
   cases h;exact t0
  ·obtain⟨h3,h⟩|⟨h3,h⟩:=ic h
   ·try simp only[h1,h2,h3,C,E,F,G,H,J]
    cases h;exact t0
   ·try simp only[h1,h2,h3,C,E,F,G,H,J]
    cases h;exact t0
/- 73:laws_eqSurgeS -/
def Re:X0:=A1 [Ae [0,1,5] [] []] (A5 (A1 [mv 11 5,mv 12 0,ln 13 12,bn 14 .lss 11 13] (AL 14 .skip (.exit 0))) (A5 (.block 1 (A5 (.drw [o0 (mv 17 0),o0 (mv 18 5),o0 (ia 19 17 18 3),o0 (lw 20 19 3),o0 (mv 21 1),o0 (mv 22 5),o0 (ia 23 21 22 3),o0 (lw 24 23 3),o0 (ca 25 108 [S 20,S 24]),o0 (nt 26 25)]) (Aq 26 (A2 [A3 4 L])))) (.reg [mv 15 5,Ac 16 .add 15 1,mv 5 16])))
def VC:X0:=(A2 [A3 4 T])
def dN:X0:=(A1 [A3 4 L] (Aa [mv 6 0,ln 7 6,mv 8 1,ln 9 8,bn 10 .neq 7 9] 10 (A2 [A3 4 L]) (A5 (A1 [A6 5 0] (Ah 0 Re)) VC)))
def nA:=fun a0 a1 (k_:U→Q V)=>∀{v2} {zr},k_ v2=N zr→Kp I [0,1,5] [] [] ⟨[pL 0 zD a0,pL 1 zD a1,pI 5 v2],[],[]⟩ (.code (.loop Re):: [.blk 0,.code VC]) (Ag [4] [.sc (.v (.bool zr))])
theorem B7g{a0 a1}{n:W}:nA a0 a1 (HT a0 a1 n):=by
 induction n with
 | zero=>intro _ r h; cases h
 | succ n ih=>
  intro v2 r h σ hσ;rw[HT] at h;refine Ai ?_;obtain⟨h3,h⟩|⟨h3,h⟩:=ic h
  ·try simp only[hσ,h3,Re,C,E,F,G,H,J]
   refine An ?_;obtain⟨x4,h4,h⟩:=ob h;obtain⟨x5,h5,h⟩:=ob h;obtain⟨r6,h6,h⟩:=ob h;try simp only[h3,h4,h5,C,E,F,G,H,J]
   refine AF (B0w h6) ?_;obtain⟨h7,h⟩|⟨h7,h⟩:=ic h
   ·try simp only[h3,h4,h5,h7,C,E,F,G,H,J]
    refine ih h ?_;try simp only[h3,h4,h5,h7,C,E,F,G,H,J,pL,aM,zA]
   ·try simp only[h3,h4,h5,h7,C,E,F,G,H,J]
    cases h;exact t0
  ·try simp only[hσ,h3,Re,VC,C,E,F,G,H,J]
   cases h;exact t0
theorem B0x{a0}{a1}{r}(h:MV a0 a1=N r):FC I 73 [.sc (.sl (Z zD a0)),.sc (.sl (Z zD a1))] [.sc (.v (.bool r))]:=by
 unfold MV at h;refine A9 mixed dN [4] 27 ?_;simp only[dN,C,E,F,G,H,J];obtain⟨h1,h⟩|⟨h1,h⟩:=ic h
 ·try simp only[h1,C,E,F,G,H,J]
  cases h;exact t0
 ·try simp only[h1,C,E,F,G,H,J]
  refine B7g h ?_;try simp only[h1,C,E,F,G,H,J,pL,aM,zA]
/- 37:laws_eqForecast -/
def dO:X0:=(A1 [bo 2 0,bo 3 1,A3 4 L] (Aa [fa 5 2 0,lw 6 5 2,fa 7 3 0,lw 8 7 2,ca 9 72 [S 6,S 8],nt 10 9] 10 (A2 [A3 4 L]) (Aa [fa 11 2 2,ld 12 11,fa 13 3 2,ld 14 13,ca 15 73 [S 12,S 14],nt 16 15] 16 (A2 [A3 4 L]) (A2 [A3 4 T]))))
theorem B0g{a0}{a1}{r}(h:MF a0 a1=N r):FC I 37 [.ag (Xc.row a0),.ag (Xc.row a1)] [.sc (.v (.bool r))]:=by
 unfold MF at h;refine A9 mixed dO [4] 17 ?_;simp only[dO,C,E,F,G,H,J];try simp only[C,E,F,G,H,J]
 refine A8 ?_;try simp only[C,E,F,G,H,J]
 refine A8 ?_;obtain⟨r1,h1,h⟩:=ob h;try simp only[C,E,F,G,H,J]
 refine A4 (B0y h1) ?_;obtain⟨h2,h⟩|⟨h2,h⟩:=ic h
 ·obtain⟨r3,h3,h⟩:=ob h;try simp only[h2,C,E,F,G,H,J]
  refine A4 (B0x h3) ?_;obtain⟨h4,h⟩|⟨h4,h⟩:=ic h
  ·try simp only[h2,h4,C,E,F,G,H,J]
   cases h;exact t0
  ·try simp only[h2,h4,C,E,F,G,H,J]
   cases h;exact t0
 ·try simp only[h2,C,E,F,G,H,J]
  cases h;exact t0
/- 109:laws_eqPoint -/
def dP:X0:=(A1 [bo 2 0,bo 3 1,A3 4 L] (Aa [fa 5 2 0,ld 6 5,fa 7 3 0,ld 8 7,bn 9 .neq 6 8] 9 (A2 [A3 4 L]) (Aa [fa 10 2 1,ld 11 10,fa 12 3 1,ld 13 12,(O,.beq 14 T (S 11) (S 13))] 14 (A2 [A3 4 L]) (A2 [A3 4 T]))))
theorem B0p{a0}{a1}{r}(h:MO a0 a1=N r):FC I 109 [.ag (X9.row a0),.ag (X9.row a1)] [.sc (.v (.bool r))]:=by
 unfold MO at h;refine A9 mixed dP [4] 15 ?_;simp only[dP,C,E,F,G,H,J];try simp only[C,E,F,G,H,J]
 refine A8 ?_;try simp only[C,E,F,G,H,J]
 refine A8 ?_;obtain⟨h1,h⟩|⟨h1,h⟩:=ic h
 ·obtain⟨h2,h⟩|⟨h2,h⟩:=ic h
  ·try simp only[h1,h2,C,E,F,G,H,J]
   cases h;exact t0
  ·try simp only[h1,h2,C,E,F,G,H,J]
   cases h;exact t0
 ·try simp only[h1,C,E,F,G,H,J]
  cases h;exact t0
/- 74:laws_eqPointS -/
def Rf:X0:=A1 [Ae [0,1,5] [] []] (A5 (A1 [mv 11 5,mv 12 0,ln 13 12,bn 14 .lss 11 13] (AL 14 .skip (.exit 0))) (A5 (.block 1 (A5 (.drw [o0 (mv 17 0),o0 (mv 18 5),o0 (ia 19 17 18 2),o0 (lw 20 19 2),o0 (mv 21 1),o0 (mv 22 5),o0 (ia 23 21 22 2),o0 (lw 24 23 2),o0 (ca 25 109 [S 20,S 24]),o0 (nt 26 25)]) (Aq 26 (A2 [A3 4 L])))) (.reg [mv 15 5,Ac 16 .add 15 1,mv 5 16])))
def VD:X0:=(A2 [A3 4 T])
def dR:X0:=(A1 [A3 4 L] (Aa [mv 6 0,ln 7 6,mv 8 1,ln 9 8,bn 10 .neq 7 9] 10 (A2 [A3 4 L]) (A5 (A1 [A6 5 0] (Ah 0 Rf)) VD)))
def mu:=fun a0 a1 (k_:U→Q V)=>∀{v2} {zr},k_ v2=N zr→Kp I [0,1,5] [] [] ⟨[pL 0 X9.row a0,pL 1 X9.row a1,pI 5 v2],[],[]⟩ (.code (.loop Rf):: [.blk 0,.code VD]) (Ag [4] [.sc (.v (.bool zr))])
theorem B7h{a0 a1}{n:W}:mu a0 a1 (HP a0 a1 n):=by
 induction n with
 | zero=>intro _ r h; cases h
 | succ n ih=>
  intro v2 r h σ hσ;rw[HP] at h;refine Ai ?_;obtain⟨h3,h⟩|⟨h3,h⟩:=ic h
  ·try simp only[hσ,h3,Rf,C,E,F,G,H,J]
   refine An ?_;obtain⟨x4,h4,h⟩:=ob h;obtain⟨x5,h5,h⟩:=ob h;obtain⟨r6,h6,h⟩:=ob h;try simp only[h3,h4,h5,C,E,F,G,H,J]
   refine AF (B0p h6) ?_;obtain⟨h7,h⟩|⟨h7,h⟩:=ic h
   ·try simp only[h3,h4,h5,h7,C,E,F,G,H,J]
    refine ih h ?_;try simp only[h3,h4,h5,h7,C,E,F,G,H,J,pL,aM,zA]
   ·try simp only[h3,h4,h5,h7,C,E,F,G,H,J]
    cases h;exact t0
  ·try simp only[hσ,h3,Rf,VD,C,E,F,G,H,J]
   cases h;exact t0
theorem B0q{a0}{a1}{r}(h:MP a0 a1=N r):FC I 74 [.sc (.sl (Z X9.row a0)),.sc (.sl (Z X9.row a1))] [.sc (.v (.bool r))]:=by
 unfold MP at h;refine A9 mixed dR [4] 27 ?_;simp only[dR,C,E,F,G,H,J];obtain⟨h1,h⟩|⟨h1,h⟩:=ic h
 ·try simp only[h1,C,E,F,G,H,J]
  cases h;exact t0
 ·try simp only[h1,C,E,F,G,H,J]
  refine B7h h ?_;try simp only[h1,C,E,F,G,H,J,pL,aM,zA]
/- 110:laws_eqSegment -/
def dS:X0:=(A1 [bo 2 0,bo 3 1,A3 4 L] (Aa [fa 5 2 0,ld 6 5,fa 7 3 0,ld 8 7,bn 9 .neq 6 8] 9 (A2 [A3 4 L]) (Aa [fa 10 2 1,ld 11 10,fa 12 3 1,ld 13 12,bn 14 .neq 11 13] 14 (A2 [A3 4 L]) (Aa [fa 15 2 2,ld 16 15,fa 17 3 2,ld 18 17,bn 19 .neq 16 18] 19 (A2 [A3 4 L]) (Aa [fa 20 2 3,ld 21 20,fa 22 3 3,ld 23 22,bn 24 .neq 21 23] 24 (A2 [A3 4 L]) (Aa [fa 25 2 4,ld 26 25,fa 27 3 4,ld 28 27,(O,.beq 29 T (S 26) (S 28))] 29 (A2 [A3 4 L]) (A2 [A3 4 T])))))))
theorem B0s{a0}{a1}{r}(h:MQ a0 a1=N r):FC I 110 [.ag (X3.row a0),.ag (X3.row a1)] [.sc (.v (.bool r))]:=by
 unfold MQ at h;refine A9 mixed dS [4] 30 ?_;simp only[dS,C,E,F,G,H,J];try simp only[C,E,F,G,H,J]
 refine A8 ?_;try simp only[C,E,F,G,H,J]
 refine A8 ?_;obtain⟨h1,h⟩|⟨h1,h⟩:=ic h
 ·try simp only[h1,C,E,F,G,H,J]
  cases h;exact t0
 ·obtain⟨h2,h⟩|⟨h2,h⟩:=ic h
  ·try simp only[h1,h2,C,E,F,G,H,J]
   cases h;exact t0
  ·obtain⟨h3,h⟩|⟨h3,h⟩:=ic h
   ·try simp only[h1,h2,h3,C,E,F,G,H,J]
    cases h;exact t0
   ·obtain⟨h4,h⟩|⟨h4,h⟩:=ic h
    ·try simp only[h1,h2,h3,h4,C,E,F,G,H,J]
     cases h;exact t0
    ·obtain⟨h5,h⟩|⟨h5,h⟩:=ic h
     ·try simp only[h1,h2,h3,h4,h5,C,E,F,G,H,J]
      cases h;exact t0
     ·try simp only[h1,h2,h3,h4,h5,C,E,F,G,H,J]
      cases h;exact t0
/- 75:laws_eqSegmentS -/
def Rg:X0:=A1 [Ae [0,1,5] [] []] (A5 (A1 [mv 11 5,mv 12 0,ln 13 12,bn 14 .lss 11 13] (AL 14 .skip (.exit 0))) (A5 (.block 1 (A5 (.drw [o0 (mv 17 0),o0 (mv 18 5),o0 (ia 19 17 18 5),o0 (lw 20 19 5),o0 (mv 21 1),o0 (mv 22 5),o0 (ia 23 21 22 5),o0 (lw 24 23 5),o0 (ca 25 110 [S 20,S 24]),o0 (nt 26 25)]) (Aq 26 (A2 [A3 4 L])))) (.reg [mv 15 5,Ac 16 .add 15 1,mv 5 16])))
def VE:X0:=(A2 [A3 4 T])
def dT:X0:=(A1 [A3 4 L] (Aa [mv 6 0,ln 7 6,mv 8 1,ln 9 8,bn 10 .neq 7 9] 10 (A2 [A3 4 L]) (A5 (A1 [A6 5 0] (Ah 0 Rg)) VE)))
def mw:=fun a0 a1 (k_:U→Q V)=>∀{v2} {zr},k_ v2=N zr→Kp I [0,1,5] [] [] ⟨[pL 0 X3.row a0,pL 1 X3.row a1,pI 5 v2],[],[]⟩ (.code (.loop Rg):: [.blk 0,.code VE]) (Ag [4] [.sc (.v (.bool zr))])
theorem B7i{a0 a1}{n:W}:mw a0 a1 (HQ a0 a1 n):=by
 induction n with
 | zero=>intro _ r h; cases h
 | succ n ih=>
  intro v2 r h σ hσ;rw[HQ] at h;refine Ai ?_;obtain⟨h3,h⟩|⟨h3,h⟩:=ic h
  ·try simp only[hσ,h3,Rg,C,E,F,G,H,J]
   refine An ?_;obtain⟨x4,h4,h⟩:=ob h;obtain⟨x5,h5,h⟩:=ob h;obtain⟨r6,h6,h⟩:=ob h;try simp only[h3,h4,h5,C,E,F,G,H,J]
   refine AF (B0s h6) ?_;obtain⟨h7,h⟩|⟨h7,h⟩:=ic h
   ·try simp only[h3,h4,h5,h7,C,E,F,G,H,J]
    refine ih h ?_;try simp only[h3,h4,h5,h7,C,E,F,G,H,J,pL,aM,zA]
   ·try simp only[h3,h4,h5,h7,C,E,F,G,H,J]
    cases h;exact t0
  ·try simp only[hσ,h3,Rg,VE,C,E,F,G,H,J]
   cases h;exact t0
theorem B0t{a0}{a1}{r}(h:MR a0 a1=N r):FC I 75 [.sc (.sl (Z X3.row a0)),.sc (.sl (Z X3.row a1))] [.sc (.v (.bool r))]:=by
 unfold MR at h;refine A9 mixed dT [4] 27 ?_;simp only[dT,C,E,F,G,H,J];obtain⟨h1,h⟩|⟨h1,h⟩:=ic h
 ·try simp only[h1,C,E,F,G,H,J]
  cases h;exact t0
 ·try simp only[h1,C,E,F,G,H,J]
  refine B7i h ?_;try simp only[h1,C,E,F,G,H,J,pL,aM,zA]
/- 38:laws_eqChart -/
def dU:X0:=(A1 [bo 2 0,bo 3 1,A3 4 L] (Aa [fa 5 2 0,ld 6 5,fa 7 3 0,ld 8 7,ca 9 74 [S 6,S 8],nt 10 9] 10 (A2 [A3 4 L]) (Aa [fa 11 2 1,ld 12 11,fa 13 3 1,ld 14 13,ca 15 75 [S 12,S 14],nt 16 15] 16 (A2 [A3 4 L]) (A2 [A3 4 T]))))
theorem B0e{a0}{a1}{r}(h:ME a0 a1=N r):FC I 38 [.ag (X6.row a0),.ag (X6.row a1)] [.sc (.v (.bool r))]:=by
 unfold ME at h;refine A9 mixed dU [4] 17 ?_;simp only[dU,C,E,F,G,H,J];try simp only[C,E,F,G,H,J]
 refine A8 ?_;try simp only[C,E,F,G,H,J]
 refine A8 ?_;obtain⟨r1,h1,h⟩:=ob h;try simp only[C,E,F,G,H,J]
 refine A4 (B0q h1) ?_;obtain⟨h2,h⟩|⟨h2,h⟩:=ic h
 ·obtain⟨r3,h3,h⟩:=ob h;try simp only[h2,C,E,F,G,H,J]
  refine A4 (B0t h3) ?_;obtain⟨h4,h⟩|⟨h4,h⟩:=ic h
  ·try simp only[h2,h4,C,E,F,G,H,J]
   cases h;exact t0
  ·try simp only[h2,h4,C,E,F,G,H,J]
   cases h;exact t0
 ·try simp only[h2,C,E,F,G,H,J]
  cases h;exact t0
/- 76:laws_eqShip -/
def dV:X0:=(A1 [bo 2 0,bo 3 1,A3 4 L] (Aa [fa 5 2 0,ld 6 5,fa 7 3 0,ld 8 7,bn 9 .neq 6 8] 9 (A2 [A3 4 L]) (Aa [fa 10 2 1,ld 11 10,fa 12 3 1,ld 13 12,bn 14 .neq 11 13] 14 (A2 [A3 4 L]) (Aa [fa 15 2 2,ld 16 15,fa 17 3 2,ld 18 17,bn 19 .neq 16 18] 19 (A2 [A3 4 L]) (Aa [fa 20 2 3,ld 21 20,fa 22 3 3,ld 23 22,bn 24 .neq 21 23] 24 (A2 [A3 4 L]) (Aa [fa 25 2 4,ld 26 25,fa 27 3 4,ld 28 27,bn 29 .neq 26 28] 29 (A2 [A3 4 L]) (Aa [fa 30 2 5,ld 31 30,fa 32 3 5,ld 33 32,(O,.beq 34 T (S 31) (S 33))] 34 (A2 [A3 4 L]) (A2 [A3 4 T]))))))))
theorem B0u{a0}{a1}{r}(h:MS a0 a1=N r):FC I 76 [.ag (X5.row a0),.ag (X5.row a1)] [.sc (.v (.bool r))]:=by
 unfold MS at h;refine A9 mixed dV [4] 35 ?_;simp only[dV,C,E,F,G,H,J];try simp only[C,E,F,G,H,J]
 refine A8 ?_;try simp only[C,E,F,G,H,J]
 refine A8 ?_;obtain⟨h1,h⟩|⟨h1,h⟩:=ic h
 ·obtain⟨h2,h⟩|⟨h2,h⟩:=ic h
  ·try simp only[h1,h2,C,E,F,G,H,J]
   cases h;exact t0
  ·obtain⟨h3,h⟩|⟨h3,h⟩:=ic h
   ·try simp only[h1,h2,h3,C,E,F,G,H,J]
    cases h;exact t0
   ·obtain⟨h4,h⟩|⟨h4,h⟩:=ic h
    ·try simp only[h1,h2,h3,h4,C,E,F,G,H,J]
     cases h;exact t0
    ·obtain⟨h5,h⟩|⟨h5,h⟩:=ic h
     ·try simp only[h1,h2,h3,h4,h5,C,E,F,G,H,J]
      cases h;exact t0
     ·obtain⟨h6,h⟩|⟨h6,h⟩:=ic h
      ·try simp only[h1,h2,h3,h4,h5,h6,C,E,F,G,H,J]
       cases h;exact t0
      ·try simp only[h1,h2,h3,h4,h5,h6,C,E,F,G,H,J]
       cases h;exact t0
 ·try simp only[h1,C,E,F,G,H,J]
  cases h;exact t0
/- 39:laws_eqShipS -/
def Rh:X0:=A1 [Ae [0,1,5] [] []] (A5 (A1 [mv 11 5,mv 12 0,ln 13 12,bn 14 .lss 11 13] (AL 14 .skip (.exit 0))) (A5 (.block 1 (A5 (.drw [o0 (mv 17 0),o0 (mv 18 5),o0 (ia 19 17 18 6),o0 (lw 20 19 6),o0 (mv 21 1),o0 (mv 22 5),o0 (ia 23 21 22 6),o0 (lw 24 23 6),o0 (ca 25 76 [S 20,S 24]),o0 (nt 26 25)]) (Aq 26 (A2 [A3 4 L])))) (.reg [mv 15 5,Ac 16 .add 15 1,mv 5 16])))
def VF:X0:=(A2 [A3 4 T])
def dW:X0:=(A1 [A3 4 L] (Aa [mv 6 0,ln 7 6,mv 8 1,ln 9 8,bn 10 .neq 7 9] 10 (A2 [A3 4 L]) (A5 (A1 [A6 5 0] (Ah 0 Rh)) VF)))
def my:=fun a0 a1 (k_:U→Q V)=>∀{v2} {zr},k_ v2=N zr→Kp I [0,1,5] [] [] ⟨[pL 0 X5.row a0,pL 1 X5.row a1,pI 5 v2],[],[]⟩ (.code (.loop Rh):: [.blk 0,.code VF]) (Ag [4] [.sc (.v (.bool zr))])
theorem B7k{a0 a1}{n:W}:my a0 a1 (HR a0 a1 n):=by
 induction n with
 | zero=>intro _ r h; cases h
 | succ n ih=>
  intro v2 r h σ hσ;rw[HR] at h;refine Ai ?_;obtain⟨h3,h⟩|⟨h3,h⟩:=ic h
  ·try simp only[hσ,h3,Rh,C,E,F,G,H,J]
   refine An ?_;obtain⟨x4,h4,h⟩:=ob h;obtain⟨x5,h5,h⟩:=ob h;obtain⟨r6,h6,h⟩:=ob h;try simp only[h3,h4,h5,C,E,F,G,H,J]
   refine AF (B0u h6) ?_;obtain⟨h7,h⟩|⟨h7,h⟩:=ic h
   ·try simp only[h3,h4,h5,h7,C,E,F,G,H,J]
    refine ih h ?_;try simp only[h3,h4,h5,h7,C,E,F,G,H,J,pL,aM,zA]
   ·try simp only[h3,h4,h5,h7,C,E,F,G,H,J]
    cases h;exact t0
  ·try simp only[hσ,h3,Rh,VF,C,E,F,G,H,J]
   cases h;exact t0
theorem B0v{a0}{a1}{r}(h:MT a0 a1=N r):FC I 39 [.sc (.sl (Z X5.row a0)),.sc (.sl (Z X5.row a1))] [.sc (.v (.bool r))]:=by
 unfold MT at h;refine A9 mixed dW [4] 27 ?_;simp only[dW,C,E,F,G,H,J];obtain⟨h1,h⟩|⟨h1,h⟩:=ic h
 ·try simp only[h1,C,E,F,G,H,J]
  cases h;exact t0
 ·try simp only[h1,C,E,F,G,H,J]
  refine B7k h ?_;try simp only[h1,C,E,F,G,H,J,pL,aM,zA]
/- 40:laws_eqRegime -/
def dX:X0:=(A1 [bo 2 0,bo 3 1,A3 4 L] (Aa [fa 5 2 0,ld 6 5,fa 7 3 0,ld 8 7,bn 9 .neq 6 8] 9 (A2 [A3 4 L]) (Aa [fa 10 2 1,ld 11 10,fa 12 3 1,ld 13 12,(O,.beq 14 T (S 11) (S 13))] 14 (A2 [A3 4 L]) (A2 [A3 4 T]))))
theorem B0r{a0}{a1}{r}(h:S3 a0 a1=N r):FC I 40 [.ag (Xg.row a0),.ag (Xg.row a1)] [.sc (.v (.bool r))]:=by
 unfold S3 at h;refine A9 mixed dX [4] 15 ?_;simp only[dX,C,E,F,G,H,J];try simp only[C,E,F,G,H,J]
 refine A8 ?_;try simp only[C,E,F,G,H,J]
 refine A8 ?_;obtain⟨h1,h⟩|⟨h1,h⟩:=ic h
 ·try simp only[h1,C,E,F,G,H,J]
  cases h;exact t0
 ·obtain⟨h2,h⟩|⟨h2,h⟩:=ic h
  ·try simp only[h1,h2,C,E,F,G,H,J]
   cases h;exact t0
  ·try simp only[h1,h2,C,E,F,G,H,J]
   cases h;exact t0
/- 77:laws_eqIntS -/
def Ri:X0:=A1 [Ae [0,1,5] [] []] (A5 (A1 [mv 11 5,mv 12 0,ln 13 12,bn 14 .lss 11 13] (AL 14 .skip (.exit 0))) (A5 (.block 1 (A5 (.drw [o0 (mv 17 0),o0 (mv 18 5),o0 (ia 19 17 18 1),o0 (ld 20 19),o0 (mv 21 1),o0 (mv 22 5),o0 (ia 23 21 22 1),o0 (ld 24 23),o0 (bn 25 .neq 20 24)]) (Aq 25 (A2 [A3 4 L])))) (.reg [mv 15 5,Ac 16 .add 15 1,mv 5 16])))
def VG:X0:=(A2 [A3 4 T])
def dY:X0:=(A1 [A3 4 L] (Aa [mv 6 0,ln 7 6,mv 8 1,ln 9 8,bn 10 .neq 7 9] 10 (A2 [A3 4 L]) (A5 (A1 [A6 5 0] (Ah 0 Ri)) VG)))
def mn:=fun a0 a1 (k_:U→Q V)=>∀{v2} {zr},k_ v2=N zr→Kp I [0,1,5] [] [] ⟨[pL 0 rI a0,pL 1 rI a1,pI 5 v2],[],[]⟩ (.code (.loop Ri):: [.blk 0,.code VG]) (Ag [4] [.sc (.v (.bool zr))])
theorem B7l{a0 a1}{n:W}:mn a0 a1 (HL a0 a1 n):=by
 induction n with
 | zero=>intro _ r h; cases h
 | succ n ih=>
  intro v2 r h σ hσ;rw[HL] at h;refine Ai ?_;obtain⟨h3,h⟩|⟨h3,h⟩:=ic h
  ·try simp only[hσ,h3,Ri,C,E,F,G,H,J]
   refine An ?_;obtain⟨x4,h4,h⟩:=ob h;obtain⟨x5,h5,h⟩:=ob h;obtain⟨h6,h⟩|⟨h6,h⟩:=ic h
   ·try simp only[h3,h4,h5,h6,C,E,F,G,H,J]
    cases h;exact t0
   ·try simp only[h3,h4,h5,h6,C,E,F,G,H,J]
    refine ih h ?_;try simp only[h3,h4,h5,h6,C,E,F,G,H,J,pL,aM,zA]
  ·try simp only[hσ,h3,Ri,VG,C,E,F,G,H,J]
   cases h;exact t0
theorem B0i{a0}{a1}{r}(h:MH a0 a1=N r):FC I 77 [.sc (.sl (Z rI a0)),.sc (.sl (Z rI a1))] [.sc (.v (.bool r))]:=by
 unfold MH at h;refine A9 mixed dY [4] 26 ?_;simp only[dY,C,E,F,G,H,J];obtain⟨h1,h⟩|⟨h1,h⟩:=ic h
 ·try simp only[h1,C,E,F,G,H,J]
  cases h;exact t0
 ·try simp only[h1,C,E,F,G,H,J]
  refine B7l h ?_;try simp only[h1,C,E,F,G,H,J,pL,aM,zA]
/- 41:laws_eqCrew -/
def dZ:X0:=(A1 [bo 2 0,bo 3 1,A3 4 L] (Aa [fa 5 2 0,ld 6 5,fa 7 3 0,ld 8 7,bn 9 .neq 6 8] 9 (A2 [A3 4 L]) (Aa [fa 10 2 1,ld 11 10,fa 12 3 1,ld 13 12,bn 14 .neq 11 13] 14 (A2 [A3 4 L]) (Aa [fa 15 2 2,ld 16 15,fa 17 3 2,ld 18 17,bn 19 .neq 16 18] 19 (A2 [A3 4 L]) (Aa [fa 20 2 3,ld 21 20,fa 22 3 3,ld 23 22,ca 24 77 [S 21,S 23],nt 25 24] 25 (A2 [A3 4 L]) (A2 [A3 4 T]))))))
theorem B0f{a0}{a1}{r}(h:S2 a0 a1=N r):FC I 41 [.ag (Xj.row a0),.ag (Xj.row a1)] [.sc (.v (.bool r))]:=by
 unfold S2 at h;refine A9 mixed dZ [4] 26 ?_;simp only[dZ,C,E,F,G,H,J];try simp only[C,E,F,G,H,J]
 refine A8 ?_;try simp only[C,E,F,G,H,J]
 refine A8 ?_;obtain⟨h1,h⟩|⟨h1,h⟩:=ic h
 ·try simp only[h1,C,E,F,G,H,J]
  cases h;exact t0
 ·obtain⟨h2,h⟩|⟨h2,h⟩:=ic h
  ·try simp only[h1,h2,C,E,F,G,H,J]
   cases h;exact t0
  ·obtain⟨h3,h⟩|⟨h3,h⟩:=ic h
   ·try simp only[h1,h2,h3,C,E,F,G,H,J]
    cases h;exact t0
   ·obtain⟨r4,h4,h⟩:=ob h;try simp only[h1,h2,h3,C,E,F,G,H,J]
    refine A4 (B0i h4) ?_;obtain⟨h5,h⟩|⟨h5,h⟩:=ic h
    ·try simp only[h1,h2,h3,h5,C,E,F,G,H,J]
     cases h;exact t0
    ·try simp only[h1,h2,h3,h5,C,E,F,G,H,J]
     cases h;exact t0
/- 13:laws_eqHarbour -/
def da:X0:=(A1 [bo 2 0,bo 3 1,A3 4 L] (Aa [fa 5 2 0,lw 6 5 3,fa 7 3 0,lw 8 7 3,ca 9 37 [S 6,S 8],nt 10 9] 10 (A2 [A3 4 L]) (Aa [fa 11 2 3,lw 12 11 2,fa 13 3 3,lw 14 13 2,ca 15 38 [S 12,S 14],nt 16 15] 16 (A2 [A3 4 L]) (Aa [fa 17 2 5,ld 18 17,fa 19 3 5,ld 20 19,ca 21 39 [S 18,S 20],nt 22 21] 22 (A2 [A3 4 L]) (Aa [fa 23 2 6,lw 24 23 2,fa 25 3 6,lw 26 25 2,ca 27 40 [S 24,S 26],nt 28 27] 28 (A2 [A3 4 L]) (Aa [fa 29 2 8,lw 30 29 4,fa 31 3 8,lw 32 31 4,ca 33 41 [S 30,S 32],nt 34 33] 34 (A2 [A3 4 L]) (A2 [A3 4 T])))))))
theorem B0h{a0}{a1}{r}(h:MG a0 a1=N r):FC I 13 [.ag (X7.row a0),.ag (X7.row a1)] [.sc (.v (.bool r))]:=by
 unfold MG at h;refine A9 mixed da [4] 35 ?_;simp only[da,C,E,F,G,H,J];try simp only[C,E,F,G,H,J]
 refine A8 ?_;try simp only[C,E,F,G,H,J]
 refine A8 ?_;obtain⟨r1,h1,h⟩:=ob h;try simp only[C,E,F,G,H,J]
 refine A4 (B0g h1) ?_;obtain⟨h2,h⟩|⟨h2,h⟩:=ic h
 ·obtain⟨r3,h3,h⟩:=ob h;try simp only[h2,C,E,F,G,H,J]
  refine A4 (B0e h3) ?_;obtain⟨h4,h⟩|⟨h4,h⟩:=ic h
  ·obtain⟨r5,h5,h⟩:=ob h;try simp only[h2,h4,C,E,F,G,H,J]
   refine A4 (B0v h5) ?_;obtain⟨h6,h⟩|⟨h6,h⟩:=ic h
   ·obtain⟨r7,h7,h⟩:=ob h;try simp only[h2,h4,h6,C,E,F,G,H,J]
    refine A4 (B0r h7) ?_;obtain⟨h8,h⟩|⟨h8,h⟩:=ic h
    ·obtain⟨r9,h9,h⟩:=ob h;try simp only[h2,h4,h6,h8,C,E,F,G,H,J]
     refine A4 (B0f h9) ?_;obtain⟨h10,h⟩|⟨h10,h⟩:=ic h
     ·try simp only[h2,h4,h6,h8,h10,C,E,F,G,H,J]
      cases h;exact t0
     ·try simp only[h2,h4,h6,h8,h10,C,E,F,G,H,J]
      cases h;exact t0
    ·try simp only[h2,h4,h6,h8,C,E,F,G,H,J]
     cases h;exact t0
   ·try simp only[h2,h4,h6,C,E,F,G,H,J]
    cases h;exact t0
  ·try simp only[h2,h4,C,E,F,G,H,J]
   cases h;exact t0
 ·try simp only[h2,C,E,F,G,H,J]
  cases h;exact t0
/- 42:laws_eqCall -/
def dc:X0:=(A1 [bo 2 0,bo 3 1,A3 4 L] (Aa [fa 5 2 0,ld 6 5,fa 7 3 0,ld 8 7,bn 9 .neq 6 8] 9 (A2 [A3 4 L]) (Aa [fa 10 2 1,ld 11 10,fa 12 3 1,ld 13 12,bn 14 .neq 11 13] 14 (A2 [A3 4 L]) (Aa [fa 15 2 2,ld 16 15,fa 17 3 2,ld 18 17,bn 19 .neq 16 18] 19 (A2 [A3 4 L]) (Aa [fa 20 2 3,ld 21 20,fa 22 3 3,ld 23 22,bn 24 .neq 21 23] 24 (A2 [A3 4 L]) (Aa [fa 25 2 4,ld 26 25,fa 27 3 4,ld 28 27,bn 29 .neq 26 28] 29 (A2 [A3 4 L]) (A2 [A3 4 T])))))))
theorem B0c{a0}{a1}{r}(h:S0 a0 a1=N r):FC I 42 [.ag (zE a0),.ag (zE a1)] [.sc (.v (.bool r))]:=by
 unfold S0 at h;refine A9 mixed dc [4] 30 ?_;simp only[dc,C,E,F,G,H,J];try simp only[C,E,F,G,H,J]
 refine A8 ?_;try simp only[C,E,F,G,H,J]
 refine A8 ?_;obtain⟨h1,h⟩|⟨h1,h⟩:=ic h
 ·try simp only[h1,C,E,F,G,H,J]
  cases h;exact t0
 ·obtain⟨h2,h⟩|⟨h2,h⟩:=ic h
  ·try simp only[h1,h2,C,E,F,G,H,J]
   cases h;exact t0
  ·obtain⟨h3,h⟩|⟨h3,h⟩:=ic h
   ·try simp only[h1,h2,h3,C,E,F,G,H,J]
    cases h;exact t0
   ·obtain⟨h4,h⟩|⟨h4,h⟩:=ic h
    ·try simp only[h1,h2,h3,h4,C,E,F,G,H,J]
     cases h;exact t0
    ·obtain⟨h5,h⟩|⟨h5,h⟩:=ic h
     ·try simp only[h1,h2,h3,h4,h5,C,E,F,G,H,J]
      cases h;exact t0
     ·try simp only[h1,h2,h3,h4,h5,C,E,F,G,H,J]
      cases h;exact t0
/- 14:laws_eqCallS -/
def Rj:X0:=A1 [Ae [0,1,5] [] []] (A5 (A1 [mv 11 5,mv 12 0,ln 13 12,bn 14 .lss 11 13] (AL 14 .skip (.exit 0))) (A5 (.block 1 (A5 (.drw [o0 (mv 17 0),o0 (mv 18 5),o0 (ia 19 17 18 5),o0 (lw 20 19 5),o0 (mv 21 1),o0 (mv 22 5),o0 (ia 23 21 22 5),o0 (lw 24 23 5),o0 (ca 25 42 [S 20,S 24]),o0 (nt 26 25)]) (Aq 26 (A2 [A3 4 L])))) (.reg [mv 15 5,Ac 16 .add 15 1,mv 5 16])))
def VH:X0:=(A2 [A3 4 T])
def de:X0:=(A1 [A3 4 L] (Aa [mv 6 0,ln 7 6,mv 8 1,ln 9 8,bn 10 .neq 7 9] 10 (A2 [A3 4 L]) (A5 (A1 [A6 5 0] (Ah 0 Rj)) VH)))
def mh:=fun a0 a1 (k_:U→Q V)=>∀{v2} {zr},k_ v2=N zr→Kp I [0,1,5] [] [] ⟨[pL 0 zE a0,pL 1 zE a1,pI 5 v2],[],[]⟩ (.code (.loop Rj):: [.blk 0,.code VH]) (Ag [4] [.sc (.v (.bool zr))])
theorem B7m{a0 a1}{n:W}:mh a0 a1 (HK a0 a1 n):=by
 induction n with
 | zero=>intro _ r h; cases h
 | succ n ih=>
  intro v2 r h σ hσ;rw[HK] at h;refine Ai ?_;obtain⟨h3,h⟩|⟨h3,h⟩:=ic h
  ·try simp only[hσ,h3,Rj,C,E,F,G,H,J]
   refine An ?_;obtain⟨x4,h4,h⟩:=ob h;obtain⟨x5,h5,h⟩:=ob h;obtain⟨r6,h6,h⟩:=ob h;try simp only[h3,h4,h5,C,E,F,G,H,J]
   refine AF (B0c h6) ?_;obtain⟨h7,h⟩|⟨h7,h⟩:=ic h
   ·try simp only[h3,h4,h5,h7,C,E,F,G,H,J]
    refine ih h ?_;try simp only[h3,h4,h5,h7,C,E,F,G,H,J,pL,aM,zA]
   ·try simp only[h3,h4,h5,h7,C,E,F,G,H,J]
    cases h;exact t0
  ·try simp only[hσ,h3,Rj,VH,C,E,F,G,H,J]
   cases h;exact t0
theorem B0d{a0}{a1}{r}(h:MD a0 a1=N r):FC I 14 [.sc (.sl (Z zE a0)),.sc (.sl (Z zE a1))] [.sc (.v (.bool r))]:=by
 unfold MD at h;refine A9 mixed de [4] 27 ?_;simp only[de,C,E,F,G,H,J];obtain⟨h1,h⟩|⟨h1,h⟩:=ic h
 ·try simp only[h1,C,E,F,G,H,J]
  cases h;exact t0
 ·try simp only[h1,C,E,F,G,H,J]
  refine B7m h ?_;try simp only[h1,C,E,F,G,H,J,pL,aM,zA]
/- 111:laws_eqPassage -/
def dg:X0:=(A1 [bo 2 0,bo 3 1,A3 4 L] (Aa [fa 5 2 0,ld 6 5,fa 7 3 0,ld 8 7,bn 9 .neq 6 8] 9 (A2 [A3 4 L]) (Aa [fa 10 2 1,ld 11 10,fa 12 3 1,ld 13 12,bn 14 .neq 11 13] 14 (A2 [A3 4 L]) (Aa [fa 15 2 2,ld 16 15,fa 17 3 2,ld 18 17,(O,.beq 19 T (S 16) (S 18))] 19 (A2 [A3 4 L]) (Aa [fa 20 2 3,ld 21 20,fa 22 3 3,ld 23 22,bn 24 .neq 21 23] 24 (A2 [A3 4 L]) (Aa [fa 25 2 4,ld 26 25,fa 27 3 4,ld 28 27,bn 29 .neq 26 28] 29 (A2 [A3 4 L]) (A2 [A3 4 T])))))))
theorem B0n{a0}{a1}{r}(h:MM a0 a1=N r):FC I 111 [.ag (X1.row a0),.ag (X1.row a1)] [.sc (.v (.bool r))]:=by
 unfold MM at h;refine A9 mixed dg [4] 30 ?_;simp only[dg,C,E,F,G,H,J];try simp only[C,E,F,G,H,J]
 refine A8 ?_;try simp only[C,E,F,G,H,J]
 refine A8 ?_;obtain⟨h1,h⟩|⟨h1,h⟩:=ic h
 ·try simp only[h1,C,E,F,G,H,J]
  cases h;exact t0
 ·obtain⟨h2,h⟩|⟨h2,h⟩:=ic h
  ·try simp only[h1,h2,C,E,F,G,H,J]
   cases h;exact t0
  ·obtain⟨h3,h⟩|⟨h3,h⟩:=ic h
   ·obtain⟨h4,h⟩|⟨h4,h⟩:=ic h
    ·try simp only[h1,h2,h3,h4,C,E,F,G,H,J]
     cases h;exact t0
    ·obtain⟨h5,h⟩|⟨h5,h⟩:=ic h
     ·try simp only[h1,h2,h3,h4,h5,C,E,F,G,H,J]
      cases h;exact t0
     ·try simp only[h1,h2,h3,h4,h5,C,E,F,G,H,J]
      cases h;exact t0
   ·try simp only[h1,h2,h3,C,E,F,G,H,J]
    cases h;exact t0
/- 78:laws_eqPassageS -/
def Rk:X0:=A1 [Ae [0,1,5] [] []] (A5 (A1 [mv 11 5,mv 12 0,ln 13 12,bn 14 .lss 11 13] (AL 14 .skip (.exit 0))) (A5 (.block 1 (A5 (.drw [o0 (mv 17 0),o0 (mv 18 5),o0 (ia 19 17 18 5),o0 (lw 20 19 5),o0 (mv 21 1),o0 (mv 22 5),o0 (ia 23 21 22 5),o0 (lw 24 23 5),o0 (ca 25 111 [S 20,S 24]),o0 (nt 26 25)]) (Aq 26 (A2 [A3 4 L])))) (.reg [mv 15 5,Ac 16 .add 15 1,mv 5 16])))
def VI:X0:=(A2 [A3 4 T])
def dh:X0:=(A1 [A3 4 L] (Aa [mv 6 0,ln 7 6,mv 8 1,ln 9 8,bn 10 .neq 7 9] 10 (A2 [A3 4 L]) (A5 (A1 [A6 5 0] (Ah 0 Rk)) VI)))
def mr:=fun a0 a1 (k_:U→Q V)=>∀{v2} {zr},k_ v2=N zr→Kp I [0,1,5] [] [] ⟨[pL 0 X1.row a0,pL 1 X1.row a1,pI 5 v2],[],[]⟩ (.code (.loop Rk):: [.blk 0,.code VI]) (Ag [4] [.sc (.v (.bool zr))])
theorem B7n{a0 a1}{n:W}:mr a0 a1 (HO a0 a1 n):=by
 induction n with
 | zero=>intro _ r h; cases h
 | succ n ih=>
  intro v2 r h σ hσ;rw[HO] at h;refine Ai ?_;obtain⟨h3,h⟩|⟨h3,h⟩:=ic h
  ·try simp only[hσ,h3,Rk,C,E,F,G,H,J]
   refine An ?_;obtain⟨x4,h4,h⟩:=ob h;obtain⟨x5,h5,h⟩:=ob h;obtain⟨r6,h6,h⟩:=ob h;try simp only[h3,h4,h5,C,E,F,G,H,J]
   refine AF (B0n h6) ?_;obtain⟨h7,h⟩|⟨h7,h⟩:=ic h
   ·try simp only[h3,h4,h5,h7,C,E,F,G,H,J]
    refine ih h ?_;try simp only[h3,h4,h5,h7,C,E,F,G,H,J,pL,aM,zA]
   ·try simp only[h3,h4,h5,h7,C,E,F,G,H,J]
    cases h;exact t0
  ·try simp only[hσ,h3,Rk,VI,C,E,F,G,H,J]
   cases h;exact t0
theorem B0o{a0}{a1}{r}(h:MN a0 a1=N r):FC I 78 [.sc (.sl (Z X1.row a0)),.sc (.sl (Z X1.row a1))] [.sc (.v (.bool r))]:=by
 unfold MN at h;refine A9 mixed dh [4] 27 ?_;simp only[dh,C,E,F,G,H,J];obtain⟨h1,h⟩|⟨h1,h⟩:=ic h
 ·try simp only[h1,C,E,F,G,H,J]
  cases h;exact t0
 ·try simp only[h1,C,E,F,G,H,J]
  refine B7n h ?_;try simp only[h1,C,E,F,G,H,J,pL,aM,zA]
/- 43:laws_eqOption -/
def di:X0:=(A1 [bo 2 0,bo 3 1,A3 4 L] (Aa [fa 5 2 0,ld 6 5,fa 7 3 0,ld 8 7,bn 9 .neq 6 8] 9 (A2 [A3 4 L]) (Aa [fa 10 2 1,ld 11 10,fa 12 3 1,ld 13 12,bn 14 .neq 11 13] 14 (A2 [A3 4 L]) (Aa [fa 15 2 2,ld 16 15,fa 17 3 2,ld 18 17,bn 19 .neq 16 18] 19 (A2 [A3 4 L]) (Aa [fa 20 2 3,ld 21 20,fa 22 3 3,ld 23 22,ca 24 78 [S 21,S 23],nt 25 24] 25 (A2 [A3 4 L]) (A2 [A3 4 T]))))))
theorem B0j{a0}{a1}{r}(h:MI a0 a1=N r):FC I 43 [.ag (X2.row a0),.ag (X2.row a1)] [.sc (.v (.bool r))]:=by
 unfold MI at h;refine A9 mixed di [4] 26 ?_;simp only[di,C,E,F,G,H,J];try simp only[C,E,F,G,H,J]
 refine A8 ?_;try simp only[C,E,F,G,H,J]
 refine A8 ?_;obtain⟨h1,h⟩|⟨h1,h⟩:=ic h
 ·try simp only[h1,C,E,F,G,H,J]
  cases h;exact t0
 ·obtain⟨h2,h⟩|⟨h2,h⟩:=ic h
  ·try simp only[h1,h2,C,E,F,G,H,J]
   cases h;exact t0
  ·obtain⟨h3,h⟩|⟨h3,h⟩:=ic h
   ·try simp only[h1,h2,h3,C,E,F,G,H,J]
    cases h;exact t0
   ·obtain⟨r4,h4,h⟩:=ob h;try simp only[h1,h2,h3,C,E,F,G,H,J]
    refine A4 (B0o h4) ?_;obtain⟨h5,h⟩|⟨h5,h⟩:=ic h
    ·try simp only[h1,h2,h3,h5,C,E,F,G,H,J]
     cases h;exact t0
    ·try simp only[h1,h2,h3,h5,C,E,F,G,H,J]
     cases h;exact t0
/- 15:laws_eqOptionS -/
def Rm:X0:=A1 [Ae [0,1,5] [] []] (A5 (A1 [mv 11 5,mv 12 0,ln 13 12,bn 14 .lss 11 13] (AL 14 .skip (.exit 0))) (A5 (.block 1 (A5 (.drw [o0 (mv 17 0),o0 (mv 18 5),o0 (ia 19 17 18 4),o0 (lw 20 19 4),o0 (mv 21 1),o0 (mv 22 5),o0 (ia 23 21 22 4),o0 (lw 24 23 4),o0 (ca 25 43 [S 20,S 24]),o0 (nt 26 25)]) (Aq 26 (A2 [A3 4 L])))) (.reg [mv 15 5,Ac 16 .add 15 1,mv 5 16])))
def VJ:X0:=(A2 [A3 4 T])
def dj:X0:=(A1 [A3 4 L] (Aa [mv 6 0,ln 7 6,mv 8 1,ln 9 8,bn 10 .neq 7 9] 10 (A2 [A3 4 L]) (A5 (A1 [A6 5 0] (Ah 0 Rm)) VJ)))
def mp:=fun a0 a1 (k_:U→Q V)=>∀{v2} {zr},k_ v2=N zr→Kp I [0,1,5] [] [] ⟨[pL 0 X2.row a0,pL 1 X2.row a1,pI 5 v2],[],[]⟩ (.code (.loop Rm):: [.blk 0,.code VJ]) (Ag [4] [.sc (.v (.bool zr))])
theorem B7o{a0 a1}{n:W}:mp a0 a1 (HM a0 a1 n):=by
 induction n with
 | zero=>intro _ r h; cases h
 | succ n ih=>
  intro v2 r h σ hσ;rw[HM] at h;refine Ai ?_;obtain⟨h3,h⟩|⟨h3,h⟩:=ic h
  ·try simp only[hσ,h3,Rm,C,E,F,G,H,J]
   refine An ?_;obtain⟨x4,h4,h⟩:=ob h;obtain⟨x5,h5,h⟩:=ob h;obtain⟨r6,h6,h⟩:=ob h;try simp only[h3,h4,h5,C,E,F,G,H,J]
   refine AF (B0j h6) ?_;obtain⟨h7,h⟩|⟨h7,h⟩:=ic h
   ·try simp only[h3,h4,h5,h7,C,E,F,G,H,J]
    refine ih h ?_;try simp only[h3,h4,h5,h7,C,E,F,G,H,J,pL,aM,zA]
   ·try simp only[h3,h4,h5,h7,C,E,F,G,H,J]
    cases h;exact t0
  ·try simp only[hσ,h3,Rm,VJ,C,E,F,G,H,J]
   cases h;exact t0
theorem B0k{a0}{a1}{r}(h:MJ a0 a1=N r):FC I 15 [.sc (.sl (Z X2.row a0)),.sc (.sl (Z X2.row a1))] [.sc (.v (.bool r))]:=by
 unfold MJ at h;refine A9 mixed dj [4] 27 ?_;simp only[dj,C,E,F,G,H,J];obtain⟨h1,h⟩|⟨h1,h⟩:=ic h
 ·try simp only[h1,C,E,F,G,H,J]
  cases h;exact t0
 ·try simp only[h1,C,E,F,G,H,J]
  refine B7o h ?_;try simp only[h1,C,E,F,G,H,J,pL,aM,zA]
/- 112:laws_markPartS -/
def Rn:X0:=A1 [Ae [0,1,5] [] [99999999999]] (A5 (A1 [mv 6 5,mv 7 0,ln 8 7,bn 9 .lss 6 8] (AL 9 .skip (.exit 0))) (A5 (.block 1 (A1 [mv 12 0,mv 13 5,mv 14 1,ia 15 12 13 3,fa 16 15 0,so 16 14 1] (A1 [mv 17 1,Ac 18 .add 17 1,mv 1 18] (A1 [mv 19 0,mv 20 5,mv 21 1,ia 22 19 20 3,fa 23 22 1,so 23 21 1] (A1 [mv 24 1,Ac 25 .add 24 1,mv 1 25] (A1 [mv 26 0,mv 27 5,mv 28 1,ia 29 26 27 3,fa 30 29 2,so 30 28 1] (.reg [mv 31 1,Ac 32 .add 31 1,mv 1 32]))))))) (.reg [mv 10 5,Ac 11 .add 10 1,mv 5 11])))
def VK:X0:=(A2 [mv 33 1,mv 4 33])
def cc677:X0:=(A1 [A6 4 0] (A5 (A1 [A6 5 0] (Ah 0 Rn)) VK))
def nF:=fun(k_:U→U→(P Xd)→Q (U × P Xd))=>∀{v1 v2 v3} {zr},k_ v1 v2 v3=N zr→Kp I [0,1,5] [] [99999999999] ⟨[pW 0 99999999999,pI 1 v1,pI 5 v2],[],[(99999999999,3,Z zC v3)]⟩ (.code (.loop Rn):: [.blk 0,.code VK]) (DH [4] (.int .i64 zr.1) [(3,Z zC zr.2)] [(0,0)])
theorem B7p{n:W}:nF (F3 n):=by
 induction n with
 | zero=>intro _ _ _ r h; cases h
 | succ n ih=>
  intro v1 v2 v3 r h σ hσ;rw[F3] at h;refine Ai ?_;obtain⟨h4,h⟩|⟨h4,h⟩:=ic h
  ·obtain⟨x5,h5,h⟩:=ob h;have h5n:=AH h5;try simp only[hσ,h4,h5,Rn,C,E,F,G,H,J]
   refine AZ (row:=zC) (y:=(⟨v1,x5.Period,x5.Phase⟩:Xd)) Y Y h5n Y Y (by rfl) ?_;obtain⟨x6,h6,h⟩:=ob h;have h6n:=AH h6;try simp only[h4,h5,h6,C,E,F,G,H,J]
   refine AZ (row:=zC) (y:=(⟨x6.Amp,(zJ .i64 (v1+(1:U))),x6.Phase⟩:Xd)) Y Y h6n Y Y (by rfl) ?_;obtain⟨x7,h7,h⟩:=ob h;have h7n:=AH h7;try simp only[h4,h5,h6,h7,C,E,F,G,H,J]
   refine AZ (row:=zC) (y:=(⟨x7.Amp,x7.Period,(zJ .i64 ((zJ .i64 (v1+(1:U)))+(1:U)))⟩:Xd)) Y Y h7n Y Y (by rfl) ?_;try simp only[h4,h5,h6,h7,C,E,F,G,H,J]
   refine ih h ?_;try simp only[h4,h5,h6,h7,C,E,F,G,H,J,pL,aM,zA]
  ·try simp only[hσ,h4,Rn,VK,C,E,F,G,H,J]
   cases h;exact⟨⟨Y,⟨⟩⟩,⟨⟨⟨_,Y,Y⟩,Y⟩,⟨⟩⟩⟩
theorem tT:Bd I 112=N (cc677.strip,[4],34):=by kernel_rfl
theorem A06:∀(n:W) (v1 v2:U) (v3:P Xd) (r:U × P Xd),F3 n v1 v2 v3=N r→r.2.length=v3.length:=by
 intro n
 induction n with
 | zero=>intro _ _ _ r h; cases h
 | succ n ih=>
  intro v1 v2 v3 r h;rw[F3] at h;obtain⟨h4,h⟩|⟨h4,h⟩:=ic h
  ·obtain⟨x5,h5,h⟩:=ob h;obtain⟨x6,h6,h⟩:=ob h;obtain⟨x7,h7,h⟩:=ob h;have hl:=ih _ _ _ _ h;try simp only[zB] at hl
   omega
  ·cases h;all_goals (try dsimp only); first | done | omega | (simp only[zB] at *; omega) | simp_all
theorem Wz{a0}{a1}{r}(h:JZ a0 a1=N r):r.2.length=a0.length:=by
 unfold JZ at h;have hl:=A06 _ _ _ _ _ h;try simp only[zB] at hl
 omega
theorem B06{a0}{a1}{r}(h:JZ a0 a1=N r):Cj I 112 [.sc (.r 0),.sc (.d (.int .i64 a1))] [(3,Z zC a0)] [(3,Z zC r.2)] (.int .i64 r.1):=by
 unfold JZ at h;refine D7 (ps:= [(0,0)]) (σ:=⟨[(0,vc (.own 99999999999)),(1,vc (aI a1))],[],[(99999999999,3,Z zC a0)]⟩) mixed tT Y Y Y (B6 BC) Y ?_;simp only[cc677];try simp only[C,E,F,G,H,J]
 refine B7p h ?_;try simp only[C,E,F,G,H,J,pL,aM,zA]
/- 79:laws_markTide -/
def cc680:X0:=(A1 [bo 2 0,A6 4 0] (A1 [fa 5 2 1,ld 6 5,mv 7 1,ca 8 112 [S 6,S 7],mv 1 8] (A2 [mv 9 1,mv 4 9])))
theorem tU:Bd I 79=N (cc680.strip,[4],10):=by kernel_rfl
theorem WE{a0}{a1}{r}(h:K4 a0 a1=N r):r.2.length=a0.Parts.length:=by
 unfold K4 at h;obtain⟨r1,h1,h⟩:=ob h;have lrr1:=(Wz h1);cases h;all_goals (try dsimp only); first | done | omega | (simp only[zB] at *; omega) | simp_all
theorem B1d{a0}{a1}{r}(h:K4 a0 a1=N r):Cj I 79 [.ag [.d (.int .i64 a0.Mean),.r 0],.sc (.d (.int .i64 a1))] [(3,Z zC a0.Parts)] [(3,Z zC r.2)] (.int .i64 r.1):=by
 unfold K4 at h;refine D7 (ps:= [(0,1)]) (σ:=⟨[(0,va [aI a0.Mean,.own 99999999999]),(1,vc (aI a1))],[],[(99999999999,3,Z zC a0.Parts)]⟩) mixed tU Y Y Y (B6 BC) Y ?_;simp only[cc680];try simp only[C,E,F,G,H,J]
 refine A8 ?_;obtain⟨r1,h1,h⟩:=ob h;try simp only[C,E,F,G,H,J]
 have lrr1:=(Wz h1);refine Dc (ids:= [99999999999]) (B06 h1) Y Y Y (B6 BC) (Cc (Wz h1) Dm) ?_;try simp only[C,E,F,G,H,J]
 cases h;exact⟨⟨Y,⟨⟩⟩,⟨⟨⟨_,Y,Y⟩,Y⟩,⟨⟩⟩⟩
/- 80:laws_markSurgeS -/
def Ro:X0:=A1 [Ae [0,1,5] [] [99999999999]] (A5 (A1 [mv 6 5,mv 7 0,ln 8 7,bn 9 .lss 6 8] (AL 9 .skip (.exit 0))) (A5 (.block 1 (A1 [mv 12 0,mv 13 5,mv 14 1,ia 15 12 13 3,fa 16 15 0,so 16 14 1] (A1 [mv 17 1,Ac 18 .add 17 1,mv 1 18] (A1 [mv 19 0,mv 20 5,mv 21 1,ia 22 19 20 3,fa 23 22 1,so 23 21 1] (A1 [mv 24 1,Ac 25 .add 24 1,mv 1 25] (A1 [mv 26 0,mv 27 5,mv 28 1,ia 29 26 27 3,fa 30 29 2,so 30 28 1] (.reg [mv 31 1,Ac 32 .add 31 1,mv 1 32]))))))) (.reg [mv 10 5,Ac 11 .add 10 1,mv 5 11])))
def VM:X0:=(A2 [mv 33 1,mv 4 33])
def cc684:X0:=(A1 [A6 4 0] (A5 (A1 [A6 5 0] (Ah 0 Ro)) VM))
def nL:=fun(k_:U→U→(P Xb)→Q (U × P Xb))=>∀{v1 v2 v3} {zr},k_ v1 v2 v3=N zr→Kp I [0,1,5] [] [99999999999] ⟨[pW 0 99999999999,pI 1 v1,pI 5 v2],[],[(99999999999,3,Z zD v3)]⟩ (.code (.loop Ro):: [.blk 0,.code VM]) (DH [4] (.int .i64 zr.1) [(3,Z zD zr.2)] [(0,0)])
theorem B7q{n:W}:nL (F8 n):=by
 induction n with
 | zero=>intro _ _ _ r h; cases h
 | succ n ih=>
  intro v1 v2 v3 r h σ hσ;rw[F8] at h;refine Ai ?_;obtain⟨h4,h⟩|⟨h4,h⟩:=ic h
  ·obtain⟨x5,h5,h⟩:=ob h;have h5n:=AH h5;try simp only[hσ,h4,h5,Ro,C,E,F,G,H,J]
   refine AZ (row:=zD) (y:=(⟨v1,x5.Low,x5.High⟩:Xb)) Y Y h5n Y Y (by rfl) ?_;obtain⟨x6,h6,h⟩:=ob h;have h6n:=AH h6;try simp only[h4,h5,h6,C,E,F,G,H,J]
   refine AZ (row:=zD) (y:=(⟨x6.From,(zJ .i64 (v1+(1:U))),x6.High⟩:Xb)) Y Y h6n Y Y (by rfl) ?_;obtain⟨x7,h7,h⟩:=ob h;have h7n:=AH h7;try simp only[h4,h5,h6,h7,C,E,F,G,H,J]
   refine AZ (row:=zD) (y:=(⟨x7.From,x7.Low,(zJ .i64 ((zJ .i64 (v1+(1:U)))+(1:U)))⟩:Xb)) Y Y h7n Y Y (by rfl) ?_;try simp only[h4,h5,h6,h7,C,E,F,G,H,J]
   refine ih h ?_;try simp only[h4,h5,h6,h7,C,E,F,G,H,J,pL,aM,zA]
  ·try simp only[hσ,h4,Ro,VM,C,E,F,G,H,J]
   cases h;exact⟨⟨Y,⟨⟩⟩,⟨⟨⟨_,Y,Y⟩,Y⟩,⟨⟩⟩⟩
theorem tV:Bd I 80=N (cc684.strip,[4],34):=by kernel_rfl
theorem A1b:∀(n:W) (v1 v2:U) (v3:P Xb) (r:U × P Xb),F8 n v1 v2 v3=N r→r.2.length=v3.length:=by
 intro n
 induction n with
 | zero=>intro _ _ _ r h; cases h
 | succ n ih=>
  intro v1 v2 v3 r h;rw[F8] at h;obtain⟨h4,h⟩|⟨h4,h⟩:=ic h
  ·obtain⟨x5,h5,h⟩:=ob h;obtain⟨x6,h6,h⟩:=ob h;obtain⟨x7,h7,h⟩:=ob h;have hl:=ih _ _ _ _ h;try simp only[zB] at hl
   omega
  ·cases h;all_goals (try dsimp only); first | done | omega | (simp only[zB] at *; omega) | simp_all
theorem WD{a0}{a1}{r}(h:K3 a0 a1=N r):r.2.length=a0.length:=by
 unfold K3 at h;have hl:=A1b _ _ _ _ _ h;try simp only[zB] at hl
 omega
theorem B1c{a0}{a1}{r}(h:K3 a0 a1=N r):Cj I 80 [.sc (.r 0),.sc (.d (.int .i64 a1))] [(3,Z zD a0)] [(3,Z zD r.2)] (.int .i64 r.1):=by
 unfold K3 at h;refine D7 (ps:= [(0,0)]) (σ:=⟨[(0,vc (.own 99999999999)),(1,vc (aI a1))],[],[(99999999999,3,Z zD a0)]⟩) mixed tV Y Y Y (B6 BC) Y ?_;simp only[cc684];try simp only[C,E,F,G,H,J]
 refine B7q h ?_;try simp only[C,E,F,G,H,J,pL,aM,zA]
/- 44:laws_markForecast -/
def cc687:X0:=(A1 [bo 2 0,A6 4 0] (A1 [fa 5 2 0,lw 6 5 2,mv 7 1,ca 8 79 [S 6,S 7],mv 1 8] (A1 [fa 9 2 2,ld 10 9,mv 11 1,ca 12 80 [S 10,S 11],mv 1 12] (A2 [mv 13 1,mv 4 13]))))
theorem tW:Bd I 44=N (cc687.strip,[4],14):=by kernel_rfl
theorem T4{a0}{a1}{r}(h:JX a0 a1=N r):r.2.1.length=a0.Tide.Parts.length∧r.2.2.length=a0.Surges.length:=by
 unfold JX at h;obtain⟨r1,h1,h⟩:=ob h;have lrr1:=(WE h1);obtain⟨r2,h2,h⟩:=ob h;have lrr2:=(WD h2);cases h;all_goals (try dsimp only); first | done | omega | (simp only[zB] at *; omega) | simp_all
theorem B02{a0}{a1}{r}(h:JX a0 a1=N r):Cj I 44 [.ag [.d (.int .i64 a0.Tide.Mean),.r 0,.r 1],.sc (.d (.int .i64 a1))] [(3,Z zC a0.Tide.Parts),(3,Z zD a0.Surges)] [(3,Z zC r.2.1),(3,Z zD r.2.2)] (.int .i64 r.1):=by
 unfold JX at h;refine D7 (ps:= [(0,1),(0,2)]) (σ:=⟨[(0,va [aI a0.Tide.Mean,.own 99999999999,.own 100000000000]),(1,vc (aI a1))],[],[(99999999999,3,Z zC a0.Tide.Parts),(100000000000,3,Z zD a0.Surges)]⟩) mixed tW Y Y Y (B6 (B6 BC)) Y ?_;simp only[cc687];try simp only[C,E,F,G,H,J]
 refine A8 ?_;obtain⟨r1,h1,h⟩:=ob h;try simp only[C,E,F,G,H,J]
 have lrr1:=(WE h1);refine Dc (ids:= [99999999999]) (B1d h1) Y Y Y (B6 BC) (Cc (WE h1) Dm) ?_;obtain⟨r2,h2,h⟩:=ob h;try simp only[C,E,F,G,H,J]
 have lrr2:=(WD h2);refine Dc (ids:= [100000000000]) (B1c h2) Y Y Y (B6 BC) (Cc (WD h2) Dm) ?_;try simp only[C,E,F,G,H,J]
 cases h;exact⟨⟨Y,⟨⟩⟩,⟨⟨⟨_,Y,Y⟩,Y⟩,⟨⟨⟨_,Y,Y⟩,Y⟩,⟨⟩⟩⟩⟩
/- 49:laws_markText -/
def Rp:X0:=A1 [Ae [0,3] [] []] (A5 (A1 [mv 6 0,Ac 7 .gtr 6 0] (AL 7 .skip (.exit 0))) (.block 1 (A1 [mv 8 0,Ac 9 .rem 8 10,(O,.bin 10 .add (K 48) (S 9)),(O,.conv 11 .u8 (S 10)),AD 12 1 [.int .u8 0] 1 [(0,(S 11))],(O,.sconv 13 (S 12)),mv 14 3,bn 15 .add 13 14,mv 3 15] (.reg [mv 16 0,Ac 17 .quo 16 10,mv 0 17]))))
def VN:X0:=(A2 [mv 18 3,(O,.bin 19 .add (KS [109]) (S 18)),mv 2 19])
def dl:X0:=(A1 [(O,.mv 2 (KS []))] (Aa [mv 4 0,Ac 5 .leq 4 0] 5 (A2 [(O,.mv 2 (KS [109,48]))]) (A1 [(O,.mv 3 (KS []))] (A5 (Ah 0 Rp) VN))))
def nM:=fun(k_:U→(P X)→Q (P X))=>∀{v2 v3} {zr},k_ v2 v3=N zr→Kp I [0,3] [] [] ⟨[pI 0 v2,(3,vc (aS v3))],[],[]⟩ (.code (.loop Rp):: [.blk 0,.code VN]) (Ag [2] [.sc (.v (.str zr))])
theorem B7r{n:W}:nM (HZ n):=by
 induction n with
 | zero=>intro _ _ r h; cases h
 | succ n ih=>
  intro v2 v3 r h σ hσ;rw[HZ] at h;refine Ai ?_;obtain⟨h4,h⟩|⟨h4,h⟩:=ic h
  ·try simp only[hσ,h4,Rp,C,E,F,G,H,J]
   refine Ax (es:=Z r8 ([(IntKind.u8.wrap (zJ .i64 ((48:U)+(zJ .i64 (Int.tmod v2 (10:U))))))]:P U)) ?_;obtain⟨h5,h⟩:=AT h;try simp only[h4,h5,C,E,F,G,H,J]
   refine ih h ?_;try simp only[h4,h5,C,E,F,G,H,J,pL,aM,zA]
  ·obtain⟨h6,h⟩:=AT h;try simp only[hσ,h4,h6,Rp,VN,C,E,F,G,H,J]
   cases h;exact t0
theorem Tq{a0}{r}(h:Ef a0=N r):FC I 49 [.sc (.int .i64 a0)] [.sc (.v (.str r))]:=by
 unfold Ef at h;refine A9 mixed dl [2] 20 ?_;simp only[dl,C,E,F,G,H,J];obtain⟨h1,h⟩|⟨h1,h⟩:=ic h
 ·try simp only[h1,C,E,F,G,H,J]
  cases h;exact t0
 ·try simp only[h1,C,E,F,G,H,J]
  refine B7r h ?_;try simp only[h1,C,E,F,G,H,J,pL,aM,zA]
/- 81:laws_markPointS -/
def Rq:X0:=A1 [Ae [0,1,5] [] [99999999999]] (A5 (A1 [mv 6 5,mv 7 0,ln 8 7,bn 9 .lss 6 8] (AL 9 .skip (.exit 0))) (A5 (.block 1 (A1 [mv 12 0,mv 13 5,mv 14 1,ca 15 49 [S 14],ia 16 12 13 2,fa 17 16 0,so 17 15 1] (A1 [mv 18 1,Ac 19 .add 18 1,mv 1 19] (A1 [mv 20 0,mv 21 5,mv 22 1,Ac 23 .rem 22 3,Ac 24 .eql 23 0,ia 25 20 21 2,fa 26 25 1,so 26 24 1] (.reg [mv 27 1,Ac 28 .add 27 1,mv 1 28]))))) (.reg [mv 10 5,Ac 11 .add 10 1,mv 5 11])))
def VO:X0:=(A2 [mv 29 1,mv 4 29])
def cc695:X0:=(A1 [A6 4 0] (A5 (A1 [A6 5 0] (Ah 0 Rq)) VO))
def nH:=fun(k_:U→U→(P X9)→Q (U × P X9))=>∀{v1 v2 v3} {zr},k_ v1 v2 v3=N zr→Kp I [0,1,5] [] [99999999999] ⟨[pW 0 99999999999,pI 1 v1,pI 5 v2],[],[(99999999999,2,Z X9.row v3)]⟩ (.code (.loop Rq):: [.blk 0,.code VO]) (DH [4] (.int .i64 zr.1) [(2,Z X9.row zr.2)] [(0,0)])
theorem B7s{n:W}:nH (F4 n):=by
 induction n with
 | zero=>intro _ _ _ r h; cases h
 | succ n ih=>
  intro v1 v2 v3 r h σ hσ;rw[F4] at h;refine Ai ?_;obtain⟨h4,h⟩|⟨h4,h⟩:=ic h
  ·obtain⟨r5,h5,h⟩:=ob h;try simp only[hσ,h4,Rq,C,E,F,G,H,J]
   refine A4 (Tq h5) ?_;obtain⟨x6,h6,h⟩:=ob h;have h6n:=AH h6;try simp only[h4,h6,C,E,F,G,H,J]
   refine AZ (row:=X9.row) (y:=(⟨r5,x6.Wait⟩:X9)) Y Y h6n Y Y (by rfl) ?_;obtain⟨x7,h7,h⟩:=ob h;have h7n:=AH h7;try simp only[h4,h6,h7,C,E,F,G,H,J]
   refine AZ (row:=X9.row) (y:=(⟨x7.Name,((zJ .i64 (Int.tmod (zJ .i64 (v1+(1:U))) (3:U)))==(0:U))⟩:X9)) Y Y h7n Y Y (by rfl) ?_;try simp only[h4,h6,h7,C,E,F,G,H,J]
   refine ih h ?_;try simp only[h4,h6,h7,C,E,F,G,H,J,pL,aM,zA]
  ·try simp only[hσ,h4,Rq,VO,C,E,F,G,H,J]
   cases h;exact⟨⟨Y,⟨⟩⟩,⟨⟨⟨_,Y,Y⟩,Y⟩,⟨⟩⟩⟩
theorem tX:Bd I 81=N (cc695.strip,[4],30):=by kernel_rfl
theorem A07:∀(n:W) (v1 v2:U) (v3:P X9) (r:U × P X9),F4 n v1 v2 v3=N r→r.2.length=v3.length:=by
 intro n
 induction n with
 | zero=>intro _ _ _ r h; cases h
 | succ n ih=>
  intro v1 v2 v3 r h;rw[F4] at h;obtain⟨h4,h⟩|⟨h4,h⟩:=ic h
  ·obtain⟨r5,h5,h⟩:=ob h;obtain⟨x6,h6,h⟩:=ob h;obtain⟨x7,h7,h⟩:=ob h;have hl:=ih _ _ _ _ h;try simp only[zB] at hl
   omega
  ·cases h;all_goals (try dsimp only); first | done | omega | (simp only[zB] at *; omega) | simp_all
theorem WA{a0}{a1}{r}(h:K0 a0 a1=N r):r.2.length=a0.length:=by
 unfold K0 at h;have hl:=A07 _ _ _ _ _ h;try simp only[zB] at hl
 omega
theorem B08{a0}{a1}{r}(h:K0 a0 a1=N r):Cj I 81 [.sc (.r 0),.sc (.d (.int .i64 a1))] [(2,Z X9.row a0)] [(2,Z X9.row r.2)] (.int .i64 r.1):=by
 unfold K0 at h;refine D7 (ps:= [(0,0)]) (σ:=⟨[(0,vc (.own 99999999999)),(1,vc (aI a1))],[],[(99999999999,2,Z X9.row a0)]⟩) mixed tX Y Y Y (B6 BC) Y ?_;simp only[cc695];try simp only[C,E,F,G,H,J]
 refine B7s h ?_;try simp only[C,E,F,G,H,J,pL,aM,zA]
/- 82:laws_markSegmentS -/
def Rr:X0:=A1 [Ae [0,1,5] [] [99999999999]] (A5 (A1 [mv 6 5,mv 7 0,ln 8 7,bn 9 .lss 6 8] (AL 9 .skip (.exit 0))) (A5 (.block 1 (A1 [mv 12 0,mv 13 5,mv 14 1,ia 15 12 13 5,fa 16 15 0,so 16 14 1] (A1 [mv 17 1,Ac 18 .add 17 1,mv 1 18] (A1 [mv 19 0,mv 20 5,mv 21 1,ia 22 19 20 5,fa 23 22 1,so 23 21 1] (A1 [mv 24 1,Ac 25 .add 24 1,mv 1 25] (A1 [mv 26 0,mv 27 5,mv 28 1,ia 29 26 27 5,fa 30 29 2,so 30 28 1] (A1 [mv 31 1,Ac 32 .add 31 1,mv 1 32] (A1 [mv 33 0,mv 34 5,mv 35 1,ia 36 33 34 5,fa 37 36 3,so 37 35 1] (A1 [mv 38 1,Ac 39 .add 38 1,mv 1 39] (A1 [mv 40 0,mv 41 5,mv 42 1,Ac 43 .rem 42 3,Ac 44 .eql 43 0,ia 45 40 41 5,fa 46 45 4,so 46 44 1] (.reg [mv 47 1,Ac 48 .add 47 1,mv 1 48]))))))))))) (.reg [mv 10 5,Ac 11 .add 10 1,mv 5 11])))
def VP:X0:=(A2 [mv 49 1,mv 4 49])
def cc700:X0:=(A1 [A6 4 0] (A5 (A1 [A6 5 0] (Ah 0 Rr)) VP))
def nI:=fun(k_:U→U→(P X3)→Q (U × P X3))=>∀{v1 v2 v3} {zr},k_ v1 v2 v3=N zr→Kp I [0,1,5] [] [99999999999] ⟨[pW 0 99999999999,pI 1 v1,pI 5 v2],[],[(99999999999,5,Z X3.row v3)]⟩ (.code (.loop Rr):: [.blk 0,.code VP]) (DH [4] (.int .i64 zr.1) [(5,Z X3.row zr.2)] [(0,0)])
theorem B7u{n:W}:nI (F5 n):=by
 induction n with
 | zero=>intro _ _ _ r h; cases h
 | succ n ih=>
  intro v1 v2 v3 r h σ hσ;rw[F5] at h;refine Ai ?_;obtain⟨h4,h⟩|⟨h4,h⟩:=ic h
  ·obtain⟨x5,h5,h⟩:=ob h;have h5n:=AH h5;try simp only[hσ,h4,h5,Rr,C,E,F,G,H,J]
   refine AZ (row:=X3.row) (y:=(⟨v1,x5.B,x5.Depth,x5.Minutes,x5.Meet⟩:X3)) Y Y h5n Y Y (by rfl) ?_;obtain⟨x6,h6,h⟩:=ob h;have h6n:=AH h6;try simp only[h4,h5,h6,C,E,F,G,H,J]
   refine AZ (row:=X3.row) (y:=(⟨x6.A,(zJ .i64 (v1+(1:U))),x6.Depth,x6.Minutes,x6.Meet⟩:X3)) Y Y h6n Y Y (by rfl) ?_;obtain⟨x7,h7,h⟩:=ob h;have h7n:=AH h7;try simp only[h4,h5,h6,h7,C,E,F,G,H,J]
   refine AZ (row:=X3.row) (y:=(⟨x7.A,x7.B,(zJ .i64 ((zJ .i64 (v1+(1:U)))+(1:U))),x7.Minutes,x7.Meet⟩:X3)) Y Y h7n Y Y (by rfl) ?_;obtain⟨x8,h8,h⟩:=ob h;have h8n:=AH h8;try simp only[h4,h5,h6,h7,h8,C,E,F,G,H,J]
   refine AZ (row:=X3.row) (y:=(⟨x8.A,x8.B,x8.Depth,(zJ .i64 ((zJ .i64 ((zJ .i64 (v1+(1:U)))+(1:U)))+(1:U))),x8.Meet⟩:X3)) Y Y h8n Y Y (by rfl) ?_;obtain⟨x9,h9,h⟩:=ob h;have h9n:=AH h9;try simp only[h4,h5,h6,h7,h8,h9,C,E,F,G,H,J]
   refine AZ (row:=X3.row) (y:=(⟨x9.A,x9.B,x9.Depth,x9.Minutes,((zJ .i64 (Int.tmod (zJ .i64 ((zJ .i64 ((zJ .i64 ((zJ .i64 (v1+(1:U)))+(1:U)))+(1:U)))+(1:U))) (3:U)))==(0:U))⟩:X3)) Y Y h9n Y Y (by rfl) ?_;try simp only[h4,h5,h6,h7,h8,h9,C,E,F,G,H,J]
   refine ih h ?_;try simp only[h4,h5,h6,h7,h8,h9,C,E,F,G,H,J,pL,aM,zA]
  ·try simp only[hσ,h4,Rr,VP,C,E,F,G,H,J]
   cases h;exact⟨⟨Y,⟨⟩⟩,⟨⟨⟨_,Y,Y⟩,Y⟩,⟨⟩⟩⟩
theorem tY:Bd I 82=N (cc700.strip,[4],50):=by kernel_rfl
theorem A08:∀(n:W) (v1 v2:U) (v3:P X3) (r:U × P X3),F5 n v1 v2 v3=N r→r.2.length=v3.length:=by
 intro n
 induction n with
 | zero=>intro _ _ _ r h; cases h
 | succ n ih=>
  intro v1 v2 v3 r h;rw[F5] at h;obtain⟨h4,h⟩|⟨h4,h⟩:=ic h
  ·obtain⟨x5,h5,h⟩:=ob h;obtain⟨x6,h6,h⟩:=ob h;obtain⟨x7,h7,h⟩:=ob h;obtain⟨x8,h8,h⟩:=ob h;obtain⟨x9,h9,h⟩:=ob h;have hl:=ih _ _ _ _ h;try simp only[zB] at hl
   omega
  ·cases h;all_goals (try dsimp only); first | done | omega | (simp only[zB] at *; omega) | simp_all
theorem WB{a0}{a1}{r}(h:K1 a0 a1=N r):r.2.length=a0.length:=by
 unfold K1 at h;have hl:=A08 _ _ _ _ _ h;try simp only[zB] at hl
 omega
theorem B09{a0}{a1}{r}(h:K1 a0 a1=N r):Cj I 82 [.sc (.r 0),.sc (.d (.int .i64 a1))] [(5,Z X3.row a0)] [(5,Z X3.row r.2)] (.int .i64 r.1):=by
 unfold K1 at h;refine D7 (ps:= [(0,0)]) (σ:=⟨[(0,vc (.own 99999999999)),(1,vc (aI a1))],[],[(99999999999,5,Z X3.row a0)]⟩) mixed tY Y Y Y (B6 BC) Y ?_;simp only[cc700];try simp only[C,E,F,G,H,J]
 refine B7u h ?_;try simp only[C,E,F,G,H,J,pL,aM,zA]
/- 45:laws_markChart -/
def cc703:X0:=(A1 [bo 2 0,A6 4 0] (A1 [fa 5 2 0,ld 6 5,mv 7 1,ca 8 81 [S 6,S 7],mv 1 8] (A1 [fa 9 2 1,ld 10 9,mv 11 1,ca 12 82 [S 10,S 11],mv 1 12] (A2 [mv 13 1,mv 4 13]))))
theorem tZ:Bd I 45=N (cc703.strip,[4],14):=by kernel_rfl
theorem T3{a0}{a1}{r}(h:JV a0 a1=N r):r.2.1.length=a0.Points.length∧r.2.2.length=a0.Segments.length:=by
 unfold JV at h;obtain⟨r1,h1,h⟩:=ob h;have lrr1:=(WA h1);obtain⟨r2,h2,h⟩:=ob h;have lrr2:=(WB h2);cases h;all_goals (try dsimp only); first | done | omega | (simp only[zB] at *; omega) | simp_all
theorem B00{a0}{a1}{r}(h:JV a0 a1=N r):Cj I 45 [.ag [.r 0,.r 1],.sc (.d (.int .i64 a1))] [(2,Z X9.row a0.Points),(5,Z X3.row a0.Segments)] [(2,Z X9.row r.2.1),(5,Z X3.row r.2.2)] (.int .i64 r.1):=by
 unfold JV at h;refine D7 (ps:= [(0,0),(0,1)]) (σ:=⟨[(0,va [.own 99999999999,.own 100000000000]),(1,vc (aI a1))],[],[(99999999999,2,Z X9.row a0.Points),(100000000000,5,Z X3.row a0.Segments)]⟩) mixed tZ Y Y Y (B6 (B6 BC)) Y ?_;simp only[cc703];try simp only[C,E,F,G,H,J]
 refine A8 ?_;obtain⟨r1,h1,h⟩:=ob h;try simp only[C,E,F,G,H,J]
 have lrr1:=(WA h1);refine Dc (ids:= [99999999999]) (B08 h1) Y Y Y (B6 BC) (Cc (WA h1) Dm) ?_;obtain⟨r2,h2,h⟩:=ob h;try simp only[C,E,F,G,H,J]
 have lrr2:=(WB h2);refine Dc (ids:= [100000000000]) (B09 h2) Y Y Y (B6 BC) (Cc (WB h2) Dm) ?_;try simp only[C,E,F,G,H,J]
 cases h;exact⟨⟨Y,⟨⟩⟩,⟨⟨⟨_,Y,Y⟩,Y⟩,⟨⟨⟨_,Y,Y⟩,Y⟩,⟨⟩⟩⟩⟩
/- 46:laws_markShipS -/
def Rt:X0:=A1 [Ae [0,1,5] [] [99999999999]] (A5 (A1 [mv 6 5,mv 7 0,ln 8 7,bn 9 .lss 6 8] (AL 9 .skip (.exit 0))) (A5 (.block 1 (A1 [mv 12 0,mv 13 5,mv 14 1,ca 15 49 [S 14],ia 16 12 13 6,fa 17 16 0,so 17 15 1] (A1 [mv 18 1,Ac 19 .add 18 1,mv 1 19] (A1 [mv 20 0,mv 21 5,mv 22 1,ia 23 20 21 6,fa 24 23 1,so 24 22 1] (A1 [mv 25 1,Ac 26 .add 25 1,mv 1 26] (A1 [mv 27 0,mv 28 5,mv 29 1,ia 30 27 28 6,fa 31 30 2,so 31 29 1] (A1 [mv 32 1,Ac 33 .add 32 1,mv 1 33] (A1 [mv 34 0,mv 35 5,mv 36 1,ia 37 34 35 6,fa 38 37 3,so 38 36 1] (A1 [mv 39 1,Ac 40 .add 39 1,mv 1 40] (A1 [mv 41 0,mv 42 5,mv 43 1,ia 44 41 42 6,fa 45 44 4,so 45 43 1] (A1 [mv 46 1,Ac 47 .add 46 1,mv 1 47] (A1 [mv 48 0,mv 49 5,mv 50 1,Ac 51 .rem 50 3,Ac 52 .eql 51 0,ia 53 48 49 6,fa 54 53 5,so 54 52 1] (.reg [mv 55 1,Ac 56 .add 55 1,mv 1 56]))))))))))))) (.reg [mv 10 5,Ac 11 .add 10 1,mv 5 11])))
def VQ:X0:=(A2 [mv 57 1,mv 4 57])
def cc707:X0:=(A1 [A6 4 0] (A5 (A1 [A6 5 0] (Ah 0 Rt)) VQ))
def nJ:=fun(k_:U→U→(P X5)→Q (U × P X5))=>∀{v1 v2 v3} {zr},k_ v1 v2 v3=N zr→Kp I [0,1,5] [] [99999999999] ⟨[pW 0 99999999999,pI 1 v1,pI 5 v2],[],[(99999999999,6,Z X5.row v3)]⟩ (.code (.loop Rt):: [.blk 0,.code VQ]) (DH [4] (.int .i64 zr.1) [(6,Z X5.row zr.2)] [(0,0)])
theorem B7v{n:W}:nJ (F6 n):=by
 induction n with
 | zero=>intro _ _ _ r h; cases h
 | succ n ih=>
  intro v1 v2 v3 r h σ hσ;rw[F6] at h;refine Ai ?_;obtain⟨h4,h⟩|⟨h4,h⟩:=ic h
  ·obtain⟨r5,h5,h⟩:=ob h;try simp only[hσ,h4,Rt,C,E,F,G,H,J]
   refine A4 (Tq h5) ?_;obtain⟨x6,h6,h⟩:=ob h;have h6n:=AH h6;try simp only[h4,h6,C,E,F,G,H,J]
   refine AZ (row:=X5.row) (y:=(⟨r5,x6.Length,x6.Draught,x6.Line,x6.Tugs,x6.Slow⟩:X5)) Y Y h6n Y Y (by rfl) ?_;obtain⟨x7,h7,h⟩:=ob h;have h7n:=AH h7;try simp only[h4,h6,h7,C,E,F,G,H,J]
   refine AZ (row:=X5.row) (y:=(⟨x7.Name,(zJ .i64 (v1+(1:U))),x7.Draught,x7.Line,x7.Tugs,x7.Slow⟩:X5)) Y Y h7n Y Y (by rfl) ?_;obtain⟨x8,h8,h⟩:=ob h;have h8n:=AH h8;try simp only[h4,h6,h7,h8,C,E,F,G,H,J]
   refine AZ (row:=X5.row) (y:=(⟨x8.Name,x8.Length,(zJ .i64 ((zJ .i64 (v1+(1:U)))+(1:U))),x8.Line,x8.Tugs,x8.Slow⟩:X5)) Y Y h8n Y Y (by rfl) ?_;obtain⟨x9,h9,h⟩:=ob h;have h9n:=AH h9;try simp only[h4,h6,h7,h8,h9,C,E,F,G,H,J]
   refine AZ (row:=X5.row) (y:=(⟨x9.Name,x9.Length,x9.Draught,(zJ .i64 ((zJ .i64 ((zJ .i64 (v1+(1:U)))+(1:U)))+(1:U))),x9.Tugs,x9.Slow⟩:X5)) Y Y h9n Y Y (by rfl) ?_;obtain⟨x10,h10,h⟩:=ob h;have h10n:=AH h10;try simp only[h4,h6,h7,h8,h9,h10,C,E,F,G,H,J]
   refine AZ (row:=X5.row) (y:=(⟨x10.Name,x10.Length,x10.Draught,x10.Line,(zJ .i64 ((zJ .i64 ((zJ .i64 ((zJ .i64 (v1+(1:U)))+(1:U)))+(1:U)))+(1:U))),x10.Slow⟩:X5)) Y Y h10n Y Y (by rfl) ?_;obtain⟨x11,h11,h⟩:=ob h;have h11n:=AH h11;try simp only[h4,h6,h7,h8,h9,h10,h11,C,E,F,G,H,J]
   refine AZ (row:=X5.row) (y:=(⟨x11.Name,x11.Length,x11.Draught,x11.Line,x11.Tugs,((zJ .i64 (Int.tmod (zJ .i64 ((zJ .i64 ((zJ .i64 ((zJ .i64 ((zJ .i64 (v1+(1:U)))+(1:U)))+(1:U)))+(1:U)))+(1:U))) (3:U)))==(0:U))⟩:X5)) Y Y h11n Y Y (by rfl) ?_;try simp only[h4,h6,h7,h8,h9,h10,h11,C,E,F,G,H,J]
   refine ih h ?_;try simp only[h4,h6,h7,h8,h9,h10,h11,C,E,F,G,H,J,pL,aM,zA]
  ·try simp only[hσ,h4,Rt,VQ,C,E,F,G,H,J]
   cases h;exact⟨⟨Y,⟨⟩⟩,⟨⟨⟨_,Y,Y⟩,Y⟩,⟨⟩⟩⟩
theorem ta:Bd I 46=N (cc707.strip,[4],58):=by kernel_rfl
theorem A09:∀(n:W) (v1 v2:U) (v3:P X5) (r:U × P X5),F6 n v1 v2 v3=N r→r.2.length=v3.length:=by
 intro n
 induction n with
 | zero=>intro _ _ _ r h; cases h
 | succ n ih=>
  intro v1 v2 v3 r h;rw[F6] at h;obtain⟨h4,h⟩|⟨h4,h⟩:=ic h
  ·obtain⟨r5,h5,h⟩:=ob h;obtain⟨x6,h6,h⟩:=ob h;obtain⟨x7,h7,h⟩:=ob h;obtain⟨x8,h8,h⟩:=ob h;obtain⟨x9,h9,h⟩:=ob h;obtain⟨x10,h10,h⟩:=ob h;obtain⟨x11,h11,h⟩:=ob h;have hl:=ih _ _ _ _ h;try simp only[zB] at hl
   omega
  ·cases h;all_goals (try dsimp only); first | done | omega | (simp only[zB] at *; omega) | simp_all
theorem WC{a0}{a1}{r}(h:K2 a0 a1=N r):r.2.length=a0.length:=by
 unfold K2 at h;have hl:=A09 _ _ _ _ _ h;try simp only[zB] at hl
 omega
theorem B1a{a0}{a1}{r}(h:K2 a0 a1=N r):Cj I 46 [.sc (.r 0),.sc (.d (.int .i64 a1))] [(6,Z X5.row a0)] [(6,Z X5.row r.2)] (.int .i64 r.1):=by
 unfold K2 at h;refine D7 (ps:= [(0,0)]) (σ:=⟨[(0,vc (.own 99999999999)),(1,vc (aI a1))],[],[(99999999999,6,Z X5.row a0)]⟩) mixed ta Y Y Y (B6 BC) Y ?_;simp only[cc707];try simp only[C,E,F,G,H,J]
 refine B7v h ?_;try simp only[C,E,F,G,H,J,pL,aM,zA]
/- 83:laws_markIntS -/
def Ru:X0:=A1 [Ae [0,1,5] [] [99999999999]] (A5 (A1 [mv 6 5,mv 7 0,ln 8 7,bn 9 .lss 6 8] (AL 9 .skip (.exit 0))) (A5 (.block 1 (A1 [mv 12 0,mv 13 5,mv 14 1,ia 15 12 13 1,so 15 14 1] (.reg [mv 16 1,Ac 17 .add 16 1,mv 1 17]))) (.reg [mv 10 5,Ac 11 .add 10 1,mv 5 11])))
def VR:X0:=(A2 [mv 18 1,mv 4 18])
def cc712:X0:=(A1 [A6 4 0] (A5 (A1 [A6 5 0] (Ah 0 Ru)) VR))
def nD:=fun(k_:U→U→(P U)→Q (U × P U))=>∀{v1 v2 v3} {zr},k_ v1 v2 v3=N zr→Kp I [0,1,5] [] [99999999999] ⟨[pW 0 99999999999,pI 1 v1,pI 5 v2],[],[(99999999999,1,Z rI v3)]⟩ (.code (.loop Ru):: [.blk 0,.code VR]) (DH [4] (.int .i64 zr.1) [(1,Z rI zr.2)] [(0,0)])
theorem B7w{n:W}:nD (F2 n):=by
 induction n with
 | zero=>intro _ _ _ r h; cases h
 | succ n ih=>
  intro v1 v2 v3 r h σ hσ;rw[F2] at h;refine Ai ?_;obtain⟨h4,h⟩|⟨h4,h⟩:=ic h
  ·obtain⟨x5,h5,h⟩:=ob h;have h5n:=AH h5;try simp only[hσ,h4,h5,Ru,C,E,F,G,H,J]
   refine AZ (row:=rI) (y:=v1) Y Y h5n Y Y (by rfl) ?_;try simp only[h4,h5,C,E,F,G,H,J]
   refine ih h ?_;try simp only[h4,h5,C,E,F,G,H,J,pL,aM,zA]
  ·try simp only[hσ,h4,Ru,VR,C,E,F,G,H,J]
   cases h;exact⟨⟨Y,⟨⟩⟩,⟨⟨⟨_,Y,Y⟩,Y⟩,⟨⟩⟩⟩
theorem tb:Bd I 83=N (cc712.strip,[4],19):=by kernel_rfl
theorem A05:∀(n:W) (v1 v2:U) (v3:P U) (r:U × P U),F2 n v1 v2 v3=N r→r.2.length=v3.length:=by
 intro n
 induction n with
 | zero=>intro _ _ _ r h; cases h
 | succ n ih=>
  intro v1 v2 v3 r h;rw[F2] at h;obtain⟨h4,h⟩|⟨h4,h⟩:=ic h
  ·obtain⟨x5,h5,h⟩:=ob h;have hl:=ih _ _ _ _ h;try simp only[zB] at hl
   omega
  ·cases h;all_goals (try dsimp only); first | done | omega | (simp only[zB] at *; omega) | simp_all
theorem Wy{a0}{a1}{r}(h:JY a0 a1=N r):r.2.length=a0.length:=by
 unfold JY at h;have hl:=A05 _ _ _ _ _ h;try simp only[zB] at hl
 omega
theorem B04{a0}{a1}{r}(h:JY a0 a1=N r):Cj I 83 [.sc (.r 0),.sc (.d (.int .i64 a1))] [(1,Z rI a0)] [(1,Z rI r.2)] (.int .i64 r.1):=by
 unfold JY at h;refine D7 (ps:= [(0,0)]) (σ:=⟨[(0,vc (.own 99999999999)),(1,vc (aI a1))],[],[(99999999999,1,Z rI a0)]⟩) mixed tb Y Y Y (B6 BC) Y ?_;simp only[cc712];try simp only[C,E,F,G,H,J]
 refine B7w h ?_;try simp only[C,E,F,G,H,J,pL,aM,zA]
/- 47:laws_markCrew -/
def cc715:X0:=(A1 [bo 2 0,A6 4 0] (A1 [fa 5 2 3,ld 6 5,mv 7 1,ca 8 83 [S 6,S 7],mv 1 8] (A2 [mv 9 1,mv 4 9])))
theorem tc:Bd I 47=N (cc715.strip,[4],10):=by kernel_rfl
theorem Wx{a0}{a1}{r}(h:JW a0 a1=N r):r.2.length=a0.Moves.length:=by
 unfold JW at h;obtain⟨r1,h1,h⟩:=ob h;have lrr1:=(Wy h1);cases h;all_goals (try dsimp only); first | done | omega | (simp only[zB] at *; omega) | simp_all
theorem B01{a0}{a1}{r}(h:JW a0 a1=N r):Cj I 47 [.ag [.d (.int .i64 a0.Tugs),.d (.int .i64 a0.Pilots),.d (.int .i64 a0.Rest),.r 0],.sc (.d (.int .i64 a1))] [(1,Z rI a0.Moves)] [(1,Z rI r.2)] (.int .i64 r.1):=by
 unfold JW at h;refine D7 (ps:= [(0,3)]) (σ:=⟨[(0,va [aI a0.Tugs,aI a0.Pilots,aI a0.Rest,.own 99999999999]),(1,vc (aI a1))],[],[(99999999999,1,Z rI a0.Moves)]⟩) mixed tc Y Y Y (B6 BC) Y ?_;simp only[cc715];try simp only[C,E,F,G,H,J]
 refine A8 ?_;obtain⟨r1,h1,h⟩:=ob h;try simp only[C,E,F,G,H,J]
 have lrr1:=(Wy h1);refine Dc (ids:= [99999999999]) (B04 h1) Y Y Y (B6 BC) (Cc (Wy h1) Dm) ?_;try simp only[C,E,F,G,H,J]
 cases h;exact⟨⟨Y,⟨⟩⟩,⟨⟨⟨_,Y,Y⟩,Y⟩,⟨⟩⟩⟩
/- 16:laws_markHarbour -/
def cc717:X0:=(A1 [bo 2 0,A6 4 0] (A1 [fa 5 2 0,lw 6 5 3,mv 7 1,ca 8 44 [S 6,S 7],mv 1 8] (A1 [fa 9 2 3,lw 10 9 2,mv 11 1,ca 12 45 [S 10,S 11],mv 1 12] (A1 [fa 13 2 5,ld 14 13,mv 15 1,ca 16 46 [S 14,S 15],mv 1 16] (A1 [fa 17 2 8,lw 18 17 4,mv 19 1,ca 20 47 [S 18,S 19],mv 1 20] (A2 [mv 21 1,mv 4 21]))))))
theorem td:Bd I 16=N (cc717.strip,[4],22):=by kernel_rfl
theorem IR{a0}{a1}{r}(h:HV a0 a1=N r):r.2.1.length=a0.Forecast.Tide.Parts.length∧r.2.2.1.length=a0.Forecast.Surges.length∧r.2.2.2.1.length=a0.Chart.Points.length∧r.2.2.2.2.1.length=a0.Chart.Segments.length∧r.2.2.2.2.2.1.length=a0.Fleet.length∧r.2.2.2.2.2.2.length=a0.Crew.Moves.length:=by
 unfold HV at h;obtain⟨r1,h1,h⟩:=ob h;have lrr1:=(T4 h1);obtain⟨r2,h2,h⟩:=ob h;have lrr2:=(T3 h2);obtain⟨r3,h3,h⟩:=ob h;have lrr3:=(WC h3);obtain⟨r4,h4,h⟩:=ob h;have lrr4:=(Wx h4);cases h;all_goals (try dsimp only); first | done | omega | (simp only[zB] at *; omega) | simp_all
theorem B03{a0}{a1}{r}(h:HV a0 a1=N r):Cj I 16 [.ag [.d (.int .i64 a0.Forecast.Tide.Mean),.r 0,.r 1,.r 2,.r 3,.r 4,.d (.int .i64 a0.Regime.Gap),.d (.bool a0.Regime.NoMeet),.d (.int .i64 a0.Crew.Tugs),.d (.int .i64 a0.Crew.Pilots),.d (.int .i64 a0.Crew.Rest),.r 5],.sc (.d (.int .i64 a1))] [(3,Z zC a0.Forecast.Tide.Parts),(3,Z zD a0.Forecast.Surges),(2,Z X9.row a0.Chart.Points),(5,Z X3.row a0.Chart.Segments),(6,Z X5.row a0.Fleet),(1,Z rI a0.Crew.Moves)] [(3,Z zC r.2.1),(3,Z zD r.2.2.1),(2,Z X9.row r.2.2.2.1),(5,Z X3.row r.2.2.2.2.1),(6,Z X5.row r.2.2.2.2.2.1),(1,Z rI r.2.2.2.2.2.2)] (.int .i64 r.1):=by
 unfold HV at h;refine D7 (ps:= [(0,1),(0,2),(0,3),(0,4),(0,5),(0,11)]) (σ:=⟨[(0,va [aI a0.Forecast.Tide.Mean,.own 99999999999,.own 100000000000,.own 100000000001,.own 100000000002,.own 100000000003,aI a0.Regime.Gap,aB a0.Regime.NoMeet,aI a0.Crew.Tugs,aI a0.Crew.Pilots,aI a0.Crew.Rest,.own 100000000004]),(1,vc (aI a1))],[],[(99999999999,3,Z zC a0.Forecast.Tide.Parts),(100000000000,3,Z zD a0.Forecast.Surges),(100000000001,2,Z X9.row a0.Chart.Points),(100000000002,5,Z X3.row a0.Chart.Segments),(100000000003,6,Z X5.row a0.Fleet),(100000000004,1,Z rI a0.Crew.Moves)]⟩) mixed td Y Y Y (B6 (B6 (B6 (B6 (B6 (B6 BC)))))) Y ?_;simp only[cc717];try simp only[C,E,F,G,H,J]
 refine A8 ?_;obtain⟨r1,h1,h⟩:=ob h;try simp only[C,E,F,G,H,J]
 have lrr1:=(T4 h1);refine Dc (ids:= [99999999999,100000000000]) (B02 h1) Y Y Y (B6 (B6 BC)) (Cc (T4 h1).1 (Cc (T4 h1).2 Dm)) ?_;obtain⟨r2,h2,h⟩:=ob h;try simp only[C,E,F,G,H,J]
 have lrr2:=(T3 h2);refine Dc (ids:= [100000000001,100000000002]) (B00 h2) Y Y Y (B6 (B6 BC)) (Cc (T3 h2).1 (Cc (T3 h2).2 Dm)) ?_;obtain⟨r3,h3,h⟩:=ob h;try simp only[C,E,F,G,H,J]
 have lrr3:=(WC h3);refine Dc (ids:= [100000000003]) (B1a h3) Y Y Y (B6 BC) (Cc (WC h3) Dm) ?_;obtain⟨r4,h4,h⟩:=ob h;try simp only[C,E,F,G,H,J]
 have lrr4:=(Wx h4);refine Dc (ids:= [100000000004]) (B01 h4) Y Y Y (B6 BC) (Cc (Wx h4) Dm) ?_;try simp only[C,E,F,G,H,J]
 cases h;exact⟨⟨Y,⟨⟩⟩,⟨⟨⟨_,Y,Y⟩,Y⟩,⟨⟨⟨_,Y,Y⟩,Y⟩,⟨⟨⟨_,Y,Y⟩,Y⟩,⟨⟨⟨_,Y,Y⟩,Y⟩,⟨⟨⟨_,Y,Y⟩,Y⟩,⟨⟨⟨_,Y,Y⟩,Y⟩,⟨⟩⟩⟩⟩⟩⟩⟩⟩
/- 17:laws_markCallS -/
def Rv:X0:=A1 [Ae [0,1,5] [] [99999999999]] (A5 (A1 [mv 6 5,mv 7 0,ln 8 7,bn 9 .lss 6 8] (AL 9 .skip (.exit 0))) (A5 (.block 1 (A1 [mv 12 0,mv 13 5,mv 14 1,ia 15 12 13 5,fa 16 15 0,so 16 14 1] (A1 [mv 17 1,Ac 18 .add 17 1,mv 1 18] (A1 [mv 19 0,mv 20 5,mv 21 1,ia 22 19 20 5,fa 23 22 1,so 23 21 1] (A1 [mv 24 1,Ac 25 .add 24 1,mv 1 25] (A1 [mv 26 0,mv 27 5,mv 28 1,ia 29 26 27 5,fa 30 29 2,so 30 28 1] (A1 [mv 31 1,Ac 32 .add 31 1,mv 1 32] (A1 [mv 33 0,mv 34 5,mv 35 1,ia 36 33 34 5,fa 37 36 3,so 37 35 1] (A1 [mv 38 1,Ac 39 .add 38 1,mv 1 39] (A1 [mv 40 0,mv 41 5,mv 42 1,ia 43 40 41 5,fa 44 43 4,so 44 42 1] (.reg [mv 45 1,Ac 46 .add 45 1,mv 1 46]))))))))))) (.reg [mv 10 5,Ac 11 .add 10 1,mv 5 11])))
def VS:X0:=(A2 [mv 47 1,mv 4 47])
def cc721:X0:=(A1 [A6 4 0] (A5 (A1 [A6 5 0] (Ah 0 Rv)) VS))
def nC:=fun(k_:U→U→(P Xa)→Q (U × P Xa))=>∀{v1 v2 v3} {zr},k_ v1 v2 v3=N zr→Kp I [0,1,5] [] [99999999999] ⟨[pW 0 99999999999,pI 1 v1,pI 5 v2],[],[(99999999999,5,Z zE v3)]⟩ (.code (.loop Rv):: [.blk 0,.code VS]) (DH [4] (.int .i64 zr.1) [(5,Z zE zr.2)] [(0,0)])
theorem B7x{n:W}:nC (F1 n):=by
 induction n with
 | zero=>intro _ _ _ r h; cases h
 | succ n ih=>
  intro v1 v2 v3 r h σ hσ;rw[F1] at h;refine Ai ?_;obtain⟨h4,h⟩|⟨h4,h⟩:=ic h
  ·obtain⟨x5,h5,h⟩:=ob h;have h5n:=AH h5;try simp only[hσ,h4,h5,Rv,C,E,F,G,H,J]
   refine AZ (row:=zE) (y:=(⟨v1,x5.From,x5.To,x5.Ready,x5.Due⟩:Xa)) Y Y h5n Y Y (by rfl) ?_;obtain⟨x6,h6,h⟩:=ob h;have h6n:=AH h6;try simp only[h4,h5,h6,C,E,F,G,H,J]
   refine AZ (row:=zE) (y:=(⟨x6.Ship,(zJ .i64 (v1+(1:U))),x6.To,x6.Ready,x6.Due⟩:Xa)) Y Y h6n Y Y (by rfl) ?_;obtain⟨x7,h7,h⟩:=ob h;have h7n:=AH h7;try simp only[h4,h5,h6,h7,C,E,F,G,H,J]
   refine AZ (row:=zE) (y:=(⟨x7.Ship,x7.From,(zJ .i64 ((zJ .i64 (v1+(1:U)))+(1:U))),x7.Ready,x7.Due⟩:Xa)) Y Y h7n Y Y (by rfl) ?_;obtain⟨x8,h8,h⟩:=ob h;have h8n:=AH h8;try simp only[h4,h5,h6,h7,h8,C,E,F,G,H,J]
   refine AZ (row:=zE) (y:=(⟨x8.Ship,x8.From,x8.To,(zJ .i64 ((zJ .i64 ((zJ .i64 (v1+(1:U)))+(1:U)))+(1:U))),x8.Due⟩:Xa)) Y Y h8n Y Y (by rfl) ?_;obtain⟨x9,h9,h⟩:=ob h;have h9n:=AH h9;try simp only[h4,h5,h6,h7,h8,h9,C,E,F,G,H,J]
   refine AZ (row:=zE) (y:=(⟨x9.Ship,x9.From,x9.To,x9.Ready,(zJ .i64 ((zJ .i64 ((zJ .i64 ((zJ .i64 (v1+(1:U)))+(1:U)))+(1:U)))+(1:U)))⟩:Xa)) Y Y h9n Y Y (by rfl) ?_;try simp only[h4,h5,h6,h7,h8,h9,C,E,F,G,H,J]
   refine ih h ?_;try simp only[h4,h5,h6,h7,h8,h9,C,E,F,G,H,J,pL,aM,zA]
  ·try simp only[hσ,h4,Rv,VS,C,E,F,G,H,J]
   cases h;exact⟨⟨Y,⟨⟩⟩,⟨⟨⟨_,Y,Y⟩,Y⟩,⟨⟩⟩⟩
theorem te:Bd I 17=N (cc721.strip,[4],48):=by kernel_rfl
theorem A04:∀(n:W) (v1 v2:U) (v3:P Xa) (r:U × P Xa),F1 n v1 v2 v3=N r→r.2.length=v3.length:=by
 intro n
 induction n with
 | zero=>intro _ _ _ r h; cases h
 | succ n ih=>
  intro v1 v2 v3 r h;rw[F1] at h;obtain⟨h4,h⟩|⟨h4,h⟩:=ic h
  ·obtain⟨x5,h5,h⟩:=ob h;obtain⟨x6,h6,h⟩:=ob h;obtain⟨x7,h7,h⟩:=ob h;obtain⟨x8,h8,h⟩:=ob h;obtain⟨x9,h9,h⟩:=ob h;have hl:=ih _ _ _ _ h;try simp only[zB] at hl
   omega
  ·cases h;all_goals (try dsimp only); first | done | omega | (simp only[zB] at *; omega) | simp_all
theorem fv{a0}{a1}{r}(h:JU a0 a1=N r):r.2.length=a0.length:=by
 unfold JU at h;have hl:=A04 _ _ _ _ _ h;try simp only[zB] at hl
 omega
theorem B0z{a0}{a1}{r}(h:JU a0 a1=N r):Cj I 17 [.sc (.r 0),.sc (.d (.int .i64 a1))] [(5,Z zE a0)] [(5,Z zE r.2)] (.int .i64 r.1):=by
 unfold JU at h;refine D7 (ps:= [(0,0)]) (σ:=⟨[(0,vc (.own 99999999999)),(1,vc (aI a1))],[],[(99999999999,5,Z zE a0)]⟩) mixed te Y Y Y (B6 BC) Y ?_;simp only[cc721];try simp only[C,E,F,G,H,J]
 refine B7x h ?_;try simp only[C,E,F,G,H,J,pL,aM,zA]
/- 48:laws_markPassageS_d -/
def Rx:X0:=A1 [Ae [0,1,5] [] []] (A5 (A1 [mv 6 5,mv 7 0,ln 8 7,bn 9 .lss 6 8] (AL 9 .skip (.exit 0))) (A5 (.block 1 (A1 [mv 12 0,mv 13 5,mv 14 1,ia 15 12 13 5,fa 16 15 0,so 16 14 1] (A1 [mv 17 1,Ac 18 .add 17 1,mv 1 18] (A1 [mv 19 0,mv 20 5,mv 21 1,ia 22 19 20 5,fa 23 22 1,so 23 21 1] (A1 [mv 24 1,Ac 25 .add 24 1,mv 1 25] (A1 [mv 26 0,mv 27 5,mv 28 1,Ac 29 .rem 28 3,Ac 30 .eql 29 0,ia 31 26 27 5,fa 32 31 2,so 32 30 1] (A1 [mv 33 1,Ac 34 .add 33 1,mv 1 34] (A1 [mv 35 0,mv 36 5,mv 37 1,ia 38 35 36 5,fa 39 38 3,so 39 37 1] (A1 [mv 40 1,Ac 41 .add 40 1,mv 1 41] (A1 [mv 42 0,mv 43 5,mv 44 1,ia 45 42 43 5,fa 46 45 4,so 46 44 1] (.reg [mv 47 1,Ac 48 .add 47 1,mv 1 48]))))))))))) (.reg [mv 10 5,Ac 11 .add 10 1,mv 5 11])))
def VT:X0:=(A2 [mv 49 1,mv 4 49])
def cc726:X0:=(A1 [A6 4 0] (A5 (A1 [A6 5 0] (Ah 0 Rx)) VT))
def nG:=fun a0 (k_:U→U→Q U)=>∀{v1 v2} {zr},k_ v1 v2=N zr→Kp I [0,1,5] [] [] ⟨[(0,vc (.vol (.sl (Z X1.row a0)))),pI 1 v1,pI 5 v2],[],[]⟩ (.code (.loop Rx):: [.blk 0,.code VT]) (P6 [4] (.int .i64 zr))
theorem B7y{a0}{n:W}:nG a0 (HX a0 n):=by
 induction n with
 | zero=>intro _ _ r h; cases h
 | succ n ih=>
  intro v1 v2 r h σ hσ;rw[HX] at h;refine Ai ?_;obtain⟨h3,h⟩|⟨h3,h⟩:=ic h
  ·obtain⟨x4,h4,h⟩:=ob h;try simp only[hσ,h3,h4,Rx,C,E,F,G,H,J]
   refine ih h ?_;try simp only[h3,h4,C,E,F,G,H,J,pL,aM,zA]
  ·try simp only[hσ,h3,Rx,VT,C,E,F,G,H,J]
   cases h;trivial
theorem tf:Bd I 48=N (cc726.strip,[4],50):=by kernel_rfl
theorem B07{a0}{a1}{r}(h:S6 a0 a1=N r):FCd I 48 [.v (.sc (.sl (Z X1.row a0))),.d (.int .i64 a1)] (.int .i64 r):=by
 unfold S6 at h;refine Yk (σ:=⟨[(0,vc (.vol (.sl (Z X1.row a0)))),(1,vc (aI a1))],[],[]⟩) mixed tf Y Y Y ?_;simp only[cc726];try simp only[C,E,F,G,H,J]
 refine B7y h ?_;try simp only[C,E,F,G,H,J,pL,aM,zA]
/- 18:laws_markOptionS_d -/
def Ry:X0:=A1 [Ae [0,1,5] [] []] (A5 (A1 [mv 6 5,mv 7 0,ln 8 7,bn 9 .lss 6 8] (AL 9 .skip (.exit 0))) (A5 (.block 1 (A1 [mv 12 0,mv 13 5,mv 14 1,ia 15 12 13 4,fa 16 15 0,so 16 14 1] (A1 [mv 17 1,Ac 18 .add 17 1,mv 1 18] (A1 [mv 19 0,mv 20 5,mv 21 1,ia 22 19 20 4,fa 23 22 1,so 23 21 1] (A1 [mv 24 1,Ac 25 .add 24 1,mv 1 25] (A1 [mv 26 0,mv 27 5,mv 28 1,ia 29 26 27 4,fa 30 29 2,so 30 28 1] (A1 [mv 31 1,Ac 32 .add 31 1,mv 1 32] (.reg [mv 33 0,mv 34 5,ia 35 33 34 4,fa 36 35 3,ld 37 36,mv 38 1,ca 39 48 [S 37,S 38],mv 1 39])))))))) (.reg [mv 10 5,Ac 11 .add 10 1,mv 5 11])))
def VW:X0:=(A2 [mv 40 1,mv 4 40])
def cc731:X0:=(A1 [A6 4 0] (A5 (A1 [A6 5 0] (Ah 0 Ry)) VW))
def nE:=fun a0 (k_:U→U→Q U)=>∀{v1 v2} {zr},k_ v1 v2=N zr→Kp I [0,1,5] [] [] ⟨[(0,vc (.vol (.sl (Z X2.row a0)))),pI 1 v1,pI 5 v2],[],[]⟩ (.code (.loop Ry):: [.blk 0,.code VW]) (P6 [4] (.int .i64 zr))
theorem B7z{a0}{n:W}:nE a0 (HW a0 n):=by
 induction n with
 | zero=>intro _ _ r h; cases h
 | succ n ih=>
  intro v1 v2 r h σ hσ;rw[HW] at h;refine Ai ?_;obtain⟨h3,h⟩|⟨h3,h⟩:=ic h
  ·obtain⟨x4,h4,h⟩:=ob h;obtain⟨r5,h5,h⟩:=ob h;try simp only[hσ,h3,h4,Ry,C,E,F,G,H,J]
   refine wD (B07 h5) Y ?_;try simp only[h3,h4,C,E,F,G,H,J]
   refine ih h ?_;try simp only[h3,h4,C,E,F,G,H,J,pL,aM,zA]
  ·try simp only[hσ,h3,Ry,VW,C,E,F,G,H,J]
   cases h;trivial
theorem th:Bd I 18=N (cc731.strip,[4],41):=by kernel_rfl
theorem B05{a0}{a1}{r}(h:S5 a0 a1=N r):FCd I 18 [.v (.sc (.sl (Z X2.row a0))),.d (.int .i64 a1)] (.int .i64 r):=by
 unfold S5 at h;refine Yk (σ:=⟨[(0,vc (.vol (.sl (Z X2.row a0)))),(1,vc (aI a1))],[],[]⟩) mixed th Y Y Y ?_;simp only[cc731];try simp only[C,E,F,G,H,J]
 refine B7z h ?_;try simp only[C,E,F,G,H,J,pL,aM,zA]
/- 19:laws_markStringS -/
def Rz:X0:=A1 [Ae [0,1,5] [] [99999999999]] (A5 (A1 [mv 6 5,mv 7 0,ln 8 7,bn 9 .lss 6 8] (AL 9 .skip (.exit 0))) (A5 (.block 1 (A1 [mv 12 0,mv 13 5,mv 14 1,ca 15 49 [S 14],ia 16 12 13 1,so 16 15 1] (.reg [mv 17 1,Ac 18 .add 17 1,mv 1 18]))) (.reg [mv 10 5,Ac 11 .add 10 1,mv 5 11])))
def VX:X0:=(A2 [mv 19 1,mv 4 19])
def cc736:X0:=(A1 [A6 4 0] (A5 (A1 [A6 5 0] (Ah 0 Rz)) VX))
def nK:=fun(k_:U→U→(P (P X))→Q (U × P (P X)))=>∀{v1 v2 v3} {zr},k_ v1 v2 v3=N zr→Kp I [0,1,5] [] [99999999999] ⟨[pW 0 99999999999,pI 1 v1,pI 5 v2],[],[(99999999999,1,Z rS v3)]⟩ (.code (.loop Rz):: [.blk 0,.code VX]) (DH [4] (.int .i64 zr.1) [(1,Z rS zr.2)] [(0,0)])
theorem B70{n:W}:nK (F7 n):=by
 induction n with
 | zero=>intro _ _ _ r h; cases h
 | succ n ih=>
  intro v1 v2 v3 r h σ hσ;rw[F7] at h;refine Ai ?_;obtain⟨h4,h⟩|⟨h4,h⟩:=ic h
  ·obtain⟨r5,h5,h⟩:=ob h;try simp only[hσ,h4,Rz,C,E,F,G,H,J]
   refine A4 (Tq h5) ?_;obtain⟨x6,h6,h⟩:=ob h;have h6n:=AH h6;try simp only[h4,h6,C,E,F,G,H,J]
   refine AZ (row:=rS) (y:=r5) Y Y h6n Y Y (by rfl) ?_;try simp only[h4,h6,C,E,F,G,H,J]
   refine ih h ?_;try simp only[h4,h6,C,E,F,G,H,J,pL,aM,zA]
  ·try simp only[hσ,h4,Rz,VX,C,E,F,G,H,J]
   cases h;exact⟨⟨Y,⟨⟩⟩,⟨⟨⟨_,Y,Y⟩,Y⟩,⟨⟩⟩⟩
theorem ti:Bd I 19=N (cc736.strip,[4],20):=by kernel_rfl
theorem A1a:∀(n:W) (v1 v2:U) (v3:P (P X)) (r:U × P (P X)),F7 n v1 v2 v3=N r→r.2.length=v3.length:=by
 intro n
 induction n with
 | zero=>intro _ _ _ r h; cases h
 | succ n ih=>
  intro v1 v2 v3 r h;rw[F7] at h;obtain⟨h4,h⟩|⟨h4,h⟩:=ic h
  ·obtain⟨r5,h5,h⟩:=ob h;obtain⟨x6,h6,h⟩:=ob h;have hl:=ih _ _ _ _ h;try simp only[zB] at hl
   omega
  ·cases h;all_goals (try dsimp only); first | done | omega | (simp only[zB] at *; omega) | simp_all
theorem fw{a0}{a1}{r}(h:HY a0 a1=N r):r.2.length=a0.length:=by
 unfold HY at h;have hl:=A1a _ _ _ _ _ h;try simp only[zB] at hl
 omega
theorem B1b{a0}{a1}{r}(h:HY a0 a1=N r):Cj I 19 [.sc (.r 0),.sc (.d (.int .i64 a1))] [(1,Z rS a0)] [(1,Z rS r.2)] (.int .i64 r.1):=by
 unfold HY at h;refine D7 (ps:= [(0,0)]) (σ:=⟨[(0,vc (.own 99999999999)),(1,vc (aI a1))],[],[(99999999999,1,Z rS a0)]⟩) mixed ti Y Y Y (B6 BC) Y ?_;simp only[cc736];try simp only[C,E,F,G,H,J]
 refine B70 h ?_;try simp only[C,E,F,G,H,J,pL,aM,zA]
/- 20:laws_heldStringS -/
def RA:X0:=A1 [Ae [0,1,5] [] []] (A5 (A1 [mv 6 5,mv 7 0,ln 8 7,bn 9 .lss 6 8] (AL 9 .skip (.exit 0))) (A5 (.block 1 (A5 (A5 (.drw [(N [17],mv 12 0),(N [17],mv 13 5),(N [17],ia 14 12 13 1),(N [17],ld 15 14),o0 (mv 16 1),o0 (ca 17 49 [S 16]),o0 (bn 18 .neq 15 17)]) (Aq 18 (A2 [A6 4 (-1)]))) (.reg [mv 19 1,Ac 20 .add 19 1,mv 1 20]))) (.reg [mv 10 5,Ac 11 .add 10 1,mv 5 11])))
def VY:X0:=(A2 [mv 21 1,mv 4 21])
def dq:X0:=(A1 [A6 4 0] (A5 (A1 [A6 5 0] (Ah 0 RA)) VY))
def nB:=fun a0 (k_:U→U→Q U)=>∀{v1 v2} {zr},k_ v1 v2=N zr→Kp I [0,1,5] [] [] ⟨[pL 0 rS a0,pI 1 v1,pI 5 v2],[],[]⟩ (.code (.loop RA):: [.blk 0,.code VY]) (Ag [4] [.sc (.v (.int .i64 zr))])
theorem B71{a0}{n:W}:nB a0 (HU a0 n):=by
 induction n with
 | zero=>intro _ _ r h; cases h
 | succ n ih=>
  intro v1 v2 r h σ hσ;rw[HU] at h;refine Ai ?_;obtain⟨h3,h⟩|⟨h3,h⟩:=ic h
  ·try simp only[hσ,h3,RA,C,E,F,G,H,J]
   refine An ?_;obtain⟨x4,h4,h⟩:=ob h;obtain⟨r5,h5,h⟩:=ob h;try simp only[h3,h4,C,E,F,G,H,J]
   refine AF (Tq h5) ?_;obtain⟨h6,h⟩|⟨h6,h⟩:=ic h
   ·try simp only[h3,h4,h6,C,E,F,G,H,J]
    refine ih h ?_;try simp only[h3,h4,h6,C,E,F,G,H,J,pL,aM,zA]
   ·try simp only[h3,h4,h6,C,E,F,G,H,J]
    cases h;exact t0
  ·try simp only[hσ,h3,RA,VY,C,E,F,G,H,J]
   cases h;exact t0
theorem jk{a0}{a1}{r}(h:JT a0 a1=N r):FC I 20 [.sc (.sl (Z rS a0)),.sc (.int .i64 a1)] [.sc (.v (.int .i64 r))]:=by
 unfold JT at h;refine A9 mixed dq [4] 22 ?_;simp only[dq,C,E,F,G,H,J];try simp only[C,E,F,G,H,J]
 refine B71 h ?_;try simp only[C,E,F,G,H,J,pL,aM,zA]
end Go.Vi
