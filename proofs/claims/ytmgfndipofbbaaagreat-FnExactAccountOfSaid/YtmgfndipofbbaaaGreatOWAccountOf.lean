/-
Walks. No condition.
-/
import Derived.Test.YtmgfndipofbbaaaGreatONf
import Derived.Test.YtmgfndipofbbaaaGreatChecked
import Derived.KernelRfl
import Derived.Test.YtmgfndipofbbaaaGreatOWAccountOfb
namespace Go.Vi
open Go.Proofs
set_option linter.all false
set_option maxRecDepth 4000
set_option maxHeartbeats 2000000
open Nat renaming reduceBEq → C, reduceMul → E, reduceAdd → F, reduceDiv → G, le_of_ble_eq_true → uf
open Int renaming reduceBEq → H
attribute [local irreducible] go Bo
open List renaming map → Y, map_nil → I, length_set → zA, replicate → zE, all_cons → zF, all_nil → zG, all_eq_true → zH
open Tryz renaming prog → Z
open Xd renaming row → zB
open Xb renaming row → zC
open Xa renaming row → zD
open IntKind renaming wrap → zI
open Bool renaming true → T, false → L
open Option renaming some → N, none → O
open _root_ renaming List → P, Option → Q, Int → U, Bool → V, Nat → W, rfl → X
/- 105:impl_IsOption -/
def QI:X0:=A1 [Ag [3,4,5,7,14,15,16] [3,4,5] [768]] (A1 [bn 17 .lss 16 15] (Aw 17 0 1 (A1 [ia 18 14 16 5,lw 19 18 5,Ai 9 [aI 0,aI 0,aB L,aI 0,aI 0],so 9 19 5] (.reg [mv 20 7,fa 21 9 1,ld 22 21,AO 23 1 [.int .i64 0] 1 [(0,(S 22))],Bl 24 1 8 20 23,mv 7 24])) (Av 25 16)))
def V2:X0:=(A1 [lw 27 3 12,lw 28 4 5,mv 29 7,fa 30 5 0,ld 31 30,ca 32 199 [S 27,S 28,S 29,S 31],mv 26 32,xt 33 26 0,xt 34 26 1,Ai 10 [aI 0,aI 0,aI 0,.nil],so 10 33 4,mv 11 34] (A2 [mv 35 11,mv 36 35,AL 36 T 37 10 4,AL 36 T 38 5 4,Am 36 T 39 200 [S 37,S 38],pa 40 36 39,mv 6 40]))
def bq:X0:=(A1 [bo 3 0,bo 4 1,bo 5 2,A3 6 L] (A1 [AO 12 1 [.int .i64 0] 0 [],mv 7 12] (A6 (A1 [fa 13 5 3,ld 14 13,ln 15 14,A5 16 0] (Aj 0 QI)) V2)))
def lJ:=fun(a2:X2) (a0:X7) (a1:Xa) (k_:U→(P U)→Q V)=>∀{v1 v2} {zr},k_ v1 v2=N zr→Kp Z [3,4,5,7,14,15,16] [3,4,5] [768] ⟨[pB 3,pB 4,pB 5,pW 7 768,pL 14 X1.row a2.Passages,pI 15 (a2.Passages.length:U),pI 16 v1],[(3,([aI a0.Forecast.Tide.Mean,aM zB a0.Forecast.Tide.Parts,aM zC a0.Forecast.Surges,aM X9.row a0.Chart.Points,aM X3.row a0.Chart.Segments,aM X5.row a0.Fleet,aI a0.Regime.Gap,aB a0.Regime.NoMeet]++dm a0.Crew.row)),(4,(dm a1.row)),(5,[aI a2.Start,aI a2.Arrival,aI a2.Cost,aM X1.row a2.Passages])],[(768,1,Y rI v2)]⟩ (.code (.loop QI):: [.blk 0,.code V2]) (Ah [6] [.sc (.v (.bool zr))])
theorem B4x{a2 a0 a1}{n:W}:lJ a2 a0 a1 (Ha a2 a0 a1 n):=by
 induction n with
 | zero=>intro _ _ r h; cases h
 | succ n ih=>
  intro v1 v2 r h σ hσ;rw[Ha] at h;refine Ak ?_;obtain⟨h3,h⟩|⟨h3,h⟩:=ic h
  ·obtain⟨x4,h4,h⟩:=ob h;try simp only[hσ,h3,h4,QI,C,E,F,G,H,J]
   refine Al ?_;try simp only[h3,h4,C,E,F,G,H,J]
   refine AD (es:=Y rI ([x4.Segment]:P U)) ?_;obtain⟨h5,h⟩:=Ba h;try simp only[h3,h4,h5,C,E,F,G,H,J]
   refine ih h ?_;try simp only[h3,h4,h5,C,E,F,G,H,J,I]
  ·obtain⟨r6,h6,h⟩:=ob h;try simp only[hσ,h3,QI,V2,C,E,F,G,H,J]
   refine B8 (A7o h6) X (BQ X ⟨X,X,X,AZ,X,⟨⟩⟩) X (uf X) ?_;try simp only[h3,C,E,F,G,H,J]
   refine Al ?_;obtain⟨h7,h⟩|⟨h7,h⟩:=ic h
   ·obtain⟨r9,h9,h⟩:=ob h;try simp only[h3,h7,C,E,F,G,H,J]
    refine B8 (A7v h9) X (BK X) X (uf X) ?_;try simp only[h3,h7,C,E,F,G,H,J]
    cases h;exact t0
   ·try simp only[h3,h7,C,E,F,G,H,J]
    cases h;exact t0
theorem A7h{a0}{a1}{a2}{r}(h:H9 a0 a1 a2=N r):FC Z 105 [.ag (X7.row a0),.ag (zD a1),.ag (X2.row a2)] [.sc (.v (.bool r))]:=by
 unfold H9 at h;refine Aa A9 bq [6] 41 ?_;simp only[bq,C,E,F,G,H,J];try simp only[C,E,F,G,H,J]
 refine A8 ?_;try simp only[C,E,F,G,H,J]
 refine A8 ?_;try simp only[C,E,F,G,H,J]
 refine A8 ?_;try simp only[C,E,F,G,H,J]
 refine AD (es:=Y rI ([]:P U)) ?_;try simp only[C,E,F,G,H,J]
 refine B4x h ?_;try simp only[C,E,F,G,H,J,I]
/- 332:impl_Overlaps -/
def br:X0:=(A1 [bo 2 0,bo 3 1,A3 4 L] (A2 [fa 5 2 3,ld 6 5,fa 7 3 3,ld 8 7,(O,.mm 9 T (S 6) (S 8)),fa 10 2 4,ld 11 10,fa 12 3 4,ld 13 12,(O,.mm 14 L (S 11) (S 13)),bn 15 .lss 9 14,mv 4 15]))
theorem ir{a0}{a1}{r}(h:JE a0 a1=N r):FC Z 332 [.ag (X1.row a0),.ag (X1.row a1)] [.sc (.v (.bool r))]:=by
 unfold JE at h;refine Aa A9 br [4] 16 ?_;simp only[br,C,E,F,G,H,J];try simp only[C,E,F,G,H,J]
 refine A8 ?_;try simp only[C,E,F,G,H,J]
 refine A8 ?_;try simp only[C,E,F,G,H,J]
 cases h;exact t0
/- 333:impl_near -/
def bt:X0:=(A1 [A3 6 L] (A2 [mv 7 0,mv 8 1,(O,.mm 9 T (S 7) (S 8)),(O,.conv 10 .u64 (S 9)),mv 11 0,mv 12 1,(O,.mm 13 L (S 11) (S 12)),(O,.conv 14 .u64 (S 13)),bn 15 .sub 10 14,mv 16 2,(O,.conv 17 .u64 (S 16)),bn 18 .lss 15 17,mv 6 18]))
theorem jD{a0}{a1}{a2}{r}(h:JN a0 a1 a2=N r):FC Z 333 [.sc (.int .i64 a0),.sc (.int .i64 a1),.sc (.int .i64 a2)] [.sc (.v (.bool r))]:=by
 unfold JN at h;refine Aa A9 bt [6] 19 ?_;simp only[bt,C,E,F,G,H,J];try simp only[C,E,F,G,H,J]
 cases h;exact t0
/- 277:impl_conflict -/
def E6:X0:=A1 [Ag [6,7,72] [6,7] []] (AS 72 (A2 [A5 8 3]) (A1 [fa 90 6 3,ld 91 90,fa 92 7 3,ld 93 92,bn 94 .lss 91 93,mv 95 94,Ac 95 T 96 6 4,Ad 95 T 97 96,Ac 95 T 98 7 4,Ad 95 T 99 98,AI 95 T 100 .gtr 97 99,pa 101 95 100,mv 102 101,Ac 102 L 103 6 3,Ad 102 L 104 103,Ac 102 L 105 7 3,Ad 102 L 106 105,AI 102 L 107 .gtr 104 106,Af 102 L 108 107,Ac 108 T 109 6 4,Ad 108 T 110 109,Ac 108 T 111 7 4,Ad 108 T 112 111,AI 108 T 113 .lss 110 112,(N (102,L),.pick 114 (S 108) (S 113) (KB L)),po 115 102 114,mv 89 115] (At 89 (A2 [A5 8 4]))))
def Lt:X0:=A1 [Ag [5,6,7,41] [5,6,7] []] (AS 41 (A2 [A5 8 2]) (A1 [fa 67 6 2,ld 68 67,fa 69 7 2,ld 70 69,(O,.beq 71 T (S 68) (S 70)),mv 66 71] (AS 66 (A2 [A5 8 0]) (A1 [fa 73 6 3,ld 74 73,fa 75 7 3,ld 76 75,fa 77 5 0,ld 78 77,ca 79 333 [S 74,S 76,S 78],mv 80 79,Ac 80 L 81 6 4,Ad 80 L 82 81,Ac 80 L 83 7 4,Ad 80 L 84 83,Ac 80 L 85 5 0,Ad 80 L 86 85,Am 80 L 87 333 [S 82,S 84,S 86],po 88 80 87,mv 72 88] E6))))
def Jm:X0:=A1 [Ag [4,5,6,7,24] [4,5,6,7] []] (AS 24 (A2 [A5 8 1]) (A1 [fa 36 6 0,ld 37 36,fa 38 7 0,ld 39 38,bn 40 .eql 37 39,mv 35 40] (AS 35 (A2 [A5 8 0]) (A1 [fa 42 6 2,ld 43 42,fa 44 7 2,ld 45 44,(O,.beq 46 T (S 43) (S 45)),mv 47 46,AL 47 T 48 6 5,AL 47 T 49 7 5,Am 47 T 50 332 [S 48,S 49],pa 51 47 50,mv 52 51,Ac 52 T 53 5 1,Ad 52 T 54 53,Af 52 T 55 54,Ac 55 L 56 4 1,Ad 55 L 57 56,Ac 55 L 58 6 1,Ad 55 L 59 58,CB 55 L 60 57 59 5,Ac 55 L 61 60 4,Ad 55 L 62 61,AM 55 L 63 62,(N (52,T),.pick 64 (S 55) (KB T) (S 63)),pa 65 52 64,mv 41 65] Lt))))
def Lu:X0:=A1 [Ag [4,5,6,7,9] [4,5,6,7] []] (AS 9 (A2 [A5 8 0]) (A1 [fa 25 6 0,ld 26 25,fa 27 7 0,ld 28 27,bn 29 .eql 26 28,mv 30 29,AL 30 T 31 6 5,AL 30 T 32 7 5,Am 30 T 33 332 [S 31,S 32],pa 34 30 33,mv 24 34] Jm))
def EM:X0:=(A2 [A5 8 0])
def bu:X0:=(A1 [bo 4 0,bo 5 1,bo 6 2,bo 7 3,A5 8 0] (A6 (.block 0 (A1 [fa 10 6 1,ld 11 10,fa 12 7 1,ld 13 12,bn 14 .neq 11 13,mv 15 14,Ac 15 L 16 6 1,Ad 15 L 17 16,Ac 15 L 18 4 1,Ad 15 L 19 18,B3 15 L 20 19,Am 15 L 21 94 [S 17,S 20],AM 15 L 22 21,po 23 15 22,mv 9 23] Lu)) EM))
def lf:=fun(a2:X1) (a3:X1) (k_:V→Q U)=>∀{v22} {zr},k_ v22=N zr→Kp Z [6,7,72] [6,7] [] ⟨[pB 6,pB 7,(72,vc (aB v22))],[(6,(dm a2.row)),(7,(dm a3.row))],[]⟩ (.code E6:: [.blk 0,.code EM]) (Ah [8] [.sc (.v (.int .i64 zr))])
def lc:=fun(a1:Xg) (a2:X1) (a3:X1) (k_:V→V→Q U)=>∀{v15 v16} {zr},k_ v15 v16=N zr→Kp Z [5,6,7,41] [5,6,7] [] ⟨[pB 5,pB 6,pB 7,(41,vc (aB v15))],[(5,[aI a1.Gap,aB v16]),(6,(dm a2.row)),(7,(dm a3.row))],[]⟩ (.code Lt:: [.blk 0,.code EM]) (Ah [8] [.sc (.v (.int .i64 zr))])
def lZ:=fun(a0:X6) (a1:Xg) (a2:X1) (a3:X1) (k_:V→Q U)=>∀{v7} {zr},k_ v7=N zr→Kp Z [4,5,6,7,24] [4,5,6,7] [] ⟨[pB 4,pB 5,pB 6,pB 7,(24,vc (aB v7))],[(4,[aM X9.row a0.Points,aM X3.row a0.Segments]),(5,(dm a1.row)),(6,(dm a2.row)),(7,(dm a3.row))],[]⟩ (.code Jm:: [.blk 0,.code EM]) (Ah [8] [.sc (.v (.int .i64 zr))])
def lY:=fun(a0:X6) (a1:Xg) (a2:X1) (a3:X1) (k_:V→Q U)=>∀{v3} {zr},k_ v3=N zr→Kp Z [4,5,6,7,9] [4,5,6,7] [] ⟨[pB 4,pB 5,pB 6,pB 7,(9,vc (aB v3))],[(4,[aM X9.row a0.Points,aM X3.row a0.Segments]),(5,(dm a1.row)),(6,(dm a2.row)),(7,(dm a3.row))],[]⟩ (.code Lu:: [.blk 0,.code EM]) (Ah [8] [.sc (.v (.int .i64 zr))])
theorem jo{a2 a3}:lf a2 a3 (Mm a2 a3):=by
 intro v22 r h σ hσ;unfold Mm at h;obtain⟨h23,h⟩|⟨h23,h⟩:=ic h
 ·try simp only[hσ,h23,E6,C,E,F,G,H,J]
  cases h;exact t0
 ·obtain⟨h24,h⟩|⟨h24,h⟩:=ic h
  ·obtain⟨h25,h⟩|⟨h25,h⟩:=ic h
   ·try simp only[hσ,h23,h24,h25,E6,C,E,F,G,H,J]
    cases h;exact t0
   ·obtain⟨h26,h⟩|⟨h26,h⟩:=ic h
    ·obtain⟨h28,h⟩|⟨h28,h⟩:=ic h
     ·try simp only[hσ,h23,h24,h25,h26,h28,E6,C,E,F,G,H,J]
      cases h;exact t0
     ·try simp only[hσ,h23,h24,h25,h26,h28,E6,EM,C,E,F,G,H,J]
      cases h;exact t0
    ·try simp only[hσ,h23,h24,h25,h26,E6,EM,C,E,F,G,H,J]
     cases h;exact t0
  ·obtain⟨h27,h⟩|⟨h27,h⟩:=ic h
   ·obtain⟨h29,h⟩|⟨h29,h⟩:=ic h
    ·try simp only[hσ,h23,h24,h27,h29,E6,C,E,F,G,H,J]
     cases h;exact t0
    ·try simp only[hσ,h23,h24,h27,h29,E6,EM,C,E,F,G,H,J]
     cases h;exact t0
   ·try simp only[hσ,h23,h24,h27,E6,EM,C,E,F,G,H,J]
    cases h;exact t0
theorem Ti{a1 a2 a3}:lc a1 a2 a3 (Hr a1 a2 a3):=by
 intro v15 v16 r h σ hσ;unfold Hr at h;obtain⟨h17,h⟩|⟨h17,h⟩:=ic h
 ·try simp only[hσ,h17,Lt,C,E,F,G,H,J]
  cases h;exact t0
 ·obtain⟨h18,h⟩|⟨h18,h⟩:=ic h
  ·obtain⟨r19,h19,h⟩:=ob h;try simp only[hσ,h17,h18,Lt,C,E,F,G,H,J]
   refine A4 (jD h19) ?_;obtain⟨h20,h⟩|⟨h20,h⟩:=ic h
   ·try simp only[h17,h18,h20,C,E,F,G,H,J]
    refine jo h ?_;try simp only[h17,h18,h20,C,E,F,G,H,J,I]
   ·obtain⟨r21,h21,h⟩:=ob h;try simp only[h17,h18,h20,C,E,F,G,H,J]
    refine A4 (jD h21) ?_;try simp only[h17,h18,h20,C,E,F,G,H,J]
    refine jo h ?_;try simp only[h17,h18,h20,C,E,F,G,H,J,I]
  ·try simp only[hσ,h17,h18,Lt,C,E,F,G,H,J]
   cases h;exact t0
theorem jp{a0 a1 a2 a3}:lZ a0 a1 a2 a3 (Ml a0 a1 a2 a3):=by
 intro v7 r h σ hσ;unfold Ml at h;obtain⟨h8,h⟩|⟨h8,h⟩:=ic h
 ·try simp only[hσ,h8,Jm,C,E,F,G,H,J]
  cases h;exact t0
 ·obtain⟨h9,h⟩|⟨h9,h⟩:=ic h
  ·try simp only[hσ,h8,h9,Jm,C,E,F,G,H,J]
   cases h;exact t0
  ·obtain⟨h10,h⟩|⟨h10,h⟩:=ic h
   ·try simp only[hσ,h8,h9,h10,Jm,C,E,F,G,H,J]
    refine Ti h ?_;try simp only[h8,h9,h10,C,E,F,G,H,J,I]
   ·obtain⟨r11,h11,h⟩:=ob h;try simp only[hσ,h8,h9,h10,Jm,C,E,F,G,H,J]
    refine A4 (ir h11) ?_;obtain⟨h12,h⟩|⟨h12,h⟩:=ic h
    ·obtain⟨h13,h⟩|⟨h13,h⟩:=ic h
     ·try simp only[h8,h9,h10,h12,h13,C,E,F,G,H,J]
      refine Ti h ?_;try simp only[h8,h9,h10,h12,h13,C,E,F,G,H,J,I]
     ·obtain⟨x14,h14,h⟩:=ob h;try simp only[h8,h9,h10,h12,h13,h14,C,E,F,G,H,J]
      refine Ti h ?_;try simp only[h8,h9,h10,h12,h13,h14,C,E,F,G,H,J,I]
    ·try simp only[h8,h9,h10,h12,C,E,F,G,H,J]
     refine Ti h ?_;try simp only[h8,h9,h10,h12,C,E,F,G,H,J,I]
theorem jq{a0 a1 a2 a3}:lY a0 a1 a2 a3 (Mj a0 a1 a2 a3):=by
 intro v3 r h σ hσ;unfold Mj at h;obtain⟨h4,h⟩|⟨h4,h⟩:=ic h
 ·try simp only[hσ,h4,Lu,C,E,F,G,H,J]
  cases h;exact t0
 ·obtain⟨h5,h⟩|⟨h5,h⟩:=ic h
  ·obtain⟨r6,h6,h⟩:=ob h;try simp only[hσ,h4,h5,Lu,C,E,F,G,H,J]
   refine A4 (ir h6) ?_;try simp only[h4,h5,C,E,F,G,H,J]
   refine jp h ?_;try simp only[h4,h5,C,E,F,G,H,J,I]
  ·try simp only[hσ,h4,h5,Lu,C,E,F,G,H,J]
   refine jp h ?_;try simp only[h4,h5,C,E,F,G,H,J,I]
theorem A8a{a0}{a1}{a2}{a3}{r}(h:Mi a0 a1 a2 a3=N r):FC Z 277 [.ag (X6.row a0),.ag (Xg.row a1),.ag (X1.row a2),.ag (X1.row a3)] [.sc (.v (.int .i64 r))]:=by
 unfold Mi at h;refine Aa A9 bu [8] 116 ?_;simp only[bu,C,E,F,G,H,J];try simp only[C,E,F,G,H,J]
 refine A8 ?_;try simp only[C,E,F,G,H,J]
 refine A8 ?_;try simp only[C,E,F,G,H,J]
 refine A8 ?_;try simp only[C,E,F,G,H,J]
 refine A8 ?_;obtain⟨h1,h⟩|⟨h1,h⟩:=ic h
 ·try simp only[h1,C,E,F,G,H,J]
  refine jq h ?_;try simp only[h1,C,E,F,G,H,J,I]
 ·obtain⟨r2,h2,h⟩:=ob h;try simp only[h1,C,E,F,G,H,J]
  refine A4 (Cv h2) ?_;try simp only[h1,C,E,F,G,H,J]
  refine jq h ?_;try simp only[h1,C,E,F,G,H,J,I]
/- 201:impl_clashes -/
def QJ:X0:=A1 [Ag [3,4,5,10,13,14,15,19,20,21] [4,5,10] []] (A1 [bn 22 .lss 21 20] (Aw 22 2 3 (A1 [ia 23 19 21 5,lw 24 23 5,Ai 12 [aI 0,aI 0,aB L,aI 0,aI 0],so 12 24 5] (A1 [lw 25 4 2,lw 26 5 2,lw 27 10 5,lw 28 12 5,ca 29 277 [S 25,S 26,S 27,S 28],Ae 30 .neq 29 0] (At 30 (A2 [A3 8 T])))) (Av 31 21)))
def V4:X0:=(Av 32 15)
def Lv:X0:=A1 [Ag [3,4,5,13,14,15] [4,5] []] (A1 [bn 16 .lss 15 14] (Aw 16 0 1 (A1 [ia 17 13 15 5,lw 18 17 5,Ai 10 [aI 0,aI 0,aB L,aI 0,aI 0],so 10 18 5] (A1 [mv 19 3,ln 20 19,A5 21 0] (Aj 2 QJ))) V4))
def QK:X0:=(A2 [A3 8 L])
def bw:X0:=(A1 [bo 4 0,bo 5 1,A3 8 L] (A6 (A1 [mv 13 2,ln 14 13,A5 15 0] (Aj 0 Lv)) QK))
def lX:=fun a3 a2 v1 (a0:X6) (a1:Xg) (x3:X1) (k_:U→Q V)=>∀{v4} {zr},k_ v4=N zr→Kp Z [3,4,5,10,13,14,15,19,20,21] [4,5,10] [] ⟨[pL 3 X1.row a3,pB 4,pB 5,pB 10,pL 13 X1.row a2,pI 14 (a2.length:U),pI 15 v1,pL 19 X1.row a3,pI 20 (a3.length:U),pI 21 v4],[(4,[aM X9.row a0.Points,aM X3.row a0.Segments]),(5,(dm a1.row)),(10,(dm x3.row))],[]⟩ (.code (.loop QJ):: [.blk 2,.blk 1,.code V4,.code (.loop Lv),.blk 0,.code QK]) (Ah [8] [.sc (.v (.bool zr))])
def Y4:=fun a3 a2 (a0:X6) (a1:Xg) (k_:U→Q V)=>∀{v1} {zr},k_ v1=N zr→Kp Z [3,4,5,13,14,15] [4,5] [] ⟨[pL 3 X1.row a3,pB 4,pB 5,pL 13 X1.row a2,pI 14 (a2.length:U),pI 15 v1],[(4,[aM X9.row a0.Points,aM X3.row a0.Segments]),(5,(dm a1.row))],[]⟩ (.code (.loop Lv):: [.blk 0,.code QK]) (Ah [8] [.sc (.v (.bool zr))])
theorem B4y{a3 a2 v1 a0 a1 x3}{O6}(wa:Y4 a3 a2 a0 a1 O6){n:W}:lX a3 a2 v1 a0 a1 x3 (Hq a3 a2 v1 a0 a1 x3 O6 n):=by
 induction n with
 | zero=>intro _ r h; cases h
 | succ n ih=>
  intro v4 r h σ hσ;rw[Hq] at h;refine Ak ?_;obtain⟨h5,h⟩|⟨h5,h⟩:=ic h
  ·obtain⟨x6,h6,h⟩:=ob h;try simp only[hσ,h5,h6,QJ,C,E,F,G,H,J]
   refine Al ?_;obtain⟨r7,h7,h⟩:=ob h;try simp only[h5,h6,C,E,F,G,H,J]
   refine A4 (A8a h7) ?_;obtain⟨h8,h⟩|⟨h8,h⟩:=ic h
   ·try simp only[h5,h6,h8,C,E,F,G,H,J]
    cases h;exact t0
   ·try simp only[h5,h6,h8,C,E,F,G,H,J]
    refine ih h ?_;try simp only[h5,h6,h8,C,E,F,G,H,J,I]
  ·try simp only[hσ,h5,QJ,V4,C,E,F,G,H,J]
   refine wa h ?_;try simp only[h5,C,E,F,G,H,J,I]
theorem B4z{a3 a2 a0 a1}{n:W}:Y4 a3 a2 a0 a1 (EV a3 a2 a0 a1 n):=by
 induction n with
 | zero=>intro _ r h; cases h
 | succ n ih=>
  intro v1 r h σ hσ;rw[EV] at h;refine Ak ?_;obtain⟨h2,h⟩|⟨h2,h⟩:=ic h
  ·obtain⟨x3,h3,h⟩:=ob h;try simp only[hσ,h2,h3,Lv,C,E,F,G,H,J]
   refine Al ?_;try simp only[h2,h3,C,E,F,G,H,J]
   refine B4y ih h ?_;try simp only[h2,h3,C,E,F,G,H,J,I]
  ·try simp only[hσ,h2,Lv,QK,C,E,F,G,H,J]
   cases h;exact t0
theorem A79{a0}{a1}{a2}{a3}{r}(h:Mh a0 a1 a2 a3=N r):FC Z 201 [.ag (X6.row a0),.ag (Xg.row a1),.sc (.sl (Y X1.row a2)),.sc (.sl (Y X1.row a3))] [.sc (.v (.bool r))]:=by
 unfold Mh at h;refine Aa A9 bw [8] 33 ?_;simp only[bw,C,E,F,G,H,J];try simp only[C,E,F,G,H,J]
 refine A8 ?_;try simp only[C,E,F,G,H,J]
 refine A8 ?_;try simp only[C,E,F,G,H,J]
 refine B4z h ?_;try simp only[C,E,F,G,H,J,I]
/- 203:impl_clone_Option -/
def cA:X0:=(A1 [AA 2] (A2 [mv 3 0,ln 4 3,(O,.mksl 5 4 48 [.int .i64 0,.int .i64 0,.int .i64 0,.sl []] (K 0) (S 4)),mv 6 0,Bl 7 4 48 5 6,mv 2 7]))
theorem iz{a0}{r}(h:Eb a0=N r):FC Z 203 [.sc (.sl (Y X2.row a0))] [.sc (.o 4 (Y X2.row r))]:=by
 unfold Eb at h;refine Aa A9 cA [2] 8 ?_;simp only[cA,C,E,F,G,H,J];obtain⟨n1,hn1,h⟩:=ob h;try simp only[C,E,F,G,H,J]
 refine Df (es:=Y X2.row (zE n1 (⟨(0:U),(0:U),(0:U),([]:P X1)⟩:X2))) X X hn1 X (CD X) X ?_;obtain⟨h2,h⟩:=Ba h;try simp only[h2,C,E,F,G,H,J]
 cases h;exact t0
/- 334:impl_Passage_ends -/
def cB:X0:=(A1 [bo 2 0,bo 3 1,A5 4 0,A5 5 0] (A1 [fa 7 3 1,ld 8 7,fa 9 2 1,ld 10 9,ia 11 8 10 5,lw 12 11 5,Ai 6 [aI 0,aI 0,aI 0,aI 0,aB L],so 6 12 5] (Ab [fa 13 2 2,ld 14 13] 14 (A6 (.drw [o0 (fa 15 6 0),o0 (ld 16 15),o0 (fa 17 6 1),o0 (ld 18 17),o0 (mv 4 16),o0 (mv 5 18)]) .ret) (A6 (.drw [o0 (fa 19 6 1),o0 (ld 20 19),o0 (fa 21 6 0),o0 (ld 22 21),o0 (mv 4 20),o0 (mv 5 22)]) .ret))))
theorem iu{a0}{a1}{r}(h:JF a0 a1=N r):FC Z 334 [.ag (X1.row a0),.ag (X6.row a1)] [.sc (.v (.int .i64 r.1)),.sc (.v (.int .i64 r.2))]:=by
 unfold JF at h;refine Aa A9 cB [4,5] 23 ?_;simp only[cB,C,E,F,G,H,J];try simp only[C,E,F,G,H,J]
 refine A8 ?_;try simp only[C,E,F,G,H,J]
 refine A8 ?_;obtain⟨x1,h1,h⟩:=ob h;try simp only[h1,C,E,F,G,H,J]
 refine Al ?_;obtain⟨h2,h⟩|⟨h2,h⟩:=ic h
 ·try simp only[h1,h2,C,E,F,G,H,J]
  refine Ao ?_;try simp only[h1,h2,C,E,F,G,H,J]
  cases h;trivial
 ·try simp only[h1,h2,C,E,F,G,H,J]
  refine Ao ?_;try simp only[h1,h2,C,E,F,G,H,J]
  cases h;trivial
/- 278:impl_duty -/
def cC:X0:=(A1 [bo 3 0,bo 4 1,bo 5 2,Ai 6 [aI 0,aI 0,aI 0,aI 0]] (A1 [lw 12 4 5,lw 13 3 2,ca 14 334 [S 12,S 13],mv 11 14,xt 15 11 0,xt 16 11 1,mv 7 15,mv 8 16] (A1 [lw 18 5 5,lw 19 3 2,ca 20 334 [S 18,S 19],mv 17 20,xt 21 17 0,xt 22 17 1,mv 9 21,mv 10 22] (A2 [fa 23 4 3,ld 24 23,fa 25 5 4,ld 26 25,mv 27 7,mv 28 10,Bv 29 [aI 0,aI 0,aI 0,aI 0] [(0,1,(S 24)),(1,1,(S 26)),(2,1,(S 27)),(3,1,(S 28))],so 6 29 4]))))
theorem jB{a0}{a1}{a2}{r}(h:JJ a0 a1 a2=N r):FC Z 278 [.ag (X6.row a0),.ag (X1.row a1),.ag (X1.row a2)] [.ag [.v (.int .i64 r.From),.v (.int .i64 r.To),.v (.int .i64 r.A),.v (.int .i64 r.B)]]:=by
 unfold JJ at h;refine Aa A9 cC [.c 6 T 4] 30 ?_;simp only[cC,C,E,F,G,H,J];try simp only[C,E,F,G,H,J]
 refine A8 ?_;try simp only[C,E,F,G,H,J]
 refine A8 ?_;try simp only[C,E,F,G,H,J]
 refine A8 ?_;try simp only[C,E,F,G,H,J]
 refine Al ?_;obtain⟨r1,h1,h⟩:=ob h;try simp only[C,E,F,G,H,J]
 refine A4 (iu h1) ?_;obtain⟨r2,h2,h⟩:=ob h;try simp only[C,E,F,G,H,J]
 refine A4 (iu h2) ?_;try simp only[C,E,F,G,H,J]
 cases h;try simp only[B7,C,E,F,G,H,J]
 trivial
/- 205:impl_passageOk -/
def cD:X0:=(A1 [bo 3 0,bo 5 2,A3 6 L] (Ab [fa 7 5 0,ld 8 7,mv 9 1,ln 10 9,ca 11 94 [S 8,S 10],nt 12 11,mv 13 12,Ac 13 L 14 5 1,Ad 13 L 15 14,Ac 13 L 16 3 1,Ad 13 L 17 16,B3 13 L 18 17,Am 13 L 19 94 [S 15,S 18],AM 13 L 20 19,po 21 13 20,mv 22 21,Ac 22 L 23 5 3,Ad 22 L 24 23,Am 22 L 25 117 [S 24],AM 22 L 26 25,po 27 22 26,mv 28 27,Ac 28 L 29 5 4,Ad 28 L 30 29,AQ 28 L 31 .gtr 30 2880,po 32 28 31] 32 (A2 [A3 6 L]) (A6 (.drw [(N [48],fa 33 5 4),(N [48],ld 34 33),(N [48],fa 35 5 3),(N [48],ld 36 35),o0 (mv 37 1),o0 (fa 38 5 0),o0 (ld 39 38),o0 (ia 40 37 39 6),o0 (lw 41 40 6),o0 (fa 42 3 1),o0 (ld 43 42),o0 (fa 44 5 1),o0 (ld 45 44),o0 (ia 46 43 45 5),o0 (lw 47 46 5),o0 (ca 48 272 [S 41,S 47]),o0 (bn 49 .add 36 48),o0 (bn 50 .eql 34 49),o0 (mv 6 50)]) .ret)))
theorem A8k{a0}{a1}{a2}{r}(h:Mr a0 a1 a2=N r):FC Z 205 [.ag (X6.row a0),.sc (.sl (Y X5.row a1)),.ag (X1.row a2)] [.sc (.v (.bool r))]:=by
 unfold Mr at h;refine Aa A9 cD [6] 51 ?_;simp only[cD,C,E,F,G,H,J];try simp only[C,E,F,G,H,J]
 refine A8 ?_;try simp only[C,E,F,G,H,J]
 refine A8 ?_;obtain⟨r1,h1,h⟩:=ob h;try simp only[C,E,F,G,H,J]
 refine A4 (Cv h1) ?_;obtain⟨h2,h⟩|⟨h2,h⟩:=ic h
 ·obtain⟨r3,h3,h⟩:=ob h;try simp only[h2,C,E,F,G,H,J]
  refine A4 (Cv h3) ?_;obtain⟨h4,h⟩|⟨h4,h⟩:=ic h
  ·obtain⟨r5,h5,h⟩:=ob h;try simp only[h2,h4,C,E,F,G,H,J]
   refine A4 (FA h5) ?_;obtain⟨h6,h⟩|⟨h6,h⟩:=ic h
   ·obtain⟨h7,h⟩|⟨h7,h⟩:=ic h
    ·try simp only[h2,h4,h6,h7,C,E,F,G,H,J]
     cases h;exact t0
    ·try simp only[h2,h4,h6,h7,C,E,F,G,H,J]
     refine Ao ?_;obtain⟨x8,h8,h⟩:=ob h;obtain⟨x9,h9,h⟩:=ob h;obtain⟨r10,h10,h⟩:=ob h;try simp only[h2,h4,h6,h7,h8,h9,C,E,F,G,H,J]
     refine AH (OP h10) ?_;try simp only[h2,h4,h6,h7,h8,h9,C,E,F,G,H,J]
     cases h;exact t0
   ·try simp only[h2,h4,h6,C,E,F,G,H,J]
    cases h;exact t0
  ·try simp only[h2,h4,C,E,F,G,H,J]
   cases h;exact t0
 ·try simp only[h2,C,E,F,G,H,J]
  cases h;exact t0
/- 335:impl_PassageOk -/
def cE:X0:=(A1 [bo 3 0,bo 5 2,A3 6 L] (A2 [lw 7 3 2,ca 8 93 [S 7],mv 9 8,Af 9 T 10 1,Am 9 T 11 183 [S 10],pa 12 9 11,mv 13 12,AL 13 T 14 3 2,Af 13 T 15 1,AL 13 T 16 5 5,Am 13 T 17 205 [S 14,S 15,S 16],pa 18 13 17,mv 6 18]))
theorem A7q{a0}{a1}{a2}{r}(h:M5 a0 a1 a2=N r):FC Z 335 [.ag (X6.row a0),.sc (.sl (Y X5.row a1)),.ag (X1.row a2)] [.sc (.v (.bool r))]:=by
 unfold M5 at h;refine Aa A9 cE [6] 19 ?_;simp only[cE,C,E,F,G,H,J];try simp only[C,E,F,G,H,J]
 refine A8 ?_;try simp only[C,E,F,G,H,J]
 refine A8 ?_;obtain⟨r1,h1,h⟩:=ob h;try simp only[C,E,F,G,H,J]
 refine A4 (J6 h1) ?_;obtain⟨h2,h⟩|⟨h2,h⟩:=ic h
 ·obtain⟨r3,h3,h⟩:=ob h;try simp only[h2,C,E,F,G,H,J]
  refine A4 (io h3) ?_;obtain⟨h4,h⟩|⟨h4,h⟩:=ic h
  ·obtain⟨r5,h5,h⟩:=ob h;try simp only[h2,h4,C,E,F,G,H,J]
   refine A4 (A8k h5) ?_;try simp only[h2,h4,C,E,F,G,H,J]
   cases h;exact t0
  ·try simp only[h2,h4,C,E,F,G,H,J]
   cases h;exact t0
 ·try simp only[h2,C,E,F,G,H,J]
  cases h;exact t0
/- 279:impl_tugDuties -/
def Lw:X0:=A1 [Ag [1,3,8,10,12,13,14,28,29] [3,10] [704]] (A1 [bn 30 .lss 29 28] (Aw 30 2 3 (.reg [mv 31 8,lw 32 3 2,lw 33 10 5,lw 34 10 5,ca 35 278 [S 32,S 33,S 34],AO 36 4 [.int .i64 0,.int .i64 0,.int .i64 0,.int .i64 0] 1 [(0,(S 35))],Bl 37 4 32 31 36,mv 8 37]) (Av 38 29)))
def QL:X0:=(A1 [mv 39 8,ln 40 39,Ae 41 .gtr 40 12] (At 41 (A2 [AA 6,A3 7 L])))
def V5:X0:=(Av 42 14)
def Lx:X0:=A1 [Ag [1,3,8,12,13,14] [3] [704]] (A1 [bn 15 .lss 14 13] (Aw 15 0 1 (A1 [ia 16 12 14 5,lw 17 16 5,Ai 10 [aI 0,aI 0,aB L,aI 0,aI 0],so 10 17 5] (Ab [lw 18 3 2,mv 19 1,lw 20 10 5,ca 21 335 [S 18,S 19,S 20],nt 22 21] 22 (A2 [AA 6,A3 7 L]) (A6 (A1 [mv 23 1,fa 24 10 0,ld 25 24,ia 26 23 25 6,fa 27 26 4,ld 28 27,A5 29 0] (Aj 2 Lw)) QL))) V5))
def QM:X0:=(A2 [mv 43 8,mv 6 43,A3 7 T])
def cF:X0:=(A1 [bo 3 0,AA 6,A3 7 L] (A1 [AO 11 4 [.int .i64 0,.int .i64 0,.int .i64 0,.int .i64 0] 0 [],mv 8 11] (A6 (A1 [mv 12 2,ln 13 12,A5 14 0] (Aj 0 Lx)) QM)))
def lx:=fun a1 a2 v1 (x7:X5) (a0:X6) (x4:X1) (k_:U→(P X8)→Q ((P X8) × V))=>∀{v8 v9} {zr},k_ v8 v9=N zr→Kp Z [1,3,8,10,12,13,14,28,29] [3,10] [704] ⟨[pL 1 X5.row a1,pB 3,pW 8 704,pB 10,pL 12 X1.row a2,pI 13 (a2.length:U),pI 14 v1,pI 28 x7.Tugs,pI 29 v8],[(3,[aM X9.row a0.Points,aM X3.row a0.Segments]),(10,(dm x4.row))],[(704,4,Y X8.row v9)]⟩ (.code (.loop Lw):: [.blk 2,.code QL,.blk 1,.code V5,.code (.loop Lx),.blk 0,.code QM]) (Ah [6,7] [.sc (.o 4 (Y X8.row zr.1)),.sc (.v (.bool zr.2))])
def Y8:=fun a1 a2 (a0:X6) (k_:U→(P X8)→Q ((P X8) × V))=>∀{v1 v2} {zr},k_ v1 v2=N zr→Kp Z [1,3,8,12,13,14] [3] [704] ⟨[pL 1 X5.row a1,pB 3,pW 8 704,pL 12 X1.row a2,pI 13 (a2.length:U),pI 14 v1],[(3,[aM X9.row a0.Points,aM X3.row a0.Segments])],[(704,4,Y X8.row v2)]⟩ (.code (.loop Lx):: [.blk 0,.code QM]) (Ah [6,7] [.sc (.o 4 (Y X8.row zr.1)),.sc (.v (.bool zr.2))])
theorem B41{a1 a2 v1 x7 a0 x4}{O8}(wd:Y8 a1 a2 a0 O8){n:W}:lx a1 a2 v1 x7 a0 x4 (FU a1 a2 v1 x7 a0 x4 O8 n):=by
 induction n with
 | zero=>intro _ _ r h; cases h
 | succ n ih=>
  intro v8 v9 r h σ hσ;rw[FU] at h;refine Ak ?_;obtain⟨h10,h⟩|⟨h10,h⟩:=ic h
  ·obtain⟨r11,h11,h⟩:=ob h;try simp only[hσ,h10,Lw,C,E,F,G,H,J]
   refine A4 (jB h11) ?_;try simp only[h10,C,E,F,G,H,J]
   refine AD (es:=Y X8.row ([r11]:P X8)) ?_;obtain⟨h12,h⟩:=Ba h;try simp only[h10,h12,C,E,F,G,H,J]
   refine ih h ?_;try simp only[h10,h12,C,E,F,G,H,J,I]
  ·obtain⟨h13,h⟩|⟨h13,h⟩:=ic h
   ·try simp only[hσ,h10,h13,Lw,QL,C,E,F,G,H,J]
    cases h;trivial
   ·try simp only[hσ,h10,h13,Lw,QL,V5,C,E,F,G,H,J]
    refine wd h ?_;try simp only[h10,h13,C,E,F,G,H,J,I]
theorem B42{a1 a2 a0}{n:W}:Y8 a1 a2 a0 (EY a1 a2 a0 n):=by
 induction n with
 | zero=>intro _ _ r h; cases h
 | succ n ih=>
  intro v1 v2 r h σ hσ;rw[EY] at h;refine Ak ?_;obtain⟨h3,h⟩|⟨h3,h⟩:=ic h
  ·obtain⟨x4,h4,h⟩:=ob h;try simp only[hσ,h3,h4,Lx,C,E,F,G,H,J]
   refine Al ?_;obtain⟨r5,h5,h⟩:=ob h;try simp only[h3,h4,C,E,F,G,H,J]
   refine A4 (A7q h5) ?_;obtain⟨h6,h⟩|⟨h6,h⟩:=ic h
   ·obtain⟨x7,h7,h⟩:=ob h;try simp only[h3,h4,h6,h7,C,E,F,G,H,J]
    refine B41 ih h ?_;try simp only[h3,h4,h6,h7,C,E,F,G,H,J,I]
   ·try simp only[h3,h4,h6,C,E,F,G,H,J]
    cases h;trivial
  ·try simp only[hσ,h3,Lx,QM,C,E,F,G,H,J]
   cases h;trivial
theorem A8l{a0}{a1}{a2}{r}(h:Ms a0 a1 a2=N r):FC Z 279 [.ag (X6.row a0),.sc (.sl (Y X5.row a1)),.sc (.sl (Y X1.row a2))] [.sc (.o 4 (Y X8.row r.1)),.sc (.v (.bool r.2))]:=by
 unfold Ms at h;refine Aa A9 cF [6,7] 44 ?_;simp only[cF,C,E,F,G,H,J];try simp only[C,E,F,G,H,J]
 refine A8 ?_;try simp only[C,E,F,G,H,J]
 refine AD (es:=Y X8.row ([]:P X8)) ?_;try simp only[C,E,F,G,H,J]
 refine B42 h ?_;try simp only[C,E,F,G,H,J,I]
/- 378:impl_DutiesOk -/
def QN:X0:=A1 [Ag [8,9,10] [] []] (A1 [bn 11 .lss 10 9] (Aw 11 0 1 (A1 [ia 12 8 10 4,lw 13 12 4,Ai 4 [aI 0,aI 0,aI 0,aI 0],so 4 13 4] (A1 [fa 14 4 0,ld 15 14,Ae 16 .lss 15 0,mv 17 16,Ac 17 L 18 4 0,Ad 17 L 19 18,Ac 17 L 20 4 1,Ad 17 L 21 20,AI 17 L 22 .geq 19 21,po 23 17 22,mv 24 23,Ac 24 L 25 4 1,Ad 24 L 26 25,AQ 24 L 27 .gtr 26 2880,po 28 24 27,mv 29 28,Ac 29 L 30 4 2,Ad 29 L 31 30,Am 29 L 32 94 [S 31,K 8],AM 29 L 33 32,po 34 29 33,mv 35 34,Ac 35 L 36 4 3,Ad 35 L 37 36,Am 35 L 38 94 [S 37,K 8],AM 35 L 39 38,po 40 35 39] (At 40 (A2 [A3 2 L])))) (Av 41 10)))
def V6:X0:=(A2 [A3 2 T])
def cH:X0:=(A1 [A3 2 L] (Ab [mv 5 0,ln 6 5,Ae 7 .gtr 6 12] 7 (A2 [A3 2 L]) (A6 (A1 [mv 8 0,ln 9 8,A5 10 0] (Aj 0 QN)) V6)))
def lB:=fun a0 (k_:U→Q V)=>∀{v2} {zr},k_ v2=N zr→Kp Z [8,9,10] [] [] ⟨[pL 8 X8.row a0,pI 9 (a0.length:U),pI 10 v2],[],[]⟩ (.code (.loop QN):: [.blk 0,.code V6]) (Ah [2] [.sc (.v (.bool zr))])
theorem B43{a0}{n:W}:lB a0 (H5 a0 n):=by
 induction n with
 | zero=>intro _ r h; cases h
 | succ n ih=>
  intro v2 r h σ hσ;rw[H5] at h;refine Ak ?_;obtain⟨h3,h⟩|⟨h3,h⟩:=ic h
  ·obtain⟨x4,h4,h⟩:=ob h;try simp only[hσ,h3,h4,QN,C,E,F,G,H,J]
   refine Al ?_;obtain⟨h5,h⟩|⟨h5,h⟩:=ic h
   ·try simp only[h3,h4,h5,C,E,F,G,H,J]
    cases h;exact t0
   ·obtain⟨h6,h⟩|⟨h6,h⟩:=ic h
    ·try simp only[h3,h4,h5,h6,C,E,F,G,H,J]
     cases h;exact t0
    ·obtain⟨h7,h⟩|⟨h7,h⟩:=ic h
     ·try simp only[h3,h4,h5,h6,h7,C,E,F,G,H,J]
      cases h;exact t0
     ·obtain⟨r9,h9,h⟩:=ob h;try simp only[h3,h4,h5,h6,h7,C,E,F,G,H,J]
      refine A4 (Cv h9) ?_;obtain⟨h10,h⟩|⟨h10,h⟩:=ic h
      ·obtain⟨r11,h11,h⟩:=ob h;try simp only[h3,h4,h5,h6,h7,h10,C,E,F,G,H,J]
       refine A4 (Cv h11) ?_;obtain⟨h12,h⟩|⟨h12,h⟩:=ic h
       ·try simp only[h3,h4,h5,h6,h7,h10,h12,C,E,F,G,H,J]
        refine ih h ?_;try simp only[h3,h4,h5,h6,h7,h10,h12,C,E,F,G,H,J,I]
       ·try simp only[h3,h4,h5,h6,h7,h10,h12,C,E,F,G,H,J]
        cases h;exact t0
      ·try simp only[h3,h4,h5,h6,h7,h10,C,E,F,G,H,J]
       cases h;exact t0
  ·try simp only[hσ,h3,QN,V6,C,E,F,G,H,J]
   cases h;exact t0
theorem Xw{a0}{r}(h:H4 a0=N r):FC Z 378 [.sc (.sl (Y X8.row a0))] [.sc (.v (.bool r))]:=by
 unfold H4 at h;refine Aa A9 cH [2] 42 ?_;simp only[cH,C,E,F,G,H,J];obtain⟨h1,h⟩|⟨h1,h⟩:=ic h
 ·try simp only[h1,C,E,F,G,H,J]
  cases h;exact t0
 ·try simp only[h1,C,E,F,G,H,J]
  refine B43 h ?_;try simp only[h1,C,E,F,G,H,J,I]
/- 363:impl_coverable -/
def cI:X0:=(A1 [A3 6 L] (A2 [mv 7 2,ca 8 378 [S 7],mv 9 8,Af 9 T 10 0,Am 9 T 11 117 [S 10],pa 12 9 11,mv 13 12,Af 13 T 14 1,Am 13 T 15 268 [S 14],pa 16 13 15,mv 6 16]))
theorem A8b{a0}{a1}{a2}{r}(h:RM a0 a1 a2=N r):FC Z 363 [.sc (.int .i64 a0),.sc (.sl (Y rI a1)),.sc (.sl (Y X8.row a2))] [.sc (.v (.bool r))]:=by
 unfold RM at h;refine Aa A9 cI [6] 17 ?_;simp only[cI,C,E,F,G,H,J];obtain⟨r1,h1,h⟩:=ob h;try simp only[C,E,F,G,H,J]
 refine A4 (Xw h1) ?_;obtain⟨h2,h⟩|⟨h2,h⟩:=ic h
 ·obtain⟨r3,h3,h⟩:=ob h;try simp only[h2,C,E,F,G,H,J]
  refine A4 (FA h3) ?_;obtain⟨h4,h⟩|⟨h4,h⟩:=ic h
  ·obtain⟨r5,h5,h⟩:=ob h;try simp only[h2,h4,C,E,F,G,H,J]
   refine A4 (Xy h5) ?_;try simp only[h2,h4,C,E,F,G,H,J]
   cases h;exact t0
  ·try simp only[h2,h4,C,E,F,G,H,J]
   cases h;exact t0
 ·try simp only[h2,C,E,F,G,H,J]
  cases h;exact t0
/- 391:impl_Gap -/
def QO:X0:=A1 [Ag [0,1,6,7,29] [6,7] []] (At 29 (A2 [A5 8 0,A3 9 L]))
def V7:X0:=(A2 [mv 30 0,mv 31 1,fa 32 6 3,ld 33 32,(O,.bin 34 .mul (K 8) (S 33)),fa 35 7 2,ld 36 35,bn 37 .add 34 36,ia 38 31 37 1,ld 39 38,bn 40 .add 30 39,mv 8 40,A3 9 T])
def cJ:X0:=(A1 [bo 6 2,bo 7 3,A5 8 0,A3 9 L] (A6 (A1 [mv 10 0,ca 11 117 [S 10],nt 12 11,mv 13 12,Af 13 L 14 1,Am 13 L 15 268 [S 14],AM 13 L 16 15,po 17 13 16,mv 18 17,Ac 18 L 19 6 3,Ad 18 L 20 19,Am 18 L 21 94 [S 20,K 8],AM 18 L 22 21,po 23 18 22,mv 24 23,Ac 24 L 25 7 2,Ad 24 L 26 25,Am 24 L 27 94 [S 26,K 8],AM 24 L 28 27,po 29 24 28] QO) V7))
def lF:=fun a0 a1 (a2:X8) (a3:X8) (k_:V→Q (U × V))=>∀{v8} {zr},k_ v8=N zr→Kp Z [0,1,6,7,29] [6,7] [] ⟨[pI 0 a0,pL 1 rI a1,pB 6,pB 7,(29,vc (aB v8))],[(6,(dm a2.row)),(7,(dm a3.row))],[]⟩ (.code QO:: [.code V7]) (Ah [8,9] [.sc (.v (.int .i64 zr.1)),.sc (.v (.bool zr.2))])
theorem Tj{a0 a1 a2 a3}:lF a0 a1 a2 a3 (H7 a0 a1 a2 a3):=by
 intro v8 r h σ hσ;unfold H7 at h;obtain⟨h9,h⟩|⟨h9,h⟩:=ic h
 ·try simp only[hσ,h9,QO,C,E,F,G,H,J]
  cases h;trivial
 ·obtain⟨x10,h10,h⟩:=ob h;try simp only[hσ,h9,h10,QO,V7,C,E,F,G,H,J]
  cases h;trivial
theorem A7f{a0}{a1}{a2}{a3}{r}(h:RD a0 a1 a2 a3=N r):FC Z 391 [.sc (.int .i64 a0),.sc (.sl (Y rI a1)),.ag (X8.row a2),.ag (X8.row a3)] [.sc (.v (.int .i64 r.1)),.sc (.v (.bool r.2))]:=by
 unfold RD at h;refine Aa A9 cJ [8,9] 41 ?_;simp only[cJ,C,E,F,G,H,J];try simp only[C,E,F,G,H,J]
 refine A8 ?_;try simp only[C,E,F,G,H,J]
 refine A8 ?_;obtain⟨r1,h1,h⟩:=ob h;try simp only[C,E,F,G,H,J]
 refine A4 (FA h1) ?_;obtain⟨h2,h⟩|⟨h2,h⟩:=ic h
 ·obtain⟨r3,h3,h⟩:=ob h;try simp only[h2,C,E,F,G,H,J]
  refine A4 (Xy h3) ?_;obtain⟨h4,h⟩|⟨h4,h⟩:=ic h
  ·obtain⟨r5,h5,h⟩:=ob h;try simp only[h2,h4,C,E,F,G,H,J]
   refine A4 (Cv h5) ?_;obtain⟨h6,h⟩|⟨h6,h⟩:=ic h
   ·obtain⟨r7,h7,h⟩:=ob h;try simp only[h2,h4,h6,C,E,F,G,H,J]
    refine A4 (Cv h7) ?_;try simp only[h2,h4,h6,C,E,F,G,H,J]
    refine Tj h ?_;try simp only[h2,h4,h6,C,E,F,G,H,J,I]
   ·try simp only[h2,h4,h6,C,E,F,G,H,J]
    refine Tj h ?_;try simp only[h2,h4,h6,C,E,F,G,H,J,I]
  ·try simp only[h2,h4,C,E,F,G,H,J]
   refine Tj h ?_;try simp only[h2,h4,C,E,F,G,H,J,I]
 ·try simp only[h2,C,E,F,G,H,J]
  refine Tj h ?_;try simp only[h2,C,E,F,G,H,J,I]
/- 379:impl_CanFollow -/
def cK:X0:=(A1 [bo 6 2,bo 7 3,A3 8 L] (A1 [mv 12 0,mv 13 1,lw 14 6 4,lw 15 7 4,ca 16 391 [S 12,S 13,S 14,S 15],mv 11 16,xt 17 11 0,xt 18 11 1,mv 9 17,mv 10 18] (A2 [mv 19 10,mv 20 19,AL 20 T 21 6 4,(N (20,T),.bslice 22 4 [.int .i64 0,.int .i64 0,.int .i64 0,.int .i64 0] 1 [(0,(S 21))]),Am 20 T 23 378 [S 22],pa 24 20 23,mv 25 24,AL 25 T 26 7 4,(N (25,T),.bslice 27 4 [.int .i64 0,.int .i64 0,.int .i64 0,.int .i64 0] 1 [(0,(S 26))]),Am 25 T 28 378 [S 27],pa 29 25 28,mv 30 29,Ac 30 T 31 6 1,Ad 30 T 32 31,Af 30 T 33 9,AI 30 T 34 .add 32 33,Ac 30 T 35 7 0,Ad 30 T 36 35,AI 30 T 37 .leq 34 36,pa 38 30 37,mv 8 38])))
theorem il{a0}{a1}{a2}{a3}{r}(h:Jz a0 a1 a2 a3=N r):FC Z 379 [.sc (.int .i64 a0),.sc (.sl (Y rI a1)),.ag (X8.row a2),.ag (X8.row a3)] [.sc (.v (.bool r))]:=by
 unfold Jz at h;refine Aa A9 cK [8] 39 ?_;simp only[cK,C,E,F,G,H,J];try simp only[C,E,F,G,H,J]
 refine A8 ?_;try simp only[C,E,F,G,H,J]
 refine A8 ?_;obtain⟨r1,h1,h⟩:=ob h;try simp only[C,E,F,G,H,J]
 refine A4 (A7f h1) ?_;obtain⟨h2,h⟩|⟨h2,h⟩:=ic h
 ·try simp only[h2,C,E,F,G,H,J]
  refine AD (es:=Y X8.row ([a2]:P X8)) ?_;obtain⟨r3,h3,h⟩:=ob h;try simp only[h2,C,E,F,G,H,J]
  refine B8 (Xw h3) X (BK X) X (uf X) ?_;obtain⟨h4,h⟩|⟨h4,h⟩:=ic h
  ·try simp only[h2,h4,C,E,F,G,H,J]
   refine AD (es:=Y X8.row ([a3]:P X8)) ?_;obtain⟨r5,h5,h⟩:=ob h;try simp only[h2,h4,C,E,F,G,H,J]
   refine B8 (Xw h5) X (BK X) X (uf X) ?_;obtain⟨h6,h⟩|⟨h6,h⟩:=ic h
   ·try simp only[h2,h4,h6,C,E,F,G,H,J]
    cases h;exact t0
   ·try simp only[h2,h4,h6,C,E,F,G,H,J]
    cases h;exact t0
  ·try simp only[h2,h4,C,E,F,G,H,J]
   cases h;exact t0
 ·try simp only[h2,C,E,F,G,H,J]
  cases h;exact t0
/- 364:impl_partners -/
def QP:X0:=A1 [Ag [0,1,2,7,8,9,10,15,16,17,22,23,24,45] [9] [896]] (At 45 (.drw [o0 (mv 46 7),o0 (mv 47 8),o0 (ia 48 46 47 1),o0 (ld 49 48),o0 (mv 50 10),o0 (O,.bin 51 .shl (.c (.v (.sc (.dat (.int .u64 1))))) (S 50)),o0 (bn 52 .or 49 51),o0 (ia 53 46 47 1),(O,so 53 52 1)]))
def QQ:X0:=(Av 54 24)
def Ly:X0:=A1 [Ag [0,1,2,7,8,9,15,16,17,22,23,24] [9] [896]] (A1 [bn 25 .lss 24 23] (Aw 25 2 3 (A1 [mv 26 24,ia 27 22 24 4,lw 28 27 4,Ai 11 [aI 0,aI 0,aI 0,aI 0],mv 10 26,so 11 28 4] (A1 [mv 29 8,mv 30 10,bn 31 .neq 29 30,mv 32 31,Af 32 T 33 0,Af 32 T 34 1,AL 32 T 35 9 4,AL 32 T 36 11 4,Am 32 T 37 379 [S 33,S 34,S 35,S 36],Af 32 T 38 37,Af 38 L 39 0,Af 38 L 40 1,AL 38 L 41 11 4,AL 38 L 42 9 4,Am 38 L 43 379 [S 39,S 40,S 41,S 42],(N (32,T),.pick 44 (S 38) (KB T) (S 43)),pa 45 32 44] QP)) QQ))
def QS:X0:=(Av 55 17)
def Jn:X0:=A1 [Ag [0,1,2,7,15,16,17] [] [896]] (A1 [bn 18 .lss 17 16] (Aw 18 0 1 (A1 [mv 19 17,ia 20 15 17 4,lw 21 20 4,Ai 9 [aI 0,aI 0,aI 0,aI 0],mv 8 19,so 9 21 4] (A1 [mv 22 2,ln 23 22,A5 24 0] (Aj 2 Ly))) QS))
def Lz:X0:=(A2 [mv 56 7,mv 6 56])
def cL:X0:=(A1 [AA 6] (A1 [mv 12 2,ln 13 12,(O,.mksl 14 1 8 [.int .u64 0] (S 13) (S 13)),mv 7 14] (A6 (A1 [mv 15 2,ln 16 15,A5 17 0] (Aj 0 Jn)) Lz)))
def lu:=fun a0 a1 a2 v2 v6 (x5:X8) v7 (k_:V→Q (P U))=>∀{v14} {zr},k_ v14=N zr→Kp Z [0,1,2,7,8,9,10,15,16,17,22,23,24,45] [9] [896] ⟨[pI 0 a0,pL 1 rI a1,pL 2 X8.row a2,pW 7 896,pI 8 v2,pB 9,pI 10 v6,pL 15 X8.row a2,pI 16 (a2.length:U),pI 17 v2,pL 22 X8.row a2,pI 23 (a2.length:U),pI 24 v6,(45,vc (aB v14))],[(9,(dm x5.row))],[(896,1,Y rU v7)]⟩ (.code QP:: [.blk 3,.code QQ,.code (.loop Ly),.blk 2,.blk 1,.code QS,.code (.loop Jn),.blk 0,.code Lz]) (Ah [6] [.sc (.o 1 (Y rU zr))])
def Y7:=fun a0 a1 a2 v2 (x5:X8) (k_:U→(P U)→Q (P U))=>∀{v6 v7} {zr},k_ v6 v7=N zr→Kp Z [0,1,2,7,8,9,15,16,17,22,23,24] [9] [896] ⟨[pI 0 a0,pL 1 rI a1,pL 2 X8.row a2,pW 7 896,pI 8 v2,pB 9,pL 15 X8.row a2,pI 16 (a2.length:U),pI 17 v2,pL 22 X8.row a2,pI 23 (a2.length:U),pI 24 v6],[(9,(dm x5.row))],[(896,1,Y rU v7)]⟩ (.code (.loop Ly):: [.blk 2,.blk 1,.code QS,.code (.loop Jn),.blk 0,.code Lz]) (Ah [6] [.sc (.o 1 (Y rU zr))])
def Y6:=fun a0 a1 a2 (k_:U→(P U)→Q (P U))=>∀{v2 v3} {zr},k_ v2 v3=N zr→Kp Z [0,1,2,7,15,16,17] [] [896] ⟨[pI 0 a0,pL 1 rI a1,pL 2 X8.row a2,pW 7 896,pL 15 X8.row a2,pI 16 (a2.length:U),pI 17 v2],[],[(896,1,Y rU v3)]⟩ (.code (.loop Jn):: [.blk 0,.code Lz]) (Ah [6] [.sc (.o 1 (Y rU zr))])
theorem XR{a0 a1 a2 v2 v6 x5 v7}{O7}(eQ:Y7 a0 a1 a2 v2 x5 O7):lu a0 a1 a2 v2 v6 x5 v7 (Hw a0 a1 a2 v2 v6 x5 v7 O7):=by
 intro v14 r h σ hσ;unfold Hw at h;obtain⟨h15,h⟩|⟨h15,h⟩:=ic h
 ·try simp only[hσ,h15,QP,C,E,F,G,H,J]
  refine Ao ?_;obtain⟨x16,h16,h⟩:=ob h;have h16n:=AE h16;obtain⟨h17,h⟩:=Dl h;try simp only[h15,h16,h16n,h17,C,E,F,G,H,J]
  refine AW (row:=rU) (y:=(Br .or .u64 x16 (Bz .u64 (1:U) v6))) X X h16n X X (by rfl) ?_;try simp only[h15,h16,h16n,h17,C,E,F,G,H,J]
  refine Ao ?_;try simp only[h15,h16,h16n,h17,QQ,C,E,F,G,H,J]
  refine eQ h ?_;try simp only[h15,h16,h16n,h17,C,E,F,G,H,J,I]
 ·try simp only[hσ,h15,QP,QQ,C,E,F,G,H,J]
  refine eQ h ?_;try simp only[h15,C,E,F,G,H,J,I]
theorem B44{a0 a1 a2 v2 x5}{IL}(wc:Y6 a0 a1 a2 IL){n:W}:Y7 a0 a1 a2 v2 x5 (DP a0 a1 a2 v2 x5 IL n):=by
 induction n with
 | zero=>intro _ _ r h; cases h
 | succ n ih=>
  intro v6 v7 r h σ hσ;rw[DP] at h;refine Ak ?_;obtain⟨h8,h⟩|⟨h8,h⟩:=ic h
  ·obtain⟨x9,h9,h⟩:=ob h;try simp only[hσ,h8,h9,Ly,C,E,F,G,H,J]
   refine Al ?_;obtain⟨h10,h⟩|⟨h10,h⟩:=ic h
   ·obtain⟨r11,h11,h⟩:=ob h;try simp only[h8,h9,h10,C,E,F,G,H,J]
    refine A4 (il h11) ?_;obtain⟨h12,h⟩|⟨h12,h⟩:=ic h
    ·try simp only[h8,h9,h10,h12,C,E,F,G,H,J]
     refine XR ih h ?_;try simp only[h8,h9,h10,h12,C,E,F,G,H,J,I]
    ·obtain⟨r13,h13,h⟩:=ob h;try simp only[h8,h9,h10,h12,C,E,F,G,H,J]
     refine A4 (il h13) ?_;try simp only[h8,h9,h10,h12,C,E,F,G,H,J]
     refine XR ih h ?_;try simp only[h8,h9,h10,h12,C,E,F,G,H,J,I]
   ·try simp only[h8,h9,h10,C,E,F,G,H,J]
    refine XR ih h ?_;try simp only[h8,h9,h10,C,E,F,G,H,J,I]
  ·try simp only[hσ,h8,Ly,QS,C,E,F,G,H,J]
   refine wc h ?_;try simp only[h8,C,E,F,G,H,J,I]
theorem B45{a0 a1 a2}{n:W}:Y6 a0 a1 a2 (EX a0 a1 a2 n):=by
 induction n with
 | zero=>intro _ _ r h; cases h
 | succ n ih=>
  intro v2 v3 r h σ hσ;rw[EX] at h;refine Ak ?_;obtain⟨h4,h⟩|⟨h4,h⟩:=ic h
  ·obtain⟨x5,h5,h⟩:=ob h;try simp only[hσ,h4,h5,Jn,C,E,F,G,H,J]
   refine Al ?_;try simp only[h4,h5,C,E,F,G,H,J]
   refine B44 ih h ?_;try simp only[h4,h5,C,E,F,G,H,J,I]
  ·try simp only[hσ,h4,Jn,Lz,C,E,F,G,H,J]
   cases h;exact t0
theorem A8j{a0}{a1}{a2}{r}(h:Mq a0 a1 a2=N r):FC Z 364 [.sc (.int .i64 a0),.sc (.sl (Y rI a1)),.sc (.sl (Y X8.row a2))] [.sc (.o 1 (Y rU r))]:=by
 unfold Mq at h;refine Aa A9 cL [6] 57 ?_;simp only[cL,C,E,F,G,H,J];obtain⟨n1,hn1,h⟩:=ob h;try simp only[C,E,F,G,H,J]
 refine Df (es:=Y rU (zE n1 (0:U))) X X hn1 X (CD X) X ?_;try simp only[C,E,F,G,H,J]
 refine B45 h ?_;try simp only[C,E,F,G,H,J,I]
/- 393:math_bits_Len64 -/
def V8:X0:=A1 [Ag [0,2] [] []] (A2 [mv 19 2,mv 20 0,(O,.conv 21 .u8 (S 20)),(O,.idx 22 (KS [0,1,2,2,3,3,3,3,4,4,4,4,4,4,4,4,5,5,5,5,5,5,5,5,5,5,5,5,5,5,5,5,6,6,6,6,6,6,6,6,6,6,6,6,6,6,6,6,6,6,6,6,6,6,6,6,6,6,6,6,6,6,6,6,7,7,7,7,7,7,7,7,7,7,7,7,7,7,7,7,7,7,7,7,7,7,7,7,7,7,7,7,7,7,7,7,7,7,7,7,7,7,7,7,7,7,7,7,7,7,7,7,7,7,7,7,7,7,7,7,7,7,7,7,7,7,7,7,8,8,8,8,8,8,8,8,8,8,8,8,8,8,8,8,8,8,8,8,8,8,8,8,8,8,8,8,8,8,8,8,8,8,8,8,8,8,8,8,8,8,8,8,8,8,8,8,8,8,8,8,8,8,8,8,8,8,8,8,8,8,8,8,8,8,8,8,8,8,8,8,8,8,8,8,8,8,8,8,8,8,8,8,8,8,8,8,8,8,8,8,8,8,8,8,8,8,8,8,8,8,8,8,8,8,8,8,8,8,8,8,8,8,8,8,8,8,8,8,8,8,8,8,8,8,8,8]) (S 21)),(O,.conv 23 .i64 (S 22)),bn 24 .add 19 23,mv 2 24])
def QT:X0:=A1 [Ag [0,2] [] []] (Ab [mv 13 0,(O,.bin 14 .geq (S 13) (.c (.v (.sc (.dat (.int .u64 256))))))] 14 (A1 [mv 15 0,(O,.bin 16 .shr (S 15) (.c (.v (.sc (.dat (.int .u64 8)))))),mv 0 16] (.reg [mv 17 2,Ae 18 .add 17 8,mv 2 18])) V8)
def QU:X0:=A1 [Ag [0,2] [] []] (Ab [mv 7 0,(O,.bin 8 .geq (S 7) (.c (.v (.sc (.dat (.int .u64 65536))))))] 8 (A1 [mv 9 0,(O,.bin 10 .shr (S 9) (.c (.v (.sc (.dat (.int .u64 16)))))),mv 0 10] (.reg [mv 11 2,Ae 12 .add 11 16,mv 2 12])) QT)
def cM:X0:=(A1 [A5 2 0] (Ab [mv 3 0,(O,.bin 4 .geq (S 3) (.c (.v (.sc (.dat (.int .u64 4294967296))))))] 4 (A1 [mv 5 0,(O,.bin 6 .shr (S 5) (.c (.v (.sc (.dat (.int .u64 32)))))),mv 0 6] (.reg [A5 2 32])) QU))
def mu:=fun(k_:U→U→Q U)=>∀{v8 v9} {zr},k_ v8 v9=N zr→Kp Z [0,2] [] [] ⟨[(0,vc (.dat (.int .u64 v8))),pI 2 v9],[],[]⟩ (.code V8:: []) (Ah [2] [.sc (.v (.int .i64 zr))])
def mr:=fun(k_:U→U→Q U)=>∀{v5 v6} {zr},k_ v5 v6=N zr→Kp Z [0,2] [] [] ⟨[(0,vc (.dat (.int .u64 v5))),pI 2 v6],[],[]⟩ (.code QT:: []) (Ah [2] [.sc (.v (.int .i64 zr))])
def mq:=fun(k_:U→U→Q U)=>∀{v2 v3} {zr},k_ v2 v3=N zr→Kp Z [0,2] [] [] ⟨[(0,vc (.dat (.int .u64 v2))),pI 2 v3],[],[]⟩ (.code QU:: []) (Ah [2] [.sc (.v (.int .i64 zr))])
theorem jr:mu K3:=by
 intro v8 v9 r h σ hσ;unfold K3 at h;obtain⟨b10,h10,h⟩:=ob h;try simp only[hσ,h10,V8,C,E,F,G,H,J]
 cases h;exact t0
theorem ju:mr Nf:=by
 intro v5 v6 r h σ hσ;unfold Nf at h;obtain⟨h7,h⟩|⟨h7,h⟩:=ic h
 ·try simp only[hσ,h7,QT,C,E,F,G,H,J]
  refine jr h ?_;try simp only[h7,C,E,F,G,H,J,I]
 ·try simp only[hσ,h7,QT,C,E,F,G,H,J]
  refine jr h ?_;try simp only[h7,C,E,F,G,H,J,I]
theorem jv:mq Nd:=by
 intro v2 v3 r h σ hσ;unfold Nd at h;obtain⟨h4,h⟩|⟨h4,h⟩:=ic h
 ·try simp only[hσ,h4,QU,C,E,F,G,H,J]
  refine ju h ?_;try simp only[h4,C,E,F,G,H,J,I]
 ·try simp only[hσ,h4,QU,C,E,F,G,H,J]
  refine ju h ?_;try simp only[h4,C,E,F,G,H,J,I]
theorem B0r{a0}{r}(h:Sb a0=N r):FC Z 393 [.sc (.int .u64 a0)] [.sc (.v (.int .i64 r))]:=by
 unfold Sb at h;refine Aa A9 cM [2] 25 ?_;simp only[cM,C,E,F,G,H,J];obtain⟨h1,h⟩|⟨h1,h⟩:=ic h
 ·try simp only[h1,C,E,F,G,H,J]
  refine jv h ?_;try simp only[h1,C,E,F,G,H,J,I]
 ·try simp only[h1,C,E,F,G,H,J]
  refine jv h ?_;try simp only[h1,C,E,F,G,H,J,I]
/- 380:math_bits_Len -/
def cN:X0:=(A1 [A5 2 0] (A6 (.cond (KB L) (A2 [mv 3 0,(O,.conv 4 .u32 (S 3)),ca 5 392 [S 4],mv 2 5]) .skip) (A2 [mv 6 0,ca 7 393 [S 6],mv 2 7])))
theorem B0q{a0}{r}(h:K2 a0=N r):FC Z 380 [.sc (.int .u64 a0)] [.sc (.v (.int .i64 r))]:=by
 unfold K2 at h;refine Aa A9 cN [2] 8 ?_;simp only[cN,C,E,F,G,H,J];obtain⟨r1,h1,h⟩:=ob h;try simp only[C,E,F,G,H,J]
 refine A4 (B0r h1) ?_;try simp only[C,E,F,G,H,J]
 cases h;exact t0
/- 365:impl_leastPersons -/
def QV:X0:=A1 [Ag [0,3,4,5,6,7,8,9] [] [896,1024]] (A1 [mv 81 9,Ae 82 .eql 81 0] (At 82 (.exit 2)))
def Va:X0:=(.reg [mv 55 9,Ae 56 .sub 55 1,mv 57 8,bn 58 .and 56 57,mv 9 58])
def LA:X0:=A1 [Ag [0,3,4,5,6,7,8,9] [] [896,1024]] (A6 (.block 3 (Ab [mv 59 4,mv 60 9,mv 61 7,(O,.bin 62 .shl (K 1) (S 61)),bn 63 .or 60 62,ia 64 59 63 1,ld 65 64] 65 (.drw [o0 (mv 66 5),o0 (mv 67 6),o0 (mv 68 5),o0 (mv 69 6),o0 (ia 70 68 69 1),o0 (ld 71 70),o0 (mv 72 5),o0 (mv 73 8),o0 (mv 74 9),o0 (bn 75 .andNot 73 74),o0 (ia 76 72 75 1),o0 (ld 77 76),o0 (O,.bin 78 .add (K 1) (S 77)),o0 (O,.mm 79 L (S 71) (S 78)),o0 (ia 80 66 67 1),(O,so 80 79 1)]) QV)) Va)
def Vb:X0:=A1 [Ag [0,3,4,5,6,7,8] [] [896,1024]] (A1 [mv 49 5,mv 50 6,mv 51 0,ln 52 51,ia 53 49 50 1,so 53 52 1] (A1 [mv 54 8,mv 9 54] (Aj 2 LA)))
def LB:X0:=(.reg [mv 22 6,Ae 23 .add 22 1,mv 6 23])
def GT:X0:=A1 [Ag [0,3,4,5,6] [] [896,1024]] (A6 (A1 [mv 19 6,mv 20 3,bn 21 .lss 19 20] (AS 21 .skip (.exit 0))) (A6 (.block 1 (A1 [mv 24 6,(O,.conv 25 .u64 (S 24)),ca 26 380 [S 25],Ae 27 .sub 26 1,mv 7 27] (A1 [mv 28 6,mv 29 7,(O,.bin 30 .shl (K 1) (S 29)),bn 31 .andNot 28 30,mv 8 31] (A1 [mv 32 4,mv 33 6,mv 34 4,mv 35 8,ia 36 34 35 1,ld 37 36,mv 38 37,Af 38 T 39 8,(N (38,T),.conv 40 .u64 (S 39)),Af 38 T 41 0,Af 38 T 42 7,CB 38 T 43 41 42 1,Ad 38 T 44 43,AI 38 T 45 .andNot 40 44,(N (38,T),.bin 46 .eql (S 45) (.c (.v (.sc (.dat (.int .u64 0)))))),pa 47 38 46,ia 48 32 33 1,so 48 47 1] Vb)))) LB))
def Jo:X0:=(A2 [mv 83 5,mv 84 3,Ae 85 .sub 84 1,ia 86 83 85 1,ld 87 86,mv 2 87])
def cP:X0:=(A1 [A5 2 0] (A1 [mv 10 0,ln 11 10,(O,.bin 12 .shl (K 1) (S 11)),mv 3 12] (A1 [mv 13 3,(O,.mksl 14 1 1 [.bool L] (S 13) (S 13)),mv 4 14] (A1 [mv 15 3,(O,.mksl 16 1 8 [.int .i64 0] (S 15) (S 15)),mv 5 16] (A1 [mv 17 4,(O,.iaddr 18 (S 17) (K 0) 1),(O,.store (S 18) (KB T) 1)] (A6 (A1 [A5 6 1] (Aj 0 GT)) Jo))))))
def lp:=fun a0 y5 v6 v17 v18 v21 v19 (k_:(P U)→Q U)=>∀{v28} {zr},k_ v28=N zr→Kp Z [0,3,4,5,6,7,8,9] [] [896,1024] ⟨[pL 0 rU a0,pI 3 y5,pW 4 896,pW 5 1024,pI 6 v6,pI 7 v17,pI 8 v18,pI 9 v21],[],[(896,1,Y rB v19),(1024,1,Y rI v28)]⟩ (.code QV:: [.blk 3,.code Va,.code (.loop LA),.blk 2,.blk 1,.code LB,.code (.loop GT),.blk 0,.code Jo]) (Ah [2] [.sc (.v (.int .i64 zr))])
def Y5:=fun a0 y5 v6 v17 v18 v19 (k_:U→(P U)→Q U)=>∀{v21 v22} {zr},k_ v21 v22=N zr→Kp Z [0,3,4,5,6,7,8,9] [] [896,1024] ⟨[pL 0 rU a0,pI 3 y5,pW 4 896,pW 5 1024,pI 6 v6,pI 7 v17,pI 8 v18,pI 9 v21],[],[(896,1,Y rB v19),(1024,1,Y rI v22)]⟩ (.code (.loop LA):: [.blk 2,.blk 1,.code LB,.code (.loop GT),.blk 0,.code Jo]) (Ah [2] [.sc (.v (.int .i64 zr))])
def lm:=fun a0 y5 v6 v8 (k_:U→U→(P V)→Q U)=>∀{v17 v18 v19} {zr},k_ v17 v18 v19=N zr→Kp Z [0,3,4,5,6,7,8] [] [896,1024] ⟨[pL 0 rU a0,pI 3 y5,pW 4 896,pW 5 1024,pI 6 v6,pI 7 v17,pI 8 v18],[],[(896,1,Y rB v19),(1024,1,Y rI v8)]⟩ (.code Vb:: [.blk 1,.code LB,.code (.loop GT),.blk 0,.code Jo]) (Ah [2] [.sc (.v (.int .i64 zr))])
def P0:=fun a0 y5 (k_:U→(P V)→(P U)→Q U)=>∀{v6 v7 v8} {zr},k_ v6 v7 v8=N zr→Kp Z [0,3,4,5,6] [] [896,1024] ⟨[pL 0 rU a0,pI 3 y5,pW 4 896,pW 5 1024,pI 6 v6],[],[(896,1,Y rB v7),(1024,1,Y rI v8)]⟩ (.code (.loop GT):: [.blk 0,.code Jo]) (Ah [2] [.sc (.v (.int .i64 zr))])
theorem jw{a0 y5 v6 v17 v18 v21 v19}{CC}(Ks:P0 a0 y5 CC){SI}(wb:Y5 a0 y5 v6 v17 v18 v19 SI):lp a0 y5 v6 v17 v18 v21 v19 (JM a0 y5 v6 v17 v18 v21 v19 CC SI):=by
 intro v28 r h σ hσ;unfold JM at h;obtain⟨h29,h⟩|⟨h29,h⟩:=ic h
 ·try simp only[hσ,h29,QV,LB,C,E,F,G,H,J]
  refine Ks h ?_;try simp only[h29,C,E,F,G,H,J,I]
 ·try simp only[hσ,h29,QV,Va,C,E,F,G,H,J]
  refine wb h ?_;try simp only[h29,C,E,F,G,H,J,I]
theorem B46{a0 y5 v6 v17 v18 v19}{CC}(Ks:P0 a0 y5 CC){n:W}:Y5 a0 y5 v6 v17 v18 v19 (FQ a0 y5 v6 v17 v18 v19 CC n):=by
 induction n with
 | zero=>intro _ _ r h; cases h
 | succ n ih=>
  intro v21 v22 r h σ hσ;rw[FQ] at h;refine Ak ?_;obtain⟨h23,h⟩:=Dl h;obtain⟨x24,h24,h⟩:=ob h;have h24n:=AE h24;obtain⟨h25,h⟩|⟨h25,h⟩:=ic h
  ·try simp only[hσ,h23,h24,h24n,h25,LA,C,E,F,G,H,J]
   refine Ao ?_;obtain⟨x26,h26,h⟩:=ob h;have h26n:=AE h26;obtain⟨x27,h27,h⟩:=ob h;have h27n:=AE h27;try simp only[h23,h24,h24n,h25,h26,h26n,h27,h27n,C,E,F,G,H,J]
   refine AW (row:=rI) (y:=(if(zI .i64 ((1:U)+x27))<x26 then(zI .i64 ((1:U)+x27)) else x26)) X X h26n X X (by rfl) ?_;try simp only[h23,h24,h24n,h25,h26,h26n,h27,h27n,C,E,F,G,H,J]
   refine Ao ?_;try simp only[h23,h24,h24n,h25,h26,h26n,h27,h27n,C,E,F,G,H,J]
   refine jw Ks ih h ?_;try simp only[h23,h24,h24n,h25,h26,h26n,h27,h27n,C,E,F,G,H,J,I]
  ·try simp only[hσ,h23,h24,h24n,h25,LA,C,E,F,G,H,J]
   refine jw Ks ih h ?_;try simp only[h23,h24,h24n,h25,C,E,F,G,H,J,I]
theorem jx{a0 y5 v6 v8}{CC}(Ks:P0 a0 y5 CC):lm a0 y5 v6 v8 (JL a0 y5 v6 v8 CC):=by
 intro v17 v18 v19 r h σ hσ;unfold JL at h;obtain⟨x20,h20,h⟩:=ob h;have h20n:=AE h20;try simp only[hσ,h20,Vb,C,E,F,G,H,J]
 refine AW (row:=rI) (y:=(a0.length:U)) X X h20n X X (by rfl) ?_;try simp only[h20,C,E,F,G,H,J]
 refine B46 Ks h ?_;try simp only[h20,C,E,F,G,H,J,I]
theorem B47{a0 y5}{n:W}:P0 a0 y5 (Ed a0 y5 n):=by
 induction n with
 | zero=>intro _ _ _ r h; cases h
 | succ n ih=>
  intro v6 v7 v8 r h σ hσ;rw[Ed] at h;refine Ak ?_;obtain⟨h9,h⟩|⟨h9,h⟩:=ic h
  ·obtain⟨r10,h10,h⟩:=ob h;try simp only[hσ,h9,GT,C,E,F,G,H,J]
   refine A4 (B0q h10) ?_;obtain⟨h11,h⟩:=Dl h;obtain⟨x12,h12,h⟩:=ob h;have h12n:=AE h12;obtain⟨h13,h⟩|⟨h13,h⟩:=ic h
   ·obtain⟨x14,h14,h⟩:=ob h;obtain⟨x15,h15,h⟩:=ob h;have h15n:=AE h15;try simp only[h9,h11,h12,h12n,h13,h14,h15,C,E,F,G,H,J]
    refine AW (row:=rB) (y:=((Br .andNot .u64 (IntKind.u64.wrap (Br .andNot .i64 v6 (Bz .i64 (1:U) (zI .i64 (r10 - (1:U)))))) x14)==(0:U))) X X h15n X X (by rfl) ?_;try simp only[h9,h11,h12,h12n,h13,h14,h15,C,E,F,G,H,J]
    refine jx ih h ?_;try simp only[h9,h11,h12,h12n,h13,h14,h15,C,E,F,G,H,J,I]
   ·obtain⟨x16,h16,h⟩:=ob h;have h16n:=AE h16;try simp only[h9,h11,h12,h12n,h13,h16,C,E,F,G,H,J]
    refine AW (row:=rB) (y:=false) X X h16n X X (by rfl) ?_;try simp only[h9,h11,h12,h12n,h13,h16,C,E,F,G,H,J]
    refine jx ih h ?_;try simp only[h9,h11,h12,h12n,h13,h16,C,E,F,G,H,J,I]
  ·obtain⟨x30,h30,h⟩:=ob h;have h30n:=AE h30;try simp only[hσ,h9,h30,h30n,GT,Jo,C,E,F,G,H,J]
   cases h;exact t0
theorem A8h{a0}{r}(h:Mp a0=N r):FC Z 365 [.sc (.sl (Y rU a0))] [.sc (.v (.int .i64 r))]:=by
 unfold Mp at h;refine Aa A9 cP [2] 88 ?_;simp only[cP,C,E,F,G,H,J];obtain⟨h1,h⟩:=Dl h;obtain⟨n2,hn2,h⟩:=ob h;try simp only[h1,C,E,F,G,H,J]
 refine Df (es:=Y rB (zE n2 L)) X X hn2 X (CD X) X ?_;obtain⟨n3,hn3,h⟩:=ob h;try simp only[h1,C,E,F,G,H,J]
 refine Df (es:=Y rI (zE n3 (0:U))) X X hn3 X (CD X) X ?_;obtain⟨x4,h4,h⟩:=ob h;have h4n:=AE h4;try simp only[h1,h4,C,E,F,G,H,J]
 refine AW (row:=rB) (y:=true) X X h4n X X (by rfl) ?_;try simp only[h1,h4,C,E,F,G,H,J]
 refine B47 h ?_;try simp only[h1,h4,C,E,F,G,H,J,I]
/- 366:impl_coverer_cover -/
def QW:X0:=A1 [Ag [0,3,4] [99999999999] [90000,90001]] (A1 [mv 109 0,(O,.nilc 110 (S 109)),fa 111 110 2,ld 112 111,mv 113 4,ia 114 112 113 1,ld 115 114,(O,.bin 116 .eql (S 115) (.c (.v (.sc (.dat (.int .u64 0))))))] (At 116 (A1 [mv 117 0,mv 118 0,(O,.nilc 119 (S 118)),fa 120 119 2,ld 121 120,mv 122 4,(O,.slc 123 1 (S 121) O (N (S 122)) O),(O,.cut 123),(O,.nilc 124 (S 117)),fa 125 124 2,so 125 123 1] (.exit 0))))
def Vc:X0:=A1 [Ag [0,3,4] [99999999999] [90000,90001]] (A6 (A6 (.drw [o0 (mv 50 0),o0 (O,.nilc 51 (S 50)),o0 (fa 52 51 2),o0 (ld 53 52),o0 (mv 54 4),o0 (ia 55 53 54 1),o0 (ld 56 55),o0 (mv 57 0),o0 (O,.nilc 58 (S 57)),o0 (fa 59 58 0),o0 (ld 60 59),o0 (mv 61 3),o0 (ia 62 60 61 1),o0 (ld 63 62),o0 (bn 64 .andNot 56 63),o0 (O,.bin 65 .eql (S 64) (.c (.v (.sc (.dat (.int .u64 0))))))]) (At 65 (A6 (.drw [o0 (mv 66 0),o0 (O,.nilc 67 (S 66)),o0 (fa 68 67 2),o0 (ld 69 68),o0 (mv 70 4),o0 (ia 71 69 70 1),o0 (ld 72 71),o0 (mv 73 3),o0 (O,.bin 74 .shl (.c (.v (.sc (.dat (.int .u64 1))))) (S 73)),o0 (bn 75 .or 72 74),o0 (ia 76 69 70 1),(O,so 76 75 1)]) (A1 [mv 77 0,mv 78 0,(O,.nilc 79 (S 78)),fa 80 79 3,ld 81 80,mv 82 4,AO 83 1 [.int .i64 0] 1 [(0,(S 82))],Bl 84 1 8 81 83,(O,.nilc 85 (S 77)),fa 86 85 3,so 86 84 1] (Ab [mv 87 0,ca 88 366 [S 87]] 88 (A2 [A3 2 T]) (A1 [mv 89 0,mv 90 0,(O,.nilc 91 (S 90)),fa 92 91 3,ld 93 92,mv 94 3,(O,.slc 95 1 (S 93) O (N (S 94)) O),(O,.cut 95),(O,.nilc 96 (S 89)),fa 97 96 3,so 97 95 1] (.drw [o0 (mv 98 0),o0 (O,.nilc 99 (S 98)),o0 (fa 100 99 2),o0 (ld 101 100),o0 (mv 102 4),o0 (ia 103 101 102 1),o0 (ld 104 103),o0 (mv 105 3),o0 (O,.bin 106 .shl (.c (.v (.sc (.dat (.int .u64 1))))) (S 105)),o0 (bn 107 .andNot 104 106),o0 (ia 108 101 102 1),(O,so 108 107 1)]))))))) QW)
def QX:X0:=(.reg [mv 32 4,Ae 33 .add 32 1,mv 4 33])
def FG:X0:=A1 [Ag [0,3,4] [99999999999] [90000,90001]] (A6 (A1 [mv 17 4,mv 18 0,(O,.nilc 19 (S 18)),fa 20 19 2,ld 21 20,ln 22 21,bn 23 .leq 17 22,mv 24 23,Af 24 T 25 4,Af 24 T 26 0,(N (24,T),.nilc 27 (S 26)),Ac 24 T 28 27 1,Ad 24 T 29 28,AI 24 T 30 .lss 25 29,pa 31 24 30] (AS 31 .skip (.exit 0))) (A6 (.block 1 (Ab [mv 34 4,mv 35 0,(O,.nilc 36 (S 35)),fa 37 36 2,ld 38 37,ln 39 38,bn 40 .eql 34 39] 40 (.reg [mv 41 0,mv 42 0,(O,.nilc 43 (S 42)),fa 44 43 2,ld 45 44,AO 46 1 [.int .u64 0] 1 [(0,(.c (.v (.sc (.dat (.int .u64 0))))))],Bl 47 1 8 45 46,(O,.nilc 48 (S 41)),fa 49 48 2,so 49 47 1]) Vc)) QX))
def GU:X0:=(A2 [A3 2 L])
def cc583:X0:=(A1 [A3 2 L] (A1 [mv 5 0,(O,.nilc 6 (S 5)),fa 7 6 3,ld 8 7,ln 9 8,mv 3 9] (Ab [mv 10 3,mv 11 0,(O,.nilc 12 (S 11)),fa 13 12 0,ld 14 13,ln 15 14,bn 16 .eql 10 15] 16 (A2 [A3 2 T]) (A6 (A1 [A5 4 0] (Aj 0 FG)) GU))))
def lh:=fun(a0:Xf) v2 (k_:(P U)→U→(P U)→(P U)→Q (V × Xf))=>∀{v22 v23 v24 v25} {zr},k_ v22 v23 v24 v25=N zr→Kp Z [0,3,4] [99999999999] [90000,90001] ⟨[(0,vc (.pb 99999999999 0)),pI 3 (a0.who.length:U),pI 4 v2],[(99999999999,[aM rU v22,aI v23,.own 90000,.own 90001])],[(90000,1,Y rU v24),(90001,1,Y rI v25)]⟩ (.code QW:: [.blk 1,.code QX,.code (.loop FG),.blk 0,.code GU]) (L1 [2] [.sc (.v (.bool zr.1))] (CI zr.2) (CJ zr.2))
def lg:=fun(a0:Xf) v2 v3 v4 v6 (k_:(P U)→Q (V × Xf))=>∀{v11} {zr},k_ v11=N zr→Kp Z [0,3,4] [99999999999] [90000,90001] ⟨[(0,vc (.pb 99999999999 0)),pI 3 (a0.who.length:U),pI 4 v2],[(99999999999,[aM rU v3,aI v4,.own 90000,.own 90001])],[(90000,1,Y rU v11),(90001,1,Y rI v6)]⟩ (.code Vc:: [.blk 1,.code QX,.code (.loop FG),.blk 0,.code GU]) (L1 [2] [.sc (.v (.bool zr.1))] (CI zr.2) (CJ zr.2))
def Tl:=fun(a0:Xf) (k_:U→(P U)→U→(P U)→(P U)→Q (V × Xf))=>∀{v2 v3 v4 v5 v6} {zr},k_ v2 v3 v4 v5 v6=N zr→Kp Z [0,3,4] [99999999999] [90000,90001] ⟨[(0,vc (.pb 99999999999 0)),pI 3 (a0.who.length:U),pI 4 v2],[(99999999999,[aM rU v3,aI v4,.own 90000,.own 90001])],[(90000,1,Y rU v5),(90001,1,Y rI v6)]⟩ (.code (.loop FG):: [.blk 0,.code GU]) (L1 [2] [.sc (.v (.bool zr.1))] (CI zr.2) (CJ zr.2))
theorem jy{rec_:Xf→Q (V × Xf)}(h_rec:∀(a0:Xf) zr,rec_ a0=N zr→FCz Z 366 [.p] (CI a0) (CJ a0) (CI zr.2) (CJ zr.2) [.sc (.v (.bool zr.1))]){a0 v2}{Eo}(Sx:Tl a0 Eo):lh a0 v2 (Ht rec_ a0 v2 Eo):=by
 intro v22 v23 v24 v25 r h σ hσ;unfold Ht at h;obtain⟨x26,h26,h⟩:=ob h;have h26n:=AE h26;obtain⟨h27,h⟩|⟨h27,h⟩:=ic h
 ·obtain⟨p28,h28,h⟩:=ob h;try simp only[hσ,h26,h26n,h27,QW,C,E,F,G,H,J]
  refine eN X X h28 (by rfl) ?_;try simp only[h26,h26n,h27,GU,C,E,F,G,H,J]
  cases h;exact⟨⟨X,⟨⟩⟩,[90000,90001],by decide,by decide,X,X⟩
 ·try simp only[hσ,h26,h26n,h27,QW,QX,C,E,F,G,H,J]
  refine Sx h ?_;try simp only[h26,h26n,h27,C,E,F,G,H,J,I]
theorem jz{rec_:Xf→Q (V × Xf)}(h_rec:∀(a0:Xf) zr,rec_ a0=N zr→FCz Z 366 [.p] (CI a0) (CJ a0) (CI zr.2) (CJ zr.2) [.sc (.v (.bool zr.1))]){a0 v2 v3 v4 v6}{Eo}(Sx:Tl a0 Eo):lg a0 v2 v3 v4 v6 (JI rec_ a0 v2 v3 v4 v6 Eo):=by
 intro v11 r h σ hσ;unfold JI at h;try simp only[hσ,Vc,C,E,F,G,H,J]
 refine Ao ?_;obtain⟨x12,h12,h⟩:=ob h;have h12n:=AE h12;obtain⟨x13,h13,h⟩:=ob h;obtain⟨h14,h⟩|⟨h14,h⟩:=ic h
 ·try simp only[h12,h12n,h13,h14,C,E,F,G,H,J]
  refine Ao ?_;obtain⟨h15,h⟩:=Dl h;try simp only[h12,h12n,h13,h14,h15,C,E,F,G,H,J]
  refine AW (row:=rU) (y:=(Br .or .u64 x12 (Bz .u64 (1:U) (a0.who.length:U)))) X X h12n X X (by rfl) ?_;try simp only[h12,h12n,h13,h14,h15,C,E,F,G,H,J]
  refine Ao ?_;try simp only[h12,h12n,h13,h14,h15,C,E,F,G,H,J]
  refine AD (es:=Y rI ([v2]:P U)) ?_;obtain⟨h16,h⟩:=Ba h;obtain⟨r17,h17,h⟩:=ob h;try simp only[h12,h12n,h13,h14,h15,h16,C,E,F,G,H,J]
  refine eM (h_rec _ _ h17) 99999999999 [90000,90001] rfl X X X (by decide) X X X ?_;obtain⟨h18,h⟩|⟨h18,h⟩:=ic h
  ·try simp only[h12,h12n,h13,h14,h15,h16,h18,C,E,F,G,H,J]
   cases h;exact⟨⟨X,⟨⟩⟩,[90000,90001],by decide,by decide,X,X⟩
  ·obtain⟨p19,h19,h⟩:=ob h;try simp only[h12,h12n,h13,h14,h15,h16,h18,C,E,F,G,H,J]
   refine eN X X h19 (by rfl) ?_;try simp only[h12,h12n,h13,h14,h15,h16,h18,C,E,F,G,H,J]
   refine Ao ?_;obtain⟨x20,h20,h⟩:=ob h;have h20n:=AE h20;obtain⟨h21,h⟩:=Dl h;try simp only[h12,h12n,h13,h14,h15,h16,h18,h20,h20n,h21,C,E,F,G,H,J]
   refine AW (row:=rU) (y:=(Br .andNot .u64 x20 (Bz .u64 (1:U) (a0.who.length:U)))) X X h20n X X (by rfl) ?_;try simp only[h12,h12n,h13,h14,h15,h16,h18,h20,h20n,h21,C,E,F,G,H,J]
   refine Ao ?_;try simp only[h12,h12n,h13,h14,h15,h16,h18,h20,h20n,h21,C,E,F,G,H,J]
   refine jy h_rec Sx h ?_;try simp only[h12,h12n,h13,h14,h15,h16,h18,h20,h20n,h21,C,E,F,G,H,J,I]
 ·try simp only[h12,h12n,h13,h14,C,E,F,G,H,J]
  refine jy h_rec Sx h ?_;try simp only[h12,h12n,h13,h14,C,E,F,G,H,J,I]
theorem B49{rec_:Xf→Q (V × Xf)}(h_rec:∀(a0:Xf) zr,rec_ a0=N zr→FCz Z 366 [.p] (CI a0) (CJ a0) (CI zr.2) (CJ zr.2) [.sc (.v (.bool zr.1))]){a0}{n:W}:Tl a0 (EW rec_ a0 n):=by
 induction n with
 | zero=>intro _ _ _ _ _ r h; cases h
 | succ n ih=>
  intro v2 v3 v4 v5 v6 r h σ hσ;rw[EW] at h;refine Ak ?_;obtain⟨h7,h⟩|⟨h7,h⟩:=ic h
  ·obtain⟨h8,h⟩|⟨h8,h⟩:=ic h
   ·obtain⟨h9,h⟩|⟨h9,h⟩:=ic h
    ·try simp only[hσ,h7,h8,h9,FG,C,E,F,G,H,J]
     refine AD (es:=Y rU ([(0:U)]:P U)) ?_;obtain⟨h10,h⟩:=Ba h;try simp only[h7,h8,h9,h10,C,E,F,G,H,J]
     refine jz h_rec ih h ?_;try simp only[h7,h8,h9,h10,C,E,F,G,H,J,I]
    ·try simp only[hσ,h7,h8,h9,FG,C,E,F,G,H,J]
     refine jz h_rec ih h ?_;try simp only[h7,h8,h9,C,E,F,G,H,J,I]
   ·try simp only[hσ,h7,h8,FG,GU,C,E,F,G,H,J]
    cases h;exact⟨⟨X,⟨⟩⟩,[90000,90001],by decide,by decide,X,X⟩
  ·try simp only[hσ,h7,FG,GU,C,E,F,G,H,J]
   cases h;exact⟨⟨X,⟨⟩⟩,[90000,90001],by decide,by decide,X,X⟩
theorem sZ:Bf Z 366=N (cc583.strip,[2],126):=by kernel_rfl
theorem A8d(rec_:Xf→Q (V × Xf))(a0:Xf)(r:V × Xf)(h_rec:∀(a0:Xf) zr,rec_ a0=N zr→FCz Z 366 [.p] (CI a0) (CJ a0) (CI zr.2) (CJ zr.2) [.sc (.v (.bool zr.1))])(h:Mn rec_ a0=N r):FCz Z 366 [.p] (CI a0) (CJ a0) (CI r.2) (CJ r.2) [.sc (.v (.bool r.1))]:=by
 unfold Mn at h;refine kw (σ:=⟨[(0,vc (.pb 99999999999 0))],[(99999999999,[aL (Y rU a0.sets),aI a0.most,.own 90000,.own 90001])],[(90000,1,Y rU a0.groups),(90001,1,Y rI a0.who)]⟩) A9 sZ X X X X ?_;simp only[cc583];obtain⟨h1,h⟩|⟨h1,h⟩:=ic h
 ·try simp only[h1,C,E,F,G,H,J]
  cases h;exact⟨⟨X,⟨⟩⟩,[90000,90001],by decide,by decide,X,X⟩
 ·try simp only[h1,C,E,F,G,H,J]
  refine B49 h_rec h ?_;try simp only[h1,C,E,F,G,H,J,I]
theorem A8e:∀(n:W) (a0:Xf) (r:V × Xf),DO n a0=N r→FCz Z 366 [.p] (CI a0) (CJ a0) (CI r.2) (CJ r.2) [.sc (.v (.bool r.1))]:=by
 intro n
 induction n with
 | zero=>intro _ r h; cases h
 | succ n ih=>intro a0 r h; rw[DO] at h; exact A8d (DO n) a0 r ih h
theorem A8c{a0}{r}(h:VX a0=N r):FCz Z 366 [.p] (CI a0) (CJ a0) (CI r.2) (CJ r.2) [.sc (.v (.bool r.1))]:=A8e bigN a0 r h
/- 336:impl_LeastCover -/
def cQ:X0:=(A1 [AA 6,A5 7 0,A3 8 L] (Ab [mv 11 0,mv 12 1,mv 13 2,ca 14 363 [S 11,S 12,S 13],nt 15 14] 15 (A2 [AA 6,A5 7 0,A3 8 L]) (A1 [mv 16 0,mv 17 1,mv 18 2,ca 19 364 [S 16,S 17,S 18],mv 9 19] (A1 [mv 20 9,mv 21 9,ca 22 365 [S 21],Bv 23 [.nil,aI 0,.nil,.nil] [(0,1,(S 20)),(1,1,(S 22))],bo 24 23,(O,.ownb 24 2 152704 1),(O,.ownb 24 3 152768 1),mv 10 24] (A1 [mv 25 10,(O,.frz 1216),ca 26 366 [S 25]] (A6 (.drw [o0 (mv 27 10),o0 (O,.nilc 28 (S 27)),o0 (fa 29 28 3),o0 (ld 30 29),o0 (mv 31 10),o0 (O,.nilc 32 (S 31)),o0 (fa 33 32 1),o0 (ld 34 33),o0 (mv 6 30),o0 (mv 7 34),o0 (A3 8 T)]) .ret))))))
theorem A7j{a0}{a1}{a2}{r}(h:LY a0 a1 a2=N r):FC Z 336 [.sc (.int .i64 a0),.sc (.sl (Y rI a1)),.sc (.sl (Y X8.row a2))] [.sc (.o 1 (Y rI r.1)),.sc (.v (.int .i64 r.2.1)),.sc (.v (.bool r.2.2))]:=by
 unfold LY at h;refine Aa A9 cQ [6,7,8] 35 ?_;simp only[cQ,C,E,F,G,H,J];obtain⟨r1,h1,h⟩:=ob h;try simp only[C,E,F,G,H,J]
 refine A4 (A8b h1) ?_;obtain⟨h2,h⟩|⟨h2,h⟩:=ic h
 ·obtain⟨r3,h3,h⟩:=ob h;try simp only[h2,C,E,F,G,H,J]
  refine A4 (A8j h3) ?_;obtain⟨r4,h4,h⟩:=ob h;try simp only[h2,C,E,F,G,H,J]
  refine B8 (A8h h4) X (BK X) X (uf X) ?_;try simp only[h2,C,E,F,G,H,J]
  refine A8 ?_;try simp only[h2,C,E,F,G,H,J]
  refine NY (cs':= [.own 1216,aI r4,.own 152704,.nil]) X X X X ?_;try simp only[h2,C,E,F,G,H,J]
  refine NY (cs':= [.own 1216,aI r4,.own 152704,.own 152768]) X X X X ?_;try simp only[h2,C,E,F,G,H,J]
  refine D3 ?_;obtain⟨r5,h5,h⟩:=ob h;try simp only[h2,C,E,F,G,H,J]
  refine eM (A8c h5) 24 [152704,152768] rfl X X X (by decide) X X X ?_;try simp only[h2,C,E,F,G,H,J]
  refine Ao ?_;try simp only[h2,C,E,F,G,H,J]
  cases h;trivial
 ·try simp only[h2,C,E,F,G,H,J]
  cases h;trivial
/- 280:impl_coverFits -/
def cR:X0:=(A1 [A3 8 L] (Ab [mv 12 2,ln 13 12,mv 14 3,bn 15 .leq 13 14] 15 (A2 [A3 8 T]) (A1 [mv 17 0,mv 18 1,mv 19 2,ca 20 336 [S 17,S 18,S 19],mv 16 20,xt 21 16 0,xt 22 16 1,xt 23 16 2,mv 9 21,mv 10 22,mv 11 23] (A2 [mv 24 10,mv 25 3,bn 26 .leq 24 25,mv 8 26]))))
theorem jA{a0}{a1}{a2}{a3}{r}(h:FO a0 a1 a2 a3=N r):FC Z 280 [.sc (.int .i64 a0),.sc (.sl (Y rI a1)),.sc (.sl (Y X8.row a2)),.sc (.int .i64 a3)] [.sc (.v (.bool r))]:=by
 unfold FO at h;refine Aa A9 cR [8] 27 ?_;simp only[cR,C,E,F,G,H,J];obtain⟨h1,h⟩|⟨h1,h⟩:=ic h
 ·try simp only[h1,C,E,F,G,H,J]
  cases h;exact t0
 ·obtain⟨r2,h2,h⟩:=ob h;try simp only[h1,C,E,F,G,H,J]
  refine A4 (A7j h2) ?_;try simp only[h1,C,E,F,G,H,J]
  cases h;exact t0
/- 202:impl_crewFits -/
def QY:X0:=A1 [Ag [2,5,6,13,14,15] [2] [704,768]] (A1 [bn 16 .lss 15 14] (Aw 16 0 1 (A1 [ia 17 13 15 4,lw 18 17 4,Ai 8 [aI 0,aI 0,aI 0,.nil],so 8 18 4] (A1 [mv 19 5,fa 20 8 3,ld 21 20,Bl 22 5 40 19 21,mv 5 22] (A1 [fa 23 8 3,ld 24 23,ln 25 24,Ae 26 .gtr 25 0] (At 26 (.drw [(N [42,43],mv 27 6),o0 (fa 28 2 3),o0 (lw 29 28 2),o0 (fa 30 8 3),o0 (ld 31 30),o0 (O,.iaddr 32 (S 31) (K 0) 5),o0 (lw 33 32 5),o0 (fa 34 8 3),o0 (ld 35 34),o0 (fa 36 8 3),o0 (ld 37 36),o0 (ln 38 37),o0 (Ae 39 .sub 38 1),o0 (ia 40 35 39 5),o0 (lw 41 40 5),o0 (ca 42 278 [S 29,S 33,S 41]),o0 (AO 43 4 [.int .i64 0,.int .i64 0,.int .i64 0,.int .i64 0] 1 [(0,(S 42))]),(O,Bl 44 4 32 27 43),o0 (mv 6 44)]))))) (Av 45 15)))
def Vd:X0:=(A1 [fa 47 2 3,lw 48 47 2,fa 49 2 5,ld 50 49,mv 51 5,ca 52 279 [S 48,S 50,S 51],mv 46 52,xt 53 46 0,xt 54 46 1,mv 9 53,mv 10 54] (A2 [mv 55 10,mv 56 55,Ac 56 T 57 2 8,Ac 56 T 58 57 3,Ad 56 T 59 58,Af 56 T 60 9,Ac 56 T 61 2 8,Ac 56 T 62 61 0,Ad 56 T 63 62,Am 56 T 64 280 [K 0,S 59,S 60,S 63],pa 65 56 64,mv 66 65,Ac 66 T 67 2 8,Ac 66 T 68 67 2,Ad 66 T 69 68,Ac 66 T 70 2 8,Ac 66 T 71 70 3,Ad 66 T 72 71,Af 66 T 73 6,Ac 66 T 74 2 8,Ac 66 T 75 74 1,Ad 66 T 76 75,Am 66 T 77 280 [S 69,S 72,S 73,S 76],pa 78 66 77,mv 4 78]))
def cT:X0:=(A1 [bo 2 0,A3 4 L] (A1 [AO 11 5 [.int .i64 0,.int .i64 0,.bool L,.int .i64 0,.int .i64 0] 0 [],AO 12 4 [.int .i64 0,.int .i64 0,.int .i64 0,.int .i64 0] 0 [],mv 5 11,mv 6 12] (A6 (A1 [mv 13 1,ln 14 13,A5 15 0] (Aj 0 QY)) Vd)))
def lj:=fun a1 (a0:X7) (k_:U→(P X1)→(P X8)→Q V)=>∀{v1 v2 v3} {zr},k_ v1 v2 v3=N zr→Kp Z [2,5,6,13,14,15] [2] [704,768] ⟨[pB 2,pW 5 704,pW 6 768,pL 13 X2.row a1,pI 14 (a1.length:U),pI 15 v1],[(2,([aI a0.Forecast.Tide.Mean,aM zB a0.Forecast.Tide.Parts,aM zC a0.Forecast.Surges,aM X9.row a0.Chart.Points,aM X3.row a0.Chart.Segments,aM X5.row a0.Fleet,aI a0.Regime.Gap,aB a0.Regime.NoMeet]++dm a0.Crew.row))],[(704,5,Y X1.row v2),(768,4,Y X8.row v3)]⟩ (.code (.loop QY):: [.blk 0,.code Vd]) (Ah [4] [.sc (.v (.bool zr))])
theorem B5a{a1 a0}{n:W}:lj a1 a0 (FP a1 a0 n):=by
 induction n with
 | zero=>intro _ _ _ r h; cases h
 | succ n ih=>
  intro v1 v2 v3 r h σ hσ;rw[FP] at h;refine Ak ?_;obtain⟨h4,h⟩|⟨h4,h⟩:=ic h
  ·obtain⟨x5,h5,h⟩:=ob h;try simp only[hσ,h4,h5,QY,C,E,F,G,H,J]
   refine Al ?_;obtain⟨h6,h⟩:=Ba h;obtain⟨h7,h⟩|⟨h7,h⟩:=ic h
   ·try simp only[h4,h5,h6,h7,C,E,F,G,H,J]
    refine Ao ?_;obtain⟨x8,h8,h⟩:=ob h;obtain⟨x9,h9,h⟩:=ob h;obtain⟨r10,h10,h⟩:=ob h;try simp only[h4,h5,h6,h7,h8,h9,C,E,F,G,H,J]
    refine AH (jB h10) ?_;try simp only[h4,h5,h6,h7,h8,h9,C,E,F,G,H,J]
    refine AD (es:=Y X8.row ([r10]:P X8)) ?_;obtain⟨h11,h⟩:=Ba h;try simp only[h4,h5,h6,h7,h8,h9,h11,C,E,F,G,H,J]
    refine Ao ?_;try simp only[h4,h5,h6,h7,h8,h9,h11,C,E,F,G,H,J]
    refine ih h ?_;try simp only[h4,h5,h6,h7,h8,h9,h11,C,E,F,G,H,J,I]
   ·try simp only[h4,h5,h6,h7,C,E,F,G,H,J]
    refine ih h ?_;try simp only[h4,h5,h6,h7,C,E,F,G,H,J,I]
  ·obtain⟨r12,h12,h⟩:=ob h;try simp only[hσ,h4,QY,Vd,C,E,F,G,H,J]
   refine B8 (A8l h12) X (BQ X ⟨AZ,X,⟨⟩⟩) X (uf X) ?_;obtain⟨h13,h⟩|⟨h13,h⟩:=ic h
   ·obtain⟨r14,h14,h⟩:=ob h;try simp only[h4,h13,C,E,F,G,H,J]
    refine B8 (jA h14) X (BK X) X (uf X) ?_;obtain⟨h15,h⟩|⟨h15,h⟩:=ic h
    ·obtain⟨r16,h16,h⟩:=ob h;try simp only[h4,h13,h15,C,E,F,G,H,J]
     refine B8 (jA h16) X (BK X) X (uf X) ?_;try simp only[h4,h13,h15,C,E,F,G,H,J]
     cases h;exact t0
    ·try simp only[h4,h13,h15,C,E,F,G,H,J]
     cases h;exact t0
   ·try simp only[h4,h13,C,E,F,G,H,J]
    cases h;exact t0
theorem A8f{a0}{a1}{r}(h:Ec a0 a1=N r):FC Z 202 [.ag (X7.row a0),.sc (.sl (Y X2.row a1))] [.sc (.v (.bool r))]:=by
 unfold Ec at h;refine Aa A9 cT [4] 79 ?_;simp only[cT,C,E,F,G,H,J];try simp only[C,E,F,G,H,J]
 refine A8 ?_;try simp only[C,E,F,G,H,J]
 refine AD (es:=Y X1.row ([]:P X1)) ?_;try simp only[C,E,F,G,H,J]
 refine AD (es:=Y X8.row ([]:P X8)) ?_;try simp only[C,E,F,G,H,J]
 refine B5a h ?_;try simp only[C,E,F,G,H,J,I]
/- 106:impl_fitsTo -/
def KY:P (P W × AItem):= [([],(O,.load 25 (S 3) T 12)),([],(O,.mv 26 (S 1))),([1],(O,.call 27 203 [(S 26)])),([],(O,.load 28 (S 5) T 4)),([3],(O,.bslice 29 4 [.int .i64 0,.int .i64 0,.int .i64 0,.sl []] 1 [(0,(S 28))])),([2,4,2],(O,.app 30 4 48 (S 27) (S 29))),([0,5,5],(O,.call 31 202 [(S 25),(S 30)])),([6,6,0,1,2,3,4,5,6],(O,.mv 6 (S 31)))]
def QZ:X0:=A1 [Ag [1,3,5,9,10,11] [3,5] []] (A1 [bn 12 .lss 11 10] (Aw 12 0 1 (A1 [ia 13 9 11 4,lw 14 13 4,Ai 8 [aI 0,aI 0,aI 0,.nil],so 8 14 4] (A1 [fa 15 3 3,lw 16 15 2,fa 17 3 6,lw 18 17 2,fa 19 8 3,ld 20 19,fa 21 5 3,ld 22 21,ca 23 201 [S 16,S 18,S 20,S 22]] (At 23 (A2 [A3 6 L])))) (Av 24 11)))
def Ve:X0:=(A6 (.any KY) .ret)
def cU:X0:=(A1 [bo 3 0,bo 5 2,A3 6 L] (A6 (A1 [mv 9 1,ln 10 9,A5 11 0] (Aj 0 QZ)) Ve))
abbrev Cu(a1:P X2)(a0:X7)(a2:X2)(r9:V)(wo2_:AV)(c0_ c1_:V)(c2_ c3_:V)(c4_ c5_:V)(c6_ c7_:V)(bx_:P (W × P AC))(rs_:Rows):St:=⟨[(1,vc (aL (Y X2.row a1))),(3,vc (.pb 3 0)),(5,vc (.pb 5 0)),(25,bif c0_ then va ([aI a0.Forecast.Tide.Mean,aL (Y zB a0.Forecast.Tide.Parts),aL (Y zC a0.Forecast.Surges),aL (Y X9.row a0.Chart.Points),aL (Y X3.row a0.Chart.Segments),aL (Y X5.row a0.Fleet),aI a0.Regime.Gap,aB a0.Regime.NoMeet]++dm a0.Crew.row) else .undef),(26,bif c1_ then vc (aL (Y X2.row a1)) else .undef),(27,bif c2_ then wo2_ else .undef),(28,bif c3_ then va [aI a2.Start,aI a2.Arrival,aI a2.Cost,aL (Y X1.row a2.Passages)] else .undef),(29,bif c4_ then vc (.own 1856) else .undef),(30,bif c5_ then vc (.own 1728) else .undef),(31,bif c6_ then vc (aB r9) else .undef),(6,bif c7_ then vc (aB r9) else .undef)],bx_,rs_⟩
abbrev J4(a1:P X2)(a0:X7)(a2:X2)(r6:(P X2))(r9:V):St:=(Cu a1 a0 a2 r9 (vc (.undef)) T T T T T T T T [(3,([aI a0.Forecast.Tide.Mean,aL (Y zB a0.Forecast.Tide.Parts),aL (Y zC a0.Forecast.Surges),aL (Y X9.row a0.Chart.Points),aL (Y X3.row a0.Chart.Segments),aL (Y X5.row a0.Fleet),aI a0.Regime.Gap,aB a0.Regime.NoMeet]++dm a0.Crew.row)),(5,[aI a2.Start,aI a2.Arrival,aI a2.Cost,aL (Y X1.row a2.Passages)])] [(1728,4,Y X2.row (r6++([a2]:P X2))),(1856,4,Y X2.row ([a2]:P X2))])
theorem B5b(a1 a0 a2 r6 r9)(h6:Eb a1=N r6)(h7:(AP r6.length ([a2]:P X2).length 48)=T)(h9:Ec a0 (r6++([a2]:P X2))=N r9):∀(f:W) (b0 b6 b7:V),Ce Z KY (J4 a1 a0 a2 r6 r9) f [b0,T,T,T,T,T,b6,b7] (Cu a1 a0 a2 r9 (vc (.undef)) b0 T T T T T b6 b7 [(3,([aI a0.Forecast.Tide.Mean,aL (Y zB a0.Forecast.Tide.Parts),aL (Y zC a0.Forecast.Surges),aL (Y X9.row a0.Chart.Points),aL (Y X3.row a0.Chart.Segments),aL (Y X5.row a0.Fleet),aI a0.Regime.Gap,aB a0.Regime.NoMeet]++dm a0.Crew.row)),(5,[aI a2.Start,aI a2.Arrival,aI a2.Cost,aL (Y X1.row a2.Passages)])] [(1728,4,Y X2.row (r6++([a2]:P X2))),(1856,4,Y X2.row ([a2]:P X2))]):=by
 intro f
 induction f with
 | zero=>
  intro b0 b6 b7 h;obtain rfl:b0=T:=zH.1 h b0 (by simp);obtain rfl:b6=T:=zH.1 h b6 (by simp);obtain rfl:b7=T:=zH.1 h b7 (by simp);rfl
 | succ f ih=>
  intro b0 b6 b7;refine EI ⟨?_,?_,?_,?_,?_,?_,?_,?_,⟨⟩⟩<;>try first | (intro h; cases h; done) | (intro h0 hw; obtain rfl:=hz h0 rfl; (try obtain rfl:=hq hw 0 rfl rfl); (try obtain rfl:=hq hw 6 rfl rfl); refine np ?_; simp only[Cu,Cb,Cw,BX,C,E,F,G,H,J]; exact ih _ _ _)
  ·intro h0 hw;obtain rfl:=hz h0 rfl;obtain rfl:=hq hw 0 rfl rfl;refine np ?_;try simp only[Cu,Cb,Cw,BX,C,E,F,G,H,J]
   refine B8 (A8f h9) X (BK X) (by simp only[St.fresh,zF,zG,L4]; simp[AV.cells,V1.cells,AC.uses]) (uf X) ?_;try simp only[BX,C,E,F,G,H,J]
   exact ih T T b7
theorem ka(a1 a0 a2 r6 r9)(h6:Eb a1=N r6)(h7:(AP r6.length ([a2]:P X2).length 48)=T)(h9:Ec a0 (r6++([a2]:P X2))=N r9):∀(f:W) (b0:V),Ce Z KY (J4 a1 a0 a2 r6 r9) f [b0,T,T,T,T,L,L,L] (Cu a1 a0 a2 r9 (vc (.own 1728)) b0 T T T T L L L [(3,([aI a0.Forecast.Tide.Mean,aL (Y zB a0.Forecast.Tide.Parts),aL (Y zC a0.Forecast.Surges),aL (Y X9.row a0.Chart.Points),aL (Y X3.row a0.Chart.Segments),aL (Y X5.row a0.Fleet),aI a0.Regime.Gap,aB a0.Regime.NoMeet]++dm a0.Crew.row)),(5,[aI a2.Start,aI a2.Arrival,aI a2.Cost,aL (Y X1.row a2.Passages)])] [(1728,4,Y X2.row r6),(1856,4,Y X2.row ([a2]:P X2))]):=by
 intro f
 induction f with
 | zero=>intro b0 h; simp at h
 | succ f ih=>
  intro b0;refine EI ⟨?_,?_,?_,?_,?_,?_,?_,?_,⟨⟩⟩<;>try first | (intro h; cases h; done) | (intro _ hw; simp at hw; done) | (intro h0 hw; obtain rfl:=hz h0 rfl; refine np ?_; simp only[Cu,Cb,Cw,BX,C,E,F,G,H,J]; exact ih _)
  ·intro h0 hw;refine np ?_;try simp only[h7,Cu,Cb,Cw,BX,C,E,F,G,H,J]
   exact B5b a1 a0 a2 r6 r9 h6 h7 h9 _ b0 L L
theorem B5c(a1 a0 a2 r6 r9)(h6:Eb a1=N r6)(h7:(AP r6.length ([a2]:P X2).length 48)=T)(h9:Ec a0 (r6++([a2]:P X2))=N r9):∀(f:W) (b0 b3:V),Ce Z KY (J4 a1 a0 a2 r6 r9) f [b0,T,T,b3,L,L,L,L] (Cu a1 a0 a2 r9 (vc (.own 1728)) b0 T T b3 L L L L [(3,([aI a0.Forecast.Tide.Mean,aL (Y zB a0.Forecast.Tide.Parts),aL (Y zC a0.Forecast.Surges),aL (Y X9.row a0.Chart.Points),aL (Y X3.row a0.Chart.Segments),aL (Y X5.row a0.Fleet),aI a0.Regime.Gap,aB a0.Regime.NoMeet]++dm a0.Crew.row)),(5,[aI a2.Start,aI a2.Arrival,aI a2.Cost,aL (Y X1.row a2.Passages)])] [(1728,4,Y X2.row r6)]):=by
 intro f
 induction f with
 | zero=>intro b0 b3 h; simp at h
 | succ f ih=>
  intro b0 b3;refine EI ⟨?_,?_,?_,?_,?_,?_,?_,?_,⟨⟩⟩<;>try first | (intro h; cases h; done) | (intro _ hw; simp at hw; done) | (intro h0 hw; obtain rfl:=hz h0 rfl; refine np ?_; simp only[Cu,Cb,Cw,BX,C,E,F,G,H,J]; exact ih _ _)
  ·intro h0 hw;obtain rfl:=hq hw 3 rfl rfl;refine np ?_;try simp only[Cu,Cb,Cw,BX,C,E,F,G,H,J]
   refine W2 (es:=Y X2.row ([a2]:P X2)) X (by simp only[St.fresh,zF,zG,L4]; simp[AV.cells,V1.cells,AC.uses]) ?_;try simp only[BX,C,E,F,G,H,J]
   exact ka a1 a0 a2 r6 r9 h6 h7 h9 _ b0
theorem B5d(a1 a0 a2 r6 r9)(h6:Eb a1=N r6)(h7:(AP r6.length ([a2]:P X2).length 48)=T)(h9:Ec a0 (r6++([a2]:P X2))=N r9):∀(f:W) (b0 b1:V),Ce Z KY (J4 a1 a0 a2 r6 r9) f [b0,b1,L,T,T,L,L,L] (Cu a1 a0 a2 r9 (vc (.own 1728)) b0 b1 L T T L L L [(3,([aI a0.Forecast.Tide.Mean,aL (Y zB a0.Forecast.Tide.Parts),aL (Y zC a0.Forecast.Surges),aL (Y X9.row a0.Chart.Points),aL (Y X3.row a0.Chart.Segments),aL (Y X5.row a0.Fleet),aI a0.Regime.Gap,aB a0.Regime.NoMeet]++dm a0.Crew.row)),(5,[aI a2.Start,aI a2.Arrival,aI a2.Cost,aL (Y X1.row a2.Passages)])] [(1856,4,Y X2.row ([a2]:P X2))]):=by
 intro f
 induction f with
 | zero=>intro b0 b1 h; simp at h
 | succ f ih=>
  intro b0 b1;refine EI ⟨?_,?_,?_,?_,?_,?_,?_,?_,⟨⟩⟩<;>try first | (intro h; cases h; done) | (intro _ hw; simp at hw; done) | (intro h0 hw; obtain rfl:=hz h0 rfl; refine np ?_; simp only[Cu,Cb,Cw,BX,C,E,F,G,H,J]; exact ih _ _)
  ·intro h0 hw;obtain rfl:=hq hw 1 rfl rfl;refine⟨[],[(O,.keep [1,3,5,25,26,27,28,29,30,31,6] [3,5] [1728,1856])],X,X,?_⟩;try simp only[Cu,Cb,Cw,List.nil_append,List.cons_append,BX,C,E,F,G,H,J]
   refine W3 (iz h6) X (by simp only[St.fresh,zF,zG,L4]; simp[AV.cells,V1.cells,AC.uses]) (uf X) ?_;try simp only[BX,C,E,F,G,H,J]
   exact ka a1 a0 a2 r6 r9 h6 h7 h9 _ b0
theorem B5e(a1 a0 a2 r6 r9)(h6:Eb a1=N r6)(h7:(AP r6.length ([a2]:P X2).length 48)=T)(h9:Ec a0 (r6++([a2]:P X2))=N r9):∀(f:W) (b0 b1 b3:V),Ce Z KY (J4 a1 a0 a2 r6 r9) f [b0,b1,L,b3,L,L,L,L] (Cu a1 a0 a2 r9 (vc (.own 1728)) b0 b1 L b3 L L L L [(3,([aI a0.Forecast.Tide.Mean,aL (Y zB a0.Forecast.Tide.Parts),aL (Y zC a0.Forecast.Surges),aL (Y X9.row a0.Chart.Points),aL (Y X3.row a0.Chart.Segments),aL (Y X5.row a0.Fleet),aI a0.Regime.Gap,aB a0.Regime.NoMeet]++dm a0.Crew.row)),(5,[aI a2.Start,aI a2.Arrival,aI a2.Cost,aL (Y X1.row a2.Passages)])] []):=by
 intro f
 induction f with
 | zero=>intro b0 b1 b3 h; simp at h
 | succ f ih=>
  intro b0 b1 b3;refine EI ⟨?_,?_,?_,?_,?_,?_,?_,?_,⟨⟩⟩<;>try first | (intro _ hw; simp at hw; done) | (intro h0 hw; obtain rfl:=hz h0 rfl; refine np ?_; simp only[Cu,Cb,Cw,BX,C,E,F,G,H,J]; exact ih _ _ _)
  ·intro h0 hw;obtain rfl:=hq hw 1 rfl rfl;refine np ?_;try simp only[Cu,Cb,Cw,BX,C,E,F,G,H,J]
   refine W3 (iz h6) X (by simp only[St.fresh,zF,zG,L4]; simp[AV.cells,V1.cells,AC.uses]) (uf X) ?_;try simp only[BX,C,E,F,G,H,J]
   exact B5c a1 a0 a2 r6 r9 h6 h7 h9 _ b0 b3
  ·intro h0 hw;obtain rfl:=hq hw 3 rfl rfl;refine np ?_;try simp only[Cu,Cb,Cw,BX,C,E,F,G,H,J]
   refine W2 (es:=Y X2.row ([a2]:P X2)) X (by simp only[St.fresh,zF,zG,L4]; simp[AV.cells,V1.cells,AC.uses]) ?_;try simp only[BX,C,E,F,G,H,J]
   exact B5d a1 a0 a2 r6 r9 h6 h7 h9 _ b0 b1
def lk:=fun a1 (a0:X7) (a2:X2) (k_:U→Q V)=>∀{v1} {zr},k_ v1=N zr→Kp Z [1,3,5,9,10,11] [3,5] [] ⟨[pL 1 X2.row a1,pB 3,pB 5,pL 9 X2.row a1,pI 10 (a1.length:U),pI 11 v1],[(3,([aI a0.Forecast.Tide.Mean,aM zB a0.Forecast.Tide.Parts,aM zC a0.Forecast.Surges,aM X9.row a0.Chart.Points,aM X3.row a0.Chart.Segments,aM X5.row a0.Fleet,aI a0.Regime.Gap,aB a0.Regime.NoMeet]++dm a0.Crew.row)),(5,[aI a2.Start,aI a2.Arrival,aI a2.Cost,aM X1.row a2.Passages])],[]⟩ (.code (.loop QZ):: [.blk 0,.code Ve]) (Ah [6] [.sc (.v (.bool zr))])
theorem B5f{a1 a0 a2}{n:W}:lk a1 a0 a2 (Hu a1 a0 a2 n):=by
 induction n with
 | zero=>intro _ r h; cases h
 | succ n ih=>
  intro v1 r h σ hσ;rw[Hu] at h;refine Ak ?_;obtain⟨h2,h⟩|⟨h2,h⟩:=ic h
  ·obtain⟨x3,h3,h⟩:=ob h;try simp only[hσ,h2,h3,QZ,C,E,F,G,H,J]
   refine Al ?_;obtain⟨r4,h4,h⟩:=ob h;try simp only[h2,h3,C,E,F,G,H,J]
   refine A4 (A79 h4) ?_;obtain⟨h5,h⟩|⟨h5,h⟩:=ic h
   ·try simp only[h2,h3,h5,C,E,F,G,H,J]
    cases h;exact t0
   ·try simp only[h2,h3,h5,C,E,F,G,H,J]
    refine ih h ?_;try simp only[h2,h3,h5,C,E,F,G,H,J,I]
  ·try simp only[hσ,h2,QZ,Ve,C,E,F,G,H,J]
   obtain⟨r6,h6,h⟩:=ob h;obtain⟨h7,h⟩:=Ba h;obtain⟨r9,h9,h⟩:=ob h;refine W1 (ks:= [1,3,5]) (bs:= [3,5]) (rs:= []) (τ:=(J4 a1 a0 a2 r6 r9)) X (B5e a1 a0 a2 r6 r9 h6 h7 h9 _ L L L) ?_;simp only[J4,Cu,Cb];try simp only[h2,h7,C,E,F,G,H,J]
   cases h;exact t0
theorem A8g{a0}{a1}{a2}{r}(h:Mo a0 a1 a2=N r):FC Z 106 [.ag (X7.row a0),.sc (.sl (Y X2.row a1)),.ag (X2.row a2)] [.sc (.v (.bool r))]:=by
 unfold Mo at h;refine Aa A9 cU [6] 32 ?_;simp only[cU,C,E,F,G,H,J];try simp only[C,E,F,G,H,J]
 refine A8 ?_;try simp only[C,E,F,G,H,J]
 refine A8 ?_;try simp only[C,E,F,G,H,J]
 refine B5f h ?_;try simp only[C,E,F,G,H,J,I]
/- 26:impl_IsPlan -/
def R4:X0:=A1 [Ag [2,3,20,21,22] [3] []] (A1 [bn 23 .lss 22 21] (Aw 23 0 1 (A1 [mv 24 22,ia 25 20 22 5,lw 26 25 5,Ai 8 [aI 0,aI 0,aI 0,aI 0,aI 0],mv 7 24,so 8 26 5] (A6 (.drw [o0 (lw 27 3 12),o0 (lw 28 8 5),o0 (mv 29 2),o0 (mv 30 7),o0 (ia 31 29 30 4),o0 (lw 32 31 4),o0 (ca 33 105 [S 27,S 28,S 32]),o0 (nt 34 33),o0 (mv 35 34),o0 (AL 35 L 36 3 12),o0 (Af 35 L 37 2),o0 (Af 35 L 38 7),o0 (N (35,L),.slc 39 4 (S 37) O (N (S 38)) O),o0 (Af 35 L 40 2),o0 (Af 35 L 41 7),o0 (CB 35 L 42 40 41 4),o0 (AL 35 L 43 42 4),o0 (Am 35 L 44 106 [S 36,S 39,S 43]),o0 (AM 35 L 45 44),o0 (po 46 35 45)]) (At 46 (A2 [A3 6 L])))) (Av 47 22)))
def Vg:X0:=(A2 [A3 6 T])
def cW:X0:=(A1 [bo 3 0,A3 6 L] (Ab [lw 9 3 12,mv 10 1,ca 11 18 [S 9,S 10],nt 12 11,mv 13 12,Af 13 L 14 2,B3 13 L 15 14,Af 13 L 16 1,B3 13 L 17 16,AI 13 L 18 .neq 15 17,po 19 13 18] 19 (A2 [A3 6 L]) (A6 (A1 [mv 20 1,ln 21 20,A5 22 0] (Aj 0 R4)) Vg)))
def lK:=fun a2 a1 (a0:X7) (k_:U→Q V)=>∀{v4} {zr},k_ v4=N zr→Kp Z [2,3,20,21,22] [3] [] ⟨[pL 2 X2.row a2,pB 3,pL 20 zD a1,pI 21 (a1.length:U),pI 22 v4],[(3,([aI a0.Forecast.Tide.Mean,aM zB a0.Forecast.Tide.Parts,aM zC a0.Forecast.Surges,aM X9.row a0.Chart.Points,aM X3.row a0.Chart.Segments,aM X5.row a0.Fleet,aI a0.Regime.Gap,aB a0.Regime.NoMeet]++dm a0.Crew.row))],[]⟩ (.code (.loop R4):: [.blk 0,.code Vg]) (Ah [6] [.sc (.v (.bool zr))])
theorem B5g{a2 a1 a0}{n:W}:lK a2 a1 a0 (FM a2 a1 a0 n):=by
 induction n with
 | zero=>intro _ r h; cases h
 | succ n ih=>
  intro v4 r h σ hσ;rw[FM] at h;refine Ak ?_;obtain⟨h5,h⟩|⟨h5,h⟩:=ic h
  ·obtain⟨x6,h6,h⟩:=ob h;try simp only[hσ,h5,h6,R4,C,E,F,G,H,J]
   refine Al ?_;try simp only[h5,h6,C,E,F,G,H,J]
   refine Ao ?_;obtain⟨x7,h7,h⟩:=ob h;obtain⟨r9,h9,h⟩:=ob h;try simp only[h5,h6,h7,C,E,F,G,H,J]
   refine AH (A7h h9) ?_;obtain⟨h10,h⟩|⟨h10,h⟩:=ic h
   ·obtain⟨p11,h11,h⟩:=ob h;obtain⟨r12,h12,h⟩:=ob h;try simp only[h5,h6,h7,h10,h11,C,E,F,G,H,J]
    refine AH (A8g h12) ?_;obtain⟨h13,h⟩|⟨h13,h⟩:=ic h
    ·try simp only[h5,h6,h7,h10,h11,h13,C,E,F,G,H,J]
     refine ih h ?_;try simp only[h5,h6,h7,h10,h11,h13,C,E,F,G,H,J,I]
    ·try simp only[h5,h6,h7,h10,h11,h13,C,E,F,G,H,J]
     cases h;exact t0
   ·try simp only[h5,h6,h7,h10,C,E,F,G,H,J]
    cases h;exact t0
  ·try simp only[hσ,h5,R4,Vg,C,E,F,G,H,J]
   cases h;exact t0
theorem A7i{a0}{a1}{a2}{r}(h:LX a0 a1 a2=N r):FC Z 26 [.ag (X7.row a0),.sc (.sl (Y zD a1)),.sc (.sl (Y X2.row a2))] [.sc (.v (.bool r))]:=by
 unfold LX at h;refine Aa A9 cW [6] 48 ?_;simp only[cW,C,E,F,G,H,J];try simp only[C,E,F,G,H,J]
 refine A8 ?_;obtain⟨r1,h1,h⟩:=ob h;try simp only[C,E,F,G,H,J]
 refine A4 (A7b h1) ?_;obtain⟨h2,h⟩|⟨h2,h⟩:=ic h
 ·obtain⟨h3,h⟩|⟨h3,h⟩:=ic h
  ·try simp only[h2,h3,C,E,F,G,H,J]
   cases h;exact t0
  ·try simp only[h2,h3,C,E,F,G,H,J]
   refine B5g h ?_;try simp only[h2,h3,C,E,F,G,H,J,I]
 ·try simp only[h2,C,E,F,G,H,J]
  cases h;exact t0
/- 109:impl_account -/
def R5:X0:=A1 [Ag [1,3,6,7,14,15,16] [3,6,7] [704,768]] (A1 [bn 17 .lss 16 15] (Aw 17 0 1 (A1 [mv 18 16,ia 19 14 16 4,lw 20 19 4,Ai 9 [aI 0,aI 0,aI 0,.nil],mv 8 18,so 9 20 4] (A6 (.drw [o0 (fa 21 3 5),o0 (ld 22 21),o0 (mv 23 1),o0 (mv 24 8),o0 (ia 25 23 24 5),o0 (fa 26 25 0),o0 (ld 27 26),o0 (ia 28 22 27 6),o0 (fa 29 28 3),o0 (ld 30 29),o0 (mv 10 30)]) (A6 (.drw [o0 (fa 31 7 0),o0 (ld 32 31),o0 (mv 33 10),o0 (ia 34 32 33 1),o0 (ld 35 34),o0 (fa 36 9 2),o0 (ld 37 36),o0 (bn 38 .add 35 37),o0 (ia 39 32 33 1),(O,so 39 38 1)]) (.reg [fa 40 7 1,ld 41 40,mv 42 10,ia 43 41 42 1,ld 44 43,Ae 45 .add 44 1,ia 46 41 42 1,so 46 45 1])))) (Av 47 16)))
def Vh:X0:=(A2 [lw 48 7 2,so 6 48 2])
def cX:X0:=(A1 [bo 3 0,Ai 6 [.nil,.nil]] (A6 (.drw [(N [12,7],(O,.mksl 11 1 8 [.int .i64 0] (K 4) (K 4))),(N [11,7],(O,.mksl 12 1 8 [.int .i64 0] (K 4) (K 4))),(N [7],Bv 13 [.nil,.nil] [(0,1,(S 11)),(1,1,(S 12))]),(N [11,12],Ai 7 [.nil,.nil]),(O,so 7 13 2)]) (A6 (A1 [mv 14 2,ln 15 14,A5 16 0] (Aj 0 R5)) Vh)))
def lV:=fun a1 a2 (a0:X7) (k_:U→(P U)→(P U)→Q Xh)=>∀{v3 v4 v5} {zr},k_ v3 v4 v5=N zr→Kp Z [1,3,6,7,14,15,16] [3,6,7] [704,768] ⟨[pL 1 zD a1,pB 3,pB 6,pB 7,pL 14 X2.row a2,pI 15 (a2.length:U),pI 16 v3],[(3,([aI a0.Forecast.Tide.Mean,aM zB a0.Forecast.Tide.Parts,aM zC a0.Forecast.Surges,aM X9.row a0.Chart.Points,aM X3.row a0.Chart.Segments,aM X5.row a0.Fleet,aI a0.Regime.Gap,aB a0.Regime.NoMeet]++dm a0.Crew.row)),(6,[.nil,.nil]),(7,[.own 704,.own 768])],[(704,1,Y rI v4),(768,1,Y rI v5)]⟩ (.code (.loop R5):: [.blk 0,.code Vh]) (Ah [.c 6 T 2] [.ag [.o 1 (Y rI zr.Waits),.o 1 (Y rI zr.Calls)]])
theorem B5h{a1 a2 a0}{n:W}:lV a1 a2 a0 (Hm a1 a2 a0 n):=by
 induction n with
 | zero=>intro _ _ _ r h; cases h
 | succ n ih=>
  intro v3 v4 v5 r h σ hσ;rw[Hm] at h;refine Ak ?_;obtain⟨h6,h⟩|⟨h6,h⟩:=ic h
  ·obtain⟨x7,h7,h⟩:=ob h;try simp only[hσ,h6,h7,R5,C,E,F,G,H,J]
   refine Al ?_;try simp only[h6,h7,C,E,F,G,H,J]
   refine Ao ?_;obtain⟨x8,h8,h⟩:=ob h;obtain⟨x9,h9,h⟩:=ob h;try simp only[h6,h7,h8,h9,C,E,F,G,H,J]
   refine Ao ?_;obtain⟨x10,h10,h⟩:=ob h;have h10n:=AE h10;try simp only[h6,h7,h8,h9,h10,h10n,C,E,F,G,H,J]
   refine AW (row:=rI) (y:=(zI .i64 (x10+x7.Cost))) X X h10n X X (by rfl) ?_;try simp only[h6,h7,h8,h9,h10,h10n,C,E,F,G,H,J]
   refine Ao ?_;obtain⟨x11,h11,h⟩:=ob h;have h11n:=AE h11;try simp only[h6,h7,h8,h9,h10,h10n,h11,h11n,C,E,F,G,H,J]
   refine AW (row:=rI) (y:=(zI .i64 (x11+(1:U)))) X X h11n X X (by rfl) ?_;try simp only[h6,h7,h8,h9,h10,h10n,h11,h11n,C,E,F,G,H,J]
   refine ih h ?_;try simp only[h6,h7,h8,h9,h10,h10n,h11,h11n,C,E,F,G,H,J,I]
  ·try simp only[hσ,h6,R5,Vh,C,E,F,G,H,J]
   cases h;try simp only[B7,C,E,F,G,H,J]
   trivial
theorem A77{a0}{a1}{a2}{r}(h:Mg a0 a1 a2=N r):FC Z 109 [.ag (X7.row a0),.sc (.sl (Y zD a1)),.sc (.sl (Y X2.row a2))] [.ag [.o 1 (Y rI r.Waits),.o 1 (Y rI r.Calls)]]:=by
 unfold Mg at h;refine Aa A9 cX [.c 6 T 2] 49 ?_;simp only[cX,C,E,F,G,H,J];try simp only[C,E,F,G,H,J]
 refine A8 ?_;try simp only[C,E,F,G,H,J]
 refine Al ?_;try simp only[C,E,F,G,H,J]
 refine Ao ?_;obtain⟨n1,hn1,h⟩:=ob h;try simp only[C,E,F,G,H,J]
 refine IH (m:= .row 11 1 (Y rI (zE n1 (0:U)))) (Ol X X hn1 X (CD X)) X (KG X) ?_;obtain⟨n2,hn2,h⟩:=ob h;try simp only[C,E,F,G,H,J]
 refine IH (m:= .row 12 1 (Y rI (zE n2 (0:U)))) (Ol X X hn2 X (CD X)) X (KG X) ?_;try simp only[C,E,F,G,H,J]
 refine IH (m:= .box 7 [.nil,.nil]) X X (Om X X) ?_;try simp only[C,E,F,G,H,J]
 refine Ao ?_;try simp only[C,E,F,G,H,J]
 refine B5h h ?_;try simp only[C,E,F,G,H,J,I]
/- 30:impl_AccountOf -/
def cZ:X0:=(A1 [bo 3 0,Ai 6 [.nil,.nil],A3 7 L] (Ab [lw 8 3 12,mv 9 1,mv 10 2,ca 11 26 [S 8,S 9,S 10],nt 12 11] 12 (A2 [Bv 13 [.nil,.nil] [],so 6 13 2,A3 7 L]) (A2 [lw 14 3 12,mv 15 1,mv 16 2,ca 17 109 [S 14,S 15,S 16],so 6 17 2,A3 7 T])))
theorem ik{a0}{a1}{a2}{r}(h:Jy a0 a1 a2=N r):FC Z 30 [.ag (X7.row a0),.sc (.sl (Y zD a1)),.sc (.sl (Y X2.row a2))] [.ag [.o 1 (Y rI r.1.Waits),.o 1 (Y rI r.1.Calls)],.sc (.v (.bool r.2))]:=by
 unfold Jy at h;refine Aa A9 cZ [.c 6 T 2,7] 18 ?_;simp only[cZ,C,E,F,G,H,J];try simp only[C,E,F,G,H,J]
 refine A8 ?_;try simp only[C,E,F,G,H,J]
 refine Al ?_;obtain⟨r1,h1,h⟩:=ob h;try simp only[C,E,F,G,H,J]
 refine A4 (A7i h1) ?_;obtain⟨h2,h⟩|⟨h2,h⟩:=ic h
 ·obtain⟨r3,h3,h⟩:=ob h;try simp only[h2,C,E,F,G,H,J]
  refine A4 (A77 h3) ?_;try simp only[h2,C,E,F,G,H,J]
  cases h;try simp only[B7,C,E,F,G,H,J]
  trivial
 ·try simp only[h2,C,E,F,G,H,J]
  cases h;try simp only[B7,C,E,F,G,H,J]
  trivial
/- 63:laws_eqIntS -/
def R6:X0:=A1 [Ag [0,1,5] [] []] (A6 (A1 [mv 11 5,mv 12 0,ln 13 12,bn 14 .lss 11 13] (AS 14 .skip (.exit 0))) (A6 (.block 1 (A6 (.drw [o0 (mv 17 0),o0 (mv 18 5),o0 (ia 19 17 18 1),o0 (ld 20 19),o0 (mv 21 1),o0 (mv 22 5),o0 (ia 23 21 22 1),o0 (ld 24 23),o0 (bn 25 .neq 20 24)]) (At 25 (A2 [A3 4 L])))) (.reg [mv 15 5,Ae 16 .add 15 1,mv 5 16])))
def Vj:X0:=(A2 [A3 4 T])
def cb:X0:=(A1 [A3 4 L] (Ab [mv 6 0,ln 7 6,mv 8 1,ln 9 8,bn 10 .neq 7 9] 10 (A2 [A3 4 L]) (A6 (A1 [A5 5 0] (Aj 0 R6)) Vj)))
def mE:=fun a0 a1 (k_:U→Q V)=>∀{v2} {zr},k_ v2=N zr→Kp Z [0,1,5] [] [] ⟨[pL 0 rI a0,pL 1 rI a1,pI 5 v2],[],[]⟩ (.code (.loop R6):: [.blk 0,.code Vj]) (Ah [4] [.sc (.v (.bool zr))])
theorem B5i{a0 a1}{n:W}:mE a0 a1 (HF a0 a1 n):=by
 induction n with
 | zero=>intro _ r h; cases h
 | succ n ih=>
  intro v2 r h σ hσ;rw[HF] at h;refine Ak ?_;obtain⟨h3,h⟩|⟨h3,h⟩:=ic h
  ·try simp only[hσ,h3,R6,C,E,F,G,H,J]
   refine Ao ?_;obtain⟨x4,h4,h⟩:=ob h;obtain⟨x5,h5,h⟩:=ob h;obtain⟨h6,h⟩|⟨h6,h⟩:=ic h
   ·try simp only[h3,h4,h5,h6,C,E,F,G,H,J]
    cases h;exact t0
   ·try simp only[h3,h4,h5,h6,C,E,F,G,H,J]
    refine ih h ?_;try simp only[h3,h4,h5,h6,C,E,F,G,H,J,I]
  ·try simp only[hσ,h3,R6,Vj,C,E,F,G,H,J]
   cases h;exact t0
theorem XA{a0}{a1}{r}(h:HE a0 a1=N r):FC Z 63 [.sc (.sl (Y rI a0)),.sc (.sl (Y rI a1))] [.sc (.v (.bool r))]:=by
 unfold HE at h;refine Aa A9 cb [4] 26 ?_;simp only[cb,C,E,F,G,H,J];obtain⟨h1,h⟩|⟨h1,h⟩:=ic h
 ·try simp only[h1,C,E,F,G,H,J]
  cases h;exact t0
 ·try simp only[h1,C,E,F,G,H,J]
  refine B5i h ?_;try simp only[h1,C,E,F,G,H,J,I]
/- 71:laws_eqAccount -/
def cd:X0:=(A1 [bo 2 0,bo 3 1,A3 4 L] (Ab [fa 5 2 0,ld 6 5,fa 7 3 0,ld 8 7,ca 9 63 [S 6,S 8],nt 10 9] 10 (A2 [A3 4 L]) (Ab [fa 11 2 1,ld 12 11,fa 13 3 1,ld 14 13,ca 15 63 [S 12,S 14],nt 16 15] 16 (A2 [A3 4 L]) (A2 [A3 4 T]))))
theorem Xz{a0}{a1}{r}(h:HC a0 a1=N r):FC Z 71 [.ag (Xh.row a0),.ag (Xh.row a1)] [.sc (.v (.bool r))]:=by
 unfold HC at h;refine Aa A9 cd [4] 17 ?_;simp only[cd,C,E,F,G,H,J];try simp only[C,E,F,G,H,J]
 refine A8 ?_;try simp only[C,E,F,G,H,J]
 refine A8 ?_;obtain⟨r1,h1,h⟩:=ob h;try simp only[C,E,F,G,H,J]
 refine A4 (XA h1) ?_;obtain⟨h2,h⟩|⟨h2,h⟩:=ic h
 ·obtain⟨r3,h3,h⟩:=ob h;try simp only[h2,C,E,F,G,H,J]
  refine A4 (XA h3) ?_;obtain⟨h4,h⟩|⟨h4,h⟩:=ic h
  ·try simp only[h2,h4,C,E,F,G,H,J]
   cases h;exact t0
  ·try simp only[h2,h4,C,E,F,G,H,J]
   cases h;exact t0
 ·try simp only[h2,C,E,F,G,H,J]
  cases h;exact t0
/- 349:laws_eqPart -/
def ce:X0:=(A1 [bo 2 0,bo 3 1,A3 4 L] (Ab [fa 5 2 0,ld 6 5,fa 7 3 0,ld 8 7,bn 9 .neq 6 8] 9 (A2 [A3 4 L]) (Ab [fa 10 2 1,ld 11 10,fa 12 3 1,ld 13 12,bn 14 .neq 11 13] 14 (A2 [A3 4 L]) (Ab [fa 15 2 2,ld 16 15,fa 17 3 2,ld 18 17,bn 19 .neq 16 18] 19 (A2 [A3 4 L]) (A2 [A3 4 T])))))
theorem A8x{a0}{a1}{r}(h:MD a0 a1=N r):FC Z 349 [.ag (zB a0),.ag (zB a1)] [.sc (.v (.bool r))]:=by
 unfold MD at h;refine Aa A9 ce [4] 20 ?_;simp only[ce,C,E,F,G,H,J];try simp only[C,E,F,G,H,J]
 refine A8 ?_;try simp only[C,E,F,G,H,J]
 refine A8 ?_;obtain⟨h1,h⟩|⟨h1,h⟩:=ic h
 ·try simp only[h1,C,E,F,G,H,J]
  cases h;exact t0
 ·obtain⟨h2,h⟩|⟨h2,h⟩:=ic h
  ·try simp only[h1,h2,C,E,F,G,H,J]
   cases h;exact t0
  ·obtain⟨h3,h⟩|⟨h3,h⟩:=ic h
   ·try simp only[h1,h2,h3,C,E,F,G,H,J]
    cases h;exact t0
   ·try simp only[h1,h2,h3,C,E,F,G,H,J]
    cases h;exact t0
/- 309:laws_eqPartS -/
def R7:X0:=A1 [Ag [0,1,5] [] []] (A6 (A1 [mv 11 5,mv 12 0,ln 13 12,bn 14 .lss 11 13] (AS 14 .skip (.exit 0))) (A6 (.block 1 (A6 (.drw [o0 (mv 17 0),o0 (mv 18 5),o0 (ia 19 17 18 3),o0 (lw 20 19 3),o0 (mv 21 1),o0 (mv 22 5),o0 (ia 23 21 22 3),o0 (lw 24 23 3),o0 (ca 25 349 [S 20,S 24]),o0 (nt 26 25)]) (At 26 (A2 [A3 4 L])))) (.reg [mv 15 5,Ae 16 .add 15 1,mv 5 16])))
def Vk:X0:=(A2 [A3 4 T])
def cf:X0:=(A1 [A3 4 L] (Ab [mv 6 0,ln 7 6,mv 8 1,ln 9 8,bn 10 .neq 7 9] 10 (A2 [A3 4 L]) (A6 (A1 [A5 5 0] (Aj 0 R7)) Vk)))
def mG:=fun a0 a1 (k_:U→Q V)=>∀{v2} {zr},k_ v2=N zr→Kp Z [0,1,5] [] [] ⟨[pL 0 zB a0,pL 1 zB a1,pI 5 v2],[],[]⟩ (.code (.loop R7):: [.blk 0,.code Vk]) (Ah [4] [.sc (.v (.bool zr))])
theorem B5j{a0 a1}{n:W}:mG a0 a1 (HH a0 a1 n):=by
 induction n with
 | zero=>intro _ r h; cases h
 | succ n ih=>
  intro v2 r h σ hσ;rw[HH] at h;refine Ak ?_;obtain⟨h3,h⟩|⟨h3,h⟩:=ic h
  ·try simp only[hσ,h3,R7,C,E,F,G,H,J]
   refine Ao ?_;obtain⟨x4,h4,h⟩:=ob h;obtain⟨x5,h5,h⟩:=ob h;obtain⟨r6,h6,h⟩:=ob h;try simp only[h3,h4,h5,C,E,F,G,H,J]
   refine AH (A8x h6) ?_;obtain⟨h7,h⟩|⟨h7,h⟩:=ic h
   ·try simp only[h3,h4,h5,h7,C,E,F,G,H,J]
    refine ih h ?_;try simp only[h3,h4,h5,h7,C,E,F,G,H,J,I]
   ·try simp only[h3,h4,h5,h7,C,E,F,G,H,J]
    cases h;exact t0
  ·try simp only[hσ,h3,R7,Vk,C,E,F,G,H,J]
   cases h;exact t0
theorem A8y{a0}{a1}{r}(h:ME a0 a1=N r):FC Z 309 [.sc (.sl (Y zB a0)),.sc (.sl (Y zB a1))] [.sc (.v (.bool r))]:=by
 unfold ME at h;refine Aa A9 cf [4] 27 ?_;simp only[cf,C,E,F,G,H,J];obtain⟨h1,h⟩|⟨h1,h⟩:=ic h
 ·try simp only[h1,C,E,F,G,H,J]
  cases h;exact t0
 ·try simp only[h1,C,E,F,G,H,J]
  refine B5j h ?_;try simp only[h1,C,E,F,G,H,J,I]
/- 233:laws_eqTide -/
def cg:X0:=(A1 [bo 2 0,bo 3 1,A3 4 L] (Ab [fa 5 2 0,ld 6 5,fa 7 3 0,ld 8 7,bn 9 .neq 6 8] 9 (A2 [A3 4 L]) (Ab [fa 10 2 1,ld 11 10,fa 12 3 1,ld 13 12,ca 14 309 [S 11,S 13],nt 15 14] 15 (A2 [A3 4 L]) (A2 [A3 4 T]))))
theorem A9a{a0}{a1}{r}(h:RS a0 a1=N r):FC Z 233 [.ag (Xj.row a0),.ag (Xj.row a1)] [.sc (.v (.bool r))]:=by
 unfold RS at h;refine Aa A9 cg [4] 16 ?_;simp only[cg,C,E,F,G,H,J];try simp only[C,E,F,G,H,J]
 refine A8 ?_;try simp only[C,E,F,G,H,J]
 refine A8 ?_;obtain⟨h1,h⟩|⟨h1,h⟩:=ic h
 ·try simp only[h1,C,E,F,G,H,J]
  cases h;exact t0
 ·obtain⟨r2,h2,h⟩:=ob h;try simp only[h1,C,E,F,G,H,J]
  refine A4 (A8y h2) ?_;obtain⟨h3,h⟩|⟨h3,h⟩:=ic h
  ·try simp only[h1,h3,C,E,F,G,H,J]
   cases h;exact t0
  ·try simp only[h1,h3,C,E,F,G,H,J]
   cases h;exact t0
/- 310:laws_eqSurge -/
def ch:X0:=(A1 [bo 2 0,bo 3 1,A3 4 L] (Ab [fa 5 2 0,ld 6 5,fa 7 3 0,ld 8 7,bn 9 .neq 6 8] 9 (A2 [A3 4 L]) (Ab [fa 10 2 1,ld 11 10,fa 12 3 1,ld 13 12,bn 14 .neq 11 13] 14 (A2 [A3 4 L]) (Ab [fa 15 2 2,ld 16 15,fa 17 3 2,ld 18 17,bn 19 .neq 16 18] 19 (A2 [A3 4 L]) (A2 [A3 4 T])))))
theorem A88{a0}{a1}{r}(h:MN a0 a1=N r):FC Z 310 [.ag (zC a0),.ag (zC a1)] [.sc (.v (.bool r))]:=by
 unfold MN at h;refine Aa A9 ch [4] 20 ?_;simp only[ch,C,E,F,G,H,J];try simp only[C,E,F,G,H,J]
 refine A8 ?_;try simp only[C,E,F,G,H,J]
 refine A8 ?_;obtain⟨h1,h⟩|⟨h1,h⟩:=ic h
 ·try simp only[h1,C,E,F,G,H,J]
  cases h;exact t0
 ·obtain⟨h2,h⟩|⟨h2,h⟩:=ic h
  ·try simp only[h1,h2,C,E,F,G,H,J]
   cases h;exact t0
  ·obtain⟨h3,h⟩|⟨h3,h⟩:=ic h
   ·try simp only[h1,h2,h3,C,E,F,G,H,J]
    cases h;exact t0
   ·try simp only[h1,h2,h3,C,E,F,G,H,J]
    cases h;exact t0
/- 234:laws_eqSurgeS -/
def R9:X0:=A1 [Ag [0,1,5] [] []] (A6 (A1 [mv 11 5,mv 12 0,ln 13 12,bn 14 .lss 11 13] (AS 14 .skip (.exit 0))) (A6 (.block 1 (A6 (.drw [o0 (mv 17 0),o0 (mv 18 5),o0 (ia 19 17 18 3),o0 (lw 20 19 3),o0 (mv 21 1),o0 (mv 22 5),o0 (ia 23 21 22 3),o0 (lw 24 23 3),o0 (ca 25 310 [S 20,S 24]),o0 (nt 26 25)]) (At 26 (A2 [A3 4 L])))) (.reg [mv 15 5,Ae 16 .add 15 1,mv 5 16])))
def Vl:X0:=(A2 [A3 4 T])
def cj:X0:=(A1 [A3 4 L] (Ab [mv 6 0,ln 7 6,mv 8 1,ln 9 8,bn 10 .neq 7 9] 10 (A2 [A3 4 L]) (A6 (A1 [A5 5 0] (Aj 0 R9)) Vl)))
def mL:=fun a0 a1 (k_:U→Q V)=>∀{v2} {zr},k_ v2=N zr→Kp Z [0,1,5] [] [] ⟨[pL 0 zC a0,pL 1 zC a1,pI 5 v2],[],[]⟩ (.code (.loop R9):: [.blk 0,.code Vl]) (Ah [4] [.sc (.v (.bool zr))])
theorem B5k{a0 a1}{n:W}:mL a0 a1 (HM a0 a1 n):=by
 induction n with
 | zero=>intro _ r h; cases h
 | succ n ih=>
  intro v2 r h σ hσ;rw[HM] at h;refine Ak ?_;obtain⟨h3,h⟩|⟨h3,h⟩:=ic h
  ·try simp only[hσ,h3,R9,C,E,F,G,H,J]
   refine Ao ?_;obtain⟨x4,h4,h⟩:=ob h;obtain⟨x5,h5,h⟩:=ob h;obtain⟨r6,h6,h⟩:=ob h;try simp only[h3,h4,h5,C,E,F,G,H,J]
   refine AH (A88 h6) ?_;obtain⟨h7,h⟩|⟨h7,h⟩:=ic h
   ·try simp only[h3,h4,h5,h7,C,E,F,G,H,J]
    refine ih h ?_;try simp only[h3,h4,h5,h7,C,E,F,G,H,J,I]
   ·try simp only[h3,h4,h5,h7,C,E,F,G,H,J]
    cases h;exact t0
  ·try simp only[hσ,h3,R9,Vl,C,E,F,G,H,J]
   cases h;exact t0
theorem A89{a0}{a1}{r}(h:MO a0 a1=N r):FC Z 234 [.sc (.sl (Y zC a0)),.sc (.sl (Y zC a1))] [.sc (.v (.bool r))]:=by
 unfold MO at h;refine Aa A9 cj [4] 27 ?_;simp only[cj,C,E,F,G,H,J];obtain⟨h1,h⟩|⟨h1,h⟩:=ic h
 ·try simp only[h1,C,E,F,G,H,J]
  cases h;exact t0
 ·try simp only[h1,C,E,F,G,H,J]
  refine B5k h ?_;try simp only[h1,C,E,F,G,H,J,I]
/- 138:laws_eqForecast -/
def ck:X0:=(A1 [bo 2 0,bo 3 1,A3 4 L] (Ab [fa 5 2 0,lw 6 5 2,fa 7 3 0,lw 8 7 2,ca 9 233 [S 6,S 8],nt 10 9] 10 (A2 [A3 4 L]) (Ab [fa 11 2 2,ld 12 11,fa 13 3 2,ld 14 13,ca 15 234 [S 12,S 14],nt 16 15] 16 (A2 [A3 4 L]) (A2 [A3 4 T]))))
theorem A8t{a0}{a1}{r}(h:Mz a0 a1=N r):FC Z 138 [.ag (Xc.row a0),.ag (Xc.row a1)] [.sc (.v (.bool r))]:=by
 unfold Mz at h;refine Aa A9 ck [4] 17 ?_;simp only[ck,C,E,F,G,H,J];try simp only[C,E,F,G,H,J]
 refine A8 ?_;try simp only[C,E,F,G,H,J]
 refine A8 ?_;obtain⟨r1,h1,h⟩:=ob h;try simp only[C,E,F,G,H,J]
 refine A4 (A9a h1) ?_;obtain⟨h2,h⟩|⟨h2,h⟩:=ic h
 ·obtain⟨r3,h3,h⟩:=ob h;try simp only[h2,C,E,F,G,H,J]
  refine A4 (A89 h3) ?_;obtain⟨h4,h⟩|⟨h4,h⟩:=ic h
  ·try simp only[h2,h4,C,E,F,G,H,J]
   cases h;exact t0
  ·try simp only[h2,h4,C,E,F,G,H,J]
   cases h;exact t0
 ·try simp only[h2,C,E,F,G,H,J]
  cases h;exact t0
/- 311:laws_eqPoint -/
def cl:X0:=(A1 [bo 2 0,bo 3 1,A3 4 L] (Ab [fa 5 2 0,ld 6 5,fa 7 3 0,ld 8 7,bn 9 .neq 6 8] 9 (A2 [A3 4 L]) (Ab [fa 10 2 1,ld 11 10,fa 12 3 1,ld 13 12,(O,.beq 14 T (S 11) (S 13))] 14 (A2 [A3 4 L]) (A2 [A3 4 T]))))
theorem A81{a0}{a1}{r}(h:MH a0 a1=N r):FC Z 311 [.ag (X9.row a0),.ag (X9.row a1)] [.sc (.v (.bool r))]:=by
 unfold MH at h;refine Aa A9 cl [4] 15 ?_;simp only[cl,C,E,F,G,H,J];try simp only[C,E,F,G,H,J]
 refine A8 ?_;try simp only[C,E,F,G,H,J]
 refine A8 ?_;obtain⟨h1,h⟩|⟨h1,h⟩:=ic h
 ·obtain⟨h2,h⟩|⟨h2,h⟩:=ic h
  ·try simp only[h1,h2,C,E,F,G,H,J]
   cases h;exact t0
  ·try simp only[h1,h2,C,E,F,G,H,J]
   cases h;exact t0
 ·try simp only[h1,C,E,F,G,H,J]
  cases h;exact t0
/- 235:laws_eqPointS -/
def Ra:X0:=A1 [Ag [0,1,5] [] []] (A6 (A1 [mv 11 5,mv 12 0,ln 13 12,bn 14 .lss 11 13] (AS 14 .skip (.exit 0))) (A6 (.block 1 (A6 (.drw [o0 (mv 17 0),o0 (mv 18 5),o0 (ia 19 17 18 2),o0 (lw 20 19 2),o0 (mv 21 1),o0 (mv 22 5),o0 (ia 23 21 22 2),o0 (lw 24 23 2),o0 (ca 25 311 [S 20,S 24]),o0 (nt 26 25)]) (At 26 (A2 [A3 4 L])))) (.reg [mv 15 5,Ae 16 .add 15 1,mv 5 16])))
def Vn:X0:=(A2 [A3 4 T])
def cm:X0:=(A1 [A3 4 L] (Ab [mv 6 0,ln 7 6,mv 8 1,ln 9 8,bn 10 .neq 7 9] 10 (A2 [A3 4 L]) (A6 (A1 [A5 5 0] (Aj 0 Ra)) Vn)))
def mI:=fun a0 a1 (k_:U→Q V)=>∀{v2} {zr},k_ v2=N zr→Kp Z [0,1,5] [] [] ⟨[pL 0 X9.row a0,pL 1 X9.row a1,pI 5 v2],[],[]⟩ (.code (.loop Ra):: [.blk 0,.code Vn]) (Ah [4] [.sc (.v (.bool zr))])
theorem B5l{a0 a1}{n:W}:mI a0 a1 (HJ a0 a1 n):=by
 induction n with
 | zero=>intro _ r h; cases h
 | succ n ih=>
  intro v2 r h σ hσ;rw[HJ] at h;refine Ak ?_;obtain⟨h3,h⟩|⟨h3,h⟩:=ic h
  ·try simp only[hσ,h3,Ra,C,E,F,G,H,J]
   refine Ao ?_;obtain⟨x4,h4,h⟩:=ob h;obtain⟨x5,h5,h⟩:=ob h;obtain⟨r6,h6,h⟩:=ob h;try simp only[h3,h4,h5,C,E,F,G,H,J]
   refine AH (A81 h6) ?_;obtain⟨h7,h⟩|⟨h7,h⟩:=ic h
   ·try simp only[h3,h4,h5,h7,C,E,F,G,H,J]
    refine ih h ?_;try simp only[h3,h4,h5,h7,C,E,F,G,H,J,I]
   ·try simp only[h3,h4,h5,h7,C,E,F,G,H,J]
    cases h;exact t0
  ·try simp only[hσ,h3,Ra,Vn,C,E,F,G,H,J]
   cases h;exact t0
theorem A82{a0}{a1}{r}(h:MI a0 a1=N r):FC Z 235 [.sc (.sl (Y X9.row a0)),.sc (.sl (Y X9.row a1))] [.sc (.v (.bool r))]:=by
 unfold MI at h;refine Aa A9 cm [4] 27 ?_;simp only[cm,C,E,F,G,H,J];obtain⟨h1,h⟩|⟨h1,h⟩:=ic h
 ·try simp only[h1,C,E,F,G,H,J]
  cases h;exact t0
 ·try simp only[h1,C,E,F,G,H,J]
  refine B5l h ?_;try simp only[h1,C,E,F,G,H,J,I]
/- 312:laws_eqSegment -/
def cn:X0:=(A1 [bo 2 0,bo 3 1,A3 4 L] (Ab [fa 5 2 0,ld 6 5,fa 7 3 0,ld 8 7,bn 9 .neq 6 8] 9 (A2 [A3 4 L]) (Ab [fa 10 2 1,ld 11 10,fa 12 3 1,ld 13 12,bn 14 .neq 11 13] 14 (A2 [A3 4 L]) (Ab [fa 15 2 2,ld 16 15,fa 17 3 2,ld 18 17,bn 19 .neq 16 18] 19 (A2 [A3 4 L]) (Ab [fa 20 2 3,ld 21 20,fa 22 3 3,ld 23 22,bn 24 .neq 21 23] 24 (A2 [A3 4 L]) (Ab [fa 25 2 4,ld 26 25,fa 27 3 4,ld 28 27,(O,.beq 29 T (S 26) (S 28))] 29 (A2 [A3 4 L]) (A2 [A3 4 T])))))))
theorem A84{a0}{a1}{r}(h:MJ a0 a1=N r):FC Z 312 [.ag (X3.row a0),.ag (X3.row a1)] [.sc (.v (.bool r))]:=by
 unfold MJ at h;refine Aa A9 cn [4] 30 ?_;simp only[cn,C,E,F,G,H,J];try simp only[C,E,F,G,H,J]
 refine A8 ?_;try simp only[C,E,F,G,H,J]
 refine A8 ?_;obtain⟨h1,h⟩|⟨h1,h⟩:=ic h
 ·try simp only[h1,C,E,F,G,H,J]
  cases h;exact t0
 ·obtain⟨h2,h⟩|⟨h2,h⟩:=ic h
  ·try simp only[h1,h2,C,E,F,G,H,J]
   cases h;exact t0
  ·obtain⟨h3,h⟩|⟨h3,h⟩:=ic h
   ·try simp only[h1,h2,h3,C,E,F,G,H,J]
    cases h;exact t0
   ·obtain⟨h4,h⟩|⟨h4,h⟩:=ic h
    ·try simp only[h1,h2,h3,h4,C,E,F,G,H,J]
     cases h;exact t0
    ·obtain⟨h5,h⟩|⟨h5,h⟩:=ic h
     ·try simp only[h1,h2,h3,h4,h5,C,E,F,G,H,J]
      cases h;exact t0
     ·try simp only[h1,h2,h3,h4,h5,C,E,F,G,H,J]
      cases h;exact t0
/- 236:laws_eqSegmentS -/
def Rb:X0:=A1 [Ag [0,1,5] [] []] (A6 (A1 [mv 11 5,mv 12 0,ln 13 12,bn 14 .lss 11 13] (AS 14 .skip (.exit 0))) (A6 (.block 1 (A6 (.drw [o0 (mv 17 0),o0 (mv 18 5),o0 (ia 19 17 18 5),o0 (lw 20 19 5),o0 (mv 21 1),o0 (mv 22 5),o0 (ia 23 21 22 5),o0 (lw 24 23 5),o0 (ca 25 312 [S 20,S 24]),o0 (nt 26 25)]) (At 26 (A2 [A3 4 L])))) (.reg [mv 15 5,Ae 16 .add 15 1,mv 5 16])))
def Vo:X0:=(A2 [A3 4 T])
def co:X0:=(A1 [A3 4 L] (Ab [mv 6 0,ln 7 6,mv 8 1,ln 9 8,bn 10 .neq 7 9] 10 (A2 [A3 4 L]) (A6 (A1 [A5 5 0] (Aj 0 Rb)) Vo)))
def mJ:=fun a0 a1 (k_:U→Q V)=>∀{v2} {zr},k_ v2=N zr→Kp Z [0,1,5] [] [] ⟨[pL 0 X3.row a0,pL 1 X3.row a1,pI 5 v2],[],[]⟩ (.code (.loop Rb):: [.blk 0,.code Vo]) (Ah [4] [.sc (.v (.bool zr))])
theorem B5m{a0 a1}{n:W}:mJ a0 a1 (HK a0 a1 n):=by
 induction n with
 | zero=>intro _ r h; cases h
 | succ n ih=>
  intro v2 r h σ hσ;rw[HK] at h;refine Ak ?_;obtain⟨h3,h⟩|⟨h3,h⟩:=ic h
  ·try simp only[hσ,h3,Rb,C,E,F,G,H,J]
   refine Ao ?_;obtain⟨x4,h4,h⟩:=ob h;obtain⟨x5,h5,h⟩:=ob h;obtain⟨r6,h6,h⟩:=ob h;try simp only[h3,h4,h5,C,E,F,G,H,J]
   refine AH (A84 h6) ?_;obtain⟨h7,h⟩|⟨h7,h⟩:=ic h
   ·try simp only[h3,h4,h5,h7,C,E,F,G,H,J]
    refine ih h ?_;try simp only[h3,h4,h5,h7,C,E,F,G,H,J,I]
   ·try simp only[h3,h4,h5,h7,C,E,F,G,H,J]
    cases h;exact t0
  ·try simp only[hσ,h3,Rb,Vo,C,E,F,G,H,J]
   cases h;exact t0
theorem A85{a0}{a1}{r}(h:MK a0 a1=N r):FC Z 236 [.sc (.sl (Y X3.row a0)),.sc (.sl (Y X3.row a1))] [.sc (.v (.bool r))]:=by
 unfold MK at h;refine Aa A9 co [4] 27 ?_;simp only[co,C,E,F,G,H,J];obtain⟨h1,h⟩|⟨h1,h⟩:=ic h
 ·try simp only[h1,C,E,F,G,H,J]
  cases h;exact t0
 ·try simp only[h1,C,E,F,G,H,J]
  refine B5m h ?_;try simp only[h1,C,E,F,G,H,J,I]
/- 139:laws_eqChart -/
def cp:X0:=(A1 [bo 2 0,bo 3 1,A3 4 L] (Ab [fa 5 2 0,ld 6 5,fa 7 3 0,ld 8 7,ca 9 235 [S 6,S 8],nt 10 9] 10 (A2 [A3 4 L]) (Ab [fa 11 2 1,ld 12 11,fa 13 3 1,ld 14 13,ca 15 236 [S 12,S 14],nt 16 15] 16 (A2 [A3 4 L]) (A2 [A3 4 T]))))
theorem A8r{a0}{a1}{r}(h:My a0 a1=N r):FC Z 139 [.ag (X6.row a0),.ag (X6.row a1)] [.sc (.v (.bool r))]:=by
 unfold My at h;refine Aa A9 cp [4] 17 ?_;simp only[cp,C,E,F,G,H,J];try simp only[C,E,F,G,H,J]
 refine A8 ?_;try simp only[C,E,F,G,H,J]
 refine A8 ?_;obtain⟨r1,h1,h⟩:=ob h;try simp only[C,E,F,G,H,J]
 refine A4 (A82 h1) ?_;obtain⟨h2,h⟩|⟨h2,h⟩:=ic h
 ·obtain⟨r3,h3,h⟩:=ob h;try simp only[h2,C,E,F,G,H,J]
  refine A4 (A85 h3) ?_;obtain⟨h4,h⟩|⟨h4,h⟩:=ic h
  ·try simp only[h2,h4,C,E,F,G,H,J]
   cases h;exact t0
  ·try simp only[h2,h4,C,E,F,G,H,J]
   cases h;exact t0
 ·try simp only[h2,C,E,F,G,H,J]
  cases h;exact t0
/- 237:laws_eqShip -/
def cr:X0:=(A1 [bo 2 0,bo 3 1,A3 4 L] (Ab [fa 5 2 0,ld 6 5,fa 7 3 0,ld 8 7,bn 9 .neq 6 8] 9 (A2 [A3 4 L]) (Ab [fa 10 2 1,ld 11 10,fa 12 3 1,ld 13 12,bn 14 .neq 11 13] 14 (A2 [A3 4 L]) (Ab [fa 15 2 2,ld 16 15,fa 17 3 2,ld 18 17,bn 19 .neq 16 18] 19 (A2 [A3 4 L]) (Ab [fa 20 2 3,ld 21 20,fa 22 3 3,ld 23 22,bn 24 .neq 21 23] 24 (A2 [A3 4 L]) (Ab [fa 25 2 4,ld 26 25,fa 27 3 4,ld 28 27,bn 29 .neq 26 28] 29 (A2 [A3 4 L]) (Ab [fa 30 2 5,ld 31 30,fa 32 3 5,ld 33 32,(O,.beq 34 T (S 31) (S 33))] 34 (A2 [A3 4 L]) (A2 [A3 4 T]))))))))
theorem A86{a0}{a1}{r}(h:ML a0 a1=N r):FC Z 237 [.ag (X5.row a0),.ag (X5.row a1)] [.sc (.v (.bool r))]:=by
 unfold ML at h;refine Aa A9 cr [4] 35 ?_;simp only[cr,C,E,F,G,H,J];try simp only[C,E,F,G,H,J]
 refine A8 ?_;try simp only[C,E,F,G,H,J]
 refine A8 ?_;obtain⟨h1,h⟩|⟨h1,h⟩:=ic h
 ·obtain⟨h2,h⟩|⟨h2,h⟩:=ic h
  ·try simp only[h1,h2,C,E,F,G,H,J]
   cases h;exact t0
  ·obtain⟨h3,h⟩|⟨h3,h⟩:=ic h
   ·try simp only[h1,h2,h3,C,E,F,G,H,J]
    cases h;exact t0
   ·obtain⟨h4,h⟩|⟨h4,h⟩:=ic h
    ·try simp only[h1,h2,h3,h4,C,E,F,G,H,J]
     cases h;exact t0
    ·obtain⟨h5,h⟩|⟨h5,h⟩:=ic h
     ·try simp only[h1,h2,h3,h4,h5,C,E,F,G,H,J]
      cases h;exact t0
     ·obtain⟨h6,h⟩|⟨h6,h⟩:=ic h
      ·try simp only[h1,h2,h3,h4,h5,h6,C,E,F,G,H,J]
       cases h;exact t0
      ·try simp only[h1,h2,h3,h4,h5,h6,C,E,F,G,H,J]
       cases h;exact t0
 ·try simp only[h1,C,E,F,G,H,J]
  cases h;exact t0
/- 140:laws_eqShipS -/
def Rc:X0:=A1 [Ag [0,1,5] [] []] (A6 (A1 [mv 11 5,mv 12 0,ln 13 12,bn 14 .lss 11 13] (AS 14 .skip (.exit 0))) (A6 (.block 1 (A6 (.drw [o0 (mv 17 0),o0 (mv 18 5),o0 (ia 19 17 18 6),o0 (lw 20 19 6),o0 (mv 21 1),o0 (mv 22 5),o0 (ia 23 21 22 6),o0 (lw 24 23 6),o0 (ca 25 237 [S 20,S 24]),o0 (nt 26 25)]) (At 26 (A2 [A3 4 L])))) (.reg [mv 15 5,Ae 16 .add 15 1,mv 5 16])))
def Vp:X0:=(A2 [A3 4 T])
def ct:X0:=(A1 [A3 4 L] (Ab [mv 6 0,ln 7 6,mv 8 1,ln 9 8,bn 10 .neq 7 9] 10 (A2 [A3 4 L]) (A6 (A1 [A5 5 0] (Aj 0 Rc)) Vp)))
def mK:=fun a0 a1 (k_:U→Q V)=>∀{v2} {zr},k_ v2=N zr→Kp Z [0,1,5] [] [] ⟨[pL 0 X5.row a0,pL 1 X5.row a1,pI 5 v2],[],[]⟩ (.code (.loop Rc):: [.blk 0,.code Vp]) (Ah [4] [.sc (.v (.bool zr))])
theorem B5n{a0 a1}{n:W}:mK a0 a1 (HL a0 a1 n):=by
 induction n with
 | zero=>intro _ r h; cases h
 | succ n ih=>
  intro v2 r h σ hσ;rw[HL] at h;refine Ak ?_;obtain⟨h3,h⟩|⟨h3,h⟩:=ic h
  ·try simp only[hσ,h3,Rc,C,E,F,G,H,J]
   refine Ao ?_;obtain⟨x4,h4,h⟩:=ob h;obtain⟨x5,h5,h⟩:=ob h;obtain⟨r6,h6,h⟩:=ob h;try simp only[h3,h4,h5,C,E,F,G,H,J]
   refine AH (A86 h6) ?_;obtain⟨h7,h⟩|⟨h7,h⟩:=ic h
   ·try simp only[h3,h4,h5,h7,C,E,F,G,H,J]
    refine ih h ?_;try simp only[h3,h4,h5,h7,C,E,F,G,H,J,I]
   ·try simp only[h3,h4,h5,h7,C,E,F,G,H,J]
    cases h;exact t0
  ·try simp only[hσ,h3,Rc,Vp,C,E,F,G,H,J]
   cases h;exact t0
theorem A87{a0}{a1}{r}(h:MM a0 a1=N r):FC Z 140 [.sc (.sl (Y X5.row a0)),.sc (.sl (Y X5.row a1))] [.sc (.v (.bool r))]:=by
 unfold MM at h;refine Aa A9 ct [4] 27 ?_;simp only[ct,C,E,F,G,H,J];obtain⟨h1,h⟩|⟨h1,h⟩:=ic h
 ·try simp only[h1,C,E,F,G,H,J]
  cases h;exact t0
 ·try simp only[h1,C,E,F,G,H,J]
  refine B5n h ?_;try simp only[h1,C,E,F,G,H,J,I]
/- 141:laws_eqRegime -/
def cu:X0:=(A1 [bo 2 0,bo 3 1,A3 4 L] (Ab [fa 5 2 0,ld 6 5,fa 7 3 0,ld 8 7,bn 9 .neq 6 8] 9 (A2 [A3 4 L]) (Ab [fa 10 2 1,ld 11 10,fa 12 3 1,ld 13 12,(O,.beq 14 T (S 11) (S 13))] 14 (A2 [A3 4 L]) (A2 [A3 4 T]))))
theorem A83{a0}{a1}{r}(h:RQ a0 a1=N r):FC Z 141 [.ag (Xg.row a0),.ag (Xg.row a1)] [.sc (.v (.bool r))]:=by
 unfold RQ at h;refine Aa A9 cu [4] 15 ?_;simp only[cu,C,E,F,G,H,J];try simp only[C,E,F,G,H,J]
 refine A8 ?_;try simp only[C,E,F,G,H,J]
 refine A8 ?_;obtain⟨h1,h⟩|⟨h1,h⟩:=ic h
 ·try simp only[h1,C,E,F,G,H,J]
  cases h;exact t0
 ·obtain⟨h2,h⟩|⟨h2,h⟩:=ic h
  ·try simp only[h1,h2,C,E,F,G,H,J]
   cases h;exact t0
  ·try simp only[h1,h2,C,E,F,G,H,J]
   cases h;exact t0
/- 142:laws_eqCrew -/
def cv:X0:=(A1 [bo 2 0,bo 3 1,A3 4 L] (Ab [fa 5 2 0,ld 6 5,fa 7 3 0,ld 8 7,bn 9 .neq 6 8] 9 (A2 [A3 4 L]) (Ab [fa 10 2 1,ld 11 10,fa 12 3 1,ld 13 12,bn 14 .neq 11 13] 14 (A2 [A3 4 L]) (Ab [fa 15 2 2,ld 16 15,fa 17 3 2,ld 18 17,bn 19 .neq 16 18] 19 (A2 [A3 4 L]) (Ab [fa 20 2 3,ld 21 20,fa 22 3 3,ld 23 22,ca 24 63 [S 21,S 23],nt 25 24] 25 (A2 [A3 4 L]) (A2 [A3 4 T]))))))
theorem A8s{a0}{a1}{r}(h:RP a0 a1=N r):FC Z 142 [.ag (Xk.row a0),.ag (Xk.row a1)] [.sc (.v (.bool r))]:=by
 unfold RP at h;refine Aa A9 cv [4] 26 ?_;simp only[cv,C,E,F,G,H,J];try simp only[C,E,F,G,H,J]
 refine A8 ?_;try simp only[C,E,F,G,H,J]
 refine A8 ?_;obtain⟨h1,h⟩|⟨h1,h⟩:=ic h
 ·try simp only[h1,C,E,F,G,H,J]
  cases h;exact t0
 ·obtain⟨h2,h⟩|⟨h2,h⟩:=ic h
  ·try simp only[h1,h2,C,E,F,G,H,J]
   cases h;exact t0
  ·obtain⟨h3,h⟩|⟨h3,h⟩:=ic h
   ·try simp only[h1,h2,h3,C,E,F,G,H,J]
    cases h;exact t0
   ·obtain⟨r4,h4,h⟩:=ob h;try simp only[h1,h2,h3,C,E,F,G,H,J]
    refine A4 (XA h4) ?_;obtain⟨h5,h⟩|⟨h5,h⟩:=ic h
    ·try simp only[h1,h2,h3,h5,C,E,F,G,H,J]
     cases h;exact t0
    ·try simp only[h1,h2,h3,h5,C,E,F,G,H,J]
     cases h;exact t0
/- 54:laws_eqHarbour -/
def cw:X0:=(A1 [bo 2 0,bo 3 1,A3 4 L] (Ab [fa 5 2 0,lw 6 5 3,fa 7 3 0,lw 8 7 3,ca 9 138 [S 6,S 8],nt 10 9] 10 (A2 [A3 4 L]) (Ab [fa 11 2 3,lw 12 11 2,fa 13 3 3,lw 14 13 2,ca 15 139 [S 12,S 14],nt 16 15] 16 (A2 [A3 4 L]) (Ab [fa 17 2 5,ld 18 17,fa 19 3 5,ld 20 19,ca 21 140 [S 18,S 20],nt 22 21] 22 (A2 [A3 4 L]) (Ab [fa 23 2 6,lw 24 23 2,fa 25 3 6,lw 26 25 2,ca 27 141 [S 24,S 26],nt 28 27] 28 (A2 [A3 4 L]) (Ab [fa 29 2 8,lw 30 29 4,fa 31 3 8,lw 32 31 4,ca 33 142 [S 30,S 32],nt 34 33] 34 (A2 [A3 4 L]) (A2 [A3 4 T])))))))
theorem A8u{a0}{a1}{r}(h:MA a0 a1=N r):FC Z 54 [.ag (X7.row a0),.ag (X7.row a1)] [.sc (.v (.bool r))]:=by
 unfold MA at h;refine Aa A9 cw [4] 35 ?_;simp only[cw,C,E,F,G,H,J];try simp only[C,E,F,G,H,J]
 refine A8 ?_;try simp only[C,E,F,G,H,J]
 refine A8 ?_;obtain⟨r1,h1,h⟩:=ob h;try simp only[C,E,F,G,H,J]
 refine A4 (A8t h1) ?_;obtain⟨h2,h⟩|⟨h2,h⟩:=ic h
 ·obtain⟨r3,h3,h⟩:=ob h;try simp only[h2,C,E,F,G,H,J]
  refine A4 (A8r h3) ?_;obtain⟨h4,h⟩|⟨h4,h⟩:=ic h
  ·obtain⟨r5,h5,h⟩:=ob h;try simp only[h2,h4,C,E,F,G,H,J]
   refine A4 (A87 h5) ?_;obtain⟨h6,h⟩|⟨h6,h⟩:=ic h
   ·obtain⟨r7,h7,h⟩:=ob h;try simp only[h2,h4,h6,C,E,F,G,H,J]
    refine A4 (A83 h7) ?_;obtain⟨h8,h⟩|⟨h8,h⟩:=ic h
    ·obtain⟨r9,h9,h⟩:=ob h;try simp only[h2,h4,h6,h8,C,E,F,G,H,J]
     refine A4 (A8s h9) ?_;obtain⟨h10,h⟩|⟨h10,h⟩:=ic h
     ·try simp only[h2,h4,h6,h8,h10,C,E,F,G,H,J]
      cases h;exact t0
     ·try simp only[h2,h4,h6,h8,h10,C,E,F,G,H,J]
      cases h;exact t0
    ·try simp only[h2,h4,h6,h8,C,E,F,G,H,J]
     cases h;exact t0
   ·try simp only[h2,h4,h6,C,E,F,G,H,J]
    cases h;exact t0
  ·try simp only[h2,h4,C,E,F,G,H,J]
   cases h;exact t0
 ·try simp only[h2,C,E,F,G,H,J]
  cases h;exact t0
/- 154:laws_eqCall -/
def cy:X0:=(A1 [bo 2 0,bo 3 1,A3 4 L] (Ab [fa 5 2 0,ld 6 5,fa 7 3 0,ld 8 7,bn 9 .neq 6 8] 9 (A2 [A3 4 L]) (Ab [fa 10 2 1,ld 11 10,fa 12 3 1,ld 13 12,bn 14 .neq 11 13] 14 (A2 [A3 4 L]) (Ab [fa 15 2 2,ld 16 15,fa 17 3 2,ld 18 17,bn 19 .neq 16 18] 19 (A2 [A3 4 L]) (Ab [fa 20 2 3,ld 21 20,fa 22 3 3,ld 23 22,bn 24 .neq 21 23] 24 (A2 [A3 4 L]) (Ab [fa 25 2 4,ld 26 25,fa 27 3 4,ld 28 27,bn 29 .neq 26 28] 29 (A2 [A3 4 L]) (A2 [A3 4 T])))))))
theorem A8p{a0}{a1}{r}(h:RO a0 a1=N r):FC Z 154 [.ag (zD a0),.ag (zD a1)] [.sc (.v (.bool r))]:=by
 unfold RO at h;refine Aa A9 cy [4] 30 ?_;simp only[cy,C,E,F,G,H,J];try simp only[C,E,F,G,H,J]
 refine A8 ?_;try simp only[C,E,F,G,H,J]
 refine A8 ?_;obtain⟨h1,h⟩|⟨h1,h⟩:=ic h
 ·try simp only[h1,C,E,F,G,H,J]
  cases h;exact t0
 ·obtain⟨h2,h⟩|⟨h2,h⟩:=ic h
  ·try simp only[h1,h2,C,E,F,G,H,J]
   cases h;exact t0
  ·obtain⟨h3,h⟩|⟨h3,h⟩:=ic h
   ·try simp only[h1,h2,h3,C,E,F,G,H,J]
    cases h;exact t0
   ·obtain⟨h4,h⟩|⟨h4,h⟩:=ic h
    ·try simp only[h1,h2,h3,h4,C,E,F,G,H,J]
     cases h;exact t0
    ·obtain⟨h5,h⟩|⟨h5,h⟩:=ic h
     ·try simp only[h1,h2,h3,h4,h5,C,E,F,G,H,J]
      cases h;exact t0
     ·try simp only[h1,h2,h3,h4,h5,C,E,F,G,H,J]
      cases h;exact t0
/- 64:laws_eqCallS -/
def Rd:X0:=A1 [Ag [0,1,5] [] []] (A6 (A1 [mv 11 5,mv 12 0,ln 13 12,bn 14 .lss 11 13] (AS 14 .skip (.exit 0))) (A6 (.block 1 (A6 (.drw [o0 (mv 17 0),o0 (mv 18 5),o0 (ia 19 17 18 5),o0 (lw 20 19 5),o0 (mv 21 1),o0 (mv 22 5),o0 (ia 23 21 22 5),o0 (lw 24 23 5),o0 (ca 25 154 [S 20,S 24]),o0 (nt 26 25)]) (At 26 (A2 [A3 4 L])))) (.reg [mv 15 5,Ae 16 .add 15 1,mv 5 16])))
def Vq:X0:=(A2 [A3 4 T])
def cz:X0:=(A1 [A3 4 L] (Ab [mv 6 0,ln 7 6,mv 8 1,ln 9 8,bn 10 .neq 7 9] 10 (A2 [A3 4 L]) (A6 (A1 [A5 5 0] (Aj 0 Rd)) Vq)))
def mD:=fun a0 a1 (k_:U→Q V)=>∀{v2} {zr},k_ v2=N zr→Kp Z [0,1,5] [] [] ⟨[pL 0 zD a0,pL 1 zD a1,pI 5 v2],[],[]⟩ (.code (.loop Rd):: [.blk 0,.code Vq]) (Ah [4] [.sc (.v (.bool zr))])
theorem B5p{a0 a1}{n:W}:mD a0 a1 (HD a0 a1 n):=by
 induction n with
 | zero=>intro _ r h; cases h
 | succ n ih=>
  intro v2 r h σ hσ;rw[HD] at h;refine Ak ?_;obtain⟨h3,h⟩|⟨h3,h⟩:=ic h
  ·try simp only[hσ,h3,Rd,C,E,F,G,H,J]
   refine Ao ?_;obtain⟨x4,h4,h⟩:=ob h;obtain⟨x5,h5,h⟩:=ob h;obtain⟨r6,h6,h⟩:=ob h;try simp only[h3,h4,h5,C,E,F,G,H,J]
   refine AH (A8p h6) ?_;obtain⟨h7,h⟩|⟨h7,h⟩:=ic h
   ·try simp only[h3,h4,h5,h7,C,E,F,G,H,J]
    refine ih h ?_;try simp only[h3,h4,h5,h7,C,E,F,G,H,J,I]
   ·try simp only[h3,h4,h5,h7,C,E,F,G,H,J]
    cases h;exact t0
  ·try simp only[hσ,h3,Rd,Vq,C,E,F,G,H,J]
   cases h;exact t0
theorem A8q{a0}{a1}{r}(h:Mx a0 a1=N r):FC Z 64 [.sc (.sl (Y zD a0)),.sc (.sl (Y zD a1))] [.sc (.v (.bool r))]:=by
 unfold Mx at h;refine Aa A9 cz [4] 27 ?_;simp only[cz,C,E,F,G,H,J];obtain⟨h1,h⟩|⟨h1,h⟩:=ic h
 ·try simp only[h1,C,E,F,G,H,J]
  cases h;exact t0
 ·try simp only[h1,C,E,F,G,H,J]
  refine B5p h ?_;try simp only[h1,C,E,F,G,H,J,I]
/- 308:laws_eqPassage -/
def dA:X0:=(A1 [bo 2 0,bo 3 1,A3 4 L] (Ab [fa 5 2 0,ld 6 5,fa 7 3 0,ld 8 7,bn 9 .neq 6 8] 9 (A2 [A3 4 L]) (Ab [fa 10 2 1,ld 11 10,fa 12 3 1,ld 13 12,bn 14 .neq 11 13] 14 (A2 [A3 4 L]) (Ab [fa 15 2 2,ld 16 15,fa 17 3 2,ld 18 17,(O,.beq 19 T (S 16) (S 18))] 19 (A2 [A3 4 L]) (Ab [fa 20 2 3,ld 21 20,fa 22 3 3,ld 23 22,bn 24 .neq 21 23] 24 (A2 [A3 4 L]) (Ab [fa 25 2 4,ld 26 25,fa 27 3 4,ld 28 27,bn 29 .neq 26 28] 29 (A2 [A3 4 L]) (A2 [A3 4 T])))))))
theorem A8z{a0}{a1}{r}(h:MF a0 a1=N r):FC Z 308 [.ag (X1.row a0),.ag (X1.row a1)] [.sc (.v (.bool r))]:=by
 unfold MF at h;refine Aa A9 dA [4] 30 ?_;simp only[dA,C,E,F,G,H,J];try simp only[C,E,F,G,H,J]
 refine A8 ?_;try simp only[C,E,F,G,H,J]
 refine A8 ?_;obtain⟨h1,h⟩|⟨h1,h⟩:=ic h
 ·try simp only[h1,C,E,F,G,H,J]
  cases h;exact t0
 ·obtain⟨h2,h⟩|⟨h2,h⟩:=ic h
  ·try simp only[h1,h2,C,E,F,G,H,J]
   cases h;exact t0
  ·obtain⟨h3,h⟩|⟨h3,h⟩:=ic h
   ·obtain⟨h4,h⟩|⟨h4,h⟩:=ic h
    ·try simp only[h1,h2,h3,h4,C,E,F,G,H,J]
     cases h;exact t0
    ·obtain⟨h5,h⟩|⟨h5,h⟩:=ic h
     ·try simp only[h1,h2,h3,h4,h5,C,E,F,G,H,J]
      cases h;exact t0
     ·try simp only[h1,h2,h3,h4,h5,C,E,F,G,H,J]
      cases h;exact t0
   ·try simp only[h1,h2,h3,C,E,F,G,H,J]
    cases h;exact t0
/- 232:laws_eqPassageS -/
def Re:X0:=A1 [Ag [0,1,5] [] []] (A6 (A1 [mv 11 5,mv 12 0,ln 13 12,bn 14 .lss 11 13] (AS 14 .skip (.exit 0))) (A6 (.block 1 (A6 (.drw [o0 (mv 17 0),o0 (mv 18 5),o0 (ia 19 17 18 5),o0 (lw 20 19 5),o0 (mv 21 1),o0 (mv 22 5),o0 (ia 23 21 22 5),o0 (lw 24 23 5),o0 (ca 25 308 [S 20,S 24]),o0 (nt 26 25)]) (At 26 (A2 [A3 4 L])))) (.reg [mv 15 5,Ae 16 .add 15 1,mv 5 16])))
def Vr:X0:=(A2 [A3 4 T])
def dB:X0:=(A1 [A3 4 L] (Ab [mv 6 0,ln 7 6,mv 8 1,ln 9 8,bn 10 .neq 7 9] 10 (A2 [A3 4 L]) (A6 (A1 [A5 5 0] (Aj 0 Re)) Vr)))
def mH:=fun a0 a1 (k_:U→Q V)=>∀{v2} {zr},k_ v2=N zr→Kp Z [0,1,5] [] [] ⟨[pL 0 X1.row a0,pL 1 X1.row a1,pI 5 v2],[],[]⟩ (.code (.loop Re):: [.blk 0,.code Vr]) (Ah [4] [.sc (.v (.bool zr))])
theorem B5q{a0 a1}{n:W}:mH a0 a1 (HI a0 a1 n):=by
 induction n with
 | zero=>intro _ r h; cases h
 | succ n ih=>
  intro v2 r h σ hσ;rw[HI] at h;refine Ak ?_;obtain⟨h3,h⟩|⟨h3,h⟩:=ic h
  ·try simp only[hσ,h3,Re,C,E,F,G,H,J]
   refine Ao ?_;obtain⟨x4,h4,h⟩:=ob h;obtain⟨x5,h5,h⟩:=ob h;obtain⟨r6,h6,h⟩:=ob h;try simp only[h3,h4,h5,C,E,F,G,H,J]
   refine AH (A8z h6) ?_;obtain⟨h7,h⟩|⟨h7,h⟩:=ic h
   ·try simp only[h3,h4,h5,h7,C,E,F,G,H,J]
    refine ih h ?_;try simp only[h3,h4,h5,h7,C,E,F,G,H,J,I]
   ·try simp only[h3,h4,h5,h7,C,E,F,G,H,J]
    cases h;exact t0
  ·try simp only[hσ,h3,Re,Vr,C,E,F,G,H,J]
   cases h;exact t0
theorem A80{a0}{a1}{r}(h:MG a0 a1=N r):FC Z 232 [.sc (.sl (Y X1.row a0)),.sc (.sl (Y X1.row a1))] [.sc (.v (.bool r))]:=by
 unfold MG at h;refine Aa A9 dB [4] 27 ?_;simp only[dB,C,E,F,G,H,J];obtain⟨h1,h⟩|⟨h1,h⟩:=ic h
 ·try simp only[h1,C,E,F,G,H,J]
  cases h;exact t0
 ·try simp only[h1,C,E,F,G,H,J]
  refine B5q h ?_;try simp only[h1,C,E,F,G,H,J,I]
/- 137:laws_eqOption -/
def dC:X0:=(A1 [bo 2 0,bo 3 1,A3 4 L] (Ab [fa 5 2 0,ld 6 5,fa 7 3 0,ld 8 7,bn 9 .neq 6 8] 9 (A2 [A3 4 L]) (Ab [fa 10 2 1,ld 11 10,fa 12 3 1,ld 13 12,bn 14 .neq 11 13] 14 (A2 [A3 4 L]) (Ab [fa 15 2 2,ld 16 15,fa 17 3 2,ld 18 17,bn 19 .neq 16 18] 19 (A2 [A3 4 L]) (Ab [fa 20 2 3,ld 21 20,fa 22 3 3,ld 23 22,ca 24 232 [S 21,S 23],nt 25 24] 25 (A2 [A3 4 L]) (A2 [A3 4 T]))))))
theorem A8v{a0}{a1}{r}(h:MB a0 a1=N r):FC Z 137 [.ag (X2.row a0),.ag (X2.row a1)] [.sc (.v (.bool r))]:=by
 unfold MB at h;refine Aa A9 dC [4] 26 ?_;simp only[dC,C,E,F,G,H,J];try simp only[C,E,F,G,H,J]
 refine A8 ?_;try simp only[C,E,F,G,H,J]
 refine A8 ?_;obtain⟨h1,h⟩|⟨h1,h⟩:=ic h
 ·try simp only[h1,C,E,F,G,H,J]
  cases h;exact t0
 ·obtain⟨h2,h⟩|⟨h2,h⟩:=ic h
  ·try simp only[h1,h2,C,E,F,G,H,J]
   cases h;exact t0
  ·obtain⟨h3,h⟩|⟨h3,h⟩:=ic h
   ·try simp only[h1,h2,h3,C,E,F,G,H,J]
    cases h;exact t0
   ·obtain⟨r4,h4,h⟩:=ob h;try simp only[h1,h2,h3,C,E,F,G,H,J]
    refine A4 (A80 h4) ?_;obtain⟨h5,h⟩|⟨h5,h⟩:=ic h
    ·try simp only[h1,h2,h3,h5,C,E,F,G,H,J]
     cases h;exact t0
    ·try simp only[h1,h2,h3,h5,C,E,F,G,H,J]
     cases h;exact t0
/- 53:laws_eqOptionS -/
def Rf:X0:=A1 [Ag [0,1,5] [] []] (A6 (A1 [mv 11 5,mv 12 0,ln 13 12,bn 14 .lss 11 13] (AS 14 .skip (.exit 0))) (A6 (.block 1 (A6 (.drw [o0 (mv 17 0),o0 (mv 18 5),o0 (ia 19 17 18 4),o0 (lw 20 19 4),o0 (mv 21 1),o0 (mv 22 5),o0 (ia 23 21 22 4),o0 (lw 24 23 4),o0 (ca 25 137 [S 20,S 24]),o0 (nt 26 25)]) (At 26 (A2 [A3 4 L])))) (.reg [mv 15 5,Ae 16 .add 15 1,mv 5 16])))
def Vs:X0:=(A2 [A3 4 T])
def dE:X0:=(A1 [A3 4 L] (Ab [mv 6 0,ln 7 6,mv 8 1,ln 9 8,bn 10 .neq 7 9] 10 (A2 [A3 4 L]) (A6 (A1 [A5 5 0] (Aj 0 Rf)) Vs)))
def mF:=fun a0 a1 (k_:U→Q V)=>∀{v2} {zr},k_ v2=N zr→Kp Z [0,1,5] [] [] ⟨[pL 0 X2.row a0,pL 1 X2.row a1,pI 5 v2],[],[]⟩ (.code (.loop Rf):: [.blk 0,.code Vs]) (Ah [4] [.sc (.v (.bool zr))])
theorem B5r{a0 a1}{n:W}:mF a0 a1 (HG a0 a1 n):=by
 induction n with
 | zero=>intro _ r h; cases h
 | succ n ih=>
  intro v2 r h σ hσ;rw[HG] at h;refine Ak ?_;obtain⟨h3,h⟩|⟨h3,h⟩:=ic h
  ·try simp only[hσ,h3,Rf,C,E,F,G,H,J]
   refine Ao ?_;obtain⟨x4,h4,h⟩:=ob h;obtain⟨x5,h5,h⟩:=ob h;obtain⟨r6,h6,h⟩:=ob h;try simp only[h3,h4,h5,C,E,F,G,H,J]
   refine AH (A8v h6) ?_;obtain⟨h7,h⟩|⟨h7,h⟩:=ic h
   ·try simp only[h3,h4,h5,h7,C,E,F,G,H,J]
    refine ih h ?_;try simp only[h3,h4,h5,h7,C,E,F,G,H,J,I]
   ·try simp only[h3,h4,h5,h7,C,E,F,G,H,J]
    cases h;exact t0
  ·try simp only[hσ,h3,Rf,Vs,C,E,F,G,H,J]
   cases h;exact t0
theorem A8w{a0}{a1}{r}(h:MC a0 a1=N r):FC Z 53 [.sc (.sl (Y X2.row a0)),.sc (.sl (Y X2.row a1))] [.sc (.v (.bool r))]:=by
 unfold MC at h;refine Aa A9 dE [4] 27 ?_;simp only[dE,C,E,F,G,H,J];obtain⟨h1,h⟩|⟨h1,h⟩:=ic h
 ·try simp only[h1,C,E,F,G,H,J]
  cases h;exact t0
 ·try simp only[h1,C,E,F,G,H,J]
  refine B5r h ?_;try simp only[h1,C,E,F,G,H,J,I]
/- 313:laws_markPartS -/
def Rg:X0:=A1 [Ag [0,1,5] [] [99999999999]] (A6 (A1 [mv 6 5,mv 7 0,ln 8 7,bn 9 .lss 6 8] (AS 9 .skip (.exit 0))) (A6 (.block 1 (A1 [mv 12 0,mv 13 5,mv 14 1,ia 15 12 13 3,fa 16 15 0,so 16 14 1] (A1 [mv 17 1,Ae 18 .add 17 1,mv 1 18] (A1 [mv 19 0,mv 20 5,mv 21 1,ia 22 19 20 3,fa 23 22 1,so 23 21 1] (A1 [mv 24 1,Ae 25 .add 24 1,mv 1 25] (A1 [mv 26 0,mv 27 5,mv 28 1,ia 29 26 27 3,fa 30 29 2,so 30 28 1] (.reg [mv 31 1,Ae 32 .add 31 1,mv 1 32]))))))) (.reg [mv 10 5,Ae 11 .add 10 1,mv 5 11])))
def Vt:X0:=(A2 [mv 33 1,mv 4 33])
def cc665:X0:=(A1 [A5 4 0] (A6 (A1 [A5 5 0] (Aj 0 Rg)) Vt))
def mQ:=fun(k_:U→U→(P Xd)→Q (U × P Xd))=>∀{v1 v2 v3} {zr},k_ v1 v2 v3=N zr→Kp Z [0,1,5] [] [99999999999] ⟨[pW 0 99999999999,pI 1 v1,pI 5 v2],[],[(99999999999,3,Y zB v3)]⟩ (.code (.loop Rg):: [.blk 0,.code Vt]) (E2 [4] (.int .i64 zr.1) [(3,Y zB zr.2)] [(0,0)])
theorem B5s{n:W}:mQ (F1 n):=by
 induction n with
 | zero=>intro _ _ _ r h; cases h
 | succ n ih=>
  intro v1 v2 v3 r h σ hσ;rw[F1] at h;refine Ak ?_;obtain⟨h4,h⟩|⟨h4,h⟩:=ic h
  ·obtain⟨x5,h5,h⟩:=ob h;have h5n:=AE h5;try simp only[hσ,h4,h5,Rg,C,E,F,G,H,J]
   refine AW (row:=zB) (y:=(⟨v1,x5.Period,x5.Phase⟩:Xd)) X X h5n X X (by rfl) ?_;obtain⟨x6,h6,h⟩:=ob h;have h6n:=AE h6;try simp only[h4,h5,h6,C,E,F,G,H,J]
   refine AW (row:=zB) (y:=(⟨x6.Amp,(zI .i64 (v1+(1:U))),x6.Phase⟩:Xd)) X X h6n X X (by rfl) ?_;obtain⟨x7,h7,h⟩:=ob h;have h7n:=AE h7;try simp only[h4,h5,h6,h7,C,E,F,G,H,J]
   refine AW (row:=zB) (y:=(⟨x7.Amp,x7.Period,(zI .i64 ((zI .i64 (v1+(1:U)))+(1:U)))⟩:Xd)) X X h7n X X (by rfl) ?_;try simp only[h4,h5,h6,h7,C,E,F,G,H,J]
   refine ih h ?_;try simp only[h4,h5,h6,h7,C,E,F,G,H,J,I]
  ·try simp only[hσ,h4,Rg,Vt,C,E,F,G,H,J]
   cases h;exact⟨⟨X,⟨⟩⟩,⟨⟨⟨_,X,X⟩,X⟩,⟨⟩⟩⟩
theorem sa:Bf Z 313=N (cc665.strip,[4],34):=by kernel_rfl
theorem zl:∀(n:W) (v1 v2:U) (v3:P Xd) (r:U × P Xd),F1 n v1 v2 v3=N r→r.2.length=v3.length:=by
 intro n
 induction n with
 | zero=>intro _ _ _ r h; cases h
 | succ n ih=>
  intro v1 v2 v3 r h;rw[F1] at h;obtain⟨h4,h⟩|⟨h4,h⟩:=ic h
  ·obtain⟨x5,h5,h⟩:=ob h;obtain⟨x6,h6,h⟩:=ob h;obtain⟨x7,h7,h⟩:=ob h;have hl:=ih _ _ _ _ h;try simp only[zA] at hl
   omega
  ·cases h;all_goals (try dsimp only); first | done | omega | (simp only[zA] at *; omega) | simp_all
theorem Wg{a0}{a1}{r}(h:JV a0 a1=N r):r.2.length=a0.length:=by
 unfold JV at h;have hl:=zl _ _ _ _ _ h;try simp only[zA] at hl
 omega
theorem A9i{a0}{a1}{r}(h:JV a0 a1=N r):Cj Z 313 [.sc (.r 0),.sc (.d (.int .i64 a1))] [(3,Y zB a0)] [(3,Y zB r.2)] (.int .i64 r.1):=by
 unfold JV at h;refine Da (ps:= [(0,0)]) (σ:=⟨[(0,vc (.own 99999999999)),(1,vc (aI a1))],[],[(99999999999,3,Y zB a0)]⟩) A9 sa X X X (B2 Bx) X ?_;simp only[cc665];try simp only[C,E,F,G,H,J]
 refine B5s h ?_;try simp only[C,E,F,G,H,J,I]
/- 238:laws_markTide -/
def cc668:X0:=(A1 [bo 2 0,A5 4 0] (A1 [fa 5 2 1,ld 6 5,mv 7 1,ca 8 313 [S 6,S 7],mv 1 8] (A2 [mv 9 1,mv 4 9])))
theorem sb:Bf Z 238=N (cc668.strip,[4],10):=by kernel_rfl
theorem Wl{a0}{a1}{r}(h:K1 a0 a1=N r):r.2.length=a0.Parts.length:=by
 unfold K1 at h;obtain⟨r1,h1,h⟩:=ob h;have lrr1:=(Wg h1);cases h;all_goals (try dsimp only); first | done | omega | (simp only[zA] at *; omega) | simp_all
theorem A9o{a0}{a1}{r}(h:K1 a0 a1=N r):Cj Z 238 [.ag [.d (.int .i64 a0.Mean),.r 0],.sc (.d (.int .i64 a1))] [(3,Y zB a0.Parts)] [(3,Y zB r.2)] (.int .i64 r.1):=by
 unfold K1 at h;refine Da (ps:= [(0,1)]) (σ:=⟨[(0,va [aI a0.Mean,.own 99999999999]),(1,vc (aI a1))],[],[(99999999999,3,Y zB a0.Parts)]⟩) A9 sb X X X (B2 Bx) X ?_;simp only[cc668];try simp only[C,E,F,G,H,J]
 refine A8 ?_;obtain⟨r1,h1,h⟩:=ob h;try simp only[C,E,F,G,H,J]
 have lrr1:=(Wg h1);refine CW (ids:= [99999999999]) (A9i h1) X X X (B2 Bx) (BU (Wg h1) CX) ?_;try simp only[C,E,F,G,H,J]
 cases h;exact⟨⟨X,⟨⟩⟩,⟨⟨⟨_,X,X⟩,X⟩,⟨⟩⟩⟩
/- 239:laws_markSurgeS -/
def Ri:X0:=A1 [Ag [0,1,5] [] [99999999999]] (A6 (A1 [mv 6 5,mv 7 0,ln 8 7,bn 9 .lss 6 8] (AS 9 .skip (.exit 0))) (A6 (.block 1 (A1 [mv 12 0,mv 13 5,mv 14 1,ia 15 12 13 3,fa 16 15 0,so 16 14 1] (A1 [mv 17 1,Ae 18 .add 17 1,mv 1 18] (A1 [mv 19 0,mv 20 5,mv 21 1,ia 22 19 20 3,fa 23 22 1,so 23 21 1] (A1 [mv 24 1,Ae 25 .add 24 1,mv 1 25] (A1 [mv 26 0,mv 27 5,mv 28 1,ia 29 26 27 3,fa 30 29 2,so 30 28 1] (.reg [mv 31 1,Ae 32 .add 31 1,mv 1 32]))))))) (.reg [mv 10 5,Ae 11 .add 10 1,mv 5 11])))
def Vu:X0:=(A2 [mv 33 1,mv 4 33])
def cc672:X0:=(A1 [A5 4 0] (A6 (A1 [A5 5 0] (Aj 0 Ri)) Vu))
def mV:=fun(k_:U→U→(P Xb)→Q (U × P Xb))=>∀{v1 v2 v3} {zr},k_ v1 v2 v3=N zr→Kp Z [0,1,5] [] [99999999999] ⟨[pW 0 99999999999,pI 1 v1,pI 5 v2],[],[(99999999999,3,Y zC v3)]⟩ (.code (.loop Ri):: [.blk 0,.code Vu]) (E2 [4] (.int .i64 zr.1) [(3,Y zC zr.2)] [(0,0)])
theorem B5t{n:W}:mV (F5 n):=by
 induction n with
 | zero=>intro _ _ _ r h; cases h
 | succ n ih=>
  intro v1 v2 v3 r h σ hσ;rw[F5] at h;refine Ak ?_;obtain⟨h4,h⟩|⟨h4,h⟩:=ic h
  ·obtain⟨x5,h5,h⟩:=ob h;have h5n:=AE h5;try simp only[hσ,h4,h5,Ri,C,E,F,G,H,J]
   refine AW (row:=zC) (y:=(⟨v1,x5.Low,x5.High⟩:Xb)) X X h5n X X (by rfl) ?_;obtain⟨x6,h6,h⟩:=ob h;have h6n:=AE h6;try simp only[h4,h5,h6,C,E,F,G,H,J]
   refine AW (row:=zC) (y:=(⟨x6.From,(zI .i64 (v1+(1:U))),x6.High⟩:Xb)) X X h6n X X (by rfl) ?_;obtain⟨x7,h7,h⟩:=ob h;have h7n:=AE h7;try simp only[h4,h5,h6,h7,C,E,F,G,H,J]
   refine AW (row:=zC) (y:=(⟨x7.From,x7.Low,(zI .i64 ((zI .i64 (v1+(1:U)))+(1:U)))⟩:Xb)) X X h7n X X (by rfl) ?_;try simp only[h4,h5,h6,h7,C,E,F,G,H,J]
   refine ih h ?_;try simp only[h4,h5,h6,h7,C,E,F,G,H,J,I]
  ·try simp only[hσ,h4,Ri,Vu,C,E,F,G,H,J]
   cases h;exact⟨⟨X,⟨⟩⟩,⟨⟨⟨_,X,X⟩,X⟩,⟨⟩⟩⟩
theorem sd:Bf Z 239=N (cc672.strip,[4],34):=by kernel_rfl
theorem zp:∀(n:W) (v1 v2:U) (v3:P Xb) (r:U × P Xb),F5 n v1 v2 v3=N r→r.2.length=v3.length:=by
 intro n
 induction n with
 | zero=>intro _ _ _ r h; cases h
 | succ n ih=>
  intro v1 v2 v3 r h;rw[F5] at h;obtain⟨h4,h⟩|⟨h4,h⟩:=ic h
  ·obtain⟨x5,h5,h⟩:=ob h;obtain⟨x6,h6,h⟩:=ob h;obtain⟨x7,h7,h⟩:=ob h;have hl:=ih _ _ _ _ h;try simp only[zA] at hl
   omega
  ·cases h;all_goals (try dsimp only); first | done | omega | (simp only[zA] at *; omega) | simp_all
theorem Wk{a0}{a1}{r}(h:JZ a0 a1=N r):r.2.length=a0.length:=by
 unfold JZ at h;have hl:=zp _ _ _ _ _ h;try simp only[zA] at hl
 omega
theorem A9n{a0}{a1}{r}(h:JZ a0 a1=N r):Cj Z 239 [.sc (.r 0),.sc (.d (.int .i64 a1))] [(3,Y zC a0)] [(3,Y zC r.2)] (.int .i64 r.1):=by
 unfold JZ at h;refine Da (ps:= [(0,0)]) (σ:=⟨[(0,vc (.own 99999999999)),(1,vc (aI a1))],[],[(99999999999,3,Y zC a0)]⟩) A9 sd X X X (B2 Bx) X ?_;simp only[cc672];try simp only[C,E,F,G,H,J]
 refine B5t h ?_;try simp only[C,E,F,G,H,J,I]
/- 144:laws_markForecast -/
def cc675:X0:=(A1 [bo 2 0,A5 4 0] (A1 [fa 5 2 0,lw 6 5 2,mv 7 1,ca 8 238 [S 6,S 7],mv 1 8] (A1 [fa 9 2 2,ld 10 9,mv 11 1,ca 12 239 [S 10,S 11],mv 1 12] (A2 [mv 13 1,mv 4 13]))))
theorem se:Bf Z 144=N (cc675.strip,[4],14):=by kernel_rfl
theorem SQ{a0}{a1}{r}(h:JU a0 a1=N r):r.2.1.length=a0.Tide.Parts.length∧r.2.2.length=a0.Surges.length:=by
 unfold JU at h;obtain⟨r1,h1,h⟩:=ob h;have lrr1:=(Wl h1);obtain⟨r2,h2,h⟩:=ob h;have lrr2:=(Wk h2);cases h;all_goals (try dsimp only); first | done | omega | (simp only[zA] at *; omega) | simp_all
theorem A9f{a0}{a1}{r}(h:JU a0 a1=N r):Cj Z 144 [.ag [.d (.int .i64 a0.Tide.Mean),.r 0,.r 1],.sc (.d (.int .i64 a1))] [(3,Y zB a0.Tide.Parts),(3,Y zC a0.Surges)] [(3,Y zB r.2.1),(3,Y zC r.2.2)] (.int .i64 r.1):=by
 unfold JU at h;refine Da (ps:= [(0,1),(0,2)]) (σ:=⟨[(0,va [aI a0.Tide.Mean,.own 99999999999,.own 100000000000]),(1,vc (aI a1))],[],[(99999999999,3,Y zB a0.Tide.Parts),(100000000000,3,Y zC a0.Surges)]⟩) A9 se X X X (B2 (B2 Bx)) X ?_;simp only[cc675];try simp only[C,E,F,G,H,J]
 refine A8 ?_;obtain⟨r1,h1,h⟩:=ob h;try simp only[C,E,F,G,H,J]
 have lrr1:=(Wl h1);refine CW (ids:= [99999999999]) (A9o h1) X X X (B2 Bx) (BU (Wl h1) CX) ?_;obtain⟨r2,h2,h⟩:=ob h;try simp only[C,E,F,G,H,J]
 have lrr2:=(Wk h2);refine CW (ids:= [100000000000]) (A9n h2) X X X (B2 Bx) (BU (Wk h2) CX) ?_;try simp only[C,E,F,G,H,J]
 cases h;exact⟨⟨X,⟨⟩⟩,⟨⟨⟨_,X,X⟩,X⟩,⟨⟨⟨_,X,X⟩,X⟩,⟨⟩⟩⟩⟩
/- 242:laws_markText -/
def Rj:X0:=A1 [Ag [0,3] [] []] (A6 (A1 [mv 6 0,Ae 7 .gtr 6 0] (AS 7 .skip (.exit 0))) (.block 1 (A1 [mv 8 0,Ae 9 .rem 8 10,(O,.bin 10 .add (K 48) (S 9)),(O,.conv 11 .u8 (S 10)),AO 12 1 [.int .u8 0] 1 [(0,(S 11))],(O,.sconv 13 (S 12)),mv 14 3,bn 15 .add 13 14,mv 3 15] (.reg [mv 16 0,Ae 17 .quo 16 10,mv 0 17]))))
def Vv:X0:=(A2 [mv 18 3,(O,.bin 19 .add (KS [109]) (S 18)),mv 2 19])
def dF:X0:=(A1 [(O,.mv 2 (KS []))] (Ab [mv 4 0,Ae 5 .leq 4 0] 5 (A2 [(O,.mv 2 (KS [109,48]))]) (A1 [(O,.mv 3 (KS []))] (A6 (Aj 0 Rj) Vv))))
def mW:=fun(k_:U→(P UInt8)→Q (P UInt8))=>∀{v2 v3} {zr},k_ v2 v3=N zr→Kp Z [0,3] [] [] ⟨[pI 0 v2,(3,vc (aS v3))],[],[]⟩ (.code (.loop Rj):: [.blk 0,.code Vv]) (Ah [2] [.sc (.v (.str zr))])
theorem B5u{n:W}:mW (HS n):=by
 induction n with
 | zero=>intro _ _ r h; cases h
 | succ n ih=>
  intro v2 v3 r h σ hσ;rw[HS] at h;refine Ak ?_;obtain⟨h4,h⟩|⟨h4,h⟩:=ic h
  ·try simp only[hσ,h4,Rj,C,E,F,G,H,J]
   refine AD (es:=Y r8 ([(IntKind.u8.wrap (zI .i64 ((48:U)+(zI .i64 (Int.tmod v2 (10:U))))))]:P U)) ?_;obtain⟨h5,h⟩:=Ba h;try simp only[h4,h5,C,E,F,G,H,J]
   refine ih h ?_;try simp only[h4,h5,C,E,F,G,H,J,I]
  ·obtain⟨h6,h⟩:=Ba h;try simp only[hσ,h4,h6,Rj,Vv,C,E,F,G,H,J]
   cases h;exact t0
theorem jH{a0}{r}(h:K0 a0=N r):FC Z 242 [.sc (.int .i64 a0)] [.sc (.v (.str r))]:=by
 unfold K0 at h;refine Aa A9 dF [2] 20 ?_;simp only[dF,C,E,F,G,H,J];obtain⟨h1,h⟩|⟨h1,h⟩:=ic h
 ·try simp only[h1,C,E,F,G,H,J]
  cases h;exact t0
 ·try simp only[h1,C,E,F,G,H,J]
  refine B5u h ?_;try simp only[h1,C,E,F,G,H,J,I]
/- 240:laws_markPointS -/
def Rk:X0:=A1 [Ag [0,1,5] [] [99999999999]] (A6 (A1 [mv 6 5,mv 7 0,ln 8 7,bn 9 .lss 6 8] (AS 9 .skip (.exit 0))) (A6 (.block 1 (A1 [mv 12 0,mv 13 5,mv 14 1,ca 15 242 [S 14],ia 16 12 13 2,fa 17 16 0,so 17 15 1] (A1 [mv 18 1,Ae 19 .add 18 1,mv 1 19] (A1 [mv 20 0,mv 21 5,mv 22 1,Ae 23 .rem 22 3,Ae 24 .eql 23 0,ia 25 20 21 2,fa 26 25 1,so 26 24 1] (.reg [mv 27 1,Ae 28 .add 27 1,mv 1 28]))))) (.reg [mv 10 5,Ae 11 .add 10 1,mv 5 11])))
def Vx:X0:=(A2 [mv 29 1,mv 4 29])
def cc683:X0:=(A1 [A5 4 0] (A6 (A1 [A5 5 0] (Aj 0 Rk)) Vx))
def mS:=fun(k_:U→U→(P X9)→Q (U × P X9))=>∀{v1 v2 v3} {zr},k_ v1 v2 v3=N zr→Kp Z [0,1,5] [] [99999999999] ⟨[pW 0 99999999999,pI 1 v1,pI 5 v2],[],[(99999999999,2,Y X9.row v3)]⟩ (.code (.loop Rk):: [.blk 0,.code Vx]) (E2 [4] (.int .i64 zr.1) [(2,Y X9.row zr.2)] [(0,0)])
theorem B5v{n:W}:mS (F2 n):=by
 induction n with
 | zero=>intro _ _ _ r h; cases h
 | succ n ih=>
  intro v1 v2 v3 r h σ hσ;rw[F2] at h;refine Ak ?_;obtain⟨h4,h⟩|⟨h4,h⟩:=ic h
  ·obtain⟨r5,h5,h⟩:=ob h;try simp only[hσ,h4,Rk,C,E,F,G,H,J]
   refine A4 (jH h5) ?_;obtain⟨x6,h6,h⟩:=ob h;have h6n:=AE h6;try simp only[h4,h6,C,E,F,G,H,J]
   refine AW (row:=X9.row) (y:=(⟨r5,x6.Wait⟩:X9)) X X h6n X X (by rfl) ?_;obtain⟨x7,h7,h⟩:=ob h;have h7n:=AE h7;try simp only[h4,h6,h7,C,E,F,G,H,J]
   refine AW (row:=X9.row) (y:=(⟨x7.Name,((zI .i64 (Int.tmod (zI .i64 (v1+(1:U))) (3:U)))==(0:U))⟩:X9)) X X h7n X X (by rfl) ?_;try simp only[h4,h6,h7,C,E,F,G,H,J]
   refine ih h ?_;try simp only[h4,h6,h7,C,E,F,G,H,J,I]
  ·try simp only[hσ,h4,Rk,Vx,C,E,F,G,H,J]
   cases h;exact⟨⟨X,⟨⟩⟩,⟨⟨⟨_,X,X⟩,X⟩,⟨⟩⟩⟩
theorem sf:Bf Z 240=N (cc683.strip,[4],30):=by kernel_rfl
theorem zm:∀(n:W) (v1 v2:U) (v3:P X9) (r:U × P X9),F2 n v1 v2 v3=N r→r.2.length=v3.length:=by
 intro n
 induction n with
 | zero=>intro _ _ _ r h; cases h
 | succ n ih=>
  intro v1 v2 v3 r h;rw[F2] at h;obtain⟨h4,h⟩|⟨h4,h⟩:=ic h
  ·obtain⟨r5,h5,h⟩:=ob h;obtain⟨x6,h6,h⟩:=ob h;obtain⟨x7,h7,h⟩:=ob h;have hl:=ih _ _ _ _ h;try simp only[zA] at hl
   omega
  ·cases h;all_goals (try dsimp only); first | done | omega | (simp only[zA] at *; omega) | simp_all
theorem Wh{a0}{a1}{r}(h:JW a0 a1=N r):r.2.length=a0.length:=by
 unfold JW at h;have hl:=zm _ _ _ _ _ h;try simp only[zA] at hl
 omega
theorem A9k{a0}{a1}{r}(h:JW a0 a1=N r):Cj Z 240 [.sc (.r 0),.sc (.d (.int .i64 a1))] [(2,Y X9.row a0)] [(2,Y X9.row r.2)] (.int .i64 r.1):=by
 unfold JW at h;refine Da (ps:= [(0,0)]) (σ:=⟨[(0,vc (.own 99999999999)),(1,vc (aI a1))],[],[(99999999999,2,Y X9.row a0)]⟩) A9 sf X X X (B2 Bx) X ?_;simp only[cc683];try simp only[C,E,F,G,H,J]
 refine B5v h ?_;try simp only[C,E,F,G,H,J,I]
/- 241:laws_markSegmentS -/
def Rl:X0:=A1 [Ag [0,1,5] [] [99999999999]] (A6 (A1 [mv 6 5,mv 7 0,ln 8 7,bn 9 .lss 6 8] (AS 9 .skip (.exit 0))) (A6 (.block 1 (A1 [mv 12 0,mv 13 5,mv 14 1,ia 15 12 13 5,fa 16 15 0,so 16 14 1] (A1 [mv 17 1,Ae 18 .add 17 1,mv 1 18] (A1 [mv 19 0,mv 20 5,mv 21 1,ia 22 19 20 5,fa 23 22 1,so 23 21 1] (A1 [mv 24 1,Ae 25 .add 24 1,mv 1 25] (A1 [mv 26 0,mv 27 5,mv 28 1,ia 29 26 27 5,fa 30 29 2,so 30 28 1] (A1 [mv 31 1,Ae 32 .add 31 1,mv 1 32] (A1 [mv 33 0,mv 34 5,mv 35 1,ia 36 33 34 5,fa 37 36 3,so 37 35 1] (A1 [mv 38 1,Ae 39 .add 38 1,mv 1 39] (A1 [mv 40 0,mv 41 5,mv 42 1,Ae 43 .rem 42 3,Ae 44 .eql 43 0,ia 45 40 41 5,fa 46 45 4,so 46 44 1] (.reg [mv 47 1,Ae 48 .add 47 1,mv 1 48]))))))))))) (.reg [mv 10 5,Ae 11 .add 10 1,mv 5 11])))
def Vy:X0:=(A2 [mv 49 1,mv 4 49])
def cc688:X0:=(A1 [A5 4 0] (A6 (A1 [A5 5 0] (Aj 0 Rl)) Vy))
def mT:=fun(k_:U→U→(P X3)→Q (U × P X3))=>∀{v1 v2 v3} {zr},k_ v1 v2 v3=N zr→Kp Z [0,1,5] [] [99999999999] ⟨[pW 0 99999999999,pI 1 v1,pI 5 v2],[],[(99999999999,5,Y X3.row v3)]⟩ (.code (.loop Rl):: [.blk 0,.code Vy]) (E2 [4] (.int .i64 zr.1) [(5,Y X3.row zr.2)] [(0,0)])
theorem B5w{n:W}:mT (F3 n):=by
 induction n with
 | zero=>intro _ _ _ r h; cases h
 | succ n ih=>
  intro v1 v2 v3 r h σ hσ;rw[F3] at h;refine Ak ?_;obtain⟨h4,h⟩|⟨h4,h⟩:=ic h
  ·obtain⟨x5,h5,h⟩:=ob h;have h5n:=AE h5;try simp only[hσ,h4,h5,Rl,C,E,F,G,H,J]
   refine AW (row:=X3.row) (y:=(⟨v1,x5.B,x5.Depth,x5.Minutes,x5.Meet⟩:X3)) X X h5n X X (by rfl) ?_;obtain⟨x6,h6,h⟩:=ob h;have h6n:=AE h6;try simp only[h4,h5,h6,C,E,F,G,H,J]
   refine AW (row:=X3.row) (y:=(⟨x6.A,(zI .i64 (v1+(1:U))),x6.Depth,x6.Minutes,x6.Meet⟩:X3)) X X h6n X X (by rfl) ?_;obtain⟨x7,h7,h⟩:=ob h;have h7n:=AE h7;try simp only[h4,h5,h6,h7,C,E,F,G,H,J]
   refine AW (row:=X3.row) (y:=(⟨x7.A,x7.B,(zI .i64 ((zI .i64 (v1+(1:U)))+(1:U))),x7.Minutes,x7.Meet⟩:X3)) X X h7n X X (by rfl) ?_;obtain⟨x8,h8,h⟩:=ob h;have h8n:=AE h8;try simp only[h4,h5,h6,h7,h8,C,E,F,G,H,J]
   refine AW (row:=X3.row) (y:=(⟨x8.A,x8.B,x8.Depth,(zI .i64 ((zI .i64 ((zI .i64 (v1+(1:U)))+(1:U)))+(1:U))),x8.Meet⟩:X3)) X X h8n X X (by rfl) ?_;obtain⟨x9,h9,h⟩:=ob h;have h9n:=AE h9;try simp only[h4,h5,h6,h7,h8,h9,C,E,F,G,H,J]
   refine AW (row:=X3.row) (y:=(⟨x9.A,x9.B,x9.Depth,x9.Minutes,((zI .i64 (Int.tmod (zI .i64 ((zI .i64 ((zI .i64 ((zI .i64 (v1+(1:U)))+(1:U)))+(1:U)))+(1:U))) (3:U)))==(0:U))⟩:X3)) X X h9n X X (by rfl) ?_;try simp only[h4,h5,h6,h7,h8,h9,C,E,F,G,H,J]
   refine ih h ?_;try simp only[h4,h5,h6,h7,h8,h9,C,E,F,G,H,J,I]
  ·try simp only[hσ,h4,Rl,Vy,C,E,F,G,H,J]
   cases h;exact⟨⟨X,⟨⟩⟩,⟨⟨⟨_,X,X⟩,X⟩,⟨⟩⟩⟩
theorem sg:Bf Z 241=N (cc688.strip,[4],50):=by kernel_rfl
theorem zn:∀(n:W) (v1 v2:U) (v3:P X3) (r:U × P X3),F3 n v1 v2 v3=N r→r.2.length=v3.length:=by
 intro n
 induction n with
 | zero=>intro _ _ _ r h; cases h
 | succ n ih=>
  intro v1 v2 v3 r h;rw[F3] at h;obtain⟨h4,h⟩|⟨h4,h⟩:=ic h
  ·obtain⟨x5,h5,h⟩:=ob h;obtain⟨x6,h6,h⟩:=ob h;obtain⟨x7,h7,h⟩:=ob h;obtain⟨x8,h8,h⟩:=ob h;obtain⟨x9,h9,h⟩:=ob h;have hl:=ih _ _ _ _ h;try simp only[zA] at hl
   omega
  ·cases h;all_goals (try dsimp only); first | done | omega | (simp only[zA] at *; omega) | simp_all
theorem Wi{a0}{a1}{r}(h:JX a0 a1=N r):r.2.length=a0.length:=by
 unfold JX at h;have hl:=zn _ _ _ _ _ h;try simp only[zA] at hl
 omega
theorem A9l{a0}{a1}{r}(h:JX a0 a1=N r):Cj Z 241 [.sc (.r 0),.sc (.d (.int .i64 a1))] [(5,Y X3.row a0)] [(5,Y X3.row r.2)] (.int .i64 r.1):=by
 unfold JX at h;refine Da (ps:= [(0,0)]) (σ:=⟨[(0,vc (.own 99999999999)),(1,vc (aI a1))],[],[(99999999999,5,Y X3.row a0)]⟩) A9 sg X X X (B2 Bx) X ?_;simp only[cc688];try simp only[C,E,F,G,H,J]
 refine B5w h ?_;try simp only[C,E,F,G,H,J,I]
/- 145:laws_markChart -/
def cc691:X0:=(A1 [bo 2 0,A5 4 0] (A1 [fa 5 2 0,ld 6 5,mv 7 1,ca 8 240 [S 6,S 7],mv 1 8] (A1 [fa 9 2 1,ld 10 9,mv 11 1,ca 12 241 [S 10,S 11],mv 1 12] (A2 [mv 13 1,mv 4 13]))))
theorem si:Bf Z 145=N (cc691.strip,[4],14):=by kernel_rfl
theorem SP{a0}{a1}{r}(h:JS a0 a1=N r):r.2.1.length=a0.Points.length∧r.2.2.length=a0.Segments.length:=by
 unfold JS at h;obtain⟨r1,h1,h⟩:=ob h;have lrr1:=(Wh h1);obtain⟨r2,h2,h⟩:=ob h;have lrr2:=(Wi h2);cases h;all_goals (try dsimp only); first | done | omega | (simp only[zA] at *; omega) | simp_all
theorem A9d{a0}{a1}{r}(h:JS a0 a1=N r):Cj Z 145 [.ag [.r 0,.r 1],.sc (.d (.int .i64 a1))] [(2,Y X9.row a0.Points),(5,Y X3.row a0.Segments)] [(2,Y X9.row r.2.1),(5,Y X3.row r.2.2)] (.int .i64 r.1):=by
 unfold JS at h;refine Da (ps:= [(0,0),(0,1)]) (σ:=⟨[(0,va [.own 99999999999,.own 100000000000]),(1,vc (aI a1))],[],[(99999999999,2,Y X9.row a0.Points),(100000000000,5,Y X3.row a0.Segments)]⟩) A9 si X X X (B2 (B2 Bx)) X ?_;simp only[cc691];try simp only[C,E,F,G,H,J]
 refine A8 ?_;obtain⟨r1,h1,h⟩:=ob h;try simp only[C,E,F,G,H,J]
 have lrr1:=(Wh h1);refine CW (ids:= [99999999999]) (A9k h1) X X X (B2 Bx) (BU (Wh h1) CX) ?_;obtain⟨r2,h2,h⟩:=ob h;try simp only[C,E,F,G,H,J]
 have lrr2:=(Wi h2);refine CW (ids:= [100000000000]) (A9l h2) X X X (B2 Bx) (BU (Wi h2) CX) ?_;try simp only[C,E,F,G,H,J]
 cases h;exact⟨⟨X,⟨⟩⟩,⟨⟨⟨_,X,X⟩,X⟩,⟨⟨⟨_,X,X⟩,X⟩,⟨⟩⟩⟩⟩
/- 146:laws_markShipS -/
def Rm:X0:=A1 [Ag [0,1,5] [] [99999999999]] (A6 (A1 [mv 6 5,mv 7 0,ln 8 7,bn 9 .lss 6 8] (AS 9 .skip (.exit 0))) (A6 (.block 1 (A1 [mv 12 0,mv 13 5,mv 14 1,ca 15 242 [S 14],ia 16 12 13 6,fa 17 16 0,so 17 15 1] (A1 [mv 18 1,Ae 19 .add 18 1,mv 1 19] (A1 [mv 20 0,mv 21 5,mv 22 1,ia 23 20 21 6,fa 24 23 1,so 24 22 1] (A1 [mv 25 1,Ae 26 .add 25 1,mv 1 26] (A1 [mv 27 0,mv 28 5,mv 29 1,ia 30 27 28 6,fa 31 30 2,so 31 29 1] (A1 [mv 32 1,Ae 33 .add 32 1,mv 1 33] (A1 [mv 34 0,mv 35 5,mv 36 1,ia 37 34 35 6,fa 38 37 3,so 38 36 1] (A1 [mv 39 1,Ae 40 .add 39 1,mv 1 40] (A1 [mv 41 0,mv 42 5,mv 43 1,ia 44 41 42 6,fa 45 44 4,so 45 43 1] (A1 [mv 46 1,Ae 47 .add 46 1,mv 1 47] (A1 [mv 48 0,mv 49 5,mv 50 1,Ae 51 .rem 50 3,Ae 52 .eql 51 0,ia 53 48 49 6,fa 54 53 5,so 54 52 1] (.reg [mv 55 1,Ae 56 .add 55 1,mv 1 56]))))))))))))) (.reg [mv 10 5,Ae 11 .add 10 1,mv 5 11])))
def Vz:X0:=(A2 [mv 57 1,mv 4 57])
def cc695:X0:=(A1 [A5 4 0] (A6 (A1 [A5 5 0] (Aj 0 Rm)) Vz))
def mU:=fun(k_:U→U→(P X5)→Q (U × P X5))=>∀{v1 v2 v3} {zr},k_ v1 v2 v3=N zr→Kp Z [0,1,5] [] [99999999999] ⟨[pW 0 99999999999,pI 1 v1,pI 5 v2],[],[(99999999999,6,Y X5.row v3)]⟩ (.code (.loop Rm):: [.blk 0,.code Vz]) (E2 [4] (.int .i64 zr.1) [(6,Y X5.row zr.2)] [(0,0)])
theorem B5x{n:W}:mU (F4 n):=by
 induction n with
 | zero=>intro _ _ _ r h; cases h
 | succ n ih=>
  intro v1 v2 v3 r h σ hσ;rw[F4] at h;refine Ak ?_;obtain⟨h4,h⟩|⟨h4,h⟩:=ic h
  ·obtain⟨r5,h5,h⟩:=ob h;try simp only[hσ,h4,Rm,C,E,F,G,H,J]
   refine A4 (jH h5) ?_;obtain⟨x6,h6,h⟩:=ob h;have h6n:=AE h6;try simp only[h4,h6,C,E,F,G,H,J]
   refine AW (row:=X5.row) (y:=(⟨r5,x6.Length,x6.Draught,x6.Line,x6.Tugs,x6.Slow⟩:X5)) X X h6n X X (by rfl) ?_;obtain⟨x7,h7,h⟩:=ob h;have h7n:=AE h7;try simp only[h4,h6,h7,C,E,F,G,H,J]
   refine AW (row:=X5.row) (y:=(⟨x7.Name,(zI .i64 (v1+(1:U))),x7.Draught,x7.Line,x7.Tugs,x7.Slow⟩:X5)) X X h7n X X (by rfl) ?_;obtain⟨x8,h8,h⟩:=ob h;have h8n:=AE h8;try simp only[h4,h6,h7,h8,C,E,F,G,H,J]
   refine AW (row:=X5.row) (y:=(⟨x8.Name,x8.Length,(zI .i64 ((zI .i64 (v1+(1:U)))+(1:U))),x8.Line,x8.Tugs,x8.Slow⟩:X5)) X X h8n X X (by rfl) ?_;obtain⟨x9,h9,h⟩:=ob h;have h9n:=AE h9;try simp only[h4,h6,h7,h8,h9,C,E,F,G,H,J]
   refine AW (row:=X5.row) (y:=(⟨x9.Name,x9.Length,x9.Draught,(zI .i64 ((zI .i64 ((zI .i64 (v1+(1:U)))+(1:U)))+(1:U))),x9.Tugs,x9.Slow⟩:X5)) X X h9n X X (by rfl) ?_;obtain⟨x10,h10,h⟩:=ob h;have h10n:=AE h10;try simp only[h4,h6,h7,h8,h9,h10,C,E,F,G,H,J]
   refine AW (row:=X5.row) (y:=(⟨x10.Name,x10.Length,x10.Draught,x10.Line,(zI .i64 ((zI .i64 ((zI .i64 ((zI .i64 (v1+(1:U)))+(1:U)))+(1:U)))+(1:U))),x10.Slow⟩:X5)) X X h10n X X (by rfl) ?_;obtain⟨x11,h11,h⟩:=ob h;have h11n:=AE h11;try simp only[h4,h6,h7,h8,h9,h10,h11,C,E,F,G,H,J]
   refine AW (row:=X5.row) (y:=(⟨x11.Name,x11.Length,x11.Draught,x11.Line,x11.Tugs,((zI .i64 (Int.tmod (zI .i64 ((zI .i64 ((zI .i64 ((zI .i64 ((zI .i64 (v1+(1:U)))+(1:U)))+(1:U)))+(1:U)))+(1:U))) (3:U)))==(0:U))⟩:X5)) X X h11n X X (by rfl) ?_;try simp only[h4,h6,h7,h8,h9,h10,h11,C,E,F,G,H,J]
   refine ih h ?_;try simp only[h4,h6,h7,h8,h9,h10,h11,C,E,F,G,H,J,I]
  ·try simp only[hσ,h4,Rm,Vz,C,E,F,G,H,J]
   cases h;exact⟨⟨X,⟨⟩⟩,⟨⟨⟨_,X,X⟩,X⟩,⟨⟩⟩⟩
theorem sj:Bf Z 146=N (cc695.strip,[4],58):=by kernel_rfl
theorem zo:∀(n:W) (v1 v2:U) (v3:P X5) (r:U × P X5),F4 n v1 v2 v3=N r→r.2.length=v3.length:=by
 intro n
 induction n with
 | zero=>intro _ _ _ r h; cases h
 | succ n ih=>
  intro v1 v2 v3 r h;rw[F4] at h;obtain⟨h4,h⟩|⟨h4,h⟩:=ic h
  ·obtain⟨r5,h5,h⟩:=ob h;obtain⟨x6,h6,h⟩:=ob h;obtain⟨x7,h7,h⟩:=ob h;obtain⟨x8,h8,h⟩:=ob h;obtain⟨x9,h9,h⟩:=ob h;obtain⟨x10,h10,h⟩:=ob h;obtain⟨x11,h11,h⟩:=ob h;have hl:=ih _ _ _ _ h;try simp only[zA] at hl
   omega
  ·cases h;all_goals (try dsimp only); first | done | omega | (simp only[zA] at *; omega) | simp_all
theorem Wj{a0}{a1}{r}(h:JY a0 a1=N r):r.2.length=a0.length:=by
 unfold JY at h;have hl:=zo _ _ _ _ _ h;try simp only[zA] at hl
 omega
theorem A9m{a0}{a1}{r}(h:JY a0 a1=N r):Cj Z 146 [.sc (.r 0),.sc (.d (.int .i64 a1))] [(6,Y X5.row a0)] [(6,Y X5.row r.2)] (.int .i64 r.1):=by
 unfold JY at h;refine Da (ps:= [(0,0)]) (σ:=⟨[(0,vc (.own 99999999999)),(1,vc (aI a1))],[],[(99999999999,6,Y X5.row a0)]⟩) A9 sj X X X (B2 Bx) X ?_;simp only[cc695];try simp only[C,E,F,G,H,J]
 refine B5x h ?_;try simp only[C,E,F,G,H,J,I]
/- 66:laws_markIntS -/
def Rn:X0:=A1 [Ag [0,1,5] [] [99999999999]] (A6 (A1 [mv 6 5,mv 7 0,ln 8 7,bn 9 .lss 6 8] (AS 9 .skip (.exit 0))) (A6 (.block 1 (A1 [mv 12 0,mv 13 5,mv 14 1,ia 15 12 13 1,so 15 14 1] (.reg [mv 16 1,Ae 17 .add 16 1,mv 1 17]))) (.reg [mv 10 5,Ae 11 .add 10 1,mv 5 11])))
def VA:X0:=(A2 [mv 18 1,mv 4 18])
def cc700:X0:=(A1 [A5 4 0] (A6 (A1 [A5 5 0] (Aj 0 Rn)) VA))
def mO:=fun(k_:U→U→(P U)→Q (U × P U))=>∀{v1 v2 v3} {zr},k_ v1 v2 v3=N zr→Kp Z [0,1,5] [] [99999999999] ⟨[pW 0 99999999999,pI 1 v1,pI 5 v2],[],[(99999999999,1,Y rI v3)]⟩ (.code (.loop Rn):: [.blk 0,.code VA]) (E2 [4] (.int .i64 zr.1) [(1,Y rI zr.2)] [(0,0)])
theorem B5z{n:W}:mO (Dq n):=by
 induction n with
 | zero=>intro _ _ _ r h; cases h
 | succ n ih=>
  intro v1 v2 v3 r h σ hσ;rw[Dq] at h;refine Ak ?_;obtain⟨h4,h⟩|⟨h4,h⟩:=ic h
  ·obtain⟨x5,h5,h⟩:=ob h;have h5n:=AE h5;try simp only[hσ,h4,h5,Rn,C,E,F,G,H,J]
   refine AW (row:=rI) (y:=v1) X X h5n X X (by rfl) ?_;try simp only[h4,h5,C,E,F,G,H,J]
   refine ih h ?_;try simp only[h4,h5,C,E,F,G,H,J,I]
  ·try simp only[hσ,h4,Rn,VA,C,E,F,G,H,J]
   cases h;exact⟨⟨X,⟨⟩⟩,⟨⟨⟨_,X,X⟩,X⟩,⟨⟩⟩⟩
theorem sk:Bf Z 66=N (cc700.strip,[4],19):=by kernel_rfl
theorem zk:∀(n:W) (v1 v2:U) (v3:P U) (r:U × P U),Dq n v1 v2 v3=N r→r.2.length=v3.length:=by
 intro n
 induction n with
 | zero=>intro _ _ _ r h; cases h
 | succ n ih=>
  intro v1 v2 v3 r h;rw[Dq] at h;obtain⟨h4,h⟩|⟨h4,h⟩:=ic h
  ·obtain⟨x5,h5,h⟩:=ob h;have hl:=ih _ _ _ _ h;try simp only[zA] at hl
   omega
  ·cases h;all_goals (try dsimp only); first | done | omega | (simp only[zA] at *; omega) | simp_all
theorem Fj{a0}{a1}{r}(h:Ef a0 a1=N r):r.2.length=a0.length:=by
 unfold Ef at h;have hl:=zk _ _ _ _ _ h;try simp only[zA] at hl
 omega
theorem XB{a0}{a1}{r}(h:Ef a0 a1=N r):Cj Z 66 [.sc (.r 0),.sc (.d (.int .i64 a1))] [(1,Y rI a0)] [(1,Y rI r.2)] (.int .i64 r.1):=by
 unfold Ef at h;refine Da (ps:= [(0,0)]) (σ:=⟨[(0,vc (.own 99999999999)),(1,vc (aI a1))],[],[(99999999999,1,Y rI a0)]⟩) A9 sk X X X (B2 Bx) X ?_;simp only[cc700];try simp only[C,E,F,G,H,J]
 refine B5z h ?_;try simp only[C,E,F,G,H,J,I]
/- 147:laws_markCrew -/
def cc703:X0:=(A1 [bo 2 0,A5 4 0] (A1 [fa 5 2 3,ld 6 5,mv 7 1,ca 8 66 [S 6,S 7],mv 1 8] (A2 [mv 9 1,mv 4 9])))
theorem sq:Bf Z 147=N (cc703.strip,[4],10):=by kernel_rfl
theorem Wf{a0}{a1}{r}(h:JT a0 a1=N r):r.2.length=a0.Moves.length:=by
 unfold JT at h;obtain⟨r1,h1,h⟩:=ob h;have lrr1:=(Fj h1);cases h;all_goals (try dsimp only); first | done | omega | (simp only[zA] at *; omega) | simp_all
theorem A9e{a0}{a1}{r}(h:JT a0 a1=N r):Cj Z 147 [.ag [.d (.int .i64 a0.Tugs),.d (.int .i64 a0.Pilots),.d (.int .i64 a0.Rest),.r 0],.sc (.d (.int .i64 a1))] [(1,Y rI a0.Moves)] [(1,Y rI r.2)] (.int .i64 r.1):=by
 unfold JT at h;refine Da (ps:= [(0,3)]) (σ:=⟨[(0,va [aI a0.Tugs,aI a0.Pilots,aI a0.Rest,.own 99999999999]),(1,vc (aI a1))],[],[(99999999999,1,Y rI a0.Moves)]⟩) A9 sq X X X (B2 Bx) X ?_;simp only[cc703];try simp only[C,E,F,G,H,J]
 refine A8 ?_;obtain⟨r1,h1,h⟩:=ob h;try simp only[C,E,F,G,H,J]
 have lrr1:=(Fj h1);refine CW (ids:= [99999999999]) (XB h1) X X X (B2 Bx) (BU (Fj h1) CX) ?_;try simp only[C,E,F,G,H,J]
 cases h;exact⟨⟨X,⟨⟩⟩,⟨⟨⟨_,X,X⟩,X⟩,⟨⟩⟩⟩
/- 56:laws_markHarbour -/
def cc705:X0:=(A1 [bo 2 0,A5 4 0] (A1 [fa 5 2 0,lw 6 5 3,mv 7 1,ca 8 144 [S 6,S 7],mv 1 8] (A1 [fa 9 2 3,lw 10 9 2,mv 11 1,ca 12 145 [S 10,S 11],mv 1 12] (A1 [fa 13 2 5,ld 14 13,mv 15 1,ca 16 146 [S 14,S 15],mv 1 16] (A1 [fa 17 2 8,lw 18 17 4,mv 19 1,ca 20 147 [S 18,S 19],mv 1 20] (A2 [mv 21 1,mv 4 21]))))))
theorem sr:Bf Z 56=N (cc705.strip,[4],22):=by kernel_rfl
theorem IM{a0}{a1}{r}(h:HP a0 a1=N r):r.2.1.length=a0.Forecast.Tide.Parts.length∧r.2.2.1.length=a0.Forecast.Surges.length∧r.2.2.2.1.length=a0.Chart.Points.length∧r.2.2.2.2.1.length=a0.Chart.Segments.length∧r.2.2.2.2.2.1.length=a0.Fleet.length∧r.2.2.2.2.2.2.length=a0.Crew.Moves.length:=by
 unfold HP at h;obtain⟨r1,h1,h⟩:=ob h;have lrr1:=(SQ h1);obtain⟨r2,h2,h⟩:=ob h;have lrr2:=(SP h2);obtain⟨r3,h3,h⟩:=ob h;have lrr3:=(Wj h3);obtain⟨r4,h4,h⟩:=ob h;have lrr4:=(Wf h4);cases h;all_goals (try dsimp only); first | done | omega | (simp only[zA] at *; omega) | simp_all
theorem A9g{a0}{a1}{r}(h:HP a0 a1=N r):Cj Z 56 [.ag [.d (.int .i64 a0.Forecast.Tide.Mean),.r 0,.r 1,.r 2,.r 3,.r 4,.d (.int .i64 a0.Regime.Gap),.d (.bool a0.Regime.NoMeet),.d (.int .i64 a0.Crew.Tugs),.d (.int .i64 a0.Crew.Pilots),.d (.int .i64 a0.Crew.Rest),.r 5],.sc (.d (.int .i64 a1))] [(3,Y zB a0.Forecast.Tide.Parts),(3,Y zC a0.Forecast.Surges),(2,Y X9.row a0.Chart.Points),(5,Y X3.row a0.Chart.Segments),(6,Y X5.row a0.Fleet),(1,Y rI a0.Crew.Moves)] [(3,Y zB r.2.1),(3,Y zC r.2.2.1),(2,Y X9.row r.2.2.2.1),(5,Y X3.row r.2.2.2.2.1),(6,Y X5.row r.2.2.2.2.2.1),(1,Y rI r.2.2.2.2.2.2)] (.int .i64 r.1):=by
 unfold HP at h;refine Da (ps:= [(0,1),(0,2),(0,3),(0,4),(0,5),(0,11)]) (σ:=⟨[(0,va [aI a0.Forecast.Tide.Mean,.own 99999999999,.own 100000000000,.own 100000000001,.own 100000000002,.own 100000000003,aI a0.Regime.Gap,aB a0.Regime.NoMeet,aI a0.Crew.Tugs,aI a0.Crew.Pilots,aI a0.Crew.Rest,.own 100000000004]),(1,vc (aI a1))],[],[(99999999999,3,Y zB a0.Forecast.Tide.Parts),(100000000000,3,Y zC a0.Forecast.Surges),(100000000001,2,Y X9.row a0.Chart.Points),(100000000002,5,Y X3.row a0.Chart.Segments),(100000000003,6,Y X5.row a0.Fleet),(100000000004,1,Y rI a0.Crew.Moves)]⟩) A9 sr X X X (B2 (B2 (B2 (B2 (B2 (B2 Bx)))))) X ?_;simp only[cc705];try simp only[C,E,F,G,H,J]
 refine A8 ?_;obtain⟨r1,h1,h⟩:=ob h;try simp only[C,E,F,G,H,J]
 have lrr1:=(SQ h1);refine CW (ids:= [99999999999,100000000000]) (A9f h1) X X X (B2 (B2 Bx)) (BU (SQ h1).1 (BU (SQ h1).2 CX)) ?_;obtain⟨r2,h2,h⟩:=ob h;try simp only[C,E,F,G,H,J]
 have lrr2:=(SP h2);refine CW (ids:= [100000000001,100000000002]) (A9d h2) X X X (B2 (B2 Bx)) (BU (SP h2).1 (BU (SP h2).2 CX)) ?_;obtain⟨r3,h3,h⟩:=ob h;try simp only[C,E,F,G,H,J]
 have lrr3:=(Wj h3);refine CW (ids:= [100000000003]) (A9m h3) X X X (B2 Bx) (BU (Wj h3) CX) ?_;obtain⟨r4,h4,h⟩:=ob h;try simp only[C,E,F,G,H,J]
 have lrr4:=(Wf h4);refine CW (ids:= [100000000004]) (A9e h4) X X X (B2 Bx) (BU (Wf h4) CX) ?_;try simp only[C,E,F,G,H,J]
 cases h;exact⟨⟨X,⟨⟩⟩,⟨⟨⟨_,X,X⟩,X⟩,⟨⟨⟨_,X,X⟩,X⟩,⟨⟨⟨_,X,X⟩,X⟩,⟨⟨⟨_,X,X⟩,X⟩,⟨⟨⟨_,X,X⟩,X⟩,⟨⟨⟨_,X,X⟩,X⟩,⟨⟩⟩⟩⟩⟩⟩⟩⟩
/- 65:laws_markCallS -/
def Ro:X0:=A1 [Ag [0,1,5] [] [99999999999]] (A6 (A1 [mv 6 5,mv 7 0,ln 8 7,bn 9 .lss 6 8] (AS 9 .skip (.exit 0))) (A6 (.block 1 (A1 [mv 12 0,mv 13 5,mv 14 1,ia 15 12 13 5,fa 16 15 0,so 16 14 1] (A1 [mv 17 1,Ae 18 .add 17 1,mv 1 18] (A1 [mv 19 0,mv 20 5,mv 21 1,ia 22 19 20 5,fa 23 22 1,so 23 21 1] (A1 [mv 24 1,Ae 25 .add 24 1,mv 1 25] (A1 [mv 26 0,mv 27 5,mv 28 1,ia 29 26 27 5,fa 30 29 2,so 30 28 1] (A1 [mv 31 1,Ae 32 .add 31 1,mv 1 32] (A1 [mv 33 0,mv 34 5,mv 35 1,ia 36 33 34 5,fa 37 36 3,so 37 35 1] (A1 [mv 38 1,Ae 39 .add 38 1,mv 1 39] (A1 [mv 40 0,mv 41 5,mv 42 1,ia 43 40 41 5,fa 44 43 4,so 44 42 1] (.reg [mv 45 1,Ae 46 .add 45 1,mv 1 46]))))))))))) (.reg [mv 10 5,Ae 11 .add 10 1,mv 5 11])))
def VB:X0:=(A2 [mv 47 1,mv 4 47])
def cc709:X0:=(A1 [A5 4 0] (A6 (A1 [A5 5 0] (Aj 0 Ro)) VB))
def mN:=fun(k_:U→U→(P Xa)→Q (U × P Xa))=>∀{v1 v2 v3} {zr},k_ v1 v2 v3=N zr→Kp Z [0,1,5] [] [99999999999] ⟨[pW 0 99999999999,pI 1 v1,pI 5 v2],[],[(99999999999,5,Y zD v3)]⟩ (.code (.loop Ro):: [.blk 0,.code VB]) (E2 [4] (.int .i64 zr.1) [(5,Y zD zr.2)] [(0,0)])
theorem B50{n:W}:mN (F0 n):=by
 induction n with
 | zero=>intro _ _ _ r h; cases h
 | succ n ih=>
  intro v1 v2 v3 r h σ hσ;rw[F0] at h;refine Ak ?_;obtain⟨h4,h⟩|⟨h4,h⟩:=ic h
  ·obtain⟨x5,h5,h⟩:=ob h;have h5n:=AE h5;try simp only[hσ,h4,h5,Ro,C,E,F,G,H,J]
   refine AW (row:=zD) (y:=(⟨v1,x5.From,x5.To,x5.Ready,x5.Due⟩:Xa)) X X h5n X X (by rfl) ?_;obtain⟨x6,h6,h⟩:=ob h;have h6n:=AE h6;try simp only[h4,h5,h6,C,E,F,G,H,J]
   refine AW (row:=zD) (y:=(⟨x6.Ship,(zI .i64 (v1+(1:U))),x6.To,x6.Ready,x6.Due⟩:Xa)) X X h6n X X (by rfl) ?_;obtain⟨x7,h7,h⟩:=ob h;have h7n:=AE h7;try simp only[h4,h5,h6,h7,C,E,F,G,H,J]
   refine AW (row:=zD) (y:=(⟨x7.Ship,x7.From,(zI .i64 ((zI .i64 (v1+(1:U)))+(1:U))),x7.Ready,x7.Due⟩:Xa)) X X h7n X X (by rfl) ?_;obtain⟨x8,h8,h⟩:=ob h;have h8n:=AE h8;try simp only[h4,h5,h6,h7,h8,C,E,F,G,H,J]
   refine AW (row:=zD) (y:=(⟨x8.Ship,x8.From,x8.To,(zI .i64 ((zI .i64 ((zI .i64 (v1+(1:U)))+(1:U)))+(1:U))),x8.Due⟩:Xa)) X X h8n X X (by rfl) ?_;obtain⟨x9,h9,h⟩:=ob h;have h9n:=AE h9;try simp only[h4,h5,h6,h7,h8,h9,C,E,F,G,H,J]
   refine AW (row:=zD) (y:=(⟨x9.Ship,x9.From,x9.To,x9.Ready,(zI .i64 ((zI .i64 ((zI .i64 ((zI .i64 (v1+(1:U)))+(1:U)))+(1:U)))+(1:U)))⟩:Xa)) X X h9n X X (by rfl) ?_;try simp only[h4,h5,h6,h7,h8,h9,C,E,F,G,H,J]
   refine ih h ?_;try simp only[h4,h5,h6,h7,h8,h9,C,E,F,G,H,J,I]
  ·try simp only[hσ,h4,Ro,VB,C,E,F,G,H,J]
   cases h;exact⟨⟨X,⟨⟩⟩,⟨⟨⟨_,X,X⟩,X⟩,⟨⟩⟩⟩
theorem ss:Bf Z 65=N (cc709.strip,[4],48):=by kernel_rfl
theorem zj:∀(n:W) (v1 v2:U) (v3:P Xa) (r:U × P Xa),F0 n v1 v2 v3=N r→r.2.length=v3.length:=by
 intro n
 induction n with
 | zero=>intro _ _ _ r h; cases h
 | succ n ih=>
  intro v1 v2 v3 r h;rw[F0] at h;obtain⟨h4,h⟩|⟨h4,h⟩:=ic h
  ·obtain⟨x5,h5,h⟩:=ob h;obtain⟨x6,h6,h⟩:=ob h;obtain⟨x7,h7,h⟩:=ob h;obtain⟨x8,h8,h⟩:=ob h;obtain⟨x9,h9,h⟩:=ob h;have hl:=ih _ _ _ _ h;try simp only[zA] at hl
   omega
  ·cases h;all_goals (try dsimp only); first | done | omega | (simp only[zA] at *; omega) | simp_all
theorem fI{a0}{a1}{r}(h:JR a0 a1=N r):r.2.length=a0.length:=by
 unfold JR at h;have hl:=zj _ _ _ _ _ h;try simp only[zA] at hl
 omega
theorem A9c{a0}{a1}{r}(h:JR a0 a1=N r):Cj Z 65 [.sc (.r 0),.sc (.d (.int .i64 a1))] [(5,Y zD a0)] [(5,Y zD r.2)] (.int .i64 r.1):=by
 unfold JR at h;refine Da (ps:= [(0,0)]) (σ:=⟨[(0,vc (.own 99999999999)),(1,vc (aI a1))],[],[(99999999999,5,Y zD a0)]⟩) A9 ss X X X (B2 Bx) X ?_;simp only[cc709];try simp only[C,E,F,G,H,J]
 refine B50 h ?_;try simp only[C,E,F,G,H,J,I]
/- 148:laws_markPassageS_d -/
def Rp:X0:=A1 [Ag [0,1,5] [] []] (A6 (A1 [mv 6 5,mv 7 0,ln 8 7,bn 9 .lss 6 8] (AS 9 .skip (.exit 0))) (A6 (.block 1 (A1 [mv 12 0,mv 13 5,mv 14 1,ia 15 12 13 5,fa 16 15 0,so 16 14 1] (A1 [mv 17 1,Ae 18 .add 17 1,mv 1 18] (A1 [mv 19 0,mv 20 5,mv 21 1,ia 22 19 20 5,fa 23 22 1,so 23 21 1] (A1 [mv 24 1,Ae 25 .add 24 1,mv 1 25] (A1 [mv 26 0,mv 27 5,mv 28 1,Ae 29 .rem 28 3,Ae 30 .eql 29 0,ia 31 26 27 5,fa 32 31 2,so 32 30 1] (A1 [mv 33 1,Ae 34 .add 33 1,mv 1 34] (A1 [mv 35 0,mv 36 5,mv 37 1,ia 38 35 36 5,fa 39 38 3,so 39 37 1] (A1 [mv 40 1,Ae 41 .add 40 1,mv 1 41] (A1 [mv 42 0,mv 43 5,mv 44 1,ia 45 42 43 5,fa 46 45 4,so 46 44 1] (.reg [mv 47 1,Ae 48 .add 47 1,mv 1 48]))))))))))) (.reg [mv 10 5,Ae 11 .add 10 1,mv 5 11])))
def VC:X0:=(A2 [mv 49 1,mv 4 49])
def cc714:X0:=(A1 [A5 4 0] (A6 (A1 [A5 5 0] (Aj 0 Rp)) VC))
def mR:=fun a0 (k_:U→U→Q U)=>∀{v1 v2} {zr},k_ v1 v2=N zr→Kp Z [0,1,5] [] [] ⟨[(0,vc (.vol (.sl (Y X1.row a0)))),pI 1 v1,pI 5 v2],[],[]⟩ (.code (.loop Rp):: [.blk 0,.code VC]) (P4 [4] (.int .i64 zr))
theorem B51{a0}{n:W}:mR a0 (HR a0 n):=by
 induction n with
 | zero=>intro _ _ r h; cases h
 | succ n ih=>
  intro v1 v2 r h σ hσ;rw[HR] at h;refine Ak ?_;obtain⟨h3,h⟩|⟨h3,h⟩:=ic h
  ·obtain⟨x4,h4,h⟩:=ob h;try simp only[hσ,h3,h4,Rp,C,E,F,G,H,J]
   refine ih h ?_;try simp only[h3,h4,C,E,F,G,H,J,I]
  ·try simp only[hσ,h3,Rp,VC,C,E,F,G,H,J]
   cases h;trivial
theorem su:Bf Z 148=N (cc714.strip,[4],50):=by kernel_rfl
theorem A9j{a0}{a1}{r}(h:RW a0 a1=N r):FCd Z 148 [.v (.sc (.sl (Y X1.row a0))),.d (.int .i64 a1)] (.int .i64 r):=by
 unfold RW at h;refine XX (σ:=⟨[(0,vc (.vol (.sl (Y X1.row a0)))),(1,vc (aI a1))],[],[]⟩) A9 su X X X ?_;simp only[cc714];try simp only[C,E,F,G,H,J]
 refine B51 h ?_;try simp only[C,E,F,G,H,J,I]
/- 58:laws_markOptionS_d -/
def Rq:X0:=A1 [Ag [0,1,5] [] []] (A6 (A1 [mv 6 5,mv 7 0,ln 8 7,bn 9 .lss 6 8] (AS 9 .skip (.exit 0))) (A6 (.block 1 (A1 [mv 12 0,mv 13 5,mv 14 1,ia 15 12 13 4,fa 16 15 0,so 16 14 1] (A1 [mv 17 1,Ae 18 .add 17 1,mv 1 18] (A1 [mv 19 0,mv 20 5,mv 21 1,ia 22 19 20 4,fa 23 22 1,so 23 21 1] (A1 [mv 24 1,Ae 25 .add 24 1,mv 1 25] (A1 [mv 26 0,mv 27 5,mv 28 1,ia 29 26 27 4,fa 30 29 2,so 30 28 1] (A1 [mv 31 1,Ae 32 .add 31 1,mv 1 32] (.reg [mv 33 0,mv 34 5,ia 35 33 34 4,fa 36 35 3,ld 37 36,mv 38 1,ca 39 148 [S 37,S 38],mv 1 39])))))))) (.reg [mv 10 5,Ae 11 .add 10 1,mv 5 11])))
def VD:X0:=(A2 [mv 40 1,mv 4 40])
def cc719:X0:=(A1 [A5 4 0] (A6 (A1 [A5 5 0] (Aj 0 Rq)) VD))
def mP:=fun a0 (k_:U→U→Q U)=>∀{v1 v2} {zr},k_ v1 v2=N zr→Kp Z [0,1,5] [] [] ⟨[(0,vc (.vol (.sl (Y X2.row a0)))),pI 1 v1,pI 5 v2],[],[]⟩ (.code (.loop Rq):: [.blk 0,.code VD]) (P4 [4] (.int .i64 zr))
theorem B52{a0}{n:W}:mP a0 (HQ a0 n):=by
 induction n with
 | zero=>intro _ _ r h; cases h
 | succ n ih=>
  intro v1 v2 r h σ hσ;rw[HQ] at h;refine Ak ?_;obtain⟨h3,h⟩|⟨h3,h⟩:=ic h
  ·obtain⟨x4,h4,h⟩:=ob h;obtain⟨r5,h5,h⟩:=ob h;try simp only[hσ,h3,h4,Rq,C,E,F,G,H,J]
   refine vH (A9j h5) X ?_;try simp only[h3,h4,C,E,F,G,H,J]
   refine ih h ?_;try simp only[h3,h4,C,E,F,G,H,J,I]
  ·try simp only[hσ,h3,Rq,VD,C,E,F,G,H,J]
   cases h;trivial
theorem sv:Bf Z 58=N (cc719.strip,[4],41):=by kernel_rfl
theorem A9h{a0}{a1}{r}(h:RU a0 a1=N r):FCd Z 58 [.v (.sc (.sl (Y X2.row a0))),.d (.int .i64 a1)] (.int .i64 r):=by
 unfold RU at h;refine XX (σ:=⟨[(0,vc (.vol (.sl (Y X2.row a0)))),(1,vc (aI a1))],[],[]⟩) A9 sv X X X ?_;simp only[cc719];try simp only[C,E,F,G,H,J]
 refine B52 h ?_;try simp only[C,E,F,G,H,J,I]
/- 72:laws_markAccount -/
def cc722:X0:=(A1 [bo 2 0,A5 4 0] (A1 [fa 5 2 0,ld 6 5,mv 7 1,ca 8 66 [S 6,S 7],mv 1 8] (A1 [fa 9 2 1,ld 10 9,mv 11 1,ca 12 66 [S 10,S 11],mv 1 12] (A2 [mv 13 1,mv 4 13]))))
theorem sw:Bf Z 72=N (cc722.strip,[4],14):=by kernel_rfl
theorem We{a0}{a1}{r}(h:HO a0 a1=N r):r.2.1.length=a0.Waits.length∧r.2.2.length=a0.Calls.length:=by
 unfold HO at h;obtain⟨r1,h1,h⟩:=ob h;have lrr1:=(Fj h1);obtain⟨r2,h2,h⟩:=ob h;have lrr2:=(Fj h2);cases h;all_goals (try dsimp only); first | done | omega | (simp only[zA] at *; omega) | simp_all
theorem A9b{a0}{a1}{r}(h:HO a0 a1=N r):Cj Z 72 [.ag [.r 0,.r 1],.sc (.d (.int .i64 a1))] [(1,Y rI a0.Waits),(1,Y rI a0.Calls)] [(1,Y rI r.2.1),(1,Y rI r.2.2)] (.int .i64 r.1):=by
 unfold HO at h;refine Da (ps:= [(0,0),(0,1)]) (σ:=⟨[(0,va [.own 99999999999,.own 100000000000]),(1,vc (aI a1))],[],[(99999999999,1,Y rI a0.Waits),(100000000000,1,Y rI a0.Calls)]⟩) A9 sw X X X (B2 (B2 Bx)) X ?_;simp only[cc722];try simp only[C,E,F,G,H,J]
 refine A8 ?_;obtain⟨r1,h1,h⟩:=ob h;try simp only[C,E,F,G,H,J]
 have lrr1:=(Fj h1);refine CW (ids:= [99999999999]) (XB h1) X X X (B2 Bx) (BU (Fj h1) CX) ?_;obtain⟨r2,h2,h⟩:=ob h;try simp only[C,E,F,G,H,J]
 have lrr2:=(Fj h2);refine CW (ids:= [100000000000]) (XB h2) X X X (B2 Bx) (BU (Fj h2) CX) ?_;try simp only[C,E,F,G,H,J]
 cases h;exact⟨⟨X,⟨⟩⟩,⟨⟨⟨_,X,X⟩,X⟩,⟨⟨⟨_,X,X⟩,X⟩,⟨⟩⟩⟩⟩
/- 67:laws_heldIntS -/
def LC:X0:=A1 [Ag [0,1,5] [] []] (A6 (A1 [mv 6 5,mv 7 0,ln 8 7,bn 9 .lss 6 8] (AS 9 .skip (.exit 0))) (A6 (.block 1 (Ab [mv 12 0,mv 13 5,ia 14 12 13 1,ld 15 14,mv 16 1,bn 17 .neq 15 16] 17 (A2 [A5 4 (-1)]) (.reg [mv 18 1,Ae 19 .add 18 1,mv 1 19]))) (.reg [mv 10 5,Ae 11 .add 10 1,mv 5 11])))
def VE:X0:=(A2 [mv 20 1,mv 4 20])
def dJ:X0:=(A1 [A5 4 0] (A6 (A1 [A5 5 0] (Aj 0 LC)) VE))
def mM:=fun a0 (k_:U→U→Q U)=>∀{v1 v2} {zr},k_ v1 v2=N zr→Kp Z [0,1,5] [] [] ⟨[pL 0 rI a0,pI 1 v1,pI 5 v2],[],[]⟩ (.code (.loop LC):: [.blk 0,.code VE]) (Ah [4] [.sc (.v (.int .i64 zr))])
theorem B53{a0}{n:W}:mM a0 (HN a0 n):=by
 induction n with
 | zero=>intro _ _ r h; cases h
 | succ n ih=>
  intro v1 v2 r h σ hσ;rw[HN] at h;refine Ak ?_;obtain⟨h3,h⟩|⟨h3,h⟩:=ic h
  ·obtain⟨x4,h4,h⟩:=ob h;obtain⟨h5,h⟩|⟨h5,h⟩:=ic h
   ·try simp only[hσ,h3,h4,h5,LC,C,E,F,G,H,J]
    cases h;exact t0
   ·try simp only[hσ,h3,h4,h5,LC,C,E,F,G,H,J]
    refine ih h ?_;try simp only[h3,h4,h5,C,E,F,G,H,J,I]
  ·try simp only[hσ,h3,LC,VE,C,E,F,G,H,J]
   cases h;exact t0
theorem jG{a0}{a1}{r}(h:JQ a0 a1=N r):FC Z 67 [.sc (.sl (Y rI a0)),.sc (.int .i64 a1)] [.sc (.v (.int .i64 r))]:=by
 unfold JQ at h;refine Aa A9 dJ [4] 21 ?_;simp only[dJ,C,E,F,G,H,J];try simp only[C,E,F,G,H,J]
 refine B53 h ?_;try simp only[C,E,F,G,H,J,I]
/- 73:laws_heldAccount -/
def dK:X0:=(A1 [bo 2 0,A5 4 0] (A1 [fa 5 2 0,ld 6 5,mv 7 1,ca 8 67 [S 6,S 7],mv 1 8] (Ab [mv 9 1,Ae 10 .lss 9 0] 10 (A2 [A5 4 (-1)]) (A1 [fa 11 2 1,ld 12 11,mv 13 1,ca 14 67 [S 12,S 13],mv 1 14] (Ab [mv 15 1,Ae 16 .lss 15 0] 16 (A2 [A5 4 (-1)]) (A2 [mv 17 1,mv 4 17]))))))
theorem jF{a0}{a1}{r}(h:JP a0 a1=N r):FC Z 73 [.ag (Xh.row a0),.sc (.int .i64 a1)] [.sc (.v (.int .i64 r))]:=by
 unfold JP at h;refine Aa A9 dK [4] 18 ?_;simp only[dK,C,E,F,G,H,J];try simp only[C,E,F,G,H,J]
 refine A8 ?_;obtain⟨r1,h1,h⟩:=ob h;try simp only[C,E,F,G,H,J]
 refine A4 (jG h1) ?_;obtain⟨h2,h⟩|⟨h2,h⟩:=ic h
 ·try simp only[h2,C,E,F,G,H,J]
  cases h;exact t0
 ·obtain⟨r3,h3,h⟩:=ob h;try simp only[h2,C,E,F,G,H,J]
  refine A4 (jG h3) ?_;obtain⟨h4,h⟩|⟨h4,h⟩:=ic h
  ·try simp only[h2,h4,C,E,F,G,H,J]
   cases h;exact t0
  ·try simp only[h2,h4,C,E,F,G,H,J]
   cases h;exact t0
/- 9:laws_FnExactAccountOf -/
def cc729:X0:=(A1 [bo 3 0,A3 6 L] (A1 [A5 7 1048576] (A1 [lw 20 3 12,mv 21 7,ca 22 47 [S 20,S 21],mv 7 22] (Ab [mv 23 7,Ae 24 .lss 23 0] 24 (A2 [A3 6 T]) (A1 [mv 25 1,mv 26 7,ca 27 60 [S 25,S 26],mv 7 27] (Ab [mv 28 7,Ae 29 .lss 28 0] 29 (A2 [A3 6 T]) (A1 [mv 30 2,mv 31 7,ca 32 68 [S 30,S 31],mv 7 32] (Ab [mv 33 7,Ae 34 .lss 33 0] 34 (A2 [A3 6 T]) (A1 [lw 36 3 12,ca 37 50 [S 36],mv 38 1,ca 39 62 [S 38],mv 40 2,ca 41 70 [S 40],ca 42 69 [S 37,S 39,S 41],mv 35 42,xt 43 35 0,xt 44 35 1,Ai 8 [.nil,.nil],so 8 43 2,mv 9 44] (A1 [lw 45 3 12,ca 46 50 [S 45],Ai 10 [aI 0,.nil,.nil,.nil,.nil,.nil,aI 0,aB L,aI 0,aI 0,aI 0,.nil],so 10 46 12] (A1 [mv 47 1,ca 48 62 [S 47],mv 11 48] (A1 [mv 49 2,ca 50 70 [S 49],mv 12 50] (A1 [lw 52 10 12,mv 53 11,mv 54 12,ca 55 30 [S 52,S 53,S 54],mv 51 55,xt 56 51 0,xt 57 51 1,Ai 13 [.nil,.nil],so 13 56 2,mv 14 57] (Ab [lw 58 13 2,lw 59 8 2,ca 60 71 [S 58,S 59],nt 61 60,mv 62 61,Af 62 L 63 14,Af 62 L 64 9,(N (62,L),.beq 65 T (S 63) (S 64)),po 66 62 65] 66 (A2 [A3 6 L]) (A6 (A6 (.drw [(N [69],lw 67 10 12),o0 (lw 68 3 12),o0 (ca 69 50 [S 68]),o0 (ca 70 54 [S 67,S 69]),o0 (nt 71 70)]) (At 71 (A2 [A3 6 L]))) (Ab [mv 72 11,mv 73 1,ca 74 62 [S 73],ca 75 64 [S 72,S 74],nt 76 75] 76 (A2 [A3 6 L]) (Ab [mv 77 12,mv 78 2,ca 79 70 [S 78],ca 80 53 [S 77,S 79],nt 81 80] 81 (A2 [A3 6 L]) (A1 [A5 15 1] (A1 [lw 82 10 12,mv 83 15,ca 84 56 [S 82,S 83],mv 15 84] (A1 [mv 85 11,mv 86 15,ca 87 65 [S 85,S 86],mv 15 87] (A1 [mv 88 12,mv 89 15,(O,.frz 2624),(O,.frz 3200),(O,.frz 5056),ca 90 58 [S 88,S 89],mv 15 90] (Ab [mv 91 15,Ae 92 .lss 91 0,mv 93 92,AL 93 L 94 13 2,AL 93 L 95 8 2,Am 93 L 96 71 [S 94,S 95],AM 93 L 97 96,po 98 93 97,mv 99 98,Af 99 L 100 14,Af 99 L 101 9,(N (99,L),.beq 102 T (S 100) (S 101)),po 103 99 102] 103 (A2 [A3 6 L]) (A1 [A5 16 1] (A1 [lw 104 13 2,mv 105 16,ca 106 72 [S 104,S 105],mv 16 106] (A1 [A5 17 1] (A1 [lw 107 13 2,mv 108 17,ca 109 73 [S 107,S 108],mv 17 109] (Ab [mv 110 17,Ae 111 .lss 110 0] 111 (A2 [A3 6 L]) (Ab [mv 112 17,mv 113 16,bn 114 .neq 112 113] 114 (A2 [A3 6 L]) (A1 [lw 116 3 12,ca 117 50 [S 116],mv 118 1,ca 119 62 [S 118],mv 120 2,ca 121 70 [S 120],ca 122 30 [S 117,S 119,S 121],mv 115 122,xt 123 115 0,xt 124 115 1,Ai 18 [.nil,.nil],so 18 123 2,mv 19 124] (Ab [lw 125 18 2,lw 126 8 2,ca 127 71 [S 125,S 126],nt 128 127,mv 129 128,Af 129 L 130 19,Af 129 L 131 9,(N (129,L),.beq 132 T (S 130) (S 131)),po 133 129 132] 133 (A2 [A3 6 L]) (A1 [A5 17 1] (A1 [lw 134 13 2,mv 135 17,ca 136 73 [S 134,S 135],mv 17 136] (Ab [mv 137 17,Ae 138 .lss 137 0] 138 (A2 [A3 6 L]) (Ab [mv 139 17,mv 140 16,bn 141 .neq 139 140] 141 (A2 [A3 6 L]) (A2 [A3 6 T])))))))))))))))))))))))))))))))))))
theorem sx:Bf Z 9=N (cc729.strip,[6],142):=by kernel_rfl
theorem B19(a0:X7)(a1:P Xa)(a2:P X2)(r:V)(h:Mw a0 a1 a2=N r):FCf Z 9 [.ag (X7.row a0),.sc (.sl (Y zD a1)),.sc (.sl (Y X2.row a2))] [.sc (.v (.bool r))]:=by
 unfold Mw at h;refine XY (σ:=⟨[(0,va [aI a0.Forecast.Tide.Mean,.old (.sl (Y zB a0.Forecast.Tide.Parts)),.old (.sl (Y zC a0.Forecast.Surges)),.old (.sl (Y X9.row a0.Chart.Points)),.old (.sl (Y X3.row a0.Chart.Segments)),.old (.sl (Y X5.row a0.Fleet)),aI a0.Regime.Gap,aB a0.Regime.NoMeet,aI a0.Crew.Tugs,aI a0.Crew.Pilots,aI a0.Crew.Rest,.old (.sl (Y rI a0.Crew.Moves))]),(1,vc (.old (.sl (Y zD a1)))),(2,vc (.old (.sl (Y X2.row a2))))],[],[]⟩) A9 sx X X ?_;simp only[cc729];try simp only[C,E,F,G,H,J]
 refine A8 ?_;obtain⟨r1,h1,h⟩:=ob h;try simp only[C,E,F,G,H,J]
 refine B8 (A9t h1) X (BK X) X (uf X) ?_;obtain⟨h2,h⟩|⟨h2,h⟩:=ic h
 ·try simp only[h2,C,E,F,G,H,J]
  cases h;exact t0
 ·obtain⟨r3,h3,h⟩:=ob h;try simp only[h2,C,E,F,G,H,J]
  refine B8 (A9p h3) X (BK X) X (uf X) ?_;obtain⟨h4,h⟩|⟨h4,h⟩:=ic h
  ·try simp only[h2,h4,C,E,F,G,H,J]
   cases h;exact t0
  ·obtain⟨r5,h5,h⟩:=ob h;try simp only[h2,h4,C,E,F,G,H,J]
   refine B8 (A9w h5) X (BK X) X (uf X) ?_;obtain⟨h6,h⟩|⟨h6,h⟩:=ic h
   ·try simp only[h2,h4,h6,C,E,F,G,H,J]
    cases h;exact t0
   ·obtain⟨r7,h7,h⟩:=ob h;try simp only[h2,h4,h6,C,E,F,G,H,J]
    refine B8 (Td h7) X (BQ X ⟨X,AZ,AZ,AZ,AZ,AZ,X,X,X,X,X,AZ,⟨⟩⟩) X (uf X) ?_;obtain⟨r9,h9,h⟩:=ob h;try simp only[h2,h4,h6,C,E,F,G,H,J]
    refine B8 (Tc h9) X (BQ X ⟨AZ,⟨⟩⟩) X (uf X) ?_;obtain⟨r10,h10,h⟩:=ob h;try simp only[h2,h4,h6,C,E,F,G,H,J]
    refine Su (Te _ _ h10) X X (uf X) ?_;obtain⟨r11,h11,h⟩:=ob h;try simp only[h2,h4,h6,C,E,F,G,H,J]
    refine B8 (B0t h11) X (BQ X ⟨AZ,AZ,X,⟨⟩⟩) X (uf X) ?_;try simp only[h2,h4,h6,C,E,F,G,H,J]
    refine Al ?_;obtain⟨r12,h12,h⟩:=ob h;try simp only[h2,h4,h6,C,E,F,G,H,J]
    refine B8 (Td h12) X (BQ X ⟨X,AZ,AZ,AZ,AZ,AZ,X,X,X,X,X,AZ,⟨⟩⟩) X (uf X) ?_;try simp only[h2,h4,h6,C,E,F,G,H,J]
    refine Al ?_;obtain⟨r13,h13,h⟩:=ob h;try simp only[h2,h4,h6,C,E,F,G,H,J]
    refine B8 (Tc h13) X (BQ X ⟨AZ,⟨⟩⟩) X (uf X) ?_;obtain⟨r14,h14,h⟩:=ob h;try simp only[h2,h4,h6,C,E,F,G,H,J]
    refine Su (Te _ _ h14) X X (uf X) ?_;obtain⟨r15,h15,h⟩:=ob h;try simp only[h2,h4,h6,C,E,F,G,H,J]
    refine B8 (ik h15) X (BQ X ⟨AZ,AZ,X,⟨⟩⟩) X (uf X) ?_;try simp only[h2,h4,h6,C,E,F,G,H,J]
    refine Al ?_;obtain⟨r16,h16,h⟩:=ob h;try simp only[h2,h4,h6,C,E,F,G,H,J]
    refine B8 (Xz h16) X (BK X) X (uf X) ?_;obtain⟨h17,h⟩|⟨h17,h⟩:=ic h
    ·obtain⟨h18,h⟩|⟨h18,h⟩:=ic h
     ·try simp only[h2,h4,h6,h17,h18,C,E,F,G,H,J]
      refine Ao ?_;obtain⟨r19,h19,h⟩:=ob h;try simp only[h2,h4,h6,h17,h18,C,E,F,G,H,J]
      refine IG (Td h19) (by first | rfl | kernel_rfl) (BQ X ⟨X,AZ,AZ,AZ,AZ,AZ,X,X,X,X,X,AZ,⟨⟩⟩) X (uf X) ?_;obtain⟨r20,h20,h⟩:=ob h;try simp only[h2,h4,h6,h17,h18,C,E,F,G,H,J]
      refine IG (A8u h20) (by first | rfl | kernel_rfl) (BK X) X (uf X) ?_;obtain⟨h21,h⟩|⟨h21,h⟩:=ic h
      ·obtain⟨r22,h22,h⟩:=ob h;try simp only[h2,h4,h6,h17,h18,h21,C,E,F,G,H,J]
       refine B8 (Tc h22) X (BQ X ⟨AZ,⟨⟩⟩) X (uf X) ?_;obtain⟨r23,h23,h⟩:=ob h;try simp only[h2,h4,h6,h17,h18,h21,C,E,F,G,H,J]
       refine B8 (A8q h23) X (BK X) X (uf X) ?_;obtain⟨h24,h⟩|⟨h24,h⟩:=ic h
       ·obtain⟨r25,h25,h⟩:=ob h;try simp only[h2,h4,h6,h17,h18,h21,h24,C,E,F,G,H,J]
        refine Su (Te _ _ h25) X X (uf X) ?_;obtain⟨r26,h26,h⟩:=ob h;try simp only[h2,h4,h6,h17,h18,h21,h24,C,E,F,G,H,J]
        refine B8 (A8w h26) X (BK X) X (uf X) ?_;obtain⟨h27,h⟩|⟨h27,h⟩:=ic h
        ·obtain⟨r28,h28,h⟩:=ob h;try simp only[h2,h4,h6,h17,h18,h21,h24,h27,C,E,F,G,H,J]
         have lrr28:=(IM h28);refine CW (ids:= [2945,2946,2947,2948,2949,2955]) (A9g h28) X X X (B2 (B2 (B2 (B2 (B2 (B2 Bx)))))) (BU (IM h28).1 (BU (IM h28).2.1 (BU (IM h28).2.2.1 (BU (IM h28).2.2.2.1 (BU (IM h28).2.2.2.2.1 (BU (IM h28).2.2.2.2.2 CX)))))) ?_;obtain⟨r29,h29,h⟩:=ob h;try simp only[h2,h4,h6,h17,h18,h21,h24,h27,C,E,F,G,H,J]
         have lrr29:=(fI h29);refine CW (ids:= [3072]) (A9c h29) X X X (B2 Bx) (BU (fI h29) CX) ?_;try simp only[h2,h4,h6,h17,h18,h21,h24,h27,C,E,F,G,H,J]
         refine D3 ?_;try simp only[h2,h4,h6,h17,h18,h21,h24,h27,C,E,F,G,H,J]
         refine D3 ?_;try simp only[h2,h4,h6,h17,h18,h21,h24,h27,C,E,F,G,H,J]
         refine D3 ?_;obtain⟨r30,h30,h⟩:=ob h;try simp only[h2,h4,h6,h17,h18,h21,h24,h27,C,E,F,G,H,J]
         refine vJ (A9h h30) 0 X X (by first | exact eH | (repeat (refine uK ?_)); exact eH) ?_;obtain⟨h31,h⟩|⟨h31,h⟩:=ic h
         ·try simp only[h2,h4,h6,h17,h18,h21,h24,h27,h31,C,E,F,G,H,J]
          cases h;exact t0
         ·obtain⟨r32,h32,h⟩:=ob h;try simp only[h2,h4,h6,h17,h18,h21,h24,h27,h31,C,E,F,G,H,J]
          refine B8 (Xz h32) X (BK X) X (uf X) ?_;obtain⟨h33,h⟩|⟨h33,h⟩:=ic h
          ·obtain⟨r34,h34,h⟩:=ob h;try simp only[h2,h4,h6,h17,h18,h21,h24,h27,h31,h33,C,E,F,G,H,J]
           have lrr34:=(We h34);refine CW (ids:= [3520,3521]) (A9b h34) X X X (B2 (B2 Bx)) (BU (We h34).1 (BU (We h34).2 CX)) ?_;obtain⟨r35,h35,h⟩:=ob h;try simp only[h2,h4,h6,h17,h18,h21,h24,h27,h31,h33,C,E,F,G,H,J]
           refine B8 (jF h35) X (BK X) X (uf X) ?_;obtain⟨h36,h⟩|⟨h36,h⟩:=ic h
           ·try simp only[h2,h4,h6,h17,h18,h21,h24,h27,h31,h33,h36,C,E,F,G,H,J]
            cases h;exact t0
           ·obtain⟨h37,h⟩|⟨h37,h⟩:=ic h
            ·try simp only[h2,h4,h6,h17,h18,h21,h24,h27,h31,h33,h36,h37,C,E,F,G,H,J]
             cases h;exact t0
            ·obtain⟨r38,h38,h⟩:=ob h;try simp only[h2,h4,h6,h17,h18,h21,h24,h27,h31,h33,h36,h37,C,E,F,G,H,J]
             refine B8 (Td h38) X (BQ X ⟨X,AZ,AZ,AZ,AZ,AZ,X,X,X,X,X,AZ,⟨⟩⟩) X (uf X) ?_;obtain⟨r39,h39,h⟩:=ob h;try simp only[h2,h4,h6,h17,h18,h21,h24,h27,h31,h33,h36,h37,C,E,F,G,H,J]
             refine B8 (Tc h39) X (BQ X ⟨AZ,⟨⟩⟩) X (uf X) ?_;obtain⟨r40,h40,h⟩:=ob h;try simp only[h2,h4,h6,h17,h18,h21,h24,h27,h31,h33,h36,h37,C,E,F,G,H,J]
             refine Su (Te _ _ h40) X X (uf X) ?_;obtain⟨r41,h41,h⟩:=ob h;try simp only[h2,h4,h6,h17,h18,h21,h24,h27,h31,h33,h36,h37,C,E,F,G,H,J]
             refine B8 (ik h41) X (BQ X ⟨AZ,AZ,X,⟨⟩⟩) X (uf X) ?_;try simp only[h2,h4,h6,h17,h18,h21,h24,h27,h31,h33,h36,h37,C,E,F,G,H,J]
             refine Al ?_;obtain⟨r42,h42,h⟩:=ob h;try simp only[h2,h4,h6,h17,h18,h21,h24,h27,h31,h33,h36,h37,C,E,F,G,H,J]
             refine B8 (Xz h42) X (BK X) X (uf X) ?_;obtain⟨h43,h⟩|⟨h43,h⟩:=ic h
             ·obtain⟨h44,h⟩|⟨h44,h⟩:=ic h
              ·obtain⟨r45,h45,h⟩:=ob h;try simp only[h2,h4,h6,h17,h18,h21,h24,h27,h31,h33,h36,h37,h43,h44,C,E,F,G,H,J]
               refine B8 (jF h45) X (BK X) X (uf X) ?_;obtain⟨h46,h⟩|⟨h46,h⟩:=ic h
               ·try simp only[h2,h4,h6,h17,h18,h21,h24,h27,h31,h33,h36,h37,h43,h44,h46,C,E,F,G,H,J]
                cases h;exact t0
               ·obtain⟨h47,h⟩|⟨h47,h⟩:=ic h
                ·try simp only[h2,h4,h6,h17,h18,h21,h24,h27,h31,h33,h36,h37,h43,h44,h46,h47,C,E,F,G,H,J]
                 cases h;exact t0
                ·try simp only[h2,h4,h6,h17,h18,h21,h24,h27,h31,h33,h36,h37,h43,h44,h46,h47,C,E,F,G,H,J]
                 cases h;exact t0
              ·try simp only[h2,h4,h6,h17,h18,h21,h24,h27,h31,h33,h36,h37,h43,h44,C,E,F,G,H,J]
               cases h;exact t0
             ·try simp only[h2,h4,h6,h17,h18,h21,h24,h27,h31,h33,h36,h37,h43,C,E,F,G,H,J]
              cases h;exact t0
          ·try simp only[h2,h4,h6,h17,h18,h21,h24,h27,h31,h33,C,E,F,G,H,J]
           cases h;exact t0
        ·try simp only[h2,h4,h6,h17,h18,h21,h24,h27,C,E,F,G,H,J]
         cases h;exact t0
       ·try simp only[h2,h4,h6,h17,h18,h21,h24,C,E,F,G,H,J]
        cases h;exact t0
      ·try simp only[h2,h4,h6,h17,h18,h21,C,E,F,G,H,J]
       cases h;exact t0
     ·try simp only[h2,h4,h6,h17,h18,C,E,F,G,H,J]
      cases h;exact t0
    ·try simp only[h2,h4,h6,h17,C,E,F,G,H,J]
     cases h;exact t0
theorem w_laws_FnExactAccountOf(a0:X7)(a1:P Xa)(a2:P X2)(r:V)(h:Mw a0 a1 a2=N r):FC Z 9 [.ag (X7.row a0),.sc (.sl (Y zD a1)),.sc (.sl (Y X2.row a2))] [.sc (.v (.bool r))]:=(B19 a0 a1 a2 r h).fc
end Go.Vi
