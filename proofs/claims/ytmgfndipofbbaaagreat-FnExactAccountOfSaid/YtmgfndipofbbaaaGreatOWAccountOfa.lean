/-
Walks. No condition.
-/
import Derived.Test.YtmgfndipofbbaaaGreatONf
import Derived.Test.YtmgfndipofbbaaaGreatChecked
import Derived.KernelRfl
namespace Go.Vi
open Go.Proofs
set_option linter.all false
set_option maxRecDepth 4000
set_option maxHeartbeats 2000000
open Nat renaming reduceBEq → C, reduceMul → E, reduceAdd → F, reduceDiv → G, le_of_ble_eq_true → uf
open Int renaming reduceBEq → H
attribute [local irreducible] go Bo
open List renaming map_nil → Y, map → I, replicate → zC, all_eq_true → zE
open Tryz renaming prog → Z
open Xd renaming row → zA
open Xb renaming row → zB
open Xa renaming row → zD
open Xc renaming row → zF
open Bool renaming true → T, false → L
open Option renaming some → N, none → O
open _root_ renaming List → P, Option → Q, Int → U, Bool → V, Nat → W, rfl → X
theorem A9:Tryz.prog.follows .mixedOrders=T:=by kernel_rfl
/- 285:laws_szPartS -/
def YM:X0:=(A1 [A5 4 0] (A1 [mv 5 1,mv 6 0,ln 7 6,bn 8 .sub 5 7,mv 1 8] (Ab [mv 9 1,Ae 10 .lss 9 0] 10 (A2 [A5 4 (-1)]) (A2 [mv 11 1,mv 4 11]))))
theorem A9x{a0}{a1}{r}(h:MW a0 a1=N r):FC Z 285 [.sc (.sl (I zA a0)),.sc (.int .i64 a1)] [.sc (.v (.int .i64 r))]:=by
 unfold MW at h;refine Aa A9 YM [4] 12 ?_;simp only[YM,C,E,F,G,H,J];obtain⟨h1,h⟩|⟨h1,h⟩:=ic h
 ·try simp only[h1,C,E,F,G,H,J]
  cases h;exact t0
 ·try simp only[h1,C,E,F,G,H,J]
  cases h;exact t0
/- 212:laws_szTide -/
def YN:X0:=(A1 [bo 2 0,A5 4 0] (A1 [fa 5 2 1,ld 6 5,mv 7 1,ca 8 285 [S 6,S 7],mv 1 8] (Ab [mv 9 1,Ae 10 .lss 9 0] 10 (A2 [A5 4 (-1)]) (A2 [mv 11 1,mv 4 11]))))
theorem A95{a0}{a1}{r}(h:RZ a0 a1=N r):FC Z 212 [.ag (Xj.row a0),.sc (.int .i64 a1)] [.sc (.v (.int .i64 r))]:=by
 unfold RZ at h;refine Aa A9 YN [4] 12 ?_;simp only[YN,C,E,F,G,H,J];try simp only[C,E,F,G,H,J]
 refine A8 ?_;obtain⟨r1,h1,h⟩:=ob h;try simp only[C,E,F,G,H,J]
 refine A4 (A9x h1) ?_;obtain⟨h2,h⟩|⟨h2,h⟩:=ic h
 ·try simp only[h2,C,E,F,G,H,J]
  cases h;exact t0
 ·try simp only[h2,C,E,F,G,H,J]
  cases h;exact t0
/- 213:laws_szSurgeS -/
def Zu:X0:=(A1 [A5 4 0] (A1 [mv 5 1,mv 6 0,ln 7 6,bn 8 .sub 5 7,mv 1 8] (Ab [mv 9 1,Ae 10 .lss 9 0] 10 (A2 [A5 4 (-1)]) (A2 [mv 11 1,mv 4 11]))))
theorem A94{a0}{a1}{r}(h:N2 a0 a1=N r):FC Z 213 [.sc (.sl (I zB a0)),.sc (.int .i64 a1)] [.sc (.v (.int .i64 r))]:=by
 unfold N2 at h;refine Aa A9 Zu [4] 12 ?_;simp only[Zu,C,E,F,G,H,J];obtain⟨h1,h⟩|⟨h1,h⟩:=ic h
 ·try simp only[h1,C,E,F,G,H,J]
  cases h;exact t0
 ·try simp only[h1,C,E,F,G,H,J]
  cases h;exact t0
/- 123:laws_szForecast -/
def ZY:X0:=(A1 [bo 2 0,A5 4 0] (A1 [fa 5 2 0,lw 6 5 2,mv 7 1,ca 8 212 [S 6,S 7],mv 1 8] (Ab [mv 9 1,Ae 10 .lss 9 0] 10 (A2 [A5 4 (-1)]) (A1 [fa 11 2 2,ld 12 11,mv 13 1,ca 14 213 [S 12,S 13],mv 1 14] (Ab [mv 15 1,Ae 16 .lss 15 0] 16 (A2 [A5 4 (-1)]) (A2 [mv 17 1,mv 4 17]))))))
theorem A9s{a0}{a1}{r}(h:MR a0 a1=N r):FC Z 123 [.ag (zF a0),.sc (.int .i64 a1)] [.sc (.v (.int .i64 r))]:=by
 unfold MR at h;refine Aa A9 ZY [4] 18 ?_;simp only[ZY,C,E,F,G,H,J];try simp only[C,E,F,G,H,J]
 refine A8 ?_;obtain⟨r1,h1,h⟩:=ob h;try simp only[C,E,F,G,H,J]
 refine A4 (A95 h1) ?_;obtain⟨h2,h⟩|⟨h2,h⟩:=ic h
 ·try simp only[h2,C,E,F,G,H,J]
  cases h;exact t0
 ·obtain⟨r3,h3,h⟩:=ob h;try simp only[h2,C,E,F,G,H,J]
  refine A4 (A94 h3) ?_;obtain⟨h4,h⟩|⟨h4,h⟩:=ic h
  ·try simp only[h2,h4,C,E,F,G,H,J]
   cases h;exact t0
  ·try simp only[h2,h4,C,E,F,G,H,J]
   cases h;exact t0
/- 286:laws_szPoint -/
def aw:X0:=(A1 [bo 2 0,A5 4 0] (A1 [mv 5 1,fa 6 2 0,ld 7 6,(O,.slen 8 (S 7)),bn 9 .sub 5 8,mv 1 9] (Ab [mv 10 1,Ae 11 .lss 10 0] 11 (A2 [A5 4 (-1)]) (A2 [mv 12 1,mv 4 12]))))
theorem A9z{a0}{a1}{r}(h:MX a0 a1=N r):FC Z 286 [.ag (X9.row a0),.sc (.int .i64 a1)] [.sc (.v (.int .i64 r))]:=by
 unfold MX at h;refine Aa A9 aw [4] 13 ?_;simp only[aw,C,E,F,G,H,J];try simp only[C,E,F,G,H,J]
 refine A8 ?_;obtain⟨h1,h⟩|⟨h1,h⟩:=ic h
 ·try simp only[h1,C,E,F,G,H,J]
  cases h;exact t0
 ·try simp only[h1,C,E,F,G,H,J]
  cases h;exact t0
/- 214:laws_szPointS -/
def QG:X0:=A1 [Ag [0,1,5] [] []] (A6 (A1 [mv 12 5,mv 13 0,ln 14 13,bn 15 .lss 12 14] (AS 15 .skip (.exit 0))) (A6 (.block 1 (A1 [mv 18 0,mv 19 5,ia 20 18 19 2,lw 21 20 2,mv 22 1,ca 23 286 [S 21,S 22],mv 1 23] (A1 [mv 24 1,Ae 25 .lss 24 0] (At 25 (A2 [A5 4 (-1)]))))) (.reg [mv 16 5,Ae 17 .add 16 1,mv 5 17])))
def Vf:X0:=(A2 [mv 26 1,mv 4 26])
def dH:X0:=(A1 [A5 4 0] (A1 [mv 6 1,mv 7 0,ln 8 7,bn 9 .sub 6 8,mv 1 9] (Ab [mv 10 1,Ae 11 .lss 10 0] 11 (A2 [A5 4 (-1)]) (A6 (A1 [A5 5 0] (Aj 0 QG)) Vf))))
def mY:=fun a0 (k_:U→U→Q U)=>∀{v2 v3} {zr},k_ v2 v3=N zr→Kp Z [0,1,5] [] [] ⟨[pL 0 X9.row a0,pI 1 v2,pI 5 v3],[],[]⟩ (.code (.loop QG):: [.blk 0,.code Vf]) (Ah [4] [.sc (.v (.int .i64 zr))])
theorem ww8{a0}{n:W}:mY a0 (FW a0 n):=by
 induction n with
 | zero=>intro _ _ r h; cases h
 | succ n ih=>
  intro v2 v3 r h σ hσ;rw[FW] at h;refine Ak ?_;obtain⟨h4,h⟩|⟨h4,h⟩:=ic h
  ·obtain⟨x5,h5,h⟩:=ob h;obtain⟨r6,h6,h⟩:=ob h;try simp only[hσ,h4,h5,QG,C,E,F,G,H,J]
   refine A4 (A9z h6) ?_;obtain⟨h7,h⟩|⟨h7,h⟩:=ic h
   ·try simp only[h4,h5,h7,C,E,F,G,H,J]
    cases h;exact t0
   ·try simp only[h4,h5,h7,C,E,F,G,H,J]
    refine ih h ?_;try simp only[h4,h5,h7,C,E,F,G,H,J,Y]
  ·try simp only[hσ,h4,QG,Vf,C,E,F,G,H,J]
   cases h;exact t0
theorem A90{a0}{a1}{r}(h:MY a0 a1=N r):FC Z 214 [.sc (.sl (I X9.row a0)),.sc (.int .i64 a1)] [.sc (.v (.int .i64 r))]:=by
 unfold MY at h;refine Aa A9 dH [4] 27 ?_;simp only[dH,C,E,F,G,H,J];obtain⟨h1,h⟩|⟨h1,h⟩:=ic h
 ·try simp only[h1,C,E,F,G,H,J]
  cases h;exact t0
 ·try simp only[h1,C,E,F,G,H,J]
  refine ww8 h ?_;try simp only[h1,C,E,F,G,H,J,Y]
/- 215:laws_szSegmentS -/
def dQ:X0:=(A1 [A5 4 0] (A1 [mv 5 1,mv 6 0,ln 7 6,bn 8 .sub 5 7,mv 1 8] (Ab [mv 9 1,Ae 10 .lss 9 0] 10 (A2 [A5 4 (-1)]) (A2 [mv 11 1,mv 4 11]))))
theorem A91{a0}{a1}{r}(h:MZ a0 a1=N r):FC Z 215 [.sc (.sl (I X3.row a0)),.sc (.int .i64 a1)] [.sc (.v (.int .i64 r))]:=by
 unfold MZ at h;refine Aa A9 dQ [4] 12 ?_;simp only[dQ,C,E,F,G,H,J];obtain⟨h1,h⟩|⟨h1,h⟩:=ic h
 ·try simp only[h1,C,E,F,G,H,J]
  cases h;exact t0
 ·try simp only[h1,C,E,F,G,H,J]
  cases h;exact t0
/- 124:laws_szChart -/
def YO:X0:=(A1 [bo 2 0,A5 4 0] (A1 [fa 5 2 0,ld 6 5,mv 7 1,ca 8 214 [S 6,S 7],mv 1 8] (Ab [mv 9 1,Ae 10 .lss 9 0] 10 (A2 [A5 4 (-1)]) (A1 [fa 11 2 1,ld 12 11,mv 13 1,ca 14 215 [S 12,S 13],mv 1 14] (Ab [mv 15 1,Ae 16 .lss 15 0] 16 (A2 [A5 4 (-1)]) (A2 [mv 17 1,mv 4 17]))))))
theorem A9q{a0}{a1}{r}(h:MQ a0 a1=N r):FC Z 124 [.ag (X6.row a0),.sc (.int .i64 a1)] [.sc (.v (.int .i64 r))]:=by
 unfold MQ at h;refine Aa A9 YO [4] 18 ?_;simp only[YO,C,E,F,G,H,J];try simp only[C,E,F,G,H,J]
 refine A8 ?_;obtain⟨r1,h1,h⟩:=ob h;try simp only[C,E,F,G,H,J]
 refine A4 (A90 h1) ?_;obtain⟨h2,h⟩|⟨h2,h⟩:=ic h
 ·try simp only[h2,C,E,F,G,H,J]
  cases h;exact t0
 ·obtain⟨r3,h3,h⟩:=ob h;try simp only[h2,C,E,F,G,H,J]
  refine A4 (A91 h3) ?_;obtain⟨h4,h⟩|⟨h4,h⟩:=ic h
  ·try simp only[h2,h4,C,E,F,G,H,J]
   cases h;exact t0
  ·try simp only[h2,h4,C,E,F,G,H,J]
   cases h;exact t0
/- 216:laws_szShip -/
def YR:X0:=(A1 [bo 2 0,A5 4 0] (A1 [mv 5 1,fa 6 2 0,ld 7 6,(O,.slen 8 (S 7)),bn 9 .sub 5 8,mv 1 9] (Ab [mv 10 1,Ae 11 .lss 10 0] 11 (A2 [A5 4 (-1)]) (A2 [mv 12 1,mv 4 12]))))
theorem A92{a0}{a1}{r}(h:N0 a0 a1=N r):FC Z 216 [.ag (X5.row a0),.sc (.int .i64 a1)] [.sc (.v (.int .i64 r))]:=by
 unfold N0 at h;refine Aa A9 YR [4] 13 ?_;simp only[YR,C,E,F,G,H,J];try simp only[C,E,F,G,H,J]
 refine A8 ?_;obtain⟨h1,h⟩|⟨h1,h⟩:=ic h
 ·try simp only[h1,C,E,F,G,H,J]
  cases h;exact t0
 ·try simp only[h1,C,E,F,G,H,J]
  cases h;exact t0
/- 125:laws_szShipS -/
def Pk:X0:=A1 [Ag [0,1,5] [] []] (A6 (A1 [mv 12 5,mv 13 0,ln 14 13,bn 15 .lss 12 14] (AS 15 .skip (.exit 0))) (A6 (.block 1 (A1 [mv 18 0,mv 19 5,ia 20 18 19 6,lw 21 20 6,mv 22 1,ca 23 216 [S 21,S 22],mv 1 23] (A1 [mv 24 1,Ae 25 .lss 24 0] (At 25 (A2 [A5 4 (-1)]))))) (.reg [mv 16 5,Ae 17 .add 16 1,mv 5 17])))
def TO:X0:=(A2 [mv 26 1,mv 4 26])
def Z4:X0:=(A1 [A5 4 0] (A1 [mv 6 1,mv 7 0,ln 8 7,bn 9 .sub 6 8,mv 1 9] (Ab [mv 10 1,Ae 11 .lss 10 0] 11 (A2 [A5 4 (-1)]) (A6 (A1 [A5 5 0] (Aj 0 Pk)) TO))))
def mZ:=fun a0 (k_:U→U→Q U)=>∀{v2 v3} {zr},k_ v2 v3=N zr→Kp Z [0,1,5] [] [] ⟨[pL 0 X5.row a0,pI 1 v2,pI 5 v3],[],[]⟩ (.code (.loop Pk):: [.blk 0,.code TO]) (Ah [4] [.sc (.v (.int .i64 zr))])
theorem B2x{a0}{n:W}:mZ a0 (FX a0 n):=by
 induction n with
 | zero=>intro _ _ r h; cases h
 | succ n ih=>
  intro v2 v3 r h σ hσ;rw[FX] at h;refine Ak ?_;obtain⟨h4,h⟩|⟨h4,h⟩:=ic h
  ·obtain⟨x5,h5,h⟩:=ob h;obtain⟨r6,h6,h⟩:=ob h;try simp only[hσ,h4,h5,Pk,C,E,F,G,H,J]
   refine A4 (A92 h6) ?_;obtain⟨h7,h⟩|⟨h7,h⟩:=ic h
   ·try simp only[h4,h5,h7,C,E,F,G,H,J]
    cases h;exact t0
   ·try simp only[h4,h5,h7,C,E,F,G,H,J]
    refine ih h ?_;try simp only[h4,h5,h7,C,E,F,G,H,J,Y]
  ·try simp only[hσ,h4,Pk,TO,C,E,F,G,H,J]
   cases h;exact t0
theorem A93{a0}{a1}{r}(h:N1 a0 a1=N r):FC Z 125 [.sc (.sl (I X5.row a0)),.sc (.int .i64 a1)] [.sc (.v (.int .i64 r))]:=by
 unfold N1 at h;refine Aa A9 Z4 [4] 27 ?_;simp only[Z4,C,E,F,G,H,J];obtain⟨h1,h⟩|⟨h1,h⟩:=ic h
 ·try simp only[h1,C,E,F,G,H,J]
  cases h;exact t0
 ·try simp only[h1,C,E,F,G,H,J]
  refine B2x h ?_;try simp only[h1,C,E,F,G,H,J,Y]
/- 217:laws_szIntS -/
def Ze:X0:=(A1 [A5 4 0] (A1 [mv 5 1,mv 6 0,ln 7 6,bn 8 .sub 5 7,mv 1 8] (Ab [mv 9 1,Ae 10 .lss 9 0] 10 (A2 [A5 4 (-1)]) (A2 [mv 11 1,mv 4 11]))))
theorem A9u{a0}{a1}{r}(h:MT a0 a1=N r):FC Z 217 [.sc (.sl (I rI a0)),.sc (.int .i64 a1)] [.sc (.v (.int .i64 r))]:=by
 unfold MT at h;refine Aa A9 Ze [4] 12 ?_;simp only[Ze,C,E,F,G,H,J];obtain⟨h1,h⟩|⟨h1,h⟩:=ic h
 ·try simp only[h1,C,E,F,G,H,J]
  cases h;exact t0
 ·try simp only[h1,C,E,F,G,H,J]
  cases h;exact t0
/- 126:laws_szCrew -/
def Zh:X0:=(A1 [bo 2 0,A5 4 0] (A1 [fa 5 2 3,ld 6 5,mv 7 1,ca 8 217 [S 6,S 7],mv 1 8] (Ab [mv 9 1,Ae 10 .lss 9 0] 10 (A2 [A5 4 (-1)]) (A2 [mv 11 1,mv 4 11]))))
theorem A9r{a0}{a1}{r}(h:RX a0 a1=N r):FC Z 126 [.ag (Xk.row a0),.sc (.int .i64 a1)] [.sc (.v (.int .i64 r))]:=by
 unfold RX at h;refine Aa A9 Zh [4] 12 ?_;simp only[Zh,C,E,F,G,H,J];try simp only[C,E,F,G,H,J]
 refine A8 ?_;obtain⟨r1,h1,h⟩:=ob h;try simp only[C,E,F,G,H,J]
 refine A4 (A9u h1) ?_;obtain⟨h2,h⟩|⟨h2,h⟩:=ic h
 ·try simp only[h2,C,E,F,G,H,J]
  cases h;exact t0
 ·try simp only[h2,C,E,F,G,H,J]
  cases h;exact t0
/- 47:laws_szHarbour -/
def Zk:X0:=(A1 [bo 2 0,A5 4 0] (A1 [fa 5 2 0,lw 6 5 3,mv 7 1,ca 8 123 [S 6,S 7],mv 1 8] (Ab [mv 9 1,Ae 10 .lss 9 0] 10 (A2 [A5 4 (-1)]) (A1 [fa 11 2 3,lw 12 11 2,mv 13 1,ca 14 124 [S 12,S 13],mv 1 14] (Ab [mv 15 1,Ae 16 .lss 15 0] 16 (A2 [A5 4 (-1)]) (A1 [fa 17 2 5,ld 18 17,mv 19 1,ca 20 125 [S 18,S 19],mv 1 20] (Ab [mv 21 1,Ae 22 .lss 21 0] 22 (A2 [A5 4 (-1)]) (A1 [fa 23 2 8,lw 24 23 4,mv 25 1,ca 26 126 [S 24,S 25],mv 1 26] (Ab [mv 27 1,Ae 28 .lss 27 0] 28 (A2 [A5 4 (-1)]) (A2 [mv 29 1,mv 4 29]))))))))))
theorem A9t{a0}{a1}{r}(h:MS a0 a1=N r):FC Z 47 [.ag (X7.row a0),.sc (.int .i64 a1)] [.sc (.v (.int .i64 r))]:=by
 unfold MS at h;refine Aa A9 Zk [4] 30 ?_;simp only[Zk,C,E,F,G,H,J];try simp only[C,E,F,G,H,J]
 refine A8 ?_;obtain⟨r1,h1,h⟩:=ob h;try simp only[C,E,F,G,H,J]
 refine A4 (A9s h1) ?_;obtain⟨h2,h⟩|⟨h2,h⟩:=ic h
 ·try simp only[h2,C,E,F,G,H,J]
  cases h;exact t0
 ·obtain⟨r3,h3,h⟩:=ob h;try simp only[h2,C,E,F,G,H,J]
  refine A4 (A9q h3) ?_;obtain⟨h4,h⟩|⟨h4,h⟩:=ic h
  ·try simp only[h2,h4,C,E,F,G,H,J]
   cases h;exact t0
  ·obtain⟨r5,h5,h⟩:=ob h;try simp only[h2,h4,C,E,F,G,H,J]
   refine A4 (A93 h5) ?_;obtain⟨h6,h⟩|⟨h6,h⟩:=ic h
   ·try simp only[h2,h4,h6,C,E,F,G,H,J]
    cases h;exact t0
   ·obtain⟨r7,h7,h⟩:=ob h;try simp only[h2,h4,h6,C,E,F,G,H,J]
    refine A4 (A9r h7) ?_;obtain⟨h8,h⟩|⟨h8,h⟩:=ic h
    ·try simp only[h2,h4,h6,h8,C,E,F,G,H,J]
     cases h;exact t0
    ·try simp only[h2,h4,h6,h8,C,E,F,G,H,J]
     cases h;exact t0
/- 60:laws_szCallS -/
def Zp:X0:=(A1 [A5 4 0] (A1 [mv 5 1,mv 6 0,ln 7 6,bn 8 .sub 5 7,mv 1 8] (Ab [mv 9 1,Ae 10 .lss 9 0] 10 (A2 [A5 4 (-1)]) (A2 [mv 11 1,mv 4 11]))))
theorem A9p{a0}{a1}{r}(h:MP a0 a1=N r):FC Z 60 [.sc (.sl (I zD a0)),.sc (.int .i64 a1)] [.sc (.v (.int .i64 r))]:=by
 unfold MP at h;refine Aa A9 Zp [4] 12 ?_;simp only[Zp,C,E,F,G,H,J];obtain⟨h1,h⟩|⟨h1,h⟩:=ic h
 ·try simp only[h1,C,E,F,G,H,J]
  cases h;exact t0
 ·try simp only[h1,C,E,F,G,H,J]
  cases h;exact t0
/- 245:laws_szPassageS -/
def Zv:X0:=(A1 [A5 4 0] (A1 [mv 5 1,mv 6 0,ln 7 6,bn 8 .sub 5 7,mv 1 8] (Ab [mv 9 1,Ae 10 .lss 9 0] 10 (A2 [A5 4 (-1)]) (A2 [mv 11 1,mv 4 11]))))
theorem A9y{a0}{a1}{r}(h:RY a0 a1=N r):FC Z 245 [.sc (.sl (I X1.row a0)),.sc (.int .i64 a1)] [.sc (.v (.int .i64 r))]:=by
 unfold RY at h;refine Aa A9 Zv [4] 12 ?_;simp only[Zv,C,E,F,G,H,J];obtain⟨h1,h⟩|⟨h1,h⟩:=ic h
 ·try simp only[h1,C,E,F,G,H,J]
  cases h;exact t0
 ·try simp only[h1,C,E,F,G,H,J]
  cases h;exact t0
/- 155:laws_szOption -/
def Zy:X0:=(A1 [bo 2 0,A5 4 0] (A1 [fa 5 2 3,ld 6 5,mv 7 1,ca 8 245 [S 6,S 7],mv 1 8] (Ab [mv 9 1,Ae 10 .lss 9 0] 10 (A2 [A5 4 (-1)]) (A2 [mv 11 1,mv 4 11]))))
theorem A9v{a0}{a1}{r}(h:MU a0 a1=N r):FC Z 155 [.ag (X2.row a0),.sc (.int .i64 a1)] [.sc (.v (.int .i64 r))]:=by
 unfold MU at h;refine Aa A9 Zy [4] 12 ?_;simp only[Zy,C,E,F,G,H,J];try simp only[C,E,F,G,H,J]
 refine A8 ?_;obtain⟨r1,h1,h⟩:=ob h;try simp only[C,E,F,G,H,J]
 refine A4 (A9y h1) ?_;obtain⟨h2,h⟩|⟨h2,h⟩:=ic h
 ·try simp only[h2,C,E,F,G,H,J]
  cases h;exact t0
 ·try simp only[h2,C,E,F,G,H,J]
  cases h;exact t0
/- 68:laws_szOptionS -/
def PF:X0:=A1 [Ag [0,1,5] [] []] (A6 (A1 [mv 12 5,mv 13 0,ln 14 13,bn 15 .lss 12 14] (AS 15 .skip (.exit 0))) (A6 (.block 1 (A1 [mv 18 0,mv 19 5,ia 20 18 19 4,lw 21 20 4,mv 22 1,ca 23 155 [S 21,S 22],mv 1 23] (A1 [mv 24 1,Ae 25 .lss 24 0] (At 25 (A2 [A5 4 (-1)]))))) (.reg [mv 16 5,Ae 17 .add 16 1,mv 5 17])))
def U8:X0:=(A2 [mv 26 1,mv 4 26])
def ZG:X0:=(A1 [A5 4 0] (A1 [mv 6 1,mv 7 0,ln 8 7,bn 9 .sub 6 8,mv 1 9] (Ab [mv 10 1,Ae 11 .lss 10 0] 11 (A2 [A5 4 (-1)]) (A6 (A1 [A5 5 0] (Aj 0 PF)) U8))))
def mX:=fun a0 (k_:U→U→Q U)=>∀{v2 v3} {zr},k_ v2 v3=N zr→Kp Z [0,1,5] [] [] ⟨[pL 0 X2.row a0,pI 1 v2,pI 5 v3],[],[]⟩ (.code (.loop PF):: [.blk 0,.code U8]) (Ah [4] [.sc (.v (.int .i64 zr))])
theorem B3f{a0}{n:W}:mX a0 (FV a0 n):=by
 induction n with
 | zero=>intro _ _ r h; cases h
 | succ n ih=>
  intro v2 v3 r h σ hσ;rw[FV] at h;refine Ak ?_;obtain⟨h4,h⟩|⟨h4,h⟩:=ic h
  ·obtain⟨x5,h5,h⟩:=ob h;obtain⟨r6,h6,h⟩:=ob h;try simp only[hσ,h4,h5,PF,C,E,F,G,H,J]
   refine A4 (A9v h6) ?_;obtain⟨h7,h⟩|⟨h7,h⟩:=ic h
   ·try simp only[h4,h5,h7,C,E,F,G,H,J]
    cases h;exact t0
   ·try simp only[h4,h5,h7,C,E,F,G,H,J]
    refine ih h ?_;try simp only[h4,h5,h7,C,E,F,G,H,J,Y]
  ·try simp only[hσ,h4,PF,U8,C,E,F,G,H,J]
   cases h;exact t0
theorem A9w{a0}{a1}{r}(h:MV a0 a1=N r):FC Z 68 [.sc (.sl (I X2.row a0)),.sc (.int .i64 a1)] [.sc (.v (.int .i64 r))]:=by
 unfold MV at h;refine Aa A9 ZG [4] 27 ?_;simp only[ZG,C,E,F,G,H,J];obtain⟨h1,h⟩|⟨h1,h⟩:=ic h
 ·try simp only[h1,C,E,F,G,H,J]
  cases h;exact t0
 ·try simp only[h1,C,E,F,G,H,J]
  refine B3f h ?_;try simp only[h1,C,E,F,G,H,J,Y]
/- 348:laws_toPart -/
def ZO:X0:=(A1 [bo 1 0,Ai 2 [aI 0,aI 0,aI 0]] (A1 [Ai 3 [aI 0,aI 0,aI 0]] (A1 [fa 4 1 0,ld 5 4,fa 6 3 0,so 6 5 1] (A1 [fa 7 1 1,ld 8 7,fa 9 3 1,so 9 8 1] (A1 [fa 10 1 2,ld 11 10,fa 12 3 2,so 12 11 1] (A2 [lw 13 3 3,so 2 13 3]))))))
theorem B0c{a0}{r}(h:S3 a0=N r):FC Z 348 [.ag (zA a0)] [.ag [.v (.int .i64 r.Amp),.v (.int .i64 r.Period),.v (.int .i64 r.Phase)]]:=by
 unfold S3 at h;refine Aa A9 ZO [.c 2 T 3] 14 ?_;simp only[ZO,C,E,F,G,H,J];try simp only[C,E,F,G,H,J]
 refine A8 ?_;try simp only[C,E,F,G,H,J]
 refine Al ?_;try simp only[C,E,F,G,H,J]
 refine Al ?_;try simp only[C,E,F,G,H,J]
 cases h;try simp only[B7,C,E,F,G,H,J]
 trivial
/- 304:laws_toPartS -/
def PQ:X0:=A1 [Ag [0,3,4] [] [448]] (A6 (A1 [mv 8 4,mv 9 0,ln 10 9,bn 11 .lss 8 10] (AS 11 .skip (.exit 0))) (A6 (.block 1 (.reg [mv 14 3,mv 15 4,mv 16 0,mv 17 4,ia 18 16 17 3,lw 19 18 3,ca 20 348 [S 19],ia 21 14 15 3,so 21 20 3])) (.reg [mv 12 4,Ae 13 .add 12 1,mv 4 13])))
def Ui:X0:=(A2 [mv 22 3,mv 2 22])
def ZW:X0:=(A1 [AA 2] (A1 [mv 5 0,ln 6 5,(O,.mksl 7 3 24 [.int .i64 0,.int .i64 0,.int .i64 0] (S 6) (S 6)),mv 3 7] (A6 (A1 [A5 4 0] (Aj 0 PQ)) Ui)))
def me:=fun a0 (k_:U→(P Xd)→Q (P Xd))=>∀{v2 v3} {zr},k_ v2 v3=N zr→Kp Z [0,3,4] [] [448] ⟨[pL 0 zA a0,pW 3 448,pI 4 v2],[],[(448,3,I zA v3)]⟩ (.code (.loop PQ):: [.blk 0,.code Ui]) (Ah [2] [.sc (.o 3 (I zA zr))])
theorem B3r{a0}{n:W}:me a0 (HW a0 n):=by
 induction n with
 | zero=>intro _ _ r h; cases h
 | succ n ih=>
  intro v2 v3 r h σ hσ;rw[HW] at h;refine Ak ?_;obtain⟨h4,h⟩|⟨h4,h⟩:=ic h
  ·obtain⟨x5,h5,h⟩:=ob h;obtain⟨r6,h6,h⟩:=ob h;try simp only[hσ,h4,h5,PQ,C,E,F,G,H,J]
   refine A4 (B0c h6) ?_;obtain⟨x7,h7,h⟩:=ob h;have h7n:=AE h7;try simp only[h4,h5,h7,C,E,F,G,H,J]
   refine AW (row:=zA) (y:=r6) X X h7n X X (by rfl) ?_;try simp only[h4,h5,h7,C,E,F,G,H,J]
   refine ih h ?_;try simp only[h4,h5,h7,C,E,F,G,H,J,Y]
  ·try simp only[hσ,h4,PQ,Ui,C,E,F,G,H,J]
   cases h;exact t0
theorem B0d{a0}{r}(h:N7 a0=N r):FC Z 304 [.sc (.sl (I zA a0))] [.sc (.o 3 (I zA r))]:=by
 unfold N7 at h;refine Aa A9 ZW [2] 23 ?_;simp only[ZW,C,E,F,G,H,J];obtain⟨n1,hn1,h⟩:=ob h;try simp only[C,E,F,G,H,J]
 refine Df (es:=I zA (zC n1 (⟨(0:U),(0:U),(0:U)⟩:Xd))) X X hn1 X (CD X) X ?_;try simp only[C,E,F,G,H,J]
 refine B3r h ?_;try simp only[C,E,F,G,H,J,Y]
/- 226:laws_toTide -/
def aD:X0:=(A1 [bo 1 0,Ai 2 [aI 0,.nil]] (A1 [Ai 3 [aI 0,.nil]] (A1 [fa 4 1 0,ld 5 4,fa 6 3 0,so 6 5 1] (A1 [fa 7 1 1,ld 8 7,ca 9 304 [S 8],fa 10 3 1,so 10 9 1] (A2 [lw 11 3 2,so 2 11 2])))))
theorem B0p{a0}{r}(h:Sa a0=N r):FC Z 226 [.ag (Xj.row a0)] [.ag [.v (.int .i64 r.Mean),.o 3 (I zA r.Parts)]]:=by
 unfold Sa at h;refine Aa A9 aD [.c 2 T 2] 12 ?_;simp only[aD,C,E,F,G,H,J];try simp only[C,E,F,G,H,J]
 refine A8 ?_;try simp only[C,E,F,G,H,J]
 refine Al ?_;try simp only[C,E,F,G,H,J]
 refine Al ?_;obtain⟨r1,h1,h⟩:=ob h;try simp only[C,E,F,G,H,J]
 refine A4 (B0d h1) ?_;try simp only[C,E,F,G,H,J]
 cases h;try simp only[B7,C,E,F,G,H,J]
 trivial
/- 305:laws_toSurge -/
def aF:X0:=(A1 [bo 1 0,Ai 2 [aI 0,aI 0,aI 0]] (A1 [Ai 3 [aI 0,aI 0,aI 0]] (A1 [fa 4 1 0,ld 5 4,fa 6 3 0,so 6 5 1] (A1 [fa 7 1 1,ld 8 7,fa 9 3 1,so 9 8 1] (A1 [fa 10 1 2,ld 11 10,fa 12 3 2,so 12 11 1] (A2 [lw 13 3 3,so 2 13 3]))))))
theorem B0n{a0}{r}(h:S9 a0=N r):FC Z 305 [.ag (zB a0)] [.ag [.v (.int .i64 r.From),.v (.int .i64 r.Low),.v (.int .i64 r.High)]]:=by
 unfold S9 at h;refine Aa A9 aF [.c 2 T 3] 14 ?_;simp only[aF,C,E,F,G,H,J];try simp only[C,E,F,G,H,J]
 refine A8 ?_;try simp only[C,E,F,G,H,J]
 refine Al ?_;try simp only[C,E,F,G,H,J]
 refine Al ?_;try simp only[C,E,F,G,H,J]
 cases h;try simp only[B7,C,E,F,G,H,J]
 trivial
/- 227:laws_toSurgeS -/
def Q6:X0:=A1 [Ag [0,3,4] [] [448]] (A6 (A1 [mv 8 4,mv 9 0,ln 10 9,bn 11 .lss 8 10] (AS 11 .skip (.exit 0))) (A6 (.block 1 (.reg [mv 14 3,mv 15 4,mv 16 0,mv 17 4,ia 18 16 17 3,lw 19 18 3,ca 20 305 [S 19],ia 21 14 15 3,so 21 20 3])) (.reg [mv 12 4,Ae 13 .add 12 1,mv 4 13])))
def Uw:X0:=(A2 [mv 22 3,mv 2 22])
def aV:X0:=(A1 [AA 2] (A1 [mv 5 0,ln 6 5,(O,.mksl 7 3 24 [.int .i64 0,.int .i64 0,.int .i64 0] (S 6) (S 6)),mv 3 7] (A6 (A1 [A5 4 0] (Aj 0 Q6)) Uw)))
def mp:=fun a0 (k_:U→(P Xb)→Q (P Xb))=>∀{v2 v3} {zr},k_ v2 v3=N zr→Kp Z [0,3,4] [] [448] ⟨[pL 0 zB a0,pW 3 448,pI 4 v2],[],[(448,3,I zB v3)]⟩ (.code (.loop Q6):: [.blk 0,.code Uw]) (Ah [2] [.sc (.o 3 (I zB zr))])
theorem B33{a0}{n:W}:mp a0 (I1 a0 n):=by
 induction n with
 | zero=>intro _ _ r h; cases h
 | succ n ih=>
  intro v2 v3 r h σ hσ;rw[I1] at h;refine Ak ?_;obtain⟨h4,h⟩|⟨h4,h⟩:=ic h
  ·obtain⟨x5,h5,h⟩:=ob h;obtain⟨r6,h6,h⟩:=ob h;try simp only[hσ,h4,h5,Q6,C,E,F,G,H,J]
   refine A4 (B0n h6) ?_;obtain⟨x7,h7,h⟩:=ob h;have h7n:=AE h7;try simp only[h4,h5,h7,C,E,F,G,H,J]
   refine AW (row:=zB) (y:=r6) X X h7n X X (by rfl) ?_;try simp only[h4,h5,h7,C,E,F,G,H,J]
   refine ih h ?_;try simp only[h4,h5,h7,C,E,F,G,H,J,Y]
  ·try simp only[hσ,h4,Q6,Uw,C,E,F,G,H,J]
   cases h;exact t0
theorem B0o{a0}{r}(h:Nc a0=N r):FC Z 227 [.sc (.sl (I zB a0))] [.sc (.o 3 (I zB r))]:=by
 unfold Nc at h;refine Aa A9 aV [2] 23 ?_;simp only[aV,C,E,F,G,H,J];obtain⟨n1,hn1,h⟩:=ob h;try simp only[C,E,F,G,H,J]
 refine Df (es:=I zB (zC n1 (⟨(0:U),(0:U),(0:U)⟩:Xb))) X X hn1 X (CD X) X ?_;try simp only[C,E,F,G,H,J]
 refine B33 h ?_;try simp only[C,E,F,G,H,J,Y]
/- 131:laws_toForecast -/
def ae:X0:=(A1 [bo 1 0,Ai 2 [aI 0,.nil,.nil]] (A1 [Ai 3 [aI 0,.nil,.nil]] (A1 [fa 4 1 0,lw 5 4 2,ca 6 226 [S 5],fa 7 3 0,so 7 6 2] (A1 [fa 8 1 2,ld 9 8,ca 10 227 [S 9],fa 11 3 2,so 11 10 1] (A2 [lw 12 3 3,so 2 12 3])))))
theorem A99{a0}{r}(h:N4 a0=N r):FC Z 131 [.ag (zF a0)] [.ag [.v (.int .i64 r.Tide.Mean),.o 3 (I zA r.Tide.Parts),.o 3 (I zB r.Surges)]]:=by
 unfold N4 at h;refine Aa A9 ae [.c 2 T 3] 13 ?_;simp only[ae,C,E,F,G,H,J];try simp only[C,E,F,G,H,J]
 refine A8 ?_;try simp only[C,E,F,G,H,J]
 refine Al ?_;try simp only[C,E,F,G,H,J]
 refine Al ?_;obtain⟨r1,h1,h⟩:=ob h;try simp only[C,E,F,G,H,J]
 refine A4 (B0p h1) ?_;obtain⟨r2,h2,h⟩:=ob h;try simp only[C,E,F,G,H,J]
 refine A4 (B0o h2) ?_;try simp only[C,E,F,G,H,J]
 cases h;try simp only[B7,C,E,F,G,H,J]
 trivial
/- 306:laws_toPoint -/
def aj:X0:=(A1 [bo 1 0,Ai 2 [aS [],aB L]] (A1 [Ai 3 [aS [],aB L]] (A1 [fa 4 1 0,ld 5 4,fa 6 3 0,so 6 5 1] (A1 [fa 7 1 1,ld 8 7,fa 9 3 1,so 9 8 1] (A2 [lw 10 3 2,so 2 10 2])))))
theorem B0g{a0}{r}(h:S5 a0=N r):FC Z 306 [.ag (X9.row a0)] [.ag [.v (.str r.Name),.v (.bool r.Wait)]]:=by
 unfold S5 at h;refine Aa A9 aj [.c 2 T 2] 11 ?_;simp only[aj,C,E,F,G,H,J];try simp only[C,E,F,G,H,J]
 refine A8 ?_;try simp only[C,E,F,G,H,J]
 refine Al ?_;try simp only[C,E,F,G,H,J]
 refine Al ?_;try simp only[C,E,F,G,H,J]
 cases h;try simp only[B7,C,E,F,G,H,J]
 trivial
/- 228:laws_toPointS -/
def Qj:X0:=A1 [Ag [0,3,4] [] [448]] (A6 (A1 [mv 8 4,mv 9 0,ln 10 9,bn 11 .lss 8 10] (AS 11 .skip (.exit 0))) (A6 (.block 1 (.reg [mv 14 3,mv 15 4,mv 16 0,mv 17 4,ia 18 16 17 2,lw 19 18 2,ca 20 306 [S 19],ia 21 14 15 2,so 21 20 2])) (.reg [mv 12 4,Ae 13 .add 12 1,mv 4 13])))
def UG:X0:=(A2 [mv 22 3,mv 2 22])
def bC:X0:=(A1 [AA 2] (A1 [mv 5 0,ln 6 5,(O,.mksl 7 2 24 [.str [],.bool L] (S 6) (S 6)),mv 3 7] (A6 (A1 [A5 4 0] (Aj 0 Qj)) UG)))
def mg:=fun a0 (k_:U→(P X9)→Q (P X9))=>∀{v2 v3} {zr},k_ v2 v3=N zr→Kp Z [0,3,4] [] [448] ⟨[pL 0 X9.row a0,pW 3 448,pI 4 v2],[],[(448,2,I X9.row v3)]⟩ (.code (.loop Qj):: [.blk 0,.code UG]) (Ah [2] [.sc (.o 2 (I X9.row zr))])
theorem B4f{a0}{n:W}:mg a0 (HY a0 n):=by
 induction n with
 | zero=>intro _ _ r h; cases h
 | succ n ih=>
  intro v2 v3 r h σ hσ;rw[HY] at h;refine Ak ?_;obtain⟨h4,h⟩|⟨h4,h⟩:=ic h
  ·obtain⟨x5,h5,h⟩:=ob h;obtain⟨r6,h6,h⟩:=ob h;try simp only[hσ,h4,h5,Qj,C,E,F,G,H,J]
   refine A4 (B0g h6) ?_;obtain⟨x7,h7,h⟩:=ob h;have h7n:=AE h7;try simp only[h4,h5,h7,C,E,F,G,H,J]
   refine AW (row:=X9.row) (y:=r6) X X h7n X X (by rfl) ?_;try simp only[h4,h5,h7,C,E,F,G,H,J]
   refine ih h ?_;try simp only[h4,h5,h7,C,E,F,G,H,J,Y]
  ·try simp only[hσ,h4,Qj,UG,C,E,F,G,H,J]
   cases h;exact t0
theorem B0h{a0}{r}(h:N9 a0=N r):FC Z 228 [.sc (.sl (I X9.row a0))] [.sc (.o 2 (I X9.row r))]:=by
 unfold N9 at h;refine Aa A9 bC [2] 23 ?_;simp only[bC,C,E,F,G,H,J];obtain⟨n1,hn1,h⟩:=ob h;try simp only[C,E,F,G,H,J]
 refine Df (es:=I X9.row (zC n1 (⟨([]:P UInt8),L⟩:X9))) X X hn1 X (CD X) X ?_;try simp only[C,E,F,G,H,J]
 refine B4f h ?_;try simp only[C,E,F,G,H,J,Y]
/- 307:laws_toSegment -/
def bN:X0:=(A1 [bo 1 0,Ai 2 [aI 0,aI 0,aI 0,aI 0,aB L]] (A1 [Ai 3 [aI 0,aI 0,aI 0,aI 0,aB L]] (A1 [fa 4 1 0,ld 5 4,fa 6 3 0,so 6 5 1] (A1 [fa 7 1 1,ld 8 7,fa 9 3 1,so 9 8 1] (A1 [fa 10 1 2,ld 11 10,fa 12 3 2,so 12 11 1] (A1 [fa 13 1 3,ld 14 13,fa 15 3 3,so 15 14 1] (A1 [fa 16 1 4,ld 17 16,fa 18 3 4,so 18 17 1] (A2 [lw 19 3 5,so 2 19 5]))))))))
theorem B0j{a0}{r}(h:S7 a0=N r):FC Z 307 [.ag (X3.row a0)] [.ag [.v (.int .i64 r.A),.v (.int .i64 r.B),.v (.int .i64 r.Depth),.v (.int .i64 r.Minutes),.v (.bool r.Meet)]]:=by
 unfold S7 at h;refine Aa A9 bN [.c 2 T 5] 20 ?_;simp only[bN,C,E,F,G,H,J];try simp only[C,E,F,G,H,J]
 refine A8 ?_;try simp only[C,E,F,G,H,J]
 refine Al ?_;try simp only[C,E,F,G,H,J]
 refine Al ?_;try simp only[C,E,F,G,H,J]
 cases h;try simp only[B7,C,E,F,G,H,J]
 trivial
/- 229:laws_toSegmentS -/
def Qr:X0:=A1 [Ag [0,3,4] [] [448]] (A6 (A1 [mv 8 4,mv 9 0,ln 10 9,bn 11 .lss 8 10] (AS 11 .skip (.exit 0))) (A6 (.block 1 (.reg [mv 14 3,mv 15 4,mv 16 0,mv 17 4,ia 18 16 17 5,lw 19 18 5,ca 20 307 [S 19],ia 21 14 15 5,so 21 20 5])) (.reg [mv 12 4,Ae 13 .add 12 1,mv 4 13])))
def UO:X0:=(A2 [mv 22 3,mv 2 22])
def bY:X0:=(A1 [AA 2] (A1 [mv 5 0,ln 6 5,(O,.mksl 7 5 40 [.int .i64 0,.int .i64 0,.int .i64 0,.int .i64 0,.bool L] (S 6) (S 6)),mv 3 7] (A6 (A1 [A5 4 0] (Aj 0 Qr)) UO)))
def mh:=fun a0 (k_:U→(P X3)→Q (P X3))=>∀{v2 v3} {zr},k_ v2 v3=N zr→Kp Z [0,3,4] [] [448] ⟨[pL 0 X3.row a0,pW 3 448,pI 4 v2],[],[(448,5,I X3.row v3)]⟩ (.code (.loop Qr):: [.blk 0,.code UO]) (Ah [2] [.sc (.o 5 (I X3.row zr))])
theorem B4p{a0}{n:W}:mh a0 (HZ a0 n):=by
 induction n with
 | zero=>intro _ _ r h; cases h
 | succ n ih=>
  intro v2 v3 r h σ hσ;rw[HZ] at h;refine Ak ?_;obtain⟨h4,h⟩|⟨h4,h⟩:=ic h
  ·obtain⟨x5,h5,h⟩:=ob h;obtain⟨r6,h6,h⟩:=ob h;try simp only[hσ,h4,h5,Qr,C,E,F,G,H,J]
   refine A4 (B0j h6) ?_;obtain⟨x7,h7,h⟩:=ob h;have h7n:=AE h7;try simp only[h4,h5,h7,C,E,F,G,H,J]
   refine AW (row:=X3.row) (y:=r6) X X h7n X X (by rfl) ?_;try simp only[h4,h5,h7,C,E,F,G,H,J]
   refine ih h ?_;try simp only[h4,h5,h7,C,E,F,G,H,J,Y]
  ·try simp only[hσ,h4,Qr,UO,C,E,F,G,H,J]
   cases h;exact t0
theorem B0k{a0}{r}(h:Na a0=N r):FC Z 229 [.sc (.sl (I X3.row a0))] [.sc (.o 5 (I X3.row r))]:=by
 unfold Na at h;refine Aa A9 bY [2] 23 ?_;simp only[bY,C,E,F,G,H,J];obtain⟨n1,hn1,h⟩:=ob h;try simp only[C,E,F,G,H,J]
 refine Df (es:=I X3.row (zC n1 (⟨(0:U),(0:U),(0:U),(0:U),L⟩:X3))) X X hn1 X (CD X) X ?_;try simp only[C,E,F,G,H,J]
 refine B4p h ?_;try simp only[C,E,F,G,H,J,Y]
/- 132:laws_toChart -/
def bd:X0:=(A1 [bo 1 0,Ai 2 [.nil,.nil]] (A1 [Ai 3 [.nil,.nil]] (A1 [fa 4 1 0,ld 5 4,ca 6 228 [S 5],fa 7 3 0,so 7 6 1] (A1 [fa 8 1 1,ld 9 8,ca 10 229 [S 9],fa 11 3 1,so 11 10 1] (A2 [lw 12 3 2,so 2 12 2])))))
theorem A97{a0}{r}(h:N3 a0=N r):FC Z 132 [.ag (X6.row a0)] [.ag [.o 2 (I X9.row r.Points),.o 5 (I X3.row r.Segments)]]:=by
 unfold N3 at h;refine Aa A9 bd [.c 2 T 2] 13 ?_;simp only[bd,C,E,F,G,H,J];try simp only[C,E,F,G,H,J]
 refine A8 ?_;try simp only[C,E,F,G,H,J]
 refine Al ?_;try simp only[C,E,F,G,H,J]
 refine Al ?_;obtain⟨r1,h1,h⟩:=ob h;try simp only[C,E,F,G,H,J]
 refine A4 (B0h h1) ?_;obtain⟨r2,h2,h⟩:=ob h;try simp only[C,E,F,G,H,J]
 refine A4 (B0k h2) ?_;try simp only[C,E,F,G,H,J]
 cases h;try simp only[B7,C,E,F,G,H,J]
 trivial
/- 230:laws_toShip -/
def bj:X0:=(A1 [bo 1 0,Ai 2 [aS [],aI 0,aI 0,aI 0,aI 0,aB L]] (A1 [Ai 3 [aS [],aI 0,aI 0,aI 0,aI 0,aB L]] (A1 [fa 4 1 0,ld 5 4,fa 6 3 0,so 6 5 1] (A1 [fa 7 1 1,ld 8 7,fa 9 3 1,so 9 8 1] (A1 [fa 10 1 2,ld 11 10,fa 12 3 2,so 12 11 1] (A1 [fa 13 1 3,ld 14 13,fa 15 3 3,so 15 14 1] (A1 [fa 16 1 4,ld 17 16,fa 18 3 4,so 18 17 1] (A1 [fa 19 1 5,ld 20 19,fa 21 3 5,so 21 20 1] (A2 [lw 22 3 6,so 2 22 6])))))))))
theorem B0l{a0}{r}(h:S8 a0=N r):FC Z 230 [.ag (X5.row a0)] [.ag [.v (.str r.Name),.v (.int .i64 r.Length),.v (.int .i64 r.Draught),.v (.int .i64 r.Line),.v (.int .i64 r.Tugs),.v (.bool r.Slow)]]:=by
 unfold S8 at h;refine Aa A9 bj [.c 2 T 6] 23 ?_;simp only[bj,C,E,F,G,H,J];try simp only[C,E,F,G,H,J]
 refine A8 ?_;try simp only[C,E,F,G,H,J]
 refine Al ?_;try simp only[C,E,F,G,H,J]
 refine Al ?_;try simp only[C,E,F,G,H,J]
 cases h;try simp only[B7,C,E,F,G,H,J]
 trivial
/- 133:laws_toShipS -/
def QH:X0:=A1 [Ag [0,3,4] [] [448]] (A6 (A1 [mv 8 4,mv 9 0,ln 10 9,bn 11 .lss 8 10] (AS 11 .skip (.exit 0))) (A6 (.block 1 (.reg [mv 14 3,mv 15 4,mv 16 0,mv 17 4,ia 18 16 17 6,lw 19 18 6,ca 20 230 [S 19],ia 21 14 15 6,so 21 20 6])) (.reg [mv 12 4,Ae 13 .add 12 1,mv 4 13])))
def V3:X0:=(A2 [mv 22 3,mv 2 22])
def bv:X0:=(A1 [AA 2] (A1 [mv 5 0,ln 6 5,(O,.mksl 7 6 56 [.str [],.int .i64 0,.int .i64 0,.int .i64 0,.int .i64 0,.bool L] (S 6) (S 6)),mv 3 7] (A6 (A1 [A5 4 0] (Aj 0 QH)) V3)))
def mn:=fun a0 (k_:U→(P X5)→Q (P X5))=>∀{v2 v3} {zr},k_ v2 v3=N zr→Kp Z [0,3,4] [] [448] ⟨[pL 0 X5.row a0,pW 3 448,pI 4 v2],[],[(448,6,I X5.row v3)]⟩ (.code (.loop QH):: [.blk 0,.code V3]) (Ah [2] [.sc (.o 6 (I X5.row zr))])
theorem B40{a0}{n:W}:mn a0 (I0 a0 n):=by
 induction n with
 | zero=>intro _ _ r h; cases h
 | succ n ih=>
  intro v2 v3 r h σ hσ;rw[I0] at h;refine Ak ?_;obtain⟨h4,h⟩|⟨h4,h⟩:=ic h
  ·obtain⟨x5,h5,h⟩:=ob h;obtain⟨r6,h6,h⟩:=ob h;try simp only[hσ,h4,h5,QH,C,E,F,G,H,J]
   refine A4 (B0l h6) ?_;obtain⟨x7,h7,h⟩:=ob h;have h7n:=AE h7;try simp only[h4,h5,h7,C,E,F,G,H,J]
   refine AW (row:=X5.row) (y:=r6) X X h7n X X (by rfl) ?_;try simp only[h4,h5,h7,C,E,F,G,H,J]
   refine ih h ?_;try simp only[h4,h5,h7,C,E,F,G,H,J,Y]
  ·try simp only[hσ,h4,QH,V3,C,E,F,G,H,J]
   cases h;exact t0
theorem B0m{a0}{r}(h:Nb a0=N r):FC Z 133 [.sc (.sl (I X5.row a0))] [.sc (.o 6 (I X5.row r))]:=by
 unfold Nb at h;refine Aa A9 bv [2] 23 ?_;simp only[bv,C,E,F,G,H,J];obtain⟨n1,hn1,h⟩:=ob h;try simp only[C,E,F,G,H,J]
 refine Df (es:=I X5.row (zC n1 (⟨([]:P UInt8),(0:U),(0:U),(0:U),(0:U),L⟩:X5))) X X hn1 X (CD X) X ?_;try simp only[C,E,F,G,H,J]
 refine B40 h ?_;try simp only[C,E,F,G,H,J,Y]
/- 134:laws_toRegime -/
def cG:X0:=(A1 [bo 1 0,Ai 2 [aI 0,aB L]] (A1 [Ai 3 [aI 0,aB L]] (A1 [fa 4 1 0,ld 5 4,fa 6 3 0,so 6 5 1] (A1 [fa 7 1 1,ld 8 7,fa 9 3 1,so 9 8 1] (A2 [lw 10 3 2,so 2 10 2])))))
theorem B0i{a0}{r}(h:S6 a0=N r):FC Z 134 [.ag (Xg.row a0)] [.ag [.v (.int .i64 r.Gap),.v (.bool r.NoMeet)]]:=by
 unfold S6 at h;refine Aa A9 cG [.c 2 T 2] 11 ?_;simp only[cG,C,E,F,G,H,J];try simp only[C,E,F,G,H,J]
 refine A8 ?_;try simp only[C,E,F,G,H,J]
 refine Al ?_;try simp only[C,E,F,G,H,J]
 refine Al ?_;try simp only[C,E,F,G,H,J]
 cases h;try simp only[B7,C,E,F,G,H,J]
 trivial
/- 231:laws_toIntS -/
def QR:X0:=A1 [Ag [0,3,4] [] [448]] (A6 (A1 [mv 8 4,mv 9 0,ln 10 9,bn 11 .lss 8 10] (AS 11 .skip (.exit 0))) (A6 (.block 1 (.reg [mv 14 3,mv 15 4,mv 16 0,mv 17 4,ia 18 16 17 1,ld 19 18,ia 20 14 15 1,so 20 19 1])) (.reg [mv 12 4,Ae 13 .add 12 1,mv 4 13])))
def V9:X0:=(A2 [mv 21 3,mv 2 21])
def cO:X0:=(A1 [AA 2] (A1 [mv 5 0,ln 6 5,(O,.mksl 7 1 8 [.int .i64 0] (S 6) (S 6)),mv 3 7] (A6 (A1 [A5 4 0] (Aj 0 QR)) V9)))
def mc:=fun a0 (k_:U→(P U)→Q (P U))=>∀{v2 v3} {zr},k_ v2 v3=N zr→Kp Z [0,3,4] [] [448] ⟨[pL 0 rI a0,pW 3 448,pI 4 v2],[],[(448,1,I rI v3)]⟩ (.code (.loop QR):: [.blk 0,.code V9]) (Ah [2] [.sc (.o 1 (I rI zr))])
theorem B48{a0}{n:W}:mc a0 (HU a0 n):=by
 induction n with
 | zero=>intro _ _ r h; cases h
 | succ n ih=>
  intro v2 v3 r h σ hσ;rw[HU] at h;refine Ak ?_;obtain⟨h4,h⟩|⟨h4,h⟩:=ic h
  ·obtain⟨x5,h5,h⟩:=ob h;obtain⟨x6,h6,h⟩:=ob h;have h6n:=AE h6;try simp only[hσ,h4,h5,h6,QR,C,E,F,G,H,J]
   refine AW (row:=rI) (y:=x5) X X h6n X X (by rfl) ?_;try simp only[h4,h5,h6,C,E,F,G,H,J]
   refine ih h ?_;try simp only[h4,h5,h6,C,E,F,G,H,J,Y]
  ·try simp only[hσ,h4,QR,V9,C,E,F,G,H,J]
   cases h;exact t0
theorem B0a{a0}{r}(h:N5 a0=N r):FC Z 231 [.sc (.sl (I rI a0))] [.sc (.o 1 (I rI r))]:=by
 unfold N5 at h;refine Aa A9 cO [2] 22 ?_;simp only[cO,C,E,F,G,H,J];obtain⟨n1,hn1,h⟩:=ob h;try simp only[C,E,F,G,H,J]
 refine Df (es:=I rI (zC n1 (0:U))) X X hn1 X (CD X) X ?_;try simp only[C,E,F,G,H,J]
 refine B48 h ?_;try simp only[C,E,F,G,H,J,Y]
/- 135:laws_toCrew -/
def cS:X0:=(A1 [bo 1 0,Ai 2 [aI 0,aI 0,aI 0,.nil]] (A1 [Ai 3 [aI 0,aI 0,aI 0,.nil]] (A1 [fa 4 1 0,ld 5 4,fa 6 3 0,so 6 5 1] (A1 [fa 7 1 1,ld 8 7,fa 9 3 1,so 9 8 1] (A1 [fa 10 1 2,ld 11 10,fa 12 3 2,so 12 11 1] (A1 [fa 13 1 3,ld 14 13,ca 15 231 [S 14],fa 16 3 3,so 16 15 1] (A2 [lw 17 3 4,so 2 17 4])))))))
theorem A98{a0}{r}(h:S2 a0=N r):FC Z 135 [.ag (Xk.row a0)] [.ag [.v (.int .i64 r.Tugs),.v (.int .i64 r.Pilots),.v (.int .i64 r.Rest),.o 1 (I rI r.Moves)]]:=by
 unfold S2 at h;refine Aa A9 cS [.c 2 T 4] 18 ?_;simp only[cS,C,E,F,G,H,J];try simp only[C,E,F,G,H,J]
 refine A8 ?_;try simp only[C,E,F,G,H,J]
 refine Al ?_;try simp only[C,E,F,G,H,J]
 refine Al ?_;obtain⟨r1,h1,h⟩:=ob h;try simp only[C,E,F,G,H,J]
 refine A4 (B0a h1) ?_;try simp only[C,E,F,G,H,J]
 cases h;try simp only[B7,C,E,F,G,H,J]
 trivial
/- 50:laws_toHarbour -/
def cV:X0:=(A1 [bo 1 0,Ai 2 [aI 0,.nil,.nil,.nil,.nil,.nil,aI 0,aB L,aI 0,aI 0,aI 0,.nil]] (A1 [Ai 3 [aI 0,.nil,.nil,.nil,.nil,.nil,aI 0,aB L,aI 0,aI 0,aI 0,.nil]] (A1 [fa 4 1 0,lw 5 4 3,ca 6 131 [S 5],fa 7 3 0,so 7 6 3] (A1 [fa 8 1 3,lw 9 8 2,ca 10 132 [S 9],fa 11 3 3,so 11 10 2] (A1 [fa 12 1 5,ld 13 12,ca 14 133 [S 13],fa 15 3 5,so 15 14 1] (A1 [fa 16 1 6,lw 17 16 2,ca 18 134 [S 17],fa 19 3 6,so 19 18 2] (A1 [fa 20 1 8,lw 21 20 4,ca 22 135 [S 21],fa 23 3 8,so 23 22 4] (A2 [lw 24 3 12,so 2 24 12]))))))))
theorem Td{a0}{r}(h:FZ a0=N r):FC Z 50 [.ag (X7.row a0)] [.ag [.v (.int .i64 r.Forecast.Tide.Mean),.o 3 (I zA r.Forecast.Tide.Parts),.o 3 (I zB r.Forecast.Surges),.o 2 (I X9.row r.Chart.Points),.o 5 (I X3.row r.Chart.Segments),.o 6 (I X5.row r.Fleet),.v (.int .i64 r.Regime.Gap),.v (.bool r.Regime.NoMeet),.v (.int .i64 r.Crew.Tugs),.v (.int .i64 r.Crew.Pilots),.v (.int .i64 r.Crew.Rest),.o 1 (I rI r.Crew.Moves)]]:=by
 unfold FZ at h;refine Aa A9 cV [.c 2 T 12] 25 ?_;simp only[cV,C,E,F,G,H,J];try simp only[C,E,F,G,H,J]
 refine A8 ?_;try simp only[C,E,F,G,H,J]
 refine Al ?_;try simp only[C,E,F,G,H,J]
 refine Al ?_;obtain⟨r1,h1,h⟩:=ob h;try simp only[C,E,F,G,H,J]
 refine A4 (A99 h1) ?_;obtain⟨r2,h2,h⟩:=ob h;try simp only[C,E,F,G,H,J]
 refine A4 (A97 h2) ?_;obtain⟨r3,h3,h⟩:=ob h;try simp only[C,E,F,G,H,J]
 refine A4 (B0m h3) ?_;obtain⟨r4,h4,h⟩:=ob h;try simp only[C,E,F,G,H,J]
 refine A4 (B0i h4) ?_;obtain⟨r5,h5,h⟩:=ob h;try simp only[C,E,F,G,H,J]
 refine A4 (A98 h5) ?_;try simp only[C,E,F,G,H,J]
 cases h;try simp only[B7,C,E,F,G,H,J]
 trivial
/- 51:laws_toCall -/
def cY:X0:=(A1 [bo 1 0,Ai 2 [aI 0,aI 0,aI 0,aI 0,aI 0]] (A1 [Ai 3 [aI 0,aI 0,aI 0,aI 0,aI 0]] (A1 [fa 4 1 0,ld 5 4,fa 6 3 0,so 6 5 1] (A1 [fa 7 1 1,ld 8 7,fa 9 3 1,so 9 8 1] (A1 [fa 10 1 2,ld 11 10,fa 12 3 2,so 12 11 1] (A1 [fa 13 1 3,ld 14 13,fa 15 3 3,so 15 14 1] (A1 [fa 16 1 4,ld 17 16,fa 18 3 4,so 18 17 1] (A2 [lw 19 3 5,so 2 19 5]))))))))
theorem A96{a0}{r}(h:S0 a0=N r):FC Z 51 [.ag (zD a0)] [.ag [.v (.int .i64 r.Ship),.v (.int .i64 r.From),.v (.int .i64 r.To),.v (.int .i64 r.Ready),.v (.int .i64 r.Due)]]:=by
 unfold S0 at h;refine Aa A9 cY [.c 2 T 5] 20 ?_;simp only[cY,C,E,F,G,H,J];try simp only[C,E,F,G,H,J]
 refine A8 ?_;try simp only[C,E,F,G,H,J]
 refine Al ?_;try simp only[C,E,F,G,H,J]
 refine Al ?_;try simp only[C,E,F,G,H,J]
 cases h;try simp only[B7,C,E,F,G,H,J]
 trivial
/- 62:laws_toCallS -/
def R8:X0:=A1 [Ag [0,3,4] [] [448]] (A6 (A1 [mv 8 4,mv 9 0,ln 10 9,bn 11 .lss 8 10] (AS 11 .skip (.exit 0))) (A6 (.block 1 (.reg [mv 14 3,mv 15 4,mv 16 0,mv 17 4,ia 18 16 17 5,lw 19 18 5,ca 20 51 [S 19],ia 21 14 15 5,so 21 20 5])) (.reg [mv 12 4,Ae 13 .add 12 1,mv 4 13])))
def Vm:X0:=(A2 [mv 22 3,mv 2 22])
def cq:X0:=(A1 [AA 2] (A1 [mv 5 0,ln 6 5,(O,.mksl 7 5 40 [.int .i64 0,.int .i64 0,.int .i64 0,.int .i64 0,.int .i64 0] (S 6) (S 6)),mv 3 7] (A6 (A1 [A5 4 0] (Aj 0 R8)) Vm)))
def mb:=fun a0 (k_:U→(P Xa)→Q (P Xa))=>∀{v2 v3} {zr},k_ v2 v3=N zr→Kp Z [0,3,4] [] [448] ⟨[pL 0 zD a0,pW 3 448,pI 4 v2],[],[(448,5,I zD v3)]⟩ (.code (.loop R8):: [.blk 0,.code Vm]) (Ah [2] [.sc (.o 5 (I zD zr))])
theorem B5o{a0}{n:W}:mb a0 (HT a0 n):=by
 induction n with
 | zero=>intro _ _ r h; cases h
 | succ n ih=>
  intro v2 v3 r h σ hσ;rw[HT] at h;refine Ak ?_;obtain⟨h4,h⟩|⟨h4,h⟩:=ic h
  ·obtain⟨x5,h5,h⟩:=ob h;obtain⟨r6,h6,h⟩:=ob h;try simp only[hσ,h4,h5,R8,C,E,F,G,H,J]
   refine A4 (A96 h6) ?_;obtain⟨x7,h7,h⟩:=ob h;have h7n:=AE h7;try simp only[h4,h5,h7,C,E,F,G,H,J]
   refine AW (row:=zD) (y:=r6) X X h7n X X (by rfl) ?_;try simp only[h4,h5,h7,C,E,F,G,H,J]
   refine ih h ?_;try simp only[h4,h5,h7,C,E,F,G,H,J,Y]
  ·try simp only[hσ,h4,R8,Vm,C,E,F,G,H,J]
   cases h;exact t0
theorem Tc{a0}{r}(h:FY a0=N r):FC Z 62 [.sc (.sl (I zD a0))] [.sc (.o 5 (I zD r))]:=by
 unfold FY at h;refine Aa A9 cq [2] 23 ?_;simp only[cq,C,E,F,G,H,J];obtain⟨n1,hn1,h⟩:=ob h;try simp only[C,E,F,G,H,J]
 refine Df (es:=I zD (zC n1 (⟨(0:U),(0:U),(0:U),(0:U),(0:U)⟩:Xa))) X X hn1 X (CD X) X ?_;try simp only[C,E,F,G,H,J]
 refine B5o h ?_;try simp only[C,E,F,G,H,J,Y]
/- 319:laws_toPassage -/
def dD:X0:=(A1 [bo 1 0,Ai 2 [aI 0,aI 0,aB L,aI 0,aI 0]] (A1 [Ai 3 [aI 0,aI 0,aB L,aI 0,aI 0]] (A1 [fa 4 1 0,ld 5 4,fa 6 3 0,so 6 5 1] (A1 [fa 7 1 1,ld 8 7,fa 9 3 1,so 9 8 1] (A1 [fa 10 1 2,ld 11 10,fa 12 3 2,so 12 11 1] (A1 [fa 13 1 3,ld 14 13,fa 15 3 3,so 15 14 1] (A1 [fa 16 1 4,ld 17 16,fa 18 3 4,so 18 17 1] (A2 [lw 19 3 5,so 2 19 5]))))))))
theorem B0e{a0}{r}(h:S4 a0=N r):FC Z 319 [.ag (X1.row a0)] [.ag [.v (.int .i64 r.Ship),.v (.int .i64 r.Segment),.v (.bool r.Toward),.v (.int .i64 r.Start),.v (.int .i64 r.End)]]:=by
 unfold S4 at h;refine Aa A9 dD [.c 2 T 5] 20 ?_;simp only[dD,C,E,F,G,H,J];try simp only[C,E,F,G,H,J]
 refine A8 ?_;try simp only[C,E,F,G,H,J]
 refine Al ?_;try simp only[C,E,F,G,H,J]
 refine Al ?_;try simp only[C,E,F,G,H,J]
 cases h;try simp only[B7,C,E,F,G,H,J]
 trivial
/- 248:laws_toPassageS -/
def Rh:X0:=A1 [Ag [0,3,4] [] [448]] (A6 (A1 [mv 8 4,mv 9 0,ln 10 9,bn 11 .lss 8 10] (AS 11 .skip (.exit 0))) (A6 (.block 1 (.reg [mv 14 3,mv 15 4,mv 16 0,mv 17 4,ia 18 16 17 5,lw 19 18 5,ca 20 319 [S 19],ia 21 14 15 5,so 21 20 5])) (.reg [mv 12 4,Ae 13 .add 12 1,mv 4 13])))
def Vw:X0:=(A2 [mv 22 3,mv 2 22])
def dG:X0:=(A1 [AA 2] (A1 [mv 5 0,ln 6 5,(O,.mksl 7 5 40 [.int .i64 0,.int .i64 0,.bool L,.int .i64 0,.int .i64 0] (S 6) (S 6)),mv 3 7] (A6 (A1 [A5 4 0] (Aj 0 Rh)) Vw)))
def mf:=fun a0 (k_:U→(P X1)→Q (P X1))=>∀{v2 v3} {zr},k_ v2 v3=N zr→Kp Z [0,3,4] [] [448] ⟨[pL 0 X1.row a0,pW 3 448,pI 4 v2],[],[(448,5,I X1.row v3)]⟩ (.code (.loop Rh):: [.blk 0,.code Vw]) (Ah [2] [.sc (.o 5 (I X1.row zr))])
theorem B5y{a0}{n:W}:mf a0 (HX a0 n):=by
 induction n with
 | zero=>intro _ _ r h; cases h
 | succ n ih=>
  intro v2 v3 r h σ hσ;rw[HX] at h;refine Ak ?_;obtain⟨h4,h⟩|⟨h4,h⟩:=ic h
  ·obtain⟨x5,h5,h⟩:=ob h;obtain⟨r6,h6,h⟩:=ob h;try simp only[hσ,h4,h5,Rh,C,E,F,G,H,J]
   refine A4 (B0e h6) ?_;obtain⟨x7,h7,h⟩:=ob h;have h7n:=AE h7;try simp only[h4,h5,h7,C,E,F,G,H,J]
   refine AW (row:=X1.row) (y:=r6) X X h7n X X (by rfl) ?_;try simp only[h4,h5,h7,C,E,F,G,H,J]
   refine ih h ?_;try simp only[h4,h5,h7,C,E,F,G,H,J,Y]
  ·try simp only[hσ,h4,Rh,Vw,C,E,F,G,H,J]
   cases h;exact t0
theorem B0f{a0}{r}(h:N8 a0=N r):FC Z 248 [.sc (.sl (I X1.row a0))] [.sc (.o 5 (I X1.row r))]:=by
 unfold N8 at h;refine Aa A9 dG [2] 23 ?_;simp only[dG,C,E,F,G,H,J];obtain⟨n1,hn1,h⟩:=ob h;try simp only[C,E,F,G,H,J]
 refine Df (es:=I X1.row (zC n1 (⟨(0:U),(0:U),L,(0:U),(0:U)⟩:X1))) X X hn1 X (CD X) X ?_;try simp only[C,E,F,G,H,J]
 refine B5y h ?_;try simp only[C,E,F,G,H,J,Y]
/- 158:laws_toOption -/
def dI:X0:=(A1 [bo 1 0,Ai 2 [aI 0,aI 0,aI 0,.nil]] (A1 [Ai 3 [aI 0,aI 0,aI 0,.nil]] (A1 [fa 4 1 0,ld 5 4,fa 6 3 0,so 6 5 1] (A1 [fa 7 1 1,ld 8 7,fa 9 3 1,so 9 8 1] (A1 [fa 10 1 2,ld 11 10,fa 12 3 2,so 12 11 1] (A1 [fa 13 1 3,ld 14 13,ca 15 248 [S 14],fa 16 3 3,so 16 15 1] (A2 [lw 17 3 4,so 2 17 4])))))))
theorem B0b{a0}{r}(h:N6 a0=N r):FC Z 158 [.ag (X2.row a0)] [.ag [.v (.int .i64 r.Start),.v (.int .i64 r.Arrival),.v (.int .i64 r.Cost),.o 5 (I X1.row r.Passages)]]:=by
 unfold N6 at h;refine Aa A9 dI [.c 2 T 4] 18 ?_;simp only[dI,C,E,F,G,H,J];try simp only[C,E,F,G,H,J]
 refine A8 ?_;try simp only[C,E,F,G,H,J]
 refine Al ?_;try simp only[C,E,F,G,H,J]
 refine Al ?_;obtain⟨r1,h1,h⟩:=ob h;try simp only[C,E,F,G,H,J]
 refine A4 (B0f h1) ?_;try simp only[C,E,F,G,H,J]
 cases h;try simp only[B7,C,E,F,G,H,J]
 trivial
/- 70:laws_toOptionS -/
def Rr:X0:=A1 [Ag [0,3,4] [] [448]] (A6 (A1 [mv 8 4,mv 9 0,ln 10 9,bn 11 .lss 8 10] (AS 11 .skip (.exit 0))) (A6 (.block 1 (.reg [mv 14 3,mv 15 4,mv 16 0,mv 17 4,ia 18 16 17 4,lw 19 18 4,ca 20 158 [S 19],ia 21 14 15 4,(O,.frz 1283),so 21 20 4])) (.reg [mv 12 4,Ae 13 .add 12 1,mv 4 13])))
def VF:X0:=(A2 [mv 22 3,mv 2 22])
def cc74:X0:=(A1 [AA 2] (A1 [mv 5 0,ln 6 5,(O,.mksl 7 4 48 [.int .i64 0,.int .i64 0,.int .i64 0,.sl []] (S 6) (S 6)),mv 3 7] (A6 (A1 [A5 4 0] (Aj 0 Rr)) VF)))
def md:=fun a0 (k_:U→(P X2)→Q (P X2))=>∀{v2 v3} {zr},k_ v2 v3=N zr→Kp Z [0,3,4] [] [448] ⟨[(0,vc (.old (.sl (I X2.row a0)))),pW 3 448,pI 4 v2],[],[(448,4,I X2.row v3)]⟩ (.code (.loop Rr):: [.blk 0,.code VF]) (Ah [2] [.sc (.o 4 (I X2.row zr))])
theorem B54{a0}{n:W}:md a0 (HV a0 n):=by
 induction n with
 | zero=>intro _ _ r h; cases h
 | succ n ih=>
  intro v2 v3 r h σ hσ;rw[HV] at h;refine Ak ?_;obtain⟨h4,h⟩|⟨h4,h⟩:=ic h
  ·obtain⟨x5,h5,h⟩:=ob h;obtain⟨r6,h6,h⟩:=ob h;try simp only[hσ,h4,h5,Rr,C,E,F,G,H,J]
   refine B8 (B0b h6) X (BQ X ⟨X,X,X,AZ,⟨⟩⟩) X (uf X) ?_;obtain⟨x7,h7,h⟩:=ob h;have h7n:=AE h7;try simp only[h4,h5,h7,C,E,F,G,H,J]
   refine D3 ?_;try simp only[h4,h5,h7,C,E,F,G,H,J]
   refine AW (row:=X2.row) (y:=r6) X X h7n X X (by rfl) ?_;try simp only[h4,h5,h7,C,E,F,G,H,J]
   refine ih h ?_;try simp only[h4,h5,h7,C,E,F,G,H,J,Y]
  ·try simp only[hσ,h4,Rr,VF,C,E,F,G,H,J]
   cases h;exact t0
theorem sy:Bf Z 70=N (cc74.strip,[2],23):=by kernel_rfl
theorem Te(a0:P X2)(r:(P X2))(h:G0 a0=N r):FCf Z 70 [.sc (.sl (I X2.row a0))] [.sc (.o 4 (I X2.row r))]:=by
 unfold G0 at h;refine XY (σ:=⟨[(0,vc (.old (.sl (I X2.row a0))))],[],[]⟩) A9 sy X X ?_;simp only[cc74];obtain⟨n1,hn1,h⟩:=ob h;try simp only[C,E,F,G,H,J]
 refine Df (es:=I X2.row (zC n1 (⟨(0:U),(0:U),(0:U),([]:P X1)⟩:X2))) X X hn1 X (CD X) X ?_;try simp only[C,E,F,G,H,J]
 refine B54 h ?_;try simp only[C,E,F,G,H,J,Y]
/- 169:spec_l01In -/
def dL:X0:=(A1 [A3 6 L] (A2 [mv 7 0,mv 8 1,bn 9 .geq 7 8,mv 10 9,Af 10 T 11 0,Af 10 T 12 2,AI 10 T 13 .leq 11 12,pa 14 10 13,mv 6 14]))
theorem AU{a0}{a1}{a2}{r}(h:AK a0 a1 a2=N r):FC Z 169 [.sc (.int .i64 a0),.sc (.int .i64 a1),.sc (.int .i64 a2)] [.sc (.v (.bool r))]:=by
 unfold AK at h;refine Aa A9 dL [6] 15 ?_;simp only[dL,C,E,F,G,H,J];obtain⟨h1,h⟩|⟨h1,h⟩:=ic h
 ·try simp only[h1,C,E,F,G,H,J]
  cases h;exact t0
 ·try simp only[h1,C,E,F,G,H,J]
  cases h;exact t0
/- 367:spec_PartOk -/
def dM:X0:=(A1 [bo 1 0,A3 2 L] (A2 [fa 3 1 0,ld 4 3,ca 5 169 [S 4,K 0,K 1000],mv 6 5,Ac 6 T 7 1 1,Ad 6 T 8 7,Am 6 T 9 169 [S 8,K 4,K 2880],pa 10 6 9,mv 11 10,Ac 11 T 12 1 1,Ad 11 T 13 12,AQ 11 T 14 .rem 13 4,AQ 11 T 15 .eql 14 0,pa 16 11 15,mv 17 16,Ac 17 T 18 1 2,Ad 17 T 19 18,Ac 17 T 20 1 1,Ad 17 T 21 20,AQ 17 T 22 .sub 21 1,Am 17 T 23 169 [S 19,K 0,S 22],pa 24 17 23,mv 2 24]))
theorem B1a{a0}{r}(h:Nw a0=N r):FC Z 367 [.ag (zA a0)] [.sc (.v (.bool r))]:=by
 unfold Nw at h;refine Aa A9 dM [2] 25 ?_;simp only[dM,C,E,F,G,H,J];try simp only[C,E,F,G,H,J]
 refine A8 ?_;obtain⟨r1,h1,h⟩:=ob h;try simp only[C,E,F,G,H,J]
 refine A4 (AU h1) ?_;obtain⟨h2,h⟩|⟨h2,h⟩:=ic h
 ·obtain⟨r3,h3,h⟩:=ob h;try simp only[h2,C,E,F,G,H,J]
  refine A4 (AU h3) ?_;obtain⟨h4,h⟩|⟨h4,h⟩:=ic h
  ·obtain⟨h5,h⟩|⟨h5,h⟩:=ic h
   ·obtain⟨r6,h6,h⟩:=ob h;try simp only[h2,h4,h5,C,E,F,G,H,J]
    refine A4 (AU h6) ?_;try simp only[h2,h4,h5,C,E,F,G,H,J]
    cases h;exact t0
   ·try simp only[h2,h4,h5,C,E,F,G,H,J]
    cases h;exact t0
  ·try simp only[h2,h4,C,E,F,G,H,J]
   cases h;exact t0
 ·try simp only[h2,C,E,F,G,H,J]
  cases h;exact t0
/- 339:spec_TideOk -/
def Rt:X0:=A1 [Ag [16,17,18] [] []] (A1 [bn 19 .lss 18 17] (Aw 19 0 1 (A1 [ia 20 16 18 3,lw 21 20 3,Ai 4 [aI 0,aI 0,aI 0],so 4 21 3] (A1 [lw 22 4 3,ca 23 367 [S 22],nt 24 23] (At 24 (A2 [A3 2 L])))) (Av 25 18)))
def VG:X0:=(A2 [A3 2 T])
def dN:X0:=(A1 [bo 1 0,A3 2 L] (Ab [fa 5 1 0,ld 6 5,ca 7 169 [S 6,K (-1000),K 1000],nt 8 7,mv 9 8,Ac 9 L 10 1 1,Ad 9 L 11 10,B3 9 L 12 11,AQ 9 L 13 .gtr 12 4,po 14 9 13] 14 (A2 [A3 2 L]) (A6 (A1 [fa 15 1 1,ld 16 15,ln 17 16,A5 18 0] (Aj 0 Rt)) VG)))
def nc:=fun(a0:Xj) (k_:U→Q V)=>∀{v4} {zr},k_ v4=N zr→Kp Z [16,17,18] [] [] ⟨[pL 16 zA a0.Parts,pI 17 (a0.Parts.length:U),pI 18 v4],[],[]⟩ (.code (.loop Rt):: [.blk 0,.code VG]) (Ah [2] [.sc (.v (.bool zr))])
theorem B56{a0}{n:W}:nc a0 (It a0 n):=by
 induction n with
 | zero=>intro _ r h; cases h
 | succ n ih=>
  intro v4 r h σ hσ;rw[It] at h;refine Ak ?_;obtain⟨h5,h⟩|⟨h5,h⟩:=ic h
  ·obtain⟨x6,h6,h⟩:=ob h;try simp only[hσ,h5,h6,Rt,C,E,F,G,H,J]
   refine Al ?_;obtain⟨r7,h7,h⟩:=ob h;try simp only[h5,h6,C,E,F,G,H,J]
   refine A4 (B1a h7) ?_;obtain⟨h8,h⟩|⟨h8,h⟩:=ic h
   ·try simp only[h5,h6,h8,C,E,F,G,H,J]
    refine ih h ?_;try simp only[h5,h6,h8,C,E,F,G,H,J,Y]
   ·try simp only[h5,h6,h8,C,E,F,G,H,J]
    cases h;exact t0
  ·try simp only[hσ,h5,Rt,VG,C,E,F,G,H,J]
   cases h;exact t0
theorem B1n{a0}{r}(h:NH a0=N r):FC Z 339 [.ag (Xj.row a0)] [.sc (.v (.bool r))]:=by
 unfold NH at h;refine Aa A9 dN [2] 26 ?_;simp only[dN,C,E,F,G,H,J];try simp only[C,E,F,G,H,J]
 refine A8 ?_;obtain⟨r1,h1,h⟩:=ob h;try simp only[C,E,F,G,H,J]
 refine A4 (AU h1) ?_;obtain⟨h2,h⟩|⟨h2,h⟩:=ic h
 ·obtain⟨h3,h⟩|⟨h3,h⟩:=ic h
  ·try simp only[h2,h3,C,E,F,G,H,J]
   cases h;exact t0
  ·try simp only[h2,h3,C,E,F,G,H,J]
   refine B56 h ?_;try simp only[h2,h3,C,E,F,G,H,J,Y]
 ·try simp only[h2,C,E,F,G,H,J]
  cases h;exact t0
/- 340:spec_SurgeOk -/
def dO:X0:=(A1 [bo 1 0,A3 2 L] (A2 [fa 3 1 0,ld 4 3,ca 5 169 [S 4,K 0,K 2880],mv 6 5,Ac 6 T 7 1 1,Ad 6 T 8 7,Am 6 T 9 169 [S 8,K (-500),K 500],pa 10 6 9,mv 11 10,Ac 11 T 12 1 2,Ad 11 T 13 12,Ac 11 T 14 1 1,Ad 11 T 15 14,Am 11 T 16 169 [S 13,S 15,K 500],pa 17 11 16,mv 2 17]))
theorem B1m{a0}{r}(h:NG a0=N r):FC Z 340 [.ag (zB a0)] [.sc (.v (.bool r))]:=by
 unfold NG at h;refine Aa A9 dO [2] 18 ?_;simp only[dO,C,E,F,G,H,J];try simp only[C,E,F,G,H,J]
 refine A8 ?_;obtain⟨r1,h1,h⟩:=ob h;try simp only[C,E,F,G,H,J]
 refine A4 (AU h1) ?_;obtain⟨h2,h⟩|⟨h2,h⟩:=ic h
 ·obtain⟨r3,h3,h⟩:=ob h;try simp only[h2,C,E,F,G,H,J]
  refine A4 (AU h3) ?_;obtain⟨h4,h⟩|⟨h4,h⟩:=ic h
  ·obtain⟨r5,h5,h⟩:=ob h;try simp only[h2,h4,C,E,F,G,H,J]
   refine A4 (AU h5) ?_;try simp only[h2,h4,C,E,F,G,H,J]
   cases h;exact t0
  ·try simp only[h2,h4,C,E,F,G,H,J]
   cases h;exact t0
 ·try simp only[h2,C,E,F,G,H,J]
  cases h;exact t0
/- 287:spec_ForecastOk -/
def Ru:X0:=A1 [Ag [1,25,26,27] [1] []] (A1 [bn 28 .lss 27 26] (Aw 28 0 1 (A1 [mv 29 27,ia 30 25 27 3,lw 31 30 3,Ai 4 [aI 0,aI 0,aI 0],mv 3 29,so 4 31 3] (A6 (.drw [o0 (lw 32 4 3),o0 (ca 33 340 [S 32]),o0 (nt 34 33),o0 (mv 35 34),o0 (Af 35 L 36 3),o0 (AQ 35 L 37 .gtr 36 0),o0 (Af 35 L 38 37),o0 (Ac 38 T 39 4 0),o0 (Ad 38 T 40 39),o0 (Ac 38 T 41 1 2),o0 (Ad 38 T 42 41),o0 (Af 38 T 43 3),o0 (AQ 38 T 44 .sub 43 1),o0 (CB 38 T 45 42 44 3),o0 (Ac 38 T 46 45 0),o0 (Ad 38 T 47 46),o0 (AI 38 T 48 .leq 40 47),o0 (N (35,L),.pick 49 (S 38) (S 48) (KB L)),o0 (po 50 35 49)]) (At 50 (A2 [A3 2 L])))) (Av 51 27)))
def VH:X0:=(A2 [A3 2 T])
def dP:X0:=(A1 [bo 1 0,A3 2 L] (Ab [fa 5 1 0,lw 6 5 2,ca 7 339 [S 6],nt 8 7,mv 9 8,Ac 9 L 10 1 2,Ad 9 L 11 10,B3 9 L 12 11,Am 9 L 13 169 [S 12,K 1,K 6],AM 9 L 14 13,po 15 9 14,mv 16 15,Ac 16 L 17 1 2,Ad 16 L 18 17,(N (16,L),.iaddr 19 (S 18) (K 0) 3),Ac 16 L 20 19 0,Ad 16 L 21 20,AQ 16 L 22 .neq 21 0,po 23 16 22] 23 (A2 [A3 2 L]) (A6 (A1 [fa 24 1 2,ld 25 24,ln 26 25,A5 27 0] (Aj 0 Ru)) VH)))
def nG:=fun(a0:Xc) (k_:U→Q V)=>∀{v7} {zr},k_ v7=N zr→Kp Z [1,25,26,27] [1] [] ⟨[pB 1,pL 25 zB a0.Surges,pI 26 (a0.Surges.length:U),pI 27 v7],[(1,[aI a0.Tide.Mean,aM zA a0.Tide.Parts,aM zB a0.Surges])],[]⟩ (.code (.loop Ru):: [.blk 0,.code VH]) (Ah [2] [.sc (.v (.bool zr))])
theorem B57{a0}{n:W}:nG a0 (G1 a0 n):=by
 induction n with
 | zero=>intro _ r h; cases h
 | succ n ih=>
  intro v7 r h σ hσ;rw[G1] at h;refine Ak ?_;obtain⟨h8,h⟩|⟨h8,h⟩:=ic h
  ·obtain⟨x9,h9,h⟩:=ob h;try simp only[hσ,h8,h9,Ru,C,E,F,G,H,J]
   refine Al ?_;try simp only[h8,h9,C,E,F,G,H,J]
   refine Ao ?_;obtain⟨r10,h10,h⟩:=ob h;try simp only[h8,h9,C,E,F,G,H,J]
   refine AH (B1m h10) ?_;obtain⟨h11,h⟩|⟨h11,h⟩:=ic h
   ·obtain⟨h12,h⟩|⟨h12,h⟩:=ic h
    ·obtain⟨x13,h13,h⟩:=ob h;obtain⟨h14,h⟩|⟨h14,h⟩:=ic h
     ·try simp only[h8,h9,h11,h12,h13,h14,C,E,F,G,H,J]
      cases h;exact t0
     ·try simp only[h8,h9,h11,h12,h13,h14,C,E,F,G,H,J]
      refine ih h ?_;try simp only[h8,h9,h11,h12,h13,h14,C,E,F,G,H,J,Y]
    ·try simp only[h8,h9,h11,h12,C,E,F,G,H,J]
     refine ih h ?_;try simp only[h8,h9,h11,h12,C,E,F,G,H,J,Y]
   ·try simp only[h8,h9,h11,C,E,F,G,H,J]
    cases h;exact t0
  ·try simp only[hσ,h8,Ru,VH,C,E,F,G,H,J]
   cases h;exact t0
theorem XF{a0}{r}(h:Ic a0=N r):FC Z 287 [.ag (zF a0)] [.sc (.v (.bool r))]:=by
 unfold Ic at h;refine Aa A9 dP [2] 52 ?_;simp only[dP,C,E,F,G,H,J];try simp only[C,E,F,G,H,J]
 refine A8 ?_;obtain⟨r1,h1,h⟩:=ob h;try simp only[C,E,F,G,H,J]
 refine A4 (B1n h1) ?_;obtain⟨h2,h⟩|⟨h2,h⟩:=ic h
 ·obtain⟨r3,h3,h⟩:=ob h;try simp only[h2,C,E,F,G,H,J]
  refine A4 (AU h3) ?_;obtain⟨h4,h⟩|⟨h4,h⟩:=ic h
  ·obtain⟨x5,h5,h⟩:=ob h;obtain⟨h6,h⟩|⟨h6,h⟩:=ic h
   ·try simp only[h2,h4,h5,h6,C,E,F,G,H,J]
    cases h;exact t0
   ·try simp only[h2,h4,h5,h6,C,E,F,G,H,J]
    refine B57 h ?_;try simp only[h2,h4,h5,h6,C,E,F,G,H,J,Y]
  ·try simp only[h2,h4,C,E,F,G,H,J]
   cases h;exact t0
 ·try simp only[h2,C,E,F,G,H,J]
  cases h;exact t0
/- 291:spec_IsName -/
def GV:X0:=A1 [Ag [0,3,4] [] []] (A1 [mv 21 4,nt 22 21,mv 23 22,Af 23 T 24 3,AQ 23 T 25 .eql 24 0,Af 23 T 26 25,Af 26 L 27 0,Af 26 L 28 3,(N (26,L),.idx 29 (S 27) (S 28)),(N (26,L),.bin 30 .lss (S 29) (K8 48)),(N (23,T),.pick 31 (S 26) (KB T) (S 30)),Af 23 T 32 31,Af 32 L 33 0,Af 32 L 34 3,(N (32,L),.idx 35 (S 33) (S 34)),(N (32,L),.bin 36 .gtr (S 35) (K8 57)),(N (23,T),.pick 37 (S 32) (KB T) (S 36)),pa 38 23 37] (At 38 (A2 [A3 2 L])))
def Rv:X0:=A1 [Ag [0,3] [] []] (.reg [mv 9 3,Ae 10 .add 9 1,mv 3 10])
def GW:X0:=A1 [Ag [0,3] [] []] (A6 (A1 [mv 5 3,mv 6 0,(O,.slen 7 (S 6)),bn 8 .lss 5 7] (AS 8 .skip (.exit 0))) (A6 (.block 1 (A1 [mv 11 0,mv 12 3,(O,.idx 13 (S 11) (S 12)),(O,.bin 14 .geq (S 13) (K8 97)),mv 15 14,Af 15 T 16 0,Af 15 T 17 3,(N (15,T),.idx 18 (S 16) (S 17)),(N (15,T),.bin 19 .leq (S 18) (K8 122)),pa 20 15 19,mv 4 20] GV)) Rv))
def LD:X0:=(A2 [mv 39 0,(O,.slen 40 (S 39)),ca 41 169 [S 40,K 1,K 8],mv 2 41])
def dR:X0:=(A1 [A3 2 L] (A6 (A1 [A5 3 0] (Aj 0 GW)) LD))
def nL:=fun a0 v1 (k_:Q V)=>∀{zr},k_=N zr→Kp Z [0,3] [] [] ⟨[(0,vc (aS a0)),pI 3 v1],[],[]⟩ (.code Rv:: [.code (.loop GW),.blk 0,.code LD]) (Ah [2] [.sc (.v (.bool zr))])
def nK:=fun a0 v1 (k_:V→Q V)=>∀{v5} {zr},k_ v5=N zr→Kp Z [0,3,4] [] [] ⟨[(0,vc (aS a0)),pI 3 v1,(4,vc (aB v5))],[],[]⟩ (.code GV:: [.blk 1,.code Rv,.code (.loop GW),.blk 0,.code LD]) (Ah [2] [.sc (.v (.bool zr))])
def Tn:=fun a0 (k_:U→Q V)=>∀{v1} {zr},k_ v1=N zr→Kp Z [0,3] [] [] ⟨[(0,vc (aS a0)),pI 3 v1],[],[]⟩ (.code (.loop GW):: [.blk 0,.code LD]) (Ah [2] [.sc (.v (.bool zr))])
theorem kb{a0 v1}{Ep}(Sy:Tn a0 Ep):nL a0 v1 (Nr a0 v1 Ep):=by
 intro r h σ hσ;unfold Nr at h;try simp only[hσ,Rv,C,E,F,G,H,J]
 refine Sy h ?_;try simp only[C,E,F,G,H,J,Y]
theorem ke{a0 v1}{Ep}(Sy:Tn a0 Ep):nK a0 v1 (Nq a0 v1 Ep):=by
 intro v5 r h σ hσ;unfold Nq at h;obtain⟨h6,h⟩|⟨h6,h⟩:=ic h
 ·try simp only[hσ,h6,GV,C,E,F,G,H,J]
  refine kb Sy h ?_;try simp only[h6,C,E,F,G,H,J,Y]
 ·obtain⟨h7,h⟩|⟨h7,h⟩:=ic h
  ·try simp only[hσ,h6,h7,GV,C,E,F,G,H,J]
   cases h;exact t0
  ·obtain⟨b8,h8,h⟩:=ob h;obtain⟨h9,h⟩|⟨h9,h⟩:=ic h
   ·try simp only[hσ,h6,h7,h8,h9,GV,C,E,F,G,H,J]
    cases h;exact t0
   ·obtain⟨h10,h⟩|⟨h10,h⟩:=ic h
    ·try simp only[hσ,h6,h7,h8,h9,h10,GV,C,E,F,G,H,J]
     cases h;exact t0
    ·try simp only[hσ,h6,h7,h8,h9,h10,GV,C,E,F,G,H,J]
     refine kb Sy h ?_;try simp only[h6,h7,h8,h9,h10,C,E,F,G,H,J,Y]
theorem B58{a0}{n:W}:Tn a0 (G3 a0 n):=by
 induction n with
 | zero=>intro _ r h; cases h
 | succ n ih=>
  intro v1 r h σ hσ;rw[G3] at h;refine Ak ?_;obtain⟨h2,h⟩|⟨h2,h⟩:=ic h
  ·obtain⟨b3,h3,h⟩:=ob h;obtain⟨h4,h⟩|⟨h4,h⟩:=ic h
   ·try simp only[hσ,h2,h3,h4,GW,C,E,F,G,H,J]
    refine ke ih h ?_;try simp only[h2,h3,h4,C,E,F,G,H,J,Y]
   ·try simp only[hσ,h2,h3,h4,GW,C,E,F,G,H,J]
    refine ke ih h ?_;try simp only[h2,h3,h4,C,E,F,G,H,J,Y]
  ·obtain⟨r11,h11,h⟩:=ob h;try simp only[hσ,h2,GW,LD,C,E,F,G,H,J]
   refine A4 (AU h11) ?_;try simp only[h2,C,E,F,G,H,J]
   cases h;exact t0
theorem jL{a0}{r}(h:Kb a0=N r):FC Z 291 [.sc (.str a0)] [.sc (.v (.bool r))]:=by
 unfold Kb at h;refine Aa A9 dR [2] 42 ?_;simp only[dR,C,E,F,G,H,J];try simp only[C,E,F,G,H,J]
 refine B58 h ?_;try simp only[C,E,F,G,H,J,Y]
/- 292:spec_PointNamed -/
def Rw:X0:=A1 [Ag [1,8,9,10] [] []] (A1 [bn 11 .lss 10 9] (Aw 11 0 1 (A1 [mv 12 10,ia 13 8 10 2,lw 14 13 2,Ai 6 [aS [],aB L],mv 5 12,so 6 14 2] (A1 [fa 15 6 0,ld 16 15,mv 17 1,bn 18 .eql 16 17] (At 18 (A2 [mv 19 5,mv 4 19])))) (Av 20 10)))
def VI:X0:=(A2 [A5 4 (-1)])
def dS:X0:=(A1 [bo 2 0,A5 4 0] (A6 (A1 [fa 7 2 0,ld 8 7,ln 9 8,A5 10 0] (Aj 0 Rw)) VI))
def nW:=fun a1 (a0:X6) (k_:U→Q U)=>∀{v1} {zr},k_ v1=N zr→Kp Z [1,8,9,10] [] [] ⟨[(1,vc (aS a1)),pL 8 X9.row a0.Points,pI 9 (a0.Points.length:U),pI 10 v1],[],[]⟩ (.code (.loop Rw):: [.blk 0,.code VI]) (Ah [4] [.sc (.v (.int .i64 zr))])
theorem B59{a1 a0}{n:W}:nW a1 a0 (Il a1 a0 n):=by
 induction n with
 | zero=>intro _ r h; cases h
 | succ n ih=>
  intro v1 r h σ hσ;rw[Il] at h;refine Ak ?_;obtain⟨h2,h⟩|⟨h2,h⟩:=ic h
  ·obtain⟨x3,h3,h⟩:=ob h;try simp only[hσ,h2,h3,Rw,C,E,F,G,H,J]
   refine Al ?_;obtain⟨h4,h⟩|⟨h4,h⟩:=ic h
   ·try simp only[h2,h3,h4,C,E,F,G,H,J]
    cases h;exact t0
   ·try simp only[h2,h3,h4,C,E,F,G,H,J]
    refine ih h ?_;try simp only[h2,h3,h4,C,E,F,G,H,J,Y]
  ·try simp only[hσ,h2,Rw,VI,C,E,F,G,H,J]
   cases h;exact t0
theorem B1e{a0}{a1}{r}(h:NB a0 a1=N r):FC Z 292 [.ag (X6.row a0),.sc (.str a1)] [.sc (.v (.int .i64 r))]:=by
 unfold NB at h;refine Aa A9 dS [4] 21 ?_;simp only[dS,C,E,F,G,H,J];try simp only[C,E,F,G,H,J]
 refine A8 ?_;try simp only[C,E,F,G,H,J]
 refine B59 h ?_;try simp only[C,E,F,G,H,J,Y]
/- 293:spec_l05Joins -/
def YP:X0:=(A1 [bo 3 0,A3 6 L] (A2 [fa 7 3 0,ld 8 7,mv 9 1,bn 10 .eql 8 9,mv 11 10,Ac 11 T 12 3 1,Ad 11 T 13 12,Af 11 T 14 2,AI 11 T 15 .eql 13 14,pa 16 11 15,mv 17 16,Ac 17 L 18 3 0,Ad 17 L 19 18,Af 17 L 20 2,AI 17 L 21 .eql 19 20,Af 17 L 22 21,Ac 22 T 23 3 1,Ad 22 T 24 23,Af 22 T 25 1,AI 22 T 26 .eql 24 25,(N (17,L),.pick 27 (S 22) (S 26) (KB L)),po 28 17 27,mv 6 28]))
theorem B1v{a0}{a1}{a2}{r}(h:NO a0 a1 a2=N r):FC Z 293 [.ag (X3.row a0),.sc (.int .i64 a1),.sc (.int .i64 a2)] [.sc (.v (.bool r))]:=by
 unfold NO at h;refine Aa A9 YP [6] 29 ?_;simp only[YP,C,E,F,G,H,J];try simp only[C,E,F,G,H,J]
 refine A8 ?_;obtain⟨h1,h⟩|⟨h1,h⟩:=ic h
 ·obtain⟨h2,h⟩|⟨h2,h⟩:=ic h
  ·try simp only[h1,h2,C,E,F,G,H,J]
   cases h;exact t0
  ·obtain⟨h3,h⟩|⟨h3,h⟩:=ic h
   ·try simp only[h1,h2,h3,C,E,F,G,H,J]
    cases h;exact t0
   ·try simp only[h1,h2,h3,C,E,F,G,H,J]
    cases h;exact t0
 ·obtain⟨h4,h⟩|⟨h4,h⟩:=ic h
  ·try simp only[h1,h4,C,E,F,G,H,J]
   cases h;exact t0
  ·try simp only[h1,h4,C,E,F,G,H,J]
   cases h;exact t0
/- 219:spec_ChartOk -/
def Pf:X0:=A1 [Ag [1,20,21,22] [1] []] (A1 [bn 23 .lss 22 21] (Aw 23 0 1 (A1 [mv 24 22,ia 25 20 22 2,lw 26 25 2,Ai 4 [aS [],aB L],mv 3 24,so 4 26 2] (A1 [fa 27 4 0,ld 28 27,ca 29 291 [S 28],nt 30 29,mv 31 30,AL 31 L 32 1 2,Ac 31 L 33 4 0,Ad 31 L 34 33,Am 31 L 35 292 [S 32,S 34],Af 31 L 36 3,AI 31 L 37 .neq 35 36,po 38 31 37] (At 38 (A2 [A3 2 L])))) (Av 39 22)))
def Pg:X0:=A1 [Ag [1,6,41,42,43,88,89,90] [1,6] []] (A1 [bn 91 .lss 90 89] (Aw 91 4 5 (A1 [ia 92 88 90 5,lw 93 92 5,Ai 8 [aI 0,aI 0,aI 0,aI 0,aB L],so 8 93 5] (A1 [lw 94 8 5,fa 95 6 0,ld 96 95,fa 97 6 1,ld 98 97,ca 99 293 [S 94,S 96,S 98]] (At 99 (A2 [A3 2 L])))) (Av 100 90)))
def TI:X0:=(Av 101 43)
def L8:X0:=A1 [Ag [1,41,42,43] [1] []] (A1 [bn 44 .lss 43 42] (Aw 44 2 3 (A1 [mv 45 43,ia 46 41 43 5,lw 47 46 5,Ai 6 [aI 0,aI 0,aI 0,aI 0,aB L],mv 5 45,so 6 47 5] (Ab [fa 48 6 0,ld 49 48,fa 50 1 0,ld 51 50,ln 52 51,Ae 53 .sub 52 1,ca 54 169 [S 49,K 0,S 53],nt 55 54,mv 56 55,Ac 56 L 57 6 1,Ad 56 L 58 57,Ac 56 L 59 1 0,Ad 56 L 60 59,B3 56 L 61 60,AQ 56 L 62 .sub 61 1,Am 56 L 63 169 [S 58,K 0,S 62],AM 56 L 64 63,po 65 56 64,mv 66 65,Ac 66 L 67 6 0,Ad 66 L 68 67,Ac 66 L 69 6 1,Ad 66 L 70 69,AI 66 L 71 .eql 68 70,po 72 66 71,mv 73 72,Ac 73 L 74 6 2,Ad 73 L 75 74,Am 73 L 76 169 [S 75,K 0,K 3000],AM 73 L 77 76,po 78 73 77,mv 79 78,Ac 79 L 80 6 3,Ad 79 L 81 80,Am 79 L 82 169 [S 81,K 1,K 240],AM 79 L 83 82,po 84 79 83] 84 (A2 [A3 2 L]) (A1 [fa 85 1 1,ld 86 85,mv 87 5,(O,.slc 88 5 (S 86) O (N (S 87)) O),ln 89 88,A5 90 0] (Aj 4 Pg)))) TI))
def Ph:X0:=(A2 [A3 2 T])
def TJ:X0:=(A6 (A1 [fa 40 1 1,ld 41 40,ln 42 41,A5 43 0] (Aj 2 L8)) Ph)
def YQ:X0:=(A1 [bo 1 0,A3 2 L] (Ab [fa 9 1 0,ld 10 9,ln 11 10,Ae 12 .gtr 11 8,mv 13 12,Ac 13 L 14 1 1,Ad 13 L 15 14,B3 13 L 16 15,AQ 13 L 17 .gtr 16 10,po 18 13 17] 18 (A2 [A3 2 L]) (A6 (A1 [fa 19 1 0,ld 20 19,ln 21 20,A5 22 0] (Aj 0 Pf)) TJ)))
def nB:=fun(a0:X6) v11 (x13:X3) y24 y25 (k_:U→Q V)=>∀{v26} {zr},k_ v26=N zr→Kp Z [1,6,41,42,43,88,89,90] [1,6] [] ⟨[pB 1,pB 6,pL 41 X3.row a0.Segments,pI 42 (a0.Segments.length:U),pI 43 v11,pL 88 X3.row y24,pI 89 y25,pI 90 v26],[(1,[aM X9.row a0.Points,aM X3.row a0.Segments]),(6,(dm x13.row))],[]⟩ (.code (.loop Pg):: [.blk 4,.blk 3,.code TI,.code (.loop L8),.blk 2,.code Ph]) (Ah [2] [.sc (.v (.bool zr))])
def Yb:=fun(a0:X6) (k_:U→Q V)=>∀{v11} {zr},k_ v11=N zr→Kp Z [1,41,42,43] [1] [] ⟨[pB 1,pL 41 X3.row a0.Segments,pI 42 (a0.Segments.length:U),pI 43 v11],[(1,[aM X9.row a0.Points,aM X3.row a0.Segments])],[]⟩ (.code (.loop L8):: [.blk 2,.code Ph]) (Ah [2] [.sc (.v (.bool zr))])
def nA:=fun(a0:X6) (k_:U→Q V)=>∀{v3} {zr},k_ v3=N zr→Kp Z [1,20,21,22] [1] [] ⟨[pB 1,pL 20 X9.row a0.Points,pI 21 (a0.Points.length:U),pI 22 v3],[(1,[aM X9.row a0.Points,aM X3.row a0.Segments])],[]⟩ (.code (.loop Pf):: [.blk 0,.code TJ]) (Ah [2] [.sc (.v (.bool zr))])
theorem B2n{a0 v11 x13 y24 y25}{Oa}(wh:Yb a0 Oa){n:W}:nB a0 v11 x13 y24 y25 (I6 a0 v11 x13 y24 y25 Oa n):=by
 induction n with
 | zero=>intro _ r h; cases h
 | succ n ih=>
  intro v26 r h σ hσ;rw[I6] at h;refine Ak ?_;obtain⟨h27,h⟩|⟨h27,h⟩:=ic h
  ·obtain⟨x28,h28,h⟩:=ob h;try simp only[hσ,h27,h28,Pg,C,E,F,G,H,J]
   refine Al ?_;obtain⟨r29,h29,h⟩:=ob h;try simp only[h27,h28,C,E,F,G,H,J]
   refine A4 (B1v h29) ?_;obtain⟨h30,h⟩|⟨h30,h⟩:=ic h
   ·try simp only[h27,h28,h30,C,E,F,G,H,J]
    cases h;exact t0
   ·try simp only[h27,h28,h30,C,E,F,G,H,J]
    refine ih h ?_;try simp only[h27,h28,h30,C,E,F,G,H,J,Y]
  ·try simp only[hσ,h27,Pg,TI,C,E,F,G,H,J]
   refine wh h ?_;try simp only[h27,C,E,F,G,H,J,Y]
theorem B2o{a0}{n:W}:Yb a0 (Eg a0 n):=by
 induction n with
 | zero=>intro _ r h; cases h
 | succ n ih=>
  intro v11 r h σ hσ;rw[Eg] at h;refine Ak ?_;obtain⟨h12,h⟩|⟨h12,h⟩:=ic h
  ·obtain⟨x13,h13,h⟩:=ob h;try simp only[hσ,h12,h13,L8,C,E,F,G,H,J]
   refine Al ?_;obtain⟨r14,h14,h⟩:=ob h;try simp only[h12,h13,C,E,F,G,H,J]
   refine A4 (AU h14) ?_;obtain⟨h15,h⟩|⟨h15,h⟩:=ic h
   ·obtain⟨r16,h16,h⟩:=ob h;try simp only[h12,h13,h15,C,E,F,G,H,J]
    refine A4 (AU h16) ?_;obtain⟨h17,h⟩|⟨h17,h⟩:=ic h
    ·obtain⟨h18,h⟩|⟨h18,h⟩:=ic h
     ·try simp only[h12,h13,h15,h17,h18,C,E,F,G,H,J]
      cases h;exact t0
     ·obtain⟨r19,h19,h⟩:=ob h;try simp only[h12,h13,h15,h17,h18,C,E,F,G,H,J]
      refine A4 (AU h19) ?_;obtain⟨h20,h⟩|⟨h20,h⟩:=ic h
      ·obtain⟨r21,h21,h⟩:=ob h;try simp only[h12,h13,h15,h17,h18,h20,C,E,F,G,H,J]
       refine A4 (AU h21) ?_;obtain⟨h22,h⟩|⟨h22,h⟩:=ic h
       ·obtain⟨p23,h23,h⟩:=ob h;try simp only[h12,h13,h15,h17,h18,h20,h22,h23,C,E,F,G,H,J]
        refine B2n ih h ?_;try simp only[h12,h13,h15,h17,h18,h20,h22,h23,C,E,F,G,H,J,Y]
       ·try simp only[h12,h13,h15,h17,h18,h20,h22,C,E,F,G,H,J]
        cases h;exact t0
      ·try simp only[h12,h13,h15,h17,h18,h20,C,E,F,G,H,J]
       cases h;exact t0
    ·try simp only[h12,h13,h15,h17,C,E,F,G,H,J]
     cases h;exact t0
   ·try simp only[h12,h13,h15,C,E,F,G,H,J]
    cases h;exact t0
  ·try simp only[hσ,h12,L8,Ph,C,E,F,G,H,J]
   cases h;exact t0
theorem B2p{a0}{n:W}:nA a0 (I5 a0 n):=by
 induction n with
 | zero=>intro _ r h; cases h
 | succ n ih=>
  intro v3 r h σ hσ;rw[I5] at h;refine Ak ?_;obtain⟨h4,h⟩|⟨h4,h⟩:=ic h
  ·obtain⟨x5,h5,h⟩:=ob h;try simp only[hσ,h4,h5,Pf,C,E,F,G,H,J]
   refine Al ?_;obtain⟨r6,h6,h⟩:=ob h;try simp only[h4,h5,C,E,F,G,H,J]
   refine A4 (jL h6) ?_;obtain⟨h7,h⟩|⟨h7,h⟩:=ic h
   ·obtain⟨r9,h9,h⟩:=ob h;try simp only[h4,h5,h7,C,E,F,G,H,J]
    refine A4 (B1e h9) ?_;obtain⟨h10,h⟩|⟨h10,h⟩:=ic h
    ·try simp only[h4,h5,h7,h10,C,E,F,G,H,J]
     cases h;exact t0
    ·try simp only[h4,h5,h7,h10,C,E,F,G,H,J]
     refine ih h ?_;try simp only[h4,h5,h7,h10,C,E,F,G,H,J,Y]
   ·try simp only[h4,h5,h7,C,E,F,G,H,J]
    cases h;exact t0
  ·try simp only[hσ,h4,Pf,TJ,C,E,F,G,H,J]
   refine B2o h ?_;try simp only[h4,C,E,F,G,H,J,Y]
theorem GF{a0}{r}(h:Dr a0=N r):FC Z 219 [.ag (X6.row a0)] [.sc (.v (.bool r))]:=by
 unfold Dr at h;refine Aa A9 YQ [2] 102 ?_;simp only[YQ,C,E,F,G,H,J];try simp only[C,E,F,G,H,J]
 refine A8 ?_;obtain⟨h1,h⟩|⟨h1,h⟩:=ic h
 ·try simp only[h1,C,E,F,G,H,J]
  cases h;exact t0
 ·obtain⟨h2,h⟩|⟨h2,h⟩:=ic h
  ·try simp only[h1,h2,C,E,F,G,H,J]
   cases h;exact t0
  ·try simp only[h1,h2,C,E,F,G,H,J]
   refine B2p h ?_;try simp only[h1,h2,C,E,F,G,H,J,Y]
/- 341:spec_ShipOk -/
def YS:X0:=(A1 [bo 1 0,A3 2 L] (A2 [fa 3 1 0,ld 4 3,ca 5 291 [S 4],mv 6 5,Ac 6 T 7 1 1,Ad 6 T 8 7,Am 6 T 9 169 [S 8,K 10,K 400],pa 10 6 9,mv 11 10,Ac 11 T 12 1 2,Ad 11 T 13 12,Am 11 T 14 169 [S 13,K 100,K 2000],pa 15 11 14,mv 16 15,Ac 16 T 17 1 3,Ad 16 T 18 17,Am 16 T 19 169 [S 18,K 0,K 3],pa 20 16 19,mv 21 20,Ac 21 T 22 1 4,Ad 21 T 23 22,Am 21 T 24 169 [S 23,K 0,K 4],pa 25 21 24,mv 2 25]))
theorem GG{a0}{r}(h:Ds a0=N r):FC Z 341 [.ag (X5.row a0)] [.sc (.v (.bool r))]:=by
 unfold Ds at h;refine Aa A9 YS [2] 26 ?_;simp only[YS,C,E,F,G,H,J];try simp only[C,E,F,G,H,J]
 refine A8 ?_;obtain⟨r1,h1,h⟩:=ob h;try simp only[C,E,F,G,H,J]
 refine A4 (jL h1) ?_;obtain⟨h2,h⟩|⟨h2,h⟩:=ic h
 ·obtain⟨r3,h3,h⟩:=ob h;try simp only[h2,C,E,F,G,H,J]
  refine A4 (AU h3) ?_;obtain⟨h4,h⟩|⟨h4,h⟩:=ic h
  ·obtain⟨r5,h5,h⟩:=ob h;try simp only[h2,h4,C,E,F,G,H,J]
   refine A4 (AU h5) ?_;obtain⟨h6,h⟩|⟨h6,h⟩:=ic h
   ·obtain⟨r7,h7,h⟩:=ob h;try simp only[h2,h4,h6,C,E,F,G,H,J]
    refine A4 (AU h7) ?_;obtain⟨h8,h⟩|⟨h8,h⟩:=ic h
    ·obtain⟨r9,h9,h⟩:=ob h;try simp only[h2,h4,h6,h8,C,E,F,G,H,J]
     refine A4 (AU h9) ?_;try simp only[h2,h4,h6,h8,C,E,F,G,H,J]
     cases h;exact t0
    ·try simp only[h2,h4,h6,h8,C,E,F,G,H,J]
     cases h;exact t0
   ·try simp only[h2,h4,h6,C,E,F,G,H,J]
    cases h;exact t0
  ·try simp only[h2,h4,C,E,F,G,H,J]
   cases h;exact t0
 ·try simp only[h2,C,E,F,G,H,J]
  cases h;exact t0
/- 342:spec_ShipNamed -/
def Pi:X0:=A1 [Ag [1,7,8,9] [] []] (A1 [bn 10 .lss 9 8] (Aw 10 0 1 (A1 [mv 11 9,ia 12 7 9 6,lw 13 12 6,Ai 6 [aS [],aI 0,aI 0,aI 0,aI 0,aB L],mv 5 11,so 6 13 6] (A1 [fa 14 6 0,ld 15 14,mv 16 1,bn 17 .eql 15 16] (At 17 (A2 [mv 18 5,mv 4 18])))) (Av 19 9)))
def TK:X0:=(A2 [A5 4 (-1)])
def YT:X0:=(A1 [A5 4 0] (A6 (A1 [mv 7 0,ln 8 7,A5 9 0] (Aj 0 Pi)) TK))
def na:=fun a1 a0 (k_:U→Q U)=>∀{v1} {zr},k_ v1=N zr→Kp Z [1,7,8,9] [] [] ⟨[(1,vc (aS a1)),pL 7 X5.row a0,pI 8 (a0.length:U),pI 9 v1],[],[]⟩ (.code (.loop Pi):: [.blk 0,.code TK]) (Ah [4] [.sc (.v (.int .i64 zr))])
theorem B2q{a1 a0}{n:W}:na a1 a0 (Ir a1 a0 n):=by
 induction n with
 | zero=>intro _ r h; cases h
 | succ n ih=>
  intro v1 r h σ hσ;rw[Ir] at h;refine Ak ?_;obtain⟨h2,h⟩|⟨h2,h⟩:=ic h
  ·obtain⟨x3,h3,h⟩:=ob h;try simp only[hσ,h2,h3,Pi,C,E,F,G,H,J]
   refine Al ?_;obtain⟨h4,h⟩|⟨h4,h⟩:=ic h
   ·try simp only[h2,h3,h4,C,E,F,G,H,J]
    cases h;exact t0
   ·try simp only[h2,h3,h4,C,E,F,G,H,J]
    refine ih h ?_;try simp only[h2,h3,h4,C,E,F,G,H,J,Y]
  ·try simp only[hσ,h2,Pi,TK,C,E,F,G,H,J]
   cases h;exact t0
theorem B1i{a0}{a1}{r}(h:NE a0 a1=N r):FC Z 342 [.sc (.sl (I X5.row a0)),.sc (.str a1)] [.sc (.v (.int .i64 r))]:=by
 unfold NE at h;refine Aa A9 YT [4] 20 ?_;simp only[YT,C,E,F,G,H,J];try simp only[C,E,F,G,H,J]
 refine B2q h ?_;try simp only[C,E,F,G,H,J,Y]
/- 288:spec_FleetOk -/
def Pj:X0:=A1 [Ag [0,8,9,10] [] []] (A1 [bn 11 .lss 10 9] (Aw 11 0 1 (A1 [mv 12 10,ia 13 8 10 6,lw 14 13 6,Ai 4 [aS [],aI 0,aI 0,aI 0,aI 0,aB L],mv 3 12,so 4 14 6] (A1 [lw 15 4 6,ca 16 341 [S 15],nt 17 16,mv 18 17,Af 18 L 19 0,Ac 18 L 20 4 0,Ad 18 L 21 20,Am 18 L 22 342 [S 19,S 21],Af 18 L 23 3,AI 18 L 24 .neq 22 23,po 25 18 24] (At 25 (A2 [A3 2 L])))) (Av 26 10)))
def TL:X0:=(A2 [A3 2 T])
def YU:X0:=(A1 [A3 2 L] (Ab [mv 5 0,ln 6 5,Ae 7 .gtr 6 6] 7 (A2 [A3 2 L]) (A6 (A1 [mv 8 0,ln 9 8,A5 10 0] (Aj 0 Pj)) TL)))
def nF:=fun a0 (k_:U→Q V)=>∀{v2} {zr},k_ v2=N zr→Kp Z [0,8,9,10] [] [] ⟨[pL 0 X5.row a0,pL 8 X5.row a0,pI 9 (a0.length:U),pI 10 v2],[],[]⟩ (.code (.loop Pj):: [.blk 0,.code TL]) (Ah [2] [.sc (.v (.bool zr))])
theorem B2r{a0}{n:W}:nF a0 (Ib a0 n):=by
 induction n with
 | zero=>intro _ r h; cases h
 | succ n ih=>
  intro v2 r h σ hσ;rw[Ib] at h;refine Ak ?_;obtain⟨h3,h⟩|⟨h3,h⟩:=ic h
  ·obtain⟨x4,h4,h⟩:=ob h;try simp only[hσ,h3,h4,Pj,C,E,F,G,H,J]
   refine Al ?_;obtain⟨r5,h5,h⟩:=ob h;try simp only[h3,h4,C,E,F,G,H,J]
   refine A4 (GG h5) ?_;obtain⟨h6,h⟩|⟨h6,h⟩:=ic h
   ·obtain⟨r7,h7,h⟩:=ob h;try simp only[h3,h4,h6,C,E,F,G,H,J]
    refine A4 (B1i h7) ?_;obtain⟨h8,h⟩|⟨h8,h⟩:=ic h
    ·try simp only[h3,h4,h6,h8,C,E,F,G,H,J]
     cases h;exact t0
    ·try simp only[h3,h4,h6,h8,C,E,F,G,H,J]
     refine ih h ?_;try simp only[h3,h4,h6,h8,C,E,F,G,H,J,Y]
   ·try simp only[h3,h4,h6,C,E,F,G,H,J]
    cases h;exact t0
  ·try simp only[hσ,h3,Pj,TL,C,E,F,G,H,J]
   cases h;exact t0
theorem jJ{a0}{r}(h:K7 a0=N r):FC Z 288 [.sc (.sl (I X5.row a0))] [.sc (.v (.bool r))]:=by
 unfold K7 at h;refine Aa A9 YU [2] 27 ?_;simp only[YU,C,E,F,G,H,J];obtain⟨h1,h⟩|⟨h1,h⟩:=ic h
 ·try simp only[h1,C,E,F,G,H,J]
  cases h;exact t0
 ·try simp only[h1,C,E,F,G,H,J]
  refine B2r h ?_;try simp only[h1,C,E,F,G,H,J,Y]
/- 289:spec_RegimeOk -/
def YW:X0:=(A1 [bo 1 0,A3 2 L] (A2 [fa 3 1 0,ld 4 3,ca 5 169 [S 4,K 0,K 60],mv 2 5]))
theorem jQ{a0}{r}(h:Im a0=N r):FC Z 289 [.ag (Xg.row a0)] [.sc (.v (.bool r))]:=by
 unfold Im at h;refine Aa A9 YW [2] 6 ?_;simp only[YW,C,E,F,G,H,J];try simp only[C,E,F,G,H,J]
 refine A8 ?_;obtain⟨r1,h1,h⟩:=ob h;try simp only[C,E,F,G,H,J]
 refine A4 (AU h1) ?_;try simp only[C,E,F,G,H,J]
 cases h;exact t0
/- 343:spec_l13Table -/
def Pl:X0:=A1 [Ag [15,16,17] [] []] (A1 [bn 18 .lss 17 16] (Aw 18 0 1 (A1 [ia 19 15 17 1,ld 20 19,mv 6 20] (A1 [mv 21 6,ca 22 169 [S 21,K 0,K 240],nt 23 22] (At 23 (A2 [A3 4 L])))) (Av 24 17)))
def TM:X0:=(A2 [A3 4 T])
def YX:X0:=(A1 [A3 4 L] (Ab [mv 7 0,ca 8 169 [S 7,K 0,K 2880],nt 9 8,mv 10 9,Af 10 L 11 1,B3 10 L 12 11,AQ 10 L 13 .neq 12 64,po 14 10 13] 14 (A2 [A3 4 L]) (A6 (A1 [mv 15 1,ln 16 15,A5 17 0] (Aj 0 Pl)) TM)))
def nz:=fun a1 (k_:U→Q V)=>∀{v4} {zr},k_ v4=N zr→Kp Z [15,16,17] [] [] ⟨[pL 15 rI a1,pI 16 (a1.length:U),pI 17 v4],[],[]⟩ (.code (.loop Pl):: [.blk 0,.code TM]) (Ah [4] [.sc (.v (.bool zr))])
theorem B2s{a1}{n:W}:nz a1 (Gf a1 n):=by
 induction n with
 | zero=>intro _ r h; cases h
 | succ n ih=>
  intro v4 r h σ hσ;rw[Gf] at h;refine Ak ?_;obtain⟨h5,h⟩|⟨h5,h⟩:=ic h
  ·obtain⟨x6,h6,h⟩:=ob h;obtain⟨r7,h7,h⟩:=ob h;try simp only[hσ,h5,h6,Pl,C,E,F,G,H,J]
   refine A4 (AU h7) ?_;obtain⟨h8,h⟩|⟨h8,h⟩:=ic h
   ·try simp only[h5,h6,h8,C,E,F,G,H,J]
    refine ih h ?_;try simp only[h5,h6,h8,C,E,F,G,H,J,Y]
   ·try simp only[h5,h6,h8,C,E,F,G,H,J]
    cases h;exact t0
  ·try simp only[hσ,h5,Pl,TM,C,E,F,G,H,J]
   cases h;exact t0
theorem XJ{a0}{a1}{r}(h:Ge a0 a1=N r):FC Z 343 [.sc (.int .i64 a0),.sc (.sl (I rI a1))] [.sc (.v (.bool r))]:=by
 unfold Ge at h;refine Aa A9 YX [4] 25 ?_;simp only[YX,C,E,F,G,H,J];obtain⟨r1,h1,h⟩:=ob h;try simp only[C,E,F,G,H,J]
 refine A4 (AU h1) ?_;obtain⟨h2,h⟩|⟨h2,h⟩:=ic h
 ·obtain⟨h3,h⟩|⟨h3,h⟩:=ic h
  ·try simp only[h2,h3,C,E,F,G,H,J]
   cases h;exact t0
  ·try simp only[h2,h3,C,E,F,G,H,J]
   refine B2s h ?_;try simp only[h2,h3,C,E,F,G,H,J,Y]
 ·try simp only[h2,C,E,F,G,H,J]
  cases h;exact t0
/- 290:spec_CrewOk -/
def YY:X0:=(A1 [bo 1 0,A3 2 L] (A2 [fa 3 1 0,ld 4 3,ca 5 169 [S 4,K 0,K 12],mv 6 5,Ac 6 T 7 1 1,Ad 6 T 8 7,Am 6 T 9 169 [S 8,K 0,K 12],pa 10 6 9,mv 11 10,Ac 11 T 12 1 2,Ad 11 T 13 12,Ac 11 T 14 1 3,Ad 11 T 15 14,Am 11 T 16 343 [S 13,S 15],pa 17 11 16,mv 2 17]))
theorem XE{a0}{r}(h:I8 a0=N r):FC Z 290 [.ag (Xk.row a0)] [.sc (.v (.bool r))]:=by
 unfold I8 at h;refine Aa A9 YY [2] 18 ?_;simp only[YY,C,E,F,G,H,J];try simp only[C,E,F,G,H,J]
 refine A8 ?_;obtain⟨r1,h1,h⟩:=ob h;try simp only[C,E,F,G,H,J]
 refine A4 (AU h1) ?_;obtain⟨h2,h⟩|⟨h2,h⟩:=ic h
 ·obtain⟨r3,h3,h⟩:=ob h;try simp only[h2,C,E,F,G,H,J]
  refine A4 (AU h3) ?_;obtain⟨h4,h⟩|⟨h4,h⟩:=ic h
  ·obtain⟨r5,h5,h⟩:=ob h;try simp only[h2,h4,C,E,F,G,H,J]
   refine A4 (XJ h5) ?_;try simp only[h2,h4,C,E,F,G,H,J]
   cases h;exact t0
  ·try simp only[h2,h4,C,E,F,G,H,J]
   cases h;exact t0
 ·try simp only[h2,C,E,F,G,H,J]
  cases h;exact t0
/- 218:spec_HarbourOk -/
def YZ:X0:=(A1 [bo 1 0,A3 2 L] (A2 [fa 3 1 0,lw 4 3 3,ca 5 287 [S 4],mv 6 5,Ac 6 T 7 1 3,AL 6 T 8 7 2,Am 6 T 9 219 [S 8],pa 10 6 9,mv 11 10,Ac 11 T 12 1 5,Ad 11 T 13 12,Am 11 T 14 288 [S 13],pa 15 11 14,mv 16 15,Ac 16 T 17 1 6,AL 16 T 18 17 2,Am 16 T 19 289 [S 18],pa 20 16 19,mv 21 20,Ac 21 T 22 1 8,AL 21 T 23 22 4,Am 21 T 24 290 [S 23],pa 25 21 24,mv 2 25]))
theorem jK{a0}{r}(h:Ka a0=N r):FC Z 218 [.ag (X7.row a0)] [.sc (.v (.bool r))]:=by
 unfold Ka at h;refine Aa A9 YZ [2] 26 ?_;simp only[YZ,C,E,F,G,H,J];try simp only[C,E,F,G,H,J]
 refine A8 ?_;obtain⟨r1,h1,h⟩:=ob h;try simp only[C,E,F,G,H,J]
 refine A4 (XF h1) ?_;obtain⟨h2,h⟩|⟨h2,h⟩:=ic h
 ·obtain⟨r3,h3,h⟩:=ob h;try simp only[h2,C,E,F,G,H,J]
  refine A4 (GF h3) ?_;obtain⟨h4,h⟩|⟨h4,h⟩:=ic h
  ·obtain⟨r5,h5,h⟩:=ob h;try simp only[h2,h4,C,E,F,G,H,J]
   refine A4 (jJ h5) ?_;obtain⟨h6,h⟩|⟨h6,h⟩:=ic h
   ·obtain⟨r7,h7,h⟩:=ob h;try simp only[h2,h4,h6,C,E,F,G,H,J]
    refine A4 (jQ h7) ?_;obtain⟨h8,h⟩|⟨h8,h⟩:=ic h
    ·obtain⟨r9,h9,h⟩:=ob h;try simp only[h2,h4,h6,h8,C,E,F,G,H,J]
     refine A4 (XE h9) ?_;try simp only[h2,h4,h6,h8,C,E,F,G,H,J]
     cases h;exact t0
    ·try simp only[h2,h4,h6,h8,C,E,F,G,H,J]
     cases h;exact t0
   ·try simp only[h2,h4,h6,C,E,F,G,H,J]
    cases h;exact t0
  ·try simp only[h2,h4,C,E,F,G,H,J]
   cases h;exact t0
 ·try simp only[h2,C,E,F,G,H,J]
  cases h;exact t0
/- 127:spec_CallOk -/
def Z0:X0:=(A1 [bo 2 0,bo 3 1,A3 4 L] (A1 [fa 6 2 3,fa 7 6 0,ld 8 7,ln 9 8,Ae 10 .sub 9 1,mv 5 10] (A2 [lw 11 2 12,ca 12 218 [S 11],mv 13 12,Ac 13 T 14 3 0,Ad 13 T 15 14,Ac 13 T 16 2 5,Ad 13 T 17 16,B3 13 T 18 17,AQ 13 T 19 .sub 18 1,Am 13 T 20 169 [S 15,K 0,S 19],pa 21 13 20,mv 22 21,Ac 22 T 23 3 1,Ad 22 T 24 23,Af 22 T 25 5,Am 22 T 26 169 [S 24,K 0,S 25],pa 27 22 26,mv 28 27,Ac 28 T 29 3 2,Ad 28 T 30 29,Af 28 T 31 5,Am 28 T 32 169 [S 30,K 0,S 31],pa 33 28 32,mv 34 33,Ac 34 T 35 3 1,Ad 34 T 36 35,Ac 34 T 37 3 2,Ad 34 T 38 37,AI 34 T 39 .neq 36 38,pa 40 34 39,mv 41 40,Ac 41 T 42 3 3,Ad 41 T 43 42,Am 41 T 44 169 [S 43,K 0,K 2880],pa 45 41 44,mv 46 45,Ac 46 T 47 3 4,Ad 46 T 48 47,Ac 46 T 49 3 3,Ad 46 T 50 49,Am 46 T 51 169 [S 48,S 50,K 2880],pa 52 46 51,mv 4 52])))
theorem XD{a0}{a1}{r}(h:I3 a0 a1=N r):FC Z 127 [.ag (X7.row a0),.ag (zD a1)] [.sc (.v (.bool r))]:=by
 unfold I3 at h;refine Aa A9 Z0 [4] 53 ?_;simp only[Z0,C,E,F,G,H,J];try simp only[C,E,F,G,H,J]
 refine A8 ?_;try simp only[C,E,F,G,H,J]
 refine A8 ?_;obtain⟨r1,h1,h⟩:=ob h;try simp only[C,E,F,G,H,J]
 refine A4 (jK h1) ?_;obtain⟨h2,h⟩|⟨h2,h⟩:=ic h
 ·obtain⟨r3,h3,h⟩:=ob h;try simp only[h2,C,E,F,G,H,J]
  refine A4 (AU h3) ?_;obtain⟨h4,h⟩|⟨h4,h⟩:=ic h
  ·obtain⟨r5,h5,h⟩:=ob h;try simp only[h2,h4,C,E,F,G,H,J]
   refine A4 (AU h5) ?_;obtain⟨h6,h⟩|⟨h6,h⟩:=ic h
   ·obtain⟨r7,h7,h⟩:=ob h;try simp only[h2,h4,h6,C,E,F,G,H,J]
    refine A4 (AU h7) ?_;obtain⟨h8,h⟩|⟨h8,h⟩:=ic h
    ·obtain⟨h9,h⟩|⟨h9,h⟩:=ic h
     ·obtain⟨r10,h10,h⟩:=ob h;try simp only[h2,h4,h6,h8,h9,C,E,F,G,H,J]
      refine A4 (AU h10) ?_;obtain⟨h11,h⟩|⟨h11,h⟩:=ic h
      ·obtain⟨r12,h12,h⟩:=ob h;try simp only[h2,h4,h6,h8,h9,h11,C,E,F,G,H,J]
       refine A4 (AU h12) ?_;try simp only[h2,h4,h6,h8,h9,h11,C,E,F,G,H,J]
       cases h;exact t0
      ·try simp only[h2,h4,h6,h8,h9,h11,C,E,F,G,H,J]
       cases h;exact t0
     ·try simp only[h2,h4,h6,h8,h9,C,E,F,G,H,J]
      cases h;exact t0
    ·try simp only[h2,h4,h6,h8,C,E,F,G,H,J]
     cases h;exact t0
   ·try simp only[h2,h4,h6,C,E,F,G,H,J]
    cases h;exact t0
  ·try simp only[h2,h4,C,E,F,G,H,J]
   cases h;exact t0
 ·try simp only[h2,C,E,F,G,H,J]
  cases h;exact t0
/- 150:spec_CallsOk -/
def Pm:X0:=A1 [Ag [1,2,6,17,18,19,30,31,32] [2,6] []] (A1 [bn 33 .lss 32 31] (Aw 33 2 3 (A1 [ia 34 30 32 5,lw 35 34 5,Ai 8 [aI 0,aI 0,aI 0,aI 0,aI 0],so 8 35 5] (A1 [fa 36 6 0,ld 37 36,fa 38 8 0,ld 39 38,bn 40 .eql 37 39] (At 40 (A2 [A3 4 L])))) (Av 41 32)))
def TN:X0:=(Av 42 19)
def L9:X0:=A1 [Ag [1,2,17,18,19] [2] []] (A1 [bn 20 .lss 19 18] (Aw 20 0 1 (A1 [mv 21 19,ia 22 17 19 5,lw 23 22 5,Ai 6 [aI 0,aI 0,aI 0,aI 0,aI 0],mv 5 21,so 6 23 5] (Ab [lw 24 2 12,lw 25 6 5,ca 26 127 [S 24,S 25],nt 27 26] 27 (A2 [A3 4 L]) (A1 [mv 28 1,mv 29 5,(O,.slc 30 5 (S 28) O (N (S 29)) O),ln 31 30,A5 32 0] (Aj 2 Pm)))) TN))
def Pn:X0:=(A2 [A3 4 T])
def Z1:X0:=(A1 [bo 2 0,A3 4 L] (Ab [lw 9 2 12,ca 10 218 [S 9],nt 11 10,mv 12 11,Af 12 L 13 1,B3 12 L 14 13,AQ 12 L 15 .gtr 14 6,po 16 12 15] 16 (A2 [A3 4 L]) (A6 (A1 [mv 17 1,ln 18 17,A5 19 0] (Aj 0 L9)) Pn)))
def my:=fun a1 v4 (a0:X7) (x6:Xa) y10 y11 (k_:U→Q V)=>∀{v12} {zr},k_ v12=N zr→Kp Z [1,2,6,17,18,19,30,31,32] [2,6] [] ⟨[pL 1 zD a1,pB 2,pB 6,pL 17 zD a1,pI 18 (a1.length:U),pI 19 v4,pL 30 zD y10,pI 31 y11,pI 32 v12],[(2,([aI a0.Forecast.Tide.Mean,aM zA a0.Forecast.Tide.Parts,aM zB a0.Forecast.Surges,aM X9.row a0.Chart.Points,aM X3.row a0.Chart.Segments,aM X5.row a0.Fleet,aI a0.Regime.Gap,aB a0.Regime.NoMeet]++dm a0.Crew.row)),(6,(dm x6.row))],[]⟩ (.code (.loop Pm):: [.blk 2,.blk 1,.code TN,.code (.loop L9),.blk 0,.code Pn]) (Ah [4] [.sc (.v (.bool zr))])
def Ya:=fun a1 (a0:X7) (k_:U→Q V)=>∀{v4} {zr},k_ v4=N zr→Kp Z [1,2,17,18,19] [2] [] ⟨[pL 1 zD a1,pB 2,pL 17 zD a1,pI 18 (a1.length:U),pI 19 v4],[(2,([aI a0.Forecast.Tide.Mean,aM zA a0.Forecast.Tide.Parts,aM zB a0.Forecast.Surges,aM X9.row a0.Chart.Points,aM X3.row a0.Chart.Segments,aM X5.row a0.Fleet,aI a0.Regime.Gap,aB a0.Regime.NoMeet]++dm a0.Crew.row))],[]⟩ (.code (.loop L9):: [.blk 0,.code Pn]) (Ah [4] [.sc (.v (.bool zr))])
theorem B2t{a1 v4 a0 x6 y10 y11}{O9}(wg:Ya a1 a0 O9){n:W}:my a1 v4 a0 x6 y10 y11 (K5 a1 v4 a0 x6 y10 y11 O9 n):=by
 induction n with
 | zero=>intro _ r h; cases h
 | succ n ih=>
  intro v12 r h σ hσ;rw[K5] at h;refine Ak ?_;obtain⟨h13,h⟩|⟨h13,h⟩:=ic h
  ·obtain⟨x14,h14,h⟩:=ob h;try simp only[hσ,h13,h14,Pm,C,E,F,G,H,J]
   refine Al ?_;obtain⟨h15,h⟩|⟨h15,h⟩:=ic h
   ·try simp only[h13,h14,h15,C,E,F,G,H,J]
    cases h;exact t0
   ·try simp only[h13,h14,h15,C,E,F,G,H,J]
    refine ih h ?_;try simp only[h13,h14,h15,C,E,F,G,H,J,Y]
  ·try simp only[hσ,h13,Pm,TN,C,E,F,G,H,J]
   refine wg h ?_;try simp only[h13,C,E,F,G,H,J,Y]
theorem B2u{a1 a0}{n:W}:Ya a1 a0 (K4 a1 a0 n):=by
 induction n with
 | zero=>intro _ r h; cases h
 | succ n ih=>
  intro v4 r h σ hσ;rw[K4] at h;refine Ak ?_;obtain⟨h5,h⟩|⟨h5,h⟩:=ic h
  ·obtain⟨x6,h6,h⟩:=ob h;try simp only[hσ,h5,h6,L9,C,E,F,G,H,J]
   refine Al ?_;obtain⟨r7,h7,h⟩:=ob h;try simp only[h5,h6,C,E,F,G,H,J]
   refine A4 (XD h7) ?_;obtain⟨h8,h⟩|⟨h8,h⟩:=ic h
   ·obtain⟨p9,h9,h⟩:=ob h;try simp only[h5,h6,h8,h9,C,E,F,G,H,J]
    refine B2t ih h ?_;try simp only[h5,h6,h8,h9,C,E,F,G,H,J,Y]
   ·try simp only[h5,h6,h8,C,E,F,G,H,J]
    cases h;exact t0
  ·try simp only[hσ,h5,L9,Pn,C,E,F,G,H,J]
   cases h;exact t0
theorem B0v{a0}{a1}{r}(h:Ni a0 a1=N r):FC Z 150 [.ag (X7.row a0),.sc (.sl (I zD a1))] [.sc (.v (.bool r))]:=by
 unfold Ni at h;refine Aa A9 Z1 [4] 43 ?_;simp only[Z1,C,E,F,G,H,J];try simp only[C,E,F,G,H,J]
 refine A8 ?_;obtain⟨r1,h1,h⟩:=ob h;try simp only[C,E,F,G,H,J]
 refine A4 (jK h1) ?_;obtain⟨h2,h⟩|⟨h2,h⟩:=ic h
 ·obtain⟨h3,h⟩|⟨h3,h⟩:=ic h
  ·try simp only[h2,h3,C,E,F,G,H,J]
   cases h;exact t0
  ·try simp only[h2,h3,C,E,F,G,H,J]
   refine B2u h ?_;try simp only[h2,h3,C,E,F,G,H,J,Y]
 ·try simp only[h2,C,E,F,G,H,J]
  cases h;exact t0
/- 346:spec_l05Other -/
def Z2:X0:=(A1 [bo 2 0,A5 4 0] (A6 (A1 [mv 5 1] (.block 0 (A1 [fa 7 2 0,ld 8 7,bn 9 .eql 5 8,mv 6 9] (AS 6 (A2 [fa 10 2 1,ld 11 10,mv 4 11]) (A1 [fa 13 2 1,ld 14 13,bn 15 .eql 5 14,mv 12 15] (At 12 (A2 [fa 16 2 0,ld 17 16,mv 4 17]))))))) (A2 [A5 4 (-1)])))
theorem B1w{a0}{a1}{r}(h:Si a0 a1=N r):FC Z 346 [.ag (X3.row a0),.sc (.int .i64 a1)] [.sc (.v (.int .i64 r))]:=by
 unfold Si at h;refine Aa A9 Z2 [4] 18 ?_;simp only[Z2,C,E,F,G,H,J];try simp only[C,E,F,G,H,J]
 refine A8 ?_;obtain⟨h1,h⟩|⟨h1,h⟩:=ic h
 ·try simp only[h1,C,E,F,G,H,J]
  cases h;exact t0
 ·obtain⟨h2,h⟩|⟨h2,h⟩:=ic h
  ·try simp only[h1,h2,C,E,F,G,H,J]
   cases h;exact t0
  ·try simp only[h1,h2,C,E,F,G,H,J]
   cases h;exact t0
/- 168:spec_l05Has -/
def La:X0:=A1 [Ag [1,7,8,9] [] []] (A1 [bn 10 .lss 9 8] (Aw 10 0 1 (A1 [ia 11 7 9 1,ld 12 11,mv 6 12] (A1 [mv 13 6,mv 14 1,bn 15 .eql 13 14] (At 15 (A2 [A3 4 T])))) (Av 16 9)))
def TP:X0:=(A2 [A3 4 L])
def Z3:X0:=(A1 [A3 4 L] (A6 (A1 [mv 7 0,ln 8 7,A5 9 0] (Aj 0 La)) TP))
def nk:=fun a1 a0 (k_:U→Q V)=>∀{v1} {zr},k_ v1=N zr→Kp Z [1,7,8,9] [] [] ⟨[pI 1 a1,pL 7 rI a0,pI 8 (a0.length:U),pI 9 v1],[],[]⟩ (.code (.loop La):: [.blk 0,.code TP]) (Ah [4] [.sc (.v (.bool zr))])
theorem B2v{a1 a0}{n:W}:nk a1 a0 (Ix a1 a0 n):=by
 induction n with
 | zero=>intro _ r h; cases h
 | succ n ih=>
  intro v1 r h σ hσ;rw[Ix] at h;refine Ak ?_;obtain⟨h2,h⟩|⟨h2,h⟩:=ic h
  ·obtain⟨x3,h3,h⟩:=ob h;obtain⟨h4,h⟩|⟨h4,h⟩:=ic h
   ·try simp only[hσ,h2,h3,h4,La,C,E,F,G,H,J]
    cases h;exact t0
   ·try simp only[hσ,h2,h3,h4,La,C,E,F,G,H,J]
    refine ih h ?_;try simp only[h2,h3,h4,C,E,F,G,H,J,Y]
  ·try simp only[hσ,h2,La,TP,C,E,F,G,H,J]
   cases h;exact t0
theorem B1u{a0}{a1}{r}(h:NN a0 a1=N r):FC Z 168 [.sc (.sl (I rI a0)),.sc (.int .i64 a1)] [.sc (.v (.bool r))]:=by
 unfold NN at h;refine Aa A9 Z3 [4] 17 ?_;simp only[Z3,C,E,F,G,H,J];try simp only[C,E,F,G,H,J]
 refine B2v h ?_;try simp only[C,E,F,G,H,J,Y]
/- 298:spec_l05Points -/
def Po:X0:=A1 [Ag [3,8,11,14,15,16,45] [3] [832]] (At 45 (A2 [AA 6,A3 7 L]))
def TQ:X0:=(.reg [mv 46 8,mv 47 11,AO 48 1 [.int .i64 0] 1 [(0,(S 47))],Bl 49 1 8 46 48,mv 8 49])
def TR:X0:=(Av 50 16)
def Lb:X0:=A1 [Ag [3,8,14,15,16] [3] [832]] (A1 [bn 17 .lss 16 15] (Aw 17 0 1 (A1 [ia 18 14 16 1,ld 19 18,mv 10 19] (Ab [mv 20 10,fa 21 3 1,ld 22 21,ln 23 22,Ae 24 .sub 23 1,ca 25 169 [S 20,K 0,S 24],nt 26 25] 26 (A2 [AA 6,A3 7 L]) (A6 (.drw [o0 (fa 27 3 1),o0 (ld 28 27),o0 (mv 29 10),o0 (ia 30 28 29 5),o0 (lw 31 30 5),o0 (mv 32 8),o0 (mv 33 8),o0 (ln 34 33),o0 (Ae 35 .sub 34 1),o0 (ia 36 32 35 1),o0 (ld 37 36),o0 (ca 38 346 [S 31,S 37]),o0 (mv 11 38)]) (A6 (A1 [mv 39 11,Ae 40 .lss 39 0,mv 41 40,Af 41 L 42 8,Af 41 L 43 11,Am 41 L 44 168 [S 42,S 43],po 45 41 44] Po) TQ)))) TR))
def Pp:X0:=(A2 [mv 51 8,mv 6 51,A3 7 T])
def Z5:X0:=(A1 [bo 3 0,AA 6,A3 7 L] (A1 [mv 12 1,AO 13 1 [.int .i64 0] 1 [(0,(S 12))],mv 8 13] (A6 (A1 [mv 14 2,ln 15 14,A5 16 0] (Aj 0 Lb)) Pp)))
def nl:=fun r9 a2 v1 (a0:X6) v2 (k_:V→Q ((P U) × V))=>∀{v12} {zr},k_ v12=N zr→Kp Z [3,8,11,14,15,16,45] [3] [832] ⟨[pB 3,pW 8 832,pI 11 r9,pL 14 rI a2,pI 15 (a2.length:U),pI 16 v1,(45,vc (aB v12))],[(3,[aM X9.row a0.Points,aM X3.row a0.Segments])],[(832,1,I rI v2)]⟩ (.code Po:: [.code TQ,.blk 1,.code TR,.code (.loop Lb),.blk 0,.code Pp]) (Ah [6,7] [.sc (.o 1 (I rI zr.1)),.sc (.v (.bool zr.2))])
def Yf:=fun a2 (a0:X6) (k_:U→(P U)→Q ((P U) × V))=>∀{v1 v2} {zr},k_ v1 v2=N zr→Kp Z [3,8,14,15,16] [3] [832] ⟨[pB 3,pW 8 832,pL 14 rI a2,pI 15 (a2.length:U),pI 16 v1],[(3,[aM X9.row a0.Points,aM X3.row a0.Segments])],[(832,1,I rI v2)]⟩ (.code (.loop Lb):: [.blk 0,.code Pp]) (Ah [6,7] [.sc (.o 1 (I rI zr.1)),.sc (.v (.bool zr.2))])
theorem jY{r9 a2 v1 a0 v2}{SL}(wk:Yf a2 a0 SL):nl r9 a2 v1 a0 v2 (Iy r9 a2 v1 a0 v2 SL):=by
 intro v12 r h σ hσ;unfold Iy at h;obtain⟨h13,h⟩|⟨h13,h⟩:=ic h
 ·try simp only[hσ,h13,Po,C,E,F,G,H,J]
  cases h;trivial
 ·try simp only[hσ,h13,Po,TQ,C,E,F,G,H,J]
  refine AD (es:=I rI ([r9]:P U)) ?_;obtain⟨h14,h⟩:=Ba h;try simp only[h13,h14,TR,C,E,F,G,H,J]
  refine wk h ?_;try simp only[h13,h14,C,E,F,G,H,J,Y]
theorem B2w{a2 a0}{n:W}:Yf a2 a0 (Ga a2 a0 n):=by
 induction n with
 | zero=>intro _ _ r h; cases h
 | succ n ih=>
  intro v1 v2 r h σ hσ;rw[Ga] at h;refine Ak ?_;obtain⟨h3,h⟩|⟨h3,h⟩:=ic h
  ·obtain⟨x4,h4,h⟩:=ob h;obtain⟨r5,h5,h⟩:=ob h;try simp only[hσ,h3,h4,Lb,C,E,F,G,H,J]
   refine A4 (AU h5) ?_;obtain⟨h6,h⟩|⟨h6,h⟩:=ic h
   ·try simp only[h3,h4,h6,C,E,F,G,H,J]
    refine Ao ?_;obtain⟨x7,h7,h⟩:=ob h;obtain⟨x8,h8,h⟩:=ob h;have h8n:=AE h8;obtain⟨r9,h9,h⟩:=ob h;try simp only[h3,h4,h6,h7,h8,h8n,C,E,F,G,H,J]
    refine AH (B1w h9) ?_;obtain⟨h10,h⟩|⟨h10,h⟩:=ic h
    ·try simp only[h3,h4,h6,h7,h8,h8n,h10,C,E,F,G,H,J]
     refine jY ih h ?_;try simp only[h3,h4,h6,h7,h8,h8n,h10,C,E,F,G,H,J,Y]
    ·obtain⟨r11,h11,h⟩:=ob h;try simp only[h3,h4,h6,h7,h8,h8n,h10,C,E,F,G,H,J]
     refine B8 (B1u h11) X (BK X) X (uf X) ?_;try simp only[h3,h4,h6,h7,h8,h8n,h10,C,E,F,G,H,J]
     refine jY ih h ?_;try simp only[h3,h4,h6,h7,h8,h8n,h10,C,E,F,G,H,J,Y]
   ·try simp only[h3,h4,h6,C,E,F,G,H,J]
    cases h;trivial
  ·try simp only[hσ,h3,Lb,Pp,C,E,F,G,H,J]
   cases h;trivial
theorem jS{a0}{a1}{a2}{r}(h:Kk a0 a1 a2=N r):FC Z 298 [.ag (X6.row a0),.sc (.int .i64 a1),.sc (.sl (I rI a2))] [.sc (.o 1 (I rI r.1)),.sc (.v (.bool r.2))]:=by
 unfold Kk at h;refine Aa A9 Z5 [6,7] 52 ?_;simp only[Z5,C,E,F,G,H,J];try simp only[C,E,F,G,H,J]
 refine A8 ?_;try simp only[C,E,F,G,H,J]
 refine AD (es:=I rI ([a1]:P U)) ?_;try simp only[C,E,F,G,H,J]
 refine B2w h ?_;try simp only[C,E,F,G,H,J,Y]
/- 297:spec_RouteOk -/
def Z6:X0:=(A1 [bo 3 0,A3 6 L] (Ab [lw 9 3 2,ca 10 219 [S 9],nt 11 10,mv 12 11,Af 12 L 13 1,Ac 12 L 14 3 0,Ad 12 L 15 14,B3 12 L 16 15,AQ 12 L 17 .sub 16 1,Am 12 L 18 169 [S 13,K 0,S 17],AM 12 L 19 18,po 20 12 19] 20 (A2 [A3 6 L]) (A1 [lw 22 3 2,mv 23 1,mv 24 2,ca 25 298 [S 22,S 23,S 24],mv 21 25,xt 26 21 0,xt 27 21 1,mv 7 26,mv 8 27] (A2 [mv 28 8,mv 6 28]))))
theorem XG{a0}{a1}{a2}{r}(h:G7 a0 a1 a2=N r):FC Z 297 [.ag (X6.row a0),.sc (.int .i64 a1),.sc (.sl (I rI a2))] [.sc (.v (.bool r))]:=by
 unfold G7 at h;refine Aa A9 Z6 [6] 29 ?_;simp only[Z6,C,E,F,G,H,J];try simp only[C,E,F,G,H,J]
 refine A8 ?_;obtain⟨r1,h1,h⟩:=ob h;try simp only[C,E,F,G,H,J]
 refine A4 (GF h1) ?_;obtain⟨h2,h⟩|⟨h2,h⟩:=ic h
 ·obtain⟨r3,h3,h⟩:=ob h;try simp only[h2,C,E,F,G,H,J]
  refine A4 (AU h3) ?_;obtain⟨h4,h⟩|⟨h4,h⟩:=ic h
  ·obtain⟨r5,h5,h⟩:=ob h;try simp only[h2,h4,C,E,F,G,H,J]
   refine A4 (jS h5) ?_;try simp only[h2,h4,C,E,F,G,H,J]
   cases h;exact t0
  ·try simp only[h2,h4,C,E,F,G,H,J]
   cases h;exact t0
 ·try simp only[h2,C,E,F,G,H,J]
  cases h;exact t0
/- 222:spec_RoutePoints -/
def Z7:X0:=(A1 [bo 3 0,AA 6] (Ab [lw 9 3 2,mv 10 1,mv 11 2,ca 12 297 [S 9,S 10,S 11],nt 13 12] 13 (A2 [AA 6]) (A1 [lw 15 3 2,mv 16 1,mv 17 2,ca 18 298 [S 15,S 16,S 17],mv 14 18,xt 19 14 0,xt 20 14 1,mv 7 19,mv 8 20] (A2 [mv 21 7,mv 6 21]))))
theorem XH{a0}{a1}{a2}{r}(h:G8 a0 a1 a2=N r):FC Z 222 [.ag (X6.row a0),.sc (.int .i64 a1),.sc (.sl (I rI a2))] [.sc (.o 1 (I rI r))]:=by
 unfold G8 at h;refine Aa A9 Z7 [6] 22 ?_;simp only[Z7,C,E,F,G,H,J];try simp only[C,E,F,G,H,J]
 refine A8 ?_;obtain⟨r1,h1,h⟩:=ob h;try simp only[C,E,F,G,H,J]
 refine A4 (XG h1) ?_;obtain⟨h2,h⟩|⟨h2,h⟩:=ic h
 ·obtain⟨r3,h3,h⟩:=ob h;try simp only[h2,C,E,F,G,H,J]
  refine A4 (jS h3) ?_;try simp only[h2,C,E,F,G,H,J]
  cases h;exact t0
 ·try simp only[h2,C,E,F,G,H,J]
  cases h;exact t0
/- 354:spec_l15Leads -/
def Z8:X0:=(A1 [bo 3 0,bo 4 1,A3 6 L] (A1 [fa 8 3 3,lw 9 8 2,fa 10 4 1,ld 11 10,mv 12 2,ca 13 222 [S 9,S 11,S 12],mv 7 13] (A6 (.drw [o0 (mv 14 7),o0 (ln 15 14),o0 (Ae 16 .gtr 15 1),o0 (mv 17 16),o0 (Af 17 T 18 7),o0 (Af 17 T 19 7),o0 (B3 17 T 20 19),o0 (AQ 17 T 21 .sub 20 1),o0 (CB 17 T 22 18 21 1),o0 (Ad 17 T 23 22),o0 (Ac 17 T 24 4 2),o0 (Ad 17 T 25 24),o0 (AI 17 T 26 .eql 23 25),o0 (pa 27 17 26),o0 (mv 6 27)]) .ret)))
theorem B15{a0}{a1}{a2}{r}(h:Sn a0 a1 a2=N r):FC Z 354 [.ag (X7.row a0),.ag (zD a1),.sc (.sl (I rI a2))] [.sc (.v (.bool r))]:=by
 unfold Sn at h;refine Aa A9 Z8 [6] 28 ?_;simp only[Z8,C,E,F,G,H,J];try simp only[C,E,F,G,H,J]
 refine A8 ?_;try simp only[C,E,F,G,H,J]
 refine A8 ?_;obtain⟨r1,h1,h⟩:=ob h;try simp only[C,E,F,G,H,J]
 refine A4 (XH h1) ?_;try simp only[C,E,F,G,H,J]
 refine Ao ?_;obtain⟨h2,h⟩|⟨h2,h⟩:=ic h
 ·obtain⟨x3,h3,h⟩:=ob h;have h3n:=AE h3;try simp only[h2,h3,h3n,C,E,F,G,H,J]
  cases h;exact t0
 ·try simp only[h2,C,E,F,G,H,J]
  cases h;exact t0
/- 368:spec_l07Ok -/
def Z9:X0:=(A1 [bo 3 0,bo 5 2,A3 6 L] (A2 [lw 7 3 2,ca 8 219 [S 7],mv 9 8,AL 9 T 10 5 6,Am 9 T 11 341 [S 10],pa 12 9 11,mv 13 12,Af 13 T 14 1,Ac 13 T 15 3 1,Ad 13 T 16 15,B3 13 T 17 16,AQ 13 T 18 .sub 17 1,Am 13 T 19 169 [S 14,K 0,S 18],pa 20 13 19,mv 6 20]))
theorem jT{a0}{a1}{a2}{r}(h:Iz a0 a1 a2=N r):FC Z 368 [.ag (X6.row a0),.sc (.int .i64 a1),.ag (X5.row a2)] [.sc (.v (.bool r))]:=by
 unfold Iz at h;refine Aa A9 Z9 [6] 21 ?_;simp only[Z9,C,E,F,G,H,J];try simp only[C,E,F,G,H,J]
 refine A8 ?_;try simp only[C,E,F,G,H,J]
 refine A8 ?_;obtain⟨r1,h1,h⟩:=ob h;try simp only[C,E,F,G,H,J]
 refine A4 (GF h1) ?_;obtain⟨h2,h⟩|⟨h2,h⟩:=ic h
 ·obtain⟨r3,h3,h⟩:=ob h;try simp only[h2,C,E,F,G,H,J]
  refine A4 (GG h3) ?_;obtain⟨h4,h⟩|⟨h4,h⟩:=ic h
  ·obtain⟨r5,h5,h⟩:=ob h;try simp only[h2,h4,C,E,F,G,H,J]
   refine A4 (AU h5) ?_;try simp only[h2,h4,C,E,F,G,H,J]
   cases h;exact t0
  ·try simp only[h2,h4,C,E,F,G,H,J]
   cases h;exact t0
 ·try simp only[h2,C,E,F,G,H,J]
  cases h;exact t0
/- 395:spec_SquatOf -/
def Za:X0:=(A1 [bo 1 0,A5 2 0] (Ab [lw 3 1 6,ca 4 341 [S 3],nt 5 4] 5 (A2 [A5 2 0]) (Ab [fa 6 1 5,ld 7 6] 7 (A2 [fa 8 1 2,ld 9 8,Ae 10 .quo 9 50,mv 2 10]) (A2 [fa 11 1 2,ld 12 11,Ae 13 .quo 12 20,mv 2 13]))))
theorem B1k{a0}{r}(h:Sh a0=N r):FC Z 395 [.ag (X5.row a0)] [.sc (.v (.int .i64 r))]:=by
 unfold Sh at h;refine Aa A9 Za [2] 14 ?_;simp only[Za,C,E,F,G,H,J];try simp only[C,E,F,G,H,J]
 refine A8 ?_;obtain⟨r1,h1,h⟩:=ob h;try simp only[C,E,F,G,H,J]
 refine A4 (GG h1) ?_;obtain⟨h2,h⟩|⟨h2,h⟩:=ic h
 ·obtain⟨h3,h⟩|⟨h3,h⟩:=ic h
  ·try simp only[h2,h3,C,E,F,G,H,J]
   cases h;exact t0
  ·try simp only[h2,h3,C,E,F,G,H,J]
   cases h;exact t0
 ·try simp only[h2,C,E,F,G,H,J]
  cases h;exact t0
/- 384:spec_NeedOf -/
def Zb:X0:=(A1 [bo 1 0,A5 2 0] (Ab [lw 3 1 6,ca 4 341 [S 3],nt 5 4] 5 (A2 [A5 2 0]) (A6 (.drw [(N [9],fa 6 1 2),(N [9],ld 7 6),o0 (lw 8 1 6),o0 (ca 9 395 [S 8]),o0 (bn 10 .add 7 9),o0 (Ae 11 .add 10 50),o0 (mv 2 11)]) .ret)))
theorem B07{a0}{r}(h:Sf a0=N r):FC Z 384 [.ag (X5.row a0)] [.sc (.v (.int .i64 r))]:=by
 unfold Sf at h;refine Aa A9 Zb [2] 12 ?_;simp only[Zb,C,E,F,G,H,J];try simp only[C,E,F,G,H,J]
 refine A8 ?_;obtain⟨r1,h1,h⟩:=ob h;try simp only[C,E,F,G,H,J]
 refine A4 (GG h1) ?_;obtain⟨h2,h⟩|⟨h2,h⟩:=ic h
 ·try simp only[h2,C,E,F,G,H,J]
  refine Ao ?_;obtain⟨r3,h3,h⟩:=ob h;try simp only[h2,C,E,F,G,H,J]
  refine AH (B1k h3) ?_;try simp only[h2,C,E,F,G,H,J]
  cases h;exact t0
 ·try simp only[h2,C,E,F,G,H,J]
  cases h;exact t0
/- 371:spec_LevelFor -/
def Zc:X0:=(A1 [bo 3 0,bo 5 2,A5 6 0] (Ab [lw 7 3 2,mv 8 1,lw 9 5 6,ca 10 368 [S 7,S 8,S 9],nt 11 10] 11 (A2 [A5 6 0]) (A6 (.drw [o0 (lw 12 5 6),o0 (ca 13 384 [S 12]),(N [13],fa 14 3 1),(N [13],ld 15 14),(N [13],mv 16 1),(N [13],ia 17 15 16 5),(N [13],fa 18 17 2),(N [13],ld 19 18),o0 (bn 20 .sub 13 19),o0 (mv 6 20)]) .ret)))
theorem B06{a0}{a1}{a2}{r}(h:Nu a0 a1 a2=N r):FC Z 371 [.ag (X6.row a0),.sc (.int .i64 a1),.ag (X5.row a2)] [.sc (.v (.int .i64 r))]:=by
 unfold Nu at h;refine Aa A9 Zc [6] 21 ?_;simp only[Zc,C,E,F,G,H,J];try simp only[C,E,F,G,H,J]
 refine A8 ?_;try simp only[C,E,F,G,H,J]
 refine A8 ?_;obtain⟨r1,h1,h⟩:=ob h;try simp only[C,E,F,G,H,J]
 refine A4 (jT h1) ?_;obtain⟨h2,h⟩|⟨h2,h⟩:=ic h
 ·try simp only[h2,C,E,F,G,H,J]
  refine Ao ?_;obtain⟨r3,h3,h⟩:=ob h;try simp only[h2,C,E,F,G,H,J]
  refine AH (B07 h3) ?_;obtain⟨x4,h4,h⟩:=ob h;try simp only[h2,h4,C,E,F,G,H,J]
  cases h;exact t0
 ·try simp only[h2,C,E,F,G,H,J]
  cases h;exact t0
/- 381:spec_l03Surge -/
def Pq:X0:=A1 [Ag [1,4,5,13,14,15] [4,5] []] (A1 [bn 16 .lss 15 14] (Aw 16 0 1 (A1 [ia 17 13 15 3,lw 18 17 3,Ai 7 [aI 0,aI 0,aI 0],so 7 18 3] (A1 [fa 19 7 0,ld 20 19,mv 21 1,bn 22 .leq 20 21] (At 22 (.reg [lw 23 7 3,so 5 23 3])))) (Av 24 15)))
def TS:X0:=(A2 [lw 25 5 3,so 4 25 3])
def Zd:X0:=(A1 [bo 2 0,Ai 4 [aI 0,aI 0,aI 0]] (A1 [fa 8 2 2,ld 9 8,(O,.iaddr 10 (S 9) (K 0) 3),lw 11 10 3,Ai 5 [aI 0,aI 0,aI 0],so 5 11 3] (A6 (A1 [fa 12 2 2,ld 13 12,ln 14 13,A5 15 0] (Aj 0 Pq)) TS)))
def nh:=fun a1 (a0:Xc) (k_:U→U→U→U→Q Xb)=>∀{v2 v3 v4 v5} {zr},k_ v2 v3 v4 v5=N zr→Kp Z [1,4,5,13,14,15] [4,5] [] ⟨[pI 1 a1,pB 4,pB 5,pL 13 zB a0.Surges,pI 14 (a0.Surges.length:U),pI 15 v2],[(4,[aI (0:U),aI (0:U),aI (0:U)]),(5,[aI v3,aI v4,aI v5])],[]⟩ (.code (.loop Pq):: [.blk 0,.code TS]) (Ah [.c 4 T 3] [.ag [.v (.int .i64 zr.From),.v (.int .i64 zr.Low),.v (.int .i64 zr.High)]])
theorem B2y{a1 a0}{n:W}:nh a1 a0 (F9 a1 a0 n):=by
 induction n with
 | zero=>intro _ _ _ _ r h; cases h
 | succ n ih=>
  intro v2 v3 v4 v5 r h σ hσ;rw[F9] at h;refine Ak ?_;obtain⟨h6,h⟩|⟨h6,h⟩:=ic h
  ·obtain⟨x7,h7,h⟩:=ob h;try simp only[hσ,h6,h7,Pq,C,E,F,G,H,J]
   refine Al ?_;obtain⟨h8,h⟩|⟨h8,h⟩:=ic h
   ·try simp only[h6,h7,h8,C,E,F,G,H,J]
    refine ih h ?_;try simp only[h6,h7,h8,C,E,F,G,H,J,Y]
   ·try simp only[h6,h7,h8,C,E,F,G,H,J]
    refine ih h ?_;try simp only[h6,h7,h8,C,E,F,G,H,J,Y]
  ·try simp only[hσ,h6,Pq,TS,C,E,F,G,H,J]
   cases h;try simp only[B7,C,E,F,G,H,J]
   trivial
theorem B1r{a0}{a1}{r}(h:Iv a0 a1=N r):FC Z 381 [.ag (zF a0),.sc (.int .i64 a1)] [.ag [.v (.int .i64 r.From),.v (.int .i64 r.Low),.v (.int .i64 r.High)]]:=by
 unfold Iv at h;refine Aa A9 Zd [.c 4 T 3] 26 ?_;simp only[Zd,C,E,F,G,H,J];try simp only[C,E,F,G,H,J]
 refine A8 ?_;try simp only[C,E,F,G,H,J]
 refine Al ?_;obtain⟨x1,h1,h⟩:=ob h;try simp only[h1,C,E,F,G,H,J]
 refine Al ?_;try simp only[h1,C,E,F,G,H,J]
 refine B2y h ?_;try simp only[h1,C,E,F,G,H,J,Y]
/- 394:spec_Wave -/
def Pr:X0:=A1 [Ag [1,5] [] []] (A1 [mv 26 1,Ae 27 .quo 26 2,mv 6 27] (Ab [mv 28 5,mv 29 6,bn 30 .lss 28 29] 30 (A2 [mv 31 5,(O,.bin 32 .mul (K 40000) (S 31)),mv 33 6,mv 34 5,bn 35 .sub 33 34,bn 36 .mul 32 35,mv 37 6,mv 38 6,bn 39 .mul 37 38,bn 40 .quo 36 39,mv 4 40]) (A1 [mv 41 5,mv 42 6,bn 43 .sub 41 42,mv 5 43] (A2 [mv 44 5,(O,.bin 45 .mul (K 40000) (S 44)),mv 46 6,mv 47 5,bn 48 .sub 46 47,bn 49 .mul 45 48,mv 50 6,mv 51 6,bn 52 .mul 50 51,bn 53 .quo 49 52,(O,.un 54 .neg (S 53)),mv 4 54]))))
def Zf:X0:=(A1 [A5 4 0] (Ab [mv 7 1,Ae 8 .lss 7 4,mv 9 8,Af 9 L 10 1,AQ 9 L 11 .gtr 10 2880,po 12 9 11,mv 13 12,Af 13 L 14 1,AQ 13 L 15 .rem 14 4,AQ 13 L 16 .neq 15 0,po 17 13 16] 17 (A2 [A5 4 0]) (A1 [mv 18 0,mv 19 1,bn 20 .rem 18 19,mv 5 20] (Ab [mv 21 5,Ae 22 .lss 21 0] 22 (.reg [mv 23 5,mv 24 1,bn 25 .add 23 24,mv 5 25]) Pr))))
def nd:=fun a1 (k_:U→Q U)=>∀{v6} {zr},k_ v6=N zr→Kp Z [1,5] [] [] ⟨[pI 1 a1,pI 5 v6],[],[]⟩ (.code Pr:: []) (Ah [4] [.sc (.v (.int .i64 zr))])
theorem jZ{a1}:nd a1 (NJ a1):=by
 intro v6 r h σ hσ;unfold NJ at h;obtain⟨h7,h⟩|⟨h7,h⟩:=ic h
 ·obtain⟨h8,h⟩:=Dl h;try simp only[hσ,h7,h8,Pr,C,E,F,G,H,J]
  cases h;exact t0
 ·obtain⟨h9,h⟩:=Dl h;try simp only[hσ,h7,h9,Pr,C,E,F,G,H,J]
  cases h;exact t0
theorem B1p{a0}{a1}{r}(h:NI a0 a1=N r):FC Z 394 [.sc (.int .i64 a0),.sc (.int .i64 a1)] [.sc (.v (.int .i64 r))]:=by
 unfold NI at h;refine Aa A9 Zf [4] 55 ?_;simp only[Zf,C,E,F,G,H,J];obtain⟨h1,h⟩|⟨h1,h⟩:=ic h
 ·try simp only[h1,C,E,F,G,H,J]
  cases h;exact t0
 ·obtain⟨h2,h⟩|⟨h2,h⟩:=ic h
  ·try simp only[h1,h2,C,E,F,G,H,J]
   cases h;exact t0
  ·obtain⟨h3,h⟩|⟨h3,h⟩:=ic h
   ·try simp only[h1,h2,h3,C,E,F,G,H,J]
    cases h;exact t0
   ·obtain⟨h4,h⟩:=Dl h;obtain⟨h5,h⟩|⟨h5,h⟩:=ic h
    ·try simp only[h1,h2,h3,h4,h5,C,E,F,G,H,J]
     refine jZ h ?_;try simp only[h1,h2,h3,h4,h5,C,E,F,G,H,J,Y]
    ·try simp only[h1,h2,h3,h4,h5,C,E,F,G,H,J]
     refine jZ h ?_;try simp only[h1,h2,h3,h4,h5,C,E,F,G,H,J,Y]
/- 382:spec_l02Level -/
def Ps:X0:=A1 [Ag [1,5,11,12,13] [] []] (A1 [bn 14 .lss 13 12] (Aw 14 0 1 (A1 [ia 15 11 13 3,lw 16 15 3,Ai 7 [aI 0,aI 0,aI 0],so 7 16 3] (.drw [(N [26],mv 17 5),(N [26],fa 18 7 0),(N [26],ld 19 18),o0 (mv 20 1),o0 (fa 21 7 2),o0 (ld 22 21),o0 (bn 23 .add 20 22),o0 (fa 24 7 1),o0 (ld 25 24),o0 (ca 26 394 [S 23,S 25]),o0 (bn 27 .mul 19 26),o0 (Ae 28 .quo 27 10000),o0 (bn 29 .add 17 28),o0 (mv 5 29)])) (Av 30 13)))
def TT:X0:=(A2 [mv 31 5,mv 4 31])
def Zg:X0:=(A1 [bo 2 0,A5 4 0] (A1 [fa 8 2 0,ld 9 8,mv 5 9] (A6 (A1 [fa 10 2 1,ld 11 10,ln 12 11,A5 13 0] (Aj 0 Ps)) TT)))
def ng:=fun a1 (a0:Xj) (k_:U→U→Q U)=>∀{v1 v2} {zr},k_ v1 v2=N zr→Kp Z [1,5,11,12,13] [] [] ⟨[pI 1 a1,pI 5 v1,pL 11 zA a0.Parts,pI 12 (a0.Parts.length:U),pI 13 v2],[],[]⟩ (.code (.loop Ps):: [.blk 0,.code TT]) (Ah [4] [.sc (.v (.int .i64 zr))])
theorem B2z{a1 a0}{n:W}:ng a1 a0 (Iu a1 a0 n):=by
 induction n with
 | zero=>intro _ _ r h; cases h
 | succ n ih=>
  intro v1 v2 r h σ hσ;rw[Iu] at h;refine Ak ?_;obtain⟨h3,h⟩|⟨h3,h⟩:=ic h
  ·obtain⟨x4,h4,h⟩:=ob h;try simp only[hσ,h3,h4,Ps,C,E,F,G,H,J]
   refine Al ?_;try simp only[h3,h4,C,E,F,G,H,J]
   refine Ao ?_;obtain⟨r5,h5,h⟩:=ob h;try simp only[h3,h4,C,E,F,G,H,J]
   refine AH (B1p h5) ?_;try simp only[h3,h4,C,E,F,G,H,J]
   refine ih h ?_;try simp only[h3,h4,C,E,F,G,H,J,Y]
  ·try simp only[hσ,h3,Ps,TT,C,E,F,G,H,J]
   cases h;exact t0
theorem B1q{a0}{a1}{r}(h:Kj a0 a1=N r):FC Z 382 [.ag (Xj.row a0),.sc (.int .i64 a1)] [.sc (.v (.int .i64 r))]:=by
 unfold Kj at h;refine Aa A9 Zg [4] 32 ?_;simp only[Zg,C,E,F,G,H,J];try simp only[C,E,F,G,H,J]
 refine A8 ?_;try simp only[C,E,F,G,H,J]
 refine B2z h ?_;try simp only[C,E,F,G,H,J,Y]
/- 383:spec_l04Of -/
def Pt:X0:=A1 [Ag [3,4,7,8,9,30] [] [384]] (AS 30 (.reg [mv 31 3,mv 32 3,ln 33 32,Ae 34 .sub 33 1,mv 35 4,ia 36 31 34 2,fa 37 36 1,so 37 35 1]) (.reg [mv 38 3,mv 39 4,mv 40 4,Bv 41 [aI 0,aI 0] [(0,1,(S 39)),(1,1,(S 40))],AO 42 2 [.int .i64 0,.int .i64 0] 1 [(0,(S 41))],Bl 43 2 16 38 42,mv 3 43]))
def Lc:X0:=(Av 44 9)
def GO:X0:=A1 [Ag [3,7,8,9] [] [384]] (A1 [bn 10 .lss 9 8] (Aw 10 0 1 (A1 [mv 11 9,ia 12 7 9 1,ld 13 12,mv 4 11,mv 5 13] (Ab [mv 14 5,nt 15 14] 15 (.exit 1) (A1 [mv 16 3,ln 17 16,Ae 18 .gtr 17 0,mv 19 18,Af 19 T 20 3,Af 19 T 21 3,B3 19 T 22 21,AQ 19 T 23 .sub 22 1,CB 19 T 24 20 23 2,Ac 19 T 25 24 1,Ad 19 T 26 25,Af 19 T 27 4,AQ 19 T 28 .sub 27 1,AI 19 T 29 .eql 26 28,pa 30 19 29] Pt))) Lc))
def Pu:X0:=(A2 [mv 45 3,mv 2 45])
def Zi:X0:=(A1 [AA 2] (A1 [AO 6 2 [.int .i64 0,.int .i64 0] 0 [],mv 3 6] (A6 (A1 [mv 7 0,ln 8 7,A5 9 0] (Aj 0 GO)) Pu)))
def nj:=fun v1 a0 v2 (k_:V→Q (P X4))=>∀{v8} {zr},k_ v8=N zr→Kp Z [3,4,7,8,9,30] [] [384] ⟨[pW 3 384,pI 4 v1,pL 7 rB a0,pI 8 (a0.length:U),pI 9 v1,(30,vc (aB v8))],[],[(384,2,I X4.row v2)]⟩ (.code Pt:: [.blk 1,.code Lc,.code (.loop GO),.blk 0,.code Pu]) (Ah [2] [.sc (.o 2 (I X4.row zr))])
def Ye:=fun a0 (k_:U→(P X4)→Q (P X4))=>∀{v1 v2} {zr},k_ v1 v2=N zr→Kp Z [3,7,8,9] [] [384] ⟨[pW 3 384,pL 7 rB a0,pI 8 (a0.length:U),pI 9 v1],[],[(384,2,I X4.row v2)]⟩ (.code (.loop GO):: [.blk 0,.code Pu]) (Ah [2] [.sc (.o 2 (I X4.row zr))])
theorem ja{v1 a0 v2}{Oc}(eR:Ye a0 Oc):nj v1 a0 v2 (Iw v1 a0 v2 Oc):=by
 intro v8 r h σ hσ;unfold Iw at h;obtain⟨h9,h⟩|⟨h9,h⟩:=ic h
 ·obtain⟨x10,h10,h⟩:=ob h;have h10n:=AE h10;try simp only[hσ,h9,h10,Pt,C,E,F,G,H,J]
  refine AW (row:=X4.row) (y:=(⟨x10.From,v1⟩:X4)) X X h10n X X (by rfl) ?_;try simp only[h9,h10,Lc,C,E,F,G,H,J]
  refine eR h ?_;try simp only[h9,h10,C,E,F,G,H,J,Y]
 ·try simp only[hσ,h9,Pt,C,E,F,G,H,J]
  refine AD (es:=I X4.row ([(⟨v1,v1⟩:X4)]:P X4)) ?_;obtain⟨h11,h⟩:=Ba h;try simp only[h9,h11,Lc,C,E,F,G,H,J]
  refine eR h ?_;try simp only[h9,h11,C,E,F,G,H,J,Y]
theorem B20{a0}{n:W}:Ye a0 (Eh a0 n):=by
 induction n with
 | zero=>intro _ _ r h; cases h
 | succ n ih=>
  intro v1 v2 r h σ hσ;rw[Eh] at h;refine Ak ?_;obtain⟨h3,h⟩|⟨h3,h⟩:=ic h
  ·obtain⟨x4,h4,h⟩:=ob h;obtain⟨h5,h⟩|⟨h5,h⟩:=ic h
   ·obtain⟨h6,h⟩|⟨h6,h⟩:=ic h
    ·obtain⟨x7,h7,h⟩:=ob h;have h7n:=AE h7;try simp only[hσ,h3,h4,h5,h6,h7,h7n,GO,C,E,F,G,H,J]
     refine ja ih h ?_;try simp only[h3,h4,h5,h6,h7,h7n,C,E,F,G,H,J,Y]
    ·try simp only[hσ,h3,h4,h5,h6,GO,C,E,F,G,H,J]
     refine ja ih h ?_;try simp only[h3,h4,h5,h6,C,E,F,G,H,J,Y]
   ·try simp only[hσ,h3,h4,h5,GO,Lc,C,E,F,G,H,J]
    refine ih h ?_;try simp only[h3,h4,h5,C,E,F,G,H,J,Y]
  ·try simp only[hσ,h3,GO,Pu,C,E,F,G,H,J]
   cases h;exact t0
theorem B1t{a0}{r}(h:NM a0=N r):FC Z 383 [.sc (.sl (I rB a0))] [.sc (.o 2 (I X4.row r))]:=by
 unfold NM at h;refine Aa A9 Zi [2] 46 ?_;simp only[Zi,C,E,F,G,H,J];try simp only[C,E,F,G,H,J]
 refine AD (es:=I X4.row ([]:P X4)) ?_;try simp only[C,E,F,G,H,J]
 refine B20 h ?_;try simp only[C,E,F,G,H,J,Y]
/- 370:spec_l04Levels -/
def TU:X0:=A1 [Ag [1,2,3,7,8,10] [3] [704]] (.reg [mv 24 7,fa 25 3 0,lw 26 25 2,mv 27 8,ca 28 382 [S 26,S 27],mv 29 10,bn 30 .add 28 29,mv 31 1,bn 32 .geq 30 31,AO 33 1 [.bool L] 1 [(0,(S 32))],Bl 34 1 1 24 33,mv 7 34])
def TW:X0:=(.reg [mv 14 8,Ae 15 .add 14 1,mv 8 15])
def Ld:X0:=A1 [Ag [1,2,3,7,8] [3] [704]] (A6 (A1 [mv 12 8,Ae 13 .leq 12 2880] (AS 13 .skip (.exit 0))) (A6 (.block 1 (A1 [lw 16 3 3,mv 17 8,ca 18 381 [S 16,S 17],Ai 9 [aI 0,aI 0,aI 0],so 9 18 3] (A1 [fa 19 9 1,ld 20 19,mv 10 20] (Ab [mv 21 2] 21 (.reg [fa 22 9 2,ld 23 22,mv 10 23]) TU)))) TW))
def Pv:X0:=(A2 [mv 35 7,ca 36 383 [S 35],mv 6 36])
def Zj:X0:=(A1 [bo 3 0,AA 6] (A1 [AO 11 1 [.bool L] 0 [],mv 7 11] (A6 (A1 [A5 8 0] (Aj 0 Ld)) Pv)))
def ni:=fun a1 v2 (a0:Xc) v3 (k_:V→U→Q (P X4))=>∀{v7 v8} {zr},k_ v7 v8=N zr→Kp Z [1,2,3,7,8,10] [3] [704] ⟨[pI 1 a1,(2,vc (aB v7)),pB 3,pW 7 704,pI 8 v2,pI 10 v8],[(3,[aI a0.Tide.Mean,aM zA a0.Tide.Parts,aM zB a0.Surges])],[(704,1,I rB v3)]⟩ (.code TU:: [.blk 1,.code TW,.code (.loop Ld),.blk 0,.code Pv]) (Ah [6] [.sc (.o 2 (I X4.row zr))])
def Yd:=fun a1 (a0:Xc) (k_:V→U→(P V)→Q (P X4))=>∀{v1 v2 v3} {zr},k_ v1 v2 v3=N zr→Kp Z [1,2,3,7,8] [3] [704] ⟨[pI 1 a1,(2,vc (aB v1)),pB 3,pW 7 704,pI 8 v2],[(3,[aI a0.Tide.Mean,aM zA a0.Tide.Parts,aM zB a0.Surges])],[(704,1,I rB v3)]⟩ (.code (.loop Ld):: [.blk 0,.code Pv]) (Ah [6] [.sc (.o 2 (I X4.row zr))])
theorem jb{a1 v2 a0 v3}{SK}(wj:Yd a1 a0 SK):ni a1 v2 a0 v3 (NL a1 v2 a0 v3 SK):=by
 intro v7 v8 r h σ hσ;unfold NL at h;obtain⟨r9,h9,h⟩:=ob h;try simp only[hσ,TU,C,E,F,G,H,J]
 refine A4 (B1q h9) ?_;try simp only[C,E,F,G,H,J]
 refine AD (es:=I rB ([(decide (a1≤(IntKind.i64.wrap (r9+v8))))]:P V)) ?_;obtain⟨h10,h⟩:=Ba h;try simp only[h10,TW,C,E,F,G,H,J]
 refine wj h ?_;try simp only[h10,C,E,F,G,H,J,Y]
theorem B21{a1 a0}{n:W}:Yd a1 a0 (G9 a1 a0 n):=by
 induction n with
 | zero=>intro _ _ _ r h; cases h
 | succ n ih=>
  intro v1 v2 v3 r h σ hσ;rw[G9] at h;refine Ak ?_;obtain⟨h4,h⟩|⟨h4,h⟩:=ic h
  ·obtain⟨r5,h5,h⟩:=ob h;try simp only[hσ,h4,Ld,C,E,F,G,H,J]
   refine A4 (B1r h5) ?_;try simp only[h4,C,E,F,G,H,J]
   refine Al ?_;obtain⟨h6,h⟩|⟨h6,h⟩:=ic h
   ·try simp only[h4,h6,C,E,F,G,H,J]
    refine jb ih h ?_;try simp only[h4,h6,C,E,F,G,H,J,Y]
   ·try simp only[h4,h6,C,E,F,G,H,J]
    refine jb ih h ?_;try simp only[h4,h6,C,E,F,G,H,J,Y]
  ·obtain⟨r11,h11,h⟩:=ob h;try simp only[hσ,h4,Ld,Pv,C,E,F,G,H,J]
   refine B8 (B1t h11) X (BQ X ⟨AZ,⟨⟩⟩) X (uf X) ?_;try simp only[h4,C,E,F,G,H,J]
   cases h;exact t0
theorem B1s{a0}{a1}{a2}{r}(h:NK a0 a1 a2=N r):FC Z 370 [.ag (zF a0),.sc (.int .i64 a1),.sc (.bool a2)] [.sc (.o 2 (I X4.row r))]:=by
 unfold NK at h;refine Aa A9 Zj [6] 37 ?_;simp only[Zj,C,E,F,G,H,J];try simp only[C,E,F,G,H,J]
 refine A8 ?_;try simp only[C,E,F,G,H,J]
 refine AD (es:=I rB ([]:P V)) ?_;try simp only[C,E,F,G,H,J]
 refine B21 h ?_;try simp only[C,E,F,G,H,J,Y]
/- 300:spec_l06Minutes -/
def Zl:X0:=(A1 [bo 2 0,bo 3 1,A5 4 0] (Ab [fa 5 3 5,ld 6 5] 6 (A2 [fa 7 2 3,ld 8 7,(O,.bin 9 .mul (K 2) (S 8)),mv 4 9]) (A2 [fa 10 2 3,ld 11 10,mv 4 11])))
theorem OQ{a0}{a1}{r}(h:Fa a0 a1=N r):FC Z 300 [.ag (X3.row a0),.ag (X5.row a1)] [.sc (.v (.int .i64 r))]:=by
 unfold Fa at h;refine Aa A9 Zl [4] 12 ?_;simp only[Zl,C,E,F,G,H,J];try simp only[C,E,F,G,H,J]
 refine A8 ?_;try simp only[C,E,F,G,H,J]
 refine A8 ?_;obtain⟨h1,h⟩|⟨h1,h⟩:=ic h
 ·try simp only[h1,C,E,F,G,H,J]
  cases h;exact t0
 ·try simp only[h1,C,E,F,G,H,J]
  cases h;exact t0
/- 372:spec_MinutesOn -/
def Zm:X0:=(A1 [bo 3 0,bo 5 2,A5 6 0] (Ab [lw 7 3 2,ca 8 219 [S 7],nt 9 8,mv 10 9,AL 10 L 11 5 6,Am 10 L 12 341 [S 11],AM 10 L 13 12,po 14 10 13,mv 15 14,Af 15 L 16 1,Ac 15 L 17 3 1,Ad 15 L 18 17,B3 15 L 19 18,AQ 15 L 20 .sub 19 1,Am 15 L 21 169 [S 16,K 0,S 20],AM 15 L 22 21,po 23 15 22] 23 (A2 [A5 6 0]) (A6 (.drw [o0 (fa 24 3 1),o0 (ld 25 24),o0 (mv 26 1),o0 (ia 27 25 26 5),o0 (lw 28 27 5),o0 (lw 29 5 6),o0 (ca 30 300 [S 28,S 29]),o0 (mv 6 30)]) .ret)))
theorem jN{a0}{a1}{a2}{r}(h:Kd a0 a1 a2=N r):FC Z 372 [.ag (X6.row a0),.sc (.int .i64 a1),.ag (X5.row a2)] [.sc (.v (.int .i64 r))]:=by
 unfold Kd at h;refine Aa A9 Zm [6] 31 ?_;simp only[Zm,C,E,F,G,H,J];try simp only[C,E,F,G,H,J]
 refine A8 ?_;try simp only[C,E,F,G,H,J]
 refine A8 ?_;obtain⟨r1,h1,h⟩:=ob h;try simp only[C,E,F,G,H,J]
 refine A4 (GF h1) ?_;obtain⟨h2,h⟩|⟨h2,h⟩:=ic h
 ·obtain⟨r3,h3,h⟩:=ob h;try simp only[h2,C,E,F,G,H,J]
  refine A4 (GG h3) ?_;obtain⟨h4,h⟩|⟨h4,h⟩:=ic h
  ·obtain⟨r5,h5,h⟩:=ob h;try simp only[h2,h4,C,E,F,G,H,J]
   refine A4 (AU h5) ?_;obtain⟨h6,h⟩|⟨h6,h⟩:=ic h
   ·try simp only[h2,h4,h6,C,E,F,G,H,J]
    refine Ao ?_;obtain⟨x7,h7,h⟩:=ob h;obtain⟨r9,h9,h⟩:=ob h;try simp only[h2,h4,h6,h7,C,E,F,G,H,J]
    refine AH (OQ h9) ?_;try simp only[h2,h4,h6,h7,C,E,F,G,H,J]
    cases h;exact t0
   ·try simp only[h2,h4,h6,C,E,F,G,H,J]
    cases h;exact t0
  ·try simp only[h2,h4,C,E,F,G,H,J]
   cases h;exact t0
 ·try simp only[h2,C,E,F,G,H,J]
  cases h;exact t0
/- 347:spec_WindowsOk -/
def Pw:X0:=A1 [Ag [0,5,6,7] [] []] (A1 [bn 8 .lss 7 6] (Aw 8 0 1 (A1 [mv 9 7,ia 10 5 7 2,lw 11 10 2,Ai 4 [aI 0,aI 0],mv 3 9,so 4 11 2] (A6 (.drw [o0 (fa 12 4 0),o0 (ld 13 12),o0 (ca 14 169 [S 13,K 0,K 2880]),o0 (nt 15 14),o0 (mv 16 15),o0 (Ac 16 L 17 4 1),o0 (Ad 16 L 18 17),o0 (Ac 16 L 19 4 0),o0 (Ad 16 L 20 19),o0 (Am 16 L 21 169 [S 18,S 20,K 2880]),o0 (AM 16 L 22 21),o0 (po 23 16 22),o0 (mv 24 23),o0 (Af 24 L 25 3),o0 (AQ 24 L 26 .gtr 25 0),o0 (Af 24 L 27 26),o0 (Ac 27 T 28 4 0),o0 (Ad 27 T 29 28),o0 (Af 27 T 30 0),o0 (Af 27 T 31 3),o0 (AQ 27 T 32 .sub 31 1),o0 (CB 27 T 33 30 32 2),o0 (Ac 27 T 34 33 1),o0 (Ad 27 T 35 34),o0 (AQ 27 T 36 .add 35 1),o0 (AI 27 T 37 .leq 29 36),o0 (N (24,L),.pick 38 (S 27) (S 37) (KB L)),o0 (po 39 24 38)]) (At 39 (A2 [A3 2 L])))) (Av 40 7)))
def TX:X0:=(A2 [A3 2 T])
def Zn:X0:=(A1 [A3 2 L] (A6 (A1 [mv 5 0,ln 6 5,A5 7 0] (Aj 0 Pw)) TX))
def nf:=fun a0 (k_:U→Q V)=>∀{v1} {zr},k_ v1=N zr→Kp Z [0,5,6,7] [] [] ⟨[pL 0 X4.row a0,pL 5 X4.row a0,pI 6 (a0.length:U),pI 7 v1],[],[]⟩ (.code (.loop Pw):: [.blk 0,.code TX]) (Ah [2] [.sc (.v (.bool zr))])
theorem B22{a0}{n:W}:nf a0 (F8 a0 n):=by
 induction n with
 | zero=>intro _ r h; cases h
 | succ n ih=>
  intro v1 r h σ hσ;rw[F8] at h;refine Ak ?_;obtain⟨h2,h⟩|⟨h2,h⟩:=ic h
  ·obtain⟨x3,h3,h⟩:=ob h;try simp only[hσ,h2,h3,Pw,C,E,F,G,H,J]
   refine Al ?_;try simp only[h2,h3,C,E,F,G,H,J]
   refine Ao ?_;obtain⟨r4,h4,h⟩:=ob h;try simp only[h2,h3,C,E,F,G,H,J]
   refine AH (AU h4) ?_;obtain⟨h5,h⟩|⟨h5,h⟩:=ic h
   ·obtain⟨r6,h6,h⟩:=ob h;try simp only[h2,h3,h5,C,E,F,G,H,J]
    refine AH (AU h6) ?_;obtain⟨h7,h⟩|⟨h7,h⟩:=ic h
    ·obtain⟨h8,h⟩|⟨h8,h⟩:=ic h
     ·obtain⟨x9,h9,h⟩:=ob h;obtain⟨h10,h⟩|⟨h10,h⟩:=ic h
      ·try simp only[h2,h3,h5,h7,h8,h9,h10,C,E,F,G,H,J]
       cases h;exact t0
      ·try simp only[h2,h3,h5,h7,h8,h9,h10,C,E,F,G,H,J]
       refine ih h ?_;try simp only[h2,h3,h5,h7,h8,h9,h10,C,E,F,G,H,J,Y]
     ·try simp only[h2,h3,h5,h7,h8,C,E,F,G,H,J]
      refine ih h ?_;try simp only[h2,h3,h5,h7,h8,C,E,F,G,H,J,Y]
    ·try simp only[h2,h3,h5,h7,C,E,F,G,H,J]
     cases h;exact t0
   ·try simp only[h2,h3,h5,C,E,F,G,H,J]
    cases h;exact t0
  ·try simp only[hσ,h2,Pw,TX,C,E,F,G,H,J]
   cases h;exact t0
theorem jR{a0}{r}(h:Ki a0=N r):FC Z 347 [.sc (.sl (I X4.row a0))] [.sc (.v (.bool r))]:=by
 unfold Ki at h;refine Aa A9 Zn [2] 41 ?_;simp only[Zn,C,E,F,G,H,J];try simp only[C,E,F,G,H,J]
 refine B22 h ?_;try simp only[C,E,F,G,H,J,Y]
/- 369:spec_ShrinkWindows -/
def Px:X0:=A1 [Ag [1,5,17,18,19] [] [1024]] (A1 [bn 20 .lss 19 18] (Aw 20 0 1 (A1 [ia 21 17 19 2,lw 22 21 2,Ai 7 [aI 0,aI 0],so 7 22 2] (A1 [fa 23 7 1,ld 24 23,fa 25 7 0,ld 26 25,bn 27 .sub 24 26,mv 28 1,bn 29 .geq 27 28] (At 29 (.reg [mv 30 5,fa 31 7 0,ld 32 31,fa 33 7 1,ld 34 33,mv 35 1,bn 36 .sub 34 35,Bv 37 [aI 0,aI 0] [(0,1,(S 32)),(1,1,(S 36))],AO 38 2 [.int .i64 0,.int .i64 0] 1 [(0,(S 37))],Bl 39 2 16 30 38,mv 5 39])))) (Av 40 19)))
def TY:X0:=(A2 [mv 41 5,mv 4 41])
def Zo:X0:=(A1 [AA 4] (Ab [mv 8 0,ca 9 347 [S 8],nt 10 9,mv 11 10,Af 11 L 12 1,Am 11 L 13 169 [S 12,K 0,K 2880],AM 11 L 14 13,po 15 11 14] 15 (A2 [AA 4]) (A1 [AO 16 2 [.int .i64 0,.int .i64 0] 0 [],mv 5 16] (A6 (A1 [mv 17 0,ln 18 17,A5 19 0] (Aj 0 Px)) TY))))
def nb:=fun a1 a0 (k_:U→(P X4)→Q (P X4))=>∀{v5 v6} {zr},k_ v5 v6=N zr→Kp Z [1,5,17,18,19] [] [1024] ⟨[pI 1 a1,pW 5 1024,pL 17 X4.row a0,pI 18 (a0.length:U),pI 19 v5],[],[(1024,2,I X4.row v6)]⟩ (.code (.loop Px):: [.blk 0,.code TY]) (Ah [4] [.sc (.o 2 (I X4.row zr))])
theorem B23{a1 a0}{n:W}:nb a1 a0 (F7 a1 a0 n):=by
 induction n with
 | zero=>intro _ _ r h; cases h
 | succ n ih=>
  intro v5 v6 r h σ hσ;rw[F7] at h;refine Ak ?_;obtain⟨h7,h⟩|⟨h7,h⟩:=ic h
  ·obtain⟨x8,h8,h⟩:=ob h;try simp only[hσ,h7,h8,Px,C,E,F,G,H,J]
   refine Al ?_;obtain⟨h9,h⟩|⟨h9,h⟩:=ic h
   ·try simp only[h7,h8,h9,C,E,F,G,H,J]
    refine AD (es:=I X4.row ([(⟨x8.From,(IntKind.i64.wrap (x8.To - a1))⟩:X4)]:P X4)) ?_;obtain⟨h10,h⟩:=Ba h;try simp only[h7,h8,h9,h10,C,E,F,G,H,J]
    refine ih h ?_;try simp only[h7,h8,h9,h10,C,E,F,G,H,J,Y]
   ·try simp only[h7,h8,h9,C,E,F,G,H,J]
    refine ih h ?_;try simp only[h7,h8,h9,C,E,F,G,H,J,Y]
  ·try simp only[hσ,h7,Px,TY,C,E,F,G,H,J]
   cases h;exact t0
theorem B1j{a0}{a1}{r}(h:Sg a0 a1=N r):FC Z 369 [.sc (.sl (I X4.row a0)),.sc (.int .i64 a1)] [.sc (.o 2 (I X4.row r))]:=by
 unfold Sg at h;refine Aa A9 Zo [4] 42 ?_;simp only[Zo,C,E,F,G,H,J];obtain⟨r1,h1,h⟩:=ob h;try simp only[C,E,F,G,H,J]
 refine A4 (jR h1) ?_;obtain⟨h2,h⟩|⟨h2,h⟩:=ic h
 ·obtain⟨r3,h3,h⟩:=ob h;try simp only[h2,C,E,F,G,H,J]
  refine A4 (AU h3) ?_;obtain⟨h4,h⟩|⟨h4,h⟩:=ic h
  ·try simp only[h2,h4,C,E,F,G,H,J]
   refine AD (es:=I X4.row ([]:P X4)) ?_;try simp only[h2,h4,C,E,F,G,H,J]
   refine B23 h ?_;try simp only[h2,h4,C,E,F,G,H,J,Y]
  ·try simp only[h2,h4,C,E,F,G,H,J]
   cases h;exact t0
 ·try simp only[h2,C,E,F,G,H,J]
  cases h;exact t0
/- 345:spec_l07Starts -/
def Zq:X0:=(A1 [bo 5 0,bo 6 1,bo 8 3,AA 10] (Ab [lw 11 5 3,ca 12 287 [S 11],nt 13 12,mv 14 13,AL 14 L 15 6 2,Af 14 L 16 2,AL 14 L 17 8 6,Am 14 L 18 368 [S 15,S 16,S 17],AM 14 L 19 18,po 20 14 19] 20 (A2 [AA 10]) (A6 (.drw [(N [25],lw 21 5 3),o0 (lw 22 6 2),o0 (mv 23 2),o0 (lw 24 8 6),o0 (ca 25 371 [S 22,S 23,S 24]),(N [25],mv 26 4),o0 (ca 27 370 [S 21,S 25,S 26]),(N [25,27],lw 28 6 2),(N [25,27],mv 29 2),(N [25,27],lw 30 8 6),o0 (ca 31 372 [S 28,S 29,S 30]),o0 (ca 32 369 [S 27,S 31]),o0 (mv 10 32)]) .ret)))
theorem B1x{a0}{a1}{a2}{a3}{a4}{r}(h:Sj a0 a1 a2 a3 a4=N r):FC Z 345 [.ag (zF a0),.ag (X6.row a1),.sc (.int .i64 a2),.ag (X5.row a3),.sc (.bool a4)] [.sc (.o 2 (I X4.row r))]:=by
 unfold Sj at h;refine Aa A9 Zq [10] 33 ?_;simp only[Zq,C,E,F,G,H,J];try simp only[C,E,F,G,H,J]
 refine A8 ?_;try simp only[C,E,F,G,H,J]
 refine A8 ?_;try simp only[C,E,F,G,H,J]
 refine A8 ?_;obtain⟨r1,h1,h⟩:=ob h;try simp only[C,E,F,G,H,J]
 refine A4 (XF h1) ?_;obtain⟨h2,h⟩|⟨h2,h⟩:=ic h
 ·obtain⟨r3,h3,h⟩:=ob h;try simp only[h2,C,E,F,G,H,J]
  refine A4 (jT h3) ?_;obtain⟨h4,h⟩|⟨h4,h⟩:=ic h
  ·try simp only[h2,h4,C,E,F,G,H,J]
   refine Ao ?_;obtain⟨r5,h5,h⟩:=ob h;try simp only[h2,h4,C,E,F,G,H,J]
   refine AH (B06 h5) ?_;obtain⟨r6,h6,h⟩:=ob h;try simp only[h2,h4,C,E,F,G,H,J]
   refine AH (B1s h6) ?_;obtain⟨r7,h7,h⟩:=ob h;try simp only[h2,h4,C,E,F,G,H,J]
   refine AH (jN h7) ?_;obtain⟨r9,h9,h⟩:=ob h;try simp only[h2,h4,C,E,F,G,H,J]
   refine IG (B1j h9) (by first | rfl | kernel_rfl) (BQ X ⟨AZ,⟨⟩⟩) X (uf X) ?_;try simp only[h2,h4,C,E,F,G,H,J]
   cases h;exact t0
  ·try simp only[h2,h4,C,E,F,G,H,J]
   cases h;exact t0
 ·try simp only[h2,C,E,F,G,H,J]
  cases h;exact t0
/- 296:spec_SureStarts -/
def Zr:X0:=(A1 [bo 4 0,bo 5 1,bo 7 3,AA 8] (A2 [lw 9 4 3,lw 10 5 2,mv 11 2,lw 12 7 6,ca 13 345 [S 9,S 10,S 11,S 12,KB L],mv 8 13]))
theorem B1l{a0}{a1}{a2}{a3}{r}(h:NF a0 a1 a2 a3=N r):FC Z 296 [.ag (zF a0),.ag (X6.row a1),.sc (.int .i64 a2),.ag (X5.row a3)] [.sc (.o 2 (I X4.row r))]:=by
 unfold NF at h;refine Aa A9 Zr [8] 14 ?_;simp only[Zr,C,E,F,G,H,J];try simp only[C,E,F,G,H,J]
 refine A8 ?_;try simp only[C,E,F,G,H,J]
 refine A8 ?_;try simp only[C,E,F,G,H,J]
 refine A8 ?_;obtain⟨r1,h1,h⟩:=ob h;try simp only[C,E,F,G,H,J]
 refine A4 (B1x h1) ?_;try simp only[C,E,F,G,H,J]
 cases h;exact t0
/- 221:spec_l08Starts -/
def Py:X0:=A1 [Ag [4,5,6,9,13,14,15] [4,5,6] [768]] (A1 [bn 16 .lss 15 14] (Aw 16 0 1 (A1 [ia 17 13 15 1,ld 18 17,mv 11 18] (.reg [mv 19 9,lw 20 4 3,lw 21 5 2,mv 22 11,lw 23 6 6,ca 24 296 [S 20,S 21,S 22,S 23],(O,.frz 1536),AO 25 1 [.sl []] 1 [(0,(S 24))],Bl 26 1 24 19 25,mv 9 26])) (Av 27 15)))
def TZ:X0:=(A2 [mv 28 9,mv 8 28])
def Zs:X0:=(A1 [bo 4 0,bo 5 1,bo 6 2,AA 8] (A1 [AO 12 1 [.sl []] 0 [],mv 9 12] (A6 (A1 [mv 13 3,ln 14 13,A5 15 0] (Aj 0 Py)) TZ)))
def nr:=fun a3 (a0:Xc) (a1:X6) (a2:X5) (k_:U→(P (P X4))→Q (P (P X4)))=>∀{v1 v2} {zr},k_ v1 v2=N zr→Kp Z [4,5,6,9,13,14,15] [4,5,6] [768] ⟨[pB 4,pB 5,pB 6,pW 9 768,pL 13 rI a3,pI 14 (a3.length:U),pI 15 v1],[(4,[aI a0.Tide.Mean,aM zA a0.Tide.Parts,aM zB a0.Surges]),(5,[aM X9.row a1.Points,aM X3.row a1.Segments]),(6,(dm a2.row))],[(768,1,I (rL X4.row) v2)]⟩ (.code (.loop Py):: [.blk 0,.code TZ]) (Ah [8] [.sc (.o 1 (I (rL X4.row) zr))])
theorem B24{a3 a0 a1 a2}{n:W}:nr a3 a0 a1 a2 (Gb a3 a0 a1 a2 n):=by
 induction n with
 | zero=>intro _ _ r h; cases h
 | succ n ih=>
  intro v1 v2 r h σ hσ;rw[Gb] at h;refine Ak ?_;obtain⟨h3,h⟩|⟨h3,h⟩:=ic h
  ·obtain⟨x4,h4,h⟩:=ob h;obtain⟨r5,h5,h⟩:=ob h;try simp only[hσ,h3,h4,Py,C,E,F,G,H,J]
   refine A4 (B1l h5) ?_;try simp only[h3,h4,C,E,F,G,H,J]
   refine D3 ?_;try simp only[h3,h4,C,E,F,G,H,J]
   refine AD (es:=I (rL X4.row) ([r5]:P (P X4))) ?_;obtain⟨h6,h⟩:=Ba h;try simp only[h3,h4,h6,C,E,F,G,H,J]
   refine ih h ?_;try simp only[h3,h4,h6,C,E,F,G,H,J,Y]
  ·try simp only[hσ,h3,Py,TZ,C,E,F,G,H,J]
   cases h;exact t0
theorem B1z{a0}{a1}{a2}{a3}{r}(h:Sk a0 a1 a2 a3=N r):FC Z 221 [.ag (zF a0),.ag (X6.row a1),.ag (X5.row a2),.sc (.sl (I rI a3))] [.sc (.o 1 (I (rL X4.row) r))]:=by
 unfold Sk at h;refine Aa A9 Zs [8] 29 ?_;simp only[Zs,C,E,F,G,H,J];try simp only[C,E,F,G,H,J]
 refine A8 ?_;try simp only[C,E,F,G,H,J]
 refine A8 ?_;try simp only[C,E,F,G,H,J]
 refine A8 ?_;try simp only[C,E,F,G,H,J]
 refine AD (es:=I (rL X4.row) ([]:P (P X4))) ?_;try simp only[C,E,F,G,H,J]
 refine B24 h ?_;try simp only[C,E,F,G,H,J,Y]
/- 299:spec_HasMinute -/
def Pz:X0:=A1 [Ag [1,7,8,9] [] []] (A1 [bn 10 .lss 9 8] (Aw 10 0 1 (A1 [ia 11 7 9 2,lw 12 11 2,Ai 6 [aI 0,aI 0],so 6 12 2] (A1 [mv 13 1,fa 14 6 0,ld 15 14,fa 16 6 1,ld 17 16,ca 18 169 [S 13,S 15,S 17]] (At 18 (A2 [A3 4 T])))) (Av 19 9)))
def U0:X0:=(A2 [A3 4 L])
def Zt:X0:=(A1 [A3 4 L] (A6 (A1 [mv 7 0,ln 8 7,A5 9 0] (Aj 0 Pz)) U0))
def nI:=fun a1 a0 (k_:U→Q V)=>∀{v1} {zr},k_ v1=N zr→Kp Z [1,7,8,9] [] [] ⟨[pI 1 a1,pL 7 X4.row a0,pI 8 (a0.length:U),pI 9 v1],[],[]⟩ (.code (.loop Pz):: [.blk 0,.code U0]) (Ah [4] [.sc (.v (.bool zr))])
theorem B25{a1 a0}{n:W}:nI a1 a0 (Ie a1 a0 n):=by
 induction n with
 | zero=>intro _ r h; cases h
 | succ n ih=>
  intro v1 r h σ hσ;rw[Ie] at h;refine Ak ?_;obtain⟨h2,h⟩|⟨h2,h⟩:=ic h
  ·obtain⟨x3,h3,h⟩:=ob h;try simp only[hσ,h2,h3,Pz,C,E,F,G,H,J]
   refine Al ?_;obtain⟨r4,h4,h⟩:=ob h;try simp only[h2,h3,C,E,F,G,H,J]
   refine A4 (AU h4) ?_;obtain⟨h5,h⟩|⟨h5,h⟩:=ic h
   ·try simp only[h2,h3,h5,C,E,F,G,H,J]
    cases h;exact t0
   ·try simp only[h2,h3,h5,C,E,F,G,H,J]
    refine ih h ?_;try simp only[h2,h3,h5,C,E,F,G,H,J,Y]
  ·try simp only[hσ,h2,Pz,U0,C,E,F,G,H,J]
   cases h;exact t0
theorem B02{a0}{a1}{r}(h:Nn a0 a1=N r):FC Z 299 [.sc (.sl (I X4.row a0)),.sc (.int .i64 a1)] [.sc (.v (.bool r))]:=by
 unfold Nn at h;refine Aa A9 Zt [4] 20 ?_;simp only[Zt,C,E,F,G,H,J];try simp only[C,E,F,G,H,J]
 refine B25 h ?_;try simp only[C,E,F,G,H,J,Y]
/- 301:spec_NextMinute -/
def PA:X0:=A1 [Ag [1,10,11,12] [] []] (A1 [bn 13 .lss 12 11] (Aw 13 0 1 (A1 [ia 14 10 12 2,lw 15 14 2,Ai 6 [aI 0,aI 0],so 6 15 2] (A1 [fa 16 6 1,ld 17 16,mv 18 1,bn 19 .geq 17 18] (At 19 (A2 [fa 20 6 0,ld 21 20,mv 22 1,(O,.mm 23 T (S 21) (S 22)),mv 4 23])))) (Av 24 12)))
def U1:X0:=(A2 [A5 4 (-1)])
def Zw:X0:=(A1 [A5 4 0] (Ab [mv 7 0,ca 8 347 [S 7],nt 9 8] 9 (A2 [A5 4 (-1)]) (A6 (A1 [mv 10 0,ln 11 10,A5 12 0] (Aj 0 PA)) U1)))
def nQ:=fun a1 a0 (k_:U→Q U)=>∀{v3} {zr},k_ v3=N zr→Kp Z [1,10,11,12] [] [] ⟨[pI 1 a1,pL 10 X4.row a0,pI 11 (a0.length:U),pI 12 v3],[],[]⟩ (.code (.loop PA):: [.blk 0,.code U1]) (Ah [4] [.sc (.v (.int .i64 zr))])
theorem B26{a1 a0}{n:W}:nQ a1 a0 (Ii a1 a0 n):=by
 induction n with
 | zero=>intro _ r h; cases h
 | succ n ih=>
  intro v3 r h σ hσ;rw[Ii] at h;refine Ak ?_;obtain⟨h4,h⟩|⟨h4,h⟩:=ic h
  ·obtain⟨x5,h5,h⟩:=ob h;try simp only[hσ,h4,h5,PA,C,E,F,G,H,J]
   refine Al ?_;obtain⟨h6,h⟩|⟨h6,h⟩:=ic h
   ·try simp only[h4,h5,h6,C,E,F,G,H,J]
    cases h;exact t0
   ·try simp only[h4,h5,h6,C,E,F,G,H,J]
    refine ih h ?_;try simp only[h4,h5,h6,C,E,F,G,H,J,Y]
  ·try simp only[hσ,h4,PA,U1,C,E,F,G,H,J]
   cases h;exact t0
theorem B08{a0}{a1}{r}(h:Nv a0 a1=N r):FC Z 301 [.sc (.sl (I X4.row a0)),.sc (.int .i64 a1)] [.sc (.v (.int .i64 r))]:=by
 unfold Nv at h;refine Aa A9 Zw [4] 25 ?_;simp only[Zw,C,E,F,G,H,J];obtain⟨r1,h1,h⟩:=ob h;try simp only[C,E,F,G,H,J]
 refine A4 (jR h1) ?_;obtain⟨h2,h⟩|⟨h2,h⟩:=ic h
 ·try simp only[h2,C,E,F,G,H,J]
  refine B26 h ?_;try simp only[h2,C,E,F,G,H,J,Y]
 ·try simp only[h2,C,E,F,G,H,J]
  cases h;exact t0
/- 223:spec_l08Sail -/
def PB:X0:=A1 [Ag [2,3,4,6,7,14,15,17,73] [6,7] [1600]] (At 73 (A2 [AA 12,A3 13 L]))
def U2:X0:=(.reg [mv 74 14,mv 75 17,AO 76 1 [.int .i64 0] 1 [(0,(S 75))],Bl 77 1 8 74 76,mv 14 77])
def U3:X0:=(.reg [mv 30 15,Ae 31 .add 30 1,mv 15 31])
def Le:X0:=A1 [Ag [2,3,4,6,7,14,15] [6,7] [1600]] (A6 (A1 [mv 26 15,mv 27 3,ln 28 27,bn 29 .lss 26 28] (AS 29 .skip (.exit 0))) (A6 (.block 1 (A6 (.drw [(N [47],mv 32 14),(N [47],mv 33 15),(N [47],Ae 34 .sub 33 1),(N [47],ia 35 32 34 1),(N [47],ld 36 35),o0 (fa 37 6 1),o0 (ld 38 37),o0 (mv 39 3),o0 (mv 40 15),o0 (Ae 41 .sub 40 1),o0 (ia 42 39 41 1),o0 (ld 43 42),o0 (ia 44 38 43 5),o0 (lw 45 44 5),o0 (lw 46 7 6),o0 (ca 47 300 [S 45,S 46]),o0 (bn 48 .add 36 47),o0 (mv 16 48)]) (A1 [mv 49 4,mv 50 15,ia 51 49 50 1,ld 52 51,mv 53 16,ca 54 301 [S 52,S 53],mv 17 54] (A6 (A6 (.drw [o0 (mv 55 17),o0 (Ae 56 .lss 55 0),o0 (mv 57 56),o0 (Af 57 L 58 17),o0 (Af 57 L 59 16),o0 (AI 57 L 60 .neq 58 59),o0 (Af 57 L 61 60),o0 (Ac 61 T 62 6 0),o0 (Ad 61 T 63 62),o0 (Af 61 T 64 2),o0 (Af 61 T 65 15),o0 (CB 61 T 66 64 65 1),o0 (Ad 61 T 67 66),o0 (CB 61 T 68 63 67 2),o0 (Ac 61 T 69 68 1),o0 (Ad 61 T 70 69),o0 (AM 61 T 71 70),o0 (N (57,L),.pick 72 (S 61) (S 71) (KB L)),o0 (po 73 57 72)]) PB) U2)))) U3))
def PC:X0:=(A2 [mv 78 14,mv 12 78,A3 13 T])
def Zx:X0:=(A1 [bo 6 0,bo 7 1,AA 12,A3 13 L] (Ab [mv 18 4,(O,.iaddr 19 (S 18) (K 0) 1),ld 20 19,mv 21 5,ca 22 299 [S 20,S 21],nt 23 22] 23 (A2 [AA 12,A3 13 L]) (A1 [mv 24 5,AO 25 1 [.int .i64 0] 1 [(0,(S 24))],mv 14 25] (A6 (A1 [A5 15 1] (Aj 0 Le)) PC))))
def nq:=fun a2 a3 a4 v4 r12 (a0:X6) (a1:X5) v5 (k_:V→Q ((P U) × V))=>∀{v17} {zr},k_ v17=N zr→Kp Z [2,3,4,6,7,14,15,17,73] [6,7] [1600] ⟨[pL 2 rI a2,pL 3 rI a3,pL 4 (rL X4.row) a4,pB 6,pB 7,pW 14 1600,pI 15 v4,pI 17 r12,(73,vc (aB v17))],[(6,[aM X9.row a0.Points,aM X3.row a0.Segments]),(7,(dm a1.row))],[(1600,1,I rI v5)]⟩ (.code PB:: [.code U2,.blk 1,.code U3,.code (.loop Le),.blk 0,.code PC]) (Ah [12,13] [.sc (.o 1 (I rI zr.1)),.sc (.v (.bool zr.2))])
def Yg:=fun a2 a3 a4 (a0:X6) (a1:X5) (k_:U→(P U)→Q ((P U) × V))=>∀{v4 v5} {zr},k_ v4 v5=N zr→Kp Z [2,3,4,6,7,14,15] [6,7] [1600] ⟨[pL 2 rI a2,pL 3 rI a3,pL 4 (rL X4.row) a4,pB 6,pB 7,pW 14 1600,pI 15 v4],[(6,[aM X9.row a0.Points,aM X3.row a0.Segments]),(7,(dm a1.row))],[(1600,1,I rI v5)]⟩ (.code (.loop Le):: [.blk 0,.code PC]) (Ah [12,13] [.sc (.o 1 (I rI zr.1)),.sc (.v (.bool zr.2))])
theorem XN{a2 a3 a4 v4 r12 a0 a1 v5}{SM}(wl:Yg a2 a3 a4 a0 a1 SM):nq a2 a3 a4 v4 r12 a0 a1 v5 (IA a2 a3 a4 v4 r12 a0 a1 v5 SM):=by
 intro v17 r h σ hσ;unfold IA at h;obtain⟨h18,h⟩|⟨h18,h⟩:=ic h
 ·try simp only[hσ,h18,PB,C,E,F,G,H,J]
  cases h;trivial
 ·try simp only[hσ,h18,PB,U2,C,E,F,G,H,J]
  refine AD (es:=I rI ([r12]:P U)) ?_;obtain⟨h19,h⟩:=Ba h;try simp only[h18,h19,U3,C,E,F,G,H,J]
  refine wl h ?_;try simp only[h18,h19,C,E,F,G,H,J,Y]
theorem B27{a2 a3 a4 a0 a1}{n:W}:Yg a2 a3 a4 a0 a1 (Ei a2 a3 a4 a0 a1 n):=by
 induction n with
 | zero=>intro _ _ r h; cases h
 | succ n ih=>
  intro v4 v5 r h σ hσ;rw[Ei] at h;refine Ak ?_;obtain⟨h6,h⟩|⟨h6,h⟩:=ic h
  ·try simp only[hσ,h6,Le,C,E,F,G,H,J]
   refine Ao ?_;obtain⟨x7,h7,h⟩:=ob h;have h7n:=AE h7;obtain⟨x8,h8,h⟩:=ob h;obtain⟨x9,h9,h⟩:=ob h;obtain⟨r10,h10,h⟩:=ob h;try simp only[h6,h7,h7n,h8,h9,C,E,F,G,H,J]
   refine AH (OQ h10) ?_;obtain⟨x11,h11,h⟩:=ob h;obtain⟨r12,h12,h⟩:=ob h;try simp only[h6,h7,h7n,h8,h9,h11,C,E,F,G,H,J]
   refine A4 (B08 h12) ?_;try simp only[h6,h7,h7n,h8,h9,h11,C,E,F,G,H,J]
   refine Ao ?_;obtain⟨h13,h⟩|⟨h13,h⟩:=ic h
   ·try simp only[h6,h7,h7n,h8,h9,h11,h13,C,E,F,G,H,J]
    refine XN ih h ?_;try simp only[h6,h7,h7n,h8,h9,h11,h13,C,E,F,G,H,J,Y]
   ·obtain⟨h14,h⟩|⟨h14,h⟩:=ic h
    ·obtain⟨x15,h15,h⟩:=ob h;obtain⟨x16,h16,h⟩:=ob h;try simp only[h6,h7,h7n,h8,h9,h11,h13,h14,h15,h16,C,E,F,G,H,J]
     refine XN ih h ?_;try simp only[h6,h7,h7n,h8,h9,h11,h13,h14,h15,h16,C,E,F,G,H,J,Y]
    ·try simp only[h6,h7,h7n,h8,h9,h11,h13,h14,C,E,F,G,H,J]
     refine XN ih h ?_;try simp only[h6,h7,h7n,h8,h9,h11,h13,h14,C,E,F,G,H,J,Y]
  ·try simp only[hσ,h6,Le,PC,C,E,F,G,H,J]
   cases h;trivial
theorem B1y{a0}{a1}{a2}{a3}{a4}{a5}{r}(h:NP a0 a1 a2 a3 a4 a5=N r):FC Z 223 [.ag (X6.row a0),.ag (X5.row a1),.sc (.sl (I rI a2)),.sc (.sl (I rI a3)),.sc (.sl (I (rL X4.row) a4)),.sc (.int .i64 a5)] [.sc (.o 1 (I rI r.1)),.sc (.v (.bool r.2))]:=by
 unfold NP at h;refine Aa A9 Zx [12,13] 79 ?_;simp only[Zx,C,E,F,G,H,J];try simp only[C,E,F,G,H,J]
 refine A8 ?_;try simp only[C,E,F,G,H,J]
 refine A8 ?_;obtain⟨x1,h1,h⟩:=ob h;obtain⟨r2,h2,h⟩:=ob h;try simp only[h1,C,E,F,G,H,J]
 refine A4 (B02 h2) ?_;obtain⟨h3,h⟩|⟨h3,h⟩:=ic h
 ·try simp only[h1,h3,C,E,F,G,H,J]
  refine AD (es:=I rI ([a5]:P U)) ?_;try simp only[h1,h3,C,E,F,G,H,J]
  refine B27 h ?_;try simp only[h1,h3,C,E,F,G,H,J,Y]
 ·try simp only[h1,h3,C,E,F,G,H,J]
  cases h;trivial
/- 355:spec_SailRoute -/
def PD:X0:=A1 [Ag [3,4,5,6,7,8,33] [6,7,8] []] (At 33 (A2 [AA 12,A3 13 L]))
def U4:X0:=(A6 (.drw [(N [39,45],lw 34 7 2),(N [39,45],lw 35 8 6),o0 (lw 36 7 2),o0 (mv 37 3),o0 (mv 38 4),o0 (ca 39 222 [S 36,S 37,S 38]),(N [39,45],mv 40 4),(N [39],lw 41 6 3),(N [39],lw 42 7 2),(N [39],lw 43 8 6),(N [39],mv 44 4),o0 (ca 45 221 [S 41,S 42,S 43,S 44]),(N [39,45],mv 46 5),o0 (ca 47 223 [S 34,S 35,S 39,S 40,S 45,S 46]),o0 (xt 48 47 0),o0 (xt 49 47 1),o0 (mv 12 48),o0 (mv 13 49)]) .ret)
def Zz:X0:=(A1 [bo 6 0,bo 7 1,bo 8 2,AA 12,A3 13 L] (A6 (A1 [lw 14 6 3,ca 15 287 [S 14],nt 16 15,mv 17 16,AL 17 L 18 8 6,Am 17 L 19 341 [S 18],AM 17 L 20 19,po 21 17 20,mv 22 21,AL 22 L 23 7 2,Af 22 L 24 3,Af 22 L 25 4,Am 22 L 26 297 [S 23,S 24,S 25],AM 22 L 27 26,po 28 22 27,mv 29 28,Af 29 L 30 4,B3 29 L 31 30,AQ 29 L 32 .eql 31 0,po 33 29 32] PD) U4))
def nY:=fun a3 a4 a5 (a0:Xc) (a1:X6) (a2:X5) (k_:V→Q ((P U) × V))=>∀{v7} {zr},k_ v7=N zr→Kp Z [3,4,5,6,7,8,33] [6,7,8] [] ⟨[pI 3 a3,pL 4 rI a4,pI 5 a5,pB 6,pB 7,pB 8,(33,vc (aB v7))],[(6,[aI a0.Tide.Mean,aM zA a0.Tide.Parts,aM zB a0.Surges]),(7,[aM X9.row a1.Points,aM X3.row a1.Segments]),(8,(dm a2.row))],[]⟩ (.code PD:: [.code U4]) (Ah [12,13] [.sc (.o 1 (I rI zr.1)),.sc (.v (.bool zr.2))])
theorem Tg{a3 a4 a5 a0 a1 a2}:nY a3 a4 a5 a0 a1 a2 (Io a3 a4 a5 a0 a1 a2):=by
 intro v7 r h σ hσ;unfold Io at h;obtain⟨h8,h⟩|⟨h8,h⟩:=ic h
 ·try simp only[hσ,h8,PD,C,E,F,G,H,J]
  cases h;trivial
 ·try simp only[hσ,h8,PD,U4,C,E,F,G,H,J]
  refine Ao ?_;obtain⟨r9,h9,h⟩:=ob h;try simp only[h8,C,E,F,G,H,J]
  refine AH (XH h9) ?_;obtain⟨r10,h10,h⟩:=ob h;try simp only[h8,C,E,F,G,H,J]
  refine AH (B1z h10) ?_;obtain⟨r11,h11,h⟩:=ob h;try simp only[h8,C,E,F,G,H,J]
  refine IG (B1y h11) (by first | rfl | kernel_rfl) (BQ X ⟨AZ,X,⟨⟩⟩) X (uf X) ?_;try simp only[h8,C,E,F,G,H,J]
  cases h;trivial
theorem B1g{a0}{a1}{a2}{a3}{a4}{a5}{r}(h:ND a0 a1 a2 a3 a4 a5=N r):FC Z 355 [.ag (zF a0),.ag (X6.row a1),.ag (X5.row a2),.sc (.int .i64 a3),.sc (.sl (I rI a4)),.sc (.int .i64 a5)] [.sc (.o 1 (I rI r.1)),.sc (.v (.bool r.2))]:=by
 unfold ND at h;refine Aa A9 Zz [12,13] 50 ?_;simp only[Zz,C,E,F,G,H,J];try simp only[C,E,F,G,H,J]
 refine A8 ?_;try simp only[C,E,F,G,H,J]
 refine A8 ?_;try simp only[C,E,F,G,H,J]
 refine A8 ?_;obtain⟨r1,h1,h⟩:=ob h;try simp only[C,E,F,G,H,J]
 refine A4 (XF h1) ?_;obtain⟨h2,h⟩|⟨h2,h⟩:=ic h
 ·obtain⟨r3,h3,h⟩:=ob h;try simp only[h2,C,E,F,G,H,J]
  refine A4 (GG h3) ?_;obtain⟨h4,h⟩|⟨h4,h⟩:=ic h
  ·obtain⟨r5,h5,h⟩:=ob h;try simp only[h2,h4,C,E,F,G,H,J]
   refine A4 (XG h5) ?_;obtain⟨h6,h⟩|⟨h6,h⟩:=ic h
   ·try simp only[h2,h4,h6,C,E,F,G,H,J]
    refine Tg h ?_;try simp only[h2,h4,h6,C,E,F,G,H,J,Y]
   ·try simp only[h2,h4,h6,C,E,F,G,H,J]
    refine Tg h ?_;try simp only[h2,h4,h6,C,E,F,G,H,J,Y]
  ·try simp only[h2,h4,C,E,F,G,H,J]
   refine Tg h ?_;try simp only[h2,h4,C,E,F,G,H,J,Y]
 ·try simp only[h2,C,E,F,G,H,J]
  refine Tg h ?_;try simp only[h2,C,E,F,G,H,J,Y]
/- 295:spec_RouteMinutes -/
def PE:X0:=A1 [Ag [2,5,11,12,13] [2] []] (A1 [bn 14 .lss 13 12] (Aw 14 0 1 (A1 [ia 15 11 13 1,ld 16 15,mv 7 16] (Ab [mv 17 7,fa 18 2 1,ld 19 18,ln 20 19,Ae 21 .sub 20 1,ca 22 169 [S 17,K 0,S 21],nt 23 22] 23 (A2 [A5 4 (-1)]) (.reg [mv 24 5,fa 25 2 1,ld 26 25,mv 27 7,ia 28 26 27 5,fa 29 28 3,ld 30 29,bn 31 .add 24 30,mv 5 31]))) (Av 32 13)))
def U5:X0:=(A2 [mv 33 5,mv 4 33])
def ZA:X0:=(A1 [bo 2 0,A5 4 0] (A1 [A5 5 0] (Ab [lw 8 2 2,ca 9 219 [S 8],nt 10 9] 10 (A2 [A5 4 (-1)]) (A6 (A1 [mv 11 1,ln 12 11,A5 13 0] (Aj 0 PE)) U5))))
def nX:=fun a1 (a0:X6) (k_:U→U→Q U)=>∀{v3 v4} {zr},k_ v3 v4=N zr→Kp Z [2,5,11,12,13] [2] [] ⟨[pB 2,pI 5 v3,pL 11 rI a1,pI 12 (a1.length:U),pI 13 v4],[(2,[aM X9.row a0.Points,aM X3.row a0.Segments])],[]⟩ (.code (.loop PE):: [.blk 0,.code U5]) (Ah [4] [.sc (.v (.int .i64 zr))])
theorem B28{a1 a0}{n:W}:nX a1 a0 (In a1 a0 n):=by
 induction n with
 | zero=>intro _ _ r h; cases h
 | succ n ih=>
  intro v3 v4 r h σ hσ;rw[In] at h;refine Ak ?_;obtain⟨h5,h⟩|⟨h5,h⟩:=ic h
  ·obtain⟨x6,h6,h⟩:=ob h;obtain⟨r7,h7,h⟩:=ob h;try simp only[hσ,h5,h6,PE,C,E,F,G,H,J]
   refine A4 (AU h7) ?_;obtain⟨h8,h⟩|⟨h8,h⟩:=ic h
   ·obtain⟨x9,h9,h⟩:=ob h;try simp only[h5,h6,h8,h9,C,E,F,G,H,J]
    refine ih h ?_;try simp only[h5,h6,h8,h9,C,E,F,G,H,J,Y]
   ·try simp only[h5,h6,h8,C,E,F,G,H,J]
    cases h;exact t0
  ·try simp only[hσ,h5,PE,U5,C,E,F,G,H,J]
   cases h;exact t0
theorem B1f{a0}{a1}{r}(h:NC a0 a1=N r):FC Z 295 [.ag (X6.row a0),.sc (.sl (I rI a1))] [.sc (.v (.int .i64 r))]:=by
 unfold NC at h;refine Aa A9 ZA [4] 34 ?_;simp only[ZA,C,E,F,G,H,J];try simp only[C,E,F,G,H,J]
 refine A8 ?_;obtain⟨r1,h1,h⟩:=ob h;try simp only[C,E,F,G,H,J]
 refine A4 (GF h1) ?_;obtain⟨h2,h⟩|⟨h2,h⟩:=ic h
 ·try simp only[h2,C,E,F,G,H,J]
  refine B28 h ?_;try simp only[h2,C,E,F,G,H,J,Y]
 ·try simp only[h2,C,E,F,G,H,J]
  cases h;exact t0
/- 302:spec_ArrivalOf -/
def ZB:X0:=(A1 [bo 4 0,bo 5 1,A5 8 0] (Ab [lw 10 4 2,mv 11 2,ca 12 295 [S 10,S 11],Ae 13 .lss 12 0,mv 14 13,AL 14 L 15 5 6,Am 14 L 16 341 [S 15],AM 14 L 17 16,po 18 14 17,mv 19 18,Af 19 L 20 2,B3 19 L 21 20,Af 19 L 22 3,B3 19 L 23 22,AI 19 L 24 .neq 21 23,po 25 19 24,mv 26 25,Af 26 L 27 2,B3 26 L 28 27,AQ 26 L 29 .eql 28 0,po 30 26 29] 30 (A2 [A5 8 (-1)]) (A1 [mv 31 3,mv 32 3,ln 33 32,Ae 34 .sub 33 1,ia 35 31 34 1,ld 36 35,mv 9 36] (Ab [mv 37 9,ca 38 169 [S 37,K 0,K 2880],nt 39 38] 39 (A2 [A5 8 (-1)]) (A6 (.drw [(N [52],mv 40 9),o0 (fa 41 4 1),o0 (ld 42 41),o0 (mv 43 2),o0 (mv 44 2),o0 (ln 45 44),o0 (Ae 46 .sub 45 1),o0 (ia 47 43 46 1),o0 (ld 48 47),o0 (ia 49 42 48 5),o0 (lw 50 49 5),o0 (lw 51 5 6),o0 (ca 52 300 [S 50,S 51]),o0 (bn 53 .add 40 52),o0 (mv 8 53)]) .ret)))))
theorem B0u{a0}{a1}{a2}{a3}{r}(h:Nh a0 a1 a2 a3=N r):FC Z 302 [.ag (X6.row a0),.ag (X5.row a1),.sc (.sl (I rI a2)),.sc (.sl (I rI a3))] [.sc (.v (.int .i64 r))]:=by
 unfold Nh at h;refine Aa A9 ZB [8] 54 ?_;simp only[ZB,C,E,F,G,H,J];try simp only[C,E,F,G,H,J]
 refine A8 ?_;try simp only[C,E,F,G,H,J]
 refine A8 ?_;obtain⟨r1,h1,h⟩:=ob h;try simp only[C,E,F,G,H,J]
 refine A4 (B1f h1) ?_;obtain⟨h2,h⟩|⟨h2,h⟩:=ic h
 ·try simp only[h2,C,E,F,G,H,J]
  cases h;exact t0
 ·obtain⟨r3,h3,h⟩:=ob h;try simp only[h2,C,E,F,G,H,J]
  refine A4 (GG h3) ?_;obtain⟨h4,h⟩|⟨h4,h⟩:=ic h
  ·obtain⟨h5,h⟩|⟨h5,h⟩:=ic h
   ·try simp only[h2,h4,h5,C,E,F,G,H,J]
    cases h;exact t0
   ·obtain⟨h6,h⟩|⟨h6,h⟩:=ic h
    ·try simp only[h2,h4,h5,h6,C,E,F,G,H,J]
     cases h;exact t0
    ·obtain⟨x7,h7,h⟩:=ob h;obtain⟨r9,h9,h⟩:=ob h;try simp only[h2,h4,h5,h6,h7,C,E,F,G,H,J]
     refine A4 (AU h9) ?_;obtain⟨h10,h⟩|⟨h10,h⟩:=ic h
     ·try simp only[h2,h4,h5,h6,h7,h10,C,E,F,G,H,J]
      refine Ao ?_;obtain⟨x11,h11,h⟩:=ob h;obtain⟨x12,h12,h⟩:=ob h;obtain⟨r13,h13,h⟩:=ob h;try simp only[h2,h4,h5,h6,h7,h10,h11,h12,C,E,F,G,H,J]
      refine AH (OQ h13) ?_;try simp only[h2,h4,h5,h6,h7,h10,h11,h12,C,E,F,G,H,J]
      cases h;exact t0
     ·try simp only[h2,h4,h5,h6,h7,h10,C,E,F,G,H,J]
      cases h;exact t0
  ·try simp only[h2,h4,C,E,F,G,H,J]
   cases h;exact t0
/- 303:spec_PassagesOf -/
def PG:X0:=A1 [Ag [1,5,6,8,13,14,39,40,41] [6,8] [2176,2432]] (A1 [bn 42 .lss 41 40] (Aw 42 0 1 (A1 [mv 43 41,ia 44 39 41 1,ld 45 44,mv 15 43,mv 16 45] (Ab [mv 46 5,mv 47 15,ia 48 46 47 1,ld 49 48,ca 50 169 [S 49,K 0,K 2880],nt 51 50] 51 (A2 [AA 12]) (.drw [(N [80,83],mv 52 13),(N [80],mv 53 1),(N [80],mv 54 16),(N [80],fa 55 6 1),(N [80],ld 56 55),(N [80],mv 57 16),(N [80],ia 58 56 57 5),(N [80],fa 59 58 0),(N [80],ld 60 59),(N [80],mv 61 14),(N [80],mv 62 15),(N [80],ia 63 61 62 1),(N [80],ld 64 63),(N [80],bn 65 .eql 60 64),(N [80],mv 66 5),(N [80],mv 67 15),(N [80],ia 68 66 67 1),(N [80],ld 69 68),(N [80],mv 70 5),(N [80],mv 71 15),(N [80],ia 72 70 71 1),(N [80],ld 73 72),o0 (fa 74 6 1),o0 (ld 75 74),o0 (mv 76 16),o0 (ia 77 75 76 5),o0 (lw 78 77 5),o0 (lw 79 8 6),o0 (ca 80 300 [S 78,S 79]),o0 (bn 81 .add 73 80),o0 (Bv 82 [aI 0,aI 0,aB L,aI 0,aI 0] [(0,1,(S 53)),(1,1,(S 54)),(2,1,(S 65)),(3,1,(S 69)),(4,1,(S 81))]),o0 (AO 83 5 [.int .i64 0,.int .i64 0,.bool L,.int .i64 0,.int .i64 0] 1 [(0,(S 82))]),(O,Bl 84 5 40 52 83),o0 (mv 13 84)]))) (Av 85 41)))
def U6:X0:=(A2 [mv 86 13,mv 12 86])
def ZC:X0:=(A1 [bo 6 0,bo 8 2,AA 12] (Ab [lw 17 6 2,mv 18 3,mv 19 4,ca 20 297 [S 17,S 18,S 19],nt 21 20,mv 22 21,AL 22 L 23 8 6,Am 22 L 24 341 [S 23],AM 22 L 25 24,po 26 22 25,mv 27 26,Af 27 L 28 4,B3 27 L 29 28,Af 27 L 30 5,B3 27 L 31 30,AI 27 L 32 .neq 29 31,po 33 27 32] 33 (A2 [AA 12]) (A1 [AO 34 5 [.int .i64 0,.int .i64 0,.bool L,.int .i64 0,.int .i64 0] 0 [],mv 13 34] (A1 [lw 35 6 2,mv 36 3,mv 37 4,ca 38 222 [S 35,S 36,S 37],mv 14 38] (A6 (A1 [mv 39 4,ln 40 39,A5 41 0] (Aj 0 PG)) U6)))))
def nS:=fun a1 a5 a4 (a0:X6) (a2:X5) r6 (k_:U→(P X1)→Q (P X1))=>∀{v7 v8} {zr},k_ v7 v8=N zr→Kp Z [1,5,6,8,13,14,39,40,41] [6,8] [2176,2432] ⟨[pI 1 a1,pL 5 rI a5,pB 6,pB 8,pW 13 2176,pW 14 2432,pL 39 rI a4,pI 40 (a4.length:U),pI 41 v7],[(6,[aM X9.row a0.Points,aM X3.row a0.Segments]),(8,(dm a2.row))],[(2176,5,I X1.row v8),(2432,1,I rI r6)]⟩ (.code (.loop PG):: [.blk 0,.code U6]) (Ah [12] [.sc (.o 5 (I X1.row zr))])
theorem B29{a1 a5 a4 a0 a2 r6}{n:W}:nS a1 a5 a4 a0 a2 r6 (Ij a1 a5 a4 a0 a2 r6 n):=by
 induction n with
 | zero=>intro _ _ r h; cases h
 | succ n ih=>
  intro v7 v8 r h σ hσ;rw[Ij] at h;refine Ak ?_;obtain⟨h9,h⟩|⟨h9,h⟩:=ic h
  ·obtain⟨x10,h10,h⟩:=ob h;obtain⟨x11,h11,h⟩:=ob h;obtain⟨r12,h12,h⟩:=ob h;try simp only[hσ,h9,h10,h11,PG,C,E,F,G,H,J]
   refine A4 (AU h12) ?_;obtain⟨h13,h⟩|⟨h13,h⟩:=ic h
   ·try simp only[h9,h10,h11,h13,C,E,F,G,H,J]
    refine Ao ?_;obtain⟨x14,h14,h⟩:=ob h;obtain⟨x15,h15,h⟩:=ob h;have h15n:=AE h15;obtain⟨r16,h16,h⟩:=ob h;try simp only[h9,h10,h11,h13,h14,h15,h15n,C,E,F,G,H,J]
    refine AH (OQ h16) ?_;try simp only[h9,h10,h11,h13,h14,h15,h15n,C,E,F,G,H,J]
    refine AD (es:=I X1.row ([(⟨a1,x10,(x14.A==x15),x11,(IntKind.i64.wrap (x11+r16))⟩:X1)]:P X1)) ?_;obtain⟨h17,h⟩:=Ba h;try simp only[h9,h10,h11,h13,h14,h15,h15n,h17,C,E,F,G,H,J]
    refine Ao ?_;try simp only[h9,h10,h11,h13,h14,h15,h15n,h17,C,E,F,G,H,J]
    refine ih h ?_;try simp only[h9,h10,h11,h13,h14,h15,h15n,h17,C,E,F,G,H,J,Y]
   ·try simp only[h9,h10,h11,h13,C,E,F,G,H,J]
    cases h;exact t0
  ·try simp only[hσ,h9,PG,U6,C,E,F,G,H,J]
   cases h;exact t0
theorem B1b{a0}{a1}{a2}{a3}{a4}{a5}{r}(h:Nx a0 a1 a2 a3 a4 a5=N r):FC Z 303 [.ag (X6.row a0),.sc (.int .i64 a1),.ag (X5.row a2),.sc (.int .i64 a3),.sc (.sl (I rI a4)),.sc (.sl (I rI a5))] [.sc (.o 5 (I X1.row r))]:=by
 unfold Nx at h;refine Aa A9 ZC [12] 87 ?_;simp only[ZC,C,E,F,G,H,J];try simp only[C,E,F,G,H,J]
 refine A8 ?_;try simp only[C,E,F,G,H,J]
 refine A8 ?_;obtain⟨r1,h1,h⟩:=ob h;try simp only[C,E,F,G,H,J]
 refine A4 (XG h1) ?_;obtain⟨h2,h⟩|⟨h2,h⟩:=ic h
 ·obtain⟨r3,h3,h⟩:=ob h;try simp only[h2,C,E,F,G,H,J]
  refine A4 (GG h3) ?_;obtain⟨h4,h⟩|⟨h4,h⟩:=ic h
  ·obtain⟨h5,h⟩|⟨h5,h⟩:=ic h
   ·try simp only[h2,h4,h5,C,E,F,G,H,J]
    cases h;exact t0
   ·try simp only[h2,h4,h5,C,E,F,G,H,J]
    refine AD (es:=I X1.row ([]:P X1)) ?_;obtain⟨r6,h6,h⟩:=ob h;try simp only[h2,h4,h5,C,E,F,G,H,J]
    refine A4 (XH h6) ?_;try simp only[h2,h4,h5,C,E,F,G,H,J]
    refine B29 h ?_;try simp only[h2,h4,h5,C,E,F,G,H,J,Y]
  ·try simp only[h2,h4,C,E,F,G,H,J]
   cases h;exact t0
 ·try simp only[h2,C,E,F,G,H,J]
  cases h;exact t0
/- 224:spec_l15Make -/
def XT:P (P W × AItem):= [([],(O,.load 65 (S 11) T 4)),([],(O,.faddr 66 (S 11) 1)),([1],(O,.load 67 (S 66) L 1)),([2],(O,.bin 68 .leq (S 67) (K 2880))),([0,0],(O,.store (S 8) (S 65) 4)),([3,4,0,1,2,3,4],(O,.mv 9 (S 68)))]
def PH:X0:=A1 [Ag [4,8,10,11,46,47,48] [4,8,10,11] [2432]] (A1 [bn 49 .lss 48 47] (Aw 49 0 1 (A1 [ia 50 46 48 1,ld 51 50,mv 13 51] (.drw [(N [61],fa 52 11 2),(N [61],ld 53 52),o0 (fa 54 4 3),o0 (fa 55 54 1),o0 (ld 56 55),o0 (mv 57 13),o0 (ia 58 56 57 5),o0 (lw 59 58 5),o0 (lw 60 10 6),o0 (ca 61 300 [S 59,S 60]),o0 (bn 62 .sub 53 61),o0 (fa 63 11 2),(O,so 63 62 1)])) (Av 64 48)))
def U7:X0:=(A6 (.any XT) .ret)
def ZD:X0:=(A1 [bo 4 0,bo 5 1,Ai 8 [aI 0,aI 0,aI 0,.nil],A3 9 L] (A1 [fa 14 4 5,ld 15 14,fa 16 5 0,ld 17 16,ia 18 15 17 6,lw 19 18 6,Ai 10 [aS [],aI 0,aI 0,aI 0,aI 0,aB L],so 10 19 6] (A6 (.drw [(N [28,38,11],mv 20 3),(N [28,38,11],(O,.iaddr 21 (S 20) (K 0) 1)),(N [28,38,11],ld 22 21),(N [11],fa 23 4 3),(N [11],lw 24 23 2),(N [11],lw 25 10 6),(N [11],mv 26 2),(N [11],mv 27 3),(N [11],ca 28 302 [S 24,S 25,S 26,S 27]),(N [28,11],fa 29 4 3),(N [28,11],lw 30 29 2),(N [28,11],fa 31 5 0),(N [28,11],ld 32 31),(N [28,11],lw 33 10 6),(N [28,11],fa 34 5 1),(N [28,11],ld 35 34),(N [28,11],mv 36 2),(N [28,11],mv 37 3),(N [11],ca 38 303 [S 30,S 32,S 33,S 35,S 36,S 37]),(N [11],Bv 39 [aI 0,aI 0,aI 0,.nil] [(0,1,(S 22)),(1,1,(S 28)),(3,1,(S 38))]),(N [28,38],Ai 11 [aI 0,aI 0,aI 0,.nil]),(O,so 11 39 4)]) (A1 [fa 40 11 1,ld 41 40,fa 42 5 3,ld 43 42,bn 44 .sub 41 43,fa 45 11 2,so 45 44 1] (A6 (A1 [mv 46 2,ln 47 46,A5 48 0] (Aj 0 PH)) U7)))))
abbrev J0(x2 r3 v6:U)(c0_ c1_:V)(c2_ c3_ c5_:V)(bx_:P (W × P AC))(rs_:Rows):St:=⟨[(8,vc (.pb 8 0)),(11,vc (.pb 11 0)),(65,bif c0_ then va [aI x2,aI r3,aI v6,.own 2432] else .undef),(66,bif c1_ then vc (.pb 11 1) else .undef),(67,bif c2_ then vc (aI r3) else .undef),(68,bif c3_ then vc (aB (decide (r3≤(2880:U)))) else .undef),(9,bif c5_ then vc (aB (decide (r3≤(2880:U)))) else .undef)],bx_,rs_⟩
abbrev Ta(x2 r3:U)(r4:(P X1))(v6:U):St:=(J0 x2 r3 v6 T T T T T [(8,[aI x2,aI r3,aI v6,.own 2432]),(11,[aI x2,aI r3,aI v6,.own 2432])] [(2432,5,I X1.row r4)])
theorem B3a(x2 r3 r4 v6):∀(f:W) (b1 b2:V) (b3 b5:V),Ce Z XT (Ta x2 r3 r4 v6) f [T,b1,b2,b3,T,b5] (J0 x2 r3 v6 T b1 b2 b3 b5 [(8,[aI x2,aI r3,aI v6,.own 2432]),(11,[aI x2,aI r3,aI v6,.own 2432])] [(2432,5,I X1.row r4)]):=by
 intro f
 induction f with
 | zero=>
  intro b1 b2 b3 b5 h;obtain rfl:b1=T:=zE.1 h b1 (by simp);obtain rfl:b2=T:=zE.1 h b2 (by simp);obtain rfl:b3=T:=zE.1 h b3 (by simp);obtain rfl:b5=T:=zE.1 h b5 (by simp);rfl
 | succ f ih=>
  intro b1 b2 b3 b5;refine EI ⟨?_,?_,?_,?_,?_,?_,⟨⟩⟩<;>try first | (intro h; cases h; done) | (intro h0 hw; obtain rfl:=hz h0 rfl; (try obtain rfl:=hq hw 1 rfl rfl); (try obtain rfl:=hq hw 2 rfl rfl); (try obtain rfl:=hq hw 3 rfl rfl); refine np ?_; simp only[J0,Cb,Cw,BX,C,E,F,G,H,J]; exact ih _ _ _ _)
theorem B3b(x2 r3 r4 v6):∀(f:W) (b0 b1:V) (b2 b3:V),Ce Z XT (Ta x2 r3 r4 v6) f [b0,b1,b2,b3,L,L] (J0 x2 r3 v6 b0 b1 b2 b3 L [(8,[aI (0:U),aI (0:U),aI (0:U),.nil]),(11,[aI x2,aI r3,aI v6,.own 2432])] [(2432,5,I X1.row r4)]):=by
 intro f
 induction f with
 | zero=>intro b0 b1 b2 b3 h; simp at h
 | succ f ih=>
  intro b0 b1 b2 b3;refine EI ⟨?_,?_,?_,?_,?_,?_,⟨⟩⟩<;>try first | (intro _ hw; simp at hw; done) | (intro h0 hw; obtain rfl:=hz h0 rfl; (try obtain rfl:=hq hw 1 rfl rfl); (try obtain rfl:=hq hw 2 rfl rfl); refine np ?_; simp only[J0,Cb,Cw,BX,C,E,F,G,H,J]; exact ih _ _ _ _)
  ·intro h0 hw;obtain rfl:=hq hw 0 rfl rfl;refine np ?_;try simp only[J0,Cb,Cw,BX,C,E,F,G,H,J]
   exact B3a x2 r3 r4 v6 _ b1 b2 b3 L
def oB:=fun a2 (a0:X7) (x1:X5) x2 r3 r4 (k_:U→U→Q (X2 × V))=>∀{v5 v6} {zr},k_ v5 v6=N zr→Kp Z [4,8,10,11,46,47,48] [4,8,10,11] [2432] ⟨[pB 4,pB 8,pB 10,pB 11,pL 46 rI a2,pI 47 (a2.length:U),pI 48 v5],[(4,([aI a0.Forecast.Tide.Mean,aM zA a0.Forecast.Tide.Parts,aM zB a0.Forecast.Surges,aM X9.row a0.Chart.Points,aM X3.row a0.Chart.Segments,aM X5.row a0.Fleet,aI a0.Regime.Gap,aB a0.Regime.NoMeet]++dm a0.Crew.row)),(8,[aI (0:U),aI (0:U),aI (0:U),.nil]),(10,(dm x1.row)),(11,[aI x2,aI r3,aI v6,.own 2432])],[(2432,5,I X1.row r4)]⟩ (.code (.loop PH):: [.blk 0,.code U7]) (Ah [.c 8 T 4,9] [.ag [.v (.int .i64 zr.1.Start),.v (.int .i64 zr.1.Arrival),.v (.int .i64 zr.1.Cost),.o 5 (I X1.row zr.1.Passages)],.sc (.v (.bool zr.2))])
theorem B3c{a2 a0 x1 x2 r3 r4}{n:W}:oB a2 a0 x1 x2 r3 r4 (Gh a2 a0 x1 x2 r3 r4 n):=by
 induction n with
 | zero=>intro _ _ r h; cases h
 | succ n ih=>
  intro v5 v6 r h σ hσ;rw[Gh] at h;refine Ak ?_;obtain⟨h7,h⟩|⟨h7,h⟩:=ic h
  ·obtain⟨x8,h8,h⟩:=ob h;try simp only[hσ,h7,h8,PH,C,E,F,G,H,J]
   refine Ao ?_;obtain⟨x9,h9,h⟩:=ob h;obtain⟨r10,h10,h⟩:=ob h;try simp only[h7,h8,h9,C,E,F,G,H,J]
   refine AH (OQ h10) ?_;try simp only[h7,h8,h9,C,E,F,G,H,J]
   refine Ao ?_;try simp only[h7,h8,h9,C,E,F,G,H,J]
   refine ih h ?_;try simp only[h7,h8,h9,C,E,F,G,H,J,Y]
  ·try simp only[hσ,h7,PH,U7,C,E,F,G,H,J]
   refine W1 (ks:= [8,11]) (bs:= [8,11]) (rs:= [2432]) (τ:=(Ta x2 r3 r4 v6)) X (B3b x2 r3 r4 v6 _ L L L L) ?_;simp only[Ta,J0,Cb];try simp only[h7,C,E,F,G,H,J]
   cases h;try simp only[B7,C,E,F,G,H,J]
   trivial
theorem B16{a0}{a1}{a2}{a3}{r}(h:So a0 a1 a2 a3=N r):FC Z 224 [.ag (X7.row a0),.ag (zD a1),.sc (.sl (I rI a2)),.sc (.sl (I rI a3))] [.ag [.v (.int .i64 r.1.Start),.v (.int .i64 r.1.Arrival),.v (.int .i64 r.1.Cost),.o 5 (I X1.row r.1.Passages)],.sc (.v (.bool r.2))]:=by
 unfold So at h;refine Aa A9 ZD [.c 8 T 4,9] 69 ?_;simp only[ZD,C,E,F,G,H,J];try simp only[C,E,F,G,H,J]
 refine A8 ?_;try simp only[C,E,F,G,H,J]
 refine A8 ?_;try simp only[C,E,F,G,H,J]
 refine Al ?_;obtain⟨x1,h1,h⟩:=ob h;try simp only[h1,C,E,F,G,H,J]
 refine Al ?_;try simp only[h1,C,E,F,G,H,J]
 refine Ao ?_;obtain⟨x2,h2,h⟩:=ob h;obtain⟨r3,h3,h⟩:=ob h;try simp only[h1,h2,C,E,F,G,H,J]
 refine AH (B0u h3) ?_;obtain⟨r4,h4,h⟩:=ob h;try simp only[h1,h2,C,E,F,G,H,J]
 refine AH (B1b h4) ?_;try simp only[h1,h2,C,E,F,G,H,J]
 refine IH (m:= .box 11 [aI (0:U),aI (0:U),aI (0:U),.nil]) X X (Om X X) ?_;try simp only[h1,h2,C,E,F,G,H,J]
 refine Ao ?_;try simp only[h1,h2,C,E,F,G,H,J]
 refine B3c h ?_;try simp only[h1,h2,C,E,F,G,H,J,Y]
/- 318:spec_OptionAt -/
def PI:X0:=A1 [Ag [2,3,4,5,8,33] [4,5,8] []] (At 33 (A2 [Bv 34 [aI 0,aI 0,aI 0,.nil] [],so 8 34 4,A3 9 L]))
def U9:X0:=(A6 (.drw [o0 (fa 36 4 0),o0 (lw 37 36 3),o0 (fa 38 4 3),o0 (lw 39 38 2),o0 (fa 40 4 5),o0 (ld 41 40),o0 (fa 42 5 0),o0 (ld 43 42),o0 (ia 44 41 43 6),o0 (lw 45 44 6),o0 (fa 46 5 1),o0 (ld 47 46),o0 (mv 48 2),o0 (mv 49 3),o0 (ca 50 355 [S 37,S 39,S 45,S 47,S 48,S 49]),o0 (mv 35 50),o0 (xt 51 35 0),o0 (xt 52 35 1),o0 (mv 10 51),o0 (mv 11 52)]) (Ab [mv 53 11,nt 54 53] 54 (A2 [Bv 55 [aI 0,aI 0,aI 0,.nil] [],so 8 55 4,A3 9 L]) (A1 [lw 57 4 12,lw 58 5 5,mv 59 2,mv 60 10,ca 61 224 [S 57,S 58,S 59,S 60],mv 56 61,xt 62 56 0,xt 63 56 1,Ai 12 [aI 0,aI 0,aI 0,.nil],so 12 62 4,mv 13 63] (Ab [mv 64 13,nt 65 64] 65 (A2 [Bv 66 [aI 0,aI 0,aI 0,.nil] [],so 8 66 4,A3 9 L]) (A2 [lw 67 12 4,so 8 67 4,A3 9 T])))))
def ZE:X0:=(A1 [bo 4 0,bo 5 1,Ai 8 [aI 0,aI 0,aI 0,.nil],A3 9 L] (A6 (A1 [lw 14 4 12,lw 15 5 5,ca 16 127 [S 14,S 15],nt 17 16,mv 18 17,Af 18 L 19 3,Ac 18 L 20 5 3,Ad 18 L 21 20,Ac 18 L 22 5 4,Ad 18 L 23 22,Am 18 L 24 169 [S 19,S 21,S 23],AM 18 L 25 24,po 26 18 25,mv 27 26,AL 27 L 28 4 12,AL 27 L 29 5 5,Af 27 L 30 2,Am 27 L 31 354 [S 28,S 29,S 30],AM 27 L 32 31,po 33 27 32] PI) U9))
def nR:=fun a2 a3 (a0:X7) (a1:Xa) (k_:V→Q (X2 × V))=>∀{v6} {zr},k_ v6=N zr→Kp Z [2,3,4,5,8,33] [4,5,8] [] ⟨[pL 2 rI a2,pI 3 a3,pB 4,pB 5,pB 8,(33,vc (aB v6))],[(4,([aI a0.Forecast.Tide.Mean,aM zA a0.Forecast.Tide.Parts,aM zB a0.Forecast.Surges,aM X9.row a0.Chart.Points,aM X3.row a0.Chart.Segments,aM X5.row a0.Fleet,aI a0.Regime.Gap,aB a0.Regime.NoMeet]++dm a0.Crew.row)),(5,(dm a1.row)),(8,[aI (0:U),aI (0:U),aI (0:U),.nil])],[]⟩ (.code PI:: [.code U9]) (Ah [.c 8 T 4,9] [.ag [.v (.int .i64 zr.1.Start),.v (.int .i64 zr.1.Arrival),.v (.int .i64 zr.1.Cost),.o 5 (I X1.row zr.1.Passages)],.sc (.v (.bool zr.2))])
theorem XO{a2 a3 a0 a1}:nR a2 a3 a0 a1 (G5 a2 a3 a0 a1):=by
 intro v6 r h σ hσ;unfold G5 at h;obtain⟨h7,h⟩|⟨h7,h⟩:=ic h
 ·try simp only[hσ,h7,PI,C,E,F,G,H,J]
  cases h;try simp only[B7,C,E,F,G,H,J]
  trivial
 ·try simp only[hσ,h7,PI,U9,C,E,F,G,H,J]
  refine Ao ?_;obtain⟨x8,h8,h⟩:=ob h;obtain⟨r9,h9,h⟩:=ob h;try simp only[h7,h8,C,E,F,G,H,J]
  refine AH (B1g h9) ?_;obtain⟨h10,h⟩|⟨h10,h⟩:=ic h
  ·obtain⟨r11,h11,h⟩:=ob h;try simp only[h7,h8,h10,C,E,F,G,H,J]
   refine B8 (B16 h11) X (BQ X ⟨X,X,X,AZ,X,⟨⟩⟩) X (uf X) ?_;try simp only[h7,h8,h10,C,E,F,G,H,J]
   refine Al ?_;obtain⟨h12,h⟩|⟨h12,h⟩:=ic h
   ·try simp only[h7,h8,h10,h12,C,E,F,G,H,J]
    cases h;try simp only[B7,C,E,F,G,H,J]
    trivial
   ·try simp only[h7,h8,h10,h12,C,E,F,G,H,J]
    cases h;try simp only[B7,C,E,F,G,H,J]
    trivial
  ·try simp only[h7,h8,h10,C,E,F,G,H,J]
   cases h;try simp only[B7,C,E,F,G,H,J]
   trivial
theorem B09{a0}{a1}{a2}{a3}{r}(h:Ke a0 a1 a2 a3=N r):FC Z 318 [.ag (X7.row a0),.ag (zD a1),.sc (.sl (I rI a2)),.sc (.int .i64 a3)] [.ag [.v (.int .i64 r.1.Start),.v (.int .i64 r.1.Arrival),.v (.int .i64 r.1.Cost),.o 5 (I X1.row r.1.Passages)],.sc (.v (.bool r.2))]:=by
 unfold Ke at h;refine Aa A9 ZE [.c 8 T 4,9] 68 ?_;simp only[ZE,C,E,F,G,H,J];try simp only[C,E,F,G,H,J]
 refine A8 ?_;try simp only[C,E,F,G,H,J]
 refine A8 ?_;try simp only[C,E,F,G,H,J]
 refine Al ?_;obtain⟨r1,h1,h⟩:=ob h;try simp only[C,E,F,G,H,J]
 refine A4 (XD h1) ?_;obtain⟨h2,h⟩|⟨h2,h⟩:=ic h
 ·obtain⟨r3,h3,h⟩:=ob h;try simp only[h2,C,E,F,G,H,J]
  refine A4 (AU h3) ?_;obtain⟨h4,h⟩|⟨h4,h⟩:=ic h
  ·obtain⟨r5,h5,h⟩:=ob h;try simp only[h2,h4,C,E,F,G,H,J]
   refine A4 (B15 h5) ?_;try simp only[h2,h4,C,E,F,G,H,J]
   refine XO h ?_;try simp only[h2,h4,C,E,F,G,H,J,Y]
  ·try simp only[h2,h4,C,E,F,G,H,J]
   refine XO h ?_;try simp only[h2,h4,C,E,F,G,H,J,Y]
 ·try simp only[h2,C,E,F,G,H,J]
  refine XO h ?_;try simp only[h2,C,E,F,G,H,J,Y]
/- 257:spec_SameOptions -/
def PJ:X0:=A1 [Ag [3,36,37,38] [3] []] (A1 [bn 39 .lss 38 37] (Aw 39 0 1 (A1 [mv 40 38,ia 41 36 38 5,lw 42 41 5,Ai 6 [aI 0,aI 0,aB L,aI 0,aI 0],mv 5 40,so 6 42 5] (A6 (.drw [o0 (lw 43 6 5),o0 (fa 44 3 3),o0 (ld 45 44),o0 (mv 46 5),o0 (ia 47 45 46 5),o0 (lw 48 47 5),o0 (O,.geq 49 T [.i,.i,.b,.i,.i] (S 43) (S 48))]) (At 49 (A2 [A3 4 L])))) (Av 50 38)))
def Ua:X0:=(A2 [A3 4 T])
def ZF:X0:=(A1 [bo 2 0,bo 3 1,A3 4 L] (Ab [fa 7 2 0,ld 8 7,fa 9 3 0,ld 10 9,bn 11 .neq 8 10,mv 12 11,Ac 12 L 13 2 1,Ad 12 L 14 13,Ac 12 L 15 3 1,Ad 12 L 16 15,AI 12 L 17 .neq 14 16,po 18 12 17,mv 19 18,Ac 19 L 20 2 2,Ad 19 L 21 20,Ac 19 L 22 3 2,Ad 19 L 23 22,AI 19 L 24 .neq 21 23,po 25 19 24,mv 26 25,Ac 26 L 27 2 3,Ad 26 L 28 27,B3 26 L 29 28,Ac 26 L 30 3 3,Ad 26 L 31 30,B3 26 L 32 31,AI 26 L 33 .neq 29 32,po 34 26 33] 34 (A2 [A3 4 L]) (A6 (A1 [fa 35 2 3,ld 36 35,ln 37 36,A5 38 0] (Aj 0 PJ)) Ua)))
def nZ:=fun(a0:X2) (a1:X2) (k_:U→Q V)=>∀{v5} {zr},k_ v5=N zr→Kp Z [3,36,37,38] [3] [] ⟨[pB 3,pL 36 X1.row a0.Passages,pI 37 (a0.Passages.length:U),pI 38 v5],[(3,[aI a1.Start,aI a1.Arrival,aI a1.Cost,aM X1.row a1.Passages])],[]⟩ (.code (.loop PJ):: [.blk 0,.code Ua]) (Ah [4] [.sc (.v (.bool zr))])
theorem B3d{a0 a1}{n:W}:nZ a0 a1 (Iq a0 a1 n):=by
 induction n with
 | zero=>intro _ r h; cases h
 | succ n ih=>
  intro v5 r h σ hσ;rw[Iq] at h;refine Ak ?_;obtain⟨h6,h⟩|⟨h6,h⟩:=ic h
  ·obtain⟨x7,h7,h⟩:=ob h;try simp only[hσ,h6,h7,PJ,C,E,F,G,H,J]
   refine Al ?_;try simp only[h6,h7,C,E,F,G,H,J]
   refine Ao ?_;obtain⟨x8,h8,h⟩:=ob h;obtain⟨h9,h⟩|⟨h9,h⟩:=ic h
   ·try simp only[h6,h7,h8,h9,C,E,F,G,H,J]
    refine ih h ?_;try simp only[h6,h7,h8,h9,C,E,F,G,H,J,Y]
   ·try simp only[h6,h7,h8,h9,C,E,F,G,H,J]
    cases h;exact t0
  ·try simp only[hσ,h6,PJ,Ua,C,E,F,G,H,J]
   cases h;exact t0
theorem B1h{a0}{a1}{r}(h:Ip a0 a1=N r):FC Z 257 [.ag (X2.row a0),.ag (X2.row a1)] [.sc (.v (.bool r))]:=by
 unfold Ip at h;refine Aa A9 ZF [4] 51 ?_;simp only[ZF,C,E,F,G,H,J];try simp only[C,E,F,G,H,J]
 refine A8 ?_;try simp only[C,E,F,G,H,J]
 refine A8 ?_;obtain⟨h1,h⟩|⟨h1,h⟩:=ic h
 ·try simp only[h1,C,E,F,G,H,J]
  cases h;exact t0
 ·obtain⟨h2,h⟩|⟨h2,h⟩:=ic h
  ·try simp only[h1,h2,C,E,F,G,H,J]
   cases h;exact t0
  ·obtain⟨h3,h⟩|⟨h3,h⟩:=ic h
   ·try simp only[h1,h2,h3,C,E,F,G,H,J]
    cases h;exact t0
   ·obtain⟨h4,h⟩|⟨h4,h⟩:=ic h
    ·try simp only[h1,h2,h3,h4,C,E,F,G,H,J]
     cases h;exact t0
    ·try simp only[h1,h2,h3,h4,C,E,F,G,H,J]
     refine B3d h ?_;try simp only[h1,h2,h3,h4,C,E,F,G,H,J,Y]
/- 246:spec_IsOption -/
def PK:X0:=A1 [Ag [3,4,5,7,18,19,20] [3,4,5] [1024]] (A1 [bn 21 .lss 20 19] (Aw 21 0 1 (A1 [ia 22 18 20 5,lw 23 22 5,Ai 9 [aI 0,aI 0,aB L,aI 0,aI 0],so 9 23 5] (.reg [mv 24 7,fa 25 9 1,ld 26 25,AO 27 1 [.int .i64 0] 1 [(0,(S 26))],Bl 28 1 8 24 27,mv 7 28])) (Av 29 20)))
def Ub:X0:=(A1 [lw 31 3 12,lw 32 4 5,mv 33 7,fa 34 5 0,ld 35 34,ca 36 318 [S 31,S 32,S 33,S 35],mv 30 36,xt 37 30 0,xt 38 30 1,Ai 10 [aI 0,aI 0,aI 0,.nil],so 10 37 4,mv 11 38] (A2 [mv 39 11,mv 40 39,AL 40 T 41 10 4,AL 40 T 42 5 4,Am 40 T 43 257 [S 41,S 42],pa 44 40 43,mv 6 44]))
def ZH:X0:=(A1 [bo 3 0,bo 4 1,bo 5 2,A3 6 L] (Ab [lw 12 3 12,lw 13 4 5,ca 14 127 [S 12,S 13],nt 15 14] 15 (A2 [A3 6 L]) (A1 [AO 16 1 [.int .i64 0] 0 [],mv 7 16] (A6 (A1 [fa 17 5 3,ld 18 17,ln 19 18,A5 20 0] (Aj 0 PK)) Ub))))
def nM:=fun(a2:X2) (a0:X7) (a1:Xa) (k_:U→(P U)→Q V)=>∀{v3 v4} {zr},k_ v3 v4=N zr→Kp Z [3,4,5,7,18,19,20] [3,4,5] [1024] ⟨[pB 3,pB 4,pB 5,pW 7 1024,pL 18 X1.row a2.Passages,pI 19 (a2.Passages.length:U),pI 20 v3],[(3,([aI a0.Forecast.Tide.Mean,aM zA a0.Forecast.Tide.Parts,aM zB a0.Forecast.Surges,aM X9.row a0.Chart.Points,aM X3.row a0.Chart.Segments,aM X5.row a0.Fleet,aI a0.Regime.Gap,aB a0.Regime.NoMeet]++dm a0.Crew.row)),(4,(dm a1.row)),(5,[aI a2.Start,aI a2.Arrival,aI a2.Cost,aM X1.row a2.Passages])],[(1024,1,I rI v4)]⟩ (.code (.loop PK):: [.blk 0,.code Ub]) (Ah [6] [.sc (.v (.bool zr))])
theorem B3e{a2 a0 a1}{n:W}:nM a2 a0 a1 (If a2 a0 a1 n):=by
 induction n with
 | zero=>intro _ _ r h; cases h
 | succ n ih=>
  intro v3 v4 r h σ hσ;rw[If] at h;refine Ak ?_;obtain⟨h5,h⟩|⟨h5,h⟩:=ic h
  ·obtain⟨x6,h6,h⟩:=ob h;try simp only[hσ,h5,h6,PK,C,E,F,G,H,J]
   refine Al ?_;try simp only[h5,h6,C,E,F,G,H,J]
   refine AD (es:=I rI ([x6.Segment]:P U)) ?_;obtain⟨h7,h⟩:=Ba h;try simp only[h5,h6,h7,C,E,F,G,H,J]
   refine ih h ?_;try simp only[h5,h6,h7,C,E,F,G,H,J,Y]
  ·obtain⟨r9,h9,h⟩:=ob h;try simp only[hσ,h5,PK,Ub,C,E,F,G,H,J]
   refine B8 (B09 h9) X (BQ X ⟨X,X,X,AZ,X,⟨⟩⟩) X (uf X) ?_;try simp only[h5,C,E,F,G,H,J]
   refine Al ?_;obtain⟨h10,h⟩|⟨h10,h⟩:=ic h
   ·obtain⟨r11,h11,h⟩:=ob h;try simp only[h5,h10,C,E,F,G,H,J]
    refine B8 (B1h h11) X (BK X) X (uf X) ?_;try simp only[h5,h10,C,E,F,G,H,J]
    cases h;exact t0
   ·try simp only[h5,h10,C,E,F,G,H,J]
    cases h;exact t0
theorem B04{a0}{a1}{a2}{r}(h:Kc a0 a1 a2=N r):FC Z 246 [.ag (X7.row a0),.ag (zD a1),.ag (X2.row a2)] [.sc (.v (.bool r))]:=by
 unfold Kc at h;refine Aa A9 ZH [6] 45 ?_;simp only[ZH,C,E,F,G,H,J];try simp only[C,E,F,G,H,J]
 refine A8 ?_;try simp only[C,E,F,G,H,J]
 refine A8 ?_;try simp only[C,E,F,G,H,J]
 refine A8 ?_;obtain⟨r1,h1,h⟩:=ob h;try simp only[C,E,F,G,H,J]
 refine A4 (XD h1) ?_;obtain⟨h2,h⟩|⟨h2,h⟩:=ic h
 ·try simp only[h2,C,E,F,G,H,J]
  refine AD (es:=I rI ([]:P U)) ?_;try simp only[h2,C,E,F,G,H,J]
  refine B3e h ?_;try simp only[h2,C,E,F,G,H,J,Y]
 ·try simp only[h2,C,E,F,G,H,J]
  cases h;exact t0
/- 350:spec_Overlaps -/
def ZI:X0:=(A1 [bo 2 0,bo 3 1,A3 4 L] (A2 [fa 5 2 3,ld 6 5,fa 7 3 3,ld 8 7,(O,.mm 9 T (S 6) (S 8)),fa 10 2 4,ld 11 10,fa 12 3 4,ld 13 12,(O,.mm 14 L (S 11) (S 13)),bn 15 .lss 9 14,mv 4 15]))
theorem jO{a0}{a1}{r}(h:Kf a0 a1=N r):FC Z 350 [.ag (X1.row a0),.ag (X1.row a1)] [.sc (.v (.bool r))]:=by
 unfold Kf at h;refine Aa A9 ZI [4] 16 ?_;simp only[ZI,C,E,F,G,H,J];try simp only[C,E,F,G,H,J]
 refine A8 ?_;try simp only[C,E,F,G,H,J]
 refine A8 ?_;try simp only[C,E,F,G,H,J]
 cases h;exact t0
/- 351:spec_l09Near -/
def Uc:X0:=A1 [Ag [2,7,8] [] []] (A2 [mv 23 8,mv 24 7,bn 25 .sub 23 24,mv 26 2,bn 27 .lss 25 26,mv 6 27])
def ZJ:X0:=(A1 [A3 6 L] (A1 [mv 9 0,mv 10 1,(O,.mm 11 L (S 9) (S 10)),mv 7 11] (A1 [mv 12 0,mv 13 1,(O,.mm 14 T (S 12) (S 13)),mv 8 14] (Ab [mv 15 7,Ae 16 .lss 15 0,mv 17 16,Af 17 T 18 8,Af 17 T 19 7,AQ 17 T 20 .add 19 9223372036854775807,AI 17 T 21 .gtr 18 20,pa 22 17 21] 22 (A2 [A3 6 L]) Uc))))
def nu:=fun a2 (k_:U→U→Q V)=>∀{v3 v4} {zr},k_ v3 v4=N zr→Kp Z [2,7,8] [] [] ⟨[pI 2 a2,pI 7 v3,pI 8 v4],[],[]⟩ (.code Uc:: []) (Ah [6] [.sc (.v (.bool zr))])
theorem jc{a2}:nu a2 (NQ a2):=by
 intro v3 v4 r h σ hσ;unfold NQ at h;try simp only[hσ,Uc,C,E,F,G,H,J]
 cases h;exact t0
theorem jU{a0}{a1}{a2}{r}(h:Kl a0 a1 a2=N r):FC Z 351 [.sc (.int .i64 a0),.sc (.int .i64 a1),.sc (.int .i64 a2)] [.sc (.v (.bool r))]:=by
 unfold Kl at h;refine Aa A9 ZJ [6] 28 ?_;simp only[ZJ,C,E,F,G,H,J];obtain⟨h1,h⟩|⟨h1,h⟩:=ic h
 ·obtain⟨h2,h⟩|⟨h2,h⟩:=ic h
  ·try simp only[h1,h2,C,E,F,G,H,J]
   cases h;exact t0
  ·try simp only[h1,h2,C,E,F,G,H,J]
   refine jc h ?_;try simp only[h1,h2,C,E,F,G,H,J,Y]
 ·try simp only[h1,C,E,F,G,H,J]
  refine jc h ?_;try simp only[h1,C,E,F,G,H,J,Y]
/- 314:spec_ConflictOf -/
def ZK:X0:=(A1 [bo 4 0,bo 5 1,bo 6 2,bo 7 3,A5 8 0] (A1 [fa 10 4 1,ld 11 10,ln 12 11,Ae 13 .sub 12 1,mv 9 13] (Ab [lw 14 4 2,ca 15 219 [S 14],nt 16 15,mv 17 16,AL 17 L 18 5 2,Am 17 L 19 289 [S 18],AM 17 L 20 19,po 21 17 20,mv 22 21,Ac 22 L 23 6 1,Ad 22 L 24 23,Af 22 L 25 9,Am 22 L 26 169 [S 24,K 0,S 25],AM 22 L 27 26,po 28 22 27,mv 29 28,Ac 29 L 30 6 1,Ad 29 L 31 30,Ac 29 L 32 7 1,Ad 29 L 33 32,AI 29 L 34 .neq 31 33,po 35 29 34] 35 (A2 [A5 8 0]) (Ab [fa 36 6 0,ld 37 36,fa 38 7 0,ld 39 38,bn 40 .eql 37 39] 40 (Ab [lw 41 6 5,lw 42 7 5,ca 43 350 [S 41,S 42]] 43 (A2 [A5 8 1]) (A2 [A5 8 0])) (Ab [fa 44 6 2,ld 45 44,fa 46 7 2,ld 47 46,(O,.beq 48 T (S 45) (S 47))] 48 (Ab [lw 49 6 5,lw 50 7 5,ca 51 350 [S 49,S 50],mv 52 51,Ac 52 T 53 5 1,Ad 52 T 54 53,Af 52 T 55 54,Ac 55 L 56 4 1,Ad 55 L 57 56,Ac 55 L 58 6 1,Ad 55 L 59 58,CB 55 L 60 57 59 5,Ac 55 L 61 60 4,Ad 55 L 62 61,AM 55 L 63 62,(N (52,T),.pick 64 (S 55) (KB T) (S 63)),pa 65 52 64] 65 (A2 [A5 8 2]) (A2 [A5 8 0])) (Ab [fa 66 6 3,ld 67 66,fa 68 7 3,ld 69 68,fa 70 5 0,ld 71 70,ca 72 351 [S 67,S 69,S 71],mv 73 72,Ac 73 L 74 6 4,Ad 73 L 75 74,Ac 73 L 76 7 4,Ad 73 L 77 76,Ac 73 L 78 5 0,Ad 73 L 79 78,Am 73 L 80 351 [S 75,S 77,S 79],po 81 73 80] 81 (A2 [A5 8 3]) (Ab [fa 82 6 3,ld 83 82,fa 84 7 3,ld 85 84,bn 86 .lss 83 85,mv 87 86,Ac 87 T 88 6 4,Ad 87 T 89 88,Ac 87 T 90 7 4,Ad 87 T 91 90,AI 87 T 92 .gtr 89 91,pa 93 87 92,mv 94 93,Ac 94 L 95 7 3,Ad 94 L 96 95,Ac 94 L 97 6 3,Ad 94 L 98 97,AI 94 L 99 .lss 96 98,Af 94 L 100 99,Ac 100 T 101 7 4,Ad 100 T 102 101,Ac 100 T 103 6 4,Ad 100 T 104 103,AI 100 T 105 .gtr 102 104,(N (94,L),.pick 106 (S 100) (S 105) (KB L)),po 107 94 106] 107 (A2 [A5 8 4]) (A2 [A5 8 0]))))))))
theorem B0y{a0}{a1}{a2}{a3}{r}(h:Nl a0 a1 a2 a3=N r):FC Z 314 [.ag (X6.row a0),.ag (Xg.row a1),.ag (X1.row a2),.ag (X1.row a3)] [.sc (.v (.int .i64 r))]:=by
 unfold Nl at h;refine Aa A9 ZK [8] 108 ?_;simp only[ZK,C,E,F,G,H,J];try simp only[C,E,F,G,H,J]
 refine A8 ?_;try simp only[C,E,F,G,H,J]
 refine A8 ?_;try simp only[C,E,F,G,H,J]
 refine A8 ?_;try simp only[C,E,F,G,H,J]
 refine A8 ?_;obtain⟨r1,h1,h⟩:=ob h;try simp only[C,E,F,G,H,J]
 refine A4 (GF h1) ?_;obtain⟨h2,h⟩|⟨h2,h⟩:=ic h
 ·obtain⟨r3,h3,h⟩:=ob h;try simp only[h2,C,E,F,G,H,J]
  refine A4 (jQ h3) ?_;obtain⟨h4,h⟩|⟨h4,h⟩:=ic h
  ·obtain⟨r5,h5,h⟩:=ob h;try simp only[h2,h4,C,E,F,G,H,J]
   refine A4 (AU h5) ?_;obtain⟨h6,h⟩|⟨h6,h⟩:=ic h
   ·obtain⟨h7,h⟩|⟨h7,h⟩:=ic h
    ·try simp only[h2,h4,h6,h7,C,E,F,G,H,J]
     cases h;exact t0
    ·obtain⟨h8,h⟩|⟨h8,h⟩:=ic h
     ·obtain⟨r9,h9,h⟩:=ob h;try simp only[h2,h4,h6,h7,h8,C,E,F,G,H,J]
      refine A4 (jO h9) ?_;obtain⟨h10,h⟩|⟨h10,h⟩:=ic h
      ·try simp only[h2,h4,h6,h7,h8,h10,C,E,F,G,H,J]
       cases h;exact t0
      ·try simp only[h2,h4,h6,h7,h8,h10,C,E,F,G,H,J]
       cases h;exact t0
     ·obtain⟨h11,h⟩|⟨h11,h⟩:=ic h
      ·obtain⟨r17,h17,h⟩:=ob h;try simp only[h2,h4,h6,h7,h8,h11,C,E,F,G,H,J]
       refine A4 (jU h17) ?_;obtain⟨h18,h⟩|⟨h18,h⟩:=ic h
       ·try simp only[h2,h4,h6,h7,h8,h11,h18,C,E,F,G,H,J]
        cases h;exact t0
       ·obtain⟨r19,h19,h⟩:=ob h;try simp only[h2,h4,h6,h7,h8,h11,h18,C,E,F,G,H,J]
        refine A4 (jU h19) ?_;obtain⟨h20,h⟩|⟨h20,h⟩:=ic h
        ·try simp only[h2,h4,h6,h7,h8,h11,h18,h20,C,E,F,G,H,J]
         cases h;exact t0
        ·obtain⟨h21,h⟩|⟨h21,h⟩:=ic h
         ·obtain⟨h22,h⟩|⟨h22,h⟩:=ic h
          ·try simp only[h2,h4,h6,h7,h8,h11,h18,h20,h21,h22,C,E,F,G,H,J]
           cases h;exact t0
          ·obtain⟨h23,h⟩|⟨h23,h⟩:=ic h
           ·obtain⟨h25,h⟩|⟨h25,h⟩:=ic h
            ·try simp only[h2,h4,h6,h7,h8,h11,h18,h20,h21,h22,h23,h25,C,E,F,G,H,J]
             cases h;exact t0
            ·try simp only[h2,h4,h6,h7,h8,h11,h18,h20,h21,h22,h23,h25,C,E,F,G,H,J]
             cases h;exact t0
           ·try simp only[h2,h4,h6,h7,h8,h11,h18,h20,h21,h22,h23,C,E,F,G,H,J]
            cases h;exact t0
         ·obtain⟨h24,h⟩|⟨h24,h⟩:=ic h
          ·obtain⟨h26,h⟩|⟨h26,h⟩:=ic h
           ·try simp only[h2,h4,h6,h7,h8,h11,h18,h20,h21,h24,h26,C,E,F,G,H,J]
            cases h;exact t0
           ·try simp only[h2,h4,h6,h7,h8,h11,h18,h20,h21,h24,h26,C,E,F,G,H,J]
            cases h;exact t0
          ·try simp only[h2,h4,h6,h7,h8,h11,h18,h20,h21,h24,C,E,F,G,H,J]
           cases h;exact t0
      ·obtain⟨r12,h12,h⟩:=ob h;try simp only[h2,h4,h6,h7,h8,h11,C,E,F,G,H,J]
       refine A4 (jO h12) ?_;obtain⟨h13,h⟩|⟨h13,h⟩:=ic h
       ·obtain⟨h14,h⟩|⟨h14,h⟩:=ic h
        ·try simp only[h2,h4,h6,h7,h8,h11,h13,h14,C,E,F,G,H,J]
         cases h;exact t0
        ·obtain⟨x15,h15,h⟩:=ob h;obtain⟨h16,h⟩|⟨h16,h⟩:=ic h
         ·try simp only[h2,h4,h6,h7,h8,h11,h13,h14,h15,h16,C,E,F,G,H,J]
          cases h;exact t0
         ·try simp only[h2,h4,h6,h7,h8,h11,h13,h14,h15,h16,C,E,F,G,H,J]
          cases h;exact t0
       ·try simp only[h2,h4,h6,h7,h8,h11,h13,C,E,F,G,H,J]
        cases h;exact t0
   ·try simp only[h2,h4,h6,C,E,F,G,H,J]
    cases h;exact t0
  ·try simp only[h2,h4,C,E,F,G,H,J]
   cases h;exact t0
 ·try simp only[h2,C,E,F,G,H,J]
  cases h;exact t0
/- 243:spec_Clashes -/
def PL:X0:=A1 [Ag [3,4,5,10,13,14,15,19,20,21] [4,5,10] []] (A1 [bn 22 .lss 21 20] (Aw 22 2 3 (A1 [ia 23 19 21 5,lw 24 23 5,Ai 12 [aI 0,aI 0,aB L,aI 0,aI 0],so 12 24 5] (A1 [lw 25 4 2,lw 26 5 2,lw 27 10 5,lw 28 12 5,ca 29 314 [S 25,S 26,S 27,S 28],Ae 30 .neq 29 0] (At 30 (A2 [A3 8 T])))) (Av 31 21)))
def Ud:X0:=(Av 32 15)
def Lf:X0:=A1 [Ag [3,4,5,13,14,15] [4,5] []] (A1 [bn 16 .lss 15 14] (Aw 16 0 1 (A1 [ia 17 13 15 5,lw 18 17 5,Ai 10 [aI 0,aI 0,aB L,aI 0,aI 0],so 10 18 5] (A1 [mv 19 3,ln 20 19,A5 21 0] (Aj 2 PL))) Ud))
def PM:X0:=(A2 [A3 8 L])
def ZL:X0:=(A1 [bo 4 0,bo 5 1,A3 8 L] (A6 (A1 [mv 13 2,ln 14 13,A5 15 0] (Aj 0 Lf)) PM))
def nC:=fun a3 a2 v1 (a0:X6) (a1:Xg) (x3:X1) (k_:U→Q V)=>∀{v4} {zr},k_ v4=N zr→Kp Z [3,4,5,10,13,14,15,19,20,21] [4,5,10] [] ⟨[pL 3 X1.row a3,pB 4,pB 5,pB 10,pL 13 X1.row a2,pI 14 (a2.length:U),pI 15 v1,pL 19 X1.row a3,pI 20 (a3.length:U),pI 21 v4],[(4,[aM X9.row a0.Points,aM X3.row a0.Segments]),(5,(dm a1.row)),(10,(dm x3.row))],[]⟩ (.code (.loop PL):: [.blk 2,.blk 1,.code Ud,.code (.loop Lf),.blk 0,.code PM]) (Ah [8] [.sc (.v (.bool zr))])
def Yc:=fun a3 a2 (a0:X6) (a1:Xg) (k_:U→Q V)=>∀{v1} {zr},k_ v1=N zr→Kp Z [3,4,5,13,14,15] [4,5] [] ⟨[pL 3 X1.row a3,pB 4,pB 5,pL 13 X1.row a2,pI 14 (a2.length:U),pI 15 v1],[(4,[aM X9.row a0.Points,aM X3.row a0.Segments]),(5,(dm a1.row))],[]⟩ (.code (.loop Lf):: [.blk 0,.code PM]) (Ah [8] [.sc (.v (.bool zr))])
theorem B3g{a3 a2 v1 a0 a1 x3}{Ob}(wi:Yc a3 a2 a0 a1 Ob){n:W}:nC a3 a2 v1 a0 a1 x3 (I7 a3 a2 v1 a0 a1 x3 Ob n):=by
 induction n with
 | zero=>intro _ r h; cases h
 | succ n ih=>
  intro v4 r h σ hσ;rw[I7] at h;refine Ak ?_;obtain⟨h5,h⟩|⟨h5,h⟩:=ic h
  ·obtain⟨x6,h6,h⟩:=ob h;try simp only[hσ,h5,h6,PL,C,E,F,G,H,J]
   refine Al ?_;obtain⟨r7,h7,h⟩:=ob h;try simp only[h5,h6,C,E,F,G,H,J]
   refine A4 (B0y h7) ?_;obtain⟨h8,h⟩|⟨h8,h⟩:=ic h
   ·try simp only[h5,h6,h8,C,E,F,G,H,J]
    cases h;exact t0
   ·try simp only[h5,h6,h8,C,E,F,G,H,J]
    refine ih h ?_;try simp only[h5,h6,h8,C,E,F,G,H,J,Y]
  ·try simp only[hσ,h5,PL,Ud,C,E,F,G,H,J]
   refine wi h ?_;try simp only[h5,C,E,F,G,H,J,Y]
theorem B3h{a3 a2 a0 a1}{n:W}:Yc a3 a2 a0 a1 (F6 a3 a2 a0 a1 n):=by
 induction n with
 | zero=>intro _ r h; cases h
 | succ n ih=>
  intro v1 r h σ hσ;rw[F6] at h;refine Ak ?_;obtain⟨h2,h⟩|⟨h2,h⟩:=ic h
  ·obtain⟨x3,h3,h⟩:=ob h;try simp only[hσ,h2,h3,Lf,C,E,F,G,H,J]
   refine Al ?_;try simp only[h2,h3,C,E,F,G,H,J]
   refine B3g ih h ?_;try simp only[h2,h3,C,E,F,G,H,J,Y]
  ·try simp only[hσ,h2,Lf,PM,C,E,F,G,H,J]
   cases h;exact t0
theorem B0x{a0}{a1}{a2}{a3}{r}(h:Nk a0 a1 a2 a3=N r):FC Z 243 [.ag (X6.row a0),.ag (Xg.row a1),.sc (.sl (I X1.row a2)),.sc (.sl (I X1.row a3))] [.sc (.v (.bool r))]:=by
 unfold Nk at h;refine Aa A9 ZL [8] 33 ?_;simp only[ZL,C,E,F,G,H,J];try simp only[C,E,F,G,H,J]
 refine A8 ?_;try simp only[C,E,F,G,H,J]
 refine A8 ?_;try simp only[C,E,F,G,H,J]
 refine B3h h ?_;try simp only[C,E,F,G,H,J,Y]
/- 317:spec_ChainsOf -/
def PN:X0:=A1 [Ag [3,7,8,9] [] [384]] (A1 [bn 10 .lss 9 8] (Aw 10 0 1 (A1 [ia 11 7 9 4,lw 12 11 4,Ai 5 [aI 0,aI 0,aI 0,.nil],so 5 12 4] (.reg [mv 13 3,AO 14 5 [.int .i64 0,.int .i64 0,.bool L,.int .i64 0,.int .i64 0] 0 [],fa 15 5 3,ld 16 15,Bl 17 5 40 14 16,(O,.frz 896),AO 18 1 [.sl []] 1 [(0,(S 17))],Bl 19 1 24 13 18,mv 3 19])) (Av 20 9)))
def Ue:X0:=(A2 [mv 21 3,mv 2 21])
def ZM:X0:=(A1 [AA 2] (A1 [AO 6 1 [.sl []] 0 [],mv 3 6] (A6 (A1 [mv 7 0,ln 8 7,A5 9 0] (Aj 0 PN)) Ue)))
def mz:=fun a0 (k_:U→(P (P X1))→Q (P (P X1)))=>∀{v1 v2} {zr},k_ v1 v2=N zr→Kp Z [3,7,8,9] [] [384] ⟨[pW 3 384,pL 7 X2.row a0,pI 8 (a0.length:U),pI 9 v1],[],[(384,1,I (rL X1.row) v2)]⟩ (.code (.loop PN):: [.blk 0,.code Ue]) (Ah [2] [.sc (.o 1 (I (rL X1.row) zr))])
theorem B3i{a0}{n:W}:mz a0 (I4 a0 n):=by
 induction n with
 | zero=>intro _ _ r h; cases h
 | succ n ih=>
  intro v1 v2 r h σ hσ;rw[I4] at h;refine Ak ?_;obtain⟨h3,h⟩|⟨h3,h⟩:=ic h
  ·obtain⟨x4,h4,h⟩:=ob h;try simp only[hσ,h3,h4,PN,C,E,F,G,H,J]
   refine Al ?_;try simp only[h3,h4,C,E,F,G,H,J]
   refine AD (es:=I X1.row ([]:P X1)) ?_;obtain⟨h5,h⟩:=Ba h;try simp only[h3,h4,h5,C,E,F,G,H,J]
   refine D3 ?_;try simp only[h3,h4,h5,C,E,F,G,H,J]
   refine AD (es:=I (rL X1.row) ([x4.Passages]:P (P X1))) ?_;obtain⟨h6,h⟩:=Ba h;try simp only[h3,h4,h5,h6,C,E,F,G,H,J]
   refine ih h ?_;try simp only[h3,h4,h5,h6,C,E,F,G,H,J,Y]
  ·try simp only[hσ,h3,PN,Ue,C,E,F,G,H,J]
   cases h;exact t0
theorem B0w{a0}{r}(h:Nj a0=N r):FC Z 317 [.sc (.sl (I X2.row a0))] [.sc (.o 1 (I (rL X1.row) r))]:=by
 unfold Nj at h;refine Aa A9 ZM [2] 22 ?_;simp only[ZM,C,E,F,G,H,J];try simp only[C,E,F,G,H,J]
 refine AD (es:=I (rL X1.row) ([]:P (P X1))) ?_;try simp only[C,E,F,G,H,J]
 refine B3i h ?_;try simp only[C,E,F,G,H,J,Y]
end Go.Vi
