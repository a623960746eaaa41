/-
Walks. No condition.
-/
import Derived.Test.YthkepjhahmknfaaGreatDoorLNf
import Derived.Test.YthkepjhahmknfaaGreatDoorChecked
import Derived.Test.YthkepjhahmknfaaGreatDoorLSh
import Derived.KernelRfl
namespace Go.Vi
open Go.Proofs
set_option linter.all false
set_option maxRecDepth 4000
set_option maxHeartbeats 2000000
open Nat renaming reduceBEq → C, reduceMul → E, reduceAdd → F, reduceDiv → G, le_of_ble_eq_true → uf
open Int renaming reduceBEq → H
attribute [local irreducible] go Bk
open List renaming map_nil → Y, map → I, replicate → zC, all_eq_true → zE
open Tryz renaming prog → Z
open Xd renaming row → zA
open Xb renaming row → zB
open Xa renaming row → zD
open Xc renaming row → zF
open Bool renaming true → T, false → L
open Option renaming some → N, none → O
open _root_ renaming List → P, Option → Q, Int → U, Bool → V, Nat → W, rfl → X
theorem mixed:Tryz.prog.follows .mixedOrders=T:=by kernel_rfl
/- 84:laws_szPartS -/
def Zc:X0:=(A1 [A6 4 0] (A1 [mv 5 1,mv 6 0,ln 7 6,bn 8 .sub 5 7,mv 1 8] (Aa [mv 9 1,Ac 10 .lss 9 0] 10 (A2 [A6 4 (-1)]) (A2 [mv 11 1,mv 4 11]))))
theorem B1m{a0}{a1}{r}(h:N3 a0 a1=N r):FC Z 84 [.sc (.sl (I zA a0)),.sc (.int .i64 a1)] [.sc (.v (.int .i64 r))]:=by
 unfold N3 at h;refine A9 mixed Zc [4] 12 ?_;simp only[Zc,C,E,F,G,H,J];obtain⟨h1,h⟩|⟨h1,h⟩:=ic h
 ·try simp only[h1,C,E,F,G,H,J]
  cases h;exact t0
 ·try simp only[h1,C,E,F,G,H,J]
  cases h;exact t0
/- 50:laws_szTide -/
def Zd:X0:=(A1 [bo 2 0,A6 4 0] (A1 [fa 5 2 1,ld 6 5,mv 7 1,ca 8 84 [S 6,S 7],mv 1 8] (Aa [mv 9 1,Ac 10 .lss 9 0] 10 (A2 [A6 4 (-1)]) (A2 [mv 11 1,mv 4 11]))))
theorem B1u{a0}{a1}{r}(h:S9 a0 a1=N r):FC Z 50 [.ag (Xi.row a0),.sc (.int .i64 a1)] [.sc (.v (.int .i64 r))]:=by
 unfold S9 at h;refine A9 mixed Zd [4] 12 ?_;simp only[Zd,C,E,F,G,H,J];try simp only[C,E,F,G,H,J]
 refine A8 ?_;obtain⟨r1,h1,h⟩:=ob h;try simp only[C,E,F,G,H,J]
 refine A4 (B1m h1) ?_;obtain⟨h2,h⟩|⟨h2,h⟩:=ic h
 ·try simp only[h2,C,E,F,G,H,J]
  cases h;exact t0
 ·try simp only[h2,C,E,F,G,H,J]
  cases h;exact t0
/- 51:laws_szSurgeS -/
def ZT:X0:=(A1 [A6 4 0] (A1 [mv 5 1,mv 6 0,ln 7 6,bn 8 .sub 5 7,mv 1 8] (Aa [mv 9 1,Ac 10 .lss 9 0] 10 (A2 [A6 4 (-1)]) (A2 [mv 11 1,mv 4 11]))))
theorem B1t{a0}{a1}{r}(h:N9 a0 a1=N r):FC Z 51 [.sc (.sl (I zB a0)),.sc (.int .i64 a1)] [.sc (.v (.int .i64 r))]:=by
 unfold N9 at h;refine A9 mixed ZT [4] 12 ?_;simp only[ZT,C,E,F,G,H,J];obtain⟨h1,h⟩|⟨h1,h⟩:=ic h
 ·try simp only[h1,C,E,F,G,H,J]
  cases h;exact t0
 ·try simp only[h1,C,E,F,G,H,J]
  cases h;exact t0
/- 21:laws_szForecast -/
def ae:X0:=(A1 [bo 2 0,A6 4 0] (A1 [fa 5 2 0,lw 6 5 2,mv 7 1,ca 8 50 [S 6,S 7],mv 1 8] (Aa [mv 9 1,Ac 10 .lss 9 0] 10 (A2 [A6 4 (-1)]) (A1 [fa 11 2 2,ld 12 11,mv 13 1,ca 14 51 [S 12,S 13],mv 1 14] (Aa [mv 15 1,Ac 16 .lss 15 0] 16 (A2 [A6 4 (-1)]) (A2 [mv 17 1,mv 4 17]))))))
theorem B1h{a0}{a1}{r}(h:MY a0 a1=N r):FC Z 21 [.ag (zF a0),.sc (.int .i64 a1)] [.sc (.v (.int .i64 r))]:=by
 unfold MY at h;refine A9 mixed ae [4] 18 ?_;simp only[ae,C,E,F,G,H,J];try simp only[C,E,F,G,H,J]
 refine A8 ?_;obtain⟨r1,h1,h⟩:=ob h;try simp only[C,E,F,G,H,J]
 refine A4 (B1u h1) ?_;obtain⟨h2,h⟩|⟨h2,h⟩:=ic h
 ·try simp only[h2,C,E,F,G,H,J]
  cases h;exact t0
 ·obtain⟨r3,h3,h⟩:=ob h;try simp only[h2,C,E,F,G,H,J]
  refine A4 (B1t h3) ?_;obtain⟨h4,h⟩|⟨h4,h⟩:=ic h
  ·try simp only[h2,h4,C,E,F,G,H,J]
   cases h;exact t0
  ·try simp only[h2,h4,C,E,F,G,H,J]
   cases h;exact t0
/- 85:laws_szPoint -/
def bX:X0:=(A1 [bo 2 0,A6 4 0] (A1 [mv 5 1,fa 6 2 0,ld 7 6,(O,.slen 8 (S 7)),bn 9 .sub 5 8,mv 1 9] (Aa [mv 10 1,Ac 11 .lss 10 0] 11 (A2 [A6 4 (-1)]) (A2 [mv 12 1,mv 4 12]))))
theorem B1o{a0}{a1}{r}(h:N4 a0 a1=N r):FC Z 85 [.ag (X9.row a0),.sc (.int .i64 a1)] [.sc (.v (.int .i64 r))]:=by
 unfold N4 at h;refine A9 mixed bX [4] 13 ?_;simp only[bX,C,E,F,G,H,J];try simp only[C,E,F,G,H,J]
 refine A8 ?_;obtain⟨h1,h⟩|⟨h1,h⟩:=ic h
 ·try simp only[h1,C,E,F,G,H,J]
  cases h;exact t0
 ·try simp only[h1,C,E,F,G,H,J]
  cases h;exact t0
/- 52:laws_szPointS -/
def QJ:X0:=A1 [Ae [0,1,5] [] []] (A5 (A1 [mv 12 5,mv 13 0,ln 14 13,bn 15 .lss 12 14] (AL 15 .skip (.exit 0))) (A5 (.block 1 (A1 [mv 18 0,mv 19 5,ia 20 18 19 2,lw 21 20 2,mv 22 1,ca 23 85 [S 21,S 22],mv 1 23] (A1 [mv 24 1,Ac 25 .lss 24 0] (Aq 25 (A2 [A6 4 (-1)]))))) (.reg [mv 16 5,Ac 17 .add 16 1,mv 5 17])))
def Vv:X0:=(A2 [mv 26 1,mv 4 26])
def dn:X0:=(A1 [A6 4 0] (A1 [mv 6 1,mv 7 0,ln 8 7,bn 9 .sub 6 8,mv 1 9] (Aa [mv 10 1,Ac 11 .lss 10 0] 11 (A2 [A6 4 (-1)]) (A5 (A1 [A6 5 0] (Ah 0 QJ)) Vv))))
def nO:=fun a0 (k_:U→U→Q U)=>∀{v2 v3} {zr},k_ v2 v3=N zr→Kp Z [0,1,5] [] [] ⟨[pL 0 X9.row a0,pI 1 v2,pI 5 v3],[],[]⟩ (.code (.loop QJ):: [.blk 0,.code Vv]) (Ag [4] [.sc (.v (.int .i64 zr))])
theorem ww8{a0}{n:W}:nO a0 (G0 a0 n):=by
 induction n with
 | zero=>intro _ _ r h; cases h
 | succ n ih=>
  intro v2 v3 r h σ hσ;rw[G0] at h;refine Ai ?_;obtain⟨h4,h⟩|⟨h4,h⟩:=ic h
  ·obtain⟨x5,h5,h⟩:=ob h;obtain⟨r6,h6,h⟩:=ob h;try simp only[hσ,h4,h5,QJ,C,E,F,G,H,J]
   refine A4 (B1o h6) ?_;obtain⟨h7,h⟩|⟨h7,h⟩:=ic h
   ·try simp only[h4,h5,h7,C,E,F,G,H,J]
    cases h;exact t0
   ·try simp only[h4,h5,h7,C,E,F,G,H,J]
    refine ih h ?_;try simp only[h4,h5,h7,C,E,F,G,H,J,pL,aM,Y]
  ·try simp only[hσ,h4,QJ,Vv,C,E,F,G,H,J]
   cases h;exact t0
theorem B1p{a0}{a1}{r}(h:N5 a0 a1=N r):FC Z 52 [.sc (.sl (I X9.row a0)),.sc (.int .i64 a1)] [.sc (.v (.int .i64 r))]:=by
 unfold N5 at h;refine A9 mixed dn [4] 27 ?_;simp only[dn,C,E,F,G,H,J];obtain⟨h1,h⟩|⟨h1,h⟩:=ic h
 ·try simp only[h1,C,E,F,G,H,J]
  cases h;exact t0
 ·try simp only[h1,C,E,F,G,H,J]
  refine ww8 h ?_;try simp only[h1,C,E,F,G,H,J,pL,aM,Y]
/- 53:laws_szSegmentS -/
def dx:X0:=(A1 [A6 4 0] (A1 [mv 5 1,mv 6 0,ln 7 6,bn 8 .sub 5 7,mv 1 8] (Aa [mv 9 1,Ac 10 .lss 9 0] 10 (A2 [A6 4 (-1)]) (A2 [mv 11 1,mv 4 11]))))
theorem B1q{a0}{a1}{r}(h:N6 a0 a1=N r):FC Z 53 [.sc (.sl (I X3.row a0)),.sc (.int .i64 a1)] [.sc (.v (.int .i64 r))]:=by
 unfold N6 at h;refine A9 mixed dx [4] 12 ?_;simp only[dx,C,E,F,G,H,J];obtain⟨h1,h⟩|⟨h1,h⟩:=ic h
 ·try simp only[h1,C,E,F,G,H,J]
  cases h;exact t0
 ·try simp only[h1,C,E,F,G,H,J]
  cases h;exact t0
/- 22:laws_szChart -/
def Ze:X0:=(A1 [bo 2 0,A6 4 0] (A1 [fa 5 2 0,ld 6 5,mv 7 1,ca 8 52 [S 6,S 7],mv 1 8] (Aa [mv 9 1,Ac 10 .lss 9 0] 10 (A2 [A6 4 (-1)]) (A1 [fa 11 2 1,ld 12 11,mv 13 1,ca 14 53 [S 12,S 13],mv 1 14] (Aa [mv 15 1,Ac 16 .lss 15 0] 16 (A2 [A6 4 (-1)]) (A2 [mv 17 1,mv 4 17]))))))
theorem B1f{a0}{a1}{r}(h:MX a0 a1=N r):FC Z 22 [.ag (X6.row a0),.sc (.int .i64 a1)] [.sc (.v (.int .i64 r))]:=by
 unfold MX at h;refine A9 mixed Ze [4] 18 ?_;simp only[Ze,C,E,F,G,H,J];try simp only[C,E,F,G,H,J]
 refine A8 ?_;obtain⟨r1,h1,h⟩:=ob h;try simp only[C,E,F,G,H,J]
 refine A4 (B1p h1) ?_;obtain⟨h2,h⟩|⟨h2,h⟩:=ic h
 ·try simp only[h2,C,E,F,G,H,J]
  cases h;exact t0
 ·obtain⟨r3,h3,h⟩:=ob h;try simp only[h2,C,E,F,G,H,J]
  refine A4 (B1q h3) ?_;obtain⟨h4,h⟩|⟨h4,h⟩:=ic h
  ·try simp only[h2,h4,C,E,F,G,H,J]
   cases h;exact t0
  ·try simp only[h2,h4,C,E,F,G,H,J]
   cases h;exact t0
/- 54:laws_szShip -/
def Zh:X0:=(A1 [bo 2 0,A6 4 0] (A1 [mv 5 1,fa 6 2 0,ld 7 6,(O,.slen 8 (S 7)),bn 9 .sub 5 8,mv 1 9] (Aa [mv 10 1,Ac 11 .lss 10 0] 11 (A2 [A6 4 (-1)]) (A2 [mv 12 1,mv 4 12]))))
theorem B1r{a0}{a1}{r}(h:N7 a0 a1=N r):FC Z 54 [.ag (X5.row a0),.sc (.int .i64 a1)] [.sc (.v (.int .i64 r))]:=by
 unfold N7 at h;refine A9 mixed Zh [4] 13 ?_;simp only[Zh,C,E,F,G,H,J];try simp only[C,E,F,G,H,J]
 refine A8 ?_;obtain⟨h1,h⟩|⟨h1,h⟩:=ic h
 ·try simp only[h1,C,E,F,G,H,J]
  cases h;exact t0
 ·try simp only[h1,C,E,F,G,H,J]
  cases h;exact t0
/- 23:laws_szShipS -/
def Pn:X0:=A1 [Ae [0,1,5] [] []] (A5 (A1 [mv 12 5,mv 13 0,ln 14 13,bn 15 .lss 12 14] (AL 15 .skip (.exit 0))) (A5 (.block 1 (A1 [mv 18 0,mv 19 5,ia 20 18 19 6,lw 21 20 6,mv 22 1,ca 23 54 [S 21,S 22],mv 1 23] (A1 [mv 24 1,Ac 25 .lss 24 0] (Aq 25 (A2 [A6 4 (-1)]))))) (.reg [mv 16 5,Ac 17 .add 16 1,mv 5 17])))
def U3:X0:=(A2 [mv 26 1,mv 4 26])
def Zt:X0:=(A1 [A6 4 0] (A1 [mv 6 1,mv 7 0,ln 8 7,bn 9 .sub 6 8,mv 1 9] (Aa [mv 10 1,Ac 11 .lss 10 0] 11 (A2 [A6 4 (-1)]) (A5 (A1 [A6 5 0] (Ah 0 Pn)) U3))))
def nP:=fun a0 (k_:U→U→Q U)=>∀{v2 v3} {zr},k_ v2 v3=N zr→Kp Z [0,1,5] [] [] ⟨[pL 0 X5.row a0,pI 1 v2,pI 5 v3],[],[]⟩ (.code (.loop Pn):: [.blk 0,.code U3]) (Ag [4] [.sc (.v (.int .i64 zr))])
theorem B4r{a0}{n:W}:nP a0 (G1 a0 n):=by
 induction n with
 | zero=>intro _ _ r h; cases h
 | succ n ih=>
  intro v2 v3 r h σ hσ;rw[G1] at h;refine Ai ?_;obtain⟨h4,h⟩|⟨h4,h⟩:=ic h
  ·obtain⟨x5,h5,h⟩:=ob h;obtain⟨r6,h6,h⟩:=ob h;try simp only[hσ,h4,h5,Pn,C,E,F,G,H,J]
   refine A4 (B1r h6) ?_;obtain⟨h7,h⟩|⟨h7,h⟩:=ic h
   ·try simp only[h4,h5,h7,C,E,F,G,H,J]
    cases h;exact t0
   ·try simp only[h4,h5,h7,C,E,F,G,H,J]
    refine ih h ?_;try simp only[h4,h5,h7,C,E,F,G,H,J,pL,aM,Y]
  ·try simp only[hσ,h4,Pn,U3,C,E,F,G,H,J]
   cases h;exact t0
theorem B1s{a0}{a1}{r}(h:N8 a0 a1=N r):FC Z 23 [.sc (.sl (I X5.row a0)),.sc (.int .i64 a1)] [.sc (.v (.int .i64 r))]:=by
 unfold N8 at h;refine A9 mixed Zt [4] 27 ?_;simp only[Zt,C,E,F,G,H,J];obtain⟨h1,h⟩|⟨h1,h⟩:=ic h
 ·try simp only[h1,C,E,F,G,H,J]
  cases h;exact t0
 ·try simp only[h1,C,E,F,G,H,J]
  refine B4r h ?_;try simp only[h1,C,E,F,G,H,J,pL,aM,Y]
/- 55:laws_szIntS -/
def ZD:X0:=(A1 [A6 4 0] (A1 [mv 5 1,mv 6 0,ln 7 6,bn 8 .sub 5 7,mv 1 8] (Aa [mv 9 1,Ac 10 .lss 9 0] 10 (A2 [A6 4 (-1)]) (A2 [mv 11 1,mv 4 11]))))
theorem B1j{a0}{a1}{r}(h:N0 a0 a1=N r):FC Z 55 [.sc (.sl (I rI a0)),.sc (.int .i64 a1)] [.sc (.v (.int .i64 r))]:=by
 unfold N0 at h;refine A9 mixed ZD [4] 12 ?_;simp only[ZD,C,E,F,G,H,J];obtain⟨h1,h⟩|⟨h1,h⟩:=ic h
 ·try simp only[h1,C,E,F,G,H,J]
  cases h;exact t0
 ·try simp only[h1,C,E,F,G,H,J]
  cases h;exact t0
/- 24:laws_szCrew -/
def ZG:X0:=(A1 [bo 2 0,A6 4 0] (A1 [fa 5 2 3,ld 6 5,mv 7 1,ca 8 55 [S 6,S 7],mv 1 8] (Aa [mv 9 1,Ac 10 .lss 9 0] 10 (A2 [A6 4 (-1)]) (A2 [mv 11 1,mv 4 11]))))
theorem B1g{a0}{a1}{r}(h:S7 a0 a1=N r):FC Z 24 [.ag (Xj.row a0),.sc (.int .i64 a1)] [.sc (.v (.int .i64 r))]:=by
 unfold S7 at h;refine A9 mixed ZG [4] 12 ?_;simp only[ZG,C,E,F,G,H,J];try simp only[C,E,F,G,H,J]
 refine A8 ?_;obtain⟨r1,h1,h⟩:=ob h;try simp only[C,E,F,G,H,J]
 refine A4 (B1j h1) ?_;obtain⟨h2,h⟩|⟨h2,h⟩:=ic h
 ·try simp only[h2,C,E,F,G,H,J]
  cases h;exact t0
 ·try simp only[h2,C,E,F,G,H,J]
  cases h;exact t0
/- 4:laws_szHarbour -/
def ZJ:X0:=(A1 [bo 2 0,A6 4 0] (A1 [fa 5 2 0,lw 6 5 3,mv 7 1,ca 8 21 [S 6,S 7],mv 1 8] (Aa [mv 9 1,Ac 10 .lss 9 0] 10 (A2 [A6 4 (-1)]) (A1 [fa 11 2 3,lw 12 11 2,mv 13 1,ca 14 22 [S 12,S 13],mv 1 14] (Aa [mv 15 1,Ac 16 .lss 15 0] 16 (A2 [A6 4 (-1)]) (A1 [fa 17 2 5,ld 18 17,mv 19 1,ca 20 23 [S 18,S 19],mv 1 20] (Aa [mv 21 1,Ac 22 .lss 21 0] 22 (A2 [A6 4 (-1)]) (A1 [fa 23 2 8,lw 24 23 4,mv 25 1,ca 26 24 [S 24,S 25],mv 1 26] (Aa [mv 27 1,Ac 28 .lss 27 0] 28 (A2 [A6 4 (-1)]) (A2 [mv 29 1,mv 4 29]))))))))))
theorem B1i{a0}{a1}{r}(h:MZ a0 a1=N r):FC Z 4 [.ag (X7.row a0),.sc (.int .i64 a1)] [.sc (.v (.int .i64 r))]:=by
 unfold MZ at h;refine A9 mixed ZJ [4] 30 ?_;simp only[ZJ,C,E,F,G,H,J];try simp only[C,E,F,G,H,J]
 refine A8 ?_;obtain⟨r1,h1,h⟩:=ob h;try simp only[C,E,F,G,H,J]
 refine A4 (B1h h1) ?_;obtain⟨h2,h⟩|⟨h2,h⟩:=ic h
 ·try simp only[h2,C,E,F,G,H,J]
  cases h;exact t0
 ·obtain⟨r3,h3,h⟩:=ob h;try simp only[h2,C,E,F,G,H,J]
  refine A4 (B1f h3) ?_;obtain⟨h4,h⟩|⟨h4,h⟩:=ic h
  ·try simp only[h2,h4,C,E,F,G,H,J]
   cases h;exact t0
  ·obtain⟨r5,h5,h⟩:=ob h;try simp only[h2,h4,C,E,F,G,H,J]
   refine A4 (B1s h5) ?_;obtain⟨h6,h⟩|⟨h6,h⟩:=ic h
   ·try simp only[h2,h4,h6,C,E,F,G,H,J]
    cases h;exact t0
   ·obtain⟨r7,h7,h⟩:=ob h;try simp only[h2,h4,h6,C,E,F,G,H,J]
    refine A4 (B1g h7) ?_;obtain⟨h8,h⟩|⟨h8,h⟩:=ic h
    ·try simp only[h2,h4,h6,h8,C,E,F,G,H,J]
     cases h;exact t0
    ·try simp only[h2,h4,h6,h8,C,E,F,G,H,J]
     cases h;exact t0
/- 5:laws_szCallS -/
def ZO:X0:=(A1 [A6 4 0] (A1 [mv 5 1,mv 6 0,ln 7 6,bn 8 .sub 5 7,mv 1 8] (Aa [mv 9 1,Ac 10 .lss 9 0] 10 (A2 [A6 4 (-1)]) (A2 [mv 11 1,mv 4 11]))))
theorem B1e{a0}{a1}{r}(h:MW a0 a1=N r):FC Z 5 [.sc (.sl (I zD a0)),.sc (.int .i64 a1)] [.sc (.v (.int .i64 r))]:=by
 unfold MW at h;refine A9 mixed ZO [4] 12 ?_;simp only[ZO,C,E,F,G,H,J];obtain⟨h1,h⟩|⟨h1,h⟩:=ic h
 ·try simp only[h1,C,E,F,G,H,J]
  cases h;exact t0
 ·try simp only[h1,C,E,F,G,H,J]
  cases h;exact t0
/- 56:laws_szPassageS -/
def ZU:X0:=(A1 [A6 4 0] (A1 [mv 5 1,mv 6 0,ln 7 6,bn 8 .sub 5 7,mv 1 8] (Aa [mv 9 1,Ac 10 .lss 9 0] 10 (A2 [A6 4 (-1)]) (A2 [mv 11 1,mv 4 11]))))
theorem B1n{a0}{a1}{r}(h:S8 a0 a1=N r):FC Z 56 [.sc (.sl (I X1.row a0)),.sc (.int .i64 a1)] [.sc (.v (.int .i64 r))]:=by
 unfold S8 at h;refine A9 mixed ZU [4] 12 ?_;simp only[ZU,C,E,F,G,H,J];obtain⟨h1,h⟩|⟨h1,h⟩:=ic h
 ·try simp only[h1,C,E,F,G,H,J]
  cases h;exact t0
 ·try simp only[h1,C,E,F,G,H,J]
  cases h;exact t0
/- 25:laws_szOption -/
def ZX:X0:=(A1 [bo 2 0,A6 4 0] (A1 [fa 5 2 3,ld 6 5,mv 7 1,ca 8 56 [S 6,S 7],mv 1 8] (Aa [mv 9 1,Ac 10 .lss 9 0] 10 (A2 [A6 4 (-1)]) (A2 [mv 11 1,mv 4 11]))))
theorem B1k{a0}{a1}{r}(h:N1 a0 a1=N r):FC Z 25 [.ag (X2.row a0),.sc (.int .i64 a1)] [.sc (.v (.int .i64 r))]:=by
 unfold N1 at h;refine A9 mixed ZX [4] 12 ?_;simp only[ZX,C,E,F,G,H,J];try simp only[C,E,F,G,H,J]
 refine A8 ?_;obtain⟨r1,h1,h⟩:=ob h;try simp only[C,E,F,G,H,J]
 refine A4 (B1n h1) ?_;obtain⟨h2,h⟩|⟨h2,h⟩:=ic h
 ·try simp only[h2,C,E,F,G,H,J]
  cases h;exact t0
 ·try simp only[h2,C,E,F,G,H,J]
  cases h;exact t0
/- 6:laws_szOptionS -/
def PI:X0:=A1 [Ae [0,1,5] [] []] (A5 (A1 [mv 12 5,mv 13 0,ln 14 13,bn 15 .lss 12 14] (AL 15 .skip (.exit 0))) (A5 (.block 1 (A1 [mv 18 0,mv 19 5,ia 20 18 19 4,lw 21 20 4,mv 22 1,ca 23 25 [S 21,S 22],mv 1 23] (A1 [mv 24 1,Ac 25 .lss 24 0] (Aq 25 (A2 [A6 4 (-1)]))))) (.reg [mv 16 5,Ac 17 .add 16 1,mv 5 17])))
def Um:X0:=(A2 [mv 26 1,mv 4 26])
def aG:X0:=(A1 [A6 4 0] (A1 [mv 6 1,mv 7 0,ln 8 7,bn 9 .sub 6 8,mv 1 9] (Aa [mv 10 1,Ac 11 .lss 10 0] 11 (A2 [A6 4 (-1)]) (A5 (A1 [A6 5 0] (Ah 0 PI)) Um))))
def nN:=fun a0 (k_:U→U→Q U)=>∀{v2 v3} {zr},k_ v2 v3=N zr→Kp Z [0,1,5] [] [] ⟨[pL 0 X2.row a0,pI 1 v2,pI 5 v3],[],[]⟩ (.code (.loop PI):: [.blk 0,.code Um]) (Ag [4] [.sc (.v (.int .i64 zr))])
theorem B49{a0}{n:W}:nN a0 (FZ a0 n):=by
 induction n with
 | zero=>intro _ _ r h; cases h
 | succ n ih=>
  intro v2 v3 r h σ hσ;rw[FZ] at h;refine Ai ?_;obtain⟨h4,h⟩|⟨h4,h⟩:=ic h
  ·obtain⟨x5,h5,h⟩:=ob h;obtain⟨r6,h6,h⟩:=ob h;try simp only[hσ,h4,h5,PI,C,E,F,G,H,J]
   refine A4 (B1k h6) ?_;obtain⟨h7,h⟩|⟨h7,h⟩:=ic h
   ·try simp only[h4,h5,h7,C,E,F,G,H,J]
    cases h;exact t0
   ·try simp only[h4,h5,h7,C,E,F,G,H,J]
    refine ih h ?_;try simp only[h4,h5,h7,C,E,F,G,H,J,pL,aM,Y]
  ·try simp only[hσ,h4,PI,Um,C,E,F,G,H,J]
   cases h;exact t0
theorem B1l{a0}{a1}{r}(h:N2 a0 a1=N r):FC Z 6 [.sc (.sl (I X2.row a0)),.sc (.int .i64 a1)] [.sc (.v (.int .i64 r))]:=by
 unfold N2 at h;refine A9 mixed aG [4] 27 ?_;simp only[aG,C,E,F,G,H,J];obtain⟨h1,h⟩|⟨h1,h⟩:=ic h
 ·try simp only[h1,C,E,F,G,H,J]
  cases h;exact t0
 ·try simp only[h1,C,E,F,G,H,J]
  refine B49 h ?_;try simp only[h1,C,E,F,G,H,J,pL,aM,Y]
/- 125:laws_toPart -/
def aR:X0:=(A1 [bo 1 0,Al 2 [aI 0,aI 0,aI 0]] (A1 [Al 3 [aI 0,aI 0,aI 0]] (A1 [fa 4 1 0,ld 5 4,fa 6 3 0,so 6 5 1] (A1 [fa 7 1 1,ld 8 7,fa 9 3 1,so 9 8 1] (A1 [fa 10 1 2,ld 11 10,fa 12 3 2,so 12 11 1] (A2 [lw 13 3 3,so 2 13 3]))))))
theorem B11{a0}{r}(h:Sc a0=N r):FC Z 125 [.ag (zA a0)] [.ag [.v (.int .i64 r.Amp),.v (.int .i64 r.Period),.v (.int .i64 r.Phase)]]:=by
 unfold Sc at h;refine A9 mixed aR [.c 2 T 3] 14 ?_;simp only[aR,C,E,F,G,H,J];try simp only[C,E,F,G,H,J]
 refine A8 ?_;try simp only[C,E,F,G,H,J]
 refine Am ?_;try simp only[C,E,F,G,H,J]
 refine Am ?_;try simp only[C,E,F,G,H,J]
 cases h;try simp only[Bh,C,E,F,G,H,J]
 trivial
/- 93:laws_toPartS -/
def PT:X0:=A1 [Ae [0,3,4] [] [448]] (A5 (A1 [mv 8 4,mv 9 0,ln 10 9,bn 11 .lss 8 10] (AL 11 .skip (.exit 0))) (A5 (.block 1 (.reg [mv 14 3,mv 15 4,mv 16 0,mv 17 4,ia 18 16 17 3,lw 19 18 3,ca 20 125 [S 19],ia 21 14 15 3,so 21 20 3])) (.reg [mv 12 4,Ac 13 .add 12 1,mv 4 13])))
def Uw:X0:=(A2 [mv 22 3,mv 2 22])
def aa:X0:=(A1 [Ay 2] (A1 [mv 5 0,ln 6 5,(O,.mksl 7 3 24 [.int .i64 0,.int .i64 0,.int .i64 0] (S 6) (S 6)),mv 3 7] (A5 (A1 [A6 4 0] (Ah 0 PT)) Uw)))
def nT:=fun a0 (k_:U→(P Xd)→Q (P Xd))=>∀{v2 v3} {zr},k_ v2 v3=N zr→Kp Z [0,3,4] [] [448] ⟨[pL 0 zA a0,pW 3 448,pI 4 v2],[],[(448,3,I zA v3)]⟩ (.code (.loop PT):: [.blk 0,.code Uw]) (Ag [2] [.sc (.o 3 (I zA zr))])
theorem B5l{a0}{n:W}:nT a0 (I3 a0 n):=by
 induction n with
 | zero=>intro _ _ r h; cases h
 | succ n ih=>
  intro v2 v3 r h σ hσ;rw[I3] at h;refine Ai ?_;obtain⟨h4,h⟩|⟨h4,h⟩:=ic h
  ·obtain⟨x5,h5,h⟩:=ob h;obtain⟨r6,h6,h⟩:=ob h;try simp only[hσ,h4,h5,PT,C,E,F,G,H,J]
   refine A4 (B11 h6) ?_;obtain⟨x7,h7,h⟩:=ob h;have h7n:=AH h7;try simp only[h4,h5,h7,C,E,F,G,H,J]
   refine AZ (row:=zA) (y:=r6) X X h7n X X (by rfl) ?_;try simp only[h4,h5,h7,C,E,F,G,H,J]
   refine ih h ?_;try simp only[h4,h5,h7,C,E,F,G,H,J,pL,aM,Y]
  ·try simp only[hσ,h4,PT,Uw,C,E,F,G,H,J]
   cases h;exact t0
theorem B12{a0}{r}(h:Nf a0=N r):FC Z 93 [.sc (.sl (I zA a0))] [.sc (.o 3 (I zA r))]:=by
 unfold Nf at h;refine A9 mixed aa [2] 23 ?_;simp only[aa,C,E,F,G,H,J];obtain⟨n1,hn1,h⟩:=ob h;try simp only[C,E,F,G,H,J]
 refine Dd (es:=I zA (zC n1 (⟨(0:U),(0:U),(0:U)⟩:Xd))) X X hn1 X (Dl X) X ?_;try simp only[C,E,F,G,H,J]
 refine B5l h ?_;try simp only[C,E,F,G,H,J,pL,aM,Y]
/- 60:laws_toTide -/
def ak:X0:=(A1 [bo 1 0,Al 2 [aI 0,.nil]] (A1 [Al 3 [aI 0,.nil]] (A1 [fa 4 1 0,ld 5 4,fa 6 3 0,so 6 5 1] (A1 [fa 7 1 1,ld 8 7,ca 9 93 [S 8],fa 10 3 1,so 10 9 1] (A2 [lw 11 3 2,so 2 11 2])))))
theorem B2e{a0}{r}(h:Sj a0=N r):FC Z 60 [.ag (Xi.row a0)] [.ag [.v (.int .i64 r.Mean),.o 3 (I zA r.Parts)]]:=by
 unfold Sj at h;refine A9 mixed ak [.c 2 T 2] 12 ?_;simp only[ak,C,E,F,G,H,J];try simp only[C,E,F,G,H,J]
 refine A8 ?_;try simp only[C,E,F,G,H,J]
 refine Am ?_;try simp only[C,E,F,G,H,J]
 refine Am ?_;obtain⟨r1,h1,h⟩:=ob h;try simp only[C,E,F,G,H,J]
 refine A4 (B12 h1) ?_;try simp only[C,E,F,G,H,J]
 cases h;try simp only[Bh,C,E,F,G,H,J]
 trivial
/- 94:laws_toSurge -/
def am:X0:=(A1 [bo 1 0,Al 2 [aI 0,aI 0,aI 0]] (A1 [Al 3 [aI 0,aI 0,aI 0]] (A1 [fa 4 1 0,ld 5 4,fa 6 3 0,so 6 5 1] (A1 [fa 7 1 1,ld 8 7,fa 9 3 1,so 9 8 1] (A1 [fa 10 1 2,ld 11 10,fa 12 3 2,so 12 11 1] (A2 [lw 13 3 3,so 2 13 3]))))))
theorem B2c{a0}{r}(h:Si a0=N r):FC Z 94 [.ag (zB a0)] [.ag [.v (.int .i64 r.From),.v (.int .i64 r.Low),.v (.int .i64 r.High)]]:=by
 unfold Si at h;refine A9 mixed am [.c 2 T 3] 14 ?_;simp only[am,C,E,F,G,H,J];try simp only[C,E,F,G,H,J]
 refine A8 ?_;try simp only[C,E,F,G,H,J]
 refine Am ?_;try simp only[C,E,F,G,H,J]
 refine Am ?_;try simp only[C,E,F,G,H,J]
 cases h;try simp only[Bh,C,E,F,G,H,J]
 trivial
/- 61:laws_toSurgeS -/
def Q9:X0:=A1 [Ae [0,3,4] [] [448]] (A5 (A1 [mv 8 4,mv 9 0,ln 10 9,bn 11 .lss 8 10] (AL 11 .skip (.exit 0))) (A5 (.block 1 (.reg [mv 14 3,mv 15 4,mv 16 0,mv 17 4,ia 18 16 17 3,lw 19 18 3,ca 20 94 [S 19],ia 21 14 15 3,so 21 20 3])) (.reg [mv 12 4,Ac 13 .add 12 1,mv 4 13])))
def UK:X0:=(A2 [mv 22 3,mv 2 22])
def bD:X0:=(A1 [Ay 2] (A1 [mv 5 0,ln 6 5,(O,.mksl 7 3 24 [.int .i64 0,.int .i64 0,.int .i64 0] (S 6) (S 6)),mv 3 7] (A5 (A1 [A6 4 0] (Ah 0 Q9)) UK)))
def nY:=fun a0 (k_:U→(P Xb)→Q (P Xb))=>∀{v2 v3} {zr},k_ v2 v3=N zr→Kp Z [0,3,4] [] [448] ⟨[pL 0 zB a0,pW 3 448,pI 4 v2],[],[(448,3,I zB v3)]⟩ (.code (.loop Q9):: [.blk 0,.code UK]) (Ag [2] [.sc (.o 3 (I zB zr))])
theorem B5y{a0}{n:W}:nY a0 (I8 a0 n):=by
 induction n with
 | zero=>intro _ _ r h; cases h
 | succ n ih=>
  intro v2 v3 r h σ hσ;rw[I8] at h;refine Ai ?_;obtain⟨h4,h⟩|⟨h4,h⟩:=ic h
  ·obtain⟨x5,h5,h⟩:=ob h;obtain⟨r6,h6,h⟩:=ob h;try simp only[hσ,h4,h5,Q9,C,E,F,G,H,J]
   refine A4 (B2c h6) ?_;obtain⟨x7,h7,h⟩:=ob h;have h7n:=AH h7;try simp only[h4,h5,h7,C,E,F,G,H,J]
   refine AZ (row:=zB) (y:=r6) X X h7n X X (by rfl) ?_;try simp only[h4,h5,h7,C,E,F,G,H,J]
   refine ih h ?_;try simp only[h4,h5,h7,C,E,F,G,H,J,pL,aM,Y]
  ·try simp only[hσ,h4,Q9,UK,C,E,F,G,H,J]
   cases h;exact t0
theorem B2d{a0}{r}(h:Nk a0=N r):FC Z 61 [.sc (.sl (I zB a0))] [.sc (.o 3 (I zB r))]:=by
 unfold Nk at h;refine A9 mixed bD [2] 23 ?_;simp only[bD,C,E,F,G,H,J];obtain⟨n1,hn1,h⟩:=ob h;try simp only[C,E,F,G,H,J]
 refine Dd (es:=I zB (zC n1 (⟨(0:U),(0:U),(0:U)⟩:Xb))) X X hn1 X (Dl X) X ?_;try simp only[C,E,F,G,H,J]
 refine B5y h ?_;try simp only[C,E,F,G,H,J,pL,aM,Y]
/- 28:laws_toForecast -/
def bK:X0:=(A1 [bo 1 0,Al 2 [aI 0,.nil,.nil]] (A1 [Al 3 [aI 0,.nil,.nil]] (A1 [fa 4 1 0,lw 5 4 2,ca 6 60 [S 5],fa 7 3 0,so 7 6 2] (A1 [fa 8 1 2,ld 9 8,ca 10 61 [S 9],fa 11 3 2,so 11 10 1] (A2 [lw 12 3 3,so 2 12 3])))))
theorem B1y{a0}{r}(h:Nb a0=N r):FC Z 28 [.ag (zF a0)] [.ag [.v (.int .i64 r.Tide.Mean),.o 3 (I zA r.Tide.Parts),.o 3 (I zB r.Surges)]]:=by
 unfold Nb at h;refine A9 mixed bK [.c 2 T 3] 13 ?_;simp only[bK,C,E,F,G,H,J];try simp only[C,E,F,G,H,J]
 refine A8 ?_;try simp only[C,E,F,G,H,J]
 refine Am ?_;try simp only[C,E,F,G,H,J]
 refine Am ?_;obtain⟨r1,h1,h⟩:=ob h;try simp only[C,E,F,G,H,J]
 refine A4 (B2e h1) ?_;obtain⟨r2,h2,h⟩:=ob h;try simp only[C,E,F,G,H,J]
 refine A4 (B2d h2) ?_;try simp only[C,E,F,G,H,J]
 cases h;try simp only[Bh,C,E,F,G,H,J]
 trivial
/- 95:laws_toPoint -/
def bO:X0:=(A1 [bo 1 0,Al 2 [aS [],aB L]] (A1 [Al 3 [aS [],aB L]] (A1 [fa 4 1 0,ld 5 4,fa 6 3 0,so 6 5 1] (A1 [fa 7 1 1,ld 8 7,fa 9 3 1,so 9 8 1] (A2 [lw 10 3 2,so 2 10 2])))))
theorem B15{a0}{r}(h:Se a0=N r):FC Z 95 [.ag (X9.row a0)] [.ag [.v (.str r.Name),.v (.bool r.Wait)]]:=by
 unfold Se at h;refine A9 mixed bO [.c 2 T 2] 11 ?_;simp only[bO,C,E,F,G,H,J];try simp only[C,E,F,G,H,J]
 refine A8 ?_;try simp only[C,E,F,G,H,J]
 refine Am ?_;try simp only[C,E,F,G,H,J]
 refine Am ?_;try simp only[C,E,F,G,H,J]
 cases h;try simp only[Bh,C,E,F,G,H,J]
 trivial
/- 62:laws_toPointS -/
def Qm:X0:=A1 [Ae [0,3,4] [] [448]] (A5 (A1 [mv 8 4,mv 9 0,ln 10 9,bn 11 .lss 8 10] (AL 11 .skip (.exit 0))) (A5 (.block 1 (.reg [mv 14 3,mv 15 4,mv 16 0,mv 17 4,ia 18 16 17 2,lw 19 18 2,ca 20 95 [S 19],ia 21 14 15 2,so 21 20 2])) (.reg [mv 12 4,Ac 13 .add 12 1,mv 4 13])))
def UU:X0:=(A2 [mv 22 3,mv 2 22])
def bb:X0:=(A1 [Ay 2] (A1 [mv 5 0,ln 6 5,(O,.mksl 7 2 24 [.str [],.bool L] (S 6) (S 6)),mv 3 7] (A5 (A1 [A6 4 0] (Ah 0 Qm)) UU)))
def nV:=fun a0 (k_:U→(P X9)→Q (P X9))=>∀{v2 v3} {zr},k_ v2 v3=N zr→Kp Z [0,3,4] [] [448] ⟨[pL 0 X9.row a0,pW 3 448,pI 4 v2],[],[(448,2,I X9.row v3)]⟩ (.code (.loop Qm):: [.blk 0,.code UU]) (Ag [2] [.sc (.o 2 (I X9.row zr))])
theorem B6a{a0}{n:W}:nV a0 (I5 a0 n):=by
 induction n with
 | zero=>intro _ _ r h; cases h
 | succ n ih=>
  intro v2 v3 r h σ hσ;rw[I5] at h;refine Ai ?_;obtain⟨h4,h⟩|⟨h4,h⟩:=ic h
  ·obtain⟨x5,h5,h⟩:=ob h;obtain⟨r6,h6,h⟩:=ob h;try simp only[hσ,h4,h5,Qm,C,E,F,G,H,J]
   refine A4 (B15 h6) ?_;obtain⟨x7,h7,h⟩:=ob h;have h7n:=AH h7;try simp only[h4,h5,h7,C,E,F,G,H,J]
   refine AZ (row:=X9.row) (y:=r6) X X h7n X X (by rfl) ?_;try simp only[h4,h5,h7,C,E,F,G,H,J]
   refine ih h ?_;try simp only[h4,h5,h7,C,E,F,G,H,J,pL,aM,Y]
  ·try simp only[hσ,h4,Qm,UU,C,E,F,G,H,J]
   cases h;exact t0
theorem B16{a0}{r}(h:Nh a0=N r):FC Z 62 [.sc (.sl (I X9.row a0))] [.sc (.o 2 (I X9.row r))]:=by
 unfold Nh at h;refine A9 mixed bb [2] 23 ?_;simp only[bb,C,E,F,G,H,J];obtain⟨n1,hn1,h⟩:=ob h;try simp only[C,E,F,G,H,J]
 refine Dd (es:=I X9.row (zC n1 (⟨([]:P UInt8),L⟩:X9))) X X hn1 X (Dl X) X ?_;try simp only[C,E,F,G,H,J]
 refine B6a h ?_;try simp only[C,E,F,G,H,J,pL,aM,Y]
/- 96:laws_toSegment -/
def bq:X0:=(A1 [bo 1 0,Al 2 [aI 0,aI 0,aI 0,aI 0,aB L]] (A1 [Al 3 [aI 0,aI 0,aI 0,aI 0,aB L]] (A1 [fa 4 1 0,ld 5 4,fa 6 3 0,so 6 5 1] (A1 [fa 7 1 1,ld 8 7,fa 9 3 1,so 9 8 1] (A1 [fa 10 1 2,ld 11 10,fa 12 3 2,so 12 11 1] (A1 [fa 13 1 3,ld 14 13,fa 15 3 3,so 15 14 1] (A1 [fa 16 1 4,ld 17 16,fa 18 3 4,so 18 17 1] (A2 [lw 19 3 5,so 2 19 5]))))))))
theorem B18{a0}{r}(h:Sg a0=N r):FC Z 96 [.ag (X3.row a0)] [.ag [.v (.int .i64 r.A),.v (.int .i64 r.B),.v (.int .i64 r.Depth),.v (.int .i64 r.Minutes),.v (.bool r.Meet)]]:=by
 unfold Sg at h;refine A9 mixed bq [.c 2 T 5] 20 ?_;simp only[bq,C,E,F,G,H,J];try simp only[C,E,F,G,H,J]
 refine A8 ?_;try simp only[C,E,F,G,H,J]
 refine Am ?_;try simp only[C,E,F,G,H,J]
 refine Am ?_;try simp only[C,E,F,G,H,J]
 cases h;try simp only[Bh,C,E,F,G,H,J]
 trivial
/- 63:laws_toSegmentS -/
def Qv:X0:=A1 [Ae [0,3,4] [] [448]] (A5 (A1 [mv 8 4,mv 9 0,ln 10 9,bn 11 .lss 8 10] (AL 11 .skip (.exit 0))) (A5 (.block 1 (.reg [mv 14 3,mv 15 4,mv 16 0,mv 17 4,ia 18 16 17 5,lw 19 18 5,ca 20 96 [S 19],ia 21 14 15 5,so 21 20 5])) (.reg [mv 12 4,Ac 13 .add 12 1,mv 4 13])))
def V3:X0:=(A2 [mv 22 3,mv 2 22])
def cG:X0:=(A1 [Ay 2] (A1 [mv 5 0,ln 6 5,(O,.mksl 7 5 40 [.int .i64 0,.int .i64 0,.int .i64 0,.int .i64 0,.bool L] (S 6) (S 6)),mv 3 7] (A5 (A1 [A6 4 0] (Ah 0 Qv)) V3)))
def nW:=fun a0 (k_:U→(P X3)→Q (P X3))=>∀{v2 v3} {zr},k_ v2 v3=N zr→Kp Z [0,3,4] [] [448] ⟨[pL 0 X3.row a0,pW 3 448,pI 4 v2],[],[(448,5,I X3.row v3)]⟩ (.code (.loop Qv):: [.blk 0,.code V3]) (Ag [2] [.sc (.o 5 (I X3.row zr))])
theorem B6j{a0}{n:W}:nW a0 (I6 a0 n):=by
 induction n with
 | zero=>intro _ _ r h; cases h
 | succ n ih=>
  intro v2 v3 r h σ hσ;rw[I6] at h;refine Ai ?_;obtain⟨h4,h⟩|⟨h4,h⟩:=ic h
  ·obtain⟨x5,h5,h⟩:=ob h;obtain⟨r6,h6,h⟩:=ob h;try simp only[hσ,h4,h5,Qv,C,E,F,G,H,J]
   refine A4 (B18 h6) ?_;obtain⟨x7,h7,h⟩:=ob h;have h7n:=AH h7;try simp only[h4,h5,h7,C,E,F,G,H,J]
   refine AZ (row:=X3.row) (y:=r6) X X h7n X X (by rfl) ?_;try simp only[h4,h5,h7,C,E,F,G,H,J]
   refine ih h ?_;try simp only[h4,h5,h7,C,E,F,G,H,J,pL,aM,Y]
  ·try simp only[hσ,h4,Qv,V3,C,E,F,G,H,J]
   cases h;exact t0
theorem B19{a0}{r}(h:Ni a0=N r):FC Z 63 [.sc (.sl (I X3.row a0))] [.sc (.o 5 (I X3.row r))]:=by
 unfold Ni at h;refine A9 mixed cG [2] 23 ?_;simp only[cG,C,E,F,G,H,J];obtain⟨n1,hn1,h⟩:=ob h;try simp only[C,E,F,G,H,J]
 refine Dd (es:=I X3.row (zC n1 (⟨(0:U),(0:U),(0:U),(0:U),L⟩:X3))) X X hn1 X (Dl X) X ?_;try simp only[C,E,F,G,H,J]
 refine B6j h ?_;try simp only[C,E,F,G,H,J,pL,aM,Y]
/- 29:laws_toChart -/
def cL:X0:=(A1 [bo 1 0,Al 2 [.nil,.nil]] (A1 [Al 3 [.nil,.nil]] (A1 [fa 4 1 0,ld 5 4,ca 6 62 [S 5],fa 7 3 0,so 7 6 1] (A1 [fa 8 1 1,ld 9 8,ca 10 63 [S 9],fa 11 3 1,so 11 10 1] (A2 [lw 12 3 2,so 2 12 2])))))
theorem B1w{a0}{r}(h:Na a0=N r):FC Z 29 [.ag (X6.row a0)] [.ag [.o 2 (I X9.row r.Points),.o 5 (I X3.row r.Segments)]]:=by
 unfold Na at h;refine A9 mixed cL [.c 2 T 2] 13 ?_;simp only[cL,C,E,F,G,H,J];try simp only[C,E,F,G,H,J]
 refine A8 ?_;try simp only[C,E,F,G,H,J]
 refine Am ?_;try simp only[C,E,F,G,H,J]
 refine Am ?_;obtain⟨r1,h1,h⟩:=ob h;try simp only[C,E,F,G,H,J]
 refine A4 (B16 h1) ?_;obtain⟨r2,h2,h⟩:=ob h;try simp only[C,E,F,G,H,J]
 refine A4 (B19 h2) ?_;try simp only[C,E,F,G,H,J]
 cases h;try simp only[Bh,C,E,F,G,H,J]
 trivial
/- 64:laws_toShip -/
def cP:X0:=(A1 [bo 1 0,Al 2 [aS [],aI 0,aI 0,aI 0,aI 0,aB L]] (A1 [Al 3 [aS [],aI 0,aI 0,aI 0,aI 0,aB L]] (A1 [fa 4 1 0,ld 5 4,fa 6 3 0,so 6 5 1] (A1 [fa 7 1 1,ld 8 7,fa 9 3 1,so 9 8 1] (A1 [fa 10 1 2,ld 11 10,fa 12 3 2,so 12 11 1] (A1 [fa 13 1 3,ld 14 13,fa 15 3 3,so 15 14 1] (A1 [fa 16 1 4,ld 17 16,fa 18 3 4,so 18 17 1] (A1 [fa 19 1 5,ld 20 19,fa 21 3 5,so 21 20 1] (A2 [lw 22 3 6,so 2 22 6])))))))))
theorem B2a{a0}{r}(h:Sh a0=N r):FC Z 64 [.ag (X5.row a0)] [.ag [.v (.str r.Name),.v (.int .i64 r.Length),.v (.int .i64 r.Draught),.v (.int .i64 r.Line),.v (.int .i64 r.Tugs),.v (.bool r.Slow)]]:=by
 unfold Sh at h;refine A9 mixed cP [.c 2 T 6] 23 ?_;simp only[cP,C,E,F,G,H,J];try simp only[C,E,F,G,H,J]
 refine A8 ?_;try simp only[C,E,F,G,H,J]
 refine Am ?_;try simp only[C,E,F,G,H,J]
 refine Am ?_;try simp only[C,E,F,G,H,J]
 cases h;try simp only[Bh,C,E,F,G,H,J]
 trivial
/- 30:laws_toShipS -/
def QK:X0:=A1 [Ae [0,3,4] [] [448]] (A5 (A1 [mv 8 4,mv 9 0,ln 10 9,bn 11 .lss 8 10] (AL 11 .skip (.exit 0))) (A5 (.block 1 (.reg [mv 14 3,mv 15 4,mv 16 0,mv 17 4,ia 18 16 17 6,lw 19 18 6,ca 20 64 [S 19],ia 21 14 15 6,so 21 20 6])) (.reg [mv 12 4,Ac 13 .add 12 1,mv 4 13])))
def Vj:X0:=(A2 [mv 22 3,mv 2 22])
def cY:X0:=(A1 [Ay 2] (A1 [mv 5 0,ln 6 5,(O,.mksl 7 6 56 [.str [],.int .i64 0,.int .i64 0,.int .i64 0,.int .i64 0,.bool L] (S 6) (S 6)),mv 3 7] (A5 (A1 [A6 4 0] (Ah 0 QK)) Vj)))
def nX:=fun a0 (k_:U→(P X5)→Q (P X5))=>∀{v2 v3} {zr},k_ v2 v3=N zr→Kp Z [0,3,4] [] [448] ⟨[pL 0 X5.row a0,pW 3 448,pI 4 v2],[],[(448,6,I X5.row v3)]⟩ (.code (.loop QK):: [.blk 0,.code Vj]) (Ag [2] [.sc (.o 6 (I X5.row zr))])
theorem B6v{a0}{n:W}:nX a0 (I7 a0 n):=by
 induction n with
 | zero=>intro _ _ r h; cases h
 | succ n ih=>
  intro v2 v3 r h σ hσ;rw[I7] at h;refine Ai ?_;obtain⟨h4,h⟩|⟨h4,h⟩:=ic h
  ·obtain⟨x5,h5,h⟩:=ob h;obtain⟨r6,h6,h⟩:=ob h;try simp only[hσ,h4,h5,QK,C,E,F,G,H,J]
   refine A4 (B2a h6) ?_;obtain⟨x7,h7,h⟩:=ob h;have h7n:=AH h7;try simp only[h4,h5,h7,C,E,F,G,H,J]
   refine AZ (row:=X5.row) (y:=r6) X X h7n X X (by rfl) ?_;try simp only[h4,h5,h7,C,E,F,G,H,J]
   refine ih h ?_;try simp only[h4,h5,h7,C,E,F,G,H,J,pL,aM,Y]
  ·try simp only[hσ,h4,QK,Vj,C,E,F,G,H,J]
   cases h;exact t0
theorem B2b{a0}{r}(h:Nj a0=N r):FC Z 30 [.sc (.sl (I X5.row a0))] [.sc (.o 6 (I X5.row r))]:=by
 unfold Nj at h;refine A9 mixed cY [2] 23 ?_;simp only[cY,C,E,F,G,H,J];obtain⟨n1,hn1,h⟩:=ob h;try simp only[C,E,F,G,H,J]
 refine Dd (es:=I X5.row (zC n1 (⟨([]:P UInt8),(0:U),(0:U),(0:U),(0:U),L⟩:X5))) X X hn1 X (Dl X) X ?_;try simp only[C,E,F,G,H,J]
 refine B6v h ?_;try simp only[C,E,F,G,H,J,pL,aM,Y]
/- 31:laws_toRegime -/
def cj:X0:=(A1 [bo 1 0,Al 2 [aI 0,aB L]] (A1 [Al 3 [aI 0,aB L]] (A1 [fa 4 1 0,ld 5 4,fa 6 3 0,so 6 5 1] (A1 [fa 7 1 1,ld 8 7,fa 9 3 1,so 9 8 1] (A2 [lw 10 3 2,so 2 10 2])))))
theorem B17{a0}{r}(h:Sf a0=N r):FC Z 31 [.ag (Xg.row a0)] [.ag [.v (.int .i64 r.Gap),.v (.bool r.NoMeet)]]:=by
 unfold Sf at h;refine A9 mixed cj [.c 2 T 2] 11 ?_;simp only[cj,C,E,F,G,H,J];try simp only[C,E,F,G,H,J]
 refine A8 ?_;try simp only[C,E,F,G,H,J]
 refine Am ?_;try simp only[C,E,F,G,H,J]
 refine Am ?_;try simp only[C,E,F,G,H,J]
 cases h;try simp only[Bh,C,E,F,G,H,J]
 trivial
/- 65:laws_toIntS -/
def QT:X0:=A1 [Ae [0,3,4] [] [448]] (A5 (A1 [mv 8 4,mv 9 0,ln 10 9,bn 11 .lss 8 10] (AL 11 .skip (.exit 0))) (A5 (.block 1 (.reg [mv 14 3,mv 15 4,mv 16 0,mv 17 4,ia 18 16 17 1,ld 19 18,ia 20 14 15 1,so 20 19 1])) (.reg [mv 12 4,Ac 13 .add 12 1,mv 4 13])))
def Vo:X0:=(A2 [mv 21 3,mv 2 21])
def cr:X0:=(A1 [Ay 2] (A1 [mv 5 0,ln 6 5,(O,.mksl 7 1 8 [.int .i64 0] (S 6) (S 6)),mv 3 7] (A5 (A1 [A6 4 0] (Ah 0 QT)) Vo)))
def nR:=fun a0 (k_:U→(P U)→Q (P U))=>∀{v2 v3} {zr},k_ v2 v3=N zr→Kp Z [0,3,4] [] [448] ⟨[pL 0 rI a0,pW 3 448,pI 4 v2],[],[(448,1,I rI v3)]⟩ (.code (.loop QT):: [.blk 0,.code Vo]) (Ag [2] [.sc (.o 1 (I rI zr))])
theorem B62{a0}{n:W}:nR a0 (I1 a0 n):=by
 induction n with
 | zero=>intro _ _ r h; cases h
 | succ n ih=>
  intro v2 v3 r h σ hσ;rw[I1] at h;refine Ai ?_;obtain⟨h4,h⟩|⟨h4,h⟩:=ic h
  ·obtain⟨x5,h5,h⟩:=ob h;obtain⟨x6,h6,h⟩:=ob h;have h6n:=AH h6;try simp only[hσ,h4,h5,h6,QT,C,E,F,G,H,J]
   refine AZ (row:=rI) (y:=x5) X X h6n X X (by rfl) ?_;try simp only[h4,h5,h6,C,E,F,G,H,J]
   refine ih h ?_;try simp only[h4,h5,h6,C,E,F,G,H,J,pL,aM,Y]
  ·try simp only[hσ,h4,QT,Vo,C,E,F,G,H,J]
   cases h;exact t0
theorem B1z{a0}{r}(h:Nc a0=N r):FC Z 65 [.sc (.sl (I rI a0))] [.sc (.o 1 (I rI r))]:=by
 unfold Nc at h;refine A9 mixed cr [2] 22 ?_;simp only[cr,C,E,F,G,H,J];obtain⟨n1,hn1,h⟩:=ob h;try simp only[C,E,F,G,H,J]
 refine Dd (es:=I rI (zC n1 (0:U))) X X hn1 X (Dl X) X ?_;try simp only[C,E,F,G,H,J]
 refine B62 h ?_;try simp only[C,E,F,G,H,J,pL,aM,Y]
/- 32:laws_toCrew -/
def cu:X0:=(A1 [bo 1 0,Al 2 [aI 0,aI 0,aI 0,.nil]] (A1 [Al 3 [aI 0,aI 0,aI 0,.nil]] (A1 [fa 4 1 0,ld 5 4,fa 6 3 0,so 6 5 1] (A1 [fa 7 1 1,ld 8 7,fa 9 3 1,so 9 8 1] (A1 [fa 10 1 2,ld 11 10,fa 12 3 2,so 12 11 1] (A1 [fa 13 1 3,ld 14 13,ca 15 65 [S 14],fa 16 3 3,so 16 15 1] (A2 [lw 17 3 4,so 2 17 4])))))))
theorem B1x{a0}{r}(h:Sb a0=N r):FC Z 32 [.ag (Xj.row a0)] [.ag [.v (.int .i64 r.Tugs),.v (.int .i64 r.Pilots),.v (.int .i64 r.Rest),.o 1 (I rI r.Moves)]]:=by
 unfold Sb at h;refine A9 mixed cu [.c 2 T 4] 18 ?_;simp only[cu,C,E,F,G,H,J];try simp only[C,E,F,G,H,J]
 refine A8 ?_;try simp only[C,E,F,G,H,J]
 refine Am ?_;try simp only[C,E,F,G,H,J]
 refine Am ?_;obtain⟨r1,h1,h⟩:=ob h;try simp only[C,E,F,G,H,J]
 refine A4 (B1z h1) ?_;try simp only[C,E,F,G,H,J]
 cases h;try simp only[Bh,C,E,F,G,H,J]
 trivial
/- 8:laws_toHarbour -/
def dA:X0:=(A1 [bo 1 0,Al 2 [aI 0,.nil,.nil,.nil,.nil,.nil,aI 0,aB L,aI 0,aI 0,aI 0,.nil]] (A1 [Al 3 [aI 0,.nil,.nil,.nil,.nil,.nil,aI 0,aB L,aI 0,aI 0,aI 0,.nil]] (A1 [fa 4 1 0,lw 5 4 3,ca 6 28 [S 5],fa 7 3 0,so 7 6 3] (A1 [fa 8 1 3,lw 9 8 2,ca 10 29 [S 9],fa 11 3 3,so 11 10 2] (A1 [fa 12 1 5,ld 13 12,ca 14 30 [S 13],fa 15 3 5,so 15 14 1] (A1 [fa 16 1 6,lw 17 16 2,ca 18 31 [S 17],fa 19 3 6,so 19 18 2] (A1 [fa 20 1 8,lw 21 20 4,ca 22 32 [S 21],fa 23 3 8,so 23 22 4] (A2 [lw 24 3 12,so 2 24 12]))))))))
theorem Ts{a0}{r}(h:G3 a0=N r):FC Z 8 [.ag (X7.row a0)] [.ag [.v (.int .i64 r.Forecast.Tide.Mean),.o 3 (I zA r.Forecast.Tide.Parts),.o 3 (I zB r.Forecast.Surges),.o 2 (I X9.row r.Chart.Points),.o 5 (I X3.row r.Chart.Segments),.o 6 (I X5.row r.Fleet),.v (.int .i64 r.Regime.Gap),.v (.bool r.Regime.NoMeet),.v (.int .i64 r.Crew.Tugs),.v (.int .i64 r.Crew.Pilots),.v (.int .i64 r.Crew.Rest),.o 1 (I rI r.Crew.Moves)]]:=by
 unfold G3 at h;refine A9 mixed dA [.c 2 T 12] 25 ?_;simp only[dA,C,E,F,G,H,J];try simp only[C,E,F,G,H,J]
 refine A8 ?_;try simp only[C,E,F,G,H,J]
 refine Am ?_;try simp only[C,E,F,G,H,J]
 refine Am ?_;obtain⟨r1,h1,h⟩:=ob h;try simp only[C,E,F,G,H,J]
 refine A4 (B1y h1) ?_;obtain⟨r2,h2,h⟩:=ob h;try simp only[C,E,F,G,H,J]
 refine A4 (B1w h2) ?_;obtain⟨r3,h3,h⟩:=ob h;try simp only[C,E,F,G,H,J]
 refine A4 (B2b h3) ?_;obtain⟨r4,h4,h⟩:=ob h;try simp only[C,E,F,G,H,J]
 refine A4 (B17 h4) ?_;obtain⟨r5,h5,h⟩:=ob h;try simp only[C,E,F,G,H,J]
 refine A4 (B1x h5) ?_;try simp only[C,E,F,G,H,J]
 cases h;try simp only[Bh,C,E,F,G,H,J]
 trivial
/- 33:laws_toCall -/
def dC:X0:=(A1 [bo 1 0,Al 2 [aI 0,aI 0,aI 0,aI 0,aI 0]] (A1 [Al 3 [aI 0,aI 0,aI 0,aI 0,aI 0]] (A1 [fa 4 1 0,ld 5 4,fa 6 3 0,so 6 5 1] (A1 [fa 7 1 1,ld 8 7,fa 9 3 1,so 9 8 1] (A1 [fa 10 1 2,ld 11 10,fa 12 3 2,so 12 11 1] (A1 [fa 13 1 3,ld 14 13,fa 15 3 3,so 15 14 1] (A1 [fa 16 1 4,ld 17 16,fa 18 3 4,so 18 17 1] (A2 [lw 19 3 5,so 2 19 5]))))))))
theorem B1v{a0}{r}(h:Sa a0=N r):FC Z 33 [.ag (zD a0)] [.ag [.v (.int .i64 r.Ship),.v (.int .i64 r.From),.v (.int .i64 r.To),.v (.int .i64 r.Ready),.v (.int .i64 r.Due)]]:=by
 unfold Sa at h;refine A9 mixed dC [.c 2 T 5] 20 ?_;simp only[dC,C,E,F,G,H,J];try simp only[C,E,F,G,H,J]
 refine A8 ?_;try simp only[C,E,F,G,H,J]
 refine Am ?_;try simp only[C,E,F,G,H,J]
 refine Am ?_;try simp only[C,E,F,G,H,J]
 cases h;try simp only[Bh,C,E,F,G,H,J]
 trivial
/- 9:laws_toCallS -/
def Rb:X0:=A1 [Ae [0,3,4] [] [448]] (A5 (A1 [mv 8 4,mv 9 0,ln 10 9,bn 11 .lss 8 10] (AL 11 .skip (.exit 0))) (A5 (.block 1 (.reg [mv 14 3,mv 15 4,mv 16 0,mv 17 4,ia 18 16 17 5,lw 19 18 5,ca 20 33 [S 19],ia 21 14 15 5,so 21 20 5])) (.reg [mv 12 4,Ac 13 .add 12 1,mv 4 13])))
def VB:X0:=(A2 [mv 22 3,mv 2 22])
def dQ:X0:=(A1 [Ay 2] (A1 [mv 5 0,ln 6 5,(O,.mksl 7 5 40 [.int .i64 0,.int .i64 0,.int .i64 0,.int .i64 0,.int .i64 0] (S 6) (S 6)),mv 3 7] (A5 (A1 [A6 4 0] (Ah 0 Rb)) VB)))
def nQ:=fun a0 (k_:U→(P Xa)→Q (P Xa))=>∀{v2 v3} {zr},k_ v2 v3=N zr→Kp Z [0,3,4] [] [448] ⟨[pL 0 zD a0,pW 3 448,pI 4 v2],[],[(448,5,I zD v3)]⟩ (.code (.loop Rb):: [.blk 0,.code VB]) (Ag [2] [.sc (.o 5 (I zD zr))])
theorem B7j{a0}{n:W}:nQ a0 (I0 a0 n):=by
 induction n with
 | zero=>intro _ _ r h; cases h
 | succ n ih=>
  intro v2 v3 r h σ hσ;rw[I0] at h;refine Ai ?_;obtain⟨h4,h⟩|⟨h4,h⟩:=ic h
  ·obtain⟨x5,h5,h⟩:=ob h;obtain⟨r6,h6,h⟩:=ob h;try simp only[hσ,h4,h5,Rb,C,E,F,G,H,J]
   refine A4 (B1v h6) ?_;obtain⟨x7,h7,h⟩:=ob h;have h7n:=AH h7;try simp only[h4,h5,h7,C,E,F,G,H,J]
   refine AZ (row:=zD) (y:=r6) X X h7n X X (by rfl) ?_;try simp only[h4,h5,h7,C,E,F,G,H,J]
   refine ih h ?_;try simp only[h4,h5,h7,C,E,F,G,H,J,pL,aM,Y]
  ·try simp only[hσ,h4,Rb,VB,C,E,F,G,H,J]
   cases h;exact t0
theorem Tr{a0}{r}(h:G2 a0=N r):FC Z 9 [.sc (.sl (I zD a0))] [.sc (.o 5 (I zD r))]:=by
 unfold G2 at h;refine A9 mixed dQ [2] 23 ?_;simp only[dQ,C,E,F,G,H,J];obtain⟨n1,hn1,h⟩:=ob h;try simp only[C,E,F,G,H,J]
 refine Dd (es:=I zD (zC n1 (⟨(0:U),(0:U),(0:U),(0:U),(0:U)⟩:Xa))) X X hn1 X (Dl X) X ?_;try simp only[C,E,F,G,H,J]
 refine B7j h ?_;try simp only[C,E,F,G,H,J,pL,aM,Y]
/- 97:laws_toPassage -/
def db:X0:=(A1 [bo 1 0,Al 2 [aI 0,aI 0,aB L,aI 0,aI 0]] (A1 [Al 3 [aI 0,aI 0,aB L,aI 0,aI 0]] (A1 [fa 4 1 0,ld 5 4,fa 6 3 0,so 6 5 1] (A1 [fa 7 1 1,ld 8 7,fa 9 3 1,so 9 8 1] (A1 [fa 10 1 2,ld 11 10,fa 12 3 2,so 12 11 1] (A1 [fa 13 1 3,ld 14 13,fa 15 3 3,so 15 14 1] (A1 [fa 16 1 4,ld 17 16,fa 18 3 4,so 18 17 1] (A2 [lw 19 3 5,so 2 19 5]))))))))
theorem B13{a0}{r}(h:Sd a0=N r):FC Z 97 [.ag (X1.row a0)] [.ag [.v (.int .i64 r.Ship),.v (.int .i64 r.Segment),.v (.bool r.Toward),.v (.int .i64 r.Start),.v (.int .i64 r.End)]]:=by
 unfold Sd at h;refine A9 mixed db [.c 2 T 5] 20 ?_;simp only[db,C,E,F,G,H,J];try simp only[C,E,F,G,H,J]
 refine A8 ?_;try simp only[C,E,F,G,H,J]
 refine Am ?_;try simp only[C,E,F,G,H,J]
 refine Am ?_;try simp only[C,E,F,G,H,J]
 cases h;try simp only[Bh,C,E,F,G,H,J]
 trivial
/- 66:laws_toPassageS -/
def Rl:X0:=A1 [Ae [0,3,4] [] [448]] (A5 (A1 [mv 8 4,mv 9 0,ln 10 9,bn 11 .lss 8 10] (AL 11 .skip (.exit 0))) (A5 (.block 1 (.reg [mv 14 3,mv 15 4,mv 16 0,mv 17 4,ia 18 16 17 5,lw 19 18 5,ca 20 97 [S 19],ia 21 14 15 5,so 21 20 5])) (.reg [mv 12 4,Ac 13 .add 12 1,mv 4 13])))
def VL:X0:=(A2 [mv 22 3,mv 2 22])
def dk:X0:=(A1 [Ay 2] (A1 [mv 5 0,ln 6 5,(O,.mksl 7 5 40 [.int .i64 0,.int .i64 0,.bool L,.int .i64 0,.int .i64 0] (S 6) (S 6)),mv 3 7] (A5 (A1 [A6 4 0] (Ah 0 Rl)) VL)))
def nU:=fun a0 (k_:U→(P X1)→Q (P X1))=>∀{v2 v3} {zr},k_ v2 v3=N zr→Kp Z [0,3,4] [] [448] ⟨[pL 0 X1.row a0,pW 3 448,pI 4 v2],[],[(448,5,I X1.row v3)]⟩ (.code (.loop Rl):: [.blk 0,.code VL]) (Ag [2] [.sc (.o 5 (I X1.row zr))])
theorem B7t{a0}{n:W}:nU a0 (I4 a0 n):=by
 induction n with
 | zero=>intro _ _ r h; cases h
 | succ n ih=>
  intro v2 v3 r h σ hσ;rw[I4] at h;refine Ai ?_;obtain⟨h4,h⟩|⟨h4,h⟩:=ic h
  ·obtain⟨x5,h5,h⟩:=ob h;obtain⟨r6,h6,h⟩:=ob h;try simp only[hσ,h4,h5,Rl,C,E,F,G,H,J]
   refine A4 (B13 h6) ?_;obtain⟨x7,h7,h⟩:=ob h;have h7n:=AH h7;try simp only[h4,h5,h7,C,E,F,G,H,J]
   refine AZ (row:=X1.row) (y:=r6) X X h7n X X (by rfl) ?_;try simp only[h4,h5,h7,C,E,F,G,H,J]
   refine ih h ?_;try simp only[h4,h5,h7,C,E,F,G,H,J,pL,aM,Y]
  ·try simp only[hσ,h4,Rl,VL,C,E,F,G,H,J]
   cases h;exact t0
theorem B14{a0}{r}(h:Ng a0=N r):FC Z 66 [.sc (.sl (I X1.row a0))] [.sc (.o 5 (I X1.row r))]:=by
 unfold Ng at h;refine A9 mixed dk [2] 23 ?_;simp only[dk,C,E,F,G,H,J];obtain⟨n1,hn1,h⟩:=ob h;try simp only[C,E,F,G,H,J]
 refine Dd (es:=I X1.row (zC n1 (⟨(0:U),(0:U),L,(0:U),(0:U)⟩:X1))) X X hn1 X (Dl X) X ?_;try simp only[C,E,F,G,H,J]
 refine B7t h ?_;try simp only[C,E,F,G,H,J,pL,aM,Y]
/- 34:laws_toOption -/
def dp:X0:=(A1 [bo 1 0,Al 2 [aI 0,aI 0,aI 0,.nil]] (A1 [Al 3 [aI 0,aI 0,aI 0,.nil]] (A1 [fa 4 1 0,ld 5 4,fa 6 3 0,so 6 5 1] (A1 [fa 7 1 1,ld 8 7,fa 9 3 1,so 9 8 1] (A1 [fa 10 1 2,ld 11 10,fa 12 3 2,so 12 11 1] (A1 [fa 13 1 3,ld 14 13,ca 15 66 [S 14],fa 16 3 3,so 16 15 1] (A2 [lw 17 3 4,so 2 17 4])))))))
theorem B10{a0}{r}(h:Nd a0=N r):FC Z 34 [.ag (X2.row a0)] [.ag [.v (.int .i64 r.Start),.v (.int .i64 r.Arrival),.v (.int .i64 r.Cost),.o 5 (I X1.row r.Passages)]]:=by
 unfold Nd at h;refine A9 mixed dp [.c 2 T 4] 18 ?_;simp only[dp,C,E,F,G,H,J];try simp only[C,E,F,G,H,J]
 refine A8 ?_;try simp only[C,E,F,G,H,J]
 refine Am ?_;try simp only[C,E,F,G,H,J]
 refine Am ?_;obtain⟨r1,h1,h⟩:=ob h;try simp only[C,E,F,G,H,J]
 refine A4 (B14 h1) ?_;try simp only[C,E,F,G,H,J]
 cases h;try simp only[Bh,C,E,F,G,H,J]
 trivial
/- 10:laws_toOptionS -/
def Rw:X0:=A1 [Ae [0,3,4] [] [448]] (A5 (A1 [mv 8 4,mv 9 0,ln 10 9,bn 11 .lss 8 10] (AL 11 .skip (.exit 0))) (A5 (.block 1 (.reg [mv 14 3,mv 15 4,mv 16 0,mv 17 4,ia 18 16 17 4,lw 19 18 4,ca 20 34 [S 19],ia 21 14 15 4,(O,.frz 1283),so 21 20 4])) (.reg [mv 12 4,Ac 13 .add 12 1,mv 4 13])))
def VU:X0:=(A2 [mv 22 3,mv 2 22])
def cc74:X0:=(A1 [Ay 2] (A1 [mv 5 0,ln 6 5,(O,.mksl 7 4 48 [.int .i64 0,.int .i64 0,.int .i64 0,.sl []] (S 6) (S 6)),mv 3 7] (A5 (A1 [A6 4 0] (Ah 0 Rw)) VU)))
def nS:=fun a0 (k_:U→(P X2)→Q (P X2))=>∀{v2 v3} {zr},k_ v2 v3=N zr→Kp Z [0,3,4] [] [448] ⟨[(0,vc (.old (.sl (I X2.row a0)))),pW 3 448,pI 4 v2],[],[(448,4,I X2.row v3)]⟩ (.code (.loop Rw):: [.blk 0,.code VU]) (Ag [2] [.sc (.o 4 (I X2.row zr))])
theorem B72{a0}{n:W}:nS a0 (I2 a0 n):=by
 induction n with
 | zero=>intro _ _ r h; cases h
 | succ n ih=>
  intro v2 v3 r h σ hσ;rw[I2] at h;refine Ai ?_;obtain⟨h4,h⟩|⟨h4,h⟩:=ic h
  ·obtain⟨x5,h5,h⟩:=ob h;obtain⟨r6,h6,h⟩:=ob h;try simp only[hσ,h4,h5,Rw,C,E,F,G,H,J]
   refine B7 (B10 h6) X (BO X ⟨X,X,X,B3,⟨⟩⟩) X (uf X) ?_;obtain⟨x7,h7,h⟩:=ob h;have h7n:=AH h7;try simp only[h4,h5,h7,C,E,F,G,H,J]
   refine D0 ?_;try simp only[h4,h5,h7,C,E,F,G,H,J]
   refine AZ (row:=X2.row) (y:=r6) X X h7n X X (by rfl) ?_;try simp only[h4,h5,h7,C,E,F,G,H,J]
   refine ih h ?_;try simp only[h4,h5,h7,C,E,F,G,H,J,pL,aM,Y]
  ·try simp only[hσ,h4,Rw,VU,C,E,F,G,H,J]
   cases h;exact t0
theorem tk:Bd Z 10=N (cc74.strip,[2],23):=by kernel_rfl
theorem Tt(a0:P X2)(r:(P X2))(h:G4 a0=N r):FCf Z 10 [.sc (.sl (I X2.row a0))] [.sc (.o 4 (I X2.row r))]:=by
 unfold G4 at h;refine Yl (σ:=⟨[(0,vc (.old (.sl (I X2.row a0))))],[],[]⟩) mixed tk X X ?_;simp only[cc74];obtain⟨n1,hn1,h⟩:=ob h;try simp only[C,E,F,G,H,J]
 refine Dd (es:=I X2.row (zC n1 (⟨(0:U),(0:U),(0:U),([]:P X1)⟩:X2))) X X hn1 X (Dl X) X ?_;try simp only[C,E,F,G,H,J]
 refine B72 h ?_;try simp only[C,E,F,G,H,J,pL,aM,Y]
/- 118:spec_l01In -/
def dr:X0:=(A1 [A3 6 L] (A2 [mv 7 0,mv 8 1,bn 9 .geq 7 8,mv 10 9,Af 10 T 11 0,Af 10 T 12 2,AK 10 T 13 .leq 11 12,pa 14 10 13,mv 6 14]))
theorem AU{a0}{a1}{a2}{r}(h:AM a0 a1 a2=N r):FC Z 118 [.sc (.int .i64 a0),.sc (.int .i64 a1),.sc (.int .i64 a2)] [.sc (.v (.bool r))]:=by
 unfold AM at h;refine A9 mixed dr [6] 15 ?_;simp only[dr,C,E,F,G,H,J];obtain⟨h1,h⟩|⟨h1,h⟩:=ic h
 ·try simp only[h1,C,E,F,G,H,J]
  cases h;exact t0
 ·try simp only[h1,C,E,F,G,H,J]
  cases h;exact t0
/- 188:spec_PartOk -/
def dt:X0:=(A1 [bo 1 0,A3 2 L] (A2 [fa 3 1 0,ld 4 3,ca 5 118 [S 4,K 0,K 1000],mv 6 5,Ab 6 T 7 1 1,Ad 6 T 8 7,Ak 6 T 9 118 [S 8,K 4,K 2880],pa 10 6 9,mv 11 10,Ab 11 T 12 1 1,Ad 11 T 13 12,AP 11 T 14 .rem 13 4,AP 11 T 15 .eql 14 0,pa 16 11 15,mv 17 16,Ab 17 T 18 1 2,Ad 17 T 19 18,Ab 17 T 20 1 1,Ad 17 T 21 20,AP 17 T 22 .sub 21 1,Ak 17 T 23 118 [S 19,K 0,S 22],pa 24 17 23,mv 2 24]))
theorem B20{a0}{r}(h:NC a0=N r):FC Z 188 [.ag (zA a0)] [.sc (.v (.bool r))]:=by
 unfold NC at h;refine A9 mixed dt [2] 25 ?_;simp only[dt,C,E,F,G,H,J];try simp only[C,E,F,G,H,J]
 refine A8 ?_;obtain⟨r1,h1,h⟩:=ob h;try simp only[C,E,F,G,H,J]
 refine A4 (AU h1) ?_;obtain⟨h2,h⟩|⟨h2,h⟩:=ic h
 ·obtain⟨r3,h3,h⟩:=ob h;try simp only[h2,C,E,F,G,H,J]
  refine A4 (AU h3) ?_;obtain⟨h4,h⟩|⟨h4,h⟩:=ic h
  ·obtain⟨h5,h⟩|⟨h5,h⟩:=ic h
   ·obtain⟨r6,h6,h⟩:=ob h;try simp only[h2,h4,h5,C,E,F,G,H,J]
    refine A4 (AU h6) ?_;try simp only[h2,h4,h5,C,E,F,G,H,J]
    cases h;exact t0
   ·try simp only[h2,h4,h5,C,E,F,G,H,J]
    cases h;exact t0
  ·try simp only[h2,h4,C,E,F,G,H,J]
   cases h;exact t0
 ·try simp only[h2,C,E,F,G,H,J]
  cases h;exact t0
/- 147:spec_TideOk -/
def RB:X0:=A1 [Ae [16,17,18] [] []] (A1 [bn 19 .lss 18 17] (Av 19 0 1 (A1 [ia 20 16 18 3,lw 21 20 3,Al 4 [aI 0,aI 0,aI 0],so 4 21 3] (A1 [lw 22 4 3,ca 23 188 [S 22],nt 24 23] (Aq 24 (A2 [A3 2 L])))) (Au 25 18)))
def VZ:X0:=(A2 [A3 2 T])
def du:X0:=(A1 [bo 1 0,A3 2 L] (Aa [fa 5 1 0,ld 6 5,ca 7 118 [S 6,K (-1000),K 1000],nt 8 7,mv 9 8,Ab 9 L 10 1 1,Ad 9 L 11 10,B1 9 L 12 11,AP 9 L 13 .gtr 12 4,po 14 9 13] 14 (A2 [A3 2 L]) (A5 (A1 [fa 15 1 1,ld 16 15,ln 17 16,A6 18 0] (Ah 0 RB)) VZ)))
def oQ:=fun(a0:Xi) (k_:U→Q V)=>∀{v4} {zr},k_ v4=N zr→Kp Z [16,17,18] [] [] ⟨[pL 16 zA a0.Parts,pI 17 (a0.Parts.length:U),pI 18 v4],[],[]⟩ (.code (.loop RB):: [.blk 0,.code VZ]) (Ag [2] [.sc (.v (.bool zr))])
theorem B74{a0}{n:W}:oQ a0 (IA a0 n):=by
 induction n with
 | zero=>intro _ r h; cases h
 | succ n ih=>
  intro v4 r h σ hσ;rw[IA] at h;refine Ai ?_;obtain⟨h5,h⟩|⟨h5,h⟩:=ic h
  ·obtain⟨x6,h6,h⟩:=ob h;try simp only[hσ,h5,h6,RB,C,E,F,G,H,J]
   refine Am ?_;obtain⟨r7,h7,h⟩:=ob h;try simp only[h5,h6,C,E,F,G,H,J]
   refine A4 (B20 h7) ?_;obtain⟨h8,h⟩|⟨h8,h⟩:=ic h
   ·try simp only[h5,h6,h8,C,E,F,G,H,J]
    refine ih h ?_;try simp only[h5,h6,h8,C,E,F,G,H,J,pL,aM,Y]
   ·try simp only[h5,h6,h8,C,E,F,G,H,J]
    cases h;exact t0
  ·try simp only[hσ,h5,RB,VZ,C,E,F,G,H,J]
   cases h;exact t0
theorem B3e{a0}{r}(h:NO a0=N r):FC Z 147 [.ag (Xi.row a0)] [.sc (.v (.bool r))]:=by
 unfold NO at h;refine A9 mixed du [2] 26 ?_;simp only[du,C,E,F,G,H,J];try simp only[C,E,F,G,H,J]
 refine A8 ?_;obtain⟨r1,h1,h⟩:=ob h;try simp only[C,E,F,G,H,J]
 refine A4 (AU h1) ?_;obtain⟨h2,h⟩|⟨h2,h⟩:=ic h
 ·obtain⟨h3,h⟩|⟨h3,h⟩:=ic h
  ·try simp only[h2,h3,C,E,F,G,H,J]
   cases h;exact t0
  ·try simp only[h2,h3,C,E,F,G,H,J]
   refine B74 h ?_;try simp only[h2,h3,C,E,F,G,H,J,pL,aM,Y]
 ·try simp only[h2,C,E,F,G,H,J]
  cases h;exact t0
/- 148:spec_SurgeOk -/
def dv:X0:=(A1 [bo 1 0,A3 2 L] (A2 [fa 3 1 0,ld 4 3,ca 5 118 [S 4,K 0,K 2880],mv 6 5,Ab 6 T 7 1 1,Ad 6 T 8 7,Ak 6 T 9 118 [S 8,K (-500),K 500],pa 10 6 9,mv 11 10,Ab 11 T 12 1 2,Ad 11 T 13 12,Ab 11 T 14 1 1,Ad 11 T 15 14,Ak 11 T 16 118 [S 13,S 15,K 500],pa 17 11 16,mv 2 17]))
theorem B3d{a0}{r}(h:NN a0=N r):FC Z 148 [.ag (zB a0)] [.sc (.v (.bool r))]:=by
 unfold NN at h;refine A9 mixed dv [2] 18 ?_;simp only[dv,C,E,F,G,H,J];try simp only[C,E,F,G,H,J]
 refine A8 ?_;obtain⟨r1,h1,h⟩:=ob h;try simp only[C,E,F,G,H,J]
 refine A4 (AU h1) ?_;obtain⟨h2,h⟩|⟨h2,h⟩:=ic h
 ·obtain⟨r3,h3,h⟩:=ob h;try simp only[h2,C,E,F,G,H,J]
  refine A4 (AU h3) ?_;obtain⟨h4,h⟩|⟨h4,h⟩:=ic h
  ·obtain⟨r5,h5,h⟩:=ob h;try simp only[h2,h4,C,E,F,G,H,J]
   refine A4 (AU h5) ?_;try simp only[h2,h4,C,E,F,G,H,J]
   cases h;exact t0
  ·try simp only[h2,h4,C,E,F,G,H,J]
   cases h;exact t0
 ·try simp only[h2,C,E,F,G,H,J]
  cases h;exact t0
/- 113:spec_ForecastOk -/
def RD:X0:=A1 [Ae [1,25,26,27] [1] []] (A1 [bn 28 .lss 27 26] (Av 28 0 1 (A1 [mv 29 27,ia 30 25 27 3,lw 31 30 3,Al 4 [aI 0,aI 0,aI 0],mv 3 29,so 4 31 3] (A5 (.drw [o0 (lw 32 4 3),o0 (ca 33 148 [S 32]),o0 (nt 34 33),o0 (mv 35 34),o0 (Af 35 L 36 3),o0 (AP 35 L 37 .gtr 36 0),o0 (Af 35 L 38 37),o0 (Ab 38 T 39 4 0),o0 (Ad 38 T 40 39),o0 (Ab 38 T 41 1 2),o0 (Ad 38 T 42 41),o0 (Af 38 T 43 3),o0 (AP 38 T 44 .sub 43 1),o0 (CC 38 T 45 42 44 3),o0 (Ab 38 T 46 45 0),o0 (Ad 38 T 47 46),o0 (AK 38 T 48 .leq 40 47),o0 (N (35,L),.pick 49 (S 38) (S 48) (KB L)),o0 (po 50 35 49)]) (Aq 50 (A2 [A3 2 L])))) (Au 51 27)))
def W0:X0:=(A2 [A3 2 T])
def dw:X0:=(A1 [bo 1 0,A3 2 L] (Aa [fa 5 1 0,lw 6 5 2,ca 7 147 [S 6],nt 8 7,mv 9 8,Ab 9 L 10 1 2,Ad 9 L 11 10,B1 9 L 12 11,Ak 9 L 13 118 [S 12,K 1,K 6],AN 9 L 14 13,po 15 9 14,mv 16 15,Ab 16 L 17 1 2,Ad 16 L 18 17,(N (16,L),.iaddr 19 (S 18) (K 0) 3),Ab 16 L 20 19 0,Ad 16 L 21 20,AP 16 L 22 .neq 21 0,po 23 16 22] 23 (A2 [A3 2 L]) (A5 (A1 [fa 24 1 2,ld 25 24,ln 26 25,A6 27 0] (Ah 0 RD)) W0)))
def nq:=fun(a0:Xc) (k_:U→Q V)=>∀{v7} {zr},k_ v7=N zr→Kp Z [1,25,26,27] [1] [] ⟨[pB 1,pL 25 zB a0.Surges,pI 26 (a0.Surges.length:U),pI 27 v7],[(1,[aI a0.Tide.Mean,aM zA a0.Tide.Parts,aM zB a0.Surges])],[]⟩ (.code (.loop RD):: [.blk 0,.code W0]) (Ag [2] [.sc (.v (.bool zr))])
theorem B75{a0}{n:W}:nq a0 (G5 a0 n):=by
 induction n with
 | zero=>intro _ r h; cases h
 | succ n ih=>
  intro v7 r h σ hσ;rw[G5] at h;refine Ai ?_;obtain⟨h8,h⟩|⟨h8,h⟩:=ic h
  ·obtain⟨x9,h9,h⟩:=ob h;try simp only[hσ,h8,h9,RD,C,E,F,G,H,J]
   refine Am ?_;try simp only[h8,h9,C,E,F,G,H,J]
   refine An ?_;obtain⟨r10,h10,h⟩:=ob h;try simp only[h8,h9,C,E,F,G,H,J]
   refine AF (B3d h10) ?_;obtain⟨h11,h⟩|⟨h11,h⟩:=ic h
   ·obtain⟨h12,h⟩|⟨h12,h⟩:=ic h
    ·obtain⟨x13,h13,h⟩:=ob h;obtain⟨h14,h⟩|⟨h14,h⟩:=ic h
     ·try simp only[h8,h9,h11,h12,h13,h14,C,E,F,G,H,J]
      cases h;exact t0
     ·try simp only[h8,h9,h11,h12,h13,h14,C,E,F,G,H,J]
      refine ih h ?_;try simp only[h8,h9,h11,h12,h13,h14,C,E,F,G,H,J,pL,aM,Y]
    ·try simp only[h8,h9,h11,h12,C,E,F,G,H,J]
     refine ih h ?_;try simp only[h8,h9,h11,h12,C,E,F,G,H,J,pL,aM,Y]
   ·try simp only[h8,h9,h11,C,E,F,G,H,J]
    cases h;exact t0
  ·try simp only[hσ,h8,RD,W0,C,E,F,G,H,J]
   cases h;exact t0
theorem Y2{a0}{r}(h:Ik a0=N r):FC Z 113 [.ag (zF a0)] [.sc (.v (.bool r))]:=by
 unfold Ik at h;refine A9 mixed dw [2] 52 ?_;simp only[dw,C,E,F,G,H,J];try simp only[C,E,F,G,H,J]
 refine A8 ?_;obtain⟨r1,h1,h⟩:=ob h;try simp only[C,E,F,G,H,J]
 refine A4 (B3e h1) ?_;obtain⟨h2,h⟩|⟨h2,h⟩:=ic h
 ·obtain⟨r3,h3,h⟩:=ob h;try simp only[h2,C,E,F,G,H,J]
  refine A4 (AU h3) ?_;obtain⟨h4,h⟩|⟨h4,h⟩:=ic h
  ·obtain⟨x5,h5,h⟩:=ob h;obtain⟨h6,h⟩|⟨h6,h⟩:=ic h
   ·try simp only[h2,h4,h5,h6,C,E,F,G,H,J]
    cases h;exact t0
   ·try simp only[h2,h4,h5,h6,C,E,F,G,H,J]
    refine B75 h ?_;try simp only[h2,h4,h5,h6,C,E,F,G,H,J,pL,aM,Y]
  ·try simp only[h2,h4,C,E,F,G,H,J]
   cases h;exact t0
 ·try simp only[h2,C,E,F,G,H,J]
  cases h;exact t0
/- 149:spec_IsName -/
def H3:X0:=A1 [Ae [0,3,4] [] []] (A1 [mv 21 4,nt 22 21,mv 23 22,Af 23 T 24 3,AP 23 T 25 .eql 24 0,Af 23 T 26 25,Af 26 L 27 0,Af 26 L 28 3,(N (26,L),.idx 29 (S 27) (S 28)),(N (26,L),.bin 30 .lss (S 29) (K8 48)),(N (23,T),.pick 31 (S 26) (KB T) (S 30)),Af 23 T 32 31,Af 32 L 33 0,Af 32 L 34 3,(N (32,L),.idx 35 (S 33) (S 34)),(N (32,L),.bin 36 .gtr (S 35) (K8 57)),(N (23,T),.pick 37 (S 32) (KB T) (S 36)),pa 38 23 37] (Aq 38 (A2 [A3 2 L])))
def RE:X0:=A1 [Ae [0,3] [] []] (.reg [mv 9 3,Ac 10 .add 9 1,mv 3 10])
def H4:X0:=A1 [Ae [0,3] [] []] (A5 (A1 [mv 5 3,mv 6 0,(O,.slen 7 (S 6)),bn 8 .lss 5 7] (AL 8 .skip (.exit 0))) (A5 (.block 1 (A1 [mv 11 0,mv 12 3,(O,.idx 13 (S 11) (S 12)),(O,.bin 14 .geq (S 13) (K8 97)),mv 15 14,Af 15 T 16 0,Af 15 T 17 3,(N (15,T),.idx 18 (S 16) (S 17)),(N (15,T),.bin 19 .leq (S 18) (K8 122)),pa 20 15 19,mv 4 20] H3)) RE))
def LI:X0:=(A2 [mv 39 0,(O,.slen 40 (S 39)),ca 41 118 [S 40,K 1,K 8],mv 2 41])
def dy:X0:=(A1 [A3 2 L] (A5 (A1 [A6 3 0] (Ah 0 H4)) LI))
def ny:=fun a0 v1 (k_:Q V)=>∀{zr},k_=N zr→Kp Z [0,3] [] [] ⟨[(0,vc (aS a0)),pI 3 v1],[],[]⟩ (.code RE:: [.code (.loop H4),.blk 0,.code LI]) (Ag [2] [.sc (.v (.bool zr))])
def nx:=fun a0 v1 (k_:V→Q V)=>∀{v5} {zr},k_ v5=N zr→Kp Z [0,3,4] [] [] ⟨[(0,vc (aS a0)),pI 3 v1,(4,vc (aB v5))],[],[]⟩ (.code H3:: [.blk 1,.code RE,.code (.loop H4),.blk 0,.code LI]) (Ag [2] [.sc (.v (.bool zr))])
def TC:=fun a0 (k_:U→Q V)=>∀{v1} {zr},k_ v1=N zr→Kp Z [0,3] [] [] ⟨[(0,vc (aS a0)),pI 3 v1],[],[]⟩ (.code (.loop H4):: [.blk 0,.code LI]) (Ag [2] [.sc (.v (.bool zr))])
theorem lJ{a0 v1}{Ep}(SJ:TC a0 Ep):ny a0 v1 (Nx a0 v1 Ep):=by
 intro r h σ hσ;unfold Nx at h;try simp only[hσ,RE,C,E,F,G,H,J]
 refine SJ h ?_;try simp only[C,E,F,G,H,J,pL,aM,Y]
theorem lK{a0 v1}{Ep}(SJ:TC a0 Ep):nx a0 v1 (Nw a0 v1 Ep):=by
 intro v5 r h σ hσ;unfold Nw at h;obtain⟨h6,h⟩|⟨h6,h⟩:=ic h
 ·try simp only[hσ,h6,H3,C,E,F,G,H,J]
  refine lJ SJ h ?_;try simp only[h6,C,E,F,G,H,J,pL,aM,Y]
 ·obtain⟨h7,h⟩|⟨h7,h⟩:=ic h
  ·try simp only[hσ,h6,h7,H3,C,E,F,G,H,J]
   cases h;exact t0
  ·obtain⟨b8,h8,h⟩:=ob h;obtain⟨h9,h⟩|⟨h9,h⟩:=ic h
   ·try simp only[hσ,h6,h7,h8,h9,H3,C,E,F,G,H,J]
    cases h;exact t0
   ·obtain⟨h10,h⟩|⟨h10,h⟩:=ic h
    ·try simp only[hσ,h6,h7,h8,h9,h10,H3,C,E,F,G,H,J]
     cases h;exact t0
    ·try simp only[hσ,h6,h7,h8,h9,h10,H3,C,E,F,G,H,J]
     refine lJ SJ h ?_;try simp only[h6,h7,h8,h9,h10,C,E,F,G,H,J,pL,aM,Y]
theorem B76{a0}{n:W}:TC a0 (G7 a0 n):=by
 induction n with
 | zero=>intro _ r h; cases h
 | succ n ih=>
  intro v1 r h σ hσ;rw[G7] at h;refine Ai ?_;obtain⟨h2,h⟩|⟨h2,h⟩:=ic h
  ·obtain⟨b3,h3,h⟩:=ob h;obtain⟨h4,h⟩|⟨h4,h⟩:=ic h
   ·try simp only[hσ,h2,h3,h4,H4,C,E,F,G,H,J]
    refine lK ih h ?_;try simp only[h2,h3,h4,C,E,F,G,H,J,pL,aM,Y]
   ·try simp only[hσ,h2,h3,h4,H4,C,E,F,G,H,J]
    refine lK ih h ?_;try simp only[h2,h3,h4,C,E,F,G,H,J,pL,aM,Y]
  ·obtain⟨r11,h11,h⟩:=ob h;try simp only[hσ,h2,H4,LI,C,E,F,G,H,J]
   refine A4 (AU h11) ?_;try simp only[h2,C,E,F,G,H,J]
   cases h;exact t0
theorem jp{a0}{r}(h:Kh a0=N r):FC Z 149 [.sc (.str a0)] [.sc (.v (.bool r))]:=by
 unfold Kh at h;refine A9 mixed dy [2] 42 ?_;simp only[dy,C,E,F,G,H,J];try simp only[C,E,F,G,H,J]
 refine B76 h ?_;try simp only[C,E,F,G,H,J,pL,aM,Y]
/- 150:spec_PointNamed -/
def RF:X0:=A1 [Ae [1,8,9,10] [] []] (A1 [bn 11 .lss 10 9] (Av 11 0 1 (A1 [mv 12 10,ia 13 8 10 2,lw 14 13 2,Al 6 [aS [],aB L],mv 5 12,so 6 14 2] (A1 [fa 15 6 0,ld 16 15,mv 17 1,bn 18 .eql 16 17] (Aq 18 (A2 [mv 19 5,mv 4 19])))) (Au 20 10)))
def W1:X0:=(A2 [A6 4 (-1)])
def dz:X0:=(A1 [bo 2 0,A6 4 0] (A5 (A1 [fa 7 2 0,ld 8 7,ln 9 8,A6 10 0] (Ah 0 RF)) W1))
def oK:=fun a1 (a0:X6) (k_:U→Q U)=>∀{v1} {zr},k_ v1=N zr→Kp Z [1,8,9,10] [] [] ⟨[(1,vc (aS a1)),pL 8 X9.row a0.Points,pI 9 (a0.Points.length:U),pI 10 v1],[],[]⟩ (.code (.loop RF):: [.blk 0,.code W1]) (Ag [4] [.sc (.v (.int .i64 zr))])
theorem B77{a1 a0}{n:W}:oK a1 a0 (It a1 a0 n):=by
 induction n with
 | zero=>intro _ r h; cases h
 | succ n ih=>
  intro v1 r h σ hσ;rw[It] at h;refine Ai ?_;obtain⟨h2,h⟩|⟨h2,h⟩:=ic h
  ·obtain⟨x3,h3,h⟩:=ob h;try simp only[hσ,h2,h3,RF,C,E,F,G,H,J]
   refine Am ?_;obtain⟨h4,h⟩|⟨h4,h⟩:=ic h
   ·try simp only[h2,h3,h4,C,E,F,G,H,J]
    cases h;exact t0
   ·try simp only[h2,h3,h4,C,E,F,G,H,J]
    refine ih h ?_;try simp only[h2,h3,h4,C,E,F,G,H,J,pL,aM,Y]
  ·try simp only[hσ,h2,RF,W1,C,E,F,G,H,J]
   cases h;exact t0
theorem B25{a0}{a1}{r}(h:NI a0 a1=N r):FC Z 150 [.ag (X6.row a0),.sc (.str a1)] [.sc (.v (.int .i64 r))]:=by
 unfold NI at h;refine A9 mixed dz [4] 21 ?_;simp only[dz,C,E,F,G,H,J];try simp only[C,E,F,G,H,J]
 refine A8 ?_;try simp only[C,E,F,G,H,J]
 refine B77 h ?_;try simp only[C,E,F,G,H,J,pL,aM,Y]
/- 151:spec_l05Joins -/
def Zf:X0:=(A1 [bo 3 0,A3 6 L] (A2 [fa 7 3 0,ld 8 7,mv 9 1,bn 10 .eql 8 9,mv 11 10,Ab 11 T 12 3 1,Ad 11 T 13 12,Af 11 T 14 2,AK 11 T 15 .eql 13 14,pa 16 11 15,mv 17 16,Ab 17 L 18 3 0,Ad 17 L 19 18,Af 17 L 20 2,AK 17 L 21 .eql 19 20,Af 17 L 22 21,Ab 22 T 23 3 1,Ad 22 T 24 23,Af 22 T 25 1,AK 22 T 26 .eql 24 25,(N (17,L),.pick 27 (S 22) (S 26) (KB L)),po 28 17 27,mv 6 28]))
theorem B3m{a0}{a1}{a2}{r}(h:NV a0 a1 a2=N r):FC Z 151 [.ag (X3.row a0),.sc (.int .i64 a1),.sc (.int .i64 a2)] [.sc (.v (.bool r))]:=by
 unfold NV at h;refine A9 mixed Zf [6] 29 ?_;simp only[Zf,C,E,F,G,H,J];try simp only[C,E,F,G,H,J]
 refine A8 ?_;obtain⟨h1,h⟩|⟨h1,h⟩:=ic h
 ·obtain⟨h2,h⟩|⟨h2,h⟩:=ic h
  ·try simp only[h1,h2,C,E,F,G,H,J]
   cases h;exact t0
  ·obtain⟨h3,h⟩|⟨h3,h⟩:=ic h
   ·try simp only[h1,h2,h3,C,E,F,G,H,J]
    cases h;exact t0
   ·try simp only[h1,h2,h3,C,E,F,G,H,J]
    cases h;exact t0
 ·obtain⟨h4,h⟩|⟨h4,h⟩:=ic h
  ·try simp only[h1,h4,C,E,F,G,H,J]
   cases h;exact t0
  ·try simp only[h1,h4,C,E,F,G,H,J]
   cases h;exact t0
/- 114:spec_ChartOk -/
def Pi:X0:=A1 [Ae [1,20,21,22] [1] []] (A1 [bn 23 .lss 22 21] (Av 23 0 1 (A1 [mv 24 22,ia 25 20 22 2,lw 26 25 2,Al 4 [aS [],aB L],mv 3 24,so 4 26 2] (A1 [fa 27 4 0,ld 28 27,ca 29 149 [S 28],nt 30 29,mv 31 30,AQ 31 L 32 1 2,Ab 31 L 33 4 0,Ad 31 L 34 33,Ak 31 L 35 150 [S 32,S 34],Af 31 L 36 3,AK 31 L 37 .neq 35 36,po 38 31 37] (Aq 38 (A2 [A3 2 L])))) (Au 39 22)))
def Pj:X0:=A1 [Ae [1,6,41,42,43,88,89,90] [1,6] []] (A1 [bn 91 .lss 90 89] (Av 91 4 5 (A1 [ia 92 88 90 5,lw 93 92 5,Al 8 [aI 0,aI 0,aI 0,aI 0,aB L],so 8 93 5] (A1 [lw 94 8 5,fa 95 6 0,ld 96 95,fa 97 6 1,ld 98 97,ca 99 151 [S 94,S 96,S 98]] (Aq 99 (A2 [A3 2 L])))) (Au 100 90)))
def TX:X0:=(Au 101 43)
def Ld:X0:=A1 [Ae [1,41,42,43] [1] []] (A1 [bn 44 .lss 43 42] (Av 44 2 3 (A1 [mv 45 43,ia 46 41 43 5,lw 47 46 5,Al 6 [aI 0,aI 0,aI 0,aI 0,aB L],mv 5 45,so 6 47 5] (Aa [fa 48 6 0,ld 49 48,fa 50 1 0,ld 51 50,ln 52 51,Ac 53 .sub 52 1,ca 54 118 [S 49,K 0,S 53],nt 55 54,mv 56 55,Ab 56 L 57 6 1,Ad 56 L 58 57,Ab 56 L 59 1 0,Ad 56 L 60 59,B1 56 L 61 60,AP 56 L 62 .sub 61 1,Ak 56 L 63 118 [S 58,K 0,S 62],AN 56 L 64 63,po 65 56 64,mv 66 65,Ab 66 L 67 6 0,Ad 66 L 68 67,Ab 66 L 69 6 1,Ad 66 L 70 69,AK 66 L 71 .eql 68 70,po 72 66 71,mv 73 72,Ab 73 L 74 6 2,Ad 73 L 75 74,Ak 73 L 76 118 [S 75,K 0,K 3000],AN 73 L 77 76,po 78 73 77,mv 79 78,Ab 79 L 80 6 3,Ad 79 L 81 80,Ak 79 L 82 118 [S 81,K 1,K 240],AN 79 L 83 82,po 84 79 83] 84 (A2 [A3 2 L]) (A1 [fa 85 1 1,ld 86 85,mv 87 5,(O,.slc 88 5 (S 86) O (N (S 87)) O),ln 89 88,A6 90 0] (Ah 4 Pj)))) TX))
def Pk:X0:=(A2 [A3 2 T])
def TY:X0:=(A5 (A1 [fa 40 1 1,ld 41 40,ln 42 41,A6 43 0] (Ah 2 Ld)) Pk)
def Zg:X0:=(A1 [bo 1 0,A3 2 L] (Aa [fa 9 1 0,ld 10 9,ln 11 10,Ac 12 .gtr 11 8,mv 13 12,Ab 13 L 14 1 1,Ad 13 L 15 14,B1 13 L 16 15,AP 13 L 17 .gtr 16 10,po 18 13 17] 18 (A2 [A3 2 L]) (A5 (A1 [fa 19 1 0,ld 20 19,ln 21 20,A6 22 0] (Ah 0 Pi)) TY)))
def nh:=fun(a0:X6) v11 (x13:X3) y24 y25 (k_:U→Q V)=>∀{v26} {zr},k_ v26=N zr→Kp Z [1,6,41,42,43,88,89,90] [1,6] [] ⟨[pB 1,pB 6,pL 41 X3.row a0.Segments,pI 42 (a0.Segments.length:U),pI 43 v11,pL 88 X3.row y24,pI 89 y25,pI 90 v26],[(1,[aM X9.row a0.Points,aM X3.row a0.Segments]),(6,(dm x13.row))],[]⟩ (.code (.loop Pj):: [.blk 4,.blk 3,.code TX,.code (.loop Ld),.blk 2,.code Pk]) (Ag [2] [.sc (.v (.bool zr))])
def Yy:=fun(a0:X6) (k_:U→Q V)=>∀{v11} {zr},k_ v11=N zr→Kp Z [1,41,42,43] [1] [] ⟨[pB 1,pL 41 X3.row a0.Segments,pI 42 (a0.Segments.length:U),pI 43 v11],[(1,[aM X9.row a0.Points,aM X3.row a0.Segments])],[]⟩ (.code (.loop Ld):: [.blk 2,.code Pk]) (Ag [2] [.sc (.v (.bool zr))])
def ng:=fun(a0:X6) (k_:U→Q V)=>∀{v3} {zr},k_ v3=N zr→Kp Z [1,20,21,22] [1] [] ⟨[pB 1,pL 20 X9.row a0.Points,pI 21 (a0.Points.length:U),pI 22 v3],[(1,[aM X9.row a0.Points,aM X3.row a0.Segments])],[]⟩ (.code (.loop Pi):: [.blk 0,.code TY]) (Ag [2] [.sc (.v (.bool zr))])
theorem B4h{a0 v11 x13 y24 y25}{Og}(xZ:Yy a0 Og){n:W}:nh a0 v11 x13 y24 y25 (Ie a0 v11 x13 y24 y25 Og n):=by
 induction n with
 | zero=>intro _ r h; cases h
 | succ n ih=>
  intro v26 r h σ hσ;rw[Ie] at h;refine Ai ?_;obtain⟨h27,h⟩|⟨h27,h⟩:=ic h
  ·obtain⟨x28,h28,h⟩:=ob h;try simp only[hσ,h27,h28,Pj,C,E,F,G,H,J]
   refine Am ?_;obtain⟨r29,h29,h⟩:=ob h;try simp only[h27,h28,C,E,F,G,H,J]
   refine A4 (B3m h29) ?_;obtain⟨h30,h⟩|⟨h30,h⟩:=ic h
   ·try simp only[h27,h28,h30,C,E,F,G,H,J]
    cases h;exact t0
   ·try simp only[h27,h28,h30,C,E,F,G,H,J]
    refine ih h ?_;try simp only[h27,h28,h30,C,E,F,G,H,J,pL,aM,Y]
  ·try simp only[hσ,h27,Pj,TX,C,E,F,G,H,J]
   refine xZ h ?_;try simp only[h27,C,E,F,G,H,J,pL,aM,Y]
theorem B4i{a0}{n:W}:Yy a0 (Eg a0 n):=by
 induction n with
 | zero=>intro _ r h; cases h
 | succ n ih=>
  intro v11 r h σ hσ;rw[Eg] at h;refine Ai ?_;obtain⟨h12,h⟩|⟨h12,h⟩:=ic h
  ·obtain⟨x13,h13,h⟩:=ob h;try simp only[hσ,h12,h13,Ld,C,E,F,G,H,J]
   refine Am ?_;obtain⟨r14,h14,h⟩:=ob h;try simp only[h12,h13,C,E,F,G,H,J]
   refine A4 (AU h14) ?_;obtain⟨h15,h⟩|⟨h15,h⟩:=ic h
   ·obtain⟨r16,h16,h⟩:=ob h;try simp only[h12,h13,h15,C,E,F,G,H,J]
    refine A4 (AU h16) ?_;obtain⟨h17,h⟩|⟨h17,h⟩:=ic h
    ·obtain⟨h18,h⟩|⟨h18,h⟩:=ic h
     ·try simp only[h12,h13,h15,h17,h18,C,E,F,G,H,J]
      cases h;exact t0
     ·obtain⟨r19,h19,h⟩:=ob h;try simp only[h12,h13,h15,h17,h18,C,E,F,G,H,J]
      refine A4 (AU h19) ?_;obtain⟨h20,h⟩|⟨h20,h⟩:=ic h
      ·obtain⟨r21,h21,h⟩:=ob h;try simp only[h12,h13,h15,h17,h18,h20,C,E,F,G,H,J]
       refine A4 (AU h21) ?_;obtain⟨h22,h⟩|⟨h22,h⟩:=ic h
       ·obtain⟨p23,h23,h⟩:=ob h;try simp only[h12,h13,h15,h17,h18,h20,h22,h23,C,E,F,G,H,J]
        refine B4h ih h ?_;try simp only[h12,h13,h15,h17,h18,h20,h22,h23,C,E,F,G,H,J,pL,aM,Y]
       ·try simp only[h12,h13,h15,h17,h18,h20,h22,C,E,F,G,H,J]
        cases h;exact t0
      ·try simp only[h12,h13,h15,h17,h18,h20,C,E,F,G,H,J]
       cases h;exact t0
    ·try simp only[h12,h13,h15,h17,C,E,F,G,H,J]
     cases h;exact t0
   ·try simp only[h12,h13,h15,C,E,F,G,H,J]
    cases h;exact t0
  ·try simp only[hσ,h12,Ld,Pk,C,E,F,G,H,J]
   cases h;exact t0
theorem B4j{a0}{n:W}:ng a0 (Ic a0 n):=by
 induction n with
 | zero=>intro _ r h; cases h
 | succ n ih=>
  intro v3 r h σ hσ;rw[Ic] at h;refine Ai ?_;obtain⟨h4,h⟩|⟨h4,h⟩:=ic h
  ·obtain⟨x5,h5,h⟩:=ob h;try simp only[hσ,h4,h5,Pi,C,E,F,G,H,J]
   refine Am ?_;obtain⟨r6,h6,h⟩:=ob h;try simp only[h4,h5,C,E,F,G,H,J]
   refine A4 (jp h6) ?_;obtain⟨h7,h⟩|⟨h7,h⟩:=ic h
   ·obtain⟨r9,h9,h⟩:=ob h;try simp only[h4,h5,h7,C,E,F,G,H,J]
    refine A4 (B25 h9) ?_;obtain⟨h10,h⟩|⟨h10,h⟩:=ic h
    ·try simp only[h4,h5,h7,h10,C,E,F,G,H,J]
     cases h;exact t0
    ·try simp only[h4,h5,h7,h10,C,E,F,G,H,J]
     refine ih h ?_;try simp only[h4,h5,h7,h10,C,E,F,G,H,J,pL,aM,Y]
   ·try simp only[h4,h5,h7,C,E,F,G,H,J]
    cases h;exact t0
  ·try simp only[hσ,h4,Pi,TY,C,E,F,G,H,J]
   refine B4i h ?_;try simp only[h4,C,E,F,G,H,J,pL,aM,Y]
theorem GN{a0}{r}(h:Dq a0=N r):FC Z 114 [.ag (X6.row a0)] [.sc (.v (.bool r))]:=by
 unfold Dq at h;refine A9 mixed Zg [2] 102 ?_;simp only[Zg,C,E,F,G,H,J];try simp only[C,E,F,G,H,J]
 refine A8 ?_;obtain⟨h1,h⟩|⟨h1,h⟩:=ic h
 ·try simp only[h1,C,E,F,G,H,J]
  cases h;exact t0
 ·obtain⟨h2,h⟩|⟨h2,h⟩:=ic h
  ·try simp only[h1,h2,C,E,F,G,H,J]
   cases h;exact t0
  ·try simp only[h1,h2,C,E,F,G,H,J]
   refine B4j h ?_;try simp only[h1,h2,C,E,F,G,H,J,pL,aM,Y]
/- 152:spec_ShipOk -/
def Zi:X0:=(A1 [bo 1 0,A3 2 L] (A2 [fa 3 1 0,ld 4 3,ca 5 149 [S 4],mv 6 5,Ab 6 T 7 1 1,Ad 6 T 8 7,Ak 6 T 9 118 [S 8,K 10,K 400],pa 10 6 9,mv 11 10,Ab 11 T 12 1 2,Ad 11 T 13 12,Ak 11 T 14 118 [S 13,K 100,K 2000],pa 15 11 14,mv 16 15,Ab 16 T 17 1 3,Ad 16 T 18 17,Ak 16 T 19 118 [S 18,K 0,K 3],pa 20 16 19,mv 21 20,Ab 21 T 22 1 4,Ad 21 T 23 22,Ak 21 T 24 118 [S 23,K 0,K 4],pa 25 21 24,mv 2 25]))
theorem GO{a0}{r}(h:Dr a0=N r):FC Z 152 [.ag (X5.row a0)] [.sc (.v (.bool r))]:=by
 unfold Dr at h;refine A9 mixed Zi [2] 26 ?_;simp only[Zi,C,E,F,G,H,J];try simp only[C,E,F,G,H,J]
 refine A8 ?_;obtain⟨r1,h1,h⟩:=ob h;try simp only[C,E,F,G,H,J]
 refine A4 (jp h1) ?_;obtain⟨h2,h⟩|⟨h2,h⟩:=ic h
 ·obtain⟨r3,h3,h⟩:=ob h;try simp only[h2,C,E,F,G,H,J]
  refine A4 (AU h3) ?_;obtain⟨h4,h⟩|⟨h4,h⟩:=ic h
  ·obtain⟨r5,h5,h⟩:=ob h;try simp only[h2,h4,C,E,F,G,H,J]
   refine A4 (AU h5) ?_;obtain⟨h6,h⟩|⟨h6,h⟩:=ic h
   ·obtain⟨r7,h7,h⟩:=ob h;try simp only[h2,h4,h6,C,E,F,G,H,J]
    refine A4 (AU h7) ?_;obtain⟨h8,h⟩|⟨h8,h⟩:=ic h
    ·obtain⟨r9,h9,h⟩:=ob h;try simp only[h2,h4,h6,h8,C,E,F,G,H,J]
     refine A4 (AU h9) ?_;try simp only[h2,h4,h6,h8,C,E,F,G,H,J]
     cases h;exact t0
    ·try simp only[h2,h4,h6,h8,C,E,F,G,H,J]
     cases h;exact t0
   ·try simp only[h2,h4,h6,C,E,F,G,H,J]
    cases h;exact t0
  ·try simp only[h2,h4,C,E,F,G,H,J]
   cases h;exact t0
 ·try simp only[h2,C,E,F,G,H,J]
  cases h;exact t0
/- 153:spec_ShipNamed -/
def Pl:X0:=A1 [Ae [1,7,8,9] [] []] (A1 [bn 10 .lss 9 8] (Av 10 0 1 (A1 [mv 11 9,ia 12 7 9 6,lw 13 12 6,Al 6 [aS [],aI 0,aI 0,aI 0,aI 0,aB L],mv 5 11,so 6 13 6] (A1 [fa 14 6 0,ld 15 14,mv 16 1,bn 17 .eql 15 16] (Aq 17 (A2 [mv 18 5,mv 4 18])))) (Au 19 9)))
def TZ:X0:=(A2 [A6 4 (-1)])
def Zj:X0:=(A1 [A6 4 0] (A5 (A1 [mv 7 0,ln 8 7,A6 9 0] (Ah 0 Pl)) TZ))
def oO:=fun a1 a0 (k_:U→Q U)=>∀{v1} {zr},k_ v1=N zr→Kp Z [1,7,8,9] [] [] ⟨[(1,vc (aS a1)),pL 7 X5.row a0,pI 8 (a0.length:U),pI 9 v1],[],[]⟩ (.code (.loop Pl):: [.blk 0,.code TZ]) (Ag [4] [.sc (.v (.int .i64 zr))])
theorem B4k{a1 a0}{n:W}:oO a1 a0 (Iz a1 a0 n):=by
 induction n with
 | zero=>intro _ r h; cases h
 | succ n ih=>
  intro v1 r h σ hσ;rw[Iz] at h;refine Ai ?_;obtain⟨h2,h⟩|⟨h2,h⟩:=ic h
  ·obtain⟨x3,h3,h⟩:=ob h;try simp only[hσ,h2,h3,Pl,C,E,F,G,H,J]
   refine Am ?_;obtain⟨h4,h⟩|⟨h4,h⟩:=ic h
   ·try simp only[h2,h3,h4,C,E,F,G,H,J]
    cases h;exact t0
   ·try simp only[h2,h3,h4,C,E,F,G,H,J]
    refine ih h ?_;try simp only[h2,h3,h4,C,E,F,G,H,J,pL,aM,Y]
  ·try simp only[hσ,h2,Pl,TZ,C,E,F,G,H,J]
   cases h;exact t0
theorem B29{a0}{a1}{r}(h:NL a0 a1=N r):FC Z 153 [.sc (.sl (I X5.row a0)),.sc (.str a1)] [.sc (.v (.int .i64 r))]:=by
 unfold NL at h;refine A9 mixed Zj [4] 20 ?_;simp only[Zj,C,E,F,G,H,J];try simp only[C,E,F,G,H,J]
 refine B4k h ?_;try simp only[C,E,F,G,H,J,pL,aM,Y]
/- 115:spec_FleetOk -/
def Pm:X0:=A1 [Ae [0,8,9,10] [] []] (A1 [bn 11 .lss 10 9] (Av 11 0 1 (A1 [mv 12 10,ia 13 8 10 6,lw 14 13 6,Al 4 [aS [],aI 0,aI 0,aI 0,aI 0,aB L],mv 3 12,so 4 14 6] (A1 [lw 15 4 6,ca 16 152 [S 15],nt 17 16,mv 18 17,Af 18 L 19 0,Ab 18 L 20 4 0,Ad 18 L 21 20,Ak 18 L 22 153 [S 19,S 21],Af 18 L 23 3,AK 18 L 24 .neq 22 23,po 25 18 24] (Aq 25 (A2 [A3 2 L])))) (Au 26 10)))
def U0:X0:=(A2 [A3 2 T])
def Zk:X0:=(A1 [A3 2 L] (Aa [mv 5 0,ln 6 5,Ac 7 .gtr 6 6] 7 (A2 [A3 2 L]) (A5 (A1 [mv 8 0,ln 9 8,A6 10 0] (Ah 0 Pm)) U0)))
def nl:=fun a0 (k_:U→Q V)=>∀{v2} {zr},k_ v2=N zr→Kp Z [0,8,9,10] [] [] ⟨[pL 0 X5.row a0,pL 8 X5.row a0,pI 9 (a0.length:U),pI 10 v2],[],[]⟩ (.code (.loop Pm):: [.blk 0,.code U0]) (Ag [2] [.sc (.v (.bool zr))])
theorem B4l{a0}{n:W}:nl a0 (Ij a0 n):=by
 induction n with
 | zero=>intro _ r h; cases h
 | succ n ih=>
  intro v2 r h σ hσ;rw[Ij] at h;refine Ai ?_;obtain⟨h3,h⟩|⟨h3,h⟩:=ic h
  ·obtain⟨x4,h4,h⟩:=ob h;try simp only[hσ,h3,h4,Pm,C,E,F,G,H,J]
   refine Am ?_;obtain⟨r5,h5,h⟩:=ob h;try simp only[h3,h4,C,E,F,G,H,J]
   refine A4 (GO h5) ?_;obtain⟨h6,h⟩|⟨h6,h⟩:=ic h
   ·obtain⟨r7,h7,h⟩:=ob h;try simp only[h3,h4,h6,C,E,F,G,H,J]
    refine A4 (B29 h7) ?_;obtain⟨h8,h⟩|⟨h8,h⟩:=ic h
    ·try simp only[h3,h4,h6,h8,C,E,F,G,H,J]
     cases h;exact t0
    ·try simp only[h3,h4,h6,h8,C,E,F,G,H,J]
     refine ih h ?_;try simp only[h3,h4,h6,h8,C,E,F,G,H,J,pL,aM,Y]
   ·try simp only[h3,h4,h6,C,E,F,G,H,J]
    cases h;exact t0
  ·try simp only[hσ,h3,Pm,U0,C,E,F,G,H,J]
   cases h;exact t0
theorem jm{a0}{r}(h:Kb a0=N r):FC Z 115 [.sc (.sl (I X5.row a0))] [.sc (.v (.bool r))]:=by
 unfold Kb at h;refine A9 mixed Zk [2] 27 ?_;simp only[Zk,C,E,F,G,H,J];obtain⟨h1,h⟩|⟨h1,h⟩:=ic h
 ·try simp only[h1,C,E,F,G,H,J]
  cases h;exact t0
 ·try simp only[h1,C,E,F,G,H,J]
  refine B4l h ?_;try simp only[h1,C,E,F,G,H,J,pL,aM,Y]
/- 116:spec_RegimeOk -/
def Zl:X0:=(A1 [bo 1 0,A3 2 L] (A2 [fa 3 1 0,ld 4 3,ca 5 118 [S 4,K 0,K 60],mv 2 5]))
theorem jw{a0}{r}(h:Iu a0=N r):FC Z 116 [.ag (Xg.row a0)] [.sc (.v (.bool r))]:=by
 unfold Iu at h;refine A9 mixed Zl [2] 6 ?_;simp only[Zl,C,E,F,G,H,J];try simp only[C,E,F,G,H,J]
 refine A8 ?_;obtain⟨r1,h1,h⟩:=ob h;try simp only[C,E,F,G,H,J]
 refine A4 (AU h1) ?_;try simp only[C,E,F,G,H,J]
 cases h;exact t0
/- 154:spec_l13Table -/
def Po:X0:=A1 [Ae [15,16,17] [] []] (A1 [bn 18 .lss 17 16] (Av 18 0 1 (A1 [ia 19 15 17 1,ld 20 19,mv 6 20] (A1 [mv 21 6,ca 22 118 [S 21,K 0,K 240],nt 23 22] (Aq 23 (A2 [A3 4 L])))) (Au 24 17)))
def U1:X0:=(A2 [A3 4 T])
def Zm:X0:=(A1 [A3 4 L] (Aa [mv 7 0,ca 8 118 [S 7,K 0,K 2880],nt 9 8,mv 10 9,Af 10 L 11 1,B1 10 L 12 11,AP 10 L 13 .neq 12 64,po 14 10 13] 14 (A2 [A3 4 L]) (A5 (A1 [mv 15 1,ln 16 15,A6 17 0] (Ah 0 Po)) U1)))
def ol:=fun a1 (k_:U→Q V)=>∀{v4} {zr},k_ v4=N zr→Kp Z [15,16,17] [] [] ⟨[pL 15 rI a1,pI 16 (a1.length:U),pI 17 v4],[],[]⟩ (.code (.loop Po):: [.blk 0,.code U1]) (Ag [4] [.sc (.v (.bool zr))])
theorem B4m{a1}{n:W}:ol a1 (Gk a1 n):=by
 induction n with
 | zero=>intro _ r h; cases h
 | succ n ih=>
  intro v4 r h σ hσ;rw[Gk] at h;refine Ai ?_;obtain⟨h5,h⟩|⟨h5,h⟩:=ic h
  ·obtain⟨x6,h6,h⟩:=ob h;obtain⟨r7,h7,h⟩:=ob h;try simp only[hσ,h5,h6,Po,C,E,F,G,H,J]
   refine A4 (AU h7) ?_;obtain⟨h8,h⟩|⟨h8,h⟩:=ic h
   ·try simp only[h5,h6,h8,C,E,F,G,H,J]
    refine ih h ?_;try simp only[h5,h6,h8,C,E,F,G,H,J,pL,aM,Y]
   ·try simp only[h5,h6,h8,C,E,F,G,H,J]
    cases h;exact t0
  ·try simp only[hσ,h5,Po,U1,C,E,F,G,H,J]
   cases h;exact t0
theorem Y7{a0}{a1}{r}(h:Gj a0 a1=N r):FC Z 154 [.sc (.int .i64 a0),.sc (.sl (I rI a1))] [.sc (.v (.bool r))]:=by
 unfold Gj at h;refine A9 mixed Zm [4] 25 ?_;simp only[Zm,C,E,F,G,H,J];obtain⟨r1,h1,h⟩:=ob h;try simp only[C,E,F,G,H,J]
 refine A4 (AU h1) ?_;obtain⟨h2,h⟩|⟨h2,h⟩:=ic h
 ·obtain⟨h3,h⟩|⟨h3,h⟩:=ic h
  ·try simp only[h2,h3,C,E,F,G,H,J]
   cases h;exact t0
  ·try simp only[h2,h3,C,E,F,G,H,J]
   refine B4m h ?_;try simp only[h2,h3,C,E,F,G,H,J,pL,aM,Y]
 ·try simp only[h2,C,E,F,G,H,J]
  cases h;exact t0
/- 117:spec_CrewOk -/
def Zn:X0:=(A1 [bo 1 0,A3 2 L] (A2 [fa 3 1 0,ld 4 3,ca 5 118 [S 4,K 0,K 12],mv 6 5,Ab 6 T 7 1 1,Ad 6 T 8 7,Ak 6 T 9 118 [S 8,K 0,K 12],pa 10 6 9,mv 11 10,Ab 11 T 12 1 2,Ad 11 T 13 12,Ab 11 T 14 1 3,Ad 11 T 15 14,Ak 11 T 16 154 [S 13,S 15],pa 17 11 16,mv 2 17]))
theorem Y1{a0}{r}(h:Ig a0=N r):FC Z 117 [.ag (Xj.row a0)] [.sc (.v (.bool r))]:=by
 unfold Ig at h;refine A9 mixed Zn [2] 18 ?_;simp only[Zn,C,E,F,G,H,J];try simp only[C,E,F,G,H,J]
 refine A8 ?_;obtain⟨r1,h1,h⟩:=ob h;try simp only[C,E,F,G,H,J]
 refine A4 (AU h1) ?_;obtain⟨h2,h⟩|⟨h2,h⟩:=ic h
 ·obtain⟨r3,h3,h⟩:=ob h;try simp only[h2,C,E,F,G,H,J]
  refine A4 (AU h3) ?_;obtain⟨h4,h⟩|⟨h4,h⟩:=ic h
  ·obtain⟨r5,h5,h⟩:=ob h;try simp only[h2,h4,C,E,F,G,H,J]
   refine A4 (Y7 h5) ?_;try simp only[h2,h4,C,E,F,G,H,J]
   cases h;exact t0
  ·try simp only[h2,h4,C,E,F,G,H,J]
   cases h;exact t0
 ·try simp only[h2,C,E,F,G,H,J]
  cases h;exact t0
/- 86:spec_HarbourOk -/
def Zo:X0:=(A1 [bo 1 0,A3 2 L] (A2 [fa 3 1 0,lw 4 3 3,ca 5 113 [S 4],mv 6 5,Ab 6 T 7 1 3,AQ 6 T 8 7 2,Ak 6 T 9 114 [S 8],pa 10 6 9,mv 11 10,Ab 11 T 12 1 5,Ad 11 T 13 12,Ak 11 T 14 115 [S 13],pa 15 11 14,mv 16 15,Ab 16 T 17 1 6,AQ 16 T 18 17 2,Ak 16 T 19 116 [S 18],pa 20 16 19,mv 21 20,Ab 21 T 22 1 8,AQ 21 T 23 22 4,Ak 21 T 24 117 [S 23],pa 25 21 24,mv 2 25]))
theorem jo{a0}{r}(h:Kg a0=N r):FC Z 86 [.ag (X7.row a0)] [.sc (.v (.bool r))]:=by
 unfold Kg at h;refine A9 mixed Zo [2] 26 ?_;simp only[Zo,C,E,F,G,H,J];try simp only[C,E,F,G,H,J]
 refine A8 ?_;obtain⟨r1,h1,h⟩:=ob h;try simp only[C,E,F,G,H,J]
 refine A4 (Y2 h1) ?_;obtain⟨h2,h⟩|⟨h2,h⟩:=ic h
 ·obtain⟨r3,h3,h⟩:=ob h;try simp only[h2,C,E,F,G,H,J]
  refine A4 (GN h3) ?_;obtain⟨h4,h⟩|⟨h4,h⟩:=ic h
  ·obtain⟨r5,h5,h⟩:=ob h;try simp only[h2,h4,C,E,F,G,H,J]
   refine A4 (jm h5) ?_;obtain⟨h6,h⟩|⟨h6,h⟩:=ic h
   ·obtain⟨r7,h7,h⟩:=ob h;try simp only[h2,h4,h6,C,E,F,G,H,J]
    refine A4 (jw h7) ?_;obtain⟨h8,h⟩|⟨h8,h⟩:=ic h
    ·obtain⟨r9,h9,h⟩:=ob h;try simp only[h2,h4,h6,h8,C,E,F,G,H,J]
     refine A4 (Y1 h9) ?_;try simp only[h2,h4,h6,h8,C,E,F,G,H,J]
     cases h;exact t0
    ·try simp only[h2,h4,h6,h8,C,E,F,G,H,J]
     cases h;exact t0
   ·try simp only[h2,h4,h6,C,E,F,G,H,J]
    cases h;exact t0
  ·try simp only[h2,h4,C,E,F,G,H,J]
   cases h;exact t0
 ·try simp only[h2,C,E,F,G,H,J]
  cases h;exact t0
/- 87:spec_CallOk -/
def Zp:X0:=(A1 [bo 2 0,bo 3 1,A3 4 L] (A1 [fa 6 2 3,fa 7 6 0,ld 8 7,ln 9 8,Ac 10 .sub 9 1,mv 5 10] (A2 [lw 11 2 12,ca 12 86 [S 11],mv 13 12,Ab 13 T 14 3 0,Ad 13 T 15 14,Ab 13 T 16 2 5,Ad 13 T 17 16,B1 13 T 18 17,AP 13 T 19 .sub 18 1,Ak 13 T 20 118 [S 15,K 0,S 19],pa 21 13 20,mv 22 21,Ab 22 T 23 3 1,Ad 22 T 24 23,Af 22 T 25 5,Ak 22 T 26 118 [S 24,K 0,S 25],pa 27 22 26,mv 28 27,Ab 28 T 29 3 2,Ad 28 T 30 29,Af 28 T 31 5,Ak 28 T 32 118 [S 30,K 0,S 31],pa 33 28 32,mv 34 33,Ab 34 T 35 3 1,Ad 34 T 36 35,Ab 34 T 37 3 2,Ad 34 T 38 37,AK 34 T 39 .neq 36 38,pa 40 34 39,mv 41 40,Ab 41 T 42 3 3,Ad 41 T 43 42,Ak 41 T 44 118 [S 43,K 0,K 2880],pa 45 41 44,mv 46 45,Ab 46 T 47 3 4,Ad 46 T 48 47,Ab 46 T 49 3 3,Ad 46 T 50 49,Ak 46 T 51 118 [S 48,S 50,K 2880],pa 52 46 51,mv 4 52])))
theorem Y0{a0}{a1}{r}(h:Ia a0 a1=N r):FC Z 87 [.ag (X7.row a0),.ag (zD a1)] [.sc (.v (.bool r))]:=by
 unfold Ia at h;refine A9 mixed Zp [4] 53 ?_;simp only[Zp,C,E,F,G,H,J];try simp only[C,E,F,G,H,J]
 refine A8 ?_;try simp only[C,E,F,G,H,J]
 refine A8 ?_;obtain⟨r1,h1,h⟩:=ob h;try simp only[C,E,F,G,H,J]
 refine A4 (jo h1) ?_;obtain⟨h2,h⟩|⟨h2,h⟩:=ic h
 ·obtain⟨r3,h3,h⟩:=ob h;try simp only[h2,C,E,F,G,H,J]
  refine A4 (AU h3) ?_;obtain⟨h4,h⟩|⟨h4,h⟩:=ic h
  ·obtain⟨r5,h5,h⟩:=ob h;try simp only[h2,h4,C,E,F,G,H,J]
   refine A4 (AU h5) ?_;obtain⟨h6,h⟩|⟨h6,h⟩:=ic h
   ·obtain⟨r7,h7,h⟩:=ob h;try simp only[h2,h4,h6,C,E,F,G,H,J]
    refine A4 (AU h7) ?_;obtain⟨h8,h⟩|⟨h8,h⟩:=ic h
    ·obtain⟨h9,h⟩|⟨h9,h⟩:=ic h
     ·obtain⟨r10,h10,h⟩:=ob h;try simp only[h2,h4,h6,h8,h9,C,E,F,G,H,J]
      refine A4 (AU h10) ?_;obtain⟨h11,h⟩|⟨h11,h⟩:=ic h
      ·obtain⟨r12,h12,h⟩:=ob h;try simp only[h2,h4,h6,h8,h9,h11,C,E,F,G,H,J]
       refine A4 (AU h12) ?_;try simp only[h2,h4,h6,h8,h9,h11,C,E,F,G,H,J]
       cases h;exact t0
      ·try simp only[h2,h4,h6,h8,h9,h11,C,E,F,G,H,J]
       cases h;exact t0
     ·try simp only[h2,h4,h6,h8,h9,C,E,F,G,H,J]
      cases h;exact t0
    ·try simp only[h2,h4,h6,h8,C,E,F,G,H,J]
     cases h;exact t0
   ·try simp only[h2,h4,h6,C,E,F,G,H,J]
    cases h;exact t0
  ·try simp only[h2,h4,C,E,F,G,H,J]
   cases h;exact t0
 ·try simp only[h2,C,E,F,G,H,J]
  cases h;exact t0
/- 57:spec_CallsOk -/
def Pp:X0:=A1 [Ae [1,2,6,17,18,19,30,31,32] [2,6] []] (A1 [bn 33 .lss 32 31] (Av 33 2 3 (A1 [ia 34 30 32 5,lw 35 34 5,Al 8 [aI 0,aI 0,aI 0,aI 0,aI 0],so 8 35 5] (A1 [fa 36 6 0,ld 37 36,fa 38 8 0,ld 39 38,bn 40 .eql 37 39] (Aq 40 (A2 [A3 4 L])))) (Au 41 32)))
def U2:X0:=(Au 42 19)
def Le:X0:=A1 [Ae [1,2,17,18,19] [2] []] (A1 [bn 20 .lss 19 18] (Av 20 0 1 (A1 [mv 21 19,ia 22 17 19 5,lw 23 22 5,Al 6 [aI 0,aI 0,aI 0,aI 0,aI 0],mv 5 21,so 6 23 5] (Aa [lw 24 2 12,lw 25 6 5,ca 26 87 [S 24,S 25],nt 27 26] 27 (A2 [A3 4 L]) (A1 [mv 28 1,mv 29 5,(O,.slc 30 5 (S 28) O (N (S 29)) O),ln 31 30,A6 32 0] (Ah 2 Pp)))) U2))
def Pq:X0:=(A2 [A3 4 T])
def Zq:X0:=(A1 [bo 2 0,A3 4 L] (Aa [lw 9 2 12,ca 10 86 [S 9],nt 11 10,mv 12 11,Af 12 L 13 1,B1 12 L 14 13,AP 12 L 15 .gtr 14 6,po 16 12 15] 16 (A2 [A3 4 L]) (A5 (A1 [mv 17 1,ln 18 17,A6 19 0] (Ah 0 Le)) Pq)))
def nd:=fun a1 v4 (a0:X7) (x6:Xa) y10 y11 (k_:U→Q V)=>∀{v12} {zr},k_ v12=N zr→Kp Z [1,2,6,17,18,19,30,31,32] [2,6] [] ⟨[pL 1 zD a1,pB 2,pB 6,pL 17 zD a1,pI 18 (a1.length:U),pI 19 v4,pL 30 zD y10,pI 31 y11,pI 32 v12],[(2,([aI a0.Forecast.Tide.Mean,aM zA a0.Forecast.Tide.Parts,aM zB a0.Forecast.Surges,aM X9.row a0.Chart.Points,aM X3.row a0.Chart.Segments,aM X5.row a0.Fleet,aI a0.Regime.Gap,aB a0.Regime.NoMeet]++dm a0.Crew.row)),(6,(dm x6.row))],[]⟩ (.code (.loop Pp):: [.blk 2,.blk 1,.code U2,.code (.loop Le),.blk 0,.code Pq]) (Ag [4] [.sc (.v (.bool zr))])
def Yx:=fun a1 (a0:X7) (k_:U→Q V)=>∀{v4} {zr},k_ v4=N zr→Kp Z [1,2,17,18,19] [2] [] ⟨[pL 1 zD a1,pB 2,pL 17 zD a1,pI 18 (a1.length:U),pI 19 v4],[(2,([aI a0.Forecast.Tide.Mean,aM zA a0.Forecast.Tide.Parts,aM zB a0.Forecast.Surges,aM X9.row a0.Chart.Points,aM X3.row a0.Chart.Segments,aM X5.row a0.Fleet,aI a0.Regime.Gap,aB a0.Regime.NoMeet]++dm a0.Crew.row))],[]⟩ (.code (.loop Le):: [.blk 0,.code Pq]) (Ag [4] [.sc (.v (.bool zr))])
theorem B4n{a1 v4 a0 x6 y10 y11}{Of}(xY:Yx a1 a0 Of){n:W}:nd a1 v4 a0 x6 y10 y11 (K9 a1 v4 a0 x6 y10 y11 Of n):=by
 induction n with
 | zero=>intro _ r h; cases h
 | succ n ih=>
  intro v12 r h σ hσ;rw[K9] at h;refine Ai ?_;obtain⟨h13,h⟩|⟨h13,h⟩:=ic h
  ·obtain⟨x14,h14,h⟩:=ob h;try simp only[hσ,h13,h14,Pp,C,E,F,G,H,J]
   refine Am ?_;obtain⟨h15,h⟩|⟨h15,h⟩:=ic h
   ·try simp only[h13,h14,h15,C,E,F,G,H,J]
    cases h;exact t0
   ·try simp only[h13,h14,h15,C,E,F,G,H,J]
    refine ih h ?_;try simp only[h13,h14,h15,C,E,F,G,H,J,pL,aM,Y]
  ·try simp only[hσ,h13,Pp,U2,C,E,F,G,H,J]
   refine xY h ?_;try simp only[h13,C,E,F,G,H,J,pL,aM,Y]
theorem B4o{a1 a0}{n:W}:Yx a1 a0 (K7 a1 a0 n):=by
 induction n with
 | zero=>intro _ r h; cases h
 | succ n ih=>
  intro v4 r h σ hσ;rw[K7] at h;refine Ai ?_;obtain⟨h5,h⟩|⟨h5,h⟩:=ic h
  ·obtain⟨x6,h6,h⟩:=ob h;try simp only[hσ,h5,h6,Le,C,E,F,G,H,J]
   refine Am ?_;obtain⟨r7,h7,h⟩:=ob h;try simp only[h5,h6,C,E,F,G,H,J]
   refine A4 (Y0 h7) ?_;obtain⟨h8,h⟩|⟨h8,h⟩:=ic h
   ·obtain⟨p9,h9,h⟩:=ob h;try simp only[h5,h6,h8,h9,C,E,F,G,H,J]
    refine B4n ih h ?_;try simp only[h5,h6,h8,h9,C,E,F,G,H,J,pL,aM,Y]
   ·try simp only[h5,h6,h8,C,E,F,G,H,J]
    cases h;exact t0
  ·try simp only[hσ,h5,Le,Pq,C,E,F,G,H,J]
   cases h;exact t0
theorem B2j{a0}{a1}{r}(h:Np a0 a1=N r):FC Z 57 [.ag (X7.row a0),.sc (.sl (I zD a1))] [.sc (.v (.bool r))]:=by
 unfold Np at h;refine A9 mixed Zq [4] 43 ?_;simp only[Zq,C,E,F,G,H,J];try simp only[C,E,F,G,H,J]
 refine A8 ?_;obtain⟨r1,h1,h⟩:=ob h;try simp only[C,E,F,G,H,J]
 refine A4 (jo h1) ?_;obtain⟨h2,h⟩|⟨h2,h⟩:=ic h
 ·obtain⟨h3,h⟩|⟨h3,h⟩:=ic h
  ·try simp only[h2,h3,C,E,F,G,H,J]
   cases h;exact t0
  ·try simp only[h2,h3,C,E,F,G,H,J]
   refine B4o h ?_;try simp only[h2,h3,C,E,F,G,H,J,pL,aM,Y]
 ·try simp only[h2,C,E,F,G,H,J]
  cases h;exact t0
/- 216:spec_l05Other -/
def Zr:X0:=(A1 [bo 2 0,A6 4 0] (A5 (A1 [mv 5 1] (.block 0 (A1 [fa 7 2 0,ld 8 7,bn 9 .eql 5 8,mv 6 9] (AL 6 (A2 [fa 10 2 1,ld 11 10,mv 4 11]) (A1 [fa 13 2 1,ld 14 13,bn 15 .eql 5 14,mv 12 15] (Aq 12 (A2 [fa 16 2 0,ld 17 16,mv 4 17]))))))) (A2 [A6 4 (-1)])))
theorem B3n{a0}{a1}{r}(h:Sr a0 a1=N r):FC Z 216 [.ag (X3.row a0),.sc (.int .i64 a1)] [.sc (.v (.int .i64 r))]:=by
 unfold Sr at h;refine A9 mixed Zr [4] 18 ?_;simp only[Zr,C,E,F,G,H,J];try simp only[C,E,F,G,H,J]
 refine A8 ?_;obtain⟨h1,h⟩|⟨h1,h⟩:=ic h
 ·try simp only[h1,C,E,F,G,H,J]
  cases h;exact t0
 ·obtain⟨h2,h⟩|⟨h2,h⟩:=ic h
  ·try simp only[h1,h2,C,E,F,G,H,J]
   cases h;exact t0
  ·try simp only[h1,h2,C,E,F,G,H,J]
   cases h;exact t0
/- 217:spec_l05Has -/
def Lf:X0:=A1 [Ae [1,7,8,9] [] []] (A1 [bn 10 .lss 9 8] (Av 10 0 1 (A1 [ia 11 7 9 1,ld 12 11,mv 6 12] (A1 [mv 13 6,mv 14 1,bn 15 .eql 13 14] (Aq 15 (A2 [A3 4 T])))) (Au 16 9)))
def U4:X0:=(A2 [A3 4 L])
def Zs:X0:=(A1 [A3 4 L] (A5 (A1 [mv 7 0,ln 8 7,A6 9 0] (Ah 0 Lf)) U4))
def oX:=fun a1 a0 (k_:U→Q V)=>∀{v1} {zr},k_ v1=N zr→Kp Z [1,7,8,9] [] [] ⟨[pI 1 a1,pL 7 rI a0,pI 8 (a0.length:U),pI 9 v1],[],[]⟩ (.code (.loop Lf):: [.blk 0,.code U4]) (Ag [4] [.sc (.v (.bool zr))])
theorem B4p{a1 a0}{n:W}:oX a1 a0 (IE a1 a0 n):=by
 induction n with
 | zero=>intro _ r h; cases h
 | succ n ih=>
  intro v1 r h σ hσ;rw[IE] at h;refine Ai ?_;obtain⟨h2,h⟩|⟨h2,h⟩:=ic h
  ·obtain⟨x3,h3,h⟩:=ob h;obtain⟨h4,h⟩|⟨h4,h⟩:=ic h
   ·try simp only[hσ,h2,h3,h4,Lf,C,E,F,G,H,J]
    cases h;exact t0
   ·try simp only[hσ,h2,h3,h4,Lf,C,E,F,G,H,J]
    refine ih h ?_;try simp only[h2,h3,h4,C,E,F,G,H,J,pL,aM,Y]
  ·try simp only[hσ,h2,Lf,U4,C,E,F,G,H,J]
   cases h;exact t0
theorem B3l{a0}{a1}{r}(h:NU a0 a1=N r):FC Z 217 [.sc (.sl (I rI a0)),.sc (.int .i64 a1)] [.sc (.v (.bool r))]:=by
 unfold NU at h;refine A9 mixed Zs [4] 17 ?_;simp only[Zs,C,E,F,G,H,J];try simp only[C,E,F,G,H,J]
 refine B4p h ?_;try simp only[C,E,F,G,H,J,pL,aM,Y]
/- 189:spec_l05Points -/
def Pr:X0:=A1 [Ae [3,8,11,14,15,16,45] [3] [832]] (Aq 45 (A2 [Ay 6,A3 7 L]))
def U5:X0:=(.reg [mv 46 8,mv 47 11,AD 48 1 [.int .i64 0] 1 [(0,(S 47))],Be 49 1 8 46 48,mv 8 49])
def U6:X0:=(Au 50 16)
def Lg:X0:=A1 [Ae [3,8,14,15,16] [3] [832]] (A1 [bn 17 .lss 16 15] (Av 17 0 1 (A1 [ia 18 14 16 1,ld 19 18,mv 10 19] (Aa [mv 20 10,fa 21 3 1,ld 22 21,ln 23 22,Ac 24 .sub 23 1,ca 25 118 [S 20,K 0,S 24],nt 26 25] 26 (A2 [Ay 6,A3 7 L]) (A5 (.drw [o0 (fa 27 3 1),o0 (ld 28 27),o0 (mv 29 10),o0 (ia 30 28 29 5),o0 (lw 31 30 5),o0 (mv 32 8),o0 (mv 33 8),o0 (ln 34 33),o0 (Ac 35 .sub 34 1),o0 (ia 36 32 35 1),o0 (ld 37 36),o0 (ca 38 216 [S 31,S 37]),o0 (mv 11 38)]) (A5 (A1 [mv 39 11,Ac 40 .lss 39 0,mv 41 40,Af 41 L 42 8,Af 41 L 43 11,Ak 41 L 44 217 [S 42,S 43],po 45 41 44] Pr) U5)))) U6))
def Ps:X0:=(A2 [mv 51 8,mv 6 51,A3 7 T])
def Zu:X0:=(A1 [bo 3 0,Ay 6,A3 7 L] (A1 [mv 12 1,AD 13 1 [.int .i64 0] 1 [(0,(S 12))],mv 8 13] (A5 (A1 [mv 14 2,ln 15 14,A6 16 0] (Ah 0 Lg)) Ps)))
def oY:=fun r9 a2 v1 (a0:X6) v2 (k_:V→Q ((P U) × V))=>∀{v12} {zr},k_ v12=N zr→Kp Z [3,8,11,14,15,16,45] [3] [832] ⟨[pB 3,pW 8 832,pI 11 r9,pL 14 rI a2,pI 15 (a2.length:U),pI 16 v1,(45,vc (aB v12))],[(3,[aM X9.row a0.Points,aM X3.row a0.Segments])],[(832,1,I rI v2)]⟩ (.code Pr:: [.code U5,.blk 1,.code U6,.code (.loop Lg),.blk 0,.code Ps]) (Ag [6,7] [.sc (.o 1 (I rI zr.1)),.sc (.v (.bool zr.2))])
def YC:=fun a2 (a0:X6) (k_:U→(P U)→Q ((P U) × V))=>∀{v1 v2} {zr},k_ v1 v2=N zr→Kp Z [3,8,14,15,16] [3] [832] ⟨[pB 3,pW 8 832,pL 14 rI a2,pI 15 (a2.length:U),pI 16 v1],[(3,[aM X9.row a0.Points,aM X3.row a0.Segments])],[(832,1,I rI v2)]⟩ (.code (.loop Lg):: [.blk 0,.code Ps]) (Ag [6,7] [.sc (.o 1 (I rI zr.1)),.sc (.v (.bool zr.2))])
theorem kg{r9 a2 v1 a0 v2}{SZ}(xc:YC a2 a0 SZ):oY r9 a2 v1 a0 v2 (IF r9 a2 v1 a0 v2 SZ):=by
 intro v12 r h σ hσ;unfold IF at h;obtain⟨h13,h⟩|⟨h13,h⟩:=ic h
 ·try simp only[hσ,h13,Pr,C,E,F,G,H,J]
  cases h;trivial
 ·try simp only[hσ,h13,Pr,U5,C,E,F,G,H,J]
  refine Ax (es:=I rI ([r9]:P U)) ?_;obtain⟨h14,h⟩:=AT h;try simp only[h13,h14,U6,C,E,F,G,H,J]
  refine xc h ?_;try simp only[h13,h14,C,E,F,G,H,J,pL,aM,Y]
theorem B4q{a2 a0}{n:W}:YC a2 a0 (Gf a2 a0 n):=by
 induction n with
 | zero=>intro _ _ r h; cases h
 | succ n ih=>
  intro v1 v2 r h σ hσ;rw[Gf] at h;refine Ai ?_;obtain⟨h3,h⟩|⟨h3,h⟩:=ic h
  ·obtain⟨x4,h4,h⟩:=ob h;obtain⟨r5,h5,h⟩:=ob h;try simp only[hσ,h3,h4,Lg,C,E,F,G,H,J]
   refine A4 (AU h5) ?_;obtain⟨h6,h⟩|⟨h6,h⟩:=ic h
   ·try simp only[h3,h4,h6,C,E,F,G,H,J]
    refine An ?_;obtain⟨x7,h7,h⟩:=ob h;obtain⟨x8,h8,h⟩:=ob h;have h8n:=AH h8;obtain⟨r9,h9,h⟩:=ob h;try simp only[h3,h4,h6,h7,h8,h8n,C,E,F,G,H,J]
    refine AF (B3n h9) ?_;obtain⟨h10,h⟩|⟨h10,h⟩:=ic h
    ·try simp only[h3,h4,h6,h7,h8,h8n,h10,C,E,F,G,H,J]
     refine kg ih h ?_;try simp only[h3,h4,h6,h7,h8,h8n,h10,C,E,F,G,H,J,pL,aM,Y]
    ·obtain⟨r11,h11,h⟩:=ob h;try simp only[h3,h4,h6,h7,h8,h8n,h10,C,E,F,G,H,J]
     refine B7 (B3l h11) X (BD X) X (uf X) ?_;try simp only[h3,h4,h6,h7,h8,h8n,h10,C,E,F,G,H,J]
     refine kg ih h ?_;try simp only[h3,h4,h6,h7,h8,h8n,h10,C,E,F,G,H,J,pL,aM,Y]
   ·try simp only[h3,h4,h6,C,E,F,G,H,J]
    cases h;trivial
  ·try simp only[hσ,h3,Lg,Ps,C,E,F,G,H,J]
   cases h;trivial
theorem jy{a0}{a1}{a2}{r}(h:Kr a0 a1 a2=N r):FC Z 189 [.ag (X6.row a0),.sc (.int .i64 a1),.sc (.sl (I rI a2))] [.sc (.o 1 (I rI r.1)),.sc (.v (.bool r.2))]:=by
 unfold Kr at h;refine A9 mixed Zu [6,7] 52 ?_;simp only[Zu,C,E,F,G,H,J];try simp only[C,E,F,G,H,J]
 refine A8 ?_;try simp only[C,E,F,G,H,J]
 refine Ax (es:=I rI ([a1]:P U)) ?_;try simp only[C,E,F,G,H,J]
 refine B4q h ?_;try simp only[C,E,F,G,H,J,pL,aM,Y]
/- 156:spec_RouteOk -/
def Zv:X0:=(A1 [bo 3 0,A3 6 L] (Aa [lw 9 3 2,ca 10 114 [S 9],nt 11 10,mv 12 11,Af 12 L 13 1,Ab 12 L 14 3 0,Ad 12 L 15 14,B1 12 L 16 15,AP 12 L 17 .sub 16 1,Ak 12 L 18 118 [S 13,K 0,S 17],AN 12 L 19 18,po 20 12 19] 20 (A2 [A3 6 L]) (A1 [lw 22 3 2,mv 23 1,mv 24 2,ca 25 189 [S 22,S 23,S 24],mv 21 25,xt 26 21 0,xt 27 21 1,mv 7 26,mv 8 27] (A2 [mv 28 8,mv 6 28]))))
theorem Y4{a0}{a1}{a2}{r}(h:Gc a0 a1 a2=N r):FC Z 156 [.ag (X6.row a0),.sc (.int .i64 a1),.sc (.sl (I rI a2))] [.sc (.v (.bool r))]:=by
 unfold Gc at h;refine A9 mixed Zv [6] 29 ?_;simp only[Zv,C,E,F,G,H,J];try simp only[C,E,F,G,H,J]
 refine A8 ?_;obtain⟨r1,h1,h⟩:=ob h;try simp only[C,E,F,G,H,J]
 refine A4 (GN h1) ?_;obtain⟨h2,h⟩|⟨h2,h⟩:=ic h
 ·obtain⟨r3,h3,h⟩:=ob h;try simp only[h2,C,E,F,G,H,J]
  refine A4 (AU h3) ?_;obtain⟨h4,h⟩|⟨h4,h⟩:=ic h
  ·obtain⟨r5,h5,h⟩:=ob h;try simp only[h2,h4,C,E,F,G,H,J]
   refine A4 (jy h5) ?_;try simp only[h2,h4,C,E,F,G,H,J]
   cases h;exact t0
  ·try simp only[h2,h4,C,E,F,G,H,J]
   cases h;exact t0
 ·try simp only[h2,C,E,F,G,H,J]
  cases h;exact t0
/- 155:spec_RoutePoints -/
def Zw:X0:=(A1 [bo 3 0,Ay 6] (Aa [lw 9 3 2,mv 10 1,mv 11 2,ca 12 156 [S 9,S 10,S 11],nt 13 12] 13 (A2 [Ay 6]) (A1 [lw 15 3 2,mv 16 1,mv 17 2,ca 18 189 [S 15,S 16,S 17],mv 14 18,xt 19 14 0,xt 20 14 1,mv 7 19,mv 8 20] (A2 [mv 21 7,mv 6 21]))))
theorem Y5{a0}{a1}{a2}{r}(h:Gd a0 a1 a2=N r):FC Z 155 [.ag (X6.row a0),.sc (.int .i64 a1),.sc (.sl (I rI a2))] [.sc (.o 1 (I rI r))]:=by
 unfold Gd at h;refine A9 mixed Zw [6] 22 ?_;simp only[Zw,C,E,F,G,H,J];try simp only[C,E,F,G,H,J]
 refine A8 ?_;obtain⟨r1,h1,h⟩:=ob h;try simp only[C,E,F,G,H,J]
 refine A4 (Y4 h1) ?_;obtain⟨h2,h⟩|⟨h2,h⟩:=ic h
 ·obtain⟨r3,h3,h⟩:=ob h;try simp only[h2,C,E,F,G,H,J]
  refine A4 (jy h3) ?_;try simp only[h2,C,E,F,G,H,J]
  cases h;exact t0
 ·try simp only[h2,C,E,F,G,H,J]
  cases h;exact t0
/- 119:spec_l15Leads -/
def Zx:X0:=(A1 [bo 3 0,bo 4 1,A3 6 L] (A1 [fa 8 3 3,lw 9 8 2,fa 10 4 1,ld 11 10,mv 12 2,ca 13 155 [S 9,S 11,S 12],mv 7 13] (A5 (.drw [o0 (mv 14 7),o0 (ln 15 14),o0 (Ac 16 .gtr 15 1),o0 (mv 17 16),o0 (Af 17 T 18 7),o0 (Af 17 T 19 7),o0 (B1 17 T 20 19),o0 (AP 17 T 21 .sub 20 1),o0 (CC 17 T 22 18 21 1),o0 (Ad 17 T 23 22),o0 (Ab 17 T 24 4 2),o0 (Ad 17 T 25 24),o0 (AK 17 T 26 .eql 23 25),o0 (pa 27 17 26),o0 (mv 6 27)]) .ret)))
theorem B3w{a0}{a1}{a2}{r}(h:Sx a0 a1 a2=N r):FC Z 119 [.ag (X7.row a0),.ag (zD a1),.sc (.sl (I rI a2))] [.sc (.v (.bool r))]:=by
 unfold Sx at h;refine A9 mixed Zx [6] 28 ?_;simp only[Zx,C,E,F,G,H,J];try simp only[C,E,F,G,H,J]
 refine A8 ?_;try simp only[C,E,F,G,H,J]
 refine A8 ?_;obtain⟨r1,h1,h⟩:=ob h;try simp only[C,E,F,G,H,J]
 refine A4 (Y5 h1) ?_;try simp only[C,E,F,G,H,J]
 refine An ?_;obtain⟨h2,h⟩|⟨h2,h⟩:=ic h
 ·obtain⟨x3,h3,h⟩:=ob h;have h3n:=AH h3;try simp only[h2,h3,h3n,C,E,F,G,H,J]
  cases h;exact t0
 ·try simp only[h2,C,E,F,G,H,J]
  cases h;exact t0
/- 238:spec_l07Ok -/
def Zy:X0:=(A1 [bo 3 0,bo 5 2,A3 6 L] (A2 [lw 7 3 2,ca 8 114 [S 7],mv 9 8,AQ 9 T 10 5 6,Ak 9 T 11 152 [S 10],pa 12 9 11,mv 13 12,Af 13 T 14 1,Ab 13 T 15 3 1,Ad 13 T 16 15,B1 13 T 17 16,AP 13 T 18 .sub 17 1,Ak 13 T 19 118 [S 14,K 0,S 18],pa 20 13 19,mv 6 20]))
theorem jz{a0}{a1}{a2}{r}(h:IG a0 a1 a2=N r):FC Z 238 [.ag (X6.row a0),.sc (.int .i64 a1),.ag (X5.row a2)] [.sc (.v (.bool r))]:=by
 unfold IG at h;refine A9 mixed Zy [6] 21 ?_;simp only[Zy,C,E,F,G,H,J];try simp only[C,E,F,G,H,J]
 refine A8 ?_;try simp only[C,E,F,G,H,J]
 refine A8 ?_;obtain⟨r1,h1,h⟩:=ob h;try simp only[C,E,F,G,H,J]
 refine A4 (GN h1) ?_;obtain⟨h2,h⟩|⟨h2,h⟩:=ic h
 ·obtain⟨r3,h3,h⟩:=ob h;try simp only[h2,C,E,F,G,H,J]
  refine A4 (GO h3) ?_;obtain⟨h4,h⟩|⟨h4,h⟩:=ic h
  ·obtain⟨r5,h5,h⟩:=ob h;try simp only[h2,h4,C,E,F,G,H,J]
   refine A4 (AU h5) ?_;try simp only[h2,h4,C,E,F,G,H,J]
   cases h;exact t0
  ·try simp only[h2,h4,C,E,F,G,H,J]
   cases h;exact t0
 ·try simp only[h2,C,E,F,G,H,J]
  cases h;exact t0
/- 264:spec_SquatOf -/
def Zz:X0:=(A1 [bo 1 0,A6 2 0] (Aa [lw 3 1 6,ca 4 152 [S 3],nt 5 4] 5 (A2 [A6 2 0]) (Aa [fa 6 1 5,ld 7 6] 7 (A2 [fa 8 1 2,ld 9 8,Ac 10 .quo 9 50,mv 2 10]) (A2 [fa 11 1 2,ld 12 11,Ac 13 .quo 12 20,mv 2 13]))))
theorem B3b{a0}{r}(h:Sq a0=N r):FC Z 264 [.ag (X5.row a0)] [.sc (.v (.int .i64 r))]:=by
 unfold Sq at h;refine A9 mixed Zz [2] 14 ?_;simp only[Zz,C,E,F,G,H,J];try simp only[C,E,F,G,H,J]
 refine A8 ?_;obtain⟨r1,h1,h⟩:=ob h;try simp only[C,E,F,G,H,J]
 refine A4 (GO h1) ?_;obtain⟨h2,h⟩|⟨h2,h⟩:=ic h
 ·obtain⟨h3,h⟩|⟨h3,h⟩:=ic h
  ·try simp only[h2,h3,C,E,F,G,H,J]
   cases h;exact t0
  ·try simp only[h2,h3,C,E,F,G,H,J]
   cases h;exact t0
 ·try simp only[h2,C,E,F,G,H,J]
  cases h;exact t0
/- 257:spec_NeedOf -/
def ZA:X0:=(A1 [bo 1 0,A6 2 0] (Aa [lw 3 1 6,ca 4 152 [S 3],nt 5 4] 5 (A2 [A6 2 0]) (A5 (.drw [(N [9],fa 6 1 2),(N [9],ld 7 6),o0 (lw 8 1 6),o0 (ca 9 264 [S 8]),o0 (bn 10 .add 7 9),o0 (Ac 11 .add 10 50),o0 (mv 2 11)]) .ret)))
theorem B2x{a0}{r}(h:So a0=N r):FC Z 257 [.ag (X5.row a0)] [.sc (.v (.int .i64 r))]:=by
 unfold So at h;refine A9 mixed ZA [2] 12 ?_;simp only[ZA,C,E,F,G,H,J];try simp only[C,E,F,G,H,J]
 refine A8 ?_;obtain⟨r1,h1,h⟩:=ob h;try simp only[C,E,F,G,H,J]
 refine A4 (GO h1) ?_;obtain⟨h2,h⟩|⟨h2,h⟩:=ic h
 ·try simp only[h2,C,E,F,G,H,J]
  refine An ?_;obtain⟨r3,h3,h⟩:=ob h;try simp only[h2,C,E,F,G,H,J]
  refine AF (B3b h3) ?_;try simp only[h2,C,E,F,G,H,J]
  cases h;exact t0
 ·try simp only[h2,C,E,F,G,H,J]
  cases h;exact t0
/- 241:spec_LevelFor -/
def ZB:X0:=(A1 [bo 3 0,bo 5 2,A6 6 0] (Aa [lw 7 3 2,mv 8 1,lw 9 5 6,ca 10 238 [S 7,S 8,S 9],nt 11 10] 11 (A2 [A6 6 0]) (A5 (.drw [o0 (lw 12 5 6),o0 (ca 13 257 [S 12]),(N [13],fa 14 3 1),(N [13],ld 15 14),(N [13],mv 16 1),(N [13],ia 17 15 16 5),(N [13],fa 18 17 2),(N [13],ld 19 18),o0 (bn 20 .sub 13 19),o0 (mv 6 20)]) .ret)))
theorem B2w{a0}{a1}{a2}{r}(h:NA a0 a1 a2=N r):FC Z 241 [.ag (X6.row a0),.sc (.int .i64 a1),.ag (X5.row a2)] [.sc (.v (.int .i64 r))]:=by
 unfold NA at h;refine A9 mixed ZB [6] 21 ?_;simp only[ZB,C,E,F,G,H,J];try simp only[C,E,F,G,H,J]
 refine A8 ?_;try simp only[C,E,F,G,H,J]
 refine A8 ?_;obtain⟨r1,h1,h⟩:=ob h;try simp only[C,E,F,G,H,J]
 refine A4 (jz h1) ?_;obtain⟨h2,h⟩|⟨h2,h⟩:=ic h
 ·try simp only[h2,C,E,F,G,H,J]
  refine An ?_;obtain⟨r3,h3,h⟩:=ob h;try simp only[h2,C,E,F,G,H,J]
  refine AF (B2x h3) ?_;obtain⟨x4,h4,h⟩:=ob h;try simp only[h2,h4,C,E,F,G,H,J]
  cases h;exact t0
 ·try simp only[h2,C,E,F,G,H,J]
  cases h;exact t0
/- 254:spec_l03Surge -/
def Pt:X0:=A1 [Ae [1,4,5,13,14,15] [4,5] []] (A1 [bn 16 .lss 15 14] (Av 16 0 1 (A1 [ia 17 13 15 3,lw 18 17 3,Al 7 [aI 0,aI 0,aI 0],so 7 18 3] (A1 [fa 19 7 0,ld 20 19,mv 21 1,bn 22 .leq 20 21] (Aq 22 (.reg [lw 23 7 3,so 5 23 3])))) (Au 24 15)))
def U7:X0:=(A2 [lw 25 5 3,so 4 25 3])
def ZC:X0:=(A1 [bo 2 0,Al 4 [aI 0,aI 0,aI 0]] (A1 [fa 8 2 2,ld 9 8,(O,.iaddr 10 (S 9) (K 0) 3),lw 11 10 3,Al 5 [aI 0,aI 0,aI 0],so 5 11 3] (A5 (A1 [fa 12 2 2,ld 13 12,ln 14 13,A6 15 0] (Ah 0 Pt)) U7)))
def oU:=fun a1 (a0:Xc) (k_:U→U→U→U→Q Xb)=>∀{v2 v3 v4 v5} {zr},k_ v2 v3 v4 v5=N zr→Kp Z [1,4,5,13,14,15] [4,5] [] ⟨[pI 1 a1,pB 4,pB 5,pL 13 zB a0.Surges,pI 14 (a0.Surges.length:U),pI 15 v2],[(4,[aI (0:U),aI (0:U),aI (0:U)]),(5,[aI v3,aI v4,aI v5])],[]⟩ (.code (.loop Pt):: [.blk 0,.code U7]) (Ag [.c 4 T 3] [.ag [.v (.int .i64 zr.From),.v (.int .i64 zr.Low),.v (.int .i64 zr.High)]])
theorem B4s{a1 a0}{n:W}:oU a1 a0 (Fc a1 a0 n):=by
 induction n with
 | zero=>intro _ _ _ _ r h; cases h
 | succ n ih=>
  intro v2 v3 v4 v5 r h σ hσ;rw[Fc] at h;refine Ai ?_;obtain⟨h6,h⟩|⟨h6,h⟩:=ic h
  ·obtain⟨x7,h7,h⟩:=ob h;try simp only[hσ,h6,h7,Pt,C,E,F,G,H,J]
   refine Am ?_;obtain⟨h8,h⟩|⟨h8,h⟩:=ic h
   ·try simp only[h6,h7,h8,C,E,F,G,H,J]
    refine ih h ?_;try simp only[h6,h7,h8,C,E,F,G,H,J,pL,aM,Y]
   ·try simp only[h6,h7,h8,C,E,F,G,H,J]
    refine ih h ?_;try simp only[h6,h7,h8,C,E,F,G,H,J,pL,aM,Y]
  ·try simp only[hσ,h6,Pt,U7,C,E,F,G,H,J]
   cases h;try simp only[Bh,C,E,F,G,H,J]
   trivial
theorem B3i{a0}{a1}{r}(h:IC a0 a1=N r):FC Z 254 [.ag (zF a0),.sc (.int .i64 a1)] [.ag [.v (.int .i64 r.From),.v (.int .i64 r.Low),.v (.int .i64 r.High)]]:=by
 unfold IC at h;refine A9 mixed ZC [.c 4 T 3] 26 ?_;simp only[ZC,C,E,F,G,H,J];try simp only[C,E,F,G,H,J]
 refine A8 ?_;try simp only[C,E,F,G,H,J]
 refine Am ?_;obtain⟨x1,h1,h⟩:=ob h;try simp only[h1,C,E,F,G,H,J]
 refine Am ?_;try simp only[h1,C,E,F,G,H,J]
 refine B4s h ?_;try simp only[h1,C,E,F,G,H,J,pL,aM,Y]
/- 263:spec_Wave -/
def Pu:X0:=A1 [Ae [1,5] [] []] (A1 [mv 26 1,Ac 27 .quo 26 2,mv 6 27] (Aa [mv 28 5,mv 29 6,bn 30 .lss 28 29] 30 (A2 [mv 31 5,(O,.bin 32 .mul (K 40000) (S 31)),mv 33 6,mv 34 5,bn 35 .sub 33 34,bn 36 .mul 32 35,mv 37 6,mv 38 6,bn 39 .mul 37 38,bn 40 .quo 36 39,mv 4 40]) (A1 [mv 41 5,mv 42 6,bn 43 .sub 41 42,mv 5 43] (A2 [mv 44 5,(O,.bin 45 .mul (K 40000) (S 44)),mv 46 6,mv 47 5,bn 48 .sub 46 47,bn 49 .mul 45 48,mv 50 6,mv 51 6,bn 52 .mul 50 51,bn 53 .quo 49 52,(O,.un 54 .neg (S 53)),mv 4 54]))))
def ZE:X0:=(A1 [A6 4 0] (Aa [mv 7 1,Ac 8 .lss 7 4,mv 9 8,Af 9 L 10 1,AP 9 L 11 .gtr 10 2880,po 12 9 11,mv 13 12,Af 13 L 14 1,AP 13 L 15 .rem 14 4,AP 13 L 16 .neq 15 0,po 17 13 16] 17 (A2 [A6 4 0]) (A1 [mv 18 0,mv 19 1,bn 20 .rem 18 19,mv 5 20] (Aa [mv 21 5,Ac 22 .lss 21 0] 22 (.reg [mv 23 5,mv 24 1,bn 25 .add 23 24,mv 5 25]) Pu))))
def oR:=fun a1 (k_:U→Q U)=>∀{v6} {zr},k_ v6=N zr→Kp Z [1,5] [] [] ⟨[pI 1 a1,pI 5 v6],[],[]⟩ (.code Pu:: []) (Ag [4] [.sc (.v (.int .i64 zr))])
theorem kh{a1}:oR a1 (NQ a1):=by
 intro v6 r h σ hσ;unfold NQ at h;obtain⟨h7,h⟩|⟨h7,h⟩:=ic h
 ·obtain⟨h8,h⟩:=Dj h;try simp only[hσ,h7,h8,Pu,C,E,F,G,H,J]
  cases h;exact t0
 ·obtain⟨h9,h⟩:=Dj h;try simp only[hσ,h7,h9,Pu,C,E,F,G,H,J]
  cases h;exact t0
theorem B3g{a0}{a1}{r}(h:NP a0 a1=N r):FC Z 263 [.sc (.int .i64 a0),.sc (.int .i64 a1)] [.sc (.v (.int .i64 r))]:=by
 unfold NP at h;refine A9 mixed ZE [4] 55 ?_;simp only[ZE,C,E,F,G,H,J];obtain⟨h1,h⟩|⟨h1,h⟩:=ic h
 ·try simp only[h1,C,E,F,G,H,J]
  cases h;exact t0
 ·obtain⟨h2,h⟩|⟨h2,h⟩:=ic h
  ·try simp only[h1,h2,C,E,F,G,H,J]
   cases h;exact t0
  ·obtain⟨h3,h⟩|⟨h3,h⟩:=ic h
   ·try simp only[h1,h2,h3,C,E,F,G,H,J]
    cases h;exact t0
   ·obtain⟨h4,h⟩:=Dj h;obtain⟨h5,h⟩|⟨h5,h⟩:=ic h
    ·try simp only[h1,h2,h3,h4,h5,C,E,F,G,H,J]
     refine kh h ?_;try simp only[h1,h2,h3,h4,h5,C,E,F,G,H,J,pL,aM,Y]
    ·try simp only[h1,h2,h3,h4,h5,C,E,F,G,H,J]
     refine kh h ?_;try simp only[h1,h2,h3,h4,h5,C,E,F,G,H,J,pL,aM,Y]
/- 255:spec_l02Level -/
def Pv:X0:=A1 [Ae [1,5,11,12,13] [] []] (A1 [bn 14 .lss 13 12] (Av 14 0 1 (A1 [ia 15 11 13 3,lw 16 15 3,Al 7 [aI 0,aI 0,aI 0],so 7 16 3] (.drw [(N [26],mv 17 5),(N [26],fa 18 7 0),(N [26],ld 19 18),o0 (mv 20 1),o0 (fa 21 7 2),o0 (ld 22 21),o0 (bn 23 .add 20 22),o0 (fa 24 7 1),o0 (ld 25 24),o0 (ca 26 263 [S 23,S 25]),o0 (bn 27 .mul 19 26),o0 (Ac 28 .quo 27 10000),o0 (bn 29 .add 17 28),o0 (mv 5 29)])) (Au 30 13)))
def U8:X0:=(A2 [mv 31 5,mv 4 31])
def ZF:X0:=(A1 [bo 2 0,A6 4 0] (A1 [fa 8 2 0,ld 9 8,mv 5 9] (A5 (A1 [fa 10 2 1,ld 11 10,ln 12 11,A6 13 0] (Ah 0 Pv)) U8)))
def oT:=fun a1 (a0:Xi) (k_:U→U→Q U)=>∀{v1 v2} {zr},k_ v1 v2=N zr→Kp Z [1,5,11,12,13] [] [] ⟨[pI 1 a1,pI 5 v1,pL 11 zA a0.Parts,pI 12 (a0.Parts.length:U),pI 13 v2],[],[]⟩ (.code (.loop Pv):: [.blk 0,.code U8]) (Ag [4] [.sc (.v (.int .i64 zr))])
theorem B4t{a1 a0}{n:W}:oT a1 a0 (IB a1 a0 n):=by
 induction n with
 | zero=>intro _ _ r h; cases h
 | succ n ih=>
  intro v1 v2 r h σ hσ;rw[IB] at h;refine Ai ?_;obtain⟨h3,h⟩|⟨h3,h⟩:=ic h
  ·obtain⟨x4,h4,h⟩:=ob h;try simp only[hσ,h3,h4,Pv,C,E,F,G,H,J]
   refine Am ?_;try simp only[h3,h4,C,E,F,G,H,J]
   refine An ?_;obtain⟨r5,h5,h⟩:=ob h;try simp only[h3,h4,C,E,F,G,H,J]
   refine AF (B3g h5) ?_;try simp only[h3,h4,C,E,F,G,H,J]
   refine ih h ?_;try simp only[h3,h4,C,E,F,G,H,J,pL,aM,Y]
  ·try simp only[hσ,h3,Pv,U8,C,E,F,G,H,J]
   cases h;exact t0
theorem B3h{a0}{a1}{r}(h:Kq a0 a1=N r):FC Z 255 [.ag (Xi.row a0),.sc (.int .i64 a1)] [.sc (.v (.int .i64 r))]:=by
 unfold Kq at h;refine A9 mixed ZF [4] 32 ?_;simp only[ZF,C,E,F,G,H,J];try simp only[C,E,F,G,H,J]
 refine A8 ?_;try simp only[C,E,F,G,H,J]
 refine B4t h ?_;try simp only[C,E,F,G,H,J,pL,aM,Y]
/- 256:spec_l04Of -/
def Pw:X0:=A1 [Ae [3,4,7,8,9,30] [] [384]] (AL 30 (.reg [mv 31 3,mv 32 3,ln 33 32,Ac 34 .sub 33 1,mv 35 4,ia 36 31 34 2,fa 37 36 1,so 37 35 1]) (.reg [mv 38 3,mv 39 4,mv 40 4,BH 41 [aI 0,aI 0] [(0,1,(S 39)),(1,1,(S 40))],AD 42 2 [.int .i64 0,.int .i64 0] 1 [(0,(S 41))],Be 43 2 16 38 42,mv 3 43]))
def Li:X0:=(Au 44 9)
def GW:X0:=A1 [Ae [3,7,8,9] [] [384]] (A1 [bn 10 .lss 9 8] (Av 10 0 1 (A1 [mv 11 9,ia 12 7 9 1,ld 13 12,mv 4 11,mv 5 13] (Aa [mv 14 5,nt 15 14] 15 (.exit 1) (A1 [mv 16 3,ln 17 16,Ac 18 .gtr 17 0,mv 19 18,Af 19 T 20 3,Af 19 T 21 3,B1 19 T 22 21,AP 19 T 23 .sub 22 1,CC 19 T 24 20 23 2,Ab 19 T 25 24 1,Ad 19 T 26 25,Af 19 T 27 4,AP 19 T 28 .sub 27 1,AK 19 T 29 .eql 26 28,pa 30 19 29] Pw))) Li))
def Px:X0:=(A2 [mv 45 3,mv 2 45])
def ZH:X0:=(A1 [Ay 2] (A1 [AD 6 2 [.int .i64 0,.int .i64 0] 0 [],mv 3 6] (A5 (A1 [mv 7 0,ln 8 7,A6 9 0] (Ah 0 GW)) Px)))
def oW:=fun v1 a0 v2 (k_:V→Q (P X4))=>∀{v8} {zr},k_ v8=N zr→Kp Z [3,4,7,8,9,30] [] [384] ⟨[pW 3 384,pI 4 v1,pL 7 rB a0,pI 8 (a0.length:U),pI 9 v1,(30,vc (aB v8))],[],[(384,2,I X4.row v2)]⟩ (.code Pw:: [.blk 1,.code Li,.code (.loop GW),.blk 0,.code Px]) (Ag [2] [.sc (.o 2 (I X4.row zr))])
def YB:=fun a0 (k_:U→(P X4)→Q (P X4))=>∀{v1 v2} {zr},k_ v1 v2=N zr→Kp Z [3,7,8,9] [] [384] ⟨[pW 3 384,pL 7 rB a0,pI 8 (a0.length:U),pI 9 v1],[],[(384,2,I X4.row v2)]⟩ (.code (.loop GW):: [.blk 0,.code Px]) (Ag [2] [.sc (.o 2 (I X4.row zr))])
theorem ki{v1 a0 v2}{Oi}(fJ:YB a0 Oi):oW v1 a0 v2 (ID v1 a0 v2 Oi):=by
 intro v8 r h σ hσ;unfold ID at h;obtain⟨h9,h⟩|⟨h9,h⟩:=ic h
 ·obtain⟨x10,h10,h⟩:=ob h;have h10n:=AH h10;try simp only[hσ,h9,h10,Pw,C,E,F,G,H,J]
  refine AZ (row:=X4.row) (y:=(⟨x10.From,v1⟩:X4)) X X h10n X X (by rfl) ?_;try simp only[h9,h10,Li,C,E,F,G,H,J]
  refine fJ h ?_;try simp only[h9,h10,C,E,F,G,H,J,pL,aM,Y]
 ·try simp only[hσ,h9,Pw,C,E,F,G,H,J]
  refine Ax (es:=I X4.row ([(⟨v1,v1⟩:X4)]:P X4)) ?_;obtain⟨h11,h⟩:=AT h;try simp only[h9,h11,Li,C,E,F,G,H,J]
  refine fJ h ?_;try simp only[h9,h11,C,E,F,G,H,J,pL,aM,Y]
theorem B4u{a0}{n:W}:YB a0 (Ei a0 n):=by
 induction n with
 | zero=>intro _ _ r h; cases h
 | succ n ih=>
  intro v1 v2 r h σ hσ;rw[Ei] at h;refine Ai ?_;obtain⟨h3,h⟩|⟨h3,h⟩:=ic h
  ·obtain⟨x4,h4,h⟩:=ob h;obtain⟨h5,h⟩|⟨h5,h⟩:=ic h
   ·obtain⟨h6,h⟩|⟨h6,h⟩:=ic h
    ·obtain⟨x7,h7,h⟩:=ob h;have h7n:=AH h7;try simp only[hσ,h3,h4,h5,h6,h7,h7n,GW,C,E,F,G,H,J]
     refine ki ih h ?_;try simp only[h3,h4,h5,h6,h7,h7n,C,E,F,G,H,J,pL,aM,Y]
    ·try simp only[hσ,h3,h4,h5,h6,GW,C,E,F,G,H,J]
     refine ki ih h ?_;try simp only[h3,h4,h5,h6,C,E,F,G,H,J,pL,aM,Y]
   ·try simp only[hσ,h3,h4,h5,GW,Li,C,E,F,G,H,J]
    refine ih h ?_;try simp only[h3,h4,h5,C,E,F,G,H,J,pL,aM,Y]
  ·try simp only[hσ,h3,GW,Px,C,E,F,G,H,J]
   cases h;exact t0
theorem B3k{a0}{r}(h:NT a0=N r):FC Z 256 [.sc (.sl (I rB a0))] [.sc (.o 2 (I X4.row r))]:=by
 unfold NT at h;refine A9 mixed ZH [2] 46 ?_;simp only[ZH,C,E,F,G,H,J];try simp only[C,E,F,G,H,J]
 refine Ax (es:=I X4.row ([]:P X4)) ?_;try simp only[C,E,F,G,H,J]
 refine B4u h ?_;try simp only[C,E,F,G,H,J,pL,aM,Y]
/- 240:spec_l04Levels -/
def U9:X0:=A1 [Ae [1,2,3,7,8,10] [3] [704]] (.reg [mv 24 7,fa 25 3 0,lw 26 25 2,mv 27 8,ca 28 255 [S 26,S 27],mv 29 10,bn 30 .add 28 29,mv 31 1,bn 32 .geq 30 31,AD 33 1 [.bool L] 1 [(0,(S 32))],Be 34 1 1 24 33,mv 7 34])
def Ua:X0:=(.reg [mv 14 8,Ac 15 .add 14 1,mv 8 15])
def Lj:X0:=A1 [Ae [1,2,3,7,8] [3] [704]] (A5 (A1 [mv 12 8,Ac 13 .leq 12 2880] (AL 13 .skip (.exit 0))) (A5 (.block 1 (A1 [lw 16 3 3,mv 17 8,ca 18 254 [S 16,S 17],Al 9 [aI 0,aI 0,aI 0],so 9 18 3] (A1 [fa 19 9 1,ld 20 19,mv 10 20] (Aa [mv 21 2] 21 (.reg [fa 22 9 2,ld 23 22,mv 10 23]) U9)))) Ua))
def Py:X0:=(A2 [mv 35 7,ca 36 256 [S 35],mv 6 36])
def ZI:X0:=(A1 [bo 3 0,Ay 6] (A1 [AD 11 1 [.bool L] 0 [],mv 7 11] (A5 (A1 [A6 8 0] (Ah 0 Lj)) Py)))
def oV:=fun a1 v2 (a0:Xc) v3 (k_:V→U→Q (P X4))=>∀{v7 v8} {zr},k_ v7 v8=N zr→Kp Z [1,2,3,7,8,10] [3] [704] ⟨[pI 1 a1,(2,vc (aB v7)),pB 3,pW 7 704,pI 8 v2,pI 10 v8],[(3,[aI a0.Tide.Mean,aM zA a0.Tide.Parts,aM zB a0.Surges])],[(704,1,I rB v3)]⟩ (.code U9:: [.blk 1,.code Ua,.code (.loop Lj),.blk 0,.code Py]) (Ag [6] [.sc (.o 2 (I X4.row zr))])
def YA:=fun a1 (a0:Xc) (k_:V→U→(P V)→Q (P X4))=>∀{v1 v2 v3} {zr},k_ v1 v2 v3=N zr→Kp Z [1,2,3,7,8] [3] [704] ⟨[pI 1 a1,(2,vc (aB v1)),pB 3,pW 7 704,pI 8 v2],[(3,[aI a0.Tide.Mean,aM zA a0.Tide.Parts,aM zB a0.Surges])],[(704,1,I rB v3)]⟩ (.code (.loop Lj):: [.blk 0,.code Py]) (Ag [6] [.sc (.o 2 (I X4.row zr))])
theorem kj{a1 v2 a0 v3}{SY}(xb:YA a1 a0 SY):oV a1 v2 a0 v3 (NS a1 v2 a0 v3 SY):=by
 intro v7 v8 r h σ hσ;unfold NS at h;obtain⟨r9,h9,h⟩:=ob h;try simp only[hσ,U9,C,E,F,G,H,J]
 refine A4 (B3h h9) ?_;try simp only[C,E,F,G,H,J]
 refine Ax (es:=I rB ([(decide (a1≤(IntKind.i64.wrap (r9+v8))))]:P V)) ?_;obtain⟨h10,h⟩:=AT h;try simp only[h10,Ua,C,E,F,G,H,J]
 refine xb h ?_;try simp only[h10,C,E,F,G,H,J,pL,aM,Y]
theorem B4v{a1 a0}{n:W}:YA a1 a0 (Ge a1 a0 n):=by
 induction n with
 | zero=>intro _ _ _ r h; cases h
 | succ n ih=>
  intro v1 v2 v3 r h σ hσ;rw[Ge] at h;refine Ai ?_;obtain⟨h4,h⟩|⟨h4,h⟩:=ic h
  ·obtain⟨r5,h5,h⟩:=ob h;try simp only[hσ,h4,Lj,C,E,F,G,H,J]
   refine A4 (B3i h5) ?_;try simp only[h4,C,E,F,G,H,J]
   refine Am ?_;obtain⟨h6,h⟩|⟨h6,h⟩:=ic h
   ·try simp only[h4,h6,C,E,F,G,H,J]
    refine kj ih h ?_;try simp only[h4,h6,C,E,F,G,H,J,pL,aM,Y]
   ·try simp only[h4,h6,C,E,F,G,H,J]
    refine kj ih h ?_;try simp only[h4,h6,C,E,F,G,H,J,pL,aM,Y]
  ·obtain⟨r11,h11,h⟩:=ob h;try simp only[hσ,h4,Lj,Py,C,E,F,G,H,J]
   refine B7 (B3k h11) X (BO X ⟨B3,⟨⟩⟩) X (uf X) ?_;try simp only[h4,C,E,F,G,H,J]
   cases h;exact t0
theorem B3j{a0}{a1}{a2}{r}(h:NR a0 a1 a2=N r):FC Z 240 [.ag (zF a0),.sc (.int .i64 a1),.sc (.bool a2)] [.sc (.o 2 (I X4.row r))]:=by
 unfold NR at h;refine A9 mixed ZI [6] 37 ?_;simp only[ZI,C,E,F,G,H,J];try simp only[C,E,F,G,H,J]
 refine A8 ?_;try simp only[C,E,F,G,H,J]
 refine Ax (es:=I rB ([]:P V)) ?_;try simp only[C,E,F,G,H,J]
 refine B4v h ?_;try simp only[C,E,F,G,H,J,pL,aM,Y]
/- 161:spec_l06Minutes -/
def ZK:X0:=(A1 [bo 2 0,bo 3 1,A6 4 0] (Aa [fa 5 3 5,ld 6 5] 6 (A2 [fa 7 2 3,ld 8 7,(O,.bin 9 .mul (K 2) (S 8)),mv 4 9]) (A2 [fa 10 2 3,ld 11 10,mv 4 11])))
theorem OS{a0}{a1}{r}(h:Fe a0 a1=N r):FC Z 161 [.ag (X3.row a0),.ag (X5.row a1)] [.sc (.v (.int .i64 r))]:=by
 unfold Fe at h;refine A9 mixed ZK [4] 12 ?_;simp only[ZK,C,E,F,G,H,J];try simp only[C,E,F,G,H,J]
 refine A8 ?_;try simp only[C,E,F,G,H,J]
 refine A8 ?_;obtain⟨h1,h⟩|⟨h1,h⟩:=ic h
 ·try simp only[h1,C,E,F,G,H,J]
  cases h;exact t0
 ·try simp only[h1,C,E,F,G,H,J]
  cases h;exact t0
/- 220:spec_MinutesOn -/
def ZL:X0:=(A1 [bo 3 0,bo 5 2,A6 6 0] (Aa [lw 7 3 2,ca 8 114 [S 7],nt 9 8,mv 10 9,AQ 10 L 11 5 6,Ak 10 L 12 152 [S 11],AN 10 L 13 12,po 14 10 13,mv 15 14,Af 15 L 16 1,Ab 15 L 17 3 1,Ad 15 L 18 17,B1 15 L 19 18,AP 15 L 20 .sub 19 1,Ak 15 L 21 118 [S 16,K 0,S 20],AN 15 L 22 21,po 23 15 22] 23 (A2 [A6 6 0]) (A5 (.drw [o0 (fa 24 3 1),o0 (ld 25 24),o0 (mv 26 1),o0 (ia 27 25 26 5),o0 (lw 28 27 5),o0 (lw 29 5 6),o0 (ca 30 161 [S 28,S 29]),o0 (mv 6 30)]) .ret)))
theorem jr{a0}{a1}{a2}{r}(h:Kj a0 a1 a2=N r):FC Z 220 [.ag (X6.row a0),.sc (.int .i64 a1),.ag (X5.row a2)] [.sc (.v (.int .i64 r))]:=by
 unfold Kj at h;refine A9 mixed ZL [6] 31 ?_;simp only[ZL,C,E,F,G,H,J];try simp only[C,E,F,G,H,J]
 refine A8 ?_;try simp only[C,E,F,G,H,J]
 refine A8 ?_;obtain⟨r1,h1,h⟩:=ob h;try simp only[C,E,F,G,H,J]
 refine A4 (GN h1) ?_;obtain⟨h2,h⟩|⟨h2,h⟩:=ic h
 ·obtain⟨r3,h3,h⟩:=ob h;try simp only[h2,C,E,F,G,H,J]
  refine A4 (GO h3) ?_;obtain⟨h4,h⟩|⟨h4,h⟩:=ic h
  ·obtain⟨r5,h5,h⟩:=ob h;try simp only[h2,h4,C,E,F,G,H,J]
   refine A4 (AU h5) ?_;obtain⟨h6,h⟩|⟨h6,h⟩:=ic h
   ·try simp only[h2,h4,h6,C,E,F,G,H,J]
    refine An ?_;obtain⟨x7,h7,h⟩:=ob h;obtain⟨r9,h9,h⟩:=ob h;try simp only[h2,h4,h6,h7,C,E,F,G,H,J]
    refine AF (OS h9) ?_;try simp only[h2,h4,h6,h7,C,E,F,G,H,J]
    cases h;exact t0
   ·try simp only[h2,h4,h6,C,E,F,G,H,J]
    cases h;exact t0
  ·try simp only[h2,h4,C,E,F,G,H,J]
   cases h;exact t0
 ·try simp only[h2,C,E,F,G,H,J]
  cases h;exact t0
/- 218:spec_WindowsOk -/
def Pz:X0:=A1 [Ae [0,5,6,7] [] []] (A1 [bn 8 .lss 7 6] (Av 8 0 1 (A1 [mv 9 7,ia 10 5 7 2,lw 11 10 2,Al 4 [aI 0,aI 0],mv 3 9,so 4 11 2] (A5 (.drw [o0 (fa 12 4 0),o0 (ld 13 12),o0 (ca 14 118 [S 13,K 0,K 2880]),o0 (nt 15 14),o0 (mv 16 15),o0 (Ab 16 L 17 4 1),o0 (Ad 16 L 18 17),o0 (Ab 16 L 19 4 0),o0 (Ad 16 L 20 19),o0 (Ak 16 L 21 118 [S 18,S 20,K 2880]),o0 (AN 16 L 22 21),o0 (po 23 16 22),o0 (mv 24 23),o0 (Af 24 L 25 3),o0 (AP 24 L 26 .gtr 25 0),o0 (Af 24 L 27 26),o0 (Ab 27 T 28 4 0),o0 (Ad 27 T 29 28),o0 (Af 27 T 30 0),o0 (Af 27 T 31 3),o0 (AP 27 T 32 .sub 31 1),o0 (CC 27 T 33 30 32 2),o0 (Ab 27 T 34 33 1),o0 (Ad 27 T 35 34),o0 (AP 27 T 36 .add 35 1),o0 (AK 27 T 37 .leq 29 36),o0 (N (24,L),.pick 38 (S 27) (S 37) (KB L)),o0 (po 39 24 38)]) (Aq 39 (A2 [A3 2 L])))) (Au 40 7)))
def Ub:X0:=(A2 [A3 2 T])
def ZM:X0:=(A1 [A3 2 L] (A5 (A1 [mv 5 0,ln 6 5,A6 7 0] (Ah 0 Pz)) Ub))
def oS:=fun a0 (k_:U→Q V)=>∀{v1} {zr},k_ v1=N zr→Kp Z [0,5,6,7] [] [] ⟨[pL 0 X4.row a0,pL 5 X4.row a0,pI 6 (a0.length:U),pI 7 v1],[],[]⟩ (.code (.loop Pz):: [.blk 0,.code Ub]) (Ag [2] [.sc (.v (.bool zr))])
theorem B4w{a0}{n:W}:oS a0 (Fb a0 n):=by
 induction n with
 | zero=>intro _ r h; cases h
 | succ n ih=>
  intro v1 r h σ hσ;rw[Fb] at h;refine Ai ?_;obtain⟨h2,h⟩|⟨h2,h⟩:=ic h
  ·obtain⟨x3,h3,h⟩:=ob h;try simp only[hσ,h2,h3,Pz,C,E,F,G,H,J]
   refine Am ?_;try simp only[h2,h3,C,E,F,G,H,J]
   refine An ?_;obtain⟨r4,h4,h⟩:=ob h;try simp only[h2,h3,C,E,F,G,H,J]
   refine AF (AU h4) ?_;obtain⟨h5,h⟩|⟨h5,h⟩:=ic h
   ·obtain⟨r6,h6,h⟩:=ob h;try simp only[h2,h3,h5,C,E,F,G,H,J]
    refine AF (AU h6) ?_;obtain⟨h7,h⟩|⟨h7,h⟩:=ic h
    ·obtain⟨h8,h⟩|⟨h8,h⟩:=ic h
     ·obtain⟨x9,h9,h⟩:=ob h;obtain⟨h10,h⟩|⟨h10,h⟩:=ic h
      ·try simp only[h2,h3,h5,h7,h8,h9,h10,C,E,F,G,H,J]
       cases h;exact t0
      ·try simp only[h2,h3,h5,h7,h8,h9,h10,C,E,F,G,H,J]
       refine ih h ?_;try simp only[h2,h3,h5,h7,h8,h9,h10,C,E,F,G,H,J,pL,aM,Y]
     ·try simp only[h2,h3,h5,h7,h8,C,E,F,G,H,J]
      refine ih h ?_;try simp only[h2,h3,h5,h7,h8,C,E,F,G,H,J,pL,aM,Y]
    ·try simp only[h2,h3,h5,h7,C,E,F,G,H,J]
     cases h;exact t0
   ·try simp only[h2,h3,h5,C,E,F,G,H,J]
    cases h;exact t0
  ·try simp only[hσ,h2,Pz,Ub,C,E,F,G,H,J]
   cases h;exact t0
theorem jx{a0}{r}(h:Ko a0=N r):FC Z 218 [.sc (.sl (I X4.row a0))] [.sc (.v (.bool r))]:=by
 unfold Ko at h;refine A9 mixed ZM [2] 41 ?_;simp only[ZM,C,E,F,G,H,J];try simp only[C,E,F,G,H,J]
 refine B4w h ?_;try simp only[C,E,F,G,H,J,pL,aM,Y]
/- 239:spec_ShrinkWindows -/
def PA:X0:=A1 [Ae [1,5,17,18,19] [] [1024]] (A1 [bn 20 .lss 19 18] (Av 20 0 1 (A1 [ia 21 17 19 2,lw 22 21 2,Al 7 [aI 0,aI 0],so 7 22 2] (A1 [fa 23 7 1,ld 24 23,fa 25 7 0,ld 26 25,bn 27 .sub 24 26,mv 28 1,bn 29 .geq 27 28] (Aq 29 (.reg [mv 30 5,fa 31 7 0,ld 32 31,fa 33 7 1,ld 34 33,mv 35 1,bn 36 .sub 34 35,BH 37 [aI 0,aI 0] [(0,1,(S 32)),(1,1,(S 36))],AD 38 2 [.int .i64 0,.int .i64 0] 1 [(0,(S 37))],Be 39 2 16 30 38,mv 5 39])))) (Au 40 19)))
def Uc:X0:=(A2 [mv 41 5,mv 4 41])
def ZN:X0:=(A1 [Ay 4] (Aa [mv 8 0,ca 9 218 [S 8],nt 10 9,mv 11 10,Af 11 L 12 1,Ak 11 L 13 118 [S 12,K 0,K 2880],AN 11 L 14 13,po 15 11 14] 15 (A2 [Ay 4]) (A1 [AD 16 2 [.int .i64 0,.int .i64 0] 0 [],mv 5 16] (A5 (A1 [mv 17 0,ln 18 17,A6 19 0] (Ah 0 PA)) Uc))))
def oP:=fun a1 a0 (k_:U→(P X4)→Q (P X4))=>∀{v5 v6} {zr},k_ v5 v6=N zr→Kp Z [1,5,17,18,19] [] [1024] ⟨[pI 1 a1,pW 5 1024,pL 17 X4.row a0,pI 18 (a0.length:U),pI 19 v5],[],[(1024,2,I X4.row v6)]⟩ (.code (.loop PA):: [.blk 0,.code Uc]) (Ag [4] [.sc (.o 2 (I X4.row zr))])
theorem B4x{a1 a0}{n:W}:oP a1 a0 (Fa a1 a0 n):=by
 induction n with
 | zero=>intro _ _ r h; cases h
 | succ n ih=>
  intro v5 v6 r h σ hσ;rw[Fa] at h;refine Ai ?_;obtain⟨h7,h⟩|⟨h7,h⟩:=ic h
  ·obtain⟨x8,h8,h⟩:=ob h;try simp only[hσ,h7,h8,PA,C,E,F,G,H,J]
   refine Am ?_;obtain⟨h9,h⟩|⟨h9,h⟩:=ic h
   ·try simp only[h7,h8,h9,C,E,F,G,H,J]
    refine Ax (es:=I X4.row ([(⟨x8.From,(IntKind.i64.wrap (x8.To - a1))⟩:X4)]:P X4)) ?_;obtain⟨h10,h⟩:=AT h;try simp only[h7,h8,h9,h10,C,E,F,G,H,J]
    refine ih h ?_;try simp only[h7,h8,h9,h10,C,E,F,G,H,J,pL,aM,Y]
   ·try simp only[h7,h8,h9,C,E,F,G,H,J]
    refine ih h ?_;try simp only[h7,h8,h9,C,E,F,G,H,J,pL,aM,Y]
  ·try simp only[hσ,h7,PA,Uc,C,E,F,G,H,J]
   cases h;exact t0
theorem B3a{a0}{a1}{r}(h:Sp a0 a1=N r):FC Z 239 [.sc (.sl (I X4.row a0)),.sc (.int .i64 a1)] [.sc (.o 2 (I X4.row r))]:=by
 unfold Sp at h;refine A9 mixed ZN [4] 42 ?_;simp only[ZN,C,E,F,G,H,J];obtain⟨r1,h1,h⟩:=ob h;try simp only[C,E,F,G,H,J]
 refine A4 (jx h1) ?_;obtain⟨h2,h⟩|⟨h2,h⟩:=ic h
 ·obtain⟨r3,h3,h⟩:=ob h;try simp only[h2,C,E,F,G,H,J]
  refine A4 (AU h3) ?_;obtain⟨h4,h⟩|⟨h4,h⟩:=ic h
  ·try simp only[h2,h4,C,E,F,G,H,J]
   refine Ax (es:=I X4.row ([]:P X4)) ?_;try simp only[h2,h4,C,E,F,G,H,J]
   refine B4x h ?_;try simp only[h2,h4,C,E,F,G,H,J,pL,aM,Y]
  ·try simp only[h2,h4,C,E,F,G,H,J]
   cases h;exact t0
 ·try simp only[h2,C,E,F,G,H,J]
  cases h;exact t0
/- 219:spec_l07Starts -/
def ZP:X0:=(A1 [bo 5 0,bo 6 1,bo 8 3,Ay 10] (Aa [lw 11 5 3,ca 12 113 [S 11],nt 13 12,mv 14 13,AQ 14 L 15 6 2,Af 14 L 16 2,AQ 14 L 17 8 6,Ak 14 L 18 238 [S 15,S 16,S 17],AN 14 L 19 18,po 20 14 19] 20 (A2 [Ay 10]) (A5 (.drw [(N [25],lw 21 5 3),o0 (lw 22 6 2),o0 (mv 23 2),o0 (lw 24 8 6),o0 (ca 25 241 [S 22,S 23,S 24]),(N [25],mv 26 4),o0 (ca 27 240 [S 21,S 25,S 26]),(N [25,27],lw 28 6 2),(N [25,27],mv 29 2),(N [25,27],lw 30 8 6),o0 (ca 31 220 [S 28,S 29,S 30]),o0 (ca 32 239 [S 27,S 31]),o0 (mv 10 32)]) .ret)))
theorem B3o{a0}{a1}{a2}{a3}{a4}{r}(h:Ss a0 a1 a2 a3 a4=N r):FC Z 219 [.ag (zF a0),.ag (X6.row a1),.sc (.int .i64 a2),.ag (X5.row a3),.sc (.bool a4)] [.sc (.o 2 (I X4.row r))]:=by
 unfold Ss at h;refine A9 mixed ZP [10] 33 ?_;simp only[ZP,C,E,F,G,H,J];try simp only[C,E,F,G,H,J]
 refine A8 ?_;try simp only[C,E,F,G,H,J]
 refine A8 ?_;try simp only[C,E,F,G,H,J]
 refine A8 ?_;obtain⟨r1,h1,h⟩:=ob h;try simp only[C,E,F,G,H,J]
 refine A4 (Y2 h1) ?_;obtain⟨h2,h⟩|⟨h2,h⟩:=ic h
 ·obtain⟨r3,h3,h⟩:=ob h;try simp only[h2,C,E,F,G,H,J]
  refine A4 (jz h3) ?_;obtain⟨h4,h⟩|⟨h4,h⟩:=ic h
  ·try simp only[h2,h4,C,E,F,G,H,J]
   refine An ?_;obtain⟨r5,h5,h⟩:=ob h;try simp only[h2,h4,C,E,F,G,H,J]
   refine AF (B2w h5) ?_;obtain⟨r6,h6,h⟩:=ob h;try simp only[h2,h4,C,E,F,G,H,J]
   refine AF (B3j h6) ?_;obtain⟨r7,h7,h⟩:=ob h;try simp only[h2,h4,C,E,F,G,H,J]
   refine AF (jr h7) ?_;obtain⟨r9,h9,h⟩:=ob h;try simp only[h2,h4,C,E,F,G,H,J]
   refine Gr (B3a h9) (by first | rfl | kernel_rfl) (BO X ⟨B3,⟨⟩⟩) X (uf X) ?_;try simp only[h2,h4,C,E,F,G,H,J]
   cases h;exact t0
  ·try simp only[h2,h4,C,E,F,G,H,J]
   cases h;exact t0
 ·try simp only[h2,C,E,F,G,H,J]
  cases h;exact t0
/- 192:spec_SureStarts -/
def ZQ:X0:=(A1 [bo 4 0,bo 5 1,bo 7 3,Ay 8] (A2 [lw 9 4 3,lw 10 5 2,mv 11 2,lw 12 7 6,ca 13 219 [S 9,S 10,S 11,S 12,KB L],mv 8 13]))
theorem B3c{a0}{a1}{a2}{a3}{r}(h:NM a0 a1 a2 a3=N r):FC Z 192 [.ag (zF a0),.ag (X6.row a1),.sc (.int .i64 a2),.ag (X5.row a3)] [.sc (.o 2 (I X4.row r))]:=by
 unfold NM at h;refine A9 mixed ZQ [8] 14 ?_;simp only[ZQ,C,E,F,G,H,J];try simp only[C,E,F,G,H,J]
 refine A8 ?_;try simp only[C,E,F,G,H,J]
 refine A8 ?_;try simp only[C,E,F,G,H,J]
 refine A8 ?_;obtain⟨r1,h1,h⟩:=ob h;try simp only[C,E,F,G,H,J]
 refine A4 (B3o h1) ?_;try simp only[C,E,F,G,H,J]
 cases h;exact t0
/- 158:spec_l08Starts -/
def PB:X0:=A1 [Ae [4,5,6,9,13,14,15] [4,5,6] [768]] (A1 [bn 16 .lss 15 14] (Av 16 0 1 (A1 [ia 17 13 15 1,ld 18 17,mv 11 18] (.reg [mv 19 9,lw 20 4 3,lw 21 5 2,mv 22 11,lw 23 6 6,ca 24 192 [S 20,S 21,S 22,S 23],(O,.frz 1536),AD 25 1 [.sl []] 1 [(0,(S 24))],Be 26 1 24 19 25,mv 9 26])) (Au 27 15)))
def Ud:X0:=(A2 [mv 28 9,mv 8 28])
def ZR:X0:=(A1 [bo 4 0,bo 5 1,bo 6 2,Ay 8] (A1 [AD 12 1 [.sl []] 0 [],mv 9 12] (A5 (A1 [mv 13 3,ln 14 13,A6 15 0] (Ah 0 PB)) Ud)))
def oc:=fun a3 (a0:Xc) (a1:X6) (a2:X5) (k_:U→(P (P X4))→Q (P (P X4)))=>∀{v1 v2} {zr},k_ v1 v2=N zr→Kp Z [4,5,6,9,13,14,15] [4,5,6] [768] ⟨[pB 4,pB 5,pB 6,pW 9 768,pL 13 rI a3,pI 14 (a3.length:U),pI 15 v1],[(4,[aI a0.Tide.Mean,aM zA a0.Tide.Parts,aM zB a0.Surges]),(5,[aM X9.row a1.Points,aM X3.row a1.Segments]),(6,(dm a2.row))],[(768,1,I (rL X4.row) v2)]⟩ (.code (.loop PB):: [.blk 0,.code Ud]) (Ag [8] [.sc (.o 1 (I (rL X4.row) zr))])
theorem B4y{a3 a0 a1 a2}{n:W}:oc a3 a0 a1 a2 (Gg a3 a0 a1 a2 n):=by
 induction n with
 | zero=>intro _ _ r h; cases h
 | succ n ih=>
  intro v1 v2 r h σ hσ;rw[Gg] at h;refine Ai ?_;obtain⟨h3,h⟩|⟨h3,h⟩:=ic h
  ·obtain⟨x4,h4,h⟩:=ob h;obtain⟨r5,h5,h⟩:=ob h;try simp only[hσ,h3,h4,PB,C,E,F,G,H,J]
   refine A4 (B3c h5) ?_;try simp only[h3,h4,C,E,F,G,H,J]
   refine D0 ?_;try simp only[h3,h4,C,E,F,G,H,J]
   refine Ax (es:=I (rL X4.row) ([r5]:P (P X4))) ?_;obtain⟨h6,h⟩:=AT h;try simp only[h3,h4,h6,C,E,F,G,H,J]
   refine ih h ?_;try simp only[h3,h4,h6,C,E,F,G,H,J,pL,aM,Y]
  ·try simp only[hσ,h3,PB,Ud,C,E,F,G,H,J]
   cases h;exact t0
theorem B3q{a0}{a1}{a2}{a3}{r}(h:Su a0 a1 a2 a3=N r):FC Z 158 [.ag (zF a0),.ag (X6.row a1),.ag (X5.row a2),.sc (.sl (I rI a3))] [.sc (.o 1 (I (rL X4.row) r))]:=by
 unfold Su at h;refine A9 mixed ZR [8] 29 ?_;simp only[ZR,C,E,F,G,H,J];try simp only[C,E,F,G,H,J]
 refine A8 ?_;try simp only[C,E,F,G,H,J]
 refine A8 ?_;try simp only[C,E,F,G,H,J]
 refine A8 ?_;try simp only[C,E,F,G,H,J]
 refine Ax (es:=I (rL X4.row) ([]:P (P X4))) ?_;try simp only[C,E,F,G,H,J]
 refine B4y h ?_;try simp only[C,E,F,G,H,J,pL,aM,Y]
/- 190:spec_HasMinute -/
def PC:X0:=A1 [Ae [1,7,8,9] [] []] (A1 [bn 10 .lss 9 8] (Av 10 0 1 (A1 [ia 11 7 9 2,lw 12 11 2,Al 6 [aI 0,aI 0],so 6 12 2] (A1 [mv 13 1,fa 14 6 0,ld 15 14,fa 16 6 1,ld 17 16,ca 18 118 [S 13,S 15,S 17]] (Aq 18 (A2 [A3 4 T])))) (Au 19 9)))
def Ue:X0:=(A2 [A3 4 L])
def ZS:X0:=(A1 [A3 4 L] (A5 (A1 [mv 7 0,ln 8 7,A6 9 0] (Ah 0 PC)) Ue))
def nv:=fun a1 a0 (k_:U→Q V)=>∀{v1} {zr},k_ v1=N zr→Kp Z [1,7,8,9] [] [] ⟨[pI 1 a1,pL 7 X4.row a0,pI 8 (a0.length:U),pI 9 v1],[],[]⟩ (.code (.loop PC):: [.blk 0,.code Ue]) (Ag [4] [.sc (.v (.bool zr))])
theorem B4z{a1 a0}{n:W}:nv a1 a0 (Il a1 a0 n):=by
 induction n with
 | zero=>intro _ r h; cases h
 | succ n ih=>
  intro v1 r h σ hσ;rw[Il] at h;refine Ai ?_;obtain⟨h2,h⟩|⟨h2,h⟩:=ic h
  ·obtain⟨x3,h3,h⟩:=ob h;try simp only[hσ,h2,h3,PC,C,E,F,G,H,J]
   refine Am ?_;obtain⟨r4,h4,h⟩:=ob h;try simp only[h2,h3,C,E,F,G,H,J]
   refine A4 (AU h4) ?_;obtain⟨h5,h⟩|⟨h5,h⟩:=ic h
   ·try simp only[h2,h3,h5,C,E,F,G,H,J]
    cases h;exact t0
   ·try simp only[h2,h3,h5,C,E,F,G,H,J]
    refine ih h ?_;try simp only[h2,h3,h5,C,E,F,G,H,J,pL,aM,Y]
  ·try simp only[hσ,h2,PC,Ue,C,E,F,G,H,J]
   cases h;exact t0
theorem B2s{a0}{a1}{r}(h:Nu a0 a1=N r):FC Z 190 [.sc (.sl (I X4.row a0)),.sc (.int .i64 a1)] [.sc (.v (.bool r))]:=by
 unfold Nu at h;refine A9 mixed ZS [4] 20 ?_;simp only[ZS,C,E,F,G,H,J];try simp only[C,E,F,G,H,J]
 refine B4z h ?_;try simp only[C,E,F,G,H,J,pL,aM,Y]
/- 191:spec_NextMinute -/
def PD:X0:=A1 [Ae [1,10,11,12] [] []] (A1 [bn 13 .lss 12 11] (Av 13 0 1 (A1 [ia 14 10 12 2,lw 15 14 2,Al 6 [aI 0,aI 0],so 6 15 2] (A1 [fa 16 6 1,ld 17 16,mv 18 1,bn 19 .geq 17 18] (Aq 19 (A2 [fa 20 6 0,ld 21 20,mv 22 1,(O,.mm 23 T (S 21) (S 22)),mv 4 23])))) (Au 24 12)))
def Uf:X0:=(A2 [A6 4 (-1)])
def ZV:X0:=(A1 [A6 4 0] (Aa [mv 7 0,ca 8 218 [S 7],nt 9 8] 9 (A2 [A6 4 (-1)]) (A5 (A1 [mv 10 0,ln 11 10,A6 12 0] (Ah 0 PD)) Uf)))
def oD:=fun a1 a0 (k_:U→Q U)=>∀{v3} {zr},k_ v3=N zr→Kp Z [1,10,11,12] [] [] ⟨[pI 1 a1,pL 10 X4.row a0,pI 11 (a0.length:U),pI 12 v3],[],[]⟩ (.code (.loop PD):: [.blk 0,.code Uf]) (Ag [4] [.sc (.v (.int .i64 zr))])
theorem B40{a1 a0}{n:W}:oD a1 a0 (Ip a1 a0 n):=by
 induction n with
 | zero=>intro _ r h; cases h
 | succ n ih=>
  intro v3 r h σ hσ;rw[Ip] at h;refine Ai ?_;obtain⟨h4,h⟩|⟨h4,h⟩:=ic h
  ·obtain⟨x5,h5,h⟩:=ob h;try simp only[hσ,h4,h5,PD,C,E,F,G,H,J]
   refine Am ?_;obtain⟨h6,h⟩|⟨h6,h⟩:=ic h
   ·try simp only[h4,h5,h6,C,E,F,G,H,J]
    cases h;exact t0
   ·try simp only[h4,h5,h6,C,E,F,G,H,J]
    refine ih h ?_;try simp only[h4,h5,h6,C,E,F,G,H,J,pL,aM,Y]
  ·try simp only[hσ,h4,PD,Uf,C,E,F,G,H,J]
   cases h;exact t0
theorem B2y{a0}{a1}{r}(h:NB a0 a1=N r):FC Z 191 [.sc (.sl (I X4.row a0)),.sc (.int .i64 a1)] [.sc (.v (.int .i64 r))]:=by
 unfold NB at h;refine A9 mixed ZV [4] 25 ?_;simp only[ZV,C,E,F,G,H,J];obtain⟨r1,h1,h⟩:=ob h;try simp only[C,E,F,G,H,J]
 refine A4 (jx h1) ?_;obtain⟨h2,h⟩|⟨h2,h⟩:=ic h
 ·try simp only[h2,C,E,F,G,H,J]
  refine B40 h ?_;try simp only[h2,C,E,F,G,H,J,pL,aM,Y]
 ·try simp only[h2,C,E,F,G,H,J]
  cases h;exact t0
/- 157:spec_l08Sail -/
def PE:X0:=A1 [Ae [2,3,4,6,7,14,15,17,73] [6,7] [1600]] (Aq 73 (A2 [Ay 12,A3 13 L]))
def Ug:X0:=(.reg [mv 74 14,mv 75 17,AD 76 1 [.int .i64 0] 1 [(0,(S 75))],Be 77 1 8 74 76,mv 14 77])
def Uh:X0:=(.reg [mv 30 15,Ac 31 .add 30 1,mv 15 31])
def Lk:X0:=A1 [Ae [2,3,4,6,7,14,15] [6,7] [1600]] (A5 (A1 [mv 26 15,mv 27 3,ln 28 27,bn 29 .lss 26 28] (AL 29 .skip (.exit 0))) (A5 (.block 1 (A5 (.drw [(N [47],mv 32 14),(N [47],mv 33 15),(N [47],Ac 34 .sub 33 1),(N [47],ia 35 32 34 1),(N [47],ld 36 35),o0 (fa 37 6 1),o0 (ld 38 37),o0 (mv 39 3),o0 (mv 40 15),o0 (Ac 41 .sub 40 1),o0 (ia 42 39 41 1),o0 (ld 43 42),o0 (ia 44 38 43 5),o0 (lw 45 44 5),o0 (lw 46 7 6),o0 (ca 47 161 [S 45,S 46]),o0 (bn 48 .add 36 47),o0 (mv 16 48)]) (A1 [mv 49 4,mv 50 15,ia 51 49 50 1,ld 52 51,mv 53 16,ca 54 191 [S 52,S 53],mv 17 54] (A5 (A5 (.drw [o0 (mv 55 17),o0 (Ac 56 .lss 55 0),o0 (mv 57 56),o0 (Af 57 L 58 17),o0 (Af 57 L 59 16),o0 (AK 57 L 60 .neq 58 59),o0 (Af 57 L 61 60),o0 (Ab 61 T 62 6 0),o0 (Ad 61 T 63 62),o0 (Af 61 T 64 2),o0 (Af 61 T 65 15),o0 (CC 61 T 66 64 65 1),o0 (Ad 61 T 67 66),o0 (CC 61 T 68 63 67 2),o0 (Ab 61 T 69 68 1),o0 (Ad 61 T 70 69),o0 (AN 61 T 71 70),o0 (N (57,L),.pick 72 (S 61) (S 71) (KB L)),o0 (po 73 57 72)]) PE) Ug)))) Uh))
def PF:X0:=(A2 [mv 78 14,mv 12 78,A3 13 T])
def ZW:X0:=(A1 [bo 6 0,bo 7 1,Ay 12,A3 13 L] (Aa [mv 18 4,(O,.iaddr 19 (S 18) (K 0) 1),ld 20 19,mv 21 5,ca 22 190 [S 20,S 21],nt 23 22] 23 (A2 [Ay 12,A3 13 L]) (A1 [mv 24 5,AD 25 1 [.int .i64 0] 1 [(0,(S 24))],mv 14 25] (A5 (A1 [A6 15 1] (Ah 0 Lk)) PF))))
def oZ:=fun a2 a3 a4 v4 r12 (a0:X6) (a1:X5) v5 (k_:V→Q ((P U) × V))=>∀{v17} {zr},k_ v17=N zr→Kp Z [2,3,4,6,7,14,15,17,73] [6,7] [1600] ⟨[pL 2 rI a2,pL 3 rI a3,pL 4 (rL X4.row) a4,pB 6,pB 7,pW 14 1600,pI 15 v4,pI 17 r12,(73,vc (aB v17))],[(6,[aM X9.row a0.Points,aM X3.row a0.Segments]),(7,(dm a1.row))],[(1600,1,I rI v5)]⟩ (.code PE:: [.code Ug,.blk 1,.code Uh,.code (.loop Lk),.blk 0,.code PF]) (Ag [12,13] [.sc (.o 1 (I rI zr.1)),.sc (.v (.bool zr.2))])
def YD:=fun a2 a3 a4 (a0:X6) (a1:X5) (k_:U→(P U)→Q ((P U) × V))=>∀{v4 v5} {zr},k_ v4 v5=N zr→Kp Z [2,3,4,6,7,14,15] [6,7] [1600] ⟨[pL 2 rI a2,pL 3 rI a3,pL 4 (rL X4.row) a4,pB 6,pB 7,pW 14 1600,pI 15 v4],[(6,[aM X9.row a0.Points,aM X3.row a0.Segments]),(7,(dm a1.row))],[(1600,1,I rI v5)]⟩ (.code (.loop Lk):: [.blk 0,.code PF]) (Ag [12,13] [.sc (.o 1 (I rI zr.1)),.sc (.v (.bool zr.2))])
theorem Yb{a2 a3 a4 v4 r12 a0 a1 v5}{T0}(xd:YD a2 a3 a4 a0 a1 T0):oZ a2 a3 a4 v4 r12 a0 a1 v5 (IH a2 a3 a4 v4 r12 a0 a1 v5 T0):=by
 intro v17 r h σ hσ;unfold IH at h;obtain⟨h18,h⟩|⟨h18,h⟩:=ic h
 ·try simp only[hσ,h18,PE,C,E,F,G,H,J]
  cases h;trivial
 ·try simp only[hσ,h18,PE,Ug,C,E,F,G,H,J]
  refine Ax (es:=I rI ([r12]:P U)) ?_;obtain⟨h19,h⟩:=AT h;try simp only[h18,h19,Uh,C,E,F,G,H,J]
  refine xd h ?_;try simp only[h18,h19,C,E,F,G,H,J,pL,aM,Y]
theorem B41{a2 a3 a4 a0 a1}{n:W}:YD a2 a3 a4 a0 a1 (Ej a2 a3 a4 a0 a1 n):=by
 induction n with
 | zero=>intro _ _ r h; cases h
 | succ n ih=>
  intro v4 v5 r h σ hσ;rw[Ej] at h;refine Ai ?_;obtain⟨h6,h⟩|⟨h6,h⟩:=ic h
  ·try simp only[hσ,h6,Lk,C,E,F,G,H,J]
   refine An ?_;obtain⟨x7,h7,h⟩:=ob h;have h7n:=AH h7;obtain⟨x8,h8,h⟩:=ob h;obtain⟨x9,h9,h⟩:=ob h;obtain⟨r10,h10,h⟩:=ob h;try simp only[h6,h7,h7n,h8,h9,C,E,F,G,H,J]
   refine AF (OS h10) ?_;obtain⟨x11,h11,h⟩:=ob h;obtain⟨r12,h12,h⟩:=ob h;try simp only[h6,h7,h7n,h8,h9,h11,C,E,F,G,H,J]
   refine A4 (B2y h12) ?_;try simp only[h6,h7,h7n,h8,h9,h11,C,E,F,G,H,J]
   refine An ?_;obtain⟨h13,h⟩|⟨h13,h⟩:=ic h
   ·try simp only[h6,h7,h7n,h8,h9,h11,h13,C,E,F,G,H,J]
    refine Yb ih h ?_;try simp only[h6,h7,h7n,h8,h9,h11,h13,C,E,F,G,H,J,pL,aM,Y]
   ·obtain⟨h14,h⟩|⟨h14,h⟩:=ic h
    ·obtain⟨x15,h15,h⟩:=ob h;obtain⟨x16,h16,h⟩:=ob h;try simp only[h6,h7,h7n,h8,h9,h11,h13,h14,h15,h16,C,E,F,G,H,J]
     refine Yb ih h ?_;try simp only[h6,h7,h7n,h8,h9,h11,h13,h14,h15,h16,C,E,F,G,H,J,pL,aM,Y]
    ·try simp only[h6,h7,h7n,h8,h9,h11,h13,h14,C,E,F,G,H,J]
     refine Yb ih h ?_;try simp only[h6,h7,h7n,h8,h9,h11,h13,h14,C,E,F,G,H,J,pL,aM,Y]
  ·try simp only[hσ,h6,Lk,PF,C,E,F,G,H,J]
   cases h;trivial
theorem B3p{a0}{a1}{a2}{a3}{a4}{a5}{r}(h:NW a0 a1 a2 a3 a4 a5=N r):FC Z 157 [.ag (X6.row a0),.ag (X5.row a1),.sc (.sl (I rI a2)),.sc (.sl (I rI a3)),.sc (.sl (I (rL X4.row) a4)),.sc (.int .i64 a5)] [.sc (.o 1 (I rI r.1)),.sc (.v (.bool r.2))]:=by
 unfold NW at h;refine A9 mixed ZW [12,13] 79 ?_;simp only[ZW,C,E,F,G,H,J];try simp only[C,E,F,G,H,J]
 refine A8 ?_;try simp only[C,E,F,G,H,J]
 refine A8 ?_;obtain⟨x1,h1,h⟩:=ob h;obtain⟨r2,h2,h⟩:=ob h;try simp only[h1,C,E,F,G,H,J]
 refine A4 (B2s h2) ?_;obtain⟨h3,h⟩|⟨h3,h⟩:=ic h
 ·try simp only[h1,h3,C,E,F,G,H,J]
  refine Ax (es:=I rI ([a5]:P U)) ?_;try simp only[h1,h3,C,E,F,G,H,J]
  refine B41 h ?_;try simp only[h1,h3,C,E,F,G,H,J,pL,aM,Y]
 ·try simp only[h1,h3,C,E,F,G,H,J]
  cases h;trivial
/- 120:spec_SailRoute -/
def PG:X0:=A1 [Ae [3,4,5,6,7,8,33] [6,7,8] []] (Aq 33 (A2 [Ay 12,A3 13 L]))
def Ui:X0:=(A5 (.drw [(N [39,45],lw 34 7 2),(N [39,45],lw 35 8 6),o0 (lw 36 7 2),o0 (mv 37 3),o0 (mv 38 4),o0 (ca 39 155 [S 36,S 37,S 38]),(N [39,45],mv 40 4),(N [39],lw 41 6 3),(N [39],lw 42 7 2),(N [39],lw 43 8 6),(N [39],mv 44 4),o0 (ca 45 158 [S 41,S 42,S 43,S 44]),(N [39,45],mv 46 5),o0 (ca 47 157 [S 34,S 35,S 39,S 40,S 45,S 46]),o0 (xt 48 47 0),o0 (xt 49 47 1),o0 (mv 12 48),o0 (mv 13 49)]) .ret)
def ZY:X0:=(A1 [bo 6 0,bo 7 1,bo 8 2,Ay 12,A3 13 L] (A5 (A1 [lw 14 6 3,ca 15 113 [S 14],nt 16 15,mv 17 16,AQ 17 L 18 8 6,Ak 17 L 19 152 [S 18],AN 17 L 20 19,po 21 17 20,mv 22 21,AQ 22 L 23 7 2,Af 22 L 24 3,Af 22 L 25 4,Ak 22 L 26 156 [S 23,S 24,S 25],AN 22 L 27 26,po 28 22 27,mv 29 28,Af 29 L 30 4,B1 29 L 31 30,AP 29 L 32 .eql 31 0,po 33 29 32] PG) Ui))
def oM:=fun a3 a4 a5 (a0:Xc) (a1:X6) (a2:X5) (k_:V→Q ((P U) × V))=>∀{v7} {zr},k_ v7=N zr→Kp Z [3,4,5,6,7,8,33] [6,7,8] [] ⟨[pI 3 a3,pL 4 rI a4,pI 5 a5,pB 6,pB 7,pB 8,(33,vc (aB v7))],[(6,[aI a0.Tide.Mean,aM zA a0.Tide.Parts,aM zB a0.Surges]),(7,[aM X9.row a1.Points,aM X3.row a1.Segments]),(8,(dm a2.row))],[]⟩ (.code PG:: [.code Ui]) (Ag [12,13] [.sc (.o 1 (I rI zr.1)),.sc (.v (.bool zr.2))])
theorem Tv{a3 a4 a5 a0 a1 a2}:oM a3 a4 a5 a0 a1 a2 (Iw a3 a4 a5 a0 a1 a2):=by
 intro v7 r h σ hσ;unfold Iw at h;obtain⟨h8,h⟩|⟨h8,h⟩:=ic h
 ·try simp only[hσ,h8,PG,C,E,F,G,H,J]
  cases h;trivial
 ·try simp only[hσ,h8,PG,Ui,C,E,F,G,H,J]
  refine An ?_;obtain⟨r9,h9,h⟩:=ob h;try simp only[h8,C,E,F,G,H,J]
  refine AF (Y5 h9) ?_;obtain⟨r10,h10,h⟩:=ob h;try simp only[h8,C,E,F,G,H,J]
  refine AF (B3q h10) ?_;obtain⟨r11,h11,h⟩:=ob h;try simp only[h8,C,E,F,G,H,J]
  refine Gr (B3p h11) (by first | rfl | kernel_rfl) (BO X ⟨B3,X,⟨⟩⟩) X (uf X) ?_;try simp only[h8,C,E,F,G,H,J]
  cases h;trivial
theorem B27{a0}{a1}{a2}{a3}{a4}{a5}{r}(h:NK a0 a1 a2 a3 a4 a5=N r):FC Z 120 [.ag (zF a0),.ag (X6.row a1),.ag (X5.row a2),.sc (.int .i64 a3),.sc (.sl (I rI a4)),.sc (.int .i64 a5)] [.sc (.o 1 (I rI r.1)),.sc (.v (.bool r.2))]:=by
 unfold NK at h;refine A9 mixed ZY [12,13] 50 ?_;simp only[ZY,C,E,F,G,H,J];try simp only[C,E,F,G,H,J]
 refine A8 ?_;try simp only[C,E,F,G,H,J]
 refine A8 ?_;try simp only[C,E,F,G,H,J]
 refine A8 ?_;obtain⟨r1,h1,h⟩:=ob h;try simp only[C,E,F,G,H,J]
 refine A4 (Y2 h1) ?_;obtain⟨h2,h⟩|⟨h2,h⟩:=ic h
 ·obtain⟨r3,h3,h⟩:=ob h;try simp only[h2,C,E,F,G,H,J]
  refine A4 (GO h3) ?_;obtain⟨h4,h⟩|⟨h4,h⟩:=ic h
  ·obtain⟨r5,h5,h⟩:=ob h;try simp only[h2,h4,C,E,F,G,H,J]
   refine A4 (Y4 h5) ?_;obtain⟨h6,h⟩|⟨h6,h⟩:=ic h
   ·try simp only[h2,h4,h6,C,E,F,G,H,J]
    refine Tv h ?_;try simp only[h2,h4,h6,C,E,F,G,H,J,pL,aM,Y]
   ·try simp only[h2,h4,h6,C,E,F,G,H,J]
    refine Tv h ?_;try simp only[h2,h4,h6,C,E,F,G,H,J,pL,aM,Y]
  ·try simp only[h2,h4,C,E,F,G,H,J]
   refine Tv h ?_;try simp only[h2,h4,C,E,F,G,H,J,pL,aM,Y]
 ·try simp only[h2,C,E,F,G,H,J]
  refine Tv h ?_;try simp only[h2,C,E,F,G,H,J,pL,aM,Y]
/- 193:spec_RouteMinutes -/
def PH:X0:=A1 [Ae [2,5,11,12,13] [2] []] (A1 [bn 14 .lss 13 12] (Av 14 0 1 (A1 [ia 15 11 13 1,ld 16 15,mv 7 16] (Aa [mv 17 7,fa 18 2 1,ld 19 18,ln 20 19,Ac 21 .sub 20 1,ca 22 118 [S 17,K 0,S 21],nt 23 22] 23 (A2 [A6 4 (-1)]) (.reg [mv 24 5,fa 25 2 1,ld 26 25,mv 27 7,ia 28 26 27 5,fa 29 28 3,ld 30 29,bn 31 .add 24 30,mv 5 31]))) (Au 32 13)))
def Uj:X0:=(A2 [mv 33 5,mv 4 33])
def ZZ:X0:=(A1 [bo 2 0,A6 4 0] (A1 [A6 5 0] (Aa [lw 8 2 2,ca 9 114 [S 8],nt 10 9] 10 (A2 [A6 4 (-1)]) (A5 (A1 [mv 11 1,ln 12 11,A6 13 0] (Ah 0 PH)) Uj))))
def oL:=fun a1 (a0:X6) (k_:U→U→Q U)=>∀{v3 v4} {zr},k_ v3 v4=N zr→Kp Z [2,5,11,12,13] [2] [] ⟨[pB 2,pI 5 v3,pL 11 rI a1,pI 12 (a1.length:U),pI 13 v4],[(2,[aM X9.row a0.Points,aM X3.row a0.Segments])],[]⟩ (.code (.loop PH):: [.blk 0,.code Uj]) (Ag [4] [.sc (.v (.int .i64 zr))])
theorem B42{a1 a0}{n:W}:oL a1 a0 (Iv a1 a0 n):=by
 induction n with
 | zero=>intro _ _ r h; cases h
 | succ n ih=>
  intro v3 v4 r h σ hσ;rw[Iv] at h;refine Ai ?_;obtain⟨h5,h⟩|⟨h5,h⟩:=ic h
  ·obtain⟨x6,h6,h⟩:=ob h;obtain⟨r7,h7,h⟩:=ob h;try simp only[hσ,h5,h6,PH,C,E,F,G,H,J]
   refine A4 (AU h7) ?_;obtain⟨h8,h⟩|⟨h8,h⟩:=ic h
   ·obtain⟨x9,h9,h⟩:=ob h;try simp only[h5,h6,h8,h9,C,E,F,G,H,J]
    refine ih h ?_;try simp only[h5,h6,h8,h9,C,E,F,G,H,J,pL,aM,Y]
   ·try simp only[h5,h6,h8,C,E,F,G,H,J]
    cases h;exact t0
  ·try simp only[hσ,h5,PH,Uj,C,E,F,G,H,J]
   cases h;exact t0
theorem B26{a0}{a1}{r}(h:NJ a0 a1=N r):FC Z 193 [.ag (X6.row a0),.sc (.sl (I rI a1))] [.sc (.v (.int .i64 r))]:=by
 unfold NJ at h;refine A9 mixed ZZ [4] 34 ?_;simp only[ZZ,C,E,F,G,H,J];try simp only[C,E,F,G,H,J]
 refine A8 ?_;obtain⟨r1,h1,h⟩:=ob h;try simp only[C,E,F,G,H,J]
 refine A4 (GN h1) ?_;obtain⟨h2,h⟩|⟨h2,h⟩:=ic h
 ·try simp only[h2,C,E,F,G,H,J]
  refine B42 h ?_;try simp only[h2,C,E,F,G,H,J,pL,aM,Y]
 ·try simp only[h2,C,E,F,G,H,J]
  cases h;exact t0
/- 159:spec_ArrivalOf -/
def aA:X0:=(A1 [bo 4 0,bo 5 1,A6 8 0] (Aa [lw 10 4 2,mv 11 2,ca 12 193 [S 10,S 11],Ac 13 .lss 12 0,mv 14 13,AQ 14 L 15 5 6,Ak 14 L 16 152 [S 15],AN 14 L 17 16,po 18 14 17,mv 19 18,Af 19 L 20 2,B1 19 L 21 20,Af 19 L 22 3,B1 19 L 23 22,AK 19 L 24 .neq 21 23,po 25 19 24,mv 26 25,Af 26 L 27 2,B1 26 L 28 27,AP 26 L 29 .eql 28 0,po 30 26 29] 30 (A2 [A6 8 (-1)]) (A1 [mv 31 3,mv 32 3,ln 33 32,Ac 34 .sub 33 1,ia 35 31 34 1,ld 36 35,mv 9 36] (Aa [mv 37 9,ca 38 118 [S 37,K 0,K 2880],nt 39 38] 39 (A2 [A6 8 (-1)]) (A5 (.drw [(N [52],mv 40 9),o0 (fa 41 4 1),o0 (ld 42 41),o0 (mv 43 2),o0 (mv 44 2),o0 (ln 45 44),o0 (Ac 46 .sub 45 1),o0 (ia 47 43 46 1),o0 (ld 48 47),o0 (ia 49 42 48 5),o0 (lw 50 49 5),o0 (lw 51 5 6),o0 (ca 52 161 [S 50,S 51]),o0 (bn 53 .add 40 52),o0 (mv 8 53)]) .ret)))))
theorem B2i{a0}{a1}{a2}{a3}{r}(h:Nn a0 a1 a2 a3=N r):FC Z 159 [.ag (X6.row a0),.ag (X5.row a1),.sc (.sl (I rI a2)),.sc (.sl (I rI a3))] [.sc (.v (.int .i64 r))]:=by
 unfold Nn at h;refine A9 mixed aA [8] 54 ?_;simp only[aA,C,E,F,G,H,J];try simp only[C,E,F,G,H,J]
 refine A8 ?_;try simp only[C,E,F,G,H,J]
 refine A8 ?_;obtain⟨r1,h1,h⟩:=ob h;try simp only[C,E,F,G,H,J]
 refine A4 (B26 h1) ?_;obtain⟨h2,h⟩|⟨h2,h⟩:=ic h
 ·try simp only[h2,C,E,F,G,H,J]
  cases h;exact t0
 ·obtain⟨r3,h3,h⟩:=ob h;try simp only[h2,C,E,F,G,H,J]
  refine A4 (GO h3) ?_;obtain⟨h4,h⟩|⟨h4,h⟩:=ic h
  ·obtain⟨h5,h⟩|⟨h5,h⟩:=ic h
   ·try simp only[h2,h4,h5,C,E,F,G,H,J]
    cases h;exact t0
   ·obtain⟨h6,h⟩|⟨h6,h⟩:=ic h
    ·try simp only[h2,h4,h5,h6,C,E,F,G,H,J]
     cases h;exact t0
    ·obtain⟨x7,h7,h⟩:=ob h;obtain⟨r9,h9,h⟩:=ob h;try simp only[h2,h4,h5,h6,h7,C,E,F,G,H,J]
     refine A4 (AU h9) ?_;obtain⟨h10,h⟩|⟨h10,h⟩:=ic h
     ·try simp only[h2,h4,h5,h6,h7,h10,C,E,F,G,H,J]
      refine An ?_;obtain⟨x11,h11,h⟩:=ob h;obtain⟨x12,h12,h⟩:=ob h;obtain⟨r13,h13,h⟩:=ob h;try simp only[h2,h4,h5,h6,h7,h10,h11,h12,C,E,F,G,H,J]
      refine AF (OS h13) ?_;try simp only[h2,h4,h5,h6,h7,h10,h11,h12,C,E,F,G,H,J]
      cases h;exact t0
     ·try simp only[h2,h4,h5,h6,h7,h10,C,E,F,G,H,J]
      cases h;exact t0
  ·try simp only[h2,h4,C,E,F,G,H,J]
   cases h;exact t0
/- 160:spec_PassagesOf -/
def PJ:X0:=A1 [Ae [1,5,6,8,13,14,39,40,41] [6,8] [2176,2432]] (A1 [bn 42 .lss 41 40] (Av 42 0 1 (A1 [mv 43 41,ia 44 39 41 1,ld 45 44,mv 15 43,mv 16 45] (Aa [mv 46 5,mv 47 15,ia 48 46 47 1,ld 49 48,ca 50 118 [S 49,K 0,K 2880],nt 51 50] 51 (A2 [Ay 12]) (.drw [(N [80,83],mv 52 13),(N [80],mv 53 1),(N [80],mv 54 16),(N [80],fa 55 6 1),(N [80],ld 56 55),(N [80],mv 57 16),(N [80],ia 58 56 57 5),(N [80],fa 59 58 0),(N [80],ld 60 59),(N [80],mv 61 14),(N [80],mv 62 15),(N [80],ia 63 61 62 1),(N [80],ld 64 63),(N [80],bn 65 .eql 60 64),(N [80],mv 66 5),(N [80],mv 67 15),(N [80],ia 68 66 67 1),(N [80],ld 69 68),(N [80],mv 70 5),(N [80],mv 71 15),(N [80],ia 72 70 71 1),(N [80],ld 73 72),o0 (fa 74 6 1),o0 (ld 75 74),o0 (mv 76 16),o0 (ia 77 75 76 5),o0 (lw 78 77 5),o0 (lw 79 8 6),o0 (ca 80 161 [S 78,S 79]),o0 (bn 81 .add 73 80),o0 (BH 82 [aI 0,aI 0,aB L,aI 0,aI 0] [(0,1,(S 53)),(1,1,(S 54)),(2,1,(S 65)),(3,1,(S 69)),(4,1,(S 81))]),o0 (AD 83 5 [.int .i64 0,.int .i64 0,.bool L,.int .i64 0,.int .i64 0] 1 [(0,(S 82))]),(O,Be 84 5 40 52 83),o0 (mv 13 84)]))) (Au 85 41)))
def Uk:X0:=(A2 [mv 86 13,mv 12 86])
def aC:X0:=(A1 [bo 6 0,bo 8 2,Ay 12] (Aa [lw 17 6 2,mv 18 3,mv 19 4,ca 20 156 [S 17,S 18,S 19],nt 21 20,mv 22 21,AQ 22 L 23 8 6,Ak 22 L 24 152 [S 23],AN 22 L 25 24,po 26 22 25,mv 27 26,Af 27 L 28 4,B1 27 L 29 28,Af 27 L 30 5,B1 27 L 31 30,AK 27 L 32 .neq 29 31,po 33 27 32] 33 (A2 [Ay 12]) (A1 [AD 34 5 [.int .i64 0,.int .i64 0,.bool L,.int .i64 0,.int .i64 0] 0 [],mv 13 34] (A1 [lw 35 6 2,mv 36 3,mv 37 4,ca 38 155 [S 35,S 36,S 37],mv 14 38] (A5 (A1 [mv 39 4,ln 40 39,A6 41 0] (Ah 0 PJ)) Uk)))))
def oF:=fun a1 a5 a4 (a0:X6) (a2:X5) r6 (k_:U→(P X1)→Q (P X1))=>∀{v7 v8} {zr},k_ v7 v8=N zr→Kp Z [1,5,6,8,13,14,39,40,41] [6,8] [2176,2432] ⟨[pI 1 a1,pL 5 rI a5,pB 6,pB 8,pW 13 2176,pW 14 2432,pL 39 rI a4,pI 40 (a4.length:U),pI 41 v7],[(6,[aM X9.row a0.Points,aM X3.row a0.Segments]),(8,(dm a2.row))],[(2176,5,I X1.row v8),(2432,1,I rI r6)]⟩ (.code (.loop PJ):: [.blk 0,.code Uk]) (Ag [12] [.sc (.o 5 (I X1.row zr))])
theorem B43{a1 a5 a4 a0 a2 r6}{n:W}:oF a1 a5 a4 a0 a2 r6 (Iq a1 a5 a4 a0 a2 r6 n):=by
 induction n with
 | zero=>intro _ _ r h; cases h
 | succ n ih=>
  intro v7 v8 r h σ hσ;rw[Iq] at h;refine Ai ?_;obtain⟨h9,h⟩|⟨h9,h⟩:=ic h
  ·obtain⟨x10,h10,h⟩:=ob h;obtain⟨x11,h11,h⟩:=ob h;obtain⟨r12,h12,h⟩:=ob h;try simp only[hσ,h9,h10,h11,PJ,C,E,F,G,H,J]
   refine A4 (AU h12) ?_;obtain⟨h13,h⟩|⟨h13,h⟩:=ic h
   ·try simp only[h9,h10,h11,h13,C,E,F,G,H,J]
    refine An ?_;obtain⟨x14,h14,h⟩:=ob h;obtain⟨x15,h15,h⟩:=ob h;have h15n:=AH h15;obtain⟨r16,h16,h⟩:=ob h;try simp only[h9,h10,h11,h13,h14,h15,h15n,C,E,F,G,H,J]
    refine AF (OS h16) ?_;try simp only[h9,h10,h11,h13,h14,h15,h15n,C,E,F,G,H,J]
    refine Ax (es:=I X1.row ([(⟨a1,x10,(x14.A==x15),x11,(IntKind.i64.wrap (x11+r16))⟩:X1)]:P X1)) ?_;obtain⟨h17,h⟩:=AT h;try simp only[h9,h10,h11,h13,h14,h15,h15n,h17,C,E,F,G,H,J]
    refine An ?_;try simp only[h9,h10,h11,h13,h14,h15,h15n,h17,C,E,F,G,H,J]
    refine ih h ?_;try simp only[h9,h10,h11,h13,h14,h15,h15n,h17,C,E,F,G,H,J,pL,aM,Y]
   ·try simp only[h9,h10,h11,h13,C,E,F,G,H,J]
    cases h;exact t0
  ·try simp only[hσ,h9,PJ,Uk,C,E,F,G,H,J]
   cases h;exact t0
theorem B21{a0}{a1}{a2}{a3}{a4}{a5}{r}(h:ND a0 a1 a2 a3 a4 a5=N r):FC Z 160 [.ag (X6.row a0),.sc (.int .i64 a1),.ag (X5.row a2),.sc (.int .i64 a3),.sc (.sl (I rI a4)),.sc (.sl (I rI a5))] [.sc (.o 5 (I X1.row r))]:=by
 unfold ND at h;refine A9 mixed aC [12] 87 ?_;simp only[aC,C,E,F,G,H,J];try simp only[C,E,F,G,H,J]
 refine A8 ?_;try simp only[C,E,F,G,H,J]
 refine A8 ?_;obtain⟨r1,h1,h⟩:=ob h;try simp only[C,E,F,G,H,J]
 refine A4 (Y4 h1) ?_;obtain⟨h2,h⟩|⟨h2,h⟩:=ic h
 ·obtain⟨r3,h3,h⟩:=ob h;try simp only[h2,C,E,F,G,H,J]
  refine A4 (GO h3) ?_;obtain⟨h4,h⟩|⟨h4,h⟩:=ic h
  ·obtain⟨h5,h⟩|⟨h5,h⟩:=ic h
   ·try simp only[h2,h4,h5,C,E,F,G,H,J]
    cases h;exact t0
   ·try simp only[h2,h4,h5,C,E,F,G,H,J]
    refine Ax (es:=I X1.row ([]:P X1)) ?_;obtain⟨r6,h6,h⟩:=ob h;try simp only[h2,h4,h5,C,E,F,G,H,J]
    refine A4 (Y5 h6) ?_;try simp only[h2,h4,h5,C,E,F,G,H,J]
    refine B43 h ?_;try simp only[h2,h4,h5,C,E,F,G,H,J,pL,aM,Y]
  ·try simp only[h2,h4,C,E,F,G,H,J]
   cases h;exact t0
 ·try simp only[h2,C,E,F,G,H,J]
  cases h;exact t0
/- 121:spec_l15Make -/
def Yh:P (P W × AItem):= [([],(O,.load 65 (S 11) T 4)),([],(O,.faddr 66 (S 11) 1)),([1],(O,.load 67 (S 66) L 1)),([2],(O,.bin 68 .leq (S 67) (K 2880))),([0,0],(O,.store (S 8) (S 65) 4)),([3,4,0,1,2,3,4],(O,.mv 9 (S 68)))]
def PK:X0:=A1 [Ae [4,8,10,11,46,47,48] [4,8,10,11] [2432]] (A1 [bn 49 .lss 48 47] (Av 49 0 1 (A1 [ia 50 46 48 1,ld 51 50,mv 13 51] (.drw [(N [61],fa 52 11 2),(N [61],ld 53 52),o0 (fa 54 4 3),o0 (fa 55 54 1),o0 (ld 56 55),o0 (mv 57 13),o0 (ia 58 56 57 5),o0 (lw 59 58 5),o0 (lw 60 10 6),o0 (ca 61 161 [S 59,S 60]),o0 (bn 62 .sub 53 61),o0 (fa 63 11 2),(O,so 63 62 1)])) (Au 64 48)))
def Ul:X0:=(A5 (.any Yh) .ret)
def aD:X0:=(A1 [bo 4 0,bo 5 1,Al 8 [aI 0,aI 0,aI 0,.nil],A3 9 L] (A1 [fa 14 4 5,ld 15 14,fa 16 5 0,ld 17 16,ia 18 15 17 6,lw 19 18 6,Al 10 [aS [],aI 0,aI 0,aI 0,aI 0,aB L],so 10 19 6] (A5 (.drw [(N [28,38,11],mv 20 3),(N [28,38,11],(O,.iaddr 21 (S 20) (K 0) 1)),(N [28,38,11],ld 22 21),(N [11],fa 23 4 3),(N [11],lw 24 23 2),(N [11],lw 25 10 6),(N [11],mv 26 2),(N [11],mv 27 3),(N [11],ca 28 159 [S 24,S 25,S 26,S 27]),(N [28,11],fa 29 4 3),(N [28,11],lw 30 29 2),(N [28,11],fa 31 5 0),(N [28,11],ld 32 31),(N [28,11],lw 33 10 6),(N [28,11],fa 34 5 1),(N [28,11],ld 35 34),(N [28,11],mv 36 2),(N [28,11],mv 37 3),(N [11],ca 38 160 [S 30,S 32,S 33,S 35,S 36,S 37]),(N [11],BH 39 [aI 0,aI 0,aI 0,.nil] [(0,1,(S 22)),(1,1,(S 28)),(3,1,(S 38))]),(N [28,38],Al 11 [aI 0,aI 0,aI 0,.nil]),(O,so 11 39 4)]) (A1 [fa 40 11 1,ld 41 40,fa 42 5 3,ld 43 42,bn 44 .sub 41 43,fa 45 11 2,so 45 44 1] (A5 (A1 [mv 46 2,ln 47 46,A6 48 0] (Ah 0 PK)) Ul)))))
abbrev J4(x2 r3 v6:U)(c0_ c1_:V)(c2_ c3_ c5_:V)(bx_:P (W × P AC))(rs_:Rows):St:=⟨[(8,vc (.pb 8 0)),(11,vc (.pb 11 0)),(65,bif c0_ then va [aI x2,aI r3,aI v6,.own 2432] else .undef),(66,bif c1_ then vc (.pb 11 1) else .undef),(67,bif c2_ then vc (aI r3) else .undef),(68,bif c3_ then vc (aB (decide (r3≤(2880:U)))) else .undef),(9,bif c5_ then vc (aB (decide (r3≤(2880:U)))) else .undef)],bx_,rs_⟩
abbrev Tn(x2 r3:U)(r4:(P X1))(v6:U):St:=(J4 x2 r3 v6 T T T T T [(8,[aI x2,aI r3,aI v6,.own 2432]),(11,[aI x2,aI r3,aI v6,.own 2432])] [(2432,5,I X1.row r4)])
theorem B44(x2 r3 r4 v6):∀(f:W) (b1 b2:V) (b3 b5:V),Cd Z Yh (Tn x2 r3 r4 v6) f [T,b1,b2,b3,T,b5] (J4 x2 r3 v6 T b1 b2 b3 b5 [(8,[aI x2,aI r3,aI v6,.own 2432]),(11,[aI x2,aI r3,aI v6,.own 2432])] [(2432,5,I X1.row r4)]):=by
 intro f
 induction f with
 | zero=>
  intro b1 b2 b3 b5 h;obtain rfl:b1=T:=zE.1 h b1 (by simp);obtain rfl:b2=T:=zE.1 h b2 (by simp);obtain rfl:b3=T:=zE.1 h b3 (by simp);obtain rfl:b5=T:=zE.1 h b5 (by simp);rfl
 | succ f ih=>
  intro b1 b2 b3 b5;refine EI ⟨?_,?_,?_,?_,?_,?_,⟨⟩⟩<;>try first | (intro h; cases h; done) | (intro h0 hw; obtain rfl:=hz h0 rfl; (try obtain rfl:=hq hw 1 rfl rfl); (try obtain rfl:=hq hw 2 rfl rfl); (try obtain rfl:=hq hw 3 rfl rfl); refine np ?_; simp only[J4,C8,Cy,BT,C,E,F,G,H,J]; exact ih _ _ _ _)
theorem B45(x2 r3 r4 v6):∀(f:W) (b0 b1:V) (b2 b3:V),Cd Z Yh (Tn x2 r3 r4 v6) f [b0,b1,b2,b3,L,L] (J4 x2 r3 v6 b0 b1 b2 b3 L [(8,[aI (0:U),aI (0:U),aI (0:U),.nil]),(11,[aI x2,aI r3,aI v6,.own 2432])] [(2432,5,I X1.row r4)]):=by
 intro f
 induction f with
 | zero=>intro b0 b1 b2 b3 h; simp at h
 | succ f ih=>
  intro b0 b1 b2 b3;refine EI ⟨?_,?_,?_,?_,?_,?_,⟨⟩⟩<;>try first | (intro _ hw; simp at hw; done) | (intro h0 hw; obtain rfl:=hz h0 rfl; (try obtain rfl:=hq hw 1 rfl rfl); (try obtain rfl:=hq hw 2 rfl rfl); refine np ?_; simp only[J4,C8,Cy,BT,C,E,F,G,H,J]; exact ih _ _ _ _)
  ·intro h0 hw;obtain rfl:=hq hw 0 rfl rfl;refine np ?_;try simp only[J4,C8,Cy,BT,C,E,F,G,H,J]
   exact B44 x2 r3 r4 v6 _ b1 b2 b3 L
def oo:=fun a2 (a0:X7) (x1:X5) x2 r3 r4 (k_:U→U→Q (X2 × V))=>∀{v5 v6} {zr},k_ v5 v6=N zr→Kp Z [4,8,10,11,46,47,48] [4,8,10,11] [2432] ⟨[pB 4,pB 8,pB 10,pB 11,pL 46 rI a2,pI 47 (a2.length:U),pI 48 v5],[(4,([aI a0.Forecast.Tide.Mean,aM zA a0.Forecast.Tide.Parts,aM zB a0.Forecast.Surges,aM X9.row a0.Chart.Points,aM X3.row a0.Chart.Segments,aM X5.row a0.Fleet,aI a0.Regime.Gap,aB a0.Regime.NoMeet]++dm a0.Crew.row)),(8,[aI (0:U),aI (0:U),aI (0:U),.nil]),(10,(dm x1.row)),(11,[aI x2,aI r3,aI v6,.own 2432])],[(2432,5,I X1.row r4)]⟩ (.code (.loop PK):: [.blk 0,.code Ul]) (Ag [.c 8 T 4,9] [.ag [.v (.int .i64 zr.1.Start),.v (.int .i64 zr.1.Arrival),.v (.int .i64 zr.1.Cost),.o 5 (I X1.row zr.1.Passages)],.sc (.v (.bool zr.2))])
theorem B46{a2 a0 x1 x2 r3 r4}{n:W}:oo a2 a0 x1 x2 r3 r4 (Gm a2 a0 x1 x2 r3 r4 n):=by
 induction n with
 | zero=>intro _ _ r h; cases h
 | succ n ih=>
  intro v5 v6 r h σ hσ;rw[Gm] at h;refine Ai ?_;obtain⟨h7,h⟩|⟨h7,h⟩:=ic h
  ·obtain⟨x8,h8,h⟩:=ob h;try simp only[hσ,h7,h8,PK,C,E,F,G,H,J]
   refine An ?_;obtain⟨x9,h9,h⟩:=ob h;obtain⟨r10,h10,h⟩:=ob h;try simp only[h7,h8,h9,C,E,F,G,H,J]
   refine AF (OS h10) ?_;try simp only[h7,h8,h9,C,E,F,G,H,J]
   refine An ?_;try simp only[h7,h8,h9,C,E,F,G,H,J]
   refine ih h ?_;try simp only[h7,h8,h9,C,E,F,G,H,J,pL,aM,Y]
  ·try simp only[hσ,h7,PK,Ul,C,E,F,G,H,J]
   refine Wl (ks:= [8,11]) (bs:= [8,11]) (rs:= [2432]) (τ:=(Tn x2 r3 r4 v6)) X (B45 x2 r3 r4 v6 _ L L L L) ?_;simp only[Tn,J4,C8];try simp only[h7,C,E,F,G,H,J]
   cases h;try simp only[Bh,C,E,F,G,H,J]
   trivial
theorem B3x{a0}{a1}{a2}{a3}{r}(h:Sy a0 a1 a2 a3=N r):FC Z 121 [.ag (X7.row a0),.ag (zD a1),.sc (.sl (I rI a2)),.sc (.sl (I rI a3))] [.ag [.v (.int .i64 r.1.Start),.v (.int .i64 r.1.Arrival),.v (.int .i64 r.1.Cost),.o 5 (I X1.row r.1.Passages)],.sc (.v (.bool r.2))]:=by
 unfold Sy at h;refine A9 mixed aD [.c 8 T 4,9] 69 ?_;simp only[aD,C,E,F,G,H,J];try simp only[C,E,F,G,H,J]
 refine A8 ?_;try simp only[C,E,F,G,H,J]
 refine A8 ?_;try simp only[C,E,F,G,H,J]
 refine Am ?_;obtain⟨x1,h1,h⟩:=ob h;try simp only[h1,C,E,F,G,H,J]
 refine Am ?_;try simp only[h1,C,E,F,G,H,J]
 refine An ?_;obtain⟨x2,h2,h⟩:=ob h;obtain⟨r3,h3,h⟩:=ob h;try simp only[h1,h2,C,E,F,G,H,J]
 refine AF (B2i h3) ?_;obtain⟨r4,h4,h⟩:=ob h;try simp only[h1,h2,C,E,F,G,H,J]
 refine AF (B21 h4) ?_;try simp only[h1,h2,C,E,F,G,H,J]
 refine fE (m:= .box 11 [aI (0:U),aI (0:U),aI (0:U),.nil]) X X (WK X X) ?_;try simp only[h1,h2,C,E,F,G,H,J]
 refine An ?_;try simp only[h1,h2,C,E,F,G,H,J]
 refine B46 h ?_;try simp only[h1,h2,C,E,F,G,H,J,pL,aM,Y]
/- 88:spec_OptionAt -/
def PL:X0:=A1 [Ae [2,3,4,5,8,33] [4,5,8] []] (Aq 33 (A2 [BH 34 [aI 0,aI 0,aI 0,.nil] [],so 8 34 4,A3 9 L]))
def Un:X0:=(A5 (.drw [o0 (fa 36 4 0),o0 (lw 37 36 3),o0 (fa 38 4 3),o0 (lw 39 38 2),o0 (fa 40 4 5),o0 (ld 41 40),o0 (fa 42 5 0),o0 (ld 43 42),o0 (ia 44 41 43 6),o0 (lw 45 44 6),o0 (fa 46 5 1),o0 (ld 47 46),o0 (mv 48 2),o0 (mv 49 3),o0 (ca 50 120 [S 37,S 39,S 45,S 47,S 48,S 49]),o0 (mv 35 50),o0 (xt 51 35 0),o0 (xt 52 35 1),o0 (mv 10 51),o0 (mv 11 52)]) (Aa [mv 53 11,nt 54 53] 54 (A2 [BH 55 [aI 0,aI 0,aI 0,.nil] [],so 8 55 4,A3 9 L]) (A1 [lw 57 4 12,lw 58 5 5,mv 59 2,mv 60 10,ca 61 121 [S 57,S 58,S 59,S 60],mv 56 61,xt 62 56 0,xt 63 56 1,Al 12 [aI 0,aI 0,aI 0,.nil],so 12 62 4,mv 13 63] (Aa [mv 64 13,nt 65 64] 65 (A2 [BH 66 [aI 0,aI 0,aI 0,.nil] [],so 8 66 4,A3 9 L]) (A2 [lw 67 12 4,so 8 67 4,A3 9 T])))))
def aE:X0:=(A1 [bo 4 0,bo 5 1,Al 8 [aI 0,aI 0,aI 0,.nil],A3 9 L] (A5 (A1 [lw 14 4 12,lw 15 5 5,ca 16 87 [S 14,S 15],nt 17 16,mv 18 17,Af 18 L 19 3,Ab 18 L 20 5 3,Ad 18 L 21 20,Ab 18 L 22 5 4,Ad 18 L 23 22,Ak 18 L 24 118 [S 19,S 21,S 23],AN 18 L 25 24,po 26 18 25,mv 27 26,AQ 27 L 28 4 12,AQ 27 L 29 5 5,Af 27 L 30 2,Ak 27 L 31 119 [S 28,S 29,S 30],AN 27 L 32 31,po 33 27 32] PL) Un))
def oE:=fun a2 a3 (a0:X7) (a1:Xa) (k_:V→Q (X2 × V))=>∀{v6} {zr},k_ v6=N zr→Kp Z [2,3,4,5,8,33] [4,5,8] [] ⟨[pL 2 rI a2,pI 3 a3,pB 4,pB 5,pB 8,(33,vc (aB v6))],[(4,([aI a0.Forecast.Tide.Mean,aM zA a0.Forecast.Tide.Parts,aM zB a0.Forecast.Surges,aM X9.row a0.Chart.Points,aM X3.row a0.Chart.Segments,aM X5.row a0.Fleet,aI a0.Regime.Gap,aB a0.Regime.NoMeet]++dm a0.Crew.row)),(5,(dm a1.row)),(8,[aI (0:U),aI (0:U),aI (0:U),.nil])],[]⟩ (.code PL:: [.code Un]) (Ag [.c 8 T 4,9] [.ag [.v (.int .i64 zr.1.Start),.v (.int .i64 zr.1.Arrival),.v (.int .i64 zr.1.Cost),.o 5 (I X1.row zr.1.Passages)],.sc (.v (.bool zr.2))])
theorem Yc{a2 a3 a0 a1}:oE a2 a3 a0 a1 (G9 a2 a3 a0 a1):=by
 intro v6 r h σ hσ;unfold G9 at h;obtain⟨h7,h⟩|⟨h7,h⟩:=ic h
 ·try simp only[hσ,h7,PL,C,E,F,G,H,J]
  cases h;try simp only[Bh,C,E,F,G,H,J]
  trivial
 ·try simp only[hσ,h7,PL,Un,C,E,F,G,H,J]
  refine An ?_;obtain⟨x8,h8,h⟩:=ob h;obtain⟨r9,h9,h⟩:=ob h;try simp only[h7,h8,C,E,F,G,H,J]
  refine AF (B27 h9) ?_;obtain⟨h10,h⟩|⟨h10,h⟩:=ic h
  ·obtain⟨r11,h11,h⟩:=ob h;try simp only[h7,h8,h10,C,E,F,G,H,J]
   refine B7 (B3x h11) X (BO X ⟨X,X,X,B3,X,⟨⟩⟩) X (uf X) ?_;try simp only[h7,h8,h10,C,E,F,G,H,J]
   refine Am ?_;obtain⟨h12,h⟩|⟨h12,h⟩:=ic h
   ·try simp only[h7,h8,h10,h12,C,E,F,G,H,J]
    cases h;try simp only[Bh,C,E,F,G,H,J]
    trivial
   ·try simp only[h7,h8,h10,h12,C,E,F,G,H,J]
    cases h;try simp only[Bh,C,E,F,G,H,J]
    trivial
  ·try simp only[h7,h8,h10,C,E,F,G,H,J]
   cases h;try simp only[Bh,C,E,F,G,H,J]
   trivial
theorem B2z{a0}{a1}{a2}{a3}{r}(h:Kk a0 a1 a2 a3=N r):FC Z 88 [.ag (X7.row a0),.ag (zD a1),.sc (.sl (I rI a2)),.sc (.int .i64 a3)] [.ag [.v (.int .i64 r.1.Start),.v (.int .i64 r.1.Arrival),.v (.int .i64 r.1.Cost),.o 5 (I X1.row r.1.Passages)],.sc (.v (.bool r.2))]:=by
 unfold Kk at h;refine A9 mixed aE [.c 8 T 4,9] 68 ?_;simp only[aE,C,E,F,G,H,J];try simp only[C,E,F,G,H,J]
 refine A8 ?_;try simp only[C,E,F,G,H,J]
 refine A8 ?_;try simp only[C,E,F,G,H,J]
 refine Am ?_;obtain⟨r1,h1,h⟩:=ob h;try simp only[C,E,F,G,H,J]
 refine A4 (Y0 h1) ?_;obtain⟨h2,h⟩|⟨h2,h⟩:=ic h
 ·obtain⟨r3,h3,h⟩:=ob h;try simp only[h2,C,E,F,G,H,J]
  refine A4 (AU h3) ?_;obtain⟨h4,h⟩|⟨h4,h⟩:=ic h
  ·obtain⟨r5,h5,h⟩:=ob h;try simp only[h2,h4,C,E,F,G,H,J]
   refine A4 (B3w h5) ?_;try simp only[h2,h4,C,E,F,G,H,J]
   refine Yc h ?_;try simp only[h2,h4,C,E,F,G,H,J,pL,aM,Y]
  ·try simp only[h2,h4,C,E,F,G,H,J]
   refine Yc h ?_;try simp only[h2,h4,C,E,F,G,H,J,pL,aM,Y]
 ·try simp only[h2,C,E,F,G,H,J]
  refine Yc h ?_;try simp only[h2,C,E,F,G,H,J,pL,aM,Y]
/- 89:spec_SameOptions -/
def PM:X0:=A1 [Ae [3,36,37,38] [3] []] (A1 [bn 39 .lss 38 37] (Av 39 0 1 (A1 [mv 40 38,ia 41 36 38 5,lw 42 41 5,Al 6 [aI 0,aI 0,aB L,aI 0,aI 0],mv 5 40,so 6 42 5] (A5 (.drw [o0 (lw 43 6 5),o0 (fa 44 3 3),o0 (ld 45 44),o0 (mv 46 5),o0 (ia 47 45 46 5),o0 (lw 48 47 5),o0 (O,.geq 49 T [.i,.i,.b,.i,.i] (S 43) (S 48))]) (Aq 49 (A2 [A3 4 L])))) (Au 50 38)))
def Uo:X0:=(A2 [A3 4 T])
def aF:X0:=(A1 [bo 2 0,bo 3 1,A3 4 L] (Aa [fa 7 2 0,ld 8 7,fa 9 3 0,ld 10 9,bn 11 .neq 8 10,mv 12 11,Ab 12 L 13 2 1,Ad 12 L 14 13,Ab 12 L 15 3 1,Ad 12 L 16 15,AK 12 L 17 .neq 14 16,po 18 12 17,mv 19 18,Ab 19 L 20 2 2,Ad 19 L 21 20,Ab 19 L 22 3 2,Ad 19 L 23 22,AK 19 L 24 .neq 21 23,po 25 19 24,mv 26 25,Ab 26 L 27 2 3,Ad 26 L 28 27,B1 26 L 29 28,Ab 26 L 30 3 3,Ad 26 L 31 30,B1 26 L 32 31,AK 26 L 33 .neq 29 32,po 34 26 33] 34 (A2 [A3 4 L]) (A5 (A1 [fa 35 2 3,ld 36 35,ln 37 36,A6 38 0] (Ah 0 PM)) Uo)))
def oN:=fun(a0:X2) (a1:X2) (k_:U→Q V)=>∀{v5} {zr},k_ v5=N zr→Kp Z [3,36,37,38] [3] [] ⟨[pB 3,pL 36 X1.row a0.Passages,pI 37 (a0.Passages.length:U),pI 38 v5],[(3,[aI a1.Start,aI a1.Arrival,aI a1.Cost,aM X1.row a1.Passages])],[]⟩ (.code (.loop PM):: [.blk 0,.code Uo]) (Ag [4] [.sc (.v (.bool zr))])
theorem B47{a0 a1}{n:W}:oN a0 a1 (Iy a0 a1 n):=by
 induction n with
 | zero=>intro _ r h; cases h
 | succ n ih=>
  intro v5 r h σ hσ;rw[Iy] at h;refine Ai ?_;obtain⟨h6,h⟩|⟨h6,h⟩:=ic h
  ·obtain⟨x7,h7,h⟩:=ob h;try simp only[hσ,h6,h7,PM,C,E,F,G,H,J]
   refine Am ?_;try simp only[h6,h7,C,E,F,G,H,J]
   refine An ?_;obtain⟨x8,h8,h⟩:=ob h;obtain⟨h9,h⟩|⟨h9,h⟩:=ic h
   ·try simp only[h6,h7,h8,h9,C,E,F,G,H,J]
    refine ih h ?_;try simp only[h6,h7,h8,h9,C,E,F,G,H,J,pL,aM,Y]
   ·try simp only[h6,h7,h8,h9,C,E,F,G,H,J]
    cases h;exact t0
  ·try simp only[hσ,h6,PM,Uo,C,E,F,G,H,J]
   cases h;exact t0
theorem B28{a0}{a1}{r}(h:Ix a0 a1=N r):FC Z 89 [.ag (X2.row a0),.ag (X2.row a1)] [.sc (.v (.bool r))]:=by
 unfold Ix at h;refine A9 mixed aF [4] 51 ?_;simp only[aF,C,E,F,G,H,J];try simp only[C,E,F,G,H,J]
 refine A8 ?_;try simp only[C,E,F,G,H,J]
 refine A8 ?_;obtain⟨h1,h⟩|⟨h1,h⟩:=ic h
 ·try simp only[h1,C,E,F,G,H,J]
  cases h;exact t0
 ·obtain⟨h2,h⟩|⟨h2,h⟩:=ic h
  ·try simp only[h1,h2,C,E,F,G,H,J]
   cases h;exact t0
  ·obtain⟨h3,h⟩|⟨h3,h⟩:=ic h
   ·try simp only[h1,h2,h3,C,E,F,G,H,J]
    cases h;exact t0
   ·obtain⟨h4,h⟩|⟨h4,h⟩:=ic h
    ·try simp only[h1,h2,h3,h4,C,E,F,G,H,J]
     cases h;exact t0
    ·try simp only[h1,h2,h3,h4,C,E,F,G,H,J]
     refine B47 h ?_;try simp only[h1,h2,h3,h4,C,E,F,G,H,J,pL,aM,Y]
/- 58:spec_IsOption -/
def PN:X0:=A1 [Ae [3,4,5,7,18,19,20] [3,4,5] [1024]] (A1 [bn 21 .lss 20 19] (Av 21 0 1 (A1 [ia 22 18 20 5,lw 23 22 5,Al 9 [aI 0,aI 0,aB L,aI 0,aI 0],so 9 23 5] (.reg [mv 24 7,fa 25 9 1,ld 26 25,AD 27 1 [.int .i64 0] 1 [(0,(S 26))],Be 28 1 8 24 27,mv 7 28])) (Au 29 20)))
def Up:X0:=(A1 [lw 31 3 12,lw 32 4 5,mv 33 7,fa 34 5 0,ld 35 34,ca 36 88 [S 31,S 32,S 33,S 35],mv 30 36,xt 37 30 0,xt 38 30 1,Al 10 [aI 0,aI 0,aI 0,.nil],so 10 37 4,mv 11 38] (A2 [mv 39 11,mv 40 39,AQ 40 T 41 10 4,AQ 40 T 42 5 4,Ak 40 T 43 89 [S 41,S 42],pa 44 40 43,mv 6 44]))
def aH:X0:=(A1 [bo 3 0,bo 4 1,bo 5 2,A3 6 L] (Aa [lw 12 3 12,lw 13 4 5,ca 14 87 [S 12,S 13],nt 15 14] 15 (A2 [A3 6 L]) (A1 [AD 16 1 [.int .i64 0] 0 [],mv 7 16] (A5 (A1 [fa 17 5 3,ld 18 17,ln 19 18,A6 20 0] (Ah 0 PN)) Up))))
def nz:=fun(a2:X2) (a0:X7) (a1:Xa) (k_:U→(P U)→Q V)=>∀{v3 v4} {zr},k_ v3 v4=N zr→Kp Z [3,4,5,7,18,19,20] [3,4,5] [1024] ⟨[pB 3,pB 4,pB 5,pW 7 1024,pL 18 X1.row a2.Passages,pI 19 (a2.Passages.length:U),pI 20 v3],[(3,([aI a0.Forecast.Tide.Mean,aM zA a0.Forecast.Tide.Parts,aM zB a0.Forecast.Surges,aM X9.row a0.Chart.Points,aM X3.row a0.Chart.Segments,aM X5.row a0.Fleet,aI a0.Regime.Gap,aB a0.Regime.NoMeet]++dm a0.Crew.row)),(4,(dm a1.row)),(5,[aI a2.Start,aI a2.Arrival,aI a2.Cost,aM X1.row a2.Passages])],[(1024,1,I rI v4)]⟩ (.code (.loop PN):: [.blk 0,.code Up]) (Ag [6] [.sc (.v (.bool zr))])
theorem B48{a2 a0 a1}{n:W}:nz a2 a0 a1 (Im a2 a0 a1 n):=by
 induction n with
 | zero=>intro _ _ r h; cases h
 | succ n ih=>
  intro v3 v4 r h σ hσ;rw[Im] at h;refine Ai ?_;obtain⟨h5,h⟩|⟨h5,h⟩:=ic h
  ·obtain⟨x6,h6,h⟩:=ob h;try simp only[hσ,h5,h6,PN,C,E,F,G,H,J]
   refine Am ?_;try simp only[h5,h6,C,E,F,G,H,J]
   refine Ax (es:=I rI ([x6.Segment]:P U)) ?_;obtain⟨h7,h⟩:=AT h;try simp only[h5,h6,h7,C,E,F,G,H,J]
   refine ih h ?_;try simp only[h5,h6,h7,C,E,F,G,H,J,pL,aM,Y]
  ·obtain⟨r9,h9,h⟩:=ob h;try simp only[hσ,h5,PN,Up,C,E,F,G,H,J]
   refine B7 (B2z h9) X (BO X ⟨X,X,X,B3,X,⟨⟩⟩) X (uf X) ?_;try simp only[h5,C,E,F,G,H,J]
   refine Am ?_;obtain⟨h10,h⟩|⟨h10,h⟩:=ic h
   ·obtain⟨r11,h11,h⟩:=ob h;try simp only[h5,h10,C,E,F,G,H,J]
    refine B7 (B28 h11) X (BD X) X (uf X) ?_;try simp only[h5,h10,C,E,F,G,H,J]
    cases h;exact t0
   ·try simp only[h5,h10,C,E,F,G,H,J]
    cases h;exact t0
theorem B2u{a0}{a1}{a2}{r}(h:Ki a0 a1 a2=N r):FC Z 58 [.ag (X7.row a0),.ag (zD a1),.ag (X2.row a2)] [.sc (.v (.bool r))]:=by
 unfold Ki at h;refine A9 mixed aH [6] 45 ?_;simp only[aH,C,E,F,G,H,J];try simp only[C,E,F,G,H,J]
 refine A8 ?_;try simp only[C,E,F,G,H,J]
 refine A8 ?_;try simp only[C,E,F,G,H,J]
 refine A8 ?_;obtain⟨r1,h1,h⟩:=ob h;try simp only[C,E,F,G,H,J]
 refine A4 (Y0 h1) ?_;obtain⟨h2,h⟩|⟨h2,h⟩:=ic h
 ·try simp only[h2,C,E,F,G,H,J]
  refine Ax (es:=I rI ([]:P U)) ?_;try simp only[h2,C,E,F,G,H,J]
  refine B48 h ?_;try simp only[h2,C,E,F,G,H,J,pL,aM,Y]
 ·try simp only[h2,C,E,F,G,H,J]
  cases h;exact t0
/- 162:spec_Overlaps -/
def aJ:X0:=(A1 [bo 2 0,bo 3 1,A3 4 L] (A2 [fa 5 2 3,ld 6 5,fa 7 3 3,ld 8 7,(O,.mm 9 T (S 6) (S 8)),fa 10 2 4,ld 11 10,fa 12 3 4,ld 13 12,(O,.mm 14 L (S 11) (S 13)),bn 15 .lss 9 14,mv 4 15]))
theorem ju{a0}{a1}{r}(h:Kl a0 a1=N r):FC Z 162 [.ag (X1.row a0),.ag (X1.row a1)] [.sc (.v (.bool r))]:=by
 unfold Kl at h;refine A9 mixed aJ [4] 16 ?_;simp only[aJ,C,E,F,G,H,J];try simp only[C,E,F,G,H,J]
 refine A8 ?_;try simp only[C,E,F,G,H,J]
 refine A8 ?_;try simp only[C,E,F,G,H,J]
 cases h;exact t0
/- 163:spec_l09Near -/
def Uq:X0:=A1 [Ae [2,7,8] [] []] (A2 [mv 23 8,mv 24 7,bn 25 .sub 23 24,mv 26 2,bn 27 .lss 25 26,mv 6 27])
def aK:X0:=(A1 [A3 6 L] (A1 [mv 9 0,mv 10 1,(O,.mm 11 L (S 9) (S 10)),mv 7 11] (A1 [mv 12 0,mv 13 1,(O,.mm 14 T (S 12) (S 13)),mv 8 14] (Aa [mv 15 7,Ac 16 .lss 15 0,mv 17 16,Af 17 T 18 8,Af 17 T 19 7,AP 17 T 20 .add 19 9223372036854775807,AK 17 T 21 .gtr 18 20,pa 22 17 21] 22 (A2 [A3 6 L]) Uq))))
def od:=fun a2 (k_:U→U→Q V)=>∀{v3 v4} {zr},k_ v3 v4=N zr→Kp Z [2,7,8] [] [] ⟨[pI 2 a2,pI 7 v3,pI 8 v4],[],[]⟩ (.code Uq:: []) (Ag [6] [.sc (.v (.bool zr))])
theorem kk{a2}:od a2 (NX a2):=by
 intro v3 v4 r h σ hσ;unfold NX at h;try simp only[hσ,Uq,C,E,F,G,H,J]
 cases h;exact t0
theorem ka{a0}{a1}{a2}{r}(h:Ks a0 a1 a2=N r):FC Z 163 [.sc (.int .i64 a0),.sc (.int .i64 a1),.sc (.int .i64 a2)] [.sc (.v (.bool r))]:=by
 unfold Ks at h;refine A9 mixed aK [6] 28 ?_;simp only[aK,C,E,F,G,H,J];obtain⟨h1,h⟩|⟨h1,h⟩:=ic h
 ·obtain⟨h2,h⟩|⟨h2,h⟩:=ic h
  ·try simp only[h1,h2,C,E,F,G,H,J]
   cases h;exact t0
  ·try simp only[h1,h2,C,E,F,G,H,J]
   refine kk h ?_;try simp only[h1,h2,C,E,F,G,H,J,pL,aM,Y]
 ·try simp only[h1,C,E,F,G,H,J]
  refine kk h ?_;try simp only[h1,C,E,F,G,H,J,pL,aM,Y]
/- 122:spec_ConflictOf -/
def aN:X0:=(A1 [bo 4 0,bo 5 1,bo 6 2,bo 7 3,A6 8 0] (A1 [fa 10 4 1,ld 11 10,ln 12 11,Ac 13 .sub 12 1,mv 9 13] (Aa [lw 14 4 2,ca 15 114 [S 14],nt 16 15,mv 17 16,AQ 17 L 18 5 2,Ak 17 L 19 116 [S 18],AN 17 L 20 19,po 21 17 20,mv 22 21,Ab 22 L 23 6 1,Ad 22 L 24 23,Af 22 L 25 9,Ak 22 L 26 118 [S 24,K 0,S 25],AN 22 L 27 26,po 28 22 27,mv 29 28,Ab 29 L 30 6 1,Ad 29 L 31 30,Ab 29 L 32 7 1,Ad 29 L 33 32,AK 29 L 34 .neq 31 33,po 35 29 34] 35 (A2 [A6 8 0]) (Aa [fa 36 6 0,ld 37 36,fa 38 7 0,ld 39 38,bn 40 .eql 37 39] 40 (Aa [lw 41 6 5,lw 42 7 5,ca 43 162 [S 41,S 42]] 43 (A2 [A6 8 1]) (A2 [A6 8 0])) (Aa [fa 44 6 2,ld 45 44,fa 46 7 2,ld 47 46,(O,.beq 48 T (S 45) (S 47))] 48 (Aa [lw 49 6 5,lw 50 7 5,ca 51 162 [S 49,S 50],mv 52 51,Ab 52 T 53 5 1,Ad 52 T 54 53,Af 52 T 55 54,Ab 55 L 56 4 1,Ad 55 L 57 56,Ab 55 L 58 6 1,Ad 55 L 59 58,CC 55 L 60 57 59 5,Ab 55 L 61 60 4,Ad 55 L 62 61,AN 55 L 63 62,(N (52,T),.pick 64 (S 55) (KB T) (S 63)),pa 65 52 64] 65 (A2 [A6 8 2]) (A2 [A6 8 0])) (Aa [fa 66 6 3,ld 67 66,fa 68 7 3,ld 69 68,fa 70 5 0,ld 71 70,ca 72 163 [S 67,S 69,S 71],mv 73 72,Ab 73 L 74 6 4,Ad 73 L 75 74,Ab 73 L 76 7 4,Ad 73 L 77 76,Ab 73 L 78 5 0,Ad 73 L 79 78,Ak 73 L 80 163 [S 75,S 77,S 79],po 81 73 80] 81 (A2 [A6 8 3]) (Aa [fa 82 6 3,ld 83 82,fa 84 7 3,ld 85 84,bn 86 .lss 83 85,mv 87 86,Ab 87 T 88 6 4,Ad 87 T 89 88,Ab 87 T 90 7 4,Ad 87 T 91 90,AK 87 T 92 .gtr 89 91,pa 93 87 92,mv 94 93,Ab 94 L 95 7 3,Ad 94 L 96 95,Ab 94 L 97 6 3,Ad 94 L 98 97,AK 94 L 99 .lss 96 98,Af 94 L 100 99,Ab 100 T 101 7 4,Ad 100 T 102 101,Ab 100 T 103 6 4,Ad 100 T 104 103,AK 100 T 105 .gtr 102 104,(N (94,L),.pick 106 (S 100) (S 105) (KB L)),po 107 94 106] 107 (A2 [A6 8 4]) (A2 [A6 8 0]))))))))
theorem B2m{a0}{a1}{a2}{a3}{r}(h:Ns a0 a1 a2 a3=N r):FC Z 122 [.ag (X6.row a0),.ag (Xg.row a1),.ag (X1.row a2),.ag (X1.row a3)] [.sc (.v (.int .i64 r))]:=by
 unfold Ns at h;refine A9 mixed aN [8] 108 ?_;simp only[aN,C,E,F,G,H,J];try simp only[C,E,F,G,H,J]
 refine A8 ?_;try simp only[C,E,F,G,H,J]
 refine A8 ?_;try simp only[C,E,F,G,H,J]
 refine A8 ?_;try simp only[C,E,F,G,H,J]
 refine A8 ?_;obtain⟨r1,h1,h⟩:=ob h;try simp only[C,E,F,G,H,J]
 refine A4 (GN h1) ?_;obtain⟨h2,h⟩|⟨h2,h⟩:=ic h
 ·obtain⟨r3,h3,h⟩:=ob h;try simp only[h2,C,E,F,G,H,J]
  refine A4 (jw h3) ?_;obtain⟨h4,h⟩|⟨h4,h⟩:=ic h
  ·obtain⟨r5,h5,h⟩:=ob h;try simp only[h2,h4,C,E,F,G,H,J]
   refine A4 (AU h5) ?_;obtain⟨h6,h⟩|⟨h6,h⟩:=ic h
   ·obtain⟨h7,h⟩|⟨h7,h⟩:=ic h
    ·try simp only[h2,h4,h6,h7,C,E,F,G,H,J]
     cases h;exact t0
    ·obtain⟨h8,h⟩|⟨h8,h⟩:=ic h
     ·obtain⟨r9,h9,h⟩:=ob h;try simp only[h2,h4,h6,h7,h8,C,E,F,G,H,J]
      refine A4 (ju h9) ?_;obtain⟨h10,h⟩|⟨h10,h⟩:=ic h
      ·try simp only[h2,h4,h6,h7,h8,h10,C,E,F,G,H,J]
       cases h;exact t0
      ·try simp only[h2,h4,h6,h7,h8,h10,C,E,F,G,H,J]
       cases h;exact t0
     ·obtain⟨h11,h⟩|⟨h11,h⟩:=ic h
      ·obtain⟨r17,h17,h⟩:=ob h;try simp only[h2,h4,h6,h7,h8,h11,C,E,F,G,H,J]
       refine A4 (ka h17) ?_;obtain⟨h18,h⟩|⟨h18,h⟩:=ic h
       ·try simp only[h2,h4,h6,h7,h8,h11,h18,C,E,F,G,H,J]
        cases h;exact t0
       ·obtain⟨r19,h19,h⟩:=ob h;try simp only[h2,h4,h6,h7,h8,h11,h18,C,E,F,G,H,J]
        refine A4 (ka h19) ?_;obtain⟨h20,h⟩|⟨h20,h⟩:=ic h
        ·try simp only[h2,h4,h6,h7,h8,h11,h18,h20,C,E,F,G,H,J]
         cases h;exact t0
        ·obtain⟨h21,h⟩|⟨h21,h⟩:=ic h
         ·obtain⟨h22,h⟩|⟨h22,h⟩:=ic h
          ·try simp only[h2,h4,h6,h7,h8,h11,h18,h20,h21,h22,C,E,F,G,H,J]
           cases h;exact t0
          ·obtain⟨h23,h⟩|⟨h23,h⟩:=ic h
           ·obtain⟨h25,h⟩|⟨h25,h⟩:=ic h
            ·try simp only[h2,h4,h6,h7,h8,h11,h18,h20,h21,h22,h23,h25,C,E,F,G,H,J]
             cases h;exact t0
            ·try simp only[h2,h4,h6,h7,h8,h11,h18,h20,h21,h22,h23,h25,C,E,F,G,H,J]
             cases h;exact t0
           ·try simp only[h2,h4,h6,h7,h8,h11,h18,h20,h21,h22,h23,C,E,F,G,H,J]
            cases h;exact t0
         ·obtain⟨h24,h⟩|⟨h24,h⟩:=ic h
          ·obtain⟨h26,h⟩|⟨h26,h⟩:=ic h
           ·try simp only[h2,h4,h6,h7,h8,h11,h18,h20,h21,h24,h26,C,E,F,G,H,J]
            cases h;exact t0
           ·try simp only[h2,h4,h6,h7,h8,h11,h18,h20,h21,h24,h26,C,E,F,G,H,J]
            cases h;exact t0
          ·try simp only[h2,h4,h6,h7,h8,h11,h18,h20,h21,h24,C,E,F,G,H,J]
           cases h;exact t0
      ·obtain⟨r12,h12,h⟩:=ob h;try simp only[h2,h4,h6,h7,h8,h11,C,E,F,G,H,J]
       refine A4 (ju h12) ?_;obtain⟨h13,h⟩|⟨h13,h⟩:=ic h
       ·obtain⟨h14,h⟩|⟨h14,h⟩:=ic h
        ·try simp only[h2,h4,h6,h7,h8,h11,h13,h14,C,E,F,G,H,J]
         cases h;exact t0
        ·obtain⟨x15,h15,h⟩:=ob h;obtain⟨h16,h⟩|⟨h16,h⟩:=ic h
         ·try simp only[h2,h4,h6,h7,h8,h11,h13,h14,h15,h16,C,E,F,G,H,J]
          cases h;exact t0
         ·try simp only[h2,h4,h6,h7,h8,h11,h13,h14,h15,h16,C,E,F,G,H,J]
          cases h;exact t0
       ·try simp only[h2,h4,h6,h7,h8,h11,h13,C,E,F,G,H,J]
        cases h;exact t0
   ·try simp only[h2,h4,h6,C,E,F,G,H,J]
    cases h;exact t0
  ·try simp only[h2,h4,C,E,F,G,H,J]
   cases h;exact t0
 ·try simp only[h2,C,E,F,G,H,J]
  cases h;exact t0
/- 90:spec_Clashes -/
def PO:X0:=A1 [Ae [3,4,5,10,13,14,15,19,20,21] [4,5,10] []] (A1 [bn 22 .lss 21 20] (Av 22 2 3 (A1 [ia 23 19 21 5,lw 24 23 5,Al 12 [aI 0,aI 0,aB L,aI 0,aI 0],so 12 24 5] (A1 [lw 25 4 2,lw 26 5 2,lw 27 10 5,lw 28 12 5,ca 29 122 [S 25,S 26,S 27,S 28],Ac 30 .neq 29 0] (Aq 30 (A2 [A3 8 T])))) (Au 31 21)))
def Ur:X0:=(Au 32 15)
def Ll:X0:=A1 [Ae [3,4,5,13,14,15] [4,5] []] (A1 [bn 16 .lss 15 14] (Av 16 0 1 (A1 [ia 17 13 15 5,lw 18 17 5,Al 10 [aI 0,aI 0,aB L,aI 0,aI 0],so 10 18 5] (A1 [mv 19 3,ln 20 19,A6 21 0] (Ah 2 PO))) Ur))
def PP:X0:=(A2 [A3 8 L])
def aO:X0:=(A1 [bo 4 0,bo 5 1,A3 8 L] (A5 (A1 [mv 13 2,ln 14 13,A6 15 0] (Ah 0 Ll)) PP))
def ni:=fun a3 a2 v1 (a0:X6) (a1:Xg) (x3:X1) (k_:U→Q V)=>∀{v4} {zr},k_ v4=N zr→Kp Z [3,4,5,10,13,14,15,19,20,21] [4,5,10] [] ⟨[pL 3 X1.row a3,pB 4,pB 5,pB 10,pL 13 X1.row a2,pI 14 (a2.length:U),pI 15 v1,pL 19 X1.row a3,pI 20 (a3.length:U),pI 21 v4],[(4,[aM X9.row a0.Points,aM X3.row a0.Segments]),(5,(dm a1.row)),(10,(dm x3.row))],[]⟩ (.code (.loop PO):: [.blk 2,.blk 1,.code Ur,.code (.loop Ll),.blk 0,.code PP]) (Ag [8] [.sc (.v (.bool zr))])
def Yz:=fun a3 a2 (a0:X6) (a1:Xg) (k_:U→Q V)=>∀{v1} {zr},k_ v1=N zr→Kp Z [3,4,5,13,14,15] [4,5] [] ⟨[pL 3 X1.row a3,pB 4,pB 5,pL 13 X1.row a2,pI 14 (a2.length:U),pI 15 v1],[(4,[aM X9.row a0.Points,aM X3.row a0.Segments]),(5,(dm a1.row))],[]⟩ (.code (.loop Ll):: [.blk 0,.code PP]) (Ag [8] [.sc (.v (.bool zr))])
theorem B5a{a3 a2 v1 a0 a1 x3}{Oh}(xa:Yz a3 a2 a0 a1 Oh){n:W}:ni a3 a2 v1 a0 a1 x3 (If a3 a2 v1 a0 a1 x3 Oh n):=by
 induction n with
 | zero=>intro _ r h; cases h
 | succ n ih=>
  intro v4 r h σ hσ;rw[If] at h;refine Ai ?_;obtain⟨h5,h⟩|⟨h5,h⟩:=ic h
  ·obtain⟨x6,h6,h⟩:=ob h;try simp only[hσ,h5,h6,PO,C,E,F,G,H,J]
   refine Am ?_;obtain⟨r7,h7,h⟩:=ob h;try simp only[h5,h6,C,E,F,G,H,J]
   refine A4 (B2m h7) ?_;obtain⟨h8,h⟩|⟨h8,h⟩:=ic h
   ·try simp only[h5,h6,h8,C,E,F,G,H,J]
    cases h;exact t0
   ·try simp only[h5,h6,h8,C,E,F,G,H,J]
    refine ih h ?_;try simp only[h5,h6,h8,C,E,F,G,H,J,pL,aM,Y]
  ·try simp only[hσ,h5,PO,Ur,C,E,F,G,H,J]
   refine xa h ?_;try simp only[h5,C,E,F,G,H,J,pL,aM,Y]
theorem B5b{a3 a2 a0 a1}{n:W}:Yz a3 a2 a0 a1 (F9 a3 a2 a0 a1 n):=by
 induction n with
 | zero=>intro _ r h; cases h
 | succ n ih=>
  intro v1 r h σ hσ;rw[F9] at h;refine Ai ?_;obtain⟨h2,h⟩|⟨h2,h⟩:=ic h
  ·obtain⟨x3,h3,h⟩:=ob h;try simp only[hσ,h2,h3,Ll,C,E,F,G,H,J]
   refine Am ?_;try simp only[h2,h3,C,E,F,G,H,J]
   refine B5a ih h ?_;try simp only[h2,h3,C,E,F,G,H,J,pL,aM,Y]
  ·try simp only[hσ,h2,Ll,PP,C,E,F,G,H,J]
   cases h;exact t0
theorem B2l{a0}{a1}{a2}{a3}{r}(h:Nr a0 a1 a2 a3=N r):FC Z 90 [.ag (X6.row a0),.ag (Xg.row a1),.sc (.sl (I X1.row a2)),.sc (.sl (I X1.row a3))] [.sc (.v (.bool r))]:=by
 unfold Nr at h;refine A9 mixed aO [8] 33 ?_;simp only[aO,C,E,F,G,H,J];try simp only[C,E,F,G,H,J]
 refine A8 ?_;try simp only[C,E,F,G,H,J]
 refine A8 ?_;try simp only[C,E,F,G,H,J]
 refine B5b h ?_;try simp only[C,E,F,G,H,J,pL,aM,Y]
/- 92:spec_ChainsOf -/
def PQ:X0:=A1 [Ae [3,7,8,9] [] [384]] (A1 [bn 10 .lss 9 8] (Av 10 0 1 (A1 [ia 11 7 9 4,lw 12 11 4,Al 5 [aI 0,aI 0,aI 0,.nil],so 5 12 4] (.reg [mv 13 3,AD 14 5 [.int .i64 0,.int .i64 0,.bool L,.int .i64 0,.int .i64 0] 0 [],fa 15 5 3,ld 16 15,Be 17 5 40 14 16,(O,.frz 896),AD 18 1 [.sl []] 1 [(0,(S 17))],Be 19 1 24 13 18,mv 3 19])) (Au 20 9)))
def Us:X0:=(A2 [mv 21 3,mv 2 21])
def aP:X0:=(A1 [Ay 2] (A1 [AD 6 1 [.sl []] 0 [],mv 3 6] (A5 (A1 [mv 7 0,ln 8 7,A6 9 0] (Ah 0 PQ)) Us)))
def nf:=fun a0 (k_:U→(P (P X1))→Q (P (P X1)))=>∀{v1 v2} {zr},k_ v1 v2=N zr→Kp Z [3,7,8,9] [] [384] ⟨[pW 3 384,pL 7 X2.row a0,pI 8 (a0.length:U),pI 9 v1],[],[(384,1,I (rL X1.row) v2)]⟩ (.code (.loop PQ):: [.blk 0,.code Us]) (Ag [2] [.sc (.o 1 (I (rL X1.row) zr))])
theorem B5c{a0}{n:W}:nf a0 (Ib a0 n):=by
 induction n with
 | zero=>intro _ _ r h; cases h
 | succ n ih=>
  intro v1 v2 r h σ hσ;rw[Ib] at h;refine Ai ?_;obtain⟨h3,h⟩|⟨h3,h⟩:=ic h
  ·obtain⟨x4,h4,h⟩:=ob h;try simp only[hσ,h3,h4,PQ,C,E,F,G,H,J]
   refine Am ?_;try simp only[h3,h4,C,E,F,G,H,J]
   refine Ax (es:=I X1.row ([]:P X1)) ?_;obtain⟨h5,h⟩:=AT h;try simp only[h3,h4,h5,C,E,F,G,H,J]
   refine D0 ?_;try simp only[h3,h4,h5,C,E,F,G,H,J]
   refine Ax (es:=I (rL X1.row) ([x4.Passages]:P (P X1))) ?_;obtain⟨h6,h⟩:=AT h;try simp only[h3,h4,h5,h6,C,E,F,G,H,J]
   refine ih h ?_;try simp only[h3,h4,h5,h6,C,E,F,G,H,J,pL,aM,Y]
  ·try simp only[hσ,h3,PQ,Us,C,E,F,G,H,J]
   cases h;exact t0
theorem B2k{a0}{r}(h:Nq a0=N r):FC Z 92 [.sc (.sl (I X2.row a0))] [.sc (.o 1 (I (rL X1.row) r))]:=by
 unfold Nq at h;refine A9 mixed aP [2] 22 ?_;simp only[aP,C,E,F,G,H,J];try simp only[C,E,F,G,H,J]
 refine Ax (es:=I (rL X1.row) ([]:P (P X1))) ?_;try simp only[C,E,F,G,H,J]
 refine B5c h ?_;try simp only[C,E,F,G,H,J,pL,aM,Y]
end Go.Vi
