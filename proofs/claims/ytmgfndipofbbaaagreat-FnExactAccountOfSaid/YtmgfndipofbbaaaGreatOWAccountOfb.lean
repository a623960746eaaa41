/-
Walks. No condition.
-/
import Derived.Test.YtmgfndipofbbaaaGreatONf
import Derived.Test.YtmgfndipofbbaaaGreatChecked
import Derived.KernelRfl
import Derived.Test.YtmgfndipofbbaaaGreatOWAccountOfa
namespace Go.Vi
open Go.Proofs
set_option linter.all false
set_option maxRecDepth 4000
set_option maxHeartbeats 2000000
open Nat renaming reduceBEq → C, reduceMul → E, reduceAdd → F, reduceDiv → G, le_of_ble_eq_true → uf
open Int renaming reduceBEq → H
attribute [local irreducible] go Bo
open List renaming map_nil → Y, map → Z, all_eq_true → zE
open Tryz renaming prog → I
open Int renaming toNat → zA
open Xa renaming row → zB
open Xd renaming row → zC
open Xb renaming row → zD
open Xc renaming row → zF
open Bool renaming true → T, false → L
open Option renaming some → N, none → O
open _root_ renaming List → P, Option → Q, Int → U, Bool → V, Nat → W, rfl → X
/- 385:spec_PassageOk -/
def ZN:X0:=(A1 [bo 3 0,bo 5 2,A3 6 L] (Ab [lw 7 3 2,ca 8 219 [S 7],nt 9 8,mv 10 9,Af 10 L 11 1,Am 10 L 12 288 [S 11],AM 10 L 13 12,po 14 10 13,mv 15 14,Ac 15 L 16 5 0,Ad 15 L 17 16,Af 15 L 18 1,B3 15 L 19 18,AQ 15 L 20 .sub 19 1,Am 15 L 21 169 [S 17,K 0,S 20],AM 15 L 22 21,po 23 15 22,mv 24 23,Ac 24 L 25 5 1,Ad 24 L 26 25,Ac 24 L 27 3 1,Ad 24 L 28 27,B3 24 L 29 28,AQ 24 L 30 .sub 29 1,Am 24 L 31 169 [S 26,K 0,S 30],AM 24 L 32 31,po 33 24 32,mv 34 33,Ac 34 L 35 5 3,Ad 34 L 36 35,Am 34 L 37 169 [S 36,K 0,K 2880],AM 34 L 38 37,po 39 34 38] 39 (A2 [A3 6 L]) (A6 (.drw [(N [52],fa 40 5 4),(N [52],ld 41 40),(N [52],fa 42 5 3),(N [52],ld 43 42),o0 (lw 44 3 2),o0 (fa 45 5 1),o0 (ld 46 45),o0 (mv 47 1),o0 (fa 48 5 0),o0 (ld 49 48),o0 (ia 50 47 49 6),o0 (lw 51 50 6),o0 (ca 52 372 [S 44,S 46,S 51]),o0 (bn 53 .add 43 52),o0 (bn 54 .eql 41 53),o0 (mv 55 54),o0 (Ac 55 T 56 5 4),o0 (Ad 55 T 57 56),o0 (AQ 55 T 58 .leq 57 2880),o0 (pa 59 55 58),o0 (mv 6 59)]) .ret)))
theorem jP{a0}{a1}{a2}{r}(h:Kg a0 a1 a2=N r):FC I 385 [.ag (X6.row a0),.sc (.sl (Z X5.row a1)),.ag (X1.row a2)] [.sc (.v (.bool r))]:=by
 unfold Kg at h;refine Aa A9 ZN [6] 60 ?_;simp only[ZN,C,E,F,G,H,J];try simp only[C,E,F,G,H,J]
 refine A8 ?_;try simp only[C,E,F,G,H,J]
 refine A8 ?_;obtain⟨r1,h1,h⟩:=ob h;try simp only[C,E,F,G,H,J]
 refine A4 (GF h1) ?_;obtain⟨h2,h⟩|⟨h2,h⟩:=ic h
 ·obtain⟨r3,h3,h⟩:=ob h;try simp only[h2,C,E,F,G,H,J]
  refine A4 (jJ h3) ?_;obtain⟨h4,h⟩|⟨h4,h⟩:=ic h
  ·obtain⟨r5,h5,h⟩:=ob h;try simp only[h2,h4,C,E,F,G,H,J]
   refine A4 (AU h5) ?_;obtain⟨h6,h⟩|⟨h6,h⟩:=ic h
   ·obtain⟨r7,h7,h⟩:=ob h;try simp only[h2,h4,h6,C,E,F,G,H,J]
    refine A4 (AU h7) ?_;obtain⟨h8,h⟩|⟨h8,h⟩:=ic h
    ·obtain⟨r9,h9,h⟩:=ob h;try simp only[h2,h4,h6,h8,C,E,F,G,H,J]
     refine A4 (AU h9) ?_;obtain⟨h10,h⟩|⟨h10,h⟩:=ic h
     ·try simp only[h2,h4,h6,h8,h10,C,E,F,G,H,J]
      refine Ao ?_;obtain⟨x11,h11,h⟩:=ob h;obtain⟨r12,h12,h⟩:=ob h;try simp only[h2,h4,h6,h8,h10,h11,C,E,F,G,H,J]
      refine AH (jN h12) ?_;obtain⟨h13,h⟩|⟨h13,h⟩:=ic h
      ·try simp only[h2,h4,h6,h8,h10,h11,h13,C,E,F,G,H,J]
       cases h;exact t0
      ·try simp only[h2,h4,h6,h8,h10,h11,h13,C,E,F,G,H,J]
       cases h;exact t0
     ·try simp only[h2,h4,h6,h8,h10,C,E,F,G,H,J]
      cases h;exact t0
    ·try simp only[h2,h4,h6,h8,C,E,F,G,H,J]
     cases h;exact t0
   ·try simp only[h2,h4,h6,C,E,F,G,H,J]
    cases h;exact t0
  ·try simp only[h2,h4,C,E,F,G,H,J]
   cases h;exact t0
 ·try simp only[h2,C,E,F,G,H,J]
  cases h;exact t0
/- 386:spec_l08Ends -/
def ZP:X0:=(A1 [bo 2 0,bo 3 1,A5 4 0,A5 5 0] (A1 [fa 7 2 1,ld 8 7,fa 9 3 1,ld 10 9,ia 11 8 10 5,lw 12 11 5,Ai 6 [aI 0,aI 0,aI 0,aI 0,aB L],so 6 12 5] (Ab [fa 13 3 2,ld 14 13] 14 (A6 (.drw [o0 (fa 15 6 0),o0 (ld 16 15),o0 (fa 17 6 1),o0 (ld 18 17),o0 (mv 4 16),o0 (mv 5 18)]) .ret) (A6 (.drw [o0 (fa 19 6 1),o0 (ld 20 19),o0 (fa 21 6 0),o0 (ld 22 21),o0 (mv 4 20),o0 (mv 5 22)]) .ret))))
theorem OR{a0}{a1}{r}(h:Fb a0 a1=N r):FC I 386 [.ag (X6.row a0),.ag (X1.row a1)] [.sc (.v (.int .i64 r.1)),.sc (.v (.int .i64 r.2))]:=by
 unfold Fb at h;refine Aa A9 ZP [4,5] 23 ?_;simp only[ZP,C,E,F,G,H,J];try simp only[C,E,F,G,H,J]
 refine A8 ?_;try simp only[C,E,F,G,H,J]
 refine A8 ?_;obtain⟨x1,h1,h⟩:=ob h;try simp only[h1,C,E,F,G,H,J]
 refine Al ?_;obtain⟨h2,h⟩|⟨h2,h⟩:=ic h
 ·try simp only[h1,h2,C,E,F,G,H,J]
  refine Ao ?_;try simp only[h1,h2,C,E,F,G,H,J]
  cases h;trivial
 ·try simp only[h1,h2,C,E,F,G,H,J]
  refine Ao ?_;try simp only[h1,h2,C,E,F,G,H,J]
  cases h;trivial
/- 373:spec_l14Tugs -/
def Lg:X0:=A1 [Ag [1,3,8,10,11,12,13,15,16,17] [3,10] [896]] (A6 (A1 [mv 32 13,mv 33 1,fa 34 10 0,ld 35 34,ia 36 33 35 6,fa 37 36 4,ld 38 37,bn 39 .lss 32 38] (AS 39 .skip (.exit 2))) (A6 (.block 3 (.reg [mv 42 8,fa 43 10 3,ld 44 43,fa 45 10 4,ld 46 45,mv 47 11,mv 48 12,Bv 49 [aI 0,aI 0,aI 0,aI 0] [(0,1,(S 44)),(1,1,(S 46)),(2,1,(S 47)),(3,1,(S 48))],AO 50 4 [.int .i64 0,.int .i64 0,.int .i64 0,.int .i64 0] 1 [(0,(S 49))],Bl 51 4 32 42 50,mv 8 51])) (.reg [mv 40 13,Ae 41 .add 40 1,mv 13 41])))
def PO:X0:=(A1 [mv 52 8,ln 53 52,Ae 54 .gtr 53 12] (At 54 (A2 [AA 6,A3 7 L])))
def Uf:X0:=(Av 55 17)
def Li:X0:=A1 [Ag [1,3,8,15,16,17] [3] [896]] (A1 [bn 18 .lss 17 16] (Aw 18 0 1 (A1 [ia 19 15 17 5,lw 20 19 5,Ai 10 [aI 0,aI 0,aB L,aI 0,aI 0],so 10 20 5] (Ab [lw 21 3 2,mv 22 1,lw 23 10 5,ca 24 385 [S 21,S 22,S 23],nt 25 24] 25 (A2 [AA 6,A3 7 L]) (A1 [lw 27 3 2,lw 28 10 5,ca 29 386 [S 27,S 28],mv 26 29,xt 30 26 0,xt 31 26 1,mv 11 30,mv 12 31] (A6 (A1 [A5 13 0] (Aj 2 Lg)) PO)))) Uf))
def PP:X0:=(A2 [mv 56 8,mv 6 56,A3 7 T])
def ZQ:X0:=(A1 [bo 3 0,AA 6,A3 7 L] (A1 [AO 14 4 [.int .i64 0,.int .i64 0,.int .i64 0,.int .i64 0] 0 [],mv 8 14] (A6 (A1 [mv 15 2,ln 16 15,A5 17 0] (Aj 0 Li)) PP)))
def oA:=fun a1 (r7:U × U) a2 v1 (a0:X6) (x4:X1) (k_:U→(P X8)→Q ((P X8) × V))=>∀{v8 v9} {zr},k_ v8 v9=N zr→Kp I [1,3,8,10,11,12,13,15,16,17] [3,10] [896] ⟨[pL 1 X5.row a1,pB 3,pW 8 896,pB 10,pI 11 r7.1,pI 12 r7.2,pI 13 v8,pL 15 X1.row a2,pI 16 (a2.length:U),pI 17 v1],[(3,[aM X9.row a0.Points,aM X3.row a0.Segments]),(10,(dm x4.row))],[(896,4,Z X8.row v9)]⟩ (.code (.loop Lg):: [.blk 2,.code PO,.blk 1,.code Uf,.code (.loop Li),.blk 0,.code PP]) (Ah [6,7] [.sc (.o 4 (Z X8.row zr.1)),.sc (.v (.bool zr.2))])
def Yi:=fun a1 a2 (a0:X6) (k_:U→(P X8)→Q ((P X8) × V))=>∀{v1 v2} {zr},k_ v1 v2=N zr→Kp I [1,3,8,15,16,17] [3] [896] ⟨[pL 1 X5.row a1,pB 3,pW 8 896,pL 15 X1.row a2,pI 16 (a2.length:U),pI 17 v1],[(3,[aM X9.row a0.Points,aM X3.row a0.Segments])],[(896,4,Z X8.row v2)]⟩ (.code (.loop Li):: [.blk 0,.code PP]) (Ah [6,7] [.sc (.o 4 (Z X8.row zr.1)),.sc (.v (.bool zr.2))])
theorem B3j{a1 r7 a2 v1 a0 x4}{Od}(wn:Yi a1 a2 a0 Od){n:W}:oA a1 r7 a2 v1 a0 x4 (Gg a1 r7 a2 v1 a0 x4 Od n):=by
 induction n with
 | zero=>intro _ _ r h; cases h
 | succ n ih=>
  intro v8 v9 r h σ hσ;rw[Gg] at h;refine Ak ?_;obtain⟨x10,h10,h⟩:=ob h;obtain⟨h11,h⟩|⟨h11,h⟩:=ic h
  ·try simp only[hσ,h10,h11,Lg,C,E,F,G,H,J]
   refine AD (es:=Z X8.row ([(⟨x4.Start,x4.End,r7.1,r7.2⟩:X8)]:P X8)) ?_;obtain⟨h12,h⟩:=Ba h;try simp only[h10,h11,h12,C,E,F,G,H,J]
   refine ih h ?_;try simp only[h10,h11,h12,C,E,F,G,H,J,Y]
  ·obtain⟨h13,h⟩|⟨h13,h⟩:=ic h
   ·try simp only[hσ,h10,h11,h13,Lg,PO,C,E,F,G,H,J]
    cases h;trivial
   ·try simp only[hσ,h10,h11,h13,Lg,PO,Uf,C,E,F,G,H,J]
    refine wn h ?_;try simp only[h10,h11,h13,C,E,F,G,H,J,Y]
theorem B3k{a1 a2 a0}{n:W}:Yi a1 a2 a0 (Fe a1 a2 a0 n):=by
 induction n with
 | zero=>intro _ _ r h; cases h
 | succ n ih=>
  intro v1 v2 r h σ hσ;rw[Fe] at h;refine Ak ?_;obtain⟨h3,h⟩|⟨h3,h⟩:=ic h
  ·obtain⟨x4,h4,h⟩:=ob h;try simp only[hσ,h3,h4,Li,C,E,F,G,H,J]
   refine Al ?_;obtain⟨r5,h5,h⟩:=ob h;try simp only[h3,h4,C,E,F,G,H,J]
   refine A4 (jP h5) ?_;obtain⟨h6,h⟩|⟨h6,h⟩:=ic h
   ·obtain⟨r7,h7,h⟩:=ob h;try simp only[h3,h4,h6,C,E,F,G,H,J]
    refine A4 (OR h7) ?_;try simp only[h3,h4,h6,C,E,F,G,H,J]
    refine B3j ih h ?_;try simp only[h3,h4,h6,C,E,F,G,H,J,Y]
   ·try simp only[h3,h4,h6,C,E,F,G,H,J]
    cases h;trivial
  ·try simp only[hσ,h3,Li,PP,C,E,F,G,H,J]
   cases h;trivial
theorem B14{a0}{a1}{a2}{r}(h:Sm a0 a1 a2=N r):FC I 373 [.ag (X6.row a0),.sc (.sl (Z X5.row a1)),.sc (.sl (Z X1.row a2))] [.sc (.o 4 (Z X8.row r.1)),.sc (.v (.bool r.2))]:=by
 unfold Sm at h;refine Aa A9 ZQ [6,7] 57 ?_;simp only[ZQ,C,E,F,G,H,J];try simp only[C,E,F,G,H,J]
 refine A8 ?_;try simp only[C,E,F,G,H,J]
 refine AD (es:=Z X8.row ([]:P X8)) ?_;try simp only[C,E,F,G,H,J]
 refine B3k h ?_;try simp only[C,E,F,G,H,J,Y]
/- 396:spec_l13Duty -/
def ZR:X0:=(A1 [bo 1 0,A3 2 L] (A2 [fa 3 1 0,ld 4 3,ca 5 169 [S 4,K 0,K 2880],mv 6 5,Ac 6 T 7 1 1,Ad 6 T 8 7,Ac 6 T 9 1 0,Ad 6 T 10 9,AI 6 T 11 .gtr 8 10,pa 12 6 11,mv 13 12,Ac 13 T 14 1 1,Ad 13 T 15 14,AQ 13 T 16 .leq 15 2880,pa 17 13 16,mv 18 17,Ac 18 T 19 1 2,Ad 18 T 20 19,Am 18 T 21 169 [S 20,K 0,K 7],pa 22 18 21,mv 23 22,Ac 23 T 24 1 3,Ad 23 T 25 24,Am 23 T 26 169 [S 25,K 0,K 7],pa 27 23 26,mv 2 27]))
theorem XI{a0}{r}(h:IB a0=N r):FC I 396 [.ag (X8.row a0)] [.sc (.v (.bool r))]:=by
 unfold IB at h;refine Aa A9 ZR [2] 28 ?_;simp only[ZR,C,E,F,G,H,J];try simp only[C,E,F,G,H,J]
 refine A8 ?_;obtain⟨r1,h1,h⟩:=ob h;try simp only[C,E,F,G,H,J]
 refine A4 (AU h1) ?_;obtain⟨h2,h⟩|⟨h2,h⟩:=ic h
 ·obtain⟨h3,h⟩|⟨h3,h⟩:=ic h
  ·obtain⟨h4,h⟩|⟨h4,h⟩:=ic h
   ·obtain⟨r5,h5,h⟩:=ob h;try simp only[h2,h3,h4,C,E,F,G,H,J]
    refine A4 (AU h5) ?_;obtain⟨h6,h⟩|⟨h6,h⟩:=ic h
    ·obtain⟨r7,h7,h⟩:=ob h;try simp only[h2,h3,h4,h6,C,E,F,G,H,J]
     refine A4 (AU h7) ?_;try simp only[h2,h3,h4,h6,C,E,F,G,H,J]
     cases h;exact t0
    ·try simp only[h2,h3,h4,h6,C,E,F,G,H,J]
     cases h;exact t0
   ·try simp only[h2,h3,h4,C,E,F,G,H,J]
    cases h;exact t0
  ·try simp only[h2,h3,C,E,F,G,H,J]
   cases h;exact t0
 ·try simp only[h2,C,E,F,G,H,J]
  cases h;exact t0
/- 387:spec_DutiesOk -/
def PR:X0:=A1 [Ag [8,9,10] [] []] (A1 [bn 11 .lss 10 9] (Aw 11 0 1 (A1 [ia 12 8 10 4,lw 13 12 4,Ai 4 [aI 0,aI 0,aI 0,aI 0],so 4 13 4] (A1 [lw 14 4 4,ca 15 396 [S 14],nt 16 15] (At 16 (A2 [A3 2 L])))) (Av 17 10)))
def Ug:X0:=(A2 [A3 2 T])
def ZS:X0:=(A1 [A3 2 L] (Ab [mv 5 0,ln 6 5,Ae 7 .gtr 6 12] 7 (A2 [A3 2 L]) (A6 (A1 [mv 8 0,ln 9 8,A5 10 0] (Aj 0 PR)) Ug)))
def nE:=fun a0 (k_:U→Q V)=>∀{v2} {zr},k_ v2=N zr→Kp I [8,9,10] [] [] ⟨[pL 8 X8.row a0,pI 9 (a0.length:U),pI 10 v2],[],[]⟩ (.code (.loop PR):: [.blk 0,.code Ug]) (Ah [2] [.sc (.v (.bool zr))])
theorem B3l{a0}{n:W}:nE a0 (Ia a0 n):=by
 induction n with
 | zero=>intro _ r h; cases h
 | succ n ih=>
  intro v2 r h σ hσ;rw[Ia] at h;refine Ak ?_;obtain⟨h3,h⟩|⟨h3,h⟩:=ic h
  ·obtain⟨x4,h4,h⟩:=ob h;try simp only[hσ,h3,h4,PR,C,E,F,G,H,J]
   refine Al ?_;obtain⟨r5,h5,h⟩:=ob h;try simp only[h3,h4,C,E,F,G,H,J]
   refine A4 (XI h5) ?_;obtain⟨h6,h⟩|⟨h6,h⟩:=ic h
   ·try simp only[h3,h4,h6,C,E,F,G,H,J]
    refine ih h ?_;try simp only[h3,h4,h6,C,E,F,G,H,J,Y]
   ·try simp only[h3,h4,h6,C,E,F,G,H,J]
    cases h;exact t0
  ·try simp only[hσ,h3,PR,Ug,C,E,F,G,H,J]
   cases h;exact t0
theorem B00{a0}{r}(h:Nm a0=N r):FC I 387 [.sc (.sl (Z X8.row a0))] [.sc (.v (.bool r))]:=by
 unfold Nm at h;refine Aa A9 ZS [2] 18 ?_;simp only[ZS,C,E,F,G,H,J];obtain⟨h1,h⟩|⟨h1,h⟩:=ic h
 ·try simp only[h1,C,E,F,G,H,J]
  cases h;exact t0
 ·try simp only[h1,C,E,F,G,H,J]
  refine B3l h ?_;try simp only[h1,C,E,F,G,H,J,Y]
/- 398:spec_Gap -/
def PS:X0:=A1 [Ag [0,1,6,7,25] [6,7] []] (At 25 (A2 [A5 8 0,A3 9 L]))
def Uh:X0:=(A2 [mv 26 0,mv 27 1,fa 28 6 3,ld 29 28,Ae 30 .mul 29 8,fa 31 7 2,ld 32 31,bn 33 .add 30 32,ia 34 27 33 1,ld 35 34,bn 36 .add 26 35,mv 8 36,A3 9 T])
def ZT:X0:=(A1 [bo 6 2,bo 7 3,A5 8 0,A3 9 L] (A6 (A1 [mv 10 0,mv 11 1,ca 12 343 [S 10,S 11],nt 13 12,mv 14 13,Ac 14 L 15 6 3,Ad 14 L 16 15,Am 14 L 17 169 [S 16,K 0,K 7],AM 14 L 18 17,po 19 14 18,mv 20 19,Ac 20 L 21 7 2,Ad 20 L 22 21,Am 20 L 23 169 [S 22,K 0,K 7],AM 20 L 24 23,po 25 20 24] PS) Uh))
def nH:=fun a0 a1 (a2:X8) (a3:X8) (k_:V→Q (U × V))=>∀{v6} {zr},k_ v6=N zr→Kp I [0,1,6,7,25] [6,7] [] ⟨[pI 0 a0,pL 1 rI a1,pB 6,pB 7,(25,vc (aB v6))],[(6,(dm a2.row)),(7,(dm a3.row))],[]⟩ (.code PS:: [.code Uh]) (Ah [8,9] [.sc (.v (.int .i64 zr.1)),.sc (.v (.bool zr.2))])
theorem XP{a0 a1 a2 a3}:nH a0 a1 a2 a3 (K9 a0 a1 a2 a3):=by
 intro v6 r h σ hσ;unfold K9 at h;obtain⟨h7,h⟩|⟨h7,h⟩:=ic h
 ·try simp only[hσ,h7,PS,C,E,F,G,H,J]
  cases h;trivial
 ·obtain⟨x8,h8,h⟩:=ob h;try simp only[hσ,h7,h8,PS,Uh,C,E,F,G,H,J]
  cases h;trivial
theorem B01{a0}{a1}{a2}{a3}{r}(h:Se a0 a1 a2 a3=N r):FC I 398 [.sc (.int .i64 a0),.sc (.sl (Z rI a1)),.ag (X8.row a2),.ag (X8.row a3)] [.sc (.v (.int .i64 r.1)),.sc (.v (.bool r.2))]:=by
 unfold Se at h;refine Aa A9 ZT [8,9] 37 ?_;simp only[ZT,C,E,F,G,H,J];try simp only[C,E,F,G,H,J]
 refine A8 ?_;try simp only[C,E,F,G,H,J]
 refine A8 ?_;obtain⟨r1,h1,h⟩:=ob h;try simp only[C,E,F,G,H,J]
 refine A4 (XJ h1) ?_;obtain⟨h2,h⟩|⟨h2,h⟩:=ic h
 ·obtain⟨r3,h3,h⟩:=ob h;try simp only[h2,C,E,F,G,H,J]
  refine A4 (AU h3) ?_;obtain⟨h4,h⟩|⟨h4,h⟩:=ic h
  ·obtain⟨r5,h5,h⟩:=ob h;try simp only[h2,h4,C,E,F,G,H,J]
   refine A4 (AU h5) ?_;try simp only[h2,h4,C,E,F,G,H,J]
   refine XP h ?_;try simp only[h2,h4,C,E,F,G,H,J,Y]
  ·try simp only[h2,h4,C,E,F,G,H,J]
   refine XP h ?_;try simp only[h2,h4,C,E,F,G,H,J,Y]
 ·try simp only[h2,C,E,F,G,H,J]
  refine XP h ?_;try simp only[h2,C,E,F,G,H,J,Y]
/- 397:spec_CanFollow -/
def ZU:X0:=(A1 [bo 6 2,bo 7 3,A3 8 L] (A1 [mv 12 0,mv 13 1,lw 14 6 4,lw 15 7 4,ca 16 398 [S 12,S 13,S 14,S 15],mv 11 16,xt 17 11 0,xt 18 11 1,mv 9 17,mv 10 18] (A2 [mv 19 10,mv 20 19,AL 20 T 21 6 4,Am 20 T 22 396 [S 21],pa 23 20 22,mv 24 23,AL 24 T 25 7 4,Am 24 T 26 396 [S 25],pa 27 24 26,mv 28 27,Ac 28 T 29 6 1,Ad 28 T 30 29,Af 28 T 31 9,AI 28 T 32 .add 30 31,Ac 28 T 33 7 0,Ad 28 T 34 33,AI 28 T 35 .leq 32 34,pa 36 28 35,mv 8 36])))
theorem jI{a0}{a1}{a2}{a3}{r}(h:K6 a0 a1 a2 a3=N r):FC I 397 [.sc (.int .i64 a0),.sc (.sl (Z rI a1)),.ag (X8.row a2),.ag (X8.row a3)] [.sc (.v (.bool r))]:=by
 unfold K6 at h;refine Aa A9 ZU [8] 37 ?_;simp only[ZU,C,E,F,G,H,J];try simp only[C,E,F,G,H,J]
 refine A8 ?_;try simp only[C,E,F,G,H,J]
 refine A8 ?_;obtain⟨r1,h1,h⟩:=ob h;try simp only[C,E,F,G,H,J]
 refine A4 (B01 h1) ?_;obtain⟨h2,h⟩|⟨h2,h⟩:=ic h
 ·obtain⟨r3,h3,h⟩:=ob h;try simp only[h2,C,E,F,G,H,J]
  refine A4 (XI h3) ?_;obtain⟨h4,h⟩|⟨h4,h⟩:=ic h
  ·obtain⟨r5,h5,h⟩:=ob h;try simp only[h2,h4,C,E,F,G,H,J]
   refine A4 (XI h5) ?_;obtain⟨h6,h⟩|⟨h6,h⟩:=ic h
   ·try simp only[h2,h4,h6,C,E,F,G,H,J]
    cases h;exact t0
   ·try simp only[h2,h4,h6,C,E,F,G,H,J]
    cases h;exact t0
  ·try simp only[h2,h4,C,E,F,G,H,J]
   cases h;exact t0
 ·try simp only[h2,C,E,F,G,H,J]
  cases h;exact t0
/- 388:spec_l13Both -/
def PT:X0:=A1 [Ag [0,1,2,7,9,10,14,15,16,21,22,23] [9] [832,1280]] (A1 [bn 24 .lss 23 22] (Aw 24 2 3 (A1 [ia 25 21 23 4,lw 26 25 4,Ai 12 [aI 0,aI 0,aI 0,aI 0],so 12 26 4] (.reg [mv 27 10,mv 28 0,mv 29 1,lw 30 9 4,lw 31 12 4,ca 32 397 [S 28,S 29,S 30,S 31],mv 33 32,Af 33 L 34 0,Af 33 L 35 1,AL 33 L 36 12 4,AL 33 L 37 9 4,Am 33 L 38 397 [S 34,S 35,S 36,S 37],po 39 33 38,AO 40 1 [.bool L] 1 [(0,(S 39))],Bl 41 1 1 27 40,mv 10 41])) (Av 42 23)))
def Uj:X0:=(.reg [mv 43 7,mv 44 10,(O,.frz 1280),AO 45 1 [.sl []] 1 [(0,(S 44))],Bl 46 1 24 43 45,mv 7 46])
def Uk:X0:=(Av 47 16)
def Lj:X0:=A1 [Ag [0,1,2,7,14,15,16] [] [832]] (A1 [bn 17 .lss 16 15] (Aw 17 0 1 (A1 [ia 18 14 16 4,lw 19 18 4,Ai 9 [aI 0,aI 0,aI 0,aI 0],so 9 19 4] (A1 [AO 20 1 [.bool L] 0 [],mv 10 20] (A6 (A1 [mv 21 2,ln 22 21,A5 23 0] (Aj 2 PT)) Uj))) Uk))
def PU:X0:=(A2 [mv 48 7,mv 6 48])
def ZV:X0:=(A1 [AA 6] (A1 [AO 13 1 [.sl []] 0 [],mv 7 13] (A6 (A1 [mv 14 2,ln 15 14,A5 16 0] (Aj 0 Lj)) PU)))
def nv:=fun a0 a1 a2 v1 (x4:X8) v2 (k_:U→(P V)→Q (P (P V)))=>∀{v5 v6} {zr},k_ v5 v6=N zr→Kp I [0,1,2,7,9,10,14,15,16,21,22,23] [9] [832,1280] ⟨[pI 0 a0,pL 1 rI a1,pL 2 X8.row a2,pW 7 832,pB 9,pW 10 1280,pL 14 X8.row a2,pI 15 (a2.length:U),pI 16 v1,pL 21 X8.row a2,pI 22 (a2.length:U),pI 23 v5],[(9,(dm x4.row))],[(832,1,Z (rL rB) v2),(1280,1,Z rB v6)]⟩ (.code (.loop PT):: [.blk 2,.code Uj,.blk 1,.code Uk,.code (.loop Lj),.blk 0,.code PU]) (Ah [6] [.sc (.o 1 (Z (rL rB) zr))])
def Yh:=fun a0 a1 a2 (k_:U→(P (P V))→Q (P (P V)))=>∀{v1 v2} {zr},k_ v1 v2=N zr→Kp I [0,1,2,7,14,15,16] [] [832] ⟨[pI 0 a0,pL 1 rI a1,pL 2 X8.row a2,pW 7 832,pL 14 X8.row a2,pI 15 (a2.length:U),pI 16 v1],[],[(832,1,Z (rL rB) v2)]⟩ (.code (.loop Lj):: [.blk 0,.code PU]) (Ah [6] [.sc (.o 1 (Z (rL rB) zr))])
theorem B3m{a0 a1 a2 v1 x4 v2}{KC}(wm:Yh a0 a1 a2 KC){n:W}:nv a0 a1 a2 v1 x4 v2 (Gc a0 a1 a2 v1 x4 v2 KC n):=by
 induction n with
 | zero=>intro _ _ r h; cases h
 | succ n ih=>
  intro v5 v6 r h σ hσ;rw[Gc] at h;refine Ak ?_;obtain⟨h7,h⟩|⟨h7,h⟩:=ic h
  ·obtain⟨x8,h8,h⟩:=ob h;try simp only[hσ,h7,h8,PT,C,E,F,G,H,J]
   refine Al ?_;obtain⟨r9,h9,h⟩:=ob h;try simp only[h7,h8,C,E,F,G,H,J]
   refine A4 (jI h9) ?_;obtain⟨h10,h⟩|⟨h10,h⟩:=ic h
   ·try simp only[h7,h8,h10,C,E,F,G,H,J]
    refine AD (es:=Z rB ([T]:P V)) ?_;obtain⟨h11,h⟩:=Ba h;try simp only[h7,h8,h10,h11,C,E,F,G,H,J]
    refine ih h ?_;try simp only[h7,h8,h10,h11,C,E,F,G,H,J,Y]
   ·obtain⟨r12,h12,h⟩:=ob h;try simp only[h7,h8,h10,C,E,F,G,H,J]
    refine A4 (jI h12) ?_;try simp only[h7,h8,h10,C,E,F,G,H,J]
    refine AD (es:=Z rB ([r12]:P V)) ?_;obtain⟨h13,h⟩:=Ba h;try simp only[h7,h8,h10,h13,C,E,F,G,H,J]
    refine ih h ?_;try simp only[h7,h8,h10,h13,C,E,F,G,H,J,Y]
  ·try simp only[hσ,h7,PT,Uj,C,E,F,G,H,J]
   refine D3 ?_;try simp only[h7,C,E,F,G,H,J]
   refine AD (es:=Z (rL rB) ([v6]:P (P V))) ?_;obtain⟨h14,h⟩:=Ba h;try simp only[h7,h14,Uk,C,E,F,G,H,J]
   refine wm h ?_;try simp only[h7,h14,C,E,F,G,H,J,Y]
theorem B3n{a0 a1 a2}{n:W}:Yh a0 a1 a2 (Fc a0 a1 a2 n):=by
 induction n with
 | zero=>intro _ _ r h; cases h
 | succ n ih=>
  intro v1 v2 r h σ hσ;rw[Fc] at h;refine Ak ?_;obtain⟨h3,h⟩|⟨h3,h⟩:=ic h
  ·obtain⟨x4,h4,h⟩:=ob h;try simp only[hσ,h3,h4,Lj,C,E,F,G,H,J]
   refine Al ?_;try simp only[h3,h4,C,E,F,G,H,J]
   refine AD (es:=Z rB ([]:P V)) ?_;try simp only[h3,h4,C,E,F,G,H,J]
   refine B3m ih h ?_;try simp only[h3,h4,C,E,F,G,H,J,Y]
  ·try simp only[hσ,h3,Lj,PU,C,E,F,G,H,J]
   cases h;exact t0
theorem B10{a0}{a1}{a2}{r}(h:NR a0 a1 a2=N r):FC I 388 [.sc (.int .i64 a0),.sc (.sl (Z rI a1)),.sc (.sl (Z X8.row a2))] [.sc (.o 1 (Z (rL rB) r))]:=by
 unfold NR at h;refine Aa A9 ZV [6] 49 ?_;simp only[ZV,C,E,F,G,H,J];try simp only[C,E,F,G,H,J]
 refine AD (es:=Z (rL rB) ([]:P (P V))) ?_;try simp only[C,E,F,G,H,J]
 refine B3n h ?_;try simp only[C,E,F,G,H,J,Y]
/- 389:spec_l13Search -/
def PV:X0:=A1 [Ag [0,1,2,8,23,24,25] [] []] (A1 [bn 26 .lss 25 24] (Aw 26 0 1 (A1 [ia 27 23 25 1,ld 28 27,mv 10 28] (.reg [mv 29 8,mv 30 10,Ae 31 .add 30 1,(O,.mm 32 T (S 29) (S 31)),mv 8 32])) (Av 33 25)))
def GP:X0:=A1 [Ag [0,1,2,8,11,12,44,45,46] [] []] (A1 [bn 47 .lss 46 45] (Aw 47 4 5 (A1 [mv 48 46,ia 49 44 46 1,ld 50 49,mv 13 48,mv 14 50] (A1 [mv 51 14,mv 52 11,bn 53 .eql 51 52,mv 54 53,Af 54 T 55 0,Af 54 T 56 1,B3 54 T 57 56,CB 54 T 58 55 57 1,Ad 54 T 59 58,Af 54 T 60 13,CB 54 T 61 59 60 1,Ad 54 T 62 61,AM 54 T 63 62,pa 64 54 63] (At 64 (.reg [A3 12 L])))) (Av 65 46)))
def PW:X0:=(Ab [mv 66 12,nt 67 66] 67 (.exit 3) (A1 [mv 69 0,AO 70 1 [.int .i64 0] 0 [],mv 71 1,Bl 72 1 8 70 71,mv 73 11,AO 74 1 [.int .i64 0] 1 [(0,(S 73))],Bl 75 1 8 72 74,mv 76 2,(O,.frz 4480),ca 77 389 [S 69,S 75,S 76],mv 68 77,xt 78 68 0,xt 79 68 1,mv 15 78,mv 16 79] (A1 [mv 80 16] (At 80 (A2 [mv 81 15,mv 6 81,A3 7 T])))))
def PX:X0:=A1 [Ag [0,1,2,8,11] [] []] (.reg [mv 42 11,Ae 43 .add 42 1,mv 11 43])
def GQ:X0:=A1 [Ag [0,1,2,8,11] [] []] (A6 (A1 [mv 34 11,mv 35 8,bn 36 .leq 34 35,mv 37 36,Af 37 T 38 11,Af 37 T 39 2,AI 37 T 40 .lss 38 39,pa 41 37 40] (AS 41 .skip (.exit 2))) (A6 (.block 3 (A1 [A3 12 T] (A6 (A1 [mv 44 1,ln 45 44,A5 46 0] (Aj 4 GP)) PW))) PX))
def Jk:X0:=(A2 [AA 6,A3 7 L])
def Ul:X0:=(A6 (A1 [A5 11 0] (Aj 2 GQ)) Jk)
def ZX:X0:=(A1 [AA 6,A3 7 L] (Ab [mv 17 1,ln 18 17,mv 19 0,ln 20 19,bn 21 .eql 18 20] 21 (A2 [mv 22 1,mv 6 22,A3 7 T]) (A1 [A5 8 0] (A6 (A1 [mv 23 1,ln 24 23,A5 25 0] (Aj 0 PV)) Ul))))
def ny:=fun a0 a1 a2 v2 v6 (k_:Q ((P U) × V))=>∀{zr},k_=N zr→Kp I [0,1,2,8,11] [] [] ⟨[pL 0 (rL rB) a0,pL 1 rI a1,pI 2 a2,pI 8 v2,pI 11 v6],[],[]⟩ (.code PX:: [.code (.loop GQ),.blk 2,.code Jk]) (Ah [6,7] [.sc (.v (.sl (Z rI zr.1))),.sc (.v (.bool zr.2))])
def nx:=fun a0 a1 a2 v2 v6 (k_:V→U→Q ((P U) × V))=>∀{v9 v10} {zr},k_ v9 v10=N zr→Kp I [0,1,2,8,11,12,44,45,46] [] [] ⟨[pL 0 (rL rB) a0,pL 1 rI a1,pI 2 a2,pI 8 v2,pI 11 v6,(12,vc (aB v9)),pL 44 rI a1,pI 45 (a1.length:U),pI 46 v10],[],[]⟩ (.code (.loop GP):: [.blk 4,.code PW,.blk 3,.code PX,.code (.loop GQ),.blk 2,.code Jk]) (Ah [6,7] [.sc (.v (.sl (Z rI zr.1))),.sc (.v (.bool zr.2))])
def Tp:=fun a0 a1 a2 v2 (k_:U→Q ((P U) × V))=>∀{v6} {zr},k_ v6=N zr→Kp I [0,1,2,8,11] [] [] ⟨[pL 0 (rL rB) a0,pL 1 rI a1,pI 2 a2,pI 8 v2,pI 11 v6],[],[]⟩ (.code (.loop GQ):: [.blk 2,.code Jk]) (Ah [6,7] [.sc (.v (.sl (Z rI zr.1))),.sc (.v (.bool zr.2))])
def nw:=fun a0 a1 a2 (k_:U→U→Q ((P U) × V))=>∀{v2 v3} {zr},k_ v2 v3=N zr→Kp I [0,1,2,8,23,24,25] [] [] ⟨[pL 0 (rL rB) a0,pL 1 rI a1,pI 2 a2,pI 8 v2,pL 23 rI a1,pI 24 (a1.length:U),pI 25 v3],[],[]⟩ (.code (.loop PV):: [.blk 0,.code Ul]) (Ah [6,7] [.sc (.v (.sl (Z rI zr.1))),.sc (.v (.bool zr.2))])
theorem jd{rec_:(P (P V))→(P U)→U→Q ((P U) × V)}(h_rec:∀(a0:P (P V)) (a1:P U) (a2:U) zr,rec_ a0 a1 a2=N zr→FC I 389 [.sc (.sl (Z (rL rB) a0)),.sc (.sl (Z rI a1)),.sc (.int .i64 a2)] [.sc (.v (.sl (Z rI zr.1))),.sc (.v (.bool zr.2))]){a0 a1 a2 v2 v6}{Dh}(Sz:Tp a0 a1 a2 v2 Dh):ny a0 a1 a2 v2 v6 (Km rec_ a0 a1 a2 v2 v6 Dh):=by
 intro r h σ hσ;unfold Km at h;try simp only[hσ,PX,C,E,F,G,H,J]
 refine Sz h ?_;try simp only[C,E,F,G,H,J,Y]
theorem B3o{rec_:(P (P V))→(P U)→U→Q ((P U) × V)}(h_rec:∀(a0:P (P V)) (a1:P U) (a2:U) zr,rec_ a0 a1 a2=N zr→FC I 389 [.sc (.sl (Z (rL rB) a0)),.sc (.sl (Z rI a1)),.sc (.int .i64 a2)] [.sc (.v (.sl (Z rI zr.1))),.sc (.v (.bool zr.2))]){a0 a1 a2 v2 v6}{Dh}(Sz:Tp a0 a1 a2 v2 Dh){n:W}:nx a0 a1 a2 v2 v6 (Dt rec_ a0 a1 a2 v2 v6 Dh n):=by
 induction n with
 | zero=>intro _ _ r h; cases h
 | succ n ih=>
  intro v9 v10 r h σ hσ;rw[Dt] at h;refine Ak ?_;obtain⟨h11,h⟩|⟨h11,h⟩:=ic h
  ·obtain⟨x12,h12,h⟩:=ob h;obtain⟨h13,h⟩|⟨h13,h⟩:=ic h
   ·obtain⟨x14,h14,h⟩:=ob h;obtain⟨x15,h15,h⟩:=ob h;obtain⟨h16,h⟩|⟨h16,h⟩:=ic h
    ·try simp only[hσ,h11,h12,h13,h14,h15,h16,GP,C,E,F,G,H,J]
     refine ih h ?_;try simp only[h11,h12,h13,h14,h15,h16,C,E,F,G,H,J,Y]
    ·try simp only[hσ,h11,h12,h13,h14,h15,h16,GP,C,E,F,G,H,J]
     refine ih h ?_;try simp only[h11,h12,h13,h14,h15,h16,C,E,F,G,H,J,Y]
   ·try simp only[hσ,h11,h12,h13,GP,C,E,F,G,H,J]
    refine ih h ?_;try simp only[h11,h12,h13,C,E,F,G,H,J,Y]
  ·obtain⟨h17,h⟩|⟨h17,h⟩:=ic h
   ·try simp only[hσ,h11,h17,GP,PW,C,E,F,G,H,J]
    refine AD (es:=Z rI ([]:P U)) ?_;obtain⟨h18,h⟩:=Ba h;try simp only[h11,h17,h18,C,E,F,G,H,J]
    refine AD (es:=Z rI ([v6]:P U)) ?_;obtain⟨h19,h⟩:=Ba h;try simp only[h11,h17,h18,h19,C,E,F,G,H,J]
    refine D3 ?_;obtain⟨r20,h20,h⟩:=ob h;try simp only[h11,h17,h18,h19,C,E,F,G,H,J]
    refine A4 (h_rec _ _ _ _ h20) ?_;obtain⟨h21,h⟩|⟨h21,h⟩:=ic h
    ·try simp only[h11,h17,h18,h19,h21,C,E,F,G,H,J]
     cases h;trivial
    ·try simp only[h11,h17,h18,h19,h21,C,E,F,G,H,J]
     refine jd h_rec Sz h ?_;try simp only[h11,h17,h18,h19,h21,C,E,F,G,H,J,Y]
   ·try simp only[hσ,h11,h17,GP,PW,C,E,F,G,H,J]
    refine jd h_rec Sz h ?_;try simp only[h11,h17,C,E,F,G,H,J,Y]
theorem B3p{rec_:(P (P V))→(P U)→U→Q ((P U) × V)}(h_rec:∀(a0:P (P V)) (a1:P U) (a2:U) zr,rec_ a0 a1 a2=N zr→FC I 389 [.sc (.sl (Z (rL rB) a0)),.sc (.sl (Z rI a1)),.sc (.int .i64 a2)] [.sc (.v (.sl (Z rI zr.1))),.sc (.v (.bool zr.2))]){a0 a1 a2 v2}{n:W}:Tp a0 a1 a2 v2 (DQ rec_ a0 a1 a2 v2 n):=by
 induction n with
 | zero=>intro _ r h; cases h
 | succ n ih=>
  intro v6 r h σ hσ;rw[DQ] at h;refine Ak ?_;obtain⟨h7,h⟩|⟨h7,h⟩:=ic h
  ·obtain⟨h8,h⟩|⟨h8,h⟩:=ic h
   ·try simp only[hσ,h7,h8,GQ,C,E,F,G,H,J]
    refine B3o h_rec ih h ?_;try simp only[h7,h8,C,E,F,G,H,J,Y]
   ·try simp only[hσ,h7,h8,GQ,Jk,C,E,F,G,H,J]
    cases h;trivial
  ·try simp only[hσ,h7,GQ,Jk,C,E,F,G,H,J]
   cases h;trivial
theorem B3q{rec_:(P (P V))→(P U)→U→Q ((P U) × V)}(h_rec:∀(a0:P (P V)) (a1:P U) (a2:U) zr,rec_ a0 a1 a2=N zr→FC I 389 [.sc (.sl (Z (rL rB) a0)),.sc (.sl (Z rI a1)),.sc (.int .i64 a2)] [.sc (.v (.sl (Z rI zr.1))),.sc (.v (.bool zr.2))]){a0 a1 a2}{n:W}:nw a0 a1 a2 (Gd rec_ a0 a1 a2 n):=by
 induction n with
 | zero=>intro _ _ r h; cases h
 | succ n ih=>
  intro v2 v3 r h σ hσ;rw[Gd] at h;refine Ak ?_;obtain⟨h4,h⟩|⟨h4,h⟩:=ic h
  ·obtain⟨x5,h5,h⟩:=ob h;try simp only[hσ,h4,h5,PV,C,E,F,G,H,J]
   refine ih h ?_;try simp only[h4,h5,C,E,F,G,H,J,Y]
  ·try simp only[hσ,h4,PV,Ul,C,E,F,G,H,J]
   refine B3p h_rec h ?_;try simp only[h4,C,E,F,G,H,J,Y]
theorem B12(rec_:(P (P V))→(P U)→U→Q ((P U) × V))(a0:P (P V))(a1:P U)(a2:U)(r:(P U) × V)(h_rec:∀(a0:P (P V)) (a1:P U) (a2:U) zr,rec_ a0 a1 a2=N zr→FC I 389 [.sc (.sl (Z (rL rB) a0)),.sc (.sl (Z rI a1)),.sc (.int .i64 a2)] [.sc (.v (.sl (Z rI zr.1))),.sc (.v (.bool zr.2))])(h:NS rec_ a0 a1 a2=N r):FC I 389 [.sc (.sl (Z (rL rB) a0)),.sc (.sl (Z rI a1)),.sc (.int .i64 a2)] [.sc (.v (.sl (Z rI r.1))),.sc (.v (.bool r.2))]:=by
 unfold NS at h;refine Aa A9 ZX [6,7] 82 ?_;simp only[ZX,C,E,F,G,H,J];obtain⟨h1,h⟩|⟨h1,h⟩:=ic h
 ·try simp only[h1,C,E,F,G,H,J]
  cases h;trivial
 ·try simp only[h1,C,E,F,G,H,J]
  refine B3q h_rec h ?_;try simp only[h1,C,E,F,G,H,J,Y]
theorem B13:∀(n:W) (a0:P (P V)) (a1:P U) (a2:U) (r:(P U) × V),Cz n a0 a1 a2=N r→FC I 389 [.sc (.sl (Z (rL rB) a0)),.sc (.sl (Z rI a1)),.sc (.int .i64 a2)] [.sc (.v (.sl (Z rI r.1))),.sc (.v (.bool r.2))]:=by
 intro n
 induction n with
 | zero=>intro _ _ _ r h; cases h
 | succ n ih=>intro a0 a1 a2 r h; rw[Cz] at h; exact B12 (Cz n) a0 a1 a2 r ih h
theorem B11{a0}{a1}{a2}{r}(h:Sl a0 a1 a2=N r):FC I 389 [.sc (.sl (Z (rL rB) a0)),.sc (.sl (Z rI a1)),.sc (.int .i64 a2)] [.sc (.v (.sl (Z rI r.1))),.sc (.v (.bool r.2))]:=B13 bigN a0 a1 a2 r h
/- 374:spec_LeastCover -/
def PY:X0:=A1 [Ag [0,1,2,21] [] []] (At 21 (A2 [AA 6,A5 7 0,A3 8 L]))
def PZ:X0:=A1 [Ag [2,9,10] [] []] (A6 (A1 [mv 26 10,mv 27 2,ln 28 27,bn 29 .leq 26 28] (AS 29 .skip (.exit 0))) (A6 (.block 1 (A1 [mv 33 9,AO 34 1 [.int .i64 0] 0 [],mv 35 10,(O,.frz 2176),ca 36 389 [S 33,S 34,S 35],mv 32 36,xt 37 32 0,xt 38 32 1,mv 11 37,mv 12 38] (A1 [mv 39 12] (At 39 (A2 [mv 40 11,mv 41 10,mv 6 40,mv 7 41,A3 8 T]))))) (.reg [mv 30 10,Ae 31 .add 30 1,mv 10 31])))
def Um:X0:=(A2 [AA 6,A5 7 0,A3 8 L])
def Un:X0:=(A1 [mv 22 0,mv 23 1,mv 24 2,ca 25 388 [S 22,S 23,S 24],(O,.frz 1600),mv 9 25] (A6 (A1 [A5 10 0] (Aj 0 PZ)) Um))
def ZZ:X0:=(A1 [AA 6,A5 7 0,A3 8 L] (A6 (A1 [mv 13 2,ca 14 387 [S 13],nt 15 14,mv 16 15,Af 16 L 17 0,Af 16 L 18 1,Am 16 L 19 343 [S 17,S 18],AM 16 L 20 19,po 21 16 20] PY) Un))
def nP:=fun a2 r6 (k_:U→Q ((P U) × U × V))=>∀{v7} {zr},k_ v7=N zr→Kp I [2,9,10] [] [] ⟨[pL 2 X8.row a2,pL 9 (rL rB) r6,pI 10 v7],[],[]⟩ (.code (.loop PZ):: [.blk 0,.code Um]) (Ah [6,7,8] [.sc (.v (.sl (Z rI zr.1))),.sc (.v (.int .i64 zr.2.1)),.sc (.v (.bool zr.2.2))])
def nO:=fun a0 a1 a2 (k_:V→Q ((P U) × U × V))=>∀{v4} {zr},k_ v4=N zr→Kp I [0,1,2,21] [] [] ⟨[pI 0 a0,pL 1 rI a1,pL 2 X8.row a2,(21,vc (aB v4))],[],[]⟩ (.code PY:: [.code Un]) (Ah [6,7,8] [.sc (.v (.sl (Z rI zr.1))),.sc (.v (.int .i64 zr.2.1)),.sc (.v (.bool zr.2.2))])
theorem B3s{a2 r6}{n:W}:nP a2 r6 (Ih a2 r6 n):=by
 induction n with
 | zero=>intro _ r h; cases h
 | succ n ih=>
  intro v7 r h σ hσ;rw[Ih] at h;refine Ak ?_;obtain⟨h8,h⟩|⟨h8,h⟩:=ic h
  ·try simp only[hσ,h8,PZ,C,E,F,G,H,J]
   refine AD (es:=Z rI ([]:P U)) ?_;try simp only[h8,C,E,F,G,H,J]
   refine D3 ?_;obtain⟨r9,h9,h⟩:=ob h;try simp only[h8,C,E,F,G,H,J]
   refine A4 (B11 h9) ?_;obtain⟨h10,h⟩|⟨h10,h⟩:=ic h
   ·try simp only[h8,h10,C,E,F,G,H,J]
    cases h;trivial
   ·try simp only[h8,h10,C,E,F,G,H,J]
    refine ih h ?_;try simp only[h8,h10,C,E,F,G,H,J,Y]
  ·try simp only[hσ,h8,PZ,Um,C,E,F,G,H,J]
   cases h;trivial
theorem je{a0 a1 a2}:nO a0 a1 a2 (Nt a0 a1 a2):=by
 intro v4 r h σ hσ;unfold Nt at h;obtain⟨h5,h⟩|⟨h5,h⟩:=ic h
 ·try simp only[hσ,h5,PY,C,E,F,G,H,J]
  cases h;trivial
 ·obtain⟨r6,h6,h⟩:=ob h;try simp only[hσ,h5,PY,Un,C,E,F,G,H,J]
  refine A4 (B10 h6) ?_;try simp only[h5,C,E,F,G,H,J]
  refine D3 ?_;try simp only[h5,C,E,F,G,H,J]
  refine B3s h ?_;try simp only[h5,C,E,F,G,H,J,Y]
theorem jM{a0}{a1}{a2}{r}(h:Ig a0 a1 a2=N r):FC I 374 [.sc (.int .i64 a0),.sc (.sl (Z rI a1)),.sc (.sl (Z X8.row a2))] [.sc (.v (.sl (Z rI r.1))),.sc (.v (.int .i64 r.2.1)),.sc (.v (.bool r.2.2))]:=by
 unfold Ig at h;refine Aa A9 ZZ [6,7,8] 42 ?_;simp only[ZZ,C,E,F,G,H,J];obtain⟨r1,h1,h⟩:=ob h;try simp only[C,E,F,G,H,J]
 refine A4 (B00 h1) ?_;obtain⟨h2,h⟩|⟨h2,h⟩:=ic h
 ·obtain⟨r3,h3,h⟩:=ob h;try simp only[h2,C,E,F,G,H,J]
  refine A4 (XJ h3) ?_;try simp only[h2,C,E,F,G,H,J]
  refine je h ?_;try simp only[h2,C,E,F,G,H,J,Y]
 ·try simp only[h2,C,E,F,G,H,J]
  refine je h ?_;try simp only[h2,C,E,F,G,H,J,Y]
/- 352:spec_TugsNeeded -/
def aA:X0:=(A1 [bo 4 0,bo 5 1,A5 8 0] (A1 [lw 15 5 2,mv 16 2,mv 17 3,ca 18 373 [S 15,S 16,S 17],mv 14 18,xt 19 14 0,xt 20 14 1,mv 9 19,mv 10 20] (Ab [lw 21 4 4,ca 22 290 [S 21],nt 23 22,mv 24 23,Af 24 L 25 10,AM 24 L 26 25,po 27 24 26] 27 (A2 [A5 8 (-1)]) (A1 [fa 29 4 3,ld 30 29,mv 31 9,(O,.frz 1152),ca 32 374 [K 0,S 30,S 31],mv 28 32,xt 33 28 0,xt 34 28 1,xt 35 28 2,mv 11 33,mv 12 34,mv 13 35] (Ab [mv 36 13,nt 37 36] 37 (A2 [A5 8 (-1)]) (A2 [mv 38 12,mv 8 38]))))))
theorem B1o{a0}{a1}{a2}{a3}{r}(h:Kh a0 a1 a2 a3=N r):FC I 352 [.ag (Xk.row a0),.ag (X6.row a1),.sc (.sl (Z X5.row a2)),.sc (.sl (Z X1.row a3))] [.sc (.v (.int .i64 r))]:=by
 unfold Kh at h;refine Aa A9 aA [8] 39 ?_;simp only[aA,C,E,F,G,H,J];try simp only[C,E,F,G,H,J]
 refine A8 ?_;try simp only[C,E,F,G,H,J]
 refine A8 ?_;obtain⟨r1,h1,h⟩:=ob h;try simp only[C,E,F,G,H,J]
 refine A4 (B14 h1) ?_;obtain⟨r2,h2,h⟩:=ob h;try simp only[C,E,F,G,H,J]
 refine A4 (XE h2) ?_;obtain⟨h3,h⟩|⟨h3,h⟩:=ic h
 ·obtain⟨h4,h⟩|⟨h4,h⟩:=ic h
  ·try simp only[h3,h4,C,E,F,G,H,J]
   refine D3 ?_;obtain⟨r5,h5,h⟩:=ob h;try simp only[h3,h4,C,E,F,G,H,J]
   refine A4 (jM h5) ?_;obtain⟨h6,h⟩|⟨h6,h⟩:=ic h
   ·try simp only[h3,h4,h6,C,E,F,G,H,J]
    cases h;exact t0
   ·try simp only[h3,h4,h6,C,E,F,G,H,J]
    cases h;exact t0
  ·try simp only[h3,h4,C,E,F,G,H,J]
   cases h;exact t0
 ·try simp only[h3,C,E,F,G,H,J]
  cases h;exact t0
/- 390:spec_IsChain -/
def Q0:X0:=A1 [Ag [1,2,14,15,16] [2] []] (A1 [bn 17 .lss 16 15] (Aw 17 0 1 (A1 [mv 18 16,ia 19 14 16 5,lw 20 19 5,Ai 6 [aI 0,aI 0,aB L,aI 0,aI 0],mv 5 18,so 6 20 5] (A6 (A6 (.drw [o0 (fa 21 6 0),o0 (ld 22 21),o0 (mv 23 1),o0 (O,.iaddr 24 (S 23) (K 0) 5),o0 (fa 25 24 0),o0 (ld 26 25),o0 (bn 27 .neq 22 26),o0 (mv 28 27),o0 (Ac 28 L 29 6 1),o0 (Ad 28 L 30 29),o0 (Ac 28 L 31 2 1),o0 (Ad 28 L 32 31),o0 (B3 28 L 33 32),o0 (AQ 28 L 34 .sub 33 1),o0 (Am 28 L 35 169 [S 30,K 0,S 34]),o0 (AM 28 L 36 35),o0 (po 37 28 36)]) (At 37 (A2 [A3 4 L]))) (Ab [mv 38 5,Ae 39 .eql 38 0] 39 (.exit 1) (A1 [lw 41 2 2,lw 42 6 5,ca 43 386 [S 41,S 42],mv 40 43,xt 44 40 0,xt 45 40 1,mv 7 44,mv 8 45] (A6 (.drw [o0 (lw 47 2 2),o0 (mv 48 1),o0 (mv 49 5),o0 (Ae 50 .sub 49 1),o0 (ia 51 48 50 5),o0 (lw 52 51 5),o0 (ca 53 386 [S 47,S 52]),o0 (mv 46 53),o0 (xt 54 46 0),o0 (xt 55 46 1),o0 (mv 9 54),o0 (mv 10 55)]) (A6 (.drw [o0 (mv 56 7),o0 (mv 57 10),o0 (bn 58 .neq 56 57),o0 (mv 59 58),o0 (Ac 59 L 60 6 3),o0 (Ad 59 L 61 60),o0 (Af 59 L 62 1),o0 (Af 59 L 63 5),o0 (AQ 59 L 64 .sub 63 1),o0 (CB 59 L 65 62 64 5),o0 (Ac 59 L 66 65 4),o0 (Ad 59 L 67 66),o0 (AI 59 L 68 .lss 61 67),o0 (po 69 59 68)]) (At 69 (A2 [A3 4 L])))))))) (Av 70 16)))
def Uo:X0:=(A2 [A3 4 T])
def aC:X0:=(A1 [bo 2 0,A3 4 L] (Ab [lw 11 2 2,ca 12 219 [S 11],nt 13 12] 13 (A2 [A3 4 L]) (A6 (A1 [mv 14 1,ln 15 14,A5 16 0] (Aj 0 Q0)) Uo)))
def nJ:=fun a1 (a0:X6) (k_:U→Q V)=>∀{v3} {zr},k_ v3=N zr→Kp I [1,2,14,15,16] [2] [] ⟨[pL 1 X1.row a1,pB 2,pL 14 X1.row a1,pI 15 (a1.length:U),pI 16 v3],[(2,[aM X9.row a0.Points,aM X3.row a0.Segments])],[]⟩ (.code (.loop Q0):: [.blk 0,.code Uo]) (Ah [4] [.sc (.v (.bool zr))])
theorem B3t{a1 a0}{n:W}:nJ a1 a0 (G2 a1 a0 n):=by
 induction n with
 | zero=>intro _ r h; cases h
 | succ n ih=>
  intro v3 r h σ hσ;rw[G2] at h;refine Ak ?_;obtain⟨h4,h⟩|⟨h4,h⟩:=ic h
  ·obtain⟨x5,h5,h⟩:=ob h;try simp only[hσ,h4,h5,Q0,C,E,F,G,H,J]
   refine Al ?_;try simp only[h4,h5,C,E,F,G,H,J]
   refine Ao ?_;obtain⟨x6,h6,h⟩:=ob h;obtain⟨h7,h⟩|⟨h7,h⟩:=ic h
   ·try simp only[h4,h5,h6,h7,C,E,F,G,H,J]
    cases h;exact t0
   ·obtain⟨r9,h9,h⟩:=ob h;try simp only[h4,h5,h6,h7,C,E,F,G,H,J]
    refine AH (AU h9) ?_;obtain⟨h10,h⟩|⟨h10,h⟩:=ic h
    ·obtain⟨h11,h⟩|⟨h11,h⟩:=ic h
     ·try simp only[h4,h5,h6,h7,h10,h11,C,E,F,G,H,J]
      refine ih h ?_;try simp only[h4,h5,h6,h7,h10,h11,C,E,F,G,H,J,Y]
     ·obtain⟨r12,h12,h⟩:=ob h;try simp only[h4,h5,h6,h7,h10,h11,C,E,F,G,H,J]
      refine A4 (OR h12) ?_;try simp only[h4,h5,h6,h7,h10,h11,C,E,F,G,H,J]
      refine Ao ?_;obtain⟨x13,h13,h⟩:=ob h;obtain⟨r14,h14,h⟩:=ob h;try simp only[h4,h5,h6,h7,h10,h11,h13,C,E,F,G,H,J]
      refine AH (OR h14) ?_;try simp only[h4,h5,h6,h7,h10,h11,h13,C,E,F,G,H,J]
      refine Ao ?_;obtain⟨h15,h⟩|⟨h15,h⟩:=ic h
      ·try simp only[h4,h5,h6,h7,h10,h11,h13,h15,C,E,F,G,H,J]
       cases h;exact t0
      ·obtain⟨h16,h⟩|⟨h16,h⟩:=ic h
       ·try simp only[h4,h5,h6,h7,h10,h11,h13,h15,h16,C,E,F,G,H,J]
        cases h;exact t0
       ·try simp only[h4,h5,h6,h7,h10,h11,h13,h15,h16,C,E,F,G,H,J]
        refine ih h ?_;try simp only[h4,h5,h6,h7,h10,h11,h13,h15,h16,C,E,F,G,H,J,Y]
    ·try simp only[h4,h5,h6,h7,h10,C,E,F,G,H,J]
     cases h;exact t0
  ·try simp only[hσ,h4,Q0,Uo,C,E,F,G,H,J]
   cases h;exact t0
theorem B03{a0}{a1}{r}(h:Np a0 a1=N r):FC I 390 [.ag (X6.row a0),.sc (.sl (Z X1.row a1))] [.sc (.v (.bool r))]:=by
 unfold Np at h;refine Aa A9 aC [4] 71 ?_;simp only[aC,C,E,F,G,H,J];try simp only[C,E,F,G,H,J]
 refine A8 ?_;obtain⟨r1,h1,h⟩:=ob h;try simp only[C,E,F,G,H,J]
 refine A4 (GF h1) ?_;obtain⟨h2,h⟩|⟨h2,h⟩:=ic h
 ·try simp only[h2,C,E,F,G,H,J]
  refine B3t h ?_;try simp only[h2,C,E,F,G,H,J,Y]
 ·try simp only[h2,C,E,F,G,H,J]
  cases h;exact t0
/- 375:spec_PilotDuty -/
def Q1:X0:=A1 [Ag [1,2,3,6,23] [3,6] []] (At 23 (A2 [Bv 24 [aI 0,aI 0,aI 0,aI 0] [],so 6 24 4,A3 7 L]))
def Q2:X0:=A1 [Ag [1,2,3,6,25,26,27] [3,6] []] (A1 [bn 28 .lss 27 26] (Aw 28 0 1 (A1 [ia 29 25 27 5,lw 30 29 5,Ai 9 [aI 0,aI 0,aB L,aI 0,aI 0],so 9 30 5] (A1 [lw 31 3 2,mv 32 1,lw 33 9 5,ca 34 385 [S 31,S 32,S 33],nt 35 34] (At 35 (A2 [Bv 36 [aI 0,aI 0,aI 0,aI 0] [],so 6 36 4,A3 7 L])))) (Av 37 27)))
def Up:X0:=(A1 [mv 38 2,mv 39 2,ln 40 39,Ae 41 .sub 40 1,ia 42 38 41 5,lw 43 42 5,Ai 10 [aI 0,aI 0,aB L,aI 0,aI 0],so 10 43 5] (A6 (.drw [o0 (lw 45 3 2),o0 (mv 46 2),o0 (O,.iaddr 47 (S 46) (K 0) 5),o0 (lw 48 47 5),o0 (ca 49 386 [S 45,S 48]),o0 (mv 44 49),o0 (xt 50 44 0),o0 (xt 51 44 1),o0 (mv 11 50),o0 (mv 12 51)]) (A1 [lw 53 3 2,lw 54 10 5,ca 55 386 [S 53,S 54],mv 52 55,xt 56 52 0,xt 57 52 1,mv 13 56,mv 14 57] (A6 (.drw [o0 (mv 58 2),o0 (O,.iaddr 59 (S 58) (K 0) 5),o0 (fa 60 59 3),o0 (ld 61 60),o0 (fa 62 10 4),o0 (ld 63 62),o0 (mv 64 11),o0 (mv 65 14),o0 (Bv 66 [aI 0,aI 0,aI 0,aI 0] [(0,1,(S 61)),(1,1,(S 63)),(2,1,(S 64)),(3,1,(S 65))]),(O,so 6 66 4),o0 (A3 7 T)]) .ret))))
def Uq:X0:=(A6 (A1 [mv 25 2,ln 26 25,A5 27 0] (Aj 0 Q2)) Up)
def aE:X0:=(A1 [bo 3 0,Ai 6 [aI 0,aI 0,aI 0,aI 0],A3 7 L] (A6 (A1 [mv 15 2,ln 16 15,Ae 17 .eql 16 0,mv 18 17,AL 18 L 19 3 2,Af 18 L 20 2,Am 18 L 21 390 [S 19,S 20],AM 18 L 22 21,po 23 18 22] Q1) Uq))
def nU:=fun a1 a2 (a0:X6) (k_:U→Q (X8 × V))=>∀{v5} {zr},k_ v5=N zr→Kp I [1,2,3,6,25,26,27] [3,6] [] ⟨[pL 1 X5.row a1,pL 2 X1.row a2,pB 3,pB 6,pL 25 X1.row a2,pI 26 (a2.length:U),pI 27 v5],[(3,[aM X9.row a0.Points,aM X3.row a0.Segments]),(6,[aI (0:U),aI (0:U),aI (0:U),aI (0:U)])],[]⟩ (.code (.loop Q2):: [.blk 0,.code Up]) (Ah [.c 6 T 4,7] [.ag [.v (.int .i64 zr.1.From),.v (.int .i64 zr.1.To),.v (.int .i64 zr.1.A),.v (.int .i64 zr.1.B)],.sc (.v (.bool zr.2))])
def nT:=fun a1 a2 (a0:X6) (k_:V→Q (X8 × V))=>∀{v3} {zr},k_ v3=N zr→Kp I [1,2,3,6,23] [3,6] [] ⟨[pL 1 X5.row a1,pL 2 X1.row a2,pB 3,pB 6,(23,vc (aB v3))],[(3,[aM X9.row a0.Points,aM X3.row a0.Segments]),(6,[aI (0:U),aI (0:U),aI (0:U),aI (0:U)])],[]⟩ (.code Q1:: [.code Uq]) (Ah [.c 6 T 4,7] [.ag [.v (.int .i64 zr.1.From),.v (.int .i64 zr.1.To),.v (.int .i64 zr.1.A),.v (.int .i64 zr.1.B)],.sc (.v (.bool zr.2))])
theorem B3u{a1 a2 a0}{n:W}:nU a1 a2 a0 (Ik a1 a2 a0 n):=by
 induction n with
 | zero=>intro _ r h; cases h
 | succ n ih=>
  intro v5 r h σ hσ;rw[Ik] at h;refine Ak ?_;obtain⟨h6,h⟩|⟨h6,h⟩:=ic h
  ·obtain⟨x7,h7,h⟩:=ob h;try simp only[hσ,h6,h7,Q2,C,E,F,G,H,J]
   refine Al ?_;obtain⟨r9,h9,h⟩:=ob h;try simp only[h6,h7,C,E,F,G,H,J]
   refine A4 (jP h9) ?_;obtain⟨h10,h⟩|⟨h10,h⟩:=ic h
   ·try simp only[h6,h7,h10,C,E,F,G,H,J]
    refine ih h ?_;try simp only[h6,h7,h10,C,E,F,G,H,J,Y]
   ·try simp only[h6,h7,h10,C,E,F,G,H,J]
    cases h;try simp only[B7,C,E,F,G,H,J]
    trivial
  ·obtain⟨x11,h11,h⟩:=ob h;try simp only[hσ,h6,h11,Q2,Up,C,E,F,G,H,J]
   refine Al ?_;try simp only[h6,h11,C,E,F,G,H,J]
   refine Ao ?_;obtain⟨x12,h12,h⟩:=ob h;obtain⟨r13,h13,h⟩:=ob h;try simp only[h6,h11,h12,C,E,F,G,H,J]
   refine AH (OR h13) ?_;obtain⟨r14,h14,h⟩:=ob h;try simp only[h6,h11,h12,C,E,F,G,H,J]
   refine A4 (OR h14) ?_;try simp only[h6,h11,h12,C,E,F,G,H,J]
   refine Ao ?_;try simp only[h6,h11,h12,C,E,F,G,H,J]
   refine Ao ?_;try simp only[h6,h11,h12,C,E,F,G,H,J]
   cases h;try simp only[B7,C,E,F,G,H,J]
   trivial
theorem jf{a1 a2 a0}:nT a1 a2 a0 (Nz a1 a2 a0):=by
 intro v3 r h σ hσ;unfold Nz at h;obtain⟨h4,h⟩|⟨h4,h⟩:=ic h
 ·try simp only[hσ,h4,Q1,C,E,F,G,H,J]
  cases h;try simp only[B7,C,E,F,G,H,J]
  trivial
 ·try simp only[hσ,h4,Q1,Uq,C,E,F,G,H,J]
  refine B3u h ?_;try simp only[h4,C,E,F,G,H,J,Y]
theorem B1c{a0}{a1}{a2}{r}(h:Ny a0 a1 a2=N r):FC I 375 [.ag (X6.row a0),.sc (.sl (Z X5.row a1)),.sc (.sl (Z X1.row a2))] [.ag [.v (.int .i64 r.1.From),.v (.int .i64 r.1.To),.v (.int .i64 r.1.A),.v (.int .i64 r.1.B)],.sc (.v (.bool r.2))]:=by
 unfold Ny at h;refine Aa A9 aE [.c 6 T 4,7] 67 ?_;simp only[aE,C,E,F,G,H,J];try simp only[C,E,F,G,H,J]
 refine A8 ?_;try simp only[C,E,F,G,H,J]
 refine Al ?_;obtain⟨h1,h⟩|⟨h1,h⟩:=ic h
 ·try simp only[h1,C,E,F,G,H,J]
  refine jf h ?_;try simp only[h1,C,E,F,G,H,J,Y]
 ·obtain⟨r2,h2,h⟩:=ob h;try simp only[h1,C,E,F,G,H,J]
  refine A4 (B03 h2) ?_;try simp only[h1,C,E,F,G,H,J]
  refine jf h ?_;try simp only[h1,C,E,F,G,H,J,Y]
/- 353:spec_PilotsNeeded -/
def Lk:X0:=A1 [Ag [2,4,5,9,21,22,23] [4,5] [1280]] (A1 [bn 24 .lss 23 22] (Aw 24 0 1 (A1 [ia 25 21 23 1,ld 26 25,mv 11 26] (Ab [mv 27 11,ln 28 27,Ae 29 .eql 28 0] 29 (.exit 1) (A1 [lw 31 5 2,mv 32 2,mv 33 11,ca 34 375 [S 31,S 32,S 33],mv 30 34,xt 35 30 0,xt 36 30 1,Ai 12 [aI 0,aI 0,aI 0,aI 0],so 12 35 4,mv 13 36] (Ab [mv 37 13,nt 38 37] 38 (A2 [A5 8 (-1)]) (.reg [mv 39 9,lw 40 12 4,AO 41 4 [.int .i64 0,.int .i64 0,.int .i64 0,.int .i64 0] 1 [(0,(S 40))],Bl 42 4 32 39 41,mv 9 42]))))) (Av 43 23)))
def Ur:X0:=(A1 [fa 45 4 2,ld 46 45,fa 47 4 3,ld 48 47,mv 49 9,(O,.frz 1280),ca 50 374 [S 46,S 48,S 49],mv 44 50,xt 51 44 0,xt 52 44 1,xt 53 44 2,mv 14 51,mv 15 52,mv 16 53] (Ab [mv 54 16,nt 55 54] 55 (A2 [A5 8 (-1)]) (A2 [mv 56 15,mv 8 56])))
def aG:X0:=(A1 [bo 4 0,bo 5 1,A5 8 0] (Ab [lw 17 4 4,ca 18 290 [S 17],nt 19 18] 19 (A2 [A5 8 (-1)]) (A1 [AO 20 4 [.int .i64 0,.int .i64 0,.int .i64 0,.int .i64 0] 0 [],mv 9 20] (A6 (A1 [mv 21 3,ln 22 21,A5 23 0] (Aj 0 Lk)) Ur))))
def nV:=fun a2 a3 (a0:Xk) (a1:X6) (k_:U→(P X8)→Q U)=>∀{v3 v4} {zr},k_ v3 v4=N zr→Kp I [2,4,5,9,21,22,23] [4,5] [1280] ⟨[pL 2 X5.row a2,pB 4,pB 5,pW 9 1280,pL 21 (rL X1.row) a3,pI 22 (a3.length:U),pI 23 v3],[(4,(dm a0.row)),(5,[aM X9.row a1.Points,aM X3.row a1.Segments])],[(1280,4,Z X8.row v4)]⟩ (.code (.loop Lk):: [.blk 0,.code Ur]) (Ah [8] [.sc (.v (.int .i64 zr))])
theorem B3v{a2 a3 a0 a1}{n:W}:nV a2 a3 a0 a1 (G6 a2 a3 a0 a1 n):=by
 induction n with
 | zero=>intro _ _ r h; cases h
 | succ n ih=>
  intro v3 v4 r h σ hσ;rw[G6] at h;refine Ak ?_;obtain⟨h5,h⟩|⟨h5,h⟩:=ic h
  ·obtain⟨x6,h6,h⟩:=ob h;obtain⟨h7,h⟩|⟨h7,h⟩:=ic h
   ·try simp only[hσ,h5,h6,h7,Lk,C,E,F,G,H,J]
    refine ih h ?_;try simp only[h5,h6,h7,C,E,F,G,H,J,Y]
   ·obtain⟨r9,h9,h⟩:=ob h;try simp only[hσ,h5,h6,h7,Lk,C,E,F,G,H,J]
    refine A4 (B1c h9) ?_;try simp only[h5,h6,h7,C,E,F,G,H,J]
    refine Al ?_;obtain⟨h10,h⟩|⟨h10,h⟩:=ic h
    ·try simp only[h5,h6,h7,h10,C,E,F,G,H,J]
     refine AD (es:=Z X8.row ([r9.1]:P X8)) ?_;obtain⟨h11,h⟩:=Ba h;try simp only[h5,h6,h7,h10,h11,C,E,F,G,H,J]
     refine ih h ?_;try simp only[h5,h6,h7,h10,h11,C,E,F,G,H,J,Y]
    ·try simp only[h5,h6,h7,h10,C,E,F,G,H,J]
     cases h;exact t0
  ·try simp only[hσ,h5,Lk,Ur,C,E,F,G,H,J]
   refine D3 ?_;obtain⟨r12,h12,h⟩:=ob h;try simp only[h5,C,E,F,G,H,J]
   refine A4 (jM h12) ?_;obtain⟨h13,h⟩|⟨h13,h⟩:=ic h
   ·try simp only[h5,h13,C,E,F,G,H,J]
    cases h;exact t0
   ·try simp only[h5,h13,C,E,F,G,H,J]
    cases h;exact t0
theorem B1d{a0}{a1}{a2}{a3}{r}(h:NA a0 a1 a2 a3=N r):FC I 353 [.ag (Xk.row a0),.ag (X6.row a1),.sc (.sl (Z X5.row a2)),.sc (.sl (Z (rL X1.row) a3))] [.sc (.v (.int .i64 r))]:=by
 unfold NA at h;refine Aa A9 aG [8] 57 ?_;simp only[aG,C,E,F,G,H,J];try simp only[C,E,F,G,H,J]
 refine A8 ?_;try simp only[C,E,F,G,H,J]
 refine A8 ?_;obtain⟨r1,h1,h⟩:=ob h;try simp only[C,E,F,G,H,J]
 refine A4 (XE h1) ?_;obtain⟨h2,h⟩|⟨h2,h⟩:=ic h
 ·try simp only[h2,C,E,F,G,H,J]
  refine AD (es:=Z X8.row ([]:P X8)) ?_;try simp only[h2,C,E,F,G,H,J]
  refine B3v h ?_;try simp only[h2,C,E,F,G,H,J,Y]
 ·try simp only[h2,C,E,F,G,H,J]
  cases h;exact t0
/- 316:spec_CrewSuffices -/
def Q3:X0:=A1 [Ag [2,3,4,5,9,13,14,15] [4,5] [768]] (A1 [bn 16 .lss 15 14] (Aw 16 0 1 (A1 [ia 17 13 15 1,ld 18 17,mv 11 18] (.reg [mv 19 9,mv 20 11,Bl 21 5 40 19 20,mv 9 21])) (Av 22 15)))
def Us:X0:=(A6 (.drw [o0 (lw 23 4 4),o0 (lw 24 5 2),o0 (mv 25 2),o0 (mv 26 9),o0 (ca 27 352 [S 23,S 24,S 25,S 26]),(N [27],fa 28 4 0),(N [27],ld 29 28),o0 (ca 30 169 [S 27,K 0,S 29]),o0 (mv 31 30),o0 (AL 31 T 32 4 4),o0 (AL 31 T 33 5 2),o0 (Af 31 T 34 2),o0 (Af 31 T 35 3),o0 (Am 31 T 36 353 [S 32,S 33,S 34,S 35]),(N [36],Ac 31 T 37 4 1),(N [36],Ad 31 T 38 37),o0 (Am 31 T 39 169 [S 36,K 0,S 38]),o0 (pa 40 31 39),o0 (mv 8 40)]) .ret)
def aH:X0:=(A1 [bo 4 0,bo 5 1,A3 8 L] (A1 [AO 12 5 [.int .i64 0,.int .i64 0,.bool L,.int .i64 0,.int .i64 0] 0 [],mv 9 12] (A6 (A1 [mv 13 3,ln 14 13,A5 15 0] (Aj 0 Q3)) Us)))
def nD:=fun a2 a3 (a0:Xk) (a1:X6) (k_:U→(P X1)→Q V)=>∀{v1 v2} {zr},k_ v1 v2=N zr→Kp I [2,3,4,5,9,13,14,15] [4,5] [768] ⟨[pL 2 X5.row a2,pL 3 (rL X1.row) a3,pB 4,pB 5,pW 9 768,pL 13 (rL X1.row) a3,pI 14 (a3.length:U),pI 15 v1],[(4,(dm a0.row)),(5,[aM X9.row a1.Points,aM X3.row a1.Segments])],[(768,5,Z X1.row v2)]⟩ (.code (.loop Q3):: [.blk 0,.code Us]) (Ah [8] [.sc (.v (.bool zr))])
theorem B3w{a2 a3 a0 a1}{n:W}:nD a2 a3 a0 a1 (I9 a2 a3 a0 a1 n):=by
 induction n with
 | zero=>intro _ _ r h; cases h
 | succ n ih=>
  intro v1 v2 r h σ hσ;rw[I9] at h;refine Ak ?_;obtain⟨h3,h⟩|⟨h3,h⟩:=ic h
  ·obtain⟨x4,h4,h⟩:=ob h;obtain⟨h5,h⟩:=Ba h;try simp only[hσ,h3,h4,h5,Q3,C,E,F,G,H,J]
   refine ih h ?_;try simp only[h3,h4,h5,C,E,F,G,H,J,Y]
  ·try simp only[hσ,h3,Q3,Us,C,E,F,G,H,J]
   refine Ao ?_;obtain⟨r6,h6,h⟩:=ob h;try simp only[h3,C,E,F,G,H,J]
   refine IG (B1o h6) (by first | rfl | kernel_rfl) (BK X) X (uf X) ?_;obtain⟨r7,h7,h⟩:=ob h;try simp only[h3,C,E,F,G,H,J]
   refine AH (AU h7) ?_;obtain⟨h8,h⟩|⟨h8,h⟩:=ic h
   ·obtain⟨r9,h9,h⟩:=ob h;try simp only[h3,h8,C,E,F,G,H,J]
    refine AH (B1d h9) ?_;obtain⟨r10,h10,h⟩:=ob h;try simp only[h3,h8,C,E,F,G,H,J]
    refine AH (AU h10) ?_;try simp only[h3,h8,C,E,F,G,H,J]
    cases h;exact t0
   ·try simp only[h3,h8,C,E,F,G,H,J]
    cases h;exact t0
theorem B0z{a0}{a1}{a2}{a3}{r}(h:Sd a0 a1 a2 a3=N r):FC I 316 [.ag (Xk.row a0),.ag (X6.row a1),.sc (.sl (Z X5.row a2)),.sc (.sl (Z (rL X1.row) a3))] [.sc (.v (.bool r))]:=by
 unfold Sd at h;refine Aa A9 aH [8] 41 ?_;simp only[aH,C,E,F,G,H,J];try simp only[C,E,F,G,H,J]
 refine A8 ?_;try simp only[C,E,F,G,H,J]
 refine A8 ?_;try simp only[C,E,F,G,H,J]
 refine AD (es:=Z X1.row ([]:P X1)) ?_;try simp only[C,E,F,G,H,J]
 refine B3w h ?_;try simp only[C,E,F,G,H,J,Y]
/- 247:spec_l16Fit -/
def Q4:X0:=A1 [Ag [1,2,6,9,10,11,18,19,20] [2,6] []] (A1 [bn 21 .lss 20 19] (Aw 21 2 3 (A1 [ia 22 18 20 4,lw 23 22 4,Ai 8 [aI 0,aI 0,aI 0,.nil],so 8 23 4] (A1 [fa 24 2 3,lw 25 24 2,fa 26 2 6,lw 27 26 2,fa 28 6 3,ld 29 28,fa 30 8 3,ld 31 30,ca 32 243 [S 25,S 27,S 29,S 31]] (At 32 (A2 [A3 4 L])))) (Av 33 20)))
def Ut:X0:=(Av 34 11)
def Ll:X0:=A1 [Ag [1,2,9,10,11] [2] []] (A1 [bn 12 .lss 11 10] (Aw 12 0 1 (A1 [mv 13 11,ia 14 9 11 4,lw 15 14 4,Ai 6 [aI 0,aI 0,aI 0,.nil],mv 5 13,so 6 15 4] (A1 [mv 16 1,mv 17 5,(O,.slc 18 4 (S 16) O (N (S 17)) O),ln 19 18,A5 20 0] (Aj 2 Q4))) Ut))
def Q5:X0:=(A6 (.drw [(N [42],fa 35 2 8),(N [42],lw 36 35 4),(N [42],fa 37 2 3),(N [42],lw 38 37 2),(N [42],fa 39 2 5),(N [42],ld 40 39),o0 (mv 41 1),o0 (ca 42 317 [S 41]),o0 (ca 43 316 [S 36,S 38,S 40,S 42]),o0 (mv 4 43)]) .ret)
def aJ:X0:=(A1 [bo 2 0,A3 4 L] (A6 (A1 [mv 9 1,ln 10 9,A5 11 0] (Aj 0 Ll)) Q5))
def oC:=fun a1 v1 (a0:X7) (x3:X2) y5 y6 (k_:U→Q V)=>∀{v7} {zr},k_ v7=N zr→Kp I [1,2,6,9,10,11,18,19,20] [2,6] [] ⟨[pL 1 X2.row a1,pB 2,pB 6,pL 9 X2.row a1,pI 10 (a1.length:U),pI 11 v1,pL 18 X2.row y5,pI 19 y6,pI 20 v7],[(2,([aI a0.Forecast.Tide.Mean,aM zC a0.Forecast.Tide.Parts,aM zD a0.Forecast.Surges,aM X9.row a0.Chart.Points,aM X3.row a0.Chart.Segments,aM X5.row a0.Fleet,aI a0.Regime.Gap,aB a0.Regime.NoMeet]++dm a0.Crew.row)),(6,[aI x3.Start,aI x3.Arrival,aI x3.Cost,aM X1.row x3.Passages])],[]⟩ (.code (.loop Q4):: [.blk 2,.blk 1,.code Ut,.code (.loop Ll),.blk 0,.code Q5]) (Ah [4] [.sc (.v (.bool zr))])
def Yj:=fun a1 (a0:X7) (k_:U→Q V)=>∀{v1} {zr},k_ v1=N zr→Kp I [1,2,9,10,11] [2] [] ⟨[pL 1 X2.row a1,pB 2,pL 9 X2.row a1,pI 10 (a1.length:U),pI 11 v1],[(2,([aI a0.Forecast.Tide.Mean,aM zC a0.Forecast.Tide.Parts,aM zD a0.Forecast.Surges,aM X9.row a0.Chart.Points,aM X3.row a0.Chart.Segments,aM X5.row a0.Fleet,aI a0.Regime.Gap,aB a0.Regime.NoMeet]++dm a0.Crew.row))],[]⟩ (.code (.loop Ll):: [.blk 0,.code Q5]) (Ah [4] [.sc (.v (.bool zr))])
theorem B3x{a1 v1 a0 x3 y5 y6}{Oe}(wo:Yj a1 a0 Oe){n:W}:oC a1 v1 a0 x3 y5 y6 (IC a1 v1 a0 x3 y5 y6 Oe n):=by
 induction n with
 | zero=>intro _ r h; cases h
 | succ n ih=>
  intro v7 r h σ hσ;rw[IC] at h;refine Ak ?_;obtain⟨h8,h⟩|⟨h8,h⟩:=ic h
  ·obtain⟨x9,h9,h⟩:=ob h;try simp only[hσ,h8,h9,Q4,C,E,F,G,H,J]
   refine Al ?_;obtain⟨r10,h10,h⟩:=ob h;try simp only[h8,h9,C,E,F,G,H,J]
   refine A4 (B0x h10) ?_;obtain⟨h11,h⟩|⟨h11,h⟩:=ic h
   ·try simp only[h8,h9,h11,C,E,F,G,H,J]
    cases h;exact t0
   ·try simp only[h8,h9,h11,C,E,F,G,H,J]
    refine ih h ?_;try simp only[h8,h9,h11,C,E,F,G,H,J,Y]
  ·try simp only[hσ,h8,Q4,Ut,C,E,F,G,H,J]
   refine wo h ?_;try simp only[h8,C,E,F,G,H,J,Y]
theorem B3y{a1 a0}{n:W}:Yj a1 a0 (Ff a1 a0 n):=by
 induction n with
 | zero=>intro _ r h; cases h
 | succ n ih=>
  intro v1 r h σ hσ;rw[Ff] at h;refine Ak ?_;obtain⟨h2,h⟩|⟨h2,h⟩:=ic h
  ·obtain⟨x3,h3,h⟩:=ob h;try simp only[hσ,h2,h3,Ll,C,E,F,G,H,J]
   refine Al ?_;obtain⟨p4,h4,h⟩:=ob h;try simp only[h2,h3,h4,C,E,F,G,H,J]
   refine B3x ih h ?_;try simp only[h2,h3,h4,C,E,F,G,H,J,Y]
  ·try simp only[hσ,h2,Ll,Q5,C,E,F,G,H,J]
   refine Ao ?_;obtain⟨r12,h12,h⟩:=ob h;try simp only[h2,C,E,F,G,H,J]
   refine AH (B0w h12) ?_;obtain⟨r13,h13,h⟩:=ob h;try simp only[h2,C,E,F,G,H,J]
   refine IG (B0z h13) (by first | rfl | kernel_rfl) (BK X) X (uf X) ?_;try simp only[h2,C,E,F,G,H,J]
   cases h;exact t0
theorem B17{a0}{a1}{r}(h:Sp a0 a1=N r):FC I 247 [.ag (X7.row a0),.sc (.sl (Z X2.row a1))] [.sc (.v (.bool r))]:=by
 unfold Sp at h;refine Aa A9 aJ [4] 44 ?_;simp only[aJ,C,E,F,G,H,J];try simp only[C,E,F,G,H,J]
 refine A8 ?_;try simp only[C,E,F,G,H,J]
 refine B3y h ?_;try simp only[C,E,F,G,H,J,Y]
/- 156:spec_IsPlan -/
def Q7:X0:=A1 [Ag [1,2,3,20,21,22] [3] []] (A1 [bn 23 .lss 22 21] (Aw 23 0 1 (A1 [mv 24 22,ia 25 20 22 4,lw 26 25 4,Ai 8 [aI 0,aI 0,aI 0,.nil],mv 7 24,so 8 26 4] (A6 (.drw [o0 (lw 27 3 12),o0 (mv 28 1),o0 (mv 29 7),o0 (ia 30 28 29 5),o0 (lw 31 30 5),o0 (lw 32 8 4),o0 (ca 33 246 [S 27,S 31,S 32]),o0 (nt 34 33)]) (At 34 (A2 [A3 6 L])))) (Av 35 22)))
def Uu:X0:=(A2 [lw 36 3 12,mv 37 2,ca 38 247 [S 36,S 37],mv 6 38])
def aK:X0:=(A1 [bo 3 0,A3 6 L] (Ab [lw 9 3 12,mv 10 1,ca 11 150 [S 9,S 10],nt 12 11,mv 13 12,Af 13 L 14 2,B3 13 L 15 14,Af 13 L 16 1,B3 13 L 17 16,AI 13 L 18 .neq 15 17,po 19 13 18] 19 (A2 [A3 6 L]) (A6 (A1 [mv 20 2,ln 21 20,A5 22 0] (Aj 0 Q7)) Uu)))
def nN:=fun a1 a2 (a0:X7) (k_:U→Q V)=>∀{v4} {zr},k_ v4=N zr→Kp I [1,2,3,20,21,22] [3] [] ⟨[pL 1 zB a1,pL 2 X2.row a2,pB 3,pL 20 X2.row a2,pI 21 (a2.length:U),pI 22 v4],[(3,([aI a0.Forecast.Tide.Mean,aM zC a0.Forecast.Tide.Parts,aM zD a0.Forecast.Surges,aM X9.row a0.Chart.Points,aM X3.row a0.Chart.Segments,aM X5.row a0.Fleet,aI a0.Regime.Gap,aB a0.Regime.NoMeet]++dm a0.Crew.row))],[]⟩ (.code (.loop Q7):: [.blk 0,.code Uu]) (Ah [6] [.sc (.v (.bool zr))])
theorem B3z{a1 a2 a0}{n:W}:nN a1 a2 a0 (G4 a1 a2 a0 n):=by
 induction n with
 | zero=>intro _ r h; cases h
 | succ n ih=>
  intro v4 r h σ hσ;rw[G4] at h;refine Ak ?_;obtain⟨h5,h⟩|⟨h5,h⟩:=ic h
  ·obtain⟨x6,h6,h⟩:=ob h;try simp only[hσ,h5,h6,Q7,C,E,F,G,H,J]
   refine Al ?_;try simp only[h5,h6,C,E,F,G,H,J]
   refine Ao ?_;obtain⟨x7,h7,h⟩:=ob h;obtain⟨r9,h9,h⟩:=ob h;try simp only[h5,h6,h7,C,E,F,G,H,J]
   refine AH (B04 h9) ?_;obtain⟨h10,h⟩|⟨h10,h⟩:=ic h
   ·try simp only[h5,h6,h7,h10,C,E,F,G,H,J]
    refine ih h ?_;try simp only[h5,h6,h7,h10,C,E,F,G,H,J,Y]
   ·try simp only[h5,h6,h7,h10,C,E,F,G,H,J]
    cases h;exact t0
  ·obtain⟨r11,h11,h⟩:=ob h;try simp only[hσ,h5,Q7,Uu,C,E,F,G,H,J]
   refine A4 (B17 h11) ?_;try simp only[h5,C,E,F,G,H,J]
   cases h;exact t0
theorem B05{a0}{a1}{a2}{r}(h:Ns a0 a1 a2=N r):FC I 156 [.ag (X7.row a0),.sc (.sl (Z zB a1)),.sc (.sl (Z X2.row a2))] [.sc (.v (.bool r))]:=by
 unfold Ns at h;refine Aa A9 aK [6] 39 ?_;simp only[aK,C,E,F,G,H,J];try simp only[C,E,F,G,H,J]
 refine A8 ?_;obtain⟨r1,h1,h⟩:=ob h;try simp only[C,E,F,G,H,J]
 refine A4 (B0v h1) ?_;obtain⟨h2,h⟩|⟨h2,h⟩:=ic h
 ·obtain⟨h3,h⟩|⟨h3,h⟩:=ic h
  ·try simp only[h2,h3,C,E,F,G,H,J]
   cases h;exact t0
  ·try simp only[h2,h3,C,E,F,G,H,J]
   refine B3z h ?_;try simp only[h2,h3,C,E,F,G,H,J,Y]
 ·try simp only[h2,C,E,F,G,H,J]
  cases h;exact t0
/- 157:spec_l21Account -/
def Q8:X0:=A1 [Ag [2,3,6,7,14,15,16] [3,6,7] [704,768]] (A1 [bn 17 .lss 16 15] (Aw 17 0 1 (A1 [mv 18 16,ia 19 14 16 5,lw 20 19 5,Ai 9 [aI 0,aI 0,aI 0,aI 0,aI 0],mv 8 18,so 9 20 5] (A1 [fa 21 3 5,ld 22 21,fa 23 9 0,ld 24 23,ia 25 22 24 6,fa 26 25 3,ld 27 26,mv 10 27] (A6 (.drw [o0 (fa 28 7 0),o0 (ld 29 28),o0 (mv 30 10),o0 (fa 31 7 0),o0 (ld 32 31),o0 (mv 33 10),o0 (ia 34 32 33 1),o0 (ld 35 34),o0 (mv 36 2),o0 (mv 37 8),o0 (ia 38 36 37 4),o0 (fa 39 38 2),o0 (ld 40 39),o0 (bn 41 .add 35 40),o0 (ia 42 29 30 1),(O,so 42 41 1)]) (.reg [fa 43 7 1,ld 44 43,mv 45 10,ia 46 44 45 1,ld 47 46,Ae 48 .add 47 1,ia 49 44 45 1,so 49 48 1])))) (Av 50 16)))
def Uv:X0:=(A2 [lw 51 7 2,so 6 51 2])
def aN:X0:=(A1 [bo 3 0,Ai 6 [.nil,.nil]] (A6 (.drw [(N [12,7],(O,.mksl 11 1 8 [.int .i64 0] (K 4) (K 4))),(N [11,7],(O,.mksl 12 1 8 [.int .i64 0] (K 4) (K 4))),(N [7],Bv 13 [.nil,.nil] [(0,1,(S 11)),(1,1,(S 12))]),(N [11,12],Ai 7 [.nil,.nil]),(O,so 7 13 2)]) (A6 (A1 [mv 14 1,ln 15 14,A5 16 0] (Aj 0 Q8)) Uv)))
def oD:=fun a2 a1 (a0:X7) (k_:U→(P U)→(P U)→Q Xh)=>∀{v3 v4 v5} {zr},k_ v3 v4 v5=N zr→Kp I [2,3,6,7,14,15,16] [3,6,7] [704,768] ⟨[pL 2 X2.row a2,pB 3,pB 6,pB 7,pL 14 zB a1,pI 15 (a1.length:U),pI 16 v3],[(3,([aI a0.Forecast.Tide.Mean,aM zC a0.Forecast.Tide.Parts,aM zD a0.Forecast.Surges,aM X9.row a0.Chart.Points,aM X3.row a0.Chart.Segments,aM X5.row a0.Fleet,aI a0.Regime.Gap,aB a0.Regime.NoMeet]++dm a0.Crew.row)),(6,[.nil,.nil]),(7,[.own 704,.own 768])],[(704,1,Z rI v4),(768,1,Z rI v5)]⟩ (.code (.loop Q8):: [.blk 0,.code Uv]) (Ah [.c 6 T 2] [.ag [.o 1 (Z rI zr.Waits),.o 1 (Z rI zr.Calls)]])
theorem B30{a2 a1 a0}{n:W}:oD a2 a1 a0 (ID a2 a1 a0 n):=by
 induction n with
 | zero=>intro _ _ _ r h; cases h
 | succ n ih=>
  intro v3 v4 v5 r h σ hσ;rw[ID] at h;refine Ak ?_;obtain⟨h6,h⟩|⟨h6,h⟩:=ic h
  ·obtain⟨x7,h7,h⟩:=ob h;try simp only[hσ,h6,h7,Q8,C,E,F,G,H,J]
   refine Al ?_;obtain⟨x8,h8,h⟩:=ob h;try simp only[h6,h7,h8,C,E,F,G,H,J]
   refine Ao ?_;obtain⟨x9,h9,h⟩:=ob h;have h9n:=AE h9;obtain⟨x10,h10,h⟩:=ob h;try simp only[h6,h7,h8,h9,h9n,h10,C,E,F,G,H,J]
   refine AW (row:=rI) (y:=(IntKind.i64.wrap (x9+x10.Cost))) X X h9n X X (by rfl) ?_;try simp only[h6,h7,h8,h9,h9n,h10,C,E,F,G,H,J]
   refine Ao ?_;obtain⟨x11,h11,h⟩:=ob h;have h11n:=AE h11;try simp only[h6,h7,h8,h9,h9n,h10,h11,h11n,C,E,F,G,H,J]
   refine AW (row:=rI) (y:=(IntKind.i64.wrap (x11+(1:U)))) X X h11n X X (by rfl) ?_;try simp only[h6,h7,h8,h9,h9n,h10,h11,h11n,C,E,F,G,H,J]
   refine ih h ?_;try simp only[h6,h7,h8,h9,h9n,h10,h11,h11n,C,E,F,G,H,J,Y]
  ·try simp only[hσ,h6,Q8,Uv,C,E,F,G,H,J]
   cases h;try simp only[B7,C,E,F,G,H,J]
   trivial
theorem B18{a0}{a1}{a2}{r}(h:NT a0 a1 a2=N r):FC I 157 [.ag (X7.row a0),.sc (.sl (Z zB a1)),.sc (.sl (Z X2.row a2))] [.ag [.o 1 (Z rI r.Waits),.o 1 (Z rI r.Calls)]]:=by
 unfold NT at h;refine Aa A9 aN [.c 6 T 2] 52 ?_;simp only[aN,C,E,F,G,H,J];try simp only[C,E,F,G,H,J]
 refine A8 ?_;try simp only[C,E,F,G,H,J]
 refine Al ?_;try simp only[C,E,F,G,H,J]
 refine Ao ?_;obtain⟨n1,hn1,h⟩:=ob h;try simp only[C,E,F,G,H,J]
 refine IH (m:= .row 11 1 (Z rI (List.replicate n1 (0:U)))) (Ol X X hn1 X (CD X)) X (KG X) ?_;obtain⟨n2,hn2,h⟩:=ob h;try simp only[C,E,F,G,H,J]
 refine IH (m:= .row 12 1 (Z rI (List.replicate n2 (0:U)))) (Ol X X hn2 X (CD X)) X (KG X) ?_;try simp only[C,E,F,G,H,J]
 refine IH (m:= .box 7 [.nil,.nil]) X X (Om X X) ?_;try simp only[C,E,F,G,H,J]
 refine Ao ?_;try simp only[C,E,F,G,H,J]
 refine B30 h ?_;try simp only[C,E,F,G,H,J,Y]
/- 69:spec_AccountOf -/
def aO:X0:=(A1 [bo 3 0,Ai 6 [.nil,.nil],A3 7 L] (Ab [lw 8 3 12,mv 9 1,mv 10 2,ca 11 156 [S 8,S 9,S 10],nt 12 11] 12 (A2 [Bv 13 [.nil,.nil] [],so 6 13 2,A3 7 L]) (A2 [lw 14 3 12,mv 15 1,mv 16 2,ca 17 157 [S 14,S 15,S 16],so 6 17 2,A3 7 T])))
theorem B0t{a0}{a1}{a2}{r}(h:Ng a0 a1 a2=N r):FC I 69 [.ag (X7.row a0),.sc (.sl (Z zB a1)),.sc (.sl (Z X2.row a2))] [.ag [.o 1 (Z rI r.1.Waits),.o 1 (Z rI r.1.Calls)],.sc (.v (.bool r.2))]:=by
 unfold Ng at h;refine Aa A9 aO [.c 6 T 2,7] 18 ?_;simp only[aO,C,E,F,G,H,J];try simp only[C,E,F,G,H,J]
 refine A8 ?_;try simp only[C,E,F,G,H,J]
 refine Al ?_;obtain⟨r1,h1,h⟩:=ob h;try simp only[C,E,F,G,H,J]
 refine A4 (B05 h1) ?_;obtain⟨h2,h⟩|⟨h2,h⟩:=ic h
 ·obtain⟨r3,h3,h⟩:=ob h;try simp only[h2,C,E,F,G,H,J]
  refine A4 (B18 h3) ?_;try simp only[h2,C,E,F,G,H,J]
  cases h;try simp only[B7,C,E,F,G,H,J]
  trivial
 ·try simp only[h2,C,E,F,G,H,J]
  cases h;try simp only[B7,C,E,F,G,H,J]
  trivial
/- 114:impl_within -/
def aP:X0:=(A1 [A3 6 L] (A2 [mv 7 1,mv 8 0,bn 9 .leq 7 8,mv 10 9,Af 10 T 11 0,Af 10 T 12 2,AI 10 T 13 .leq 11 12,pa 14 10 13,mv 6 14]))
theorem Ci{a0}{a1}{a2}{r}(h:BP a0 a1 a2=N r):FC I 114 [.sc (.int .i64 a0),.sc (.int .i64 a1),.sc (.int .i64 a2)] [.sc (.v (.bool r))]:=by
 unfold BP at h;refine Aa A9 aP [6] 15 ?_;simp only[aP,C,E,F,G,H,J];obtain⟨h1,h⟩|⟨h1,h⟩:=ic h
 ·try simp only[h1,C,E,F,G,H,J]
  cases h;exact t0
 ·try simp only[h1,C,E,F,G,H,J]
  cases h;exact t0
/- 338:impl_isPeriod -/
def aQ:X0:=(A1 [A3 2 L] (A2 [mv 3 0,ca 4 114 [S 3,K 4,K 2880],mv 5 4,Af 5 T 6 0,AQ 5 T 7 .rem 6 4,AQ 5 T 8 .eql 7 0,pa 9 5 8,mv 2 9]))
theorem jC{a0}{r}(h:JK a0=N r):FC I 338 [.sc (.int .i64 a0)] [.sc (.v (.bool r))]:=by
 unfold JK at h;refine Aa A9 aQ [2] 10 ?_;simp only[aQ,C,E,F,G,H,J];obtain⟨r1,h1,h⟩:=ob h;try simp only[C,E,F,G,H,J]
 refine A4 (Ci h1) ?_;obtain⟨h2,h⟩|⟨h2,h⟩:=ic h
 ·try simp only[h2,C,E,F,G,H,J]
  cases h;exact t0
 ·try simp only[h2,C,E,F,G,H,J]
  cases h;exact t0
/- 283:impl_PartOk -/
def aR:X0:=(A1 [bo 1 0,A3 2 L] (A2 [fa 3 1 0,ld 4 3,ca 5 114 [S 4,K 0,K 1000],mv 6 5,Ac 6 T 7 1 1,Ad 6 T 8 7,Am 6 T 9 338 [S 8],pa 10 6 9,mv 11 10,Ac 11 T 12 1 2,Ad 11 T 13 12,Ac 11 T 14 1 1,Ad 11 T 15 14,AQ 11 T 16 .sub 15 1,Am 11 T 17 114 [S 13,K 0,S 16],pa 18 11 17,mv 2 18]))
theorem A7p{a0}{r}(h:M4 a0=N r):FC I 283 [.ag (zC a0)] [.sc (.v (.bool r))]:=by
 unfold M4 at h;refine Aa A9 aR [2] 19 ?_;simp only[aR,C,E,F,G,H,J];try simp only[C,E,F,G,H,J]
 refine A8 ?_;obtain⟨r1,h1,h⟩:=ob h;try simp only[C,E,F,G,H,J]
 refine A4 (Ci h1) ?_;obtain⟨h2,h⟩|⟨h2,h⟩:=ic h
 ·obtain⟨r3,h3,h⟩:=ob h;try simp only[h2,C,E,F,G,H,J]
  refine A4 (jC h3) ?_;obtain⟨h4,h⟩|⟨h4,h⟩:=ic h
  ·obtain⟨r5,h5,h⟩:=ob h;try simp only[h2,h4,C,E,F,G,H,J]
   refine A4 (Ci h5) ?_;try simp only[h2,h4,C,E,F,G,H,J]
   cases h;exact t0
  ·try simp only[h2,h4,C,E,F,G,H,J]
   cases h;exact t0
 ·try simp only[h2,C,E,F,G,H,J]
  cases h;exact t0
/- 207:impl_TideOk -/
def Q9:X0:=A1 [Ag [16,17,18] [] []] (A1 [bn 19 .lss 18 17] (Aw 19 0 1 (A1 [ia 20 16 18 3,lw 21 20 3,Ai 4 [aI 0,aI 0,aI 0],so 4 21 3] (A1 [lw 22 4 3,ca 23 283 [S 22],nt 24 23] (At 24 (A2 [A3 2 L])))) (Av 25 18)))
def Ux:X0:=(A2 [A3 2 T])
def aT:X0:=(A1 [bo 1 0,A3 2 L] (Ab [fa 5 1 0,ld 6 5,ca 7 114 [S 6,K (-1000),K 1000],nt 8 7,mv 9 8,Ac 9 L 10 1 1,Ad 9 L 11 10,B3 9 L 12 11,AQ 9 L 13 .gtr 12 4,po 14 9 13] 14 (A2 [A3 2 L]) (A6 (A1 [fa 15 1 1,ld 16 15,ln 17 16,A5 18 0] (Aj 0 Q9)) Ux)))
def lS:=fun(a0:Xj) (k_:U→Q V)=>∀{v4} {zr},k_ v4=N zr→Kp I [16,17,18] [] [] ⟨[pL 16 zC a0.Parts,pI 17 (a0.Parts.length:U),pI 18 v4],[],[]⟩ (.code (.loop Q9):: [.blk 0,.code Ux]) (Ah [2] [.sc (.v (.bool zr))])
theorem B31{a0}{n:W}:lS a0 (Hh a0 n):=by
 induction n with
 | zero=>intro _ r h; cases h
 | succ n ih=>
  intro v4 r h σ hσ;rw[Hh] at h;refine Ak ?_;obtain⟨h5,h⟩|⟨h5,h⟩:=ic h
  ·obtain⟨x6,h6,h⟩:=ob h;try simp only[hσ,h5,h6,Q9,C,E,F,G,H,J]
   refine Al ?_;obtain⟨r7,h7,h⟩:=ob h;try simp only[h5,h6,C,E,F,G,H,J]
   refine A4 (A7p h7) ?_;obtain⟨h8,h⟩|⟨h8,h⟩:=ic h
   ·try simp only[h5,h6,h8,C,E,F,G,H,J]
    refine ih h ?_;try simp only[h5,h6,h8,C,E,F,G,H,J,Y]
   ·try simp only[h5,h6,h8,C,E,F,G,H,J]
    cases h;exact t0
  ·try simp only[hσ,h5,Q9,Ux,C,E,F,G,H,J]
   cases h;exact t0
theorem A74{a0}{r}(h:Me a0=N r):FC I 207 [.ag (Xj.row a0)] [.sc (.v (.bool r))]:=by
 unfold Me at h;refine Aa A9 aT [2] 26 ?_;simp only[aT,C,E,F,G,H,J];try simp only[C,E,F,G,H,J]
 refine A8 ?_;obtain⟨r1,h1,h⟩:=ob h;try simp only[C,E,F,G,H,J]
 refine A4 (Ci h1) ?_;obtain⟨h2,h⟩|⟨h2,h⟩:=ic h
 ·obtain⟨h3,h⟩|⟨h3,h⟩:=ic h
  ·try simp only[h2,h3,C,E,F,G,H,J]
   cases h;exact t0
  ·try simp only[h2,h3,C,E,F,G,H,J]
   refine B31 h ?_;try simp only[h2,h3,C,E,F,G,H,J,Y]
 ·try simp only[h2,C,E,F,G,H,J]
  cases h;exact t0
/- 117:impl_isMinute -/
def aU:X0:=(A1 [A3 2 L] (A2 [mv 3 0,ca 4 114 [S 3,K 0,K 2880],mv 2 4]))
theorem FA{a0}{r}(h:D1 a0=N r):FC I 117 [.sc (.int .i64 a0)] [.sc (.v (.bool r))]:=by
 unfold D1 at h;refine Aa A9 aU [2] 5 ?_;simp only[aU,C,E,F,G,H,J];obtain⟨r1,h1,h⟩:=ob h;try simp only[C,E,F,G,H,J]
 refine A4 (Ci h1) ?_;try simp only[C,E,F,G,H,J]
 cases h;exact t0
/- 208:impl_SurgeOk -/
def aW:X0:=(A1 [bo 1 0,A3 2 L] (A2 [fa 3 1 0,ld 4 3,ca 5 117 [S 4],mv 6 5,Ac 6 T 7 1 1,Ad 6 T 8 7,(N (6,T),.bin 9 .leq (K (-500)) (S 8)),pa 10 6 9,mv 11 10,Ac 11 T 12 1 1,Ad 11 T 13 12,Ac 11 T 14 1 2,Ad 11 T 15 14,AI 11 T 16 .leq 13 15,pa 17 11 16,mv 18 17,Ac 18 T 19 1 2,Ad 18 T 20 19,AQ 18 T 21 .leq 20 500,pa 22 18 21,mv 2 22]))
theorem A73{a0}{r}(h:Md a0=N r):FC I 208 [.ag (zD a0)] [.sc (.v (.bool r))]:=by
 unfold Md at h;refine Aa A9 aW [2] 23 ?_;simp only[aW,C,E,F,G,H,J];try simp only[C,E,F,G,H,J]
 refine A8 ?_;obtain⟨r1,h1,h⟩:=ob h;try simp only[C,E,F,G,H,J]
 refine A4 (FA h1) ?_;obtain⟨h2,h⟩|⟨h2,h⟩:=ic h
 ·obtain⟨h3,h⟩|⟨h3,h⟩:=ic h
  ·obtain⟨h4,h⟩|⟨h4,h⟩:=ic h
   ·try simp only[h2,h3,h4,C,E,F,G,H,J]
    cases h;exact t0
   ·try simp only[h2,h3,h4,C,E,F,G,H,J]
    cases h;exact t0
  ·try simp only[h2,h3,C,E,F,G,H,J]
   cases h;exact t0
 ·try simp only[h2,C,E,F,G,H,J]
  cases h;exact t0
/- 116:impl_ForecastOk -/
def Qa:X0:=A1 [Ag [1,25,26,27] [1] []] (A1 [bn 28 .lss 27 26] (Aw 28 0 1 (A1 [mv 29 27,ia 30 25 27 3,lw 31 30 3,Ai 4 [aI 0,aI 0,aI 0],mv 3 29,so 4 31 3] (A6 (.drw [o0 (lw 32 4 3),o0 (ca 33 208 [S 32]),o0 (nt 34 33),o0 (mv 35 34),o0 (Af 35 L 36 3),o0 (AQ 35 L 37 .gtr 36 0),o0 (Af 35 L 38 37),o0 (Ac 38 T 39 1 2),o0 (Ad 38 T 40 39),o0 (Af 38 T 41 3),o0 (AQ 38 T 42 .sub 41 1),o0 (CB 38 T 43 40 42 3),o0 (Ac 38 T 44 43 0),o0 (Ad 38 T 45 44),o0 (Ac 38 T 46 4 0),o0 (Ad 38 T 47 46),o0 (AI 38 T 48 .geq 45 47),o0 (N (35,L),.pick 49 (S 38) (S 48) (KB L)),o0 (po 50 35 49)]) (At 50 (A2 [A3 2 L])))) (Av 51 27)))
def Uy:X0:=(A2 [A3 2 T])
def aX:X0:=(A1 [bo 1 0,A3 2 L] (Ab [fa 5 1 0,lw 6 5 2,ca 7 207 [S 6],nt 8 7,mv 9 8,Ac 9 L 10 1 2,Ad 9 L 11 10,B3 9 L 12 11,Am 9 L 13 114 [S 12,K 1,K 6],AM 9 L 14 13,po 15 9 14,mv 16 15,Ac 16 L 17 1 2,Ad 16 L 18 17,(N (16,L),.iaddr 19 (S 18) (K 0) 3),Ac 16 L 20 19 0,Ad 16 L 21 20,AQ 16 L 22 .neq 21 0,po 23 16 22] 23 (A2 [A3 2 L]) (A6 (A1 [fa 24 1 2,ld 25 24,ln 26 25,A5 27 0] (Aj 0 Qa)) Uy)))
def lD:=fun(a0:Xc) (k_:U→Q V)=>∀{v7} {zr},k_ v7=N zr→Kp I [1,25,26,27] [1] [] ⟨[pB 1,pL 25 zD a0.Surges,pI 26 (a0.Surges.length:U),pI 27 v7],[(1,[aI a0.Tide.Mean,aM zC a0.Tide.Parts,aM zD a0.Surges])],[]⟩ (.code (.loop Qa):: [.blk 0,.code Uy]) (Ah [2] [.sc (.v (.bool zr))])
theorem B32{a0}{n:W}:lD a0 (FJ a0 n):=by
 induction n with
 | zero=>intro _ r h; cases h
 | succ n ih=>
  intro v7 r h σ hσ;rw[FJ] at h;refine Ak ?_;obtain⟨h8,h⟩|⟨h8,h⟩:=ic h
  ·obtain⟨x9,h9,h⟩:=ob h;try simp only[hσ,h8,h9,Qa,C,E,F,G,H,J]
   refine Al ?_;try simp only[h8,h9,C,E,F,G,H,J]
   refine Ao ?_;obtain⟨r10,h10,h⟩:=ob h;try simp only[h8,h9,C,E,F,G,H,J]
   refine AH (A73 h10) ?_;obtain⟨h11,h⟩|⟨h11,h⟩:=ic h
   ·obtain⟨h12,h⟩|⟨h12,h⟩:=ic h
    ·obtain⟨x13,h13,h⟩:=ob h;obtain⟨h14,h⟩|⟨h14,h⟩:=ic h
     ·try simp only[h8,h9,h11,h12,h13,h14,C,E,F,G,H,J]
      cases h;exact t0
     ·try simp only[h8,h9,h11,h12,h13,h14,C,E,F,G,H,J]
      refine ih h ?_;try simp only[h8,h9,h11,h12,h13,h14,C,E,F,G,H,J,Y]
    ·try simp only[h8,h9,h11,h12,C,E,F,G,H,J]
     refine ih h ?_;try simp only[h8,h9,h11,h12,C,E,F,G,H,J,Y]
   ·try simp only[h8,h9,h11,C,E,F,G,H,J]
    cases h;exact t0
  ·try simp only[hσ,h8,Qa,Uy,C,E,F,G,H,J]
   cases h;exact t0
theorem Tb{a0}{r}(h:FI a0=N r):FC I 116 [.ag (zF a0)] [.sc (.v (.bool r))]:=by
 unfold FI at h;refine Aa A9 aX [2] 52 ?_;simp only[aX,C,E,F,G,H,J];try simp only[C,E,F,G,H,J]
 refine A8 ?_;obtain⟨r1,h1,h⟩:=ob h;try simp only[C,E,F,G,H,J]
 refine A4 (A74 h1) ?_;obtain⟨h2,h⟩|⟨h2,h⟩:=ic h
 ·obtain⟨r3,h3,h⟩:=ob h;try simp only[h2,C,E,F,G,H,J]
  refine A4 (Ci h3) ?_;obtain⟨h4,h⟩|⟨h4,h⟩:=ic h
  ·obtain⟨x5,h5,h⟩:=ob h;obtain⟨h6,h⟩|⟨h6,h⟩:=ic h
   ·try simp only[h2,h4,h5,h6,C,E,F,G,H,J]
    cases h;exact t0
   ·try simp only[h2,h4,h5,h6,C,E,F,G,H,J]
    refine B32 h ?_;try simp only[h2,h4,h5,h6,C,E,F,G,H,J,Y]
  ·try simp only[h2,h4,C,E,F,G,H,J]
   cases h;exact t0
 ·try simp only[h2,C,E,F,G,H,J]
  cases h;exact t0
/- 186:impl_IsName -/
def GR:X0:=A1 [Ag [0,3,4] [] []] (A1 [mv 25 4,nt 26 25,mv 27 26,Af 27 T 28 3,AQ 27 T 29 .eql 28 0,Af 27 T 30 29,Af 30 L 31 0,Af 30 L 32 3,(N (30,L),.idx 33 (S 31) (S 32)),(N (30,L),.bin 34 .lss (S 33) (K8 48)),(N (27,T),.pick 35 (S 30) (KB T) (S 34)),Af 27 T 36 35,Af 36 L 37 0,Af 36 L 38 3,(N (36,L),.idx 39 (S 37) (S 38)),(N (36,L),.bin 40 .gtr (S 39) (K8 57)),(N (27,T),.pick 41 (S 36) (KB T) (S 40)),pa 42 27 41] (At 42 (A2 [A3 2 L])))
def Qb:X0:=A1 [Ag [0,3] [] []] (.reg [mv 13 3,Ae 14 .add 13 1,mv 3 14])
def GS:X0:=A1 [Ag [0,3] [] []] (A6 (A1 [mv 9 3,mv 10 0,(O,.slen 11 (S 10)),bn 12 .lss 9 11] (AS 12 .skip (.exit 0))) (A6 (.block 1 (A1 [mv 15 0,mv 16 3,(O,.idx 17 (S 15) (S 16)),(O,.bin 18 .geq (S 17) (K8 97)),mv 19 18,Af 19 T 20 0,Af 19 T 21 3,(N (19,T),.idx 22 (S 20) (S 21)),(N (19,T),.bin 23 .leq (S 22) (K8 122)),pa 24 19 23,mv 4 24] GR)) Qb))
def Ln:X0:=(A2 [A3 2 T])
def aY:X0:=(A1 [A3 2 L] (Ab [mv 5 0,(O,.slen 6 (S 5)),ca 7 114 [S 6,K 1,K 8],nt 8 7] 8 (A2 [A3 2 L]) (A6 (A1 [A5 3 0] (Aj 0 GS)) Ln)))
def lI:=fun a0 v3 (k_:Q V)=>∀{zr},k_=N zr→Kp I [0,3] [] [] ⟨[(0,vc (aS a0)),pI 3 v3],[],[]⟩ (.code Qb:: [.code (.loop GS),.blk 0,.code Ln]) (Ah [2] [.sc (.v (.bool zr))])
def lH:=fun a0 v3 (k_:V→Q V)=>∀{v7} {zr},k_ v7=N zr→Kp I [0,3,4] [] [] ⟨[(0,vc (aS a0)),pI 3 v3,(4,vc (aB v7))],[],[]⟩ (.code GR:: [.blk 1,.code Qb,.code (.loop GS),.blk 0,.code Ln]) (Ah [2] [.sc (.v (.bool zr))])
def Tk:=fun a0 (k_:U→Q V)=>∀{v3} {zr},k_ v3=N zr→Kp I [0,3] [] [] ⟨[(0,vc (aS a0)),pI 3 v3],[],[]⟩ (.code (.loop GS):: [.blk 0,.code Ln]) (Ah [2] [.sc (.v (.bool zr))])
theorem jg{a0 v3}{En}(Sw:Tk a0 En):lI a0 v3 (LW a0 v3 En):=by
 intro r h σ hσ;unfold LW at h;try simp only[hσ,Qb,C,E,F,G,H,J]
 refine Sw h ?_;try simp only[C,E,F,G,H,J,Y]
theorem jh{a0 v3}{En}(Sw:Tk a0 En):lH a0 v3 (LV a0 v3 En):=by
 intro v7 r h σ hσ;unfold LV at h;obtain⟨h8,h⟩|⟨h8,h⟩:=ic h
 ·try simp only[hσ,h8,GR,C,E,F,G,H,J]
  refine jg Sw h ?_;try simp only[h8,C,E,F,G,H,J,Y]
 ·obtain⟨h9,h⟩|⟨h9,h⟩:=ic h
  ·try simp only[hσ,h8,h9,GR,C,E,F,G,H,J]
   cases h;exact t0
  ·obtain⟨b10,h10,h⟩:=ob h;obtain⟨h11,h⟩|⟨h11,h⟩:=ic h
   ·try simp only[hσ,h8,h9,h10,h11,GR,C,E,F,G,H,J]
    cases h;exact t0
   ·obtain⟨h12,h⟩|⟨h12,h⟩:=ic h
    ·try simp only[hσ,h8,h9,h10,h11,h12,GR,C,E,F,G,H,J]
     cases h;exact t0
    ·try simp only[hσ,h8,h9,h10,h11,h12,GR,C,E,F,G,H,J]
     refine jg Sw h ?_;try simp only[h8,h9,h10,h11,h12,C,E,F,G,H,J,Y]
theorem B34{a0}{n:W}:Tk a0 (FL a0 n):=by
 induction n with
 | zero=>intro _ r h; cases h
 | succ n ih=>
  intro v3 r h σ hσ;rw[FL] at h;refine Ak ?_;obtain⟨h4,h⟩|⟨h4,h⟩:=ic h
  ·obtain⟨b5,h5,h⟩:=ob h;obtain⟨h6,h⟩|⟨h6,h⟩:=ic h
   ·try simp only[hσ,h4,h5,h6,GS,C,E,F,G,H,J]
    refine jh ih h ?_;try simp only[h4,h5,h6,C,E,F,G,H,J,Y]
   ·try simp only[hσ,h4,h5,h6,GS,C,E,F,G,H,J]
    refine jh ih h ?_;try simp only[h4,h5,h6,C,E,F,G,H,J,Y]
  ·try simp only[hσ,h4,GS,Ln,C,E,F,G,H,J]
   cases h;exact t0
theorem iq{a0}{r}(h:JC a0=N r):FC I 186 [.sc (.str a0)] [.sc (.v (.bool r))]:=by
 unfold JC at h;refine Aa A9 aY [2] 43 ?_;simp only[aY,C,E,F,G,H,J];obtain⟨r1,h1,h⟩:=ob h;try simp only[C,E,F,G,H,J]
 refine A4 (Ci h1) ?_;obtain⟨h2,h⟩|⟨h2,h⟩:=ic h
 ·try simp only[h2,C,E,F,G,H,J]
  refine B34 h ?_;try simp only[h2,C,E,F,G,H,J,Y]
 ·try simp only[h2,C,E,F,G,H,J]
  cases h;exact t0
/- 187:impl_PointNamed -/
def Qc:X0:=A1 [Ag [1,8,9,10] [] []] (A1 [bn 11 .lss 10 9] (Aw 11 0 1 (A1 [mv 12 10,ia 13 8 10 2,lw 14 13 2,Ai 6 [aS [],aB L],mv 5 12,so 6 14 2] (A1 [fa 15 6 0,ld 16 15,mv 17 1,bn 18 .eql 16 17] (At 18 (A2 [mv 19 5,mv 4 19])))) (Av 20 10)))
def Uz:X0:=(A2 [A5 4 (-1)])
def aZ:X0:=(A1 [bo 2 0,A5 4 0] (A6 (A1 [fa 7 2 0,ld 8 7,ln 9 8,A5 10 0] (Aj 0 Qc)) Uz))
def lO:=fun a1 (a0:X6) (k_:U→Q U)=>∀{v1} {zr},k_ v1=N zr→Kp I [1,8,9,10] [] [] ⟨[(1,vc (aS a1)),pL 8 X9.row a0.Points,pI 9 (a0.Points.length:U),pI 10 v1],[],[]⟩ (.code (.loop Qc):: [.blk 0,.code Uz]) (Ah [4] [.sc (.v (.int .i64 zr))])
theorem B35{a1 a0}{n:W}:lO a1 a0 (Hd a1 a0 n):=by
 induction n with
 | zero=>intro _ r h; cases h
 | succ n ih=>
  intro v1 r h σ hσ;rw[Hd] at h;refine Ak ?_;obtain⟨h2,h⟩|⟨h2,h⟩:=ic h
  ·obtain⟨x3,h3,h⟩:=ob h;try simp only[hσ,h2,h3,Qc,C,E,F,G,H,J]
   refine Al ?_;obtain⟨h4,h⟩|⟨h4,h⟩:=ic h
   ·try simp only[h2,h3,h4,C,E,F,G,H,J]
    cases h;exact t0
   ·try simp only[h2,h3,h4,C,E,F,G,H,J]
    refine ih h ?_;try simp only[h2,h3,h4,C,E,F,G,H,J,Y]
  ·try simp only[hσ,h2,Qc,Uz,C,E,F,G,H,J]
   cases h;exact t0
theorem A7s{a0}{a1}{r}(h:M7 a0 a1=N r):FC I 187 [.ag (X6.row a0),.sc (.str a1)] [.sc (.v (.int .i64 r))]:=by
 unfold M7 at h;refine Aa A9 aZ [4] 21 ?_;simp only[aZ,C,E,F,G,H,J];try simp only[C,E,F,G,H,J]
 refine A8 ?_;try simp only[C,E,F,G,H,J]
 refine B35 h ?_;try simp only[C,E,F,G,H,J,Y]
/- 94:impl_isIndex -/
def aa:X0:=(A1 [A3 4 L] (A2 [mv 5 0,Ae 6 .geq 5 0,mv 7 6,Af 7 T 8 0,Af 7 T 9 1,AI 7 T 10 .lss 8 9,pa 11 7 10,mv 4 11]))
theorem Cv{a0}{a1}{r}(h:BO a0 a1=N r):FC I 94 [.sc (.int .i64 a0),.sc (.int .i64 a1)] [.sc (.v (.bool r))]:=by
 unfold BO at h;refine Aa A9 aa [4] 12 ?_;simp only[aa,C,E,F,G,H,J];obtain⟨h1,h⟩|⟨h1,h⟩:=ic h
 ·try simp only[h1,C,E,F,G,H,J]
  cases h;exact t0
 ·try simp only[h1,C,E,F,G,H,J]
  cases h;exact t0
/- 188:impl_Segment_joins -/
def ab:X0:=(A1 [bo 3 0,A3 6 L] (A2 [fa 7 3 0,ld 8 7,mv 9 1,bn 10 .eql 8 9,mv 11 10,Ac 11 T 12 3 1,Ad 11 T 13 12,Af 11 T 14 2,AI 11 T 15 .eql 13 14,pa 16 11 15,mv 17 16,Ac 17 L 18 3 0,Ad 17 L 19 18,Af 17 L 20 2,AI 17 L 21 .eql 19 20,Af 17 L 22 21,Ac 22 T 23 3 1,Ad 22 T 24 23,Af 22 T 25 1,AI 22 T 26 .eql 24 25,(N (17,L),.pick 27 (S 22) (S 26) (KB L)),po 28 17 27,mv 6 28]))
theorem A7x{a0}{a1}{a2}{r}(h:Ma a0 a1 a2=N r):FC I 188 [.ag (X3.row a0),.sc (.int .i64 a1),.sc (.int .i64 a2)] [.sc (.v (.bool r))]:=by
 unfold Ma at h;refine Aa A9 ab [6] 29 ?_;simp only[ab,C,E,F,G,H,J];try simp only[C,E,F,G,H,J]
 refine A8 ?_;obtain⟨h1,h⟩|⟨h1,h⟩:=ic h
 ·obtain⟨h2,h⟩|⟨h2,h⟩:=ic h
  ·try simp only[h1,h2,C,E,F,G,H,J]
   cases h;exact t0
  ·obtain⟨h3,h⟩|⟨h3,h⟩:=ic h
   ·try simp only[h1,h2,h3,C,E,F,G,H,J]
    cases h;exact t0
   ·try simp only[h1,h2,h3,C,E,F,G,H,J]
    cases h;exact t0
 ·obtain⟨h4,h⟩|⟨h4,h⟩:=ic h
  ·try simp only[h1,h4,C,E,F,G,H,J]
   cases h;exact t0
  ·try simp only[h1,h4,C,E,F,G,H,J]
   cases h;exact t0
/- 93:impl_ChartOk -/
def Qd:X0:=A1 [Ag [1,20,21,22] [1] []] (A1 [bn 23 .lss 22 21] (Aw 23 0 1 (A1 [mv 24 22,ia 25 20 22 2,lw 26 25 2,Ai 4 [aS [],aB L],mv 3 24,so 4 26 2] (A1 [fa 27 4 0,ld 28 27,ca 29 186 [S 28],nt 30 29,mv 31 30,AL 31 L 32 1 2,Ac 31 L 33 4 0,Ad 31 L 34 33,Am 31 L 35 187 [S 32,S 34],Af 31 L 36 3,AI 31 L 37 .neq 35 36,po 38 31 37] (At 38 (A2 [A3 2 L])))) (Av 39 22)))
def Qe:X0:=A1 [Ag [1,6,41,42,43,86,87,88] [1,6] []] (A1 [bn 89 .lss 88 87] (Aw 89 4 5 (A1 [ia 90 86 88 5,lw 91 90 5,Ai 8 [aI 0,aI 0,aI 0,aI 0,aB L],so 8 91 5] (A1 [lw 92 8 5,fa 93 6 0,ld 94 93,fa 95 6 1,ld 96 95,ca 97 188 [S 92,S 94,S 96]] (At 97 (A2 [A3 2 L])))) (Av 98 88)))
def UA:X0:=(Av 99 43)
def Lo:X0:=A1 [Ag [1,41,42,43] [1] []] (A1 [bn 44 .lss 43 42] (Aw 44 2 3 (A1 [mv 45 43,ia 46 41 43 5,lw 47 46 5,Ai 6 [aI 0,aI 0,aI 0,aI 0,aB L],mv 5 45,so 6 47 5] (Ab [fa 48 6 0,ld 49 48,fa 50 1 0,ld 51 50,ln 52 51,ca 53 94 [S 49,S 52],nt 54 53,mv 55 54,Ac 55 L 56 6 1,Ad 55 L 57 56,Ac 55 L 58 1 0,Ad 55 L 59 58,B3 55 L 60 59,Am 55 L 61 94 [S 57,S 60],AM 55 L 62 61,po 63 55 62,mv 64 63,Ac 64 L 65 6 0,Ad 64 L 66 65,Ac 64 L 67 6 1,Ad 64 L 68 67,AI 64 L 69 .eql 66 68,po 70 64 69,mv 71 70,Ac 71 L 72 6 2,Ad 71 L 73 72,Am 71 L 74 114 [S 73,K 0,K 3000],AM 71 L 75 74,po 76 71 75,mv 77 76,Ac 77 L 78 6 3,Ad 77 L 79 78,Am 77 L 80 114 [S 79,K 1,K 240],AM 77 L 81 80,po 82 77 81] 82 (A2 [A3 2 L]) (A1 [fa 83 1 1,ld 84 83,mv 85 5,(O,.slc 86 5 (S 84) O (N (S 85)) O),ln 87 86,A5 88 0] (Aj 4 Qe)))) UA))
def Qf:X0:=(A2 [A3 2 T])
def UB:X0:=(A6 (A1 [fa 40 1 1,ld 41 40,ln 42 41,A5 43 0] (Aj 2 Lo)) Qf)
def af:X0:=(A1 [bo 1 0,A3 2 L] (Ab [fa 9 1 0,ld 10 9,ln 11 10,Ae 12 .gtr 11 8,mv 13 12,Ac 13 L 14 1 1,Ad 13 L 15 14,B3 13 L 16 15,AQ 13 L 17 .gtr 16 10,po 18 13 17] 18 (A2 [A3 2 L]) (A6 (A1 [fa 19 1 0,ld 20 19,ln 21 20,A5 22 0] (Aj 0 Qd)) UB)))
def kz:=fun(a0:X6) v11 (x13:X3) y24 y25 (k_:U→Q V)=>∀{v26} {zr},k_ v26=N zr→Kp I [1,6,41,42,43,86,87,88] [1,6] [] ⟨[pB 1,pB 6,pL 41 X3.row a0.Segments,pI 42 (a0.Segments.length:U),pI 43 v11,pL 86 X3.row y24,pI 87 y25,pI 88 v26],[(1,[aM X9.row a0.Points,aM X3.row a0.Segments]),(6,(dm x13.row))],[]⟩ (.code (.loop Qe):: [.blk 4,.blk 3,.code UA,.code (.loop Lo),.blk 2,.code Qf]) (Ah [2] [.sc (.v (.bool zr))])
def Y2:=fun(a0:X6) (k_:U→Q V)=>∀{v11} {zr},k_ v11=N zr→Kp I [1,41,42,43] [1] [] ⟨[pB 1,pL 41 X3.row a0.Segments,pI 42 (a0.Segments.length:U),pI 43 v11],[(1,[aM X9.row a0.Points,aM X3.row a0.Segments])],[]⟩ (.code (.loop Lo):: [.blk 2,.code Qf]) (Ah [2] [.sc (.v (.bool zr))])
def ky:=fun(a0:X6) (k_:U→Q V)=>∀{v3} {zr},k_ v3=N zr→Kp I [1,20,21,22] [1] [] ⟨[pB 1,pL 20 X9.row a0.Points,pI 21 (a0.Points.length:U),pI 22 v3],[(1,[aM X9.row a0.Points,aM X3.row a0.Segments])],[]⟩ (.code (.loop Qd):: [.blk 0,.code UB]) (Ah [2] [.sc (.v (.bool zr))])
theorem B36{a0 v11 x13 y24 y25}{O5}(wY:Y2 a0 O5){n:W}:kz a0 v11 x13 y24 y25 (H1 a0 v11 x13 y24 y25 O5 n):=by
 induction n with
 | zero=>intro _ r h; cases h
 | succ n ih=>
  intro v26 r h σ hσ;rw[H1] at h;refine Ak ?_;obtain⟨h27,h⟩|⟨h27,h⟩:=ic h
  ·obtain⟨x28,h28,h⟩:=ob h;try simp only[hσ,h27,h28,Qe,C,E,F,G,H,J]
   refine Al ?_;obtain⟨r29,h29,h⟩:=ob h;try simp only[h27,h28,C,E,F,G,H,J]
   refine A4 (A7x h29) ?_;obtain⟨h30,h⟩|⟨h30,h⟩:=ic h
   ·try simp only[h27,h28,h30,C,E,F,G,H,J]
    cases h;exact t0
   ·try simp only[h27,h28,h30,C,E,F,G,H,J]
    refine ih h ?_;try simp only[h27,h28,h30,C,E,F,G,H,J,Y]
  ·try simp only[hσ,h27,Qe,UA,C,E,F,G,H,J]
   refine wY h ?_;try simp only[h27,C,E,F,G,H,J,Y]
theorem B37{a0}{n:W}:Y2 a0 (E9 a0 n):=by
 induction n with
 | zero=>intro _ r h; cases h
 | succ n ih=>
  intro v11 r h σ hσ;rw[E9] at h;refine Ak ?_;obtain⟨h12,h⟩|⟨h12,h⟩:=ic h
  ·obtain⟨x13,h13,h⟩:=ob h;try simp only[hσ,h12,h13,Lo,C,E,F,G,H,J]
   refine Al ?_;obtain⟨r14,h14,h⟩:=ob h;try simp only[h12,h13,C,E,F,G,H,J]
   refine A4 (Cv h14) ?_;obtain⟨h15,h⟩|⟨h15,h⟩:=ic h
   ·obtain⟨r16,h16,h⟩:=ob h;try simp only[h12,h13,h15,C,E,F,G,H,J]
    refine A4 (Cv h16) ?_;obtain⟨h17,h⟩|⟨h17,h⟩:=ic h
    ·obtain⟨h18,h⟩|⟨h18,h⟩:=ic h
     ·try simp only[h12,h13,h15,h17,h18,C,E,F,G,H,J]
      cases h;exact t0
     ·obtain⟨r19,h19,h⟩:=ob h;try simp only[h12,h13,h15,h17,h18,C,E,F,G,H,J]
      refine A4 (Ci h19) ?_;obtain⟨h20,h⟩|⟨h20,h⟩:=ic h
      ·obtain⟨r21,h21,h⟩:=ob h;try simp only[h12,h13,h15,h17,h18,h20,C,E,F,G,H,J]
       refine A4 (Ci h21) ?_;obtain⟨h22,h⟩|⟨h22,h⟩:=ic h
       ·obtain⟨p23,h23,h⟩:=ob h;try simp only[h12,h13,h15,h17,h18,h20,h22,h23,C,E,F,G,H,J]
        refine B36 ih h ?_;try simp only[h12,h13,h15,h17,h18,h20,h22,h23,C,E,F,G,H,J,Y]
       ·try simp only[h12,h13,h15,h17,h18,h20,h22,C,E,F,G,H,J]
        cases h;exact t0
      ·try simp only[h12,h13,h15,h17,h18,h20,C,E,F,G,H,J]
       cases h;exact t0
    ·try simp only[h12,h13,h15,h17,C,E,F,G,H,J]
     cases h;exact t0
   ·try simp only[h12,h13,h15,C,E,F,G,H,J]
    cases h;exact t0
  ·try simp only[hσ,h12,Lo,Qf,C,E,F,G,H,J]
   cases h;exact t0
theorem B38{a0}{n:W}:ky a0 (H0 a0 n):=by
 induction n with
 | zero=>intro _ r h; cases h
 | succ n ih=>
  intro v3 r h σ hσ;rw[H0] at h;refine Ak ?_;obtain⟨h4,h⟩|⟨h4,h⟩:=ic h
  ·obtain⟨x5,h5,h⟩:=ob h;try simp only[hσ,h4,h5,Qd,C,E,F,G,H,J]
   refine Al ?_;obtain⟨r6,h6,h⟩:=ob h;try simp only[h4,h5,C,E,F,G,H,J]
   refine A4 (iq h6) ?_;obtain⟨h7,h⟩|⟨h7,h⟩:=ic h
   ·obtain⟨r9,h9,h⟩:=ob h;try simp only[h4,h5,h7,C,E,F,G,H,J]
    refine A4 (A7s h9) ?_;obtain⟨h10,h⟩|⟨h10,h⟩:=ic h
    ·try simp only[h4,h5,h7,h10,C,E,F,G,H,J]
     cases h;exact t0
    ·try simp only[h4,h5,h7,h10,C,E,F,G,H,J]
     refine ih h ?_;try simp only[h4,h5,h7,h10,C,E,F,G,H,J,Y]
   ·try simp only[h4,h5,h7,C,E,F,G,H,J]
    cases h;exact t0
  ·try simp only[hσ,h4,Qd,UB,C,E,F,G,H,J]
   refine B37 h ?_;try simp only[h4,C,E,F,G,H,J,Y]
theorem J6{a0}{r}(h:DN a0=N r):FC I 93 [.ag (X6.row a0)] [.sc (.v (.bool r))]:=by
 unfold DN at h;refine Aa A9 af [2] 100 ?_;simp only[af,C,E,F,G,H,J];try simp only[C,E,F,G,H,J]
 refine A8 ?_;obtain⟨h1,h⟩|⟨h1,h⟩:=ic h
 ·try simp only[h1,C,E,F,G,H,J]
  cases h;exact t0
 ·obtain⟨h2,h⟩|⟨h2,h⟩:=ic h
  ·try simp only[h1,h2,C,E,F,G,H,J]
   cases h;exact t0
  ·try simp only[h1,h2,C,E,F,G,H,J]
   refine B38 h ?_;try simp only[h1,h2,C,E,F,G,H,J,Y]
/- 266:impl_ShipOk -/
def ah:X0:=(A1 [bo 1 0,A3 2 L] (A2 [fa 3 1 0,ld 4 3,ca 5 186 [S 4],mv 6 5,Ac 6 T 7 1 1,Ad 6 T 8 7,Am 6 T 9 114 [S 8,K 10,K 400],pa 10 6 9,mv 11 10,Ac 11 T 12 1 2,Ad 11 T 13 12,Am 11 T 14 114 [S 13,K 100,K 2000],pa 15 11 14,mv 16 15,Ac 16 T 17 1 3,Ad 16 T 18 17,Am 16 T 19 94 [S 18,K 4],pa 20 16 19,mv 21 20,Ac 21 T 22 1 4,Ad 21 T 23 22,Am 21 T 24 114 [S 23,K 0,K 4],pa 25 21 24,mv 2 25]))
theorem KX{a0}{r}(h:Ea a0=N r):FC I 266 [.ag (X5.row a0)] [.sc (.v (.bool r))]:=by
 unfold Ea at h;refine Aa A9 ah [2] 26 ?_;simp only[ah,C,E,F,G,H,J];try simp only[C,E,F,G,H,J]
 refine A8 ?_;obtain⟨r1,h1,h⟩:=ob h;try simp only[C,E,F,G,H,J]
 refine A4 (iq h1) ?_;obtain⟨h2,h⟩|⟨h2,h⟩:=ic h
 ·obtain⟨r3,h3,h⟩:=ob h;try simp only[h2,C,E,F,G,H,J]
  refine A4 (Ci h3) ?_;obtain⟨h4,h⟩|⟨h4,h⟩:=ic h
  ·obtain⟨r5,h5,h⟩:=ob h;try simp only[h2,h4,C,E,F,G,H,J]
   refine A4 (Ci h5) ?_;obtain⟨h6,h⟩|⟨h6,h⟩:=ic h
   ·obtain⟨r7,h7,h⟩:=ob h;try simp only[h2,h4,h6,C,E,F,G,H,J]
    refine A4 (Cv h7) ?_;obtain⟨h8,h⟩|⟨h8,h⟩:=ic h
    ·obtain⟨r9,h9,h⟩:=ob h;try simp only[h2,h4,h6,h8,C,E,F,G,H,J]
     refine A4 (Ci h9) ?_;try simp only[h2,h4,h6,h8,C,E,F,G,H,J]
     cases h;exact t0
    ·try simp only[h2,h4,h6,h8,C,E,F,G,H,J]
     cases h;exact t0
   ·try simp only[h2,h4,h6,C,E,F,G,H,J]
    cases h;exact t0
  ·try simp only[h2,h4,C,E,F,G,H,J]
   cases h;exact t0
 ·try simp only[h2,C,E,F,G,H,J]
  cases h;exact t0
/- 267:impl_ShipNamed -/
def Qg:X0:=A1 [Ag [1,7,8,9] [] []] (A1 [bn 10 .lss 9 8] (Aw 10 0 1 (A1 [mv 11 9,ia 12 7 9 6,lw 13 12 6,Ai 6 [aS [],aI 0,aI 0,aI 0,aI 0,aB L],mv 5 11,so 6 13 6] (A1 [fa 14 6 0,ld 15 14,mv 16 1,bn 17 .eql 15 16] (At 17 (A2 [mv 18 5,mv 4 18])))) (Av 19 9)))
def UC:X0:=(A2 [A5 4 (-1)])
def ak:X0:=(A1 [A5 4 0] (A6 (A1 [mv 7 0,ln 8 7,A5 9 0] (Aj 0 Qg)) UC))
def lQ:=fun a1 a0 (k_:U→Q U)=>∀{v1} {zr},k_ v1=N zr→Kp I [1,7,8,9] [] [] ⟨[(1,vc (aS a1)),pL 7 X5.row a0,pI 8 (a0.length:U),pI 9 v1],[],[]⟩ (.code (.loop Qg):: [.blk 0,.code UC]) (Ah [4] [.sc (.v (.int .i64 zr))])
theorem B39{a1 a0}{n:W}:lQ a1 a0 (Hg a1 a0 n):=by
 induction n with
 | zero=>intro _ r h; cases h
 | succ n ih=>
  intro v1 r h σ hσ;rw[Hg] at h;refine Ak ?_;obtain⟨h2,h⟩|⟨h2,h⟩:=ic h
  ·obtain⟨x3,h3,h⟩:=ob h;try simp only[hσ,h2,h3,Qg,C,E,F,G,H,J]
   refine Al ?_;obtain⟨h4,h⟩|⟨h4,h⟩:=ic h
   ·try simp only[h2,h3,h4,C,E,F,G,H,J]
    cases h;exact t0
   ·try simp only[h2,h3,h4,C,E,F,G,H,J]
    refine ih h ?_;try simp only[h2,h3,h4,C,E,F,G,H,J,Y]
  ·try simp only[hσ,h2,Qg,UC,C,E,F,G,H,J]
   cases h;exact t0
theorem A7y{a0}{a1}{r}(h:Mb a0 a1=N r):FC I 267 [.sc (.sl (Z X5.row a0)),.sc (.str a1)] [.sc (.v (.int .i64 r))]:=by
 unfold Mb at h;refine Aa A9 ak [4] 20 ?_;simp only[ak,C,E,F,G,H,J];try simp only[C,E,F,G,H,J]
 refine B39 h ?_;try simp only[C,E,F,G,H,J,Y]
/- 183:impl_FleetOk -/
def Qh:X0:=A1 [Ag [0,8,9,10] [] []] (A1 [bn 11 .lss 10 9] (Aw 11 0 1 (A1 [mv 12 10,ia 13 8 10 6,lw 14 13 6,Ai 4 [aS [],aI 0,aI 0,aI 0,aI 0,aB L],mv 3 12,so 4 14 6] (A1 [lw 15 4 6,ca 16 266 [S 15],nt 17 16,mv 18 17,Af 18 L 19 0,Ac 18 L 20 4 0,Ad 18 L 21 20,Am 18 L 22 267 [S 19,S 21],Af 18 L 23 3,AI 18 L 24 .neq 22 23,po 25 18 24] (At 25 (A2 [A3 2 L])))) (Av 26 10)))
def UD:X0:=(A2 [A3 2 T])
def al:X0:=(A1 [A3 2 L] (Ab [mv 5 0,ln 6 5,Ae 7 .gtr 6 6] 7 (A2 [A3 2 L]) (A6 (A1 [mv 8 0,ln 9 8,A5 10 0] (Aj 0 Qh)) UD)))
def lC:=fun a0 (k_:U→Q V)=>∀{v2} {zr},k_ v2=N zr→Kp I [0,8,9,10] [] [] ⟨[pL 0 X5.row a0,pL 8 X5.row a0,pI 9 (a0.length:U),pI 10 v2],[],[]⟩ (.code (.loop Qh):: [.blk 0,.code UD]) (Ah [2] [.sc (.v (.bool zr))])
theorem B4a{a0}{n:W}:lC a0 (H6 a0 n):=by
 induction n with
 | zero=>intro _ r h; cases h
 | succ n ih=>
  intro v2 r h σ hσ;rw[H6] at h;refine Ak ?_;obtain⟨h3,h⟩|⟨h3,h⟩:=ic h
  ·obtain⟨x4,h4,h⟩:=ob h;try simp only[hσ,h3,h4,Qh,C,E,F,G,H,J]
   refine Al ?_;obtain⟨r5,h5,h⟩:=ob h;try simp only[h3,h4,C,E,F,G,H,J]
   refine A4 (KX h5) ?_;obtain⟨h6,h⟩|⟨h6,h⟩:=ic h
   ·obtain⟨r7,h7,h⟩:=ob h;try simp only[h3,h4,h6,C,E,F,G,H,J]
    refine A4 (A7y h7) ?_;obtain⟨h8,h⟩|⟨h8,h⟩:=ic h
    ·try simp only[h3,h4,h6,h8,C,E,F,G,H,J]
     cases h;exact t0
    ·try simp only[h3,h4,h6,h8,C,E,F,G,H,J]
     refine ih h ?_;try simp only[h3,h4,h6,h8,C,E,F,G,H,J,Y]
   ·try simp only[h3,h4,h6,C,E,F,G,H,J]
    cases h;exact t0
  ·try simp only[hσ,h3,Qh,UD,C,E,F,G,H,J]
   cases h;exact t0
theorem io{a0}{r}(h:JA a0=N r):FC I 183 [.sc (.sl (Z X5.row a0))] [.sc (.v (.bool r))]:=by
 unfold JA at h;refine Aa A9 al [2] 27 ?_;simp only[al,C,E,F,G,H,J];obtain⟨h1,h⟩|⟨h1,h⟩:=ic h
 ·try simp only[h1,C,E,F,G,H,J]
  cases h;exact t0
 ·try simp only[h1,C,E,F,G,H,J]
  refine B4a h ?_;try simp only[h1,C,E,F,G,H,J,Y]
/- 184:impl_RegimeOk -/
def am:X0:=(A1 [bo 1 0,A3 2 L] (A2 [fa 3 1 0,ld 4 3,ca 5 114 [S 4,K 0,K 60],mv 2 5]))
theorem A7t{a0}{r}(h:RF a0=N r):FC I 184 [.ag (Xg.row a0)] [.sc (.v (.bool r))]:=by
 unfold RF at h;refine Aa A9 am [2] 6 ?_;simp only[am,C,E,F,G,H,J];try simp only[C,E,F,G,H,J]
 refine A8 ?_;obtain⟨r1,h1,h⟩:=ob h;try simp only[C,E,F,G,H,J]
 refine A4 (Ci h1) ?_;try simp only[C,E,F,G,H,J]
 cases h;exact t0
/- 268:impl_movesOk -/
def Qi:X0:=A1 [Ag [8,9,10] [] []] (A1 [bn 11 .lss 10 9] (Aw 11 0 1 (A1 [ia 12 8 10 1,ld 13 12,mv 4 13] (A1 [mv 14 4,ca 15 114 [S 14,K 0,K 240],nt 16 15] (At 16 (A2 [A3 2 L])))) (Av 17 10)))
def UE:X0:=(A2 [A3 2 T])
def aq:X0:=(A1 [A3 2 L] (Ab [mv 5 0,ln 6 5,Ae 7 .neq 6 64] 7 (A2 [A3 2 L]) (A6 (A1 [mv 8 0,ln 9 8,A5 10 0] (Aj 0 Qi)) UE)))
def lq:=fun a0 (k_:U→Q V)=>∀{v2} {zr},k_ v2=N zr→Kp I [8,9,10] [] [] ⟨[pL 8 rI a0,pI 9 (a0.length:U),pI 10 v2],[],[]⟩ (.code (.loop Qi):: [.blk 0,.code UE]) (Ah [2] [.sc (.v (.bool zr))])
theorem B4b{a0}{n:W}:lq a0 (Fsz a0 n):=by
 induction n with
 | zero=>intro _ r h; cases h
 | succ n ih=>
  intro v2 r h σ hσ;rw[Fsz] at h;refine Ak ?_;obtain⟨h3,h⟩|⟨h3,h⟩:=ic h
  ·obtain⟨x4,h4,h⟩:=ob h;obtain⟨r5,h5,h⟩:=ob h;try simp only[hσ,h3,h4,Qi,C,E,F,G,H,J]
   refine A4 (Ci h5) ?_;obtain⟨h6,h⟩|⟨h6,h⟩:=ic h
   ·try simp only[h3,h4,h6,C,E,F,G,H,J]
    refine ih h ?_;try simp only[h3,h4,h6,C,E,F,G,H,J,Y]
   ·try simp only[h3,h4,h6,C,E,F,G,H,J]
    cases h;exact t0
  ·try simp only[hσ,h3,Qi,UE,C,E,F,G,H,J]
   cases h;exact t0
theorem Xy{a0}{r}(h:FR a0=N r):FC I 268 [.sc (.sl (Z rI a0))] [.sc (.v (.bool r))]:=by
 unfold FR at h;refine Aa A9 aq [2] 18 ?_;simp only[aq,C,E,F,G,H,J];obtain⟨h1,h⟩|⟨h1,h⟩:=ic h
 ·try simp only[h1,C,E,F,G,H,J]
  cases h;exact t0
 ·try simp only[h1,C,E,F,G,H,J]
  refine B4b h ?_;try simp only[h1,C,E,F,G,H,J,Y]
/- 185:impl_CrewOk -/
def ar:X0:=(A1 [bo 1 0,A3 2 L] (A2 [fa 3 1 0,ld 4 3,ca 5 114 [S 4,K 0,K 12],mv 6 5,Ac 6 T 7 1 1,Ad 6 T 8 7,Am 6 T 9 114 [S 8,K 0,K 12],pa 10 6 9,mv 11 10,Ac 11 T 12 1 2,Ad 11 T 13 12,Am 11 T 14 117 [S 13],pa 15 11 14,mv 16 15,Ac 16 T 17 1 3,Ad 16 T 18 17,Am 16 T 19 268 [S 18],pa 20 16 19,mv 2 20]))
theorem A7c{a0}{r}(h:LQ a0=N r):FC I 185 [.ag (Xk.row a0)] [.sc (.v (.bool r))]:=by
 unfold LQ at h;refine Aa A9 ar [2] 21 ?_;simp only[ar,C,E,F,G,H,J];try simp only[C,E,F,G,H,J]
 refine A8 ?_;obtain⟨r1,h1,h⟩:=ob h;try simp only[C,E,F,G,H,J]
 refine A4 (Ci h1) ?_;obtain⟨h2,h⟩|⟨h2,h⟩:=ic h
 ·obtain⟨r3,h3,h⟩:=ob h;try simp only[h2,C,E,F,G,H,J]
  refine A4 (Ci h3) ?_;obtain⟨h4,h⟩|⟨h4,h⟩:=ic h
  ·obtain⟨r5,h5,h⟩:=ob h;try simp only[h2,h4,C,E,F,G,H,J]
   refine A4 (FA h5) ?_;obtain⟨h6,h⟩|⟨h6,h⟩:=ic h
   ·obtain⟨r7,h7,h⟩:=ob h;try simp only[h2,h4,h6,C,E,F,G,H,J]
    refine A4 (Xy h7) ?_;try simp only[h2,h4,h6,C,E,F,G,H,J]
    cases h;exact t0
   ·try simp only[h2,h4,h6,C,E,F,G,H,J]
    cases h;exact t0
  ·try simp only[h2,h4,C,E,F,G,H,J]
   cases h;exact t0
 ·try simp only[h2,C,E,F,G,H,J]
  cases h;exact t0
/- 91:impl_HarbourOk -/
def as_:X0:=(A1 [bo 1 0,A3 2 L] (A2 [fa 3 1 0,lw 4 3 3,ca 5 116 [S 4],mv 6 5,Ac 6 T 7 1 3,AL 6 T 8 7 2,Am 6 T 9 93 [S 8],pa 10 6 9,mv 11 10,Ac 11 T 12 1 5,Ad 11 T 13 12,Am 11 T 14 183 [S 13],pa 15 11 14,mv 16 15,Ac 16 T 17 1 6,AL 16 T 18 17 2,Am 16 T 19 184 [S 18],pa 20 16 19,mv 21 20,Ac 21 T 22 1 8,AL 21 T 23 22 4,Am 21 T 24 185 [S 23],pa 25 21 24,mv 2 25]))
theorem ip{a0}{r}(h:JB a0=N r):FC I 91 [.ag (X7.row a0)] [.sc (.v (.bool r))]:=by
 unfold JB at h;refine Aa A9 as_ [2] 26 ?_;simp only[as_,C,E,F,G,H,J];try simp only[C,E,F,G,H,J]
 refine A8 ?_;obtain⟨r1,h1,h⟩:=ob h;try simp only[C,E,F,G,H,J]
 refine A4 (Tb h1) ?_;obtain⟨h2,h⟩|⟨h2,h⟩:=ic h
 ·obtain⟨r3,h3,h⟩:=ob h;try simp only[h2,C,E,F,G,H,J]
  refine A4 (J6 h3) ?_;obtain⟨h4,h⟩|⟨h4,h⟩:=ic h
  ·obtain⟨r5,h5,h⟩:=ob h;try simp only[h2,h4,C,E,F,G,H,J]
   refine A4 (io h5) ?_;obtain⟨h6,h⟩|⟨h6,h⟩:=ic h
   ·obtain⟨r7,h7,h⟩:=ob h;try simp only[h2,h4,h6,C,E,F,G,H,J]
    refine A4 (A7t h7) ?_;obtain⟨h8,h⟩|⟨h8,h⟩:=ic h
    ·obtain⟨r9,h9,h⟩:=ob h;try simp only[h2,h4,h6,h8,C,E,F,G,H,J]
     refine A4 (A7c h9) ?_;try simp only[h2,h4,h6,h8,C,E,F,G,H,J]
     cases h;exact t0
    ·try simp only[h2,h4,h6,h8,C,E,F,G,H,J]
     cases h;exact t0
   ·try simp only[h2,h4,h6,C,E,F,G,H,J]
    cases h;exact t0
  ·try simp only[h2,h4,C,E,F,G,H,J]
   cases h;exact t0
 ·try simp only[h2,C,E,F,G,H,J]
  cases h;exact t0
/- 92:impl_callOk -/
def au:X0:=(A1 [bo 2 0,bo 3 1,A3 4 L] (A1 [fa 6 2 3,fa 7 6 0,ld 8 7,ln 9 8,mv 5 9] (A2 [fa 10 3 0,ld 11 10,fa 12 2 5,ld 13 12,ln 14 13,ca 15 94 [S 11,S 14],mv 16 15,Ac 16 T 17 3 1,Ad 16 T 18 17,Af 16 T 19 5,Am 16 T 20 94 [S 18,S 19],pa 21 16 20,mv 22 21,Ac 22 T 23 3 2,Ad 22 T 24 23,Af 22 T 25 5,Am 22 T 26 94 [S 24,S 25],pa 27 22 26,mv 28 27,Ac 28 T 29 3 1,Ad 28 T 30 29,Ac 28 T 31 3 2,Ad 28 T 32 31,AI 28 T 33 .neq 30 32,pa 34 28 33,mv 35 34,Ac 35 T 36 3 3,Ad 35 T 37 36,Am 35 T 38 117 [S 37],pa 39 35 38,mv 40 39,Ac 40 T 41 3 4,Ad 40 T 42 41,Ac 40 T 43 3 3,Ad 40 T 44 43,Am 40 T 45 114 [S 42,S 44,K 2880],pa 46 40 45,mv 4 46])))
theorem iy{a0}{a1}{r}(h:JH a0 a1=N r):FC I 92 [.ag (X7.row a0),.ag (zB a1)] [.sc (.v (.bool r))]:=by
 unfold JH at h;refine Aa A9 au [4] 47 ?_;simp only[au,C,E,F,G,H,J];try simp only[C,E,F,G,H,J]
 refine A8 ?_;try simp only[C,E,F,G,H,J]
 refine A8 ?_;obtain⟨r1,h1,h⟩:=ob h;try simp only[C,E,F,G,H,J]
 refine A4 (Cv h1) ?_;obtain⟨h2,h⟩|⟨h2,h⟩:=ic h
 ·obtain⟨r3,h3,h⟩:=ob h;try simp only[h2,C,E,F,G,H,J]
  refine A4 (Cv h3) ?_;obtain⟨h4,h⟩|⟨h4,h⟩:=ic h
  ·obtain⟨r5,h5,h⟩:=ob h;try simp only[h2,h4,C,E,F,G,H,J]
   refine A4 (Cv h5) ?_;obtain⟨h6,h⟩|⟨h6,h⟩:=ic h
   ·obtain⟨h7,h⟩|⟨h7,h⟩:=ic h
    ·obtain⟨r9,h9,h⟩:=ob h;try simp only[h2,h4,h6,h7,C,E,F,G,H,J]
     refine A4 (FA h9) ?_;obtain⟨h10,h⟩|⟨h10,h⟩:=ic h
     ·obtain⟨r11,h11,h⟩:=ob h;try simp only[h2,h4,h6,h7,h10,C,E,F,G,H,J]
      refine A4 (Ci h11) ?_;try simp only[h2,h4,h6,h7,h10,C,E,F,G,H,J]
      cases h;exact t0
     ·try simp only[h2,h4,h6,h7,h10,C,E,F,G,H,J]
      cases h;exact t0
    ·try simp only[h2,h4,h6,h7,C,E,F,G,H,J]
     cases h;exact t0
   ·try simp only[h2,h4,h6,C,E,F,G,H,J]
    cases h;exact t0
  ·try simp only[h2,h4,C,E,F,G,H,J]
   cases h;exact t0
 ·try simp only[h2,C,E,F,G,H,J]
  cases h;exact t0
/- 18:impl_CallsOk -/
def Qk:X0:=A1 [Ag [1,2,6,17,18,19,30,31,32] [2,6] []] (A1 [bn 33 .lss 32 31] (Aw 33 2 3 (A1 [ia 34 30 32 5,lw 35 34 5,Ai 8 [aI 0,aI 0,aI 0,aI 0,aI 0],so 8 35 5] (A1 [fa 36 8 0,ld 37 36,fa 38 6 0,ld 39 38,bn 40 .eql 37 39] (At 40 (A2 [A3 4 L])))) (Av 41 32)))
def UF:X0:=(Av 42 19)
def Lp:X0:=A1 [Ag [1,2,17,18,19] [2] []] (A1 [bn 20 .lss 19 18] (Aw 20 0 1 (A1 [mv 21 19,ia 22 17 19 5,lw 23 22 5,Ai 6 [aI 0,aI 0,aI 0,aI 0,aI 0],mv 5 21,so 6 23 5] (Ab [lw 24 2 12,lw 25 6 5,ca 26 92 [S 24,S 25],nt 27 26] 27 (A2 [A3 4 L]) (A1 [mv 28 1,mv 29 5,(O,.slc 30 5 (S 28) O (N (S 29)) O),ln 31 30,A5 32 0] (Aj 2 Qk)))) UF))
def Ql:X0:=(A2 [A3 4 T])
def az:X0:=(A1 [bo 2 0,A3 4 L] (Ab [lw 9 2 12,ca 10 91 [S 9],nt 11 10,mv 12 11,Af 12 L 13 1,B3 12 L 14 13,AQ 12 L 15 .gtr 14 6,po 16 12 15] 16 (A2 [A3 4 L]) (A6 (A1 [mv 17 1,ln 18 17,A5 19 0] (Aj 0 Lp)) Ql)))
def kx:=fun a1 v4 (a0:X7) (x6:Xa) y10 y11 (k_:U→Q V)=>∀{v12} {zr},k_ v12=N zr→Kp I [1,2,6,17,18,19,30,31,32] [2,6] [] ⟨[pL 1 zB a1,pB 2,pB 6,pL 17 zB a1,pI 18 (a1.length:U),pI 19 v4,pL 30 zB y10,pI 31 y11,pI 32 v12],[(2,([aI a0.Forecast.Tide.Mean,aM zC a0.Forecast.Tide.Parts,aM zD a0.Forecast.Surges,aM X9.row a0.Chart.Points,aM X3.row a0.Chart.Segments,aM X5.row a0.Fleet,aI a0.Regime.Gap,aB a0.Regime.NoMeet]++dm a0.Crew.row)),(6,(dm x6.row))],[]⟩ (.code (.loop Qk):: [.blk 2,.blk 1,.code UF,.code (.loop Lp),.blk 0,.code Ql]) (Ah [4] [.sc (.v (.bool zr))])
def Y1:=fun a1 (a0:X7) (k_:U→Q V)=>∀{v4} {zr},k_ v4=N zr→Kp I [1,2,17,18,19] [2] [] ⟨[pL 1 zB a1,pB 2,pL 17 zB a1,pI 18 (a1.length:U),pI 19 v4],[(2,([aI a0.Forecast.Tide.Mean,aM zC a0.Forecast.Tide.Parts,aM zD a0.Forecast.Surges,aM X9.row a0.Chart.Points,aM X3.row a0.Chart.Segments,aM X5.row a0.Fleet,aI a0.Regime.Gap,aB a0.Regime.NoMeet]++dm a0.Crew.row))],[]⟩ (.code (.loop Lp):: [.blk 0,.code Ql]) (Ah [4] [.sc (.v (.bool zr))])
theorem B4c{a1 v4 a0 x6 y10 y11}{O4}(wX:Y1 a1 a0 O4){n:W}:kx a1 v4 a0 x6 y10 y11 (EP a1 v4 a0 x6 y10 y11 O4 n):=by
 induction n with
 | zero=>intro _ r h; cases h
 | succ n ih=>
  intro v12 r h σ hσ;rw[EP] at h;refine Ak ?_;obtain⟨h13,h⟩|⟨h13,h⟩:=ic h
  ·obtain⟨x14,h14,h⟩:=ob h;try simp only[hσ,h13,h14,Qk,C,E,F,G,H,J]
   refine Al ?_;obtain⟨h15,h⟩|⟨h15,h⟩:=ic h
   ·try simp only[h13,h14,h15,C,E,F,G,H,J]
    cases h;exact t0
   ·try simp only[h13,h14,h15,C,E,F,G,H,J]
    refine ih h ?_;try simp only[h13,h14,h15,C,E,F,G,H,J,Y]
  ·try simp only[hσ,h13,Qk,UF,C,E,F,G,H,J]
   refine wX h ?_;try simp only[h13,C,E,F,G,H,J,Y]
theorem B4d{a1 a0}{n:W}:Y1 a1 a0 (DM a1 a0 n):=by
 induction n with
 | zero=>intro _ r h; cases h
 | succ n ih=>
  intro v4 r h σ hσ;rw[DM] at h;refine Ak ?_;obtain⟨h5,h⟩|⟨h5,h⟩:=ic h
  ·obtain⟨x6,h6,h⟩:=ob h;try simp only[hσ,h5,h6,Lp,C,E,F,G,H,J]
   refine Al ?_;obtain⟨r7,h7,h⟩:=ob h;try simp only[h5,h6,C,E,F,G,H,J]
   refine A4 (iy h7) ?_;obtain⟨h8,h⟩|⟨h8,h⟩:=ic h
   ·obtain⟨p9,h9,h⟩:=ob h;try simp only[h5,h6,h8,h9,C,E,F,G,H,J]
    refine B4c ih h ?_;try simp only[h5,h6,h8,h9,C,E,F,G,H,J,Y]
   ·try simp only[h5,h6,h8,C,E,F,G,H,J]
    cases h;exact t0
  ·try simp only[hσ,h5,Lp,Ql,C,E,F,G,H,J]
   cases h;exact t0
theorem A7b{a0}{a1}{r}(h:LP a0 a1=N r):FC I 18 [.ag (X7.row a0),.sc (.sl (Z zB a1))] [.sc (.v (.bool r))]:=by
 unfold LP at h;refine Aa A9 az [4] 43 ?_;simp only[az,C,E,F,G,H,J];try simp only[C,E,F,G,H,J]
 refine A8 ?_;obtain⟨r1,h1,h⟩:=ob h;try simp only[C,E,F,G,H,J]
 refine A4 (ip h1) ?_;obtain⟨h2,h⟩|⟨h2,h⟩:=ic h
 ·obtain⟨h3,h⟩|⟨h3,h⟩:=ic h
  ·try simp only[h2,h3,C,E,F,G,H,J]
   cases h;exact t0
  ·try simp only[h2,h3,C,E,F,G,H,J]
   refine B4d h ?_;try simp only[h2,h3,C,E,F,G,H,J,Y]
 ·try simp only[h2,C,E,F,G,H,J]
  cases h;exact t0
/- 99:impl_CallOk -/
def bA:X0:=(A1 [bo 2 0,bo 3 1,A3 4 L] (A2 [lw 5 2 12,ca 6 91 [S 5],mv 7 6,AL 7 T 8 2 12,AL 7 T 9 3 5,Am 7 T 10 92 [S 8,S 9],pa 11 7 10,mv 4 11]))
theorem A7a{a0}{a1}{r}(h:LO a0 a1=N r):FC I 99 [.ag (X7.row a0),.ag (zB a1)] [.sc (.v (.bool r))]:=by
 unfold LO at h;refine Aa A9 bA [4] 12 ?_;simp only[bA,C,E,F,G,H,J];try simp only[C,E,F,G,H,J]
 refine A8 ?_;try simp only[C,E,F,G,H,J]
 refine A8 ?_;obtain⟨r1,h1,h⟩:=ob h;try simp only[C,E,F,G,H,J]
 refine A4 (ip h1) ?_;obtain⟨h2,h⟩|⟨h2,h⟩:=ic h
 ·obtain⟨r3,h3,h⟩:=ob h;try simp only[h2,C,E,F,G,H,J]
  refine A4 (iy h3) ?_;try simp only[h2,C,E,F,G,H,J]
  cases h;exact t0
 ·try simp only[h2,C,E,F,G,H,J]
  cases h;exact t0
/- 327:impl_Segment_end -/
def bB:X0:=(A1 [bo 2 0,A5 4 0] (A6 (A1 [mv 5 1] (.block 0 (A1 [fa 7 2 0,ld 8 7,bn 9 .eql 5 8,mv 6 9] (AS 6 (A2 [fa 10 2 1,ld 11 10,mv 4 11]) (A1 [fa 13 2 1,ld 14 13,bn 15 .eql 5 14,mv 12 15] (At 12 (A2 [fa 16 2 0,ld 17 16,mv 4 17]))))))) (A2 [A5 4 (-1)])))
theorem A7w{a0}{a1}{r}(h:M9 a0 a1=N r):FC I 327 [.ag (X3.row a0),.sc (.int .i64 a1)] [.sc (.v (.int .i64 r))]:=by
 unfold M9 at h;refine Aa A9 bB [4] 18 ?_;simp only[bB,C,E,F,G,H,J];try simp only[C,E,F,G,H,J]
 refine A8 ?_;obtain⟨h1,h⟩|⟨h1,h⟩:=ic h
 ·try simp only[h1,C,E,F,G,H,J]
  cases h;exact t0
 ·obtain⟨h2,h⟩|⟨h2,h⟩:=ic h
  ·try simp only[h1,h2,C,E,F,G,H,J]
   cases h;exact t0
  ·try simp only[h1,h2,C,E,F,G,H,J]
   cases h;exact t0
/- 270:impl_Chart_points -/
def Qm:X0:=A1 [Ag [1,3,8,9,22,23,24,47] [3,8] [1344]] (At 47 (A2 [AA 6,A3 7 L]))
def UH:X0:=(A1 [mv 48 1,(O,.aaddr 49 (S 8) (S 48) 8 1),(O,.store (S 49) (KB T) 1)] (.reg [mv 50 9,mv 51 1,AO 52 1 [.int .i64 0] 1 [(0,(S 51))],Bl 53 1 8 50 52,mv 9 53]))
def UI:X0:=(Av 54 24)
def Lq:X0:=A1 [Ag [1,3,8,9,22,23,24] [3,8] [1344]] (A1 [bn 25 .lss 24 23] (Aw 25 0 1 (A1 [ia 26 22 24 1,ld 27 26,mv 11 27] (Ab [mv 28 11,fa 29 3 1,ld 30 29,ln 31 30,ca 32 94 [S 28,S 31],nt 33 32] 33 (A2 [AA 6,A3 7 L]) (A1 [fa 34 3 1,ld 35 34,mv 36 11,ia 37 35 36 5,lw 38 37 5,mv 39 1,ca 40 327 [S 38,S 39],mv 1 40] (A6 (A1 [mv 41 1,Ae 42 .lss 41 0,mv 43 42,Af 43 L 44 1,(N (43,L),.aaddr 45 (S 8) (S 44) 8 1),Ad 43 L 46 45,po 47 43 46] Qm) UH)))) UI))
def Qn:X0:=(A2 [mv 55 9,mv 6 55,A3 7 T])
def bD:X0:=(A1 [bo 3 0,AA 6,A3 7 L] (Ab [mv 12 1,fa 13 3 0,ld 14 13,ln 15 14,ca 16 94 [S 12,S 15],nt 17 16] 17 (A2 [AA 6,A3 7 L]) (A1 [Ai 8 [aB L,aB L,aB L,aB L,aB L,aB L,aB L,aB L]] (A1 [mv 18 1,(O,.aaddr 19 (S 8) (S 18) 8 1),(O,.store (S 19) (KB T) 1)] (A1 [mv 20 1,AO 21 1 [.int .i64 0] 1 [(0,(S 20))],mv 9 21] (A6 (A1 [mv 22 2,ln 23 22,A5 24 0] (Aj 0 Lq)) Qn))))))
def lA:=fun r14 a2 v6 (a0:X6) (v7:Xe) v8 (k_:V→Q ((P U) × V))=>∀{v19} {zr},k_ v19=N zr→Kp I [1,3,8,9,22,23,24,47] [3,8] [1344] ⟨[pI 1 r14,pB 3,pB 8,pW 9 1344,pL 22 rI a2,pI 23 (a2.length:U),pI 24 v6,(47,vc (aB v19))],[(3,[aM X9.row a0.Points,aM X3.row a0.Segments]),(8,[aB v7.i0,aB v7.i1,aB v7.i2,aB v7.i3,aB v7.i4,aB v7.i5,aB v7.i6,aB v7.i7])],[(1344,1,Z rI v8)]⟩ (.code Qm:: [.code UH,.blk 1,.code UI,.code (.loop Lq),.blk 0,.code Qn]) (Ah [6,7] [.sc (.o 1 (Z rI zr.1)),.sc (.v (.bool zr.2))])
def Y3:=fun a2 (a0:X6) (k_:U→U→Xe→(P U)→Q ((P U) × V))=>∀{v5 v6 v7 v8} {zr},k_ v5 v6 v7 v8=N zr→Kp I [1,3,8,9,22,23,24] [3,8] [1344] ⟨[pI 1 v5,pB 3,pB 8,pW 9 1344,pL 22 rI a2,pI 23 (a2.length:U),pI 24 v6],[(3,[aM X9.row a0.Points,aM X3.row a0.Segments]),(8,[aB v7.i0,aB v7.i1,aB v7.i2,aB v7.i3,aB v7.i4,aB v7.i5,aB v7.i6,aB v7.i7])],[(1344,1,Z rI v8)]⟩ (.code (.loop Lq):: [.blk 0,.code Qn]) (Ah [6,7] [.sc (.o 1 (Z rI zr.1)),.sc (.v (.bool zr.2))])
theorem ji{r14 a2 v6 a0 v7 v8}{SH}(wZ:Y3 a2 a0 SH):lA r14 a2 v6 a0 v7 v8 (H3 r14 a2 v6 a0 v7 v8 SH):=by
 intro v19 r h σ hσ;unfold H3 at h;obtain⟨h20,h⟩|⟨h20,h⟩:=ic h
 ·try simp only[hσ,h20,Qm,C,E,F,G,H,J]
  cases h;trivial
 ·obtain⟨h21,h⟩:=Ba h;try simp only[hσ,h20,Qm,UH,C,E,F,G,H,J]
  refine W0 X X h21 ?_;have hA22:C5 [aB v7.i0,aB v7.i1,aB v7.i2,aB v7.i3,aB v7.i4,aB v7.i5,aB v7.i6,aB v7.i7] (zA r14) [aB T]= [aB ((Xe.set v7 (zA r14) T)).i0,aB ((Xe.set v7 (zA r14) T)).i1,aB ((Xe.set v7 (zA r14) T)).i2,aB ((Xe.set v7 (zA r14) T)).i3,aB ((Xe.set v7 (zA r14) T)).i4,aB ((Xe.set v7 (zA r14) T)).i5,aB ((Xe.set v7 (zA r14) T)).i6,aB ((Xe.set v7 (zA r14) T)).i7]:=Xe.set_eq v7 (Jd h21);have hA22g:Cp [aB v7.i0,aB v7.i1,aB v7.i2,aB v7.i3,aB v7.i4,aB v7.i5,aB v7.i6,aB v7.i7] (zA r14+1)=T:=Yz (Jd h21);have hA22h:Cp [aB v7.i1,aB v7.i2,aB v7.i3,aB v7.i4,aB v7.i5,aB v7.i6,aB v7.i7] (zA r14)=T:=YA (c:=aB v7.i0) (Jd h21);try simp only[h20,hA22,hA22g,hA22h,C,E,F,G,H,J]
  refine AD (es:=Z rI ([r14]:P U)) ?_;obtain⟨h23,h⟩:=Ba h;try simp only[h20,hA22,hA22g,hA22h,h23,UI,C,E,F,G,H,J]
  refine wZ h ?_;try simp only[h20,hA22,hA22g,hA22h,h23,C,E,F,G,H,J,Y]
theorem B4e{a2 a0}{n:W}:Y3 a2 a0 (FH a2 a0 n):=by
 induction n with
 | zero=>intro _ _ _ _ r h; cases h
 | succ n ih=>
  intro v5 v6 v7 v8 r h σ hσ;rw[FH] at h;refine Ak ?_;obtain⟨h9,h⟩|⟨h9,h⟩:=ic h
  ·obtain⟨x10,h10,h⟩:=ob h;obtain⟨r11,h11,h⟩:=ob h;try simp only[hσ,h9,h10,Lq,C,E,F,G,H,J]
   refine A4 (Cv h11) ?_;obtain⟨h12,h⟩|⟨h12,h⟩:=ic h
   ·obtain⟨x13,h13,h⟩:=ob h;obtain⟨r14,h14,h⟩:=ob h;try simp only[h9,h10,h12,h13,C,E,F,G,H,J]
    refine A4 (A7w h14) ?_;obtain⟨h15,h⟩|⟨h15,h⟩:=ic h
    ·try simp only[h9,h10,h12,h13,h15,C,E,F,G,H,J]
     refine ji ih h ?_;try simp only[h9,h10,h12,h13,h15,C,E,F,G,H,J,Y]
    ·obtain⟨h16,h⟩:=Ba h;try simp only[h9,h10,h12,h13,h15,C,E,F,G,H,J]
     refine W0 X X h16 ?_;obtain⟨x17,h17,h⟩:=ob h;have h17n:=AE h17;have hA18:([aB v7.i0,aB v7.i1,aB v7.i2,aB v7.i3,aB v7.i4,aB v7.i5,aB v7.i6,aB v7.i7]:P AC)[zA r14]?=N (aB x17):=oe h17n;try simp only[h9,h10,h12,h13,h15,hA18,C,E,F,G,H,J]
     refine ji ih h ?_;try simp only[h9,h10,h12,h13,h15,hA18,C,E,F,G,H,J,Y]
   ·try simp only[h9,h10,h12,C,E,F,G,H,J]
    cases h;trivial
  ·try simp only[hσ,h9,Lq,Qn,C,E,F,G,H,J]
   cases h;trivial
theorem im{a0}{a1}{a2}{r}(h:H2 a0 a1 a2=N r):FC I 270 [.ag (X6.row a0),.sc (.int .i64 a1),.sc (.sl (Z rI a2))] [.sc (.o 1 (Z rI r.1)),.sc (.v (.bool r.2))]:=by
 unfold H2 at h;refine Aa A9 bD [6,7] 56 ?_;simp only[bD,C,E,F,G,H,J];try simp only[C,E,F,G,H,J]
 refine A8 ?_;obtain⟨r1,h1,h⟩:=ob h;try simp only[C,E,F,G,H,J]
 refine A4 (Cv h1) ?_;obtain⟨h2,h⟩|⟨h2,h⟩:=ic h
 ·try simp only[h2,C,E,F,G,H,J]
  refine Al ?_;obtain⟨h3,h⟩:=Ba h;try simp only[h2,C,E,F,G,H,J]
  refine W0 X X h3 ?_;have hA4:C5 [aB L,aB L,aB L,aB L,aB L,aB L,aB L,aB L] (zA a1) [aB T]= [aB ((Xe.set (⟨L,L,L,L,L,L,L,L⟩:Xe) (zA a1) T)).i0,aB ((Xe.set (⟨L,L,L,L,L,L,L,L⟩:Xe) (zA a1) T)).i1,aB ((Xe.set (⟨L,L,L,L,L,L,L,L⟩:Xe) (zA a1) T)).i2,aB ((Xe.set (⟨L,L,L,L,L,L,L,L⟩:Xe) (zA a1) T)).i3,aB ((Xe.set (⟨L,L,L,L,L,L,L,L⟩:Xe) (zA a1) T)).i4,aB ((Xe.set (⟨L,L,L,L,L,L,L,L⟩:Xe) (zA a1) T)).i5,aB ((Xe.set (⟨L,L,L,L,L,L,L,L⟩:Xe) (zA a1) T)).i6,aB ((Xe.set (⟨L,L,L,L,L,L,L,L⟩:Xe) (zA a1) T)).i7]:=Xe.set_eq (⟨L,L,L,L,L,L,L,L⟩:Xe) (Jd h3);have hA4g:Cp [aB L,aB L,aB L,aB L,aB L,aB L,aB L,aB L] (zA a1+1)=T:=Yz (Jd h3);have hA4h:Cp [aB L,aB L,aB L,aB L,aB L,aB L,aB L] (zA a1)=T:=YA (c:=aB L) (Jd h3);try simp only[h2,hA4,hA4g,hA4h,C,E,F,G,H,J]
  refine AD (es:=Z rI ([a1]:P U)) ?_;try simp only[h2,hA4,hA4g,hA4h,C,E,F,G,H,J]
  refine B4e h ?_;try simp only[h2,hA4,hA4g,hA4h,C,E,F,G,H,J,Y]
 ·try simp only[h2,C,E,F,G,H,J]
  cases h;trivial
/- 194:impl_RoutePoints -/
def bE:X0:=(A1 [bo 3 0,AA 6] (Ab [lw 9 3 2,ca 10 93 [S 9],nt 11 10] 11 (A2 [AA 6]) (A1 [lw 13 3 2,mv 14 1,mv 15 2,ca 16 270 [S 13,S 14,S 15],mv 12 16,xt 17 12 0,xt 18 12 1,mv 7 17,mv 8 18] (A2 [mv 19 7,mv 6 19]))))
theorem Xx{a0}{a1}{a2}{r}(h:ER a0 a1 a2=N r):FC I 194 [.ag (X6.row a0),.sc (.int .i64 a1),.sc (.sl (Z rI a2))] [.sc (.o 1 (Z rI r))]:=by
 unfold ER at h;refine Aa A9 bE [6] 20 ?_;simp only[bE,C,E,F,G,H,J];try simp only[C,E,F,G,H,J]
 refine A8 ?_;obtain⟨r1,h1,h⟩:=ob h;try simp only[C,E,F,G,H,J]
 refine A4 (J6 h1) ?_;obtain⟨h2,h⟩|⟨h2,h⟩:=ic h
 ·obtain⟨r3,h3,h⟩:=ob h;try simp only[h2,C,E,F,G,H,J]
  refine A4 (im h3) ?_;try simp only[h2,C,E,F,G,H,J]
  cases h;exact t0
 ·try simp only[h2,C,E,F,G,H,J]
  cases h;exact t0
/- 271:impl_RouteOk -/
def bF:X0:=(A1 [bo 3 0,A3 6 L] (Ab [lw 9 3 2,ca 10 93 [S 9],nt 11 10] 11 (A2 [A3 6 L]) (A1 [lw 13 3 2,mv 14 1,mv 15 2,ca 16 270 [S 13,S 14,S 15],mv 12 16,xt 17 12 0,xt 18 12 1,mv 7 17,mv 8 18] (A2 [mv 19 8,mv 6 19]))))
theorem iv{a0}{a1}{a2}{r}(h:FN a0 a1 a2=N r):FC I 271 [.ag (X6.row a0),.sc (.int .i64 a1),.sc (.sl (Z rI a2))] [.sc (.v (.bool r))]:=by
 unfold FN at h;refine Aa A9 bF [6] 20 ?_;simp only[bF,C,E,F,G,H,J];try simp only[C,E,F,G,H,J]
 refine A8 ?_;obtain⟨r1,h1,h⟩:=ob h;try simp only[C,E,F,G,H,J]
 refine A4 (J6 h1) ?_;obtain⟨h2,h⟩|⟨h2,h⟩:=ic h
 ·obtain⟨r3,h3,h⟩:=ob h;try simp only[h2,C,E,F,G,H,J]
  refine A4 (im h3) ?_;try simp only[h2,C,E,F,G,H,J]
  cases h;exact t0
 ·try simp only[h2,C,E,F,G,H,J]
  cases h;exact t0
/- 272:impl_Ship_minutes -/
def bG:X0:=(A1 [bo 2 0,bo 3 1,A5 4 0] (Ab [fa 5 2 5,ld 6 5] 6 (A2 [fa 7 3 3,ld 8 7,(O,.bin 9 .mul (K 2) (S 8)),mv 4 9]) (A2 [fa 10 3 3,ld 11 10,mv 4 11])))
theorem OP{a0}{a1}{r}(h:ES a0 a1=N r):FC I 272 [.ag (X5.row a0),.ag (X3.row a1)] [.sc (.v (.int .i64 r))]:=by
 unfold ES at h;refine Aa A9 bG [4] 12 ?_;simp only[bG,C,E,F,G,H,J];try simp only[C,E,F,G,H,J]
 refine A8 ?_;try simp only[C,E,F,G,H,J]
 refine A8 ?_;obtain⟨h1,h⟩|⟨h1,h⟩:=ic h
 ·try simp only[h1,C,E,F,G,H,J]
  cases h;exact t0
 ·try simp only[h1,C,E,F,G,H,J]
  cases h;exact t0
/- 281:impl_onSegment -/
def bH:X0:=(A1 [bo 3 0,bo 5 2,A3 6 L] (A2 [lw 7 3 2,ca 8 93 [S 7],mv 9 8,AL 9 T 10 5 6,Am 9 T 11 266 [S 10],pa 12 9 11,mv 13 12,Af 13 T 14 1,Ac 13 T 15 3 1,Ad 13 T 16 15,B3 13 T 17 16,Am 13 T 18 94 [S 14,S 17],pa 19 13 18,mv 6 19]))
theorem jE{a0}{a1}{a2}{r}(h:Hv a0 a1 a2=N r):FC I 281 [.ag (X6.row a0),.sc (.int .i64 a1),.ag (X5.row a2)] [.sc (.v (.bool r))]:=by
 unfold Hv at h;refine Aa A9 bH [6] 20 ?_;simp only[bH,C,E,F,G,H,J];try simp only[C,E,F,G,H,J]
 refine A8 ?_;try simp only[C,E,F,G,H,J]
 refine A8 ?_;obtain⟨r1,h1,h⟩:=ob h;try simp only[C,E,F,G,H,J]
 refine A4 (J6 h1) ?_;obtain⟨h2,h⟩|⟨h2,h⟩:=ic h
 ·obtain⟨r3,h3,h⟩:=ob h;try simp only[h2,C,E,F,G,H,J]
  refine A4 (KX h3) ?_;obtain⟨h4,h⟩|⟨h4,h⟩:=ic h
  ·obtain⟨r5,h5,h⟩:=ob h;try simp only[h2,h4,C,E,F,G,H,J]
   refine A4 (Cv h5) ?_;try simp only[h2,h4,C,E,F,G,H,J]
   cases h;exact t0
  ·try simp only[h2,h4,C,E,F,G,H,J]
   cases h;exact t0
 ·try simp only[h2,C,E,F,G,H,J]
  cases h;exact t0
/- 337:impl_Ship_squat -/
def bI:X0:=(A1 [bo 1 0,A5 2 0] (Ab [fa 3 1 5,ld 4 3] 4 (A2 [fa 5 1 2,ld 6 5,Ae 7 .quo 6 50,mv 2 7]) (A2 [fa 8 1 2,ld 9 8,Ae 10 .quo 9 20,mv 2 10])))
theorem A70{a0}{r}(h:RH a0=N r):FC I 337 [.ag (X5.row a0)] [.sc (.v (.int .i64 r))]:=by
 unfold RH at h;refine Aa A9 bI [2] 11 ?_;simp only[bI,C,E,F,G,H,J];try simp only[C,E,F,G,H,J]
 refine A8 ?_;obtain⟨h1,h⟩|⟨h1,h⟩:=ic h
 ·try simp only[h1,C,E,F,G,H,J]
  cases h;exact t0
 ·try simp only[h1,C,E,F,G,H,J]
  cases h;exact t0
/- 282:impl_Ship_need -/
def bJ:X0:=(A1 [bo 1 0,A5 2 0] (A6 (.drw [(N [6],fa 3 1 2),(N [6],ld 4 3),o0 (lw 5 1 6),o0 (ca 6 337 [S 5]),o0 (bn 7 .add 4 6),o0 (Ae 8 .add 7 50),o0 (mv 2 8)]) .ret))
theorem A7z{a0}{r}(h:RG a0=N r):FC I 282 [.ag (X5.row a0)] [.sc (.v (.int .i64 r))]:=by
 unfold RG at h;refine Aa A9 bJ [2] 9 ?_;simp only[bJ,C,E,F,G,H,J];try simp only[C,E,F,G,H,J]
 refine A8 ?_;try simp only[C,E,F,G,H,J]
 refine Ao ?_;obtain⟨r1,h1,h⟩:=ob h;try simp only[C,E,F,G,H,J]
 refine AH (A70 h1) ?_;try simp only[C,E,F,G,H,J]
 cases h;exact t0
/- 206:impl_LevelFor -/
def bK:X0:=(A1 [bo 3 0,bo 5 2,A5 6 0] (Ab [lw 7 3 2,mv 8 1,lw 9 5 6,ca 10 281 [S 7,S 8,S 9],nt 11 10] 11 (A2 [A5 6 0]) (A6 (.drw [o0 (lw 12 5 6),o0 (ca 13 282 [S 12]),(N [13],fa 14 3 1),(N [13],ld 15 14),(N [13],mv 16 1),(N [13],ia 17 15 16 5),(N [13],fa 18 17 2),(N [13],ld 19 18),o0 (bn 20 .sub 13 19),o0 (mv 6 20)]) .ret)))
theorem A7k{a0}{a1}{a2}{r}(h:LZ a0 a1 a2=N r):FC I 206 [.ag (X6.row a0),.sc (.int .i64 a1),.ag (X5.row a2)] [.sc (.v (.int .i64 r))]:=by
 unfold LZ at h;refine Aa A9 bK [6] 21 ?_;simp only[bK,C,E,F,G,H,J];try simp only[C,E,F,G,H,J]
 refine A8 ?_;try simp only[C,E,F,G,H,J]
 refine A8 ?_;obtain⟨r1,h1,h⟩:=ob h;try simp only[C,E,F,G,H,J]
 refine A4 (jE h1) ?_;obtain⟨h2,h⟩|⟨h2,h⟩:=ic h
 ·try simp only[h2,C,E,F,G,H,J]
  refine Ao ?_;obtain⟨r3,h3,h⟩:=ob h;try simp only[h2,C,E,F,G,H,J]
  refine AH (A7z h3) ?_;obtain⟨x4,h4,h⟩:=ob h;try simp only[h2,h4,C,E,F,G,H,J]
  cases h;exact t0
 ·try simp only[h2,C,E,F,G,H,J]
  cases h;exact t0
/- 361:impl_windowsOf -/
def UJ:X0:=A1 [Ag [0,3,4,5] [] [384]] (.reg [mv 22 3,mv 23 3,ln 24 23,Ae 25 .sub 24 1,mv 26 5,ia 27 22 25 2,fa 28 27 1,so 28 26 1])
def Qo:X0:=A1 [Ag [0,3,4,5] [] [384]] (.reg [mv 9 5,Ae 10 .add 9 1,mv 5 10])
def Jl:X0:=A1 [Ag [0,3,4,5] [] [384]] (A6 (A1 [mv 7 5,Ae 8 .leq 7 2880] (AS 8 .skip (.exit 0))) (A6 (.block 1 (Ab [mv 11 0,mv 12 5,(O,.callv 13 (S 11) [(S 12)]),nt 14 13] 14 (A1 [A3 4 L] (.exit 1)) (Ab [mv 15 4,nt 16 15] 16 (A1 [mv 17 3,mv 18 5,Bv 19 [aI 0,aI 0] [(0,1,(S 18))],AO 20 2 [.int .i64 0,.int .i64 0] 1 [(0,(S 19))],Bl 21 2 16 17 20,mv 3 21] (.reg [A3 4 T])) UJ))) Qo))
def Lr:X0:=(A2 [mv 29 3,mv 2 29])
def bL:X0:=(A1 [AA 2] (A1 [AO 6 2 [.int .i64 0,.int .i64 0] 0 [],mv 3 6] (A1 [A3 4 L] (A6 (A1 [A5 5 0] (Aj 0 Jl)) Lr))))
def mC:=fun F_a0 caps_a0 v2 (k_:V→(P X4)→Q (P X4))=>∀{v11 v12} {zr},k_ v11 v12=N zr→Kp I [0,3,4,5] [] [384] ⟨[(0,vc (.dat (.clo F_a0 caps_a0))),pW 3 384,(4,vc (aB v11)),pI 5 v2],[],[(384,2,Z X4.row v12)]⟩ (.code Qo:: [.code (.loop Jl),.blk 0,.code Lr]) (Ah [2] [.sc (.o 2 (Z X4.row zr))])
def mB:=fun F_a0 caps_a0 v2 (k_:(P X4)→Q (P X4))=>∀{v9} {zr},k_ v9=N zr→Kp I [0,3,4,5] [] [384] ⟨[(0,vc (.dat (.clo F_a0 caps_a0))),pW 3 384,(4,vc (aB T)),pI 5 v2],[],[(384,2,Z X4.row v9)]⟩ (.code UJ:: [.blk 1,.code Qo,.code (.loop Jl),.blk 0,.code Lr]) (Ah [2] [.sc (.o 2 (Z X4.row zr))])
def Tm:=fun F_a0 caps_a0 (k_:V→U→(P X4)→Q (P X4))=>∀{v1 v2 v3} {zr},k_ v1 v2 v3=N zr→Kp I [0,3,4,5] [] [384] ⟨[(0,vc (.dat (.clo F_a0 caps_a0))),pW 3 384,(4,vc (aB v1)),pI 5 v2],[],[(384,2,Z X4.row v3)]⟩ (.code (.loop Jl):: [.blk 0,.code Lr]) (Ah [2] [.sc (.o 2 (Z X4.row zr))])
theorem jj{a0:U→Q V}{F_a0 caps_a0}(hF_a0:D5 I F_a0=T)(h_a0:∀z0 zr,a0 z0=N zr→FC I F_a0 ([.sc (.int .i64 z0)]++caps_a0.map .sc) [.sc (.v (.bool zr))]){v2}{Fi}(W6:Tm F_a0 caps_a0 Fi):mC F_a0 caps_a0 v2 (HB a0 v2 Fi):=by
 intro v11 v12 r h σ hσ;unfold HB at h;try simp only[hσ,Qo,C,E,F,G,H,J]
 refine W6 h ?_;try simp only[C,E,F,G,H,J,Y]
theorem jk{a0:U→Q V}{F_a0 caps_a0}(hF_a0:D5 I F_a0=T)(h_a0:∀z0 zr,a0 z0=N zr→FC I F_a0 ([.sc (.int .i64 z0)]++caps_a0.map .sc) [.sc (.v (.bool zr))]){v2}{Fi}(W6:Tm F_a0 caps_a0 Fi):mB F_a0 caps_a0 v2 (JO a0 v2 Fi):=by
 intro v9 r h σ hσ;unfold JO at h;obtain⟨x10,h10,h⟩:=ob h;have h10n:=AE h10;try simp only[hσ,h10,UJ,C,E,F,G,H,J]
 refine AW (row:=X4.row) (y:=(⟨x10.From,v2⟩:X4)) X X h10n X X (by rfl) ?_;try simp only[h10,C,E,F,G,H,J]
 refine jj hF_a0 h_a0 W6 h ?_;try simp only[h10,C,E,F,G,H,J,Y]
theorem B4g{a0:U→Q V}{F_a0 caps_a0}(hF_a0:D5 I F_a0=T)(h_a0:∀z0 zr,a0 z0=N zr→FC I F_a0 ([.sc (.int .i64 z0)]++caps_a0.map .sc) [.sc (.v (.bool zr))]){n:W}:Tm F_a0 caps_a0 (EZ a0 n):=by
 induction n with
 | zero=>intro _ _ _ r h; cases h
 | succ n ih=>
  intro v1 v2 v3 r h σ hσ;rw[EZ] at h;refine Ak ?_;obtain⟨h4,h⟩|⟨h4,h⟩:=ic h
  ·obtain⟨r5,h5,h⟩:=ob h;try simp only[hσ,h4,Jl,C,E,F,G,H,J]
   refine vI (h_a0 _ _ h5) hF_a0 X X (BK X) X (uf X) ?_;obtain⟨h6,h⟩|⟨h6,h⟩:=ic h
   ·obtain⟨h7,h⟩|⟨h7,h⟩:=ic h
    ·try simp only[h4,h6,h7,C,E,F,G,H,J]
     refine jk hF_a0 h_a0 ih h ?_;try simp only[h4,h6,h7,C,E,F,G,H,J,Y]
    ·try simp only[h4,h6,h7,C,E,F,G,H,J]
     refine AD (es:=Z X4.row ([(⟨v2,(0:U)⟩:X4)]:P X4)) ?_;obtain⟨h8,h⟩:=Ba h;try simp only[h4,h6,h7,h8,C,E,F,G,H,J]
     refine jk hF_a0 h_a0 ih h ?_;try simp only[h4,h6,h7,h8,C,E,F,G,H,J,Y]
   ·try simp only[h4,h6,C,E,F,G,H,J]
    refine jj hF_a0 h_a0 ih h ?_;try simp only[h4,h6,C,E,F,G,H,J,Y]
  ·try simp only[hσ,h4,Jl,Lr,C,E,F,G,H,J]
   cases h;exact t0
theorem A8o{a0}{r}(F_a0:FuncId)(caps_a0:P D)(hF_a0:D5 I F_a0=T)(h_a0:∀z0 zr,a0 z0=N zr→FC I F_a0 ([.sc (.int .i64 z0)]++caps_a0.map .sc) [.sc (.v (.bool zr))])(h:Mv a0=N r):FC I 361 [.sc (.clo F_a0 caps_a0)] [.sc (.o 2 (Z X4.row r))]:=by
 unfold Mv at h;refine Aa A9 bL [2] 30 ?_;simp only[bL,C,E,F,G,H,J];try simp only[C,E,F,G,H,J]
 refine AD (es:=Z X4.row ([]:P X4)) ?_;try simp only[C,E,F,G,H,J]
 refine B4g hF_a0 h_a0 h ?_;try simp only[C,E,F,G,H,J,Y]
/- 284:impl_Wave -/
def bM:X0:=(A1 [A5 4 0] (Ab [mv 7 1,ca 8 338 [S 7],nt 9 8] 9 (A2 [A5 4 0]) (A1 [mv 10 0,mv 11 1,bn 12 .rem 10 11,mv 13 1,bn 14 .add 12 13,mv 15 1,bn 16 .rem 14 15,mv 5 16] (A1 [mv 17 1,Ae 18 .quo 17 2,mv 6 18] (Ab [mv 19 5,mv 20 6,bn 21 .geq 19 20] 21 (A1 [mv 22 5,mv 23 6,bn 24 .sub 22 23,mv 5 24] (A2 [mv 25 5,(O,.bin 26 .mul (K 40000) (S 25)),mv 27 6,mv 28 5,bn 29 .sub 27 28,bn 30 .mul 26 29,mv 31 6,mv 32 6,bn 33 .mul 31 32,bn 34 .quo 30 33,(O,.un 35 .neg (S 34)),mv 4 35])) (A2 [mv 36 5,(O,.bin 37 .mul (K 40000) (S 36)),mv 38 6,mv 39 5,bn 40 .sub 38 39,bn 41 .mul 37 40,mv 42 6,mv 43 6,bn 44 .mul 42 43,bn 45 .quo 41 44,mv 4 45]))))))
theorem A76{a0}{a1}{r}(h:Mf a0 a1=N r):FC I 284 [.sc (.int .i64 a0),.sc (.int .i64 a1)] [.sc (.v (.int .i64 r))]:=by
 unfold Mf at h;refine Aa A9 bM [4] 46 ?_;simp only[bM,C,E,F,G,H,J];obtain⟨r1,h1,h⟩:=ob h;try simp only[C,E,F,G,H,J]
 refine A4 (jC h1) ?_;obtain⟨h2,h⟩|⟨h2,h⟩:=ic h
 ·obtain⟨h3,h⟩:=Dl h;obtain⟨h4,h⟩:=Dl h;obtain⟨h5,h⟩|⟨h5,h⟩:=ic h
  ·obtain⟨h6,h⟩:=Dl h;try simp only[h2,h3,h4,h5,h6,C,E,F,G,H,J]
   cases h;exact t0
  ·obtain⟨h7,h⟩:=Dl h;try simp only[h2,h3,h4,h5,h7,C,E,F,G,H,J]
   cases h;exact t0
 ·try simp only[h2,C,E,F,G,H,J]
  cases h;exact t0
/- 210:impl_Tide_level -/
def Qp:X0:=A1 [Ag [1,5,11,12,13] [] []] (A1 [bn 14 .lss 13 12] (Aw 14 0 1 (A1 [ia 15 11 13 3,lw 16 15 3,Ai 7 [aI 0,aI 0,aI 0],so 7 16 3] (.drw [(N [26],mv 17 5),(N [26],fa 18 7 0),(N [26],ld 19 18),o0 (mv 20 1),o0 (fa 21 7 2),o0 (ld 22 21),o0 (bn 23 .add 20 22),o0 (fa 24 7 1),o0 (ld 25 24),o0 (ca 26 284 [S 23,S 25]),o0 (bn 27 .mul 19 26),o0 (Ae 28 .quo 27 10000),o0 (bn 29 .add 17 28),o0 (mv 5 29)])) (Av 30 13)))
def UK:X0:=(A2 [mv 31 5,mv 4 31])
def bO:X0:=(A1 [bo 2 0,A5 4 0] (A1 [fa 8 2 0,ld 9 8,mv 5 9] (A6 (A1 [fa 10 2 1,ld 11 10,ln 12 11,A5 13 0] (Aj 0 Qp)) UK)))
def lT:=fun a1 (a0:Xj) (k_:U→U→Q U)=>∀{v1 v2} {zr},k_ v1 v2=N zr→Kp I [1,5,11,12,13] [] [] ⟨[pI 1 a1,pI 5 v1,pL 11 zC a0.Parts,pI 12 (a0.Parts.length:U),pI 13 v2],[],[]⟩ (.code (.loop Qp):: [.blk 0,.code UK]) (Ah [4] [.sc (.v (.int .i64 zr))])
theorem B4h{a1 a0}{n:W}:lT a1 a0 (Hk a1 a0 n):=by
 induction n with
 | zero=>intro _ _ r h; cases h
 | succ n ih=>
  intro v1 v2 r h σ hσ;rw[Hk] at h;refine Ak ?_;obtain⟨h3,h⟩|⟨h3,h⟩:=ic h
  ·obtain⟨x4,h4,h⟩:=ob h;try simp only[hσ,h3,h4,Qp,C,E,F,G,H,J]
   refine Al ?_;try simp only[h3,h4,C,E,F,G,H,J]
   refine Ao ?_;obtain⟨r5,h5,h⟩:=ob h;try simp only[h3,h4,C,E,F,G,H,J]
   refine AH (A76 h5) ?_;try simp only[h3,h4,C,E,F,G,H,J]
   refine ih h ?_;try simp only[h3,h4,C,E,F,G,H,J,Y]
  ·try simp only[hσ,h3,Qp,UK,C,E,F,G,H,J]
   cases h;exact t0
theorem A75{a0}{a1}{r}(h:RJ a0 a1=N r):FC I 210 [.ag (Xj.row a0),.sc (.int .i64 a1)] [.sc (.v (.int .i64 r))]:=by
 unfold RJ at h;refine Aa A9 bO [4] 32 ?_;simp only[bO,C,E,F,G,H,J];try simp only[C,E,F,G,H,J]
 refine A8 ?_;try simp only[C,E,F,G,H,J]
 refine B4h h ?_;try simp only[C,E,F,G,H,J,Y]
/- 211:impl_Forecast_surge -/
def Qq:X0:=A1 [Ag [1,5,9,10,11] [] []] (A1 [bn 12 .lss 11 10] (Aw 12 0 1 (A1 [mv 13 11,ia 14 9 11 3,lw 15 14 3,Ai 7 [aI 0,aI 0,aI 0],mv 6 13,so 7 15 3] (A1 [fa 16 7 0,ld 17 16,mv 18 1,bn 19 .leq 17 18] (At 19 (.reg [mv 20 6,mv 5 20])))) (Av 21 11)))
def UL:X0:=(A2 [mv 22 5,mv 4 22])
def bP:X0:=(A1 [bo 2 0,A5 4 0] (A1 [A5 5 0] (A6 (A1 [fa 8 2 2,ld 9 8,ln 10 9,A5 11 0] (Aj 0 Qq)) UL)))
def lE:=fun a1 (a0:Xc) (k_:U→U→Q U)=>∀{v1 v2} {zr},k_ v1 v2=N zr→Kp I [1,5,9,10,11] [] [] ⟨[pI 1 a1,pI 5 v1,pL 9 zD a0.Surges,pI 10 (a0.Surges.length:U),pI 11 v2],[],[]⟩ (.code (.loop Qq):: [.blk 0,.code UL]) (Ah [4] [.sc (.v (.int .i64 zr))])
theorem B4i{a1 a0}{n:W}:lE a1 a0 (EQ a1 a0 n):=by
 induction n with
 | zero=>intro _ _ r h; cases h
 | succ n ih=>
  intro v1 v2 r h σ hσ;rw[EQ] at h;refine Ak ?_;obtain⟨h3,h⟩|⟨h3,h⟩:=ic h
  ·obtain⟨x4,h4,h⟩:=ob h;try simp only[hσ,h3,h4,Qq,C,E,F,G,H,J]
   refine Al ?_;obtain⟨h5,h⟩|⟨h5,h⟩:=ic h
   ·try simp only[h3,h4,h5,C,E,F,G,H,J]
    refine ih h ?_;try simp only[h3,h4,h5,C,E,F,G,H,J,Y]
   ·try simp only[h3,h4,h5,C,E,F,G,H,J]
    refine ih h ?_;try simp only[h3,h4,h5,C,E,F,G,H,J,Y]
  ·try simp only[hσ,h3,Qq,UL,C,E,F,G,H,J]
   cases h;exact t0
theorem A7e{a0}{a1}{r}(h:LS a0 a1=N r):FC I 211 [.ag (zF a0),.sc (.int .i64 a1)] [.sc (.v (.int .i64 r))]:=by
 unfold LS at h;refine Aa A9 bP [4] 23 ?_;simp only[bP,C,E,F,G,H,J];try simp only[C,E,F,G,H,J]
 refine A8 ?_;try simp only[C,E,F,G,H,J]
 refine B4i h ?_;try simp only[C,E,F,G,H,J,Y]
/- 119:impl_Forecast_low -/
def bQ:X0:=(A1 [bo 2 0,A5 4 0] (A6 (.drw [o0 (fa 5 2 0),o0 (lw 6 5 2),o0 (mv 7 1),o0 (ca 8 210 [S 6,S 7]),(N [8,13],fa 9 2 2),(N [8,13],ld 10 9),(N [8],lw 11 2 3),(N [8],mv 12 1),o0 (ca 13 211 [S 11,S 12]),o0 (ia 14 10 13 3),o0 (fa 15 14 1),o0 (ld 16 15),o0 (bn 17 .add 8 16),o0 (mv 4 17)]) .ret))
theorem A7d{a0}{a1}{r}(h:LR a0 a1=N r):FC I 119 [.ag (zF a0),.sc (.int .i64 a1)] [.sc (.v (.int .i64 r))]:=by
 unfold LR at h;refine Aa A9 bQ [4] 18 ?_;simp only[bQ,C,E,F,G,H,J];try simp only[C,E,F,G,H,J]
 refine A8 ?_;try simp only[C,E,F,G,H,J]
 refine Ao ?_;obtain⟨r1,h1,h⟩:=ob h;try simp only[C,E,F,G,H,J]
 refine AH (A75 h1) ?_;obtain⟨r2,h2,h⟩:=ob h;try simp only[C,E,F,G,H,J]
 refine AH (A7e h2) ?_;obtain⟨x3,h3,h⟩:=ob h;try simp only[h3,C,E,F,G,H,J]
 cases h;exact t0
/- 362:impl_LowWindows_1 -/
def bR:X0:=(A1 [A3 4 L] (A6 (.drw [o0 (lw 5 1 3),o0 (mv 6 0),o0 (ca 7 119 [S 5,S 6]),(N [7],ld 8 2),o0 (bn 9 .geq 7 8),o0 (mv 4 9)]) .ret))
theorem B4j{a0}{c0}{c1}{r}(h:RE a0 c0 c1=N r):FC I 362 [.sc (.int .i64 a0),.sc (.pd (zF c0)),.sc (.pd (rI c1))] [.sc (.v (.bool r))]:=by
 unfold RE at h;refine Aa A9 bR [4] 10 ?_;simp only[bR,C,E,F,G,H,J];try simp only[C,E,F,G,H,J]
 refine Ao ?_;obtain⟨r1,h1,h⟩:=ob h;try simp only[C,E,F,G,H,J]
 refine AH (A7d h1) ?_;try simp only[C,E,F,G,H,J]
 cases h;exact t0
/- 329:impl_LowWindows -/
def bS:X0:=(A1 [bo 2 0,bo 3 1,AA 4] (Ab [lw 5 2 3,ca 6 116 [S 5],nt 7 6] 7 (A2 [AA 4]) (A2 [(O,.mkf 8 362 [(S 2),(S 3)]),ca 9 361 [S 8],mv 4 9])))
theorem A7l{a0}{a1}{r}(h:M0 a0 a1=N r):FC I 329 [.ag (zF a0),.sc (.int .i64 a1)] [.sc (.o 2 (Z X4.row r))]:=by
 unfold M0 at h;refine Aa A9 bS [4] 10 ?_;simp only[bS,C,E,F,G,H,J];try simp only[C,E,F,G,H,J]
 refine A8 ?_;try simp only[C,E,F,G,H,J]
 refine A8 ?_;obtain⟨r1,h1,h⟩:=ob h;try simp only[C,E,F,G,H,J]
 refine A4 (Tb h1) ?_;obtain⟨h2,h⟩|⟨h2,h⟩:=ic h
 ·obtain⟨r3,h3,h⟩:=ob h;try simp only[h2,C,E,F,G,H,J]
  refine B8 (A8o 362 [.pd (zF a0),.pd (rI a1)] (by kernel_rfl) (fun z0 zr zh=>B4j zh) h3) X (BQ X ⟨AZ,⟨⟩⟩) X (uf X) ?_;try simp only[h2,C,E,F,G,H,J]
  cases h;exact t0
 ·try simp only[h2,C,E,F,G,H,J]
  cases h;exact t0
/- 330:impl_MinutesOn -/
def bT:X0:=(A1 [bo 3 0,bo 5 2,A5 6 0] (Ab [lw 7 3 2,ca 8 93 [S 7],nt 9 8,mv 10 9,AL 10 L 11 5 6,Am 10 L 12 266 [S 11],AM 10 L 13 12,po 14 10 13,mv 15 14,Af 15 L 16 1,Ac 15 L 17 3 1,Ad 15 L 18 17,B3 15 L 19 18,Am 15 L 20 94 [S 16,S 19],AM 15 L 21 20,po 22 15 21] 22 (A2 [A5 6 0]) (A6 (.drw [o0 (lw 23 5 6),o0 (fa 24 3 1),o0 (ld 25 24),o0 (mv 26 1),o0 (ia 27 25 26 5),o0 (lw 28 27 5),o0 (ca 29 272 [S 23,S 28]),o0 (mv 6 29)]) .ret)))
theorem A7m{a0}{a1}{a2}{r}(h:M1 a0 a1 a2=N r):FC I 330 [.ag (X6.row a0),.sc (.int .i64 a1),.ag (X5.row a2)] [.sc (.v (.int .i64 r))]:=by
 unfold M1 at h;refine Aa A9 bT [6] 30 ?_;simp only[bT,C,E,F,G,H,J];try simp only[C,E,F,G,H,J]
 refine A8 ?_;try simp only[C,E,F,G,H,J]
 refine A8 ?_;obtain⟨r1,h1,h⟩:=ob h;try simp only[C,E,F,G,H,J]
 refine A4 (J6 h1) ?_;obtain⟨h2,h⟩|⟨h2,h⟩:=ic h
 ·obtain⟨r3,h3,h⟩:=ob h;try simp only[h2,C,E,F,G,H,J]
  refine A4 (KX h3) ?_;obtain⟨h4,h⟩|⟨h4,h⟩:=ic h
  ·obtain⟨r5,h5,h⟩:=ob h;try simp only[h2,h4,C,E,F,G,H,J]
   refine A4 (Cv h5) ?_;obtain⟨h6,h⟩|⟨h6,h⟩:=ic h
   ·try simp only[h2,h4,h6,C,E,F,G,H,J]
    refine Ao ?_;obtain⟨x7,h7,h⟩:=ob h;obtain⟨r9,h9,h⟩:=ob h;try simp only[h2,h4,h6,h7,C,E,F,G,H,J]
    refine AH (OP h9) ?_;try simp only[h2,h4,h6,h7,C,E,F,G,H,J]
    cases h;exact t0
   ·try simp only[h2,h4,h6,C,E,F,G,H,J]
    cases h;exact t0
  ·try simp only[h2,h4,C,E,F,G,H,J]
   cases h;exact t0
 ·try simp only[h2,C,E,F,G,H,J]
  cases h;exact t0
/- 331:impl_WindowsOk -/
def Qs:X0:=A1 [Ag [0,5,6,7] [] []] (A1 [bn 8 .lss 7 6] (Aw 8 0 1 (A1 [mv 9 7,ia 10 5 7 2,lw 11 10 2,Ai 4 [aI 0,aI 0],mv 3 9,so 4 11 2] (A6 (.drw [o0 (fa 12 4 0),o0 (ld 13 12),o0 (Ae 14 .lss 13 0),o0 (mv 15 14),o0 (Ac 15 L 16 4 0),o0 (Ad 15 L 17 16),o0 (Ac 15 L 18 4 1),o0 (Ad 15 L 19 18),o0 (AI 15 L 20 .gtr 17 19),o0 (po 21 15 20),o0 (mv 22 21),o0 (Ac 22 L 23 4 1),o0 (Ad 22 L 24 23),o0 (AQ 22 L 25 .gtr 24 2880),o0 (po 26 22 25),o0 (mv 27 26),o0 (Af 27 L 28 3),o0 (AQ 27 L 29 .gtr 28 0),o0 (Af 27 L 30 29),o0 (Af 30 T 31 0),o0 (Af 30 T 32 3),o0 (AQ 30 T 33 .sub 32 1),o0 (CB 30 T 34 31 33 2),o0 (Ac 30 T 35 34 1),o0 (Ad 30 T 36 35),o0 (AQ 30 T 37 .add 36 1),o0 (Ac 30 T 38 4 0),o0 (Ad 30 T 39 38),o0 (AI 30 T 40 .geq 37 39),o0 (N (27,L),.pick 41 (S 30) (S 40) (KB L)),o0 (po 42 27 41)]) (At 42 (A2 [A3 2 L])))) (Av 43 7)))
def UM:X0:=(A2 [A3 2 T])
def bU:X0:=(A1 [A3 2 L] (A6 (A1 [mv 5 0,ln 6 5,A5 7 0] (Aj 0 Qs)) UM))
def lU:=fun a0 (k_:U→Q V)=>∀{v1} {zr},k_ v1=N zr→Kp I [0,5,6,7] [] [] ⟨[pL 0 X4.row a0,pL 5 X4.row a0,pI 6 (a0.length:U),pI 7 v1],[],[]⟩ (.code (.loop Qs):: [.blk 0,.code UM]) (Ah [2] [.sc (.v (.bool zr))])
theorem B4k{a0}{n:W}:lU a0 (EU a0 n):=by
 induction n with
 | zero=>intro _ r h; cases h
 | succ n ih=>
  intro v1 r h σ hσ;rw[EU] at h;refine Ak ?_;obtain⟨h2,h⟩|⟨h2,h⟩:=ic h
  ·obtain⟨x3,h3,h⟩:=ob h;try simp only[hσ,h2,h3,Qs,C,E,F,G,H,J]
   refine Al ?_;try simp only[h2,h3,C,E,F,G,H,J]
   refine Ao ?_;obtain⟨h4,h⟩|⟨h4,h⟩:=ic h
   ·try simp only[h2,h3,h4,C,E,F,G,H,J]
    cases h;exact t0
   ·obtain⟨h5,h⟩|⟨h5,h⟩:=ic h
    ·try simp only[h2,h3,h4,h5,C,E,F,G,H,J]
     cases h;exact t0
    ·obtain⟨h6,h⟩|⟨h6,h⟩:=ic h
     ·try simp only[h2,h3,h4,h5,h6,C,E,F,G,H,J]
      cases h;exact t0
     ·obtain⟨h7,h⟩|⟨h7,h⟩:=ic h
      ·obtain⟨x8,h8,h⟩:=ob h;obtain⟨h9,h⟩|⟨h9,h⟩:=ic h
       ·try simp only[h2,h3,h4,h5,h6,h7,h8,h9,C,E,F,G,H,J]
        cases h;exact t0
       ·try simp only[h2,h3,h4,h5,h6,h7,h8,h9,C,E,F,G,H,J]
        refine ih h ?_;try simp only[h2,h3,h4,h5,h6,h7,h8,h9,C,E,F,G,H,J,Y]
      ·try simp only[h2,h3,h4,h5,h6,h7,C,E,F,G,H,J]
       refine ih h ?_;try simp only[h2,h3,h4,h5,h6,h7,C,E,F,G,H,J,Y]
  ·try simp only[hσ,h2,Qs,UM,C,E,F,G,H,J]
   cases h;exact t0
theorem iw{a0}{r}(h:JG a0=N r):FC I 331 [.sc (.sl (Z X4.row a0))] [.sc (.v (.bool r))]:=by
 unfold JG at h;refine Aa A9 bU [2] 44 ?_;simp only[bU,C,E,F,G,H,J];try simp only[C,E,F,G,H,J]
 refine B4k h ?_;try simp only[C,E,F,G,H,J,Y]
/- 328:impl_ShrinkWindows -/
def Qt:X0:=A1 [Ag [1,5,17,18,19] [] [1024]] (A1 [bn 20 .lss 19 18] (Aw 20 0 1 (A1 [ia 21 17 19 2,lw 22 21 2,Ai 7 [aI 0,aI 0],so 7 22 2] (A1 [fa 23 7 1,ld 24 23,fa 25 7 0,ld 26 25,bn 27 .sub 24 26,mv 28 1,bn 29 .geq 27 28] (At 29 (.reg [mv 30 5,fa 31 7 0,ld 32 31,fa 33 7 1,ld 34 33,mv 35 1,bn 36 .sub 34 35,Bv 37 [aI 0,aI 0] [(0,1,(S 32)),(1,1,(S 36))],AO 38 2 [.int .i64 0,.int .i64 0] 1 [(0,(S 37))],Bl 39 2 16 30 38,mv 5 39])))) (Av 40 19)))
def UN:X0:=(A2 [mv 41 5,mv 4 41])
def bV:X0:=(A1 [AA 4] (Ab [mv 8 0,ca 9 331 [S 8],nt 10 9,mv 11 10,Af 11 L 12 1,Am 11 L 13 117 [S 12],AM 11 L 14 13,po 15 11 14] 15 (A2 [AA 4]) (A1 [AO 16 2 [.int .i64 0,.int .i64 0] 0 [],mv 5 16] (A6 (A1 [mv 17 0,ln 18 17,A5 19 0] (Aj 0 Qt)) UN))))
def lR:=fun a1 a0 (k_:U→(P X4)→Q (P X4))=>∀{v5 v6} {zr},k_ v5 v6=N zr→Kp I [1,5,17,18,19] [] [1024] ⟨[pI 1 a1,pW 5 1024,pL 17 X4.row a0,pI 18 (a0.length:U),pI 19 v5],[],[(1024,2,Z X4.row v6)]⟩ (.code (.loop Qt):: [.blk 0,.code UN]) (Ah [4] [.sc (.o 2 (Z X4.row zr))])
theorem B4l{a1 a0}{n:W}:lR a1 a0 (ET a1 a0 n):=by
 induction n with
 | zero=>intro _ _ r h; cases h
 | succ n ih=>
  intro v5 v6 r h σ hσ;rw[ET] at h;refine Ak ?_;obtain⟨h7,h⟩|⟨h7,h⟩:=ic h
  ·obtain⟨x8,h8,h⟩:=ob h;try simp only[hσ,h7,h8,Qt,C,E,F,G,H,J]
   refine Al ?_;obtain⟨h9,h⟩|⟨h9,h⟩:=ic h
   ·try simp only[h7,h8,h9,C,E,F,G,H,J]
    refine AD (es:=Z X4.row ([(⟨x8.From,(IntKind.i64.wrap (x8.To - a1))⟩:X4)]:P X4)) ?_;obtain⟨h10,h⟩:=Ba h;try simp only[h7,h8,h9,h10,C,E,F,G,H,J]
    refine ih h ?_;try simp only[h7,h8,h9,h10,C,E,F,G,H,J,Y]
   ·try simp only[h7,h8,h9,C,E,F,G,H,J]
    refine ih h ?_;try simp only[h7,h8,h9,C,E,F,G,H,J,Y]
  ·try simp only[hσ,h7,Qt,UN,C,E,F,G,H,J]
   cases h;exact t0
theorem A71{a0}{a1}{r}(h:RI a0 a1=N r):FC I 328 [.sc (.sl (Z X4.row a0)),.sc (.int .i64 a1)] [.sc (.o 2 (Z X4.row r))]:=by
 unfold RI at h;refine Aa A9 bV [4] 42 ?_;simp only[bV,C,E,F,G,H,J];obtain⟨r1,h1,h⟩:=ob h;try simp only[C,E,F,G,H,J]
 refine A4 (iw h1) ?_;obtain⟨h2,h⟩|⟨h2,h⟩:=ic h
 ·obtain⟨r3,h3,h⟩:=ob h;try simp only[h2,C,E,F,G,H,J]
  refine A4 (FA h3) ?_;obtain⟨h4,h⟩|⟨h4,h⟩:=ic h
  ·try simp only[h2,h4,C,E,F,G,H,J]
   refine AD (es:=Z X4.row ([]:P X4)) ?_;try simp only[h2,h4,C,E,F,G,H,J]
   refine B4l h ?_;try simp only[h2,h4,C,E,F,G,H,J,Y]
  ·try simp only[h2,h4,C,E,F,G,H,J]
   cases h;exact t0
 ·try simp only[h2,C,E,F,G,H,J]
  cases h;exact t0
/- 273:impl_SureStarts -/
def bW:X0:=(A1 [bo 4 0,bo 5 1,bo 7 3,AA 8] (Ab [lw 9 4 3,ca 10 116 [S 9],nt 11 10,mv 12 11,AL 12 L 13 5 2,Af 12 L 14 2,AL 12 L 15 7 6,Am 12 L 16 281 [S 13,S 14,S 15],AM 12 L 17 16,po 18 12 17] 18 (A2 [AA 8]) (A6 (.drw [(N [23],lw 19 4 3),o0 (lw 20 5 2),o0 (mv 21 2),o0 (lw 22 7 6),o0 (ca 23 206 [S 20,S 21,S 22]),o0 (ca 24 329 [S 19,S 23]),(N [23,24],lw 25 5 2),(N [23,24],mv 26 2),(N [23,24],lw 27 7 6),o0 (ca 28 330 [S 25,S 26,S 27]),o0 (ca 29 328 [S 24,S 28]),o0 (mv 8 29)]) .ret)))
theorem A72{a0}{a1}{a2}{a3}{r}(h:Mc a0 a1 a2 a3=N r):FC I 273 [.ag (zF a0),.ag (X6.row a1),.sc (.int .i64 a2),.ag (X5.row a3)] [.sc (.o 2 (Z X4.row r))]:=by
 unfold Mc at h;refine Aa A9 bW [8] 30 ?_;simp only[bW,C,E,F,G,H,J];try simp only[C,E,F,G,H,J]
 refine A8 ?_;try simp only[C,E,F,G,H,J]
 refine A8 ?_;try simp only[C,E,F,G,H,J]
 refine A8 ?_;obtain⟨r1,h1,h⟩:=ob h;try simp only[C,E,F,G,H,J]
 refine A4 (Tb h1) ?_;obtain⟨h2,h⟩|⟨h2,h⟩:=ic h
 ·obtain⟨r3,h3,h⟩:=ob h;try simp only[h2,C,E,F,G,H,J]
  refine A4 (jE h3) ?_;obtain⟨h4,h⟩|⟨h4,h⟩:=ic h
  ·try simp only[h2,h4,C,E,F,G,H,J]
   refine Ao ?_;obtain⟨r5,h5,h⟩:=ob h;try simp only[h2,h4,C,E,F,G,H,J]
   refine AH (A7k h5) ?_;obtain⟨r6,h6,h⟩:=ob h;try simp only[h2,h4,C,E,F,G,H,J]
   refine AH (A7l h6) ?_;obtain⟨r7,h7,h⟩:=ob h;try simp only[h2,h4,C,E,F,G,H,J]
   refine AH (A7m h7) ?_;obtain⟨r9,h9,h⟩:=ob h;try simp only[h2,h4,C,E,F,G,H,J]
   refine IG (A71 h9) (by first | rfl | kernel_rfl) (BQ X ⟨AZ,⟨⟩⟩) X (uf X) ?_;try simp only[h2,h4,C,E,F,G,H,J]
   cases h;exact t0
  ·try simp only[h2,h4,C,E,F,G,H,J]
   cases h;exact t0
 ·try simp only[h2,C,E,F,G,H,J]
  cases h;exact t0
/- 195:impl_voyageOf -/
def Qu:X0:=A1 [Ag [3,4,5,6,7,10,34] [5,6,7,10] []] (At 34 (A2 [Bv 35 [.nil,.nil,.nil] [],so 10 35 3,A3 11 L]))
def Qv:X0:=A1 [Ag [4,5,6,7,10,12,43,44,45] [5,6,7,10,12] [140288,140352,140416]] (A1 [bn 46 .lss 45 44] (Aw 46 0 1 (A1 [mv 47 45,ia 48 43 45 1,ld 49 48,mv 13 47,mv 14 49] (A6 (.drw [(N [58],fa 50 12 0),(N [58],ld 51 50),o0 (fa 52 6 0),o0 (ld 53 52),o0 (mv 54 14),o0 (ia 55 53 54 2),o0 (fa 56 55 1),o0 (ld 57 56),o0 (AO 58 1 [.bool L] 1 [(0,(S 57))]),(O,Bl 59 1 1 51 58),o0 (fa 60 12 0),(O,so 60 59 1)]) (A6 (.drw [(N [72,73],fa 61 12 1),(N [72,73],ld 62 61),o0 (lw 63 7 6),o0 (fa 64 6 1),o0 (ld 65 64),o0 (mv 66 4),o0 (mv 67 13),o0 (ia 68 66 67 1),o0 (ld 69 68),o0 (ia 70 65 69 5),o0 (lw 71 70 5),o0 (ca 72 272 [S 63,S 71]),o0 (AO 73 1 [.int .i64 0] 1 [(0,(S 72))]),(O,Bl 74 1 8 62 73),o0 (fa 75 12 1),(O,so 75 74 1)]) (.drw [(N [85,86],fa 76 12 2),(N [85,86],ld 77 76),o0 (lw 78 5 3),o0 (lw 79 6 2),o0 (mv 80 4),o0 (mv 81 13),o0 (ia 82 80 81 1),o0 (ld 83 82),o0 (lw 84 7 6),o0 (ca 85 273 [S 78,S 79,S 83,S 84]),o0 (AO 86 1 [.sl []] 1 [(0,(S 85))]),(O,Bl 87 1 24 77 86),o0 (fa 88 12 2),(O,so 88 87 1)])))) (Av 89 45)))
def UP:X0:=(A2 [lw 90 12 3,so 10 90 3,A3 11 T])
def UQ:X0:=(A1 [Bv 36 [.nil,.nil,.nil] [],Ai 12 [.nil,.nil,.nil],so 12 36 3,(O,.ownb 12 0 140288 1),(O,.ownb 12 1 140352 1),(O,.ownb 12 2 140416 1)] (A6 (A1 [lw 37 6 2,mv 38 3,mv 39 4,ca 40 194 [S 37,S 38,S 39],mv 41 4,ln 42 41,(O,.frz 2560),(O,.slc 43 1 (S 40) O (N (S 42)) O),ln 44 43,A5 45 0] (Aj 0 Qv)) UP))
def bX:X0:=(A1 [bo 5 0,bo 6 1,bo 7 2,Ai 10 [.nil,.nil,.nil],A3 11 L] (A6 (A1 [lw 15 5 3,ca 16 116 [S 15],nt 17 16,mv 18 17,AL 18 L 19 7 6,Am 18 L 20 266 [S 19],AM 18 L 21 20,po 22 18 21,mv 23 22,AL 23 L 24 6 2,Af 23 L 25 3,Af 23 L 26 4,Am 23 L 27 271 [S 24,S 25,S 26],AM 23 L 28 27,po 29 23 28,mv 30 29,Af 30 L 31 4,B3 30 L 32 31,AQ 30 L 33 .eql 32 0,po 34 30 33] Qu) UQ))
def lz:=fun a4 (a0:Xc) (a1:X6) (a2:X5) y11 y12 (k_:U→(P V)→(P U)→(P (P X4))→Q (Xi × V))=>∀{v13 v14 v15 v16} {zr},k_ v13 v14 v15 v16=N zr→Kp I [4,5,6,7,10,12,43,44,45] [5,6,7,10,12] [140288,140352,140416] ⟨[pL 4 rI a4,pB 5,pB 6,pB 7,pB 10,pB 12,pL 43 rI y11,pI 44 y12,pI 45 v13],[(5,[aI a0.Tide.Mean,aM zC a0.Tide.Parts,aM zD a0.Surges]),(6,[aM X9.row a1.Points,aM X3.row a1.Segments]),(7,(dm a2.row)),(10,[.nil,.nil,.nil]),(12,[.own 140288,.own 140352,.own 140416])],[(140288,1,Z rB v14),(140352,1,Z rI v15),(140416,1,Z (rL X4.row) v16)]⟩ (.code (.loop Qv):: [.blk 0,.code UP]) (Ah [.c 10 T 3,11] [.ag [.o 1 (Z rB zr.1.waits),.o 1 (Z rI zr.1.minutes),.o 1 (Z (rL X4.row) zr.1.sure)],.sc (.v (.bool zr.2))])
def ly:=fun a3 a4 (a0:Xc) (a1:X6) (a2:X5) (k_:V→Q (Xi × V))=>∀{v7} {zr},k_ v7=N zr→Kp I [3,4,5,6,7,10,34] [5,6,7,10] [] ⟨[pI 3 a3,pL 4 rI a4,pB 5,pB 6,pB 7,pB 10,(34,vc (aB v7))],[(5,[aI a0.Tide.Mean,aM zC a0.Tide.Parts,aM zD a0.Surges]),(6,[aM X9.row a1.Points,aM X3.row a1.Segments]),(7,(dm a2.row)),(10,[.nil,.nil,.nil])],[]⟩ (.code Qu:: [.code UQ]) (Ah [.c 10 T 3,11] [.ag [.o 1 (Z rB zr.1.waits),.o 1 (Z rI zr.1.minutes),.o 1 (Z (rL X4.row) zr.1.sure)],.sc (.v (.bool zr.2))])
theorem B4m{a4 a0 a1 a2 y11 y12}{n:W}:lz a4 a0 a1 a2 y11 y12 (Hz a4 a0 a1 a2 y11 y12 n):=by
 induction n with
 | zero=>intro _ _ _ _ r h; cases h
 | succ n ih=>
  intro v13 v14 v15 v16 r h σ hσ;rw[Hz] at h;refine Ak ?_;obtain⟨h17,h⟩|⟨h17,h⟩:=ic h
  ·obtain⟨x18,h18,h⟩:=ob h;try simp only[hσ,h17,h18,Qv,C,E,F,G,H,J]
   refine Ao ?_;obtain⟨x19,h19,h⟩:=ob h;try simp only[h17,h18,h19,C,E,F,G,H,J]
   refine AD (es:=Z rB ([x19.Wait]:P V)) ?_;obtain⟨h20,h⟩:=Ba h;try simp only[h17,h18,h19,h20,C,E,F,G,H,J]
   refine Ao ?_;try simp only[h17,h18,h19,h20,C,E,F,G,H,J]
   refine Ao ?_;try simp only[h17,h18,h19,h20,C,E,F,G,H,J]
   refine Ao ?_;obtain⟨x21,h21,h⟩:=ob h;obtain⟨x22,h22,h⟩:=ob h;obtain⟨r23,h23,h⟩:=ob h;try simp only[h17,h18,h19,h20,h21,h22,C,E,F,G,H,J]
   refine AH (OP h23) ?_;try simp only[h17,h18,h19,h20,h21,h22,C,E,F,G,H,J]
   refine AD (es:=Z rI ([r23]:P U)) ?_;obtain⟨h24,h⟩:=Ba h;try simp only[h17,h18,h19,h20,h21,h22,h24,C,E,F,G,H,J]
   refine Ao ?_;try simp only[h17,h18,h19,h20,h21,h22,h24,C,E,F,G,H,J]
   refine Ao ?_;try simp only[h17,h18,h19,h20,h21,h22,h24,C,E,F,G,H,J]
   refine Ao ?_;obtain⟨r25,h25,h⟩:=ob h;try simp only[h17,h18,h19,h20,h21,h22,h24,C,E,F,G,H,J]
   refine AH (FC.asV (rs':= [.sc (.v (.sl (Z X4.row r25)))]) (A72 h25) X) ?_;try simp only[h17,h18,h19,h20,h21,h22,h24,C,E,F,G,H,J]
   refine AD (es:=Z (rL X4.row) ([r25]:P (P X4))) ?_;obtain⟨h26,h⟩:=Ba h;try simp only[h17,h18,h19,h20,h21,h22,h24,h26,C,E,F,G,H,J]
   refine Ao ?_;try simp only[h17,h18,h19,h20,h21,h22,h24,h26,C,E,F,G,H,J]
   refine Ao ?_;try simp only[h17,h18,h19,h20,h21,h22,h24,h26,C,E,F,G,H,J]
   refine ih h ?_;try simp only[h17,h18,h19,h20,h21,h22,h24,h26,C,E,F,G,H,J,Y]
  ·try simp only[hσ,h17,Qv,UP,C,E,F,G,H,J]
   cases h;try simp only[B7,C,E,F,G,H,J]
   trivial
theorem Th{a3 a4 a0 a1 a2}:ly a3 a4 a0 a1 a2 (Hy a3 a4 a0 a1 a2):=by
 intro v7 r h σ hσ;unfold Hy at h;obtain⟨h8,h⟩|⟨h8,h⟩:=ic h
 ·try simp only[hσ,h8,Qu,C,E,F,G,H,J]
  cases h;try simp only[B7,C,E,F,G,H,J]
  trivial
 ·try simp only[hσ,h8,Qu,UQ,C,E,F,G,H,J]
  refine Al ?_;try simp only[h8,C,E,F,G,H,J]
  refine NY (cs':= [.own 140288,.nil,.nil]) X X X X ?_;try simp only[h8,C,E,F,G,H,J]
  refine NY (cs':= [.own 140288,.own 140352,.nil]) X X X X ?_;try simp only[h8,C,E,F,G,H,J]
  refine NY (cs':= [.own 140288,.own 140352,.own 140416]) X X X X ?_;obtain⟨r9,h9,h⟩:=ob h;try simp only[h8,C,E,F,G,H,J]
  refine A4 (Xx h9) ?_;try simp only[h8,C,E,F,G,H,J]
  refine D3 ?_;obtain⟨p10,h10,h⟩:=ob h;try simp only[h8,h10,C,E,F,G,H,J]
  refine B4m h ?_;try simp only[h8,h10,C,E,F,G,H,J,Y]
theorem A8m{a0}{a1}{a2}{a3}{a4}{r}(h:Hx a0 a1 a2 a3 a4=N r):FC I 195 [.ag (zF a0),.ag (X6.row a1),.ag (X5.row a2),.sc (.int .i64 a3),.sc (.sl (Z rI a4))] [.ag [.o 1 (Z rB r.1.waits),.o 1 (Z rI r.1.minutes),.o 1 (Z (rL X4.row) r.1.sure)],.sc (.v (.bool r.2))]:=by
 unfold Hx at h;refine Aa A9 bX [.c 10 T 3,11] 91 ?_;simp only[bX,C,E,F,G,H,J];try simp only[C,E,F,G,H,J]
 refine A8 ?_;try simp only[C,E,F,G,H,J]
 refine A8 ?_;try simp only[C,E,F,G,H,J]
 refine A8 ?_;try simp only[C,E,F,G,H,J]
 refine Al ?_;obtain⟨r1,h1,h⟩:=ob h;try simp only[C,E,F,G,H,J]
 refine A4 (Tb h1) ?_;obtain⟨h2,h⟩|⟨h2,h⟩:=ic h
 ·obtain⟨r3,h3,h⟩:=ob h;try simp only[h2,C,E,F,G,H,J]
  refine A4 (KX h3) ?_;obtain⟨h4,h⟩|⟨h4,h⟩:=ic h
  ·obtain⟨r5,h5,h⟩:=ob h;try simp only[h2,h4,C,E,F,G,H,J]
   refine A4 (iv h5) ?_;obtain⟨h6,h⟩|⟨h6,h⟩:=ic h
   ·try simp only[h2,h4,h6,C,E,F,G,H,J]
    refine Th h ?_;try simp only[h2,h4,h6,C,E,F,G,H,J,Y]
   ·try simp only[h2,h4,h6,C,E,F,G,H,J]
    refine Th h ?_;try simp only[h2,h4,h6,C,E,F,G,H,J,Y]
  ·try simp only[h2,h4,C,E,F,G,H,J]
   refine Th h ?_;try simp only[h2,h4,C,E,F,G,H,J,Y]
 ·try simp only[h2,C,E,F,G,H,J]
  refine Th h ?_;try simp only[h2,C,E,F,G,H,J,Y]
/- 103:impl_callVoyage -/
def Qw:X0:=A1 [Ag [2,3,4,6,28] [3,4,6] []] (At 28 (A2 [Bv 29 [.nil,.nil,.nil] [],so 6 29 3,A3 7 L]))
def UR:X0:=(A6 (.drw [o0 (fa 30 3 0),o0 (lw 31 30 3),o0 (fa 32 3 3),o0 (lw 33 32 2),o0 (fa 34 3 5),o0 (ld 35 34),o0 (fa 36 4 0),o0 (ld 37 36),o0 (ia 38 35 37 6),o0 (lw 39 38 6),o0 (fa 40 4 1),o0 (ld 41 40),o0 (mv 42 2),o0 (ca 43 195 [S 31,S 33,S 39,S 41,S 42]),o0 (xt 44 43 0),o0 (xt 45 43 1),(O,so 6 44 3),o0 (mv 7 45)]) .ret)
def bZ:X0:=(A1 [bo 3 0,bo 4 1,Ai 6 [.nil,.nil,.nil],A3 7 L] (A1 [fa 9 3 3,lw 10 9 2,fa 11 4 1,ld 12 11,mv 13 2,ca 14 194 [S 10,S 12,S 13],mv 8 14] (A6 (A6 (.drw [o0 (mv 15 8),o0 (ln 16 15),o0 (Ae 17 .eql 16 0),o0 (mv 18 17),o0 (Af 18 L 19 8),o0 (Af 18 L 20 8),o0 (B3 18 L 21 20),o0 (AQ 18 L 22 .sub 21 1),o0 (CB 18 L 23 19 22 1),o0 (Ad 18 L 24 23),o0 (Ac 18 L 25 4 2),o0 (Ad 18 L 26 25),o0 (AI 18 L 27 .neq 24 26),o0 (po 28 18 27)]) Qw) UR)))
def lW:=fun a2 (a0:X7) (a1:Xa) (k_:V→Q (Xi × V))=>∀{v4} {zr},k_ v4=N zr→Kp I [2,3,4,6,28] [3,4,6] [] ⟨[pL 2 rI a2,pB 3,pB 4,pB 6,(28,vc (aB v4))],[(3,([aI a0.Forecast.Tide.Mean,aM zC a0.Forecast.Tide.Parts,aM zD a0.Forecast.Surges,aM X9.row a0.Chart.Points,aM X3.row a0.Chart.Segments,aM X5.row a0.Fleet,aI a0.Regime.Gap,aB a0.Regime.NoMeet]++dm a0.Crew.row)),(4,(dm a1.row)),(6,[.nil,.nil,.nil])],[]⟩ (.code Qw:: [.code UR]) (Ah [.c 6 T 3,7] [.ag [.o 1 (Z rB zr.1.waits),.o 1 (Z rI zr.1.minutes),.o 1 (Z (rL X4.row) zr.1.sure)],.sc (.v (.bool zr.2))])
theorem jl{a2 a0 a1}:lW a2 a0 a1 (Hn a2 a0 a1):=by
 intro v4 r h σ hσ;unfold Hn at h;obtain⟨h5,h⟩|⟨h5,h⟩:=ic h
 ·try simp only[hσ,h5,Qw,C,E,F,G,H,J]
  cases h;try simp only[B7,C,E,F,G,H,J]
  trivial
 ·try simp only[hσ,h5,Qw,UR,C,E,F,G,H,J]
  refine Ao ?_;obtain⟨x6,h6,h⟩:=ob h;obtain⟨r7,h7,h⟩:=ob h;try simp only[h5,h6,C,E,F,G,H,J]
  refine AH (A8m h7) ?_;try simp only[h5,h6,C,E,F,G,H,J]
  refine Ao ?_;try simp only[h5,h6,C,E,F,G,H,J]
  cases h;try simp only[B7,C,E,F,G,H,J]
  trivial
theorem A78{a0}{a1}{a2}{r}(h:RL a0 a1 a2=N r):FC I 103 [.ag (X7.row a0),.ag (zB a1),.sc (.sl (Z rI a2))] [.ag [.o 1 (Z rB r.1.waits),.o 1 (Z rI r.1.minutes),.o 1 (Z (rL X4.row) r.1.sure)],.sc (.v (.bool r.2))]:=by
 unfold RL at h;refine Aa A9 bZ [.c 6 T 3,7] 46 ?_;simp only[bZ,C,E,F,G,H,J];try simp only[C,E,F,G,H,J]
 refine A8 ?_;try simp only[C,E,F,G,H,J]
 refine A8 ?_;try simp only[C,E,F,G,H,J]
 refine Al ?_;obtain⟨r1,h1,h⟩:=ob h;try simp only[C,E,F,G,H,J]
 refine A4 (Xx h1) ?_;try simp only[C,E,F,G,H,J]
 refine Ao ?_;obtain⟨h2,h⟩|⟨h2,h⟩:=ic h
 ·try simp only[h2,C,E,F,G,H,J]
  refine jl h ?_;try simp only[h2,C,E,F,G,H,J,Y]
 ·obtain⟨x3,h3,h⟩:=ob h;have h3n:=AE h3;try simp only[h2,h3,h3n,C,E,F,G,H,J]
  refine jl h ?_;try simp only[h2,h3,h3n,C,E,F,G,H,J,Y]
/- 274:impl_HasMinute -/
def Qx:X0:=A1 [Ag [1,7,8,9] [] []] (A1 [bn 10 .lss 9 8] (Aw 10 0 1 (A1 [ia 11 7 9 2,lw 12 11 2,Ai 6 [aI 0,aI 0],so 6 12 2] (A1 [mv 13 1,fa 14 6 0,ld 15 14,fa 16 6 1,ld 17 16,ca 18 114 [S 13,S 15,S 17]] (At 18 (A2 [A3 4 T])))) (Av 19 9)))
def US:X0:=(A2 [A3 4 L])
def ba:X0:=(A1 [A3 4 L] (A6 (A1 [mv 7 0,ln 8 7,A5 9 0] (Aj 0 Qx)) US))
def lG:=fun a1 a0 (k_:U→Q V)=>∀{v1} {zr},k_ v1=N zr→Kp I [1,7,8,9] [] [] ⟨[pI 1 a1,pL 7 X4.row a0,pI 8 (a0.length:U),pI 9 v1],[],[]⟩ (.code (.loop Qx):: [.blk 0,.code US]) (Ah [4] [.sc (.v (.bool zr))])
theorem B4n{a1 a0}{n:W}:lG a1 a0 (H8 a1 a0 n):=by
 induction n with
 | zero=>intro _ r h; cases h
 | succ n ih=>
  intro v1 r h σ hσ;rw[H8] at h;refine Ak ?_;obtain⟨h2,h⟩|⟨h2,h⟩:=ic h
  ·obtain⟨x3,h3,h⟩:=ob h;try simp only[hσ,h2,h3,Qx,C,E,F,G,H,J]
   refine Al ?_;obtain⟨r4,h4,h⟩:=ob h;try simp only[h2,h3,C,E,F,G,H,J]
   refine A4 (Ci h4) ?_;obtain⟨h5,h⟩|⟨h5,h⟩:=ic h
   ·try simp only[h2,h3,h5,C,E,F,G,H,J]
    cases h;exact t0
   ·try simp only[h2,h3,h5,C,E,F,G,H,J]
    refine ih h ?_;try simp only[h2,h3,h5,C,E,F,G,H,J,Y]
  ·try simp only[hσ,h2,Qx,US,C,E,F,G,H,J]
   cases h;exact t0
theorem A7g{a0}{a1}{r}(h:LU a0 a1=N r):FC I 274 [.sc (.sl (Z X4.row a0)),.sc (.int .i64 a1)] [.sc (.v (.bool r))]:=by
 unfold LU at h;refine Aa A9 ba [4] 20 ?_;simp only[ba,C,E,F,G,H,J];try simp only[C,E,F,G,H,J]
 refine B4n h ?_;try simp only[C,E,F,G,H,J,Y]
/- 275:impl_NextMinute -/
def Qy:X0:=A1 [Ag [1,10,11,12] [] []] (A1 [bn 13 .lss 12 11] (Aw 13 0 1 (A1 [ia 14 10 12 2,lw 15 14 2,Ai 6 [aI 0,aI 0],so 6 15 2] (A1 [fa 16 6 1,ld 17 16,mv 18 1,bn 19 .geq 17 18] (At 19 (A2 [fa 20 6 0,ld 21 20,mv 22 1,(O,.mm 23 T (S 21) (S 22)),mv 4 23])))) (Av 24 12)))
def UT:X0:=(A2 [A5 4 (-1)])
def bb:X0:=(A1 [A5 4 0] (Ab [mv 7 0,ca 8 331 [S 7],nt 9 8] 9 (A2 [A5 4 (-1)]) (A6 (A1 [mv 10 0,ln 11 10,A5 12 0] (Aj 0 Qy)) UT)))
def lL:=fun a1 a0 (k_:U→Q U)=>∀{v3} {zr},k_ v3=N zr→Kp I [1,10,11,12] [] [] ⟨[pI 1 a1,pL 10 X4.row a0,pI 11 (a0.length:U),pI 12 v3],[],[]⟩ (.code (.loop Qy):: [.blk 0,.code UT]) (Ah [4] [.sc (.v (.int .i64 zr))])
theorem B4o{a1 a0}{n:W}:lL a1 a0 (Hb a1 a0 n):=by
 induction n with
 | zero=>intro _ r h; cases h
 | succ n ih=>
  intro v3 r h σ hσ;rw[Hb] at h;refine Ak ?_;obtain⟨h4,h⟩|⟨h4,h⟩:=ic h
  ·obtain⟨x5,h5,h⟩:=ob h;try simp only[hσ,h4,h5,Qy,C,E,F,G,H,J]
   refine Al ?_;obtain⟨h6,h⟩|⟨h6,h⟩:=ic h
   ·try simp only[h4,h5,h6,C,E,F,G,H,J]
    cases h;exact t0
   ·try simp only[h4,h5,h6,C,E,F,G,H,J]
    refine ih h ?_;try simp only[h4,h5,h6,C,E,F,G,H,J,Y]
  ·try simp only[hσ,h4,Qy,UT,C,E,F,G,H,J]
   cases h;exact t0
theorem A7n{a0}{a1}{r}(h:M2 a0 a1=N r):FC I 275 [.sc (.sl (Z X4.row a0)),.sc (.int .i64 a1)] [.sc (.v (.int .i64 r))]:=by
 unfold M2 at h;refine Aa A9 bb [4] 25 ?_;simp only[bb,C,E,F,G,H,J];obtain⟨r1,h1,h⟩:=ob h;try simp only[C,E,F,G,H,J]
 refine A4 (iw h1) ?_;obtain⟨h2,h⟩|⟨h2,h⟩:=ic h
 ·try simp only[h2,C,E,F,G,H,J]
  refine B4o h ?_;try simp only[h2,C,E,F,G,H,J,Y]
 ·try simp only[h2,C,E,F,G,H,J]
  cases h;exact t0
/- 196:impl_voyage_sail -/
def Qz:X0:=A1 [Ag [2,6,7,9,59] [2] [1152]] (At 59 (A2 [AA 4,A3 5 L]))
def UU:X0:=(.reg [mv 60 6,mv 61 9,AO 62 1 [.int .i64 0] 1 [(0,(S 61))],Bl 63 1 8 60 62,mv 6 63])
def UV:X0:=(.reg [mv 24 7,Ae 25 .add 24 1,mv 7 25])
def Ls:X0:=A1 [Ag [2,6,7] [2] [1152]] (A6 (A1 [mv 19 7,fa 20 2 2,ld 21 20,ln 22 21,bn 23 .lss 19 22] (AS 23 .skip (.exit 0))) (A6 (.block 1 (A6 (.drw [o0 (mv 26 6),o0 (mv 27 7),o0 (Ae 28 .sub 27 1),o0 (ia 29 26 28 1),o0 (ld 30 29),o0 (fa 31 2 1),o0 (ld 32 31),o0 (mv 33 7),o0 (Ae 34 .sub 33 1),o0 (ia 35 32 34 1),o0 (ld 36 35),o0 (bn 37 .add 30 36),o0 (mv 8 37)]) (A1 [fa 38 2 2,ld 39 38,mv 40 7,ia 41 39 40 1,ld 42 41,mv 43 8,ca 44 275 [S 42,S 43],mv 9 44] (A6 (A1 [mv 45 9,Ae 46 .lss 45 0,mv 47 46,Af 47 L 48 9,Af 47 L 49 8,AI 47 L 50 .gtr 48 49,Af 47 L 51 50,Ac 51 T 52 2 0,Ad 51 T 53 52,Af 51 T 54 7,CB 51 T 55 53 54 1,Ad 51 T 56 55,AM 51 T 57 56,(N (47,L),.pick 58 (S 51) (S 57) (KB L)),po 59 47 58] Qz) UU)))) UV))
def QA:X0:=(A2 [mv 64 6,mv 4 64,A3 5 T])
def bc:X0:=(A1 [bo 2 0,AA 4,A3 5 L] (Ab [fa 10 2 2,ld 11 10,(O,.iaddr 12 (S 11) (K 0) 1),ld 13 12,mv 14 1,ca 15 274 [S 13,S 14],nt 16 15] 16 (A2 [AA 4,A3 5 L]) (A1 [mv 17 1,AO 18 1 [.int .i64 0] 1 [(0,(S 17))],mv 6 18] (A6 (A1 [A5 7 1] (Aj 0 Ls)) QA))))
def mA:=fun v4 r10 (a0:Xi) v5 (k_:V→Q ((P U) × V))=>∀{v14} {zr},k_ v14=N zr→Kp I [2,6,7,9,59] [2] [1152] ⟨[pB 2,pW 6 1152,pI 7 v4,pI 9 r10,(59,vc (aB v14))],[(2,(dm a0.row))],[(1152,1,Z rI v5)]⟩ (.code Qz:: [.code UU,.blk 1,.code UV,.code (.loop Ls),.blk 0,.code QA]) (Ah [4,5] [.sc (.o 1 (Z rI zr.1)),.sc (.v (.bool zr.2))])
def Y9:=fun(a0:Xi) (k_:U→(P U)→Q ((P U) × V))=>∀{v4 v5} {zr},k_ v4 v5=N zr→Kp I [2,6,7] [2] [1152] ⟨[pB 2,pW 6 1152,pI 7 v4],[(2,(dm a0.row))],[(1152,1,Z rI v5)]⟩ (.code (.loop Ls):: [.blk 0,.code QA]) (Ah [4,5] [.sc (.o 1 (Z rI zr.1)),.sc (.v (.bool zr.2))])
theorem XQ{v4 r10 a0 v5}{SJ}(we:Y9 a0 SJ):mA v4 r10 a0 v5 (HA v4 r10 a0 v5 SJ):=by
 intro v14 r h σ hσ;unfold HA at h;obtain⟨h15,h⟩|⟨h15,h⟩:=ic h
 ·try simp only[hσ,h15,Qz,C,E,F,G,H,J]
  cases h;trivial
 ·try simp only[hσ,h15,Qz,UU,C,E,F,G,H,J]
  refine AD (es:=Z rI ([r10]:P U)) ?_;obtain⟨h16,h⟩:=Ba h;try simp only[h15,h16,UV,C,E,F,G,H,J]
  refine we h ?_;try simp only[h15,h16,C,E,F,G,H,J,Y]
theorem B4q{a0}{n:W}:Y9 a0 (Ee a0 n):=by
 induction n with
 | zero=>intro _ _ r h; cases h
 | succ n ih=>
  intro v4 v5 r h σ hσ;rw[Ee] at h;refine Ak ?_;obtain⟨h6,h⟩|⟨h6,h⟩:=ic h
  ·try simp only[hσ,h6,Ls,C,E,F,G,H,J]
   refine Ao ?_;obtain⟨x7,h7,h⟩:=ob h;have h7n:=AE h7;obtain⟨x8,h8,h⟩:=ob h;obtain⟨x9,h9,h⟩:=ob h;obtain⟨r10,h10,h⟩:=ob h;try simp only[h6,h7,h7n,h8,h9,C,E,F,G,H,J]
   refine A4 (A7n h10) ?_;obtain⟨h11,h⟩|⟨h11,h⟩:=ic h
   ·try simp only[h6,h7,h7n,h8,h9,h11,C,E,F,G,H,J]
    refine XQ ih h ?_;try simp only[h6,h7,h7n,h8,h9,h11,C,E,F,G,H,J,Y]
   ·obtain⟨h12,h⟩|⟨h12,h⟩:=ic h
    ·obtain⟨x13,h13,h⟩:=ob h;try simp only[h6,h7,h7n,h8,h9,h11,h12,h13,C,E,F,G,H,J]
     refine XQ ih h ?_;try simp only[h6,h7,h7n,h8,h9,h11,h12,h13,C,E,F,G,H,J,Y]
    ·try simp only[h6,h7,h7n,h8,h9,h11,h12,C,E,F,G,H,J]
     refine XQ ih h ?_;try simp only[h6,h7,h7n,h8,h9,h11,h12,C,E,F,G,H,J,Y]
  ·try simp only[hσ,h6,Ls,QA,C,E,F,G,H,J]
   cases h;trivial
theorem A8n{a0}{a1}{r}(h:Mu a0 a1=N r):FC I 196 [.ag (Xi.row a0),.sc (.int .i64 a1)] [.sc (.o 1 (Z rI r.1)),.sc (.v (.bool r.2))]:=by
 unfold Mu at h;refine Aa A9 bc [4,5] 65 ?_;simp only[bc,C,E,F,G,H,J];try simp only[C,E,F,G,H,J]
 refine A8 ?_;obtain⟨x1,h1,h⟩:=ob h;obtain⟨r2,h2,h⟩:=ob h;try simp only[h1,C,E,F,G,H,J]
 refine A4 (A7g h2) ?_;obtain⟨h3,h⟩|⟨h3,h⟩:=ic h
 ·try simp only[h1,h3,C,E,F,G,H,J]
  refine AD (es:=Z rI ([a1]:P U)) ?_;try simp only[h1,h3,C,E,F,G,H,J]
  refine B4q h ?_;try simp only[h1,h3,C,E,F,G,H,J,Y]
 ·try simp only[h1,h3,C,E,F,G,H,J]
  cases h;trivial
/- 197:impl_PassagesOf -/
def QB:X0:=A1 [Ag [1,5,6,8,13,14,40,41,42] [6,8] [2432,2496]] (A1 [bn 43 .lss 42 41] (Aw 43 0 1 (A1 [mv 44 42,ia 45 40 42 1,ld 46 45,mv 15 44,mv 16 46] (Ab [mv 47 5,mv 48 15,ia 49 47 48 1,ld 50 49,ca 51 117 [S 50],nt 52 51] 52 (A2 [AA 12]) (A1 [fa 53 6 1,ld 54 53,mv 55 16,ia 56 54 55 5,lw 57 56 5,Ai 17 [aI 0,aI 0,aI 0,aI 0,aB L],so 17 57 5] (.drw [(N [78,81],mv 58 14),(N [78],mv 59 1),(N [78],mv 60 16),(N [78],mv 61 13),(N [78],mv 62 15),(N [78],ia 63 61 62 1),(N [78],ld 64 63),(N [78],fa 65 17 0),(N [78],ld 66 65),(N [78],bn 67 .eql 64 66),(N [78],mv 68 5),(N [78],mv 69 15),(N [78],ia 70 68 69 1),(N [78],ld 71 70),(N [78],mv 72 5),(N [78],mv 73 15),(N [78],ia 74 72 73 1),(N [78],ld 75 74),o0 (lw 76 8 6),o0 (lw 77 17 5),o0 (ca 78 272 [S 76,S 77]),o0 (bn 79 .add 75 78),o0 (Bv 80 [aI 0,aI 0,aB L,aI 0,aI 0] [(0,1,(S 59)),(1,1,(S 60)),(2,1,(S 67)),(3,1,(S 71)),(4,1,(S 79))]),o0 (AO 81 5 [.int .i64 0,.int .i64 0,.bool L,.int .i64 0,.int .i64 0] 1 [(0,(S 80))]),(O,Bl 82 5 40 58 81),o0 (mv 14 82)])))) (Av 83 42)))
def UW:X0:=(A2 [mv 84 14,mv 12 84])
def be:X0:=(A1 [bo 6 0,bo 8 2,AA 12] (Ab [lw 18 6 2,mv 19 3,mv 20 4,ca 21 271 [S 18,S 19,S 20],nt 22 21,mv 23 22,AL 23 L 24 8 6,Am 23 L 25 266 [S 24],AM 23 L 26 25,po 27 23 26,mv 28 27,Af 28 L 29 4,B3 28 L 30 29,Af 28 L 31 5,B3 28 L 32 31,AI 28 L 33 .neq 30 32,po 34 28 33] 34 (A2 [AA 12]) (A1 [lw 35 6 2,mv 36 3,mv 37 4,ca 38 194 [S 35,S 36,S 37],mv 13 38] (A1 [AO 39 5 [.int .i64 0,.int .i64 0,.bool L,.int .i64 0,.int .i64 0] 0 [],mv 14 39] (A6 (A1 [mv 40 4,ln 41 40,A5 42 0] (Aj 0 QB)) UW)))))
def lN:=fun a1 a5 a4 (a0:X6) (a2:X5) r6 (k_:U→(P X1)→Q (P X1))=>∀{v7 v8} {zr},k_ v7 v8=N zr→Kp I [1,5,6,8,13,14,40,41,42] [6,8] [2432,2496] ⟨[pI 1 a1,pL 5 rI a5,pB 6,pB 8,pW 13 2432,pW 14 2496,pL 40 rI a4,pI 41 (a4.length:U),pI 42 v7],[(6,[aM X9.row a0.Points,aM X3.row a0.Segments]),(8,(dm a2.row))],[(2432,1,Z rI r6),(2496,5,Z X1.row v8)]⟩ (.code (.loop QB):: [.blk 0,.code UW]) (Ah [12] [.sc (.o 5 (Z X1.row zr))])
theorem B4r{a1 a5 a4 a0 a2 r6}{n:W}:lN a1 a5 a4 a0 a2 r6 (Hc a1 a5 a4 a0 a2 r6 n):=by
 induction n with
 | zero=>intro _ _ r h; cases h
 | succ n ih=>
  intro v7 v8 r h σ hσ;rw[Hc] at h;refine Ak ?_;obtain⟨h9,h⟩|⟨h9,h⟩:=ic h
  ·obtain⟨x10,h10,h⟩:=ob h;obtain⟨x11,h11,h⟩:=ob h;obtain⟨r12,h12,h⟩:=ob h;try simp only[hσ,h9,h10,h11,QB,C,E,F,G,H,J]
   refine A4 (FA h12) ?_;obtain⟨h13,h⟩|⟨h13,h⟩:=ic h
   ·obtain⟨x14,h14,h⟩:=ob h;try simp only[h9,h10,h11,h13,h14,C,E,F,G,H,J]
    refine Al ?_;try simp only[h9,h10,h11,h13,h14,C,E,F,G,H,J]
    refine Ao ?_;obtain⟨x15,h15,h⟩:=ob h;have h15n:=AE h15;obtain⟨r16,h16,h⟩:=ob h;try simp only[h9,h10,h11,h13,h14,h15,h15n,C,E,F,G,H,J]
    refine AH (OP h16) ?_;try simp only[h9,h10,h11,h13,h14,h15,h15n,C,E,F,G,H,J]
    refine AD (es:=Z X1.row ([(⟨a1,x10,(x15==x14.A),x11,(IntKind.i64.wrap (x11+r16))⟩:X1)]:P X1)) ?_;obtain⟨h17,h⟩:=Ba h;try simp only[h9,h10,h11,h13,h14,h15,h15n,h17,C,E,F,G,H,J]
    refine Ao ?_;try simp only[h9,h10,h11,h13,h14,h15,h15n,h17,C,E,F,G,H,J]
    refine ih h ?_;try simp only[h9,h10,h11,h13,h14,h15,h15n,h17,C,E,F,G,H,J,Y]
   ·try simp only[h9,h10,h11,h13,C,E,F,G,H,J]
    cases h;exact t0
  ·try simp only[hσ,h9,QB,UW,C,E,F,G,H,J]
   cases h;exact t0
theorem A7r{a0}{a1}{a2}{a3}{a4}{a5}{r}(h:M6 a0 a1 a2 a3 a4 a5=N r):FC I 197 [.ag (X6.row a0),.sc (.int .i64 a1),.ag (X5.row a2),.sc (.int .i64 a3),.sc (.sl (Z rI a4)),.sc (.sl (Z rI a5))] [.sc (.o 5 (Z X1.row r))]:=by
 unfold M6 at h;refine Aa A9 be [12] 85 ?_;simp only[be,C,E,F,G,H,J];try simp only[C,E,F,G,H,J]
 refine A8 ?_;try simp only[C,E,F,G,H,J]
 refine A8 ?_;obtain⟨r1,h1,h⟩:=ob h;try simp only[C,E,F,G,H,J]
 refine A4 (iv h1) ?_;obtain⟨h2,h⟩|⟨h2,h⟩:=ic h
 ·obtain⟨r3,h3,h⟩:=ob h;try simp only[h2,C,E,F,G,H,J]
  refine A4 (KX h3) ?_;obtain⟨h4,h⟩|⟨h4,h⟩:=ic h
  ·obtain⟨h5,h⟩|⟨h5,h⟩:=ic h
   ·try simp only[h2,h4,h5,C,E,F,G,H,J]
    cases h;exact t0
   ·obtain⟨r6,h6,h⟩:=ob h;try simp only[h2,h4,h5,C,E,F,G,H,J]
    refine A4 (Xx h6) ?_;try simp only[h2,h4,h5,C,E,F,G,H,J]
    refine AD (es:=Z X1.row ([]:P X1)) ?_;try simp only[h2,h4,h5,C,E,F,G,H,J]
    refine B4r h ?_;try simp only[h2,h4,h5,C,E,F,G,H,J,Y]
  ·try simp only[h2,h4,C,E,F,G,H,J]
   cases h;exact t0
 ·try simp only[h2,C,E,F,G,H,J]
  cases h;exact t0
/- 193:impl_RouteMinutes -/
def QC:X0:=A1 [Ag [2,5,11,12,13] [2] []] (A1 [bn 14 .lss 13 12] (Aw 14 0 1 (A1 [ia 15 11 13 1,ld 16 15,mv 7 16] (Ab [mv 17 7,fa 18 2 1,ld 19 18,ln 20 19,ca 21 94 [S 17,S 20],nt 22 21] 22 (A2 [A5 4 (-1)]) (.reg [mv 23 5,fa 24 2 1,ld 25 24,mv 26 7,ia 27 25 26 5,fa 28 27 3,ld 29 28,bn 30 .add 23 29,mv 5 30]))) (Av 31 13)))
def UX:X0:=(A2 [mv 32 5,mv 4 32])
def bf:X0:=(A1 [bo 2 0,A5 4 0] (Ab [lw 8 2 2,ca 9 93 [S 8],nt 10 9] 10 (A2 [A5 4 (-1)]) (A1 [A5 5 0] (A6 (A1 [mv 11 1,ln 12 11,A5 13 0] (Aj 0 QC)) UX))))
def lP:=fun a1 (a0:X6) (k_:U→U→Q U)=>∀{v3 v4} {zr},k_ v3 v4=N zr→Kp I [2,5,11,12,13] [2] [] ⟨[pB 2,pI 5 v3,pL 11 rI a1,pI 12 (a1.length:U),pI 13 v4],[(2,[aM X9.row a0.Points,aM X3.row a0.Segments])],[]⟩ (.code (.loop QC):: [.blk 0,.code UX]) (Ah [4] [.sc (.v (.int .i64 zr))])
theorem B4s{a1 a0}{n:W}:lP a1 a0 (He a1 a0 n):=by
 induction n with
 | zero=>intro _ _ r h; cases h
 | succ n ih=>
  intro v3 v4 r h σ hσ;rw[He] at h;refine Ak ?_;obtain⟨h5,h⟩|⟨h5,h⟩:=ic h
  ·obtain⟨x6,h6,h⟩:=ob h;obtain⟨r7,h7,h⟩:=ob h;try simp only[hσ,h5,h6,QC,C,E,F,G,H,J]
   refine A4 (Cv h7) ?_;obtain⟨h8,h⟩|⟨h8,h⟩:=ic h
   ·obtain⟨x9,h9,h⟩:=ob h;try simp only[h5,h6,h8,h9,C,E,F,G,H,J]
    refine ih h ?_;try simp only[h5,h6,h8,h9,C,E,F,G,H,J,Y]
   ·try simp only[h5,h6,h8,C,E,F,G,H,J]
    cases h;exact t0
  ·try simp only[hσ,h5,QC,UX,C,E,F,G,H,J]
   cases h;exact t0
theorem A7u{a0}{a1}{r}(h:M8 a0 a1=N r):FC I 193 [.ag (X6.row a0),.sc (.sl (Z rI a1))] [.sc (.v (.int .i64 r))]:=by
 unfold M8 at h;refine Aa A9 bf [4] 33 ?_;simp only[bf,C,E,F,G,H,J];try simp only[C,E,F,G,H,J]
 refine A8 ?_;obtain⟨r1,h1,h⟩:=ob h;try simp only[C,E,F,G,H,J]
 refine A4 (J6 h1) ?_;obtain⟨h2,h⟩|⟨h2,h⟩:=ic h
 ·try simp only[h2,C,E,F,G,H,J]
  refine B4s h ?_;try simp only[h2,C,E,F,G,H,J,Y]
 ·try simp only[h2,C,E,F,G,H,J]
  cases h;exact t0
/- 198:impl_ArrivalOf -/
def bg:X0:=(A1 [bo 4 0,bo 5 1,A5 8 0] (Ab [lw 10 4 2,mv 11 2,ca 12 193 [S 10,S 11],Ae 13 .lss 12 0,mv 14 13,AL 14 L 15 5 6,Am 14 L 16 266 [S 15],AM 14 L 17 16,po 18 14 17,mv 19 18,Af 19 L 20 2,B3 19 L 21 20,AQ 19 L 22 .eql 21 0,po 23 19 22,mv 24 23,Af 24 L 25 2,B3 24 L 26 25,Af 24 L 27 3,B3 24 L 28 27,AI 24 L 29 .neq 26 28,po 30 24 29] 30 (A2 [A5 8 (-1)]) (A1 [mv 31 2,ln 32 31,Ae 33 .sub 32 1,mv 9 33] (Ab [mv 34 3,mv 35 9,ia 36 34 35 1,ld 37 36,ca 38 117 [S 37],nt 39 38] 39 (A2 [A5 8 (-1)]) (A6 (.drw [(N [53],mv 40 3),(N [53],mv 41 9),(N [53],ia 42 40 41 1),(N [53],ld 43 42),o0 (lw 44 5 6),o0 (fa 45 4 1),o0 (ld 46 45),o0 (mv 47 2),o0 (mv 48 9),o0 (ia 49 47 48 1),o0 (ld 50 49),o0 (ia 51 46 50 5),o0 (lw 52 51 5),o0 (ca 53 272 [S 44,S 52]),o0 (bn 54 .add 43 53),o0 (mv 8 54)]) .ret)))))
theorem A69{a0}{a1}{a2}{a3}{r}(h:LN a0 a1 a2 a3=N r):FC I 198 [.ag (X6.row a0),.ag (X5.row a1),.sc (.sl (Z rI a2)),.sc (.sl (Z rI a3))] [.sc (.v (.int .i64 r))]:=by
 unfold LN at h;refine Aa A9 bg [8] 55 ?_;simp only[bg,C,E,F,G,H,J];try simp only[C,E,F,G,H,J]
 refine A8 ?_;try simp only[C,E,F,G,H,J]
 refine A8 ?_;obtain⟨r1,h1,h⟩:=ob h;try simp only[C,E,F,G,H,J]
 refine A4 (A7u h1) ?_;obtain⟨h2,h⟩|⟨h2,h⟩:=ic h
 ·try simp only[h2,C,E,F,G,H,J]
  cases h;exact t0
 ·obtain⟨r3,h3,h⟩:=ob h;try simp only[h2,C,E,F,G,H,J]
  refine A4 (KX h3) ?_;obtain⟨h4,h⟩|⟨h4,h⟩:=ic h
  ·obtain⟨h5,h⟩|⟨h5,h⟩:=ic h
   ·try simp only[h2,h4,h5,C,E,F,G,H,J]
    cases h;exact t0
   ·obtain⟨h6,h⟩|⟨h6,h⟩:=ic h
    ·try simp only[h2,h4,h5,h6,C,E,F,G,H,J]
     cases h;exact t0
    ·obtain⟨x7,h7,h⟩:=ob h;obtain⟨r9,h9,h⟩:=ob h;try simp only[h2,h4,h5,h6,h7,C,E,F,G,H,J]
     refine A4 (FA h9) ?_;obtain⟨h10,h⟩|⟨h10,h⟩:=ic h
     ·try simp only[h2,h4,h5,h6,h7,h10,C,E,F,G,H,J]
      refine Ao ?_;obtain⟨x11,h11,h⟩:=ob h;obtain⟨x12,h12,h⟩:=ob h;obtain⟨r13,h13,h⟩:=ob h;try simp only[h2,h4,h5,h6,h7,h10,h11,h12,C,E,F,G,H,J]
      refine AH (OP h13) ?_;try simp only[h2,h4,h5,h6,h7,h10,h11,h12,C,E,F,G,H,J]
      cases h;exact t0
     ·try simp only[h2,h4,h5,h6,h7,h10,C,E,F,G,H,J]
      cases h;exact t0
  ·try simp only[h2,h4,C,E,F,G,H,J]
   cases h;exact t0
/- 104:impl_option -/
def XS:P (P W × AItem):= [([],(O,.load 72 (S 16) T 4)),([],(O,.faddr 73 (S 16) 1)),([1],(O,.load 74 (S 73) L 1)),([2],(O,.bin 75 .leq (S 74) (K 2880))),([0,0],(O,.store (S 10) (S 72) 4)),([3,4,0,1,2,3,4],(O,.mv 11 (S 75)))]
def QD:X0:=A1 [Ag [10,16,60,61,62] [10,16] [2752]] (A1 [bn 63 .lss 62 61] (Aw 63 0 1 (A1 [ia 64 60 62 1,ld 65 64,mv 18 65] (.reg [fa 66 16 2,ld 67 66,mv 68 18,bn 69 .sub 67 68,fa 70 16 2,so 70 69 1])) (Av 71 62)))
def UY:X0:=(A6 (.any XS) .ret)
def bh:X0:=(A1 [bo 5 0,bo 6 1,bo 7 2,Ai 10 [aI 0,aI 0,aI 0,.nil],A3 11 L] (A1 [lw 20 7 3,mv 21 4,ca 22 196 [S 20,S 21],mv 19 22,xt 23 19 0,xt 24 19 1,mv 12 23,mv 13 24] (Ab [mv 25 13,nt 26 25] 26 (A2 [Bv 27 [aI 0,aI 0,aI 0,.nil] [],so 10 27 4,A3 11 L]) (A1 [fa 28 5 5,ld 29 28,fa 30 6 0,ld 31 30,ia 32 29 31 6,lw 33 32 6,Ai 14 [aS [],aI 0,aI 0,aI 0,aI 0,aB L],so 14 33 6] (A1 [fa 34 5 3,lw 35 34 2,fa 36 6 0,ld 37 36,lw 38 14 6,fa 39 6 1,ld 40 39,mv 41 3,mv 42 12,ca 43 197 [S 35,S 37,S 38,S 40,S 41,S 42],mv 15 43] (A1 [mv 44 4,fa 45 5 3,lw 46 45 2,lw 47 14 6,mv 48 3,mv 49 12,ca 50 198 [S 46,S 47,S 48,S 49],mv 51 15,Bv 52 [aI 0,aI 0,aI 0,.nil] [(0,1,(S 44)),(1,1,(S 50)),(3,1,(S 51))],Ai 16 [aI 0,aI 0,aI 0,.nil],so 16 52 4] (A1 [fa 53 16 1,ld 54 53,fa 55 6 3,ld 56 55,bn 57 .sub 54 56,fa 58 16 2,so 58 57 1] (A6 (A1 [fa 59 7 1,ld 60 59,ln 61 60,A5 62 0] (Aj 0 QD)) UY))))))))
abbrev IZ(a4 r5 v7:U)(c0_ c1_:V)(c2_ c3_ c5_:V)(bx_:P (W × P AC))(rs_:Rows):St:=⟨[(10,vc (.pb 10 0)),(16,vc (.pb 16 0)),(72,bif c0_ then va [aI a4,aI r5,aI v7,.own 2752] else .undef),(73,bif c1_ then vc (.pb 16 1) else .undef),(74,bif c2_ then vc (aI r5) else .undef),(75,bif c3_ then vc (aB (decide (r5≤(2880:U)))) else .undef),(11,bif c5_ then vc (aB (decide (r5≤(2880:U)))) else .undef)],bx_,rs_⟩
abbrev T9(a4 r5:U)(r4:(P X1))(v7:U):St:=(IZ a4 r5 v7 T T T T T [(10,[aI a4,aI r5,aI v7,.own 2752]),(16,[aI a4,aI r5,aI v7,.own 2752])] [(2752,5,Z X1.row r4)])
theorem B4t(a4 r5 r4 v7):∀(f:W) (b1 b2:V) (b3 b5:V),Ce I XS (T9 a4 r5 r4 v7) f [T,b1,b2,b3,T,b5] (IZ a4 r5 v7 T b1 b2 b3 b5 [(10,[aI a4,aI r5,aI v7,.own 2752]),(16,[aI a4,aI r5,aI v7,.own 2752])] [(2752,5,Z X1.row r4)]):=by
 intro f
 induction f with
 | zero=>
  intro b1 b2 b3 b5 h;obtain rfl:b1=T:=zE.1 h b1 (by simp);obtain rfl:b2=T:=zE.1 h b2 (by simp);obtain rfl:b3=T:=zE.1 h b3 (by simp);obtain rfl:b5=T:=zE.1 h b5 (by simp);rfl
 | succ f ih=>
  intro b1 b2 b3 b5;refine EI ⟨?_,?_,?_,?_,?_,?_,⟨⟩⟩<;>try first | (intro h; cases h; done) | (intro h0 hw; obtain rfl:=hz h0 rfl; (try obtain rfl:=hq hw 1 rfl rfl); (try obtain rfl:=hq hw 2 rfl rfl); (try obtain rfl:=hq hw 3 rfl rfl); refine np ?_; simp only[IZ,Cb,Cw,BX,C,E,F,G,H,J]; exact ih _ _ _ _)
theorem B4u(a4 r5 r4 v7):∀(f:W) (b0 b1:V) (b2 b3:V),Ce I XS (T9 a4 r5 r4 v7) f [b0,b1,b2,b3,L,L] (IZ a4 r5 v7 b0 b1 b2 b3 L [(10,[aI (0:U),aI (0:U),aI (0:U),.nil]),(16,[aI a4,aI r5,aI v7,.own 2752])] [(2752,5,Z X1.row r4)]):=by
 intro f
 induction f with
 | zero=>intro b0 b1 b2 b3 h; simp at h
 | succ f ih=>
  intro b0 b1 b2 b3;refine EI ⟨?_,?_,?_,?_,?_,?_,⟨⟩⟩<;>try first | (intro _ hw; simp at hw; done) | (intro h0 hw; obtain rfl:=hz h0 rfl; (try obtain rfl:=hq hw 1 rfl rfl); (try obtain rfl:=hq hw 2 rfl rfl); refine np ?_; simp only[IZ,Cb,Cw,BX,C,E,F,G,H,J]; exact ih _ _ _ _)
  ·intro h0 hw;obtain rfl:=hq hw 0 rfl rfl;refine np ?_;try simp only[IZ,Cb,Cw,BX,C,E,F,G,H,J]
   exact B4t a4 r5 r4 v7 _ b1 b2 b3 L
def lr:=fun(a2:Xi) a4 r5 r4 (k_:U→U→Q (X2 × V))=>∀{v6 v7} {zr},k_ v6 v7=N zr→Kp I [10,16,60,61,62] [10,16] [2752] ⟨[pB 10,pB 16,pL 60 rI a2.minutes,pI 61 (a2.minutes.length:U),pI 62 v6],[(10,[aI (0:U),aI (0:U),aI (0:U),.nil]),(16,[aI a4,aI r5,aI v7,.own 2752])],[(2752,5,Z X1.row r4)]⟩ (.code (.loop QD):: [.blk 0,.code UY]) (Ah [.c 10 T 4,11] [.ag [.v (.int .i64 zr.1.Start),.v (.int .i64 zr.1.Arrival),.v (.int .i64 zr.1.Cost),.o 5 (Z X1.row zr.1.Passages)],.sc (.v (.bool zr.2))])
theorem B4v{a2 a4 r5 r4}{n:W}:lr a2 a4 r5 r4 (FT a2 a4 r5 r4 n):=by
 induction n with
 | zero=>intro _ _ r h; cases h
 | succ n ih=>
  intro v6 v7 r h σ hσ;rw[FT] at h;refine Ak ?_;obtain⟨h8,h⟩|⟨h8,h⟩:=ic h
  ·obtain⟨x9,h9,h⟩:=ob h;try simp only[hσ,h8,h9,QD,C,E,F,G,H,J]
   refine ih h ?_;try simp only[h8,h9,C,E,F,G,H,J,Y]
  ·try simp only[hσ,h8,QD,UY,C,E,F,G,H,J]
   refine W1 (ks:= [10,16]) (bs:= [10,16]) (rs:= [2752]) (τ:=(T9 a4 r5 r4 v7)) X (B4u a4 r5 r4 v7 _ L L L L) ?_;simp only[T9,IZ,Cb];try simp only[h8,C,E,F,G,H,J]
   cases h;try simp only[B7,C,E,F,G,H,J]
   trivial
theorem A8i{a0}{a1}{a2}{a3}{a4}{r}(h:RN a0 a1 a2 a3 a4=N r):FC I 104 [.ag (X7.row a0),.ag (zB a1),.ag (Xi.row a2),.sc (.sl (Z rI a3)),.sc (.int .i64 a4)] [.ag [.v (.int .i64 r.1.Start),.v (.int .i64 r.1.Arrival),.v (.int .i64 r.1.Cost),.o 5 (Z X1.row r.1.Passages)],.sc (.v (.bool r.2))]:=by
 unfold RN at h;refine Aa A9 bh [.c 10 T 4,11] 76 ?_;simp only[bh,C,E,F,G,H,J];try simp only[C,E,F,G,H,J]
 refine A8 ?_;try simp only[C,E,F,G,H,J]
 refine A8 ?_;try simp only[C,E,F,G,H,J]
 refine A8 ?_;try simp only[C,E,F,G,H,J]
 refine Al ?_;obtain⟨r1,h1,h⟩:=ob h;try simp only[C,E,F,G,H,J]
 refine A4 (A8n h1) ?_;obtain⟨h2,h⟩|⟨h2,h⟩:=ic h
 ·obtain⟨x3,h3,h⟩:=ob h;try simp only[h2,h3,C,E,F,G,H,J]
  refine Al ?_;obtain⟨r4,h4,h⟩:=ob h;try simp only[h2,h3,C,E,F,G,H,J]
  refine B8 (A7r h4) X (BQ X ⟨AZ,⟨⟩⟩) X (uf X) ?_;obtain⟨r5,h5,h⟩:=ob h;try simp only[h2,h3,C,E,F,G,H,J]
  refine B8 (A69 h5) X (BK X) X (uf X) ?_;try simp only[h2,h3,C,E,F,G,H,J]
  refine Al ?_;try simp only[h2,h3,C,E,F,G,H,J]
  refine B4v h ?_;try simp only[h2,h3,C,E,F,G,H,J,Y]
 ·try simp only[h2,C,E,F,G,H,J]
  cases h;try simp only[B7,C,E,F,G,H,J]
  trivial
/- 199:impl_OptionAt -/
def QE:X0:=A1 [Ag [2,3,4,5,8,25] [4,5,8] []] (At 25 (A2 [Bv 26 [aI 0,aI 0,aI 0,.nil] [],so 8 26 4,A3 9 L]))
def UZ:X0:=(A1 [lw 28 4 12,lw 29 5 5,mv 30 2,ca 31 103 [S 28,S 29,S 30],mv 27 31,xt 32 27 0,xt 33 27 1,Ai 10 [.nil,.nil,.nil],so 10 32 3,mv 11 33] (Ab [mv 34 11,nt 35 34] 35 (A2 [Bv 36 [aI 0,aI 0,aI 0,.nil] [],so 8 36 4,A3 9 L]) (A1 [lw 38 4 12,lw 39 5 5,lw 40 10 3,mv 41 2,mv 42 3,ca 43 104 [S 38,S 39,S 40,S 41,S 42],mv 37 43,xt 44 37 0,xt 45 37 1,Ai 12 [aI 0,aI 0,aI 0,.nil],so 12 44 4,mv 11 45] (Ab [mv 46 11,nt 47 46] 47 (A2 [Bv 48 [aI 0,aI 0,aI 0,.nil] [],so 8 48 4,A3 9 L]) (A2 [lw 49 12 4,so 8 49 4,A3 9 T])))))
def bk:X0:=(A1 [bo 4 0,bo 5 1,Ai 8 [aI 0,aI 0,aI 0,.nil],A3 9 L] (A6 (A1 [lw 13 4 12,lw 14 5 5,ca 15 99 [S 13,S 14],nt 16 15,mv 17 16,Af 17 L 18 3,Ac 17 L 19 5 3,Ad 17 L 20 19,Ac 17 L 21 5 4,Ad 17 L 22 21,Am 17 L 23 114 [S 18,S 20,S 22],AM 17 L 24 23,po 25 17 24] QE) UZ))
def lM:=fun a2 a3 (a0:X7) (a1:Xa) (k_:V→Q (X2 × V))=>∀{v4} {zr},k_ v4=N zr→Kp I [2,3,4,5,8,25] [4,5,8] [] ⟨[pL 2 rI a2,pI 3 a3,pB 4,pB 5,pB 8,(25,vc (aB v4))],[(4,([aI a0.Forecast.Tide.Mean,aM zC a0.Forecast.Tide.Parts,aM zD a0.Forecast.Surges,aM X9.row a0.Chart.Points,aM X3.row a0.Chart.Segments,aM X5.row a0.Fleet,aI a0.Regime.Gap,aB a0.Regime.NoMeet]++dm a0.Crew.row)),(5,(dm a1.row)),(8,[aI (0:U),aI (0:U),aI (0:U),.nil])],[]⟩ (.code QE:: [.code UZ]) (Ah [.c 8 T 4,9] [.ag [.v (.int .i64 zr.1.Start),.v (.int .i64 zr.1.Arrival),.v (.int .i64 zr.1.Cost),.o 5 (Z X1.row zr.1.Passages)],.sc (.v (.bool zr.2))])
theorem jm{a2 a3 a0 a1}:lM a2 a3 a0 a1 (M3 a2 a3 a0 a1):=by
 intro v4 r h σ hσ;unfold M3 at h;obtain⟨h5,h⟩|⟨h5,h⟩:=ic h
 ·try simp only[hσ,h5,QE,C,E,F,G,H,J]
  cases h;try simp only[B7,C,E,F,G,H,J]
  trivial
 ·obtain⟨r6,h6,h⟩:=ob h;try simp only[hσ,h5,QE,UZ,C,E,F,G,H,J]
  refine A4 (A78 h6) ?_;try simp only[h5,C,E,F,G,H,J]
  refine Al ?_;obtain⟨h7,h⟩|⟨h7,h⟩:=ic h
  ·obtain⟨r9,h9,h⟩:=ob h;try simp only[h5,h7,C,E,F,G,H,J]
   refine B8 (A8i h9) X (BQ X ⟨X,X,X,AZ,X,⟨⟩⟩) X (uf X) ?_;try simp only[h5,h7,C,E,F,G,H,J]
   refine Al ?_;obtain⟨h10,h⟩|⟨h10,h⟩:=ic h
   ·try simp only[h5,h7,h10,C,E,F,G,H,J]
    cases h;try simp only[B7,C,E,F,G,H,J]
    trivial
   ·try simp only[h5,h7,h10,C,E,F,G,H,J]
    cases h;try simp only[B7,C,E,F,G,H,J]
    trivial
  ·try simp only[h5,h7,C,E,F,G,H,J]
   cases h;try simp only[B7,C,E,F,G,H,J]
   trivial
theorem A7o{a0}{a1}{a2}{a3}{r}(h:JD a0 a1 a2 a3=N r):FC I 199 [.ag (X7.row a0),.ag (zB a1),.sc (.sl (Z rI a2)),.sc (.int .i64 a3)] [.ag [.v (.int .i64 r.1.Start),.v (.int .i64 r.1.Arrival),.v (.int .i64 r.1.Cost),.o 5 (Z X1.row r.1.Passages)],.sc (.v (.bool r.2))]:=by
 unfold JD at h;refine Aa A9 bk [.c 8 T 4,9] 50 ?_;simp only[bk,C,E,F,G,H,J];try simp only[C,E,F,G,H,J]
 refine A8 ?_;try simp only[C,E,F,G,H,J]
 refine A8 ?_;try simp only[C,E,F,G,H,J]
 refine Al ?_;obtain⟨r1,h1,h⟩:=ob h;try simp only[C,E,F,G,H,J]
 refine A4 (A7a h1) ?_;obtain⟨h2,h⟩|⟨h2,h⟩:=ic h
 ·obtain⟨r3,h3,h⟩:=ob h;try simp only[h2,C,E,F,G,H,J]
  refine A4 (Ci h3) ?_;try simp only[h2,C,E,F,G,H,J]
  refine jm h ?_;try simp only[h2,C,E,F,G,H,J,Y]
 ·try simp only[h2,C,E,F,G,H,J]
  refine jm h ?_;try simp only[h2,C,E,F,G,H,J,Y]
/- 276:slices_Equal_Passage -/
def QF:X0:=A1 [Ag [0,1,12,13] [] []] (A1 [bn 14 .lss 13 12] (Aw 14 0 1 (A1 [mv 15 13,mv 5 15] (A6 (.drw [o0 (mv 16 0),o0 (mv 17 5),o0 (ia 18 16 17 5),o0 (lw 19 18 5),o0 (mv 20 1),o0 (mv 21 5),o0 (ia 22 20 21 5),o0 (lw 23 22 5),o0 (O,.geq 24 T [.i,.i,.b,.i,.i] (S 19) (S 23))]) (At 24 (A2 [A3 4 L])))) (Av 25 13)))
def V0:X0:=(A2 [A3 4 T])
def bl:X0:=(A1 [A3 4 L] (Ab [mv 6 0,ln 7 6,mv 8 1,ln 9 8,bn 10 .neq 7 9] 10 (A2 [A3 4 L]) (A6 (A1 [mv 11 0,ln 12 11,A5 13 0] (Aj 0 QF)) V0)))
def mw:=fun a0 a1 (k_:U→Q V)=>∀{v2} {zr},k_ v2=N zr→Kp I [0,1,12,13] [] [] ⟨[pL 0 X1.row a0,pL 1 X1.row a1,pI 12 (a0.length:U),pI 13 v2],[],[]⟩ (.code (.loop QF):: [.blk 0,.code V0]) (Ah [4] [.sc (.v (.bool zr))])
theorem B4w{a0 a1}{n:W}:mw a0 a1 (I2 a0 a1 n):=by
 induction n with
 | zero=>intro _ r h; cases h
 | succ n ih=>
  intro v2 r h σ hσ;rw[I2] at h;refine Ak ?_;obtain⟨h3,h⟩|⟨h3,h⟩:=ic h
  ·try simp only[hσ,h3,QF,C,E,F,G,H,J]
   refine Ao ?_;obtain⟨x4,h4,h⟩:=ob h;obtain⟨x5,h5,h⟩:=ob h;obtain⟨h6,h⟩|⟨h6,h⟩:=ic h
   ·try simp only[h3,h4,h5,h6,C,E,F,G,H,J]
    refine ih h ?_;try simp only[h3,h4,h5,h6,C,E,F,G,H,J,Y]
   ·try simp only[h3,h4,h5,h6,C,E,F,G,H,J]
    cases h;exact t0
  ·try simp only[hσ,h3,QF,V0,C,E,F,G,H,J]
   cases h;exact t0
theorem B0s{a0}{a1}{r}(h:Sc a0 a1=N r):FC I 276 [.sc (.sl (Z X1.row a0)),.sc (.sl (Z X1.row a1))] [.sc (.v (.bool r))]:=by
 unfold Sc at h;refine Aa A9 bl [4] 26 ?_;simp only[bl,C,E,F,G,H,J];obtain⟨h1,h⟩|⟨h1,h⟩:=ic h
 ·try simp only[h1,C,E,F,G,H,J]
  cases h;exact t0
 ·try simp only[h1,C,E,F,G,H,J]
  refine B4w h ?_;try simp only[h1,C,E,F,G,H,J,Y]
/- 200:impl_SameOptions -/
def bp:X0:=(A1 [bo 2 0,bo 3 1,A3 4 L] (A2 [fa 5 2 0,ld 6 5,fa 7 3 0,ld 8 7,bn 9 .eql 6 8,mv 10 9,Ac 10 T 11 2 1,Ad 10 T 12 11,Ac 10 T 13 3 1,Ad 10 T 14 13,AI 10 T 15 .eql 12 14,pa 16 10 15,mv 17 16,Ac 17 T 18 2 2,Ad 17 T 19 18,Ac 17 T 20 3 2,Ad 17 T 21 20,AI 17 T 22 .eql 19 21,pa 23 17 22,mv 24 23,Ac 24 T 25 2 3,Ad 24 T 26 25,Ac 24 T 27 3 3,Ad 24 T 28 27,Am 24 T 29 276 [S 26,S 28],pa 30 24 29,mv 4 30]))
theorem A7v{a0}{a1}{r}(h:Hf a0 a1=N r):FC I 200 [.ag (X2.row a0),.ag (X2.row a1)] [.sc (.v (.bool r))]:=by
 unfold Hf at h;refine Aa A9 bp [4] 31 ?_;simp only[bp,C,E,F,G,H,J];try simp only[C,E,F,G,H,J]
 refine A8 ?_;try simp only[C,E,F,G,H,J]
 refine A8 ?_;obtain⟨h1,h⟩|⟨h1,h⟩:=ic h
 ·obtain⟨h2,h⟩|⟨h2,h⟩:=ic h
  ·obtain⟨h3,h⟩|⟨h3,h⟩:=ic h
   ·obtain⟨r4,h4,h⟩:=ob h;try simp only[h1,h2,h3,C,E,F,G,H,J]
    refine A4 (B0s h4) ?_;try simp only[h1,h2,h3,C,E,F,G,H,J]
    cases h;exact t0
   ·try simp only[h1,h2,h3,C,E,F,G,H,J]
    cases h;exact t0
  ·try simp only[h1,h2,C,E,F,G,H,J]
   cases h;exact t0
 ·try simp only[h1,C,E,F,G,H,J]
  cases h;exact t0
end Go.Vi
