/-
Walks. No condition.
-/
import Derived.Test.YthkepjhahmknfaaGreatDoorLNf
import Derived.Test.YthkepjhahmknfaaGreatDoorChecked
import Derived.Test.YthkepjhahmknfaaGreatDoorLSh
import Derived.KernelRfl
import Derived.Test.YthkepjhahmknfaaGreatDoorLWPlanLinesa
namespace Go.Vi
open Go.Proofs
set_option linter.all false
set_option maxRecDepth 4000
set_option maxHeartbeats 2000000
open Nat renaming reduceBEq → C, reduceMul → E, reduceAdd → F, reduceDiv → G, le_of_ble_eq_true → uf
open Int renaming reduceBEq → H
attribute [local irreducible] go Bk
open List renaming map_nil → Z, map → I, cons_append → zF, nil_append → zG, all_eq_true → zH
open Tryz renaming prog → zA
open Int renaming toNat → zB
open Xa renaming row → zC
open Xd renaming row → zD
open Xb renaming row → zE
open Xc renaming row → zI
open IntKind renaming wrap → zJ
open Bool renaming true → T, false → L
open Option renaming some → N, none → O
open _root_ renaming List → P, Option → Q, Int → U, Bool → V, Nat → W, UInt8 → X, rfl → Y
/- 194:spec_PassageOk -/
def aQ:X0:=(A1 [bo 3 0,bo 5 2,A3 6 L] (Aa [lw 7 3 2,ca 8 114 [S 7],nt 9 8,mv 10 9,Af 10 L 11 1,Ak 10 L 12 115 [S 11],AN 10 L 13 12,po 14 10 13,mv 15 14,Ab 15 L 16 5 0,Ad 15 L 17 16,Af 15 L 18 1,B1 15 L 19 18,AP 15 L 20 .sub 19 1,Ak 15 L 21 118 [S 17,K 0,S 20],AN 15 L 22 21,po 23 15 22,mv 24 23,Ab 24 L 25 5 1,Ad 24 L 26 25,Ab 24 L 27 3 1,Ad 24 L 28 27,B1 24 L 29 28,AP 24 L 30 .sub 29 1,Ak 24 L 31 118 [S 26,K 0,S 30],AN 24 L 32 31,po 33 24 32,mv 34 33,Ab 34 L 35 5 3,Ad 34 L 36 35,Ak 34 L 37 118 [S 36,K 0,K 2880],AN 34 L 38 37,po 39 34 38] 39 (A2 [A3 6 L]) (A5 (.drw [(N [52],fa 40 5 4),(N [52],ld 41 40),(N [52],fa 42 5 3),(N [52],ld 43 42),o0 (lw 44 3 2),o0 (fa 45 5 1),o0 (ld 46 45),o0 (mv 47 1),o0 (fa 48 5 0),o0 (ld 49 48),o0 (ia 50 47 49 6),o0 (lw 51 50 6),o0 (ca 52 220 [S 44,S 46,S 51]),o0 (bn 53 .add 43 52),o0 (bn 54 .eql 41 53),o0 (mv 55 54),o0 (Ab 55 T 56 5 4),o0 (Ad 55 T 57 56),o0 (AP 55 T 58 .leq 57 2880),o0 (pa 59 55 58),o0 (mv 6 59)]) .ret)))
theorem jv{a0}{a1}{a2}{r}(h:Km a0 a1 a2=N r):FC zA 194 [.ag (X6.row a0),.sc (.sl (I X5.row a1)),.ag (X1.row a2)] [.sc (.v (.bool r))]:=by
 unfold Km at h;refine A9 mixed aQ [6] 60 ?_;simp only[aQ,C,E,F,G,H,J];try simp only[C,E,F,G,H,J]
 refine A8 ?_;try simp only[C,E,F,G,H,J]
 refine A8 ?_;obtain⟨r1,h1,h⟩:=ob h;try simp only[C,E,F,G,H,J]
 refine A4 (GN h1) ?_;obtain⟨h2,h⟩|⟨h2,h⟩:=ic h
 ·obtain⟨r3,h3,h⟩:=ob h;try simp only[h2,C,E,F,G,H,J]
  refine A4 (jm h3) ?_;obtain⟨h4,h⟩|⟨h4,h⟩:=ic h
  ·obtain⟨r5,h5,h⟩:=ob h;try simp only[h2,h4,C,E,F,G,H,J]
   refine A4 (AU h5) ?_;obtain⟨h6,h⟩|⟨h6,h⟩:=ic h
   ·obtain⟨r7,h7,h⟩:=ob h;try simp only[h2,h4,h6,C,E,F,G,H,J]
    refine A4 (AU h7) ?_;obtain⟨h8,h⟩|⟨h8,h⟩:=ic h
    ·obtain⟨r9,h9,h⟩:=ob h;try simp only[h2,h4,h6,h8,C,E,F,G,H,J]
     refine A4 (AU h9) ?_;obtain⟨h10,h⟩|⟨h10,h⟩:=ic h
     ·try simp only[h2,h4,h6,h8,h10,C,E,F,G,H,J]
      refine An ?_;obtain⟨x11,h11,h⟩:=ob h;obtain⟨r12,h12,h⟩:=ob h;try simp only[h2,h4,h6,h8,h10,h11,C,E,F,G,H,J]
      refine AF (jr h12) ?_;obtain⟨h13,h⟩|⟨h13,h⟩:=ic h
      ·try simp only[h2,h4,h6,h8,h10,h11,h13,C,E,F,G,H,J]
       cases h;exact t0
      ·try simp only[h2,h4,h6,h8,h10,h11,h13,C,E,F,G,H,J]
       cases h;exact t0
     ·try simp only[h2,h4,h6,h8,h10,C,E,F,G,H,J]
      cases h;exact t0
    ·try simp only[h2,h4,h6,h8,C,E,F,G,H,J]
     cases h;exact t0
   ·try simp only[h2,h4,h6,C,E,F,G,H,J]
    cases h;exact t0
  ·try simp only[h2,h4,C,E,F,G,H,J]
   cases h;exact t0
 ·try simp only[h2,C,E,F,G,H,J]
  cases h;exact t0
/- 195:spec_l08Ends -/
def aT:X0:=(A1 [bo 2 0,bo 3 1,A6 4 0,A6 5 0] (A1 [fa 7 2 1,ld 8 7,fa 9 3 1,ld 10 9,ia 11 8 10 5,lw 12 11 5,Al 6 [aI 0,aI 0,aI 0,aI 0,aB L],so 6 12 5] (Aa [fa 13 3 2,ld 14 13] 14 (A5 (.drw [o0 (fa 15 6 0),o0 (ld 16 15),o0 (fa 17 6 1),o0 (ld 18 17),o0 (mv 4 16),o0 (mv 5 18)]) .ret) (A5 (.drw [o0 (fa 19 6 1),o0 (ld 20 19),o0 (fa 21 6 0),o0 (ld 22 21),o0 (mv 4 20),o0 (mv 5 22)]) .ret))))
theorem OT{a0}{a1}{r}(h:Ff a0 a1=N r):FC zA 195 [.ag (X6.row a0),.ag (X1.row a1)] [.sc (.v (.int .i64 r.1)),.sc (.v (.int .i64 r.2))]:=by
 unfold Ff at h;refine A9 mixed aT [4,5] 23 ?_;simp only[aT,C,E,F,G,H,J];try simp only[C,E,F,G,H,J]
 refine A8 ?_;try simp only[C,E,F,G,H,J]
 refine A8 ?_;obtain⟨x1,h1,h⟩:=ob h;try simp only[h1,C,E,F,G,H,J]
 refine Am ?_;obtain⟨h2,h⟩|⟨h2,h⟩:=ic h
 ·try simp only[h1,h2,C,E,F,G,H,J]
  refine An ?_;try simp only[h1,h2,C,E,F,G,H,J]
  cases h;trivial
 ·try simp only[h1,h2,C,E,F,G,H,J]
  refine An ?_;try simp only[h1,h2,C,E,F,G,H,J]
  cases h;trivial
/- 164:spec_l14Tugs -/
def Ln:X0:=A1 [Ae [1,3,8,10,11,12,13,15,16,17] [3,10] [896]] (A5 (A1 [mv 32 13,mv 33 1,fa 34 10 0,ld 35 34,ia 36 33 35 6,fa 37 36 4,ld 38 37,bn 39 .lss 32 38] (AL 39 .skip (.exit 2))) (A5 (.block 3 (.reg [mv 42 8,fa 43 10 3,ld 44 43,fa 45 10 4,ld 46 45,mv 47 11,mv 48 12,BH 49 [aI 0,aI 0,aI 0,aI 0] [(0,1,(S 44)),(1,1,(S 46)),(2,1,(S 47)),(3,1,(S 48))],AD 50 4 [.int .i64 0,.int .i64 0,.int .i64 0,.int .i64 0] 1 [(0,(S 49))],Be 51 4 32 42 50,mv 8 51])) (.reg [mv 40 13,Ac 41 .add 40 1,mv 13 41])))
def PR:X0:=(A1 [mv 52 8,ln 53 52,Ac 54 .gtr 53 12] (Aq 54 (A2 [Ay 6,A3 7 L])))
def Ut:X0:=(Au 55 17)
def Lo:X0:=A1 [Ae [1,3,8,15,16,17] [3] [896]] (A1 [bn 18 .lss 17 16] (Av 18 0 1 (A1 [ia 19 15 17 5,lw 20 19 5,Al 10 [aI 0,aI 0,aB L,aI 0,aI 0],so 10 20 5] (Aa [lw 21 3 2,mv 22 1,lw 23 10 5,ca 24 194 [S 21,S 22,S 23],nt 25 24] 25 (A2 [Ay 6,A3 7 L]) (A1 [lw 27 3 2,lw 28 10 5,ca 29 195 [S 27,S 28],mv 26 29,xt 30 26 0,xt 31 26 1,mv 11 30,mv 12 31] (A5 (A1 [A6 13 0] (Ah 2 Ln)) PR)))) Ut))
def PS:X0:=(A2 [mv 56 8,mv 6 56,A3 7 T])
def aU:X0:=(A1 [bo 3 0,Ay 6,A3 7 L] (A1 [AD 14 4 [.int .i64 0,.int .i64 0,.int .i64 0,.int .i64 0] 0 [],mv 8 14] (A5 (A1 [mv 15 2,ln 16 15,A6 17 0] (Ah 0 Lo)) PS)))
def om:=fun a1 (r7:U × U) a2 v1 (a0:X6) (x4:X1) (k_:U→(P X8)→Q ((P X8) × V))=>∀{v8 v9} {zr},k_ v8 v9=N zr→Kp zA [1,3,8,10,11,12,13,15,16,17] [3,10] [896] ⟨[pL 1 X5.row a1,pB 3,pW 8 896,pB 10,pI 11 r7.1,pI 12 r7.2,pI 13 v8,pL 15 X1.row a2,pI 16 (a2.length:U),pI 17 v1],[(3,[aM X9.row a0.Points,aM X3.row a0.Segments]),(10,(dm x4.row))],[(896,4,I X8.row v9)]⟩ (.code (.loop Ln):: [.blk 2,.code PR,.blk 1,.code Ut,.code (.loop Lo),.blk 0,.code PS]) (Ag [6,7] [.sc (.o 4 (I X8.row zr.1)),.sc (.v (.bool zr.2))])
def YF:=fun a1 a2 (a0:X6) (k_:U→(P X8)→Q ((P X8) × V))=>∀{v1 v2} {zr},k_ v1 v2=N zr→Kp zA [1,3,8,15,16,17] [3] [896] ⟨[pL 1 X5.row a1,pB 3,pW 8 896,pL 15 X1.row a2,pI 16 (a2.length:U),pI 17 v1],[(3,[aM X9.row a0.Points,aM X3.row a0.Segments])],[(896,4,I X8.row v2)]⟩ (.code (.loop Lo):: [.blk 0,.code PS]) (Ag [6,7] [.sc (.o 4 (I X8.row zr.1)),.sc (.v (.bool zr.2))])
theorem B5d{a1 r7 a2 v1 a0 x4}{Oj}(xf:YF a1 a2 a0 Oj){n:W}:om a1 r7 a2 v1 a0 x4 (Gl a1 r7 a2 v1 a0 x4 Oj n):=by
 induction n with
 | zero=>intro _ _ r h; cases h
 | succ n ih=>
  intro v8 v9 r h σ hσ;rw[Gl] at h;refine Ai ?_;obtain⟨x10,h10,h⟩:=ob h;obtain⟨h11,h⟩|⟨h11,h⟩:=ic h
  ·try simp only[hσ,h10,h11,Ln,C,E,F,G,H,J]
   refine Ax (es:=I X8.row ([(⟨x4.Start,x4.End,r7.1,r7.2⟩:X8)]:P X8)) ?_;obtain⟨h12,h⟩:=AT h;try simp only[h10,h11,h12,C,E,F,G,H,J]
   refine ih h ?_;try simp only[h10,h11,h12,C,E,F,G,H,J,pL,aM,Z]
  ·obtain⟨h13,h⟩|⟨h13,h⟩:=ic h
   ·try simp only[hσ,h10,h11,h13,Ln,PR,C,E,F,G,H,J]
    cases h;trivial
   ·try simp only[hσ,h10,h11,h13,Ln,PR,Ut,C,E,F,G,H,J]
    refine xf h ?_;try simp only[h10,h11,h13,C,E,F,G,H,J,pL,aM,Z]
theorem B5e{a1 a2 a0}{n:W}:YF a1 a2 a0 (Fh a1 a2 a0 n):=by
 induction n with
 | zero=>intro _ _ r h; cases h
 | succ n ih=>
  intro v1 v2 r h σ hσ;rw[Fh] at h;refine Ai ?_;obtain⟨h3,h⟩|⟨h3,h⟩:=ic h
  ·obtain⟨x4,h4,h⟩:=ob h;try simp only[hσ,h3,h4,Lo,C,E,F,G,H,J]
   refine Am ?_;obtain⟨r5,h5,h⟩:=ob h;try simp only[h3,h4,C,E,F,G,H,J]
   refine A4 (jv h5) ?_;obtain⟨h6,h⟩|⟨h6,h⟩:=ic h
   ·obtain⟨r7,h7,h⟩:=ob h;try simp only[h3,h4,h6,C,E,F,G,H,J]
    refine A4 (OT h7) ?_;try simp only[h3,h4,h6,C,E,F,G,H,J]
    refine B5d ih h ?_;try simp only[h3,h4,h6,C,E,F,G,H,J,pL,aM,Z]
   ·try simp only[h3,h4,h6,C,E,F,G,H,J]
    cases h;trivial
  ·try simp only[hσ,h3,Lo,PS,C,E,F,G,H,J]
   cases h;trivial
theorem B3v{a0}{a1}{a2}{r}(h:Sw a0 a1 a2=N r):FC zA 164 [.ag (X6.row a0),.sc (.sl (I X5.row a1)),.sc (.sl (I X1.row a2))] [.sc (.o 4 (I X8.row r.1)),.sc (.v (.bool r.2))]:=by
 unfold Sw at h;refine A9 mixed aU [6,7] 57 ?_;simp only[aU,C,E,F,G,H,J];try simp only[C,E,F,G,H,J]
 refine A8 ?_;try simp only[C,E,F,G,H,J]
 refine Ax (es:=I X8.row ([]:P X8)) ?_;try simp only[C,E,F,G,H,J]
 refine B5e h ?_;try simp only[C,E,F,G,H,J,pL,aM,Z]
/- 221:spec_l13Duty -/
def aV:X0:=(A1 [bo 1 0,A3 2 L] (A2 [fa 3 1 0,ld 4 3,ca 5 118 [S 4,K 0,K 2880],mv 6 5,Ab 6 T 7 1 1,Ad 6 T 8 7,Ab 6 T 9 1 0,Ad 6 T 10 9,AK 6 T 11 .gtr 8 10,pa 12 6 11,mv 13 12,Ab 13 T 14 1 1,Ad 13 T 15 14,AP 13 T 16 .leq 15 2880,pa 17 13 16,mv 18 17,Ab 18 T 19 1 2,Ad 18 T 20 19,Ak 18 T 21 118 [S 20,K 0,K 7],pa 22 18 21,mv 23 22,Ab 23 T 24 1 3,Ad 23 T 25 24,Ak 23 T 26 118 [S 25,K 0,K 7],pa 27 23 26,mv 2 27]))
theorem Y6{a0}{r}(h:II a0=N r):FC zA 221 [.ag (X8.row a0)] [.sc (.v (.bool r))]:=by
 unfold II at h;refine A9 mixed aV [2] 28 ?_;simp only[aV,C,E,F,G,H,J];try simp only[C,E,F,G,H,J]
 refine A8 ?_;obtain⟨r1,h1,h⟩:=ob h;try simp only[C,E,F,G,H,J]
 refine A4 (AU h1) ?_;obtain⟨h2,h⟩|⟨h2,h⟩:=ic h
 ·obtain⟨h3,h⟩|⟨h3,h⟩:=ic h
  ·obtain⟨h4,h⟩|⟨h4,h⟩:=ic h
   ·obtain⟨r5,h5,h⟩:=ob h;try simp only[h2,h3,h4,C,E,F,G,H,J]
    refine A4 (AU h5) ?_;obtain⟨h6,h⟩|⟨h6,h⟩:=ic h
    ·obtain⟨r7,h7,h⟩:=ob h;try simp only[h2,h3,h4,h6,C,E,F,G,H,J]
     refine A4 (AU h7) ?_;try simp only[h2,h3,h4,h6,C,E,F,G,H,J]
     cases h;exact t0
    ·try simp only[h2,h3,h4,h6,C,E,F,G,H,J]
     cases h;exact t0
   ·try simp only[h2,h3,h4,C,E,F,G,H,J]
    cases h;exact t0
  ·try simp only[h2,h3,C,E,F,G,H,J]
   cases h;exact t0
 ·try simp only[h2,C,E,F,G,H,J]
  cases h;exact t0
/- 196:spec_DutiesOk -/
def PU:X0:=A1 [Ae [8,9,10] [] []] (A1 [bn 11 .lss 10 9] (Av 11 0 1 (A1 [ia 12 8 10 4,lw 13 12 4,Al 4 [aI 0,aI 0,aI 0,aI 0],so 4 13 4] (A1 [lw 14 4 4,ca 15 221 [S 14],nt 16 15] (Aq 16 (A2 [A3 2 L])))) (Au 17 10)))
def Uu:X0:=(A2 [A3 2 T])
def aW:X0:=(A1 [A3 2 L] (Aa [mv 5 0,ln 6 5,Ac 7 .gtr 6 12] 7 (A2 [A3 2 L]) (A5 (A1 [mv 8 0,ln 9 8,A6 10 0] (Ah 0 PU)) Uu)))
def nk:=fun a0 (k_:U→Q V)=>∀{v2} {zr},k_ v2=N zr→Kp zA [8,9,10] [] [] ⟨[pL 8 X8.row a0,pI 9 (a0.length:U),pI 10 v2],[],[]⟩ (.code (.loop PU):: [.blk 0,.code Uu]) (Ag [2] [.sc (.v (.bool zr))])
theorem B5f{a0}{n:W}:nk a0 (Ii a0 n):=by
 induction n with
 | zero=>intro _ r h; cases h
 | succ n ih=>
  intro v2 r h σ hσ;rw[Ii] at h;refine Ai ?_;obtain⟨h3,h⟩|⟨h3,h⟩:=ic h
  ·obtain⟨x4,h4,h⟩:=ob h;try simp only[hσ,h3,h4,PU,C,E,F,G,H,J]
   refine Am ?_;obtain⟨r5,h5,h⟩:=ob h;try simp only[h3,h4,C,E,F,G,H,J]
   refine A4 (Y6 h5) ?_;obtain⟨h6,h⟩|⟨h6,h⟩:=ic h
   ·try simp only[h3,h4,h6,C,E,F,G,H,J]
    refine ih h ?_;try simp only[h3,h4,h6,C,E,F,G,H,J,pL,aM,Z]
   ·try simp only[h3,h4,h6,C,E,F,G,H,J]
    cases h;exact t0
  ·try simp only[hσ,h3,PU,Uu,C,E,F,G,H,J]
   cases h;exact t0
theorem B2o{a0}{r}(h:Nt a0=N r):FC zA 196 [.sc (.sl (I X8.row a0))] [.sc (.v (.bool r))]:=by
 unfold Nt at h;refine A9 mixed aW [2] 18 ?_;simp only[aW,C,E,F,G,H,J];obtain⟨h1,h⟩|⟨h1,h⟩:=ic h
 ·try simp only[h1,C,E,F,G,H,J]
  cases h;exact t0
 ·try simp only[h1,C,E,F,G,H,J]
  refine B5f h ?_;try simp only[h1,C,E,F,G,H,J,pL,aM,Z]
/- 242:spec_Gap -/
def PV:X0:=A1 [Ae [0,1,6,7,25] [6,7] []] (Aq 25 (A2 [A6 8 0,A3 9 L]))
def Uv:X0:=(A2 [mv 26 0,mv 27 1,fa 28 6 3,ld 29 28,Ac 30 .mul 29 8,fa 31 7 2,ld 32 31,bn 33 .add 30 32,ia 34 27 33 1,ld 35 34,bn 36 .add 26 35,mv 8 36,A3 9 T])
def aX:X0:=(A1 [bo 6 2,bo 7 3,A6 8 0,A3 9 L] (A5 (A1 [mv 10 0,mv 11 1,ca 12 154 [S 10,S 11],nt 13 12,mv 14 13,Ab 14 L 15 6 3,Ad 14 L 16 15,Ak 14 L 17 118 [S 16,K 0,K 7],AN 14 L 18 17,po 19 14 18,mv 20 19,Ab 20 L 21 7 2,Ad 20 L 22 21,Ak 20 L 23 118 [S 22,K 0,K 7],AN 20 L 24 23,po 25 20 24] PV) Uv))
def nu:=fun a0 a1 (a2:X8) (a3:X8) (k_:V→Q (U × V))=>∀{v6} {zr},k_ v6=N zr→Kp zA [0,1,6,7,25] [6,7] [] ⟨[pI 0 a0,pL 1 rI a1,pB 6,pB 7,(25,vc (aB v6))],[(6,(dm a2.row)),(7,(dm a3.row))],[]⟩ (.code PV:: [.code Uv]) (Ag [8,9] [.sc (.v (.int .i64 zr.1)),.sc (.v (.bool zr.2))])
theorem Yd{a0 a1 a2 a3}:nu a0 a1 a2 a3 (Kf a0 a1 a2 a3):=by
 intro v6 r h σ hσ;unfold Kf at h;obtain⟨h7,h⟩|⟨h7,h⟩:=ic h
 ·try simp only[hσ,h7,PV,C,E,F,G,H,J]
  cases h;trivial
 ·obtain⟨x8,h8,h⟩:=ob h;try simp only[hσ,h7,h8,PV,Uv,C,E,F,G,H,J]
  cases h;trivial
theorem B2r{a0}{a1}{a2}{a3}{r}(h:Sn a0 a1 a2 a3=N r):FC zA 242 [.sc (.int .i64 a0),.sc (.sl (I rI a1)),.ag (X8.row a2),.ag (X8.row a3)] [.sc (.v (.int .i64 r.1)),.sc (.v (.bool r.2))]:=by
 unfold Sn at h;refine A9 mixed aX [8,9] 37 ?_;simp only[aX,C,E,F,G,H,J];try simp only[C,E,F,G,H,J]
 refine A8 ?_;try simp only[C,E,F,G,H,J]
 refine A8 ?_;obtain⟨r1,h1,h⟩:=ob h;try simp only[C,E,F,G,H,J]
 refine A4 (Y7 h1) ?_;obtain⟨h2,h⟩|⟨h2,h⟩:=ic h
 ·obtain⟨r3,h3,h⟩:=ob h;try simp only[h2,C,E,F,G,H,J]
  refine A4 (AU h3) ?_;obtain⟨h4,h⟩|⟨h4,h⟩:=ic h
  ·obtain⟨r5,h5,h⟩:=ob h;try simp only[h2,h4,C,E,F,G,H,J]
   refine A4 (AU h5) ?_;try simp only[h2,h4,C,E,F,G,H,J]
   refine Yd h ?_;try simp only[h2,h4,C,E,F,G,H,J,pL,aM,Z]
  ·try simp only[h2,h4,C,E,F,G,H,J]
   refine Yd h ?_;try simp only[h2,h4,C,E,F,G,H,J,pL,aM,Z]
 ·try simp only[h2,C,E,F,G,H,J]
  refine Yd h ?_;try simp only[h2,C,E,F,G,H,J,pL,aM,Z]
/- 222:spec_CanFollow -/
def aY:X0:=(A1 [bo 6 2,bo 7 3,A3 8 L] (A1 [mv 12 0,mv 13 1,lw 14 6 4,lw 15 7 4,ca 16 242 [S 12,S 13,S 14,S 15],mv 11 16,xt 17 11 0,xt 18 11 1,mv 9 17,mv 10 18] (A2 [mv 19 10,mv 20 19,AQ 20 T 21 6 4,Ak 20 T 22 221 [S 21],pa 23 20 22,mv 24 23,AQ 24 T 25 7 4,Ak 24 T 26 221 [S 25],pa 27 24 26,mv 28 27,Ab 28 T 29 6 1,Ad 28 T 30 29,Af 28 T 31 9,AK 28 T 32 .add 30 31,Ab 28 T 33 7 0,Ad 28 T 34 33,AK 28 T 35 .leq 32 34,pa 36 28 35,mv 8 36])))
theorem jl{a0}{a1}{a2}{a3}{r}(h:Ka a0 a1 a2 a3=N r):FC zA 222 [.sc (.int .i64 a0),.sc (.sl (I rI a1)),.ag (X8.row a2),.ag (X8.row a3)] [.sc (.v (.bool r))]:=by
 unfold Ka at h;refine A9 mixed aY [8] 37 ?_;simp only[aY,C,E,F,G,H,J];try simp only[C,E,F,G,H,J]
 refine A8 ?_;try simp only[C,E,F,G,H,J]
 refine A8 ?_;obtain⟨r1,h1,h⟩:=ob h;try simp only[C,E,F,G,H,J]
 refine A4 (B2r h1) ?_;obtain⟨h2,h⟩|⟨h2,h⟩:=ic h
 ·obtain⟨r3,h3,h⟩:=ob h;try simp only[h2,C,E,F,G,H,J]
  refine A4 (Y6 h3) ?_;obtain⟨h4,h⟩|⟨h4,h⟩:=ic h
  ·obtain⟨r5,h5,h⟩:=ob h;try simp only[h2,h4,C,E,F,G,H,J]
   refine A4 (Y6 h5) ?_;obtain⟨h6,h⟩|⟨h6,h⟩:=ic h
   ·try simp only[h2,h4,h6,C,E,F,G,H,J]
    cases h;exact t0
   ·try simp only[h2,h4,h6,C,E,F,G,H,J]
    cases h;exact t0
  ·try simp only[h2,h4,C,E,F,G,H,J]
   cases h;exact t0
 ·try simp only[h2,C,E,F,G,H,J]
  cases h;exact t0
/- 197:spec_l13Both -/
def PW:X0:=A1 [Ae [0,1,2,7,9,10,14,15,16,21,22,23] [9] [832,1280]] (A1 [bn 24 .lss 23 22] (Av 24 2 3 (A1 [ia 25 21 23 4,lw 26 25 4,Al 12 [aI 0,aI 0,aI 0,aI 0],so 12 26 4] (.reg [mv 27 10,mv 28 0,mv 29 1,lw 30 9 4,lw 31 12 4,ca 32 222 [S 28,S 29,S 30,S 31],mv 33 32,Af 33 L 34 0,Af 33 L 35 1,AQ 33 L 36 12 4,AQ 33 L 37 9 4,Ak 33 L 38 222 [S 34,S 35,S 36,S 37],po 39 33 38,AD 40 1 [.bool L] 1 [(0,(S 39))],Be 41 1 1 27 40,mv 10 41])) (Au 42 23)))
def Ux:X0:=(.reg [mv 43 7,mv 44 10,(O,.frz 1280),AD 45 1 [.sl []] 1 [(0,(S 44))],Be 46 1 24 43 45,mv 7 46])
def Uy:X0:=(Au 47 16)
def Lp:X0:=A1 [Ae [0,1,2,7,14,15,16] [] [832]] (A1 [bn 17 .lss 16 15] (Av 17 0 1 (A1 [ia 18 14 16 4,lw 19 18 4,Al 9 [aI 0,aI 0,aI 0,aI 0],so 9 19 4] (A1 [AD 20 1 [.bool L] 0 [],mv 10 20] (A5 (A1 [mv 21 2,ln 22 21,A6 23 0] (Ah 2 PW)) Ux))) Uy))
def PX:X0:=(A2 [mv 48 7,mv 6 48])
def aZ:X0:=(A1 [Ay 6] (A1 [AD 13 1 [.sl []] 0 [],mv 7 13] (A5 (A1 [mv 14 2,ln 15 14,A6 16 0] (Ah 0 Lp)) PX)))
def oe:=fun a0 a1 a2 v1 (x4:X8) v2 (k_:U→(P V)→Q (P (P V)))=>∀{v5 v6} {zr},k_ v5 v6=N zr→Kp zA [0,1,2,7,9,10,14,15,16,21,22,23] [9] [832,1280] ⟨[pI 0 a0,pL 1 rI a1,pL 2 X8.row a2,pW 7 832,pB 9,pW 10 1280,pL 14 X8.row a2,pI 15 (a2.length:U),pI 16 v1,pL 21 X8.row a2,pI 22 (a2.length:U),pI 23 v5],[(9,(dm x4.row))],[(832,1,I (rL rB) v2),(1280,1,I rB v6)]⟩ (.code (.loop PW):: [.blk 2,.code Ux,.blk 1,.code Uy,.code (.loop Lp),.blk 0,.code PX]) (Ag [6] [.sc (.o 1 (I (rL rB) zr))])
def YE:=fun a0 a1 a2 (k_:U→(P (P V))→Q (P (P V)))=>∀{v1 v2} {zr},k_ v1 v2=N zr→Kp zA [0,1,2,7,14,15,16] [] [832] ⟨[pI 0 a0,pL 1 rI a1,pL 2 X8.row a2,pW 7 832,pL 14 X8.row a2,pI 15 (a2.length:U),pI 16 v1],[],[(832,1,I (rL rB) v2)]⟩ (.code (.loop Lp):: [.blk 0,.code PX]) (Ag [6] [.sc (.o 1 (I (rL rB) zr))])
theorem B5g{a0 a1 a2 v1 x4 v2}{KH}(xe:YE a0 a1 a2 KH){n:W}:oe a0 a1 a2 v1 x4 v2 (Gh a0 a1 a2 v1 x4 v2 KH n):=by
 induction n with
 | zero=>intro _ _ r h; cases h
 | succ n ih=>
  intro v5 v6 r h σ hσ;rw[Gh] at h;refine Ai ?_;obtain⟨h7,h⟩|⟨h7,h⟩:=ic h
  ·obtain⟨x8,h8,h⟩:=ob h;try simp only[hσ,h7,h8,PW,C,E,F,G,H,J]
   refine Am ?_;obtain⟨r9,h9,h⟩:=ob h;try simp only[h7,h8,C,E,F,G,H,J]
   refine A4 (jl h9) ?_;obtain⟨h10,h⟩|⟨h10,h⟩:=ic h
   ·try simp only[h7,h8,h10,C,E,F,G,H,J]
    refine Ax (es:=I rB ([T]:P V)) ?_;obtain⟨h11,h⟩:=AT h;try simp only[h7,h8,h10,h11,C,E,F,G,H,J]
    refine ih h ?_;try simp only[h7,h8,h10,h11,C,E,F,G,H,J,pL,aM,Z]
   ·obtain⟨r12,h12,h⟩:=ob h;try simp only[h7,h8,h10,C,E,F,G,H,J]
    refine A4 (jl h12) ?_;try simp only[h7,h8,h10,C,E,F,G,H,J]
    refine Ax (es:=I rB ([r12]:P V)) ?_;obtain⟨h13,h⟩:=AT h;try simp only[h7,h8,h10,h13,C,E,F,G,H,J]
    refine ih h ?_;try simp only[h7,h8,h10,h13,C,E,F,G,H,J,pL,aM,Z]
  ·try simp only[hσ,h7,PW,Ux,C,E,F,G,H,J]
   refine D0 ?_;try simp only[h7,C,E,F,G,H,J]
   refine Ax (es:=I (rL rB) ([v6]:P (P V))) ?_;obtain⟨h14,h⟩:=AT h;try simp only[h7,h14,Uy,C,E,F,G,H,J]
   refine xe h ?_;try simp only[h7,h14,C,E,F,G,H,J,pL,aM,Z]
theorem B5h{a0 a1 a2}{n:W}:YE a0 a1 a2 (Fg a0 a1 a2 n):=by
 induction n with
 | zero=>intro _ _ r h; cases h
 | succ n ih=>
  intro v1 v2 r h σ hσ;rw[Fg] at h;refine Ai ?_;obtain⟨h3,h⟩|⟨h3,h⟩:=ic h
  ·obtain⟨x4,h4,h⟩:=ob h;try simp only[hσ,h3,h4,Lp,C,E,F,G,H,J]
   refine Am ?_;try simp only[h3,h4,C,E,F,G,H,J]
   refine Ax (es:=I rB ([]:P V)) ?_;try simp only[h3,h4,C,E,F,G,H,J]
   refine B5g ih h ?_;try simp only[h3,h4,C,E,F,G,H,J,pL,aM,Z]
  ·try simp only[hσ,h3,Lp,PX,C,E,F,G,H,J]
   cases h;exact t0
theorem B3r{a0}{a1}{a2}{r}(h:NY a0 a1 a2=N r):FC zA 197 [.sc (.int .i64 a0),.sc (.sl (I rI a1)),.sc (.sl (I X8.row a2))] [.sc (.o 1 (I (rL rB) r))]:=by
 unfold NY at h;refine A9 mixed aZ [6] 49 ?_;simp only[aZ,C,E,F,G,H,J];try simp only[C,E,F,G,H,J]
 refine Ax (es:=I (rL rB) ([]:P (P V))) ?_;try simp only[C,E,F,G,H,J]
 refine B5h h ?_;try simp only[C,E,F,G,H,J,pL,aM,Z]
/- 198:spec_l13Search -/
def PY:X0:=A1 [Ae [0,1,2,8,23,24,25] [] []] (A1 [bn 26 .lss 25 24] (Av 26 0 1 (A1 [ia 27 23 25 1,ld 28 27,mv 10 28] (.reg [mv 29 8,mv 30 10,Ac 31 .add 30 1,(O,.mm 32 T (S 29) (S 31)),mv 8 32])) (Au 33 25)))
def GX:X0:=A1 [Ae [0,1,2,8,11,12,44,45,46] [] []] (A1 [bn 47 .lss 46 45] (Av 47 4 5 (A1 [mv 48 46,ia 49 44 46 1,ld 50 49,mv 13 48,mv 14 50] (A1 [mv 51 14,mv 52 11,bn 53 .eql 51 52,mv 54 53,Af 54 T 55 0,Af 54 T 56 1,B1 54 T 57 56,CC 54 T 58 55 57 1,Ad 54 T 59 58,Af 54 T 60 13,CC 54 T 61 59 60 1,Ad 54 T 62 61,AN 54 T 63 62,pa 64 54 63] (Aq 64 (.reg [A3 12 L])))) (Au 65 46)))
def PZ:X0:=(Aa [mv 66 12,nt 67 66] 67 (.exit 3) (A1 [mv 69 0,AD 70 1 [.int .i64 0] 0 [],mv 71 1,Be 72 1 8 70 71,mv 73 11,AD 74 1 [.int .i64 0] 1 [(0,(S 73))],Be 75 1 8 72 74,mv 76 2,(O,.frz 4480),ca 77 198 [S 69,S 75,S 76],mv 68 77,xt 78 68 0,xt 79 68 1,mv 15 78,mv 16 79] (A1 [mv 80 16] (Aq 80 (A2 [mv 81 15,mv 6 81,A3 7 T])))))
def Q0:X0:=A1 [Ae [0,1,2,8,11] [] []] (.reg [mv 42 11,Ac 43 .add 42 1,mv 11 43])
def GY:X0:=A1 [Ae [0,1,2,8,11] [] []] (A5 (A1 [mv 34 11,mv 35 8,bn 36 .leq 34 35,mv 37 36,Af 37 T 38 11,Af 37 T 39 2,AK 37 T 40 .lss 38 39,pa 41 37 40] (AL 41 .skip (.exit 2))) (A5 (.block 3 (A1 [A3 12 T] (A5 (A1 [mv 44 1,ln 45 44,A6 46 0] (Ah 4 GX)) PZ))) Q0))
def Jn:X0:=(A2 [Ay 6,A3 7 L])
def Uz:X0:=(A5 (A1 [A6 11 0] (Ah 2 GY)) Jn)
def ab:X0:=(A1 [Ay 6,A3 7 L] (Aa [mv 17 1,ln 18 17,mv 19 0,ln 20 19,bn 21 .eql 18 20] 21 (A2 [mv 22 1,mv 6 22,A3 7 T]) (A1 [A6 8 0] (A5 (A1 [mv 23 1,ln 24 23,A6 25 0] (Ah 0 PY)) Uz))))
def oj:=fun a0 a1 a2 v2 v6 (k_:Q ((P U) × V))=>∀{zr},k_=N zr→Kp zA [0,1,2,8,11] [] [] ⟨[pL 0 (rL rB) a0,pL 1 rI a1,pI 2 a2,pI 8 v2,pI 11 v6],[],[]⟩ (.code Q0:: [.code (.loop GY),.blk 2,.code Jn]) (Ag [6,7] [.sc (.v (.sl (I rI zr.1))),.sc (.v (.bool zr.2))])
def oi:=fun a0 a1 a2 v2 v6 (k_:V→U→Q ((P U) × V))=>∀{v9 v10} {zr},k_ v9 v10=N zr→Kp zA [0,1,2,8,11,12,44,45,46] [] [] ⟨[pL 0 (rL rB) a0,pL 1 rI a1,pI 2 a2,pI 8 v2,pI 11 v6,(12,vc (aB v9)),pL 44 rI a1,pI 45 (a1.length:U),pI 46 v10],[],[]⟩ (.code (.loop GX):: [.blk 4,.code PZ,.blk 3,.code Q0,.code (.loop GY),.blk 2,.code Jn]) (Ag [6,7] [.sc (.v (.sl (I rI zr.1))),.sc (.v (.bool zr.2))])
def TD:=fun a0 a1 a2 v2 (k_:U→Q ((P U) × V))=>∀{v6} {zr},k_ v6=N zr→Kp zA [0,1,2,8,11] [] [] ⟨[pL 0 (rL rB) a0,pL 1 rI a1,pI 2 a2,pI 8 v2,pI 11 v6],[],[]⟩ (.code (.loop GY):: [.blk 2,.code Jn]) (Ag [6,7] [.sc (.v (.sl (I rI zr.1))),.sc (.v (.bool zr.2))])
def oh:=fun a0 a1 a2 (k_:U→U→Q ((P U) × V))=>∀{v2 v3} {zr},k_ v2 v3=N zr→Kp zA [0,1,2,8,23,24,25] [] [] ⟨[pL 0 (rL rB) a0,pL 1 rI a1,pI 2 a2,pI 8 v2,pL 23 rI a1,pI 24 (a1.length:U),pI 25 v3],[],[]⟩ (.code (.loop PY):: [.blk 0,.code Uz]) (Ag [6,7] [.sc (.v (.sl (I rI zr.1))),.sc (.v (.bool zr.2))])
theorem kn{rec_:(P (P V))→(P U)→U→Q ((P U) × V)}(h_rec:∀(a0:P (P V)) (a1:P U) (a2:U) zr,rec_ a0 a1 a2=N zr→FC zA 198 [.sc (.sl (I (rL rB) a0)),.sc (.sl (I rI a1)),.sc (.int .i64 a2)] [.sc (.v (.sl (I rI zr.1))),.sc (.v (.bool zr.2))]){a0 a1 a2 v2 v6}{Df}(SK:TD a0 a1 a2 v2 Df):oj a0 a1 a2 v2 v6 (Kt rec_ a0 a1 a2 v2 v6 Df):=by
 intro r h σ hσ;unfold Kt at h;try simp only[hσ,Q0,C,E,F,G,H,J]
 refine SK h ?_;try simp only[C,E,F,G,H,J,pL,aM,Z]
theorem B5i{rec_:(P (P V))→(P U)→U→Q ((P U) × V)}(h_rec:∀(a0:P (P V)) (a1:P U) (a2:U) zr,rec_ a0 a1 a2=N zr→FC zA 198 [.sc (.sl (I (rL rB) a0)),.sc (.sl (I rI a1)),.sc (.int .i64 a2)] [.sc (.v (.sl (I rI zr.1))),.sc (.v (.bool zr.2))]){a0 a1 a2 v2 v6}{Df}(SK:TD a0 a1 a2 v2 Df){n:W}:oi a0 a1 a2 v2 v6 (Ds rec_ a0 a1 a2 v2 v6 Df n):=by
 induction n with
 | zero=>intro _ _ r h; cases h
 | succ n ih=>
  intro v9 v10 r h σ hσ;rw[Ds] at h;refine Ai ?_;obtain⟨h11,h⟩|⟨h11,h⟩:=ic h
  ·obtain⟨x12,h12,h⟩:=ob h;obtain⟨h13,h⟩|⟨h13,h⟩:=ic h
   ·obtain⟨x14,h14,h⟩:=ob h;obtain⟨x15,h15,h⟩:=ob h;obtain⟨h16,h⟩|⟨h16,h⟩:=ic h
    ·try simp only[hσ,h11,h12,h13,h14,h15,h16,GX,C,E,F,G,H,J]
     refine ih h ?_;try simp only[h11,h12,h13,h14,h15,h16,C,E,F,G,H,J,pL,aM,Z]
    ·try simp only[hσ,h11,h12,h13,h14,h15,h16,GX,C,E,F,G,H,J]
     refine ih h ?_;try simp only[h11,h12,h13,h14,h15,h16,C,E,F,G,H,J,pL,aM,Z]
   ·try simp only[hσ,h11,h12,h13,GX,C,E,F,G,H,J]
    refine ih h ?_;try simp only[h11,h12,h13,C,E,F,G,H,J,pL,aM,Z]
  ·obtain⟨h17,h⟩|⟨h17,h⟩:=ic h
   ·try simp only[hσ,h11,h17,GX,PZ,C,E,F,G,H,J]
    refine Ax (es:=I rI ([]:P U)) ?_;obtain⟨h18,h⟩:=AT h;try simp only[h11,h17,h18,C,E,F,G,H,J]
    refine Ax (es:=I rI ([v6]:P U)) ?_;obtain⟨h19,h⟩:=AT h;try simp only[h11,h17,h18,h19,C,E,F,G,H,J]
    refine D0 ?_;obtain⟨r20,h20,h⟩:=ob h;try simp only[h11,h17,h18,h19,C,E,F,G,H,J]
    refine A4 (h_rec _ _ _ _ h20) ?_;obtain⟨h21,h⟩|⟨h21,h⟩:=ic h
    ·try simp only[h11,h17,h18,h19,h21,C,E,F,G,H,J]
     cases h;trivial
    ·try simp only[h11,h17,h18,h19,h21,C,E,F,G,H,J]
     refine kn h_rec SK h ?_;try simp only[h11,h17,h18,h19,h21,C,E,F,G,H,J,pL,aM,Z]
   ·try simp only[hσ,h11,h17,GX,PZ,C,E,F,G,H,J]
    refine kn h_rec SK h ?_;try simp only[h11,h17,C,E,F,G,H,J,pL,aM,Z]
theorem B5j{rec_:(P (P V))→(P U)→U→Q ((P U) × V)}(h_rec:∀(a0:P (P V)) (a1:P U) (a2:U) zr,rec_ a0 a1 a2=N zr→FC zA 198 [.sc (.sl (I (rL rB) a0)),.sc (.sl (I rI a1)),.sc (.int .i64 a2)] [.sc (.v (.sl (I rI zr.1))),.sc (.v (.bool zr.2))]){a0 a1 a2 v2}{n:W}:TD a0 a1 a2 v2 (DP rec_ a0 a1 a2 v2 n):=by
 induction n with
 | zero=>intro _ r h; cases h
 | succ n ih=>
  intro v6 r h σ hσ;rw[DP] at h;refine Ai ?_;obtain⟨h7,h⟩|⟨h7,h⟩:=ic h
  ·obtain⟨h8,h⟩|⟨h8,h⟩:=ic h
   ·try simp only[hσ,h7,h8,GY,C,E,F,G,H,J]
    refine B5i h_rec ih h ?_;try simp only[h7,h8,C,E,F,G,H,J,pL,aM,Z]
   ·try simp only[hσ,h7,h8,GY,Jn,C,E,F,G,H,J]
    cases h;trivial
  ·try simp only[hσ,h7,GY,Jn,C,E,F,G,H,J]
   cases h;trivial
theorem B5k{rec_:(P (P V))→(P U)→U→Q ((P U) × V)}(h_rec:∀(a0:P (P V)) (a1:P U) (a2:U) zr,rec_ a0 a1 a2=N zr→FC zA 198 [.sc (.sl (I (rL rB) a0)),.sc (.sl (I rI a1)),.sc (.int .i64 a2)] [.sc (.v (.sl (I rI zr.1))),.sc (.v (.bool zr.2))]){a0 a1 a2}{n:W}:oh a0 a1 a2 (Gi rec_ a0 a1 a2 n):=by
 induction n with
 | zero=>intro _ _ r h; cases h
 | succ n ih=>
  intro v2 v3 r h σ hσ;rw[Gi] at h;refine Ai ?_;obtain⟨h4,h⟩|⟨h4,h⟩:=ic h
  ·obtain⟨x5,h5,h⟩:=ob h;try simp only[hσ,h4,h5,PY,C,E,F,G,H,J]
   refine ih h ?_;try simp only[h4,h5,C,E,F,G,H,J,pL,aM,Z]
  ·try simp only[hσ,h4,PY,Uz,C,E,F,G,H,J]
   refine B5j h_rec h ?_;try simp only[h4,C,E,F,G,H,J,pL,aM,Z]
theorem B3t(rec_:(P (P V))→(P U)→U→Q ((P U) × V))(a0:P (P V))(a1:P U)(a2:U)(r:(P U) × V)(h_rec:∀(a0:P (P V)) (a1:P U) (a2:U) zr,rec_ a0 a1 a2=N zr→FC zA 198 [.sc (.sl (I (rL rB) a0)),.sc (.sl (I rI a1)),.sc (.int .i64 a2)] [.sc (.v (.sl (I rI zr.1))),.sc (.v (.bool zr.2))])(h:NZ rec_ a0 a1 a2=N r):FC zA 198 [.sc (.sl (I (rL rB) a0)),.sc (.sl (I rI a1)),.sc (.int .i64 a2)] [.sc (.v (.sl (I rI r.1))),.sc (.v (.bool r.2))]:=by
 unfold NZ at h;refine A9 mixed ab [6,7] 82 ?_;simp only[ab,C,E,F,G,H,J];obtain⟨h1,h⟩|⟨h1,h⟩:=ic h
 ·try simp only[h1,C,E,F,G,H,J]
  cases h;trivial
 ·try simp only[h1,C,E,F,G,H,J]
  refine B5k h_rec h ?_;try simp only[h1,C,E,F,G,H,J,pL,aM,Z]
theorem B3u:∀(n:W) (a0:P (P V)) (a1:P U) (a2:U) (r:(P U) × V),CA n a0 a1 a2=N r→FC zA 198 [.sc (.sl (I (rL rB) a0)),.sc (.sl (I rI a1)),.sc (.int .i64 a2)] [.sc (.v (.sl (I rI r.1))),.sc (.v (.bool r.2))]:=by
 intro n
 induction n with
 | zero=>intro _ _ _ r h; cases h
 | succ n ih=>intro a0 a1 a2 r h; rw[CA] at h; exact B3t (CA n) a0 a1 a2 r ih h
theorem B3s{a0}{a1}{a2}{r}(h:Sv a0 a1 a2=N r):FC zA 198 [.sc (.sl (I (rL rB) a0)),.sc (.sl (I rI a1)),.sc (.int .i64 a2)] [.sc (.v (.sl (I rI r.1))),.sc (.v (.bool r.2))]:=B3u bigN a0 a1 a2 r h
/- 165:spec_LeastCover -/
def Q1:X0:=A1 [Ae [0,1,2,21] [] []] (Aq 21 (A2 [Ay 6,A6 7 0,A3 8 L]))
def Q2:X0:=A1 [Ae [2,9,10] [] []] (A5 (A1 [mv 26 10,mv 27 2,ln 28 27,bn 29 .leq 26 28] (AL 29 .skip (.exit 0))) (A5 (.block 1 (A1 [mv 33 9,AD 34 1 [.int .i64 0] 0 [],mv 35 10,(O,.frz 2176),ca 36 198 [S 33,S 34,S 35],mv 32 36,xt 37 32 0,xt 38 32 1,mv 11 37,mv 12 38] (A1 [mv 39 12] (Aq 39 (A2 [mv 40 11,mv 41 10,mv 6 40,mv 7 41,A3 8 T]))))) (.reg [mv 30 10,Ac 31 .add 30 1,mv 10 31])))
def UA:X0:=(A2 [Ay 6,A6 7 0,A3 8 L])
def UB:X0:=(A1 [mv 22 0,mv 23 1,mv 24 2,ca 25 197 [S 22,S 23,S 24],(O,.frz 1600),mv 9 25] (A5 (A1 [A6 10 0] (Ah 0 Q2)) UA))
def af:X0:=(A1 [Ay 6,A6 7 0,A3 8 L] (A5 (A1 [mv 13 2,ca 14 196 [S 13],nt 15 14,mv 16 15,Af 16 L 17 0,Af 16 L 18 1,Ak 16 L 19 154 [S 17,S 18],AN 16 L 20 19,po 21 16 20] Q1) UB))
def oC:=fun a2 r6 (k_:U→Q ((P U) × U × V))=>∀{v7} {zr},k_ v7=N zr→Kp zA [2,9,10] [] [] ⟨[pL 2 X8.row a2,pL 9 (rL rB) r6,pI 10 v7],[],[]⟩ (.code (.loop Q2):: [.blk 0,.code UA]) (Ag [6,7,8] [.sc (.v (.sl (I rI zr.1))),.sc (.v (.int .i64 zr.2.1)),.sc (.v (.bool zr.2.2))])
def oB:=fun a0 a1 a2 (k_:V→Q ((P U) × U × V))=>∀{v4} {zr},k_ v4=N zr→Kp zA [0,1,2,21] [] [] ⟨[pI 0 a0,pL 1 rI a1,pL 2 X8.row a2,(21,vc (aB v4))],[],[]⟩ (.code Q1:: [.code UB]) (Ag [6,7,8] [.sc (.v (.sl (I rI zr.1))),.sc (.v (.int .i64 zr.2.1)),.sc (.v (.bool zr.2.2))])
theorem B5m{a2 r6}{n:W}:oC a2 r6 (Io a2 r6 n):=by
 induction n with
 | zero=>intro _ r h; cases h
 | succ n ih=>
  intro v7 r h σ hσ;rw[Io] at h;refine Ai ?_;obtain⟨h8,h⟩|⟨h8,h⟩:=ic h
  ·try simp only[hσ,h8,Q2,C,E,F,G,H,J]
   refine Ax (es:=I rI ([]:P U)) ?_;try simp only[h8,C,E,F,G,H,J]
   refine D0 ?_;obtain⟨r9,h9,h⟩:=ob h;try simp only[h8,C,E,F,G,H,J]
   refine A4 (B3s h9) ?_;obtain⟨h10,h⟩|⟨h10,h⟩:=ic h
   ·try simp only[h8,h10,C,E,F,G,H,J]
    cases h;trivial
   ·try simp only[h8,h10,C,E,F,G,H,J]
    refine ih h ?_;try simp only[h8,h10,C,E,F,G,H,J,pL,aM,Z]
  ·try simp only[hσ,h8,Q2,UA,C,E,F,G,H,J]
   cases h;trivial
theorem ko{a0 a1 a2}:oB a0 a1 a2 (Nz a0 a1 a2):=by
 intro v4 r h σ hσ;unfold Nz at h;obtain⟨h5,h⟩|⟨h5,h⟩:=ic h
 ·try simp only[hσ,h5,Q1,C,E,F,G,H,J]
  cases h;trivial
 ·obtain⟨r6,h6,h⟩:=ob h;try simp only[hσ,h5,Q1,UB,C,E,F,G,H,J]
  refine A4 (B3r h6) ?_;try simp only[h5,C,E,F,G,H,J]
  refine D0 ?_;try simp only[h5,C,E,F,G,H,J]
  refine B5m h ?_;try simp only[h5,C,E,F,G,H,J,pL,aM,Z]
theorem jq{a0}{a1}{a2}{r}(h:In a0 a1 a2=N r):FC zA 165 [.sc (.int .i64 a0),.sc (.sl (I rI a1)),.sc (.sl (I X8.row a2))] [.sc (.v (.sl (I rI r.1))),.sc (.v (.int .i64 r.2.1)),.sc (.v (.bool r.2.2))]:=by
 unfold In at h;refine A9 mixed af [6,7,8] 42 ?_;simp only[af,C,E,F,G,H,J];obtain⟨r1,h1,h⟩:=ob h;try simp only[C,E,F,G,H,J]
 refine A4 (B2o h1) ?_;obtain⟨h2,h⟩|⟨h2,h⟩:=ic h
 ·obtain⟨r3,h3,h⟩:=ob h;try simp only[h2,C,E,F,G,H,J]
  refine A4 (Y7 h3) ?_;try simp only[h2,C,E,F,G,H,J]
  refine ko h ?_;try simp only[h2,C,E,F,G,H,J,pL,aM,Z]
 ·try simp only[h2,C,E,F,G,H,J]
  refine ko h ?_;try simp only[h2,C,E,F,G,H,J,pL,aM,Z]
/- 123:spec_TugsNeeded -/
def ah:X0:=(A1 [bo 4 0,bo 5 1,A6 8 0] (A1 [lw 15 5 2,mv 16 2,mv 17 3,ca 18 164 [S 15,S 16,S 17],mv 14 18,xt 19 14 0,xt 20 14 1,mv 9 19,mv 10 20] (Aa [lw 21 4 4,ca 22 117 [S 21],nt 23 22,mv 24 23,Af 24 L 25 10,AN 24 L 26 25,po 27 24 26] 27 (A2 [A6 8 (-1)]) (A1 [fa 29 4 3,ld 30 29,mv 31 9,(O,.frz 1152),ca 32 165 [K 0,S 30,S 31],mv 28 32,xt 33 28 0,xt 34 28 1,xt 35 28 2,mv 11 33,mv 12 34,mv 13 35] (Aa [mv 36 13,nt 37 36] 37 (A2 [A6 8 (-1)]) (A2 [mv 38 12,mv 8 38]))))))
theorem B3f{a0}{a1}{a2}{a3}{r}(h:Kn a0 a1 a2 a3=N r):FC zA 123 [.ag (Xj.row a0),.ag (X6.row a1),.sc (.sl (I X5.row a2)),.sc (.sl (I X1.row a3))] [.sc (.v (.int .i64 r))]:=by
 unfold Kn at h;refine A9 mixed ah [8] 39 ?_;simp only[ah,C,E,F,G,H,J];try simp only[C,E,F,G,H,J]
 refine A8 ?_;try simp only[C,E,F,G,H,J]
 refine A8 ?_;obtain⟨r1,h1,h⟩:=ob h;try simp only[C,E,F,G,H,J]
 refine A4 (B3v h1) ?_;obtain⟨r2,h2,h⟩:=ob h;try simp only[C,E,F,G,H,J]
 refine A4 (Y1 h2) ?_;obtain⟨h3,h⟩|⟨h3,h⟩:=ic h
 ·obtain⟨h4,h⟩|⟨h4,h⟩:=ic h
  ·try simp only[h3,h4,C,E,F,G,H,J]
   refine D0 ?_;obtain⟨r5,h5,h⟩:=ob h;try simp only[h3,h4,C,E,F,G,H,J]
   refine A4 (jq h5) ?_;obtain⟨h6,h⟩|⟨h6,h⟩:=ic h
   ·try simp only[h3,h4,h6,C,E,F,G,H,J]
    cases h;exact t0
   ·try simp only[h3,h4,h6,C,E,F,G,H,J]
    cases h;exact t0
  ·try simp only[h3,h4,C,E,F,G,H,J]
   cases h;exact t0
 ·try simp only[h3,C,E,F,G,H,J]
  cases h;exact t0
/- 199:spec_IsChain -/
def Q3:X0:=A1 [Ae [1,2,14,15,16] [2] []] (A1 [bn 17 .lss 16 15] (Av 17 0 1 (A1 [mv 18 16,ia 19 14 16 5,lw 20 19 5,Al 6 [aI 0,aI 0,aB L,aI 0,aI 0],mv 5 18,so 6 20 5] (A5 (A5 (.drw [o0 (fa 21 6 0),o0 (ld 22 21),o0 (mv 23 1),o0 (O,.iaddr 24 (S 23) (K 0) 5),o0 (fa 25 24 0),o0 (ld 26 25),o0 (bn 27 .neq 22 26),o0 (mv 28 27),o0 (Ab 28 L 29 6 1),o0 (Ad 28 L 30 29),o0 (Ab 28 L 31 2 1),o0 (Ad 28 L 32 31),o0 (B1 28 L 33 32),o0 (AP 28 L 34 .sub 33 1),o0 (Ak 28 L 35 118 [S 30,K 0,S 34]),o0 (AN 28 L 36 35),o0 (po 37 28 36)]) (Aq 37 (A2 [A3 4 L]))) (Aa [mv 38 5,Ac 39 .eql 38 0] 39 (.exit 1) (A1 [lw 41 2 2,lw 42 6 5,ca 43 195 [S 41,S 42],mv 40 43,xt 44 40 0,xt 45 40 1,mv 7 44,mv 8 45] (A5 (.drw [o0 (lw 47 2 2),o0 (mv 48 1),o0 (mv 49 5),o0 (Ac 50 .sub 49 1),o0 (ia 51 48 50 5),o0 (lw 52 51 5),o0 (ca 53 195 [S 47,S 52]),o0 (mv 46 53),o0 (xt 54 46 0),o0 (xt 55 46 1),o0 (mv 9 54),o0 (mv 10 55)]) (A5 (.drw [o0 (mv 56 7),o0 (mv 57 10),o0 (bn 58 .neq 56 57),o0 (mv 59 58),o0 (Ab 59 L 60 6 3),o0 (Ad 59 L 61 60),o0 (Af 59 L 62 1),o0 (Af 59 L 63 5),o0 (AP 59 L 64 .sub 63 1),o0 (CC 59 L 65 62 64 5),o0 (Ab 59 L 66 65 4),o0 (Ad 59 L 67 66),o0 (AK 59 L 68 .lss 61 67),o0 (po 69 59 68)]) (Aq 69 (A2 [A3 4 L])))))))) (Au 70 16)))
def UC:X0:=(A2 [A3 4 T])
def aj:X0:=(A1 [bo 2 0,A3 4 L] (Aa [lw 11 2 2,ca 12 114 [S 11],nt 13 12] 13 (A2 [A3 4 L]) (A5 (A1 [mv 14 1,ln 15 14,A6 16 0] (Ah 0 Q3)) UC)))
def nw:=fun a1 (a0:X6) (k_:U→Q V)=>∀{v3} {zr},k_ v3=N zr→Kp zA [1,2,14,15,16] [2] [] ⟨[pL 1 X1.row a1,pB 2,pL 14 X1.row a1,pI 15 (a1.length:U),pI 16 v3],[(2,[aM X9.row a0.Points,aM X3.row a0.Segments])],[]⟩ (.code (.loop Q3):: [.blk 0,.code UC]) (Ag [4] [.sc (.v (.bool zr))])
theorem B5n{a1 a0}{n:W}:nw a1 a0 (G6 a1 a0 n):=by
 induction n with
 | zero=>intro _ r h; cases h
 | succ n ih=>
  intro v3 r h σ hσ;rw[G6] at h;refine Ai ?_;obtain⟨h4,h⟩|⟨h4,h⟩:=ic h
  ·obtain⟨x5,h5,h⟩:=ob h;try simp only[hσ,h4,h5,Q3,C,E,F,G,H,J]
   refine Am ?_;try simp only[h4,h5,C,E,F,G,H,J]
   refine An ?_;obtain⟨x6,h6,h⟩:=ob h;obtain⟨h7,h⟩|⟨h7,h⟩:=ic h
   ·try simp only[h4,h5,h6,h7,C,E,F,G,H,J]
    cases h;exact t0
   ·obtain⟨r9,h9,h⟩:=ob h;try simp only[h4,h5,h6,h7,C,E,F,G,H,J]
    refine AF (AU h9) ?_;obtain⟨h10,h⟩|⟨h10,h⟩:=ic h
    ·obtain⟨h11,h⟩|⟨h11,h⟩:=ic h
     ·try simp only[h4,h5,h6,h7,h10,h11,C,E,F,G,H,J]
      refine ih h ?_;try simp only[h4,h5,h6,h7,h10,h11,C,E,F,G,H,J,pL,aM,Z]
     ·obtain⟨r12,h12,h⟩:=ob h;try simp only[h4,h5,h6,h7,h10,h11,C,E,F,G,H,J]
      refine A4 (OT h12) ?_;try simp only[h4,h5,h6,h7,h10,h11,C,E,F,G,H,J]
      refine An ?_;obtain⟨x13,h13,h⟩:=ob h;obtain⟨r14,h14,h⟩:=ob h;try simp only[h4,h5,h6,h7,h10,h11,h13,C,E,F,G,H,J]
      refine AF (OT h14) ?_;try simp only[h4,h5,h6,h7,h10,h11,h13,C,E,F,G,H,J]
      refine An ?_;obtain⟨h15,h⟩|⟨h15,h⟩:=ic h
      ·try simp only[h4,h5,h6,h7,h10,h11,h13,h15,C,E,F,G,H,J]
       cases h;exact t0
      ·obtain⟨h16,h⟩|⟨h16,h⟩:=ic h
       ·try simp only[h4,h5,h6,h7,h10,h11,h13,h15,h16,C,E,F,G,H,J]
        cases h;exact t0
       ·try simp only[h4,h5,h6,h7,h10,h11,h13,h15,h16,C,E,F,G,H,J]
        refine ih h ?_;try simp only[h4,h5,h6,h7,h10,h11,h13,h15,h16,C,E,F,G,H,J,pL,aM,Z]
    ·try simp only[h4,h5,h6,h7,h10,C,E,F,G,H,J]
     cases h;exact t0
  ·try simp only[hσ,h4,Q3,UC,C,E,F,G,H,J]
   cases h;exact t0
theorem B2t{a0}{a1}{r}(h:Nv a0 a1=N r):FC zA 199 [.ag (X6.row a0),.sc (.sl (I X1.row a1))] [.sc (.v (.bool r))]:=by
 unfold Nv at h;refine A9 mixed aj [4] 71 ?_;simp only[aj,C,E,F,G,H,J];try simp only[C,E,F,G,H,J]
 refine A8 ?_;obtain⟨r1,h1,h⟩:=ob h;try simp only[C,E,F,G,H,J]
 refine A4 (GN h1) ?_;obtain⟨h2,h⟩|⟨h2,h⟩:=ic h
 ·try simp only[h2,C,E,F,G,H,J]
  refine B5n h ?_;try simp only[h2,C,E,F,G,H,J,pL,aM,Z]
 ·try simp only[h2,C,E,F,G,H,J]
  cases h;exact t0
/- 166:spec_PilotDuty -/
def Q4:X0:=A1 [Ae [1,2,3,6,23] [3,6] []] (Aq 23 (A2 [BH 24 [aI 0,aI 0,aI 0,aI 0] [],so 6 24 4,A3 7 L]))
def Q5:X0:=A1 [Ae [1,2,3,6,25,26,27] [3,6] []] (A1 [bn 28 .lss 27 26] (Av 28 0 1 (A1 [ia 29 25 27 5,lw 30 29 5,Al 9 [aI 0,aI 0,aB L,aI 0,aI 0],so 9 30 5] (A1 [lw 31 3 2,mv 32 1,lw 33 9 5,ca 34 194 [S 31,S 32,S 33],nt 35 34] (Aq 35 (A2 [BH 36 [aI 0,aI 0,aI 0,aI 0] [],so 6 36 4,A3 7 L])))) (Au 37 27)))
def UD:X0:=(A1 [mv 38 2,mv 39 2,ln 40 39,Ac 41 .sub 40 1,ia 42 38 41 5,lw 43 42 5,Al 10 [aI 0,aI 0,aB L,aI 0,aI 0],so 10 43 5] (A5 (.drw [o0 (lw 45 3 2),o0 (mv 46 2),o0 (O,.iaddr 47 (S 46) (K 0) 5),o0 (lw 48 47 5),o0 (ca 49 195 [S 45,S 48]),o0 (mv 44 49),o0 (xt 50 44 0),o0 (xt 51 44 1),o0 (mv 11 50),o0 (mv 12 51)]) (A1 [lw 53 3 2,lw 54 10 5,ca 55 195 [S 53,S 54],mv 52 55,xt 56 52 0,xt 57 52 1,mv 13 56,mv 14 57] (A5 (.drw [o0 (mv 58 2),o0 (O,.iaddr 59 (S 58) (K 0) 5),o0 (fa 60 59 3),o0 (ld 61 60),o0 (fa 62 10 4),o0 (ld 63 62),o0 (mv 64 11),o0 (mv 65 14),o0 (BH 66 [aI 0,aI 0,aI 0,aI 0] [(0,1,(S 61)),(1,1,(S 63)),(2,1,(S 64)),(3,1,(S 65))]),(O,so 6 66 4),o0 (A3 7 T)]) .ret))))
def UE:X0:=(A5 (A1 [mv 25 2,ln 26 25,A6 27 0] (Ah 0 Q5)) UD)
def al:X0:=(A1 [bo 3 0,Al 6 [aI 0,aI 0,aI 0,aI 0],A3 7 L] (A5 (A1 [mv 15 2,ln 16 15,Ac 17 .eql 16 0,mv 18 17,AQ 18 L 19 3 2,Af 18 L 20 2,Ak 18 L 21 199 [S 19,S 20],AN 18 L 22 21,po 23 18 22] Q4) UE))
def oH:=fun a1 a2 (a0:X6) (k_:U→Q (X8 × V))=>∀{v5} {zr},k_ v5=N zr→Kp zA [1,2,3,6,25,26,27] [3,6] [] ⟨[pL 1 X5.row a1,pL 2 X1.row a2,pB 3,pB 6,pL 25 X1.row a2,pI 26 (a2.length:U),pI 27 v5],[(3,[aM X9.row a0.Points,aM X3.row a0.Segments]),(6,[aI (0:U),aI (0:U),aI (0:U),aI (0:U)])],[]⟩ (.code (.loop Q5):: [.blk 0,.code UD]) (Ag [.c 6 T 4,7] [.ag [.v (.int .i64 zr.1.From),.v (.int .i64 zr.1.To),.v (.int .i64 zr.1.A),.v (.int .i64 zr.1.B)],.sc (.v (.bool zr.2))])
def oG:=fun a1 a2 (a0:X6) (k_:V→Q (X8 × V))=>∀{v3} {zr},k_ v3=N zr→Kp zA [1,2,3,6,23] [3,6] [] ⟨[pL 1 X5.row a1,pL 2 X1.row a2,pB 3,pB 6,(23,vc (aB v3))],[(3,[aM X9.row a0.Points,aM X3.row a0.Segments]),(6,[aI (0:U),aI (0:U),aI (0:U),aI (0:U)])],[]⟩ (.code Q4:: [.code UE]) (Ag [.c 6 T 4,7] [.ag [.v (.int .i64 zr.1.From),.v (.int .i64 zr.1.To),.v (.int .i64 zr.1.A),.v (.int .i64 zr.1.B)],.sc (.v (.bool zr.2))])
theorem B5o{a1 a2 a0}{n:W}:oH a1 a2 a0 (Ir a1 a2 a0 n):=by
 induction n with
 | zero=>intro _ r h; cases h
 | succ n ih=>
  intro v5 r h σ hσ;rw[Ir] at h;refine Ai ?_;obtain⟨h6,h⟩|⟨h6,h⟩:=ic h
  ·obtain⟨x7,h7,h⟩:=ob h;try simp only[hσ,h6,h7,Q5,C,E,F,G,H,J]
   refine Am ?_;obtain⟨r9,h9,h⟩:=ob h;try simp only[h6,h7,C,E,F,G,H,J]
   refine A4 (jv h9) ?_;obtain⟨h10,h⟩|⟨h10,h⟩:=ic h
   ·try simp only[h6,h7,h10,C,E,F,G,H,J]
    refine ih h ?_;try simp only[h6,h7,h10,C,E,F,G,H,J,pL,aM,Z]
   ·try simp only[h6,h7,h10,C,E,F,G,H,J]
    cases h;try simp only[Bh,C,E,F,G,H,J]
    trivial
  ·obtain⟨x11,h11,h⟩:=ob h;try simp only[hσ,h6,h11,Q5,UD,C,E,F,G,H,J]
   refine Am ?_;try simp only[h6,h11,C,E,F,G,H,J]
   refine An ?_;obtain⟨x12,h12,h⟩:=ob h;obtain⟨r13,h13,h⟩:=ob h;try simp only[h6,h11,h12,C,E,F,G,H,J]
   refine AF (OT h13) ?_;obtain⟨r14,h14,h⟩:=ob h;try simp only[h6,h11,h12,C,E,F,G,H,J]
   refine A4 (OT h14) ?_;try simp only[h6,h11,h12,C,E,F,G,H,J]
   refine An ?_;try simp only[h6,h11,h12,C,E,F,G,H,J]
   refine An ?_;try simp only[h6,h11,h12,C,E,F,G,H,J]
   cases h;try simp only[Bh,C,E,F,G,H,J]
   trivial
theorem kp{a1 a2 a0}:oG a1 a2 a0 (NF a1 a2 a0):=by
 intro v3 r h σ hσ;unfold NF at h;obtain⟨h4,h⟩|⟨h4,h⟩:=ic h
 ·try simp only[hσ,h4,Q4,C,E,F,G,H,J]
  cases h;try simp only[Bh,C,E,F,G,H,J]
  trivial
 ·try simp only[hσ,h4,Q4,UE,C,E,F,G,H,J]
  refine B5o h ?_;try simp only[h4,C,E,F,G,H,J,pL,aM,Z]
theorem B22{a0}{a1}{a2}{r}(h:NE a0 a1 a2=N r):FC zA 166 [.ag (X6.row a0),.sc (.sl (I X5.row a1)),.sc (.sl (I X1.row a2))] [.ag [.v (.int .i64 r.1.From),.v (.int .i64 r.1.To),.v (.int .i64 r.1.A),.v (.int .i64 r.1.B)],.sc (.v (.bool r.2))]:=by
 unfold NE at h;refine A9 mixed al [.c 6 T 4,7] 67 ?_;simp only[al,C,E,F,G,H,J];try simp only[C,E,F,G,H,J]
 refine A8 ?_;try simp only[C,E,F,G,H,J]
 refine Am ?_;obtain⟨h1,h⟩|⟨h1,h⟩:=ic h
 ·try simp only[h1,C,E,F,G,H,J]
  refine kp h ?_;try simp only[h1,C,E,F,G,H,J,pL,aM,Z]
 ·obtain⟨r2,h2,h⟩:=ob h;try simp only[h1,C,E,F,G,H,J]
  refine A4 (B2t h2) ?_;try simp only[h1,C,E,F,G,H,J]
  refine kp h ?_;try simp only[h1,C,E,F,G,H,J,pL,aM,Z]
/- 124:spec_PilotsNeeded -/
def Lq:X0:=A1 [Ae [2,4,5,9,21,22,23] [4,5] [1280]] (A1 [bn 24 .lss 23 22] (Av 24 0 1 (A1 [ia 25 21 23 1,ld 26 25,mv 11 26] (Aa [mv 27 11,ln 28 27,Ac 29 .eql 28 0] 29 (.exit 1) (A1 [lw 31 5 2,mv 32 2,mv 33 11,ca 34 166 [S 31,S 32,S 33],mv 30 34,xt 35 30 0,xt 36 30 1,Al 12 [aI 0,aI 0,aI 0,aI 0],so 12 35 4,mv 13 36] (Aa [mv 37 13,nt 38 37] 38 (A2 [A6 8 (-1)]) (.reg [mv 39 9,lw 40 12 4,AD 41 4 [.int .i64 0,.int .i64 0,.int .i64 0,.int .i64 0] 1 [(0,(S 40))],Be 42 4 32 39 41,mv 9 42]))))) (Au 43 23)))
def UF:X0:=(A1 [fa 45 4 2,ld 46 45,fa 47 4 3,ld 48 47,mv 49 9,(O,.frz 1280),ca 50 165 [S 46,S 48,S 49],mv 44 50,xt 51 44 0,xt 52 44 1,xt 53 44 2,mv 14 51,mv 15 52,mv 16 53] (Aa [mv 54 16,nt 55 54] 55 (A2 [A6 8 (-1)]) (A2 [mv 56 15,mv 8 56])))
def aq:X0:=(A1 [bo 4 0,bo 5 1,A6 8 0] (Aa [lw 17 4 4,ca 18 117 [S 17],nt 19 18] 19 (A2 [A6 8 (-1)]) (A1 [AD 20 4 [.int .i64 0,.int .i64 0,.int .i64 0,.int .i64 0] 0 [],mv 9 20] (A5 (A1 [mv 21 3,ln 22 21,A6 23 0] (Ah 0 Lq)) UF))))
def oI:=fun a2 a3 (a0:Xj) (a1:X6) (k_:U→(P X8)→Q U)=>∀{v3 v4} {zr},k_ v3 v4=N zr→Kp zA [2,4,5,9,21,22,23] [4,5] [1280] ⟨[pL 2 X5.row a2,pB 4,pB 5,pW 9 1280,pL 21 (rL X1.row) a3,pI 22 (a3.length:U),pI 23 v3],[(4,(dm a0.row)),(5,[aM X9.row a1.Points,aM X3.row a1.Segments])],[(1280,4,I X8.row v4)]⟩ (.code (.loop Lq):: [.blk 0,.code UF]) (Ag [8] [.sc (.v (.int .i64 zr))])
theorem B5p{a2 a3 a0 a1}{n:W}:oI a2 a3 a0 a1 (Ga a2 a3 a0 a1 n):=by
 induction n with
 | zero=>intro _ _ r h; cases h
 | succ n ih=>
  intro v3 v4 r h σ hσ;rw[Ga] at h;refine Ai ?_;obtain⟨h5,h⟩|⟨h5,h⟩:=ic h
  ·obtain⟨x6,h6,h⟩:=ob h;obtain⟨h7,h⟩|⟨h7,h⟩:=ic h
   ·try simp only[hσ,h5,h6,h7,Lq,C,E,F,G,H,J]
    refine ih h ?_;try simp only[h5,h6,h7,C,E,F,G,H,J,pL,aM,Z]
   ·obtain⟨r9,h9,h⟩:=ob h;try simp only[hσ,h5,h6,h7,Lq,C,E,F,G,H,J]
    refine A4 (B22 h9) ?_;try simp only[h5,h6,h7,C,E,F,G,H,J]
    refine Am ?_;obtain⟨h10,h⟩|⟨h10,h⟩:=ic h
    ·try simp only[h5,h6,h7,h10,C,E,F,G,H,J]
     refine Ax (es:=I X8.row ([r9.1]:P X8)) ?_;obtain⟨h11,h⟩:=AT h;try simp only[h5,h6,h7,h10,h11,C,E,F,G,H,J]
     refine ih h ?_;try simp only[h5,h6,h7,h10,h11,C,E,F,G,H,J,pL,aM,Z]
    ·try simp only[h5,h6,h7,h10,C,E,F,G,H,J]
     cases h;exact t0
  ·try simp only[hσ,h5,Lq,UF,C,E,F,G,H,J]
   refine D0 ?_;obtain⟨r12,h12,h⟩:=ob h;try simp only[h5,C,E,F,G,H,J]
   refine A4 (jq h12) ?_;obtain⟨h13,h⟩|⟨h13,h⟩:=ic h
   ·try simp only[h5,h13,C,E,F,G,H,J]
    cases h;exact t0
   ·try simp only[h5,h13,C,E,F,G,H,J]
    cases h;exact t0
theorem B23{a0}{a1}{a2}{a3}{r}(h:NG a0 a1 a2 a3=N r):FC zA 124 [.ag (Xj.row a0),.ag (X6.row a1),.sc (.sl (I X5.row a2)),.sc (.sl (I (rL X1.row) a3))] [.sc (.v (.int .i64 r))]:=by
 unfold NG at h;refine A9 mixed aq [8] 57 ?_;simp only[aq,C,E,F,G,H,J];try simp only[C,E,F,G,H,J]
 refine A8 ?_;try simp only[C,E,F,G,H,J]
 refine A8 ?_;obtain⟨r1,h1,h⟩:=ob h;try simp only[C,E,F,G,H,J]
 refine A4 (Y1 h1) ?_;obtain⟨h2,h⟩|⟨h2,h⟩:=ic h
 ·try simp only[h2,C,E,F,G,H,J]
  refine Ax (es:=I X8.row ([]:P X8)) ?_;try simp only[h2,C,E,F,G,H,J]
  refine B5p h ?_;try simp only[h2,C,E,F,G,H,J,pL,aM,Z]
 ·try simp only[h2,C,E,F,G,H,J]
  cases h;exact t0
/- 91:spec_CrewSuffices -/
def Q6:X0:=A1 [Ae [2,3,4,5,9,13,14,15] [4,5] [768]] (A1 [bn 16 .lss 15 14] (Av 16 0 1 (A1 [ia 17 13 15 1,ld 18 17,mv 11 18] (.reg [mv 19 9,mv 20 11,Be 21 5 40 19 20,mv 9 21])) (Au 22 15)))
def UG:X0:=(A5 (.drw [o0 (lw 23 4 4),o0 (lw 24 5 2),o0 (mv 25 2),o0 (mv 26 9),o0 (ca 27 123 [S 23,S 24,S 25,S 26]),(N [27],fa 28 4 0),(N [27],ld 29 28),o0 (ca 30 118 [S 27,K 0,S 29]),o0 (mv 31 30),o0 (AQ 31 T 32 4 4),o0 (AQ 31 T 33 5 2),o0 (Af 31 T 34 2),o0 (Af 31 T 35 3),o0 (Ak 31 T 36 124 [S 32,S 33,S 34,S 35]),(N [36],Ab 31 T 37 4 1),(N [36],Ad 31 T 38 37),o0 (Ak 31 T 39 118 [S 36,K 0,S 38]),o0 (pa 40 31 39),o0 (mv 8 40)]) .ret)
def ar:X0:=(A1 [bo 4 0,bo 5 1,A3 8 L] (A1 [AD 12 5 [.int .i64 0,.int .i64 0,.bool L,.int .i64 0,.int .i64 0] 0 [],mv 9 12] (A5 (A1 [mv 13 3,ln 14 13,A6 15 0] (Ah 0 Q6)) UG)))
def nj:=fun a2 a3 (a0:Xj) (a1:X6) (k_:U→(P X1)→Q V)=>∀{v1 v2} {zr},k_ v1 v2=N zr→Kp zA [2,3,4,5,9,13,14,15] [4,5] [768] ⟨[pL 2 X5.row a2,pL 3 (rL X1.row) a3,pB 4,pB 5,pW 9 768,pL 13 (rL X1.row) a3,pI 14 (a3.length:U),pI 15 v1],[(4,(dm a0.row)),(5,[aM X9.row a1.Points,aM X3.row a1.Segments])],[(768,5,I X1.row v2)]⟩ (.code (.loop Q6):: [.blk 0,.code UG]) (Ag [8] [.sc (.v (.bool zr))])
theorem B5q{a2 a3 a0 a1}{n:W}:nj a2 a3 a0 a1 (Ih a2 a3 a0 a1 n):=by
 induction n with
 | zero=>intro _ _ r h; cases h
 | succ n ih=>
  intro v1 v2 r h σ hσ;rw[Ih] at h;refine Ai ?_;obtain⟨h3,h⟩|⟨h3,h⟩:=ic h
  ·obtain⟨x4,h4,h⟩:=ob h;obtain⟨h5,h⟩:=AT h;try simp only[hσ,h3,h4,h5,Q6,C,E,F,G,H,J]
   refine ih h ?_;try simp only[h3,h4,h5,C,E,F,G,H,J,pL,aM,Z]
  ·try simp only[hσ,h3,Q6,UG,C,E,F,G,H,J]
   refine An ?_;obtain⟨r6,h6,h⟩:=ob h;try simp only[h3,C,E,F,G,H,J]
   refine Gr (B3f h6) (by first | rfl | kernel_rfl) (BD Y) Y (uf Y) ?_;obtain⟨r7,h7,h⟩:=ob h;try simp only[h3,C,E,F,G,H,J]
   refine AF (AU h7) ?_;obtain⟨h8,h⟩|⟨h8,h⟩:=ic h
   ·obtain⟨r9,h9,h⟩:=ob h;try simp only[h3,h8,C,E,F,G,H,J]
    refine AF (B23 h9) ?_;obtain⟨r10,h10,h⟩:=ob h;try simp only[h3,h8,C,E,F,G,H,J]
    refine AF (AU h10) ?_;try simp only[h3,h8,C,E,F,G,H,J]
    cases h;exact t0
   ·try simp only[h3,h8,C,E,F,G,H,J]
    cases h;exact t0
theorem B2n{a0}{a1}{a2}{a3}{r}(h:Sm a0 a1 a2 a3=N r):FC zA 91 [.ag (Xj.row a0),.ag (X6.row a1),.sc (.sl (I X5.row a2)),.sc (.sl (I (rL X1.row) a3))] [.sc (.v (.bool r))]:=by
 unfold Sm at h;refine A9 mixed ar [8] 41 ?_;simp only[ar,C,E,F,G,H,J];try simp only[C,E,F,G,H,J]
 refine A8 ?_;try simp only[C,E,F,G,H,J]
 refine A8 ?_;try simp only[C,E,F,G,H,J]
 refine Ax (es:=I X1.row ([]:P X1)) ?_;try simp only[C,E,F,G,H,J]
 refine B5q h ?_;try simp only[C,E,F,G,H,J,pL,aM,Z]
/- 59:spec_l16Fit -/
def Q7:X0:=A1 [Ae [1,2,6,9,10,11,18,19,20] [2,6] []] (A1 [bn 21 .lss 20 19] (Av 21 2 3 (A1 [ia 22 18 20 4,lw 23 22 4,Al 8 [aI 0,aI 0,aI 0,.nil],so 8 23 4] (A1 [fa 24 2 3,lw 25 24 2,fa 26 2 6,lw 27 26 2,fa 28 6 3,ld 29 28,fa 30 8 3,ld 31 30,ca 32 90 [S 25,S 27,S 29,S 31]] (Aq 32 (A2 [A3 4 L])))) (Au 33 20)))
def UH:X0:=(Au 34 11)
def Lr:X0:=A1 [Ae [1,2,9,10,11] [2] []] (A1 [bn 12 .lss 11 10] (Av 12 0 1 (A1 [mv 13 11,ia 14 9 11 4,lw 15 14 4,Al 6 [aI 0,aI 0,aI 0,.nil],mv 5 13,so 6 15 4] (A1 [mv 16 1,mv 17 5,(O,.slc 18 4 (S 16) O (N (S 17)) O),ln 19 18,A6 20 0] (Ah 2 Q7))) UH))
def Q8:X0:=(A5 (.drw [(N [42],fa 35 2 8),(N [42],lw 36 35 4),(N [42],fa 37 2 3),(N [42],lw 38 37 2),(N [42],fa 39 2 5),(N [42],ld 40 39),o0 (mv 41 1),o0 (ca 42 92 [S 41]),o0 (ca 43 91 [S 36,S 38,S 40,S 42]),o0 (mv 4 43)]) .ret)
def as_:X0:=(A1 [bo 2 0,A3 4 L] (A5 (A1 [mv 9 1,ln 10 9,A6 11 0] (Ah 0 Lr)) Q8))
def oq:=fun a1 v1 (a0:X7) (x3:X2) y5 y6 (k_:U→Q V)=>∀{v7} {zr},k_ v7=N zr→Kp zA [1,2,6,9,10,11,18,19,20] [2,6] [] ⟨[pL 1 X2.row a1,pB 2,pB 6,pL 9 X2.row a1,pI 10 (a1.length:U),pI 11 v1,pL 18 X2.row y5,pI 19 y6,pI 20 v7],[(2,([aI a0.Forecast.Tide.Mean,aM zD a0.Forecast.Tide.Parts,aM zE a0.Forecast.Surges,aM X9.row a0.Chart.Points,aM X3.row a0.Chart.Segments,aM X5.row a0.Fleet,aI a0.Regime.Gap,aB a0.Regime.NoMeet]++dm a0.Crew.row)),(6,[aI x3.Start,aI x3.Arrival,aI x3.Cost,aM X1.row x3.Passages])],[]⟩ (.code (.loop Q7):: [.blk 2,.blk 1,.code UH,.code (.loop Lr),.blk 0,.code Q8]) (Ag [4] [.sc (.v (.bool zr))])
def YG:=fun a1 (a0:X7) (k_:U→Q V)=>∀{v1} {zr},k_ v1=N zr→Kp zA [1,2,9,10,11] [2] [] ⟨[pL 1 X2.row a1,pB 2,pL 9 X2.row a1,pI 10 (a1.length:U),pI 11 v1],[(2,([aI a0.Forecast.Tide.Mean,aM zD a0.Forecast.Tide.Parts,aM zE a0.Forecast.Surges,aM X9.row a0.Chart.Points,aM X3.row a0.Chart.Segments,aM X5.row a0.Fleet,aI a0.Regime.Gap,aB a0.Regime.NoMeet]++dm a0.Crew.row))],[]⟩ (.code (.loop Lr):: [.blk 0,.code Q8]) (Ag [4] [.sc (.v (.bool zr))])
theorem B5r{a1 v1 a0 x3 y5 y6}{Ol}(xg:YG a1 a0 Ol){n:W}:oq a1 v1 a0 x3 y5 y6 (IJ a1 v1 a0 x3 y5 y6 Ol n):=by
 induction n with
 | zero=>intro _ r h; cases h
 | succ n ih=>
  intro v7 r h σ hσ;rw[IJ] at h;refine Ai ?_;obtain⟨h8,h⟩|⟨h8,h⟩:=ic h
  ·obtain⟨x9,h9,h⟩:=ob h;try simp only[hσ,h8,h9,Q7,C,E,F,G,H,J]
   refine Am ?_;obtain⟨r10,h10,h⟩:=ob h;try simp only[h8,h9,C,E,F,G,H,J]
   refine A4 (B2l h10) ?_;obtain⟨h11,h⟩|⟨h11,h⟩:=ic h
   ·try simp only[h8,h9,h11,C,E,F,G,H,J]
    cases h;exact t0
   ·try simp only[h8,h9,h11,C,E,F,G,H,J]
    refine ih h ?_;try simp only[h8,h9,h11,C,E,F,G,H,J,pL,aM,Z]
  ·try simp only[hσ,h8,Q7,UH,C,E,F,G,H,J]
   refine xg h ?_;try simp only[h8,C,E,F,G,H,J,pL,aM,Z]
theorem B5s{a1 a0}{n:W}:YG a1 a0 (Fi a1 a0 n):=by
 induction n with
 | zero=>intro _ r h; cases h
 | succ n ih=>
  intro v1 r h σ hσ;rw[Fi] at h;refine Ai ?_;obtain⟨h2,h⟩|⟨h2,h⟩:=ic h
  ·obtain⟨x3,h3,h⟩:=ob h;try simp only[hσ,h2,h3,Lr,C,E,F,G,H,J]
   refine Am ?_;obtain⟨p4,h4,h⟩:=ob h;try simp only[h2,h3,h4,C,E,F,G,H,J]
   refine B5r ih h ?_;try simp only[h2,h3,h4,C,E,F,G,H,J,pL,aM,Z]
  ·try simp only[hσ,h2,Lr,Q8,C,E,F,G,H,J]
   refine An ?_;obtain⟨r12,h12,h⟩:=ob h;try simp only[h2,C,E,F,G,H,J]
   refine AF (B2k h12) ?_;obtain⟨r13,h13,h⟩:=ob h;try simp only[h2,C,E,F,G,H,J]
   refine Gr (B2n h13) (by first | rfl | kernel_rfl) (BD Y) Y (uf Y) ?_;try simp only[h2,C,E,F,G,H,J]
   cases h;exact t0
theorem B3y{a0}{a1}{r}(h:Sz a0 a1=N r):FC zA 59 [.ag (X7.row a0),.sc (.sl (I X2.row a1))] [.sc (.v (.bool r))]:=by
 unfold Sz at h;refine A9 mixed as_ [4] 44 ?_;simp only[as_,C,E,F,G,H,J];try simp only[C,E,F,G,H,J]
 refine A8 ?_;try simp only[C,E,F,G,H,J]
 refine B5s h ?_;try simp only[C,E,F,G,H,J,pL,aM,Z]
/- 26:spec_IsPlan -/
def Qa:X0:=A1 [Ae [1,2,3,20,21,22] [3] []] (A1 [bn 23 .lss 22 21] (Av 23 0 1 (A1 [mv 24 22,ia 25 20 22 4,lw 26 25 4,Al 8 [aI 0,aI 0,aI 0,.nil],mv 7 24,so 8 26 4] (A5 (.drw [o0 (lw 27 3 12),o0 (mv 28 1),o0 (mv 29 7),o0 (ia 30 28 29 5),o0 (lw 31 30 5),o0 (lw 32 8 4),o0 (ca 33 58 [S 27,S 31,S 32]),o0 (nt 34 33)]) (Aq 34 (A2 [A3 6 L])))) (Au 35 22)))
def UI:X0:=(A2 [lw 36 3 12,mv 37 2,ca 38 59 [S 36,S 37],mv 6 38])
def au:X0:=(A1 [bo 3 0,A3 6 L] (Aa [lw 9 3 12,mv 10 1,ca 11 57 [S 9,S 10],nt 12 11,mv 13 12,Af 13 L 14 2,B1 13 L 15 14,Af 13 L 16 1,B1 13 L 17 16,AK 13 L 18 .neq 15 17,po 19 13 18] 19 (A2 [A3 6 L]) (A5 (A1 [mv 20 2,ln 21 20,A6 22 0] (Ah 0 Qa)) UI)))
def oA:=fun a1 a2 (a0:X7) (k_:U→Q V)=>∀{v4} {zr},k_ v4=N zr→Kp zA [1,2,3,20,21,22] [3] [] ⟨[pL 1 zC a1,pL 2 X2.row a2,pB 3,pL 20 X2.row a2,pI 21 (a2.length:U),pI 22 v4],[(3,([aI a0.Forecast.Tide.Mean,aM zD a0.Forecast.Tide.Parts,aM zE a0.Forecast.Surges,aM X9.row a0.Chart.Points,aM X3.row a0.Chart.Segments,aM X5.row a0.Fleet,aI a0.Regime.Gap,aB a0.Regime.NoMeet]++dm a0.Crew.row))],[]⟩ (.code (.loop Qa):: [.blk 0,.code UI]) (Ag [6] [.sc (.v (.bool zr))])
theorem B5t{a1 a2 a0}{n:W}:oA a1 a2 a0 (G8 a1 a2 a0 n):=by
 induction n with
 | zero=>intro _ r h; cases h
 | succ n ih=>
  intro v4 r h σ hσ;rw[G8] at h;refine Ai ?_;obtain⟨h5,h⟩|⟨h5,h⟩:=ic h
  ·obtain⟨x6,h6,h⟩:=ob h;try simp only[hσ,h5,h6,Qa,C,E,F,G,H,J]
   refine Am ?_;try simp only[h5,h6,C,E,F,G,H,J]
   refine An ?_;obtain⟨x7,h7,h⟩:=ob h;obtain⟨r9,h9,h⟩:=ob h;try simp only[h5,h6,h7,C,E,F,G,H,J]
   refine AF (B2u h9) ?_;obtain⟨h10,h⟩|⟨h10,h⟩:=ic h
   ·try simp only[h5,h6,h7,h10,C,E,F,G,H,J]
    refine ih h ?_;try simp only[h5,h6,h7,h10,C,E,F,G,H,J,pL,aM,Z]
   ·try simp only[h5,h6,h7,h10,C,E,F,G,H,J]
    cases h;exact t0
  ·obtain⟨r11,h11,h⟩:=ob h;try simp only[hσ,h5,Qa,UI,C,E,F,G,H,J]
   refine A4 (B3y h11) ?_;try simp only[h5,C,E,F,G,H,J]
   cases h;exact t0
theorem B2v{a0}{a1}{a2}{r}(h:Ny a0 a1 a2=N r):FC zA 26 [.ag (X7.row a0),.sc (.sl (I zC a1)),.sc (.sl (I X2.row a2))] [.sc (.v (.bool r))]:=by
 unfold Ny at h;refine A9 mixed au [6] 39 ?_;simp only[au,C,E,F,G,H,J];try simp only[C,E,F,G,H,J]
 refine A8 ?_;obtain⟨r1,h1,h⟩:=ob h;try simp only[C,E,F,G,H,J]
 refine A4 (B2j h1) ?_;obtain⟨h2,h⟩|⟨h2,h⟩:=ic h
 ·obtain⟨h3,h⟩|⟨h3,h⟩:=ic h
  ·try simp only[h2,h3,C,E,F,G,H,J]
   cases h;exact t0
  ·try simp only[h2,h3,C,E,F,G,H,J]
   refine B5t h ?_;try simp only[h2,h3,C,E,F,G,H,J,pL,aM,Z]
 ·try simp only[h2,C,E,F,G,H,J]
  cases h;exact t0
/- 27:spec_FormatInt -/
def Qb:X0:=A1 [Ae [0,3] [] []] (A5 (A1 [mv 25 0,Ac 26 .gtr 25 9] (AL 26 .skip (.exit 0))) (.block 1 (A1 [mv 27 0,Ac 28 .rem 27 10,(O,.bin 29 .add (K 48) (S 28)),(O,.conv 30 .u8 (S 29)),AD 31 1 [.int .u8 0] 1 [(0,(S 30))],(O,.sconv 32 (S 31)),mv 33 3,bn 34 .add 32 33,mv 3 34] (.reg [mv 35 0,Ac 36 .quo 35 10,mv 0 36]))))
def UJ:X0:=(A2 [mv 37 0,(O,.bin 38 .add (K 48) (S 37)),(O,.conv 39 .u8 (S 38)),AD 40 1 [.int .u8 0] 1 [(0,(S 39))],(O,.sconv 41 (S 40)),mv 42 3,bn 43 .add 41 42,mv 2 43])
def aw:X0:=(A1 [(O,.mv 2 (KS []))] (Aa [mv 4 0,Ac 5 .lss 4 0] 5 (Aa [mv 6 0,Ac 7 .quo 6 10,Ac 8 .eql 7 0] 8 (A2 [mv 9 0,(O,.bin 10 .sub (K 48) (S 9)),(O,.conv 11 .u8 (S 10)),AD 12 1 [.int .u8 0] 1 [(0,(S 11))],(O,.sconv 13 (S 12)),(O,.bin 14 .add (KS [45]) (S 13)),mv 2 14]) (A5 (.drw [(N [22],mv 15 0),(N [22],Ac 16 .quo 15 10),(N [22],ca 17 27 [S 16]),(N [17],mv 18 0),(N [17],Ac 19 .rem 18 10),(N [17],(O,.bin 20 .sub (K 48) (S 19))),(N [17],(O,.conv 21 .u8 (S 20))),(N [17],AD 22 1 [.int .u8 0] 1 [(0,(S 21))]),(N [17],(O,.sconv 23 (S 22))),o0 (bn 24 .add 17 23),o0 (mv 2 24)]) .ret)) (A1 [(O,.mv 3 (KS []))] (A5 (Ah 0 Qb) UJ))))
def nr:=fun(k_:U→(P X)→Q (P X))=>∀{v6 v7} {zr},k_ v6 v7=N zr→Kp zA [0,3] [] [] ⟨[pI 0 v6,(3,vc (aS v7))],[],[]⟩ (.code (.loop Qb):: [.blk 0,.code UJ]) (Ag [2] [.sc (.v (.str zr))])
theorem B5u{rec_:U→Q (P X)}(h_rec:∀(a0:U) zr,rec_ a0=N zr→FC zA 27 [.sc (.int .i64 a0)] [.sc (.v (.str zr))]){n:W}:nr (Kd rec_ n):=by
 induction n with
 | zero=>intro _ _ r h; cases h
 | succ n ih=>
  intro v6 v7 r h σ hσ;rw[Kd] at h;refine Ai ?_;obtain⟨h8,h⟩|⟨h8,h⟩:=ic h
  ·try simp only[hσ,h8,Qb,C,E,F,G,H,J]
   refine Ax (es:=I r8 ([(IntKind.u8.wrap (zJ .i64 ((48:U)+(zJ .i64 (Int.tmod v6 (10:U))))))]:P U)) ?_;obtain⟨h9,h⟩:=AT h;try simp only[h8,h9,C,E,F,G,H,J]
   refine ih h ?_;try simp only[h8,h9,C,E,F,G,H,J,pL,aM,Z]
  ·try simp only[hσ,h8,Qb,UJ,C,E,F,G,H,J]
   refine Ax (es:=I r8 ([(IntKind.u8.wrap (zJ .i64 ((48:U)+v6)))]:P U)) ?_;obtain⟨h10,h⟩:=AT h;try simp only[h8,h10,C,E,F,G,H,J]
   cases h;exact t0
theorem B2p(rec_:U→Q (P X))(a0:U)(r:(P X))(h_rec:∀(a0:U) zr,rec_ a0=N zr→FC zA 27 [.sc (.int .i64 a0)] [.sc (.v (.str zr))])(h:Ke rec_ a0=N r):FC zA 27 [.sc (.int .i64 a0)] [.sc (.v (.str r))]:=by
 unfold Ke at h;refine A9 mixed aw [2] 44 ?_;simp only[aw,C,E,F,G,H,J];obtain⟨h1,h⟩|⟨h1,h⟩:=ic h
 ·obtain⟨h2,h⟩|⟨h2,h⟩:=ic h
  ·try simp only[h1,h2,C,E,F,G,H,J]
   refine Ax (es:=I r8 ([(IntKind.u8.wrap (zJ .i64 ((48:U) - a0)))]:P U)) ?_;obtain⟨h3,h⟩:=AT h;try simp only[h1,h2,h3,C,E,F,G,H,J]
   cases h;exact t0
  ·try simp only[h1,h2,C,E,F,G,H,J]
   refine An ?_;obtain⟨r4,h4,h⟩:=ob h;try simp only[h1,h2,C,E,F,G,H,J]
   refine AF (h_rec _ _ h4) ?_;try simp only[h1,h2,C,E,F,G,H,J]
   refine fE (m:= .row 22 1 (I r8 ([(IntKind.u8.wrap (zJ .i64 ((48:U) - (zJ .i64 (Int.tmod a0 (10:U))))))]:P U))) Y Y (WL Y) ?_;obtain⟨h5,h⟩:=AT h;try simp only[h1,h2,h5,C,E,F,G,H,J]
   cases h;exact t0
 ·try simp only[h1,C,E,F,G,H,J]
  refine B5u h_rec h ?_;try simp only[h1,C,E,F,G,H,J,pL,aM,Z]
theorem B2q:∀(n:W) (a0:U) (r:(P X)),Eh n a0=N r→FC zA 27 [.sc (.int .i64 a0)] [.sc (.v (.str r))]:=by
 intro n
 induction n with
 | zero=>intro _ r h; cases h
 | succ n ih=>intro a0 r h; rw[Eh] at h; exact B2p (Eh n) a0 r ih h
theorem Y3{a0}{r}(h:Kc a0=N r):FC zA 27 [.sc (.int .i64 a0)] [.sc (.v (.str r))]:=B2q bigN a0 r h
/- 7:spec_PlanLines -/
def Qc:X0:=A1 [Ae [2,3,7,17,18,19] [3] [1024]] (A1 [bn 20 .lss 19 18] (Av 20 0 1 (A1 [mv 21 19,ia 22 17 19 5,lw 23 22 5,Al 9 [aI 0,aI 0,aI 0,aI 0,aI 0],mv 8 21,so 9 23 5] (A1 [mv 24 2,mv 25 8,ia 26 24 25 4,lw 27 26 4,Al 10 [aI 0,aI 0,aI 0,.nil],so 10 27 4] (.drw [(N [39,44,49,51],mv 28 7),(N [39,44,49],fa 29 3 5),(N [39,44,49],ld 30 29),(N [39,44,49],fa 31 9 0),(N [39,44,49],ld 32 31),(N [39,44,49],ia 33 30 32 6),(N [39,44,49],fa 34 33 0),(N [39,44,49],ld 35 34),(N [39,44,49],(O,.bin 36 .add (S 35) (KS [32,115,116,97,114,116,32]))),o0 (fa 37 10 0),o0 (ld 38 37),o0 (ca 39 27 [S 38]),(N [44,49],bn 40 .add 36 39),(N [44,49],(O,.bin 41 .add (S 40) (KS [32,97,114,114,105,118,101,32]))),(N [39],fa 42 10 1),(N [39],ld 43 42),o0 (ca 44 27 [S 43]),(N [49],bn 45 .add 41 44),(N [49],(O,.bin 46 .add (S 45) (KS [32,119,97,105,116,32]))),(N [39,44],fa 47 10 2),(N [39,44],ld 48 47),o0 (ca 49 27 [S 48]),o0 (bn 50 .add 46 49),o0 (AD 51 1 [.str []] 1 [(0,(S 50))]),(O,Be 52 1 16 28 51),o0 (mv 7 52)]))) (Au 53 19)))
def UL:X0:=(A2 [mv 54 7,mv 6 54])
def az:X0:=(A1 [bo 3 0,Ay 6] (Aa [lw 11 3 12,mv 12 1,mv 13 2,ca 14 26 [S 11,S 12,S 13],nt 15 14] 15 (A2 [Ay 6]) (A1 [AD 16 1 [.str []] 0 [],mv 7 16] (A5 (A1 [mv 17 1,ln 18 17,A6 19 0] (Ah 0 Qc)) UL))))
def oJ:=fun a2 a1 (a0:X7) (k_:U→(P (P X))→Q (P (P X)))=>∀{v3 v4} {zr},k_ v3 v4=N zr→Kp zA [2,3,7,17,18,19] [3] [1024] ⟨[pL 2 X2.row a2,pB 3,pW 7 1024,pL 17 zC a1,pI 18 (a1.length:U),pI 19 v3],[(3,([aI a0.Forecast.Tide.Mean,aM zD a0.Forecast.Tide.Parts,aM zE a0.Forecast.Surges,aM X9.row a0.Chart.Points,aM X3.row a0.Chart.Segments,aM X5.row a0.Fleet,aI a0.Regime.Gap,aB a0.Regime.NoMeet]++dm a0.Crew.row))],[(1024,1,I rS v4)]⟩ (.code (.loop Qc):: [.blk 0,.code UL]) (Ag [6] [.sc (.o 1 (I rS zr))])
theorem B5v{a2 a1 a0}{n:W}:oJ a2 a1 a0 (Gb a2 a1 a0 n):=by
 induction n with
 | zero=>intro _ _ r h; cases h
 | succ n ih=>
  intro v3 v4 r h σ hσ;rw[Gb] at h;refine Ai ?_;obtain⟨h5,h⟩|⟨h5,h⟩:=ic h
  ·obtain⟨x6,h6,h⟩:=ob h;try simp only[hσ,h5,h6,Qc,C,E,F,G,H,J]
   refine Am ?_;obtain⟨x7,h7,h⟩:=ob h;try simp only[h5,h6,h7,C,E,F,G,H,J]
   refine Am ?_;try simp only[h5,h6,h7,C,E,F,G,H,J]
   refine An ?_;obtain⟨x8,h8,h⟩:=ob h;obtain⟨h9,h⟩:=AT h;obtain⟨r10,h10,h⟩:=ob h;try simp only[h5,h6,h7,h8,h9,C,E,F,G,H,J]
   refine AF (Y3 h10) ?_;obtain⟨h11,h⟩:=AT h;obtain⟨h12,h⟩:=AT h;try simp only[zF,zG] at h12
   obtain⟨r13,h13,h⟩:=ob h;try simp only[h5,h6,h7,h8,h9,h11,h12,C,E,F,G,H,J]
   refine AF (Y3 h13) ?_;obtain⟨h14,h⟩:=AT h;try simp only[zF,zG] at h14
   obtain⟨h15,h⟩:=AT h;try simp only[zF,zG] at h15
   obtain⟨r16,h16,h⟩:=ob h;try simp only[h5,h6,h7,h8,h9,h11,h12,h14,h15,C,E,F,G,H,J]
   refine AF (Y3 h16) ?_;obtain⟨h17,h⟩:=AT h;try simp only[zF,zG] at h17
   try simp only[h5,h6,h7,h8,h9,h11,h12,h14,h15,h17,C,E,F,G,H,J]
   refine Ax (es:=I rS ([((((((x8.Name++([32,115,116,97,114,116,32]:P X))++r10)++([32,97,114,114,105,118,101,32]:P X))++r13)++([32,119,97,105,116,32]:P X))++r16)]:P (P X))) ?_;obtain⟨h18,h⟩:=AT h;try simp only[zF,zG] at h18
   try simp only[h5,h6,h7,h8,h9,h11,h12,h14,h15,h17,h18,C,E,F,G,H,J]
   refine An ?_;try simp only[h5,h6,h7,h8,h9,h11,h12,h14,h15,h17,h18,C,E,F,G,H,J]
   refine ih h ?_;try simp only[h5,h6,h7,h8,h9,h11,h12,h14,h15,h17,h18,C,E,F,G,H,J,pL,aM,Z]
  ·try simp only[hσ,h5,Qc,UL,C,E,F,G,H,J]
   cases h;exact t0
theorem B24{a0}{a1}{a2}{r}(h:NH a0 a1 a2=N r):FC zA 7 [.ag (X7.row a0),.sc (.sl (I zC a1)),.sc (.sl (I X2.row a2))] [.sc (.o 1 (I rS r))]:=by
 unfold NH at h;refine A9 mixed az [6] 55 ?_;simp only[az,C,E,F,G,H,J];try simp only[C,E,F,G,H,J]
 refine A8 ?_;obtain⟨r1,h1,h⟩:=ob h;try simp only[C,E,F,G,H,J]
 refine A4 (B2v h1) ?_;obtain⟨h2,h⟩|⟨h2,h⟩:=ic h
 ·try simp only[h2,C,E,F,G,H,J]
  refine Ax (es:=I rS ([]:P (P X))) ?_;try simp only[h2,C,E,F,G,H,J]
  refine B5v h ?_;try simp only[h2,C,E,F,G,H,J,pL,aM,Z]
 ·try simp only[h2,C,E,F,G,H,J]
  cases h;exact t0
/- 133:impl_within -/
def bA:X0:=(A1 [A3 6 L] (A2 [mv 7 1,mv 8 0,bn 9 .leq 7 8,mv 10 9,Af 10 T 11 0,Af 10 T 12 2,AK 10 T 13 .leq 11 12,pa 14 10 13,mv 6 14]))
theorem Ci{a0}{a1}{a2}{r}(h:BN a0 a1 a2=N r):FC zA 133 [.sc (.int .i64 a0),.sc (.int .i64 a1),.sc (.int .i64 a2)] [.sc (.v (.bool r))]:=by
 unfold BN at h;refine A9 mixed bA [6] 15 ?_;simp only[bA,C,E,F,G,H,J];obtain⟨h1,h⟩|⟨h1,h⟩:=ic h
 ·try simp only[h1,C,E,F,G,H,J]
  cases h;exact t0
 ·try simp only[h1,C,E,F,G,H,J]
  cases h;exact t0
/- 223:impl_isPeriod -/
def bB:X0:=(A1 [A3 2 L] (A2 [mv 3 0,ca 4 133 [S 3,K 4,K 2880],mv 5 4,Af 5 T 6 0,AP 5 T 7 .rem 6 4,AP 5 T 8 .eql 7 0,pa 9 5 8,mv 2 9]))
theorem jh{a0}{r}(h:JO a0=N r):FC zA 223 [.sc (.int .i64 a0)] [.sc (.v (.bool r))]:=by
 unfold JO at h;refine A9 mixed bB [2] 10 ?_;simp only[bB,C,E,F,G,H,J];obtain⟨r1,h1,h⟩:=ob h;try simp only[C,E,F,G,H,J]
 refine A4 (Ci h1) ?_;obtain⟨h2,h⟩|⟨h2,h⟩:=ic h
 ·try simp only[h2,C,E,F,G,H,J]
  cases h;exact t0
 ·try simp only[h2,C,E,F,G,H,J]
  cases h;exact t0
/- 200:impl_PartOk -/
def bC:X0:=(A1 [bo 1 0,A3 2 L] (A2 [fa 3 1 0,ld 4 3,ca 5 133 [S 4,K 0,K 1000],mv 6 5,Ab 6 T 7 1 1,Ad 6 T 8 7,Ak 6 T 9 223 [S 8],pa 10 6 9,mv 11 10,Ab 11 T 12 1 2,Ad 11 T 13 12,Ab 11 T 14 1 1,Ad 11 T 15 14,AP 11 T 16 .sub 15 1,Ak 11 T 17 133 [S 13,K 0,S 16],pa 18 11 17,mv 2 18]))
theorem A9b{a0}{r}(h:M9 a0=N r):FC zA 200 [.ag (zD a0)] [.sc (.v (.bool r))]:=by
 unfold M9 at h;refine A9 mixed bC [2] 19 ?_;simp only[bC,C,E,F,G,H,J];try simp only[C,E,F,G,H,J]
 refine A8 ?_;obtain⟨r1,h1,h⟩:=ob h;try simp only[C,E,F,G,H,J]
 refine A4 (Ci h1) ?_;obtain⟨h2,h⟩|⟨h2,h⟩:=ic h
 ·obtain⟨r3,h3,h⟩:=ob h;try simp only[h2,C,E,F,G,H,J]
  refine A4 (jh h3) ?_;obtain⟨h4,h⟩|⟨h4,h⟩:=ic h
  ·obtain⟨r5,h5,h⟩:=ob h;try simp only[h2,h4,C,E,F,G,H,J]
   refine A4 (Ci h5) ?_;try simp only[h2,h4,C,E,F,G,H,J]
   cases h;exact t0
  ·try simp only[h2,h4,C,E,F,G,H,J]
   cases h;exact t0
 ·try simp only[h2,C,E,F,G,H,J]
  cases h;exact t0
/- 167:impl_TideOk -/
def Qd:X0:=A1 [Ae [16,17,18] [] []] (A1 [bn 19 .lss 18 17] (Av 19 0 1 (A1 [ia 20 16 18 3,lw 21 20 3,Al 4 [aI 0,aI 0,aI 0],so 4 21 3] (A1 [lw 22 4 3,ca 23 200 [S 22],nt 24 23] (Aq 24 (A2 [A3 2 L])))) (Au 25 18)))
def UM:X0:=(A2 [A3 2 T])
def bE:X0:=(A1 [bo 1 0,A3 2 L] (Aa [fa 5 1 0,ld 6 5,ca 7 133 [S 6,K (-1000),K 1000],nt 8 7,mv 9 8,Ab 9 L 10 1 1,Ad 9 L 11 10,B1 9 L 12 11,AP 9 L 13 .gtr 12 4,po 14 9 13] 14 (A2 [A3 2 L]) (A5 (A1 [fa 15 1 1,ld 16 15,ln 17 16,A6 18 0] (Ah 0 Qd)) UM)))
def mI:=fun(a0:Xi) (k_:U→Q V)=>∀{v4} {zr},k_ v4=N zr→Kp zA [16,17,18] [] [] ⟨[pL 16 zD a0.Parts,pI 17 (a0.Parts.length:U),pI 18 v4],[],[]⟩ (.code (.loop Qd):: [.blk 0,.code UM]) (Ag [2] [.sc (.v (.bool zr))])
theorem B5w{a0}{n:W}:mI a0 (Hv a0 n):=by
 induction n with
 | zero=>intro _ r h; cases h
 | succ n ih=>
  intro v4 r h σ hσ;rw[Hv] at h;refine Ai ?_;obtain⟨h5,h⟩|⟨h5,h⟩:=ic h
  ·obtain⟨x6,h6,h⟩:=ob h;try simp only[hσ,h5,h6,Qd,C,E,F,G,H,J]
   refine Am ?_;obtain⟨r7,h7,h⟩:=ob h;try simp only[h5,h6,C,E,F,G,H,J]
   refine A4 (A9b h7) ?_;obtain⟨h8,h⟩|⟨h8,h⟩:=ic h
   ·try simp only[h5,h6,h8,C,E,F,G,H,J]
    refine ih h ?_;try simp only[h5,h6,h8,C,E,F,G,H,J,pL,aM,Z]
   ·try simp only[h5,h6,h8,C,E,F,G,H,J]
    cases h;exact t0
  ·try simp only[hσ,h5,Qd,UM,C,E,F,G,H,J]
   cases h;exact t0
theorem A9q{a0}{r}(h:Mj a0=N r):FC zA 167 [.ag (Xi.row a0)] [.sc (.v (.bool r))]:=by
 unfold Mj at h;refine A9 mixed bE [2] 26 ?_;simp only[bE,C,E,F,G,H,J];try simp only[C,E,F,G,H,J]
 refine A8 ?_;obtain⟨r1,h1,h⟩:=ob h;try simp only[C,E,F,G,H,J]
 refine A4 (Ci h1) ?_;obtain⟨h2,h⟩|⟨h2,h⟩:=ic h
 ·obtain⟨h3,h⟩|⟨h3,h⟩:=ic h
  ·try simp only[h2,h3,C,E,F,G,H,J]
   cases h;exact t0
  ·try simp only[h2,h3,C,E,F,G,H,J]
   refine B5w h ?_;try simp only[h2,h3,C,E,F,G,H,J,pL,aM,Z]
 ·try simp only[h2,C,E,F,G,H,J]
  cases h;exact t0
/- 132:impl_isMinute -/
def bF:X0:=(A1 [A3 2 L] (A2 [mv 3 0,ca 4 133 [S 3,K 0,K 2880],mv 2 4]))
theorem FD{a0}{r}(h:CY a0=N r):FC zA 132 [.sc (.int .i64 a0)] [.sc (.v (.bool r))]:=by
 unfold CY at h;refine A9 mixed bF [2] 5 ?_;simp only[bF,C,E,F,G,H,J];obtain⟨r1,h1,h⟩:=ob h;try simp only[C,E,F,G,H,J]
 refine A4 (Ci h1) ?_;try simp only[C,E,F,G,H,J]
 cases h;exact t0
/- 168:impl_SurgeOk -/
def bG:X0:=(A1 [bo 1 0,A3 2 L] (A2 [fa 3 1 0,ld 4 3,ca 5 132 [S 4],mv 6 5,Ab 6 T 7 1 1,Ad 6 T 8 7,(N (6,T),.bin 9 .leq (K (-500)) (S 8)),pa 10 6 9,mv 11 10,Ab 11 T 12 1 1,Ad 11 T 13 12,Ab 11 T 14 1 2,Ad 11 T 15 14,AK 11 T 16 .leq 13 15,pa 17 11 16,mv 18 17,Ab 18 T 19 1 2,Ad 18 T 20 19,AP 18 T 21 .leq 20 500,pa 22 18 21,mv 2 22]))
theorem A9p{a0}{r}(h:Mi a0=N r):FC zA 168 [.ag (zE a0)] [.sc (.v (.bool r))]:=by
 unfold Mi at h;refine A9 mixed bG [2] 23 ?_;simp only[bG,C,E,F,G,H,J];try simp only[C,E,F,G,H,J]
 refine A8 ?_;obtain⟨r1,h1,h⟩:=ob h;try simp only[C,E,F,G,H,J]
 refine A4 (FD h1) ?_;obtain⟨h2,h⟩|⟨h2,h⟩:=ic h
 ·obtain⟨h3,h⟩|⟨h3,h⟩:=ic h
  ·obtain⟨h4,h⟩|⟨h4,h⟩:=ic h
   ·try simp only[h2,h3,h4,C,E,F,G,H,J]
    cases h;exact t0
   ·try simp only[h2,h3,h4,C,E,F,G,H,J]
    cases h;exact t0
  ·try simp only[h2,h3,C,E,F,G,H,J]
   cases h;exact t0
 ·try simp only[h2,C,E,F,G,H,J]
  cases h;exact t0
/- 126:impl_ForecastOk -/
def Qe:X0:=A1 [Ae [1,25,26,27] [1] []] (A1 [bn 28 .lss 27 26] (Av 28 0 1 (A1 [mv 29 27,ia 30 25 27 3,lw 31 30 3,Al 4 [aI 0,aI 0,aI 0],mv 3 29,so 4 31 3] (A5 (.drw [o0 (lw 32 4 3),o0 (ca 33 168 [S 32]),o0 (nt 34 33),o0 (mv 35 34),o0 (Af 35 L 36 3),o0 (AP 35 L 37 .gtr 36 0),o0 (Af 35 L 38 37),o0 (Ab 38 T 39 1 2),o0 (Ad 38 T 40 39),o0 (Af 38 T 41 3),o0 (AP 38 T 42 .sub 41 1),o0 (CC 38 T 43 40 42 3),o0 (Ab 38 T 44 43 0),o0 (Ad 38 T 45 44),o0 (Ab 38 T 46 4 0),o0 (Ad 38 T 47 46),o0 (AK 38 T 48 .geq 45 47),o0 (N (35,L),.pick 49 (S 38) (S 48) (KB L)),o0 (po 50 35 49)]) (Aq 50 (A2 [A3 2 L])))) (Au 51 27)))
def UN:X0:=(A2 [A3 2 T])
def bH:X0:=(A1 [bo 1 0,A3 2 L] (Aa [fa 5 1 0,lw 6 5 2,ca 7 167 [S 6],nt 8 7,mv 9 8,Ab 9 L 10 1 2,Ad 9 L 11 10,B1 9 L 12 11,Ak 9 L 13 133 [S 12,K 1,K 6],AN 9 L 14 13,po 15 9 14,mv 16 15,Ab 16 L 17 1 2,Ad 16 L 18 17,(N (16,L),.iaddr 19 (S 18) (K 0) 3),Ab 16 L 20 19 0,Ad 16 L 21 20,AP 16 L 22 .neq 21 0,po 23 16 22] 23 (A2 [A3 2 L]) (A5 (A1 [fa 24 1 2,ld 25 24,ln 26 25,A6 27 0] (Ah 0 Qe)) UN)))
def lm:=fun(a0:Xc) (k_:U→Q V)=>∀{v7} {zr},k_ v7=N zr→Kp zA [1,25,26,27] [1] [] ⟨[pB 1,pL 25 zE a0.Surges,pI 26 (a0.Surges.length:U),pI 27 v7],[(1,[aI a0.Tide.Mean,aM zD a0.Tide.Parts,aM zE a0.Surges])],[]⟩ (.code (.loop Qe):: [.blk 0,.code UN]) (Ag [2] [.sc (.v (.bool zr))])
theorem B5x{a0}{n:W}:lm a0 (FM a0 n):=by
 induction n with
 | zero=>intro _ r h; cases h
 | succ n ih=>
  intro v7 r h σ hσ;rw[FM] at h;refine Ai ?_;obtain⟨h8,h⟩|⟨h8,h⟩:=ic h
  ·obtain⟨x9,h9,h⟩:=ob h;try simp only[hσ,h8,h9,Qe,C,E,F,G,H,J]
   refine Am ?_;try simp only[h8,h9,C,E,F,G,H,J]
   refine An ?_;obtain⟨r10,h10,h⟩:=ob h;try simp only[h8,h9,C,E,F,G,H,J]
   refine AF (A9p h10) ?_;obtain⟨h11,h⟩|⟨h11,h⟩:=ic h
   ·obtain⟨h12,h⟩|⟨h12,h⟩:=ic h
    ·obtain⟨x13,h13,h⟩:=ob h;obtain⟨h14,h⟩|⟨h14,h⟩:=ic h
     ·try simp only[h8,h9,h11,h12,h13,h14,C,E,F,G,H,J]
      cases h;exact t0
     ·try simp only[h8,h9,h11,h12,h13,h14,C,E,F,G,H,J]
      refine ih h ?_;try simp only[h8,h9,h11,h12,h13,h14,C,E,F,G,H,J,pL,aM,Z]
    ·try simp only[h8,h9,h11,h12,C,E,F,G,H,J]
     refine ih h ?_;try simp only[h8,h9,h11,h12,C,E,F,G,H,J,pL,aM,Z]
   ·try simp only[h8,h9,h11,C,E,F,G,H,J]
    cases h;exact t0
  ·try simp only[hσ,h8,Qe,UN,C,E,F,G,H,J]
   cases h;exact t0
theorem Tp{a0}{r}(h:FL a0=N r):FC zA 126 [.ag (zI a0)] [.sc (.v (.bool r))]:=by
 unfold FL at h;refine A9 mixed bH [2] 52 ?_;simp only[bH,C,E,F,G,H,J];try simp only[C,E,F,G,H,J]
 refine A8 ?_;obtain⟨r1,h1,h⟩:=ob h;try simp only[C,E,F,G,H,J]
 refine A4 (A9q h1) ?_;obtain⟨h2,h⟩|⟨h2,h⟩:=ic h
 ·obtain⟨r3,h3,h⟩:=ob h;try simp only[h2,C,E,F,G,H,J]
  refine A4 (Ci h3) ?_;obtain⟨h4,h⟩|⟨h4,h⟩:=ic h
  ·obtain⟨x5,h5,h⟩:=ob h;obtain⟨h6,h⟩|⟨h6,h⟩:=ic h
   ·try simp only[h2,h4,h5,h6,C,E,F,G,H,J]
    cases h;exact t0
   ·try simp only[h2,h4,h5,h6,C,E,F,G,H,J]
    refine B5x h ?_;try simp only[h2,h4,h5,h6,C,E,F,G,H,J,pL,aM,Z]
  ·try simp only[h2,h4,C,E,F,G,H,J]
   cases h;exact t0
 ·try simp only[h2,C,E,F,G,H,J]
  cases h;exact t0
/- 169:impl_IsName -/
def GZ:X0:=A1 [Ae [0,3,4] [] []] (A1 [mv 25 4,nt 26 25,mv 27 26,Af 27 T 28 3,AP 27 T 29 .eql 28 0,Af 27 T 30 29,Af 30 L 31 0,Af 30 L 32 3,(N (30,L),.idx 33 (S 31) (S 32)),(N (30,L),.bin 34 .lss (S 33) (K8 48)),(N (27,T),.pick 35 (S 30) (KB T) (S 34)),Af 27 T 36 35,Af 36 L 37 0,Af 36 L 38 3,(N (36,L),.idx 39 (S 37) (S 38)),(N (36,L),.bin 40 .gtr (S 39) (K8 57)),(N (27,T),.pick 41 (S 36) (KB T) (S 40)),pa 42 27 41] (Aq 42 (A2 [A3 2 L])))
def Qf:X0:=A1 [Ae [0,3] [] []] (.reg [mv 13 3,Ac 14 .add 13 1,mv 3 14])
def H0:X0:=A1 [Ae [0,3] [] []] (A5 (A1 [mv 9 3,mv 10 0,(O,.slen 11 (S 10)),bn 12 .lss 9 11] (AL 12 .skip (.exit 0))) (A5 (.block 1 (A1 [mv 15 0,mv 16 3,(O,.idx 17 (S 15) (S 16)),(O,.bin 18 .geq (S 17) (K8 97)),mv 19 18,Af 19 T 20 0,Af 19 T 21 3,(N (19,T),.idx 22 (S 20) (S 21)),(N (19,T),.bin 23 .leq (S 22) (K8 122)),pa 24 19 23,mv 4 24] GZ)) Qf))
def Ls:X0:=(A2 [A3 2 T])
def bI:X0:=(A1 [A3 2 L] (Aa [mv 5 0,(O,.slen 6 (S 5)),ca 7 133 [S 6,K 1,K 8],nt 8 7] 8 (A2 [A3 2 L]) (A5 (A1 [A6 3 0] (Ah 0 H0)) Ls)))
def lx:=fun a0 v3 (k_:Q V)=>∀{zr},k_=N zr→Kp zA [0,3] [] [] ⟨[(0,vc (aS a0)),pI 3 v3],[],[]⟩ (.code Qf:: [.code (.loop H0),.blk 0,.code Ls]) (Ag [2] [.sc (.v (.bool zr))])
def lu:=fun a0 v3 (k_:V→Q V)=>∀{v7} {zr},k_ v7=N zr→Kp zA [0,3,4] [] [] ⟨[(0,vc (aS a0)),pI 3 v3,(4,vc (aB v7))],[],[]⟩ (.code GZ:: [.blk 1,.code Qf,.code (.loop H0),.blk 0,.code Ls]) (Ag [2] [.sc (.v (.bool zr))])
def Tz:=fun a0 (k_:U→Q V)=>∀{v3} {zr},k_ v3=N zr→Kp zA [0,3] [] [] ⟨[(0,vc (aS a0)),pI 3 v3],[],[]⟩ (.code (.loop H0):: [.blk 0,.code Ls]) (Ag [2] [.sc (.v (.bool zr))])
theorem kq{a0 v3}{En}(SH:Tz a0 En):lx a0 v3 (M1 a0 v3 En):=by
 intro r h σ hσ;unfold M1 at h;try simp only[hσ,Qf,C,E,F,G,H,J]
 refine SH h ?_;try simp only[C,E,F,G,H,J,pL,aM,Z]
theorem kr{a0 v3}{En}(SH:Tz a0 En):lu a0 v3 (M0 a0 v3 En):=by
 intro v7 r h σ hσ;unfold M0 at h;obtain⟨h8,h⟩|⟨h8,h⟩:=ic h
 ·try simp only[hσ,h8,GZ,C,E,F,G,H,J]
  refine kq SH h ?_;try simp only[h8,C,E,F,G,H,J,pL,aM,Z]
 ·obtain⟨h9,h⟩|⟨h9,h⟩:=ic h
  ·try simp only[hσ,h8,h9,GZ,C,E,F,G,H,J]
   cases h;exact t0
  ·obtain⟨b10,h10,h⟩:=ob h;obtain⟨h11,h⟩|⟨h11,h⟩:=ic h
   ·try simp only[hσ,h8,h9,h10,h11,GZ,C,E,F,G,H,J]
    cases h;exact t0
   ·obtain⟨h12,h⟩|⟨h12,h⟩:=ic h
    ·try simp only[hσ,h8,h9,h10,h11,h12,GZ,C,E,F,G,H,J]
     cases h;exact t0
    ·try simp only[hσ,h8,h9,h10,h11,h12,GZ,C,E,F,G,H,J]
     refine kq SH h ?_;try simp only[h8,h9,h10,h11,h12,C,E,F,G,H,J,pL,aM,Z]
theorem B5z{a0}{n:W}:Tz a0 (FN a0 n):=by
 induction n with
 | zero=>intro _ r h; cases h
 | succ n ih=>
  intro v3 r h σ hσ;rw[FN] at h;refine Ai ?_;obtain⟨h4,h⟩|⟨h4,h⟩:=ic h
  ·obtain⟨b5,h5,h⟩:=ob h;obtain⟨h6,h⟩|⟨h6,h⟩:=ic h
   ·try simp only[hσ,h4,h5,h6,H0,C,E,F,G,H,J]
    refine kr ih h ?_;try simp only[h4,h5,h6,C,E,F,G,H,J,pL,aM,Z]
   ·try simp only[hσ,h4,h5,h6,H0,C,E,F,G,H,J]
    refine kr ih h ?_;try simp only[h4,h5,h6,C,E,F,G,H,J,pL,aM,Z]
  ·try simp only[hσ,h4,H0,Ls,C,E,F,G,H,J]
   cases h;exact t0
theorem jX{a0}{r}(h:JE a0=N r):FC zA 169 [.sc (.str a0)] [.sc (.v (.bool r))]:=by
 unfold JE at h;refine A9 mixed bI [2] 43 ?_;simp only[bI,C,E,F,G,H,J];obtain⟨r1,h1,h⟩:=ob h;try simp only[C,E,F,G,H,J]
 refine A4 (Ci h1) ?_;obtain⟨h2,h⟩|⟨h2,h⟩:=ic h
 ·try simp only[h2,C,E,F,G,H,J]
  refine B5z h ?_;try simp only[h2,C,E,F,G,H,J,pL,aM,Z]
 ·try simp only[h2,C,E,F,G,H,J]
  cases h;exact t0
/- 170:impl_PointNamed -/
def Qg:X0:=A1 [Ae [1,8,9,10] [] []] (A1 [bn 11 .lss 10 9] (Av 11 0 1 (A1 [mv 12 10,ia 13 8 10 2,lw 14 13 2,Al 6 [aS [],aB L],mv 5 12,so 6 14 2] (A1 [fa 15 6 0,ld 16 15,mv 17 1,bn 18 .eql 16 17] (Aq 18 (A2 [mv 19 5,mv 4 19])))) (Au 20 10)))
def UO:X0:=(A2 [A6 4 (-1)])
def bJ:X0:=(A1 [bo 2 0,A6 4 0] (A5 (A1 [fa 7 2 0,ld 8 7,ln 9 8,A6 10 0] (Ah 0 Qg)) UO))
def mE:=fun a1 (a0:X6) (k_:U→Q U)=>∀{v1} {zr},k_ v1=N zr→Kp zA [1,8,9,10] [] [] ⟨[(1,vc (aS a1)),pL 8 X9.row a0.Points,pI 9 (a0.Points.length:U),pI 10 v1],[],[]⟩ (.code (.loop Qg):: [.blk 0,.code UO]) (Ag [4] [.sc (.v (.int .i64 zr))])
theorem B50{a1 a0}{n:W}:mE a1 a0 (Hq a1 a0 n):=by
 induction n with
 | zero=>intro _ r h; cases h
 | succ n ih=>
  intro v1 r h σ hσ;rw[Hq] at h;refine Ai ?_;obtain⟨h2,h⟩|⟨h2,h⟩:=ic h
  ·obtain⟨x3,h3,h⟩:=ob h;try simp only[hσ,h2,h3,Qg,C,E,F,G,H,J]
   refine Am ?_;obtain⟨h4,h⟩|⟨h4,h⟩:=ic h
   ·try simp only[h2,h3,h4,C,E,F,G,H,J]
    cases h;exact t0
   ·try simp only[h2,h3,h4,C,E,F,G,H,J]
    refine ih h ?_;try simp only[h2,h3,h4,C,E,F,G,H,J,pL,aM,Z]
  ·try simp only[hσ,h2,Qg,UO,C,E,F,G,H,J]
   cases h;exact t0
theorem A9e{a0}{a1}{r}(h:Mc a0 a1=N r):FC zA 170 [.ag (X6.row a0),.sc (.str a1)] [.sc (.v (.int .i64 r))]:=by
 unfold Mc at h;refine A9 mixed bJ [4] 21 ?_;simp only[bJ,C,E,F,G,H,J];try simp only[C,E,F,G,H,J]
 refine A8 ?_;try simp only[C,E,F,G,H,J]
 refine B50 h ?_;try simp only[C,E,F,G,H,J,pL,aM,Z]
/- 131:impl_isIndex -/
def bL:X0:=(A1 [A3 4 L] (A2 [mv 5 0,Ac 6 .geq 5 0,mv 7 6,Af 7 T 8 0,Af 7 T 9 1,AK 7 T 10 .lss 8 9,pa 11 7 10,mv 4 11]))
theorem Cv{a0}{a1}{r}(h:BM a0 a1=N r):FC zA 131 [.sc (.int .i64 a0),.sc (.int .i64 a1)] [.sc (.v (.bool r))]:=by
 unfold BM at h;refine A9 mixed bL [4] 12 ?_;simp only[bL,C,E,F,G,H,J];obtain⟨h1,h⟩|⟨h1,h⟩:=ic h
 ·try simp only[h1,C,E,F,G,H,J]
  cases h;exact t0
 ·try simp only[h1,C,E,F,G,H,J]
  cases h;exact t0
/- 171:impl_Segment_joins -/
def bM:X0:=(A1 [bo 3 0,A3 6 L] (A2 [fa 7 3 0,ld 8 7,mv 9 1,bn 10 .eql 8 9,mv 11 10,Ab 11 T 12 3 1,Ad 11 T 13 12,Af 11 T 14 2,AK 11 T 15 .eql 13 14,pa 16 11 15,mv 17 16,Ab 17 L 18 3 0,Ad 17 L 19 18,Af 17 L 20 2,AK 17 L 21 .eql 19 20,Af 17 L 22 21,Ab 22 T 23 3 1,Ad 22 T 24 23,Af 22 T 25 1,AK 22 T 26 .eql 24 25,(N (17,L),.pick 27 (S 22) (S 26) (KB L)),po 28 17 27,mv 6 28]))
theorem A9j{a0}{a1}{a2}{r}(h:Mf a0 a1 a2=N r):FC zA 171 [.ag (X3.row a0),.sc (.int .i64 a1),.sc (.int .i64 a2)] [.sc (.v (.bool r))]:=by
 unfold Mf at h;refine A9 mixed bM [6] 29 ?_;simp only[bM,C,E,F,G,H,J];try simp only[C,E,F,G,H,J]
 refine A8 ?_;obtain⟨h1,h⟩|⟨h1,h⟩:=ic h
 ·obtain⟨h2,h⟩|⟨h2,h⟩:=ic h
  ·try simp only[h1,h2,C,E,F,G,H,J]
   cases h;exact t0
  ·obtain⟨h3,h⟩|⟨h3,h⟩:=ic h
   ·try simp only[h1,h2,h3,C,E,F,G,H,J]
    cases h;exact t0
   ·try simp only[h1,h2,h3,C,E,F,G,H,J]
    cases h;exact t0
 ·obtain⟨h4,h⟩|⟨h4,h⟩:=ic h
  ·try simp only[h1,h4,C,E,F,G,H,J]
   cases h;exact t0
  ·try simp only[h1,h4,C,E,F,G,H,J]
   cases h;exact t0
/- 127:impl_ChartOk -/
def Qh:X0:=A1 [Ae [1,20,21,22] [1] []] (A1 [bn 23 .lss 22 21] (Av 23 0 1 (A1 [mv 24 22,ia 25 20 22 2,lw 26 25 2,Al 4 [aS [],aB L],mv 3 24,so 4 26 2] (A1 [fa 27 4 0,ld 28 27,ca 29 169 [S 28],nt 30 29,mv 31 30,AQ 31 L 32 1 2,Ab 31 L 33 4 0,Ad 31 L 34 33,Ak 31 L 35 170 [S 32,S 34],Af 31 L 36 3,AK 31 L 37 .neq 35 36,po 38 31 37] (Aq 38 (A2 [A3 2 L])))) (Au 39 22)))
def Qi:X0:=A1 [Ae [1,6,41,42,43,86,87,88] [1,6] []] (A1 [bn 89 .lss 88 87] (Av 89 4 5 (A1 [ia 90 86 88 5,lw 91 90 5,Al 8 [aI 0,aI 0,aI 0,aI 0,aB L],so 8 91 5] (A1 [lw 92 8 5,fa 93 6 0,ld 94 93,fa 95 6 1,ld 96 95,ca 97 171 [S 92,S 94,S 96]] (Aq 97 (A2 [A3 2 L])))) (Au 98 88)))
def UP:X0:=(Au 99 43)
def Lt:X0:=A1 [Ae [1,41,42,43] [1] []] (A1 [bn 44 .lss 43 42] (Av 44 2 3 (A1 [mv 45 43,ia 46 41 43 5,lw 47 46 5,Al 6 [aI 0,aI 0,aI 0,aI 0,aB L],mv 5 45,so 6 47 5] (Aa [fa 48 6 0,ld 49 48,fa 50 1 0,ld 51 50,ln 52 51,ca 53 131 [S 49,S 52],nt 54 53,mv 55 54,Ab 55 L 56 6 1,Ad 55 L 57 56,Ab 55 L 58 1 0,Ad 55 L 59 58,B1 55 L 60 59,Ak 55 L 61 131 [S 57,S 60],AN 55 L 62 61,po 63 55 62,mv 64 63,Ab 64 L 65 6 0,Ad 64 L 66 65,Ab 64 L 67 6 1,Ad 64 L 68 67,AK 64 L 69 .eql 66 68,po 70 64 69,mv 71 70,Ab 71 L 72 6 2,Ad 71 L 73 72,Ak 71 L 74 133 [S 73,K 0,K 3000],AN 71 L 75 74,po 76 71 75,mv 77 76,Ab 77 L 78 6 3,Ad 77 L 79 78,Ak 77 L 80 133 [S 79,K 1,K 240],AN 77 L 81 80,po 82 77 81] 82 (A2 [A3 2 L]) (A1 [fa 83 1 1,ld 84 83,mv 85 5,(O,.slc 86 5 (S 84) O (N (S 85)) O),ln 87 86,A6 88 0] (Ah 4 Qi)))) UP))
def Qj:X0:=(A2 [A3 2 T])
def UQ:X0:=(A5 (A1 [fa 40 1 1,ld 41 40,ln 42 41,A6 43 0] (Ah 2 Lt)) Qj)
def bN:X0:=(A1 [bo 1 0,A3 2 L] (Aa [fa 9 1 0,ld 10 9,ln 11 10,Ac 12 .gtr 11 8,mv 13 12,Ab 13 L 14 1 1,Ad 13 L 15 14,B1 13 L 16 15,AP 13 L 17 .gtr 16 10,po 18 13 17] 18 (A2 [A3 2 L]) (A5 (A1 [fa 19 1 0,ld 20 19,ln 21 20,A6 22 0] (Ah 0 Qh)) UQ)))
def lg:=fun(a0:X6) v11 (x13:X3) y24 y25 (k_:U→Q V)=>∀{v26} {zr},k_ v26=N zr→Kp zA [1,6,41,42,43,86,87,88] [1,6] [] ⟨[pB 1,pB 6,pL 41 X3.row a0.Segments,pI 42 (a0.Segments.length:U),pI 43 v11,pL 86 X3.row y24,pI 87 y25,pI 88 v26],[(1,[aM X9.row a0.Points,aM X3.row a0.Segments]),(6,(dm x13.row))],[]⟩ (.code (.loop Qi):: [.blk 4,.blk 3,.code UP,.code (.loop Lt),.blk 2,.code Qj]) (Ag [2] [.sc (.v (.bool zr))])
def Yp:=fun(a0:X6) (k_:U→Q V)=>∀{v11} {zr},k_ v11=N zr→Kp zA [1,41,42,43] [1] [] ⟨[pB 1,pL 41 X3.row a0.Segments,pI 42 (a0.Segments.length:U),pI 43 v11],[(1,[aM X9.row a0.Points,aM X3.row a0.Segments])],[]⟩ (.code (.loop Lt):: [.blk 2,.code Qj]) (Ag [2] [.sc (.v (.bool zr))])
def lf:=fun(a0:X6) (k_:U→Q V)=>∀{v3} {zr},k_ v3=N zr→Kp zA [1,20,21,22] [1] [] ⟨[pB 1,pL 20 X9.row a0.Points,pI 21 (a0.Points.length:U),pI 22 v3],[(1,[aM X9.row a0.Points,aM X3.row a0.Segments])],[]⟩ (.code (.loop Qh):: [.blk 0,.code UQ]) (Ag [2] [.sc (.v (.bool zr))])
theorem B51{a0 v11 x13 y24 y25}{Ob}(xR:Yp a0 Ob){n:W}:lg a0 v11 x13 y24 y25 (H9 a0 v11 x13 y24 y25 Ob n):=by
 induction n with
 | zero=>intro _ r h; cases h
 | succ n ih=>
  intro v26 r h σ hσ;rw[H9] at h;refine Ai ?_;obtain⟨h27,h⟩|⟨h27,h⟩:=ic h
  ·obtain⟨x28,h28,h⟩:=ob h;try simp only[hσ,h27,h28,Qi,C,E,F,G,H,J]
   refine Am ?_;obtain⟨r29,h29,h⟩:=ob h;try simp only[h27,h28,C,E,F,G,H,J]
   refine A4 (A9j h29) ?_;obtain⟨h30,h⟩|⟨h30,h⟩:=ic h
   ·try simp only[h27,h28,h30,C,E,F,G,H,J]
    cases h;exact t0
   ·try simp only[h27,h28,h30,C,E,F,G,H,J]
    refine ih h ?_;try simp only[h27,h28,h30,C,E,F,G,H,J,pL,aM,Z]
  ·try simp only[hσ,h27,Qi,UP,C,E,F,G,H,J]
   refine xR h ?_;try simp only[h27,C,E,F,G,H,J,pL,aM,Z]
theorem B52{a0}{n:W}:Yp a0 (E9 a0 n):=by
 induction n with
 | zero=>intro _ r h; cases h
 | succ n ih=>
  intro v11 r h σ hσ;rw[E9] at h;refine Ai ?_;obtain⟨h12,h⟩|⟨h12,h⟩:=ic h
  ·obtain⟨x13,h13,h⟩:=ob h;try simp only[hσ,h12,h13,Lt,C,E,F,G,H,J]
   refine Am ?_;obtain⟨r14,h14,h⟩:=ob h;try simp only[h12,h13,C,E,F,G,H,J]
   refine A4 (Cv h14) ?_;obtain⟨h15,h⟩|⟨h15,h⟩:=ic h
   ·obtain⟨r16,h16,h⟩:=ob h;try simp only[h12,h13,h15,C,E,F,G,H,J]
    refine A4 (Cv h16) ?_;obtain⟨h17,h⟩|⟨h17,h⟩:=ic h
    ·obtain⟨h18,h⟩|⟨h18,h⟩:=ic h
     ·try simp only[h12,h13,h15,h17,h18,C,E,F,G,H,J]
      cases h;exact t0
     ·obtain⟨r19,h19,h⟩:=ob h;try simp only[h12,h13,h15,h17,h18,C,E,F,G,H,J]
      refine A4 (Ci h19) ?_;obtain⟨h20,h⟩|⟨h20,h⟩:=ic h
      ·obtain⟨r21,h21,h⟩:=ob h;try simp only[h12,h13,h15,h17,h18,h20,C,E,F,G,H,J]
       refine A4 (Ci h21) ?_;obtain⟨h22,h⟩|⟨h22,h⟩:=ic h
       ·obtain⟨p23,h23,h⟩:=ob h;try simp only[h12,h13,h15,h17,h18,h20,h22,h23,C,E,F,G,H,J]
        refine B51 ih h ?_;try simp only[h12,h13,h15,h17,h18,h20,h22,h23,C,E,F,G,H,J,pL,aM,Z]
       ·try simp only[h12,h13,h15,h17,h18,h20,h22,C,E,F,G,H,J]
        cases h;exact t0
      ·try simp only[h12,h13,h15,h17,h18,h20,C,E,F,G,H,J]
       cases h;exact t0
    ·try simp only[h12,h13,h15,h17,C,E,F,G,H,J]
     cases h;exact t0
   ·try simp only[h12,h13,h15,C,E,F,G,H,J]
    cases h;exact t0
  ·try simp only[hσ,h12,Lt,Qj,C,E,F,G,H,J]
   cases h;exact t0
theorem B53{a0}{n:W}:lf a0 (H8 a0 n):=by
 induction n with
 | zero=>intro _ r h; cases h
 | succ n ih=>
  intro v3 r h σ hσ;rw[H8] at h;refine Ai ?_;obtain⟨h4,h⟩|⟨h4,h⟩:=ic h
  ·obtain⟨x5,h5,h⟩:=ob h;try simp only[hσ,h4,h5,Qh,C,E,F,G,H,J]
   refine Am ?_;obtain⟨r6,h6,h⟩:=ob h;try simp only[h4,h5,C,E,F,G,H,J]
   refine A4 (jX h6) ?_;obtain⟨h7,h⟩|⟨h7,h⟩:=ic h
   ·obtain⟨r9,h9,h⟩:=ob h;try simp only[h4,h5,h7,C,E,F,G,H,J]
    refine A4 (A9e h9) ?_;obtain⟨h10,h⟩|⟨h10,h⟩:=ic h
    ·try simp only[h4,h5,h7,h10,C,E,F,G,H,J]
     cases h;exact t0
    ·try simp only[h4,h5,h7,h10,C,E,F,G,H,J]
     refine ih h ?_;try simp only[h4,h5,h7,h10,C,E,F,G,H,J,pL,aM,Z]
   ·try simp only[h4,h5,h7,C,E,F,G,H,J]
    cases h;exact t0
  ·try simp only[hσ,h4,Qh,UQ,C,E,F,G,H,J]
   refine B52 h ?_;try simp only[h4,C,E,F,G,H,J,pL,aM,Z]
theorem Ja{a0}{r}(h:DM a0=N r):FC zA 127 [.ag (X6.row a0)] [.sc (.v (.bool r))]:=by
 unfold DM at h;refine A9 mixed bN [2] 100 ?_;simp only[bN,C,E,F,G,H,J];try simp only[C,E,F,G,H,J]
 refine A8 ?_;obtain⟨h1,h⟩|⟨h1,h⟩:=ic h
 ·try simp only[h1,C,E,F,G,H,J]
  cases h;exact t0
 ·obtain⟨h2,h⟩|⟨h2,h⟩:=ic h
  ·try simp only[h1,h2,C,E,F,G,H,J]
   cases h;exact t0
  ·try simp only[h1,h2,C,E,F,G,H,J]
   refine B53 h ?_;try simp only[h1,h2,C,E,F,G,H,J,pL,aM,Z]
/- 172:impl_ShipOk -/
def bP:X0:=(A1 [bo 1 0,A3 2 L] (A2 [fa 3 1 0,ld 4 3,ca 5 169 [S 4],mv 6 5,Ab 6 T 7 1 1,Ad 6 T 8 7,Ak 6 T 9 133 [S 8,K 10,K 400],pa 10 6 9,mv 11 10,Ab 11 T 12 1 2,Ad 11 T 13 12,Ak 11 T 14 133 [S 13,K 100,K 2000],pa 15 11 14,mv 16 15,Ab 16 T 17 1 3,Ad 16 T 18 17,Ak 16 T 19 131 [S 18,K 4],pa 20 16 19,mv 21 20,Ab 21 T 22 1 4,Ad 21 T 23 22,Ak 21 T 24 133 [S 23,K 0,K 4],pa 25 21 24,mv 2 25]))
theorem L2{a0}{r}(h:Ea a0=N r):FC zA 172 [.ag (X5.row a0)] [.sc (.v (.bool r))]:=by
 unfold Ea at h;refine A9 mixed bP [2] 26 ?_;simp only[bP,C,E,F,G,H,J];try simp only[C,E,F,G,H,J]
 refine A8 ?_;obtain⟨r1,h1,h⟩:=ob h;try simp only[C,E,F,G,H,J]
 refine A4 (jX h1) ?_;obtain⟨h2,h⟩|⟨h2,h⟩:=ic h
 ·obtain⟨r3,h3,h⟩:=ob h;try simp only[h2,C,E,F,G,H,J]
  refine A4 (Ci h3) ?_;obtain⟨h4,h⟩|⟨h4,h⟩:=ic h
  ·obtain⟨r5,h5,h⟩:=ob h;try simp only[h2,h4,C,E,F,G,H,J]
   refine A4 (Ci h5) ?_;obtain⟨h6,h⟩|⟨h6,h⟩:=ic h
   ·obtain⟨r7,h7,h⟩:=ob h;try simp only[h2,h4,h6,C,E,F,G,H,J]
    refine A4 (Cv h7) ?_;obtain⟨h8,h⟩|⟨h8,h⟩:=ic h
    ·obtain⟨r9,h9,h⟩:=ob h;try simp only[h2,h4,h6,h8,C,E,F,G,H,J]
     refine A4 (Ci h9) ?_;try simp only[h2,h4,h6,h8,C,E,F,G,H,J]
     cases h;exact t0
    ·try simp only[h2,h4,h6,h8,C,E,F,G,H,J]
     cases h;exact t0
   ·try simp only[h2,h4,h6,C,E,F,G,H,J]
    cases h;exact t0
  ·try simp only[h2,h4,C,E,F,G,H,J]
   cases h;exact t0
 ·try simp only[h2,C,E,F,G,H,J]
  cases h;exact t0
/- 173:impl_ShipNamed -/
def Qk:X0:=A1 [Ae [1,7,8,9] [] []] (A1 [bn 10 .lss 9 8] (Av 10 0 1 (A1 [mv 11 9,ia 12 7 9 6,lw 13 12 6,Al 6 [aS [],aI 0,aI 0,aI 0,aI 0,aB L],mv 5 11,so 6 13 6] (A1 [fa 14 6 0,ld 15 14,mv 16 1,bn 17 .eql 15 16] (Aq 17 (A2 [mv 18 5,mv 4 18])))) (Au 19 9)))
def UR:X0:=(A2 [A6 4 (-1)])
def bQ:X0:=(A1 [A6 4 0] (A5 (A1 [mv 7 0,ln 8 7,A6 9 0] (Ah 0 Qk)) UR))
def mG:=fun a1 a0 (k_:U→Q U)=>∀{v1} {zr},k_ v1=N zr→Kp zA [1,7,8,9] [] [] ⟨[(1,vc (aS a1)),pL 7 X5.row a0,pI 8 (a0.length:U),pI 9 v1],[],[]⟩ (.code (.loop Qk):: [.blk 0,.code UR]) (Ag [4] [.sc (.v (.int .i64 zr))])
theorem B54{a1 a0}{n:W}:mG a1 a0 (Hu a1 a0 n):=by
 induction n with
 | zero=>intro _ r h; cases h
 | succ n ih=>
  intro v1 r h σ hσ;rw[Hu] at h;refine Ai ?_;obtain⟨h2,h⟩|⟨h2,h⟩:=ic h
  ·obtain⟨x3,h3,h⟩:=ob h;try simp only[hσ,h2,h3,Qk,C,E,F,G,H,J]
   refine Am ?_;obtain⟨h4,h⟩|⟨h4,h⟩:=ic h
   ·try simp only[h2,h3,h4,C,E,F,G,H,J]
    cases h;exact t0
   ·try simp only[h2,h3,h4,C,E,F,G,H,J]
    refine ih h ?_;try simp only[h2,h3,h4,C,E,F,G,H,J,pL,aM,Z]
  ·try simp only[hσ,h2,Qk,UR,C,E,F,G,H,J]
   cases h;exact t0
theorem A9k{a0}{a1}{r}(h:Mg a0 a1=N r):FC zA 173 [.sc (.sl (I X5.row a0)),.sc (.str a1)] [.sc (.v (.int .i64 r))]:=by
 unfold Mg at h;refine A9 mixed bQ [4] 20 ?_;simp only[bQ,C,E,F,G,H,J];try simp only[C,E,F,G,H,J]
 refine B54 h ?_;try simp only[C,E,F,G,H,J,pL,aM,Z]
/- 128:impl_FleetOk -/
def Ql:X0:=A1 [Ae [0,8,9,10] [] []] (A1 [bn 11 .lss 10 9] (Av 11 0 1 (A1 [mv 12 10,ia 13 8 10 6,lw 14 13 6,Al 4 [aS [],aI 0,aI 0,aI 0,aI 0,aB L],mv 3 12,so 4 14 6] (A1 [lw 15 4 6,ca 16 172 [S 15],nt 17 16,mv 18 17,Af 18 L 19 0,Ab 18 L 20 4 0,Ad 18 L 21 20,Ak 18 L 22 173 [S 19,S 21],Af 18 L 23 3,AK 18 L 24 .neq 22 23,po 25 18 24] (Aq 25 (A2 [A3 2 L])))) (Au 26 10)))
def US:X0:=(A2 [A3 2 T])
def bR:X0:=(A1 [A3 2 L] (Aa [mv 5 0,ln 6 5,Ac 7 .gtr 6 6] 7 (A2 [A3 2 L]) (A5 (A1 [mv 8 0,ln 9 8,A6 10 0] (Ah 0 Ql)) US)))
def lk:=fun a0 (k_:U→Q V)=>∀{v2} {zr},k_ v2=N zr→Kp zA [0,8,9,10] [] [] ⟨[pL 0 X5.row a0,pL 8 X5.row a0,pI 9 (a0.length:U),pI 10 v2],[],[]⟩ (.code (.loop Ql):: [.blk 0,.code US]) (Ag [2] [.sc (.v (.bool zr))])
theorem B55{a0}{n:W}:lk a0 (He a0 n):=by
 induction n with
 | zero=>intro _ r h; cases h
 | succ n ih=>
  intro v2 r h σ hσ;rw[He] at h;refine Ai ?_;obtain⟨h3,h⟩|⟨h3,h⟩:=ic h
  ·obtain⟨x4,h4,h⟩:=ob h;try simp only[hσ,h3,h4,Ql,C,E,F,G,H,J]
   refine Am ?_;obtain⟨r5,h5,h⟩:=ob h;try simp only[h3,h4,C,E,F,G,H,J]
   refine A4 (L2 h5) ?_;obtain⟨h6,h⟩|⟨h6,h⟩:=ic h
   ·obtain⟨r7,h7,h⟩:=ob h;try simp only[h3,h4,h6,C,E,F,G,H,J]
    refine A4 (A9k h7) ?_;obtain⟨h8,h⟩|⟨h8,h⟩:=ic h
    ·try simp only[h3,h4,h6,h8,C,E,F,G,H,J]
     cases h;exact t0
    ·try simp only[h3,h4,h6,h8,C,E,F,G,H,J]
     refine ih h ?_;try simp only[h3,h4,h6,h8,C,E,F,G,H,J,pL,aM,Z]
   ·try simp only[h3,h4,h6,C,E,F,G,H,J]
    cases h;exact t0
  ·try simp only[hσ,h3,Ql,US,C,E,F,G,H,J]
   cases h;exact t0
theorem jV{a0}{r}(h:JC a0=N r):FC zA 128 [.sc (.sl (I X5.row a0))] [.sc (.v (.bool r))]:=by
 unfold JC at h;refine A9 mixed bR [2] 27 ?_;simp only[bR,C,E,F,G,H,J];obtain⟨h1,h⟩|⟨h1,h⟩:=ic h
 ·try simp only[h1,C,E,F,G,H,J]
  cases h;exact t0
 ·try simp only[h1,C,E,F,G,H,J]
  refine B55 h ?_;try simp only[h1,C,E,F,G,H,J,pL,aM,Z]
/- 129:impl_RegimeOk -/
def bS:X0:=(A1 [bo 1 0,A3 2 L] (A2 [fa 3 1 0,ld 4 3,ca 5 133 [S 4,K 0,K 60],mv 2 5]))
theorem A9f{a0}{r}(h:RP a0=N r):FC zA 129 [.ag (Xg.row a0)] [.sc (.v (.bool r))]:=by
 unfold RP at h;refine A9 mixed bS [2] 6 ?_;simp only[bS,C,E,F,G,H,J];try simp only[C,E,F,G,H,J]
 refine A8 ?_;obtain⟨r1,h1,h⟩:=ob h;try simp only[C,E,F,G,H,J]
 refine A4 (Ci h1) ?_;try simp only[C,E,F,G,H,J]
 cases h;exact t0
/- 174:impl_movesOk -/
def Qn:X0:=A1 [Ae [8,9,10] [] []] (A1 [bn 11 .lss 10 9] (Av 11 0 1 (A1 [ia 12 8 10 1,ld 13 12,mv 4 13] (A1 [mv 14 4,ca 15 133 [S 14,K 0,K 240],nt 16 15] (Aq 16 (A2 [A3 2 L])))) (Au 17 10)))
def UT:X0:=(A2 [A3 2 T])
def bT:X0:=(A1 [A3 2 L] (Aa [mv 5 0,ln 6 5,Ac 7 .neq 6 64] 7 (A2 [A3 2 L]) (A5 (A1 [mv 8 0,ln 9 8,A6 10 0] (Ah 0 Qn)) UT)))
def mX:=fun a0 (k_:U→Q V)=>∀{v2} {zr},k_ v2=N zr→Kp zA [8,9,10] [] [] ⟨[pL 8 rI a0,pI 9 (a0.length:U),pI 10 v2],[],[]⟩ (.code (.loop Qn):: [.blk 0,.code UT]) (Ag [2] [.sc (.v (.bool zr))])
theorem B56{a0}{n:W}:mX a0 (FV a0 n):=by
 induction n with
 | zero=>intro _ r h; cases h
 | succ n ih=>
  intro v2 r h σ hσ;rw[FV] at h;refine Ai ?_;obtain⟨h3,h⟩|⟨h3,h⟩:=ic h
  ·obtain⟨x4,h4,h⟩:=ob h;obtain⟨r5,h5,h⟩:=ob h;try simp only[hσ,h3,h4,Qn,C,E,F,G,H,J]
   refine A4 (Ci h5) ?_;obtain⟨h6,h⟩|⟨h6,h⟩:=ic h
   ·try simp only[h3,h4,h6,C,E,F,G,H,J]
    refine ih h ?_;try simp only[h3,h4,h6,C,E,F,G,H,J,pL,aM,Z]
   ·try simp only[h3,h4,h6,C,E,F,G,H,J]
    cases h;exact t0
  ·try simp only[hσ,h3,Qn,UT,C,E,F,G,H,J]
   cases h;exact t0
theorem XY{a0}{r}(h:FU a0=N r):FC zA 174 [.sc (.sl (I rI a0))] [.sc (.v (.bool r))]:=by
 unfold FU at h;refine A9 mixed bT [2] 18 ?_;simp only[bT,C,E,F,G,H,J];obtain⟨h1,h⟩|⟨h1,h⟩:=ic h
 ·try simp only[h1,C,E,F,G,H,J]
  cases h;exact t0
 ·try simp only[h1,C,E,F,G,H,J]
  refine B56 h ?_;try simp only[h1,C,E,F,G,H,J,pL,aM,Z]
/- 130:impl_CrewOk -/
def bU:X0:=(A1 [bo 1 0,A3 2 L] (A2 [fa 3 1 0,ld 4 3,ca 5 133 [S 4,K 0,K 12],mv 6 5,Ab 6 T 7 1 1,Ad 6 T 8 7,Ak 6 T 9 133 [S 8,K 0,K 12],pa 10 6 9,mv 11 10,Ab 11 T 12 1 2,Ad 11 T 13 12,Ak 11 T 14 132 [S 13],pa 15 11 14,mv 16 15,Ab 16 T 17 1 3,Ad 16 T 18 17,Ak 16 T 19 174 [S 18],pa 20 16 19,mv 2 20]))
theorem A8w{a0}{r}(h:LV a0=N r):FC zA 130 [.ag (Xj.row a0)] [.sc (.v (.bool r))]:=by
 unfold LV at h;refine A9 mixed bU [2] 21 ?_;simp only[bU,C,E,F,G,H,J];try simp only[C,E,F,G,H,J]
 refine A8 ?_;obtain⟨r1,h1,h⟩:=ob h;try simp only[C,E,F,G,H,J]
 refine A4 (Ci h1) ?_;obtain⟨h2,h⟩|⟨h2,h⟩:=ic h
 ·obtain⟨r3,h3,h⟩:=ob h;try simp only[h2,C,E,F,G,H,J]
  refine A4 (Ci h3) ?_;obtain⟨h4,h⟩|⟨h4,h⟩:=ic h
  ·obtain⟨r5,h5,h⟩:=ob h;try simp only[h2,h4,C,E,F,G,H,J]
   refine A4 (FD h5) ?_;obtain⟨h6,h⟩|⟨h6,h⟩:=ic h
   ·obtain⟨r7,h7,h⟩:=ob h;try simp only[h2,h4,h6,C,E,F,G,H,J]
    refine A4 (XY h7) ?_;try simp only[h2,h4,h6,C,E,F,G,H,J]
    cases h;exact t0
   ·try simp only[h2,h4,h6,C,E,F,G,H,J]
    cases h;exact t0
  ·try simp only[h2,h4,C,E,F,G,H,J]
   cases h;exact t0
 ·try simp only[h2,C,E,F,G,H,J]
  cases h;exact t0
/- 98:impl_HarbourOk -/
def bV:X0:=(A1 [bo 1 0,A3 2 L] (A2 [fa 3 1 0,lw 4 3 3,ca 5 126 [S 4],mv 6 5,Ab 6 T 7 1 3,AQ 6 T 8 7 2,Ak 6 T 9 127 [S 8],pa 10 6 9,mv 11 10,Ab 11 T 12 1 5,Ad 11 T 13 12,Ak 11 T 14 128 [S 13],pa 15 11 14,mv 16 15,Ab 16 T 17 1 6,AQ 16 T 18 17 2,Ak 16 T 19 129 [S 18],pa 20 16 19,mv 21 20,Ab 21 T 22 1 8,AQ 21 T 23 22 4,Ak 21 T 24 130 [S 23],pa 25 21 24,mv 2 25]))
theorem jW{a0}{r}(h:JD a0=N r):FC zA 98 [.ag (X7.row a0)] [.sc (.v (.bool r))]:=by
 unfold JD at h;refine A9 mixed bV [2] 26 ?_;simp only[bV,C,E,F,G,H,J];try simp only[C,E,F,G,H,J]
 refine A8 ?_;obtain⟨r1,h1,h⟩:=ob h;try simp only[C,E,F,G,H,J]
 refine A4 (Tp h1) ?_;obtain⟨h2,h⟩|⟨h2,h⟩:=ic h
 ·obtain⟨r3,h3,h⟩:=ob h;try simp only[h2,C,E,F,G,H,J]
  refine A4 (Ja h3) ?_;obtain⟨h4,h⟩|⟨h4,h⟩:=ic h
  ·obtain⟨r5,h5,h⟩:=ob h;try simp only[h2,h4,C,E,F,G,H,J]
   refine A4 (jV h5) ?_;obtain⟨h6,h⟩|⟨h6,h⟩:=ic h
   ·obtain⟨r7,h7,h⟩:=ob h;try simp only[h2,h4,h6,C,E,F,G,H,J]
    refine A4 (A9f h7) ?_;obtain⟨h8,h⟩|⟨h8,h⟩:=ic h
    ·obtain⟨r9,h9,h⟩:=ob h;try simp only[h2,h4,h6,h8,C,E,F,G,H,J]
     refine A4 (A8w h9) ?_;try simp only[h2,h4,h6,h8,C,E,F,G,H,J]
     cases h;exact t0
    ·try simp only[h2,h4,h6,h8,C,E,F,G,H,J]
     cases h;exact t0
   ·try simp only[h2,h4,h6,C,E,F,G,H,J]
    cases h;exact t0
  ·try simp only[h2,h4,C,E,F,G,H,J]
   cases h;exact t0
 ·try simp only[h2,C,E,F,G,H,J]
  cases h;exact t0
/- 99:impl_callOk -/
def bW:X0:=(A1 [bo 2 0,bo 3 1,A3 4 L] (A1 [fa 6 2 3,fa 7 6 0,ld 8 7,ln 9 8,mv 5 9] (A2 [fa 10 3 0,ld 11 10,fa 12 2 5,ld 13 12,ln 14 13,ca 15 131 [S 11,S 14],mv 16 15,Ab 16 T 17 3 1,Ad 16 T 18 17,Af 16 T 19 5,Ak 16 T 20 131 [S 18,S 19],pa 21 16 20,mv 22 21,Ab 22 T 23 3 2,Ad 22 T 24 23,Af 22 T 25 5,Ak 22 T 26 131 [S 24,S 25],pa 27 22 26,mv 28 27,Ab 28 T 29 3 1,Ad 28 T 30 29,Ab 28 T 31 3 2,Ad 28 T 32 31,AK 28 T 33 .neq 30 32,pa 34 28 33,mv 35 34,Ab 35 T 36 3 3,Ad 35 T 37 36,Ak 35 T 38 132 [S 37],pa 39 35 38,mv 40 39,Ab 40 T 41 3 4,Ad 40 T 42 41,Ab 40 T 43 3 3,Ad 40 T 44 43,Ak 40 T 45 133 [S 42,S 44,K 2880],pa 46 40 45,mv 4 46])))
theorem jd{a0}{a1}{r}(h:JL a0 a1=N r):FC zA 99 [.ag (X7.row a0),.ag (zC a1)] [.sc (.v (.bool r))]:=by
 unfold JL at h;refine A9 mixed bW [4] 47 ?_;simp only[bW,C,E,F,G,H,J];try simp only[C,E,F,G,H,J]
 refine A8 ?_;try simp only[C,E,F,G,H,J]
 refine A8 ?_;obtain⟨r1,h1,h⟩:=ob h;try simp only[C,E,F,G,H,J]
 refine A4 (Cv h1) ?_;obtain⟨h2,h⟩|⟨h2,h⟩:=ic h
 ·obtain⟨r3,h3,h⟩:=ob h;try simp only[h2,C,E,F,G,H,J]
  refine A4 (Cv h3) ?_;obtain⟨h4,h⟩|⟨h4,h⟩:=ic h
  ·obtain⟨r5,h5,h⟩:=ob h;try simp only[h2,h4,C,E,F,G,H,J]
   refine A4 (Cv h5) ?_;obtain⟨h6,h⟩|⟨h6,h⟩:=ic h
   ·obtain⟨h7,h⟩|⟨h7,h⟩:=ic h
    ·obtain⟨r9,h9,h⟩:=ob h;try simp only[h2,h4,h6,h7,C,E,F,G,H,J]
     refine A4 (FD h9) ?_;obtain⟨h10,h⟩|⟨h10,h⟩:=ic h
     ·obtain⟨r11,h11,h⟩:=ob h;try simp only[h2,h4,h6,h7,h10,C,E,F,G,H,J]
      refine A4 (Ci h11) ?_;try simp only[h2,h4,h6,h7,h10,C,E,F,G,H,J]
      cases h;exact t0
     ·try simp only[h2,h4,h6,h7,h10,C,E,F,G,H,J]
      cases h;exact t0
    ·try simp only[h2,h4,h6,h7,C,E,F,G,H,J]
     cases h;exact t0
   ·try simp only[h2,h4,h6,C,E,F,G,H,J]
    cases h;exact t0
  ·try simp only[h2,h4,C,E,F,G,H,J]
   cases h;exact t0
 ·try simp only[h2,C,E,F,G,H,J]
  cases h;exact t0
/- 67:impl_CallsOk -/
def Qo:X0:=A1 [Ae [1,2,6,17,18,19,30,31,32] [2,6] []] (A1 [bn 33 .lss 32 31] (Av 33 2 3 (A1 [ia 34 30 32 5,lw 35 34 5,Al 8 [aI 0,aI 0,aI 0,aI 0,aI 0],so 8 35 5] (A1 [fa 36 8 0,ld 37 36,fa 38 6 0,ld 39 38,bn 40 .eql 37 39] (Aq 40 (A2 [A3 4 L])))) (Au 41 32)))
def UV:X0:=(Au 42 19)
def Lu:X0:=A1 [Ae [1,2,17,18,19] [2] []] (A1 [bn 20 .lss 19 18] (Av 20 0 1 (A1 [mv 21 19,ia 22 17 19 5,lw 23 22 5,Al 6 [aI 0,aI 0,aI 0,aI 0,aI 0],mv 5 21,so 6 23 5] (Aa [lw 24 2 12,lw 25 6 5,ca 26 99 [S 24,S 25],nt 27 26] 27 (A2 [A3 4 L]) (A1 [mv 28 1,mv 29 5,(O,.slc 30 5 (S 28) O (N (S 29)) O),ln 31 30,A6 32 0] (Ah 2 Qo)))) UV))
def Qp:X0:=(A2 [A3 4 T])
def bY:X0:=(A1 [bo 2 0,A3 4 L] (Aa [lw 9 2 12,ca 10 98 [S 9],nt 11 10,mv 12 11,Af 12 L 13 1,B1 12 L 14 13,AP 12 L 15 .gtr 14 6,po 16 12 15] 16 (A2 [A3 4 L]) (A5 (A1 [mv 17 1,ln 18 17,A6 19 0] (Ah 0 Lu)) Qp)))
def lc:=fun a1 v4 (a0:X7) (x6:Xa) y10 y11 (k_:U→Q V)=>∀{v12} {zr},k_ v12=N zr→Kp zA [1,2,6,17,18,19,30,31,32] [2,6] [] ⟨[pL 1 zC a1,pB 2,pB 6,pL 17 zC a1,pI 18 (a1.length:U),pI 19 v4,pL 30 zC y10,pI 31 y11,pI 32 v12],[(2,([aI a0.Forecast.Tide.Mean,aM zD a0.Forecast.Tide.Parts,aM zE a0.Forecast.Surges,aM X9.row a0.Chart.Points,aM X3.row a0.Chart.Segments,aM X5.row a0.Fleet,aI a0.Regime.Gap,aB a0.Regime.NoMeet]++dm a0.Crew.row)),(6,(dm x6.row))],[]⟩ (.code (.loop Qo):: [.blk 2,.blk 1,.code UV,.code (.loop Lu),.blk 0,.code Qp]) (Ag [4] [.sc (.v (.bool zr))])
def Yo:=fun a1 (a0:X7) (k_:U→Q V)=>∀{v4} {zr},k_ v4=N zr→Kp zA [1,2,17,18,19] [2] [] ⟨[pL 1 zC a1,pB 2,pL 17 zC a1,pI 18 (a1.length:U),pI 19 v4],[(2,([aI a0.Forecast.Tide.Mean,aM zD a0.Forecast.Tide.Parts,aM zE a0.Forecast.Surges,aM X9.row a0.Chart.Points,aM X3.row a0.Chart.Segments,aM X5.row a0.Fleet,aI a0.Regime.Gap,aB a0.Regime.NoMeet]++dm a0.Crew.row))],[]⟩ (.code (.loop Lu):: [.blk 0,.code Qp]) (Ag [4] [.sc (.v (.bool zr))])
theorem B57{a1 v4 a0 x6 y10 y11}{Oa}(xQ:Yo a1 a0 Oa){n:W}:lc a1 v4 a0 x6 y10 y11 (EQ a1 v4 a0 x6 y10 y11 Oa n):=by
 induction n with
 | zero=>intro _ r h; cases h
 | succ n ih=>
  intro v12 r h σ hσ;rw[EQ] at h;refine Ai ?_;obtain⟨h13,h⟩|⟨h13,h⟩:=ic h
  ·obtain⟨x14,h14,h⟩:=ob h;try simp only[hσ,h13,h14,Qo,C,E,F,G,H,J]
   refine Am ?_;obtain⟨h15,h⟩|⟨h15,h⟩:=ic h
   ·try simp only[h13,h14,h15,C,E,F,G,H,J]
    cases h;exact t0
   ·try simp only[h13,h14,h15,C,E,F,G,H,J]
    refine ih h ?_;try simp only[h13,h14,h15,C,E,F,G,H,J,pL,aM,Z]
  ·try simp only[hσ,h13,Qo,UV,C,E,F,G,H,J]
   refine xQ h ?_;try simp only[h13,C,E,F,G,H,J,pL,aM,Z]
theorem B58{a1 a0}{n:W}:Yo a1 a0 (DL a1 a0 n):=by
 induction n with
 | zero=>intro _ r h; cases h
 | succ n ih=>
  intro v4 r h σ hσ;rw[DL] at h;refine Ai ?_;obtain⟨h5,h⟩|⟨h5,h⟩:=ic h
  ·obtain⟨x6,h6,h⟩:=ob h;try simp only[hσ,h5,h6,Lu,C,E,F,G,H,J]
   refine Am ?_;obtain⟨r7,h7,h⟩:=ob h;try simp only[h5,h6,C,E,F,G,H,J]
   refine A4 (jd h7) ?_;obtain⟨h8,h⟩|⟨h8,h⟩:=ic h
   ·obtain⟨p9,h9,h⟩:=ob h;try simp only[h5,h6,h8,h9,C,E,F,G,H,J]
    refine B57 ih h ?_;try simp only[h5,h6,h8,h9,C,E,F,G,H,J,pL,aM,Z]
   ·try simp only[h5,h6,h8,C,E,F,G,H,J]
    cases h;exact t0
  ·try simp only[hσ,h5,Lu,Qp,C,E,F,G,H,J]
   cases h;exact t0
theorem A8v{a0}{a1}{r}(h:LU a0 a1=N r):FC zA 67 [.ag (X7.row a0),.sc (.sl (I zC a1))] [.sc (.v (.bool r))]:=by
 unfold LU at h;refine A9 mixed bY [4] 43 ?_;simp only[bY,C,E,F,G,H,J];try simp only[C,E,F,G,H,J]
 refine A8 ?_;obtain⟨r1,h1,h⟩:=ob h;try simp only[C,E,F,G,H,J]
 refine A4 (jW h1) ?_;obtain⟨h2,h⟩|⟨h2,h⟩:=ic h
 ·obtain⟨h3,h⟩|⟨h3,h⟩:=ic h
  ·try simp only[h2,h3,C,E,F,G,H,J]
   cases h;exact t0
  ·try simp only[h2,h3,C,E,F,G,H,J]
   refine B58 h ?_;try simp only[h2,h3,C,E,F,G,H,J,pL,aM,Z]
 ·try simp only[h2,C,E,F,G,H,J]
  cases h;exact t0
/- 134:impl_CallOk -/
def bZ:X0:=(A1 [bo 2 0,bo 3 1,A3 4 L] (A2 [lw 5 2 12,ca 6 98 [S 5],mv 7 6,AQ 7 T 8 2 12,AQ 7 T 9 3 5,Ak 7 T 10 99 [S 8,S 9],pa 11 7 10,mv 4 11]))
theorem A8u{a0}{a1}{r}(h:LS a0 a1=N r):FC zA 134 [.ag (X7.row a0),.ag (zC a1)] [.sc (.v (.bool r))]:=by
 unfold LS at h;refine A9 mixed bZ [4] 12 ?_;simp only[bZ,C,E,F,G,H,J];try simp only[C,E,F,G,H,J]
 refine A8 ?_;try simp only[C,E,F,G,H,J]
 refine A8 ?_;obtain⟨r1,h1,h⟩:=ob h;try simp only[C,E,F,G,H,J]
 refine A4 (jW h1) ?_;obtain⟨h2,h⟩|⟨h2,h⟩:=ic h
 ·obtain⟨r3,h3,h⟩:=ob h;try simp only[h2,C,E,F,G,H,J]
  refine A4 (jd h3) ?_;try simp only[h2,C,E,F,G,H,J]
  cases h;exact t0
 ·try simp only[h2,C,E,F,G,H,J]
  cases h;exact t0
/- 224:impl_Segment_end -/
def ba:X0:=(A1 [bo 2 0,A6 4 0] (A5 (A1 [mv 5 1] (.block 0 (A1 [fa 7 2 0,ld 8 7,bn 9 .eql 5 8,mv 6 9] (AL 6 (A2 [fa 10 2 1,ld 11 10,mv 4 11]) (A1 [fa 13 2 1,ld 14 13,bn 15 .eql 5 14,mv 12 15] (Aq 12 (A2 [fa 16 2 0,ld 17 16,mv 4 17]))))))) (A2 [A6 4 (-1)])))
theorem A9i{a0}{a1}{r}(h:Me a0 a1=N r):FC zA 224 [.ag (X3.row a0),.sc (.int .i64 a1)] [.sc (.v (.int .i64 r))]:=by
 unfold Me at h;refine A9 mixed ba [4] 18 ?_;simp only[ba,C,E,F,G,H,J];try simp only[C,E,F,G,H,J]
 refine A8 ?_;obtain⟨h1,h⟩|⟨h1,h⟩:=ic h
 ·try simp only[h1,C,E,F,G,H,J]
  cases h;exact t0
 ·obtain⟨h2,h⟩|⟨h2,h⟩:=ic h
  ·try simp only[h1,h2,C,E,F,G,H,J]
   cases h;exact t0
  ·try simp only[h1,h2,C,E,F,G,H,J]
   cases h;exact t0
/- 201:impl_Chart_points -/
def Qq:X0:=A1 [Ae [1,3,8,9,22,23,24,47] [3,8] [1344]] (Aq 47 (A2 [Ay 6,A3 7 L]))
def UW:X0:=(A1 [mv 48 1,(O,.aaddr 49 (S 8) (S 48) 8 1),(O,.store (S 49) (KB T) 1)] (.reg [mv 50 9,mv 51 1,AD 52 1 [.int .i64 0] 1 [(0,(S 51))],Be 53 1 8 50 52,mv 9 53]))
def UX:X0:=(Au 54 24)
def Lv:X0:=A1 [Ae [1,3,8,9,22,23,24] [3,8] [1344]] (A1 [bn 25 .lss 24 23] (Av 25 0 1 (A1 [ia 26 22 24 1,ld 27 26,mv 11 27] (Aa [mv 28 11,fa 29 3 1,ld 30 29,ln 31 30,ca 32 131 [S 28,S 31],nt 33 32] 33 (A2 [Ay 6,A3 7 L]) (A1 [fa 34 3 1,ld 35 34,mv 36 11,ia 37 35 36 5,lw 38 37 5,mv 39 1,ca 40 224 [S 38,S 39],mv 1 40] (A5 (A1 [mv 41 1,Ac 42 .lss 41 0,mv 43 42,Af 43 L 44 1,(N (43,L),.aaddr 45 (S 8) (S 44) 8 1),Ad 43 L 46 45,po 47 43 46] Qq) UW)))) UX))
def Qr:X0:=(A2 [mv 55 9,mv 6 55,A3 7 T])
def bc:X0:=(A1 [bo 3 0,Ay 6,A3 7 L] (Aa [mv 12 1,fa 13 3 0,ld 14 13,ln 15 14,ca 16 131 [S 12,S 15],nt 17 16] 17 (A2 [Ay 6,A3 7 L]) (A1 [Al 8 [aB L,aB L,aB L,aB L,aB L,aB L,aB L,aB L]] (A1 [mv 18 1,(O,.aaddr 19 (S 8) (S 18) 8 1),(O,.store (S 19) (KB T) 1)] (A1 [mv 20 1,AD 21 1 [.int .i64 0] 1 [(0,(S 20))],mv 9 21] (A5 (A1 [mv 22 2,ln 23 22,A6 24 0] (Ah 0 Lv)) Qr))))))
def lh:=fun r14 a2 v6 (a0:X6) (v7:Xe) v8 (k_:V→Q ((P U) × V))=>∀{v19} {zr},k_ v19=N zr→Kp zA [1,3,8,9,22,23,24,47] [3,8] [1344] ⟨[pI 1 r14,pB 3,pB 8,pW 9 1344,pL 22 rI a2,pI 23 (a2.length:U),pI 24 v6,(47,vc (aB v19))],[(3,[aM X9.row a0.Points,aM X3.row a0.Segments]),(8,[aB v7.i0,aB v7.i1,aB v7.i2,aB v7.i3,aB v7.i4,aB v7.i5,aB v7.i6,aB v7.i7])],[(1344,1,I rI v8)]⟩ (.code Qq:: [.code UW,.blk 1,.code UX,.code (.loop Lv),.blk 0,.code Qr]) (Ag [6,7] [.sc (.o 1 (I rI zr.1)),.sc (.v (.bool zr.2))])
def Yq:=fun a2 (a0:X6) (k_:U→U→Xe→(P U)→Q ((P U) × V))=>∀{v5 v6 v7 v8} {zr},k_ v5 v6 v7 v8=N zr→Kp zA [1,3,8,9,22,23,24] [3,8] [1344] ⟨[pI 1 v5,pB 3,pB 8,pW 9 1344,pL 22 rI a2,pI 23 (a2.length:U),pI 24 v6],[(3,[aM X9.row a0.Points,aM X3.row a0.Segments]),(8,[aB v7.i0,aB v7.i1,aB v7.i2,aB v7.i3,aB v7.i4,aB v7.i5,aB v7.i6,aB v7.i7])],[(1344,1,I rI v8)]⟩ (.code (.loop Lv):: [.blk 0,.code Qr]) (Ag [6,7] [.sc (.o 1 (I rI zr.1)),.sc (.v (.bool zr.2))])
theorem kt{r14 a2 v6 a0 v7 v8}{SV}(xS:Yq a2 a0 SV):lh r14 a2 v6 a0 v7 v8 (Hb r14 a2 v6 a0 v7 v8 SV):=by
 intro v19 r h σ hσ;unfold Hb at h;obtain⟨h20,h⟩|⟨h20,h⟩:=ic h
 ·try simp only[hσ,h20,Qq,C,E,F,G,H,J]
  cases h;trivial
 ·obtain⟨h21,h⟩:=AT h;try simp only[hσ,h20,Qq,UW,C,E,F,G,H,J]
  refine Wk Y Y h21 ?_;have hA22:BY [aB v7.i0,aB v7.i1,aB v7.i2,aB v7.i3,aB v7.i4,aB v7.i5,aB v7.i6,aB v7.i7] (zB r14) [aB T]= [aB ((Xe.set v7 (zB r14) T)).i0,aB ((Xe.set v7 (zB r14) T)).i1,aB ((Xe.set v7 (zB r14) T)).i2,aB ((Xe.set v7 (zB r14) T)).i3,aB ((Xe.set v7 (zB r14) T)).i4,aB ((Xe.set v7 (zB r14) T)).i5,aB ((Xe.set v7 (zB r14) T)).i6,aB ((Xe.set v7 (zB r14) T)).i7]:=Xe.set_eq v7 (Jh h21);have hA22g:Cp [aB v7.i0,aB v7.i1,aB v7.i2,aB v7.i3,aB v7.i4,aB v7.i5,aB v7.i6,aB v7.i7] (zB r14+1)=T:=YZ (Jh h21);have hA22h:Cp [aB v7.i1,aB v7.i2,aB v7.i3,aB v7.i4,aB v7.i5,aB v7.i6,aB v7.i7] (zB r14)=T:=Z0 (c:=aB v7.i0) (Jh h21);try simp only[h20,hA22,hA22g,hA22h,C,E,F,G,H,J]
  refine Ax (es:=I rI ([r14]:P U)) ?_;obtain⟨h23,h⟩:=AT h;try simp only[h20,hA22,hA22g,hA22h,h23,UX,C,E,F,G,H,J]
  refine xS h ?_;try simp only[h20,hA22,hA22g,hA22h,h23,C,E,F,G,H,J,pL,aM,Z]
theorem B59{a2 a0}{n:W}:Yq a2 a0 (FJ a2 a0 n):=by
 induction n with
 | zero=>intro _ _ _ _ r h; cases h
 | succ n ih=>
  intro v5 v6 v7 v8 r h σ hσ;rw[FJ] at h;refine Ai ?_;obtain⟨h9,h⟩|⟨h9,h⟩:=ic h
  ·obtain⟨x10,h10,h⟩:=ob h;obtain⟨r11,h11,h⟩:=ob h;try simp only[hσ,h9,h10,Lv,C,E,F,G,H,J]
   refine A4 (Cv h11) ?_;obtain⟨h12,h⟩|⟨h12,h⟩:=ic h
   ·obtain⟨x13,h13,h⟩:=ob h;obtain⟨r14,h14,h⟩:=ob h;try simp only[h9,h10,h12,h13,C,E,F,G,H,J]
    refine A4 (A9i h14) ?_;obtain⟨h15,h⟩|⟨h15,h⟩:=ic h
    ·try simp only[h9,h10,h12,h13,h15,C,E,F,G,H,J]
     refine kt ih h ?_;try simp only[h9,h10,h12,h13,h15,C,E,F,G,H,J,pL,aM,Z]
    ·obtain⟨h16,h⟩:=AT h;try simp only[h9,h10,h12,h13,h15,C,E,F,G,H,J]
     refine Wk Y Y h16 ?_;obtain⟨x17,h17,h⟩:=ob h;have h17n:=AH h17;have hA18:([aB v7.i0,aB v7.i1,aB v7.i2,aB v7.i3,aB v7.i4,aB v7.i5,aB v7.i6,aB v7.i7]:P AC)[zB r14]?=N (aB x17):=pT h17n;try simp only[h9,h10,h12,h13,h15,hA18,C,E,F,G,H,J]
     refine kt ih h ?_;try simp only[h9,h10,h12,h13,h15,hA18,C,E,F,G,H,J,pL,aM,Z]
   ·try simp only[h9,h10,h12,C,E,F,G,H,J]
    cases h;trivial
  ·try simp only[hσ,h9,Lv,Qr,C,E,F,G,H,J]
   cases h;trivial
theorem jU{a0}{a1}{a2}{r}(h:Ha a0 a1 a2=N r):FC zA 201 [.ag (X6.row a0),.sc (.int .i64 a1),.sc (.sl (I rI a2))] [.sc (.o 1 (I rI r.1)),.sc (.v (.bool r.2))]:=by
 unfold Ha at h;refine A9 mixed bc [6,7] 56 ?_;simp only[bc,C,E,F,G,H,J];try simp only[C,E,F,G,H,J]
 refine A8 ?_;obtain⟨r1,h1,h⟩:=ob h;try simp only[C,E,F,G,H,J]
 refine A4 (Cv h1) ?_;obtain⟨h2,h⟩|⟨h2,h⟩:=ic h
 ·try simp only[h2,C,E,F,G,H,J]
  refine Am ?_;obtain⟨h3,h⟩:=AT h;try simp only[h2,C,E,F,G,H,J]
  refine Wk Y Y h3 ?_;have hA4:BY [aB L,aB L,aB L,aB L,aB L,aB L,aB L,aB L] (zB a1) [aB T]= [aB ((Xe.set (⟨L,L,L,L,L,L,L,L⟩:Xe) (zB a1) T)).i0,aB ((Xe.set (⟨L,L,L,L,L,L,L,L⟩:Xe) (zB a1) T)).i1,aB ((Xe.set (⟨L,L,L,L,L,L,L,L⟩:Xe) (zB a1) T)).i2,aB ((Xe.set (⟨L,L,L,L,L,L,L,L⟩:Xe) (zB a1) T)).i3,aB ((Xe.set (⟨L,L,L,L,L,L,L,L⟩:Xe) (zB a1) T)).i4,aB ((Xe.set (⟨L,L,L,L,L,L,L,L⟩:Xe) (zB a1) T)).i5,aB ((Xe.set (⟨L,L,L,L,L,L,L,L⟩:Xe) (zB a1) T)).i6,aB ((Xe.set (⟨L,L,L,L,L,L,L,L⟩:Xe) (zB a1) T)).i7]:=Xe.set_eq (⟨L,L,L,L,L,L,L,L⟩:Xe) (Jh h3);have hA4g:Cp [aB L,aB L,aB L,aB L,aB L,aB L,aB L,aB L] (zB a1+1)=T:=YZ (Jh h3);have hA4h:Cp [aB L,aB L,aB L,aB L,aB L,aB L,aB L] (zB a1)=T:=Z0 (c:=aB L) (Jh h3);try simp only[h2,hA4,hA4g,hA4h,C,E,F,G,H,J]
  refine Ax (es:=I rI ([a1]:P U)) ?_;try simp only[h2,hA4,hA4g,hA4h,C,E,F,G,H,J]
  refine B59 h ?_;try simp only[h2,hA4,hA4g,hA4h,C,E,F,G,H,J,pL,aM,Z]
 ·try simp only[h2,C,E,F,G,H,J]
  cases h;trivial
/- 175:impl_RoutePoints -/
def bd:X0:=(A1 [bo 3 0,Ay 6] (Aa [lw 9 3 2,ca 10 127 [S 9],nt 11 10] 11 (A2 [Ay 6]) (A1 [lw 13 3 2,mv 14 1,mv 15 2,ca 16 201 [S 13,S 14,S 15],mv 12 16,xt 17 12 0,xt 18 12 1,mv 7 17,mv 8 18] (A2 [mv 19 7,mv 6 19]))))
theorem XX{a0}{a1}{a2}{r}(h:ES a0 a1 a2=N r):FC zA 175 [.ag (X6.row a0),.sc (.int .i64 a1),.sc (.sl (I rI a2))] [.sc (.o 1 (I rI r))]:=by
 unfold ES at h;refine A9 mixed bd [6] 20 ?_;simp only[bd,C,E,F,G,H,J];try simp only[C,E,F,G,H,J]
 refine A8 ?_;obtain⟨r1,h1,h⟩:=ob h;try simp only[C,E,F,G,H,J]
 refine A4 (Ja h1) ?_;obtain⟨h2,h⟩|⟨h2,h⟩:=ic h
 ·obtain⟨r3,h3,h⟩:=ob h;try simp only[h2,C,E,F,G,H,J]
  refine A4 (jU h3) ?_;try simp only[h2,C,E,F,G,H,J]
  cases h;exact t0
 ·try simp only[h2,C,E,F,G,H,J]
  cases h;exact t0
/- 202:impl_RouteOk -/
def be:X0:=(A1 [bo 3 0,A3 6 L] (Aa [lw 9 3 2,ca 10 127 [S 9],nt 11 10] 11 (A2 [A3 6 L]) (A1 [lw 13 3 2,mv 14 1,mv 15 2,ca 16 201 [S 13,S 14,S 15],mv 12 16,xt 17 12 0,xt 18 12 1,mv 7 17,mv 8 18] (A2 [mv 19 8,mv 6 19]))))
theorem jb{a0}{a1}{a2}{r}(h:FQ a0 a1 a2=N r):FC zA 202 [.ag (X6.row a0),.sc (.int .i64 a1),.sc (.sl (I rI a2))] [.sc (.v (.bool r))]:=by
 unfold FQ at h;refine A9 mixed be [6] 20 ?_;simp only[be,C,E,F,G,H,J];try simp only[C,E,F,G,H,J]
 refine A8 ?_;obtain⟨r1,h1,h⟩:=ob h;try simp only[C,E,F,G,H,J]
 refine A4 (Ja h1) ?_;obtain⟨h2,h⟩|⟨h2,h⟩:=ic h
 ·obtain⟨r3,h3,h⟩:=ob h;try simp only[h2,C,E,F,G,H,J]
  refine A4 (jU h3) ?_;try simp only[h2,C,E,F,G,H,J]
  cases h;exact t0
 ·try simp only[h2,C,E,F,G,H,J]
  cases h;exact t0
/- 203:impl_Ship_minutes -/
def bf:X0:=(A1 [bo 2 0,bo 3 1,A6 4 0] (Aa [fa 5 2 5,ld 6 5] 6 (A2 [fa 7 3 3,ld 8 7,(O,.bin 9 .mul (K 2) (S 8)),mv 4 9]) (A2 [fa 10 3 3,ld 11 10,mv 4 11])))
theorem OR{a0}{a1}{r}(h:ET a0 a1=N r):FC zA 203 [.ag (X5.row a0),.ag (X3.row a1)] [.sc (.v (.int .i64 r))]:=by
 unfold ET at h;refine A9 mixed bf [4] 12 ?_;simp only[bf,C,E,F,G,H,J];try simp only[C,E,F,G,H,J]
 refine A8 ?_;try simp only[C,E,F,G,H,J]
 refine A8 ?_;obtain⟨h1,h⟩|⟨h1,h⟩:=ic h
 ·try simp only[h1,C,E,F,G,H,J]
  cases h;exact t0
 ·try simp only[h1,C,E,F,G,H,J]
  cases h;exact t0
/- 225:impl_onSegment -/
def bg:X0:=(A1 [bo 3 0,bo 5 2,A3 6 L] (A2 [lw 7 3 2,ca 8 127 [S 7],mv 9 8,AQ 9 T 10 5 6,Ak 9 T 11 172 [S 10],pa 12 9 11,mv 13 12,Af 13 T 14 1,Ab 13 T 15 3 1,Ad 13 T 16 15,B1 13 T 17 16,Ak 13 T 18 131 [S 14,S 17],pa 19 13 18,mv 6 19]))
theorem jj{a0}{a1}{a2}{r}(h:HC a0 a1 a2=N r):FC zA 225 [.ag (X6.row a0),.sc (.int .i64 a1),.ag (X5.row a2)] [.sc (.v (.bool r))]:=by
 unfold HC at h;refine A9 mixed bg [6] 20 ?_;simp only[bg,C,E,F,G,H,J];try simp only[C,E,F,G,H,J]
 refine A8 ?_;try simp only[C,E,F,G,H,J]
 refine A8 ?_;obtain⟨r1,h1,h⟩:=ob h;try simp only[C,E,F,G,H,J]
 refine A4 (Ja h1) ?_;obtain⟨h2,h⟩|⟨h2,h⟩:=ic h
 ·obtain⟨r3,h3,h⟩:=ob h;try simp only[h2,C,E,F,G,H,J]
  refine A4 (L2 h3) ?_;obtain⟨h4,h⟩|⟨h4,h⟩:=ic h
  ·obtain⟨r5,h5,h⟩:=ob h;try simp only[h2,h4,C,E,F,G,H,J]
   refine A4 (Cv h5) ?_;try simp only[h2,h4,C,E,F,G,H,J]
   cases h;exact t0
  ·try simp only[h2,h4,C,E,F,G,H,J]
   cases h;exact t0
 ·try simp only[h2,C,E,F,G,H,J]
  cases h;exact t0
/- 260:impl_Ship_squat -/
def bh:X0:=(A1 [bo 1 0,A6 2 0] (Aa [fa 3 1 5,ld 4 3] 4 (A2 [fa 5 1 2,ld 6 5,Ac 7 .quo 6 50,mv 2 7]) (A2 [fa 8 1 2,ld 9 8,Ac 10 .quo 9 20,mv 2 10])))
theorem A9m{a0}{r}(h:RS a0=N r):FC zA 260 [.ag (X5.row a0)] [.sc (.v (.int .i64 r))]:=by
 unfold RS at h;refine A9 mixed bh [2] 11 ?_;simp only[bh,C,E,F,G,H,J];try simp only[C,E,F,G,H,J]
 refine A8 ?_;obtain⟨h1,h⟩|⟨h1,h⟩:=ic h
 ·try simp only[h1,C,E,F,G,H,J]
  cases h;exact t0
 ·try simp only[h1,C,E,F,G,H,J]
  cases h;exact t0
/- 246:impl_Ship_need -/
def bj:X0:=(A1 [bo 1 0,A6 2 0] (A5 (.drw [(N [6],fa 3 1 2),(N [6],ld 4 3),o0 (lw 5 1 6),o0 (ca 6 260 [S 5]),o0 (bn 7 .add 4 6),o0 (Ac 8 .add 7 50),o0 (mv 2 8)]) .ret))
theorem A9l{a0}{r}(h:RQ a0=N r):FC zA 246 [.ag (X5.row a0)] [.sc (.v (.int .i64 r))]:=by
 unfold RQ at h;refine A9 mixed bj [2] 9 ?_;simp only[bj,C,E,F,G,H,J];try simp only[C,E,F,G,H,J]
 refine A8 ?_;try simp only[C,E,F,G,H,J]
 refine An ?_;obtain⟨r1,h1,h⟩:=ob h;try simp only[C,E,F,G,H,J]
 refine AF (A9m h1) ?_;try simp only[C,E,F,G,H,J]
 cases h;exact t0
/- 228:impl_LevelFor -/
def bl:X0:=(A1 [bo 3 0,bo 5 2,A6 6 0] (Aa [lw 7 3 2,mv 8 1,lw 9 5 6,ca 10 225 [S 7,S 8,S 9],nt 11 10] 11 (A2 [A6 6 0]) (A5 (.drw [o0 (lw 12 5 6),o0 (ca 13 246 [S 12]),(N [13],fa 14 3 1),(N [13],ld 15 14),(N [13],mv 16 1),(N [13],ia 17 15 16 5),(N [13],fa 18 17 2),(N [13],ld 19 18),o0 (bn 20 .sub 13 19),o0 (mv 6 20)]) .ret)))
theorem A86{a0}{a1}{a2}{r}(h:M4 a0 a1 a2=N r):FC zA 228 [.ag (X6.row a0),.sc (.int .i64 a1),.ag (X5.row a2)] [.sc (.v (.int .i64 r))]:=by
 unfold M4 at h;refine A9 mixed bl [6] 21 ?_;simp only[bl,C,E,F,G,H,J];try simp only[C,E,F,G,H,J]
 refine A8 ?_;try simp only[C,E,F,G,H,J]
 refine A8 ?_;obtain⟨r1,h1,h⟩:=ob h;try simp only[C,E,F,G,H,J]
 refine A4 (jj h1) ?_;obtain⟨h2,h⟩|⟨h2,h⟩:=ic h
 ·try simp only[h2,C,E,F,G,H,J]
  refine An ?_;obtain⟨r3,h3,h⟩:=ob h;try simp only[h2,C,E,F,G,H,J]
  refine AF (A9l h3) ?_;obtain⟨x4,h4,h⟩:=ob h;try simp only[h2,h4,C,E,F,G,H,J]
  cases h;exact t0
 ·try simp only[h2,C,E,F,G,H,J]
  cases h;exact t0
/- 243:impl_windowsOf -/
def UY:X0:=A1 [Ae [0,3,4,5] [] [384]] (.reg [mv 22 3,mv 23 3,ln 24 23,Ac 25 .sub 24 1,mv 26 5,ia 27 22 25 2,fa 28 27 1,so 28 26 1])
def Qs:X0:=A1 [Ae [0,3,4,5] [] [384]] (.reg [mv 9 5,Ac 10 .add 9 1,mv 5 10])
def Jo:X0:=A1 [Ae [0,3,4,5] [] [384]] (A5 (A1 [mv 7 5,Ac 8 .leq 7 2880] (AL 8 .skip (.exit 0))) (A5 (.block 1 (Aa [mv 11 0,mv 12 5,(O,.callv 13 (S 11) [(S 12)]),nt 14 13] 14 (A1 [A3 4 L] (.exit 1)) (Aa [mv 15 4,nt 16 15] 16 (A1 [mv 17 3,mv 18 5,BH 19 [aI 0,aI 0] [(0,1,(S 18))],AD 20 2 [.int .i64 0,.int .i64 0] 1 [(0,(S 19))],Be 21 2 16 17 20,mv 3 21] (.reg [A3 4 T])) UY))) Qs))
def Lw:X0:=(A2 [mv 29 3,mv 2 29])
def bp:X0:=(A1 [Ay 2] (A1 [AD 6 2 [.int .i64 0,.int .i64 0] 0 [],mv 3 6] (A1 [A3 4 L] (A5 (A1 [A6 5 0] (Ah 0 Jo)) Lw))))
def mf:=fun F_a0 caps_a0 v2 (k_:V→(P X4)→Q (P X4))=>∀{v11 v12} {zr},k_ v11 v12=N zr→Kp zA [0,3,4,5] [] [384] ⟨[(0,vc (.dat (.clo F_a0 caps_a0))),pW 3 384,(4,vc (aB v11)),pI 5 v2],[],[(384,2,I X4.row v12)]⟩ (.code Qs:: [.code (.loop Jo),.blk 0,.code Lw]) (Ag [2] [.sc (.o 2 (I X4.row zr))])
def me:=fun F_a0 caps_a0 v2 (k_:(P X4)→Q (P X4))=>∀{v9} {zr},k_ v9=N zr→Kp zA [0,3,4,5] [] [384] ⟨[(0,vc (.dat (.clo F_a0 caps_a0))),pW 3 384,(4,vc (aB T)),pI 5 v2],[],[(384,2,I X4.row v9)]⟩ (.code UY:: [.blk 1,.code Qs,.code (.loop Jo),.blk 0,.code Lw]) (Ag [2] [.sc (.o 2 (I X4.row zr))])
def TB:=fun F_a0 caps_a0 (k_:V→U→(P X4)→Q (P X4))=>∀{v1 v2 v3} {zr},k_ v1 v2 v3=N zr→Kp zA [0,3,4,5] [] [384] ⟨[(0,vc (.dat (.clo F_a0 caps_a0))),pW 3 384,(4,vc (aB v1)),pI 5 v2],[],[(384,2,I X4.row v3)]⟩ (.code (.loop Jo):: [.blk 0,.code Lw]) (Ag [2] [.sc (.o 2 (I X4.row zr))])
theorem ku{a0:U→Q V}{F_a0 caps_a0}(hF_a0:D2 zA F_a0=T)(h_a0:∀z0 zr,a0 z0=N zr→FC zA F_a0 ([.sc (.int .i64 z0)]++caps_a0.map .sc) [.sc (.v (.bool zr))]){v2}{Fm}(Wq:TB F_a0 caps_a0 Fm):mf F_a0 caps_a0 v2 (HI a0 v2 Fm):=by
 intro v11 v12 r h σ hσ;unfold HI at h;try simp only[hσ,Qs,C,E,F,G,H,J]
 refine Wq h ?_;try simp only[C,E,F,G,H,J,pL,aM,Z]
theorem kv{a0:U→Q V}{F_a0 caps_a0}(hF_a0:D2 zA F_a0=T)(h_a0:∀z0 zr,a0 z0=N zr→FC zA F_a0 ([.sc (.int .i64 z0)]++caps_a0.map .sc) [.sc (.v (.bool zr))]){v2}{Fm}(Wq:TB F_a0 caps_a0 Fm):me F_a0 caps_a0 v2 (JS a0 v2 Fm):=by
 intro v9 r h σ hσ;unfold JS at h;obtain⟨x10,h10,h⟩:=ob h;have h10n:=AH h10;try simp only[hσ,h10,UY,C,E,F,G,H,J]
 refine AZ (row:=X4.row) (y:=(⟨x10.From,v2⟩:X4)) Y Y h10n Y Y (by rfl) ?_;try simp only[h10,C,E,F,G,H,J]
 refine ku hF_a0 h_a0 Wq h ?_;try simp only[h10,C,E,F,G,H,J,pL,aM,Z]
theorem B6b{a0:U→Q V}{F_a0 caps_a0}(hF_a0:D2 zA F_a0=T)(h_a0:∀z0 zr,a0 z0=N zr→FC zA F_a0 ([.sc (.int .i64 z0)]++caps_a0.map .sc) [.sc (.v (.bool zr))]){n:W}:TB F_a0 caps_a0 (F0 a0 n):=by
 induction n with
 | zero=>intro _ _ _ r h; cases h
 | succ n ih=>
  intro v1 v2 v3 r h σ hσ;rw[F0] at h;refine Ai ?_;obtain⟨h4,h⟩|⟨h4,h⟩:=ic h
  ·obtain⟨r5,h5,h⟩:=ob h;try simp only[hσ,h4,Jo,C,E,F,G,H,J]
   refine wE (h_a0 _ _ h5) hF_a0 Y Y (BD Y) Y (uf Y) ?_;obtain⟨h6,h⟩|⟨h6,h⟩:=ic h
   ·obtain⟨h7,h⟩|⟨h7,h⟩:=ic h
    ·try simp only[h4,h6,h7,C,E,F,G,H,J]
     refine kv hF_a0 h_a0 ih h ?_;try simp only[h4,h6,h7,C,E,F,G,H,J,pL,aM,Z]
    ·try simp only[h4,h6,h7,C,E,F,G,H,J]
     refine Ax (es:=I X4.row ([(⟨v2,(0:U)⟩:X4)]:P X4)) ?_;obtain⟨h8,h⟩:=AT h;try simp only[h4,h6,h7,h8,C,E,F,G,H,J]
     refine kv hF_a0 h_a0 ih h ?_;try simp only[h4,h6,h7,h8,C,E,F,G,H,J,pL,aM,Z]
   ·try simp only[h4,h6,C,E,F,G,H,J]
    refine ku hF_a0 h_a0 ih h ?_;try simp only[h4,h6,C,E,F,G,H,J,pL,aM,Z]
  ·try simp only[hσ,h4,Jo,Lw,C,E,F,G,H,J]
   cases h;exact t0
theorem A99{a0}{r}(F_a0:FuncId)(caps_a0:P D)(hF_a0:D2 zA F_a0=T)(h_a0:∀z0 zr,a0 z0=N zr→FC zA F_a0 ([.sc (.int .i64 z0)]++caps_a0.map .sc) [.sc (.v (.bool zr))])(h:Mz a0=N r):FC zA 243 [.sc (.clo F_a0 caps_a0)] [.sc (.o 2 (I X4.row r))]:=by
 unfold Mz at h;refine A9 mixed bp [2] 30 ?_;simp only[bp,C,E,F,G,H,J];try simp only[C,E,F,G,H,J]
 refine Ax (es:=I X4.row ([]:P X4)) ?_;try simp only[C,E,F,G,H,J]
 refine B6b hF_a0 h_a0 h ?_;try simp only[C,E,F,G,H,J,pL,aM,Z]
/- 265:impl_Wave -/
def br:X0:=(A1 [A6 4 0] (Aa [mv 7 1,ca 8 223 [S 7],nt 9 8] 9 (A2 [A6 4 0]) (A1 [mv 10 0,mv 11 1,bn 12 .rem 10 11,mv 13 1,bn 14 .add 12 13,mv 15 1,bn 16 .rem 14 15,mv 5 16] (A1 [mv 17 1,Ac 18 .quo 17 2,mv 6 18] (Aa [mv 19 5,mv 20 6,bn 21 .geq 19 20] 21 (A1 [mv 22 5,mv 23 6,bn 24 .sub 22 23,mv 5 24] (A2 [mv 25 5,(O,.bin 26 .mul (K 40000) (S 25)),mv 27 6,mv 28 5,bn 29 .sub 27 28,bn 30 .mul 26 29,mv 31 6,mv 32 6,bn 33 .mul 31 32,bn 34 .quo 30 33,(O,.un 35 .neg (S 34)),mv 4 35])) (A2 [mv 36 5,(O,.bin 37 .mul (K 40000) (S 36)),mv 38 6,mv 39 5,bn 40 .sub 38 39,bn 41 .mul 37 40,mv 42 6,mv 43 6,bn 44 .mul 42 43,bn 45 .quo 41 44,mv 4 45]))))))
theorem A9s{a0}{a1}{r}(h:Ml a0 a1=N r):FC zA 265 [.sc (.int .i64 a0),.sc (.int .i64 a1)] [.sc (.v (.int .i64 r))]:=by
 unfold Ml at h;refine A9 mixed br [4] 46 ?_;simp only[br,C,E,F,G,H,J];obtain⟨r1,h1,h⟩:=ob h;try simp only[C,E,F,G,H,J]
 refine A4 (jh h1) ?_;obtain⟨h2,h⟩|⟨h2,h⟩:=ic h
 ·obtain⟨h3,h⟩:=Dj h;obtain⟨h4,h⟩:=Dj h;obtain⟨h5,h⟩|⟨h5,h⟩:=ic h
  ·obtain⟨h6,h⟩:=Dj h;try simp only[h2,h3,h4,h5,h6,C,E,F,G,H,J]
   cases h;exact t0
  ·obtain⟨h7,h⟩:=Dj h;try simp only[h2,h3,h4,h5,h7,C,E,F,G,H,J]
   cases h;exact t0
 ·try simp only[h2,C,E,F,G,H,J]
  cases h;exact t0
/- 258:impl_Tide_level -/
def Qt:X0:=A1 [Ae [1,5,11,12,13] [] []] (A1 [bn 14 .lss 13 12] (Av 14 0 1 (A1 [ia 15 11 13 3,lw 16 15 3,Al 7 [aI 0,aI 0,aI 0],so 7 16 3] (.drw [(N [26],mv 17 5),(N [26],fa 18 7 0),(N [26],ld 19 18),o0 (mv 20 1),o0 (fa 21 7 2),o0 (ld 22 21),o0 (bn 23 .add 20 22),o0 (fa 24 7 1),o0 (ld 25 24),o0 (ca 26 265 [S 23,S 25]),o0 (bn 27 .mul 19 26),o0 (Ac 28 .quo 27 10000),o0 (bn 29 .add 17 28),o0 (mv 5 29)])) (Au 30 13)))
def UZ:X0:=(A2 [mv 31 5,mv 4 31])
def bt:X0:=(A1 [bo 2 0,A6 4 0] (A1 [fa 8 2 0,ld 9 8,mv 5 9] (A5 (A1 [fa 10 2 1,ld 11 10,ln 12 11,A6 13 0] (Ah 0 Qt)) UZ)))
def mJ:=fun a1 (a0:Xi) (k_:U→U→Q U)=>∀{v1 v2} {zr},k_ v1 v2=N zr→Kp zA [1,5,11,12,13] [] [] ⟨[pI 1 a1,pI 5 v1,pL 11 zD a0.Parts,pI 12 (a0.Parts.length:U),pI 13 v2],[],[]⟩ (.code (.loop Qt):: [.blk 0,.code UZ]) (Ag [4] [.sc (.v (.int .i64 zr))])
theorem B6c{a1 a0}{n:W}:mJ a1 a0 (Hw a1 a0 n):=by
 induction n with
 | zero=>intro _ _ r h; cases h
 | succ n ih=>
  intro v1 v2 r h σ hσ;rw[Hw] at h;refine Ai ?_;obtain⟨h3,h⟩|⟨h3,h⟩:=ic h
  ·obtain⟨x4,h4,h⟩:=ob h;try simp only[hσ,h3,h4,Qt,C,E,F,G,H,J]
   refine Am ?_;try simp only[h3,h4,C,E,F,G,H,J]
   refine An ?_;obtain⟨r5,h5,h⟩:=ob h;try simp only[h3,h4,C,E,F,G,H,J]
   refine AF (A9s h5) ?_;try simp only[h3,h4,C,E,F,G,H,J]
   refine ih h ?_;try simp only[h3,h4,C,E,F,G,H,J,pL,aM,Z]
  ·try simp only[hσ,h3,Qt,UZ,C,E,F,G,H,J]
   cases h;exact t0
theorem A9r{a0}{a1}{r}(h:RW a0 a1=N r):FC zA 258 [.ag (Xi.row a0),.sc (.int .i64 a1)] [.sc (.v (.int .i64 r))]:=by
 unfold RW at h;refine A9 mixed bt [4] 32 ?_;simp only[bt,C,E,F,G,H,J];try simp only[C,E,F,G,H,J]
 refine A8 ?_;try simp only[C,E,F,G,H,J]
 refine B6c h ?_;try simp only[C,E,F,G,H,J,pL,aM,Z]
/- 259:impl_Forecast_surge -/
def Qu:X0:=A1 [Ae [1,5,9,10,11] [] []] (A1 [bn 12 .lss 11 10] (Av 12 0 1 (A1 [mv 13 11,ia 14 9 11 3,lw 15 14 3,Al 7 [aI 0,aI 0,aI 0],mv 6 13,so 7 15 3] (A1 [fa 16 7 0,ld 17 16,mv 18 1,bn 19 .leq 17 18] (Aq 19 (.reg [mv 20 6,mv 5 20])))) (Au 21 11)))
def V0:X0:=(A2 [mv 22 5,mv 4 22])
def bu:X0:=(A1 [bo 2 0,A6 4 0] (A1 [A6 5 0] (A5 (A1 [fa 8 2 2,ld 9 8,ln 10 9,A6 11 0] (Ah 0 Qu)) V0)))
def lp:=fun a1 (a0:Xc) (k_:U→U→Q U)=>∀{v1 v2} {zr},k_ v1 v2=N zr→Kp zA [1,5,9,10,11] [] [] ⟨[pI 1 a1,pI 5 v1,pL 9 zE a0.Surges,pI 10 (a0.Surges.length:U),pI 11 v2],[],[]⟩ (.code (.loop Qu):: [.blk 0,.code V0]) (Ag [4] [.sc (.v (.int .i64 zr))])
theorem B6d{a1 a0}{n:W}:lp a1 a0 (ER a1 a0 n):=by
 induction n with
 | zero=>intro _ _ r h; cases h
 | succ n ih=>
  intro v1 v2 r h σ hσ;rw[ER] at h;refine Ai ?_;obtain⟨h3,h⟩|⟨h3,h⟩:=ic h
  ·obtain⟨x4,h4,h⟩:=ob h;try simp only[hσ,h3,h4,Qu,C,E,F,G,H,J]
   refine Am ?_;obtain⟨h5,h⟩|⟨h5,h⟩:=ic h
   ·try simp only[h3,h4,h5,C,E,F,G,H,J]
    refine ih h ?_;try simp only[h3,h4,h5,C,E,F,G,H,J,pL,aM,Z]
   ·try simp only[h3,h4,h5,C,E,F,G,H,J]
    refine ih h ?_;try simp only[h3,h4,h5,C,E,F,G,H,J,pL,aM,Z]
  ·try simp only[hσ,h3,Qu,V0,C,E,F,G,H,J]
   cases h;exact t0
theorem A8y{a0}{a1}{r}(h:LX a0 a1=N r):FC zA 259 [.ag (zI a0),.sc (.int .i64 a1)] [.sc (.v (.int .i64 r))]:=by
 unfold LX at h;refine A9 mixed bu [4] 23 ?_;simp only[bu,C,E,F,G,H,J];try simp only[C,E,F,G,H,J]
 refine A8 ?_;try simp only[C,E,F,G,H,J]
 refine B6d h ?_;try simp only[C,E,F,G,H,J,pL,aM,Z]
/- 245:impl_Forecast_low -/
def bv:X0:=(A1 [bo 2 0,A6 4 0] (A5 (.drw [o0 (fa 5 2 0),o0 (lw 6 5 2),o0 (mv 7 1),o0 (ca 8 258 [S 6,S 7]),(N [8,13],fa 9 2 2),(N [8,13],ld 10 9),(N [8],lw 11 2 3),(N [8],mv 12 1),o0 (ca 13 259 [S 11,S 12]),o0 (ia 14 10 13 3),o0 (fa 15 14 1),o0 (ld 16 15),o0 (bn 17 .add 8 16),o0 (mv 4 17)]) .ret))
theorem A8x{a0}{a1}{r}(h:LW a0 a1=N r):FC zA 245 [.ag (zI a0),.sc (.int .i64 a1)] [.sc (.v (.int .i64 r))]:=by
 unfold LW at h;refine A9 mixed bv [4] 18 ?_;simp only[bv,C,E,F,G,H,J];try simp only[C,E,F,G,H,J]
 refine A8 ?_;try simp only[C,E,F,G,H,J]
 refine An ?_;obtain⟨r1,h1,h⟩:=ob h;try simp only[C,E,F,G,H,J]
 refine AF (A9r h1) ?_;obtain⟨r2,h2,h⟩:=ob h;try simp only[C,E,F,G,H,J]
 refine AF (A8y h2) ?_;obtain⟨x3,h3,h⟩:=ob h;try simp only[h3,C,E,F,G,H,J]
 cases h;exact t0
/- 244:impl_LowWindows_1 -/
def bw:X0:=(A1 [A3 4 L] (A5 (.drw [o0 (lw 5 1 3),o0 (mv 6 0),o0 (ca 7 245 [S 5,S 6]),(N [7],ld 8 2),o0 (bn 9 .geq 7 8),o0 (mv 4 9)]) .ret))
theorem B6e{a0}{c0}{c1}{r}(h:RO a0 c0 c1=N r):FC zA 244 [.sc (.int .i64 a0),.sc (.pd (zI c0)),.sc (.pd (rI c1))] [.sc (.v (.bool r))]:=by
 unfold RO at h;refine A9 mixed bw [4] 10 ?_;simp only[bw,C,E,F,G,H,J];try simp only[C,E,F,G,H,J]
 refine An ?_;obtain⟨r1,h1,h⟩:=ob h;try simp only[C,E,F,G,H,J]
 refine AF (A8x h1) ?_;try simp only[C,E,F,G,H,J]
 cases h;exact t0
/- 227:impl_LowWindows -/
def cA:X0:=(A1 [bo 2 0,bo 3 1,Ay 4] (Aa [lw 5 2 3,ca 6 126 [S 5],nt 7 6] 7 (A2 [Ay 4]) (A2 [(O,.mkf 8 244 [(S 2),(S 3)]),ca 9 243 [S 8],mv 4 9])))
theorem A87{a0}{a1}{r}(h:M5 a0 a1=N r):FC zA 227 [.ag (zI a0),.sc (.int .i64 a1)] [.sc (.o 2 (I X4.row r))]:=by
 unfold M5 at h;refine A9 mixed cA [4] 10 ?_;simp only[cA,C,E,F,G,H,J];try simp only[C,E,F,G,H,J]
 refine A8 ?_;try simp only[C,E,F,G,H,J]
 refine A8 ?_;obtain⟨r1,h1,h⟩:=ob h;try simp only[C,E,F,G,H,J]
 refine A4 (Tp h1) ?_;obtain⟨h2,h⟩|⟨h2,h⟩:=ic h
 ·obtain⟨r3,h3,h⟩:=ob h;try simp only[h2,C,E,F,G,H,J]
  refine B7 (A99 244 [.pd (zI a0),.pd (rI a1)] (by kernel_rfl) (fun z0 zr zh=>B6e zh) h3) Y (BO Y ⟨B3,⟨⟩⟩) Y (uf Y) ?_;try simp only[h2,C,E,F,G,H,J]
  cases h;exact t0
 ·try simp only[h2,C,E,F,G,H,J]
  cases h;exact t0
/- 229:impl_MinutesOn -/
def cB:X0:=(A1 [bo 3 0,bo 5 2,A6 6 0] (Aa [lw 7 3 2,ca 8 127 [S 7],nt 9 8,mv 10 9,AQ 10 L 11 5 6,Ak 10 L 12 172 [S 11],AN 10 L 13 12,po 14 10 13,mv 15 14,Af 15 L 16 1,Ab 15 L 17 3 1,Ad 15 L 18 17,B1 15 L 19 18,Ak 15 L 20 131 [S 16,S 19],AN 15 L 21 20,po 22 15 21] 22 (A2 [A6 6 0]) (A5 (.drw [o0 (lw 23 5 6),o0 (fa 24 3 1),o0 (ld 25 24),o0 (mv 26 1),o0 (ia 27 25 26 5),o0 (lw 28 27 5),o0 (ca 29 203 [S 23,S 28]),o0 (mv 6 29)]) .ret)))
theorem A88{a0}{a1}{a2}{r}(h:M6 a0 a1 a2=N r):FC zA 229 [.ag (X6.row a0),.sc (.int .i64 a1),.ag (X5.row a2)] [.sc (.v (.int .i64 r))]:=by
 unfold M6 at h;refine A9 mixed cB [6] 30 ?_;simp only[cB,C,E,F,G,H,J];try simp only[C,E,F,G,H,J]
 refine A8 ?_;try simp only[C,E,F,G,H,J]
 refine A8 ?_;obtain⟨r1,h1,h⟩:=ob h;try simp only[C,E,F,G,H,J]
 refine A4 (Ja h1) ?_;obtain⟨h2,h⟩|⟨h2,h⟩:=ic h
 ·obtain⟨r3,h3,h⟩:=ob h;try simp only[h2,C,E,F,G,H,J]
  refine A4 (L2 h3) ?_;obtain⟨h4,h⟩|⟨h4,h⟩:=ic h
  ·obtain⟨r5,h5,h⟩:=ob h;try simp only[h2,h4,C,E,F,G,H,J]
   refine A4 (Cv h5) ?_;obtain⟨h6,h⟩|⟨h6,h⟩:=ic h
   ·try simp only[h2,h4,h6,C,E,F,G,H,J]
    refine An ?_;obtain⟨x7,h7,h⟩:=ob h;obtain⟨r9,h9,h⟩:=ob h;try simp only[h2,h4,h6,h7,C,E,F,G,H,J]
    refine AF (OR h9) ?_;try simp only[h2,h4,h6,h7,C,E,F,G,H,J]
    cases h;exact t0
   ·try simp only[h2,h4,h6,C,E,F,G,H,J]
    cases h;exact t0
  ·try simp only[h2,h4,C,E,F,G,H,J]
   cases h;exact t0
 ·try simp only[h2,C,E,F,G,H,J]
  cases h;exact t0
/- 230:impl_WindowsOk -/
def Qw:X0:=A1 [Ae [0,5,6,7] [] []] (A1 [bn 8 .lss 7 6] (Av 8 0 1 (A1 [mv 9 7,ia 10 5 7 2,lw 11 10 2,Al 4 [aI 0,aI 0],mv 3 9,so 4 11 2] (A5 (.drw [o0 (fa 12 4 0),o0 (ld 13 12),o0 (Ac 14 .lss 13 0),o0 (mv 15 14),o0 (Ab 15 L 16 4 0),o0 (Ad 15 L 17 16),o0 (Ab 15 L 18 4 1),o0 (Ad 15 L 19 18),o0 (AK 15 L 20 .gtr 17 19),o0 (po 21 15 20),o0 (mv 22 21),o0 (Ab 22 L 23 4 1),o0 (Ad 22 L 24 23),o0 (AP 22 L 25 .gtr 24 2880),o0 (po 26 22 25),o0 (mv 27 26),o0 (Af 27 L 28 3),o0 (AP 27 L 29 .gtr 28 0),o0 (Af 27 L 30 29),o0 (Af 30 T 31 0),o0 (Af 30 T 32 3),o0 (AP 30 T 33 .sub 32 1),o0 (CC 30 T 34 31 33 2),o0 (Ab 30 T 35 34 1),o0 (Ad 30 T 36 35),o0 (AP 30 T 37 .add 36 1),o0 (Ab 30 T 38 4 0),o0 (Ad 30 T 39 38),o0 (AK 30 T 40 .geq 37 39),o0 (N (27,L),.pick 41 (S 30) (S 40) (KB L)),o0 (po 42 27 41)]) (Aq 42 (A2 [A3 2 L])))) (Au 43 7)))
def V2:X0:=(A2 [A3 2 T])
def cC:X0:=(A1 [A3 2 L] (A5 (A1 [mv 5 0,ln 6 5,A6 7 0] (Ah 0 Qw)) V2))
def mK:=fun a0 (k_:U→Q V)=>∀{v1} {zr},k_ v1=N zr→Kp zA [0,5,6,7] [] [] ⟨[pL 0 X4.row a0,pL 5 X4.row a0,pI 6 (a0.length:U),pI 7 v1],[],[]⟩ (.code (.loop Qw):: [.blk 0,.code V2]) (Ag [2] [.sc (.v (.bool zr))])
theorem B6f{a0}{n:W}:mK a0 (EV a0 n):=by
 induction n with
 | zero=>intro _ r h; cases h
 | succ n ih=>
  intro v1 r h σ hσ;rw[EV] at h;refine Ai ?_;obtain⟨h2,h⟩|⟨h2,h⟩:=ic h
  ·obtain⟨x3,h3,h⟩:=ob h;try simp only[hσ,h2,h3,Qw,C,E,F,G,H,J]
   refine Am ?_;try simp only[h2,h3,C,E,F,G,H,J]
   refine An ?_;obtain⟨h4,h⟩|⟨h4,h⟩:=ic h
   ·try simp only[h2,h3,h4,C,E,F,G,H,J]
    cases h;exact t0
   ·obtain⟨h5,h⟩|⟨h5,h⟩:=ic h
    ·try simp only[h2,h3,h4,h5,C,E,F,G,H,J]
     cases h;exact t0
    ·obtain⟨h6,h⟩|⟨h6,h⟩:=ic h
     ·try simp only[h2,h3,h4,h5,h6,C,E,F,G,H,J]
      cases h;exact t0
     ·obtain⟨h7,h⟩|⟨h7,h⟩:=ic h
      ·obtain⟨x8,h8,h⟩:=ob h;obtain⟨h9,h⟩|⟨h9,h⟩:=ic h
       ·try simp only[h2,h3,h4,h5,h6,h7,h8,h9,C,E,F,G,H,J]
        cases h;exact t0
       ·try simp only[h2,h3,h4,h5,h6,h7,h8,h9,C,E,F,G,H,J]
        refine ih h ?_;try simp only[h2,h3,h4,h5,h6,h7,h8,h9,C,E,F,G,H,J,pL,aM,Z]
      ·try simp only[h2,h3,h4,h5,h6,h7,C,E,F,G,H,J]
       refine ih h ?_;try simp only[h2,h3,h4,h5,h6,h7,C,E,F,G,H,J,pL,aM,Z]
  ·try simp only[hσ,h2,Qw,V2,C,E,F,G,H,J]
   cases h;exact t0
theorem jc{a0}{r}(h:JK a0=N r):FC zA 230 [.sc (.sl (I X4.row a0))] [.sc (.v (.bool r))]:=by
 unfold JK at h;refine A9 mixed cC [2] 44 ?_;simp only[cC,C,E,F,G,H,J];try simp only[C,E,F,G,H,J]
 refine B6f h ?_;try simp only[C,E,F,G,H,J,pL,aM,Z]
/- 226:impl_ShrinkWindows -/
def Qx:X0:=A1 [Ae [1,5,17,18,19] [] [1024]] (A1 [bn 20 .lss 19 18] (Av 20 0 1 (A1 [ia 21 17 19 2,lw 22 21 2,Al 7 [aI 0,aI 0],so 7 22 2] (A1 [fa 23 7 1,ld 24 23,fa 25 7 0,ld 26 25,bn 27 .sub 24 26,mv 28 1,bn 29 .geq 27 28] (Aq 29 (.reg [mv 30 5,fa 31 7 0,ld 32 31,fa 33 7 1,ld 34 33,mv 35 1,bn 36 .sub 34 35,BH 37 [aI 0,aI 0] [(0,1,(S 32)),(1,1,(S 36))],AD 38 2 [.int .i64 0,.int .i64 0] 1 [(0,(S 37))],Be 39 2 16 30 38,mv 5 39])))) (Au 40 19)))
def V4:X0:=(A2 [mv 41 5,mv 4 41])
def cD:X0:=(A1 [Ay 4] (Aa [mv 8 0,ca 9 230 [S 8],nt 10 9,mv 11 10,Af 11 L 12 1,Ak 11 L 13 132 [S 12],AN 11 L 14 13,po 15 11 14] 15 (A2 [Ay 4]) (A1 [AD 16 2 [.int .i64 0,.int .i64 0] 0 [],mv 5 16] (A5 (A1 [mv 17 0,ln 18 17,A6 19 0] (Ah 0 Qx)) V4))))
def mH:=fun a1 a0 (k_:U→(P X4)→Q (P X4))=>∀{v5 v6} {zr},k_ v5 v6=N zr→Kp zA [1,5,17,18,19] [] [1024] ⟨[pI 1 a1,pW 5 1024,pL 17 X4.row a0,pI 18 (a0.length:U),pI 19 v5],[],[(1024,2,I X4.row v6)]⟩ (.code (.loop Qx):: [.blk 0,.code V4]) (Ag [4] [.sc (.o 2 (I X4.row zr))])
theorem B6g{a1 a0}{n:W}:mH a1 a0 (EU a1 a0 n):=by
 induction n with
 | zero=>intro _ _ r h; cases h
 | succ n ih=>
  intro v5 v6 r h σ hσ;rw[EU] at h;refine Ai ?_;obtain⟨h7,h⟩|⟨h7,h⟩:=ic h
  ·obtain⟨x8,h8,h⟩:=ob h;try simp only[hσ,h7,h8,Qx,C,E,F,G,H,J]
   refine Am ?_;obtain⟨h9,h⟩|⟨h9,h⟩:=ic h
   ·try simp only[h7,h8,h9,C,E,F,G,H,J]
    refine Ax (es:=I X4.row ([(⟨x8.From,(zJ .i64 (x8.To - a1))⟩:X4)]:P X4)) ?_;obtain⟨h10,h⟩:=AT h;try simp only[h7,h8,h9,h10,C,E,F,G,H,J]
    refine ih h ?_;try simp only[h7,h8,h9,h10,C,E,F,G,H,J,pL,aM,Z]
   ·try simp only[h7,h8,h9,C,E,F,G,H,J]
    refine ih h ?_;try simp only[h7,h8,h9,C,E,F,G,H,J,pL,aM,Z]
  ·try simp only[hσ,h7,Qx,V4,C,E,F,G,H,J]
   cases h;exact t0
theorem A9n{a0}{a1}{r}(h:RU a0 a1=N r):FC zA 226 [.sc (.sl (I X4.row a0)),.sc (.int .i64 a1)] [.sc (.o 2 (I X4.row r))]:=by
 unfold RU at h;refine A9 mixed cD [4] 42 ?_;simp only[cD,C,E,F,G,H,J];obtain⟨r1,h1,h⟩:=ob h;try simp only[C,E,F,G,H,J]
 refine A4 (jc h1) ?_;obtain⟨h2,h⟩|⟨h2,h⟩:=ic h
 ·obtain⟨r3,h3,h⟩:=ob h;try simp only[h2,C,E,F,G,H,J]
  refine A4 (FD h3) ?_;obtain⟨h4,h⟩|⟨h4,h⟩:=ic h
  ·try simp only[h2,h4,C,E,F,G,H,J]
   refine Ax (es:=I X4.row ([]:P X4)) ?_;try simp only[h2,h4,C,E,F,G,H,J]
   refine B6g h ?_;try simp only[h2,h4,C,E,F,G,H,J,pL,aM,Z]
  ·try simp only[h2,h4,C,E,F,G,H,J]
   cases h;exact t0
 ·try simp only[h2,C,E,F,G,H,J]
  cases h;exact t0
/- 204:impl_SureStarts -/
def cE:X0:=(A1 [bo 4 0,bo 5 1,bo 7 3,Ay 8] (Aa [lw 9 4 3,ca 10 126 [S 9],nt 11 10,mv 12 11,AQ 12 L 13 5 2,Af 12 L 14 2,AQ 12 L 15 7 6,Ak 12 L 16 225 [S 13,S 14,S 15],AN 12 L 17 16,po 18 12 17] 18 (A2 [Ay 8]) (A5 (.drw [(N [23],lw 19 4 3),o0 (lw 20 5 2),o0 (mv 21 2),o0 (lw 22 7 6),o0 (ca 23 228 [S 20,S 21,S 22]),o0 (ca 24 227 [S 19,S 23]),(N [23,24],lw 25 5 2),(N [23,24],mv 26 2),(N [23,24],lw 27 7 6),o0 (ca 28 229 [S 25,S 26,S 27]),o0 (ca 29 226 [S 24,S 28]),o0 (mv 8 29)]) .ret)))
theorem A9o{a0}{a1}{a2}{a3}{r}(h:Mh a0 a1 a2 a3=N r):FC zA 204 [.ag (zI a0),.ag (X6.row a1),.sc (.int .i64 a2),.ag (X5.row a3)] [.sc (.o 2 (I X4.row r))]:=by
 unfold Mh at h;refine A9 mixed cE [8] 30 ?_;simp only[cE,C,E,F,G,H,J];try simp only[C,E,F,G,H,J]
 refine A8 ?_;try simp only[C,E,F,G,H,J]
 refine A8 ?_;try simp only[C,E,F,G,H,J]
 refine A8 ?_;obtain⟨r1,h1,h⟩:=ob h;try simp only[C,E,F,G,H,J]
 refine A4 (Tp h1) ?_;obtain⟨h2,h⟩|⟨h2,h⟩:=ic h
 ·obtain⟨r3,h3,h⟩:=ob h;try simp only[h2,C,E,F,G,H,J]
  refine A4 (jj h3) ?_;obtain⟨h4,h⟩|⟨h4,h⟩:=ic h
  ·try simp only[h2,h4,C,E,F,G,H,J]
   refine An ?_;obtain⟨r5,h5,h⟩:=ob h;try simp only[h2,h4,C,E,F,G,H,J]
   refine AF (A86 h5) ?_;obtain⟨r6,h6,h⟩:=ob h;try simp only[h2,h4,C,E,F,G,H,J]
   refine AF (A87 h6) ?_;obtain⟨r7,h7,h⟩:=ob h;try simp only[h2,h4,C,E,F,G,H,J]
   refine AF (A88 h7) ?_;obtain⟨r9,h9,h⟩:=ob h;try simp only[h2,h4,C,E,F,G,H,J]
   refine Gr (A9n h9) (by first | rfl | kernel_rfl) (BO Y ⟨B3,⟨⟩⟩) Y (uf Y) ?_;try simp only[h2,h4,C,E,F,G,H,J]
   cases h;exact t0
  ·try simp only[h2,h4,C,E,F,G,H,J]
   cases h;exact t0
 ·try simp only[h2,C,E,F,G,H,J]
  cases h;exact t0
/- 176:impl_voyageOf -/
def Qy:X0:=A1 [Ae [3,4,5,6,7,10,34] [5,6,7,10] []] (Aq 34 (A2 [BH 35 [.nil,.nil,.nil] [],so 10 35 3,A3 11 L]))
def Qz:X0:=A1 [Ae [4,5,6,7,10,12,43,44,45] [5,6,7,10,12] [140288,140352,140416]] (A1 [bn 46 .lss 45 44] (Av 46 0 1 (A1 [mv 47 45,ia 48 43 45 1,ld 49 48,mv 13 47,mv 14 49] (A5 (.drw [(N [58],fa 50 12 0),(N [58],ld 51 50),o0 (fa 52 6 0),o0 (ld 53 52),o0 (mv 54 14),o0 (ia 55 53 54 2),o0 (fa 56 55 1),o0 (ld 57 56),o0 (AD 58 1 [.bool L] 1 [(0,(S 57))]),(O,Be 59 1 1 51 58),o0 (fa 60 12 0),(O,so 60 59 1)]) (A5 (.drw [(N [72,73],fa 61 12 1),(N [72,73],ld 62 61),o0 (lw 63 7 6),o0 (fa 64 6 1),o0 (ld 65 64),o0 (mv 66 4),o0 (mv 67 13),o0 (ia 68 66 67 1),o0 (ld 69 68),o0 (ia 70 65 69 5),o0 (lw 71 70 5),o0 (ca 72 203 [S 63,S 71]),o0 (AD 73 1 [.int .i64 0] 1 [(0,(S 72))]),(O,Be 74 1 8 62 73),o0 (fa 75 12 1),(O,so 75 74 1)]) (.drw [(N [85,86],fa 76 12 2),(N [85,86],ld 77 76),o0 (lw 78 5 3),o0 (lw 79 6 2),o0 (mv 80 4),o0 (mv 81 13),o0 (ia 82 80 81 1),o0 (ld 83 82),o0 (lw 84 7 6),o0 (ca 85 204 [S 78,S 79,S 83,S 84]),o0 (AD 86 1 [.sl []] 1 [(0,(S 85))]),(O,Be 87 1 24 77 86),o0 (fa 88 12 2),(O,so 88 87 1)])))) (Au 89 45)))
def V5:X0:=(A2 [lw 90 12 3,so 10 90 3,A3 11 T])
def V6:X0:=(A1 [BH 36 [.nil,.nil,.nil] [],Al 12 [.nil,.nil,.nil],so 12 36 3,(O,.ownb 12 0 140288 1),(O,.ownb 12 1 140352 1),(O,.ownb 12 2 140416 1)] (A5 (A1 [lw 37 6 2,mv 38 3,mv 39 4,ca 40 175 [S 37,S 38,S 39],mv 41 4,ln 42 41,(O,.frz 2560),(O,.slc 43 1 (S 40) O (N (S 42)) O),ln 44 43,A6 45 0] (Ah 0 Qz)) V5))
def cF:X0:=(A1 [bo 5 0,bo 6 1,bo 7 2,Al 10 [.nil,.nil,.nil],A3 11 L] (A5 (A1 [lw 15 5 3,ca 16 126 [S 15],nt 17 16,mv 18 17,AQ 18 L 19 7 6,Ak 18 L 20 172 [S 19],AN 18 L 21 20,po 22 18 21,mv 23 22,AQ 23 L 24 6 2,Af 23 L 25 3,Af 23 L 26 4,Ak 23 L 27 202 [S 24,S 25,S 26],AN 23 L 28 27,po 29 23 28,mv 30 29,Af 30 L 31 4,B1 30 L 32 31,AP 30 L 33 .eql 32 0,po 34 30 33] Qy) V6))
def mc:=fun a4 (a0:Xc) (a1:X6) (a2:X5) y11 y12 (k_:U→(P V)→(P U)→(P (P X4))→Q (Xh × V))=>∀{v13 v14 v15 v16} {zr},k_ v13 v14 v15 v16=N zr→Kp zA [4,5,6,7,10,12,43,44,45] [5,6,7,10,12] [140288,140352,140416] ⟨[pL 4 rI a4,pB 5,pB 6,pB 7,pB 10,pB 12,pL 43 rI y11,pI 44 y12,pI 45 v13],[(5,[aI a0.Tide.Mean,aM zD a0.Tide.Parts,aM zE a0.Surges]),(6,[aM X9.row a1.Points,aM X3.row a1.Segments]),(7,(dm a2.row)),(10,[.nil,.nil,.nil]),(12,[.own 140288,.own 140352,.own 140416])],[(140288,1,I rB v14),(140352,1,I rI v15),(140416,1,I (rL X4.row) v16)]⟩ (.code (.loop Qz):: [.blk 0,.code V5]) (Ag [.c 10 T 3,11] [.ag [.o 1 (I rB zr.1.waits),.o 1 (I rI zr.1.minutes),.o 1 (I (rL X4.row) zr.1.sure)],.sc (.v (.bool zr.2))])
def mb:=fun a3 a4 (a0:Xc) (a1:X6) (a2:X5) (k_:V→Q (Xh × V))=>∀{v7} {zr},k_ v7=N zr→Kp zA [3,4,5,6,7,10,34] [5,6,7,10] [] ⟨[pI 3 a3,pL 4 rI a4,pB 5,pB 6,pB 7,pB 10,(34,vc (aB v7))],[(5,[aI a0.Tide.Mean,aM zD a0.Tide.Parts,aM zE a0.Surges]),(6,[aM X9.row a1.Points,aM X3.row a1.Segments]),(7,(dm a2.row)),(10,[.nil,.nil,.nil])],[]⟩ (.code Qy:: [.code V6]) (Ag [.c 10 T 3,11] [.ag [.o 1 (I rB zr.1.waits),.o 1 (I rI zr.1.minutes),.o 1 (I (rL X4.row) zr.1.sure)],.sc (.v (.bool zr.2))])
theorem B6h{a4 a0 a1 a2 y11 y12}{n:W}:mc a4 a0 a1 a2 y11 y12 (HG a4 a0 a1 a2 y11 y12 n):=by
 induction n with
 | zero=>intro _ _ _ _ r h; cases h
 | succ n ih=>
  intro v13 v14 v15 v16 r h σ hσ;rw[HG] at h;refine Ai ?_;obtain⟨h17,h⟩|⟨h17,h⟩:=ic h
  ·obtain⟨x18,h18,h⟩:=ob h;try simp only[hσ,h17,h18,Qz,C,E,F,G,H,J]
   refine An ?_;obtain⟨x19,h19,h⟩:=ob h;try simp only[h17,h18,h19,C,E,F,G,H,J]
   refine Ax (es:=I rB ([x19.Wait]:P V)) ?_;obtain⟨h20,h⟩:=AT h;try simp only[h17,h18,h19,h20,C,E,F,G,H,J]
   refine An ?_;try simp only[h17,h18,h19,h20,C,E,F,G,H,J]
   refine An ?_;try simp only[h17,h18,h19,h20,C,E,F,G,H,J]
   refine An ?_;obtain⟨x21,h21,h⟩:=ob h;obtain⟨x22,h22,h⟩:=ob h;obtain⟨r23,h23,h⟩:=ob h;try simp only[h17,h18,h19,h20,h21,h22,C,E,F,G,H,J]
   refine AF (OR h23) ?_;try simp only[h17,h18,h19,h20,h21,h22,C,E,F,G,H,J]
   refine Ax (es:=I rI ([r23]:P U)) ?_;obtain⟨h24,h⟩:=AT h;try simp only[h17,h18,h19,h20,h21,h22,h24,C,E,F,G,H,J]
   refine An ?_;try simp only[h17,h18,h19,h20,h21,h22,h24,C,E,F,G,H,J]
   refine An ?_;try simp only[h17,h18,h19,h20,h21,h22,h24,C,E,F,G,H,J]
   refine An ?_;obtain⟨r25,h25,h⟩:=ob h;try simp only[h17,h18,h19,h20,h21,h22,h24,C,E,F,G,H,J]
   refine AF (FC.asV (rs':= [.sc (.v (.sl (I X4.row r25)))]) (A9o h25) Y) ?_;try simp only[h17,h18,h19,h20,h21,h22,h24,C,E,F,G,H,J]
   refine Ax (es:=I (rL X4.row) ([r25]:P (P X4))) ?_;obtain⟨h26,h⟩:=AT h;try simp only[h17,h18,h19,h20,h21,h22,h24,h26,C,E,F,G,H,J]
   refine An ?_;try simp only[h17,h18,h19,h20,h21,h22,h24,h26,C,E,F,G,H,J]
   refine An ?_;try simp only[h17,h18,h19,h20,h21,h22,h24,h26,C,E,F,G,H,J]
   refine ih h ?_;try simp only[h17,h18,h19,h20,h21,h22,h24,h26,C,E,F,G,H,J,pL,aM,Z]
  ·try simp only[hσ,h17,Qz,V5,C,E,F,G,H,J]
   cases h;try simp only[Bh,C,E,F,G,H,J]
   trivial
theorem Tw{a3 a4 a0 a1 a2}:mb a3 a4 a0 a1 a2 (HF a3 a4 a0 a1 a2):=by
 intro v7 r h σ hσ;unfold HF at h;obtain⟨h8,h⟩|⟨h8,h⟩:=ic h
 ·try simp only[hσ,h8,Qy,C,E,F,G,H,J]
  cases h;try simp only[Bh,C,E,F,G,H,J]
  trivial
 ·try simp only[hσ,h8,Qy,V6,C,E,F,G,H,J]
  refine Am ?_;try simp only[h8,C,E,F,G,H,J]
  refine O4 (cs':= [.own 140288,.nil,.nil]) Y Y Y Y ?_;try simp only[h8,C,E,F,G,H,J]
  refine O4 (cs':= [.own 140288,.own 140352,.nil]) Y Y Y Y ?_;try simp only[h8,C,E,F,G,H,J]
  refine O4 (cs':= [.own 140288,.own 140352,.own 140416]) Y Y Y Y ?_;obtain⟨r9,h9,h⟩:=ob h;try simp only[h8,C,E,F,G,H,J]
  refine A4 (XX h9) ?_;try simp only[h8,C,E,F,G,H,J]
  refine D0 ?_;obtain⟨p10,h10,h⟩:=ob h;try simp only[h8,h10,C,E,F,G,H,J]
  refine B6h h ?_;try simp only[h8,h10,C,E,F,G,H,J,pL,aM,Z]
theorem A97{a0}{a1}{a2}{a3}{a4}{r}(h:HE a0 a1 a2 a3 a4=N r):FC zA 176 [.ag (zI a0),.ag (X6.row a1),.ag (X5.row a2),.sc (.int .i64 a3),.sc (.sl (I rI a4))] [.ag [.o 1 (I rB r.1.waits),.o 1 (I rI r.1.minutes),.o 1 (I (rL X4.row) r.1.sure)],.sc (.v (.bool r.2))]:=by
 unfold HE at h;refine A9 mixed cF [.c 10 T 3,11] 91 ?_;simp only[cF,C,E,F,G,H,J];try simp only[C,E,F,G,H,J]
 refine A8 ?_;try simp only[C,E,F,G,H,J]
 refine A8 ?_;try simp only[C,E,F,G,H,J]
 refine A8 ?_;try simp only[C,E,F,G,H,J]
 refine Am ?_;obtain⟨r1,h1,h⟩:=ob h;try simp only[C,E,F,G,H,J]
 refine A4 (Tp h1) ?_;obtain⟨h2,h⟩|⟨h2,h⟩:=ic h
 ·obtain⟨r3,h3,h⟩:=ob h;try simp only[h2,C,E,F,G,H,J]
  refine A4 (L2 h3) ?_;obtain⟨h4,h⟩|⟨h4,h⟩:=ic h
  ·obtain⟨r5,h5,h⟩:=ob h;try simp only[h2,h4,C,E,F,G,H,J]
   refine A4 (jb h5) ?_;obtain⟨h6,h⟩|⟨h6,h⟩:=ic h
   ·try simp only[h2,h4,h6,C,E,F,G,H,J]
    refine Tw h ?_;try simp only[h2,h4,h6,C,E,F,G,H,J,pL,aM,Z]
   ·try simp only[h2,h4,h6,C,E,F,G,H,J]
    refine Tw h ?_;try simp only[h2,h4,h6,C,E,F,G,H,J,pL,aM,Z]
  ·try simp only[h2,h4,C,E,F,G,H,J]
   refine Tw h ?_;try simp only[h2,h4,C,E,F,G,H,J,pL,aM,Z]
 ·try simp only[h2,C,E,F,G,H,J]
  refine Tw h ?_;try simp only[h2,C,E,F,G,H,J,pL,aM,Z]
/- 135:impl_callVoyage -/
def QA:X0:=A1 [Ae [2,3,4,6,28] [3,4,6] []] (Aq 28 (A2 [BH 29 [.nil,.nil,.nil] [],so 6 29 3,A3 7 L]))
def V7:X0:=(A5 (.drw [o0 (fa 30 3 0),o0 (lw 31 30 3),o0 (fa 32 3 3),o0 (lw 33 32 2),o0 (fa 34 3 5),o0 (ld 35 34),o0 (fa 36 4 0),o0 (ld 37 36),o0 (ia 38 35 37 6),o0 (lw 39 38 6),o0 (fa 40 4 1),o0 (ld 41 40),o0 (mv 42 2),o0 (ca 43 176 [S 31,S 33,S 39,S 41,S 42]),o0 (xt 44 43 0),o0 (xt 45 43 1),(O,so 6 44 3),o0 (mv 7 45)]) .ret)
def cH:X0:=(A1 [bo 3 0,bo 4 1,Al 6 [.nil,.nil,.nil],A3 7 L] (A1 [fa 9 3 3,lw 10 9 2,fa 11 4 1,ld 12 11,mv 13 2,ca 14 175 [S 10,S 12,S 13],mv 8 14] (A5 (A5 (.drw [o0 (mv 15 8),o0 (ln 16 15),o0 (Ac 17 .eql 16 0),o0 (mv 18 17),o0 (Af 18 L 19 8),o0 (Af 18 L 20 8),o0 (B1 18 L 21 20),o0 (AP 18 L 22 .sub 21 1),o0 (CC 18 L 23 19 22 1),o0 (Ad 18 L 24 23),o0 (Ab 18 L 25 4 2),o0 (Ad 18 L 26 25),o0 (AK 18 L 27 .neq 24 26),o0 (po 28 18 27)]) QA) V7)))
def mL:=fun a2 (a0:X7) (a1:Xa) (k_:V→Q (Xh × V))=>∀{v4} {zr},k_ v4=N zr→Kp zA [2,3,4,6,28] [3,4,6] [] ⟨[pL 2 rI a2,pB 3,pB 4,pB 6,(28,vc (aB v4))],[(3,([aI a0.Forecast.Tide.Mean,aM zD a0.Forecast.Tide.Parts,aM zE a0.Forecast.Surges,aM X9.row a0.Chart.Points,aM X3.row a0.Chart.Segments,aM X5.row a0.Fleet,aI a0.Regime.Gap,aB a0.Regime.NoMeet]++dm a0.Crew.row)),(4,(dm a1.row)),(6,[.nil,.nil,.nil])],[]⟩ (.code QA:: [.code V7]) (Ag [.c 6 T 3,7] [.ag [.o 1 (I rB zr.1.waits),.o 1 (I rI zr.1.minutes),.o 1 (I (rL X4.row) zr.1.sure)],.sc (.v (.bool zr.2))])
theorem kw{a2 a0 a1}:mL a2 a0 a1 (Hx a2 a0 a1):=by
 intro v4 r h σ hσ;unfold Hx at h;obtain⟨h5,h⟩|⟨h5,h⟩:=ic h
 ·try simp only[hσ,h5,QA,C,E,F,G,H,J]
  cases h;try simp only[Bh,C,E,F,G,H,J]
  trivial
 ·try simp only[hσ,h5,QA,V7,C,E,F,G,H,J]
  refine An ?_;obtain⟨x6,h6,h⟩:=ob h;obtain⟨r7,h7,h⟩:=ob h;try simp only[h5,h6,C,E,F,G,H,J]
  refine AF (A97 h7) ?_;try simp only[h5,h6,C,E,F,G,H,J]
  refine An ?_;try simp only[h5,h6,C,E,F,G,H,J]
  cases h;try simp only[Bh,C,E,F,G,H,J]
  trivial
theorem A9t{a0}{a1}{a2}{r}(h:RX a0 a1 a2=N r):FC zA 135 [.ag (X7.row a0),.ag (zC a1),.sc (.sl (I rI a2))] [.ag [.o 1 (I rB r.1.waits),.o 1 (I rI r.1.minutes),.o 1 (I (rL X4.row) r.1.sure)],.sc (.v (.bool r.2))]:=by
 unfold RX at h;refine A9 mixed cH [.c 6 T 3,7] 46 ?_;simp only[cH,C,E,F,G,H,J];try simp only[C,E,F,G,H,J]
 refine A8 ?_;try simp only[C,E,F,G,H,J]
 refine A8 ?_;try simp only[C,E,F,G,H,J]
 refine Am ?_;obtain⟨r1,h1,h⟩:=ob h;try simp only[C,E,F,G,H,J]
 refine A4 (XX h1) ?_;try simp only[C,E,F,G,H,J]
 refine An ?_;obtain⟨h2,h⟩|⟨h2,h⟩:=ic h
 ·try simp only[h2,C,E,F,G,H,J]
  refine kw h ?_;try simp only[h2,C,E,F,G,H,J,pL,aM,Z]
 ·obtain⟨x3,h3,h⟩:=ob h;have h3n:=AH h3;try simp only[h2,h3,h3n,C,E,F,G,H,J]
  refine kw h ?_;try simp only[h2,h3,h3n,C,E,F,G,H,J,pL,aM,Z]
/- 205:impl_HasMinute -/
def QB:X0:=A1 [Ae [1,7,8,9] [] []] (A1 [bn 10 .lss 9 8] (Av 10 0 1 (A1 [ia 11 7 9 2,lw 12 11 2,Al 6 [aI 0,aI 0],so 6 12 2] (A1 [mv 13 1,fa 14 6 0,ld 15 14,fa 16 6 1,ld 17 16,ca 18 133 [S 13,S 15,S 17]] (Aq 18 (A2 [A3 4 T])))) (Au 19 9)))
def V8:X0:=(A2 [A3 4 L])
def cI:X0:=(A1 [A3 4 L] (A5 (A1 [mv 7 0,ln 8 7,A6 9 0] (Ah 0 QB)) V8))
def lr:=fun a1 a0 (k_:U→Q V)=>∀{v1} {zr},k_ v1=N zr→Kp zA [1,7,8,9] [] [] ⟨[pI 1 a1,pL 7 X4.row a0,pI 8 (a0.length:U),pI 9 v1],[],[]⟩ (.code (.loop QB):: [.blk 0,.code V8]) (Ag [4] [.sc (.v (.bool zr))])
theorem B6i{a1 a0}{n:W}:lr a1 a0 (Hg a1 a0 n):=by
 induction n with
 | zero=>intro _ r h; cases h
 | succ n ih=>
  intro v1 r h σ hσ;rw[Hg] at h;refine Ai ?_;obtain⟨h2,h⟩|⟨h2,h⟩:=ic h
  ·obtain⟨x3,h3,h⟩:=ob h;try simp only[hσ,h2,h3,QB,C,E,F,G,H,J]
   refine Am ?_;obtain⟨r4,h4,h⟩:=ob h;try simp only[h2,h3,C,E,F,G,H,J]
   refine A4 (Ci h4) ?_;obtain⟨h5,h⟩|⟨h5,h⟩:=ic h
   ·try simp only[h2,h3,h5,C,E,F,G,H,J]
    cases h;exact t0
   ·try simp only[h2,h3,h5,C,E,F,G,H,J]
    refine ih h ?_;try simp only[h2,h3,h5,C,E,F,G,H,J,pL,aM,Z]
  ·try simp only[hσ,h2,QB,V8,C,E,F,G,H,J]
   cases h;exact t0
theorem A81{a0}{a1}{r}(h:LZ a0 a1=N r):FC zA 205 [.sc (.sl (I X4.row a0)),.sc (.int .i64 a1)] [.sc (.v (.bool r))]:=by
 unfold LZ at h;refine A9 mixed cI [4] 20 ?_;simp only[cI,C,E,F,G,H,J];try simp only[C,E,F,G,H,J]
 refine B6i h ?_;try simp only[C,E,F,G,H,J,pL,aM,Z]
/- 206:impl_NextMinute -/
def QC:X0:=A1 [Ae [1,10,11,12] [] []] (A1 [bn 13 .lss 12 11] (Av 13 0 1 (A1 [ia 14 10 12 2,lw 15 14 2,Al 6 [aI 0,aI 0],so 6 15 2] (A1 [fa 16 6 1,ld 17 16,mv 18 1,bn 19 .geq 17 18] (Aq 19 (A2 [fa 20 6 0,ld 21 20,mv 22 1,(O,.mm 23 T (S 21) (S 22)),mv 4 23])))) (Au 24 12)))
def V9:X0:=(A2 [A6 4 (-1)])
def cJ:X0:=(A1 [A6 4 0] (Aa [mv 7 0,ca 8 230 [S 7],nt 9 8] 9 (A2 [A6 4 (-1)]) (A5 (A1 [mv 10 0,ln 11 10,A6 12 0] (Ah 0 QC)) V9)))
def mA:=fun a1 a0 (k_:U→Q U)=>∀{v3} {zr},k_ v3=N zr→Kp zA [1,10,11,12] [] [] ⟨[pI 1 a1,pL 10 X4.row a0,pI 11 (a0.length:U),pI 12 v3],[],[]⟩ (.code (.loop QC):: [.blk 0,.code V9]) (Ag [4] [.sc (.v (.int .i64 zr))])
theorem B6k{a1 a0}{n:W}:mA a1 a0 (Hm a1 a0 n):=by
 induction n with
 | zero=>intro _ r h; cases h
 | succ n ih=>
  intro v3 r h σ hσ;rw[Hm] at h;refine Ai ?_;obtain⟨h4,h⟩|⟨h4,h⟩:=ic h
  ·obtain⟨x5,h5,h⟩:=ob h;try simp only[hσ,h4,h5,QC,C,E,F,G,H,J]
   refine Am ?_;obtain⟨h6,h⟩|⟨h6,h⟩:=ic h
   ·try simp only[h4,h5,h6,C,E,F,G,H,J]
    cases h;exact t0
   ·try simp only[h4,h5,h6,C,E,F,G,H,J]
    refine ih h ?_;try simp only[h4,h5,h6,C,E,F,G,H,J,pL,aM,Z]
  ·try simp only[hσ,h4,QC,V9,C,E,F,G,H,J]
   cases h;exact t0
theorem A89{a0}{a1}{r}(h:M7 a0 a1=N r):FC zA 206 [.sc (.sl (I X4.row a0)),.sc (.int .i64 a1)] [.sc (.v (.int .i64 r))]:=by
 unfold M7 at h;refine A9 mixed cJ [4] 25 ?_;simp only[cJ,C,E,F,G,H,J];obtain⟨r1,h1,h⟩:=ob h;try simp only[C,E,F,G,H,J]
 refine A4 (jc h1) ?_;obtain⟨h2,h⟩|⟨h2,h⟩:=ic h
 ·try simp only[h2,C,E,F,G,H,J]
  refine B6k h ?_;try simp only[h2,C,E,F,G,H,J,pL,aM,Z]
 ·try simp only[h2,C,E,F,G,H,J]
  cases h;exact t0
/- 177:impl_voyage_sail -/
def QD:X0:=A1 [Ae [2,6,7,9,59] [2] [1152]] (Aq 59 (A2 [Ay 4,A3 5 L]))
def Va:X0:=(.reg [mv 60 6,mv 61 9,AD 62 1 [.int .i64 0] 1 [(0,(S 61))],Be 63 1 8 60 62,mv 6 63])
def Vb:X0:=(.reg [mv 24 7,Ac 25 .add 24 1,mv 7 25])
def Lx:X0:=A1 [Ae [2,6,7] [2] [1152]] (A5 (A1 [mv 19 7,fa 20 2 2,ld 21 20,ln 22 21,bn 23 .lss 19 22] (AL 23 .skip (.exit 0))) (A5 (.block 1 (A5 (.drw [o0 (mv 26 6),o0 (mv 27 7),o0 (Ac 28 .sub 27 1),o0 (ia 29 26 28 1),o0 (ld 30 29),o0 (fa 31 2 1),o0 (ld 32 31),o0 (mv 33 7),o0 (Ac 34 .sub 33 1),o0 (ia 35 32 34 1),o0 (ld 36 35),o0 (bn 37 .add 30 36),o0 (mv 8 37)]) (A1 [fa 38 2 2,ld 39 38,mv 40 7,ia 41 39 40 1,ld 42 41,mv 43 8,ca 44 206 [S 42,S 43],mv 9 44] (A5 (A1 [mv 45 9,Ac 46 .lss 45 0,mv 47 46,Af 47 L 48 9,Af 47 L 49 8,AK 47 L 50 .gtr 48 49,Af 47 L 51 50,Ab 51 T 52 2 0,Ad 51 T 53 52,Af 51 T 54 7,CC 51 T 55 53 54 1,Ad 51 T 56 55,AN 51 T 57 56,(N (47,L),.pick 58 (S 51) (S 57) (KB L)),po 59 47 58] QD) Va)))) Vb))
def QE:X0:=(A2 [mv 64 6,mv 4 64,A3 5 T])
def cK:X0:=(A1 [bo 2 0,Ay 4,A3 5 L] (Aa [fa 10 2 2,ld 11 10,(O,.iaddr 12 (S 11) (K 0) 1),ld 13 12,mv 14 1,ca 15 205 [S 13,S 14],nt 16 15] 16 (A2 [Ay 4,A3 5 L]) (A1 [mv 17 1,AD 18 1 [.int .i64 0] 1 [(0,(S 17))],mv 6 18] (A5 (A1 [A6 7 1] (Ah 0 Lx)) QE))))
def md:=fun v4 r10 (a0:Xh) v5 (k_:V→Q ((P U) × V))=>∀{v14} {zr},k_ v14=N zr→Kp zA [2,6,7,9,59] [2] [1152] ⟨[pB 2,pW 6 1152,pI 7 v4,pI 9 r10,(59,vc (aB v14))],[(2,(dm a0.row))],[(1152,1,I rI v5)]⟩ (.code QD:: [.code Va,.blk 1,.code Vb,.code (.loop Lx),.blk 0,.code QE]) (Ag [4,5] [.sc (.o 1 (I rI zr.1)),.sc (.v (.bool zr.2))])
def Yw:=fun(a0:Xh) (k_:U→(P U)→Q ((P U) × V))=>∀{v4 v5} {zr},k_ v4 v5=N zr→Kp zA [2,6,7] [2] [1152] ⟨[pB 2,pW 6 1152,pI 7 v4],[(2,(dm a0.row))],[(1152,1,I rI v5)]⟩ (.code (.loop Lx):: [.blk 0,.code QE]) (Ag [4,5] [.sc (.o 1 (I rI zr.1)),.sc (.v (.bool zr.2))])
theorem Ye{v4 r10 a0 v5}{SX}(xX:Yw a0 SX):md v4 r10 a0 v5 (HH v4 r10 a0 v5 SX):=by
 intro v14 r h σ hσ;unfold HH at h;obtain⟨h15,h⟩|⟨h15,h⟩:=ic h
 ·try simp only[hσ,h15,QD,C,E,F,G,H,J]
  cases h;trivial
 ·try simp only[hσ,h15,QD,Va,C,E,F,G,H,J]
  refine Ax (es:=I rI ([r10]:P U)) ?_;obtain⟨h16,h⟩:=AT h;try simp only[h15,h16,Vb,C,E,F,G,H,J]
  refine xX h ?_;try simp only[h15,h16,C,E,F,G,H,J,pL,aM,Z]
theorem B6l{a0}{n:W}:Yw a0 (Ee a0 n):=by
 induction n with
 | zero=>intro _ _ r h; cases h
 | succ n ih=>
  intro v4 v5 r h σ hσ;rw[Ee] at h;refine Ai ?_;obtain⟨h6,h⟩|⟨h6,h⟩:=ic h
  ·try simp only[hσ,h6,Lx,C,E,F,G,H,J]
   refine An ?_;obtain⟨x7,h7,h⟩:=ob h;have h7n:=AH h7;obtain⟨x8,h8,h⟩:=ob h;obtain⟨x9,h9,h⟩:=ob h;obtain⟨r10,h10,h⟩:=ob h;try simp only[h6,h7,h7n,h8,h9,C,E,F,G,H,J]
   refine A4 (A89 h10) ?_;obtain⟨h11,h⟩|⟨h11,h⟩:=ic h
   ·try simp only[h6,h7,h7n,h8,h9,h11,C,E,F,G,H,J]
    refine Ye ih h ?_;try simp only[h6,h7,h7n,h8,h9,h11,C,E,F,G,H,J,pL,aM,Z]
   ·obtain⟨h12,h⟩|⟨h12,h⟩:=ic h
    ·obtain⟨x13,h13,h⟩:=ob h;try simp only[h6,h7,h7n,h8,h9,h11,h12,h13,C,E,F,G,H,J]
     refine Ye ih h ?_;try simp only[h6,h7,h7n,h8,h9,h11,h12,h13,C,E,F,G,H,J,pL,aM,Z]
    ·try simp only[h6,h7,h7n,h8,h9,h11,h12,C,E,F,G,H,J]
     refine Ye ih h ?_;try simp only[h6,h7,h7n,h8,h9,h11,h12,C,E,F,G,H,J,pL,aM,Z]
  ·try simp only[hσ,h6,Lx,QE,C,E,F,G,H,J]
   cases h;trivial
theorem A98{a0}{a1}{r}(h:My a0 a1=N r):FC zA 177 [.ag (Xh.row a0),.sc (.int .i64 a1)] [.sc (.o 1 (I rI r.1)),.sc (.v (.bool r.2))]:=by
 unfold My at h;refine A9 mixed cK [4,5] 65 ?_;simp only[cK,C,E,F,G,H,J];try simp only[C,E,F,G,H,J]
 refine A8 ?_;obtain⟨x1,h1,h⟩:=ob h;obtain⟨r2,h2,h⟩:=ob h;try simp only[h1,C,E,F,G,H,J]
 refine A4 (A81 h2) ?_;obtain⟨h3,h⟩|⟨h3,h⟩:=ic h
 ·try simp only[h1,h3,C,E,F,G,H,J]
  refine Ax (es:=I rI ([a1]:P U)) ?_;try simp only[h1,h3,C,E,F,G,H,J]
  refine B6l h ?_;try simp only[h1,h3,C,E,F,G,H,J,pL,aM,Z]
 ·try simp only[h1,h3,C,E,F,G,H,J]
  cases h;trivial
/- 178:impl_PassagesOf -/
def QF:X0:=A1 [Ae [1,5,6,8,13,14,40,41,42] [6,8] [2432,2496]] (A1 [bn 43 .lss 42 41] (Av 43 0 1 (A1 [mv 44 42,ia 45 40 42 1,ld 46 45,mv 15 44,mv 16 46] (Aa [mv 47 5,mv 48 15,ia 49 47 48 1,ld 50 49,ca 51 132 [S 50],nt 52 51] 52 (A2 [Ay 12]) (A1 [fa 53 6 1,ld 54 53,mv 55 16,ia 56 54 55 5,lw 57 56 5,Al 17 [aI 0,aI 0,aI 0,aI 0,aB L],so 17 57 5] (.drw [(N [78,81],mv 58 14),(N [78],mv 59 1),(N [78],mv 60 16),(N [78],mv 61 13),(N [78],mv 62 15),(N [78],ia 63 61 62 1),(N [78],ld 64 63),(N [78],fa 65 17 0),(N [78],ld 66 65),(N [78],bn 67 .eql 64 66),(N [78],mv 68 5),(N [78],mv 69 15),(N [78],ia 70 68 69 1),(N [78],ld 71 70),(N [78],mv 72 5),(N [78],mv 73 15),(N [78],ia 74 72 73 1),(N [78],ld 75 74),o0 (lw 76 8 6),o0 (lw 77 17 5),o0 (ca 78 203 [S 76,S 77]),o0 (bn 79 .add 75 78),o0 (BH 80 [aI 0,aI 0,aB L,aI 0,aI 0] [(0,1,(S 59)),(1,1,(S 60)),(2,1,(S 67)),(3,1,(S 71)),(4,1,(S 79))]),o0 (AD 81 5 [.int .i64 0,.int .i64 0,.bool L,.int .i64 0,.int .i64 0] 1 [(0,(S 80))]),(O,Be 82 5 40 58 81),o0 (mv 14 82)])))) (Au 83 42)))
def Vc:X0:=(A2 [mv 84 14,mv 12 84])
def cM:X0:=(A1 [bo 6 0,bo 8 2,Ay 12] (Aa [lw 18 6 2,mv 19 3,mv 20 4,ca 21 202 [S 18,S 19,S 20],nt 22 21,mv 23 22,AQ 23 L 24 8 6,Ak 23 L 25 172 [S 24],AN 23 L 26 25,po 27 23 26,mv 28 27,Af 28 L 29 4,B1 28 L 30 29,Af 28 L 31 5,B1 28 L 32 31,AK 28 L 33 .neq 30 32,po 34 28 33] 34 (A2 [Ay 12]) (A1 [lw 35 6 2,mv 36 3,mv 37 4,ca 38 175 [S 35,S 36,S 37],mv 13 38] (A1 [AD 39 5 [.int .i64 0,.int .i64 0,.bool L,.int .i64 0,.int .i64 0] 0 [],mv 14 39] (A5 (A1 [mv 40 4,ln 41 40,A6 42 0] (Ah 0 QF)) Vc)))))
def mC:=fun a1 a5 a4 (a0:X6) (a2:X5) r6 (k_:U→(P X1)→Q (P X1))=>∀{v7 v8} {zr},k_ v7 v8=N zr→Kp zA [1,5,6,8,13,14,40,41,42] [6,8] [2432,2496] ⟨[pI 1 a1,pL 5 rI a5,pB 6,pB 8,pW 13 2432,pW 14 2496,pL 40 rI a4,pI 41 (a4.length:U),pI 42 v7],[(6,[aM X9.row a0.Points,aM X3.row a0.Segments]),(8,(dm a2.row))],[(2432,1,I rI r6),(2496,5,I X1.row v8)]⟩ (.code (.loop QF):: [.blk 0,.code Vc]) (Ag [12] [.sc (.o 5 (I X1.row zr))])
theorem B6m{a1 a5 a4 a0 a2 r6}{n:W}:mC a1 a5 a4 a0 a2 r6 (Hn a1 a5 a4 a0 a2 r6 n):=by
 induction n with
 | zero=>intro _ _ r h; cases h
 | succ n ih=>
  intro v7 v8 r h σ hσ;rw[Hn] at h;refine Ai ?_;obtain⟨h9,h⟩|⟨h9,h⟩:=ic h
  ·obtain⟨x10,h10,h⟩:=ob h;obtain⟨x11,h11,h⟩:=ob h;obtain⟨r12,h12,h⟩:=ob h;try simp only[hσ,h9,h10,h11,QF,C,E,F,G,H,J]
   refine A4 (FD h12) ?_;obtain⟨h13,h⟩|⟨h13,h⟩:=ic h
   ·obtain⟨x14,h14,h⟩:=ob h;try simp only[h9,h10,h11,h13,h14,C,E,F,G,H,J]
    refine Am ?_;try simp only[h9,h10,h11,h13,h14,C,E,F,G,H,J]
    refine An ?_;obtain⟨x15,h15,h⟩:=ob h;have h15n:=AH h15;obtain⟨r16,h16,h⟩:=ob h;try simp only[h9,h10,h11,h13,h14,h15,h15n,C,E,F,G,H,J]
    refine AF (OR h16) ?_;try simp only[h9,h10,h11,h13,h14,h15,h15n,C,E,F,G,H,J]
    refine Ax (es:=I X1.row ([(⟨a1,x10,(x15==x14.A),x11,(zJ .i64 (x11+r16))⟩:X1)]:P X1)) ?_;obtain⟨h17,h⟩:=AT h;try simp only[h9,h10,h11,h13,h14,h15,h15n,h17,C,E,F,G,H,J]
    refine An ?_;try simp only[h9,h10,h11,h13,h14,h15,h15n,h17,C,E,F,G,H,J]
    refine ih h ?_;try simp only[h9,h10,h11,h13,h14,h15,h15n,h17,C,E,F,G,H,J,pL,aM,Z]
   ·try simp only[h9,h10,h11,h13,C,E,F,G,H,J]
    cases h;exact t0
  ·try simp only[hσ,h9,QF,Vc,C,E,F,G,H,J]
   cases h;exact t0
theorem A9d{a0}{a1}{a2}{a3}{a4}{a5}{r}(h:Mb a0 a1 a2 a3 a4 a5=N r):FC zA 178 [.ag (X6.row a0),.sc (.int .i64 a1),.ag (X5.row a2),.sc (.int .i64 a3),.sc (.sl (I rI a4)),.sc (.sl (I rI a5))] [.sc (.o 5 (I X1.row r))]:=by
 unfold Mb at h;refine A9 mixed cM [12] 85 ?_;simp only[cM,C,E,F,G,H,J];try simp only[C,E,F,G,H,J]
 refine A8 ?_;try simp only[C,E,F,G,H,J]
 refine A8 ?_;obtain⟨r1,h1,h⟩:=ob h;try simp only[C,E,F,G,H,J]
 refine A4 (jb h1) ?_;obtain⟨h2,h⟩|⟨h2,h⟩:=ic h
 ·obtain⟨r3,h3,h⟩:=ob h;try simp only[h2,C,E,F,G,H,J]
  refine A4 (L2 h3) ?_;obtain⟨h4,h⟩|⟨h4,h⟩:=ic h
  ·obtain⟨h5,h⟩|⟨h5,h⟩:=ic h
   ·try simp only[h2,h4,h5,C,E,F,G,H,J]
    cases h;exact t0
   ·obtain⟨r6,h6,h⟩:=ob h;try simp only[h2,h4,h5,C,E,F,G,H,J]
    refine A4 (XX h6) ?_;try simp only[h2,h4,h5,C,E,F,G,H,J]
    refine Ax (es:=I X1.row ([]:P X1)) ?_;try simp only[h2,h4,h5,C,E,F,G,H,J]
    refine B6m h ?_;try simp only[h2,h4,h5,C,E,F,G,H,J,pL,aM,Z]
  ·try simp only[h2,h4,C,E,F,G,H,J]
   cases h;exact t0
 ·try simp only[h2,C,E,F,G,H,J]
  cases h;exact t0
/- 207:impl_RouteMinutes -/
def QG:X0:=A1 [Ae [2,5,11,12,13] [2] []] (A1 [bn 14 .lss 13 12] (Av 14 0 1 (A1 [ia 15 11 13 1,ld 16 15,mv 7 16] (Aa [mv 17 7,fa 18 2 1,ld 19 18,ln 20 19,ca 21 131 [S 17,S 20],nt 22 21] 22 (A2 [A6 4 (-1)]) (.reg [mv 23 5,fa 24 2 1,ld 25 24,mv 26 7,ia 27 25 26 5,fa 28 27 3,ld 29 28,bn 30 .add 23 29,mv 5 30]))) (Au 31 13)))
def Vd:X0:=(A2 [mv 32 5,mv 4 32])
def cN:X0:=(A1 [bo 2 0,A6 4 0] (Aa [lw 8 2 2,ca 9 127 [S 8],nt 10 9] 10 (A2 [A6 4 (-1)]) (A1 [A6 5 0] (A5 (A1 [mv 11 1,ln 12 11,A6 13 0] (Ah 0 QG)) Vd))))
def mF:=fun a1 (a0:X6) (k_:U→U→Q U)=>∀{v3 v4} {zr},k_ v3 v4=N zr→Kp zA [2,5,11,12,13] [2] [] ⟨[pB 2,pI 5 v3,pL 11 rI a1,pI 12 (a1.length:U),pI 13 v4],[(2,[aM X9.row a0.Points,aM X3.row a0.Segments])],[]⟩ (.code (.loop QG):: [.blk 0,.code Vd]) (Ag [4] [.sc (.v (.int .i64 zr))])
theorem B6n{a1 a0}{n:W}:mF a1 a0 (Hr a1 a0 n):=by
 induction n with
 | zero=>intro _ _ r h; cases h
 | succ n ih=>
  intro v3 v4 r h σ hσ;rw[Hr] at h;refine Ai ?_;obtain⟨h5,h⟩|⟨h5,h⟩:=ic h
  ·obtain⟨x6,h6,h⟩:=ob h;obtain⟨r7,h7,h⟩:=ob h;try simp only[hσ,h5,h6,QG,C,E,F,G,H,J]
   refine A4 (Cv h7) ?_;obtain⟨h8,h⟩|⟨h8,h⟩:=ic h
   ·obtain⟨x9,h9,h⟩:=ob h;try simp only[h5,h6,h8,h9,C,E,F,G,H,J]
    refine ih h ?_;try simp only[h5,h6,h8,h9,C,E,F,G,H,J,pL,aM,Z]
   ·try simp only[h5,h6,h8,C,E,F,G,H,J]
    cases h;exact t0
  ·try simp only[hσ,h5,QG,Vd,C,E,F,G,H,J]
   cases h;exact t0
theorem A9g{a0}{a1}{r}(h:Md a0 a1=N r):FC zA 207 [.ag (X6.row a0),.sc (.sl (I rI a1))] [.sc (.v (.int .i64 r))]:=by
 unfold Md at h;refine A9 mixed cN [4] 33 ?_;simp only[cN,C,E,F,G,H,J];try simp only[C,E,F,G,H,J]
 refine A8 ?_;obtain⟨r1,h1,h⟩:=ob h;try simp only[C,E,F,G,H,J]
 refine A4 (Ja h1) ?_;obtain⟨h2,h⟩|⟨h2,h⟩:=ic h
 ·try simp only[h2,C,E,F,G,H,J]
  refine B6n h ?_;try simp only[h2,C,E,F,G,H,J,pL,aM,Z]
 ·try simp only[h2,C,E,F,G,H,J]
  cases h;exact t0
/- 179:impl_ArrivalOf -/
def cO:X0:=(A1 [bo 4 0,bo 5 1,A6 8 0] (Aa [lw 10 4 2,mv 11 2,ca 12 207 [S 10,S 11],Ac 13 .lss 12 0,mv 14 13,AQ 14 L 15 5 6,Ak 14 L 16 172 [S 15],AN 14 L 17 16,po 18 14 17,mv 19 18,Af 19 L 20 2,B1 19 L 21 20,AP 19 L 22 .eql 21 0,po 23 19 22,mv 24 23,Af 24 L 25 2,B1 24 L 26 25,Af 24 L 27 3,B1 24 L 28 27,AK 24 L 29 .neq 26 28,po 30 24 29] 30 (A2 [A6 8 (-1)]) (A1 [mv 31 2,ln 32 31,Ac 33 .sub 32 1,mv 9 33] (Aa [mv 34 3,mv 35 9,ia 36 34 35 1,ld 37 36,ca 38 132 [S 37],nt 39 38] 39 (A2 [A6 8 (-1)]) (A5 (.drw [(N [53],mv 40 3),(N [53],mv 41 9),(N [53],ia 42 40 41 1),(N [53],ld 43 42),o0 (lw 44 5 6),o0 (fa 45 4 1),o0 (ld 46 45),o0 (mv 47 2),o0 (mv 48 9),o0 (ia 49 47 48 1),o0 (ld 50 49),o0 (ia 51 46 50 5),o0 (lw 52 51 5),o0 (ca 53 203 [S 44,S 52]),o0 (bn 54 .add 43 53),o0 (mv 8 54)]) .ret)))))
theorem A8t{a0}{a1}{a2}{a3}{r}(h:LR a0 a1 a2 a3=N r):FC zA 179 [.ag (X6.row a0),.ag (X5.row a1),.sc (.sl (I rI a2)),.sc (.sl (I rI a3))] [.sc (.v (.int .i64 r))]:=by
 unfold LR at h;refine A9 mixed cO [8] 55 ?_;simp only[cO,C,E,F,G,H,J];try simp only[C,E,F,G,H,J]
 refine A8 ?_;try simp only[C,E,F,G,H,J]
 refine A8 ?_;obtain⟨r1,h1,h⟩:=ob h;try simp only[C,E,F,G,H,J]
 refine A4 (A9g h1) ?_;obtain⟨h2,h⟩|⟨h2,h⟩:=ic h
 ·try simp only[h2,C,E,F,G,H,J]
  cases h;exact t0
 ·obtain⟨r3,h3,h⟩:=ob h;try simp only[h2,C,E,F,G,H,J]
  refine A4 (L2 h3) ?_;obtain⟨h4,h⟩|⟨h4,h⟩:=ic h
  ·obtain⟨h5,h⟩|⟨h5,h⟩:=ic h
   ·try simp only[h2,h4,h5,C,E,F,G,H,J]
    cases h;exact t0
   ·obtain⟨h6,h⟩|⟨h6,h⟩:=ic h
    ·try simp only[h2,h4,h5,h6,C,E,F,G,H,J]
     cases h;exact t0
    ·obtain⟨x7,h7,h⟩:=ob h;obtain⟨r9,h9,h⟩:=ob h;try simp only[h2,h4,h5,h6,h7,C,E,F,G,H,J]
     refine A4 (FD h9) ?_;obtain⟨h10,h⟩|⟨h10,h⟩:=ic h
     ·try simp only[h2,h4,h5,h6,h7,h10,C,E,F,G,H,J]
      refine An ?_;obtain⟨x11,h11,h⟩:=ob h;obtain⟨x12,h12,h⟩:=ob h;obtain⟨r13,h13,h⟩:=ob h;try simp only[h2,h4,h5,h6,h7,h10,h11,h12,C,E,F,G,H,J]
      refine AF (OR h13) ?_;try simp only[h2,h4,h5,h6,h7,h10,h11,h12,C,E,F,G,H,J]
      cases h;exact t0
     ·try simp only[h2,h4,h5,h6,h7,h10,C,E,F,G,H,J]
      cases h;exact t0
  ·try simp only[h2,h4,C,E,F,G,H,J]
   cases h;exact t0
/- 136:impl_option -/
def Yg:P (P W × AItem):= [([],(O,.load 72 (S 16) T 4)),([],(O,.faddr 73 (S 16) 1)),([1],(O,.load 74 (S 73) L 1)),([2],(O,.bin 75 .leq (S 74) (K 2880))),([0,0],(O,.store (S 10) (S 72) 4)),([3,4,0,1,2,3,4],(O,.mv 11 (S 75)))]
def QH:X0:=A1 [Ae [10,16,60,61,62] [10,16] [2752]] (A1 [bn 63 .lss 62 61] (Av 63 0 1 (A1 [ia 64 60 62 1,ld 65 64,mv 18 65] (.reg [fa 66 16 2,ld 67 66,mv 68 18,bn 69 .sub 67 68,fa 70 16 2,so 70 69 1])) (Au 71 62)))
def Ve:X0:=(A5 (.any Yg) .ret)
def cQ:X0:=(A1 [bo 5 0,bo 6 1,bo 7 2,Al 10 [aI 0,aI 0,aI 0,.nil],A3 11 L] (A1 [lw 20 7 3,mv 21 4,ca 22 177 [S 20,S 21],mv 19 22,xt 23 19 0,xt 24 19 1,mv 12 23,mv 13 24] (Aa [mv 25 13,nt 26 25] 26 (A2 [BH 27 [aI 0,aI 0,aI 0,.nil] [],so 10 27 4,A3 11 L]) (A1 [fa 28 5 5,ld 29 28,fa 30 6 0,ld 31 30,ia 32 29 31 6,lw 33 32 6,Al 14 [aS [],aI 0,aI 0,aI 0,aI 0,aB L],so 14 33 6] (A1 [fa 34 5 3,lw 35 34 2,fa 36 6 0,ld 37 36,lw 38 14 6,fa 39 6 1,ld 40 39,mv 41 3,mv 42 12,ca 43 178 [S 35,S 37,S 38,S 40,S 41,S 42],mv 15 43] (A1 [mv 44 4,fa 45 5 3,lw 46 45 2,lw 47 14 6,mv 48 3,mv 49 12,ca 50 179 [S 46,S 47,S 48,S 49],mv 51 15,BH 52 [aI 0,aI 0,aI 0,.nil] [(0,1,(S 44)),(1,1,(S 50)),(3,1,(S 51))],Al 16 [aI 0,aI 0,aI 0,.nil],so 16 52 4] (A1 [fa 53 16 1,ld 54 53,fa 55 6 3,ld 56 55,bn 57 .sub 54 56,fa 58 16 2,so 58 57 1] (A5 (A1 [fa 59 7 1,ld 60 59,ln 61 60,A6 62 0] (Ah 0 QH)) Ve))))))))
abbrev J3(a4 r5 v7:U)(c0_ c1_:V)(c2_ c3_ c5_:V)(bx_:P (W × P AC))(rs_:Rows):St:=⟨[(10,vc (.pb 10 0)),(16,vc (.pb 16 0)),(72,bif c0_ then va [aI a4,aI r5,aI v7,.own 2752] else .undef),(73,bif c1_ then vc (.pb 16 1) else .undef),(74,bif c2_ then vc (aI r5) else .undef),(75,bif c3_ then vc (aB (decide (r5≤(2880:U)))) else .undef),(11,bif c5_ then vc (aB (decide (r5≤(2880:U)))) else .undef)],bx_,rs_⟩
abbrev Tm(a4 r5:U)(r4:(P X1))(v7:U):St:=(J3 a4 r5 v7 T T T T T [(10,[aI a4,aI r5,aI v7,.own 2752]),(16,[aI a4,aI r5,aI v7,.own 2752])] [(2752,5,I X1.row r4)])
theorem B6o(a4 r5 r4 v7):∀(f:W) (b1 b2:V) (b3 b5:V),Cd zA Yg (Tm a4 r5 r4 v7) f [T,b1,b2,b3,T,b5] (J3 a4 r5 v7 T b1 b2 b3 b5 [(10,[aI a4,aI r5,aI v7,.own 2752]),(16,[aI a4,aI r5,aI v7,.own 2752])] [(2752,5,I X1.row r4)]):=by
 intro f
 induction f with
 | zero=>
  intro b1 b2 b3 b5 h;obtain rfl:b1=T:=zH.1 h b1 (by simp);obtain rfl:b2=T:=zH.1 h b2 (by simp);obtain rfl:b3=T:=zH.1 h b3 (by simp);obtain rfl:b5=T:=zH.1 h b5 (by simp);rfl
 | succ f ih=>
  intro b1 b2 b3 b5;refine EI ⟨?_,?_,?_,?_,?_,?_,⟨⟩⟩<;>try first | (intro h; cases h; done) | (intro h0 hw; obtain rfl:=hz h0 rfl; (try obtain rfl:=hq hw 1 rfl rfl); (try obtain rfl:=hq hw 2 rfl rfl); (try obtain rfl:=hq hw 3 rfl rfl); refine np ?_; simp only[J3,C8,Cy,BT,C,E,F,G,H,J]; exact ih _ _ _ _)
theorem B6p(a4 r5 r4 v7):∀(f:W) (b0 b1:V) (b2 b3:V),Cd zA Yg (Tm a4 r5 r4 v7) f [b0,b1,b2,b3,L,L] (J3 a4 r5 v7 b0 b1 b2 b3 L [(10,[aI (0:U),aI (0:U),aI (0:U),.nil]),(16,[aI a4,aI r5,aI v7,.own 2752])] [(2752,5,I X1.row r4)]):=by
 intro f
 induction f with
 | zero=>intro b0 b1 b2 b3 h; simp at h
 | succ f ih=>
  intro b0 b1 b2 b3;refine EI ⟨?_,?_,?_,?_,?_,?_,⟨⟩⟩<;>try first | (intro _ hw; simp at hw; done) | (intro h0 hw; obtain rfl:=hz h0 rfl; (try obtain rfl:=hq hw 1 rfl rfl); (try obtain rfl:=hq hw 2 rfl rfl); refine np ?_; simp only[J3,C8,Cy,BT,C,E,F,G,H,J]; exact ih _ _ _ _)
  ·intro h0 hw;obtain rfl:=hq hw 0 rfl rfl;refine np ?_;try simp only[J3,C8,Cy,BT,C,E,F,G,H,J]
   exact B6o a4 r5 r4 v7 _ b1 b2 b3 L
def mY:=fun(a2:Xh) a4 r5 r4 (k_:U→U→Q (X2 × V))=>∀{v6 v7} {zr},k_ v6 v7=N zr→Kp zA [10,16,60,61,62] [10,16] [2752] ⟨[pB 10,pB 16,pL 60 rI a2.minutes,pI 61 (a2.minutes.length:U),pI 62 v6],[(10,[aI (0:U),aI (0:U),aI (0:U),.nil]),(16,[aI a4,aI r5,aI v7,.own 2752])],[(2752,5,I X1.row r4)]⟩ (.code (.loop QH):: [.blk 0,.code Ve]) (Ag [.c 10 T 4,11] [.ag [.v (.int .i64 zr.1.Start),.v (.int .i64 zr.1.Arrival),.v (.int .i64 zr.1.Cost),.o 5 (I X1.row zr.1.Passages)],.sc (.v (.bool zr.2))])
theorem B6q{a2 a4 r5 r4}{n:W}:mY a2 a4 r5 r4 (FW a2 a4 r5 r4 n):=by
 induction n with
 | zero=>intro _ _ r h; cases h
 | succ n ih=>
  intro v6 v7 r h σ hσ;rw[FW] at h;refine Ai ?_;obtain⟨h8,h⟩|⟨h8,h⟩:=ic h
  ·obtain⟨x9,h9,h⟩:=ob h;try simp only[hσ,h8,h9,QH,C,E,F,G,H,J]
   refine ih h ?_;try simp only[h8,h9,C,E,F,G,H,J,pL,aM,Z]
  ·try simp only[hσ,h8,QH,Ve,C,E,F,G,H,J]
   refine Wl (ks:= [10,16]) (bs:= [10,16]) (rs:= [2752]) (τ:=(Tm a4 r5 r4 v7)) Y (B6p a4 r5 r4 v7 _ L L L L) ?_;simp only[Tm,J3,C8];try simp only[h8,C,E,F,G,H,J]
   cases h;try simp only[Bh,C,E,F,G,H,J]
   trivial
theorem A93{a0}{a1}{a2}{a3}{a4}{r}(h:RZ a0 a1 a2 a3 a4=N r):FC zA 136 [.ag (X7.row a0),.ag (zC a1),.ag (Xh.row a2),.sc (.sl (I rI a3)),.sc (.int .i64 a4)] [.ag [.v (.int .i64 r.1.Start),.v (.int .i64 r.1.Arrival),.v (.int .i64 r.1.Cost),.o 5 (I X1.row r.1.Passages)],.sc (.v (.bool r.2))]:=by
 unfold RZ at h;refine A9 mixed cQ [.c 10 T 4,11] 76 ?_;simp only[cQ,C,E,F,G,H,J];try simp only[C,E,F,G,H,J]
 refine A8 ?_;try simp only[C,E,F,G,H,J]
 refine A8 ?_;try simp only[C,E,F,G,H,J]
 refine A8 ?_;try simp only[C,E,F,G,H,J]
 refine Am ?_;obtain⟨r1,h1,h⟩:=ob h;try simp only[C,E,F,G,H,J]
 refine A4 (A98 h1) ?_;obtain⟨h2,h⟩|⟨h2,h⟩:=ic h
 ·obtain⟨x3,h3,h⟩:=ob h;try simp only[h2,h3,C,E,F,G,H,J]
  refine Am ?_;obtain⟨r4,h4,h⟩:=ob h;try simp only[h2,h3,C,E,F,G,H,J]
  refine B7 (A9d h4) Y (BO Y ⟨B3,⟨⟩⟩) Y (uf Y) ?_;obtain⟨r5,h5,h⟩:=ob h;try simp only[h2,h3,C,E,F,G,H,J]
  refine B7 (A8t h5) Y (BD Y) Y (uf Y) ?_;try simp only[h2,h3,C,E,F,G,H,J]
  refine Am ?_;try simp only[h2,h3,C,E,F,G,H,J]
  refine B6q h ?_;try simp only[h2,h3,C,E,F,G,H,J,pL,aM,Z]
 ·try simp only[h2,C,E,F,G,H,J]
  cases h;try simp only[Bh,C,E,F,G,H,J]
  trivial
/- 100:impl_OptionAt -/
def QI:X0:=A1 [Ae [2,3,4,5,8,25] [4,5,8] []] (Aq 25 (A2 [BH 26 [aI 0,aI 0,aI 0,.nil] [],so 8 26 4,A3 9 L]))
def Vf:X0:=(A1 [lw 28 4 12,lw 29 5 5,mv 30 2,ca 31 135 [S 28,S 29,S 30],mv 27 31,xt 32 27 0,xt 33 27 1,Al 10 [.nil,.nil,.nil],so 10 32 3,mv 11 33] (Aa [mv 34 11,nt 35 34] 35 (A2 [BH 36 [aI 0,aI 0,aI 0,.nil] [],so 8 36 4,A3 9 L]) (A1 [lw 38 4 12,lw 39 5 5,lw 40 10 3,mv 41 2,mv 42 3,ca 43 136 [S 38,S 39,S 40,S 41,S 42],mv 37 43,xt 44 37 0,xt 45 37 1,Al 12 [aI 0,aI 0,aI 0,.nil],so 12 44 4,mv 11 45] (Aa [mv 46 11,nt 47 46] 47 (A2 [BH 48 [aI 0,aI 0,aI 0,.nil] [],so 8 48 4,A3 9 L]) (A2 [lw 49 12 4,so 8 49 4,A3 9 T])))))
def cR:X0:=(A1 [bo 4 0,bo 5 1,Al 8 [aI 0,aI 0,aI 0,.nil],A3 9 L] (A5 (A1 [lw 13 4 12,lw 14 5 5,ca 15 134 [S 13,S 14],nt 16 15,mv 17 16,Af 17 L 18 3,Ab 17 L 19 5 3,Ad 17 L 20 19,Ab 17 L 21 5 4,Ad 17 L 22 21,Ak 17 L 23 133 [S 18,S 20,S 22],AN 17 L 24 23,po 25 17 24] QI) Vf))
def mB:=fun a2 a3 (a0:X7) (a1:Xa) (k_:V→Q (X2 × V))=>∀{v4} {zr},k_ v4=N zr→Kp zA [2,3,4,5,8,25] [4,5,8] [] ⟨[pL 2 rI a2,pI 3 a3,pB 4,pB 5,pB 8,(25,vc (aB v4))],[(4,([aI a0.Forecast.Tide.Mean,aM zD a0.Forecast.Tide.Parts,aM zE a0.Forecast.Surges,aM X9.row a0.Chart.Points,aM X3.row a0.Chart.Segments,aM X5.row a0.Fleet,aI a0.Regime.Gap,aB a0.Regime.NoMeet]++dm a0.Crew.row)),(5,(dm a1.row)),(8,[aI (0:U),aI (0:U),aI (0:U),.nil])],[]⟩ (.code QI:: [.code Vf]) (Ag [.c 8 T 4,9] [.ag [.v (.int .i64 zr.1.Start),.v (.int .i64 zr.1.Arrival),.v (.int .i64 zr.1.Cost),.o 5 (I X1.row zr.1.Passages)],.sc (.v (.bool zr.2))])
theorem kx{a2 a3 a0 a1}:mB a2 a3 a0 a1 (M8 a2 a3 a0 a1):=by
 intro v4 r h σ hσ;unfold M8 at h;obtain⟨h5,h⟩|⟨h5,h⟩:=ic h
 ·try simp only[hσ,h5,QI,C,E,F,G,H,J]
  cases h;try simp only[Bh,C,E,F,G,H,J]
  trivial
 ·obtain⟨r6,h6,h⟩:=ob h;try simp only[hσ,h5,QI,Vf,C,E,F,G,H,J]
  refine A4 (A9t h6) ?_;try simp only[h5,C,E,F,G,H,J]
  refine Am ?_;obtain⟨h7,h⟩|⟨h7,h⟩:=ic h
  ·obtain⟨r9,h9,h⟩:=ob h;try simp only[h5,h7,C,E,F,G,H,J]
   refine B7 (A93 h9) Y (BO Y ⟨Y,Y,Y,B3,Y,⟨⟩⟩) Y (uf Y) ?_;try simp only[h5,h7,C,E,F,G,H,J]
   refine Am ?_;obtain⟨h10,h⟩|⟨h10,h⟩:=ic h
   ·try simp only[h5,h7,h10,C,E,F,G,H,J]
    cases h;try simp only[Bh,C,E,F,G,H,J]
    trivial
   ·try simp only[h5,h7,h10,C,E,F,G,H,J]
    cases h;try simp only[Bh,C,E,F,G,H,J]
    trivial
  ·try simp only[h5,h7,C,E,F,G,H,J]
   cases h;try simp only[Bh,C,E,F,G,H,J]
   trivial
theorem A9a{a0}{a1}{a2}{a3}{r}(h:JG a0 a1 a2 a3=N r):FC zA 100 [.ag (X7.row a0),.ag (zC a1),.sc (.sl (I rI a2)),.sc (.int .i64 a3)] [.ag [.v (.int .i64 r.1.Start),.v (.int .i64 r.1.Arrival),.v (.int .i64 r.1.Cost),.o 5 (I X1.row r.1.Passages)],.sc (.v (.bool r.2))]:=by
 unfold JG at h;refine A9 mixed cR [.c 8 T 4,9] 50 ?_;simp only[cR,C,E,F,G,H,J];try simp only[C,E,F,G,H,J]
 refine A8 ?_;try simp only[C,E,F,G,H,J]
 refine A8 ?_;try simp only[C,E,F,G,H,J]
 refine Am ?_;obtain⟨r1,h1,h⟩:=ob h;try simp only[C,E,F,G,H,J]
 refine A4 (A8u h1) ?_;obtain⟨h2,h⟩|⟨h2,h⟩:=ic h
 ·obtain⟨r3,h3,h⟩:=ob h;try simp only[h2,C,E,F,G,H,J]
  refine A4 (Ci h3) ?_;try simp only[h2,C,E,F,G,H,J]
  refine kx h ?_;try simp only[h2,C,E,F,G,H,J,pL,aM,Z]
 ·try simp only[h2,C,E,F,G,H,J]
  refine kx h ?_;try simp only[h2,C,E,F,G,H,J,pL,aM,Z]
end Go.Vi
