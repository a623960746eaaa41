/-
Walks. No condition.
-/
import Derived.Test.YthkepjhahmknfaaGreatDoorLNf
import Derived.Test.YthkepjhahmknfaaGreatDoorChecked
import Derived.Test.YthkepjhahmknfaaGreatDoorLSh
import Derived.KernelRfl
import Derived.Test.YthkepjhahmknfaaGreatDoorLWPlanLinesc
namespace Go.Vi
open Go.Proofs
set_option linter.all false
set_option maxRecDepth 4000
set_option maxHeartbeats 2000000
open Nat renaming reduceBEq → A, reduceMul → B, reduceAdd → C, reduceDiv → E, le_of_ble_eq_true → uf
open Int renaming reduceBEq → F
attribute [local irreducible] go Bk
open List renaming map → H
open Bool renaming false → T
open _root_ renaming rfl → G
/- 3:laws_FnExactPlanLines -/
def cc743:X0:=(A1 [bo 3 0,A3 6 T] (A1 [A6 7 1048576] (A1 [lw 17 3 12,mv 18 7,ca 19 4 [S 17,S 18],mv 7 19] (Aa [mv 20 7,Ac 21 .lss 20 0] 21 (A2 [A3 6 true]) (A1 [mv 22 1,mv 23 7,ca 24 5 [S 22,S 23],mv 7 24] (Aa [mv 25 7,Ac 26 .lss 25 0] 26 (A2 [A3 6 true]) (A1 [mv 27 2,mv 28 7,ca 29 6 [S 27,S 28],mv 7 29] (Aa [mv 30 7,Ac 31 .lss 30 0] 31 (A2 [A3 6 true]) (A1 [lw 32 3 12,ca 33 8 [S 32],mv 34 1,ca 35 9 [S 34],mv 36 2,ca 37 10 [S 36],ca 38 7 [S 33,S 35,S 37],mv 8 38] (A1 [lw 39 3 12,ca 40 8 [S 39],Al 9 [aI 0,.nil,.nil,.nil,.nil,.nil,aI 0,aB T,aI 0,aI 0,aI 0,.nil],so 9 40 12] (A1 [mv 41 1,ca 42 9 [S 41],mv 10 42] (A1 [mv 43 2,ca 44 10 [S 43],mv 11 44] (A1 [lw 45 9 12,mv 46 10,mv 47 11,ca 48 11 [S 45,S 46,S 47],mv 12 48] (Aa [mv 49 12,mv 50 8,ca 51 12 [S 49,S 50],nt 52 51] 52 (A2 [A3 6 T]) (A5 (A5 (.drw [(some [55],lw 53 9 12),o0 (lw 54 3 12),o0 (ca 55 8 [S 54]),o0 (ca 56 13 [S 53,S 55]),o0 (nt 57 56)]) (Aq 57 (A2 [A3 6 T]))) (Aa [mv 58 10,mv 59 1,ca 60 9 [S 59],ca 61 14 [S 58,S 60],nt 62 61] 62 (A2 [A3 6 T]) (Aa [mv 63 11,mv 64 2,ca 65 10 [S 64],ca 66 15 [S 63,S 65],nt 67 66] 67 (A2 [A3 6 T]) (A1 [A6 13 1] (A1 [lw 68 9 12,mv 69 13,ca 70 16 [S 68,S 69],mv 13 70] (A1 [mv 71 10,mv 72 13,ca 73 17 [S 71,S 72],mv 13 73] (A1 [mv 74 11,mv 75 13,(none,.frz 2368),(none,.frz 2816),(none,.frz 4160),ca 76 18 [S 74,S 75],mv 13 76] (Aa [mv 77 13,Ac 78 .lss 77 0,mv 79 78,Af 79 T 80 12,Af 79 T 81 8,Ak 79 T 82 12 [S 80,S 81],AN 79 T 83 82,po 84 79 83] 84 (A2 [A3 6 T]) (A1 [A6 14 1] (A1 [mv 85 12,mv 86 14,ca 87 19 [S 85,S 86],mv 14 87] (A1 [A6 15 1] (A1 [mv 88 12,mv 89 15,ca 90 20 [S 88,S 89],mv 15 90] (Aa [mv 91 15,Ac 92 .lss 91 0] 92 (A2 [A3 6 T]) (Aa [mv 93 15,mv 94 14,bn 95 .neq 93 94] 95 (A2 [A3 6 T]) (A1 [lw 96 3 12,ca 97 8 [S 96],mv 98 1,ca 99 9 [S 98],mv 100 2,ca 101 10 [S 100],ca 102 11 [S 97,S 99,S 101],mv 16 102] (Aa [mv 103 16,mv 104 8,ca 105 12 [S 103,S 104],nt 106 105] 106 (A2 [A3 6 T]) (A1 [A6 15 1] (A1 [mv 107 12,mv 108 15,ca 109 20 [S 107,S 108],mv 15 109] (Aa [mv 110 15,Ac 111 .lss 110 0] 111 (A2 [A3 6 T]) (Aa [mv 112 15,mv 113 14,bn 114 .neq 112 113] 114 (A2 [A3 6 T]) (A2 [A3 6 true])))))))))))))))))))))))))))))))))))
theorem tj:Bd Tryz.prog 3=some (cc743.strip,[6],115):=by kernel_rfl
theorem B31(a0:X7)(a1:List Xa)(a2:List X2)(r:Bool)(h:MC a0 a1 a2=some r):FCf Tryz.prog 3 [.ag (X7.row a0),.sc (.sl (H Xa.row a1)),.sc (.sl (H X2.row a2))] [.sc (.v (.bool r))]:=by
 unfold MC at h;refine Yl (σ:=⟨[(0,va [aI a0.Forecast.Tide.Mean,.old (.sl (H Xd.row a0.Forecast.Tide.Parts)),.old (.sl (H Xb.row a0.Forecast.Surges)),.old (.sl (H X9.row a0.Chart.Points)),.old (.sl (H X3.row a0.Chart.Segments)),.old (.sl (H X5.row a0.Fleet)),aI a0.Regime.Gap,aB a0.Regime.NoMeet,aI a0.Crew.Tugs,aI a0.Crew.Pilots,aI a0.Crew.Rest,.old (.sl (H rI a0.Crew.Moves))]),(1,vc (.old (.sl (H Xa.row a1)))),(2,vc (.old (.sl (H X2.row a2))))],[],[]⟩) mixed tj G G ?_;simp only[cc743];try simp only[A,B,C,E,F,J]
 refine A8 ?_;obtain⟨r1,h1,h⟩:=ob h;try simp only[A,B,C,E,F,J]
 refine B7 (B1i h1) G (BD G) G (uf G) ?_;obtain⟨h2,h⟩|⟨h2,h⟩:=ic h
 ·try simp only[h2,A,B,C,E,F,J]
  cases h;exact t0
 ·obtain⟨r3,h3,h⟩:=ob h;try simp only[h2,A,B,C,E,F,J]
  refine B7 (B1e h3) G (BD G) G (uf G) ?_;obtain⟨h4,h⟩|⟨h4,h⟩:=ic h
  ·try simp only[h2,h4,A,B,C,E,F,J]
   cases h;exact t0
  ·obtain⟨r5,h5,h⟩:=ob h;try simp only[h2,h4,A,B,C,E,F,J]
   refine B7 (B1l h5) G (BD G) G (uf G) ?_;obtain⟨h6,h⟩|⟨h6,h⟩:=ic h
   ·try simp only[h2,h4,h6,A,B,C,E,F,J]
    cases h;exact t0
   ·obtain⟨r7,h7,h⟩:=ob h;try simp only[h2,h4,h6,A,B,C,E,F,J]
    refine B7 (Ts h7) G (BO G ⟨G,B3,B3,B3,B3,B3,G,G,G,G,G,B3,⟨⟩⟩) G (uf G) ?_;obtain⟨r9,h9,h⟩:=ob h;try simp only[h2,h4,h6,A,B,C,E,F,J]
    refine B7 (Tr h9) G (BO G ⟨B3,⟨⟩⟩) G (uf G) ?_;obtain⟨r10,h10,h⟩:=ob h;try simp only[h2,h4,h6,A,B,C,E,F,J]
    refine SF (Tt _ _ h10) G G (uf G) ?_;obtain⟨r11,h11,h⟩:=ob h;try simp only[h2,h4,h6,A,B,C,E,F,J]
    refine B7 (B24 h11) G (BO G ⟨B3,⟨⟩⟩) G (uf G) ?_;obtain⟨r12,h12,h⟩:=ob h;try simp only[h2,h4,h6,A,B,C,E,F,J]
    refine B7 (Ts h12) G (BO G ⟨G,B3,B3,B3,B3,B3,G,G,G,G,G,B3,⟨⟩⟩) G (uf G) ?_;try simp only[h2,h4,h6,A,B,C,E,F,J]
    refine Am ?_;obtain⟨r13,h13,h⟩:=ob h;try simp only[h2,h4,h6,A,B,C,E,F,J]
    refine B7 (Tr h13) G (BO G ⟨B3,⟨⟩⟩) G (uf G) ?_;obtain⟨r14,h14,h⟩:=ob h;try simp only[h2,h4,h6,A,B,C,E,F,J]
    refine SF (Tt _ _ h14) G G (uf G) ?_;obtain⟨r15,h15,h⟩:=ob h;try simp only[h2,h4,h6,A,B,C,E,F,J]
    refine B7 (ja h15) G (BO G ⟨B3,⟨⟩⟩) G (uf G) ?_;obtain⟨r16,h16,h⟩:=ob h;try simp only[h2,h4,h6,A,B,C,E,F,J]
    refine B7 (XZ h16) G (BD G) G (uf G) ?_;obtain⟨h17,h⟩|⟨h17,h⟩:=ic h
    ·try simp only[h2,h4,h6,h17,A,B,C,E,F,J]
     refine An ?_;obtain⟨r18,h18,h⟩:=ob h;try simp only[h2,h4,h6,h17,A,B,C,E,F,J]
     refine Gr (Ts h18) (by first | rfl | kernel_rfl) (BO G ⟨G,B3,B3,B3,B3,B3,G,G,G,G,G,B3,⟨⟩⟩) G (uf G) ?_;obtain⟨r19,h19,h⟩:=ob h;try simp only[h2,h4,h6,h17,A,B,C,E,F,J]
     refine Gr (B0h h19) (by first | rfl | kernel_rfl) (BD G) G (uf G) ?_;obtain⟨h20,h⟩|⟨h20,h⟩:=ic h
     ·obtain⟨r21,h21,h⟩:=ob h;try simp only[h2,h4,h6,h17,h20,A,B,C,E,F,J]
      refine B7 (Tr h21) G (BO G ⟨B3,⟨⟩⟩) G (uf G) ?_;obtain⟨r22,h22,h⟩:=ob h;try simp only[h2,h4,h6,h17,h20,A,B,C,E,F,J]
      refine B7 (B0d h22) G (BD G) G (uf G) ?_;obtain⟨h23,h⟩|⟨h23,h⟩:=ic h
      ·obtain⟨r24,h24,h⟩:=ob h;try simp only[h2,h4,h6,h17,h20,h23,A,B,C,E,F,J]
       refine SF (Tt _ _ h24) G G (uf G) ?_;obtain⟨r25,h25,h⟩:=ob h;try simp only[h2,h4,h6,h17,h20,h23,A,B,C,E,F,J]
       refine B7 (B0k h25) G (BD G) G (uf G) ?_;obtain⟨h26,h⟩|⟨h26,h⟩:=ic h
       ·obtain⟨r27,h27,h⟩:=ob h;try simp only[h2,h4,h6,h17,h20,h23,h26,A,B,C,E,F,J]
        have lrr27:=(IR h27);refine Dc (ids:= [2561,2562,2563,2564,2565,2571]) (B03 h27) G G G (B6 (B6 (B6 (B6 (B6 (B6 BC)))))) (Cc (IR h27).1 (Cc (IR h27).2.1 (Cc (IR h27).2.2.1 (Cc (IR h27).2.2.2.1 (Cc (IR h27).2.2.2.2.1 (Cc (IR h27).2.2.2.2.2 Dm)))))) ?_;obtain⟨r28,h28,h⟩:=ob h;try simp only[h2,h4,h6,h17,h20,h23,h26,A,B,C,E,F,J]
        have lrr28:=(fv h28);refine Dc (ids:= [2688]) (B0z h28) G G G (B6 BC) (Cc (fv h28) Dm) ?_;try simp only[h2,h4,h6,h17,h20,h23,h26,A,B,C,E,F,J]
        refine D0 ?_;try simp only[h2,h4,h6,h17,h20,h23,h26,A,B,C,E,F,J]
        refine D0 ?_;try simp only[h2,h4,h6,h17,h20,h23,h26,A,B,C,E,F,J]
        refine D0 ?_;obtain⟨r29,h29,h⟩:=ob h;try simp only[h2,h4,h6,h17,h20,h23,h26,A,B,C,E,F,J]
        refine wF (B05 h29) 0 G G (by first | exact ex | (repeat (refine vB ?_)); exact ex) ?_;obtain⟨h30,h⟩|⟨h30,h⟩:=ic h
        ·try simp only[h2,h4,h6,h17,h20,h23,h26,h30,A,B,C,E,F,J]
         cases h;exact t0
        ·obtain⟨r31,h31,h⟩:=ob h;try simp only[h2,h4,h6,h17,h20,h23,h26,h30,A,B,C,E,F,J]
         refine B7 (XZ h31) G (BD G) G (uf G) ?_;obtain⟨h32,h⟩|⟨h32,h⟩:=ic h
         ·obtain⟨r33,h33,h⟩:=ob h;try simp only[h2,h4,h6,h17,h20,h23,h26,h30,h32,A,B,C,E,F,J]
          have lrr33:=(fw h33);refine Dc (ids:= [3072]) (B1b h33) G G G (B6 BC) (Cc (fw h33) Dm) ?_;obtain⟨r34,h34,h⟩:=ob h;try simp only[h2,h4,h6,h17,h20,h23,h26,h30,h32,A,B,C,E,F,J]
          refine B7 (jk h34) G (BD G) G (uf G) ?_;obtain⟨h35,h⟩|⟨h35,h⟩:=ic h
          ·try simp only[h2,h4,h6,h17,h20,h23,h26,h30,h32,h35,A,B,C,E,F,J]
           cases h;exact t0
          ·obtain⟨h36,h⟩|⟨h36,h⟩:=ic h
           ·try simp only[h2,h4,h6,h17,h20,h23,h26,h30,h32,h35,h36,A,B,C,E,F,J]
            cases h;exact t0
           ·obtain⟨r37,h37,h⟩:=ob h;try simp only[h2,h4,h6,h17,h20,h23,h26,h30,h32,h35,h36,A,B,C,E,F,J]
            refine B7 (Ts h37) G (BO G ⟨G,B3,B3,B3,B3,B3,G,G,G,G,G,B3,⟨⟩⟩) G (uf G) ?_;obtain⟨r38,h38,h⟩:=ob h;try simp only[h2,h4,h6,h17,h20,h23,h26,h30,h32,h35,h36,A,B,C,E,F,J]
            refine B7 (Tr h38) G (BO G ⟨B3,⟨⟩⟩) G (uf G) ?_;obtain⟨r39,h39,h⟩:=ob h;try simp only[h2,h4,h6,h17,h20,h23,h26,h30,h32,h35,h36,A,B,C,E,F,J]
            refine SF (Tt _ _ h39) G G (uf G) ?_;obtain⟨r40,h40,h⟩:=ob h;try simp only[h2,h4,h6,h17,h20,h23,h26,h30,h32,h35,h36,A,B,C,E,F,J]
            refine B7 (ja h40) G (BO G ⟨B3,⟨⟩⟩) G (uf G) ?_;obtain⟨r41,h41,h⟩:=ob h;try simp only[h2,h4,h6,h17,h20,h23,h26,h30,h32,h35,h36,A,B,C,E,F,J]
            refine B7 (XZ h41) G (BD G) G (uf G) ?_;obtain⟨h42,h⟩|⟨h42,h⟩:=ic h
            ·obtain⟨r43,h43,h⟩:=ob h;try simp only[h2,h4,h6,h17,h20,h23,h26,h30,h32,h35,h36,h42,A,B,C,E,F,J]
             refine B7 (jk h43) G (BD G) G (uf G) ?_;obtain⟨h44,h⟩|⟨h44,h⟩:=ic h
             ·try simp only[h2,h4,h6,h17,h20,h23,h26,h30,h32,h35,h36,h42,h44,A,B,C,E,F,J]
              cases h;exact t0
             ·obtain⟨h45,h⟩|⟨h45,h⟩:=ic h
              ·try simp only[h2,h4,h6,h17,h20,h23,h26,h30,h32,h35,h36,h42,h44,h45,A,B,C,E,F,J]
               cases h;exact t0
              ·try simp only[h2,h4,h6,h17,h20,h23,h26,h30,h32,h35,h36,h42,h44,h45,A,B,C,E,F,J]
               cases h;exact t0
            ·try simp only[h2,h4,h6,h17,h20,h23,h26,h30,h32,h35,h36,h42,A,B,C,E,F,J]
             cases h;exact t0
         ·try simp only[h2,h4,h6,h17,h20,h23,h26,h30,h32,A,B,C,E,F,J]
          cases h;exact t0
       ·try simp only[h2,h4,h6,h17,h20,h23,h26,A,B,C,E,F,J]
        cases h;exact t0
      ·try simp only[h2,h4,h6,h17,h20,h23,A,B,C,E,F,J]
       cases h;exact t0
     ·try simp only[h2,h4,h6,h17,h20,A,B,C,E,F,J]
      cases h;exact t0
    ·try simp only[h2,h4,h6,h17,A,B,C,E,F,J]
     cases h;exact t0
theorem w_laws_FnExactPlanLines(a0:X7)(a1:List Xa)(a2:List X2)(r:Bool)(h:MC a0 a1 a2=some r):FC Tryz.prog 3 [.ag (X7.row a0),.sc (.sl (H Xa.row a1)),.sc (.sl (H X2.row a2))] [.sc (.v (.bool r))]:=(B31 a0 a1 a2 r h).fc
end Go.Vi
