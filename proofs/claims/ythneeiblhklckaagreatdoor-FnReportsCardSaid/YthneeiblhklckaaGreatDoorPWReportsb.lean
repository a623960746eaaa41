/-
Walks. No condition.
-/
import Derived.Test.YthneeiblhklckaaGreatDoorPNf
import Derived.Test.YthneeiblhklckaaGreatDoorChecked
import Derived.Test.YthneeiblhklckaaGreatDoorPSh
import Derived.Test.YthneeiblhklckaaGreatDoorPVi42
import Derived.KernelRfl
import Derived.Test.YthneeiblhklckaaGreatDoorPWReportsa
namespace Go.Vi
open Go.Proofs
set_option linter.all false
set_option maxRecDepth 4000
set_option maxHeartbeats 2000000
open Nat renaming reduceBEq → C, reduceMul → E, reduceAdd → F, reduceDiv → G, le_of_ble_eq_true → uf
open Int renaming reduceBEq → H
attribute [local irreducible] go AX J1
open List renaming map → Y, map_nil → I, all_eq_true → zA, all_cons → zC, all_nil → zD, cons_append → zE, nil_append → zF
open Tryz renaming prog → Z
open Xb renaming row → zB
open Bool renaming true → T, false → L
open Option renaming some → N, none → O
open _root_ renaming List → P, Option → Q, Int → U, Bool → V, Nat → W, rfl → X
instance rK:Ct 34 (∀{a0} {a1} {a2} {a3} {r},Im a0 a1 a2 a3=N r→FC Z 34 [.ag (Xd.row a0),.ag (X5.row a1),.sc (.int .i64 a2),.ag (X9.row a3)] [.sc (.o 2 (Y X8.row r))]):=by
 refine⟨fun h=> ?_⟩;unfold Im at h;refine A5 mixed h0 [8] 30 ?_;exact gc
def Pc:Hw:=([(5,[3,4,5,6,7,10,34],[5,6,7,10],[]),(16,[4,5,6,7,10,12,43,44,45],[5,6,7,10,12],[140288,140352,140416])],[(11,3,(O,.ownb 12 0 140288 1)),(11,4,(O,.ownb 12 1 140352 1)),(11,5,(O,.ownb 12 2 140416 1)),(14,6,(O,.frz 2560))])
def Y5:=fun a4 (a0:Xd) (a1:X5) (a2:X9) y11 y12 (k_:U→(P V)→(P U)→(P (P X8))→Q (Xk × V))=>∀{v13 v14 v15 v16} {zr},k_ v13 v14 v15 v16=N zr→Kh Z 104 Pc 16 [4,5,6,7,10,12,43,44,45] [5,6,7,10,12] [140288,140352,140416] ⟨[pL 4 rI a4,pB 5,pB 6,pB 7,pB 10,pB 12,pL 43 rI y11,pI 44 y12,pI 45 v13],[(5,(dm a0.row)),(6,(dm a1.row)),(7,(dm a2.row)),(10,[.nil,.nil,.nil]),(12,[.own 140288,.own 140352,.own 140416])],[(140288,1,Y rB v14),(140352,1,Y rI v15),(140416,1,Y (rL X8.row) v16)]⟩ (A9 [.c 10 T 3,11] [.ag [.o 1 (Y rB zr.1.waits),.o 1 (Y rI zr.1.minutes),.o 1 (Y (rL X8.row) zr.1.sure)],.sc (.v (.bool zr.2))])
def Y4:=fun a3 a4 (a0:Xd) (a1:X5) (a2:X9) (k_:V→Q (Xk × V))=>∀{v7} {zr},k_ v7=N zr→Kh Z 104 Pc 5 [3,4,5,6,7,10,34] [5,6,7,10] [] ⟨[pI 3 a3,pL 4 rI a4,pB 5,pB 6,pB 7,pB 10,(34,vc (aB v7))],[(5,(dm a0.row)),(6,(dm a1.row)),(7,(dm a2.row)),(10,[.nil,.nil,.nil])],[]⟩ (A9 [.c 10 T 3,11] [.ag [.o 1 (Y rB zr.1.waits),.o 1 (Y rI zr.1.minutes),.o 1 (Y (rL X8.row) zr.1.sure)],.sc (.v (.bool zr.2))])
theorem tG{a4 a0 a1 a2 y11 y12}{n:W}:Y5 a4 a0 a1 a2 y11 y12 (H8 a4 a0 a1 a2 y11 y12 n):=by
 induction n with
 | zero=>intro _ _ _ _ r h; cases h
 | succ n ih=>
  intro v13 v14 v15 v16 r h σ hσ S hS;refine ev hS ?_;rw[H8] at h;refine AP (Aw ?_);obtain⟨h17,h⟩|⟨h17,h⟩:=ic h
  ·obtain⟨x18,h18,h⟩:=ob h;try simp only[hσ,h17,h18,C,E,F,G,H,J]
   refine At ?_;obtain⟨x19,h19,h⟩:=ob h;try simp only[h17,h18,h19,C,E,F,G,H,J]
   refine B3 (es:=Y rB ([x19.Wait]:P V)) ?_;obtain⟨h20,h⟩:=AQ h;try simp only[h17,h18,h19,h20,C,E,F,G,H,J]
   refine At ?_;try simp only[h17,h18,h19,h20,C,E,F,G,H,J]
   refine At ?_;try simp only[h17,h18,h19,h20,C,E,F,G,H,J]
   refine At ?_;obtain⟨x21,h21,h⟩:=ob h;obtain⟨x22,h22,h⟩:=ob h;obtain⟨r23,h23,h⟩:=ob h;try simp only[h17,h18,h19,h20,h21,h22,C,E,F,G,H,J]
   refine Cs (Ak VG h23) ?_;try simp only[h17,h18,h19,h20,h21,h22,C,E,F,G,H,J]
   refine B3 (es:=Y rI ([r23]:P U)) ?_;obtain⟨h24,h⟩:=AQ h;try simp only[h17,h18,h19,h20,h21,h22,h24,C,E,F,G,H,J]
   refine At ?_;try simp only[h17,h18,h19,h20,h21,h22,h24,C,E,F,G,H,J]
   refine At ?_;try simp only[h17,h18,h19,h20,h21,h22,h24,C,E,F,G,H,J]
   refine At ?_;obtain⟨r25,h25,h⟩:=ob h;try simp only[h17,h18,h19,h20,h21,h22,h24,C,E,F,G,H,J]
   refine Cs (FC.asV (rs':= [.sc (.v (.sl (Y X8.row r25)))]) (Ak rK h25) X) ?_;try simp only[h17,h18,h19,h20,h21,h22,h24,C,E,F,G,H,J]
   refine B3 (es:=Y (rL X8.row) ([r25]:P (P X8))) ?_;obtain⟨h26,h⟩:=AQ h;try simp only[h17,h18,h19,h20,h21,h22,h24,h26,C,E,F,G,H,J]
   refine At ?_;try simp only[h17,h18,h19,h20,h21,h22,h24,h26,C,E,F,G,H,J]
   refine At ?_;try simp only[h17,h18,h19,h20,h21,h22,h24,h26,C,E,F,G,H,J]
   refine ih h ?_ (by kernel_rfl);try simp only[h17,h18,h19,h20,h21,h22,h24,h26,C,E,F,G,H,J,pL,aM,I]
  ·try simp only[hσ,h17,C,E,F,G,H,J]
   cases h;try simp only[Cj,C,E,F,G,H,J]
   trivial
theorem tH{a3 a4 a0 a1 a2}:Y4 a3 a4 a0 a1 a2 (H7 a3 a4 a0 a1 a2):=by
 intro v7 r h σ hσ S hS;refine ev hS ?_;refine Aw ?_;unfold H7 at h;obtain⟨h8,h⟩|⟨h8,h⟩:=ic h
 ·try simp only[hσ,h8,C,E,F,G,H,J]
  cases h;try simp only[Cj,C,E,F,G,H,J]
  trivial
 ·try simp only[hσ,h8,C,E,F,G,H,J]
  refine AK ?_;try simp only[h8,C,E,F,G,H,J]
  refine E7 (cs':= [.own 140288,.nil,.nil]) X X X X ?_;try simp only[h8,C,E,F,G,H,J]
  refine E7 (cs':= [.own 140288,.own 140352,.nil]) X X X X ?_;try simp only[h8,C,E,F,G,H,J]
  refine E7 (cs':= [.own 140288,.own 140352,.own 140416]) X X X X ?_;obtain⟨r9,h9,h⟩:=ob h;try simp only[h8,C,E,F,G,H,J]
  refine AM (Ak VE h9) ?_;try simp only[h8,C,E,F,G,H,J]
  refine C3 ?_;obtain⟨p10,h10,h⟩:=ob h;try simp only[h8,h10,C,E,F,G,H,J]
  refine tG h ?_ (by kernel_rfl);try simp only[h8,h10,C,E,F,G,H,J,pL,aM,I]
instance yj:Ct 104 (∀{a0} {a1} {a2} {a3} {a4} {r},KH a0 a1 a2 a3 a4=N r→FC Z 104 [.ag (Xd.row a0),.ag (X5.row a1),.ag (X9.row a2),.sc (.int .i64 a3),.sc (.sl (Y rI a4))] [.ag [.o 1 (Y rB r.1.waits),.o 1 (Y rI r.1.minutes),.o 1 (Y (rL X8.row) r.1.sure)],.sc (.v (.bool r.2))]):=by
 refine⟨fun h=> ?_⟩;unfold KH at h;refine A5 mixed Pc [.c 10 T 3,11] 91 ?_;have k0:= @tH;exact gc
def Sv:Hw:=([(7,[2,3,4,6,28],[3,4,6],[])],[])
def XJ:=fun a2 (a0:X3) (a1:X7) (k_:V→Q (Xk × V))=>∀{v4} {zr},k_ v4=N zr→Kh Z 56 Sv 7 [2,3,4,6,28] [3,4,6] [] ⟨[pL 2 rI a2,pB 3,pB 4,pB 6,(28,vc (aB v4))],[(3,(dm a0.row)),(4,(dm a1.row)),(6,[.nil,.nil,.nil])],[]⟩ (A9 [.c 6 T 3,7] [.ag [.o 1 (Y rB zr.1.waits),.o 1 (Y rI zr.1.minutes),.o 1 (Y (rL X8.row) zr.1.sure)],.sc (.v (.bool zr.2))])
theorem VN{a2 a0 a1}:XJ a2 a0 a1 (Iq a2 a0 a1):=by
 intro v4 r h σ hσ;unfold Iq at h;exact gc
instance xx:Ct 56 (∀{a0} {a1} {a2} {r},FA a0 a1 a2=N r→FC Z 56 [.ag (X3.row a0),.ag (X7.row a1),.sc (.sl (Y rI a2))] [.ag [.o 1 (Y rB r.1.waits),.o 1 (Y rI r.1.minutes),.o 1 (Y (rL X8.row) r.1.sure)],.sc (.v (.bool r.2))]):=by
 refine⟨fun{a0} {a1} {a2} {r} h=> ?_⟩;unfold FA at h;refine A5 mixed Sv [.c 6 T 3,7] 46 ?_;intro S hS;refine ev hS ?_;simp only[C,E,F,G,H,J];try simp only[C,E,F,G,H,J]
 refine BL ?_;try simp only[C,E,F,G,H,J]
 refine BL ?_;try simp only[C,E,F,G,H,J]
 refine AK ?_;obtain⟨r1,h1,h⟩:=ob h;try simp only[C,E,F,G,H,J]
 refine AM (Ak VE h1) ?_;try simp only[C,E,F,G,H,J]
 refine At ?_;obtain⟨h2,h⟩|⟨h2,h⟩:=ic h
 ·try simp only[h2,C,E,F,G,H,J]
  refine VN h ?_ (by kernel_rfl);try simp only[h2,C,E,F,G,H,J,pL,aM,I]
 ·obtain⟨x3,h3,h⟩:=ob h;have h3n:=AJ h3;try simp only[h2,h3,h3n,C,E,F,G,H,J]
  refine VN h ?_ (by kernel_rfl);try simp only[h2,h3,h3n,C,E,F,G,H,J,pL,aM,I]
def Sw:Hw:=([(6,[1,7,8,9],[],[])],[])
def WH:=fun a1 a0 (k_:U→Q V)=>∀{v1} {zr},k_ v1=N zr→Kh Z 136 Sw 6 [1,7,8,9] [] [] ⟨[pI 1 a1,pL 7 X8.row a0,pI 8 (a0.length:U),pI 9 v1],[],[]⟩ (A9 [4] [.sc (.v (.bool zr))])
theorem tI{a1 a0}{n:W}:WH a1 a0 (GF a1 a0 n):=by
 induction n with
 | zero=>intro _ r h; cases h
 | succ n ih=>
  intro v1 r h σ hσ;rw[GF] at h;exact gc
instance xN:Ct 136 (∀{a0} {a1} {r},MK a0 a1=N r→FC Z 136 [.sc (.sl (Y X8.row a0)),.sc (.int .i64 a1)] [.sc (.v (.bool r))]):=by
 refine⟨fun h=> ?_⟩;unfold MK at h;refine A5 mixed Sw [4] 20 ?_;have k0:= @tI;exact gc
def Sx:Hw:=([(14,[1,10,11,12],[],[])],[])
def WO:=fun a1 a0 (k_:U→Q U)=>∀{v3} {zr},k_ v3=N zr→Kh Z 137 Sx 14 [1,10,11,12] [] [] ⟨[pI 1 a1,pL 10 X8.row a0,pI 11 (a0.length:U),pI 12 v3],[],[]⟩ (A9 [4] [.sc (.v (.int .i64 zr))])
theorem tK{a1 a0}{n:W}:WO a1 a0 (GJ a1 a0 n):=by
 induction n with
 | zero=>intro _ r h; cases h
 | succ n ih=>
  intro v3 r h σ hσ;rw[GJ] at h;exact gc
instance qx:Ct 137 (∀{a0} {a1} {r},K1 a0 a1=N r→FC Z 137 [.sc (.sl (Y X8.row a0)),.sc (.int .i64 a1)] [.sc (.v (.int .i64 r))]):=by
 refine⟨fun h=> ?_⟩;unfold K1 at h;refine A5 mixed Sx [4] 25 ?_;have k0:= @tK;exact gc
def Pd:Hw:=([(16,[2,6,7],[2],[1152]),(32,[2,6,7,9,59],[2],[1152])],[])
def Y6:=fun v4 r10 (a0:Xk) v5 (k_:V→Q ((P U) × V))=>∀{v14} {zr},k_ v14=N zr→Kh Z 105 Pd 32 [2,6,7,9,59] [2] [1152] ⟨[pB 2,pW 6 1152,pI 7 v4,pI 9 r10,(59,vc (aB v14))],[(2,(dm a0.row))],[(1152,1,Y rI v5)]⟩ (A9 [4,5] [.sc (.o 1 (Y rI zr.1)),.sc (.v (.bool zr.2))])
def QV:=fun(a0:Xk) (k_:U→(P U)→Q ((P U) × V))=>∀{v4 v5} {zr},k_ v4 v5=N zr→Kh Z 105 Pd 16 [2,6,7] [2] [1152] ⟨[pB 2,pW 6 1152,pI 7 v4],[(2,(dm a0.row))],[(1152,1,Y rI v5)]⟩ (A9 [4,5] [.sc (.o 1 (Y rI zr.1)),.sc (.v (.bool zr.2))])
theorem Qs{v4 r10 a0 v5}{NG}(iR:QV a0 NG):Y6 v4 r10 a0 v5 (EQ v4 r10 a0 v5 NG):=by
 intro v14 r h σ hσ;unfold EQ at h;have s0:= @Ay (Y rI ([r10]:P U));have k0:= @iR;exact gc
theorem tL{a0}{n:W}:QV a0 (E5 a0 n):=by
 induction n with
 | zero=>intro _ _ r h; cases h
 | succ n ih=>
  intro v4 v5 r h σ hσ S hS;refine ev hS ?_;rw[E5] at h;refine AP (Aw ?_);obtain⟨h6,h⟩|⟨h6,h⟩:=ic h
  ·try simp only[hσ,h6,C,E,F,G,H,J]
   refine At ?_;obtain⟨x7,h7,h⟩:=ob h;have h7n:=AJ h7;obtain⟨x8,h8,h⟩:=ob h;obtain⟨x9,h9,h⟩:=ob h;obtain⟨r10,h10,h⟩:=ob h;try simp only[h6,h7,h7n,h8,h9,C,E,F,G,H,J]
   refine AM (Ak qx h10) ?_;obtain⟨h11,h⟩|⟨h11,h⟩:=ic h
   ·try simp only[h6,h7,h7n,h8,h9,h11,C,E,F,G,H,J]
    refine Qs ih h ?_ (by kernel_rfl);try simp only[h6,h7,h7n,h8,h9,h11,C,E,F,G,H,J,pL,aM,I]
   ·obtain⟨h12,h⟩|⟨h12,h⟩:=ic h
    ·obtain⟨x13,h13,h⟩:=ob h;try simp only[h6,h7,h7n,h8,h9,h11,h12,h13,C,E,F,G,H,J]
     refine Qs ih h ?_ (by kernel_rfl);try simp only[h6,h7,h7n,h8,h9,h11,h12,h13,C,E,F,G,H,J,pL,aM,I]
    ·try simp only[h6,h7,h7n,h8,h9,h11,h12,C,E,F,G,H,J]
     refine Qs ih h ?_ (by kernel_rfl);try simp only[h6,h7,h7n,h8,h9,h11,h12,C,E,F,G,H,J,pL,aM,I]
  ·try simp only[hσ,h6,C,E,F,G,H,J]
   cases h;trivial
instance yk:Ct 105 (∀{a0} {a1} {r},KI a0 a1=N r→FC Z 105 [.ag (Xk.row a0),.sc (.int .i64 a1)] [.sc (.o 1 (Y rI r.1)),.sc (.v (.bool r.2))]):=by
 refine⟨fun{a0} {a1} {r} h=> ?_⟩;unfold KI at h;refine A5 mixed Pd [4,5] 65 ?_;have s0:= @Ay (Y rI ([a1]:P U));have k0:= @tL;exact gc
def Sy:Hw:=([(18,[1,5,6,8,13,14,40,41,42],[6,8],[2432,2496])],[])
def WS:=fun a1 a5 a4 (a0:X5) (a2:X9) r6 (k_:U→(P X2)→Q (P X2))=>∀{v7 v8} {zr},k_ v7 v8=N zr→Kh Z 106 Sy 18 [1,5,6,8,13,14,40,41,42] [6,8] [2432,2496] ⟨[pI 1 a1,pL 5 rI a5,pB 6,pB 8,pW 13 2432,pW 14 2496,pL 40 rI a4,pI 41 (a4.length:U),pI 42 v7],[(6,(dm a0.row)),(8,(dm a2.row))],[(2432,1,Y rI r6),(2496,5,Y X2.row v8)]⟩ (A9 [12] [.sc (.o 5 (Y X2.row zr))])
theorem tM{a1 a5 a4 a0 a2 r6}{n:W}:WS a1 a5 a4 a0 a2 r6 (GM a1 a5 a4 a0 a2 r6 n):=by
 induction n with
 | zero=>intro _ _ r h; cases h
 | succ n ih=>
  intro v7 v8 r h σ hσ S hS;refine ev hS ?_;rw[GM] at h;refine AP (Aw ?_);obtain⟨h9,h⟩|⟨h9,h⟩:=ic h
  ·obtain⟨x10,h10,h⟩:=ob h;obtain⟨x11,h11,h⟩:=ob h;obtain⟨r12,h12,h⟩:=ob h;try simp only[hσ,h9,h10,h11,C,E,F,G,H,J]
   refine AM (Ak rc h12) ?_;obtain⟨h13,h⟩|⟨h13,h⟩:=ic h
   ·obtain⟨x14,h14,h⟩:=ob h;try simp only[h9,h10,h11,h13,h14,C,E,F,G,H,J]
    refine AK ?_;try simp only[h9,h10,h11,h13,h14,C,E,F,G,H,J]
    refine At ?_;obtain⟨x15,h15,h⟩:=ob h;have h15n:=AJ h15;obtain⟨r16,h16,h⟩:=ob h;try simp only[h9,h10,h11,h13,h14,h15,h15n,C,E,F,G,H,J]
    refine Cs (Ak VG h16) ?_;try simp only[h9,h10,h11,h13,h14,h15,h15n,C,E,F,G,H,J]
    refine B3 (es:=Y X2.row ([(⟨a1,x10,(x15==x14.A),x11,(IntKind.i64.wrap (x11+r16))⟩:X2)]:P X2)) ?_;obtain⟨h17,h⟩:=AQ h;try simp only[h9,h10,h11,h13,h14,h15,h15n,h17,C,E,F,G,H,J]
    refine At ?_;try simp only[h9,h10,h11,h13,h14,h15,h15n,h17,C,E,F,G,H,J]
    refine ih h ?_ (by kernel_rfl);try simp only[h9,h10,h11,h13,h14,h15,h15n,h17,C,E,F,G,H,J,pL,aM,I]
   ·try simp only[h9,h10,h11,h13,C,E,F,G,H,J]
    cases h;exact t0
  ·try simp only[hσ,h9,C,E,F,G,H,J]
   cases h;exact t0
instance xa:Ct 106 (∀{a0} {a1} {a2} {a3} {a4} {a5} {r},K7 a0 a1 a2 a3 a4 a5=N r→FC Z 106 [.ag (X5.row a0),.sc (.int .i64 a1),.ag (X9.row a2),.sc (.int .i64 a3),.sc (.sl (Y rI a4)),.sc (.sl (Y rI a5))] [.sc (.o 5 (Y X2.row r))]):=by
 refine⟨fun h=> ?_⟩;unfold K7 at h;refine A5 mixed Sy [12] 85 ?_;have s0:= @Ay (Y X2.row ([]:P X2));have k0:= @tM;exact gc
instance ww:Ct 107 (∀{a0} {a1} {a2} {a3} {r},JI a0 a1 a2 a3=N r→FC Z 107 [.ag (X5.row a0),.ag (X9.row a1),.sc (.sl (Y rI a2)),.sc (.sl (Y rI a3))] [.sc (.v (.int .i64 r))]):=by
 refine⟨fun h=> ?_⟩;unfold JI at h;refine A5 mixed h0 [8] 55 ?_;exact gc
def W8:P (P W × AItem):= [([],(O,.load 72 (S 16) T 4)),([],(O,.faddr 73 (S 16) 1)),([1],(O,.load 74 (S 73) L 1)),([2],(O,.bin 75 .leq (S 74) (K 2880))),([0,0],(O,.store (S 10) (S 72) 4)),([3,4,0,1,2,3,4],(O,.mv 11 (S 75)))]
def Sz:Hw:=([(24,[10,16,60,61,62],[10,16],[2752])],[])
abbrev HF(a4 r5 v7:U)(c0_ c1_:V)(c2_ c3_ c5_:V)(bx_:P (W × P AC))(rs_:Rows):St:=⟨[(10,vc (.pb 10 0)),(16,vc (.pb 16 0)),(72,bif c0_ then va [aI a4,aI r5,aI v7,.own 2752] else .undef),(73,bif c1_ then vc (.pb 16 1) else .undef),(74,bif c2_ then vc (aI r5) else .undef),(75,bif c3_ then vc (aB (decide (r5≤(2880:U)))) else .undef),(11,bif c5_ then vc (aB (decide (r5≤(2880:U)))) else .undef)],bx_,rs_⟩
abbrev O9(a4 r5:U)(r4:(P X2))(v7:U):St:=(HF a4 r5 v7 T T T T T [(10,[aI a4,aI r5,aI v7,.own 2752]),(16,[aI a4,aI r5,aI v7,.own 2752])] [(2752,5,Y X2.row r4)])
theorem tN(a4 r5 r4 v7):∀(f:W) (b1 b2:V) (b3 b5:V),Af Z W8 (O9 a4 r5 r4 v7) f [T,b1,b2,b3,T,b5] (HF a4 r5 v7 T b1 b2 b3 b5 [(10,[aI a4,aI r5,aI v7,.own 2752]),(16,[aI a4,aI r5,aI v7,.own 2752])] [(2752,5,Y X2.row r4)]):=by
 intro f
 induction f with
 | zero=>
  intro b1 b2 b3 b5 h;obtain rfl:b1=T:=zA.1 h b1 (by simp);obtain rfl:b2=T:=zA.1 h b2 (by simp);obtain rfl:b3=T:=zA.1 h b3 (by simp);obtain rfl:b5=T:=zA.1 h b5 (by simp);rfl
 | succ f ih=>
  intro b1 b2 b3 b5;refine Aj ⟨?_,?_,?_,?_,?_,?_,⟨⟩⟩<;>try first | (intro h; cases h; done) | (intro h0 hw; obtain rfl:=hz h0 rfl; (try obtain rfl:=hq hw 1 rfl rfl); (try obtain rfl:=hq hw 2 rfl rfl); (try obtain rfl:=hq hw 3 rfl rfl); refine np ?_; simp only[HF,A3,A6,A2,C,E,F,G,H,J]; exact ih _ _ _ _)
theorem tO(a4 r5 r4 v7):∀(f:W) (b0 b1:V) (b2 b3:V),Af Z W8 (O9 a4 r5 r4 v7) f [b0,b1,b2,b3,L,L] (HF a4 r5 v7 b0 b1 b2 b3 L [(10,[aI (0:U),aI (0:U),aI (0:U),.nil]),(16,[aI a4,aI r5,aI v7,.own 2752])] [(2752,5,Y X2.row r4)]):=by
 intro f
 induction f with
 | zero=>intro b0 b1 b2 b3 h; simp at h
 | succ f ih=>
  intro b0 b1 b2 b3;refine Aj ⟨?_,?_,?_,?_,?_,?_,⟨⟩⟩<;>try first | (intro _ hw; simp at hw; done) | (intro h0 hw; obtain rfl:=hz h0 rfl; (try obtain rfl:=hq hw 1 rfl rfl); (try obtain rfl:=hq hw 2 rfl rfl); refine np ?_; simp only[HF,A3,A6,A2,C,E,F,G,H,J]; exact ih _ _ _ _)
  ·intro h0 hw;obtain rfl:=hq hw 0 rfl rfl;refine np ?_;try simp only[HF,A3,A6,A2,C,E,F,G,H,J]
   exact tN a4 r5 r4 v7 _ b1 b2 b3 L
def XY:=fun(a2:Xk) a4 r5 r4 (k_:U→U→Q (X0 × V))=>∀{v6 v7} {zr},k_ v6 v7=N zr→Kh Z 57 Sz 24 [10,16,60,61,62] [10,16] [2752] ⟨[pB 10,pB 16,pL 60 rI a2.minutes,pI 61 (a2.minutes.length:U),pI 62 v6],[(10,[aI (0:U),aI (0:U),aI (0:U),.nil]),(16,[aI a4,aI r5,aI v7,.own 2752])],[(2752,5,Y X2.row r4)]⟩ (A9 [.c 10 T 4,11] [.ag [.v (.int .i64 zr.1.Start),.v (.int .i64 zr.1.Arrival),.v (.int .i64 zr.1.Cost),.o 5 (Y X2.row zr.1.Passages)],.sc (.v (.bool zr.2))])
theorem tP{a2 a4 r5 r4}{n:W}:XY a2 a4 r5 r4 (H5 a2 a4 r5 r4 n):=by
 induction n with
 | zero=>intro _ _ r h; cases h
 | succ n ih=>
  intro v6 v7 r h σ hσ S hS;refine ev hS ?_;rw[H5] at h;refine AP (Aw ?_);obtain⟨h8,h⟩|⟨h8,h⟩:=ic h
  ·obtain⟨x9,h9,h⟩:=ob h;try simp only[hσ,h8,h9,C,E,F,G,H,J]
   refine ih h ?_ (by kernel_rfl);try simp only[h8,h9,C,E,F,G,H,J,pL,aM,I]
  ·try simp only[hσ,h8,C,E,F,G,H,J]
   refine D3 (ks:= [10,16]) (bs:= [10,16]) (rs:= [2752]) (τ:=(O9 a4 r5 r4 v7)) X (tO a4 r5 r4 v7 _ L L L L) ?_;simp only[O9,HF,A3];try simp only[h8,C,E,F,G,H,J]
   cases h;try simp only[Cj,C,E,F,G,H,J]
   trivial
instance rf:Ct 57 (∀{a0} {a1} {a2} {a3} {a4} {r},EN a0 a1 a2 a3 a4=N r→FC Z 57 [.ag (X3.row a0),.ag (X7.row a1),.ag (Xk.row a2),.sc (.sl (Y rI a3)),.sc (.int .i64 a4)] [.ag [.v (.int .i64 r.1.Start),.v (.int .i64 r.1.Arrival),.v (.int .i64 r.1.Cost),.o 5 (Y X2.row r.1.Passages)],.sc (.v (.bool r.2))]):=by
 refine⟨fun h=> ?_⟩;unfold EN at h;refine A5 mixed Sz [.c 10 T 4,11] 76 ?_;have k0:= @tP;exact gc
def Pe:Hw:=([(28,[2,3,5,7,9,10],[2,3,7],[1984,1985,1986,2560]),(44,[2,3,5,7,9,10],[2,3,7],[1984,1985,1986,2560])],[(42,2,(O,.frz 3843))])
def WQ:=fun(r3:(P U) × V) v7 (a0:X3) (a1:X7) (r4:Xk × V) (k_:(P X0)→Q (P X0))=>∀{v14} {zr},k_ v14=N zr→Kh Z 24 Pe 44 [2,3,5,7,9,10] [2,3,7] [1984,1985,1986,2560] ⟨[pB 2,pB 3,pL 5 rI r3.1,pB 7,pW 9 2560,pI 10 v7],[(2,(dm a0.row)),(3,(dm a1.row)),(7,[.own 1984,.own 1985,.own 1986])],[(1984,1,Y rB r4.1.waits),(1985,1,Y rI r4.1.minutes),(1986,1,Y (rL X8.row) r4.1.sure),(2560,4,Y X0.row v14)]⟩ (A9 [4] [.sc (.o 4 (Y X0.row zr))])
def QK:=fun(r3:(P U) × V) (a0:X3) (a1:X7) (r4:Xk × V) (k_:U→(P X0)→Q (P X0))=>∀{v7 v8} {zr},k_ v7 v8=N zr→Kh Z 24 Pe 28 [2,3,5,7,9,10] [2,3,7] [1984,1985,1986,2560] ⟨[pB 2,pB 3,pL 5 rI r3.1,pB 7,pW 9 2560,pI 10 v7],[(2,(dm a0.row)),(3,(dm a1.row)),(7,[.own 1984,.own 1985,.own 1986])],[(1984,1,Y rB r4.1.waits),(1985,1,Y rI r4.1.minutes),(1986,1,Y (rL X8.row) r4.1.sure),(2560,4,Y X0.row v8)]⟩ (A9 [4] [.sc (.o 4 (Y X0.row zr))])
theorem VO{r3 v7 a0 a1 r4}{NE}(iH:QK r3 a0 a1 r4 NE):WQ r3 v7 a0 a1 r4 (Ij r3 v7 a0 a1 r4 NE):=by
 intro v14 r h σ hσ;unfold Ij at h;have k0:= @iH;exact gc
theorem tR{r3 a0 a1 r4}{n:W}:QK r3 a0 a1 r4 (Fv r3 a0 a1 r4 n):=by
 induction n with
 | zero=>intro _ _ r h; cases h
 | succ n ih=>
  intro v7 v8 r h σ hσ S hS;refine ev hS ?_;rw[Fv] at h;refine AP (Aw ?_);obtain⟨h9,h⟩|⟨h9,h⟩:=ic h
  ·obtain⟨h10,h⟩|⟨h10,h⟩:=ic h
   ·obtain⟨r11,h11,h⟩:=ob h;try simp only[hσ,h9,h10,C,E,F,G,H,J]
    refine Dj (Ak rf h11) X (D1 X ⟨X,X,X,D2,X,⟨⟩⟩) X (uf X) ?_;try simp only[h9,h10,C,E,F,G,H,J]
    refine AK ?_;obtain⟨h12,h⟩|⟨h12,h⟩:=ic h
    ·try simp only[h9,h10,h12,C,E,F,G,H,J]
     refine C3 ?_;try simp only[h9,h10,h12,C,E,F,G,H,J]
     refine B3 (es:=Y X0.row ([r11.1]:P X0)) ?_;obtain⟨h13,h⟩:=AQ h;try simp only[h9,h10,h12,h13,C,E,F,G,H,J]
     refine VO ih h ?_ (by kernel_rfl);try simp only[h9,h10,h12,h13,C,E,F,G,H,J,pL,aM,I]
    ·try simp only[h9,h10,h12,C,E,F,G,H,J]
     refine VO ih h ?_ (by kernel_rfl);try simp only[h9,h10,h12,C,E,F,G,H,J,pL,aM,I]
   ·try simp only[hσ,h9,h10,C,E,F,G,H,J]
    cases h;exact t0
  ·try simp only[hσ,h9,C,E,F,G,H,J]
   cases h;exact t0
instance Qn:Ct 24 (∀{a0} {a1} {r},CY a0 a1=N r→FC Z 24 [.ag (X3.row a0),.ag (X7.row a1)] [.sc (.o 4 (Y X0.row r))]):=by
 refine⟨fun h=> ?_⟩;unfold CY at h;refine A5 mixed Pe [4] 69 ?_;have s0:= @Ay (Y X0.row ([]:P X0));have k0:= @tR;exact gc
def SA:Hw:=([(8,[2,5,9,10,11],[2],[512])],[(19,4,(O,.frz 1152))])
def XI:=fun a1 (a0:X3) (k_:U→(P (P X0))→Q (P (P X0)))=>∀{v1 v2} {zr},k_ v1 v2=N zr→Kh Z 17 SA 8 [2,5,9,10,11] [2] [512] ⟨[pB 2,pW 5 512,pL 9 X7.row a1,pI 10 (a1.length:U),pI 11 v1],[(2,(dm a0.row))],[(512,1,Y (rL X0.row) v2)]⟩ (A9 [4] [.sc (.o 1 (Y (rL X0.row) zr))])
theorem tS{a1 a0}{n:W}:XI a1 a0 (GY a1 a0 n):=by
 induction n with
 | zero=>intro _ _ r h; cases h
 | succ n ih=>
  intro v1 v2 r h σ hσ;rw[GY] at h;have s0:=fun(r5:(P X0))=> @Ay (Y (rL X0.row) ([r5]:P (P X0)))
  exact gc
instance rR:Ct 17 (∀{a0} {a1} {r},Io a0 a1=N r→FC Z 17 [.ag (X3.row a0),.sc (.sl (Y X7.row a1))] [.sc (.o 1 (Y (rL X0.row) r))]):=by
 refine⟨fun h=> ?_⟩;unfold Io at h;refine A5 mixed SA [4] 23 ?_;have s0:= @Ay (Y (rL X0.row) ([]:P (P X0)));have k0:= @tS;exact gc
instance ro:Ct 86 (∀{a0} {a1} {r},KJ a0 a1=N r→FC Z 86 [.ag (Xi.row a0),.ag (Xi.row a1)] [.sc (.v (.bool r))]):=by
 refine⟨fun h=> ?_⟩;unfold KJ at h;refine A5 mixed h0 [4] 24 ?_;exact gc
instance xY:Ct 151 (∀{a0} {a1} {r},K4 a0 a1=N r→FC Z 151 [.ag (X2.row a0),.ag (X2.row a1)] [.sc (.v (.bool r))]):=by
 refine⟨fun h=> ?_⟩;unfold K4 at h;refine A5 mixed h0 [4] 16 ?_;exact gc
instance yf:Ct 152 (∀{a0} {a1} {a2} {r},KC a0 a1 a2=N r→FC Z 152 [.sc (.int .i64 a0),.sc (.int .i64 a1),.sc (.int .i64 a2)] [.sc (.v (.bool r))]):=by
 refine⟨fun h=> ?_⟩;unfold KC at h;refine A5 mixed h0 [6] 19 ?_;exact gc
def Lb:Hw:=([(6,[4,5,6,7,9],[4,5,6,7],[]),(12,[4,5,6,7,24],[4,5,6,7],[]),(24,[5,6,7,41],[5,6,7],[]),(36,[6,7,72],[6,7],[])],[])
def XO:=fun(a2:X2) (a3:X2) (k_:V→Q U)=>∀{v22} {zr},k_ v22=N zr→Kh Z 131 Lb 36 [6,7,72] [6,7] [] ⟨[pB 6,pB 7,(72,vc (aB v22))],[(6,(dm a2.row)),(7,(dm a3.row))],[]⟩ (A9 [8] [.sc (.v (.int .i64 zr))])
def XN:=fun(a1:Xl) (a2:X2) (a3:X2) (k_:V→V→Q U)=>∀{v15 v16} {zr},k_ v15 v16=N zr→Kh Z 131 Lb 24 [5,6,7,41] [5,6,7] [] ⟨[pB 5,pB 6,pB 7,(41,vc (aB v15))],[(5,[aI a1.Gap,aB v16]),(6,(dm a2.row)),(7,(dm a3.row))],[]⟩ (A9 [8] [.sc (.v (.int .i64 zr))])
def XM:=fun(a0:X5) (a1:Xl) (a2:X2) (a3:X2) (k_:V→Q U)=>∀{v7} {zr},k_ v7=N zr→Kh Z 131 Lb 12 [4,5,6,7,24] [4,5,6,7] [] ⟨[pB 4,pB 5,pB 6,pB 7,(24,vc (aB v7))],[(4,(dm a0.row)),(5,(dm a1.row)),(6,(dm a2.row)),(7,(dm a3.row))],[]⟩ (A9 [8] [.sc (.v (.int .i64 zr))])
def XL:=fun(a0:X5) (a1:Xl) (a2:X2) (a3:X2) (k_:V→Q U)=>∀{v3} {zr},k_ v3=N zr→Kh Z 131 Lb 6 [4,5,6,7,9] [4,5,6,7] [] ⟨[pB 4,pB 5,pB 6,pB 7,(9,vc (aB v3))],[(4,(dm a0.row)),(5,(dm a1.row)),(6,(dm a2.row)),(7,(dm a3.row))],[]⟩ (A9 [8] [.sc (.v (.int .i64 zr))])
theorem tT{a2 a3}:XO a2 a3 (Iu a2 a3):=by
 intro v22 r h σ hσ;unfold Iu at h;exact gc
theorem tU{a1 a2 a3}:XN a1 a2 a3 (FE a1 a2 a3):=by
 intro v15 v16 r h σ hσ;unfold FE at h;have k0:= @tT;exact gc
theorem tV{a0 a1 a2 a3}:XM a0 a1 a2 a3 (It a0 a1 a2 a3):=by
 intro v7 r h σ hσ;unfold It at h;have k0:= @tU;exact gc
theorem tW{a0 a1 a2 a3}:XL a0 a1 a2 a3 (Ir a0 a1 a2 a3):=by
 intro v3 r h σ hσ;unfold Ir at h;have k0:= @tV;exact gc
instance xz:Ct 131 (∀{a0} {a1} {a2} {a3} {r},Kw a0 a1 a2 a3=N r→FC Z 131 [.ag (X5.row a0),.ag (Xl.row a1),.ag (X2.row a2),.ag (X2.row a3)] [.sc (.v (.int .i64 r))]):=by
 refine⟨fun h=> ?_⟩;unfold Kw at h;refine A5 mixed Lb [8] 116 ?_;have k0:= @tW;exact gc
def Pf:Hw:=([(6,[3,4,5,13,14,15],[4,5],[]),(20,[3,4,5,10,13,14,15,19,20,21],[4,5,10],[])],[])
def XK:=fun a3 a2 v1 (a0:X5) (a1:Xl) (x3:X2) (k_:U→Q V)=>∀{v4} {zr},k_ v4=N zr→Kh Z 98 Pf 20 [3,4,5,10,13,14,15,19,20,21] [4,5,10] [] ⟨[pL 3 X2.row a3,pB 4,pB 5,pB 10,pL 13 X2.row a2,pI 14 (a2.length:U),pI 15 v1,pL 19 X2.row a3,pI 20 (a3.length:U),pI 21 v4],[(4,(dm a0.row)),(5,(dm a1.row)),(10,(dm x3.row))],[]⟩ (A9 [8] [.sc (.v (.bool zr))])
def QO:=fun a3 a2 (a0:X5) (a1:Xl) (k_:U→Q V)=>∀{v1} {zr},k_ v1=N zr→Kh Z 98 Pf 6 [3,4,5,13,14,15] [4,5] [] ⟨[pL 3 X2.row a3,pB 4,pB 5,pL 13 X2.row a2,pI 14 (a2.length:U),pI 15 v1],[(4,(dm a0.row)),(5,(dm a1.row))],[]⟩ (A9 [8] [.sc (.v (.bool zr))])
theorem tY{a3 a2 v1 a0 a1 x3}{Lq}(iL:QO a3 a2 a0 a1 Lq){n:W}:XK a3 a2 v1 a0 a1 x3 (GZ a3 a2 v1 a0 a1 x3 Lq n):=by
 induction n with
 | zero=>intro _ r h; cases h
 | succ n ih=>
  intro v4 r h σ hσ;rw[GZ] at h;have k0:= @iL;exact gc
theorem tZ{a3 a2 a0 a1}{n:W}:QO a3 a2 a0 a1 (FD a3 a2 a0 a1 n):=by
 induction n with
 | zero=>intro _ r h; cases h
 | succ n ih=>
  intro v1 r h σ hσ;rw[FD] at h;have k0:= @tY;exact gc
instance Qo:Ct 98 (∀{a0} {a1} {a2} {a3} {r},FB a0 a1 a2 a3=N r→FC Z 98 [.ag (X5.row a0),.ag (Xl.row a1),.sc (.sl (Y X2.row a2)),.sc (.sl (Y X2.row a3))] [.sc (.v (.bool r))]):=by
 refine⟨fun h=> ?_⟩;unfold FB at h;refine A5 mixed Pf [8] 33 ?_;have k0:= @tZ;exact gc
instance VH:Ct 100 (∀{a0} {r},E0 a0=N r→FC Z 100 [.sc (.sl (Y X0.row a0))] [.sc (.o 4 (Y X0.row r))]):=by
 refine⟨fun h=> ?_⟩;unfold E0 at h;refine A5 mixed h0 [2] 8 ?_;have s0:= @IY _ X0.row (⟨(0:U),(0:U),(0:U),([]:P X2)⟩:X0);exact gc
instance rC:Ct 36 (∀{a0} {a1} {r},EF a0 a1=N r→FC Z 36 [.ag (X2.row a0),.ag (X5.row a1)] [.sc (.v (.int .i64 r.1)),.sc (.v (.int .i64 r.2))]):=by
 refine⟨fun h=> ?_⟩;unfold EF at h;refine A5 mixed h0 [4,5] 23 ?_;exact gc
instance yb:Ct 110 (∀{a0} {a1} {a2} {r},H4 a0 a1 a2=N r→FC Z 110 [.ag (X5.row a0),.ag (X2.row a1),.ag (X2.row a2)] [.ag [.v (.int .i64 r.From),.v (.int .i64 r.To),.v (.int .i64 r.A),.v (.int .i64 r.B)]]):=by
 refine⟨fun h=> ?_⟩;unfold H4 at h;refine A5 mixed h0 [.c 6 T 4] 30 ?_;exact gc
instance yh:Ct 77 (∀{a0} {a1} {a2} {r},KE a0 a1 a2=N r→FC Z 77 [.ag (X5.row a0),.sc (.sl (Y X9.row a1)),.ag (X2.row a2)] [.sc (.v (.bool r))]):=by
 refine⟨fun h=> ?_⟩;unfold KE at h;refine A5 mixed h0 [6] 51 ?_;exact gc
instance qz:Ct 35 (∀{a0} {a1} {a2} {r},GL a0 a1 a2=N r→FC Z 35 [.ag (X5.row a0),.sc (.sl (Y X9.row a1)),.ag (X2.row a2)] [.sc (.v (.bool r))]):=by
 refine⟨fun h=> ?_⟩;unfold GL at h;refine A5 mixed h0 [6] 19 ?_;exact gc
def Pg:Hw:=([(8,[1,3,8,12,13,14],[3],[704]),(31,[1,3,8,10,12,13,14,28,29],[3,10],[704])],[])
def Y3:=fun a1 a2 v1 (x7:X9) (a0:X5) (x4:X2) (k_:U→(P Xb)→Q ((P Xb) × V))=>∀{v8 v9} {zr},k_ v8 v9=N zr→Kh Z 62 Pg 31 [1,3,8,10,12,13,14,28,29] [3,10] [704] ⟨[pL 1 X9.row a1,pB 3,pW 8 704,pB 10,pL 12 X2.row a2,pI 13 (a2.length:U),pI 14 v1,pI 28 x7.Tugs,pI 29 v8],[(3,(dm a0.row)),(10,(dm x4.row))],[(704,4,Y zB v9)]⟩ (A9 [6,7] [.sc (.o 4 (Y zB zr.1)),.sc (.v (.bool zr.2))])
def QU:=fun a1 a2 (a0:X5) (k_:U→(P Xb)→Q ((P Xb) × V))=>∀{v1 v2} {zr},k_ v1 v2=N zr→Kh Z 62 Pg 8 [1,3,8,12,13,14] [3] [704] ⟨[pL 1 X9.row a1,pB 3,pW 8 704,pL 12 X2.row a2,pI 13 (a2.length:U),pI 14 v1],[(3,(dm a0.row))],[(704,4,Y zB v2)]⟩ (A9 [6,7] [.sc (.o 4 (Y zB zr.1)),.sc (.v (.bool zr.2))])
theorem ta{a1 a2 v1 x7 a0 x4}{Lu}(iQ:QU a1 a2 a0 Lu){n:W}:Y3 a1 a2 v1 x7 a0 x4 (EP a1 a2 v1 x7 a0 x4 Lu n):=by
 induction n with
 | zero=>intro _ _ r h; cases h
 | succ n ih=>
  intro v8 v9 r h σ hσ;rw[EP] at h;have s0:=fun(r11:Xb)=> @Ay (Y zB ([r11]:P Xb))
  have k0:= @iQ;exact gc
theorem tb{a1 a2 a0}{n:W}:QU a1 a2 a0 (CJ a1 a2 a0 n):=by
 induction n with
 | zero=>intro _ _ r h; cases h
 | succ n ih=>
  intro v1 v2 r h σ hσ;rw[CJ] at h;have k0:= @ta;exact gc
instance yi:Ct 62 (∀{a0} {a1} {a2} {r},FM a0 a1 a2=N r→FC Z 62 [.ag (X5.row a0),.sc (.sl (Y X9.row a1)),.sc (.sl (Y X2.row a2))] [.sc (.o 4 (Y zB r.1)),.sc (.v (.bool r.2))]):=by
 refine⟨fun h=> ?_⟩;unfold FM at h;refine A5 mixed Pg [6,7] 44 ?_;have s0:= @Ay (Y zB ([]:P Xb));have k0:= @tb;exact gc
def SB:Hw:=([(14,[8,9,10],[],[])],[])
def WB:=fun a0 (k_:U→Q V)=>∀{v2} {zr},k_ v2=N zr→Kh Z 138 SB 14 [8,9,10] [] [] ⟨[pL 8 zB a0,pI 9 (a0.length:U),pI 10 v2],[],[]⟩ (A9 [2] [.sc (.v (.bool zr))])
theorem tc{a0}{n:W}:WB a0 (GA a0 n):=by
 induction n with
 | zero=>intro _ r h; cases h
 | succ n ih=>
  intro v2 r h σ hσ;rw[GA] at h;exact gc
instance xG:Ct 138 (∀{a0} {r},Gz a0=N r→FC Z 138 [.sc (.sl (Y zB a0))] [.sc (.v (.bool r))]):=by
 refine⟨fun h=> ?_⟩;unfold Gz at h;refine A5 mixed SB [2] 42 ?_;have k0:= @tc;exact gc
instance rV:Ct 111 (∀{a0} {a1} {a2} {r},H0 a0 a1 a2=N r→FC Z 111 [.sc (.int .i64 a0),.sc (.sl (Y rI a1)),.sc (.sl (Y zB a2))] [.sc (.v (.bool r))]):=by
 refine⟨fun h=> ?_⟩;unfold H0 at h;refine A5 mixed h0 [6] 17 ?_;exact gc
def SC:Hw:=([(5,[0,1,6,7,29],[6,7],[])],[])
def WG:=fun a0 a1 (a2:Xb) (a3:Xb) (k_:V→Q (U × V))=>∀{v8} {zr},k_ v8=N zr→Kh Z 154 SC 5 [0,1,6,7,29] [6,7] [] ⟨[pI 0 a0,pL 1 rI a1,pB 6,pB 7,(29,vc (aB v8))],[(6,(dm a2.row)),(7,(dm a3.row))],[]⟩ (A9 [8,9] [.sc (.v (.int .i64 zr.1)),.sc (.v (.bool zr.2))])
theorem td{a0 a1 a2 a3}:WG a0 a1 a2 a3 (GD a0 a1 a2 a3):=by
 intro v8 r h σ hσ;unfold GD at h;exact gc
instance xL:Ct 154 (∀{a0} {a1} {a2} {a3} {r},MJ a0 a1 a2 a3=N r→FC Z 154 [.sc (.int .i64 a0),.sc (.sl (Y rI a1)),.ag (zB a2),.ag (zB a3)] [.sc (.v (.int .i64 r.1)),.sc (.v (.bool r.2))]):=by
 refine⟨fun h=> ?_⟩;unfold MJ at h;refine A5 mixed SC [8,9] 41 ?_;have k0:= @td;exact gc
instance VA:Ct 139 (∀{a0} {a1} {a2} {a3} {r},Ie a0 a1 a2 a3=N r→FC Z 139 [.sc (.int .i64 a0),.sc (.sl (Y rI a1)),.ag (zB a2),.ag (zB a3)] [.sc (.v (.bool r))]):=by
 refine⟨fun{a0} {a1} {a2} {a3} {r} h=> ?_⟩;unfold Ie at h;refine A5 mixed h0 [8] 39 ?_;have s0:= @Ay (Y zB ([a2]:P Xb));have s1:= @Ay (Y zB ([a3]:P Xb));exact gc
def Nd:Hw:=([(8,[0,1,2,7,15,16,17],[],[896]),(22,[0,1,2,7,8,9,15,16,17,22,23,24],[9],[896]),(35,[0,1,2,7,8,9,10,15,16,17,22,23,24,45],[9],[896])],[])
def XZ:=fun a0 a1 a2 v2 v6 (x5:Xb) v7 (k_:V→Q (P U))=>∀{v14} {zr},k_ v14=N zr→Kh Z 112 Nd 35 [0,1,2,7,8,9,10,15,16,17,22,23,24,45] [9] [896] ⟨[pI 0 a0,pL 1 rI a1,pL 2 zB a2,pW 7 896,pI 8 v2,pB 9,pI 10 v6,pL 15 zB a2,pI 16 (a2.length:U),pI 17 v2,pL 22 zB a2,pI 23 (a2.length:U),pI 24 v6,(45,vc (aB v14))],[(9,(dm x5.row))],[(896,1,Y rU v7)]⟩ (A9 [6] [.sc (.o 1 (Y rU zr))])
def QR:=fun a0 a1 a2 v2 (x5:Xb) (k_:U→(P U)→Q (P U))=>∀{v6 v7} {zr},k_ v6 v7=N zr→Kh Z 112 Nd 22 [0,1,2,7,8,9,15,16,17,22,23,24] [9] [896] ⟨[pI 0 a0,pL 1 rI a1,pL 2 zB a2,pW 7 896,pI 8 v2,pB 9,pL 15 zB a2,pI 16 (a2.length:U),pI 17 v2,pL 22 zB a2,pI 23 (a2.length:U),pI 24 v6],[(9,(dm x5.row))],[(896,1,Y rU v7)]⟩ (A9 [6] [.sc (.o 1 (Y rU zr))])
def QQ:=fun a0 a1 a2 (k_:U→(P U)→Q (P U))=>∀{v2 v3} {zr},k_ v2 v3=N zr→Kh Z 112 Nd 8 [0,1,2,7,15,16,17] [] [896] ⟨[pI 0 a0,pL 1 rI a1,pL 2 zB a2,pW 7 896,pL 15 zB a2,pI 16 (a2.length:U),pI 17 v2],[],[(896,1,Y rU v3)]⟩ (A9 [6] [.sc (.o 1 (Y rU zr))])
theorem Qt{a0 a1 a2 v2 v6 x5 v7}{Lr}(T7:QR a0 a1 a2 v2 x5 Lr):XZ a0 a1 a2 v2 v6 x5 v7 (H6 a0 a1 a2 v2 v6 x5 v7 Lr):=by
 intro v14 r h σ hσ S hS;refine ev hS ?_;refine Aw ?_;unfold H6 at h;obtain⟨h15,h⟩|⟨h15,h⟩:=ic h
 ·try simp only[hσ,h15,C,E,F,G,H,J]
  refine At ?_;obtain⟨x16,h16,h⟩:=ob h;have h16n:=AJ h16;obtain⟨h17,h⟩:=F3 h;try simp only[h15,h16,h16n,h17,C,E,F,G,H,J]
  refine Cw (row:=rU) (y:=(AI .or .u64 x16 (Bb .u64 (1:U) v6))) X X h16n X X (by rfl) ?_;try simp only[h15,h16,h16n,h17,C,E,F,G,H,J]
  refine At ?_;try simp only[h15,h16,h16n,h17,C,E,F,G,H,J]
  refine T7 h ?_ (by kernel_rfl);try simp only[h15,h16,h16n,h17,C,E,F,G,H,J,pL,aM,I]
 ·try simp only[hσ,h15,C,E,F,G,H,J]
  refine T7 h ?_ (by kernel_rfl);try simp only[h15,C,E,F,G,H,J,pL,aM,I]
theorem te{a0 a1 a2 v2 x5}{Ho}(iN:QQ a0 a1 a2 Ho){n:W}:QR a0 a1 a2 v2 x5 (Dz a0 a1 a2 v2 x5 Ho n):=by
 induction n with
 | zero=>intro _ _ r h; cases h
 | succ n ih=>
  intro v6 v7 r h σ hσ S hS;refine ev hS ?_;rw[Dz] at h;refine AP (Aw ?_);obtain⟨h8,h⟩|⟨h8,h⟩:=ic h
  ·obtain⟨x9,h9,h⟩:=ob h;try simp only[hσ,h8,h9,C,E,F,G,H,J]
   refine AK ?_;obtain⟨h10,h⟩|⟨h10,h⟩:=ic h
   ·obtain⟨r11,h11,h⟩:=ob h;try simp only[h8,h9,h10,C,E,F,G,H,J]
    refine AM (Ak VA h11) ?_;obtain⟨h12,h⟩|⟨h12,h⟩:=ic h
    ·try simp only[h8,h9,h10,h12,C,E,F,G,H,J]
     refine Qt ih h ?_ (by kernel_rfl);try simp only[h8,h9,h10,h12,C,E,F,G,H,J,pL,aM,I]
    ·obtain⟨r13,h13,h⟩:=ob h;try simp only[h8,h9,h10,h12,C,E,F,G,H,J]
     refine AM (Ak VA h13) ?_;try simp only[h8,h9,h10,h12,C,E,F,G,H,J]
     refine Qt ih h ?_ (by kernel_rfl);try simp only[h8,h9,h10,h12,C,E,F,G,H,J,pL,aM,I]
   ·try simp only[h8,h9,h10,C,E,F,G,H,J]
    refine Qt ih h ?_ (by kernel_rfl);try simp only[h8,h9,h10,C,E,F,G,H,J,pL,aM,I]
  ·try simp only[hσ,h8,C,E,F,G,H,J]
   refine iN h ?_ (by kernel_rfl);try simp only[h8,C,E,F,G,H,J,pL,aM,I]
theorem tf{a0 a1 a2}{n:W}:QQ a0 a1 a2 (EO a0 a1 a2 n):=by
 induction n with
 | zero=>intro _ _ r h; cases h
 | succ n ih=>
  intro v2 v3 r h σ hσ;rw[EO] at h;have k0:= @te;exact gc
instance rh:Ct 112 (∀{a0} {a1} {a2} {r},KD a0 a1 a2=N r→FC Z 112 [.sc (.int .i64 a0),.sc (.sl (Y rI a1)),.sc (.sl (Y zB a2))] [.sc (.o 1 (Y rU r))]):=by
 refine⟨fun h=> ?_⟩;unfold KD at h;refine A5 mixed Nd [6] 57 ?_;have s0:= @IY _ rU (0:U);have k0:= @tf;exact gc
def Nf:Hw:=([(10,[0,2],[],[]),(18,[0,2],[],[]),(26,[0,2],[],[])],[])
def Yc:=fun(k_:U→U→Q U)=>∀{v8 v9} {zr},k_ v8 v9=N zr→Kh Z 156 Nf 26 [0,2] [] [] ⟨[(0,vc (.dat (.int .u64 v8))),pI 2 v9],[],[]⟩ (A9 [2] [.sc (.v (.int .i64 zr))])
def Yb:=fun(k_:U→U→Q U)=>∀{v5 v6} {zr},k_ v5 v6=N zr→Kh Z 156 Nf 18 [0,2] [] [] ⟨[(0,vc (.dat (.int .u64 v5))),pI 2 v6],[],[]⟩ (A9 [2] [.sc (.v (.int .i64 zr))])
def Ya:=fun(k_:U→U→Q U)=>∀{v2 v3} {zr},k_ v2 v3=N zr→Kh Z 156 Nf 10 [0,2] [] [] ⟨[(0,vc (.dat (.int .u64 v2))),pI 2 v3],[],[]⟩ (A9 [2] [.sc (.v (.int .i64 zr))])
theorem th:Yc IC:=by
 intro v8 v9 r h σ hσ;unfold IC at h;exact gc
theorem ti:Yb KM:=by
 intro v5 v6 r h σ hσ;unfold KM at h;have k0:= @th;exact gc
theorem tj:Ya KL:=by
 intro v2 v3 r h σ hσ;unfold KL at h;have k0:= @ti;exact gc
instance yn:Ct 156 (∀{a0} {r},N0 a0=N r→FC Z 156 [.sc (.int .u64 a0)] [.sc (.v (.int .i64 r))]):=by
 refine⟨fun h=> ?_⟩;unfold N0 at h;refine A5 mixed Nf [2] 25 ?_;have k0:= @tj;exact gc
instance rr:Ct 140 (∀{a0} {r},IB a0=N r→FC Z 140 [.sc (.int .u64 a0)] [.sc (.v (.int .i64 r))]):=by
 refine⟨fun h=> ?_⟩;unfold IB at h;refine A5 mixed h0 [2] 8 ?_;exact gc
def Lc:Hw:=([(14,[0,3,4,5,6],[],[896,1024]),(29,[0,3,4,5,6,7,8],[],[896,1024]),(34,[0,3,4,5,6,7,8,9],[],[896,1024]),(43,[0,3,4,5,6,7,8,9],[],[896,1024])],[])
def XW:=fun a0 y5 v6 v17 v18 v21 v19 (k_:(P U)→Q U)=>∀{v28} {zr},k_ v28=N zr→Kh Z 113 Lc 43 [0,3,4,5,6,7,8,9] [] [896,1024] ⟨[pL 0 rU a0,pI 3 y5,pW 4 896,pW 5 1024,pI 6 v6,pI 7 v17,pI 8 v18,pI 9 v21],[],[(896,1,Y rB v19),(1024,1,Y rI v28)]⟩ (A9 [2] [.sc (.v (.int .i64 zr))])
def QP:=fun a0 y5 v6 v17 v18 v19 (k_:U→(P U)→Q U)=>∀{v21 v22} {zr},k_ v21 v22=N zr→Kh Z 113 Lc 34 [0,3,4,5,6,7,8,9] [] [896,1024] ⟨[pL 0 rU a0,pI 3 y5,pW 4 896,pW 5 1024,pI 6 v6,pI 7 v17,pI 8 v18,pI 9 v21],[],[(896,1,Y rB v19),(1024,1,Y rI v22)]⟩ (A9 [2] [.sc (.v (.int .i64 zr))])
def XU:=fun a0 y5 v6 v8 (k_:U→U→(P V)→Q U)=>∀{v17 v18 v19} {zr},k_ v17 v18 v19=N zr→Kh Z 113 Lc 29 [0,3,4,5,6,7,8] [] [896,1024] ⟨[pL 0 rU a0,pI 3 y5,pW 4 896,pW 5 1024,pI 6 v6,pI 7 v17,pI 8 v18],[],[(896,1,Y rB v19),(1024,1,Y rI v8)]⟩ (A9 [2] [.sc (.v (.int .i64 zr))])
def Mb:=fun a0 y5 (k_:U→(P V)→(P U)→Q U)=>∀{v6 v7 v8} {zr},k_ v6 v7 v8=N zr→Kh Z 113 Lc 14 [0,3,4,5,6] [] [896,1024] ⟨[pL 0 rU a0,pI 3 y5,pW 4 896,pW 5 1024,pI 6 v6],[],[(896,1,Y rB v7),(1024,1,Y rI v8)]⟩ (A9 [2] [.sc (.v (.int .i64 zr))])
theorem VP{a0 y5 v6 v17 v18 v21 v19}{C4}(Le:Mb a0 y5 C4){NF}(iM:QP a0 y5 v6 v17 v18 v19 NF):XW a0 y5 v6 v17 v18 v21 v19 (Iy a0 y5 v6 v17 v18 v21 v19 C4 NF):=by
 intro v28 r h σ hσ;unfold Iy at h;have k0:= @Le; have k1:= @iM;exact gc
theorem tk{a0 y5 v6 v17 v18 v19}{C4}(Le:Mb a0 y5 C4){n:W}:QP a0 y5 v6 v17 v18 v19 (FG a0 y5 v6 v17 v18 v19 C4 n):=by
 induction n with
 | zero=>intro _ _ r h; cases h
 | succ n ih=>
  intro v21 v22 r h σ hσ S hS;refine ev hS ?_;rw[FG] at h;refine AP (Aw ?_);obtain⟨h23,h⟩:=F3 h;obtain⟨x24,h24,h⟩:=ob h;have h24n:=AJ h24;obtain⟨h25,h⟩|⟨h25,h⟩:=ic h
  ·try simp only[hσ,h23,h24,h24n,h25,C,E,F,G,H,J]
   refine At ?_;obtain⟨x26,h26,h⟩:=ob h;have h26n:=AJ h26;obtain⟨x27,h27,h⟩:=ob h;have h27n:=AJ h27;try simp only[h23,h24,h24n,h25,h26,h26n,h27,h27n,C,E,F,G,H,J]
   refine Cw (row:=rI) (y:=(if(IntKind.i64.wrap ((1:U)+x27))<x26 then(IntKind.i64.wrap ((1:U)+x27)) else x26)) X X h26n X X (by rfl) ?_;try simp only[h23,h24,h24n,h25,h26,h26n,h27,h27n,C,E,F,G,H,J]
   refine At ?_;try simp only[h23,h24,h24n,h25,h26,h26n,h27,h27n,C,E,F,G,H,J]
   refine VP Le ih h ?_ (by kernel_rfl);try simp only[h23,h24,h24n,h25,h26,h26n,h27,h27n,C,E,F,G,H,J,pL,aM,I]
  ·try simp only[hσ,h23,h24,h24n,h25,C,E,F,G,H,J]
   refine VP Le ih h ?_ (by kernel_rfl);try simp only[h23,h24,h24n,h25,C,E,F,G,H,J,pL,aM,I]
theorem VQ{a0 y5 v6 v8}{C4}(Le:Mb a0 y5 C4):XU a0 y5 v6 v8 (Ix a0 y5 v6 v8 C4):=by
 intro v17 v18 v19 r h σ hσ;unfold Ix at h;have s0:= @UF _ rI ((a0.length:U));have k0:= @tk;exact gc
theorem tl{a0 y5}{n:W}:Mb a0 y5 (E4 a0 y5 n):=by
 induction n with
 | zero=>intro _ _ _ r h; cases h
 | succ n ih=>
  intro v6 v7 v8 r h σ hσ S hS;refine ev hS ?_;rw[E4] at h;refine AP (Aw ?_);obtain⟨h9,h⟩|⟨h9,h⟩:=ic h
  ·obtain⟨r10,h10,h⟩:=ob h;try simp only[hσ,h9,C,E,F,G,H,J]
   refine AM (Ak rr h10) ?_;obtain⟨h11,h⟩:=F3 h;obtain⟨x12,h12,h⟩:=ob h;have h12n:=AJ h12;obtain⟨h13,h⟩|⟨h13,h⟩:=ic h
   ·obtain⟨x14,h14,h⟩:=ob h;obtain⟨x15,h15,h⟩:=ob h;have h15n:=AJ h15;try simp only[h9,h11,h12,h12n,h13,h14,h15,C,E,F,G,H,J]
    refine Cw (row:=rB) (y:=((AI .andNot .u64 (IntKind.u64.wrap (AI .andNot .i64 v6 (Bb .i64 (1:U) (IntKind.i64.wrap (r10 - (1:U)))))) x14)==(0:U))) X X h15n X X (by rfl) ?_;try simp only[h9,h11,h12,h12n,h13,h14,h15,C,E,F,G,H,J]
    refine VQ ih h ?_ (by kernel_rfl);try simp only[h9,h11,h12,h12n,h13,h14,h15,C,E,F,G,H,J,pL,aM,I]
   ·obtain⟨x16,h16,h⟩:=ob h;have h16n:=AJ h16;try simp only[h9,h11,h12,h12n,h13,h16,C,E,F,G,H,J]
    refine Cw (row:=rB) (y:=false) X X h16n X X (by rfl) ?_;try simp only[h9,h11,h12,h12n,h13,h16,C,E,F,G,H,J]
    refine VQ ih h ?_ (by kernel_rfl);try simp only[h9,h11,h12,h12n,h13,h16,C,E,F,G,H,J,pL,aM,I]
  ·obtain⟨x30,h30,h⟩:=ob h;have h30n:=AJ h30;try simp only[hσ,h9,h30,h30n,C,E,F,G,H,J]
   cases h;exact t0
instance rd:Ct 113 (∀{a0} {r},Kz a0=N r→FC Z 113 [.sc (.sl (Y rU a0))] [.sc (.v (.int .i64 r))]):=by
 refine⟨fun{a0} {r} h=> ?_⟩;unfold Kz at h;refine A5 mixed Lc [2] 88 ?_;intro S hS;refine ev hS ?_;simp only[C,E,F,G,H,J];obtain⟨h1,h⟩:=F3 h;obtain⟨n2,hn2,h⟩:=ob h;try simp only[h1,C,E,F,G,H,J]
 refine P9 (es:=Y rB (List.replicate n2 L)) X X hn2 X (Q4 X) X ?_;obtain⟨n3,hn3,h⟩:=ob h;try simp only[h1,C,E,F,G,H,J]
 refine P9 (es:=Y rI (List.replicate n3 (0:U))) X X hn3 X (Q4 X) X ?_;obtain⟨x4,h4,h⟩:=ob h;have h4n:=AJ h4;try simp only[h1,h4,C,E,F,G,H,J]
 refine Cw (row:=rB) (y:=true) X X h4n X X (by rfl) ?_;try simp only[h1,h4,C,E,F,G,H,J]
 refine tl h ?_ (by kernel_rfl);try simp only[h1,h4,C,E,F,G,H,J,pL,aM,I]
def Ld:Hw:=([(16,[0,3,4],[99999999999],[90000,90001]),(31,[0,3,4],[99999999999],[90000,90001]),(51,[0,3,4],[99999999999],[90000,90001])],[(48,7,(O,.cut 95)),(55,7,(O,.cut 123))])
def XQ:=fun(a0:Xf) v2 (k_:(P U)→U→(P U)→(P U)→Q (V × Xf))=>∀{v22 v23 v24 v25} {zr},k_ v22 v23 v24 v25=N zr→Kh Z 114 Ld 51 [0,3,4] [99999999999] [90000,90001] ⟨[(0,vc (.pb 99999999999 0)),pI 3 (a0.who.length:U),pI 4 v2],[(99999999999,[aM rU v22,aI v23,.own 90000,.own 90001])],[(90000,1,Y rU v24),(90001,1,Y rI v25)]⟩ (Eo [2] [.sc (.v (.bool zr.1))] (C6 zr.2) (C7 zr.2))
def XP:=fun(a0:Xf) v2 v3 v4 v6 (k_:(P U)→Q (V × Xf))=>∀{v11} {zr},k_ v11=N zr→Kh Z 114 Ld 31 [0,3,4] [99999999999] [90000,90001] ⟨[(0,vc (.pb 99999999999 0)),pI 3 (a0.who.length:U),pI 4 v2],[(99999999999,[aM rU v3,aI v4,.own 90000,.own 90001])],[(90000,1,Y rU v11),(90001,1,Y rI v6)]⟩ (Eo [2] [.sc (.v (.bool zr.1))] (C6 zr.2) (C7 zr.2))
def Oh:=fun(a0:Xf) (k_:U→(P U)→U→(P U)→(P U)→Q (V × Xf))=>∀{v2 v3 v4 v5 v6} {zr},k_ v2 v3 v4 v5 v6=N zr→Kh Z 114 Ld 16 [0,3,4] [99999999999] [90000,90001] ⟨[(0,vc (.pb 99999999999 0)),pI 3 (a0.who.length:U),pI 4 v2],[(99999999999,[aM rU v3,aI v4,.own 90000,.own 90001])],[(90000,1,Y rU v5),(90001,1,Y rI v6)]⟩ (Eo [2] [.sc (.v (.bool zr.1))] (C6 zr.2) (C7 zr.2))
theorem VR{rec_:Xf→Q (V × Xf)}(h_rec:∀(a0:Xf) zr,rec_ a0=N zr→FCz Z 114 [.p] (C6 a0) (C7 a0) (C6 zr.2) (C7 zr.2) [.sc (.v (.bool zr.1))]){a0 v2}{E9}(Np:Oh a0 E9):XQ a0 v2 (H3 rec_ a0 v2 E9):=by
 intro v22 v23 v24 v25 r h σ hσ S hS;refine ev hS ?_;refine Aw ?_;unfold H3 at h;obtain⟨x26,h26,h⟩:=ob h;have h26n:=AJ h26;obtain⟨h27,h⟩|⟨h27,h⟩:=ic h
 ·obtain⟨p28,h28,h⟩:=ob h;try simp only[hσ,h26,h26n,h27,C,E,F,G,H,J]
  refine Hi X X h28 (by rfl) ?_;try simp only[h26,h26n,h27,C,E,F,G,H,J]
  cases h;exact⟨⟨X,⟨⟩⟩,[90000,90001],by decide,by decide,X,X⟩
 ·try simp only[hσ,h26,h26n,h27,C,E,F,G,H,J]
  refine Np h ?_ (by kernel_rfl);try simp only[h26,h26n,h27,C,E,F,G,H,J,pL,aM,I]
theorem VS{rec_:Xf→Q (V × Xf)}(h_rec:∀(a0:Xf) zr,rec_ a0=N zr→FCz Z 114 [.p] (C6 a0) (C7 a0) (C6 zr.2) (C7 zr.2) [.sc (.v (.bool zr.1))]){a0 v2 v3 v4 v6}{E9}(Np:Oh a0 E9):XP a0 v2 v3 v4 v6 (Iv rec_ a0 v2 v3 v4 v6 E9):=by
 intro v11 r h σ hσ S hS;refine ev hS ?_;refine Aw ?_;unfold Iv at h;try simp only[hσ,C,E,F,G,H,J]
 refine At ?_;obtain⟨x12,h12,h⟩:=ob h;have h12n:=AJ h12;obtain⟨x13,h13,h⟩:=ob h;obtain⟨h14,h⟩|⟨h14,h⟩:=ic h
 ·try simp only[h12,h12n,h13,h14,C,E,F,G,H,J]
  refine At ?_;obtain⟨h15,h⟩:=F3 h;try simp only[h12,h12n,h13,h14,h15,C,E,F,G,H,J]
  refine Cw (row:=rU) (y:=(AI .or .u64 x12 (Bb .u64 (1:U) (a0.who.length:U)))) X X h12n X X (by rfl) ?_;try simp only[h12,h12n,h13,h14,h15,C,E,F,G,H,J]
  refine At ?_;try simp only[h12,h12n,h13,h14,h15,C,E,F,G,H,J]
  refine B3 (es:=Y rI ([v2]:P U)) ?_;obtain⟨h16,h⟩:=AQ h;obtain⟨r17,h17,h⟩:=ob h;try simp only[h12,h12n,h13,h14,h15,h16,C,E,F,G,H,J]
  refine IL (h_rec _ _ h17) 99999999999 [90000,90001] rfl X X X (by decide) X X X ?_;obtain⟨h18,h⟩|⟨h18,h⟩:=ic h
  ·try simp only[h12,h12n,h13,h14,h15,h16,h18,C,E,F,G,H,J]
   cases h;exact⟨⟨X,⟨⟩⟩,[90000,90001],by decide,by decide,X,X⟩
  ·obtain⟨p19,h19,h⟩:=ob h;try simp only[h12,h12n,h13,h14,h15,h16,h18,C,E,F,G,H,J]
   refine Hi X X h19 (by rfl) ?_;try simp only[h12,h12n,h13,h14,h15,h16,h18,C,E,F,G,H,J]
   refine At ?_;obtain⟨x20,h20,h⟩:=ob h;have h20n:=AJ h20;obtain⟨h21,h⟩:=F3 h;try simp only[h12,h12n,h13,h14,h15,h16,h18,h20,h20n,h21,C,E,F,G,H,J]
   refine Cw (row:=rU) (y:=(AI .andNot .u64 x20 (Bb .u64 (1:U) (a0.who.length:U)))) X X h20n X X (by rfl) ?_;try simp only[h12,h12n,h13,h14,h15,h16,h18,h20,h20n,h21,C,E,F,G,H,J]
   refine At ?_;try simp only[h12,h12n,h13,h14,h15,h16,h18,h20,h20n,h21,C,E,F,G,H,J]
   refine VR h_rec Np h ?_ (by kernel_rfl);try simp only[h12,h12n,h13,h14,h15,h16,h18,h20,h20n,h21,C,E,F,G,H,J,pL,aM,I]
 ·try simp only[h12,h12n,h13,h14,C,E,F,G,H,J]
  refine VR h_rec Np h ?_ (by kernel_rfl);try simp only[h12,h12n,h13,h14,C,E,F,G,H,J,pL,aM,I]
theorem tm{rec_:Xf→Q (V × Xf)}(h_rec:∀(a0:Xf) zr,rec_ a0=N zr→FCz Z 114 [.p] (C6 a0) (C7 a0) (C6 zr.2) (C7 zr.2) [.sc (.v (.bool zr.1))]){a0}{n:W}:Oh a0 (EL rec_ a0 n):=by
 induction n with
 | zero=>intro _ _ _ _ _ r h; cases h
 | succ n ih=>
  intro v2 v3 v4 v5 v6 r h σ hσ S hS;refine ev hS ?_;rw[EL] at h;refine AP (Aw ?_);obtain⟨h7,h⟩|⟨h7,h⟩:=ic h
  ·obtain⟨h8,h⟩|⟨h8,h⟩:=ic h
   ·obtain⟨h9,h⟩|⟨h9,h⟩:=ic h
    ·try simp only[hσ,h7,h8,h9,C,E,F,G,H,J]
     refine B3 (es:=Y rU ([(0:U)]:P U)) ?_;obtain⟨h10,h⟩:=AQ h;try simp only[h7,h8,h9,h10,C,E,F,G,H,J]
     refine VS h_rec ih h ?_ (by kernel_rfl);try simp only[h7,h8,h9,h10,C,E,F,G,H,J,pL,aM,I]
    ·try simp only[hσ,h7,h8,h9,C,E,F,G,H,J]
     refine VS h_rec ih h ?_ (by kernel_rfl);try simp only[h7,h8,h9,C,E,F,G,H,J,pL,aM,I]
   ·try simp only[hσ,h7,h8,C,E,F,G,H,J]
    cases h;exact⟨⟨X,⟨⟩⟩,[90000,90001],by decide,by decide,X,X⟩
  ·try simp only[hσ,h7,C,E,F,G,H,J]
   cases h;exact⟨⟨X,⟨⟩⟩,[90000,90001],by decide,by decide,X,X⟩
theorem dL:AD Z 114=N ((Bp Z 114 Ld).strip,[2],126):=by kernel_rfl
theorem rX(rec_:Xf→Q (V × Xf))(a0:Xf)(r:V × Xf)(h_rec:∀(a0:Xf) zr,rec_ a0=N zr→FCz Z 114 [.p] (C6 a0) (C7 a0) (C6 zr.2) (C7 zr.2) [.sc (.v (.bool zr.1))])(h:Kx rec_ a0=N r):FCz Z 114 [.p] (C6 a0) (C7 a0) (C6 r.2) (C7 r.2) [.sc (.v (.bool r.1))]:=by
 unfold Kx at h;refine Of (σ:=⟨[(0,vc (.pb 99999999999 0))],[(99999999999,[aL (Y rU a0.sets),aI a0.most,.own 90000,.own 90001])],[(90000,1,Y rU a0.groups),(90001,1,Y rI a0.who)]⟩) mixed dL X X X X ?_;refine Bv Ld ?_;intro S hS;refine ev hS ?_;obtain⟨h1,h⟩|⟨h1,h⟩:=ic h
 ·try simp only[h1,C,E,F,G,H,J]
  cases h;exact⟨⟨X,⟨⟩⟩,[90000,90001],by decide,by decide,X,X⟩
 ·try simp only[h1,C,E,F,G,H,J]
  refine tm h_rec h ?_ (by kernel_rfl);try simp only[h1,C,E,F,G,H,J,pL,aM,I]
theorem rY:∀(n:W) (a0:Xf) (r:V × Xf),Dx n a0=N r→FCz Z 114 [.p] (C6 a0) (C7 a0) (C6 r.2) (C7 r.2) [.sc (.v (.bool r.1))]:=by
 intro n
 induction n with
 | zero=>intro _ r h; cases h
 | succ n ih=>intro a0 r h; rw[Dx] at h; exact rX (Dx n) a0 r ih h
theorem rW{a0}{r}(h:MT a0=N r):FCz Z 114 [.p] (C6 a0) (C7 a0) (C6 r.2) (C7 r.2) [.sc (.v (.bool r.1))]:=rY bigN a0 r h
def hZ:Hw:=([],[(13,5,(O,.ownb 24 2 152704 1)),(13,6,(O,.ownb 24 3 152768 1)),(15,1,(O,.frz 1216))])
instance xS:Ct 63 (∀{a0} {a1} {a2} {r},Dv a0 a1 a2=N r→FC Z 63 [.sc (.int .i64 a0),.sc (.sl (Y rI a1)),.sc (.sl (Y zB a2))] [.sc (.o 1 (Y rI r.1)),.sc (.v (.int .i64 r.2.1)),.sc (.v (.bool r.2.2))]):=by
 refine⟨fun{a0} {a1} {a2} {r} h=> ?_⟩;unfold Dv at h;refine A5 mixed hZ [6,7,8] 35 ?_;intro S hS;refine ev hS ?_;simp only[C,E,F,G,H,J];obtain⟨r1,h1,h⟩:=ob h;try simp only[C,E,F,G,H,J]
 refine AM (Ak rV h1) ?_;obtain⟨h2,h⟩|⟨h2,h⟩:=ic h
 ·obtain⟨r3,h3,h⟩:=ob h;try simp only[h2,C,E,F,G,H,J]
  refine AM (Ak rh h3) ?_;obtain⟨r4,h4,h⟩:=ob h;try simp only[h2,C,E,F,G,H,J]
  refine Dj (Ak rd h4) X (Cv X) X (uf X) ?_;try simp only[h2,C,E,F,G,H,J]
  refine BL ?_;try simp only[h2,C,E,F,G,H,J]
  refine E7 (cs':= [.own 1216,aI r4,.own 152704,.nil]) X X X X ?_;try simp only[h2,C,E,F,G,H,J]
  refine E7 (cs':= [.own 1216,aI r4,.own 152704,.own 152768]) X X X X ?_;try simp only[h2,C,E,F,G,H,J]
  refine C3 ?_;obtain⟨r5,h5,h⟩:=ob h;try simp only[h2,C,E,F,G,H,J]
  refine IL (rW h5) 24 [152704,152768] rfl X X X (by decide) X X X ?_;try simp only[h2,C,E,F,G,H,J]
  refine At ?_;try simp only[h2,C,E,F,G,H,J]
  cases h;trivial
 ·try simp only[h2,C,E,F,G,H,J]
  cases h;trivial
instance ya:Ct 132 (∀{a0} {a1} {a2} {a3} {r},E1 a0 a1 a2 a3=N r→FC Z 132 [.sc (.int .i64 a0),.sc (.sl (Y rI a1)),.sc (.sl (Y zB a2)),.sc (.int .i64 a3)] [.sc (.v (.bool r))]):=by
 refine⟨fun h=> ?_⟩;unfold E1 at h;refine A5 mixed h0 [8] 27 ?_;exact gc
def SD:Hw:=([(8,[2,5,6,13,14,15],[2],[704,768])],[])
def XR:=fun a1 (a0:X3) (k_:U→(P X2)→(P Xb)→Q V)=>∀{v1 v2 v3} {zr},k_ v1 v2 v3=N zr→Kh Z 99 SD 8 [2,5,6,13,14,15] [2] [704,768] ⟨[pB 2,pW 5 704,pW 6 768,pL 13 X0.row a1,pI 14 (a1.length:U),pI 15 v1],[(2,(dm a0.row))],[(704,5,Y X2.row v2),(768,4,Y zB v3)]⟩ (A9 [4] [.sc (.v (.bool zr))])
theorem tp{a1 a0}{n:W}:XR a1 a0 (Dy a1 a0 n):=by
 induction n with
 | zero=>intro _ _ _ r h; cases h
 | succ n ih=>
  intro v1 v2 v3 r h σ hσ;rw[Dy] at h;have s0:=fun(r10:Xb)=> @Ay (Y zB ([r10]:P Xb))
  exact gc
instance rZ:Ct 99 (∀{a0} {a1} {r},E2 a0 a1=N r→FC Z 99 [.ag (X3.row a0),.sc (.sl (Y X0.row a1))] [.sc (.v (.bool r))]):=by
 refine⟨fun h=> ?_⟩;unfold E2 at h;refine A5 mixed SD [4] 79 ?_;have s0:= @Ay (Y X2.row ([]:P X2));have s1:= @Ay (Y zB ([]:P Xb));have k0:= @tp;exact gc
def M2:P (P W × AItem):= [([],(O,.load 25 (S 3) T 12)),([],(O,.mv 26 (S 1))),([1],(O,.call 27 100 [(S 26)])),([],(O,.load 28 (S 5) T 4)),([3],(O,.bslice 29 4 [.int .i64 0,.int .i64 0,.int .i64 0,.sl []] 1 [(0,(S 28))])),([2,4,2],(O,.app 30 4 48 (S 27) (S 29))),([0,5,5],(O,.call 31 99 [(S 25),(S 30)])),([6,6,0,1,2,3,4,5,6],(O,.mv 6 (S 31)))]
def SE:Hw:=([(6,[1,3,5,9,10,11],[3,5],[])],[])
abbrev BW(a1:P X0)(a0:X3)(a2:X0)(r9:V)(wo2_:AV)(c0_ c1_:V)(c2_ c3_:V)(c4_ c5_:V)(c6_ c7_:V)(bx_:P (W × P AC))(rs_:Rows):St:=⟨[(1,vc (aL (Y X0.row a1))),(3,vc (.pb 3 0)),(5,vc (.pb 5 0)),(25,bif c0_ then va (dm a0.row) else .undef),(26,bif c1_ then vc (aL (Y X0.row a1)) else .undef),(27,bif c2_ then wo2_ else .undef),(28,bif c3_ then va (dm a2.row) else .undef),(29,bif c4_ then vc (.own 1856) else .undef),(30,bif c5_ then vc (.own 1728) else .undef),(31,bif c6_ then vc (aB r9) else .undef),(6,bif c7_ then vc (aB r9) else .undef)],bx_,rs_⟩
abbrev HK(a1:P X0)(a0:X3)(a2:X0)(r6:(P X0))(r9:V):St:=(BW a1 a0 a2 r9 (vc (.undef)) T T T T T T T T [(3,(dm a0.row)),(5,(dm a2.row))] [(1728,4,Y X0.row (r6++([a2]:P X0))),(1856,4,Y X0.row ([a2]:P X0))])
theorem tq(a1 a0 a2 r6 r9)(h6:E0 a1=N r6)(h7:(A7 r6.length ([a2]:P X0).length 48)=T)(h9:E2 a0 (r6++([a2]:P X0))=N r9):∀(f:W) (b0 b6 b7:V),Af Z M2 (HK a1 a0 a2 r6 r9) f [b0,T,T,T,T,T,b6,b7] (BW a1 a0 a2 r9 (vc (.undef)) b0 T T T T T b6 b7 [(3,(dm a0.row)),(5,(dm a2.row))] [(1728,4,Y X0.row (r6++([a2]:P X0))),(1856,4,Y X0.row ([a2]:P X0))]):=by
 intro f
 induction f with
 | zero=>
  intro b0 b6 b7 h;obtain rfl:b0=T:=zA.1 h b0 (by simp);obtain rfl:b6=T:=zA.1 h b6 (by simp);obtain rfl:b7=T:=zA.1 h b7 (by simp);rfl
 | succ f ih=>
  intro b0 b6 b7;refine Aj ⟨?_,?_,?_,?_,?_,?_,?_,?_,⟨⟩⟩<;>try first | (intro h; cases h; done) | (intro h0 hw; obtain rfl:=hz h0 rfl; (try obtain rfl:=hq hw 0 rfl rfl); (try obtain rfl:=hq hw 6 rfl rfl); refine np ?_; simp only[BW,A3,A6,A2,C,E,F,G,H,J]; exact ih _ _ _)
  ·intro h0 hw;obtain rfl:=hz h0 rfl;obtain rfl:=hq hw 0 rfl rfl;refine np ?_;try simp only[BW,A3,A6,A2,C,E,F,G,H,J]
   refine Dj (Ak rZ h9) X (Cv X) (by simp only[St.fresh,zC,zD,Bf]; simp[AV.cells,V1.cells,AC.uses]) (uf X) ?_;try simp only[A2,C,E,F,G,H,J]
   exact ih T T b7
theorem VT(a1 a0 a2 r6 r9)(h6:E0 a1=N r6)(h7:(A7 r6.length ([a2]:P X0).length 48)=T)(h9:E2 a0 (r6++([a2]:P X0))=N r9):∀(f:W) (b0:V),Af Z M2 (HK a1 a0 a2 r6 r9) f [b0,T,T,T,T,L,L,L] (BW a1 a0 a2 r9 (vc (.own 1728)) b0 T T T T L L L [(3,(dm a0.row)),(5,(dm a2.row))] [(1728,4,Y X0.row r6),(1856,4,Y X0.row ([a2]:P X0))]):=by
 intro f
 induction f with
 | zero=>intro b0 h; simp at h
 | succ f ih=>
  intro b0;refine Aj ⟨?_,?_,?_,?_,?_,?_,?_,?_,⟨⟩⟩<;>try first | (intro h; cases h; done) | (intro _ hw; simp at hw; done) | (intro h0 hw; obtain rfl:=hz h0 rfl; refine np ?_; simp only[BW,A3,A6,A2,C,E,F,G,H,J]; exact ih _)
  ·intro h0 hw;refine np ?_;try simp only[h7,BW,A3,A6,A2,C,E,F,G,H,J]
   exact tq a1 a0 a2 r6 r9 h6 h7 h9 _ b0 L L
theorem tr(a1 a0 a2 r6 r9)(h6:E0 a1=N r6)(h7:(A7 r6.length ([a2]:P X0).length 48)=T)(h9:E2 a0 (r6++([a2]:P X0))=N r9):∀(f:W) (b0 b3:V),Af Z M2 (HK a1 a0 a2 r6 r9) f [b0,T,T,b3,L,L,L,L] (BW a1 a0 a2 r9 (vc (.own 1728)) b0 T T b3 L L L L [(3,(dm a0.row)),(5,(dm a2.row))] [(1728,4,Y X0.row r6)]):=by
 intro f
 induction f with
 | zero=>intro b0 b3 h; simp at h
 | succ f ih=>
  intro b0 b3;refine Aj ⟨?_,?_,?_,?_,?_,?_,?_,?_,⟨⟩⟩<;>try first | (intro h; cases h; done) | (intro _ hw; simp at hw; done) | (intro h0 hw; obtain rfl:=hz h0 rfl; refine np ?_; simp only[BW,A3,A6,A2,C,E,F,G,H,J]; exact ih _ _)
  ·intro h0 hw;obtain rfl:=hq hw 3 rfl rfl;refine np ?_;try simp only[BW,A3,A6,A2,C,E,F,G,H,J]
   refine Ce (es:=Y X0.row ([a2]:P X0)) X (by simp only[St.fresh,zC,zD,Bf]; simp[AV.cells,V1.cells,AC.uses]) ?_;try simp only[A2,C,E,F,G,H,J]
   exact VT a1 a0 a2 r6 r9 h6 h7 h9 _ b0
theorem tu(a1 a0 a2 r6 r9)(h6:E0 a1=N r6)(h7:(A7 r6.length ([a2]:P X0).length 48)=T)(h9:E2 a0 (r6++([a2]:P X0))=N r9):∀(f:W) (b0 b1:V),Af Z M2 (HK a1 a0 a2 r6 r9) f [b0,b1,L,T,T,L,L,L] (BW a1 a0 a2 r9 (vc (.own 1728)) b0 b1 L T T L L L [(3,(dm a0.row)),(5,(dm a2.row))] [(1856,4,Y X0.row ([a2]:P X0))]):=by
 intro f
 induction f with
 | zero=>intro b0 b1 h; simp at h
 | succ f ih=>
  intro b0 b1;refine Aj ⟨?_,?_,?_,?_,?_,?_,?_,?_,⟨⟩⟩<;>try first | (intro h; cases h; done) | (intro _ hw; simp at hw; done) | (intro h0 hw; obtain rfl:=hz h0 rfl; refine np ?_; simp only[BW,A3,A6,A2,C,E,F,G,H,J]; exact ih _ _)
  ·intro h0 hw;obtain rfl:=hq hw 1 rfl rfl;refine⟨[],[(O,.keep [1,3,5,25,26,27,28,29,30,31,6] [3,5] [1728,1856])],X,X,?_⟩;try simp only[BW,A3,A6,zF,zE,A2,C,E,F,G,H,J]
   refine IK (Ak VH h6) X (by simp only[St.fresh,zC,zD,Bf]; simp[AV.cells,V1.cells,AC.uses]) (uf X) ?_;try simp only[A2,C,E,F,G,H,J]
   exact VT a1 a0 a2 r6 r9 h6 h7 h9 _ b0
theorem tv(a1 a0 a2 r6 r9)(h6:E0 a1=N r6)(h7:(A7 r6.length ([a2]:P X0).length 48)=T)(h9:E2 a0 (r6++([a2]:P X0))=N r9):∀(f:W) (b0 b1 b3:V),Af Z M2 (HK a1 a0 a2 r6 r9) f [b0,b1,L,b3,L,L,L,L] (BW a1 a0 a2 r9 (vc (.own 1728)) b0 b1 L b3 L L L L [(3,(dm a0.row)),(5,(dm a2.row))] []):=by
 intro f
 induction f with
 | zero=>intro b0 b1 b3 h; simp at h
 | succ f ih=>
  intro b0 b1 b3;refine Aj ⟨?_,?_,?_,?_,?_,?_,?_,?_,⟨⟩⟩<;>try first | (intro _ hw; simp at hw; done) | (intro h0 hw; obtain rfl:=hz h0 rfl; refine np ?_; simp only[BW,A3,A6,A2,C,E,F,G,H,J]; exact ih _ _ _)
  ·intro h0 hw;obtain rfl:=hq hw 1 rfl rfl;refine np ?_;try simp only[BW,A3,A6,A2,C,E,F,G,H,J]
   refine IK (Ak VH h6) X (by simp only[St.fresh,zC,zD,Bf]; simp[AV.cells,V1.cells,AC.uses]) (uf X) ?_;try simp only[A2,C,E,F,G,H,J]
   exact tr a1 a0 a2 r6 r9 h6 h7 h9 _ b0 b3
  ·intro h0 hw;obtain rfl:=hq hw 3 rfl rfl;refine np ?_;try simp only[BW,A3,A6,A2,C,E,F,G,H,J]
   refine Ce (es:=Y X0.row ([a2]:P X0)) X (by simp only[St.fresh,zC,zD,Bf]; simp[AV.cells,V1.cells,AC.uses]) ?_;try simp only[A2,C,E,F,G,H,J]
   exact tu a1 a0 a2 r6 r9 h6 h7 h9 _ b0 b1
def XS:=fun a1 (a0:X3) (a2:X0) (k_:U→Q V)=>∀{v1} {zr},k_ v1=N zr→Kh Z 53 SE 6 [1,3,5,9,10,11] [3,5] [] ⟨[pL 1 X0.row a1,pB 3,pB 5,pL 9 X0.row a1,pI 10 (a1.length:U),pI 11 v1],[(3,(dm a0.row)),(5,(dm a2.row))],[]⟩ (A9 [6] [.sc (.v (.bool zr))])
theorem tw{a1 a0 a2}{n:W}:XS a1 a0 a2 (E3 a1 a0 a2 n):=by
 induction n with
 | zero=>intro _ r h; cases h
 | succ n ih=>
  intro v1 r h σ hσ S hS;refine ev hS ?_;rw[E3] at h;refine AP (Aw ?_);obtain⟨h2,h⟩|⟨h2,h⟩:=ic h
  ·obtain⟨x3,h3,h⟩:=ob h;try simp only[hσ,h2,h3,C,E,F,G,H,J]
   refine AK ?_;obtain⟨r4,h4,h⟩:=ob h;try simp only[h2,h3,C,E,F,G,H,J]
   refine AM (Ak Qo h4) ?_;obtain⟨h5,h⟩|⟨h5,h⟩:=ic h
   ·try simp only[h2,h3,h5,C,E,F,G,H,J]
    cases h;exact t0
   ·try simp only[h2,h3,h5,C,E,F,G,H,J]
    refine ih h ?_ (by kernel_rfl);try simp only[h2,h3,h5,C,E,F,G,H,J,pL,aM,I]
  ·try simp only[hσ,h2,C,E,F,G,H,J]
   obtain⟨r6,h6,h⟩:=ob h;obtain⟨h7,h⟩:=AQ h;obtain⟨r9,h9,h⟩:=ob h;refine D3 (ks:= [1,3,5]) (bs:= [3,5]) (rs:= []) (τ:=(HK a1 a0 a2 r6 r9)) X (tv a1 a0 a2 r6 r9 h6 h7 h9 _ L L L) ?_;simp only[HK,BW,A3];try simp only[h2,h7,C,E,F,G,H,J]
   cases h;exact t0
instance ra:Ct 53 (∀{a0} {a1} {a2} {r},EM a0 a1 a2=N r→FC Z 53 [.ag (X3.row a0),.sc (.sl (Y X0.row a1)),.ag (X0.row a2)] [.sc (.v (.bool r))]):=by
 refine⟨fun h=> ?_⟩;unfold EM at h;refine A5 mixed SE [6] 32 ?_;have k0:= @tw;exact gc
def M3:P (P W × AItem):= [([],(O,.mv 40 (S 0))),([],(O,.mv 41 (S 0))),([],(O,.mv 42 (S 0))),([],(O,.mv 43 (S 0))),([3],(O,.nilc 44 (S 43))),([4],(O,.faddr 45 (S 44) 15)),([5],(O,.load 46 (S 45) L 1)),([6],(O,.call 47 47 [(S 46)])),([],(O,.load 48 (S 2) T 2)),([0,0,3,4,5,6,7],(O,.nilc 49 (S 40))),([9,0,3,4,5,6,7],(O,.faddr 50 (S 49) 16)),([10,7,7,0,3,4,5,6,7],(O,.store (S 50) (S 47) 1)),([1,0,1,3,4,5,6,7,8,9,10,11],(O,.nilc 51 (S 41))),([12,0,1,3,4,5,6,7,8,9,10,11],(O,.faddr 52 (S 51) 17)),([13,8,11,0,1,3,4,5,6,7,8,9,10,11],(O,.store (S 52) (S 48) 2)),([2,0,1,2,3,4,5,6,7,8,9,10,11,12,13,14],(O,.nilc 53 (S 42))),([15,0,1,2,3,4,5,6,7,8,9,10,11,12,13,14],(O,.faddr 54 (S 53) 19)),([16,14,0,1,2,3,4,5,6,7,8,9,10,11,12,13,14],(O,.store (S 54) (KB T) 1))]
def Fc:P (P W × AItem):= [([],(O,.mv 79 (S 0))),([],(O,.mv 80 (S 0))),([],(O,.mv 81 (S 0))),([2],(O,.nilc 82 (S 81))),([3],(O,.faddr 83 (S 82) 14)),([4],(O,.load 84 (S 83) L 1)),([],(O,.load 85 (S 5) T 4)),([6],(O,.bslice 86 4 [.int .i64 0,.int .i64 0,.int .i64 0,.sl []] 1 [(0,(S 85))])),([5,7],(O,.app 87 4 48 (S 84) (S 86))),([],(O,.mv 88 (S 0))),([9],(O,.nilc 89 (S 88))),([10],(O,.faddr 90 (S 89) 15)),([11],(O,.load 91 (S 90) L 1)),([],(O,.mv 92 (S 4))),([13],(O,.bslice 93 1 [.int .i64 0] 1 [(0,(S 92))])),([12,14,8],(O,.app 94 1 8 (S 91) (S 93))),([0,0,2,3,4,5,6,7,8,12,15],(O,.nilc 95 (S 79))),([16,0,2,3,4,5,6,7,8,12,15],(O,.faddr 96 (S 95) 14)),([17,8,15,0,2,3,4,5,6,7,8,12,15],(O,.store (S 96) (S 87) 1)),([1,0,1,2,3,4,5,6,7,8,9,10,11,12,13,14,15,16,17,18],(O,.nilc 97 (S 80))),([19,0,1,2,3,4,5,6,7,8,9,10,11,12,13,14,15,16,17,18],(O,.faddr 98 (S 97) 15)),([20,15,18,0,1,2,3,4,5,6,7,8,9,10,11,12,13,14,15,16,17,18],(O,.store (S 98) (S 94) 1))]
def HR:P (P W × AItem):= [([],(O,.mv 101 (S 0))),([],(O,.mv 102 (S 0))),([],(O,.mv 103 (S 0))),([2],(O,.nilc 104 (S 103))),([3],(O,.faddr 105 (S 104) 14)),([4],(O,.load 106 (S 105) L 1)),([],(O,.mv 107 (S 3))),([5,6],(O,.slc 108 4 (S 106) O (N (S 107)) O)),([],(O,.mv 109 (S 0))),([8],(O,.nilc 110 (S 109))),([9],(O,.faddr 111 (S 110) 15)),([10],(O,.load 112 (S 111) L 1)),([],(O,.mv 113 (S 3))),([11,12],(O,.slc 114 1 (S 112) O (N (S 113)) O)),([0,0,2,3,4,5,6,7,11],(O,.nilc 115 (S 101))),([14,0,2,3,4,5,6,7,11],(O,.faddr 116 (S 115) 14)),([15,7,0,2,3,4,5,6,7,11],(O,.store (S 116) (S 108) 1)),([1,0,1,2,3,4,5,6,7,8,9,10,11,12,13,14,15,16],(O,.nilc 117 (S 102))),([17,0,1,2,3,4,5,6,7,8,9,10,11,12,13,14,15,16],(O,.faddr 118 (S 117) 15)),([18,13,16,0,1,2,3,4,5,6,7,8,9,10,11,12,13,14,15,16],(O,.store (S 118) (S 114) 1))]
def Ng:Hw:=([(8,[0,2],[99999999999,2],[90000,90001,90002]),(21,[0,3,61,62,63],[99999999999],[90000,90001,90002])],[])
abbrev Ck(r1:Xi)(c0_ c1_:V)(c2_ c3_:V)(c4_ c5_:V)(c6_ c7_:V)(c8_ c9_:V)(c10_ c12_:V)(c13_ c15_ c16_:V)(bx_:P (W × P AC))(rs_:Rows):St:=⟨[(0,vc (.pb 99999999999 0)),(2,vc (.pb 2 0)),(40,bif c0_ then vc (.pb 99999999999 0) else .undef),(41,bif c1_ then vc (.pb 99999999999 0) else .undef),(42,bif c2_ then vc (.pb 99999999999 0) else .undef),(43,bif c3_ then vc (.pb 99999999999 0) else .undef),(44,bif c4_ then vc (.pb 99999999999 0) else .undef),(45,bif c5_ then vc (.pb 99999999999 15) else .undef),(46,bif c6_ then vc (.own 90001) else .undef),(47,bif c7_ then vc (.own 3008) else .undef),(48,bif c8_ then va [aI r1.i0,aI r1.i1] else .undef),(49,bif c9_ then vc (.pb 99999999999 0) else .undef),(50,bif c10_ then vc (.pb 99999999999 16) else .undef),(51,bif c12_ then vc (.pb 99999999999 0) else .undef),(52,bif c13_ then vc (.pb 99999999999 17) else .undef),(53,bif c15_ then vc (.pb 99999999999 0) else .undef),(54,bif c16_ then vc (.pb 99999999999 19) else .undef)],bx_,rs_⟩
abbrev HL(F_w0:FuncId)(caps_w0:P D)(a0:Xc)(r1:Xi)(r7:(P U)):St:=(Ck r1 T T T T T T T T T T T T T T T [(99999999999,(dm a0.h.row++ [aL (Y (rL X0.row) a0.choices),.dat (.clo F_w0 caps_w0),.own 90000,.own 90001,.own 3008,aI r1.i0,aI r1.i1,aB T])),(2,[aI r1.i0,aI r1.i1])] [(90000,4,Y X0.row a0.plan),(90001,1,Y rI a0.choice),(90002,1,Y rI a0.best),(3008,1,Y rI r7)])
theorem tx(F_w0:FuncId)(caps_w0:P D)(a0:Xc)(r1:Xi)(v5:V)(r7)(h7:Bn a0.choice=N r7):∀(f:W) (b15:V),Af Z M3 (HL F_w0 caps_w0 a0 r1 r7) f [T,T,T,T,T,T,T,T,T,T,T,T,T,T,T,b15,T,T] (Ck r1 T T T T T T T T T T T T T b15 T [(99999999999,(dm a0.h.row++ [aL (Y (rL X0.row) a0.choices),.dat (.clo F_w0 caps_w0),.own 90000,.own 90001,.own 3008,aI r1.i0,aI r1.i1,aB T])),(2,[aI r1.i0,aI r1.i1])] [(90000,4,Y X0.row a0.plan),(90001,1,Y rI a0.choice),(90002,1,Y rI a0.best),(3008,1,Y rI r7)]):=by
 intro f
 induction f with
 | zero=>
  intro b15 h;obtain rfl:b15=T:=zA.1 h b15 (by simp);rfl
 | succ f ih=>
  intro b15;refine Aj ⟨?_,?_,?_,?_,?_,?_,?_,?_,?_,?_,?_,?_,?_,?_,?_,?_,?_,?_,⟨⟩⟩<;>try first | (intro h; cases h; done) | (intro h0 hw; obtain rfl:=hz h0 rfl; refine np ?_; simp only[Ck,A3,A6,A2,C,E,F,G,H,J]; exact ih _)
theorem uA(F_w0:FuncId)(caps_w0:P D)(a0:Xc)(r1:Xi)(v5:V)(r7)(h7:Bn a0.choice=N r7):∀(f:W) (b2 b12:V) (b15 b16:V),Af Z M3 (HL F_w0 caps_w0 a0 r1 r7) f [T,T,b2,T,T,T,T,T,T,T,T,T,b12,T,T,b15,b16,L] (Ck r1 T T b2 T T T T T T T T b12 T b15 b16 [(99999999999,(dm a0.h.row++ [aL (Y (rL X0.row) a0.choices),.dat (.clo F_w0 caps_w0),.own 90000,.own 90001,.own 3008,aI r1.i0,aI r1.i1,aB v5])),(2,[aI r1.i0,aI r1.i1])] [(90000,4,Y X0.row a0.plan),(90001,1,Y rI a0.choice),(90002,1,Y rI a0.best),(3008,1,Y rI r7)]):=by
 intro f
 induction f with
 | zero=>intro b2 b12 b15 b16 h; simp at h
 | succ f ih=>
  intro b2 b12 b15 b16;refine Aj ⟨?_,?_,?_,?_,?_,?_,?_,?_,?_,?_,?_,?_,?_,?_,?_,?_,?_,?_,⟨⟩⟩<;>try first | (intro h; cases h; done) | (intro h0 hw; obtain rfl:=hz h0 rfl; (try obtain rfl:=hq hw 2 rfl rfl); (try obtain rfl:=hq hw 12 rfl rfl); (try obtain rfl:=hq hw 15 rfl rfl); refine np ?_; simp only[Ck,A3,A6,A2,C,E,F,G,H,J]; exact ih _ _ _ _)
  ·intro h0 hw;obtain rfl:=hq hw 2 rfl rfl;obtain rfl:=hq hw 12 rfl rfl;obtain rfl:=hq hw 16 rfl rfl;refine np ?_;try simp only[Ck,A3,A6,A2,C,E,F,G,H,J]
   exact tx F_w0 caps_w0 a0 r1 v5 r7 h7 _ b15
theorem uB(F_w0:FuncId)(caps_w0:P D)(a0:Xc)(r1:Xi)(v5:V)(r7)(h7:Bn a0.choice=N r7):∀(f:W) (b1 b2:V) (b8 b9:V) (b12 b13:V),Af Z M3 (HL F_w0 caps_w0 a0 r1 r7) f [T,b1,b2,T,T,T,T,T,b8,b9,T,T,b12,b13,L,L,L,L] (Ck r1 T b1 b2 T T T T T b8 b9 T b12 b13 L L [(99999999999,(dm a0.h.row++ [aL (Y (rL X0.row) a0.choices),.dat (.clo F_w0 caps_w0),.own 90000,.own 90001,.own 3008,aI a0.least.i0,aI a0.least.i1,aB v5])),(2,[aI r1.i0,aI r1.i1])] [(90000,4,Y X0.row a0.plan),(90001,1,Y rI a0.choice),(90002,1,Y rI a0.best),(3008,1,Y rI r7)]):=by
 intro f
 induction f with
 | zero=>intro b1 b2 b8 b9 b12 b13 h; simp at h
 | succ f ih=>
  intro b1 b2 b8 b9 b12 b13;refine Aj ⟨?_,?_,?_,?_,?_,?_,?_,?_,?_,?_,?_,?_,?_,?_,?_,?_,?_,?_,⟨⟩⟩<;>try first | (intro h; cases h; done) | (intro _ hw; simp at hw; done) | (intro h0 hw; obtain rfl:=hz h0 rfl; (try obtain rfl:=hq hw 1 rfl rfl); (try obtain rfl:=hq hw 8 rfl rfl); (try obtain rfl:=hq hw 9 rfl rfl); (try obtain rfl:=hq hw 12 rfl rfl); refine np ?_; simp only[Ck,A3,A6,A2,C,E,F,G,H,J]; exact ih _ _ _ _ _ _)
  ·intro h0 hw;obtain rfl:=hq hw 1 rfl rfl;obtain rfl:=hq hw 8 rfl rfl;obtain rfl:=hq hw 9 rfl rfl;obtain rfl:=hq hw 13 rfl rfl;refine np ?_;try simp only[Ck,A3,A6,A2,C,E,F,G,H,J]
   exact uA F_w0 caps_w0 a0 r1 v5 r7 h7 _ b2 b12 L L
theorem uC(F_w0:FuncId)(caps_w0:P D)(a0:Xc)(r1:Xi)(v5:V)(r7)(h7:Bn a0.choice=N r7):∀(f:W) (b0 b1:V) (b2 b3:V) (b4 b5:V) (b8 b9 b10:V),Af Z M3 (HL F_w0 caps_w0 a0 r1 r7) f [b0,b1,b2,b3,b4,b5,T,T,b8,b9,b10,L,L,L,L,L,L,L] (Ck r1 b0 b1 b2 b3 b4 b5 T T b8 b9 b10 L L L L [(99999999999,(dm a0.h.row++ [aL (Y (rL X0.row) a0.choices),.dat (.clo F_w0 caps_w0),.own 90000,.own 90001,.own 90002,aI a0.least.i0,aI a0.least.i1,aB v5])),(2,[aI r1.i0,aI r1.i1])] [(90000,4,Y X0.row a0.plan),(90001,1,Y rI a0.choice),(90002,1,Y rI a0.best),(3008,1,Y rI r7)]):=by
 intro f
 induction f with
 | zero=>intro b0 b1 b2 b3 b4 b5 b8 b9 b10 h; simp at h
 | succ f ih=>
  intro b0 b1 b2 b3 b4 b5 b8 b9 b10;refine Aj ⟨?_,?_,?_,?_,?_,?_,?_,?_,?_,?_,?_,?_,?_,?_,?_,?_,?_,?_,⟨⟩⟩<;>try first | (intro h; cases h; done) | (intro _ hw; simp at hw; done) | (intro h0 hw; obtain rfl:=hz h0 rfl; (try obtain rfl:=hq hw 0 rfl rfl); (try obtain rfl:=hq hw 3 rfl rfl); (try obtain rfl:=hq hw 4 rfl rfl); (try obtain rfl:=hq hw 5 rfl rfl); (try obtain rfl:=hq hw 9 rfl rfl); refine np ?_; simp only[Ck,A3,A6,A2,C,E,F,G,H,J]; exact ih _ _ _ _ _ _ _ _ _)
  ·intro h0 hw;obtain rfl:=hq hw 0 rfl rfl;obtain rfl:=hq hw 3 rfl rfl;obtain rfl:=hq hw 4 rfl rfl;obtain rfl:=hq hw 5 rfl rfl;obtain rfl:=hq hw 10 rfl rfl;refine np ?_;try simp only[Ck,A3,A6,A2,C,E,F,G,H,J]
   exact uB F_w0 caps_w0 a0 r1 v5 r7 h7 _ b1 b2 b8 b9 L L
theorem uD(F_w0:FuncId)(caps_w0:P D)(a0:Xc)(r1:Xi)(v5:V)(r7)(h7:Bn a0.choice=N r7):∀(f:W) (b0 b1:V) (b2 b3:V) (b4 b5:V) (b6 b8:V),Af Z M3 (HL F_w0 caps_w0 a0 r1 r7) f [b0,b1,b2,b3,b4,b5,b6,L,b8,L,L,L,L,L,L,L,L,L] (Ck r1 b0 b1 b2 b3 b4 b5 b6 L b8 L L L L L L [(99999999999,(dm a0.h.row++ [aL (Y (rL X0.row) a0.choices),.dat (.clo F_w0 caps_w0),.own 90000,.own 90001,.own 90002,aI a0.least.i0,aI a0.least.i1,aB v5])),(2,[aI r1.i0,aI r1.i1])] [(90000,4,Y X0.row a0.plan),(90001,1,Y rI a0.choice),(90002,1,Y rI a0.best)]):=by
 intro f
 induction f with
 | zero=>intro b0 b1 b2 b3 b4 b5 b6 b8 h; simp at h
 | succ f ih=>
  intro b0 b1 b2 b3 b4 b5 b6 b8;refine Aj ⟨?_,?_,?_,?_,?_,?_,?_,?_,?_,?_,?_,?_,?_,?_,?_,?_,?_,?_,⟨⟩⟩<;>try first | (intro _ hw; simp at hw; done) | (intro h0 hw; obtain rfl:=hz h0 rfl; (try obtain rfl:=hq hw 3 rfl rfl); (try obtain rfl:=hq hw 4 rfl rfl); (try obtain rfl:=hq hw 5 rfl rfl); refine np ?_; simp only[Ck,A3,A6,A2,C,E,F,G,H,J]; exact ih _ _ _ _ _ _ _ _)
  ·intro h0 hw;obtain rfl:=hq hw 6 rfl rfl;refine np ?_;try simp only[Ck,A3,A6,A2,C,E,F,G,H,J]
   refine Dj (Ak Oa h7) X (D1 X ⟨D2,⟨⟩⟩) (by simp only[St.fresh,zC,zD,Bf]; simp[AV.cells,V1.cells,AC.uses]) (uf X) ?_;try simp only[A2,C,E,F,G,H,J]
   exact uC F_w0 caps_w0 a0 r1 v5 r7 h7 _ b0 b1 b2 b3 b4 b5 b8 L L
abbrev B2(a0:Xc)(x8:P X0)(v9:U)(x19:X0)(wo5_ wo12_:AV)(c0_ c1_:V)(c2_ c3_:V)(c4_ c5_:V)(c6_ c7_:V)(c8_ c9_:V)(c10_ c11_:V)(c12_ c13_:V)(c14_ c15_:V)(c16_ c17_:V)(c19_ c20_:V)(bx_:P (W × P AC))(rs_:Rows):St:=⟨[(0,vc (.pb 99999999999 0)),(3,vc (aI (a0.plan.length:U))),(4,vc (aI v9)),(5,vc (.pb 5 0)),(61,vc (aL (Y X0.row x8))),(62,vc (aI (x8.length:U))),(63,vc (aI v9)),(79,bif c0_ then vc (.pb 99999999999 0) else .undef),(80,bif c1_ then vc (.pb 99999999999 0) else .undef),(81,bif c2_ then vc (.pb 99999999999 0) else .undef),(82,bif c3_ then vc (.pb 99999999999 0) else .undef),(83,bif c4_ then vc (.pb 99999999999 14) else .undef),(84,bif c5_ then wo5_ else .undef),(85,bif c6_ then va (dm x19.row) else .undef),(86,bif c7_ then vc (.own 5504) else .undef),(87,bif c8_ then vc (.own 90000) else .undef),(88,bif c9_ then vc (.pb 99999999999 0) else .undef),(89,bif c10_ then vc (.pb 99999999999 0) else .undef),(90,bif c11_ then vc (.pb 99999999999 15) else .undef),(91,bif c12_ then wo12_ else .undef),(92,bif c13_ then vc (aI v9) else .undef),(93,bif c14_ then vc (.own 5952) else .undef),(94,bif c15_ then vc (.own 90001) else .undef),(95,bif c16_ then vc (.pb 99999999999 0) else .undef),(96,bif c17_ then vc (.pb 99999999999 14) else .undef),(97,bif c19_ then vc (.pb 99999999999 0) else .undef),(98,bif c20_ then vc (.pb 99999999999 15) else .undef)],bx_,rs_⟩
abbrev DL(F_w0:FuncId)(caps_w0:P D)(a0:Xc)(x8:P X0)(v9:U)(v10:X3)(v11:P (P X0))(v12 v13:U)(v14:V)(v15:P X0)(v16 v17:P U)(x19:X0):St:=(B2 a0 x8 v9 x19 (vc (.undef)) (vc (.undef)) T T T T T T T T T T T T T T T T T T T T [(99999999999,(dm v10.row++ [aL (Y (rL X0.row) v11),.dat (.clo F_w0 caps_w0),.own 90000,.own 90001,.own 90002,aI v12,aI v13,aB v14])),(5,(dm x19.row))] [(90000,4,Y X0.row (v15++([x19]:P X0))),(90001,1,Y rI (v16++([v9]:P U))),(90002,1,Y rI v17),(5504,4,Y X0.row ([x19]:P X0)),(5952,1,Y rI ([v9]:P U))])
theorem uE(F_w0:FuncId)(caps_w0:P D)(a0:Xc)(x8:P X0)(v9)(v10:X3)(v11)(v12)(v13)(v14)(v15:P X0)(v16:P U)(v17)(x19)(h22:(A7 v15.length ([x19]:P X0).length 48)=T)(h23:(A7 v16.length ([v9]:P U).length 8)=T):∀(f:W) (b19:V),Af Z Fc (DL F_w0 caps_w0 a0 x8 v9 v10 v11 v12 v13 v14 v15 v16 v17 x19) f [T,T,T,T,T,T,T,T,T,T,T,T,T,T,T,T,T,T,T,b19,T,T] (B2 a0 x8 v9 x19 (vc (.undef)) (vc (.undef)) T T T T T T T T T T T T T T T T T T b19 T [(99999999999,(dm v10.row++ [aL (Y (rL X0.row) v11),.dat (.clo F_w0 caps_w0),.own 90000,.own 90001,.own 90002,aI v12,aI v13,aB v14])),(5,(dm x19.row))] [(90000,4,Y X0.row (v15++([x19]:P X0))),(90001,1,Y rI (v16++([v9]:P U))),(90002,1,Y rI v17),(5504,4,Y X0.row ([x19]:P X0)),(5952,1,Y rI ([v9]:P U))]):=by
 intro f
 induction f with
 | zero=>
  intro b19 h;obtain rfl:b19=T:=zA.1 h b19 (by simp);rfl
 | succ f ih=>
  intro b19;refine Aj ⟨?_,?_,?_,?_,?_,?_,?_,?_,?_,?_,?_,?_,?_,?_,?_,?_,?_,?_,?_,?_,?_,?_,⟨⟩⟩<;>try first | (intro h; cases h; done) | (intro h0 hw; obtain rfl:=hz h0 rfl; refine np ?_; simp only[B2,A3,A6,A2,C,E,F,G,H,J]; exact ih _)
theorem uF(F_w0:FuncId)(caps_w0:P D)(a0:Xc)(x8:P X0)(v9)(v10:X3)(v11)(v12)(v13)(v14)(v15:P X0)(v16:P U)(v17)(x19)(h22:(A7 v15.length ([x19]:P X0).length 48)=T)(h23:(A7 v16.length ([v9]:P U).length 8)=T):∀(f:W) (b1 b9:V) (b10 b11:V) (b16 b19 b20:V),Af Z Fc (DL F_w0 caps_w0 a0 x8 v9 v10 v11 v12 v13 v14 v15 v16 v17 x19) f [T,b1,T,T,T,T,T,T,T,b9,b10,b11,T,T,T,T,b16,T,T,b19,b20,L] (B2 a0 x8 v9 x19 (vc (.undef)) (vc (.undef)) T b1 T T T T T T T b9 b10 b11 T T T T b16 T b19 b20 [(99999999999,(dm v10.row++ [aL (Y (rL X0.row) v11),.dat (.clo F_w0 caps_w0),.own 90000,.undef,.own 90002,aI v12,aI v13,aB v14])),(5,(dm x19.row))] [(90000,4,Y X0.row (v15++([x19]:P X0))),(90001,1,Y rI (v16++([v9]:P U))),(90002,1,Y rI v17),(5504,4,Y X0.row ([x19]:P X0)),(5952,1,Y rI ([v9]:P U))]):=by
 intro f
 induction f with
 | zero=>intro b1 b9 b10 b11 b16 b19 b20 h; simp at h
 | succ f ih=>
  intro b1 b9 b10 b11 b16 b19 b20;refine Aj ⟨?_,?_,?_,?_,?_,?_,?_,?_,?_,?_,?_,?_,?_,?_,?_,?_,?_,?_,?_,?_,?_,?_,⟨⟩⟩<;>try first | (intro h; cases h; done) | (intro h0 hw; obtain rfl:=hz h0 rfl; (try obtain rfl:=hq hw 1 rfl rfl); (try obtain rfl:=hq hw 9 rfl rfl); (try obtain rfl:=hq hw 10 rfl rfl); (try obtain rfl:=hq hw 11 rfl rfl); (try obtain rfl:=hq hw 16 rfl rfl); (try obtain rfl:=hq hw 19 rfl rfl); refine np ?_; simp only[B2,A3,A6,A2,C,E,F,G,H,J]; exact ih _ _ _ _ _ _ _)
  ·intro h0 hw;obtain rfl:=hq hw 1 rfl rfl;obtain rfl:=hq hw 9 rfl rfl;obtain rfl:=hq hw 10 rfl rfl;obtain rfl:=hq hw 11 rfl rfl;obtain rfl:=hq hw 16 rfl rfl;obtain rfl:=hq hw 20 rfl rfl;refine np ?_;try simp only[B2,A3,A6,A2,C,E,F,G,H,J]
   exact uE F_w0 caps_w0 a0 x8 v9 v10 v11 v12 v13 v14 v15 v16 v17 x19 h22 h23 _ b19
theorem uG(F_w0:FuncId)(caps_w0:P D)(a0:Xc)(x8:P X0)(v9)(v10:X3)(v11)(v12)(v13)(v14)(v15:P X0)(v16:P U)(v17)(x19)(h22:(A7 v15.length ([x19]:P X0).length 48)=T)(h23:(A7 v16.length ([v9]:P U).length 8)=T):∀(f:W) (b0 b1:V) (b2 b3:V) (b4 b9:V) (b10 b11:V) (b16 b17:V),Af Z Fc (DL F_w0 caps_w0 a0 x8 v9 v10 v11 v12 v13 v14 v15 v16 v17 x19) f [b0,b1,b2,b3,b4,T,T,T,T,b9,b10,b11,T,T,T,T,b16,b17,L,L,L,L] (B2 a0 x8 v9 x19 (vc (.undef)) (vc (.undef)) b0 b1 b2 b3 b4 T T T T b9 b10 b11 T T T T b16 b17 L L [(99999999999,(dm v10.row++ [aL (Y (rL X0.row) v11),.dat (.clo F_w0 caps_w0),.undef,.undef,.own 90002,aI v12,aI v13,aB v14])),(5,(dm x19.row))] [(90000,4,Y X0.row (v15++([x19]:P X0))),(90001,1,Y rI (v16++([v9]:P U))),(90002,1,Y rI v17),(5504,4,Y X0.row ([x19]:P X0)),(5952,1,Y rI ([v9]:P U))]):=by
 intro f
 induction f with
 | zero=>intro b0 b1 b2 b3 b4 b9 b10 b11 b16 b17 h; simp at h
 | succ f ih=>
  intro b0 b1 b2 b3 b4 b9 b10 b11 b16 b17;refine Aj ⟨?_,?_,?_,?_,?_,?_,?_,?_,?_,?_,?_,?_,?_,?_,?_,?_,?_,?_,?_,?_,?_,?_,⟨⟩⟩<;>try first | (intro h; cases h; done) | (intro _ hw; simp at hw; done) | (intro h0 hw; obtain rfl:=hz h0 rfl; (try obtain rfl:=hq hw 0 rfl rfl); (try obtain rfl:=hq hw 2 rfl rfl); (try obtain rfl:=hq hw 3 rfl rfl); (try obtain rfl:=hq hw 4 rfl rfl); (try obtain rfl:=hq hw 9 rfl rfl); (try obtain rfl:=hq hw 10 rfl rfl); (try obtain rfl:=hq hw 16 rfl rfl); refine np ?_; simp only[B2,A3,A6,A2,C,E,F,G,H,J]; exact ih _ _ _ _ _ _ _ _ _ _)
  ·intro h0 hw;obtain rfl:=hq hw 0 rfl rfl;obtain rfl:=hq hw 2 rfl rfl;obtain rfl:=hq hw 3 rfl rfl;obtain rfl:=hq hw 4 rfl rfl;obtain rfl:=hq hw 17 rfl rfl;refine np ?_;try simp only[B2,A3,A6,A2,C,E,F,G,H,J]
   exact uF F_w0 caps_w0 a0 x8 v9 v10 v11 v12 v13 v14 v15 v16 v17 x19 h22 h23 _ b1 b9 b10 b11 b16 L L
theorem VU(F_w0:FuncId)(caps_w0:P D)(a0:Xc)(x8:P X0)(v9)(v10:X3)(v11)(v12)(v13)(v14)(v15:P X0)(v16:P U)(v17)(x19)(h22:(A7 v15.length ([x19]:P X0).length 48)=T)(h23:(A7 v16.length ([v9]:P U).length 8)=T):∀(f:W) (b0 b1:V) (b2 b3:V) (b4 b9:V) (b10 b11 b12:V),Af Z Fc (DL F_w0 caps_w0 a0 x8 v9 v10 v11 v12 v13 v14 v15 v16 v17 x19) f [b0,b1,b2,b3,b4,T,T,T,T,b9,b10,b11,b12,T,T,L,L,L,L,L,L,L] (B2 a0 x8 v9 x19 (vc (.undef)) (vc (.own 90001)) b0 b1 b2 b3 b4 T T T T b9 b10 b11 b12 T T L L L L L [(99999999999,(dm v10.row++ [aL (Y (rL X0.row) v11),.dat (.clo F_w0 caps_w0),.undef,.own 90001,.own 90002,aI v12,aI v13,aB v14])),(5,(dm x19.row))] [(90000,4,Y X0.row (v15++([x19]:P X0))),(90001,1,Y rI v16),(90002,1,Y rI v17),(5504,4,Y X0.row ([x19]:P X0)),(5952,1,Y rI ([v9]:P U))]):=by
 intro f
 induction f with
 | zero=>intro b0 b1 b2 b3 b4 b9 b10 b11 b12 h; simp at h
 | succ f ih=>
  intro b0 b1 b2 b3 b4 b9 b10 b11 b12;refine Aj ⟨?_,?_,?_,?_,?_,?_,?_,?_,?_,?_,?_,?_,?_,?_,?_,?_,?_,?_,?_,?_,?_,?_,⟨⟩⟩<;>try first | (intro h; cases h; done) | (intro _ hw; simp at hw; done) | (intro h0 hw; obtain rfl:=hz h0 rfl; (try obtain rfl:=hq hw 2 rfl rfl); (try obtain rfl:=hq hw 3 rfl rfl); (try obtain rfl:=hq hw 9 rfl rfl); (try obtain rfl:=hq hw 10 rfl rfl); (try obtain rfl:=hq hw 11 rfl rfl); refine np ?_; simp only[B2,A3,A6,A2,C,E,F,G,H,J]; exact ih _ _ _ _ _ _ _ _ _)
  ·intro h0 hw;obtain rfl:=hq hw 12 rfl rfl;refine np ?_;try simp only[h23,B2,A3,A6,A2,C,E,F,G,H,J]
   exact uG F_w0 caps_w0 a0 x8 v9 v10 v11 v12 v13 v14 v15 v16 v17 x19 h22 h23 _ b0 b1 b2 b3 b4 b9 b10 b11 L L
theorem uH(F_w0:FuncId)(caps_w0:P D)(a0:Xc)(x8:P X0)(v9)(v10:X3)(v11)(v12)(v13)(v14)(v15:P X0)(v16:P U)(v17)(x19)(h22:(A7 v15.length ([x19]:P X0).length 48)=T)(h23:(A7 v16.length ([v9]:P U).length 8)=T):∀(f:W) (b0 b1:V) (b2 b3:V) (b4 b9:V) (b10 b11:V) (b12 b13:V),Af Z Fc (DL F_w0 caps_w0 a0 x8 v9 v10 v11 v12 v13 v14 v15 v16 v17 x19) f [b0,b1,b2,b3,b4,T,T,T,T,b9,b10,b11,b12,b13,L,L,L,L,L,L,L,L] (B2 a0 x8 v9 x19 (vc (.undef)) (vc (.own 90001)) b0 b1 b2 b3 b4 T T T T b9 b10 b11 b12 b13 L L L L L L [(99999999999,(dm v10.row++ [aL (Y (rL X0.row) v11),.dat (.clo F_w0 caps_w0),.undef,.own 90001,.own 90002,aI v12,aI v13,aB v14])),(5,(dm x19.row))] [(90000,4,Y X0.row (v15++([x19]:P X0))),(90001,1,Y rI v16),(90002,1,Y rI v17),(5504,4,Y X0.row ([x19]:P X0))]):=by
 intro f
 induction f with
 | zero=>intro b0 b1 b2 b3 b4 b9 b10 b11 b12 b13 h; simp at h
 | succ f ih=>
  intro b0 b1 b2 b3 b4 b9 b10 b11 b12 b13;refine Aj ⟨?_,?_,?_,?_,?_,?_,?_,?_,?_,?_,?_,?_,?_,?_,?_,?_,?_,?_,?_,?_,?_,?_,⟨⟩⟩<;>try first | (intro h; cases h; done) | (intro _ hw; simp at hw; done) | (intro h0 hw; obtain rfl:=hz h0 rfl; (try obtain rfl:=hq hw 2 rfl rfl); (try obtain rfl:=hq hw 3 rfl rfl); (try obtain rfl:=hq hw 9 rfl rfl); (try obtain rfl:=hq hw 10 rfl rfl); (try obtain rfl:=hq hw 11 rfl rfl); refine np ?_; simp only[B2,A3,A6,A2,C,E,F,G,H,J]; exact ih _ _ _ _ _ _ _ _ _ _)
  ·intro h0 hw;obtain rfl:=hq hw 13 rfl rfl;refine np ?_;try simp only[B2,A3,A6,A2,C,E,F,G,H,J]
   refine Ce (es:=Y rI ([v9]:P U)) X (by simp only[St.fresh,zC,zD,Bf]; simp[AV.cells,V1.cells,AC.uses]) ?_;try simp only[A2,C,E,F,G,H,J]
   exact VU F_w0 caps_w0 a0 x8 v9 v10 v11 v12 v13 v14 v15 v16 v17 x19 h22 h23 _ b0 b1 b2 b3 b4 b9 b10 b11 b12
theorem VW(F_w0:FuncId)(caps_w0:P D)(a0:Xc)(x8:P X0)(v9)(v10:X3)(v11)(v12)(v13)(v14)(v15:P X0)(v16:P U)(v17)(x19)(h22:(A7 v15.length ([x19]:P X0).length 48)=T)(h23:(A7 v16.length ([v9]:P U).length 8)=T):∀(f:W) (b0 b1:V) (b2 b3:V) (b4 b5:V) (b9 b10:V) (b11 b12:V),Af Z Fc (DL F_w0 caps_w0 a0 x8 v9 v10 v11 v12 v13 v14 v15 v16 v17 x19) f [b0,b1,b2,b3,b4,b5,T,T,L,b9,b10,b11,b12,T,T,L,L,L,L,L,L,L] (B2 a0 x8 v9 x19 (vc (.own 90000)) (vc (.own 90001)) b0 b1 b2 b3 b4 b5 T T L b9 b10 b11 b12 T T L L L L L [(99999999999,(dm v10.row++ [aL (Y (rL X0.row) v11),.dat (.clo F_w0 caps_w0),.own 90000,.own 90001,.own 90002,aI v12,aI v13,aB v14])),(5,(dm x19.row))] [(90000,4,Y X0.row v15),(90001,1,Y rI v16),(90002,1,Y rI v17),(5504,4,Y X0.row ([x19]:P X0)),(5952,1,Y rI ([v9]:P U))]):=by
 intro f
 induction f with
 | zero=>intro b0 b1 b2 b3 b4 b5 b9 b10 b11 b12 h; simp at h
 | succ f ih=>
  intro b0 b1 b2 b3 b4 b5 b9 b10 b11 b12;refine Aj ⟨?_,?_,?_,?_,?_,?_,?_,?_,?_,?_,?_,?_,?_,?_,?_,?_,?_,?_,?_,?_,?_,?_,⟨⟩⟩<;>try first | (intro h; cases h; done) | (intro _ hw; simp at hw; done) | (intro h0 hw; obtain rfl:=hz h0 rfl; (try obtain rfl:=hq hw 2 rfl rfl); (try obtain rfl:=hq hw 3 rfl rfl); (try obtain rfl:=hq hw 4 rfl rfl); (try obtain rfl:=hq hw 9 rfl rfl); (try obtain rfl:=hq hw 10 rfl rfl); (try obtain rfl:=hq hw 11 rfl rfl); refine np ?_; simp only[B2,A3,A6,A2,C,E,F,G,H,J]; exact ih _ _ _ _ _ _ _ _ _ _)
  ·intro h0 hw;obtain rfl:=hq hw 5 rfl rfl;refine np ?_;try simp only[h22,B2,A3,A6,A2,C,E,F,G,H,J]
   exact VU F_w0 caps_w0 a0 x8 v9 v10 v11 v12 v13 v14 v15 v16 v17 x19 h22 h23 _ b0 b1 b2 b3 b4 b9 b10 b11 b12
theorem uK(F_w0:FuncId)(caps_w0:P D)(a0:Xc)(x8:P X0)(v9)(v10:X3)(v11)(v12)(v13)(v14)(v15:P X0)(v16:P U)(v17)(x19)(h22:(A7 v15.length ([x19]:P X0).length 48)=T)(h23:(A7 v16.length ([v9]:P U).length 8)=T):∀(f:W) (b0 b1:V) (b2 b3:V) (b4 b5:V) (b9 b10:V) (b11 b12 b13:V),Af Z Fc (DL F_w0 caps_w0 a0 x8 v9 v10 v11 v12 v13 v14 v15 v16 v17 x19) f [b0,b1,b2,b3,b4,b5,T,T,L,b9,b10,b11,b12,b13,L,L,L,L,L,L,L,L] (B2 a0 x8 v9 x19 (vc (.own 90000)) (vc (.own 90001)) b0 b1 b2 b3 b4 b5 T T L b9 b10 b11 b12 b13 L L L L L L [(99999999999,(dm v10.row++ [aL (Y (rL X0.row) v11),.dat (.clo F_w0 caps_w0),.own 90000,.own 90001,.own 90002,aI v12,aI v13,aB v14])),(5,(dm x19.row))] [(90000,4,Y X0.row v15),(90001,1,Y rI v16),(90002,1,Y rI v17),(5504,4,Y X0.row ([x19]:P X0))]):=by
 intro f
 induction f with
 | zero=>intro b0 b1 b2 b3 b4 b5 b9 b10 b11 b12 b13 h; simp at h
 | succ f ih=>
  intro b0 b1 b2 b3 b4 b5 b9 b10 b11 b12 b13;refine Aj ⟨?_,?_,?_,?_,?_,?_,?_,?_,?_,?_,?_,?_,?_,?_,?_,?_,?_,?_,?_,?_,?_,?_,⟨⟩⟩<;>try first | (intro h; cases h; done) | (intro _ hw; simp at hw; done) | (intro h0 hw; obtain rfl:=hz h0 rfl; (try obtain rfl:=hq hw 2 rfl rfl); (try obtain rfl:=hq hw 3 rfl rfl); (try obtain rfl:=hq hw 4 rfl rfl); (try obtain rfl:=hq hw 9 rfl rfl); (try obtain rfl:=hq hw 10 rfl rfl); (try obtain rfl:=hq hw 11 rfl rfl); refine np ?_; simp only[B2,A3,A6,A2,C,E,F,G,H,J]; exact ih _ _ _ _ _ _ _ _ _ _ _)
  ·intro h0 hw;obtain rfl:=hq hw 5 rfl rfl;refine np ?_;try simp only[h22,B2,A3,A6,A2,C,E,F,G,H,J]
   exact uH F_w0 caps_w0 a0 x8 v9 v10 v11 v12 v13 v14 v15 v16 v17 x19 h22 h23 _ b0 b1 b2 b3 b4 b9 b10 b11 b12 b13
  ·intro h0 hw;obtain rfl:=hq hw 13 rfl rfl;refine np ?_;try simp only[B2,A3,A6,A2,C,E,F,G,H,J]
   refine Ce (es:=Y rI ([v9]:P U)) X (by simp only[St.fresh,zC,zD,Bf]; simp[AV.cells,V1.cells,AC.uses]) ?_;try simp only[A2,C,E,F,G,H,J]
   exact VW F_w0 caps_w0 a0 x8 v9 v10 v11 v12 v13 v14 v15 v16 v17 x19 h22 h23 _ b0 b1 b2 b3 b4 b5 b9 b10 b11 b12
theorem uL(F_w0:FuncId)(caps_w0:P D)(a0:Xc)(x8:P X0)(v9)(v10:X3)(v11)(v12)(v13)(v14)(v15:P X0)(v16:P U)(v17)(x19)(h22:(A7 v15.length ([x19]:P X0).length 48)=T)(h23:(A7 v16.length ([v9]:P U).length 8)=T):∀(f:W) (b0 b1:V) (b2 b3:V) (b4 b5:V) (b6 b9:V) (b10 b11 b12:V),Af Z Fc (DL F_w0 caps_w0 a0 x8 v9 v10 v11 v12 v13 v14 v15 v16 v17 x19) f [b0,b1,b2,b3,b4,b5,b6,L,L,b9,b10,b11,b12,T,T,L,L,L,L,L,L,L] (B2 a0 x8 v9 x19 (vc (.own 90000)) (vc (.own 90001)) b0 b1 b2 b3 b4 b5 b6 L L b9 b10 b11 b12 T T L L L L L [(99999999999,(dm v10.row++ [aL (Y (rL X0.row) v11),.dat (.clo F_w0 caps_w0),.own 90000,.own 90001,.own 90002,aI v12,aI v13,aB v14])),(5,(dm x19.row))] [(90000,4,Y X0.row v15),(90001,1,Y rI v16),(90002,1,Y rI v17),(5952,1,Y rI ([v9]:P U))]):=by
 intro f
 induction f with
 | zero=>intro b0 b1 b2 b3 b4 b5 b6 b9 b10 b11 b12 h; simp at h
 | succ f ih=>
  intro b0 b1 b2 b3 b4 b5 b6 b9 b10 b11 b12;refine Aj ⟨?_,?_,?_,?_,?_,?_,?_,?_,?_,?_,?_,?_,?_,?_,?_,?_,?_,?_,?_,?_,?_,?_,⟨⟩⟩<;>try first | (intro h; cases h; done) | (intro _ hw; simp at hw; done) | (intro h0 hw; obtain rfl:=hz h0 rfl; (try obtain rfl:=hq hw 2 rfl rfl); (try obtain rfl:=hq hw 3 rfl rfl); (try obtain rfl:=hq hw 4 rfl rfl); (try obtain rfl:=hq hw 9 rfl rfl); (try obtain rfl:=hq hw 10 rfl rfl); (try obtain rfl:=hq hw 11 rfl rfl); refine np ?_; simp only[B2,A3,A6,A2,C,E,F,G,H,J]; exact ih _ _ _ _ _ _ _ _ _ _ _)
  ·intro h0 hw;obtain rfl:=hq hw 6 rfl rfl;refine⟨[],[(O,.keep [0,3,4,5,61,62,63,79,80,81,82,83,84,85,86,87,88,89,90,91,92,93,94,95,96,97,98] [99999999999,5] [90000,90001,90002,5504,5952])],X,X,?_⟩;try simp only[B2,A3,A6,zF,zE,A2,C,E,F,G,H,J]
   refine Ce (es:=Y X0.row ([x19]:P X0)) X (by simp only[St.fresh,zC,zD,Bf]; simp[AV.cells,V1.cells,AC.uses]) ?_;try simp only[A2,C,E,F,G,H,J]
   exact VW F_w0 caps_w0 a0 x8 v9 v10 v11 v12 v13 v14 v15 v16 v17 x19 h22 h23 _ b0 b1 b2 b3 b4 b5 b9 b10 b11 b12
theorem uM(F_w0:FuncId)(caps_w0:P D)(a0:Xc)(x8:P X0)(v9)(v10:X3)(v11)(v12)(v13)(v14)(v15:P X0)(v16:P U)(v17)(x19)(h22:(A7 v15.length ([x19]:P X0).length 48)=T)(h23:(A7 v16.length ([v9]:P U).length 8)=T):∀(f:W) (b0 b1:V) (b2 b3:V) (b4 b5:V) (b6 b9:V) (b10 b11:V) (b12 b13:V),Af Z Fc (DL F_w0 caps_w0 a0 x8 v9 v10 v11 v12 v13 v14 v15 v16 v17 x19) f [b0,b1,b2,b3,b4,b5,b6,L,L,b9,b10,b11,b12,b13,L,L,L,L,L,L,L,L] (B2 a0 x8 v9 x19 (vc (.own 90000)) (vc (.own 90001)) b0 b1 b2 b3 b4 b5 b6 L L b9 b10 b11 b12 b13 L L L L L L [(99999999999,(dm v10.row++ [aL (Y (rL X0.row) v11),.dat (.clo F_w0 caps_w0),.own 90000,.own 90001,.own 90002,aI v12,aI v13,aB v14])),(5,(dm x19.row))] [(90000,4,Y X0.row v15),(90001,1,Y rI v16),(90002,1,Y rI v17)]):=by
 intro f
 induction f with
 | zero=>intro b0 b1 b2 b3 b4 b5 b6 b9 b10 b11 b12 b13 h; simp at h
 | succ f ih=>
  intro b0 b1 b2 b3 b4 b5 b6 b9 b10 b11 b12 b13;refine Aj ⟨?_,?_,?_,?_,?_,?_,?_,?_,?_,?_,?_,?_,?_,?_,?_,?_,?_,?_,?_,?_,?_,?_,⟨⟩⟩<;>try first | (intro _ hw; simp at hw; done) | (intro h0 hw; obtain rfl:=hz h0 rfl; (try obtain rfl:=hq hw 2 rfl rfl); (try obtain rfl:=hq hw 3 rfl rfl); (try obtain rfl:=hq hw 4 rfl rfl); (try obtain rfl:=hq hw 9 rfl rfl); (try obtain rfl:=hq hw 10 rfl rfl); (try obtain rfl:=hq hw 11 rfl rfl); refine np ?_; simp only[B2,A3,A6,A2,C,E,F,G,H,J]; exact ih _ _ _ _ _ _ _ _ _ _ _ _)
  ·intro h0 hw;obtain rfl:=hq hw 6 rfl rfl;refine np ?_;try simp only[B2,A3,A6,A2,C,E,F,G,H,J]
   refine Ce (es:=Y X0.row ([x19]:P X0)) X (by simp only[St.fresh,zC,zD,Bf]; simp[AV.cells,V1.cells,AC.uses]) ?_;try simp only[A2,C,E,F,G,H,J]
   exact uK F_w0 caps_w0 a0 x8 v9 v10 v11 v12 v13 v14 v15 v16 v17 x19 h22 h23 _ b0 b1 b2 b3 b4 b5 b9 b10 b11 b12 b13
  ·intro h0 hw;obtain rfl:=hq hw 13 rfl rfl;refine np ?_;try simp only[B2,A3,A6,A2,C,E,F,G,H,J]
   refine Ce (es:=Y rI ([v9]:P U)) X (by simp only[St.fresh,zC,zD,Bf]; simp[AV.cells,V1.cells,AC.uses]) ?_;try simp only[A2,C,E,F,G,H,J]
   exact uL F_w0 caps_w0 a0 x8 v9 v10 v11 v12 v13 v14 v15 v16 v17 x19 h22 h23 _ b0 b1 b2 b3 b4 b5 b6 b9 b10 b11 b12
abbrev Bu(a0:Xc)(x8:P X0)(v9:U)(wo5_ wo11_:AV)(c0_ c1_:V)(c2_ c3_:V)(c4_ c5_:V)(c6_ c7_:V)(c8_ c9_:V)(c10_ c11_:V)(c12_ c13_:V)(c14_ c15_:V)(c17_ c18_:V)(bx_:P (W × P AC))(rs_:Rows):St:=⟨[(0,vc (.pb 99999999999 0)),(3,vc (aI (a0.plan.length:U))),(61,vc (aL (Y X0.row x8))),(62,vc (aI (x8.length:U))),(63,vc (aI v9)),(101,bif c0_ then vc (.pb 99999999999 0) else .undef),(102,bif c1_ then vc (.pb 99999999999 0) else .undef),(103,bif c2_ then vc (.pb 99999999999 0) else .undef),(104,bif c3_ then vc (.pb 99999999999 0) else .undef),(105,bif c4_ then vc (.pb 99999999999 14) else .undef),(106,bif c5_ then wo5_ else .undef),(107,bif c6_ then vc (aI (a0.plan.length:U)) else .undef),(108,bif c7_ then vc (.own 90000) else .undef),(109,bif c8_ then vc (.pb 99999999999 0) else .undef),(110,bif c9_ then vc (.pb 99999999999 0) else .undef),(111,bif c10_ then vc (.pb 99999999999 15) else .undef),(112,bif c11_ then wo11_ else .undef),(113,bif c12_ then vc (aI (a0.plan.length:U)) else .undef),(114,bif c13_ then vc (.own 90001) else .undef),(115,bif c14_ then vc (.pb 99999999999 0) else .undef),(116,bif c15_ then vc (.pb 99999999999 14) else .undef),(117,bif c17_ then vc (.pb 99999999999 0) else .undef),(118,bif c18_ then vc (.pb 99999999999 15) else .undef)],bx_,rs_⟩
abbrev Fa(F_w0:FuncId)(caps_w0:P D)(a0:Xc)(x8:P X0)(v9:U)(r24:Xc)(p25 p26:W × W):St:=(Bu a0 x8 v9 (vc (.undef)) (vc (.undef)) T T T T T T T T T T T T T T T T T T [(99999999999,(dm r24.h.row++ [aL (Y (rL X0.row) r24.choices),.dat (.clo F_w0 caps_w0),.own 90000,.own 90001,.own 90002,aI r24.least.i0,aI r24.least.i1,aB r24.found]))] [(90000,4,Y X0.row (r24.plan.take p25.2)),(90001,1,Y rI (r24.choice.take p26.2)),(90002,1,Y rI r24.best)])
theorem uN(F_w0:FuncId)(caps_w0:P D)(a0:Xc)(x8:P X0)(v9:U)(r24:Xc)(p25)(p26)(h25:bnd (r24.plan.length:U) (a0.plan.length:U) 0 r24.plan.length=N p25)(h26:bnd (r24.choice.length:U) (a0.plan.length:U) 0 r24.choice.length=N p26):∀(f:W) (b17:V),Af Z HR (Fa F_w0 caps_w0 a0 x8 v9 r24 p25 p26) f [T,T,T,T,T,T,T,T,T,T,T,T,T,T,T,T,T,b17,T,T] (Bu a0 x8 v9 (vc (.undef)) (vc (.undef)) T T T T T T T T T T T T T T T T b17 T [(99999999999,(dm r24.h.row++ [aL (Y (rL X0.row) r24.choices),.dat (.clo F_w0 caps_w0),.own 90000,.own 90001,.own 90002,aI r24.least.i0,aI r24.least.i1,aB r24.found]))] [(90000,4,Y X0.row (r24.plan.take p25.2)),(90001,1,Y rI (r24.choice.take p26.2)),(90002,1,Y rI r24.best)]):=by
 intro f
 induction f with
 | zero=>
  intro b17 h;obtain rfl:b17=T:=zA.1 h b17 (by simp);rfl
 | succ f ih=>
  intro b17;refine Aj ⟨?_,?_,?_,?_,?_,?_,?_,?_,?_,?_,?_,?_,?_,?_,?_,?_,?_,?_,?_,?_,⟨⟩⟩<;>try first | (intro h; cases h; done) | (intro h0 hw; obtain rfl:=hz h0 rfl; refine np ?_; simp only[Bu,A3,A6,A2,C,E,F,G,H,J]; exact ih _)
theorem VX(F_w0:FuncId)(caps_w0:P D)(a0:Xc)(x8:P X0)(v9:U)(r24:Xc)(p25)(p26)(h25:bnd (r24.plan.length:U) (a0.plan.length:U) 0 r24.plan.length=N p25)(h26:bnd (r24.choice.length:U) (a0.plan.length:U) 0 r24.choice.length=N p26):∀(f:W) (b1 b8:V) (b9 b10:V) (b14 b17 b18:V),Af Z HR (Fa F_w0 caps_w0 a0 x8 v9 r24 p25 p26) f [T,b1,T,T,T,T,T,T,b8,b9,b10,T,T,T,b14,T,T,b17,b18,L] (Bu a0 x8 v9 (vc (.undef)) (vc (.undef)) T b1 T T T T T T b8 b9 b10 T T T b14 T b17 b18 [(99999999999,(dm r24.h.row++ [aL (Y (rL X0.row) r24.choices),.dat (.clo F_w0 caps_w0),.own 90000,.undef,.own 90002,aI r24.least.i0,aI r24.least.i1,aB r24.found]))] [(90000,4,Y X0.row (r24.plan.take p25.2)),(90001,1,Y rI (r24.choice.take p26.2)),(90002,1,Y rI r24.best)]):=by
 intro f
 induction f with
 | zero=>intro b1 b8 b9 b10 b14 b17 b18 h; simp at h
 | succ f ih=>
  intro b1 b8 b9 b10 b14 b17 b18;refine Aj ⟨?_,?_,?_,?_,?_,?_,?_,?_,?_,?_,?_,?_,?_,?_,?_,?_,?_,?_,?_,?_,⟨⟩⟩<;>try first | (intro h; cases h; done) | (intro h0 hw; obtain rfl:=hz h0 rfl; (try obtain rfl:=hq hw 1 rfl rfl); (try obtain rfl:=hq hw 8 rfl rfl); (try obtain rfl:=hq hw 9 rfl rfl); (try obtain rfl:=hq hw 10 rfl rfl); (try obtain rfl:=hq hw 14 rfl rfl); (try obtain rfl:=hq hw 17 rfl rfl); refine np ?_; simp only[Bu,A3,A6,A2,C,E,F,G,H,J]; exact ih _ _ _ _ _ _ _)
  ·intro h0 hw;obtain rfl:=hq hw 1 rfl rfl;obtain rfl:=hq hw 8 rfl rfl;obtain rfl:=hq hw 9 rfl rfl;obtain rfl:=hq hw 10 rfl rfl;obtain rfl:=hq hw 14 rfl rfl;obtain rfl:=hq hw 18 rfl rfl;refine np ?_;try simp only[Bu,A3,A6,A2,C,E,F,G,H,J]
   exact uN F_w0 caps_w0 a0 x8 v9 r24 p25 p26 h25 h26 _ b17
theorem VY(F_w0:FuncId)(caps_w0:P D)(a0:Xc)(x8:P X0)(v9:U)(r24:Xc)(p25)(p26)(h25:bnd (r24.plan.length:U) (a0.plan.length:U) 0 r24.plan.length=N p25)(h26:bnd (r24.choice.length:U) (a0.plan.length:U) 0 r24.choice.length=N p26):∀(f:W) (b0 b1:V) (b2 b3:V) (b4 b8:V) (b9 b10:V) (b14 b15:V),Af Z HR (Fa F_w0 caps_w0 a0 x8 v9 r24 p25 p26) f [b0,b1,b2,b3,b4,T,T,T,b8,b9,b10,T,T,T,b14,b15,L,L,L,L] (Bu a0 x8 v9 (vc (.undef)) (vc (.undef)) b0 b1 b2 b3 b4 T T T b8 b9 b10 T T T b14 b15 L L [(99999999999,(dm r24.h.row++ [aL (Y (rL X0.row) r24.choices),.dat (.clo F_w0 caps_w0),.undef,.undef,.own 90002,aI r24.least.i0,aI r24.least.i1,aB r24.found]))] [(90000,4,Y X0.row (r24.plan.take p25.2)),(90001,1,Y rI (r24.choice.take p26.2)),(90002,1,Y rI r24.best)]):=by
 intro f
 induction f with
 | zero=>intro b0 b1 b2 b3 b4 b8 b9 b10 b14 b15 h; simp at h
 | succ f ih=>
  intro b0 b1 b2 b3 b4 b8 b9 b10 b14 b15;refine Aj ⟨?_,?_,?_,?_,?_,?_,?_,?_,?_,?_,?_,?_,?_,?_,?_,?_,?_,?_,?_,?_,⟨⟩⟩<;>try first | (intro h; cases h; done) | (intro _ hw; simp at hw; done) | (intro h0 hw; obtain rfl:=hz h0 rfl; (try obtain rfl:=hq hw 0 rfl rfl); (try obtain rfl:=hq hw 2 rfl rfl); (try obtain rfl:=hq hw 3 rfl rfl); (try obtain rfl:=hq hw 4 rfl rfl); (try obtain rfl:=hq hw 8 rfl rfl); (try obtain rfl:=hq hw 9 rfl rfl); (try obtain rfl:=hq hw 14 rfl rfl); refine np ?_; simp only[Bu,A3,A6,A2,C,E,F,G,H,J]; exact ih _ _ _ _ _ _ _ _ _ _)
  ·intro h0 hw;obtain rfl:=hq hw 0 rfl rfl;obtain rfl:=hq hw 2 rfl rfl;obtain rfl:=hq hw 3 rfl rfl;obtain rfl:=hq hw 4 rfl rfl;obtain rfl:=hq hw 15 rfl rfl;refine np ?_;try simp only[Bu,A3,A6,A2,C,E,F,G,H,J]
   exact VX F_w0 caps_w0 a0 x8 v9 r24 p25 p26 h25 h26 _ b1 b8 b9 b10 b14 L L
theorem uO(F_w0:FuncId)(caps_w0:P D)(a0:Xc)(x8:P X0)(v9:U)(r24:Xc)(p25)(p26)(h25:bnd (r24.plan.length:U) (a0.plan.length:U) 0 r24.plan.length=N p25)(h26:bnd (r24.choice.length:U) (a0.plan.length:U) 0 r24.choice.length=N p26):∀(f:W) (b1 b8:V) (b9 b10:V) (b12 b14:V),Af Z HR (Fa F_w0 caps_w0 a0 x8 v9 r24 p25 p26) f [T,b1,T,T,T,T,T,T,b8,b9,b10,T,b12,L,b14,T,T,L,L,L] (Bu a0 x8 v9 (vc (.undef)) (vc (.own 90001)) T b1 T T T T T T b8 b9 b10 T b12 L b14 T L L [(99999999999,(dm r24.h.row++ [aL (Y (rL X0.row) r24.choices),.dat (.clo F_w0 caps_w0),.own 90000,.own 90001,.own 90002,aI r24.least.i0,aI r24.least.i1,aB r24.found]))] [(90000,4,Y X0.row (r24.plan.take p25.2)),(90001,1,Y rI r24.choice),(90002,1,Y rI r24.best)]):=by
 intro f
 induction f with
 | zero=>intro b1 b8 b9 b10 b12 b14 h; simp at h
 | succ f ih=>
  intro b1 b8 b9 b10 b12 b14;refine Aj ⟨?_,?_,?_,?_,?_,?_,?_,?_,?_,?_,?_,?_,?_,?_,?_,?_,?_,?_,?_,?_,⟨⟩⟩<;>try first | (intro h; cases h; done) | (intro _ hw; simp at hw; done) | (intro h0 hw; obtain rfl:=hz h0 rfl; (try obtain rfl:=hq hw 8 rfl rfl); (try obtain rfl:=hq hw 9 rfl rfl); refine np ?_; simp only[Bu,A3,A6,A2,C,E,F,G,H,J]; exact ih _ _ _ _ _ _)
  ·intro h0 hw;obtain rfl:=hq hw 12 rfl rfl;refine⟨[],[(O,.cut 114)],X,X,?_⟩;try simp only[Bu,A3,A6,zF,zE,A2,C,E,F,G,H,J]
   refine Hi X X h26 (by rfl) ?_;try simp only[A2,C,E,F,G,H,J]
   exact VX F_w0 caps_w0 a0 x8 v9 r24 p25 p26 h25 h26 _ b1 b8 b9 b10 b14 L L
theorem uP(F_w0:FuncId)(caps_w0:P D)(a0:Xc)(x8:P X0)(v9:U)(r24:Xc)(p25)(p26)(h25:bnd (r24.plan.length:U) (a0.plan.length:U) 0 r24.plan.length=N p25)(h26:bnd (r24.choice.length:U) (a0.plan.length:U) 0 r24.choice.length=N p26):∀(f:W) (b0 b1:V) (b2 b3:V) (b4 b8:V) (b9 b10:V) (b11 b12:V) (b14 b15:V),Af Z HR (Fa F_w0 caps_w0 a0 x8 v9 r24 p25 p26) f [b0,b1,b2,b3,b4,T,T,T,b8,b9,b10,b11,b12,L,b14,b15,L,L,L,L] (Bu a0 x8 v9 (vc (.undef)) (vc (.own 90001)) b0 b1 b2 b3 b4 T T T b8 b9 b10 b11 b12 L b14 b15 L L [(99999999999,(dm r24.h.row++ [aL (Y (rL X0.row) r24.choices),.dat (.clo F_w0 caps_w0),.undef,.own 90001,.own 90002,aI r24.least.i0,aI r24.least.i1,aB r24.found]))] [(90000,4,Y X0.row (r24.plan.take p25.2)),(90001,1,Y rI r24.choice),(90002,1,Y rI r24.best)]):=by
 intro f
 induction f with
 | zero=>intro b0 b1 b2 b3 b4 b8 b9 b10 b11 b12 b14 b15 h; simp at h
 | succ f ih=>
  intro b0 b1 b2 b3 b4 b8 b9 b10 b11 b12 b14 b15;refine Aj ⟨?_,?_,?_,?_,?_,?_,?_,?_,?_,?_,?_,?_,?_,?_,?_,?_,?_,?_,?_,?_,⟨⟩⟩<;>try first | (intro h; cases h; done) | (intro _ hw; simp at hw; done) | (intro h0 hw; obtain rfl:=hz h0 rfl; (try obtain rfl:=hq hw 0 rfl rfl); (try obtain rfl:=hq hw 2 rfl rfl); (try obtain rfl:=hq hw 3 rfl rfl); (try obtain rfl:=hq hw 4 rfl rfl); (try obtain rfl:=hq hw 8 rfl rfl); (try obtain rfl:=hq hw 9 rfl rfl); (try obtain rfl:=hq hw 10 rfl rfl); (try obtain rfl:=hq hw 11 rfl rfl); (try obtain rfl:=hq hw 14 rfl rfl); refine np ?_; simp only[Bu,A3,A6,A2,C,E,F,G,H,J]; exact ih _ _ _ _ _ _ _ _ _ _ _ _)
  ·intro h0 hw;obtain rfl:=hq hw 11 rfl rfl;obtain rfl:=hq hw 12 rfl rfl;refine⟨[],[(O,.cut 114)],X,X,?_⟩;try simp only[Bu,A3,A6,zF,zE,A2,C,E,F,G,H,J]
   refine Hi X X h26 (by rfl) ?_;try simp only[A2,C,E,F,G,H,J]
   exact VY F_w0 caps_w0 a0 x8 v9 r24 p25 p26 h25 h26 _ b0 b1 b2 b3 b4 b8 b9 b10 b14 b15
  ·intro h0 hw;obtain rfl:=hq hw 0 rfl rfl;obtain rfl:=hq hw 2 rfl rfl;obtain rfl:=hq hw 3 rfl rfl;obtain rfl:=hq hw 4 rfl rfl;obtain rfl:=hq hw 11 rfl rfl;obtain rfl:=hq hw 15 rfl rfl;refine np ?_;try simp only[Bu,A3,A6,A2,C,E,F,G,H,J]
   exact uO F_w0 caps_w0 a0 x8 v9 r24 p25 p26 h25 h26 _ b1 b8 b9 b10 b12 b14
theorem uQ(F_w0:FuncId)(caps_w0:P D)(a0:Xc)(x8:P X0)(v9:U)(r24:Xc)(p25)(p26)(h25:bnd (r24.plan.length:U) (a0.plan.length:U) 0 r24.plan.length=N p25)(h26:bnd (r24.choice.length:U) (a0.plan.length:U) 0 r24.choice.length=N p26):∀(f:W) (b0 b1:V) (b2 b3:V) (b4 b5:V) (b6 b8:V) (b9 b10:V),Af Z HR (Fa F_w0 caps_w0 a0 x8 v9 r24 p25 p26) f [b0,b1,b2,b3,b4,b5,b6,L,b8,b9,b10,T,T,T,L,L,L,L,L,L] (Bu a0 x8 v9 (vc (.own 90000)) (vc (.undef)) b0 b1 b2 b3 b4 b5 b6 L b8 b9 b10 T T T L L L L [(99999999999,(dm r24.h.row++ [aL (Y (rL X0.row) r24.choices),.dat (.clo F_w0 caps_w0),.own 90000,.undef,.own 90002,aI r24.least.i0,aI r24.least.i1,aB r24.found]))] [(90000,4,Y X0.row r24.plan),(90001,1,Y rI (r24.choice.take p26.2)),(90002,1,Y rI r24.best)]):=by
 intro f
 induction f with
 | zero=>intro b0 b1 b2 b3 b4 b5 b6 b8 b9 b10 h; simp at h
 | succ f ih=>
  intro b0 b1 b2 b3 b4 b5 b6 b8 b9 b10;refine Aj ⟨?_,?_,?_,?_,?_,?_,?_,?_,?_,?_,?_,?_,?_,?_,?_,?_,?_,?_,?_,?_,⟨⟩⟩<;>try first | (intro h; cases h; done) | (intro _ hw; simp at hw; done) | (intro h0 hw; obtain rfl:=hz h0 rfl; (try obtain rfl:=hq hw 2 rfl rfl); (try obtain rfl:=hq hw 3 rfl rfl); (try obtain rfl:=hq hw 4 rfl rfl); (try obtain rfl:=hq hw 8 rfl rfl); (try obtain rfl:=hq hw 9 rfl rfl); refine np ?_; simp only[Bu,A3,A6,A2,C,E,F,G,H,J]; exact ih _ _ _ _ _ _ _ _ _ _)
  ·intro h0 hw;obtain rfl:=hq hw 5 rfl rfl;obtain rfl:=hq hw 6 rfl rfl;refine⟨[],[(O,.cut 108)],X,X,?_⟩;try simp only[Bu,A3,A6,zF,zE,A2,C,E,F,G,H,J]
   refine Hi X X h25 (by rfl) ?_;try simp only[A2,C,E,F,G,H,J]
   exact VY F_w0 caps_w0 a0 x8 v9 r24 p25 p26 h25 h26 _ b0 b1 b2 b3 b4 b8 b9 b10 L L
theorem uR(F_w0:FuncId)(caps_w0:P D)(a0:Xc)(x8:P X0)(v9:U)(r24:Xc)(p25)(p26)(h25:bnd (r24.plan.length:U) (a0.plan.length:U) 0 r24.plan.length=N p25)(h26:bnd (r24.choice.length:U) (a0.plan.length:U) 0 r24.choice.length=N p26):∀(f:W) (b0 b1:V) (b2 b3:V) (b4 b5:V) (b6 b8:V) (b9 b10:V) (b11 b12:V),Af Z HR (Fa F_w0 caps_w0 a0 x8 v9 r24 p25 p26) f [b0,b1,b2,b3,b4,b5,b6,L,b8,b9,b10,b11,b12,L,L,L,L,L,L,L] (Bu a0 x8 v9 (vc (.own 90000)) (vc (.own 90001)) b0 b1 b2 b3 b4 b5 b6 L b8 b9 b10 b11 b12 L L L L L [(99999999999,(dm r24.h.row++ [aL (Y (rL X0.row) r24.choices),.dat (.clo F_w0 caps_w0),.own 90000,.own 90001,.own 90002,aI r24.least.i0,aI r24.least.i1,aB r24.found]))] [(90000,4,Y X0.row r24.plan),(90001,1,Y rI r24.choice),(90002,1,Y rI r24.best)]):=by
 intro f
 induction f with
 | zero=>intro b0 b1 b2 b3 b4 b5 b6 b8 b9 b10 b11 b12 h; simp at h
 | succ f ih=>
  intro b0 b1 b2 b3 b4 b5 b6 b8 b9 b10 b11 b12;refine Aj ⟨?_,?_,?_,?_,?_,?_,?_,?_,?_,?_,?_,?_,?_,?_,?_,?_,?_,?_,?_,?_,⟨⟩⟩<;>try first | (intro _ hw; simp at hw; done) | (intro h0 hw; obtain rfl:=hz h0 rfl; (try obtain rfl:=hq hw 2 rfl rfl); (try obtain rfl:=hq hw 3 rfl rfl); (try obtain rfl:=hq hw 4 rfl rfl); (try obtain rfl:=hq hw 8 rfl rfl); (try obtain rfl:=hq hw 9 rfl rfl); (try obtain rfl:=hq hw 10 rfl rfl); refine np ?_; simp only[Bu,A3,A6,A2,C,E,F,G,H,J]; exact ih _ _ _ _ _ _ _ _ _ _ _ _)
  ·intro h0 hw;obtain rfl:=hq hw 5 rfl rfl;obtain rfl:=hq hw 6 rfl rfl;refine⟨[],[(O,.cut 108)],X,X,?_⟩;try simp only[Bu,A3,A6,zF,zE,A2,C,E,F,G,H,J]
   refine Hi X X h25 (by rfl) ?_;try simp only[A2,C,E,F,G,H,J]
   exact uP F_w0 caps_w0 a0 x8 v9 r24 p25 p26 h25 h26 _ b0 b1 b2 b3 b4 b8 b9 b10 b11 b12 L L
  ·intro h0 hw;obtain rfl:=hq hw 11 rfl rfl;obtain rfl:=hq hw 12 rfl rfl;refine⟨[],[(O,.cut 114)],X,X,?_⟩;try simp only[Bu,A3,A6,zF,zE,A2,C,E,F,G,H,J]
   refine Hi X X h26 (by rfl) ?_;try simp only[A2,C,E,F,G,H,J]
   exact uQ F_w0 caps_w0 a0 x8 v9 r24 p25 p26 h25 h26 _ b0 b1 b2 b3 b4 b5 b6 b8 b9 b10
def Y1:=fun F_w0 caps_w0 (a0:Xc) x8 (k_:U→X3→(P (P X0))→U→U→V→(P X0)→(P U)→(P U)→Q Xc)=>∀{v9 v10 v11 v12 v13 v14 v15 v16 v17} {zr},k_ v9 v10 v11 v12 v13 v14 v15 v16 v17=N zr→Kh Z 42 Ng 21 [0,3,61,62,63] [99999999999] [90000,90001,90002] ⟨[(0,vc (.pb 99999999999 0)),pI 3 (a0.plan.length:U),pL 61 X0.row x8,pI 62 (x8.length:U),pI 63 v9],[(99999999999,(dm v10.row++ [aM (rL X0.row) v11,.dat (.clo F_w0 caps_w0),.own 90000,.own 90001,.own 90002,aI v12,aI v13,aB v14]))],[(90000,4,Y X0.row v15),(90001,1,Y rI v16),(90002,1,Y rI v17)]⟩ (Eo [] [] (CT F_w0 caps_w0 zr) (CU zr))
def Y0:=fun F_w0 caps_w0 (a0:Xc) (r1:Xi) (k_:V→Q Xc)=>∀{v5} {zr},k_ v5=N zr→Kh Z 42 Ng 8 [0,2] [99999999999,2] [90000,90001,90002] ⟨[(0,vc (.pb 99999999999 0)),pB 2],[(99999999999,(dm a0.h.row++ [aM (rL X0.row) a0.choices,.dat (.clo F_w0 caps_w0),.own 90000,.own 90001,.own 90002,aI a0.least.i0,aI a0.least.i1,aB v5])),(2,[aI r1.i0,aI r1.i1])],[(90000,4,Y X0.row a0.plan),(90001,1,Y rI a0.choice),(90002,1,Y rI a0.best)]⟩ (Eo [] [] (CT F_w0 caps_w0 zr) (CU zr))
theorem uT{w0:(P X0)→Q Xi}{rec_:Xc→Q Xc}{F_w0 caps_w0}(hF_w0:Bs Z F_w0=T)(h_w0:∀z0 zr,w0 z0=N zr→FC Z F_w0 ([.sc (.sl (Y X0.row z0))]++caps_w0.map .sc) [.ag [.v (.int .i64 zr.i0),.v (.int .i64 zr.i1)]])(h_rec:∀(a0:Xc) zr,rec_ a0=N zr→FCz Z 42 [.p] (CT F_w0 caps_w0 a0) (CU a0) (CT F_w0 caps_w0 zr) (CU zr) []){a0 x8}{n:W}:Y1 F_w0 caps_w0 a0 x8 (FL w0 rec_ a0 x8 n):=by
 induction n with
 | zero=>intro _ _ _ _ _ _ _ _ _ r h; cases h
 | succ n ih=>
  intro v9 v10 v11 v12 v13 v14 v15 v16 v17 r h σ hσ S hS;refine ev hS ?_;rw[FL] at h;refine AP (Aw ?_);obtain⟨h18,h⟩|⟨h18,h⟩:=ic h
  ·obtain⟨x19,h19,h⟩:=ob h;try simp only[hσ,h18,h19,C,E,F,G,H,J]
   refine AK ?_;try simp only[h18,h19,C,E,F,G,H,J]
   refine At ?_;obtain⟨r20,h20,h⟩:=ob h;try simp only[h18,h19,C,E,F,G,H,J]
   refine FS (Ak ra h20) (by first | rfl | kernel_rfl) (Cv X) X (uf X) ?_;obtain⟨h21,h⟩|⟨h21,h⟩:=ic h
   ·try simp only[h18,h19,h21,C,E,F,G,H,J]
    obtain⟨h22,h⟩:=AQ h;obtain⟨h23,h⟩:=AQ h;refine D3 (ks:= [0,3,4,5,61,62,63]) (bs:= [99999999999,5]) (rs:= [90000,90001,90002]) (τ:=(DL F_w0 caps_w0 a0 x8 v9 v10 v11 v12 v13 v14 v15 v16 v17 x19)) X (uM F_w0 caps_w0 a0 x8 v9 v10 v11 v12 v13 v14 v15 v16 v17 x19 h22 h23 _ L L L L L L L L L L L L) ?_;simp only[DL,B2,A3];try simp only[h18,h19,h21,h22,h23,C,E,F,G,H,J]
    refine L9 ?_;obtain⟨r24,h24,h⟩:=ob h;try simp only[h18,h19,h21,h22,h23,C,E,F,G,H,J]
    refine IL (h_rec _ _ h24) 99999999999 [90000,90001,90002] rfl X X X (by decide) X X X ?_;try simp only[h18,h19,h21,h22,h23,C,E,F,G,H,J]
    obtain⟨p25,h25,h⟩:=ob h;obtain⟨p26,h26,h⟩:=ob h;refine D3 (ks:= [0,3,61,62,63]) (bs:= [99999999999]) (rs:= [90000,90001,90002]) (τ:=(Fa F_w0 caps_w0 a0 x8 v9 r24 p25 p26)) X (uR F_w0 caps_w0 a0 x8 v9 r24 p25 p26 h25 h26 _ L L L L L L L L L L L L) ?_;simp only[Fa,Bu,A3];try simp only[h18,h19,h21,h22,h23,C,E,F,G,H,J]
    refine ih h ?_ (by kernel_rfl);try simp only[h18,h19,h21,h22,h23,C,E,F,G,H,J,pL,aM,I]
   ·try simp only[h18,h19,h21,C,E,F,G,H,J]
    refine ih h ?_ (by kernel_rfl);try simp only[h18,h19,h21,C,E,F,G,H,J,pL,aM,I]
  ·try simp only[hσ,h18,C,E,F,G,H,J]
   cases h;exact⟨trivial,[90000,90001,90002],by decide,by decide,X,X⟩
theorem VZ{w0:(P X0)→Q Xi}{rec_:Xc→Q Xc}{F_w0 caps_w0}(hF_w0:Bs Z F_w0=T)(h_w0:∀z0 zr,w0 z0=N zr→FC Z F_w0 ([.sc (.sl (Y X0.row z0))]++caps_w0.map .sc) [.ag [.v (.int .i64 zr.i0),.v (.int .i64 zr.i1)]])(h_rec:∀(a0:Xc) zr,rec_ a0=N zr→FCz Z 42 [.p] (CT F_w0 caps_w0 a0) (CU a0) (CT F_w0 caps_w0 zr) (CU zr) []){a0 r1}:Y0 F_w0 caps_w0 a0 r1 (FJ w0 rec_ a0 r1):=by
 intro v5 r h σ hσ S hS;refine ev hS ?_;refine Aw ?_;unfold FJ at h;obtain⟨h6,h⟩|⟨h6,h⟩:=ic h
 ·try simp only[hσ,h6,C,E,F,G,H,J]
  obtain⟨r7,h7,h⟩:=ob h;refine D3 (ks:= [0,2]) (bs:= [99999999999,2]) (rs:= [90000,90001,90002]) (τ:=(HL F_w0 caps_w0 a0 r1 r7)) X (uD F_w0 caps_w0 a0 r1 v5 r7 h7 _ L L L L L L L L) ?_;simp only[HL,Ck,A3];try simp only[h6,C,E,F,G,H,J]
  cases h;exact⟨trivial,[90000,90001,3008],by decide,by decide,X,X⟩
 ·obtain⟨x8,h8,h⟩:=ob h;try simp only[hσ,h6,h8,C,E,F,G,H,J]
  refine uT hF_w0 h_w0 h_rec h ?_ (by kernel_rfl);try simp only[h6,h8,C,E,F,G,H,J,pL,aM,I]
theorem dM:AD Z 42=N ((Bp Z 42 Ng).strip,[],120):=by kernel_rfl
theorem rj(w0:(P X0)→Q Xi)(rec_:Xc→Q Xc)(a0 r:Xc)(F_w0:FuncId)(caps_w0:P D)(hF_w0:Bs Z F_w0=T)(h_w0:∀z0 zr,w0 z0=N zr→FC Z F_w0 ([.sc (.sl (Y X0.row z0))]++caps_w0.map .sc) [.ag [.v (.int .i64 zr.i0),.v (.int .i64 zr.i1)]])(h_rec:∀(a0:Xc) zr,rec_ a0=N zr→FCz Z 42 [.p] (CT F_w0 caps_w0 a0) (CU a0) (CT F_w0 caps_w0 zr) (CU zr) [])(h:KF w0 rec_ a0=N r):FCz Z 42 [.p] (CT F_w0 caps_w0 a0) (CU a0) (CT F_w0 caps_w0 r) (CU r) []:=by
 unfold KF at h;refine Of (σ:=⟨[(0,vc (.pb 99999999999 0))],[(99999999999,[aI a0.h.Forecast.Tide.Mean,aL (Y Xh.row a0.h.Forecast.Tide.Parts),aL (Y Xe.row a0.h.Forecast.Surges),aL (Y Xa.row a0.h.Chart.Points),aL (Y X1.row a0.h.Chart.Segments),aL (Y X9.row a0.h.Fleet),aI a0.h.Regime.Gap,aB a0.h.Regime.NoMeet,aI a0.h.Crew.Tugs,aI a0.h.Crew.Pilots,aI a0.h.Crew.Rest,aL (Y rI a0.h.Crew.Moves),aL (Y (rL X0.row) a0.choices),.dat (.clo F_w0 caps_w0),.own 90000,.own 90001,.own 90002,aI a0.least.i0,aI a0.least.i1,aB a0.found])],[(90000,4,Y X0.row a0.plan),(90001,1,Y rI a0.choice),(90002,1,Y rI a0.best)]⟩) mixed dM X X X X ?_;refine Bv Ng ?_;intro S hS;refine ev hS ?_;try simp only[C,E,F,G,H,J]
 refine At ?_;obtain⟨r1,h1,h⟩:=ob h;try simp only[C,E,F,G,H,J]
 refine fv (h_w0 _ _ h1) hF_w0 (by first | rfl | kernel_rfl) (by first | rfl | kernel_rfl) (Cv X) X (uf X) ?_;try simp only[C,E,F,G,H,J]
 refine P8 (m:= .box 2 [aI (0:U),aI (0:U)]) X X (NK X X) ?_;try simp only[C,E,F,G,H,J]
 refine At ?_;try simp only[C,E,F,G,H,J]
 refine At ?_;obtain⟨h2,h⟩|⟨h2,h⟩:=ic h
 ·obtain⟨r3,h3,h⟩:=ob h;try simp only[h2,C,E,F,G,H,J]
  refine Cs (Ak ro h3) ?_;obtain⟨h4,h⟩|⟨h4,h⟩:=ic h
  ·try simp only[h2,h4,C,E,F,G,H,J]
   refine VZ hF_w0 h_w0 h_rec h ?_ (by kernel_rfl);try simp only[h2,h4,C,E,F,G,H,J,pL,aM,I]
  ·try simp only[h2,h4,C,E,F,G,H,J]
   cases h;exact⟨trivial,[90000,90001,90002],by decide,by decide,X,X⟩
 ·try simp only[h2,C,E,F,G,H,J]
  refine VZ hF_w0 h_w0 h_rec h ?_ (by kernel_rfl);try simp only[h2,C,E,F,G,H,J,pL,aM,I]
theorem rk(w0:(P X0)→Q Xi)(F_w0:FuncId)(caps_w0:P D)(hF_w0:Bs Z F_w0=T)(h_w0:∀z0 zr,w0 z0=N zr→FC Z F_w0 ([.sc (.sl (Y X0.row z0))]++caps_w0.map .sc) [.ag [.v (.int .i64 zr.i0),.v (.int .i64 zr.i1)]]):∀(n:W) (a0 r:Xc),DA w0 n a0=N r→FCz Z 42 [.p] (CT F_w0 caps_w0 a0) (CU a0) (CT F_w0 caps_w0 r) (CU r) []:=by
 intro n
 induction n with
 | zero=>intro _ r h; cases h
 | succ n ih=>intro a0 r h; rw[DA] at h; exact rj w0 (DA w0 n) a0 r F_w0 caps_w0 hF_w0 h_w0 ih h
theorem ri{w0}{a0}{r}(F_w0:FuncId)(caps_w0:P D)(hF_w0:Bs Z F_w0=T)(h_w0:∀z0 zr,w0 z0=N zr→FC Z F_w0 ([.sc (.sl (Y X0.row z0))]++caps_w0.map .sc) [.ag [.v (.int .i64 zr.i0),.v (.int .i64 zr.i1)]])(h:OZ w0 a0=N r):FCz Z 42 [.p] (CT F_w0 caps_w0 a0) (CU a0) (CT F_w0 caps_w0 r) (CU r) []:=rk w0 F_w0 caps_w0 hF_w0 h_w0 bigN a0 r h
def W7:P (P W × AItem):= [([],(O,.mv 17 (S 9))),([0],(O,.nilc 18 (S 17))),([1],(O,.faddr 19 (S 18) 16)),([2],(O,.load 20 (S 19) L 1)),([],(O,.mv 21 (S 9))),([4],(O,.nilc 22 (S 21))),([5],(O,.faddr 23 (S 22) 17)),([6],(O,.load 24 (S 23) T 2)),([],(O,.mv 25 (S 9))),([8],(O,.nilc 26 (S 25))),([9],(O,.faddr 27 (S 26) 19)),([10],(O,.load 28 (S 27) L 1)),([3,0,1,2,3],(O,.mv 6 (S 20))),([7,12,0,1,2,3,4,5,6,7,12],(O,.store (S 7) (S 24) 2)),([11,13,0,1,2,3,4,5,6,7,8,9,10,11,12,13],(O,.mv 8 (S 28)))]
def iA:Hw:=([],[(3,5,(O,.ownb 14 14 143232 4)),(3,6,(O,.ownb 14 15 143296 1)),(3,7,(O,.ownb 14 16 143360 1))])
abbrev HE(r1:Xc)(c0_ c1_:V)(c2_ c3_:V)(c4_ c5_:V)(c6_ c7_:V)(c8_ c9_:V)(c10_ c11_:V)(c12_ c14_:V)(bx_:P (W × P AC))(rs_:Rows):St:=⟨[(7,vc (.pb 7 0)),(9,vc (.pb 14 0)),(17,bif c0_ then vc (.pb 14 0) else .undef),(18,bif c1_ then vc (.pb 14 0) else .undef),(19,bif c2_ then vc (.pb 14 16) else .undef),(20,bif c3_ then vc (.own 143360) else .undef),(21,bif c4_ then vc (.pb 14 0) else .undef),(22,bif c5_ then vc (.pb 14 0) else .undef),(23,bif c6_ then vc (.pb 14 17) else .undef),(24,bif c7_ then va [aI r1.least.i0,aI r1.least.i1] else .undef),(25,bif c8_ then vc (.pb 14 0) else .undef),(26,bif c9_ then vc (.pb 14 0) else .undef),(27,bif c10_ then vc (.pb 14 19) else .undef),(28,bif c11_ then vc (aB r1.found) else .undef),(6,bif c12_ then vc (.own 143360) else .undef),(8,bif c14_ then vc (aB r1.found) else .undef)],bx_,rs_⟩
abbrev O8(F_a2:FuncId)(caps_a2:P D)(r1:Xc):St:=(HE r1 T T T T T T T T T T T T T T [(7,[aI r1.least.i0,aI r1.least.i1]),(14,(dm r1.h.row++ [aL (Y (rL X0.row) r1.choices),.dat (.clo F_a2 caps_a2),.own 143232,.own 143296,.own 143360,aI r1.least.i0,aI r1.least.i1,aB r1.found]))] [(143232,4,Y X0.row r1.plan),(143296,1,Y rI r1.choice),(143360,1,Y rI r1.best)])
theorem uU(F_a2:FuncId)(caps_a2:P D)(r1:Xc):∀(f:W) (b8 b9:V) (b10 b11 b14:V),Af Z W7 (O8 F_a2 caps_a2 r1) f [T,T,T,T,T,T,T,T,b8,b9,b10,b11,T,T,b14] (HE r1 T T T T T T T T b8 b9 b10 b11 T b14 [(7,[aI r1.least.i0,aI r1.least.i1]),(14,(dm r1.h.row++ [aL (Y (rL X0.row) r1.choices),.dat (.clo F_a2 caps_a2),.own 143232,.own 143296,.own 143360,aI r1.least.i0,aI r1.least.i1,aB r1.found]))] [(143232,4,Y X0.row r1.plan),(143296,1,Y rI r1.choice),(143360,1,Y rI r1.best)]):=by
 intro f
 induction f with
 | zero=>
  intro b8 b9 b10 b11 b14 h;obtain rfl:b8=T:=zA.1 h b8 (by simp);obtain rfl:b9=T:=zA.1 h b9 (by simp);obtain rfl:b10=T:=zA.1 h b10 (by simp);obtain rfl:b11=T:=zA.1 h b11 (by simp);obtain rfl:b14=T:=zA.1 h b14 (by simp);rfl
 | succ f ih=>
  intro b8 b9 b10 b11 b14;refine Aj ⟨?_,?_,?_,?_,?_,?_,?_,?_,?_,?_,?_,?_,?_,?_,?_,⟨⟩⟩<;>try first | (intro h; cases h; done) | (intro h0 hw; obtain rfl:=hz h0 rfl; (try obtain rfl:=hq hw 8 rfl rfl); (try obtain rfl:=hq hw 9 rfl rfl); (try obtain rfl:=hq hw 10 rfl rfl); (try obtain rfl:=hq hw 11 rfl rfl); refine np ?_; simp only[HE,A3,A6,A2,C,E,F,G,H,J]; exact ih _ _ _ _ _)
theorem uV(F_a2:FuncId)(caps_a2:P D)(r1:Xc):∀(f:W) (b0 b1:V) (b2 b3:V) (b4 b5:V) (b6 b7:V) (b8 b9:V) (b10 b11 b12:V),Af Z W7 (O8 F_a2 caps_a2 r1) f [b0,b1,b2,b3,b4,b5,b6,b7,b8,b9,b10,b11,b12,L,L] (HE r1 b0 b1 b2 b3 b4 b5 b6 b7 b8 b9 b10 b11 b12 L [(7,[aI (0:U),aI (0:U)]),(14,(dm r1.h.row++ [aL (Y (rL X0.row) r1.choices),.dat (.clo F_a2 caps_a2),.own 143232,.own 143296,.own 143360,aI r1.least.i0,aI r1.least.i1,aB r1.found]))] [(143232,4,Y X0.row r1.plan),(143296,1,Y rI r1.choice),(143360,1,Y rI r1.best)]):=by
 intro f
 induction f with
 | zero=>intro b0 b1 b2 b3 b4 b5 b6 b7 b8 b9 b10 b11 b12 h; simp at h
 | succ f ih=>
  intro b0 b1 b2 b3 b4 b5 b6 b7 b8 b9 b10 b11 b12;refine Aj ⟨?_,?_,?_,?_,?_,?_,?_,?_,?_,?_,?_,?_,?_,?_,?_,⟨⟩⟩<;>try first | (intro _ hw; simp at hw; done) | (intro h0 hw; obtain rfl:=hz h0 rfl; (try obtain rfl:=hq hw 0 rfl rfl); (try obtain rfl:=hq hw 1 rfl rfl); (try obtain rfl:=hq hw 2 rfl rfl); (try obtain rfl:=hq hw 3 rfl rfl); (try obtain rfl:=hq hw 4 rfl rfl); (try obtain rfl:=hq hw 5 rfl rfl); (try obtain rfl:=hq hw 6 rfl rfl); (try obtain rfl:=hq hw 8 rfl rfl); (try obtain rfl:=hq hw 9 rfl rfl); (try obtain rfl:=hq hw 10 rfl rfl); refine np ?_; simp only[HE,A3,A6,A2,C,E,F,G,H,J]; exact ih _ _ _ _ _ _ _ _ _ _ _ _ _)
  ·intro h0 hw;obtain rfl:=hq hw 0 rfl rfl;obtain rfl:=hq hw 1 rfl rfl;obtain rfl:=hq hw 2 rfl rfl;obtain rfl:=hq hw 3 rfl rfl;obtain rfl:=hq hw 4 rfl rfl;obtain rfl:=hq hw 5 rfl rfl;obtain rfl:=hq hw 6 rfl rfl;obtain rfl:=hq hw 7 rfl rfl;obtain rfl:=hq hw 12 rfl rfl;refine np ?_;try simp only[HE,A3,A6,A2,C,E,F,G,H,J]
   exact uU F_a2 caps_a2 r1 _ b8 b9 b10 b11 L
theorem re{a0}{a1}{a2}{r}(F_a2:FuncId)(caps_a2:P D)(hF_a2:Bs Z F_a2=T)(h_a2:∀z0 zr,a2 z0=N zr→FC Z F_a2 ([.sc (.sl (Y X0.row z0))]++caps_a2.map .sc) [.ag [.v (.int .i64 zr.i0),.v (.int .i64 zr.i1)]])(h:KA a0 a1 a2=N r):FC Z 16 [.ag (X3.row a0),.sc (.sl (Y (rL X0.row) a1)),.sc (.clo F_a2 caps_a2)] [.sc (.o 1 (Y rI r.1)),.ag [.v (.int .i64 r.2.1.i0),.v (.int .i64 r.2.1.i1)],.sc (.v (.bool r.2.2))]:=by
 unfold KA at h;refine A5 mixed iA [6,.c 7 T 2,8] 29 ?_;intro S hS;refine ev hS ?_;simp only[C,E,F,G,H,J];try simp only[C,E,F,G,H,J]
 refine BL ?_;try simp only[C,E,F,G,H,J]
 refine AK ?_;try simp only[C,E,F,G,H,J]
 refine BL ?_;try simp only[C,E,F,G,H,J]
 refine E7 (cs':= [aI a0.Forecast.Tide.Mean,aL (Y Xh.row a0.Forecast.Tide.Parts),aL (Y Xe.row a0.Forecast.Surges),aL (Y Xa.row a0.Chart.Points),aL (Y X1.row a0.Chart.Segments),aL (Y X9.row a0.Fleet),aI a0.Regime.Gap,aB a0.Regime.NoMeet,aI a0.Crew.Tugs,aI a0.Crew.Pilots,aI a0.Crew.Rest,aL (Y rI a0.Crew.Moves),aL (Y (rL X0.row) a1),.dat (.clo F_a2 caps_a2),.own 143232,.nil,.nil,aI (0:U),aI (0:U),aB L]) X X X X ?_;try simp only[C,E,F,G,H,J]
 refine E7 (cs':= [aI a0.Forecast.Tide.Mean,aL (Y Xh.row a0.Forecast.Tide.Parts),aL (Y Xe.row a0.Forecast.Surges),aL (Y Xa.row a0.Chart.Points),aL (Y X1.row a0.Chart.Segments),aL (Y X9.row a0.Fleet),aI a0.Regime.Gap,aB a0.Regime.NoMeet,aI a0.Crew.Tugs,aI a0.Crew.Pilots,aI a0.Crew.Rest,aL (Y rI a0.Crew.Moves),aL (Y (rL X0.row) a1),.dat (.clo F_a2 caps_a2),.own 143232,.own 143296,.nil,aI (0:U),aI (0:U),aB L]) X X X X ?_;try simp only[C,E,F,G,H,J]
 refine E7 (cs':= [aI a0.Forecast.Tide.Mean,aL (Y Xh.row a0.Forecast.Tide.Parts),aL (Y Xe.row a0.Forecast.Surges),aL (Y Xa.row a0.Chart.Points),aL (Y X1.row a0.Chart.Segments),aL (Y X9.row a0.Fleet),aI a0.Regime.Gap,aB a0.Regime.NoMeet,aI a0.Crew.Tugs,aI a0.Crew.Pilots,aI a0.Crew.Rest,aL (Y rI a0.Crew.Moves),aL (Y (rL X0.row) a1),.dat (.clo F_a2 caps_a2),.own 143232,.own 143296,.own 143360,aI (0:U),aI (0:U),aB L]) X X X X ?_;try simp only[C,E,F,G,H,J]
 refine L9 ?_;obtain⟨r1,h1,h⟩:=ob h;try simp only[C,E,F,G,H,J]
 refine IL (ri F_a2 caps_a2 hF_a2 h_a2 h1) 14 [143232,143296,143360] rfl X X X (by decide) X X X ?_;try simp only[C,E,F,G,H,J]
 refine D3 (ks:= [7,9]) (bs:= [7,14]) (rs:= [143232,143296,143360]) (τ:=(O8 F_a2 caps_a2 r1)) X (uV F_a2 caps_a2 r1 _ L L L L L L L L L L L L L) ?_;simp only[O8,HE,A3];try simp only[C,E,F,G,H,J]
 cases h;try simp only[Cj,C,E,F,G,H,J]
 trivial
def SF:Hw:=([(8,[3,6,7,8],[],[])],[])
def Wz:=fun a0 (k_:U→U→Q U)=>∀{v1 v2} {zr},k_ v1 v2=N zr→Kh Z 43 SF 8 [3,6,7,8] [] [] ⟨[pI 3 v1,pL 6 X0.row a0,pI 7 (a0.length:U),pI 8 v2],[],[]⟩ (A9 [2] [.sc (.v (.int .i64 zr))])
theorem uW{a0}{n:W}:Wz a0 (Gw a0 n):=by
 induction n with
 | zero=>intro _ _ r h; cases h
 | succ n ih=>
  intro v1 v2 r h σ hσ;rw[Gw] at h;exact gc
instance xE:Ct 43 (∀{a0} {r},MH a0=N r→FC Z 43 [.sc (.sl (Y X0.row a0))] [.sc (.v (.int .i64 r))]):=by
 refine⟨fun h=> ?_⟩;unfold MH at h;refine A5 mixed SF [2] 18 ?_;have k0:= @uW;exact gc
theorem rT{a0}{r}(h:Ku a0=N r):FC Z 18 [.sc (.sl (Y X0.row a0))] [.ag [.v (.int .i64 r.i0),.v (.int .i64 r.i1)]]:=by
 unfold Ku at h;refine A5 mixed h0 [.c 2 T 2] 6 ?_;exact gc
instance qh:Ct 5 (∀{a0} {a1} {r},Fl a0 a1=N r→FC Z 5 [.ag (X3.row a0),.sc (.sl (Y X7.row a1))] [.sc (.o 1 (Y rI r.1)),.sc (.v (.int .i64 r.2.1)),.sc (.v (.bool r.2.2))]):=by
 refine⟨fun{a0} {a1} {r} h=> ?_⟩;unfold Fl at h;refine A5 mixed h0 [4,5,6] 27 ?_;intro S hS;refine ev hS ?_;simp only[C,E,F,G,H,J];try simp only[C,E,F,G,H,J]
 refine BL ?_;obtain⟨r1,h1,h⟩:=ob h;try simp only[C,E,F,G,H,J]
 refine AM (Ak qj h1) ?_;obtain⟨h2,h⟩|⟨h2,h⟩:=ic h
 ·try simp only[h2,C,E,F,G,H,J]
  refine At ?_;obtain⟨r3,h3,h⟩:=ob h;try simp only[h2,C,E,F,G,H,J]
  refine Cs (Ak rR h3) ?_;obtain⟨r4,h4,h⟩:=ob h;try simp only[h2,C,E,F,G,H,J]
  refine FS (re 18 [] (by kernel_rfl) (fun z0 zr zh=>rT zh) h4) (by first | rfl | kernel_rfl) (D1 X ⟨D2,X,X,X,⟨⟩⟩) X (uf X) ?_;try simp only[h2,C,E,F,G,H,J]
  refine P8 (m:= .box 8 [aI (0:U),aI (0:U)]) X X (NK X X) ?_;try simp only[h2,C,E,F,G,H,J]
  refine At ?_;try simp only[h2,C,E,F,G,H,J]
  refine At ?_;try simp only[h2,C,E,F,G,H,J]
  cases h;trivial
 ·try simp only[h2,C,E,F,G,H,J]
  cases h;trivial
def SG:Hw:=([(14,[1,12,13,14],[],[])],[])
def WN:=fun a1 (k_:U→Q V)=>∀{v2} {zr},k_ v2=N zr→Kh Z 87 SG 14 [1,12,13,14] [] [] ⟨[pL 1 rI a1,pL 12 rI a1,pI 13 (a1.length:U),pI 14 v2],[],[]⟩ (A9 [4] [.sc (.v (.bool zr))])
theorem uX{a1}{n:W}:WN a1 (GI a1 n):=by
 induction n with
 | zero=>intro _ r h; cases h
 | succ n ih=>
  intro v2 r h σ hσ;rw[GI] at h;exact gc
instance xV:Ct 87 (∀{a0} {a1} {r},K0 a0 a1=N r→FC Z 87 [.sc (.sl (Y X7.row a0)),.sc (.sl (Y rI a1))] [.sc (.v (.bool r))]):=by
 refine⟨fun h=> ?_⟩;unfold K0 at h;refine A5 mixed SG [4] 33 ?_;have k0:= @uX;exact gc
def Pi:Hw:=([(8,[0,3,6,7,8],[],[]),(21,[0,3,4,6,7,8,24],[],[])],[])
def Wy:=fun a0 v1 v2 (k_:V→Q U)=>∀{v7} {zr},k_ v7=N zr→Kh Z 127 Pi 21 [0,3,4,6,7,8,24] [] [] ⟨[pL 0 X0.row a0,pI 3 v1,pI 4 v2,pL 6 X0.row a0,pI 7 (a0.length:U),pI 8 v2,(24,vc (aB v7))],[],[]⟩ (A9 [2] [.sc (.v (.int .i64 zr))])
def QJ:=fun a0 (k_:U→U→Q U)=>∀{v1 v2} {zr},k_ v1 v2=N zr→Kh Z 127 Pi 8 [0,3,6,7,8] [] [] ⟨[pL 0 X0.row a0,pI 3 v1,pL 6 X0.row a0,pI 7 (a0.length:U),pI 8 v2],[],[]⟩ (A9 [2] [.sc (.v (.int .i64 zr))])
theorem W0{a0 v1 v2}{Ln}(iG:QJ a0 Ln):Wy a0 v1 v2 (If a0 v1 v2 Ln):=by
 intro v7 r h σ hσ;unfold If at h;have k0:= @iG;exact gc
theorem uZ{a0}{n:W}:QJ a0 (Ez a0 n):=by
 induction n with
 | zero=>intro _ _ r h; cases h
 | succ n ih=>
  intro v1 v2 r h σ hσ S hS;refine ev hS ?_;rw[Ez] at h;refine AP (Aw ?_);obtain⟨h3,h⟩|⟨h3,h⟩:=ic h
  ·obtain⟨x4,h4,h⟩:=ob h;try simp only[hσ,h3,h4,C,E,F,G,H,J]
   refine AK ?_;try simp only[h3,h4,C,E,F,G,H,J]
   refine At ?_;obtain⟨h5,h⟩|⟨h5,h⟩:=ic h
   ·try simp only[h3,h4,h5,C,E,F,G,H,J]
    refine W0 ih h ?_ (by kernel_rfl);try simp only[h3,h4,h5,C,E,F,G,H,J,pL,aM,I]
   ·obtain⟨x6,h6,h⟩:=ob h;try simp only[h3,h4,h5,h6,C,E,F,G,H,J]
    refine W0 ih h ?_ (by kernel_rfl);try simp only[h3,h4,h5,h6,C,E,F,G,H,J,pL,aM,I]
  ·try simp only[hσ,h3,C,E,F,G,H,J]
   cases h;exact t0
instance qo:Ct 127 (∀{a0} {r},MG a0=N r→FC Z 127 [.sc (.sl (Y X0.row a0))] [.sc (.v (.int .i64 r))]):=by
 refine⟨fun h=> ?_⟩;unfold MG at h;refine A5 mixed Pi [2] 28 ?_;have k0:= @uZ;exact gc
instance qr:Ct 88 (∀{a0} {a1} {r},JR a0 a1=N r→FC Z 88 [.ag (X3.row a0),.ag (X7.row a1)] [.sc (.v (.int .i64 r))]):=by
 refine⟨fun{a0} {a1} {r} h=> ?_⟩;unfold JR at h;refine A5 mixed h0 [4] 18 ?_;intro S hS;refine ev hS ?_;simp only[C,E,F,G,H,J];try simp only[C,E,F,G,H,J]
 refine BL ?_;try simp only[C,E,F,G,H,J]
 refine BL ?_;obtain⟨r1,h1,h⟩:=ob h;try simp only[C,E,F,G,H,J]
 refine AM (Ak Qn h1) ?_;obtain⟨h2,h⟩|⟨h2,h⟩:=ic h
 ·try simp only[h2,C,E,F,G,H,J]
  cases h;exact t0
 ·obtain⟨r3,h3,h⟩:=ob h;try simp only[h2,C,E,F,G,H,J]
  refine Dj (Ak qo h3) X (Cv X) X (uf X) ?_;obtain⟨x4,h4,h⟩:=ob h;have h4n:=AJ h4;try simp only[h2,h4,h4n,C,E,F,G,H,J]
  cases h;exact t0
def Nh:Hw:=([(8,[3,5,7,15,16,17],[3,5],[960]),(22,[3,5,7,9,15,16,17,23,24,25],[3,5,9],[960,1472]),(37,[3,5,7,9,12,15,16,17,23,24,25,52],[3,5,9],[960,1472])],[])
def WR:=fun v7 r1 v3 r6 v8 (a0:X3) (a2:X7) (x5:X0) (k_:U→V→Q U)=>∀{v15 v16} {zr},k_ v15 v16=N zr→Kh Z 89 Nh 37 [3,5,7,9,12,15,16,17,23,24,25,52] [3,5,9] [960,1472] ⟨[pB 3,pB 5,pI 7 v7,pB 9,pI 12 v15,pW 15 960,pI 16 (r1.length:U),pI 17 v3,pW 23 1472,pI 24 (r6.length:U),pI 25 v8,(52,vc (aB v16))],[(3,(dm a0.row)),(5,(dm a2.row)),(9,(dm x5.row))],[(960,4,Y X0.row r1),(1472,4,Y X0.row r6)]⟩ (A9 [6] [.sc (.v (.int .i64 zr))])
def QM:=fun r1 v3 r6 (a0:X3) (a2:X7) (x5:X0) (k_:U→U→Q U)=>∀{v7 v8} {zr},k_ v7 v8=N zr→Kh Z 89 Nh 22 [3,5,7,9,15,16,17,23,24,25] [3,5,9] [960,1472] ⟨[pB 3,pB 5,pI 7 v7,pB 9,pW 15 960,pI 16 (r1.length:U),pI 17 v3,pW 23 1472,pI 24 (r6.length:U),pI 25 v8],[(3,(dm a0.row)),(5,(dm a2.row)),(9,(dm x5.row))],[(960,4,Y X0.row r1),(1472,4,Y X0.row r6)]⟩ (A9 [6] [.sc (.v (.int .i64 zr))])
def QL:=fun r1 (a0:X3) (a2:X7) (k_:U→U→Q U)=>∀{v2 v3} {zr},k_ v2 v3=N zr→Kh Z 89 Nh 8 [3,5,7,15,16,17] [3,5] [960] ⟨[pB 3,pB 5,pI 7 v2,pW 15 960,pI 16 (r1.length:U),pI 17 v3],[(3,(dm a0.row)),(5,(dm a2.row))],[(960,4,Y X0.row r1)]⟩ (A9 [6] [.sc (.v (.int .i64 zr))])
theorem Qu{v7 r1 v3 r6 v8 a0 a2 x5}{Lo}(iJ:QM r1 v3 r6 a0 a2 x5 Lo):WR v7 r1 v3 r6 v8 a0 a2 x5 (GK v7 r1 v3 r6 v8 a0 a2 x5 Lo):=by
 intro v15 v16 r h σ hσ;unfold GK at h;have k0:= @iJ;exact gc
theorem ua{r1 v3 r6 a0 a2 x5}{Hn}(iI:QL r1 a0 a2 Hn){n:W}:QM r1 v3 r6 a0 a2 x5 (DW r1 v3 r6 a0 a2 x5 Hn n):=by
 induction n with
 | zero=>intro _ _ r h; cases h
 | succ n ih=>
  intro v7 v8 r h σ hσ S hS;refine ev hS ?_;rw[DW] at h;refine AP (Aw ?_);obtain⟨h9,h⟩|⟨h9,h⟩:=ic h
  ·obtain⟨x10,h10,h⟩:=ob h;have h10n:=AJ h10;try simp only[hσ,h9,h10,h10n,C,E,F,G,H,J]
   refine AK ?_;obtain⟨h11,h⟩|⟨h11,h⟩:=ic h
   ·obtain⟨r12,h12,h⟩:=ob h;try simp only[h9,h10,h10n,h11,C,E,F,G,H,J]
    refine AM (Ak Qo h12) ?_;try simp only[h9,h10,h10n,h11,C,E,F,G,H,J]
    refine Qu ih h ?_ (by kernel_rfl);try simp only[h9,h10,h10n,h11,C,E,F,G,H,J,pL,aM,I]
   ·obtain⟨h13,h⟩|⟨h13,h⟩:=ic h
    ·obtain⟨r14,h14,h⟩:=ob h;try simp only[h9,h10,h10n,h11,h13,C,E,F,G,H,J]
     refine AM (Ak Qo h14) ?_;try simp only[h9,h10,h10n,h11,h13,C,E,F,G,H,J]
     refine Qu ih h ?_ (by kernel_rfl);try simp only[h9,h10,h10n,h11,h13,C,E,F,G,H,J,pL,aM,I]
    ·try simp only[h9,h10,h10n,h11,h13,C,E,F,G,H,J]
     refine Qu ih h ?_ (by kernel_rfl);try simp only[h9,h10,h10n,h11,h13,C,E,F,G,H,J,pL,aM,I]
  ·try simp only[hσ,h9,C,E,F,G,H,J]
   refine iI h ?_ (by kernel_rfl);try simp only[h9,C,E,F,G,H,J,pL,aM,I]
theorem ub{r1 a0 a2}{n:W}:QL r1 a0 a2 (EE r1 a0 a2 n):=by
 induction n with
 | zero=>intro _ _ r h; cases h
 | succ n ih=>
  intro v2 v3 r h σ hσ S hS;refine ev hS ?_;rw[EE] at h;refine AP (Aw ?_);obtain⟨h4,h⟩|⟨h4,h⟩:=ic h
  ·obtain⟨x5,h5,h⟩:=ob h;have h5n:=AJ h5;try simp only[hσ,h4,h5,h5n,C,E,F,G,H,J]
   refine AK ?_;obtain⟨r6,h6,h⟩:=ob h;try simp only[h4,h5,h5n,C,E,F,G,H,J]
   refine AM (Ak Qn h6) ?_;try simp only[h4,h5,h5n,C,E,F,G,H,J]
   refine ua ih h ?_ (by kernel_rfl);try simp only[h4,h5,h5n,C,E,F,G,H,J,pL,aM,I]
  ·try simp only[hσ,h4,C,E,F,G,H,J]
   cases h;exact t0
instance qy:Ct 89 (∀{a0} {a1} {a2} {r},K5 a0 a1 a2=N r→FC Z 89 [.ag (X3.row a0),.ag (X7.row a1),.ag (X7.row a2)] [.sc (.v (.int .i64 r))]):=by
 refine⟨fun h=> ?_⟩;unfold K5 at h;refine A5 mixed Nh [6] 57 ?_;have k0:= @ub;exact gc
def Ni:Hw:=([(5,[1,2,3,21],[3],[]),(16,[1,3,8,22,23,24],[3],[]),(40,[1,3,8,11,22,23,24],[3],[])],[])
def Wr:=fun a1 v6 a2 v7 (a0:X3) (k_:U→Q (U × V))=>∀{v17} {zr},k_ v17=N zr→Kh Z 46 Ni 40 [1,3,8,11,22,23,24] [3] [] ⟨[pL 1 X7.row a1,pB 3,pI 8 v6,pI 11 v17,pL 22 rI a2,pI 23 (a2.length:U),pI 24 v7],[(3,(dm a0.row))],[]⟩ (A9 [6,7] [.sc (.v (.int .i64 zr.1)),.sc (.v (.bool zr.2))])
def QE:=fun a1 a2 (a0:X3) (k_:U→U→Q (U × V))=>∀{v6 v7} {zr},k_ v6 v7=N zr→Kh Z 46 Ni 16 [1,3,8,22,23,24] [3] [] ⟨[pL 1 X7.row a1,pB 3,pI 8 v6,pL 22 rI a2,pI 23 (a2.length:U),pI 24 v7],[(3,(dm a0.row))],[]⟩ (A9 [6,7] [.sc (.v (.int .i64 zr.1)),.sc (.v (.bool zr.2))])
def Wq:=fun a1 a2 (a0:X3) (k_:V→Q (U × V))=>∀{v4} {zr},k_ v4=N zr→Kh Z 46 Ni 5 [1,2,3,21] [3] [] ⟨[pL 1 X7.row a1,pL 2 rI a2,pB 3,(21,vc (aB v4))],[(3,(dm a0.row))],[]⟩ (A9 [6,7] [.sc (.v (.int .i64 zr.1)),.sc (.v (.bool zr.2))])
theorem Qv{a1 v6 a2 v7 a0}{NC}(iC:QE a1 a2 a0 NC):Wr a1 v6 a2 v7 a0 (Gn a1 v6 a2 v7 a0 NC):=by
 intro v17 r h σ hσ;unfold Gn at h;have k0:= @iC;exact gc
theorem uc{a1 a2 a0}{n:W}:QE a1 a2 a0 (DT a1 a2 a0 n):=by
 induction n with
 | zero=>intro _ _ r h; cases h
 | succ n ih=>
  intro v6 v7 r h σ hσ S hS;refine ev hS ?_;rw[DT] at h;refine AP (Aw ?_);obtain⟨h8,h⟩|⟨h8,h⟩:=ic h
  ·obtain⟨x9,h9,h⟩:=ob h;obtain⟨h10,h⟩|⟨h10,h⟩:=ic h
   ·try simp only[hσ,h8,h9,h10,C,E,F,G,H,J]
    refine At ?_;obtain⟨x11,h11,h⟩:=ob h;obtain⟨r12,h12,h⟩:=ob h;try simp only[h8,h9,h10,h11,C,E,F,G,H,J]
    refine Cs (Ak qr h12) ?_;try simp only[h8,h9,h10,h11,C,E,F,G,H,J]
    refine Qv ih h ?_ (by kernel_rfl);try simp only[h8,h9,h10,h11,C,E,F,G,H,J,pL,aM,I]
   ·obtain⟨h13,h⟩|⟨h13,h⟩:=ic h
    ·try simp only[hσ,h8,h9,h10,h13,C,E,F,G,H,J]
     refine At ?_;obtain⟨x14,h14,h⟩:=ob h;obtain⟨x15,h15,h⟩:=ob h;obtain⟨r16,h16,h⟩:=ob h;try simp only[h8,h9,h10,h13,h14,h15,C,E,F,G,H,J]
     refine Cs (Ak qy h16) ?_;try simp only[h8,h9,h10,h13,h14,h15,C,E,F,G,H,J]
     refine Qv ih h ?_ (by kernel_rfl);try simp only[h8,h9,h10,h13,h14,h15,C,E,F,G,H,J,pL,aM,I]
    ·try simp only[hσ,h8,h9,h10,h13,C,E,F,G,H,J]
     refine Qv ih h ?_ (by kernel_rfl);try simp only[h8,h9,h10,h13,C,E,F,G,H,J,pL,aM,I]
  ·try simp only[hσ,h8,C,E,F,G,H,J]
   cases h;trivial
theorem ue{a1 a2 a0}:Wq a1 a2 a0 (JN a1 a2 a0):=by
 intro v4 r h σ hσ;unfold JN at h;have k0:= @uc;exact gc
instance wz:Ct 46 (∀{a0} {a1} {a2} {r},JM a0 a1 a2=N r→FC Z 46 [.ag (X3.row a0),.sc (.sl (Y X7.row a1)),.sc (.sl (Y rI a2))] [.sc (.v (.int .i64 r.1)),.sc (.v (.bool r.2))]):=by
 refine⟨fun h=> ?_⟩;unfold JM at h;refine A5 mixed Ni [6,7] 60 ?_;have k0:= @ue;exact gc
end Go.Vi
