/-
Walks. No condition.
-/
import Derived.Test.YtpfcgapakfcllaaGreatDoorCNf
import Derived.Test.YtpfcgapakfcllaaGreatDoorChecked
import Derived.Test.YtpfcgapakfcllaaGreatDoorCSh
import Derived.Test.YtpfcgapakfcllaaGreatDoorCVi43
import Derived.KernelRfl
namespace Go.Vi
open Go.Proofs
set_option linter.all false
set_option maxRecDepth 4000
set_option maxHeartbeats 2000000
open Nat renaming reduceBEq → E, reduceMul → F, reduceAdd → G, reduceDiv → H, le_of_ble_eq_true → uf
open Int renaming reduceBEq → I
attribute [local irreducible] go AM Gx
open List renaming map → Z, map_nil → zB, all_cons → zG, all_nil → zH, cons_append → zJ, nil_append → zK
open Tryz renaming prog → zA
open Int renaming toNat → zC
open Xf renaming row → zD
open Xb renaming row → zE
open Xd renaming row → zF
open Xh renaming row → zI
open Bool renaming true → T, false → L
open Option renaming some → N, none → O
open _root_ renaming List → P, Option → Q, Int → U, Bool → V, Nat → W, UInt8 → X, rfl → Y
theorem mixed:Tryz.prog.follows .mixedOrders=T:=by kernel_rfl
def L3:Hw:=([(8,[0,3,4],[],[]),(19,[0,3],[],[])],[])
def WA:=fun a0 v1 (k_:Q Xn)=>∀{zr},k_=N zr→Kh zA 15 L3 19 [0,3] [] [] ⟨[pL 0 r8 a0,pI 3 v1],[],[]⟩ (GO [2] [.sl (Z r8 zr.b),.int .i64 zr.i,.int .i64 zr.h])
def Wz:=fun a0 (k_:U→U→Q Xn)=>∀{v1 v2} {zr},k_ v1 v2=N zr→Kh zA 15 L3 8 [0,3,4] [] [] ⟨[pL 0 r8 a0,pI 3 v1,pI 4 v2],[],[]⟩ (GO [2] [.sl (Z r8 zr.b),.int .i64 zr.i,.int .i64 zr.h])
theorem pV{a0 v1}:WA a0 v1 (Gi a0 v1):=by
 intro r h σ hσ S hS;refine ev hS ?_;refine An ?_;unfold Gi at h;try simp only[hσ,E,F,G,H,I,J]
 refine BA ?_;try simp only[E,F,G,H,I,J]
 cases h;exact⟨_,31,Y,Y,Y,Y⟩
theorem qq{a0}{n:W}:Wz a0 (EW a0 n):=by
 induction n with
 | zero=>intro _ _ r h; cases h
 | succ n ih=>
  intro v1 v2 r h σ hσ;rw[EW] at h;have k0:= @pV;exact gc
theorem aw:AB zA 15=N ((By zA 15 L3).strip,[2],32):=by kernel_rfl
theorem oy{a0}{r}(h:I6 a0=N r):FCn zA 15 [.sc (.sl (Z r8 a0))] [.sl (Z r8 r.b),.int .i64 r.i,.int .i64 r.h]:=by
 unfold I6 at h;refine P3 (σ:=⟨[(0,vc (aL (Z r8 a0)))],[],[]⟩) mixed aw Y Y ?_;refine BG L3 ?_;have k0:= @qq;exact gc
theorem az:AB zA 10=N ((By zA 10 h0).strip,[2],58):=by kernel_rfl
theorem OP{a0}{r}(h:Ed a0=N r):FCy zA 10 [.p] [.sl (Z r8 a0.b),.int .i64 a0.i,.int .i64 a0.h] [.sl (Z r8 r.2.b),.int .i64 r.2.i,.int .i64 r.2.h] [.sc (.v (.int .i64 r.1))]:=by
 unfold Ed at h;refine DC (σ:=⟨[(0,vc (.pb 99999999999 0))],[(99999999999,[aL (Z r8 a0.b),aI a0.i,aI a0.h])],[]⟩) mixed az Y Y ?_;refine BG h0 ?_;exact gc
def NY:Hw:=([(8,[1,5,6],[8],[])],[])
def WB:=fun a1 (k_:U→(P U)→U→U→Q Xn)=>∀{v2 v3 v4 v5} {zr},k_ v2 v3 v4 v5=N zr→Kh zA 9 NY 8 [1,5,6] [8] [] ⟨[pI 1 a1,(5,vc (.pb 8 0)),pI 6 v2],[(8,[aM r8 v3,aI v4,aI v5])],[]⟩ (GO [4] [.sl (Z r8 zr.b),.int .i64 zr.i,.int .i64 zr.h])
theorem sC{a1}{n:W}:WB a1 (EX a1 n):=by
 induction n with
 | zero=>intro _ _ _ _ r h; cases h
 | succ n ih=>
  intro v2 v3 v4 v5 r h σ hσ S hS;refine ev hS ?_;rw[EX] at h;refine AF (An ?_);obtain⟨h6,h⟩|⟨h6,h⟩:=ic h
  ·obtain⟨r7,h7,h⟩:=ob h;try simp only[hσ,h6,E,F,G,H,I,J]
   refine BH (OP h7) 8 ?_;try simp only[h6,E,F,G,H,I,J]
   refine ih h ?_ (by kernel_rfl);try simp only[h6,E,F,G,H,I,J,pL,aM,zB]
  ·try simp only[hσ,h6,E,F,G,H,I,J]
   cases h;exact⟨_,8,Y,Y,Y,Y⟩
theorem bF:AB zA 9=N ((By zA 9 NY).strip,[4],17):=by kernel_rfl
theorem oz{a0}{a1}{r}(h:Gj a0 a1=N r):FCn zA 9 [.sc (.sl (Z r8 a0)),.sc (.int .i64 a1)] [.sl (Z r8 r.b),.int .i64 r.i,.int .i64 r.h]:=by
 unfold Gj at h;refine P3 (σ:=⟨[(0,vc (aL (Z r8 a0))),(1,vc (aI a1))],[],[]⟩) mixed bF Y Y ?_;refine BG NY ?_;intro S hS;refine ev hS ?_;obtain⟨r1,h1,h⟩:=ob h;try simp only[E,F,G,H,I,J]
 refine Qv (oy h1) Y Y ?_;try simp only[E,F,G,H,I,J]
 refine sC h ?_ (by kernel_rfl);try simp only[E,F,G,H,I,J,pL,aM,zB]
instance ox:Ct 4 (∀{a0} {a1} {r},I5 a0 a1=N r→FC zA 4 [.sc (.sl (Z r8 a0)),.sc (.int .i64 a1)] [.sc (.v (.int .i64 r))]):=by
 refine⟨fun{a0} {a1} {r} h=> ?_⟩;unfold I5 at h;refine A2 mixed h0 [4] 15 ?_;intro S hS;refine ev hS ?_;simp only[E,F,G,H,I,J];obtain⟨r1,h1,h⟩:=ob h;try simp only[E,F,G,H,I,J]
 refine Qv (oz h1) Y Y ?_;obtain⟨r2,h2,h⟩:=ob h;try simp only[E,F,G,H,I,J]
 refine BH (OP h2) 8 ?_;obtain⟨r3,h3,h⟩:=ob h;try simp only[E,F,G,H,I,J]
 refine BH (OP h3) 8 ?_;try simp only[E,F,G,H,I,J]
 cases h;exact t0
instance Ez:Ct 6 (∀{a0} {r},BW a0=N r→FC zA 6 [.sc (.int .i64 a0)] [.sc (.v (.str r))]):=by
 refine⟨fun{a0} {r} h=> ?_⟩;unfold BW at h;refine A2 mixed h0 [2] 5 ?_;intro S hS;refine ev hS ?_;simp only[E,F,G,H,I,J];obtain⟨r1,h1,h⟩:=ob h;try simp only[E,F,G,H,I,J]
 refine Ai (pA _ _ h1) ?_;try simp only[E,F,G,H,I,J]
 cases h;exact t0
def O0:Hw:=([(10,[0,1,5,6,7],[],[512]),(26,[0,1,5,6,7],[],[512])],[])
def VR:=fun a0 a1 v2 (k_:U→(P (P X))→Q (P (P X)))=>∀{v10 v11} {zr},k_ v10 v11=N zr→Kh zA 14 O0 26 [0,1,5,6,7] [] [512] ⟨[(0,vc (aS a0)),(1,vc (aS a1)),pW 5 512,pI 6 v10,pI 7 v2],[],[(512,1,Z rS v11)]⟩ (A4 [4] [.sc (.o 1 (Z rS zr))])
def Ph:=fun a0 a1 (k_:U→U→(P (P X))→Q (P (P X)))=>∀{v1 v2 v3} {zr},k_ v1 v2 v3=N zr→Kh zA 14 O0 10 [0,1,5,6,7] [] [512] ⟨[(0,vc (aS a0)),(1,vc (aS a1)),pW 5 512,pI 6 v1,pI 7 v2],[],[(512,1,Z rS v3)]⟩ (A4 [4] [.sc (.o 1 (Z rS zr))])
theorem Uy{a0 a1 v2}{Ln}(ex:Ph a0 a1 Ln):VR a0 a1 v2 (Ke a0 a1 v2 Ln):=by
 intro v10 v11 r h σ hσ;unfold Ke at h;have k0:= @ex;exact gc
theorem pX{a0 a1}{n:W}:Ph a0 a1 (HD a0 a1 n):=by
 induction n with
 | zero=>intro _ _ _ r h; cases h
 | succ n ih=>
  intro v1 v2 v3 r h σ hσ S hS;refine ev hS ?_;rw[HD] at h;refine AF (An ?_);obtain⟨h4,h⟩|⟨h4,h⟩:=ic h
  ·obtain⟨b5,h5,h⟩:=ob h;obtain⟨r6,h6,h⟩:=ob h;try simp only[hσ,h4,h5,E,F,G,H,I,J]
   refine Ai (pC _ _ _ h6) ?_;obtain⟨h7,h⟩|⟨h7,h⟩:=ic h
   ·obtain⟨p8,h8,h⟩:=ob h;try simp only[h4,h5,h7,h8,E,F,G,H,I,J]
    refine AP (es:=Z rS ([((a0.drop p8.1).take (p8.2 - p8.1))]:P (P X))) ?_;obtain⟨h9,h⟩:=Az h;try simp only[h4,h5,h7,h8,h9,E,F,G,H,I,J]
    refine Uy ih h ?_ (by kernel_rfl);try simp only[h4,h5,h7,h8,h9,E,F,G,H,I,J,pL,aM,zB]
   ·try simp only[h4,h5,h7,E,F,G,H,I,J]
    refine Uy ih h ?_ (by kernel_rfl);try simp only[h4,h5,h7,E,F,G,H,I,J,pL,aM,zB]
  ·obtain⟨p12,h12,h⟩:=ob h;try simp only[hσ,h4,h12,E,F,G,H,I,J]
   refine AP (es:=Z rS ([((a0.drop p12.1).take (p12.2 - p12.1))]:P (P X))) ?_;obtain⟨h13,h⟩:=Az h;try simp only[h4,h12,h13,E,F,G,H,I,J]
   cases h;exact t0
instance U4:Ct 14 (∀{a0} {a1} {r},HC a0 a1=N r→FC zA 14 [.sc (.str a0),.sc (.str a1)] [.sc (.o 1 (Z rS r))]):=by
 refine⟨fun h=> ?_⟩;unfold HC at h;refine A2 mixed O0 [4] 36 ?_;have s0:= @Ap (Z rS ([]:P (P X)));have k0:= @pX;exact gc
def ee:Hw:=([],[(3,2,(O,.frz 320))])
instance U5:Ct 7 (∀{a0} {r},G4 a0=N r→FC zA 7 [.sc (.str a0)] [.sc (.v (.sl (Z rS r)))]):=by
 refine⟨fun h=> ?_⟩;unfold G4 at h;refine A2 mixed ee [2] 19 ?_;exact gc
instance uO:Ct 16 (∀{r},N5=N r→FC zA 16 [] [.sc (.o 1 (Z rI r))]):=by
 refine⟨fun h=> ?_⟩;unfold N5 at h;refine A2 mixed h0 [0] 2 ?_;have s0:= @CG _ rI (0:U);exact gc
instance nk:Ct 11 (∀{r},JV=N r→FC zA 11 [] [.ag [.v (.int .i64 r.Harbour.Forecast.Tide.Mean),.o 3 (Z zD r.Harbour.Forecast.Tide.Parts),.o 3 (Z zE r.Harbour.Forecast.Surges),.o 2 (Z zF r.Harbour.Chart.Points),.o 5 (Z X6.row r.Harbour.Chart.Segments),.o 6 (Z X8.row r.Harbour.Fleet),.v (.int .i64 r.Harbour.Regime.Gap),.v (.bool r.Harbour.Regime.NoMeet),.v (.int .i64 r.Harbour.Crew.Tugs),.v (.int .i64 r.Harbour.Crew.Pilots),.v (.int .i64 r.Harbour.Crew.Rest),.o 1 (Z rI r.Harbour.Crew.Moves),.o 5 (Z X4.row r.Calls),.v (.int .i64 r.Desk.Now),.o 1 (Z rI r.Desk.Starts),.o 1 (Z rB r.Desk.Cleared)]]):=by
 refine⟨fun h=> ?_⟩;unfold JV at h;refine A2 mixed h0 [.c 0 T 16] 9 ?_;have s0:= @Ap (Z zE ([(⟨(0:U),(0:U),(0:U)⟩:Xb)]:P Xb));exact gc
instance uX:Ct 108 (∀{a0} {r},Na a0=N r→FC zA 108 [.sc (.sl (Z zD a0))] [.sc (.o 3 (Z zD r))]):=by
 refine⟨fun h=> ?_⟩;unfold Na at h;refine A2 mixed h0 [2] 8 ?_;have s0:= @CG _ zD (⟨(0:U),(0:U),(0:U)⟩:Xf);exact gc
instance ui:Ct 72 (∀{a0} {r},Nl a0=N r→FC zA 72 [.ag (Xp.row a0)] [.ag [.v (.int .i64 r.Mean),.o 3 (Z zD r.Parts)]]):=by
 refine⟨fun h=> ?_⟩;unfold Nl at h;refine A2 mixed h0 [.c 2 T 2] 9 ?_;exact gc
instance uc:Ct 73 (∀{a0} {r},Ng a0=N r→FC zA 73 [.sc (.sl (Z zE a0))] [.sc (.o 3 (Z zE r))]):=by
 refine⟨fun h=> ?_⟩;unfold Ng at h;refine A2 mixed h0 [2] 8 ?_;have s0:= @CG _ zE (⟨(0:U),(0:U),(0:U)⟩:Xb);exact gc
instance uh:Ct 34 (∀{a0} {r},Nk a0=N r→FC zA 34 [.ag (zI a0)] [.ag [.v (.int .i64 r.Tide.Mean),.o 3 (Z zD r.Tide.Parts),.o 3 (Z zE r.Surges)]]):=by
 refine⟨fun h=> ?_⟩;unfold Nk at h;refine A2 mixed h0 [.c 2 T 3] 10 ?_;exact gc
instance uZ:Ct 35 (∀{a0} {r},Nc a0=N r→FC zA 35 [.sc (.sl (Z zF a0))] [.sc (.o 2 (Z zF r))]):=by
 refine⟨fun h=> ?_⟩;unfold Nc at h;refine A2 mixed h0 [2] 8 ?_;have s0:= @CG _ zF (⟨([]:P X),L⟩:Xd);exact gc
instance ua:Ct 36 (∀{a0} {r},Nd a0=N r→FC zA 36 [.sc (.sl (Z X6.row a0))] [.sc (.o 5 (Z X6.row r))]):=by
 refine⟨fun h=> ?_⟩;unfold Nd at h;refine A2 mixed h0 [2] 8 ?_;have s0:= @CG _ X6.row (⟨(0:U),(0:U),(0:U),(0:U),L⟩:X6);exact gc
instance ub:Ct 37 (∀{a0} {r},Nf a0=N r→FC zA 37 [.sc (.sl (Z X8.row a0))] [.sc (.o 6 (Z X8.row r))]):=by
 refine⟨fun h=> ?_⟩;unfold Nf at h;refine A2 mixed h0 [2] 8 ?_;have s0:= @CG _ X8.row (⟨([]:P X),(0:U),(0:U),(0:U),(0:U),L⟩:X8);exact gc
instance LQ:Ct 38 (∀{a0} {r},B9 a0=N r→FC zA 38 [.sc (.sl (Z rI a0))] [.sc (.o 1 (Z rI r))]):=by
 refine⟨fun h=> ?_⟩;unfold B9 at h;refine A2 mixed h0 [2] 8 ?_;have s0:= @CG _ rI (0:U);exact gc
instance U7:Ct 21 (∀{a0} {r},HL a0=N r→FC zA 21 [.ag (X2.row a0)] [.ag [.v (.int .i64 r.Forecast.Tide.Mean),.o 3 (Z zD r.Forecast.Tide.Parts),.o 3 (Z zE r.Forecast.Surges),.o 2 (Z zF r.Chart.Points),.o 5 (Z X6.row r.Chart.Segments),.o 6 (Z X8.row r.Fleet),.v (.int .i64 r.Regime.Gap),.v (.bool r.Regime.NoMeet),.v (.int .i64 r.Crew.Tugs),.v (.int .i64 r.Crew.Pilots),.v (.int .i64 r.Crew.Rest),.o 1 (Z rI r.Crew.Moves)]]):=by
 refine⟨fun h=> ?_⟩;unfold HL at h;refine A2 mixed h0 [.c 2 T 12] 30 ?_;exact gc
instance oM:Ct 22 (∀{a0} {r},Kn a0=N r→FC zA 22 [.sc (.sl (Z X4.row a0))] [.sc (.o 5 (Z X4.row r))]):=by
 refine⟨fun h=> ?_⟩;unfold Kn at h;refine A2 mixed h0 [2] 8 ?_;have s0:= @CG _ X4.row (⟨(0:U),(0:U),(0:U),(0:U),(0:U)⟩:X4);exact gc
instance ud:Ct 39 (∀{a0} {r},Nh a0=N r→FC zA 39 [.sc (.sl (Z rB a0))] [.sc (.o 1 (Z rB r))]):=by
 refine⟨fun h=> ?_⟩;unfold Nh at h;refine A2 mixed h0 [2] 8 ?_;have s0:= @CG _ rB L;exact gc
instance ug:Ct 23 (∀{a0} {r},Nj a0=N r→FC zA 23 [.ag (Xo.row a0)] [.ag [.v (.int .i64 r.Now),.o 1 (Z rI r.Starts),.o 1 (Z rB r.Cleared)]]):=by
 refine⟨fun h=> ?_⟩;unfold Nj at h;refine A2 mixed h0 [.c 2 T 3] 12 ?_;exact gc
instance oN:Ct 17 (∀{a0} {r},CP a0=N r→FC zA 17 [.ag (X9.row a0)] [.ag [.v (.int .i64 r.Harbour.Forecast.Tide.Mean),.o 3 (Z zD r.Harbour.Forecast.Tide.Parts),.o 3 (Z zE r.Harbour.Forecast.Surges),.o 2 (Z zF r.Harbour.Chart.Points),.o 5 (Z X6.row r.Harbour.Chart.Segments),.o 6 (Z X8.row r.Harbour.Fleet),.v (.int .i64 r.Harbour.Regime.Gap),.v (.bool r.Harbour.Regime.NoMeet),.v (.int .i64 r.Harbour.Crew.Tugs),.v (.int .i64 r.Harbour.Crew.Pilots),.v (.int .i64 r.Harbour.Crew.Rest),.o 1 (Z rI r.Harbour.Crew.Moves),.o 5 (Z X4.row r.Calls),.v (.int .i64 r.Desk.Now),.o 1 (Z rI r.Desk.Starts),.o 1 (Z rB r.Desk.Cleared)]]):=by
 refine⟨fun h=> ?_⟩;unfold CP at h;refine A2 mixed h0 [.c 2 T 16] 13 ?_;exact gc
def QF:Hw:=([(7,[0,2,4,28],[2],[])],[])
def Wl:=fun a0 (k_:V→Q (Xd × V))=>∀{v7} {zr},k_ v7=N zr→Kh zA 40 QF 7 [0,2,4,28] [2] [] ⟨[pL 0 rS a0,pB 2,pI 4 (a0.length:U),(28,vc (aB v7))],[(2,[aS ([]:P X),aB L])],[]⟩ (A4 [.c 2 T 2,3] [.ag [.v (.str zr.1.Name),.v (.bool zr.1.Wait)],.sc (.v (.bool zr.2))])
theorem px{a0}:Wl a0 (ER a0):=by
 intro v7 r h σ hσ;unfold ER at h;exact gc
instance oh:Ct 40 (∀{a0} {r},Nu a0=N r→FC zA 40 [.sc (.sl (Z rS a0))] [.ag [.v (.str r.1.Name),.v (.bool r.1.Wait)],.sc (.v (.bool r.2))]):=by
 refine⟨fun h=> ?_⟩;unfold Nu at h;refine A2 mixed QF [.c 2 T 2,3] 36 ?_;have k0:= @px;exact gc
def QI:Hw:=([(8,[4,10,11,12],[],[576])],[])
def Wh:=fun a0 (k_:U→(P U)→Q ((P U) × V))=>∀{v1 v2} {zr},k_ v1 v2=N zr→Kh zA 44 QI 8 [4,10,11,12] [] [576] ⟨[pW 4 576,pL 10 rS a0,pI 11 (a0.length:U),pI 12 v1],[],[(576,1,Z rI v2)]⟩ (A4 [2,3] [.sc (.o 1 (Z rI zr.1)),.sc (.v (.bool zr.2))])
theorem qH{a0}{n:W}:Wh a0 (KD a0 n):=by
 induction n with
 | zero=>intro _ _ r h; cases h
 | succ n ih=>
  intro v1 v2 r h σ hσ S hS;refine ev hS ?_;rw[KD] at h;refine AF (An ?_);obtain⟨h3,h⟩|⟨h3,h⟩:=ic h
  ·obtain⟨x4,h4,h⟩:=ob h;obtain⟨r5,h5,h⟩:=ob h;try simp only[hσ,h3,h4,E,F,G,H,I,J]
   refine Ai (nq _ _ h5) ?_;obtain⟨h6,h⟩|⟨h6,h⟩:=ic h
   ·try simp only[h3,h4,h6,E,F,G,H,I,J]
    refine AP (es:=Z rI ([r5.1]:P U)) ?_;obtain⟨h7,h⟩:=Az h;try simp only[h3,h4,h6,h7,E,F,G,H,I,J]
    refine ih h ?_ (by kernel_rfl);try simp only[h3,h4,h6,h7,E,F,G,H,I,J,pL,aM,zB]
   ·try simp only[h3,h4,h6,E,F,G,H,I,J]
    cases h;trivial
  ·try simp only[hσ,h3,E,F,G,H,I,J]
   cases h;trivial
instance LR:Ct 44 (∀{a0} {r},Gd a0=N r→FC zA 44 [.sc (.sl (Z rS a0))] [.sc (.o 1 (Z rI r.1)),.sc (.v (.bool r.2))]):=by
 refine⟨fun h=> ?_⟩;unfold Gd at h;refine A2 mixed QI [2,3] 29 ?_;have s0:= @Ap (Z rI ([]:P U));have k0:= @qH;exact gc
def QL:Hw:=([(6,[1,8,9,10],[],[])],[])
def VI:=fun a1 (a0:X5) (k_:U→Q U)=>∀{v1} {zr},k_ v1=N zr→Kh zA 46 QL 6 [1,8,9,10] [] [] ⟨[(1,vc (aS a1)),pL 8 zF a0.Points,pI 9 (a0.Points.length:U),pI 10 v1],[],[]⟩ (A4 [4] [.sc (.v (.int .i64 zr))])
theorem qY{a1 a0}{n:W}:VI a1 a0 (K5 a1 a0 n):=by
 induction n with
 | zero=>intro _ r h; cases h
 | succ n ih=>
  intro v1 r h σ hσ;rw[K5] at h;exact gc
instance LP:Ct 46 (∀{a0} {a1} {r},DJ a0 a1=N r→FC zA 46 [.ag (X5.row a0),.sc (.str a1)] [.sc (.v (.int .i64 r))]):=by
 refine⟨fun h=> ?_⟩;unfold DJ at h;refine A2 mixed QL [4] 21 ?_;have k0:= @qY;exact gc
def QM:Hw:=([(7,[1,2,4,6,32],[2,4],[])],[])
def Wm:=fun a1 (a0:X5) (k_:V→Q (X6 × V))=>∀{v7} {zr},k_ v7=N zr→Kh zA 41 QM 7 [1,2,4,6,32] [2,4] [] ⟨[pL 1 rS a1,pB 2,pB 4,pI 6 (a1.length:U),(32,vc (aB v7))],[(2,(dm a0.row)),(4,[aI (0:U),aI (0:U),aI (0:U),aI (0:U),aB L])],[]⟩ (A4 [.c 4 T 5,5] [.ag [.v (.int .i64 zr.1.A),.v (.int .i64 zr.1.B),.v (.int .i64 zr.1.Depth),.v (.int .i64 zr.1.Minutes),.v (.bool zr.1.Meet)],.sc (.v (.bool zr.2))])
theorem qk{a1 a0}:Wm a1 a0 (ES a1 a0):=by
 intro v7 r h σ hσ S hS;refine ev hS ?_;refine An ?_;unfold ES at h;obtain⟨h8,h⟩|⟨h8,h⟩:=ic h
 ·try simp only[hσ,h8,E,F,G,H,I,J]
  cases h;try simp only[D0,E,F,G,H,I,J]
  trivial
 ·obtain⟨p9,h9,h⟩:=ob h;obtain⟨r10,h10,h⟩:=ob h;try simp only[hσ,h8,h9,E,F,G,H,I,J]
  refine Ai (A6 LR h10) ?_;obtain⟨h11,h⟩|⟨h11,h⟩:=ic h
  ·try simp only[h8,h9,h11,E,F,G,H,I,J]
   refine Af ?_;obtain⟨x12,h12,h⟩:=ob h;obtain⟨r13,h13,h⟩:=ob h;try simp only[h8,h9,h11,h12,E,F,G,H,I,J]
   refine AR (A6 LP h13) ?_;obtain⟨x14,h14,h⟩:=ob h;obtain⟨r15,h15,h⟩:=ob h;try simp only[h8,h9,h11,h12,h14,E,F,G,H,I,J]
   refine AR (A6 LP h15) ?_;obtain⟨x16,h16,h⟩:=ob h;have h16n:=Ah h16;obtain⟨x17,h17,h⟩:=ob h;have h17n:=Ah h17;try simp only[h8,h9,h11,h12,h14,h16,h16n,h17,h17n,E,F,G,H,I,J]
   refine Af ?_;try simp only[h8,h9,h11,h12,h14,h16,h16n,h17,h17n,E,F,G,H,I,J]
   cases h;try simp only[D0,E,F,G,H,I,J]
   trivial
  ·try simp only[h8,h9,h11,E,F,G,H,I,J]
   cases h;try simp only[D0,E,F,G,H,I,J]
   trivial
instance oj:Ct 41 (∀{a0} {a1} {r},Nv a0 a1=N r→FC zA 41 [.ag (X5.row a0),.sc (.sl (Z rS a1))] [.ag [.v (.int .i64 r.1.A),.v (.int .i64 r.1.B),.v (.int .i64 r.1.Depth),.v (.int .i64 r.1.Minutes),.v (.bool r.1.Meet)],.sc (.v (.bool r.2))]):=by
 refine⟨fun h=> ?_⟩;unfold Nv at h;refine A2 mixed QM [.c 4 T 5,5] 62 ?_;have k0:= @qk;exact gc
instance ou:Ct 78 (∀{a0} {a1} {a2} {r},Bd a0 a1 a2=N r→FC zA 78 [.sc (.int .i64 a0),.sc (.int .i64 a1),.sc (.int .i64 a2)] [.sc (.v (.bool r))]):=by
 refine⟨fun h=> ?_⟩;unfold Bd at h;refine A2 mixed h0 [6] 15 ?_;exact gc
def L9:Hw:=([(14,[0,3],[],[]),(25,[0,3,4],[],[]),(32,[0,3],[],[])],[])
def Vs:=fun a0 v3 (k_:Q V)=>∀{zr},k_=N zr→Kh zA 109 L9 32 [0,3] [] [] ⟨[(0,vc (aS a0)),pI 3 v3],[],[]⟩ (A4 [2] [.sc (.v (.bool zr))])
def Vr:=fun a0 v3 (k_:V→Q V)=>∀{v7} {zr},k_ v7=N zr→Kh zA 109 L9 25 [0,3,4] [] [] ⟨[(0,vc (aS a0)),pI 3 v3,(4,vc (aB v7))],[],[]⟩ (A4 [2] [.sc (.v (.bool zr))])
def LW:=fun a0 (k_:U→Q V)=>∀{v3} {zr},k_ v3=N zr→Kh zA 109 L9 14 [0,3] [] [] ⟨[(0,vc (aS a0)),pI 3 v3],[],[]⟩ (A4 [2] [.sc (.v (.bool zr))])
theorem qy{a0 v3}{Dr}(Rz:LW a0 Dr):Vs a0 v3 (JQ a0 v3 Dr):=by
 intro r h σ hσ;unfold JQ at h;have k0:= @Rz;exact gc
theorem rH{a0 v3}{Dr}(Rz:LW a0 Dr):Vr a0 v3 (JP a0 v3 Dr):=by
 intro v7 r h σ hσ;unfold JP at h;have k0:= @qy;exact gc
theorem rP{a0}{n:W}:LW a0 (Hm a0 n):=by
 induction n with
 | zero=>intro _ r h; cases h
 | succ n ih=>
  intro v3 r h σ hσ;rw[Hm] at h;have k0:= @rH;exact gc
instance tj:Ct 109 (∀{a0} {r},JO a0=N r→FC zA 109 [.sc (.str a0)] [.sc (.v (.bool r))]):=by
 refine⟨fun h=> ?_⟩;unfold JO at h;refine A2 mixed L9 [2] 43 ?_;have k0:= @rP;exact gc
instance IT:Ct 110 (∀{a0} {a1} {r},B3 a0 a1=N r→FC zA 110 [.sc (.int .i64 a0),.sc (.int .i64 a1)] [.sc (.v (.bool r))]):=by
 refine⟨fun h=> ?_⟩;unfold B3 at h;refine A2 mixed h0 [4] 12 ?_;exact gc
instance U2:Ct 74 (∀{a0} {r},Cz a0=N r→FC zA 74 [.ag (X8.row a0)] [.sc (.v (.bool r))]):=by
 refine⟨fun h=> ?_⟩;unfold Cz at h;refine A2 mixed h0 [2] 26 ?_;exact gc
instance OM:Ct 59 (∀{a0} {a1} {r},D7 a0 a1=N r→FC zA 59 [.sc (.sl (Z rS a0)),.sc (.str a1)] [.sc (.v (.str r))]):=by
 refine⟨fun{a0} {a1} {r} h=> ?_⟩;unfold D7 at h;refine A2 mixed h0 [4] 8 ?_;intro S hS;refine ev hS ?_;simp only[E,F,G,H,I,J];obtain⟨r1,h1,h⟩:=ob h;try simp only[E,F,G,H,I,J]
 refine Ai (pD _ _ _ h1) ?_;try simp only[E,F,G,H,I,J]
 cases h;exact t0
instance oX:Ct 111 (∀{a0} {a1} {a2} {r},Nq a0 a1 a2=N r→FC zA 111 [.sc (.str a0),.sc (.bool a1),.sc (.str a2)] [.sc (.v (.str r))]):=by
 refine⟨fun h=> ?_⟩;unfold Nq at h;refine A2 mixed h0 [6] 13 ?_;exact gc
instance nj:Ct 75 (∀{a0} {r},MO a0=N r→FC zA 75 [.ag (X8.row a0)] [.sc (.v (.str r))]):=by
 refine⟨fun{a0} {r} h=> ?_⟩;unfold MO at h;refine A2 mixed h0 [2] 27 ?_;intro S hS;refine ev hS ?_;simp only[E,F,G,H,I,J];try simp only[E,F,G,H,I,J]
 refine BA ?_;obtain⟨r1,h1,h⟩:=ob h;try simp only[E,F,G,H,I,J]
 refine Ai (A6 U2 h1) ?_;obtain⟨h2,h⟩|⟨h2,h⟩:=ic h
 ·try simp only[h2,E,F,G,H,I,J]
  refine Af ?_;obtain⟨r3,h3,h⟩:=ob h;try simp only[h2,E,F,G,H,I,J]
  refine AR (A6 Ez h3) ?_;obtain⟨r4,h4,h⟩:=ob h;try simp only[h2,E,F,G,H,I,J]
  refine AR (A6 Ez h4) ?_;obtain⟨r5,h5,h⟩:=ob h;try simp only[h2,E,F,G,H,I,J]
  refine AR (A6 Ez h5) ?_;obtain⟨r6,h6,h⟩:=ob h;try simp only[h2,E,F,G,H,I,J]
  refine AR (A6 Ez h6) ?_;try simp only[h2,E,F,G,H,I,J]
  refine AP (es:=Z rS ([a0.Name,r3,r4,r5,r6]:P (P X))) ?_;try simp only[h2,E,F,G,H,I,J]
  refine Af ?_;obtain⟨r7,h7,h⟩:=ob h;try simp only[h2,E,F,G,H,I,J]
  refine DN (A6 OM h7) (by first | rfl | kernel_rfl) (BN Y) Y (uf Y) ?_;obtain⟨r9,h9,h⟩:=ob h;try simp only[h2,E,F,G,H,I,J]
  refine AR (A6 oX h9) ?_;try simp only[h2,E,F,G,H,I,J]
  cases h;exact t0
 ·try simp only[h2,E,F,G,H,I,J]
  cases h;exact t0
def R5:Hw:=([(27,[2,7,50],[2,7],[])],[(13,1,(O,.frz 576))])
def VA:=fun x6 x7 x8 x9 x10 (k_:V→V→Q (X8 × V))=>∀{v14 v15} {zr},k_ v14 v15=N zr→Kh zA 42 R5 27 [2,7,50] [2,7] [] ⟨[pB 2,pB 7,(50,vc (aB v14))],[(2,[aS ([]:P X),aI (0:U),aI (0:U),aI (0:U),aI (0:U),aB L]),(7,[aS x6,aI x7,aI x8,aI x9,aI x10,aB v15])],[]⟩ (A4 [.c 2 T 6,3] [.ag [.v (.str zr.1.Name),.v (.int .i64 zr.1.Length),.v (.int .i64 zr.1.Draught),.v (.int .i64 zr.1.Line),.v (.int .i64 zr.1.Tugs),.v (.bool zr.1.Slow)],.sc (.v (.bool zr.2))])
theorem Uo{x6 x7 x8 x9 x10}:VA x6 x7 x8 x9 x10 (K0 x6 x7 x8 x9 x10):=by
 intro v14 v15 r h σ hσ;unfold K0 at h;exact gc
instance nr:Ct 42 (∀{a0} {r},MV a0=N r→FC zA 42 [.sc (.str a0)] [.ag [.v (.str r.1.Name),.v (.int .i64 r.1.Length),.v (.int .i64 r.1.Draught),.v (.int .i64 r.1.Line),.v (.int .i64 r.1.Tugs),.v (.bool r.1.Slow)],.sc (.v (.bool r.2))]):=by
 refine⟨fun{a0} {r} h=> ?_⟩;unfold MV at h;refine A2 mixed R5 [.c 2 T 6,3] 53 ?_;intro S hS;refine ev hS ?_;simp only[E,F,G,H,I,J];try simp only[E,F,G,H,I,J]
 refine AI ?_;obtain⟨r1,h1,h⟩:=ob h;try simp only[E,F,G,H,I,J]
 refine Ai (A6 U4 h1) ?_;obtain⟨h2,h⟩|⟨h2,h⟩:=ic h
 ·try simp only[h2,E,F,G,H,I,J]
  cases h;try simp only[D0,E,F,G,H,I,J]
  trivial
 ·try simp only[h2,E,F,G,H,I,J]
  refine Ad ?_;obtain⟨p3,h3,h⟩:=ob h;obtain⟨r4,h4,h⟩:=ob h;try simp only[h2,h3,E,F,G,H,I,J]
  refine Ai (A6 LR h4) ?_;obtain⟨h5,h⟩|⟨h5,h⟩:=ic h
  ·try simp only[h2,h3,h5,E,F,G,H,I,J]
   refine Af ?_;obtain⟨x6,h6,h⟩:=ob h;obtain⟨x7,h7,h⟩:=ob h;have h7n:=Ah h7;obtain⟨x8,h8,h⟩:=ob h;have h8n:=Ah h8;obtain⟨x9,h9,h⟩:=ob h;have h9n:=Ah h9;obtain⟨x10,h10,h⟩:=ob h;have h10n:=Ah h10;try simp only[h2,h3,h5,h6,h7,h7n,h8,h8n,h9,h9n,h10,h10n,E,F,G,H,I,J]
   refine AI ?_;try simp only[h2,h3,h5,h6,h7,h7n,h8,h8n,h9,h9n,h10,h10n,E,F,G,H,I,J]
   refine Af ?_;obtain⟨r11,h11,h⟩:=ob h;try simp only[h2,h3,h5,h6,h7,h7n,h8,h8n,h9,h9n,h10,h10n,E,F,G,H,I,J]
   refine Ai (A6 U2 h11) ?_;obtain⟨h12,h⟩|⟨h12,h⟩:=ic h
   ·obtain⟨r13,h13,h⟩:=ob h;try simp only[h2,h3,h5,h6,h7,h7n,h8,h8n,h9,h9n,h10,h10n,h12,E,F,G,H,I,J]
    refine Ai (A6 nj h13) ?_;try simp only[h2,h3,h5,h6,h7,h7n,h8,h8n,h9,h9n,h10,h10n,h12,E,F,G,H,I,J]
    refine Uo h ?_ (by kernel_rfl);try simp only[h2,h3,h5,h6,h7,h7n,h8,h8n,h9,h9n,h10,h10n,h12,E,F,G,H,I,J,pL,aM,zB]
   ·try simp only[h2,h3,h5,h6,h7,h7n,h8,h8n,h9,h9n,h10,h10n,h12,E,F,G,H,I,J]
    refine Uo h ?_ (by kernel_rfl);try simp only[h2,h3,h5,h6,h7,h7n,h8,h8n,h9,h9n,h10,h10n,h12,E,F,G,H,I,J,pL,aM,zB]
  ·try simp only[h2,h3,h5,E,F,G,H,I,J]
   cases h;try simp only[D0,E,F,G,H,I,J]
   trivial
instance ul:Ct 207 (∀{a0} {r},Kw a0=N r→FC zA 207 [.sc (.int .i64 a0)] [.sc (.v (.bool r))]):=by
 refine⟨fun h=> ?_⟩;unfold Kw at h;refine A2 mixed h0 [2] 10 ?_;exact gc
instance tz:Ct 182 (∀{a0} {r},MW a0=N r→FC zA 182 [.ag (zD a0)] [.sc (.v (.bool r))]):=by
 refine⟨fun h=> ?_⟩;unfold MW at h;refine A2 mixed h0 [2] 19 ?_;exact gc
def Rb:Hw:=([(14,[16,17,18],[],[])],[])
def VU:=fun(a0:Xp) (k_:U→Q V)=>∀{v4} {zr},k_ v4=N zr→Kh zA 137 Rb 14 [16,17,18] [] [] ⟨[pL 16 zD a0.Parts,pI 17 (a0.Parts.length:U),pI 18 v4],[],[]⟩ (A4 [2] [.sc (.v (.bool zr))])
theorem rh{a0}{n:W}:VU a0 (Ki a0 n):=by
 induction n with
 | zero=>intro _ r h; cases h
 | succ n ih=>
  intro v4 r h σ hσ;rw[Ki] at h;exact gc
instance uR:Ct 137 (∀{a0} {r},N7 a0=N r→FC zA 137 [.ag (Xp.row a0)] [.sc (.v (.bool r))]):=by
 refine⟨fun h=> ?_⟩;unfold N7 at h;refine A2 mixed Rb [2] 26 ?_;have k0:= @rh;exact gc
instance oU:Ct 96 (∀{a0} {r},CQ a0=N r→FC zA 96 [.sc (.int .i64 a0)] [.sc (.v (.bool r))]):=by
 refine⟨fun h=> ?_⟩;unfold CQ at h;refine A2 mixed h0 [2] 5 ?_;exact gc
instance uQ:Ct 138 (∀{a0} {r},N6 a0=N r→FC zA 138 [.ag (zE a0)] [.sc (.v (.bool r))]):=by
 refine⟨fun h=> ?_⟩;unfold N6 at h;refine A2 mixed h0 [2] 23 ?_;exact gc
def Rf:Hw:=([(14,[1,25,26,27],[1],[])],[])
def Vl:=fun(a0:Xh) (k_:U→Q V)=>∀{v7} {zr},k_ v7=N zr→Kh zA 92 Rf 14 [1,25,26,27] [1] [] ⟨[pB 1,pL 25 zE a0.Surges,pI 26 (a0.Surges.length:U),pI 27 v7],[(1,(dm a0.row))],[]⟩ (A4 [2] [.sc (.v (.bool zr))])
theorem rk{a0}{n:W}:Vl a0 (Hi a0 n):=by
 induction n with
 | zero=>intro _ r h; cases h
 | succ n ih=>
  intro v7 r h σ hσ;rw[Hi] at h;exact gc
instance ni:Ct 92 (∀{a0} {r},Cj a0=N r→FC zA 92 [.ag (zI a0)] [.sc (.v (.bool r))]):=by
 refine⟨fun h=> ?_⟩;unfold Cj at h;refine A2 mixed Rf [2] 52 ?_;have k0:= @rk;exact gc
instance uJ:Ct 139 (∀{a0} {a1} {a2} {r},N2 a0 a1 a2=N r→FC zA 139 [.ag (X6.row a0),.sc (.int .i64 a1),.sc (.int .i64 a2)] [.sc (.v (.bool r))]):=by
 refine⟨fun h=> ?_⟩;unfold N2 at h;refine A2 mixed h0 [6] 29 ?_;exact gc
def Lb:Hw:=([(14,[1,20,21,22],[1],[]),(37,[1,41,42,43],[1],[]),(59,[1,6,41,42,43,86,87,88],[1,6],[])],[])
def UZ:=fun(a0:X5) v11 (x13:X6) y24 y25 (k_:U→Q V)=>∀{v26} {zr},k_ v26=N zr→Kh zA 93 Lb 59 [1,6,41,42,43,86,87,88] [1,6] [] ⟨[pB 1,pB 6,pL 41 X6.row a0.Segments,pI 42 (a0.Segments.length:U),pI 43 v11,pL 86 X6.row y24,pI 87 y25,pI 88 v26],[(1,(dm a0.row)),(6,(dm x13.row))],[]⟩ (A4 [2] [.sc (.v (.bool zr))])
def P9:=fun(a0:X5) (k_:U→Q V)=>∀{v11} {zr},k_ v11=N zr→Kh zA 93 Lb 37 [1,41,42,43] [1] [] ⟨[pB 1,pL 41 X6.row a0.Segments,pI 42 (a0.Segments.length:U),pI 43 v11],[(1,(dm a0.row))],[]⟩ (A4 [2] [.sc (.v (.bool zr))])
def UY:=fun(a0:X5) (k_:U→Q V)=>∀{v3} {zr},k_ v3=N zr→Kh zA 93 Lb 14 [1,20,21,22] [1] [] ⟨[pB 1,pL 20 zF a0.Points,pI 21 (a0.Points.length:U),pI 22 v3],[(1,(dm a0.row))],[]⟩ (A4 [2] [.sc (.v (.bool zr))])
theorem rl{a0 v11 x13 y24 y25}{Im}(ej:P9 a0 Im){n:W}:UZ a0 v11 x13 y24 y25 (Jt a0 v11 x13 y24 y25 Im n):=by
 induction n with
 | zero=>intro _ r h; cases h
 | succ n ih=>
  intro v26 r h σ hσ;rw[Jt] at h;have k0:= @ej;exact gc
theorem rm{a0}{n:W}:P9 a0 (Js a0 n):=by
 induction n with
 | zero=>intro _ r h; cases h
 | succ n ih=>
  intro v11 r h σ hσ;rw[Js] at h;have k0:= @rl;exact gc
theorem rn{a0}{n:W}:UY a0 (Jr a0 n):=by
 induction n with
 | zero=>intro _ r h; cases h
 | succ n ih=>
  intro v3 r h σ hσ;rw[Jr] at h;have k0:= @rm;exact gc
instance nQ:Ct 93 (∀{a0} {r},Cy a0=N r→FC zA 93 [.ag (X5.row a0)] [.sc (.v (.bool r))]):=by
 refine⟨fun h=> ?_⟩;unfold Cy at h;refine A2 mixed Lb [2] 100 ?_;have k0:= @rn;exact gc
def Rg:Hw:=([(6,[1,7,8,9],[],[])],[])
def VP:=fun a1 a0 (k_:U→Q U)=>∀{v1} {zr},k_ v1=N zr→Kh zA 45 Rg 6 [1,7,8,9] [] [] ⟨[(1,vc (aS a1)),pL 7 X8.row a0,pI 8 (a0.length:U),pI 9 v1],[],[]⟩ (A4 [4] [.sc (.v (.int .i64 zr))])
theorem ro{a1 a0}{n:W}:VP a1 a0 (Kd a1 a0 n):=by
 induction n with
 | zero=>intro _ r h; cases h
 | succ n ih=>
  intro v1 r h σ hσ;rw[Kd] at h;exact gc
instance oC:Ct 45 (∀{a0} {a1} {r},G3 a0 a1=N r→FC zA 45 [.sc (.sl (Z X8.row a0)),.sc (.str a1)] [.sc (.v (.int .i64 r))]):=by
 refine⟨fun h=> ?_⟩;unfold G3 at h;refine A2 mixed Rg [4] 20 ?_;have k0:= @ro;exact gc
def Rh:Hw:=([(14,[0,8,9,10],[],[])],[])
def Vk:=fun a0 (k_:U→Q V)=>∀{v2} {zr},k_ v2=N zr→Kh zA 112 Rh 14 [0,8,9,10] [] [] ⟨[pL 0 X8.row a0,pL 8 X8.row a0,pI 9 (a0.length:U),pI 10 v2],[],[]⟩ (A4 [2] [.sc (.v (.bool zr))])
theorem rp{a0}{n:W}:Vk a0 (JJ a0 n):=by
 induction n with
 | zero=>intro _ r h; cases h
 | succ n ih=>
  intro v2 r h σ hσ;rw[JJ] at h;exact gc
instance tZ:Ct 112 (∀{a0} {r},JI a0=N r→FC zA 112 [.sc (.sl (Z X8.row a0))] [.sc (.v (.bool r))]):=by
 refine⟨fun h=> ?_⟩;unfold JI at h;refine A2 mixed Rh [2] 27 ?_;have k0:= @rp;exact gc
instance uF:Ct 113 (∀{a0} {r},N0 a0=N r→FC zA 113 [.ag (Xl.row a0)] [.sc (.v (.bool r))]):=by
 refine⟨fun h=> ?_⟩;unfold N0 at h;refine A2 mixed h0 [2] 6 ?_;exact gc
def Ri:Hw:=([(14,[8,9,10],[],[])],[])
def Wf:=fun a0 (k_:U→Q V)=>∀{v2} {zr},k_ v2=N zr→Kh zA 151 Ri 14 [8,9,10] [] [] ⟨[pL 8 rI a0,pI 9 (a0.length:U),pI 10 v2],[],[]⟩ (A4 [2] [.sc (.v (.bool zr))])
theorem rq{a0}{n:W}:Wf a0 (Kz a0 n):=by
 induction n with
 | zero=>intro _ r h; cases h
 | succ n ih=>
  intro v2 r h σ hσ;rw[Kz] at h;exact gc
instance uo:Ct 151 (∀{a0} {r},HW a0=N r→FC zA 151 [.sc (.sl (Z rI a0))] [.sc (.v (.bool r))]):=by
 refine⟨fun h=> ?_⟩;unfold HW at h;refine A2 mixed Ri [2] 18 ?_;have k0:= @rq;exact gc
instance tW:Ct 114 (∀{a0} {r},He a0=N r→FC zA 114 [.ag (Xq.row a0)] [.sc (.v (.bool r))]):=by
 refine⟨fun h=> ?_⟩;unfold He at h;refine A2 mixed h0 [2] 21 ?_;exact gc
instance tf:Ct 76 (∀{a0} {r},FR a0=N r→FC zA 76 [.ag (X2.row a0)] [.sc (.v (.bool r))]):=by
 refine⟨fun h=> ?_⟩;unfold FR at h;refine A2 mixed h0 [2] 26 ?_;exact gc
instance U8:Ct 48 (∀{a0} {r},HP a0=N r→FC zA 48 [.sc (.bool a0)] [.sc (.v (.str r))]):=by
 refine⟨fun h=> ?_⟩;unfold HP at h;refine A2 mixed h0 [2] 4 ?_;exact gc
def NW:Hw:=([(10,[0,5],[99999999999],[])],[])
def Vc:=fun(a0:X9) (k_:V→U→(P Xf)→(P Xb)→(P Xd)→(P X6)→(P X8)→U→V→U→U→U→(P U)→Q ((P X) × X9))=>∀{v3 v4 v5 v6 v7 v8 v9 v10 v11 v12 v13 v14 v15} {zr},k_ v3 v4 v5 v6 v7 v8 v9 v10 v11 v12 v13 v14 v15=N zr→Kh zA 43 NW 10 [0,5] [99999999999] [] ⟨[(0,vc (.pb 99999999999 0)),(5,vc (aB v3))],[(99999999999,([aI v4,aM zD v5,aM zE v6,aM zF v7,aM X6.row v8,aM X8.row v9,aI v10,aB v11,aI v12,aI v13,aI v14,aM rI v15,aM X4.row a0.Calls]++dm a0.Desk.row))],[]⟩ (D2 [4] [.sc (.v (.str zr.1))] [.int .i64 zr.2.Harbour.Forecast.Tide.Mean,.sl (Z zD zr.2.Harbour.Forecast.Tide.Parts),.sl (Z zE zr.2.Harbour.Forecast.Surges),.sl (Z zF zr.2.Harbour.Chart.Points),.sl (Z X6.row zr.2.Harbour.Chart.Segments),.sl (Z X8.row zr.2.Harbour.Fleet),.int .i64 zr.2.Harbour.Regime.Gap,.bool zr.2.Harbour.Regime.NoMeet,.int .i64 zr.2.Harbour.Crew.Tugs,.int .i64 zr.2.Harbour.Crew.Pilots,.int .i64 zr.2.Harbour.Crew.Rest,.sl (Z rI zr.2.Harbour.Crew.Moves),.sl (Z X4.row zr.2.Calls),.int .i64 zr.2.Desk.Now,.sl (Z rI zr.2.Desk.Starts),.sl (Z rB zr.2.Desk.Cleared)])
theorem rr{a0}:Vc a0 (JD a0):=by
 intro v3 v4 v5 v6 v7 v8 v9 v10 v11 v12 v13 v14 v15 r h σ hσ;unfold JD at h;exact gc
theorem bA:AB zA 43=N ((By zA 43 NW).strip,[4],15):=by kernel_rfl
theorem Ey{a0}{a1}{r}(h:Dm a0 a1=N r):FCy zA 43 [.p,.d (.ag (X2.row a1))] [.int .i64 a0.Harbour.Forecast.Tide.Mean,.sl (Z zD a0.Harbour.Forecast.Tide.Parts),.sl (Z zE a0.Harbour.Forecast.Surges),.sl (Z zF a0.Harbour.Chart.Points),.sl (Z X6.row a0.Harbour.Chart.Segments),.sl (Z X8.row a0.Harbour.Fleet),.int .i64 a0.Harbour.Regime.Gap,.bool a0.Harbour.Regime.NoMeet,.int .i64 a0.Harbour.Crew.Tugs,.int .i64 a0.Harbour.Crew.Pilots,.int .i64 a0.Harbour.Crew.Rest,.sl (Z rI a0.Harbour.Crew.Moves),.sl (Z X4.row a0.Calls),.int .i64 a0.Desk.Now,.sl (Z rI a0.Desk.Starts),.sl (Z rB a0.Desk.Cleared)] [.int .i64 r.2.Harbour.Forecast.Tide.Mean,.sl (Z zD r.2.Harbour.Forecast.Tide.Parts),.sl (Z zE r.2.Harbour.Forecast.Surges),.sl (Z zF r.2.Harbour.Chart.Points),.sl (Z X6.row r.2.Harbour.Chart.Segments),.sl (Z X8.row r.2.Harbour.Fleet),.int .i64 r.2.Harbour.Regime.Gap,.bool r.2.Harbour.Regime.NoMeet,.int .i64 r.2.Harbour.Crew.Tugs,.int .i64 r.2.Harbour.Crew.Pilots,.int .i64 r.2.Harbour.Crew.Rest,.sl (Z rI r.2.Harbour.Crew.Moves),.sl (Z X4.row r.2.Calls),.int .i64 r.2.Desk.Now,.sl (Z rI r.2.Desk.Starts),.sl (Z rB r.2.Desk.Cleared)] [.sc (.v (.str r.1))]:=by
 unfold Dm at h;refine DC (σ:=⟨[(0,vc (.pb 99999999999 0)),(1,va (dm a1.row))],[(99999999999,[aI a0.Harbour.Forecast.Tide.Mean,aL (Z zD a0.Harbour.Forecast.Tide.Parts),aL (Z zE a0.Harbour.Forecast.Surges),aL (Z zF a0.Harbour.Chart.Points),aL (Z X6.row a0.Harbour.Chart.Segments),aL (Z X8.row a0.Harbour.Fleet),aI a0.Harbour.Regime.Gap,aB a0.Harbour.Regime.NoMeet,aI a0.Harbour.Crew.Tugs,aI a0.Harbour.Crew.Pilots,aI a0.Harbour.Crew.Rest,aL (Z rI a0.Harbour.Crew.Moves),aL (Z X4.row a0.Calls),aI a0.Desk.Now,aL (Z rI a0.Desk.Starts),aL (Z rB a0.Desk.Cleared)])],[]⟩) mixed bA Y Y ?_;refine BG NW ?_;have k0:= @rr;exact gc
def Rj:Hw:=([],[(56,2,(O,.frz 1153)),(56,3,(O,.frz 1154)),(56,4,(O,.frz 1155)),(56,5,(O,.frz 1156)),(56,6,(O,.frz 1157)),(56,7,(O,.frz 1163))])
theorem bB:AB zA 24=N ((By zA 24 Rj).strip,[6],78):=by kernel_rfl
theorem nX{a0}{a1}{a2}{r}(h:MH a0 a1 a2=N r):FCy zA 24 [.p,.d (.sc (.str a1)),.d (.sc (.sl (Z rS a2)))] [.int .i64 a0.Harbour.Forecast.Tide.Mean,.sl (Z zD a0.Harbour.Forecast.Tide.Parts),.sl (Z zE a0.Harbour.Forecast.Surges),.sl (Z zF a0.Harbour.Chart.Points),.sl (Z X6.row a0.Harbour.Chart.Segments),.sl (Z X8.row a0.Harbour.Fleet),.int .i64 a0.Harbour.Regime.Gap,.bool a0.Harbour.Regime.NoMeet,.int .i64 a0.Harbour.Crew.Tugs,.int .i64 a0.Harbour.Crew.Pilots,.int .i64 a0.Harbour.Crew.Rest,.sl (Z rI a0.Harbour.Crew.Moves),.sl (Z X4.row a0.Calls),.int .i64 a0.Desk.Now,.sl (Z rI a0.Desk.Starts),.sl (Z rB a0.Desk.Cleared)] [.int .i64 r.2.Harbour.Forecast.Tide.Mean,.sl (Z zD r.2.Harbour.Forecast.Tide.Parts),.sl (Z zE r.2.Harbour.Forecast.Surges),.sl (Z zF r.2.Harbour.Chart.Points),.sl (Z X6.row r.2.Harbour.Chart.Segments),.sl (Z X8.row r.2.Harbour.Fleet),.int .i64 r.2.Harbour.Regime.Gap,.bool r.2.Harbour.Regime.NoMeet,.int .i64 r.2.Harbour.Crew.Tugs,.int .i64 r.2.Harbour.Crew.Pilots,.int .i64 r.2.Harbour.Crew.Rest,.sl (Z rI r.2.Harbour.Crew.Moves),.sl (Z X4.row r.2.Calls),.int .i64 r.2.Desk.Now,.sl (Z rI r.2.Desk.Starts),.sl (Z rB r.2.Desk.Cleared)] [.sc (.v (.str r.1))]:=by
 unfold MH at h;refine DC (σ:=⟨[(0,vc (.pb 99999999999 0)),(1,vc (aS a1)),(2,vc (aL (Z rS a2)))],[(99999999999,[aI a0.Harbour.Forecast.Tide.Mean,aL (Z zD a0.Harbour.Forecast.Tide.Parts),aL (Z zE a0.Harbour.Forecast.Surges),aL (Z zF a0.Harbour.Chart.Points),aL (Z X6.row a0.Harbour.Chart.Segments),aL (Z X8.row a0.Harbour.Fleet),aI a0.Harbour.Regime.Gap,aB a0.Harbour.Regime.NoMeet,aI a0.Harbour.Crew.Tugs,aI a0.Harbour.Crew.Pilots,aI a0.Harbour.Crew.Rest,aL (Z rI a0.Harbour.Crew.Moves),aL (Z X4.row a0.Calls),aI a0.Desk.Now,aL (Z rI a0.Desk.Starts),aL (Z rB a0.Desk.Cleared)])],[]⟩) mixed bB Y Y ?_;refine BG Rj ?_;intro S hS;refine ev hS ?_;obtain⟨r1,h1,h⟩:=ob h;try simp only[E,F,G,H,I,J]
 refine Ai (A6 U7 h1) ?_;try simp only[E,F,G,H,I,J]
 refine AI ?_;obtain⟨x2,h2,h⟩:=ob h;obtain⟨h3,h⟩|⟨h3,h⟩:=ic h
 ·obtain⟨r4,h4,h⟩:=ob h;try simp only[h2,h3,E,F,G,H,I,J]
  refine Ai (A6 oh h4) ?_;try simp only[h2,h3,E,F,G,H,I,J]
  refine AI ?_;obtain⟨h5,h⟩|⟨h5,h⟩:=ic h
  ·try simp only[h2,h3,h5,E,F,G,H,I,J]
   refine AP (es:=Z zF ([r4.1]:P Xd)) ?_;obtain⟨h6,h⟩:=Az h;try simp only[h2,h3,h5,h6,E,F,G,H,I,J]
   refine Ad ?_;try simp only[h2,h3,h5,h6,E,F,G,H,I,J]
   refine Ad ?_;try simp only[h2,h3,h5,h6,E,F,G,H,I,J]
   refine Ad ?_;try simp only[h2,h3,h5,h6,E,F,G,H,I,J]
   refine Ad ?_;try simp only[h2,h3,h5,h6,E,F,G,H,I,J]
   refine Ad ?_;try simp only[h2,h3,h5,h6,E,F,G,H,I,J]
   refine Ad ?_;obtain⟨r17,h17,h⟩:=ob h;try simp only[h2,h3,h5,h6,E,F,G,H,I,J]
   refine BH (Ey h17) 99999999999 ?_;try simp only[h2,h3,h5,h6,E,F,G,H,I,J]
   cases h;exact t0
  ·try simp only[h2,h3,h5,E,F,G,H,I,J]
   cases h;exact t0
 ·obtain⟨h7,h⟩|⟨h7,h⟩:=ic h
  ·obtain⟨r9,h9,h⟩:=ob h;try simp only[h2,h3,h7,E,F,G,H,I,J]
   refine Db (A6 oj h9) Y (BN Y) Y (uf Y) ?_;try simp only[h2,h3,h7,E,F,G,H,I,J]
   refine AI ?_;obtain⟨h10,h⟩|⟨h10,h⟩:=ic h
   ·try simp only[h2,h3,h7,h10,E,F,G,H,I,J]
    refine AP (es:=Z X6.row ([r9.1]:P X6)) ?_;obtain⟨h11,h⟩:=Az h;try simp only[h2,h3,h7,h10,h11,E,F,G,H,I,J]
    refine Ad ?_;try simp only[h2,h3,h7,h10,h11,E,F,G,H,I,J]
    refine Ad ?_;try simp only[h2,h3,h7,h10,h11,E,F,G,H,I,J]
    refine Ad ?_;try simp only[h2,h3,h7,h10,h11,E,F,G,H,I,J]
    refine Ad ?_;try simp only[h2,h3,h7,h10,h11,E,F,G,H,I,J]
    refine Ad ?_;try simp only[h2,h3,h7,h10,h11,E,F,G,H,I,J]
    refine Ad ?_;obtain⟨r18,h18,h⟩:=ob h;try simp only[h2,h3,h7,h10,h11,E,F,G,H,I,J]
    refine BH (Ey h18) 99999999999 ?_;try simp only[h2,h3,h7,h10,h11,E,F,G,H,I,J]
    cases h;exact t0
   ·try simp only[h2,h3,h7,h10,E,F,G,H,I,J]
    cases h;exact t0
  ·obtain⟨h12,h⟩|⟨h12,h⟩:=ic h
   ·try simp only[h2,h3,h7,h12,E,F,G,H,I,J]
    cases h;exact t0
   ·obtain⟨p13,h13,h⟩:=ob h;obtain⟨r14,h14,h⟩:=ob h;try simp only[h2,h3,h7,h12,h13,E,F,G,H,I,J]
    refine Ai (A6 nr h14) ?_;try simp only[h2,h3,h7,h12,h13,E,F,G,H,I,J]
    refine AI ?_;obtain⟨h15,h⟩|⟨h15,h⟩:=ic h
    ·try simp only[h2,h3,h7,h12,h13,h15,E,F,G,H,I,J]
     refine AP (es:=Z X8.row ([r14.1]:P X8)) ?_;obtain⟨h16,h⟩:=Az h;try simp only[h2,h3,h7,h12,h13,h15,h16,E,F,G,H,I,J]
     refine Ad ?_;try simp only[h2,h3,h7,h12,h13,h15,h16,E,F,G,H,I,J]
     refine Ad ?_;try simp only[h2,h3,h7,h12,h13,h15,h16,E,F,G,H,I,J]
     refine Ad ?_;try simp only[h2,h3,h7,h12,h13,h15,h16,E,F,G,H,I,J]
     refine Ad ?_;try simp only[h2,h3,h7,h12,h13,h15,h16,E,F,G,H,I,J]
     refine Ad ?_;try simp only[h2,h3,h7,h12,h13,h15,h16,E,F,G,H,I,J]
     refine Ad ?_;obtain⟨r19,h19,h⟩:=ob h;try simp only[h2,h3,h7,h12,h13,h15,h16,E,F,G,H,I,J]
     refine BH (Ey h19) 99999999999 ?_;try simp only[h2,h3,h7,h12,h13,h15,h16,E,F,G,H,I,J]
     cases h;exact t0
    ·try simp only[h2,h3,h7,h12,h13,h15,E,F,G,H,I,J]
     cases h;exact t0
theorem TD:TideOps zA 86 (SQ (CS 6 0 (Dk zA 25))) 103 9 3:=⟨Tryz.underlying103,Tryz.underlying9,fun _=>by kernel_rfl,by kernel_rfl,⟨by kernel_rfl,by kernel_rfl,by kernel_rfl⟩,⟨by kernel_rfl,by kernel_rfl,by kernel_rfl⟩,⟨by kernel_rfl,by kernel_rfl,by kernel_rfl⟩,⟨by kernel_rfl,by kernel_rfl,by kernel_rfl⟩,⟨by kernel_rfl,by kernel_rfl,by kernel_rfl⟩,⟨by kernel_rfl,by kernel_rfl,by kernel_rfl⟩,⟨by kernel_rfl,by kernel_rfl,by kernel_rfl⟩,⟨by kernel_rfl,by kernel_rfl,by kernel_rfl⟩,⟨by kernel_rfl,by kernel_rfl,by kernel_rfl⟩,⟨by kernel_rfl,by kernel_rfl,by kernel_rfl⟩,⟨by kernel_rfl,by kernel_rfl,by kernel_rfl⟩,⟨by kernel_rfl,by kernel_rfl,by kernel_rfl⟩,⟨by kernel_rfl,by kernel_rfl,by kernel_rfl⟩,⟨by kernel_rfl,by kernel_rfl,by kernel_rfl⟩,⟨by kernel_rfl,by kernel_rfl,by kernel_rfl⟩,⟨by kernel_rfl,by kernel_rfl,by kernel_rfl⟩,⟨by kernel_rfl,by kernel_rfl,by kernel_rfl⟩,by decide⟩
theorem Rx{C:Code}(hC:C=(CS 6 0 (Dk zA 25))):C= .region (lB (CS 6 0 (Dk zA 25))) (SQ (CS 6 0 (Dk zA 25))) L:=hC.trans (by kernel_rfl)
theorem fF{C:Code}{σ:St}{n:U}(hC:C=(CS 6 0 (Dk zA 25)))(h6:σ.get 6= .v (.sc (.dat (.bool L))))(h5:BP σ.rows (σ.get 5)=N (.v (.sc (.dat (.int .i64 n)))))(hu: [14,15,16,17,18,19,20,21,22,23,24,25].map σ.get=List.replicate 12 .undef):EA zA 86 C σ (σ.set 26 (.v (.sc (.dat (.bool T))))):=md TD (Rx hC) h6 h5 hu
theorem fG{C:Code}{σ:St}{n:U}{ws:P (P X)}{s:P X}(hC:C=(CS 6 0 (Dk zA 25)))(h6:σ.get 6= .v (.sc (.dat (.bool T))))(h5:BP σ.rows (σ.get 5)=N (.v (.sc (.dat (.int .i64 n)))))(hu: [14,15,16,17,18,19,20,21,22,23,24,25].map σ.get=List.replicate 12 .undef)(h1:σ.get 1= .v (.sc (.dat (.sl (Z rS ws)))))(hx:ix ws 0=N s):EA zA 86 C σ (σ.set 26 (.v (.sc (.dat (.bool (n !=Cd s GF)))))):=me TD (Rx hC) h6 h5 hu h1 hx
def Rk:Hw:=([],[(36,2,(O,.frz 1985)),(36,3,(O,.frz 1986)),(36,4,(O,.frz 1987)),(36,5,(O,.frz 1988)),(36,6,(O,.frz 1989)),(36,7,(O,.frz 1995)),(36,8,(O,.frz 4672))])
theorem bC:AB zA 25=N ((By zA 25 Rk).strip,[4],86):=by kernel_rfl
theorem nc{a0}{a1}{r}(h:MJ a0 a1=N r):FCy zA 25 [.p,.d (.sc (.sl (Z rS a1)))] [.int .i64 a0.Harbour.Forecast.Tide.Mean,.sl (Z zD a0.Harbour.Forecast.Tide.Parts),.sl (Z zE a0.Harbour.Forecast.Surges),.sl (Z zF a0.Harbour.Chart.Points),.sl (Z X6.row a0.Harbour.Chart.Segments),.sl (Z X8.row a0.Harbour.Fleet),.int .i64 a0.Harbour.Regime.Gap,.bool a0.Harbour.Regime.NoMeet,.int .i64 a0.Harbour.Crew.Tugs,.int .i64 a0.Harbour.Crew.Pilots,.int .i64 a0.Harbour.Crew.Rest,.sl (Z rI a0.Harbour.Crew.Moves),.sl (Z X4.row a0.Calls),.int .i64 a0.Desk.Now,.sl (Z rI a0.Desk.Starts),.sl (Z rB a0.Desk.Cleared)] [.int .i64 r.2.Harbour.Forecast.Tide.Mean,.sl (Z zD r.2.Harbour.Forecast.Tide.Parts),.sl (Z zE r.2.Harbour.Forecast.Surges),.sl (Z zF r.2.Harbour.Chart.Points),.sl (Z X6.row r.2.Harbour.Chart.Segments),.sl (Z X8.row r.2.Harbour.Fleet),.int .i64 r.2.Harbour.Regime.Gap,.bool r.2.Harbour.Regime.NoMeet,.int .i64 r.2.Harbour.Crew.Tugs,.int .i64 r.2.Harbour.Crew.Pilots,.int .i64 r.2.Harbour.Crew.Rest,.sl (Z rI r.2.Harbour.Crew.Moves),.sl (Z X4.row r.2.Calls),.int .i64 r.2.Desk.Now,.sl (Z rI r.2.Desk.Starts),.sl (Z rB r.2.Desk.Cleared)] [.sc (.v (.str r.1))]:=by
 unfold MJ at h;refine DC (σ:=⟨[(0,vc (.pb 99999999999 0)),(1,vc (aL (Z rS a1)))],[(99999999999,[aI a0.Harbour.Forecast.Tide.Mean,aL (Z zD a0.Harbour.Forecast.Tide.Parts),aL (Z zE a0.Harbour.Forecast.Surges),aL (Z zF a0.Harbour.Chart.Points),aL (Z X6.row a0.Harbour.Chart.Segments),aL (Z X8.row a0.Harbour.Fleet),aI a0.Harbour.Regime.Gap,aB a0.Harbour.Regime.NoMeet,aI a0.Harbour.Crew.Tugs,aI a0.Harbour.Crew.Pilots,aI a0.Harbour.Crew.Rest,aL (Z rI a0.Harbour.Crew.Moves),aL (Z X4.row a0.Calls),aI a0.Desk.Now,aL (Z rI a0.Desk.Starts),aL (Z rB a0.Desk.Cleared)])],[]⟩) mixed bC Y Y ?_;refine BG Rk ?_;intro S hS;refine ev hS ?_;obtain⟨p1,h1,h⟩:=ob h;obtain⟨r2,h2,h⟩:=ob h;try simp only[h1,E,F,G,H,I,J]
 refine Ai (A6 LR h2) ?_;obtain⟨h3,h⟩|⟨h3,h⟩:=ic h
 ·obtain⟨x4,h4,h⟩:=ob h;try simp only[h1,h3,E,F,G,H,I,J]
  refine Qy (fG (by kernel_rfl) Y (n:=(r2.1.length:U)) (by simp[BP,St.get,A1]) Y Y h4) ?_;obtain⟨h5,h⟩|⟨h5,h⟩:=ic h
  ·try simp only[h1,h3,h5,E,F,G,H,I,J]
   cases h;exact t0
  ·obtain⟨r6,h6,h⟩:=ob h;try simp only[h1,h3,h5,E,F,G,H,I,J]
   refine Ai (A6 U7 h6) ?_;try simp only[h1,h3,h5,E,F,G,H,I,J]
   refine AI ?_;obtain⟨x7,h7,h⟩:=ob h;obtain⟨h8,h⟩|⟨h8,h⟩:=ic h
   ·obtain⟨x9,h9,h⟩:=ob h;have h9n:=Ah h9;try simp only[h1,h3,h5,h7,h8,h9,h9n,E,F,G,H,I,J]
    refine Ad ?_;try simp only[h1,h3,h5,h7,h8,h9,h9n,E,F,G,H,I,J]
    refine Ad ?_;try simp only[h1,h3,h5,h7,h8,h9,h9n,E,F,G,H,I,J]
    refine Ad ?_;try simp only[h1,h3,h5,h7,h8,h9,h9n,E,F,G,H,I,J]
    refine Ad ?_;try simp only[h1,h3,h5,h7,h8,h9,h9n,E,F,G,H,I,J]
    refine Ad ?_;try simp only[h1,h3,h5,h7,h8,h9,h9n,E,F,G,H,I,J]
    refine Ad ?_;try simp only[h1,h3,h5,h7,h8,h9,h9n,E,F,G,H,I,J]
    refine L0 ?_;obtain⟨r20,h20,h⟩:=ob h;try simp only[h1,h3,h5,h7,h8,h9,h9n,E,F,G,H,I,J]
    refine BH (Ey h20) 99999999999 ?_;try simp only[h1,h3,h5,h7,h8,h9,h9n,E,F,G,H,I,J]
    cases h;exact t0
   ·obtain⟨h10,h⟩|⟨h10,h⟩:=ic h
    ·try simp only[h1,h3,h5,h7,h8,h10,E,F,G,H,I,J]
     refine Af ?_;obtain⟨x11,h11,h⟩:=ob h;have h11n:=Ah h11;obtain⟨x12,h12,h⟩:=ob h;have h12n:=Ah h12;obtain⟨x13,h13,h⟩:=ob h;have h13n:=Ah h13;try simp only[h1,h3,h5,h7,h8,h10,h11,h11n,h12,h12n,h13,h13n,E,F,G,H,I,J]
     refine AP (es:=Z zD ([(⟨x11,x12,x13⟩:Xf)]:P Xf)) ?_;obtain⟨h14,h⟩:=Az h;try simp only[h1,h3,h5,h7,h8,h10,h11,h11n,h12,h12n,h13,h13n,h14,E,F,G,H,I,J]
     refine Af ?_;try simp only[h1,h3,h5,h7,h8,h10,h11,h11n,h12,h12n,h13,h13n,h14,E,F,G,H,I,J]
     refine Af ?_;try simp only[h1,h3,h5,h7,h8,h10,h11,h11n,h12,h12n,h13,h13n,h14,E,F,G,H,I,J]
     refine Ad ?_;try simp only[h1,h3,h5,h7,h8,h10,h11,h11n,h12,h12n,h13,h13n,h14,E,F,G,H,I,J]
     refine Ad ?_;try simp only[h1,h3,h5,h7,h8,h10,h11,h11n,h12,h12n,h13,h13n,h14,E,F,G,H,I,J]
     refine Ad ?_;try simp only[h1,h3,h5,h7,h8,h10,h11,h11n,h12,h12n,h13,h13n,h14,E,F,G,H,I,J]
     refine Ad ?_;try simp only[h1,h3,h5,h7,h8,h10,h11,h11n,h12,h12n,h13,h13n,h14,E,F,G,H,I,J]
     refine Ad ?_;try simp only[h1,h3,h5,h7,h8,h10,h11,h11n,h12,h12n,h13,h13n,h14,E,F,G,H,I,J]
     refine Ad ?_;try simp only[h1,h3,h5,h7,h8,h10,h11,h11n,h12,h12n,h13,h13n,h14,E,F,G,H,I,J]
     refine L0 ?_;obtain⟨r21,h21,h⟩:=ob h;try simp only[h1,h3,h5,h7,h8,h10,h11,h11n,h12,h12n,h13,h13n,h14,E,F,G,H,I,J]
     refine BH (Ey h21) 99999999999 ?_;try simp only[h1,h3,h5,h7,h8,h10,h11,h11n,h12,h12n,h13,h13n,h14,E,F,G,H,I,J]
     cases h;exact t0
    ·obtain⟨h15,h⟩|⟨h15,h⟩:=ic h
     ·try simp only[h1,h3,h5,h7,h8,h10,h15,E,F,G,H,I,J]
      refine Af ?_;obtain⟨x16,h16,h⟩:=ob h;have h16n:=Ah h16;obtain⟨x17,h17,h⟩:=ob h;have h17n:=Ah h17;try simp only[h1,h3,h5,h7,h8,h10,h15,h16,h16n,h17,h17n,E,F,G,H,I,J]
      refine AP (es:=Z zE ([(⟨(0:U),x16,x17⟩:Xb)]:P Xb)) ?_;try simp only[h1,h3,h5,h7,h8,h10,h15,h16,h16n,h17,h17n,E,F,G,H,I,J]
      refine Af ?_;try simp only[h1,h3,h5,h7,h8,h10,h15,h16,h16n,h17,h17n,E,F,G,H,I,J]
      refine Ad ?_;try simp only[h1,h3,h5,h7,h8,h10,h15,h16,h16n,h17,h17n,E,F,G,H,I,J]
      refine Ad ?_;try simp only[h1,h3,h5,h7,h8,h10,h15,h16,h16n,h17,h17n,E,F,G,H,I,J]
      refine Ad ?_;try simp only[h1,h3,h5,h7,h8,h10,h15,h16,h16n,h17,h17n,E,F,G,H,I,J]
      refine Ad ?_;try simp only[h1,h3,h5,h7,h8,h10,h15,h16,h16n,h17,h17n,E,F,G,H,I,J]
      refine Ad ?_;try simp only[h1,h3,h5,h7,h8,h10,h15,h16,h16n,h17,h17n,E,F,G,H,I,J]
      refine Ad ?_;try simp only[h1,h3,h5,h7,h8,h10,h15,h16,h16n,h17,h17n,E,F,G,H,I,J]
      refine Ad ?_;obtain⟨r22,h22,h⟩:=ob h;try simp only[h1,h3,h5,h7,h8,h10,h15,h16,h16n,h17,h17n,E,F,G,H,I,J]
      refine BH (Ey h22) 99999999999 ?_;try simp only[h1,h3,h5,h7,h8,h10,h15,h16,h16n,h17,h17n,E,F,G,H,I,J]
      cases h;exact t0
     ·obtain⟨h18,h⟩|⟨h18,h⟩:=ic h
      ·obtain⟨x19,h19,h⟩:=ob h;have h19n:=Ah h19;try simp only[h1,h3,h5,h7,h8,h10,h15,h18,h19,h19n,E,F,G,H,I,J]
       refine Ad ?_;try simp only[h1,h3,h5,h7,h8,h10,h15,h18,h19,h19n,E,F,G,H,I,J]
       refine Ad ?_;try simp only[h1,h3,h5,h7,h8,h10,h15,h18,h19,h19n,E,F,G,H,I,J]
       refine Ad ?_;try simp only[h1,h3,h5,h7,h8,h10,h15,h18,h19,h19n,E,F,G,H,I,J]
       refine Ad ?_;try simp only[h1,h3,h5,h7,h8,h10,h15,h18,h19,h19n,E,F,G,H,I,J]
       refine Ad ?_;try simp only[h1,h3,h5,h7,h8,h10,h15,h18,h19,h19n,E,F,G,H,I,J]
       refine Ad ?_;try simp only[h1,h3,h5,h7,h8,h10,h15,h18,h19,h19n,E,F,G,H,I,J]
       refine L0 ?_;obtain⟨r23,h23,h⟩:=ob h;try simp only[h1,h3,h5,h7,h8,h10,h15,h18,h19,h19n,E,F,G,H,I,J]
       refine BH (Ey h23) 99999999999 ?_;try simp only[h1,h3,h5,h7,h8,h10,h15,h18,h19,h19n,E,F,G,H,I,J]
       cases h;exact t0
      ·try simp only[h1,h3,h5,h7,h8,h10,h15,h18,E,F,G,H,I,J]
       refine Ad ?_;try simp only[h1,h3,h5,h7,h8,h10,h15,h18,E,F,G,H,I,J]
       refine Ad ?_;try simp only[h1,h3,h5,h7,h8,h10,h15,h18,E,F,G,H,I,J]
       refine Ad ?_;try simp only[h1,h3,h5,h7,h8,h10,h15,h18,E,F,G,H,I,J]
       refine Ad ?_;try simp only[h1,h3,h5,h7,h8,h10,h15,h18,E,F,G,H,I,J]
       refine Ad ?_;try simp only[h1,h3,h5,h7,h8,h10,h15,h18,E,F,G,H,I,J]
       refine Ad ?_;try simp only[h1,h3,h5,h7,h8,h10,h15,h18,E,F,G,H,I,J]
       refine L0 ?_;obtain⟨r24,h24,h⟩:=ob h;try simp only[h1,h3,h5,h7,h8,h10,h15,h18,E,F,G,H,I,J]
       refine BH (Ey h24) 99999999999 ?_;try simp only[h1,h3,h5,h7,h8,h10,h15,h18,E,F,G,H,I,J]
       cases h;exact t0
 ·try simp only[h1,h3,E,F,G,H,I,J]
  refine Qy (fF (by kernel_rfl) Y (n:=(r2.1.length:U)) (by simp[BP,St.get,A1]) Y) ?_;try simp only[h1,h3,E,F,G,H,I,J]
  cases h;exact t0
instance uV:Ct 77 (∀{a0} {a1} {r},Kk a0 a1=N r→FC zA 77 [.ag (X2.row a0),.ag (X4.row a1)] [.sc (.v (.bool r))]):=by
 refine⟨fun h=> ?_⟩;unfold Kk at h;refine A2 mixed h0 [4] 47 ?_;exact gc
def NX:Hw:=([(14,[1,2,17,18,19],[2],[]),(36,[1,2,6,17,18,19,30,31,32],[2,6],[])],[])
def UW:=fun a1 v4 (a0:X2) (x6:X4) y10 y11 (k_:U→Q V)=>∀{v12} {zr},k_ v12=N zr→Kh zA 47 NX 36 [1,2,6,17,18,19,30,31,32] [2,6] [] ⟨[pL 1 X4.row a1,pB 2,pB 6,pL 17 X4.row a1,pI 18 (a1.length:U),pI 19 v4,pL 30 X4.row y10,pI 31 y11,pI 32 v12],[(2,(dm a0.row)),(6,(dm x6.row))],[]⟩ (A4 [4] [.sc (.v (.bool zr))])
def P8:=fun a1 (a0:X2) (k_:U→Q V)=>∀{v4} {zr},k_ v4=N zr→Kh zA 47 NX 14 [1,2,17,18,19] [2] [] ⟨[pL 1 X4.row a1,pB 2,pL 17 X4.row a1,pI 18 (a1.length:U),pI 19 v4],[(2,(dm a0.row))],[]⟩ (A4 [4] [.sc (.v (.bool zr))])
theorem rt{a1 v4 a0 x6 y10 y11}{Il}(ei:P8 a1 a0 Il){n:W}:UW a1 v4 a0 x6 y10 y11 (Jn a1 v4 a0 x6 y10 y11 Il n):=by
 induction n with
 | zero=>intro _ r h; cases h
 | succ n ih=>
  intro v12 r h σ hσ;rw[Jn] at h;have k0:= @ei;exact gc
theorem ru{a1 a0}{n:W}:P8 a1 a0 (Jm a1 a0 n):=by
 induction n with
 | zero=>intro _ r h; cases h
 | succ n ih=>
  intro v4 r h σ hσ;rw[Jm] at h;have k0:= @rt;exact gc
instance TX:Ct 47 (∀{a0} {a1} {r},Ci a0 a1=N r→FC zA 47 [.ag (X2.row a0),.sc (.sl (Z X4.row a1))] [.sc (.v (.bool r))]):=by
 refine⟨fun h=> ?_⟩;unfold Ci at h;refine A2 mixed NX [4] 43 ?_;have k0:= @ru;exact gc
def Rl:Hw:=([(16,[2,3,9,10],[2,3],[131136,131200])],[(11,3,(O,.ownb 3 1 131136 1)),(11,4,(O,.ownb 3 2 131200 1))])
def Vg:=fun a0 (k_:U→(P U)→(P V)→Q Xo)=>∀{v3 v4 v5} {zr},k_ v3 v4 v5=N zr→Kh zA 49 Rl 16 [2,3,9,10] [2,3] [131136,131200] ⟨[pB 2,pB 3,pI 9 a0,pI 10 v3],[(2,[aI (0:U),.nil,.nil]),(3,[aI (0:U),.own 131136,.own 131200])],[(131136,1,Z rI v4),(131200,1,Z rB v5)]⟩ (A4 [.c 2 T 3] [.ag [.v (.int .i64 zr.Now),.o 1 (Z rI zr.Starts),.o 1 (Z rB zr.Cleared)]])
theorem rv{a0}{n:W}:Vg a0 (JG a0 n):=by
 induction n with
 | zero=>intro _ _ _ r h; cases h
 | succ n ih=>
  intro v3 v4 v5 r h σ hσ;rw[JG] at h;have s0:= @Ap (Z rI ([(-1:U)]:P U));have s1:= @Ap (Z rB ([L]:P V));exact gc
instance ng:Ct 49 (∀{a0} {r},MM a0=N r→FC zA 49 [.sc (.int .i64 a0)] [.ag [.v (.int .i64 r.Now),.o 1 (Z rI r.Starts),.o 1 (Z rB r.Cleared)]]):=by
 refine⟨fun{a0} {r} h=> ?_⟩;unfold MM at h;refine A2 mixed Rl [.c 2 T 3] 24 ?_;intro S hS;refine ev hS ?_;simp only[E,F,G,H,I,J];try simp only[E,F,G,H,I,J]
 refine AI ?_;obtain⟨r1,h1,h⟩:=ob h;try simp only[E,F,G,H,I,J]
 refine Ai (A6 ou h1) ?_;obtain⟨h2,h⟩|⟨h2,h⟩:=ic h
 ·try simp only[h2,E,F,G,H,I,J]
  refine AI ?_;try simp only[h2,E,F,G,H,I,J]
  refine Dp (cs':= [aI (0:U),.own 131136,.nil]) Y Y Y Y ?_;try simp only[h2,E,F,G,H,I,J]
  refine Dp (cs':= [aI (0:U),.own 131136,.own 131200]) Y Y Y Y ?_;try simp only[h2,E,F,G,H,I,J]
  refine rv h ?_ (by kernel_rfl);try simp only[h2,E,F,G,H,I,J,pL,aM,zB]
 ·try simp only[h2,E,F,G,H,I,J]
  cases h;try simp only[D0,E,F,G,H,I,J]
  trivial
def Rm:Hw:=([],[(35,2,(O,.frz 1856)),(35,3,(O,.frz 4545)),(35,4,(O,.frz 4546))])
theorem bD:AB zA 26=N ((By zA 26 Rm).strip,[4],77):=by kernel_rfl
theorem nW{a0}{a1}{r}(h:MG a0 a1=N r):FCy zA 26 [.p,.d (.sc (.sl (Z rS a1)))] [.int .i64 a0.Harbour.Forecast.Tide.Mean,.sl (Z zD a0.Harbour.Forecast.Tide.Parts),.sl (Z zE a0.Harbour.Forecast.Surges),.sl (Z zF a0.Harbour.Chart.Points),.sl (Z X6.row a0.Harbour.Chart.Segments),.sl (Z X8.row a0.Harbour.Fleet),.int .i64 a0.Harbour.Regime.Gap,.bool a0.Harbour.Regime.NoMeet,.int .i64 a0.Harbour.Crew.Tugs,.int .i64 a0.Harbour.Crew.Pilots,.int .i64 a0.Harbour.Crew.Rest,.sl (Z rI a0.Harbour.Crew.Moves),.sl (Z X4.row a0.Calls),.int .i64 a0.Desk.Now,.sl (Z rI a0.Desk.Starts),.sl (Z rB a0.Desk.Cleared)] [.int .i64 r.2.Harbour.Forecast.Tide.Mean,.sl (Z zD r.2.Harbour.Forecast.Tide.Parts),.sl (Z zE r.2.Harbour.Forecast.Surges),.sl (Z zF r.2.Harbour.Chart.Points),.sl (Z X6.row r.2.Harbour.Chart.Segments),.sl (Z X8.row r.2.Harbour.Fleet),.int .i64 r.2.Harbour.Regime.Gap,.bool r.2.Harbour.Regime.NoMeet,.int .i64 r.2.Harbour.Crew.Tugs,.int .i64 r.2.Harbour.Crew.Pilots,.int .i64 r.2.Harbour.Crew.Rest,.sl (Z rI r.2.Harbour.Crew.Moves),.sl (Z X4.row r.2.Calls),.int .i64 r.2.Desk.Now,.sl (Z rI r.2.Desk.Starts),.sl (Z rB r.2.Desk.Cleared)] [.sc (.v (.str r.1))]:=by
 unfold MG at h;refine DC (σ:=⟨[(0,vc (.pb 99999999999 0)),(1,vc (aL (Z rS a1)))],[(99999999999,[aI a0.Harbour.Forecast.Tide.Mean,aL (Z zD a0.Harbour.Forecast.Tide.Parts),aL (Z zE a0.Harbour.Forecast.Surges),aL (Z zF a0.Harbour.Chart.Points),aL (Z X6.row a0.Harbour.Chart.Segments),aL (Z X8.row a0.Harbour.Fleet),aI a0.Harbour.Regime.Gap,aB a0.Harbour.Regime.NoMeet,aI a0.Harbour.Crew.Tugs,aI a0.Harbour.Crew.Pilots,aI a0.Harbour.Crew.Rest,aL (Z rI a0.Harbour.Crew.Moves),aL (Z X4.row a0.Calls),aI a0.Desk.Now,aL (Z rI a0.Desk.Starts),aL (Z rB a0.Desk.Cleared)])],[]⟩) mixed bD Y Y ?_;refine BG Rm ?_;intro S hS;refine ev hS ?_;obtain⟨h1,h⟩|⟨h1,h⟩:=ic h
 ·try simp only[h1,E,F,G,H,I,J]
  cases h;exact t0
 ·obtain⟨p2,h2,h⟩:=ob h;obtain⟨r3,h3,h⟩:=ob h;try simp only[h1,h2,E,F,G,H,I,J]
  refine Ai (A6 LR h3) ?_;obtain⟨h4,h⟩|⟨h4,h⟩:=ic h
  ·try simp only[h1,h2,h4,E,F,G,H,I,J]
   refine AI ?_;try simp only[h1,h2,h4,E,F,G,H,I,J]
   refine Af ?_;obtain⟨r5,h5,h⟩:=ob h;try simp only[h1,h2,h4,E,F,G,H,I,J]
   refine AR (A6 oM h5) ?_;obtain⟨x6,h6,h⟩:=ob h;obtain⟨r7,h7,h⟩:=ob h;try simp only[h1,h2,h4,h6,E,F,G,H,I,J]
   refine AR (A6 oC h7) ?_;obtain⟨x8,h8,h⟩:=ob h;obtain⟨r9,h9,h⟩:=ob h;try simp only[h1,h2,h4,h6,h8,E,F,G,H,I,J]
   refine AR (A6 LP h9) ?_;obtain⟨x10,h10,h⟩:=ob h;obtain⟨r11,h11,h⟩:=ob h;try simp only[h1,h2,h4,h6,h8,h10,E,F,G,H,I,J]
   refine AR (A6 LP h11) ?_;obtain⟨x12,h12,h⟩:=ob h;have h12n:=Ah h12;obtain⟨x13,h13,h⟩:=ob h;have h13n:=Ah h13;try simp only[h1,h2,h4,h6,h8,h10,h12,h12n,h13,h13n,E,F,G,H,I,J]
   refine AP (es:=Z X4.row ([(⟨r7,r9,r11,x12,x13⟩:X4)]:P X4)) ?_;obtain⟨h14,h⟩:=Az h;try simp only[h1,h2,h4,h6,h8,h10,h12,h12n,h13,h13n,h14,E,F,G,H,I,J]
   refine Af ?_;obtain⟨r15,h15,h⟩:=ob h;try simp only[h1,h2,h4,h6,h8,h10,h12,h12n,h13,h13n,h14,E,F,G,H,I,J]
   refine Db (A6 TX h15) Y (BN Y) Y (uf Y) ?_;obtain⟨h16,h⟩|⟨h16,h⟩:=ic h
   ·obtain⟨r18,h18,h⟩:=ob h;try simp only[h1,h2,h4,h6,h8,h10,h12,h12n,h13,h13n,h14,h16,E,F,G,H,I,J]
    refine Ai (A6 ng h18) ?_;obtain⟨r19,h19,h⟩:=ob h;try simp only[h1,h2,h4,h6,h8,h10,h12,h12n,h13,h13n,h14,h16,E,F,G,H,I,J]
    refine Ai (A6 U8 h19) ?_;try simp only[h1,h2,h4,h6,h8,h10,h12,h12n,h13,h13n,h14,h16,E,F,G,H,I,J]
    refine Ad ?_;try simp only[h1,h2,h4,h6,h8,h10,h12,h12n,h13,h13n,h14,h16,E,F,G,H,I,J]
    refine Ad ?_;try simp only[h1,h2,h4,h6,h8,h10,h12,h12n,h13,h13n,h14,h16,E,F,G,H,I,J]
    refine Ad ?_;try simp only[h1,h2,h4,h6,h8,h10,h12,h12n,h13,h13n,h14,h16,E,F,G,H,I,J]
    cases h;exact t0
   ·obtain⟨r17,h17,h⟩:=ob h;try simp only[h1,h2,h4,h6,h8,h10,h12,h12n,h13,h13n,h14,h16,E,F,G,H,I,J]
    refine Ai (A6 U8 h17) ?_;try simp only[h1,h2,h4,h6,h8,h10,h12,h12n,h13,h13n,h14,h16,E,F,G,H,I,J]
    cases h;exact t0
  ·try simp only[h1,h2,h4,E,F,G,H,I,J]
   cases h;exact t0
instance tR:Ct 165 (∀{a0} {a1} {r},FL a0 a1=N r→FC zA 165 [.ag (X2.row a0),.ag (X4.row a1)] [.sc (.v (.bool r))]):=by
 refine⟨fun h=> ?_⟩;unfold FL at h;refine A2 mixed h0 [4] 12 ?_;exact gc
instance U1:Ct 148 (∀{a0} {a1} {r},Ka a0 a1=N r→FC zA 148 [.ag (X6.row a0),.sc (.int .i64 a1)] [.sc (.v (.int .i64 r))]):=by
 refine⟨fun h=> ?_⟩;unfold Ka at h;refine A2 mixed h0 [4] 18 ?_;exact gc
def IV:P (P W × AItem):= [([],(O,.mv 18 (S 5))),([],(O,.mv 19 (S 5))),([1],(O,.nilc 20 (S 19))),([2],(O,.load 21 (S 20) L 1)),([],(O,.mv 22 (S 3))),([4],(O,.call 23 38 [(S 22)])),([5],(O,.bslice 24 1 [.sl []] 1 [(0,(S 23))])),([3,6,5],(O,.app 25 1 24 (S 21) (S 24))),([0,0,1,2,3,4,5,6,7],(O,.nilc 26 (S 18))),([8,7,7,0,1,2,3,4,5,6,7],(O,.store (S 26) (S 25) 1))]
def GL:P (P W × AItem):= [([],(O,.load 48 (S 6) T 2)),([],(O,.mv 49 (S 14))),([],(O,.mv 50 (S 2))),([],(O,.mv 51 (S 3))),([3],(O,.call 52 38 [(S 51)])),([],(O,.mv 53 (S 12))),([5],(O,.bslice 54 1 [.int .i64 0] 1 [(0,(S 53))])),([4,6,4],(O,.app 55 1 8 (S 52) (S 54))),([],(O,.load 56 (S 10) T 8)),([],(O,.mv 57 (S 5))),([0,1,2,7,8,9,7],(O,.call 58 147 [(S 48),(S 49),(S 50),(S 55),(S 56),(S 57)]))]
def Lc:Hw:=([(15,[1,2,3,5,6,10,30,31,32],[99999999999,6,10],[90000]),(30,[1,2,3,5,6,10,12,14,30,31,32,47],[99999999999,6,10],[90000])],[])
abbrev Ce(a3:P U)(wo3_ wo5_:AV)(c0_ c1_:V)(c2_ c3_:V)(c4_ c5_:V)(c6_ c7_ c8_:V)(bx_:P (W × P AC))(rs_:Rows):St:=⟨[(3,vc (aL (Z rI a3))),(5,vc (.pb 99999999999 0)),(18,bif c0_ then vc (.pb 99999999999 0) else .undef),(19,bif c1_ then vc (.pb 99999999999 0) else .undef),(20,bif c2_ then vc (.pb 99999999999 0) else .undef),(21,bif c3_ then wo3_ else .undef),(22,bif c4_ then vc (aL (Z rI a3)) else .undef),(23,bif c5_ then wo5_ else .undef),(24,bif c6_ then vc (.own 1536) else .undef),(25,bif c7_ then vc (.own 90000) else .undef),(26,bif c8_ then vc (.pb 99999999999 0) else .undef)],bx_,rs_⟩
abbrev Fh(a3:P U)(a5:P (P U))(r2:(P U)):St:=(Ce a3 (vc (.undef)) (vc (aL (Z rI r2))) T T T T T T T T T [(99999999999,[.own 90000])] [(90000,1,Z (rL rI) (a5++([r2]:P (P U)))),(1536,1,Z (rL rI) ([r2]:P (P U)))])
theorem rx(rec_:X5→U→U→(P U)→X3→(P (P U))→Q (P (P U)))(h_rec:∀(a0:X5) (a1 a2:U) (a3:P U) (a4:X3) (a5:P (P U)) zr,rec_ a0 a1 a2 a3 a4 a5=N zr→FCz zA 147 [.d (.ag (X5.row a0)),.d (.sc (.int .i64 a1)),.d (.sc (.int .i64 a2)),.d (.sc (.sl (Z rI a3))),.d (.ag (X3.row a4)),.p] [.r 0] [(1,Z (rL rI) a5)] [.r 0] [(1,Z (rL rI) zr)] [])(a3)(a5:P (P U))(r2)(h2:B9 a3=N r2)(h3:(Aa a5.length ([r2]:P (P U)).length 24)=T):∀(f:W),Am zA IV (Fh a3 a5 r2) f [T,T,T,T,T,T,T,T,T,T] (Ce a3 (vc (.undef)) (vc (aL (Z rI r2))) T T T T T T T T T [(99999999999,[.own 90000])] [(90000,1,Z (rL rI) (a5++([r2]:P (P U)))),(1536,1,Z (rL rI) ([r2]:P (P U)))]):=by
 intro f
 induction f with
 | zero=>intro h; rfl
 | succ f ih=>
  refine Aw ⟨?_,?_,?_,?_,?_,?_,?_,?_,?_,?_,⟨⟩⟩<;>try first | (intro h; cases h; done)
theorem ry(rec_:X5→U→U→(P U)→X3→(P (P U))→Q (P (P U)))(h_rec:∀(a0:X5) (a1 a2:U) (a3:P U) (a4:X3) (a5:P (P U)) zr,rec_ a0 a1 a2 a3 a4 a5=N zr→FCz zA 147 [.d (.ag (X5.row a0)),.d (.sc (.int .i64 a1)),.d (.sc (.int .i64 a2)),.d (.sc (.sl (Z rI a3))),.d (.ag (X3.row a4)),.p] [.r 0] [(1,Z (rL rI) a5)] [.r 0] [(1,Z (rL rI) zr)] [])(a3)(a5:P (P U))(r2)(h2:B9 a3=N r2)(h3:(Aa a5.length ([r2]:P (P U)).length 24)=T):∀(f:W) (b0 b1:V) (b2 b8:V),Am zA IV (Fh a3 a5 r2) f [b0,b1,b2,T,T,T,T,T,b8,L] (Ce a3 (vc (.undef)) (vc (aL (Z rI r2))) b0 b1 b2 T T T T T b8 [(99999999999,[.undef])] [(90000,1,Z (rL rI) (a5++([r2]:P (P U)))),(1536,1,Z (rL rI) ([r2]:P (P U)))]):=by
 intro f
 induction f with
 | zero=>intro b0 b1 b2 b8 h; simp at h
 | succ f ih=>
  intro b0 b1 b2 b8;refine Aw ⟨?_,?_,?_,?_,?_,?_,?_,?_,?_,?_,⟨⟩⟩<;>try first | (intro h; cases h; done) | (intro h0 hw; obtain rfl:=hz h0 rfl; (try obtain rfl:=hq hw 0 rfl rfl); (try obtain rfl:=hq hw 1 rfl rfl); (try obtain rfl:=hq hw 2 rfl rfl); refine np ?_; simp only[Ce,Ab,Ac,A5,E,F,G,H,I,J]; exact ih _ _ _ _)
  ·intro h0 hw;obtain rfl:=hq hw 0 rfl rfl;obtain rfl:=hq hw 1 rfl rfl;obtain rfl:=hq hw 2 rfl rfl;obtain rfl:=hq hw 8 rfl rfl;refine np ?_;try simp only[Ce,Ab,Ac,A5,E,F,G,H,I,J]
   exact rx rec_ h_rec a3 a5 r2 h2 h3 _
theorem rz(rec_:X5→U→U→(P U)→X3→(P (P U))→Q (P (P U)))(h_rec:∀(a0:X5) (a1 a2:U) (a3:P U) (a4:X3) (a5:P (P U)) zr,rec_ a0 a1 a2 a3 a4 a5=N zr→FCz zA 147 [.d (.ag (X5.row a0)),.d (.sc (.int .i64 a1)),.d (.sc (.int .i64 a2)),.d (.sc (.sl (Z rI a3))),.d (.ag (X3.row a4)),.p] [.r 0] [(1,Z (rL rI) a5)] [.r 0] [(1,Z (rL rI) zr)] [])(a3)(a5:P (P U))(r2)(h2:B9 a3=N r2)(h3:(Aa a5.length ([r2]:P (P U)).length 24)=T):∀(f:W) (b0 b1:V) (b2 b3:V),Am zA IV (Fh a3 a5 r2) f [b0,b1,b2,b3,T,T,T,L,L,L] (Ce a3 (vc (.own 90000)) (vc (aL (Z rI r2))) b0 b1 b2 b3 T T T L L [(99999999999,[.own 90000])] [(90000,1,Z (rL rI) a5),(1536,1,Z (rL rI) ([r2]:P (P U)))]):=by
 intro f
 induction f with
 | zero=>intro b0 b1 b2 b3 h; simp at h
 | succ f ih=>
  intro b0 b1 b2 b3;refine Aw ⟨?_,?_,?_,?_,?_,?_,?_,?_,?_,?_,⟨⟩⟩<;>try first | (intro h; cases h; done) | (intro _ hw; simp at hw; done) | (intro h0 hw; obtain rfl:=hz h0 rfl; (try obtain rfl:=hq hw 1 rfl rfl); (try obtain rfl:=hq hw 2 rfl rfl); refine np ?_; simp only[Ce,Ab,Ac,A5,E,F,G,H,I,J]; exact ih _ _ _ _)
  ·intro h0 hw;obtain rfl:=hq hw 3 rfl rfl;refine np ?_;try simp only[h3,Ce,Ab,Ac,A5,E,F,G,H,I,J]
   exact ry rec_ h_rec a3 a5 r2 h2 h3 _ b0 b1 b2 L
theorem sA(rec_:X5→U→U→(P U)→X3→(P (P U))→Q (P (P U)))(h_rec:∀(a0:X5) (a1 a2:U) (a3:P U) (a4:X3) (a5:P (P U)) zr,rec_ a0 a1 a2 a3 a4 a5=N zr→FCz zA 147 [.d (.ag (X5.row a0)),.d (.sc (.int .i64 a1)),.d (.sc (.int .i64 a2)),.d (.sc (.sl (Z rI a3))),.d (.ag (X3.row a4)),.p] [.r 0] [(1,Z (rL rI) a5)] [.r 0] [(1,Z (rL rI) zr)] [])(a3)(a5:P (P U))(r2)(h2:B9 a3=N r2)(h3:(Aa a5.length ([r2]:P (P U)).length 24)=T):∀(f:W) (b0 b1:V) (b2 b3:V),Am zA IV (Fh a3 a5 r2) f [b0,b1,b2,b3,T,T,L,L,L,L] (Ce a3 (vc (.own 90000)) (vc (.own 1472)) b0 b1 b2 b3 T T L L L [(99999999999,[.own 90000])] [(90000,1,Z (rL rI) a5),(1472,1,Z rI r2)]):=by
 intro f
 induction f with
 | zero=>intro b0 b1 b2 b3 h; simp at h
 | succ f ih=>
  intro b0 b1 b2 b3;refine Aw ⟨?_,?_,?_,?_,?_,?_,?_,?_,?_,?_,⟨⟩⟩<;>try first | (intro h; cases h; done) | (intro _ hw; simp at hw; done) | (intro h0 hw; obtain rfl:=hz h0 rfl; (try obtain rfl:=hq hw 1 rfl rfl); (try obtain rfl:=hq hw 2 rfl rfl); refine np ?_; simp only[Ce,Ab,Ac,A5,E,F,G,H,I,J]; exact ih _ _ _ _)
  ·intro h0 hw;refine⟨[(O,.frz 1472)],[],Y,Y,?_⟩;try simp only[Ce,Ab,Ac,zK,zJ,A5,E,F,G,H,I,J]
   refine Ad ?_;try simp only[A5,E,F,G,H,I,J]
   refine CR (es:=Z (rL rI) ([r2]:P (P U))) Y (by simp only[St.fresh,zG,zH,Bn]; simp[AV.cells,V1.cells,AC.uses]) ?_;try simp only[A5,E,F,G,H,I,J]
   exact rz rec_ h_rec a3 a5 r2 h2 h3 _ b0 b1 b2 b3
theorem sB(rec_:X5→U→U→(P U)→X3→(P (P U))→Q (P (P U)))(h_rec:∀(a0:X5) (a1 a2:U) (a3:P U) (a4:X3) (a5:P (P U)) zr,rec_ a0 a1 a2 a3 a4 a5=N zr→FCz zA 147 [.d (.ag (X5.row a0)),.d (.sc (.int .i64 a1)),.d (.sc (.int .i64 a2)),.d (.sc (.sl (Z rI a3))),.d (.ag (X3.row a4)),.p] [.r 0] [(1,Z (rL rI) a5)] [.r 0] [(1,Z (rL rI) zr)] [])(a3)(a5:P (P U))(r2)(h2:B9 a3=N r2)(h3:(Aa a5.length ([r2]:P (P U)).length 24)=T):∀(f:W) (b0 b1:V) (b2 b3 b4:V),Am zA IV (Fh a3 a5 r2) f [b0,b1,b2,b3,b4,L,L,L,L,L] (Ce a3 (vc (.own 90000)) (vc (.own 1472)) b0 b1 b2 b3 b4 L L L L [(99999999999,[.own 90000])] [(90000,1,Z (rL rI) a5)]):=by
 intro f
 induction f with
 | zero=>intro b0 b1 b2 b3 b4 h; simp at h
 | succ f ih=>
  intro b0 b1 b2 b3 b4;refine Aw ⟨?_,?_,?_,?_,?_,?_,?_,?_,?_,?_,⟨⟩⟩<;>try first | (intro _ hw; simp at hw; done) | (intro h0 hw; obtain rfl:=hz h0 rfl; (try obtain rfl:=hq hw 1 rfl rfl); (try obtain rfl:=hq hw 2 rfl rfl); refine np ?_; simp only[Ce,Ab,Ac,A5,E,F,G,H,I,J]; exact ih _ _ _ _ _)
  ·intro h0 hw;obtain rfl:=hq hw 4 rfl rfl;refine np ?_;try simp only[Ce,Ab,Ac,A5,E,F,G,H,I,J]
   refine Gl (A6 LQ h2) Y (by simp only[St.fresh,zG,zH,Bn]; simp[AV.cells,V1.cells,AC.uses]) (uf Y) ?_;try simp only[A5,E,F,G,H,I,J]
   exact sA rec_ h_rec a3 a5 r2 h2 h3 _ b0 b1 b2 b3
abbrev BD(a1 a2:U)(a3:P U)(v6 r11:U)(a0:X5)(y7:X3)(wo4_ wo7_:AV)(c0_ c1_:V)(c2_ c3_:V)(c4_ c5_:V)(c6_ c7_:V)(c8_ c9_ c10_:V)(bx_:P (W × P AC))(rs_:Rows):St:=⟨[(1,vc (aI a1)),(2,vc (aI a2)),(3,vc (aL (Z rI a3))),(5,vc (.pb 99999999999 0)),(6,vc (.pb 6 0)),(10,vc (.pb 10 0)),(12,vc (aI v6)),(14,vc (aI r11)),(30,vc (aL (Z X6.row a0.Segments))),(31,vc (aI (a0.Segments.length:U))),(32,vc (aI v6)),(48,bif c0_ then va (dm a0.row) else .undef),(49,bif c1_ then vc (aI r11) else .undef),(50,bif c2_ then vc (aI a2) else .undef),(51,bif c3_ then vc (aL (Z rI a3)) else .undef),(52,bif c4_ then wo4_ else .undef),(53,bif c5_ then vc (aI v6) else .undef),(54,bif c6_ then vc (.own 3456) else .undef),(55,bif c7_ then wo7_ else .undef),(56,bif c8_ then va [aB y7.i0,aB y7.i1,aB y7.i2,aB y7.i3,aB y7.i4,aB y7.i5,aB y7.i6,aB y7.i7] else .undef),(57,bif c9_ then vc (.pb 99999999999 0) else .undef),(58,bif c10_ then .tup [] else .undef)],bx_,rs_⟩
abbrev Eu(a1 a2:U)(a3:P U)(v6 r11:U)(a0:X5)(y7:X3)(r18:(P U))(r20:(P (P U))):St:=(BD a1 a2 a3 v6 r11 a0 y7 (vc (.undef)) (vc (aL (Z rI (r18++([v6]:P U))))) T T T T T T T T T T T [(99999999999,[.own 90000]),(6,(dm a0.row)),(10,[aB y7.i0,aB y7.i1,aB y7.i2,aB y7.i3,aB y7.i4,aB y7.i5,aB y7.i6,aB y7.i7])] [(90000,1,Z (rL rI) r20),(3456,1,Z rI ([v6]:P U))])
theorem sD(rec_:X5→U→U→(P U)→X3→(P (P U))→Q (P (P U)))(h_rec:∀(a0:X5) (a1 a2:U) (a3:P U) (a4:X3) (a5:P (P U)) zr,rec_ a0 a1 a2 a3 a4 a5=N zr→FCz zA 147 [.d (.ag (X5.row a0)),.d (.sc (.int .i64 a1)),.d (.sc (.int .i64 a2)),.d (.sc (.sl (Z rI a3))),.d (.ag (X3.row a4)),.p] [.r 0] [(1,Z (rL rI) a5)] [.r 0] [(1,Z (rL rI) zr)] [])(a1:U)(a2)(a3)(v6)(r11)(a0)(y7)(v8)(r18)(r20)(h18:B9 a3=N r18)(h19:(Aa r18.length ([v6]:P U).length 8)=T)(h20:rec_ a0 r11 a2 (r18++([v6]:P U)) y7 v8=N r20):∀(f:W),Am zA GL (Eu a1 a2 a3 v6 r11 a0 y7 r18 r20) f [T,T,T,T,T,T,T,T,T,T,T] (BD a1 a2 a3 v6 r11 a0 y7 (vc (.undef)) (vc (aL (Z rI (r18++([v6]:P U))))) T T T T T T T T T T T [(99999999999,[.own 90000]),(6,(dm a0.row)),(10,[aB y7.i0,aB y7.i1,aB y7.i2,aB y7.i3,aB y7.i4,aB y7.i5,aB y7.i6,aB y7.i7])] [(90000,1,Z (rL rI) r20),(3456,1,Z rI ([v6]:P U))]):=by
 intro f
 induction f with
 | zero=>intro h; rfl
 | succ f ih=>
  refine Aw ⟨?_,?_,?_,?_,?_,?_,?_,?_,?_,?_,?_,⟨⟩⟩<;>try first | (intro h; cases h; done)
theorem sE(rec_:X5→U→U→(P U)→X3→(P (P U))→Q (P (P U)))(h_rec:∀(a0:X5) (a1 a2:U) (a3:P U) (a4:X3) (a5:P (P U)) zr,rec_ a0 a1 a2 a3 a4 a5=N zr→FCz zA 147 [.d (.ag (X5.row a0)),.d (.sc (.int .i64 a1)),.d (.sc (.int .i64 a2)),.d (.sc (.sl (Z rI a3))),.d (.ag (X3.row a4)),.p] [.r 0] [(1,Z (rL rI) a5)] [.r 0] [(1,Z (rL rI) zr)] [])(a1:U)(a2)(a3)(v6)(r11)(a0)(y7)(v8)(r18)(r20)(h18:B9 a3=N r18)(h19:(Aa r18.length ([v6]:P U).length 8)=T)(h20:rec_ a0 r11 a2 (r18++([v6]:P U)) y7 v8=N r20):∀(f:W) (b0 b1:V) (b2 b8 b9:V),Am zA GL (Eu a1 a2 a3 v6 r11 a0 y7 r18 r20) f [b0,b1,b2,T,T,T,T,T,b8,b9,L] (BD a1 a2 a3 v6 r11 a0 y7 (vc (.undef)) (vc (.own 3328)) b0 b1 b2 T T T T T b8 b9 L [(99999999999,[.own 90000]),(6,(dm a0.row)),(10,[aB y7.i0,aB y7.i1,aB y7.i2,aB y7.i3,aB y7.i4,aB y7.i5,aB y7.i6,aB y7.i7])] [(90000,1,Z (rL rI) v8),(3328,1,Z rI (r18++([v6]:P U))),(3456,1,Z rI ([v6]:P U))]):=by
 intro f
 induction f with
 | zero=>intro b0 b1 b2 b8 b9 h; simp at h
 | succ f ih=>
  intro b0 b1 b2 b8 b9;refine Aw ⟨?_,?_,?_,?_,?_,?_,?_,?_,?_,?_,?_,⟨⟩⟩<;>try first | (intro h; cases h; done) | (intro h0 hw; obtain rfl:=hz h0 rfl; refine np ?_; simp only[BD,Ab,Ac,A5,E,F,G,H,I,J]; exact ih _ _ _ _ _)
  ·intro h0 hw;obtain rfl:=hq hw 0 rfl rfl;obtain rfl:=hq hw 1 rfl rfl;obtain rfl:=hq hw 2 rfl rfl;obtain rfl:=hq hw 8 rfl rfl;obtain rfl:=hq hw 9 rfl rfl;refine⟨[(O,.frz 3328)],[],Y,Y,?_⟩;try simp only[BD,Ab,Ac,zK,zJ,A5,E,F,G,H,I,J]
   refine Ad ?_;try simp only[A5,E,F,G,H,I,J]
   refine Gm (h_rec _ _ _ _ _ _ _ h20) 99999999999 [90000] rfl Y Y Y (by decide) Y Y Y ?_;try simp only[A5,E,F,G,H,I,J]
   exact sD rec_ h_rec a1 a2 a3 v6 r11 a0 y7 v8 r18 r20 h18 h19 h20 _
theorem Ut(rec_:X5→U→U→(P U)→X3→(P (P U))→Q (P (P U)))(h_rec:∀(a0:X5) (a1 a2:U) (a3:P U) (a4:X3) (a5:P (P U)) zr,rec_ a0 a1 a2 a3 a4 a5=N zr→FCz zA 147 [.d (.ag (X5.row a0)),.d (.sc (.int .i64 a1)),.d (.sc (.int .i64 a2)),.d (.sc (.sl (Z rI a3))),.d (.ag (X3.row a4)),.p] [.r 0] [(1,Z (rL rI) a5)] [.r 0] [(1,Z (rL rI) zr)] [])(a1:U)(a2)(a3)(v6)(r11)(a0)(y7)(v8)(r18)(r20)(h18:B9 a3=N r18)(h19:(Aa r18.length ([v6]:P U).length 8)=T)(h20:rec_ a0 r11 a2 (r18++([v6]:P U)) y7 v8=N r20):∀(f:W) (b0 b1:V) (b2 b8 b9:V),Am zA GL (Eu a1 a2 a3 v6 r11 a0 y7 r18 r20) f [b0,b1,b2,T,T,T,T,L,b8,b9,L] (BD a1 a2 a3 v6 r11 a0 y7 (vc (.own 3328)) (vc (.own 3328)) b0 b1 b2 T T T T L b8 b9 L [(99999999999,[.own 90000]),(6,(dm a0.row)),(10,[aB y7.i0,aB y7.i1,aB y7.i2,aB y7.i3,aB y7.i4,aB y7.i5,aB y7.i6,aB y7.i7])] [(90000,1,Z (rL rI) v8),(3328,1,Z rI r18),(3456,1,Z rI ([v6]:P U))]):=by
 intro f
 induction f with
 | zero=>intro b0 b1 b2 b8 b9 h; simp at h
 | succ f ih=>
  intro b0 b1 b2 b8 b9;refine Aw ⟨?_,?_,?_,?_,?_,?_,?_,?_,?_,?_,?_,⟨⟩⟩<;>try first | (intro h; cases h; done) | (intro _ hw; simp at hw; done) | (intro h0 hw; obtain rfl:=hz h0 rfl; refine np ?_; simp only[BD,Ab,Ac,A5,E,F,G,H,I,J]; exact ih _ _ _ _ _)
  ·intro h0 hw;refine np ?_;try simp only[h19,BD,Ab,Ac,A5,E,F,G,H,I,J]
   exact sE rec_ h_rec a1 a2 a3 v6 r11 a0 y7 v8 r18 r20 h18 h19 h20 _ b0 b1 b2 b8 b9
theorem sF(rec_:X5→U→U→(P U)→X3→(P (P U))→Q (P (P U)))(h_rec:∀(a0:X5) (a1 a2:U) (a3:P U) (a4:X3) (a5:P (P U)) zr,rec_ a0 a1 a2 a3 a4 a5=N zr→FCz zA 147 [.d (.ag (X5.row a0)),.d (.sc (.int .i64 a1)),.d (.sc (.int .i64 a2)),.d (.sc (.sl (Z rI a3))),.d (.ag (X3.row a4)),.p] [.r 0] [(1,Z (rL rI) a5)] [.r 0] [(1,Z (rL rI) zr)] [])(a1:U)(a2)(a3)(v6)(r11)(a0)(y7)(v8)(r18)(r20)(h18:B9 a3=N r18)(h19:(Aa r18.length ([v6]:P U).length 8)=T)(h20:rec_ a0 r11 a2 (r18++([v6]:P U)) y7 v8=N r20):∀(f:W) (b0 b1:V) (b2 b5:V) (b8 b9:V),Am zA GL (Eu a1 a2 a3 v6 r11 a0 y7 r18 r20) f [b0,b1,b2,T,T,b5,L,L,b8,b9,L] (BD a1 a2 a3 v6 r11 a0 y7 (vc (.own 3328)) (vc (.own 3328)) b0 b1 b2 T T b5 L L b8 b9 L [(99999999999,[.own 90000]),(6,(dm a0.row)),(10,[aB y7.i0,aB y7.i1,aB y7.i2,aB y7.i3,aB y7.i4,aB y7.i5,aB y7.i6,aB y7.i7])] [(90000,1,Z (rL rI) v8),(3328,1,Z rI r18)]):=by
 intro f
 induction f with
 | zero=>intro b0 b1 b2 b5 b8 b9 h; simp at h
 | succ f ih=>
  intro b0 b1 b2 b5 b8 b9;refine Aw ⟨?_,?_,?_,?_,?_,?_,?_,?_,?_,?_,?_,⟨⟩⟩<;>try first | (intro h; cases h; done) | (intro _ hw; simp at hw; done) | (intro h0 hw; obtain rfl:=hz h0 rfl; refine np ?_; simp only[BD,Ab,Ac,A5,E,F,G,H,I,J]; exact ih _ _ _ _ _ _)
  ·intro h0 hw;obtain rfl:=hq hw 5 rfl rfl;refine np ?_;try simp only[BD,Ab,Ac,A5,E,F,G,H,I,J]
   refine CR (es:=Z rI ([v6]:P U)) Y (by simp only[St.fresh,zG,zH,Bn]; simp[AV.cells,V1.cells,AC.uses]) ?_;try simp only[A5,E,F,G,H,I,J]
   exact Ut rec_ h_rec a1 a2 a3 v6 r11 a0 y7 v8 r18 r20 h18 h19 h20 _ b0 b1 b2 b8 b9
theorem sG(rec_:X5→U→U→(P U)→X3→(P (P U))→Q (P (P U)))(h_rec:∀(a0:X5) (a1 a2:U) (a3:P U) (a4:X3) (a5:P (P U)) zr,rec_ a0 a1 a2 a3 a4 a5=N zr→FCz zA 147 [.d (.ag (X5.row a0)),.d (.sc (.int .i64 a1)),.d (.sc (.int .i64 a2)),.d (.sc (.sl (Z rI a3))),.d (.ag (X3.row a4)),.p] [.r 0] [(1,Z (rL rI) a5)] [.r 0] [(1,Z (rL rI) zr)] [])(a1:U)(a2)(a3)(v6)(r11)(a0)(y7)(v8)(r18)(r20)(h18:B9 a3=N r18)(h19:(Aa r18.length ([v6]:P U).length 8)=T)(h20:rec_ a0 r11 a2 (r18++([v6]:P U)) y7 v8=N r20):∀(f:W) (b0 b1:V) (b2 b3:V) (b8 b9:V),Am zA GL (Eu a1 a2 a3 v6 r11 a0 y7 r18 r20) f [b0,b1,b2,b3,L,T,T,L,b8,b9,L] (BD a1 a2 a3 v6 r11 a0 y7 (vc (.own 3328)) (vc (.own 3328)) b0 b1 b2 b3 L T T L b8 b9 L [(99999999999,[.own 90000]),(6,(dm a0.row)),(10,[aB y7.i0,aB y7.i1,aB y7.i2,aB y7.i3,aB y7.i4,aB y7.i5,aB y7.i6,aB y7.i7])] [(90000,1,Z (rL rI) v8),(3456,1,Z rI ([v6]:P U))]):=by
 intro f
 induction f with
 | zero=>intro b0 b1 b2 b3 b8 b9 h; simp at h
 | succ f ih=>
  intro b0 b1 b2 b3 b8 b9;refine Aw ⟨?_,?_,?_,?_,?_,?_,?_,?_,?_,?_,?_,⟨⟩⟩<;>try first | (intro h; cases h; done) | (intro _ hw; simp at hw; done) | (intro h0 hw; obtain rfl:=hz h0 rfl; refine np ?_; simp only[BD,Ab,Ac,A5,E,F,G,H,I,J]; exact ih _ _ _ _ _ _)
  ·intro h0 hw;obtain rfl:=hq hw 3 rfl rfl;refine⟨[],[(O,.keep [1,2,3,5,6,10,12,14,30,31,32,48,49,50,51,52,53,54,55,56,57,58] [99999999999,6,10] [90000,3328,3456])],Y,Y,?_⟩;try simp only[BD,Ab,Ac,zK,zJ,A5,E,F,G,H,I,J]
   refine Gl (A6 LQ h18) Y (by simp only[St.fresh,zG,zH,Bn]; simp[AV.cells,V1.cells,AC.uses]) (uf Y) ?_;try simp only[A5,E,F,G,H,I,J]
   exact Ut rec_ h_rec a1 a2 a3 v6 r11 a0 y7 v8 r18 r20 h18 h19 h20 _ b0 b1 b2 b8 b9
theorem sH(rec_:X5→U→U→(P U)→X3→(P (P U))→Q (P (P U)))(h_rec:∀(a0:X5) (a1 a2:U) (a3:P U) (a4:X3) (a5:P (P U)) zr,rec_ a0 a1 a2 a3 a4 a5=N zr→FCz zA 147 [.d (.ag (X5.row a0)),.d (.sc (.int .i64 a1)),.d (.sc (.int .i64 a2)),.d (.sc (.sl (Z rI a3))),.d (.ag (X3.row a4)),.p] [.r 0] [(1,Z (rL rI) a5)] [.r 0] [(1,Z (rL rI) zr)] [])(a1:U)(a2)(a3)(v6)(r11)(a0)(y7)(v8)(r18)(r20)(h18:B9 a3=N r18)(h19:(Aa r18.length ([v6]:P U).length 8)=T)(h20:rec_ a0 r11 a2 (r18++([v6]:P U)) y7 v8=N r20):∀(f:W) (b0 b1:V) (b2 b3:V) (b5 b8 b9:V),Am zA GL (Eu a1 a2 a3 v6 r11 a0 y7 r18 r20) f [b0,b1,b2,b3,L,b5,L,L,b8,b9,L] (BD a1 a2 a3 v6 r11 a0 y7 (vc (.own 3328)) (vc (.own 3328)) b0 b1 b2 b3 L b5 L L b8 b9 L [(99999999999,[.own 90000]),(6,(dm a0.row)),(10,[aB y7.i0,aB y7.i1,aB y7.i2,aB y7.i3,aB y7.i4,aB y7.i5,aB y7.i6,aB y7.i7])] [(90000,1,Z (rL rI) v8)]):=by
 intro f
 induction f with
 | zero=>intro b0 b1 b2 b3 b5 b8 b9 h; simp at h
 | succ f ih=>
  intro b0 b1 b2 b3 b5 b8 b9;refine Aw ⟨?_,?_,?_,?_,?_,?_,?_,?_,?_,?_,?_,⟨⟩⟩<;>try first | (intro _ hw; simp at hw; done) | (intro h0 hw; obtain rfl:=hz h0 rfl; refine np ?_; simp only[BD,Ab,Ac,A5,E,F,G,H,I,J]; exact ih _ _ _ _ _ _ _)
  ·intro h0 hw;obtain rfl:=hq hw 3 rfl rfl;refine np ?_;try simp only[BD,Ab,Ac,A5,E,F,G,H,I,J]
   refine Gl (A6 LQ h18) Y (by simp only[St.fresh,zG,zH,Bn]; simp[AV.cells,V1.cells,AC.uses]) (uf Y) ?_;try simp only[A5,E,F,G,H,I,J]
   exact sF rec_ h_rec a1 a2 a3 v6 r11 a0 y7 v8 r18 r20 h18 h19 h20 _ b0 b1 b2 b5 b8 b9
  ·intro h0 hw;obtain rfl:=hq hw 5 rfl rfl;refine np ?_;try simp only[BD,Ab,Ac,A5,E,F,G,H,I,J]
   refine CR (es:=Z rI ([v6]:P U)) Y (by simp only[St.fresh,zG,zH,Bn]; simp[AV.cells,V1.cells,AC.uses]) ?_;try simp only[A5,E,F,G,H,I,J]
   exact sG rec_ h_rec a1 a2 a3 v6 r11 a0 y7 v8 r18 r20 h18 h19 h20 _ b0 b1 b2 b3 b8 b9
def V2:=fun a1 a2 a3 v6 r11 (a0:X5) (y7:X3) v8 (k_:V→Q (P (P U)))=>∀{v16} {zr},k_ v16=N zr→Kh zA 147 Lc 30 [1,2,3,5,6,10,12,14,30,31,32,47] [99999999999,6,10] [90000] ⟨[pI 1 a1,pI 2 a2,pL 3 rI a3,(5,vc (.pb 99999999999 0)),pB 6,pB 10,pI 12 v6,pI 14 r11,pL 30 X6.row a0.Segments,pI 31 (a0.Segments.length:U),pI 32 v6,(47,vc (aB v16))],[(99999999999,[.own 90000]),(6,(dm a0.row)),(10,[aB y7.i0,aB y7.i1,aB y7.i2,aB y7.i3,aB y7.i4,aB y7.i5,aB y7.i6,aB y7.i7])],[(90000,1,Z (rL rI) v8)]⟩ (DE [] [] [.r 0] [(1,Z (rL rI) zr)])
def Pb:=fun a1 a2 a3 (a0:X5) (y7:X3) (k_:U→(P (P U))→Q (P (P U)))=>∀{v6 v8} {zr},k_ v6 v8=N zr→Kh zA 147 Lc 15 [1,2,3,5,6,10,30,31,32] [99999999999,6,10] [90000] ⟨[pI 1 a1,pI 2 a2,pL 3 rI a3,(5,vc (.pb 99999999999 0)),pB 6,pB 10,pL 30 X6.row a0.Segments,pI 31 (a0.Segments.length:U),pI 32 v6],[(99999999999,[.own 90000]),(6,(dm a0.row)),(10,[aB y7.i0,aB y7.i1,aB y7.i2,aB y7.i3,aB y7.i4,aB y7.i5,aB y7.i6,aB y7.i7])],[(90000,1,Z (rL rI) v8)]⟩ (DE [] [] [.r 0] [(1,Z (rL rI) zr)])
theorem Uu{rec_:X5→U→U→(P U)→X3→(P (P U))→Q (P (P U))}(h_rec:∀(a0:X5) (a1 a2:U) (a3:P U) (a4:X3) (a5:P (P U)) zr,rec_ a0 a1 a2 a3 a4 a5=N zr→FCz zA 147 [.d (.ag (X5.row a0)),.d (.sc (.int .i64 a1)),.d (.sc (.int .i64 a2)),.d (.sc (.sl (Z rI a3))),.d (.ag (X3.row a4)),.p] [.r 0] [(1,Z (rL rI) a5)] [.r 0] [(1,Z (rL rI) zr)] []){a1 a2 a3 v6 r11 a0 y7 v8}{In}(Ry:Pb a1 a2 a3 a0 y7 In):V2 a1 a2 a3 v6 r11 a0 y7 v8 (Jw rec_ a1 a2 a3 v6 r11 a0 y7 v8 In):=by
 intro v16 r h σ hσ S hS;refine ev hS ?_;refine An ?_;unfold Jw at h;obtain⟨h17,h⟩|⟨h17,h⟩:=ic h
 ·try simp only[hσ,h17,E,F,G,H,I,J]
  obtain⟨r18,h18,h⟩:=ob h;obtain⟨h19,h⟩:=Az h;obtain⟨r20,h20,h⟩:=ob h;refine DM (ks:= [1,2,3,5,6,10,12,14,30,31,32]) (bs:= [99999999999,6,10]) (rs:= [90000]) (τ:=(Eu a1 a2 a3 v6 r11 a0 y7 r18 r20)) Y (sH rec_ h_rec a1 a2 a3 v6 r11 a0 y7 v8 r18 r20 h18 h19 h20 _ L L L L L L L) ?_;simp only[Eu,BD,Ab];try simp only[h17,h19,E,F,G,H,I,J]
  refine Ry h ?_ (by kernel_rfl);try simp only[h17,h19,E,F,G,H,I,J,pL,aM,zB]
 ·try simp only[hσ,h17,E,F,G,H,I,J]
  refine Ry h ?_ (by kernel_rfl);try simp only[h17,E,F,G,H,I,J,pL,aM,zB]
theorem sI{rec_:X5→U→U→(P U)→X3→(P (P U))→Q (P (P U))}(h_rec:∀(a0:X5) (a1 a2:U) (a3:P U) (a4:X3) (a5:P (P U)) zr,rec_ a0 a1 a2 a3 a4 a5=N zr→FCz zA 147 [.d (.ag (X5.row a0)),.d (.sc (.int .i64 a1)),.d (.sc (.int .i64 a2)),.d (.sc (.sl (Z rI a3))),.d (.ag (X3.row a4)),.p] [.r 0] [(1,Z (rL rI) a5)] [.r 0] [(1,Z (rL rI) zr)] []){a1 a2 a3 a0 y7}{n:W}:Pb a1 a2 a3 a0 y7 (H8 rec_ a1 a2 a3 a0 y7 n):=by
 induction n with
 | zero=>intro _ _ r h; cases h
 | succ n ih=>
  intro v6 v8 r h σ hσ S hS;refine ev hS ?_;rw[H8] at h;refine AF (An ?_);obtain⟨h9,h⟩|⟨h9,h⟩:=ic h
  ·obtain⟨x10,h10,h⟩:=ob h;try simp only[hσ,h9,h10,E,F,G,H,I,J]
   refine AI ?_;obtain⟨r11,h11,h⟩:=ob h;try simp only[h9,h10,E,F,G,H,I,J]
   refine Ai (A6 U1 h11) ?_;obtain⟨h12,h⟩|⟨h12,h⟩:=ic h
   ·obtain⟨h13,h⟩:=Az h;try simp only[h9,h10,h12,E,F,G,H,I,J]
    refine Ib Y Y h13 ?_;obtain⟨x14,h14,h⟩:=ob h;have h14n:=Ah h14;have hA15:([aB y7.i0,aB y7.i1,aB y7.i2,aB y7.i3,aB y7.i4,aB y7.i5,aB y7.i6,aB y7.i7]:P AC)[zC r11]?=N (aB x14):=PD h14n;try simp only[h9,h10,h12,hA15,E,F,G,H,I,J]
    refine Uu h_rec ih h ?_ (by kernel_rfl);try simp only[h9,h10,h12,hA15,E,F,G,H,I,J,pL,aM,zB]
   ·try simp only[h9,h10,h12,E,F,G,H,I,J]
    refine Uu h_rec ih h ?_ (by kernel_rfl);try simp only[h9,h10,h12,E,F,G,H,I,J,pL,aM,zB]
  ·try simp only[hσ,h9,E,F,G,H,I,J]
   cases h;exact⟨trivial,[90000],by decide,by decide,Y,Y⟩
theorem bE:AB zA 147=N ((By zA 147 Lc).strip,[],60):=by kernel_rfl
theorem nS(rec_:X5→U→U→(P U)→X3→(P (P U))→Q (P (P U)))(a0:X5)(a1 a2:U)(a3:P U)(a4:X3)(a5:P (P U))(r:(P (P U)))(h_rec:∀(a0:X5) (a1 a2:U) (a3:P U) (a4:X3) (a5:P (P U)) zr,rec_ a0 a1 a2 a3 a4 a5=N zr→FCz zA 147 [.d (.ag (X5.row a0)),.d (.sc (.int .i64 a1)),.d (.sc (.int .i64 a2)),.d (.sc (.sl (Z rI a3))),.d (.ag (X3.row a4)),.p] [.r 0] [(1,Z (rL rI) a5)] [.r 0] [(1,Z (rL rI) zr)] [])(h:MF rec_ a0 a1 a2 a3 a4 a5=N r):FCz zA 147 [.d (.ag (X5.row a0)),.d (.sc (.int .i64 a1)),.d (.sc (.int .i64 a2)),.d (.sc (.sl (Z rI a3))),.d (.ag (X3.row a4)),.p] [.r 0] [(1,Z (rL rI) a5)] [.r 0] [(1,Z (rL rI) r)] []:=by
 unfold MF at h;refine LV (σ:=⟨[(0,va (dm a0.row)),(1,vc (aI a1)),(2,vc (aI a2)),(3,vc (aL (Z rI a3))),(4,va [aB a4.i0,aB a4.i1,aB a4.i2,aB a4.i3,aB a4.i4,aB a4.i5,aB a4.i6,aB a4.i7]),(5,vc (.pb 99999999999 0))],[(99999999999,[.own 90000])],[(90000,1,Z (rL rI) a5)]⟩) mixed bE Y Y Y Y ?_;refine BG Lc ?_;intro S hS;refine ev hS ?_;try simp only[E,F,G,H,I,J]
 refine BA ?_;try simp only[E,F,G,H,I,J]
 refine BA ?_;obtain⟨h1,h⟩|⟨h1,h⟩:=ic h
 ·try simp only[h1,E,F,G,H,I,J]
  obtain⟨r2,h2,h⟩:=ob h;obtain⟨h3,h⟩:=Az h;refine DM (ks:= [3,5]) (bs:= [99999999999]) (rs:= [90000]) (τ:=(Fh a3 a5 r2)) Y (sB rec_ h_rec a3 a5 r2 h2 h3 _ L L L L L) ?_;simp only[Fh,Ce,Ab];try simp only[h1,h3,E,F,G,H,I,J]
  cases h;exact⟨trivial,[90000],by decide,by decide,Y,Y⟩
 ·obtain⟨h4,h⟩:=Az h;try simp only[h1,E,F,G,H,I,J]
  refine Ib Y Y h4 ?_;have hA5:Bm [aB a4.i0,aB a4.i1,aB a4.i2,aB a4.i3,aB a4.i4,aB a4.i5,aB a4.i6,aB a4.i7] (zC a1) [aB T]= [aB ((X3.set a4 (zC a1) T)).i0,aB ((X3.set a4 (zC a1) T)).i1,aB ((X3.set a4 (zC a1) T)).i2,aB ((X3.set a4 (zC a1) T)).i3,aB ((X3.set a4 (zC a1) T)).i4,aB ((X3.set a4 (zC a1) T)).i5,aB ((X3.set a4 (zC a1) T)).i6,aB ((X3.set a4 (zC a1) T)).i7]:=X3.set_eq a4 (DG h4);have hA5g:Bw [aB a4.i0,aB a4.i1,aB a4.i2,aB a4.i3,aB a4.i4,aB a4.i5,aB a4.i6,aB a4.i7] (zC a1+1)=T:=Mc (DG h4);have hA5h:Bw [aB a4.i1,aB a4.i2,aB a4.i3,aB a4.i4,aB a4.i5,aB a4.i6,aB a4.i7] (zC a1)=T:=Md (c:=aB a4.i0) (DG h4);try simp only[h1,hA5,hA5g,hA5h,E,F,G,H,I,J]
  refine sI h_rec h ?_ (by kernel_rfl);try simp only[h1,hA5,hA5g,hA5h,E,F,G,H,I,J,pL,aM,zB]
theorem nT:∀(n:W) (a0:X5) (a1:U) (a2:U) (a3:P U) (a4:X3) (a5:P (P U)) (r:(P (P U))),H9 n a0 a1 a2 a3 a4 a5=N r→FCz zA 147 [.d (.ag (X5.row a0)),.d (.sc (.int .i64 a1)),.d (.sc (.int .i64 a2)),.d (.sc (.sl (Z rI a3))),.d (.ag (X3.row a4)),.p] [.r 0] [(1,Z (rL rI) a5)] [.r 0] [(1,Z (rL rI) r)] []:=by
 intro n
 induction n with
 | zero=>intro _ _ _ _ _ _ r h; cases h
 | succ n ih=>intro a0 a1 a2 a3 a4 a5 r h; rw[H9] at h; exact nS (H9 n) a0 a1 a2 a3 a4 a5 r ih h
theorem nR{a0}{a1}{a2}{a3}{a4}{a5}{r}(h:Q8 a0 a1 a2 a3 a4 a5=N r):FCz zA 147 [.d (.ag (X5.row a0)),.d (.sc (.int .i64 a1)),.d (.sc (.int .i64 a2)),.d (.sc (.sl (Z rI a3))),.d (.ag (X3.row a4)),.p] [.r 0] [(1,Z (rL rI) a5)] [.r 0] [(1,Z (rL rI) r)] []:=nT bigN a0 a1 a2 a3 a4 a5 r h
instance ny:Ct 100 (∀{a0} {a1} {a2} {r},N1 a0 a1 a2=N r→FC zA 100 [.ag (X5.row a0),.sc (.int .i64 a1),.sc (.int .i64 a2)] [.sc (.o 1 (Z (rL rI) r))]):=by
 refine⟨fun{a0} {a1} {a2} {r} h=> ?_⟩;unfold N1 at h;refine A2 mixed h0 [6] 34 ?_;intro S hS;refine ev hS ?_;simp only[E,F,G,H,I,J];try simp only[E,F,G,H,I,J]
 refine BA ?_;obtain⟨r1,h1,h⟩:=ob h;try simp only[E,F,G,H,I,J]
 refine Ai (A6 nQ h1) ?_;obtain⟨h2,h⟩|⟨h2,h⟩:=ic h
 ·obtain⟨r3,h3,h⟩:=ob h;try simp only[h2,E,F,G,H,I,J]
  refine Ai (A6 IT h3) ?_;obtain⟨h4,h⟩|⟨h4,h⟩:=ic h
  ·obtain⟨r5,h5,h⟩:=ob h;try simp only[h2,h4,E,F,G,H,I,J]
   refine Ai (A6 IT h5) ?_;obtain⟨h6,h⟩|⟨h6,h⟩:=ic h
   ·try simp only[h2,h4,h6,E,F,G,H,I,J]
    refine AP (es:=Z (rL rI) ([]:P (P U))) ?_;try simp only[h2,h4,h6,E,F,G,H,I,J]
    refine AI ?_;try simp only[h2,h4,h6,E,F,G,H,I,J]
    refine Ic ?_;obtain⟨r7,h7,h⟩:=ob h;try simp only[h2,h4,h6,E,F,G,H,I,J]
    refine Gm (nR h7) 7 [1728] rfl Y Y Y (by decide) Y Y Y ?_;try simp only[h2,h4,h6,E,F,G,H,I,J]
    cases h;exact t0
   ·try simp only[h2,h4,h6,E,F,G,H,I,J]
    cases h;exact t0
  ·try simp only[h2,h4,E,F,G,H,I,J]
   cases h;exact t0
 ·try simp only[h2,E,F,G,H,I,J]
  cases h;exact t0
def Rn:Hw:=([(16,[2,5,11,12,13],[2],[])],[])
def VL:=fun a1 (a0:X5) (k_:U→U→Q U)=>∀{v3 v4} {zr},k_ v3 v4=N zr→Kh zA 101 Rn 16 [2,5,11,12,13] [2] [] ⟨[pB 2,pI 5 v3,pL 11 rI a1,pI 12 (a1.length:U),pI 13 v4],[(2,(dm a0.row))],[]⟩ (A4 [4] [.sc (.v (.int .i64 zr))])
theorem sJ{a1 a0}{n:W}:VL a1 a0 (K6 a1 a0 n):=by
 induction n with
 | zero=>intro _ _ r h; cases h
 | succ n ih=>
  intro v3 v4 r h σ hσ;rw[K6] at h;exact gc
instance TZ:Ct 101 (∀{a0} {a1} {r},Hy a0 a1=N r→FC zA 101 [.ag (X5.row a0),.sc (.sl (Z rI a1))] [.sc (.v (.int .i64 r))]):=by
 refine⟨fun h=> ?_⟩;unfold Hy at h;refine A2 mixed Rn [4] 33 ?_;have k0:= @sJ;exact gc
def Ro:Hw:=([(18,[3,9,22,23,24],[3],[960])],[])
def UT:=fun r1 (a0:X5) (k_:(P U)→U→Q ((P U) × V))=>∀{v4 v5} {zr},k_ v4 v5=N zr→Kh zA 65 Ro 18 [3,9,22,23,24] [3] [960] ⟨[pB 3,pL 9 rI v4,pW 22 960,pI 23 (r1.length:U),pI 24 v5],[(3,(dm a0.row))],[(960,1,Z (rL rI) r1)]⟩ (A4 [6,7] [.sc (.v (.sl (Z rI zr.1))),.sc (.v (.bool zr.2))])
theorem sK{r1 a0}{n:W}:UT r1 a0 (H4 r1 a0 n):=by
 induction n with
 | zero=>intro _ _ r h; cases h
 | succ n ih=>
  intro v4 v5 r h σ hσ S hS;refine ev hS ?_;rw[H4] at h;refine AF (An ?_);obtain⟨h6,h⟩|⟨h6,h⟩:=ic h
  ·obtain⟨x7,h7,h⟩:=ob h;have h7n:=Ah h7;try simp only[hσ,h6,h7,h7n,E,F,G,H,I,J]
   refine Af ?_;obtain⟨r9,h9,h⟩:=ob h;try simp only[h6,h7,h7n,E,F,G,H,I,J]
   refine AR (A6 TZ h9) ?_;obtain⟨r10,h10,h⟩:=ob h;try simp only[h6,h7,h7n,E,F,G,H,I,J]
   refine AR (A6 TZ h10) ?_;obtain⟨h11,h⟩|⟨h11,h⟩:=ic h
   ·try simp only[h6,h7,h7n,h11,E,F,G,H,I,J]
    refine ih h ?_ (by kernel_rfl);try simp only[h6,h7,h7n,h11,E,F,G,H,I,J,pL,aM,zB]
   ·try simp only[h6,h7,h7n,h11,E,F,G,H,I,J]
    refine ih h ?_ (by kernel_rfl);try simp only[h6,h7,h7n,h11,E,F,G,H,I,J,pL,aM,zB]
  ·try simp only[hσ,h6,E,F,G,H,I,J]
   cases h;trivial
instance tP:Ct 65 (∀{a0} {a1} {a2} {r},EI a0 a1 a2=N r→FC zA 65 [.ag (X5.row a0),.sc (.int .i64 a1),.sc (.int .i64 a2)] [.sc (.v (.sl (Z rI r.1))),.sc (.v (.bool r.2))]):=by
 refine⟨fun{a0} {a1} {a2} {r} h=> ?_⟩;unfold EI at h;refine A2 mixed Ro [6,7] 38 ?_;intro S hS;refine ev hS ?_;simp only[E,F,G,H,I,J];try simp only[E,F,G,H,I,J]
 refine BA ?_;obtain⟨r1,h1,h⟩:=ob h;try simp only[E,F,G,H,I,J]
 refine Ai (A6 ny h1) ?_;obtain⟨h2,h⟩|⟨h2,h⟩:=ic h
 ·try simp only[h2,E,F,G,H,I,J]
  cases h;trivial
 ·obtain⟨x3,h3,h⟩:=ob h;have h3n:=Ah h3;try simp only[h2,h3,h3n,E,F,G,H,I,J]
  refine sK h ?_ (by kernel_rfl);try simp only[h2,h3,h3n,E,F,G,H,I,J,pL,aM,zB]
def NZ:Hw:=([(20,[1,3,8,9,22,23,24],[3,8],[1344]),(44,[1,3,8,9,22,23,24,47],[3,8],[1344])],[])
def V0:=fun r14 a2 v6 (a0:X5) (v7:X3) v8 (k_:V→Q ((P U) × V))=>∀{v19} {zr},k_ v19=N zr→Kh zA 102 NZ 44 [1,3,8,9,22,23,24,47] [3,8] [1344] ⟨[pI 1 r14,pB 3,pB 8,pW 9 1344,pL 22 rI a2,pI 23 (a2.length:U),pI 24 v6,(47,vc (aB v19))],[(3,(dm a0.row)),(8,[aB v7.i0,aB v7.i1,aB v7.i2,aB v7.i3,aB v7.i4,aB v7.i5,aB v7.i6,aB v7.i7])],[(1344,1,Z rI v8)]⟩ (A4 [6,7] [.sc (.o 1 (Z rI zr.1)),.sc (.v (.bool zr.2))])
def Pa:=fun a2 (a0:X5) (k_:U→U→X3→(P U)→Q ((P U) × V))=>∀{v5 v6 v7 v8} {zr},k_ v5 v6 v7 v8=N zr→Kh zA 102 NZ 20 [1,3,8,9,22,23,24] [3,8] [1344] ⟨[pI 1 v5,pB 3,pB 8,pW 9 1344,pL 22 rI a2,pI 23 (a2.length:U),pI 24 v6],[(3,(dm a0.row)),(8,[aB v7.i0,aB v7.i1,aB v7.i2,aB v7.i3,aB v7.i4,aB v7.i5,aB v7.i6,aB v7.i7])],[(1344,1,Z rI v8)]⟩ (A4 [6,7] [.sc (.o 1 (Z rI zr.1)),.sc (.v (.bool zr.2))])
theorem Uv{r14 a2 v6 a0 v7 v8}{Ll}(em:Pa a2 a0 Ll):V0 r14 a2 v6 a0 v7 v8 (Jv r14 a2 v6 a0 v7 v8 Ll):=by
 intro v19 r h σ hσ S hS;refine ev hS ?_;refine An ?_;unfold Jv at h;obtain⟨h20,h⟩|⟨h20,h⟩:=ic h
 ·try simp only[hσ,h20,E,F,G,H,I,J]
  cases h;trivial
 ·obtain⟨h21,h⟩:=Az h;try simp only[hσ,h20,E,F,G,H,I,J]
  refine Ib Y Y h21 ?_;have hA22:Bm [aB v7.i0,aB v7.i1,aB v7.i2,aB v7.i3,aB v7.i4,aB v7.i5,aB v7.i6,aB v7.i7] (zC r14) [aB T]= [aB ((X3.set v7 (zC r14) T)).i0,aB ((X3.set v7 (zC r14) T)).i1,aB ((X3.set v7 (zC r14) T)).i2,aB ((X3.set v7 (zC r14) T)).i3,aB ((X3.set v7 (zC r14) T)).i4,aB ((X3.set v7 (zC r14) T)).i5,aB ((X3.set v7 (zC r14) T)).i6,aB ((X3.set v7 (zC r14) T)).i7]:=X3.set_eq v7 (DG h21);have hA22g:Bw [aB v7.i0,aB v7.i1,aB v7.i2,aB v7.i3,aB v7.i4,aB v7.i5,aB v7.i6,aB v7.i7] (zC r14+1)=T:=Mc (DG h21);have hA22h:Bw [aB v7.i1,aB v7.i2,aB v7.i3,aB v7.i4,aB v7.i5,aB v7.i6,aB v7.i7] (zC r14)=T:=Md (c:=aB v7.i0) (DG h21);try simp only[h20,hA22,hA22g,hA22h,E,F,G,H,I,J]
  refine AP (es:=Z rI ([r14]:P U)) ?_;obtain⟨h23,h⟩:=Az h;try simp only[h20,hA22,hA22g,hA22h,h23,E,F,G,H,I,J]
  refine em h ?_ (by kernel_rfl);try simp only[h20,hA22,hA22g,hA22h,h23,E,F,G,H,I,J,pL,aM,zB]
theorem sL{a2 a0}{n:W}:Pa a2 a0 (H7 a2 a0 n):=by
 induction n with
 | zero=>intro _ _ _ _ r h; cases h
 | succ n ih=>
  intro v5 v6 v7 v8 r h σ hσ S hS;refine ev hS ?_;rw[H7] at h;refine AF (An ?_);obtain⟨h9,h⟩|⟨h9,h⟩:=ic h
  ·obtain⟨x10,h10,h⟩:=ob h;obtain⟨r11,h11,h⟩:=ob h;try simp only[hσ,h9,h10,E,F,G,H,I,J]
   refine Ai (A6 IT h11) ?_;obtain⟨h12,h⟩|⟨h12,h⟩:=ic h
   ·obtain⟨x13,h13,h⟩:=ob h;obtain⟨r14,h14,h⟩:=ob h;try simp only[h9,h10,h12,h13,E,F,G,H,I,J]
    refine Ai (A6 U1 h14) ?_;obtain⟨h15,h⟩|⟨h15,h⟩:=ic h
    ·try simp only[h9,h10,h12,h13,h15,E,F,G,H,I,J]
     refine Uv ih h ?_ (by kernel_rfl);try simp only[h9,h10,h12,h13,h15,E,F,G,H,I,J,pL,aM,zB]
    ·obtain⟨h16,h⟩:=Az h;try simp only[h9,h10,h12,h13,h15,E,F,G,H,I,J]
     refine Ib Y Y h16 ?_;obtain⟨x17,h17,h⟩:=ob h;have h17n:=Ah h17;have hA18:([aB v7.i0,aB v7.i1,aB v7.i2,aB v7.i3,aB v7.i4,aB v7.i5,aB v7.i6,aB v7.i7]:P AC)[zC r14]?=N (aB x17):=PD h17n;try simp only[h9,h10,h12,h13,h15,hA18,E,F,G,H,I,J]
     refine Uv ih h ?_ (by kernel_rfl);try simp only[h9,h10,h12,h13,h15,hA18,E,F,G,H,I,J,pL,aM,zB]
   ·try simp only[h9,h10,h12,E,F,G,H,I,J]
    cases h;trivial
  ·try simp only[hσ,h9,E,F,G,H,I,J]
   cases h;trivial
instance tU:Ct 102 (∀{a0} {a1} {a2} {r},Ju a0 a1 a2=N r→FC zA 102 [.ag (X5.row a0),.sc (.int .i64 a1),.sc (.sl (Z rI a2))] [.sc (.o 1 (Z rI r.1)),.sc (.v (.bool r.2))]):=by
 refine⟨fun{a0} {a1} {a2} {r} h=> ?_⟩;unfold Ju at h;refine A2 mixed NZ [6,7] 56 ?_;intro S hS;refine ev hS ?_;simp only[E,F,G,H,I,J];try simp only[E,F,G,H,I,J]
 refine BA ?_;obtain⟨r1,h1,h⟩:=ob h;try simp only[E,F,G,H,I,J]
 refine Ai (A6 IT h1) ?_;obtain⟨h2,h⟩|⟨h2,h⟩:=ic h
 ·try simp only[h2,E,F,G,H,I,J]
  refine AI ?_;obtain⟨h3,h⟩:=Az h;try simp only[h2,E,F,G,H,I,J]
  refine Ib Y Y h3 ?_;have hA4:Bm [aB L,aB L,aB L,aB L,aB L,aB L,aB L,aB L] (zC a1) [aB T]= [aB ((X3.set (⟨L,L,L,L,L,L,L,L⟩:X3) (zC a1) T)).i0,aB ((X3.set (⟨L,L,L,L,L,L,L,L⟩:X3) (zC a1) T)).i1,aB ((X3.set (⟨L,L,L,L,L,L,L,L⟩:X3) (zC a1) T)).i2,aB ((X3.set (⟨L,L,L,L,L,L,L,L⟩:X3) (zC a1) T)).i3,aB ((X3.set (⟨L,L,L,L,L,L,L,L⟩:X3) (zC a1) T)).i4,aB ((X3.set (⟨L,L,L,L,L,L,L,L⟩:X3) (zC a1) T)).i5,aB ((X3.set (⟨L,L,L,L,L,L,L,L⟩:X3) (zC a1) T)).i6,aB ((X3.set (⟨L,L,L,L,L,L,L,L⟩:X3) (zC a1) T)).i7]:=X3.set_eq (⟨L,L,L,L,L,L,L,L⟩:X3) (DG h3);have hA4g:Bw [aB L,aB L,aB L,aB L,aB L,aB L,aB L,aB L] (zC a1+1)=T:=Mc (DG h3);have hA4h:Bw [aB L,aB L,aB L,aB L,aB L,aB L,aB L] (zC a1)=T:=Md (c:=aB L) (DG h3);try simp only[h2,hA4,hA4g,hA4h,E,F,G,H,I,J]
  refine AP (es:=Z rI ([a1]:P U)) ?_;try simp only[h2,hA4,hA4g,hA4h,E,F,G,H,I,J]
  refine sL h ?_ (by kernel_rfl);try simp only[h2,hA4,hA4g,hA4h,E,F,G,H,I,J,pL,aM,zB]
 ·try simp only[h2,E,F,G,H,I,J]
  cases h;trivial
instance U0:Ct 66 (∀{a0} {a1} {a2} {r},E8 a0 a1 a2=N r→FC zA 66 [.ag (X5.row a0),.sc (.int .i64 a1),.sc (.sl (Z rI a2))] [.sc (.o 1 (Z rI r))]):=by
 refine⟨fun h=> ?_⟩;unfold E8 at h;refine A2 mixed h0 [6] 20 ?_;exact gc
instance uG:Ct 211 (∀{a0} {a1} {a2} {r},Hz a0 a1 a2=N r→FC zA 211 [.ag (X5.row a0),.sc (.int .i64 a1),.sc (.sl (Z rI a2))] [.sc (.v (.bool r))]):=by
 refine⟨fun h=> ?_⟩;unfold Hz at h;refine A2 mixed h0 [6] 20 ?_;exact gc
instance U3:Ct 186 (∀{a0} {a1} {r},E9 a0 a1=N r→FC zA 186 [.ag (X8.row a0),.ag (X6.row a1)] [.sc (.v (.int .i64 r))]):=by
 refine⟨fun h=> ?_⟩;unfold E9 at h;refine A2 mixed h0 [4] 12 ?_;exact gc
instance uq:Ct 141 (∀{a0} {a1} {a2} {r},HX a0 a1 a2=N r→FC zA 141 [.ag (X5.row a0),.sc (.int .i64 a1),.ag (X8.row a2)] [.sc (.v (.bool r))]):=by
 refine⟨fun h=> ?_⟩;unfold HX at h;refine A2 mixed h0 [6] 20 ?_;exact gc
instance uM:Ct 208 (∀{a0} {r},N4 a0=N r→FC zA 208 [.ag (X8.row a0)] [.sc (.v (.int .i64 r))]):=by
 refine⟨fun h=> ?_⟩;unfold N4 at h;refine A2 mixed h0 [2] 11 ?_;exact gc
instance uL:Ct 185 (∀{a0} {r},N3 a0=N r→FC zA 185 [.ag (X8.row a0)] [.sc (.v (.int .i64 r))]):=by
 refine⟨fun h=> ?_⟩;unfold N3 at h;refine A2 mixed h0 [2] 9 ?_;exact gc
instance tn:Ct 144 (∀{a0} {a1} {a2} {r},JR a0 a1 a2=N r→FC zA 144 [.ag (X5.row a0),.sc (.int .i64 a1),.ag (X8.row a2)] [.sc (.v (.int .i64 r))]):=by
 refine⟨fun h=> ?_⟩;unfold JR at h;refine A2 mixed h0 [6] 21 ?_;exact gc
def Ld:Hw:=([(10,[0,3,4,5],[],[384]),(35,[0,3,4,5],[],[384]),(36,[0,3,4,5],[],[384])],[])
def Wt:=fun F_a0 caps_a0 v2 (k_:V→(P X7)→Q (P X7))=>∀{v11 v12} {zr},k_ v11 v12=N zr→Kh zA 183 Ld 36 [0,3,4,5] [] [384] ⟨[(0,vc (.dat (.clo F_a0 caps_a0))),pW 3 384,(4,vc (aB v11)),pI 5 v2],[],[(384,2,Z X7.row v12)]⟩ (A4 [2] [.sc (.o 2 (Z X7.row zr))])
def Ws:=fun F_a0 caps_a0 v2 (k_:(P X7)→Q (P X7))=>∀{v9} {zr},k_ v9=N zr→Kh zA 183 Ld 35 [0,3,4,5] [] [384] ⟨[(0,vc (.dat (.clo F_a0 caps_a0))),pW 3 384,(4,vc (aB T)),pI 5 v2],[],[(384,2,Z X7.row v9)]⟩ (A4 [2] [.sc (.o 2 (Z X7.row zr))])
def LY:=fun F_a0 caps_a0 (k_:V→U→(P X7)→Q (P X7))=>∀{v1 v2 v3} {zr},k_ v1 v2 v3=N zr→Kh zA 183 Ld 10 [0,3,4,5] [] [384] ⟨[(0,vc (.dat (.clo F_a0 caps_a0))),pW 3 384,(4,vc (aB v1)),pI 5 v2],[],[(384,2,Z X7.row v3)]⟩ (A4 [2] [.sc (.o 2 (Z X7.row zr))])
theorem Uw{a0:U→Q V}{F_a0 caps_a0}(hF_a0:Bf zA F_a0=T)(h_a0:∀z0 zr,a0 z0=N zr→FC zA F_a0 ([.sc (.int .i64 z0)]++caps_a0.map .sc) [.sc (.v (.bool zr))]){v2}{DQ}(RD:LY F_a0 caps_a0 DQ):Wt F_a0 caps_a0 v2 (KP a0 v2 DQ):=by
 intro v11 v12 r h σ hσ;unfold KP at h;have k0:= @RD;exact gc
theorem Ux{a0:U→Q V}{F_a0 caps_a0}(hF_a0:Bf zA F_a0=T)(h_a0:∀z0 zr,a0 z0=N zr→FC zA F_a0 ([.sc (.int .i64 z0)]++caps_a0.map .sc) [.sc (.v (.bool zr))]){v2}{DQ}(RD:LY F_a0 caps_a0 DQ):Ws F_a0 caps_a0 v2 (KO a0 v2 DQ):=by
 intro v9 r h σ hσ;unfold KO at h;have s0:=fun(x10:X7)=> @T4 _ X7.row ((⟨x10.From,v2⟩:X7))
 have k0:= @Uw;exact gc
theorem sM{a0:U→Q V}{F_a0 caps_a0}(hF_a0:Bf zA F_a0=T)(h_a0:∀z0 zr,a0 z0=N zr→FC zA F_a0 ([.sc (.int .i64 z0)]++caps_a0.map .sc) [.sc (.v (.bool zr))]){n:W}:LY F_a0 caps_a0 (Gh a0 n):=by
 induction n with
 | zero=>intro _ _ _ r h; cases h
 | succ n ih=>
  intro v1 v2 v3 r h σ hσ S hS;refine ev hS ?_;rw[Gh] at h;refine AF (An ?_);obtain⟨h4,h⟩|⟨h4,h⟩:=ic h
  ·obtain⟨r5,h5,h⟩:=ob h;try simp only[hσ,h4,E,F,G,H,I,J]
   refine dQ (h_a0 _ _ h5) hF_a0 Y Y (BN Y) Y (uf Y) ?_;obtain⟨h6,h⟩|⟨h6,h⟩:=ic h
   ·obtain⟨h7,h⟩|⟨h7,h⟩:=ic h
    ·try simp only[h4,h6,h7,E,F,G,H,I,J]
     refine Ux hF_a0 h_a0 ih h ?_ (by kernel_rfl);try simp only[h4,h6,h7,E,F,G,H,I,J,pL,aM,zB]
    ·try simp only[h4,h6,h7,E,F,G,H,I,J]
     refine AP (es:=Z X7.row ([(⟨v2,(0:U)⟩:X7)]:P X7)) ?_;obtain⟨h8,h⟩:=Az h;try simp only[h4,h6,h7,h8,E,F,G,H,I,J]
     refine Ux hF_a0 h_a0 ih h ?_ (by kernel_rfl);try simp only[h4,h6,h7,h8,E,F,G,H,I,J,pL,aM,zB]
   ·try simp only[h4,h6,E,F,G,H,I,J]
    refine Uw hF_a0 h_a0 ih h ?_ (by kernel_rfl);try simp only[h4,h6,E,F,G,H,I,J,pL,aM,zB]
  ·try simp only[hσ,h4,E,F,G,H,I,J]
   cases h;exact t0
theorem ot{a0}{r}(F_a0:FuncId)(caps_a0:P D)(hF_a0:Bf zA F_a0=T)(h_a0:∀z0 zr,a0 z0=N zr→FC zA F_a0 ([.sc (.int .i64 z0)]++caps_a0.map .sc) [.sc (.v (.bool zr))])(h:I4 a0=N r):FC zA 183 [.sc (.clo F_a0 caps_a0)] [.sc (.o 2 (Z X7.row r))]:=by
 unfold I4 at h;refine A2 mixed Ld [2] 30 ?_;have s0:= @Ap (Z X7.row ([]:P X7));have k0:= @sM;exact gc
instance uT:Ct 187 (∀{a0} {a1} {r},N9 a0 a1=N r→FC zA 187 [.sc (.int .i64 a0),.sc (.int .i64 a1)] [.sc (.v (.int .i64 r))]):=by
 refine⟨fun h=> ?_⟩;unfold N9 at h;refine A2 mixed h0 [4] 46 ?_;exact gc
def Rp:Hw:=([(8,[1,5,11,12,13],[],[])],[])
def VW:=fun a1 (a0:Xp) (k_:U→U→Q U)=>∀{v1 v2} {zr},k_ v1 v2=N zr→Kh zA 146 Rp 8 [1,5,11,12,13] [] [] ⟨[pI 1 a1,pI 5 v1,pL 11 zD a0.Parts,pI 12 (a0.Parts.length:U),pI 13 v2],[],[]⟩ (A4 [4] [.sc (.v (.int .i64 zr))])
theorem sN{a1 a0}{n:W}:VW a1 a0 (HF a1 a0 n):=by
 induction n with
 | zero=>intro _ _ r h; cases h
 | succ n ih=>
  intro v1 v2 r h σ hσ;rw[HF] at h;exact gc
instance uS:Ct 146 (∀{a0} {a1} {r},HE a0 a1=N r→FC zA 146 [.ag (Xp.row a0),.sc (.int .i64 a1)] [.sc (.v (.int .i64 r))]):=by
 refine⟨fun h=> ?_⟩;unfold HE at h;refine A2 mixed Rp [4] 32 ?_;have k0:= @sN;exact gc
def Rq:Hw:=([(8,[1,5,9,10,11],[],[])],[])
def Vm:=fun a1 (a0:Xh) (k_:U→U→Q U)=>∀{v1 v2} {zr},k_ v1 v2=N zr→Kh zA 97 Rq 8 [1,5,9,10,11] [] [] ⟨[pI 1 a1,pI 5 v1,pL 9 zE a0.Surges,pI 10 (a0.Surges.length:U),pI 11 v2],[],[]⟩ (A4 [4] [.sc (.v (.int .i64 zr))])
theorem sO{a1 a0}{n:W}:Vm a1 a0 (EK a1 a0 n):=by
 induction n with
 | zero=>intro _ _ r h; cases h
 | succ n ih=>
  intro v1 v2 r h σ hσ;rw[EK] at h;exact gc
instance tb:Ct 97 (∀{a0} {a1} {r},Hj a0 a1=N r→FC zA 97 [.ag (zI a0),.sc (.int .i64 a1)] [.sc (.v (.int .i64 r))]):=by
 refine⟨fun h=> ?_⟩;unfold Hj at h;refine A2 mixed Rq [4] 23 ?_;have k0:= @sO;exact gc
instance ta:Ct 98 (∀{a0} {a1} {r},JK a0 a1=N r→FC zA 98 [.ag (zI a0),.sc (.int .i64 a1)] [.sc (.v (.int .i64 r))]):=by
 refine⟨fun h=> ?_⟩;unfold JK at h;refine A2 mixed h0 [4] 18 ?_;exact gc
theorem sP{a0}{c0}{c1}{r}(h:EM a0 c0 c1=N r):FC zA 184 [.sc (.int .i64 a0),.sc (.pd (zI c0)),.sc (.pd (rI c1))] [.sc (.v (.bool r))]:=by
 unfold EM at h;refine A2 mixed h0 [4] 10 ?_;exact gc
instance tr:Ct 143 (∀{a0} {a1} {r},EL a0 a1=N r→FC zA 143 [.ag (zI a0),.sc (.int .i64 a1)] [.sc (.o 2 (Z X7.row r))]):=by
 refine⟨fun{a0} {a1} {r} h=> ?_⟩;unfold EL at h;refine A2 mixed h0 [4] 10 ?_;intro S hS;refine ev hS ?_;simp only[E,F,G,H,I,J];try simp only[E,F,G,H,I,J]
 refine BA ?_;try simp only[E,F,G,H,I,J]
 refine BA ?_;obtain⟨r1,h1,h⟩:=ob h;try simp only[E,F,G,H,I,J]
 refine Ai (A6 ni h1) ?_;obtain⟨h2,h⟩|⟨h2,h⟩:=ic h
 ·obtain⟨r3,h3,h⟩:=ob h;try simp only[h2,E,F,G,H,I,J]
  refine Db (ot 184 [.pd (zI a0),.pd (rI a1)] (by kernel_rfl) (fun z0 zr zh=>sP zh) h3) Y (D9 Y ⟨Da,⟨⟩⟩) Y (uf Y) ?_;try simp only[h2,E,F,G,H,I,J]
  cases h;exact t0
 ·try simp only[h2,E,F,G,H,I,J]
  cases h;exact t0
instance tv:Ct 145 (∀{a0} {a1} {a2} {r},JU a0 a1 a2=N r→FC zA 145 [.ag (X5.row a0),.sc (.int .i64 a1),.ag (X8.row a2)] [.sc (.v (.int .i64 r))]):=by
 refine⟨fun h=> ?_⟩;unfold JU at h;refine A2 mixed h0 [6] 30 ?_;exact gc
def Rr:Hw:=([(6,[0,5,6,7],[],[])],[])
def VX:=fun a0 (k_:U→Q V)=>∀{v1} {zr},k_ v1=N zr→Kh zA 140 Rr 6 [0,5,6,7] [] [] ⟨[pL 0 X7.row a0,pL 5 X7.row a0,pI 6 (a0.length:U),pI 7 v1],[],[]⟩ (A4 [2] [.sc (.v (.bool zr))])
theorem sQ{a0}{n:W}:VX a0 (HH a0 n):=by
 induction n with
 | zero=>intro _ r h; cases h
 | succ n ih=>
  intro v1 r h σ hσ;rw[HH] at h;exact gc
instance uU:Ct 140 (∀{a0} {r},HG a0=N r→FC zA 140 [.sc (.sl (Z X7.row a0))] [.sc (.v (.bool r))]):=by
 refine⟨fun h=> ?_⟩;unfold HG at h;refine A2 mixed Rr [2] 44 ?_;have k0:= @sQ;exact gc
def Rt:Hw:=([(16,[1,5,17,18,19],[],[1024])],[])
def VQ:=fun a1 a0 (k_:U→(P X7)→Q (P X7))=>∀{v5 v6} {zr},k_ v5 v6=N zr→Kh zA 142 Rt 16 [1,5,17,18,19] [] [1024] ⟨[pI 1 a1,pW 5 1024,pL 17 X7.row a0,pI 18 (a0.length:U),pI 19 v5],[],[(1024,2,Z X7.row v6)]⟩ (A4 [4] [.sc (.o 2 (Z X7.row zr))])
theorem sR{a1 a0}{n:W}:VQ a1 a0 (HB a1 a0 n):=by
 induction n with
 | zero=>intro _ _ r h; cases h
 | succ n ih=>
  intro v5 v6 r h σ hσ;rw[HB] at h;have s0:=fun(x8:X7)=> @Ap (Z X7.row ([(⟨x8.From,(IntKind.i64.wrap (x8.To - a1))⟩:X7)]:P X7))
  exact gc
instance uN:Ct 142 (∀{a0} {a1} {r},HA a0 a1=N r→FC zA 142 [.sc (.sl (Z X7.row a0)),.sc (.int .i64 a1)] [.sc (.o 2 (Z X7.row r))]):=by
 refine⟨fun h=> ?_⟩;unfold HA at h;refine A2 mixed Rt [4] 42 ?_;have s0:= @Ap (Z X7.row ([]:P X7));have k0:= @sR;exact gc
instance oE:Ct 95 (∀{a0} {a1} {a2} {a3} {r},Dn a0 a1 a2 a3=N r→FC zA 95 [.ag (zI a0),.ag (X5.row a1),.sc (.int .i64 a2),.ag (X8.row a3)] [.sc (.o 2 (Z X7.row r))]):=by
 refine⟨fun h=> ?_⟩;unfold Dn at h;refine A2 mixed h0 [8] 30 ?_;exact gc
def O1:Hw:=([(5,[3,4,5,6,7,10,34],[5,6,7,10],[]),(16,[4,5,6,7,10,12,43,44,45],[5,6,7,10,12],[140288,140352,140416])],[(11,3,(O,.ownb 12 0 140288 1)),(11,4,(O,.ownb 12 1 140352 1)),(11,5,(O,.ownb 12 2 140416 1)),(14,6,(O,.frz 2560))])
def Wq:=fun a4 (a0:Xh) (a1:X5) (a2:X8) y11 y12 (k_:U→(P V)→(P U)→(P (P X7))→Q (Xk × V))=>∀{v13 v14 v15 v16} {zr},k_ v13 v14 v15 v16=N zr→Kh zA 193 O1 16 [4,5,6,7,10,12,43,44,45] [5,6,7,10,12] [140288,140352,140416] ⟨[pL 4 rI a4,pB 5,pB 6,pB 7,pB 10,pB 12,pL 43 rI y11,pI 44 y12,pI 45 v13],[(5,(dm a0.row)),(6,(dm a1.row)),(7,(dm a2.row)),(10,[.nil,.nil,.nil]),(12,[.own 140288,.own 140352,.own 140416])],[(140288,1,Z rB v14),(140352,1,Z rI v15),(140416,1,Z (rL X7.row) v16)]⟩ (A4 [.c 10 T 3,11] [.ag [.o 1 (Z rB zr.1.waits),.o 1 (Z rI zr.1.minutes),.o 1 (Z (rL X7.row) zr.1.sure)],.sc (.v (.bool zr.2))])
def Wp:=fun a3 a4 (a0:Xh) (a1:X5) (a2:X8) (k_:V→Q (Xk × V))=>∀{v7} {zr},k_ v7=N zr→Kh zA 193 O1 5 [3,4,5,6,7,10,34] [5,6,7,10] [] ⟨[pI 3 a3,pL 4 rI a4,pB 5,pB 6,pB 7,pB 10,(34,vc (aB v7))],[(5,(dm a0.row)),(6,(dm a1.row)),(7,(dm a2.row)),(10,[.nil,.nil,.nil])],[]⟩ (A4 [.c 10 T 3,11] [.ag [.o 1 (Z rB zr.1.waits),.o 1 (Z rI zr.1.minutes),.o 1 (Z (rL X7.row) zr.1.sure)],.sc (.v (.bool zr.2))])
theorem sS{a4 a0 a1 a2 y11 y12}{n:W}:Wq a4 a0 a1 a2 y11 y12 (EU a4 a0 a1 a2 y11 y12 n):=by
 induction n with
 | zero=>intro _ _ _ _ r h; cases h
 | succ n ih=>
  intro v13 v14 v15 v16 r h σ hσ S hS;refine ev hS ?_;rw[EU] at h;refine AF (An ?_);obtain⟨h17,h⟩|⟨h17,h⟩:=ic h
  ·obtain⟨x18,h18,h⟩:=ob h;try simp only[hσ,h17,h18,E,F,G,H,I,J]
   refine Af ?_;obtain⟨x19,h19,h⟩:=ob h;try simp only[h17,h18,h19,E,F,G,H,I,J]
   refine AP (es:=Z rB ([x19.Wait]:P V)) ?_;obtain⟨h20,h⟩:=Az h;try simp only[h17,h18,h19,h20,E,F,G,H,I,J]
   refine Af ?_;try simp only[h17,h18,h19,h20,E,F,G,H,I,J]
   refine Af ?_;try simp only[h17,h18,h19,h20,E,F,G,H,I,J]
   refine Af ?_;obtain⟨x21,h21,h⟩:=ob h;obtain⟨x22,h22,h⟩:=ob h;obtain⟨r23,h23,h⟩:=ob h;try simp only[h17,h18,h19,h20,h21,h22,E,F,G,H,I,J]
   refine AR (A6 U3 h23) ?_;try simp only[h17,h18,h19,h20,h21,h22,E,F,G,H,I,J]
   refine AP (es:=Z rI ([r23]:P U)) ?_;obtain⟨h24,h⟩:=Az h;try simp only[h17,h18,h19,h20,h21,h22,h24,E,F,G,H,I,J]
   refine Af ?_;try simp only[h17,h18,h19,h20,h21,h22,h24,E,F,G,H,I,J]
   refine Af ?_;try simp only[h17,h18,h19,h20,h21,h22,h24,E,F,G,H,I,J]
   refine Af ?_;obtain⟨r25,h25,h⟩:=ob h;try simp only[h17,h18,h19,h20,h21,h22,h24,E,F,G,H,I,J]
   refine AR (FC.asV (rs':= [.sc (.v (.sl (Z X7.row r25)))]) (A6 oE h25) Y) ?_;try simp only[h17,h18,h19,h20,h21,h22,h24,E,F,G,H,I,J]
   refine AP (es:=Z (rL X7.row) ([r25]:P (P X7))) ?_;obtain⟨h26,h⟩:=Az h;try simp only[h17,h18,h19,h20,h21,h22,h24,h26,E,F,G,H,I,J]
   refine Af ?_;try simp only[h17,h18,h19,h20,h21,h22,h24,h26,E,F,G,H,I,J]
   refine Af ?_;try simp only[h17,h18,h19,h20,h21,h22,h24,h26,E,F,G,H,I,J]
   refine ih h ?_ (by kernel_rfl);try simp only[h17,h18,h19,h20,h21,h22,h24,h26,E,F,G,H,I,J,pL,aM,zB]
  ·try simp only[hσ,h17,E,F,G,H,I,J]
   cases h;try simp only[D0,E,F,G,H,I,J]
   trivial
theorem sT{a3 a4 a0 a1 a2}:Wp a3 a4 a0 a1 a2 (ET a3 a4 a0 a1 a2):=by
 intro v7 r h σ hσ S hS;refine ev hS ?_;refine An ?_;unfold ET at h;obtain⟨h8,h⟩|⟨h8,h⟩:=ic h
 ·try simp only[hσ,h8,E,F,G,H,I,J]
  cases h;try simp only[D0,E,F,G,H,I,J]
  trivial
 ·try simp only[hσ,h8,E,F,G,H,I,J]
  refine AI ?_;try simp only[h8,E,F,G,H,I,J]
  refine Dp (cs':= [.own 140288,.nil,.nil]) Y Y Y Y ?_;try simp only[h8,E,F,G,H,I,J]
  refine Dp (cs':= [.own 140288,.own 140352,.nil]) Y Y Y Y ?_;try simp only[h8,E,F,G,H,I,J]
  refine Dp (cs':= [.own 140288,.own 140352,.own 140416]) Y Y Y Y ?_;obtain⟨r9,h9,h⟩:=ob h;try simp only[h8,E,F,G,H,I,J]
  refine Ai (A6 U0 h9) ?_;try simp only[h8,E,F,G,H,I,J]
  refine Ad ?_;obtain⟨p10,h10,h⟩:=ob h;try simp only[h8,h10,E,F,G,H,I,J]
  refine sS h ?_ (by kernel_rfl);try simp only[h8,h10,E,F,G,H,I,J,pL,aM,zB]
instance uu:Ct 193 (∀{a0} {a1} {a2} {a3} {a4} {r},Gf a0 a1 a2 a3 a4=N r→FC zA 193 [.ag (zI a0),.ag (X5.row a1),.ag (X8.row a2),.sc (.int .i64 a3),.sc (.sl (Z rI a4))] [.ag [.o 1 (Z rB r.1.waits),.o 1 (Z rI r.1.minutes),.o 1 (Z (rL X7.row) r.1.sure)],.sc (.v (.bool r.2))]):=by
 refine⟨fun h=> ?_⟩;unfold Gf at h;refine A2 mixed O1 [.c 10 T 3,11] 91 ?_;have k0:= @sT;exact gc
def Ru:Hw:=([(7,[2,3,4,6,28],[3,4,6],[])],[])
def W2:=fun a2 (a0:X2) (a1:X4) (k_:V→Q (Xk × V))=>∀{v4} {zr},k_ v4=N zr→Kh zA 166 Ru 7 [2,3,4,6,28] [3,4,6] [] ⟨[pL 2 rI a2,pB 3,pB 4,pB 6,(28,vc (aB v4))],[(3,(dm a0.row)),(4,(dm a1.row)),(6,[.nil,.nil,.nil])],[]⟩ (A4 [.c 6 T 3,7] [.ag [.o 1 (Z rB zr.1.waits),.o 1 (Z rI zr.1.minutes),.o 1 (Z (rL X7.row) zr.1.sure)],.sc (.v (.bool zr.2))])
theorem Uz{a2 a0 a1}:W2 a2 a0 a1 (Ga a2 a0 a1):=by
 intro v4 r h σ hσ;unfold Ga at h;exact gc
instance uW:Ct 166 (∀{a0} {a1} {a2} {r},G9 a0 a1 a2=N r→FC zA 166 [.ag (X2.row a0),.ag (X4.row a1),.sc (.sl (Z rI a2))] [.ag [.o 1 (Z rB r.1.waits),.o 1 (Z rI r.1.minutes),.o 1 (Z (rL X7.row) r.1.sure)],.sc (.v (.bool r.2))]):=by
 refine⟨fun{a0} {a1} {a2} {r} h=> ?_⟩;unfold G9 at h;refine A2 mixed Ru [.c 6 T 3,7] 46 ?_;intro S hS;refine ev hS ?_;simp only[E,F,G,H,I,J];try simp only[E,F,G,H,I,J]
 refine BA ?_;try simp only[E,F,G,H,I,J]
 refine BA ?_;try simp only[E,F,G,H,I,J]
 refine AI ?_;obtain⟨r1,h1,h⟩:=ob h;try simp only[E,F,G,H,I,J]
 refine Ai (A6 U0 h1) ?_;try simp only[E,F,G,H,I,J]
 refine Af ?_;obtain⟨h2,h⟩|⟨h2,h⟩:=ic h
 ·try simp only[h2,E,F,G,H,I,J]
  refine Uz h ?_ (by kernel_rfl);try simp only[h2,E,F,G,H,I,J,pL,aM,zB]
 ·obtain⟨x3,h3,h⟩:=ob h;have h3n:=Ah h3;try simp only[h2,h3,h3n,E,F,G,H,I,J]
  refine Uz h ?_ (by kernel_rfl);try simp only[h2,h3,h3n,E,F,G,H,I,J,pL,aM,zB]
def Rv:Hw:=([(6,[1,7,8,9],[],[])],[])
def Vp:=fun a1 a0 (k_:U→Q V)=>∀{v1} {zr},k_ v1=N zr→Kh zA 212 Rv 6 [1,7,8,9] [] [] ⟨[pI 1 a1,pL 7 X7.row a0,pI 8 (a0.length:U),pI 9 v1],[],[]⟩ (A4 [4] [.sc (.v (.bool zr))])
theorem sU{a1 a0}{n:W}:Vp a1 a0 (JN a1 a0 n):=by
 induction n with
 | zero=>intro _ r h; cases h
 | succ n ih=>
  intro v1 r h σ hσ;rw[JN] at h;exact gc
instance tg:Ct 212 (∀{a0} {a1} {r},MQ a0 a1=N r→FC zA 212 [.sc (.sl (Z X7.row a0)),.sc (.int .i64 a1)] [.sc (.v (.bool r))]):=by
 refine⟨fun h=> ?_⟩;unfold MQ at h;refine A2 mixed Rv [4] 20 ?_;have k0:= @sU;exact gc
def Rw:Hw:=([(14,[1,10,11,12],[],[])],[])
def Vw:=fun a1 a0 (k_:U→Q U)=>∀{v3} {zr},k_ v3=N zr→Kh zA 213 Rw 14 [1,10,11,12] [] [] ⟨[pI 1 a1,pL 10 X7.row a0,pI 11 (a0.length:U),pI 12 v3],[],[]⟩ (A4 [4] [.sc (.v (.int .i64 zr))])
theorem sV{a1 a0}{n:W}:Vw a1 a0 (JW a1 a0 n):=by
 induction n with
 | zero=>intro _ r h; cases h
 | succ n ih=>
  intro v3 r h σ hσ;rw[JW] at h;exact gc
instance nl:Ct 213 (∀{a0} {a1} {r},MS a0 a1=N r→FC zA 213 [.sc (.sl (Z X7.row a0)),.sc (.int .i64 a1)] [.sc (.v (.int .i64 r))]):=by
 refine⟨fun h=> ?_⟩;unfold MS at h;refine A2 mixed Rw [4] 25 ?_;have k0:= @sV;exact gc
end Go.Vi
