/-
Walks. No condition.
-/
import Derived.Test.YtfmhammmkkbonaaGreatDoorCNf
import Derived.Test.YtfmhammmkkbonaaGreatDoorChecked
import Derived.Test.YtfmhammmkkbonaaGreatDoorCSh
import Derived.Test.YtfmhammmkkbonaaGreatDoorCVi43
import Derived.KernelRfl
namespace Go.Vi
open Go.Proofs
set_option linter.all false
set_option maxRecDepth 4000
set_option maxHeartbeats 2000000
open Nat renaming reduceBEq → E, reduceMul → F, reduceAdd → G, reduceDiv → H, le_of_ble_eq_true → uf
open Int renaming reduceBEq → I
attribute [local irreducible] go B4 K9
open List renaming map → Z, map_nil → zC, all_eq_true → zG, all_cons → zH, all_nil → zI, cons_append → zJ, nil_append → zK
open Tryz renaming prog → zA
open Int renaming toNat → zB
open Xf renaming row → zD
open Xc renaming row → zE
open Xa renaming row → zF
open Bool renaming true → T, false → L
open Option renaming some → N, none → O
open _root_ renaming List → P, Option → Q, Int → U, Bool → V, Nat → W, UInt8 → X, rfl → Y
theorem mixed:Tryz.prog.follows .mixedOrders=T:=by kernel_rfl
def OL:Hw:=([(8,[0,3,4],[],[]),(19,[0,3],[],[])],[])
def ct:=fun a0 v1 (k_:Q Xl)=>∀{zr},k_=N zr→Kh zA 10 OL 19 [0,3] [] [] ⟨[pL 0 r8 a0,pI 3 v1],[],[]⟩ (Ns [2] [.sl (Z r8 zr.b),.int .i64 zr.i,.int .i64 zr.h])
def cr:=fun a0 (k_:U→U→Q Xl)=>∀{v1 v2} {zr},k_ v1 v2=N zr→Kh zA 10 OL 8 [0,3,4] [] [] ⟨[pL 0 r8 a0,pI 3 v1,pI 4 v2],[],[]⟩ (Ns [2] [.sl (Z r8 zr.b),.int .i64 zr.i,.int .i64 zr.h])
theorem ww1{a0 v1}:ct a0 v1 (JM a0 v1):=by
 intro r h σ hσ S hS;refine ev hS ?_;refine Aw ?_;unfold JM at h;try simp only[hσ,E,F,G,H,I,J]
 refine BZ ?_;try simp only[E,F,G,H,I,J]
 cases h;exact⟨_,31,Y,Y,Y,Y⟩
theorem ww2{a0}{n:W}:cr a0 (I4 a0 n):=by
 induction n with
 | zero=>intro _ _ r h; cases h
 | succ n ih=>
  intro v1 v2 r h σ hσ;rw[I4] at h;have k0:= @ww1;exact gc
theorem jq:AG zA 10=N ((Bq zA 10 OL).strip,[2],32):=by kernel_rfl
theorem A0n{a0}{r}(h:Mc a0=N r):FCn zA 10 [.sc (.sl (Z r8 a0))] [.sl (Z r8 r.b),.int .i64 r.i,.int .i64 r.h]:=by
 unfold Mc at h;refine ZZ (σ:=⟨[(0,vc (aL (Z r8 a0)))],[],[]⟩) mixed jq Y Y ?_;refine Bx OL ?_;have k0:= @ww2;exact gc
theorem jr:AG zA 33=N ((Bq zA 33 h0).strip,[2],58):=by kernel_rfl
theorem Nd{a0}{r}(h:Fy a0=N r):FCy zA 33 [.p] [.sl (Z r8 a0.b),.int .i64 a0.i,.int .i64 a0.h] [.sl (Z r8 r.2.b),.int .i64 r.2.i,.int .i64 r.2.h] [.sc (.v (.int .i64 r.1))]:=by
 unfold Fy at h;refine Ci (σ:=⟨[(0,vc (.pb 99999999999 0))],[(99999999999,[aL (Z r8 a0.b),aI a0.i,aI a0.h])],[]⟩) mixed jr Y Y ?_;refine Bx h0 ?_;exact gc
theorem jx:AG zA 16=N ((Bq zA 16 h0).strip,[4],37):=by kernel_rfl
theorem SC{a0}{a1}{r}(h:I3 a0 a1=N r):FCy zA 16 [.p,.d (.sc (.int .i64 a1))] [.sl (Z r8 a0.b),.int .i64 a0.i,.int .i64 a0.h] [.sl (Z r8 r.2.b),.int .i64 r.2.i,.int .i64 r.2.h] [.sc (.v (.int .i64 r.1))]:=by
 unfold I3 at h;refine Ci (σ:=⟨[(0,vc (.pb 99999999999 0)),(1,vc (aI a1))],[(99999999999,[aL (Z r8 a0.b),aI a0.i,aI a0.h])],[]⟩) mixed jx Y Y ?_;refine Bx h0 ?_;intro S hS;refine ev hS ?_;obtain⟨h1,h⟩|⟨h1,h⟩:=ic h
 ·try simp only[h1,E,F,G,H,I,J]
  cases h;exact t0
 ·obtain⟨h2,h⟩|⟨h2,h⟩:=ic h
  ·obtain⟨r3,h3,h⟩:=ob h;try simp only[h1,h2,E,F,G,H,I,J]
   refine AW (Nd h3) 99999999999 ?_;obtain⟨h4,h⟩:=FN h;try simp only[h1,h2,h4,E,F,G,H,I,J]
   cases h;exact t0
  ·obtain⟨r5,h5,h⟩:=ob h;try simp only[h1,h2,E,F,G,H,I,J]
   refine AW (Nd h5) 99999999999 ?_;obtain⟨r6,h6,h⟩:=ob h;try simp only[h1,h2,E,F,G,H,I,J]
   refine AW (Nd h6) 99999999999 ?_;obtain⟨r7,h7,h⟩:=ob h;try simp only[h1,h2,E,F,G,H,I,J]
   refine AW (Nd h7) 99999999999 ?_;obtain⟨r9,h9,h⟩:=ob h;try simp only[h1,h2,E,F,G,H,I,J]
   refine AW (Nd h9) 99999999999 ?_;obtain⟨h10,h⟩:=FN h;try simp only[h1,h2,h10,E,F,G,H,I,J]
   cases h;exact t0
theorem jz:AG zA 34=N ((Bq zA 34 h0).strip,[4],12):=by kernel_rfl
theorem PN{a0}{a1}{r}(h:Fz a0 a1=N r):FCy zA 34 [.p,.d (.sc (.sl (Z rS a1)))] [.sl (Z r8 a0.b),.int .i64 a0.i,.int .i64 a0.h] [.sl (Z r8 r.2.b),.int .i64 r.2.i,.int .i64 r.2.h] [.sc (.v (.str r.1))]:=by
 unfold Fz at h;refine Ci (σ:=⟨[(0,vc (.pb 99999999999 0)),(1,vc (aL (Z rS a1)))],[(99999999999,[aL (Z r8 a0.b),aI a0.i,aI a0.h])],[]⟩) mixed jz Y Y ?_;refine Bx h0 ?_;intro S hS;refine ev hS ?_;obtain⟨r1,h1,h⟩:=ob h;try simp only[E,F,G,H,I,J]
 refine AW (SC h1) 99999999999 ?_;obtain⟨x2,h2,h⟩:=ob h;try simp only[h2,E,F,G,H,I,J]
 cases h;exact t0
def Vx:Hw:=([],[(10,2,(O,.frz 512)),(16,2,(O,.frz 832)),(22,2,(O,.frz 1152)),(26,2,(O,.frz 1344))])
theorem kf:AG zA 17=N ((Bq zA 17 Vx).strip,[2],23):=by kernel_rfl
theorem A0o{a0}{r}(h:JN a0=N r):FCy zA 17 [.p] [.sl (Z r8 a0.b),.int .i64 a0.i,.int .i64 a0.h] [.sl (Z r8 r.2.b),.int .i64 r.2.i,.int .i64 r.2.h] [.sc (.v (.str r.1))]:=by
 unfold JN at h;refine Ci (σ:=⟨[(0,vc (.pb 99999999999 0))],[(99999999999,[aL (Z r8 a0.b),aI a0.i,aI a0.h])],[]⟩) mixed kf Y Y ?_;refine Bx Vx ?_;intro S hS;refine ev hS ?_;obtain⟨r1,h1,h⟩:=ob h;try simp only[E,F,G,H,I,J]
 refine AW (SC h1) 99999999999 ?_;obtain⟨h2,h⟩|⟨h2,h⟩:=ic h
 ·try simp only[h2,E,F,G,H,I,J]
  refine AS (es:=Z rS ([([99,97,108,108,32,115,48,32,115,101,97,32,113,117,97,121,32,48,32,50,48,48]:P X),([99,97,108,108,32,115,49,32,113,117,97,121,32,115,101,97,32,51,48,32,51,48,48]:P X),([115,104,105,112,32,115,49,32,49,50,48,32,56,53,48,32,49,32,49]:P X),([115,117,114,103,101,32,45,50,48,32,49,48]:P X),([103,97,112,32,50,48]:P X),([109,101,97,110,32,50,48,48]:P X),([119,97,118,101,32,49,53,48,32,55,52,52,32,48]:P X),([112,111,105,110,116,32,100,111,99,107,32,119,97,105,116]:P X),([99,104,97,110,110,101,108,32,98,97,114,32,100,111,99,107,32,57,48,48,32,49,48,32,109,101,101,116]:P X)]:P (P X))) ?_;try simp only[h2,E,F,G,H,I,J]
  refine Ae ?_;obtain⟨r3,h3,h⟩:=ob h;try simp only[h2,E,F,G,H,I,J]
  refine AW (PN h3) 99999999999 ?_;try simp only[h2,E,F,G,H,I,J]
  cases h;exact t0
 ·obtain⟨h4,h⟩|⟨h4,h⟩:=ic h
  ·try simp only[h2,h4,E,F,G,H,I,J]
   refine AS (es:=Z rS ([([112,108,97,110]:P X),([98,111,117,110,100]:P X),([114,101,102,117,115,101]:P X),([99,114,101,119]:P X),([100,101,115,107]:P X),([115,117,114,101,32,115,48]:P X),([108,101,118,101,108,32,49,48,48]:P X),([114,111,117,116,101,32,115,101,97,32,113,117,97,121]:P X),([114,111,117,116,101,32,113,117,97,121,32,115,101,97]:P X)]:P (P X))) ?_;try simp only[h2,h4,E,F,G,H,I,J]
   refine Ae ?_;obtain⟨r5,h5,h⟩:=ob h;try simp only[h2,h4,E,F,G,H,I,J]
   refine AW (PN h5) 99999999999 ?_;try simp only[h2,h4,E,F,G,H,I,J]
   cases h;exact t0
  ·obtain⟨h6,h⟩|⟨h6,h⟩:=ic h
   ·try simp only[h2,h4,h6,E,F,G,H,I,J]
    refine AS (es:=Z rS ([([97,110,110,111,117,110,99,101,32,115,48,32,51,48]:P X),([99,108,101,97,114,32,115,48]:P X),([99,97,110,99,101,108,32,115,48]:P X),([116,105,99,107,32,49,48]:P X),([116,105,99,107,32,52,48]:P X),([97,110,110,111,117,110,99,101,32,115,48,32,53]:P X),([97,110,110,111,117,110,99,101,32,115,57,32,51,48]:P X)]:P (P X))) ?_;try simp only[h2,h4,h6,E,F,G,H,I,J]
    refine Ae ?_;obtain⟨r7,h7,h⟩:=ob h;try simp only[h2,h4,h6,E,F,G,H,I,J]
    refine AW (PN h7) 99999999999 ?_;try simp only[h2,h4,h6,E,F,G,H,I,J]
    cases h;exact t0
   ·try simp only[h2,h4,h6,E,F,G,H,I,J]
    refine AS (es:=Z rS ([([]:P X),([35,32,110,111,116,101]:P X),([119,104,97,116]:P X),([112,111,105,110,116]:P X),([112,111,105,110,116,32,115,101,97]:P X),([112,111,105,110,116,32,83,101,97]:P X),([99,104,97,110,110,101,108,32,115,101,97,32,113,117,97,121,32,57,48,48]:P X),([115,104,105,112,32,115,50,32,53,32,57,48,48,32,48,32,48]:P X),([115,104,105,112,32,115,50]:P X),([99,97,108,108,32,115,48,32,115,101,97,32,115,101,97,32,48,32,57]:P X),([99,97,108,108,32,115,57,32,115,101,97,32,113,117,97,121,32,48,32,57]:P X),([108,101,118,101,108,32,120]:P X),([108,101,118,101,108,32,50,56,56,49]:P X),([109,101,97,110,32,53,48,48,48]:P X),([103,97,112,32,45,49]:P X),([114,111,117,116,101,32,115,101,97]:P X),([116,105,99,107,32,120]:P X)]:P (P X))) ?_;try simp only[h2,h4,h6,E,F,G,H,I,J]
    refine Ae ?_;obtain⟨r9,h9,h⟩:=ob h;try simp only[h2,h4,h6,E,F,G,H,I,J]
    refine AW (PN h9) 99999999999 ?_;try simp only[h2,h4,h6,E,F,G,H,I,J]
    cases h;exact t0
def Rj:Hw:=([(8,[0,5,6],[99999999999],[448])],[(20,0,(O,.frz 448))])
def cu:=fun(k_:U→(P U)→U→U→(P (P X))→Q ((P (P X)) × Xl))=>∀{v2 v3 v4 v5 v6} {zr},k_ v2 v3 v4 v5 v6=N zr→Kh zA 9 Rj 8 [0,5,6] [99999999999] [448] ⟨[(0,vc (.pb 99999999999 0)),pW 5 448,pI 6 v2],[(99999999999,[aM r8 v3,aI v4,aI v5])],[(448,1,Z rS v6)]⟩ (C9 [4] [.sc (.v (.sl (Z rS zr.1)))] [.sl (Z r8 zr.2.b),.int .i64 zr.2.i,.int .i64 zr.2.h])
theorem A1c{n:W}:cu (I5 n):=by
 induction n with
 | zero=>intro _ _ _ _ _ r h; cases h
 | succ n ih=>
  intro v2 v3 v4 v5 v6 r h σ hσ S hS;refine ev hS ?_;rw[I5] at h;refine AY (Aw ?_);obtain⟨h7,h⟩|⟨h7,h⟩:=ic h
  ·obtain⟨r9,h9,h⟩:=ob h;try simp only[hσ,h7,E,F,G,H,I,J]
   refine AW (A0o h9) 99999999999 ?_;try simp only[h7,E,F,G,H,I,J]
   refine AS (es:=Z rS ([r9.1]:P (P X))) ?_;obtain⟨h10,h⟩:=AN h;try simp only[h7,h10,E,F,G,H,I,J]
   refine ih h ?_ (by kernel_rfl);try simp only[h7,h10,E,F,G,H,I,J,pL,aM,zC]
  ·try simp only[hσ,h7,E,F,G,H,I,J]
   refine Ae ?_;try simp only[h7,E,F,G,H,I,J]
   cases h;exact t0
theorem jg:AG zA 9=N ((Bq zA 9 Rj).strip,[4],22):=by kernel_rfl
theorem A0p{a0}{a1}{r}(h:Ov a0 a1=N r):FCy zA 9 [.p,.d (.sc (.int .i64 a1))] [.sl (Z r8 a0.b),.int .i64 a0.i,.int .i64 a0.h] [.sl (Z r8 r.2.b),.int .i64 r.2.i,.int .i64 r.2.h] [.sc (.v (.sl (Z rS r.1)))]:=by
 unfold Ov at h;refine Ci (σ:=⟨[(0,vc (.pb 99999999999 0)),(1,vc (aI a1))],[(99999999999,[aL (Z r8 a0.b),aI a0.i,aI a0.h])],[]⟩) mixed jg Y Y ?_;refine Bx Rj ?_;intro S hS;refine ev hS ?_;try simp only[E,F,G,H,I,J]
 refine AS (es:=Z rS ([([112,111,105,110,116,32,115,101,97,32,119,97,105,116]:P X),([112,111,105,110,116,32,98,97,114]:P X),([112,111,105,110,116,32,113,117,97,121,32,119,97,105,116]:P X),([99,104,97,110,110,101,108,32,115,101,97,32,98,97,114,32,49,48,48,48,32,50,48]:P X),([99,104,97,110,110,101,108,32,98,97,114,32,113,117,97,121,32,57,48,48,32,49,53]:P X),([109,101,97,110,32,49,53,48]:P X),([115,104,105,112,32,115,48,32,49,53,48,32,56,48,48,32,48,32,49]:P X)]:P (P X))) ?_;obtain⟨r1,h1,h⟩:=ob h;try simp only[E,F,G,H,I,J]
 refine AW (SC h1) 99999999999 ?_;try simp only[E,F,G,H,I,J]
 refine A1c h ?_ (by kernel_rfl);try simp only[E,F,G,H,I,J,pL,aM,zC]
instance A0m:Ct 4 (∀{a0} {r},Mb a0=N r→FC zA 4 [.sc (.sl (Z r8 a0))] [.sc (.v (.sl (Z rS r)))]):=by
 refine⟨fun{a0} {r} h=> ?_⟩;unfold Mb at h;refine A2 mixed h0 [2] 6 ?_;intro S hS;refine ev hS ?_;simp only[E,F,G,H,I,J];obtain⟨r1,h1,h⟩:=ob h;try simp only[E,F,G,H,I,J]
 refine nb (A0n h1) Y Y ?_;obtain⟨r2,h2,h⟩:=ob h;try simp only[E,F,G,H,I,J]
 refine AW (A0p h2) 4 ?_;try simp only[E,F,G,H,I,J]
 cases h;exact t0
instance A7n:Ct 11 (∀{r},QN=N r→FC zA 11 [] [.sc (.o 1 (Z rI r))]):=by
 refine⟨fun h=> ?_⟩;unfold QN at h;refine A2 mixed h0 [0] 2 ?_;have s0:= @Dv _ rI (0:U);exact gc
instance Zb:Ct 5 (∀{r},Jm=N r→FC zA 5 [] [.ag [.v (.int .i64 r.Harbour.Forecast.Tide.Mean),.o 3 (Z zD r.Harbour.Forecast.Tide.Parts),.o 3 (Z zE r.Harbour.Forecast.Surges),.o 2 (Z zF r.Harbour.Chart.Points),.o 5 (Z X7.row r.Harbour.Chart.Segments),.o 6 (Z X8.row r.Harbour.Fleet),.v (.int .i64 r.Harbour.Regime.Gap),.v (.bool r.Harbour.Regime.NoMeet),.v (.int .i64 r.Harbour.Crew.Tugs),.v (.int .i64 r.Harbour.Crew.Pilots),.v (.int .i64 r.Harbour.Crew.Rest),.o 1 (Z rI r.Harbour.Crew.Moves),.o 5 (Z X3.row r.Calls),.v (.int .i64 r.Desk.Now),.o 1 (Z rI r.Desk.Starts),.o 1 (Z rB r.Desk.Cleared)]]):=by
 refine⟨fun h=> ?_⟩;unfold Jm at h;refine A2 mixed h0 [.c 0 T 16] 9 ?_;have s0:= @AA (Z zE ([(⟨(0:U),(0:U),(0:U)⟩:Xc)]:P Xc));exact gc
instance A7x:Ct 105 (∀{a0} {r},LM a0=N r→FC zA 105 [.sc (.sl (Z zD a0))] [.sc (.o 3 (Z zD r))]):=by
 refine⟨fun h=> ?_⟩;unfold LM at h;refine A2 mixed h0 [2] 8 ?_;have s0:= @Dv _ zD (⟨(0:U),(0:U),(0:U)⟩:Xf);exact gc
instance A77:Ct 71 (∀{a0} {r},Oh a0=N r→FC zA 71 [.ag (Xq.row a0)] [.ag [.v (.int .i64 r.Mean),.o 3 (Z zD r.Parts)]]):=by
 refine⟨fun h=> ?_⟩;unfold Oh at h;refine A2 mixed h0 [.c 2 T 2] 9 ?_;exact gc
instance A72:Ct 72 (∀{a0} {r},LR a0=N r→FC zA 72 [.sc (.sl (Z zE a0))] [.sc (.o 3 (Z zE r))]):=by
 refine⟨fun h=> ?_⟩;unfold LR at h;refine A2 mixed h0 [2] 8 ?_;have s0:= @Dv _ zE (⟨(0:U),(0:U),(0:U)⟩:Xc);exact gc
instance A76:Ct 35 (∀{a0} {r},Og a0=N r→FC zA 35 [.ag (Xb.row a0)] [.ag [.v (.int .i64 r.Tide.Mean),.o 3 (Z zD r.Tide.Parts),.o 3 (Z zE r.Surges)]]):=by
 refine⟨fun h=> ?_⟩;unfold Og at h;refine A2 mixed h0 [.c 2 T 3] 10 ?_;exact gc
instance A7z:Ct 36 (∀{a0} {r},LO a0=N r→FC zA 36 [.sc (.sl (Z zF a0))] [.sc (.o 2 (Z zF r))]):=by
 refine⟨fun h=> ?_⟩;unfold LO at h;refine A2 mixed h0 [2] 8 ?_;have s0:= @Dv _ zF (⟨([]:P X),L⟩:Xa);exact gc
instance A70:Ct 37 (∀{a0} {r},LP a0=N r→FC zA 37 [.sc (.sl (Z X7.row a0))] [.sc (.o 5 (Z X7.row r))]):=by
 refine⟨fun h=> ?_⟩;unfold LP at h;refine A2 mixed h0 [2] 8 ?_;have s0:= @Dv _ X7.row (⟨(0:U),(0:U),(0:U),(0:U),L⟩:X7);exact gc
instance A71:Ct 38 (∀{a0} {r},LQ a0=N r→FC zA 38 [.sc (.sl (Z X8.row a0))] [.sc (.o 6 (Z X8.row r))]):=by
 refine⟨fun h=> ?_⟩;unfold LQ at h;refine A2 mixed h0 [2] 8 ?_;have s0:= @Dv _ X8.row (⟨([]:P X),(0:U),(0:U),(0:U),(0:U),L⟩:X8);exact gc
instance PL:Ct 39 (∀{a0} {r},Bl a0=N r→FC zA 39 [.sc (.sl (Z rI a0))] [.sc (.o 1 (Z rI r))]):=by
 refine⟨fun h=> ?_⟩;unfold Bl at h;refine A2 mixed h0 [2] 8 ?_;have s0:= @Dv _ rI (0:U);exact gc
instance Zj:Ct 18 (∀{a0} {r},Bs a0=N r→FC zA 18 [.ag (X1.row a0)] [.ag [.v (.int .i64 r.Forecast.Tide.Mean),.o 3 (Z zD r.Forecast.Tide.Parts),.o 3 (Z zE r.Forecast.Surges),.o 2 (Z zF r.Chart.Points),.o 5 (Z X7.row r.Chart.Segments),.o 6 (Z X8.row r.Fleet),.v (.int .i64 r.Regime.Gap),.v (.bool r.Regime.NoMeet),.v (.int .i64 r.Crew.Tugs),.v (.int .i64 r.Crew.Pilots),.v (.int .i64 r.Crew.Rest),.o 1 (Z rI r.Crew.Moves)]]):=by
 refine⟨fun h=> ?_⟩;unfold Bs at h;refine A2 mixed h0 [.c 2 T 12] 30 ?_;exact gc
instance zj:Ct 19 (∀{a0} {r},E5 a0=N r→FC zA 19 [.sc (.sl (Z X3.row a0))] [.sc (.o 5 (Z X3.row r))]):=by
 refine⟨fun h=> ?_⟩;unfold E5 at h;refine A2 mixed h0 [2] 8 ?_;have s0:= @Dv _ X3.row (⟨(0:U),(0:U),(0:U),(0:U),(0:U)⟩:X3);exact gc
instance A73:Ct 40 (∀{a0} {r},LS a0=N r→FC zA 40 [.sc (.sl (Z rB a0))] [.sc (.o 1 (Z rB r))]):=by
 refine⟨fun h=> ?_⟩;unfold LS at h;refine A2 mixed h0 [2] 8 ?_;have s0:= @Dv _ rB L;exact gc
instance A75:Ct 20 (∀{a0} {r},JC a0=N r→FC zA 20 [.ag (Xo.row a0)] [.ag [.v (.int .i64 r.Now),.o 1 (Z rI r.Starts),.o 1 (Z rB r.Cleared)]]):=by
 refine⟨fun h=> ?_⟩;unfold JC at h;refine A2 mixed h0 [.c 2 T 3] 12 ?_;exact gc
instance zk:Ct 12 (∀{a0} {r},Gm a0=N r→FC zA 12 [.ag (X6.row a0)] [.ag [.v (.int .i64 r.Harbour.Forecast.Tide.Mean),.o 3 (Z zD r.Harbour.Forecast.Tide.Parts),.o 3 (Z zE r.Harbour.Forecast.Surges),.o 2 (Z zF r.Harbour.Chart.Points),.o 5 (Z X7.row r.Harbour.Chart.Segments),.o 6 (Z X8.row r.Harbour.Fleet),.v (.int .i64 r.Harbour.Regime.Gap),.v (.bool r.Harbour.Regime.NoMeet),.v (.int .i64 r.Harbour.Crew.Tugs),.v (.int .i64 r.Harbour.Crew.Pilots),.v (.int .i64 r.Harbour.Crew.Rest),.o 1 (Z rI r.Harbour.Crew.Moves),.o 5 (Z X3.row r.Calls),.v (.int .i64 r.Desk.Now),.o 1 (Z rI r.Desk.Starts),.o 1 (Z rB r.Desk.Cleared)]]):=by
 refine⟨fun h=> ?_⟩;unfold Gm at h;refine A2 mixed h0 [.c 2 T 16] 13 ?_;exact gc
def R5:Hw:=([(10,[0,1,5,6,7],[],[512]),(26,[0,1,5,6,7],[],[512])],[])
def br:=fun a0 a1 v2 (k_:U→(P (P X))→Q (P (P X)))=>∀{v10 v11} {zr},k_ v10 v11=N zr→Kh zA 21 R5 26 [0,1,5,6,7] [] [512] ⟨[(0,vc (aS a0)),(1,vc (aS a1)),pW 5 512,pI 6 v10,pI 7 v2],[],[(512,1,Z rS v11)]⟩ (A6 [4] [.sc (.o 1 (Z rS zr))])
def T4:=fun a0 a1 (k_:U→U→(P (P X))→Q (P (P X)))=>∀{v1 v2 v3} {zr},k_ v1 v2 v3=N zr→Kh zA 21 R5 10 [0,1,5,6,7] [] [512] ⟨[(0,vc (aS a0)),(1,vc (aS a1)),pW 5 512,pI 6 v1,pI 7 v2],[],[(512,1,Z rS v3)]⟩ (A6 [4] [.sc (.o 1 (Z rS zr))])
theorem Zo{a0 a1 v2}{Pc}(pS:T4 a0 a1 Pc):br a0 a1 v2 (LA a0 a1 v2 Pc):=by
 intro v10 v11 r h σ hσ;unfold LA at h;have k0:= @pS;exact gc
theorem A1y{a0 a1}{n:W}:T4 a0 a1 (Gg a0 a1 n):=by
 induction n with
 | zero=>intro _ _ _ r h; cases h
 | succ n ih=>
  intro v1 v2 v3 r h σ hσ S hS;refine ev hS ?_;rw[Gg] at h;refine AY (Aw ?_);obtain⟨h4,h⟩|⟨h4,h⟩:=ic h
  ·obtain⟨b5,h5,h⟩:=ob h;obtain⟨r6,h6,h⟩:=ob h;try simp only[hσ,h4,h5,E,F,G,H,I,J]
   refine Ao (A0r _ _ _ h6) ?_;obtain⟨h7,h⟩|⟨h7,h⟩:=ic h
   ·obtain⟨p8,h8,h⟩:=ob h;try simp only[h4,h5,h7,h8,E,F,G,H,I,J]
    refine AS (es:=Z rS ([((a0.drop p8.1).take (p8.2 - p8.1))]:P (P X))) ?_;obtain⟨h9,h⟩:=AN h;try simp only[h4,h5,h7,h8,h9,E,F,G,H,I,J]
    refine Zo ih h ?_ (by kernel_rfl);try simp only[h4,h5,h7,h8,h9,E,F,G,H,I,J,pL,aM,zC]
   ·try simp only[h4,h5,h7,E,F,G,H,I,J]
    refine Zo ih h ?_ (by kernel_rfl);try simp only[h4,h5,h7,E,F,G,H,I,J,pL,aM,zC]
  ·obtain⟨p12,h12,h⟩:=ob h;try simp only[hσ,h4,h12,E,F,G,H,I,J]
   refine AS (es:=Z rS ([((a0.drop p12.1).take (p12.2 - p12.1))]:P (P X))) ?_;obtain⟨h13,h⟩:=AN h;try simp only[h4,h12,h13,E,F,G,H,I,J]
   cases h;exact t0
instance Zh:Ct 21 (∀{a0} {a1} {r},HJ a0 a1=N r→FC zA 21 [.sc (.str a0),.sc (.str a1)] [.sc (.o 1 (Z rS r))]):=by
 refine⟨fun h=> ?_⟩;unfold HJ at h;refine A2 mixed R5 [4] 36 ?_;have s0:= @AA (Z rS ([]:P (P X)));have k0:= @A1y;exact gc
def UR:Hw:=([(7,[0,2,4,28],[2],[])],[])
def cY:=fun a0 (k_:V→Q (Xa × V))=>∀{v7} {zr},k_ v7=N zr→Kh zA 42 UR 7 [0,2,4,28] [2] [] ⟨[pL 0 rS a0,pB 2,pI 4 (a0.length:U),(28,vc (aB v7))],[(2,[aS ([]:P X),aB L])],[]⟩ (A6 [.c 2 T 2,3] [.ag [.v (.str zr.1.Name),.v (.bool zr.1.Wait)],.sc (.v (.bool zr.2))])
theorem A2b{a0}:cY a0 (HU a0):=by
 intro v7 r h σ hσ;unfold HU at h;exact gc
instance A0c:Ct 42 (∀{a0} {r},QQ a0=N r→FC zA 42 [.sc (.sl (Z rS a0))] [.ag [.v (.str r.1.Name),.v (.bool r.1.Wait)],.sc (.v (.bool r.2))]):=by
 refine⟨fun h=> ?_⟩;unfold QQ at h;refine A2 mixed UR [.c 2 T 2,3] 36 ?_;have k0:= @A2b;exact gc
def UT:Hw:=([(8,[4,10,11,12],[],[576])],[])
def cU:=fun a0 (k_:U→(P U)→Q ((P U) × V))=>∀{v1 v2} {zr},k_ v1 v2=N zr→Kh zA 46 UT 8 [4,10,11,12] [] [576] ⟨[pW 4 576,pL 10 rS a0,pI 11 (a0.length:U),pI 12 v1],[],[(576,1,Z rI v2)]⟩ (A6 [2,3] [.sc (.o 1 (Z rI zr.1)),.sc (.v (.bool zr.2))])
theorem A2m{a0}{n:W}:cU a0 (Oj a0 n):=by
 induction n with
 | zero=>intro _ _ r h; cases h
 | succ n ih=>
  intro v1 v2 r h σ hσ S hS;refine ev hS ?_;rw[Oj] at h;refine AY (Aw ?_);obtain⟨h3,h⟩|⟨h3,h⟩:=ic h
  ·obtain⟨x4,h4,h⟩:=ob h;obtain⟨r5,h5,h⟩:=ob h;try simp only[hσ,h3,h4,E,F,G,H,I,J]
   refine Ao (Sz _ _ h5) ?_;obtain⟨h6,h⟩|⟨h6,h⟩:=ic h
   ·try simp only[h3,h4,h6,E,F,G,H,I,J]
    refine AS (es:=Z rI ([r5.1]:P U)) ?_;obtain⟨h7,h⟩:=AN h;try simp only[h3,h4,h6,h7,E,F,G,H,I,J]
    refine ih h ?_ (by kernel_rfl);try simp only[h3,h4,h6,h7,E,F,G,H,I,J,pL,aM,zC]
   ·try simp only[h3,h4,h6,E,F,G,H,I,J]
    cases h;trivial
  ·try simp only[hσ,h3,E,F,G,H,I,J]
   cases h;trivial
instance PM:Ct 46 (∀{a0} {r},JI a0=N r→FC zA 46 [.sc (.sl (Z rS a0))] [.sc (.o 1 (Z rI r.1)),.sc (.v (.bool r.2))]):=by
 refine⟨fun h=> ?_⟩;unfold JI at h;refine A2 mixed UT [2,3] 29 ?_;have s0:= @AA (Z rI ([]:P U));have k0:= @A2m;exact gc
def UV:Hw:=([(6,[1,8,9,10],[],[])],[])
def bd:=fun a1 (a0:X4) (k_:U→Q U)=>∀{v1} {zr},k_ v1=N zr→Kh zA 48 UV 6 [1,8,9,10] [] [] ⟨[(1,vc (aS a1)),pL 8 zF a0.Points,pI 9 (a0.Points.length:U),pI 10 v1],[],[]⟩ (A6 [4] [.sc (.v (.int .i64 zr))])
theorem A24{a1 a0}{n:W}:bd a1 a0 (HE a1 a0 n):=by
 induction n with
 | zero=>intro _ r h; cases h
 | succ n ih=>
  intro v1 r h σ hσ;rw[HE] at h;exact gc
instance PK:Ct 48 (∀{a0} {a1} {r},BF a0 a1=N r→FC zA 48 [.ag (X4.row a0),.sc (.str a1)] [.sc (.v (.int .i64 r))]):=by
 refine⟨fun h=> ?_⟩;unfold BF at h;refine A2 mixed UV [4] 21 ?_;have k0:= @A24;exact gc
def UY:Hw:=([(7,[1,2,4,6,32],[2,4],[])],[])
def cZ:=fun a1 (a0:X4) (k_:V→Q (X7 × V))=>∀{v7} {zr},k_ v7=N zr→Kh zA 43 UY 7 [1,2,4,6,32] [2,4] [] ⟨[pL 1 rS a1,pB 2,pB 4,pI 6 (a1.length:U),(32,vc (aB v7))],[(2,(dm a0.row)),(4,[aI (0:U),aI (0:U),aI (0:U),aI (0:U),aB L])],[]⟩ (A6 [.c 4 T 5,5] [.ag [.v (.int .i64 zr.1.A),.v (.int .i64 zr.1.B),.v (.int .i64 zr.1.Depth),.v (.int .i64 zr.1.Minutes),.v (.bool zr.1.Meet)],.sc (.v (.bool zr.2))])
theorem A3e{a1 a0}:cZ a1 a0 (HV a1 a0):=by
 intro v7 r h σ hσ S hS;refine ev hS ?_;refine Aw ?_;unfold HV at h;obtain⟨h8,h⟩|⟨h8,h⟩:=ic h
 ·try simp only[hσ,h8,E,F,G,H,I,J]
  cases h;try simp only[DT,E,F,G,H,I,J]
  trivial
 ·obtain⟨p9,h9,h⟩:=ob h;obtain⟨r10,h10,h⟩:=ob h;try simp only[hσ,h8,h9,E,F,G,H,I,J]
  refine Ao (A8 PM h10) ?_;obtain⟨h11,h⟩|⟨h11,h⟩:=ic h
  ·try simp only[h8,h9,h11,E,F,G,H,I,J]
   refine Ai ?_;obtain⟨x12,h12,h⟩:=ob h;obtain⟨r13,h13,h⟩:=ob h;try simp only[h8,h9,h11,h12,E,F,G,H,I,J]
   refine AX (A8 PK h13) ?_;obtain⟨x14,h14,h⟩:=ob h;obtain⟨r15,h15,h⟩:=ob h;try simp only[h8,h9,h11,h12,h14,E,F,G,H,I,J]
   refine AX (A8 PK h15) ?_;obtain⟨x16,h16,h⟩:=ob h;have h16n:=Am h16;obtain⟨x17,h17,h⟩:=ob h;have h17n:=Am h17;try simp only[h8,h9,h11,h12,h14,h16,h16n,h17,h17n,E,F,G,H,I,J]
   refine Ai ?_;try simp only[h8,h9,h11,h12,h14,h16,h16n,h17,h17n,E,F,G,H,I,J]
   cases h;try simp only[DT,E,F,G,H,I,J]
   trivial
  ·try simp only[h8,h9,h11,E,F,G,H,I,J]
   cases h;try simp only[DT,E,F,G,H,I,J]
   trivial
instance A0d:Ct 43 (∀{a0} {a1} {r},Gu a0 a1=N r→FC zA 43 [.ag (X4.row a0),.sc (.sl (Z rS a1))] [.ag [.v (.int .i64 r.1.A),.v (.int .i64 r.1.B),.v (.int .i64 r.1.Depth),.v (.int .i64 r.1.Minutes),.v (.bool r.1.Meet)],.sc (.v (.bool r.2))]):=by
 refine⟨fun h=> ?_⟩;unfold Gu at h;refine A2 mixed UY [.c 4 T 5,5] 62 ?_;have k0:= @A3e;exact gc
instance A0j:Ct 78 (∀{a0} {a1} {a2} {r},Bm a0 a1 a2=N r→FC zA 78 [.sc (.int .i64 a0),.sc (.int .i64 a1),.sc (.int .i64 a2)] [.sc (.v (.bool r))]):=by
 refine⟨fun h=> ?_⟩;unfold Bm at h;refine A2 mixed h0 [6] 15 ?_;exact gc
def OS:Hw:=([(14,[0,3],[],[]),(25,[0,3,4],[],[]),(32,[0,3],[],[])],[])
def bM:=fun a0 v3 (k_:Q V)=>∀{zr},k_=N zr→Kh zA 107 OS 32 [0,3] [] [] ⟨[(0,vc (aS a0)),pI 3 v3],[],[]⟩ (A6 [2] [.sc (.v (.bool zr))])
def bL:=fun a0 v3 (k_:V→Q V)=>∀{v7} {zr},k_ v7=N zr→Kh zA 107 OS 25 [0,3,4] [] [] ⟨[(0,vc (aS a0)),pI 3 v3,(4,vc (aB v7))],[],[]⟩ (A6 [2] [.sc (.v (.bool zr))])
def PV:=fun a0 (k_:U→Q V)=>∀{v3} {zr},k_ v3=N zr→Kh zA 107 OS 14 [0,3] [] [] ⟨[(0,vc (aS a0)),pI 3 v3],[],[]⟩ (A6 [2] [.sc (.v (.bool zr))])
theorem A3r{a0 v3}{EM}(VC:PV a0 EM):bM a0 v3 (Lb a0 v3 EM):=by
 intro r h σ hσ;unfold Lb at h;have k0:= @VC;exact gc
theorem A3x{a0 v3}{EM}(VC:PV a0 EM):bL a0 v3 (La a0 v3 EM):=by
 intro v7 r h σ hσ;unfold La at h;have k0:= @A3r;exact gc
theorem A33{a0}{n:W}:PV a0 (Ga a0 n):=by
 induction n with
 | zero=>intro _ r h; cases h
 | succ n ih=>
  intro v3 r h σ hσ;rw[Ga] at h;have k0:= @A3x;exact gc
instance A6x:Ct 107 (∀{a0} {r},Jl a0=N r→FC zA 107 [.sc (.str a0)] [.sc (.v (.bool r))]):=by
 refine⟨fun h=> ?_⟩;unfold Jl at h;refine A2 mixed OS [2] 43 ?_;have k0:= @A33;exact gc
instance Nb:Ct 108 (∀{a0} {a1} {r},B8 a0 a1=N r→FC zA 108 [.sc (.int .i64 a0),.sc (.int .i64 a1)] [.sc (.v (.bool r))]):=by
 refine⟨fun h=> ?_⟩;unfold B8 at h;refine A2 mixed h0 [4] 12 ?_;exact gc
instance Zf:Ct 74 (∀{a0} {r},Do a0=N r→FC zA 74 [.ag (X8.row a0)] [.sc (.v (.bool r))]):=by
 refine⟨fun h=> ?_⟩;unfold Do at h;refine A2 mixed h0 [2] 26 ?_;exact gc
instance GX:Ct 64 (∀{a0} {r},CB a0=N r→FC zA 64 [.sc (.int .i64 a0)] [.sc (.v (.str r))]):=by
 refine⟨fun{a0} {r} h=> ?_⟩;unfold CB at h;refine A2 mixed h0 [2] 5 ?_;intro S hS;refine ev hS ?_;simp only[E,F,G,H,I,J];obtain⟨r1,h1,h⟩:=ob h;try simp only[E,F,G,H,I,J]
 refine Ao (A0q _ _ h1) ?_;try simp only[E,F,G,H,I,J]
 cases h;exact t0
instance Sx:Ct 8 (∀{a0} {a1} {r},CP a0 a1=N r→FC zA 8 [.sc (.sl (Z rS a0)),.sc (.str a1)] [.sc (.v (.str r))]):=by
 refine⟨fun{a0} {a1} {r} h=> ?_⟩;unfold CP at h;refine A2 mixed h0 [4] 8 ?_;intro S hS;refine ev hS ?_;simp only[E,F,G,H,I,J];obtain⟨r1,h1,h⟩:=ob h;try simp only[E,F,G,H,I,J]
 refine Ao (A0s _ _ _ h1) ?_;try simp only[E,F,G,H,I,J]
 cases h;exact t0
instance zw:Ct 109 (∀{a0} {a1} {a2} {r},QO a0 a1 a2=N r→FC zA 109 [.sc (.str a0),.sc (.bool a1),.sc (.str a2)] [.sc (.v (.str r))]):=by
 refine⟨fun h=> ?_⟩;unfold QO at h;refine A2 mixed h0 [6] 13 ?_;exact gc
instance yh:Ct 75 (∀{a0} {r},QL a0=N r→FC zA 75 [.ag (X8.row a0)] [.sc (.v (.str r))]):=by
 refine⟨fun{a0} {r} h=> ?_⟩;unfold QL at h;refine A2 mixed h0 [2] 27 ?_;intro S hS;refine ev hS ?_;simp only[E,F,G,H,I,J];try simp only[E,F,G,H,I,J]
 refine BZ ?_;obtain⟨r1,h1,h⟩:=ob h;try simp only[E,F,G,H,I,J]
 refine Ao (A8 Zf h1) ?_;obtain⟨h2,h⟩|⟨h2,h⟩:=ic h
 ·try simp only[h2,E,F,G,H,I,J]
  refine Ai ?_;obtain⟨r3,h3,h⟩:=ob h;try simp only[h2,E,F,G,H,I,J]
  refine AX (A8 GX h3) ?_;obtain⟨r4,h4,h⟩:=ob h;try simp only[h2,E,F,G,H,I,J]
  refine AX (A8 GX h4) ?_;obtain⟨r5,h5,h⟩:=ob h;try simp only[h2,E,F,G,H,I,J]
  refine AX (A8 GX h5) ?_;obtain⟨r6,h6,h⟩:=ob h;try simp only[h2,E,F,G,H,I,J]
  refine AX (A8 GX h6) ?_;try simp only[h2,E,F,G,H,I,J]
  refine AS (es:=Z rS ([a0.Name,r3,r4,r5,r6]:P (P X))) ?_;try simp only[h2,E,F,G,H,I,J]
  refine Ai ?_;obtain⟨r7,h7,h⟩:=ob h;try simp only[h2,E,F,G,H,I,J]
  refine FB (A8 Sx h7) (by first | rfl | kernel_rfl) (Cm Y) Y (uf Y) ?_;obtain⟨r9,h9,h⟩:=ob h;try simp only[h2,E,F,G,H,I,J]
  refine AX (A8 zw h9) ?_;try simp only[h2,E,F,G,H,I,J]
  cases h;exact t0
 ·try simp only[h2,E,F,G,H,I,J]
  cases h;exact t0
def Vf:Hw:=([(27,[2,7,50],[2,7],[])],[(13,1,(O,.frz 576))])
def bU:=fun x6 x7 x8 x9 x10 (k_:V→V→Q (X8 × V))=>∀{v14 v15} {zr},k_ v14 v15=N zr→Kh zA 44 Vf 27 [2,7,50] [2,7] [] ⟨[pB 2,pB 7,(50,vc (aB v14))],[(2,[aS ([]:P X),aI (0:U),aI (0:U),aI (0:U),aI (0:U),aB L]),(7,[aS x6,aI x7,aI x8,aI x9,aI x10,aB v15])],[]⟩ (A6 [.c 2 T 6,3] [.ag [.v (.str zr.1.Name),.v (.int .i64 zr.1.Length),.v (.int .i64 zr.1.Draught),.v (.int .i64 zr.1.Line),.v (.int .i64 zr.1.Tugs),.v (.bool zr.1.Slow)],.sc (.v (.bool zr.2))])
theorem ZC{x6 x7 x8 x9 x10}:bU x6 x7 x8 x9 x10 (O8 x6 x7 x8 x9 x10):=by
 intro v14 v15 r h σ hσ;unfold O8 at h;exact gc
instance ym:Ct 44 (∀{a0} {r},QM a0=N r→FC zA 44 [.sc (.str a0)] [.ag [.v (.str r.1.Name),.v (.int .i64 r.1.Length),.v (.int .i64 r.1.Draught),.v (.int .i64 r.1.Line),.v (.int .i64 r.1.Tugs),.v (.bool r.1.Slow)],.sc (.v (.bool r.2))]):=by
 refine⟨fun{a0} {r} h=> ?_⟩;unfold QM at h;refine A2 mixed Vf [.c 2 T 6,3] 53 ?_;intro S hS;refine ev hS ?_;simp only[E,F,G,H,I,J];try simp only[E,F,G,H,I,J]
 refine B0 ?_;obtain⟨r1,h1,h⟩:=ob h;try simp only[E,F,G,H,I,J]
 refine Ao (A8 Zh h1) ?_;obtain⟨h2,h⟩|⟨h2,h⟩:=ic h
 ·try simp only[h2,E,F,G,H,I,J]
  cases h;try simp only[DT,E,F,G,H,I,J]
  trivial
 ·try simp only[h2,E,F,G,H,I,J]
  refine Ae ?_;obtain⟨p3,h3,h⟩:=ob h;obtain⟨r4,h4,h⟩:=ob h;try simp only[h2,h3,E,F,G,H,I,J]
  refine Ao (A8 PM h4) ?_;obtain⟨h5,h⟩|⟨h5,h⟩:=ic h
  ·try simp only[h2,h3,h5,E,F,G,H,I,J]
   refine Ai ?_;obtain⟨x6,h6,h⟩:=ob h;obtain⟨x7,h7,h⟩:=ob h;have h7n:=Am h7;obtain⟨x8,h8,h⟩:=ob h;have h8n:=Am h8;obtain⟨x9,h9,h⟩:=ob h;have h9n:=Am h9;obtain⟨x10,h10,h⟩:=ob h;have h10n:=Am h10;try simp only[h2,h3,h5,h6,h7,h7n,h8,h8n,h9,h9n,h10,h10n,E,F,G,H,I,J]
   refine B0 ?_;try simp only[h2,h3,h5,h6,h7,h7n,h8,h8n,h9,h9n,h10,h10n,E,F,G,H,I,J]
   refine Ai ?_;obtain⟨r11,h11,h⟩:=ob h;try simp only[h2,h3,h5,h6,h7,h7n,h8,h8n,h9,h9n,h10,h10n,E,F,G,H,I,J]
   refine Ao (A8 Zf h11) ?_;obtain⟨h12,h⟩|⟨h12,h⟩:=ic h
   ·obtain⟨r13,h13,h⟩:=ob h;try simp only[h2,h3,h5,h6,h7,h7n,h8,h8n,h9,h9n,h10,h10n,h12,E,F,G,H,I,J]
    refine Ao (A8 yh h13) ?_;try simp only[h2,h3,h5,h6,h7,h7n,h8,h8n,h9,h9n,h10,h10n,h12,E,F,G,H,I,J]
    refine ZC h ?_ (by kernel_rfl);try simp only[h2,h3,h5,h6,h7,h7n,h8,h8n,h9,h9n,h10,h10n,h12,E,F,G,H,I,J,pL,aM,zC]
   ·try simp only[h2,h3,h5,h6,h7,h7n,h8,h8n,h9,h9n,h10,h10n,h12,E,F,G,H,I,J]
    refine ZC h ?_ (by kernel_rfl);try simp only[h2,h3,h5,h6,h7,h7n,h8,h8n,h9,h9n,h10,h10n,h12,E,F,G,H,I,J,pL,aM,zC]
  ·try simp only[h2,h3,h5,E,F,G,H,I,J]
   cases h;try simp only[DT,E,F,G,H,I,J]
   trivial
instance A8a:Ct 202 (∀{a0} {r},JE a0=N r→FC zA 202 [.sc (.int .i64 a0)] [.sc (.v (.bool r))]):=by
 refine⟨fun h=> ?_⟩;unfold JE at h;refine A2 mixed h0 [2] 10 ?_;exact gc
instance A67:Ct 175 (∀{a0} {r},Lm a0=N r→FC zA 175 [.ag (zD a0)] [.sc (.v (.bool r))]):=by
 refine⟨fun h=> ?_⟩;unfold Lm at h;refine A2 mixed h0 [2] 19 ?_;exact gc
def Vj:Hw:=([(14,[16,17,18],[],[])],[])
def bv:=fun(a0:Xq) (k_:U→Q V)=>∀{v4} {zr},k_ v4=N zr→Kh zA 133 Vj 14 [16,17,18] [] [] ⟨[pL 16 zD a0.Parts,pI 17 (a0.Parts.length:U),pI 18 v4],[],[]⟩ (A6 [2] [.sc (.v (.bool zr))])
theorem A4g{a0}{n:W}:bv a0 (HL a0 n):=by
 induction n with
 | zero=>intro _ r h; cases h
 | succ n ih=>
  intro v4 r h σ hσ;rw[HL] at h;exact gc
instance A7q:Ct 133 (∀{a0} {r},LF a0=N r→FC zA 133 [.ag (Xq.row a0)] [.sc (.v (.bool r))]):=by
 refine⟨fun h=> ?_⟩;unfold LF at h;refine A2 mixed Vj [2] 26 ?_;have k0:= @A4g;exact gc
instance zt:Ct 96 (∀{a0} {r},Cd a0=N r→FC zA 96 [.sc (.int .i64 a0)] [.sc (.v (.bool r))]):=by
 refine⟨fun h=> ?_⟩;unfold Cd at h;refine A2 mixed h0 [2] 5 ?_;exact gc
instance A7p:Ct 134 (∀{a0} {r},LD a0=N r→FC zA 134 [.ag (zE a0)] [.sc (.v (.bool r))]):=by
 refine⟨fun h=> ?_⟩;unfold LD at h;refine A2 mixed h0 [2] 23 ?_;exact gc
def Vn:Hw:=([(14,[1,25,26,27],[1],[])],[])
def bF:=fun(a0:Xb) (k_:U→Q V)=>∀{v7} {zr},k_ v7=N zr→Kh zA 92 Vn 14 [1,25,26,27] [1] [] ⟨[pB 1,pL 25 zE a0.Surges,pI 26 (a0.Surges.length:U),pI 27 v7],[(1,(dm a0.row))],[]⟩ (A6 [2] [.sc (.v (.bool zr))])
theorem A4h{a0}{n:W}:bF a0 (G7 a0 n):=by
 induction n with
 | zero=>intro _ r h; cases h
 | succ n ih=>
  intro v7 r h σ hσ;rw[G7] at h;exact gc
instance yf:Ct 92 (∀{a0} {r},DI a0=N r→FC zA 92 [.ag (Xb.row a0)] [.sc (.v (.bool r))]):=by
 refine⟨fun h=> ?_⟩;unfold DI at h;refine A2 mixed Vn [2] 52 ?_;have k0:= @A4h;exact gc
instance A7i:Ct 135 (∀{a0} {a1} {a2} {r},Lw a0 a1 a2=N r→FC zA 135 [.ag (X7.row a0),.sc (.int .i64 a1),.sc (.int .i64 a2)] [.sc (.v (.bool r))]):=by
 refine⟨fun h=> ?_⟩;unfold Lw at h;refine A2 mixed h0 [6] 29 ?_;exact gc
def OT:Hw:=([(14,[1,20,21,22],[1],[]),(37,[1,41,42,43],[1],[]),(59,[1,6,41,42,43,86,87,88],[1,6],[])],[])
def aU:=fun(a0:X4) v11 (x13:X7) y24 y25 (k_:U→Q V)=>∀{v26} {zr},k_ v26=N zr→Kh zA 93 OT 59 [1,6,41,42,43,86,87,88] [1,6] [] ⟨[pB 1,pB 6,pL 41 X7.row a0.Segments,pI 42 (a0.Segments.length:U),pI 43 v11,pL 86 X7.row y24,pI 87 y25,pI 88 v26],[(1,(dm a0.row)),(6,(dm x13.row))],[]⟩ (A6 [2] [.sc (.v (.bool zr))])
def SW:=fun(a0:X4) (k_:U→Q V)=>∀{v11} {zr},k_ v11=N zr→Kh zA 93 OT 37 [1,41,42,43] [1] [] ⟨[pB 1,pL 41 X7.row a0.Segments,pI 42 (a0.Segments.length:U),pI 43 v11],[(1,(dm a0.row))],[]⟩ (A6 [2] [.sc (.v (.bool zr))])
def aT:=fun(a0:X4) (k_:U→Q V)=>∀{v3} {zr},k_ v3=N zr→Kh zA 93 OT 14 [1,20,21,22] [1] [] ⟨[pB 1,pL 20 zF a0.Points,pI 21 (a0.Points.length:U),pI 22 v3],[(1,(dm a0.row))],[]⟩ (A6 [2] [.sc (.v (.bool zr))])
theorem A4i{a0 v11 x13 y24 y25}{Mx}(pK:SW a0 Mx){n:W}:aU a0 v11 x13 y24 y25 (Hd a0 v11 x13 y24 y25 Mx n):=by
 induction n with
 | zero=>intro _ r h; cases h
 | succ n ih=>
  intro v26 r h σ hσ;rw[Hd] at h;have k0:= @pK;exact gc
theorem A4j{a0}{n:W}:SW a0 (Ew a0 n):=by
 induction n with
 | zero=>intro _ r h; cases h
 | succ n ih=>
  intro v11 r h σ hσ;rw[Ew] at h;have k0:= @A4i;exact gc
theorem A4k{a0}{n:W}:aT a0 (Hc a0 n):=by
 induction n with
 | zero=>intro _ r h; cases h
 | succ n ih=>
  intro v3 r h σ hσ;rw[Hc] at h;have k0:= @A4j;exact gc
instance xi:Ct 93 (∀{a0} {r},D1 a0=N r→FC zA 93 [.ag (X4.row a0)] [.sc (.v (.bool r))]):=by
 refine⟨fun h=> ?_⟩;unfold D1 at h;refine A2 mixed OT [2] 100 ?_;have k0:= @A4k;exact gc
def Vo:Hw:=([(6,[1,7,8,9],[],[])],[])
def bp:=fun a1 a0 (k_:U→Q U)=>∀{v1} {zr},k_ v1=N zr→Kh zA 47 Vo 6 [1,7,8,9] [] [] ⟨[(1,vc (aS a1)),pL 7 X8.row a0,pI 8 (a0.length:U),pI 9 v1],[],[]⟩ (A6 [4] [.sc (.v (.int .i64 zr))])
theorem A4l{a1 a0}{n:W}:bp a1 a0 (HI a1 a0 n):=by
 induction n with
 | zero=>intro _ r h; cases h
 | succ n ih=>
  intro v1 r h σ hσ;rw[HI] at h;exact gc
instance yw:Ct 47 (∀{a0} {a1} {r},Dn a0 a1=N r→FC zA 47 [.sc (.sl (Z X8.row a0)),.sc (.str a1)] [.sc (.v (.int .i64 r))]):=by
 refine⟨fun h=> ?_⟩;unfold Dn at h;refine A2 mixed Vo [4] 20 ?_;have k0:= @A4l;exact gc
def Vp:Hw:=([(14,[0,8,9,10],[],[])],[])
def bE:=fun a0 (k_:U→Q V)=>∀{v2} {zr},k_ v2=N zr→Kh zA 110 Vp 14 [0,8,9,10] [] [] ⟨[pL 0 X8.row a0,pL 8 X8.row a0,pI 9 (a0.length:U),pI 10 v2],[],[]⟩ (A6 [2] [.sc (.v (.bool zr))])
theorem A4m{a0}{n:W}:bE a0 (Hp a0 n):=by
 induction n with
 | zero=>intro _ r h; cases h
 | succ n ih=>
  intro v2 r h σ hσ;rw[Hp] at h;exact gc
instance A6p:Ct 110 (∀{a0} {r},Jj a0=N r→FC zA 110 [.sc (.sl (Z X8.row a0))] [.sc (.v (.bool r))]):=by
 refine⟨fun h=> ?_⟩;unfold Jj at h;refine A2 mixed Vp [2] 27 ?_;have k0:= @A4m;exact gc
instance A7d:Ct 111 (∀{a0} {r},O9 a0=N r→FC zA 111 [.ag (Xm.row a0)] [.sc (.v (.bool r))]):=by
 refine⟨fun h=> ?_⟩;unfold O9 at h;refine A2 mixed h0 [2] 6 ?_;exact gc
def Vq:Hw:=([(14,[8,9,10],[],[])],[])
def cS:=fun a0 (k_:U→Q V)=>∀{v2} {zr},k_ v2=N zr→Kh zA 145 Vq 14 [8,9,10] [] [] ⟨[pL 8 rI a0,pI 9 (a0.length:U),pI 10 v2],[],[]⟩ (A6 [2] [.sc (.v (.bool zr))])
theorem A4n{a0}{n:W}:cS a0 (Gr a0 n):=by
 induction n with
 | zero=>intro _ r h; cases h
 | succ n ih=>
  intro v2 r h σ hσ;rw[Gr] at h;exact gc
instance A8c:Ct 145 (∀{a0} {r},Gq a0=N r→FC zA 145 [.sc (.sl (Z rI a0))] [.sc (.v (.bool r))]):=by
 refine⟨fun h=> ?_⟩;unfold Gq at h;refine A2 mixed Vq [2] 18 ?_;have k0:= @A4n;exact gc
instance A6m:Ct 112 (∀{a0} {r},Hm a0=N r→FC zA 112 [.ag (Xr.row a0)] [.sc (.v (.bool r))]):=by
 refine⟨fun h=> ?_⟩;unfold Hm at h;refine A2 mixed h0 [2] 21 ?_;exact gc
instance A6u:Ct 76 (∀{a0} {r},G8 a0=N r→FC zA 76 [.ag (X1.row a0)] [.sc (.v (.bool r))]):=by
 refine⟨fun h=> ?_⟩;unfold G8 at h;refine A2 mixed h0 [2] 26 ?_;exact gc
instance SB:Ct 50 (∀{a0} {r},CC a0=N r→FC zA 50 [.sc (.bool a0)] [.sc (.v (.str r))]):=by
 refine⟨fun h=> ?_⟩;unfold CC at h;refine A2 mixed h0 [2] 4 ?_;exact gc
def Rf:Hw:=([(10,[0,5],[99999999999],[])],[])
def au:=fun(a0:X6) (k_:V→U→(P Xf)→(P Xc)→(P Xa)→(P X7)→(P X8)→U→V→U→U→U→(P U)→Q ((P X) × X6))=>∀{v3 v4 v5 v6 v7 v8 v9 v10 v11 v12 v13 v14 v15} {zr},k_ v3 v4 v5 v6 v7 v8 v9 v10 v11 v12 v13 v14 v15=N zr→Kh zA 45 Rf 10 [0,5] [99999999999] [] ⟨[(0,vc (.pb 99999999999 0)),(5,vc (aB v3))],[(99999999999,([aI v4,aM zD v5,aM zE v6,aM zF v7,aM X7.row v8,aM X8.row v9,aI v10,aB v11,aI v12,aI v13,aI v14,aM rI v15,aM X3.row a0.Calls]++dm a0.Desk.row))],[]⟩ (C9 [4] [.sc (.v (.str zr.1))] [.int .i64 zr.2.Harbour.Forecast.Tide.Mean,.sl (Z zD zr.2.Harbour.Forecast.Tide.Parts),.sl (Z zE zr.2.Harbour.Forecast.Surges),.sl (Z zF zr.2.Harbour.Chart.Points),.sl (Z X7.row zr.2.Harbour.Chart.Segments),.sl (Z X8.row zr.2.Harbour.Fleet),.int .i64 zr.2.Harbour.Regime.Gap,.bool zr.2.Harbour.Regime.NoMeet,.int .i64 zr.2.Harbour.Crew.Tugs,.int .i64 zr.2.Harbour.Crew.Pilots,.int .i64 zr.2.Harbour.Crew.Rest,.sl (Z rI zr.2.Harbour.Crew.Moves),.sl (Z X3.row zr.2.Calls),.int .i64 zr.2.Desk.Now,.sl (Z rI zr.2.Desk.Starts),.sl (Z rB zr.2.Desk.Cleared)])
theorem A4o{a0}:au a0 (NZ a0):=by
 intro v3 v4 v5 v6 v7 v8 v9 v10 v11 v12 v13 v14 v15 r h σ hσ;unfold NZ at h;exact gc
theorem ju:AG zA 45=N ((Bq zA 45 Rf).strip,[4],15):=by kernel_rfl
theorem GW{a0}{a1}{r}(h:Bk a0 a1=N r):FCy zA 45 [.p,.d (.ag (X1.row a1))] [.int .i64 a0.Harbour.Forecast.Tide.Mean,.sl (Z zD a0.Harbour.Forecast.Tide.Parts),.sl (Z zE a0.Harbour.Forecast.Surges),.sl (Z zF a0.Harbour.Chart.Points),.sl (Z X7.row a0.Harbour.Chart.Segments),.sl (Z X8.row a0.Harbour.Fleet),.int .i64 a0.Harbour.Regime.Gap,.bool a0.Harbour.Regime.NoMeet,.int .i64 a0.Harbour.Crew.Tugs,.int .i64 a0.Harbour.Crew.Pilots,.int .i64 a0.Harbour.Crew.Rest,.sl (Z rI a0.Harbour.Crew.Moves),.sl (Z X3.row a0.Calls),.int .i64 a0.Desk.Now,.sl (Z rI a0.Desk.Starts),.sl (Z rB a0.Desk.Cleared)] [.int .i64 r.2.Harbour.Forecast.Tide.Mean,.sl (Z zD r.2.Harbour.Forecast.Tide.Parts),.sl (Z zE r.2.Harbour.Forecast.Surges),.sl (Z zF r.2.Harbour.Chart.Points),.sl (Z X7.row r.2.Harbour.Chart.Segments),.sl (Z X8.row r.2.Harbour.Fleet),.int .i64 r.2.Harbour.Regime.Gap,.bool r.2.Harbour.Regime.NoMeet,.int .i64 r.2.Harbour.Crew.Tugs,.int .i64 r.2.Harbour.Crew.Pilots,.int .i64 r.2.Harbour.Crew.Rest,.sl (Z rI r.2.Harbour.Crew.Moves),.sl (Z X3.row r.2.Calls),.int .i64 r.2.Desk.Now,.sl (Z rI r.2.Desk.Starts),.sl (Z rB r.2.Desk.Cleared)] [.sc (.v (.str r.1))]:=by
 unfold Bk at h;refine Ci (σ:=⟨[(0,vc (.pb 99999999999 0)),(1,va (dm a1.row))],[(99999999999,[aI a0.Harbour.Forecast.Tide.Mean,aL (Z zD a0.Harbour.Forecast.Tide.Parts),aL (Z zE a0.Harbour.Forecast.Surges),aL (Z zF a0.Harbour.Chart.Points),aL (Z X7.row a0.Harbour.Chart.Segments),aL (Z X8.row a0.Harbour.Fleet),aI a0.Harbour.Regime.Gap,aB a0.Harbour.Regime.NoMeet,aI a0.Harbour.Crew.Tugs,aI a0.Harbour.Crew.Pilots,aI a0.Harbour.Crew.Rest,aL (Z rI a0.Harbour.Crew.Moves),aL (Z X3.row a0.Calls),aI a0.Desk.Now,aL (Z rI a0.Desk.Starts),aL (Z rB a0.Desk.Cleared)])],[]⟩) mixed ju Y Y ?_;refine Bx Rf ?_;have k0:= @A4o;exact gc
def Vr:Hw:=([],[(56,2,(O,.frz 1153)),(56,3,(O,.frz 1154)),(56,4,(O,.frz 1155)),(56,5,(O,.frz 1156)),(56,6,(O,.frz 1157)),(56,7,(O,.frz 1163))])
theorem jv:AG zA 22=N ((Bq zA 22 Vr).strip,[6],78):=by kernel_rfl
theorem xr{a0}{a1}{a2}{r}(h:QH a0 a1 a2=N r):FCy zA 22 [.p,.d (.sc (.str a1)),.d (.sc (.sl (Z rS a2)))] [.int .i64 a0.Harbour.Forecast.Tide.Mean,.sl (Z zD a0.Harbour.Forecast.Tide.Parts),.sl (Z zE a0.Harbour.Forecast.Surges),.sl (Z zF a0.Harbour.Chart.Points),.sl (Z X7.row a0.Harbour.Chart.Segments),.sl (Z X8.row a0.Harbour.Fleet),.int .i64 a0.Harbour.Regime.Gap,.bool a0.Harbour.Regime.NoMeet,.int .i64 a0.Harbour.Crew.Tugs,.int .i64 a0.Harbour.Crew.Pilots,.int .i64 a0.Harbour.Crew.Rest,.sl (Z rI a0.Harbour.Crew.Moves),.sl (Z X3.row a0.Calls),.int .i64 a0.Desk.Now,.sl (Z rI a0.Desk.Starts),.sl (Z rB a0.Desk.Cleared)] [.int .i64 r.2.Harbour.Forecast.Tide.Mean,.sl (Z zD r.2.Harbour.Forecast.Tide.Parts),.sl (Z zE r.2.Harbour.Forecast.Surges),.sl (Z zF r.2.Harbour.Chart.Points),.sl (Z X7.row r.2.Harbour.Chart.Segments),.sl (Z X8.row r.2.Harbour.Fleet),.int .i64 r.2.Harbour.Regime.Gap,.bool r.2.Harbour.Regime.NoMeet,.int .i64 r.2.Harbour.Crew.Tugs,.int .i64 r.2.Harbour.Crew.Pilots,.int .i64 r.2.Harbour.Crew.Rest,.sl (Z rI r.2.Harbour.Crew.Moves),.sl (Z X3.row r.2.Calls),.int .i64 r.2.Desk.Now,.sl (Z rI r.2.Desk.Starts),.sl (Z rB r.2.Desk.Cleared)] [.sc (.v (.str r.1))]:=by
 unfold QH at h;refine Ci (σ:=⟨[(0,vc (.pb 99999999999 0)),(1,vc (aS a1)),(2,vc (aL (Z rS a2)))],[(99999999999,[aI a0.Harbour.Forecast.Tide.Mean,aL (Z zD a0.Harbour.Forecast.Tide.Parts),aL (Z zE a0.Harbour.Forecast.Surges),aL (Z zF a0.Harbour.Chart.Points),aL (Z X7.row a0.Harbour.Chart.Segments),aL (Z X8.row a0.Harbour.Fleet),aI a0.Harbour.Regime.Gap,aB a0.Harbour.Regime.NoMeet,aI a0.Harbour.Crew.Tugs,aI a0.Harbour.Crew.Pilots,aI a0.Harbour.Crew.Rest,aL (Z rI a0.Harbour.Crew.Moves),aL (Z X3.row a0.Calls),aI a0.Desk.Now,aL (Z rI a0.Desk.Starts),aL (Z rB a0.Desk.Cleared)])],[]⟩) mixed jv Y Y ?_;refine Bx Vr ?_;intro S hS;refine ev hS ?_;obtain⟨r1,h1,h⟩:=ob h;try simp only[E,F,G,H,I,J]
 refine Ao (A8 Zj h1) ?_;try simp only[E,F,G,H,I,J]
 refine B0 ?_;obtain⟨x2,h2,h⟩:=ob h;obtain⟨h3,h⟩|⟨h3,h⟩:=ic h
 ·obtain⟨r4,h4,h⟩:=ob h;try simp only[h2,h3,E,F,G,H,I,J]
  refine Ao (A8 A0c h4) ?_;try simp only[h2,h3,E,F,G,H,I,J]
  refine B0 ?_;obtain⟨h5,h⟩|⟨h5,h⟩:=ic h
  ·try simp only[h2,h3,h5,E,F,G,H,I,J]
   refine AS (es:=Z zF ([r4.1]:P Xa)) ?_;obtain⟨h6,h⟩:=AN h;try simp only[h2,h3,h5,h6,E,F,G,H,I,J]
   refine Ae ?_;try simp only[h2,h3,h5,h6,E,F,G,H,I,J]
   refine Ae ?_;try simp only[h2,h3,h5,h6,E,F,G,H,I,J]
   refine Ae ?_;try simp only[h2,h3,h5,h6,E,F,G,H,I,J]
   refine Ae ?_;try simp only[h2,h3,h5,h6,E,F,G,H,I,J]
   refine Ae ?_;try simp only[h2,h3,h5,h6,E,F,G,H,I,J]
   refine Ae ?_;obtain⟨r17,h17,h⟩:=ob h;try simp only[h2,h3,h5,h6,E,F,G,H,I,J]
   refine AW (GW h17) 99999999999 ?_;try simp only[h2,h3,h5,h6,E,F,G,H,I,J]
   cases h;exact t0
  ·try simp only[h2,h3,h5,E,F,G,H,I,J]
   cases h;exact t0
 ·obtain⟨h7,h⟩|⟨h7,h⟩:=ic h
  ·obtain⟨r9,h9,h⟩:=ob h;try simp only[h2,h3,h7,E,F,G,H,I,J]
   refine Ec (A8 A0d h9) Y (Cm Y) Y (uf Y) ?_;try simp only[h2,h3,h7,E,F,G,H,I,J]
   refine B0 ?_;obtain⟨h10,h⟩|⟨h10,h⟩:=ic h
   ·try simp only[h2,h3,h7,h10,E,F,G,H,I,J]
    refine AS (es:=Z X7.row ([r9.1]:P X7)) ?_;obtain⟨h11,h⟩:=AN h;try simp only[h2,h3,h7,h10,h11,E,F,G,H,I,J]
    refine Ae ?_;try simp only[h2,h3,h7,h10,h11,E,F,G,H,I,J]
    refine Ae ?_;try simp only[h2,h3,h7,h10,h11,E,F,G,H,I,J]
    refine Ae ?_;try simp only[h2,h3,h7,h10,h11,E,F,G,H,I,J]
    refine Ae ?_;try simp only[h2,h3,h7,h10,h11,E,F,G,H,I,J]
    refine Ae ?_;try simp only[h2,h3,h7,h10,h11,E,F,G,H,I,J]
    refine Ae ?_;obtain⟨r18,h18,h⟩:=ob h;try simp only[h2,h3,h7,h10,h11,E,F,G,H,I,J]
    refine AW (GW h18) 99999999999 ?_;try simp only[h2,h3,h7,h10,h11,E,F,G,H,I,J]
    cases h;exact t0
   ·try simp only[h2,h3,h7,h10,E,F,G,H,I,J]
    cases h;exact t0
  ·obtain⟨h12,h⟩|⟨h12,h⟩:=ic h
   ·try simp only[h2,h3,h7,h12,E,F,G,H,I,J]
    cases h;exact t0
   ·obtain⟨p13,h13,h⟩:=ob h;obtain⟨r14,h14,h⟩:=ob h;try simp only[h2,h3,h7,h12,h13,E,F,G,H,I,J]
    refine Ao (A8 ym h14) ?_;try simp only[h2,h3,h7,h12,h13,E,F,G,H,I,J]
    refine B0 ?_;obtain⟨h15,h⟩|⟨h15,h⟩:=ic h
    ·try simp only[h2,h3,h7,h12,h13,h15,E,F,G,H,I,J]
     refine AS (es:=Z X8.row ([r14.1]:P X8)) ?_;obtain⟨h16,h⟩:=AN h;try simp only[h2,h3,h7,h12,h13,h15,h16,E,F,G,H,I,J]
     refine Ae ?_;try simp only[h2,h3,h7,h12,h13,h15,h16,E,F,G,H,I,J]
     refine Ae ?_;try simp only[h2,h3,h7,h12,h13,h15,h16,E,F,G,H,I,J]
     refine Ae ?_;try simp only[h2,h3,h7,h12,h13,h15,h16,E,F,G,H,I,J]
     refine Ae ?_;try simp only[h2,h3,h7,h12,h13,h15,h16,E,F,G,H,I,J]
     refine Ae ?_;try simp only[h2,h3,h7,h12,h13,h15,h16,E,F,G,H,I,J]
     refine Ae ?_;obtain⟨r19,h19,h⟩:=ob h;try simp only[h2,h3,h7,h12,h13,h15,h16,E,F,G,H,I,J]
     refine AW (GW h19) 99999999999 ?_;try simp only[h2,h3,h7,h12,h13,h15,h16,E,F,G,H,I,J]
     cases h;exact t0
    ·try simp only[h2,h3,h7,h12,h13,h15,E,F,G,H,I,J]
     cases h;exact t0
theorem YL:TideOps zA 86 (XI (DM 6 0 (Er zA 23))) 112 9 3:=⟨Tryz.underlying112,Tryz.underlying9,fun _=>by kernel_rfl,by kernel_rfl,⟨by kernel_rfl,by kernel_rfl,by kernel_rfl⟩,⟨by kernel_rfl,by kernel_rfl,by kernel_rfl⟩,⟨by kernel_rfl,by kernel_rfl,by kernel_rfl⟩,⟨by kernel_rfl,by kernel_rfl,by kernel_rfl⟩,⟨by kernel_rfl,by kernel_rfl,by kernel_rfl⟩,⟨by kernel_rfl,by kernel_rfl,by kernel_rfl⟩,⟨by kernel_rfl,by kernel_rfl,by kernel_rfl⟩,⟨by kernel_rfl,by kernel_rfl,by kernel_rfl⟩,⟨by kernel_rfl,by kernel_rfl,by kernel_rfl⟩,⟨by kernel_rfl,by kernel_rfl,by kernel_rfl⟩,⟨by kernel_rfl,by kernel_rfl,by kernel_rfl⟩,⟨by kernel_rfl,by kernel_rfl,by kernel_rfl⟩,⟨by kernel_rfl,by kernel_rfl,by kernel_rfl⟩,⟨by kernel_rfl,by kernel_rfl,by kernel_rfl⟩,⟨by kernel_rfl,by kernel_rfl,by kernel_rfl⟩,⟨by kernel_rfl,by kernel_rfl,by kernel_rfl⟩,⟨by kernel_rfl,by kernel_rfl,by kernel_rfl⟩,by decide⟩
theorem VA{C:Code}(hC:C=(DM 6 0 (Er zA 23))):C= .region (vA (DM 6 0 (Er zA 23))) (XI (DM 6 0 (Er zA 23))) L:=hC.trans (by kernel_rfl)
theorem pf{C:Code}{σ:St}{n:U}(hC:C=(DM 6 0 (Er zA 23)))(h6:σ.get 6= .v (.sc (.dat (.bool L))))(h5:Cp σ.rows (σ.get 5)=N (.v (.sc (.dat (.int .i64 n)))))(hu: [14,15,16,17,18,19,20,21,22,23,24,25].map σ.get=List.replicate 12 .undef):GY zA 86 C σ (σ.set 26 (.v (.sc (.dat (.bool T))))):=wz YL (VA hC) h6 h5 hu
theorem pg{C:Code}{σ:St}{n:U}{ws:P (P X)}{s:P X}(hC:C=(DM 6 0 (Er zA 23)))(h6:σ.get 6= .v (.sc (.dat (.bool T))))(h5:Cp σ.rows (σ.get 5)=N (.v (.sc (.dat (.int .i64 n)))))(hu: [14,15,16,17,18,19,20,21,22,23,24,25].map σ.get=List.replicate 12 .undef)(h1:σ.get 1= .v (.sc (.dat (.sl (Z rS ws)))))(hx:ix ws 0=N s):GY zA 86 C σ (σ.set 26 (.v (.sc (.dat (.bool (n !=CS s Km)))))):=xA YL (VA hC) h6 h5 hu h1 hx
def Vs:Hw:=([],[(36,2,(O,.frz 1985)),(36,3,(O,.frz 1986)),(36,4,(O,.frz 1987)),(36,5,(O,.frz 1988)),(36,6,(O,.frz 1989)),(36,7,(O,.frz 1995)),(36,8,(O,.frz 4672))])
theorem jw:AG zA 23=N ((Bq zA 23 Vs).strip,[4],86):=by kernel_rfl
theorem ya{a0}{a1}{r}(h:QK a0 a1=N r):FCy zA 23 [.p,.d (.sc (.sl (Z rS a1)))] [.int .i64 a0.Harbour.Forecast.Tide.Mean,.sl (Z zD a0.Harbour.Forecast.Tide.Parts),.sl (Z zE a0.Harbour.Forecast.Surges),.sl (Z zF a0.Harbour.Chart.Points),.sl (Z X7.row a0.Harbour.Chart.Segments),.sl (Z X8.row a0.Harbour.Fleet),.int .i64 a0.Harbour.Regime.Gap,.bool a0.Harbour.Regime.NoMeet,.int .i64 a0.Harbour.Crew.Tugs,.int .i64 a0.Harbour.Crew.Pilots,.int .i64 a0.Harbour.Crew.Rest,.sl (Z rI a0.Harbour.Crew.Moves),.sl (Z X3.row a0.Calls),.int .i64 a0.Desk.Now,.sl (Z rI a0.Desk.Starts),.sl (Z rB a0.Desk.Cleared)] [.int .i64 r.2.Harbour.Forecast.Tide.Mean,.sl (Z zD r.2.Harbour.Forecast.Tide.Parts),.sl (Z zE r.2.Harbour.Forecast.Surges),.sl (Z zF r.2.Harbour.Chart.Points),.sl (Z X7.row r.2.Harbour.Chart.Segments),.sl (Z X8.row r.2.Harbour.Fleet),.int .i64 r.2.Harbour.Regime.Gap,.bool r.2.Harbour.Regime.NoMeet,.int .i64 r.2.Harbour.Crew.Tugs,.int .i64 r.2.Harbour.Crew.Pilots,.int .i64 r.2.Harbour.Crew.Rest,.sl (Z rI r.2.Harbour.Crew.Moves),.sl (Z X3.row r.2.Calls),.int .i64 r.2.Desk.Now,.sl (Z rI r.2.Desk.Starts),.sl (Z rB r.2.Desk.Cleared)] [.sc (.v (.str r.1))]:=by
 unfold QK at h;refine Ci (σ:=⟨[(0,vc (.pb 99999999999 0)),(1,vc (aL (Z rS a1)))],[(99999999999,[aI a0.Harbour.Forecast.Tide.Mean,aL (Z zD a0.Harbour.Forecast.Tide.Parts),aL (Z zE a0.Harbour.Forecast.Surges),aL (Z zF a0.Harbour.Chart.Points),aL (Z X7.row a0.Harbour.Chart.Segments),aL (Z X8.row a0.Harbour.Fleet),aI a0.Harbour.Regime.Gap,aB a0.Harbour.Regime.NoMeet,aI a0.Harbour.Crew.Tugs,aI a0.Harbour.Crew.Pilots,aI a0.Harbour.Crew.Rest,aL (Z rI a0.Harbour.Crew.Moves),aL (Z X3.row a0.Calls),aI a0.Desk.Now,aL (Z rI a0.Desk.Starts),aL (Z rB a0.Desk.Cleared)])],[]⟩) mixed jw Y Y ?_;refine Bx Vs ?_;intro S hS;refine ev hS ?_;obtain⟨p1,h1,h⟩:=ob h;obtain⟨r2,h2,h⟩:=ob h;try simp only[h1,E,F,G,H,I,J]
 refine Ao (A8 PM h2) ?_;obtain⟨h3,h⟩|⟨h3,h⟩:=ic h
 ·obtain⟨x4,h4,h⟩:=ob h;try simp only[h1,h3,E,F,G,H,I,J]
  refine UB (pg (by kernel_rfl) Y (n:=(r2.1.length:U)) (by simp[Cp,St.get,A1]) Y Y h4) ?_;obtain⟨h5,h⟩|⟨h5,h⟩:=ic h
  ·try simp only[h1,h3,h5,E,F,G,H,I,J]
   cases h;exact t0
  ·obtain⟨r6,h6,h⟩:=ob h;try simp only[h1,h3,h5,E,F,G,H,I,J]
   refine Ao (A8 Zj h6) ?_;try simp only[h1,h3,h5,E,F,G,H,I,J]
   refine B0 ?_;obtain⟨x7,h7,h⟩:=ob h;obtain⟨h8,h⟩|⟨h8,h⟩:=ic h
   ·obtain⟨x9,h9,h⟩:=ob h;have h9n:=Am h9;try simp only[h1,h3,h5,h7,h8,h9,h9n,E,F,G,H,I,J]
    refine Ae ?_;try simp only[h1,h3,h5,h7,h8,h9,h9n,E,F,G,H,I,J]
    refine Ae ?_;try simp only[h1,h3,h5,h7,h8,h9,h9n,E,F,G,H,I,J]
    refine Ae ?_;try simp only[h1,h3,h5,h7,h8,h9,h9n,E,F,G,H,I,J]
    refine Ae ?_;try simp only[h1,h3,h5,h7,h8,h9,h9n,E,F,G,H,I,J]
    refine Ae ?_;try simp only[h1,h3,h5,h7,h8,h9,h9n,E,F,G,H,I,J]
    refine Ae ?_;try simp only[h1,h3,h5,h7,h8,h9,h9n,E,F,G,H,I,J]
    refine OD ?_;obtain⟨r20,h20,h⟩:=ob h;try simp only[h1,h3,h5,h7,h8,h9,h9n,E,F,G,H,I,J]
    refine AW (GW h20) 99999999999 ?_;try simp only[h1,h3,h5,h7,h8,h9,h9n,E,F,G,H,I,J]
    cases h;exact t0
   ·obtain⟨h10,h⟩|⟨h10,h⟩:=ic h
    ·try simp only[h1,h3,h5,h7,h8,h10,E,F,G,H,I,J]
     refine Ai ?_;obtain⟨x11,h11,h⟩:=ob h;have h11n:=Am h11;obtain⟨x12,h12,h⟩:=ob h;have h12n:=Am h12;obtain⟨x13,h13,h⟩:=ob h;have h13n:=Am h13;try simp only[h1,h3,h5,h7,h8,h10,h11,h11n,h12,h12n,h13,h13n,E,F,G,H,I,J]
     refine AS (es:=Z zD ([(⟨x11,x12,x13⟩:Xf)]:P Xf)) ?_;obtain⟨h14,h⟩:=AN h;try simp only[h1,h3,h5,h7,h8,h10,h11,h11n,h12,h12n,h13,h13n,h14,E,F,G,H,I,J]
     refine Ai ?_;try simp only[h1,h3,h5,h7,h8,h10,h11,h11n,h12,h12n,h13,h13n,h14,E,F,G,H,I,J]
     refine Ai ?_;try simp only[h1,h3,h5,h7,h8,h10,h11,h11n,h12,h12n,h13,h13n,h14,E,F,G,H,I,J]
     refine Ae ?_;try simp only[h1,h3,h5,h7,h8,h10,h11,h11n,h12,h12n,h13,h13n,h14,E,F,G,H,I,J]
     refine Ae ?_;try simp only[h1,h3,h5,h7,h8,h10,h11,h11n,h12,h12n,h13,h13n,h14,E,F,G,H,I,J]
     refine Ae ?_;try simp only[h1,h3,h5,h7,h8,h10,h11,h11n,h12,h12n,h13,h13n,h14,E,F,G,H,I,J]
     refine Ae ?_;try simp only[h1,h3,h5,h7,h8,h10,h11,h11n,h12,h12n,h13,h13n,h14,E,F,G,H,I,J]
     refine Ae ?_;try simp only[h1,h3,h5,h7,h8,h10,h11,h11n,h12,h12n,h13,h13n,h14,E,F,G,H,I,J]
     refine Ae ?_;try simp only[h1,h3,h5,h7,h8,h10,h11,h11n,h12,h12n,h13,h13n,h14,E,F,G,H,I,J]
     refine OD ?_;obtain⟨r21,h21,h⟩:=ob h;try simp only[h1,h3,h5,h7,h8,h10,h11,h11n,h12,h12n,h13,h13n,h14,E,F,G,H,I,J]
     refine AW (GW h21) 99999999999 ?_;try simp only[h1,h3,h5,h7,h8,h10,h11,h11n,h12,h12n,h13,h13n,h14,E,F,G,H,I,J]
     cases h;exact t0
    ·obtain⟨h15,h⟩|⟨h15,h⟩:=ic h
     ·try simp only[h1,h3,h5,h7,h8,h10,h15,E,F,G,H,I,J]
      refine Ai ?_;obtain⟨x16,h16,h⟩:=ob h;have h16n:=Am h16;obtain⟨x17,h17,h⟩:=ob h;have h17n:=Am h17;try simp only[h1,h3,h5,h7,h8,h10,h15,h16,h16n,h17,h17n,E,F,G,H,I,J]
      refine AS (es:=Z zE ([(⟨(0:U),x16,x17⟩:Xc)]:P Xc)) ?_;try simp only[h1,h3,h5,h7,h8,h10,h15,h16,h16n,h17,h17n,E,F,G,H,I,J]
      refine Ai ?_;try simp only[h1,h3,h5,h7,h8,h10,h15,h16,h16n,h17,h17n,E,F,G,H,I,J]
      refine Ae ?_;try simp only[h1,h3,h5,h7,h8,h10,h15,h16,h16n,h17,h17n,E,F,G,H,I,J]
      refine Ae ?_;try simp only[h1,h3,h5,h7,h8,h10,h15,h16,h16n,h17,h17n,E,F,G,H,I,J]
      refine Ae ?_;try simp only[h1,h3,h5,h7,h8,h10,h15,h16,h16n,h17,h17n,E,F,G,H,I,J]
      refine Ae ?_;try simp only[h1,h3,h5,h7,h8,h10,h15,h16,h16n,h17,h17n,E,F,G,H,I,J]
      refine Ae ?_;try simp only[h1,h3,h5,h7,h8,h10,h15,h16,h16n,h17,h17n,E,F,G,H,I,J]
      refine Ae ?_;try simp only[h1,h3,h5,h7,h8,h10,h15,h16,h16n,h17,h17n,E,F,G,H,I,J]
      refine Ae ?_;obtain⟨r22,h22,h⟩:=ob h;try simp only[h1,h3,h5,h7,h8,h10,h15,h16,h16n,h17,h17n,E,F,G,H,I,J]
      refine AW (GW h22) 99999999999 ?_;try simp only[h1,h3,h5,h7,h8,h10,h15,h16,h16n,h17,h17n,E,F,G,H,I,J]
      cases h;exact t0
     ·obtain⟨h18,h⟩|⟨h18,h⟩:=ic h
      ·obtain⟨x19,h19,h⟩:=ob h;have h19n:=Am h19;try simp only[h1,h3,h5,h7,h8,h10,h15,h18,h19,h19n,E,F,G,H,I,J]
       refine Ae ?_;try simp only[h1,h3,h5,h7,h8,h10,h15,h18,h19,h19n,E,F,G,H,I,J]
       refine Ae ?_;try simp only[h1,h3,h5,h7,h8,h10,h15,h18,h19,h19n,E,F,G,H,I,J]
       refine Ae ?_;try simp only[h1,h3,h5,h7,h8,h10,h15,h18,h19,h19n,E,F,G,H,I,J]
       refine Ae ?_;try simp only[h1,h3,h5,h7,h8,h10,h15,h18,h19,h19n,E,F,G,H,I,J]
       refine Ae ?_;try simp only[h1,h3,h5,h7,h8,h10,h15,h18,h19,h19n,E,F,G,H,I,J]
       refine Ae ?_;try simp only[h1,h3,h5,h7,h8,h10,h15,h18,h19,h19n,E,F,G,H,I,J]
       refine OD ?_;obtain⟨r23,h23,h⟩:=ob h;try simp only[h1,h3,h5,h7,h8,h10,h15,h18,h19,h19n,E,F,G,H,I,J]
       refine AW (GW h23) 99999999999 ?_;try simp only[h1,h3,h5,h7,h8,h10,h15,h18,h19,h19n,E,F,G,H,I,J]
       cases h;exact t0
      ·try simp only[h1,h3,h5,h7,h8,h10,h15,h18,E,F,G,H,I,J]
       refine Ae ?_;try simp only[h1,h3,h5,h7,h8,h10,h15,h18,E,F,G,H,I,J]
       refine Ae ?_;try simp only[h1,h3,h5,h7,h8,h10,h15,h18,E,F,G,H,I,J]
       refine Ae ?_;try simp only[h1,h3,h5,h7,h8,h10,h15,h18,E,F,G,H,I,J]
       refine Ae ?_;try simp only[h1,h3,h5,h7,h8,h10,h15,h18,E,F,G,H,I,J]
       refine Ae ?_;try simp only[h1,h3,h5,h7,h8,h10,h15,h18,E,F,G,H,I,J]
       refine Ae ?_;try simp only[h1,h3,h5,h7,h8,h10,h15,h18,E,F,G,H,I,J]
       refine OD ?_;obtain⟨r24,h24,h⟩:=ob h;try simp only[h1,h3,h5,h7,h8,h10,h15,h18,E,F,G,H,I,J]
       refine AW (GW h24) 99999999999 ?_;try simp only[h1,h3,h5,h7,h8,h10,h15,h18,E,F,G,H,I,J]
       cases h;exact t0
 ·try simp only[h1,h3,E,F,G,H,I,J]
  refine UB (pf (by kernel_rfl) Y (n:=(r2.1.length:U)) (by simp[Cp,St.get,A1]) Y) ?_;try simp only[h1,h3,E,F,G,H,I,J]
  cases h;exact t0
instance A7v:Ct 77 (∀{a0} {a1} {r},Jx a0 a1=N r→FC zA 77 [.ag (X1.row a0),.ag (X3.row a1)] [.sc (.v (.bool r))]):=by
 refine⟨fun h=> ?_⟩;unfold Jx at h;refine A2 mixed h0 [4] 47 ?_;exact gc
def Rg:Hw:=([(14,[1,2,17,18,19],[2],[]),(36,[1,2,6,17,18,19,30,31,32],[2,6],[])],[])
def aQ:=fun a1 v4 (a0:X1) (x6:X3) y10 y11 (k_:U→Q V)=>∀{v12} {zr},k_ v12=N zr→Kh zA 49 Rg 36 [1,2,6,17,18,19,30,31,32] [2,6] [] ⟨[pL 1 X3.row a1,pB 2,pB 6,pL 17 X3.row a1,pI 18 (a1.length:U),pI 19 v4,pL 30 X3.row y10,pI 31 y11,pI 32 v12],[(2,(dm a0.row)),(6,(dm x6.row))],[]⟩ (A6 [4] [.sc (.v (.bool zr))])
def SV:=fun a1 (a0:X1) (k_:U→Q V)=>∀{v4} {zr},k_ v4=N zr→Kh zA 49 Rg 14 [1,2,17,18,19] [2] [] ⟨[pL 1 X3.row a1,pB 2,pL 17 X3.row a1,pI 18 (a1.length:U),pI 19 v4],[(2,(dm a0.row))],[]⟩ (A6 [4] [.sc (.v (.bool zr))])
theorem A4p{a1 v4 a0 x6 y10 y11}{Mw}(pJ:SV a1 a0 Mw){n:W}:aQ a1 v4 a0 x6 y10 y11 (Eu a1 v4 a0 x6 y10 y11 Mw n):=by
 induction n with
 | zero=>intro _ r h; cases h
 | succ n ih=>
  intro v12 r h σ hσ;rw[Eu] at h;have k0:= @pJ;exact gc
theorem A4q{a1 a0}{n:W}:SV a1 a0 (DH a1 a0 n):=by
 induction n with
 | zero=>intro _ r h; cases h
 | succ n ih=>
  intro v4 r h σ hσ;rw[DH] at h;have k0:= @A4p;exact gc
instance Z8:Ct 49 (∀{a0} {a1} {r},BR a0 a1=N r→FC zA 49 [.ag (X1.row a0),.sc (.sl (Z X3.row a1))] [.sc (.v (.bool r))]):=by
 refine⟨fun h=> ?_⟩;unfold BR at h;refine A2 mixed Rg [4] 43 ?_;have k0:= @A4q;exact gc
def Vt:Hw:=([(16,[2,3,9,10],[2,3],[131136,131200])],[(11,3,(O,.ownb 3 1 131136 1)),(11,4,(O,.ownb 3 2 131200 1))])
def bB:=fun a0 (k_:U→(P U)→(P V)→Q Xo)=>∀{v3 v4 v5} {zr},k_ v3 v4 v5=N zr→Kh zA 51 Vt 16 [2,3,9,10] [2,3] [131136,131200] ⟨[pB 2,pB 3,pI 9 a0,pI 10 v3],[(2,[aI (0:U),.nil,.nil]),(3,[aI (0:U),.own 131136,.own 131200])],[(131136,1,Z rI v4),(131200,1,Z rB v5)]⟩ (A6 [.c 2 T 3] [.ag [.v (.int .i64 zr.Now),.o 1 (Z rI zr.Starts),.o 1 (Z rB zr.Cleared)]])
theorem A4r{a0}{n:W}:bB a0 (O1 a0 n):=by
 induction n with
 | zero=>intro _ _ _ r h; cases h
 | succ n ih=>
  intro v3 v4 v5 r h σ hσ;rw[O1] at h;have s0:= @AA (Z rI ([(-1:U)]:P U));have s1:= @AA (Z rB ([L]:P V));exact gc
instance yd:Ct 51 (∀{a0} {r},Ex a0=N r→FC zA 51 [.sc (.int .i64 a0)] [.ag [.v (.int .i64 r.Now),.o 1 (Z rI r.Starts),.o 1 (Z rB r.Cleared)]]):=by
 refine⟨fun{a0} {r} h=> ?_⟩;unfold Ex at h;refine A2 mixed Vt [.c 2 T 3] 24 ?_;intro S hS;refine ev hS ?_;simp only[E,F,G,H,I,J];try simp only[E,F,G,H,I,J]
 refine B0 ?_;obtain⟨r1,h1,h⟩:=ob h;try simp only[E,F,G,H,I,J]
 refine Ao (A8 A0j h1) ?_;obtain⟨h2,h⟩|⟨h2,h⟩:=ic h
 ·try simp only[h2,E,F,G,H,I,J]
  refine B0 ?_;try simp only[h2,E,F,G,H,I,J]
  refine EK (cs':= [aI (0:U),.own 131136,.nil]) Y Y Y Y ?_;try simp only[h2,E,F,G,H,I,J]
  refine EK (cs':= [aI (0:U),.own 131136,.own 131200]) Y Y Y Y ?_;try simp only[h2,E,F,G,H,I,J]
  refine A4r h ?_ (by kernel_rfl);try simp only[h2,E,F,G,H,I,J,pL,aM,zC]
 ·try simp only[h2,E,F,G,H,I,J]
  cases h;try simp only[DT,E,F,G,H,I,J]
  trivial
def Vu:Hw:=([],[(35,2,(O,.frz 1856)),(35,3,(O,.frz 4545)),(35,4,(O,.frz 4546))])
theorem jy:AG zA 24=N ((Bq zA 24 Vu).strip,[4],77):=by kernel_rfl
theorem xp{a0}{a1}{r}(h:QG a0 a1=N r):FCy zA 24 [.p,.d (.sc (.sl (Z rS a1)))] [.int .i64 a0.Harbour.Forecast.Tide.Mean,.sl (Z zD a0.Harbour.Forecast.Tide.Parts),.sl (Z zE a0.Harbour.Forecast.Surges),.sl (Z zF a0.Harbour.Chart.Points),.sl (Z X7.row a0.Harbour.Chart.Segments),.sl (Z X8.row a0.Harbour.Fleet),.int .i64 a0.Harbour.Regime.Gap,.bool a0.Harbour.Regime.NoMeet,.int .i64 a0.Harbour.Crew.Tugs,.int .i64 a0.Harbour.Crew.Pilots,.int .i64 a0.Harbour.Crew.Rest,.sl (Z rI a0.Harbour.Crew.Moves),.sl (Z X3.row a0.Calls),.int .i64 a0.Desk.Now,.sl (Z rI a0.Desk.Starts),.sl (Z rB a0.Desk.Cleared)] [.int .i64 r.2.Harbour.Forecast.Tide.Mean,.sl (Z zD r.2.Harbour.Forecast.Tide.Parts),.sl (Z zE r.2.Harbour.Forecast.Surges),.sl (Z zF r.2.Harbour.Chart.Points),.sl (Z X7.row r.2.Harbour.Chart.Segments),.sl (Z X8.row r.2.Harbour.Fleet),.int .i64 r.2.Harbour.Regime.Gap,.bool r.2.Harbour.Regime.NoMeet,.int .i64 r.2.Harbour.Crew.Tugs,.int .i64 r.2.Harbour.Crew.Pilots,.int .i64 r.2.Harbour.Crew.Rest,.sl (Z rI r.2.Harbour.Crew.Moves),.sl (Z X3.row r.2.Calls),.int .i64 r.2.Desk.Now,.sl (Z rI r.2.Desk.Starts),.sl (Z rB r.2.Desk.Cleared)] [.sc (.v (.str r.1))]:=by
 unfold QG at h;refine Ci (σ:=⟨[(0,vc (.pb 99999999999 0)),(1,vc (aL (Z rS a1)))],[(99999999999,[aI a0.Harbour.Forecast.Tide.Mean,aL (Z zD a0.Harbour.Forecast.Tide.Parts),aL (Z zE a0.Harbour.Forecast.Surges),aL (Z zF a0.Harbour.Chart.Points),aL (Z X7.row a0.Harbour.Chart.Segments),aL (Z X8.row a0.Harbour.Fleet),aI a0.Harbour.Regime.Gap,aB a0.Harbour.Regime.NoMeet,aI a0.Harbour.Crew.Tugs,aI a0.Harbour.Crew.Pilots,aI a0.Harbour.Crew.Rest,aL (Z rI a0.Harbour.Crew.Moves),aL (Z X3.row a0.Calls),aI a0.Desk.Now,aL (Z rI a0.Desk.Starts),aL (Z rB a0.Desk.Cleared)])],[]⟩) mixed jy Y Y ?_;refine Bx Vu ?_;intro S hS;refine ev hS ?_;obtain⟨h1,h⟩|⟨h1,h⟩:=ic h
 ·try simp only[h1,E,F,G,H,I,J]
  cases h;exact t0
 ·obtain⟨p2,h2,h⟩:=ob h;obtain⟨r3,h3,h⟩:=ob h;try simp only[h1,h2,E,F,G,H,I,J]
  refine Ao (A8 PM h3) ?_;obtain⟨h4,h⟩|⟨h4,h⟩:=ic h
  ·try simp only[h1,h2,h4,E,F,G,H,I,J]
   refine B0 ?_;try simp only[h1,h2,h4,E,F,G,H,I,J]
   refine Ai ?_;obtain⟨r5,h5,h⟩:=ob h;try simp only[h1,h2,h4,E,F,G,H,I,J]
   refine AX (A8 zj h5) ?_;obtain⟨x6,h6,h⟩:=ob h;obtain⟨r7,h7,h⟩:=ob h;try simp only[h1,h2,h4,h6,E,F,G,H,I,J]
   refine AX (A8 yw h7) ?_;obtain⟨x8,h8,h⟩:=ob h;obtain⟨r9,h9,h⟩:=ob h;try simp only[h1,h2,h4,h6,h8,E,F,G,H,I,J]
   refine AX (A8 PK h9) ?_;obtain⟨x10,h10,h⟩:=ob h;obtain⟨r11,h11,h⟩:=ob h;try simp only[h1,h2,h4,h6,h8,h10,E,F,G,H,I,J]
   refine AX (A8 PK h11) ?_;obtain⟨x12,h12,h⟩:=ob h;have h12n:=Am h12;obtain⟨x13,h13,h⟩:=ob h;have h13n:=Am h13;try simp only[h1,h2,h4,h6,h8,h10,h12,h12n,h13,h13n,E,F,G,H,I,J]
   refine AS (es:=Z X3.row ([(⟨r7,r9,r11,x12,x13⟩:X3)]:P X3)) ?_;obtain⟨h14,h⟩:=AN h;try simp only[h1,h2,h4,h6,h8,h10,h12,h12n,h13,h13n,h14,E,F,G,H,I,J]
   refine Ai ?_;obtain⟨r15,h15,h⟩:=ob h;try simp only[h1,h2,h4,h6,h8,h10,h12,h12n,h13,h13n,h14,E,F,G,H,I,J]
   refine Ec (A8 Z8 h15) Y (Cm Y) Y (uf Y) ?_;obtain⟨h16,h⟩|⟨h16,h⟩:=ic h
   ·obtain⟨r18,h18,h⟩:=ob h;try simp only[h1,h2,h4,h6,h8,h10,h12,h12n,h13,h13n,h14,h16,E,F,G,H,I,J]
    refine Ao (A8 yd h18) ?_;obtain⟨r19,h19,h⟩:=ob h;try simp only[h1,h2,h4,h6,h8,h10,h12,h12n,h13,h13n,h14,h16,E,F,G,H,I,J]
    refine Ao (A8 SB h19) ?_;try simp only[h1,h2,h4,h6,h8,h10,h12,h12n,h13,h13n,h14,h16,E,F,G,H,I,J]
    refine Ae ?_;try simp only[h1,h2,h4,h6,h8,h10,h12,h12n,h13,h13n,h14,h16,E,F,G,H,I,J]
    refine Ae ?_;try simp only[h1,h2,h4,h6,h8,h10,h12,h12n,h13,h13n,h14,h16,E,F,G,H,I,J]
    refine Ae ?_;try simp only[h1,h2,h4,h6,h8,h10,h12,h12n,h13,h13n,h14,h16,E,F,G,H,I,J]
    cases h;exact t0
   ·obtain⟨r17,h17,h⟩:=ob h;try simp only[h1,h2,h4,h6,h8,h10,h12,h12n,h13,h13n,h14,h16,E,F,G,H,I,J]
    refine Ao (A8 SB h17) ?_;try simp only[h1,h2,h4,h6,h8,h10,h12,h12n,h13,h13n,h14,h16,E,F,G,H,I,J]
    cases h;exact t0
  ·try simp only[h1,h2,h4,E,F,G,H,I,J]
   cases h;exact t0
def Vv:Hw:=([(14,[1,25,26,27],[1],[])],[])
def bC:=fun(a0:Xo) (k_:U→Q V)=>∀{v5} {zr},k_ v5=N zr→Kh zA 86 Vv 14 [1,25,26,27] [1] [] ⟨[pB 1,pL 25 rI a0.Starts,pI 26 (a0.Starts.length:U),pI 27 v5],[(1,(dm a0.row))],[]⟩ (A6 [2] [.sc (.v (.bool zr))])
theorem A4s{a0}{n:W}:bC a0 (G6 a0 n):=by
 induction n with
 | zero=>intro _ r h; cases h
 | succ n ih=>
  intro v5 r h σ hσ;rw[G6] at h;exact gc
instance A6n:Ct 86 (∀{a0} {r},Ji a0=N r→FC zA 86 [.ag (Xo.row a0)] [.sc (.v (.bool r))]):=by
 refine⟨fun h=> ?_⟩;unfold Ji at h;refine A2 mixed Vv [2] 47 ?_;have k0:= @A4s;exact gc
instance A7u:Ct 116 (∀{a0} {a1} {r},LJ a0 a1=N r→FC zA 116 [.ag (Xo.row a0),.ag (Xp.row a1)] [.sc (.v (.bool r))]):=by
 refine⟨fun h=> ?_⟩;unfold LJ at h;refine A2 mixed h0 [4] 73 ?_;exact gc
def Rh:Hw:=([(7,[3,4,6,17],[3,4,6],[513,514]),(31,[4,6],[4,6],[513,514])],[])
def aJ:=fun(a1:Xp) (k_:(P U)→(P V)→Q (Xo × V))=>∀{v13 v14} {zr},k_ v13 v14=N zr→Kh zA 81 Rh 31 [4,6] [4,6] [513,514] ⟨[pB 4,pB 6],[(4,[aI (0:U),.nil,.nil]),(6,[aI a1.At,.own 513,.own 514])],[(513,1,Z rI v13),(514,1,Z rB v14)]⟩ (A6 [.c 4 T 3,5] [.ag [.v (.int .i64 zr.1.Now),.o 1 (Z rI zr.1.Starts),.o 1 (Z rB zr.1.Cleared)],.sc (.v (.bool zr.2))])
def aH:=fun(a1:Xp) (r1:Xo) (k_:V→Q (Xo × V))=>∀{v5} {zr},k_ v5=N zr→Kh zA 81 Rh 7 [3,4,6,17] [3,4,6] [513,514] ⟨[pB 3,pB 4,pB 6,(17,vc (aB v5))],[(3,(dm a1.row)),(4,[aI (0:U),.nil,.nil]),(6,[aI r1.Now,.own 513,.own 514])],[(513,1,Z rI r1.Starts),(514,1,Z rB r1.Cleared)]⟩ (A6 [.c 4 T 3,5] [.ag [.v (.int .i64 zr.1.Now),.o 1 (Z rI zr.1.Starts),.o 1 (Z rB zr.1.Cleared)],.sc (.v (.bool zr.2))])
theorem A4t{a1}:aJ a1 (J9 a1):=by
 intro v13 v14 r h σ hσ;unfold J9 at h;exact gc
theorem A4u{a1 r1}:aH a1 r1 (J8 a1 r1):=by
 intro v5 r h σ hσ;unfold J8 at h;have s0:= @N2 _ rI a1.Value;have s1:= @N2 _ rB T;have s2:= @N2 _ rI ((-1:U));have k0:= @A4t;exact gc
instance xf:Ct 81 (∀{a0} {a1} {r},KU a0 a1=N r→FC zA 81 [.ag (Xo.row a0),.ag (Xp.row a1)] [.ag [.v (.int .i64 r.1.Now),.o 1 (Z rI r.1.Starts),.o 1 (Z rB r.1.Cleared)],.sc (.v (.bool r.2))]):=by
 refine⟨fun h=> ?_⟩;unfold KU at h;refine A2 mixed Rh [.c 4 T 3,5] 48 ?_;have k0:= @A4u;exact gc
def Vw:Hw:=([],[(7,3,(O,.frz 833)),(7,4,(O,.frz 834))])
theorem ka:AG zA 53=N ((Bq zA 53 Vw).strip,[4],22):=by kernel_rfl
theorem Za{a0}{a1}{r}(h:CA a0 a1=N r):FCy zA 53 [.p,.d (.ag (Xp.row a1))] [.int .i64 a0.Harbour.Forecast.Tide.Mean,.sl (Z zD a0.Harbour.Forecast.Tide.Parts),.sl (Z zE a0.Harbour.Forecast.Surges),.sl (Z zF a0.Harbour.Chart.Points),.sl (Z X7.row a0.Harbour.Chart.Segments),.sl (Z X8.row a0.Harbour.Fleet),.int .i64 a0.Harbour.Regime.Gap,.bool a0.Harbour.Regime.NoMeet,.int .i64 a0.Harbour.Crew.Tugs,.int .i64 a0.Harbour.Crew.Pilots,.int .i64 a0.Harbour.Crew.Rest,.sl (Z rI a0.Harbour.Crew.Moves),.sl (Z X3.row a0.Calls),.int .i64 a0.Desk.Now,.sl (Z rI a0.Desk.Starts),.sl (Z rB a0.Desk.Cleared)] [.int .i64 r.2.Harbour.Forecast.Tide.Mean,.sl (Z zD r.2.Harbour.Forecast.Tide.Parts),.sl (Z zE r.2.Harbour.Forecast.Surges),.sl (Z zF r.2.Harbour.Chart.Points),.sl (Z X7.row r.2.Harbour.Chart.Segments),.sl (Z X8.row r.2.Harbour.Fleet),.int .i64 r.2.Harbour.Regime.Gap,.bool r.2.Harbour.Regime.NoMeet,.int .i64 r.2.Harbour.Crew.Tugs,.int .i64 r.2.Harbour.Crew.Pilots,.int .i64 r.2.Harbour.Crew.Rest,.sl (Z rI r.2.Harbour.Crew.Moves),.sl (Z X3.row r.2.Calls),.int .i64 r.2.Desk.Now,.sl (Z rI r.2.Desk.Starts),.sl (Z rB r.2.Desk.Cleared)] [.sc (.v (.str r.1))]:=by
 unfold CA at h;refine Ci (σ:=⟨[(0,vc (.pb 99999999999 0)),(1,va (dm a1.row))],[(99999999999,[aI a0.Harbour.Forecast.Tide.Mean,aL (Z zD a0.Harbour.Forecast.Tide.Parts),aL (Z zE a0.Harbour.Forecast.Surges),aL (Z zF a0.Harbour.Chart.Points),aL (Z X7.row a0.Harbour.Chart.Segments),aL (Z X8.row a0.Harbour.Fleet),aI a0.Harbour.Regime.Gap,aB a0.Harbour.Regime.NoMeet,aI a0.Harbour.Crew.Tugs,aI a0.Harbour.Crew.Pilots,aI a0.Harbour.Crew.Rest,aL (Z rI a0.Harbour.Crew.Moves),aL (Z X3.row a0.Calls),aI a0.Desk.Now,aL (Z rI a0.Desk.Starts),aL (Z rB a0.Desk.Cleared)])],[]⟩) mixed ka Y Y ?_;refine Bx Vw ?_;intro S hS;refine ev hS ?_;try simp only[E,F,G,H,I,J]
 refine BZ ?_;try simp only[E,F,G,H,I,J]
 refine Ai ?_;obtain⟨r1,h1,h⟩:=ob h;try simp only[E,F,G,H,I,J]
 refine AX (A8 xf h1) ?_;try simp only[E,F,G,H,I,J]
 refine OK (m:= .box 5 [aI (0:U),.nil,.nil]) Y Y (K4 Y Y) ?_;try simp only[E,F,G,H,I,J]
 refine Ai ?_;obtain⟨r2,h2,h⟩:=ob h;try simp only[E,F,G,H,I,J]
 refine Ao (A8 SB h2) ?_;try simp only[E,F,G,H,I,J]
 refine Ae ?_;try simp only[E,F,G,H,I,J]
 refine Ae ?_;try simp only[E,F,G,H,I,J]
 cases h;exact t0
def Ri:Hw:=([(8,[0,5,18,19,20],[99999999999],[])],[])
def aY:=fun r1 (a0:X6) (k_:U→Q U)=>∀{v2} {zr},k_ v2=N zr→Kh zA 54 Ri 8 [0,5,18,19,20] [99999999999] [] ⟨[(0,vc (.pb 99999999999 0)),pI 5 r1,pL 18 X3.row a0.Calls,pI 19 (a0.Calls.length:U),pI 20 v2],[(99999999999,(dm a0.row))],[]⟩ (C9 [4] [.sc (.v (.int .i64 zr))] [.int .i64 a0.Harbour.Forecast.Tide.Mean,.sl (Z zD a0.Harbour.Forecast.Tide.Parts),.sl (Z zE a0.Harbour.Forecast.Surges),.sl (Z zF a0.Harbour.Chart.Points),.sl (Z X7.row a0.Harbour.Chart.Segments),.sl (Z X8.row a0.Harbour.Fleet),.int .i64 a0.Harbour.Regime.Gap,.bool a0.Harbour.Regime.NoMeet,.int .i64 a0.Harbour.Crew.Tugs,.int .i64 a0.Harbour.Crew.Pilots,.int .i64 a0.Harbour.Crew.Rest,.sl (Z rI a0.Harbour.Crew.Moves),.sl (Z X3.row a0.Calls),.int .i64 a0.Desk.Now,.sl (Z rI a0.Desk.Starts),.sl (Z rB a0.Desk.Cleared)])
theorem A4v{r1 a0}{n:W}:aY r1 a0 (Hh r1 a0 n):=by
 induction n with
 | zero=>intro _ r h; cases h
 | succ n ih=>
  intro v2 r h σ hσ;rw[Hh] at h;exact gc
theorem kb:AG zA 54=N ((Bq zA 54 Ri).strip,[4],31):=by kernel_rfl
theorem xq{a0}{a1}{r}(h:Dk a0 a1=N r):FCy zA 54 [.p,.d (.sc (.str a1))] [.int .i64 a0.Harbour.Forecast.Tide.Mean,.sl (Z zD a0.Harbour.Forecast.Tide.Parts),.sl (Z zE a0.Harbour.Forecast.Surges),.sl (Z zF a0.Harbour.Chart.Points),.sl (Z X7.row a0.Harbour.Chart.Segments),.sl (Z X8.row a0.Harbour.Fleet),.int .i64 a0.Harbour.Regime.Gap,.bool a0.Harbour.Regime.NoMeet,.int .i64 a0.Harbour.Crew.Tugs,.int .i64 a0.Harbour.Crew.Pilots,.int .i64 a0.Harbour.Crew.Rest,.sl (Z rI a0.Harbour.Crew.Moves),.sl (Z X3.row a0.Calls),.int .i64 a0.Desk.Now,.sl (Z rI a0.Desk.Starts),.sl (Z rB a0.Desk.Cleared)] [.int .i64 a0.Harbour.Forecast.Tide.Mean,.sl (Z zD a0.Harbour.Forecast.Tide.Parts),.sl (Z zE a0.Harbour.Forecast.Surges),.sl (Z zF a0.Harbour.Chart.Points),.sl (Z X7.row a0.Harbour.Chart.Segments),.sl (Z X8.row a0.Harbour.Fleet),.int .i64 a0.Harbour.Regime.Gap,.bool a0.Harbour.Regime.NoMeet,.int .i64 a0.Harbour.Crew.Tugs,.int .i64 a0.Harbour.Crew.Pilots,.int .i64 a0.Harbour.Crew.Rest,.sl (Z rI a0.Harbour.Crew.Moves),.sl (Z X3.row a0.Calls),.int .i64 a0.Desk.Now,.sl (Z rI a0.Desk.Starts),.sl (Z rB a0.Desk.Cleared)] [.sc (.v (.int .i64 r))]:=by
 unfold Dk at h;refine Ci (σ:=⟨[(0,vc (.pb 99999999999 0)),(1,vc (aS a1))],[(99999999999,[aI a0.Harbour.Forecast.Tide.Mean,aL (Z zD a0.Harbour.Forecast.Tide.Parts),aL (Z zE a0.Harbour.Forecast.Surges),aL (Z zF a0.Harbour.Chart.Points),aL (Z X7.row a0.Harbour.Chart.Segments),aL (Z X8.row a0.Harbour.Fleet),aI a0.Harbour.Regime.Gap,aB a0.Harbour.Regime.NoMeet,aI a0.Harbour.Crew.Tugs,aI a0.Harbour.Crew.Pilots,aI a0.Harbour.Crew.Rest,aL (Z rI a0.Harbour.Crew.Moves),aL (Z X3.row a0.Calls),aI a0.Desk.Now,aL (Z rI a0.Desk.Starts),aL (Z rB a0.Desk.Cleared)])],[]⟩) mixed kb Y Y ?_;refine Bx Ri ?_;have k0:= @A4v;exact gc
def ZM:P (P W × AItem):= [([],(O,.mv 68 (S 0))),([],(O,.mv 69 (S 6))),([],(O,.mv 70 (S 0))),([2],(O,.nilc 71 (S 70))),([3],(O,.faddr 72 (S 71) 13)),([4],(O,.faddr 73 (S 72) 0)),([5],(O,.load 74 (S 73) L 1)),([],(O,.mv 75 (S 0))),([],(O,.mv 76 (S 1))),([8],(O,.iaddr 77 (S 76) (K 1) 1)),([9],(O,.load 78 (S 77) L 1)),([7,10],(O,.call 79 54 [(S 75),(S 78)])),([],(O,.mv 80 (S 5))),([1,6,11,12],(O,.build 81 [aI 0,aI 0,aI 0,aI 0] [(0,1,(S 69)),(1,1,(S 74)),(2,1,(S 79)),(3,1,(S 80))])),([0,13,11],(O,.call 82 53 [(S 68),(S 81)])),([14,14,0,1,2,3,4,5,6,7,8,9,10,11,12,13,14],(O,.mv 4 (S 82)))]
def Ib:Hw:=([(23,[0,1,5,6],[99999999999],[]),(29,[0,1,6],[99999999999],[]),(35,[0,1,6],[99999999999],[]),(48,[0,1,6],[99999999999],[]),(66,[0,1,5,6],[99999999999],[])],[])
abbrev GQ(a1:P (P X))(a0:X6)(v17 v18:U)(x21:P X)(r22:U)(r23:(P X) × X6)(c0_ c1_:V)(c2_ c3_:V)(c4_ c5_:V)(c6_ c7_:V)(c8_ c9_:V)(c10_ c11_:V)(c12_ c13_:V)(c14_ c15_:V)(bx_:P (W × P AC))(rs_:Rows):St:=⟨[(0,vc (.pb 99999999999 0)),(1,vc (aL (Z rS a1))),(5,vc (aI v17)),(6,vc (aI v18)),(68,bif c0_ then vc (.pb 99999999999 0) else .undef),(69,bif c1_ then vc (aI v18) else .undef),(70,bif c2_ then vc (.pb 99999999999 0) else .undef),(71,bif c3_ then vc (.pb 99999999999 0) else .undef),(72,bif c4_ then vc (.pb 99999999999 13) else .undef),(73,bif c5_ then vc (.pb 99999999999 13) else .undef),(74,bif c6_ then vc (aI a0.Desk.Now) else .undef),(75,bif c7_ then vc (.pb 99999999999 0) else .undef),(76,bif c8_ then vc (aL (Z rS a1)) else .undef),(77,bif c9_ then vc (.dat (.pd [.str x21])) else .undef),(78,bif c10_ then vc (aS x21) else .undef),(79,bif c11_ then vc (aI r22) else .undef),(80,bif c12_ then vc (aI v17) else .undef),(81,bif c13_ then va [aI v18,aI a0.Desk.Now,aI r22,aI v17] else .undef),(82,bif c14_ then vc (aS r23.1) else .undef),(4,bif c15_ then vc (aS r23.1) else .undef)],bx_,rs_⟩
abbrev PG(a1:P (P X))(a0:X6)(v17 v18:U)(x21:P X)(r22:U)(r23:(P X) × X6):St:=(GQ a1 a0 v17 v18 x21 r22 r23 T T T T T T T T T T T T T T T T [(99999999999,(dm r23.2.row))] [])
theorem A4w(a1 a0 v17 v18 x21 r22 r23)(h21:ix a1 (1:U)=N x21)(h22:Dk a0 x21=N r22)(h23:CA a0 (⟨v18,a0.Desk.Now,r22,v17⟩:Xp)=N r23):∀(f:W) (b1 b2:V) (b3 b4:V) (b5 b7:V) (b8 b9:V) (b10 b12 b15:V),Av zA ZM (PG a1 a0 v17 v18 x21 r22 r23) f [T,b1,b2,b3,b4,b5,T,b7,b8,b9,b10,T,b12,T,T,b15] (GQ a1 a0 v17 v18 x21 r22 r23 T b1 b2 b3 b4 b5 T b7 b8 b9 b10 T b12 T T b15 [(99999999999,(dm r23.2.row))] []):=by
 intro f
 induction f with
 | zero=>
  intro b1 b2 b3 b4 b5 b7 b8 b9 b10 b12 b15 h;obtain rfl:b1=T:=zG.1 h b1 (by simp);obtain rfl:b2=T:=zG.1 h b2 (by simp);obtain rfl:b3=T:=zG.1 h b3 (by simp);obtain rfl:b4=T:=zG.1 h b4 (by simp);obtain rfl:b5=T:=zG.1 h b5 (by simp);obtain rfl:b7=T:=zG.1 h b7 (by simp);obtain rfl:b8=T:=zG.1 h b8 (by simp);obtain rfl:b9=T:=zG.1 h b9 (by simp);obtain rfl:b10=T:=zG.1 h b10 (by simp);obtain rfl:b12=T:=zG.1 h b12 (by simp);obtain rfl:b15=T:=zG.1 h b15 (by simp);rfl
 | succ f ih=>
  intro b1 b2 b3 b4 b5 b7 b8 b9 b10 b12 b15;refine AF ⟨?_,?_,?_,?_,?_,?_,?_,?_,?_,?_,?_,?_,?_,?_,?_,?_,⟨⟩⟩<;>try first | (intro h; cases h; done) | (intro h0 hw; obtain rfl:=hz h0 rfl; (try obtain rfl:=hq hw 1 rfl rfl); (try obtain rfl:=hq hw 2 rfl rfl); (try obtain rfl:=hq hw 3 rfl rfl); (try obtain rfl:=hq hw 4 rfl rfl); (try obtain rfl:=hq hw 5 rfl rfl); (try obtain rfl:=hq hw 7 rfl rfl); (try obtain rfl:=hq hw 8 rfl rfl); (try obtain rfl:=hq hw 9 rfl rfl); (try obtain rfl:=hq hw 10 rfl rfl); (try obtain rfl:=hq hw 12 rfl rfl); refine np ?_; simp only[h21,GQ,Ac,Af,A7,E,F,G,H,I,J]; exact ih _ _ _ _ _ _ _ _ _ _ _)
theorem A4x(a1 a0 v17 v18 x21 r22 r23)(h21:ix a1 (1:U)=N x21)(h22:Dk a0 x21=N r22)(h23:CA a0 (⟨v18,a0.Desk.Now,r22,v17⟩:Xp)=N r23):∀(f:W) (b0 b1:V) (b2 b3:V) (b4 b5:V) (b6 b7:V) (b8 b9:V) (b10 b11:V) (b12 b13:V) (e13_6:b13=T→b6=T),Av zA ZM (PG a1 a0 v17 v18 x21 r22 r23) f [b0,b1,b2,b3,b4,b5,b6,b7,b8,b9,b10,b11,b12,b13,L,L] (GQ a1 a0 v17 v18 x21 r22 r23 b0 b1 b2 b3 b4 b5 b6 b7 b8 b9 b10 b11 b12 b13 L L [(99999999999,(dm a0.row))] []):=by
 intro f
 induction f with
 | zero=>intro b0 b1 b2 b3 b4 b5 b6 b7 b8 b9 b10 b11 b12 b13 e13_6 h; simp at h
 | succ f ih=>
  intro b0 b1 b2 b3 b4 b5 b6 b7 b8 b9 b10 b11 b12 b13 e13_6;refine AF ⟨?_,?_,?_,?_,?_,?_,?_,?_,?_,?_,?_,?_,?_,?_,?_,?_,⟨⟩⟩<;>try first | (intro _ hw; simp at hw; done) | (intro h0 hw; obtain rfl:=hz h0 rfl; (try obtain rfl:=hq hw 1 rfl rfl); (try obtain rfl:=hq hw 2 rfl rfl); (try obtain rfl:=hq hw 3 rfl rfl); (try obtain rfl:=hq hw 4 rfl rfl); (try obtain rfl:=hq hw 5 rfl rfl); (try obtain rfl:=hq hw 6 rfl rfl); (try obtain rfl:=hq hw 8 rfl rfl); (try obtain rfl:=hq hw 9 rfl rfl); (try obtain rfl:=hq hw 11 rfl rfl); (try obtain rfl:=hq hw 12 rfl rfl); refine np ?_; simp only[h21,GQ,Ac,Af,A7,E,F,G,H,I,J]; exact ih _ _ _ _ _ _ _ _ _ _ _ _ _ _ (by first | exact fun _=>rfl | assumption | exact fun h_=>nomatch h_))
  ·intro h0 hw;obtain rfl:=hz h0 rfl;obtain rfl:=hq hw 7 rfl rfl;obtain rfl:=hq hw 10 rfl rfl;refine np ?_;try simp only[GQ,Ac,Af,A7,E,F,G,H,I,J]
   refine AW (xq h22) 99999999999 ?_;try simp only[A7,E,F,G,H,I,J]
   exact ih b0 b1 b2 b3 b4 b5 b6 T b8 b9 T T b12 b13 (by first | exact fun _=>rfl | assumption | exact fun h_=>nomatch h_)
  ·intro h0 hw;obtain rfl:=hq hw 0 rfl rfl;obtain rfl:=hq hw 11 rfl rfl;obtain rfl:=hq hw 13 rfl rfl;obtain rfl:=e13_6 rfl;refine np ?_;try simp only[GQ,Ac,Af,A7,E,F,G,H,I,J]
   refine AW (Za h23) 99999999999 ?_;try simp only[A7,E,F,G,H,I,J]
   exact A4w a1 a0 v17 v18 x21 r22 r23 h21 h22 h23 _ b1 b2 b3 b4 b5 b7 b8 b9 b10 b12 L
def af:=fun a1 (a0:X6) (k_:U→U→Q ((P X) × X6))=>∀{v17 v18} {zr},k_ v17 v18=N zr→Kh zA 25 Ib 66 [0,1,5,6] [99999999999] [] ⟨[(0,vc (.pb 99999999999 0)),pL 1 rS a1,pI 5 v17,pI 6 v18],[(99999999999,(dm a0.row))],[]⟩ (C9 [4] [.sc (.v (.str zr.1))] [.int .i64 zr.2.Harbour.Forecast.Tide.Mean,.sl (Z zD zr.2.Harbour.Forecast.Tide.Parts),.sl (Z zE zr.2.Harbour.Forecast.Surges),.sl (Z zF zr.2.Harbour.Chart.Points),.sl (Z X7.row zr.2.Harbour.Chart.Segments),.sl (Z X8.row zr.2.Harbour.Fleet),.int .i64 zr.2.Harbour.Regime.Gap,.bool zr.2.Harbour.Regime.NoMeet,.int .i64 zr.2.Harbour.Crew.Tugs,.int .i64 zr.2.Harbour.Crew.Pilots,.int .i64 zr.2.Harbour.Crew.Rest,.sl (Z rI zr.2.Harbour.Crew.Moves),.sl (Z X3.row zr.2.Calls),.int .i64 zr.2.Desk.Now,.sl (Z rI zr.2.Desk.Starts),.sl (Z rB zr.2.Desk.Cleared)])
def ae:=fun a1 (a0:X6) (k_:U→Q ((P X) × X6))=>∀{v13} {zr},k_ v13=N zr→Kh zA 25 Ib 48 [0,1,6] [99999999999] [] ⟨[(0,vc (.pb 99999999999 0)),pL 1 rS a1,pI 6 v13],[(99999999999,(dm a0.row))],[]⟩ (C9 [4] [.sc (.v (.str zr.1))] [.int .i64 zr.2.Harbour.Forecast.Tide.Mean,.sl (Z zD zr.2.Harbour.Forecast.Tide.Parts),.sl (Z zE zr.2.Harbour.Forecast.Surges),.sl (Z zF zr.2.Harbour.Chart.Points),.sl (Z X7.row zr.2.Harbour.Chart.Segments),.sl (Z X8.row zr.2.Harbour.Fleet),.int .i64 zr.2.Harbour.Regime.Gap,.bool zr.2.Harbour.Regime.NoMeet,.int .i64 zr.2.Harbour.Crew.Tugs,.int .i64 zr.2.Harbour.Crew.Pilots,.int .i64 zr.2.Harbour.Crew.Rest,.sl (Z rI zr.2.Harbour.Crew.Moves),.sl (Z X3.row zr.2.Calls),.int .i64 zr.2.Desk.Now,.sl (Z rI zr.2.Desk.Starts),.sl (Z rB zr.2.Desk.Cleared)])
def ab:=fun a1 (a0:X6) (k_:Q ((P X) × X6))=>∀{zr},k_=N zr→Kh zA 25 Ib 35 [0,1,6] [99999999999] [] ⟨[(0,vc (.pb 99999999999 0)),pL 1 rS a1,pI 6 (4:U)],[(99999999999,(dm a0.row))],[]⟩ (C9 [4] [.sc (.v (.str zr.1))] [.int .i64 zr.2.Harbour.Forecast.Tide.Mean,.sl (Z zD zr.2.Harbour.Forecast.Tide.Parts),.sl (Z zE zr.2.Harbour.Forecast.Surges),.sl (Z zF zr.2.Harbour.Chart.Points),.sl (Z X7.row zr.2.Harbour.Chart.Segments),.sl (Z X8.row zr.2.Harbour.Fleet),.int .i64 zr.2.Harbour.Regime.Gap,.bool zr.2.Harbour.Regime.NoMeet,.int .i64 zr.2.Harbour.Crew.Tugs,.int .i64 zr.2.Harbour.Crew.Pilots,.int .i64 zr.2.Harbour.Crew.Rest,.sl (Z rI zr.2.Harbour.Crew.Moves),.sl (Z X3.row zr.2.Calls),.int .i64 zr.2.Desk.Now,.sl (Z rI zr.2.Desk.Starts),.sl (Z rB zr.2.Desk.Cleared)])
def aa:=fun a1 (a0:X6) (k_:Q ((P X) × X6))=>∀{zr},k_=N zr→Kh zA 25 Ib 29 [0,1,6] [99999999999] [] ⟨[(0,vc (.pb 99999999999 0)),pL 1 rS a1,pI 6 (4:U)],[(99999999999,(dm a0.row))],[]⟩ (C9 [4] [.sc (.v (.str zr.1))] [.int .i64 zr.2.Harbour.Forecast.Tide.Mean,.sl (Z zD zr.2.Harbour.Forecast.Tide.Parts),.sl (Z zE zr.2.Harbour.Forecast.Surges),.sl (Z zF zr.2.Harbour.Chart.Points),.sl (Z X7.row zr.2.Harbour.Chart.Segments),.sl (Z X8.row zr.2.Harbour.Fleet),.int .i64 zr.2.Harbour.Regime.Gap,.bool zr.2.Harbour.Regime.NoMeet,.int .i64 zr.2.Harbour.Crew.Tugs,.int .i64 zr.2.Harbour.Crew.Pilots,.int .i64 zr.2.Harbour.Crew.Rest,.sl (Z rI zr.2.Harbour.Crew.Moves),.sl (Z X3.row zr.2.Calls),.int .i64 zr.2.Desk.Now,.sl (Z rI zr.2.Desk.Starts),.sl (Z rB zr.2.Desk.Cleared)])
def aZ:=fun a1 (a0:X6) (k_:Q ((P X) × X6))=>∀{zr},k_=N zr→Kh zA 25 Ib 23 [0,1,5,6] [99999999999] [] ⟨[(0,vc (.pb 99999999999 0)),pL 1 rS a1,pI 5 (0:U),pI 6 (4:U)],[(99999999999,(dm a0.row))],[]⟩ (C9 [4] [.sc (.v (.str zr.1))] [.int .i64 zr.2.Harbour.Forecast.Tide.Mean,.sl (Z zD zr.2.Harbour.Forecast.Tide.Parts),.sl (Z zE zr.2.Harbour.Forecast.Surges),.sl (Z zF zr.2.Harbour.Chart.Points),.sl (Z X7.row zr.2.Harbour.Chart.Segments),.sl (Z X8.row zr.2.Harbour.Fleet),.int .i64 zr.2.Harbour.Regime.Gap,.bool zr.2.Harbour.Regime.NoMeet,.int .i64 zr.2.Harbour.Crew.Tugs,.int .i64 zr.2.Harbour.Crew.Pilots,.int .i64 zr.2.Harbour.Crew.Rest,.sl (Z rI zr.2.Harbour.Crew.Moves),.sl (Z X3.row zr.2.Calls),.int .i64 zr.2.Desk.Now,.sl (Z rI zr.2.Desk.Starts),.sl (Z rB zr.2.Desk.Cleared)])
theorem SL{a1 a0}:af a1 a0 (L3 a1 a0):=by
 intro v17 v18 r h σ hσ S hS;refine ev hS ?_;refine Aw ?_;unfold L3 at h;obtain⟨h19,h⟩|⟨h19,h⟩:=ic h
 ·obtain⟨r20,h20,h⟩:=ob h;try simp only[hσ,h19,E,F,G,H,I,J]
  refine AW (Za h20) 99999999999 ?_;try simp only[h19,E,F,G,H,I,J]
  cases h;exact t0
 ·try simp only[hσ,h19,E,F,G,H,I,J]
  obtain⟨x21,h21,h⟩:=ob h;obtain⟨r22,h22,h⟩:=ob h;obtain⟨r23,h23,h⟩:=ob h;refine EJ (ks:= [0,1,5,6]) (bs:= [99999999999]) (rs:= []) (τ:=(PG a1 a0 v17 v18 x21 r22 r23)) Y (A4x a1 a0 v17 v18 x21 r22 r23 h21 h22 h23 _ L L L L L L L L L L L L L L (by first | exact fun _=>rfl | assumption | exact fun h_=>nomatch h_)) ?_;simp only[PG,GQ,Ac];try simp only[h19,h21,E,F,G,H,I,J]
  cases h;exact t0
theorem ZH{a1 a0}:ae a1 a0 (NV a1 a0):=by
 intro v13 r h σ hσ S hS;refine ev hS ?_;refine Aw ?_;unfold NV at h;obtain⟨x14,h14,h⟩:=ob h;obtain⟨r15,h15,h⟩:=ob h;try simp only[hσ,h14,E,F,G,H,I,J]
 refine Ao (Sz _ _ h15) ?_;obtain⟨h16,h⟩|⟨h16,h⟩:=ic h
 ·try simp only[h14,h16,E,F,G,H,I,J]
  refine SL h ?_ (by kernel_rfl);try simp only[h14,h16,E,F,G,H,I,J,pL,aM,zC]
 ·try simp only[h14,h16,E,F,G,H,I,J]
  cases h;exact t0
theorem A4y{a1 a0}:ab a1 a0 (NU a1 a0):=by
 intro r h σ hσ;unfold NU at h;have k0:= @ZH;exact gc
theorem A4z{a1 a0}:aa a1 a0 (NT a1 a0):=by
 intro r h σ hσ;unfold NT at h;have k0:= @ZH; have k1:= @A4y;exact gc
theorem A40{a1 a0}:aZ a1 a0 (NS a1 a0):=by
 intro r h σ hσ;unfold NS at h;have k0:= @SL; have k1:= @A4z;exact gc
theorem ke:AG zA 25=N ((Bq zA 25 Ib).strip,[4],83):=by kernel_rfl
theorem xu{a0}{a1}{r}(h:QI a0 a1=N r):FCy zA 25 [.p,.d (.sc (.sl (Z rS a1)))] [.int .i64 a0.Harbour.Forecast.Tide.Mean,.sl (Z zD a0.Harbour.Forecast.Tide.Parts),.sl (Z zE a0.Harbour.Forecast.Surges),.sl (Z zF a0.Harbour.Chart.Points),.sl (Z X7.row a0.Harbour.Chart.Segments),.sl (Z X8.row a0.Harbour.Fleet),.int .i64 a0.Harbour.Regime.Gap,.bool a0.Harbour.Regime.NoMeet,.int .i64 a0.Harbour.Crew.Tugs,.int .i64 a0.Harbour.Crew.Pilots,.int .i64 a0.Harbour.Crew.Rest,.sl (Z rI a0.Harbour.Crew.Moves),.sl (Z X3.row a0.Calls),.int .i64 a0.Desk.Now,.sl (Z rI a0.Desk.Starts),.sl (Z rB a0.Desk.Cleared)] [.int .i64 r.2.Harbour.Forecast.Tide.Mean,.sl (Z zD r.2.Harbour.Forecast.Tide.Parts),.sl (Z zE r.2.Harbour.Forecast.Surges),.sl (Z zF r.2.Harbour.Chart.Points),.sl (Z X7.row r.2.Harbour.Chart.Segments),.sl (Z X8.row r.2.Harbour.Fleet),.int .i64 r.2.Harbour.Regime.Gap,.bool r.2.Harbour.Regime.NoMeet,.int .i64 r.2.Harbour.Crew.Tugs,.int .i64 r.2.Harbour.Crew.Pilots,.int .i64 r.2.Harbour.Crew.Rest,.sl (Z rI r.2.Harbour.Crew.Moves),.sl (Z X3.row r.2.Calls),.int .i64 r.2.Desk.Now,.sl (Z rI r.2.Desk.Starts),.sl (Z rB r.2.Desk.Cleared)] [.sc (.v (.str r.1))]:=by
 unfold QI at h;refine Ci (σ:=⟨[(0,vc (.pb 99999999999 0)),(1,vc (aL (Z rS a1)))],[(99999999999,[aI a0.Harbour.Forecast.Tide.Mean,aL (Z zD a0.Harbour.Forecast.Tide.Parts),aL (Z zE a0.Harbour.Forecast.Surges),aL (Z zF a0.Harbour.Chart.Points),aL (Z X7.row a0.Harbour.Chart.Segments),aL (Z X8.row a0.Harbour.Fleet),aI a0.Harbour.Regime.Gap,aB a0.Harbour.Regime.NoMeet,aI a0.Harbour.Crew.Tugs,aI a0.Harbour.Crew.Pilots,aI a0.Harbour.Crew.Rest,aL (Z rI a0.Harbour.Crew.Moves),aL (Z X3.row a0.Calls),aI a0.Desk.Now,aL (Z rI a0.Desk.Starts),aL (Z rB a0.Desk.Cleared)])],[]⟩) mixed ke Y Y ?_;refine Bx Ib ?_;have k0:= @SL; have k1:= @A40;exact gc
instance A6h:Ct 160 (∀{a0} {a1} {r},Jb a0 a1=N r→FC zA 160 [.ag (X1.row a0),.ag (X3.row a1)] [.sc (.v (.bool r))]):=by
 refine⟨fun h=> ?_⟩;unfold Jb at h;refine A2 mixed h0 [4] 12 ?_;exact gc
instance Ze:Ct 144 (∀{a0} {a1} {r},Js a0 a1=N r→FC zA 144 [.ag (X7.row a0),.sc (.int .i64 a1)] [.sc (.v (.int .i64 r))]):=by
 refine⟨fun h=> ?_⟩;unfold Js at h;refine A2 mixed h0 [4] 18 ?_;exact gc
def Ng:P (P W × AItem):= [([],(O,.mv 18 (S 5))),([],(O,.mv 19 (S 5))),([1],(O,.nilc 20 (S 19))),([2],(O,.load 21 (S 20) L 1)),([],(O,.mv 22 (S 3))),([4],(O,.call 23 39 [(S 22)])),([5],(O,.bslice 24 1 [.sl []] 1 [(0,(S 23))])),([3,6,5],(O,.app 25 1 24 (S 21) (S 24))),([0,0,1,2,3,4,5,6,7],(O,.nilc 26 (S 18))),([8,7,7,0,1,2,3,4,5,6,7],(O,.store (S 26) (S 25) 1))]
def Ku:P (P W × AItem):= [([],(O,.load 48 (S 6) T 2)),([],(O,.mv 49 (S 14))),([],(O,.mv 50 (S 2))),([],(O,.mv 51 (S 3))),([3],(O,.call 52 39 [(S 51)])),([],(O,.mv 53 (S 12))),([5],(O,.bslice 54 1 [.int .i64 0] 1 [(0,(S 53))])),([4,6,4],(O,.app 55 1 8 (S 52) (S 54))),([],(O,.load 56 (S 10) T 8)),([],(O,.mv 57 (S 5))),([0,1,2,7,8,9,7],(O,.call 58 143 [(S 48),(S 49),(S 50),(S 55),(S 56),(S 57)]))]
def OU:Hw:=([(15,[1,2,3,5,6,10,30,31,32],[99999999999,6,10],[90000]),(30,[1,2,3,5,6,10,12,14,30,31,32,47],[99999999999,6,10],[90000])],[])
abbrev CV(a3:P U)(wo3_ wo5_:AV)(c0_ c1_:V)(c2_ c3_:V)(c4_ c5_:V)(c6_ c7_ c8_:V)(bx_:P (W × P AC))(rs_:Rows):St:=⟨[(3,vc (aL (Z rI a3))),(5,vc (.pb 99999999999 0)),(18,bif c0_ then vc (.pb 99999999999 0) else .undef),(19,bif c1_ then vc (.pb 99999999999 0) else .undef),(20,bif c2_ then vc (.pb 99999999999 0) else .undef),(21,bif c3_ then wo3_ else .undef),(22,bif c4_ then vc (aL (Z rI a3)) else .undef),(23,bif c5_ then wo5_ else .undef),(24,bif c6_ then vc (.own 1536) else .undef),(25,bif c7_ then vc (.own 90000) else .undef),(26,bif c8_ then vc (.pb 99999999999 0) else .undef)],bx_,rs_⟩
abbrev IG(a3:P U)(a5:P (P U))(r2:(P U)):St:=(CV a3 (vc (.undef)) (vc (aL (Z rI r2))) T T T T T T T T T [(99999999999,[.own 90000])] [(90000,1,Z (rL rI) (a5++([r2]:P (P U)))),(1536,1,Z (rL rI) ([r2]:P (P U)))])
theorem A41(rec_:X4→U→U→(P U)→X5→(P (P U))→Q (P (P U)))(h_rec:∀(a0:X4) (a1 a2:U) (a3:P U) (a4:X5) (a5:P (P U)) zr,rec_ a0 a1 a2 a3 a4 a5=N zr→FCz zA 143 [.d (.ag (X4.row a0)),.d (.sc (.int .i64 a1)),.d (.sc (.int .i64 a2)),.d (.sc (.sl (Z rI a3))),.d (.ag (X5.row a4)),.p] [.r 0] [(1,Z (rL rI) a5)] [.r 0] [(1,Z (rL rI) zr)] [])(a3)(a5:P (P U))(r2)(h2:Bl a3=N r2)(h3:(A4 a5.length ([r2]:P (P U)).length 24)=T):∀(f:W),Av zA Ng (IG a3 a5 r2) f [T,T,T,T,T,T,T,T,T,T] (CV a3 (vc (.undef)) (vc (aL (Z rI r2))) T T T T T T T T T [(99999999999,[.own 90000])] [(90000,1,Z (rL rI) (a5++([r2]:P (P U)))),(1536,1,Z (rL rI) ([r2]:P (P U)))]):=by
 intro f
 induction f with
 | zero=>intro h; rfl
 | succ f ih=>
  refine AF ⟨?_,?_,?_,?_,?_,?_,?_,?_,?_,?_,⟨⟩⟩<;>try first | (intro h; cases h; done)
theorem A42(rec_:X4→U→U→(P U)→X5→(P (P U))→Q (P (P U)))(h_rec:∀(a0:X4) (a1 a2:U) (a3:P U) (a4:X5) (a5:P (P U)) zr,rec_ a0 a1 a2 a3 a4 a5=N zr→FCz zA 143 [.d (.ag (X4.row a0)),.d (.sc (.int .i64 a1)),.d (.sc (.int .i64 a2)),.d (.sc (.sl (Z rI a3))),.d (.ag (X5.row a4)),.p] [.r 0] [(1,Z (rL rI) a5)] [.r 0] [(1,Z (rL rI) zr)] [])(a3)(a5:P (P U))(r2)(h2:Bl a3=N r2)(h3:(A4 a5.length ([r2]:P (P U)).length 24)=T):∀(f:W) (b0 b1:V) (b2 b8:V),Av zA Ng (IG a3 a5 r2) f [b0,b1,b2,T,T,T,T,T,b8,L] (CV a3 (vc (.undef)) (vc (aL (Z rI r2))) b0 b1 b2 T T T T T b8 [(99999999999,[.undef])] [(90000,1,Z (rL rI) (a5++([r2]:P (P U)))),(1536,1,Z (rL rI) ([r2]:P (P U)))]):=by
 intro f
 induction f with
 | zero=>intro b0 b1 b2 b8 h; simp at h
 | succ f ih=>
  intro b0 b1 b2 b8;refine AF ⟨?_,?_,?_,?_,?_,?_,?_,?_,?_,?_,⟨⟩⟩<;>try first | (intro h; cases h; done) | (intro h0 hw; obtain rfl:=hz h0 rfl; (try obtain rfl:=hq hw 0 rfl rfl); (try obtain rfl:=hq hw 1 rfl rfl); (try obtain rfl:=hq hw 2 rfl rfl); refine np ?_; simp only[CV,Ac,Af,A7,E,F,G,H,I,J]; exact ih _ _ _ _)
  ·intro h0 hw;obtain rfl:=hq hw 0 rfl rfl;obtain rfl:=hq hw 1 rfl rfl;obtain rfl:=hq hw 2 rfl rfl;obtain rfl:=hq hw 8 rfl rfl;refine np ?_;try simp only[CV,Ac,Af,A7,E,F,G,H,I,J]
   exact A41 rec_ h_rec a3 a5 r2 h2 h3 _
theorem A43(rec_:X4→U→U→(P U)→X5→(P (P U))→Q (P (P U)))(h_rec:∀(a0:X4) (a1 a2:U) (a3:P U) (a4:X5) (a5:P (P U)) zr,rec_ a0 a1 a2 a3 a4 a5=N zr→FCz zA 143 [.d (.ag (X4.row a0)),.d (.sc (.int .i64 a1)),.d (.sc (.int .i64 a2)),.d (.sc (.sl (Z rI a3))),.d (.ag (X5.row a4)),.p] [.r 0] [(1,Z (rL rI) a5)] [.r 0] [(1,Z (rL rI) zr)] [])(a3)(a5:P (P U))(r2)(h2:Bl a3=N r2)(h3:(A4 a5.length ([r2]:P (P U)).length 24)=T):∀(f:W) (b0 b1:V) (b2 b3:V),Av zA Ng (IG a3 a5 r2) f [b0,b1,b2,b3,T,T,T,L,L,L] (CV a3 (vc (.own 90000)) (vc (aL (Z rI r2))) b0 b1 b2 b3 T T T L L [(99999999999,[.own 90000])] [(90000,1,Z (rL rI) a5),(1536,1,Z (rL rI) ([r2]:P (P U)))]):=by
 intro f
 induction f with
 | zero=>intro b0 b1 b2 b3 h; simp at h
 | succ f ih=>
  intro b0 b1 b2 b3;refine AF ⟨?_,?_,?_,?_,?_,?_,?_,?_,?_,?_,⟨⟩⟩<;>try first | (intro h; cases h; done) | (intro _ hw; simp at hw; done) | (intro h0 hw; obtain rfl:=hz h0 rfl; (try obtain rfl:=hq hw 1 rfl rfl); (try obtain rfl:=hq hw 2 rfl rfl); refine np ?_; simp only[CV,Ac,Af,A7,E,F,G,H,I,J]; exact ih _ _ _ _)
  ·intro h0 hw;obtain rfl:=hq hw 3 rfl rfl;refine np ?_;try simp only[h3,CV,Ac,Af,A7,E,F,G,H,I,J]
   exact A42 rec_ h_rec a3 a5 r2 h2 h3 _ b0 b1 b2 L
theorem A44(rec_:X4→U→U→(P U)→X5→(P (P U))→Q (P (P U)))(h_rec:∀(a0:X4) (a1 a2:U) (a3:P U) (a4:X5) (a5:P (P U)) zr,rec_ a0 a1 a2 a3 a4 a5=N zr→FCz zA 143 [.d (.ag (X4.row a0)),.d (.sc (.int .i64 a1)),.d (.sc (.int .i64 a2)),.d (.sc (.sl (Z rI a3))),.d (.ag (X5.row a4)),.p] [.r 0] [(1,Z (rL rI) a5)] [.r 0] [(1,Z (rL rI) zr)] [])(a3)(a5:P (P U))(r2)(h2:Bl a3=N r2)(h3:(A4 a5.length ([r2]:P (P U)).length 24)=T):∀(f:W) (b0 b1:V) (b2 b3:V),Av zA Ng (IG a3 a5 r2) f [b0,b1,b2,b3,T,T,L,L,L,L] (CV a3 (vc (.own 90000)) (vc (.own 1472)) b0 b1 b2 b3 T T L L L [(99999999999,[.own 90000])] [(90000,1,Z (rL rI) a5),(1472,1,Z rI r2)]):=by
 intro f
 induction f with
 | zero=>intro b0 b1 b2 b3 h; simp at h
 | succ f ih=>
  intro b0 b1 b2 b3;refine AF ⟨?_,?_,?_,?_,?_,?_,?_,?_,?_,?_,⟨⟩⟩<;>try first | (intro h; cases h; done) | (intro _ hw; simp at hw; done) | (intro h0 hw; obtain rfl:=hz h0 rfl; (try obtain rfl:=hq hw 1 rfl rfl); (try obtain rfl:=hq hw 2 rfl rfl); refine np ?_; simp only[CV,Ac,Af,A7,E,F,G,H,I,J]; exact ih _ _ _ _)
  ·intro h0 hw;refine⟨[(O,.frz 1472)],[],Y,Y,?_⟩;try simp only[CV,Ac,Af,zK,zJ,A7,E,F,G,H,I,J]
   refine Ae ?_;try simp only[A7,E,F,G,H,I,J]
   refine DL (es:=Z (rL rI) ([r2]:P (P U))) Y (by simp only[St.fresh,zH,zI,BL]; simp[AV.cells,V1.cells,AC.uses]) ?_;try simp only[A7,E,F,G,H,I,J]
   exact A43 rec_ h_rec a3 a5 r2 h2 h3 _ b0 b1 b2 b3
theorem A45(rec_:X4→U→U→(P U)→X5→(P (P U))→Q (P (P U)))(h_rec:∀(a0:X4) (a1 a2:U) (a3:P U) (a4:X5) (a5:P (P U)) zr,rec_ a0 a1 a2 a3 a4 a5=N zr→FCz zA 143 [.d (.ag (X4.row a0)),.d (.sc (.int .i64 a1)),.d (.sc (.int .i64 a2)),.d (.sc (.sl (Z rI a3))),.d (.ag (X5.row a4)),.p] [.r 0] [(1,Z (rL rI) a5)] [.r 0] [(1,Z (rL rI) zr)] [])(a3)(a5:P (P U))(r2)(h2:Bl a3=N r2)(h3:(A4 a5.length ([r2]:P (P U)).length 24)=T):∀(f:W) (b0 b1:V) (b2 b3 b4:V),Av zA Ng (IG a3 a5 r2) f [b0,b1,b2,b3,b4,L,L,L,L,L] (CV a3 (vc (.own 90000)) (vc (.own 1472)) b0 b1 b2 b3 b4 L L L L [(99999999999,[.own 90000])] [(90000,1,Z (rL rI) a5)]):=by
 intro f
 induction f with
 | zero=>intro b0 b1 b2 b3 b4 h; simp at h
 | succ f ih=>
  intro b0 b1 b2 b3 b4;refine AF ⟨?_,?_,?_,?_,?_,?_,?_,?_,?_,?_,⟨⟩⟩<;>try first | (intro _ hw; simp at hw; done) | (intro h0 hw; obtain rfl:=hz h0 rfl; (try obtain rfl:=hq hw 1 rfl rfl); (try obtain rfl:=hq hw 2 rfl rfl); refine np ?_; simp only[CV,Ac,Af,A7,E,F,G,H,I,J]; exact ih _ _ _ _ _)
  ·intro h0 hw;obtain rfl:=hq hw 4 rfl rfl;refine np ?_;try simp only[CV,Ac,Af,A7,E,F,G,H,I,J]
   refine JQ (A8 PL h2) Y (by simp only[St.fresh,zH,zI,BL]; simp[AV.cells,V1.cells,AC.uses]) (uf Y) ?_;try simp only[A7,E,F,G,H,I,J]
   exact A44 rec_ h_rec a3 a5 r2 h2 h3 _ b0 b1 b2 b3
abbrev C8(a1 a2:U)(a3:P U)(v6 r11:U)(a0:X4)(y7:X5)(wo4_ wo7_:AV)(c0_ c1_:V)(c2_ c3_:V)(c4_ c5_:V)(c6_ c7_:V)(c8_ c9_ c10_:V)(bx_:P (W × P AC))(rs_:Rows):St:=⟨[(1,vc (aI a1)),(2,vc (aI a2)),(3,vc (aL (Z rI a3))),(5,vc (.pb 99999999999 0)),(6,vc (.pb 6 0)),(10,vc (.pb 10 0)),(12,vc (aI v6)),(14,vc (aI r11)),(30,vc (aL (Z X7.row a0.Segments))),(31,vc (aI (a0.Segments.length:U))),(32,vc (aI v6)),(48,bif c0_ then va (dm a0.row) else .undef),(49,bif c1_ then vc (aI r11) else .undef),(50,bif c2_ then vc (aI a2) else .undef),(51,bif c3_ then vc (aL (Z rI a3)) else .undef),(52,bif c4_ then wo4_ else .undef),(53,bif c5_ then vc (aI v6) else .undef),(54,bif c6_ then vc (.own 3456) else .undef),(55,bif c7_ then wo7_ else .undef),(56,bif c8_ then va [aB y7.i0,aB y7.i1,aB y7.i2,aB y7.i3,aB y7.i4,aB y7.i5,aB y7.i6,aB y7.i7] else .undef),(57,bif c9_ then vc (.pb 99999999999 0) else .undef),(58,bif c10_ then .tup [] else .undef)],bx_,rs_⟩
abbrev GT(a1 a2:U)(a3:P U)(v6 r11:U)(a0:X4)(y7:X5)(r18:(P U))(r20:(P (P U))):St:=(C8 a1 a2 a3 v6 r11 a0 y7 (vc (.undef)) (vc (aL (Z rI (r18++([v6]:P U))))) T T T T T T T T T T T [(99999999999,[.own 90000]),(6,(dm a0.row)),(10,[aB y7.i0,aB y7.i1,aB y7.i2,aB y7.i3,aB y7.i4,aB y7.i5,aB y7.i6,aB y7.i7])] [(90000,1,Z (rL rI) r20),(3456,1,Z rI ([v6]:P U))])
theorem A46(rec_:X4→U→U→(P U)→X5→(P (P U))→Q (P (P U)))(h_rec:∀(a0:X4) (a1 a2:U) (a3:P U) (a4:X5) (a5:P (P U)) zr,rec_ a0 a1 a2 a3 a4 a5=N zr→FCz zA 143 [.d (.ag (X4.row a0)),.d (.sc (.int .i64 a1)),.d (.sc (.int .i64 a2)),.d (.sc (.sl (Z rI a3))),.d (.ag (X5.row a4)),.p] [.r 0] [(1,Z (rL rI) a5)] [.r 0] [(1,Z (rL rI) zr)] [])(a1:U)(a2)(a3)(v6)(r11)(a0)(y7)(v8)(r18)(r20)(h18:Bl a3=N r18)(h19:(A4 r18.length ([v6]:P U).length 8)=T)(h20:rec_ a0 r11 a2 (r18++([v6]:P U)) y7 v8=N r20):∀(f:W),Av zA Ku (GT a1 a2 a3 v6 r11 a0 y7 r18 r20) f [T,T,T,T,T,T,T,T,T,T,T] (C8 a1 a2 a3 v6 r11 a0 y7 (vc (.undef)) (vc (aL (Z rI (r18++([v6]:P U))))) T T T T T T T T T T T [(99999999999,[.own 90000]),(6,(dm a0.row)),(10,[aB y7.i0,aB y7.i1,aB y7.i2,aB y7.i3,aB y7.i4,aB y7.i5,aB y7.i6,aB y7.i7])] [(90000,1,Z (rL rI) r20),(3456,1,Z rI ([v6]:P U))]):=by
 intro f
 induction f with
 | zero=>intro h; rfl
 | succ f ih=>
  refine AF ⟨?_,?_,?_,?_,?_,?_,?_,?_,?_,?_,?_,⟨⟩⟩<;>try first | (intro h; cases h; done)
theorem A47(rec_:X4→U→U→(P U)→X5→(P (P U))→Q (P (P U)))(h_rec:∀(a0:X4) (a1 a2:U) (a3:P U) (a4:X5) (a5:P (P U)) zr,rec_ a0 a1 a2 a3 a4 a5=N zr→FCz zA 143 [.d (.ag (X4.row a0)),.d (.sc (.int .i64 a1)),.d (.sc (.int .i64 a2)),.d (.sc (.sl (Z rI a3))),.d (.ag (X5.row a4)),.p] [.r 0] [(1,Z (rL rI) a5)] [.r 0] [(1,Z (rL rI) zr)] [])(a1:U)(a2)(a3)(v6)(r11)(a0)(y7)(v8)(r18)(r20)(h18:Bl a3=N r18)(h19:(A4 r18.length ([v6]:P U).length 8)=T)(h20:rec_ a0 r11 a2 (r18++([v6]:P U)) y7 v8=N r20):∀(f:W) (b0 b1:V) (b2 b8 b9:V),Av zA Ku (GT a1 a2 a3 v6 r11 a0 y7 r18 r20) f [b0,b1,b2,T,T,T,T,T,b8,b9,L] (C8 a1 a2 a3 v6 r11 a0 y7 (vc (.undef)) (vc (.own 3328)) b0 b1 b2 T T T T T b8 b9 L [(99999999999,[.own 90000]),(6,(dm a0.row)),(10,[aB y7.i0,aB y7.i1,aB y7.i2,aB y7.i3,aB y7.i4,aB y7.i5,aB y7.i6,aB y7.i7])] [(90000,1,Z (rL rI) v8),(3328,1,Z rI (r18++([v6]:P U))),(3456,1,Z rI ([v6]:P U))]):=by
 intro f
 induction f with
 | zero=>intro b0 b1 b2 b8 b9 h; simp at h
 | succ f ih=>
  intro b0 b1 b2 b8 b9;refine AF ⟨?_,?_,?_,?_,?_,?_,?_,?_,?_,?_,?_,⟨⟩⟩<;>try first | (intro h; cases h; done) | (intro h0 hw; obtain rfl:=hz h0 rfl; refine np ?_; simp only[C8,Ac,Af,A7,E,F,G,H,I,J]; exact ih _ _ _ _ _)
  ·intro h0 hw;obtain rfl:=hq hw 0 rfl rfl;obtain rfl:=hq hw 1 rfl rfl;obtain rfl:=hq hw 2 rfl rfl;obtain rfl:=hq hw 8 rfl rfl;obtain rfl:=hq hw 9 rfl rfl;refine⟨[(O,.frz 3328)],[],Y,Y,?_⟩;try simp only[C8,Ac,Af,zK,zJ,A7,E,F,G,H,I,J]
   refine Ae ?_;try simp only[A7,E,F,G,H,I,J]
   refine JR (h_rec _ _ _ _ _ _ _ h20) 99999999999 [90000] rfl Y Y Y (by decide) Y Y Y ?_;try simp only[A7,E,F,G,H,I,J]
   exact A46 rec_ h_rec a1 a2 a3 v6 r11 a0 y7 v8 r18 r20 h18 h19 h20 _
theorem ZI(rec_:X4→U→U→(P U)→X5→(P (P U))→Q (P (P U)))(h_rec:∀(a0:X4) (a1 a2:U) (a3:P U) (a4:X5) (a5:P (P U)) zr,rec_ a0 a1 a2 a3 a4 a5=N zr→FCz zA 143 [.d (.ag (X4.row a0)),.d (.sc (.int .i64 a1)),.d (.sc (.int .i64 a2)),.d (.sc (.sl (Z rI a3))),.d (.ag (X5.row a4)),.p] [.r 0] [(1,Z (rL rI) a5)] [.r 0] [(1,Z (rL rI) zr)] [])(a1:U)(a2)(a3)(v6)(r11)(a0)(y7)(v8)(r18)(r20)(h18:Bl a3=N r18)(h19:(A4 r18.length ([v6]:P U).length 8)=T)(h20:rec_ a0 r11 a2 (r18++([v6]:P U)) y7 v8=N r20):∀(f:W) (b0 b1:V) (b2 b8 b9:V),Av zA Ku (GT a1 a2 a3 v6 r11 a0 y7 r18 r20) f [b0,b1,b2,T,T,T,T,L,b8,b9,L] (C8 a1 a2 a3 v6 r11 a0 y7 (vc (.own 3328)) (vc (.own 3328)) b0 b1 b2 T T T T L b8 b9 L [(99999999999,[.own 90000]),(6,(dm a0.row)),(10,[aB y7.i0,aB y7.i1,aB y7.i2,aB y7.i3,aB y7.i4,aB y7.i5,aB y7.i6,aB y7.i7])] [(90000,1,Z (rL rI) v8),(3328,1,Z rI r18),(3456,1,Z rI ([v6]:P U))]):=by
 intro f
 induction f with
 | zero=>intro b0 b1 b2 b8 b9 h; simp at h
 | succ f ih=>
  intro b0 b1 b2 b8 b9;refine AF ⟨?_,?_,?_,?_,?_,?_,?_,?_,?_,?_,?_,⟨⟩⟩<;>try first | (intro h; cases h; done) | (intro _ hw; simp at hw; done) | (intro h0 hw; obtain rfl:=hz h0 rfl; refine np ?_; simp only[C8,Ac,Af,A7,E,F,G,H,I,J]; exact ih _ _ _ _ _)
  ·intro h0 hw;refine np ?_;try simp only[h19,C8,Ac,Af,A7,E,F,G,H,I,J]
   exact A47 rec_ h_rec a1 a2 a3 v6 r11 a0 y7 v8 r18 r20 h18 h19 h20 _ b0 b1 b2 b8 b9
theorem A48(rec_:X4→U→U→(P U)→X5→(P (P U))→Q (P (P U)))(h_rec:∀(a0:X4) (a1 a2:U) (a3:P U) (a4:X5) (a5:P (P U)) zr,rec_ a0 a1 a2 a3 a4 a5=N zr→FCz zA 143 [.d (.ag (X4.row a0)),.d (.sc (.int .i64 a1)),.d (.sc (.int .i64 a2)),.d (.sc (.sl (Z rI a3))),.d (.ag (X5.row a4)),.p] [.r 0] [(1,Z (rL rI) a5)] [.r 0] [(1,Z (rL rI) zr)] [])(a1:U)(a2)(a3)(v6)(r11)(a0)(y7)(v8)(r18)(r20)(h18:Bl a3=N r18)(h19:(A4 r18.length ([v6]:P U).length 8)=T)(h20:rec_ a0 r11 a2 (r18++([v6]:P U)) y7 v8=N r20):∀(f:W) (b0 b1:V) (b2 b5:V) (b8 b9:V),Av zA Ku (GT a1 a2 a3 v6 r11 a0 y7 r18 r20) f [b0,b1,b2,T,T,b5,L,L,b8,b9,L] (C8 a1 a2 a3 v6 r11 a0 y7 (vc (.own 3328)) (vc (.own 3328)) b0 b1 b2 T T b5 L L b8 b9 L [(99999999999,[.own 90000]),(6,(dm a0.row)),(10,[aB y7.i0,aB y7.i1,aB y7.i2,aB y7.i3,aB y7.i4,aB y7.i5,aB y7.i6,aB y7.i7])] [(90000,1,Z (rL rI) v8),(3328,1,Z rI r18)]):=by
 intro f
 induction f with
 | zero=>intro b0 b1 b2 b5 b8 b9 h; simp at h
 | succ f ih=>
  intro b0 b1 b2 b5 b8 b9;refine AF ⟨?_,?_,?_,?_,?_,?_,?_,?_,?_,?_,?_,⟨⟩⟩<;>try first | (intro h; cases h; done) | (intro _ hw; simp at hw; done) | (intro h0 hw; obtain rfl:=hz h0 rfl; refine np ?_; simp only[C8,Ac,Af,A7,E,F,G,H,I,J]; exact ih _ _ _ _ _ _)
  ·intro h0 hw;obtain rfl:=hq hw 5 rfl rfl;refine np ?_;try simp only[C8,Ac,Af,A7,E,F,G,H,I,J]
   refine DL (es:=Z rI ([v6]:P U)) Y (by simp only[St.fresh,zH,zI,BL]; simp[AV.cells,V1.cells,AC.uses]) ?_;try simp only[A7,E,F,G,H,I,J]
   exact ZI rec_ h_rec a1 a2 a3 v6 r11 a0 y7 v8 r18 r20 h18 h19 h20 _ b0 b1 b2 b8 b9
theorem A49(rec_:X4→U→U→(P U)→X5→(P (P U))→Q (P (P U)))(h_rec:∀(a0:X4) (a1 a2:U) (a3:P U) (a4:X5) (a5:P (P U)) zr,rec_ a0 a1 a2 a3 a4 a5=N zr→FCz zA 143 [.d (.ag (X4.row a0)),.d (.sc (.int .i64 a1)),.d (.sc (.int .i64 a2)),.d (.sc (.sl (Z rI a3))),.d (.ag (X5.row a4)),.p] [.r 0] [(1,Z (rL rI) a5)] [.r 0] [(1,Z (rL rI) zr)] [])(a1:U)(a2)(a3)(v6)(r11)(a0)(y7)(v8)(r18)(r20)(h18:Bl a3=N r18)(h19:(A4 r18.length ([v6]:P U).length 8)=T)(h20:rec_ a0 r11 a2 (r18++([v6]:P U)) y7 v8=N r20):∀(f:W) (b0 b1:V) (b2 b3:V) (b8 b9:V),Av zA Ku (GT a1 a2 a3 v6 r11 a0 y7 r18 r20) f [b0,b1,b2,b3,L,T,T,L,b8,b9,L] (C8 a1 a2 a3 v6 r11 a0 y7 (vc (.own 3328)) (vc (.own 3328)) b0 b1 b2 b3 L T T L b8 b9 L [(99999999999,[.own 90000]),(6,(dm a0.row)),(10,[aB y7.i0,aB y7.i1,aB y7.i2,aB y7.i3,aB y7.i4,aB y7.i5,aB y7.i6,aB y7.i7])] [(90000,1,Z (rL rI) v8),(3456,1,Z rI ([v6]:P U))]):=by
 intro f
 induction f with
 | zero=>intro b0 b1 b2 b3 b8 b9 h; simp at h
 | succ f ih=>
  intro b0 b1 b2 b3 b8 b9;refine AF ⟨?_,?_,?_,?_,?_,?_,?_,?_,?_,?_,?_,⟨⟩⟩<;>try first | (intro h; cases h; done) | (intro _ hw; simp at hw; done) | (intro h0 hw; obtain rfl:=hz h0 rfl; refine np ?_; simp only[C8,Ac,Af,A7,E,F,G,H,I,J]; exact ih _ _ _ _ _ _)
  ·intro h0 hw;obtain rfl:=hq hw 3 rfl rfl;refine⟨[],[(O,.keep [1,2,3,5,6,10,12,14,30,31,32,48,49,50,51,52,53,54,55,56,57,58] [99999999999,6,10] [90000,3328,3456])],Y,Y,?_⟩;try simp only[C8,Ac,Af,zK,zJ,A7,E,F,G,H,I,J]
   refine JQ (A8 PL h18) Y (by simp only[St.fresh,zH,zI,BL]; simp[AV.cells,V1.cells,AC.uses]) (uf Y) ?_;try simp only[A7,E,F,G,H,I,J]
   exact ZI rec_ h_rec a1 a2 a3 v6 r11 a0 y7 v8 r18 r20 h18 h19 h20 _ b0 b1 b2 b8 b9
theorem A5a(rec_:X4→U→U→(P U)→X5→(P (P U))→Q (P (P U)))(h_rec:∀(a0:X4) (a1 a2:U) (a3:P U) (a4:X5) (a5:P (P U)) zr,rec_ a0 a1 a2 a3 a4 a5=N zr→FCz zA 143 [.d (.ag (X4.row a0)),.d (.sc (.int .i64 a1)),.d (.sc (.int .i64 a2)),.d (.sc (.sl (Z rI a3))),.d (.ag (X5.row a4)),.p] [.r 0] [(1,Z (rL rI) a5)] [.r 0] [(1,Z (rL rI) zr)] [])(a1:U)(a2)(a3)(v6)(r11)(a0)(y7)(v8)(r18)(r20)(h18:Bl a3=N r18)(h19:(A4 r18.length ([v6]:P U).length 8)=T)(h20:rec_ a0 r11 a2 (r18++([v6]:P U)) y7 v8=N r20):∀(f:W) (b0 b1:V) (b2 b3:V) (b5 b8 b9:V),Av zA Ku (GT a1 a2 a3 v6 r11 a0 y7 r18 r20) f [b0,b1,b2,b3,L,b5,L,L,b8,b9,L] (C8 a1 a2 a3 v6 r11 a0 y7 (vc (.own 3328)) (vc (.own 3328)) b0 b1 b2 b3 L b5 L L b8 b9 L [(99999999999,[.own 90000]),(6,(dm a0.row)),(10,[aB y7.i0,aB y7.i1,aB y7.i2,aB y7.i3,aB y7.i4,aB y7.i5,aB y7.i6,aB y7.i7])] [(90000,1,Z (rL rI) v8)]):=by
 intro f
 induction f with
 | zero=>intro b0 b1 b2 b3 b5 b8 b9 h; simp at h
 | succ f ih=>
  intro b0 b1 b2 b3 b5 b8 b9;refine AF ⟨?_,?_,?_,?_,?_,?_,?_,?_,?_,?_,?_,⟨⟩⟩<;>try first | (intro _ hw; simp at hw; done) | (intro h0 hw; obtain rfl:=hz h0 rfl; refine np ?_; simp only[C8,Ac,Af,A7,E,F,G,H,I,J]; exact ih _ _ _ _ _ _ _)
  ·intro h0 hw;obtain rfl:=hq hw 3 rfl rfl;refine np ?_;try simp only[C8,Ac,Af,A7,E,F,G,H,I,J]
   refine JQ (A8 PL h18) Y (by simp only[St.fresh,zH,zI,BL]; simp[AV.cells,V1.cells,AC.uses]) (uf Y) ?_;try simp only[A7,E,F,G,H,I,J]
   exact A48 rec_ h_rec a1 a2 a3 v6 r11 a0 y7 v8 r18 r20 h18 h19 h20 _ b0 b1 b2 b5 b8 b9
  ·intro h0 hw;obtain rfl:=hq hw 5 rfl rfl;refine np ?_;try simp only[C8,Ac,Af,A7,E,F,G,H,I,J]
   refine DL (es:=Z rI ([v6]:P U)) Y (by simp only[St.fresh,zH,zI,BL]; simp[AV.cells,V1.cells,AC.uses]) ?_;try simp only[A7,E,F,G,H,I,J]
   exact A49 rec_ h_rec a1 a2 a3 v6 r11 a0 y7 v8 r18 r20 h18 h19 h20 _ b0 b1 b2 b3 b8 b9
def aW:=fun a1 a2 a3 v6 r11 (a0:X4) (y7:X5) v8 (k_:V→Q (P (P U)))=>∀{v16} {zr},k_ v16=N zr→Kh zA 143 OU 30 [1,2,3,5,6,10,12,14,30,31,32,47] [99999999999,6,10] [90000] ⟨[pI 1 a1,pI 2 a2,pL 3 rI a3,(5,vc (.pb 99999999999 0)),pB 6,pB 10,pI 12 v6,pI 14 r11,pL 30 X7.row a0.Segments,pI 31 (a0.Segments.length:U),pI 32 v6,(47,vc (aB v16))],[(99999999999,[.own 90000]),(6,(dm a0.row)),(10,[aB y7.i0,aB y7.i1,aB y7.i2,aB y7.i3,aB y7.i4,aB y7.i5,aB y7.i6,aB y7.i7])],[(90000,1,Z (rL rI) v8)]⟩ (F1 [] [] [.r 0] [(1,Z (rL rI) zr)])
def SY:=fun a1 a2 a3 (a0:X4) (y7:X5) (k_:U→(P (P U))→Q (P (P U)))=>∀{v6 v8} {zr},k_ v6 v8=N zr→Kh zA 143 OU 15 [1,2,3,5,6,10,30,31,32] [99999999999,6,10] [90000] ⟨[pI 1 a1,pI 2 a2,pL 3 rI a3,(5,vc (.pb 99999999999 0)),pB 6,pB 10,pL 30 X7.row a0.Segments,pI 31 (a0.Segments.length:U),pI 32 v6],[(99999999999,[.own 90000]),(6,(dm a0.row)),(10,[aB y7.i0,aB y7.i1,aB y7.i2,aB y7.i3,aB y7.i4,aB y7.i5,aB y7.i6,aB y7.i7])],[(90000,1,Z (rL rI) v8)]⟩ (F1 [] [] [.r 0] [(1,Z (rL rI) zr)])
theorem ZJ{rec_:X4→U→U→(P U)→X5→(P (P U))→Q (P (P U))}(h_rec:∀(a0:X4) (a1 a2:U) (a3:P U) (a4:X5) (a5:P (P U)) zr,rec_ a0 a1 a2 a3 a4 a5=N zr→FCz zA 143 [.d (.ag (X4.row a0)),.d (.sc (.int .i64 a1)),.d (.sc (.int .i64 a2)),.d (.sc (.sl (Z rI a3))),.d (.ag (X5.row a4)),.p] [.r 0] [(1,Z (rL rI) a5)] [.r 0] [(1,Z (rL rI) zr)] []){a1 a2 a3 v6 r11 a0 y7 v8}{My}(VB:SY a1 a2 a3 a0 y7 My):aW a1 a2 a3 v6 r11 a0 y7 v8 (Hg rec_ a1 a2 a3 v6 r11 a0 y7 v8 My):=by
 intro v16 r h σ hσ S hS;refine ev hS ?_;refine Aw ?_;unfold Hg at h;obtain⟨h17,h⟩|⟨h17,h⟩:=ic h
 ·try simp only[hσ,h17,E,F,G,H,I,J]
  obtain⟨r18,h18,h⟩:=ob h;obtain⟨h19,h⟩:=AN h;obtain⟨r20,h20,h⟩:=ob h;refine EJ (ks:= [1,2,3,5,6,10,12,14,30,31,32]) (bs:= [99999999999,6,10]) (rs:= [90000]) (τ:=(GT a1 a2 a3 v6 r11 a0 y7 r18 r20)) Y (A5a rec_ h_rec a1 a2 a3 v6 r11 a0 y7 v8 r18 r20 h18 h19 h20 _ L L L L L L L) ?_;simp only[GT,C8,Ac];try simp only[h17,h19,E,F,G,H,I,J]
  refine VB h ?_ (by kernel_rfl);try simp only[h17,h19,E,F,G,H,I,J,pL,aM,zC]
 ·try simp only[hσ,h17,E,F,G,H,I,J]
  refine VB h ?_ (by kernel_rfl);try simp only[h17,E,F,G,H,I,J,pL,aM,zC]
theorem A5b{rec_:X4→U→U→(P U)→X5→(P (P U))→Q (P (P U))}(h_rec:∀(a0:X4) (a1 a2:U) (a3:P U) (a4:X5) (a5:P (P U)) zr,rec_ a0 a1 a2 a3 a4 a5=N zr→FCz zA 143 [.d (.ag (X4.row a0)),.d (.sc (.int .i64 a1)),.d (.sc (.int .i64 a2)),.d (.sc (.sl (Z rI a3))),.d (.ag (X5.row a4)),.p] [.r 0] [(1,Z (rL rI) a5)] [.r 0] [(1,Z (rL rI) zr)] []){a1 a2 a3 a0 y7}{n:W}:SY a1 a2 a3 a0 y7 (F9 rec_ a1 a2 a3 a0 y7 n):=by
 induction n with
 | zero=>intro _ _ r h; cases h
 | succ n ih=>
  intro v6 v8 r h σ hσ S hS;refine ev hS ?_;rw[F9] at h;refine AY (Aw ?_);obtain⟨h9,h⟩|⟨h9,h⟩:=ic h
  ·obtain⟨x10,h10,h⟩:=ob h;try simp only[hσ,h9,h10,E,F,G,H,I,J]
   refine B0 ?_;obtain⟨r11,h11,h⟩:=ob h;try simp only[h9,h10,E,F,G,H,I,J]
   refine Ao (A8 Ze h11) ?_;obtain⟨h12,h⟩|⟨h12,h⟩:=ic h
   ·obtain⟨h13,h⟩:=AN h;try simp only[h9,h10,h12,E,F,G,H,I,J]
    refine Mi Y Y h13 ?_;obtain⟨x14,h14,h⟩:=ob h;have h14n:=Am h14;have hA15:([aB y7.i0,aB y7.i1,aB y7.i2,aB y7.i3,aB y7.i4,aB y7.i5,aB y7.i6,aB y7.i7]:P AC)[zB r11]?=N (aB x14):=Tt h14n;try simp only[h9,h10,h12,hA15,E,F,G,H,I,J]
    refine ZJ h_rec ih h ?_ (by kernel_rfl);try simp only[h9,h10,h12,hA15,E,F,G,H,I,J,pL,aM,zC]
   ·try simp only[h9,h10,h12,E,F,G,H,I,J]
    refine ZJ h_rec ih h ?_ (by kernel_rfl);try simp only[h9,h10,h12,E,F,G,H,I,J,pL,aM,zC]
  ·try simp only[hσ,h9,E,F,G,H,I,J]
   cases h;exact⟨trivial,[90000],by decide,by decide,Y,Y⟩
theorem kg:AG zA 143=N ((Bq zA 143 OU).strip,[],60):=by kernel_rfl
theorem xk(rec_:X4→U→U→(P U)→X5→(P (P U))→Q (P (P U)))(a0:X4)(a1 a2:U)(a3:P U)(a4:X5)(a5:P (P U))(r:(P (P U)))(h_rec:∀(a0:X4) (a1 a2:U) (a3:P U) (a4:X5) (a5:P (P U)) zr,rec_ a0 a1 a2 a3 a4 a5=N zr→FCz zA 143 [.d (.ag (X4.row a0)),.d (.sc (.int .i64 a1)),.d (.sc (.int .i64 a2)),.d (.sc (.sl (Z rI a3))),.d (.ag (X5.row a4)),.p] [.r 0] [(1,Z (rL rI) a5)] [.r 0] [(1,Z (rL rI) zr)] [])(h:NQ rec_ a0 a1 a2 a3 a4 a5=N r):FCz zA 143 [.d (.ag (X4.row a0)),.d (.sc (.int .i64 a1)),.d (.sc (.int .i64 a2)),.d (.sc (.sl (Z rI a3))),.d (.ag (X5.row a4)),.p] [.r 0] [(1,Z (rL rI) a5)] [.r 0] [(1,Z (rL rI) r)] []:=by
 unfold NQ at h;refine PU (σ:=⟨[(0,va (dm a0.row)),(1,vc (aI a1)),(2,vc (aI a2)),(3,vc (aL (Z rI a3))),(4,va [aB a4.i0,aB a4.i1,aB a4.i2,aB a4.i3,aB a4.i4,aB a4.i5,aB a4.i6,aB a4.i7]),(5,vc (.pb 99999999999 0))],[(99999999999,[.own 90000])],[(90000,1,Z (rL rI) a5)]⟩) mixed kg Y Y Y Y ?_;refine Bx OU ?_;intro S hS;refine ev hS ?_;try simp only[E,F,G,H,I,J]
 refine BZ ?_;try simp only[E,F,G,H,I,J]
 refine BZ ?_;obtain⟨h1,h⟩|⟨h1,h⟩:=ic h
 ·try simp only[h1,E,F,G,H,I,J]
  obtain⟨r2,h2,h⟩:=ob h;obtain⟨h3,h⟩:=AN h;refine EJ (ks:= [3,5]) (bs:= [99999999999]) (rs:= [90000]) (τ:=(IG a3 a5 r2)) Y (A45 rec_ h_rec a3 a5 r2 h2 h3 _ L L L L L) ?_;simp only[IG,CV,Ac];try simp only[h1,h3,E,F,G,H,I,J]
  cases h;exact⟨trivial,[90000],by decide,by decide,Y,Y⟩
 ·obtain⟨h4,h⟩:=AN h;try simp only[h1,E,F,G,H,I,J]
  refine Mi Y Y h4 ?_;have hA5:BJ [aB a4.i0,aB a4.i1,aB a4.i2,aB a4.i3,aB a4.i4,aB a4.i5,aB a4.i6,aB a4.i7] (zB a1) [aB T]= [aB ((X5.set a4 (zB a1) T)).i0,aB ((X5.set a4 (zB a1) T)).i1,aB ((X5.set a4 (zB a1) T)).i2,aB ((X5.set a4 (zB a1) T)).i3,aB ((X5.set a4 (zB a1) T)).i4,aB ((X5.set a4 (zB a1) T)).i5,aB ((X5.set a4 (zB a1) T)).i6,aB ((X5.set a4 (zB a1) T)).i7]:=X5.set_eq a4 (F4 h4);have hA5g:C3 [aB a4.i0,aB a4.i1,aB a4.i2,aB a4.i3,aB a4.i4,aB a4.i5,aB a4.i6,aB a4.i7] (zB a1+1)=T:=Qe (F4 h4);have hA5h:C3 [aB a4.i1,aB a4.i2,aB a4.i3,aB a4.i4,aB a4.i5,aB a4.i6,aB a4.i7] (zB a1)=T:=Qf (c:=aB a4.i0) (F4 h4);try simp only[h1,hA5,hA5g,hA5h,E,F,G,H,I,J]
  refine A5b h_rec h ?_ (by kernel_rfl);try simp only[h1,hA5,hA5g,hA5h,E,F,G,H,I,J,pL,aM,zC]
theorem xl:∀(n:W) (a0:X4) (a1:U) (a2:U) (a3:P U) (a4:X5) (a5:P (P U)) (r:(P (P U))),Fa n a0 a1 a2 a3 a4 a5=N r→FCz zA 143 [.d (.ag (X4.row a0)),.d (.sc (.int .i64 a1)),.d (.sc (.int .i64 a2)),.d (.sc (.sl (Z rI a3))),.d (.ag (X5.row a4)),.p] [.r 0] [(1,Z (rL rI) a5)] [.r 0] [(1,Z (rL rI) r)] []:=by
 intro n
 induction n with
 | zero=>intro _ _ _ _ _ _ r h; cases h
 | succ n ih=>intro a0 a1 a2 a3 a4 a5 r h; rw[Fa] at h; exact xk (Fa n) a0 a1 a2 a3 a4 a5 r ih h
theorem xj{a0}{a1}{a2}{a3}{a4}{a5}{r}(h:QF a0 a1 a2 a3 a4 a5=N r):FCz zA 143 [.d (.ag (X4.row a0)),.d (.sc (.int .i64 a1)),.d (.sc (.int .i64 a2)),.d (.sc (.sl (Z rI a3))),.d (.ag (X5.row a4)),.p] [.r 0] [(1,Z (rL rI) a5)] [.r 0] [(1,Z (rL rI) r)] []:=xl bigN a0 a1 a2 a3 a4 a5 r h
instance yr:Ct 100 (∀{a0} {a1} {a2} {r},Lu a0 a1 a2=N r→FC zA 100 [.ag (X4.row a0),.sc (.int .i64 a1),.sc (.int .i64 a2)] [.sc (.o 1 (Z (rL rI) r))]):=by
 refine⟨fun{a0} {a1} {a2} {r} h=> ?_⟩;unfold Lu at h;refine A2 mixed h0 [6] 34 ?_;intro S hS;refine ev hS ?_;simp only[E,F,G,H,I,J];try simp only[E,F,G,H,I,J]
 refine BZ ?_;obtain⟨r1,h1,h⟩:=ob h;try simp only[E,F,G,H,I,J]
 refine Ao (A8 xi h1) ?_;obtain⟨h2,h⟩|⟨h2,h⟩:=ic h
 ·obtain⟨r3,h3,h⟩:=ob h;try simp only[h2,E,F,G,H,I,J]
  refine Ao (A8 Nb h3) ?_;obtain⟨h4,h⟩|⟨h4,h⟩:=ic h
  ·obtain⟨r5,h5,h⟩:=ob h;try simp only[h2,h4,E,F,G,H,I,J]
   refine Ao (A8 Nb h5) ?_;obtain⟨h6,h⟩|⟨h6,h⟩:=ic h
   ·try simp only[h2,h4,h6,E,F,G,H,I,J]
    refine AS (es:=Z (rL rI) ([]:P (P U))) ?_;try simp only[h2,h4,h6,E,F,G,H,I,J]
    refine B0 ?_;try simp only[h2,h4,h6,E,F,G,H,I,J]
    refine Mj ?_;obtain⟨r7,h7,h⟩:=ob h;try simp only[h2,h4,h6,E,F,G,H,I,J]
    refine JR (xj h7) 7 [1728] rfl Y Y Y (by decide) Y Y Y ?_;try simp only[h2,h4,h6,E,F,G,H,I,J]
    cases h;exact t0
   ·try simp only[h2,h4,h6,E,F,G,H,I,J]
    cases h;exact t0
  ·try simp only[h2,h4,E,F,G,H,I,J]
   cases h;exact t0
 ·try simp only[h2,E,F,G,H,I,J]
  cases h;exact t0
def Vy:Hw:=([(16,[2,5,11,12,13],[2],[])],[])
def bg:=fun a1 (a0:X4) (k_:U→U→Q U)=>∀{v3 v4} {zr},k_ v3 v4=N zr→Kh zA 101 Vy 16 [2,5,11,12,13] [2] [] ⟨[pB 2,pI 5 v3,pL 11 rI a1,pI 12 (a1.length:U),pI 13 v4],[(2,(dm a0.row))],[]⟩ (A6 [4] [.sc (.v (.int .i64 zr))])
theorem A5c{a1 a0}{n:W}:bg a1 a0 (Ez a1 a0 n):=by
 induction n with
 | zero=>intro _ _ r h; cases h
 | succ n ih=>
  intro v3 v4 r h σ hσ;rw[Ez] at h;exact gc
instance Zc:Ct 101 (∀{a0} {a1} {r},Fj a0 a1=N r→FC zA 101 [.ag (X4.row a0),.sc (.sl (Z rI a1))] [.sc (.v (.int .i64 r))]):=by
 refine⟨fun h=> ?_⟩;unfold Fj at h;refine A2 mixed Vy [4] 33 ?_;have k0:= @A5c;exact gc
def Vz:Hw:=([(18,[3,9,22,23,24],[3],[960])],[])
def aN:=fun r1 (a0:X4) (k_:(P U)→U→Q ((P U) × V))=>∀{v4 v5} {zr},k_ v4 v5=N zr→Kh zA 67 Vz 18 [3,9,22,23,24] [3] [960] ⟨[pB 3,pL 9 rI v4,pW 22 960,pI 23 (r1.length:U),pI 24 v5],[(3,(dm a0.row))],[(960,1,Z (rL rI) r1)]⟩ (A6 [6,7] [.sc (.v (.sl (Z rI zr.1))),.sc (.v (.bool zr.2))])
theorem A5d{r1 a0}{n:W}:aN r1 a0 (G2 r1 a0 n):=by
 induction n with
 | zero=>intro _ _ r h; cases h
 | succ n ih=>
  intro v4 v5 r h σ hσ S hS;refine ev hS ?_;rw[G2] at h;refine AY (Aw ?_);obtain⟨h6,h⟩|⟨h6,h⟩:=ic h
  ·obtain⟨x7,h7,h⟩:=ob h;have h7n:=Am h7;try simp only[hσ,h6,h7,h7n,E,F,G,H,I,J]
   refine Ai ?_;obtain⟨r9,h9,h⟩:=ob h;try simp only[h6,h7,h7n,E,F,G,H,I,J]
   refine AX (A8 Zc h9) ?_;obtain⟨r10,h10,h⟩:=ob h;try simp only[h6,h7,h7n,E,F,G,H,I,J]
   refine AX (A8 Zc h10) ?_;obtain⟨h11,h⟩|⟨h11,h⟩:=ic h
   ·try simp only[h6,h7,h7n,h11,E,F,G,H,I,J]
    refine ih h ?_ (by kernel_rfl);try simp only[h6,h7,h7n,h11,E,F,G,H,I,J,pL,aM,zC]
   ·try simp only[h6,h7,h7n,h11,E,F,G,H,I,J]
    refine ih h ?_ (by kernel_rfl);try simp only[h6,h7,h7n,h11,E,F,G,H,I,J,pL,aM,zC]
  ·try simp only[hσ,h6,E,F,G,H,I,J]
   cases h;trivial
instance A6f:Ct 67 (∀{a0} {a1} {a2} {r},Ja a0 a1 a2=N r→FC zA 67 [.ag (X4.row a0),.sc (.int .i64 a1),.sc (.int .i64 a2)] [.sc (.v (.sl (Z rI r.1))),.sc (.v (.bool r.2))]):=by
 refine⟨fun{a0} {a1} {a2} {r} h=> ?_⟩;unfold Ja at h;refine A2 mixed Vz [6,7] 38 ?_;intro S hS;refine ev hS ?_;simp only[E,F,G,H,I,J];try simp only[E,F,G,H,I,J]
 refine BZ ?_;obtain⟨r1,h1,h⟩:=ob h;try simp only[E,F,G,H,I,J]
 refine Ao (A8 yr h1) ?_;obtain⟨h2,h⟩|⟨h2,h⟩:=ic h
 ·try simp only[h2,E,F,G,H,I,J]
  cases h;trivial
 ·obtain⟨x3,h3,h⟩:=ob h;have h3n:=Am h3;try simp only[h2,h3,h3n,E,F,G,H,I,J]
  refine A5d h ?_ (by kernel_rfl);try simp only[h2,h3,h3n,E,F,G,H,I,J,pL,aM,zC]
def Rk:Hw:=([(20,[1,3,8,9,22,23,24],[3,8],[1344]),(44,[1,3,8,9,22,23,24,47],[3,8],[1344])],[])
def aV:=fun r14 a2 v6 (a0:X4) (v7:X5) v8 (k_:V→Q ((P U) × V))=>∀{v19} {zr},k_ v19=N zr→Kh zA 102 Rk 44 [1,3,8,9,22,23,24,47] [3,8] [1344] ⟨[pI 1 r14,pB 3,pB 8,pW 9 1344,pL 22 rI a2,pI 23 (a2.length:U),pI 24 v6,(47,vc (aB v19))],[(3,(dm a0.row)),(8,[aB v7.i0,aB v7.i1,aB v7.i2,aB v7.i3,aB v7.i4,aB v7.i5,aB v7.i6,aB v7.i7])],[(1344,1,Z rI v8)]⟩ (A6 [6,7] [.sc (.o 1 (Z rI zr.1)),.sc (.v (.bool zr.2))])
def SX:=fun a2 (a0:X4) (k_:U→U→X5→(P U)→Q ((P U) × V))=>∀{v5 v6 v7 v8} {zr},k_ v5 v6 v7 v8=N zr→Kh zA 102 Rk 20 [1,3,8,9,22,23,24] [3,8] [1344] ⟨[pI 1 v5,pB 3,pB 8,pW 9 1344,pL 22 rI a2,pI 23 (a2.length:U),pI 24 v6],[(3,(dm a0.row)),(8,[aB v7.i0,aB v7.i1,aB v7.i2,aB v7.i3,aB v7.i4,aB v7.i5,aB v7.i6,aB v7.i7])],[(1344,1,Z rI v8)]⟩ (A6 [6,7] [.sc (.o 1 (Z rI zr.1)),.sc (.v (.bool zr.2))])
theorem ZK{r14 a2 v6 a0 v7 v8}{Pa}(pM:SX a2 a0 Pa):aV r14 a2 v6 a0 v7 v8 (Hf r14 a2 v6 a0 v7 v8 Pa):=by
 intro v19 r h σ hσ S hS;refine ev hS ?_;refine Aw ?_;unfold Hf at h;obtain⟨h20,h⟩|⟨h20,h⟩:=ic h
 ·try simp only[hσ,h20,E,F,G,H,I,J]
  cases h;trivial
 ·obtain⟨h21,h⟩:=AN h;try simp only[hσ,h20,E,F,G,H,I,J]
  refine Mi Y Y h21 ?_;have hA22:BJ [aB v7.i0,aB v7.i1,aB v7.i2,aB v7.i3,aB v7.i4,aB v7.i5,aB v7.i6,aB v7.i7] (zB r14) [aB T]= [aB ((X5.set v7 (zB r14) T)).i0,aB ((X5.set v7 (zB r14) T)).i1,aB ((X5.set v7 (zB r14) T)).i2,aB ((X5.set v7 (zB r14) T)).i3,aB ((X5.set v7 (zB r14) T)).i4,aB ((X5.set v7 (zB r14) T)).i5,aB ((X5.set v7 (zB r14) T)).i6,aB ((X5.set v7 (zB r14) T)).i7]:=X5.set_eq v7 (F4 h21);have hA22g:C3 [aB v7.i0,aB v7.i1,aB v7.i2,aB v7.i3,aB v7.i4,aB v7.i5,aB v7.i6,aB v7.i7] (zB r14+1)=T:=Qe (F4 h21);have hA22h:C3 [aB v7.i1,aB v7.i2,aB v7.i3,aB v7.i4,aB v7.i5,aB v7.i6,aB v7.i7] (zB r14)=T:=Qf (c:=aB v7.i0) (F4 h21);try simp only[h20,hA22,hA22g,hA22h,E,F,G,H,I,J]
  refine AS (es:=Z rI ([r14]:P U)) ?_;obtain⟨h23,h⟩:=AN h;try simp only[h20,hA22,hA22g,hA22h,h23,E,F,G,H,I,J]
  refine pM h ?_ (by kernel_rfl);try simp only[h20,hA22,hA22g,hA22h,h23,E,F,G,H,I,J,pL,aM,zC]
theorem A5e{a2 a0}{n:W}:SX a2 a0 (G3 a2 a0 n):=by
 induction n with
 | zero=>intro _ _ _ _ r h; cases h
 | succ n ih=>
  intro v5 v6 v7 v8 r h σ hσ S hS;refine ev hS ?_;rw[G3] at h;refine AY (Aw ?_);obtain⟨h9,h⟩|⟨h9,h⟩:=ic h
  ·obtain⟨x10,h10,h⟩:=ob h;obtain⟨r11,h11,h⟩:=ob h;try simp only[hσ,h9,h10,E,F,G,H,I,J]
   refine Ao (A8 Nb h11) ?_;obtain⟨h12,h⟩|⟨h12,h⟩:=ic h
   ·obtain⟨x13,h13,h⟩:=ob h;obtain⟨r14,h14,h⟩:=ob h;try simp only[h9,h10,h12,h13,E,F,G,H,I,J]
    refine Ao (A8 Ze h14) ?_;obtain⟨h15,h⟩|⟨h15,h⟩:=ic h
    ·try simp only[h9,h10,h12,h13,h15,E,F,G,H,I,J]
     refine ZK ih h ?_ (by kernel_rfl);try simp only[h9,h10,h12,h13,h15,E,F,G,H,I,J,pL,aM,zC]
    ·obtain⟨h16,h⟩:=AN h;try simp only[h9,h10,h12,h13,h15,E,F,G,H,I,J]
     refine Mi Y Y h16 ?_;obtain⟨x17,h17,h⟩:=ob h;have h17n:=Am h17;have hA18:([aB v7.i0,aB v7.i1,aB v7.i2,aB v7.i3,aB v7.i4,aB v7.i5,aB v7.i6,aB v7.i7]:P AC)[zB r14]?=N (aB x17):=Tt h17n;try simp only[h9,h10,h12,h13,h15,hA18,E,F,G,H,I,J]
     refine ZK ih h ?_ (by kernel_rfl);try simp only[h9,h10,h12,h13,h15,hA18,E,F,G,H,I,J,pL,aM,zC]
   ·try simp only[h9,h10,h12,E,F,G,H,I,J]
    cases h;trivial
  ·try simp only[hσ,h9,E,F,G,H,I,J]
   cases h;trivial
instance A6k:Ct 102 (∀{a0} {a1} {a2} {r},He a0 a1 a2=N r→FC zA 102 [.ag (X4.row a0),.sc (.int .i64 a1),.sc (.sl (Z rI a2))] [.sc (.o 1 (Z rI r.1)),.sc (.v (.bool r.2))]):=by
 refine⟨fun{a0} {a1} {a2} {r} h=> ?_⟩;unfold He at h;refine A2 mixed Rk [6,7] 56 ?_;intro S hS;refine ev hS ?_;simp only[E,F,G,H,I,J];try simp only[E,F,G,H,I,J]
 refine BZ ?_;obtain⟨r1,h1,h⟩:=ob h;try simp only[E,F,G,H,I,J]
 refine Ao (A8 Nb h1) ?_;obtain⟨h2,h⟩|⟨h2,h⟩:=ic h
 ·try simp only[h2,E,F,G,H,I,J]
  refine B0 ?_;obtain⟨h3,h⟩:=AN h;try simp only[h2,E,F,G,H,I,J]
  refine Mi Y Y h3 ?_;have hA4:BJ [aB L,aB L,aB L,aB L,aB L,aB L,aB L,aB L] (zB a1) [aB T]= [aB ((X5.set (⟨L,L,L,L,L,L,L,L⟩:X5) (zB a1) T)).i0,aB ((X5.set (⟨L,L,L,L,L,L,L,L⟩:X5) (zB a1) T)).i1,aB ((X5.set (⟨L,L,L,L,L,L,L,L⟩:X5) (zB a1) T)).i2,aB ((X5.set (⟨L,L,L,L,L,L,L,L⟩:X5) (zB a1) T)).i3,aB ((X5.set (⟨L,L,L,L,L,L,L,L⟩:X5) (zB a1) T)).i4,aB ((X5.set (⟨L,L,L,L,L,L,L,L⟩:X5) (zB a1) T)).i5,aB ((X5.set (⟨L,L,L,L,L,L,L,L⟩:X5) (zB a1) T)).i6,aB ((X5.set (⟨L,L,L,L,L,L,L,L⟩:X5) (zB a1) T)).i7]:=X5.set_eq (⟨L,L,L,L,L,L,L,L⟩:X5) (F4 h3);have hA4g:C3 [aB L,aB L,aB L,aB L,aB L,aB L,aB L,aB L] (zB a1+1)=T:=Qe (F4 h3);have hA4h:C3 [aB L,aB L,aB L,aB L,aB L,aB L,aB L] (zB a1)=T:=Qf (c:=aB L) (F4 h3);try simp only[h2,hA4,hA4g,hA4h,E,F,G,H,I,J]
  refine AS (es:=Z rI ([a1]:P U)) ?_;try simp only[h2,hA4,hA4g,hA4h,E,F,G,H,I,J]
  refine A5e h ?_ (by kernel_rfl);try simp only[h2,hA4,hA4g,hA4h,E,F,G,H,I,J,pL,aM,zC]
 ·try simp only[h2,E,F,G,H,I,J]
  cases h;trivial
instance Zd:Ct 68 (∀{a0} {a1} {a2} {r},E4 a0 a1 a2=N r→FC zA 68 [.ag (X4.row a0),.sc (.int .i64 a1),.sc (.sl (Z rI a2))] [.sc (.o 1 (Z rI r))]):=by
 refine⟨fun h=> ?_⟩;unfold E4 at h;refine A2 mixed h0 [6] 20 ?_;exact gc
instance A7e:Ct 211 (∀{a0} {a1} {a2} {r},HG a0 a1 a2=N r→FC zA 211 [.ag (X4.row a0),.sc (.int .i64 a1),.sc (.sl (Z rI a2))] [.sc (.v (.bool r))]):=by
 refine⟨fun h=> ?_⟩;unfold HG at h;refine A2 mixed h0 [6] 20 ?_;exact gc
instance Zg:Ct 179 (∀{a0} {a1} {r},Fl a0 a1=N r→FC zA 179 [.ag (X8.row a0),.ag (X7.row a1)] [.sc (.v (.int .i64 r))]):=by
 refine⟨fun h=> ?_⟩;unfold Fl at h;refine A2 mixed h0 [4] 12 ?_;exact gc
end Go.Vi
