/-
Walks. No condition.
-/
import Derived.Test.YtfoohbeloilepaaGreatDNf
import Derived.Test.YtfoohbeloilepaaGreatChecked
import Derived.Test.YtfoohbeloilepaaGreatDVi41
import Derived.KernelRfl
namespace Go.Vi
open Go.Proofs
set_option linter.all false
set_option maxRecDepth 4000
set_option maxHeartbeats 2000000
open Nat renaming reduceBEq → C, reduceMul → E, reduceAdd → F, reduceDiv → G, le_of_ble_eq_true → uf
open Int renaming reduceBEq → H
attribute [local irreducible] go Bb Hj
open List renaming map → Y, cons_append → I, nil_append → zA, all_cons → zB, all_nil → zC, map_nil → zG
open Tryz renaming prog → Z
open Xd renaming row → zD
open Xa renaming row → zE
open Xb renaming row → zF
open Bool renaming true → T, false → L
open Option renaming some → N, none → O
open _root_ renaming List → P, Option → Q, Int → U, Bool → V, Nat → W, rfl → X
theorem A4:Tryz.prog.follows .mixedOrders=T:=by kernel_rfl
instance B6g:Ct 107 (∀{a0} {a1} {r},NA a0 a1=N r→FC Z 107 [.sc (.sl (Y zD a0)),.sc (.int .i64 a1)] [.sc (.v (.int .i64 r))]):=by
 refine⟨fun h=> ?_⟩;unfold NA at h;refine A5 A4 h0 [4] 12 ?_;exact gc
instance B6n:Ct 64 (∀{a0} {a1} {r},QD a0 a1=N r→FC Z 64 [.ag (Xm.row a0),.sc (.int .i64 a1)] [.sc (.v (.int .i64 r))]):=by
 refine⟨fun h=> ?_⟩;unfold QD at h;refine A5 A4 h0 [4] 12 ?_;exact gc
instance B6m:Ct 65 (∀{a0} {a1} {r},NG a0 a1=N r→FC Z 65 [.sc (.sl (Y zE a0)),.sc (.int .i64 a1)] [.sc (.v (.int .i64 r))]):=by
 refine⟨fun h=> ?_⟩;unfold NG at h;refine A5 A4 h0 [4] 12 ?_;exact gc
instance B6e:Ct 24 (∀{a0} {a1} {r},Nx a0 a1=N r→FC Z 24 [.ag (Xe.row a0),.sc (.int .i64 a1)] [.sc (.v (.int .i64 r))]):=by
 refine⟨fun h=> ?_⟩;unfold Nx at h;refine A5 A4 h0 [4] 18 ?_;exact gc
instance B6h:Ct 108 (∀{a0} {a1} {r},NB a0 a1=N r→FC Z 108 [.ag (X7.row a0),.sc (.int .i64 a1)] [.sc (.v (.int .i64 r))]):=by
 refine⟨fun h=> ?_⟩;unfold NB at h;refine A5 A4 h0 [4] 13 ?_;exact gc
def XT:Hw:=([(16,[0,1,5],[],[])],[])
def gS:=fun a0 (k_:U→U→Q U)=>∀{v2 v3} {zr},k_ v2 v3=N zr→Kh Z 66 XT 16 [0,1,5] [] [] ⟨[pL 0 X7.row a0,pI 1 v2,pI 5 v3],[],[]⟩ (A8 [4] [.sc (.v (.int .i64 zr))])
theorem ww1{a0}{n:W}:gS a0 (GD a0 n):=by
 induction n with
 | zero=>intro _ _ r h; cases h
 | succ n ih=>
  intro v2 v3 r h σ hσ;rw[GD] at h;exact gc
instance B6i:Ct 66 (∀{a0} {a1} {r},NC a0 a1=N r→FC Z 66 [.sc (.sl (Y X7.row a0)),.sc (.int .i64 a1)] [.sc (.v (.int .i64 r))]):=by
 refine⟨fun h=> ?_⟩;unfold NC at h;refine A5 A4 XT [4] 27 ?_;have k0:= @ww1;exact gc
instance B6j:Ct 67 (∀{a0} {a1} {r},ND a0 a1=N r→FC Z 67 [.sc (.sl (Y X2.row a0)),.sc (.int .i64 a1)] [.sc (.v (.int .i64 r))]):=by
 refine⟨fun h=> ?_⟩;unfold ND at h;refine A5 A4 h0 [4] 12 ?_;exact gc
instance B6c:Ct 25 (∀{a0} {a1} {r},Nv a0 a1=N r→FC Z 25 [.ag (X1.row a0),.sc (.int .i64 a1)] [.sc (.v (.int .i64 r))]):=by
 refine⟨fun h=> ?_⟩;unfold Nv at h;refine A5 A4 h0 [4] 18 ?_;exact gc
instance B6k:Ct 68 (∀{a0} {a1} {r},NE a0 a1=N r→FC Z 68 [.ag (X4.row a0),.sc (.int .i64 a1)] [.sc (.v (.int .i64 r))]):=by
 refine⟨fun h=> ?_⟩;unfold NE at h;refine A5 A4 h0 [4] 13 ?_;exact gc
def H9:Hw:=([(16,[0,1,5],[],[])],[])
def gT:=fun a0 (k_:U→U→Q U)=>∀{v2 v3} {zr},k_ v2 v3=N zr→Kh Z 26 H9 16 [0,1,5] [] [] ⟨[pL 0 X4.row a0,pI 1 v2,pI 5 v3],[],[]⟩ (A8 [4] [.sc (.v (.int .i64 zr))])
theorem ww3{a0}{n:W}:gT a0 (GE a0 n):=by
 induction n with
 | zero=>intro _ _ r h; cases h
 | succ n ih=>
  intro v2 v3 r h σ hσ;rw[GE] at h;exact gc
instance B6l:Ct 26 (∀{a0} {a1} {r},NF a0 a1=N r→FC Z 26 [.sc (.sl (Y X4.row a0)),.sc (.int .i64 a1)] [.sc (.v (.int .i64 r))]):=by
 refine⟨fun h=> ?_⟩;unfold NF at h;refine A5 A4 H9 [4] 27 ?_;have k0:= @ww3;exact gc
instance B6f:Ct 69 (∀{a0} {a1} {r},Nz a0 a1=N r→FC Z 69 [.sc (.sl (Y rI a0)),.sc (.int .i64 a1)] [.sc (.v (.int .i64 r))]):=by
 refine⟨fun h=> ?_⟩;unfold Nz at h;refine A5 A4 h0 [4] 12 ?_;exact gc
instance B6d:Ct 27 (∀{a0} {a1} {r},QC a0 a1=N r→FC Z 27 [.ag (Xn.row a0),.sc (.int .i64 a1)] [.sc (.v (.int .i64 r))]):=by
 refine⟨fun h=> ?_⟩;unfold QC at h;refine A5 A4 h0 [4] 12 ?_;exact gc
instance A5b:Ct 5 (∀{a0} {a1} {r},Ny a0 a1=N r→FC Z 5 [.ag (X5.row a0),.sc (.int .i64 a1)] [.sc (.v (.int .i64 r))]):=by
 refine⟨fun h=> ?_⟩;unfold Ny at h;refine A5 A4 h0 [4] 30 ?_;exact gc
instance A49:Ct 6 (∀{a0} {a1} {r},Nu a0 a1=N r→FC Z 6 [.sc (.sl (Y zF a0)),.sc (.int .i64 a1)] [.sc (.v (.int .i64 r))]):=by
 refine⟨fun h=> ?_⟩;unfold Nu at h;refine A5 A4 h0 [4] 12 ?_;exact gc
instance A5a:Ct 13 (∀{a0} {a1} {r},Nw a0 a1=N r→FC Z 13 [.sc (.sl (Y X9.row a0)),.sc (.int .i64 a1)] [.sc (.v (.int .i64 r))]):=by
 refine⟨fun h=> ?_⟩;unfold Nw at h;refine A5 A4 h0 [4] 12 ?_;exact gc
instance B6u:Ct 156 (∀{a0} {r},QH a0=N r→FC Z 156 [.ag (zD a0)] [.ag [.v (.int .i64 r.Amp),.v (.int .i64 r.Period),.v (.int .i64 r.Phase)]]):=by
 refine⟨fun h=> ?_⟩;unfold QH at h;refine A5 A4 h0 [.c 2 T 3] 14 ?_;exact gc
def YX:Hw:=([(8,[0,3,4],[],[448])],[])
def gX:=fun a0 (k_:U→(P Xd)→Q (P Xd))=>∀{v2 v3} {zr},k_ v2 v3=N zr→Kh Z 114 YX 8 [0,3,4] [] [448] ⟨[pL 0 zD a0,pW 3 448,pI 4 v2],[],[(448,3,Y zD v3)]⟩ (A8 [2] [.sc (.o 3 (Y zD zr))])
theorem ww5{a0}{n:W}:gX a0 (II a0 n):=by
 induction n with
 | zero=>intro _ _ r h; cases h
 | succ n ih=>
  intro v2 v3 r h σ hσ;rw[II] at h;have s0:=fun(r6:Xd)=> @Eo _ zD r6
  exact gc
instance B6v:Ct 114 (∀{a0} {r},NK a0=N r→FC Z 114 [.sc (.sl (Y zD a0))] [.sc (.o 3 (Y zD r))]):=by
 refine⟨fun h=> ?_⟩;unfold NK at h;refine A5 A4 YX [2] 23 ?_;have s0:= @Ej _ zD (⟨(0:U),(0:U),(0:U)⟩:Xd);have k0:= @ww5;exact gc
instance B65:Ct 73 (∀{a0} {r},QN a0=N r→FC Z 73 [.ag (Xm.row a0)] [.ag [.v (.int .i64 r.Mean),.o 3 (Y zD r.Parts)]]):=by
 refine⟨fun h=> ?_⟩;unfold QN at h;refine A5 A4 h0 [.c 2 T 2] 12 ?_;exact gc
instance B63:Ct 115 (∀{a0} {r},QM a0=N r→FC Z 115 [.ag (zE a0)] [.ag [.v (.int .i64 r.From),.v (.int .i64 r.Low),.v (.int .i64 r.High)]]):=by
 refine⟨fun h=> ?_⟩;unfold QM at h;refine A5 A4 h0 [.c 2 T 3] 14 ?_;exact gc
def Z9:Hw:=([(8,[0,3,4],[],[448])],[])
def gb:=fun a0 (k_:U→(P Xa)→Q (P Xa))=>∀{v2 v3} {zr},k_ v2 v3=N zr→Kh Z 74 Z9 8 [0,3,4] [] [448] ⟨[pL 0 zE a0,pW 3 448,pI 4 v2],[],[(448,3,Y zE v3)]⟩ (A8 [2] [.sc (.o 3 (Y zE zr))])
theorem ww7{a0}{n:W}:gb a0 (IM a0 n):=by
 induction n with
 | zero=>intro _ _ r h; cases h
 | succ n ih=>
  intro v2 v3 r h σ hσ;rw[IM] at h;have s0:=fun(r6:Xa)=> @Eo _ zE r6
  exact gc
instance B64:Ct 74 (∀{a0} {r},NO a0=N r→FC Z 74 [.sc (.sl (Y zE a0))] [.sc (.o 3 (Y zE r))]):=by
 refine⟨fun h=> ?_⟩;unfold NO at h;refine A5 A4 Z9 [2] 23 ?_;have s0:= @Ej _ zE (⟨(0:U),(0:U),(0:U)⟩:Xa);have k0:= @ww7;exact gc
instance B6s:Ct 31 (∀{a0} {r},NI a0=N r→FC Z 31 [.ag (Xe.row a0)] [.ag [.v (.int .i64 r.Tide.Mean),.o 3 (Y zD r.Tide.Parts),.o 3 (Y zE r.Surges)]]):=by
 refine⟨fun h=> ?_⟩;unfold NI at h;refine A5 A4 h0 [.c 2 T 3] 13 ?_;exact gc
instance B6w:Ct 116 (∀{a0} {r},QI a0=N r→FC Z 116 [.ag (X7.row a0)] [.ag [.v (.str r.Name),.v (.bool r.Wait)]]):=by
 refine⟨fun h=> ?_⟩;unfold QI at h;refine A5 A4 h0 [.c 2 T 2] 11 ?_;exact gc
def Za:Hw:=([(8,[0,3,4],[],[448])],[])
def gY:=fun a0 (k_:U→(P X7)→Q (P X7))=>∀{v2 v3} {zr},k_ v2 v3=N zr→Kh Z 75 Za 8 [0,3,4] [] [448] ⟨[pL 0 X7.row a0,pW 3 448,pI 4 v2],[],[(448,2,Y X7.row v3)]⟩ (A8 [2] [.sc (.o 2 (Y X7.row zr))])
theorem ww9{a0}{n:W}:gY a0 (IJ a0 n):=by
 induction n with
 | zero=>intro _ _ r h; cases h
 | succ n ih=>
  intro v2 v3 r h σ hσ;rw[IJ] at h;have s0:=fun(r6:X7)=> @Eo _ X7.row r6
  exact gc
instance B6x:Ct 75 (∀{a0} {r},NL a0=N r→FC Z 75 [.sc (.sl (Y X7.row a0))] [.sc (.o 2 (Y X7.row r))]):=by
 refine⟨fun h=> ?_⟩;unfold NL at h;refine A5 A4 Za [2] 23 ?_;have s0:= @Ej _ X7.row (⟨([]:P UInt8),L⟩:X7);have k0:= @ww9;exact gc
instance B6z:Ct 117 (∀{a0} {r},QK a0=N r→FC Z 117 [.ag (X2.row a0)] [.ag [.v (.int .i64 r.A),.v (.int .i64 r.B),.v (.int .i64 r.Depth),.v (.int .i64 r.Minutes),.v (.bool r.Meet)]]):=by
 refine⟨fun h=> ?_⟩;unfold QK at h;refine A5 A4 h0 [.c 2 T 5] 20 ?_;exact gc
def XU:Hw:=([(8,[0,3,4],[],[448])],[])
def gZ:=fun a0 (k_:U→(P X2)→Q (P X2))=>∀{v2 v3} {zr},k_ v2 v3=N zr→Kh Z 76 XU 8 [0,3,4] [] [448] ⟨[pL 0 X2.row a0,pW 3 448,pI 4 v2],[],[(448,5,Y X2.row v3)]⟩ (A8 [2] [.sc (.o 5 (Y X2.row zr))])
theorem A6p{a0}{n:W}:gZ a0 (IK a0 n):=by
 induction n with
 | zero=>intro _ _ r h; cases h
 | succ n ih=>
  intro v2 v3 r h σ hσ;rw[IK] at h;have s0:=fun(r6:X2)=> @Eo _ X2.row r6
  exact gc
instance B60:Ct 76 (∀{a0} {r},NM a0=N r→FC Z 76 [.sc (.sl (Y X2.row a0))] [.sc (.o 5 (Y X2.row r))]):=by
 refine⟨fun h=> ?_⟩;unfold NM at h;refine A5 A4 XU [2] 23 ?_;have s0:= @Ej _ X2.row (⟨(0:U),(0:U),(0:U),(0:U),L⟩:X2);have k0:= @A6p;exact gc
instance B6p:Ct 32 (∀{a0} {r},NH a0=N r→FC Z 32 [.ag (X1.row a0)] [.ag [.o 2 (Y X7.row r.Points),.o 5 (Y X2.row r.Segments)]]):=by
 refine⟨fun h=> ?_⟩;unfold NH at h;refine A5 A4 h0 [.c 2 T 2] 13 ?_;exact gc
instance B61:Ct 77 (∀{a0} {r},QL a0=N r→FC Z 77 [.ag (X4.row a0)] [.ag [.v (.str r.Name),.v (.int .i64 r.Length),.v (.int .i64 r.Draught),.v (.int .i64 r.Line),.v (.int .i64 r.Tugs),.v (.bool r.Slow)]]):=by
 refine⟨fun h=> ?_⟩;unfold QL at h;refine A5 A4 h0 [.c 2 T 6] 23 ?_;exact gc
def Y2:Hw:=([(8,[0,3,4],[],[448])],[])
def ga:=fun a0 (k_:U→(P X4)→Q (P X4))=>∀{v2 v3} {zr},k_ v2 v3=N zr→Kh Z 33 Y2 8 [0,3,4] [] [448] ⟨[pL 0 X4.row a0,pW 3 448,pI 4 v2],[],[(448,6,Y X4.row v3)]⟩ (A8 [2] [.sc (.o 6 (Y X4.row zr))])
theorem A60{a0}{n:W}:ga a0 (IL a0 n):=by
 induction n with
 | zero=>intro _ _ r h; cases h
 | succ n ih=>
  intro v2 v3 r h σ hσ;rw[IL] at h;have s0:=fun(r6:X4)=> @Eo _ X4.row r6
  exact gc
instance B62:Ct 33 (∀{a0} {r},NN a0=N r→FC Z 33 [.sc (.sl (Y X4.row a0))] [.sc (.o 6 (Y X4.row r))]):=by
 refine⟨fun h=> ?_⟩;unfold NN at h;refine A5 A4 Y2 [2] 23 ?_;have s0:= @Ej _ X4.row (⟨([]:P UInt8),(0:U),(0:U),(0:U),(0:U),L⟩:X4);have k0:= @A60;exact gc
instance B6y:Ct 34 (∀{a0} {r},QJ a0=N r→FC Z 34 [.ag (Xi.row a0)] [.ag [.v (.int .i64 r.Gap),.v (.bool r.NoMeet)]]):=by
 refine⟨fun h=> ?_⟩;unfold QJ at h;refine A5 A4 h0 [.c 2 T 2] 11 ?_;exact gc
def Y9:Hw:=([(8,[0,3,4],[],[448])],[])
def gW:=fun a0 (k_:U→(P U)→Q (P U))=>∀{v2 v3} {zr},k_ v2 v3=N zr→Kh Z 78 Y9 8 [0,3,4] [] [448] ⟨[pL 0 rI a0,pW 3 448,pI 4 v2],[],[(448,1,Y rI v3)]⟩ (A8 [2] [.sc (.o 1 (Y rI zr))])
theorem A7c{a0}{n:W}:gW a0 (IH a0 n):=by
 induction n with
 | zero=>intro _ _ r h; cases h
 | succ n ih=>
  intro v2 v3 r h σ hσ;rw[IH] at h;have s0:=fun(x5:U)=> @Eo _ rI x5
  exact gc
instance B6t:Ct 78 (∀{a0} {r},NJ a0=N r→FC Z 78 [.sc (.sl (Y rI a0))] [.sc (.o 1 (Y rI r))]):=by
 refine⟨fun h=> ?_⟩;unfold NJ at h;refine A5 A4 Y9 [2] 22 ?_;have s0:= @Ej _ rI (0:U);have k0:= @A7c;exact gc
instance B6r:Ct 35 (∀{a0} {r},QG a0=N r→FC Z 35 [.ag (Xn.row a0)] [.ag [.v (.int .i64 r.Tugs),.v (.int .i64 r.Pilots),.v (.int .i64 r.Rest),.o 1 (Y rI r.Moves)]]):=by
 refine⟨fun h=> ?_⟩;unfold QG at h;refine A5 A4 h0 [.c 2 T 4] 18 ?_;exact gc
instance SD:Ct 8 (∀{a0} {r},GH a0=N r→FC Z 8 [.ag (X5.row a0)] [.ag [.v (.int .i64 r.Forecast.Tide.Mean),.o 3 (Y zD r.Forecast.Tide.Parts),.o 3 (Y zE r.Forecast.Surges),.o 2 (Y X7.row r.Chart.Points),.o 5 (Y X2.row r.Chart.Segments),.o 6 (Y X4.row r.Fleet),.v (.int .i64 r.Regime.Gap),.v (.bool r.Regime.NoMeet),.v (.int .i64 r.Crew.Tugs),.v (.int .i64 r.Crew.Pilots),.v (.int .i64 r.Crew.Rest),.o 1 (Y rI r.Crew.Moves)]]):=by
 refine⟨fun h=> ?_⟩;unfold GH at h;refine A5 A4 h0 [.c 2 T 12] 25 ?_;exact gc
instance B6o:Ct 36 (∀{a0} {r},QE a0=N r→FC Z 36 [.ag (zF a0)] [.ag [.v (.int .i64 r.Ship),.v (.int .i64 r.From),.v (.int .i64 r.To),.v (.int .i64 r.Ready),.v (.int .i64 r.Due)]]):=by
 refine⟨fun h=> ?_⟩;unfold QE at h;refine A5 A4 h0 [.c 2 T 5] 20 ?_;exact gc
def Yd:Hw:=([(8,[0,3,4],[],[448])],[])
def gU:=fun a0 (k_:U→(P Xb)→Q (P Xb))=>∀{v2 v3} {zr},k_ v2 v3=N zr→Kh Z 9 Yd 8 [0,3,4] [] [448] ⟨[pL 0 zF a0,pW 3 448,pI 4 v2],[],[(448,5,Y zF v3)]⟩ (A8 [2] [.sc (.o 5 (Y zF zr))])
theorem A7q{a0}{n:W}:gU a0 (IF a0 n):=by
 induction n with
 | zero=>intro _ _ r h; cases h
 | succ n ih=>
  intro v2 v3 r h σ hσ;rw[IF] at h;have s0:=fun(r6:Xb)=> @Eo _ zF r6
  exact gc
instance SB:Ct 9 (∀{a0} {r},GF a0=N r→FC Z 9 [.sc (.sl (Y zF a0))] [.sc (.o 5 (Y zF r))]):=by
 refine⟨fun h=> ?_⟩;unfold GF at h;refine A5 A4 Yd [2] 23 ?_;have s0:= @Ej _ zF (⟨(0:U),(0:U),(0:U),(0:U),(0:U)⟩:Xb);have k0:= @A7q;exact gc
instance B6q:Ct 52 (∀{a0} {r},QF a0=N r→FC Z 52 [.ag (X9.row a0)] [.ag [.v (.int .i64 r.Segment),.v (.int .i64 r.From),.v (.int .i64 r.To)]]):=by
 refine⟨fun h=> ?_⟩;unfold QF at h;refine A5 A4 h0 [.c 2 T 3] 14 ?_;exact gc
def Yh:Hw:=([(8,[0,3,4],[],[448])],[])
def gV:=fun a0 (k_:U→(P X9)→Q (P X9))=>∀{v2 v3} {zr},k_ v2 v3=N zr→Kh Z 15 Yh 8 [0,3,4] [] [448] ⟨[pL 0 X9.row a0,pW 3 448,pI 4 v2],[],[(448,3,Y X9.row v3)]⟩ (A8 [2] [.sc (.o 3 (Y X9.row zr))])
theorem A73{a0}{n:W}:gV a0 (IG a0 n):=by
 induction n with
 | zero=>intro _ _ r h; cases h
 | succ n ih=>
  intro v2 v3 r h σ hσ;rw[IG] at h;have s0:=fun(r6:X9)=> @Eo _ X9.row r6
  exact gc
instance SC:Ct 15 (∀{a0} {r},GG a0=N r→FC Z 15 [.sc (.sl (Y X9.row a0))] [.sc (.o 3 (Y X9.row r))]):=by
 refine⟨fun h=> ?_⟩;unfold GG at h;refine A5 A4 Yh [2] 23 ?_;have s0:= @Ej _ X9.row (⟨(0:U),(0:U),(0:U)⟩:X9);have k0:= @A73;exact gc
instance SE:Ct 90 (∀{a0} {a1} {a2} {r},Aw a0 a1 a2=N r→FC Z 90 [.sc (.int .i64 a0),.sc (.int .i64 a1),.sc (.int .i64 a2)] [.sc (.v (.bool r))]):=by
 refine⟨fun h=> ?_⟩;unfold Aw at h;refine A5 A4 h0 [6] 15 ?_;exact gc
instance B7x:Ct 185 (∀{a0} {r},O9 a0=N r→FC Z 185 [.ag (zD a0)] [.sc (.v (.bool r))]):=by
 refine⟨fun h=> ?_⟩;unfold O9 at h;refine A5 A4 h0 [2] 25 ?_;exact gc
def Yl:Hw:=([(14,[16,17,18],[],[])],[])
def iT:=fun(a0:Xm) (k_:U→Q V)=>∀{v4} {zr},k_ v4=N zr→Kh Z 151 Yl 14 [16,17,18] [] [] ⟨[pL 16 zD a0.Parts,pI 17 (a0.Parts.length:U),pI 18 v4],[],[]⟩ (A8 [2] [.sc (.v (.bool zr))])
theorem A8h{a0}{n:W}:iT a0 (Jf a0 n):=by
 induction n with
 | zero=>intro _ r h; cases h
 | succ n ih=>
  intro v4 r h σ hσ;rw[Jf] at h;exact gc
instance B8c:Ct 151 (∀{a0} {r},Oj a0=N r→FC Z 151 [.ag (Xm.row a0)] [.sc (.v (.bool r))]):=by
 refine⟨fun h=> ?_⟩;unfold Oj at h;refine A5 A4 Yl [2] 26 ?_;have k0:= @A8h;exact gc
instance B8b:Ct 152 (∀{a0} {r},Oi a0=N r→FC Z 152 [.ag (zE a0)] [.sc (.v (.bool r))]):=by
 refine⟨fun h=> ?_⟩;unfold Oi at h;refine A5 A4 h0 [2] 18 ?_;exact gc
def Yp:Hw:=([(14,[1,25,26,27],[1],[])],[])
def hP:=fun(a0:Xe) (k_:U→Q V)=>∀{v7} {zr},k_ v7=N zr→Kh Z 109 Yp 14 [1,25,26,27] [1] [] ⟨[pB 1,pL 25 zE a0.Surges,pI 26 (a0.Surges.length:U),pI 27 v7],[(1,[aI a0.Tide.Mean,aM zD a0.Tide.Parts,aM zE a0.Surges])],[]⟩ (A8 [2] [.sc (.v (.bool zr))])
theorem A8u{a0}{n:W}:hP a0 (GL a0 n):=by
 induction n with
 | zero=>intro _ r h; cases h
 | succ n ih=>
  intro v7 r h σ hσ;rw[GL] at h;exact gc
instance B7j:Ct 109 (∀{a0} {r},Lc a0=N r→FC Z 109 [.ag (Xe.row a0)] [.sc (.v (.bool r))]):=by
 refine⟨fun h=> ?_⟩;unfold Lc at h;refine A5 A4 Yp [2] 52 ?_;have k0:= @A8u;exact gc
def Rv:Hw:=([(6,[0,3],[],[]),(17,[0,3,4],[],[]),(24,[0,3],[],[])],[])
def iD:=fun a0 v1 (k_:Q V)=>∀{zr},k_=N zr→Kh Z 132 Rv 24 [0,3] [] [] ⟨[(0,vc (aS a0)),pI 3 v1],[],[]⟩ (A8 [2] [.sc (.v (.bool zr))])
def iC:=fun a0 v1 (k_:V→Q V)=>∀{v5} {zr},k_ v5=N zr→Kh Z 132 Rv 17 [0,3,4] [] [] ⟨[(0,vc (aS a0)),pI 3 v1,(4,vc (aB v5))],[],[]⟩ (A8 [2] [.sc (.v (.bool zr))])
def SM:=fun a0 (k_:U→Q V)=>∀{v1} {zr},k_ v1=N zr→Kh Z 132 Rv 6 [0,3] [] [] ⟨[(0,vc (aS a0)),pI 3 v1],[],[]⟩ (A8 [2] [.sc (.v (.bool zr))])
theorem A88{a0 v1}{EP}(Zj:SM a0 EP):iD a0 v1 (O3 a0 v1 EP):=by
 intro r h σ hσ;unfold O3 at h;have k0:= @Zj;exact gc
theorem A9h{a0 v1}{EP}(Zj:SM a0 EP):iC a0 v1 (O2 a0 v1 EP):=by
 intro v5 r h σ hσ;unfold O2 at h;have k0:= @A88;exact gc
theorem A9m{a0}{n:W}:SM a0 (GO a0 n):=by
 induction n with
 | zero=>intro _ r h; cases h
 | succ n ih=>
  intro v1 r h σ hσ;rw[GO] at h;have k0:= @A9h;exact gc
instance B7p:Ct 132 (∀{a0} {r},Lf a0=N r→FC Z 132 [.sc (.str a0)] [.sc (.v (.bool r))]):=by
 refine⟨fun h=> ?_⟩;unfold Lf at h;refine A5 A4 Rv [2] 42 ?_;have k0:= @A9m;exact gc
def YB:Hw:=([(6,[1,8,9,10],[],[])],[])
def iO:=fun a1 (a0:X1) (k_:U→Q U)=>∀{v1} {zr},k_ v1=N zr→Kh Z 133 YB 6 [1,8,9,10] [] [] ⟨[(1,vc (aS a1)),pL 8 X7.row a0.Points,pI 9 (a0.Points.length:U),pI 10 v1],[],[]⟩ (A8 [4] [.sc (.v (.int .i64 zr))])
theorem A9w{a1 a0}{n:W}:iO a1 a0 (Ja a1 a0 n):=by
 induction n with
 | zero=>intro _ r h; cases h
 | succ n ih=>
  intro v1 r h σ hσ;rw[Ja] at h;exact gc
instance B71:Ct 133 (∀{a0} {a1} {r},Oe a0 a1=N r→FC Z 133 [.ag (X1.row a0),.sc (.str a1)] [.sc (.v (.int .i64 r))]):=by
 refine⟨fun h=> ?_⟩;unfold Oe at h;refine A5 A4 YB [4] 21 ?_;have k0:= @A9w;exact gc
instance B8k:Ct 134 (∀{a0} {a1} {a2} {r},Ot a0 a1 a2=N r→FC Z 134 [.ag (X2.row a0),.sc (.int .i64 a1),.sc (.int .i64 a2)] [.sc (.v (.bool r))]):=by
 refine⟨fun h=> ?_⟩;unfold Ot at h;refine A5 A4 h0 [6] 29 ?_;exact gc
def Ry:Hw:=([(14,[1,20,21,22],[1],[]),(37,[1,41,42,43],[1],[]),(59,[1,6,41,42,43,88,89,90],[1,6],[])],[])
def gt:=fun(a0:X1) v11 (x13:X2) y24 y25 (k_:U→Q V)=>∀{v26} {zr},k_ v26=N zr→Kh Z 89 Ry 59 [1,6,41,42,43,88,89,90] [1,6] [] ⟨[pB 1,pB 6,pL 41 X2.row a0.Segments,pI 42 (a0.Segments.length:U),pI 43 v11,pL 88 X2.row y24,pI 89 y25,pI 90 v26],[(1,[aM X7.row a0.Points,aM X2.row a0.Segments]),(6,(dm x13.row))],[]⟩ (A8 [2] [.sc (.v (.bool zr))])
def VQ:=fun(a0:X1) (k_:U→Q V)=>∀{v11} {zr},k_ v11=N zr→Kh Z 89 Ry 37 [1,41,42,43] [1] [] ⟨[pB 1,pL 41 X2.row a0.Segments,pI 42 (a0.Segments.length:U),pI 43 v11],[(1,[aM X7.row a0.Points,aM X2.row a0.Segments])],[]⟩ (A8 [2] [.sc (.v (.bool zr))])
def gr:=fun(a0:X1) (k_:U→Q V)=>∀{v3} {zr},k_ v3=N zr→Kh Z 89 Ry 14 [1,20,21,22] [1] [] ⟨[pB 1,pL 20 X7.row a0.Points,pI 21 (a0.Points.length:U),pI 22 v3],[(1,[aM X7.row a0.Points,aM X2.row a0.Segments])],[]⟩ (A8 [2] [.sc (.v (.bool zr))])
theorem A98{a0 v11 x13 y24 y25}{Pa}(tM:VQ a0 Pa){n:W}:gt a0 v11 x13 y24 y25 (IV a0 v11 x13 y24 y25 Pa n):=by
 induction n with
 | zero=>intro _ r h; cases h
 | succ n ih=>
  intro v26 r h σ hσ;rw[IV] at h;have k0:= @tM;exact gc
theorem B0g{a0}{n:W}:VQ a0 (EF a0 n):=by
 induction n with
 | zero=>intro _ r h; cases h
 | succ n ih=>
  intro v11 r h σ hσ;rw[EF] at h;have k0:= @A98;exact gc
theorem B0n{a0}{n:W}:gr a0 (IU a0 n):=by
 induction n with
 | zero=>intro _ r h; cases h
 | succ n ih=>
  intro v3 r h σ hσ;rw[IU] at h;have k0:= @B0g;exact gc
instance A5l:Ct 89 (∀{a0} {r},D6 a0=N r→FC Z 89 [.ag (X1.row a0)] [.sc (.v (.bool r))]):=by
 refine⟨fun h=> ?_⟩;unfold D6 at h;refine A5 A4 Ry [2] 102 ?_;have k0:= @B0n;exact gc
instance B77:Ct 153 (∀{a0} {r},Ea a0=N r→FC Z 153 [.ag (X4.row a0)] [.sc (.v (.bool r))]):=by
 refine⟨fun h=> ?_⟩;unfold Ea at h;refine A5 A4 h0 [2] 26 ?_;exact gc
def YN:Hw:=([(6,[1,7,8,9],[],[])],[])
def iQ:=fun a1 a0 (k_:U→Q U)=>∀{v1} {zr},k_ v1=N zr→Kh Z 154 YN 6 [1,7,8,9] [] [] ⟨[(1,vc (aS a1)),pL 7 X4.row a0,pI 8 (a0.length:U),pI 9 v1],[],[]⟩ (A8 [4] [.sc (.v (.int .i64 zr))])
theorem B0x{a1 a0}{n:W}:iQ a1 a0 (Jd a1 a0 n):=by
 induction n with
 | zero=>intro _ r h; cases h
 | succ n ih=>
  intro v1 r h σ hσ;rw[Jd] at h;exact gc
instance B76:Ct 154 (∀{a0} {a1} {r},Og a0 a1=N r→FC Z 154 [.sc (.sl (Y X4.row a0)),.sc (.str a1)] [.sc (.v (.int .i64 r))]):=by
 refine⟨fun h=> ?_⟩;unfold Og at h;refine A5 A4 YN [4] 20 ?_;have k0:= @B0x;exact gc
def YQ:Hw:=([(14,[0,8,9,10],[],[])],[])
def hO:=fun a0 (k_:U→Q V)=>∀{v2} {zr},k_ v2=N zr→Kh Z 110 YQ 14 [0,8,9,10] [] [] ⟨[pL 0 X4.row a0,pL 8 X4.row a0,pI 9 (a0.length:U),pI 10 v2],[],[]⟩ (A8 [2] [.sc (.v (.bool zr))])
theorem B1d{a0}{n:W}:hO a0 (J2 a0 n):=by
 induction n with
 | zero=>intro _ r h; cases h
 | succ n ih=>
  intro v2 r h σ hσ;rw[J2] at h;exact gc
instance B7i:Ct 110 (∀{a0} {r},Lb a0=N r→FC Z 110 [.sc (.sl (Y X4.row a0))] [.sc (.v (.bool r))]):=by
 refine⟨fun h=> ?_⟩;unfold Lb at h;refine A5 A4 YQ [2] 27 ?_;have k0:= @B1d;exact gc
instance B72:Ct 111 (∀{a0} {r},Jb a0=N r→FC Z 111 [.ag (Xi.row a0)] [.sc (.v (.bool r))]):=by
 refine⟨fun h=> ?_⟩;unfold Jb at h;refine A5 A4 h0 [2] 6 ?_;exact gc
def YR:Hw:=([(14,[15,16,17],[],[])],[])
def iu:=fun a1 (k_:U→Q V)=>∀{v4} {zr},k_ v4=N zr→Kh Z 155 YR 14 [15,16,17] [] [] ⟨[pL 15 rI a1,pI 16 (a1.length:U),pI 17 v4],[],[]⟩ (A8 [4] [.sc (.v (.bool zr))])
theorem B1q{a1}{n:W}:iu a1 (H1 a1 n):=by
 induction n with
 | zero=>intro _ r h; cases h
 | succ n ih=>
  intro v4 r h σ hσ;rw[H1] at h;exact gc
instance B8u:Ct 155 (∀{a0} {a1} {r},H0 a0 a1=N r→FC Z 155 [.sc (.int .i64 a0),.sc (.sl (Y rI a1))] [.sc (.v (.bool r))]):=by
 refine⟨fun h=> ?_⟩;unfold H0 at h;refine A5 A4 YR [4] 25 ?_;have k0:= @B1q;exact gc
instance B7g:Ct 112 (∀{a0} {r},IY a0=N r→FC Z 112 [.ag (Xn.row a0)] [.sc (.v (.bool r))]):=by
 refine⟨fun h=> ?_⟩;unfold IY at h;refine A5 A4 h0 [2] 18 ?_;exact gc
instance B7l:Ct 70 (∀{a0} {r},Le a0=N r→FC Z 70 [.ag (X5.row a0)] [.sc (.v (.bool r))]):=by
 refine⟨fun h=> ?_⟩;unfold Le at h;refine A5 A4 h0 [2] 26 ?_;exact gc
instance B7a:Ct 71 (∀{a0} {a1} {r},IS a0 a1=N r→FC Z 71 [.ag (X5.row a0),.ag (zF a1)] [.sc (.v (.bool r))]):=by
 refine⟨fun h=> ?_⟩;unfold IS at h;refine A5 A4 h0 [4] 53 ?_;exact gc
def TX:Hw:=([(14,[1,2,17,18,19],[2],[]),(36,[1,2,6,17,18,19,30,31,32],[2,6],[])],[])
def gn:=fun a1 v4 (a0:X5) (x6:Xb) y10 y11 (k_:U→Q V)=>∀{v12} {zr},k_ v12=N zr→Kh Z 28 TX 36 [1,2,6,17,18,19,30,31,32] [2,6] [] ⟨[pL 1 zF a1,pB 2,pB 6,pL 17 zF a1,pI 18 (a1.length:U),pI 19 v4,pL 30 zF y10,pI 31 y11,pI 32 v12],[(2,([aI a0.Forecast.Tide.Mean,aM zD a0.Forecast.Tide.Parts,aM zE a0.Forecast.Surges,aM X7.row a0.Chart.Points,aM X2.row a0.Chart.Segments,aM X4.row a0.Fleet,aI a0.Regime.Gap,aB a0.Regime.NoMeet]++dm a0.Crew.row)),(6,(dm x6.row))],[]⟩ (A8 [4] [.sc (.v (.bool zr))])
def VP:=fun a1 (a0:X5) (k_:U→Q V)=>∀{v4} {zr},k_ v4=N zr→Kh Z 28 TX 14 [1,2,17,18,19] [2] [] ⟨[pL 1 zF a1,pB 2,pL 17 zF a1,pI 18 (a1.length:U),pI 19 v4],[(2,([aI a0.Forecast.Tide.Mean,aM zD a0.Forecast.Tide.Parts,aM zE a0.Forecast.Surges,aM X7.row a0.Chart.Points,aM X2.row a0.Chart.Segments,aM X4.row a0.Fleet,aI a0.Regime.Gap,aB a0.Regime.NoMeet]++dm a0.Crew.row))],[]⟩ (A8 [4] [.sc (.v (.bool zr))])
theorem B12{a1 v4 a0 x6 y10 y11}{P9}(tL:VP a1 a0 P9){n:W}:gn a1 v4 a0 x6 y10 y11 (L6 a1 v4 a0 x6 y10 y11 P9 n):=by
 induction n with
 | zero=>intro _ r h; cases h
 | succ n ih=>
  intro v12 r h σ hσ;rw[L6] at h;have k0:= @tL;exact gc
theorem B17{a1 a0}{n:W}:VP a1 a0 (L5 a1 a0 n):=by
 induction n with
 | zero=>intro _ r h; cases h
 | succ n ih=>
  intro v4 r h σ hσ;rw[L5] at h;have k0:= @B12;exact gc
instance B7b:Ct 28 (∀{a0} {a1} {r},L4 a0 a1=N r→FC Z 28 [.ag (X5.row a0),.sc (.sl (Y zF a1))] [.sc (.v (.bool r))]):=by
 refine⟨fun h=> ?_⟩;unfold L4 at h;refine A5 A4 TX [4] 43 ?_;have k0:= @B17;exact gc
def Z6:Hw:=([(14,[2,15,16,17],[2],[])],[])
def gx:=fun a1 (a0:X1) (k_:U→Q V)=>∀{v4} {zr},k_ v4=N zr→Kh Z 46 Z6 14 [2,15,16,17] [2] [] ⟨[pB 2,pL 15 X9.row a1,pI 16 (a1.length:U),pI 17 v4],[(2,[aM X7.row a0.Points,aM X2.row a0.Segments])],[]⟩ (A8 [4] [.sc (.v (.bool zr))])
theorem B2e{a1 a0}{n:W}:gx a1 a0 (IX a1 a0 n):=by
 induction n with
 | zero=>intro _ r h; cases h
 | succ n ih=>
  intro v4 r h σ hσ;rw[IX] at h;exact gc
instance B7e:Ct 46 (∀{a0} {a1} {r},La a0 a1=N r→FC Z 46 [.ag (X1.row a0),.sc (.sl (Y X9.row a1))] [.sc (.v (.bool r))]):=by
 refine⟨fun h=> ?_⟩;unfold La at h;refine A5 A4 Z6 [4] 48 ?_;have k0:= @B2e;exact gc
instance dI:Ct 219 (∀{a0} {a1} {r},Ou a0 a1=N r→FC Z 219 [.ag (X2.row a0),.sc (.int .i64 a1)] [.sc (.v (.int .i64 r))]):=by
 refine⟨fun h=> ?_⟩;unfold Ou at h;refine A5 A4 h0 [4] 18 ?_;exact gc
def Z8:Hw:=([(6,[1,7,8,9],[],[])],[])
def ib:=fun a1 a0 (k_:U→Q V)=>∀{v1} {zr},k_ v1=N zr→Kh Z 51 Z8 6 [1,7,8,9] [] [] ⟨[pI 1 a1,pL 7 rI a0,pI 8 (a0.length:U),pI 9 v1],[],[]⟩ (A8 [4] [.sc (.v (.bool zr))])
theorem B2i{a1 a0}{n:W}:ib a1 a0 (Jk a1 a0 n):=by
 induction n with
 | zero=>intro _ r h; cases h
 | succ n ih=>
  intro v1 r h σ hσ;rw[Jk] at h;exact gc
instance dH:Ct 51 (∀{a0} {a1} {r},Jj a0 a1=N r→FC Z 51 [.sc (.sl (Y rI a0)),.sc (.int .i64 a1)] [.sc (.v (.bool r))]):=by
 refine⟨fun h=> ?_⟩;unfold Jj at h;refine A5 A4 Z8 [4] 17 ?_;have k0:= @B2i;exact gc
def Ba:P (P W × AItem):= [([],(O,.load 49 (S 5) T 2)),([],(O,.bslice 50 1 [.int .i64 0] 0 [])),([],(O,.mv 51 (S 1))),([1,2],(O,.app 52 1 8 (S 50) (S 51))),([],(O,.mv 53 (S 14))),([4],(O,.bslice 54 1 [.int .i64 0] 1 [(0,(S 53))])),([3,5,3],(O,.app 55 1 8 (S 52) (S 54))),([],(O,.bslice 56 1 [.int .i64 0] 0 [])),([],(O,.mv 57 (S 2))),([7,8,6],(O,.app 58 1 8 (S 56) (S 57))),([],(O,.mv 59 (S 12))),([10],(O,.bslice 60 1 [.int .i64 0] 1 [(0,(S 59))])),([9,11,9],(O,.app 61 1 8 (S 58) (S 60))),([],(O,.mv 62 (S 3))),([],(O,.mv 63 (S 4))),([0,6,12,13,14,12],(O,.call 64 217 [(S 49),(S 55),(S 61),(S 62),(S 63)])),([15,15,0,1,2,3,4,5,6,7,8,9,10,11,12,13,14,15],(O,.mv 4 (S 64)))]
def RE:Hw:=([(16,[1,2,3,4,5,11,31,32,33],[5],[90000]),(31,[1,2,3,4,5,11,12,14,31,32,33,48],[5],[90000])],[(9,4,(O,.frz 1600))])
abbrev A9(a1 a2:P U)(a3 x1:U)(v5 r9:U)(a0:X1)(ws4_ wo1_:AV)(wo3_ wo6_:AV)(wo7_ wo9_:AV)(wo12_ wo14_ wu16_:AV)(c0_ c1_:V)(c2_ c3_:V)(c4_ c5_:V)(c6_ c7_:V)(c8_ c9_:V)(c10_ c11_:V)(c12_ c13_:V)(c14_ c15_:V)(bx_:P (W × P AC))(rs_:Rows):St:=⟨[(1,vc (aL (Y rI a1))),(2,vc (aL (Y rI a2))),(3,vc (aI a3)),(4,ws4_),(5,vc (.pb 5 0)),(11,vc (aI x1)),(12,vc (aI v5)),(14,vc (aI r9)),(31,vc (aL (Y X2.row a0.Segments))),(32,vc (aI (a0.Segments.length:U))),(33,vc (aI v5)),(49,bif c0_ then va [aL (Y X7.row a0.Points),aL (Y X2.row a0.Segments)] else .undef),(50,bif c1_ then wo1_ else .undef),(51,bif c2_ then vc (aL (Y rI a1)) else .undef),(52,bif c3_ then wo3_ else .undef),(53,bif c4_ then vc (aI r9) else .undef),(54,bif c5_ then vc (.own 3456) else .undef),(55,bif c6_ then wo6_ else .undef),(56,bif c7_ then wo7_ else .undef),(57,bif c8_ then vc (aL (Y rI a2)) else .undef),(58,bif c9_ then wo9_ else .undef),(59,bif c10_ then vc (aI v5) else .undef),(60,bif c11_ then vc (.own 3840) else .undef),(61,bif c12_ then wo12_ else .undef),(62,bif c13_ then vc (aI a3) else .undef),(63,bif c14_ then wo14_ else .undef),(64,bif c15_ then vc (.own 90000) else .undef),(4,wu16_)],bx_,rs_⟩
abbrev B6(a1 a2:P U)(a3 x1:U)(v5 r9:U)(a0:X1)(r18:(P (P U))):St:=(A9 a1 a2 a3 x1 v5 r9 a0 (vc (.own 90000)) (vc (.undef)) (vc (.undef)) (vc (aL (Y rI (a1++([r9]:P U))))) (vc (.undef)) (vc (.undef)) (vc (aL (Y rI (a2++([v5]:P U))))) (vc (.undef)) (vc (.own 90000)) T T T T T T T T T T T T T T T T [(5,[aL (Y X7.row a0.Points),aL (Y X2.row a0.Segments)])] [(90000,1,Y (rL rI) r18),(3456,1,Y rI ([r9]:P U)),(3840,1,Y rI ([v5]:P U))])
theorem B2j(rec_:X1→(P U)→(P U)→U→(P (P U))→Q (P (P U)))(h_rec:∀(a0:X1) (a1 a2:P U) (a3:U) (a4:P (P U)) zr,rec_ a0 a1 a2 a3 a4=N zr→FCt Z 217 [.d (.ag (X1.row a0)),.d (.sc (.sl (Y rI a1))),.d (.sc (.sl (Y rI a2))),.d (.sc (.int .i64 a3)),.r] 1 (Y (rL rI) a4) (Y (rL rI) zr))(a1 a2:P U)(a3)(x1:U)(v5)(r9)(a0)(v6)(r18)(h14:(A3 ([]:P U).length a1.length 8)=T)(h15:(A3 a1.length ([r9]:P U).length 8)=T)(h16:(A3 ([]:P U).length a2.length 8)=T)(h17:(A3 a2.length ([v5]:P U).length 8)=T)(h18:rec_ a0 (a1++([r9]:P U)) (a2++([v5]:P U)) a3 v6=N r18):∀(f:W),Ad Z Ba (B6 a1 a2 a3 x1 v5 r9 a0 r18) f [T,T,T,T,T,T,T,T,T,T,T,T,T,T,T,T,T] (A9 a1 a2 a3 x1 v5 r9 a0 (vc (.own 90000)) (vc (.undef)) (vc (.undef)) (vc (aL (Y rI (a1++([r9]:P U))))) (vc (.undef)) (vc (.undef)) (vc (aL (Y rI (a2++([v5]:P U))))) (vc (.undef)) (vc (.own 90000)) T T T T T T T T T T T T T T T T [(5,[aL (Y X7.row a0.Points),aL (Y X2.row a0.Segments)])] [(90000,1,Y (rL rI) r18),(3456,1,Y rI ([r9]:P U)),(3840,1,Y rI ([v5]:P U))]):=by
 intro f
 induction f with
 | zero=>intro h; rfl
 | succ f ih=>
  refine Ai ⟨?_,?_,?_,?_,?_,?_,?_,?_,?_,?_,?_,?_,?_,?_,?_,?_,?_,⟨⟩⟩<;>try first | (intro h; cases h; done)
theorem B2k(rec_:X1→(P U)→(P U)→U→(P (P U))→Q (P (P U)))(h_rec:∀(a0:X1) (a1 a2:P U) (a3:U) (a4:P (P U)) zr,rec_ a0 a1 a2 a3 a4=N zr→FCt Z 217 [.d (.ag (X1.row a0)),.d (.sc (.sl (Y rI a1))),.d (.sc (.sl (Y rI a2))),.d (.sc (.int .i64 a3)),.r] 1 (Y (rL rI) a4) (Y (rL rI) zr))(a1 a2:P U)(a3)(x1:U)(v5)(r9)(a0)(v6)(r18)(h14:(A3 ([]:P U).length a1.length 8)=T)(h15:(A3 a1.length ([r9]:P U).length 8)=T)(h16:(A3 ([]:P U).length a2.length 8)=T)(h17:(A3 a2.length ([v5]:P U).length 8)=T)(h18:rec_ a0 (a1++([r9]:P U)) (a2++([v5]:P U)) a3 v6=N r18):∀(f:W),Ad Z Ba (B6 a1 a2 a3 x1 v5 r9 a0 r18) f [T,T,T,T,T,T,T,T,T,T,T,T,T,T,T,T,L] (A9 a1 a2 a3 x1 v5 r9 a0 (vc (.undef)) (vc (.undef)) (vc (.undef)) (vc (aL (Y rI (a1++([r9]:P U))))) (vc (.undef)) (vc (.undef)) (vc (aL (Y rI (a2++([v5]:P U))))) (vc (.undef)) (vc (.undef)) T T T T T T T T T T T T T T T T [(5,[aL (Y X7.row a0.Points),aL (Y X2.row a0.Segments)])] [(90000,1,Y (rL rI) r18),(3456,1,Y rI ([r9]:P U)),(3840,1,Y rI ([v5]:P U))]):=by
 intro f
 induction f with
 | zero=>intro  h; simp at h
 | succ f ih=>
  refine Ai ⟨?_,?_,?_,?_,?_,?_,?_,?_,?_,?_,?_,?_,?_,?_,?_,?_,?_,⟨⟩⟩<;>try first | (intro h; cases h; done)
  ·intro h0 hw;refine⟨[],[(O,.keep [1,2,3,4,5,11,12,14,31,32,33,49,50,51,52,53,54,55,56,57,58,59,60,61,62,63,64,4] [5] [90000,3456,3840])],X,X,?_⟩;try simp only[A9,A6,A7,zA,I,A2,C,E,F,G,H,J]
   exact B2j rec_ h_rec a1 a2 a3 x1 v5 r9 a0 v6 r18 h14 h15 h16 h17 h18 _
theorem B2m(rec_:X1→(P U)→(P U)→U→(P (P U))→Q (P (P U)))(h_rec:∀(a0:X1) (a1 a2:P U) (a3:U) (a4:P (P U)) zr,rec_ a0 a1 a2 a3 a4=N zr→FCt Z 217 [.d (.ag (X1.row a0)),.d (.sc (.sl (Y rI a1))),.d (.sc (.sl (Y rI a2))),.d (.sc (.int .i64 a3)),.r] 1 (Y (rL rI) a4) (Y (rL rI) zr))(a1 a2:P U)(a3)(x1:U)(v5)(r9)(a0)(v6)(r18)(h14:(A3 ([]:P U).length a1.length 8)=T)(h15:(A3 a1.length ([r9]:P U).length 8)=T)(h16:(A3 ([]:P U).length a2.length 8)=T)(h17:(A3 a2.length ([v5]:P U).length 8)=T)(h18:rec_ a0 (a1++([r9]:P U)) (a2++([v5]:P U)) a3 v6=N r18):∀(f:W) (b0 b13 b14:V),Ad Z Ba (B6 a1 a2 a3 x1 v5 r9 a0 r18) f [b0,T,T,T,T,T,T,T,T,T,T,T,T,b13,b14,L,L] (A9 a1 a2 a3 x1 v5 r9 a0 (vc (.own 90000)) (vc (.undef)) (vc (.undef)) (vc (.own 3200)) (vc (.undef)) (vc (.undef)) (vc (.own 3584)) (vc (.own 90000)) (vc (.own 90000)) b0 T T T T T T T T T T T T b13 b14 L [(5,[aL (Y X7.row a0.Points),aL (Y X2.row a0.Segments)])] [(90000,1,Y (rL rI) v6),(3200,1,Y rI (a1++([r9]:P U))),(3456,1,Y rI ([r9]:P U)),(3584,1,Y rI (a2++([v5]:P U))),(3840,1,Y rI ([v5]:P U))]):=by
 intro f
 induction f with
 | zero=>intro b0 b13 b14 h; simp at h
 | succ f ih=>
  intro b0 b13 b14;refine Ai ⟨?_,?_,?_,?_,?_,?_,?_,?_,?_,?_,?_,?_,?_,?_,?_,?_,?_,⟨⟩⟩<;>try first | (intro h; cases h; done) | (intro _ hw; simp at hw; done) | (intro h0 hw; obtain rfl:=hz h0 rfl; refine np ?_; simp only[A9,A6,A7,A2,C,E,F,G,H,J]; exact ih _ _ _)
  ·intro h0 hw;obtain rfl:=hq hw 0 rfl rfl;obtain rfl:=hq hw 13 rfl rfl;obtain rfl:=hq hw 14 rfl rfl;refine⟨[(O,.frz 3200),(O,.frz 3584)],[(O,.ren 4096 90000),(O,.keep [1,2,3,4,5,11,12,14,31,32,33,49,50,51,52,53,54,55,56,57,58,59,60,61,62,63,64,4] [5] [90000,3456,3840])],X,X,?_⟩;try simp only[A9,A6,A7,zA,I,A2,C,E,F,G,H,J]
   refine Cj ?_;try simp only[A2,C,E,F,G,H,J]
   refine Cj ?_;try simp only[A2,C,E,F,G,H,J]
   refine Ty (h_rec _ _ _ _ _ _ h18) 90000 X X (by simp only[St.fresh,zB,zC,Ak]; simp[AV.cells,V1.cells,AC.uses]) X X ?_;rw[T5];try simp only[A2,C,E,F,G,H,J]
   refine sU X X ?_;try simp only[A2,C,E,F,G,H,J]
   exact B2k rec_ h_rec a1 a2 a3 x1 v5 r9 a0 v6 r18 h14 h15 h16 h17 h18 _
theorem dp(rec_:X1→(P U)→(P U)→U→(P (P U))→Q (P (P U)))(h_rec:∀(a0:X1) (a1 a2:P U) (a3:U) (a4:P (P U)) zr,rec_ a0 a1 a2 a3 a4=N zr→FCt Z 217 [.d (.ag (X1.row a0)),.d (.sc (.sl (Y rI a1))),.d (.sc (.sl (Y rI a2))),.d (.sc (.int .i64 a3)),.r] 1 (Y (rL rI) a4) (Y (rL rI) zr))(a1 a2:P U)(a3)(x1:U)(v5)(r9)(a0)(v6)(r18)(h14:(A3 ([]:P U).length a1.length 8)=T)(h15:(A3 a1.length ([r9]:P U).length 8)=T)(h16:(A3 ([]:P U).length a2.length 8)=T)(h17:(A3 a2.length ([v5]:P U).length 8)=T)(h18:rec_ a0 (a1++([r9]:P U)) (a2++([v5]:P U)) a3 v6=N r18):∀(f:W) (b0 b13 b14:V),Ad Z Ba (B6 a1 a2 a3 x1 v5 r9 a0 r18) f [b0,T,T,T,T,T,T,T,T,T,T,T,L,b13,b14,L,L] (A9 a1 a2 a3 x1 v5 r9 a0 (vc (.own 90000)) (vc (.undef)) (vc (.undef)) (vc (.own 3200)) (vc (.undef)) (vc (.own 3584)) (vc (.own 3584)) (vc (.own 90000)) (vc (.own 90000)) b0 T T T T T T T T T T T L b13 b14 L [(5,[aL (Y X7.row a0.Points),aL (Y X2.row a0.Segments)])] [(90000,1,Y (rL rI) v6),(3200,1,Y rI (a1++([r9]:P U))),(3456,1,Y rI ([r9]:P U)),(3584,1,Y rI a2),(3840,1,Y rI ([v5]:P U))]):=by
 intro f
 induction f with
 | zero=>intro b0 b13 b14 h; simp at h
 | succ f ih=>
  intro b0 b13 b14;refine Ai ⟨?_,?_,?_,?_,?_,?_,?_,?_,?_,?_,?_,?_,?_,?_,?_,?_,?_,⟨⟩⟩<;>try first | (intro h; cases h; done) | (intro _ hw; simp at hw; done) | (intro h0 hw; obtain rfl:=hz h0 rfl; refine np ?_; simp only[A9,A6,A7,A2,C,E,F,G,H,J]; exact ih _ _ _)
  ·intro h0 hw;refine⟨[],[(O,.keep [1,2,3,4,5,11,12,14,31,32,33,49,50,51,52,53,54,55,56,57,58,59,60,61,62,63,64,4] [5] [90000,3200,3456,3584,3840])],X,X,?_⟩;try simp only[h17,A9,A6,A7,zA,I,A2,C,E,F,G,H,J]
   exact B2m rec_ h_rec a1 a2 a3 x1 v5 r9 a0 v6 r18 h14 h15 h16 h17 h18 _ b0 b13 b14
theorem B2n(rec_:X1→(P U)→(P U)→U→(P (P U))→Q (P (P U)))(h_rec:∀(a0:X1) (a1 a2:P U) (a3:U) (a4:P (P U)) zr,rec_ a0 a1 a2 a3 a4=N zr→FCt Z 217 [.d (.ag (X1.row a0)),.d (.sc (.sl (Y rI a1))),.d (.sc (.sl (Y rI a2))),.d (.sc (.int .i64 a3)),.r] 1 (Y (rL rI) a4) (Y (rL rI) zr))(a1 a2:P U)(a3)(x1:U)(v5)(r9)(a0)(v6)(r18)(h14:(A3 ([]:P U).length a1.length 8)=T)(h15:(A3 a1.length ([r9]:P U).length 8)=T)(h16:(A3 ([]:P U).length a2.length 8)=T)(h17:(A3 a2.length ([v5]:P U).length 8)=T)(h18:rec_ a0 (a1++([r9]:P U)) (a2++([v5]:P U)) a3 v6=N r18):∀(f:W) (b0 b10:V) (b13 b14:V),Ad Z Ba (B6 a1 a2 a3 x1 v5 r9 a0 r18) f [b0,T,T,T,T,T,T,T,T,T,b10,L,L,b13,b14,L,L] (A9 a1 a2 a3 x1 v5 r9 a0 (vc (.own 90000)) (vc (.undef)) (vc (.undef)) (vc (.own 3200)) (vc (.undef)) (vc (.own 3584)) (vc (.own 3584)) (vc (.own 90000)) (vc (.own 90000)) b0 T T T T T T T T T b10 L L b13 b14 L [(5,[aL (Y X7.row a0.Points),aL (Y X2.row a0.Segments)])] [(90000,1,Y (rL rI) v6),(3200,1,Y rI (a1++([r9]:P U))),(3456,1,Y rI ([r9]:P U)),(3584,1,Y rI a2)]):=by
 intro f
 induction f with
 | zero=>intro b0 b10 b13 b14 h; simp at h
 | succ f ih=>
  intro b0 b10 b13 b14;refine Ai ⟨?_,?_,?_,?_,?_,?_,?_,?_,?_,?_,?_,?_,?_,?_,?_,?_,?_,⟨⟩⟩<;>try first | (intro h; cases h; done) | (intro _ hw; simp at hw; done) | (intro h0 hw; obtain rfl:=hz h0 rfl; refine np ?_; simp only[A9,A6,A7,A2,C,E,F,G,H,J]; exact ih _ _ _ _)
  ·intro h0 hw;obtain rfl:=hq hw 10 rfl rfl;refine⟨[],[(O,.keep [1,2,3,4,5,11,12,14,31,32,33,49,50,51,52,53,54,55,56,57,58,59,60,61,62,63,64,4] [5] [90000,3200,3456,3584,3840])],X,X,?_⟩;try simp only[A9,A6,A7,zA,I,A2,C,E,F,G,H,J]
   refine As (es:=Y rI ([v5]:P U)) X (by simp only[St.fresh,zB,zC,Ak]; simp[AV.cells,V1.cells,AC.uses]) ?_;try simp only[A2,C,E,F,G,H,J]
   exact dp rec_ h_rec a1 a2 a3 x1 v5 r9 a0 v6 r18 h14 h15 h16 h17 h18 _ b0 b13 b14
theorem Vm(rec_:X1→(P U)→(P U)→U→(P (P U))→Q (P (P U)))(h_rec:∀(a0:X1) (a1 a2:P U) (a3:U) (a4:P (P U)) zr,rec_ a0 a1 a2 a3 a4=N zr→FCt Z 217 [.d (.ag (X1.row a0)),.d (.sc (.sl (Y rI a1))),.d (.sc (.sl (Y rI a2))),.d (.sc (.int .i64 a3)),.r] 1 (Y (rL rI) a4) (Y (rL rI) zr))(a1 a2:P U)(a3)(x1:U)(v5)(r9)(a0)(v6)(r18)(h14:(A3 ([]:P U).length a1.length 8)=T)(h15:(A3 a1.length ([r9]:P U).length 8)=T)(h16:(A3 ([]:P U).length a2.length 8)=T)(h17:(A3 a2.length ([v5]:P U).length 8)=T)(h18:rec_ a0 (a1++([r9]:P U)) (a2++([v5]:P U)) a3 v6=N r18):∀(f:W) (b0 b8:V) (b13 b14:V),Ad Z Ba (B6 a1 a2 a3 x1 v5 r9 a0 r18) f [b0,T,T,T,T,T,T,T,b8,L,T,T,L,b13,b14,L,L] (A9 a1 a2 a3 x1 v5 r9 a0 (vc (.own 90000)) (vc (.undef)) (vc (.undef)) (vc (.own 3200)) (vc (.own 3584)) (vc (.own 3584)) (vc (.own 3584)) (vc (.own 90000)) (vc (.own 90000)) b0 T T T T T T T b8 L T T L b13 b14 L [(5,[aL (Y X7.row a0.Points),aL (Y X2.row a0.Segments)])] [(90000,1,Y (rL rI) v6),(3200,1,Y rI (a1++([r9]:P U))),(3456,1,Y rI ([r9]:P U)),(3584,1,Y rI ([]:P U)),(3840,1,Y rI ([v5]:P U))]):=by
 intro f
 induction f with
 | zero=>intro b0 b8 b13 b14 h; simp at h
 | succ f ih=>
  intro b0 b8 b13 b14;refine Ai ⟨?_,?_,?_,?_,?_,?_,?_,?_,?_,?_,?_,?_,?_,?_,?_,?_,?_,⟨⟩⟩<;>try first | (intro h; cases h; done) | (intro _ hw; simp at hw; done) | (intro h0 hw; obtain rfl:=hz h0 rfl; refine np ?_; simp only[A9,A6,A7,A2,C,E,F,G,H,J]; exact ih _ _ _ _)
  ·intro h0 hw;obtain rfl:=hq hw 8 rfl rfl;refine⟨[],[(O,.keep [1,2,3,4,5,11,12,14,31,32,33,49,50,51,52,53,54,55,56,57,58,59,60,61,62,63,64,4] [5] [90000,3200,3456,3584,3840])],X,X,?_⟩;try simp only[h16,A9,A6,A7,zA,I,A2,C,E,F,G,H,J]
   exact dp rec_ h_rec a1 a2 a3 x1 v5 r9 a0 v6 r18 h14 h15 h16 h17 h18 _ b0 b13 b14
theorem dq(rec_:X1→(P U)→(P U)→U→(P (P U))→Q (P (P U)))(h_rec:∀(a0:X1) (a1 a2:P U) (a3:U) (a4:P (P U)) zr,rec_ a0 a1 a2 a3 a4=N zr→FCt Z 217 [.d (.ag (X1.row a0)),.d (.sc (.sl (Y rI a1))),.d (.sc (.sl (Y rI a2))),.d (.sc (.int .i64 a3)),.r] 1 (Y (rL rI) a4) (Y (rL rI) zr))(a1 a2:P U)(a3)(x1:U)(v5)(r9)(a0)(v6)(r18)(h14:(A3 ([]:P U).length a1.length 8)=T)(h15:(A3 a1.length ([r9]:P U).length 8)=T)(h16:(A3 ([]:P U).length a2.length 8)=T)(h17:(A3 a2.length ([v5]:P U).length 8)=T)(h18:rec_ a0 (a1++([r9]:P U)) (a2++([v5]:P U)) a3 v6=N r18):∀(f:W) (b0 b8:V) (b10 b13 b14:V),Ad Z Ba (B6 a1 a2 a3 x1 v5 r9 a0 r18) f [b0,T,T,T,T,T,T,T,b8,L,b10,L,L,b13,b14,L,L] (A9 a1 a2 a3 x1 v5 r9 a0 (vc (.own 90000)) (vc (.undef)) (vc (.undef)) (vc (.own 3200)) (vc (.own 3584)) (vc (.own 3584)) (vc (.own 3584)) (vc (.own 90000)) (vc (.own 90000)) b0 T T T T T T T b8 L b10 L L b13 b14 L [(5,[aL (Y X7.row a0.Points),aL (Y X2.row a0.Segments)])] [(90000,1,Y (rL rI) v6),(3200,1,Y rI (a1++([r9]:P U))),(3456,1,Y rI ([r9]:P U)),(3584,1,Y rI ([]:P U))]):=by
 intro f
 induction f with
 | zero=>intro b0 b8 b10 b13 b14 h; simp at h
 | succ f ih=>
  intro b0 b8 b10 b13 b14;refine Ai ⟨?_,?_,?_,?_,?_,?_,?_,?_,?_,?_,?_,?_,?_,?_,?_,?_,?_,⟨⟩⟩<;>try first | (intro h; cases h; done) | (intro _ hw; simp at hw; done) | (intro h0 hw; obtain rfl:=hz h0 rfl; refine np ?_; simp only[A9,A6,A7,A2,C,E,F,G,H,J]; exact ih _ _ _ _ _)
  ·intro h0 hw;obtain rfl:=hq hw 8 rfl rfl;refine⟨[],[(O,.keep [1,2,3,4,5,11,12,14,31,32,33,49,50,51,52,53,54,55,56,57,58,59,60,61,62,63,64,4] [5] [90000,3200,3456,3584])],X,X,?_⟩;try simp only[h16,A9,A6,A7,zA,I,A2,C,E,F,G,H,J]
   exact B2n rec_ h_rec a1 a2 a3 x1 v5 r9 a0 v6 r18 h14 h15 h16 h17 h18 _ b0 b10 b13 b14
  ·intro h0 hw;obtain rfl:=hq hw 10 rfl rfl;refine⟨[],[(O,.keep [1,2,3,4,5,11,12,14,31,32,33,49,50,51,52,53,54,55,56,57,58,59,60,61,62,63,64,4] [5] [90000,3200,3456,3584,3840])],X,X,?_⟩;try simp only[A9,A6,A7,zA,I,A2,C,E,F,G,H,J]
   refine As (es:=Y rI ([v5]:P U)) X (by simp only[St.fresh,zB,zC,Ak]; simp[AV.cells,V1.cells,AC.uses]) ?_;try simp only[A2,C,E,F,G,H,J]
   exact Vm rec_ h_rec a1 a2 a3 x1 v5 r9 a0 v6 r18 h14 h15 h16 h17 h18 _ b0 b8 b13 b14
theorem dr(rec_:X1→(P U)→(P U)→U→(P (P U))→Q (P (P U)))(h_rec:∀(a0:X1) (a1 a2:P U) (a3:U) (a4:P (P U)) zr,rec_ a0 a1 a2 a3 a4=N zr→FCt Z 217 [.d (.ag (X1.row a0)),.d (.sc (.sl (Y rI a1))),.d (.sc (.sl (Y rI a2))),.d (.sc (.int .i64 a3)),.r] 1 (Y (rL rI) a4) (Y (rL rI) zr))(a1 a2:P U)(a3)(x1:U)(v5)(r9)(a0)(v6)(r18)(h14:(A3 ([]:P U).length a1.length 8)=T)(h15:(A3 a1.length ([r9]:P U).length 8)=T)(h16:(A3 ([]:P U).length a2.length 8)=T)(h17:(A3 a2.length ([v5]:P U).length 8)=T)(h18:rec_ a0 (a1++([r9]:P U)) (a2++([v5]:P U)) a3 v6=N r18):∀(f:W) (b0 b8:V) (b13 b14:V),Ad Z Ba (B6 a1 a2 a3 x1 v5 r9 a0 r18) f [b0,T,T,T,T,T,T,L,b8,L,T,T,L,b13,b14,L,L] (A9 a1 a2 a3 x1 v5 r9 a0 (vc (.own 90000)) (vc (.undef)) (vc (.undef)) (vc (.own 3200)) (vc (.own 3584)) (vc (.own 3584)) (vc (.own 3584)) (vc (.own 90000)) (vc (.own 90000)) b0 T T T T T T L b8 L T T L b13 b14 L [(5,[aL (Y X7.row a0.Points),aL (Y X2.row a0.Segments)])] [(90000,1,Y (rL rI) v6),(3200,1,Y rI (a1++([r9]:P U))),(3456,1,Y rI ([r9]:P U)),(3840,1,Y rI ([v5]:P U))]):=by
 intro f
 induction f with
 | zero=>intro b0 b8 b13 b14 h; simp at h
 | succ f ih=>
  intro b0 b8 b13 b14;refine Ai ⟨?_,?_,?_,?_,?_,?_,?_,?_,?_,?_,?_,?_,?_,?_,?_,?_,?_,⟨⟩⟩<;>try first | (intro h; cases h; done) | (intro _ hw; simp at hw; done) | (intro h0 hw; obtain rfl:=hz h0 rfl; refine np ?_; simp only[A9,A6,A7,A2,C,E,F,G,H,J]; exact ih _ _ _ _)
  ·intro h0 hw;refine⟨[],[(O,.keep [1,2,3,4,5,11,12,14,31,32,33,49,50,51,52,53,54,55,56,57,58,59,60,61,62,63,64,4] [5] [90000,3200,3456,3584,3840])],X,X,?_⟩;try simp only[A9,A6,A7,zA,I,A2,C,E,F,G,H,J]
   refine As (es:=Y rI ([]:P U)) X (by simp only[St.fresh,zB,zC,Ak]; simp[AV.cells,V1.cells,AC.uses]) ?_;try simp only[A2,C,E,F,G,H,J]
   exact Vm rec_ h_rec a1 a2 a3 x1 v5 r9 a0 v6 r18 h14 h15 h16 h17 h18 _ b0 b8 b13 b14
theorem SG(rec_:X1→(P U)→(P U)→U→(P (P U))→Q (P (P U)))(h_rec:∀(a0:X1) (a1 a2:P U) (a3:U) (a4:P (P U)) zr,rec_ a0 a1 a2 a3 a4=N zr→FCt Z 217 [.d (.ag (X1.row a0)),.d (.sc (.sl (Y rI a1))),.d (.sc (.sl (Y rI a2))),.d (.sc (.int .i64 a3)),.r] 1 (Y (rL rI) a4) (Y (rL rI) zr))(a1 a2:P U)(a3)(x1:U)(v5)(r9)(a0)(v6)(r18)(h14:(A3 ([]:P U).length a1.length 8)=T)(h15:(A3 a1.length ([r9]:P U).length 8)=T)(h16:(A3 ([]:P U).length a2.length 8)=T)(h17:(A3 a2.length ([v5]:P U).length 8)=T)(h18:rec_ a0 (a1++([r9]:P U)) (a2++([v5]:P U)) a3 v6=N r18):∀(f:W) (b0 b8:V) (b13 b14:V),Ad Z Ba (B6 a1 a2 a3 x1 v5 r9 a0 r18) f [b0,T,T,T,T,T,L,T,b8,L,T,T,L,b13,b14,L,L] (A9 a1 a2 a3 x1 v5 r9 a0 (vc (.own 90000)) (vc (.undef)) (vc (.own 3200)) (vc (.own 3200)) (vc (.own 3584)) (vc (.own 3584)) (vc (.own 3584)) (vc (.own 90000)) (vc (.own 90000)) b0 T T T T T L T b8 L T T L b13 b14 L [(5,[aL (Y X7.row a0.Points),aL (Y X2.row a0.Segments)])] [(90000,1,Y (rL rI) v6),(3200,1,Y rI a1),(3456,1,Y rI ([r9]:P U)),(3584,1,Y rI ([]:P U)),(3840,1,Y rI ([v5]:P U))]):=by
 intro f
 induction f with
 | zero=>intro b0 b8 b13 b14 h; simp at h
 | succ f ih=>
  intro b0 b8 b13 b14;refine Ai ⟨?_,?_,?_,?_,?_,?_,?_,?_,?_,?_,?_,?_,?_,?_,?_,?_,?_,⟨⟩⟩<;>try first | (intro h; cases h; done) | (intro _ hw; simp at hw; done) | (intro h0 hw; obtain rfl:=hz h0 rfl; refine np ?_; simp only[A9,A6,A7,A2,C,E,F,G,H,J]; exact ih _ _ _ _)
  ·intro h0 hw;refine⟨[],[(O,.keep [1,2,3,4,5,11,12,14,31,32,33,49,50,51,52,53,54,55,56,57,58,59,60,61,62,63,64,4] [5] [90000,3200,3456,3584,3840])],X,X,?_⟩;try simp only[h15,A9,A6,A7,zA,I,A2,C,E,F,G,H,J]
   exact Vm rec_ h_rec a1 a2 a3 x1 v5 r9 a0 v6 r18 h14 h15 h16 h17 h18 _ b0 b8 b13 b14
theorem B2o(rec_:X1→(P U)→(P U)→U→(P (P U))→Q (P (P U)))(h_rec:∀(a0:X1) (a1 a2:P U) (a3:U) (a4:P (P U)) zr,rec_ a0 a1 a2 a3 a4=N zr→FCt Z 217 [.d (.ag (X1.row a0)),.d (.sc (.sl (Y rI a1))),.d (.sc (.sl (Y rI a2))),.d (.sc (.int .i64 a3)),.r] 1 (Y (rL rI) a4) (Y (rL rI) zr))(a1 a2:P U)(a3)(x1:U)(v5)(r9)(a0)(v6)(r18)(h14:(A3 ([]:P U).length a1.length 8)=T)(h15:(A3 a1.length ([r9]:P U).length 8)=T)(h16:(A3 ([]:P U).length a2.length 8)=T)(h17:(A3 a2.length ([v5]:P U).length 8)=T)(h18:rec_ a0 (a1++([r9]:P U)) (a2++([v5]:P U)) a3 v6=N r18):∀(f:W) (b0 b8:V) (b10 b13 b14:V),Ad Z Ba (B6 a1 a2 a3 x1 v5 r9 a0 r18) f [b0,T,T,T,T,T,T,L,b8,L,b10,L,L,b13,b14,L,L] (A9 a1 a2 a3 x1 v5 r9 a0 (vc (.own 90000)) (vc (.undef)) (vc (.undef)) (vc (.own 3200)) (vc (.own 3584)) (vc (.own 3584)) (vc (.own 3584)) (vc (.own 90000)) (vc (.own 90000)) b0 T T T T T T L b8 L b10 L L b13 b14 L [(5,[aL (Y X7.row a0.Points),aL (Y X2.row a0.Segments)])] [(90000,1,Y (rL rI) v6),(3200,1,Y rI (a1++([r9]:P U))),(3456,1,Y rI ([r9]:P U))]):=by
 intro f
 induction f with
 | zero=>intro b0 b8 b10 b13 b14 h; simp at h
 | succ f ih=>
  intro b0 b8 b10 b13 b14;refine Ai ⟨?_,?_,?_,?_,?_,?_,?_,?_,?_,?_,?_,?_,?_,?_,?_,?_,?_,⟨⟩⟩<;>try first | (intro h; cases h; done) | (intro _ hw; simp at hw; done) | (intro h0 hw; obtain rfl:=hz h0 rfl; refine np ?_; simp only[A9,A6,A7,A2,C,E,F,G,H,J]; exact ih _ _ _ _ _)
  ·intro h0 hw;refine⟨[],[(O,.keep [1,2,3,4,5,11,12,14,31,32,33,49,50,51,52,53,54,55,56,57,58,59,60,61,62,63,64,4] [5] [90000,3200,3456,3584])],X,X,?_⟩;try simp only[A9,A6,A7,zA,I,A2,C,E,F,G,H,J]
   refine As (es:=Y rI ([]:P U)) X (by simp only[St.fresh,zB,zC,Ak]; simp[AV.cells,V1.cells,AC.uses]) ?_;try simp only[A2,C,E,F,G,H,J]
   exact dq rec_ h_rec a1 a2 a3 x1 v5 r9 a0 v6 r18 h14 h15 h16 h17 h18 _ b0 b8 b10 b13 b14
  ·intro h0 hw;obtain rfl:=hq hw 10 rfl rfl;refine⟨[],[(O,.keep [1,2,3,4,5,11,12,14,31,32,33,49,50,51,52,53,54,55,56,57,58,59,60,61,62,63,64,4] [5] [90000,3200,3456,3840])],X,X,?_⟩;try simp only[A9,A6,A7,zA,I,A2,C,E,F,G,H,J]
   refine As (es:=Y rI ([v5]:P U)) X (by simp only[St.fresh,zB,zC,Ak]; simp[AV.cells,V1.cells,AC.uses]) ?_;try simp only[A2,C,E,F,G,H,J]
   exact dr rec_ h_rec a1 a2 a3 x1 v5 r9 a0 v6 r18 h14 h15 h16 h17 h18 _ b0 b8 b13 b14
theorem Vn(rec_:X1→(P U)→(P U)→U→(P (P U))→Q (P (P U)))(h_rec:∀(a0:X1) (a1 a2:P U) (a3:U) (a4:P (P U)) zr,rec_ a0 a1 a2 a3 a4=N zr→FCt Z 217 [.d (.ag (X1.row a0)),.d (.sc (.sl (Y rI a1))),.d (.sc (.sl (Y rI a2))),.d (.sc (.int .i64 a3)),.r] 1 (Y (rL rI) a4) (Y (rL rI) zr))(a1 a2:P U)(a3)(x1:U)(v5)(r9)(a0)(v6)(r18)(h14:(A3 ([]:P U).length a1.length 8)=T)(h15:(A3 a1.length ([r9]:P U).length 8)=T)(h16:(A3 ([]:P U).length a2.length 8)=T)(h17:(A3 a2.length ([v5]:P U).length 8)=T)(h18:rec_ a0 (a1++([r9]:P U)) (a2++([v5]:P U)) a3 v6=N r18):∀(f:W) (b0 b8:V) (b10 b13 b14:V),Ad Z Ba (B6 a1 a2 a3 x1 v5 r9 a0 r18) f [b0,T,T,T,T,T,L,T,b8,L,b10,L,L,b13,b14,L,L] (A9 a1 a2 a3 x1 v5 r9 a0 (vc (.own 90000)) (vc (.undef)) (vc (.own 3200)) (vc (.own 3200)) (vc (.own 3584)) (vc (.own 3584)) (vc (.own 3584)) (vc (.own 90000)) (vc (.own 90000)) b0 T T T T T L T b8 L b10 L L b13 b14 L [(5,[aL (Y X7.row a0.Points),aL (Y X2.row a0.Segments)])] [(90000,1,Y (rL rI) v6),(3200,1,Y rI a1),(3456,1,Y rI ([r9]:P U)),(3584,1,Y rI ([]:P U))]):=by
 intro f
 induction f with
 | zero=>intro b0 b8 b10 b13 b14 h; simp at h
 | succ f ih=>
  intro b0 b8 b10 b13 b14;refine Ai ⟨?_,?_,?_,?_,?_,?_,?_,?_,?_,?_,?_,?_,?_,?_,?_,?_,?_,⟨⟩⟩<;>try first | (intro h; cases h; done) | (intro _ hw; simp at hw; done) | (intro h0 hw; obtain rfl:=hz h0 rfl; refine np ?_; simp only[A9,A6,A7,A2,C,E,F,G,H,J]; exact ih _ _ _ _ _)
  ·intro h0 hw;refine⟨[],[(O,.keep [1,2,3,4,5,11,12,14,31,32,33,49,50,51,52,53,54,55,56,57,58,59,60,61,62,63,64,4] [5] [90000,3200,3456,3584])],X,X,?_⟩;try simp only[h15,A9,A6,A7,zA,I,A2,C,E,F,G,H,J]
   exact dq rec_ h_rec a1 a2 a3 x1 v5 r9 a0 v6 r18 h14 h15 h16 h17 h18 _ b0 b8 b10 b13 b14
  ·intro h0 hw;obtain rfl:=hq hw 10 rfl rfl;refine⟨[],[(O,.keep [1,2,3,4,5,11,12,14,31,32,33,49,50,51,52,53,54,55,56,57,58,59,60,61,62,63,64,4] [5] [90000,3200,3456,3584,3840])],X,X,?_⟩;try simp only[A9,A6,A7,zA,I,A2,C,E,F,G,H,J]
   refine As (es:=Y rI ([v5]:P U)) X (by simp only[St.fresh,zB,zC,Ak]; simp[AV.cells,V1.cells,AC.uses]) ?_;try simp only[A2,C,E,F,G,H,J]
   exact SG rec_ h_rec a1 a2 a3 x1 v5 r9 a0 v6 r18 h14 h15 h16 h17 h18 _ b0 b8 b13 b14
theorem Vo(rec_:X1→(P U)→(P U)→U→(P (P U))→Q (P (P U)))(h_rec:∀(a0:X1) (a1 a2:P U) (a3:U) (a4:P (P U)) zr,rec_ a0 a1 a2 a3 a4=N zr→FCt Z 217 [.d (.ag (X1.row a0)),.d (.sc (.sl (Y rI a1))),.d (.sc (.sl (Y rI a2))),.d (.sc (.int .i64 a3)),.r] 1 (Y (rL rI) a4) (Y (rL rI) zr))(a1 a2:P U)(a3)(x1:U)(v5)(r9)(a0)(v6)(r18)(h14:(A3 ([]:P U).length a1.length 8)=T)(h15:(A3 a1.length ([r9]:P U).length 8)=T)(h16:(A3 ([]:P U).length a2.length 8)=T)(h17:(A3 a2.length ([v5]:P U).length 8)=T)(h18:rec_ a0 (a1++([r9]:P U)) (a2++([v5]:P U)) a3 v6=N r18):∀(f:W) (b0 b8:V) (b13 b14:V),Ad Z Ba (B6 a1 a2 a3 x1 v5 r9 a0 r18) f [b0,T,T,T,T,T,L,L,b8,L,T,T,L,b13,b14,L,L] (A9 a1 a2 a3 x1 v5 r9 a0 (vc (.own 90000)) (vc (.undef)) (vc (.own 3200)) (vc (.own 3200)) (vc (.own 3584)) (vc (.own 3584)) (vc (.own 3584)) (vc (.own 90000)) (vc (.own 90000)) b0 T T T T T L L b8 L T T L b13 b14 L [(5,[aL (Y X7.row a0.Points),aL (Y X2.row a0.Segments)])] [(90000,1,Y (rL rI) v6),(3200,1,Y rI a1),(3456,1,Y rI ([r9]:P U)),(3840,1,Y rI ([v5]:P U))]):=by
 intro f
 induction f with
 | zero=>intro b0 b8 b13 b14 h; simp at h
 | succ f ih=>
  intro b0 b8 b13 b14;refine Ai ⟨?_,?_,?_,?_,?_,?_,?_,?_,?_,?_,?_,?_,?_,?_,?_,?_,?_,⟨⟩⟩<;>try first | (intro h; cases h; done) | (intro _ hw; simp at hw; done) | (intro h0 hw; obtain rfl:=hz h0 rfl; refine np ?_; simp only[A9,A6,A7,A2,C,E,F,G,H,J]; exact ih _ _ _ _)
  ·intro h0 hw;refine⟨[],[(O,.keep [1,2,3,4,5,11,12,14,31,32,33,49,50,51,52,53,54,55,56,57,58,59,60,61,62,63,64,4] [5] [90000,3200,3456,3840])],X,X,?_⟩;try simp only[h15,A9,A6,A7,zA,I,A2,C,E,F,G,H,J]
   exact dr rec_ h_rec a1 a2 a3 x1 v5 r9 a0 v6 r18 h14 h15 h16 h17 h18 _ b0 b8 b13 b14
  ·intro h0 hw;refine⟨[],[(O,.keep [1,2,3,4,5,11,12,14,31,32,33,49,50,51,52,53,54,55,56,57,58,59,60,61,62,63,64,4] [5] [90000,3200,3456,3584,3840])],X,X,?_⟩;try simp only[A9,A6,A7,zA,I,A2,C,E,F,G,H,J]
   refine As (es:=Y rI ([]:P U)) X (by simp only[St.fresh,zB,zC,Ak]; simp[AV.cells,V1.cells,AC.uses]) ?_;try simp only[A2,C,E,F,G,H,J]
   exact SG rec_ h_rec a1 a2 a3 x1 v5 r9 a0 v6 r18 h14 h15 h16 h17 h18 _ b0 b8 b13 b14
theorem Vp(rec_:X1→(P U)→(P U)→U→(P (P U))→Q (P (P U)))(h_rec:∀(a0:X1) (a1 a2:P U) (a3:U) (a4:P (P U)) zr,rec_ a0 a1 a2 a3 a4=N zr→FCt Z 217 [.d (.ag (X1.row a0)),.d (.sc (.sl (Y rI a1))),.d (.sc (.sl (Y rI a2))),.d (.sc (.int .i64 a3)),.r] 1 (Y (rL rI) a4) (Y (rL rI) zr))(a1 a2:P U)(a3)(x1:U)(v5)(r9)(a0)(v6)(r18)(h14:(A3 ([]:P U).length a1.length 8)=T)(h15:(A3 a1.length ([r9]:P U).length 8)=T)(h16:(A3 ([]:P U).length a2.length 8)=T)(h17:(A3 a2.length ([v5]:P U).length 8)=T)(h18:rec_ a0 (a1++([r9]:P U)) (a2++([v5]:P U)) a3 v6=N r18):∀(f:W) (b0 b4:V) (b8 b13 b14:V),Ad Z Ba (B6 a1 a2 a3 x1 v5 r9 a0 r18) f [b0,T,T,T,b4,L,L,T,b8,L,T,T,L,b13,b14,L,L] (A9 a1 a2 a3 x1 v5 r9 a0 (vc (.own 90000)) (vc (.undef)) (vc (.own 3200)) (vc (.own 3200)) (vc (.own 3584)) (vc (.own 3584)) (vc (.own 3584)) (vc (.own 90000)) (vc (.own 90000)) b0 T T T b4 L L T b8 L T T L b13 b14 L [(5,[aL (Y X7.row a0.Points),aL (Y X2.row a0.Segments)])] [(90000,1,Y (rL rI) v6),(3200,1,Y rI a1),(3584,1,Y rI ([]:P U)),(3840,1,Y rI ([v5]:P U))]):=by
 intro f
 induction f with
 | zero=>intro b0 b4 b8 b13 b14 h; simp at h
 | succ f ih=>
  intro b0 b4 b8 b13 b14;refine Ai ⟨?_,?_,?_,?_,?_,?_,?_,?_,?_,?_,?_,?_,?_,?_,?_,?_,?_,⟨⟩⟩<;>try first | (intro h; cases h; done) | (intro _ hw; simp at hw; done) | (intro h0 hw; obtain rfl:=hz h0 rfl; refine np ?_; simp only[A9,A6,A7,A2,C,E,F,G,H,J]; exact ih _ _ _ _ _)
  ·intro h0 hw;obtain rfl:=hq hw 4 rfl rfl;refine⟨[],[(O,.keep [1,2,3,4,5,11,12,14,31,32,33,49,50,51,52,53,54,55,56,57,58,59,60,61,62,63,64,4] [5] [90000,3200,3456,3584,3840])],X,X,?_⟩;try simp only[A9,A6,A7,zA,I,A2,C,E,F,G,H,J]
   refine As (es:=Y rI ([r9]:P U)) X (by simp only[St.fresh,zB,zC,Ak]; simp[AV.cells,V1.cells,AC.uses]) ?_;try simp only[A2,C,E,F,G,H,J]
   exact SG rec_ h_rec a1 a2 a3 x1 v5 r9 a0 v6 r18 h14 h15 h16 h17 h18 _ b0 b8 b13 b14
theorem SH(rec_:X1→(P U)→(P U)→U→(P (P U))→Q (P (P U)))(h_rec:∀(a0:X1) (a1 a2:P U) (a3:U) (a4:P (P U)) zr,rec_ a0 a1 a2 a3 a4=N zr→FCt Z 217 [.d (.ag (X1.row a0)),.d (.sc (.sl (Y rI a1))),.d (.sc (.sl (Y rI a2))),.d (.sc (.int .i64 a3)),.r] 1 (Y (rL rI) a4) (Y (rL rI) zr))(a1 a2:P U)(a3)(x1:U)(v5)(r9)(a0)(v6)(r18)(h14:(A3 ([]:P U).length a1.length 8)=T)(h15:(A3 a1.length ([r9]:P U).length 8)=T)(h16:(A3 ([]:P U).length a2.length 8)=T)(h17:(A3 a2.length ([v5]:P U).length 8)=T)(h18:rec_ a0 (a1++([r9]:P U)) (a2++([v5]:P U)) a3 v6=N r18):∀(f:W) (b0 b2:V) (b8 b13 b14:V),Ad Z Ba (B6 a1 a2 a3 x1 v5 r9 a0 r18) f [b0,T,b2,L,T,T,L,T,b8,L,T,T,L,b13,b14,L,L] (A9 a1 a2 a3 x1 v5 r9 a0 (vc (.own 90000)) (vc (.own 3200)) (vc (.own 3200)) (vc (.own 3200)) (vc (.own 3584)) (vc (.own 3584)) (vc (.own 3584)) (vc (.own 90000)) (vc (.own 90000)) b0 T b2 L T T L T b8 L T T L b13 b14 L [(5,[aL (Y X7.row a0.Points),aL (Y X2.row a0.Segments)])] [(90000,1,Y (rL rI) v6),(3200,1,Y rI ([]:P U)),(3456,1,Y rI ([r9]:P U)),(3584,1,Y rI ([]:P U)),(3840,1,Y rI ([v5]:P U))]):=by
 intro f
 induction f with
 | zero=>intro b0 b2 b8 b13 b14 h; simp at h
 | succ f ih=>
  intro b0 b2 b8 b13 b14;refine Ai ⟨?_,?_,?_,?_,?_,?_,?_,?_,?_,?_,?_,?_,?_,?_,?_,?_,?_,⟨⟩⟩<;>try first | (intro h; cases h; done) | (intro _ hw; simp at hw; done) | (intro h0 hw; obtain rfl:=hz h0 rfl; refine np ?_; simp only[A9,A6,A7,A2,C,E,F,G,H,J]; exact ih _ _ _ _ _)
  ·intro h0 hw;obtain rfl:=hq hw 2 rfl rfl;refine⟨[],[(O,.keep [1,2,3,4,5,11,12,14,31,32,33,49,50,51,52,53,54,55,56,57,58,59,60,61,62,63,64,4] [5] [90000,3200,3456,3584,3840])],X,X,?_⟩;try simp only[h14,A9,A6,A7,zA,I,A2,C,E,F,G,H,J]
   exact SG rec_ h_rec a1 a2 a3 x1 v5 r9 a0 v6 r18 h14 h15 h16 h17 h18 _ b0 b8 b13 b14
theorem dt(rec_:X1→(P U)→(P U)→U→(P (P U))→Q (P (P U)))(h_rec:∀(a0:X1) (a1 a2:P U) (a3:U) (a4:P (P U)) zr,rec_ a0 a1 a2 a3 a4=N zr→FCt Z 217 [.d (.ag (X1.row a0)),.d (.sc (.sl (Y rI a1))),.d (.sc (.sl (Y rI a2))),.d (.sc (.int .i64 a3)),.r] 1 (Y (rL rI) a4) (Y (rL rI) zr))(a1 a2:P U)(a3)(x1:U)(v5)(r9)(a0)(v6)(r18)(h14:(A3 ([]:P U).length a1.length 8)=T)(h15:(A3 a1.length ([r9]:P U).length 8)=T)(h16:(A3 ([]:P U).length a2.length 8)=T)(h17:(A3 a2.length ([v5]:P U).length 8)=T)(h18:rec_ a0 (a1++([r9]:P U)) (a2++([v5]:P U)) a3 v6=N r18):∀(f:W) (b0 b8:V) (b10 b13 b14:V),Ad Z Ba (B6 a1 a2 a3 x1 v5 r9 a0 r18) f [b0,T,T,T,T,T,L,L,b8,L,b10,L,L,b13,b14,L,L] (A9 a1 a2 a3 x1 v5 r9 a0 (vc (.own 90000)) (vc (.undef)) (vc (.own 3200)) (vc (.own 3200)) (vc (.own 3584)) (vc (.own 3584)) (vc (.own 3584)) (vc (.own 90000)) (vc (.own 90000)) b0 T T T T T L L b8 L b10 L L b13 b14 L [(5,[aL (Y X7.row a0.Points),aL (Y X2.row a0.Segments)])] [(90000,1,Y (rL rI) v6),(3200,1,Y rI a1),(3456,1,Y rI ([r9]:P U))]):=by
 intro f
 induction f with
 | zero=>intro b0 b8 b10 b13 b14 h; simp at h
 | succ f ih=>
  intro b0 b8 b10 b13 b14;refine Ai ⟨?_,?_,?_,?_,?_,?_,?_,?_,?_,?_,?_,?_,?_,?_,?_,?_,?_,⟨⟩⟩<;>try first | (intro h; cases h; done) | (intro _ hw; simp at hw; done) | (intro h0 hw; obtain rfl:=hz h0 rfl; refine np ?_; simp only[A9,A6,A7,A2,C,E,F,G,H,J]; exact ih _ _ _ _ _)
  ·intro h0 hw;refine⟨[],[(O,.keep [1,2,3,4,5,11,12,14,31,32,33,49,50,51,52,53,54,55,56,57,58,59,60,61,62,63,64,4] [5] [90000,3200,3456])],X,X,?_⟩;try simp only[h15,A9,A6,A7,zA,I,A2,C,E,F,G,H,J]
   exact B2o rec_ h_rec a1 a2 a3 x1 v5 r9 a0 v6 r18 h14 h15 h16 h17 h18 _ b0 b8 b10 b13 b14
  ·intro h0 hw;refine⟨[],[(O,.keep [1,2,3,4,5,11,12,14,31,32,33,49,50,51,52,53,54,55,56,57,58,59,60,61,62,63,64,4] [5] [90000,3200,3456,3584])],X,X,?_⟩;try simp only[A9,A6,A7,zA,I,A2,C,E,F,G,H,J]
   refine As (es:=Y rI ([]:P U)) X (by simp only[St.fresh,zB,zC,Ak]; simp[AV.cells,V1.cells,AC.uses]) ?_;try simp only[A2,C,E,F,G,H,J]
   exact Vn rec_ h_rec a1 a2 a3 x1 v5 r9 a0 v6 r18 h14 h15 h16 h17 h18 _ b0 b8 b10 b13 b14
  ·intro h0 hw;obtain rfl:=hq hw 10 rfl rfl;refine⟨[],[(O,.keep [1,2,3,4,5,11,12,14,31,32,33,49,50,51,52,53,54,55,56,57,58,59,60,61,62,63,64,4] [5] [90000,3200,3456,3840])],X,X,?_⟩;try simp only[A9,A6,A7,zA,I,A2,C,E,F,G,H,J]
   refine As (es:=Y rI ([v5]:P U)) X (by simp only[St.fresh,zB,zC,Ak]; simp[AV.cells,V1.cells,AC.uses]) ?_;try simp only[A2,C,E,F,G,H,J]
   exact Vo rec_ h_rec a1 a2 a3 x1 v5 r9 a0 v6 r18 h14 h15 h16 h17 h18 _ b0 b8 b13 b14
theorem du(rec_:X1→(P U)→(P U)→U→(P (P U))→Q (P (P U)))(h_rec:∀(a0:X1) (a1 a2:P U) (a3:U) (a4:P (P U)) zr,rec_ a0 a1 a2 a3 a4=N zr→FCt Z 217 [.d (.ag (X1.row a0)),.d (.sc (.sl (Y rI a1))),.d (.sc (.sl (Y rI a2))),.d (.sc (.int .i64 a3)),.r] 1 (Y (rL rI) a4) (Y (rL rI) zr))(a1 a2:P U)(a3)(x1:U)(v5)(r9)(a0)(v6)(r18)(h14:(A3 ([]:P U).length a1.length 8)=T)(h15:(A3 a1.length ([r9]:P U).length 8)=T)(h16:(A3 ([]:P U).length a2.length 8)=T)(h17:(A3 a2.length ([v5]:P U).length 8)=T)(h18:rec_ a0 (a1++([r9]:P U)) (a2++([v5]:P U)) a3 v6=N r18):∀(f:W) (b0 b4:V) (b8 b10:V) (b13 b14:V),Ad Z Ba (B6 a1 a2 a3 x1 v5 r9 a0 r18) f [b0,T,T,T,b4,L,L,T,b8,L,b10,L,L,b13,b14,L,L] (A9 a1 a2 a3 x1 v5 r9 a0 (vc (.own 90000)) (vc (.undef)) (vc (.own 3200)) (vc (.own 3200)) (vc (.own 3584)) (vc (.own 3584)) (vc (.own 3584)) (vc (.own 90000)) (vc (.own 90000)) b0 T T T b4 L L T b8 L b10 L L b13 b14 L [(5,[aL (Y X7.row a0.Points),aL (Y X2.row a0.Segments)])] [(90000,1,Y (rL rI) v6),(3200,1,Y rI a1),(3584,1,Y rI ([]:P U))]):=by
 intro f
 induction f with
 | zero=>intro b0 b4 b8 b10 b13 b14 h; simp at h
 | succ f ih=>
  intro b0 b4 b8 b10 b13 b14;refine Ai ⟨?_,?_,?_,?_,?_,?_,?_,?_,?_,?_,?_,?_,?_,?_,?_,?_,?_,⟨⟩⟩<;>try first | (intro h; cases h; done) | (intro _ hw; simp at hw; done) | (intro h0 hw; obtain rfl:=hz h0 rfl; refine np ?_; simp only[A9,A6,A7,A2,C,E,F,G,H,J]; exact ih _ _ _ _ _ _)
  ·intro h0 hw;obtain rfl:=hq hw 4 rfl rfl;refine⟨[],[(O,.keep [1,2,3,4,5,11,12,14,31,32,33,49,50,51,52,53,54,55,56,57,58,59,60,61,62,63,64,4] [5] [90000,3200,3456,3584])],X,X,?_⟩;try simp only[A9,A6,A7,zA,I,A2,C,E,F,G,H,J]
   refine As (es:=Y rI ([r9]:P U)) X (by simp only[St.fresh,zB,zC,Ak]; simp[AV.cells,V1.cells,AC.uses]) ?_;try simp only[A2,C,E,F,G,H,J]
   exact Vn rec_ h_rec a1 a2 a3 x1 v5 r9 a0 v6 r18 h14 h15 h16 h17 h18 _ b0 b8 b10 b13 b14
  ·intro h0 hw;obtain rfl:=hq hw 10 rfl rfl;refine⟨[],[(O,.keep [1,2,3,4,5,11,12,14,31,32,33,49,50,51,52,53,54,55,56,57,58,59,60,61,62,63,64,4] [5] [90000,3200,3584,3840])],X,X,?_⟩;try simp only[A9,A6,A7,zA,I,A2,C,E,F,G,H,J]
   refine As (es:=Y rI ([v5]:P U)) X (by simp only[St.fresh,zB,zC,Ak]; simp[AV.cells,V1.cells,AC.uses]) ?_;try simp only[A2,C,E,F,G,H,J]
   exact Vp rec_ h_rec a1 a2 a3 x1 v5 r9 a0 v6 r18 h14 h15 h16 h17 h18 _ b0 b4 b8 b13 b14
theorem dv(rec_:X1→(P U)→(P U)→U→(P (P U))→Q (P (P U)))(h_rec:∀(a0:X1) (a1 a2:P U) (a3:U) (a4:P (P U)) zr,rec_ a0 a1 a2 a3 a4=N zr→FCt Z 217 [.d (.ag (X1.row a0)),.d (.sc (.sl (Y rI a1))),.d (.sc (.sl (Y rI a2))),.d (.sc (.int .i64 a3)),.r] 1 (Y (rL rI) a4) (Y (rL rI) zr))(a1 a2:P U)(a3)(x1:U)(v5)(r9)(a0)(v6)(r18)(h14:(A3 ([]:P U).length a1.length 8)=T)(h15:(A3 a1.length ([r9]:P U).length 8)=T)(h16:(A3 ([]:P U).length a2.length 8)=T)(h17:(A3 a2.length ([v5]:P U).length 8)=T)(h18:rec_ a0 (a1++([r9]:P U)) (a2++([v5]:P U)) a3 v6=N r18):∀(f:W) (b0 b4:V) (b8 b13 b14:V),Ad Z Ba (B6 a1 a2 a3 x1 v5 r9 a0 r18) f [b0,T,T,T,b4,L,L,L,b8,L,T,T,L,b13,b14,L,L] (A9 a1 a2 a3 x1 v5 r9 a0 (vc (.own 90000)) (vc (.undef)) (vc (.own 3200)) (vc (.own 3200)) (vc (.own 3584)) (vc (.own 3584)) (vc (.own 3584)) (vc (.own 90000)) (vc (.own 90000)) b0 T T T b4 L L L b8 L T T L b13 b14 L [(5,[aL (Y X7.row a0.Points),aL (Y X2.row a0.Segments)])] [(90000,1,Y (rL rI) v6),(3200,1,Y rI a1),(3840,1,Y rI ([v5]:P U))]):=by
 intro f
 induction f with
 | zero=>intro b0 b4 b8 b13 b14 h; simp at h
 | succ f ih=>
  intro b0 b4 b8 b13 b14;refine Ai ⟨?_,?_,?_,?_,?_,?_,?_,?_,?_,?_,?_,?_,?_,?_,?_,?_,?_,⟨⟩⟩<;>try first | (intro h; cases h; done) | (intro _ hw; simp at hw; done) | (intro h0 hw; obtain rfl:=hz h0 rfl; refine np ?_; simp only[A9,A6,A7,A2,C,E,F,G,H,J]; exact ih _ _ _ _ _)
  ·intro h0 hw;obtain rfl:=hq hw 4 rfl rfl;refine⟨[],[(O,.keep [1,2,3,4,5,11,12,14,31,32,33,49,50,51,52,53,54,55,56,57,58,59,60,61,62,63,64,4] [5] [90000,3200,3456,3840])],X,X,?_⟩;try simp only[A9,A6,A7,zA,I,A2,C,E,F,G,H,J]
   refine As (es:=Y rI ([r9]:P U)) X (by simp only[St.fresh,zB,zC,Ak]; simp[AV.cells,V1.cells,AC.uses]) ?_;try simp only[A2,C,E,F,G,H,J]
   exact Vo rec_ h_rec a1 a2 a3 x1 v5 r9 a0 v6 r18 h14 h15 h16 h17 h18 _ b0 b8 b13 b14
  ·intro h0 hw;refine⟨[],[(O,.keep [1,2,3,4,5,11,12,14,31,32,33,49,50,51,52,53,54,55,56,57,58,59,60,61,62,63,64,4] [5] [90000,3200,3584,3840])],X,X,?_⟩;try simp only[A9,A6,A7,zA,I,A2,C,E,F,G,H,J]
   refine As (es:=Y rI ([]:P U)) X (by simp only[St.fresh,zB,zC,Ak]; simp[AV.cells,V1.cells,AC.uses]) ?_;try simp only[A2,C,E,F,G,H,J]
   exact Vp rec_ h_rec a1 a2 a3 x1 v5 r9 a0 v6 r18 h14 h15 h16 h17 h18 _ b0 b4 b8 b13 b14
theorem Vq(rec_:X1→(P U)→(P U)→U→(P (P U))→Q (P (P U)))(h_rec:∀(a0:X1) (a1 a2:P U) (a3:U) (a4:P (P U)) zr,rec_ a0 a1 a2 a3 a4=N zr→FCt Z 217 [.d (.ag (X1.row a0)),.d (.sc (.sl (Y rI a1))),.d (.sc (.sl (Y rI a2))),.d (.sc (.int .i64 a3)),.r] 1 (Y (rL rI) a4) (Y (rL rI) zr))(a1 a2:P U)(a3)(x1:U)(v5)(r9)(a0)(v6)(r18)(h14:(A3 ([]:P U).length a1.length 8)=T)(h15:(A3 a1.length ([r9]:P U).length 8)=T)(h16:(A3 ([]:P U).length a2.length 8)=T)(h17:(A3 a2.length ([v5]:P U).length 8)=T)(h18:rec_ a0 (a1++([r9]:P U)) (a2++([v5]:P U)) a3 v6=N r18):∀(f:W) (b0 b2:V) (b8 b10:V) (b13 b14:V),Ad Z Ba (B6 a1 a2 a3 x1 v5 r9 a0 r18) f [b0,T,b2,L,T,T,L,T,b8,L,b10,L,L,b13,b14,L,L] (A9 a1 a2 a3 x1 v5 r9 a0 (vc (.own 90000)) (vc (.own 3200)) (vc (.own 3200)) (vc (.own 3200)) (vc (.own 3584)) (vc (.own 3584)) (vc (.own 3584)) (vc (.own 90000)) (vc (.own 90000)) b0 T b2 L T T L T b8 L b10 L L b13 b14 L [(5,[aL (Y X7.row a0.Points),aL (Y X2.row a0.Segments)])] [(90000,1,Y (rL rI) v6),(3200,1,Y rI ([]:P U)),(3456,1,Y rI ([r9]:P U)),(3584,1,Y rI ([]:P U))]):=by
 intro f
 induction f with
 | zero=>intro b0 b2 b8 b10 b13 b14 h; simp at h
 | succ f ih=>
  intro b0 b2 b8 b10 b13 b14;refine Ai ⟨?_,?_,?_,?_,?_,?_,?_,?_,?_,?_,?_,?_,?_,?_,?_,?_,?_,⟨⟩⟩<;>try first | (intro h; cases h; done) | (intro _ hw; simp at hw; done) | (intro h0 hw; obtain rfl:=hz h0 rfl; refine np ?_; simp only[A9,A6,A7,A2,C,E,F,G,H,J]; exact ih _ _ _ _ _ _)
  ·intro h0 hw;obtain rfl:=hq hw 2 rfl rfl;refine⟨[],[(O,.keep [1,2,3,4,5,11,12,14,31,32,33,49,50,51,52,53,54,55,56,57,58,59,60,61,62,63,64,4] [5] [90000,3200,3456,3584])],X,X,?_⟩;try simp only[h14,A9,A6,A7,zA,I,A2,C,E,F,G,H,J]
   exact Vn rec_ h_rec a1 a2 a3 x1 v5 r9 a0 v6 r18 h14 h15 h16 h17 h18 _ b0 b8 b10 b13 b14
  ·intro h0 hw;obtain rfl:=hq hw 10 rfl rfl;refine⟨[],[(O,.keep [1,2,3,4,5,11,12,14,31,32,33,49,50,51,52,53,54,55,56,57,58,59,60,61,62,63,64,4] [5] [90000,3200,3456,3584,3840])],X,X,?_⟩;try simp only[A9,A6,A7,zA,I,A2,C,E,F,G,H,J]
   refine As (es:=Y rI ([v5]:P U)) X (by simp only[St.fresh,zB,zC,Ak]; simp[AV.cells,V1.cells,AC.uses]) ?_;try simp only[A2,C,E,F,G,H,J]
   exact SH rec_ h_rec a1 a2 a3 x1 v5 r9 a0 v6 r18 h14 h15 h16 h17 h18 _ b0 b2 b8 b13 b14
theorem Vr(rec_:X1→(P U)→(P U)→U→(P (P U))→Q (P (P U)))(h_rec:∀(a0:X1) (a1 a2:P U) (a3:U) (a4:P (P U)) zr,rec_ a0 a1 a2 a3 a4=N zr→FCt Z 217 [.d (.ag (X1.row a0)),.d (.sc (.sl (Y rI a1))),.d (.sc (.sl (Y rI a2))),.d (.sc (.int .i64 a3)),.r] 1 (Y (rL rI) a4) (Y (rL rI) zr))(a1 a2:P U)(a3)(x1:U)(v5)(r9)(a0)(v6)(r18)(h14:(A3 ([]:P U).length a1.length 8)=T)(h15:(A3 a1.length ([r9]:P U).length 8)=T)(h16:(A3 ([]:P U).length a2.length 8)=T)(h17:(A3 a2.length ([v5]:P U).length 8)=T)(h18:rec_ a0 (a1++([r9]:P U)) (a2++([v5]:P U)) a3 v6=N r18):∀(f:W) (b0 b2:V) (b8 b13 b14:V),Ad Z Ba (B6 a1 a2 a3 x1 v5 r9 a0 r18) f [b0,T,b2,L,T,T,L,L,b8,L,T,T,L,b13,b14,L,L] (A9 a1 a2 a3 x1 v5 r9 a0 (vc (.own 90000)) (vc (.own 3200)) (vc (.own 3200)) (vc (.own 3200)) (vc (.own 3584)) (vc (.own 3584)) (vc (.own 3584)) (vc (.own 90000)) (vc (.own 90000)) b0 T b2 L T T L L b8 L T T L b13 b14 L [(5,[aL (Y X7.row a0.Points),aL (Y X2.row a0.Segments)])] [(90000,1,Y (rL rI) v6),(3200,1,Y rI ([]:P U)),(3456,1,Y rI ([r9]:P U)),(3840,1,Y rI ([v5]:P U))]):=by
 intro f
 induction f with
 | zero=>intro b0 b2 b8 b13 b14 h; simp at h
 | succ f ih=>
  intro b0 b2 b8 b13 b14;refine Ai ⟨?_,?_,?_,?_,?_,?_,?_,?_,?_,?_,?_,?_,?_,?_,?_,?_,?_,⟨⟩⟩<;>try first | (intro h; cases h; done) | (intro _ hw; simp at hw; done) | (intro h0 hw; obtain rfl:=hz h0 rfl; refine np ?_; simp only[A9,A6,A7,A2,C,E,F,G,H,J]; exact ih _ _ _ _ _)
  ·intro h0 hw;obtain rfl:=hq hw 2 rfl rfl;refine⟨[],[(O,.keep [1,2,3,4,5,11,12,14,31,32,33,49,50,51,52,53,54,55,56,57,58,59,60,61,62,63,64,4] [5] [90000,3200,3456,3840])],X,X,?_⟩;try simp only[h14,A9,A6,A7,zA,I,A2,C,E,F,G,H,J]
   exact Vo rec_ h_rec a1 a2 a3 x1 v5 r9 a0 v6 r18 h14 h15 h16 h17 h18 _ b0 b8 b13 b14
  ·intro h0 hw;refine⟨[],[(O,.keep [1,2,3,4,5,11,12,14,31,32,33,49,50,51,52,53,54,55,56,57,58,59,60,61,62,63,64,4] [5] [90000,3200,3456,3584,3840])],X,X,?_⟩;try simp only[A9,A6,A7,zA,I,A2,C,E,F,G,H,J]
   refine As (es:=Y rI ([]:P U)) X (by simp only[St.fresh,zB,zC,Ak]; simp[AV.cells,V1.cells,AC.uses]) ?_;try simp only[A2,C,E,F,G,H,J]
   exact SH rec_ h_rec a1 a2 a3 x1 v5 r9 a0 v6 r18 h14 h15 h16 h17 h18 _ b0 b2 b8 b13 b14
theorem Vs(rec_:X1→(P U)→(P U)→U→(P (P U))→Q (P (P U)))(h_rec:∀(a0:X1) (a1 a2:P U) (a3:U) (a4:P (P U)) zr,rec_ a0 a1 a2 a3 a4=N zr→FCt Z 217 [.d (.ag (X1.row a0)),.d (.sc (.sl (Y rI a1))),.d (.sc (.sl (Y rI a2))),.d (.sc (.int .i64 a3)),.r] 1 (Y (rL rI) a4) (Y (rL rI) zr))(a1 a2:P U)(a3)(x1:U)(v5)(r9)(a0)(v6)(r18)(h14:(A3 ([]:P U).length a1.length 8)=T)(h15:(A3 a1.length ([r9]:P U).length 8)=T)(h16:(A3 ([]:P U).length a2.length 8)=T)(h17:(A3 a2.length ([v5]:P U).length 8)=T)(h18:rec_ a0 (a1++([r9]:P U)) (a2++([v5]:P U)) a3 v6=N r18):∀(f:W) (b0 b2:V) (b4 b8:V) (b13 b14:V),Ad Z Ba (B6 a1 a2 a3 x1 v5 r9 a0 r18) f [b0,T,b2,L,b4,L,L,T,b8,L,T,T,L,b13,b14,L,L] (A9 a1 a2 a3 x1 v5 r9 a0 (vc (.own 90000)) (vc (.own 3200)) (vc (.own 3200)) (vc (.own 3200)) (vc (.own 3584)) (vc (.own 3584)) (vc (.own 3584)) (vc (.own 90000)) (vc (.own 90000)) b0 T b2 L b4 L L T b8 L T T L b13 b14 L [(5,[aL (Y X7.row a0.Points),aL (Y X2.row a0.Segments)])] [(90000,1,Y (rL rI) v6),(3200,1,Y rI ([]:P U)),(3584,1,Y rI ([]:P U)),(3840,1,Y rI ([v5]:P U))]):=by
 intro f
 induction f with
 | zero=>intro b0 b2 b4 b8 b13 b14 h; simp at h
 | succ f ih=>
  intro b0 b2 b4 b8 b13 b14;refine Ai ⟨?_,?_,?_,?_,?_,?_,?_,?_,?_,?_,?_,?_,?_,?_,?_,?_,?_,⟨⟩⟩<;>try first | (intro h; cases h; done) | (intro _ hw; simp at hw; done) | (intro h0 hw; obtain rfl:=hz h0 rfl; refine np ?_; simp only[A9,A6,A7,A2,C,E,F,G,H,J]; exact ih _ _ _ _ _ _)
  ·intro h0 hw;obtain rfl:=hq hw 2 rfl rfl;refine⟨[],[(O,.keep [1,2,3,4,5,11,12,14,31,32,33,49,50,51,52,53,54,55,56,57,58,59,60,61,62,63,64,4] [5] [90000,3200,3584,3840])],X,X,?_⟩;try simp only[h14,A9,A6,A7,zA,I,A2,C,E,F,G,H,J]
   exact Vp rec_ h_rec a1 a2 a3 x1 v5 r9 a0 v6 r18 h14 h15 h16 h17 h18 _ b0 b4 b8 b13 b14
  ·intro h0 hw;obtain rfl:=hq hw 4 rfl rfl;refine⟨[],[(O,.keep [1,2,3,4,5,11,12,14,31,32,33,49,50,51,52,53,54,55,56,57,58,59,60,61,62,63,64,4] [5] [90000,3200,3456,3584,3840])],X,X,?_⟩;try simp only[A9,A6,A7,zA,I,A2,C,E,F,G,H,J]
   refine As (es:=Y rI ([r9]:P U)) X (by simp only[St.fresh,zB,zC,Ak]; simp[AV.cells,V1.cells,AC.uses]) ?_;try simp only[A2,C,E,F,G,H,J]
   exact SH rec_ h_rec a1 a2 a3 x1 v5 r9 a0 v6 r18 h14 h15 h16 h17 h18 _ b0 b2 b8 b13 b14
theorem Vt(rec_:X1→(P U)→(P U)→U→(P (P U))→Q (P (P U)))(h_rec:∀(a0:X1) (a1 a2:P U) (a3:U) (a4:P (P U)) zr,rec_ a0 a1 a2 a3 a4=N zr→FCt Z 217 [.d (.ag (X1.row a0)),.d (.sc (.sl (Y rI a1))),.d (.sc (.sl (Y rI a2))),.d (.sc (.int .i64 a3)),.r] 1 (Y (rL rI) a4) (Y (rL rI) zr))(a1 a2:P U)(a3)(x1:U)(v5)(r9)(a0)(v6)(r18)(h14:(A3 ([]:P U).length a1.length 8)=T)(h15:(A3 a1.length ([r9]:P U).length 8)=T)(h16:(A3 ([]:P U).length a2.length 8)=T)(h17:(A3 a2.length ([v5]:P U).length 8)=T)(h18:rec_ a0 (a1++([r9]:P U)) (a2++([v5]:P U)) a3 v6=N r18):∀(f:W) (b0 b2:V) (b8 b13 b14:V),Ad Z Ba (B6 a1 a2 a3 x1 v5 r9 a0 r18) f [b0,L,b2,L,T,T,L,T,b8,L,T,T,L,b13,b14,L,L] (A9 a1 a2 a3 x1 v5 r9 a0 (vc (.own 90000)) (vc (.own 3200)) (vc (.own 3200)) (vc (.own 3200)) (vc (.own 3584)) (vc (.own 3584)) (vc (.own 3584)) (vc (.own 90000)) (vc (.own 90000)) b0 L b2 L T T L T b8 L T T L b13 b14 L [(5,[aL (Y X7.row a0.Points),aL (Y X2.row a0.Segments)])] [(90000,1,Y (rL rI) v6),(3456,1,Y rI ([r9]:P U)),(3584,1,Y rI ([]:P U)),(3840,1,Y rI ([v5]:P U))]):=by
 intro f
 induction f with
 | zero=>intro b0 b2 b8 b13 b14 h; simp at h
 | succ f ih=>
  intro b0 b2 b8 b13 b14;refine Ai ⟨?_,?_,?_,?_,?_,?_,?_,?_,?_,?_,?_,?_,?_,?_,?_,?_,?_,⟨⟩⟩<;>try first | (intro h; cases h; done) | (intro _ hw; simp at hw; done) | (intro h0 hw; obtain rfl:=hz h0 rfl; refine np ?_; simp only[A9,A6,A7,A2,C,E,F,G,H,J]; exact ih _ _ _ _ _)
  ·intro h0 hw;refine⟨[],[(O,.keep [1,2,3,4,5,11,12,14,31,32,33,49,50,51,52,53,54,55,56,57,58,59,60,61,62,63,64,4] [5] [90000,3200,3456,3584,3840])],X,X,?_⟩;try simp only[A9,A6,A7,zA,I,A2,C,E,F,G,H,J]
   refine As (es:=Y rI ([]:P U)) X (by simp only[St.fresh,zB,zC,Ak]; simp[AV.cells,V1.cells,AC.uses]) ?_;try simp only[A2,C,E,F,G,H,J]
   exact SH rec_ h_rec a1 a2 a3 x1 v5 r9 a0 v6 r18 h14 h15 h16 h17 h18 _ b0 b2 b8 b13 b14
theorem B2p(rec_:X1→(P U)→(P U)→U→(P (P U))→Q (P (P U)))(h_rec:∀(a0:X1) (a1 a2:P U) (a3:U) (a4:P (P U)) zr,rec_ a0 a1 a2 a3 a4=N zr→FCt Z 217 [.d (.ag (X1.row a0)),.d (.sc (.sl (Y rI a1))),.d (.sc (.sl (Y rI a2))),.d (.sc (.int .i64 a3)),.r] 1 (Y (rL rI) a4) (Y (rL rI) zr))(a1 a2:P U)(a3)(x1:U)(v5)(r9)(a0)(v6)(r18)(h14:(A3 ([]:P U).length a1.length 8)=T)(h15:(A3 a1.length ([r9]:P U).length 8)=T)(h16:(A3 ([]:P U).length a2.length 8)=T)(h17:(A3 a2.length ([v5]:P U).length 8)=T)(h18:rec_ a0 (a1++([r9]:P U)) (a2++([v5]:P U)) a3 v6=N r18):∀(f:W) (b0 b4:V) (b8 b10:V) (b13 b14:V),Ad Z Ba (B6 a1 a2 a3 x1 v5 r9 a0 r18) f [b0,T,T,T,b4,L,L,L,b8,L,b10,L,L,b13,b14,L,L] (A9 a1 a2 a3 x1 v5 r9 a0 (vc (.own 90000)) (vc (.undef)) (vc (.own 3200)) (vc (.own 3200)) (vc (.own 3584)) (vc (.own 3584)) (vc (.own 3584)) (vc (.own 90000)) (vc (.own 90000)) b0 T T T b4 L L L b8 L b10 L L b13 b14 L [(5,[aL (Y X7.row a0.Points),aL (Y X2.row a0.Segments)])] [(90000,1,Y (rL rI) v6),(3200,1,Y rI a1)]):=by
 intro f
 induction f with
 | zero=>intro b0 b4 b8 b10 b13 b14 h; simp at h
 | succ f ih=>
  intro b0 b4 b8 b10 b13 b14;refine Ai ⟨?_,?_,?_,?_,?_,?_,?_,?_,?_,?_,?_,?_,?_,?_,?_,?_,?_,⟨⟩⟩<;>try first | (intro h; cases h; done) | (intro _ hw; simp at hw; done) | (intro h0 hw; obtain rfl:=hz h0 rfl; refine np ?_; simp only[A9,A6,A7,A2,C,E,F,G,H,J]; exact ih _ _ _ _ _ _)
  ·intro h0 hw;obtain rfl:=hq hw 4 rfl rfl;refine⟨[],[(O,.keep [1,2,3,4,5,11,12,14,31,32,33,49,50,51,52,53,54,55,56,57,58,59,60,61,62,63,64,4] [5] [90000,3200,3456])],X,X,?_⟩;try simp only[A9,A6,A7,zA,I,A2,C,E,F,G,H,J]
   refine As (es:=Y rI ([r9]:P U)) X (by simp only[St.fresh,zB,zC,Ak]; simp[AV.cells,V1.cells,AC.uses]) ?_;try simp only[A2,C,E,F,G,H,J]
   exact dt rec_ h_rec a1 a2 a3 x1 v5 r9 a0 v6 r18 h14 h15 h16 h17 h18 _ b0 b8 b10 b13 b14
  ·intro h0 hw;refine⟨[],[(O,.keep [1,2,3,4,5,11,12,14,31,32,33,49,50,51,52,53,54,55,56,57,58,59,60,61,62,63,64,4] [5] [90000,3200,3584])],X,X,?_⟩;try simp only[A9,A6,A7,zA,I,A2,C,E,F,G,H,J]
   refine As (es:=Y rI ([]:P U)) X (by simp only[St.fresh,zB,zC,Ak]; simp[AV.cells,V1.cells,AC.uses]) ?_;try simp only[A2,C,E,F,G,H,J]
   exact du rec_ h_rec a1 a2 a3 x1 v5 r9 a0 v6 r18 h14 h15 h16 h17 h18 _ b0 b4 b8 b10 b13 b14
  ·intro h0 hw;obtain rfl:=hq hw 10 rfl rfl;refine⟨[],[(O,.keep [1,2,3,4,5,11,12,14,31,32,33,49,50,51,52,53,54,55,56,57,58,59,60,61,62,63,64,4] [5] [90000,3200,3840])],X,X,?_⟩;try simp only[A9,A6,A7,zA,I,A2,C,E,F,G,H,J]
   refine As (es:=Y rI ([v5]:P U)) X (by simp only[St.fresh,zB,zC,Ak]; simp[AV.cells,V1.cells,AC.uses]) ?_;try simp only[A2,C,E,F,G,H,J]
   exact dv rec_ h_rec a1 a2 a3 x1 v5 r9 a0 v6 r18 h14 h15 h16 h17 h18 _ b0 b4 b8 b13 b14
theorem dw(rec_:X1→(P U)→(P U)→U→(P (P U))→Q (P (P U)))(h_rec:∀(a0:X1) (a1 a2:P U) (a3:U) (a4:P (P U)) zr,rec_ a0 a1 a2 a3 a4=N zr→FCt Z 217 [.d (.ag (X1.row a0)),.d (.sc (.sl (Y rI a1))),.d (.sc (.sl (Y rI a2))),.d (.sc (.int .i64 a3)),.r] 1 (Y (rL rI) a4) (Y (rL rI) zr))(a1 a2:P U)(a3)(x1:U)(v5)(r9)(a0)(v6)(r18)(h14:(A3 ([]:P U).length a1.length 8)=T)(h15:(A3 a1.length ([r9]:P U).length 8)=T)(h16:(A3 ([]:P U).length a2.length 8)=T)(h17:(A3 a2.length ([v5]:P U).length 8)=T)(h18:rec_ a0 (a1++([r9]:P U)) (a2++([v5]:P U)) a3 v6=N r18):∀(f:W) (b0 b2:V) (b8 b10:V) (b13 b14:V),Ad Z Ba (B6 a1 a2 a3 x1 v5 r9 a0 r18) f [b0,T,b2,L,T,T,L,L,b8,L,b10,L,L,b13,b14,L,L] (A9 a1 a2 a3 x1 v5 r9 a0 (vc (.own 90000)) (vc (.own 3200)) (vc (.own 3200)) (vc (.own 3200)) (vc (.own 3584)) (vc (.own 3584)) (vc (.own 3584)) (vc (.own 90000)) (vc (.own 90000)) b0 T b2 L T T L L b8 L b10 L L b13 b14 L [(5,[aL (Y X7.row a0.Points),aL (Y X2.row a0.Segments)])] [(90000,1,Y (rL rI) v6),(3200,1,Y rI ([]:P U)),(3456,1,Y rI ([r9]:P U))]):=by
 intro f
 induction f with
 | zero=>intro b0 b2 b8 b10 b13 b14 h; simp at h
 | succ f ih=>
  intro b0 b2 b8 b10 b13 b14;refine Ai ⟨?_,?_,?_,?_,?_,?_,?_,?_,?_,?_,?_,?_,?_,?_,?_,?_,?_,⟨⟩⟩<;>try first | (intro h; cases h; done) | (intro _ hw; simp at hw; done) | (intro h0 hw; obtain rfl:=hz h0 rfl; refine np ?_; simp only[A9,A6,A7,A2,C,E,F,G,H,J]; exact ih _ _ _ _ _ _)
  ·intro h0 hw;obtain rfl:=hq hw 2 rfl rfl;refine⟨[],[(O,.keep [1,2,3,4,5,11,12,14,31,32,33,49,50,51,52,53,54,55,56,57,58,59,60,61,62,63,64,4] [5] [90000,3200,3456])],X,X,?_⟩;try simp only[h14,A9,A6,A7,zA,I,A2,C,E,F,G,H,J]
   exact dt rec_ h_rec a1 a2 a3 x1 v5 r9 a0 v6 r18 h14 h15 h16 h17 h18 _ b0 b8 b10 b13 b14
  ·intro h0 hw;refine⟨[],[(O,.keep [1,2,3,4,5,11,12,14,31,32,33,49,50,51,52,53,54,55,56,57,58,59,60,61,62,63,64,4] [5] [90000,3200,3456,3584])],X,X,?_⟩;try simp only[A9,A6,A7,zA,I,A2,C,E,F,G,H,J]
   refine As (es:=Y rI ([]:P U)) X (by simp only[St.fresh,zB,zC,Ak]; simp[AV.cells,V1.cells,AC.uses]) ?_;try simp only[A2,C,E,F,G,H,J]
   exact Vq rec_ h_rec a1 a2 a3 x1 v5 r9 a0 v6 r18 h14 h15 h16 h17 h18 _ b0 b2 b8 b10 b13 b14
  ·intro h0 hw;obtain rfl:=hq hw 10 rfl rfl;refine⟨[],[(O,.keep [1,2,3,4,5,11,12,14,31,32,33,49,50,51,52,53,54,55,56,57,58,59,60,61,62,63,64,4] [5] [90000,3200,3456,3840])],X,X,?_⟩;try simp only[A9,A6,A7,zA,I,A2,C,E,F,G,H,J]
   refine As (es:=Y rI ([v5]:P U)) X (by simp only[St.fresh,zB,zC,Ak]; simp[AV.cells,V1.cells,AC.uses]) ?_;try simp only[A2,C,E,F,G,H,J]
   exact Vr rec_ h_rec a1 a2 a3 x1 v5 r9 a0 v6 r18 h14 h15 h16 h17 h18 _ b0 b2 b8 b13 b14
theorem dx(rec_:X1→(P U)→(P U)→U→(P (P U))→Q (P (P U)))(h_rec:∀(a0:X1) (a1 a2:P U) (a3:U) (a4:P (P U)) zr,rec_ a0 a1 a2 a3 a4=N zr→FCt Z 217 [.d (.ag (X1.row a0)),.d (.sc (.sl (Y rI a1))),.d (.sc (.sl (Y rI a2))),.d (.sc (.int .i64 a3)),.r] 1 (Y (rL rI) a4) (Y (rL rI) zr))(a1 a2:P U)(a3)(x1:U)(v5)(r9)(a0)(v6)(r18)(h14:(A3 ([]:P U).length a1.length 8)=T)(h15:(A3 a1.length ([r9]:P U).length 8)=T)(h16:(A3 ([]:P U).length a2.length 8)=T)(h17:(A3 a2.length ([v5]:P U).length 8)=T)(h18:rec_ a0 (a1++([r9]:P U)) (a2++([v5]:P U)) a3 v6=N r18):∀(f:W) (b0 b2:V) (b4 b8:V) (b10 b13 b14:V),Ad Z Ba (B6 a1 a2 a3 x1 v5 r9 a0 r18) f [b0,T,b2,L,b4,L,L,T,b8,L,b10,L,L,b13,b14,L,L] (A9 a1 a2 a3 x1 v5 r9 a0 (vc (.own 90000)) (vc (.own 3200)) (vc (.own 3200)) (vc (.own 3200)) (vc (.own 3584)) (vc (.own 3584)) (vc (.own 3584)) (vc (.own 90000)) (vc (.own 90000)) b0 T b2 L b4 L L T b8 L b10 L L b13 b14 L [(5,[aL (Y X7.row a0.Points),aL (Y X2.row a0.Segments)])] [(90000,1,Y (rL rI) v6),(3200,1,Y rI ([]:P U)),(3584,1,Y rI ([]:P U))]):=by
 intro f
 induction f with
 | zero=>intro b0 b2 b4 b8 b10 b13 b14 h; simp at h
 | succ f ih=>
  intro b0 b2 b4 b8 b10 b13 b14;refine Ai ⟨?_,?_,?_,?_,?_,?_,?_,?_,?_,?_,?_,?_,?_,?_,?_,?_,?_,⟨⟩⟩<;>try first | (intro h; cases h; done) | (intro _ hw; simp at hw; done) | (intro h0 hw; obtain rfl:=hz h0 rfl; refine np ?_; simp only[A9,A6,A7,A2,C,E,F,G,H,J]; exact ih _ _ _ _ _ _ _)
  ·intro h0 hw;obtain rfl:=hq hw 2 rfl rfl;refine⟨[],[(O,.keep [1,2,3,4,5,11,12,14,31,32,33,49,50,51,52,53,54,55,56,57,58,59,60,61,62,63,64,4] [5] [90000,3200,3584])],X,X,?_⟩;try simp only[h14,A9,A6,A7,zA,I,A2,C,E,F,G,H,J]
   exact du rec_ h_rec a1 a2 a3 x1 v5 r9 a0 v6 r18 h14 h15 h16 h17 h18 _ b0 b4 b8 b10 b13 b14
  ·intro h0 hw;obtain rfl:=hq hw 4 rfl rfl;refine⟨[],[(O,.keep [1,2,3,4,5,11,12,14,31,32,33,49,50,51,52,53,54,55,56,57,58,59,60,61,62,63,64,4] [5] [90000,3200,3456,3584])],X,X,?_⟩;try simp only[A9,A6,A7,zA,I,A2,C,E,F,G,H,J]
   refine As (es:=Y rI ([r9]:P U)) X (by simp only[St.fresh,zB,zC,Ak]; simp[AV.cells,V1.cells,AC.uses]) ?_;try simp only[A2,C,E,F,G,H,J]
   exact Vq rec_ h_rec a1 a2 a3 x1 v5 r9 a0 v6 r18 h14 h15 h16 h17 h18 _ b0 b2 b8 b10 b13 b14
  ·intro h0 hw;obtain rfl:=hq hw 10 rfl rfl;refine⟨[],[(O,.keep [1,2,3,4,5,11,12,14,31,32,33,49,50,51,52,53,54,55,56,57,58,59,60,61,62,63,64,4] [5] [90000,3200,3584,3840])],X,X,?_⟩;try simp only[A9,A6,A7,zA,I,A2,C,E,F,G,H,J]
   refine As (es:=Y rI ([v5]:P U)) X (by simp only[St.fresh,zB,zC,Ak]; simp[AV.cells,V1.cells,AC.uses]) ?_;try simp only[A2,C,E,F,G,H,J]
   exact Vs rec_ h_rec a1 a2 a3 x1 v5 r9 a0 v6 r18 h14 h15 h16 h17 h18 _ b0 b2 b4 b8 b13 b14
theorem dy(rec_:X1→(P U)→(P U)→U→(P (P U))→Q (P (P U)))(h_rec:∀(a0:X1) (a1 a2:P U) (a3:U) (a4:P (P U)) zr,rec_ a0 a1 a2 a3 a4=N zr→FCt Z 217 [.d (.ag (X1.row a0)),.d (.sc (.sl (Y rI a1))),.d (.sc (.sl (Y rI a2))),.d (.sc (.int .i64 a3)),.r] 1 (Y (rL rI) a4) (Y (rL rI) zr))(a1 a2:P U)(a3)(x1:U)(v5)(r9)(a0)(v6)(r18)(h14:(A3 ([]:P U).length a1.length 8)=T)(h15:(A3 a1.length ([r9]:P U).length 8)=T)(h16:(A3 ([]:P U).length a2.length 8)=T)(h17:(A3 a2.length ([v5]:P U).length 8)=T)(h18:rec_ a0 (a1++([r9]:P U)) (a2++([v5]:P U)) a3 v6=N r18):∀(f:W) (b0 b2:V) (b4 b8:V) (b13 b14:V),Ad Z Ba (B6 a1 a2 a3 x1 v5 r9 a0 r18) f [b0,T,b2,L,b4,L,L,L,b8,L,T,T,L,b13,b14,L,L] (A9 a1 a2 a3 x1 v5 r9 a0 (vc (.own 90000)) (vc (.own 3200)) (vc (.own 3200)) (vc (.own 3200)) (vc (.own 3584)) (vc (.own 3584)) (vc (.own 3584)) (vc (.own 90000)) (vc (.own 90000)) b0 T b2 L b4 L L L b8 L T T L b13 b14 L [(5,[aL (Y X7.row a0.Points),aL (Y X2.row a0.Segments)])] [(90000,1,Y (rL rI) v6),(3200,1,Y rI ([]:P U)),(3840,1,Y rI ([v5]:P U))]):=by
 intro f
 induction f with
 | zero=>intro b0 b2 b4 b8 b13 b14 h; simp at h
 | succ f ih=>
  intro b0 b2 b4 b8 b13 b14;refine Ai ⟨?_,?_,?_,?_,?_,?_,?_,?_,?_,?_,?_,?_,?_,?_,?_,?_,?_,⟨⟩⟩<;>try first | (intro h; cases h; done) | (intro _ hw; simp at hw; done) | (intro h0 hw; obtain rfl:=hz h0 rfl; refine np ?_; simp only[A9,A6,A7,A2,C,E,F,G,H,J]; exact ih _ _ _ _ _ _)
  ·intro h0 hw;obtain rfl:=hq hw 2 rfl rfl;refine⟨[],[(O,.keep [1,2,3,4,5,11,12,14,31,32,33,49,50,51,52,53,54,55,56,57,58,59,60,61,62,63,64,4] [5] [90000,3200,3840])],X,X,?_⟩;try simp only[h14,A9,A6,A7,zA,I,A2,C,E,F,G,H,J]
   exact dv rec_ h_rec a1 a2 a3 x1 v5 r9 a0 v6 r18 h14 h15 h16 h17 h18 _ b0 b4 b8 b13 b14
  ·intro h0 hw;obtain rfl:=hq hw 4 rfl rfl;refine⟨[],[(O,.keep [1,2,3,4,5,11,12,14,31,32,33,49,50,51,52,53,54,55,56,57,58,59,60,61,62,63,64,4] [5] [90000,3200,3456,3840])],X,X,?_⟩;try simp only[A9,A6,A7,zA,I,A2,C,E,F,G,H,J]
   refine As (es:=Y rI ([r9]:P U)) X (by simp only[St.fresh,zB,zC,Ak]; simp[AV.cells,V1.cells,AC.uses]) ?_;try simp only[A2,C,E,F,G,H,J]
   exact Vr rec_ h_rec a1 a2 a3 x1 v5 r9 a0 v6 r18 h14 h15 h16 h17 h18 _ b0 b2 b8 b13 b14
  ·intro h0 hw;refine⟨[],[(O,.keep [1,2,3,4,5,11,12,14,31,32,33,49,50,51,52,53,54,55,56,57,58,59,60,61,62,63,64,4] [5] [90000,3200,3584,3840])],X,X,?_⟩;try simp only[A9,A6,A7,zA,I,A2,C,E,F,G,H,J]
   refine As (es:=Y rI ([]:P U)) X (by simp only[St.fresh,zB,zC,Ak]; simp[AV.cells,V1.cells,AC.uses]) ?_;try simp only[A2,C,E,F,G,H,J]
   exact Vs rec_ h_rec a1 a2 a3 x1 v5 r9 a0 v6 r18 h14 h15 h16 h17 h18 _ b0 b2 b4 b8 b13 b14
theorem dz(rec_:X1→(P U)→(P U)→U→(P (P U))→Q (P (P U)))(h_rec:∀(a0:X1) (a1 a2:P U) (a3:U) (a4:P (P U)) zr,rec_ a0 a1 a2 a3 a4=N zr→FCt Z 217 [.d (.ag (X1.row a0)),.d (.sc (.sl (Y rI a1))),.d (.sc (.sl (Y rI a2))),.d (.sc (.int .i64 a3)),.r] 1 (Y (rL rI) a4) (Y (rL rI) zr))(a1 a2:P U)(a3)(x1:U)(v5)(r9)(a0)(v6)(r18)(h14:(A3 ([]:P U).length a1.length 8)=T)(h15:(A3 a1.length ([r9]:P U).length 8)=T)(h16:(A3 ([]:P U).length a2.length 8)=T)(h17:(A3 a2.length ([v5]:P U).length 8)=T)(h18:rec_ a0 (a1++([r9]:P U)) (a2++([v5]:P U)) a3 v6=N r18):∀(f:W) (b0 b2:V) (b8 b10:V) (b13 b14:V),Ad Z Ba (B6 a1 a2 a3 x1 v5 r9 a0 r18) f [b0,L,b2,L,T,T,L,T,b8,L,b10,L,L,b13,b14,L,L] (A9 a1 a2 a3 x1 v5 r9 a0 (vc (.own 90000)) (vc (.own 3200)) (vc (.own 3200)) (vc (.own 3200)) (vc (.own 3584)) (vc (.own 3584)) (vc (.own 3584)) (vc (.own 90000)) (vc (.own 90000)) b0 L b2 L T T L T b8 L b10 L L b13 b14 L [(5,[aL (Y X7.row a0.Points),aL (Y X2.row a0.Segments)])] [(90000,1,Y (rL rI) v6),(3456,1,Y rI ([r9]:P U)),(3584,1,Y rI ([]:P U))]):=by
 intro f
 induction f with
 | zero=>intro b0 b2 b8 b10 b13 b14 h; simp at h
 | succ f ih=>
  intro b0 b2 b8 b10 b13 b14;refine Ai ⟨?_,?_,?_,?_,?_,?_,?_,?_,?_,?_,?_,?_,?_,?_,?_,?_,?_,⟨⟩⟩<;>try first | (intro h; cases h; done) | (intro _ hw; simp at hw; done) | (intro h0 hw; obtain rfl:=hz h0 rfl; refine np ?_; simp only[A9,A6,A7,A2,C,E,F,G,H,J]; exact ih _ _ _ _ _ _)
  ·intro h0 hw;refine⟨[],[(O,.keep [1,2,3,4,5,11,12,14,31,32,33,49,50,51,52,53,54,55,56,57,58,59,60,61,62,63,64,4] [5] [90000,3200,3456,3584])],X,X,?_⟩;try simp only[A9,A6,A7,zA,I,A2,C,E,F,G,H,J]
   refine As (es:=Y rI ([]:P U)) X (by simp only[St.fresh,zB,zC,Ak]; simp[AV.cells,V1.cells,AC.uses]) ?_;try simp only[A2,C,E,F,G,H,J]
   exact Vq rec_ h_rec a1 a2 a3 x1 v5 r9 a0 v6 r18 h14 h15 h16 h17 h18 _ b0 b2 b8 b10 b13 b14
  ·intro h0 hw;obtain rfl:=hq hw 10 rfl rfl;refine⟨[],[(O,.keep [1,2,3,4,5,11,12,14,31,32,33,49,50,51,52,53,54,55,56,57,58,59,60,61,62,63,64,4] [5] [90000,3456,3584,3840])],X,X,?_⟩;try simp only[A9,A6,A7,zA,I,A2,C,E,F,G,H,J]
   refine As (es:=Y rI ([v5]:P U)) X (by simp only[St.fresh,zB,zC,Ak]; simp[AV.cells,V1.cells,AC.uses]) ?_;try simp only[A2,C,E,F,G,H,J]
   exact Vt rec_ h_rec a1 a2 a3 x1 v5 r9 a0 v6 r18 h14 h15 h16 h17 h18 _ b0 b2 b8 b13 b14
theorem eA(rec_:X1→(P U)→(P U)→U→(P (P U))→Q (P (P U)))(h_rec:∀(a0:X1) (a1 a2:P U) (a3:U) (a4:P (P U)) zr,rec_ a0 a1 a2 a3 a4=N zr→FCt Z 217 [.d (.ag (X1.row a0)),.d (.sc (.sl (Y rI a1))),.d (.sc (.sl (Y rI a2))),.d (.sc (.int .i64 a3)),.r] 1 (Y (rL rI) a4) (Y (rL rI) zr))(a1 a2:P U)(a3)(x1:U)(v5)(r9)(a0)(v6)(r18)(h14:(A3 ([]:P U).length a1.length 8)=T)(h15:(A3 a1.length ([r9]:P U).length 8)=T)(h16:(A3 ([]:P U).length a2.length 8)=T)(h17:(A3 a2.length ([v5]:P U).length 8)=T)(h18:rec_ a0 (a1++([r9]:P U)) (a2++([v5]:P U)) a3 v6=N r18):∀(f:W) (b0 b2:V) (b8 b13 b14:V),Ad Z Ba (B6 a1 a2 a3 x1 v5 r9 a0 r18) f [b0,L,b2,L,T,T,L,L,b8,L,T,T,L,b13,b14,L,L] (A9 a1 a2 a3 x1 v5 r9 a0 (vc (.own 90000)) (vc (.own 3200)) (vc (.own 3200)) (vc (.own 3200)) (vc (.own 3584)) (vc (.own 3584)) (vc (.own 3584)) (vc (.own 90000)) (vc (.own 90000)) b0 L b2 L T T L L b8 L T T L b13 b14 L [(5,[aL (Y X7.row a0.Points),aL (Y X2.row a0.Segments)])] [(90000,1,Y (rL rI) v6),(3456,1,Y rI ([r9]:P U)),(3840,1,Y rI ([v5]:P U))]):=by
 intro f
 induction f with
 | zero=>intro b0 b2 b8 b13 b14 h; simp at h
 | succ f ih=>
  intro b0 b2 b8 b13 b14;refine Ai ⟨?_,?_,?_,?_,?_,?_,?_,?_,?_,?_,?_,?_,?_,?_,?_,?_,?_,⟨⟩⟩<;>try first | (intro h; cases h; done) | (intro _ hw; simp at hw; done) | (intro h0 hw; obtain rfl:=hz h0 rfl; refine np ?_; simp only[A9,A6,A7,A2,C,E,F,G,H,J]; exact ih _ _ _ _ _)
  ·intro h0 hw;refine⟨[],[(O,.keep [1,2,3,4,5,11,12,14,31,32,33,49,50,51,52,53,54,55,56,57,58,59,60,61,62,63,64,4] [5] [90000,3200,3456,3840])],X,X,?_⟩;try simp only[A9,A6,A7,zA,I,A2,C,E,F,G,H,J]
   refine As (es:=Y rI ([]:P U)) X (by simp only[St.fresh,zB,zC,Ak]; simp[AV.cells,V1.cells,AC.uses]) ?_;try simp only[A2,C,E,F,G,H,J]
   exact Vr rec_ h_rec a1 a2 a3 x1 v5 r9 a0 v6 r18 h14 h15 h16 h17 h18 _ b0 b2 b8 b13 b14
  ·intro h0 hw;refine⟨[],[(O,.keep [1,2,3,4,5,11,12,14,31,32,33,49,50,51,52,53,54,55,56,57,58,59,60,61,62,63,64,4] [5] [90000,3456,3584,3840])],X,X,?_⟩;try simp only[A9,A6,A7,zA,I,A2,C,E,F,G,H,J]
   refine As (es:=Y rI ([]:P U)) X (by simp only[St.fresh,zB,zC,Ak]; simp[AV.cells,V1.cells,AC.uses]) ?_;try simp only[A2,C,E,F,G,H,J]
   exact Vt rec_ h_rec a1 a2 a3 x1 v5 r9 a0 v6 r18 h14 h15 h16 h17 h18 _ b0 b2 b8 b13 b14
theorem eB(rec_:X1→(P U)→(P U)→U→(P (P U))→Q (P (P U)))(h_rec:∀(a0:X1) (a1 a2:P U) (a3:U) (a4:P (P U)) zr,rec_ a0 a1 a2 a3 a4=N zr→FCt Z 217 [.d (.ag (X1.row a0)),.d (.sc (.sl (Y rI a1))),.d (.sc (.sl (Y rI a2))),.d (.sc (.int .i64 a3)),.r] 1 (Y (rL rI) a4) (Y (rL rI) zr))(a1 a2:P U)(a3)(x1:U)(v5)(r9)(a0)(v6)(r18)(h14:(A3 ([]:P U).length a1.length 8)=T)(h15:(A3 a1.length ([r9]:P U).length 8)=T)(h16:(A3 ([]:P U).length a2.length 8)=T)(h17:(A3 a2.length ([v5]:P U).length 8)=T)(h18:rec_ a0 (a1++([r9]:P U)) (a2++([v5]:P U)) a3 v6=N r18):∀(f:W) (b0 b2:V) (b4 b8:V) (b13 b14:V),Ad Z Ba (B6 a1 a2 a3 x1 v5 r9 a0 r18) f [b0,L,b2,L,b4,L,L,T,b8,L,T,T,L,b13,b14,L,L] (A9 a1 a2 a3 x1 v5 r9 a0 (vc (.own 90000)) (vc (.own 3200)) (vc (.own 3200)) (vc (.own 3200)) (vc (.own 3584)) (vc (.own 3584)) (vc (.own 3584)) (vc (.own 90000)) (vc (.own 90000)) b0 L b2 L b4 L L T b8 L T T L b13 b14 L [(5,[aL (Y X7.row a0.Points),aL (Y X2.row a0.Segments)])] [(90000,1,Y (rL rI) v6),(3584,1,Y rI ([]:P U)),(3840,1,Y rI ([v5]:P U))]):=by
 intro f
 induction f with
 | zero=>intro b0 b2 b4 b8 b13 b14 h; simp at h
 | succ f ih=>
  intro b0 b2 b4 b8 b13 b14;refine Ai ⟨?_,?_,?_,?_,?_,?_,?_,?_,?_,?_,?_,?_,?_,?_,?_,?_,?_,⟨⟩⟩<;>try first | (intro h; cases h; done) | (intro _ hw; simp at hw; done) | (intro h0 hw; obtain rfl:=hz h0 rfl; refine np ?_; simp only[A9,A6,A7,A2,C,E,F,G,H,J]; exact ih _ _ _ _ _ _)
  ·intro h0 hw;refine⟨[],[(O,.keep [1,2,3,4,5,11,12,14,31,32,33,49,50,51,52,53,54,55,56,57,58,59,60,61,62,63,64,4] [5] [90000,3200,3584,3840])],X,X,?_⟩;try simp only[A9,A6,A7,zA,I,A2,C,E,F,G,H,J]
   refine As (es:=Y rI ([]:P U)) X (by simp only[St.fresh,zB,zC,Ak]; simp[AV.cells,V1.cells,AC.uses]) ?_;try simp only[A2,C,E,F,G,H,J]
   exact Vs rec_ h_rec a1 a2 a3 x1 v5 r9 a0 v6 r18 h14 h15 h16 h17 h18 _ b0 b2 b4 b8 b13 b14
  ·intro h0 hw;obtain rfl:=hq hw 4 rfl rfl;refine⟨[],[(O,.keep [1,2,3,4,5,11,12,14,31,32,33,49,50,51,52,53,54,55,56,57,58,59,60,61,62,63,64,4] [5] [90000,3456,3584,3840])],X,X,?_⟩;try simp only[A9,A6,A7,zA,I,A2,C,E,F,G,H,J]
   refine As (es:=Y rI ([r9]:P U)) X (by simp only[St.fresh,zB,zC,Ak]; simp[AV.cells,V1.cells,AC.uses]) ?_;try simp only[A2,C,E,F,G,H,J]
   exact Vt rec_ h_rec a1 a2 a3 x1 v5 r9 a0 v6 r18 h14 h15 h16 h17 h18 _ b0 b2 b8 b13 b14
theorem B2r(rec_:X1→(P U)→(P U)→U→(P (P U))→Q (P (P U)))(h_rec:∀(a0:X1) (a1 a2:P U) (a3:U) (a4:P (P U)) zr,rec_ a0 a1 a2 a3 a4=N zr→FCt Z 217 [.d (.ag (X1.row a0)),.d (.sc (.sl (Y rI a1))),.d (.sc (.sl (Y rI a2))),.d (.sc (.int .i64 a3)),.r] 1 (Y (rL rI) a4) (Y (rL rI) zr))(a1 a2:P U)(a3)(x1:U)(v5)(r9)(a0)(v6)(r18)(h14:(A3 ([]:P U).length a1.length 8)=T)(h15:(A3 a1.length ([r9]:P U).length 8)=T)(h16:(A3 ([]:P U).length a2.length 8)=T)(h17:(A3 a2.length ([v5]:P U).length 8)=T)(h18:rec_ a0 (a1++([r9]:P U)) (a2++([v5]:P U)) a3 v6=N r18):∀(f:W) (b0 b2:V) (b4 b8:V) (b10 b13 b14:V),Ad Z Ba (B6 a1 a2 a3 x1 v5 r9 a0 r18) f [b0,T,b2,L,b4,L,L,L,b8,L,b10,L,L,b13,b14,L,L] (A9 a1 a2 a3 x1 v5 r9 a0 (vc (.own 90000)) (vc (.own 3200)) (vc (.own 3200)) (vc (.own 3200)) (vc (.own 3584)) (vc (.own 3584)) (vc (.own 3584)) (vc (.own 90000)) (vc (.own 90000)) b0 T b2 L b4 L L L b8 L b10 L L b13 b14 L [(5,[aL (Y X7.row a0.Points),aL (Y X2.row a0.Segments)])] [(90000,1,Y (rL rI) v6),(3200,1,Y rI ([]:P U))]):=by
 intro f
 induction f with
 | zero=>intro b0 b2 b4 b8 b10 b13 b14 h; simp at h
 | succ f ih=>
  intro b0 b2 b4 b8 b10 b13 b14;refine Ai ⟨?_,?_,?_,?_,?_,?_,?_,?_,?_,?_,?_,?_,?_,?_,?_,?_,?_,⟨⟩⟩<;>try first | (intro h; cases h; done) | (intro _ hw; simp at hw; done) | (intro h0 hw; obtain rfl:=hz h0 rfl; refine np ?_; simp only[A9,A6,A7,A2,C,E,F,G,H,J]; exact ih _ _ _ _ _ _ _)
  ·intro h0 hw;obtain rfl:=hq hw 2 rfl rfl;refine⟨[],[(O,.keep [1,2,3,4,5,11,12,14,31,32,33,49,50,51,52,53,54,55,56,57,58,59,60,61,62,63,64,4] [5] [90000,3200])],X,X,?_⟩;try simp only[h14,A9,A6,A7,zA,I,A2,C,E,F,G,H,J]
   exact B2p rec_ h_rec a1 a2 a3 x1 v5 r9 a0 v6 r18 h14 h15 h16 h17 h18 _ b0 b4 b8 b10 b13 b14
  ·intro h0 hw;obtain rfl:=hq hw 4 rfl rfl;refine⟨[],[(O,.keep [1,2,3,4,5,11,12,14,31,32,33,49,50,51,52,53,54,55,56,57,58,59,60,61,62,63,64,4] [5] [90000,3200,3456])],X,X,?_⟩;try simp only[A9,A6,A7,zA,I,A2,C,E,F,G,H,J]
   refine As (es:=Y rI ([r9]:P U)) X (by simp only[St.fresh,zB,zC,Ak]; simp[AV.cells,V1.cells,AC.uses]) ?_;try simp only[A2,C,E,F,G,H,J]
   exact dw rec_ h_rec a1 a2 a3 x1 v5 r9 a0 v6 r18 h14 h15 h16 h17 h18 _ b0 b2 b8 b10 b13 b14
  ·intro h0 hw;refine⟨[],[(O,.keep [1,2,3,4,5,11,12,14,31,32,33,49,50,51,52,53,54,55,56,57,58,59,60,61,62,63,64,4] [5] [90000,3200,3584])],X,X,?_⟩;try simp only[A9,A6,A7,zA,I,A2,C,E,F,G,H,J]
   refine As (es:=Y rI ([]:P U)) X (by simp only[St.fresh,zB,zC,Ak]; simp[AV.cells,V1.cells,AC.uses]) ?_;try simp only[A2,C,E,F,G,H,J]
   exact dx rec_ h_rec a1 a2 a3 x1 v5 r9 a0 v6 r18 h14 h15 h16 h17 h18 _ b0 b2 b4 b8 b10 b13 b14
  ·intro h0 hw;obtain rfl:=hq hw 10 rfl rfl;refine⟨[],[(O,.keep [1,2,3,4,5,11,12,14,31,32,33,49,50,51,52,53,54,55,56,57,58,59,60,61,62,63,64,4] [5] [90000,3200,3840])],X,X,?_⟩;try simp only[A9,A6,A7,zA,I,A2,C,E,F,G,H,J]
   refine As (es:=Y rI ([v5]:P U)) X (by simp only[St.fresh,zB,zC,Ak]; simp[AV.cells,V1.cells,AC.uses]) ?_;try simp only[A2,C,E,F,G,H,J]
   exact dy rec_ h_rec a1 a2 a3 x1 v5 r9 a0 v6 r18 h14 h15 h16 h17 h18 _ b0 b2 b4 b8 b13 b14
theorem B2s(rec_:X1→(P U)→(P U)→U→(P (P U))→Q (P (P U)))(h_rec:∀(a0:X1) (a1 a2:P U) (a3:U) (a4:P (P U)) zr,rec_ a0 a1 a2 a3 a4=N zr→FCt Z 217 [.d (.ag (X1.row a0)),.d (.sc (.sl (Y rI a1))),.d (.sc (.sl (Y rI a2))),.d (.sc (.int .i64 a3)),.r] 1 (Y (rL rI) a4) (Y (rL rI) zr))(a1 a2:P U)(a3)(x1:U)(v5)(r9)(a0)(v6)(r18)(h14:(A3 ([]:P U).length a1.length 8)=T)(h15:(A3 a1.length ([r9]:P U).length 8)=T)(h16:(A3 ([]:P U).length a2.length 8)=T)(h17:(A3 a2.length ([v5]:P U).length 8)=T)(h18:rec_ a0 (a1++([r9]:P U)) (a2++([v5]:P U)) a3 v6=N r18):∀(f:W) (b0 b2:V) (b8 b10:V) (b13 b14:V),Ad Z Ba (B6 a1 a2 a3 x1 v5 r9 a0 r18) f [b0,L,b2,L,T,T,L,L,b8,L,b10,L,L,b13,b14,L,L] (A9 a1 a2 a3 x1 v5 r9 a0 (vc (.own 90000)) (vc (.own 3200)) (vc (.own 3200)) (vc (.own 3200)) (vc (.own 3584)) (vc (.own 3584)) (vc (.own 3584)) (vc (.own 90000)) (vc (.own 90000)) b0 L b2 L T T L L b8 L b10 L L b13 b14 L [(5,[aL (Y X7.row a0.Points),aL (Y X2.row a0.Segments)])] [(90000,1,Y (rL rI) v6),(3456,1,Y rI ([r9]:P U))]):=by
 intro f
 induction f with
 | zero=>intro b0 b2 b8 b10 b13 b14 h; simp at h
 | succ f ih=>
  intro b0 b2 b8 b10 b13 b14;refine Ai ⟨?_,?_,?_,?_,?_,?_,?_,?_,?_,?_,?_,?_,?_,?_,?_,?_,?_,⟨⟩⟩<;>try first | (intro h; cases h; done) | (intro _ hw; simp at hw; done) | (intro h0 hw; obtain rfl:=hz h0 rfl; refine np ?_; simp only[A9,A6,A7,A2,C,E,F,G,H,J]; exact ih _ _ _ _ _ _)
  ·intro h0 hw;refine⟨[],[(O,.keep [1,2,3,4,5,11,12,14,31,32,33,49,50,51,52,53,54,55,56,57,58,59,60,61,62,63,64,4] [5] [90000,3200,3456])],X,X,?_⟩;try simp only[A9,A6,A7,zA,I,A2,C,E,F,G,H,J]
   refine As (es:=Y rI ([]:P U)) X (by simp only[St.fresh,zB,zC,Ak]; simp[AV.cells,V1.cells,AC.uses]) ?_;try simp only[A2,C,E,F,G,H,J]
   exact dw rec_ h_rec a1 a2 a3 x1 v5 r9 a0 v6 r18 h14 h15 h16 h17 h18 _ b0 b2 b8 b10 b13 b14
  ·intro h0 hw;refine⟨[],[(O,.keep [1,2,3,4,5,11,12,14,31,32,33,49,50,51,52,53,54,55,56,57,58,59,60,61,62,63,64,4] [5] [90000,3456,3584])],X,X,?_⟩;try simp only[A9,A6,A7,zA,I,A2,C,E,F,G,H,J]
   refine As (es:=Y rI ([]:P U)) X (by simp only[St.fresh,zB,zC,Ak]; simp[AV.cells,V1.cells,AC.uses]) ?_;try simp only[A2,C,E,F,G,H,J]
   exact dz rec_ h_rec a1 a2 a3 x1 v5 r9 a0 v6 r18 h14 h15 h16 h17 h18 _ b0 b2 b8 b10 b13 b14
  ·intro h0 hw;obtain rfl:=hq hw 10 rfl rfl;refine⟨[],[(O,.keep [1,2,3,4,5,11,12,14,31,32,33,49,50,51,52,53,54,55,56,57,58,59,60,61,62,63,64,4] [5] [90000,3456,3840])],X,X,?_⟩;try simp only[A9,A6,A7,zA,I,A2,C,E,F,G,H,J]
   refine As (es:=Y rI ([v5]:P U)) X (by simp only[St.fresh,zB,zC,Ak]; simp[AV.cells,V1.cells,AC.uses]) ?_;try simp only[A2,C,E,F,G,H,J]
   exact eA rec_ h_rec a1 a2 a3 x1 v5 r9 a0 v6 r18 h14 h15 h16 h17 h18 _ b0 b2 b8 b13 b14
theorem B2t(rec_:X1→(P U)→(P U)→U→(P (P U))→Q (P (P U)))(h_rec:∀(a0:X1) (a1 a2:P U) (a3:U) (a4:P (P U)) zr,rec_ a0 a1 a2 a3 a4=N zr→FCt Z 217 [.d (.ag (X1.row a0)),.d (.sc (.sl (Y rI a1))),.d (.sc (.sl (Y rI a2))),.d (.sc (.int .i64 a3)),.r] 1 (Y (rL rI) a4) (Y (rL rI) zr))(a1 a2:P U)(a3)(x1:U)(v5)(r9)(a0)(v6)(r18)(h14:(A3 ([]:P U).length a1.length 8)=T)(h15:(A3 a1.length ([r9]:P U).length 8)=T)(h16:(A3 ([]:P U).length a2.length 8)=T)(h17:(A3 a2.length ([v5]:P U).length 8)=T)(h18:rec_ a0 (a1++([r9]:P U)) (a2++([v5]:P U)) a3 v6=N r18):∀(f:W) (b0 b2:V) (b4 b8:V) (b10 b13 b14:V),Ad Z Ba (B6 a1 a2 a3 x1 v5 r9 a0 r18) f [b0,L,b2,L,b4,L,L,T,b8,L,b10,L,L,b13,b14,L,L] (A9 a1 a2 a3 x1 v5 r9 a0 (vc (.own 90000)) (vc (.own 3200)) (vc (.own 3200)) (vc (.own 3200)) (vc (.own 3584)) (vc (.own 3584)) (vc (.own 3584)) (vc (.own 90000)) (vc (.own 90000)) b0 L b2 L b4 L L T b8 L b10 L L b13 b14 L [(5,[aL (Y X7.row a0.Points),aL (Y X2.row a0.Segments)])] [(90000,1,Y (rL rI) v6),(3584,1,Y rI ([]:P U))]):=by
 intro f
 induction f with
 | zero=>intro b0 b2 b4 b8 b10 b13 b14 h; simp at h
 | succ f ih=>
  intro b0 b2 b4 b8 b10 b13 b14;refine Ai ⟨?_,?_,?_,?_,?_,?_,?_,?_,?_,?_,?_,?_,?_,?_,?_,?_,?_,⟨⟩⟩<;>try first | (intro h; cases h; done) | (intro _ hw; simp at hw; done) | (intro h0 hw; obtain rfl:=hz h0 rfl; refine np ?_; simp only[A9,A6,A7,A2,C,E,F,G,H,J]; exact ih _ _ _ _ _ _ _)
  ·intro h0 hw;refine⟨[],[(O,.keep [1,2,3,4,5,11,12,14,31,32,33,49,50,51,52,53,54,55,56,57,58,59,60,61,62,63,64,4] [5] [90000,3200,3584])],X,X,?_⟩;try simp only[A9,A6,A7,zA,I,A2,C,E,F,G,H,J]
   refine As (es:=Y rI ([]:P U)) X (by simp only[St.fresh,zB,zC,Ak]; simp[AV.cells,V1.cells,AC.uses]) ?_;try simp only[A2,C,E,F,G,H,J]
   exact dx rec_ h_rec a1 a2 a3 x1 v5 r9 a0 v6 r18 h14 h15 h16 h17 h18 _ b0 b2 b4 b8 b10 b13 b14
  ·intro h0 hw;obtain rfl:=hq hw 4 rfl rfl;refine⟨[],[(O,.keep [1,2,3,4,5,11,12,14,31,32,33,49,50,51,52,53,54,55,56,57,58,59,60,61,62,63,64,4] [5] [90000,3456,3584])],X,X,?_⟩;try simp only[A9,A6,A7,zA,I,A2,C,E,F,G,H,J]
   refine As (es:=Y rI ([r9]:P U)) X (by simp only[St.fresh,zB,zC,Ak]; simp[AV.cells,V1.cells,AC.uses]) ?_;try simp only[A2,C,E,F,G,H,J]
   exact dz rec_ h_rec a1 a2 a3 x1 v5 r9 a0 v6 r18 h14 h15 h16 h17 h18 _ b0 b2 b8 b10 b13 b14
  ·intro h0 hw;obtain rfl:=hq hw 10 rfl rfl;refine⟨[],[(O,.keep [1,2,3,4,5,11,12,14,31,32,33,49,50,51,52,53,54,55,56,57,58,59,60,61,62,63,64,4] [5] [90000,3584,3840])],X,X,?_⟩;try simp only[A9,A6,A7,zA,I,A2,C,E,F,G,H,J]
   refine As (es:=Y rI ([v5]:P U)) X (by simp only[St.fresh,zB,zC,Ak]; simp[AV.cells,V1.cells,AC.uses]) ?_;try simp only[A2,C,E,F,G,H,J]
   exact eB rec_ h_rec a1 a2 a3 x1 v5 r9 a0 v6 r18 h14 h15 h16 h17 h18 _ b0 b2 b4 b8 b13 b14
theorem B2u(rec_:X1→(P U)→(P U)→U→(P (P U))→Q (P (P U)))(h_rec:∀(a0:X1) (a1 a2:P U) (a3:U) (a4:P (P U)) zr,rec_ a0 a1 a2 a3 a4=N zr→FCt Z 217 [.d (.ag (X1.row a0)),.d (.sc (.sl (Y rI a1))),.d (.sc (.sl (Y rI a2))),.d (.sc (.int .i64 a3)),.r] 1 (Y (rL rI) a4) (Y (rL rI) zr))(a1 a2:P U)(a3)(x1:U)(v5)(r9)(a0)(v6)(r18)(h14:(A3 ([]:P U).length a1.length 8)=T)(h15:(A3 a1.length ([r9]:P U).length 8)=T)(h16:(A3 ([]:P U).length a2.length 8)=T)(h17:(A3 a2.length ([v5]:P U).length 8)=T)(h18:rec_ a0 (a1++([r9]:P U)) (a2++([v5]:P U)) a3 v6=N r18):∀(f:W) (b0 b2:V) (b4 b8:V) (b13 b14:V),Ad Z Ba (B6 a1 a2 a3 x1 v5 r9 a0 r18) f [b0,L,b2,L,b4,L,L,L,b8,L,T,T,L,b13,b14,L,L] (A9 a1 a2 a3 x1 v5 r9 a0 (vc (.own 90000)) (vc (.own 3200)) (vc (.own 3200)) (vc (.own 3200)) (vc (.own 3584)) (vc (.own 3584)) (vc (.own 3584)) (vc (.own 90000)) (vc (.own 90000)) b0 L b2 L b4 L L L b8 L T T L b13 b14 L [(5,[aL (Y X7.row a0.Points),aL (Y X2.row a0.Segments)])] [(90000,1,Y (rL rI) v6),(3840,1,Y rI ([v5]:P U))]):=by
 intro f
 induction f with
 | zero=>intro b0 b2 b4 b8 b13 b14 h; simp at h
 | succ f ih=>
  intro b0 b2 b4 b8 b13 b14;refine Ai ⟨?_,?_,?_,?_,?_,?_,?_,?_,?_,?_,?_,?_,?_,?_,?_,?_,?_,⟨⟩⟩<;>try first | (intro h; cases h; done) | (intro _ hw; simp at hw; done) | (intro h0 hw; obtain rfl:=hz h0 rfl; refine np ?_; simp only[A9,A6,A7,A2,C,E,F,G,H,J]; exact ih _ _ _ _ _ _)
  ·intro h0 hw;refine⟨[],[(O,.keep [1,2,3,4,5,11,12,14,31,32,33,49,50,51,52,53,54,55,56,57,58,59,60,61,62,63,64,4] [5] [90000,3200,3840])],X,X,?_⟩;try simp only[A9,A6,A7,zA,I,A2,C,E,F,G,H,J]
   refine As (es:=Y rI ([]:P U)) X (by simp only[St.fresh,zB,zC,Ak]; simp[AV.cells,V1.cells,AC.uses]) ?_;try simp only[A2,C,E,F,G,H,J]
   exact dy rec_ h_rec a1 a2 a3 x1 v5 r9 a0 v6 r18 h14 h15 h16 h17 h18 _ b0 b2 b4 b8 b13 b14
  ·intro h0 hw;obtain rfl:=hq hw 4 rfl rfl;refine⟨[],[(O,.keep [1,2,3,4,5,11,12,14,31,32,33,49,50,51,52,53,54,55,56,57,58,59,60,61,62,63,64,4] [5] [90000,3456,3840])],X,X,?_⟩;try simp only[A9,A6,A7,zA,I,A2,C,E,F,G,H,J]
   refine As (es:=Y rI ([r9]:P U)) X (by simp only[St.fresh,zB,zC,Ak]; simp[AV.cells,V1.cells,AC.uses]) ?_;try simp only[A2,C,E,F,G,H,J]
   exact eA rec_ h_rec a1 a2 a3 x1 v5 r9 a0 v6 r18 h14 h15 h16 h17 h18 _ b0 b2 b8 b13 b14
  ·intro h0 hw;refine⟨[],[(O,.keep [1,2,3,4,5,11,12,14,31,32,33,49,50,51,52,53,54,55,56,57,58,59,60,61,62,63,64,4] [5] [90000,3584,3840])],X,X,?_⟩;try simp only[A9,A6,A7,zA,I,A2,C,E,F,G,H,J]
   refine As (es:=Y rI ([]:P U)) X (by simp only[St.fresh,zB,zC,Ak]; simp[AV.cells,V1.cells,AC.uses]) ?_;try simp only[A2,C,E,F,G,H,J]
   exact eB rec_ h_rec a1 a2 a3 x1 v5 r9 a0 v6 r18 h14 h15 h16 h17 h18 _ b0 b2 b4 b8 b13 b14
theorem B2v(rec_:X1→(P U)→(P U)→U→(P (P U))→Q (P (P U)))(h_rec:∀(a0:X1) (a1 a2:P U) (a3:U) (a4:P (P U)) zr,rec_ a0 a1 a2 a3 a4=N zr→FCt Z 217 [.d (.ag (X1.row a0)),.d (.sc (.sl (Y rI a1))),.d (.sc (.sl (Y rI a2))),.d (.sc (.int .i64 a3)),.r] 1 (Y (rL rI) a4) (Y (rL rI) zr))(a1 a2:P U)(a3)(x1:U)(v5)(r9)(a0)(v6)(r18)(h14:(A3 ([]:P U).length a1.length 8)=T)(h15:(A3 a1.length ([r9]:P U).length 8)=T)(h16:(A3 ([]:P U).length a2.length 8)=T)(h17:(A3 a2.length ([v5]:P U).length 8)=T)(h18:rec_ a0 (a1++([r9]:P U)) (a2++([v5]:P U)) a3 v6=N r18):∀(f:W) (b0 b2:V) (b4 b8:V) (b10 b13 b14:V),Ad Z Ba (B6 a1 a2 a3 x1 v5 r9 a0 r18) f [b0,L,b2,L,b4,L,L,L,b8,L,b10,L,L,b13,b14,L,L] (A9 a1 a2 a3 x1 v5 r9 a0 (vc (.own 90000)) (vc (.own 3200)) (vc (.own 3200)) (vc (.own 3200)) (vc (.own 3584)) (vc (.own 3584)) (vc (.own 3584)) (vc (.own 90000)) (.undef) b0 L b2 L b4 L L L b8 L b10 L L b13 b14 L [(5,[aL (Y X7.row a0.Points),aL (Y X2.row a0.Segments)])] [(90000,1,Y (rL rI) v6)]):=by
 intro f
 induction f with
 | zero=>intro b0 b2 b4 b8 b10 b13 b14 h; simp at h
 | succ f ih=>
  intro b0 b2 b4 b8 b10 b13 b14;refine Ai ⟨?_,?_,?_,?_,?_,?_,?_,?_,?_,?_,?_,?_,?_,?_,?_,?_,?_,⟨⟩⟩<;>try first | (intro _ hw; simp at hw; done) | (intro h0 hw; obtain rfl:=hz h0 rfl; refine np ?_; simp only[A9,A6,A7,A2,C,E,F,G,H,J]; exact ih _ _ _ _ _ _ _)
  ·intro h0 hw;refine⟨[],[(O,.keep [1,2,3,4,5,11,12,14,31,32,33,49,50,51,52,53,54,55,56,57,58,59,60,61,62,63,64,4] [5] [90000,3200])],X,X,?_⟩;try simp only[A9,A6,A7,zA,I,A2,C,E,F,G,H,J]
   refine As (es:=Y rI ([]:P U)) X (by simp only[St.fresh,zB,zC,Ak]; simp[AV.cells,V1.cells,AC.uses]) ?_;try simp only[A2,C,E,F,G,H,J]
   exact B2r rec_ h_rec a1 a2 a3 x1 v5 r9 a0 v6 r18 h14 h15 h16 h17 h18 _ b0 b2 b4 b8 b10 b13 b14
  ·intro h0 hw;obtain rfl:=hq hw 4 rfl rfl;refine⟨[],[(O,.keep [1,2,3,4,5,11,12,14,31,32,33,49,50,51,52,53,54,55,56,57,58,59,60,61,62,63,64,4] [5] [90000,3456])],X,X,?_⟩;try simp only[A9,A6,A7,zA,I,A2,C,E,F,G,H,J]
   refine As (es:=Y rI ([r9]:P U)) X (by simp only[St.fresh,zB,zC,Ak]; simp[AV.cells,V1.cells,AC.uses]) ?_;try simp only[A2,C,E,F,G,H,J]
   exact B2s rec_ h_rec a1 a2 a3 x1 v5 r9 a0 v6 r18 h14 h15 h16 h17 h18 _ b0 b2 b8 b10 b13 b14
  ·intro h0 hw;refine⟨[],[(O,.keep [1,2,3,4,5,11,12,14,31,32,33,49,50,51,52,53,54,55,56,57,58,59,60,61,62,63,64,4] [5] [90000,3584])],X,X,?_⟩;try simp only[A9,A6,A7,zA,I,A2,C,E,F,G,H,J]
   refine As (es:=Y rI ([]:P U)) X (by simp only[St.fresh,zB,zC,Ak]; simp[AV.cells,V1.cells,AC.uses]) ?_;try simp only[A2,C,E,F,G,H,J]
   exact B2t rec_ h_rec a1 a2 a3 x1 v5 r9 a0 v6 r18 h14 h15 h16 h17 h18 _ b0 b2 b4 b8 b10 b13 b14
  ·intro h0 hw;obtain rfl:=hq hw 10 rfl rfl;refine⟨[],[(O,.keep [1,2,3,4,5,11,12,14,31,32,33,49,50,51,52,53,54,55,56,57,58,59,60,61,62,63,64,4] [5] [90000,3840])],X,X,?_⟩;try simp only[A9,A6,A7,zA,I,A2,C,E,F,G,H,J]
   refine As (es:=Y rI ([v5]:P U)) X (by simp only[St.fresh,zB,zC,Ak]; simp[AV.cells,V1.cells,AC.uses]) ?_;try simp only[A2,C,E,F,G,H,J]
   exact B2u rec_ h_rec a1 a2 a3 x1 v5 r9 a0 v6 r18 h14 h15 h16 h17 h18 _ b0 b2 b4 b8 b13 b14
def ii:=fun a1 a2 a3 x1 v5 r9 (a0:X1) v6 (k_:V→Q (P (P U)))=>∀{v12} {zr},k_ v12=N zr→Kh Z 217 RE 31 [1,2,3,4,5,11,12,14,31,32,33,48] [5] [90000] ⟨[pL 1 rI a1,pL 2 rI a2,pI 3 a3,pW 4 90000,pB 5,pI 11 x1,pI 12 v5,pI 14 r9,pL 31 X2.row a0.Segments,pI 32 (a0.Segments.length:U),pI 33 v5,(48,vc (aB v12))],[(5,[aM X7.row a0.Points,aM X2.row a0.Segments])],[(90000,1,Y (rL rI) v6)]⟩ (K1 [10] 1 (Y (rL rI) zr))
def VY:=fun a1 a2 a3 x1 (a0:X1) (k_:U→(P (P U))→Q (P (P U)))=>∀{v5 v6} {zr},k_ v5 v6=N zr→Kh Z 217 RE 16 [1,2,3,4,5,11,31,32,33] [5] [90000] ⟨[pL 1 rI a1,pL 2 rI a2,pI 3 a3,pW 4 90000,pB 5,pI 11 x1,pL 31 X2.row a0.Segments,pI 32 (a0.Segments.length:U),pI 33 v5],[(5,[aM X7.row a0.Points,aM X2.row a0.Segments])],[(90000,1,Y (rL rI) v6)]⟩ (K1 [10] 1 (Y (rL rI) zr))
theorem eC{rec_:X1→(P U)→(P U)→U→(P (P U))→Q (P (P U))}(h_rec:∀(a0:X1) (a1 a2:P U) (a3:U) (a4:P (P U)) zr,rec_ a0 a1 a2 a3 a4=N zr→FCt Z 217 [.d (.ag (X1.row a0)),.d (.sc (.sl (Y rI a1))),.d (.sc (.sl (Y rI a2))),.d (.sc (.int .i64 a3)),.r] 1 (Y (rL rI) a4) (Y (rL rI) zr)){a1 a2 a3 x1 v5 r9 a0 v6}{Pe}(Zk:VY a1 a2 a3 x1 a0 Pe):ii a1 a2 a3 x1 v5 r9 a0 v6 (Jl rec_ a1 a2 a3 x1 v5 r9 a0 v6 Pe):=by
 intro v12 r h σ hσ S hS;refine ev hS ?_;refine Ax ?_;unfold Jl at h;obtain⟨h13,h⟩|⟨h13,h⟩:=ic h
 ·try simp only[hσ,h13,C,E,F,G,H,J]
  obtain⟨h14,h⟩:=B3 h;obtain⟨h15,h⟩:=B3 h;obtain⟨h16,h⟩:=B3 h;obtain⟨h17,h⟩:=B3 h;obtain⟨r18,h18,h⟩:=ob h;refine Ee (ks:= [1,2,3,4,5,11,12,14,31,32,33]) (bs:= [5]) (rs:= [90000]) (τ:=(B6 a1 a2 a3 x1 v5 r9 a0 r18)) X (B2v rec_ h_rec a1 a2 a3 x1 v5 r9 a0 v6 r18 h14 h15 h16 h17 h18 _ L L L L L L L) ?_;simp only[B6,A9,A6];try simp only[h13,h14,h15,h16,h17,C,E,F,G,H,J]
  refine Zk h ?_ (by kernel_rfl);try simp only[h13,h14,h15,h16,h17,C,E,F,G,H,J,pL,aM,zG]
 ·try simp only[hσ,h13,C,E,F,G,H,J]
  refine Zk h ?_ (by kernel_rfl);try simp only[h13,C,E,F,G,H,J,pL,aM,zG]
theorem B2w{rec_:X1→(P U)→(P U)→U→(P (P U))→Q (P (P U))}(h_rec:∀(a0:X1) (a1 a2:P U) (a3:U) (a4:P (P U)) zr,rec_ a0 a1 a2 a3 a4=N zr→FCt Z 217 [.d (.ag (X1.row a0)),.d (.sc (.sl (Y rI a1))),.d (.sc (.sl (Y rI a2))),.d (.sc (.int .i64 a3)),.r] 1 (Y (rL rI) a4) (Y (rL rI) zr)){a1 a2 a3 x1 a0}{n:W}:VY a1 a2 a3 x1 a0 (GV rec_ a1 a2 a3 x1 a0 n):=by
 induction n with
 | zero=>intro _ _ r h; cases h
 | succ n ih=>
  intro v5 v6 r h σ hσ S hS;refine ev hS ?_;rw[GV] at h;refine AE (Ax ?_);obtain⟨h7,h⟩|⟨h7,h⟩:=ic h
  ·obtain⟨x8,h8,h⟩:=ob h;try simp only[hσ,h7,h8,C,E,F,G,H,J]
   refine BM ?_;obtain⟨r9,h9,h⟩:=ob h;try simp only[h7,h8,C,E,F,G,H,J]
   refine AA (Ae dI h9) ?_;obtain⟨h10,h⟩|⟨h10,h⟩:=ic h
   ·obtain⟨r11,h11,h⟩:=ob h;try simp only[h7,h8,h10,C,E,F,G,H,J]
    refine AA (Ae dH h11) ?_;try simp only[h7,h8,h10,C,E,F,G,H,J]
    refine eC h_rec ih h ?_ (by kernel_rfl);try simp only[h7,h8,h10,C,E,F,G,H,J,pL,aM,zG]
   ·try simp only[h7,h8,h10,C,E,F,G,H,J]
    refine eC h_rec ih h ?_ (by kernel_rfl);try simp only[h7,h8,h10,C,E,F,G,H,J,pL,aM,zG]
  ·try simp only[hσ,h7,C,E,F,G,H,J]
   cases h;trivial
theorem pK:B1 Z 217=N ((C3 Z 217 RE).strip,[10],67):=by kernel_rfl
theorem A5t(rec_:X1→(P U)→(P U)→U→(P (P U))→Q (P (P U)))(a0:X1)(a1 a2:P U)(a3:U)(a4:P (P U))(r:(P (P U)))(h_rec:∀(a0:X1) (a1 a2:P U) (a3:U) (a4:P (P U)) zr,rec_ a0 a1 a2 a3 a4=N zr→FCt Z 217 [.d (.ag (X1.row a0)),.d (.sc (.sl (Y rI a1))),.d (.sc (.sl (Y rI a2))),.d (.sc (.int .i64 a3)),.r] 1 (Y (rL rI) a4) (Y (rL rI) zr))(h:R6 rec_ a0 a1 a2 a3 a4=N r):FCt Z 217 [.d (.ag (X1.row a0)),.d (.sc (.sl (Y rI a1))),.d (.sc (.sl (Y rI a2))),.d (.sc (.int .i64 a3)),.r] 1 (Y (rL rI) a4) (Y (rL rI) r):=by
 unfold R6 at h;refine Vw (σ:=⟨[(0,va [aL (Y X7.row a0.Points),aL (Y X2.row a0.Segments)]),(1,vc (aL (Y rI a1))),(2,vc (aL (Y rI a2))),(3,vc (aI a3)),(4,vc (.own 90000))],[],[(90000,1,Y (rL rI) a4)]⟩) A4 pK X X ?_;refine Cb RE ?_;have s0:= @Al (Y rI ([]:P U));have s1:= @Al (Y (rL rI) ([a2]:P (P U)));have k0:= @B2w;exact gc
theorem A5u:∀(n:W) (a0:X1) (a1:P U) (a2:P U) (a3:U) (a4:P (P U)) (r:(P (P U))),GW n a0 a1 a2 a3 a4=N r→FCt Z 217 [.d (.ag (X1.row a0)),.d (.sc (.sl (Y rI a1))),.d (.sc (.sl (Y rI a2))),.d (.sc (.int .i64 a3)),.r] 1 (Y (rL rI) a4) (Y (rL rI) r):=by
 intro n
 induction n with
 | zero=>intro _ _ _ _ _ r h; cases h
 | succ n ih=>intro a0 a1 a2 a3 a4 r h; rw[GW] at h; exact A5t (GW n) a0 a1 a2 a3 a4 r ih h
theorem A5s{a0}{a1}{a2}{a3}{a4}{r}(h:Tu a0 a1 a2 a3 a4=N r):FCt Z 217 [.d (.ag (X1.row a0)),.d (.sc (.sl (Y rI a1))),.d (.sc (.sl (Y rI a2))),.d (.sc (.int .i64 a3)),.r] 1 (Y (rL rI) a4) (Y (rL rI) r):=A5u bigN a0 a1 a2 a3 a4 r h
def sw:Hw:=([],[(11,5,(O,.frz 1920))])
instance B75:Ct 190 (∀{a0} {a1} {a2} {r},Of a0 a1 a2=N r→FC Z 190 [.ag (X1.row a0),.sc (.int .i64 a1),.sc (.int .i64 a2)] [.sc (.o 1 (Y (rL rI) r))]):=by
 refine⟨fun{a0} {a1} {a2} {r} h=> ?_⟩;unfold Of at h;refine A5 A4 sw [6] 34 ?_;intro S hS;refine ev hS ?_;simp only[C,E,F,G,H,J];try simp only[C,E,F,G,H,J]
 refine Bg ?_;obtain⟨r1,h1,h⟩:=ob h;try simp only[C,E,F,G,H,J]
 refine AA (Ae A5l h1) ?_;obtain⟨h2,h⟩|⟨h2,h⟩:=ic h
 ·obtain⟨r3,h3,h⟩:=ob h;try simp only[h2,C,E,F,G,H,J]
  refine AA (Ae SE h3) ?_;obtain⟨h4,h⟩|⟨h4,h⟩:=ic h
  ·obtain⟨r5,h5,h⟩:=ob h;try simp only[h2,h4,C,E,F,G,H,J]
   refine AA (Ae SE h5) ?_;obtain⟨h6,h⟩|⟨h6,h⟩:=ic h
   ·try simp only[h2,h4,h6,C,E,F,G,H,J]
    refine Bf (es:=Y rI ([a1]:P U)) ?_;try simp only[h2,h4,h6,C,E,F,G,H,J]
    refine Bf (es:=Y (rL rI) ([]:P (P U))) ?_;try simp only[h2,h4,h6,C,E,F,G,H,J]
    refine Cj ?_;obtain⟨r7,h7,h⟩:=ob h;try simp only[h2,h4,h6,C,E,F,G,H,J]
    refine Ty (A5s h7) 2048 X X X X X ?_;rw[T5];try simp only[h2,h4,h6,C,E,F,G,H,J]
    cases h;exact t0
   ·try simp only[h2,h4,h6,C,E,F,G,H,J]
    cases h;exact t0
  ·try simp only[h2,h4,C,E,F,G,H,J]
   cases h;exact t0
 ·try simp only[h2,C,E,F,G,H,J]
  cases h;exact t0
def Zb:Hw:=([(16,[2,5,11,12,13],[2],[])],[])
def iP:=fun a1 (a0:X1) (k_:U→U→Q U)=>∀{v3 v4} {zr},k_ v3 v4=N zr→Kh Z 191 Zb 16 [2,5,11,12,13] [2] [] ⟨[pB 2,pI 5 v3,pL 11 rI a1,pI 12 (a1.length:U),pI 13 v4],[(2,[aM X7.row a0.Points,aM X2.row a0.Segments])],[]⟩ (A8 [4] [.sc (.v (.int .i64 zr))])
theorem B2x{a1 a0}{n:W}:iP a1 a0 (Jc a1 a0 n):=by
 induction n with
 | zero=>intro _ _ r h; cases h
 | succ n ih=>
  intro v3 v4 r h σ hσ;rw[Jc] at h;exact gc
instance dG:Ct 191 (∀{a0} {a1} {r},GR a0 a1=N r→FC Z 191 [.ag (X1.row a0),.sc (.sl (Y rI a1))] [.sc (.v (.int .i64 r))]):=by
 refine⟨fun h=> ?_⟩;unfold GR at h;refine A5 A4 Zb [4] 34 ?_;have k0:= @B2x;exact gc
def U6:Hw:=([(10,[3,8,9,16,17,18],[3],[1024]),(23,[3,8,9,11,16,17,18,32],[3],[1024])],[(3,1,(O,.frz 768))])
def gm:=fun v2 x6 r1 v4 (a0:X1) (k_:V→V→Q ((P U) × V))=>∀{v11 v12} {zr},k_ v11 v12=N zr→Kh Z 166 U6 23 [3,8,9,11,16,17,18,32] [3] [1024] ⟨[pB 3,pL 8 rI v2,(9,vc (aB v11)),pL 11 rI x6,pW 16 1024,pI 17 (r1.length:U),pI 18 v4,(32,vc (aB v12))],[(3,[aM X7.row a0.Points,aM X2.row a0.Segments])],[(1024,1,Y (rL rI) r1)]⟩ (A8 [6,7] [.sc (.v (.sl (Y rI zr.1))),.sc (.v (.bool zr.2))])
def VO:=fun r1 (a0:X1) (k_:(P U)→V→U→Q ((P U) × V))=>∀{v2 v3 v4} {zr},k_ v2 v3 v4=N zr→Kh Z 166 U6 10 [3,8,9,16,17,18] [3] [1024] ⟨[pB 3,pL 8 rI v2,(9,vc (aB v3)),pW 16 1024,pI 17 (r1.length:U),pI 18 v4],[(3,[aM X7.row a0.Points,aM X2.row a0.Segments])],[(1024,1,Y (rL rI) r1)]⟩ (A8 [6,7] [.sc (.v (.sl (Y rI zr.1))),.sc (.v (.bool zr.2))])
theorem eD{v2 x6 r1 v4 a0}{P8}(tK:VO r1 a0 P8):gm v2 x6 r1 v4 a0 (L3 v2 x6 r1 v4 a0 P8):=by
 intro v11 v12 r h σ hσ;unfold L3 at h;have k0:= @tK;exact gc
theorem B2y{r1 a0}{n:W}:VO r1 a0 (FE r1 a0 n):=by
 induction n with
 | zero=>intro _ _ _ r h; cases h
 | succ n ih=>
  intro v2 v3 v4 r h σ hσ S hS;refine ev hS ?_;rw[FE] at h;refine AE (Ax ?_);obtain⟨h5,h⟩|⟨h5,h⟩:=ic h
  ·obtain⟨x6,h6,h⟩:=ob h;have h6n:=Au h6;try simp only[hσ,h5,h6,h6n,C,E,F,G,H,J]
   refine Ay ?_;obtain⟨h7,h⟩|⟨h7,h⟩:=ic h
   ·obtain⟨r9,h9,h⟩:=ob h;try simp only[h5,h6,h6n,h7,C,E,F,G,H,J]
    refine Cc (Ae dG h9) ?_;obtain⟨r10,h10,h⟩:=ob h;try simp only[h5,h6,h6n,h7,C,E,F,G,H,J]
    refine Cc (Ae dG h10) ?_;try simp only[h5,h6,h6n,h7,C,E,F,G,H,J]
    refine eD ih h ?_ (by kernel_rfl);try simp only[h5,h6,h6n,h7,C,E,F,G,H,J,pL,aM,zG]
   ·try simp only[h5,h6,h6n,h7,C,E,F,G,H,J]
    refine eD ih h ?_ (by kernel_rfl);try simp only[h5,h6,h6n,h7,C,E,F,G,H,J,pL,aM,zG]
  ·obtain⟨h14,h⟩|⟨h14,h⟩:=ic h
   ·try simp only[hσ,h5,h14,C,E,F,G,H,J]
    cases h;trivial
   ·try simp only[hσ,h5,h14,C,E,F,G,H,J]
    cases h;trivial
instance B69:Ct 166 (∀{a0} {a1} {a2} {r},NU a0 a1 a2=N r→FC Z 166 [.ag (X1.row a0),.sc (.int .i64 a1),.sc (.int .i64 a2)] [.sc (.v (.sl (Y rI r.1))),.sc (.v (.bool r.2))]):=by
 refine⟨fun h=> ?_⟩;unfold NU at h;refine A5 A4 U6 [6,7] 38 ?_;have s0:= @Al (Y rI ([]:P U));have k0:= @B2y;exact gc
instance B8m:Ct 238 (∀{a0} {a1} {a2} {r},Jm a0 a1 a2=N r→FC Z 238 [.ag (X1.row a0),.sc (.int .i64 a1),.ag (X4.row a2)] [.sc (.v (.bool r))]):=by
 refine⟨fun h=> ?_⟩;unfold Jm at h;refine A5 A4 h0 [6] 21 ?_;exact gc
instance B79:Ct 277 (∀{a0} {r},R5 a0=N r→FC Z 277 [.ag (X4.row a0)] [.sc (.v (.int .i64 r))]):=by
 refine⟨fun h=> ?_⟩;unfold R5 at h;refine A5 A4 h0 [2] 14 ?_;exact gc
instance B7t:Ct 264 (∀{a0} {r},QY a0=N r→FC Z 264 [.ag (X4.row a0)] [.sc (.v (.int .i64 r))]):=by
 refine⟨fun h=> ?_⟩;unfold QY at h;refine A5 A4 h0 [2] 12 ?_;exact gc
instance B7r:Ct 241 (∀{a0} {a1} {a2} {r},O5 a0 a1 a2=N r→FC Z 241 [.ag (X1.row a0),.sc (.int .i64 a1),.ag (X4.row a2)] [.sc (.v (.int .i64 r))]):=by
 refine⟨fun h=> ?_⟩;unfold O5 at h;refine A5 A4 h0 [6] 21 ?_;exact gc
def Zc:Hw:=([(8,[1,4,5,13,14,15],[4,5],[])],[])
def iX:=fun a1 (a0:Xe) (k_:U→U→U→U→Q Xa)=>∀{v2 v3 v4 v5} {zr},k_ v2 v3 v4 v5=N zr→Kh Z 261 Zc 8 [1,4,5,13,14,15] [4,5] [] ⟨[pI 1 a1,pB 4,pB 5,pL 13 zE a0.Surges,pI 14 (a0.Surges.length:U),pI 15 v2],[(4,[aI (0:U),aI (0:U),aI (0:U)]),(5,[aI v3,aI v4,aI v5])],[]⟩ (A8 [.c 4 T 3] [.ag [.v (.int .i64 zr.From),.v (.int .i64 zr.Low),.v (.int .i64 zr.High)]])
theorem B20{a1 a0}{n:W}:iX a1 a0 (FM a1 a0 n):=by
 induction n with
 | zero=>intro _ _ _ _ r h; cases h
 | succ n ih=>
  intro v2 v3 v4 v5 r h σ hσ;rw[FM] at h;exact gc
instance B8h:Ct 261 (∀{a0} {a1} {r},Jh a0 a1=N r→FC Z 261 [.ag (Xe.row a0),.sc (.int .i64 a1)] [.ag [.v (.int .i64 r.From),.v (.int .i64 r.Low),.v (.int .i64 r.High)]]):=by
 refine⟨fun h=> ?_⟩;unfold Jh at h;refine A5 A4 Zc [.c 4 T 3] 26 ?_;have k0:= @B20;exact gc
def Zd:Hw:=([(18,[1,5],[],[])],[])
def iU:=fun a1 (k_:U→Q U)=>∀{v6} {zr},k_ v6=N zr→Kh Z 276 Zd 18 [1,5] [] [] ⟨[pI 1 a1,pI 5 v6],[],[]⟩ (A8 [4] [.sc (.v (.int .i64 zr))])
theorem B21{a1}:iU a1 (Om a1):=by
 intro v6 r h σ hσ;unfold Om at h;exact gc
instance B8e:Ct 276 (∀{a0} {a1} {r},Ol a0 a1=N r→FC Z 276 [.sc (.int .i64 a0),.sc (.int .i64 a1)] [.sc (.v (.int .i64 r))]):=by
 refine⟨fun h=> ?_⟩;unfold Ol at h;refine A5 A4 Zd [4] 55 ?_;have k0:= @B21;exact gc
def Ze:Hw:=([(8,[1,5,11,12,13],[],[])],[])
def iW:=fun a1 (a0:Xm) (k_:U→U→Q U)=>∀{v1 v2} {zr},k_ v1 v2=N zr→Kh Z 262 Ze 8 [1,5,11,12,13] [] [] ⟨[pI 1 a1,pI 5 v1,pL 11 zD a0.Parts,pI 12 (a0.Parts.length:U),pI 13 v2],[],[]⟩ (A8 [4] [.sc (.v (.int .i64 zr))])
theorem B22{a1 a0}{n:W}:iW a1 a0 (Jg a1 a0 n):=by
 induction n with
 | zero=>intro _ _ r h; cases h
 | succ n ih=>
  intro v1 v2 r h σ hσ;rw[Jg] at h;exact gc
instance B8g:Ct 262 (∀{a0} {a1} {r},Ln a0 a1=N r→FC Z 262 [.ag (Xm.row a0),.sc (.int .i64 a1)] [.sc (.v (.int .i64 r))]):=by
 refine⟨fun h=> ?_⟩;unfold Ln at h;refine A5 A4 Ze [4] 32 ?_;have k0:= @B22;exact gc
end Go.Vi
