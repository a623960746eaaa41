/-
Walks. No condition.
-/
import Derived.Test.YtpigjggbnclpbaaGreatONf
import Derived.Test.YtpigjggbnclpbaaGreatChecked
import Derived.Test.YtpigjggbnclpbaaGreatOVi44
import Derived.KernelRfl
namespace Go.Vi
open Go.Proofs
set_option linter.all false
set_option maxRecDepth 4000
set_option maxHeartbeats 2000000
open Nat renaming reduceBEq → C, reduceMul → E, reduceAdd → F, reduceDiv → G, le_of_ble_eq_true → uf
open Int renaming reduceBEq → H
attribute [local irreducible] go AT H7
open List renaming map → Y, cons_append → I, nil_append → zA, all_cons → zB, all_nil → zC, map_nil → zE
open Tryz renaming prog → Z
open Xc renaming row → zD
open Xa renaming row → zF
open Bool renaming true → T, false → L
open Option renaming some → N, none → O
open _root_ renaming List → P, Option → Q, Int → U, Bool → V, Nat → W, rfl → X
theorem A2:Tryz.prog.follows .mixedOrders=T:=by kernel_rfl
instance wq:Ct 96 (∀{a0} {a1} {r},Ke a0 a1=N r→FC Z 96 [.sc (.sl (Y zD a0)),.sc (.int .i64 a1)] [.sc (.v (.int .i64 r))]):=by
 refine⟨fun h=> ?_⟩;unfold Ke at h;refine A5 A2 h0 [4] 12 ?_;exact gc
instance wz:Ct 51 (∀{a0} {a1} {r},Mx a0 a1=N r→FC Z 51 [.ag (Xh.row a0),.sc (.int .i64 a1)] [.sc (.v (.int .i64 r))]):=by
 refine⟨fun h=> ?_⟩;unfold Mx at h;refine A5 A2 h0 [4] 12 ?_;exact gc
instance wy:Ct 52 (∀{a0} {a1} {r},Kl a0 a1=N r→FC Z 52 [.sc (.sl (Y zF a0)),.sc (.int .i64 a1)] [.sc (.v (.int .i64 r))]):=by
 refine⟨fun h=> ?_⟩;unfold Kl at h;refine A5 A2 h0 [4] 12 ?_;exact gc
instance wn:Ct 18 (∀{a0} {a1} {r},Kc a0 a1=N r→FC Z 18 [.ag (Xb.row a0),.sc (.int .i64 a1)] [.sc (.v (.int .i64 r))]):=by
 refine⟨fun h=> ?_⟩;unfold Kc at h;refine A5 A2 h0 [4] 18 ?_;exact gc
instance wr:Ct 97 (∀{a0} {a1} {r},Kf a0 a1=N r→FC Z 97 [.ag (X8.row a0),.sc (.int .i64 a1)] [.sc (.v (.int .i64 r))]):=by
 refine⟨fun h=> ?_⟩;unfold Kf at h;refine A5 A2 h0 [4] 13 ?_;exact gc
def S6:Hw:=([(16,[0,1,5],[],[])],[])
def XZ:=fun a0 (k_:U→U→Q U)=>∀{v2 v3} {zr},k_ v2 v3=N zr→Kh Z 53 S6 16 [0,1,5] [] [] ⟨[pL 0 X8.row a0,pI 1 v2,pI 5 v3],[],[]⟩ (Ac [4] [.sc (.v (.int .i64 zr))])
theorem rd{a0}{n:W}:XZ a0 (EZ a0 n):=by
 induction n with
 | zero=>intro _ _ r h; cases h
 | succ n ih=>
  intro v2 v3 r h σ hσ;rw[EZ] at h;exact gc
instance wu:Ct 53 (∀{a0} {a1} {r},Kg a0 a1=N r→FC Z 53 [.sc (.sl (Y X8.row a0)),.sc (.int .i64 a1)] [.sc (.v (.int .i64 r))]):=by
 refine⟨fun h=> ?_⟩;unfold Kg at h;refine A5 A2 S6 [4] 27 ?_;have k0:= @rd;exact gc
instance wv:Ct 54 (∀{a0} {a1} {r},Ki a0 a1=N r→FC Z 54 [.sc (.sl (Y X1.row a0)),.sc (.int .i64 a1)] [.sc (.v (.int .i64 r))]):=by
 refine⟨fun h=> ?_⟩;unfold Ki at h;refine A5 A2 h0 [4] 12 ?_;exact gc
instance wl:Ct 19 (∀{a0} {a1} {r},Kb a0 a1=N r→FC Z 19 [.ag (X0.row a0),.sc (.int .i64 a1)] [.sc (.v (.int .i64 r))]):=by
 refine⟨fun h=> ?_⟩;unfold Kb at h;refine A5 A2 h0 [4] 18 ?_;exact gc
instance ww:Ct 55 (∀{a0} {a1} {r},Kj a0 a1=N r→FC Z 55 [.ag (X6.row a0),.sc (.int .i64 a1)] [.sc (.v (.int .i64 r))]):=by
 refine⟨fun h=> ?_⟩;unfold Kj at h;refine A5 A2 h0 [4] 13 ?_;exact gc
def Dx:Hw:=([(16,[0,1,5],[],[])],[])
def Y0:=fun a0 (k_:U→U→Q U)=>∀{v2 v3} {zr},k_ v2 v3=N zr→Kh Z 20 Dx 16 [0,1,5] [] [] ⟨[pL 0 X6.row a0,pI 1 v2,pI 5 v3],[],[]⟩ (Ac [4] [.sc (.v (.int .i64 zr))])
theorem tj{a0}{n:W}:Y0 a0 (F0 a0 n):=by
 induction n with
 | zero=>intro _ _ r h; cases h
 | succ n ih=>
  intro v2 v3 r h σ hσ;rw[F0] at h;exact gc
instance wx:Ct 20 (∀{a0} {a1} {r},Kk a0 a1=N r→FC Z 20 [.sc (.sl (Y X6.row a0)),.sc (.int .i64 a1)] [.sc (.v (.int .i64 r))]):=by
 refine⟨fun h=> ?_⟩;unfold Kk at h;refine A5 A2 Dx [4] 27 ?_;have k0:= @tj;exact gc
instance wo:Ct 56 (∀{a0} {a1} {r},Kd a0 a1=N r→FC Z 56 [.sc (.sl (Y rI a0)),.sc (.int .i64 a1)] [.sc (.v (.int .i64 r))]):=by
 refine⟨fun h=> ?_⟩;unfold Kd at h;refine A5 A2 h0 [4] 12 ?_;exact gc
instance wm:Ct 21 (∀{a0} {a1} {r},Mw a0 a1=N r→FC Z 21 [.ag (Xj.row a0),.sc (.int .i64 a1)] [.sc (.v (.int .i64 r))]):=by
 refine⟨fun h=> ?_⟩;unfold Mw at h;refine A5 A2 h0 [4] 12 ?_;exact gc
instance qp:Ct 4 (∀{a0} {a1} {r},Gx a0 a1=N r→FC Z 4 [.ag (X9.row a0),.sc (.int .i64 a1)] [.sc (.v (.int .i64 r))]):=by
 refine⟨fun h=> ?_⟩;unfold Gx at h;refine A5 A2 h0 [4] 30 ?_;exact gc
instance qo:Ct 5 (∀{a0} {a1} {r},Gw a0 a1=N r→FC Z 5 [.sc (.sl (Y X7.row a0)),.sc (.int .i64 a1)] [.sc (.v (.int .i64 r))]):=by
 refine⟨fun h=> ?_⟩;unfold Gw at h;refine A5 A2 h0 [4] 12 ?_;exact gc
instance xF:Ct 154 (∀{a0} {r},MA a0=N r→FC Z 154 [.ag (zD a0)] [.ag [.v (.int .i64 r.Amp),.v (.int .i64 r.Period),.v (.int .i64 r.Phase)]]):=by
 refine⟨fun h=> ?_⟩;unfold MA at h;refine A5 A2 h0 [.c 2 T 3] 14 ?_;exact gc
def SZ:Hw:=([(8,[0,3,4],[],[448])],[])
def Y3:=fun a0 (k_:U→(P Xc)→Q (P Xc))=>∀{v2 v3} {zr},k_ v2 v3=N zr→Kh Z 115 SZ 8 [0,3,4] [] [448] ⟨[pL 0 zD a0,pW 3 448,pI 4 v2],[],[(448,3,Y zD v3)]⟩ (Ac [2] [.sc (.o 3 (Y zD zr))])
theorem tz{a0}{n:W}:Y3 a0 (GA a0 n):=by
 induction n with
 | zero=>intro _ _ r h; cases h
 | succ n ih=>
  intro v2 v3 r h σ hσ;rw[GA] at h;have s0:=fun(r6:Xc)=> @Ex _ zD r6
  exact gc
instance xG:Ct 115 (∀{a0} {r},Kq a0=N r→FC Z 115 [.sc (.sl (Y zD a0))] [.sc (.o 3 (Y zD r))]):=by
 refine⟨fun h=> ?_⟩;unfold Kq at h;refine A5 A2 SZ [2] 23 ?_;have s0:= @Fq _ zD (⟨(0:U),(0:U),(0:U)⟩:Xc);have k0:= @tz;exact gc
instance xQ:Ct 66 (∀{a0} {r},MG a0=N r→FC Z 66 [.ag (Xh.row a0)] [.ag [.v (.int .i64 r.Mean),.o 3 (Y zD r.Parts)]]):=by
 refine⟨fun h=> ?_⟩;unfold MG at h;refine A5 A2 h0 [.c 2 T 2] 12 ?_;exact gc
instance xO:Ct 116 (∀{a0} {r},MF a0=N r→FC Z 116 [.ag (zF a0)] [.ag [.v (.int .i64 r.From),.v (.int .i64 r.Low),.v (.int .i64 r.High)]]):=by
 refine⟨fun h=> ?_⟩;unfold MF at h;refine A5 A2 h0 [.c 2 T 3] 14 ?_;exact gc
def T1:Hw:=([(8,[0,3,4],[],[448])],[])
def Y7:=fun a0 (k_:U→(P Xa)→Q (P Xa))=>∀{v2 v3} {zr},k_ v2 v3=N zr→Kh Z 67 T1 8 [0,3,4] [] [448] ⟨[pL 0 zF a0,pW 3 448,pI 4 v2],[],[(448,3,Y zF v3)]⟩ (Ac [2] [.sc (.o 3 (Y zF zr))])
theorem uC{a0}{n:W}:Y7 a0 (GE a0 n):=by
 induction n with
 | zero=>intro _ _ r h; cases h
 | succ n ih=>
  intro v2 v3 r h σ hσ;rw[GE] at h;have s0:=fun(r6:Xa)=> @Ex _ zF r6
  exact gc
instance xP:Ct 67 (∀{a0} {r},Ku a0=N r→FC Z 67 [.sc (.sl (Y zF a0))] [.sc (.o 3 (Y zF r))]):=by
 refine⟨fun h=> ?_⟩;unfold Ku at h;refine A5 A2 T1 [2] 23 ?_;have s0:= @Fq _ zF (⟨(0:U),(0:U),(0:U)⟩:Xa);have k0:= @uC;exact gc
instance xD:Ct 26 (∀{a0} {r},Kn a0=N r→FC Z 26 [.ag (Xb.row a0)] [.ag [.v (.int .i64 r.Tide.Mean),.o 3 (Y zD r.Tide.Parts),.o 3 (Y zF r.Surges)]]):=by
 refine⟨fun h=> ?_⟩;unfold Kn at h;refine A5 A2 h0 [.c 2 T 3] 13 ?_;exact gc
instance xH:Ct 117 (∀{a0} {r},MB a0=N r→FC Z 117 [.ag (X8.row a0)] [.ag [.v (.str r.Name),.v (.bool r.Wait)]]):=by
 refine⟨fun h=> ?_⟩;unfold MB at h;refine A5 A2 h0 [.c 2 T 2] 11 ?_;exact gc
def T2:Hw:=([(8,[0,3,4],[],[448])],[])
def Y4:=fun a0 (k_:U→(P X8)→Q (P X8))=>∀{v2 v3} {zr},k_ v2 v3=N zr→Kh Z 68 T2 8 [0,3,4] [] [448] ⟨[pL 0 X8.row a0,pW 3 448,pI 4 v2],[],[(448,2,Y X8.row v3)]⟩ (Ac [2] [.sc (.o 2 (Y X8.row zr))])
theorem uN{a0}{n:W}:Y4 a0 (GB a0 n):=by
 induction n with
 | zero=>intro _ _ r h; cases h
 | succ n ih=>
  intro v2 v3 r h σ hσ;rw[GB] at h;have s0:=fun(r6:X8)=> @Ex _ X8.row r6
  exact gc
instance xI:Ct 68 (∀{a0} {r},Kr a0=N r→FC Z 68 [.sc (.sl (Y X8.row a0))] [.sc (.o 2 (Y X8.row r))]):=by
 refine⟨fun h=> ?_⟩;unfold Kr at h;refine A5 A2 T2 [2] 23 ?_;have s0:= @Fq _ X8.row (⟨([]:P UInt8),L⟩:X8);have k0:= @uN;exact gc
instance xK:Ct 118 (∀{a0} {r},MD a0=N r→FC Z 118 [.ag (X1.row a0)] [.ag [.v (.int .i64 r.A),.v (.int .i64 r.B),.v (.int .i64 r.Depth),.v (.int .i64 r.Minutes),.v (.bool r.Meet)]]):=by
 refine⟨fun h=> ?_⟩;unfold MD at h;refine A5 A2 h0 [.c 2 T 5] 20 ?_;exact gc
def S7:Hw:=([(8,[0,3,4],[],[448])],[])
def Y5:=fun a0 (k_:U→(P X1)→Q (P X1))=>∀{v2 v3} {zr},k_ v2 v3=N zr→Kh Z 69 S7 8 [0,3,4] [] [448] ⟨[pL 0 X1.row a0,pW 3 448,pI 4 v2],[],[(448,5,Y X1.row v3)]⟩ (Ac [2] [.sc (.o 5 (Y X1.row zr))])
theorem rj{a0}{n:W}:Y5 a0 (GC a0 n):=by
 induction n with
 | zero=>intro _ _ r h; cases h
 | succ n ih=>
  intro v2 v3 r h σ hσ;rw[GC] at h;have s0:=fun(r6:X1)=> @Ex _ X1.row r6
  exact gc
instance xL:Ct 69 (∀{a0} {r},Ks a0=N r→FC Z 69 [.sc (.sl (Y X1.row a0))] [.sc (.o 5 (Y X1.row r))]):=by
 refine⟨fun h=> ?_⟩;unfold Ks at h;refine A5 A2 S7 [2] 23 ?_;have s0:= @Fq _ X1.row (⟨(0:U),(0:U),(0:U),(0:U),L⟩:X1);have k0:= @rj;exact gc
instance xA:Ct 27 (∀{a0} {r},Km a0=N r→FC Z 27 [.ag (X0.row a0)] [.ag [.o 2 (Y X8.row r.Points),.o 5 (Y X1.row r.Segments)]]):=by
 refine⟨fun h=> ?_⟩;unfold Km at h;refine A5 A2 h0 [.c 2 T 2] 13 ?_;exact gc
instance xM:Ct 70 (∀{a0} {r},ME a0=N r→FC Z 70 [.ag (X6.row a0)] [.ag [.v (.str r.Name),.v (.int .i64 r.Length),.v (.int .i64 r.Draught),.v (.int .i64 r.Line),.v (.int .i64 r.Tugs),.v (.bool r.Slow)]]):=by
 refine⟨fun h=> ?_⟩;unfold ME at h;refine A5 A2 h0 [.c 2 T 6] 23 ?_;exact gc
def Sd:Hw:=([(8,[0,3,4],[],[448])],[])
def Y6:=fun a0 (k_:U→(P X6)→Q (P X6))=>∀{v2 v3} {zr},k_ v2 v3=N zr→Kh Z 28 Sd 8 [0,3,4] [] [448] ⟨[pL 0 X6.row a0,pW 3 448,pI 4 v2],[],[(448,6,Y X6.row v3)]⟩ (Ac [2] [.sc (.o 6 (Y X6.row zr))])
theorem ry{a0}{n:W}:Y6 a0 (GD a0 n):=by
 induction n with
 | zero=>intro _ _ r h; cases h
 | succ n ih=>
  intro v2 v3 r h σ hσ;rw[GD] at h;have s0:=fun(r6:X6)=> @Ex _ X6.row r6
  exact gc
instance xN:Ct 28 (∀{a0} {r},Kt a0=N r→FC Z 28 [.sc (.sl (Y X6.row a0))] [.sc (.o 6 (Y X6.row r))]):=by
 refine⟨fun h=> ?_⟩;unfold Kt at h;refine A5 A2 Sd [2] 23 ?_;have s0:= @Fq _ X6.row (⟨([]:P UInt8),(0:U),(0:U),(0:U),(0:U),L⟩:X6);have k0:= @ry;exact gc
instance xJ:Ct 29 (∀{a0} {r},MC a0=N r→FC Z 29 [.ag (Xi.row a0)] [.ag [.v (.int .i64 r.Gap),.v (.bool r.NoMeet)]]):=by
 refine⟨fun h=> ?_⟩;unfold MC at h;refine A5 A2 h0 [.c 2 T 2] 11 ?_;exact gc
def Sl:Hw:=([(8,[0,3,4],[],[448])],[])
def Y2:=fun a0 (k_:U→(P U)→Q (P U))=>∀{v2 v3} {zr},k_ v2 v3=N zr→Kh Z 71 Sl 8 [0,3,4] [] [448] ⟨[pL 0 rI a0,pW 3 448,pI 4 v2],[],[(448,1,Y rI v3)]⟩ (Ac [2] [.sc (.o 1 (Y rI zr))])
theorem sL{a0}{n:W}:Y2 a0 (Gz a0 n):=by
 induction n with
 | zero=>intro _ _ r h; cases h
 | succ n ih=>
  intro v2 v3 r h σ hσ;rw[Gz] at h;have s0:=fun(x5:U)=> @Ex _ rI x5
  exact gc
instance xE:Ct 71 (∀{a0} {r},Ko a0=N r→FC Z 71 [.sc (.sl (Y rI a0))] [.sc (.o 1 (Y rI r))]):=by
 refine⟨fun h=> ?_⟩;unfold Ko at h;refine A5 A2 Sl [2] 22 ?_;have s0:= @Fq _ rI (0:U);have k0:= @sL;exact gc
instance xC:Ct 30 (∀{a0} {r},Mz a0=N r→FC Z 30 [.ag (Xj.row a0)] [.ag [.v (.int .i64 r.Tugs),.v (.int .i64 r.Pilots),.v (.int .i64 r.Rest),.o 1 (Y rI r.Moves)]]):=by
 refine⟨fun h=> ?_⟩;unfold Mz at h;refine A5 A2 h0 [.c 2 T 4] 18 ?_;exact gc
instance NX:Ct 7 (∀{a0} {r},Ds a0=N r→FC Z 7 [.ag (X9.row a0)] [.ag [.v (.int .i64 r.Forecast.Tide.Mean),.o 3 (Y zD r.Forecast.Tide.Parts),.o 3 (Y zF r.Forecast.Surges),.o 2 (Y X8.row r.Chart.Points),.o 5 (Y X1.row r.Chart.Segments),.o 6 (Y X6.row r.Fleet),.v (.int .i64 r.Regime.Gap),.v (.bool r.Regime.NoMeet),.v (.int .i64 r.Crew.Tugs),.v (.int .i64 r.Crew.Pilots),.v (.int .i64 r.Crew.Rest),.o 1 (Y rI r.Crew.Moves)]]):=by
 refine⟨fun h=> ?_⟩;unfold Ds at h;refine A5 A2 h0 [.c 2 T 12] 25 ?_;exact gc
instance Qc:Ct 8 (∀{a0} {r},F1 a0=N r→FC Z 8 [.ag (Xe.row a0)] [.ag [.v (.int .i64 r.Ship),.v (.int .i64 r.From),.v (.int .i64 r.To),.v (.int .i64 r.Ready),.v (.int .i64 r.Due)]]):=by
 refine⟨fun h=> ?_⟩;unfold F1 at h;refine A5 A2 h0 [.c 2 T 5] 20 ?_;exact gc
instance xB:Ct 31 (∀{a0} {r},My a0=N r→FC Z 31 [.ag (X7.row a0)] [.ag [.v (.int .i64 r.Segment),.v (.int .i64 r.From),.v (.int .i64 r.To)]]):=by
 refine⟨fun h=> ?_⟩;unfold My at h;refine A5 A2 h0 [.c 2 T 3] 14 ?_;exact gc
def Sq:Hw:=([(8,[0,3,4],[],[448])],[])
def Y1:=fun a0 (k_:U→(P X7)→Q (P X7))=>∀{v2 v3} {zr},k_ v2 v3=N zr→Kh Z 9 Sq 8 [0,3,4] [] [448] ⟨[pL 0 X7.row a0,pW 3 448,pI 4 v2],[],[(448,3,Y X7.row v3)]⟩ (Ac [2] [.sc (.o 3 (Y X7.row zr))])
theorem sZ{a0}{n:W}:Y1 a0 (Gy a0 n):=by
 induction n with
 | zero=>intro _ _ r h; cases h
 | succ n ih=>
  intro v2 v3 r h σ hσ;rw[Gy] at h;have s0:=fun(r6:X7)=> @Ex _ X7.row r6
  exact gc
instance NW:Ct 9 (∀{a0} {r},Dr a0=N r→FC Z 9 [.sc (.sl (Y X7.row a0))] [.sc (.o 3 (Y X7.row r))]):=by
 refine⟨fun h=> ?_⟩;unfold Dr at h;refine A5 A2 Sq [2] 23 ?_;have s0:= @Fq _ X7.row (⟨(0:U),(0:U),(0:U)⟩:X7);have k0:= @sZ;exact gc
instance J3:Ct 58 (∀{a0} {a1} {a2} {r},Ax a0 a1 a2=N r→FC Z 58 [.sc (.int .i64 a0),.sc (.int .i64 a1),.sc (.int .i64 a2)] [.sc (.v (.bool r))]):=by
 refine⟨fun h=> ?_⟩;unfold Ax at h;refine A5 A2 h0 [6] 15 ?_;exact gc
instance xf:Ct 169 (∀{a0} {r},KK a0=N r→FC Z 169 [.ag (zD a0)] [.sc (.v (.bool r))]):=by
 refine⟨fun h=> ?_⟩;unfold KK at h;refine A5 A2 h0 [2] 25 ?_;exact gc
def Sw:Hw:=([(14,[16,17,18],[],[])],[])
def Yt:=fun(a0:Xh) (k_:U→Q V)=>∀{v4} {zr},k_ v4=N zr→Kh Z 144 Sw 14 [16,17,18] [] [] ⟨[pL 16 zD a0.Parts,pI 17 (a0.Parts.length:U),pI 18 v4],[],[]⟩ (Ac [2] [.sc (.v (.bool zr))])
theorem ss{a0}{n:W}:Yt a0 (GU a0 n):=by
 induction n with
 | zero=>intro _ r h; cases h
 | succ n ih=>
  intro v4 r h σ hσ;rw[GU] at h;exact gc
instance xu:Ct 144 (∀{a0} {r},KT a0=N r→FC Z 144 [.ag (Xh.row a0)] [.sc (.v (.bool r))]):=by
 refine⟨fun h=> ?_⟩;unfold KT at h;refine A5 A2 Sw [2] 26 ?_;have k0:= @ss;exact gc
instance xr:Ct 145 (∀{a0} {r},KR a0=N r→FC Z 145 [.ag (zF a0)] [.sc (.v (.bool r))]):=by
 refine⟨fun h=> ?_⟩;unfold KR at h;refine A5 A2 h0 [2] 18 ?_;exact gc
def SE:Hw:=([(14,[1,25,26,27],[1],[])],[])
def Yf:=fun(a0:Xb) (k_:U→Q V)=>∀{v7} {zr},k_ v7=N zr→Kh Z 98 SE 14 [1,25,26,27] [1] [] ⟨[pB 1,pL 25 zF a0.Surges,pI 26 (a0.Surges.length:U),pI 27 v7],[(1,[aI a0.Tide.Mean,aM zD a0.Tide.Parts,aM zF a0.Surges])],[]⟩ (Ac [2] [.sc (.v (.bool zr))])
theorem tD{a0}{n:W}:Yf a0 (F2 a0 n):=by
 induction n with
 | zero=>intro _ r h; cases h
 | succ n ih=>
  intro v7 r h σ hσ;rw[F2] at h;exact gc
instance xW:Ct 98 (∀{a0} {r},Ii a0=N r→FC Z 98 [.ag (Xb.row a0)] [.sc (.v (.bool r))]):=by
 refine⟨fun h=> ?_⟩;unfold Ii at h;refine A5 A2 SE [2] 52 ?_;have k0:= @tD;exact gc
def N8:Hw:=([(6,[0,3],[],[]),(17,[0,3,4],[],[]),(24,[0,3],[],[])],[])
def Yj:=fun a0 v1 (k_:Q V)=>∀{zr},k_=N zr→Kh Z 102 N8 24 [0,3] [] [] ⟨[(0,vc (aS a0)),pI 3 v1],[],[]⟩ (Ac [2] [.sc (.v (.bool zr))])
def Yi:=fun a0 v1 (k_:V→Q V)=>∀{v5} {zr},k_ v5=N zr→Kh Z 102 N8 17 [0,3,4] [] [] ⟨[(0,vc (aS a0)),pI 3 v1,(4,vc (aB v5))],[],[]⟩ (Ac [2] [.sc (.v (.bool zr))])
def O3:=fun a0 (k_:U→Q V)=>∀{v1} {zr},k_ v1=N zr→Kh Z 102 N8 6 [0,3] [] [] ⟨[(0,vc (aS a0)),pI 3 v1],[],[]⟩ (Ac [2] [.sc (.v (.bool zr))])
theorem tO{a0 v1}{DA}(Tc:O3 a0 DA):Yj a0 v1 (KF a0 v1 DA):=by
 intro r h σ hσ;unfold KF at h;have k0:= @Tc;exact gc
theorem tU{a0 v1}{DA}(Tc:O3 a0 DA):Yi a0 v1 (KE a0 v1 DA):=by
 intro v5 r h σ hσ;unfold KE at h;have k0:= @tO;exact gc
theorem tY{a0}{n:W}:O3 a0 (F4 a0 n):=by
 induction n with
 | zero=>intro _ r h; cases h
 | succ n ih=>
  intro v1 r h σ hσ;rw[F4] at h;have k0:= @tU;exact gc
instance xa:Ct 102 (∀{a0} {r},Ij a0=N r→FC Z 102 [.sc (.str a0)] [.sc (.v (.bool r))]):=by
 refine⟨fun h=> ?_⟩;unfold Ij at h;refine A5 A2 N8 [2] 42 ?_;have k0:= @tY;exact gc
def SR:Hw:=([(6,[1,8,9,10],[],[])],[])
def Yo:=fun a1 (a0:X0) (k_:U→Q U)=>∀{v1} {zr},k_ v1=N zr→Kh Z 103 SR 6 [1,8,9,10] [] [] ⟨[(1,vc (aS a1)),pL 8 X8.row a0.Points,pI 9 (a0.Points.length:U),pI 10 v1],[],[]⟩ (Ac [4] [.sc (.v (.int .i64 zr))])
theorem tf{a1 a0}{n:W}:Yo a1 a0 (GQ a1 a0 n):=by
 induction n with
 | zero=>intro _ r h; cases h
 | succ n ih=>
  intro v1 r h σ hσ;rw[GQ] at h;exact gc
instance xg:Ct 103 (∀{a0} {a1} {r},KM a0 a1=N r→FC Z 103 [.ag (X0.row a0),.sc (.str a1)] [.sc (.v (.int .i64 r))]):=by
 refine⟨fun h=> ?_⟩;unfold KM at h;refine A5 A2 SR [4] 21 ?_;have k0:= @tf;exact gc
instance yb:Ct 104 (∀{a0} {a1} {a2} {r},KZ a0 a1 a2=N r→FC Z 104 [.ag (X1.row a0),.sc (.int .i64 a1),.sc (.int .i64 a2)] [.sc (.v (.bool r))]):=by
 refine⟨fun h=> ?_⟩;unfold KZ at h;refine A5 A2 h0 [6] 29 ?_;exact gc
def N9:Hw:=([(14,[1,20,21,22],[1],[]),(37,[1,41,42,43],[1],[]),(59,[1,6,41,42,43,88,89,90],[1,6],[])],[])
def Yc:=fun(a0:X0) v11 (x13:X1) y24 y25 (k_:U→Q V)=>∀{v26} {zr},k_ v26=N zr→Kh Z 59 N9 59 [1,6,41,42,43,88,89,90] [1,6] [] ⟨[pB 1,pB 6,pL 41 X1.row a0.Segments,pI 42 (a0.Segments.length:U),pI 43 v11,pL 88 X1.row y24,pI 89 y25,pI 90 v26],[(1,[aM X8.row a0.Points,aM X1.row a0.Segments]),(6,(dm x13.row))],[]⟩ (Ac [2] [.sc (.v (.bool zr))])
def QG:=fun(a0:X0) (k_:U→Q V)=>∀{v11} {zr},k_ v11=N zr→Kh Z 59 N9 37 [1,41,42,43] [1] [] ⟨[pB 1,pL 41 X1.row a0.Segments,pI 42 (a0.Segments.length:U),pI 43 v11],[(1,[aM X8.row a0.Points,aM X1.row a0.Segments])],[]⟩ (Ac [2] [.sc (.v (.bool zr))])
def Yb:=fun(a0:X0) (k_:U→Q V)=>∀{v3} {zr},k_ v3=N zr→Kh Z 59 N9 14 [1,20,21,22] [1] [] ⟨[pB 1,pL 20 X8.row a0.Points,pI 21 (a0.Points.length:U),pI 22 v3],[(1,[aM X8.row a0.Points,aM X1.row a0.Segments])],[]⟩ (Ac [2] [.sc (.v (.bool zr))])
theorem ti{a0 v11 x13 y24 y25}{Le}(gp:QG a0 Le){n:W}:Yc a0 v11 x13 y24 y25 (GI a0 v11 x13 y24 y25 Le n):=by
 induction n with
 | zero=>intro _ r h; cases h
 | succ n ih=>
  intro v26 r h σ hσ;rw[GI] at h;have k0:= @gp;exact gc
theorem tk{a0}{n:W}:QG a0 (Dt a0 n):=by
 induction n with
 | zero=>intro _ r h; cases h
 | succ n ih=>
  intro v11 r h σ hσ;rw[Dt] at h;have k0:= @ti;exact gc
theorem tl{a0}{n:W}:Yb a0 (GH a0 n):=by
 induction n with
 | zero=>intro _ r h; cases h
 | succ n ih=>
  intro v3 r h σ hσ;rw[GH] at h;have k0:= @tk;exact gc
instance qx:Ct 59 (∀{a0} {r},D7 a0=N r→FC Z 59 [.ag (X0.row a0)] [.sc (.v (.bool r))]):=by
 refine⟨fun h=> ?_⟩;unfold D7 at h;refine A5 A2 N9 [2] 102 ?_;have k0:= @tl;exact gc
instance xn:Ct 146 (∀{a0} {r},D8 a0=N r→FC Z 146 [.ag (X6.row a0)] [.sc (.v (.bool r))]):=by
 refine⟨fun h=> ?_⟩;unfold D8 at h;refine A5 A2 h0 [2] 26 ?_;exact gc
def SV:Hw:=([(6,[1,7,8,9],[],[])],[])
def Yq:=fun a1 a0 (k_:U→Q U)=>∀{v1} {zr},k_ v1=N zr→Kh Z 147 SV 6 [1,7,8,9] [] [] ⟨[(1,vc (aS a1)),pL 7 X6.row a0,pI 8 (a0.length:U),pI 9 v1],[],[]⟩ (Ac [4] [.sc (.v (.int .i64 zr))])
theorem tm{a1 a0}{n:W}:Yq a1 a0 (GS a1 a0 n):=by
 induction n with
 | zero=>intro _ r h; cases h
 | succ n ih=>
  intro v1 r h σ hσ;rw[GS] at h;exact gc
instance xl:Ct 147 (∀{a0} {a1} {r},KP a0 a1=N r→FC Z 147 [.sc (.sl (Y X6.row a0)),.sc (.str a1)] [.sc (.v (.int .i64 r))]):=by
 refine⟨fun h=> ?_⟩;unfold KP at h;refine A5 A2 SV [4] 20 ?_;have k0:= @tm;exact gc
def SW:Hw:=([(14,[0,8,9,10],[],[])],[])
def Ye:=fun a0 (k_:U→Q V)=>∀{v2} {zr},k_ v2=N zr→Kh Z 99 SW 14 [0,8,9,10] [] [] ⟨[pL 0 X6.row a0,pL 8 X6.row a0,pI 9 (a0.length:U),pI 10 v2],[],[]⟩ (Ac [2] [.sc (.v (.bool zr))])
theorem tn{a0}{n:W}:Ye a0 (GK a0 n):=by
 induction n with
 | zero=>intro _ r h; cases h
 | succ n ih=>
  intro v2 r h σ hσ;rw[GK] at h;exact gc
instance xV:Ct 99 (∀{a0} {r},KA a0=N r→FC Z 99 [.sc (.sl (Y X6.row a0))] [.sc (.v (.bool r))]):=by
 refine⟨fun h=> ?_⟩;unfold KA at h;refine A5 A2 SW [2] 27 ?_;have k0:= @tn;exact gc
instance xh:Ct 100 (∀{a0} {r},MO a0=N r→FC Z 100 [.ag (Xi.row a0)] [.sc (.v (.bool r))]):=by
 refine⟨fun h=> ?_⟩;unfold MO at h;refine A5 A2 h0 [2] 6 ?_;exact gc
def SX:Hw:=([(14,[15,16,17],[],[])],[])
def YF:=fun a1 (k_:U→Q V)=>∀{v4} {zr},k_ v4=N zr→Kh Z 148 SX 14 [15,16,17] [] [] ⟨[pL 15 rI a1,pI 16 (a1.length:U),pI 17 v4],[],[]⟩ (Ac [4] [.sc (.v (.bool zr))])
theorem tp{a1}{n:W}:YF a1 (Fe a1 n):=by
 induction n with
 | zero=>intro _ r h; cases h
 | succ n ih=>
  intro v4 r h σ hσ;rw[Fe] at h;exact gc
instance yg:Ct 148 (∀{a0} {a1} {r},MV a0 a1=N r→FC Z 148 [.sc (.int .i64 a0),.sc (.sl (Y rI a1))] [.sc (.v (.bool r))]):=by
 refine⟨fun h=> ?_⟩;unfold MV at h;refine A5 A2 SX [4] 25 ?_;have k0:= @tp;exact gc
instance xU:Ct 101 (∀{a0} {r},Kz a0=N r→FC Z 101 [.ag (Xj.row a0)] [.sc (.v (.bool r))]):=by
 refine⟨fun h=> ?_⟩;unfold Kz at h;refine A5 A2 h0 [2] 18 ?_;exact gc
instance xX:Ct 57 (∀{a0} {r},KC a0=N r→FC Z 57 [.ag (X9.row a0)] [.sc (.v (.bool r))]):=by
 refine⟨fun h=> ?_⟩;unfold KC at h;refine A5 A2 h0 [2] 26 ?_;exact gc
instance xS:Ct 22 (∀{a0} {a1} {r},Ih a0 a1=N r→FC Z 22 [.ag (X9.row a0),.ag (Xe.row a1)] [.sc (.v (.bool r))]):=by
 refine⟨fun h=> ?_⟩;unfold Ih at h;refine A5 A2 h0 [4] 53 ?_;exact gc
def SY:Hw:=([(14,[2,15,16,17],[2],[])],[])
def Yd:=fun a1 (a0:X0) (k_:U→Q V)=>∀{v4} {zr},k_ v4=N zr→Kh Z 23 SY 14 [2,15,16,17] [2] [] ⟨[pB 2,pL 15 X7.row a1,pI 16 (a1.length:U),pI 17 v4],[(2,[aM X8.row a0.Points,aM X1.row a0.Segments])],[]⟩ (Ac [4] [.sc (.v (.bool zr))])
theorem tq{a1 a0}{n:W}:Yd a1 a0 (GJ a1 a0 n):=by
 induction n with
 | zero=>intro _ r h; cases h
 | succ n ih=>
  intro v4 r h σ hσ;rw[GJ] at h;exact gc
instance xT:Ct 23 (∀{a0} {a1} {r},Ky a0 a1=N r→FC Z 23 [.ag (X0.row a0),.sc (.sl (Y X7.row a1))] [.sc (.v (.bool r))]):=by
 refine⟨fun h=> ?_⟩;unfold Ky at h;refine A5 A2 SY [4] 48 ?_;have k0:= @tq;exact gc
instance VN:Ct 151 (∀{a0} {a1} {r},L0 a0 a1=N r→FC Z 151 [.ag (X1.row a0),.sc (.int .i64 a1)] [.sc (.v (.int .i64 r))]):=by
 refine⟨fun h=> ?_⟩;unfold L0 at h;refine A5 A2 h0 [4] 18 ?_;exact gc
def T0:Hw:=([(6,[1,7,8,9],[],[])],[])
def YA:=fun a1 a0 (k_:U→Q V)=>∀{v1} {zr},k_ v1=N zr→Kh Z 152 T0 6 [1,7,8,9] [] [] ⟨[pI 1 a1,pL 7 rI a0,pI 8 (a0.length:U),pI 9 v1],[],[]⟩ (Ac [4] [.sc (.v (.bool zr))])
theorem tr{a1 a0}{n:W}:YA a1 a0 (GY a1 a0 n):=by
 induction n with
 | zero=>intro _ r h; cases h
 | succ n ih=>
  intro v1 r h σ hσ;rw[GY] at h;exact gc
instance VM:Ct 152 (∀{a0} {a1} {r},Im a0 a1=N r→FC Z 152 [.sc (.sl (Y rI a0)),.sc (.int .i64 a1)] [.sc (.v (.bool r))]):=by
 refine⟨fun h=> ?_⟩;unfold Im at h;refine A5 A2 T0 [4] 17 ?_;have k0:= @tr;exact gc
def B3:P (P W × AItem):= [([],(O,.load 49 (S 5) T 2)),([],(O,.bslice 50 1 [.int .i64 0] 0 [])),([],(O,.mv 51 (S 1))),([1,2],(O,.app 52 1 8 (S 50) (S 51))),([],(O,.mv 53 (S 14))),([4],(O,.bslice 54 1 [.int .i64 0] 1 [(0,(S 53))])),([3,5,3],(O,.app 55 1 8 (S 52) (S 54))),([],(O,.bslice 56 1 [.int .i64 0] 0 [])),([],(O,.mv 57 (S 2))),([7,8,6],(O,.app 58 1 8 (S 56) (S 57))),([],(O,.mv 59 (S 12))),([10],(O,.bslice 60 1 [.int .i64 0] 1 [(0,(S 59))])),([9,11,9],(O,.app 61 1 8 (S 58) (S 60))),([],(O,.mv 62 (S 3))),([],(O,.mv 63 (S 4))),([0,6,12,13,14,12],(O,.call 64 149 [(S 49),(S 55),(S 61),(S 62),(S 63)])),([15,15,0,1,2,3,4,5,6,7,8,9,10,11,12,13,14,15],(O,.mv 4 (S 64)))]
def Na:Hw:=([(16,[1,2,3,4,5,11,31,32,33],[5],[90000]),(31,[1,2,3,4,5,11,12,14,31,32,33,48],[5],[90000])],[(9,4,(O,.frz 1600))])
abbrev A7(a1 a2:P U)(a3 x1:U)(v5 r9:U)(a0:X0)(ws4_ wo1_:AV)(wo3_ wo6_:AV)(wo7_ wo9_:AV)(wo12_ wo14_ wu16_:AV)(c0_ c1_:V)(c2_ c3_:V)(c4_ c5_:V)(c6_ c7_:V)(c8_ c9_:V)(c10_ c11_:V)(c12_ c13_:V)(c14_ c15_:V)(bx_:P (W × P AC))(rs_:Rows):St:=⟨[(1,vc (aL (Y rI a1))),(2,vc (aL (Y rI a2))),(3,vc (aI a3)),(4,ws4_),(5,vc (.pb 5 0)),(11,vc (aI x1)),(12,vc (aI v5)),(14,vc (aI r9)),(31,vc (aL (Y X1.row a0.Segments))),(32,vc (aI (a0.Segments.length:U))),(33,vc (aI v5)),(49,bif c0_ then va [aL (Y X8.row a0.Points),aL (Y X1.row a0.Segments)] else .undef),(50,bif c1_ then wo1_ else .undef),(51,bif c2_ then vc (aL (Y rI a1)) else .undef),(52,bif c3_ then wo3_ else .undef),(53,bif c4_ then vc (aI r9) else .undef),(54,bif c5_ then vc (.own 3456) else .undef),(55,bif c6_ then wo6_ else .undef),(56,bif c7_ then wo7_ else .undef),(57,bif c8_ then vc (aL (Y rI a2)) else .undef),(58,bif c9_ then wo9_ else .undef),(59,bif c10_ then vc (aI v5) else .undef),(60,bif c11_ then vc (.own 3840) else .undef),(61,bif c12_ then wo12_ else .undef),(62,bif c13_ then vc (aI a3) else .undef),(63,bif c14_ then wo14_ else .undef),(64,bif c15_ then vc (.own 90000) else .undef),(4,wu16_)],bx_,rs_⟩
abbrev AU(a1 a2:P U)(a3 x1:U)(v5 r9:U)(a0:X0)(r18:(P (P U))):St:=(A7 a1 a2 a3 x1 v5 r9 a0 (vc (.own 90000)) (vc (.undef)) (vc (.undef)) (vc (aL (Y rI (a1++([r9]:P U))))) (vc (.undef)) (vc (.undef)) (vc (aL (Y rI (a2++([v5]:P U))))) (vc (.undef)) (vc (.own 90000)) T T T T T T T T T T T T T T T T [(5,[aL (Y X8.row a0.Points),aL (Y X1.row a0.Segments)])] [(90000,1,Y (rL rI) r18),(3456,1,Y rI ([r9]:P U)),(3840,1,Y rI ([v5]:P U))])
theorem tu(rec_:X0→(P U)→(P U)→U→(P (P U))→Q (P (P U)))(h_rec:∀(a0:X0) (a1 a2:P U) (a3:U) (a4:P (P U)) zr,rec_ a0 a1 a2 a3 a4=N zr→FCt Z 149 [.d (.ag (X0.row a0)),.d (.sc (.sl (Y rI a1))),.d (.sc (.sl (Y rI a2))),.d (.sc (.int .i64 a3)),.r] 1 (Y (rL rI) a4) (Y (rL rI) zr))(a1 a2:P U)(a3)(x1:U)(v5)(r9)(a0)(v6)(r18)(h14:(A4 ([]:P U).length a1.length 8)=T)(h15:(A4 a1.length ([r9]:P U).length 8)=T)(h16:(A4 ([]:P U).length a2.length 8)=T)(h17:(A4 a2.length ([v5]:P U).length 8)=T)(h18:rec_ a0 (a1++([r9]:P U)) (a2++([v5]:P U)) a3 v6=N r18):∀(f:W),An Z B3 (AU a1 a2 a3 x1 v5 r9 a0 r18) f [T,T,T,T,T,T,T,T,T,T,T,T,T,T,T,T,T] (A7 a1 a2 a3 x1 v5 r9 a0 (vc (.own 90000)) (vc (.undef)) (vc (.undef)) (vc (aL (Y rI (a1++([r9]:P U))))) (vc (.undef)) (vc (.undef)) (vc (aL (Y rI (a2++([v5]:P U))))) (vc (.undef)) (vc (.own 90000)) T T T T T T T T T T T T T T T T [(5,[aL (Y X8.row a0.Points),aL (Y X1.row a0.Segments)])] [(90000,1,Y (rL rI) r18),(3456,1,Y rI ([r9]:P U)),(3840,1,Y rI ([v5]:P U))]):=by
 intro f
 induction f with
 | zero=>intro h; rfl
 | succ f ih=>
  refine Aw ⟨?_,?_,?_,?_,?_,?_,?_,?_,?_,?_,?_,?_,?_,?_,?_,?_,?_,⟨⟩⟩<;>try first | (intro h; cases h; done)
theorem tv(rec_:X0→(P U)→(P U)→U→(P (P U))→Q (P (P U)))(h_rec:∀(a0:X0) (a1 a2:P U) (a3:U) (a4:P (P U)) zr,rec_ a0 a1 a2 a3 a4=N zr→FCt Z 149 [.d (.ag (X0.row a0)),.d (.sc (.sl (Y rI a1))),.d (.sc (.sl (Y rI a2))),.d (.sc (.int .i64 a3)),.r] 1 (Y (rL rI) a4) (Y (rL rI) zr))(a1 a2:P U)(a3)(x1:U)(v5)(r9)(a0)(v6)(r18)(hg14:(A4 ([]:P U).length a1.length 8)=T)(hg15:(A4 a1.length ([r9]:P U).length 8)=T)(hg16:(A4 ([]:P U).length a2.length 8)=T)(hg17:(A4 a2.length ([v5]:P U).length 8)=T)(hr18:rec_ a0 (a1++([r9]:P U)) (a2++([v5]:P U)) a3 v6=N r18):∀(f:W),An Z B3 (AU a1 a2 a3 x1 v5 r9 a0 r18) f [T,T,T,T,T,T,T,T,T,T,T,T,T,T,T,T,L] (A7 a1 a2 a3 x1 v5 r9 a0 (vc (.undef)) (vc (.undef)) (vc (.undef)) (vc (aL (Y rI (a1++([r9]:P U))))) (vc (.undef)) (vc (.undef)) (vc (aL (Y rI (a2++([v5]:P U))))) (vc (.undef)) (vc (.undef)) T T T T T T T T T T T T T T T T [(5,[aL (Y X8.row a0.Points),aL (Y X1.row a0.Segments)])] [(90000,1,Y (rL rI) r18),(3456,1,Y rI ([r9]:P U)),(3840,1,Y rI ([v5]:P U))]):=by
 intro f
 induction f with
 | zero=>intro  h; simp at h
 | succ f ih=>
  refine Aw ⟨?_,?_,?_,?_,?_,?_,?_,?_,?_,?_,?_,?_,?_,?_,?_,?_,?_,⟨⟩⟩<;>try first | (intro h; cases h; done)
  ·intro h0 hw;refine⟨[],[(O,.keep [1,2,3,4,5,11,12,14,31,32,33,49,50,51,52,53,54,55,56,57,58,59,60,61,62,63,64,4] [5] [90000,3456,3840])],X,X,?_⟩;try simp only[A7,A8,Aa,zA,I,A3,C,E,F,G,H,J]
   exact tu rec_ h_rec a1 a2 a3 x1 v5 r9 a0 v6 r18 hg14 hg15 hg16 hg17 hr18 _
theorem tw(rec_:X0→(P U)→(P U)→U→(P (P U))→Q (P (P U)))(h_rec:∀(a0:X0) (a1 a2:P U) (a3:U) (a4:P (P U)) zr,rec_ a0 a1 a2 a3 a4=N zr→FCt Z 149 [.d (.ag (X0.row a0)),.d (.sc (.sl (Y rI a1))),.d (.sc (.sl (Y rI a2))),.d (.sc (.int .i64 a3)),.r] 1 (Y (rL rI) a4) (Y (rL rI) zr))(a1 a2:P U)(a3)(x1:U)(v5)(r9)(a0)(v6)(r18)(hg14:(A4 ([]:P U).length a1.length 8)=T)(hg15:(A4 a1.length ([r9]:P U).length 8)=T)(hg16:(A4 ([]:P U).length a2.length 8)=T)(hg17:(A4 a2.length ([v5]:P U).length 8)=T)(hr18:rec_ a0 (a1++([r9]:P U)) (a2++([v5]:P U)) a3 v6=N r18):∀(f:W) (b0 b13 b14:V),An Z B3 (AU a1 a2 a3 x1 v5 r9 a0 r18) f [b0,T,T,T,T,T,T,T,T,T,T,T,T,b13,b14,L,L] (A7 a1 a2 a3 x1 v5 r9 a0 (vc (.own 90000)) (vc (.undef)) (vc (.undef)) (vc (.own 3200)) (vc (.undef)) (vc (.undef)) (vc (.own 3584)) (vc (.own 90000)) (vc (.own 90000)) b0 T T T T T T T T T T T T b13 b14 L [(5,[aL (Y X8.row a0.Points),aL (Y X1.row a0.Segments)])] [(90000,1,Y (rL rI) v6),(3200,1,Y rI (a1++([r9]:P U))),(3456,1,Y rI ([r9]:P U)),(3584,1,Y rI (a2++([v5]:P U))),(3840,1,Y rI ([v5]:P U))]):=by
 intro f
 induction f with
 | zero=>intro b0 b13 b14 h; simp at h
 | succ f ih=>
  intro b0 b13 b14;refine Aw ⟨?_,?_,?_,?_,?_,?_,?_,?_,?_,?_,?_,?_,?_,?_,?_,?_,?_,⟨⟩⟩<;>try first | (intro h; cases h; done) | (intro _ hw; simp at hw; done) | (intro h0 hw; obtain rfl:=hz h0 rfl; refine np ?_; simp only[A7,A8,Aa,A3,C,E,F,G,H,J]; exact ih _ _ _)
  ·intro h0 hw;obtain rfl:=hq hw 0 rfl rfl;obtain rfl:=hq hw 13 rfl rfl;obtain rfl:=hq hw 14 rfl rfl;refine⟨[(O,.frz 3200),(O,.frz 3584)],[(O,.ren 4096 90000),(O,.keep [1,2,3,4,5,11,12,14,31,32,33,49,50,51,52,53,54,55,56,57,58,59,60,61,62,63,64,4] [5] [90000,3456,3840])],X,X,?_⟩;try simp only[A7,A8,Aa,zA,I,A3,C,E,F,G,H,J]
   refine Ed ?_;try simp only[A3,C,E,F,G,H,J]
   refine Ed ?_;try simp only[A3,C,E,F,G,H,J]
   refine RX (h_rec _ _ _ _ _ _ hr18) 90000 X X (by simp only[St.fresh,zB,zC,Ak]; simp[AV.cells,V1.cells,AC.uses]) X X ?_;rw[Ol];try simp only[A3,C,E,F,G,H,J]
   refine gR X X ?_;try simp only[A3,C,E,F,G,H,J]
   exact tv rec_ h_rec a1 a2 a3 x1 v5 r9 a0 v6 r18 hg14 hg15 hg16 hg17 hr18 _
theorem W3(rec_:X0→(P U)→(P U)→U→(P (P U))→Q (P (P U)))(h_rec:∀(a0:X0) (a1 a2:P U) (a3:U) (a4:P (P U)) zr,rec_ a0 a1 a2 a3 a4=N zr→FCt Z 149 [.d (.ag (X0.row a0)),.d (.sc (.sl (Y rI a1))),.d (.sc (.sl (Y rI a2))),.d (.sc (.int .i64 a3)),.r] 1 (Y (rL rI) a4) (Y (rL rI) zr))(a1 a2:P U)(a3)(x1:U)(v5)(r9)(a0)(v6)(r18)(hg14:(A4 ([]:P U).length a1.length 8)=T)(hg15:(A4 a1.length ([r9]:P U).length 8)=T)(hg16:(A4 ([]:P U).length a2.length 8)=T)(hg17:(A4 a2.length ([v5]:P U).length 8)=T)(hr18:rec_ a0 (a1++([r9]:P U)) (a2++([v5]:P U)) a3 v6=N r18):∀(f:W) (b0 b13 b14:V),An Z B3 (AU a1 a2 a3 x1 v5 r9 a0 r18) f [b0,T,T,T,T,T,T,T,T,T,T,T,L,b13,b14,L,L] (A7 a1 a2 a3 x1 v5 r9 a0 (vc (.own 90000)) (vc (.undef)) (vc (.undef)) (vc (.own 3200)) (vc (.undef)) (vc (.own 3584)) (vc (.own 3584)) (vc (.own 90000)) (vc (.own 90000)) b0 T T T T T T T T T T T L b13 b14 L [(5,[aL (Y X8.row a0.Points),aL (Y X1.row a0.Segments)])] [(90000,1,Y (rL rI) v6),(3200,1,Y rI (a1++([r9]:P U))),(3456,1,Y rI ([r9]:P U)),(3584,1,Y rI a2),(3840,1,Y rI ([v5]:P U))]):=by
 intro f
 induction f with
 | zero=>intro b0 b13 b14 h; simp at h
 | succ f ih=>
  intro b0 b13 b14;refine Aw ⟨?_,?_,?_,?_,?_,?_,?_,?_,?_,?_,?_,?_,?_,?_,?_,?_,?_,⟨⟩⟩<;>try first | (intro h; cases h; done) | (intro _ hw; simp at hw; done) | (intro h0 hw; obtain rfl:=hz h0 rfl; refine np ?_; simp only[A7,A8,Aa,A3,C,E,F,G,H,J]; exact ih _ _ _)
  ·intro h0 hw;refine⟨[],[(O,.keep [1,2,3,4,5,11,12,14,31,32,33,49,50,51,52,53,54,55,56,57,58,59,60,61,62,63,64,4] [5] [90000,3200,3456,3584,3840])],X,X,?_⟩;try simp only[hg17,A7,A8,Aa,zA,I,A3,C,E,F,G,H,J]
   exact tw rec_ h_rec a1 a2 a3 x1 v5 r9 a0 v6 r18 hg14 hg15 hg16 hg17 hr18 _ b0 b13 b14
theorem tx(rec_:X0→(P U)→(P U)→U→(P (P U))→Q (P (P U)))(h_rec:∀(a0:X0) (a1 a2:P U) (a3:U) (a4:P (P U)) zr,rec_ a0 a1 a2 a3 a4=N zr→FCt Z 149 [.d (.ag (X0.row a0)),.d (.sc (.sl (Y rI a1))),.d (.sc (.sl (Y rI a2))),.d (.sc (.int .i64 a3)),.r] 1 (Y (rL rI) a4) (Y (rL rI) zr))(a1 a2:P U)(a3)(x1:U)(v5)(r9)(a0)(v6)(r18)(hg14:(A4 ([]:P U).length a1.length 8)=T)(hg15:(A4 a1.length ([r9]:P U).length 8)=T)(hg16:(A4 ([]:P U).length a2.length 8)=T)(hg17:(A4 a2.length ([v5]:P U).length 8)=T)(hr18:rec_ a0 (a1++([r9]:P U)) (a2++([v5]:P U)) a3 v6=N r18):∀(f:W) (b0 b10:V) (b13 b14:V),An Z B3 (AU a1 a2 a3 x1 v5 r9 a0 r18) f [b0,T,T,T,T,T,T,T,T,T,b10,L,L,b13,b14,L,L] (A7 a1 a2 a3 x1 v5 r9 a0 (vc (.own 90000)) (vc (.undef)) (vc (.undef)) (vc (.own 3200)) (vc (.undef)) (vc (.own 3584)) (vc (.own 3584)) (vc (.own 90000)) (vc (.own 90000)) b0 T T T T T T T T T b10 L L b13 b14 L [(5,[aL (Y X8.row a0.Points),aL (Y X1.row a0.Segments)])] [(90000,1,Y (rL rI) v6),(3200,1,Y rI (a1++([r9]:P U))),(3456,1,Y rI ([r9]:P U)),(3584,1,Y rI a2)]):=by
 intro f
 induction f with
 | zero=>intro b0 b10 b13 b14 h; simp at h
 | succ f ih=>
  intro b0 b10 b13 b14;refine Aw ⟨?_,?_,?_,?_,?_,?_,?_,?_,?_,?_,?_,?_,?_,?_,?_,?_,?_,⟨⟩⟩<;>try first | (intro h; cases h; done) | (intro _ hw; simp at hw; done) | (intro h0 hw; obtain rfl:=hz h0 rfl; refine np ?_; simp only[A7,A8,Aa,A3,C,E,F,G,H,J]; exact ih _ _ _ _)
  ·intro h0 hw;obtain rfl:=hq hw 10 rfl rfl;refine⟨[],[(O,.keep [1,2,3,4,5,11,12,14,31,32,33,49,50,51,52,53,54,55,56,57,58,59,60,61,62,63,64,4] [5] [90000,3200,3456,3584,3840])],X,X,?_⟩;try simp only[A7,A8,Aa,zA,I,A3,C,E,F,G,H,J]
   refine As (es:=Y rI ([v5]:P U)) X (by simp only[St.fresh,zB,zC,Ak]; simp[AV.cells,V1.cells,AC.uses]) ?_;try simp only[A3,C,E,F,G,H,J]
   exact W3 rec_ h_rec a1 a2 a3 x1 v5 r9 a0 v6 r18 hg14 hg15 hg16 hg17 hr18 _ b0 b13 b14
theorem Qk(rec_:X0→(P U)→(P U)→U→(P (P U))→Q (P (P U)))(h_rec:∀(a0:X0) (a1 a2:P U) (a3:U) (a4:P (P U)) zr,rec_ a0 a1 a2 a3 a4=N zr→FCt Z 149 [.d (.ag (X0.row a0)),.d (.sc (.sl (Y rI a1))),.d (.sc (.sl (Y rI a2))),.d (.sc (.int .i64 a3)),.r] 1 (Y (rL rI) a4) (Y (rL rI) zr))(a1 a2:P U)(a3)(x1:U)(v5)(r9)(a0)(v6)(r18)(hg14:(A4 ([]:P U).length a1.length 8)=T)(hg15:(A4 a1.length ([r9]:P U).length 8)=T)(hg16:(A4 ([]:P U).length a2.length 8)=T)(hg17:(A4 a2.length ([v5]:P U).length 8)=T)(hr18:rec_ a0 (a1++([r9]:P U)) (a2++([v5]:P U)) a3 v6=N r18):∀(f:W) (b0 b8:V) (b13 b14:V),An Z B3 (AU a1 a2 a3 x1 v5 r9 a0 r18) f [b0,T,T,T,T,T,T,T,b8,L,T,T,L,b13,b14,L,L] (A7 a1 a2 a3 x1 v5 r9 a0 (vc (.own 90000)) (vc (.undef)) (vc (.undef)) (vc (.own 3200)) (vc (.own 3584)) (vc (.own 3584)) (vc (.own 3584)) (vc (.own 90000)) (vc (.own 90000)) b0 T T T T T T T b8 L T T L b13 b14 L [(5,[aL (Y X8.row a0.Points),aL (Y X1.row a0.Segments)])] [(90000,1,Y (rL rI) v6),(3200,1,Y rI (a1++([r9]:P U))),(3456,1,Y rI ([r9]:P U)),(3584,1,Y rI ([]:P U)),(3840,1,Y rI ([v5]:P U))]):=by
 intro f
 induction f with
 | zero=>intro b0 b8 b13 b14 h; simp at h
 | succ f ih=>
  intro b0 b8 b13 b14;refine Aw ⟨?_,?_,?_,?_,?_,?_,?_,?_,?_,?_,?_,?_,?_,?_,?_,?_,?_,⟨⟩⟩<;>try first | (intro h; cases h; done) | (intro _ hw; simp at hw; done) | (intro h0 hw; obtain rfl:=hz h0 rfl; refine np ?_; simp only[A7,A8,Aa,A3,C,E,F,G,H,J]; exact ih _ _ _ _)
  ·intro h0 hw;obtain rfl:=hq hw 8 rfl rfl;refine⟨[],[(O,.keep [1,2,3,4,5,11,12,14,31,32,33,49,50,51,52,53,54,55,56,57,58,59,60,61,62,63,64,4] [5] [90000,3200,3456,3584,3840])],X,X,?_⟩;try simp only[hg16,A7,A8,Aa,zA,I,A3,C,E,F,G,H,J]
   exact W3 rec_ h_rec a1 a2 a3 x1 v5 r9 a0 v6 r18 hg14 hg15 hg16 hg17 hr18 _ b0 b13 b14
theorem W4(rec_:X0→(P U)→(P U)→U→(P (P U))→Q (P (P U)))(h_rec:∀(a0:X0) (a1 a2:P U) (a3:U) (a4:P (P U)) zr,rec_ a0 a1 a2 a3 a4=N zr→FCt Z 149 [.d (.ag (X0.row a0)),.d (.sc (.sl (Y rI a1))),.d (.sc (.sl (Y rI a2))),.d (.sc (.int .i64 a3)),.r] 1 (Y (rL rI) a4) (Y (rL rI) zr))(a1 a2:P U)(a3)(x1:U)(v5)(r9)(a0)(v6)(r18)(hg14:(A4 ([]:P U).length a1.length 8)=T)(hg15:(A4 a1.length ([r9]:P U).length 8)=T)(hg16:(A4 ([]:P U).length a2.length 8)=T)(hg17:(A4 a2.length ([v5]:P U).length 8)=T)(hr18:rec_ a0 (a1++([r9]:P U)) (a2++([v5]:P U)) a3 v6=N r18):∀(f:W) (b0 b8:V) (b10 b13 b14:V),An Z B3 (AU a1 a2 a3 x1 v5 r9 a0 r18) f [b0,T,T,T,T,T,T,T,b8,L,b10,L,L,b13,b14,L,L] (A7 a1 a2 a3 x1 v5 r9 a0 (vc (.own 90000)) (vc (.undef)) (vc (.undef)) (vc (.own 3200)) (vc (.own 3584)) (vc (.own 3584)) (vc (.own 3584)) (vc (.own 90000)) (vc (.own 90000)) b0 T T T T T T T b8 L b10 L L b13 b14 L [(5,[aL (Y X8.row a0.Points),aL (Y X1.row a0.Segments)])] [(90000,1,Y (rL rI) v6),(3200,1,Y rI (a1++([r9]:P U))),(3456,1,Y rI ([r9]:P U)),(3584,1,Y rI ([]:P U))]):=by
 intro f
 induction f with
 | zero=>intro b0 b8 b10 b13 b14 h; simp at h
 | succ f ih=>
  intro b0 b8 b10 b13 b14;refine Aw ⟨?_,?_,?_,?_,?_,?_,?_,?_,?_,?_,?_,?_,?_,?_,?_,?_,?_,⟨⟩⟩<;>try first | (intro h; cases h; done) | (intro _ hw; simp at hw; done) | (intro h0 hw; obtain rfl:=hz h0 rfl; refine np ?_; simp only[A7,A8,Aa,A3,C,E,F,G,H,J]; exact ih _ _ _ _ _)
  ·intro h0 hw;obtain rfl:=hq hw 8 rfl rfl;refine⟨[],[(O,.keep [1,2,3,4,5,11,12,14,31,32,33,49,50,51,52,53,54,55,56,57,58,59,60,61,62,63,64,4] [5] [90000,3200,3456,3584])],X,X,?_⟩;try simp only[hg16,A7,A8,Aa,zA,I,A3,C,E,F,G,H,J]
   exact tx rec_ h_rec a1 a2 a3 x1 v5 r9 a0 v6 r18 hg14 hg15 hg16 hg17 hr18 _ b0 b10 b13 b14
  ·intro h0 hw;obtain rfl:=hq hw 10 rfl rfl;refine⟨[],[(O,.keep [1,2,3,4,5,11,12,14,31,32,33,49,50,51,52,53,54,55,56,57,58,59,60,61,62,63,64,4] [5] [90000,3200,3456,3584,3840])],X,X,?_⟩;try simp only[A7,A8,Aa,zA,I,A3,C,E,F,G,H,J]
   refine As (es:=Y rI ([v5]:P U)) X (by simp only[St.fresh,zB,zC,Ak]; simp[AV.cells,V1.cells,AC.uses]) ?_;try simp only[A3,C,E,F,G,H,J]
   exact Qk rec_ h_rec a1 a2 a3 x1 v5 r9 a0 v6 r18 hg14 hg15 hg16 hg17 hr18 _ b0 b8 b13 b14
theorem W5(rec_:X0→(P U)→(P U)→U→(P (P U))→Q (P (P U)))(h_rec:∀(a0:X0) (a1 a2:P U) (a3:U) (a4:P (P U)) zr,rec_ a0 a1 a2 a3 a4=N zr→FCt Z 149 [.d (.ag (X0.row a0)),.d (.sc (.sl (Y rI a1))),.d (.sc (.sl (Y rI a2))),.d (.sc (.int .i64 a3)),.r] 1 (Y (rL rI) a4) (Y (rL rI) zr))(a1 a2:P U)(a3)(x1:U)(v5)(r9)(a0)(v6)(r18)(hg14:(A4 ([]:P U).length a1.length 8)=T)(hg15:(A4 a1.length ([r9]:P U).length 8)=T)(hg16:(A4 ([]:P U).length a2.length 8)=T)(hg17:(A4 a2.length ([v5]:P U).length 8)=T)(hr18:rec_ a0 (a1++([r9]:P U)) (a2++([v5]:P U)) a3 v6=N r18):∀(f:W) (b0 b8:V) (b13 b14:V),An Z B3 (AU a1 a2 a3 x1 v5 r9 a0 r18) f [b0,T,T,T,T,T,T,L,b8,L,T,T,L,b13,b14,L,L] (A7 a1 a2 a3 x1 v5 r9 a0 (vc (.own 90000)) (vc (.undef)) (vc (.undef)) (vc (.own 3200)) (vc (.own 3584)) (vc (.own 3584)) (vc (.own 3584)) (vc (.own 90000)) (vc (.own 90000)) b0 T T T T T T L b8 L T T L b13 b14 L [(5,[aL (Y X8.row a0.Points),aL (Y X1.row a0.Segments)])] [(90000,1,Y (rL rI) v6),(3200,1,Y rI (a1++([r9]:P U))),(3456,1,Y rI ([r9]:P U)),(3840,1,Y rI ([v5]:P U))]):=by
 intro f
 induction f with
 | zero=>intro b0 b8 b13 b14 h; simp at h
 | succ f ih=>
  intro b0 b8 b13 b14;refine Aw ⟨?_,?_,?_,?_,?_,?_,?_,?_,?_,?_,?_,?_,?_,?_,?_,?_,?_,⟨⟩⟩<;>try first | (intro h; cases h; done) | (intro _ hw; simp at hw; done) | (intro h0 hw; obtain rfl:=hz h0 rfl; refine np ?_; simp only[A7,A8,Aa,A3,C,E,F,G,H,J]; exact ih _ _ _ _)
  ·intro h0 hw;refine⟨[],[(O,.keep [1,2,3,4,5,11,12,14,31,32,33,49,50,51,52,53,54,55,56,57,58,59,60,61,62,63,64,4] [5] [90000,3200,3456,3584,3840])],X,X,?_⟩;try simp only[A7,A8,Aa,zA,I,A3,C,E,F,G,H,J]
   refine As (es:=Y rI ([]:P U)) X (by simp only[St.fresh,zB,zC,Ak]; simp[AV.cells,V1.cells,AC.uses]) ?_;try simp only[A3,C,E,F,G,H,J]
   exact Qk rec_ h_rec a1 a2 a3 x1 v5 r9 a0 v6 r18 hg14 hg15 hg16 hg17 hr18 _ b0 b8 b13 b14
theorem NZ(rec_:X0→(P U)→(P U)→U→(P (P U))→Q (P (P U)))(h_rec:∀(a0:X0) (a1 a2:P U) (a3:U) (a4:P (P U)) zr,rec_ a0 a1 a2 a3 a4=N zr→FCt Z 149 [.d (.ag (X0.row a0)),.d (.sc (.sl (Y rI a1))),.d (.sc (.sl (Y rI a2))),.d (.sc (.int .i64 a3)),.r] 1 (Y (rL rI) a4) (Y (rL rI) zr))(a1 a2:P U)(a3)(x1:U)(v5)(r9)(a0)(v6)(r18)(hg14:(A4 ([]:P U).length a1.length 8)=T)(hg15:(A4 a1.length ([r9]:P U).length 8)=T)(hg16:(A4 ([]:P U).length a2.length 8)=T)(hg17:(A4 a2.length ([v5]:P U).length 8)=T)(hr18:rec_ a0 (a1++([r9]:P U)) (a2++([v5]:P U)) a3 v6=N r18):∀(f:W) (b0 b8:V) (b13 b14:V),An Z B3 (AU a1 a2 a3 x1 v5 r9 a0 r18) f [b0,T,T,T,T,T,L,T,b8,L,T,T,L,b13,b14,L,L] (A7 a1 a2 a3 x1 v5 r9 a0 (vc (.own 90000)) (vc (.undef)) (vc (.own 3200)) (vc (.own 3200)) (vc (.own 3584)) (vc (.own 3584)) (vc (.own 3584)) (vc (.own 90000)) (vc (.own 90000)) b0 T T T T T L T b8 L T T L b13 b14 L [(5,[aL (Y X8.row a0.Points),aL (Y X1.row a0.Segments)])] [(90000,1,Y (rL rI) v6),(3200,1,Y rI a1),(3456,1,Y rI ([r9]:P U)),(3584,1,Y rI ([]:P U)),(3840,1,Y rI ([v5]:P U))]):=by
 intro f
 induction f with
 | zero=>intro b0 b8 b13 b14 h; simp at h
 | succ f ih=>
  intro b0 b8 b13 b14;refine Aw ⟨?_,?_,?_,?_,?_,?_,?_,?_,?_,?_,?_,?_,?_,?_,?_,?_,?_,⟨⟩⟩<;>try first | (intro h; cases h; done) | (intro _ hw; simp at hw; done) | (intro h0 hw; obtain rfl:=hz h0 rfl; refine np ?_; simp only[A7,A8,Aa,A3,C,E,F,G,H,J]; exact ih _ _ _ _)
  ·intro h0 hw;refine⟨[],[(O,.keep [1,2,3,4,5,11,12,14,31,32,33,49,50,51,52,53,54,55,56,57,58,59,60,61,62,63,64,4] [5] [90000,3200,3456,3584,3840])],X,X,?_⟩;try simp only[hg15,A7,A8,Aa,zA,I,A3,C,E,F,G,H,J]
   exact Qk rec_ h_rec a1 a2 a3 x1 v5 r9 a0 v6 r18 hg14 hg15 hg16 hg17 hr18 _ b0 b8 b13 b14
theorem uA(rec_:X0→(P U)→(P U)→U→(P (P U))→Q (P (P U)))(h_rec:∀(a0:X0) (a1 a2:P U) (a3:U) (a4:P (P U)) zr,rec_ a0 a1 a2 a3 a4=N zr→FCt Z 149 [.d (.ag (X0.row a0)),.d (.sc (.sl (Y rI a1))),.d (.sc (.sl (Y rI a2))),.d (.sc (.int .i64 a3)),.r] 1 (Y (rL rI) a4) (Y (rL rI) zr))(a1 a2:P U)(a3)(x1:U)(v5)(r9)(a0)(v6)(r18)(hg14:(A4 ([]:P U).length a1.length 8)=T)(hg15:(A4 a1.length ([r9]:P U).length 8)=T)(hg16:(A4 ([]:P U).length a2.length 8)=T)(hg17:(A4 a2.length ([v5]:P U).length 8)=T)(hr18:rec_ a0 (a1++([r9]:P U)) (a2++([v5]:P U)) a3 v6=N r18):∀(f:W) (b0 b8:V) (b10 b13 b14:V),An Z B3 (AU a1 a2 a3 x1 v5 r9 a0 r18) f [b0,T,T,T,T,T,T,L,b8,L,b10,L,L,b13,b14,L,L] (A7 a1 a2 a3 x1 v5 r9 a0 (vc (.own 90000)) (vc (.undef)) (vc (.undef)) (vc (.own 3200)) (vc (.own 3584)) (vc (.own 3584)) (vc (.own 3584)) (vc (.own 90000)) (vc (.own 90000)) b0 T T T T T T L b8 L b10 L L b13 b14 L [(5,[aL (Y X8.row a0.Points),aL (Y X1.row a0.Segments)])] [(90000,1,Y (rL rI) v6),(3200,1,Y rI (a1++([r9]:P U))),(3456,1,Y rI ([r9]:P U))]):=by
 intro f
 induction f with
 | zero=>intro b0 b8 b10 b13 b14 h; simp at h
 | succ f ih=>
  intro b0 b8 b10 b13 b14;refine Aw ⟨?_,?_,?_,?_,?_,?_,?_,?_,?_,?_,?_,?_,?_,?_,?_,?_,?_,⟨⟩⟩<;>try first | (intro h; cases h; done) | (intro _ hw; simp at hw; done) | (intro h0 hw; obtain rfl:=hz h0 rfl; refine np ?_; simp only[A7,A8,Aa,A3,C,E,F,G,H,J]; exact ih _ _ _ _ _)
  ·intro h0 hw;refine⟨[],[(O,.keep [1,2,3,4,5,11,12,14,31,32,33,49,50,51,52,53,54,55,56,57,58,59,60,61,62,63,64,4] [5] [90000,3200,3456,3584])],X,X,?_⟩;try simp only[A7,A8,Aa,zA,I,A3,C,E,F,G,H,J]
   refine As (es:=Y rI ([]:P U)) X (by simp only[St.fresh,zB,zC,Ak]; simp[AV.cells,V1.cells,AC.uses]) ?_;try simp only[A3,C,E,F,G,H,J]
   exact W4 rec_ h_rec a1 a2 a3 x1 v5 r9 a0 v6 r18 hg14 hg15 hg16 hg17 hr18 _ b0 b8 b10 b13 b14
  ·intro h0 hw;obtain rfl:=hq hw 10 rfl rfl;refine⟨[],[(O,.keep [1,2,3,4,5,11,12,14,31,32,33,49,50,51,52,53,54,55,56,57,58,59,60,61,62,63,64,4] [5] [90000,3200,3456,3840])],X,X,?_⟩;try simp only[A7,A8,Aa,zA,I,A3,C,E,F,G,H,J]
   refine As (es:=Y rI ([v5]:P U)) X (by simp only[St.fresh,zB,zC,Ak]; simp[AV.cells,V1.cells,AC.uses]) ?_;try simp only[A3,C,E,F,G,H,J]
   exact W5 rec_ h_rec a1 a2 a3 x1 v5 r9 a0 v6 r18 hg14 hg15 hg16 hg17 hr18 _ b0 b8 b13 b14
theorem Ql(rec_:X0→(P U)→(P U)→U→(P (P U))→Q (P (P U)))(h_rec:∀(a0:X0) (a1 a2:P U) (a3:U) (a4:P (P U)) zr,rec_ a0 a1 a2 a3 a4=N zr→FCt Z 149 [.d (.ag (X0.row a0)),.d (.sc (.sl (Y rI a1))),.d (.sc (.sl (Y rI a2))),.d (.sc (.int .i64 a3)),.r] 1 (Y (rL rI) a4) (Y (rL rI) zr))(a1 a2:P U)(a3)(x1:U)(v5)(r9)(a0)(v6)(r18)(hg14:(A4 ([]:P U).length a1.length 8)=T)(hg15:(A4 a1.length ([r9]:P U).length 8)=T)(hg16:(A4 ([]:P U).length a2.length 8)=T)(hg17:(A4 a2.length ([v5]:P U).length 8)=T)(hr18:rec_ a0 (a1++([r9]:P U)) (a2++([v5]:P U)) a3 v6=N r18):∀(f:W) (b0 b8:V) (b10 b13 b14:V),An Z B3 (AU a1 a2 a3 x1 v5 r9 a0 r18) f [b0,T,T,T,T,T,L,T,b8,L,b10,L,L,b13,b14,L,L] (A7 a1 a2 a3 x1 v5 r9 a0 (vc (.own 90000)) (vc (.undef)) (vc (.own 3200)) (vc (.own 3200)) (vc (.own 3584)) (vc (.own 3584)) (vc (.own 3584)) (vc (.own 90000)) (vc (.own 90000)) b0 T T T T T L T b8 L b10 L L b13 b14 L [(5,[aL (Y X8.row a0.Points),aL (Y X1.row a0.Segments)])] [(90000,1,Y (rL rI) v6),(3200,1,Y rI a1),(3456,1,Y rI ([r9]:P U)),(3584,1,Y rI ([]:P U))]):=by
 intro f
 induction f with
 | zero=>intro b0 b8 b10 b13 b14 h; simp at h
 | succ f ih=>
  intro b0 b8 b10 b13 b14;refine Aw ⟨?_,?_,?_,?_,?_,?_,?_,?_,?_,?_,?_,?_,?_,?_,?_,?_,?_,⟨⟩⟩<;>try first | (intro h; cases h; done) | (intro _ hw; simp at hw; done) | (intro h0 hw; obtain rfl:=hz h0 rfl; refine np ?_; simp only[A7,A8,Aa,A3,C,E,F,G,H,J]; exact ih _ _ _ _ _)
  ·intro h0 hw;refine⟨[],[(O,.keep [1,2,3,4,5,11,12,14,31,32,33,49,50,51,52,53,54,55,56,57,58,59,60,61,62,63,64,4] [5] [90000,3200,3456,3584])],X,X,?_⟩;try simp only[hg15,A7,A8,Aa,zA,I,A3,C,E,F,G,H,J]
   exact W4 rec_ h_rec a1 a2 a3 x1 v5 r9 a0 v6 r18 hg14 hg15 hg16 hg17 hr18 _ b0 b8 b10 b13 b14
  ·intro h0 hw;obtain rfl:=hq hw 10 rfl rfl;refine⟨[],[(O,.keep [1,2,3,4,5,11,12,14,31,32,33,49,50,51,52,53,54,55,56,57,58,59,60,61,62,63,64,4] [5] [90000,3200,3456,3584,3840])],X,X,?_⟩;try simp only[A7,A8,Aa,zA,I,A3,C,E,F,G,H,J]
   refine As (es:=Y rI ([v5]:P U)) X (by simp only[St.fresh,zB,zC,Ak]; simp[AV.cells,V1.cells,AC.uses]) ?_;try simp only[A3,C,E,F,G,H,J]
   exact NZ rec_ h_rec a1 a2 a3 x1 v5 r9 a0 v6 r18 hg14 hg15 hg16 hg17 hr18 _ b0 b8 b13 b14
theorem Qm(rec_:X0→(P U)→(P U)→U→(P (P U))→Q (P (P U)))(h_rec:∀(a0:X0) (a1 a2:P U) (a3:U) (a4:P (P U)) zr,rec_ a0 a1 a2 a3 a4=N zr→FCt Z 149 [.d (.ag (X0.row a0)),.d (.sc (.sl (Y rI a1))),.d (.sc (.sl (Y rI a2))),.d (.sc (.int .i64 a3)),.r] 1 (Y (rL rI) a4) (Y (rL rI) zr))(a1 a2:P U)(a3)(x1:U)(v5)(r9)(a0)(v6)(r18)(hg14:(A4 ([]:P U).length a1.length 8)=T)(hg15:(A4 a1.length ([r9]:P U).length 8)=T)(hg16:(A4 ([]:P U).length a2.length 8)=T)(hg17:(A4 a2.length ([v5]:P U).length 8)=T)(hr18:rec_ a0 (a1++([r9]:P U)) (a2++([v5]:P U)) a3 v6=N r18):∀(f:W) (b0 b8:V) (b13 b14:V),An Z B3 (AU a1 a2 a3 x1 v5 r9 a0 r18) f [b0,T,T,T,T,T,L,L,b8,L,T,T,L,b13,b14,L,L] (A7 a1 a2 a3 x1 v5 r9 a0 (vc (.own 90000)) (vc (.undef)) (vc (.own 3200)) (vc (.own 3200)) (vc (.own 3584)) (vc (.own 3584)) (vc (.own 3584)) (vc (.own 90000)) (vc (.own 90000)) b0 T T T T T L L b8 L T T L b13 b14 L [(5,[aL (Y X8.row a0.Points),aL (Y X1.row a0.Segments)])] [(90000,1,Y (rL rI) v6),(3200,1,Y rI a1),(3456,1,Y rI ([r9]:P U)),(3840,1,Y rI ([v5]:P U))]):=by
 intro f
 induction f with
 | zero=>intro b0 b8 b13 b14 h; simp at h
 | succ f ih=>
  intro b0 b8 b13 b14;refine Aw ⟨?_,?_,?_,?_,?_,?_,?_,?_,?_,?_,?_,?_,?_,?_,?_,?_,?_,⟨⟩⟩<;>try first | (intro h; cases h; done) | (intro _ hw; simp at hw; done) | (intro h0 hw; obtain rfl:=hz h0 rfl; refine np ?_; simp only[A7,A8,Aa,A3,C,E,F,G,H,J]; exact ih _ _ _ _)
  ·intro h0 hw;refine⟨[],[(O,.keep [1,2,3,4,5,11,12,14,31,32,33,49,50,51,52,53,54,55,56,57,58,59,60,61,62,63,64,4] [5] [90000,3200,3456,3840])],X,X,?_⟩;try simp only[hg15,A7,A8,Aa,zA,I,A3,C,E,F,G,H,J]
   exact W5 rec_ h_rec a1 a2 a3 x1 v5 r9 a0 v6 r18 hg14 hg15 hg16 hg17 hr18 _ b0 b8 b13 b14
  ·intro h0 hw;refine⟨[],[(O,.keep [1,2,3,4,5,11,12,14,31,32,33,49,50,51,52,53,54,55,56,57,58,59,60,61,62,63,64,4] [5] [90000,3200,3456,3584,3840])],X,X,?_⟩;try simp only[A7,A8,Aa,zA,I,A3,C,E,F,G,H,J]
   refine As (es:=Y rI ([]:P U)) X (by simp only[St.fresh,zB,zC,Ak]; simp[AV.cells,V1.cells,AC.uses]) ?_;try simp only[A3,C,E,F,G,H,J]
   exact NZ rec_ h_rec a1 a2 a3 x1 v5 r9 a0 v6 r18 hg14 hg15 hg16 hg17 hr18 _ b0 b8 b13 b14
theorem Qn(rec_:X0→(P U)→(P U)→U→(P (P U))→Q (P (P U)))(h_rec:∀(a0:X0) (a1 a2:P U) (a3:U) (a4:P (P U)) zr,rec_ a0 a1 a2 a3 a4=N zr→FCt Z 149 [.d (.ag (X0.row a0)),.d (.sc (.sl (Y rI a1))),.d (.sc (.sl (Y rI a2))),.d (.sc (.int .i64 a3)),.r] 1 (Y (rL rI) a4) (Y (rL rI) zr))(a1 a2:P U)(a3)(x1:U)(v5)(r9)(a0)(v6)(r18)(hg14:(A4 ([]:P U).length a1.length 8)=T)(hg15:(A4 a1.length ([r9]:P U).length 8)=T)(hg16:(A4 ([]:P U).length a2.length 8)=T)(hg17:(A4 a2.length ([v5]:P U).length 8)=T)(hr18:rec_ a0 (a1++([r9]:P U)) (a2++([v5]:P U)) a3 v6=N r18):∀(f:W) (b0 b4:V) (b8 b13 b14:V),An Z B3 (AU a1 a2 a3 x1 v5 r9 a0 r18) f [b0,T,T,T,b4,L,L,T,b8,L,T,T,L,b13,b14,L,L] (A7 a1 a2 a3 x1 v5 r9 a0 (vc (.own 90000)) (vc (.undef)) (vc (.own 3200)) (vc (.own 3200)) (vc (.own 3584)) (vc (.own 3584)) (vc (.own 3584)) (vc (.own 90000)) (vc (.own 90000)) b0 T T T b4 L L T b8 L T T L b13 b14 L [(5,[aL (Y X8.row a0.Points),aL (Y X1.row a0.Segments)])] [(90000,1,Y (rL rI) v6),(3200,1,Y rI a1),(3584,1,Y rI ([]:P U)),(3840,1,Y rI ([v5]:P U))]):=by
 intro f
 induction f with
 | zero=>intro b0 b4 b8 b13 b14 h; simp at h
 | succ f ih=>
  intro b0 b4 b8 b13 b14;refine Aw ⟨?_,?_,?_,?_,?_,?_,?_,?_,?_,?_,?_,?_,?_,?_,?_,?_,?_,⟨⟩⟩<;>try first | (intro h; cases h; done) | (intro _ hw; simp at hw; done) | (intro h0 hw; obtain rfl:=hz h0 rfl; refine np ?_; simp only[A7,A8,Aa,A3,C,E,F,G,H,J]; exact ih _ _ _ _ _)
  ·intro h0 hw;obtain rfl:=hq hw 4 rfl rfl;refine⟨[],[(O,.keep [1,2,3,4,5,11,12,14,31,32,33,49,50,51,52,53,54,55,56,57,58,59,60,61,62,63,64,4] [5] [90000,3200,3456,3584,3840])],X,X,?_⟩;try simp only[A7,A8,Aa,zA,I,A3,C,E,F,G,H,J]
   refine As (es:=Y rI ([r9]:P U)) X (by simp only[St.fresh,zB,zC,Ak]; simp[AV.cells,V1.cells,AC.uses]) ?_;try simp only[A3,C,E,F,G,H,J]
   exact NZ rec_ h_rec a1 a2 a3 x1 v5 r9 a0 v6 r18 hg14 hg15 hg16 hg17 hr18 _ b0 b8 b13 b14
theorem O0(rec_:X0→(P U)→(P U)→U→(P (P U))→Q (P (P U)))(h_rec:∀(a0:X0) (a1 a2:P U) (a3:U) (a4:P (P U)) zr,rec_ a0 a1 a2 a3 a4=N zr→FCt Z 149 [.d (.ag (X0.row a0)),.d (.sc (.sl (Y rI a1))),.d (.sc (.sl (Y rI a2))),.d (.sc (.int .i64 a3)),.r] 1 (Y (rL rI) a4) (Y (rL rI) zr))(a1 a2:P U)(a3)(x1:U)(v5)(r9)(a0)(v6)(r18)(hg14:(A4 ([]:P U).length a1.length 8)=T)(hg15:(A4 a1.length ([r9]:P U).length 8)=T)(hg16:(A4 ([]:P U).length a2.length 8)=T)(hg17:(A4 a2.length ([v5]:P U).length 8)=T)(hr18:rec_ a0 (a1++([r9]:P U)) (a2++([v5]:P U)) a3 v6=N r18):∀(f:W) (b0 b2:V) (b8 b13 b14:V),An Z B3 (AU a1 a2 a3 x1 v5 r9 a0 r18) f [b0,T,b2,L,T,T,L,T,b8,L,T,T,L,b13,b14,L,L] (A7 a1 a2 a3 x1 v5 r9 a0 (vc (.own 90000)) (vc (.own 3200)) (vc (.own 3200)) (vc (.own 3200)) (vc (.own 3584)) (vc (.own 3584)) (vc (.own 3584)) (vc (.own 90000)) (vc (.own 90000)) b0 T b2 L T T L T b8 L T T L b13 b14 L [(5,[aL (Y X8.row a0.Points),aL (Y X1.row a0.Segments)])] [(90000,1,Y (rL rI) v6),(3200,1,Y rI ([]:P U)),(3456,1,Y rI ([r9]:P U)),(3584,1,Y rI ([]:P U)),(3840,1,Y rI ([v5]:P U))]):=by
 intro f
 induction f with
 | zero=>intro b0 b2 b8 b13 b14 h; simp at h
 | succ f ih=>
  intro b0 b2 b8 b13 b14;refine Aw ⟨?_,?_,?_,?_,?_,?_,?_,?_,?_,?_,?_,?_,?_,?_,?_,?_,?_,⟨⟩⟩<;>try first | (intro h; cases h; done) | (intro _ hw; simp at hw; done) | (intro h0 hw; obtain rfl:=hz h0 rfl; refine np ?_; simp only[A7,A8,Aa,A3,C,E,F,G,H,J]; exact ih _ _ _ _ _)
  ·intro h0 hw;obtain rfl:=hq hw 2 rfl rfl;refine⟨[],[(O,.keep [1,2,3,4,5,11,12,14,31,32,33,49,50,51,52,53,54,55,56,57,58,59,60,61,62,63,64,4] [5] [90000,3200,3456,3584,3840])],X,X,?_⟩;try simp only[hg14,A7,A8,Aa,zA,I,A3,C,E,F,G,H,J]
   exact NZ rec_ h_rec a1 a2 a3 x1 v5 r9 a0 v6 r18 hg14 hg15 hg16 hg17 hr18 _ b0 b8 b13 b14
theorem W6(rec_:X0→(P U)→(P U)→U→(P (P U))→Q (P (P U)))(h_rec:∀(a0:X0) (a1 a2:P U) (a3:U) (a4:P (P U)) zr,rec_ a0 a1 a2 a3 a4=N zr→FCt Z 149 [.d (.ag (X0.row a0)),.d (.sc (.sl (Y rI a1))),.d (.sc (.sl (Y rI a2))),.d (.sc (.int .i64 a3)),.r] 1 (Y (rL rI) a4) (Y (rL rI) zr))(a1 a2:P U)(a3)(x1:U)(v5)(r9)(a0)(v6)(r18)(hg14:(A4 ([]:P U).length a1.length 8)=T)(hg15:(A4 a1.length ([r9]:P U).length 8)=T)(hg16:(A4 ([]:P U).length a2.length 8)=T)(hg17:(A4 a2.length ([v5]:P U).length 8)=T)(hr18:rec_ a0 (a1++([r9]:P U)) (a2++([v5]:P U)) a3 v6=N r18):∀(f:W) (b0 b8:V) (b10 b13 b14:V),An Z B3 (AU a1 a2 a3 x1 v5 r9 a0 r18) f [b0,T,T,T,T,T,L,L,b8,L,b10,L,L,b13,b14,L,L] (A7 a1 a2 a3 x1 v5 r9 a0 (vc (.own 90000)) (vc (.undef)) (vc (.own 3200)) (vc (.own 3200)) (vc (.own 3584)) (vc (.own 3584)) (vc (.own 3584)) (vc (.own 90000)) (vc (.own 90000)) b0 T T T T T L L b8 L b10 L L b13 b14 L [(5,[aL (Y X8.row a0.Points),aL (Y X1.row a0.Segments)])] [(90000,1,Y (rL rI) v6),(3200,1,Y rI a1),(3456,1,Y rI ([r9]:P U))]):=by
 intro f
 induction f with
 | zero=>intro b0 b8 b10 b13 b14 h; simp at h
 | succ f ih=>
  intro b0 b8 b10 b13 b14;refine Aw ⟨?_,?_,?_,?_,?_,?_,?_,?_,?_,?_,?_,?_,?_,?_,?_,?_,?_,⟨⟩⟩<;>try first | (intro h; cases h; done) | (intro _ hw; simp at hw; done) | (intro h0 hw; obtain rfl:=hz h0 rfl; refine np ?_; simp only[A7,A8,Aa,A3,C,E,F,G,H,J]; exact ih _ _ _ _ _)
  ·intro h0 hw;refine⟨[],[(O,.keep [1,2,3,4,5,11,12,14,31,32,33,49,50,51,52,53,54,55,56,57,58,59,60,61,62,63,64,4] [5] [90000,3200,3456])],X,X,?_⟩;try simp only[hg15,A7,A8,Aa,zA,I,A3,C,E,F,G,H,J]
   exact uA rec_ h_rec a1 a2 a3 x1 v5 r9 a0 v6 r18 hg14 hg15 hg16 hg17 hr18 _ b0 b8 b10 b13 b14
  ·intro h0 hw;refine⟨[],[(O,.keep [1,2,3,4,5,11,12,14,31,32,33,49,50,51,52,53,54,55,56,57,58,59,60,61,62,63,64,4] [5] [90000,3200,3456,3584])],X,X,?_⟩;try simp only[A7,A8,Aa,zA,I,A3,C,E,F,G,H,J]
   refine As (es:=Y rI ([]:P U)) X (by simp only[St.fresh,zB,zC,Ak]; simp[AV.cells,V1.cells,AC.uses]) ?_;try simp only[A3,C,E,F,G,H,J]
   exact Ql rec_ h_rec a1 a2 a3 x1 v5 r9 a0 v6 r18 hg14 hg15 hg16 hg17 hr18 _ b0 b8 b10 b13 b14
  ·intro h0 hw;obtain rfl:=hq hw 10 rfl rfl;refine⟨[],[(O,.keep [1,2,3,4,5,11,12,14,31,32,33,49,50,51,52,53,54,55,56,57,58,59,60,61,62,63,64,4] [5] [90000,3200,3456,3840])],X,X,?_⟩;try simp only[A7,A8,Aa,zA,I,A3,C,E,F,G,H,J]
   refine As (es:=Y rI ([v5]:P U)) X (by simp only[St.fresh,zB,zC,Ak]; simp[AV.cells,V1.cells,AC.uses]) ?_;try simp only[A3,C,E,F,G,H,J]
   exact Qm rec_ h_rec a1 a2 a3 x1 v5 r9 a0 v6 r18 hg14 hg15 hg16 hg17 hr18 _ b0 b8 b13 b14
theorem W7(rec_:X0→(P U)→(P U)→U→(P (P U))→Q (P (P U)))(h_rec:∀(a0:X0) (a1 a2:P U) (a3:U) (a4:P (P U)) zr,rec_ a0 a1 a2 a3 a4=N zr→FCt Z 149 [.d (.ag (X0.row a0)),.d (.sc (.sl (Y rI a1))),.d (.sc (.sl (Y rI a2))),.d (.sc (.int .i64 a3)),.r] 1 (Y (rL rI) a4) (Y (rL rI) zr))(a1 a2:P U)(a3)(x1:U)(v5)(r9)(a0)(v6)(r18)(hg14:(A4 ([]:P U).length a1.length 8)=T)(hg15:(A4 a1.length ([r9]:P U).length 8)=T)(hg16:(A4 ([]:P U).length a2.length 8)=T)(hg17:(A4 a2.length ([v5]:P U).length 8)=T)(hr18:rec_ a0 (a1++([r9]:P U)) (a2++([v5]:P U)) a3 v6=N r18):∀(f:W) (b0 b4:V) (b8 b10:V) (b13 b14:V),An Z B3 (AU a1 a2 a3 x1 v5 r9 a0 r18) f [b0,T,T,T,b4,L,L,T,b8,L,b10,L,L,b13,b14,L,L] (A7 a1 a2 a3 x1 v5 r9 a0 (vc (.own 90000)) (vc (.undef)) (vc (.own 3200)) (vc (.own 3200)) (vc (.own 3584)) (vc (.own 3584)) (vc (.own 3584)) (vc (.own 90000)) (vc (.own 90000)) b0 T T T b4 L L T b8 L b10 L L b13 b14 L [(5,[aL (Y X8.row a0.Points),aL (Y X1.row a0.Segments)])] [(90000,1,Y (rL rI) v6),(3200,1,Y rI a1),(3584,1,Y rI ([]:P U))]):=by
 intro f
 induction f with
 | zero=>intro b0 b4 b8 b10 b13 b14 h; simp at h
 | succ f ih=>
  intro b0 b4 b8 b10 b13 b14;refine Aw ⟨?_,?_,?_,?_,?_,?_,?_,?_,?_,?_,?_,?_,?_,?_,?_,?_,?_,⟨⟩⟩<;>try first | (intro h; cases h; done) | (intro _ hw; simp at hw; done) | (intro h0 hw; obtain rfl:=hz h0 rfl; refine np ?_; simp only[A7,A8,Aa,A3,C,E,F,G,H,J]; exact ih _ _ _ _ _ _)
  ·intro h0 hw;obtain rfl:=hq hw 4 rfl rfl;refine⟨[],[(O,.keep [1,2,3,4,5,11,12,14,31,32,33,49,50,51,52,53,54,55,56,57,58,59,60,61,62,63,64,4] [5] [90000,3200,3456,3584])],X,X,?_⟩;try simp only[A7,A8,Aa,zA,I,A3,C,E,F,G,H,J]
   refine As (es:=Y rI ([r9]:P U)) X (by simp only[St.fresh,zB,zC,Ak]; simp[AV.cells,V1.cells,AC.uses]) ?_;try simp only[A3,C,E,F,G,H,J]
   exact Ql rec_ h_rec a1 a2 a3 x1 v5 r9 a0 v6 r18 hg14 hg15 hg16 hg17 hr18 _ b0 b8 b10 b13 b14
  ·intro h0 hw;obtain rfl:=hq hw 10 rfl rfl;refine⟨[],[(O,.keep [1,2,3,4,5,11,12,14,31,32,33,49,50,51,52,53,54,55,56,57,58,59,60,61,62,63,64,4] [5] [90000,3200,3584,3840])],X,X,?_⟩;try simp only[A7,A8,Aa,zA,I,A3,C,E,F,G,H,J]
   refine As (es:=Y rI ([v5]:P U)) X (by simp only[St.fresh,zB,zC,Ak]; simp[AV.cells,V1.cells,AC.uses]) ?_;try simp only[A3,C,E,F,G,H,J]
   exact Qn rec_ h_rec a1 a2 a3 x1 v5 r9 a0 v6 r18 hg14 hg15 hg16 hg17 hr18 _ b0 b4 b8 b13 b14
theorem W8(rec_:X0→(P U)→(P U)→U→(P (P U))→Q (P (P U)))(h_rec:∀(a0:X0) (a1 a2:P U) (a3:U) (a4:P (P U)) zr,rec_ a0 a1 a2 a3 a4=N zr→FCt Z 149 [.d (.ag (X0.row a0)),.d (.sc (.sl (Y rI a1))),.d (.sc (.sl (Y rI a2))),.d (.sc (.int .i64 a3)),.r] 1 (Y (rL rI) a4) (Y (rL rI) zr))(a1 a2:P U)(a3)(x1:U)(v5)(r9)(a0)(v6)(r18)(hg14:(A4 ([]:P U).length a1.length 8)=T)(hg15:(A4 a1.length ([r9]:P U).length 8)=T)(hg16:(A4 ([]:P U).length a2.length 8)=T)(hg17:(A4 a2.length ([v5]:P U).length 8)=T)(hr18:rec_ a0 (a1++([r9]:P U)) (a2++([v5]:P U)) a3 v6=N r18):∀(f:W) (b0 b4:V) (b8 b13 b14:V),An Z B3 (AU a1 a2 a3 x1 v5 r9 a0 r18) f [b0,T,T,T,b4,L,L,L,b8,L,T,T,L,b13,b14,L,L] (A7 a1 a2 a3 x1 v5 r9 a0 (vc (.own 90000)) (vc (.undef)) (vc (.own 3200)) (vc (.own 3200)) (vc (.own 3584)) (vc (.own 3584)) (vc (.own 3584)) (vc (.own 90000)) (vc (.own 90000)) b0 T T T b4 L L L b8 L T T L b13 b14 L [(5,[aL (Y X8.row a0.Points),aL (Y X1.row a0.Segments)])] [(90000,1,Y (rL rI) v6),(3200,1,Y rI a1),(3840,1,Y rI ([v5]:P U))]):=by
 intro f
 induction f with
 | zero=>intro b0 b4 b8 b13 b14 h; simp at h
 | succ f ih=>
  intro b0 b4 b8 b13 b14;refine Aw ⟨?_,?_,?_,?_,?_,?_,?_,?_,?_,?_,?_,?_,?_,?_,?_,?_,?_,⟨⟩⟩<;>try first | (intro h; cases h; done) | (intro _ hw; simp at hw; done) | (intro h0 hw; obtain rfl:=hz h0 rfl; refine np ?_; simp only[A7,A8,Aa,A3,C,E,F,G,H,J]; exact ih _ _ _ _ _)
  ·intro h0 hw;obtain rfl:=hq hw 4 rfl rfl;refine⟨[],[(O,.keep [1,2,3,4,5,11,12,14,31,32,33,49,50,51,52,53,54,55,56,57,58,59,60,61,62,63,64,4] [5] [90000,3200,3456,3840])],X,X,?_⟩;try simp only[A7,A8,Aa,zA,I,A3,C,E,F,G,H,J]
   refine As (es:=Y rI ([r9]:P U)) X (by simp only[St.fresh,zB,zC,Ak]; simp[AV.cells,V1.cells,AC.uses]) ?_;try simp only[A3,C,E,F,G,H,J]
   exact Qm rec_ h_rec a1 a2 a3 x1 v5 r9 a0 v6 r18 hg14 hg15 hg16 hg17 hr18 _ b0 b8 b13 b14
  ·intro h0 hw;refine⟨[],[(O,.keep [1,2,3,4,5,11,12,14,31,32,33,49,50,51,52,53,54,55,56,57,58,59,60,61,62,63,64,4] [5] [90000,3200,3584,3840])],X,X,?_⟩;try simp only[A7,A8,Aa,zA,I,A3,C,E,F,G,H,J]
   refine As (es:=Y rI ([]:P U)) X (by simp only[St.fresh,zB,zC,Ak]; simp[AV.cells,V1.cells,AC.uses]) ?_;try simp only[A3,C,E,F,G,H,J]
   exact Qn rec_ h_rec a1 a2 a3 x1 v5 r9 a0 v6 r18 hg14 hg15 hg16 hg17 hr18 _ b0 b4 b8 b13 b14
theorem Qo(rec_:X0→(P U)→(P U)→U→(P (P U))→Q (P (P U)))(h_rec:∀(a0:X0) (a1 a2:P U) (a3:U) (a4:P (P U)) zr,rec_ a0 a1 a2 a3 a4=N zr→FCt Z 149 [.d (.ag (X0.row a0)),.d (.sc (.sl (Y rI a1))),.d (.sc (.sl (Y rI a2))),.d (.sc (.int .i64 a3)),.r] 1 (Y (rL rI) a4) (Y (rL rI) zr))(a1 a2:P U)(a3)(x1:U)(v5)(r9)(a0)(v6)(r18)(hg14:(A4 ([]:P U).length a1.length 8)=T)(hg15:(A4 a1.length ([r9]:P U).length 8)=T)(hg16:(A4 ([]:P U).length a2.length 8)=T)(hg17:(A4 a2.length ([v5]:P U).length 8)=T)(hr18:rec_ a0 (a1++([r9]:P U)) (a2++([v5]:P U)) a3 v6=N r18):∀(f:W) (b0 b2:V) (b8 b10:V) (b13 b14:V),An Z B3 (AU a1 a2 a3 x1 v5 r9 a0 r18) f [b0,T,b2,L,T,T,L,T,b8,L,b10,L,L,b13,b14,L,L] (A7 a1 a2 a3 x1 v5 r9 a0 (vc (.own 90000)) (vc (.own 3200)) (vc (.own 3200)) (vc (.own 3200)) (vc (.own 3584)) (vc (.own 3584)) (vc (.own 3584)) (vc (.own 90000)) (vc (.own 90000)) b0 T b2 L T T L T b8 L b10 L L b13 b14 L [(5,[aL (Y X8.row a0.Points),aL (Y X1.row a0.Segments)])] [(90000,1,Y (rL rI) v6),(3200,1,Y rI ([]:P U)),(3456,1,Y rI ([r9]:P U)),(3584,1,Y rI ([]:P U))]):=by
 intro f
 induction f with
 | zero=>intro b0 b2 b8 b10 b13 b14 h; simp at h
 | succ f ih=>
  intro b0 b2 b8 b10 b13 b14;refine Aw ⟨?_,?_,?_,?_,?_,?_,?_,?_,?_,?_,?_,?_,?_,?_,?_,?_,?_,⟨⟩⟩<;>try first | (intro h; cases h; done) | (intro _ hw; simp at hw; done) | (intro h0 hw; obtain rfl:=hz h0 rfl; refine np ?_; simp only[A7,A8,Aa,A3,C,E,F,G,H,J]; exact ih _ _ _ _ _ _)
  ·intro h0 hw;obtain rfl:=hq hw 2 rfl rfl;refine⟨[],[(O,.keep [1,2,3,4,5,11,12,14,31,32,33,49,50,51,52,53,54,55,56,57,58,59,60,61,62,63,64,4] [5] [90000,3200,3456,3584])],X,X,?_⟩;try simp only[hg14,A7,A8,Aa,zA,I,A3,C,E,F,G,H,J]
   exact Ql rec_ h_rec a1 a2 a3 x1 v5 r9 a0 v6 r18 hg14 hg15 hg16 hg17 hr18 _ b0 b8 b10 b13 b14
  ·intro h0 hw;obtain rfl:=hq hw 10 rfl rfl;refine⟨[],[(O,.keep [1,2,3,4,5,11,12,14,31,32,33,49,50,51,52,53,54,55,56,57,58,59,60,61,62,63,64,4] [5] [90000,3200,3456,3584,3840])],X,X,?_⟩;try simp only[A7,A8,Aa,zA,I,A3,C,E,F,G,H,J]
   refine As (es:=Y rI ([v5]:P U)) X (by simp only[St.fresh,zB,zC,Ak]; simp[AV.cells,V1.cells,AC.uses]) ?_;try simp only[A3,C,E,F,G,H,J]
   exact O0 rec_ h_rec a1 a2 a3 x1 v5 r9 a0 v6 r18 hg14 hg15 hg16 hg17 hr18 _ b0 b2 b8 b13 b14
theorem Qp(rec_:X0→(P U)→(P U)→U→(P (P U))→Q (P (P U)))(h_rec:∀(a0:X0) (a1 a2:P U) (a3:U) (a4:P (P U)) zr,rec_ a0 a1 a2 a3 a4=N zr→FCt Z 149 [.d (.ag (X0.row a0)),.d (.sc (.sl (Y rI a1))),.d (.sc (.sl (Y rI a2))),.d (.sc (.int .i64 a3)),.r] 1 (Y (rL rI) a4) (Y (rL rI) zr))(a1 a2:P U)(a3)(x1:U)(v5)(r9)(a0)(v6)(r18)(hg14:(A4 ([]:P U).length a1.length 8)=T)(hg15:(A4 a1.length ([r9]:P U).length 8)=T)(hg16:(A4 ([]:P U).length a2.length 8)=T)(hg17:(A4 a2.length ([v5]:P U).length 8)=T)(hr18:rec_ a0 (a1++([r9]:P U)) (a2++([v5]:P U)) a3 v6=N r18):∀(f:W) (b0 b2:V) (b8 b13 b14:V),An Z B3 (AU a1 a2 a3 x1 v5 r9 a0 r18) f [b0,T,b2,L,T,T,L,L,b8,L,T,T,L,b13,b14,L,L] (A7 a1 a2 a3 x1 v5 r9 a0 (vc (.own 90000)) (vc (.own 3200)) (vc (.own 3200)) (vc (.own 3200)) (vc (.own 3584)) (vc (.own 3584)) (vc (.own 3584)) (vc (.own 90000)) (vc (.own 90000)) b0 T b2 L T T L L b8 L T T L b13 b14 L [(5,[aL (Y X8.row a0.Points),aL (Y X1.row a0.Segments)])] [(90000,1,Y (rL rI) v6),(3200,1,Y rI ([]:P U)),(3456,1,Y rI ([r9]:P U)),(3840,1,Y rI ([v5]:P U))]):=by
 intro f
 induction f with
 | zero=>intro b0 b2 b8 b13 b14 h; simp at h
 | succ f ih=>
  intro b0 b2 b8 b13 b14;refine Aw ⟨?_,?_,?_,?_,?_,?_,?_,?_,?_,?_,?_,?_,?_,?_,?_,?_,?_,⟨⟩⟩<;>try first | (intro h; cases h; done) | (intro _ hw; simp at hw; done) | (intro h0 hw; obtain rfl:=hz h0 rfl; refine np ?_; simp only[A7,A8,Aa,A3,C,E,F,G,H,J]; exact ih _ _ _ _ _)
  ·intro h0 hw;obtain rfl:=hq hw 2 rfl rfl;refine⟨[],[(O,.keep [1,2,3,4,5,11,12,14,31,32,33,49,50,51,52,53,54,55,56,57,58,59,60,61,62,63,64,4] [5] [90000,3200,3456,3840])],X,X,?_⟩;try simp only[hg14,A7,A8,Aa,zA,I,A3,C,E,F,G,H,J]
   exact Qm rec_ h_rec a1 a2 a3 x1 v5 r9 a0 v6 r18 hg14 hg15 hg16 hg17 hr18 _ b0 b8 b13 b14
  ·intro h0 hw;refine⟨[],[(O,.keep [1,2,3,4,5,11,12,14,31,32,33,49,50,51,52,53,54,55,56,57,58,59,60,61,62,63,64,4] [5] [90000,3200,3456,3584,3840])],X,X,?_⟩;try simp only[A7,A8,Aa,zA,I,A3,C,E,F,G,H,J]
   refine As (es:=Y rI ([]:P U)) X (by simp only[St.fresh,zB,zC,Ak]; simp[AV.cells,V1.cells,AC.uses]) ?_;try simp only[A3,C,E,F,G,H,J]
   exact O0 rec_ h_rec a1 a2 a3 x1 v5 r9 a0 v6 r18 hg14 hg15 hg16 hg17 hr18 _ b0 b2 b8 b13 b14
theorem Qq(rec_:X0→(P U)→(P U)→U→(P (P U))→Q (P (P U)))(h_rec:∀(a0:X0) (a1 a2:P U) (a3:U) (a4:P (P U)) zr,rec_ a0 a1 a2 a3 a4=N zr→FCt Z 149 [.d (.ag (X0.row a0)),.d (.sc (.sl (Y rI a1))),.d (.sc (.sl (Y rI a2))),.d (.sc (.int .i64 a3)),.r] 1 (Y (rL rI) a4) (Y (rL rI) zr))(a1 a2:P U)(a3)(x1:U)(v5)(r9)(a0)(v6)(r18)(hg14:(A4 ([]:P U).length a1.length 8)=T)(hg15:(A4 a1.length ([r9]:P U).length 8)=T)(hg16:(A4 ([]:P U).length a2.length 8)=T)(hg17:(A4 a2.length ([v5]:P U).length 8)=T)(hr18:rec_ a0 (a1++([r9]:P U)) (a2++([v5]:P U)) a3 v6=N r18):∀(f:W) (b0 b2:V) (b4 b8:V) (b13 b14:V),An Z B3 (AU a1 a2 a3 x1 v5 r9 a0 r18) f [b0,T,b2,L,b4,L,L,T,b8,L,T,T,L,b13,b14,L,L] (A7 a1 a2 a3 x1 v5 r9 a0 (vc (.own 90000)) (vc (.own 3200)) (vc (.own 3200)) (vc (.own 3200)) (vc (.own 3584)) (vc (.own 3584)) (vc (.own 3584)) (vc (.own 90000)) (vc (.own 90000)) b0 T b2 L b4 L L T b8 L T T L b13 b14 L [(5,[aL (Y X8.row a0.Points),aL (Y X1.row a0.Segments)])] [(90000,1,Y (rL rI) v6),(3200,1,Y rI ([]:P U)),(3584,1,Y rI ([]:P U)),(3840,1,Y rI ([v5]:P U))]):=by
 intro f
 induction f with
 | zero=>intro b0 b2 b4 b8 b13 b14 h; simp at h
 | succ f ih=>
  intro b0 b2 b4 b8 b13 b14;refine Aw ⟨?_,?_,?_,?_,?_,?_,?_,?_,?_,?_,?_,?_,?_,?_,?_,?_,?_,⟨⟩⟩<;>try first | (intro h; cases h; done) | (intro _ hw; simp at hw; done) | (intro h0 hw; obtain rfl:=hz h0 rfl; refine np ?_; simp only[A7,A8,Aa,A3,C,E,F,G,H,J]; exact ih _ _ _ _ _ _)
  ·intro h0 hw;obtain rfl:=hq hw 2 rfl rfl;refine⟨[],[(O,.keep [1,2,3,4,5,11,12,14,31,32,33,49,50,51,52,53,54,55,56,57,58,59,60,61,62,63,64,4] [5] [90000,3200,3584,3840])],X,X,?_⟩;try simp only[hg14,A7,A8,Aa,zA,I,A3,C,E,F,G,H,J]
   exact Qn rec_ h_rec a1 a2 a3 x1 v5 r9 a0 v6 r18 hg14 hg15 hg16 hg17 hr18 _ b0 b4 b8 b13 b14
  ·intro h0 hw;obtain rfl:=hq hw 4 rfl rfl;refine⟨[],[(O,.keep [1,2,3,4,5,11,12,14,31,32,33,49,50,51,52,53,54,55,56,57,58,59,60,61,62,63,64,4] [5] [90000,3200,3456,3584,3840])],X,X,?_⟩;try simp only[A7,A8,Aa,zA,I,A3,C,E,F,G,H,J]
   refine As (es:=Y rI ([r9]:P U)) X (by simp only[St.fresh,zB,zC,Ak]; simp[AV.cells,V1.cells,AC.uses]) ?_;try simp only[A3,C,E,F,G,H,J]
   exact O0 rec_ h_rec a1 a2 a3 x1 v5 r9 a0 v6 r18 hg14 hg15 hg16 hg17 hr18 _ b0 b2 b8 b13 b14
theorem Qr(rec_:X0→(P U)→(P U)→U→(P (P U))→Q (P (P U)))(h_rec:∀(a0:X0) (a1 a2:P U) (a3:U) (a4:P (P U)) zr,rec_ a0 a1 a2 a3 a4=N zr→FCt Z 149 [.d (.ag (X0.row a0)),.d (.sc (.sl (Y rI a1))),.d (.sc (.sl (Y rI a2))),.d (.sc (.int .i64 a3)),.r] 1 (Y (rL rI) a4) (Y (rL rI) zr))(a1 a2:P U)(a3)(x1:U)(v5)(r9)(a0)(v6)(r18)(hg14:(A4 ([]:P U).length a1.length 8)=T)(hg15:(A4 a1.length ([r9]:P U).length 8)=T)(hg16:(A4 ([]:P U).length a2.length 8)=T)(hg17:(A4 a2.length ([v5]:P U).length 8)=T)(hr18:rec_ a0 (a1++([r9]:P U)) (a2++([v5]:P U)) a3 v6=N r18):∀(f:W) (b0 b2:V) (b8 b13 b14:V),An Z B3 (AU a1 a2 a3 x1 v5 r9 a0 r18) f [b0,L,b2,L,T,T,L,T,b8,L,T,T,L,b13,b14,L,L] (A7 a1 a2 a3 x1 v5 r9 a0 (vc (.own 90000)) (vc (.own 3200)) (vc (.own 3200)) (vc (.own 3200)) (vc (.own 3584)) (vc (.own 3584)) (vc (.own 3584)) (vc (.own 90000)) (vc (.own 90000)) b0 L b2 L T T L T b8 L T T L b13 b14 L [(5,[aL (Y X8.row a0.Points),aL (Y X1.row a0.Segments)])] [(90000,1,Y (rL rI) v6),(3456,1,Y rI ([r9]:P U)),(3584,1,Y rI ([]:P U)),(3840,1,Y rI ([v5]:P U))]):=by
 intro f
 induction f with
 | zero=>intro b0 b2 b8 b13 b14 h; simp at h
 | succ f ih=>
  intro b0 b2 b8 b13 b14;refine Aw ⟨?_,?_,?_,?_,?_,?_,?_,?_,?_,?_,?_,?_,?_,?_,?_,?_,?_,⟨⟩⟩<;>try first | (intro h; cases h; done) | (intro _ hw; simp at hw; done) | (intro h0 hw; obtain rfl:=hz h0 rfl; refine np ?_; simp only[A7,A8,Aa,A3,C,E,F,G,H,J]; exact ih _ _ _ _ _)
  ·intro h0 hw;refine⟨[],[(O,.keep [1,2,3,4,5,11,12,14,31,32,33,49,50,51,52,53,54,55,56,57,58,59,60,61,62,63,64,4] [5] [90000,3200,3456,3584,3840])],X,X,?_⟩;try simp only[A7,A8,Aa,zA,I,A3,C,E,F,G,H,J]
   refine As (es:=Y rI ([]:P U)) X (by simp only[St.fresh,zB,zC,Ak]; simp[AV.cells,V1.cells,AC.uses]) ?_;try simp only[A3,C,E,F,G,H,J]
   exact O0 rec_ h_rec a1 a2 a3 x1 v5 r9 a0 v6 r18 hg14 hg15 hg16 hg17 hr18 _ b0 b2 b8 b13 b14
theorem uB(rec_:X0→(P U)→(P U)→U→(P (P U))→Q (P (P U)))(h_rec:∀(a0:X0) (a1 a2:P U) (a3:U) (a4:P (P U)) zr,rec_ a0 a1 a2 a3 a4=N zr→FCt Z 149 [.d (.ag (X0.row a0)),.d (.sc (.sl (Y rI a1))),.d (.sc (.sl (Y rI a2))),.d (.sc (.int .i64 a3)),.r] 1 (Y (rL rI) a4) (Y (rL rI) zr))(a1 a2:P U)(a3)(x1:U)(v5)(r9)(a0)(v6)(r18)(hg14:(A4 ([]:P U).length a1.length 8)=T)(hg15:(A4 a1.length ([r9]:P U).length 8)=T)(hg16:(A4 ([]:P U).length a2.length 8)=T)(hg17:(A4 a2.length ([v5]:P U).length 8)=T)(hr18:rec_ a0 (a1++([r9]:P U)) (a2++([v5]:P U)) a3 v6=N r18):∀(f:W) (b0 b4:V) (b8 b10:V) (b13 b14:V),An Z B3 (AU a1 a2 a3 x1 v5 r9 a0 r18) f [b0,T,T,T,b4,L,L,L,b8,L,b10,L,L,b13,b14,L,L] (A7 a1 a2 a3 x1 v5 r9 a0 (vc (.own 90000)) (vc (.undef)) (vc (.own 3200)) (vc (.own 3200)) (vc (.own 3584)) (vc (.own 3584)) (vc (.own 3584)) (vc (.own 90000)) (vc (.own 90000)) b0 T T T b4 L L L b8 L b10 L L b13 b14 L [(5,[aL (Y X8.row a0.Points),aL (Y X1.row a0.Segments)])] [(90000,1,Y (rL rI) v6),(3200,1,Y rI a1)]):=by
 intro f
 induction f with
 | zero=>intro b0 b4 b8 b10 b13 b14 h; simp at h
 | succ f ih=>
  intro b0 b4 b8 b10 b13 b14;refine Aw ⟨?_,?_,?_,?_,?_,?_,?_,?_,?_,?_,?_,?_,?_,?_,?_,?_,?_,⟨⟩⟩<;>try first | (intro h; cases h; done) | (intro _ hw; simp at hw; done) | (intro h0 hw; obtain rfl:=hz h0 rfl; refine np ?_; simp only[A7,A8,Aa,A3,C,E,F,G,H,J]; exact ih _ _ _ _ _ _)
  ·intro h0 hw;obtain rfl:=hq hw 4 rfl rfl;refine⟨[],[(O,.keep [1,2,3,4,5,11,12,14,31,32,33,49,50,51,52,53,54,55,56,57,58,59,60,61,62,63,64,4] [5] [90000,3200,3456])],X,X,?_⟩;try simp only[A7,A8,Aa,zA,I,A3,C,E,F,G,H,J]
   refine As (es:=Y rI ([r9]:P U)) X (by simp only[St.fresh,zB,zC,Ak]; simp[AV.cells,V1.cells,AC.uses]) ?_;try simp only[A3,C,E,F,G,H,J]
   exact W6 rec_ h_rec a1 a2 a3 x1 v5 r9 a0 v6 r18 hg14 hg15 hg16 hg17 hr18 _ b0 b8 b10 b13 b14
  ·intro h0 hw;refine⟨[],[(O,.keep [1,2,3,4,5,11,12,14,31,32,33,49,50,51,52,53,54,55,56,57,58,59,60,61,62,63,64,4] [5] [90000,3200,3584])],X,X,?_⟩;try simp only[A7,A8,Aa,zA,I,A3,C,E,F,G,H,J]
   refine As (es:=Y rI ([]:P U)) X (by simp only[St.fresh,zB,zC,Ak]; simp[AV.cells,V1.cells,AC.uses]) ?_;try simp only[A3,C,E,F,G,H,J]
   exact W7 rec_ h_rec a1 a2 a3 x1 v5 r9 a0 v6 r18 hg14 hg15 hg16 hg17 hr18 _ b0 b4 b8 b10 b13 b14
  ·intro h0 hw;obtain rfl:=hq hw 10 rfl rfl;refine⟨[],[(O,.keep [1,2,3,4,5,11,12,14,31,32,33,49,50,51,52,53,54,55,56,57,58,59,60,61,62,63,64,4] [5] [90000,3200,3840])],X,X,?_⟩;try simp only[A7,A8,Aa,zA,I,A3,C,E,F,G,H,J]
   refine As (es:=Y rI ([v5]:P U)) X (by simp only[St.fresh,zB,zC,Ak]; simp[AV.cells,V1.cells,AC.uses]) ?_;try simp only[A3,C,E,F,G,H,J]
   exact W8 rec_ h_rec a1 a2 a3 x1 v5 r9 a0 v6 r18 hg14 hg15 hg16 hg17 hr18 _ b0 b4 b8 b13 b14
theorem W9(rec_:X0→(P U)→(P U)→U→(P (P U))→Q (P (P U)))(h_rec:∀(a0:X0) (a1 a2:P U) (a3:U) (a4:P (P U)) zr,rec_ a0 a1 a2 a3 a4=N zr→FCt Z 149 [.d (.ag (X0.row a0)),.d (.sc (.sl (Y rI a1))),.d (.sc (.sl (Y rI a2))),.d (.sc (.int .i64 a3)),.r] 1 (Y (rL rI) a4) (Y (rL rI) zr))(a1 a2:P U)(a3)(x1:U)(v5)(r9)(a0)(v6)(r18)(hg14:(A4 ([]:P U).length a1.length 8)=T)(hg15:(A4 a1.length ([r9]:P U).length 8)=T)(hg16:(A4 ([]:P U).length a2.length 8)=T)(hg17:(A4 a2.length ([v5]:P U).length 8)=T)(hr18:rec_ a0 (a1++([r9]:P U)) (a2++([v5]:P U)) a3 v6=N r18):∀(f:W) (b0 b2:V) (b8 b10:V) (b13 b14:V),An Z B3 (AU a1 a2 a3 x1 v5 r9 a0 r18) f [b0,T,b2,L,T,T,L,L,b8,L,b10,L,L,b13,b14,L,L] (A7 a1 a2 a3 x1 v5 r9 a0 (vc (.own 90000)) (vc (.own 3200)) (vc (.own 3200)) (vc (.own 3200)) (vc (.own 3584)) (vc (.own 3584)) (vc (.own 3584)) (vc (.own 90000)) (vc (.own 90000)) b0 T b2 L T T L L b8 L b10 L L b13 b14 L [(5,[aL (Y X8.row a0.Points),aL (Y X1.row a0.Segments)])] [(90000,1,Y (rL rI) v6),(3200,1,Y rI ([]:P U)),(3456,1,Y rI ([r9]:P U))]):=by
 intro f
 induction f with
 | zero=>intro b0 b2 b8 b10 b13 b14 h; simp at h
 | succ f ih=>
  intro b0 b2 b8 b10 b13 b14;refine Aw ⟨?_,?_,?_,?_,?_,?_,?_,?_,?_,?_,?_,?_,?_,?_,?_,?_,?_,⟨⟩⟩<;>try first | (intro h; cases h; done) | (intro _ hw; simp at hw; done) | (intro h0 hw; obtain rfl:=hz h0 rfl; refine np ?_; simp only[A7,A8,Aa,A3,C,E,F,G,H,J]; exact ih _ _ _ _ _ _)
  ·intro h0 hw;obtain rfl:=hq hw 2 rfl rfl;refine⟨[],[(O,.keep [1,2,3,4,5,11,12,14,31,32,33,49,50,51,52,53,54,55,56,57,58,59,60,61,62,63,64,4] [5] [90000,3200,3456])],X,X,?_⟩;try simp only[hg14,A7,A8,Aa,zA,I,A3,C,E,F,G,H,J]
   exact W6 rec_ h_rec a1 a2 a3 x1 v5 r9 a0 v6 r18 hg14 hg15 hg16 hg17 hr18 _ b0 b8 b10 b13 b14
  ·intro h0 hw;refine⟨[],[(O,.keep [1,2,3,4,5,11,12,14,31,32,33,49,50,51,52,53,54,55,56,57,58,59,60,61,62,63,64,4] [5] [90000,3200,3456,3584])],X,X,?_⟩;try simp only[A7,A8,Aa,zA,I,A3,C,E,F,G,H,J]
   refine As (es:=Y rI ([]:P U)) X (by simp only[St.fresh,zB,zC,Ak]; simp[AV.cells,V1.cells,AC.uses]) ?_;try simp only[A3,C,E,F,G,H,J]
   exact Qo rec_ h_rec a1 a2 a3 x1 v5 r9 a0 v6 r18 hg14 hg15 hg16 hg17 hr18 _ b0 b2 b8 b10 b13 b14
  ·intro h0 hw;obtain rfl:=hq hw 10 rfl rfl;refine⟨[],[(O,.keep [1,2,3,4,5,11,12,14,31,32,33,49,50,51,52,53,54,55,56,57,58,59,60,61,62,63,64,4] [5] [90000,3200,3456,3840])],X,X,?_⟩;try simp only[A7,A8,Aa,zA,I,A3,C,E,F,G,H,J]
   refine As (es:=Y rI ([v5]:P U)) X (by simp only[St.fresh,zB,zC,Ak]; simp[AV.cells,V1.cells,AC.uses]) ?_;try simp only[A3,C,E,F,G,H,J]
   exact Qp rec_ h_rec a1 a2 a3 x1 v5 r9 a0 v6 r18 hg14 hg15 hg16 hg17 hr18 _ b0 b2 b8 b13 b14
theorem Wa(rec_:X0→(P U)→(P U)→U→(P (P U))→Q (P (P U)))(h_rec:∀(a0:X0) (a1 a2:P U) (a3:U) (a4:P (P U)) zr,rec_ a0 a1 a2 a3 a4=N zr→FCt Z 149 [.d (.ag (X0.row a0)),.d (.sc (.sl (Y rI a1))),.d (.sc (.sl (Y rI a2))),.d (.sc (.int .i64 a3)),.r] 1 (Y (rL rI) a4) (Y (rL rI) zr))(a1 a2:P U)(a3)(x1:U)(v5)(r9)(a0)(v6)(r18)(hg14:(A4 ([]:P U).length a1.length 8)=T)(hg15:(A4 a1.length ([r9]:P U).length 8)=T)(hg16:(A4 ([]:P U).length a2.length 8)=T)(hg17:(A4 a2.length ([v5]:P U).length 8)=T)(hr18:rec_ a0 (a1++([r9]:P U)) (a2++([v5]:P U)) a3 v6=N r18):∀(f:W) (b0 b2:V) (b4 b8:V) (b10 b13 b14:V),An Z B3 (AU a1 a2 a3 x1 v5 r9 a0 r18) f [b0,T,b2,L,b4,L,L,T,b8,L,b10,L,L,b13,b14,L,L] (A7 a1 a2 a3 x1 v5 r9 a0 (vc (.own 90000)) (vc (.own 3200)) (vc (.own 3200)) (vc (.own 3200)) (vc (.own 3584)) (vc (.own 3584)) (vc (.own 3584)) (vc (.own 90000)) (vc (.own 90000)) b0 T b2 L b4 L L T b8 L b10 L L b13 b14 L [(5,[aL (Y X8.row a0.Points),aL (Y X1.row a0.Segments)])] [(90000,1,Y (rL rI) v6),(3200,1,Y rI ([]:P U)),(3584,1,Y rI ([]:P U))]):=by
 intro f
 induction f with
 | zero=>intro b0 b2 b4 b8 b10 b13 b14 h; simp at h
 | succ f ih=>
  intro b0 b2 b4 b8 b10 b13 b14;refine Aw ⟨?_,?_,?_,?_,?_,?_,?_,?_,?_,?_,?_,?_,?_,?_,?_,?_,?_,⟨⟩⟩<;>try first | (intro h; cases h; done) | (intro _ hw; simp at hw; done) | (intro h0 hw; obtain rfl:=hz h0 rfl; refine np ?_; simp only[A7,A8,Aa,A3,C,E,F,G,H,J]; exact ih _ _ _ _ _ _ _)
  ·intro h0 hw;obtain rfl:=hq hw 2 rfl rfl;refine⟨[],[(O,.keep [1,2,3,4,5,11,12,14,31,32,33,49,50,51,52,53,54,55,56,57,58,59,60,61,62,63,64,4] [5] [90000,3200,3584])],X,X,?_⟩;try simp only[hg14,A7,A8,Aa,zA,I,A3,C,E,F,G,H,J]
   exact W7 rec_ h_rec a1 a2 a3 x1 v5 r9 a0 v6 r18 hg14 hg15 hg16 hg17 hr18 _ b0 b4 b8 b10 b13 b14
  ·intro h0 hw;obtain rfl:=hq hw 4 rfl rfl;refine⟨[],[(O,.keep [1,2,3,4,5,11,12,14,31,32,33,49,50,51,52,53,54,55,56,57,58,59,60,61,62,63,64,4] [5] [90000,3200,3456,3584])],X,X,?_⟩;try simp only[A7,A8,Aa,zA,I,A3,C,E,F,G,H,J]
   refine As (es:=Y rI ([r9]:P U)) X (by simp only[St.fresh,zB,zC,Ak]; simp[AV.cells,V1.cells,AC.uses]) ?_;try simp only[A3,C,E,F,G,H,J]
   exact Qo rec_ h_rec a1 a2 a3 x1 v5 r9 a0 v6 r18 hg14 hg15 hg16 hg17 hr18 _ b0 b2 b8 b10 b13 b14
  ·intro h0 hw;obtain rfl:=hq hw 10 rfl rfl;refine⟨[],[(O,.keep [1,2,3,4,5,11,12,14,31,32,33,49,50,51,52,53,54,55,56,57,58,59,60,61,62,63,64,4] [5] [90000,3200,3584,3840])],X,X,?_⟩;try simp only[A7,A8,Aa,zA,I,A3,C,E,F,G,H,J]
   refine As (es:=Y rI ([v5]:P U)) X (by simp only[St.fresh,zB,zC,Ak]; simp[AV.cells,V1.cells,AC.uses]) ?_;try simp only[A3,C,E,F,G,H,J]
   exact Qq rec_ h_rec a1 a2 a3 x1 v5 r9 a0 v6 r18 hg14 hg15 hg16 hg17 hr18 _ b0 b2 b4 b8 b13 b14
theorem Wb(rec_:X0→(P U)→(P U)→U→(P (P U))→Q (P (P U)))(h_rec:∀(a0:X0) (a1 a2:P U) (a3:U) (a4:P (P U)) zr,rec_ a0 a1 a2 a3 a4=N zr→FCt Z 149 [.d (.ag (X0.row a0)),.d (.sc (.sl (Y rI a1))),.d (.sc (.sl (Y rI a2))),.d (.sc (.int .i64 a3)),.r] 1 (Y (rL rI) a4) (Y (rL rI) zr))(a1 a2:P U)(a3)(x1:U)(v5)(r9)(a0)(v6)(r18)(hg14:(A4 ([]:P U).length a1.length 8)=T)(hg15:(A4 a1.length ([r9]:P U).length 8)=T)(hg16:(A4 ([]:P U).length a2.length 8)=T)(hg17:(A4 a2.length ([v5]:P U).length 8)=T)(hr18:rec_ a0 (a1++([r9]:P U)) (a2++([v5]:P U)) a3 v6=N r18):∀(f:W) (b0 b2:V) (b4 b8:V) (b13 b14:V),An Z B3 (AU a1 a2 a3 x1 v5 r9 a0 r18) f [b0,T,b2,L,b4,L,L,L,b8,L,T,T,L,b13,b14,L,L] (A7 a1 a2 a3 x1 v5 r9 a0 (vc (.own 90000)) (vc (.own 3200)) (vc (.own 3200)) (vc (.own 3200)) (vc (.own 3584)) (vc (.own 3584)) (vc (.own 3584)) (vc (.own 90000)) (vc (.own 90000)) b0 T b2 L b4 L L L b8 L T T L b13 b14 L [(5,[aL (Y X8.row a0.Points),aL (Y X1.row a0.Segments)])] [(90000,1,Y (rL rI) v6),(3200,1,Y rI ([]:P U)),(3840,1,Y rI ([v5]:P U))]):=by
 intro f
 induction f with
 | zero=>intro b0 b2 b4 b8 b13 b14 h; simp at h
 | succ f ih=>
  intro b0 b2 b4 b8 b13 b14;refine Aw ⟨?_,?_,?_,?_,?_,?_,?_,?_,?_,?_,?_,?_,?_,?_,?_,?_,?_,⟨⟩⟩<;>try first | (intro h; cases h; done) | (intro _ hw; simp at hw; done) | (intro h0 hw; obtain rfl:=hz h0 rfl; refine np ?_; simp only[A7,A8,Aa,A3,C,E,F,G,H,J]; exact ih _ _ _ _ _ _)
  ·intro h0 hw;obtain rfl:=hq hw 2 rfl rfl;refine⟨[],[(O,.keep [1,2,3,4,5,11,12,14,31,32,33,49,50,51,52,53,54,55,56,57,58,59,60,61,62,63,64,4] [5] [90000,3200,3840])],X,X,?_⟩;try simp only[hg14,A7,A8,Aa,zA,I,A3,C,E,F,G,H,J]
   exact W8 rec_ h_rec a1 a2 a3 x1 v5 r9 a0 v6 r18 hg14 hg15 hg16 hg17 hr18 _ b0 b4 b8 b13 b14
  ·intro h0 hw;obtain rfl:=hq hw 4 rfl rfl;refine⟨[],[(O,.keep [1,2,3,4,5,11,12,14,31,32,33,49,50,51,52,53,54,55,56,57,58,59,60,61,62,63,64,4] [5] [90000,3200,3456,3840])],X,X,?_⟩;try simp only[A7,A8,Aa,zA,I,A3,C,E,F,G,H,J]
   refine As (es:=Y rI ([r9]:P U)) X (by simp only[St.fresh,zB,zC,Ak]; simp[AV.cells,V1.cells,AC.uses]) ?_;try simp only[A3,C,E,F,G,H,J]
   exact Qp rec_ h_rec a1 a2 a3 x1 v5 r9 a0 v6 r18 hg14 hg15 hg16 hg17 hr18 _ b0 b2 b8 b13 b14
  ·intro h0 hw;refine⟨[],[(O,.keep [1,2,3,4,5,11,12,14,31,32,33,49,50,51,52,53,54,55,56,57,58,59,60,61,62,63,64,4] [5] [90000,3200,3584,3840])],X,X,?_⟩;try simp only[A7,A8,Aa,zA,I,A3,C,E,F,G,H,J]
   refine As (es:=Y rI ([]:P U)) X (by simp only[St.fresh,zB,zC,Ak]; simp[AV.cells,V1.cells,AC.uses]) ?_;try simp only[A3,C,E,F,G,H,J]
   exact Qq rec_ h_rec a1 a2 a3 x1 v5 r9 a0 v6 r18 hg14 hg15 hg16 hg17 hr18 _ b0 b2 b4 b8 b13 b14
theorem Wc(rec_:X0→(P U)→(P U)→U→(P (P U))→Q (P (P U)))(h_rec:∀(a0:X0) (a1 a2:P U) (a3:U) (a4:P (P U)) zr,rec_ a0 a1 a2 a3 a4=N zr→FCt Z 149 [.d (.ag (X0.row a0)),.d (.sc (.sl (Y rI a1))),.d (.sc (.sl (Y rI a2))),.d (.sc (.int .i64 a3)),.r] 1 (Y (rL rI) a4) (Y (rL rI) zr))(a1 a2:P U)(a3)(x1:U)(v5)(r9)(a0)(v6)(r18)(hg14:(A4 ([]:P U).length a1.length 8)=T)(hg15:(A4 a1.length ([r9]:P U).length 8)=T)(hg16:(A4 ([]:P U).length a2.length 8)=T)(hg17:(A4 a2.length ([v5]:P U).length 8)=T)(hr18:rec_ a0 (a1++([r9]:P U)) (a2++([v5]:P U)) a3 v6=N r18):∀(f:W) (b0 b2:V) (b8 b10:V) (b13 b14:V),An Z B3 (AU a1 a2 a3 x1 v5 r9 a0 r18) f [b0,L,b2,L,T,T,L,T,b8,L,b10,L,L,b13,b14,L,L] (A7 a1 a2 a3 x1 v5 r9 a0 (vc (.own 90000)) (vc (.own 3200)) (vc (.own 3200)) (vc (.own 3200)) (vc (.own 3584)) (vc (.own 3584)) (vc (.own 3584)) (vc (.own 90000)) (vc (.own 90000)) b0 L b2 L T T L T b8 L b10 L L b13 b14 L [(5,[aL (Y X8.row a0.Points),aL (Y X1.row a0.Segments)])] [(90000,1,Y (rL rI) v6),(3456,1,Y rI ([r9]:P U)),(3584,1,Y rI ([]:P U))]):=by
 intro f
 induction f with
 | zero=>intro b0 b2 b8 b10 b13 b14 h; simp at h
 | succ f ih=>
  intro b0 b2 b8 b10 b13 b14;refine Aw ⟨?_,?_,?_,?_,?_,?_,?_,?_,?_,?_,?_,?_,?_,?_,?_,?_,?_,⟨⟩⟩<;>try first | (intro h; cases h; done) | (intro _ hw; simp at hw; done) | (intro h0 hw; obtain rfl:=hz h0 rfl; refine np ?_; simp only[A7,A8,Aa,A3,C,E,F,G,H,J]; exact ih _ _ _ _ _ _)
  ·intro h0 hw;refine⟨[],[(O,.keep [1,2,3,4,5,11,12,14,31,32,33,49,50,51,52,53,54,55,56,57,58,59,60,61,62,63,64,4] [5] [90000,3200,3456,3584])],X,X,?_⟩;try simp only[A7,A8,Aa,zA,I,A3,C,E,F,G,H,J]
   refine As (es:=Y rI ([]:P U)) X (by simp only[St.fresh,zB,zC,Ak]; simp[AV.cells,V1.cells,AC.uses]) ?_;try simp only[A3,C,E,F,G,H,J]
   exact Qo rec_ h_rec a1 a2 a3 x1 v5 r9 a0 v6 r18 hg14 hg15 hg16 hg17 hr18 _ b0 b2 b8 b10 b13 b14
  ·intro h0 hw;obtain rfl:=hq hw 10 rfl rfl;refine⟨[],[(O,.keep [1,2,3,4,5,11,12,14,31,32,33,49,50,51,52,53,54,55,56,57,58,59,60,61,62,63,64,4] [5] [90000,3456,3584,3840])],X,X,?_⟩;try simp only[A7,A8,Aa,zA,I,A3,C,E,F,G,H,J]
   refine As (es:=Y rI ([v5]:P U)) X (by simp only[St.fresh,zB,zC,Ak]; simp[AV.cells,V1.cells,AC.uses]) ?_;try simp only[A3,C,E,F,G,H,J]
   exact Qr rec_ h_rec a1 a2 a3 x1 v5 r9 a0 v6 r18 hg14 hg15 hg16 hg17 hr18 _ b0 b2 b8 b13 b14
theorem Wd(rec_:X0→(P U)→(P U)→U→(P (P U))→Q (P (P U)))(h_rec:∀(a0:X0) (a1 a2:P U) (a3:U) (a4:P (P U)) zr,rec_ a0 a1 a2 a3 a4=N zr→FCt Z 149 [.d (.ag (X0.row a0)),.d (.sc (.sl (Y rI a1))),.d (.sc (.sl (Y rI a2))),.d (.sc (.int .i64 a3)),.r] 1 (Y (rL rI) a4) (Y (rL rI) zr))(a1 a2:P U)(a3)(x1:U)(v5)(r9)(a0)(v6)(r18)(hg14:(A4 ([]:P U).length a1.length 8)=T)(hg15:(A4 a1.length ([r9]:P U).length 8)=T)(hg16:(A4 ([]:P U).length a2.length 8)=T)(hg17:(A4 a2.length ([v5]:P U).length 8)=T)(hr18:rec_ a0 (a1++([r9]:P U)) (a2++([v5]:P U)) a3 v6=N r18):∀(f:W) (b0 b2:V) (b8 b13 b14:V),An Z B3 (AU a1 a2 a3 x1 v5 r9 a0 r18) f [b0,L,b2,L,T,T,L,L,b8,L,T,T,L,b13,b14,L,L] (A7 a1 a2 a3 x1 v5 r9 a0 (vc (.own 90000)) (vc (.own 3200)) (vc (.own 3200)) (vc (.own 3200)) (vc (.own 3584)) (vc (.own 3584)) (vc (.own 3584)) (vc (.own 90000)) (vc (.own 90000)) b0 L b2 L T T L L b8 L T T L b13 b14 L [(5,[aL (Y X8.row a0.Points),aL (Y X1.row a0.Segments)])] [(90000,1,Y (rL rI) v6),(3456,1,Y rI ([r9]:P U)),(3840,1,Y rI ([v5]:P U))]):=by
 intro f
 induction f with
 | zero=>intro b0 b2 b8 b13 b14 h; simp at h
 | succ f ih=>
  intro b0 b2 b8 b13 b14;refine Aw ⟨?_,?_,?_,?_,?_,?_,?_,?_,?_,?_,?_,?_,?_,?_,?_,?_,?_,⟨⟩⟩<;>try first | (intro h; cases h; done) | (intro _ hw; simp at hw; done) | (intro h0 hw; obtain rfl:=hz h0 rfl; refine np ?_; simp only[A7,A8,Aa,A3,C,E,F,G,H,J]; exact ih _ _ _ _ _)
  ·intro h0 hw;refine⟨[],[(O,.keep [1,2,3,4,5,11,12,14,31,32,33,49,50,51,52,53,54,55,56,57,58,59,60,61,62,63,64,4] [5] [90000,3200,3456,3840])],X,X,?_⟩;try simp only[A7,A8,Aa,zA,I,A3,C,E,F,G,H,J]
   refine As (es:=Y rI ([]:P U)) X (by simp only[St.fresh,zB,zC,Ak]; simp[AV.cells,V1.cells,AC.uses]) ?_;try simp only[A3,C,E,F,G,H,J]
   exact Qp rec_ h_rec a1 a2 a3 x1 v5 r9 a0 v6 r18 hg14 hg15 hg16 hg17 hr18 _ b0 b2 b8 b13 b14
  ·intro h0 hw;refine⟨[],[(O,.keep [1,2,3,4,5,11,12,14,31,32,33,49,50,51,52,53,54,55,56,57,58,59,60,61,62,63,64,4] [5] [90000,3456,3584,3840])],X,X,?_⟩;try simp only[A7,A8,Aa,zA,I,A3,C,E,F,G,H,J]
   refine As (es:=Y rI ([]:P U)) X (by simp only[St.fresh,zB,zC,Ak]; simp[AV.cells,V1.cells,AC.uses]) ?_;try simp only[A3,C,E,F,G,H,J]
   exact Qr rec_ h_rec a1 a2 a3 x1 v5 r9 a0 v6 r18 hg14 hg15 hg16 hg17 hr18 _ b0 b2 b8 b13 b14
theorem We(rec_:X0→(P U)→(P U)→U→(P (P U))→Q (P (P U)))(h_rec:∀(a0:X0) (a1 a2:P U) (a3:U) (a4:P (P U)) zr,rec_ a0 a1 a2 a3 a4=N zr→FCt Z 149 [.d (.ag (X0.row a0)),.d (.sc (.sl (Y rI a1))),.d (.sc (.sl (Y rI a2))),.d (.sc (.int .i64 a3)),.r] 1 (Y (rL rI) a4) (Y (rL rI) zr))(a1 a2:P U)(a3)(x1:U)(v5)(r9)(a0)(v6)(r18)(hg14:(A4 ([]:P U).length a1.length 8)=T)(hg15:(A4 a1.length ([r9]:P U).length 8)=T)(hg16:(A4 ([]:P U).length a2.length 8)=T)(hg17:(A4 a2.length ([v5]:P U).length 8)=T)(hr18:rec_ a0 (a1++([r9]:P U)) (a2++([v5]:P U)) a3 v6=N r18):∀(f:W) (b0 b2:V) (b4 b8:V) (b13 b14:V),An Z B3 (AU a1 a2 a3 x1 v5 r9 a0 r18) f [b0,L,b2,L,b4,L,L,T,b8,L,T,T,L,b13,b14,L,L] (A7 a1 a2 a3 x1 v5 r9 a0 (vc (.own 90000)) (vc (.own 3200)) (vc (.own 3200)) (vc (.own 3200)) (vc (.own 3584)) (vc (.own 3584)) (vc (.own 3584)) (vc (.own 90000)) (vc (.own 90000)) b0 L b2 L b4 L L T b8 L T T L b13 b14 L [(5,[aL (Y X8.row a0.Points),aL (Y X1.row a0.Segments)])] [(90000,1,Y (rL rI) v6),(3584,1,Y rI ([]:P U)),(3840,1,Y rI ([v5]:P U))]):=by
 intro f
 induction f with
 | zero=>intro b0 b2 b4 b8 b13 b14 h; simp at h
 | succ f ih=>
  intro b0 b2 b4 b8 b13 b14;refine Aw ⟨?_,?_,?_,?_,?_,?_,?_,?_,?_,?_,?_,?_,?_,?_,?_,?_,?_,⟨⟩⟩<;>try first | (intro h; cases h; done) | (intro _ hw; simp at hw; done) | (intro h0 hw; obtain rfl:=hz h0 rfl; refine np ?_; simp only[A7,A8,Aa,A3,C,E,F,G,H,J]; exact ih _ _ _ _ _ _)
  ·intro h0 hw;refine⟨[],[(O,.keep [1,2,3,4,5,11,12,14,31,32,33,49,50,51,52,53,54,55,56,57,58,59,60,61,62,63,64,4] [5] [90000,3200,3584,3840])],X,X,?_⟩;try simp only[A7,A8,Aa,zA,I,A3,C,E,F,G,H,J]
   refine As (es:=Y rI ([]:P U)) X (by simp only[St.fresh,zB,zC,Ak]; simp[AV.cells,V1.cells,AC.uses]) ?_;try simp only[A3,C,E,F,G,H,J]
   exact Qq rec_ h_rec a1 a2 a3 x1 v5 r9 a0 v6 r18 hg14 hg15 hg16 hg17 hr18 _ b0 b2 b4 b8 b13 b14
  ·intro h0 hw;obtain rfl:=hq hw 4 rfl rfl;refine⟨[],[(O,.keep [1,2,3,4,5,11,12,14,31,32,33,49,50,51,52,53,54,55,56,57,58,59,60,61,62,63,64,4] [5] [90000,3456,3584,3840])],X,X,?_⟩;try simp only[A7,A8,Aa,zA,I,A3,C,E,F,G,H,J]
   refine As (es:=Y rI ([r9]:P U)) X (by simp only[St.fresh,zB,zC,Ak]; simp[AV.cells,V1.cells,AC.uses]) ?_;try simp only[A3,C,E,F,G,H,J]
   exact Qr rec_ h_rec a1 a2 a3 x1 v5 r9 a0 v6 r18 hg14 hg15 hg16 hg17 hr18 _ b0 b2 b8 b13 b14
theorem uD(rec_:X0→(P U)→(P U)→U→(P (P U))→Q (P (P U)))(h_rec:∀(a0:X0) (a1 a2:P U) (a3:U) (a4:P (P U)) zr,rec_ a0 a1 a2 a3 a4=N zr→FCt Z 149 [.d (.ag (X0.row a0)),.d (.sc (.sl (Y rI a1))),.d (.sc (.sl (Y rI a2))),.d (.sc (.int .i64 a3)),.r] 1 (Y (rL rI) a4) (Y (rL rI) zr))(a1 a2:P U)(a3)(x1:U)(v5)(r9)(a0)(v6)(r18)(hg14:(A4 ([]:P U).length a1.length 8)=T)(hg15:(A4 a1.length ([r9]:P U).length 8)=T)(hg16:(A4 ([]:P U).length a2.length 8)=T)(hg17:(A4 a2.length ([v5]:P U).length 8)=T)(hr18:rec_ a0 (a1++([r9]:P U)) (a2++([v5]:P U)) a3 v6=N r18):∀(f:W) (b0 b2:V) (b4 b8:V) (b10 b13 b14:V),An Z B3 (AU a1 a2 a3 x1 v5 r9 a0 r18) f [b0,T,b2,L,b4,L,L,L,b8,L,b10,L,L,b13,b14,L,L] (A7 a1 a2 a3 x1 v5 r9 a0 (vc (.own 90000)) (vc (.own 3200)) (vc (.own 3200)) (vc (.own 3200)) (vc (.own 3584)) (vc (.own 3584)) (vc (.own 3584)) (vc (.own 90000)) (vc (.own 90000)) b0 T b2 L b4 L L L b8 L b10 L L b13 b14 L [(5,[aL (Y X8.row a0.Points),aL (Y X1.row a0.Segments)])] [(90000,1,Y (rL rI) v6),(3200,1,Y rI ([]:P U))]):=by
 intro f
 induction f with
 | zero=>intro b0 b2 b4 b8 b10 b13 b14 h; simp at h
 | succ f ih=>
  intro b0 b2 b4 b8 b10 b13 b14;refine Aw ⟨?_,?_,?_,?_,?_,?_,?_,?_,?_,?_,?_,?_,?_,?_,?_,?_,?_,⟨⟩⟩<;>try first | (intro h; cases h; done) | (intro _ hw; simp at hw; done) | (intro h0 hw; obtain rfl:=hz h0 rfl; refine np ?_; simp only[A7,A8,Aa,A3,C,E,F,G,H,J]; exact ih _ _ _ _ _ _ _)
  ·intro h0 hw;obtain rfl:=hq hw 2 rfl rfl;refine⟨[],[(O,.keep [1,2,3,4,5,11,12,14,31,32,33,49,50,51,52,53,54,55,56,57,58,59,60,61,62,63,64,4] [5] [90000,3200])],X,X,?_⟩;try simp only[hg14,A7,A8,Aa,zA,I,A3,C,E,F,G,H,J]
   exact uB rec_ h_rec a1 a2 a3 x1 v5 r9 a0 v6 r18 hg14 hg15 hg16 hg17 hr18 _ b0 b4 b8 b10 b13 b14
  ·intro h0 hw;obtain rfl:=hq hw 4 rfl rfl;refine⟨[],[(O,.keep [1,2,3,4,5,11,12,14,31,32,33,49,50,51,52,53,54,55,56,57,58,59,60,61,62,63,64,4] [5] [90000,3200,3456])],X,X,?_⟩;try simp only[A7,A8,Aa,zA,I,A3,C,E,F,G,H,J]
   refine As (es:=Y rI ([r9]:P U)) X (by simp only[St.fresh,zB,zC,Ak]; simp[AV.cells,V1.cells,AC.uses]) ?_;try simp only[A3,C,E,F,G,H,J]
   exact W9 rec_ h_rec a1 a2 a3 x1 v5 r9 a0 v6 r18 hg14 hg15 hg16 hg17 hr18 _ b0 b2 b8 b10 b13 b14
  ·intro h0 hw;refine⟨[],[(O,.keep [1,2,3,4,5,11,12,14,31,32,33,49,50,51,52,53,54,55,56,57,58,59,60,61,62,63,64,4] [5] [90000,3200,3584])],X,X,?_⟩;try simp only[A7,A8,Aa,zA,I,A3,C,E,F,G,H,J]
   refine As (es:=Y rI ([]:P U)) X (by simp only[St.fresh,zB,zC,Ak]; simp[AV.cells,V1.cells,AC.uses]) ?_;try simp only[A3,C,E,F,G,H,J]
   exact Wa rec_ h_rec a1 a2 a3 x1 v5 r9 a0 v6 r18 hg14 hg15 hg16 hg17 hr18 _ b0 b2 b4 b8 b10 b13 b14
  ·intro h0 hw;obtain rfl:=hq hw 10 rfl rfl;refine⟨[],[(O,.keep [1,2,3,4,5,11,12,14,31,32,33,49,50,51,52,53,54,55,56,57,58,59,60,61,62,63,64,4] [5] [90000,3200,3840])],X,X,?_⟩;try simp only[A7,A8,Aa,zA,I,A3,C,E,F,G,H,J]
   refine As (es:=Y rI ([v5]:P U)) X (by simp only[St.fresh,zB,zC,Ak]; simp[AV.cells,V1.cells,AC.uses]) ?_;try simp only[A3,C,E,F,G,H,J]
   exact Wb rec_ h_rec a1 a2 a3 x1 v5 r9 a0 v6 r18 hg14 hg15 hg16 hg17 hr18 _ b0 b2 b4 b8 b13 b14
theorem uE(rec_:X0→(P U)→(P U)→U→(P (P U))→Q (P (P U)))(h_rec:∀(a0:X0) (a1 a2:P U) (a3:U) (a4:P (P U)) zr,rec_ a0 a1 a2 a3 a4=N zr→FCt Z 149 [.d (.ag (X0.row a0)),.d (.sc (.sl (Y rI a1))),.d (.sc (.sl (Y rI a2))),.d (.sc (.int .i64 a3)),.r] 1 (Y (rL rI) a4) (Y (rL rI) zr))(a1 a2:P U)(a3)(x1:U)(v5)(r9)(a0)(v6)(r18)(hg14:(A4 ([]:P U).length a1.length 8)=T)(hg15:(A4 a1.length ([r9]:P U).length 8)=T)(hg16:(A4 ([]:P U).length a2.length 8)=T)(hg17:(A4 a2.length ([v5]:P U).length 8)=T)(hr18:rec_ a0 (a1++([r9]:P U)) (a2++([v5]:P U)) a3 v6=N r18):∀(f:W) (b0 b2:V) (b8 b10:V) (b13 b14:V),An Z B3 (AU a1 a2 a3 x1 v5 r9 a0 r18) f [b0,L,b2,L,T,T,L,L,b8,L,b10,L,L,b13,b14,L,L] (A7 a1 a2 a3 x1 v5 r9 a0 (vc (.own 90000)) (vc (.own 3200)) (vc (.own 3200)) (vc (.own 3200)) (vc (.own 3584)) (vc (.own 3584)) (vc (.own 3584)) (vc (.own 90000)) (vc (.own 90000)) b0 L b2 L T T L L b8 L b10 L L b13 b14 L [(5,[aL (Y X8.row a0.Points),aL (Y X1.row a0.Segments)])] [(90000,1,Y (rL rI) v6),(3456,1,Y rI ([r9]:P U))]):=by
 intro f
 induction f with
 | zero=>intro b0 b2 b8 b10 b13 b14 h; simp at h
 | succ f ih=>
  intro b0 b2 b8 b10 b13 b14;refine Aw ⟨?_,?_,?_,?_,?_,?_,?_,?_,?_,?_,?_,?_,?_,?_,?_,?_,?_,⟨⟩⟩<;>try first | (intro h; cases h; done) | (intro _ hw; simp at hw; done) | (intro h0 hw; obtain rfl:=hz h0 rfl; refine np ?_; simp only[A7,A8,Aa,A3,C,E,F,G,H,J]; exact ih _ _ _ _ _ _)
  ·intro h0 hw;refine⟨[],[(O,.keep [1,2,3,4,5,11,12,14,31,32,33,49,50,51,52,53,54,55,56,57,58,59,60,61,62,63,64,4] [5] [90000,3200,3456])],X,X,?_⟩;try simp only[A7,A8,Aa,zA,I,A3,C,E,F,G,H,J]
   refine As (es:=Y rI ([]:P U)) X (by simp only[St.fresh,zB,zC,Ak]; simp[AV.cells,V1.cells,AC.uses]) ?_;try simp only[A3,C,E,F,G,H,J]
   exact W9 rec_ h_rec a1 a2 a3 x1 v5 r9 a0 v6 r18 hg14 hg15 hg16 hg17 hr18 _ b0 b2 b8 b10 b13 b14
  ·intro h0 hw;refine⟨[],[(O,.keep [1,2,3,4,5,11,12,14,31,32,33,49,50,51,52,53,54,55,56,57,58,59,60,61,62,63,64,4] [5] [90000,3456,3584])],X,X,?_⟩;try simp only[A7,A8,Aa,zA,I,A3,C,E,F,G,H,J]
   refine As (es:=Y rI ([]:P U)) X (by simp only[St.fresh,zB,zC,Ak]; simp[AV.cells,V1.cells,AC.uses]) ?_;try simp only[A3,C,E,F,G,H,J]
   exact Wc rec_ h_rec a1 a2 a3 x1 v5 r9 a0 v6 r18 hg14 hg15 hg16 hg17 hr18 _ b0 b2 b8 b10 b13 b14
  ·intro h0 hw;obtain rfl:=hq hw 10 rfl rfl;refine⟨[],[(O,.keep [1,2,3,4,5,11,12,14,31,32,33,49,50,51,52,53,54,55,56,57,58,59,60,61,62,63,64,4] [5] [90000,3456,3840])],X,X,?_⟩;try simp only[A7,A8,Aa,zA,I,A3,C,E,F,G,H,J]
   refine As (es:=Y rI ([v5]:P U)) X (by simp only[St.fresh,zB,zC,Ak]; simp[AV.cells,V1.cells,AC.uses]) ?_;try simp only[A3,C,E,F,G,H,J]
   exact Wd rec_ h_rec a1 a2 a3 x1 v5 r9 a0 v6 r18 hg14 hg15 hg16 hg17 hr18 _ b0 b2 b8 b13 b14
theorem uF(rec_:X0→(P U)→(P U)→U→(P (P U))→Q (P (P U)))(h_rec:∀(a0:X0) (a1 a2:P U) (a3:U) (a4:P (P U)) zr,rec_ a0 a1 a2 a3 a4=N zr→FCt Z 149 [.d (.ag (X0.row a0)),.d (.sc (.sl (Y rI a1))),.d (.sc (.sl (Y rI a2))),.d (.sc (.int .i64 a3)),.r] 1 (Y (rL rI) a4) (Y (rL rI) zr))(a1 a2:P U)(a3)(x1:U)(v5)(r9)(a0)(v6)(r18)(hg14:(A4 ([]:P U).length a1.length 8)=T)(hg15:(A4 a1.length ([r9]:P U).length 8)=T)(hg16:(A4 ([]:P U).length a2.length 8)=T)(hg17:(A4 a2.length ([v5]:P U).length 8)=T)(hr18:rec_ a0 (a1++([r9]:P U)) (a2++([v5]:P U)) a3 v6=N r18):∀(f:W) (b0 b2:V) (b4 b8:V) (b10 b13 b14:V),An Z B3 (AU a1 a2 a3 x1 v5 r9 a0 r18) f [b0,L,b2,L,b4,L,L,T,b8,L,b10,L,L,b13,b14,L,L] (A7 a1 a2 a3 x1 v5 r9 a0 (vc (.own 90000)) (vc (.own 3200)) (vc (.own 3200)) (vc (.own 3200)) (vc (.own 3584)) (vc (.own 3584)) (vc (.own 3584)) (vc (.own 90000)) (vc (.own 90000)) b0 L b2 L b4 L L T b8 L b10 L L b13 b14 L [(5,[aL (Y X8.row a0.Points),aL (Y X1.row a0.Segments)])] [(90000,1,Y (rL rI) v6),(3584,1,Y rI ([]:P U))]):=by
 intro f
 induction f with
 | zero=>intro b0 b2 b4 b8 b10 b13 b14 h; simp at h
 | succ f ih=>
  intro b0 b2 b4 b8 b10 b13 b14;refine Aw ⟨?_,?_,?_,?_,?_,?_,?_,?_,?_,?_,?_,?_,?_,?_,?_,?_,?_,⟨⟩⟩<;>try first | (intro h; cases h; done) | (intro _ hw; simp at hw; done) | (intro h0 hw; obtain rfl:=hz h0 rfl; refine np ?_; simp only[A7,A8,Aa,A3,C,E,F,G,H,J]; exact ih _ _ _ _ _ _ _)
  ·intro h0 hw;refine⟨[],[(O,.keep [1,2,3,4,5,11,12,14,31,32,33,49,50,51,52,53,54,55,56,57,58,59,60,61,62,63,64,4] [5] [90000,3200,3584])],X,X,?_⟩;try simp only[A7,A8,Aa,zA,I,A3,C,E,F,G,H,J]
   refine As (es:=Y rI ([]:P U)) X (by simp only[St.fresh,zB,zC,Ak]; simp[AV.cells,V1.cells,AC.uses]) ?_;try simp only[A3,C,E,F,G,H,J]
   exact Wa rec_ h_rec a1 a2 a3 x1 v5 r9 a0 v6 r18 hg14 hg15 hg16 hg17 hr18 _ b0 b2 b4 b8 b10 b13 b14
  ·intro h0 hw;obtain rfl:=hq hw 4 rfl rfl;refine⟨[],[(O,.keep [1,2,3,4,5,11,12,14,31,32,33,49,50,51,52,53,54,55,56,57,58,59,60,61,62,63,64,4] [5] [90000,3456,3584])],X,X,?_⟩;try simp only[A7,A8,Aa,zA,I,A3,C,E,F,G,H,J]
   refine As (es:=Y rI ([r9]:P U)) X (by simp only[St.fresh,zB,zC,Ak]; simp[AV.cells,V1.cells,AC.uses]) ?_;try simp only[A3,C,E,F,G,H,J]
   exact Wc rec_ h_rec a1 a2 a3 x1 v5 r9 a0 v6 r18 hg14 hg15 hg16 hg17 hr18 _ b0 b2 b8 b10 b13 b14
  ·intro h0 hw;obtain rfl:=hq hw 10 rfl rfl;refine⟨[],[(O,.keep [1,2,3,4,5,11,12,14,31,32,33,49,50,51,52,53,54,55,56,57,58,59,60,61,62,63,64,4] [5] [90000,3584,3840])],X,X,?_⟩;try simp only[A7,A8,Aa,zA,I,A3,C,E,F,G,H,J]
   refine As (es:=Y rI ([v5]:P U)) X (by simp only[St.fresh,zB,zC,Ak]; simp[AV.cells,V1.cells,AC.uses]) ?_;try simp only[A3,C,E,F,G,H,J]
   exact We rec_ h_rec a1 a2 a3 x1 v5 r9 a0 v6 r18 hg14 hg15 hg16 hg17 hr18 _ b0 b2 b4 b8 b13 b14
theorem uG(rec_:X0→(P U)→(P U)→U→(P (P U))→Q (P (P U)))(h_rec:∀(a0:X0) (a1 a2:P U) (a3:U) (a4:P (P U)) zr,rec_ a0 a1 a2 a3 a4=N zr→FCt Z 149 [.d (.ag (X0.row a0)),.d (.sc (.sl (Y rI a1))),.d (.sc (.sl (Y rI a2))),.d (.sc (.int .i64 a3)),.r] 1 (Y (rL rI) a4) (Y (rL rI) zr))(a1 a2:P U)(a3)(x1:U)(v5)(r9)(a0)(v6)(r18)(hg14:(A4 ([]:P U).length a1.length 8)=T)(hg15:(A4 a1.length ([r9]:P U).length 8)=T)(hg16:(A4 ([]:P U).length a2.length 8)=T)(hg17:(A4 a2.length ([v5]:P U).length 8)=T)(hr18:rec_ a0 (a1++([r9]:P U)) (a2++([v5]:P U)) a3 v6=N r18):∀(f:W) (b0 b2:V) (b4 b8:V) (b13 b14:V),An Z B3 (AU a1 a2 a3 x1 v5 r9 a0 r18) f [b0,L,b2,L,b4,L,L,L,b8,L,T,T,L,b13,b14,L,L] (A7 a1 a2 a3 x1 v5 r9 a0 (vc (.own 90000)) (vc (.own 3200)) (vc (.own 3200)) (vc (.own 3200)) (vc (.own 3584)) (vc (.own 3584)) (vc (.own 3584)) (vc (.own 90000)) (vc (.own 90000)) b0 L b2 L b4 L L L b8 L T T L b13 b14 L [(5,[aL (Y X8.row a0.Points),aL (Y X1.row a0.Segments)])] [(90000,1,Y (rL rI) v6),(3840,1,Y rI ([v5]:P U))]):=by
 intro f
 induction f with
 | zero=>intro b0 b2 b4 b8 b13 b14 h; simp at h
 | succ f ih=>
  intro b0 b2 b4 b8 b13 b14;refine Aw ⟨?_,?_,?_,?_,?_,?_,?_,?_,?_,?_,?_,?_,?_,?_,?_,?_,?_,⟨⟩⟩<;>try first | (intro h; cases h; done) | (intro _ hw; simp at hw; done) | (intro h0 hw; obtain rfl:=hz h0 rfl; refine np ?_; simp only[A7,A8,Aa,A3,C,E,F,G,H,J]; exact ih _ _ _ _ _ _)
  ·intro h0 hw;refine⟨[],[(O,.keep [1,2,3,4,5,11,12,14,31,32,33,49,50,51,52,53,54,55,56,57,58,59,60,61,62,63,64,4] [5] [90000,3200,3840])],X,X,?_⟩;try simp only[A7,A8,Aa,zA,I,A3,C,E,F,G,H,J]
   refine As (es:=Y rI ([]:P U)) X (by simp only[St.fresh,zB,zC,Ak]; simp[AV.cells,V1.cells,AC.uses]) ?_;try simp only[A3,C,E,F,G,H,J]
   exact Wb rec_ h_rec a1 a2 a3 x1 v5 r9 a0 v6 r18 hg14 hg15 hg16 hg17 hr18 _ b0 b2 b4 b8 b13 b14
  ·intro h0 hw;obtain rfl:=hq hw 4 rfl rfl;refine⟨[],[(O,.keep [1,2,3,4,5,11,12,14,31,32,33,49,50,51,52,53,54,55,56,57,58,59,60,61,62,63,64,4] [5] [90000,3456,3840])],X,X,?_⟩;try simp only[A7,A8,Aa,zA,I,A3,C,E,F,G,H,J]
   refine As (es:=Y rI ([r9]:P U)) X (by simp only[St.fresh,zB,zC,Ak]; simp[AV.cells,V1.cells,AC.uses]) ?_;try simp only[A3,C,E,F,G,H,J]
   exact Wd rec_ h_rec a1 a2 a3 x1 v5 r9 a0 v6 r18 hg14 hg15 hg16 hg17 hr18 _ b0 b2 b8 b13 b14
  ·intro h0 hw;refine⟨[],[(O,.keep [1,2,3,4,5,11,12,14,31,32,33,49,50,51,52,53,54,55,56,57,58,59,60,61,62,63,64,4] [5] [90000,3584,3840])],X,X,?_⟩;try simp only[A7,A8,Aa,zA,I,A3,C,E,F,G,H,J]
   refine As (es:=Y rI ([]:P U)) X (by simp only[St.fresh,zB,zC,Ak]; simp[AV.cells,V1.cells,AC.uses]) ?_;try simp only[A3,C,E,F,G,H,J]
   exact We rec_ h_rec a1 a2 a3 x1 v5 r9 a0 v6 r18 hg14 hg15 hg16 hg17 hr18 _ b0 b2 b4 b8 b13 b14
theorem uH(rec_:X0→(P U)→(P U)→U→(P (P U))→Q (P (P U)))(h_rec:∀(a0:X0) (a1 a2:P U) (a3:U) (a4:P (P U)) zr,rec_ a0 a1 a2 a3 a4=N zr→FCt Z 149 [.d (.ag (X0.row a0)),.d (.sc (.sl (Y rI a1))),.d (.sc (.sl (Y rI a2))),.d (.sc (.int .i64 a3)),.r] 1 (Y (rL rI) a4) (Y (rL rI) zr))(a1 a2:P U)(a3)(x1:U)(v5)(r9)(a0)(v6)(r18)(hg14:(A4 ([]:P U).length a1.length 8)=T)(hg15:(A4 a1.length ([r9]:P U).length 8)=T)(hg16:(A4 ([]:P U).length a2.length 8)=T)(hg17:(A4 a2.length ([v5]:P U).length 8)=T)(hr18:rec_ a0 (a1++([r9]:P U)) (a2++([v5]:P U)) a3 v6=N r18):∀(f:W) (b0 b2:V) (b4 b8:V) (b10 b13 b14:V),An Z B3 (AU a1 a2 a3 x1 v5 r9 a0 r18) f [b0,L,b2,L,b4,L,L,L,b8,L,b10,L,L,b13,b14,L,L] (A7 a1 a2 a3 x1 v5 r9 a0 (vc (.own 90000)) (vc (.own 3200)) (vc (.own 3200)) (vc (.own 3200)) (vc (.own 3584)) (vc (.own 3584)) (vc (.own 3584)) (vc (.own 90000)) (.undef) b0 L b2 L b4 L L L b8 L b10 L L b13 b14 L [(5,[aL (Y X8.row a0.Points),aL (Y X1.row a0.Segments)])] [(90000,1,Y (rL rI) v6)]):=by
 intro f
 induction f with
 | zero=>intro b0 b2 b4 b8 b10 b13 b14 h; simp at h
 | succ f ih=>
  intro b0 b2 b4 b8 b10 b13 b14;refine Aw ⟨?_,?_,?_,?_,?_,?_,?_,?_,?_,?_,?_,?_,?_,?_,?_,?_,?_,⟨⟩⟩<;>try first | (intro _ hw; simp at hw; done) | (intro h0 hw; obtain rfl:=hz h0 rfl; refine np ?_; simp only[A7,A8,Aa,A3,C,E,F,G,H,J]; exact ih _ _ _ _ _ _ _)
  ·intro h0 hw;refine⟨[],[(O,.keep [1,2,3,4,5,11,12,14,31,32,33,49,50,51,52,53,54,55,56,57,58,59,60,61,62,63,64,4] [5] [90000,3200])],X,X,?_⟩;try simp only[A7,A8,Aa,zA,I,A3,C,E,F,G,H,J]
   refine As (es:=Y rI ([]:P U)) X (by simp only[St.fresh,zB,zC,Ak]; simp[AV.cells,V1.cells,AC.uses]) ?_;try simp only[A3,C,E,F,G,H,J]
   exact uD rec_ h_rec a1 a2 a3 x1 v5 r9 a0 v6 r18 hg14 hg15 hg16 hg17 hr18 _ b0 b2 b4 b8 b10 b13 b14
  ·intro h0 hw;obtain rfl:=hq hw 4 rfl rfl;refine⟨[],[(O,.keep [1,2,3,4,5,11,12,14,31,32,33,49,50,51,52,53,54,55,56,57,58,59,60,61,62,63,64,4] [5] [90000,3456])],X,X,?_⟩;try simp only[A7,A8,Aa,zA,I,A3,C,E,F,G,H,J]
   refine As (es:=Y rI ([r9]:P U)) X (by simp only[St.fresh,zB,zC,Ak]; simp[AV.cells,V1.cells,AC.uses]) ?_;try simp only[A3,C,E,F,G,H,J]
   exact uE rec_ h_rec a1 a2 a3 x1 v5 r9 a0 v6 r18 hg14 hg15 hg16 hg17 hr18 _ b0 b2 b8 b10 b13 b14
  ·intro h0 hw;refine⟨[],[(O,.keep [1,2,3,4,5,11,12,14,31,32,33,49,50,51,52,53,54,55,56,57,58,59,60,61,62,63,64,4] [5] [90000,3584])],X,X,?_⟩;try simp only[A7,A8,Aa,zA,I,A3,C,E,F,G,H,J]
   refine As (es:=Y rI ([]:P U)) X (by simp only[St.fresh,zB,zC,Ak]; simp[AV.cells,V1.cells,AC.uses]) ?_;try simp only[A3,C,E,F,G,H,J]
   exact uF rec_ h_rec a1 a2 a3 x1 v5 r9 a0 v6 r18 hg14 hg15 hg16 hg17 hr18 _ b0 b2 b4 b8 b10 b13 b14
  ·intro h0 hw;obtain rfl:=hq hw 10 rfl rfl;refine⟨[],[(O,.keep [1,2,3,4,5,11,12,14,31,32,33,49,50,51,52,53,54,55,56,57,58,59,60,61,62,63,64,4] [5] [90000,3840])],X,X,?_⟩;try simp only[A7,A8,Aa,zA,I,A3,C,E,F,G,H,J]
   refine As (es:=Y rI ([v5]:P U)) X (by simp only[St.fresh,zB,zC,Ak]; simp[AV.cells,V1.cells,AC.uses]) ?_;try simp only[A3,C,E,F,G,H,J]
   exact uG rec_ h_rec a1 a2 a3 x1 v5 r9 a0 v6 r18 hg14 hg15 hg16 hg17 hr18 _ b0 b2 b4 b8 b13 b14
def YC:=fun a1 a2 a3 x1 v5 r9 (a0:X0) v6 (k_:V→Q (P (P U)))=>∀{v12} {zr},k_ v12=N zr→Kh Z 149 Na 31 [1,2,3,4,5,11,12,14,31,32,33,48] [5] [90000] ⟨[pL 1 rI a1,pL 2 rI a2,pI 3 a3,pW 4 90000,pB 5,pI 11 x1,pI 12 v5,pI 14 r9,pL 31 X1.row a0.Segments,pI 32 (a0.Segments.length:U),pI 33 v5,(48,vc (aB v12))],[(5,[aM X8.row a0.Points,aM X1.row a0.Segments])],[(90000,1,Y (rL rI) v6)]⟩ (Hv [10] 1 (Y (rL rI) zr))
def QL:=fun a1 a2 a3 x1 (a0:X0) (k_:U→(P (P U))→Q (P (P U)))=>∀{v5 v6} {zr},k_ v5 v6=N zr→Kh Z 149 Na 16 [1,2,3,4,5,11,31,32,33] [5] [90000] ⟨[pL 1 rI a1,pL 2 rI a2,pI 3 a3,pW 4 90000,pB 5,pI 11 x1,pL 31 X1.row a0.Segments,pI 32 (a0.Segments.length:U),pI 33 v5],[(5,[aM X8.row a0.Points,aM X1.row a0.Segments])],[(90000,1,Y (rL rI) v6)]⟩ (Hv [10] 1 (Y (rL rI) zr))
theorem Wf{rec_:X0→(P U)→(P U)→U→(P (P U))→Q (P (P U))}(h_rec:∀(a0:X0) (a1 a2:P U) (a3:U) (a4:P (P U)) zr,rec_ a0 a1 a2 a3 a4=N zr→FCt Z 149 [.d (.ag (X0.row a0)),.d (.sc (.sl (Y rI a1))),.d (.sc (.sl (Y rI a2))),.d (.sc (.int .i64 a3)),.r] 1 (Y (rL rI) a4) (Y (rL rI) zr)){a1 a2 a3 x1 v5 r9 a0 v6}{Lg}(Td:QL a1 a2 a3 x1 a0 Lg):YC a1 a2 a3 x1 v5 r9 a0 v6 (GZ rec_ a1 a2 a3 x1 v5 r9 a0 v6 Lg):=by
 intro v12 r h σ hσ S hS;refine ev hS ?_;refine AJ ?_;unfold GZ at h;obtain⟨h13,h⟩|⟨h13,h⟩:=ic h
 ·try simp only[hσ,h13,C,E,F,G,H,J]
  obtain⟨h14,h⟩:=Bv h;obtain⟨h15,h⟩:=Bv h;obtain⟨h16,h⟩:=Bv h;obtain⟨h17,h⟩:=Bv h;obtain⟨r18,h18,h⟩:=ob h;refine L6 (ks:= [1,2,3,4,5,11,12,14,31,32,33]) (bs:= [5]) (rs:= [90000]) (τ:=(AU a1 a2 a3 x1 v5 r9 a0 r18)) X (uH rec_ h_rec a1 a2 a3 x1 v5 r9 a0 v6 r18 h14 h15 h16 h17 h18 _ L L L L L L L) ?_;simp only[AU,A7,A8];try simp only[h13,h14,h15,h16,h17,C,E,F,G,H,J]
  refine Td h ?_ (by kernel_rfl);try simp only[h13,h14,h15,h16,h17,C,E,F,G,H,J,pL,aM,zE]
 ·try simp only[hσ,h13,C,E,F,G,H,J]
  refine Td h ?_ (by kernel_rfl);try simp only[h13,C,E,F,G,H,J,pL,aM,zE]
theorem uI{rec_:X0→(P U)→(P U)→U→(P (P U))→Q (P (P U))}(h_rec:∀(a0:X0) (a1 a2:P U) (a3:U) (a4:P (P U)) zr,rec_ a0 a1 a2 a3 a4=N zr→FCt Z 149 [.d (.ag (X0.row a0)),.d (.sc (.sl (Y rI a1))),.d (.sc (.sl (Y rI a2))),.d (.sc (.int .i64 a3)),.r] 1 (Y (rL rI) a4) (Y (rL rI) zr)){a1 a2 a3 x1 a0}{n:W}:QL a1 a2 a3 x1 a0 (Fa rec_ a1 a2 a3 x1 a0 n):=by
 induction n with
 | zero=>intro _ _ r h; cases h
 | succ n ih=>
  intro v5 v6 r h σ hσ S hS;refine ev hS ?_;rw[Fa] at h;refine AR (AJ ?_);obtain⟨h7,h⟩|⟨h7,h⟩:=ic h
  ·obtain⟨x8,h8,h⟩:=ob h;try simp only[hσ,h7,h8,C,E,F,G,H,J]
   refine BS ?_;obtain⟨r9,h9,h⟩:=ob h;try simp only[h7,h8,C,E,F,G,H,J]
   refine B4 (Ag VN h9) ?_;obtain⟨h10,h⟩|⟨h10,h⟩:=ic h
   ·obtain⟨r11,h11,h⟩:=ob h;try simp only[h7,h8,h10,C,E,F,G,H,J]
    refine B4 (Ag VM h11) ?_;try simp only[h7,h8,h10,C,E,F,G,H,J]
    refine Wf h_rec ih h ?_ (by kernel_rfl);try simp only[h7,h8,h10,C,E,F,G,H,J,pL,aM,zE]
   ·try simp only[h7,h8,h10,C,E,F,G,H,J]
    refine Wf h_rec ih h ?_ (by kernel_rfl);try simp only[h7,h8,h10,C,E,F,G,H,J,pL,aM,zE]
  ·try simp only[hσ,h7,C,E,F,G,H,J]
   cases h;trivial
theorem cz:AB Z 149=N ((By Z 149 Na).strip,[10],67):=by kernel_rfl
theorem rE(rec_:X0→(P U)→(P U)→U→(P (P U))→Q (P (P U)))(a0:X0)(a1 a2:P U)(a3:U)(a4:P (P U))(r:(P (P U)))(h_rec:∀(a0:X0) (a1 a2:P U) (a3:U) (a4:P (P U)) zr,rec_ a0 a1 a2 a3 a4=N zr→FCt Z 149 [.d (.ag (X0.row a0)),.d (.sc (.sl (Y rI a1))),.d (.sc (.sl (Y rI a2))),.d (.sc (.int .i64 a3)),.r] 1 (Y (rL rI) a4) (Y (rL rI) zr))(h:MS rec_ a0 a1 a2 a3 a4=N r):FCt Z 149 [.d (.ag (X0.row a0)),.d (.sc (.sl (Y rI a1))),.d (.sc (.sl (Y rI a2))),.d (.sc (.int .i64 a3)),.r] 1 (Y (rL rI) a4) (Y (rL rI) r):=by
 unfold MS at h;refine Qv (σ:=⟨[(0,va [aL (Y X8.row a0.Points),aL (Y X1.row a0.Segments)]),(1,vc (aL (Y rI a1))),(2,vc (aL (Y rI a2))),(3,vc (aI a3)),(4,vc (.own 90000))],[],[(90000,1,Y (rL rI) a4)]⟩) A2 cz X X ?_;refine BE Na ?_;have s0:= @Bk (Y rI ([]:P U));have s1:= @Bk (Y (rL rI) ([a2]:P (P U)));have k0:= @uI;exact gc
theorem rF:∀(n:W) (a0:X0) (a1:P U) (a2:P U) (a3:U) (a4:P (P U)) (r:(P (P U))),Fb n a0 a1 a2 a3 a4=N r→FCt Z 149 [.d (.ag (X0.row a0)),.d (.sc (.sl (Y rI a1))),.d (.sc (.sl (Y rI a2))),.d (.sc (.int .i64 a3)),.r] 1 (Y (rL rI) a4) (Y (rL rI) r):=by
 intro n
 induction n with
 | zero=>intro _ _ _ _ _ r h; cases h
 | succ n ih=>intro a0 a1 a2 a3 a4 r h; rw[Fb] at h; exact rE (Fb n) a0 a1 a2 a3 a4 r ih h
theorem rD{a0}{a1}{a2}{a3}{a4}{r}(h:OH a0 a1 a2 a3 a4=N r):FCt Z 149 [.d (.ag (X0.row a0)),.d (.sc (.sl (Y rI a1))),.d (.sc (.sl (Y rI a2))),.d (.sc (.int .i64 a3)),.r] 1 (Y (rL rI) a4) (Y (rL rI) r):=rF bigN a0 a1 a2 a3 a4 r h
def gi:Hw:=([],[(11,5,(O,.frz 1920))])
instance xk:Ct 105 (∀{a0} {a1} {a2} {r},KO a0 a1 a2=N r→FC Z 105 [.ag (X0.row a0),.sc (.int .i64 a1),.sc (.int .i64 a2)] [.sc (.o 1 (Y (rL rI) r))]):=by
 refine⟨fun{a0} {a1} {a2} {r} h=> ?_⟩;unfold KO at h;refine A5 A2 gi [6] 34 ?_;intro S hS;refine ev hS ?_;simp only[C,E,F,G,H,J];try simp only[C,E,F,G,H,J]
 refine Bd ?_;obtain⟨r1,h1,h⟩:=ob h;try simp only[C,E,F,G,H,J]
 refine B4 (Ag qx h1) ?_;obtain⟨h2,h⟩|⟨h2,h⟩:=ic h
 ·obtain⟨r3,h3,h⟩:=ob h;try simp only[h2,C,E,F,G,H,J]
  refine B4 (Ag J3 h3) ?_;obtain⟨h4,h⟩|⟨h4,h⟩:=ic h
  ·obtain⟨r5,h5,h⟩:=ob h;try simp only[h2,h4,C,E,F,G,H,J]
   refine B4 (Ag J3 h5) ?_;obtain⟨h6,h⟩|⟨h6,h⟩:=ic h
   ·try simp only[h2,h4,h6,C,E,F,G,H,J]
    refine Bz (es:=Y rI ([a1]:P U)) ?_;try simp only[h2,h4,h6,C,E,F,G,H,J]
    refine Bz (es:=Y (rL rI) ([]:P (P U))) ?_;try simp only[h2,h4,h6,C,E,F,G,H,J]
    refine Ed ?_;obtain⟨r7,h7,h⟩:=ob h;try simp only[h2,h4,h6,C,E,F,G,H,J]
    refine RX (rD h7) 2048 X X X X X ?_;rw[Ol];try simp only[h2,h4,h6,C,E,F,G,H,J]
    cases h;exact t0
   ·try simp only[h2,h4,h6,C,E,F,G,H,J]
    cases h;exact t0
  ·try simp only[h2,h4,C,E,F,G,H,J]
   cases h;exact t0
 ·try simp only[h2,C,E,F,G,H,J]
  cases h;exact t0
def T3:Hw:=([(16,[2,5,11,12,13],[2],[])],[])
def Yp:=fun a1 (a0:X0) (k_:U→U→Q U)=>∀{v3 v4} {zr},k_ v3 v4=N zr→Kh Z 106 T3 16 [2,5,11,12,13] [2] [] ⟨[pB 2,pI 5 v3,pL 11 rI a1,pI 12 (a1.length:U),pI 13 v4],[(2,[aM X8.row a0.Points,aM X1.row a0.Segments])],[]⟩ (Ac [4] [.sc (.v (.int .i64 zr))])
theorem uJ{a1 a0}{n:W}:Yp a1 a0 (GR a1 a0 n):=by
 induction n with
 | zero=>intro _ _ r h; cases h
 | succ n ih=>
  intro v3 v4 r h σ hσ;rw[GR] at h;exact gc
instance VL:Ct 106 (∀{a0} {a1} {r},F6 a0 a1=N r→FC Z 106 [.ag (X0.row a0),.sc (.sl (Y rI a1))] [.sc (.v (.int .i64 r))]):=by
 refine⟨fun h=> ?_⟩;unfold F6 at h;refine A5 A2 T3 [4] 34 ?_;have k0:= @uJ;exact gc
def P7:Hw:=([(10,[3,8,9,16,17,18],[3],[1024]),(23,[3,8,9,11,16,17,18,32],[3],[1024])],[(3,1,(O,.frz 768))])
def Ya:=fun v2 x6 r1 v4 (a0:X0) (k_:V→V→Q ((P U) × V))=>∀{v11 v12} {zr},k_ v11 v12=N zr→Kh Z 60 P7 23 [3,8,9,11,16,17,18,32] [3] [1024] ⟨[pB 3,pL 8 rI v2,(9,vc (aB v11)),pL 11 rI x6,pW 16 1024,pI 17 (r1.length:U),pI 18 v4,(32,vc (aB v12))],[(3,[aM X8.row a0.Points,aM X1.row a0.Segments])],[(1024,1,Y (rL rI) r1)]⟩ (Ac [6,7] [.sc (.v (.sl (Y rI zr.1))),.sc (.v (.bool zr.2))])
def QF:=fun r1 (a0:X0) (k_:(P U)→V→U→Q ((P U) × V))=>∀{v2 v3 v4} {zr},k_ v2 v3 v4=N zr→Kh Z 60 P7 10 [3,8,9,16,17,18] [3] [1024] ⟨[pB 3,pL 8 rI v2,(9,vc (aB v3)),pW 16 1024,pI 17 (r1.length:U),pI 18 v4],[(3,[aM X8.row a0.Points,aM X1.row a0.Segments])],[(1024,1,Y (rL rI) r1)]⟩ (Ac [6,7] [.sc (.v (.sl (Y rI zr.1))),.sc (.v (.bool zr.2))])
theorem Wg{v2 x6 r1 v4 a0}{Ld}(gn:QF r1 a0 Ld):Ya v2 x6 r1 v4 a0 (Ig v2 x6 r1 v4 a0 Ld):=by
 intro v11 v12 r h σ hσ;unfold Ig at h;have k0:= @gn;exact gc
theorem uK{r1 a0}{n:W}:QF r1 a0 (E5 r1 a0 n):=by
 induction n with
 | zero=>intro _ _ _ r h; cases h
 | succ n ih=>
  intro v2 v3 v4 r h σ hσ S hS;refine ev hS ?_;rw[E5] at h;refine AR (AJ ?_);obtain⟨h5,h⟩|⟨h5,h⟩:=ic h
  ·obtain⟨x6,h6,h⟩:=ob h;have h6n:=Ay h6;try simp only[hσ,h5,h6,h6n,C,E,F,G,H,J]
   refine Ap ?_;obtain⟨h7,h⟩|⟨h7,h⟩:=ic h
   ·obtain⟨r9,h9,h⟩:=ob h;try simp only[h5,h6,h6n,h7,C,E,F,G,H,J]
    refine D4 (Ag VL h9) ?_;obtain⟨r10,h10,h⟩:=ob h;try simp only[h5,h6,h6n,h7,C,E,F,G,H,J]
    refine S0 (by first | rfl | kernel_rfl) ?_;refine B4 (Ag VL h10) ?_;try simp only[h5,h6,h6n,h7,C,E,F,G,H,J]
    refine Ap ?_;try simp only[h5,h6,h6n,h7,C,E,F,G,H,J]
    refine Wg ih h ?_ (by kernel_rfl);try simp only[h5,h6,h6n,h7,C,E,F,G,H,J,pL,aM,zE]
   ·try simp only[h5,h6,h6n,h7,C,E,F,G,H,J]
    refine RZ (by first | rfl | kernel_rfl) X ?_;try simp only[h5,h6,h6n,h7,C,E,F,G,H,J]
    refine Ap ?_;try simp only[h5,h6,h6n,h7,C,E,F,G,H,J]
    refine Wg ih h ?_ (by kernel_rfl);try simp only[h5,h6,h6n,h7,C,E,F,G,H,J,pL,aM,zE]
  ·obtain⟨h14,h⟩|⟨h14,h⟩:=ic h
   ·try simp only[hσ,h5,h14,C,E,F,G,H,J]
    cases h;trivial
   ·try simp only[hσ,h5,h14,C,E,F,G,H,J]
    cases h;trivial
instance xR:Ct 60 (∀{a0} {a1} {a2} {r},Kx a0 a1 a2=N r→FC Z 60 [.ag (X0.row a0),.sc (.int .i64 a1),.sc (.int .i64 a2)] [.sc (.v (.sl (Y rI r.1))),.sc (.v (.bool r.2))]):=by
 refine⟨fun h=> ?_⟩;unfold Kx at h;refine A5 A2 P7 [6,7] 38 ?_;have s0:= @Bk (Y rI ([]:P U));have k0:= @uK;exact gc
instance yd:Ct 170 (∀{a0} {a1} {a2} {r},H0 a0 a1 a2=N r→FC Z 170 [.ag (X0.row a0),.sc (.int .i64 a1),.ag (X6.row a2)] [.sc (.v (.bool r))]):=by
 refine⟨fun h=> ?_⟩;unfold H0 at h;refine A5 A2 h0 [6] 21 ?_;exact gc
instance xp:Ct 194 (∀{a0} {r},MR a0=N r→FC Z 194 [.ag (X6.row a0)] [.sc (.v (.int .i64 r))]):=by
 refine⟨fun h=> ?_⟩;unfold MR at h;refine A5 A2 h0 [2] 14 ?_;exact gc
instance xd:Ct 187 (∀{a0} {r},MN a0=N r→FC Z 187 [.ag (X6.row a0)] [.sc (.v (.int .i64 r))]):=by
 refine⟨fun h=> ?_⟩;unfold MN at h;refine A5 A2 h0 [2] 12 ?_;exact gc
instance xb:Ct 173 (∀{a0} {a1} {a2} {r},KG a0 a1 a2=N r→FC Z 173 [.ag (X0.row a0),.sc (.int .i64 a1),.ag (X6.row a2)] [.sc (.v (.int .i64 r))]):=by
 refine⟨fun h=> ?_⟩;unfold KG at h;refine A5 A2 h0 [6] 21 ?_;exact gc
def T4:Hw:=([(8,[1,4,5,13,14,15],[4,5],[])],[])
def Yx:=fun a1 (a0:Xb) (k_:U→U→U→U→Q Xa)=>∀{v2 v3 v4 v5} {zr},k_ v2 v3 v4 v5=N zr→Kh Z 184 T4 8 [1,4,5,13,14,15] [4,5] [] ⟨[pI 1 a1,pB 4,pB 5,pL 13 zF a0.Surges,pI 14 (a0.Surges.length:U),pI 15 v2],[(4,[aI (0:U),aI (0:U),aI (0:U)]),(5,[aI v3,aI v4,aI v5])],[]⟩ (Ac [.c 4 T 3] [.ag [.v (.int .i64 zr.From),.v (.int .i64 zr.Low),.v (.int .i64 zr.High)]])
theorem uL{a1 a0}{n:W}:Yx a1 a0 (Ea a1 a0 n):=by
 induction n with
 | zero=>intro _ _ _ _ r h; cases h
 | succ n ih=>
  intro v2 v3 v4 v5 r h σ hσ;rw[Ea] at h;exact gc
instance xy:Ct 184 (∀{a0} {a1} {r},GW a0 a1=N r→FC Z 184 [.ag (Xb.row a0),.sc (.int .i64 a1)] [.ag [.v (.int .i64 r.From),.v (.int .i64 r.Low),.v (.int .i64 r.High)]]):=by
 refine⟨fun h=> ?_⟩;unfold GW at h;refine A5 A2 T4 [.c 4 T 3] 26 ?_;have k0:= @uL;exact gc
def T5:Hw:=([(18,[1,5],[],[])],[])
def Yu:=fun a1 (k_:U→Q U)=>∀{v6} {zr},k_ v6=N zr→Kh Z 193 T5 18 [1,5] [] [] ⟨[pI 1 a1,pI 5 v6],[],[]⟩ (Ac [4] [.sc (.v (.int .i64 zr))])
theorem uM{a1}:Yu a1 (KV a1):=by
 intro v6 r h σ hσ;unfold KV at h;exact gc
instance xv:Ct 193 (∀{a0} {a1} {r},KU a0 a1=N r→FC Z 193 [.sc (.int .i64 a0),.sc (.int .i64 a1)] [.sc (.v (.int .i64 r))]):=by
 refine⟨fun h=> ?_⟩;unfold KU at h;refine A5 A2 T5 [4] 55 ?_;have k0:= @uM;exact gc
def T6:Hw:=([(8,[1,5,11,12,13],[],[])],[])
def Yw:=fun a1 (a0:Xh) (k_:U→U→Q U)=>∀{v1 v2} {zr},k_ v1 v2=N zr→Kh Z 185 T6 8 [1,5,11,12,13] [] [] ⟨[pI 1 a1,pI 5 v1,pL 11 zD a0.Parts,pI 12 (a0.Parts.length:U),pI 13 v2],[],[]⟩ (Ac [4] [.sc (.v (.int .i64 zr))])
theorem uO{a1 a0}{n:W}:Yw a1 a0 (GV a1 a0 n):=by
 induction n with
 | zero=>intro _ _ r h; cases h
 | succ n ih=>
  intro v1 v2 r h σ hσ;rw[GV] at h;exact gc
instance xx:Ct 185 (∀{a0} {a1} {r},Il a0 a1=N r→FC Z 185 [.ag (Xh.row a0),.sc (.int .i64 a1)] [.sc (.v (.int .i64 r))]):=by
 refine⟨fun h=> ?_⟩;unfold Il at h;refine A5 A2 T6 [4] 32 ?_;have k0:= @uO;exact gc
def P8:Hw:=([(8,[3,7,8,9],[],[384]),(27,[3,4,7,8,9,30],[],[384])],[])
def Yz:=fun v1 a0 v2 (k_:V→Q (P X2))=>∀{v8} {zr},k_ v8=N zr→Kh Z 186 P8 27 [3,4,7,8,9,30] [] [384] ⟨[pW 3 384,pI 4 v1,pL 7 rB a0,pI 8 (a0.length:U),pI 9 v1,(30,vc (aB v8))],[],[(384,2,Y X2.row v2)]⟩ (Ac [2] [.sc (.o 2 (Y X2.row zr))])
def QJ:=fun a0 (k_:U→(P X2)→Q (P X2))=>∀{v1 v2} {zr},k_ v1 v2=N zr→Kh Z 186 P8 8 [3,7,8,9] [] [384] ⟨[pW 3 384,pL 7 rB a0,pI 8 (a0.length:U),pI 9 v1],[],[(384,2,Y X2.row v2)]⟩ (Ac [2] [.sc (.o 2 (Y X2.row zr))])
theorem Wh{v1 a0 v2}{Lf}(gu:QJ a0 Lf):Yz v1 a0 v2 (GX v1 a0 v2 Lf):=by
 intro v8 r h σ hσ;unfold GX at h;have s0:= @Bk (Y X2.row ([(⟨v1,v1⟩:X2)]:P X2));have s1:=fun(x10:X2)=> @Ex _ X2.row ((⟨x10.From,v1⟩:X2))
 have k0:= @gu;exact gc
theorem uP{a0}{n:W}:QJ a0 (Dv a0 n):=by
 induction n with
 | zero=>intro _ _ r h; cases h
 | succ n ih=>
  intro v1 v2 r h σ hσ S hS;refine ev hS ?_;rw[Dv] at h;refine AR (AJ ?_);obtain⟨h3,h⟩|⟨h3,h⟩:=ic h
  ·obtain⟨x4,h4,h⟩:=ob h;obtain⟨h5,h⟩|⟨h5,h⟩:=ic h
   ·obtain⟨h6,h⟩|⟨h6,h⟩:=ic h
    ·obtain⟨x7,h7,h⟩:=ob h;have h7n:=Ay h7;try simp only[hσ,h3,h4,h5,h6,h7,h7n,C,E,F,G,H,J]
     refine Wh ih h ?_ (by kernel_rfl);try simp only[h3,h4,h5,h6,h7,h7n,C,E,F,G,H,J,pL,aM,zE]
    ·try simp only[hσ,h3,h4,h5,h6,C,E,F,G,H,J]
     refine Wh ih h ?_ (by kernel_rfl);try simp only[h3,h4,h5,h6,C,E,F,G,H,J,pL,aM,zE]
   ·try simp only[hσ,h3,h4,h5,C,E,F,G,H,J]
    refine ih h ?_ (by kernel_rfl);try simp only[h3,h4,h5,C,E,F,G,H,J,pL,aM,zE]
  ·try simp only[hσ,h3,C,E,F,G,H,J]
   cases h;exact t0
instance ya:Ct 186 (∀{a0} {r},KY a0=N r→FC Z 186 [.sc (.sl (Y rB a0))] [.sc (.o 2 (Y X2.row r))]):=by
 refine⟨fun h=> ?_⟩;unfold KY at h;refine A5 A2 P8 [2] 46 ?_;have s0:= @Bk (Y X2.row ([]:P X2));have k0:= @uP;exact gc
def P9:Hw:=([(8,[1,2,3,7,8],[3],[704]),(27,[1,2,3,7,8,10],[3],[704])],[])
def Yy:=fun a1 v2 (a0:Xb) v3 (k_:V→U→Q (P X2))=>∀{v7 v8} {zr},k_ v7 v8=N zr→Kh Z 172 P9 27 [1,2,3,7,8,10] [3] [704] ⟨[pI 1 a1,(2,vc (aB v7)),pB 3,pW 7 704,pI 8 v2,pI 10 v8],[(3,[aI a0.Tide.Mean,aM zD a0.Tide.Parts,aM zF a0.Surges])],[(704,1,Y rB v3)]⟩ (Ac [6] [.sc (.o 2 (Y X2.row zr))])
def QI:=fun a1 (a0:Xb) (k_:V→U→(P V)→Q (P X2))=>∀{v1 v2 v3} {zr},k_ v1 v2 v3=N zr→Kh Z 172 P9 8 [1,2,3,7,8] [3] [704] ⟨[pI 1 a1,(2,vc (aB v1)),pB 3,pW 7 704,pI 8 v2],[(3,[aI a0.Tide.Mean,aM zD a0.Tide.Parts,aM zF a0.Surges])],[(704,1,Y rB v3)]⟩ (Ac [6] [.sc (.o 2 (Y X2.row zr))])
theorem uQ{a1 v2 a0 v3}{Np}(gt:QI a1 a0 Np):Yy a1 v2 a0 v3 (KX a1 v2 a0 v3 Np):=by
 intro v7 v8 r h σ hσ;unfold KX at h;have s0:=fun(r9:U)=> @Bk (Y rB ([(decide (a1≤(IntKind.i64.wrap (r9+v8))))]:P V))
 have k0:= @gt;exact gc
theorem uR{a1 a0}{n:W}:QI a1 a0 (F7 a1 a0 n):=by
 induction n with
 | zero=>intro _ _ _ r h; cases h
 | succ n ih=>
  intro v1 v2 v3 r h σ hσ;rw[F7] at h;have k0:= @uQ;exact gc
instance xz:Ct 172 (∀{a0} {a1} {a2} {r},KW a0 a1 a2=N r→FC Z 172 [.ag (Xb.row a0),.sc (.int .i64 a1),.sc (.bool a2)] [.sc (.o 2 (Y X2.row r))]):=by
 refine⟨fun h=> ?_⟩;unfold KW at h;refine A5 A2 P9 [6] 37 ?_;have s0:= @Bk (Y rB ([]:P V));have k0:= @uR;exact gc
instance Qd:Ct 111 (∀{a0} {a1} {r},Eb a0 a1=N r→FC Z 111 [.ag (X1.row a0),.ag (X6.row a1)] [.sc (.v (.int .i64 r))]):=by
 refine⟨fun h=> ?_⟩;unfold Eb at h;refine A5 A2 h0 [4] 12 ?_;exact gc
end Go.Vi
