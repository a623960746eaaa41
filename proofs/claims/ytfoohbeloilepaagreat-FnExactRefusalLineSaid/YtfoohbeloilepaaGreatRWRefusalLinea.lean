/-
Walks. No condition.
-/
import Derived.Test.YtfoohbeloilepaaGreatRNf
import Derived.Test.YtfoohbeloilepaaGreatChecked
import Derived.Test.YtfoohbeloilepaaGreatRSh
import Derived.Test.YtfoohbeloilepaaGreatRVi41
import Derived.KernelRfl
namespace Go.Vi
open Go.Proofs
set_option linter.all false
set_option maxRecDepth 4000
set_option maxHeartbeats 2000000
open Nat renaming reduceBEq → C, reduceMul → E, reduceAdd → F, reduceDiv → G, le_of_ble_eq_true → uf
open Int renaming reduceBEq → H
attribute [local irreducible] go Bd IR
open List renaming map → Y, cons_append → I, nil_append → zA, all_cons → zB, all_nil → zC, map_nil → zF
open Tryz renaming prog → Z
open Xc renaming row → zD
open Xa renaming row → zE
open Xb renaming row → zG
open Int renaming reduceNegSucc → zH, reduceOfNat → zI
open Bool renaming true → T, false → L
open Option renaming some → N, none → O
open _root_ renaming List → P, Option → Q, Int → U, Bool → V, Nat → W, rfl → X
theorem mixed:Tryz.prog.follows .mixedOrders=T:=by kernel_rfl
/- 107:laws_szPartS -/
instance A9d:Ct 107 (∀{a0} {a1} {r},Mm a0 a1=N r→FC Z 107 [.sc (.sl (Y zD a0)),.sc (.int .i64 a1)] [.sc (.v (.int .i64 r))]):=by
 refine⟨fun h=> ?_⟩;unfold Mm at h;refine A4 mixed h0 [4] 12 ?_;exact gc
/- 64:laws_szTide -/
instance A9k:Ct 64 (∀{a0} {a1} {r},Pr a0 a1=N r→FC Z 64 [.ag (Xl.row a0),.sc (.int .i64 a1)] [.sc (.v (.int .i64 r))]):=by
 refine⟨fun h=> ?_⟩;unfold Pr at h;refine A4 mixed h0 [4] 12 ?_;exact gc
/- 65:laws_szSurgeS -/
instance A9j:Ct 65 (∀{a0} {a1} {r},Ms a0 a1=N r→FC Z 65 [.sc (.sl (Y zE a0)),.sc (.int .i64 a1)] [.sc (.v (.int .i64 r))]):=by
 refine⟨fun h=> ?_⟩;unfold Ms at h;refine A4 mixed h0 [4] 12 ?_;exact gc
/- 24:laws_szForecast -/
instance A9a:Ct 24 (∀{a0} {a1} {r},Mi a0 a1=N r→FC Z 24 [.ag (Xd.row a0),.sc (.int .i64 a1)] [.sc (.v (.int .i64 r))]):=by
 refine⟨fun h=> ?_⟩;unfold Mi at h;refine A4 mixed h0 [4] 18 ?_;exact gc
/- 108:laws_szPoint -/
instance A9e:Ct 108 (∀{a0} {a1} {r},Mn a0 a1=N r→FC Z 108 [.ag (X7.row a0),.sc (.int .i64 a1)] [.sc (.v (.int .i64 r))]):=by
 refine⟨fun h=> ?_⟩;unfold Mn at h;refine A4 mixed h0 [4] 13 ?_;exact gc
/- 66:laws_szPointS -/
def Vq:Hw:=([(16,[0,1,5],[],[])],[])
def cp:=fun a0 (k_:U→U→Q U)=>∀{v2 v3} {zr},k_ v2 v3=N zr→Kh Z 66 Vq 16 [0,1,5] [] [] ⟨[pL 0 X7.row a0,pI 1 v2,pI 5 v3],[],[]⟩ (A7 [4] [.sc (.v (.int .i64 zr))])
theorem zm{a0}{n:W}:cp a0 (G7 a0 n):=by
 induction n with
 | zero=>intro _ _ r h; cases h
 | succ n ih=>
  intro v2 v3 r h σ hσ;rw[G7] at h;exact gc
instance A9f:Ct 66 (∀{a0} {a1} {r},Mo a0 a1=N r→FC Z 66 [.sc (.sl (Y X7.row a0)),.sc (.int .i64 a1)] [.sc (.v (.int .i64 r))]):=by
 refine⟨fun h=> ?_⟩;unfold Mo at h;refine A4 mixed Vq [4] 27 ?_;have k0:= @zm;exact gc
/- 67:laws_szSegmentS -/
instance A9g:Ct 67 (∀{a0} {a1} {r},Mp a0 a1=N r→FC Z 67 [.sc (.sl (Y X2.row a0)),.sc (.int .i64 a1)] [.sc (.v (.int .i64 r))]):=by
 refine⟨fun h=> ?_⟩;unfold Mp at h;refine A4 mixed h0 [4] 12 ?_;exact gc
/- 25:laws_szChart -/
instance A88:Ct 25 (∀{a0} {a1} {r},Mh a0 a1=N r→FC Z 25 [.ag (X1.row a0),.sc (.int .i64 a1)] [.sc (.v (.int .i64 r))]):=by
 refine⟨fun h=> ?_⟩;unfold Mh at h;refine A4 mixed h0 [4] 18 ?_;exact gc
/- 68:laws_szShip -/
instance A9h:Ct 68 (∀{a0} {a1} {r},Mq a0 a1=N r→FC Z 68 [.ag (X6.row a0),.sc (.int .i64 a1)] [.sc (.v (.int .i64 r))]):=by
 refine⟨fun h=> ?_⟩;unfold Mq at h;refine A4 mixed h0 [4] 13 ?_;exact gc
/- 26:laws_szShipS -/
def Gy:Hw:=([(16,[0,1,5],[],[])],[])
def cq:=fun a0 (k_:U→U→Q U)=>∀{v2 v3} {zr},k_ v2 v3=N zr→Kh Z 26 Gy 16 [0,1,5] [] [] ⟨[pL 0 X6.row a0,pI 1 v2,pI 5 v3],[],[]⟩ (A7 [4] [.sc (.v (.int .i64 zr))])
theorem ww3{a0}{n:W}:cq a0 (G8 a0 n):=by
 induction n with
 | zero=>intro _ _ r h; cases h
 | succ n ih=>
  intro v2 v3 r h σ hσ;rw[G8] at h;exact gc
instance A9i:Ct 26 (∀{a0} {a1} {r},Mr a0 a1=N r→FC Z 26 [.sc (.sl (Y X6.row a0)),.sc (.int .i64 a1)] [.sc (.v (.int .i64 r))]):=by
 refine⟨fun h=> ?_⟩;unfold Mr at h;refine A4 mixed Gy [4] 27 ?_;have k0:= @ww3;exact gc
/- 69:laws_szIntS -/
instance A9c:Ct 69 (∀{a0} {a1} {r},Ml a0 a1=N r→FC Z 69 [.sc (.sl (Y rI a0)),.sc (.int .i64 a1)] [.sc (.v (.int .i64 r))]):=by
 refine⟨fun h=> ?_⟩;unfold Ml at h;refine A4 mixed h0 [4] 12 ?_;exact gc
/- 27:laws_szCrew -/
instance A89:Ct 27 (∀{a0} {a1} {r},Pq a0 a1=N r→FC Z 27 [.ag (Xm.row a0),.sc (.int .i64 a1)] [.sc (.v (.int .i64 r))]):=by
 refine⟨fun h=> ?_⟩;unfold Pq at h;refine A4 mixed h0 [4] 12 ?_;exact gc
/- 5:laws_szHarbour -/
instance A9b:Ct 5 (∀{a0} {a1} {r},Mj a0 a1=N r→FC Z 5 [.ag (X4.row a0),.sc (.int .i64 a1)] [.sc (.v (.int .i64 r))]):=by
 refine⟨fun h=> ?_⟩;unfold Mj at h;refine A4 mixed h0 [4] 30 ?_;exact gc
/- 6:laws_szCallS -/
instance A87:Ct 6 (∀{a0} {a1} {r},Mg a0 a1=N r→FC Z 6 [.sc (.sl (Y zG a0)),.sc (.int .i64 a1)] [.sc (.v (.int .i64 r))]):=by
 refine⟨fun h=> ?_⟩;unfold Mg at h;refine A4 mixed h0 [4] 12 ?_;exact gc
/- 156:laws_toPart -/
instance A9s:Ct 156 (∀{a0} {r},Pu a0=N r→FC Z 156 [.ag (zD a0)] [.ag [.v (.int .i64 r.Amp),.v (.int .i64 r.Period),.v (.int .i64 r.Phase)]]):=by
 refine⟨fun h=> ?_⟩;unfold Pu at h;refine A4 mixed h0 [.c 2 T 3] 14 ?_;exact gc
/- 114:laws_toPartS -/
def Ws:Hw:=([(8,[0,3,4],[],[448])],[])
def cu:=fun a0 (k_:U→(P Xc)→Q (P Xc))=>∀{v2 v3} {zr},k_ v2 v3=N zr→Kh Z 114 Ws 8 [0,3,4] [] [448] ⟨[pL 0 zD a0,pW 3 448,pI 4 v2],[],[(448,3,Y zD v3)]⟩ (A7 [2] [.sc (.o 3 (Y zD zr))])
theorem ww5{a0}{n:W}:cu a0 (I2 a0 n):=by
 induction n with
 | zero=>intro _ _ r h; cases h
 | succ n ih=>
  intro v2 v3 r h σ hσ;rw[I2] at h;have s0:=fun(r6:Xc)=> @ED _ zD r6
  exact gc
instance A9t:Ct 114 (∀{a0} {r},Mx a0=N r→FC Z 114 [.sc (.sl (Y zD a0))] [.sc (.o 3 (Y zD r))]):=by
 refine⟨fun h=> ?_⟩;unfold Mx at h;refine A4 mixed Ws [2] 23 ?_;have s0:= @Ew _ zD (⟨(0:U),(0:U),(0:U)⟩:Xc);have k0:= @ww5;exact gc
/- 73:laws_toTide -/
instance A93:Ct 73 (∀{a0} {r},PB a0=N r→FC Z 73 [.ag (Xl.row a0)] [.ag [.v (.int .i64 r.Mean),.o 3 (Y zD r.Parts)]]):=by
 refine⟨fun h=> ?_⟩;unfold PB at h;refine A4 mixed h0 [.c 2 T 2] 12 ?_;exact gc
/- 115:laws_toSurge -/
instance A91:Ct 115 (∀{a0} {r},PA a0=N r→FC Z 115 [.ag (zE a0)] [.ag [.v (.int .i64 r.From),.v (.int .i64 r.Low),.v (.int .i64 r.High)]]):=by
 refine⟨fun h=> ?_⟩;unfold PA at h;refine A4 mixed h0 [.c 2 T 3] 14 ?_;exact gc
/- 74:laws_toSurgeS -/
def Wu:Hw:=([(8,[0,3,4],[],[448])],[])
def cz:=fun a0 (k_:U→(P Xa)→Q (P Xa))=>∀{v2 v3} {zr},k_ v2 v3=N zr→Kh Z 74 Wu 8 [0,3,4] [] [448] ⟨[pL 0 zE a0,pW 3 448,pI 4 v2],[],[(448,3,Y zE v3)]⟩ (A7 [2] [.sc (.o 3 (Y zE zr))])
theorem ww7{a0}{n:W}:cz a0 (I6 a0 n):=by
 induction n with
 | zero=>intro _ _ r h; cases h
 | succ n ih=>
  intro v2 v3 r h σ hσ;rw[I6] at h;have s0:=fun(r6:Xa)=> @ED _ zE r6
  exact gc
instance A92:Ct 74 (∀{a0} {r},MB a0=N r→FC Z 74 [.sc (.sl (Y zE a0))] [.sc (.o 3 (Y zE r))]):=by
 refine⟨fun h=> ?_⟩;unfold MB at h;refine A4 mixed Wu [2] 23 ?_;have s0:= @Ew _ zE (⟨(0:U),(0:U),(0:U)⟩:Xa);have k0:= @ww7;exact gc
/- 31:laws_toForecast -/
instance A9p:Ct 31 (∀{a0} {r},Mv a0=N r→FC Z 31 [.ag (Xd.row a0)] [.ag [.v (.int .i64 r.Tide.Mean),.o 3 (Y zD r.Tide.Parts),.o 3 (Y zE r.Surges)]]):=by
 refine⟨fun h=> ?_⟩;unfold Mv at h;refine A4 mixed h0 [.c 2 T 3] 13 ?_;exact gc
/- 116:laws_toPoint -/
instance A9u:Ct 116 (∀{a0} {r},Pv a0=N r→FC Z 116 [.ag (X7.row a0)] [.ag [.v (.str r.Name),.v (.bool r.Wait)]]):=by
 refine⟨fun h=> ?_⟩;unfold Pv at h;refine A4 mixed h0 [.c 2 T 2] 11 ?_;exact gc
/- 75:laws_toPointS -/
def Wv:Hw:=([(8,[0,3,4],[],[448])],[])
def cv:=fun a0 (k_:U→(P X7)→Q (P X7))=>∀{v2 v3} {zr},k_ v2 v3=N zr→Kh Z 75 Wv 8 [0,3,4] [] [448] ⟨[pL 0 X7.row a0,pW 3 448,pI 4 v2],[],[(448,2,Y X7.row v3)]⟩ (A7 [2] [.sc (.o 2 (Y X7.row zr))])
theorem ww9{a0}{n:W}:cv a0 (I3 a0 n):=by
 induction n with
 | zero=>intro _ _ r h; cases h
 | succ n ih=>
  intro v2 v3 r h σ hσ;rw[I3] at h;have s0:=fun(r6:X7)=> @ED _ X7.row r6
  exact gc
instance A9v:Ct 75 (∀{a0} {r},My a0=N r→FC Z 75 [.sc (.sl (Y X7.row a0))] [.sc (.o 2 (Y X7.row r))]):=by
 refine⟨fun h=> ?_⟩;unfold My at h;refine A4 mixed Wv [2] 23 ?_;have s0:= @Ew _ X7.row (⟨([]:P UInt8),L⟩:X7);have k0:= @ww9;exact gc
/- 117:laws_toSegment -/
instance A9x:Ct 117 (∀{a0} {r},Py a0=N r→FC Z 117 [.ag (X2.row a0)] [.ag [.v (.int .i64 r.A),.v (.int .i64 r.B),.v (.int .i64 r.Depth),.v (.int .i64 r.Minutes),.v (.bool r.Meet)]]):=by
 refine⟨fun h=> ?_⟩;unfold Py at h;refine A4 mixed h0 [.c 2 T 5] 20 ?_;exact gc
/- 76:laws_toSegmentS -/
def Vr:Hw:=([(8,[0,3,4],[],[448])],[])
def cw:=fun a0 (k_:U→(P X2)→Q (P X2))=>∀{v2 v3} {zr},k_ v2 v3=N zr→Kh Z 76 Vr 8 [0,3,4] [] [448] ⟨[pL 0 X2.row a0,pW 3 448,pI 4 v2],[],[(448,5,Y X2.row v3)]⟩ (A7 [2] [.sc (.o 5 (Y X2.row zr))])
theorem zt{a0}{n:W}:cw a0 (I4 a0 n):=by
 induction n with
 | zero=>intro _ _ r h; cases h
 | succ n ih=>
  intro v2 v3 r h σ hσ;rw[I4] at h;have s0:=fun(r6:X2)=> @ED _ X2.row r6
  exact gc
instance A9y:Ct 76 (∀{a0} {r},Mz a0=N r→FC Z 76 [.sc (.sl (Y X2.row a0))] [.sc (.o 5 (Y X2.row r))]):=by
 refine⟨fun h=> ?_⟩;unfold Mz at h;refine A4 mixed Vr [2] 23 ?_;have s0:= @Ew _ X2.row (⟨(0:U),(0:U),(0:U),(0:U),L⟩:X2);have k0:= @zt;exact gc
/- 32:laws_toChart -/
instance A9n:Ct 32 (∀{a0} {r},Mu a0=N r→FC Z 32 [.ag (X1.row a0)] [.ag [.o 2 (Y X7.row r.Points),.o 5 (Y X2.row r.Segments)]]):=by
 refine⟨fun h=> ?_⟩;unfold Mu at h;refine A4 mixed h0 [.c 2 T 2] 13 ?_;exact gc
/- 77:laws_toShip -/
instance A9z:Ct 77 (∀{a0} {r},Pz a0=N r→FC Z 77 [.ag (X6.row a0)] [.ag [.v (.str r.Name),.v (.int .i64 r.Length),.v (.int .i64 r.Draught),.v (.int .i64 r.Line),.v (.int .i64 r.Tugs),.v (.bool r.Slow)]]):=by
 refine⟨fun h=> ?_⟩;unfold Pz at h;refine A4 mixed h0 [.c 2 T 6] 23 ?_;exact gc
/- 33:laws_toShipS -/
def Vy:Hw:=([(8,[0,3,4],[],[448])],[])
def cy:=fun a0 (k_:U→(P X6)→Q (P X6))=>∀{v2 v3} {zr},k_ v2 v3=N zr→Kh Z 33 Vy 8 [0,3,4] [] [448] ⟨[pL 0 X6.row a0,pW 3 448,pI 4 v2],[],[(448,6,Y X6.row v3)]⟩ (A7 [2] [.sc (.o 6 (Y X6.row zr))])
theorem A0e{a0}{n:W}:cy a0 (I5 a0 n):=by
 induction n with
 | zero=>intro _ _ r h; cases h
 | succ n ih=>
  intro v2 v3 r h σ hσ;rw[I5] at h;have s0:=fun(r6:X6)=> @ED _ X6.row r6
  exact gc
instance A90:Ct 33 (∀{a0} {r},MA a0=N r→FC Z 33 [.sc (.sl (Y X6.row a0))] [.sc (.o 6 (Y X6.row r))]):=by
 refine⟨fun h=> ?_⟩;unfold MA at h;refine A4 mixed Vy [2] 23 ?_;have s0:= @Ew _ X6.row (⟨([]:P UInt8),(0:U),(0:U),(0:U),(0:U),L⟩:X6);have k0:= @A0e;exact gc
/- 34:laws_toRegime -/
instance A9w:Ct 34 (∀{a0} {r},Pw a0=N r→FC Z 34 [.ag (Xh.row a0)] [.ag [.v (.int .i64 r.Gap),.v (.bool r.NoMeet)]]):=by
 refine⟨fun h=> ?_⟩;unfold Pw at h;refine A4 mixed h0 [.c 2 T 2] 11 ?_;exact gc
/- 78:laws_toIntS -/
def VB:Hw:=([(8,[0,3,4],[],[448])],[])
def ct:=fun a0 (k_:U→(P U)→Q (P U))=>∀{v2 v3} {zr},k_ v2 v3=N zr→Kh Z 78 VB 8 [0,3,4] [] [448] ⟨[pL 0 rI a0,pW 3 448,pI 4 v2],[],[(448,1,Y rI v3)]⟩ (A7 [2] [.sc (.o 1 (Y rI zr))])
theorem A0r{a0}{n:W}:ct a0 (I1 a0 n):=by
 induction n with
 | zero=>intro _ _ r h; cases h
 | succ n ih=>
  intro v2 v3 r h σ hσ;rw[I1] at h;have s0:=fun(x5:U)=> @ED _ rI x5
  exact gc
instance A9r:Ct 78 (∀{a0} {r},Mw a0=N r→FC Z 78 [.sc (.sl (Y rI a0))] [.sc (.o 1 (Y rI r))]):=by
 refine⟨fun h=> ?_⟩;unfold Mw at h;refine A4 mixed VB [2] 22 ?_;have s0:= @Ew _ rI (0:U);have k0:= @A0r;exact gc
/- 35:laws_toCrew -/
instance A9o:Ct 35 (∀{a0} {r},Pt a0=N r→FC Z 35 [.ag (Xm.row a0)] [.ag [.v (.int .i64 r.Tugs),.v (.int .i64 r.Pilots),.v (.int .i64 r.Rest),.o 1 (Y rI r.Moves)]]):=by
 refine⟨fun h=> ?_⟩;unfold Pt at h;refine A4 mixed h0 [.c 2 T 4] 18 ?_;exact gc
/- 8:laws_toHarbour -/
instance A9q:Ct 8 (∀{a0} {r},I0 a0=N r→FC Z 8 [.ag (X4.row a0)] [.ag [.v (.int .i64 r.Forecast.Tide.Mean),.o 3 (Y zD r.Forecast.Tide.Parts),.o 3 (Y zE r.Forecast.Surges),.o 2 (Y X7.row r.Chart.Points),.o 5 (Y X2.row r.Chart.Segments),.o 6 (Y X6.row r.Fleet),.v (.int .i64 r.Regime.Gap),.v (.bool r.Regime.NoMeet),.v (.int .i64 r.Crew.Tugs),.v (.int .i64 r.Crew.Pilots),.v (.int .i64 r.Crew.Rest),.o 1 (Y rI r.Crew.Moves)]]):=by
 refine⟨fun h=> ?_⟩;unfold I0 at h;refine A4 mixed h0 [.c 2 T 12] 25 ?_;exact gc
/- 36:laws_toCall -/
instance A9l:Ct 36 (∀{a0} {r},Ps a0=N r→FC Z 36 [.ag (zG a0)] [.ag [.v (.int .i64 r.Ship),.v (.int .i64 r.From),.v (.int .i64 r.To),.v (.int .i64 r.Ready),.v (.int .i64 r.Due)]]):=by
 refine⟨fun h=> ?_⟩;unfold Ps at h;refine A4 mixed h0 [.c 2 T 5] 20 ?_;exact gc
/- 9:laws_toCallS -/
def VF:Hw:=([(8,[0,3,4],[],[448])],[])
def cr:=fun a0 (k_:U→(P Xb)→Q (P Xb))=>∀{v2 v3} {zr},k_ v2 v3=N zr→Kh Z 9 VF 8 [0,3,4] [] [448] ⟨[pL 0 zG a0,pW 3 448,pI 4 v2],[],[(448,5,Y zG v3)]⟩ (A7 [2] [.sc (.o 5 (Y zG zr))])
theorem A04{a0}{n:W}:cr a0 (HZ a0 n):=by
 induction n with
 | zero=>intro _ _ r h; cases h
 | succ n ih=>
  intro v2 v3 r h σ hσ;rw[HZ] at h;have s0:=fun(r6:Xb)=> @ED _ zG r6
  exact gc
instance A9m:Ct 9 (∀{a0} {r},HY a0=N r→FC Z 9 [.sc (.sl (Y zG a0))] [.sc (.o 5 (Y zG r))]):=by
 refine⟨fun h=> ?_⟩;unfold HY at h;refine A4 mixed VF [2] 23 ?_;have s0:= @Ew _ zG (⟨(0:U),(0:U),(0:U),(0:U),(0:U)⟩:Xb);have k0:= @A04;exact gc
/- 90:spec_l01In -/
instance QV:Ct 90 (∀{a0} {a1} {a2} {r},Ax a0 a1 a2=N r→FC Z 90 [.sc (.int .i64 a0),.sc (.int .i64 a1),.sc (.int .i64 a2)] [.sc (.v (.bool r))]):=by
 refine⟨fun h=> ?_⟩;unfold Ax at h;refine A4 mixed h0 [6] 15 ?_;exact gc
/- 185:spec_PartOk -/
instance B0r:Ct 185 (∀{a0} {r},MS a0=N r→FC Z 185 [.ag (zD a0)] [.sc (.v (.bool r))]):=by
 refine⟨fun h=> ?_⟩;unfold MS at h;refine A4 mixed h0 [2] 25 ?_;exact gc
/- 151:spec_TideOk -/
def VJ:Hw:=([(14,[16,17,18],[],[])],[])
def dj:=fun(a0:Xl) (k_:U→Q V)=>∀{v4} {zr},k_ v4=N zr→Kh Z 151 VJ 14 [16,17,18] [] [] ⟨[pL 16 zD a0.Parts,pI 17 (a0.Parts.length:U),pI 18 v4],[],[]⟩ (A7 [2] [.sc (.v (.bool zr))])
theorem A1h{a0}{n:W}:dj a0 (It a0 n):=by
 induction n with
 | zero=>intro _ r h; cases h
 | succ n ih=>
  intro v4 r h σ hσ;rw[It] at h;exact gc
instance B08:Ct 151 (∀{a0} {r},N4 a0=N r→FC Z 151 [.ag (Xl.row a0)] [.sc (.v (.bool r))]):=by
 refine⟨fun h=> ?_⟩;unfold N4 at h;refine A4 mixed VJ [2] 26 ?_;have k0:= @A1h;exact gc
/- 152:spec_SurgeOk -/
instance B07:Ct 152 (∀{a0} {r},N3 a0=N r→FC Z 152 [.ag (zE a0)] [.sc (.v (.bool r))]):=by
 refine⟨fun h=> ?_⟩;unfold N3 at h;refine A4 mixed h0 [2] 18 ?_;exact gc
/- 109:spec_ForecastOk -/
def VO:Hw:=([(14,[1,25,26,27],[1],[])],[])
def dN:=fun(a0:Xd) (k_:U→Q V)=>∀{v7} {zr},k_ v7=N zr→Kh Z 109 VO 14 [1,25,26,27] [1] [] ⟨[pB 1,pL 25 zE a0.Surges,pI 26 (a0.Surges.length:U),pI 27 v7],[(1,[aI a0.Tide.Mean,aM zD a0.Tide.Parts,aM zE a0.Surges])],[]⟩ (A7 [2] [.sc (.v (.bool zr))])
theorem A1u{a0}{n:W}:dN a0 (Ga a0 n):=by
 induction n with
 | zero=>intro _ r h; cases h
 | succ n ih=>
  intro v7 r h σ hσ;rw[Ga] at h;exact gc
instance B0e:Ct 109 (∀{a0} {r},K2 a0=N r→FC Z 109 [.ag (Xd.row a0)] [.sc (.v (.bool r))]):=by
 refine⟨fun h=> ?_⟩;unfold K2 at h;refine A4 mixed VO [2] 52 ?_;have k0:= @A1u;exact gc
/- 132:spec_IsName -/
def Q3:Hw:=([(6,[0,3],[],[]),(17,[0,3,4],[],[]),(24,[0,3],[],[])],[])
def dS:=fun a0 v1 (k_:Q V)=>∀{zr},k_=N zr→Kh Z 132 Q3 24 [0,3] [] [] ⟨[(0,vc (aS a0)),pI 3 v1],[],[]⟩ (A7 [2] [.sc (.v (.bool zr))])
def dR:=fun a0 v1 (k_:V→Q V)=>∀{v5} {zr},k_ v5=N zr→Kh Z 132 Q3 17 [0,3,4] [] [] ⟨[(0,vc (aS a0)),pI 3 v1,(4,vc (aB v5))],[],[]⟩ (A7 [2] [.sc (.v (.bool zr))])
def R7:=fun a0 (k_:U→Q V)=>∀{v1} {zr},k_ v1=N zr→Kh Z 132 Q3 6 [0,3] [] [] ⟨[(0,vc (aS a0)),pI 3 v1],[],[]⟩ (A7 [2] [.sc (.v (.bool zr))])
theorem A18{a0 v1}{Er}(WF:R7 a0 Er):dS a0 v1 (MN a0 v1 Er):=by
 intro r h σ hσ;unfold MN at h;have k0:= @WF;exact gc
theorem A2g{a0 v1}{Er}(WF:R7 a0 Er):dR a0 v1 (MM a0 v1 Er):=by
 intro v5 r h σ hσ;unfold MM at h;have k0:= @A18;exact gc
theorem A2p{a0}{n:W}:R7 a0 (Gc a0 n):=by
 induction n with
 | zero=>intro _ r h; cases h
 | succ n ih=>
  intro v1 r h σ hσ;rw[Gc] at h;have k0:= @A2g;exact gc
instance B0j:Ct 132 (∀{a0} {r},K5 a0=N r→FC Z 132 [.sc (.str a0)] [.sc (.v (.bool r))]):=by
 refine⟨fun h=> ?_⟩;unfold K5 at h;refine A4 mixed Q3 [2] 42 ?_;have k0:= @A2p;exact gc
/- 133:spec_PointNamed -/
def W1:Hw:=([(6,[1,8,9,10],[],[])],[])
def dc:=fun a1 (a0:X1) (k_:U→Q U)=>∀{v1} {zr},k_ v1=N zr→Kh Z 133 W1 6 [1,8,9,10] [] [] ⟨[(1,vc (aS a1)),pL 8 X7.row a0.Points,pI 9 (a0.Points.length:U),pI 10 v1],[],[]⟩ (A7 [4] [.sc (.v (.int .i64 zr))])
theorem A2y{a1 a0}{n:W}:dc a1 a0 (Io a1 a0 n):=by
 induction n with
 | zero=>intro _ r h; cases h
 | succ n ih=>
  intro v1 r h σ hσ;rw[Io] at h;exact gc
instance B0v:Ct 133 (∀{a0} {a1} {r},MX a0 a1=N r→FC Z 133 [.ag (X1.row a0),.sc (.str a1)] [.sc (.v (.int .i64 r))]):=by
 refine⟨fun h=> ?_⟩;unfold MX at h;refine A4 mixed W1 [4] 21 ?_;have k0:= @A2y;exact gc
/- 134:spec_l05Joins -/
instance B1g:Ct 134 (∀{a0} {a1} {a2} {r},Na a0 a1 a2=N r→FC Z 134 [.ag (X2.row a0),.sc (.int .i64 a1),.sc (.int .i64 a2)] [.sc (.v (.bool r))]):=by
 refine⟨fun h=> ?_⟩;unfold Na at h;refine A4 mixed h0 [6] 29 ?_;exact gc
/- 89:spec_ChartOk -/
def Q7:Hw:=([(14,[1,20,21,22],[1],[]),(37,[1,41,42,43],[1],[]),(59,[1,6,41,42,43,88,89,90],[1,6],[])],[])
def dH:=fun(a0:X1) v11 (x13:X2) y24 y25 (k_:U→Q V)=>∀{v26} {zr},k_ v26=N zr→Kh Z 89 Q7 59 [1,6,41,42,43,88,89,90] [1,6] [] ⟨[pB 1,pB 6,pL 41 X2.row a0.Segments,pI 42 (a0.Segments.length:U),pI 43 v11,pL 88 X2.row y24,pI 89 y25,pI 90 v26],[(1,[aM X7.row a0.Points,aM X2.row a0.Segments]),(6,(dm x13.row))],[]⟩ (A7 [2] [.sc (.v (.bool zr))])
def TO:=fun(a0:X1) (k_:U→Q V)=>∀{v11} {zr},k_ v11=N zr→Kh Z 89 Q7 37 [1,41,42,43] [1] [] ⟨[pB 1,pL 41 X2.row a0.Segments,pI 42 (a0.Segments.length:U),pI 43 v11],[(1,[aM X7.row a0.Points,aM X2.row a0.Segments])],[]⟩ (A7 [2] [.sc (.v (.bool zr))])
def dG:=fun(a0:X1) (k_:U→Q V)=>∀{v3} {zr},k_ v3=N zr→Kh Z 89 Q7 14 [1,20,21,22] [1] [] ⟨[pB 1,pL 20 X7.row a0.Points,pI 21 (a0.Points.length:U),pI 22 v3],[(1,[aM X7.row a0.Points,aM X2.row a0.Segments])],[]⟩ (A7 [2] [.sc (.v (.bool zr))])
theorem A29{a0 v11 x13 y24 y25}{NS}(ox:TO a0 NS){n:W}:dH a0 v11 x13 y24 y25 (Ia a0 v11 x13 y24 y25 NS n):=by
 induction n with
 | zero=>intro _ r h; cases h
 | succ n ih=>
  intro v26 r h σ hσ;rw[Ia] at h;have k0:= @ox;exact gc
theorem A3h{a0}{n:W}:TO a0 (Eh a0 n):=by
 induction n with
 | zero=>intro _ r h; cases h
 | succ n ih=>
  intro v11 r h σ hσ;rw[Eh] at h;have k0:= @A29;exact gc
theorem A3o{a0}{n:W}:dG a0 (I9 a0 n):=by
 induction n with
 | zero=>intro _ r h; cases h
 | succ n ih=>
  intro v3 r h σ hσ;rw[I9] at h;have k0:= @A3h;exact gc
instance ya:Ct 89 (∀{a0} {r},D4 a0=N r→FC Z 89 [.ag (X1.row a0)] [.sc (.v (.bool r))]):=by
 refine⟨fun h=> ?_⟩;unfold D4 at h;refine A4 mixed Q7 [2] 102 ?_;have k0:= @A3o;exact gc
/- 153:spec_ShipOk -/
instance B03:Ct 153 (∀{a0} {r},DO a0=N r→FC Z 153 [.ag (X6.row a0)] [.sc (.v (.bool r))]):=by
 refine⟨fun h=> ?_⟩;unfold DO at h;refine A4 mixed h0 [2] 26 ?_;exact gc
/- 154:spec_ShipNamed -/
def We:Hw:=([(6,[1,7,8,9],[],[])],[])
def dh:=fun a1 a0 (k_:U→Q U)=>∀{v1} {zr},k_ v1=N zr→Kh Z 154 We 6 [1,7,8,9] [] [] ⟨[(1,vc (aS a1)),pL 7 X6.row a0,pI 8 (a0.length:U),pI 9 v1],[],[]⟩ (A7 [4] [.sc (.v (.int .i64 zr))])
theorem A3y{a1 a0}{n:W}:dh a1 a0 (Ir a1 a0 n):=by
 induction n with
 | zero=>intro _ r h; cases h
 | succ n ih=>
  intro v1 r h σ hσ;rw[Ir] at h;exact gc
instance B02:Ct 154 (∀{a0} {a1} {r},N1 a0 a1=N r→FC Z 154 [.sc (.sl (Y X6.row a0)),.sc (.str a1)] [.sc (.v (.int .i64 r))]):=by
 refine⟨fun h=> ?_⟩;unfold N1 at h;refine A4 mixed We [4] 20 ?_;have k0:= @A3y;exact gc
/- 110:spec_FleetOk -/
def Wh:Hw:=([(14,[0,8,9,10],[],[])],[])
def dM:=fun a0 (k_:U→Q V)=>∀{v2} {zr},k_ v2=N zr→Kh Z 110 Wh 14 [0,8,9,10] [] [] ⟨[pL 0 X6.row a0,pL 8 X6.row a0,pI 9 (a0.length:U),pI 10 v2],[],[]⟩ (A7 [2] [.sc (.v (.bool zr))])
theorem A4e{a0}{n:W}:dM a0 (Ig a0 n):=by
 induction n with
 | zero=>intro _ r h; cases h
 | succ n ih=>
  intro v2 r h σ hσ;rw[Ig] at h;exact gc
instance B0d:Ct 110 (∀{a0} {r},K1 a0=N r→FC Z 110 [.sc (.sl (Y X6.row a0))] [.sc (.v (.bool r))]):=by
 refine⟨fun h=> ?_⟩;unfold K1 at h;refine A4 mixed Wh [2] 27 ?_;have k0:= @A4e;exact gc
/- 111:spec_RegimeOk -/
instance B0y:Ct 111 (∀{a0} {r},Ip a0=N r→FC Z 111 [.ag (Xh.row a0)] [.sc (.v (.bool r))]):=by
 refine⟨fun h=> ?_⟩;unfold Ip at h;refine A4 mixed h0 [2] 6 ?_;exact gc
/- 155:spec_l13Table -/
def Wi:Hw:=([(14,[15,16,17],[],[])],[])
def eF:=fun a1 (k_:U→Q V)=>∀{v4} {zr},k_ v4=N zr→Kh Z 155 Wi 14 [15,16,17] [] [] ⟨[pL 15 rI a1,pI 16 (a1.length:U),pI 17 v4],[],[]⟩ (A7 [4] [.sc (.v (.bool zr))])
theorem A4s{a1}{n:W}:eF a1 (Gr a1 n):=by
 induction n with
 | zero=>intro _ r h; cases h
 | succ n ih=>
  intro v4 r h σ hσ;rw[Gr] at h;exact gc
instance B1q:Ct 155 (∀{a0} {a1} {r},Gq a0 a1=N r→FC Z 155 [.sc (.int .i64 a0),.sc (.sl (Y rI a1))] [.sc (.v (.bool r))]):=by
 refine⟨fun h=> ?_⟩;unfold Gq at h;refine A4 mixed Wi [4] 25 ?_;have k0:= @A4s;exact gc
/- 112:spec_CrewOk -/
instance B0b:Ct 112 (∀{a0} {r},Ic a0=N r→FC Z 112 [.ag (Xm.row a0)] [.sc (.v (.bool r))]):=by
 refine⟨fun h=> ?_⟩;unfold Ic at h;refine A4 mixed h0 [2] 18 ?_;exact gc
/- 70:spec_HarbourOk -/
instance B0g:Ct 70 (∀{a0} {r},K4 a0=N r→FC Z 70 [.ag (X4.row a0)] [.sc (.v (.bool r))]):=by
 refine⟨fun h=> ?_⟩;unfold K4 at h;refine A4 mixed h0 [2] 26 ?_;exact gc
/- 71:spec_CallOk -/
instance A96:Ct 71 (∀{a0} {a1} {r},JV a0 a1=N r→FC Z 71 [.ag (X4.row a0),.ag (zG a1)] [.sc (.v (.bool r))]):=by
 refine⟨fun h=> ?_⟩;unfold JV at h;refine A4 mixed h0 [4] 53 ?_;exact gc
/- 28:spec_CallsOk -/
def Sm:Hw:=([(14,[1,2,17,18,19],[2],[]),(36,[1,2,6,17,18,19,30,31,32],[2,6],[])],[])
def dE:=fun a1 v4 (a0:X4) (x6:Xb) y10 y11 (k_:U→Q V)=>∀{v12} {zr},k_ v12=N zr→Kh Z 28 Sm 36 [1,2,6,17,18,19,30,31,32] [2,6] [] ⟨[pL 1 zG a1,pB 2,pB 6,pL 17 zG a1,pI 18 (a1.length:U),pI 19 v4,pL 30 zG y10,pI 31 y11,pI 32 v12],[(2,([aI a0.Forecast.Tide.Mean,aM zD a0.Forecast.Tide.Parts,aM zE a0.Forecast.Surges,aM X7.row a0.Chart.Points,aM X2.row a0.Chart.Segments,aM X6.row a0.Fleet,aI a0.Regime.Gap,aB a0.Regime.NoMeet]++dm a0.Crew.row)),(6,(dm x6.row))],[]⟩ (A7 [4] [.sc (.v (.bool zr))])
def TN:=fun a1 (a0:X4) (k_:U→Q V)=>∀{v4} {zr},k_ v4=N zr→Kh Z 28 Sm 14 [1,2,17,18,19] [2] [] ⟨[pL 1 zG a1,pB 2,pL 17 zG a1,pI 18 (a1.length:U),pI 19 v4],[(2,([aI a0.Forecast.Tide.Mean,aM zD a0.Forecast.Tide.Parts,aM zE a0.Forecast.Surges,aM X7.row a0.Chart.Points,aM X2.row a0.Chart.Segments,aM X6.row a0.Fleet,aI a0.Regime.Gap,aB a0.Regime.NoMeet]++dm a0.Crew.row))],[]⟩ (A7 [4] [.sc (.v (.bool zr))])
theorem A41{a1 v4 a0 x6 y10 y11}{NR}(ow:TN a1 a0 NR){n:W}:dE a1 v4 a0 x6 y10 y11 (JX a1 v4 a0 x6 y10 y11 NR n):=by
 induction n with
 | zero=>intro _ r h; cases h
 | succ n ih=>
  intro v12 r h σ hσ;rw[JX] at h;have k0:= @ow;exact gc
theorem A42{a1 a0}{n:W}:TN a1 a0 (JW a1 a0 n):=by
 induction n with
 | zero=>intro _ r h; cases h
 | succ n ih=>
  intro v4 r h σ hσ;rw[JW] at h;have k0:= @A41;exact gc
instance A97:Ct 28 (∀{a0} {a1} {r},I7 a0 a1=N r→FC Z 28 [.ag (X4.row a0),.sc (.sl (Y zG a1))] [.sc (.v (.bool r))]):=by
 refine⟨fun h=> ?_⟩;unfold I7 at h;refine A4 mixed Sm [4] 43 ?_;have k0:= @A42;exact gc
/- 219:spec_l05Other -/
instance ZW:Ct 219 (∀{a0} {a1} {r},Nb a0 a1=N r→FC Z 219 [.ag (X2.row a0),.sc (.int .i64 a1)] [.sc (.v (.int .i64 r))]):=by
 refine⟨fun h=> ?_⟩;unfold Nb at h;refine A4 mixed h0 [4] 18 ?_;exact gc
/- 51:spec_l05Has -/
def Wt:Hw:=([(6,[1,7,8,9],[],[])],[])
def dt:=fun a1 a0 (k_:U→Q V)=>∀{v1} {zr},k_ v1=N zr→Kh Z 51 Wt 6 [1,7,8,9] [] [] ⟨[pI 1 a1,pL 7 rI a0,pI 8 (a0.length:U),pI 9 v1],[],[]⟩ (A7 [4] [.sc (.v (.bool zr))])
theorem A43{a1 a0}{n:W}:dt a1 a0 (Ix a1 a0 n):=by
 induction n with
 | zero=>intro _ r h; cases h
 | succ n ih=>
  intro v1 r h σ hσ;rw[Ix] at h;exact gc
instance ZV:Ct 51 (∀{a0} {a1} {r},Kf a0 a1=N r→FC Z 51 [.sc (.sl (Y rI a0)),.sc (.int .i64 a1)] [.sc (.v (.bool r))]):=by
 refine⟨fun h=> ?_⟩;unfold Kf at h;refine A4 mixed Wt [4] 17 ?_;have k0:= @A43;exact gc
/- 217:spec_l05Walk -/
def B2:P (P W × AItem):= [([],(O,.load 49 (S 5) T 2)),([],(O,.bslice 50 1 [.int .i64 0] 0 [])),([],(O,.mv 51 (S 1))),([1,2],(O,.app 52 1 8 (S 50) (S 51))),([],(O,.mv 53 (S 14))),([4],(O,.bslice 54 1 [.int .i64 0] 1 [(0,(S 53))])),([3,5,3],(O,.app 55 1 8 (S 52) (S 54))),([],(O,.bslice 56 1 [.int .i64 0] 0 [])),([],(O,.mv 57 (S 2))),([7,8,6],(O,.app 58 1 8 (S 56) (S 57))),([],(O,.mv 59 (S 12))),([10],(O,.bslice 60 1 [.int .i64 0] 1 [(0,(S 59))])),([9,11,9],(O,.app 61 1 8 (S 58) (S 60))),([],(O,.mv 62 (S 3))),([],(O,.mv 63 (S 4))),([0,6,12,13,14,12],(O,.call 64 217 [(S 49),(S 55),(S 61),(S 62),(S 63)])),([15,15,0,1,2,3,4,5,6,7,8,9,10,11,12,13,14,15],(O,.mv 4 (S 64)))]
def Qb:Hw:=([(16,[1,2,3,4,5,11,31,32,33],[5],[90000]),(31,[1,2,3,4,5,11,12,14,31,32,33,48],[5],[90000])],[(9,4,(O,.frz 1600))])
abbrev A8(a1 a2:P U)(a3 x1:U)(v5 r9:U)(a0:X1)(ws4_ wo1_:AV)(wo3_ wo6_:AV)(wo7_ wo9_:AV)(wo12_ wo14_ wu16_:AV)(c0_ c1_:V)(c2_ c3_:V)(c4_ c5_:V)(c6_ c7_:V)(c8_ c9_:V)(c10_ c11_:V)(c12_ c13_:V)(c14_ c15_:V)(bx_:P (W × P AC))(rs_:Rows):St:=⟨[(1,vc (aL (Y rI a1))),(2,vc (aL (Y rI a2))),(3,vc (aI a3)),(4,ws4_),(5,vc (.pb 5 0)),(11,vc (aI x1)),(12,vc (aI v5)),(14,vc (aI r9)),(31,vc (aL (Y X2.row a0.Segments))),(32,vc (aI (a0.Segments.length:U))),(33,vc (aI v5)),(49,bif c0_ then va [aL (Y X7.row a0.Points),aL (Y X2.row a0.Segments)] else .undef),(50,bif c1_ then wo1_ else .undef),(51,bif c2_ then vc (aL (Y rI a1)) else .undef),(52,bif c3_ then wo3_ else .undef),(53,bif c4_ then vc (aI r9) else .undef),(54,bif c5_ then vc (.own 3456) else .undef),(55,bif c6_ then wo6_ else .undef),(56,bif c7_ then wo7_ else .undef),(57,bif c8_ then vc (aL (Y rI a2)) else .undef),(58,bif c9_ then wo9_ else .undef),(59,bif c10_ then vc (aI v5) else .undef),(60,bif c11_ then vc (.own 3840) else .undef),(61,bif c12_ then wo12_ else .undef),(62,bif c13_ then vc (aI a3) else .undef),(63,bif c14_ then wo14_ else .undef),(64,bif c15_ then vc (.own 90000) else .undef),(4,wu16_)],bx_,rs_⟩
abbrev AW(a1 a2:P U)(a3 x1:U)(v5 r9:U)(a0:X1)(r18:(P (P U))):St:=(A8 a1 a2 a3 x1 v5 r9 a0 (vc (.own 90000)) (vc (.undef)) (vc (.undef)) (vc (aL (Y rI (a1++([r9]:P U))))) (vc (.undef)) (vc (.undef)) (vc (aL (Y rI (a2++([v5]:P U))))) (vc (.undef)) (vc (.own 90000)) T T T T T T T T T T T T T T T T [(5,[aL (Y X7.row a0.Points),aL (Y X2.row a0.Segments)])] [(90000,1,Y (rL rI) r18),(3456,1,Y rI ([r9]:P U)),(3840,1,Y rI ([v5]:P U))])
theorem A44(rec_:X1→(P U)→(P U)→U→(P (P U))→Q (P (P U)))(h_rec:∀(a0:X1) (a1 a2:P U) (a3:U) (a4:P (P U)) zr,rec_ a0 a1 a2 a3 a4=N zr→FCt Z 217 [.d (.ag (X1.row a0)),.d (.sc (.sl (Y rI a1))),.d (.sc (.sl (Y rI a2))),.d (.sc (.int .i64 a3)),.r] 1 (Y (rL rI) a4) (Y (rL rI) zr))(a1 a2:P U)(a3)(x1:U)(v5)(r9)(a0)(v6)(r18)(h14:(A3 ([]:P U).length a1.length 8)=T)(h15:(A3 a1.length ([r9]:P U).length 8)=T)(h16:(A3 ([]:P U).length a2.length 8)=T)(h17:(A3 a2.length ([v5]:P U).length 8)=T)(h18:rec_ a0 (a1++([r9]:P U)) (a2++([v5]:P U)) a3 v6=N r18):∀(f:W),Ab Z B2 (AW a1 a2 a3 x1 v5 r9 a0 r18) f [T,T,T,T,T,T,T,T,T,T,T,T,T,T,T,T,T] (A8 a1 a2 a3 x1 v5 r9 a0 (vc (.own 90000)) (vc (.undef)) (vc (.undef)) (vc (aL (Y rI (a1++([r9]:P U))))) (vc (.undef)) (vc (.undef)) (vc (aL (Y rI (a2++([v5]:P U))))) (vc (.undef)) (vc (.own 90000)) T T T T T T T T T T T T T T T T [(5,[aL (Y X7.row a0.Points),aL (Y X2.row a0.Segments)])] [(90000,1,Y (rL rI) r18),(3456,1,Y rI ([r9]:P U)),(3840,1,Y rI ([v5]:P U))]):=by
 intro f
 induction f with
 | zero=>intro h; rfl
 | succ f ih=>
  refine Ad ⟨?_,?_,?_,?_,?_,?_,?_,?_,?_,?_,?_,?_,?_,?_,?_,?_,?_,⟨⟩⟩<;>try first | (intro h; cases h; done)
theorem A45(rec_:X1→(P U)→(P U)→U→(P (P U))→Q (P (P U)))(h_rec:∀(a0:X1) (a1 a2:P U) (a3:U) (a4:P (P U)) zr,rec_ a0 a1 a2 a3 a4=N zr→FCt Z 217 [.d (.ag (X1.row a0)),.d (.sc (.sl (Y rI a1))),.d (.sc (.sl (Y rI a2))),.d (.sc (.int .i64 a3)),.r] 1 (Y (rL rI) a4) (Y (rL rI) zr))(a1 a2:P U)(a3)(x1:U)(v5)(r9)(a0)(v6)(r18)(h14:(A3 ([]:P U).length a1.length 8)=T)(h15:(A3 a1.length ([r9]:P U).length 8)=T)(h16:(A3 ([]:P U).length a2.length 8)=T)(h17:(A3 a2.length ([v5]:P U).length 8)=T)(h18:rec_ a0 (a1++([r9]:P U)) (a2++([v5]:P U)) a3 v6=N r18):∀(f:W),Ab Z B2 (AW a1 a2 a3 x1 v5 r9 a0 r18) f [T,T,T,T,T,T,T,T,T,T,T,T,T,T,T,T,L] (A8 a1 a2 a3 x1 v5 r9 a0 (vc (.undef)) (vc (.undef)) (vc (.undef)) (vc (aL (Y rI (a1++([r9]:P U))))) (vc (.undef)) (vc (.undef)) (vc (aL (Y rI (a2++([v5]:P U))))) (vc (.undef)) (vc (.undef)) T T T T T T T T T T T T T T T T [(5,[aL (Y X7.row a0.Points),aL (Y X2.row a0.Segments)])] [(90000,1,Y (rL rI) r18),(3456,1,Y rI ([r9]:P U)),(3840,1,Y rI ([v5]:P U))]):=by
 intro f
 induction f with
 | zero=>intro  h; simp at h
 | succ f ih=>
  refine Ad ⟨?_,?_,?_,?_,?_,?_,?_,?_,?_,?_,?_,?_,?_,?_,?_,?_,?_,⟨⟩⟩<;>try first | (intro h; cases h; done)
  ·intro h0 hw;refine⟨[],[(O,.keep [1,2,3,4,5,11,12,14,31,32,33,49,50,51,52,53,54,55,56,57,58,59,60,61,62,63,64,4] [5] [90000,3456,3840])],X,X,?_⟩;try simp only[A8,A5,A6,zA,I,A1,C,E,F,G,H,J]
   exact A44 rec_ h_rec a1 a2 a3 x1 v5 r9 a0 v6 r18 h14 h15 h16 h17 h18 _
theorem A46(rec_:X1→(P U)→(P U)→U→(P (P U))→Q (P (P U)))(h_rec:∀(a0:X1) (a1 a2:P U) (a3:U) (a4:P (P U)) zr,rec_ a0 a1 a2 a3 a4=N zr→FCt Z 217 [.d (.ag (X1.row a0)),.d (.sc (.sl (Y rI a1))),.d (.sc (.sl (Y rI a2))),.d (.sc (.int .i64 a3)),.r] 1 (Y (rL rI) a4) (Y (rL rI) zr))(a1 a2:P U)(a3)(x1:U)(v5)(r9)(a0)(v6)(r18)(h14:(A3 ([]:P U).length a1.length 8)=T)(h15:(A3 a1.length ([r9]:P U).length 8)=T)(h16:(A3 ([]:P U).length a2.length 8)=T)(h17:(A3 a2.length ([v5]:P U).length 8)=T)(h18:rec_ a0 (a1++([r9]:P U)) (a2++([v5]:P U)) a3 v6=N r18):∀(f:W) (b0 b13 b14:V),Ab Z B2 (AW a1 a2 a3 x1 v5 r9 a0 r18) f [b0,T,T,T,T,T,T,T,T,T,T,T,T,b13,b14,L,L] (A8 a1 a2 a3 x1 v5 r9 a0 (vc (.own 90000)) (vc (.undef)) (vc (.undef)) (vc (.own 3200)) (vc (.undef)) (vc (.undef)) (vc (.own 3584)) (vc (.own 90000)) (vc (.own 90000)) b0 T T T T T T T T T T T T b13 b14 L [(5,[aL (Y X7.row a0.Points),aL (Y X2.row a0.Segments)])] [(90000,1,Y (rL rI) v6),(3200,1,Y rI (a1++([r9]:P U))),(3456,1,Y rI ([r9]:P U)),(3584,1,Y rI (a2++([v5]:P U))),(3840,1,Y rI ([v5]:P U))]):=by
 intro f
 induction f with
 | zero=>intro b0 b13 b14 h; simp at h
 | succ f ih=>
  intro b0 b13 b14;refine Ad ⟨?_,?_,?_,?_,?_,?_,?_,?_,?_,?_,?_,?_,?_,?_,?_,?_,?_,⟨⟩⟩<;>try first | (intro h; cases h; done) | (intro _ hw; simp at hw; done) | (intro h0 hw; obtain rfl:=hz h0 rfl; refine np ?_; simp only[A8,A5,A6,A1,C,E,F,G,H,J]; exact ih _ _ _)
  ·intro h0 hw;obtain rfl:=hq hw 0 rfl rfl;obtain rfl:=hq hw 13 rfl rfl;obtain rfl:=hq hw 14 rfl rfl;refine⟨[(O,.frz 3200),(O,.frz 3584)],[(O,.ren 4096 90000),(O,.keep [1,2,3,4,5,11,12,14,31,32,33,49,50,51,52,53,54,55,56,57,58,59,60,61,62,63,64,4] [5] [90000,3456,3840])],X,X,?_⟩;try simp only[A8,A5,A6,zA,I,A1,C,E,F,G,H,J]
   refine CF ?_;try simp only[A1,C,E,F,G,H,J]
   refine CF ?_;try simp only[A1,C,E,F,G,H,J]
   refine Vn (h_rec _ _ _ _ _ _ h18) 90000 X X (by simp only[St.fresh,zB,zC,Ah]; simp[AV.cells,V1.cells,AC.uses]) X X ?_;rw[Ut];try simp only[A1,C,E,F,G,H,J]
   refine oI X X ?_;try simp only[A1,C,E,F,G,H,J]
   exact A45 rec_ h_rec a1 a2 a3 x1 v5 r9 a0 v6 r18 h14 h15 h16 h17 h18 _
theorem af(rec_:X1→(P U)→(P U)→U→(P (P U))→Q (P (P U)))(h_rec:∀(a0:X1) (a1 a2:P U) (a3:U) (a4:P (P U)) zr,rec_ a0 a1 a2 a3 a4=N zr→FCt Z 217 [.d (.ag (X1.row a0)),.d (.sc (.sl (Y rI a1))),.d (.sc (.sl (Y rI a2))),.d (.sc (.int .i64 a3)),.r] 1 (Y (rL rI) a4) (Y (rL rI) zr))(a1 a2:P U)(a3)(x1:U)(v5)(r9)(a0)(v6)(r18)(h14:(A3 ([]:P U).length a1.length 8)=T)(h15:(A3 a1.length ([r9]:P U).length 8)=T)(h16:(A3 ([]:P U).length a2.length 8)=T)(h17:(A3 a2.length ([v5]:P U).length 8)=T)(h18:rec_ a0 (a1++([r9]:P U)) (a2++([v5]:P U)) a3 v6=N r18):∀(f:W) (b0 b13 b14:V),Ab Z B2 (AW a1 a2 a3 x1 v5 r9 a0 r18) f [b0,T,T,T,T,T,T,T,T,T,T,T,L,b13,b14,L,L] (A8 a1 a2 a3 x1 v5 r9 a0 (vc (.own 90000)) (vc (.undef)) (vc (.undef)) (vc (.own 3200)) (vc (.undef)) (vc (.own 3584)) (vc (.own 3584)) (vc (.own 90000)) (vc (.own 90000)) b0 T T T T T T T T T T T L b13 b14 L [(5,[aL (Y X7.row a0.Points),aL (Y X2.row a0.Segments)])] [(90000,1,Y (rL rI) v6),(3200,1,Y rI (a1++([r9]:P U))),(3456,1,Y rI ([r9]:P U)),(3584,1,Y rI a2),(3840,1,Y rI ([v5]:P U))]):=by
 intro f
 induction f with
 | zero=>intro b0 b13 b14 h; simp at h
 | succ f ih=>
  intro b0 b13 b14;refine Ad ⟨?_,?_,?_,?_,?_,?_,?_,?_,?_,?_,?_,?_,?_,?_,?_,?_,?_,⟨⟩⟩<;>try first | (intro h; cases h; done) | (intro _ hw; simp at hw; done) | (intro h0 hw; obtain rfl:=hz h0 rfl; refine np ?_; simp only[A8,A5,A6,A1,C,E,F,G,H,J]; exact ih _ _ _)
  ·intro h0 hw;refine⟨[],[(O,.keep [1,2,3,4,5,11,12,14,31,32,33,49,50,51,52,53,54,55,56,57,58,59,60,61,62,63,64,4] [5] [90000,3200,3456,3584,3840])],X,X,?_⟩;try simp only[h17,A8,A5,A6,zA,I,A1,C,E,F,G,H,J]
   exact A46 rec_ h_rec a1 a2 a3 x1 v5 r9 a0 v6 r18 h14 h15 h16 h17 h18 _ b0 b13 b14
theorem A47(rec_:X1→(P U)→(P U)→U→(P (P U))→Q (P (P U)))(h_rec:∀(a0:X1) (a1 a2:P U) (a3:U) (a4:P (P U)) zr,rec_ a0 a1 a2 a3 a4=N zr→FCt Z 217 [.d (.ag (X1.row a0)),.d (.sc (.sl (Y rI a1))),.d (.sc (.sl (Y rI a2))),.d (.sc (.int .i64 a3)),.r] 1 (Y (rL rI) a4) (Y (rL rI) zr))(a1 a2:P U)(a3)(x1:U)(v5)(r9)(a0)(v6)(r18)(h14:(A3 ([]:P U).length a1.length 8)=T)(h15:(A3 a1.length ([r9]:P U).length 8)=T)(h16:(A3 ([]:P U).length a2.length 8)=T)(h17:(A3 a2.length ([v5]:P U).length 8)=T)(h18:rec_ a0 (a1++([r9]:P U)) (a2++([v5]:P U)) a3 v6=N r18):∀(f:W) (b0 b10:V) (b13 b14:V),Ab Z B2 (AW a1 a2 a3 x1 v5 r9 a0 r18) f [b0,T,T,T,T,T,T,T,T,T,b10,L,L,b13,b14,L,L] (A8 a1 a2 a3 x1 v5 r9 a0 (vc (.own 90000)) (vc (.undef)) (vc (.undef)) (vc (.own 3200)) (vc (.undef)) (vc (.own 3584)) (vc (.own 3584)) (vc (.own 90000)) (vc (.own 90000)) b0 T T T T T T T T T b10 L L b13 b14 L [(5,[aL (Y X7.row a0.Points),aL (Y X2.row a0.Segments)])] [(90000,1,Y (rL rI) v6),(3200,1,Y rI (a1++([r9]:P U))),(3456,1,Y rI ([r9]:P U)),(3584,1,Y rI a2)]):=by
 intro f
 induction f with
 | zero=>intro b0 b10 b13 b14 h; simp at h
 | succ f ih=>
  intro b0 b10 b13 b14;refine Ad ⟨?_,?_,?_,?_,?_,?_,?_,?_,?_,?_,?_,?_,?_,?_,?_,?_,?_,⟨⟩⟩<;>try first | (intro h; cases h; done) | (intro _ hw; simp at hw; done) | (intro h0 hw; obtain rfl:=hz h0 rfl; refine np ?_; simp only[A8,A5,A6,A1,C,E,F,G,H,J]; exact ih _ _ _ _)
  ·intro h0 hw;obtain rfl:=hq hw 10 rfl rfl;refine⟨[],[(O,.keep [1,2,3,4,5,11,12,14,31,32,33,49,50,51,52,53,54,55,56,57,58,59,60,61,62,63,64,4] [5] [90000,3200,3456,3584,3840])],X,X,?_⟩;try simp only[A8,A5,A6,zA,I,A1,C,E,F,G,H,J]
   refine Am (es:=Y rI ([v5]:P U)) X (by simp only[St.fresh,zB,zC,Ah]; simp[AV.cells,V1.cells,AC.uses]) ?_;try simp only[A1,C,E,F,G,H,J]
   exact af rec_ h_rec a1 a2 a3 x1 v5 r9 a0 v6 r18 h14 h15 h16 h17 h18 _ b0 b13 b14
theorem Tl(rec_:X1→(P U)→(P U)→U→(P (P U))→Q (P (P U)))(h_rec:∀(a0:X1) (a1 a2:P U) (a3:U) (a4:P (P U)) zr,rec_ a0 a1 a2 a3 a4=N zr→FCt Z 217 [.d (.ag (X1.row a0)),.d (.sc (.sl (Y rI a1))),.d (.sc (.sl (Y rI a2))),.d (.sc (.int .i64 a3)),.r] 1 (Y (rL rI) a4) (Y (rL rI) zr))(a1 a2:P U)(a3)(x1:U)(v5)(r9)(a0)(v6)(r18)(h14:(A3 ([]:P U).length a1.length 8)=T)(h15:(A3 a1.length ([r9]:P U).length 8)=T)(h16:(A3 ([]:P U).length a2.length 8)=T)(h17:(A3 a2.length ([v5]:P U).length 8)=T)(h18:rec_ a0 (a1++([r9]:P U)) (a2++([v5]:P U)) a3 v6=N r18):∀(f:W) (b0 b8:V) (b13 b14:V),Ab Z B2 (AW a1 a2 a3 x1 v5 r9 a0 r18) f [b0,T,T,T,T,T,T,T,b8,L,T,T,L,b13,b14,L,L] (A8 a1 a2 a3 x1 v5 r9 a0 (vc (.own 90000)) (vc (.undef)) (vc (.undef)) (vc (.own 3200)) (vc (.own 3584)) (vc (.own 3584)) (vc (.own 3584)) (vc (.own 90000)) (vc (.own 90000)) b0 T T T T T T T b8 L T T L b13 b14 L [(5,[aL (Y X7.row a0.Points),aL (Y X2.row a0.Segments)])] [(90000,1,Y (rL rI) v6),(3200,1,Y rI (a1++([r9]:P U))),(3456,1,Y rI ([r9]:P U)),(3584,1,Y rI ([]:P U)),(3840,1,Y rI ([v5]:P U))]):=by
 intro f
 induction f with
 | zero=>intro b0 b8 b13 b14 h; simp at h
 | succ f ih=>
  intro b0 b8 b13 b14;refine Ad ⟨?_,?_,?_,?_,?_,?_,?_,?_,?_,?_,?_,?_,?_,?_,?_,?_,?_,⟨⟩⟩<;>try first | (intro h; cases h; done) | (intro _ hw; simp at hw; done) | (intro h0 hw; obtain rfl:=hz h0 rfl; refine np ?_; simp only[A8,A5,A6,A1,C,E,F,G,H,J]; exact ih _ _ _ _)
  ·intro h0 hw;obtain rfl:=hq hw 8 rfl rfl;refine⟨[],[(O,.keep [1,2,3,4,5,11,12,14,31,32,33,49,50,51,52,53,54,55,56,57,58,59,60,61,62,63,64,4] [5] [90000,3200,3456,3584,3840])],X,X,?_⟩;try simp only[h16,A8,A5,A6,zA,I,A1,C,E,F,G,H,J]
   exact af rec_ h_rec a1 a2 a3 x1 v5 r9 a0 v6 r18 h14 h15 h16 h17 h18 _ b0 b13 b14
theorem ah(rec_:X1→(P U)→(P U)→U→(P (P U))→Q (P (P U)))(h_rec:∀(a0:X1) (a1 a2:P U) (a3:U) (a4:P (P U)) zr,rec_ a0 a1 a2 a3 a4=N zr→FCt Z 217 [.d (.ag (X1.row a0)),.d (.sc (.sl (Y rI a1))),.d (.sc (.sl (Y rI a2))),.d (.sc (.int .i64 a3)),.r] 1 (Y (rL rI) a4) (Y (rL rI) zr))(a1 a2:P U)(a3)(x1:U)(v5)(r9)(a0)(v6)(r18)(h14:(A3 ([]:P U).length a1.length 8)=T)(h15:(A3 a1.length ([r9]:P U).length 8)=T)(h16:(A3 ([]:P U).length a2.length 8)=T)(h17:(A3 a2.length ([v5]:P U).length 8)=T)(h18:rec_ a0 (a1++([r9]:P U)) (a2++([v5]:P U)) a3 v6=N r18):∀(f:W) (b0 b8:V) (b10 b13 b14:V),Ab Z B2 (AW a1 a2 a3 x1 v5 r9 a0 r18) f [b0,T,T,T,T,T,T,T,b8,L,b10,L,L,b13,b14,L,L] (A8 a1 a2 a3 x1 v5 r9 a0 (vc (.own 90000)) (vc (.undef)) (vc (.undef)) (vc (.own 3200)) (vc (.own 3584)) (vc (.own 3584)) (vc (.own 3584)) (vc (.own 90000)) (vc (.own 90000)) b0 T T T T T T T b8 L b10 L L b13 b14 L [(5,[aL (Y X7.row a0.Points),aL (Y X2.row a0.Segments)])] [(90000,1,Y (rL rI) v6),(3200,1,Y rI (a1++([r9]:P U))),(3456,1,Y rI ([r9]:P U)),(3584,1,Y rI ([]:P U))]):=by
 intro f
 induction f with
 | zero=>intro b0 b8 b10 b13 b14 h; simp at h
 | succ f ih=>
  intro b0 b8 b10 b13 b14;refine Ad ⟨?_,?_,?_,?_,?_,?_,?_,?_,?_,?_,?_,?_,?_,?_,?_,?_,?_,⟨⟩⟩<;>try first | (intro h; cases h; done) | (intro _ hw; simp at hw; done) | (intro h0 hw; obtain rfl:=hz h0 rfl; refine np ?_; simp only[A8,A5,A6,A1,C,E,F,G,H,J]; exact ih _ _ _ _ _)
  ·intro h0 hw;obtain rfl:=hq hw 8 rfl rfl;refine⟨[],[(O,.keep [1,2,3,4,5,11,12,14,31,32,33,49,50,51,52,53,54,55,56,57,58,59,60,61,62,63,64,4] [5] [90000,3200,3456,3584])],X,X,?_⟩;try simp only[h16,A8,A5,A6,zA,I,A1,C,E,F,G,H,J]
   exact A47 rec_ h_rec a1 a2 a3 x1 v5 r9 a0 v6 r18 h14 h15 h16 h17 h18 _ b0 b10 b13 b14
  ·intro h0 hw;obtain rfl:=hq hw 10 rfl rfl;refine⟨[],[(O,.keep [1,2,3,4,5,11,12,14,31,32,33,49,50,51,52,53,54,55,56,57,58,59,60,61,62,63,64,4] [5] [90000,3200,3456,3584,3840])],X,X,?_⟩;try simp only[A8,A5,A6,zA,I,A1,C,E,F,G,H,J]
   refine Am (es:=Y rI ([v5]:P U)) X (by simp only[St.fresh,zB,zC,Ah]; simp[AV.cells,V1.cells,AC.uses]) ?_;try simp only[A1,C,E,F,G,H,J]
   exact Tl rec_ h_rec a1 a2 a3 x1 v5 r9 a0 v6 r18 h14 h15 h16 h17 h18 _ b0 b8 b13 b14
theorem aj(rec_:X1→(P U)→(P U)→U→(P (P U))→Q (P (P U)))(h_rec:∀(a0:X1) (a1 a2:P U) (a3:U) (a4:P (P U)) zr,rec_ a0 a1 a2 a3 a4=N zr→FCt Z 217 [.d (.ag (X1.row a0)),.d (.sc (.sl (Y rI a1))),.d (.sc (.sl (Y rI a2))),.d (.sc (.int .i64 a3)),.r] 1 (Y (rL rI) a4) (Y (rL rI) zr))(a1 a2:P U)(a3)(x1:U)(v5)(r9)(a0)(v6)(r18)(h14:(A3 ([]:P U).length a1.length 8)=T)(h15:(A3 a1.length ([r9]:P U).length 8)=T)(h16:(A3 ([]:P U).length a2.length 8)=T)(h17:(A3 a2.length ([v5]:P U).length 8)=T)(h18:rec_ a0 (a1++([r9]:P U)) (a2++([v5]:P U)) a3 v6=N r18):∀(f:W) (b0 b8:V) (b13 b14:V),Ab Z B2 (AW a1 a2 a3 x1 v5 r9 a0 r18) f [b0,T,T,T,T,T,T,L,b8,L,T,T,L,b13,b14,L,L] (A8 a1 a2 a3 x1 v5 r9 a0 (vc (.own 90000)) (vc (.undef)) (vc (.undef)) (vc (.own 3200)) (vc (.own 3584)) (vc (.own 3584)) (vc (.own 3584)) (vc (.own 90000)) (vc (.own 90000)) b0 T T T T T T L b8 L T T L b13 b14 L [(5,[aL (Y X7.row a0.Points),aL (Y X2.row a0.Segments)])] [(90000,1,Y (rL rI) v6),(3200,1,Y rI (a1++([r9]:P U))),(3456,1,Y rI ([r9]:P U)),(3840,1,Y rI ([v5]:P U))]):=by
 intro f
 induction f with
 | zero=>intro b0 b8 b13 b14 h; simp at h
 | succ f ih=>
  intro b0 b8 b13 b14;refine Ad ⟨?_,?_,?_,?_,?_,?_,?_,?_,?_,?_,?_,?_,?_,?_,?_,?_,?_,⟨⟩⟩<;>try first | (intro h; cases h; done) | (intro _ hw; simp at hw; done) | (intro h0 hw; obtain rfl:=hz h0 rfl; refine np ?_; simp only[A8,A5,A6,A1,C,E,F,G,H,J]; exact ih _ _ _ _)
  ·intro h0 hw;refine⟨[],[(O,.keep [1,2,3,4,5,11,12,14,31,32,33,49,50,51,52,53,54,55,56,57,58,59,60,61,62,63,64,4] [5] [90000,3200,3456,3584,3840])],X,X,?_⟩;try simp only[A8,A5,A6,zA,I,A1,C,E,F,G,H,J]
   refine Am (es:=Y rI ([]:P U)) X (by simp only[St.fresh,zB,zC,Ah]; simp[AV.cells,V1.cells,AC.uses]) ?_;try simp only[A1,C,E,F,G,H,J]
   exact Tl rec_ h_rec a1 a2 a3 x1 v5 r9 a0 v6 r18 h14 h15 h16 h17 h18 _ b0 b8 b13 b14
theorem QX(rec_:X1→(P U)→(P U)→U→(P (P U))→Q (P (P U)))(h_rec:∀(a0:X1) (a1 a2:P U) (a3:U) (a4:P (P U)) zr,rec_ a0 a1 a2 a3 a4=N zr→FCt Z 217 [.d (.ag (X1.row a0)),.d (.sc (.sl (Y rI a1))),.d (.sc (.sl (Y rI a2))),.d (.sc (.int .i64 a3)),.r] 1 (Y (rL rI) a4) (Y (rL rI) zr))(a1 a2:P U)(a3)(x1:U)(v5)(r9)(a0)(v6)(r18)(h14:(A3 ([]:P U).length a1.length 8)=T)(h15:(A3 a1.length ([r9]:P U).length 8)=T)(h16:(A3 ([]:P U).length a2.length 8)=T)(h17:(A3 a2.length ([v5]:P U).length 8)=T)(h18:rec_ a0 (a1++([r9]:P U)) (a2++([v5]:P U)) a3 v6=N r18):∀(f:W) (b0 b8:V) (b13 b14:V),Ab Z B2 (AW a1 a2 a3 x1 v5 r9 a0 r18) f [b0,T,T,T,T,T,L,T,b8,L,T,T,L,b13,b14,L,L] (A8 a1 a2 a3 x1 v5 r9 a0 (vc (.own 90000)) (vc (.undef)) (vc (.own 3200)) (vc (.own 3200)) (vc (.own 3584)) (vc (.own 3584)) (vc (.own 3584)) (vc (.own 90000)) (vc (.own 90000)) b0 T T T T T L T b8 L T T L b13 b14 L [(5,[aL (Y X7.row a0.Points),aL (Y X2.row a0.Segments)])] [(90000,1,Y (rL rI) v6),(3200,1,Y rI a1),(3456,1,Y rI ([r9]:P U)),(3584,1,Y rI ([]:P U)),(3840,1,Y rI ([v5]:P U))]):=by
 intro f
 induction f with
 | zero=>intro b0 b8 b13 b14 h; simp at h
 | succ f ih=>
  intro b0 b8 b13 b14;refine Ad ⟨?_,?_,?_,?_,?_,?_,?_,?_,?_,?_,?_,?_,?_,?_,?_,?_,?_,⟨⟩⟩<;>try first | (intro h; cases h; done) | (intro _ hw; simp at hw; done) | (intro h0 hw; obtain rfl:=hz h0 rfl; refine np ?_; simp only[A8,A5,A6,A1,C,E,F,G,H,J]; exact ih _ _ _ _)
  ·intro h0 hw;refine⟨[],[(O,.keep [1,2,3,4,5,11,12,14,31,32,33,49,50,51,52,53,54,55,56,57,58,59,60,61,62,63,64,4] [5] [90000,3200,3456,3584,3840])],X,X,?_⟩;try simp only[h15,A8,A5,A6,zA,I,A1,C,E,F,G,H,J]
   exact Tl rec_ h_rec a1 a2 a3 x1 v5 r9 a0 v6 r18 h14 h15 h16 h17 h18 _ b0 b8 b13 b14
theorem A49(rec_:X1→(P U)→(P U)→U→(P (P U))→Q (P (P U)))(h_rec:∀(a0:X1) (a1 a2:P U) (a3:U) (a4:P (P U)) zr,rec_ a0 a1 a2 a3 a4=N zr→FCt Z 217 [.d (.ag (X1.row a0)),.d (.sc (.sl (Y rI a1))),.d (.sc (.sl (Y rI a2))),.d (.sc (.int .i64 a3)),.r] 1 (Y (rL rI) a4) (Y (rL rI) zr))(a1 a2:P U)(a3)(x1:U)(v5)(r9)(a0)(v6)(r18)(h14:(A3 ([]:P U).length a1.length 8)=T)(h15:(A3 a1.length ([r9]:P U).length 8)=T)(h16:(A3 ([]:P U).length a2.length 8)=T)(h17:(A3 a2.length ([v5]:P U).length 8)=T)(h18:rec_ a0 (a1++([r9]:P U)) (a2++([v5]:P U)) a3 v6=N r18):∀(f:W) (b0 b8:V) (b10 b13 b14:V),Ab Z B2 (AW a1 a2 a3 x1 v5 r9 a0 r18) f [b0,T,T,T,T,T,T,L,b8,L,b10,L,L,b13,b14,L,L] (A8 a1 a2 a3 x1 v5 r9 a0 (vc (.own 90000)) (vc (.undef)) (vc (.undef)) (vc (.own 3200)) (vc (.own 3584)) (vc (.own 3584)) (vc (.own 3584)) (vc (.own 90000)) (vc (.own 90000)) b0 T T T T T T L b8 L b10 L L b13 b14 L [(5,[aL (Y X7.row a0.Points),aL (Y X2.row a0.Segments)])] [(90000,1,Y (rL rI) v6),(3200,1,Y rI (a1++([r9]:P U))),(3456,1,Y rI ([r9]:P U))]):=by
 intro f
 induction f with
 | zero=>intro b0 b8 b10 b13 b14 h; simp at h
 | succ f ih=>
  intro b0 b8 b10 b13 b14;refine Ad ⟨?_,?_,?_,?_,?_,?_,?_,?_,?_,?_,?_,?_,?_,?_,?_,?_,?_,⟨⟩⟩<;>try first | (intro h; cases h; done) | (intro _ hw; simp at hw; done) | (intro h0 hw; obtain rfl:=hz h0 rfl; refine np ?_; simp only[A8,A5,A6,A1,C,E,F,G,H,J]; exact ih _ _ _ _ _)
  ·intro h0 hw;refine⟨[],[(O,.keep [1,2,3,4,5,11,12,14,31,32,33,49,50,51,52,53,54,55,56,57,58,59,60,61,62,63,64,4] [5] [90000,3200,3456,3584])],X,X,?_⟩;try simp only[A8,A5,A6,zA,I,A1,C,E,F,G,H,J]
   refine Am (es:=Y rI ([]:P U)) X (by simp only[St.fresh,zB,zC,Ah]; simp[AV.cells,V1.cells,AC.uses]) ?_;try simp only[A1,C,E,F,G,H,J]
   exact ah rec_ h_rec a1 a2 a3 x1 v5 r9 a0 v6 r18 h14 h15 h16 h17 h18 _ b0 b8 b10 b13 b14
  ·intro h0 hw;obtain rfl:=hq hw 10 rfl rfl;refine⟨[],[(O,.keep [1,2,3,4,5,11,12,14,31,32,33,49,50,51,52,53,54,55,56,57,58,59,60,61,62,63,64,4] [5] [90000,3200,3456,3840])],X,X,?_⟩;try simp only[A8,A5,A6,zA,I,A1,C,E,F,G,H,J]
   refine Am (es:=Y rI ([v5]:P U)) X (by simp only[St.fresh,zB,zC,Ah]; simp[AV.cells,V1.cells,AC.uses]) ?_;try simp only[A1,C,E,F,G,H,J]
   exact aj rec_ h_rec a1 a2 a3 x1 v5 r9 a0 v6 r18 h14 h15 h16 h17 h18 _ b0 b8 b13 b14
theorem Tm(rec_:X1→(P U)→(P U)→U→(P (P U))→Q (P (P U)))(h_rec:∀(a0:X1) (a1 a2:P U) (a3:U) (a4:P (P U)) zr,rec_ a0 a1 a2 a3 a4=N zr→FCt Z 217 [.d (.ag (X1.row a0)),.d (.sc (.sl (Y rI a1))),.d (.sc (.sl (Y rI a2))),.d (.sc (.int .i64 a3)),.r] 1 (Y (rL rI) a4) (Y (rL rI) zr))(a1 a2:P U)(a3)(x1:U)(v5)(r9)(a0)(v6)(r18)(h14:(A3 ([]:P U).length a1.length 8)=T)(h15:(A3 a1.length ([r9]:P U).length 8)=T)(h16:(A3 ([]:P U).length a2.length 8)=T)(h17:(A3 a2.length ([v5]:P U).length 8)=T)(h18:rec_ a0 (a1++([r9]:P U)) (a2++([v5]:P U)) a3 v6=N r18):∀(f:W) (b0 b8:V) (b10 b13 b14:V),Ab Z B2 (AW a1 a2 a3 x1 v5 r9 a0 r18) f [b0,T,T,T,T,T,L,T,b8,L,b10,L,L,b13,b14,L,L] (A8 a1 a2 a3 x1 v5 r9 a0 (vc (.own 90000)) (vc (.undef)) (vc (.own 3200)) (vc (.own 3200)) (vc (.own 3584)) (vc (.own 3584)) (vc (.own 3584)) (vc (.own 90000)) (vc (.own 90000)) b0 T T T T T L T b8 L b10 L L b13 b14 L [(5,[aL (Y X7.row a0.Points),aL (Y X2.row a0.Segments)])] [(90000,1,Y (rL rI) v6),(3200,1,Y rI a1),(3456,1,Y rI ([r9]:P U)),(3584,1,Y rI ([]:P U))]):=by
 intro f
 induction f with
 | zero=>intro b0 b8 b10 b13 b14 h; simp at h
 | succ f ih=>
  intro b0 b8 b10 b13 b14;refine Ad ⟨?_,?_,?_,?_,?_,?_,?_,?_,?_,?_,?_,?_,?_,?_,?_,?_,?_,⟨⟩⟩<;>try first | (intro h; cases h; done) | (intro _ hw; simp at hw; done) | (intro h0 hw; obtain rfl:=hz h0 rfl; refine np ?_; simp only[A8,A5,A6,A1,C,E,F,G,H,J]; exact ih _ _ _ _ _)
  ·intro h0 hw;refine⟨[],[(O,.keep [1,2,3,4,5,11,12,14,31,32,33,49,50,51,52,53,54,55,56,57,58,59,60,61,62,63,64,4] [5] [90000,3200,3456,3584])],X,X,?_⟩;try simp only[h15,A8,A5,A6,zA,I,A1,C,E,F,G,H,J]
   exact ah rec_ h_rec a1 a2 a3 x1 v5 r9 a0 v6 r18 h14 h15 h16 h17 h18 _ b0 b8 b10 b13 b14
  ·intro h0 hw;obtain rfl:=hq hw 10 rfl rfl;refine⟨[],[(O,.keep [1,2,3,4,5,11,12,14,31,32,33,49,50,51,52,53,54,55,56,57,58,59,60,61,62,63,64,4] [5] [90000,3200,3456,3584,3840])],X,X,?_⟩;try simp only[A8,A5,A6,zA,I,A1,C,E,F,G,H,J]
   refine Am (es:=Y rI ([v5]:P U)) X (by simp only[St.fresh,zB,zC,Ah]; simp[AV.cells,V1.cells,AC.uses]) ?_;try simp only[A1,C,E,F,G,H,J]
   exact QX rec_ h_rec a1 a2 a3 x1 v5 r9 a0 v6 r18 h14 h15 h16 h17 h18 _ b0 b8 b13 b14
theorem Tn(rec_:X1→(P U)→(P U)→U→(P (P U))→Q (P (P U)))(h_rec:∀(a0:X1) (a1 a2:P U) (a3:U) (a4:P (P U)) zr,rec_ a0 a1 a2 a3 a4=N zr→FCt Z 217 [.d (.ag (X1.row a0)),.d (.sc (.sl (Y rI a1))),.d (.sc (.sl (Y rI a2))),.d (.sc (.int .i64 a3)),.r] 1 (Y (rL rI) a4) (Y (rL rI) zr))(a1 a2:P U)(a3)(x1:U)(v5)(r9)(a0)(v6)(r18)(h14:(A3 ([]:P U).length a1.length 8)=T)(h15:(A3 a1.length ([r9]:P U).length 8)=T)(h16:(A3 ([]:P U).length a2.length 8)=T)(h17:(A3 a2.length ([v5]:P U).length 8)=T)(h18:rec_ a0 (a1++([r9]:P U)) (a2++([v5]:P U)) a3 v6=N r18):∀(f:W) (b0 b8:V) (b13 b14:V),Ab Z B2 (AW a1 a2 a3 x1 v5 r9 a0 r18) f [b0,T,T,T,T,T,L,L,b8,L,T,T,L,b13,b14,L,L] (A8 a1 a2 a3 x1 v5 r9 a0 (vc (.own 90000)) (vc (.undef)) (vc (.own 3200)) (vc (.own 3200)) (vc (.own 3584)) (vc (.own 3584)) (vc (.own 3584)) (vc (.own 90000)) (vc (.own 90000)) b0 T T T T T L L b8 L T T L b13 b14 L [(5,[aL (Y X7.row a0.Points),aL (Y X2.row a0.Segments)])] [(90000,1,Y (rL rI) v6),(3200,1,Y rI a1),(3456,1,Y rI ([r9]:P U)),(3840,1,Y rI ([v5]:P U))]):=by
 intro f
 induction f with
 | zero=>intro b0 b8 b13 b14 h; simp at h
 | succ f ih=>
  intro b0 b8 b13 b14;refine Ad ⟨?_,?_,?_,?_,?_,?_,?_,?_,?_,?_,?_,?_,?_,?_,?_,?_,?_,⟨⟩⟩<;>try first | (intro h; cases h; done) | (intro _ hw; simp at hw; done) | (intro h0 hw; obtain rfl:=hz h0 rfl; refine np ?_; simp only[A8,A5,A6,A1,C,E,F,G,H,J]; exact ih _ _ _ _)
  ·intro h0 hw;refine⟨[],[(O,.keep [1,2,3,4,5,11,12,14,31,32,33,49,50,51,52,53,54,55,56,57,58,59,60,61,62,63,64,4] [5] [90000,3200,3456,3840])],X,X,?_⟩;try simp only[h15,A8,A5,A6,zA,I,A1,C,E,F,G,H,J]
   exact aj rec_ h_rec a1 a2 a3 x1 v5 r9 a0 v6 r18 h14 h15 h16 h17 h18 _ b0 b8 b13 b14
  ·intro h0 hw;refine⟨[],[(O,.keep [1,2,3,4,5,11,12,14,31,32,33,49,50,51,52,53,54,55,56,57,58,59,60,61,62,63,64,4] [5] [90000,3200,3456,3584,3840])],X,X,?_⟩;try simp only[A8,A5,A6,zA,I,A1,C,E,F,G,H,J]
   refine Am (es:=Y rI ([]:P U)) X (by simp only[St.fresh,zB,zC,Ah]; simp[AV.cells,V1.cells,AC.uses]) ?_;try simp only[A1,C,E,F,G,H,J]
   exact QX rec_ h_rec a1 a2 a3 x1 v5 r9 a0 v6 r18 h14 h15 h16 h17 h18 _ b0 b8 b13 b14
theorem Tp(rec_:X1→(P U)→(P U)→U→(P (P U))→Q (P (P U)))(h_rec:∀(a0:X1) (a1 a2:P U) (a3:U) (a4:P (P U)) zr,rec_ a0 a1 a2 a3 a4=N zr→FCt Z 217 [.d (.ag (X1.row a0)),.d (.sc (.sl (Y rI a1))),.d (.sc (.sl (Y rI a2))),.d (.sc (.int .i64 a3)),.r] 1 (Y (rL rI) a4) (Y (rL rI) zr))(a1 a2:P U)(a3)(x1:U)(v5)(r9)(a0)(v6)(r18)(h14:(A3 ([]:P U).length a1.length 8)=T)(h15:(A3 a1.length ([r9]:P U).length 8)=T)(h16:(A3 ([]:P U).length a2.length 8)=T)(h17:(A3 a2.length ([v5]:P U).length 8)=T)(h18:rec_ a0 (a1++([r9]:P U)) (a2++([v5]:P U)) a3 v6=N r18):∀(f:W) (b0 b4:V) (b8 b13 b14:V),Ab Z B2 (AW a1 a2 a3 x1 v5 r9 a0 r18) f [b0,T,T,T,b4,L,L,T,b8,L,T,T,L,b13,b14,L,L] (A8 a1 a2 a3 x1 v5 r9 a0 (vc (.own 90000)) (vc (.undef)) (vc (.own 3200)) (vc (.own 3200)) (vc (.own 3584)) (vc (.own 3584)) (vc (.own 3584)) (vc (.own 90000)) (vc (.own 90000)) b0 T T T b4 L L T b8 L T T L b13 b14 L [(5,[aL (Y X7.row a0.Points),aL (Y X2.row a0.Segments)])] [(90000,1,Y (rL rI) v6),(3200,1,Y rI a1),(3584,1,Y rI ([]:P U)),(3840,1,Y rI ([v5]:P U))]):=by
 intro f
 induction f with
 | zero=>intro b0 b4 b8 b13 b14 h; simp at h
 | succ f ih=>
  intro b0 b4 b8 b13 b14;refine Ad ⟨?_,?_,?_,?_,?_,?_,?_,?_,?_,?_,?_,?_,?_,?_,?_,?_,?_,⟨⟩⟩<;>try first | (intro h; cases h; done) | (intro _ hw; simp at hw; done) | (intro h0 hw; obtain rfl:=hz h0 rfl; refine np ?_; simp only[A8,A5,A6,A1,C,E,F,G,H,J]; exact ih _ _ _ _ _)
  ·intro h0 hw;obtain rfl:=hq hw 4 rfl rfl;refine⟨[],[(O,.keep [1,2,3,4,5,11,12,14,31,32,33,49,50,51,52,53,54,55,56,57,58,59,60,61,62,63,64,4] [5] [90000,3200,3456,3584,3840])],X,X,?_⟩;try simp only[A8,A5,A6,zA,I,A1,C,E,F,G,H,J]
   refine Am (es:=Y rI ([r9]:P U)) X (by simp only[St.fresh,zB,zC,Ah]; simp[AV.cells,V1.cells,AC.uses]) ?_;try simp only[A1,C,E,F,G,H,J]
   exact QX rec_ h_rec a1 a2 a3 x1 v5 r9 a0 v6 r18 h14 h15 h16 h17 h18 _ b0 b8 b13 b14
theorem QY(rec_:X1→(P U)→(P U)→U→(P (P U))→Q (P (P U)))(h_rec:∀(a0:X1) (a1 a2:P U) (a3:U) (a4:P (P U)) zr,rec_ a0 a1 a2 a3 a4=N zr→FCt Z 217 [.d (.ag (X1.row a0)),.d (.sc (.sl (Y rI a1))),.d (.sc (.sl (Y rI a2))),.d (.sc (.int .i64 a3)),.r] 1 (Y (rL rI) a4) (Y (rL rI) zr))(a1 a2:P U)(a3)(x1:U)(v5)(r9)(a0)(v6)(r18)(h14:(A3 ([]:P U).length a1.length 8)=T)(h15:(A3 a1.length ([r9]:P U).length 8)=T)(h16:(A3 ([]:P U).length a2.length 8)=T)(h17:(A3 a2.length ([v5]:P U).length 8)=T)(h18:rec_ a0 (a1++([r9]:P U)) (a2++([v5]:P U)) a3 v6=N r18):∀(f:W) (b0 b2:V) (b8 b13 b14:V),Ab Z B2 (AW a1 a2 a3 x1 v5 r9 a0 r18) f [b0,T,b2,L,T,T,L,T,b8,L,T,T,L,b13,b14,L,L] (A8 a1 a2 a3 x1 v5 r9 a0 (vc (.own 90000)) (vc (.own 3200)) (vc (.own 3200)) (vc (.own 3200)) (vc (.own 3584)) (vc (.own 3584)) (vc (.own 3584)) (vc (.own 90000)) (vc (.own 90000)) b0 T b2 L T T L T b8 L T T L b13 b14 L [(5,[aL (Y X7.row a0.Points),aL (Y X2.row a0.Segments)])] [(90000,1,Y (rL rI) v6),(3200,1,Y rI ([]:P U)),(3456,1,Y rI ([r9]:P U)),(3584,1,Y rI ([]:P U)),(3840,1,Y rI ([v5]:P U))]):=by
 intro f
 induction f with
 | zero=>intro b0 b2 b8 b13 b14 h; simp at h
 | succ f ih=>
  intro b0 b2 b8 b13 b14;refine Ad ⟨?_,?_,?_,?_,?_,?_,?_,?_,?_,?_,?_,?_,?_,?_,?_,?_,?_,⟨⟩⟩<;>try first | (intro h; cases h; done) | (intro _ hw; simp at hw; done) | (intro h0 hw; obtain rfl:=hz h0 rfl; refine np ?_; simp only[A8,A5,A6,A1,C,E,F,G,H,J]; exact ih _ _ _ _ _)
  ·intro h0 hw;obtain rfl:=hq hw 2 rfl rfl;refine⟨[],[(O,.keep [1,2,3,4,5,11,12,14,31,32,33,49,50,51,52,53,54,55,56,57,58,59,60,61,62,63,64,4] [5] [90000,3200,3456,3584,3840])],X,X,?_⟩;try simp only[h14,A8,A5,A6,zA,I,A1,C,E,F,G,H,J]
   exact QX rec_ h_rec a1 a2 a3 x1 v5 r9 a0 v6 r18 h14 h15 h16 h17 h18 _ b0 b8 b13 b14
theorem ak(rec_:X1→(P U)→(P U)→U→(P (P U))→Q (P (P U)))(h_rec:∀(a0:X1) (a1 a2:P U) (a3:U) (a4:P (P U)) zr,rec_ a0 a1 a2 a3 a4=N zr→FCt Z 217 [.d (.ag (X1.row a0)),.d (.sc (.sl (Y rI a1))),.d (.sc (.sl (Y rI a2))),.d (.sc (.int .i64 a3)),.r] 1 (Y (rL rI) a4) (Y (rL rI) zr))(a1 a2:P U)(a3)(x1:U)(v5)(r9)(a0)(v6)(r18)(h14:(A3 ([]:P U).length a1.length 8)=T)(h15:(A3 a1.length ([r9]:P U).length 8)=T)(h16:(A3 ([]:P U).length a2.length 8)=T)(h17:(A3 a2.length ([v5]:P U).length 8)=T)(h18:rec_ a0 (a1++([r9]:P U)) (a2++([v5]:P U)) a3 v6=N r18):∀(f:W) (b0 b8:V) (b10 b13 b14:V),Ab Z B2 (AW a1 a2 a3 x1 v5 r9 a0 r18) f [b0,T,T,T,T,T,L,L,b8,L,b10,L,L,b13,b14,L,L] (A8 a1 a2 a3 x1 v5 r9 a0 (vc (.own 90000)) (vc (.undef)) (vc (.own 3200)) (vc (.own 3200)) (vc (.own 3584)) (vc (.own 3584)) (vc (.own 3584)) (vc (.own 90000)) (vc (.own 90000)) b0 T T T T T L L b8 L b10 L L b13 b14 L [(5,[aL (Y X7.row a0.Points),aL (Y X2.row a0.Segments)])] [(90000,1,Y (rL rI) v6),(3200,1,Y rI a1),(3456,1,Y rI ([r9]:P U))]):=by
 intro f
 induction f with
 | zero=>intro b0 b8 b10 b13 b14 h; simp at h
 | succ f ih=>
  intro b0 b8 b10 b13 b14;refine Ad ⟨?_,?_,?_,?_,?_,?_,?_,?_,?_,?_,?_,?_,?_,?_,?_,?_,?_,⟨⟩⟩<;>try first | (intro h; cases h; done) | (intro _ hw; simp at hw; done) | (intro h0 hw; obtain rfl:=hz h0 rfl; refine np ?_; simp only[A8,A5,A6,A1,C,E,F,G,H,J]; exact ih _ _ _ _ _)
  ·intro h0 hw;refine⟨[],[(O,.keep [1,2,3,4,5,11,12,14,31,32,33,49,50,51,52,53,54,55,56,57,58,59,60,61,62,63,64,4] [5] [90000,3200,3456])],X,X,?_⟩;try simp only[h15,A8,A5,A6,zA,I,A1,C,E,F,G,H,J]
   exact A49 rec_ h_rec a1 a2 a3 x1 v5 r9 a0 v6 r18 h14 h15 h16 h17 h18 _ b0 b8 b10 b13 b14
  ·intro h0 hw;refine⟨[],[(O,.keep [1,2,3,4,5,11,12,14,31,32,33,49,50,51,52,53,54,55,56,57,58,59,60,61,62,63,64,4] [5] [90000,3200,3456,3584])],X,X,?_⟩;try simp only[A8,A5,A6,zA,I,A1,C,E,F,G,H,J]
   refine Am (es:=Y rI ([]:P U)) X (by simp only[St.fresh,zB,zC,Ah]; simp[AV.cells,V1.cells,AC.uses]) ?_;try simp only[A1,C,E,F,G,H,J]
   exact Tm rec_ h_rec a1 a2 a3 x1 v5 r9 a0 v6 r18 h14 h15 h16 h17 h18 _ b0 b8 b10 b13 b14
  ·intro h0 hw;obtain rfl:=hq hw 10 rfl rfl;refine⟨[],[(O,.keep [1,2,3,4,5,11,12,14,31,32,33,49,50,51,52,53,54,55,56,57,58,59,60,61,62,63,64,4] [5] [90000,3200,3456,3840])],X,X,?_⟩;try simp only[A8,A5,A6,zA,I,A1,C,E,F,G,H,J]
   refine Am (es:=Y rI ([v5]:P U)) X (by simp only[St.fresh,zB,zC,Ah]; simp[AV.cells,V1.cells,AC.uses]) ?_;try simp only[A1,C,E,F,G,H,J]
   exact Tn rec_ h_rec a1 a2 a3 x1 v5 r9 a0 v6 r18 h14 h15 h16 h17 h18 _ b0 b8 b13 b14
theorem al(rec_:X1→(P U)→(P U)→U→(P (P U))→Q (P (P U)))(h_rec:∀(a0:X1) (a1 a2:P U) (a3:U) (a4:P (P U)) zr,rec_ a0 a1 a2 a3 a4=N zr→FCt Z 217 [.d (.ag (X1.row a0)),.d (.sc (.sl (Y rI a1))),.d (.sc (.sl (Y rI a2))),.d (.sc (.int .i64 a3)),.r] 1 (Y (rL rI) a4) (Y (rL rI) zr))(a1 a2:P U)(a3)(x1:U)(v5)(r9)(a0)(v6)(r18)(h14:(A3 ([]:P U).length a1.length 8)=T)(h15:(A3 a1.length ([r9]:P U).length 8)=T)(h16:(A3 ([]:P U).length a2.length 8)=T)(h17:(A3 a2.length ([v5]:P U).length 8)=T)(h18:rec_ a0 (a1++([r9]:P U)) (a2++([v5]:P U)) a3 v6=N r18):∀(f:W) (b0 b4:V) (b8 b10:V) (b13 b14:V),Ab Z B2 (AW a1 a2 a3 x1 v5 r9 a0 r18) f [b0,T,T,T,b4,L,L,T,b8,L,b10,L,L,b13,b14,L,L] (A8 a1 a2 a3 x1 v5 r9 a0 (vc (.own 90000)) (vc (.undef)) (vc (.own 3200)) (vc (.own 3200)) (vc (.own 3584)) (vc (.own 3584)) (vc (.own 3584)) (vc (.own 90000)) (vc (.own 90000)) b0 T T T b4 L L T b8 L b10 L L b13 b14 L [(5,[aL (Y X7.row a0.Points),aL (Y X2.row a0.Segments)])] [(90000,1,Y (rL rI) v6),(3200,1,Y rI a1),(3584,1,Y rI ([]:P U))]):=by
 intro f
 induction f with
 | zero=>intro b0 b4 b8 b10 b13 b14 h; simp at h
 | succ f ih=>
  intro b0 b4 b8 b10 b13 b14;refine Ad ⟨?_,?_,?_,?_,?_,?_,?_,?_,?_,?_,?_,?_,?_,?_,?_,?_,?_,⟨⟩⟩<;>try first | (intro h; cases h; done) | (intro _ hw; simp at hw; done) | (intro h0 hw; obtain rfl:=hz h0 rfl; refine np ?_; simp only[A8,A5,A6,A1,C,E,F,G,H,J]; exact ih _ _ _ _ _ _)
  ·intro h0 hw;obtain rfl:=hq hw 4 rfl rfl;refine⟨[],[(O,.keep [1,2,3,4,5,11,12,14,31,32,33,49,50,51,52,53,54,55,56,57,58,59,60,61,62,63,64,4] [5] [90000,3200,3456,3584])],X,X,?_⟩;try simp only[A8,A5,A6,zA,I,A1,C,E,F,G,H,J]
   refine Am (es:=Y rI ([r9]:P U)) X (by simp only[St.fresh,zB,zC,Ah]; simp[AV.cells,V1.cells,AC.uses]) ?_;try simp only[A1,C,E,F,G,H,J]
   exact Tm rec_ h_rec a1 a2 a3 x1 v5 r9 a0 v6 r18 h14 h15 h16 h17 h18 _ b0 b8 b10 b13 b14
  ·intro h0 hw;obtain rfl:=hq hw 10 rfl rfl;refine⟨[],[(O,.keep [1,2,3,4,5,11,12,14,31,32,33,49,50,51,52,53,54,55,56,57,58,59,60,61,62,63,64,4] [5] [90000,3200,3584,3840])],X,X,?_⟩;try simp only[A8,A5,A6,zA,I,A1,C,E,F,G,H,J]
   refine Am (es:=Y rI ([v5]:P U)) X (by simp only[St.fresh,zB,zC,Ah]; simp[AV.cells,V1.cells,AC.uses]) ?_;try simp only[A1,C,E,F,G,H,J]
   exact Tp rec_ h_rec a1 a2 a3 x1 v5 r9 a0 v6 r18 h14 h15 h16 h17 h18 _ b0 b4 b8 b13 b14
theorem am(rec_:X1→(P U)→(P U)→U→(P (P U))→Q (P (P U)))(h_rec:∀(a0:X1) (a1 a2:P U) (a3:U) (a4:P (P U)) zr,rec_ a0 a1 a2 a3 a4=N zr→FCt Z 217 [.d (.ag (X1.row a0)),.d (.sc (.sl (Y rI a1))),.d (.sc (.sl (Y rI a2))),.d (.sc (.int .i64 a3)),.r] 1 (Y (rL rI) a4) (Y (rL rI) zr))(a1 a2:P U)(a3)(x1:U)(v5)(r9)(a0)(v6)(r18)(h14:(A3 ([]:P U).length a1.length 8)=T)(h15:(A3 a1.length ([r9]:P U).length 8)=T)(h16:(A3 ([]:P U).length a2.length 8)=T)(h17:(A3 a2.length ([v5]:P U).length 8)=T)(h18:rec_ a0 (a1++([r9]:P U)) (a2++([v5]:P U)) a3 v6=N r18):∀(f:W) (b0 b4:V) (b8 b13 b14:V),Ab Z B2 (AW a1 a2 a3 x1 v5 r9 a0 r18) f [b0,T,T,T,b4,L,L,L,b8,L,T,T,L,b13,b14,L,L] (A8 a1 a2 a3 x1 v5 r9 a0 (vc (.own 90000)) (vc (.undef)) (vc (.own 3200)) (vc (.own 3200)) (vc (.own 3584)) (vc (.own 3584)) (vc (.own 3584)) (vc (.own 90000)) (vc (.own 90000)) b0 T T T b4 L L L b8 L T T L b13 b14 L [(5,[aL (Y X7.row a0.Points),aL (Y X2.row a0.Segments)])] [(90000,1,Y (rL rI) v6),(3200,1,Y rI a1),(3840,1,Y rI ([v5]:P U))]):=by
 intro f
 induction f with
 | zero=>intro b0 b4 b8 b13 b14 h; simp at h
 | succ f ih=>
  intro b0 b4 b8 b13 b14;refine Ad ⟨?_,?_,?_,?_,?_,?_,?_,?_,?_,?_,?_,?_,?_,?_,?_,?_,?_,⟨⟩⟩<;>try first | (intro h; cases h; done) | (intro _ hw; simp at hw; done) | (intro h0 hw; obtain rfl:=hz h0 rfl; refine np ?_; simp only[A8,A5,A6,A1,C,E,F,G,H,J]; exact ih _ _ _ _ _)
  ·intro h0 hw;obtain rfl:=hq hw 4 rfl rfl;refine⟨[],[(O,.keep [1,2,3,4,5,11,12,14,31,32,33,49,50,51,52,53,54,55,56,57,58,59,60,61,62,63,64,4] [5] [90000,3200,3456,3840])],X,X,?_⟩;try simp only[A8,A5,A6,zA,I,A1,C,E,F,G,H,J]
   refine Am (es:=Y rI ([r9]:P U)) X (by simp only[St.fresh,zB,zC,Ah]; simp[AV.cells,V1.cells,AC.uses]) ?_;try simp only[A1,C,E,F,G,H,J]
   exact Tn rec_ h_rec a1 a2 a3 x1 v5 r9 a0 v6 r18 h14 h15 h16 h17 h18 _ b0 b8 b13 b14
  ·intro h0 hw;refine⟨[],[(O,.keep [1,2,3,4,5,11,12,14,31,32,33,49,50,51,52,53,54,55,56,57,58,59,60,61,62,63,64,4] [5] [90000,3200,3584,3840])],X,X,?_⟩;try simp only[A8,A5,A6,zA,I,A1,C,E,F,G,H,J]
   refine Am (es:=Y rI ([]:P U)) X (by simp only[St.fresh,zB,zC,Ah]; simp[AV.cells,V1.cells,AC.uses]) ?_;try simp only[A1,C,E,F,G,H,J]
   exact Tp rec_ h_rec a1 a2 a3 x1 v5 r9 a0 v6 r18 h14 h15 h16 h17 h18 _ b0 b4 b8 b13 b14
theorem Tq(rec_:X1→(P U)→(P U)→U→(P (P U))→Q (P (P U)))(h_rec:∀(a0:X1) (a1 a2:P U) (a3:U) (a4:P (P U)) zr,rec_ a0 a1 a2 a3 a4=N zr→FCt Z 217 [.d (.ag (X1.row a0)),.d (.sc (.sl (Y rI a1))),.d (.sc (.sl (Y rI a2))),.d (.sc (.int .i64 a3)),.r] 1 (Y (rL rI) a4) (Y (rL rI) zr))(a1 a2:P U)(a3)(x1:U)(v5)(r9)(a0)(v6)(r18)(h14:(A3 ([]:P U).length a1.length 8)=T)(h15:(A3 a1.length ([r9]:P U).length 8)=T)(h16:(A3 ([]:P U).length a2.length 8)=T)(h17:(A3 a2.length ([v5]:P U).length 8)=T)(h18:rec_ a0 (a1++([r9]:P U)) (a2++([v5]:P U)) a3 v6=N r18):∀(f:W) (b0 b2:V) (b8 b10:V) (b13 b14:V),Ab Z B2 (AW a1 a2 a3 x1 v5 r9 a0 r18) f [b0,T,b2,L,T,T,L,T,b8,L,b10,L,L,b13,b14,L,L] (A8 a1 a2 a3 x1 v5 r9 a0 (vc (.own 90000)) (vc (.own 3200)) (vc (.own 3200)) (vc (.own 3200)) (vc (.own 3584)) (vc (.own 3584)) (vc (.own 3584)) (vc (.own 90000)) (vc (.own 90000)) b0 T b2 L T T L T b8 L b10 L L b13 b14 L [(5,[aL (Y X7.row a0.Points),aL (Y X2.row a0.Segments)])] [(90000,1,Y (rL rI) v6),(3200,1,Y rI ([]:P U)),(3456,1,Y rI ([r9]:P U)),(3584,1,Y rI ([]:P U))]):=by
 intro f
 induction f with
 | zero=>intro b0 b2 b8 b10 b13 b14 h; simp at h
 | succ f ih=>
  intro b0 b2 b8 b10 b13 b14;refine Ad ⟨?_,?_,?_,?_,?_,?_,?_,?_,?_,?_,?_,?_,?_,?_,?_,?_,?_,⟨⟩⟩<;>try first | (intro h; cases h; done) | (intro _ hw; simp at hw; done) | (intro h0 hw; obtain rfl:=hz h0 rfl; refine np ?_; simp only[A8,A5,A6,A1,C,E,F,G,H,J]; exact ih _ _ _ _ _ _)
  ·intro h0 hw;obtain rfl:=hq hw 2 rfl rfl;refine⟨[],[(O,.keep [1,2,3,4,5,11,12,14,31,32,33,49,50,51,52,53,54,55,56,57,58,59,60,61,62,63,64,4] [5] [90000,3200,3456,3584])],X,X,?_⟩;try simp only[h14,A8,A5,A6,zA,I,A1,C,E,F,G,H,J]
   exact Tm rec_ h_rec a1 a2 a3 x1 v5 r9 a0 v6 r18 h14 h15 h16 h17 h18 _ b0 b8 b10 b13 b14
  ·intro h0 hw;obtain rfl:=hq hw 10 rfl rfl;refine⟨[],[(O,.keep [1,2,3,4,5,11,12,14,31,32,33,49,50,51,52,53,54,55,56,57,58,59,60,61,62,63,64,4] [5] [90000,3200,3456,3584,3840])],X,X,?_⟩;try simp only[A8,A5,A6,zA,I,A1,C,E,F,G,H,J]
   refine Am (es:=Y rI ([v5]:P U)) X (by simp only[St.fresh,zB,zC,Ah]; simp[AV.cells,V1.cells,AC.uses]) ?_;try simp only[A1,C,E,F,G,H,J]
   exact QY rec_ h_rec a1 a2 a3 x1 v5 r9 a0 v6 r18 h14 h15 h16 h17 h18 _ b0 b2 b8 b13 b14
theorem Tr(rec_:X1→(P U)→(P U)→U→(P (P U))→Q (P (P U)))(h_rec:∀(a0:X1) (a1 a2:P U) (a3:U) (a4:P (P U)) zr,rec_ a0 a1 a2 a3 a4=N zr→FCt Z 217 [.d (.ag (X1.row a0)),.d (.sc (.sl (Y rI a1))),.d (.sc (.sl (Y rI a2))),.d (.sc (.int .i64 a3)),.r] 1 (Y (rL rI) a4) (Y (rL rI) zr))(a1 a2:P U)(a3)(x1:U)(v5)(r9)(a0)(v6)(r18)(h14:(A3 ([]:P U).length a1.length 8)=T)(h15:(A3 a1.length ([r9]:P U).length 8)=T)(h16:(A3 ([]:P U).length a2.length 8)=T)(h17:(A3 a2.length ([v5]:P U).length 8)=T)(h18:rec_ a0 (a1++([r9]:P U)) (a2++([v5]:P U)) a3 v6=N r18):∀(f:W) (b0 b2:V) (b8 b13 b14:V),Ab Z B2 (AW a1 a2 a3 x1 v5 r9 a0 r18) f [b0,T,b2,L,T,T,L,L,b8,L,T,T,L,b13,b14,L,L] (A8 a1 a2 a3 x1 v5 r9 a0 (vc (.own 90000)) (vc (.own 3200)) (vc (.own 3200)) (vc (.own 3200)) (vc (.own 3584)) (vc (.own 3584)) (vc (.own 3584)) (vc (.own 90000)) (vc (.own 90000)) b0 T b2 L T T L L b8 L T T L b13 b14 L [(5,[aL (Y X7.row a0.Points),aL (Y X2.row a0.Segments)])] [(90000,1,Y (rL rI) v6),(3200,1,Y rI ([]:P U)),(3456,1,Y rI ([r9]:P U)),(3840,1,Y rI ([v5]:P U))]):=by
 intro f
 induction f with
 | zero=>intro b0 b2 b8 b13 b14 h; simp at h
 | succ f ih=>
  intro b0 b2 b8 b13 b14;refine Ad ⟨?_,?_,?_,?_,?_,?_,?_,?_,?_,?_,?_,?_,?_,?_,?_,?_,?_,⟨⟩⟩<;>try first | (intro h; cases h; done) | (intro _ hw; simp at hw; done) | (intro h0 hw; obtain rfl:=hz h0 rfl; refine np ?_; simp only[A8,A5,A6,A1,C,E,F,G,H,J]; exact ih _ _ _ _ _)
  ·intro h0 hw;obtain rfl:=hq hw 2 rfl rfl;refine⟨[],[(O,.keep [1,2,3,4,5,11,12,14,31,32,33,49,50,51,52,53,54,55,56,57,58,59,60,61,62,63,64,4] [5] [90000,3200,3456,3840])],X,X,?_⟩;try simp only[h14,A8,A5,A6,zA,I,A1,C,E,F,G,H,J]
   exact Tn rec_ h_rec a1 a2 a3 x1 v5 r9 a0 v6 r18 h14 h15 h16 h17 h18 _ b0 b8 b13 b14
  ·intro h0 hw;refine⟨[],[(O,.keep [1,2,3,4,5,11,12,14,31,32,33,49,50,51,52,53,54,55,56,57,58,59,60,61,62,63,64,4] [5] [90000,3200,3456,3584,3840])],X,X,?_⟩;try simp only[A8,A5,A6,zA,I,A1,C,E,F,G,H,J]
   refine Am (es:=Y rI ([]:P U)) X (by simp only[St.fresh,zB,zC,Ah]; simp[AV.cells,V1.cells,AC.uses]) ?_;try simp only[A1,C,E,F,G,H,J]
   exact QY rec_ h_rec a1 a2 a3 x1 v5 r9 a0 v6 r18 h14 h15 h16 h17 h18 _ b0 b2 b8 b13 b14
theorem Ts(rec_:X1→(P U)→(P U)→U→(P (P U))→Q (P (P U)))(h_rec:∀(a0:X1) (a1 a2:P U) (a3:U) (a4:P (P U)) zr,rec_ a0 a1 a2 a3 a4=N zr→FCt Z 217 [.d (.ag (X1.row a0)),.d (.sc (.sl (Y rI a1))),.d (.sc (.sl (Y rI a2))),.d (.sc (.int .i64 a3)),.r] 1 (Y (rL rI) a4) (Y (rL rI) zr))(a1 a2:P U)(a3)(x1:U)(v5)(r9)(a0)(v6)(r18)(h14:(A3 ([]:P U).length a1.length 8)=T)(h15:(A3 a1.length ([r9]:P U).length 8)=T)(h16:(A3 ([]:P U).length a2.length 8)=T)(h17:(A3 a2.length ([v5]:P U).length 8)=T)(h18:rec_ a0 (a1++([r9]:P U)) (a2++([v5]:P U)) a3 v6=N r18):∀(f:W) (b0 b2:V) (b4 b8:V) (b13 b14:V),Ab Z B2 (AW a1 a2 a3 x1 v5 r9 a0 r18) f [b0,T,b2,L,b4,L,L,T,b8,L,T,T,L,b13,b14,L,L] (A8 a1 a2 a3 x1 v5 r9 a0 (vc (.own 90000)) (vc (.own 3200)) (vc (.own 3200)) (vc (.own 3200)) (vc (.own 3584)) (vc (.own 3584)) (vc (.own 3584)) (vc (.own 90000)) (vc (.own 90000)) b0 T b2 L b4 L L T b8 L T T L b13 b14 L [(5,[aL (Y X7.row a0.Points),aL (Y X2.row a0.Segments)])] [(90000,1,Y (rL rI) v6),(3200,1,Y rI ([]:P U)),(3584,1,Y rI ([]:P U)),(3840,1,Y rI ([v5]:P U))]):=by
 intro f
 induction f with
 | zero=>intro b0 b2 b4 b8 b13 b14 h; simp at h
 | succ f ih=>
  intro b0 b2 b4 b8 b13 b14;refine Ad ⟨?_,?_,?_,?_,?_,?_,?_,?_,?_,?_,?_,?_,?_,?_,?_,?_,?_,⟨⟩⟩<;>try first | (intro h; cases h; done) | (intro _ hw; simp at hw; done) | (intro h0 hw; obtain rfl:=hz h0 rfl; refine np ?_; simp only[A8,A5,A6,A1,C,E,F,G,H,J]; exact ih _ _ _ _ _ _)
  ·intro h0 hw;obtain rfl:=hq hw 2 rfl rfl;refine⟨[],[(O,.keep [1,2,3,4,5,11,12,14,31,32,33,49,50,51,52,53,54,55,56,57,58,59,60,61,62,63,64,4] [5] [90000,3200,3584,3840])],X,X,?_⟩;try simp only[h14,A8,A5,A6,zA,I,A1,C,E,F,G,H,J]
   exact Tp rec_ h_rec a1 a2 a3 x1 v5 r9 a0 v6 r18 h14 h15 h16 h17 h18 _ b0 b4 b8 b13 b14
  ·intro h0 hw;obtain rfl:=hq hw 4 rfl rfl;refine⟨[],[(O,.keep [1,2,3,4,5,11,12,14,31,32,33,49,50,51,52,53,54,55,56,57,58,59,60,61,62,63,64,4] [5] [90000,3200,3456,3584,3840])],X,X,?_⟩;try simp only[A8,A5,A6,zA,I,A1,C,E,F,G,H,J]
   refine Am (es:=Y rI ([r9]:P U)) X (by simp only[St.fresh,zB,zC,Ah]; simp[AV.cells,V1.cells,AC.uses]) ?_;try simp only[A1,C,E,F,G,H,J]
   exact QY rec_ h_rec a1 a2 a3 x1 v5 r9 a0 v6 r18 h14 h15 h16 h17 h18 _ b0 b2 b8 b13 b14
theorem Tt(rec_:X1→(P U)→(P U)→U→(P (P U))→Q (P (P U)))(h_rec:∀(a0:X1) (a1 a2:P U) (a3:U) (a4:P (P U)) zr,rec_ a0 a1 a2 a3 a4=N zr→FCt Z 217 [.d (.ag (X1.row a0)),.d (.sc (.sl (Y rI a1))),.d (.sc (.sl (Y rI a2))),.d (.sc (.int .i64 a3)),.r] 1 (Y (rL rI) a4) (Y (rL rI) zr))(a1 a2:P U)(a3)(x1:U)(v5)(r9)(a0)(v6)(r18)(h14:(A3 ([]:P U).length a1.length 8)=T)(h15:(A3 a1.length ([r9]:P U).length 8)=T)(h16:(A3 ([]:P U).length a2.length 8)=T)(h17:(A3 a2.length ([v5]:P U).length 8)=T)(h18:rec_ a0 (a1++([r9]:P U)) (a2++([v5]:P U)) a3 v6=N r18):∀(f:W) (b0 b2:V) (b8 b13 b14:V),Ab Z B2 (AW a1 a2 a3 x1 v5 r9 a0 r18) f [b0,L,b2,L,T,T,L,T,b8,L,T,T,L,b13,b14,L,L] (A8 a1 a2 a3 x1 v5 r9 a0 (vc (.own 90000)) (vc (.own 3200)) (vc (.own 3200)) (vc (.own 3200)) (vc (.own 3584)) (vc (.own 3584)) (vc (.own 3584)) (vc (.own 90000)) (vc (.own 90000)) b0 L b2 L T T L T b8 L T T L b13 b14 L [(5,[aL (Y X7.row a0.Points),aL (Y X2.row a0.Segments)])] [(90000,1,Y (rL rI) v6),(3456,1,Y rI ([r9]:P U)),(3584,1,Y rI ([]:P U)),(3840,1,Y rI ([v5]:P U))]):=by
 intro f
 induction f with
 | zero=>intro b0 b2 b8 b13 b14 h; simp at h
 | succ f ih=>
  intro b0 b2 b8 b13 b14;refine Ad ⟨?_,?_,?_,?_,?_,?_,?_,?_,?_,?_,?_,?_,?_,?_,?_,?_,?_,⟨⟩⟩<;>try first | (intro h; cases h; done) | (intro _ hw; simp at hw; done) | (intro h0 hw; obtain rfl:=hz h0 rfl; refine np ?_; simp only[A8,A5,A6,A1,C,E,F,G,H,J]; exact ih _ _ _ _ _)
  ·intro h0 hw;refine⟨[],[(O,.keep [1,2,3,4,5,11,12,14,31,32,33,49,50,51,52,53,54,55,56,57,58,59,60,61,62,63,64,4] [5] [90000,3200,3456,3584,3840])],X,X,?_⟩;try simp only[A8,A5,A6,zA,I,A1,C,E,F,G,H,J]
   refine Am (es:=Y rI ([]:P U)) X (by simp only[St.fresh,zB,zC,Ah]; simp[AV.cells,V1.cells,AC.uses]) ?_;try simp only[A1,C,E,F,G,H,J]
   exact QY rec_ h_rec a1 a2 a3 x1 v5 r9 a0 v6 r18 h14 h15 h16 h17 h18 _ b0 b2 b8 b13 b14
theorem A5a(rec_:X1→(P U)→(P U)→U→(P (P U))→Q (P (P U)))(h_rec:∀(a0:X1) (a1 a2:P U) (a3:U) (a4:P (P U)) zr,rec_ a0 a1 a2 a3 a4=N zr→FCt Z 217 [.d (.ag (X1.row a0)),.d (.sc (.sl (Y rI a1))),.d (.sc (.sl (Y rI a2))),.d (.sc (.int .i64 a3)),.r] 1 (Y (rL rI) a4) (Y (rL rI) zr))(a1 a2:P U)(a3)(x1:U)(v5)(r9)(a0)(v6)(r18)(h14:(A3 ([]:P U).length a1.length 8)=T)(h15:(A3 a1.length ([r9]:P U).length 8)=T)(h16:(A3 ([]:P U).length a2.length 8)=T)(h17:(A3 a2.length ([v5]:P U).length 8)=T)(h18:rec_ a0 (a1++([r9]:P U)) (a2++([v5]:P U)) a3 v6=N r18):∀(f:W) (b0 b4:V) (b8 b10:V) (b13 b14:V),Ab Z B2 (AW a1 a2 a3 x1 v5 r9 a0 r18) f [b0,T,T,T,b4,L,L,L,b8,L,b10,L,L,b13,b14,L,L] (A8 a1 a2 a3 x1 v5 r9 a0 (vc (.own 90000)) (vc (.undef)) (vc (.own 3200)) (vc (.own 3200)) (vc (.own 3584)) (vc (.own 3584)) (vc (.own 3584)) (vc (.own 90000)) (vc (.own 90000)) b0 T T T b4 L L L b8 L b10 L L b13 b14 L [(5,[aL (Y X7.row a0.Points),aL (Y X2.row a0.Segments)])] [(90000,1,Y (rL rI) v6),(3200,1,Y rI a1)]):=by
 intro f
 induction f with
 | zero=>intro b0 b4 b8 b10 b13 b14 h; simp at h
 | succ f ih=>
  intro b0 b4 b8 b10 b13 b14;refine Ad ⟨?_,?_,?_,?_,?_,?_,?_,?_,?_,?_,?_,?_,?_,?_,?_,?_,?_,⟨⟩⟩<;>try first | (intro h; cases h; done) | (intro _ hw; simp at hw; done) | (intro h0 hw; obtain rfl:=hz h0 rfl; refine np ?_; simp only[A8,A5,A6,A1,C,E,F,G,H,J]; exact ih _ _ _ _ _ _)
  ·intro h0 hw;obtain rfl:=hq hw 4 rfl rfl;refine⟨[],[(O,.keep [1,2,3,4,5,11,12,14,31,32,33,49,50,51,52,53,54,55,56,57,58,59,60,61,62,63,64,4] [5] [90000,3200,3456])],X,X,?_⟩;try simp only[A8,A5,A6,zA,I,A1,C,E,F,G,H,J]
   refine Am (es:=Y rI ([r9]:P U)) X (by simp only[St.fresh,zB,zC,Ah]; simp[AV.cells,V1.cells,AC.uses]) ?_;try simp only[A1,C,E,F,G,H,J]
   exact ak rec_ h_rec a1 a2 a3 x1 v5 r9 a0 v6 r18 h14 h15 h16 h17 h18 _ b0 b8 b10 b13 b14
  ·intro h0 hw;refine⟨[],[(O,.keep [1,2,3,4,5,11,12,14,31,32,33,49,50,51,52,53,54,55,56,57,58,59,60,61,62,63,64,4] [5] [90000,3200,3584])],X,X,?_⟩;try simp only[A8,A5,A6,zA,I,A1,C,E,F,G,H,J]
   refine Am (es:=Y rI ([]:P U)) X (by simp only[St.fresh,zB,zC,Ah]; simp[AV.cells,V1.cells,AC.uses]) ?_;try simp only[A1,C,E,F,G,H,J]
   exact al rec_ h_rec a1 a2 a3 x1 v5 r9 a0 v6 r18 h14 h15 h16 h17 h18 _ b0 b4 b8 b10 b13 b14
  ·intro h0 hw;obtain rfl:=hq hw 10 rfl rfl;refine⟨[],[(O,.keep [1,2,3,4,5,11,12,14,31,32,33,49,50,51,52,53,54,55,56,57,58,59,60,61,62,63,64,4] [5] [90000,3200,3840])],X,X,?_⟩;try simp only[A8,A5,A6,zA,I,A1,C,E,F,G,H,J]
   refine Am (es:=Y rI ([v5]:P U)) X (by simp only[St.fresh,zB,zC,Ah]; simp[AV.cells,V1.cells,AC.uses]) ?_;try simp only[A1,C,E,F,G,H,J]
   exact am rec_ h_rec a1 a2 a3 x1 v5 r9 a0 v6 r18 h14 h15 h16 h17 h18 _ b0 b4 b8 b13 b14
theorem aq(rec_:X1→(P U)→(P U)→U→(P (P U))→Q (P (P U)))(h_rec:∀(a0:X1) (a1 a2:P U) (a3:U) (a4:P (P U)) zr,rec_ a0 a1 a2 a3 a4=N zr→FCt Z 217 [.d (.ag (X1.row a0)),.d (.sc (.sl (Y rI a1))),.d (.sc (.sl (Y rI a2))),.d (.sc (.int .i64 a3)),.r] 1 (Y (rL rI) a4) (Y (rL rI) zr))(a1 a2:P U)(a3)(x1:U)(v5)(r9)(a0)(v6)(r18)(h14:(A3 ([]:P U).length a1.length 8)=T)(h15:(A3 a1.length ([r9]:P U).length 8)=T)(h16:(A3 ([]:P U).length a2.length 8)=T)(h17:(A3 a2.length ([v5]:P U).length 8)=T)(h18:rec_ a0 (a1++([r9]:P U)) (a2++([v5]:P U)) a3 v6=N r18):∀(f:W) (b0 b2:V) (b8 b10:V) (b13 b14:V),Ab Z B2 (AW a1 a2 a3 x1 v5 r9 a0 r18) f [b0,T,b2,L,T,T,L,L,b8,L,b10,L,L,b13,b14,L,L] (A8 a1 a2 a3 x1 v5 r9 a0 (vc (.own 90000)) (vc (.own 3200)) (vc (.own 3200)) (vc (.own 3200)) (vc (.own 3584)) (vc (.own 3584)) (vc (.own 3584)) (vc (.own 90000)) (vc (.own 90000)) b0 T b2 L T T L L b8 L b10 L L b13 b14 L [(5,[aL (Y X7.row a0.Points),aL (Y X2.row a0.Segments)])] [(90000,1,Y (rL rI) v6),(3200,1,Y rI ([]:P U)),(3456,1,Y rI ([r9]:P U))]):=by
 intro f
 induction f with
 | zero=>intro b0 b2 b8 b10 b13 b14 h; simp at h
 | succ f ih=>
  intro b0 b2 b8 b10 b13 b14;refine Ad ⟨?_,?_,?_,?_,?_,?_,?_,?_,?_,?_,?_,?_,?_,?_,?_,?_,?_,⟨⟩⟩<;>try first | (intro h; cases h; done) | (intro _ hw; simp at hw; done) | (intro h0 hw; obtain rfl:=hz h0 rfl; refine np ?_; simp only[A8,A5,A6,A1,C,E,F,G,H,J]; exact ih _ _ _ _ _ _)
  ·intro h0 hw;obtain rfl:=hq hw 2 rfl rfl;refine⟨[],[(O,.keep [1,2,3,4,5,11,12,14,31,32,33,49,50,51,52,53,54,55,56,57,58,59,60,61,62,63,64,4] [5] [90000,3200,3456])],X,X,?_⟩;try simp only[h14,A8,A5,A6,zA,I,A1,C,E,F,G,H,J]
   exact ak rec_ h_rec a1 a2 a3 x1 v5 r9 a0 v6 r18 h14 h15 h16 h17 h18 _ b0 b8 b10 b13 b14
  ·intro h0 hw;refine⟨[],[(O,.keep [1,2,3,4,5,11,12,14,31,32,33,49,50,51,52,53,54,55,56,57,58,59,60,61,62,63,64,4] [5] [90000,3200,3456,3584])],X,X,?_⟩;try simp only[A8,A5,A6,zA,I,A1,C,E,F,G,H,J]
   refine Am (es:=Y rI ([]:P U)) X (by simp only[St.fresh,zB,zC,Ah]; simp[AV.cells,V1.cells,AC.uses]) ?_;try simp only[A1,C,E,F,G,H,J]
   exact Tq rec_ h_rec a1 a2 a3 x1 v5 r9 a0 v6 r18 h14 h15 h16 h17 h18 _ b0 b2 b8 b10 b13 b14
  ·intro h0 hw;obtain rfl:=hq hw 10 rfl rfl;refine⟨[],[(O,.keep [1,2,3,4,5,11,12,14,31,32,33,49,50,51,52,53,54,55,56,57,58,59,60,61,62,63,64,4] [5] [90000,3200,3456,3840])],X,X,?_⟩;try simp only[A8,A5,A6,zA,I,A1,C,E,F,G,H,J]
   refine Am (es:=Y rI ([v5]:P U)) X (by simp only[St.fresh,zB,zC,Ah]; simp[AV.cells,V1.cells,AC.uses]) ?_;try simp only[A1,C,E,F,G,H,J]
   exact Tr rec_ h_rec a1 a2 a3 x1 v5 r9 a0 v6 r18 h14 h15 h16 h17 h18 _ b0 b2 b8 b13 b14
theorem ar(rec_:X1→(P U)→(P U)→U→(P (P U))→Q (P (P U)))(h_rec:∀(a0:X1) (a1 a2:P U) (a3:U) (a4:P (P U)) zr,rec_ a0 a1 a2 a3 a4=N zr→FCt Z 217 [.d (.ag (X1.row a0)),.d (.sc (.sl (Y rI a1))),.d (.sc (.sl (Y rI a2))),.d (.sc (.int .i64 a3)),.r] 1 (Y (rL rI) a4) (Y (rL rI) zr))(a1 a2:P U)(a3)(x1:U)(v5)(r9)(a0)(v6)(r18)(h14:(A3 ([]:P U).length a1.length 8)=T)(h15:(A3 a1.length ([r9]:P U).length 8)=T)(h16:(A3 ([]:P U).length a2.length 8)=T)(h17:(A3 a2.length ([v5]:P U).length 8)=T)(h18:rec_ a0 (a1++([r9]:P U)) (a2++([v5]:P U)) a3 v6=N r18):∀(f:W) (b0 b2:V) (b4 b8:V) (b10 b13 b14:V),Ab Z B2 (AW a1 a2 a3 x1 v5 r9 a0 r18) f [b0,T,b2,L,b4,L,L,T,b8,L,b10,L,L,b13,b14,L,L] (A8 a1 a2 a3 x1 v5 r9 a0 (vc (.own 90000)) (vc (.own 3200)) (vc (.own 3200)) (vc (.own 3200)) (vc (.own 3584)) (vc (.own 3584)) (vc (.own 3584)) (vc (.own 90000)) (vc (.own 90000)) b0 T b2 L b4 L L T b8 L b10 L L b13 b14 L [(5,[aL (Y X7.row a0.Points),aL (Y X2.row a0.Segments)])] [(90000,1,Y (rL rI) v6),(3200,1,Y rI ([]:P U)),(3584,1,Y rI ([]:P U))]):=by
 intro f
 induction f with
 | zero=>intro b0 b2 b4 b8 b10 b13 b14 h; simp at h
 | succ f ih=>
  intro b0 b2 b4 b8 b10 b13 b14;refine Ad ⟨?_,?_,?_,?_,?_,?_,?_,?_,?_,?_,?_,?_,?_,?_,?_,?_,?_,⟨⟩⟩<;>try first | (intro h; cases h; done) | (intro _ hw; simp at hw; done) | (intro h0 hw; obtain rfl:=hz h0 rfl; refine np ?_; simp only[A8,A5,A6,A1,C,E,F,G,H,J]; exact ih _ _ _ _ _ _ _)
  ·intro h0 hw;obtain rfl:=hq hw 2 rfl rfl;refine⟨[],[(O,.keep [1,2,3,4,5,11,12,14,31,32,33,49,50,51,52,53,54,55,56,57,58,59,60,61,62,63,64,4] [5] [90000,3200,3584])],X,X,?_⟩;try simp only[h14,A8,A5,A6,zA,I,A1,C,E,F,G,H,J]
   exact al rec_ h_rec a1 a2 a3 x1 v5 r9 a0 v6 r18 h14 h15 h16 h17 h18 _ b0 b4 b8 b10 b13 b14
  ·intro h0 hw;obtain rfl:=hq hw 4 rfl rfl;refine⟨[],[(O,.keep [1,2,3,4,5,11,12,14,31,32,33,49,50,51,52,53,54,55,56,57,58,59,60,61,62,63,64,4] [5] [90000,3200,3456,3584])],X,X,?_⟩;try simp only[A8,A5,A6,zA,I,A1,C,E,F,G,H,J]
   refine Am (es:=Y rI ([r9]:P U)) X (by simp only[St.fresh,zB,zC,Ah]; simp[AV.cells,V1.cells,AC.uses]) ?_;try simp only[A1,C,E,F,G,H,J]
   exact Tq rec_ h_rec a1 a2 a3 x1 v5 r9 a0 v6 r18 h14 h15 h16 h17 h18 _ b0 b2 b8 b10 b13 b14
  ·intro h0 hw;obtain rfl:=hq hw 10 rfl rfl;refine⟨[],[(O,.keep [1,2,3,4,5,11,12,14,31,32,33,49,50,51,52,53,54,55,56,57,58,59,60,61,62,63,64,4] [5] [90000,3200,3584,3840])],X,X,?_⟩;try simp only[A8,A5,A6,zA,I,A1,C,E,F,G,H,J]
   refine Am (es:=Y rI ([v5]:P U)) X (by simp only[St.fresh,zB,zC,Ah]; simp[AV.cells,V1.cells,AC.uses]) ?_;try simp only[A1,C,E,F,G,H,J]
   exact Ts rec_ h_rec a1 a2 a3 x1 v5 r9 a0 v6 r18 h14 h15 h16 h17 h18 _ b0 b2 b4 b8 b13 b14
theorem as_(rec_:X1→(P U)→(P U)→U→(P (P U))→Q (P (P U)))(h_rec:∀(a0:X1) (a1 a2:P U) (a3:U) (a4:P (P U)) zr,rec_ a0 a1 a2 a3 a4=N zr→FCt Z 217 [.d (.ag (X1.row a0)),.d (.sc (.sl (Y rI a1))),.d (.sc (.sl (Y rI a2))),.d (.sc (.int .i64 a3)),.r] 1 (Y (rL rI) a4) (Y (rL rI) zr))(a1 a2:P U)(a3)(x1:U)(v5)(r9)(a0)(v6)(r18)(h14:(A3 ([]:P U).length a1.length 8)=T)(h15:(A3 a1.length ([r9]:P U).length 8)=T)(h16:(A3 ([]:P U).length a2.length 8)=T)(h17:(A3 a2.length ([v5]:P U).length 8)=T)(h18:rec_ a0 (a1++([r9]:P U)) (a2++([v5]:P U)) a3 v6=N r18):∀(f:W) (b0 b2:V) (b4 b8:V) (b13 b14:V),Ab Z B2 (AW a1 a2 a3 x1 v5 r9 a0 r18) f [b0,T,b2,L,b4,L,L,L,b8,L,T,T,L,b13,b14,L,L] (A8 a1 a2 a3 x1 v5 r9 a0 (vc (.own 90000)) (vc (.own 3200)) (vc (.own 3200)) (vc (.own 3200)) (vc (.own 3584)) (vc (.own 3584)) (vc (.own 3584)) (vc (.own 90000)) (vc (.own 90000)) b0 T b2 L b4 L L L b8 L T T L b13 b14 L [(5,[aL (Y X7.row a0.Points),aL (Y X2.row a0.Segments)])] [(90000,1,Y (rL rI) v6),(3200,1,Y rI ([]:P U)),(3840,1,Y rI ([v5]:P U))]):=by
 intro f
 induction f with
 | zero=>intro b0 b2 b4 b8 b13 b14 h; simp at h
 | succ f ih=>
  intro b0 b2 b4 b8 b13 b14;refine Ad ⟨?_,?_,?_,?_,?_,?_,?_,?_,?_,?_,?_,?_,?_,?_,?_,?_,?_,⟨⟩⟩<;>try first | (intro h; cases h; done) | (intro _ hw; simp at hw; done) | (intro h0 hw; obtain rfl:=hz h0 rfl; refine np ?_; simp only[A8,A5,A6,A1,C,E,F,G,H,J]; exact ih _ _ _ _ _ _)
  ·intro h0 hw;obtain rfl:=hq hw 2 rfl rfl;refine⟨[],[(O,.keep [1,2,3,4,5,11,12,14,31,32,33,49,50,51,52,53,54,55,56,57,58,59,60,61,62,63,64,4] [5] [90000,3200,3840])],X,X,?_⟩;try simp only[h14,A8,A5,A6,zA,I,A1,C,E,F,G,H,J]
   exact am rec_ h_rec a1 a2 a3 x1 v5 r9 a0 v6 r18 h14 h15 h16 h17 h18 _ b0 b4 b8 b13 b14
  ·intro h0 hw;obtain rfl:=hq hw 4 rfl rfl;refine⟨[],[(O,.keep [1,2,3,4,5,11,12,14,31,32,33,49,50,51,52,53,54,55,56,57,58,59,60,61,62,63,64,4] [5] [90000,3200,3456,3840])],X,X,?_⟩;try simp only[A8,A5,A6,zA,I,A1,C,E,F,G,H,J]
   refine Am (es:=Y rI ([r9]:P U)) X (by simp only[St.fresh,zB,zC,Ah]; simp[AV.cells,V1.cells,AC.uses]) ?_;try simp only[A1,C,E,F,G,H,J]
   exact Tr rec_ h_rec a1 a2 a3 x1 v5 r9 a0 v6 r18 h14 h15 h16 h17 h18 _ b0 b2 b8 b13 b14
  ·intro h0 hw;refine⟨[],[(O,.keep [1,2,3,4,5,11,12,14,31,32,33,49,50,51,52,53,54,55,56,57,58,59,60,61,62,63,64,4] [5] [90000,3200,3584,3840])],X,X,?_⟩;try simp only[A8,A5,A6,zA,I,A1,C,E,F,G,H,J]
   refine Am (es:=Y rI ([]:P U)) X (by simp only[St.fresh,zB,zC,Ah]; simp[AV.cells,V1.cells,AC.uses]) ?_;try simp only[A1,C,E,F,G,H,J]
   exact Ts rec_ h_rec a1 a2 a3 x1 v5 r9 a0 v6 r18 h14 h15 h16 h17 h18 _ b0 b2 b4 b8 b13 b14
theorem au(rec_:X1→(P U)→(P U)→U→(P (P U))→Q (P (P U)))(h_rec:∀(a0:X1) (a1 a2:P U) (a3:U) (a4:P (P U)) zr,rec_ a0 a1 a2 a3 a4=N zr→FCt Z 217 [.d (.ag (X1.row a0)),.d (.sc (.sl (Y rI a1))),.d (.sc (.sl (Y rI a2))),.d (.sc (.int .i64 a3)),.r] 1 (Y (rL rI) a4) (Y (rL rI) zr))(a1 a2:P U)(a3)(x1:U)(v5)(r9)(a0)(v6)(r18)(h14:(A3 ([]:P U).length a1.length 8)=T)(h15:(A3 a1.length ([r9]:P U).length 8)=T)(h16:(A3 ([]:P U).length a2.length 8)=T)(h17:(A3 a2.length ([v5]:P U).length 8)=T)(h18:rec_ a0 (a1++([r9]:P U)) (a2++([v5]:P U)) a3 v6=N r18):∀(f:W) (b0 b2:V) (b8 b10:V) (b13 b14:V),Ab Z B2 (AW a1 a2 a3 x1 v5 r9 a0 r18) f [b0,L,b2,L,T,T,L,T,b8,L,b10,L,L,b13,b14,L,L] (A8 a1 a2 a3 x1 v5 r9 a0 (vc (.own 90000)) (vc (.own 3200)) (vc (.own 3200)) (vc (.own 3200)) (vc (.own 3584)) (vc (.own 3584)) (vc (.own 3584)) (vc (.own 90000)) (vc (.own 90000)) b0 L b2 L T T L T b8 L b10 L L b13 b14 L [(5,[aL (Y X7.row a0.Points),aL (Y X2.row a0.Segments)])] [(90000,1,Y (rL rI) v6),(3456,1,Y rI ([r9]:P U)),(3584,1,Y rI ([]:P U))]):=by
 intro f
 induction f with
 | zero=>intro b0 b2 b8 b10 b13 b14 h; simp at h
 | succ f ih=>
  intro b0 b2 b8 b10 b13 b14;refine Ad ⟨?_,?_,?_,?_,?_,?_,?_,?_,?_,?_,?_,?_,?_,?_,?_,?_,?_,⟨⟩⟩<;>try first | (intro h; cases h; done) | (intro _ hw; simp at hw; done) | (intro h0 hw; obtain rfl:=hz h0 rfl; refine np ?_; simp only[A8,A5,A6,A1,C,E,F,G,H,J]; exact ih _ _ _ _ _ _)
  ·intro h0 hw;refine⟨[],[(O,.keep [1,2,3,4,5,11,12,14,31,32,33,49,50,51,52,53,54,55,56,57,58,59,60,61,62,63,64,4] [5] [90000,3200,3456,3584])],X,X,?_⟩;try simp only[A8,A5,A6,zA,I,A1,C,E,F,G,H,J]
   refine Am (es:=Y rI ([]:P U)) X (by simp only[St.fresh,zB,zC,Ah]; simp[AV.cells,V1.cells,AC.uses]) ?_;try simp only[A1,C,E,F,G,H,J]
   exact Tq rec_ h_rec a1 a2 a3 x1 v5 r9 a0 v6 r18 h14 h15 h16 h17 h18 _ b0 b2 b8 b10 b13 b14
  ·intro h0 hw;obtain rfl:=hq hw 10 rfl rfl;refine⟨[],[(O,.keep [1,2,3,4,5,11,12,14,31,32,33,49,50,51,52,53,54,55,56,57,58,59,60,61,62,63,64,4] [5] [90000,3456,3584,3840])],X,X,?_⟩;try simp only[A8,A5,A6,zA,I,A1,C,E,F,G,H,J]
   refine Am (es:=Y rI ([v5]:P U)) X (by simp only[St.fresh,zB,zC,Ah]; simp[AV.cells,V1.cells,AC.uses]) ?_;try simp only[A1,C,E,F,G,H,J]
   exact Tt rec_ h_rec a1 a2 a3 x1 v5 r9 a0 v6 r18 h14 h15 h16 h17 h18 _ b0 b2 b8 b13 b14
theorem aw(rec_:X1→(P U)→(P U)→U→(P (P U))→Q (P (P U)))(h_rec:∀(a0:X1) (a1 a2:P U) (a3:U) (a4:P (P U)) zr,rec_ a0 a1 a2 a3 a4=N zr→FCt Z 217 [.d (.ag (X1.row a0)),.d (.sc (.sl (Y rI a1))),.d (.sc (.sl (Y rI a2))),.d (.sc (.int .i64 a3)),.r] 1 (Y (rL rI) a4) (Y (rL rI) zr))(a1 a2:P U)(a3)(x1:U)(v5)(r9)(a0)(v6)(r18)(h14:(A3 ([]:P U).length a1.length 8)=T)(h15:(A3 a1.length ([r9]:P U).length 8)=T)(h16:(A3 ([]:P U).length a2.length 8)=T)(h17:(A3 a2.length ([v5]:P U).length 8)=T)(h18:rec_ a0 (a1++([r9]:P U)) (a2++([v5]:P U)) a3 v6=N r18):∀(f:W) (b0 b2:V) (b8 b13 b14:V),Ab Z B2 (AW a1 a2 a3 x1 v5 r9 a0 r18) f [b0,L,b2,L,T,T,L,L,b8,L,T,T,L,b13,b14,L,L] (A8 a1 a2 a3 x1 v5 r9 a0 (vc (.own 90000)) (vc (.own 3200)) (vc (.own 3200)) (vc (.own 3200)) (vc (.own 3584)) (vc (.own 3584)) (vc (.own 3584)) (vc (.own 90000)) (vc (.own 90000)) b0 L b2 L T T L L b8 L T T L b13 b14 L [(5,[aL (Y X7.row a0.Points),aL (Y X2.row a0.Segments)])] [(90000,1,Y (rL rI) v6),(3456,1,Y rI ([r9]:P U)),(3840,1,Y rI ([v5]:P U))]):=by
 intro f
 induction f with
 | zero=>intro b0 b2 b8 b13 b14 h; simp at h
 | succ f ih=>
  intro b0 b2 b8 b13 b14;refine Ad ⟨?_,?_,?_,?_,?_,?_,?_,?_,?_,?_,?_,?_,?_,?_,?_,?_,?_,⟨⟩⟩<;>try first | (intro h; cases h; done) | (intro _ hw; simp at hw; done) | (intro h0 hw; obtain rfl:=hz h0 rfl; refine np ?_; simp only[A8,A5,A6,A1,C,E,F,G,H,J]; exact ih _ _ _ _ _)
  ·intro h0 hw;refine⟨[],[(O,.keep [1,2,3,4,5,11,12,14,31,32,33,49,50,51,52,53,54,55,56,57,58,59,60,61,62,63,64,4] [5] [90000,3200,3456,3840])],X,X,?_⟩;try simp only[A8,A5,A6,zA,I,A1,C,E,F,G,H,J]
   refine Am (es:=Y rI ([]:P U)) X (by simp only[St.fresh,zB,zC,Ah]; simp[AV.cells,V1.cells,AC.uses]) ?_;try simp only[A1,C,E,F,G,H,J]
   exact Tr rec_ h_rec a1 a2 a3 x1 v5 r9 a0 v6 r18 h14 h15 h16 h17 h18 _ b0 b2 b8 b13 b14
  ·intro h0 hw;refine⟨[],[(O,.keep [1,2,3,4,5,11,12,14,31,32,33,49,50,51,52,53,54,55,56,57,58,59,60,61,62,63,64,4] [5] [90000,3456,3584,3840])],X,X,?_⟩;try simp only[A8,A5,A6,zA,I,A1,C,E,F,G,H,J]
   refine Am (es:=Y rI ([]:P U)) X (by simp only[St.fresh,zB,zC,Ah]; simp[AV.cells,V1.cells,AC.uses]) ?_;try simp only[A1,C,E,F,G,H,J]
   exact Tt rec_ h_rec a1 a2 a3 x1 v5 r9 a0 v6 r18 h14 h15 h16 h17 h18 _ b0 b2 b8 b13 b14
theorem az(rec_:X1→(P U)→(P U)→U→(P (P U))→Q (P (P U)))(h_rec:∀(a0:X1) (a1 a2:P U) (a3:U) (a4:P (P U)) zr,rec_ a0 a1 a2 a3 a4=N zr→FCt Z 217 [.d (.ag (X1.row a0)),.d (.sc (.sl (Y rI a1))),.d (.sc (.sl (Y rI a2))),.d (.sc (.int .i64 a3)),.r] 1 (Y (rL rI) a4) (Y (rL rI) zr))(a1 a2:P U)(a3)(x1:U)(v5)(r9)(a0)(v6)(r18)(h14:(A3 ([]:P U).length a1.length 8)=T)(h15:(A3 a1.length ([r9]:P U).length 8)=T)(h16:(A3 ([]:P U).length a2.length 8)=T)(h17:(A3 a2.length ([v5]:P U).length 8)=T)(h18:rec_ a0 (a1++([r9]:P U)) (a2++([v5]:P U)) a3 v6=N r18):∀(f:W) (b0 b2:V) (b4 b8:V) (b13 b14:V),Ab Z B2 (AW a1 a2 a3 x1 v5 r9 a0 r18) f [b0,L,b2,L,b4,L,L,T,b8,L,T,T,L,b13,b14,L,L] (A8 a1 a2 a3 x1 v5 r9 a0 (vc (.own 90000)) (vc (.own 3200)) (vc (.own 3200)) (vc (.own 3200)) (vc (.own 3584)) (vc (.own 3584)) (vc (.own 3584)) (vc (.own 90000)) (vc (.own 90000)) b0 L b2 L b4 L L T b8 L T T L b13 b14 L [(5,[aL (Y X7.row a0.Points),aL (Y X2.row a0.Segments)])] [(90000,1,Y (rL rI) v6),(3584,1,Y rI ([]:P U)),(3840,1,Y rI ([v5]:P U))]):=by
 intro f
 induction f with
 | zero=>intro b0 b2 b4 b8 b13 b14 h; simp at h
 | succ f ih=>
  intro b0 b2 b4 b8 b13 b14;refine Ad ⟨?_,?_,?_,?_,?_,?_,?_,?_,?_,?_,?_,?_,?_,?_,?_,?_,?_,⟨⟩⟩<;>try first | (intro h; cases h; done) | (intro _ hw; simp at hw; done) | (intro h0 hw; obtain rfl:=hz h0 rfl; refine np ?_; simp only[A8,A5,A6,A1,C,E,F,G,H,J]; exact ih _ _ _ _ _ _)
  ·intro h0 hw;refine⟨[],[(O,.keep [1,2,3,4,5,11,12,14,31,32,33,49,50,51,52,53,54,55,56,57,58,59,60,61,62,63,64,4] [5] [90000,3200,3584,3840])],X,X,?_⟩;try simp only[A8,A5,A6,zA,I,A1,C,E,F,G,H,J]
   refine Am (es:=Y rI ([]:P U)) X (by simp only[St.fresh,zB,zC,Ah]; simp[AV.cells,V1.cells,AC.uses]) ?_;try simp only[A1,C,E,F,G,H,J]
   exact Ts rec_ h_rec a1 a2 a3 x1 v5 r9 a0 v6 r18 h14 h15 h16 h17 h18 _ b0 b2 b4 b8 b13 b14
  ·intro h0 hw;obtain rfl:=hq hw 4 rfl rfl;refine⟨[],[(O,.keep [1,2,3,4,5,11,12,14,31,32,33,49,50,51,52,53,54,55,56,57,58,59,60,61,62,63,64,4] [5] [90000,3456,3584,3840])],X,X,?_⟩;try simp only[A8,A5,A6,zA,I,A1,C,E,F,G,H,J]
   refine Am (es:=Y rI ([r9]:P U)) X (by simp only[St.fresh,zB,zC,Ah]; simp[AV.cells,V1.cells,AC.uses]) ?_;try simp only[A1,C,E,F,G,H,J]
   exact Tt rec_ h_rec a1 a2 a3 x1 v5 r9 a0 v6 r18 h14 h15 h16 h17 h18 _ b0 b2 b8 b13 b14
theorem A5c(rec_:X1→(P U)→(P U)→U→(P (P U))→Q (P (P U)))(h_rec:∀(a0:X1) (a1 a2:P U) (a3:U) (a4:P (P U)) zr,rec_ a0 a1 a2 a3 a4=N zr→FCt Z 217 [.d (.ag (X1.row a0)),.d (.sc (.sl (Y rI a1))),.d (.sc (.sl (Y rI a2))),.d (.sc (.int .i64 a3)),.r] 1 (Y (rL rI) a4) (Y (rL rI) zr))(a1 a2:P U)(a3)(x1:U)(v5)(r9)(a0)(v6)(r18)(h14:(A3 ([]:P U).length a1.length 8)=T)(h15:(A3 a1.length ([r9]:P U).length 8)=T)(h16:(A3 ([]:P U).length a2.length 8)=T)(h17:(A3 a2.length ([v5]:P U).length 8)=T)(h18:rec_ a0 (a1++([r9]:P U)) (a2++([v5]:P U)) a3 v6=N r18):∀(f:W) (b0 b2:V) (b4 b8:V) (b10 b13 b14:V),Ab Z B2 (AW a1 a2 a3 x1 v5 r9 a0 r18) f [b0,T,b2,L,b4,L,L,L,b8,L,b10,L,L,b13,b14,L,L] (A8 a1 a2 a3 x1 v5 r9 a0 (vc (.own 90000)) (vc (.own 3200)) (vc (.own 3200)) (vc (.own 3200)) (vc (.own 3584)) (vc (.own 3584)) (vc (.own 3584)) (vc (.own 90000)) (vc (.own 90000)) b0 T b2 L b4 L L L b8 L b10 L L b13 b14 L [(5,[aL (Y X7.row a0.Points),aL (Y X2.row a0.Segments)])] [(90000,1,Y (rL rI) v6),(3200,1,Y rI ([]:P U))]):=by
 intro f
 induction f with
 | zero=>intro b0 b2 b4 b8 b10 b13 b14 h; simp at h
 | succ f ih=>
  intro b0 b2 b4 b8 b10 b13 b14;refine Ad ⟨?_,?_,?_,?_,?_,?_,?_,?_,?_,?_,?_,?_,?_,?_,?_,?_,?_,⟨⟩⟩<;>try first | (intro h; cases h; done) | (intro _ hw; simp at hw; done) | (intro h0 hw; obtain rfl:=hz h0 rfl; refine np ?_; simp only[A8,A5,A6,A1,C,E,F,G,H,J]; exact ih _ _ _ _ _ _ _)
  ·intro h0 hw;obtain rfl:=hq hw 2 rfl rfl;refine⟨[],[(O,.keep [1,2,3,4,5,11,12,14,31,32,33,49,50,51,52,53,54,55,56,57,58,59,60,61,62,63,64,4] [5] [90000,3200])],X,X,?_⟩;try simp only[h14,A8,A5,A6,zA,I,A1,C,E,F,G,H,J]
   exact A5a rec_ h_rec a1 a2 a3 x1 v5 r9 a0 v6 r18 h14 h15 h16 h17 h18 _ b0 b4 b8 b10 b13 b14
  ·intro h0 hw;obtain rfl:=hq hw 4 rfl rfl;refine⟨[],[(O,.keep [1,2,3,4,5,11,12,14,31,32,33,49,50,51,52,53,54,55,56,57,58,59,60,61,62,63,64,4] [5] [90000,3200,3456])],X,X,?_⟩;try simp only[A8,A5,A6,zA,I,A1,C,E,F,G,H,J]
   refine Am (es:=Y rI ([r9]:P U)) X (by simp only[St.fresh,zB,zC,Ah]; simp[AV.cells,V1.cells,AC.uses]) ?_;try simp only[A1,C,E,F,G,H,J]
   exact aq rec_ h_rec a1 a2 a3 x1 v5 r9 a0 v6 r18 h14 h15 h16 h17 h18 _ b0 b2 b8 b10 b13 b14
  ·intro h0 hw;refine⟨[],[(O,.keep [1,2,3,4,5,11,12,14,31,32,33,49,50,51,52,53,54,55,56,57,58,59,60,61,62,63,64,4] [5] [90000,3200,3584])],X,X,?_⟩;try simp only[A8,A5,A6,zA,I,A1,C,E,F,G,H,J]
   refine Am (es:=Y rI ([]:P U)) X (by simp only[St.fresh,zB,zC,Ah]; simp[AV.cells,V1.cells,AC.uses]) ?_;try simp only[A1,C,E,F,G,H,J]
   exact ar rec_ h_rec a1 a2 a3 x1 v5 r9 a0 v6 r18 h14 h15 h16 h17 h18 _ b0 b2 b4 b8 b10 b13 b14
  ·intro h0 hw;obtain rfl:=hq hw 10 rfl rfl;refine⟨[],[(O,.keep [1,2,3,4,5,11,12,14,31,32,33,49,50,51,52,53,54,55,56,57,58,59,60,61,62,63,64,4] [5] [90000,3200,3840])],X,X,?_⟩;try simp only[A8,A5,A6,zA,I,A1,C,E,F,G,H,J]
   refine Am (es:=Y rI ([v5]:P U)) X (by simp only[St.fresh,zB,zC,Ah]; simp[AV.cells,V1.cells,AC.uses]) ?_;try simp only[A1,C,E,F,G,H,J]
   exact as_ rec_ h_rec a1 a2 a3 x1 v5 r9 a0 v6 r18 h14 h15 h16 h17 h18 _ b0 b2 b4 b8 b13 b14
theorem A5d(rec_:X1→(P U)→(P U)→U→(P (P U))→Q (P (P U)))(h_rec:∀(a0:X1) (a1 a2:P U) (a3:U) (a4:P (P U)) zr,rec_ a0 a1 a2 a3 a4=N zr→FCt Z 217 [.d (.ag (X1.row a0)),.d (.sc (.sl (Y rI a1))),.d (.sc (.sl (Y rI a2))),.d (.sc (.int .i64 a3)),.r] 1 (Y (rL rI) a4) (Y (rL rI) zr))(a1 a2:P U)(a3)(x1:U)(v5)(r9)(a0)(v6)(r18)(h14:(A3 ([]:P U).length a1.length 8)=T)(h15:(A3 a1.length ([r9]:P U).length 8)=T)(h16:(A3 ([]:P U).length a2.length 8)=T)(h17:(A3 a2.length ([v5]:P U).length 8)=T)(h18:rec_ a0 (a1++([r9]:P U)) (a2++([v5]:P U)) a3 v6=N r18):∀(f:W) (b0 b2:V) (b8 b10:V) (b13 b14:V),Ab Z B2 (AW a1 a2 a3 x1 v5 r9 a0 r18) f [b0,L,b2,L,T,T,L,L,b8,L,b10,L,L,b13,b14,L,L] (A8 a1 a2 a3 x1 v5 r9 a0 (vc (.own 90000)) (vc (.own 3200)) (vc (.own 3200)) (vc (.own 3200)) (vc (.own 3584)) (vc (.own 3584)) (vc (.own 3584)) (vc (.own 90000)) (vc (.own 90000)) b0 L b2 L T T L L b8 L b10 L L b13 b14 L [(5,[aL (Y X7.row a0.Points),aL (Y X2.row a0.Segments)])] [(90000,1,Y (rL rI) v6),(3456,1,Y rI ([r9]:P U))]):=by
 intro f
 induction f with
 | zero=>intro b0 b2 b8 b10 b13 b14 h; simp at h
 | succ f ih=>
  intro b0 b2 b8 b10 b13 b14;refine Ad ⟨?_,?_,?_,?_,?_,?_,?_,?_,?_,?_,?_,?_,?_,?_,?_,?_,?_,⟨⟩⟩<;>try first | (intro h; cases h; done) | (intro _ hw; simp at hw; done) | (intro h0 hw; obtain rfl:=hz h0 rfl; refine np ?_; simp only[A8,A5,A6,A1,C,E,F,G,H,J]; exact ih _ _ _ _ _ _)
  ·intro h0 hw;refine⟨[],[(O,.keep [1,2,3,4,5,11,12,14,31,32,33,49,50,51,52,53,54,55,56,57,58,59,60,61,62,63,64,4] [5] [90000,3200,3456])],X,X,?_⟩;try simp only[A8,A5,A6,zA,I,A1,C,E,F,G,H,J]
   refine Am (es:=Y rI ([]:P U)) X (by simp only[St.fresh,zB,zC,Ah]; simp[AV.cells,V1.cells,AC.uses]) ?_;try simp only[A1,C,E,F,G,H,J]
   exact aq rec_ h_rec a1 a2 a3 x1 v5 r9 a0 v6 r18 h14 h15 h16 h17 h18 _ b0 b2 b8 b10 b13 b14
  ·intro h0 hw;refine⟨[],[(O,.keep [1,2,3,4,5,11,12,14,31,32,33,49,50,51,52,53,54,55,56,57,58,59,60,61,62,63,64,4] [5] [90000,3456,3584])],X,X,?_⟩;try simp only[A8,A5,A6,zA,I,A1,C,E,F,G,H,J]
   refine Am (es:=Y rI ([]:P U)) X (by simp only[St.fresh,zB,zC,Ah]; simp[AV.cells,V1.cells,AC.uses]) ?_;try simp only[A1,C,E,F,G,H,J]
   exact au rec_ h_rec a1 a2 a3 x1 v5 r9 a0 v6 r18 h14 h15 h16 h17 h18 _ b0 b2 b8 b10 b13 b14
  ·intro h0 hw;obtain rfl:=hq hw 10 rfl rfl;refine⟨[],[(O,.keep [1,2,3,4,5,11,12,14,31,32,33,49,50,51,52,53,54,55,56,57,58,59,60,61,62,63,64,4] [5] [90000,3456,3840])],X,X,?_⟩;try simp only[A8,A5,A6,zA,I,A1,C,E,F,G,H,J]
   refine Am (es:=Y rI ([v5]:P U)) X (by simp only[St.fresh,zB,zC,Ah]; simp[AV.cells,V1.cells,AC.uses]) ?_;try simp only[A1,C,E,F,G,H,J]
   exact aw rec_ h_rec a1 a2 a3 x1 v5 r9 a0 v6 r18 h14 h15 h16 h17 h18 _ b0 b2 b8 b13 b14
theorem A5e(rec_:X1→(P U)→(P U)→U→(P (P U))→Q (P (P U)))(h_rec:∀(a0:X1) (a1 a2:P U) (a3:U) (a4:P (P U)) zr,rec_ a0 a1 a2 a3 a4=N zr→FCt Z 217 [.d (.ag (X1.row a0)),.d (.sc (.sl (Y rI a1))),.d (.sc (.sl (Y rI a2))),.d (.sc (.int .i64 a3)),.r] 1 (Y (rL rI) a4) (Y (rL rI) zr))(a1 a2:P U)(a3)(x1:U)(v5)(r9)(a0)(v6)(r18)(h14:(A3 ([]:P U).length a1.length 8)=T)(h15:(A3 a1.length ([r9]:P U).length 8)=T)(h16:(A3 ([]:P U).length a2.length 8)=T)(h17:(A3 a2.length ([v5]:P U).length 8)=T)(h18:rec_ a0 (a1++([r9]:P U)) (a2++([v5]:P U)) a3 v6=N r18):∀(f:W) (b0 b2:V) (b4 b8:V) (b10 b13 b14:V),Ab Z B2 (AW a1 a2 a3 x1 v5 r9 a0 r18) f [b0,L,b2,L,b4,L,L,T,b8,L,b10,L,L,b13,b14,L,L] (A8 a1 a2 a3 x1 v5 r9 a0 (vc (.own 90000)) (vc (.own 3200)) (vc (.own 3200)) (vc (.own 3200)) (vc (.own 3584)) (vc (.own 3584)) (vc (.own 3584)) (vc (.own 90000)) (vc (.own 90000)) b0 L b2 L b4 L L T b8 L b10 L L b13 b14 L [(5,[aL (Y X7.row a0.Points),aL (Y X2.row a0.Segments)])] [(90000,1,Y (rL rI) v6),(3584,1,Y rI ([]:P U))]):=by
 intro f
 induction f with
 | zero=>intro b0 b2 b4 b8 b10 b13 b14 h; simp at h
 | succ f ih=>
  intro b0 b2 b4 b8 b10 b13 b14;refine Ad ⟨?_,?_,?_,?_,?_,?_,?_,?_,?_,?_,?_,?_,?_,?_,?_,?_,?_,⟨⟩⟩<;>try first | (intro h; cases h; done) | (intro _ hw; simp at hw; done) | (intro h0 hw; obtain rfl:=hz h0 rfl; refine np ?_; simp only[A8,A5,A6,A1,C,E,F,G,H,J]; exact ih _ _ _ _ _ _ _)
  ·intro h0 hw;refine⟨[],[(O,.keep [1,2,3,4,5,11,12,14,31,32,33,49,50,51,52,53,54,55,56,57,58,59,60,61,62,63,64,4] [5] [90000,3200,3584])],X,X,?_⟩;try simp only[A8,A5,A6,zA,I,A1,C,E,F,G,H,J]
   refine Am (es:=Y rI ([]:P U)) X (by simp only[St.fresh,zB,zC,Ah]; simp[AV.cells,V1.cells,AC.uses]) ?_;try simp only[A1,C,E,F,G,H,J]
   exact ar rec_ h_rec a1 a2 a3 x1 v5 r9 a0 v6 r18 h14 h15 h16 h17 h18 _ b0 b2 b4 b8 b10 b13 b14
  ·intro h0 hw;obtain rfl:=hq hw 4 rfl rfl;refine⟨[],[(O,.keep [1,2,3,4,5,11,12,14,31,32,33,49,50,51,52,53,54,55,56,57,58,59,60,61,62,63,64,4] [5] [90000,3456,3584])],X,X,?_⟩;try simp only[A8,A5,A6,zA,I,A1,C,E,F,G,H,J]
   refine Am (es:=Y rI ([r9]:P U)) X (by simp only[St.fresh,zB,zC,Ah]; simp[AV.cells,V1.cells,AC.uses]) ?_;try simp only[A1,C,E,F,G,H,J]
   exact au rec_ h_rec a1 a2 a3 x1 v5 r9 a0 v6 r18 h14 h15 h16 h17 h18 _ b0 b2 b8 b10 b13 b14
  ·intro h0 hw;obtain rfl:=hq hw 10 rfl rfl;refine⟨[],[(O,.keep [1,2,3,4,5,11,12,14,31,32,33,49,50,51,52,53,54,55,56,57,58,59,60,61,62,63,64,4] [5] [90000,3584,3840])],X,X,?_⟩;try simp only[A8,A5,A6,zA,I,A1,C,E,F,G,H,J]
   refine Am (es:=Y rI ([v5]:P U)) X (by simp only[St.fresh,zB,zC,Ah]; simp[AV.cells,V1.cells,AC.uses]) ?_;try simp only[A1,C,E,F,G,H,J]
   exact az rec_ h_rec a1 a2 a3 x1 v5 r9 a0 v6 r18 h14 h15 h16 h17 h18 _ b0 b2 b4 b8 b13 b14
theorem A5f(rec_:X1→(P U)→(P U)→U→(P (P U))→Q (P (P U)))(h_rec:∀(a0:X1) (a1 a2:P U) (a3:U) (a4:P (P U)) zr,rec_ a0 a1 a2 a3 a4=N zr→FCt Z 217 [.d (.ag (X1.row a0)),.d (.sc (.sl (Y rI a1))),.d (.sc (.sl (Y rI a2))),.d (.sc (.int .i64 a3)),.r] 1 (Y (rL rI) a4) (Y (rL rI) zr))(a1 a2:P U)(a3)(x1:U)(v5)(r9)(a0)(v6)(r18)(h14:(A3 ([]:P U).length a1.length 8)=T)(h15:(A3 a1.length ([r9]:P U).length 8)=T)(h16:(A3 ([]:P U).length a2.length 8)=T)(h17:(A3 a2.length ([v5]:P U).length 8)=T)(h18:rec_ a0 (a1++([r9]:P U)) (a2++([v5]:P U)) a3 v6=N r18):∀(f:W) (b0 b2:V) (b4 b8:V) (b13 b14:V),Ab Z B2 (AW a1 a2 a3 x1 v5 r9 a0 r18) f [b0,L,b2,L,b4,L,L,L,b8,L,T,T,L,b13,b14,L,L] (A8 a1 a2 a3 x1 v5 r9 a0 (vc (.own 90000)) (vc (.own 3200)) (vc (.own 3200)) (vc (.own 3200)) (vc (.own 3584)) (vc (.own 3584)) (vc (.own 3584)) (vc (.own 90000)) (vc (.own 90000)) b0 L b2 L b4 L L L b8 L T T L b13 b14 L [(5,[aL (Y X7.row a0.Points),aL (Y X2.row a0.Segments)])] [(90000,1,Y (rL rI) v6),(3840,1,Y rI ([v5]:P U))]):=by
 intro f
 induction f with
 | zero=>intro b0 b2 b4 b8 b13 b14 h; simp at h
 | succ f ih=>
  intro b0 b2 b4 b8 b13 b14;refine Ad ⟨?_,?_,?_,?_,?_,?_,?_,?_,?_,?_,?_,?_,?_,?_,?_,?_,?_,⟨⟩⟩<;>try first | (intro h; cases h; done) | (intro _ hw; simp at hw; done) | (intro h0 hw; obtain rfl:=hz h0 rfl; refine np ?_; simp only[A8,A5,A6,A1,C,E,F,G,H,J]; exact ih _ _ _ _ _ _)
  ·intro h0 hw;refine⟨[],[(O,.keep [1,2,3,4,5,11,12,14,31,32,33,49,50,51,52,53,54,55,56,57,58,59,60,61,62,63,64,4] [5] [90000,3200,3840])],X,X,?_⟩;try simp only[A8,A5,A6,zA,I,A1,C,E,F,G,H,J]
   refine Am (es:=Y rI ([]:P U)) X (by simp only[St.fresh,zB,zC,Ah]; simp[AV.cells,V1.cells,AC.uses]) ?_;try simp only[A1,C,E,F,G,H,J]
   exact as_ rec_ h_rec a1 a2 a3 x1 v5 r9 a0 v6 r18 h14 h15 h16 h17 h18 _ b0 b2 b4 b8 b13 b14
  ·intro h0 hw;obtain rfl:=hq hw 4 rfl rfl;refine⟨[],[(O,.keep [1,2,3,4,5,11,12,14,31,32,33,49,50,51,52,53,54,55,56,57,58,59,60,61,62,63,64,4] [5] [90000,3456,3840])],X,X,?_⟩;try simp only[A8,A5,A6,zA,I,A1,C,E,F,G,H,J]
   refine Am (es:=Y rI ([r9]:P U)) X (by simp only[St.fresh,zB,zC,Ah]; simp[AV.cells,V1.cells,AC.uses]) ?_;try simp only[A1,C,E,F,G,H,J]
   exact aw rec_ h_rec a1 a2 a3 x1 v5 r9 a0 v6 r18 h14 h15 h16 h17 h18 _ b0 b2 b8 b13 b14
  ·intro h0 hw;refine⟨[],[(O,.keep [1,2,3,4,5,11,12,14,31,32,33,49,50,51,52,53,54,55,56,57,58,59,60,61,62,63,64,4] [5] [90000,3584,3840])],X,X,?_⟩;try simp only[A8,A5,A6,zA,I,A1,C,E,F,G,H,J]
   refine Am (es:=Y rI ([]:P U)) X (by simp only[St.fresh,zB,zC,Ah]; simp[AV.cells,V1.cells,AC.uses]) ?_;try simp only[A1,C,E,F,G,H,J]
   exact az rec_ h_rec a1 a2 a3 x1 v5 r9 a0 v6 r18 h14 h15 h16 h17 h18 _ b0 b2 b4 b8 b13 b14
theorem A5g(rec_:X1→(P U)→(P U)→U→(P (P U))→Q (P (P U)))(h_rec:∀(a0:X1) (a1 a2:P U) (a3:U) (a4:P (P U)) zr,rec_ a0 a1 a2 a3 a4=N zr→FCt Z 217 [.d (.ag (X1.row a0)),.d (.sc (.sl (Y rI a1))),.d (.sc (.sl (Y rI a2))),.d (.sc (.int .i64 a3)),.r] 1 (Y (rL rI) a4) (Y (rL rI) zr))(a1 a2:P U)(a3)(x1:U)(v5)(r9)(a0)(v6)(r18)(h14:(A3 ([]:P U).length a1.length 8)=T)(h15:(A3 a1.length ([r9]:P U).length 8)=T)(h16:(A3 ([]:P U).length a2.length 8)=T)(h17:(A3 a2.length ([v5]:P U).length 8)=T)(h18:rec_ a0 (a1++([r9]:P U)) (a2++([v5]:P U)) a3 v6=N r18):∀(f:W) (b0 b2:V) (b4 b8:V) (b10 b13 b14:V),Ab Z B2 (AW a1 a2 a3 x1 v5 r9 a0 r18) f [b0,L,b2,L,b4,L,L,L,b8,L,b10,L,L,b13,b14,L,L] (A8 a1 a2 a3 x1 v5 r9 a0 (vc (.own 90000)) (vc (.own 3200)) (vc (.own 3200)) (vc (.own 3200)) (vc (.own 3584)) (vc (.own 3584)) (vc (.own 3584)) (vc (.own 90000)) (.undef) b0 L b2 L b4 L L L b8 L b10 L L b13 b14 L [(5,[aL (Y X7.row a0.Points),aL (Y X2.row a0.Segments)])] [(90000,1,Y (rL rI) v6)]):=by
 intro f
 induction f with
 | zero=>intro b0 b2 b4 b8 b10 b13 b14 h; simp at h
 | succ f ih=>
  intro b0 b2 b4 b8 b10 b13 b14;refine Ad ⟨?_,?_,?_,?_,?_,?_,?_,?_,?_,?_,?_,?_,?_,?_,?_,?_,?_,⟨⟩⟩<;>try first | (intro _ hw; simp at hw; done) | (intro h0 hw; obtain rfl:=hz h0 rfl; refine np ?_; simp only[A8,A5,A6,A1,C,E,F,G,H,J]; exact ih _ _ _ _ _ _ _)
  ·intro h0 hw;refine⟨[],[(O,.keep [1,2,3,4,5,11,12,14,31,32,33,49,50,51,52,53,54,55,56,57,58,59,60,61,62,63,64,4] [5] [90000,3200])],X,X,?_⟩;try simp only[A8,A5,A6,zA,I,A1,C,E,F,G,H,J]
   refine Am (es:=Y rI ([]:P U)) X (by simp only[St.fresh,zB,zC,Ah]; simp[AV.cells,V1.cells,AC.uses]) ?_;try simp only[A1,C,E,F,G,H,J]
   exact A5c rec_ h_rec a1 a2 a3 x1 v5 r9 a0 v6 r18 h14 h15 h16 h17 h18 _ b0 b2 b4 b8 b10 b13 b14
  ·intro h0 hw;obtain rfl:=hq hw 4 rfl rfl;refine⟨[],[(O,.keep [1,2,3,4,5,11,12,14,31,32,33,49,50,51,52,53,54,55,56,57,58,59,60,61,62,63,64,4] [5] [90000,3456])],X,X,?_⟩;try simp only[A8,A5,A6,zA,I,A1,C,E,F,G,H,J]
   refine Am (es:=Y rI ([r9]:P U)) X (by simp only[St.fresh,zB,zC,Ah]; simp[AV.cells,V1.cells,AC.uses]) ?_;try simp only[A1,C,E,F,G,H,J]
   exact A5d rec_ h_rec a1 a2 a3 x1 v5 r9 a0 v6 r18 h14 h15 h16 h17 h18 _ b0 b2 b8 b10 b13 b14
  ·intro h0 hw;refine⟨[],[(O,.keep [1,2,3,4,5,11,12,14,31,32,33,49,50,51,52,53,54,55,56,57,58,59,60,61,62,63,64,4] [5] [90000,3584])],X,X,?_⟩;try simp only[A8,A5,A6,zA,I,A1,C,E,F,G,H,J]
   refine Am (es:=Y rI ([]:P U)) X (by simp only[St.fresh,zB,zC,Ah]; simp[AV.cells,V1.cells,AC.uses]) ?_;try simp only[A1,C,E,F,G,H,J]
   exact A5e rec_ h_rec a1 a2 a3 x1 v5 r9 a0 v6 r18 h14 h15 h16 h17 h18 _ b0 b2 b4 b8 b10 b13 b14
  ·intro h0 hw;obtain rfl:=hq hw 10 rfl rfl;refine⟨[],[(O,.keep [1,2,3,4,5,11,12,14,31,32,33,49,50,51,52,53,54,55,56,57,58,59,60,61,62,63,64,4] [5] [90000,3840])],X,X,?_⟩;try simp only[A8,A5,A6,zA,I,A1,C,E,F,G,H,J]
   refine Am (es:=Y rI ([v5]:P U)) X (by simp only[St.fresh,zB,zC,Ah]; simp[AV.cells,V1.cells,AC.uses]) ?_;try simp only[A1,C,E,F,G,H,J]
   exact A5f rec_ h_rec a1 a2 a3 x1 v5 r9 a0 v6 r18 h14 h15 h16 h17 h18 _ b0 b2 b4 b8 b13 b14
def dv:=fun a1 a2 a3 x1 v5 r9 (a0:X1) v6 (k_:V→Q (P (P U)))=>∀{v12} {zr},k_ v12=N zr→Kh Z 217 Qb 31 [1,2,3,4,5,11,12,14,31,32,33,48] [5] [90000] ⟨[pL 1 rI a1,pL 2 rI a2,pI 3 a3,pW 4 90000,pB 5,pI 11 x1,pI 12 v5,pI 14 r9,pL 31 X2.row a0.Segments,pI 32 (a0.Segments.length:U),pI 33 v5,(48,vc (aB v12))],[(5,[aM X7.row a0.Points,aM X2.row a0.Segments])],[(90000,1,Y (rL rI) v6)]⟩ (OP [10] 1 (Y (rL rI) zr))
def TX:=fun a1 a2 a3 x1 (a0:X1) (k_:U→(P (P U))→Q (P (P U)))=>∀{v5 v6} {zr},k_ v5 v6=N zr→Kh Z 217 Qb 16 [1,2,3,4,5,11,31,32,33] [5] [90000] ⟨[pL 1 rI a1,pL 2 rI a2,pI 3 a3,pW 4 90000,pB 5,pI 11 x1,pL 31 X2.row a0.Segments,pI 32 (a0.Segments.length:U),pI 33 v5],[(5,[aM X7.row a0.Points,aM X2.row a0.Segments])],[(90000,1,Y (rL rI) v6)]⟩ (OP [10] 1 (Y (rL rI) zr))
theorem bA{rec_:X1→(P U)→(P U)→U→(P (P U))→Q (P (P U))}(h_rec:∀(a0:X1) (a1 a2:P U) (a3:U) (a4:P (P U)) zr,rec_ a0 a1 a2 a3 a4=N zr→FCt Z 217 [.d (.ag (X1.row a0)),.d (.sc (.sl (Y rI a1))),.d (.sc (.sl (Y rI a2))),.d (.sc (.int .i64 a3)),.r] 1 (Y (rL rI) a4) (Y (rL rI) zr)){a1 a2 a3 x1 v5 r9 a0 v6}{NW}(WG:TX a1 a2 a3 x1 a0 NW):dv a1 a2 a3 x1 v5 r9 a0 v6 (Iy rec_ a1 a2 a3 x1 v5 r9 a0 v6 NW):=by
 intro v12 r h σ hσ S hS
 conv at hS=>rhs; reduce
 try simp only[zI,zH,Au,UInt8.reduceOfNat] at hS
 subst hS;refine AF ?_;unfold Iy at h;obtain⟨h13,h⟩|⟨h13,h⟩:=ic h
 ·try simp only[hσ,h13,C,E,F,G,H,J]
  obtain⟨h14,h⟩:=B5 h;obtain⟨h15,h⟩:=B5 h;obtain⟨h16,h⟩:=B5 h;obtain⟨h17,h⟩:=B5 h;obtain⟨r18,h18,h⟩:=ob h;refine DS (ks:= [1,2,3,4,5,11,12,14,31,32,33]) (bs:= [5]) (rs:= [90000]) (τ:=(AW a1 a2 a3 x1 v5 r9 a0 r18)) X (A5g rec_ h_rec a1 a2 a3 x1 v5 r9 a0 v6 r18 h14 h15 h16 h17 h18 _ L L L L L L L) ?_;simp only[AW,A8,A5];try simp only[h13,h14,h15,h16,h17,C,E,F,G,H,J]
  refine WG h ?_ (by kernel_rfl);try simp only[h13,h14,h15,h16,h17,C,E,F,G,H,J,pL,aM,zF]
 ·try simp only[hσ,h13,C,E,F,G,H,J]
  refine WG h ?_ (by kernel_rfl);try simp only[h13,C,E,F,G,H,J,pL,aM,zF]
theorem A5h{rec_:X1→(P U)→(P U)→U→(P (P U))→Q (P (P U))}(h_rec:∀(a0:X1) (a1 a2:P U) (a3:U) (a4:P (P U)) zr,rec_ a0 a1 a2 a3 a4=N zr→FCt Z 217 [.d (.ag (X1.row a0)),.d (.sc (.sl (Y rI a1))),.d (.sc (.sl (Y rI a2))),.d (.sc (.int .i64 a3)),.r] 1 (Y (rL rI) a4) (Y (rL rI) zr)){a1 a2 a3 x1 a0}{n:W}:TX a1 a2 a3 x1 a0 (Gk rec_ a1 a2 a3 x1 a0 n):=by
 induction n with
 | zero=>intro _ _ r h; cases h
 | succ n ih=>
  intro v5 v6 r h σ hσ S hS
  conv at hS=>rhs; reduce
  try simp only[zI,zH,Au,UInt8.reduceOfNat] at hS
  subst hS;rw[Gk] at h;refine AZ (AF ?_);obtain⟨h7,h⟩|⟨h7,h⟩:=ic h
  ·obtain⟨x8,h8,h⟩:=ob h;try simp only[hσ,h7,h8,C,E,F,G,H,J]
   refine Cd ?_;obtain⟨r9,h9,h⟩:=ob h;try simp only[h7,h8,C,E,F,G,H,J]
   refine AY (Aq ZW h9) ?_;obtain⟨h10,h⟩|⟨h10,h⟩:=ic h
   ·obtain⟨r11,h11,h⟩:=ob h;try simp only[h7,h8,h10,C,E,F,G,H,J]
    refine AY (Aq ZV h11) ?_;try simp only[h7,h8,h10,C,E,F,G,H,J]
    refine bA h_rec ih h ?_ (by kernel_rfl);try simp only[h7,h8,h10,C,E,F,G,H,J,pL,aM,zF]
   ·try simp only[h7,h8,h10,C,E,F,G,H,J]
    refine bA h_rec ih h ?_ (by kernel_rfl);try simp only[h7,h8,h10,C,E,F,G,H,J,pL,aM,zF]
  ·try simp only[hσ,h7,C,E,F,G,H,J]
   cases h;trivial
theorem kr:Ch Z 217=N ((H2 Z 217 Qb).strip,[10],67):=by kernel_rfl
theorem yg(rec_:X1→(P U)→(P U)→U→(P (P U))→Q (P (P U)))(a0:X1)(a1 a2:P U)(a3:U)(a4:P (P U))(r:(P (P U)))(h_rec:∀(a0:X1) (a1 a2:P U) (a3:U) (a4:P (P U)) zr,rec_ a0 a1 a2 a3 a4=N zr→FCt Z 217 [.d (.ag (X1.row a0)),.d (.sc (.sl (Y rI a1))),.d (.sc (.sl (Y rI a2))),.d (.sc (.int .i64 a3)),.r] 1 (Y (rL rI) a4) (Y (rL rI) zr))(h:PI rec_ a0 a1 a2 a3 a4=N r):FCt Z 217 [.d (.ag (X1.row a0)),.d (.sc (.sl (Y rI a1))),.d (.sc (.sl (Y rI a2))),.d (.sc (.int .i64 a3)),.r] 1 (Y (rL rI) a4) (Y (rL rI) r):=by
 unfold PI at h;refine bP (σ:=⟨[(0,va [aL (Y X7.row a0.Points),aL (Y X2.row a0.Segments)]),(1,vc (aL (Y rI a1))),(2,vc (aL (Y rI a2))),(3,vc (aI a3)),(4,vc (.own 90000))],[],[(90000,1,Y (rL rI) a4)]⟩) mixed kr X X ?_;refine Jk Qb ?_;have s0:= @Ai (Y rI ([]:P U));have s1:= @Ai (Y (rL rI) ([a2]:P (P U)));have k0:= @A5h;exact gc
theorem yh:∀(n:W) (a0:X1) (a1:P U) (a2:P U) (a3:U) (a4:P (P U)) (r:(P (P U))),Gl n a0 a1 a2 a3 a4=N r→FCt Z 217 [.d (.ag (X1.row a0)),.d (.sc (.sl (Y rI a1))),.d (.sc (.sl (Y rI a2))),.d (.sc (.int .i64 a3)),.r] 1 (Y (rL rI) a4) (Y (rL rI) r):=by
 intro n
 induction n with
 | zero=>intro _ _ _ _ _ r h; cases h
 | succ n ih=>intro a0 a1 a2 a3 a4 r h; rw[Gl] at h; exact yg (Gl n) a0 a1 a2 a3 a4 r ih h
theorem yf{a0}{a1}{a2}{a3}{a4}{r}(h:RS a0 a1 a2 a3 a4=N r):FCt Z 217 [.d (.ag (X1.row a0)),.d (.sc (.sl (Y rI a1))),.d (.sc (.sl (Y rI a2))),.d (.sc (.int .i64 a3)),.r] 1 (Y (rL rI) a4) (Y (rL rI) r):=yh bigN a0 a1 a2 a3 a4 r h
/- 190:spec_RoutesBetween -/
def oZ:Hw:=([],[(11,5,(O,.frz 1920))])
instance B01:Ct 190 (∀{a0} {a1} {a2} {r},N0 a0 a1 a2=N r→FC Z 190 [.ag (X1.row a0),.sc (.int .i64 a1),.sc (.int .i64 a2)] [.sc (.o 1 (Y (rL rI) r))]):=by
 refine⟨fun{a0} {a1} {a2} {r} h=> ?_⟩;unfold N0 at h;refine A4 mixed oZ [6] 34 ?_;intro S hS
 conv at hS=>rhs; reduce
 try simp only[zI,zH,Au,UInt8.reduceOfNat] at hS
 subst hS;simp only[C,E,F,G,H,J];try simp only[C,E,F,G,H,J]
 refine C5 ?_;obtain⟨r1,h1,h⟩:=ob h;try simp only[C,E,F,G,H,J]
 refine AY (Aq ya h1) ?_;obtain⟨h2,h⟩|⟨h2,h⟩:=ic h
 ·obtain⟨r3,h3,h⟩:=ob h;try simp only[h2,C,E,F,G,H,J]
  refine AY (Aq QV h3) ?_;obtain⟨h4,h⟩|⟨h4,h⟩:=ic h
  ·obtain⟨r5,h5,h⟩:=ob h;try simp only[h2,h4,C,E,F,G,H,J]
   refine AY (Aq QV h5) ?_;obtain⟨h6,h⟩|⟨h6,h⟩:=ic h
   ·try simp only[h2,h4,h6,C,E,F,G,H,J]
    refine Bn (es:=Y rI ([a1]:P U)) ?_;try simp only[h2,h4,h6,C,E,F,G,H,J]
    refine Bn (es:=Y (rL rI) ([]:P (P U))) ?_;try simp only[h2,h4,h6,C,E,F,G,H,J]
    refine CF ?_;obtain⟨r7,h7,h⟩:=ob h;try simp only[h2,h4,h6,C,E,F,G,H,J]
    refine Vn (yf h7) 2048 X X X X X ?_;rw[Ut];try simp only[h2,h4,h6,C,E,F,G,H,J]
    cases h;exact t0
   ·try simp only[h2,h4,h6,C,E,F,G,H,J]
    cases h;exact t0
  ·try simp only[h2,h4,C,E,F,G,H,J]
   cases h;exact t0
 ·try simp only[h2,C,E,F,G,H,J]
  cases h;exact t0
/- 191:spec_RouteMinutes -/
def Ww:Hw:=([(16,[2,5,11,12,13],[2],[])],[])
def dg:=fun a1 (a0:X1) (k_:U→U→Q U)=>∀{v3 v4} {zr},k_ v3 v4=N zr→Kh Z 191 Ww 16 [2,5,11,12,13] [2] [] ⟨[pB 2,pI 5 v3,pL 11 rI a1,pI 12 (a1.length:U),pI 13 v4],[(2,[aM X7.row a0.Points,aM X2.row a0.Segments])],[]⟩ (A7 [4] [.sc (.v (.int .i64 zr))])
theorem A5i{a1 a0}{n:W}:dg a1 a0 (Iq a1 a0 n):=by
 induction n with
 | zero=>intro _ _ r h; cases h
 | succ n ih=>
  intro v3 v4 r h σ hσ;rw[Iq] at h;exact gc
instance ZU:Ct 191 (∀{a0} {a1} {r},Gg a0 a1=N r→FC Z 191 [.ag (X1.row a0),.sc (.sl (Y rI a1))] [.sc (.v (.int .i64 r))]):=by
 refine⟨fun h=> ?_⟩;unfold Gg at h;refine A4 mixed Ww [4] 34 ?_;have k0:= @A5i;exact gc
/- 166:spec_BestRoute -/
def Sn:Hw:=([(10,[3,8,9,16,17,18],[3],[1024]),(23,[3,8,9,11,16,17,18,32],[3],[1024])],[(3,1,(O,.frz 768))])
def dD:=fun v2 x6 r1 v4 (a0:X1) (k_:V→V→Q ((P U) × V))=>∀{v11 v12} {zr},k_ v11 v12=N zr→Kh Z 166 Sn 23 [3,8,9,11,16,17,18,32] [3] [1024] ⟨[pB 3,pL 8 rI v2,(9,vc (aB v11)),pL 11 rI x6,pW 16 1024,pI 17 (r1.length:U),pI 18 v4,(32,vc (aB v12))],[(3,[aM X7.row a0.Points,aM X2.row a0.Segments])],[(1024,1,Y (rL rI) r1)]⟩ (A7 [6,7] [.sc (.v (.sl (Y rI zr.1))),.sc (.v (.bool zr.2))])
def TM:=fun r1 (a0:X1) (k_:(P U)→V→U→Q ((P U) × V))=>∀{v2 v3 v4} {zr},k_ v2 v3 v4=N zr→Kh Z 166 Sn 10 [3,8,9,16,17,18] [3] [1024] ⟨[pB 3,pL 8 rI v2,(9,vc (aB v3)),pW 16 1024,pI 17 (r1.length:U),pI 18 v4],[(3,[aM X7.row a0.Points,aM X2.row a0.Segments])],[(1024,1,Y (rL rI) r1)]⟩ (A7 [6,7] [.sc (.v (.sl (Y rI zr.1))),.sc (.v (.bool zr.2))])
theorem bB{v2 x6 r1 v4 a0}{NQ}(ov:TM r1 a0 NQ):dD v2 x6 r1 v4 a0 (JU v2 x6 r1 v4 a0 NQ):=by
 intro v11 v12 r h σ hσ;unfold JU at h;have k0:= @ov;exact gc
theorem A5j{r1 a0}{n:W}:TM r1 a0 (F2 r1 a0 n):=by
 induction n with
 | zero=>intro _ _ _ r h; cases h
 | succ n ih=>
  intro v2 v3 v4 r h σ hσ S hS
  conv at hS=>rhs; reduce
  try simp only[zI,zH,Au,UInt8.reduceOfNat] at hS
  subst hS;rw[F2] at h;refine AZ (AF ?_);obtain⟨h5,h⟩|⟨h5,h⟩:=ic h
  ·obtain⟨x6,h6,h⟩:=ob h;have h6n:=B7 h6;try simp only[hσ,h5,h6,h6n,C,E,F,G,H,J]
   refine At ?_;obtain⟨h7,h⟩|⟨h7,h⟩:=ic h
   ·obtain⟨r9,h9,h⟩:=ob h;try simp only[h5,h6,h6n,h7,C,E,F,G,H,J]
    refine Cg (Aq ZU h9) ?_;obtain⟨r10,h10,h⟩:=ob h;try simp only[h5,h6,h6n,h7,C,E,F,G,H,J]
    refine Cg (Aq ZU h10) ?_;try simp only[h5,h6,h6n,h7,C,E,F,G,H,J]
    refine bB ih h ?_ (by kernel_rfl);try simp only[h5,h6,h6n,h7,C,E,F,G,H,J,pL,aM,zF]
   ·try simp only[h5,h6,h6n,h7,C,E,F,G,H,J]
    refine bB ih h ?_ (by kernel_rfl);try simp only[h5,h6,h6n,h7,C,E,F,G,H,J,pL,aM,zF]
  ·obtain⟨h14,h⟩|⟨h14,h⟩:=ic h
   ·try simp only[hσ,h5,h14,C,E,F,G,H,J]
    cases h;trivial
   ·try simp only[hσ,h5,h14,C,E,F,G,H,J]
    cases h;trivial
instance A95:Ct 166 (∀{a0} {a1} {a2} {r},MF a0 a1 a2=N r→FC Z 166 [.ag (X1.row a0),.sc (.int .i64 a1),.sc (.int .i64 a2)] [.sc (.v (.sl (Y rI r.1))),.sc (.v (.bool r.2))]):=by
 refine⟨fun h=> ?_⟩;unfold MF at h;refine A4 mixed Sn [6,7] 38 ?_;have s0:= @Ai (Y rI ([]:P U));have k0:= @A5j;exact gc
/- 238:spec_l07Ok -/
instance B1i:Ct 238 (∀{a0} {a1} {a2} {r},Iz a0 a1 a2=N r→FC Z 238 [.ag (X1.row a0),.sc (.int .i64 a1),.ag (X6.row a2)] [.sc (.v (.bool r))]):=by
 refine⟨fun h=> ?_⟩;unfold Iz at h;refine A4 mixed h0 [6] 21 ?_;exact gc
/- 277:spec_SquatOf -/
instance B05:Ct 277 (∀{a0} {r},PH a0=N r→FC Z 277 [.ag (X6.row a0)] [.sc (.v (.int .i64 r))]):=by
 refine⟨fun h=> ?_⟩;unfold PH at h;refine A4 mixed h0 [2] 14 ?_;exact gc
/- 264:spec_NeedOf -/
instance B0o:Ct 264 (∀{a0} {r},PF a0=N r→FC Z 264 [.ag (X6.row a0)] [.sc (.v (.int .i64 r))]):=by
 refine⟨fun h=> ?_⟩;unfold PF at h;refine A4 mixed h0 [2] 12 ?_;exact gc
/- 241:spec_LevelFor -/
instance B0m:Ct 241 (∀{a0} {a1} {a2} {r},MQ a0 a1 a2=N r→FC Z 241 [.ag (X1.row a0),.sc (.int .i64 a1),.ag (X6.row a2)] [.sc (.v (.int .i64 r))]):=by
 refine⟨fun h=> ?_⟩;unfold MQ at h;refine A4 mixed h0 [6] 21 ?_;exact gc
/- 261:spec_l03Surge -/
def Wx:Hw:=([(8,[1,4,5,13,14,15],[4,5],[])],[])
def dp:=fun a1 (a0:Xd) (k_:U→U→U→U→Q Xa)=>∀{v2 v3 v4 v5} {zr},k_ v2 v3 v4 v5=N zr→Kh Z 261 Wx 8 [1,4,5,13,14,15] [4,5] [] ⟨[pI 1 a1,pB 4,pB 5,pL 13 zE a0.Surges,pI 14 (a0.Surges.length:U),pI 15 v2],[(4,[aI (0:U),aI (0:U),aI (0:U)]),(5,[aI v3,aI v4,aI v5])],[]⟩ (A7 [.c 4 T 3] [.ag [.v (.int .i64 zr.From),.v (.int .i64 zr.Low),.v (.int .i64 zr.High)]])
theorem A5k{a1 a0}{n:W}:dp a1 a0 (F8 a1 a0 n):=by
 induction n with
 | zero=>intro _ _ _ _ r h; cases h
 | succ n ih=>
  intro v2 v3 v4 v5 r h σ hσ;rw[F8] at h;exact gc
instance B1d:Ct 261 (∀{a0} {a1} {r},Iv a0 a1=N r→FC Z 261 [.ag (Xd.row a0),.sc (.int .i64 a1)] [.ag [.v (.int .i64 r.From),.v (.int .i64 r.Low),.v (.int .i64 r.High)]]):=by
 refine⟨fun h=> ?_⟩;unfold Iv at h;refine A4 mixed Wx [.c 4 T 3] 26 ?_;have k0:= @A5k;exact gc
/- 276:spec_Wave -/
def Wy:Hw:=([(18,[1,5],[],[])],[])
def dk:=fun a1 (k_:U→Q U)=>∀{v6} {zr},k_ v6=N zr→Kh Z 276 Wy 18 [1,5] [] [] ⟨[pI 1 a1,pI 5 v6],[],[]⟩ (A7 [4] [.sc (.v (.int .i64 zr))])
theorem A5l{a1}:dk a1 (N6 a1):=by
 intro v6 r h σ hσ;unfold N6 at h;exact gc
instance B1a:Ct 276 (∀{a0} {a1} {r},N5 a0 a1=N r→FC Z 276 [.sc (.int .i64 a0),.sc (.int .i64 a1)] [.sc (.v (.int .i64 r))]):=by
 refine⟨fun h=> ?_⟩;unfold N5 at h;refine A4 mixed Wy [4] 55 ?_;have k0:= @A5l;exact gc
/- 262:spec_l02Level -/
def Wz:Hw:=([(8,[1,5,11,12,13],[],[])],[])
def dn:=fun a1 (a0:Xl) (k_:U→U→Q U)=>∀{v1 v2} {zr},k_ v1 v2=N zr→Kh Z 262 Wz 8 [1,5,11,12,13] [] [] ⟨[pI 1 a1,pI 5 v1,pL 11 zD a0.Parts,pI 12 (a0.Parts.length:U),pI 13 v2],[],[]⟩ (A7 [4] [.sc (.v (.int .i64 zr))])
theorem A5n{a1 a0}{n:W}:dn a1 a0 (Iu a1 a0 n):=by
 induction n with
 | zero=>intro _ _ r h; cases h
 | succ n ih=>
  intro v1 v2 r h σ hσ;rw[Iu] at h;exact gc
instance B1c:Ct 262 (∀{a0} {a1} {r},Ke a0 a1=N r→FC Z 262 [.ag (Xl.row a0),.sc (.int .i64 a1)] [.sc (.v (.int .i64 r))]):=by
 refine⟨fun h=> ?_⟩;unfold Ke at h;refine A4 mixed Wz [4] 32 ?_;have k0:= @A5n;exact gc
/- 263:spec_l04Of -/
def So:Hw:=([(8,[3,7,8,9],[],[384]),(27,[3,4,7,8,9,30],[],[384])],[])
def dr:=fun v1 a0 v2 (k_:V→Q (P X5))=>∀{v8} {zr},k_ v8=N zr→Kh Z 263 So 27 [3,4,7,8,9,30] [] [384] ⟨[pW 3 384,pI 4 v1,pL 7 rB a0,pI 8 (a0.length:U),pI 9 v1,(30,vc (aB v8))],[],[(384,2,Y X5.row v2)]⟩ (A7 [2] [.sc (.o 2 (Y X5.row zr))])
def TU:=fun a0 (k_:U→(P X5)→Q (P X5))=>∀{v1 v2} {zr},k_ v1 v2=N zr→Kh Z 263 So 8 [3,7,8,9] [] [384] ⟨[pW 3 384,pL 7 rB a0,pI 8 (a0.length:U),pI 9 v1],[],[(384,2,Y X5.row v2)]⟩ (A7 [2] [.sc (.o 2 (Y X5.row zr))])
theorem bC{v1 a0 v2}{NV}(pE:TU a0 NV):dr v1 a0 v2 (Iw v1 a0 v2 NV):=by
 intro v8 r h σ hσ;unfold Iw at h;have s0:= @Ai (Y X5.row ([(⟨v1,v1⟩:X5)]:P X5));have s1:=fun(x10:X5)=> @ED _ X5.row ((⟨x10.From,v1⟩:X5))
 have k0:= @pE;exact gc
theorem A5o{a0}{n:W}:TU a0 (Ej a0 n):=by
 induction n with
 | zero=>intro _ _ r h; cases h
 | succ n ih=>
  intro v1 v2 r h σ hσ S hS
  conv at hS=>rhs; reduce
  try simp only[zI,zH,Au,UInt8.reduceOfNat] at hS
  subst hS;rw[Ej] at h;refine AZ (AF ?_);obtain⟨h3,h⟩|⟨h3,h⟩:=ic h
  ·obtain⟨x4,h4,h⟩:=ob h;obtain⟨h5,h⟩|⟨h5,h⟩:=ic h
   ·obtain⟨h6,h⟩|⟨h6,h⟩:=ic h
    ·obtain⟨x7,h7,h⟩:=ob h;have h7n:=B7 h7;try simp only[hσ,h3,h4,h5,h6,h7,h7n,C,E,F,G,H,J]
     refine bC ih h ?_ (by kernel_rfl);try simp only[h3,h4,h5,h6,h7,h7n,C,E,F,G,H,J,pL,aM,zF]
    ·try simp only[hσ,h3,h4,h5,h6,C,E,F,G,H,J]
     refine bC ih h ?_ (by kernel_rfl);try simp only[h3,h4,h5,h6,C,E,F,G,H,J,pL,aM,zF]
   ·try simp only[hσ,h3,h4,h5,C,E,F,G,H,J]
    refine ih h ?_ (by kernel_rfl);try simp only[h3,h4,h5,C,E,F,G,H,J,pL,aM,zF]
  ·try simp only[hσ,h3,C,E,F,G,H,J]
   cases h;exact t0
instance B1f:Ct 263 (∀{a0} {r},N9 a0=N r→FC Z 263 [.sc (.sl (Y rB a0))] [.sc (.o 2 (Y X5.row r))]):=by
 refine⟨fun h=> ?_⟩;unfold N9 at h;refine A4 mixed So [2] 46 ?_;have s0:= @Ai (Y X5.row ([]:P X5));have k0:= @A5o;exact gc
/- 240:spec_l04Levels -/
def Sp:Hw:=([(8,[1,2,3,7,8],[3],[704]),(27,[1,2,3,7,8,10],[3],[704])],[])
def dq:=fun a1 v2 (a0:Xd) v3 (k_:V→U→Q (P X5))=>∀{v7 v8} {zr},k_ v7 v8=N zr→Kh Z 240 Sp 27 [1,2,3,7,8,10] [3] [704] ⟨[pI 1 a1,(2,vc (aB v7)),pB 3,pW 7 704,pI 8 v2,pI 10 v8],[(3,[aI a0.Tide.Mean,aM zD a0.Tide.Parts,aM zE a0.Surges])],[(704,1,Y rB v3)]⟩ (A7 [6] [.sc (.o 2 (Y X5.row zr))])
def TT:=fun a1 (a0:Xd) (k_:V→U→(P V)→Q (P X5))=>∀{v1 v2 v3} {zr},k_ v1 v2 v3=N zr→Kh Z 240 Sp 8 [1,2,3,7,8] [3] [704] ⟨[pI 1 a1,(2,vc (aB v1)),pB 3,pW 7 704,pI 8 v2],[(3,[aI a0.Tide.Mean,aM zD a0.Tide.Parts,aM zE a0.Surges])],[(704,1,Y rB v3)]⟩ (A7 [6] [.sc (.o 2 (Y X5.row zr))])
theorem A5p{a1 v2 a0 v3}{Qs}(pD:TT a1 a0 Qs):dq a1 v2 a0 v3 (N8 a1 v2 a0 v3 Qs):=by
 intro v7 v8 r h σ hσ;unfold N8 at h;have s0:=fun(r9:U)=> @Ai (Y rB ([(decide (a1≤(IntKind.i64.wrap (r9+v8))))]:P V))
 have k0:= @pD;exact gc
theorem A5q{a1 a0}{n:W}:TT a1 a0 (Gh a1 a0 n):=by
 induction n with
 | zero=>intro _ _ _ r h; cases h
 | succ n ih=>
  intro v1 v2 v3 r h σ hσ;rw[Gh] at h;have k0:= @A5p;exact gc
instance B1e:Ct 240 (∀{a0} {a1} {a2} {r},N7 a0 a1 a2=N r→FC Z 240 [.ag (Xd.row a0),.sc (.int .i64 a1),.sc (.bool a2)] [.sc (.o 2 (Y X5.row r))]):=by
 refine⟨fun h=> ?_⟩;unfold N7 at h;refine A4 mixed Sp [6] 37 ?_;have s0:= @Ai (Y rB ([]:P V));have k0:= @A5q;exact gc
/- 196:spec_l06Minutes -/
instance Td:Ct 196 (∀{a0} {a1} {r},F9 a0 a1=N r→FC Z 196 [.ag (X2.row a0),.ag (X6.row a1)] [.sc (.v (.int .i64 r))]):=by
 refine⟨fun h=> ?_⟩;unfold F9 at h;refine A4 mixed h0 [4] 12 ?_;exact gc
end Go.Vi
