/-
Walks. No condition.
-/
import Derived.Test.YtdgododldkbndaaGreatFNf
import Derived.Test.YtdgododldkbndaaGreatChecked
import Derived.Test.YtdgododldkbndaaGreatFVi41
import Derived.KernelRfl
namespace Go.Vi
open Go.Proofs
set_option linter.all false
set_option maxRecDepth 4000
set_option maxHeartbeats 2000000
open Nat renaming reduceBEq → C, reduceMul → E, reduceAdd → F, reduceDiv → G, le_of_ble_eq_true → uf
open Int renaming reduceBEq → H
attribute [local irreducible] go Bd J4
open List renaming map → Y, cons_append → I, nil_append → zA, all_cons → zB, all_nil → zC, map_nil → zD
open Tryz renaming prog → Z
open Xc renaming row → zE
open Int renaming reduceNegSucc → zF, reduceOfNat → zH
open Xa renaming row → zG
open Bool renaming true → T, false → L
open Option renaming some → N, none → O
open _root_ renaming List → P, Option → Q, Int → U, Bool → V, Nat → W, rfl → X
theorem A4:Tryz.prog.follows .mixedOrders=T:=by kernel_rfl
/- 78:laws_szPartS -/
instance A8s:Ct 78 (∀{a0} {a1} {r},MH a0 a1=N r→FC Z 78 [.sc (.sl (Y zE a0)),.sc (.int .i64 a1)] [.sc (.v (.int .i64 r))]):=by
 refine⟨fun{a0} {a1} {r} h=> ?_⟩;unfold MH at h;refine A5 A4 h0 [4] 12 ?_;exact gc
/- 47:laws_szTide -/
instance A8z:Ct 47 (∀{a0} {a1} {r},Py a0 a1=N r→FC Z 47 [.ag (Xl.row a0),.sc (.int .i64 a1)] [.sc (.v (.int .i64 r))]):=by
 refine⟨fun{a0} {a1} {r} h=> ?_⟩;unfold Py at h;refine A5 A4 h0 [4] 12 ?_;exact gc
/- 48:laws_szSurgeS -/
instance A8y:Ct 48 (∀{a0} {a1} {r},MN a0 a1=N r→FC Z 48 [.sc (.sl (Y X9.row a0)),.sc (.int .i64 a1)] [.sc (.v (.int .i64 r))]):=by
 refine⟨fun{a0} {a1} {r} h=> ?_⟩;unfold MN at h;refine A5 A4 h0 [4] 12 ?_;exact gc
/- 17:laws_szForecast -/
instance A8q:Ct 17 (∀{a0} {a1} {r},ME a0 a1=N r→FC Z 17 [.ag (Xd.row a0),.sc (.int .i64 a1)] [.sc (.v (.int .i64 r))]):=by
 refine⟨fun{a0} {a1} {r} h=> ?_⟩;unfold ME at h;refine A5 A4 h0 [4] 18 ?_;exact gc
/- 79:laws_szPoint -/
instance A8t:Ct 79 (∀{a0} {a1} {r},MI a0 a1=N r→FC Z 79 [.ag (X7.row a0),.sc (.int .i64 a1)] [.sc (.v (.int .i64 r))]):=by
 refine⟨fun{a0} {a1} {r} h=> ?_⟩;unfold MI at h;refine A5 A4 h0 [4] 13 ?_;exact gc
/- 49:laws_szPointS -/
def Vs:Hw:=([(16,[0,1,5],[],[])],[])
def cr:=fun a0 (k_:U→U→Q U)=>∀{v2 v3} {zr},k_ v2 v3=N zr→Kh Z 49 Vs 16 [0,1,5] [] [] ⟨[pL 0 X7.row a0,pI 1 v2,pI 5 v3],[],[]⟩ (A8 [4] [.sc (.v (.int .i64 zr))])
theorem zq{a0}{n:W}:cr a0 (Gs a0 n):=by
 induction n with
 | zero=>intro _ _ r h; cases h
 | succ n ih=>
  intro v2 v3 r h σ hσ;rw[Gs] at h;exact gc
instance A8u:Ct 49 (∀{a0} {a1} {r},MJ a0 a1=N r→FC Z 49 [.sc (.sl (Y X7.row a0)),.sc (.int .i64 a1)] [.sc (.v (.int .i64 r))]):=by
 refine⟨fun{a0} {a1} {r} h=> ?_⟩;unfold MJ at h;refine A5 A4 Vs [4] 27 ?_;have k0:= @zq;exact gc
/- 50:laws_szSegmentS -/
instance A8v:Ct 50 (∀{a0} {a1} {r},MK a0 a1=N r→FC Z 50 [.sc (.sl (Y X2.row a0)),.sc (.int .i64 a1)] [.sc (.v (.int .i64 r))]):=by
 refine⟨fun{a0} {a1} {r} h=> ?_⟩;unfold MK at h;refine A5 A4 h0 [4] 12 ?_;exact gc
/- 18:laws_szChart -/
instance A8o:Ct 18 (∀{a0} {a1} {r},MD a0 a1=N r→FC Z 18 [.ag (X1.row a0),.sc (.int .i64 a1)] [.sc (.v (.int .i64 r))]):=by
 refine⟨fun{a0} {a1} {r} h=> ?_⟩;unfold MD at h;refine A5 A4 h0 [4] 18 ?_;exact gc
/- 51:laws_szShip -/
instance A8w:Ct 51 (∀{a0} {a1} {r},ML a0 a1=N r→FC Z 51 [.ag (X4.row a0),.sc (.int .i64 a1)] [.sc (.v (.int .i64 r))]):=by
 refine⟨fun{a0} {a1} {r} h=> ?_⟩;unfold ML at h;refine A5 A4 h0 [4] 13 ?_;exact gc
/- 19:laws_szShipS -/
def GR:Hw:=([(16,[0,1,5],[],[])],[])
def ct:=fun a0 (k_:U→U→Q U)=>∀{v2 v3} {zr},k_ v2 v3=N zr→Kh Z 19 GR 16 [0,1,5] [] [] ⟨[pL 0 X4.row a0,pI 1 v2,pI 5 v3],[],[]⟩ (A8 [4] [.sc (.v (.int .i64 zr))])
theorem ww3{a0}{n:W}:ct a0 (Gt a0 n):=by
 induction n with
 | zero=>intro _ _ r h; cases h
 | succ n ih=>
  intro v2 v3 r h σ hσ;rw[Gt] at h;exact gc
instance A8x:Ct 19 (∀{a0} {a1} {r},MM a0 a1=N r→FC Z 19 [.sc (.sl (Y X4.row a0)),.sc (.int .i64 a1)] [.sc (.v (.int .i64 r))]):=by
 refine⟨fun{a0} {a1} {r} h=> ?_⟩;unfold MM at h;refine A5 A4 GR [4] 27 ?_;have k0:= @ww3;exact gc
/- 52:laws_szIntS -/
instance A8r:Ct 52 (∀{a0} {a1} {r},MG a0 a1=N r→FC Z 52 [.sc (.sl (Y rI a0)),.sc (.int .i64 a1)] [.sc (.v (.int .i64 r))]):=by
 refine⟨fun{a0} {a1} {r} h=> ?_⟩;unfold MG at h;refine A5 A4 h0 [4] 12 ?_;exact gc
/- 20:laws_szCrew -/
instance A8p:Ct 20 (∀{a0} {a1} {r},Pw a0 a1=N r→FC Z 20 [.ag (Xn.row a0),.sc (.int .i64 a1)] [.sc (.v (.int .i64 r))]):=by
 refine⟨fun{a0} {a1} {r} h=> ?_⟩;unfold Pw at h;refine A5 A4 h0 [4] 12 ?_;exact gc
/- 4:laws_szHarbour -/
instance xw:Ct 4 (∀{a0} {a1} {r},MF a0 a1=N r→FC Z 4 [.ag (X6.row a0),.sc (.int .i64 a1)] [.sc (.v (.int .i64 r))]):=by
 refine⟨fun{a0} {a1} {r} h=> ?_⟩;unfold MF at h;refine A5 A4 h0 [4] 30 ?_;exact gc
/- 5:laws_szCallS -/
instance xv:Ct 5 (∀{a0} {a1} {r},MC a0 a1=N r→FC Z 5 [.sc (.sl (Y zG a0)),.sc (.int .i64 a1)] [.sc (.v (.int .i64 r))]):=by
 refine⟨fun{a0} {a1} {r} h=> ?_⟩;unfold MC at h;refine A5 A4 h0 [4] 12 ?_;exact gc
/- 142:laws_toPart -/
instance A85:Ct 142 (∀{a0} {r},PB a0=N r→FC Z 142 [.ag (zE a0)] [.ag [.v (.int .i64 r.Amp),.v (.int .i64 r.Period),.v (.int .i64 r.Phase)]]):=by
 refine⟨fun{a0} {r} h=> ?_⟩;unfold PB at h;refine A5 A4 h0 [.c 2 T 3] 14 ?_;exact gc
/- 96:laws_toPartS -/
def Ws:Hw:=([(8,[0,3,4],[],[448])],[])
def cw:=fun a0 (k_:U→(P Xc)→Q (P Xc))=>∀{v2 v3} {zr},k_ v2 v3=N zr→Kh Z 96 Ws 8 [0,3,4] [] [448] ⟨[pL 0 zE a0,pW 3 448,pI 4 v2],[],[(448,3,Y zE v3)]⟩ (A8 [2] [.sc (.o 3 (Y zE zr))])
theorem ww5{a0}{n:W}:cw a0 (Ic a0 n):=by
 induction n with
 | zero=>intro _ _ r h; cases h
 | succ n ih=>
  intro v2 v3 r h σ hσ;rw[Ic] at h;have s0:=fun(r6:Xc)=> @H7 _ zE r6
  exact gc
instance A86:Ct 96 (∀{a0} {r},MR a0=N r→FC Z 96 [.sc (.sl (Y zE a0))] [.sc (.o 3 (Y zE r))]):=by
 refine⟨fun{a0} {r} h=> ?_⟩;unfold MR at h;refine A5 A4 Ws [2] 23 ?_;have s0:= @EJ _ zE (⟨(0:U),(0:U),(0:U)⟩:Xc);have k0:= @ww5;exact gc
/- 58:laws_toTide -/
instance A9g:Ct 58 (∀{a0} {r},PH a0=N r→FC Z 58 [.ag (Xl.row a0)] [.ag [.v (.int .i64 r.Mean),.o 3 (Y zE r.Parts)]]):=by
 refine⟨fun{a0} {r} h=> ?_⟩;unfold PH at h;refine A5 A4 h0 [.c 2 T 2] 12 ?_;exact gc
/- 97:laws_toSurge -/
instance A9e:Ct 97 (∀{a0} {r},PG a0=N r→FC Z 97 [.ag (X9.row a0)] [.ag [.v (.int .i64 r.From),.v (.int .i64 r.Low),.v (.int .i64 r.High)]]):=by
 refine⟨fun{a0} {r} h=> ?_⟩;unfold PG at h;refine A5 A4 h0 [.c 2 T 3] 14 ?_;exact gc
/- 59:laws_toSurgeS -/
def Wu:Hw:=([(8,[0,3,4],[],[448])],[])
def dB:=fun a0 (k_:U→(P X9)→Q (P X9))=>∀{v2 v3} {zr},k_ v2 v3=N zr→Kh Z 59 Wu 8 [0,3,4] [] [448] ⟨[pL 0 X9.row a0,pW 3 448,pI 4 v2],[],[(448,3,Y X9.row v3)]⟩ (A8 [2] [.sc (.o 3 (Y X9.row zr))])
theorem ww7{a0}{n:W}:dB a0 (Ih a0 n):=by
 induction n with
 | zero=>intro _ _ r h; cases h
 | succ n ih=>
  intro v2 v3 r h σ hσ;rw[Ih] at h;have s0:=fun(r6:X9)=> @H7 _ X9.row r6
  exact gc
instance A9f:Ct 59 (∀{a0} {r},MV a0=N r→FC Z 59 [.sc (.sl (Y X9.row a0))] [.sc (.o 3 (Y X9.row r))]):=by
 refine⟨fun{a0} {r} h=> ?_⟩;unfold MV at h;refine A5 A4 Wu [2] 23 ?_;have s0:= @EJ _ X9.row (⟨(0:U),(0:U),(0:U)⟩:X9);have k0:= @ww7;exact gc
/- 25:laws_toForecast -/
instance A83:Ct 25 (∀{a0} {r},MP a0=N r→FC Z 25 [.ag (Xd.row a0)] [.ag [.v (.int .i64 r.Tide.Mean),.o 3 (Y zE r.Tide.Parts),.o 3 (Y X9.row r.Surges)]]):=by
 refine⟨fun{a0} {r} h=> ?_⟩;unfold MP at h;refine A5 A4 h0 [.c 2 T 3] 13 ?_;exact gc
/- 98:laws_toPoint -/
instance A87:Ct 98 (∀{a0} {r},PC a0=N r→FC Z 98 [.ag (X7.row a0)] [.ag [.v (.str r.Name),.v (.bool r.Wait)]]):=by
 refine⟨fun{a0} {r} h=> ?_⟩;unfold PC at h;refine A5 A4 h0 [.c 2 T 2] 11 ?_;exact gc
/- 60:laws_toPointS -/
def Wv:Hw:=([(8,[0,3,4],[],[448])],[])
def cy:=fun a0 (k_:U→(P X7)→Q (P X7))=>∀{v2 v3} {zr},k_ v2 v3=N zr→Kh Z 60 Wv 8 [0,3,4] [] [448] ⟨[pL 0 X7.row a0,pW 3 448,pI 4 v2],[],[(448,2,Y X7.row v3)]⟩ (A8 [2] [.sc (.o 2 (Y X7.row zr))])
theorem ww9{a0}{n:W}:cy a0 (Ie a0 n):=by
 induction n with
 | zero=>intro _ _ r h; cases h
 | succ n ih=>
  intro v2 v3 r h σ hσ;rw[Ie] at h;have s0:=fun(r6:X7)=> @H7 _ X7.row r6
  exact gc
instance A88:Ct 60 (∀{a0} {r},MS a0=N r→FC Z 60 [.sc (.sl (Y X7.row a0))] [.sc (.o 2 (Y X7.row r))]):=by
 refine⟨fun{a0} {r} h=> ?_⟩;unfold MS at h;refine A5 A4 Wv [2] 23 ?_;have s0:= @EJ _ X7.row (⟨([]:P UInt8),L⟩:X7);have k0:= @ww9;exact gc
/- 99:laws_toSegment -/
instance A9a:Ct 99 (∀{a0} {r},PE a0=N r→FC Z 99 [.ag (X2.row a0)] [.ag [.v (.int .i64 r.A),.v (.int .i64 r.B),.v (.int .i64 r.Depth),.v (.int .i64 r.Minutes),.v (.bool r.Meet)]]):=by
 refine⟨fun{a0} {r} h=> ?_⟩;unfold PE at h;refine A5 A4 h0 [.c 2 T 5] 20 ?_;exact gc
/- 61:laws_toSegmentS -/
def Vt:Hw:=([(8,[0,3,4],[],[448])],[])
def cz:=fun a0 (k_:U→(P X2)→Q (P X2))=>∀{v2 v3} {zr},k_ v2 v3=N zr→Kh Z 61 Vt 8 [0,3,4] [] [448] ⟨[pL 0 X2.row a0,pW 3 448,pI 4 v2],[],[(448,5,Y X2.row v3)]⟩ (A8 [2] [.sc (.o 5 (Y X2.row zr))])
theorem zx{a0}{n:W}:cz a0 (If a0 n):=by
 induction n with
 | zero=>intro _ _ r h; cases h
 | succ n ih=>
  intro v2 v3 r h σ hσ;rw[If] at h;have s0:=fun(r6:X2)=> @H7 _ X2.row r6
  exact gc
instance A9b:Ct 61 (∀{a0} {r},MT a0=N r→FC Z 61 [.sc (.sl (Y X2.row a0))] [.sc (.o 5 (Y X2.row r))]):=by
 refine⟨fun{a0} {r} h=> ?_⟩;unfold MT at h;refine A5 A4 Vt [2] 23 ?_;have s0:= @EJ _ X2.row (⟨(0:U),(0:U),(0:U),(0:U),L⟩:X2);have k0:= @zx;exact gc
/- 26:laws_toChart -/
instance A81:Ct 26 (∀{a0} {r},MO a0=N r→FC Z 26 [.ag (X1.row a0)] [.ag [.o 2 (Y X7.row r.Points),.o 5 (Y X2.row r.Segments)]]):=by
 refine⟨fun{a0} {r} h=> ?_⟩;unfold MO at h;refine A5 A4 h0 [.c 2 T 2] 13 ?_;exact gc
/- 62:laws_toShip -/
instance A9c:Ct 62 (∀{a0} {r},PF a0=N r→FC Z 62 [.ag (X4.row a0)] [.ag [.v (.str r.Name),.v (.int .i64 r.Length),.v (.int .i64 r.Draught),.v (.int .i64 r.Line),.v (.int .i64 r.Tugs),.v (.bool r.Slow)]]):=by
 refine⟨fun{a0} {r} h=> ?_⟩;unfold PF at h;refine A5 A4 h0 [.c 2 T 6] 23 ?_;exact gc
/- 27:laws_toShipS -/
def VA:Hw:=([(8,[0,3,4],[],[448])],[])
def dA:=fun a0 (k_:U→(P X4)→Q (P X4))=>∀{v2 v3} {zr},k_ v2 v3=N zr→Kh Z 27 VA 8 [0,3,4] [] [448] ⟨[pL 0 X4.row a0,pW 3 448,pI 4 v2],[],[(448,6,Y X4.row v3)]⟩ (A8 [2] [.sc (.o 6 (Y X4.row zr))])
theorem A0j{a0}{n:W}:dA a0 (Ig a0 n):=by
 induction n with
 | zero=>intro _ _ r h; cases h
 | succ n ih=>
  intro v2 v3 r h σ hσ;rw[Ig] at h;have s0:=fun(r6:X4)=> @H7 _ X4.row r6
  exact gc
instance A9d:Ct 27 (∀{a0} {r},MU a0=N r→FC Z 27 [.sc (.sl (Y X4.row a0))] [.sc (.o 6 (Y X4.row r))]):=by
 refine⟨fun{a0} {r} h=> ?_⟩;unfold MU at h;refine A5 A4 VA [2] 23 ?_;have s0:= @EJ _ X4.row (⟨([]:P UInt8),(0:U),(0:U),(0:U),(0:U),L⟩:X4);have k0:= @A0j;exact gc
/- 28:laws_toRegime -/
instance A89:Ct 28 (∀{a0} {r},PD a0=N r→FC Z 28 [.ag (Xi.row a0)] [.ag [.v (.int .i64 r.Gap),.v (.bool r.NoMeet)]]):=by
 refine⟨fun{a0} {r} h=> ?_⟩;unfold PD at h;refine A5 A4 h0 [.c 2 T 2] 11 ?_;exact gc
/- 63:laws_toIntS -/
def VG:Hw:=([(8,[0,3,4],[],[448])],[])
def cv:=fun a0 (k_:U→(P U)→Q (P U))=>∀{v2 v3} {zr},k_ v2 v3=N zr→Kh Z 63 VG 8 [0,3,4] [] [448] ⟨[pL 0 rI a0,pW 3 448,pI 4 v2],[],[(448,1,Y rI v3)]⟩ (A8 [2] [.sc (.o 1 (Y rI zr))])
theorem A0w{a0}{n:W}:cv a0 (Ib a0 n):=by
 induction n with
 | zero=>intro _ _ r h; cases h
 | succ n ih=>
  intro v2 v3 r h σ hσ;rw[Ib] at h;have s0:=fun(x5:U)=> @H7 _ rI x5
  exact gc
instance A84:Ct 63 (∀{a0} {r},MQ a0=N r→FC Z 63 [.sc (.sl (Y rI a0))] [.sc (.o 1 (Y rI r))]):=by
 refine⟨fun{a0} {r} h=> ?_⟩;unfold MQ at h;refine A5 A4 VG [2] 22 ?_;have s0:= @EJ _ rI (0:U);have k0:= @A0w;exact gc
/- 29:laws_toCrew -/
instance A82:Ct 29 (∀{a0} {r},PA a0=N r→FC Z 29 [.ag (Xn.row a0)] [.ag [.v (.int .i64 r.Tugs),.v (.int .i64 r.Pilots),.v (.int .i64 r.Rest),.o 1 (Y rI r.Moves)]]):=by
 refine⟨fun{a0} {r} h=> ?_⟩;unfold PA at h;refine A5 A4 h0 [.c 2 T 4] 18 ?_;exact gc
/- 7:laws_toHarbour -/
instance QR:Ct 7 (∀{a0} {r},Gv a0=N r→FC Z 7 [.ag (X6.row a0)] [.ag [.v (.int .i64 r.Forecast.Tide.Mean),.o 3 (Y zE r.Forecast.Tide.Parts),.o 3 (Y X9.row r.Forecast.Surges),.o 2 (Y X7.row r.Chart.Points),.o 5 (Y X2.row r.Chart.Segments),.o 6 (Y X4.row r.Fleet),.v (.int .i64 r.Regime.Gap),.v (.bool r.Regime.NoMeet),.v (.int .i64 r.Crew.Tugs),.v (.int .i64 r.Crew.Pilots),.v (.int .i64 r.Crew.Rest),.o 1 (Y rI r.Crew.Moves)]]):=by
 refine⟨fun{a0} {r} h=> ?_⟩;unfold Gv at h;refine A5 A4 h0 [.c 2 T 12] 25 ?_;exact gc
/- 30:laws_toCall -/
instance A80:Ct 30 (∀{a0} {r},Pz a0=N r→FC Z 30 [.ag (zG a0)] [.ag [.v (.int .i64 r.Ship),.v (.int .i64 r.From),.v (.int .i64 r.To),.v (.int .i64 r.Ready),.v (.int .i64 r.Due)]]):=by
 refine⟨fun{a0} {r} h=> ?_⟩;unfold Pz at h;refine A5 A4 h0 [.c 2 T 5] 20 ?_;exact gc
/- 8:laws_toCallS -/
def VJ:Hw:=([(8,[0,3,4],[],[448])],[])
def cu:=fun a0 (k_:U→(P Xa)→Q (P Xa))=>∀{v2 v3} {zr},k_ v2 v3=N zr→Kh Z 8 VJ 8 [0,3,4] [] [448] ⟨[pL 0 zG a0,pW 3 448,pI 4 v2],[],[(448,5,Y zG v3)]⟩ (A8 [2] [.sc (.o 5 (Y zG zr))])
theorem A09{a0}{n:W}:cu a0 (Ia a0 n):=by
 induction n with
 | zero=>intro _ _ r h; cases h
 | succ n ih=>
  intro v2 v3 r h σ hσ;rw[Ia] at h;have s0:=fun(r6:Xa)=> @H7 _ zG r6
  exact gc
instance QQ:Ct 8 (∀{a0} {r},Gu a0=N r→FC Z 8 [.sc (.sl (Y zG a0))] [.sc (.o 5 (Y zG r))]):=by
 refine⟨fun{a0} {r} h=> ?_⟩;unfold Gu at h;refine A5 A4 VJ [2] 23 ?_;have s0:= @EJ _ zG (⟨(0:U),(0:U),(0:U),(0:U),(0:U)⟩:Xa);have k0:= @A09;exact gc
/- 85:spec_l01In -/
instance QS:Ct 85 (∀{a0} {a1} {a2} {r},Ax a0 a1 a2=N r→FC Z 85 [.sc (.int .i64 a0),.sc (.int .i64 a1),.sc (.int .i64 a2)] [.sc (.v (.bool r))]):=by
 refine⟨fun{a0} {a1} {a2} {r} h=> ?_⟩;unfold Ax at h;refine A5 A4 h0 [6] 15 ?_;exact gc
/- 162:spec_PartOk -/
instance A91:Ct 162 (∀{a0} {r},Nd a0=N r→FC Z 162 [.ag (zE a0)] [.sc (.v (.bool r))]):=by
 refine⟨fun{a0} {r} h=> ?_⟩;unfold Nd at h;refine A5 A4 h0 [2] 25 ?_;exact gc
/- 120:spec_TideOk -/
def VO:Hw:=([(14,[16,17,18],[],[])],[])
def dj:=fun(a0:Xl) (k_:U→Q V)=>∀{v4} {zr},k_ v4=N zr→Kh Z 120 VO 14 [16,17,18] [] [] ⟨[pL 16 zE a0.Parts,pI 17 (a0.Parts.length:U),pI 18 v4],[],[]⟩ (A8 [2] [.sc (.v (.bool zr))])
theorem A1k{a0}{n:W}:dj a0 (ID a0 n):=by
 induction n with
 | zero=>intro _ r h; cases h
 | succ n ih=>
  intro v4 r h σ hσ;rw[ID] at h;exact gc
instance B0f:Ct 120 (∀{a0} {r},Np a0=N r→FC Z 120 [.ag (Xl.row a0)] [.sc (.v (.bool r))]):=by
 refine⟨fun{a0} {r} h=> ?_⟩;unfold Np at h;refine A5 A4 VO [2] 26 ?_;have k0:= @A1k;exact gc
/- 121:spec_SurgeOk -/
instance B0e:Ct 121 (∀{a0} {r},Nn a0=N r→FC Z 121 [.ag (X9.row a0)] [.sc (.v (.bool r))]):=by
 refine⟨fun{a0} {r} h=> ?_⟩;unfold Nn at h;refine A5 A4 h0 [2] 18 ?_;exact gc
/- 80:spec_ForecastOk -/
def VU:Hw:=([(14,[1,25,26,27],[1],[])],[])
def dP:=fun(a0:Xd) (k_:U→Q V)=>∀{v7} {zr},k_ v7=N zr→Kh Z 80 VU 14 [1,25,26,27] [1] [] ⟨[pB 1,pL 25 X9.row a0.Surges,pI 26 (a0.Surges.length:U),pI 27 v7],[(1,[aI a0.Tide.Mean,aM zE a0.Tide.Parts,aM X9.row a0.Surges])],[]⟩ (A8 [2] [.sc (.v (.bool zr))])
theorem A10{a0}{n:W}:dP a0 (Gx a0 n):=by
 induction n with
 | zero=>intro _ r h; cases h
 | succ n ih=>
  intro v7 r h σ hσ;rw[Gx] at h;exact gc
instance A9q:Ct 80 (∀{a0} {r},Kw a0=N r→FC Z 80 [.ag (Xd.row a0)] [.sc (.v (.bool r))]):=by
 refine⟨fun{a0} {r} h=> ?_⟩;unfold Kw at h;refine A5 A4 VU [2] 52 ?_;have k0:= @A10;exact gc
/- 122:spec_IsName -/
def Q3:Hw:=([(6,[0,3],[],[]),(17,[0,3,4],[],[]),(24,[0,3],[],[])],[])
def dU:=fun a0 v1 (k_:Q V)=>∀{zr},k_=N zr→Kh Z 122 Q3 24 [0,3] [] [] ⟨[(0,vc (aS a0)),pI 3 v1],[],[]⟩ (A8 [2] [.sc (.v (.bool zr))])
def dT:=fun a0 v1 (k_:V→Q V)=>∀{v5} {zr},k_ v5=N zr→Kh Z 122 Q3 17 [0,3,4] [] [] ⟨[(0,vc (aS a0)),pI 3 v1,(4,vc (aB v5))],[],[]⟩ (A8 [2] [.sc (.v (.bool zr))])
def QZ:=fun a0 (k_:U→Q V)=>∀{v1} {zr},k_ v1=N zr→Kh Z 122 Q3 6 [0,3] [] [] ⟨[(0,vc (aS a0)),pI 3 v1],[],[]⟩ (A8 [2] [.sc (.v (.bool zr))])
theorem A2a{a0 v1}{EG}(WE:QZ a0 EG):dU a0 v1 (N9 a0 v1 EG):=by
 intro r h σ hσ;unfold N9 at h;have k0:= @WE;exact gc
theorem A2h{a0 v1}{EG}(WE:QZ a0 EG):dT a0 v1 (N8 a0 v1 EG):=by
 intro v5 r h σ hσ;unfold N8 at h;have k0:= @A2a;exact gc
theorem A2l{a0}{n:W}:QZ a0 (Gz a0 n):=by
 induction n with
 | zero=>intro _ r h; cases h
 | succ n ih=>
  intro v1 r h σ hσ;rw[Gz] at h;have k0:= @A2h;exact gc
instance A9v:Ct 122 (∀{a0} {r},Kz a0=N r→FC Z 122 [.sc (.str a0)] [.sc (.v (.bool r))]):=by
 refine⟨fun{a0} {r} h=> ?_⟩;unfold Kz at h;refine A5 A4 Q3 [2] 42 ?_;have k0:= @A2l;exact gc
/- 123:spec_PointNamed -/
def W8:Hw:=([(6,[1,8,9,10],[],[])],[])
def de:=fun a1 (a0:X1) (k_:U→Q U)=>∀{v1} {zr},k_ v1=N zr→Kh Z 123 W8 6 [1,8,9,10] [] [] ⟨[(1,vc (aS a1)),pL 8 X7.row a0.Points,pI 9 (a0.Points.length:U),pI 10 v1],[],[]⟩ (A8 [4] [.sc (.v (.int .i64 zr))])
theorem A2z{a1 a0}{n:W}:de a1 a0 (Iz a1 a0 n):=by
 induction n with
 | zero=>intro _ r h; cases h
 | succ n ih=>
  intro v1 r h σ hσ;rw[Iz] at h;exact gc
instance A94:Ct 123 (∀{a0} {a1} {r},Nj a0 a1=N r→FC Z 123 [.ag (X1.row a0),.sc (.str a1)] [.sc (.v (.int .i64 r))]):=by
 refine⟨fun{a0} {a1} {r} h=> ?_⟩;unfold Nj at h;refine A5 A4 W8 [4] 21 ?_;have k0:= @A2z;exact gc
/- 124:spec_l05Joins -/
instance B0n:Ct 124 (∀{a0} {a1} {a2} {r},Nv a0 a1 a2=N r→FC Z 124 [.ag (X2.row a0),.sc (.int .i64 a1),.sc (.int .i64 a2)] [.sc (.v (.bool r))]):=by
 refine⟨fun{a0} {a1} {a2} {r} h=> ?_⟩;unfold Nv at h;refine A5 A4 h0 [6] 29 ?_;exact gc
/- 81:spec_ChartOk -/
def Q7:Hw:=([(14,[1,20,21,22],[1],[]),(37,[1,41,42,43],[1],[]),(59,[1,6,41,42,43,88,89,90],[1,6],[])],[])
def dJ:=fun(a0:X1) v11 (x13:X2) y24 y25 (k_:U→Q V)=>∀{v26} {zr},k_ v26=N zr→Kh Z 81 Q7 59 [1,6,41,42,43,88,89,90] [1,6] [] ⟨[pB 1,pB 6,pL 41 X2.row a0.Segments,pI 42 (a0.Segments.length:U),pI 43 v11,pL 88 X2.row y24,pI 89 y25,pI 90 v26],[(1,[aM X7.row a0.Points,aM X2.row a0.Segments]),(6,(dm x13.row))],[]⟩ (A8 [2] [.sc (.v (.bool zr))])
def TS:=fun(a0:X1) (k_:U→Q V)=>∀{v11} {zr},k_ v11=N zr→Kh Z 81 Q7 37 [1,41,42,43] [1] [] ⟨[pB 1,pL 41 X2.row a0.Segments,pI 42 (a0.Segments.length:U),pI 43 v11],[(1,[aM X7.row a0.Points,aM X2.row a0.Segments])],[]⟩ (A8 [2] [.sc (.v (.bool zr))])
def dI:=fun(a0:X1) (k_:U→Q V)=>∀{v3} {zr},k_ v3=N zr→Kh Z 81 Q7 14 [1,20,21,22] [1] [] ⟨[pB 1,pL 20 X7.row a0.Points,pI 21 (a0.Points.length:U),pI 22 v3],[(1,[aM X7.row a0.Points,aM X2.row a0.Segments])],[]⟩ (A8 [2] [.sc (.v (.bool zr))])
theorem A3a{a0 v11 x13 y24 y25}{O3}(ou:TS a0 O3){n:W}:dJ a0 v11 x13 y24 y25 (Ik a0 v11 x13 y24 y25 O3 n):=by
 induction n with
 | zero=>intro _ r h; cases h
 | succ n ih=>
  intro v26 r h σ hσ;rw[Ik] at h;have k0:= @ou;exact gc
theorem A3g{a0}{n:W}:TS a0 (Eu a0 n):=by
 induction n with
 | zero=>intro _ r h; cases h
 | succ n ih=>
  intro v11 r h σ hσ;rw[Eu] at h;have k0:= @A3a;exact gc
theorem A3q{a0}{n:W}:dI a0 (Ij a0 n):=by
 induction n with
 | zero=>intro _ r h; cases h
 | succ n ih=>
  intro v3 r h σ hσ;rw[Ij] at h;have k0:= @A3g;exact gc
instance ya:Ct 81 (∀{a0} {r},Df a0=N r→FC Z 81 [.ag (X1.row a0)] [.sc (.v (.bool r))]):=by
 refine⟨fun{a0} {r} h=> ?_⟩;unfold Df at h;refine A5 A4 Q7 [2] 102 ?_;have k0:= @A3q;exact gc
/- 125:spec_ShipOk -/
instance B0a:Ct 125 (∀{a0} {r},E2 a0=N r→FC Z 125 [.ag (X4.row a0)] [.sc (.v (.bool r))]):=by
 refine⟨fun{a0} {r} h=> ?_⟩;unfold E2 at h;refine A5 A4 h0 [2] 26 ?_;exact gc
/- 126:spec_ShipNamed -/
def Wd:Hw:=([(6,[1,7,8,9],[],[])],[])
def dh:=fun a1 a0 (k_:U→Q U)=>∀{v1} {zr},k_ v1=N zr→Kh Z 126 Wd 6 [1,7,8,9] [] [] ⟨[(1,vc (aS a1)),pL 7 X4.row a0,pI 8 (a0.length:U),pI 9 v1],[],[]⟩ (A8 [4] [.sc (.v (.int .i64 zr))])
theorem A34{a1 a0}{n:W}:dh a1 a0 (IC a1 a0 n):=by
 induction n with
 | zero=>intro _ r h; cases h
 | succ n ih=>
  intro v1 r h σ hσ;rw[IC] at h;exact gc
instance A99:Ct 126 (∀{a0} {a1} {r},Nl a0 a1=N r→FC Z 126 [.sc (.sl (Y X4.row a0)),.sc (.str a1)] [.sc (.v (.int .i64 r))]):=by
 refine⟨fun{a0} {a1} {r} h=> ?_⟩;unfold Nl at h;refine A5 A4 Wd [4] 20 ?_;have k0:= @A34;exact gc
/- 82:spec_FleetOk -/
def Wi:Hw:=([(14,[0,8,9,10],[],[])],[])
def dO:=fun a0 (k_:U→Q V)=>∀{v2} {zr},k_ v2=N zr→Kh Z 82 Wi 14 [0,8,9,10] [] [] ⟨[pL 0 X4.row a0,pL 8 X4.row a0,pI 9 (a0.length:U),pI 10 v2],[],[]⟩ (A8 [2] [.sc (.v (.bool zr))])
theorem A4g{a0}{n:W}:dO a0 (Iq a0 n):=by
 induction n with
 | zero=>intro _ r h; cases h
 | succ n ih=>
  intro v2 r h σ hσ;rw[Iq] at h;exact gc
instance A9p:Ct 82 (∀{a0} {r},Kv a0=N r→FC Z 82 [.sc (.sl (Y X4.row a0))] [.sc (.v (.bool r))]):=by
 refine⟨fun{a0} {r} h=> ?_⟩;unfold Kv at h;refine A5 A4 Wi [2] 27 ?_;have k0:= @A4g;exact gc
/- 83:spec_RegimeOk -/
instance A95:Ct 83 (∀{a0} {r},IA a0=N r→FC Z 83 [.ag (Xi.row a0)] [.sc (.v (.bool r))]):=by
 refine⟨fun{a0} {r} h=> ?_⟩;unfold IA at h;refine A5 A4 h0 [2] 6 ?_;exact gc
/- 127:spec_l13Table -/
def Wp:Hw:=([(14,[15,16,17],[],[])],[])
def eD:=fun a1 (k_:U→Q V)=>∀{v4} {zr},k_ v4=N zr→Kh Z 127 Wp 14 [15,16,17] [] [] ⟨[pL 15 rI a1,pI 16 (a1.length:U),pI 17 v4],[],[]⟩ (A8 [4] [.sc (.v (.bool zr))])
theorem A4n{a1}{n:W}:eD a1 (GL a1 n):=by
 induction n with
 | zero=>intro _ r h; cases h
 | succ n ih=>
  intro v4 r h σ hσ;rw[GL] at h;exact gc
instance B0w:Ct 127 (∀{a0} {a1} {r},GK a0 a1=N r→FC Z 127 [.sc (.int .i64 a0),.sc (.sl (Y rI a1))] [.sc (.v (.bool r))]):=by
 refine⟨fun{a0} {a1} {r} h=> ?_⟩;unfold GK at h;refine A5 A4 Wp [4] 25 ?_;have k0:= @A4n;exact gc
/- 84:spec_CrewOk -/
instance A9n:Ct 84 (∀{a0} {r},Im a0=N r→FC Z 84 [.ag (Xn.row a0)] [.sc (.v (.bool r))]):=by
 refine⟨fun{a0} {r} h=> ?_⟩;unfold Im at h;refine A5 A4 h0 [2] 18 ?_;exact gc
/- 53:spec_HarbourOk -/
instance A9s:Ct 53 (∀{a0} {r},Ky a0=N r→FC Z 53 [.ag (X6.row a0)] [.sc (.v (.bool r))]):=by
 refine⟨fun{a0} {r} h=> ?_⟩;unfold Ky at h;refine A5 A4 h0 [2] 26 ?_;exact gc
/- 54:spec_CallOk -/
instance A9j:Ct 54 (∀{a0} {a1} {r},Kq a0 a1=N r→FC Z 54 [.ag (X6.row a0),.ag (zG a1)] [.sc (.v (.bool r))]):=by
 refine⟨fun{a0} {a1} {r} h=> ?_⟩;unfold Kq at h;refine A5 A4 h0 [4] 53 ?_;exact gc
/- 21:spec_CallsOk -/
def Sh:Hw:=([(14,[1,2,17,18,19],[2],[]),(36,[1,2,6,17,18,19,30,31,32],[2,6],[])],[])
def dG:=fun a1 v4 (a0:X6) (x6:Xa) y10 y11 (k_:U→Q V)=>∀{v12} {zr},k_ v12=N zr→Kh Z 21 Sh 36 [1,2,6,17,18,19,30,31,32] [2,6] [] ⟨[pL 1 zG a1,pB 2,pB 6,pL 17 zG a1,pI 18 (a1.length:U),pI 19 v4,pL 30 zG y10,pI 31 y11,pI 32 v12],[(2,([aI a0.Forecast.Tide.Mean,aM zE a0.Forecast.Tide.Parts,aM X9.row a0.Forecast.Surges,aM X7.row a0.Chart.Points,aM X2.row a0.Chart.Segments,aM X4.row a0.Fleet,aI a0.Regime.Gap,aB a0.Regime.NoMeet]++dm a0.Crew.row)),(6,(dm x6.row))],[]⟩ (A8 [4] [.sc (.v (.bool zr))])
def TR:=fun a1 (a0:X6) (k_:U→Q V)=>∀{v4} {zr},k_ v4=N zr→Kh Z 21 Sh 14 [1,2,17,18,19] [2] [] ⟨[pL 1 zG a1,pB 2,pL 17 zG a1,pI 18 (a1.length:U),pI 19 v4],[(2,([aI a0.Forecast.Tide.Mean,aM zE a0.Forecast.Tide.Parts,aM X9.row a0.Forecast.Surges,aM X7.row a0.Chart.Points,aM X2.row a0.Chart.Segments,aM X4.row a0.Fleet,aI a0.Regime.Gap,aB a0.Regime.NoMeet]++dm a0.Crew.row))],[]⟩ (A8 [4] [.sc (.v (.bool zr))])
theorem A4s{a1 v4 a0 x6 y10 y11}{O2}(ot:TR a1 a0 O2){n:W}:dG a1 v4 a0 x6 y10 y11 (Ks a1 v4 a0 x6 y10 y11 O2 n):=by
 induction n with
 | zero=>intro _ r h; cases h
 | succ n ih=>
  intro v12 r h σ hσ;rw[Ks] at h;have k0:= @ot;exact gc
theorem A4t{a1 a0}{n:W}:TR a1 a0 (Kr a1 a0 n):=by
 induction n with
 | zero=>intro _ r h; cases h
 | succ n ih=>
  intro v4 r h σ hσ;rw[Kr] at h;have k0:= @A4s;exact gc
instance xz:Ct 21 (∀{a0} {a1} {r},N0 a0 a1=N r→FC Z 21 [.ag (X6.row a0),.sc (.sl (Y zG a1))] [.sc (.v (.bool r))]):=by
 refine⟨fun{a0} {a1} {r} h=> ?_⟩;unfold N0 at h;refine A5 A4 Sh [4] 43 ?_;have k0:= @A4t;exact gc
/- 165:spec_l05Other -/
instance ZX:Ct 165 (∀{a0} {a1} {r},Nw a0 a1=N r→FC Z 165 [.ag (X2.row a0),.sc (.int .i64 a1)] [.sc (.v (.int .i64 r))]):=by
 refine⟨fun{a0} {a1} {r} h=> ?_⟩;unfold Nw at h;refine A5 A4 h0 [4] 18 ?_;exact gc
/- 166:spec_l05Has -/
def Wt:Hw:=([(6,[1,7,8,9],[],[])],[])
def dt:=fun a1 a0 (k_:U→Q V)=>∀{v1} {zr},k_ v1=N zr→Kh Z 166 Wt 6 [1,7,8,9] [] [] ⟨[pI 1 a1,pL 7 rI a0,pI 8 (a0.length:U),pI 9 v1],[],[]⟩ (A8 [4] [.sc (.v (.bool zr))])
theorem A4u{a1 a0}{n:W}:dt a1 a0 (IH a1 a0 n):=by
 induction n with
 | zero=>intro _ r h; cases h
 | succ n ih=>
  intro v1 r h σ hσ;rw[IH] at h;exact gc
instance ZW:Ct 166 (∀{a0} {a1} {r},KI a0 a1=N r→FC Z 166 [.sc (.sl (Y rI a0)),.sc (.int .i64 a1)] [.sc (.v (.bool r))]):=by
 refine⟨fun{a0} {a1} {r} h=> ?_⟩;unfold KI at h;refine A5 A4 Wt [4] 17 ?_;have k0:= @A4u;exact gc
/- 163:spec_l05Walk -/
def B9:P (P W × AItem):= [([],(O,.load 49 (S 5) T 2)),([],(O,.bslice 50 1 [.int .i64 0] 0 [])),([],(O,.mv 51 (S 1))),([1,2],(O,.app 52 1 8 (S 50) (S 51))),([],(O,.mv 53 (S 14))),([4],(O,.bslice 54 1 [.int .i64 0] 1 [(0,(S 53))])),([3,5,3],(O,.app 55 1 8 (S 52) (S 54))),([],(O,.bslice 56 1 [.int .i64 0] 0 [])),([],(O,.mv 57 (S 2))),([7,8,6],(O,.app 58 1 8 (S 56) (S 57))),([],(O,.mv 59 (S 12))),([10],(O,.bslice 60 1 [.int .i64 0] 1 [(0,(S 59))])),([9,11,9],(O,.app 61 1 8 (S 58) (S 60))),([],(O,.mv 62 (S 3))),([],(O,.mv 63 (S 4))),([0,6,12,13,14,12],(O,.call 64 163 [(S 49),(S 55),(S 61),(S 62),(S 63)])),([15,15,0,1,2,3,4,5,6,7,8,9,10,11,12,13,14,15],(O,.mv 4 (S 64)))]
def Q9:Hw:=([(16,[1,2,3,4,5,11,31,32,33],[5],[90000]),(31,[1,2,3,4,5,11,12,14,31,32,33,48],[5],[90000])],[(9,4,(O,.frz 1600))])
abbrev A9(a1 a2:P U)(a3 x1:U)(v5 r9:U)(a0:X1)(ws4_ wo1_:AV)(wo3_ wo6_:AV)(wo7_ wo9_:AV)(wo12_ wo14_ wu16_:AV)(c0_ c1_:V)(c2_ c3_:V)(c4_ c5_:V)(c6_ c7_:V)(c8_ c9_:V)(c10_ c11_:V)(c12_ c13_:V)(c14_ c15_:V)(bx_:P (W × P AC))(rs_:Rows):St:=⟨[(1,vc (aL (Y rI a1))),(2,vc (aL (Y rI a2))),(3,vc (aI a3)),(4,ws4_),(5,vc (.pb 5 0)),(11,vc (aI x1)),(12,vc (aI v5)),(14,vc (aI r9)),(31,vc (aL (Y X2.row a0.Segments))),(32,vc (aI (a0.Segments.length:U))),(33,vc (aI v5)),(49,bif c0_ then va [aL (Y X7.row a0.Points),aL (Y X2.row a0.Segments)] else .undef),(50,bif c1_ then wo1_ else .undef),(51,bif c2_ then vc (aL (Y rI a1)) else .undef),(52,bif c3_ then wo3_ else .undef),(53,bif c4_ then vc (aI r9) else .undef),(54,bif c5_ then vc (.own 3456) else .undef),(55,bif c6_ then wo6_ else .undef),(56,bif c7_ then wo7_ else .undef),(57,bif c8_ then vc (aL (Y rI a2)) else .undef),(58,bif c9_ then wo9_ else .undef),(59,bif c10_ then vc (aI v5) else .undef),(60,bif c11_ then vc (.own 3840) else .undef),(61,bif c12_ then wo12_ else .undef),(62,bif c13_ then vc (aI a3) else .undef),(63,bif c14_ then wo14_ else .undef),(64,bif c15_ then vc (.own 90000) else .undef),(4,wu16_)],bx_,rs_⟩
abbrev B1(a1 a2:P U)(a3 x1:U)(v5 r9:U)(a0:X1)(r18:(P (P U))):St:=(A9 a1 a2 a3 x1 v5 r9 a0 (vc (.own 90000)) (vc (.undef)) (vc (.undef)) (vc (aL (Y rI (a1++([r9]:P U))))) (vc (.undef)) (vc (.undef)) (vc (aL (Y rI (a2++([v5]:P U))))) (vc (.undef)) (vc (.own 90000)) T T T T T T T T T T T T T T T T [(5,[aL (Y X7.row a0.Points),aL (Y X2.row a0.Segments)])] [(90000,1,Y (rL rI) r18),(3456,1,Y rI ([r9]:P U)),(3840,1,Y rI ([v5]:P U))])
theorem A4v(rec_:X1→(P U)→(P U)→U→(P (P U))→Q (P (P U)))(h_rec:∀(a0:X1) (a1 a2:P U) (a3:U) (a4:P (P U)) zr,rec_ a0 a1 a2 a3 a4=N zr→FCt Z 163 [.d (.ag (X1.row a0)),.d (.sc (.sl (Y rI a1))),.d (.sc (.sl (Y rI a2))),.d (.sc (.int .i64 a3)),.r] 1 (Y (rL rI) a4) (Y (rL rI) zr))(a1 a2:P U)(a3)(x1:U)(v5)(r9)(a0)(v6)(r18)(h14:(A3 ([]:P U).length a1.length 8)=T)(h15:(A3 a1.length ([r9]:P U).length 8)=T)(h16:(A3 ([]:P U).length a2.length 8)=T)(h17:(A3 a2.length ([v5]:P U).length 8)=T)(h18:rec_ a0 (a1++([r9]:P U)) (a2++([v5]:P U)) a3 v6=N r18):∀(f:W),Ae Z B9 (B1 a1 a2 a3 x1 v5 r9 a0 r18) f [T,T,T,T,T,T,T,T,T,T,T,T,T,T,T,T,T] (A9 a1 a2 a3 x1 v5 r9 a0 (vc (.own 90000)) (vc (.undef)) (vc (.undef)) (vc (aL (Y rI (a1++([r9]:P U))))) (vc (.undef)) (vc (.undef)) (vc (aL (Y rI (a2++([v5]:P U))))) (vc (.undef)) (vc (.own 90000)) T T T T T T T T T T T T T T T T [(5,[aL (Y X7.row a0.Points),aL (Y X2.row a0.Segments)])] [(90000,1,Y (rL rI) r18),(3456,1,Y rI ([r9]:P U)),(3840,1,Y rI ([v5]:P U))]):=by
 intro f
 induction f with
 | zero=>intro h; rfl
 | succ f ih=>
  refine Aj ⟨?_,?_,?_,?_,?_,?_,?_,?_,?_,?_,?_,?_,?_,?_,?_,?_,?_,⟨⟩⟩<;>try first | (intro h; cases h; done)
theorem A4w(rec_:X1→(P U)→(P U)→U→(P (P U))→Q (P (P U)))(h_rec:∀(a0:X1) (a1 a2:P U) (a3:U) (a4:P (P U)) zr,rec_ a0 a1 a2 a3 a4=N zr→FCt Z 163 [.d (.ag (X1.row a0)),.d (.sc (.sl (Y rI a1))),.d (.sc (.sl (Y rI a2))),.d (.sc (.int .i64 a3)),.r] 1 (Y (rL rI) a4) (Y (rL rI) zr))(a1 a2:P U)(a3)(x1:U)(v5)(r9)(a0)(v6)(r18)(h14:(A3 ([]:P U).length a1.length 8)=T)(h15:(A3 a1.length ([r9]:P U).length 8)=T)(h16:(A3 ([]:P U).length a2.length 8)=T)(h17:(A3 a2.length ([v5]:P U).length 8)=T)(h18:rec_ a0 (a1++([r9]:P U)) (a2++([v5]:P U)) a3 v6=N r18):∀(f:W),Ae Z B9 (B1 a1 a2 a3 x1 v5 r9 a0 r18) f [T,T,T,T,T,T,T,T,T,T,T,T,T,T,T,T,L] (A9 a1 a2 a3 x1 v5 r9 a0 (vc (.undef)) (vc (.undef)) (vc (.undef)) (vc (aL (Y rI (a1++([r9]:P U))))) (vc (.undef)) (vc (.undef)) (vc (aL (Y rI (a2++([v5]:P U))))) (vc (.undef)) (vc (.undef)) T T T T T T T T T T T T T T T T [(5,[aL (Y X7.row a0.Points),aL (Y X2.row a0.Segments)])] [(90000,1,Y (rL rI) r18),(3456,1,Y rI ([r9]:P U)),(3840,1,Y rI ([v5]:P U))]):=by
 intro f
 induction f with
 | zero=>intro  h; simp at h
 | succ f ih=>
  refine Aj ⟨?_,?_,?_,?_,?_,?_,?_,?_,?_,?_,?_,?_,?_,?_,?_,?_,?_,⟨⟩⟩<;>try first | (intro h; cases h; done)
  ·intro h0 hw;refine⟨[],[(O,.keep [1,2,3,4,5,11,12,14,31,32,33,49,50,51,52,53,54,55,56,57,58,59,60,61,62,63,64,4] [5] [90000,3456,3840])],X,X,?_⟩;try simp only[A9,A6,A7,zA,I,A2,C,E,F,G,H,J]
   exact A4v rec_ h_rec a1 a2 a3 x1 v5 r9 a0 v6 r18 h14 h15 h16 h17 h18 _
theorem A4x(rec_:X1→(P U)→(P U)→U→(P (P U))→Q (P (P U)))(h_rec:∀(a0:X1) (a1 a2:P U) (a3:U) (a4:P (P U)) zr,rec_ a0 a1 a2 a3 a4=N zr→FCt Z 163 [.d (.ag (X1.row a0)),.d (.sc (.sl (Y rI a1))),.d (.sc (.sl (Y rI a2))),.d (.sc (.int .i64 a3)),.r] 1 (Y (rL rI) a4) (Y (rL rI) zr))(a1 a2:P U)(a3)(x1:U)(v5)(r9)(a0)(v6)(r18)(h14:(A3 ([]:P U).length a1.length 8)=T)(h15:(A3 a1.length ([r9]:P U).length 8)=T)(h16:(A3 ([]:P U).length a2.length 8)=T)(h17:(A3 a2.length ([v5]:P U).length 8)=T)(h18:rec_ a0 (a1++([r9]:P U)) (a2++([v5]:P U)) a3 v6=N r18):∀(f:W) (b0 b13 b14:V),Ae Z B9 (B1 a1 a2 a3 x1 v5 r9 a0 r18) f [b0,T,T,T,T,T,T,T,T,T,T,T,T,b13,b14,L,L] (A9 a1 a2 a3 x1 v5 r9 a0 (vc (.own 90000)) (vc (.undef)) (vc (.undef)) (vc (.own 3200)) (vc (.undef)) (vc (.undef)) (vc (.own 3584)) (vc (.own 90000)) (vc (.own 90000)) b0 T T T T T T T T T T T T b13 b14 L [(5,[aL (Y X7.row a0.Points),aL (Y X2.row a0.Segments)])] [(90000,1,Y (rL rI) v6),(3200,1,Y rI (a1++([r9]:P U))),(3456,1,Y rI ([r9]:P U)),(3584,1,Y rI (a2++([v5]:P U))),(3840,1,Y rI ([v5]:P U))]):=by
 intro f
 induction f with
 | zero=>intro b0 b13 b14 h; simp at h
 | succ f ih=>
  intro b0 b13 b14;refine Aj ⟨?_,?_,?_,?_,?_,?_,?_,?_,?_,?_,?_,?_,?_,?_,?_,?_,?_,⟨⟩⟩<;>try first | (intro h; cases h; done) | (intro _ hw; simp at hw; done) | (intro h0 hw; obtain rfl:=hz h0 rfl; refine np ?_; simp only[A9,A6,A7,A2,C,E,F,G,H,J]; exact ih _ _ _)
  ·intro h0 hw;obtain rfl:=hq hw 0 rfl rfl;obtain rfl:=hq hw 13 rfl rfl;obtain rfl:=hq hw 14 rfl rfl;refine⟨[(O,.frz 3200),(O,.frz 3584)],[(O,.ren 4096 90000),(O,.keep [1,2,3,4,5,11,12,14,31,32,33,49,50,51,52,53,54,55,56,57,58,59,60,61,62,63,64,4] [5] [90000,3456,3840])],X,X,?_⟩;try simp only[A9,A6,A7,zA,I,A2,C,E,F,G,H,J]
   refine Cq ?_;try simp only[A2,C,E,F,G,H,J]
   refine Cq ?_;try simp only[A2,C,E,F,G,H,J]
   refine Vn (h_rec _ _ _ _ _ _ h18) 90000 X X (by simp only[St.fresh,zB,zC,Ak]; simp[AV.cells,V1.cells,AC.uses]) X X ?_;rw[Ut];try simp only[A2,C,E,F,G,H,J]
   refine oH X X ?_;try simp only[A2,C,E,F,G,H,J]
   exact A4w rec_ h_rec a1 a2 a3 x1 v5 r9 a0 v6 r18 h14 h15 h16 h17 h18 _
theorem aZ(rec_:X1→(P U)→(P U)→U→(P (P U))→Q (P (P U)))(h_rec:∀(a0:X1) (a1 a2:P U) (a3:U) (a4:P (P U)) zr,rec_ a0 a1 a2 a3 a4=N zr→FCt Z 163 [.d (.ag (X1.row a0)),.d (.sc (.sl (Y rI a1))),.d (.sc (.sl (Y rI a2))),.d (.sc (.int .i64 a3)),.r] 1 (Y (rL rI) a4) (Y (rL rI) zr))(a1 a2:P U)(a3)(x1:U)(v5)(r9)(a0)(v6)(r18)(h14:(A3 ([]:P U).length a1.length 8)=T)(h15:(A3 a1.length ([r9]:P U).length 8)=T)(h16:(A3 ([]:P U).length a2.length 8)=T)(h17:(A3 a2.length ([v5]:P U).length 8)=T)(h18:rec_ a0 (a1++([r9]:P U)) (a2++([v5]:P U)) a3 v6=N r18):∀(f:W) (b0 b13 b14:V),Ae Z B9 (B1 a1 a2 a3 x1 v5 r9 a0 r18) f [b0,T,T,T,T,T,T,T,T,T,T,T,L,b13,b14,L,L] (A9 a1 a2 a3 x1 v5 r9 a0 (vc (.own 90000)) (vc (.undef)) (vc (.undef)) (vc (.own 3200)) (vc (.undef)) (vc (.own 3584)) (vc (.own 3584)) (vc (.own 90000)) (vc (.own 90000)) b0 T T T T T T T T T T T L b13 b14 L [(5,[aL (Y X7.row a0.Points),aL (Y X2.row a0.Segments)])] [(90000,1,Y (rL rI) v6),(3200,1,Y rI (a1++([r9]:P U))),(3456,1,Y rI ([r9]:P U)),(3584,1,Y rI a2),(3840,1,Y rI ([v5]:P U))]):=by
 intro f
 induction f with
 | zero=>intro b0 b13 b14 h; simp at h
 | succ f ih=>
  intro b0 b13 b14;refine Aj ⟨?_,?_,?_,?_,?_,?_,?_,?_,?_,?_,?_,?_,?_,?_,?_,?_,?_,⟨⟩⟩<;>try first | (intro h; cases h; done) | (intro _ hw; simp at hw; done) | (intro h0 hw; obtain rfl:=hz h0 rfl; refine np ?_; simp only[A9,A6,A7,A2,C,E,F,G,H,J]; exact ih _ _ _)
  ·intro h0 hw;refine⟨[],[(O,.keep [1,2,3,4,5,11,12,14,31,32,33,49,50,51,52,53,54,55,56,57,58,59,60,61,62,63,64,4] [5] [90000,3200,3456,3584,3840])],X,X,?_⟩;try simp only[h17,A9,A6,A7,zA,I,A2,C,E,F,G,H,J]
   exact A4x rec_ h_rec a1 a2 a3 x1 v5 r9 a0 v6 r18 h14 h15 h16 h17 h18 _ b0 b13 b14
theorem A4y(rec_:X1→(P U)→(P U)→U→(P (P U))→Q (P (P U)))(h_rec:∀(a0:X1) (a1 a2:P U) (a3:U) (a4:P (P U)) zr,rec_ a0 a1 a2 a3 a4=N zr→FCt Z 163 [.d (.ag (X1.row a0)),.d (.sc (.sl (Y rI a1))),.d (.sc (.sl (Y rI a2))),.d (.sc (.int .i64 a3)),.r] 1 (Y (rL rI) a4) (Y (rL rI) zr))(a1 a2:P U)(a3)(x1:U)(v5)(r9)(a0)(v6)(r18)(h14:(A3 ([]:P U).length a1.length 8)=T)(h15:(A3 a1.length ([r9]:P U).length 8)=T)(h16:(A3 ([]:P U).length a2.length 8)=T)(h17:(A3 a2.length ([v5]:P U).length 8)=T)(h18:rec_ a0 (a1++([r9]:P U)) (a2++([v5]:P U)) a3 v6=N r18):∀(f:W) (b0 b10:V) (b13 b14:V),Ae Z B9 (B1 a1 a2 a3 x1 v5 r9 a0 r18) f [b0,T,T,T,T,T,T,T,T,T,b10,L,L,b13,b14,L,L] (A9 a1 a2 a3 x1 v5 r9 a0 (vc (.own 90000)) (vc (.undef)) (vc (.undef)) (vc (.own 3200)) (vc (.undef)) (vc (.own 3584)) (vc (.own 3584)) (vc (.own 90000)) (vc (.own 90000)) b0 T T T T T T T T T b10 L L b13 b14 L [(5,[aL (Y X7.row a0.Points),aL (Y X2.row a0.Segments)])] [(90000,1,Y (rL rI) v6),(3200,1,Y rI (a1++([r9]:P U))),(3456,1,Y rI ([r9]:P U)),(3584,1,Y rI a2)]):=by
 intro f
 induction f with
 | zero=>intro b0 b10 b13 b14 h; simp at h
 | succ f ih=>
  intro b0 b10 b13 b14;refine Aj ⟨?_,?_,?_,?_,?_,?_,?_,?_,?_,?_,?_,?_,?_,?_,?_,?_,?_,⟨⟩⟩<;>try first | (intro h; cases h; done) | (intro _ hw; simp at hw; done) | (intro h0 hw; obtain rfl:=hz h0 rfl; refine np ?_; simp only[A9,A6,A7,A2,C,E,F,G,H,J]; exact ih _ _ _ _)
  ·intro h0 hw;obtain rfl:=hq hw 10 rfl rfl;refine⟨[],[(O,.keep [1,2,3,4,5,11,12,14,31,32,33,49,50,51,52,53,54,55,56,57,58,59,60,61,62,63,64,4] [5] [90000,3200,3456,3584,3840])],X,X,?_⟩;try simp only[A9,A6,A7,zA,I,A2,C,E,F,G,H,J]
   refine At (es:=Y rI ([v5]:P U)) X (by simp only[St.fresh,zB,zC,Ak]; simp[AV.cells,V1.cells,AC.uses]) ?_;try simp only[A2,C,E,F,G,H,J]
   exact aZ rec_ h_rec a1 a2 a3 x1 v5 r9 a0 v6 r18 h14 h15 h16 h17 h18 _ b0 b13 b14
theorem Tt(rec_:X1→(P U)→(P U)→U→(P (P U))→Q (P (P U)))(h_rec:∀(a0:X1) (a1 a2:P U) (a3:U) (a4:P (P U)) zr,rec_ a0 a1 a2 a3 a4=N zr→FCt Z 163 [.d (.ag (X1.row a0)),.d (.sc (.sl (Y rI a1))),.d (.sc (.sl (Y rI a2))),.d (.sc (.int .i64 a3)),.r] 1 (Y (rL rI) a4) (Y (rL rI) zr))(a1 a2:P U)(a3)(x1:U)(v5)(r9)(a0)(v6)(r18)(h14:(A3 ([]:P U).length a1.length 8)=T)(h15:(A3 a1.length ([r9]:P U).length 8)=T)(h16:(A3 ([]:P U).length a2.length 8)=T)(h17:(A3 a2.length ([v5]:P U).length 8)=T)(h18:rec_ a0 (a1++([r9]:P U)) (a2++([v5]:P U)) a3 v6=N r18):∀(f:W) (b0 b8:V) (b13 b14:V),Ae Z B9 (B1 a1 a2 a3 x1 v5 r9 a0 r18) f [b0,T,T,T,T,T,T,T,b8,L,T,T,L,b13,b14,L,L] (A9 a1 a2 a3 x1 v5 r9 a0 (vc (.own 90000)) (vc (.undef)) (vc (.undef)) (vc (.own 3200)) (vc (.own 3584)) (vc (.own 3584)) (vc (.own 3584)) (vc (.own 90000)) (vc (.own 90000)) b0 T T T T T T T b8 L T T L b13 b14 L [(5,[aL (Y X7.row a0.Points),aL (Y X2.row a0.Segments)])] [(90000,1,Y (rL rI) v6),(3200,1,Y rI (a1++([r9]:P U))),(3456,1,Y rI ([r9]:P U)),(3584,1,Y rI ([]:P U)),(3840,1,Y rI ([v5]:P U))]):=by
 intro f
 induction f with
 | zero=>intro b0 b8 b13 b14 h; simp at h
 | succ f ih=>
  intro b0 b8 b13 b14;refine Aj ⟨?_,?_,?_,?_,?_,?_,?_,?_,?_,?_,?_,?_,?_,?_,?_,?_,?_,⟨⟩⟩<;>try first | (intro h; cases h; done) | (intro _ hw; simp at hw; done) | (intro h0 hw; obtain rfl:=hz h0 rfl; refine np ?_; simp only[A9,A6,A7,A2,C,E,F,G,H,J]; exact ih _ _ _ _)
  ·intro h0 hw;obtain rfl:=hq hw 8 rfl rfl;refine⟨[],[(O,.keep [1,2,3,4,5,11,12,14,31,32,33,49,50,51,52,53,54,55,56,57,58,59,60,61,62,63,64,4] [5] [90000,3200,3456,3584,3840])],X,X,?_⟩;try simp only[h16,A9,A6,A7,zA,I,A2,C,E,F,G,H,J]
   exact aZ rec_ h_rec a1 a2 a3 x1 v5 r9 a0 v6 r18 h14 h15 h16 h17 h18 _ b0 b13 b14
theorem aa(rec_:X1→(P U)→(P U)→U→(P (P U))→Q (P (P U)))(h_rec:∀(a0:X1) (a1 a2:P U) (a3:U) (a4:P (P U)) zr,rec_ a0 a1 a2 a3 a4=N zr→FCt Z 163 [.d (.ag (X1.row a0)),.d (.sc (.sl (Y rI a1))),.d (.sc (.sl (Y rI a2))),.d (.sc (.int .i64 a3)),.r] 1 (Y (rL rI) a4) (Y (rL rI) zr))(a1 a2:P U)(a3)(x1:U)(v5)(r9)(a0)(v6)(r18)(h14:(A3 ([]:P U).length a1.length 8)=T)(h15:(A3 a1.length ([r9]:P U).length 8)=T)(h16:(A3 ([]:P U).length a2.length 8)=T)(h17:(A3 a2.length ([v5]:P U).length 8)=T)(h18:rec_ a0 (a1++([r9]:P U)) (a2++([v5]:P U)) a3 v6=N r18):∀(f:W) (b0 b8:V) (b10 b13 b14:V),Ae Z B9 (B1 a1 a2 a3 x1 v5 r9 a0 r18) f [b0,T,T,T,T,T,T,T,b8,L,b10,L,L,b13,b14,L,L] (A9 a1 a2 a3 x1 v5 r9 a0 (vc (.own 90000)) (vc (.undef)) (vc (.undef)) (vc (.own 3200)) (vc (.own 3584)) (vc (.own 3584)) (vc (.own 3584)) (vc (.own 90000)) (vc (.own 90000)) b0 T T T T T T T b8 L b10 L L b13 b14 L [(5,[aL (Y X7.row a0.Points),aL (Y X2.row a0.Segments)])] [(90000,1,Y (rL rI) v6),(3200,1,Y rI (a1++([r9]:P U))),(3456,1,Y rI ([r9]:P U)),(3584,1,Y rI ([]:P U))]):=by
 intro f
 induction f with
 | zero=>intro b0 b8 b10 b13 b14 h; simp at h
 | succ f ih=>
  intro b0 b8 b10 b13 b14;refine Aj ⟨?_,?_,?_,?_,?_,?_,?_,?_,?_,?_,?_,?_,?_,?_,?_,?_,?_,⟨⟩⟩<;>try first | (intro h; cases h; done) | (intro _ hw; simp at hw; done) | (intro h0 hw; obtain rfl:=hz h0 rfl; refine np ?_; simp only[A9,A6,A7,A2,C,E,F,G,H,J]; exact ih _ _ _ _ _)
  ·intro h0 hw;obtain rfl:=hq hw 8 rfl rfl;refine⟨[],[(O,.keep [1,2,3,4,5,11,12,14,31,32,33,49,50,51,52,53,54,55,56,57,58,59,60,61,62,63,64,4] [5] [90000,3200,3456,3584])],X,X,?_⟩;try simp only[h16,A9,A6,A7,zA,I,A2,C,E,F,G,H,J]
   exact A4y rec_ h_rec a1 a2 a3 x1 v5 r9 a0 v6 r18 h14 h15 h16 h17 h18 _ b0 b10 b13 b14
  ·intro h0 hw;obtain rfl:=hq hw 10 rfl rfl;refine⟨[],[(O,.keep [1,2,3,4,5,11,12,14,31,32,33,49,50,51,52,53,54,55,56,57,58,59,60,61,62,63,64,4] [5] [90000,3200,3456,3584,3840])],X,X,?_⟩;try simp only[A9,A6,A7,zA,I,A2,C,E,F,G,H,J]
   refine At (es:=Y rI ([v5]:P U)) X (by simp only[St.fresh,zB,zC,Ak]; simp[AV.cells,V1.cells,AC.uses]) ?_;try simp only[A2,C,E,F,G,H,J]
   exact Tt rec_ h_rec a1 a2 a3 x1 v5 r9 a0 v6 r18 h14 h15 h16 h17 h18 _ b0 b8 b13 b14
theorem ab(rec_:X1→(P U)→(P U)→U→(P (P U))→Q (P (P U)))(h_rec:∀(a0:X1) (a1 a2:P U) (a3:U) (a4:P (P U)) zr,rec_ a0 a1 a2 a3 a4=N zr→FCt Z 163 [.d (.ag (X1.row a0)),.d (.sc (.sl (Y rI a1))),.d (.sc (.sl (Y rI a2))),.d (.sc (.int .i64 a3)),.r] 1 (Y (rL rI) a4) (Y (rL rI) zr))(a1 a2:P U)(a3)(x1:U)(v5)(r9)(a0)(v6)(r18)(h14:(A3 ([]:P U).length a1.length 8)=T)(h15:(A3 a1.length ([r9]:P U).length 8)=T)(h16:(A3 ([]:P U).length a2.length 8)=T)(h17:(A3 a2.length ([v5]:P U).length 8)=T)(h18:rec_ a0 (a1++([r9]:P U)) (a2++([v5]:P U)) a3 v6=N r18):∀(f:W) (b0 b8:V) (b13 b14:V),Ae Z B9 (B1 a1 a2 a3 x1 v5 r9 a0 r18) f [b0,T,T,T,T,T,T,L,b8,L,T,T,L,b13,b14,L,L] (A9 a1 a2 a3 x1 v5 r9 a0 (vc (.own 90000)) (vc (.undef)) (vc (.undef)) (vc (.own 3200)) (vc (.own 3584)) (vc (.own 3584)) (vc (.own 3584)) (vc (.own 90000)) (vc (.own 90000)) b0 T T T T T T L b8 L T T L b13 b14 L [(5,[aL (Y X7.row a0.Points),aL (Y X2.row a0.Segments)])] [(90000,1,Y (rL rI) v6),(3200,1,Y rI (a1++([r9]:P U))),(3456,1,Y rI ([r9]:P U)),(3840,1,Y rI ([v5]:P U))]):=by
 intro f
 induction f with
 | zero=>intro b0 b8 b13 b14 h; simp at h
 | succ f ih=>
  intro b0 b8 b13 b14;refine Aj ⟨?_,?_,?_,?_,?_,?_,?_,?_,?_,?_,?_,?_,?_,?_,?_,?_,?_,⟨⟩⟩<;>try first | (intro h; cases h; done) | (intro _ hw; simp at hw; done) | (intro h0 hw; obtain rfl:=hz h0 rfl; refine np ?_; simp only[A9,A6,A7,A2,C,E,F,G,H,J]; exact ih _ _ _ _)
  ·intro h0 hw;refine⟨[],[(O,.keep [1,2,3,4,5,11,12,14,31,32,33,49,50,51,52,53,54,55,56,57,58,59,60,61,62,63,64,4] [5] [90000,3200,3456,3584,3840])],X,X,?_⟩;try simp only[A9,A6,A7,zA,I,A2,C,E,F,G,H,J]
   refine At (es:=Y rI ([]:P U)) X (by simp only[St.fresh,zB,zC,Ak]; simp[AV.cells,V1.cells,AC.uses]) ?_;try simp only[A2,C,E,F,G,H,J]
   exact Tt rec_ h_rec a1 a2 a3 x1 v5 r9 a0 v6 r18 h14 h15 h16 h17 h18 _ b0 b8 b13 b14
theorem QU(rec_:X1→(P U)→(P U)→U→(P (P U))→Q (P (P U)))(h_rec:∀(a0:X1) (a1 a2:P U) (a3:U) (a4:P (P U)) zr,rec_ a0 a1 a2 a3 a4=N zr→FCt Z 163 [.d (.ag (X1.row a0)),.d (.sc (.sl (Y rI a1))),.d (.sc (.sl (Y rI a2))),.d (.sc (.int .i64 a3)),.r] 1 (Y (rL rI) a4) (Y (rL rI) zr))(a1 a2:P U)(a3)(x1:U)(v5)(r9)(a0)(v6)(r18)(h14:(A3 ([]:P U).length a1.length 8)=T)(h15:(A3 a1.length ([r9]:P U).length 8)=T)(h16:(A3 ([]:P U).length a2.length 8)=T)(h17:(A3 a2.length ([v5]:P U).length 8)=T)(h18:rec_ a0 (a1++([r9]:P U)) (a2++([v5]:P U)) a3 v6=N r18):∀(f:W) (b0 b8:V) (b13 b14:V),Ae Z B9 (B1 a1 a2 a3 x1 v5 r9 a0 r18) f [b0,T,T,T,T,T,L,T,b8,L,T,T,L,b13,b14,L,L] (A9 a1 a2 a3 x1 v5 r9 a0 (vc (.own 90000)) (vc (.undef)) (vc (.own 3200)) (vc (.own 3200)) (vc (.own 3584)) (vc (.own 3584)) (vc (.own 3584)) (vc (.own 90000)) (vc (.own 90000)) b0 T T T T T L T b8 L T T L b13 b14 L [(5,[aL (Y X7.row a0.Points),aL (Y X2.row a0.Segments)])] [(90000,1,Y (rL rI) v6),(3200,1,Y rI a1),(3456,1,Y rI ([r9]:P U)),(3584,1,Y rI ([]:P U)),(3840,1,Y rI ([v5]:P U))]):=by
 intro f
 induction f with
 | zero=>intro b0 b8 b13 b14 h; simp at h
 | succ f ih=>
  intro b0 b8 b13 b14;refine Aj ⟨?_,?_,?_,?_,?_,?_,?_,?_,?_,?_,?_,?_,?_,?_,?_,?_,?_,⟨⟩⟩<;>try first | (intro h; cases h; done) | (intro _ hw; simp at hw; done) | (intro h0 hw; obtain rfl:=hz h0 rfl; refine np ?_; simp only[A9,A6,A7,A2,C,E,F,G,H,J]; exact ih _ _ _ _)
  ·intro h0 hw;refine⟨[],[(O,.keep [1,2,3,4,5,11,12,14,31,32,33,49,50,51,52,53,54,55,56,57,58,59,60,61,62,63,64,4] [5] [90000,3200,3456,3584,3840])],X,X,?_⟩;try simp only[h15,A9,A6,A7,zA,I,A2,C,E,F,G,H,J]
   exact Tt rec_ h_rec a1 a2 a3 x1 v5 r9 a0 v6 r18 h14 h15 h16 h17 h18 _ b0 b8 b13 b14
theorem A40(rec_:X1→(P U)→(P U)→U→(P (P U))→Q (P (P U)))(h_rec:∀(a0:X1) (a1 a2:P U) (a3:U) (a4:P (P U)) zr,rec_ a0 a1 a2 a3 a4=N zr→FCt Z 163 [.d (.ag (X1.row a0)),.d (.sc (.sl (Y rI a1))),.d (.sc (.sl (Y rI a2))),.d (.sc (.int .i64 a3)),.r] 1 (Y (rL rI) a4) (Y (rL rI) zr))(a1 a2:P U)(a3)(x1:U)(v5)(r9)(a0)(v6)(r18)(h14:(A3 ([]:P U).length a1.length 8)=T)(h15:(A3 a1.length ([r9]:P U).length 8)=T)(h16:(A3 ([]:P U).length a2.length 8)=T)(h17:(A3 a2.length ([v5]:P U).length 8)=T)(h18:rec_ a0 (a1++([r9]:P U)) (a2++([v5]:P U)) a3 v6=N r18):∀(f:W) (b0 b8:V) (b10 b13 b14:V),Ae Z B9 (B1 a1 a2 a3 x1 v5 r9 a0 r18) f [b0,T,T,T,T,T,T,L,b8,L,b10,L,L,b13,b14,L,L] (A9 a1 a2 a3 x1 v5 r9 a0 (vc (.own 90000)) (vc (.undef)) (vc (.undef)) (vc (.own 3200)) (vc (.own 3584)) (vc (.own 3584)) (vc (.own 3584)) (vc (.own 90000)) (vc (.own 90000)) b0 T T T T T T L b8 L b10 L L b13 b14 L [(5,[aL (Y X7.row a0.Points),aL (Y X2.row a0.Segments)])] [(90000,1,Y (rL rI) v6),(3200,1,Y rI (a1++([r9]:P U))),(3456,1,Y rI ([r9]:P U))]):=by
 intro f
 induction f with
 | zero=>intro b0 b8 b10 b13 b14 h; simp at h
 | succ f ih=>
  intro b0 b8 b10 b13 b14;refine Aj ⟨?_,?_,?_,?_,?_,?_,?_,?_,?_,?_,?_,?_,?_,?_,?_,?_,?_,⟨⟩⟩<;>try first | (intro h; cases h; done) | (intro _ hw; simp at hw; done) | (intro h0 hw; obtain rfl:=hz h0 rfl; refine np ?_; simp only[A9,A6,A7,A2,C,E,F,G,H,J]; exact ih _ _ _ _ _)
  ·intro h0 hw;refine⟨[],[(O,.keep [1,2,3,4,5,11,12,14,31,32,33,49,50,51,52,53,54,55,56,57,58,59,60,61,62,63,64,4] [5] [90000,3200,3456,3584])],X,X,?_⟩;try simp only[A9,A6,A7,zA,I,A2,C,E,F,G,H,J]
   refine At (es:=Y rI ([]:P U)) X (by simp only[St.fresh,zB,zC,Ak]; simp[AV.cells,V1.cells,AC.uses]) ?_;try simp only[A2,C,E,F,G,H,J]
   exact aa rec_ h_rec a1 a2 a3 x1 v5 r9 a0 v6 r18 h14 h15 h16 h17 h18 _ b0 b8 b10 b13 b14
  ·intro h0 hw;obtain rfl:=hq hw 10 rfl rfl;refine⟨[],[(O,.keep [1,2,3,4,5,11,12,14,31,32,33,49,50,51,52,53,54,55,56,57,58,59,60,61,62,63,64,4] [5] [90000,3200,3456,3840])],X,X,?_⟩;try simp only[A9,A6,A7,zA,I,A2,C,E,F,G,H,J]
   refine At (es:=Y rI ([v5]:P U)) X (by simp only[St.fresh,zB,zC,Ak]; simp[AV.cells,V1.cells,AC.uses]) ?_;try simp only[A2,C,E,F,G,H,J]
   exact ab rec_ h_rec a1 a2 a3 x1 v5 r9 a0 v6 r18 h14 h15 h16 h17 h18 _ b0 b8 b13 b14
theorem Tu(rec_:X1→(P U)→(P U)→U→(P (P U))→Q (P (P U)))(h_rec:∀(a0:X1) (a1 a2:P U) (a3:U) (a4:P (P U)) zr,rec_ a0 a1 a2 a3 a4=N zr→FCt Z 163 [.d (.ag (X1.row a0)),.d (.sc (.sl (Y rI a1))),.d (.sc (.sl (Y rI a2))),.d (.sc (.int .i64 a3)),.r] 1 (Y (rL rI) a4) (Y (rL rI) zr))(a1 a2:P U)(a3)(x1:U)(v5)(r9)(a0)(v6)(r18)(h14:(A3 ([]:P U).length a1.length 8)=T)(h15:(A3 a1.length ([r9]:P U).length 8)=T)(h16:(A3 ([]:P U).length a2.length 8)=T)(h17:(A3 a2.length ([v5]:P U).length 8)=T)(h18:rec_ a0 (a1++([r9]:P U)) (a2++([v5]:P U)) a3 v6=N r18):∀(f:W) (b0 b8:V) (b10 b13 b14:V),Ae Z B9 (B1 a1 a2 a3 x1 v5 r9 a0 r18) f [b0,T,T,T,T,T,L,T,b8,L,b10,L,L,b13,b14,L,L] (A9 a1 a2 a3 x1 v5 r9 a0 (vc (.own 90000)) (vc (.undef)) (vc (.own 3200)) (vc (.own 3200)) (vc (.own 3584)) (vc (.own 3584)) (vc (.own 3584)) (vc (.own 90000)) (vc (.own 90000)) b0 T T T T T L T b8 L b10 L L b13 b14 L [(5,[aL (Y X7.row a0.Points),aL (Y X2.row a0.Segments)])] [(90000,1,Y (rL rI) v6),(3200,1,Y rI a1),(3456,1,Y rI ([r9]:P U)),(3584,1,Y rI ([]:P U))]):=by
 intro f
 induction f with
 | zero=>intro b0 b8 b10 b13 b14 h; simp at h
 | succ f ih=>
  intro b0 b8 b10 b13 b14;refine Aj ⟨?_,?_,?_,?_,?_,?_,?_,?_,?_,?_,?_,?_,?_,?_,?_,?_,?_,⟨⟩⟩<;>try first | (intro h; cases h; done) | (intro _ hw; simp at hw; done) | (intro h0 hw; obtain rfl:=hz h0 rfl; refine np ?_; simp only[A9,A6,A7,A2,C,E,F,G,H,J]; exact ih _ _ _ _ _)
  ·intro h0 hw;refine⟨[],[(O,.keep [1,2,3,4,5,11,12,14,31,32,33,49,50,51,52,53,54,55,56,57,58,59,60,61,62,63,64,4] [5] [90000,3200,3456,3584])],X,X,?_⟩;try simp only[h15,A9,A6,A7,zA,I,A2,C,E,F,G,H,J]
   exact aa rec_ h_rec a1 a2 a3 x1 v5 r9 a0 v6 r18 h14 h15 h16 h17 h18 _ b0 b8 b10 b13 b14
  ·intro h0 hw;obtain rfl:=hq hw 10 rfl rfl;refine⟨[],[(O,.keep [1,2,3,4,5,11,12,14,31,32,33,49,50,51,52,53,54,55,56,57,58,59,60,61,62,63,64,4] [5] [90000,3200,3456,3584,3840])],X,X,?_⟩;try simp only[A9,A6,A7,zA,I,A2,C,E,F,G,H,J]
   refine At (es:=Y rI ([v5]:P U)) X (by simp only[St.fresh,zB,zC,Ak]; simp[AV.cells,V1.cells,AC.uses]) ?_;try simp only[A2,C,E,F,G,H,J]
   exact QU rec_ h_rec a1 a2 a3 x1 v5 r9 a0 v6 r18 h14 h15 h16 h17 h18 _ b0 b8 b13 b14
theorem Tv(rec_:X1→(P U)→(P U)→U→(P (P U))→Q (P (P U)))(h_rec:∀(a0:X1) (a1 a2:P U) (a3:U) (a4:P (P U)) zr,rec_ a0 a1 a2 a3 a4=N zr→FCt Z 163 [.d (.ag (X1.row a0)),.d (.sc (.sl (Y rI a1))),.d (.sc (.sl (Y rI a2))),.d (.sc (.int .i64 a3)),.r] 1 (Y (rL rI) a4) (Y (rL rI) zr))(a1 a2:P U)(a3)(x1:U)(v5)(r9)(a0)(v6)(r18)(h14:(A3 ([]:P U).length a1.length 8)=T)(h15:(A3 a1.length ([r9]:P U).length 8)=T)(h16:(A3 ([]:P U).length a2.length 8)=T)(h17:(A3 a2.length ([v5]:P U).length 8)=T)(h18:rec_ a0 (a1++([r9]:P U)) (a2++([v5]:P U)) a3 v6=N r18):∀(f:W) (b0 b8:V) (b13 b14:V),Ae Z B9 (B1 a1 a2 a3 x1 v5 r9 a0 r18) f [b0,T,T,T,T,T,L,L,b8,L,T,T,L,b13,b14,L,L] (A9 a1 a2 a3 x1 v5 r9 a0 (vc (.own 90000)) (vc (.undef)) (vc (.own 3200)) (vc (.own 3200)) (vc (.own 3584)) (vc (.own 3584)) (vc (.own 3584)) (vc (.own 90000)) (vc (.own 90000)) b0 T T T T T L L b8 L T T L b13 b14 L [(5,[aL (Y X7.row a0.Points),aL (Y X2.row a0.Segments)])] [(90000,1,Y (rL rI) v6),(3200,1,Y rI a1),(3456,1,Y rI ([r9]:P U)),(3840,1,Y rI ([v5]:P U))]):=by
 intro f
 induction f with
 | zero=>intro b0 b8 b13 b14 h; simp at h
 | succ f ih=>
  intro b0 b8 b13 b14;refine Aj ⟨?_,?_,?_,?_,?_,?_,?_,?_,?_,?_,?_,?_,?_,?_,?_,?_,?_,⟨⟩⟩<;>try first | (intro h; cases h; done) | (intro _ hw; simp at hw; done) | (intro h0 hw; obtain rfl:=hz h0 rfl; refine np ?_; simp only[A9,A6,A7,A2,C,E,F,G,H,J]; exact ih _ _ _ _)
  ·intro h0 hw;refine⟨[],[(O,.keep [1,2,3,4,5,11,12,14,31,32,33,49,50,51,52,53,54,55,56,57,58,59,60,61,62,63,64,4] [5] [90000,3200,3456,3840])],X,X,?_⟩;try simp only[h15,A9,A6,A7,zA,I,A2,C,E,F,G,H,J]
   exact ab rec_ h_rec a1 a2 a3 x1 v5 r9 a0 v6 r18 h14 h15 h16 h17 h18 _ b0 b8 b13 b14
  ·intro h0 hw;refine⟨[],[(O,.keep [1,2,3,4,5,11,12,14,31,32,33,49,50,51,52,53,54,55,56,57,58,59,60,61,62,63,64,4] [5] [90000,3200,3456,3584,3840])],X,X,?_⟩;try simp only[A9,A6,A7,zA,I,A2,C,E,F,G,H,J]
   refine At (es:=Y rI ([]:P U)) X (by simp only[St.fresh,zB,zC,Ak]; simp[AV.cells,V1.cells,AC.uses]) ?_;try simp only[A2,C,E,F,G,H,J]
   exact QU rec_ h_rec a1 a2 a3 x1 v5 r9 a0 v6 r18 h14 h15 h16 h17 h18 _ b0 b8 b13 b14
theorem Tw(rec_:X1→(P U)→(P U)→U→(P (P U))→Q (P (P U)))(h_rec:∀(a0:X1) (a1 a2:P U) (a3:U) (a4:P (P U)) zr,rec_ a0 a1 a2 a3 a4=N zr→FCt Z 163 [.d (.ag (X1.row a0)),.d (.sc (.sl (Y rI a1))),.d (.sc (.sl (Y rI a2))),.d (.sc (.int .i64 a3)),.r] 1 (Y (rL rI) a4) (Y (rL rI) zr))(a1 a2:P U)(a3)(x1:U)(v5)(r9)(a0)(v6)(r18)(h14:(A3 ([]:P U).length a1.length 8)=T)(h15:(A3 a1.length ([r9]:P U).length 8)=T)(h16:(A3 ([]:P U).length a2.length 8)=T)(h17:(A3 a2.length ([v5]:P U).length 8)=T)(h18:rec_ a0 (a1++([r9]:P U)) (a2++([v5]:P U)) a3 v6=N r18):∀(f:W) (b0 b4:V) (b8 b13 b14:V),Ae Z B9 (B1 a1 a2 a3 x1 v5 r9 a0 r18) f [b0,T,T,T,b4,L,L,T,b8,L,T,T,L,b13,b14,L,L] (A9 a1 a2 a3 x1 v5 r9 a0 (vc (.own 90000)) (vc (.undef)) (vc (.own 3200)) (vc (.own 3200)) (vc (.own 3584)) (vc (.own 3584)) (vc (.own 3584)) (vc (.own 90000)) (vc (.own 90000)) b0 T T T b4 L L T b8 L T T L b13 b14 L [(5,[aL (Y X7.row a0.Points),aL (Y X2.row a0.Segments)])] [(90000,1,Y (rL rI) v6),(3200,1,Y rI a1),(3584,1,Y rI ([]:P U)),(3840,1,Y rI ([v5]:P U))]):=by
 intro f
 induction f with
 | zero=>intro b0 b4 b8 b13 b14 h; simp at h
 | succ f ih=>
  intro b0 b4 b8 b13 b14;refine Aj ⟨?_,?_,?_,?_,?_,?_,?_,?_,?_,?_,?_,?_,?_,?_,?_,?_,?_,⟨⟩⟩<;>try first | (intro h; cases h; done) | (intro _ hw; simp at hw; done) | (intro h0 hw; obtain rfl:=hz h0 rfl; refine np ?_; simp only[A9,A6,A7,A2,C,E,F,G,H,J]; exact ih _ _ _ _ _)
  ·intro h0 hw;obtain rfl:=hq hw 4 rfl rfl;refine⟨[],[(O,.keep [1,2,3,4,5,11,12,14,31,32,33,49,50,51,52,53,54,55,56,57,58,59,60,61,62,63,64,4] [5] [90000,3200,3456,3584,3840])],X,X,?_⟩;try simp only[A9,A6,A7,zA,I,A2,C,E,F,G,H,J]
   refine At (es:=Y rI ([r9]:P U)) X (by simp only[St.fresh,zB,zC,Ak]; simp[AV.cells,V1.cells,AC.uses]) ?_;try simp only[A2,C,E,F,G,H,J]
   exact QU rec_ h_rec a1 a2 a3 x1 v5 r9 a0 v6 r18 h14 h15 h16 h17 h18 _ b0 b8 b13 b14
theorem QV(rec_:X1→(P U)→(P U)→U→(P (P U))→Q (P (P U)))(h_rec:∀(a0:X1) (a1 a2:P U) (a3:U) (a4:P (P U)) zr,rec_ a0 a1 a2 a3 a4=N zr→FCt Z 163 [.d (.ag (X1.row a0)),.d (.sc (.sl (Y rI a1))),.d (.sc (.sl (Y rI a2))),.d (.sc (.int .i64 a3)),.r] 1 (Y (rL rI) a4) (Y (rL rI) zr))(a1 a2:P U)(a3)(x1:U)(v5)(r9)(a0)(v6)(r18)(h14:(A3 ([]:P U).length a1.length 8)=T)(h15:(A3 a1.length ([r9]:P U).length 8)=T)(h16:(A3 ([]:P U).length a2.length 8)=T)(h17:(A3 a2.length ([v5]:P U).length 8)=T)(h18:rec_ a0 (a1++([r9]:P U)) (a2++([v5]:P U)) a3 v6=N r18):∀(f:W) (b0 b2:V) (b8 b13 b14:V),Ae Z B9 (B1 a1 a2 a3 x1 v5 r9 a0 r18) f [b0,T,b2,L,T,T,L,T,b8,L,T,T,L,b13,b14,L,L] (A9 a1 a2 a3 x1 v5 r9 a0 (vc (.own 90000)) (vc (.own 3200)) (vc (.own 3200)) (vc (.own 3200)) (vc (.own 3584)) (vc (.own 3584)) (vc (.own 3584)) (vc (.own 90000)) (vc (.own 90000)) b0 T b2 L T T L T b8 L T T L b13 b14 L [(5,[aL (Y X7.row a0.Points),aL (Y X2.row a0.Segments)])] [(90000,1,Y (rL rI) v6),(3200,1,Y rI ([]:P U)),(3456,1,Y rI ([r9]:P U)),(3584,1,Y rI ([]:P U)),(3840,1,Y rI ([v5]:P U))]):=by
 intro f
 induction f with
 | zero=>intro b0 b2 b8 b13 b14 h; simp at h
 | succ f ih=>
  intro b0 b2 b8 b13 b14;refine Aj ⟨?_,?_,?_,?_,?_,?_,?_,?_,?_,?_,?_,?_,?_,?_,?_,?_,?_,⟨⟩⟩<;>try first | (intro h; cases h; done) | (intro _ hw; simp at hw; done) | (intro h0 hw; obtain rfl:=hz h0 rfl; refine np ?_; simp only[A9,A6,A7,A2,C,E,F,G,H,J]; exact ih _ _ _ _ _)
  ·intro h0 hw;obtain rfl:=hq hw 2 rfl rfl;refine⟨[],[(O,.keep [1,2,3,4,5,11,12,14,31,32,33,49,50,51,52,53,54,55,56,57,58,59,60,61,62,63,64,4] [5] [90000,3200,3456,3584,3840])],X,X,?_⟩;try simp only[h14,A9,A6,A7,zA,I,A2,C,E,F,G,H,J]
   exact QU rec_ h_rec a1 a2 a3 x1 v5 r9 a0 v6 r18 h14 h15 h16 h17 h18 _ b0 b8 b13 b14
theorem ae(rec_:X1→(P U)→(P U)→U→(P (P U))→Q (P (P U)))(h_rec:∀(a0:X1) (a1 a2:P U) (a3:U) (a4:P (P U)) zr,rec_ a0 a1 a2 a3 a4=N zr→FCt Z 163 [.d (.ag (X1.row a0)),.d (.sc (.sl (Y rI a1))),.d (.sc (.sl (Y rI a2))),.d (.sc (.int .i64 a3)),.r] 1 (Y (rL rI) a4) (Y (rL rI) zr))(a1 a2:P U)(a3)(x1:U)(v5)(r9)(a0)(v6)(r18)(h14:(A3 ([]:P U).length a1.length 8)=T)(h15:(A3 a1.length ([r9]:P U).length 8)=T)(h16:(A3 ([]:P U).length a2.length 8)=T)(h17:(A3 a2.length ([v5]:P U).length 8)=T)(h18:rec_ a0 (a1++([r9]:P U)) (a2++([v5]:P U)) a3 v6=N r18):∀(f:W) (b0 b8:V) (b10 b13 b14:V),Ae Z B9 (B1 a1 a2 a3 x1 v5 r9 a0 r18) f [b0,T,T,T,T,T,L,L,b8,L,b10,L,L,b13,b14,L,L] (A9 a1 a2 a3 x1 v5 r9 a0 (vc (.own 90000)) (vc (.undef)) (vc (.own 3200)) (vc (.own 3200)) (vc (.own 3584)) (vc (.own 3584)) (vc (.own 3584)) (vc (.own 90000)) (vc (.own 90000)) b0 T T T T T L L b8 L b10 L L b13 b14 L [(5,[aL (Y X7.row a0.Points),aL (Y X2.row a0.Segments)])] [(90000,1,Y (rL rI) v6),(3200,1,Y rI a1),(3456,1,Y rI ([r9]:P U))]):=by
 intro f
 induction f with
 | zero=>intro b0 b8 b10 b13 b14 h; simp at h
 | succ f ih=>
  intro b0 b8 b10 b13 b14;refine Aj ⟨?_,?_,?_,?_,?_,?_,?_,?_,?_,?_,?_,?_,?_,?_,?_,?_,?_,⟨⟩⟩<;>try first | (intro h; cases h; done) | (intro _ hw; simp at hw; done) | (intro h0 hw; obtain rfl:=hz h0 rfl; refine np ?_; simp only[A9,A6,A7,A2,C,E,F,G,H,J]; exact ih _ _ _ _ _)
  ·intro h0 hw;refine⟨[],[(O,.keep [1,2,3,4,5,11,12,14,31,32,33,49,50,51,52,53,54,55,56,57,58,59,60,61,62,63,64,4] [5] [90000,3200,3456])],X,X,?_⟩;try simp only[h15,A9,A6,A7,zA,I,A2,C,E,F,G,H,J]
   exact A40 rec_ h_rec a1 a2 a3 x1 v5 r9 a0 v6 r18 h14 h15 h16 h17 h18 _ b0 b8 b10 b13 b14
  ·intro h0 hw;refine⟨[],[(O,.keep [1,2,3,4,5,11,12,14,31,32,33,49,50,51,52,53,54,55,56,57,58,59,60,61,62,63,64,4] [5] [90000,3200,3456,3584])],X,X,?_⟩;try simp only[A9,A6,A7,zA,I,A2,C,E,F,G,H,J]
   refine At (es:=Y rI ([]:P U)) X (by simp only[St.fresh,zB,zC,Ak]; simp[AV.cells,V1.cells,AC.uses]) ?_;try simp only[A2,C,E,F,G,H,J]
   exact Tu rec_ h_rec a1 a2 a3 x1 v5 r9 a0 v6 r18 h14 h15 h16 h17 h18 _ b0 b8 b10 b13 b14
  ·intro h0 hw;obtain rfl:=hq hw 10 rfl rfl;refine⟨[],[(O,.keep [1,2,3,4,5,11,12,14,31,32,33,49,50,51,52,53,54,55,56,57,58,59,60,61,62,63,64,4] [5] [90000,3200,3456,3840])],X,X,?_⟩;try simp only[A9,A6,A7,zA,I,A2,C,E,F,G,H,J]
   refine At (es:=Y rI ([v5]:P U)) X (by simp only[St.fresh,zB,zC,Ak]; simp[AV.cells,V1.cells,AC.uses]) ?_;try simp only[A2,C,E,F,G,H,J]
   exact Tv rec_ h_rec a1 a2 a3 x1 v5 r9 a0 v6 r18 h14 h15 h16 h17 h18 _ b0 b8 b13 b14
theorem af(rec_:X1→(P U)→(P U)→U→(P (P U))→Q (P (P U)))(h_rec:∀(a0:X1) (a1 a2:P U) (a3:U) (a4:P (P U)) zr,rec_ a0 a1 a2 a3 a4=N zr→FCt Z 163 [.d (.ag (X1.row a0)),.d (.sc (.sl (Y rI a1))),.d (.sc (.sl (Y rI a2))),.d (.sc (.int .i64 a3)),.r] 1 (Y (rL rI) a4) (Y (rL rI) zr))(a1 a2:P U)(a3)(x1:U)(v5)(r9)(a0)(v6)(r18)(h14:(A3 ([]:P U).length a1.length 8)=T)(h15:(A3 a1.length ([r9]:P U).length 8)=T)(h16:(A3 ([]:P U).length a2.length 8)=T)(h17:(A3 a2.length ([v5]:P U).length 8)=T)(h18:rec_ a0 (a1++([r9]:P U)) (a2++([v5]:P U)) a3 v6=N r18):∀(f:W) (b0 b4:V) (b8 b10:V) (b13 b14:V),Ae Z B9 (B1 a1 a2 a3 x1 v5 r9 a0 r18) f [b0,T,T,T,b4,L,L,T,b8,L,b10,L,L,b13,b14,L,L] (A9 a1 a2 a3 x1 v5 r9 a0 (vc (.own 90000)) (vc (.undef)) (vc (.own 3200)) (vc (.own 3200)) (vc (.own 3584)) (vc (.own 3584)) (vc (.own 3584)) (vc (.own 90000)) (vc (.own 90000)) b0 T T T b4 L L T b8 L b10 L L b13 b14 L [(5,[aL (Y X7.row a0.Points),aL (Y X2.row a0.Segments)])] [(90000,1,Y (rL rI) v6),(3200,1,Y rI a1),(3584,1,Y rI ([]:P U))]):=by
 intro f
 induction f with
 | zero=>intro b0 b4 b8 b10 b13 b14 h; simp at h
 | succ f ih=>
  intro b0 b4 b8 b10 b13 b14;refine Aj ⟨?_,?_,?_,?_,?_,?_,?_,?_,?_,?_,?_,?_,?_,?_,?_,?_,?_,⟨⟩⟩<;>try first | (intro h; cases h; done) | (intro _ hw; simp at hw; done) | (intro h0 hw; obtain rfl:=hz h0 rfl; refine np ?_; simp only[A9,A6,A7,A2,C,E,F,G,H,J]; exact ih _ _ _ _ _ _)
  ·intro h0 hw;obtain rfl:=hq hw 4 rfl rfl;refine⟨[],[(O,.keep [1,2,3,4,5,11,12,14,31,32,33,49,50,51,52,53,54,55,56,57,58,59,60,61,62,63,64,4] [5] [90000,3200,3456,3584])],X,X,?_⟩;try simp only[A9,A6,A7,zA,I,A2,C,E,F,G,H,J]
   refine At (es:=Y rI ([r9]:P U)) X (by simp only[St.fresh,zB,zC,Ak]; simp[AV.cells,V1.cells,AC.uses]) ?_;try simp only[A2,C,E,F,G,H,J]
   exact Tu rec_ h_rec a1 a2 a3 x1 v5 r9 a0 v6 r18 h14 h15 h16 h17 h18 _ b0 b8 b10 b13 b14
  ·intro h0 hw;obtain rfl:=hq hw 10 rfl rfl;refine⟨[],[(O,.keep [1,2,3,4,5,11,12,14,31,32,33,49,50,51,52,53,54,55,56,57,58,59,60,61,62,63,64,4] [5] [90000,3200,3584,3840])],X,X,?_⟩;try simp only[A9,A6,A7,zA,I,A2,C,E,F,G,H,J]
   refine At (es:=Y rI ([v5]:P U)) X (by simp only[St.fresh,zB,zC,Ak]; simp[AV.cells,V1.cells,AC.uses]) ?_;try simp only[A2,C,E,F,G,H,J]
   exact Tw rec_ h_rec a1 a2 a3 x1 v5 r9 a0 v6 r18 h14 h15 h16 h17 h18 _ b0 b4 b8 b13 b14
theorem ah(rec_:X1→(P U)→(P U)→U→(P (P U))→Q (P (P U)))(h_rec:∀(a0:X1) (a1 a2:P U) (a3:U) (a4:P (P U)) zr,rec_ a0 a1 a2 a3 a4=N zr→FCt Z 163 [.d (.ag (X1.row a0)),.d (.sc (.sl (Y rI a1))),.d (.sc (.sl (Y rI a2))),.d (.sc (.int .i64 a3)),.r] 1 (Y (rL rI) a4) (Y (rL rI) zr))(a1 a2:P U)(a3)(x1:U)(v5)(r9)(a0)(v6)(r18)(h14:(A3 ([]:P U).length a1.length 8)=T)(h15:(A3 a1.length ([r9]:P U).length 8)=T)(h16:(A3 ([]:P U).length a2.length 8)=T)(h17:(A3 a2.length ([v5]:P U).length 8)=T)(h18:rec_ a0 (a1++([r9]:P U)) (a2++([v5]:P U)) a3 v6=N r18):∀(f:W) (b0 b4:V) (b8 b13 b14:V),Ae Z B9 (B1 a1 a2 a3 x1 v5 r9 a0 r18) f [b0,T,T,T,b4,L,L,L,b8,L,T,T,L,b13,b14,L,L] (A9 a1 a2 a3 x1 v5 r9 a0 (vc (.own 90000)) (vc (.undef)) (vc (.own 3200)) (vc (.own 3200)) (vc (.own 3584)) (vc (.own 3584)) (vc (.own 3584)) (vc (.own 90000)) (vc (.own 90000)) b0 T T T b4 L L L b8 L T T L b13 b14 L [(5,[aL (Y X7.row a0.Points),aL (Y X2.row a0.Segments)])] [(90000,1,Y (rL rI) v6),(3200,1,Y rI a1),(3840,1,Y rI ([v5]:P U))]):=by
 intro f
 induction f with
 | zero=>intro b0 b4 b8 b13 b14 h; simp at h
 | succ f ih=>
  intro b0 b4 b8 b13 b14;refine Aj ⟨?_,?_,?_,?_,?_,?_,?_,?_,?_,?_,?_,?_,?_,?_,?_,?_,?_,⟨⟩⟩<;>try first | (intro h; cases h; done) | (intro _ hw; simp at hw; done) | (intro h0 hw; obtain rfl:=hz h0 rfl; refine np ?_; simp only[A9,A6,A7,A2,C,E,F,G,H,J]; exact ih _ _ _ _ _)
  ·intro h0 hw;obtain rfl:=hq hw 4 rfl rfl;refine⟨[],[(O,.keep [1,2,3,4,5,11,12,14,31,32,33,49,50,51,52,53,54,55,56,57,58,59,60,61,62,63,64,4] [5] [90000,3200,3456,3840])],X,X,?_⟩;try simp only[A9,A6,A7,zA,I,A2,C,E,F,G,H,J]
   refine At (es:=Y rI ([r9]:P U)) X (by simp only[St.fresh,zB,zC,Ak]; simp[AV.cells,V1.cells,AC.uses]) ?_;try simp only[A2,C,E,F,G,H,J]
   exact Tv rec_ h_rec a1 a2 a3 x1 v5 r9 a0 v6 r18 h14 h15 h16 h17 h18 _ b0 b8 b13 b14
  ·intro h0 hw;refine⟨[],[(O,.keep [1,2,3,4,5,11,12,14,31,32,33,49,50,51,52,53,54,55,56,57,58,59,60,61,62,63,64,4] [5] [90000,3200,3584,3840])],X,X,?_⟩;try simp only[A9,A6,A7,zA,I,A2,C,E,F,G,H,J]
   refine At (es:=Y rI ([]:P U)) X (by simp only[St.fresh,zB,zC,Ak]; simp[AV.cells,V1.cells,AC.uses]) ?_;try simp only[A2,C,E,F,G,H,J]
   exact Tw rec_ h_rec a1 a2 a3 x1 v5 r9 a0 v6 r18 h14 h15 h16 h17 h18 _ b0 b4 b8 b13 b14
theorem Tx(rec_:X1→(P U)→(P U)→U→(P (P U))→Q (P (P U)))(h_rec:∀(a0:X1) (a1 a2:P U) (a3:U) (a4:P (P U)) zr,rec_ a0 a1 a2 a3 a4=N zr→FCt Z 163 [.d (.ag (X1.row a0)),.d (.sc (.sl (Y rI a1))),.d (.sc (.sl (Y rI a2))),.d (.sc (.int .i64 a3)),.r] 1 (Y (rL rI) a4) (Y (rL rI) zr))(a1 a2:P U)(a3)(x1:U)(v5)(r9)(a0)(v6)(r18)(h14:(A3 ([]:P U).length a1.length 8)=T)(h15:(A3 a1.length ([r9]:P U).length 8)=T)(h16:(A3 ([]:P U).length a2.length 8)=T)(h17:(A3 a2.length ([v5]:P U).length 8)=T)(h18:rec_ a0 (a1++([r9]:P U)) (a2++([v5]:P U)) a3 v6=N r18):∀(f:W) (b0 b2:V) (b8 b10:V) (b13 b14:V),Ae Z B9 (B1 a1 a2 a3 x1 v5 r9 a0 r18) f [b0,T,b2,L,T,T,L,T,b8,L,b10,L,L,b13,b14,L,L] (A9 a1 a2 a3 x1 v5 r9 a0 (vc (.own 90000)) (vc (.own 3200)) (vc (.own 3200)) (vc (.own 3200)) (vc (.own 3584)) (vc (.own 3584)) (vc (.own 3584)) (vc (.own 90000)) (vc (.own 90000)) b0 T b2 L T T L T b8 L b10 L L b13 b14 L [(5,[aL (Y X7.row a0.Points),aL (Y X2.row a0.Segments)])] [(90000,1,Y (rL rI) v6),(3200,1,Y rI ([]:P U)),(3456,1,Y rI ([r9]:P U)),(3584,1,Y rI ([]:P U))]):=by
 intro f
 induction f with
 | zero=>intro b0 b2 b8 b10 b13 b14 h; simp at h
 | succ f ih=>
  intro b0 b2 b8 b10 b13 b14;refine Aj ⟨?_,?_,?_,?_,?_,?_,?_,?_,?_,?_,?_,?_,?_,?_,?_,?_,?_,⟨⟩⟩<;>try first | (intro h; cases h; done) | (intro _ hw; simp at hw; done) | (intro h0 hw; obtain rfl:=hz h0 rfl; refine np ?_; simp only[A9,A6,A7,A2,C,E,F,G,H,J]; exact ih _ _ _ _ _ _)
  ·intro h0 hw;obtain rfl:=hq hw 2 rfl rfl;refine⟨[],[(O,.keep [1,2,3,4,5,11,12,14,31,32,33,49,50,51,52,53,54,55,56,57,58,59,60,61,62,63,64,4] [5] [90000,3200,3456,3584])],X,X,?_⟩;try simp only[h14,A9,A6,A7,zA,I,A2,C,E,F,G,H,J]
   exact Tu rec_ h_rec a1 a2 a3 x1 v5 r9 a0 v6 r18 h14 h15 h16 h17 h18 _ b0 b8 b10 b13 b14
  ·intro h0 hw;obtain rfl:=hq hw 10 rfl rfl;refine⟨[],[(O,.keep [1,2,3,4,5,11,12,14,31,32,33,49,50,51,52,53,54,55,56,57,58,59,60,61,62,63,64,4] [5] [90000,3200,3456,3584,3840])],X,X,?_⟩;try simp only[A9,A6,A7,zA,I,A2,C,E,F,G,H,J]
   refine At (es:=Y rI ([v5]:P U)) X (by simp only[St.fresh,zB,zC,Ak]; simp[AV.cells,V1.cells,AC.uses]) ?_;try simp only[A2,C,E,F,G,H,J]
   exact QV rec_ h_rec a1 a2 a3 x1 v5 r9 a0 v6 r18 h14 h15 h16 h17 h18 _ b0 b2 b8 b13 b14
theorem Ty(rec_:X1→(P U)→(P U)→U→(P (P U))→Q (P (P U)))(h_rec:∀(a0:X1) (a1 a2:P U) (a3:U) (a4:P (P U)) zr,rec_ a0 a1 a2 a3 a4=N zr→FCt Z 163 [.d (.ag (X1.row a0)),.d (.sc (.sl (Y rI a1))),.d (.sc (.sl (Y rI a2))),.d (.sc (.int .i64 a3)),.r] 1 (Y (rL rI) a4) (Y (rL rI) zr))(a1 a2:P U)(a3)(x1:U)(v5)(r9)(a0)(v6)(r18)(h14:(A3 ([]:P U).length a1.length 8)=T)(h15:(A3 a1.length ([r9]:P U).length 8)=T)(h16:(A3 ([]:P U).length a2.length 8)=T)(h17:(A3 a2.length ([v5]:P U).length 8)=T)(h18:rec_ a0 (a1++([r9]:P U)) (a2++([v5]:P U)) a3 v6=N r18):∀(f:W) (b0 b2:V) (b8 b13 b14:V),Ae Z B9 (B1 a1 a2 a3 x1 v5 r9 a0 r18) f [b0,T,b2,L,T,T,L,L,b8,L,T,T,L,b13,b14,L,L] (A9 a1 a2 a3 x1 v5 r9 a0 (vc (.own 90000)) (vc (.own 3200)) (vc (.own 3200)) (vc (.own 3200)) (vc (.own 3584)) (vc (.own 3584)) (vc (.own 3584)) (vc (.own 90000)) (vc (.own 90000)) b0 T b2 L T T L L b8 L T T L b13 b14 L [(5,[aL (Y X7.row a0.Points),aL (Y X2.row a0.Segments)])] [(90000,1,Y (rL rI) v6),(3200,1,Y rI ([]:P U)),(3456,1,Y rI ([r9]:P U)),(3840,1,Y rI ([v5]:P U))]):=by
 intro f
 induction f with
 | zero=>intro b0 b2 b8 b13 b14 h; simp at h
 | succ f ih=>
  intro b0 b2 b8 b13 b14;refine Aj ⟨?_,?_,?_,?_,?_,?_,?_,?_,?_,?_,?_,?_,?_,?_,?_,?_,?_,⟨⟩⟩<;>try first | (intro h; cases h; done) | (intro _ hw; simp at hw; done) | (intro h0 hw; obtain rfl:=hz h0 rfl; refine np ?_; simp only[A9,A6,A7,A2,C,E,F,G,H,J]; exact ih _ _ _ _ _)
  ·intro h0 hw;obtain rfl:=hq hw 2 rfl rfl;refine⟨[],[(O,.keep [1,2,3,4,5,11,12,14,31,32,33,49,50,51,52,53,54,55,56,57,58,59,60,61,62,63,64,4] [5] [90000,3200,3456,3840])],X,X,?_⟩;try simp only[h14,A9,A6,A7,zA,I,A2,C,E,F,G,H,J]
   exact Tv rec_ h_rec a1 a2 a3 x1 v5 r9 a0 v6 r18 h14 h15 h16 h17 h18 _ b0 b8 b13 b14
  ·intro h0 hw;refine⟨[],[(O,.keep [1,2,3,4,5,11,12,14,31,32,33,49,50,51,52,53,54,55,56,57,58,59,60,61,62,63,64,4] [5] [90000,3200,3456,3584,3840])],X,X,?_⟩;try simp only[A9,A6,A7,zA,I,A2,C,E,F,G,H,J]
   refine At (es:=Y rI ([]:P U)) X (by simp only[St.fresh,zB,zC,Ak]; simp[AV.cells,V1.cells,AC.uses]) ?_;try simp only[A2,C,E,F,G,H,J]
   exact QV rec_ h_rec a1 a2 a3 x1 v5 r9 a0 v6 r18 h14 h15 h16 h17 h18 _ b0 b2 b8 b13 b14
theorem Tz(rec_:X1→(P U)→(P U)→U→(P (P U))→Q (P (P U)))(h_rec:∀(a0:X1) (a1 a2:P U) (a3:U) (a4:P (P U)) zr,rec_ a0 a1 a2 a3 a4=N zr→FCt Z 163 [.d (.ag (X1.row a0)),.d (.sc (.sl (Y rI a1))),.d (.sc (.sl (Y rI a2))),.d (.sc (.int .i64 a3)),.r] 1 (Y (rL rI) a4) (Y (rL rI) zr))(a1 a2:P U)(a3)(x1:U)(v5)(r9)(a0)(v6)(r18)(h14:(A3 ([]:P U).length a1.length 8)=T)(h15:(A3 a1.length ([r9]:P U).length 8)=T)(h16:(A3 ([]:P U).length a2.length 8)=T)(h17:(A3 a2.length ([v5]:P U).length 8)=T)(h18:rec_ a0 (a1++([r9]:P U)) (a2++([v5]:P U)) a3 v6=N r18):∀(f:W) (b0 b2:V) (b4 b8:V) (b13 b14:V),Ae Z B9 (B1 a1 a2 a3 x1 v5 r9 a0 r18) f [b0,T,b2,L,b4,L,L,T,b8,L,T,T,L,b13,b14,L,L] (A9 a1 a2 a3 x1 v5 r9 a0 (vc (.own 90000)) (vc (.own 3200)) (vc (.own 3200)) (vc (.own 3200)) (vc (.own 3584)) (vc (.own 3584)) (vc (.own 3584)) (vc (.own 90000)) (vc (.own 90000)) b0 T b2 L b4 L L T b8 L T T L b13 b14 L [(5,[aL (Y X7.row a0.Points),aL (Y X2.row a0.Segments)])] [(90000,1,Y (rL rI) v6),(3200,1,Y rI ([]:P U)),(3584,1,Y rI ([]:P U)),(3840,1,Y rI ([v5]:P U))]):=by
 intro f
 induction f with
 | zero=>intro b0 b2 b4 b8 b13 b14 h; simp at h
 | succ f ih=>
  intro b0 b2 b4 b8 b13 b14;refine Aj ⟨?_,?_,?_,?_,?_,?_,?_,?_,?_,?_,?_,?_,?_,?_,?_,?_,?_,⟨⟩⟩<;>try first | (intro h; cases h; done) | (intro _ hw; simp at hw; done) | (intro h0 hw; obtain rfl:=hz h0 rfl; refine np ?_; simp only[A9,A6,A7,A2,C,E,F,G,H,J]; exact ih _ _ _ _ _ _)
  ·intro h0 hw;obtain rfl:=hq hw 2 rfl rfl;refine⟨[],[(O,.keep [1,2,3,4,5,11,12,14,31,32,33,49,50,51,52,53,54,55,56,57,58,59,60,61,62,63,64,4] [5] [90000,3200,3584,3840])],X,X,?_⟩;try simp only[h14,A9,A6,A7,zA,I,A2,C,E,F,G,H,J]
   exact Tw rec_ h_rec a1 a2 a3 x1 v5 r9 a0 v6 r18 h14 h15 h16 h17 h18 _ b0 b4 b8 b13 b14
  ·intro h0 hw;obtain rfl:=hq hw 4 rfl rfl;refine⟨[],[(O,.keep [1,2,3,4,5,11,12,14,31,32,33,49,50,51,52,53,54,55,56,57,58,59,60,61,62,63,64,4] [5] [90000,3200,3456,3584,3840])],X,X,?_⟩;try simp only[A9,A6,A7,zA,I,A2,C,E,F,G,H,J]
   refine At (es:=Y rI ([r9]:P U)) X (by simp only[St.fresh,zB,zC,Ak]; simp[AV.cells,V1.cells,AC.uses]) ?_;try simp only[A2,C,E,F,G,H,J]
   exact QV rec_ h_rec a1 a2 a3 x1 v5 r9 a0 v6 r18 h14 h15 h16 h17 h18 _ b0 b2 b8 b13 b14
theorem TA(rec_:X1→(P U)→(P U)→U→(P (P U))→Q (P (P U)))(h_rec:∀(a0:X1) (a1 a2:P U) (a3:U) (a4:P (P U)) zr,rec_ a0 a1 a2 a3 a4=N zr→FCt Z 163 [.d (.ag (X1.row a0)),.d (.sc (.sl (Y rI a1))),.d (.sc (.sl (Y rI a2))),.d (.sc (.int .i64 a3)),.r] 1 (Y (rL rI) a4) (Y (rL rI) zr))(a1 a2:P U)(a3)(x1:U)(v5)(r9)(a0)(v6)(r18)(h14:(A3 ([]:P U).length a1.length 8)=T)(h15:(A3 a1.length ([r9]:P U).length 8)=T)(h16:(A3 ([]:P U).length a2.length 8)=T)(h17:(A3 a2.length ([v5]:P U).length 8)=T)(h18:rec_ a0 (a1++([r9]:P U)) (a2++([v5]:P U)) a3 v6=N r18):∀(f:W) (b0 b2:V) (b8 b13 b14:V),Ae Z B9 (B1 a1 a2 a3 x1 v5 r9 a0 r18) f [b0,L,b2,L,T,T,L,T,b8,L,T,T,L,b13,b14,L,L] (A9 a1 a2 a3 x1 v5 r9 a0 (vc (.own 90000)) (vc (.own 3200)) (vc (.own 3200)) (vc (.own 3200)) (vc (.own 3584)) (vc (.own 3584)) (vc (.own 3584)) (vc (.own 90000)) (vc (.own 90000)) b0 L b2 L T T L T b8 L T T L b13 b14 L [(5,[aL (Y X7.row a0.Points),aL (Y X2.row a0.Segments)])] [(90000,1,Y (rL rI) v6),(3456,1,Y rI ([r9]:P U)),(3584,1,Y rI ([]:P U)),(3840,1,Y rI ([v5]:P U))]):=by
 intro f
 induction f with
 | zero=>intro b0 b2 b8 b13 b14 h; simp at h
 | succ f ih=>
  intro b0 b2 b8 b13 b14;refine Aj ⟨?_,?_,?_,?_,?_,?_,?_,?_,?_,?_,?_,?_,?_,?_,?_,?_,?_,⟨⟩⟩<;>try first | (intro h; cases h; done) | (intro _ hw; simp at hw; done) | (intro h0 hw; obtain rfl:=hz h0 rfl; refine np ?_; simp only[A9,A6,A7,A2,C,E,F,G,H,J]; exact ih _ _ _ _ _)
  ·intro h0 hw;refine⟨[],[(O,.keep [1,2,3,4,5,11,12,14,31,32,33,49,50,51,52,53,54,55,56,57,58,59,60,61,62,63,64,4] [5] [90000,3200,3456,3584,3840])],X,X,?_⟩;try simp only[A9,A6,A7,zA,I,A2,C,E,F,G,H,J]
   refine At (es:=Y rI ([]:P U)) X (by simp only[St.fresh,zB,zC,Ak]; simp[AV.cells,V1.cells,AC.uses]) ?_;try simp only[A2,C,E,F,G,H,J]
   exact QV rec_ h_rec a1 a2 a3 x1 v5 r9 a0 v6 r18 h14 h15 h16 h17 h18 _ b0 b2 b8 b13 b14
theorem A41(rec_:X1→(P U)→(P U)→U→(P (P U))→Q (P (P U)))(h_rec:∀(a0:X1) (a1 a2:P U) (a3:U) (a4:P (P U)) zr,rec_ a0 a1 a2 a3 a4=N zr→FCt Z 163 [.d (.ag (X1.row a0)),.d (.sc (.sl (Y rI a1))),.d (.sc (.sl (Y rI a2))),.d (.sc (.int .i64 a3)),.r] 1 (Y (rL rI) a4) (Y (rL rI) zr))(a1 a2:P U)(a3)(x1:U)(v5)(r9)(a0)(v6)(r18)(h14:(A3 ([]:P U).length a1.length 8)=T)(h15:(A3 a1.length ([r9]:P U).length 8)=T)(h16:(A3 ([]:P U).length a2.length 8)=T)(h17:(A3 a2.length ([v5]:P U).length 8)=T)(h18:rec_ a0 (a1++([r9]:P U)) (a2++([v5]:P U)) a3 v6=N r18):∀(f:W) (b0 b4:V) (b8 b10:V) (b13 b14:V),Ae Z B9 (B1 a1 a2 a3 x1 v5 r9 a0 r18) f [b0,T,T,T,b4,L,L,L,b8,L,b10,L,L,b13,b14,L,L] (A9 a1 a2 a3 x1 v5 r9 a0 (vc (.own 90000)) (vc (.undef)) (vc (.own 3200)) (vc (.own 3200)) (vc (.own 3584)) (vc (.own 3584)) (vc (.own 3584)) (vc (.own 90000)) (vc (.own 90000)) b0 T T T b4 L L L b8 L b10 L L b13 b14 L [(5,[aL (Y X7.row a0.Points),aL (Y X2.row a0.Segments)])] [(90000,1,Y (rL rI) v6),(3200,1,Y rI a1)]):=by
 intro f
 induction f with
 | zero=>intro b0 b4 b8 b10 b13 b14 h; simp at h
 | succ f ih=>
  intro b0 b4 b8 b10 b13 b14;refine Aj ⟨?_,?_,?_,?_,?_,?_,?_,?_,?_,?_,?_,?_,?_,?_,?_,?_,?_,⟨⟩⟩<;>try first | (intro h; cases h; done) | (intro _ hw; simp at hw; done) | (intro h0 hw; obtain rfl:=hz h0 rfl; refine np ?_; simp only[A9,A6,A7,A2,C,E,F,G,H,J]; exact ih _ _ _ _ _ _)
  ·intro h0 hw;obtain rfl:=hq hw 4 rfl rfl;refine⟨[],[(O,.keep [1,2,3,4,5,11,12,14,31,32,33,49,50,51,52,53,54,55,56,57,58,59,60,61,62,63,64,4] [5] [90000,3200,3456])],X,X,?_⟩;try simp only[A9,A6,A7,zA,I,A2,C,E,F,G,H,J]
   refine At (es:=Y rI ([r9]:P U)) X (by simp only[St.fresh,zB,zC,Ak]; simp[AV.cells,V1.cells,AC.uses]) ?_;try simp only[A2,C,E,F,G,H,J]
   exact ae rec_ h_rec a1 a2 a3 x1 v5 r9 a0 v6 r18 h14 h15 h16 h17 h18 _ b0 b8 b10 b13 b14
  ·intro h0 hw;refine⟨[],[(O,.keep [1,2,3,4,5,11,12,14,31,32,33,49,50,51,52,53,54,55,56,57,58,59,60,61,62,63,64,4] [5] [90000,3200,3584])],X,X,?_⟩;try simp only[A9,A6,A7,zA,I,A2,C,E,F,G,H,J]
   refine At (es:=Y rI ([]:P U)) X (by simp only[St.fresh,zB,zC,Ak]; simp[AV.cells,V1.cells,AC.uses]) ?_;try simp only[A2,C,E,F,G,H,J]
   exact af rec_ h_rec a1 a2 a3 x1 v5 r9 a0 v6 r18 h14 h15 h16 h17 h18 _ b0 b4 b8 b10 b13 b14
  ·intro h0 hw;obtain rfl:=hq hw 10 rfl rfl;refine⟨[],[(O,.keep [1,2,3,4,5,11,12,14,31,32,33,49,50,51,52,53,54,55,56,57,58,59,60,61,62,63,64,4] [5] [90000,3200,3840])],X,X,?_⟩;try simp only[A9,A6,A7,zA,I,A2,C,E,F,G,H,J]
   refine At (es:=Y rI ([v5]:P U)) X (by simp only[St.fresh,zB,zC,Ak]; simp[AV.cells,V1.cells,AC.uses]) ?_;try simp only[A2,C,E,F,G,H,J]
   exact ah rec_ h_rec a1 a2 a3 x1 v5 r9 a0 v6 r18 h14 h15 h16 h17 h18 _ b0 b4 b8 b13 b14
theorem aj(rec_:X1→(P U)→(P U)→U→(P (P U))→Q (P (P U)))(h_rec:∀(a0:X1) (a1 a2:P U) (a3:U) (a4:P (P U)) zr,rec_ a0 a1 a2 a3 a4=N zr→FCt Z 163 [.d (.ag (X1.row a0)),.d (.sc (.sl (Y rI a1))),.d (.sc (.sl (Y rI a2))),.d (.sc (.int .i64 a3)),.r] 1 (Y (rL rI) a4) (Y (rL rI) zr))(a1 a2:P U)(a3)(x1:U)(v5)(r9)(a0)(v6)(r18)(h14:(A3 ([]:P U).length a1.length 8)=T)(h15:(A3 a1.length ([r9]:P U).length 8)=T)(h16:(A3 ([]:P U).length a2.length 8)=T)(h17:(A3 a2.length ([v5]:P U).length 8)=T)(h18:rec_ a0 (a1++([r9]:P U)) (a2++([v5]:P U)) a3 v6=N r18):∀(f:W) (b0 b2:V) (b8 b10:V) (b13 b14:V),Ae Z B9 (B1 a1 a2 a3 x1 v5 r9 a0 r18) f [b0,T,b2,L,T,T,L,L,b8,L,b10,L,L,b13,b14,L,L] (A9 a1 a2 a3 x1 v5 r9 a0 (vc (.own 90000)) (vc (.own 3200)) (vc (.own 3200)) (vc (.own 3200)) (vc (.own 3584)) (vc (.own 3584)) (vc (.own 3584)) (vc (.own 90000)) (vc (.own 90000)) b0 T b2 L T T L L b8 L b10 L L b13 b14 L [(5,[aL (Y X7.row a0.Points),aL (Y X2.row a0.Segments)])] [(90000,1,Y (rL rI) v6),(3200,1,Y rI ([]:P U)),(3456,1,Y rI ([r9]:P U))]):=by
 intro f
 induction f with
 | zero=>intro b0 b2 b8 b10 b13 b14 h; simp at h
 | succ f ih=>
  intro b0 b2 b8 b10 b13 b14;refine Aj ⟨?_,?_,?_,?_,?_,?_,?_,?_,?_,?_,?_,?_,?_,?_,?_,?_,?_,⟨⟩⟩<;>try first | (intro h; cases h; done) | (intro _ hw; simp at hw; done) | (intro h0 hw; obtain rfl:=hz h0 rfl; refine np ?_; simp only[A9,A6,A7,A2,C,E,F,G,H,J]; exact ih _ _ _ _ _ _)
  ·intro h0 hw;obtain rfl:=hq hw 2 rfl rfl;refine⟨[],[(O,.keep [1,2,3,4,5,11,12,14,31,32,33,49,50,51,52,53,54,55,56,57,58,59,60,61,62,63,64,4] [5] [90000,3200,3456])],X,X,?_⟩;try simp only[h14,A9,A6,A7,zA,I,A2,C,E,F,G,H,J]
   exact ae rec_ h_rec a1 a2 a3 x1 v5 r9 a0 v6 r18 h14 h15 h16 h17 h18 _ b0 b8 b10 b13 b14
  ·intro h0 hw;refine⟨[],[(O,.keep [1,2,3,4,5,11,12,14,31,32,33,49,50,51,52,53,54,55,56,57,58,59,60,61,62,63,64,4] [5] [90000,3200,3456,3584])],X,X,?_⟩;try simp only[A9,A6,A7,zA,I,A2,C,E,F,G,H,J]
   refine At (es:=Y rI ([]:P U)) X (by simp only[St.fresh,zB,zC,Ak]; simp[AV.cells,V1.cells,AC.uses]) ?_;try simp only[A2,C,E,F,G,H,J]
   exact Tx rec_ h_rec a1 a2 a3 x1 v5 r9 a0 v6 r18 h14 h15 h16 h17 h18 _ b0 b2 b8 b10 b13 b14
  ·intro h0 hw;obtain rfl:=hq hw 10 rfl rfl;refine⟨[],[(O,.keep [1,2,3,4,5,11,12,14,31,32,33,49,50,51,52,53,54,55,56,57,58,59,60,61,62,63,64,4] [5] [90000,3200,3456,3840])],X,X,?_⟩;try simp only[A9,A6,A7,zA,I,A2,C,E,F,G,H,J]
   refine At (es:=Y rI ([v5]:P U)) X (by simp only[St.fresh,zB,zC,Ak]; simp[AV.cells,V1.cells,AC.uses]) ?_;try simp only[A2,C,E,F,G,H,J]
   exact Ty rec_ h_rec a1 a2 a3 x1 v5 r9 a0 v6 r18 h14 h15 h16 h17 h18 _ b0 b2 b8 b13 b14
theorem ak(rec_:X1→(P U)→(P U)→U→(P (P U))→Q (P (P U)))(h_rec:∀(a0:X1) (a1 a2:P U) (a3:U) (a4:P (P U)) zr,rec_ a0 a1 a2 a3 a4=N zr→FCt Z 163 [.d (.ag (X1.row a0)),.d (.sc (.sl (Y rI a1))),.d (.sc (.sl (Y rI a2))),.d (.sc (.int .i64 a3)),.r] 1 (Y (rL rI) a4) (Y (rL rI) zr))(a1 a2:P U)(a3)(x1:U)(v5)(r9)(a0)(v6)(r18)(h14:(A3 ([]:P U).length a1.length 8)=T)(h15:(A3 a1.length ([r9]:P U).length 8)=T)(h16:(A3 ([]:P U).length a2.length 8)=T)(h17:(A3 a2.length ([v5]:P U).length 8)=T)(h18:rec_ a0 (a1++([r9]:P U)) (a2++([v5]:P U)) a3 v6=N r18):∀(f:W) (b0 b2:V) (b4 b8:V) (b10 b13 b14:V),Ae Z B9 (B1 a1 a2 a3 x1 v5 r9 a0 r18) f [b0,T,b2,L,b4,L,L,T,b8,L,b10,L,L,b13,b14,L,L] (A9 a1 a2 a3 x1 v5 r9 a0 (vc (.own 90000)) (vc (.own 3200)) (vc (.own 3200)) (vc (.own 3200)) (vc (.own 3584)) (vc (.own 3584)) (vc (.own 3584)) (vc (.own 90000)) (vc (.own 90000)) b0 T b2 L b4 L L T b8 L b10 L L b13 b14 L [(5,[aL (Y X7.row a0.Points),aL (Y X2.row a0.Segments)])] [(90000,1,Y (rL rI) v6),(3200,1,Y rI ([]:P U)),(3584,1,Y rI ([]:P U))]):=by
 intro f
 induction f with
 | zero=>intro b0 b2 b4 b8 b10 b13 b14 h; simp at h
 | succ f ih=>
  intro b0 b2 b4 b8 b10 b13 b14;refine Aj ⟨?_,?_,?_,?_,?_,?_,?_,?_,?_,?_,?_,?_,?_,?_,?_,?_,?_,⟨⟩⟩<;>try first | (intro h; cases h; done) | (intro _ hw; simp at hw; done) | (intro h0 hw; obtain rfl:=hz h0 rfl; refine np ?_; simp only[A9,A6,A7,A2,C,E,F,G,H,J]; exact ih _ _ _ _ _ _ _)
  ·intro h0 hw;obtain rfl:=hq hw 2 rfl rfl;refine⟨[],[(O,.keep [1,2,3,4,5,11,12,14,31,32,33,49,50,51,52,53,54,55,56,57,58,59,60,61,62,63,64,4] [5] [90000,3200,3584])],X,X,?_⟩;try simp only[h14,A9,A6,A7,zA,I,A2,C,E,F,G,H,J]
   exact af rec_ h_rec a1 a2 a3 x1 v5 r9 a0 v6 r18 h14 h15 h16 h17 h18 _ b0 b4 b8 b10 b13 b14
  ·intro h0 hw;obtain rfl:=hq hw 4 rfl rfl;refine⟨[],[(O,.keep [1,2,3,4,5,11,12,14,31,32,33,49,50,51,52,53,54,55,56,57,58,59,60,61,62,63,64,4] [5] [90000,3200,3456,3584])],X,X,?_⟩;try simp only[A9,A6,A7,zA,I,A2,C,E,F,G,H,J]
   refine At (es:=Y rI ([r9]:P U)) X (by simp only[St.fresh,zB,zC,Ak]; simp[AV.cells,V1.cells,AC.uses]) ?_;try simp only[A2,C,E,F,G,H,J]
   exact Tx rec_ h_rec a1 a2 a3 x1 v5 r9 a0 v6 r18 h14 h15 h16 h17 h18 _ b0 b2 b8 b10 b13 b14
  ·intro h0 hw;obtain rfl:=hq hw 10 rfl rfl;refine⟨[],[(O,.keep [1,2,3,4,5,11,12,14,31,32,33,49,50,51,52,53,54,55,56,57,58,59,60,61,62,63,64,4] [5] [90000,3200,3584,3840])],X,X,?_⟩;try simp only[A9,A6,A7,zA,I,A2,C,E,F,G,H,J]
   refine At (es:=Y rI ([v5]:P U)) X (by simp only[St.fresh,zB,zC,Ak]; simp[AV.cells,V1.cells,AC.uses]) ?_;try simp only[A2,C,E,F,G,H,J]
   exact Tz rec_ h_rec a1 a2 a3 x1 v5 r9 a0 v6 r18 h14 h15 h16 h17 h18 _ b0 b2 b4 b8 b13 b14
theorem al(rec_:X1→(P U)→(P U)→U→(P (P U))→Q (P (P U)))(h_rec:∀(a0:X1) (a1 a2:P U) (a3:U) (a4:P (P U)) zr,rec_ a0 a1 a2 a3 a4=N zr→FCt Z 163 [.d (.ag (X1.row a0)),.d (.sc (.sl (Y rI a1))),.d (.sc (.sl (Y rI a2))),.d (.sc (.int .i64 a3)),.r] 1 (Y (rL rI) a4) (Y (rL rI) zr))(a1 a2:P U)(a3)(x1:U)(v5)(r9)(a0)(v6)(r18)(h14:(A3 ([]:P U).length a1.length 8)=T)(h15:(A3 a1.length ([r9]:P U).length 8)=T)(h16:(A3 ([]:P U).length a2.length 8)=T)(h17:(A3 a2.length ([v5]:P U).length 8)=T)(h18:rec_ a0 (a1++([r9]:P U)) (a2++([v5]:P U)) a3 v6=N r18):∀(f:W) (b0 b2:V) (b4 b8:V) (b13 b14:V),Ae Z B9 (B1 a1 a2 a3 x1 v5 r9 a0 r18) f [b0,T,b2,L,b4,L,L,L,b8,L,T,T,L,b13,b14,L,L] (A9 a1 a2 a3 x1 v5 r9 a0 (vc (.own 90000)) (vc (.own 3200)) (vc (.own 3200)) (vc (.own 3200)) (vc (.own 3584)) (vc (.own 3584)) (vc (.own 3584)) (vc (.own 90000)) (vc (.own 90000)) b0 T b2 L b4 L L L b8 L T T L b13 b14 L [(5,[aL (Y X7.row a0.Points),aL (Y X2.row a0.Segments)])] [(90000,1,Y (rL rI) v6),(3200,1,Y rI ([]:P U)),(3840,1,Y rI ([v5]:P U))]):=by
 intro f
 induction f with
 | zero=>intro b0 b2 b4 b8 b13 b14 h; simp at h
 | succ f ih=>
  intro b0 b2 b4 b8 b13 b14;refine Aj ⟨?_,?_,?_,?_,?_,?_,?_,?_,?_,?_,?_,?_,?_,?_,?_,?_,?_,⟨⟩⟩<;>try first | (intro h; cases h; done) | (intro _ hw; simp at hw; done) | (intro h0 hw; obtain rfl:=hz h0 rfl; refine np ?_; simp only[A9,A6,A7,A2,C,E,F,G,H,J]; exact ih _ _ _ _ _ _)
  ·intro h0 hw;obtain rfl:=hq hw 2 rfl rfl;refine⟨[],[(O,.keep [1,2,3,4,5,11,12,14,31,32,33,49,50,51,52,53,54,55,56,57,58,59,60,61,62,63,64,4] [5] [90000,3200,3840])],X,X,?_⟩;try simp only[h14,A9,A6,A7,zA,I,A2,C,E,F,G,H,J]
   exact ah rec_ h_rec a1 a2 a3 x1 v5 r9 a0 v6 r18 h14 h15 h16 h17 h18 _ b0 b4 b8 b13 b14
  ·intro h0 hw;obtain rfl:=hq hw 4 rfl rfl;refine⟨[],[(O,.keep [1,2,3,4,5,11,12,14,31,32,33,49,50,51,52,53,54,55,56,57,58,59,60,61,62,63,64,4] [5] [90000,3200,3456,3840])],X,X,?_⟩;try simp only[A9,A6,A7,zA,I,A2,C,E,F,G,H,J]
   refine At (es:=Y rI ([r9]:P U)) X (by simp only[St.fresh,zB,zC,Ak]; simp[AV.cells,V1.cells,AC.uses]) ?_;try simp only[A2,C,E,F,G,H,J]
   exact Ty rec_ h_rec a1 a2 a3 x1 v5 r9 a0 v6 r18 h14 h15 h16 h17 h18 _ b0 b2 b8 b13 b14
  ·intro h0 hw;refine⟨[],[(O,.keep [1,2,3,4,5,11,12,14,31,32,33,49,50,51,52,53,54,55,56,57,58,59,60,61,62,63,64,4] [5] [90000,3200,3584,3840])],X,X,?_⟩;try simp only[A9,A6,A7,zA,I,A2,C,E,F,G,H,J]
   refine At (es:=Y rI ([]:P U)) X (by simp only[St.fresh,zB,zC,Ak]; simp[AV.cells,V1.cells,AC.uses]) ?_;try simp only[A2,C,E,F,G,H,J]
   exact Tz rec_ h_rec a1 a2 a3 x1 v5 r9 a0 v6 r18 h14 h15 h16 h17 h18 _ b0 b2 b4 b8 b13 b14
theorem am(rec_:X1→(P U)→(P U)→U→(P (P U))→Q (P (P U)))(h_rec:∀(a0:X1) (a1 a2:P U) (a3:U) (a4:P (P U)) zr,rec_ a0 a1 a2 a3 a4=N zr→FCt Z 163 [.d (.ag (X1.row a0)),.d (.sc (.sl (Y rI a1))),.d (.sc (.sl (Y rI a2))),.d (.sc (.int .i64 a3)),.r] 1 (Y (rL rI) a4) (Y (rL rI) zr))(a1 a2:P U)(a3)(x1:U)(v5)(r9)(a0)(v6)(r18)(h14:(A3 ([]:P U).length a1.length 8)=T)(h15:(A3 a1.length ([r9]:P U).length 8)=T)(h16:(A3 ([]:P U).length a2.length 8)=T)(h17:(A3 a2.length ([v5]:P U).length 8)=T)(h18:rec_ a0 (a1++([r9]:P U)) (a2++([v5]:P U)) a3 v6=N r18):∀(f:W) (b0 b2:V) (b8 b10:V) (b13 b14:V),Ae Z B9 (B1 a1 a2 a3 x1 v5 r9 a0 r18) f [b0,L,b2,L,T,T,L,T,b8,L,b10,L,L,b13,b14,L,L] (A9 a1 a2 a3 x1 v5 r9 a0 (vc (.own 90000)) (vc (.own 3200)) (vc (.own 3200)) (vc (.own 3200)) (vc (.own 3584)) (vc (.own 3584)) (vc (.own 3584)) (vc (.own 90000)) (vc (.own 90000)) b0 L b2 L T T L T b8 L b10 L L b13 b14 L [(5,[aL (Y X7.row a0.Points),aL (Y X2.row a0.Segments)])] [(90000,1,Y (rL rI) v6),(3456,1,Y rI ([r9]:P U)),(3584,1,Y rI ([]:P U))]):=by
 intro f
 induction f with
 | zero=>intro b0 b2 b8 b10 b13 b14 h; simp at h
 | succ f ih=>
  intro b0 b2 b8 b10 b13 b14;refine Aj ⟨?_,?_,?_,?_,?_,?_,?_,?_,?_,?_,?_,?_,?_,?_,?_,?_,?_,⟨⟩⟩<;>try first | (intro h; cases h; done) | (intro _ hw; simp at hw; done) | (intro h0 hw; obtain rfl:=hz h0 rfl; refine np ?_; simp only[A9,A6,A7,A2,C,E,F,G,H,J]; exact ih _ _ _ _ _ _)
  ·intro h0 hw;refine⟨[],[(O,.keep [1,2,3,4,5,11,12,14,31,32,33,49,50,51,52,53,54,55,56,57,58,59,60,61,62,63,64,4] [5] [90000,3200,3456,3584])],X,X,?_⟩;try simp only[A9,A6,A7,zA,I,A2,C,E,F,G,H,J]
   refine At (es:=Y rI ([]:P U)) X (by simp only[St.fresh,zB,zC,Ak]; simp[AV.cells,V1.cells,AC.uses]) ?_;try simp only[A2,C,E,F,G,H,J]
   exact Tx rec_ h_rec a1 a2 a3 x1 v5 r9 a0 v6 r18 h14 h15 h16 h17 h18 _ b0 b2 b8 b10 b13 b14
  ·intro h0 hw;obtain rfl:=hq hw 10 rfl rfl;refine⟨[],[(O,.keep [1,2,3,4,5,11,12,14,31,32,33,49,50,51,52,53,54,55,56,57,58,59,60,61,62,63,64,4] [5] [90000,3456,3584,3840])],X,X,?_⟩;try simp only[A9,A6,A7,zA,I,A2,C,E,F,G,H,J]
   refine At (es:=Y rI ([v5]:P U)) X (by simp only[St.fresh,zB,zC,Ak]; simp[AV.cells,V1.cells,AC.uses]) ?_;try simp only[A2,C,E,F,G,H,J]
   exact TA rec_ h_rec a1 a2 a3 x1 v5 r9 a0 v6 r18 h14 h15 h16 h17 h18 _ b0 b2 b8 b13 b14
theorem aq(rec_:X1→(P U)→(P U)→U→(P (P U))→Q (P (P U)))(h_rec:∀(a0:X1) (a1 a2:P U) (a3:U) (a4:P (P U)) zr,rec_ a0 a1 a2 a3 a4=N zr→FCt Z 163 [.d (.ag (X1.row a0)),.d (.sc (.sl (Y rI a1))),.d (.sc (.sl (Y rI a2))),.d (.sc (.int .i64 a3)),.r] 1 (Y (rL rI) a4) (Y (rL rI) zr))(a1 a2:P U)(a3)(x1:U)(v5)(r9)(a0)(v6)(r18)(h14:(A3 ([]:P U).length a1.length 8)=T)(h15:(A3 a1.length ([r9]:P U).length 8)=T)(h16:(A3 ([]:P U).length a2.length 8)=T)(h17:(A3 a2.length ([v5]:P U).length 8)=T)(h18:rec_ a0 (a1++([r9]:P U)) (a2++([v5]:P U)) a3 v6=N r18):∀(f:W) (b0 b2:V) (b8 b13 b14:V),Ae Z B9 (B1 a1 a2 a3 x1 v5 r9 a0 r18) f [b0,L,b2,L,T,T,L,L,b8,L,T,T,L,b13,b14,L,L] (A9 a1 a2 a3 x1 v5 r9 a0 (vc (.own 90000)) (vc (.own 3200)) (vc (.own 3200)) (vc (.own 3200)) (vc (.own 3584)) (vc (.own 3584)) (vc (.own 3584)) (vc (.own 90000)) (vc (.own 90000)) b0 L b2 L T T L L b8 L T T L b13 b14 L [(5,[aL (Y X7.row a0.Points),aL (Y X2.row a0.Segments)])] [(90000,1,Y (rL rI) v6),(3456,1,Y rI ([r9]:P U)),(3840,1,Y rI ([v5]:P U))]):=by
 intro f
 induction f with
 | zero=>intro b0 b2 b8 b13 b14 h; simp at h
 | succ f ih=>
  intro b0 b2 b8 b13 b14;refine Aj ⟨?_,?_,?_,?_,?_,?_,?_,?_,?_,?_,?_,?_,?_,?_,?_,?_,?_,⟨⟩⟩<;>try first | (intro h; cases h; done) | (intro _ hw; simp at hw; done) | (intro h0 hw; obtain rfl:=hz h0 rfl; refine np ?_; simp only[A9,A6,A7,A2,C,E,F,G,H,J]; exact ih _ _ _ _ _)
  ·intro h0 hw;refine⟨[],[(O,.keep [1,2,3,4,5,11,12,14,31,32,33,49,50,51,52,53,54,55,56,57,58,59,60,61,62,63,64,4] [5] [90000,3200,3456,3840])],X,X,?_⟩;try simp only[A9,A6,A7,zA,I,A2,C,E,F,G,H,J]
   refine At (es:=Y rI ([]:P U)) X (by simp only[St.fresh,zB,zC,Ak]; simp[AV.cells,V1.cells,AC.uses]) ?_;try simp only[A2,C,E,F,G,H,J]
   exact Ty rec_ h_rec a1 a2 a3 x1 v5 r9 a0 v6 r18 h14 h15 h16 h17 h18 _ b0 b2 b8 b13 b14
  ·intro h0 hw;refine⟨[],[(O,.keep [1,2,3,4,5,11,12,14,31,32,33,49,50,51,52,53,54,55,56,57,58,59,60,61,62,63,64,4] [5] [90000,3456,3584,3840])],X,X,?_⟩;try simp only[A9,A6,A7,zA,I,A2,C,E,F,G,H,J]
   refine At (es:=Y rI ([]:P U)) X (by simp only[St.fresh,zB,zC,Ak]; simp[AV.cells,V1.cells,AC.uses]) ?_;try simp only[A2,C,E,F,G,H,J]
   exact TA rec_ h_rec a1 a2 a3 x1 v5 r9 a0 v6 r18 h14 h15 h16 h17 h18 _ b0 b2 b8 b13 b14
theorem ar(rec_:X1→(P U)→(P U)→U→(P (P U))→Q (P (P U)))(h_rec:∀(a0:X1) (a1 a2:P U) (a3:U) (a4:P (P U)) zr,rec_ a0 a1 a2 a3 a4=N zr→FCt Z 163 [.d (.ag (X1.row a0)),.d (.sc (.sl (Y rI a1))),.d (.sc (.sl (Y rI a2))),.d (.sc (.int .i64 a3)),.r] 1 (Y (rL rI) a4) (Y (rL rI) zr))(a1 a2:P U)(a3)(x1:U)(v5)(r9)(a0)(v6)(r18)(h14:(A3 ([]:P U).length a1.length 8)=T)(h15:(A3 a1.length ([r9]:P U).length 8)=T)(h16:(A3 ([]:P U).length a2.length 8)=T)(h17:(A3 a2.length ([v5]:P U).length 8)=T)(h18:rec_ a0 (a1++([r9]:P U)) (a2++([v5]:P U)) a3 v6=N r18):∀(f:W) (b0 b2:V) (b4 b8:V) (b13 b14:V),Ae Z B9 (B1 a1 a2 a3 x1 v5 r9 a0 r18) f [b0,L,b2,L,b4,L,L,T,b8,L,T,T,L,b13,b14,L,L] (A9 a1 a2 a3 x1 v5 r9 a0 (vc (.own 90000)) (vc (.own 3200)) (vc (.own 3200)) (vc (.own 3200)) (vc (.own 3584)) (vc (.own 3584)) (vc (.own 3584)) (vc (.own 90000)) (vc (.own 90000)) b0 L b2 L b4 L L T b8 L T T L b13 b14 L [(5,[aL (Y X7.row a0.Points),aL (Y X2.row a0.Segments)])] [(90000,1,Y (rL rI) v6),(3584,1,Y rI ([]:P U)),(3840,1,Y rI ([v5]:P U))]):=by
 intro f
 induction f with
 | zero=>intro b0 b2 b4 b8 b13 b14 h; simp at h
 | succ f ih=>
  intro b0 b2 b4 b8 b13 b14;refine Aj ⟨?_,?_,?_,?_,?_,?_,?_,?_,?_,?_,?_,?_,?_,?_,?_,?_,?_,⟨⟩⟩<;>try first | (intro h; cases h; done) | (intro _ hw; simp at hw; done) | (intro h0 hw; obtain rfl:=hz h0 rfl; refine np ?_; simp only[A9,A6,A7,A2,C,E,F,G,H,J]; exact ih _ _ _ _ _ _)
  ·intro h0 hw;refine⟨[],[(O,.keep [1,2,3,4,5,11,12,14,31,32,33,49,50,51,52,53,54,55,56,57,58,59,60,61,62,63,64,4] [5] [90000,3200,3584,3840])],X,X,?_⟩;try simp only[A9,A6,A7,zA,I,A2,C,E,F,G,H,J]
   refine At (es:=Y rI ([]:P U)) X (by simp only[St.fresh,zB,zC,Ak]; simp[AV.cells,V1.cells,AC.uses]) ?_;try simp only[A2,C,E,F,G,H,J]
   exact Tz rec_ h_rec a1 a2 a3 x1 v5 r9 a0 v6 r18 h14 h15 h16 h17 h18 _ b0 b2 b4 b8 b13 b14
  ·intro h0 hw;obtain rfl:=hq hw 4 rfl rfl;refine⟨[],[(O,.keep [1,2,3,4,5,11,12,14,31,32,33,49,50,51,52,53,54,55,56,57,58,59,60,61,62,63,64,4] [5] [90000,3456,3584,3840])],X,X,?_⟩;try simp only[A9,A6,A7,zA,I,A2,C,E,F,G,H,J]
   refine At (es:=Y rI ([r9]:P U)) X (by simp only[St.fresh,zB,zC,Ak]; simp[AV.cells,V1.cells,AC.uses]) ?_;try simp only[A2,C,E,F,G,H,J]
   exact TA rec_ h_rec a1 a2 a3 x1 v5 r9 a0 v6 r18 h14 h15 h16 h17 h18 _ b0 b2 b8 b13 b14
theorem A43(rec_:X1→(P U)→(P U)→U→(P (P U))→Q (P (P U)))(h_rec:∀(a0:X1) (a1 a2:P U) (a3:U) (a4:P (P U)) zr,rec_ a0 a1 a2 a3 a4=N zr→FCt Z 163 [.d (.ag (X1.row a0)),.d (.sc (.sl (Y rI a1))),.d (.sc (.sl (Y rI a2))),.d (.sc (.int .i64 a3)),.r] 1 (Y (rL rI) a4) (Y (rL rI) zr))(a1 a2:P U)(a3)(x1:U)(v5)(r9)(a0)(v6)(r18)(h14:(A3 ([]:P U).length a1.length 8)=T)(h15:(A3 a1.length ([r9]:P U).length 8)=T)(h16:(A3 ([]:P U).length a2.length 8)=T)(h17:(A3 a2.length ([v5]:P U).length 8)=T)(h18:rec_ a0 (a1++([r9]:P U)) (a2++([v5]:P U)) a3 v6=N r18):∀(f:W) (b0 b2:V) (b4 b8:V) (b10 b13 b14:V),Ae Z B9 (B1 a1 a2 a3 x1 v5 r9 a0 r18) f [b0,T,b2,L,b4,L,L,L,b8,L,b10,L,L,b13,b14,L,L] (A9 a1 a2 a3 x1 v5 r9 a0 (vc (.own 90000)) (vc (.own 3200)) (vc (.own 3200)) (vc (.own 3200)) (vc (.own 3584)) (vc (.own 3584)) (vc (.own 3584)) (vc (.own 90000)) (vc (.own 90000)) b0 T b2 L b4 L L L b8 L b10 L L b13 b14 L [(5,[aL (Y X7.row a0.Points),aL (Y X2.row a0.Segments)])] [(90000,1,Y (rL rI) v6),(3200,1,Y rI ([]:P U))]):=by
 intro f
 induction f with
 | zero=>intro b0 b2 b4 b8 b10 b13 b14 h; simp at h
 | succ f ih=>
  intro b0 b2 b4 b8 b10 b13 b14;refine Aj ⟨?_,?_,?_,?_,?_,?_,?_,?_,?_,?_,?_,?_,?_,?_,?_,?_,?_,⟨⟩⟩<;>try first | (intro h; cases h; done) | (intro _ hw; simp at hw; done) | (intro h0 hw; obtain rfl:=hz h0 rfl; refine np ?_; simp only[A9,A6,A7,A2,C,E,F,G,H,J]; exact ih _ _ _ _ _ _ _)
  ·intro h0 hw;obtain rfl:=hq hw 2 rfl rfl;refine⟨[],[(O,.keep [1,2,3,4,5,11,12,14,31,32,33,49,50,51,52,53,54,55,56,57,58,59,60,61,62,63,64,4] [5] [90000,3200])],X,X,?_⟩;try simp only[h14,A9,A6,A7,zA,I,A2,C,E,F,G,H,J]
   exact A41 rec_ h_rec a1 a2 a3 x1 v5 r9 a0 v6 r18 h14 h15 h16 h17 h18 _ b0 b4 b8 b10 b13 b14
  ·intro h0 hw;obtain rfl:=hq hw 4 rfl rfl;refine⟨[],[(O,.keep [1,2,3,4,5,11,12,14,31,32,33,49,50,51,52,53,54,55,56,57,58,59,60,61,62,63,64,4] [5] [90000,3200,3456])],X,X,?_⟩;try simp only[A9,A6,A7,zA,I,A2,C,E,F,G,H,J]
   refine At (es:=Y rI ([r9]:P U)) X (by simp only[St.fresh,zB,zC,Ak]; simp[AV.cells,V1.cells,AC.uses]) ?_;try simp only[A2,C,E,F,G,H,J]
   exact aj rec_ h_rec a1 a2 a3 x1 v5 r9 a0 v6 r18 h14 h15 h16 h17 h18 _ b0 b2 b8 b10 b13 b14
  ·intro h0 hw;refine⟨[],[(O,.keep [1,2,3,4,5,11,12,14,31,32,33,49,50,51,52,53,54,55,56,57,58,59,60,61,62,63,64,4] [5] [90000,3200,3584])],X,X,?_⟩;try simp only[A9,A6,A7,zA,I,A2,C,E,F,G,H,J]
   refine At (es:=Y rI ([]:P U)) X (by simp only[St.fresh,zB,zC,Ak]; simp[AV.cells,V1.cells,AC.uses]) ?_;try simp only[A2,C,E,F,G,H,J]
   exact ak rec_ h_rec a1 a2 a3 x1 v5 r9 a0 v6 r18 h14 h15 h16 h17 h18 _ b0 b2 b4 b8 b10 b13 b14
  ·intro h0 hw;obtain rfl:=hq hw 10 rfl rfl;refine⟨[],[(O,.keep [1,2,3,4,5,11,12,14,31,32,33,49,50,51,52,53,54,55,56,57,58,59,60,61,62,63,64,4] [5] [90000,3200,3840])],X,X,?_⟩;try simp only[A9,A6,A7,zA,I,A2,C,E,F,G,H,J]
   refine At (es:=Y rI ([v5]:P U)) X (by simp only[St.fresh,zB,zC,Ak]; simp[AV.cells,V1.cells,AC.uses]) ?_;try simp only[A2,C,E,F,G,H,J]
   exact al rec_ h_rec a1 a2 a3 x1 v5 r9 a0 v6 r18 h14 h15 h16 h17 h18 _ b0 b2 b4 b8 b13 b14
theorem A44(rec_:X1→(P U)→(P U)→U→(P (P U))→Q (P (P U)))(h_rec:∀(a0:X1) (a1 a2:P U) (a3:U) (a4:P (P U)) zr,rec_ a0 a1 a2 a3 a4=N zr→FCt Z 163 [.d (.ag (X1.row a0)),.d (.sc (.sl (Y rI a1))),.d (.sc (.sl (Y rI a2))),.d (.sc (.int .i64 a3)),.r] 1 (Y (rL rI) a4) (Y (rL rI) zr))(a1 a2:P U)(a3)(x1:U)(v5)(r9)(a0)(v6)(r18)(h14:(A3 ([]:P U).length a1.length 8)=T)(h15:(A3 a1.length ([r9]:P U).length 8)=T)(h16:(A3 ([]:P U).length a2.length 8)=T)(h17:(A3 a2.length ([v5]:P U).length 8)=T)(h18:rec_ a0 (a1++([r9]:P U)) (a2++([v5]:P U)) a3 v6=N r18):∀(f:W) (b0 b2:V) (b8 b10:V) (b13 b14:V),Ae Z B9 (B1 a1 a2 a3 x1 v5 r9 a0 r18) f [b0,L,b2,L,T,T,L,L,b8,L,b10,L,L,b13,b14,L,L] (A9 a1 a2 a3 x1 v5 r9 a0 (vc (.own 90000)) (vc (.own 3200)) (vc (.own 3200)) (vc (.own 3200)) (vc (.own 3584)) (vc (.own 3584)) (vc (.own 3584)) (vc (.own 90000)) (vc (.own 90000)) b0 L b2 L T T L L b8 L b10 L L b13 b14 L [(5,[aL (Y X7.row a0.Points),aL (Y X2.row a0.Segments)])] [(90000,1,Y (rL rI) v6),(3456,1,Y rI ([r9]:P U))]):=by
 intro f
 induction f with
 | zero=>intro b0 b2 b8 b10 b13 b14 h; simp at h
 | succ f ih=>
  intro b0 b2 b8 b10 b13 b14;refine Aj ⟨?_,?_,?_,?_,?_,?_,?_,?_,?_,?_,?_,?_,?_,?_,?_,?_,?_,⟨⟩⟩<;>try first | (intro h; cases h; done) | (intro _ hw; simp at hw; done) | (intro h0 hw; obtain rfl:=hz h0 rfl; refine np ?_; simp only[A9,A6,A7,A2,C,E,F,G,H,J]; exact ih _ _ _ _ _ _)
  ·intro h0 hw;refine⟨[],[(O,.keep [1,2,3,4,5,11,12,14,31,32,33,49,50,51,52,53,54,55,56,57,58,59,60,61,62,63,64,4] [5] [90000,3200,3456])],X,X,?_⟩;try simp only[A9,A6,A7,zA,I,A2,C,E,F,G,H,J]
   refine At (es:=Y rI ([]:P U)) X (by simp only[St.fresh,zB,zC,Ak]; simp[AV.cells,V1.cells,AC.uses]) ?_;try simp only[A2,C,E,F,G,H,J]
   exact aj rec_ h_rec a1 a2 a3 x1 v5 r9 a0 v6 r18 h14 h15 h16 h17 h18 _ b0 b2 b8 b10 b13 b14
  ·intro h0 hw;refine⟨[],[(O,.keep [1,2,3,4,5,11,12,14,31,32,33,49,50,51,52,53,54,55,56,57,58,59,60,61,62,63,64,4] [5] [90000,3456,3584])],X,X,?_⟩;try simp only[A9,A6,A7,zA,I,A2,C,E,F,G,H,J]
   refine At (es:=Y rI ([]:P U)) X (by simp only[St.fresh,zB,zC,Ak]; simp[AV.cells,V1.cells,AC.uses]) ?_;try simp only[A2,C,E,F,G,H,J]
   exact am rec_ h_rec a1 a2 a3 x1 v5 r9 a0 v6 r18 h14 h15 h16 h17 h18 _ b0 b2 b8 b10 b13 b14
  ·intro h0 hw;obtain rfl:=hq hw 10 rfl rfl;refine⟨[],[(O,.keep [1,2,3,4,5,11,12,14,31,32,33,49,50,51,52,53,54,55,56,57,58,59,60,61,62,63,64,4] [5] [90000,3456,3840])],X,X,?_⟩;try simp only[A9,A6,A7,zA,I,A2,C,E,F,G,H,J]
   refine At (es:=Y rI ([v5]:P U)) X (by simp only[St.fresh,zB,zC,Ak]; simp[AV.cells,V1.cells,AC.uses]) ?_;try simp only[A2,C,E,F,G,H,J]
   exact aq rec_ h_rec a1 a2 a3 x1 v5 r9 a0 v6 r18 h14 h15 h16 h17 h18 _ b0 b2 b8 b13 b14
theorem A45(rec_:X1→(P U)→(P U)→U→(P (P U))→Q (P (P U)))(h_rec:∀(a0:X1) (a1 a2:P U) (a3:U) (a4:P (P U)) zr,rec_ a0 a1 a2 a3 a4=N zr→FCt Z 163 [.d (.ag (X1.row a0)),.d (.sc (.sl (Y rI a1))),.d (.sc (.sl (Y rI a2))),.d (.sc (.int .i64 a3)),.r] 1 (Y (rL rI) a4) (Y (rL rI) zr))(a1 a2:P U)(a3)(x1:U)(v5)(r9)(a0)(v6)(r18)(h14:(A3 ([]:P U).length a1.length 8)=T)(h15:(A3 a1.length ([r9]:P U).length 8)=T)(h16:(A3 ([]:P U).length a2.length 8)=T)(h17:(A3 a2.length ([v5]:P U).length 8)=T)(h18:rec_ a0 (a1++([r9]:P U)) (a2++([v5]:P U)) a3 v6=N r18):∀(f:W) (b0 b2:V) (b4 b8:V) (b10 b13 b14:V),Ae Z B9 (B1 a1 a2 a3 x1 v5 r9 a0 r18) f [b0,L,b2,L,b4,L,L,T,b8,L,b10,L,L,b13,b14,L,L] (A9 a1 a2 a3 x1 v5 r9 a0 (vc (.own 90000)) (vc (.own 3200)) (vc (.own 3200)) (vc (.own 3200)) (vc (.own 3584)) (vc (.own 3584)) (vc (.own 3584)) (vc (.own 90000)) (vc (.own 90000)) b0 L b2 L b4 L L T b8 L b10 L L b13 b14 L [(5,[aL (Y X7.row a0.Points),aL (Y X2.row a0.Segments)])] [(90000,1,Y (rL rI) v6),(3584,1,Y rI ([]:P U))]):=by
 intro f
 induction f with
 | zero=>intro b0 b2 b4 b8 b10 b13 b14 h; simp at h
 | succ f ih=>
  intro b0 b2 b4 b8 b10 b13 b14;refine Aj ⟨?_,?_,?_,?_,?_,?_,?_,?_,?_,?_,?_,?_,?_,?_,?_,?_,?_,⟨⟩⟩<;>try first | (intro h; cases h; done) | (intro _ hw; simp at hw; done) | (intro h0 hw; obtain rfl:=hz h0 rfl; refine np ?_; simp only[A9,A6,A7,A2,C,E,F,G,H,J]; exact ih _ _ _ _ _ _ _)
  ·intro h0 hw;refine⟨[],[(O,.keep [1,2,3,4,5,11,12,14,31,32,33,49,50,51,52,53,54,55,56,57,58,59,60,61,62,63,64,4] [5] [90000,3200,3584])],X,X,?_⟩;try simp only[A9,A6,A7,zA,I,A2,C,E,F,G,H,J]
   refine At (es:=Y rI ([]:P U)) X (by simp only[St.fresh,zB,zC,Ak]; simp[AV.cells,V1.cells,AC.uses]) ?_;try simp only[A2,C,E,F,G,H,J]
   exact ak rec_ h_rec a1 a2 a3 x1 v5 r9 a0 v6 r18 h14 h15 h16 h17 h18 _ b0 b2 b4 b8 b10 b13 b14
  ·intro h0 hw;obtain rfl:=hq hw 4 rfl rfl;refine⟨[],[(O,.keep [1,2,3,4,5,11,12,14,31,32,33,49,50,51,52,53,54,55,56,57,58,59,60,61,62,63,64,4] [5] [90000,3456,3584])],X,X,?_⟩;try simp only[A9,A6,A7,zA,I,A2,C,E,F,G,H,J]
   refine At (es:=Y rI ([r9]:P U)) X (by simp only[St.fresh,zB,zC,Ak]; simp[AV.cells,V1.cells,AC.uses]) ?_;try simp only[A2,C,E,F,G,H,J]
   exact am rec_ h_rec a1 a2 a3 x1 v5 r9 a0 v6 r18 h14 h15 h16 h17 h18 _ b0 b2 b8 b10 b13 b14
  ·intro h0 hw;obtain rfl:=hq hw 10 rfl rfl;refine⟨[],[(O,.keep [1,2,3,4,5,11,12,14,31,32,33,49,50,51,52,53,54,55,56,57,58,59,60,61,62,63,64,4] [5] [90000,3584,3840])],X,X,?_⟩;try simp only[A9,A6,A7,zA,I,A2,C,E,F,G,H,J]
   refine At (es:=Y rI ([v5]:P U)) X (by simp only[St.fresh,zB,zC,Ak]; simp[AV.cells,V1.cells,AC.uses]) ?_;try simp only[A2,C,E,F,G,H,J]
   exact ar rec_ h_rec a1 a2 a3 x1 v5 r9 a0 v6 r18 h14 h15 h16 h17 h18 _ b0 b2 b4 b8 b13 b14
theorem A46(rec_:X1→(P U)→(P U)→U→(P (P U))→Q (P (P U)))(h_rec:∀(a0:X1) (a1 a2:P U) (a3:U) (a4:P (P U)) zr,rec_ a0 a1 a2 a3 a4=N zr→FCt Z 163 [.d (.ag (X1.row a0)),.d (.sc (.sl (Y rI a1))),.d (.sc (.sl (Y rI a2))),.d (.sc (.int .i64 a3)),.r] 1 (Y (rL rI) a4) (Y (rL rI) zr))(a1 a2:P U)(a3)(x1:U)(v5)(r9)(a0)(v6)(r18)(h14:(A3 ([]:P U).length a1.length 8)=T)(h15:(A3 a1.length ([r9]:P U).length 8)=T)(h16:(A3 ([]:P U).length a2.length 8)=T)(h17:(A3 a2.length ([v5]:P U).length 8)=T)(h18:rec_ a0 (a1++([r9]:P U)) (a2++([v5]:P U)) a3 v6=N r18):∀(f:W) (b0 b2:V) (b4 b8:V) (b13 b14:V),Ae Z B9 (B1 a1 a2 a3 x1 v5 r9 a0 r18) f [b0,L,b2,L,b4,L,L,L,b8,L,T,T,L,b13,b14,L,L] (A9 a1 a2 a3 x1 v5 r9 a0 (vc (.own 90000)) (vc (.own 3200)) (vc (.own 3200)) (vc (.own 3200)) (vc (.own 3584)) (vc (.own 3584)) (vc (.own 3584)) (vc (.own 90000)) (vc (.own 90000)) b0 L b2 L b4 L L L b8 L T T L b13 b14 L [(5,[aL (Y X7.row a0.Points),aL (Y X2.row a0.Segments)])] [(90000,1,Y (rL rI) v6),(3840,1,Y rI ([v5]:P U))]):=by
 intro f
 induction f with
 | zero=>intro b0 b2 b4 b8 b13 b14 h; simp at h
 | succ f ih=>
  intro b0 b2 b4 b8 b13 b14;refine Aj ⟨?_,?_,?_,?_,?_,?_,?_,?_,?_,?_,?_,?_,?_,?_,?_,?_,?_,⟨⟩⟩<;>try first | (intro h; cases h; done) | (intro _ hw; simp at hw; done) | (intro h0 hw; obtain rfl:=hz h0 rfl; refine np ?_; simp only[A9,A6,A7,A2,C,E,F,G,H,J]; exact ih _ _ _ _ _ _)
  ·intro h0 hw;refine⟨[],[(O,.keep [1,2,3,4,5,11,12,14,31,32,33,49,50,51,52,53,54,55,56,57,58,59,60,61,62,63,64,4] [5] [90000,3200,3840])],X,X,?_⟩;try simp only[A9,A6,A7,zA,I,A2,C,E,F,G,H,J]
   refine At (es:=Y rI ([]:P U)) X (by simp only[St.fresh,zB,zC,Ak]; simp[AV.cells,V1.cells,AC.uses]) ?_;try simp only[A2,C,E,F,G,H,J]
   exact al rec_ h_rec a1 a2 a3 x1 v5 r9 a0 v6 r18 h14 h15 h16 h17 h18 _ b0 b2 b4 b8 b13 b14
  ·intro h0 hw;obtain rfl:=hq hw 4 rfl rfl;refine⟨[],[(O,.keep [1,2,3,4,5,11,12,14,31,32,33,49,50,51,52,53,54,55,56,57,58,59,60,61,62,63,64,4] [5] [90000,3456,3840])],X,X,?_⟩;try simp only[A9,A6,A7,zA,I,A2,C,E,F,G,H,J]
   refine At (es:=Y rI ([r9]:P U)) X (by simp only[St.fresh,zB,zC,Ak]; simp[AV.cells,V1.cells,AC.uses]) ?_;try simp only[A2,C,E,F,G,H,J]
   exact aq rec_ h_rec a1 a2 a3 x1 v5 r9 a0 v6 r18 h14 h15 h16 h17 h18 _ b0 b2 b8 b13 b14
  ·intro h0 hw;refine⟨[],[(O,.keep [1,2,3,4,5,11,12,14,31,32,33,49,50,51,52,53,54,55,56,57,58,59,60,61,62,63,64,4] [5] [90000,3584,3840])],X,X,?_⟩;try simp only[A9,A6,A7,zA,I,A2,C,E,F,G,H,J]
   refine At (es:=Y rI ([]:P U)) X (by simp only[St.fresh,zB,zC,Ak]; simp[AV.cells,V1.cells,AC.uses]) ?_;try simp only[A2,C,E,F,G,H,J]
   exact ar rec_ h_rec a1 a2 a3 x1 v5 r9 a0 v6 r18 h14 h15 h16 h17 h18 _ b0 b2 b4 b8 b13 b14
theorem A47(rec_:X1→(P U)→(P U)→U→(P (P U))→Q (P (P U)))(h_rec:∀(a0:X1) (a1 a2:P U) (a3:U) (a4:P (P U)) zr,rec_ a0 a1 a2 a3 a4=N zr→FCt Z 163 [.d (.ag (X1.row a0)),.d (.sc (.sl (Y rI a1))),.d (.sc (.sl (Y rI a2))),.d (.sc (.int .i64 a3)),.r] 1 (Y (rL rI) a4) (Y (rL rI) zr))(a1 a2:P U)(a3)(x1:U)(v5)(r9)(a0)(v6)(r18)(h14:(A3 ([]:P U).length a1.length 8)=T)(h15:(A3 a1.length ([r9]:P U).length 8)=T)(h16:(A3 ([]:P U).length a2.length 8)=T)(h17:(A3 a2.length ([v5]:P U).length 8)=T)(h18:rec_ a0 (a1++([r9]:P U)) (a2++([v5]:P U)) a3 v6=N r18):∀(f:W) (b0 b2:V) (b4 b8:V) (b10 b13 b14:V),Ae Z B9 (B1 a1 a2 a3 x1 v5 r9 a0 r18) f [b0,L,b2,L,b4,L,L,L,b8,L,b10,L,L,b13,b14,L,L] (A9 a1 a2 a3 x1 v5 r9 a0 (vc (.own 90000)) (vc (.own 3200)) (vc (.own 3200)) (vc (.own 3200)) (vc (.own 3584)) (vc (.own 3584)) (vc (.own 3584)) (vc (.own 90000)) (.undef) b0 L b2 L b4 L L L b8 L b10 L L b13 b14 L [(5,[aL (Y X7.row a0.Points),aL (Y X2.row a0.Segments)])] [(90000,1,Y (rL rI) v6)]):=by
 intro f
 induction f with
 | zero=>intro b0 b2 b4 b8 b10 b13 b14 h; simp at h
 | succ f ih=>
  intro b0 b2 b4 b8 b10 b13 b14;refine Aj ⟨?_,?_,?_,?_,?_,?_,?_,?_,?_,?_,?_,?_,?_,?_,?_,?_,?_,⟨⟩⟩<;>try first | (intro _ hw; simp at hw; done) | (intro h0 hw; obtain rfl:=hz h0 rfl; refine np ?_; simp only[A9,A6,A7,A2,C,E,F,G,H,J]; exact ih _ _ _ _ _ _ _)
  ·intro h0 hw;refine⟨[],[(O,.keep [1,2,3,4,5,11,12,14,31,32,33,49,50,51,52,53,54,55,56,57,58,59,60,61,62,63,64,4] [5] [90000,3200])],X,X,?_⟩;try simp only[A9,A6,A7,zA,I,A2,C,E,F,G,H,J]
   refine At (es:=Y rI ([]:P U)) X (by simp only[St.fresh,zB,zC,Ak]; simp[AV.cells,V1.cells,AC.uses]) ?_;try simp only[A2,C,E,F,G,H,J]
   exact A43 rec_ h_rec a1 a2 a3 x1 v5 r9 a0 v6 r18 h14 h15 h16 h17 h18 _ b0 b2 b4 b8 b10 b13 b14
  ·intro h0 hw;obtain rfl:=hq hw 4 rfl rfl;refine⟨[],[(O,.keep [1,2,3,4,5,11,12,14,31,32,33,49,50,51,52,53,54,55,56,57,58,59,60,61,62,63,64,4] [5] [90000,3456])],X,X,?_⟩;try simp only[A9,A6,A7,zA,I,A2,C,E,F,G,H,J]
   refine At (es:=Y rI ([r9]:P U)) X (by simp only[St.fresh,zB,zC,Ak]; simp[AV.cells,V1.cells,AC.uses]) ?_;try simp only[A2,C,E,F,G,H,J]
   exact A44 rec_ h_rec a1 a2 a3 x1 v5 r9 a0 v6 r18 h14 h15 h16 h17 h18 _ b0 b2 b8 b10 b13 b14
  ·intro h0 hw;refine⟨[],[(O,.keep [1,2,3,4,5,11,12,14,31,32,33,49,50,51,52,53,54,55,56,57,58,59,60,61,62,63,64,4] [5] [90000,3584])],X,X,?_⟩;try simp only[A9,A6,A7,zA,I,A2,C,E,F,G,H,J]
   refine At (es:=Y rI ([]:P U)) X (by simp only[St.fresh,zB,zC,Ak]; simp[AV.cells,V1.cells,AC.uses]) ?_;try simp only[A2,C,E,F,G,H,J]
   exact A45 rec_ h_rec a1 a2 a3 x1 v5 r9 a0 v6 r18 h14 h15 h16 h17 h18 _ b0 b2 b4 b8 b10 b13 b14
  ·intro h0 hw;obtain rfl:=hq hw 10 rfl rfl;refine⟨[],[(O,.keep [1,2,3,4,5,11,12,14,31,32,33,49,50,51,52,53,54,55,56,57,58,59,60,61,62,63,64,4] [5] [90000,3840])],X,X,?_⟩;try simp only[A9,A6,A7,zA,I,A2,C,E,F,G,H,J]
   refine At (es:=Y rI ([v5]:P U)) X (by simp only[St.fresh,zB,zC,Ak]; simp[AV.cells,V1.cells,AC.uses]) ?_;try simp only[A2,C,E,F,G,H,J]
   exact A46 rec_ h_rec a1 a2 a3 x1 v5 r9 a0 v6 r18 h14 h15 h16 h17 h18 _ b0 b2 b4 b8 b13 b14
def dv:=fun a1 a2 a3 x1 v5 r9 (a0:X1) v6 (k_:V→Q (P (P U)))=>∀{v12} {zr},k_ v12=N zr→Kh Z 163 Q9 31 [1,2,3,4,5,11,12,14,31,32,33,48] [5] [90000] ⟨[pL 1 rI a1,pL 2 rI a2,pI 3 a3,pW 4 90000,pB 5,pI 11 x1,pI 12 v5,pI 14 r9,pL 31 X2.row a0.Segments,pI 32 (a0.Segments.length:U),pI 33 v5,(48,vc (aB v12))],[(5,[aM X7.row a0.Points,aM X2.row a0.Segments])],[(90000,1,Y (rL rI) v6)]⟩ (OZ [10] 1 (Y (rL rI) zr))
def TZ:=fun a1 a2 a3 x1 (a0:X1) (k_:U→(P (P U))→Q (P (P U)))=>∀{v5 v6} {zr},k_ v5 v6=N zr→Kh Z 163 Q9 16 [1,2,3,4,5,11,31,32,33] [5] [90000] ⟨[pL 1 rI a1,pL 2 rI a2,pI 3 a3,pW 4 90000,pB 5,pI 11 x1,pL 31 X2.row a0.Segments,pI 32 (a0.Segments.length:U),pI 33 v5],[(5,[aM X7.row a0.Points,aM X2.row a0.Segments])],[(90000,1,Y (rL rI) v6)]⟩ (OZ [10] 1 (Y (rL rI) zr))
theorem as_{rec_:X1→(P U)→(P U)→U→(P (P U))→Q (P (P U))}(h_rec:∀(a0:X1) (a1 a2:P U) (a3:U) (a4:P (P U)) zr,rec_ a0 a1 a2 a3 a4=N zr→FCt Z 163 [.d (.ag (X1.row a0)),.d (.sc (.sl (Y rI a1))),.d (.sc (.sl (Y rI a2))),.d (.sc (.int .i64 a3)),.r] 1 (Y (rL rI) a4) (Y (rL rI) zr)){a1 a2 a3 x1 v5 r9 a0 v6}{O6}(WG:TZ a1 a2 a3 x1 a0 O6):dv a1 a2 a3 x1 v5 r9 a0 v6 (II rec_ a1 a2 a3 x1 v5 r9 a0 v6 O6):=by
 intro v12 r h σ hσ S hS
 conv at hS=>rhs; reduce
 try simp only[zH,zF,Ah,UInt8.reduceOfNat] at hS
 subst hS;refine Ay ?_;unfold II at h;obtain⟨h13,h⟩|⟨h13,h⟩:=ic h
 ·try simp only[hσ,h13,C,E,F,G,H,J]
  obtain⟨h14,h⟩:=AW h;obtain⟨h15,h⟩:=AW h;obtain⟨h16,h⟩:=AW h;obtain⟨h17,h⟩:=AW h;obtain⟨r18,h18,h⟩:=ob h;refine EA (ks:= [1,2,3,4,5,11,12,14,31,32,33]) (bs:= [5]) (rs:= [90000]) (τ:=(B1 a1 a2 a3 x1 v5 r9 a0 r18)) X (A47 rec_ h_rec a1 a2 a3 x1 v5 r9 a0 v6 r18 h14 h15 h16 h17 h18 _ L L L L L L L) ?_;simp only[B1,A9,A6];try simp only[h13,h14,h15,h16,h17,C,E,F,G,H,J]
  refine WG h ?_ (by kernel_rfl);try simp only[h13,h14,h15,h16,h17,C,E,F,G,H,J,pL,aM,zD]
 ·try simp only[hσ,h13,C,E,F,G,H,J]
  refine WG h ?_ (by kernel_rfl);try simp only[h13,C,E,F,G,H,J,pL,aM,zD]
theorem A48{rec_:X1→(P U)→(P U)→U→(P (P U))→Q (P (P U))}(h_rec:∀(a0:X1) (a1 a2:P U) (a3:U) (a4:P (P U)) zr,rec_ a0 a1 a2 a3 a4=N zr→FCt Z 163 [.d (.ag (X1.row a0)),.d (.sc (.sl (Y rI a1))),.d (.sc (.sl (Y rI a2))),.d (.sc (.int .i64 a3)),.r] 1 (Y (rL rI) a4) (Y (rL rI) zr)){a1 a2 a3 x1 a0}{n:W}:TZ a1 a2 a3 x1 a0 (GF rec_ a1 a2 a3 x1 a0 n):=by
 induction n with
 | zero=>intro _ _ r h; cases h
 | succ n ih=>
  intro v5 v6 r h σ hσ S hS
  conv at hS=>rhs; reduce
  try simp only[zH,zF,Ah,UInt8.reduceOfNat] at hS
  subst hS;rw[GF] at h;refine AM (Ay ?_);obtain⟨h7,h⟩|⟨h7,h⟩:=ic h
  ·obtain⟨x8,h8,h⟩:=ob h;try simp only[hσ,h7,h8,C,E,F,G,H,J]
   refine By ?_;obtain⟨r9,h9,h⟩:=ob h;try simp only[h7,h8,C,E,F,G,H,J]
   refine AJ (Ac ZX h9) ?_;obtain⟨h10,h⟩|⟨h10,h⟩:=ic h
   ·obtain⟨r11,h11,h⟩:=ob h;try simp only[h7,h8,h10,C,E,F,G,H,J]
    refine AJ (Ac ZW h11) ?_;try simp only[h7,h8,h10,C,E,F,G,H,J]
    refine as_ h_rec ih h ?_ (by kernel_rfl);try simp only[h7,h8,h10,C,E,F,G,H,J,pL,aM,zD]
   ·try simp only[h7,h8,h10,C,E,F,G,H,J]
    refine as_ h_rec ih h ?_ (by kernel_rfl);try simp only[h7,h8,h10,C,E,F,G,H,J,pL,aM,zD]
  ·try simp only[hσ,h7,C,E,F,G,H,J]
   cases h;trivial
theorem kt:B4 Z 163=N ((BY Z 163 Q9).strip,[10],67):=by kernel_rfl
theorem yi(rec_:X1→(P U)→(P U)→U→(P (P U))→Q (P (P U)))(a0:X1)(a1 a2:P U)(a3:U)(a4:P (P U))(r:(P (P U)))(h_rec:∀(a0:X1) (a1 a2:P U) (a3:U) (a4:P (P U)) zr,rec_ a0 a1 a2 a3 a4=N zr→FCt Z 163 [.d (.ag (X1.row a0)),.d (.sc (.sl (Y rI a1))),.d (.sc (.sl (Y rI a2))),.d (.sc (.int .i64 a3)),.r] 1 (Y (rL rI) a4) (Y (rL rI) zr))(h:PN rec_ a0 a1 a2 a3 a4=N r):FCt Z 163 [.d (.ag (X1.row a0)),.d (.sc (.sl (Y rI a1))),.d (.sc (.sl (Y rI a2))),.d (.sc (.int .i64 a3)),.r] 1 (Y (rL rI) a4) (Y (rL rI) r):=by
 unfold PN at h;refine bL (σ:=⟨[(0,va [aL (Y X7.row a0.Points),aL (Y X2.row a0.Segments)]),(1,vc (aL (Y rI a1))),(2,vc (aL (Y rI a2))),(3,vc (aI a3)),(4,vc (.own 90000))],[],[(90000,1,Y (rL rI) a4)]⟩) A4 kt X X ?_;refine C9 Q9 ?_;have s0:= @AD (Y rI ([]:P U));have s1:= @AD (Y (rL rI) ([a2]:P (P U)));have k0:= @A48;exact gc
theorem yj:∀(n:W) (a0:X1) (a1:P U) (a2:P U) (a3:U) (a4:P (P U)) (r:(P (P U))),GG n a0 a1 a2 a3 a4=N r→FCt Z 163 [.d (.ag (X1.row a0)),.d (.sc (.sl (Y rI a1))),.d (.sc (.sl (Y rI a2))),.d (.sc (.int .i64 a3)),.r] 1 (Y (rL rI) a4) (Y (rL rI) r):=by
 intro n
 induction n with
 | zero=>intro _ _ _ _ _ r h; cases h
 | succ n ih=>intro a0 a1 a2 a3 a4 r h; rw[GG] at h; exact yi (GG n) a0 a1 a2 a3 a4 r ih h
theorem yh{a0}{a1}{a2}{a3}{a4}{r}(h:RJ a0 a1 a2 a3 a4=N r):FCt Z 163 [.d (.ag (X1.row a0)),.d (.sc (.sl (Y rI a1))),.d (.sc (.sl (Y rI a2))),.d (.sc (.int .i64 a3)),.r] 1 (Y (rL rI) a4) (Y (rL rI) r):=yj bigN a0 a1 a2 a3 a4 r h
/- 128:spec_RoutesBetween -/
def oZ:Hw:=([],[(11,5,(O,.frz 1920))])
instance A98:Ct 128 (∀{a0} {a1} {a2} {r},Nk a0 a1 a2=N r→FC Z 128 [.ag (X1.row a0),.sc (.int .i64 a1),.sc (.int .i64 a2)] [.sc (.o 1 (Y (rL rI) r))]):=by
 refine⟨fun{a0} {a1} {a2} {r} h=> ?_⟩;unfold Nk at h;refine A5 A4 oZ [6] 34 ?_;intro S hS
 conv at hS=>rhs; reduce
 try simp only[zH,zF,Ah,UInt8.reduceOfNat] at hS
 subst hS;simp only[C,E,F,G,H,J];try simp only[C,E,F,G,H,J]
 refine Bk ?_;obtain⟨r1,h1,h⟩:=ob h;try simp only[C,E,F,G,H,J]
 refine AJ (Ac ya h1) ?_;obtain⟨h2,h⟩|⟨h2,h⟩:=ic h
 ·obtain⟨r3,h3,h⟩:=ob h;try simp only[h2,C,E,F,G,H,J]
  refine AJ (Ac QS h3) ?_;obtain⟨h4,h⟩|⟨h4,h⟩:=ic h
  ·obtain⟨r5,h5,h⟩:=ob h;try simp only[h2,h4,C,E,F,G,H,J]
   refine AJ (Ac QS h5) ?_;obtain⟨h6,h⟩|⟨h6,h⟩:=ic h
   ·try simp only[h2,h4,h6,C,E,F,G,H,J]
    refine B7 (es:=Y rI ([a1]:P U)) ?_;try simp only[h2,h4,h6,C,E,F,G,H,J]
    refine B7 (es:=Y (rL rI) ([]:P (P U))) ?_;try simp only[h2,h4,h6,C,E,F,G,H,J]
    refine Cq ?_;obtain⟨r7,h7,h⟩:=ob h;try simp only[h2,h4,h6,C,E,F,G,H,J]
    refine Vn (yh h7) 2048 X X X X X ?_;rw[Ut];try simp only[h2,h4,h6,C,E,F,G,H,J]
    cases h;exact t0
   ·try simp only[h2,h4,h6,C,E,F,G,H,J]
    cases h;exact t0
  ·try simp only[h2,h4,C,E,F,G,H,J]
   cases h;exact t0
 ·try simp only[h2,C,E,F,G,H,J]
  cases h;exact t0
/- 129:spec_RouteMinutes -/
def Ww:Hw:=([(16,[2,5,11,12,13],[2],[])],[])
def dg:=fun a1 (a0:X1) (k_:U→U→Q U)=>∀{v3 v4} {zr},k_ v3 v4=N zr→Kh Z 129 Ww 16 [2,5,11,12,13] [2] [] ⟨[pB 2,pI 5 v3,pL 11 rI a1,pI 12 (a1.length:U),pI 13 v4],[(2,[aM X7.row a0.Points,aM X2.row a0.Segments])],[]⟩ (A8 [4] [.sc (.v (.int .i64 zr))])
theorem A49{a1 a0}{n:W}:dg a1 a0 (IB a1 a0 n):=by
 induction n with
 | zero=>intro _ _ r h; cases h
 | succ n ih=>
  intro v3 v4 r h σ hσ;rw[IB] at h;exact gc
instance ZV:Ct 129 (∀{a0} {a1} {r},GB a0 a1=N r→FC Z 129 [.ag (X1.row a0),.sc (.sl (Y rI a1))] [.sc (.v (.int .i64 r))]):=by
 refine⟨fun{a0} {a1} {r} h=> ?_⟩;unfold GB at h;refine A5 A4 Ww [4] 34 ?_;have k0:= @A49;exact gc
/- 86:spec_BestRoute -/
def Si:Hw:=([(10,[3,8,9,16,17,18],[3],[1024]),(23,[3,8,9,11,16,17,18,32],[3],[1024])],[(3,1,(O,.frz 768))])
def dF:=fun v2 x6 r1 v4 (a0:X1) (k_:V→V→Q ((P U) × V))=>∀{v11 v12} {zr},k_ v11 v12=N zr→Kh Z 86 Si 23 [3,8,9,11,16,17,18,32] [3] [1024] ⟨[pB 3,pL 8 rI v2,(9,vc (aB v11)),pL 11 rI x6,pW 16 1024,pI 17 (r1.length:U),pI 18 v4,(32,vc (aB v12))],[(3,[aM X7.row a0.Points,aM X2.row a0.Segments])],[(1024,1,Y (rL rI) r1)]⟩ (A8 [6,7] [.sc (.v (.sl (Y rI zr.1))),.sc (.v (.bool zr.2))])
def TQ:=fun r1 (a0:X1) (k_:(P U)→V→U→Q ((P U) × V))=>∀{v2 v3 v4} {zr},k_ v2 v3 v4=N zr→Kh Z 86 Si 10 [3,8,9,16,17,18] [3] [1024] ⟨[pB 3,pL 8 rI v2,(9,vc (aB v3)),pW 16 1024,pI 17 (r1.length:U),pI 18 v4],[(3,[aM X7.row a0.Points,aM X2.row a0.Segments])],[(1024,1,Y (rL rI) r1)]⟩ (A8 [6,7] [.sc (.v (.sl (Y rI zr.1))),.sc (.v (.bool zr.2))])
theorem au{v2 x6 r1 v4 a0}{O1}(oq:TQ r1 a0 O1):dF v2 x6 r1 v4 a0 (Ko v2 x6 r1 v4 a0 O1):=by
 intro v11 v12 r h σ hσ;unfold Ko at h;have k0:= @oq;exact gc
theorem A5a{r1 a0}{n:W}:TQ r1 a0 (Fu r1 a0 n):=by
 induction n with
 | zero=>intro _ _ _ r h; cases h
 | succ n ih=>
  intro v2 v3 v4 r h σ hσ S hS
  conv at hS=>rhs; reduce
  try simp only[zH,zF,Ah,UInt8.reduceOfNat] at hS
  subst hS;rw[Fu] at h;refine AM (Ay ?_);obtain⟨h5,h⟩|⟨h5,h⟩:=ic h
  ·obtain⟨x6,h6,h⟩:=ob h;have h6n:=Av h6;try simp only[hσ,h5,h6,h6n,C,E,F,G,H,J]
   refine An ?_;obtain⟨h7,h⟩|⟨h7,h⟩:=ic h
   ·obtain⟨r9,h9,h⟩:=ob h;try simp only[h5,h6,h6n,h7,C,E,F,G,H,J]
    refine BS (Ac ZV h9) ?_;obtain⟨r10,h10,h⟩:=ob h;try simp only[h5,h6,h6n,h7,C,E,F,G,H,J]
    refine BS (Ac ZV h10) ?_;try simp only[h5,h6,h6n,h7,C,E,F,G,H,J]
    refine au ih h ?_ (by kernel_rfl);try simp only[h5,h6,h6n,h7,C,E,F,G,H,J,pL,aM,zD]
   ·try simp only[h5,h6,h6n,h7,C,E,F,G,H,J]
    refine au ih h ?_ (by kernel_rfl);try simp only[h5,h6,h6n,h7,C,E,F,G,H,J,pL,aM,zD]
  ·obtain⟨h14,h⟩|⟨h14,h⟩:=ic h
   ·try simp only[hσ,h5,h14,C,E,F,G,H,J]
    cases h;trivial
   ·try simp only[hσ,h5,h14,C,E,F,G,H,J]
    cases h;trivial
instance A9i:Ct 86 (∀{a0} {a1} {a2} {r},MZ a0 a1 a2=N r→FC Z 86 [.ag (X1.row a0),.sc (.int .i64 a1),.sc (.int .i64 a2)] [.sc (.v (.sl (Y rI r.1))),.sc (.v (.bool r.2))]):=by
 refine⟨fun{a0} {a1} {a2} {r} h=> ?_⟩;unfold MZ at h;refine A5 A4 Si [6,7] 38 ?_;have s0:= @AD (Y rI ([]:P U));have k0:= @A5a;exact gc
/- 183:spec_l07Ok -/
instance B0p:Ct 183 (∀{a0} {a1} {a2} {r},IJ a0 a1 a2=N r→FC Z 183 [.ag (X1.row a0),.sc (.int .i64 a1),.ag (X4.row a2)] [.sc (.v (.bool r))]):=by
 refine⟨fun{a0} {a1} {a2} {r} h=> ?_⟩;unfold IJ at h;refine A5 A4 h0 [6] 21 ?_;exact gc
/- 223:spec_SquatOf -/
instance B0c:Ct 223 (∀{a0} {r},PM a0=N r→FC Z 223 [.ag (X4.row a0)] [.sc (.v (.int .i64 r))]):=by
 refine⟨fun{a0} {r} h=> ?_⟩;unfold PM at h;refine A5 A4 h0 [2] 14 ?_;exact gc
/- 210:spec_NeedOf -/
instance A9y:Ct 210 (∀{a0} {r},PK a0=N r→FC Z 210 [.ag (X4.row a0)] [.sc (.v (.int .i64 r))]):=by
 refine⟨fun{a0} {r} h=> ?_⟩;unfold PK at h;refine A5 A4 h0 [2] 12 ?_;exact gc
/- 186:spec_LevelFor -/
instance A9w:Ct 186 (∀{a0} {a1} {a2} {r},Nb a0 a1 a2=N r→FC Z 186 [.ag (X1.row a0),.sc (.int .i64 a1),.ag (X4.row a2)] [.sc (.v (.int .i64 r))]):=by
 refine⟨fun{a0} {a1} {a2} {r} h=> ?_⟩;unfold Nb at h;refine A5 A4 h0 [6] 21 ?_;exact gc
/- 207:spec_l03Surge -/
def Wx:Hw:=([(8,[1,4,5,13,14,15],[4,5],[])],[])
def dp:=fun a1 (a0:Xd) (k_:U→U→U→U→Q X9)=>∀{v2 v3 v4 v5} {zr},k_ v2 v3 v4 v5=N zr→Kh Z 207 Wx 8 [1,4,5,13,14,15] [4,5] [] ⟨[pI 1 a1,pB 4,pB 5,pL 13 X9.row a0.Surges,pI 14 (a0.Surges.length:U),pI 15 v2],[(4,[aI (0:U),aI (0:U),aI (0:U)]),(5,[aI v3,aI v4,aI v5])],[]⟩ (A8 [.c 4 T 3] [.ag [.v (.int .i64 zr.From),.v (.int .i64 zr.Low),.v (.int .i64 zr.High)]])
theorem A5b{a1 a0}{n:W}:dp a1 a0 (FA a1 a0 n):=by
 induction n with
 | zero=>intro _ _ _ _ r h; cases h
 | succ n ih=>
  intro v2 v3 v4 v5 r h σ hσ;rw[FA] at h;exact gc
instance B0k:Ct 207 (∀{a0} {a1} {r},IF a0 a1=N r→FC Z 207 [.ag (Xd.row a0),.sc (.int .i64 a1)] [.ag [.v (.int .i64 r.From),.v (.int .i64 r.Low),.v (.int .i64 r.High)]]):=by
 refine⟨fun{a0} {a1} {r} h=> ?_⟩;unfold IF at h;refine A5 A4 Wx [.c 4 T 3] 26 ?_;have k0:= @A5b;exact gc
/- 222:spec_Wave -/
def Wy:Hw:=([(18,[1,5],[],[])],[])
def dk:=fun a1 (k_:U→Q U)=>∀{v6} {zr},k_ v6=N zr→Kh Z 222 Wy 18 [1,5] [] [] ⟨[pI 1 a1,pI 5 v6],[],[]⟩ (A8 [4] [.sc (.v (.int .i64 zr))])
theorem A5c{a1}:dk a1 (Nr a1):=by
 intro v6 r h σ hσ;unfold Nr at h;exact gc
instance B0h:Ct 222 (∀{a0} {a1} {r},Nq a0 a1=N r→FC Z 222 [.sc (.int .i64 a0),.sc (.int .i64 a1)] [.sc (.v (.int .i64 r))]):=by
 refine⟨fun{a0} {a1} {r} h=> ?_⟩;unfold Nq at h;refine A5 A4 Wy [4] 55 ?_;have k0:= @A5c;exact gc
/- 208:spec_l02Level -/
def Wz:Hw:=([(8,[1,5,11,12,13],[],[])],[])
def dn:=fun a1 (a0:Xl) (k_:U→U→Q U)=>∀{v1 v2} {zr},k_ v1 v2=N zr→Kh Z 208 Wz 8 [1,5,11,12,13] [] [] ⟨[pI 1 a1,pI 5 v1,pL 11 zE a0.Parts,pI 12 (a0.Parts.length:U),pI 13 v2],[],[]⟩ (A8 [4] [.sc (.v (.int .i64 zr))])
theorem A5e{a1 a0}{n:W}:dn a1 a0 (IE a1 a0 n):=by
 induction n with
 | zero=>intro _ _ r h; cases h
 | succ n ih=>
  intro v1 v2 r h σ hσ;rw[IE] at h;exact gc
instance B0j:Ct 208 (∀{a0} {a1} {r},KH a0 a1=N r→FC Z 208 [.ag (Xl.row a0),.sc (.int .i64 a1)] [.sc (.v (.int .i64 r))]):=by
 refine⟨fun{a0} {a1} {r} h=> ?_⟩;unfold KH at h;refine A5 A4 Wz [4] 32 ?_;have k0:= @A5e;exact gc
/- 209:spec_l04Of -/
def Sj:Hw:=([(8,[3,7,8,9],[],[384]),(27,[3,4,7,8,9,30],[],[384])],[])
def dr:=fun v1 a0 v2 (k_:V→Q (P X5))=>∀{v8} {zr},k_ v8=N zr→Kh Z 209 Sj 27 [3,4,7,8,9,30] [] [384] ⟨[pW 3 384,pI 4 v1,pL 7 rB a0,pI 8 (a0.length:U),pI 9 v1,(30,vc (aB v8))],[],[(384,2,Y X5.row v2)]⟩ (A8 [2] [.sc (.o 2 (Y X5.row zr))])
def TX:=fun a0 (k_:U→(P X5)→Q (P X5))=>∀{v1 v2} {zr},k_ v1 v2=N zr→Kh Z 209 Sj 8 [3,7,8,9] [] [384] ⟨[pW 3 384,pL 7 rB a0,pI 8 (a0.length:U),pI 9 v1],[],[(384,2,Y X5.row v2)]⟩ (A8 [2] [.sc (.o 2 (Y X5.row zr))])
theorem aw{v1 a0 v2}{O5}(WF:TX a0 O5):dr v1 a0 v2 (IG v1 a0 v2 O5):=by
 intro v8 r h σ hσ S hS
 conv at hS=>rhs; reduce
 try simp only[zH,zF,Ah,UInt8.reduceOfNat] at hS
 subst hS;refine Ay ?_;unfold IG at h;obtain⟨h9,h⟩|⟨h9,h⟩:=ic h
 ·obtain⟨x10,h10,h⟩:=ob h;have h10n:=Av h10;try simp only[hσ,h9,h10,C,E,F,G,H,J]
  refine AS (row:=X5.row) (y:=(⟨x10.From,v1⟩:X5)) X X h10n X X (by rfl) ?_;try simp only[h9,h10,C,E,F,G,H,J]
  refine WF h ?_ (by kernel_rfl);try simp only[h9,h10,C,E,F,G,H,J,pL,aM,zD]
 ·try simp only[hσ,h9,C,E,F,G,H,J]
  refine B7 (es:=Y X5.row ([(⟨v1,v1⟩:X5)]:P X5)) ?_;obtain⟨h11,h⟩:=AW h;try simp only[h9,h11,C,E,F,G,H,J]
  refine WF h ?_ (by kernel_rfl);try simp only[h9,h11,C,E,F,G,H,J,pL,aM,zD]
theorem A5f{a0}{n:W}:TX a0 (Ex a0 n):=by
 induction n with
 | zero=>intro _ _ r h; cases h
 | succ n ih=>
  intro v1 v2 r h σ hσ S hS
  conv at hS=>rhs; reduce
  try simp only[zH,zF,Ah,UInt8.reduceOfNat] at hS
  subst hS;rw[Ex] at h;refine AM (Ay ?_);obtain⟨h3,h⟩|⟨h3,h⟩:=ic h
  ·obtain⟨x4,h4,h⟩:=ob h;obtain⟨h5,h⟩|⟨h5,h⟩:=ic h
   ·obtain⟨h6,h⟩|⟨h6,h⟩:=ic h
    ·obtain⟨x7,h7,h⟩:=ob h;have h7n:=Av h7;try simp only[hσ,h3,h4,h5,h6,h7,h7n,C,E,F,G,H,J]
     refine aw ih h ?_ (by kernel_rfl);try simp only[h3,h4,h5,h6,h7,h7n,C,E,F,G,H,J,pL,aM,zD]
    ·try simp only[hσ,h3,h4,h5,h6,C,E,F,G,H,J]
     refine aw ih h ?_ (by kernel_rfl);try simp only[h3,h4,h5,h6,C,E,F,G,H,J,pL,aM,zD]
   ·try simp only[hσ,h3,h4,h5,C,E,F,G,H,J]
    refine ih h ?_ (by kernel_rfl);try simp only[h3,h4,h5,C,E,F,G,H,J,pL,aM,zD]
  ·try simp only[hσ,h3,C,E,F,G,H,J]
   cases h;exact t0
instance B0m:Ct 209 (∀{a0} {r},Nu a0=N r→FC Z 209 [.sc (.sl (Y rB a0))] [.sc (.o 2 (Y X5.row r))]):=by
 refine⟨fun{a0} {r} h=> ?_⟩;unfold Nu at h;refine A5 A4 Sj [2] 46 ?_;have s0:= @AD (Y X5.row ([]:P X5));have k0:= @A5f;exact gc
/- 185:spec_l04Levels -/
def Sk:Hw:=([(8,[1,2,3,7,8],[3],[704]),(27,[1,2,3,7,8,10],[3],[704])],[])
def dq:=fun a1 v2 (a0:Xd) v3 (k_:V→U→Q (P X5))=>∀{v7 v8} {zr},k_ v7 v8=N zr→Kh Z 185 Sk 27 [1,2,3,7,8,10] [3] [704] ⟨[pI 1 a1,(2,vc (aB v7)),pB 3,pW 7 704,pI 8 v2,pI 10 v8],[(3,[aI a0.Tide.Mean,aM zE a0.Tide.Parts,aM X9.row a0.Surges])],[(704,1,Y rB v3)]⟩ (A8 [6] [.sc (.o 2 (Y X5.row zr))])
def TW:=fun a1 (a0:Xd) (k_:V→U→(P V)→Q (P X5))=>∀{v1 v2 v3} {zr},k_ v1 v2 v3=N zr→Kh Z 185 Sk 8 [1,2,3,7,8] [3] [704] ⟨[pI 1 a1,(2,vc (aB v1)),pB 3,pW 7 704,pI 8 v2],[(3,[aI a0.Tide.Mean,aM zE a0.Tide.Parts,aM X9.row a0.Surges])],[(704,1,Y rB v3)]⟩ (A8 [6] [.sc (.o 2 (Y X5.row zr))])
theorem A5g{a1 v2 a0 v3}{Qn}(ox:TW a1 a0 Qn):dq a1 v2 a0 v3 (Nt a1 v2 a0 v3 Qn):=by
 intro v7 v8 r h σ hσ;unfold Nt at h;have s0:=fun(r9:U)=> @AD (Y rB ([(decide (a1≤(IntKind.i64.wrap (r9+v8))))]:P V))
 have k0:= @ox;exact gc
theorem A5h{a1 a0}{n:W}:TW a1 a0 (GC a1 a0 n):=by
 induction n with
 | zero=>intro _ _ _ r h; cases h
 | succ n ih=>
  intro v1 v2 v3 r h σ hσ;rw[GC] at h;have k0:= @A5g;exact gc
instance B0l:Ct 185 (∀{a0} {a1} {a2} {r},Ns a0 a1 a2=N r→FC Z 185 [.ag (Xd.row a0),.sc (.int .i64 a1),.sc (.bool a2)] [.sc (.o 2 (Y X5.row r))]):=by
 refine⟨fun{a0} {a1} {a2} {r} h=> ?_⟩;unfold Ns at h;refine A5 A4 Sk [6] 37 ?_;have s0:= @AD (Y rB ([]:P V));have k0:= @A5h;exact gc
/- 134:spec_l06Minutes -/
instance Tj:Ct 134 (∀{a0} {a1} {r},FB a0 a1=N r→FC Z 134 [.ag (X2.row a0),.ag (X4.row a1)] [.sc (.v (.int .i64 r))]):=by
 refine⟨fun{a0} {a1} {r} h=> ?_⟩;unfold FB at h;refine A5 A4 h0 [4] 12 ?_;exact gc
end Go.Vi
