/-
Walks. No condition.
-/
import Derived.Test.YtdgododldkbndaaGreatFNf
import Derived.Test.YtdgododldkbndaaGreatChecked
import Derived.Test.YtdgododldkbndaaGreatFVi41
import Derived.KernelRfl
namespace Go.Vi
open Go.Proofs
set_option linter.all false
set_option maxRecDepth 4000
set_option maxHeartbeats 2000000
open Nat renaming reduceBEq → C, reduceMul → E, reduceAdd → F, reduceDiv → G, le_of_ble_eq_true → uf
open Int renaming reduceBEq → H
attribute [local irreducible] go Bc J3
open List renaming map → Y, cons_append → I, nil_append → zA, all_cons → zB, all_nil → zC, map_nil → zD
open Tryz renaming prog → Z
open Xc renaming row → zE
open Int renaming reduceNegSucc → zF, reduceOfNat → zH
open Xa renaming row → zG
open Bool renaming true → T, false → L
open Option renaming some → N, none → O
open _root_ renaming List → P, Option → Q, Int → U, Bool → V, Nat → W, rfl → X
theorem A4:Tryz.prog.follows .mixedOrders=T:=by kernel_rfl
/- 78:laws_szPartS -/
instance A8r:Ct 78 (∀{a0} {a1} {r},MG a0 a1=N r→FC Z 78 [.sc (.sl (Y zE a0)),.sc (.int .i64 a1)] [.sc (.v (.int .i64 r))]):=by
 refine⟨fun{a0} {a1} {r} h=> ?_⟩;unfold MG at h;refine A5 A4 h0 [4] 12 ?_;exact gc
/- 47:laws_szTide -/
instance A8y:Ct 47 (∀{a0} {a1} {r},Pw a0 a1=N r→FC Z 47 [.ag (Xl.row a0),.sc (.int .i64 a1)] [.sc (.v (.int .i64 r))]):=by
 refine⟨fun{a0} {a1} {r} h=> ?_⟩;unfold Pw at h;refine A5 A4 h0 [4] 12 ?_;exact gc
/- 48:laws_szSurgeS -/
instance A8x:Ct 48 (∀{a0} {a1} {r},MM a0 a1=N r→FC Z 48 [.sc (.sl (Y X9.row a0)),.sc (.int .i64 a1)] [.sc (.v (.int .i64 r))]):=by
 refine⟨fun{a0} {a1} {r} h=> ?_⟩;unfold MM at h;refine A5 A4 h0 [4] 12 ?_;exact gc
/- 17:laws_szForecast -/
instance A8p:Ct 17 (∀{a0} {a1} {r},MD a0 a1=N r→FC Z 17 [.ag (Xd.row a0),.sc (.int .i64 a1)] [.sc (.v (.int .i64 r))]):=by
 refine⟨fun{a0} {a1} {r} h=> ?_⟩;unfold MD at h;refine A5 A4 h0 [4] 18 ?_;exact gc
/- 79:laws_szPoint -/
instance A8s:Ct 79 (∀{a0} {a1} {r},MH a0 a1=N r→FC Z 79 [.ag (X7.row a0),.sc (.int .i64 a1)] [.sc (.v (.int .i64 r))]):=by
 refine⟨fun{a0} {a1} {r} h=> ?_⟩;unfold MH at h;refine A5 A4 h0 [4] 13 ?_;exact gc
/- 49:laws_szPointS -/
def Vr:Hw:=([(16,[0,1,5],[],[])],[])
def cq:=fun a0 (k_:U→U→Q U)=>∀{v2 v3} {zr},k_ v2 v3=N zr→Kh Z 49 Vr 16 [0,1,5] [] [] ⟨[pL 0 X7.row a0,pI 1 v2,pI 5 v3],[],[]⟩ (A8 [4] [.sc (.v (.int .i64 zr))])
theorem zp{a0}{n:W}:cq a0 (Gr a0 n):=by
 induction n with
 | zero=>intro _ _ r h; cases h
 | succ n ih=>
  intro v2 v3 r h σ hσ;rw[Gr] at h;exact gc
instance A8t:Ct 49 (∀{a0} {a1} {r},MI a0 a1=N r→FC Z 49 [.sc (.sl (Y X7.row a0)),.sc (.int .i64 a1)] [.sc (.v (.int .i64 r))]):=by
 refine⟨fun{a0} {a1} {r} h=> ?_⟩;unfold MI at h;refine A5 A4 Vr [4] 27 ?_;have k0:= @zp;exact gc
/- 50:laws_szSegmentS -/
instance A8u:Ct 50 (∀{a0} {a1} {r},MJ a0 a1=N r→FC Z 50 [.sc (.sl (Y X2.row a0)),.sc (.int .i64 a1)] [.sc (.v (.int .i64 r))]):=by
 refine⟨fun{a0} {a1} {r} h=> ?_⟩;unfold MJ at h;refine A5 A4 h0 [4] 12 ?_;exact gc
/- 18:laws_szChart -/
instance A8n:Ct 18 (∀{a0} {a1} {r},MC a0 a1=N r→FC Z 18 [.ag (X1.row a0),.sc (.int .i64 a1)] [.sc (.v (.int .i64 r))]):=by
 refine⟨fun{a0} {a1} {r} h=> ?_⟩;unfold MC at h;refine A5 A4 h0 [4] 18 ?_;exact gc
/- 51:laws_szShip -/
instance A8v:Ct 51 (∀{a0} {a1} {r},MK a0 a1=N r→FC Z 51 [.ag (X4.row a0),.sc (.int .i64 a1)] [.sc (.v (.int .i64 r))]):=by
 refine⟨fun{a0} {a1} {r} h=> ?_⟩;unfold MK at h;refine A5 A4 h0 [4] 13 ?_;exact gc
/- 19:laws_szShipS -/
def GQ:Hw:=([(16,[0,1,5],[],[])],[])
def cr:=fun a0 (k_:U→U→Q U)=>∀{v2 v3} {zr},k_ v2 v3=N zr→Kh Z 19 GQ 16 [0,1,5] [] [] ⟨[pL 0 X4.row a0,pI 1 v2,pI 5 v3],[],[]⟩ (A8 [4] [.sc (.v (.int .i64 zr))])
theorem ww3{a0}{n:W}:cr a0 (Gs a0 n):=by
 induction n with
 | zero=>intro _ _ r h; cases h
 | succ n ih=>
  intro v2 v3 r h σ hσ;rw[Gs] at h;exact gc
instance A8w:Ct 19 (∀{a0} {a1} {r},ML a0 a1=N r→FC Z 19 [.sc (.sl (Y X4.row a0)),.sc (.int .i64 a1)] [.sc (.v (.int .i64 r))]):=by
 refine⟨fun{a0} {a1} {r} h=> ?_⟩;unfold ML at h;refine A5 A4 GQ [4] 27 ?_;have k0:= @ww3;exact gc
/- 52:laws_szIntS -/
instance A8q:Ct 52 (∀{a0} {a1} {r},MF a0 a1=N r→FC Z 52 [.sc (.sl (Y rI a0)),.sc (.int .i64 a1)] [.sc (.v (.int .i64 r))]):=by
 refine⟨fun{a0} {a1} {r} h=> ?_⟩;unfold MF at h;refine A5 A4 h0 [4] 12 ?_;exact gc
/- 20:laws_szCrew -/
instance A8o:Ct 20 (∀{a0} {a1} {r},Pv a0 a1=N r→FC Z 20 [.ag (Xn.row a0),.sc (.int .i64 a1)] [.sc (.v (.int .i64 r))]):=by
 refine⟨fun{a0} {a1} {r} h=> ?_⟩;unfold Pv at h;refine A5 A4 h0 [4] 12 ?_;exact gc
/- 4:laws_szHarbour -/
instance xv:Ct 4 (∀{a0} {a1} {r},ME a0 a1=N r→FC Z 4 [.ag (X6.row a0),.sc (.int .i64 a1)] [.sc (.v (.int .i64 r))]):=by
 refine⟨fun{a0} {a1} {r} h=> ?_⟩;unfold ME at h;refine A5 A4 h0 [4] 30 ?_;exact gc
/- 5:laws_szCallS -/
instance xu:Ct 5 (∀{a0} {a1} {r},MB a0 a1=N r→FC Z 5 [.sc (.sl (Y zG a0)),.sc (.int .i64 a1)] [.sc (.v (.int .i64 r))]):=by
 refine⟨fun{a0} {a1} {r} h=> ?_⟩;unfold MB at h;refine A5 A4 h0 [4] 12 ?_;exact gc
/- 142:laws_toPart -/
instance A84:Ct 142 (∀{a0} {r},PA a0=N r→FC Z 142 [.ag (zE a0)] [.ag [.v (.int .i64 r.Amp),.v (.int .i64 r.Period),.v (.int .i64 r.Phase)]]):=by
 refine⟨fun{a0} {r} h=> ?_⟩;unfold PA at h;refine A5 A4 h0 [.c 2 T 3] 14 ?_;exact gc
/- 96:laws_toPartS -/
def Wr:Hw:=([(8,[0,3,4],[],[448])],[])
def cv:=fun a0 (k_:U→(P Xc)→Q (P Xc))=>∀{v2 v3} {zr},k_ v2 v3=N zr→Kh Z 96 Wr 8 [0,3,4] [] [448] ⟨[pL 0 zE a0,pW 3 448,pI 4 v2],[],[(448,3,Y zE v3)]⟩ (A8 [2] [.sc (.o 3 (Y zE zr))])
theorem ww5{a0}{n:W}:cv a0 (Ib a0 n):=by
 induction n with
 | zero=>intro _ _ r h; cases h
 | succ n ih=>
  intro v2 v3 r h σ hσ;rw[Ib] at h;have s0:=fun(r6:Xc)=> @H6 _ zE r6
  exact gc
instance A85:Ct 96 (∀{a0} {r},MQ a0=N r→FC Z 96 [.sc (.sl (Y zE a0))] [.sc (.o 3 (Y zE r))]):=by
 refine⟨fun{a0} {r} h=> ?_⟩;unfold MQ at h;refine A5 A4 Wr [2] 23 ?_;have s0:= @EI _ zE (⟨(0:U),(0:U),(0:U)⟩:Xc);have k0:= @ww5;exact gc
/- 58:laws_toTide -/
instance A9f:Ct 58 (∀{a0} {r},PG a0=N r→FC Z 58 [.ag (Xl.row a0)] [.ag [.v (.int .i64 r.Mean),.o 3 (Y zE r.Parts)]]):=by
 refine⟨fun{a0} {r} h=> ?_⟩;unfold PG at h;refine A5 A4 h0 [.c 2 T 2] 12 ?_;exact gc
/- 97:laws_toSurge -/
instance A9d:Ct 97 (∀{a0} {r},PF a0=N r→FC Z 97 [.ag (X9.row a0)] [.ag [.v (.int .i64 r.From),.v (.int .i64 r.Low),.v (.int .i64 r.High)]]):=by
 refine⟨fun{a0} {r} h=> ?_⟩;unfold PF at h;refine A5 A4 h0 [.c 2 T 3] 14 ?_;exact gc
/- 59:laws_toSurgeS -/
def Wt:Hw:=([(8,[0,3,4],[],[448])],[])
def dA:=fun a0 (k_:U→(P X9)→Q (P X9))=>∀{v2 v3} {zr},k_ v2 v3=N zr→Kh Z 59 Wt 8 [0,3,4] [] [448] ⟨[pL 0 X9.row a0,pW 3 448,pI 4 v2],[],[(448,3,Y X9.row v3)]⟩ (A8 [2] [.sc (.o 3 (Y X9.row zr))])
theorem ww7{a0}{n:W}:dA a0 (Ig a0 n):=by
 induction n with
 | zero=>intro _ _ r h; cases h
 | succ n ih=>
  intro v2 v3 r h σ hσ;rw[Ig] at h;have s0:=fun(r6:X9)=> @H6 _ X9.row r6
  exact gc
instance A9e:Ct 59 (∀{a0} {r},MU a0=N r→FC Z 59 [.sc (.sl (Y X9.row a0))] [.sc (.o 3 (Y X9.row r))]):=by
 refine⟨fun{a0} {r} h=> ?_⟩;unfold MU at h;refine A5 A4 Wt [2] 23 ?_;have s0:= @EI _ X9.row (⟨(0:U),(0:U),(0:U)⟩:X9);have k0:= @ww7;exact gc
/- 25:laws_toForecast -/
instance A82:Ct 25 (∀{a0} {r},MO a0=N r→FC Z 25 [.ag (Xd.row a0)] [.ag [.v (.int .i64 r.Tide.Mean),.o 3 (Y zE r.Tide.Parts),.o 3 (Y X9.row r.Surges)]]):=by
 refine⟨fun{a0} {r} h=> ?_⟩;unfold MO at h;refine A5 A4 h0 [.c 2 T 3] 13 ?_;exact gc
/- 98:laws_toPoint -/
instance A86:Ct 98 (∀{a0} {r},PB a0=N r→FC Z 98 [.ag (X7.row a0)] [.ag [.v (.str r.Name),.v (.bool r.Wait)]]):=by
 refine⟨fun{a0} {r} h=> ?_⟩;unfold PB at h;refine A5 A4 h0 [.c 2 T 2] 11 ?_;exact gc
/- 60:laws_toPointS -/
def Wu:Hw:=([(8,[0,3,4],[],[448])],[])
def cw:=fun a0 (k_:U→(P X7)→Q (P X7))=>∀{v2 v3} {zr},k_ v2 v3=N zr→Kh Z 60 Wu 8 [0,3,4] [] [448] ⟨[pL 0 X7.row a0,pW 3 448,pI 4 v2],[],[(448,2,Y X7.row v3)]⟩ (A8 [2] [.sc (.o 2 (Y X7.row zr))])
theorem ww9{a0}{n:W}:cw a0 (Ic a0 n):=by
 induction n with
 | zero=>intro _ _ r h; cases h
 | succ n ih=>
  intro v2 v3 r h σ hσ;rw[Ic] at h;have s0:=fun(r6:X7)=> @H6 _ X7.row r6
  exact gc
instance A87:Ct 60 (∀{a0} {r},MR a0=N r→FC Z 60 [.sc (.sl (Y X7.row a0))] [.sc (.o 2 (Y X7.row r))]):=by
 refine⟨fun{a0} {r} h=> ?_⟩;unfold MR at h;refine A5 A4 Wu [2] 23 ?_;have s0:= @EI _ X7.row (⟨([]:P UInt8),L⟩:X7);have k0:= @ww9;exact gc
/- 99:laws_toSegment -/
instance A89:Ct 99 (∀{a0} {r},PD a0=N r→FC Z 99 [.ag (X2.row a0)] [.ag [.v (.int .i64 r.A),.v (.int .i64 r.B),.v (.int .i64 r.Depth),.v (.int .i64 r.Minutes),.v (.bool r.Meet)]]):=by
 refine⟨fun{a0} {r} h=> ?_⟩;unfold PD at h;refine A5 A4 h0 [.c 2 T 5] 20 ?_;exact gc
/- 61:laws_toSegmentS -/
def Vs:Hw:=([(8,[0,3,4],[],[448])],[])
def cy:=fun a0 (k_:U→(P X2)→Q (P X2))=>∀{v2 v3} {zr},k_ v2 v3=N zr→Kh Z 61 Vs 8 [0,3,4] [] [448] ⟨[pL 0 X2.row a0,pW 3 448,pI 4 v2],[],[(448,5,Y X2.row v3)]⟩ (A8 [2] [.sc (.o 5 (Y X2.row zr))])
theorem zw{a0}{n:W}:cy a0 (Ie a0 n):=by
 induction n with
 | zero=>intro _ _ r h; cases h
 | succ n ih=>
  intro v2 v3 r h σ hσ;rw[Ie] at h;have s0:=fun(r6:X2)=> @H6 _ X2.row r6
  exact gc
instance A9a:Ct 61 (∀{a0} {r},MS a0=N r→FC Z 61 [.sc (.sl (Y X2.row a0))] [.sc (.o 5 (Y X2.row r))]):=by
 refine⟨fun{a0} {r} h=> ?_⟩;unfold MS at h;refine A5 A4 Vs [2] 23 ?_;have s0:= @EI _ X2.row (⟨(0:U),(0:U),(0:U),(0:U),L⟩:X2);have k0:= @zw;exact gc
/- 26:laws_toChart -/
instance A80:Ct 26 (∀{a0} {r},MN a0=N r→FC Z 26 [.ag (X1.row a0)] [.ag [.o 2 (Y X7.row r.Points),.o 5 (Y X2.row r.Segments)]]):=by
 refine⟨fun{a0} {r} h=> ?_⟩;unfold MN at h;refine A5 A4 h0 [.c 2 T 2] 13 ?_;exact gc
/- 62:laws_toShip -/
instance A9b:Ct 62 (∀{a0} {r},PE a0=N r→FC Z 62 [.ag (X4.row a0)] [.ag [.v (.str r.Name),.v (.int .i64 r.Length),.v (.int .i64 r.Draught),.v (.int .i64 r.Line),.v (.int .i64 r.Tugs),.v (.bool r.Slow)]]):=by
 refine⟨fun{a0} {r} h=> ?_⟩;unfold PE at h;refine A5 A4 h0 [.c 2 T 6] 23 ?_;exact gc
/- 27:laws_toShipS -/
def Vz:Hw:=([(8,[0,3,4],[],[448])],[])
def cz:=fun a0 (k_:U→(P X4)→Q (P X4))=>∀{v2 v3} {zr},k_ v2 v3=N zr→Kh Z 27 Vz 8 [0,3,4] [] [448] ⟨[pL 0 X4.row a0,pW 3 448,pI 4 v2],[],[(448,6,Y X4.row v3)]⟩ (A8 [2] [.sc (.o 6 (Y X4.row zr))])
theorem A0i{a0}{n:W}:cz a0 (If a0 n):=by
 induction n with
 | zero=>intro _ _ r h; cases h
 | succ n ih=>
  intro v2 v3 r h σ hσ;rw[If] at h;have s0:=fun(r6:X4)=> @H6 _ X4.row r6
  exact gc
instance A9c:Ct 27 (∀{a0} {r},MT a0=N r→FC Z 27 [.sc (.sl (Y X4.row a0))] [.sc (.o 6 (Y X4.row r))]):=by
 refine⟨fun{a0} {r} h=> ?_⟩;unfold MT at h;refine A5 A4 Vz [2] 23 ?_;have s0:= @EI _ X4.row (⟨([]:P UInt8),(0:U),(0:U),(0:U),(0:U),L⟩:X4);have k0:= @A0i;exact gc
/- 28:laws_toRegime -/
instance A88:Ct 28 (∀{a0} {r},PC a0=N r→FC Z 28 [.ag (Xi.row a0)] [.ag [.v (.int .i64 r.Gap),.v (.bool r.NoMeet)]]):=by
 refine⟨fun{a0} {r} h=> ?_⟩;unfold PC at h;refine A5 A4 h0 [.c 2 T 2] 11 ?_;exact gc
/- 63:laws_toIntS -/
def VF:Hw:=([(8,[0,3,4],[],[448])],[])
def cu:=fun a0 (k_:U→(P U)→Q (P U))=>∀{v2 v3} {zr},k_ v2 v3=N zr→Kh Z 63 VF 8 [0,3,4] [] [448] ⟨[pL 0 rI a0,pW 3 448,pI 4 v2],[],[(448,1,Y rI v3)]⟩ (A8 [2] [.sc (.o 1 (Y rI zr))])
theorem A0v{a0}{n:W}:cu a0 (Ia a0 n):=by
 induction n with
 | zero=>intro _ _ r h; cases h
 | succ n ih=>
  intro v2 v3 r h σ hσ;rw[Ia] at h;have s0:=fun(x5:U)=> @H6 _ rI x5
  exact gc
instance A83:Ct 63 (∀{a0} {r},MP a0=N r→FC Z 63 [.sc (.sl (Y rI a0))] [.sc (.o 1 (Y rI r))]):=by
 refine⟨fun{a0} {r} h=> ?_⟩;unfold MP at h;refine A5 A4 VF [2] 22 ?_;have s0:= @EI _ rI (0:U);have k0:= @A0v;exact gc
/- 29:laws_toCrew -/
instance A81:Ct 29 (∀{a0} {r},Pz a0=N r→FC Z 29 [.ag (Xn.row a0)] [.ag [.v (.int .i64 r.Tugs),.v (.int .i64 r.Pilots),.v (.int .i64 r.Rest),.o 1 (Y rI r.Moves)]]):=by
 refine⟨fun{a0} {r} h=> ?_⟩;unfold Pz at h;refine A5 A4 h0 [.c 2 T 4] 18 ?_;exact gc
/- 7:laws_toHarbour -/
instance QQ:Ct 7 (∀{a0} {r},Gu a0=N r→FC Z 7 [.ag (X6.row a0)] [.ag [.v (.int .i64 r.Forecast.Tide.Mean),.o 3 (Y zE r.Forecast.Tide.Parts),.o 3 (Y X9.row r.Forecast.Surges),.o 2 (Y X7.row r.Chart.Points),.o 5 (Y X2.row r.Chart.Segments),.o 6 (Y X4.row r.Fleet),.v (.int .i64 r.Regime.Gap),.v (.bool r.Regime.NoMeet),.v (.int .i64 r.Crew.Tugs),.v (.int .i64 r.Crew.Pilots),.v (.int .i64 r.Crew.Rest),.o 1 (Y rI r.Crew.Moves)]]):=by
 refine⟨fun{a0} {r} h=> ?_⟩;unfold Gu at h;refine A5 A4 h0 [.c 2 T 12] 25 ?_;exact gc
/- 30:laws_toCall -/
instance A8z:Ct 30 (∀{a0} {r},Py a0=N r→FC Z 30 [.ag (zG a0)] [.ag [.v (.int .i64 r.Ship),.v (.int .i64 r.From),.v (.int .i64 r.To),.v (.int .i64 r.Ready),.v (.int .i64 r.Due)]]):=by
 refine⟨fun{a0} {r} h=> ?_⟩;unfold Py at h;refine A5 A4 h0 [.c 2 T 5] 20 ?_;exact gc
/- 8:laws_toCallS -/
def VI:Hw:=([(8,[0,3,4],[],[448])],[])
def ct:=fun a0 (k_:U→(P Xa)→Q (P Xa))=>∀{v2 v3} {zr},k_ v2 v3=N zr→Kh Z 8 VI 8 [0,3,4] [] [448] ⟨[pL 0 zG a0,pW 3 448,pI 4 v2],[],[(448,5,Y zG v3)]⟩ (A8 [2] [.sc (.o 5 (Y zG zr))])
theorem A08{a0}{n:W}:ct a0 (I9 a0 n):=by
 induction n with
 | zero=>intro _ _ r h; cases h
 | succ n ih=>
  intro v2 v3 r h σ hσ;rw[I9] at h;have s0:=fun(r6:Xa)=> @H6 _ zG r6
  exact gc
instance QP:Ct 8 (∀{a0} {r},Gt a0=N r→FC Z 8 [.sc (.sl (Y zG a0))] [.sc (.o 5 (Y zG r))]):=by
 refine⟨fun{a0} {r} h=> ?_⟩;unfold Gt at h;refine A5 A4 VI [2] 23 ?_;have s0:= @EI _ zG (⟨(0:U),(0:U),(0:U),(0:U),(0:U)⟩:Xa);have k0:= @A08;exact gc
/- 85:spec_l01In -/
instance QR:Ct 85 (∀{a0} {a1} {a2} {r},Aw a0 a1 a2=N r→FC Z 85 [.sc (.int .i64 a0),.sc (.int .i64 a1),.sc (.int .i64 a2)] [.sc (.v (.bool r))]):=by
 refine⟨fun{a0} {a1} {a2} {r} h=> ?_⟩;unfold Aw at h;refine A5 A4 h0 [6] 15 ?_;exact gc
/- 162:spec_PartOk -/
instance A90:Ct 162 (∀{a0} {r},Nc a0=N r→FC Z 162 [.ag (zE a0)] [.sc (.v (.bool r))]):=by
 refine⟨fun{a0} {r} h=> ?_⟩;unfold Nc at h;refine A5 A4 h0 [2] 25 ?_;exact gc
/- 120:spec_TideOk -/
def VN:Hw:=([(14,[16,17,18],[],[])],[])
def di:=fun(a0:Xl) (k_:U→Q V)=>∀{v4} {zr},k_ v4=N zr→Kh Z 120 VN 14 [16,17,18] [] [] ⟨[pL 16 zE a0.Parts,pI 17 (a0.Parts.length:U),pI 18 v4],[],[]⟩ (A8 [2] [.sc (.v (.bool zr))])
theorem A1j{a0}{n:W}:di a0 (IC a0 n):=by
 induction n with
 | zero=>intro _ r h; cases h
 | succ n ih=>
  intro v4 r h σ hσ;rw[IC] at h;exact gc
instance B0e:Ct 120 (∀{a0} {r},Nn a0=N r→FC Z 120 [.ag (Xl.row a0)] [.sc (.v (.bool r))]):=by
 refine⟨fun{a0} {r} h=> ?_⟩;unfold Nn at h;refine A5 A4 VN [2] 26 ?_;have k0:= @A1j;exact gc
/- 121:spec_SurgeOk -/
instance B0d:Ct 121 (∀{a0} {r},Nm a0=N r→FC Z 121 [.ag (X9.row a0)] [.sc (.v (.bool r))]):=by
 refine⟨fun{a0} {r} h=> ?_⟩;unfold Nm at h;refine A5 A4 h0 [2] 18 ?_;exact gc
/- 80:spec_ForecastOk -/
def VT:Hw:=([(14,[1,25,26,27],[1],[])],[])
def dO:=fun(a0:Xd) (k_:U→Q V)=>∀{v7} {zr},k_ v7=N zr→Kh Z 80 VT 14 [1,25,26,27] [1] [] ⟨[pB 1,pL 25 X9.row a0.Surges,pI 26 (a0.Surges.length:U),pI 27 v7],[(1,[aI a0.Tide.Mean,aM zE a0.Tide.Parts,aM X9.row a0.Surges])],[]⟩ (A8 [2] [.sc (.v (.bool zr))])
theorem A1z{a0}{n:W}:dO a0 (Gw a0 n):=by
 induction n with
 | zero=>intro _ r h; cases h
 | succ n ih=>
  intro v7 r h σ hσ;rw[Gw] at h;exact gc
instance A9p:Ct 80 (∀{a0} {r},Kv a0=N r→FC Z 80 [.ag (Xd.row a0)] [.sc (.v (.bool r))]):=by
 refine⟨fun{a0} {r} h=> ?_⟩;unfold Kv at h;refine A5 A4 VT [2] 52 ?_;have k0:= @A1z;exact gc
/- 122:spec_IsName -/
def Q2:Hw:=([(6,[0,3],[],[]),(17,[0,3,4],[],[]),(24,[0,3],[],[])],[])
def dT:=fun a0 v1 (k_:Q V)=>∀{zr},k_=N zr→Kh Z 122 Q2 24 [0,3] [] [] ⟨[(0,vc (aS a0)),pI 3 v1],[],[]⟩ (A8 [2] [.sc (.v (.bool zr))])
def dS:=fun a0 v1 (k_:V→Q V)=>∀{v5} {zr},k_ v5=N zr→Kh Z 122 Q2 17 [0,3,4] [] [] ⟨[(0,vc (aS a0)),pI 3 v1,(4,vc (aB v5))],[],[]⟩ (A8 [2] [.sc (.v (.bool zr))])
def QY:=fun a0 (k_:U→Q V)=>∀{v1} {zr},k_ v1=N zr→Kh Z 122 Q2 6 [0,3] [] [] ⟨[(0,vc (aS a0)),pI 3 v1],[],[]⟩ (A8 [2] [.sc (.v (.bool zr))])
theorem A19{a0 v1}{EF}(WD:QY a0 EF):dT a0 v1 (N8 a0 v1 EF):=by
 intro r h σ hσ;unfold N8 at h;have k0:= @WD;exact gc
theorem A2g{a0 v1}{EF}(WD:QY a0 EF):dS a0 v1 (N7 a0 v1 EF):=by
 intro v5 r h σ hσ;unfold N7 at h;have k0:= @A19;exact gc
theorem A2k{a0}{n:W}:QY a0 (Gy a0 n):=by
 induction n with
 | zero=>intro _ r h; cases h
 | succ n ih=>
  intro v1 r h σ hσ;rw[Gy] at h;have k0:= @A2g;exact gc
instance A9u:Ct 122 (∀{a0} {r},Ky a0=N r→FC Z 122 [.sc (.str a0)] [.sc (.v (.bool r))]):=by
 refine⟨fun{a0} {r} h=> ?_⟩;unfold Ky at h;refine A5 A4 Q2 [2] 42 ?_;have k0:= @A2k;exact gc
/- 123:spec_PointNamed -/
def W7:Hw:=([(6,[1,8,9,10],[],[])],[])
def dc:=fun a1 (a0:X1) (k_:U→Q U)=>∀{v1} {zr},k_ v1=N zr→Kh Z 123 W7 6 [1,8,9,10] [] [] ⟨[(1,vc (aS a1)),pL 8 X7.row a0.Points,pI 9 (a0.Points.length:U),pI 10 v1],[],[]⟩ (A8 [4] [.sc (.v (.int .i64 zr))])
theorem A2y{a1 a0}{n:W}:dc a1 a0 (Iy a1 a0 n):=by
 induction n with
 | zero=>intro _ r h; cases h
 | succ n ih=>
  intro v1 r h σ hσ;rw[Iy] at h;exact gc
instance A93:Ct 123 (∀{a0} {a1} {r},Ni a0 a1=N r→FC Z 123 [.ag (X1.row a0),.sc (.str a1)] [.sc (.v (.int .i64 r))]):=by
 refine⟨fun{a0} {a1} {r} h=> ?_⟩;unfold Ni at h;refine A5 A4 W7 [4] 21 ?_;have k0:= @A2y;exact gc
/- 124:spec_l05Joins -/
instance B0m:Ct 124 (∀{a0} {a1} {a2} {r},Nu a0 a1 a2=N r→FC Z 124 [.ag (X2.row a0),.sc (.int .i64 a1),.sc (.int .i64 a2)] [.sc (.v (.bool r))]):=by
 refine⟨fun{a0} {a1} {a2} {r} h=> ?_⟩;unfold Nu at h;refine A5 A4 h0 [6] 29 ?_;exact gc
/- 81:spec_ChartOk -/
def Q6:Hw:=([(14,[1,20,21,22],[1],[]),(37,[1,41,42,43],[1],[]),(59,[1,6,41,42,43,88,89,90],[1,6],[])],[])
def dI:=fun(a0:X1) v11 (x13:X2) y24 y25 (k_:U→Q V)=>∀{v26} {zr},k_ v26=N zr→Kh Z 81 Q6 59 [1,6,41,42,43,88,89,90] [1,6] [] ⟨[pB 1,pB 6,pL 41 X2.row a0.Segments,pI 42 (a0.Segments.length:U),pI 43 v11,pL 88 X2.row y24,pI 89 y25,pI 90 v26],[(1,[aM X7.row a0.Points,aM X2.row a0.Segments]),(6,(dm x13.row))],[]⟩ (A8 [2] [.sc (.v (.bool zr))])
def TR:=fun(a0:X1) (k_:U→Q V)=>∀{v11} {zr},k_ v11=N zr→Kh Z 81 Q6 37 [1,41,42,43] [1] [] ⟨[pB 1,pL 41 X2.row a0.Segments,pI 42 (a0.Segments.length:U),pI 43 v11],[(1,[aM X7.row a0.Points,aM X2.row a0.Segments])],[]⟩ (A8 [2] [.sc (.v (.bool zr))])
def dH:=fun(a0:X1) (k_:U→Q V)=>∀{v3} {zr},k_ v3=N zr→Kh Z 81 Q6 14 [1,20,21,22] [1] [] ⟨[pB 1,pL 20 X7.row a0.Points,pI 21 (a0.Points.length:U),pI 22 v3],[(1,[aM X7.row a0.Points,aM X2.row a0.Segments])],[]⟩ (A8 [2] [.sc (.v (.bool zr))])
theorem A29{a0 v11 x13 y24 y25}{O2}(ot:TR a0 O2){n:W}:dI a0 v11 x13 y24 y25 (Ij a0 v11 x13 y24 y25 O2 n):=by
 induction n with
 | zero=>intro _ r h; cases h
 | succ n ih=>
  intro v26 r h σ hσ;rw[Ij] at h;have k0:= @ot;exact gc
theorem A3f{a0}{n:W}:TR a0 (Et a0 n):=by
 induction n with
 | zero=>intro _ r h; cases h
 | succ n ih=>
  intro v11 r h σ hσ;rw[Et] at h;have k0:= @A29;exact gc
theorem A3p{a0}{n:W}:dH a0 (Ii a0 n):=by
 induction n with
 | zero=>intro _ r h; cases h
 | succ n ih=>
  intro v3 r h σ hσ;rw[Ii] at h;have k0:= @A3f;exact gc
instance xz:Ct 81 (∀{a0} {r},De a0=N r→FC Z 81 [.ag (X1.row a0)] [.sc (.v (.bool r))]):=by
 refine⟨fun{a0} {r} h=> ?_⟩;unfold De at h;refine A5 A4 Q6 [2] 102 ?_;have k0:= @A3p;exact gc
/- 125:spec_ShipOk -/
instance A99:Ct 125 (∀{a0} {r},E1 a0=N r→FC Z 125 [.ag (X4.row a0)] [.sc (.v (.bool r))]):=by
 refine⟨fun{a0} {r} h=> ?_⟩;unfold E1 at h;refine A5 A4 h0 [2] 26 ?_;exact gc
/- 126:spec_ShipNamed -/
def Wc:Hw:=([(6,[1,7,8,9],[],[])],[])
def dg:=fun a1 a0 (k_:U→Q U)=>∀{v1} {zr},k_ v1=N zr→Kh Z 126 Wc 6 [1,7,8,9] [] [] ⟨[(1,vc (aS a1)),pL 7 X4.row a0,pI 8 (a0.length:U),pI 9 v1],[],[]⟩ (A8 [4] [.sc (.v (.int .i64 zr))])
theorem A33{a1 a0}{n:W}:dg a1 a0 (IB a1 a0 n):=by
 induction n with
 | zero=>intro _ r h; cases h
 | succ n ih=>
  intro v1 r h σ hσ;rw[IB] at h;exact gc
instance A98:Ct 126 (∀{a0} {a1} {r},Nk a0 a1=N r→FC Z 126 [.sc (.sl (Y X4.row a0)),.sc (.str a1)] [.sc (.v (.int .i64 r))]):=by
 refine⟨fun{a0} {a1} {r} h=> ?_⟩;unfold Nk at h;refine A5 A4 Wc [4] 20 ?_;have k0:= @A33;exact gc
/- 82:spec_FleetOk -/
def Wh:Hw:=([(14,[0,8,9,10],[],[])],[])
def dN:=fun a0 (k_:U→Q V)=>∀{v2} {zr},k_ v2=N zr→Kh Z 82 Wh 14 [0,8,9,10] [] [] ⟨[pL 0 X4.row a0,pL 8 X4.row a0,pI 9 (a0.length:U),pI 10 v2],[],[]⟩ (A8 [2] [.sc (.v (.bool zr))])
theorem A4f{a0}{n:W}:dN a0 (Ip a0 n):=by
 induction n with
 | zero=>intro _ r h; cases h
 | succ n ih=>
  intro v2 r h σ hσ;rw[Ip] at h;exact gc
instance A9o:Ct 82 (∀{a0} {r},Ku a0=N r→FC Z 82 [.sc (.sl (Y X4.row a0))] [.sc (.v (.bool r))]):=by
 refine⟨fun{a0} {r} h=> ?_⟩;unfold Ku at h;refine A5 A4 Wh [2] 27 ?_;have k0:= @A4f;exact gc
/- 83:spec_RegimeOk -/
instance A94:Ct 83 (∀{a0} {r},Iz a0=N r→FC Z 83 [.ag (Xi.row a0)] [.sc (.v (.bool r))]):=by
 refine⟨fun{a0} {r} h=> ?_⟩;unfold Iz at h;refine A5 A4 h0 [2] 6 ?_;exact gc
/- 127:spec_l13Table -/
def Wo:Hw:=([(14,[15,16,17],[],[])],[])
def eC:=fun a1 (k_:U→Q V)=>∀{v4} {zr},k_ v4=N zr→Kh Z 127 Wo 14 [15,16,17] [] [] ⟨[pL 15 rI a1,pI 16 (a1.length:U),pI 17 v4],[],[]⟩ (A8 [4] [.sc (.v (.bool zr))])
theorem A4m{a1}{n:W}:eC a1 (GK a1 n):=by
 induction n with
 | zero=>intro _ r h; cases h
 | succ n ih=>
  intro v4 r h σ hσ;rw[GK] at h;exact gc
instance B0v:Ct 127 (∀{a0} {a1} {r},GJ a0 a1=N r→FC Z 127 [.sc (.int .i64 a0),.sc (.sl (Y rI a1))] [.sc (.v (.bool r))]):=by
 refine⟨fun{a0} {a1} {r} h=> ?_⟩;unfold GJ at h;refine A5 A4 Wo [4] 25 ?_;have k0:= @A4m;exact gc
/- 84:spec_CrewOk -/
instance A9m:Ct 84 (∀{a0} {r},Il a0=N r→FC Z 84 [.ag (Xn.row a0)] [.sc (.v (.bool r))]):=by
 refine⟨fun{a0} {r} h=> ?_⟩;unfold Il at h;refine A5 A4 h0 [2] 18 ?_;exact gc
/- 53:spec_HarbourOk -/
instance A9r:Ct 53 (∀{a0} {r},Kx a0=N r→FC Z 53 [.ag (X6.row a0)] [.sc (.v (.bool r))]):=by
 refine⟨fun{a0} {r} h=> ?_⟩;unfold Kx at h;refine A5 A4 h0 [2] 26 ?_;exact gc
/- 54:spec_CallOk -/
instance A9i:Ct 54 (∀{a0} {a1} {r},Ko a0 a1=N r→FC Z 54 [.ag (X6.row a0),.ag (zG a1)] [.sc (.v (.bool r))]):=by
 refine⟨fun{a0} {a1} {r} h=> ?_⟩;unfold Ko at h;refine A5 A4 h0 [4] 53 ?_;exact gc
/- 21:spec_CallsOk -/
def Sg:Hw:=([(14,[1,2,17,18,19],[2],[]),(36,[1,2,6,17,18,19,30,31,32],[2,6],[])],[])
def dF:=fun a1 v4 (a0:X6) (x6:Xa) y10 y11 (k_:U→Q V)=>∀{v12} {zr},k_ v12=N zr→Kh Z 21 Sg 36 [1,2,6,17,18,19,30,31,32] [2,6] [] ⟨[pL 1 zG a1,pB 2,pB 6,pL 17 zG a1,pI 18 (a1.length:U),pI 19 v4,pL 30 zG y10,pI 31 y11,pI 32 v12],[(2,([aI a0.Forecast.Tide.Mean,aM zE a0.Forecast.Tide.Parts,aM X9.row a0.Forecast.Surges,aM X7.row a0.Chart.Points,aM X2.row a0.Chart.Segments,aM X4.row a0.Fleet,aI a0.Regime.Gap,aB a0.Regime.NoMeet]++dm a0.Crew.row)),(6,(dm x6.row))],[]⟩ (A8 [4] [.sc (.v (.bool zr))])
def TQ:=fun a1 (a0:X6) (k_:U→Q V)=>∀{v4} {zr},k_ v4=N zr→Kh Z 21 Sg 14 [1,2,17,18,19] [2] [] ⟨[pL 1 zG a1,pB 2,pL 17 zG a1,pI 18 (a1.length:U),pI 19 v4],[(2,([aI a0.Forecast.Tide.Mean,aM zE a0.Forecast.Tide.Parts,aM X9.row a0.Forecast.Surges,aM X7.row a0.Chart.Points,aM X2.row a0.Chart.Segments,aM X4.row a0.Fleet,aI a0.Regime.Gap,aB a0.Regime.NoMeet]++dm a0.Crew.row))],[]⟩ (A8 [4] [.sc (.v (.bool zr))])
theorem A4r{a1 v4 a0 x6 y10 y11}{O1}(oq:TQ a1 a0 O1){n:W}:dF a1 v4 a0 x6 y10 y11 (Kr a1 v4 a0 x6 y10 y11 O1 n):=by
 induction n with
 | zero=>intro _ r h; cases h
 | succ n ih=>
  intro v12 r h σ hσ;rw[Kr] at h;have k0:= @oq;exact gc
theorem A4s{a1 a0}{n:W}:TQ a1 a0 (Kq a1 a0 n):=by
 induction n with
 | zero=>intro _ r h; cases h
 | succ n ih=>
  intro v4 r h σ hσ;rw[Kq] at h;have k0:= @A4r;exact gc
instance xy:Ct 21 (∀{a0} {a1} {r},MZ a0 a1=N r→FC Z 21 [.ag (X6.row a0),.sc (.sl (Y zG a1))] [.sc (.v (.bool r))]):=by
 refine⟨fun{a0} {a1} {r} h=> ?_⟩;unfold MZ at h;refine A5 A4 Sg [4] 43 ?_;have k0:= @A4s;exact gc
/- 165:spec_l05Other -/
instance ZW:Ct 165 (∀{a0} {a1} {r},Nv a0 a1=N r→FC Z 165 [.ag (X2.row a0),.sc (.int .i64 a1)] [.sc (.v (.int .i64 r))]):=by
 refine⟨fun{a0} {a1} {r} h=> ?_⟩;unfold Nv at h;refine A5 A4 h0 [4] 18 ?_;exact gc
/- 166:spec_l05Has -/
def Ws:Hw:=([(6,[1,7,8,9],[],[])],[])
def dr:=fun a1 a0 (k_:U→Q V)=>∀{v1} {zr},k_ v1=N zr→Kh Z 166 Ws 6 [1,7,8,9] [] [] ⟨[pI 1 a1,pL 7 rI a0,pI 8 (a0.length:U),pI 9 v1],[],[]⟩ (A8 [4] [.sc (.v (.bool zr))])
theorem A4t{a1 a0}{n:W}:dr a1 a0 (IG a1 a0 n):=by
 induction n with
 | zero=>intro _ r h; cases h
 | succ n ih=>
  intro v1 r h σ hσ;rw[IG] at h;exact gc
instance ZV:Ct 166 (∀{a0} {a1} {r},KH a0 a1=N r→FC Z 166 [.sc (.sl (Y rI a0)),.sc (.int .i64 a1)] [.sc (.v (.bool r))]):=by
 refine⟨fun{a0} {a1} {r} h=> ?_⟩;unfold KH at h;refine A5 A4 Ws [4] 17 ?_;have k0:= @A4t;exact gc
/- 163:spec_l05Walk -/
def B8:P (P W × AItem):= [([],(O,.load 49 (S 5) T 2)),([],(O,.bslice 50 1 [.int .i64 0] 0 [])),([],(O,.mv 51 (S 1))),([1,2],(O,.app 52 1 8 (S 50) (S 51))),([],(O,.mv 53 (S 14))),([4],(O,.bslice 54 1 [.int .i64 0] 1 [(0,(S 53))])),([3,5,3],(O,.app 55 1 8 (S 52) (S 54))),([],(O,.bslice 56 1 [.int .i64 0] 0 [])),([],(O,.mv 57 (S 2))),([7,8,6],(O,.app 58 1 8 (S 56) (S 57))),([],(O,.mv 59 (S 12))),([10],(O,.bslice 60 1 [.int .i64 0] 1 [(0,(S 59))])),([9,11,9],(O,.app 61 1 8 (S 58) (S 60))),([],(O,.mv 62 (S 3))),([],(O,.mv 63 (S 4))),([0,6,12,13,14,12],(O,.call 64 163 [(S 49),(S 55),(S 61),(S 62),(S 63)])),([15,15,0,1,2,3,4,5,6,7,8,9,10,11,12,13,14,15],(O,.mv 4 (S 64)))]
def Q8:Hw:=([(16,[1,2,3,4,5,11,31,32,33],[5],[90000]),(31,[1,2,3,4,5,11,12,14,31,32,33,48],[5],[90000])],[(9,4,(O,.frz 1600))])
abbrev A9(a1 a2:P U)(a3 x1:U)(v5 r9:U)(a0:X1)(ws4_ wo1_:AV)(wo3_ wo6_:AV)(wo7_ wo9_:AV)(wo12_ wo14_ wu16_:AV)(c0_ c1_:V)(c2_ c3_:V)(c4_ c5_:V)(c6_ c7_:V)(c8_ c9_:V)(c10_ c11_:V)(c12_ c13_:V)(c14_ c15_:V)(bx_:P (W × P AC))(rs_:Rows):St:=⟨[(1,vc (aL (Y rI a1))),(2,vc (aL (Y rI a2))),(3,vc (aI a3)),(4,ws4_),(5,vc (.pb 5 0)),(11,vc (aI x1)),(12,vc (aI v5)),(14,vc (aI r9)),(31,vc (aL (Y X2.row a0.Segments))),(32,vc (aI (a0.Segments.length:U))),(33,vc (aI v5)),(49,bif c0_ then va [aL (Y X7.row a0.Points),aL (Y X2.row a0.Segments)] else .undef),(50,bif c1_ then wo1_ else .undef),(51,bif c2_ then vc (aL (Y rI a1)) else .undef),(52,bif c3_ then wo3_ else .undef),(53,bif c4_ then vc (aI r9) else .undef),(54,bif c5_ then vc (.own 3456) else .undef),(55,bif c6_ then wo6_ else .undef),(56,bif c7_ then wo7_ else .undef),(57,bif c8_ then vc (aL (Y rI a2)) else .undef),(58,bif c9_ then wo9_ else .undef),(59,bif c10_ then vc (aI v5) else .undef),(60,bif c11_ then vc (.own 3840) else .undef),(61,bif c12_ then wo12_ else .undef),(62,bif c13_ then vc (aI a3) else .undef),(63,bif c14_ then wo14_ else .undef),(64,bif c15_ then vc (.own 90000) else .undef),(4,wu16_)],bx_,rs_⟩
abbrev B0(a1 a2:P U)(a3 x1:U)(v5 r9:U)(a0:X1)(r18:(P (P U))):St:=(A9 a1 a2 a3 x1 v5 r9 a0 (vc (.own 90000)) (vc (.undef)) (vc (.undef)) (vc (aL (Y rI (a1++([r9]:P U))))) (vc (.undef)) (vc (.undef)) (vc (aL (Y rI (a2++([v5]:P U))))) (vc (.undef)) (vc (.own 90000)) T T T T T T T T T T T T T T T T [(5,[aL (Y X7.row a0.Points),aL (Y X2.row a0.Segments)])] [(90000,1,Y (rL rI) r18),(3456,1,Y rI ([r9]:P U)),(3840,1,Y rI ([v5]:P U))])
theorem A4u(rec_:X1→(P U)→(P U)→U→(P (P U))→Q (P (P U)))(h_rec:∀(a0:X1) (a1 a2:P U) (a3:U) (a4:P (P U)) zr,rec_ a0 a1 a2 a3 a4=N zr→FCt Z 163 [.d (.ag (X1.row a0)),.d (.sc (.sl (Y rI a1))),.d (.sc (.sl (Y rI a2))),.d (.sc (.int .i64 a3)),.r] 1 (Y (rL rI) a4) (Y (rL rI) zr))(a1 a2:P U)(a3)(x1:U)(v5)(r9)(a0)(v6)(r18)(h14:(A3 ([]:P U).length a1.length 8)=T)(h15:(A3 a1.length ([r9]:P U).length 8)=T)(h16:(A3 ([]:P U).length a2.length 8)=T)(h17:(A3 a2.length ([v5]:P U).length 8)=T)(h18:rec_ a0 (a1++([r9]:P U)) (a2++([v5]:P U)) a3 v6=N r18):∀(f:W),Ae Z B8 (B0 a1 a2 a3 x1 v5 r9 a0 r18) f [T,T,T,T,T,T,T,T,T,T,T,T,T,T,T,T,T] (A9 a1 a2 a3 x1 v5 r9 a0 (vc (.own 90000)) (vc (.undef)) (vc (.undef)) (vc (aL (Y rI (a1++([r9]:P U))))) (vc (.undef)) (vc (.undef)) (vc (aL (Y rI (a2++([v5]:P U))))) (vc (.undef)) (vc (.own 90000)) T T T T T T T T T T T T T T T T [(5,[aL (Y X7.row a0.Points),aL (Y X2.row a0.Segments)])] [(90000,1,Y (rL rI) r18),(3456,1,Y rI ([r9]:P U)),(3840,1,Y rI ([v5]:P U))]):=by
 intro f
 induction f with
 | zero=>intro h; rfl
 | succ f ih=>
  refine Ai ⟨?_,?_,?_,?_,?_,?_,?_,?_,?_,?_,?_,?_,?_,?_,?_,?_,?_,⟨⟩⟩<;>try first | (intro h; cases h; done)
theorem A4v(rec_:X1→(P U)→(P U)→U→(P (P U))→Q (P (P U)))(h_rec:∀(a0:X1) (a1 a2:P U) (a3:U) (a4:P (P U)) zr,rec_ a0 a1 a2 a3 a4=N zr→FCt Z 163 [.d (.ag (X1.row a0)),.d (.sc (.sl (Y rI a1))),.d (.sc (.sl (Y rI a2))),.d (.sc (.int .i64 a3)),.r] 1 (Y (rL rI) a4) (Y (rL rI) zr))(a1 a2:P U)(a3)(x1:U)(v5)(r9)(a0)(v6)(r18)(h14:(A3 ([]:P U).length a1.length 8)=T)(h15:(A3 a1.length ([r9]:P U).length 8)=T)(h16:(A3 ([]:P U).length a2.length 8)=T)(h17:(A3 a2.length ([v5]:P U).length 8)=T)(h18:rec_ a0 (a1++([r9]:P U)) (a2++([v5]:P U)) a3 v6=N r18):∀(f:W),Ae Z B8 (B0 a1 a2 a3 x1 v5 r9 a0 r18) f [T,T,T,T,T,T,T,T,T,T,T,T,T,T,T,T,L] (A9 a1 a2 a3 x1 v5 r9 a0 (vc (.undef)) (vc (.undef)) (vc (.undef)) (vc (aL (Y rI (a1++([r9]:P U))))) (vc (.undef)) (vc (.undef)) (vc (aL (Y rI (a2++([v5]:P U))))) (vc (.undef)) (vc (.undef)) T T T T T T T T T T T T T T T T [(5,[aL (Y X7.row a0.Points),aL (Y X2.row a0.Segments)])] [(90000,1,Y (rL rI) r18),(3456,1,Y rI ([r9]:P U)),(3840,1,Y rI ([v5]:P U))]):=by
 intro f
 induction f with
 | zero=>intro  h; simp at h
 | succ f ih=>
  refine Ai ⟨?_,?_,?_,?_,?_,?_,?_,?_,?_,?_,?_,?_,?_,?_,?_,?_,?_,⟨⟩⟩<;>try first | (intro h; cases h; done)
  ·intro h0 hw;refine⟨[],[(O,.keep [1,2,3,4,5,11,12,14,31,32,33,49,50,51,52,53,54,55,56,57,58,59,60,61,62,63,64,4] [5] [90000,3456,3840])],X,X,?_⟩;try simp only[A9,A6,A7,zA,I,A2,C,E,F,G,H,J]
   exact A4u rec_ h_rec a1 a2 a3 x1 v5 r9 a0 v6 r18 h14 h15 h16 h17 h18 _
theorem A4w(rec_:X1→(P U)→(P U)→U→(P (P U))→Q (P (P U)))(h_rec:∀(a0:X1) (a1 a2:P U) (a3:U) (a4:P (P U)) zr,rec_ a0 a1 a2 a3 a4=N zr→FCt Z 163 [.d (.ag (X1.row a0)),.d (.sc (.sl (Y rI a1))),.d (.sc (.sl (Y rI a2))),.d (.sc (.int .i64 a3)),.r] 1 (Y (rL rI) a4) (Y (rL rI) zr))(a1 a2:P U)(a3)(x1:U)(v5)(r9)(a0)(v6)(r18)(h14:(A3 ([]:P U).length a1.length 8)=T)(h15:(A3 a1.length ([r9]:P U).length 8)=T)(h16:(A3 ([]:P U).length a2.length 8)=T)(h17:(A3 a2.length ([v5]:P U).length 8)=T)(h18:rec_ a0 (a1++([r9]:P U)) (a2++([v5]:P U)) a3 v6=N r18):∀(f:W) (b0 b13 b14:V),Ae Z B8 (B0 a1 a2 a3 x1 v5 r9 a0 r18) f [b0,T,T,T,T,T,T,T,T,T,T,T,T,b13,b14,L,L] (A9 a1 a2 a3 x1 v5 r9 a0 (vc (.own 90000)) (vc (.undef)) (vc (.undef)) (vc (.own 3200)) (vc (.undef)) (vc (.undef)) (vc (.own 3584)) (vc (.own 90000)) (vc (.own 90000)) b0 T T T T T T T T T T T T b13 b14 L [(5,[aL (Y X7.row a0.Points),aL (Y X2.row a0.Segments)])] [(90000,1,Y (rL rI) v6),(3200,1,Y rI (a1++([r9]:P U))),(3456,1,Y rI ([r9]:P U)),(3584,1,Y rI (a2++([v5]:P U))),(3840,1,Y rI ([v5]:P U))]):=by
 intro f
 induction f with
 | zero=>intro b0 b13 b14 h; simp at h
 | succ f ih=>
  intro b0 b13 b14;refine Ai ⟨?_,?_,?_,?_,?_,?_,?_,?_,?_,?_,?_,?_,?_,?_,?_,?_,?_,⟨⟩⟩<;>try first | (intro h; cases h; done) | (intro _ hw; simp at hw; done) | (intro h0 hw; obtain rfl:=hz h0 rfl; refine np ?_; simp only[A9,A6,A7,A2,C,E,F,G,H,J]; exact ih _ _ _)
  ·intro h0 hw;obtain rfl:=hq hw 0 rfl rfl;obtain rfl:=hq hw 13 rfl rfl;obtain rfl:=hq hw 14 rfl rfl;refine⟨[(O,.frz 3200),(O,.frz 3584)],[(O,.ren 4096 90000),(O,.keep [1,2,3,4,5,11,12,14,31,32,33,49,50,51,52,53,54,55,56,57,58,59,60,61,62,63,64,4] [5] [90000,3456,3840])],X,X,?_⟩;try simp only[A9,A6,A7,zA,I,A2,C,E,F,G,H,J]
   refine Cp ?_;try simp only[A2,C,E,F,G,H,J]
   refine Cp ?_;try simp only[A2,C,E,F,G,H,J]
   refine Vm (h_rec _ _ _ _ _ _ h18) 90000 X X (by simp only[St.fresh,zB,zC,Aj]; simp[AV.cells,V1.cells,AC.uses]) X X ?_;rw[Us];try simp only[A2,C,E,F,G,H,J]
   refine oG X X ?_;try simp only[A2,C,E,F,G,H,J]
   exact A4v rec_ h_rec a1 a2 a3 x1 v5 r9 a0 v6 r18 h14 h15 h16 h17 h18 _
theorem aY(rec_:X1→(P U)→(P U)→U→(P (P U))→Q (P (P U)))(h_rec:∀(a0:X1) (a1 a2:P U) (a3:U) (a4:P (P U)) zr,rec_ a0 a1 a2 a3 a4=N zr→FCt Z 163 [.d (.ag (X1.row a0)),.d (.sc (.sl (Y rI a1))),.d (.sc (.sl (Y rI a2))),.d (.sc (.int .i64 a3)),.r] 1 (Y (rL rI) a4) (Y (rL rI) zr))(a1 a2:P U)(a3)(x1:U)(v5)(r9)(a0)(v6)(r18)(h14:(A3 ([]:P U).length a1.length 8)=T)(h15:(A3 a1.length ([r9]:P U).length 8)=T)(h16:(A3 ([]:P U).length a2.length 8)=T)(h17:(A3 a2.length ([v5]:P U).length 8)=T)(h18:rec_ a0 (a1++([r9]:P U)) (a2++([v5]:P U)) a3 v6=N r18):∀(f:W) (b0 b13 b14:V),Ae Z B8 (B0 a1 a2 a3 x1 v5 r9 a0 r18) f [b0,T,T,T,T,T,T,T,T,T,T,T,L,b13,b14,L,L] (A9 a1 a2 a3 x1 v5 r9 a0 (vc (.own 90000)) (vc (.undef)) (vc (.undef)) (vc (.own 3200)) (vc (.undef)) (vc (.own 3584)) (vc (.own 3584)) (vc (.own 90000)) (vc (.own 90000)) b0 T T T T T T T T T T T L b13 b14 L [(5,[aL (Y X7.row a0.Points),aL (Y X2.row a0.Segments)])] [(90000,1,Y (rL rI) v6),(3200,1,Y rI (a1++([r9]:P U))),(3456,1,Y rI ([r9]:P U)),(3584,1,Y rI a2),(3840,1,Y rI ([v5]:P U))]):=by
 intro f
 induction f with
 | zero=>intro b0 b13 b14 h; simp at h
 | succ f ih=>
  intro b0 b13 b14;refine Ai ⟨?_,?_,?_,?_,?_,?_,?_,?_,?_,?_,?_,?_,?_,?_,?_,?_,?_,⟨⟩⟩<;>try first | (intro h; cases h; done) | (intro _ hw; simp at hw; done) | (intro h0 hw; obtain rfl:=hz h0 rfl; refine np ?_; simp only[A9,A6,A7,A2,C,E,F,G,H,J]; exact ih _ _ _)
  ·intro h0 hw;refine⟨[],[(O,.keep [1,2,3,4,5,11,12,14,31,32,33,49,50,51,52,53,54,55,56,57,58,59,60,61,62,63,64,4] [5] [90000,3200,3456,3584,3840])],X,X,?_⟩;try simp only[h17,A9,A6,A7,zA,I,A2,C,E,F,G,H,J]
   exact A4w rec_ h_rec a1 a2 a3 x1 v5 r9 a0 v6 r18 h14 h15 h16 h17 h18 _ b0 b13 b14
theorem A4x(rec_:X1→(P U)→(P U)→U→(P (P U))→Q (P (P U)))(h_rec:∀(a0:X1) (a1 a2:P U) (a3:U) (a4:P (P U)) zr,rec_ a0 a1 a2 a3 a4=N zr→FCt Z 163 [.d (.ag (X1.row a0)),.d (.sc (.sl (Y rI a1))),.d (.sc (.sl (Y rI a2))),.d (.sc (.int .i64 a3)),.r] 1 (Y (rL rI) a4) (Y (rL rI) zr))(a1 a2:P U)(a3)(x1:U)(v5)(r9)(a0)(v6)(r18)(h14:(A3 ([]:P U).length a1.length 8)=T)(h15:(A3 a1.length ([r9]:P U).length 8)=T)(h16:(A3 ([]:P U).length a2.length 8)=T)(h17:(A3 a2.length ([v5]:P U).length 8)=T)(h18:rec_ a0 (a1++([r9]:P U)) (a2++([v5]:P U)) a3 v6=N r18):∀(f:W) (b0 b10:V) (b13 b14:V),Ae Z B8 (B0 a1 a2 a3 x1 v5 r9 a0 r18) f [b0,T,T,T,T,T,T,T,T,T,b10,L,L,b13,b14,L,L] (A9 a1 a2 a3 x1 v5 r9 a0 (vc (.own 90000)) (vc (.undef)) (vc (.undef)) (vc (.own 3200)) (vc (.undef)) (vc (.own 3584)) (vc (.own 3584)) (vc (.own 90000)) (vc (.own 90000)) b0 T T T T T T T T T b10 L L b13 b14 L [(5,[aL (Y X7.row a0.Points),aL (Y X2.row a0.Segments)])] [(90000,1,Y (rL rI) v6),(3200,1,Y rI (a1++([r9]:P U))),(3456,1,Y rI ([r9]:P U)),(3584,1,Y rI a2)]):=by
 intro f
 induction f with
 | zero=>intro b0 b10 b13 b14 h; simp at h
 | succ f ih=>
  intro b0 b10 b13 b14;refine Ai ⟨?_,?_,?_,?_,?_,?_,?_,?_,?_,?_,?_,?_,?_,?_,?_,?_,?_,⟨⟩⟩<;>try first | (intro h; cases h; done) | (intro _ hw; simp at hw; done) | (intro h0 hw; obtain rfl:=hz h0 rfl; refine np ?_; simp only[A9,A6,A7,A2,C,E,F,G,H,J]; exact ih _ _ _ _)
  ·intro h0 hw;obtain rfl:=hq hw 10 rfl rfl;refine⟨[],[(O,.keep [1,2,3,4,5,11,12,14,31,32,33,49,50,51,52,53,54,55,56,57,58,59,60,61,62,63,64,4] [5] [90000,3200,3456,3584,3840])],X,X,?_⟩;try simp only[A9,A6,A7,zA,I,A2,C,E,F,G,H,J]
   refine As (es:=Y rI ([v5]:P U)) X (by simp only[St.fresh,zB,zC,Aj]; simp[AV.cells,V1.cells,AC.uses]) ?_;try simp only[A2,C,E,F,G,H,J]
   exact aY rec_ h_rec a1 a2 a3 x1 v5 r9 a0 v6 r18 h14 h15 h16 h17 h18 _ b0 b13 b14
theorem Ts(rec_:X1→(P U)→(P U)→U→(P (P U))→Q (P (P U)))(h_rec:∀(a0:X1) (a1 a2:P U) (a3:U) (a4:P (P U)) zr,rec_ a0 a1 a2 a3 a4=N zr→FCt Z 163 [.d (.ag (X1.row a0)),.d (.sc (.sl (Y rI a1))),.d (.sc (.sl (Y rI a2))),.d (.sc (.int .i64 a3)),.r] 1 (Y (rL rI) a4) (Y (rL rI) zr))(a1 a2:P U)(a3)(x1:U)(v5)(r9)(a0)(v6)(r18)(h14:(A3 ([]:P U).length a1.length 8)=T)(h15:(A3 a1.length ([r9]:P U).length 8)=T)(h16:(A3 ([]:P U).length a2.length 8)=T)(h17:(A3 a2.length ([v5]:P U).length 8)=T)(h18:rec_ a0 (a1++([r9]:P U)) (a2++([v5]:P U)) a3 v6=N r18):∀(f:W) (b0 b8:V) (b13 b14:V),Ae Z B8 (B0 a1 a2 a3 x1 v5 r9 a0 r18) f [b0,T,T,T,T,T,T,T,b8,L,T,T,L,b13,b14,L,L] (A9 a1 a2 a3 x1 v5 r9 a0 (vc (.own 90000)) (vc (.undef)) (vc (.undef)) (vc (.own 3200)) (vc (.own 3584)) (vc (.own 3584)) (vc (.own 3584)) (vc (.own 90000)) (vc (.own 90000)) b0 T T T T T T T b8 L T T L b13 b14 L [(5,[aL (Y X7.row a0.Points),aL (Y X2.row a0.Segments)])] [(90000,1,Y (rL rI) v6),(3200,1,Y rI (a1++([r9]:P U))),(3456,1,Y rI ([r9]:P U)),(3584,1,Y rI ([]:P U)),(3840,1,Y rI ([v5]:P U))]):=by
 intro f
 induction f with
 | zero=>intro b0 b8 b13 b14 h; simp at h
 | succ f ih=>
  intro b0 b8 b13 b14;refine Ai ⟨?_,?_,?_,?_,?_,?_,?_,?_,?_,?_,?_,?_,?_,?_,?_,?_,?_,⟨⟩⟩<;>try first | (intro h; cases h; done) | (intro _ hw; simp at hw; done) | (intro h0 hw; obtain rfl:=hz h0 rfl; refine np ?_; simp only[A9,A6,A7,A2,C,E,F,G,H,J]; exact ih _ _ _ _)
  ·intro h0 hw;obtain rfl:=hq hw 8 rfl rfl;refine⟨[],[(O,.keep [1,2,3,4,5,11,12,14,31,32,33,49,50,51,52,53,54,55,56,57,58,59,60,61,62,63,64,4] [5] [90000,3200,3456,3584,3840])],X,X,?_⟩;try simp only[h16,A9,A6,A7,zA,I,A2,C,E,F,G,H,J]
   exact aY rec_ h_rec a1 a2 a3 x1 v5 r9 a0 v6 r18 h14 h15 h16 h17 h18 _ b0 b13 b14
theorem aZ(rec_:X1→(P U)→(P U)→U→(P (P U))→Q (P (P U)))(h_rec:∀(a0:X1) (a1 a2:P U) (a3:U) (a4:P (P U)) zr,rec_ a0 a1 a2 a3 a4=N zr→FCt Z 163 [.d (.ag (X1.row a0)),.d (.sc (.sl (Y rI a1))),.d (.sc (.sl (Y rI a2))),.d (.sc (.int .i64 a3)),.r] 1 (Y (rL rI) a4) (Y (rL rI) zr))(a1 a2:P U)(a3)(x1:U)(v5)(r9)(a0)(v6)(r18)(h14:(A3 ([]:P U).length a1.length 8)=T)(h15:(A3 a1.length ([r9]:P U).length 8)=T)(h16:(A3 ([]:P U).length a2.length 8)=T)(h17:(A3 a2.length ([v5]:P U).length 8)=T)(h18:rec_ a0 (a1++([r9]:P U)) (a2++([v5]:P U)) a3 v6=N r18):∀(f:W) (b0 b8:V) (b10 b13 b14:V),Ae Z B8 (B0 a1 a2 a3 x1 v5 r9 a0 r18) f [b0,T,T,T,T,T,T,T,b8,L,b10,L,L,b13,b14,L,L] (A9 a1 a2 a3 x1 v5 r9 a0 (vc (.own 90000)) (vc (.undef)) (vc (.undef)) (vc (.own 3200)) (vc (.own 3584)) (vc (.own 3584)) (vc (.own 3584)) (vc (.own 90000)) (vc (.own 90000)) b0 T T T T T T T b8 L b10 L L b13 b14 L [(5,[aL (Y X7.row a0.Points),aL (Y X2.row a0.Segments)])] [(90000,1,Y (rL rI) v6),(3200,1,Y rI (a1++([r9]:P U))),(3456,1,Y rI ([r9]:P U)),(3584,1,Y rI ([]:P U))]):=by
 intro f
 induction f with
 | zero=>intro b0 b8 b10 b13 b14 h; simp at h
 | succ f ih=>
  intro b0 b8 b10 b13 b14;refine Ai ⟨?_,?_,?_,?_,?_,?_,?_,?_,?_,?_,?_,?_,?_,?_,?_,?_,?_,⟨⟩⟩<;>try first | (intro h; cases h; done) | (intro _ hw; simp at hw; done) | (intro h0 hw; obtain rfl:=hz h0 rfl; refine np ?_; simp only[A9,A6,A7,A2,C,E,F,G,H,J]; exact ih _ _ _ _ _)
  ·intro h0 hw;obtain rfl:=hq hw 8 rfl rfl;refine⟨[],[(O,.keep [1,2,3,4,5,11,12,14,31,32,33,49,50,51,52,53,54,55,56,57,58,59,60,61,62,63,64,4] [5] [90000,3200,3456,3584])],X,X,?_⟩;try simp only[h16,A9,A6,A7,zA,I,A2,C,E,F,G,H,J]
   exact A4x rec_ h_rec a1 a2 a3 x1 v5 r9 a0 v6 r18 h14 h15 h16 h17 h18 _ b0 b10 b13 b14
  ·intro h0 hw;obtain rfl:=hq hw 10 rfl rfl;refine⟨[],[(O,.keep [1,2,3,4,5,11,12,14,31,32,33,49,50,51,52,53,54,55,56,57,58,59,60,61,62,63,64,4] [5] [90000,3200,3456,3584,3840])],X,X,?_⟩;try simp only[A9,A6,A7,zA,I,A2,C,E,F,G,H,J]
   refine As (es:=Y rI ([v5]:P U)) X (by simp only[St.fresh,zB,zC,Aj]; simp[AV.cells,V1.cells,AC.uses]) ?_;try simp only[A2,C,E,F,G,H,J]
   exact Ts rec_ h_rec a1 a2 a3 x1 v5 r9 a0 v6 r18 h14 h15 h16 h17 h18 _ b0 b8 b13 b14
theorem aa(rec_:X1→(P U)→(P U)→U→(P (P U))→Q (P (P U)))(h_rec:∀(a0:X1) (a1 a2:P U) (a3:U) (a4:P (P U)) zr,rec_ a0 a1 a2 a3 a4=N zr→FCt Z 163 [.d (.ag (X1.row a0)),.d (.sc (.sl (Y rI a1))),.d (.sc (.sl (Y rI a2))),.d (.sc (.int .i64 a3)),.r] 1 (Y (rL rI) a4) (Y (rL rI) zr))(a1 a2:P U)(a3)(x1:U)(v5)(r9)(a0)(v6)(r18)(h14:(A3 ([]:P U).length a1.length 8)=T)(h15:(A3 a1.length ([r9]:P U).length 8)=T)(h16:(A3 ([]:P U).length a2.length 8)=T)(h17:(A3 a2.length ([v5]:P U).length 8)=T)(h18:rec_ a0 (a1++([r9]:P U)) (a2++([v5]:P U)) a3 v6=N r18):∀(f:W) (b0 b8:V) (b13 b14:V),Ae Z B8 (B0 a1 a2 a3 x1 v5 r9 a0 r18) f [b0,T,T,T,T,T,T,L,b8,L,T,T,L,b13,b14,L,L] (A9 a1 a2 a3 x1 v5 r9 a0 (vc (.own 90000)) (vc (.undef)) (vc (.undef)) (vc (.own 3200)) (vc (.own 3584)) (vc (.own 3584)) (vc (.own 3584)) (vc (.own 90000)) (vc (.own 90000)) b0 T T T T T T L b8 L T T L b13 b14 L [(5,[aL (Y X7.row a0.Points),aL (Y X2.row a0.Segments)])] [(90000,1,Y (rL rI) v6),(3200,1,Y rI (a1++([r9]:P U))),(3456,1,Y rI ([r9]:P U)),(3840,1,Y rI ([v5]:P U))]):=by
 intro f
 induction f with
 | zero=>intro b0 b8 b13 b14 h; simp at h
 | succ f ih=>
  intro b0 b8 b13 b14;refine Ai ⟨?_,?_,?_,?_,?_,?_,?_,?_,?_,?_,?_,?_,?_,?_,?_,?_,?_,⟨⟩⟩<;>try first | (intro h; cases h; done) | (intro _ hw; simp at hw; done) | (intro h0 hw; obtain rfl:=hz h0 rfl; refine np ?_; simp only[A9,A6,A7,A2,C,E,F,G,H,J]; exact ih _ _ _ _)
  ·intro h0 hw;refine⟨[],[(O,.keep [1,2,3,4,5,11,12,14,31,32,33,49,50,51,52,53,54,55,56,57,58,59,60,61,62,63,64,4] [5] [90000,3200,3456,3584,3840])],X,X,?_⟩;try simp only[A9,A6,A7,zA,I,A2,C,E,F,G,H,J]
   refine As (es:=Y rI ([]:P U)) X (by simp only[St.fresh,zB,zC,Aj]; simp[AV.cells,V1.cells,AC.uses]) ?_;try simp only[A2,C,E,F,G,H,J]
   exact Ts rec_ h_rec a1 a2 a3 x1 v5 r9 a0 v6 r18 h14 h15 h16 h17 h18 _ b0 b8 b13 b14
theorem QT(rec_:X1→(P U)→(P U)→U→(P (P U))→Q (P (P U)))(h_rec:∀(a0:X1) (a1 a2:P U) (a3:U) (a4:P (P U)) zr,rec_ a0 a1 a2 a3 a4=N zr→FCt Z 163 [.d (.ag (X1.row a0)),.d (.sc (.sl (Y rI a1))),.d (.sc (.sl (Y rI a2))),.d (.sc (.int .i64 a3)),.r] 1 (Y (rL rI) a4) (Y (rL rI) zr))(a1 a2:P U)(a3)(x1:U)(v5)(r9)(a0)(v6)(r18)(h14:(A3 ([]:P U).length a1.length 8)=T)(h15:(A3 a1.length ([r9]:P U).length 8)=T)(h16:(A3 ([]:P U).length a2.length 8)=T)(h17:(A3 a2.length ([v5]:P U).length 8)=T)(h18:rec_ a0 (a1++([r9]:P U)) (a2++([v5]:P U)) a3 v6=N r18):∀(f:W) (b0 b8:V) (b13 b14:V),Ae Z B8 (B0 a1 a2 a3 x1 v5 r9 a0 r18) f [b0,T,T,T,T,T,L,T,b8,L,T,T,L,b13,b14,L,L] (A9 a1 a2 a3 x1 v5 r9 a0 (vc (.own 90000)) (vc (.undef)) (vc (.own 3200)) (vc (.own 3200)) (vc (.own 3584)) (vc (.own 3584)) (vc (.own 3584)) (vc (.own 90000)) (vc (.own 90000)) b0 T T T T T L T b8 L T T L b13 b14 L [(5,[aL (Y X7.row a0.Points),aL (Y X2.row a0.Segments)])] [(90000,1,Y (rL rI) v6),(3200,1,Y rI a1),(3456,1,Y rI ([r9]:P U)),(3584,1,Y rI ([]:P U)),(3840,1,Y rI ([v5]:P U))]):=by
 intro f
 induction f with
 | zero=>intro b0 b8 b13 b14 h; simp at h
 | succ f ih=>
  intro b0 b8 b13 b14;refine Ai ⟨?_,?_,?_,?_,?_,?_,?_,?_,?_,?_,?_,?_,?_,?_,?_,?_,?_,⟨⟩⟩<;>try first | (intro h; cases h; done) | (intro _ hw; simp at hw; done) | (intro h0 hw; obtain rfl:=hz h0 rfl; refine np ?_; simp only[A9,A6,A7,A2,C,E,F,G,H,J]; exact ih _ _ _ _)
  ·intro h0 hw;refine⟨[],[(O,.keep [1,2,3,4,5,11,12,14,31,32,33,49,50,51,52,53,54,55,56,57,58,59,60,61,62,63,64,4] [5] [90000,3200,3456,3584,3840])],X,X,?_⟩;try simp only[h15,A9,A6,A7,zA,I,A2,C,E,F,G,H,J]
   exact Ts rec_ h_rec a1 a2 a3 x1 v5 r9 a0 v6 r18 h14 h15 h16 h17 h18 _ b0 b8 b13 b14
theorem A4z(rec_:X1→(P U)→(P U)→U→(P (P U))→Q (P (P U)))(h_rec:∀(a0:X1) (a1 a2:P U) (a3:U) (a4:P (P U)) zr,rec_ a0 a1 a2 a3 a4=N zr→FCt Z 163 [.d (.ag (X1.row a0)),.d (.sc (.sl (Y rI a1))),.d (.sc (.sl (Y rI a2))),.d (.sc (.int .i64 a3)),.r] 1 (Y (rL rI) a4) (Y (rL rI) zr))(a1 a2:P U)(a3)(x1:U)(v5)(r9)(a0)(v6)(r18)(h14:(A3 ([]:P U).length a1.length 8)=T)(h15:(A3 a1.length ([r9]:P U).length 8)=T)(h16:(A3 ([]:P U).length a2.length 8)=T)(h17:(A3 a2.length ([v5]:P U).length 8)=T)(h18:rec_ a0 (a1++([r9]:P U)) (a2++([v5]:P U)) a3 v6=N r18):∀(f:W) (b0 b8:V) (b10 b13 b14:V),Ae Z B8 (B0 a1 a2 a3 x1 v5 r9 a0 r18) f [b0,T,T,T,T,T,T,L,b8,L,b10,L,L,b13,b14,L,L] (A9 a1 a2 a3 x1 v5 r9 a0 (vc (.own 90000)) (vc (.undef)) (vc (.undef)) (vc (.own 3200)) (vc (.own 3584)) (vc (.own 3584)) (vc (.own 3584)) (vc (.own 90000)) (vc (.own 90000)) b0 T T T T T T L b8 L b10 L L b13 b14 L [(5,[aL (Y X7.row a0.Points),aL (Y X2.row a0.Segments)])] [(90000,1,Y (rL rI) v6),(3200,1,Y rI (a1++([r9]:P U))),(3456,1,Y rI ([r9]:P U))]):=by
 intro f
 induction f with
 | zero=>intro b0 b8 b10 b13 b14 h; simp at h
 | succ f ih=>
  intro b0 b8 b10 b13 b14;refine Ai ⟨?_,?_,?_,?_,?_,?_,?_,?_,?_,?_,?_,?_,?_,?_,?_,?_,?_,⟨⟩⟩<;>try first | (intro h; cases h; done) | (intro _ hw; simp at hw; done) | (intro h0 hw; obtain rfl:=hz h0 rfl; refine np ?_; simp only[A9,A6,A7,A2,C,E,F,G,H,J]; exact ih _ _ _ _ _)
  ·intro h0 hw;refine⟨[],[(O,.keep [1,2,3,4,5,11,12,14,31,32,33,49,50,51,52,53,54,55,56,57,58,59,60,61,62,63,64,4] [5] [90000,3200,3456,3584])],X,X,?_⟩;try simp only[A9,A6,A7,zA,I,A2,C,E,F,G,H,J]
   refine As (es:=Y rI ([]:P U)) X (by simp only[St.fresh,zB,zC,Aj]; simp[AV.cells,V1.cells,AC.uses]) ?_;try simp only[A2,C,E,F,G,H,J]
   exact aZ rec_ h_rec a1 a2 a3 x1 v5 r9 a0 v6 r18 h14 h15 h16 h17 h18 _ b0 b8 b10 b13 b14
  ·intro h0 hw;obtain rfl:=hq hw 10 rfl rfl;refine⟨[],[(O,.keep [1,2,3,4,5,11,12,14,31,32,33,49,50,51,52,53,54,55,56,57,58,59,60,61,62,63,64,4] [5] [90000,3200,3456,3840])],X,X,?_⟩;try simp only[A9,A6,A7,zA,I,A2,C,E,F,G,H,J]
   refine As (es:=Y rI ([v5]:P U)) X (by simp only[St.fresh,zB,zC,Aj]; simp[AV.cells,V1.cells,AC.uses]) ?_;try simp only[A2,C,E,F,G,H,J]
   exact aa rec_ h_rec a1 a2 a3 x1 v5 r9 a0 v6 r18 h14 h15 h16 h17 h18 _ b0 b8 b13 b14
theorem Tt(rec_:X1→(P U)→(P U)→U→(P (P U))→Q (P (P U)))(h_rec:∀(a0:X1) (a1 a2:P U) (a3:U) (a4:P (P U)) zr,rec_ a0 a1 a2 a3 a4=N zr→FCt Z 163 [.d (.ag (X1.row a0)),.d (.sc (.sl (Y rI a1))),.d (.sc (.sl (Y rI a2))),.d (.sc (.int .i64 a3)),.r] 1 (Y (rL rI) a4) (Y (rL rI) zr))(a1 a2:P U)(a3)(x1:U)(v5)(r9)(a0)(v6)(r18)(h14:(A3 ([]:P U).length a1.length 8)=T)(h15:(A3 a1.length ([r9]:P U).length 8)=T)(h16:(A3 ([]:P U).length a2.length 8)=T)(h17:(A3 a2.length ([v5]:P U).length 8)=T)(h18:rec_ a0 (a1++([r9]:P U)) (a2++([v5]:P U)) a3 v6=N r18):∀(f:W) (b0 b8:V) (b10 b13 b14:V),Ae Z B8 (B0 a1 a2 a3 x1 v5 r9 a0 r18) f [b0,T,T,T,T,T,L,T,b8,L,b10,L,L,b13,b14,L,L] (A9 a1 a2 a3 x1 v5 r9 a0 (vc (.own 90000)) (vc (.undef)) (vc (.own 3200)) (vc (.own 3200)) (vc (.own 3584)) (vc (.own 3584)) (vc (.own 3584)) (vc (.own 90000)) (vc (.own 90000)) b0 T T T T T L T b8 L b10 L L b13 b14 L [(5,[aL (Y X7.row a0.Points),aL (Y X2.row a0.Segments)])] [(90000,1,Y (rL rI) v6),(3200,1,Y rI a1),(3456,1,Y rI ([r9]:P U)),(3584,1,Y rI ([]:P U))]):=by
 intro f
 induction f with
 | zero=>intro b0 b8 b10 b13 b14 h; simp at h
 | succ f ih=>
  intro b0 b8 b10 b13 b14;refine Ai ⟨?_,?_,?_,?_,?_,?_,?_,?_,?_,?_,?_,?_,?_,?_,?_,?_,?_,⟨⟩⟩<;>try first | (intro h; cases h; done) | (intro _ hw; simp at hw; done) | (intro h0 hw; obtain rfl:=hz h0 rfl; refine np ?_; simp only[A9,A6,A7,A2,C,E,F,G,H,J]; exact ih _ _ _ _ _)
  ·intro h0 hw;refine⟨[],[(O,.keep [1,2,3,4,5,11,12,14,31,32,33,49,50,51,52,53,54,55,56,57,58,59,60,61,62,63,64,4] [5] [90000,3200,3456,3584])],X,X,?_⟩;try simp only[h15,A9,A6,A7,zA,I,A2,C,E,F,G,H,J]
   exact aZ rec_ h_rec a1 a2 a3 x1 v5 r9 a0 v6 r18 h14 h15 h16 h17 h18 _ b0 b8 b10 b13 b14
  ·intro h0 hw;obtain rfl:=hq hw 10 rfl rfl;refine⟨[],[(O,.keep [1,2,3,4,5,11,12,14,31,32,33,49,50,51,52,53,54,55,56,57,58,59,60,61,62,63,64,4] [5] [90000,3200,3456,3584,3840])],X,X,?_⟩;try simp only[A9,A6,A7,zA,I,A2,C,E,F,G,H,J]
   refine As (es:=Y rI ([v5]:P U)) X (by simp only[St.fresh,zB,zC,Aj]; simp[AV.cells,V1.cells,AC.uses]) ?_;try simp only[A2,C,E,F,G,H,J]
   exact QT rec_ h_rec a1 a2 a3 x1 v5 r9 a0 v6 r18 h14 h15 h16 h17 h18 _ b0 b8 b13 b14
theorem Tu(rec_:X1→(P U)→(P U)→U→(P (P U))→Q (P (P U)))(h_rec:∀(a0:X1) (a1 a2:P U) (a3:U) (a4:P (P U)) zr,rec_ a0 a1 a2 a3 a4=N zr→FCt Z 163 [.d (.ag (X1.row a0)),.d (.sc (.sl (Y rI a1))),.d (.sc (.sl (Y rI a2))),.d (.sc (.int .i64 a3)),.r] 1 (Y (rL rI) a4) (Y (rL rI) zr))(a1 a2:P U)(a3)(x1:U)(v5)(r9)(a0)(v6)(r18)(h14:(A3 ([]:P U).length a1.length 8)=T)(h15:(A3 a1.length ([r9]:P U).length 8)=T)(h16:(A3 ([]:P U).length a2.length 8)=T)(h17:(A3 a2.length ([v5]:P U).length 8)=T)(h18:rec_ a0 (a1++([r9]:P U)) (a2++([v5]:P U)) a3 v6=N r18):∀(f:W) (b0 b8:V) (b13 b14:V),Ae Z B8 (B0 a1 a2 a3 x1 v5 r9 a0 r18) f [b0,T,T,T,T,T,L,L,b8,L,T,T,L,b13,b14,L,L] (A9 a1 a2 a3 x1 v5 r9 a0 (vc (.own 90000)) (vc (.undef)) (vc (.own 3200)) (vc (.own 3200)) (vc (.own 3584)) (vc (.own 3584)) (vc (.own 3584)) (vc (.own 90000)) (vc (.own 90000)) b0 T T T T T L L b8 L T T L b13 b14 L [(5,[aL (Y X7.row a0.Points),aL (Y X2.row a0.Segments)])] [(90000,1,Y (rL rI) v6),(3200,1,Y rI a1),(3456,1,Y rI ([r9]:P U)),(3840,1,Y rI ([v5]:P U))]):=by
 intro f
 induction f with
 | zero=>intro b0 b8 b13 b14 h; simp at h
 | succ f ih=>
  intro b0 b8 b13 b14;refine Ai ⟨?_,?_,?_,?_,?_,?_,?_,?_,?_,?_,?_,?_,?_,?_,?_,?_,?_,⟨⟩⟩<;>try first | (intro h; cases h; done) | (intro _ hw; simp at hw; done) | (intro h0 hw; obtain rfl:=hz h0 rfl; refine np ?_; simp only[A9,A6,A7,A2,C,E,F,G,H,J]; exact ih _ _ _ _)
  ·intro h0 hw;refine⟨[],[(O,.keep [1,2,3,4,5,11,12,14,31,32,33,49,50,51,52,53,54,55,56,57,58,59,60,61,62,63,64,4] [5] [90000,3200,3456,3840])],X,X,?_⟩;try simp only[h15,A9,A6,A7,zA,I,A2,C,E,F,G,H,J]
   exact aa rec_ h_rec a1 a2 a3 x1 v5 r9 a0 v6 r18 h14 h15 h16 h17 h18 _ b0 b8 b13 b14
  ·intro h0 hw;refine⟨[],[(O,.keep [1,2,3,4,5,11,12,14,31,32,33,49,50,51,52,53,54,55,56,57,58,59,60,61,62,63,64,4] [5] [90000,3200,3456,3584,3840])],X,X,?_⟩;try simp only[A9,A6,A7,zA,I,A2,C,E,F,G,H,J]
   refine As (es:=Y rI ([]:P U)) X (by simp only[St.fresh,zB,zC,Aj]; simp[AV.cells,V1.cells,AC.uses]) ?_;try simp only[A2,C,E,F,G,H,J]
   exact QT rec_ h_rec a1 a2 a3 x1 v5 r9 a0 v6 r18 h14 h15 h16 h17 h18 _ b0 b8 b13 b14
theorem Tv(rec_:X1→(P U)→(P U)→U→(P (P U))→Q (P (P U)))(h_rec:∀(a0:X1) (a1 a2:P U) (a3:U) (a4:P (P U)) zr,rec_ a0 a1 a2 a3 a4=N zr→FCt Z 163 [.d (.ag (X1.row a0)),.d (.sc (.sl (Y rI a1))),.d (.sc (.sl (Y rI a2))),.d (.sc (.int .i64 a3)),.r] 1 (Y (rL rI) a4) (Y (rL rI) zr))(a1 a2:P U)(a3)(x1:U)(v5)(r9)(a0)(v6)(r18)(h14:(A3 ([]:P U).length a1.length 8)=T)(h15:(A3 a1.length ([r9]:P U).length 8)=T)(h16:(A3 ([]:P U).length a2.length 8)=T)(h17:(A3 a2.length ([v5]:P U).length 8)=T)(h18:rec_ a0 (a1++([r9]:P U)) (a2++([v5]:P U)) a3 v6=N r18):∀(f:W) (b0 b4:V) (b8 b13 b14:V),Ae Z B8 (B0 a1 a2 a3 x1 v5 r9 a0 r18) f [b0,T,T,T,b4,L,L,T,b8,L,T,T,L,b13,b14,L,L] (A9 a1 a2 a3 x1 v5 r9 a0 (vc (.own 90000)) (vc (.undef)) (vc (.own 3200)) (vc (.own 3200)) (vc (.own 3584)) (vc (.own 3584)) (vc (.own 3584)) (vc (.own 90000)) (vc (.own 90000)) b0 T T T b4 L L T b8 L T T L b13 b14 L [(5,[aL (Y X7.row a0.Points),aL (Y X2.row a0.Segments)])] [(90000,1,Y (rL rI) v6),(3200,1,Y rI a1),(3584,1,Y rI ([]:P U)),(3840,1,Y rI ([v5]:P U))]):=by
 intro f
 induction f with
 | zero=>intro b0 b4 b8 b13 b14 h; simp at h
 | succ f ih=>
  intro b0 b4 b8 b13 b14;refine Ai ⟨?_,?_,?_,?_,?_,?_,?_,?_,?_,?_,?_,?_,?_,?_,?_,?_,?_,⟨⟩⟩<;>try first | (intro h; cases h; done) | (intro _ hw; simp at hw; done) | (intro h0 hw; obtain rfl:=hz h0 rfl; refine np ?_; simp only[A9,A6,A7,A2,C,E,F,G,H,J]; exact ih _ _ _ _ _)
  ·intro h0 hw;obtain rfl:=hq hw 4 rfl rfl;refine⟨[],[(O,.keep [1,2,3,4,5,11,12,14,31,32,33,49,50,51,52,53,54,55,56,57,58,59,60,61,62,63,64,4] [5] [90000,3200,3456,3584,3840])],X,X,?_⟩;try simp only[A9,A6,A7,zA,I,A2,C,E,F,G,H,J]
   refine As (es:=Y rI ([r9]:P U)) X (by simp only[St.fresh,zB,zC,Aj]; simp[AV.cells,V1.cells,AC.uses]) ?_;try simp only[A2,C,E,F,G,H,J]
   exact QT rec_ h_rec a1 a2 a3 x1 v5 r9 a0 v6 r18 h14 h15 h16 h17 h18 _ b0 b8 b13 b14
theorem QU(rec_:X1→(P U)→(P U)→U→(P (P U))→Q (P (P U)))(h_rec:∀(a0:X1) (a1 a2:P U) (a3:U) (a4:P (P U)) zr,rec_ a0 a1 a2 a3 a4=N zr→FCt Z 163 [.d (.ag (X1.row a0)),.d (.sc (.sl (Y rI a1))),.d (.sc (.sl (Y rI a2))),.d (.sc (.int .i64 a3)),.r] 1 (Y (rL rI) a4) (Y (rL rI) zr))(a1 a2:P U)(a3)(x1:U)(v5)(r9)(a0)(v6)(r18)(h14:(A3 ([]:P U).length a1.length 8)=T)(h15:(A3 a1.length ([r9]:P U).length 8)=T)(h16:(A3 ([]:P U).length a2.length 8)=T)(h17:(A3 a2.length ([v5]:P U).length 8)=T)(h18:rec_ a0 (a1++([r9]:P U)) (a2++([v5]:P U)) a3 v6=N r18):∀(f:W) (b0 b2:V) (b8 b13 b14:V),Ae Z B8 (B0 a1 a2 a3 x1 v5 r9 a0 r18) f [b0,T,b2,L,T,T,L,T,b8,L,T,T,L,b13,b14,L,L] (A9 a1 a2 a3 x1 v5 r9 a0 (vc (.own 90000)) (vc (.own 3200)) (vc (.own 3200)) (vc (.own 3200)) (vc (.own 3584)) (vc (.own 3584)) (vc (.own 3584)) (vc (.own 90000)) (vc (.own 90000)) b0 T b2 L T T L T b8 L T T L b13 b14 L [(5,[aL (Y X7.row a0.Points),aL (Y X2.row a0.Segments)])] [(90000,1,Y (rL rI) v6),(3200,1,Y rI ([]:P U)),(3456,1,Y rI ([r9]:P U)),(3584,1,Y rI ([]:P U)),(3840,1,Y rI ([v5]:P U))]):=by
 intro f
 induction f with
 | zero=>intro b0 b2 b8 b13 b14 h; simp at h
 | succ f ih=>
  intro b0 b2 b8 b13 b14;refine Ai ⟨?_,?_,?_,?_,?_,?_,?_,?_,?_,?_,?_,?_,?_,?_,?_,?_,?_,⟨⟩⟩<;>try first | (intro h; cases h; done) | (intro _ hw; simp at hw; done) | (intro h0 hw; obtain rfl:=hz h0 rfl; refine np ?_; simp only[A9,A6,A7,A2,C,E,F,G,H,J]; exact ih _ _ _ _ _)
  ·intro h0 hw;obtain rfl:=hq hw 2 rfl rfl;refine⟨[],[(O,.keep [1,2,3,4,5,11,12,14,31,32,33,49,50,51,52,53,54,55,56,57,58,59,60,61,62,63,64,4] [5] [90000,3200,3456,3584,3840])],X,X,?_⟩;try simp only[h14,A9,A6,A7,zA,I,A2,C,E,F,G,H,J]
   exact QT rec_ h_rec a1 a2 a3 x1 v5 r9 a0 v6 r18 h14 h15 h16 h17 h18 _ b0 b8 b13 b14
theorem ab(rec_:X1→(P U)→(P U)→U→(P (P U))→Q (P (P U)))(h_rec:∀(a0:X1) (a1 a2:P U) (a3:U) (a4:P (P U)) zr,rec_ a0 a1 a2 a3 a4=N zr→FCt Z 163 [.d (.ag (X1.row a0)),.d (.sc (.sl (Y rI a1))),.d (.sc (.sl (Y rI a2))),.d (.sc (.int .i64 a3)),.r] 1 (Y (rL rI) a4) (Y (rL rI) zr))(a1 a2:P U)(a3)(x1:U)(v5)(r9)(a0)(v6)(r18)(h14:(A3 ([]:P U).length a1.length 8)=T)(h15:(A3 a1.length ([r9]:P U).length 8)=T)(h16:(A3 ([]:P U).length a2.length 8)=T)(h17:(A3 a2.length ([v5]:P U).length 8)=T)(h18:rec_ a0 (a1++([r9]:P U)) (a2++([v5]:P U)) a3 v6=N r18):∀(f:W) (b0 b8:V) (b10 b13 b14:V),Ae Z B8 (B0 a1 a2 a3 x1 v5 r9 a0 r18) f [b0,T,T,T,T,T,L,L,b8,L,b10,L,L,b13,b14,L,L] (A9 a1 a2 a3 x1 v5 r9 a0 (vc (.own 90000)) (vc (.undef)) (vc (.own 3200)) (vc (.own 3200)) (vc (.own 3584)) (vc (.own 3584)) (vc (.own 3584)) (vc (.own 90000)) (vc (.own 90000)) b0 T T T T T L L b8 L b10 L L b13 b14 L [(5,[aL (Y X7.row a0.Points),aL (Y X2.row a0.Segments)])] [(90000,1,Y (rL rI) v6),(3200,1,Y rI a1),(3456,1,Y rI ([r9]:P U))]):=by
 intro f
 induction f with
 | zero=>intro b0 b8 b10 b13 b14 h; simp at h
 | succ f ih=>
  intro b0 b8 b10 b13 b14;refine Ai ⟨?_,?_,?_,?_,?_,?_,?_,?_,?_,?_,?_,?_,?_,?_,?_,?_,?_,⟨⟩⟩<;>try first | (intro h; cases h; done) | (intro _ hw; simp at hw; done) | (intro h0 hw; obtain rfl:=hz h0 rfl; refine np ?_; simp only[A9,A6,A7,A2,C,E,F,G,H,J]; exact ih _ _ _ _ _)
  ·intro h0 hw;refine⟨[],[(O,.keep [1,2,3,4,5,11,12,14,31,32,33,49,50,51,52,53,54,55,56,57,58,59,60,61,62,63,64,4] [5] [90000,3200,3456])],X,X,?_⟩;try simp only[h15,A9,A6,A7,zA,I,A2,C,E,F,G,H,J]
   exact A4z rec_ h_rec a1 a2 a3 x1 v5 r9 a0 v6 r18 h14 h15 h16 h17 h18 _ b0 b8 b10 b13 b14
  ·intro h0 hw;refine⟨[],[(O,.keep [1,2,3,4,5,11,12,14,31,32,33,49,50,51,52,53,54,55,56,57,58,59,60,61,62,63,64,4] [5] [90000,3200,3456,3584])],X,X,?_⟩;try simp only[A9,A6,A7,zA,I,A2,C,E,F,G,H,J]
   refine As (es:=Y rI ([]:P U)) X (by simp only[St.fresh,zB,zC,Aj]; simp[AV.cells,V1.cells,AC.uses]) ?_;try simp only[A2,C,E,F,G,H,J]
   exact Tt rec_ h_rec a1 a2 a3 x1 v5 r9 a0 v6 r18 h14 h15 h16 h17 h18 _ b0 b8 b10 b13 b14
  ·intro h0 hw;obtain rfl:=hq hw 10 rfl rfl;refine⟨[],[(O,.keep [1,2,3,4,5,11,12,14,31,32,33,49,50,51,52,53,54,55,56,57,58,59,60,61,62,63,64,4] [5] [90000,3200,3456,3840])],X,X,?_⟩;try simp only[A9,A6,A7,zA,I,A2,C,E,F,G,H,J]
   refine As (es:=Y rI ([v5]:P U)) X (by simp only[St.fresh,zB,zC,Aj]; simp[AV.cells,V1.cells,AC.uses]) ?_;try simp only[A2,C,E,F,G,H,J]
   exact Tu rec_ h_rec a1 a2 a3 x1 v5 r9 a0 v6 r18 h14 h15 h16 h17 h18 _ b0 b8 b13 b14
theorem ae(rec_:X1→(P U)→(P U)→U→(P (P U))→Q (P (P U)))(h_rec:∀(a0:X1) (a1 a2:P U) (a3:U) (a4:P (P U)) zr,rec_ a0 a1 a2 a3 a4=N zr→FCt Z 163 [.d (.ag (X1.row a0)),.d (.sc (.sl (Y rI a1))),.d (.sc (.sl (Y rI a2))),.d (.sc (.int .i64 a3)),.r] 1 (Y (rL rI) a4) (Y (rL rI) zr))(a1 a2:P U)(a3)(x1:U)(v5)(r9)(a0)(v6)(r18)(h14:(A3 ([]:P U).length a1.length 8)=T)(h15:(A3 a1.length ([r9]:P U).length 8)=T)(h16:(A3 ([]:P U).length a2.length 8)=T)(h17:(A3 a2.length ([v5]:P U).length 8)=T)(h18:rec_ a0 (a1++([r9]:P U)) (a2++([v5]:P U)) a3 v6=N r18):∀(f:W) (b0 b4:V) (b8 b10:V) (b13 b14:V),Ae Z B8 (B0 a1 a2 a3 x1 v5 r9 a0 r18) f [b0,T,T,T,b4,L,L,T,b8,L,b10,L,L,b13,b14,L,L] (A9 a1 a2 a3 x1 v5 r9 a0 (vc (.own 90000)) (vc (.undef)) (vc (.own 3200)) (vc (.own 3200)) (vc (.own 3584)) (vc (.own 3584)) (vc (.own 3584)) (vc (.own 90000)) (vc (.own 90000)) b0 T T T b4 L L T b8 L b10 L L b13 b14 L [(5,[aL (Y X7.row a0.Points),aL (Y X2.row a0.Segments)])] [(90000,1,Y (rL rI) v6),(3200,1,Y rI a1),(3584,1,Y rI ([]:P U))]):=by
 intro f
 induction f with
 | zero=>intro b0 b4 b8 b10 b13 b14 h; simp at h
 | succ f ih=>
  intro b0 b4 b8 b10 b13 b14;refine Ai ⟨?_,?_,?_,?_,?_,?_,?_,?_,?_,?_,?_,?_,?_,?_,?_,?_,?_,⟨⟩⟩<;>try first | (intro h; cases h; done) | (intro _ hw; simp at hw; done) | (intro h0 hw; obtain rfl:=hz h0 rfl; refine np ?_; simp only[A9,A6,A7,A2,C,E,F,G,H,J]; exact ih _ _ _ _ _ _)
  ·intro h0 hw;obtain rfl:=hq hw 4 rfl rfl;refine⟨[],[(O,.keep [1,2,3,4,5,11,12,14,31,32,33,49,50,51,52,53,54,55,56,57,58,59,60,61,62,63,64,4] [5] [90000,3200,3456,3584])],X,X,?_⟩;try simp only[A9,A6,A7,zA,I,A2,C,E,F,G,H,J]
   refine As (es:=Y rI ([r9]:P U)) X (by simp only[St.fresh,zB,zC,Aj]; simp[AV.cells,V1.cells,AC.uses]) ?_;try simp only[A2,C,E,F,G,H,J]
   exact Tt rec_ h_rec a1 a2 a3 x1 v5 r9 a0 v6 r18 h14 h15 h16 h17 h18 _ b0 b8 b10 b13 b14
  ·intro h0 hw;obtain rfl:=hq hw 10 rfl rfl;refine⟨[],[(O,.keep [1,2,3,4,5,11,12,14,31,32,33,49,50,51,52,53,54,55,56,57,58,59,60,61,62,63,64,4] [5] [90000,3200,3584,3840])],X,X,?_⟩;try simp only[A9,A6,A7,zA,I,A2,C,E,F,G,H,J]
   refine As (es:=Y rI ([v5]:P U)) X (by simp only[St.fresh,zB,zC,Aj]; simp[AV.cells,V1.cells,AC.uses]) ?_;try simp only[A2,C,E,F,G,H,J]
   exact Tv rec_ h_rec a1 a2 a3 x1 v5 r9 a0 v6 r18 h14 h15 h16 h17 h18 _ b0 b4 b8 b13 b14
theorem af(rec_:X1→(P U)→(P U)→U→(P (P U))→Q (P (P U)))(h_rec:∀(a0:X1) (a1 a2:P U) (a3:U) (a4:P (P U)) zr,rec_ a0 a1 a2 a3 a4=N zr→FCt Z 163 [.d (.ag (X1.row a0)),.d (.sc (.sl (Y rI a1))),.d (.sc (.sl (Y rI a2))),.d (.sc (.int .i64 a3)),.r] 1 (Y (rL rI) a4) (Y (rL rI) zr))(a1 a2:P U)(a3)(x1:U)(v5)(r9)(a0)(v6)(r18)(h14:(A3 ([]:P U).length a1.length 8)=T)(h15:(A3 a1.length ([r9]:P U).length 8)=T)(h16:(A3 ([]:P U).length a2.length 8)=T)(h17:(A3 a2.length ([v5]:P U).length 8)=T)(h18:rec_ a0 (a1++([r9]:P U)) (a2++([v5]:P U)) a3 v6=N r18):∀(f:W) (b0 b4:V) (b8 b13 b14:V),Ae Z B8 (B0 a1 a2 a3 x1 v5 r9 a0 r18) f [b0,T,T,T,b4,L,L,L,b8,L,T,T,L,b13,b14,L,L] (A9 a1 a2 a3 x1 v5 r9 a0 (vc (.own 90000)) (vc (.undef)) (vc (.own 3200)) (vc (.own 3200)) (vc (.own 3584)) (vc (.own 3584)) (vc (.own 3584)) (vc (.own 90000)) (vc (.own 90000)) b0 T T T b4 L L L b8 L T T L b13 b14 L [(5,[aL (Y X7.row a0.Points),aL (Y X2.row a0.Segments)])] [(90000,1,Y (rL rI) v6),(3200,1,Y rI a1),(3840,1,Y rI ([v5]:P U))]):=by
 intro f
 induction f with
 | zero=>intro b0 b4 b8 b13 b14 h; simp at h
 | succ f ih=>
  intro b0 b4 b8 b13 b14;refine Ai ⟨?_,?_,?_,?_,?_,?_,?_,?_,?_,?_,?_,?_,?_,?_,?_,?_,?_,⟨⟩⟩<;>try first | (intro h; cases h; done) | (intro _ hw; simp at hw; done) | (intro h0 hw; obtain rfl:=hz h0 rfl; refine np ?_; simp only[A9,A6,A7,A2,C,E,F,G,H,J]; exact ih _ _ _ _ _)
  ·intro h0 hw;obtain rfl:=hq hw 4 rfl rfl;refine⟨[],[(O,.keep [1,2,3,4,5,11,12,14,31,32,33,49,50,51,52,53,54,55,56,57,58,59,60,61,62,63,64,4] [5] [90000,3200,3456,3840])],X,X,?_⟩;try simp only[A9,A6,A7,zA,I,A2,C,E,F,G,H,J]
   refine As (es:=Y rI ([r9]:P U)) X (by simp only[St.fresh,zB,zC,Aj]; simp[AV.cells,V1.cells,AC.uses]) ?_;try simp only[A2,C,E,F,G,H,J]
   exact Tu rec_ h_rec a1 a2 a3 x1 v5 r9 a0 v6 r18 h14 h15 h16 h17 h18 _ b0 b8 b13 b14
  ·intro h0 hw;refine⟨[],[(O,.keep [1,2,3,4,5,11,12,14,31,32,33,49,50,51,52,53,54,55,56,57,58,59,60,61,62,63,64,4] [5] [90000,3200,3584,3840])],X,X,?_⟩;try simp only[A9,A6,A7,zA,I,A2,C,E,F,G,H,J]
   refine As (es:=Y rI ([]:P U)) X (by simp only[St.fresh,zB,zC,Aj]; simp[AV.cells,V1.cells,AC.uses]) ?_;try simp only[A2,C,E,F,G,H,J]
   exact Tv rec_ h_rec a1 a2 a3 x1 v5 r9 a0 v6 r18 h14 h15 h16 h17 h18 _ b0 b4 b8 b13 b14
theorem Tw(rec_:X1→(P U)→(P U)→U→(P (P U))→Q (P (P U)))(h_rec:∀(a0:X1) (a1 a2:P U) (a3:U) (a4:P (P U)) zr,rec_ a0 a1 a2 a3 a4=N zr→FCt Z 163 [.d (.ag (X1.row a0)),.d (.sc (.sl (Y rI a1))),.d (.sc (.sl (Y rI a2))),.d (.sc (.int .i64 a3)),.r] 1 (Y (rL rI) a4) (Y (rL rI) zr))(a1 a2:P U)(a3)(x1:U)(v5)(r9)(a0)(v6)(r18)(h14:(A3 ([]:P U).length a1.length 8)=T)(h15:(A3 a1.length ([r9]:P U).length 8)=T)(h16:(A3 ([]:P U).length a2.length 8)=T)(h17:(A3 a2.length ([v5]:P U).length 8)=T)(h18:rec_ a0 (a1++([r9]:P U)) (a2++([v5]:P U)) a3 v6=N r18):∀(f:W) (b0 b2:V) (b8 b10:V) (b13 b14:V),Ae Z B8 (B0 a1 a2 a3 x1 v5 r9 a0 r18) f [b0,T,b2,L,T,T,L,T,b8,L,b10,L,L,b13,b14,L,L] (A9 a1 a2 a3 x1 v5 r9 a0 (vc (.own 90000)) (vc (.own 3200)) (vc (.own 3200)) (vc (.own 3200)) (vc (.own 3584)) (vc (.own 3584)) (vc (.own 3584)) (vc (.own 90000)) (vc (.own 90000)) b0 T b2 L T T L T b8 L b10 L L b13 b14 L [(5,[aL (Y X7.row a0.Points),aL (Y X2.row a0.Segments)])] [(90000,1,Y (rL rI) v6),(3200,1,Y rI ([]:P U)),(3456,1,Y rI ([r9]:P U)),(3584,1,Y rI ([]:P U))]):=by
 intro f
 induction f with
 | zero=>intro b0 b2 b8 b10 b13 b14 h; simp at h
 | succ f ih=>
  intro b0 b2 b8 b10 b13 b14;refine Ai ⟨?_,?_,?_,?_,?_,?_,?_,?_,?_,?_,?_,?_,?_,?_,?_,?_,?_,⟨⟩⟩<;>try first | (intro h; cases h; done) | (intro _ hw; simp at hw; done) | (intro h0 hw; obtain rfl:=hz h0 rfl; refine np ?_; simp only[A9,A6,A7,A2,C,E,F,G,H,J]; exact ih _ _ _ _ _ _)
  ·intro h0 hw;obtain rfl:=hq hw 2 rfl rfl;refine⟨[],[(O,.keep [1,2,3,4,5,11,12,14,31,32,33,49,50,51,52,53,54,55,56,57,58,59,60,61,62,63,64,4] [5] [90000,3200,3456,3584])],X,X,?_⟩;try simp only[h14,A9,A6,A7,zA,I,A2,C,E,F,G,H,J]
   exact Tt rec_ h_rec a1 a2 a3 x1 v5 r9 a0 v6 r18 h14 h15 h16 h17 h18 _ b0 b8 b10 b13 b14
  ·intro h0 hw;obtain rfl:=hq hw 10 rfl rfl;refine⟨[],[(O,.keep [1,2,3,4,5,11,12,14,31,32,33,49,50,51,52,53,54,55,56,57,58,59,60,61,62,63,64,4] [5] [90000,3200,3456,3584,3840])],X,X,?_⟩;try simp only[A9,A6,A7,zA,I,A2,C,E,F,G,H,J]
   refine As (es:=Y rI ([v5]:P U)) X (by simp only[St.fresh,zB,zC,Aj]; simp[AV.cells,V1.cells,AC.uses]) ?_;try simp only[A2,C,E,F,G,H,J]
   exact QU rec_ h_rec a1 a2 a3 x1 v5 r9 a0 v6 r18 h14 h15 h16 h17 h18 _ b0 b2 b8 b13 b14
theorem Tx(rec_:X1→(P U)→(P U)→U→(P (P U))→Q (P (P U)))(h_rec:∀(a0:X1) (a1 a2:P U) (a3:U) (a4:P (P U)) zr,rec_ a0 a1 a2 a3 a4=N zr→FCt Z 163 [.d (.ag (X1.row a0)),.d (.sc (.sl (Y rI a1))),.d (.sc (.sl (Y rI a2))),.d (.sc (.int .i64 a3)),.r] 1 (Y (rL rI) a4) (Y (rL rI) zr))(a1 a2:P U)(a3)(x1:U)(v5)(r9)(a0)(v6)(r18)(h14:(A3 ([]:P U).length a1.length 8)=T)(h15:(A3 a1.length ([r9]:P U).length 8)=T)(h16:(A3 ([]:P U).length a2.length 8)=T)(h17:(A3 a2.length ([v5]:P U).length 8)=T)(h18:rec_ a0 (a1++([r9]:P U)) (a2++([v5]:P U)) a3 v6=N r18):∀(f:W) (b0 b2:V) (b8 b13 b14:V),Ae Z B8 (B0 a1 a2 a3 x1 v5 r9 a0 r18) f [b0,T,b2,L,T,T,L,L,b8,L,T,T,L,b13,b14,L,L] (A9 a1 a2 a3 x1 v5 r9 a0 (vc (.own 90000)) (vc (.own 3200)) (vc (.own 3200)) (vc (.own 3200)) (vc (.own 3584)) (vc (.own 3584)) (vc (.own 3584)) (vc (.own 90000)) (vc (.own 90000)) b0 T b2 L T T L L b8 L T T L b13 b14 L [(5,[aL (Y X7.row a0.Points),aL (Y X2.row a0.Segments)])] [(90000,1,Y (rL rI) v6),(3200,1,Y rI ([]:P U)),(3456,1,Y rI ([r9]:P U)),(3840,1,Y rI ([v5]:P U))]):=by
 intro f
 induction f with
 | zero=>intro b0 b2 b8 b13 b14 h; simp at h
 | succ f ih=>
  intro b0 b2 b8 b13 b14;refine Ai ⟨?_,?_,?_,?_,?_,?_,?_,?_,?_,?_,?_,?_,?_,?_,?_,?_,?_,⟨⟩⟩<;>try first | (intro h; cases h; done) | (intro _ hw; simp at hw; done) | (intro h0 hw; obtain rfl:=hz h0 rfl; refine np ?_; simp only[A9,A6,A7,A2,C,E,F,G,H,J]; exact ih _ _ _ _ _)
  ·intro h0 hw;obtain rfl:=hq hw 2 rfl rfl;refine⟨[],[(O,.keep [1,2,3,4,5,11,12,14,31,32,33,49,50,51,52,53,54,55,56,57,58,59,60,61,62,63,64,4] [5] [90000,3200,3456,3840])],X,X,?_⟩;try simp only[h14,A9,A6,A7,zA,I,A2,C,E,F,G,H,J]
   exact Tu rec_ h_rec a1 a2 a3 x1 v5 r9 a0 v6 r18 h14 h15 h16 h17 h18 _ b0 b8 b13 b14
  ·intro h0 hw;refine⟨[],[(O,.keep [1,2,3,4,5,11,12,14,31,32,33,49,50,51,52,53,54,55,56,57,58,59,60,61,62,63,64,4] [5] [90000,3200,3456,3584,3840])],X,X,?_⟩;try simp only[A9,A6,A7,zA,I,A2,C,E,F,G,H,J]
   refine As (es:=Y rI ([]:P U)) X (by simp only[St.fresh,zB,zC,Aj]; simp[AV.cells,V1.cells,AC.uses]) ?_;try simp only[A2,C,E,F,G,H,J]
   exact QU rec_ h_rec a1 a2 a3 x1 v5 r9 a0 v6 r18 h14 h15 h16 h17 h18 _ b0 b2 b8 b13 b14
theorem Ty(rec_:X1→(P U)→(P U)→U→(P (P U))→Q (P (P U)))(h_rec:∀(a0:X1) (a1 a2:P U) (a3:U) (a4:P (P U)) zr,rec_ a0 a1 a2 a3 a4=N zr→FCt Z 163 [.d (.ag (X1.row a0)),.d (.sc (.sl (Y rI a1))),.d (.sc (.sl (Y rI a2))),.d (.sc (.int .i64 a3)),.r] 1 (Y (rL rI) a4) (Y (rL rI) zr))(a1 a2:P U)(a3)(x1:U)(v5)(r9)(a0)(v6)(r18)(h14:(A3 ([]:P U).length a1.length 8)=T)(h15:(A3 a1.length ([r9]:P U).length 8)=T)(h16:(A3 ([]:P U).length a2.length 8)=T)(h17:(A3 a2.length ([v5]:P U).length 8)=T)(h18:rec_ a0 (a1++([r9]:P U)) (a2++([v5]:P U)) a3 v6=N r18):∀(f:W) (b0 b2:V) (b4 b8:V) (b13 b14:V),Ae Z B8 (B0 a1 a2 a3 x1 v5 r9 a0 r18) f [b0,T,b2,L,b4,L,L,T,b8,L,T,T,L,b13,b14,L,L] (A9 a1 a2 a3 x1 v5 r9 a0 (vc (.own 90000)) (vc (.own 3200)) (vc (.own 3200)) (vc (.own 3200)) (vc (.own 3584)) (vc (.own 3584)) (vc (.own 3584)) (vc (.own 90000)) (vc (.own 90000)) b0 T b2 L b4 L L T b8 L T T L b13 b14 L [(5,[aL (Y X7.row a0.Points),aL (Y X2.row a0.Segments)])] [(90000,1,Y (rL rI) v6),(3200,1,Y rI ([]:P U)),(3584,1,Y rI ([]:P U)),(3840,1,Y rI ([v5]:P U))]):=by
 intro f
 induction f with
 | zero=>intro b0 b2 b4 b8 b13 b14 h; simp at h
 | succ f ih=>
  intro b0 b2 b4 b8 b13 b14;refine Ai ⟨?_,?_,?_,?_,?_,?_,?_,?_,?_,?_,?_,?_,?_,?_,?_,?_,?_,⟨⟩⟩<;>try first | (intro h; cases h; done) | (intro _ hw; simp at hw; done) | (intro h0 hw; obtain rfl:=hz h0 rfl; refine np ?_; simp only[A9,A6,A7,A2,C,E,F,G,H,J]; exact ih _ _ _ _ _ _)
  ·intro h0 hw;obtain rfl:=hq hw 2 rfl rfl;refine⟨[],[(O,.keep [1,2,3,4,5,11,12,14,31,32,33,49,50,51,52,53,54,55,56,57,58,59,60,61,62,63,64,4] [5] [90000,3200,3584,3840])],X,X,?_⟩;try simp only[h14,A9,A6,A7,zA,I,A2,C,E,F,G,H,J]
   exact Tv rec_ h_rec a1 a2 a3 x1 v5 r9 a0 v6 r18 h14 h15 h16 h17 h18 _ b0 b4 b8 b13 b14
  ·intro h0 hw;obtain rfl:=hq hw 4 rfl rfl;refine⟨[],[(O,.keep [1,2,3,4,5,11,12,14,31,32,33,49,50,51,52,53,54,55,56,57,58,59,60,61,62,63,64,4] [5] [90000,3200,3456,3584,3840])],X,X,?_⟩;try simp only[A9,A6,A7,zA,I,A2,C,E,F,G,H,J]
   refine As (es:=Y rI ([r9]:P U)) X (by simp only[St.fresh,zB,zC,Aj]; simp[AV.cells,V1.cells,AC.uses]) ?_;try simp only[A2,C,E,F,G,H,J]
   exact QU rec_ h_rec a1 a2 a3 x1 v5 r9 a0 v6 r18 h14 h15 h16 h17 h18 _ b0 b2 b8 b13 b14
theorem Tz(rec_:X1→(P U)→(P U)→U→(P (P U))→Q (P (P U)))(h_rec:∀(a0:X1) (a1 a2:P U) (a3:U) (a4:P (P U)) zr,rec_ a0 a1 a2 a3 a4=N zr→FCt Z 163 [.d (.ag (X1.row a0)),.d (.sc (.sl (Y rI a1))),.d (.sc (.sl (Y rI a2))),.d (.sc (.int .i64 a3)),.r] 1 (Y (rL rI) a4) (Y (rL rI) zr))(a1 a2:P U)(a3)(x1:U)(v5)(r9)(a0)(v6)(r18)(h14:(A3 ([]:P U).length a1.length 8)=T)(h15:(A3 a1.length ([r9]:P U).length 8)=T)(h16:(A3 ([]:P U).length a2.length 8)=T)(h17:(A3 a2.length ([v5]:P U).length 8)=T)(h18:rec_ a0 (a1++([r9]:P U)) (a2++([v5]:P U)) a3 v6=N r18):∀(f:W) (b0 b2:V) (b8 b13 b14:V),Ae Z B8 (B0 a1 a2 a3 x1 v5 r9 a0 r18) f [b0,L,b2,L,T,T,L,T,b8,L,T,T,L,b13,b14,L,L] (A9 a1 a2 a3 x1 v5 r9 a0 (vc (.own 90000)) (vc (.own 3200)) (vc (.own 3200)) (vc (.own 3200)) (vc (.own 3584)) (vc (.own 3584)) (vc (.own 3584)) (vc (.own 90000)) (vc (.own 90000)) b0 L b2 L T T L T b8 L T T L b13 b14 L [(5,[aL (Y X7.row a0.Points),aL (Y X2.row a0.Segments)])] [(90000,1,Y (rL rI) v6),(3456,1,Y rI ([r9]:P U)),(3584,1,Y rI ([]:P U)),(3840,1,Y rI ([v5]:P U))]):=by
 intro f
 induction f with
 | zero=>intro b0 b2 b8 b13 b14 h; simp at h
 | succ f ih=>
  intro b0 b2 b8 b13 b14;refine Ai ⟨?_,?_,?_,?_,?_,?_,?_,?_,?_,?_,?_,?_,?_,?_,?_,?_,?_,⟨⟩⟩<;>try first | (intro h; cases h; done) | (intro _ hw; simp at hw; done) | (intro h0 hw; obtain rfl:=hz h0 rfl; refine np ?_; simp only[A9,A6,A7,A2,C,E,F,G,H,J]; exact ih _ _ _ _ _)
  ·intro h0 hw;refine⟨[],[(O,.keep [1,2,3,4,5,11,12,14,31,32,33,49,50,51,52,53,54,55,56,57,58,59,60,61,62,63,64,4] [5] [90000,3200,3456,3584,3840])],X,X,?_⟩;try simp only[A9,A6,A7,zA,I,A2,C,E,F,G,H,J]
   refine As (es:=Y rI ([]:P U)) X (by simp only[St.fresh,zB,zC,Aj]; simp[AV.cells,V1.cells,AC.uses]) ?_;try simp only[A2,C,E,F,G,H,J]
   exact QU rec_ h_rec a1 a2 a3 x1 v5 r9 a0 v6 r18 h14 h15 h16 h17 h18 _ b0 b2 b8 b13 b14
theorem A40(rec_:X1→(P U)→(P U)→U→(P (P U))→Q (P (P U)))(h_rec:∀(a0:X1) (a1 a2:P U) (a3:U) (a4:P (P U)) zr,rec_ a0 a1 a2 a3 a4=N zr→FCt Z 163 [.d (.ag (X1.row a0)),.d (.sc (.sl (Y rI a1))),.d (.sc (.sl (Y rI a2))),.d (.sc (.int .i64 a3)),.r] 1 (Y (rL rI) a4) (Y (rL rI) zr))(a1 a2:P U)(a3)(x1:U)(v5)(r9)(a0)(v6)(r18)(h14:(A3 ([]:P U).length a1.length 8)=T)(h15:(A3 a1.length ([r9]:P U).length 8)=T)(h16:(A3 ([]:P U).length a2.length 8)=T)(h17:(A3 a2.length ([v5]:P U).length 8)=T)(h18:rec_ a0 (a1++([r9]:P U)) (a2++([v5]:P U)) a3 v6=N r18):∀(f:W) (b0 b4:V) (b8 b10:V) (b13 b14:V),Ae Z B8 (B0 a1 a2 a3 x1 v5 r9 a0 r18) f [b0,T,T,T,b4,L,L,L,b8,L,b10,L,L,b13,b14,L,L] (A9 a1 a2 a3 x1 v5 r9 a0 (vc (.own 90000)) (vc (.undef)) (vc (.own 3200)) (vc (.own 3200)) (vc (.own 3584)) (vc (.own 3584)) (vc (.own 3584)) (vc (.own 90000)) (vc (.own 90000)) b0 T T T b4 L L L b8 L b10 L L b13 b14 L [(5,[aL (Y X7.row a0.Points),aL (Y X2.row a0.Segments)])] [(90000,1,Y (rL rI) v6),(3200,1,Y rI a1)]):=by
 intro f
 induction f with
 | zero=>intro b0 b4 b8 b10 b13 b14 h; simp at h
 | succ f ih=>
  intro b0 b4 b8 b10 b13 b14;refine Ai ⟨?_,?_,?_,?_,?_,?_,?_,?_,?_,?_,?_,?_,?_,?_,?_,?_,?_,⟨⟩⟩<;>try first | (intro h; cases h; done) | (intro _ hw; simp at hw; done) | (intro h0 hw; obtain rfl:=hz h0 rfl; refine np ?_; simp only[A9,A6,A7,A2,C,E,F,G,H,J]; exact ih _ _ _ _ _ _)
  ·intro h0 hw;obtain rfl:=hq hw 4 rfl rfl;refine⟨[],[(O,.keep [1,2,3,4,5,11,12,14,31,32,33,49,50,51,52,53,54,55,56,57,58,59,60,61,62,63,64,4] [5] [90000,3200,3456])],X,X,?_⟩;try simp only[A9,A6,A7,zA,I,A2,C,E,F,G,H,J]
   refine As (es:=Y rI ([r9]:P U)) X (by simp only[St.fresh,zB,zC,Aj]; simp[AV.cells,V1.cells,AC.uses]) ?_;try simp only[A2,C,E,F,G,H,J]
   exact ab rec_ h_rec a1 a2 a3 x1 v5 r9 a0 v6 r18 h14 h15 h16 h17 h18 _ b0 b8 b10 b13 b14
  ·intro h0 hw;refine⟨[],[(O,.keep [1,2,3,4,5,11,12,14,31,32,33,49,50,51,52,53,54,55,56,57,58,59,60,61,62,63,64,4] [5] [90000,3200,3584])],X,X,?_⟩;try simp only[A9,A6,A7,zA,I,A2,C,E,F,G,H,J]
   refine As (es:=Y rI ([]:P U)) X (by simp only[St.fresh,zB,zC,Aj]; simp[AV.cells,V1.cells,AC.uses]) ?_;try simp only[A2,C,E,F,G,H,J]
   exact ae rec_ h_rec a1 a2 a3 x1 v5 r9 a0 v6 r18 h14 h15 h16 h17 h18 _ b0 b4 b8 b10 b13 b14
  ·intro h0 hw;obtain rfl:=hq hw 10 rfl rfl;refine⟨[],[(O,.keep [1,2,3,4,5,11,12,14,31,32,33,49,50,51,52,53,54,55,56,57,58,59,60,61,62,63,64,4] [5] [90000,3200,3840])],X,X,?_⟩;try simp only[A9,A6,A7,zA,I,A2,C,E,F,G,H,J]
   refine As (es:=Y rI ([v5]:P U)) X (by simp only[St.fresh,zB,zC,Aj]; simp[AV.cells,V1.cells,AC.uses]) ?_;try simp only[A2,C,E,F,G,H,J]
   exact af rec_ h_rec a1 a2 a3 x1 v5 r9 a0 v6 r18 h14 h15 h16 h17 h18 _ b0 b4 b8 b13 b14
theorem ah(rec_:X1→(P U)→(P U)→U→(P (P U))→Q (P (P U)))(h_rec:∀(a0:X1) (a1 a2:P U) (a3:U) (a4:P (P U)) zr,rec_ a0 a1 a2 a3 a4=N zr→FCt Z 163 [.d (.ag (X1.row a0)),.d (.sc (.sl (Y rI a1))),.d (.sc (.sl (Y rI a2))),.d (.sc (.int .i64 a3)),.r] 1 (Y (rL rI) a4) (Y (rL rI) zr))(a1 a2:P U)(a3)(x1:U)(v5)(r9)(a0)(v6)(r18)(h14:(A3 ([]:P U).length a1.length 8)=T)(h15:(A3 a1.length ([r9]:P U).length 8)=T)(h16:(A3 ([]:P U).length a2.length 8)=T)(h17:(A3 a2.length ([v5]:P U).length 8)=T)(h18:rec_ a0 (a1++([r9]:P U)) (a2++([v5]:P U)) a3 v6=N r18):∀(f:W) (b0 b2:V) (b8 b10:V) (b13 b14:V),Ae Z B8 (B0 a1 a2 a3 x1 v5 r9 a0 r18) f [b0,T,b2,L,T,T,L,L,b8,L,b10,L,L,b13,b14,L,L] (A9 a1 a2 a3 x1 v5 r9 a0 (vc (.own 90000)) (vc (.own 3200)) (vc (.own 3200)) (vc (.own 3200)) (vc (.own 3584)) (vc (.own 3584)) (vc (.own 3584)) (vc (.own 90000)) (vc (.own 90000)) b0 T b2 L T T L L b8 L b10 L L b13 b14 L [(5,[aL (Y X7.row a0.Points),aL (Y X2.row a0.Segments)])] [(90000,1,Y (rL rI) v6),(3200,1,Y rI ([]:P U)),(3456,1,Y rI ([r9]:P U))]):=by
 intro f
 induction f with
 | zero=>intro b0 b2 b8 b10 b13 b14 h; simp at h
 | succ f ih=>
  intro b0 b2 b8 b10 b13 b14;refine Ai ⟨?_,?_,?_,?_,?_,?_,?_,?_,?_,?_,?_,?_,?_,?_,?_,?_,?_,⟨⟩⟩<;>try first | (intro h; cases h; done) | (intro _ hw; simp at hw; done) | (intro h0 hw; obtain rfl:=hz h0 rfl; refine np ?_; simp only[A9,A6,A7,A2,C,E,F,G,H,J]; exact ih _ _ _ _ _ _)
  ·intro h0 hw;obtain rfl:=hq hw 2 rfl rfl;refine⟨[],[(O,.keep [1,2,3,4,5,11,12,14,31,32,33,49,50,51,52,53,54,55,56,57,58,59,60,61,62,63,64,4] [5] [90000,3200,3456])],X,X,?_⟩;try simp only[h14,A9,A6,A7,zA,I,A2,C,E,F,G,H,J]
   exact ab rec_ h_rec a1 a2 a3 x1 v5 r9 a0 v6 r18 h14 h15 h16 h17 h18 _ b0 b8 b10 b13 b14
  ·intro h0 hw;refine⟨[],[(O,.keep [1,2,3,4,5,11,12,14,31,32,33,49,50,51,52,53,54,55,56,57,58,59,60,61,62,63,64,4] [5] [90000,3200,3456,3584])],X,X,?_⟩;try simp only[A9,A6,A7,zA,I,A2,C,E,F,G,H,J]
   refine As (es:=Y rI ([]:P U)) X (by simp only[St.fresh,zB,zC,Aj]; simp[AV.cells,V1.cells,AC.uses]) ?_;try simp only[A2,C,E,F,G,H,J]
   exact Tw rec_ h_rec a1 a2 a3 x1 v5 r9 a0 v6 r18 h14 h15 h16 h17 h18 _ b0 b2 b8 b10 b13 b14
  ·intro h0 hw;obtain rfl:=hq hw 10 rfl rfl;refine⟨[],[(O,.keep [1,2,3,4,5,11,12,14,31,32,33,49,50,51,52,53,54,55,56,57,58,59,60,61,62,63,64,4] [5] [90000,3200,3456,3840])],X,X,?_⟩;try simp only[A9,A6,A7,zA,I,A2,C,E,F,G,H,J]
   refine As (es:=Y rI ([v5]:P U)) X (by simp only[St.fresh,zB,zC,Aj]; simp[AV.cells,V1.cells,AC.uses]) ?_;try simp only[A2,C,E,F,G,H,J]
   exact Tx rec_ h_rec a1 a2 a3 x1 v5 r9 a0 v6 r18 h14 h15 h16 h17 h18 _ b0 b2 b8 b13 b14
theorem aj(rec_:X1→(P U)→(P U)→U→(P (P U))→Q (P (P U)))(h_rec:∀(a0:X1) (a1 a2:P U) (a3:U) (a4:P (P U)) zr,rec_ a0 a1 a2 a3 a4=N zr→FCt Z 163 [.d (.ag (X1.row a0)),.d (.sc (.sl (Y rI a1))),.d (.sc (.sl (Y rI a2))),.d (.sc (.int .i64 a3)),.r] 1 (Y (rL rI) a4) (Y (rL rI) zr))(a1 a2:P U)(a3)(x1:U)(v5)(r9)(a0)(v6)(r18)(h14:(A3 ([]:P U).length a1.length 8)=T)(h15:(A3 a1.length ([r9]:P U).length 8)=T)(h16:(A3 ([]:P U).length a2.length 8)=T)(h17:(A3 a2.length ([v5]:P U).length 8)=T)(h18:rec_ a0 (a1++([r9]:P U)) (a2++([v5]:P U)) a3 v6=N r18):∀(f:W) (b0 b2:V) (b4 b8:V) (b10 b13 b14:V),Ae Z B8 (B0 a1 a2 a3 x1 v5 r9 a0 r18) f [b0,T,b2,L,b4,L,L,T,b8,L,b10,L,L,b13,b14,L,L] (A9 a1 a2 a3 x1 v5 r9 a0 (vc (.own 90000)) (vc (.own 3200)) (vc (.own 3200)) (vc (.own 3200)) (vc (.own 3584)) (vc (.own 3584)) (vc (.own 3584)) (vc (.own 90000)) (vc (.own 90000)) b0 T b2 L b4 L L T b8 L b10 L L b13 b14 L [(5,[aL (Y X7.row a0.Points),aL (Y X2.row a0.Segments)])] [(90000,1,Y (rL rI) v6),(3200,1,Y rI ([]:P U)),(3584,1,Y rI ([]:P U))]):=by
 intro f
 induction f with
 | zero=>intro b0 b2 b4 b8 b10 b13 b14 h; simp at h
 | succ f ih=>
  intro b0 b2 b4 b8 b10 b13 b14;refine Ai ⟨?_,?_,?_,?_,?_,?_,?_,?_,?_,?_,?_,?_,?_,?_,?_,?_,?_,⟨⟩⟩<;>try first | (intro h; cases h; done) | (intro _ hw; simp at hw; done) | (intro h0 hw; obtain rfl:=hz h0 rfl; refine np ?_; simp only[A9,A6,A7,A2,C,E,F,G,H,J]; exact ih _ _ _ _ _ _ _)
  ·intro h0 hw;obtain rfl:=hq hw 2 rfl rfl;refine⟨[],[(O,.keep [1,2,3,4,5,11,12,14,31,32,33,49,50,51,52,53,54,55,56,57,58,59,60,61,62,63,64,4] [5] [90000,3200,3584])],X,X,?_⟩;try simp only[h14,A9,A6,A7,zA,I,A2,C,E,F,G,H,J]
   exact ae rec_ h_rec a1 a2 a3 x1 v5 r9 a0 v6 r18 h14 h15 h16 h17 h18 _ b0 b4 b8 b10 b13 b14
  ·intro h0 hw;obtain rfl:=hq hw 4 rfl rfl;refine⟨[],[(O,.keep [1,2,3,4,5,11,12,14,31,32,33,49,50,51,52,53,54,55,56,57,58,59,60,61,62,63,64,4] [5] [90000,3200,3456,3584])],X,X,?_⟩;try simp only[A9,A6,A7,zA,I,A2,C,E,F,G,H,J]
   refine As (es:=Y rI ([r9]:P U)) X (by simp only[St.fresh,zB,zC,Aj]; simp[AV.cells,V1.cells,AC.uses]) ?_;try simp only[A2,C,E,F,G,H,J]
   exact Tw rec_ h_rec a1 a2 a3 x1 v5 r9 a0 v6 r18 h14 h15 h16 h17 h18 _ b0 b2 b8 b10 b13 b14
  ·intro h0 hw;obtain rfl:=hq hw 10 rfl rfl;refine⟨[],[(O,.keep [1,2,3,4,5,11,12,14,31,32,33,49,50,51,52,53,54,55,56,57,58,59,60,61,62,63,64,4] [5] [90000,3200,3584,3840])],X,X,?_⟩;try simp only[A9,A6,A7,zA,I,A2,C,E,F,G,H,J]
   refine As (es:=Y rI ([v5]:P U)) X (by simp only[St.fresh,zB,zC,Aj]; simp[AV.cells,V1.cells,AC.uses]) ?_;try simp only[A2,C,E,F,G,H,J]
   exact Ty rec_ h_rec a1 a2 a3 x1 v5 r9 a0 v6 r18 h14 h15 h16 h17 h18 _ b0 b2 b4 b8 b13 b14
theorem ak(rec_:X1→(P U)→(P U)→U→(P (P U))→Q (P (P U)))(h_rec:∀(a0:X1) (a1 a2:P U) (a3:U) (a4:P (P U)) zr,rec_ a0 a1 a2 a3 a4=N zr→FCt Z 163 [.d (.ag (X1.row a0)),.d (.sc (.sl (Y rI a1))),.d (.sc (.sl (Y rI a2))),.d (.sc (.int .i64 a3)),.r] 1 (Y (rL rI) a4) (Y (rL rI) zr))(a1 a2:P U)(a3)(x1:U)(v5)(r9)(a0)(v6)(r18)(h14:(A3 ([]:P U).length a1.length 8)=T)(h15:(A3 a1.length ([r9]:P U).length 8)=T)(h16:(A3 ([]:P U).length a2.length 8)=T)(h17:(A3 a2.length ([v5]:P U).length 8)=T)(h18:rec_ a0 (a1++([r9]:P U)) (a2++([v5]:P U)) a3 v6=N r18):∀(f:W) (b0 b2:V) (b4 b8:V) (b13 b14:V),Ae Z B8 (B0 a1 a2 a3 x1 v5 r9 a0 r18) f [b0,T,b2,L,b4,L,L,L,b8,L,T,T,L,b13,b14,L,L] (A9 a1 a2 a3 x1 v5 r9 a0 (vc (.own 90000)) (vc (.own 3200)) (vc (.own 3200)) (vc (.own 3200)) (vc (.own 3584)) (vc (.own 3584)) (vc (.own 3584)) (vc (.own 90000)) (vc (.own 90000)) b0 T b2 L b4 L L L b8 L T T L b13 b14 L [(5,[aL (Y X7.row a0.Points),aL (Y X2.row a0.Segments)])] [(90000,1,Y (rL rI) v6),(3200,1,Y rI ([]:P U)),(3840,1,Y rI ([v5]:P U))]):=by
 intro f
 induction f with
 | zero=>intro b0 b2 b4 b8 b13 b14 h; simp at h
 | succ f ih=>
  intro b0 b2 b4 b8 b13 b14;refine Ai ⟨?_,?_,?_,?_,?_,?_,?_,?_,?_,?_,?_,?_,?_,?_,?_,?_,?_,⟨⟩⟩<;>try first | (intro h; cases h; done) | (intro _ hw; simp at hw; done) | (intro h0 hw; obtain rfl:=hz h0 rfl; refine np ?_; simp only[A9,A6,A7,A2,C,E,F,G,H,J]; exact ih _ _ _ _ _ _)
  ·intro h0 hw;obtain rfl:=hq hw 2 rfl rfl;refine⟨[],[(O,.keep [1,2,3,4,5,11,12,14,31,32,33,49,50,51,52,53,54,55,56,57,58,59,60,61,62,63,64,4] [5] [90000,3200,3840])],X,X,?_⟩;try simp only[h14,A9,A6,A7,zA,I,A2,C,E,F,G,H,J]
   exact af rec_ h_rec a1 a2 a3 x1 v5 r9 a0 v6 r18 h14 h15 h16 h17 h18 _ b0 b4 b8 b13 b14
  ·intro h0 hw;obtain rfl:=hq hw 4 rfl rfl;refine⟨[],[(O,.keep [1,2,3,4,5,11,12,14,31,32,33,49,50,51,52,53,54,55,56,57,58,59,60,61,62,63,64,4] [5] [90000,3200,3456,3840])],X,X,?_⟩;try simp only[A9,A6,A7,zA,I,A2,C,E,F,G,H,J]
   refine As (es:=Y rI ([r9]:P U)) X (by simp only[St.fresh,zB,zC,Aj]; simp[AV.cells,V1.cells,AC.uses]) ?_;try simp only[A2,C,E,F,G,H,J]
   exact Tx rec_ h_rec a1 a2 a3 x1 v5 r9 a0 v6 r18 h14 h15 h16 h17 h18 _ b0 b2 b8 b13 b14
  ·intro h0 hw;refine⟨[],[(O,.keep [1,2,3,4,5,11,12,14,31,32,33,49,50,51,52,53,54,55,56,57,58,59,60,61,62,63,64,4] [5] [90000,3200,3584,3840])],X,X,?_⟩;try simp only[A9,A6,A7,zA,I,A2,C,E,F,G,H,J]
   refine As (es:=Y rI ([]:P U)) X (by simp only[St.fresh,zB,zC,Aj]; simp[AV.cells,V1.cells,AC.uses]) ?_;try simp only[A2,C,E,F,G,H,J]
   exact Ty rec_ h_rec a1 a2 a3 x1 v5 r9 a0 v6 r18 h14 h15 h16 h17 h18 _ b0 b2 b4 b8 b13 b14
theorem al(rec_:X1→(P U)→(P U)→U→(P (P U))→Q (P (P U)))(h_rec:∀(a0:X1) (a1 a2:P U) (a3:U) (a4:P (P U)) zr,rec_ a0 a1 a2 a3 a4=N zr→FCt Z 163 [.d (.ag (X1.row a0)),.d (.sc (.sl (Y rI a1))),.d (.sc (.sl (Y rI a2))),.d (.sc (.int .i64 a3)),.r] 1 (Y (rL rI) a4) (Y (rL rI) zr))(a1 a2:P U)(a3)(x1:U)(v5)(r9)(a0)(v6)(r18)(h14:(A3 ([]:P U).length a1.length 8)=T)(h15:(A3 a1.length ([r9]:P U).length 8)=T)(h16:(A3 ([]:P U).length a2.length 8)=T)(h17:(A3 a2.length ([v5]:P U).length 8)=T)(h18:rec_ a0 (a1++([r9]:P U)) (a2++([v5]:P U)) a3 v6=N r18):∀(f:W) (b0 b2:V) (b8 b10:V) (b13 b14:V),Ae Z B8 (B0 a1 a2 a3 x1 v5 r9 a0 r18) f [b0,L,b2,L,T,T,L,T,b8,L,b10,L,L,b13,b14,L,L] (A9 a1 a2 a3 x1 v5 r9 a0 (vc (.own 90000)) (vc (.own 3200)) (vc (.own 3200)) (vc (.own 3200)) (vc (.own 3584)) (vc (.own 3584)) (vc (.own 3584)) (vc (.own 90000)) (vc (.own 90000)) b0 L b2 L T T L T b8 L b10 L L b13 b14 L [(5,[aL (Y X7.row a0.Points),aL (Y X2.row a0.Segments)])] [(90000,1,Y (rL rI) v6),(3456,1,Y rI ([r9]:P U)),(3584,1,Y rI ([]:P U))]):=by
 intro f
 induction f with
 | zero=>intro b0 b2 b8 b10 b13 b14 h; simp at h
 | succ f ih=>
  intro b0 b2 b8 b10 b13 b14;refine Ai ⟨?_,?_,?_,?_,?_,?_,?_,?_,?_,?_,?_,?_,?_,?_,?_,?_,?_,⟨⟩⟩<;>try first | (intro h; cases h; done) | (intro _ hw; simp at hw; done) | (intro h0 hw; obtain rfl:=hz h0 rfl; refine np ?_; simp only[A9,A6,A7,A2,C,E,F,G,H,J]; exact ih _ _ _ _ _ _)
  ·intro h0 hw;refine⟨[],[(O,.keep [1,2,3,4,5,11,12,14,31,32,33,49,50,51,52,53,54,55,56,57,58,59,60,61,62,63,64,4] [5] [90000,3200,3456,3584])],X,X,?_⟩;try simp only[A9,A6,A7,zA,I,A2,C,E,F,G,H,J]
   refine As (es:=Y rI ([]:P U)) X (by simp only[St.fresh,zB,zC,Aj]; simp[AV.cells,V1.cells,AC.uses]) ?_;try simp only[A2,C,E,F,G,H,J]
   exact Tw rec_ h_rec a1 a2 a3 x1 v5 r9 a0 v6 r18 h14 h15 h16 h17 h18 _ b0 b2 b8 b10 b13 b14
  ·intro h0 hw;obtain rfl:=hq hw 10 rfl rfl;refine⟨[],[(O,.keep [1,2,3,4,5,11,12,14,31,32,33,49,50,51,52,53,54,55,56,57,58,59,60,61,62,63,64,4] [5] [90000,3456,3584,3840])],X,X,?_⟩;try simp only[A9,A6,A7,zA,I,A2,C,E,F,G,H,J]
   refine As (es:=Y rI ([v5]:P U)) X (by simp only[St.fresh,zB,zC,Aj]; simp[AV.cells,V1.cells,AC.uses]) ?_;try simp only[A2,C,E,F,G,H,J]
   exact Tz rec_ h_rec a1 a2 a3 x1 v5 r9 a0 v6 r18 h14 h15 h16 h17 h18 _ b0 b2 b8 b13 b14
theorem am(rec_:X1→(P U)→(P U)→U→(P (P U))→Q (P (P U)))(h_rec:∀(a0:X1) (a1 a2:P U) (a3:U) (a4:P (P U)) zr,rec_ a0 a1 a2 a3 a4=N zr→FCt Z 163 [.d (.ag (X1.row a0)),.d (.sc (.sl (Y rI a1))),.d (.sc (.sl (Y rI a2))),.d (.sc (.int .i64 a3)),.r] 1 (Y (rL rI) a4) (Y (rL rI) zr))(a1 a2:P U)(a3)(x1:U)(v5)(r9)(a0)(v6)(r18)(h14:(A3 ([]:P U).length a1.length 8)=T)(h15:(A3 a1.length ([r9]:P U).length 8)=T)(h16:(A3 ([]:P U).length a2.length 8)=T)(h17:(A3 a2.length ([v5]:P U).length 8)=T)(h18:rec_ a0 (a1++([r9]:P U)) (a2++([v5]:P U)) a3 v6=N r18):∀(f:W) (b0 b2:V) (b8 b13 b14:V),Ae Z B8 (B0 a1 a2 a3 x1 v5 r9 a0 r18) f [b0,L,b2,L,T,T,L,L,b8,L,T,T,L,b13,b14,L,L] (A9 a1 a2 a3 x1 v5 r9 a0 (vc (.own 90000)) (vc (.own 3200)) (vc (.own 3200)) (vc (.own 3200)) (vc (.own 3584)) (vc (.own 3584)) (vc (.own 3584)) (vc (.own 90000)) (vc (.own 90000)) b0 L b2 L T T L L b8 L T T L b13 b14 L [(5,[aL (Y X7.row a0.Points),aL (Y X2.row a0.Segments)])] [(90000,1,Y (rL rI) v6),(3456,1,Y rI ([r9]:P U)),(3840,1,Y rI ([v5]:P U))]):=by
 intro f
 induction f with
 | zero=>intro b0 b2 b8 b13 b14 h; simp at h
 | succ f ih=>
  intro b0 b2 b8 b13 b14;refine Ai ⟨?_,?_,?_,?_,?_,?_,?_,?_,?_,?_,?_,?_,?_,?_,?_,?_,?_,⟨⟩⟩<;>try first | (intro h; cases h; done) | (intro _ hw; simp at hw; done) | (intro h0 hw; obtain rfl:=hz h0 rfl; refine np ?_; simp only[A9,A6,A7,A2,C,E,F,G,H,J]; exact ih _ _ _ _ _)
  ·intro h0 hw;refine⟨[],[(O,.keep [1,2,3,4,5,11,12,14,31,32,33,49,50,51,52,53,54,55,56,57,58,59,60,61,62,63,64,4] [5] [90000,3200,3456,3840])],X,X,?_⟩;try simp only[A9,A6,A7,zA,I,A2,C,E,F,G,H,J]
   refine As (es:=Y rI ([]:P U)) X (by simp only[St.fresh,zB,zC,Aj]; simp[AV.cells,V1.cells,AC.uses]) ?_;try simp only[A2,C,E,F,G,H,J]
   exact Tx rec_ h_rec a1 a2 a3 x1 v5 r9 a0 v6 r18 h14 h15 h16 h17 h18 _ b0 b2 b8 b13 b14
  ·intro h0 hw;refine⟨[],[(O,.keep [1,2,3,4,5,11,12,14,31,32,33,49,50,51,52,53,54,55,56,57,58,59,60,61,62,63,64,4] [5] [90000,3456,3584,3840])],X,X,?_⟩;try simp only[A9,A6,A7,zA,I,A2,C,E,F,G,H,J]
   refine As (es:=Y rI ([]:P U)) X (by simp only[St.fresh,zB,zC,Aj]; simp[AV.cells,V1.cells,AC.uses]) ?_;try simp only[A2,C,E,F,G,H,J]
   exact Tz rec_ h_rec a1 a2 a3 x1 v5 r9 a0 v6 r18 h14 h15 h16 h17 h18 _ b0 b2 b8 b13 b14
theorem aq(rec_:X1→(P U)→(P U)→U→(P (P U))→Q (P (P U)))(h_rec:∀(a0:X1) (a1 a2:P U) (a3:U) (a4:P (P U)) zr,rec_ a0 a1 a2 a3 a4=N zr→FCt Z 163 [.d (.ag (X1.row a0)),.d (.sc (.sl (Y rI a1))),.d (.sc (.sl (Y rI a2))),.d (.sc (.int .i64 a3)),.r] 1 (Y (rL rI) a4) (Y (rL rI) zr))(a1 a2:P U)(a3)(x1:U)(v5)(r9)(a0)(v6)(r18)(h14:(A3 ([]:P U).length a1.length 8)=T)(h15:(A3 a1.length ([r9]:P U).length 8)=T)(h16:(A3 ([]:P U).length a2.length 8)=T)(h17:(A3 a2.length ([v5]:P U).length 8)=T)(h18:rec_ a0 (a1++([r9]:P U)) (a2++([v5]:P U)) a3 v6=N r18):∀(f:W) (b0 b2:V) (b4 b8:V) (b13 b14:V),Ae Z B8 (B0 a1 a2 a3 x1 v5 r9 a0 r18) f [b0,L,b2,L,b4,L,L,T,b8,L,T,T,L,b13,b14,L,L] (A9 a1 a2 a3 x1 v5 r9 a0 (vc (.own 90000)) (vc (.own 3200)) (vc (.own 3200)) (vc (.own 3200)) (vc (.own 3584)) (vc (.own 3584)) (vc (.own 3584)) (vc (.own 90000)) (vc (.own 90000)) b0 L b2 L b4 L L T b8 L T T L b13 b14 L [(5,[aL (Y X7.row a0.Points),aL (Y X2.row a0.Segments)])] [(90000,1,Y (rL rI) v6),(3584,1,Y rI ([]:P U)),(3840,1,Y rI ([v5]:P U))]):=by
 intro f
 induction f with
 | zero=>intro b0 b2 b4 b8 b13 b14 h; simp at h
 | succ f ih=>
  intro b0 b2 b4 b8 b13 b14;refine Ai ⟨?_,?_,?_,?_,?_,?_,?_,?_,?_,?_,?_,?_,?_,?_,?_,?_,?_,⟨⟩⟩<;>try first | (intro h; cases h; done) | (intro _ hw; simp at hw; done) | (intro h0 hw; obtain rfl:=hz h0 rfl; refine np ?_; simp only[A9,A6,A7,A2,C,E,F,G,H,J]; exact ih _ _ _ _ _ _)
  ·intro h0 hw;refine⟨[],[(O,.keep [1,2,3,4,5,11,12,14,31,32,33,49,50,51,52,53,54,55,56,57,58,59,60,61,62,63,64,4] [5] [90000,3200,3584,3840])],X,X,?_⟩;try simp only[A9,A6,A7,zA,I,A2,C,E,F,G,H,J]
   refine As (es:=Y rI ([]:P U)) X (by simp only[St.fresh,zB,zC,Aj]; simp[AV.cells,V1.cells,AC.uses]) ?_;try simp only[A2,C,E,F,G,H,J]
   exact Ty rec_ h_rec a1 a2 a3 x1 v5 r9 a0 v6 r18 h14 h15 h16 h17 h18 _ b0 b2 b4 b8 b13 b14
  ·intro h0 hw;obtain rfl:=hq hw 4 rfl rfl;refine⟨[],[(O,.keep [1,2,3,4,5,11,12,14,31,32,33,49,50,51,52,53,54,55,56,57,58,59,60,61,62,63,64,4] [5] [90000,3456,3584,3840])],X,X,?_⟩;try simp only[A9,A6,A7,zA,I,A2,C,E,F,G,H,J]
   refine As (es:=Y rI ([r9]:P U)) X (by simp only[St.fresh,zB,zC,Aj]; simp[AV.cells,V1.cells,AC.uses]) ?_;try simp only[A2,C,E,F,G,H,J]
   exact Tz rec_ h_rec a1 a2 a3 x1 v5 r9 a0 v6 r18 h14 h15 h16 h17 h18 _ b0 b2 b8 b13 b14
theorem A42(rec_:X1→(P U)→(P U)→U→(P (P U))→Q (P (P U)))(h_rec:∀(a0:X1) (a1 a2:P U) (a3:U) (a4:P (P U)) zr,rec_ a0 a1 a2 a3 a4=N zr→FCt Z 163 [.d (.ag (X1.row a0)),.d (.sc (.sl (Y rI a1))),.d (.sc (.sl (Y rI a2))),.d (.sc (.int .i64 a3)),.r] 1 (Y (rL rI) a4) (Y (rL rI) zr))(a1 a2:P U)(a3)(x1:U)(v5)(r9)(a0)(v6)(r18)(h14:(A3 ([]:P U).length a1.length 8)=T)(h15:(A3 a1.length ([r9]:P U).length 8)=T)(h16:(A3 ([]:P U).length a2.length 8)=T)(h17:(A3 a2.length ([v5]:P U).length 8)=T)(h18:rec_ a0 (a1++([r9]:P U)) (a2++([v5]:P U)) a3 v6=N r18):∀(f:W) (b0 b2:V) (b4 b8:V) (b10 b13 b14:V),Ae Z B8 (B0 a1 a2 a3 x1 v5 r9 a0 r18) f [b0,T,b2,L,b4,L,L,L,b8,L,b10,L,L,b13,b14,L,L] (A9 a1 a2 a3 x1 v5 r9 a0 (vc (.own 90000)) (vc (.own 3200)) (vc (.own 3200)) (vc (.own 3200)) (vc (.own 3584)) (vc (.own 3584)) (vc (.own 3584)) (vc (.own 90000)) (vc (.own 90000)) b0 T b2 L b4 L L L b8 L b10 L L b13 b14 L [(5,[aL (Y X7.row a0.Points),aL (Y X2.row a0.Segments)])] [(90000,1,Y (rL rI) v6),(3200,1,Y rI ([]:P U))]):=by
 intro f
 induction f with
 | zero=>intro b0 b2 b4 b8 b10 b13 b14 h; simp at h
 | succ f ih=>
  intro b0 b2 b4 b8 b10 b13 b14;refine Ai ⟨?_,?_,?_,?_,?_,?_,?_,?_,?_,?_,?_,?_,?_,?_,?_,?_,?_,⟨⟩⟩<;>try first | (intro h; cases h; done) | (intro _ hw; simp at hw; done) | (intro h0 hw; obtain rfl:=hz h0 rfl; refine np ?_; simp only[A9,A6,A7,A2,C,E,F,G,H,J]; exact ih _ _ _ _ _ _ _)
  ·intro h0 hw;obtain rfl:=hq hw 2 rfl rfl;refine⟨[],[(O,.keep [1,2,3,4,5,11,12,14,31,32,33,49,50,51,52,53,54,55,56,57,58,59,60,61,62,63,64,4] [5] [90000,3200])],X,X,?_⟩;try simp only[h14,A9,A6,A7,zA,I,A2,C,E,F,G,H,J]
   exact A40 rec_ h_rec a1 a2 a3 x1 v5 r9 a0 v6 r18 h14 h15 h16 h17 h18 _ b0 b4 b8 b10 b13 b14
  ·intro h0 hw;obtain rfl:=hq hw 4 rfl rfl;refine⟨[],[(O,.keep [1,2,3,4,5,11,12,14,31,32,33,49,50,51,52,53,54,55,56,57,58,59,60,61,62,63,64,4] [5] [90000,3200,3456])],X,X,?_⟩;try simp only[A9,A6,A7,zA,I,A2,C,E,F,G,H,J]
   refine As (es:=Y rI ([r9]:P U)) X (by simp only[St.fresh,zB,zC,Aj]; simp[AV.cells,V1.cells,AC.uses]) ?_;try simp only[A2,C,E,F,G,H,J]
   exact ah rec_ h_rec a1 a2 a3 x1 v5 r9 a0 v6 r18 h14 h15 h16 h17 h18 _ b0 b2 b8 b10 b13 b14
  ·intro h0 hw;refine⟨[],[(O,.keep [1,2,3,4,5,11,12,14,31,32,33,49,50,51,52,53,54,55,56,57,58,59,60,61,62,63,64,4] [5] [90000,3200,3584])],X,X,?_⟩;try simp only[A9,A6,A7,zA,I,A2,C,E,F,G,H,J]
   refine As (es:=Y rI ([]:P U)) X (by simp only[St.fresh,zB,zC,Aj]; simp[AV.cells,V1.cells,AC.uses]) ?_;try simp only[A2,C,E,F,G,H,J]
   exact aj rec_ h_rec a1 a2 a3 x1 v5 r9 a0 v6 r18 h14 h15 h16 h17 h18 _ b0 b2 b4 b8 b10 b13 b14
  ·intro h0 hw;obtain rfl:=hq hw 10 rfl rfl;refine⟨[],[(O,.keep [1,2,3,4,5,11,12,14,31,32,33,49,50,51,52,53,54,55,56,57,58,59,60,61,62,63,64,4] [5] [90000,3200,3840])],X,X,?_⟩;try simp only[A9,A6,A7,zA,I,A2,C,E,F,G,H,J]
   refine As (es:=Y rI ([v5]:P U)) X (by simp only[St.fresh,zB,zC,Aj]; simp[AV.cells,V1.cells,AC.uses]) ?_;try simp only[A2,C,E,F,G,H,J]
   exact ak rec_ h_rec a1 a2 a3 x1 v5 r9 a0 v6 r18 h14 h15 h16 h17 h18 _ b0 b2 b4 b8 b13 b14
theorem A43(rec_:X1→(P U)→(P U)→U→(P (P U))→Q (P (P U)))(h_rec:∀(a0:X1) (a1 a2:P U) (a3:U) (a4:P (P U)) zr,rec_ a0 a1 a2 a3 a4=N zr→FCt Z 163 [.d (.ag (X1.row a0)),.d (.sc (.sl (Y rI a1))),.d (.sc (.sl (Y rI a2))),.d (.sc (.int .i64 a3)),.r] 1 (Y (rL rI) a4) (Y (rL rI) zr))(a1 a2:P U)(a3)(x1:U)(v5)(r9)(a0)(v6)(r18)(h14:(A3 ([]:P U).length a1.length 8)=T)(h15:(A3 a1.length ([r9]:P U).length 8)=T)(h16:(A3 ([]:P U).length a2.length 8)=T)(h17:(A3 a2.length ([v5]:P U).length 8)=T)(h18:rec_ a0 (a1++([r9]:P U)) (a2++([v5]:P U)) a3 v6=N r18):∀(f:W) (b0 b2:V) (b8 b10:V) (b13 b14:V),Ae Z B8 (B0 a1 a2 a3 x1 v5 r9 a0 r18) f [b0,L,b2,L,T,T,L,L,b8,L,b10,L,L,b13,b14,L,L] (A9 a1 a2 a3 x1 v5 r9 a0 (vc (.own 90000)) (vc (.own 3200)) (vc (.own 3200)) (vc (.own 3200)) (vc (.own 3584)) (vc (.own 3584)) (vc (.own 3584)) (vc (.own 90000)) (vc (.own 90000)) b0 L b2 L T T L L b8 L b10 L L b13 b14 L [(5,[aL (Y X7.row a0.Points),aL (Y X2.row a0.Segments)])] [(90000,1,Y (rL rI) v6),(3456,1,Y rI ([r9]:P U))]):=by
 intro f
 induction f with
 | zero=>intro b0 b2 b8 b10 b13 b14 h; simp at h
 | succ f ih=>
  intro b0 b2 b8 b10 b13 b14;refine Ai ⟨?_,?_,?_,?_,?_,?_,?_,?_,?_,?_,?_,?_,?_,?_,?_,?_,?_,⟨⟩⟩<;>try first | (intro h; cases h; done) | (intro _ hw; simp at hw; done) | (intro h0 hw; obtain rfl:=hz h0 rfl; refine np ?_; simp only[A9,A6,A7,A2,C,E,F,G,H,J]; exact ih _ _ _ _ _ _)
  ·intro h0 hw;refine⟨[],[(O,.keep [1,2,3,4,5,11,12,14,31,32,33,49,50,51,52,53,54,55,56,57,58,59,60,61,62,63,64,4] [5] [90000,3200,3456])],X,X,?_⟩;try simp only[A9,A6,A7,zA,I,A2,C,E,F,G,H,J]
   refine As (es:=Y rI ([]:P U)) X (by simp only[St.fresh,zB,zC,Aj]; simp[AV.cells,V1.cells,AC.uses]) ?_;try simp only[A2,C,E,F,G,H,J]
   exact ah rec_ h_rec a1 a2 a3 x1 v5 r9 a0 v6 r18 h14 h15 h16 h17 h18 _ b0 b2 b8 b10 b13 b14
  ·intro h0 hw;refine⟨[],[(O,.keep [1,2,3,4,5,11,12,14,31,32,33,49,50,51,52,53,54,55,56,57,58,59,60,61,62,63,64,4] [5] [90000,3456,3584])],X,X,?_⟩;try simp only[A9,A6,A7,zA,I,A2,C,E,F,G,H,J]
   refine As (es:=Y rI ([]:P U)) X (by simp only[St.fresh,zB,zC,Aj]; simp[AV.cells,V1.cells,AC.uses]) ?_;try simp only[A2,C,E,F,G,H,J]
   exact al rec_ h_rec a1 a2 a3 x1 v5 r9 a0 v6 r18 h14 h15 h16 h17 h18 _ b0 b2 b8 b10 b13 b14
  ·intro h0 hw;obtain rfl:=hq hw 10 rfl rfl;refine⟨[],[(O,.keep [1,2,3,4,5,11,12,14,31,32,33,49,50,51,52,53,54,55,56,57,58,59,60,61,62,63,64,4] [5] [90000,3456,3840])],X,X,?_⟩;try simp only[A9,A6,A7,zA,I,A2,C,E,F,G,H,J]
   refine As (es:=Y rI ([v5]:P U)) X (by simp only[St.fresh,zB,zC,Aj]; simp[AV.cells,V1.cells,AC.uses]) ?_;try simp only[A2,C,E,F,G,H,J]
   exact am rec_ h_rec a1 a2 a3 x1 v5 r9 a0 v6 r18 h14 h15 h16 h17 h18 _ b0 b2 b8 b13 b14
theorem A44(rec_:X1→(P U)→(P U)→U→(P (P U))→Q (P (P U)))(h_rec:∀(a0:X1) (a1 a2:P U) (a3:U) (a4:P (P U)) zr,rec_ a0 a1 a2 a3 a4=N zr→FCt Z 163 [.d (.ag (X1.row a0)),.d (.sc (.sl (Y rI a1))),.d (.sc (.sl (Y rI a2))),.d (.sc (.int .i64 a3)),.r] 1 (Y (rL rI) a4) (Y (rL rI) zr))(a1 a2:P U)(a3)(x1:U)(v5)(r9)(a0)(v6)(r18)(h14:(A3 ([]:P U).length a1.length 8)=T)(h15:(A3 a1.length ([r9]:P U).length 8)=T)(h16:(A3 ([]:P U).length a2.length 8)=T)(h17:(A3 a2.length ([v5]:P U).length 8)=T)(h18:rec_ a0 (a1++([r9]:P U)) (a2++([v5]:P U)) a3 v6=N r18):∀(f:W) (b0 b2:V) (b4 b8:V) (b10 b13 b14:V),Ae Z B8 (B0 a1 a2 a3 x1 v5 r9 a0 r18) f [b0,L,b2,L,b4,L,L,T,b8,L,b10,L,L,b13,b14,L,L] (A9 a1 a2 a3 x1 v5 r9 a0 (vc (.own 90000)) (vc (.own 3200)) (vc (.own 3200)) (vc (.own 3200)) (vc (.own 3584)) (vc (.own 3584)) (vc (.own 3584)) (vc (.own 90000)) (vc (.own 90000)) b0 L b2 L b4 L L T b8 L b10 L L b13 b14 L [(5,[aL (Y X7.row a0.Points),aL (Y X2.row a0.Segments)])] [(90000,1,Y (rL rI) v6),(3584,1,Y rI ([]:P U))]):=by
 intro f
 induction f with
 | zero=>intro b0 b2 b4 b8 b10 b13 b14 h; simp at h
 | succ f ih=>
  intro b0 b2 b4 b8 b10 b13 b14;refine Ai ⟨?_,?_,?_,?_,?_,?_,?_,?_,?_,?_,?_,?_,?_,?_,?_,?_,?_,⟨⟩⟩<;>try first | (intro h; cases h; done) | (intro _ hw; simp at hw; done) | (intro h0 hw; obtain rfl:=hz h0 rfl; refine np ?_; simp only[A9,A6,A7,A2,C,E,F,G,H,J]; exact ih _ _ _ _ _ _ _)
  ·intro h0 hw;refine⟨[],[(O,.keep [1,2,3,4,5,11,12,14,31,32,33,49,50,51,52,53,54,55,56,57,58,59,60,61,62,63,64,4] [5] [90000,3200,3584])],X,X,?_⟩;try simp only[A9,A6,A7,zA,I,A2,C,E,F,G,H,J]
   refine As (es:=Y rI ([]:P U)) X (by simp only[St.fresh,zB,zC,Aj]; simp[AV.cells,V1.cells,AC.uses]) ?_;try simp only[A2,C,E,F,G,H,J]
   exact aj rec_ h_rec a1 a2 a3 x1 v5 r9 a0 v6 r18 h14 h15 h16 h17 h18 _ b0 b2 b4 b8 b10 b13 b14
  ·intro h0 hw;obtain rfl:=hq hw 4 rfl rfl;refine⟨[],[(O,.keep [1,2,3,4,5,11,12,14,31,32,33,49,50,51,52,53,54,55,56,57,58,59,60,61,62,63,64,4] [5] [90000,3456,3584])],X,X,?_⟩;try simp only[A9,A6,A7,zA,I,A2,C,E,F,G,H,J]
   refine As (es:=Y rI ([r9]:P U)) X (by simp only[St.fresh,zB,zC,Aj]; simp[AV.cells,V1.cells,AC.uses]) ?_;try simp only[A2,C,E,F,G,H,J]
   exact al rec_ h_rec a1 a2 a3 x1 v5 r9 a0 v6 r18 h14 h15 h16 h17 h18 _ b0 b2 b8 b10 b13 b14
  ·intro h0 hw;obtain rfl:=hq hw 10 rfl rfl;refine⟨[],[(O,.keep [1,2,3,4,5,11,12,14,31,32,33,49,50,51,52,53,54,55,56,57,58,59,60,61,62,63,64,4] [5] [90000,3584,3840])],X,X,?_⟩;try simp only[A9,A6,A7,zA,I,A2,C,E,F,G,H,J]
   refine As (es:=Y rI ([v5]:P U)) X (by simp only[St.fresh,zB,zC,Aj]; simp[AV.cells,V1.cells,AC.uses]) ?_;try simp only[A2,C,E,F,G,H,J]
   exact aq rec_ h_rec a1 a2 a3 x1 v5 r9 a0 v6 r18 h14 h15 h16 h17 h18 _ b0 b2 b4 b8 b13 b14
theorem A45(rec_:X1→(P U)→(P U)→U→(P (P U))→Q (P (P U)))(h_rec:∀(a0:X1) (a1 a2:P U) (a3:U) (a4:P (P U)) zr,rec_ a0 a1 a2 a3 a4=N zr→FCt Z 163 [.d (.ag (X1.row a0)),.d (.sc (.sl (Y rI a1))),.d (.sc (.sl (Y rI a2))),.d (.sc (.int .i64 a3)),.r] 1 (Y (rL rI) a4) (Y (rL rI) zr))(a1 a2:P U)(a3)(x1:U)(v5)(r9)(a0)(v6)(r18)(h14:(A3 ([]:P U).length a1.length 8)=T)(h15:(A3 a1.length ([r9]:P U).length 8)=T)(h16:(A3 ([]:P U).length a2.length 8)=T)(h17:(A3 a2.length ([v5]:P U).length 8)=T)(h18:rec_ a0 (a1++([r9]:P U)) (a2++([v5]:P U)) a3 v6=N r18):∀(f:W) (b0 b2:V) (b4 b8:V) (b13 b14:V),Ae Z B8 (B0 a1 a2 a3 x1 v5 r9 a0 r18) f [b0,L,b2,L,b4,L,L,L,b8,L,T,T,L,b13,b14,L,L] (A9 a1 a2 a3 x1 v5 r9 a0 (vc (.own 90000)) (vc (.own 3200)) (vc (.own 3200)) (vc (.own 3200)) (vc (.own 3584)) (vc (.own 3584)) (vc (.own 3584)) (vc (.own 90000)) (vc (.own 90000)) b0 L b2 L b4 L L L b8 L T T L b13 b14 L [(5,[aL (Y X7.row a0.Points),aL (Y X2.row a0.Segments)])] [(90000,1,Y (rL rI) v6),(3840,1,Y rI ([v5]:P U))]):=by
 intro f
 induction f with
 | zero=>intro b0 b2 b4 b8 b13 b14 h; simp at h
 | succ f ih=>
  intro b0 b2 b4 b8 b13 b14;refine Ai ⟨?_,?_,?_,?_,?_,?_,?_,?_,?_,?_,?_,?_,?_,?_,?_,?_,?_,⟨⟩⟩<;>try first | (intro h; cases h; done) | (intro _ hw; simp at hw; done) | (intro h0 hw; obtain rfl:=hz h0 rfl; refine np ?_; simp only[A9,A6,A7,A2,C,E,F,G,H,J]; exact ih _ _ _ _ _ _)
  ·intro h0 hw;refine⟨[],[(O,.keep [1,2,3,4,5,11,12,14,31,32,33,49,50,51,52,53,54,55,56,57,58,59,60,61,62,63,64,4] [5] [90000,3200,3840])],X,X,?_⟩;try simp only[A9,A6,A7,zA,I,A2,C,E,F,G,H,J]
   refine As (es:=Y rI ([]:P U)) X (by simp only[St.fresh,zB,zC,Aj]; simp[AV.cells,V1.cells,AC.uses]) ?_;try simp only[A2,C,E,F,G,H,J]
   exact ak rec_ h_rec a1 a2 a3 x1 v5 r9 a0 v6 r18 h14 h15 h16 h17 h18 _ b0 b2 b4 b8 b13 b14
  ·intro h0 hw;obtain rfl:=hq hw 4 rfl rfl;refine⟨[],[(O,.keep [1,2,3,4,5,11,12,14,31,32,33,49,50,51,52,53,54,55,56,57,58,59,60,61,62,63,64,4] [5] [90000,3456,3840])],X,X,?_⟩;try simp only[A9,A6,A7,zA,I,A2,C,E,F,G,H,J]
   refine As (es:=Y rI ([r9]:P U)) X (by simp only[St.fresh,zB,zC,Aj]; simp[AV.cells,V1.cells,AC.uses]) ?_;try simp only[A2,C,E,F,G,H,J]
   exact am rec_ h_rec a1 a2 a3 x1 v5 r9 a0 v6 r18 h14 h15 h16 h17 h18 _ b0 b2 b8 b13 b14
  ·intro h0 hw;refine⟨[],[(O,.keep [1,2,3,4,5,11,12,14,31,32,33,49,50,51,52,53,54,55,56,57,58,59,60,61,62,63,64,4] [5] [90000,3584,3840])],X,X,?_⟩;try simp only[A9,A6,A7,zA,I,A2,C,E,F,G,H,J]
   refine As (es:=Y rI ([]:P U)) X (by simp only[St.fresh,zB,zC,Aj]; simp[AV.cells,V1.cells,AC.uses]) ?_;try simp only[A2,C,E,F,G,H,J]
   exact aq rec_ h_rec a1 a2 a3 x1 v5 r9 a0 v6 r18 h14 h15 h16 h17 h18 _ b0 b2 b4 b8 b13 b14
theorem A46(rec_:X1→(P U)→(P U)→U→(P (P U))→Q (P (P U)))(h_rec:∀(a0:X1) (a1 a2:P U) (a3:U) (a4:P (P U)) zr,rec_ a0 a1 a2 a3 a4=N zr→FCt Z 163 [.d (.ag (X1.row a0)),.d (.sc (.sl (Y rI a1))),.d (.sc (.sl (Y rI a2))),.d (.sc (.int .i64 a3)),.r] 1 (Y (rL rI) a4) (Y (rL rI) zr))(a1 a2:P U)(a3)(x1:U)(v5)(r9)(a0)(v6)(r18)(h14:(A3 ([]:P U).length a1.length 8)=T)(h15:(A3 a1.length ([r9]:P U).length 8)=T)(h16:(A3 ([]:P U).length a2.length 8)=T)(h17:(A3 a2.length ([v5]:P U).length 8)=T)(h18:rec_ a0 (a1++([r9]:P U)) (a2++([v5]:P U)) a3 v6=N r18):∀(f:W) (b0 b2:V) (b4 b8:V) (b10 b13 b14:V),Ae Z B8 (B0 a1 a2 a3 x1 v5 r9 a0 r18) f [b0,L,b2,L,b4,L,L,L,b8,L,b10,L,L,b13,b14,L,L] (A9 a1 a2 a3 x1 v5 r9 a0 (vc (.own 90000)) (vc (.own 3200)) (vc (.own 3200)) (vc (.own 3200)) (vc (.own 3584)) (vc (.own 3584)) (vc (.own 3584)) (vc (.own 90000)) (.undef) b0 L b2 L b4 L L L b8 L b10 L L b13 b14 L [(5,[aL (Y X7.row a0.Points),aL (Y X2.row a0.Segments)])] [(90000,1,Y (rL rI) v6)]):=by
 intro f
 induction f with
 | zero=>intro b0 b2 b4 b8 b10 b13 b14 h; simp at h
 | succ f ih=>
  intro b0 b2 b4 b8 b10 b13 b14;refine Ai ⟨?_,?_,?_,?_,?_,?_,?_,?_,?_,?_,?_,?_,?_,?_,?_,?_,?_,⟨⟩⟩<;>try first | (intro _ hw; simp at hw; done) | (intro h0 hw; obtain rfl:=hz h0 rfl; refine np ?_; simp only[A9,A6,A7,A2,C,E,F,G,H,J]; exact ih _ _ _ _ _ _ _)
  ·intro h0 hw;refine⟨[],[(O,.keep [1,2,3,4,5,11,12,14,31,32,33,49,50,51,52,53,54,55,56,57,58,59,60,61,62,63,64,4] [5] [90000,3200])],X,X,?_⟩;try simp only[A9,A6,A7,zA,I,A2,C,E,F,G,H,J]
   refine As (es:=Y rI ([]:P U)) X (by simp only[St.fresh,zB,zC,Aj]; simp[AV.cells,V1.cells,AC.uses]) ?_;try simp only[A2,C,E,F,G,H,J]
   exact A42 rec_ h_rec a1 a2 a3 x1 v5 r9 a0 v6 r18 h14 h15 h16 h17 h18 _ b0 b2 b4 b8 b10 b13 b14
  ·intro h0 hw;obtain rfl:=hq hw 4 rfl rfl;refine⟨[],[(O,.keep [1,2,3,4,5,11,12,14,31,32,33,49,50,51,52,53,54,55,56,57,58,59,60,61,62,63,64,4] [5] [90000,3456])],X,X,?_⟩;try simp only[A9,A6,A7,zA,I,A2,C,E,F,G,H,J]
   refine As (es:=Y rI ([r9]:P U)) X (by simp only[St.fresh,zB,zC,Aj]; simp[AV.cells,V1.cells,AC.uses]) ?_;try simp only[A2,C,E,F,G,H,J]
   exact A43 rec_ h_rec a1 a2 a3 x1 v5 r9 a0 v6 r18 h14 h15 h16 h17 h18 _ b0 b2 b8 b10 b13 b14
  ·intro h0 hw;refine⟨[],[(O,.keep [1,2,3,4,5,11,12,14,31,32,33,49,50,51,52,53,54,55,56,57,58,59,60,61,62,63,64,4] [5] [90000,3584])],X,X,?_⟩;try simp only[A9,A6,A7,zA,I,A2,C,E,F,G,H,J]
   refine As (es:=Y rI ([]:P U)) X (by simp only[St.fresh,zB,zC,Aj]; simp[AV.cells,V1.cells,AC.uses]) ?_;try simp only[A2,C,E,F,G,H,J]
   exact A44 rec_ h_rec a1 a2 a3 x1 v5 r9 a0 v6 r18 h14 h15 h16 h17 h18 _ b0 b2 b4 b8 b10 b13 b14
  ·intro h0 hw;obtain rfl:=hq hw 10 rfl rfl;refine⟨[],[(O,.keep [1,2,3,4,5,11,12,14,31,32,33,49,50,51,52,53,54,55,56,57,58,59,60,61,62,63,64,4] [5] [90000,3840])],X,X,?_⟩;try simp only[A9,A6,A7,zA,I,A2,C,E,F,G,H,J]
   refine As (es:=Y rI ([v5]:P U)) X (by simp only[St.fresh,zB,zC,Aj]; simp[AV.cells,V1.cells,AC.uses]) ?_;try simp only[A2,C,E,F,G,H,J]
   exact A45 rec_ h_rec a1 a2 a3 x1 v5 r9 a0 v6 r18 h14 h15 h16 h17 h18 _ b0 b2 b4 b8 b13 b14
def du:=fun a1 a2 a3 x1 v5 r9 (a0:X1) v6 (k_:V→Q (P (P U)))=>∀{v12} {zr},k_ v12=N zr→Kh Z 163 Q8 31 [1,2,3,4,5,11,12,14,31,32,33,48] [5] [90000] ⟨[pL 1 rI a1,pL 2 rI a2,pI 3 a3,pW 4 90000,pB 5,pI 11 x1,pI 12 v5,pI 14 r9,pL 31 X2.row a0.Segments,pI 32 (a0.Segments.length:U),pI 33 v5,(48,vc (aB v12))],[(5,[aM X7.row a0.Points,aM X2.row a0.Segments])],[(90000,1,Y (rL rI) v6)]⟩ (OW [10] 1 (Y (rL rI) zr))
def TY:=fun a1 a2 a3 x1 (a0:X1) (k_:U→(P (P U))→Q (P (P U)))=>∀{v5 v6} {zr},k_ v5 v6=N zr→Kh Z 163 Q8 16 [1,2,3,4,5,11,31,32,33] [5] [90000] ⟨[pL 1 rI a1,pL 2 rI a2,pI 3 a3,pW 4 90000,pB 5,pI 11 x1,pL 31 X2.row a0.Segments,pI 32 (a0.Segments.length:U),pI 33 v5],[(5,[aM X7.row a0.Points,aM X2.row a0.Segments])],[(90000,1,Y (rL rI) v6)]⟩ (OW [10] 1 (Y (rL rI) zr))
theorem ar{rec_:X1→(P U)→(P U)→U→(P (P U))→Q (P (P U))}(h_rec:∀(a0:X1) (a1 a2:P U) (a3:U) (a4:P (P U)) zr,rec_ a0 a1 a2 a3 a4=N zr→FCt Z 163 [.d (.ag (X1.row a0)),.d (.sc (.sl (Y rI a1))),.d (.sc (.sl (Y rI a2))),.d (.sc (.int .i64 a3)),.r] 1 (Y (rL rI) a4) (Y (rL rI) zr)){a1 a2 a3 x1 v5 r9 a0 v6}{O5}(WF:TY a1 a2 a3 x1 a0 O5):du a1 a2 a3 x1 v5 r9 a0 v6 (IH rec_ a1 a2 a3 x1 v5 r9 a0 v6 O5):=by
 intro v12 r h σ hσ S hS
 conv at hS=>rhs; reduce
 try simp only[zH,zF] at hS
 subst hS;refine Ax ?_;unfold IH at h;obtain⟨h13,h⟩|⟨h13,h⟩:=ic h
 ·try simp only[hσ,h13,C,E,F,G,H,J]
  obtain⟨h14,h⟩:=AU h;obtain⟨h15,h⟩:=AU h;obtain⟨h16,h⟩:=AU h;obtain⟨h17,h⟩:=AU h;obtain⟨r18,h18,h⟩:=ob h;refine Ez (ks:= [1,2,3,4,5,11,12,14,31,32,33]) (bs:= [5]) (rs:= [90000]) (τ:=(B0 a1 a2 a3 x1 v5 r9 a0 r18)) X (A46 rec_ h_rec a1 a2 a3 x1 v5 r9 a0 v6 r18 h14 h15 h16 h17 h18 _ L L L L L L L) ?_;simp only[B0,A9,A6];try simp only[h13,h14,h15,h16,h17,C,E,F,G,H,J]
  refine WF h ?_ (by kernel_rfl);try simp only[h13,h14,h15,h16,h17,C,E,F,G,H,J,pL,aM,zD]
 ·try simp only[hσ,h13,C,E,F,G,H,J]
  refine WF h ?_ (by kernel_rfl);try simp only[h13,C,E,F,G,H,J,pL,aM,zD]
theorem A47{rec_:X1→(P U)→(P U)→U→(P (P U))→Q (P (P U))}(h_rec:∀(a0:X1) (a1 a2:P U) (a3:U) (a4:P (P U)) zr,rec_ a0 a1 a2 a3 a4=N zr→FCt Z 163 [.d (.ag (X1.row a0)),.d (.sc (.sl (Y rI a1))),.d (.sc (.sl (Y rI a2))),.d (.sc (.int .i64 a3)),.r] 1 (Y (rL rI) a4) (Y (rL rI) zr)){a1 a2 a3 x1 a0}{n:W}:TY a1 a2 a3 x1 a0 (GE rec_ a1 a2 a3 x1 a0 n):=by
 induction n with
 | zero=>intro _ _ r h; cases h
 | succ n ih=>
  intro v5 v6 r h σ hσ S hS
  conv at hS=>rhs; reduce
  try simp only[zH,zF] at hS
  subst hS;rw[GE] at h;refine AL (Ax ?_);obtain⟨h7,h⟩|⟨h7,h⟩:=ic h
  ·obtain⟨x8,h8,h⟩:=ob h -- X2;try simp only[hσ,h7,h8,C,E,F,G,H,J]
   refine Bx ?_;obtain⟨r9,h9,h⟩:=ob h;try simp only[h7,h8,C,E,F,G,H,J]
   refine AI (Ac ZW h9) ?_;obtain⟨h10,h⟩|⟨h10,h⟩:=ic h
   ·obtain⟨r11,h11,h⟩:=ob h -- V;try simp only[h7,h8,h10,C,E,F,G,H,J]
    refine AI (Ac ZV h11) ?_;try simp only[h7,h8,h10,C,E,F,G,H,J]
    refine ar h_rec ih h ?_ (by kernel_rfl);try simp only[h7,h8,h10,C,E,F,G,H,J,pL,aM,zD]
   ·try simp only[h7,h8,h10,C,E,F,G,H,J]
    refine ar h_rec ih h ?_ (by kernel_rfl);try simp only[h7,h8,h10,C,E,F,G,H,J,pL,aM,zD]
  ·try simp only[hσ,h7,C,E,F,G,H,J]
   cases h;trivial
theorem kr:B3 Z 163=N ((BX Z 163 Q8).strip,[10],67):=by kernel_rfl
theorem yh(rec_:X1→(P U)→(P U)→U→(P (P U))→Q (P (P U)))(a0:X1)(a1 a2:P U)(a3:U)(a4:P (P U))(r:(P (P U)))(h_rec:∀(a0:X1) (a1 a2:P U) (a3:U) (a4:P (P U)) zr,rec_ a0 a1 a2 a3 a4=N zr→FCt Z 163 [.d (.ag (X1.row a0)),.d (.sc (.sl (Y rI a1))),.d (.sc (.sl (Y rI a2))),.d (.sc (.int .i64 a3)),.r] 1 (Y (rL rI) a4) (Y (rL rI) zr))(h:PM rec_ a0 a1 a2 a3 a4=N r):FCt Z 163 [.d (.ag (X1.row a0)),.d (.sc (.sl (Y rI a1))),.d (.sc (.sl (Y rI a2))),.d (.sc (.int .i64 a3)),.r] 1 (Y (rL rI) a4) (Y (rL rI) r):=by
 unfold PM at h;refine bK (σ:=⟨[(0,va [aL (Y X7.row a0.Points),aL (Y X2.row a0.Segments)]),(1,vc (aL (Y rI a1))),(2,vc (aL (Y rI a2))),(3,vc (aI a3)),(4,vc (.own 90000))],[],[(90000,1,Y (rL rI) a4)]⟩) A4 kr X X ?_;refine C8 Q8 ?_;have s0:= @AB (Y rI ([]:P U));have s1:= @AB (Y (rL rI) ([a2]:P (P U)));have k0:= @A47;exact gc
theorem yi:∀(n:W) (a0:X1) (a1:P U) (a2:P U) (a3:U) (a4:P (P U)) (r:(P (P U))),GF n a0 a1 a2 a3 a4=N r→FCt Z 163 [.d (.ag (X1.row a0)),.d (.sc (.sl (Y rI a1))),.d (.sc (.sl (Y rI a2))),.d (.sc (.int .i64 a3)),.r] 1 (Y (rL rI) a4) (Y (rL rI) r):=by
 intro n
 induction n with
 | zero=>intro _ _ _ _ _ r h; cases h
 | succ n ih=>intro a0 a1 a2 a3 a4 r h; rw[GF] at h; exact yh (GF n) a0 a1 a2 a3 a4 r ih h
theorem yg{a0}{a1}{a2}{a3}{a4}{r}(h:RI a0 a1 a2 a3 a4=N r):FCt Z 163 [.d (.ag (X1.row a0)),.d (.sc (.sl (Y rI a1))),.d (.sc (.sl (Y rI a2))),.d (.sc (.int .i64 a3)),.r] 1 (Y (rL rI) a4) (Y (rL rI) r):=yi bigN a0 a1 a2 a3 a4 r h
/- 128:spec_RoutesBetween -/
def oY:Hw:=([],[(11,5,(O,.frz 1920))])
instance A97:Ct 128 (∀{a0} {a1} {a2} {r},Nj a0 a1 a2=N r→FC Z 128 [.ag (X1.row a0),.sc (.int .i64 a1),.sc (.int .i64 a2)] [.sc (.o 1 (Y (rL rI) r))]):=by
 refine⟨fun{a0} {a1} {a2} {r} h=> ?_⟩;unfold Nj at h;refine A5 A4 oY [6] 34 ?_;intro S hS
 conv at hS=>rhs; reduce
 try simp only[zH,zF] at hS
 subst hS;simp only[C,E,F,G,H,J];try simp only[C,E,F,G,H,J]
 refine Bj ?_;obtain⟨r1,h1,h⟩:=ob h;try simp only[C,E,F,G,H,J]
 refine AI (Ac xz h1) ?_;obtain⟨h2,h⟩|⟨h2,h⟩:=ic h
 ·obtain⟨r3,h3,h⟩:=ob h -- V;try simp only[h2,C,E,F,G,H,J]
  refine AI (Ac QR h3) ?_;obtain⟨h4,h⟩|⟨h4,h⟩:=ic h
  ·obtain⟨r5,h5,h⟩:=ob h -- V;try simp only[h2,h4,C,E,F,G,H,J]
   refine AI (Ac QR h5) ?_;obtain⟨h6,h⟩|⟨h6,h⟩:=ic h
   ·try simp only[h2,h4,h6,C,E,F,G,H,J]
    refine B6 (es:=Y rI ([a1]:P U)) ?_;try simp only[h2,h4,h6,C,E,F,G,H,J]
    refine B6 (es:=Y (rL rI) ([]:P (P U))) ?_;try simp only[h2,h4,h6,C,E,F,G,H,J]
    refine Cp ?_;obtain⟨r7,h7,h⟩:=ob h;try simp only[h2,h4,h6,C,E,F,G,H,J]
    refine Vm (yg h7) 2048 X X X X X ?_;rw[Us];try simp only[h2,h4,h6,C,E,F,G,H,J]
    cases h;exact t0
   ·try simp only[h2,h4,h6,C,E,F,G,H,J]
    cases h;exact t0
  ·try simp only[h2,h4,C,E,F,G,H,J]
   cases h;exact t0
 ·try simp only[h2,C,E,F,G,H,J]
  cases h;exact t0
/- 129:spec_RouteMinutes -/
def Wv:Hw:=([(16,[2,5,11,12,13],[2],[])],[])
def de:=fun a1 (a0:X1) (k_:U→U→Q U)=>∀{v3 v4} {zr},k_ v3 v4=N zr→Kh Z 129 Wv 16 [2,5,11,12,13] [2] [] ⟨[pB 2,pI 5 v3,pL 11 rI a1,pI 12 (a1.length:U),pI 13 v4],[(2,[aM X7.row a0.Points,aM X2.row a0.Segments])],[]⟩ (A8 [4] [.sc (.v (.int .i64 zr))])
theorem A48{a1 a0}{n:W}:de a1 a0 (IA a1 a0 n):=by
 induction n with
 | zero=>intro _ _ r h; cases h
 | succ n ih=>
  intro v3 v4 r h σ hσ;rw[IA] at h;exact gc
instance ZU:Ct 129 (∀{a0} {a1} {r},GA a0 a1=N r→FC Z 129 [.ag (X1.row a0),.sc (.sl (Y rI a1))] [.sc (.v (.int .i64 r))]):=by
 refine⟨fun{a0} {a1} {r} h=> ?_⟩;unfold GA at h;refine A5 A4 Wv [4] 34 ?_;have k0:= @A48;exact gc
/- 86:spec_BestRoute -/
def Sh:Hw:=([(10,[3,8,9,16,17,18],[3],[1024]),(23,[3,8,9,11,16,17,18,32],[3],[1024])],[(3,1,(O,.frz 768))])
def dE:=fun v2 x6 r1 v4 (a0:X1) (k_:V→V→Q ((P U) × V))=>∀{v11 v12} {zr},k_ v11 v12=N zr→Kh Z 86 Sh 23 [3,8,9,11,16,17,18,32] [3] [1024] ⟨[pB 3,pL 8 rI v2,(9,vc (aB v11)),pL 11 rI x6,pW 16 1024,pI 17 (r1.length:U),pI 18 v4,(32,vc (aB v12))],[(3,[aM X7.row a0.Points,aM X2.row a0.Segments])],[(1024,1,Y (rL rI) r1)]⟩ (A8 [6,7] [.sc (.v (.sl (Y rI zr.1))),.sc (.v (.bool zr.2))])
def TP:=fun r1 (a0:X1) (k_:(P U)→V→U→Q ((P U) × V))=>∀{v2 v3 v4} {zr},k_ v2 v3 v4=N zr→Kh Z 86 Sh 10 [3,8,9,16,17,18] [3] [1024] ⟨[pB 3,pL 8 rI v2,(9,vc (aB v3)),pW 16 1024,pI 17 (r1.length:U),pI 18 v4],[(3,[aM X7.row a0.Points,aM X2.row a0.Segments])],[(1024,1,Y (rL rI) r1)]⟩ (A8 [6,7] [.sc (.v (.sl (Y rI zr.1))),.sc (.v (.bool zr.2))])
theorem as_{v2 x6 r1 v4 a0}{O0}(oo:TP r1 a0 O0):dE v2 x6 r1 v4 a0 (Kn v2 x6 r1 v4 a0 O0):=by
 intro v11 v12 r h σ hσ;unfold Kn at h;have k0:= @oo;exact gc
theorem A49{r1 a0}{n:W}:TP r1 a0 (Ft r1 a0 n):=by
 induction n with
 | zero=>intro _ _ _ r h; cases h
 | succ n ih=>
  intro v2 v3 v4 r h σ hσ S hS
  conv at hS=>rhs; reduce
  try simp only[zH,zF] at hS
  subst hS;rw[Ft] at h;refine AL (Ax ?_);obtain⟨h5,h⟩|⟨h5,h⟩:=ic h
  ·obtain⟨x6,h6,h⟩:=ob h -- P U;have h6n:=Au h6;try simp only[hσ,h5,h6,h6n,C,E,F,G,H,J]
   refine Am ?_;obtain⟨h7,h⟩|⟨h7,h⟩:=ic h
   ·obtain⟨r9,h9,h⟩:=ob h -- U;try simp only[h5,h6,h6n,h7,C,E,F,G,H,J]
    refine BR (Ac ZU h9) ?_;obtain⟨r10,h10,h⟩:=ob h;try simp only[h5,h6,h6n,h7,C,E,F,G,H,J]
    refine BR (Ac ZU h10) ?_;try simp only[h5,h6,h6n,h7,C,E,F,G,H,J]
    refine as_ ih h ?_ (by kernel_rfl);try simp only[h5,h6,h6n,h7,C,E,F,G,H,J,pL,aM,zD]
   ·try simp only[h5,h6,h6n,h7,C,E,F,G,H,J]
    refine as_ ih h ?_ (by kernel_rfl);try simp only[h5,h6,h6n,h7,C,E,F,G,H,J,pL,aM,zD]
  ·obtain⟨h14,h⟩|⟨h14,h⟩:=ic h
   ·try simp only[hσ,h5,h14,C,E,F,G,H,J]
    cases h;trivial
   ·try simp only[hσ,h5,h14,C,E,F,G,H,J]
    cases h;trivial
instance A9h:Ct 86 (∀{a0} {a1} {a2} {r},MY a0 a1 a2=N r→FC Z 86 [.ag (X1.row a0),.sc (.int .i64 a1),.sc (.int .i64 a2)] [.sc (.v (.sl (Y rI r.1))),.sc (.v (.bool r.2))]):=by
 refine⟨fun{a0} {a1} {a2} {r} h=> ?_⟩;unfold MY at h;refine A5 A4 Sh [6,7] 38 ?_;have s0:= @AB (Y rI ([]:P U));have k0:= @A49;exact gc
/- 183:spec_l07Ok -/
instance B0o:Ct 183 (∀{a0} {a1} {a2} {r},II a0 a1 a2=N r→FC Z 183 [.ag (X1.row a0),.sc (.int .i64 a1),.ag (X4.row a2)] [.sc (.v (.bool r))]):=by
 refine⟨fun{a0} {a1} {a2} {r} h=> ?_⟩;unfold II at h;refine A5 A4 h0 [6] 21 ?_;exact gc
/- 223:spec_SquatOf -/
instance B0b:Ct 223 (∀{a0} {r},PL a0=N r→FC Z 223 [.ag (X4.row a0)] [.sc (.v (.int .i64 r))]):=by
 refine⟨fun{a0} {r} h=> ?_⟩;unfold PL at h;refine A5 A4 h0 [2] 14 ?_;exact gc
/- 210:spec_NeedOf -/
instance A9x:Ct 210 (∀{a0} {r},PJ a0=N r→FC Z 210 [.ag (X4.row a0)] [.sc (.v (.int .i64 r))]):=by
 refine⟨fun{a0} {r} h=> ?_⟩;unfold PJ at h;refine A5 A4 h0 [2] 12 ?_;exact gc
/- 186:spec_LevelFor -/
instance A9v:Ct 186 (∀{a0} {a1} {a2} {r},Na a0 a1 a2=N r→FC Z 186 [.ag (X1.row a0),.sc (.int .i64 a1),.ag (X4.row a2)] [.sc (.v (.int .i64 r))]):=by
 refine⟨fun{a0} {a1} {a2} {r} h=> ?_⟩;unfold Na at h;refine A5 A4 h0 [6] 21 ?_;exact gc
/- 207:spec_l03Surge -/
def Ww:Hw:=([(8,[1,4,5,13,14,15],[4,5],[])],[])
def dn:=fun a1 (a0:Xd) (k_:U→U→U→U→Q X9)=>∀{v2 v3 v4 v5} {zr},k_ v2 v3 v4 v5=N zr→Kh Z 207 Ww 8 [1,4,5,13,14,15] [4,5] [] ⟨[pI 1 a1,pB 4,pB 5,pL 13 X9.row a0.Surges,pI 14 (a0.Surges.length:U),pI 15 v2],[(4,[aI (0:U),aI (0:U),aI (0:U)]),(5,[aI v3,aI v4,aI v5])],[]⟩ (A8 [.c 4 T 3] [.ag [.v (.int .i64 zr.From),.v (.int .i64 zr.Low),.v (.int .i64 zr.High)]])
theorem A5a{a1 a0}{n:W}:dn a1 a0 (Fz a1 a0 n):=by
 induction n with
 | zero=>intro _ _ _ _ r h; cases h
 | succ n ih=>
  intro v2 v3 v4 v5 r h σ hσ;rw[Fz] at h;exact gc
instance B0j:Ct 207 (∀{a0} {a1} {r},IE a0 a1=N r→FC Z 207 [.ag (Xd.row a0),.sc (.int .i64 a1)] [.ag [.v (.int .i64 r.From),.v (.int .i64 r.Low),.v (.int .i64 r.High)]]):=by
 refine⟨fun{a0} {a1} {r} h=> ?_⟩;unfold IE at h;refine A5 A4 Ww [.c 4 T 3] 26 ?_;have k0:= @A5a;exact gc
/- 222:spec_Wave -/
def Wx:Hw:=([(18,[1,5],[],[])],[])
def dj:=fun a1 (k_:U→Q U)=>∀{v6} {zr},k_ v6=N zr→Kh Z 222 Wx 18 [1,5] [] [] ⟨[pI 1 a1,pI 5 v6],[],[]⟩ (A8 [4] [.sc (.v (.int .i64 zr))])
theorem A5b{a1}:dj a1 (Nq a1):=by
 intro v6 r h σ hσ;unfold Nq at h;exact gc
instance B0g:Ct 222 (∀{a0} {a1} {r},Np a0 a1=N r→FC Z 222 [.sc (.int .i64 a0),.sc (.int .i64 a1)] [.sc (.v (.int .i64 r))]):=by
 refine⟨fun{a0} {a1} {r} h=> ?_⟩;unfold Np at h;refine A5 A4 Wx [4] 55 ?_;have k0:= @A5b;exact gc
/- 208:spec_l02Level -/
def Wy:Hw:=([(8,[1,5,11,12,13],[],[])],[])
def dl:=fun a1 (a0:Xl) (k_:U→U→Q U)=>∀{v1 v2} {zr},k_ v1 v2=N zr→Kh Z 208 Wy 8 [1,5,11,12,13] [] [] ⟨[pI 1 a1,pI 5 v1,pL 11 zE a0.Parts,pI 12 (a0.Parts.length:U),pI 13 v2],[],[]⟩ (A8 [4] [.sc (.v (.int .i64 zr))])
theorem A5d{a1 a0}{n:W}:dl a1 a0 (ID a1 a0 n):=by
 induction n with
 | zero=>intro _ _ r h; cases h
 | succ n ih=>
  intro v1 v2 r h σ hσ;rw[ID] at h;exact gc
instance B0i:Ct 208 (∀{a0} {a1} {r},KG a0 a1=N r→FC Z 208 [.ag (Xl.row a0),.sc (.int .i64 a1)] [.sc (.v (.int .i64 r))]):=by
 refine⟨fun{a0} {a1} {r} h=> ?_⟩;unfold KG at h;refine A5 A4 Wy [4] 32 ?_;have k0:= @A5d;exact gc
/- 209:spec_l04Of -/
def Si:Hw:=([(8,[3,7,8,9],[],[384]),(27,[3,4,7,8,9,30],[],[384])],[])
def dq:=fun v1 a0 v2 (k_:V→Q (P X5))=>∀{v8} {zr},k_ v8=N zr→Kh Z 209 Si 27 [3,4,7,8,9,30] [] [384] ⟨[pW 3 384,pI 4 v1,pL 7 rB a0,pI 8 (a0.length:U),pI 9 v1,(30,vc (aB v8))],[],[(384,2,Y X5.row v2)]⟩ (A8 [2] [.sc (.o 2 (Y X5.row zr))])
def TW:=fun a0 (k_:U→(P X5)→Q (P X5))=>∀{v1 v2} {zr},k_ v1 v2=N zr→Kh Z 209 Si 8 [3,7,8,9] [] [384] ⟨[pW 3 384,pL 7 rB a0,pI 8 (a0.length:U),pI 9 v1],[],[(384,2,Y X5.row v2)]⟩ (A8 [2] [.sc (.o 2 (Y X5.row zr))])
theorem au{v1 a0 v2}{O4}(WE:TW a0 O4):dq v1 a0 v2 (IF v1 a0 v2 O4):=by
 intro v8 r h σ hσ S hS
 conv at hS=>rhs; reduce
 try simp only[zH,zF] at hS
 subst hS;refine Ax ?_;unfold IF at h;obtain⟨h9,h⟩|⟨h9,h⟩:=ic h
 ·obtain⟨x10,h10,h⟩:=ob h -- X5;have h10n:=Au h10;try simp only[hσ,h9,h10,C,E,F,G,H,J]
  refine AR (row:=X5.row) (y:=(⟨x10.From,v1⟩:X5)) X X h10n X X (by rfl) ?_;try simp only[h9,h10,C,E,F,G,H,J]
  refine WE h ?_ (by kernel_rfl);try simp only[h9,h10,C,E,F,G,H,J,pL,aM,zD]
 ·try simp only[hσ,h9,C,E,F,G,H,J]
  refine B6 (es:=Y X5.row ([(⟨v1,v1⟩:X5)]:P X5)) ?_;obtain⟨h11,h⟩:=AU h;try simp only[h9,h11,C,E,F,G,H,J]
  refine WE h ?_ (by kernel_rfl);try simp only[h9,h11,C,E,F,G,H,J,pL,aM,zD]
theorem A5e{a0}{n:W}:TW a0 (Ew a0 n):=by
 induction n with
 | zero=>intro _ _ r h; cases h
 | succ n ih=>
  intro v1 v2 r h σ hσ S hS
  conv at hS=>rhs; reduce
  try simp only[zH,zF] at hS
  subst hS;rw[Ew] at h;refine AL (Ax ?_);obtain⟨h3,h⟩|⟨h3,h⟩:=ic h
  ·obtain⟨x4,h4,h⟩:=ob h -- V;obtain⟨h5,h⟩|⟨h5,h⟩:=ic h
   ·obtain⟨h6,h⟩|⟨h6,h⟩:=ic h
    ·obtain⟨x7,h7,h⟩:=ob h -- X5;have h7n:=Au h7;try simp only[hσ,h3,h4,h5,h6,h7,h7n,C,E,F,G,H,J]
     refine au ih h ?_ (by kernel_rfl);try simp only[h3,h4,h5,h6,h7,h7n,C,E,F,G,H,J,pL,aM,zD]
    ·try simp only[hσ,h3,h4,h5,h6,C,E,F,G,H,J]
     refine au ih h ?_ (by kernel_rfl);try simp only[h3,h4,h5,h6,C,E,F,G,H,J,pL,aM,zD]
   ·try simp only[hσ,h3,h4,h5,C,E,F,G,H,J]
    refine ih h ?_ (by kernel_rfl);try simp only[h3,h4,h5,C,E,F,G,H,J,pL,aM,zD]
  ·try simp only[hσ,h3,C,E,F,G,H,J]
   cases h;exact t0
instance B0l:Ct 209 (∀{a0} {r},Nt a0=N r→FC Z 209 [.sc (.sl (Y rB a0))] [.sc (.o 2 (Y X5.row r))]):=by
 refine⟨fun{a0} {r} h=> ?_⟩;unfold Nt at h;refine A5 A4 Si [2] 46 ?_;have s0:= @AB (Y X5.row ([]:P X5));have k0:= @A5e;exact gc
/- 185:spec_l04Levels -/
def Sj:Hw:=([(8,[1,2,3,7,8],[3],[704]),(27,[1,2,3,7,8,10],[3],[704])],[])
def dp:=fun a1 v2 (a0:Xd) v3 (k_:V→U→Q (P X5))=>∀{v7 v8} {zr},k_ v7 v8=N zr→Kh Z 185 Sj 27 [1,2,3,7,8,10] [3] [704] ⟨[pI 1 a1,(2,vc (aB v7)),pB 3,pW 7 704,pI 8 v2,pI 10 v8],[(3,[aI a0.Tide.Mean,aM zE a0.Tide.Parts,aM X9.row a0.Surges])],[(704,1,Y rB v3)]⟩ (A8 [6] [.sc (.o 2 (Y X5.row zr))])
def TU:=fun a1 (a0:Xd) (k_:V→U→(P V)→Q (P X5))=>∀{v1 v2 v3} {zr},k_ v1 v2 v3=N zr→Kh Z 185 Sj 8 [1,2,3,7,8] [3] [704] ⟨[pI 1 a1,(2,vc (aB v1)),pB 3,pW 7 704,pI 8 v2],[(3,[aI a0.Tide.Mean,aM zE a0.Tide.Parts,aM X9.row a0.Surges])],[(704,1,Y rB v3)]⟩ (A8 [6] [.sc (.o 2 (Y X5.row zr))])
theorem A5f{a1 v2 a0 v3}{Qm}(ow:TU a1 a0 Qm):dp a1 v2 a0 v3 (Ns a1 v2 a0 v3 Qm):=by
 intro v7 v8 r h σ hσ;unfold Ns at h;have s0:=fun(r9:U)=> @AB (Y rB ([(decide (a1≤(IntKind.i64.wrap (r9+v8))))]:P V))
 have k0:= @ow;exact gc
theorem A5g{a1 a0}{n:W}:TU a1 a0 (GB a1 a0 n):=by
 induction n with
 | zero=>intro _ _ _ r h; cases h
 | succ n ih=>
  intro v1 v2 v3 r h σ hσ;rw[GB] at h;have k0:= @A5f;exact gc
instance B0k:Ct 185 (∀{a0} {a1} {a2} {r},Nr a0 a1 a2=N r→FC Z 185 [.ag (Xd.row a0),.sc (.int .i64 a1),.sc (.bool a2)] [.sc (.o 2 (Y X5.row r))]):=by
 refine⟨fun{a0} {a1} {a2} {r} h=> ?_⟩;unfold Nr at h;refine A5 A4 Sj [6] 37 ?_;have s0:= @AB (Y rB ([]:P V));have k0:= @A5g;exact gc
/- 134:spec_l06Minutes -/
instance Ti:Ct 134 (∀{a0} {a1} {r},FA a0 a1=N r→FC Z 134 [.ag (X2.row a0),.ag (X4.row a1)] [.sc (.v (.int .i64 r))]):=by
 refine⟨fun{a0} {a1} {r} h=> ?_⟩;unfold FA at h;refine A5 A4 h0 [4] 12 ?_;exact gc
/- 187:spec_MinutesOn -/
instance A9w:Ct 187 (∀{a0} {a1} {a2} {r},Kz a0 a1 a2=N r→FC Z 187 [.ag (X1.row a0),.sc (.int .i64 a1),.ag (X4.row a2)] [.sc (.v (.int .i64 r))]):=by
 refine⟨fun{a0} {a1} {a2} {r} h=> ?_⟩;unfold Kz at h;refine A5 A4 h0 [6] 31 ?_;exact gc
end Go.Vi
