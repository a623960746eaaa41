/-
Walks. No condition.
-/
import Derived.Test.YthcejlnjploddaaGreatDoorBNf
import Derived.Test.YthcejlnjploddaaGreatDoorChecked
import Derived.Test.YthcejlnjploddaaGreatDoorBSh
import Derived.Test.YthcejlnjploddaaGreatDoorBVi42
import Derived.KernelRfl
namespace Go.Vi
open Go.Proofs
set_option linter.all false
set_option maxRecDepth 4000
set_option maxHeartbeats 2000000
open Nat renaming reduceBEq → C, reduceMul → E, reduceAdd → F, reduceDiv → G, le_of_ble_eq_true → uf
open Int renaming reduceBEq → H
attribute [local irreducible] go Ba Ja
open List renaming map → Y, cons_append → I, nil_append → zA, all_cons → zB, all_nil → zC, map_nil → zE
open Tryz renaming prog → Z
open Xc renaming row → zD
open Xb renaming row → zF
open Bool renaming true → T, false → L
open Option renaming some → N, none → O
open _root_ renaming List → P, Option → Q, Int → U, Bool → V, Nat → W, rfl → X
theorem mixed:Tryz.prog.follows .mixedOrders=T:=by kernel_rfl
instance B2j:Ct 71 (∀{a0} {a1} {r},N0 a0 a1=N r→FC Z 71 [.sc (.sl (Y zD a0)),.sc (.int .i64 a1)] [.sc (.v (.int .i64 r))]):=by
 refine⟨fun h=> ?_⟩;unfold N0 at h;refine A4 mixed h0 [4] 12 ?_;exact gc
instance B2q:Ct 36 (∀{a0} {a1} {r},Q7 a0 a1=N r→FC Z 36 [.ag (Xl.row a0),.sc (.int .i64 a1)] [.sc (.v (.int .i64 r))]):=by
 refine⟨fun h=> ?_⟩;unfold Q7 at h;refine A4 mixed h0 [4] 12 ?_;exact gc
instance B2p:Ct 37 (∀{a0} {a1} {r},N6 a0 a1=N r→FC Z 37 [.sc (.sl (Y X9.row a0)),.sc (.int .i64 a1)] [.sc (.v (.int .i64 r))]):=by
 refine⟨fun h=> ?_⟩;unfold N6 at h;refine A4 mixed h0 [4] 12 ?_;exact gc
instance B2g:Ct 12 (∀{a0} {a1} {r},MX a0 a1=N r→FC Z 12 [.ag (Xd.row a0),.sc (.int .i64 a1)] [.sc (.v (.int .i64 r))]):=by
 refine⟨fun h=> ?_⟩;unfold MX at h;refine A4 mixed h0 [4] 18 ?_;exact gc
instance B2k:Ct 72 (∀{a0} {a1} {r},N1 a0 a1=N r→FC Z 72 [.ag (X7.row a0),.sc (.int .i64 a1)] [.sc (.v (.int .i64 r))]):=by
 refine⟨fun h=> ?_⟩;unfold N1 at h;refine A4 mixed h0 [4] 13 ?_;exact gc
def WB:Hw:=([(16,[0,1,5],[],[])],[])
def ee:=fun a0 (k_:U→U→Q U)=>∀{v2 v3} {zr},k_ v2 v3=N zr→Kh Z 38 WB 16 [0,1,5] [] [] ⟨[pL 0 X7.row a0,pI 1 v2,pI 5 v3],[],[]⟩ (A7 [4] [.sc (.v (.int .i64 zr))])
theorem ww1{a0}{n:W}:ee a0 (Gs a0 n):=by
 induction n with
 | zero=>intro _ _ r h; cases h
 | succ n ih=>
  intro v2 v3 r h σ hσ;rw[Gs] at h;exact gc
instance B2l:Ct 38 (∀{a0} {a1} {r},N2 a0 a1=N r→FC Z 38 [.sc (.sl (Y X7.row a0)),.sc (.int .i64 a1)] [.sc (.v (.int .i64 r))]):=by
 refine⟨fun h=> ?_⟩;unfold N2 at h;refine A4 mixed WB [4] 27 ?_;have k0:= @ww1;exact gc
instance B2m:Ct 39 (∀{a0} {a1} {r},N3 a0 a1=N r→FC Z 39 [.sc (.sl (Y X2.row a0)),.sc (.int .i64 a1)] [.sc (.v (.int .i64 r))]):=by
 refine⟨fun h=> ?_⟩;unfold N3 at h;refine A4 mixed h0 [4] 12 ?_;exact gc
instance B2e:Ct 13 (∀{a0} {a1} {r},MW a0 a1=N r→FC Z 13 [.ag (X1.row a0),.sc (.int .i64 a1)] [.sc (.v (.int .i64 r))]):=by
 refine⟨fun h=> ?_⟩;unfold MW at h;refine A4 mixed h0 [4] 18 ?_;exact gc
instance B2n:Ct 40 (∀{a0} {a1} {r},N4 a0 a1=N r→FC Z 40 [.ag (X6.row a0),.sc (.int .i64 a1)] [.sc (.v (.int .i64 r))]):=by
 refine⟨fun h=> ?_⟩;unfold N4 at h;refine A4 mixed h0 [4] 13 ?_;exact gc
def GR:Hw:=([(16,[0,1,5],[],[])],[])
def ef:=fun a0 (k_:U→U→Q U)=>∀{v2 v3} {zr},k_ v2 v3=N zr→Kh Z 14 GR 16 [0,1,5] [] [] ⟨[pL 0 X6.row a0,pI 1 v2,pI 5 v3],[],[]⟩ (A7 [4] [.sc (.v (.int .i64 zr))])
theorem ww3{a0}{n:W}:ef a0 (Gt a0 n):=by
 induction n with
 | zero=>intro _ _ r h; cases h
 | succ n ih=>
  intro v2 v3 r h σ hσ;rw[Gt] at h;exact gc
instance B2o:Ct 14 (∀{a0} {a1} {r},N5 a0 a1=N r→FC Z 14 [.sc (.sl (Y X6.row a0)),.sc (.int .i64 a1)] [.sc (.v (.int .i64 r))]):=by
 refine⟨fun h=> ?_⟩;unfold N5 at h;refine A4 mixed GR [4] 27 ?_;have k0:= @ww3;exact gc
instance B2i:Ct 41 (∀{a0} {a1} {r},MZ a0 a1=N r→FC Z 41 [.sc (.sl (Y rI a0)),.sc (.int .i64 a1)] [.sc (.v (.int .i64 r))]):=by
 refine⟨fun h=> ?_⟩;unfold MZ at h;refine A4 mixed h0 [4] 12 ?_;exact gc
instance B2f:Ct 15 (∀{a0} {a1} {r},Q6 a0 a1=N r→FC Z 15 [.ag (Xm.row a0),.sc (.int .i64 a1)] [.sc (.v (.int .i64 r))]):=by
 refine⟨fun h=> ?_⟩;unfold Q6 at h;refine A4 mixed h0 [4] 12 ?_;exact gc
instance B2h:Ct 4 (∀{a0} {a1} {r},MY a0 a1=N r→FC Z 4 [.ag (X4.row a0),.sc (.int .i64 a1)] [.sc (.v (.int .i64 r))]):=by
 refine⟨fun h=> ?_⟩;unfold MY at h;refine A4 mixed h0 [4] 30 ?_;exact gc
instance B2d:Ct 5 (∀{a0} {a1} {r},MV a0 a1=N r→FC Z 5 [.sc (.sl (Y zF a0)),.sc (.int .i64 a1)] [.sc (.v (.int .i64 r))]):=by
 refine⟨fun h=> ?_⟩;unfold MV at h;refine A4 mixed h0 [4] 12 ?_;exact gc
instance B2y:Ct 124 (∀{a0} {r},Qa a0=N r→FC Z 124 [.ag (zD a0)] [.ag [.v (.int .i64 r.Amp),.v (.int .i64 r.Period),.v (.int .i64 r.Phase)]]):=by
 refine⟨fun h=> ?_⟩;unfold Qa at h;refine A4 mixed h0 [.c 2 T 3] 14 ?_;exact gc
def Y5:Hw:=([(8,[0,3,4],[],[448])],[])
def ej:=fun a0 (k_:U→(P Xc)→Q (P Xc))=>∀{v2 v3} {zr},k_ v2 v3=N zr→Kh Z 84 Y5 8 [0,3,4] [] [448] ⟨[pL 0 zD a0,pW 3 448,pI 4 v2],[],[(448,3,Y zD v3)]⟩ (A7 [2] [.sc (.o 3 (Y zD zr))])
theorem ww5{a0}{n:W}:ej a0 (Ih a0 n):=by
 induction n with
 | zero=>intro _ _ r h; cases h
 | succ n ih=>
  intro v2 v3 r h σ hσ;rw[Ih] at h;have s0:=fun(r6:Xc)=> @ES _ zD r6
  exact gc
instance B2z:Ct 84 (∀{a0} {r},Na a0=N r→FC Z 84 [.sc (.sl (Y zD a0))] [.sc (.o 3 (Y zD r))]):=by
 refine⟨fun h=> ?_⟩;unfold Na at h;refine A4 mixed Y5 [2] 23 ?_;have s0:= @Ea _ zD (⟨(0:U),(0:U),(0:U)⟩:Xc);have k0:= @ww5;exact gc
instance B29:Ct 48 (∀{a0} {r},Qg a0=N r→FC Z 48 [.ag (Xl.row a0)] [.ag [.v (.int .i64 r.Mean),.o 3 (Y zD r.Parts)]]):=by
 refine⟨fun h=> ?_⟩;unfold Qg at h;refine A4 mixed h0 [.c 2 T 2] 12 ?_;exact gc
instance B27:Ct 85 (∀{a0} {r},Qf a0=N r→FC Z 85 [.ag (X9.row a0)] [.ag [.v (.int .i64 r.From),.v (.int .i64 r.Low),.v (.int .i64 r.High)]]):=by
 refine⟨fun h=> ?_⟩;unfold Qf at h;refine A4 mixed h0 [.c 2 T 3] 14 ?_;exact gc
def Y7:Hw:=([(8,[0,3,4],[],[448])],[])
def fA:=fun a0 (k_:U→(P X9)→Q (P X9))=>∀{v2 v3} {zr},k_ v2 v3=N zr→Kh Z 49 Y7 8 [0,3,4] [] [448] ⟨[pL 0 X9.row a0,pW 3 448,pI 4 v2],[],[(448,3,Y X9.row v3)]⟩ (A7 [2] [.sc (.o 3 (Y X9.row zr))])
theorem ww7{a0}{n:W}:fA a0 (Il a0 n):=by
 induction n with
 | zero=>intro _ _ r h; cases h
 | succ n ih=>
  intro v2 v3 r h σ hσ;rw[Il] at h;have s0:=fun(r6:X9)=> @ES _ X9.row r6
  exact gc
instance B28:Ct 49 (∀{a0} {r},Nf a0=N r→FC Z 49 [.sc (.sl (Y X9.row a0))] [.sc (.o 3 (Y X9.row r))]):=by
 refine⟨fun h=> ?_⟩;unfold Nf at h;refine A4 mixed Y7 [2] 23 ?_;have s0:= @Ea _ X9.row (⟨(0:U),(0:U),(0:U)⟩:X9);have k0:= @ww7;exact gc
instance B2v:Ct 20 (∀{a0} {r},N8 a0=N r→FC Z 20 [.ag (Xd.row a0)] [.ag [.v (.int .i64 r.Tide.Mean),.o 3 (Y zD r.Tide.Parts),.o 3 (Y X9.row r.Surges)]]):=by
 refine⟨fun h=> ?_⟩;unfold N8 at h;refine A4 mixed h0 [.c 2 T 3] 13 ?_;exact gc
instance B20:Ct 86 (∀{a0} {r},Qb a0=N r→FC Z 86 [.ag (X7.row a0)] [.ag [.v (.str r.Name),.v (.bool r.Wait)]]):=by
 refine⟨fun h=> ?_⟩;unfold Qb at h;refine A4 mixed h0 [.c 2 T 2] 11 ?_;exact gc
def Y8:Hw:=([(8,[0,3,4],[],[448])],[])
def en:=fun a0 (k_:U→(P X7)→Q (P X7))=>∀{v2 v3} {zr},k_ v2 v3=N zr→Kh Z 50 Y8 8 [0,3,4] [] [448] ⟨[pL 0 X7.row a0,pW 3 448,pI 4 v2],[],[(448,2,Y X7.row v3)]⟩ (A7 [2] [.sc (.o 2 (Y X7.row zr))])
theorem ww9{a0}{n:W}:en a0 (Ii a0 n):=by
 induction n with
 | zero=>intro _ _ r h; cases h
 | succ n ih=>
  intro v2 v3 r h σ hσ;rw[Ii] at h;have s0:=fun(r6:X7)=> @ES _ X7.row r6
  exact gc
instance B21:Ct 50 (∀{a0} {r},Nb a0=N r→FC Z 50 [.sc (.sl (Y X7.row a0))] [.sc (.o 2 (Y X7.row r))]):=by
 refine⟨fun h=> ?_⟩;unfold Nb at h;refine A4 mixed Y8 [2] 23 ?_;have s0:= @Ea _ X7.row (⟨([]:P UInt8),L⟩:X7);have k0:= @ww9;exact gc
instance B23:Ct 87 (∀{a0} {r},Qd a0=N r→FC Z 87 [.ag (X2.row a0)] [.ag [.v (.int .i64 r.A),.v (.int .i64 r.B),.v (.int .i64 r.Depth),.v (.int .i64 r.Minutes),.v (.bool r.Meet)]]):=by
 refine⟨fun h=> ?_⟩;unfold Qd at h;refine A4 mixed h0 [.c 2 T 5] 20 ?_;exact gc
def WC:Hw:=([(8,[0,3,4],[],[448])],[])
def eu:=fun a0 (k_:U→(P X2)→Q (P X2))=>∀{v2 v3} {zr},k_ v2 v3=N zr→Kh Z 51 WC 8 [0,3,4] [] [448] ⟨[pL 0 X2.row a0,pW 3 448,pI 4 v2],[],[(448,5,Y X2.row v3)]⟩ (A7 [2] [.sc (.o 5 (Y X2.row zr))])
theorem A3a{a0}{n:W}:eu a0 (Ij a0 n):=by
 induction n with
 | zero=>intro _ _ r h; cases h
 | succ n ih=>
  intro v2 v3 r h σ hσ;rw[Ij] at h;have s0:=fun(r6:X2)=> @ES _ X2.row r6
  exact gc
instance B24:Ct 51 (∀{a0} {r},Nc a0=N r→FC Z 51 [.sc (.sl (Y X2.row a0))] [.sc (.o 5 (Y X2.row r))]):=by
 refine⟨fun h=> ?_⟩;unfold Nc at h;refine A4 mixed WC [2] 23 ?_;have s0:= @Ea _ X2.row (⟨(0:U),(0:U),(0:U),(0:U),L⟩:X2);have k0:= @A3a;exact gc
instance B2t:Ct 21 (∀{a0} {r},N7 a0=N r→FC Z 21 [.ag (X1.row a0)] [.ag [.o 2 (Y X7.row r.Points),.o 5 (Y X2.row r.Segments)]]):=by
 refine⟨fun h=> ?_⟩;unfold N7 at h;refine A4 mixed h0 [.c 2 T 2] 13 ?_;exact gc
instance B25:Ct 52 (∀{a0} {r},Qe a0=N r→FC Z 52 [.ag (X6.row a0)] [.ag [.v (.str r.Name),.v (.int .i64 r.Length),.v (.int .i64 r.Draught),.v (.int .i64 r.Line),.v (.int .i64 r.Tugs),.v (.bool r.Slow)]]):=by
 refine⟨fun h=> ?_⟩;unfold Qe at h;refine A4 mixed h0 [.c 2 T 6] 23 ?_;exact gc
def WJ:Hw:=([(8,[0,3,4],[],[448])],[])
def ey:=fun a0 (k_:U→(P X6)→Q (P X6))=>∀{v2 v3} {zr},k_ v2 v3=N zr→Kh Z 22 WJ 8 [0,3,4] [] [448] ⟨[pL 0 X6.row a0,pW 3 448,pI 4 v2],[],[(448,6,Y X6.row v3)]⟩ (A7 [2] [.sc (.o 6 (Y X6.row zr))])
theorem A3m{a0}{n:W}:ey a0 (Ik a0 n):=by
 induction n with
 | zero=>intro _ _ r h; cases h
 | succ n ih=>
  intro v2 v3 r h σ hσ;rw[Ik] at h;have s0:=fun(r6:X6)=> @ES _ X6.row r6
  exact gc
instance B26:Ct 22 (∀{a0} {r},Nd a0=N r→FC Z 22 [.sc (.sl (Y X6.row a0))] [.sc (.o 6 (Y X6.row r))]):=by
 refine⟨fun h=> ?_⟩;unfold Nd at h;refine A4 mixed WJ [2] 23 ?_;have s0:= @Ea _ X6.row (⟨([]:P UInt8),(0:U),(0:U),(0:U),(0:U),L⟩:X6);have k0:= @A3m;exact gc
instance B22:Ct 23 (∀{a0} {r},Qc a0=N r→FC Z 23 [.ag (Xh.row a0)] [.ag [.v (.int .i64 r.Gap),.v (.bool r.NoMeet)]]):=by
 refine⟨fun h=> ?_⟩;unfold Qc at h;refine A4 mixed h0 [.c 2 T 2] 11 ?_;exact gc
def WN:Hw:=([(8,[0,3,4],[],[448])],[])
def eh:=fun a0 (k_:U→(P U)→Q (P U))=>∀{v2 v3} {zr},k_ v2 v3=N zr→Kh Z 53 WN 8 [0,3,4] [] [448] ⟨[pL 0 rI a0,pW 3 448,pI 4 v2],[],[(448,1,Y rI v3)]⟩ (A7 [2] [.sc (.o 1 (Y rI zr))])
theorem A3z{a0}{n:W}:eh a0 (Ig a0 n):=by
 induction n with
 | zero=>intro _ _ r h; cases h
 | succ n ih=>
  intro v2 v3 r h σ hσ;rw[Ig] at h;have s0:=fun(x5:U)=> @ES _ rI x5
  exact gc
instance B2x:Ct 53 (∀{a0} {r},N9 a0=N r→FC Z 53 [.sc (.sl (Y rI a0))] [.sc (.o 1 (Y rI r))]):=by
 refine⟨fun h=> ?_⟩;unfold N9 at h;refine A4 mixed WN [2] 22 ?_;have s0:= @Ea _ rI (0:U);have k0:= @A3z;exact gc
instance B2u:Ct 24 (∀{a0} {r},Q9 a0=N r→FC Z 24 [.ag (Xm.row a0)] [.ag [.v (.int .i64 r.Tugs),.v (.int .i64 r.Pilots),.v (.int .i64 r.Rest),.o 1 (Y rI r.Moves)]]):=by
 refine⟨fun h=> ?_⟩;unfold Q9 at h;refine A4 mixed h0 [.c 2 T 4] 18 ?_;exact gc
instance B2w:Ct 7 (∀{a0} {r},If a0=N r→FC Z 7 [.ag (X4.row a0)] [.ag [.v (.int .i64 r.Forecast.Tide.Mean),.o 3 (Y zD r.Forecast.Tide.Parts),.o 3 (Y X9.row r.Forecast.Surges),.o 2 (Y X7.row r.Chart.Points),.o 5 (Y X2.row r.Chart.Segments),.o 6 (Y X6.row r.Fleet),.v (.int .i64 r.Regime.Gap),.v (.bool r.Regime.NoMeet),.v (.int .i64 r.Crew.Tugs),.v (.int .i64 r.Crew.Pilots),.v (.int .i64 r.Crew.Rest),.o 1 (Y rI r.Crew.Moves)]]):=by
 refine⟨fun h=> ?_⟩;unfold If at h;refine A4 mixed h0 [.c 2 T 12] 25 ?_;exact gc
instance B2r:Ct 25 (∀{a0} {r},Q8 a0=N r→FC Z 25 [.ag (zF a0)] [.ag [.v (.int .i64 r.Ship),.v (.int .i64 r.From),.v (.int .i64 r.To),.v (.int .i64 r.Ready),.v (.int .i64 r.Due)]]):=by
 refine⟨fun h=> ?_⟩;unfold Q8 at h;refine A4 mixed h0 [.c 2 T 5] 20 ?_;exact gc
def WR:Hw:=([(8,[0,3,4],[],[448])],[])
def eg:=fun a0 (k_:U→(P Xb)→Q (P Xb))=>∀{v2 v3} {zr},k_ v2 v3=N zr→Kh Z 8 WR 8 [0,3,4] [] [448] ⟨[pL 0 zF a0,pW 3 448,pI 4 v2],[],[(448,5,Y zF v3)]⟩ (A7 [2] [.sc (.o 5 (Y zF zr))])
theorem A4c{a0}{n:W}:eg a0 (Ie a0 n):=by
 induction n with
 | zero=>intro _ _ r h; cases h
 | succ n ih=>
  intro v2 v3 r h σ hσ;rw[Ie] at h;have s0:=fun(r6:Xb)=> @ES _ zF r6
  exact gc
instance B2s:Ct 8 (∀{a0} {r},Ic a0=N r→FC Z 8 [.sc (.sl (Y zF a0))] [.sc (.o 5 (Y zF r))]):=by
 refine⟨fun h=> ?_⟩;unfold Ic at h;refine A4 mixed WR [2] 23 ?_;have s0:= @Ea _ zF (⟨(0:U),(0:U),(0:U),(0:U),(0:U)⟩:Xb);have k0:= @A4c;exact gc
instance RL:Ct 78 (∀{a0} {a1} {a2} {r},Aw a0 a1 a2=N r→FC Z 78 [.sc (.int .i64 a0),.sc (.int .i64 a1),.sc (.int .i64 a2)] [.sc (.v (.bool r))]):=by
 refine⟨fun h=> ?_⟩;unfold Aw at h;refine A4 mixed h0 [6] 15 ?_;exact gc
instance B3v:Ct 146 (∀{a0} {r},Nx a0=N r→FC Z 146 [.ag (zD a0)] [.sc (.v (.bool r))]):=by
 refine⟨fun h=> ?_⟩;unfold Nx at h;refine A4 mixed h0 [2] 25 ?_;exact gc
def WU:Hw:=([(14,[16,17,18],[],[])],[])
def fo:=fun(a0:Xl) (k_:U→Q V)=>∀{v4} {zr},k_ v4=N zr→Kh Z 108 WU 14 [16,17,18] [] [] ⟨[pL 16 zD a0.Parts,pI 17 (a0.Parts.length:U),pI 18 v4],[],[]⟩ (A7 [2] [.sc (.v (.bool zr))])
theorem A4o{a0}{n:W}:fo a0 (IH a0 n):=by
 induction n with
 | zero=>intro _ r h; cases h
 | succ n ih=>
  intro v4 r h σ hσ;rw[IH] at h;exact gc
instance B4a:Ct 108 (∀{a0} {r},NH a0=N r→FC Z 108 [.ag (Xl.row a0)] [.sc (.v (.bool r))]):=by
 refine⟨fun h=> ?_⟩;unfold NH at h;refine A4 mixed WU [2] 26 ?_;have k0:= @A4o;exact gc
instance B39:Ct 109 (∀{a0} {r},NG a0=N r→FC Z 109 [.ag (X9.row a0)] [.sc (.v (.bool r))]):=by
 refine⟨fun h=> ?_⟩;unfold NG at h;refine A4 mixed h0 [2] 18 ?_;exact gc
def WX:Hw:=([(14,[1,25,26,27],[1],[])],[])
def fR:=fun(a0:Xd) (k_:U→Q V)=>∀{v7} {zr},k_ v7=N zr→Kh Z 73 WX 14 [1,25,26,27] [1] [] ⟨[pB 1,pL 25 X9.row a0.Surges,pI 26 (a0.Surges.length:U),pI 27 v7],[(1,[aI a0.Tide.Mean,aM zD a0.Tide.Parts,aM X9.row a0.Surges])],[]⟩ (A7 [2] [.sc (.v (.bool zr))])
theorem A40{a0}{n:W}:fR a0 (Gv a0 n):=by
 induction n with
 | zero=>intro _ r h; cases h
 | succ n ih=>
  intro v7 r h σ hσ;rw[Gv] at h;exact gc
instance B3j:Ct 73 (∀{a0} {r},Kw a0=N r→FC Z 73 [.ag (Xd.row a0)] [.sc (.v (.bool r))]):=by
 refine⟨fun h=> ?_⟩;unfold Kw at h;refine A4 mixed WX [2] 52 ?_;have k0:= @A40;exact gc
def QH:Hw:=([(6,[0,3],[],[]),(17,[0,3,4],[],[]),(24,[0,3],[],[])],[])
def fX:=fun a0 v1 (k_:Q V)=>∀{zr},k_=N zr→Kh Z 110 QH 24 [0,3] [] [] ⟨[(0,vc (aS a0)),pI 3 v1],[],[]⟩ (A7 [2] [.sc (.v (.bool zr))])
def fW:=fun a0 v1 (k_:V→Q V)=>∀{v5} {zr},k_ v5=N zr→Kh Z 110 QH 17 [0,3,4] [] [] ⟨[(0,vc (aS a0)),pI 3 v1,(4,vc (aB v5))],[],[]⟩ (A7 [2] [.sc (.v (.bool zr))])
def RW:=fun a0 (k_:U→Q V)=>∀{v1} {zr},k_ v1=N zr→Kh Z 110 QH 6 [0,3] [] [] ⟨[(0,vc (aS a0)),pI 3 v1],[],[]⟩ (A7 [2] [.sc (.v (.bool zr))])
theorem A5e{a0 v1}{EI}(Yi:RW a0 EI):fX a0 v1 (Nt a0 v1 EI):=by
 intro r h σ hσ;unfold Nt at h;have k0:= @Yi;exact gc
theorem A5m{a0 v1}{EI}(Yi:RW a0 EI):fW a0 v1 (Ns a0 v1 EI):=by
 intro v5 r h σ hσ;unfold Ns at h;have k0:= @A5e;exact gc
theorem A5q{a0}{n:W}:RW a0 (Gx a0 n):=by
 induction n with
 | zero=>intro _ r h; cases h
 | succ n ih=>
  intro v1 r h σ hσ;rw[Gx] at h;have k0:= @A5m;exact gc
instance B3o:Ct 110 (∀{a0} {r},KD a0=N r→FC Z 110 [.sc (.str a0)] [.sc (.v (.bool r))]):=by
 refine⟨fun h=> ?_⟩;unfold KD at h;refine A4 mixed QH [2] 42 ?_;have k0:= @A5q;exact gc
def XF:Hw:=([(6,[1,8,9,10],[],[])],[])
def fi:=fun a1 (a0:X1) (k_:U→Q U)=>∀{v1} {zr},k_ v1=N zr→Kh Z 111 XF 6 [1,8,9,10] [] [] ⟨[(1,vc (aS a1)),pL 8 X7.row a0.Points,pI 9 (a0.Points.length:U),pI 10 v1],[],[]⟩ (A7 [4] [.sc (.v (.int .i64 zr))])
theorem A51{a1 a0}{n:W}:fi a1 a0 (ID a1 a0 n):=by
 induction n with
 | zero=>intro _ r h; cases h
 | succ n ih=>
  intro v1 r h σ hσ;rw[ID] at h;exact gc
instance B3z:Ct 111 (∀{a0} {a1} {r},NC a0 a1=N r→FC Z 111 [.ag (X1.row a0),.sc (.str a1)] [.sc (.v (.int .i64 r))]):=by
 refine⟨fun h=> ?_⟩;unfold NC at h;refine A4 mixed XF [4] 21 ?_;have k0:= @A51;exact gc
instance B4i:Ct 112 (∀{a0} {a1} {a2} {r},NN a0 a1 a2=N r→FC Z 112 [.ag (X2.row a0),.sc (.int .i64 a1),.sc (.int .i64 a2)] [.sc (.v (.bool r))]):=by
 refine⟨fun h=> ?_⟩;unfold NN at h;refine A4 mixed h0 [6] 29 ?_;exact gc
def QK:Hw:=([(14,[1,20,21,22],[1],[]),(37,[1,41,42,43],[1],[]),(59,[1,6,41,42,43,88,89,90],[1,6],[])],[])
def fK:=fun(a0:X1) v11 (x13:X2) y24 y25 (k_:U→Q V)=>∀{v26} {zr},k_ v26=N zr→Kh Z 74 QK 59 [1,6,41,42,43,88,89,90] [1,6] [] ⟨[pB 1,pB 6,pL 41 X2.row a0.Segments,pI 42 (a0.Segments.length:U),pI 43 v11,pL 88 X2.row y24,pI 89 y25,pI 90 v26],[(1,[aM X7.row a0.Points,aM X2.row a0.Segments]),(6,(dm x13.row))],[]⟩ (A7 [2] [.sc (.v (.bool zr))])
def UW:=fun(a0:X1) (k_:U→Q V)=>∀{v11} {zr},k_ v11=N zr→Kh Z 74 QK 37 [1,41,42,43] [1] [] ⟨[pB 1,pL 41 X2.row a0.Segments,pI 42 (a0.Segments.length:U),pI 43 v11],[(1,[aM X7.row a0.Points,aM X2.row a0.Segments])],[]⟩ (A7 [2] [.sc (.v (.bool zr))])
def fJ:=fun(a0:X1) (k_:U→Q V)=>∀{v3} {zr},k_ v3=N zr→Kh Z 74 QK 14 [1,20,21,22] [1] [] ⟨[pB 1,pL 20 X7.row a0.Points,pI 21 (a0.Points.length:U),pI 22 v3],[(1,[aM X7.row a0.Points,aM X2.row a0.Segments])],[]⟩ (A7 [2] [.sc (.v (.bool zr))])
theorem A6e{a0 v11 x13 y24 y25}{Ox}(rJ:UW a0 Ox){n:W}:fK a0 v11 x13 y24 y25 (Ip a0 v11 x13 y24 y25 Ox n):=by
 induction n with
 | zero=>intro _ r h; cases h
 | succ n ih=>
  intro v26 r h σ hσ;rw[Ip] at h;have k0:= @rJ;exact gc
theorem A6l{a0}{n:W}:UW a0 (Eu a0 n):=by
 induction n with
 | zero=>intro _ r h; cases h
 | succ n ih=>
  intro v11 r h σ hσ;rw[Eu] at h;have k0:= @A6e;exact gc
theorem A6s{a0}{n:W}:fJ a0 (Io a0 n):=by
 induction n with
 | zero=>intro _ r h; cases h
 | succ n ih=>
  intro v3 r h σ hσ;rw[Io] at h;have k0:= @A6l;exact gc
instance A1x:Ct 74 (∀{a0} {r},D6 a0=N r→FC Z 74 [.ag (X1.row a0)] [.sc (.v (.bool r))]):=by
 refine⟨fun h=> ?_⟩;unfold D6 at h;refine A4 mixed QK [2] 102 ?_;have k0:= @A6s;exact gc
instance B35:Ct 113 (∀{a0} {r},DX a0=N r→FC Z 113 [.ag (X6.row a0)] [.sc (.v (.bool r))]):=by
 refine⟨fun h=> ?_⟩;unfold DX at h;refine A4 mixed h0 [2] 26 ?_;exact gc
def XQ:Hw:=([(6,[1,7,8,9],[],[])],[])
def fk:=fun a1 a0 (k_:U→Q U)=>∀{v1} {zr},k_ v1=N zr→Kh Z 114 XQ 6 [1,7,8,9] [] [] ⟨[(1,vc (aS a1)),pL 7 X6.row a0,pI 8 (a0.length:U),pI 9 v1],[],[]⟩ (A7 [4] [.sc (.v (.int .i64 zr))])
theorem A64{a1 a0}{n:W}:fk a1 a0 (IG a1 a0 n):=by
 induction n with
 | zero=>intro _ r h; cases h
 | succ n ih=>
  intro v1 r h σ hσ;rw[IG] at h;exact gc
instance B34:Ct 114 (∀{a0} {a1} {r},NE a0 a1=N r→FC Z 114 [.sc (.sl (Y X6.row a0)),.sc (.str a1)] [.sc (.v (.int .i64 r))]):=by
 refine⟨fun h=> ?_⟩;unfold NE at h;refine A4 mixed XQ [4] 20 ?_;have k0:= @A64;exact gc
def XR:Hw:=([(14,[0,8,9,10],[],[])],[])
def fQ:=fun a0 (k_:U→Q V)=>∀{v2} {zr},k_ v2=N zr→Kh Z 75 XR 14 [0,8,9,10] [] [] ⟨[pL 0 X6.row a0,pL 8 X6.row a0,pI 9 (a0.length:U),pI 10 v2],[],[]⟩ (A7 [2] [.sc (.v (.bool zr))])
theorem A7k{a0}{n:W}:fQ a0 (Iv a0 n):=by
 induction n with
 | zero=>intro _ r h; cases h
 | succ n ih=>
  intro v2 r h σ hσ;rw[Iv] at h;exact gc
instance B3i:Ct 75 (∀{a0} {r},Kv a0=N r→FC Z 75 [.sc (.sl (Y X6.row a0))] [.sc (.v (.bool r))]):=by
 refine⟨fun h=> ?_⟩;unfold Kv at h;refine A4 mixed XR [2] 27 ?_;have k0:= @A7k;exact gc
instance B30:Ct 76 (∀{a0} {r},IE a0=N r→FC Z 76 [.ag (Xh.row a0)] [.sc (.v (.bool r))]):=by
 refine⟨fun h=> ?_⟩;unfold IE at h;refine A4 mixed h0 [2] 6 ?_;exact gc
def XU:Hw:=([(14,[15,16,17],[],[])],[])
def gI:=fun a1 (k_:U→Q V)=>∀{v4} {zr},k_ v4=N zr→Kh Z 115 XU 14 [15,16,17] [] [] ⟨[pL 15 rI a1,pI 16 (a1.length:U),pI 17 v4],[],[]⟩ (A7 [4] [.sc (.v (.bool zr))])
theorem A7v{a1}{n:W}:gI a1 (GJ a1 n):=by
 induction n with
 | zero=>intro _ r h; cases h
 | succ n ih=>
  intro v4 r h σ hσ;rw[GJ] at h;exact gc
instance B4r:Ct 115 (∀{a0} {a1} {r},GI a0 a1=N r→FC Z 115 [.sc (.int .i64 a0),.sc (.sl (Y rI a1))] [.sc (.v (.bool r))]):=by
 refine⟨fun h=> ?_⟩;unfold GI at h;refine A4 mixed XU [4] 25 ?_;have k0:= @A7v;exact gc
instance B3g:Ct 77 (∀{a0} {r},Ir a0=N r→FC Z 77 [.ag (Xm.row a0)] [.sc (.v (.bool r))]):=by
 refine⟨fun h=> ?_⟩;unfold Ir at h;refine A4 mixed h0 [2] 18 ?_;exact gc
instance B3l:Ct 42 (∀{a0} {r},KC a0=N r→FC Z 42 [.ag (X4.row a0)] [.sc (.v (.bool r))]):=by
 refine⟨fun h=> ?_⟩;unfold KC at h;refine A4 mixed h0 [2] 26 ?_;exact gc
instance B3d:Ct 43 (∀{a0} {a1} {r},Ko a0 a1=N r→FC Z 43 [.ag (X4.row a0),.ag (zF a1)] [.sc (.v (.bool r))]):=by
 refine⟨fun h=> ?_⟩;unfold Ko at h;refine A4 mixed h0 [4] 53 ?_;exact gc
def Ta:Hw:=([(14,[1,2,17,18,19],[2],[]),(36,[1,2,6,17,18,19,30,31,32],[2,6],[])],[])
def fH:=fun a1 v4 (a0:X4) (x6:Xb) y10 y11 (k_:U→Q V)=>∀{v12} {zr},k_ v12=N zr→Kh Z 16 Ta 36 [1,2,6,17,18,19,30,31,32] [2,6] [] ⟨[pL 1 zF a1,pB 2,pB 6,pL 17 zF a1,pI 18 (a1.length:U),pI 19 v4,pL 30 zF y10,pI 31 y11,pI 32 v12],[(2,([aI a0.Forecast.Tide.Mean,aM zD a0.Forecast.Tide.Parts,aM X9.row a0.Forecast.Surges,aM X7.row a0.Chart.Points,aM X2.row a0.Chart.Segments,aM X6.row a0.Fleet,aI a0.Regime.Gap,aB a0.Regime.NoMeet]++dm a0.Crew.row)),(6,(dm x6.row))],[]⟩ (A7 [4] [.sc (.v (.bool zr))])
def UV:=fun a1 (a0:X4) (k_:U→Q V)=>∀{v4} {zr},k_ v4=N zr→Kh Z 16 Ta 14 [1,2,17,18,19] [2] [] ⟨[pL 1 zF a1,pB 2,pL 17 zF a1,pI 18 (a1.length:U),pI 19 v4],[(2,([aI a0.Forecast.Tide.Mean,aM zD a0.Forecast.Tide.Parts,aM X9.row a0.Forecast.Surges,aM X7.row a0.Chart.Points,aM X2.row a0.Chart.Segments,aM X6.row a0.Fleet,aI a0.Regime.Gap,aB a0.Regime.NoMeet]++dm a0.Crew.row))],[]⟩ (A7 [4] [.sc (.v (.bool zr))])
theorem A76{a1 v4 a0 x6 y10 y11}{Ow}(rH:UV a1 a0 Ow){n:W}:fH a1 v4 a0 x6 y10 y11 (Kr a1 v4 a0 x6 y10 y11 Ow n):=by
 induction n with
 | zero=>intro _ r h; cases h
 | succ n ih=>
  intro v12 r h σ hσ;rw[Kr] at h;have k0:= @rH;exact gc
theorem A77{a1 a0}{n:W}:UV a1 a0 (Kq a1 a0 n):=by
 induction n with
 | zero=>intro _ r h; cases h
 | succ n ih=>
  intro v4 r h σ hσ;rw[Kq] at h;have k0:= @A76;exact gc
instance bd:Ct 16 (∀{a0} {a1} {r},Fo a0 a1=N r→FC Z 16 [.ag (X4.row a0),.sc (.sl (Y zF a1))] [.sc (.v (.bool r))]):=by
 refine⟨fun h=> ?_⟩;unfold Fo at h;refine A4 mixed Ta [4] 43 ?_;have k0:= @A77;exact gc
instance bj:Ct 181 (∀{a0} {a1} {r},NO a0 a1=N r→FC Z 181 [.ag (X2.row a0),.sc (.int .i64 a1)] [.sc (.v (.int .i64 r))]):=by
 refine⟨fun h=> ?_⟩;unfold NO at h;refine A4 mixed h0 [4] 18 ?_;exact gc
def Y6:Hw:=([(6,[1,7,8,9],[],[])],[])
def fy:=fun a1 a0 (k_:U→Q V)=>∀{v1} {zr},k_ v1=N zr→Kh Z 182 Y6 6 [1,7,8,9] [] [] ⟨[pI 1 a1,pL 7 rI a0,pI 8 (a0.length:U),pI 9 v1],[],[]⟩ (A7 [4] [.sc (.v (.bool zr))])
theorem A78{a1 a0}{n:W}:fy a1 a0 (IL a1 a0 n):=by
 induction n with
 | zero=>intro _ r h; cases h
 | succ n ih=>
  intro v1 r h σ hσ;rw[IL] at h;exact gc
instance bh:Ct 182 (∀{a0} {a1} {r},KL a0 a1=N r→FC Z 182 [.sc (.sl (Y rI a0)),.sc (.int .i64 a1)] [.sc (.v (.bool r))]):=by
 refine⟨fun h=> ?_⟩;unfold KL at h;refine A4 mixed Y6 [4] 17 ?_;have k0:= @A78;exact gc
def B4:P (P W × AItem):= [([],(O,.load 49 (S 5) T 2)),([],(O,.bslice 50 1 [.int .i64 0] 0 [])),([],(O,.mv 51 (S 1))),([1,2],(O,.app 52 1 8 (S 50) (S 51))),([],(O,.mv 53 (S 14))),([4],(O,.bslice 54 1 [.int .i64 0] 1 [(0,(S 53))])),([3,5,3],(O,.app 55 1 8 (S 52) (S 54))),([],(O,.bslice 56 1 [.int .i64 0] 0 [])),([],(O,.mv 57 (S 2))),([7,8,6],(O,.app 58 1 8 (S 56) (S 57))),([],(O,.mv 59 (S 12))),([10],(O,.bslice 60 1 [.int .i64 0] 1 [(0,(S 59))])),([9,11,9],(O,.app 61 1 8 (S 58) (S 60))),([],(O,.mv 62 (S 3))),([],(O,.mv 63 (S 4))),([0,6,12,13,14,12],(O,.call 64 179 [(S 49),(S 55),(S 61),(S 62),(S 63)])),([15,15,0,1,2,3,4,5,6,7,8,9,10,11,12,13,14,15],(O,.mv 4 (S 64)))]
def QQ:Hw:=([(16,[1,2,3,4,5,11,31,32,33],[5],[90000]),(31,[1,2,3,4,5,11,12,14,31,32,33,48],[5],[90000])],[(9,4,(O,.frz 1600))])
abbrev A8(a1 a2:P U)(a3 x1:U)(v5 r9:U)(a0:X1)(ws4_ wo1_:AV)(wo3_ wo6_:AV)(wo7_ wo9_:AV)(wo12_ wo14_ wu16_:AV)(c0_ c1_:V)(c2_ c3_:V)(c4_ c5_:V)(c6_ c7_:V)(c8_ c9_:V)(c10_ c11_:V)(c12_ c13_:V)(c14_ c15_:V)(bx_:P (W × P AC))(rs_:Rows):St:=⟨[(1,vc (aL (Y rI a1))),(2,vc (aL (Y rI a2))),(3,vc (aI a3)),(4,ws4_),(5,vc (.pb 5 0)),(11,vc (aI x1)),(12,vc (aI v5)),(14,vc (aI r9)),(31,vc (aL (Y X2.row a0.Segments))),(32,vc (aI (a0.Segments.length:U))),(33,vc (aI v5)),(49,bif c0_ then va [aL (Y X7.row a0.Points),aL (Y X2.row a0.Segments)] else .undef),(50,bif c1_ then wo1_ else .undef),(51,bif c2_ then vc (aL (Y rI a1)) else .undef),(52,bif c3_ then wo3_ else .undef),(53,bif c4_ then vc (aI r9) else .undef),(54,bif c5_ then vc (.own 3456) else .undef),(55,bif c6_ then wo6_ else .undef),(56,bif c7_ then wo7_ else .undef),(57,bif c8_ then vc (aL (Y rI a2)) else .undef),(58,bif c9_ then wo9_ else .undef),(59,bif c10_ then vc (aI v5) else .undef),(60,bif c11_ then vc (.own 3840) else .undef),(61,bif c12_ then wo12_ else .undef),(62,bif c13_ then vc (aI a3) else .undef),(63,bif c14_ then wo14_ else .undef),(64,bif c15_ then vc (.own 90000) else .undef),(4,wu16_)],bx_,rs_⟩
abbrev B0(a1 a2:P U)(a3 x1:U)(v5 r9:U)(a0:X1)(r18:(P (P U))):St:=(A8 a1 a2 a3 x1 v5 r9 a0 (vc (.own 90000)) (vc (.undef)) (vc (.undef)) (vc (aL (Y rI (a1++([r9]:P U))))) (vc (.undef)) (vc (.undef)) (vc (aL (Y rI (a2++([v5]:P U))))) (vc (.undef)) (vc (.own 90000)) T T T T T T T T T T T T T T T T [(5,[aL (Y X7.row a0.Points),aL (Y X2.row a0.Segments)])] [(90000,1,Y (rL rI) r18),(3456,1,Y rI ([r9]:P U)),(3840,1,Y rI ([v5]:P U))])
theorem A79(rec_:X1→(P U)→(P U)→U→(P (P U))→Q (P (P U)))(h_rec:∀(a0:X1) (a1 a2:P U) (a3:U) (a4:P (P U)) zr,rec_ a0 a1 a2 a3 a4=N zr→FCt Z 179 [.d (.ag (X1.row a0)),.d (.sc (.sl (Y rI a1))),.d (.sc (.sl (Y rI a2))),.d (.sc (.int .i64 a3)),.r] 1 (Y (rL rI) a4) (Y (rL rI) zr))(a1 a2:P U)(a3)(x1:U)(v5)(r9)(a0)(v6)(r18)(h14:(A3 ([]:P U).length a1.length 8)=T)(h15:(A3 a1.length ([r9]:P U).length 8)=T)(h16:(A3 ([]:P U).length a2.length 8)=T)(h17:(A3 a2.length ([v5]:P U).length 8)=T)(h18:rec_ a0 (a1++([r9]:P U)) (a2++([v5]:P U)) a3 v6=N r18):∀(f:W),Ad Z B4 (B0 a1 a2 a3 x1 v5 r9 a0 r18) f [T,T,T,T,T,T,T,T,T,T,T,T,T,T,T,T,T] (A8 a1 a2 a3 x1 v5 r9 a0 (vc (.own 90000)) (vc (.undef)) (vc (.undef)) (vc (aL (Y rI (a1++([r9]:P U))))) (vc (.undef)) (vc (.undef)) (vc (aL (Y rI (a2++([v5]:P U))))) (vc (.undef)) (vc (.own 90000)) T T T T T T T T T T T T T T T T [(5,[aL (Y X7.row a0.Points),aL (Y X2.row a0.Segments)])] [(90000,1,Y (rL rI) r18),(3456,1,Y rI ([r9]:P U)),(3840,1,Y rI ([v5]:P U))]):=by
 intro f
 induction f with
 | zero=>intro h; rfl
 | succ f ih=>
  refine Af ⟨?_,?_,?_,?_,?_,?_,?_,?_,?_,?_,?_,?_,?_,?_,?_,?_,?_,⟨⟩⟩<;>try first | (intro h; cases h; done)
theorem A8a(rec_:X1→(P U)→(P U)→U→(P (P U))→Q (P (P U)))(h_rec:∀(a0:X1) (a1 a2:P U) (a3:U) (a4:P (P U)) zr,rec_ a0 a1 a2 a3 a4=N zr→FCt Z 179 [.d (.ag (X1.row a0)),.d (.sc (.sl (Y rI a1))),.d (.sc (.sl (Y rI a2))),.d (.sc (.int .i64 a3)),.r] 1 (Y (rL rI) a4) (Y (rL rI) zr))(a1 a2:P U)(a3)(x1:U)(v5)(r9)(a0)(v6)(r18)(h14:(A3 ([]:P U).length a1.length 8)=T)(h15:(A3 a1.length ([r9]:P U).length 8)=T)(h16:(A3 ([]:P U).length a2.length 8)=T)(h17:(A3 a2.length ([v5]:P U).length 8)=T)(h18:rec_ a0 (a1++([r9]:P U)) (a2++([v5]:P U)) a3 v6=N r18):∀(f:W),Ad Z B4 (B0 a1 a2 a3 x1 v5 r9 a0 r18) f [T,T,T,T,T,T,T,T,T,T,T,T,T,T,T,T,L] (A8 a1 a2 a3 x1 v5 r9 a0 (vc (.undef)) (vc (.undef)) (vc (.undef)) (vc (aL (Y rI (a1++([r9]:P U))))) (vc (.undef)) (vc (.undef)) (vc (aL (Y rI (a2++([v5]:P U))))) (vc (.undef)) (vc (.undef)) T T T T T T T T T T T T T T T T [(5,[aL (Y X7.row a0.Points),aL (Y X2.row a0.Segments)])] [(90000,1,Y (rL rI) r18),(3456,1,Y rI ([r9]:P U)),(3840,1,Y rI ([v5]:P U))]):=by
 intro f
 induction f with
 | zero=>intro  h; simp at h
 | succ f ih=>
  refine Af ⟨?_,?_,?_,?_,?_,?_,?_,?_,?_,?_,?_,?_,?_,?_,?_,?_,?_,⟨⟩⟩<;>try first | (intro h; cases h; done)
  ·intro h0 hw;refine⟨[],[(O,.keep [1,2,3,4,5,11,12,14,31,32,33,49,50,51,52,53,54,55,56,57,58,59,60,61,62,63,64,4] [5] [90000,3456,3840])],X,X,?_⟩;try simp only[A8,A5,A6,zA,I,A2,C,E,F,G,H,J]
   exact A79 rec_ h_rec a1 a2 a3 x1 v5 r9 a0 v6 r18 h14 h15 h16 h17 h18 _
theorem A8b(rec_:X1→(P U)→(P U)→U→(P (P U))→Q (P (P U)))(h_rec:∀(a0:X1) (a1 a2:P U) (a3:U) (a4:P (P U)) zr,rec_ a0 a1 a2 a3 a4=N zr→FCt Z 179 [.d (.ag (X1.row a0)),.d (.sc (.sl (Y rI a1))),.d (.sc (.sl (Y rI a2))),.d (.sc (.int .i64 a3)),.r] 1 (Y (rL rI) a4) (Y (rL rI) zr))(a1 a2:P U)(a3)(x1:U)(v5)(r9)(a0)(v6)(r18)(h14:(A3 ([]:P U).length a1.length 8)=T)(h15:(A3 a1.length ([r9]:P U).length 8)=T)(h16:(A3 ([]:P U).length a2.length 8)=T)(h17:(A3 a2.length ([v5]:P U).length 8)=T)(h18:rec_ a0 (a1++([r9]:P U)) (a2++([v5]:P U)) a3 v6=N r18):∀(f:W) (b0 b13 b14:V),Ad Z B4 (B0 a1 a2 a3 x1 v5 r9 a0 r18) f [b0,T,T,T,T,T,T,T,T,T,T,T,T,b13,b14,L,L] (A8 a1 a2 a3 x1 v5 r9 a0 (vc (.own 90000)) (vc (.undef)) (vc (.undef)) (vc (.own 3200)) (vc (.undef)) (vc (.undef)) (vc (.own 3584)) (vc (.own 90000)) (vc (.own 90000)) b0 T T T T T T T T T T T T b13 b14 L [(5,[aL (Y X7.row a0.Points),aL (Y X2.row a0.Segments)])] [(90000,1,Y (rL rI) v6),(3200,1,Y rI (a1++([r9]:P U))),(3456,1,Y rI ([r9]:P U)),(3584,1,Y rI (a2++([v5]:P U))),(3840,1,Y rI ([v5]:P U))]):=by
 intro f
 induction f with
 | zero=>intro b0 b13 b14 h; simp at h
 | succ f ih=>
  intro b0 b13 b14;refine Af ⟨?_,?_,?_,?_,?_,?_,?_,?_,?_,?_,?_,?_,?_,?_,?_,?_,?_,⟨⟩⟩<;>try first | (intro h; cases h; done) | (intro _ hw; simp at hw; done) | (intro h0 hw; obtain rfl:=hz h0 rfl; refine np ?_; simp only[A8,A5,A6,A2,C,E,F,G,H,J]; exact ih _ _ _)
  ·intro h0 hw;obtain rfl:=hq hw 0 rfl rfl;obtain rfl:=hq hw 13 rfl rfl;obtain rfl:=hq hw 14 rfl rfl;refine⟨[(O,.frz 3200),(O,.frz 3584)],[(O,.ren 4096 90000),(O,.keep [1,2,3,4,5,11,12,14,31,32,33,49,50,51,52,53,54,55,56,57,58,59,60,61,62,63,64,4] [5] [90000,3456,3840])],X,X,?_⟩;try simp only[A8,A5,A6,zA,I,A2,C,E,F,G,H,J]
   refine C8 ?_;try simp only[A2,C,E,F,G,H,J]
   refine C8 ?_;try simp only[A2,C,E,F,G,H,J]
   refine SN (h_rec _ _ _ _ _ _ h18) 90000 X X (by simp only[St.fresh,zB,zC,Ah]; simp[AV.cells,V1.cells,AC.uses]) X X ?_;rw[Sh];try simp only[A2,C,E,F,G,H,J]
   refine Wy X X ?_;try simp only[A2,C,E,F,G,H,J]
   exact A8a rec_ h_rec a1 a2 a3 x1 v5 r9 a0 v6 r18 h14 h15 h16 h17 h18 _
theorem cV(rec_:X1→(P U)→(P U)→U→(P (P U))→Q (P (P U)))(h_rec:∀(a0:X1) (a1 a2:P U) (a3:U) (a4:P (P U)) zr,rec_ a0 a1 a2 a3 a4=N zr→FCt Z 179 [.d (.ag (X1.row a0)),.d (.sc (.sl (Y rI a1))),.d (.sc (.sl (Y rI a2))),.d (.sc (.int .i64 a3)),.r] 1 (Y (rL rI) a4) (Y (rL rI) zr))(a1 a2:P U)(a3)(x1:U)(v5)(r9)(a0)(v6)(r18)(h14:(A3 ([]:P U).length a1.length 8)=T)(h15:(A3 a1.length ([r9]:P U).length 8)=T)(h16:(A3 ([]:P U).length a2.length 8)=T)(h17:(A3 a2.length ([v5]:P U).length 8)=T)(h18:rec_ a0 (a1++([r9]:P U)) (a2++([v5]:P U)) a3 v6=N r18):∀(f:W) (b0 b13 b14:V),Ad Z B4 (B0 a1 a2 a3 x1 v5 r9 a0 r18) f [b0,T,T,T,T,T,T,T,T,T,T,T,L,b13,b14,L,L] (A8 a1 a2 a3 x1 v5 r9 a0 (vc (.own 90000)) (vc (.undef)) (vc (.undef)) (vc (.own 3200)) (vc (.undef)) (vc (.own 3584)) (vc (.own 3584)) (vc (.own 90000)) (vc (.own 90000)) b0 T T T T T T T T T T T L b13 b14 L [(5,[aL (Y X7.row a0.Points),aL (Y X2.row a0.Segments)])] [(90000,1,Y (rL rI) v6),(3200,1,Y rI (a1++([r9]:P U))),(3456,1,Y rI ([r9]:P U)),(3584,1,Y rI a2),(3840,1,Y rI ([v5]:P U))]):=by
 intro f
 induction f with
 | zero=>intro b0 b13 b14 h; simp at h
 | succ f ih=>
  intro b0 b13 b14;refine Af ⟨?_,?_,?_,?_,?_,?_,?_,?_,?_,?_,?_,?_,?_,?_,?_,?_,?_,⟨⟩⟩<;>try first | (intro h; cases h; done) | (intro _ hw; simp at hw; done) | (intro h0 hw; obtain rfl:=hz h0 rfl; refine np ?_; simp only[A8,A5,A6,A2,C,E,F,G,H,J]; exact ih _ _ _)
  ·intro h0 hw;refine⟨[],[(O,.keep [1,2,3,4,5,11,12,14,31,32,33,49,50,51,52,53,54,55,56,57,58,59,60,61,62,63,64,4] [5] [90000,3200,3456,3584,3840])],X,X,?_⟩;try simp only[h17,A8,A5,A6,zA,I,A2,C,E,F,G,H,J]
   exact A8b rec_ h_rec a1 a2 a3 x1 v5 r9 a0 v6 r18 h14 h15 h16 h17 h18 _ b0 b13 b14
theorem A8c(rec_:X1→(P U)→(P U)→U→(P (P U))→Q (P (P U)))(h_rec:∀(a0:X1) (a1 a2:P U) (a3:U) (a4:P (P U)) zr,rec_ a0 a1 a2 a3 a4=N zr→FCt Z 179 [.d (.ag (X1.row a0)),.d (.sc (.sl (Y rI a1))),.d (.sc (.sl (Y rI a2))),.d (.sc (.int .i64 a3)),.r] 1 (Y (rL rI) a4) (Y (rL rI) zr))(a1 a2:P U)(a3)(x1:U)(v5)(r9)(a0)(v6)(r18)(h14:(A3 ([]:P U).length a1.length 8)=T)(h15:(A3 a1.length ([r9]:P U).length 8)=T)(h16:(A3 ([]:P U).length a2.length 8)=T)(h17:(A3 a2.length ([v5]:P U).length 8)=T)(h18:rec_ a0 (a1++([r9]:P U)) (a2++([v5]:P U)) a3 v6=N r18):∀(f:W) (b0 b10:V) (b13 b14:V),Ad Z B4 (B0 a1 a2 a3 x1 v5 r9 a0 r18) f [b0,T,T,T,T,T,T,T,T,T,b10,L,L,b13,b14,L,L] (A8 a1 a2 a3 x1 v5 r9 a0 (vc (.own 90000)) (vc (.undef)) (vc (.undef)) (vc (.own 3200)) (vc (.undef)) (vc (.own 3584)) (vc (.own 3584)) (vc (.own 90000)) (vc (.own 90000)) b0 T T T T T T T T T b10 L L b13 b14 L [(5,[aL (Y X7.row a0.Points),aL (Y X2.row a0.Segments)])] [(90000,1,Y (rL rI) v6),(3200,1,Y rI (a1++([r9]:P U))),(3456,1,Y rI ([r9]:P U)),(3584,1,Y rI a2)]):=by
 intro f
 induction f with
 | zero=>intro b0 b10 b13 b14 h; simp at h
 | succ f ih=>
  intro b0 b10 b13 b14;refine Af ⟨?_,?_,?_,?_,?_,?_,?_,?_,?_,?_,?_,?_,?_,?_,?_,?_,?_,⟨⟩⟩<;>try first | (intro h; cases h; done) | (intro _ hw; simp at hw; done) | (intro h0 hw; obtain rfl:=hz h0 rfl; refine np ?_; simp only[A8,A5,A6,A2,C,E,F,G,H,J]; exact ih _ _ _ _)
  ·intro h0 hw;obtain rfl:=hq hw 10 rfl rfl;refine⟨[],[(O,.keep [1,2,3,4,5,11,12,14,31,32,33,49,50,51,52,53,54,55,56,57,58,59,60,61,62,63,64,4] [5] [90000,3200,3456,3584,3840])],X,X,?_⟩;try simp only[A8,A5,A6,zA,I,A2,C,E,F,G,H,J]
   refine Aq (es:=Y rI ([v5]:P U)) X (by simp only[St.fresh,zB,zC,Ah]; simp[AV.cells,V1.cells,AC.uses]) ?_;try simp only[A2,C,E,F,G,H,J]
   exact cV rec_ h_rec a1 a2 a3 x1 v5 r9 a0 v6 r18 h14 h15 h16 h17 h18 _ b0 b13 b14
theorem Uq(rec_:X1→(P U)→(P U)→U→(P (P U))→Q (P (P U)))(h_rec:∀(a0:X1) (a1 a2:P U) (a3:U) (a4:P (P U)) zr,rec_ a0 a1 a2 a3 a4=N zr→FCt Z 179 [.d (.ag (X1.row a0)),.d (.sc (.sl (Y rI a1))),.d (.sc (.sl (Y rI a2))),.d (.sc (.int .i64 a3)),.r] 1 (Y (rL rI) a4) (Y (rL rI) zr))(a1 a2:P U)(a3)(x1:U)(v5)(r9)(a0)(v6)(r18)(h14:(A3 ([]:P U).length a1.length 8)=T)(h15:(A3 a1.length ([r9]:P U).length 8)=T)(h16:(A3 ([]:P U).length a2.length 8)=T)(h17:(A3 a2.length ([v5]:P U).length 8)=T)(h18:rec_ a0 (a1++([r9]:P U)) (a2++([v5]:P U)) a3 v6=N r18):∀(f:W) (b0 b8:V) (b13 b14:V),Ad Z B4 (B0 a1 a2 a3 x1 v5 r9 a0 r18) f [b0,T,T,T,T,T,T,T,b8,L,T,T,L,b13,b14,L,L] (A8 a1 a2 a3 x1 v5 r9 a0 (vc (.own 90000)) (vc (.undef)) (vc (.undef)) (vc (.own 3200)) (vc (.own 3584)) (vc (.own 3584)) (vc (.own 3584)) (vc (.own 90000)) (vc (.own 90000)) b0 T T T T T T T b8 L T T L b13 b14 L [(5,[aL (Y X7.row a0.Points),aL (Y X2.row a0.Segments)])] [(90000,1,Y (rL rI) v6),(3200,1,Y rI (a1++([r9]:P U))),(3456,1,Y rI ([r9]:P U)),(3584,1,Y rI ([]:P U)),(3840,1,Y rI ([v5]:P U))]):=by
 intro f
 induction f with
 | zero=>intro b0 b8 b13 b14 h; simp at h
 | succ f ih=>
  intro b0 b8 b13 b14;refine Af ⟨?_,?_,?_,?_,?_,?_,?_,?_,?_,?_,?_,?_,?_,?_,?_,?_,?_,⟨⟩⟩<;>try first | (intro h; cases h; done) | (intro _ hw; simp at hw; done) | (intro h0 hw; obtain rfl:=hz h0 rfl; refine np ?_; simp only[A8,A5,A6,A2,C,E,F,G,H,J]; exact ih _ _ _ _)
  ·intro h0 hw;obtain rfl:=hq hw 8 rfl rfl;refine⟨[],[(O,.keep [1,2,3,4,5,11,12,14,31,32,33,49,50,51,52,53,54,55,56,57,58,59,60,61,62,63,64,4] [5] [90000,3200,3456,3584,3840])],X,X,?_⟩;try simp only[h16,A8,A5,A6,zA,I,A2,C,E,F,G,H,J]
   exact cV rec_ h_rec a1 a2 a3 x1 v5 r9 a0 v6 r18 h14 h15 h16 h17 h18 _ b0 b13 b14
theorem cW(rec_:X1→(P U)→(P U)→U→(P (P U))→Q (P (P U)))(h_rec:∀(a0:X1) (a1 a2:P U) (a3:U) (a4:P (P U)) zr,rec_ a0 a1 a2 a3 a4=N zr→FCt Z 179 [.d (.ag (X1.row a0)),.d (.sc (.sl (Y rI a1))),.d (.sc (.sl (Y rI a2))),.d (.sc (.int .i64 a3)),.r] 1 (Y (rL rI) a4) (Y (rL rI) zr))(a1 a2:P U)(a3)(x1:U)(v5)(r9)(a0)(v6)(r18)(h14:(A3 ([]:P U).length a1.length 8)=T)(h15:(A3 a1.length ([r9]:P U).length 8)=T)(h16:(A3 ([]:P U).length a2.length 8)=T)(h17:(A3 a2.length ([v5]:P U).length 8)=T)(h18:rec_ a0 (a1++([r9]:P U)) (a2++([v5]:P U)) a3 v6=N r18):∀(f:W) (b0 b8:V) (b10 b13 b14:V),Ad Z B4 (B0 a1 a2 a3 x1 v5 r9 a0 r18) f [b0,T,T,T,T,T,T,T,b8,L,b10,L,L,b13,b14,L,L] (A8 a1 a2 a3 x1 v5 r9 a0 (vc (.own 90000)) (vc (.undef)) (vc (.undef)) (vc (.own 3200)) (vc (.own 3584)) (vc (.own 3584)) (vc (.own 3584)) (vc (.own 90000)) (vc (.own 90000)) b0 T T T T T T T b8 L b10 L L b13 b14 L [(5,[aL (Y X7.row a0.Points),aL (Y X2.row a0.Segments)])] [(90000,1,Y (rL rI) v6),(3200,1,Y rI (a1++([r9]:P U))),(3456,1,Y rI ([r9]:P U)),(3584,1,Y rI ([]:P U))]):=by
 intro f
 induction f with
 | zero=>intro b0 b8 b10 b13 b14 h; simp at h
 | succ f ih=>
  intro b0 b8 b10 b13 b14;refine Af ⟨?_,?_,?_,?_,?_,?_,?_,?_,?_,?_,?_,?_,?_,?_,?_,?_,?_,⟨⟩⟩<;>try first | (intro h; cases h; done) | (intro _ hw; simp at hw; done) | (intro h0 hw; obtain rfl:=hz h0 rfl; refine np ?_; simp only[A8,A5,A6,A2,C,E,F,G,H,J]; exact ih _ _ _ _ _)
  ·intro h0 hw;obtain rfl:=hq hw 8 rfl rfl;refine⟨[],[(O,.keep [1,2,3,4,5,11,12,14,31,32,33,49,50,51,52,53,54,55,56,57,58,59,60,61,62,63,64,4] [5] [90000,3200,3456,3584])],X,X,?_⟩;try simp only[h16,A8,A5,A6,zA,I,A2,C,E,F,G,H,J]
   exact A8c rec_ h_rec a1 a2 a3 x1 v5 r9 a0 v6 r18 h14 h15 h16 h17 h18 _ b0 b10 b13 b14
  ·intro h0 hw;obtain rfl:=hq hw 10 rfl rfl;refine⟨[],[(O,.keep [1,2,3,4,5,11,12,14,31,32,33,49,50,51,52,53,54,55,56,57,58,59,60,61,62,63,64,4] [5] [90000,3200,3456,3584,3840])],X,X,?_⟩;try simp only[A8,A5,A6,zA,I,A2,C,E,F,G,H,J]
   refine Aq (es:=Y rI ([v5]:P U)) X (by simp only[St.fresh,zB,zC,Ah]; simp[AV.cells,V1.cells,AC.uses]) ?_;try simp only[A2,C,E,F,G,H,J]
   exact Uq rec_ h_rec a1 a2 a3 x1 v5 r9 a0 v6 r18 h14 h15 h16 h17 h18 _ b0 b8 b13 b14
theorem cX(rec_:X1→(P U)→(P U)→U→(P (P U))→Q (P (P U)))(h_rec:∀(a0:X1) (a1 a2:P U) (a3:U) (a4:P (P U)) zr,rec_ a0 a1 a2 a3 a4=N zr→FCt Z 179 [.d (.ag (X1.row a0)),.d (.sc (.sl (Y rI a1))),.d (.sc (.sl (Y rI a2))),.d (.sc (.int .i64 a3)),.r] 1 (Y (rL rI) a4) (Y (rL rI) zr))(a1 a2:P U)(a3)(x1:U)(v5)(r9)(a0)(v6)(r18)(h14:(A3 ([]:P U).length a1.length 8)=T)(h15:(A3 a1.length ([r9]:P U).length 8)=T)(h16:(A3 ([]:P U).length a2.length 8)=T)(h17:(A3 a2.length ([v5]:P U).length 8)=T)(h18:rec_ a0 (a1++([r9]:P U)) (a2++([v5]:P U)) a3 v6=N r18):∀(f:W) (b0 b8:V) (b13 b14:V),Ad Z B4 (B0 a1 a2 a3 x1 v5 r9 a0 r18) f [b0,T,T,T,T,T,T,L,b8,L,T,T,L,b13,b14,L,L] (A8 a1 a2 a3 x1 v5 r9 a0 (vc (.own 90000)) (vc (.undef)) (vc (.undef)) (vc (.own 3200)) (vc (.own 3584)) (vc (.own 3584)) (vc (.own 3584)) (vc (.own 90000)) (vc (.own 90000)) b0 T T T T T T L b8 L T T L b13 b14 L [(5,[aL (Y X7.row a0.Points),aL (Y X2.row a0.Segments)])] [(90000,1,Y (rL rI) v6),(3200,1,Y rI (a1++([r9]:P U))),(3456,1,Y rI ([r9]:P U)),(3840,1,Y rI ([v5]:P U))]):=by
 intro f
 induction f with
 | zero=>intro b0 b8 b13 b14 h; simp at h
 | succ f ih=>
  intro b0 b8 b13 b14;refine Af ⟨?_,?_,?_,?_,?_,?_,?_,?_,?_,?_,?_,?_,?_,?_,?_,?_,?_,⟨⟩⟩<;>try first | (intro h; cases h; done) | (intro _ hw; simp at hw; done) | (intro h0 hw; obtain rfl:=hz h0 rfl; refine np ?_; simp only[A8,A5,A6,A2,C,E,F,G,H,J]; exact ih _ _ _ _)
  ·intro h0 hw;refine⟨[],[(O,.keep [1,2,3,4,5,11,12,14,31,32,33,49,50,51,52,53,54,55,56,57,58,59,60,61,62,63,64,4] [5] [90000,3200,3456,3584,3840])],X,X,?_⟩;try simp only[A8,A5,A6,zA,I,A2,C,E,F,G,H,J]
   refine Aq (es:=Y rI ([]:P U)) X (by simp only[St.fresh,zB,zC,Ah]; simp[AV.cells,V1.cells,AC.uses]) ?_;try simp only[A2,C,E,F,G,H,J]
   exact Uq rec_ h_rec a1 a2 a3 x1 v5 r9 a0 v6 r18 h14 h15 h16 h17 h18 _ b0 b8 b13 b14
theorem RN(rec_:X1→(P U)→(P U)→U→(P (P U))→Q (P (P U)))(h_rec:∀(a0:X1) (a1 a2:P U) (a3:U) (a4:P (P U)) zr,rec_ a0 a1 a2 a3 a4=N zr→FCt Z 179 [.d (.ag (X1.row a0)),.d (.sc (.sl (Y rI a1))),.d (.sc (.sl (Y rI a2))),.d (.sc (.int .i64 a3)),.r] 1 (Y (rL rI) a4) (Y (rL rI) zr))(a1 a2:P U)(a3)(x1:U)(v5)(r9)(a0)(v6)(r18)(h14:(A3 ([]:P U).length a1.length 8)=T)(h15:(A3 a1.length ([r9]:P U).length 8)=T)(h16:(A3 ([]:P U).length a2.length 8)=T)(h17:(A3 a2.length ([v5]:P U).length 8)=T)(h18:rec_ a0 (a1++([r9]:P U)) (a2++([v5]:P U)) a3 v6=N r18):∀(f:W) (b0 b8:V) (b13 b14:V),Ad Z B4 (B0 a1 a2 a3 x1 v5 r9 a0 r18) f [b0,T,T,T,T,T,L,T,b8,L,T,T,L,b13,b14,L,L] (A8 a1 a2 a3 x1 v5 r9 a0 (vc (.own 90000)) (vc (.undef)) (vc (.own 3200)) (vc (.own 3200)) (vc (.own 3584)) (vc (.own 3584)) (vc (.own 3584)) (vc (.own 90000)) (vc (.own 90000)) b0 T T T T T L T b8 L T T L b13 b14 L [(5,[aL (Y X7.row a0.Points),aL (Y X2.row a0.Segments)])] [(90000,1,Y (rL rI) v6),(3200,1,Y rI a1),(3456,1,Y rI ([r9]:P U)),(3584,1,Y rI ([]:P U)),(3840,1,Y rI ([v5]:P U))]):=by
 intro f
 induction f with
 | zero=>intro b0 b8 b13 b14 h; simp at h
 | succ f ih=>
  intro b0 b8 b13 b14;refine Af ⟨?_,?_,?_,?_,?_,?_,?_,?_,?_,?_,?_,?_,?_,?_,?_,?_,?_,⟨⟩⟩<;>try first | (intro h; cases h; done) | (intro _ hw; simp at hw; done) | (intro h0 hw; obtain rfl:=hz h0 rfl; refine np ?_; simp only[A8,A5,A6,A2,C,E,F,G,H,J]; exact ih _ _ _ _)
  ·intro h0 hw;refine⟨[],[(O,.keep [1,2,3,4,5,11,12,14,31,32,33,49,50,51,52,53,54,55,56,57,58,59,60,61,62,63,64,4] [5] [90000,3200,3456,3584,3840])],X,X,?_⟩;try simp only[h15,A8,A5,A6,zA,I,A2,C,E,F,G,H,J]
   exact Uq rec_ h_rec a1 a2 a3 x1 v5 r9 a0 v6 r18 h14 h15 h16 h17 h18 _ b0 b8 b13 b14
theorem A8e(rec_:X1→(P U)→(P U)→U→(P (P U))→Q (P (P U)))(h_rec:∀(a0:X1) (a1 a2:P U) (a3:U) (a4:P (P U)) zr,rec_ a0 a1 a2 a3 a4=N zr→FCt Z 179 [.d (.ag (X1.row a0)),.d (.sc (.sl (Y rI a1))),.d (.sc (.sl (Y rI a2))),.d (.sc (.int .i64 a3)),.r] 1 (Y (rL rI) a4) (Y (rL rI) zr))(a1 a2:P U)(a3)(x1:U)(v5)(r9)(a0)(v6)(r18)(h14:(A3 ([]:P U).length a1.length 8)=T)(h15:(A3 a1.length ([r9]:P U).length 8)=T)(h16:(A3 ([]:P U).length a2.length 8)=T)(h17:(A3 a2.length ([v5]:P U).length 8)=T)(h18:rec_ a0 (a1++([r9]:P U)) (a2++([v5]:P U)) a3 v6=N r18):∀(f:W) (b0 b8:V) (b10 b13 b14:V),Ad Z B4 (B0 a1 a2 a3 x1 v5 r9 a0 r18) f [b0,T,T,T,T,T,T,L,b8,L,b10,L,L,b13,b14,L,L] (A8 a1 a2 a3 x1 v5 r9 a0 (vc (.own 90000)) (vc (.undef)) (vc (.undef)) (vc (.own 3200)) (vc (.own 3584)) (vc (.own 3584)) (vc (.own 3584)) (vc (.own 90000)) (vc (.own 90000)) b0 T T T T T T L b8 L b10 L L b13 b14 L [(5,[aL (Y X7.row a0.Points),aL (Y X2.row a0.Segments)])] [(90000,1,Y (rL rI) v6),(3200,1,Y rI (a1++([r9]:P U))),(3456,1,Y rI ([r9]:P U))]):=by
 intro f
 induction f with
 | zero=>intro b0 b8 b10 b13 b14 h; simp at h
 | succ f ih=>
  intro b0 b8 b10 b13 b14;refine Af ⟨?_,?_,?_,?_,?_,?_,?_,?_,?_,?_,?_,?_,?_,?_,?_,?_,?_,⟨⟩⟩<;>try first | (intro h; cases h; done) | (intro _ hw; simp at hw; done) | (intro h0 hw; obtain rfl:=hz h0 rfl; refine np ?_; simp only[A8,A5,A6,A2,C,E,F,G,H,J]; exact ih _ _ _ _ _)
  ·intro h0 hw;refine⟨[],[(O,.keep [1,2,3,4,5,11,12,14,31,32,33,49,50,51,52,53,54,55,56,57,58,59,60,61,62,63,64,4] [5] [90000,3200,3456,3584])],X,X,?_⟩;try simp only[A8,A5,A6,zA,I,A2,C,E,F,G,H,J]
   refine Aq (es:=Y rI ([]:P U)) X (by simp only[St.fresh,zB,zC,Ah]; simp[AV.cells,V1.cells,AC.uses]) ?_;try simp only[A2,C,E,F,G,H,J]
   exact cW rec_ h_rec a1 a2 a3 x1 v5 r9 a0 v6 r18 h14 h15 h16 h17 h18 _ b0 b8 b10 b13 b14
  ·intro h0 hw;obtain rfl:=hq hw 10 rfl rfl;refine⟨[],[(O,.keep [1,2,3,4,5,11,12,14,31,32,33,49,50,51,52,53,54,55,56,57,58,59,60,61,62,63,64,4] [5] [90000,3200,3456,3840])],X,X,?_⟩;try simp only[A8,A5,A6,zA,I,A2,C,E,F,G,H,J]
   refine Aq (es:=Y rI ([v5]:P U)) X (by simp only[St.fresh,zB,zC,Ah]; simp[AV.cells,V1.cells,AC.uses]) ?_;try simp only[A2,C,E,F,G,H,J]
   exact cX rec_ h_rec a1 a2 a3 x1 v5 r9 a0 v6 r18 h14 h15 h16 h17 h18 _ b0 b8 b13 b14
theorem Ur(rec_:X1→(P U)→(P U)→U→(P (P U))→Q (P (P U)))(h_rec:∀(a0:X1) (a1 a2:P U) (a3:U) (a4:P (P U)) zr,rec_ a0 a1 a2 a3 a4=N zr→FCt Z 179 [.d (.ag (X1.row a0)),.d (.sc (.sl (Y rI a1))),.d (.sc (.sl (Y rI a2))),.d (.sc (.int .i64 a3)),.r] 1 (Y (rL rI) a4) (Y (rL rI) zr))(a1 a2:P U)(a3)(x1:U)(v5)(r9)(a0)(v6)(r18)(h14:(A3 ([]:P U).length a1.length 8)=T)(h15:(A3 a1.length ([r9]:P U).length 8)=T)(h16:(A3 ([]:P U).length a2.length 8)=T)(h17:(A3 a2.length ([v5]:P U).length 8)=T)(h18:rec_ a0 (a1++([r9]:P U)) (a2++([v5]:P U)) a3 v6=N r18):∀(f:W) (b0 b8:V) (b10 b13 b14:V),Ad Z B4 (B0 a1 a2 a3 x1 v5 r9 a0 r18) f [b0,T,T,T,T,T,L,T,b8,L,b10,L,L,b13,b14,L,L] (A8 a1 a2 a3 x1 v5 r9 a0 (vc (.own 90000)) (vc (.undef)) (vc (.own 3200)) (vc (.own 3200)) (vc (.own 3584)) (vc (.own 3584)) (vc (.own 3584)) (vc (.own 90000)) (vc (.own 90000)) b0 T T T T T L T b8 L b10 L L b13 b14 L [(5,[aL (Y X7.row a0.Points),aL (Y X2.row a0.Segments)])] [(90000,1,Y (rL rI) v6),(3200,1,Y rI a1),(3456,1,Y rI ([r9]:P U)),(3584,1,Y rI ([]:P U))]):=by
 intro f
 induction f with
 | zero=>intro b0 b8 b10 b13 b14 h; simp at h
 | succ f ih=>
  intro b0 b8 b10 b13 b14;refine Af ⟨?_,?_,?_,?_,?_,?_,?_,?_,?_,?_,?_,?_,?_,?_,?_,?_,?_,⟨⟩⟩<;>try first | (intro h; cases h; done) | (intro _ hw; simp at hw; done) | (intro h0 hw; obtain rfl:=hz h0 rfl; refine np ?_; simp only[A8,A5,A6,A2,C,E,F,G,H,J]; exact ih _ _ _ _ _)
  ·intro h0 hw;refine⟨[],[(O,.keep [1,2,3,4,5,11,12,14,31,32,33,49,50,51,52,53,54,55,56,57,58,59,60,61,62,63,64,4] [5] [90000,3200,3456,3584])],X,X,?_⟩;try simp only[h15,A8,A5,A6,zA,I,A2,C,E,F,G,H,J]
   exact cW rec_ h_rec a1 a2 a3 x1 v5 r9 a0 v6 r18 h14 h15 h16 h17 h18 _ b0 b8 b10 b13 b14
  ·intro h0 hw;obtain rfl:=hq hw 10 rfl rfl;refine⟨[],[(O,.keep [1,2,3,4,5,11,12,14,31,32,33,49,50,51,52,53,54,55,56,57,58,59,60,61,62,63,64,4] [5] [90000,3200,3456,3584,3840])],X,X,?_⟩;try simp only[A8,A5,A6,zA,I,A2,C,E,F,G,H,J]
   refine Aq (es:=Y rI ([v5]:P U)) X (by simp only[St.fresh,zB,zC,Ah]; simp[AV.cells,V1.cells,AC.uses]) ?_;try simp only[A2,C,E,F,G,H,J]
   exact RN rec_ h_rec a1 a2 a3 x1 v5 r9 a0 v6 r18 h14 h15 h16 h17 h18 _ b0 b8 b13 b14
theorem Us(rec_:X1→(P U)→(P U)→U→(P (P U))→Q (P (P U)))(h_rec:∀(a0:X1) (a1 a2:P U) (a3:U) (a4:P (P U)) zr,rec_ a0 a1 a2 a3 a4=N zr→FCt Z 179 [.d (.ag (X1.row a0)),.d (.sc (.sl (Y rI a1))),.d (.sc (.sl (Y rI a2))),.d (.sc (.int .i64 a3)),.r] 1 (Y (rL rI) a4) (Y (rL rI) zr))(a1 a2:P U)(a3)(x1:U)(v5)(r9)(a0)(v6)(r18)(h14:(A3 ([]:P U).length a1.length 8)=T)(h15:(A3 a1.length ([r9]:P U).length 8)=T)(h16:(A3 ([]:P U).length a2.length 8)=T)(h17:(A3 a2.length ([v5]:P U).length 8)=T)(h18:rec_ a0 (a1++([r9]:P U)) (a2++([v5]:P U)) a3 v6=N r18):∀(f:W) (b0 b8:V) (b13 b14:V),Ad Z B4 (B0 a1 a2 a3 x1 v5 r9 a0 r18) f [b0,T,T,T,T,T,L,L,b8,L,T,T,L,b13,b14,L,L] (A8 a1 a2 a3 x1 v5 r9 a0 (vc (.own 90000)) (vc (.undef)) (vc (.own 3200)) (vc (.own 3200)) (vc (.own 3584)) (vc (.own 3584)) (vc (.own 3584)) (vc (.own 90000)) (vc (.own 90000)) b0 T T T T T L L b8 L T T L b13 b14 L [(5,[aL (Y X7.row a0.Points),aL (Y X2.row a0.Segments)])] [(90000,1,Y (rL rI) v6),(3200,1,Y rI a1),(3456,1,Y rI ([r9]:P U)),(3840,1,Y rI ([v5]:P U))]):=by
 intro f
 induction f with
 | zero=>intro b0 b8 b13 b14 h; simp at h
 | succ f ih=>
  intro b0 b8 b13 b14;refine Af ⟨?_,?_,?_,?_,?_,?_,?_,?_,?_,?_,?_,?_,?_,?_,?_,?_,?_,⟨⟩⟩<;>try first | (intro h; cases h; done) | (intro _ hw; simp at hw; done) | (intro h0 hw; obtain rfl:=hz h0 rfl; refine np ?_; simp only[A8,A5,A6,A2,C,E,F,G,H,J]; exact ih _ _ _ _)
  ·intro h0 hw;refine⟨[],[(O,.keep [1,2,3,4,5,11,12,14,31,32,33,49,50,51,52,53,54,55,56,57,58,59,60,61,62,63,64,4] [5] [90000,3200,3456,3840])],X,X,?_⟩;try simp only[h15,A8,A5,A6,zA,I,A2,C,E,F,G,H,J]
   exact cX rec_ h_rec a1 a2 a3 x1 v5 r9 a0 v6 r18 h14 h15 h16 h17 h18 _ b0 b8 b13 b14
  ·intro h0 hw;refine⟨[],[(O,.keep [1,2,3,4,5,11,12,14,31,32,33,49,50,51,52,53,54,55,56,57,58,59,60,61,62,63,64,4] [5] [90000,3200,3456,3584,3840])],X,X,?_⟩;try simp only[A8,A5,A6,zA,I,A2,C,E,F,G,H,J]
   refine Aq (es:=Y rI ([]:P U)) X (by simp only[St.fresh,zB,zC,Ah]; simp[AV.cells,V1.cells,AC.uses]) ?_;try simp only[A2,C,E,F,G,H,J]
   exact RN rec_ h_rec a1 a2 a3 x1 v5 r9 a0 v6 r18 h14 h15 h16 h17 h18 _ b0 b8 b13 b14
theorem Ut(rec_:X1→(P U)→(P U)→U→(P (P U))→Q (P (P U)))(h_rec:∀(a0:X1) (a1 a2:P U) (a3:U) (a4:P (P U)) zr,rec_ a0 a1 a2 a3 a4=N zr→FCt Z 179 [.d (.ag (X1.row a0)),.d (.sc (.sl (Y rI a1))),.d (.sc (.sl (Y rI a2))),.d (.sc (.int .i64 a3)),.r] 1 (Y (rL rI) a4) (Y (rL rI) zr))(a1 a2:P U)(a3)(x1:U)(v5)(r9)(a0)(v6)(r18)(h14:(A3 ([]:P U).length a1.length 8)=T)(h15:(A3 a1.length ([r9]:P U).length 8)=T)(h16:(A3 ([]:P U).length a2.length 8)=T)(h17:(A3 a2.length ([v5]:P U).length 8)=T)(h18:rec_ a0 (a1++([r9]:P U)) (a2++([v5]:P U)) a3 v6=N r18):∀(f:W) (b0 b4:V) (b8 b13 b14:V),Ad Z B4 (B0 a1 a2 a3 x1 v5 r9 a0 r18) f [b0,T,T,T,b4,L,L,T,b8,L,T,T,L,b13,b14,L,L] (A8 a1 a2 a3 x1 v5 r9 a0 (vc (.own 90000)) (vc (.undef)) (vc (.own 3200)) (vc (.own 3200)) (vc (.own 3584)) (vc (.own 3584)) (vc (.own 3584)) (vc (.own 90000)) (vc (.own 90000)) b0 T T T b4 L L T b8 L T T L b13 b14 L [(5,[aL (Y X7.row a0.Points),aL (Y X2.row a0.Segments)])] [(90000,1,Y (rL rI) v6),(3200,1,Y rI a1),(3584,1,Y rI ([]:P U)),(3840,1,Y rI ([v5]:P U))]):=by
 intro f
 induction f with
 | zero=>intro b0 b4 b8 b13 b14 h; simp at h
 | succ f ih=>
  intro b0 b4 b8 b13 b14;refine Af ⟨?_,?_,?_,?_,?_,?_,?_,?_,?_,?_,?_,?_,?_,?_,?_,?_,?_,⟨⟩⟩<;>try first | (intro h; cases h; done) | (intro _ hw; simp at hw; done) | (intro h0 hw; obtain rfl:=hz h0 rfl; refine np ?_; simp only[A8,A5,A6,A2,C,E,F,G,H,J]; exact ih _ _ _ _ _)
  ·intro h0 hw;obtain rfl:=hq hw 4 rfl rfl;refine⟨[],[(O,.keep [1,2,3,4,5,11,12,14,31,32,33,49,50,51,52,53,54,55,56,57,58,59,60,61,62,63,64,4] [5] [90000,3200,3456,3584,3840])],X,X,?_⟩;try simp only[A8,A5,A6,zA,I,A2,C,E,F,G,H,J]
   refine Aq (es:=Y rI ([r9]:P U)) X (by simp only[St.fresh,zB,zC,Ah]; simp[AV.cells,V1.cells,AC.uses]) ?_;try simp only[A2,C,E,F,G,H,J]
   exact RN rec_ h_rec a1 a2 a3 x1 v5 r9 a0 v6 r18 h14 h15 h16 h17 h18 _ b0 b8 b13 b14
theorem RO(rec_:X1→(P U)→(P U)→U→(P (P U))→Q (P (P U)))(h_rec:∀(a0:X1) (a1 a2:P U) (a3:U) (a4:P (P U)) zr,rec_ a0 a1 a2 a3 a4=N zr→FCt Z 179 [.d (.ag (X1.row a0)),.d (.sc (.sl (Y rI a1))),.d (.sc (.sl (Y rI a2))),.d (.sc (.int .i64 a3)),.r] 1 (Y (rL rI) a4) (Y (rL rI) zr))(a1 a2:P U)(a3)(x1:U)(v5)(r9)(a0)(v6)(r18)(h14:(A3 ([]:P U).length a1.length 8)=T)(h15:(A3 a1.length ([r9]:P U).length 8)=T)(h16:(A3 ([]:P U).length a2.length 8)=T)(h17:(A3 a2.length ([v5]:P U).length 8)=T)(h18:rec_ a0 (a1++([r9]:P U)) (a2++([v5]:P U)) a3 v6=N r18):∀(f:W) (b0 b2:V) (b8 b13 b14:V),Ad Z B4 (B0 a1 a2 a3 x1 v5 r9 a0 r18) f [b0,T,b2,L,T,T,L,T,b8,L,T,T,L,b13,b14,L,L] (A8 a1 a2 a3 x1 v5 r9 a0 (vc (.own 90000)) (vc (.own 3200)) (vc (.own 3200)) (vc (.own 3200)) (vc (.own 3584)) (vc (.own 3584)) (vc (.own 3584)) (vc (.own 90000)) (vc (.own 90000)) b0 T b2 L T T L T b8 L T T L b13 b14 L [(5,[aL (Y X7.row a0.Points),aL (Y X2.row a0.Segments)])] [(90000,1,Y (rL rI) v6),(3200,1,Y rI ([]:P U)),(3456,1,Y rI ([r9]:P U)),(3584,1,Y rI ([]:P U)),(3840,1,Y rI ([v5]:P U))]):=by
 intro f
 induction f with
 | zero=>intro b0 b2 b8 b13 b14 h; simp at h
 | succ f ih=>
  intro b0 b2 b8 b13 b14;refine Af ⟨?_,?_,?_,?_,?_,?_,?_,?_,?_,?_,?_,?_,?_,?_,?_,?_,?_,⟨⟩⟩<;>try first | (intro h; cases h; done) | (intro _ hw; simp at hw; done) | (intro h0 hw; obtain rfl:=hz h0 rfl; refine np ?_; simp only[A8,A5,A6,A2,C,E,F,G,H,J]; exact ih _ _ _ _ _)
  ·intro h0 hw;obtain rfl:=hq hw 2 rfl rfl;refine⟨[],[(O,.keep [1,2,3,4,5,11,12,14,31,32,33,49,50,51,52,53,54,55,56,57,58,59,60,61,62,63,64,4] [5] [90000,3200,3456,3584,3840])],X,X,?_⟩;try simp only[h14,A8,A5,A6,zA,I,A2,C,E,F,G,H,J]
   exact RN rec_ h_rec a1 a2 a3 x1 v5 r9 a0 v6 r18 h14 h15 h16 h17 h18 _ b0 b8 b13 b14
theorem cY(rec_:X1→(P U)→(P U)→U→(P (P U))→Q (P (P U)))(h_rec:∀(a0:X1) (a1 a2:P U) (a3:U) (a4:P (P U)) zr,rec_ a0 a1 a2 a3 a4=N zr→FCt Z 179 [.d (.ag (X1.row a0)),.d (.sc (.sl (Y rI a1))),.d (.sc (.sl (Y rI a2))),.d (.sc (.int .i64 a3)),.r] 1 (Y (rL rI) a4) (Y (rL rI) zr))(a1 a2:P U)(a3)(x1:U)(v5)(r9)(a0)(v6)(r18)(h14:(A3 ([]:P U).length a1.length 8)=T)(h15:(A3 a1.length ([r9]:P U).length 8)=T)(h16:(A3 ([]:P U).length a2.length 8)=T)(h17:(A3 a2.length ([v5]:P U).length 8)=T)(h18:rec_ a0 (a1++([r9]:P U)) (a2++([v5]:P U)) a3 v6=N r18):∀(f:W) (b0 b8:V) (b10 b13 b14:V),Ad Z B4 (B0 a1 a2 a3 x1 v5 r9 a0 r18) f [b0,T,T,T,T,T,L,L,b8,L,b10,L,L,b13,b14,L,L] (A8 a1 a2 a3 x1 v5 r9 a0 (vc (.own 90000)) (vc (.undef)) (vc (.own 3200)) (vc (.own 3200)) (vc (.own 3584)) (vc (.own 3584)) (vc (.own 3584)) (vc (.own 90000)) (vc (.own 90000)) b0 T T T T T L L b8 L b10 L L b13 b14 L [(5,[aL (Y X7.row a0.Points),aL (Y X2.row a0.Segments)])] [(90000,1,Y (rL rI) v6),(3200,1,Y rI a1),(3456,1,Y rI ([r9]:P U))]):=by
 intro f
 induction f with
 | zero=>intro b0 b8 b10 b13 b14 h; simp at h
 | succ f ih=>
  intro b0 b8 b10 b13 b14;refine Af ⟨?_,?_,?_,?_,?_,?_,?_,?_,?_,?_,?_,?_,?_,?_,?_,?_,?_,⟨⟩⟩<;>try first | (intro h; cases h; done) | (intro _ hw; simp at hw; done) | (intro h0 hw; obtain rfl:=hz h0 rfl; refine np ?_; simp only[A8,A5,A6,A2,C,E,F,G,H,J]; exact ih _ _ _ _ _)
  ·intro h0 hw;refine⟨[],[(O,.keep [1,2,3,4,5,11,12,14,31,32,33,49,50,51,52,53,54,55,56,57,58,59,60,61,62,63,64,4] [5] [90000,3200,3456])],X,X,?_⟩;try simp only[h15,A8,A5,A6,zA,I,A2,C,E,F,G,H,J]
   exact A8e rec_ h_rec a1 a2 a3 x1 v5 r9 a0 v6 r18 h14 h15 h16 h17 h18 _ b0 b8 b10 b13 b14
  ·intro h0 hw;refine⟨[],[(O,.keep [1,2,3,4,5,11,12,14,31,32,33,49,50,51,52,53,54,55,56,57,58,59,60,61,62,63,64,4] [5] [90000,3200,3456,3584])],X,X,?_⟩;try simp only[A8,A5,A6,zA,I,A2,C,E,F,G,H,J]
   refine Aq (es:=Y rI ([]:P U)) X (by simp only[St.fresh,zB,zC,Ah]; simp[AV.cells,V1.cells,AC.uses]) ?_;try simp only[A2,C,E,F,G,H,J]
   exact Ur rec_ h_rec a1 a2 a3 x1 v5 r9 a0 v6 r18 h14 h15 h16 h17 h18 _ b0 b8 b10 b13 b14
  ·intro h0 hw;obtain rfl:=hq hw 10 rfl rfl;refine⟨[],[(O,.keep [1,2,3,4,5,11,12,14,31,32,33,49,50,51,52,53,54,55,56,57,58,59,60,61,62,63,64,4] [5] [90000,3200,3456,3840])],X,X,?_⟩;try simp only[A8,A5,A6,zA,I,A2,C,E,F,G,H,J]
   refine Aq (es:=Y rI ([v5]:P U)) X (by simp only[St.fresh,zB,zC,Ah]; simp[AV.cells,V1.cells,AC.uses]) ?_;try simp only[A2,C,E,F,G,H,J]
   exact Us rec_ h_rec a1 a2 a3 x1 v5 r9 a0 v6 r18 h14 h15 h16 h17 h18 _ b0 b8 b13 b14
theorem cZ(rec_:X1→(P U)→(P U)→U→(P (P U))→Q (P (P U)))(h_rec:∀(a0:X1) (a1 a2:P U) (a3:U) (a4:P (P U)) zr,rec_ a0 a1 a2 a3 a4=N zr→FCt Z 179 [.d (.ag (X1.row a0)),.d (.sc (.sl (Y rI a1))),.d (.sc (.sl (Y rI a2))),.d (.sc (.int .i64 a3)),.r] 1 (Y (rL rI) a4) (Y (rL rI) zr))(a1 a2:P U)(a3)(x1:U)(v5)(r9)(a0)(v6)(r18)(h14:(A3 ([]:P U).length a1.length 8)=T)(h15:(A3 a1.length ([r9]:P U).length 8)=T)(h16:(A3 ([]:P U).length a2.length 8)=T)(h17:(A3 a2.length ([v5]:P U).length 8)=T)(h18:rec_ a0 (a1++([r9]:P U)) (a2++([v5]:P U)) a3 v6=N r18):∀(f:W) (b0 b4:V) (b8 b10:V) (b13 b14:V),Ad Z B4 (B0 a1 a2 a3 x1 v5 r9 a0 r18) f [b0,T,T,T,b4,L,L,T,b8,L,b10,L,L,b13,b14,L,L] (A8 a1 a2 a3 x1 v5 r9 a0 (vc (.own 90000)) (vc (.undef)) (vc (.own 3200)) (vc (.own 3200)) (vc (.own 3584)) (vc (.own 3584)) (vc (.own 3584)) (vc (.own 90000)) (vc (.own 90000)) b0 T T T b4 L L T b8 L b10 L L b13 b14 L [(5,[aL (Y X7.row a0.Points),aL (Y X2.row a0.Segments)])] [(90000,1,Y (rL rI) v6),(3200,1,Y rI a1),(3584,1,Y rI ([]:P U))]):=by
 intro f
 induction f with
 | zero=>intro b0 b4 b8 b10 b13 b14 h; simp at h
 | succ f ih=>
  intro b0 b4 b8 b10 b13 b14;refine Af ⟨?_,?_,?_,?_,?_,?_,?_,?_,?_,?_,?_,?_,?_,?_,?_,?_,?_,⟨⟩⟩<;>try first | (intro h; cases h; done) | (intro _ hw; simp at hw; done) | (intro h0 hw; obtain rfl:=hz h0 rfl; refine np ?_; simp only[A8,A5,A6,A2,C,E,F,G,H,J]; exact ih _ _ _ _ _ _)
  ·intro h0 hw;obtain rfl:=hq hw 4 rfl rfl;refine⟨[],[(O,.keep [1,2,3,4,5,11,12,14,31,32,33,49,50,51,52,53,54,55,56,57,58,59,60,61,62,63,64,4] [5] [90000,3200,3456,3584])],X,X,?_⟩;try simp only[A8,A5,A6,zA,I,A2,C,E,F,G,H,J]
   refine Aq (es:=Y rI ([r9]:P U)) X (by simp only[St.fresh,zB,zC,Ah]; simp[AV.cells,V1.cells,AC.uses]) ?_;try simp only[A2,C,E,F,G,H,J]
   exact Ur rec_ h_rec a1 a2 a3 x1 v5 r9 a0 v6 r18 h14 h15 h16 h17 h18 _ b0 b8 b10 b13 b14
  ·intro h0 hw;obtain rfl:=hq hw 10 rfl rfl;refine⟨[],[(O,.keep [1,2,3,4,5,11,12,14,31,32,33,49,50,51,52,53,54,55,56,57,58,59,60,61,62,63,64,4] [5] [90000,3200,3584,3840])],X,X,?_⟩;try simp only[A8,A5,A6,zA,I,A2,C,E,F,G,H,J]
   refine Aq (es:=Y rI ([v5]:P U)) X (by simp only[St.fresh,zB,zC,Ah]; simp[AV.cells,V1.cells,AC.uses]) ?_;try simp only[A2,C,E,F,G,H,J]
   exact Ut rec_ h_rec a1 a2 a3 x1 v5 r9 a0 v6 r18 h14 h15 h16 h17 h18 _ b0 b4 b8 b13 b14
theorem cb(rec_:X1→(P U)→(P U)→U→(P (P U))→Q (P (P U)))(h_rec:∀(a0:X1) (a1 a2:P U) (a3:U) (a4:P (P U)) zr,rec_ a0 a1 a2 a3 a4=N zr→FCt Z 179 [.d (.ag (X1.row a0)),.d (.sc (.sl (Y rI a1))),.d (.sc (.sl (Y rI a2))),.d (.sc (.int .i64 a3)),.r] 1 (Y (rL rI) a4) (Y (rL rI) zr))(a1 a2:P U)(a3)(x1:U)(v5)(r9)(a0)(v6)(r18)(h14:(A3 ([]:P U).length a1.length 8)=T)(h15:(A3 a1.length ([r9]:P U).length 8)=T)(h16:(A3 ([]:P U).length a2.length 8)=T)(h17:(A3 a2.length ([v5]:P U).length 8)=T)(h18:rec_ a0 (a1++([r9]:P U)) (a2++([v5]:P U)) a3 v6=N r18):∀(f:W) (b0 b4:V) (b8 b13 b14:V),Ad Z B4 (B0 a1 a2 a3 x1 v5 r9 a0 r18) f [b0,T,T,T,b4,L,L,L,b8,L,T,T,L,b13,b14,L,L] (A8 a1 a2 a3 x1 v5 r9 a0 (vc (.own 90000)) (vc (.undef)) (vc (.own 3200)) (vc (.own 3200)) (vc (.own 3584)) (vc (.own 3584)) (vc (.own 3584)) (vc (.own 90000)) (vc (.own 90000)) b0 T T T b4 L L L b8 L T T L b13 b14 L [(5,[aL (Y X7.row a0.Points),aL (Y X2.row a0.Segments)])] [(90000,1,Y (rL rI) v6),(3200,1,Y rI a1),(3840,1,Y rI ([v5]:P U))]):=by
 intro f
 induction f with
 | zero=>intro b0 b4 b8 b13 b14 h; simp at h
 | succ f ih=>
  intro b0 b4 b8 b13 b14;refine Af ⟨?_,?_,?_,?_,?_,?_,?_,?_,?_,?_,?_,?_,?_,?_,?_,?_,?_,⟨⟩⟩<;>try first | (intro h; cases h; done) | (intro _ hw; simp at hw; done) | (intro h0 hw; obtain rfl:=hz h0 rfl; refine np ?_; simp only[A8,A5,A6,A2,C,E,F,G,H,J]; exact ih _ _ _ _ _)
  ·intro h0 hw;obtain rfl:=hq hw 4 rfl rfl;refine⟨[],[(O,.keep [1,2,3,4,5,11,12,14,31,32,33,49,50,51,52,53,54,55,56,57,58,59,60,61,62,63,64,4] [5] [90000,3200,3456,3840])],X,X,?_⟩;try simp only[A8,A5,A6,zA,I,A2,C,E,F,G,H,J]
   refine Aq (es:=Y rI ([r9]:P U)) X (by simp only[St.fresh,zB,zC,Ah]; simp[AV.cells,V1.cells,AC.uses]) ?_;try simp only[A2,C,E,F,G,H,J]
   exact Us rec_ h_rec a1 a2 a3 x1 v5 r9 a0 v6 r18 h14 h15 h16 h17 h18 _ b0 b8 b13 b14
  ·intro h0 hw;refine⟨[],[(O,.keep [1,2,3,4,5,11,12,14,31,32,33,49,50,51,52,53,54,55,56,57,58,59,60,61,62,63,64,4] [5] [90000,3200,3584,3840])],X,X,?_⟩;try simp only[A8,A5,A6,zA,I,A2,C,E,F,G,H,J]
   refine Aq (es:=Y rI ([]:P U)) X (by simp only[St.fresh,zB,zC,Ah]; simp[AV.cells,V1.cells,AC.uses]) ?_;try simp only[A2,C,E,F,G,H,J]
   exact Ut rec_ h_rec a1 a2 a3 x1 v5 r9 a0 v6 r18 h14 h15 h16 h17 h18 _ b0 b4 b8 b13 b14
theorem Uu(rec_:X1→(P U)→(P U)→U→(P (P U))→Q (P (P U)))(h_rec:∀(a0:X1) (a1 a2:P U) (a3:U) (a4:P (P U)) zr,rec_ a0 a1 a2 a3 a4=N zr→FCt Z 179 [.d (.ag (X1.row a0)),.d (.sc (.sl (Y rI a1))),.d (.sc (.sl (Y rI a2))),.d (.sc (.int .i64 a3)),.r] 1 (Y (rL rI) a4) (Y (rL rI) zr))(a1 a2:P U)(a3)(x1:U)(v5)(r9)(a0)(v6)(r18)(h14:(A3 ([]:P U).length a1.length 8)=T)(h15:(A3 a1.length ([r9]:P U).length 8)=T)(h16:(A3 ([]:P U).length a2.length 8)=T)(h17:(A3 a2.length ([v5]:P U).length 8)=T)(h18:rec_ a0 (a1++([r9]:P U)) (a2++([v5]:P U)) a3 v6=N r18):∀(f:W) (b0 b2:V) (b8 b10:V) (b13 b14:V),Ad Z B4 (B0 a1 a2 a3 x1 v5 r9 a0 r18) f [b0,T,b2,L,T,T,L,T,b8,L,b10,L,L,b13,b14,L,L] (A8 a1 a2 a3 x1 v5 r9 a0 (vc (.own 90000)) (vc (.own 3200)) (vc (.own 3200)) (vc (.own 3200)) (vc (.own 3584)) (vc (.own 3584)) (vc (.own 3584)) (vc (.own 90000)) (vc (.own 90000)) b0 T b2 L T T L T b8 L b10 L L b13 b14 L [(5,[aL (Y X7.row a0.Points),aL (Y X2.row a0.Segments)])] [(90000,1,Y (rL rI) v6),(3200,1,Y rI ([]:P U)),(3456,1,Y rI ([r9]:P U)),(3584,1,Y rI ([]:P U))]):=by
 intro f
 induction f with
 | zero=>intro b0 b2 b8 b10 b13 b14 h; simp at h
 | succ f ih=>
  intro b0 b2 b8 b10 b13 b14;refine Af ⟨?_,?_,?_,?_,?_,?_,?_,?_,?_,?_,?_,?_,?_,?_,?_,?_,?_,⟨⟩⟩<;>try first | (intro h; cases h; done) | (intro _ hw; simp at hw; done) | (intro h0 hw; obtain rfl:=hz h0 rfl; refine np ?_; simp only[A8,A5,A6,A2,C,E,F,G,H,J]; exact ih _ _ _ _ _ _)
  ·intro h0 hw;obtain rfl:=hq hw 2 rfl rfl;refine⟨[],[(O,.keep [1,2,3,4,5,11,12,14,31,32,33,49,50,51,52,53,54,55,56,57,58,59,60,61,62,63,64,4] [5] [90000,3200,3456,3584])],X,X,?_⟩;try simp only[h14,A8,A5,A6,zA,I,A2,C,E,F,G,H,J]
   exact Ur rec_ h_rec a1 a2 a3 x1 v5 r9 a0 v6 r18 h14 h15 h16 h17 h18 _ b0 b8 b10 b13 b14
  ·intro h0 hw;obtain rfl:=hq hw 10 rfl rfl;refine⟨[],[(O,.keep [1,2,3,4,5,11,12,14,31,32,33,49,50,51,52,53,54,55,56,57,58,59,60,61,62,63,64,4] [5] [90000,3200,3456,3584,3840])],X,X,?_⟩;try simp only[A8,A5,A6,zA,I,A2,C,E,F,G,H,J]
   refine Aq (es:=Y rI ([v5]:P U)) X (by simp only[St.fresh,zB,zC,Ah]; simp[AV.cells,V1.cells,AC.uses]) ?_;try simp only[A2,C,E,F,G,H,J]
   exact RO rec_ h_rec a1 a2 a3 x1 v5 r9 a0 v6 r18 h14 h15 h16 h17 h18 _ b0 b2 b8 b13 b14
theorem Uv(rec_:X1→(P U)→(P U)→U→(P (P U))→Q (P (P U)))(h_rec:∀(a0:X1) (a1 a2:P U) (a3:U) (a4:P (P U)) zr,rec_ a0 a1 a2 a3 a4=N zr→FCt Z 179 [.d (.ag (X1.row a0)),.d (.sc (.sl (Y rI a1))),.d (.sc (.sl (Y rI a2))),.d (.sc (.int .i64 a3)),.r] 1 (Y (rL rI) a4) (Y (rL rI) zr))(a1 a2:P U)(a3)(x1:U)(v5)(r9)(a0)(v6)(r18)(h14:(A3 ([]:P U).length a1.length 8)=T)(h15:(A3 a1.length ([r9]:P U).length 8)=T)(h16:(A3 ([]:P U).length a2.length 8)=T)(h17:(A3 a2.length ([v5]:P U).length 8)=T)(h18:rec_ a0 (a1++([r9]:P U)) (a2++([v5]:P U)) a3 v6=N r18):∀(f:W) (b0 b2:V) (b8 b13 b14:V),Ad Z B4 (B0 a1 a2 a3 x1 v5 r9 a0 r18) f [b0,T,b2,L,T,T,L,L,b8,L,T,T,L,b13,b14,L,L] (A8 a1 a2 a3 x1 v5 r9 a0 (vc (.own 90000)) (vc (.own 3200)) (vc (.own 3200)) (vc (.own 3200)) (vc (.own 3584)) (vc (.own 3584)) (vc (.own 3584)) (vc (.own 90000)) (vc (.own 90000)) b0 T b2 L T T L L b8 L T T L b13 b14 L [(5,[aL (Y X7.row a0.Points),aL (Y X2.row a0.Segments)])] [(90000,1,Y (rL rI) v6),(3200,1,Y rI ([]:P U)),(3456,1,Y rI ([r9]:P U)),(3840,1,Y rI ([v5]:P U))]):=by
 intro f
 induction f with
 | zero=>intro b0 b2 b8 b13 b14 h; simp at h
 | succ f ih=>
  intro b0 b2 b8 b13 b14;refine Af ⟨?_,?_,?_,?_,?_,?_,?_,?_,?_,?_,?_,?_,?_,?_,?_,?_,?_,⟨⟩⟩<;>try first | (intro h; cases h; done) | (intro _ hw; simp at hw; done) | (intro h0 hw; obtain rfl:=hz h0 rfl; refine np ?_; simp only[A8,A5,A6,A2,C,E,F,G,H,J]; exact ih _ _ _ _ _)
  ·intro h0 hw;obtain rfl:=hq hw 2 rfl rfl;refine⟨[],[(O,.keep [1,2,3,4,5,11,12,14,31,32,33,49,50,51,52,53,54,55,56,57,58,59,60,61,62,63,64,4] [5] [90000,3200,3456,3840])],X,X,?_⟩;try simp only[h14,A8,A5,A6,zA,I,A2,C,E,F,G,H,J]
   exact Us rec_ h_rec a1 a2 a3 x1 v5 r9 a0 v6 r18 h14 h15 h16 h17 h18 _ b0 b8 b13 b14
  ·intro h0 hw;refine⟨[],[(O,.keep [1,2,3,4,5,11,12,14,31,32,33,49,50,51,52,53,54,55,56,57,58,59,60,61,62,63,64,4] [5] [90000,3200,3456,3584,3840])],X,X,?_⟩;try simp only[A8,A5,A6,zA,I,A2,C,E,F,G,H,J]
   refine Aq (es:=Y rI ([]:P U)) X (by simp only[St.fresh,zB,zC,Ah]; simp[AV.cells,V1.cells,AC.uses]) ?_;try simp only[A2,C,E,F,G,H,J]
   exact RO rec_ h_rec a1 a2 a3 x1 v5 r9 a0 v6 r18 h14 h15 h16 h17 h18 _ b0 b2 b8 b13 b14
theorem Uw(rec_:X1→(P U)→(P U)→U→(P (P U))→Q (P (P U)))(h_rec:∀(a0:X1) (a1 a2:P U) (a3:U) (a4:P (P U)) zr,rec_ a0 a1 a2 a3 a4=N zr→FCt Z 179 [.d (.ag (X1.row a0)),.d (.sc (.sl (Y rI a1))),.d (.sc (.sl (Y rI a2))),.d (.sc (.int .i64 a3)),.r] 1 (Y (rL rI) a4) (Y (rL rI) zr))(a1 a2:P U)(a3)(x1:U)(v5)(r9)(a0)(v6)(r18)(h14:(A3 ([]:P U).length a1.length 8)=T)(h15:(A3 a1.length ([r9]:P U).length 8)=T)(h16:(A3 ([]:P U).length a2.length 8)=T)(h17:(A3 a2.length ([v5]:P U).length 8)=T)(h18:rec_ a0 (a1++([r9]:P U)) (a2++([v5]:P U)) a3 v6=N r18):∀(f:W) (b0 b2:V) (b4 b8:V) (b13 b14:V),Ad Z B4 (B0 a1 a2 a3 x1 v5 r9 a0 r18) f [b0,T,b2,L,b4,L,L,T,b8,L,T,T,L,b13,b14,L,L] (A8 a1 a2 a3 x1 v5 r9 a0 (vc (.own 90000)) (vc (.own 3200)) (vc (.own 3200)) (vc (.own 3200)) (vc (.own 3584)) (vc (.own 3584)) (vc (.own 3584)) (vc (.own 90000)) (vc (.own 90000)) b0 T b2 L b4 L L T b8 L T T L b13 b14 L [(5,[aL (Y X7.row a0.Points),aL (Y X2.row a0.Segments)])] [(90000,1,Y (rL rI) v6),(3200,1,Y rI ([]:P U)),(3584,1,Y rI ([]:P U)),(3840,1,Y rI ([v5]:P U))]):=by
 intro f
 induction f with
 | zero=>intro b0 b2 b4 b8 b13 b14 h; simp at h
 | succ f ih=>
  intro b0 b2 b4 b8 b13 b14;refine Af ⟨?_,?_,?_,?_,?_,?_,?_,?_,?_,?_,?_,?_,?_,?_,?_,?_,?_,⟨⟩⟩<;>try first | (intro h; cases h; done) | (intro _ hw; simp at hw; done) | (intro h0 hw; obtain rfl:=hz h0 rfl; refine np ?_; simp only[A8,A5,A6,A2,C,E,F,G,H,J]; exact ih _ _ _ _ _ _)
  ·intro h0 hw;obtain rfl:=hq hw 2 rfl rfl;refine⟨[],[(O,.keep [1,2,3,4,5,11,12,14,31,32,33,49,50,51,52,53,54,55,56,57,58,59,60,61,62,63,64,4] [5] [90000,3200,3584,3840])],X,X,?_⟩;try simp only[h14,A8,A5,A6,zA,I,A2,C,E,F,G,H,J]
   exact Ut rec_ h_rec a1 a2 a3 x1 v5 r9 a0 v6 r18 h14 h15 h16 h17 h18 _ b0 b4 b8 b13 b14
  ·intro h0 hw;obtain rfl:=hq hw 4 rfl rfl;refine⟨[],[(O,.keep [1,2,3,4,5,11,12,14,31,32,33,49,50,51,52,53,54,55,56,57,58,59,60,61,62,63,64,4] [5] [90000,3200,3456,3584,3840])],X,X,?_⟩;try simp only[A8,A5,A6,zA,I,A2,C,E,F,G,H,J]
   refine Aq (es:=Y rI ([r9]:P U)) X (by simp only[St.fresh,zB,zC,Ah]; simp[AV.cells,V1.cells,AC.uses]) ?_;try simp only[A2,C,E,F,G,H,J]
   exact RO rec_ h_rec a1 a2 a3 x1 v5 r9 a0 v6 r18 h14 h15 h16 h17 h18 _ b0 b2 b8 b13 b14
theorem Ux(rec_:X1→(P U)→(P U)→U→(P (P U))→Q (P (P U)))(h_rec:∀(a0:X1) (a1 a2:P U) (a3:U) (a4:P (P U)) zr,rec_ a0 a1 a2 a3 a4=N zr→FCt Z 179 [.d (.ag (X1.row a0)),.d (.sc (.sl (Y rI a1))),.d (.sc (.sl (Y rI a2))),.d (.sc (.int .i64 a3)),.r] 1 (Y (rL rI) a4) (Y (rL rI) zr))(a1 a2:P U)(a3)(x1:U)(v5)(r9)(a0)(v6)(r18)(h14:(A3 ([]:P U).length a1.length 8)=T)(h15:(A3 a1.length ([r9]:P U).length 8)=T)(h16:(A3 ([]:P U).length a2.length 8)=T)(h17:(A3 a2.length ([v5]:P U).length 8)=T)(h18:rec_ a0 (a1++([r9]:P U)) (a2++([v5]:P U)) a3 v6=N r18):∀(f:W) (b0 b2:V) (b8 b13 b14:V),Ad Z B4 (B0 a1 a2 a3 x1 v5 r9 a0 r18) f [b0,L,b2,L,T,T,L,T,b8,L,T,T,L,b13,b14,L,L] (A8 a1 a2 a3 x1 v5 r9 a0 (vc (.own 90000)) (vc (.own 3200)) (vc (.own 3200)) (vc (.own 3200)) (vc (.own 3584)) (vc (.own 3584)) (vc (.own 3584)) (vc (.own 90000)) (vc (.own 90000)) b0 L b2 L T T L T b8 L T T L b13 b14 L [(5,[aL (Y X7.row a0.Points),aL (Y X2.row a0.Segments)])] [(90000,1,Y (rL rI) v6),(3456,1,Y rI ([r9]:P U)),(3584,1,Y rI ([]:P U)),(3840,1,Y rI ([v5]:P U))]):=by
 intro f
 induction f with
 | zero=>intro b0 b2 b8 b13 b14 h; simp at h
 | succ f ih=>
  intro b0 b2 b8 b13 b14;refine Af ⟨?_,?_,?_,?_,?_,?_,?_,?_,?_,?_,?_,?_,?_,?_,?_,?_,?_,⟨⟩⟩<;>try first | (intro h; cases h; done) | (intro _ hw; simp at hw; done) | (intro h0 hw; obtain rfl:=hz h0 rfl; refine np ?_; simp only[A8,A5,A6,A2,C,E,F,G,H,J]; exact ih _ _ _ _ _)
  ·intro h0 hw;refine⟨[],[(O,.keep [1,2,3,4,5,11,12,14,31,32,33,49,50,51,52,53,54,55,56,57,58,59,60,61,62,63,64,4] [5] [90000,3200,3456,3584,3840])],X,X,?_⟩;try simp only[A8,A5,A6,zA,I,A2,C,E,F,G,H,J]
   refine Aq (es:=Y rI ([]:P U)) X (by simp only[St.fresh,zB,zC,Ah]; simp[AV.cells,V1.cells,AC.uses]) ?_;try simp only[A2,C,E,F,G,H,J]
   exact RO rec_ h_rec a1 a2 a3 x1 v5 r9 a0 v6 r18 h14 h15 h16 h17 h18 _ b0 b2 b8 b13 b14
theorem A8f(rec_:X1→(P U)→(P U)→U→(P (P U))→Q (P (P U)))(h_rec:∀(a0:X1) (a1 a2:P U) (a3:U) (a4:P (P U)) zr,rec_ a0 a1 a2 a3 a4=N zr→FCt Z 179 [.d (.ag (X1.row a0)),.d (.sc (.sl (Y rI a1))),.d (.sc (.sl (Y rI a2))),.d (.sc (.int .i64 a3)),.r] 1 (Y (rL rI) a4) (Y (rL rI) zr))(a1 a2:P U)(a3)(x1:U)(v5)(r9)(a0)(v6)(r18)(h14:(A3 ([]:P U).length a1.length 8)=T)(h15:(A3 a1.length ([r9]:P U).length 8)=T)(h16:(A3 ([]:P U).length a2.length 8)=T)(h17:(A3 a2.length ([v5]:P U).length 8)=T)(h18:rec_ a0 (a1++([r9]:P U)) (a2++([v5]:P U)) a3 v6=N r18):∀(f:W) (b0 b4:V) (b8 b10:V) (b13 b14:V),Ad Z B4 (B0 a1 a2 a3 x1 v5 r9 a0 r18) f [b0,T,T,T,b4,L,L,L,b8,L,b10,L,L,b13,b14,L,L] (A8 a1 a2 a3 x1 v5 r9 a0 (vc (.own 90000)) (vc (.undef)) (vc (.own 3200)) (vc (.own 3200)) (vc (.own 3584)) (vc (.own 3584)) (vc (.own 3584)) (vc (.own 90000)) (vc (.own 90000)) b0 T T T b4 L L L b8 L b10 L L b13 b14 L [(5,[aL (Y X7.row a0.Points),aL (Y X2.row a0.Segments)])] [(90000,1,Y (rL rI) v6),(3200,1,Y rI a1)]):=by
 intro f
 induction f with
 | zero=>intro b0 b4 b8 b10 b13 b14 h; simp at h
 | succ f ih=>
  intro b0 b4 b8 b10 b13 b14;refine Af ⟨?_,?_,?_,?_,?_,?_,?_,?_,?_,?_,?_,?_,?_,?_,?_,?_,?_,⟨⟩⟩<;>try first | (intro h; cases h; done) | (intro _ hw; simp at hw; done) | (intro h0 hw; obtain rfl:=hz h0 rfl; refine np ?_; simp only[A8,A5,A6,A2,C,E,F,G,H,J]; exact ih _ _ _ _ _ _)
  ·intro h0 hw;obtain rfl:=hq hw 4 rfl rfl;refine⟨[],[(O,.keep [1,2,3,4,5,11,12,14,31,32,33,49,50,51,52,53,54,55,56,57,58,59,60,61,62,63,64,4] [5] [90000,3200,3456])],X,X,?_⟩;try simp only[A8,A5,A6,zA,I,A2,C,E,F,G,H,J]
   refine Aq (es:=Y rI ([r9]:P U)) X (by simp only[St.fresh,zB,zC,Ah]; simp[AV.cells,V1.cells,AC.uses]) ?_;try simp only[A2,C,E,F,G,H,J]
   exact cY rec_ h_rec a1 a2 a3 x1 v5 r9 a0 v6 r18 h14 h15 h16 h17 h18 _ b0 b8 b10 b13 b14
  ·intro h0 hw;refine⟨[],[(O,.keep [1,2,3,4,5,11,12,14,31,32,33,49,50,51,52,53,54,55,56,57,58,59,60,61,62,63,64,4] [5] [90000,3200,3584])],X,X,?_⟩;try simp only[A8,A5,A6,zA,I,A2,C,E,F,G,H,J]
   refine Aq (es:=Y rI ([]:P U)) X (by simp only[St.fresh,zB,zC,Ah]; simp[AV.cells,V1.cells,AC.uses]) ?_;try simp only[A2,C,E,F,G,H,J]
   exact cZ rec_ h_rec a1 a2 a3 x1 v5 r9 a0 v6 r18 h14 h15 h16 h17 h18 _ b0 b4 b8 b10 b13 b14
  ·intro h0 hw;obtain rfl:=hq hw 10 rfl rfl;refine⟨[],[(O,.keep [1,2,3,4,5,11,12,14,31,32,33,49,50,51,52,53,54,55,56,57,58,59,60,61,62,63,64,4] [5] [90000,3200,3840])],X,X,?_⟩;try simp only[A8,A5,A6,zA,I,A2,C,E,F,G,H,J]
   refine Aq (es:=Y rI ([v5]:P U)) X (by simp only[St.fresh,zB,zC,Ah]; simp[AV.cells,V1.cells,AC.uses]) ?_;try simp only[A2,C,E,F,G,H,J]
   exact cb rec_ h_rec a1 a2 a3 x1 v5 r9 a0 v6 r18 h14 h15 h16 h17 h18 _ b0 b4 b8 b13 b14
theorem cd(rec_:X1→(P U)→(P U)→U→(P (P U))→Q (P (P U)))(h_rec:∀(a0:X1) (a1 a2:P U) (a3:U) (a4:P (P U)) zr,rec_ a0 a1 a2 a3 a4=N zr→FCt Z 179 [.d (.ag (X1.row a0)),.d (.sc (.sl (Y rI a1))),.d (.sc (.sl (Y rI a2))),.d (.sc (.int .i64 a3)),.r] 1 (Y (rL rI) a4) (Y (rL rI) zr))(a1 a2:P U)(a3)(x1:U)(v5)(r9)(a0)(v6)(r18)(h14:(A3 ([]:P U).length a1.length 8)=T)(h15:(A3 a1.length ([r9]:P U).length 8)=T)(h16:(A3 ([]:P U).length a2.length 8)=T)(h17:(A3 a2.length ([v5]:P U).length 8)=T)(h18:rec_ a0 (a1++([r9]:P U)) (a2++([v5]:P U)) a3 v6=N r18):∀(f:W) (b0 b2:V) (b8 b10:V) (b13 b14:V),Ad Z B4 (B0 a1 a2 a3 x1 v5 r9 a0 r18) f [b0,T,b2,L,T,T,L,L,b8,L,b10,L,L,b13,b14,L,L] (A8 a1 a2 a3 x1 v5 r9 a0 (vc (.own 90000)) (vc (.own 3200)) (vc (.own 3200)) (vc (.own 3200)) (vc (.own 3584)) (vc (.own 3584)) (vc (.own 3584)) (vc (.own 90000)) (vc (.own 90000)) b0 T b2 L T T L L b8 L b10 L L b13 b14 L [(5,[aL (Y X7.row a0.Points),aL (Y X2.row a0.Segments)])] [(90000,1,Y (rL rI) v6),(3200,1,Y rI ([]:P U)),(3456,1,Y rI ([r9]:P U))]):=by
 intro f
 induction f with
 | zero=>intro b0 b2 b8 b10 b13 b14 h; simp at h
 | succ f ih=>
  intro b0 b2 b8 b10 b13 b14;refine Af ⟨?_,?_,?_,?_,?_,?_,?_,?_,?_,?_,?_,?_,?_,?_,?_,?_,?_,⟨⟩⟩<;>try first | (intro h; cases h; done) | (intro _ hw; simp at hw; done) | (intro h0 hw; obtain rfl:=hz h0 rfl; refine np ?_; simp only[A8,A5,A6,A2,C,E,F,G,H,J]; exact ih _ _ _ _ _ _)
  ·intro h0 hw;obtain rfl:=hq hw 2 rfl rfl;refine⟨[],[(O,.keep [1,2,3,4,5,11,12,14,31,32,33,49,50,51,52,53,54,55,56,57,58,59,60,61,62,63,64,4] [5] [90000,3200,3456])],X,X,?_⟩;try simp only[h14,A8,A5,A6,zA,I,A2,C,E,F,G,H,J]
   exact cY rec_ h_rec a1 a2 a3 x1 v5 r9 a0 v6 r18 h14 h15 h16 h17 h18 _ b0 b8 b10 b13 b14
  ·intro h0 hw;refine⟨[],[(O,.keep [1,2,3,4,5,11,12,14,31,32,33,49,50,51,52,53,54,55,56,57,58,59,60,61,62,63,64,4] [5] [90000,3200,3456,3584])],X,X,?_⟩;try simp only[A8,A5,A6,zA,I,A2,C,E,F,G,H,J]
   refine Aq (es:=Y rI ([]:P U)) X (by simp only[St.fresh,zB,zC,Ah]; simp[AV.cells,V1.cells,AC.uses]) ?_;try simp only[A2,C,E,F,G,H,J]
   exact Uu rec_ h_rec a1 a2 a3 x1 v5 r9 a0 v6 r18 h14 h15 h16 h17 h18 _ b0 b2 b8 b10 b13 b14
  ·intro h0 hw;obtain rfl:=hq hw 10 rfl rfl;refine⟨[],[(O,.keep [1,2,3,4,5,11,12,14,31,32,33,49,50,51,52,53,54,55,56,57,58,59,60,61,62,63,64,4] [5] [90000,3200,3456,3840])],X,X,?_⟩;try simp only[A8,A5,A6,zA,I,A2,C,E,F,G,H,J]
   refine Aq (es:=Y rI ([v5]:P U)) X (by simp only[St.fresh,zB,zC,Ah]; simp[AV.cells,V1.cells,AC.uses]) ?_;try simp only[A2,C,E,F,G,H,J]
   exact Uv rec_ h_rec a1 a2 a3 x1 v5 r9 a0 v6 r18 h14 h15 h16 h17 h18 _ b0 b2 b8 b13 b14
theorem ce(rec_:X1→(P U)→(P U)→U→(P (P U))→Q (P (P U)))(h_rec:∀(a0:X1) (a1 a2:P U) (a3:U) (a4:P (P U)) zr,rec_ a0 a1 a2 a3 a4=N zr→FCt Z 179 [.d (.ag (X1.row a0)),.d (.sc (.sl (Y rI a1))),.d (.sc (.sl (Y rI a2))),.d (.sc (.int .i64 a3)),.r] 1 (Y (rL rI) a4) (Y (rL rI) zr))(a1 a2:P U)(a3)(x1:U)(v5)(r9)(a0)(v6)(r18)(h14:(A3 ([]:P U).length a1.length 8)=T)(h15:(A3 a1.length ([r9]:P U).length 8)=T)(h16:(A3 ([]:P U).length a2.length 8)=T)(h17:(A3 a2.length ([v5]:P U).length 8)=T)(h18:rec_ a0 (a1++([r9]:P U)) (a2++([v5]:P U)) a3 v6=N r18):∀(f:W) (b0 b2:V) (b4 b8:V) (b10 b13 b14:V),Ad Z B4 (B0 a1 a2 a3 x1 v5 r9 a0 r18) f [b0,T,b2,L,b4,L,L,T,b8,L,b10,L,L,b13,b14,L,L] (A8 a1 a2 a3 x1 v5 r9 a0 (vc (.own 90000)) (vc (.own 3200)) (vc (.own 3200)) (vc (.own 3200)) (vc (.own 3584)) (vc (.own 3584)) (vc (.own 3584)) (vc (.own 90000)) (vc (.own 90000)) b0 T b2 L b4 L L T b8 L b10 L L b13 b14 L [(5,[aL (Y X7.row a0.Points),aL (Y X2.row a0.Segments)])] [(90000,1,Y (rL rI) v6),(3200,1,Y rI ([]:P U)),(3584,1,Y rI ([]:P U))]):=by
 intro f
 induction f with
 | zero=>intro b0 b2 b4 b8 b10 b13 b14 h; simp at h
 | succ f ih=>
  intro b0 b2 b4 b8 b10 b13 b14;refine Af ⟨?_,?_,?_,?_,?_,?_,?_,?_,?_,?_,?_,?_,?_,?_,?_,?_,?_,⟨⟩⟩<;>try first | (intro h; cases h; done) | (intro _ hw; simp at hw; done) | (intro h0 hw; obtain rfl:=hz h0 rfl; refine np ?_; simp only[A8,A5,A6,A2,C,E,F,G,H,J]; exact ih _ _ _ _ _ _ _)
  ·intro h0 hw;obtain rfl:=hq hw 2 rfl rfl;refine⟨[],[(O,.keep [1,2,3,4,5,11,12,14,31,32,33,49,50,51,52,53,54,55,56,57,58,59,60,61,62,63,64,4] [5] [90000,3200,3584])],X,X,?_⟩;try simp only[h14,A8,A5,A6,zA,I,A2,C,E,F,G,H,J]
   exact cZ rec_ h_rec a1 a2 a3 x1 v5 r9 a0 v6 r18 h14 h15 h16 h17 h18 _ b0 b4 b8 b10 b13 b14
  ·intro h0 hw;obtain rfl:=hq hw 4 rfl rfl;refine⟨[],[(O,.keep [1,2,3,4,5,11,12,14,31,32,33,49,50,51,52,53,54,55,56,57,58,59,60,61,62,63,64,4] [5] [90000,3200,3456,3584])],X,X,?_⟩;try simp only[A8,A5,A6,zA,I,A2,C,E,F,G,H,J]
   refine Aq (es:=Y rI ([r9]:P U)) X (by simp only[St.fresh,zB,zC,Ah]; simp[AV.cells,V1.cells,AC.uses]) ?_;try simp only[A2,C,E,F,G,H,J]
   exact Uu rec_ h_rec a1 a2 a3 x1 v5 r9 a0 v6 r18 h14 h15 h16 h17 h18 _ b0 b2 b8 b10 b13 b14
  ·intro h0 hw;obtain rfl:=hq hw 10 rfl rfl;refine⟨[],[(O,.keep [1,2,3,4,5,11,12,14,31,32,33,49,50,51,52,53,54,55,56,57,58,59,60,61,62,63,64,4] [5] [90000,3200,3584,3840])],X,X,?_⟩;try simp only[A8,A5,A6,zA,I,A2,C,E,F,G,H,J]
   refine Aq (es:=Y rI ([v5]:P U)) X (by simp only[St.fresh,zB,zC,Ah]; simp[AV.cells,V1.cells,AC.uses]) ?_;try simp only[A2,C,E,F,G,H,J]
   exact Uw rec_ h_rec a1 a2 a3 x1 v5 r9 a0 v6 r18 h14 h15 h16 h17 h18 _ b0 b2 b4 b8 b13 b14
theorem cf(rec_:X1→(P U)→(P U)→U→(P (P U))→Q (P (P U)))(h_rec:∀(a0:X1) (a1 a2:P U) (a3:U) (a4:P (P U)) zr,rec_ a0 a1 a2 a3 a4=N zr→FCt Z 179 [.d (.ag (X1.row a0)),.d (.sc (.sl (Y rI a1))),.d (.sc (.sl (Y rI a2))),.d (.sc (.int .i64 a3)),.r] 1 (Y (rL rI) a4) (Y (rL rI) zr))(a1 a2:P U)(a3)(x1:U)(v5)(r9)(a0)(v6)(r18)(h14:(A3 ([]:P U).length a1.length 8)=T)(h15:(A3 a1.length ([r9]:P U).length 8)=T)(h16:(A3 ([]:P U).length a2.length 8)=T)(h17:(A3 a2.length ([v5]:P U).length 8)=T)(h18:rec_ a0 (a1++([r9]:P U)) (a2++([v5]:P U)) a3 v6=N r18):∀(f:W) (b0 b2:V) (b4 b8:V) (b13 b14:V),Ad Z B4 (B0 a1 a2 a3 x1 v5 r9 a0 r18) f [b0,T,b2,L,b4,L,L,L,b8,L,T,T,L,b13,b14,L,L] (A8 a1 a2 a3 x1 v5 r9 a0 (vc (.own 90000)) (vc (.own 3200)) (vc (.own 3200)) (vc (.own 3200)) (vc (.own 3584)) (vc (.own 3584)) (vc (.own 3584)) (vc (.own 90000)) (vc (.own 90000)) b0 T b2 L b4 L L L b8 L T T L b13 b14 L [(5,[aL (Y X7.row a0.Points),aL (Y X2.row a0.Segments)])] [(90000,1,Y (rL rI) v6),(3200,1,Y rI ([]:P U)),(3840,1,Y rI ([v5]:P U))]):=by
 intro f
 induction f with
 | zero=>intro b0 b2 b4 b8 b13 b14 h; simp at h
 | succ f ih=>
  intro b0 b2 b4 b8 b13 b14;refine Af ⟨?_,?_,?_,?_,?_,?_,?_,?_,?_,?_,?_,?_,?_,?_,?_,?_,?_,⟨⟩⟩<;>try first | (intro h; cases h; done) | (intro _ hw; simp at hw; done) | (intro h0 hw; obtain rfl:=hz h0 rfl; refine np ?_; simp only[A8,A5,A6,A2,C,E,F,G,H,J]; exact ih _ _ _ _ _ _)
  ·intro h0 hw;obtain rfl:=hq hw 2 rfl rfl;refine⟨[],[(O,.keep [1,2,3,4,5,11,12,14,31,32,33,49,50,51,52,53,54,55,56,57,58,59,60,61,62,63,64,4] [5] [90000,3200,3840])],X,X,?_⟩;try simp only[h14,A8,A5,A6,zA,I,A2,C,E,F,G,H,J]
   exact cb rec_ h_rec a1 a2 a3 x1 v5 r9 a0 v6 r18 h14 h15 h16 h17 h18 _ b0 b4 b8 b13 b14
  ·intro h0 hw;obtain rfl:=hq hw 4 rfl rfl;refine⟨[],[(O,.keep [1,2,3,4,5,11,12,14,31,32,33,49,50,51,52,53,54,55,56,57,58,59,60,61,62,63,64,4] [5] [90000,3200,3456,3840])],X,X,?_⟩;try simp only[A8,A5,A6,zA,I,A2,C,E,F,G,H,J]
   refine Aq (es:=Y rI ([r9]:P U)) X (by simp only[St.fresh,zB,zC,Ah]; simp[AV.cells,V1.cells,AC.uses]) ?_;try simp only[A2,C,E,F,G,H,J]
   exact Uv rec_ h_rec a1 a2 a3 x1 v5 r9 a0 v6 r18 h14 h15 h16 h17 h18 _ b0 b2 b8 b13 b14
  ·intro h0 hw;refine⟨[],[(O,.keep [1,2,3,4,5,11,12,14,31,32,33,49,50,51,52,53,54,55,56,57,58,59,60,61,62,63,64,4] [5] [90000,3200,3584,3840])],X,X,?_⟩;try simp only[A8,A5,A6,zA,I,A2,C,E,F,G,H,J]
   refine Aq (es:=Y rI ([]:P U)) X (by simp only[St.fresh,zB,zC,Ah]; simp[AV.cells,V1.cells,AC.uses]) ?_;try simp only[A2,C,E,F,G,H,J]
   exact Uw rec_ h_rec a1 a2 a3 x1 v5 r9 a0 v6 r18 h14 h15 h16 h17 h18 _ b0 b2 b4 b8 b13 b14
theorem cg(rec_:X1→(P U)→(P U)→U→(P (P U))→Q (P (P U)))(h_rec:∀(a0:X1) (a1 a2:P U) (a3:U) (a4:P (P U)) zr,rec_ a0 a1 a2 a3 a4=N zr→FCt Z 179 [.d (.ag (X1.row a0)),.d (.sc (.sl (Y rI a1))),.d (.sc (.sl (Y rI a2))),.d (.sc (.int .i64 a3)),.r] 1 (Y (rL rI) a4) (Y (rL rI) zr))(a1 a2:P U)(a3)(x1:U)(v5)(r9)(a0)(v6)(r18)(h14:(A3 ([]:P U).length a1.length 8)=T)(h15:(A3 a1.length ([r9]:P U).length 8)=T)(h16:(A3 ([]:P U).length a2.length 8)=T)(h17:(A3 a2.length ([v5]:P U).length 8)=T)(h18:rec_ a0 (a1++([r9]:P U)) (a2++([v5]:P U)) a3 v6=N r18):∀(f:W) (b0 b2:V) (b8 b10:V) (b13 b14:V),Ad Z B4 (B0 a1 a2 a3 x1 v5 r9 a0 r18) f [b0,L,b2,L,T,T,L,T,b8,L,b10,L,L,b13,b14,L,L] (A8 a1 a2 a3 x1 v5 r9 a0 (vc (.own 90000)) (vc (.own 3200)) (vc (.own 3200)) (vc (.own 3200)) (vc (.own 3584)) (vc (.own 3584)) (vc (.own 3584)) (vc (.own 90000)) (vc (.own 90000)) b0 L b2 L T T L T b8 L b10 L L b13 b14 L [(5,[aL (Y X7.row a0.Points),aL (Y X2.row a0.Segments)])] [(90000,1,Y (rL rI) v6),(3456,1,Y rI ([r9]:P U)),(3584,1,Y rI ([]:P U))]):=by
 intro f
 induction f with
 | zero=>intro b0 b2 b8 b10 b13 b14 h; simp at h
 | succ f ih=>
  intro b0 b2 b8 b10 b13 b14;refine Af ⟨?_,?_,?_,?_,?_,?_,?_,?_,?_,?_,?_,?_,?_,?_,?_,?_,?_,⟨⟩⟩<;>try first | (intro h; cases h; done) | (intro _ hw; simp at hw; done) | (intro h0 hw; obtain rfl:=hz h0 rfl; refine np ?_; simp only[A8,A5,A6,A2,C,E,F,G,H,J]; exact ih _ _ _ _ _ _)
  ·intro h0 hw;refine⟨[],[(O,.keep [1,2,3,4,5,11,12,14,31,32,33,49,50,51,52,53,54,55,56,57,58,59,60,61,62,63,64,4] [5] [90000,3200,3456,3584])],X,X,?_⟩;try simp only[A8,A5,A6,zA,I,A2,C,E,F,G,H,J]
   refine Aq (es:=Y rI ([]:P U)) X (by simp only[St.fresh,zB,zC,Ah]; simp[AV.cells,V1.cells,AC.uses]) ?_;try simp only[A2,C,E,F,G,H,J]
   exact Uu rec_ h_rec a1 a2 a3 x1 v5 r9 a0 v6 r18 h14 h15 h16 h17 h18 _ b0 b2 b8 b10 b13 b14
  ·intro h0 hw;obtain rfl:=hq hw 10 rfl rfl;refine⟨[],[(O,.keep [1,2,3,4,5,11,12,14,31,32,33,49,50,51,52,53,54,55,56,57,58,59,60,61,62,63,64,4] [5] [90000,3456,3584,3840])],X,X,?_⟩;try simp only[A8,A5,A6,zA,I,A2,C,E,F,G,H,J]
   refine Aq (es:=Y rI ([v5]:P U)) X (by simp only[St.fresh,zB,zC,Ah]; simp[AV.cells,V1.cells,AC.uses]) ?_;try simp only[A2,C,E,F,G,H,J]
   exact Ux rec_ h_rec a1 a2 a3 x1 v5 r9 a0 v6 r18 h14 h15 h16 h17 h18 _ b0 b2 b8 b13 b14
theorem cj(rec_:X1→(P U)→(P U)→U→(P (P U))→Q (P (P U)))(h_rec:∀(a0:X1) (a1 a2:P U) (a3:U) (a4:P (P U)) zr,rec_ a0 a1 a2 a3 a4=N zr→FCt Z 179 [.d (.ag (X1.row a0)),.d (.sc (.sl (Y rI a1))),.d (.sc (.sl (Y rI a2))),.d (.sc (.int .i64 a3)),.r] 1 (Y (rL rI) a4) (Y (rL rI) zr))(a1 a2:P U)(a3)(x1:U)(v5)(r9)(a0)(v6)(r18)(h14:(A3 ([]:P U).length a1.length 8)=T)(h15:(A3 a1.length ([r9]:P U).length 8)=T)(h16:(A3 ([]:P U).length a2.length 8)=T)(h17:(A3 a2.length ([v5]:P U).length 8)=T)(h18:rec_ a0 (a1++([r9]:P U)) (a2++([v5]:P U)) a3 v6=N r18):∀(f:W) (b0 b2:V) (b8 b13 b14:V),Ad Z B4 (B0 a1 a2 a3 x1 v5 r9 a0 r18) f [b0,L,b2,L,T,T,L,L,b8,L,T,T,L,b13,b14,L,L] (A8 a1 a2 a3 x1 v5 r9 a0 (vc (.own 90000)) (vc (.own 3200)) (vc (.own 3200)) (vc (.own 3200)) (vc (.own 3584)) (vc (.own 3584)) (vc (.own 3584)) (vc (.own 90000)) (vc (.own 90000)) b0 L b2 L T T L L b8 L T T L b13 b14 L [(5,[aL (Y X7.row a0.Points),aL (Y X2.row a0.Segments)])] [(90000,1,Y (rL rI) v6),(3456,1,Y rI ([r9]:P U)),(3840,1,Y rI ([v5]:P U))]):=by
 intro f
 induction f with
 | zero=>intro b0 b2 b8 b13 b14 h; simp at h
 | succ f ih=>
  intro b0 b2 b8 b13 b14;refine Af ⟨?_,?_,?_,?_,?_,?_,?_,?_,?_,?_,?_,?_,?_,?_,?_,?_,?_,⟨⟩⟩<;>try first | (intro h; cases h; done) | (intro _ hw; simp at hw; done) | (intro h0 hw; obtain rfl:=hz h0 rfl; refine np ?_; simp only[A8,A5,A6,A2,C,E,F,G,H,J]; exact ih _ _ _ _ _)
  ·intro h0 hw;refine⟨[],[(O,.keep [1,2,3,4,5,11,12,14,31,32,33,49,50,51,52,53,54,55,56,57,58,59,60,61,62,63,64,4] [5] [90000,3200,3456,3840])],X,X,?_⟩;try simp only[A8,A5,A6,zA,I,A2,C,E,F,G,H,J]
   refine Aq (es:=Y rI ([]:P U)) X (by simp only[St.fresh,zB,zC,Ah]; simp[AV.cells,V1.cells,AC.uses]) ?_;try simp only[A2,C,E,F,G,H,J]
   exact Uv rec_ h_rec a1 a2 a3 x1 v5 r9 a0 v6 r18 h14 h15 h16 h17 h18 _ b0 b2 b8 b13 b14
  ·intro h0 hw;refine⟨[],[(O,.keep [1,2,3,4,5,11,12,14,31,32,33,49,50,51,52,53,54,55,56,57,58,59,60,61,62,63,64,4] [5] [90000,3456,3584,3840])],X,X,?_⟩;try simp only[A8,A5,A6,zA,I,A2,C,E,F,G,H,J]
   refine Aq (es:=Y rI ([]:P U)) X (by simp only[St.fresh,zB,zC,Ah]; simp[AV.cells,V1.cells,AC.uses]) ?_;try simp only[A2,C,E,F,G,H,J]
   exact Ux rec_ h_rec a1 a2 a3 x1 v5 r9 a0 v6 r18 h14 h15 h16 h17 h18 _ b0 b2 b8 b13 b14
theorem ck(rec_:X1→(P U)→(P U)→U→(P (P U))→Q (P (P U)))(h_rec:∀(a0:X1) (a1 a2:P U) (a3:U) (a4:P (P U)) zr,rec_ a0 a1 a2 a3 a4=N zr→FCt Z 179 [.d (.ag (X1.row a0)),.d (.sc (.sl (Y rI a1))),.d (.sc (.sl (Y rI a2))),.d (.sc (.int .i64 a3)),.r] 1 (Y (rL rI) a4) (Y (rL rI) zr))(a1 a2:P U)(a3)(x1:U)(v5)(r9)(a0)(v6)(r18)(h14:(A3 ([]:P U).length a1.length 8)=T)(h15:(A3 a1.length ([r9]:P U).length 8)=T)(h16:(A3 ([]:P U).length a2.length 8)=T)(h17:(A3 a2.length ([v5]:P U).length 8)=T)(h18:rec_ a0 (a1++([r9]:P U)) (a2++([v5]:P U)) a3 v6=N r18):∀(f:W) (b0 b2:V) (b4 b8:V) (b13 b14:V),Ad Z B4 (B0 a1 a2 a3 x1 v5 r9 a0 r18) f [b0,L,b2,L,b4,L,L,T,b8,L,T,T,L,b13,b14,L,L] (A8 a1 a2 a3 x1 v5 r9 a0 (vc (.own 90000)) (vc (.own 3200)) (vc (.own 3200)) (vc (.own 3200)) (vc (.own 3584)) (vc (.own 3584)) (vc (.own 3584)) (vc (.own 90000)) (vc (.own 90000)) b0 L b2 L b4 L L T b8 L T T L b13 b14 L [(5,[aL (Y X7.row a0.Points),aL (Y X2.row a0.Segments)])] [(90000,1,Y (rL rI) v6),(3584,1,Y rI ([]:P U)),(3840,1,Y rI ([v5]:P U))]):=by
 intro f
 induction f with
 | zero=>intro b0 b2 b4 b8 b13 b14 h; simp at h
 | succ f ih=>
  intro b0 b2 b4 b8 b13 b14;refine Af ⟨?_,?_,?_,?_,?_,?_,?_,?_,?_,?_,?_,?_,?_,?_,?_,?_,?_,⟨⟩⟩<;>try first | (intro h; cases h; done) | (intro _ hw; simp at hw; done) | (intro h0 hw; obtain rfl:=hz h0 rfl; refine np ?_; simp only[A8,A5,A6,A2,C,E,F,G,H,J]; exact ih _ _ _ _ _ _)
  ·intro h0 hw;refine⟨[],[(O,.keep [1,2,3,4,5,11,12,14,31,32,33,49,50,51,52,53,54,55,56,57,58,59,60,61,62,63,64,4] [5] [90000,3200,3584,3840])],X,X,?_⟩;try simp only[A8,A5,A6,zA,I,A2,C,E,F,G,H,J]
   refine Aq (es:=Y rI ([]:P U)) X (by simp only[St.fresh,zB,zC,Ah]; simp[AV.cells,V1.cells,AC.uses]) ?_;try simp only[A2,C,E,F,G,H,J]
   exact Uw rec_ h_rec a1 a2 a3 x1 v5 r9 a0 v6 r18 h14 h15 h16 h17 h18 _ b0 b2 b4 b8 b13 b14
  ·intro h0 hw;obtain rfl:=hq hw 4 rfl rfl;refine⟨[],[(O,.keep [1,2,3,4,5,11,12,14,31,32,33,49,50,51,52,53,54,55,56,57,58,59,60,61,62,63,64,4] [5] [90000,3456,3584,3840])],X,X,?_⟩;try simp only[A8,A5,A6,zA,I,A2,C,E,F,G,H,J]
   refine Aq (es:=Y rI ([r9]:P U)) X (by simp only[St.fresh,zB,zC,Ah]; simp[AV.cells,V1.cells,AC.uses]) ?_;try simp only[A2,C,E,F,G,H,J]
   exact Ux rec_ h_rec a1 a2 a3 x1 v5 r9 a0 v6 r18 h14 h15 h16 h17 h18 _ b0 b2 b8 b13 b14
theorem A8h(rec_:X1→(P U)→(P U)→U→(P (P U))→Q (P (P U)))(h_rec:∀(a0:X1) (a1 a2:P U) (a3:U) (a4:P (P U)) zr,rec_ a0 a1 a2 a3 a4=N zr→FCt Z 179 [.d (.ag (X1.row a0)),.d (.sc (.sl (Y rI a1))),.d (.sc (.sl (Y rI a2))),.d (.sc (.int .i64 a3)),.r] 1 (Y (rL rI) a4) (Y (rL rI) zr))(a1 a2:P U)(a3)(x1:U)(v5)(r9)(a0)(v6)(r18)(h14:(A3 ([]:P U).length a1.length 8)=T)(h15:(A3 a1.length ([r9]:P U).length 8)=T)(h16:(A3 ([]:P U).length a2.length 8)=T)(h17:(A3 a2.length ([v5]:P U).length 8)=T)(h18:rec_ a0 (a1++([r9]:P U)) (a2++([v5]:P U)) a3 v6=N r18):∀(f:W) (b0 b2:V) (b4 b8:V) (b10 b13 b14:V),Ad Z B4 (B0 a1 a2 a3 x1 v5 r9 a0 r18) f [b0,T,b2,L,b4,L,L,L,b8,L,b10,L,L,b13,b14,L,L] (A8 a1 a2 a3 x1 v5 r9 a0 (vc (.own 90000)) (vc (.own 3200)) (vc (.own 3200)) (vc (.own 3200)) (vc (.own 3584)) (vc (.own 3584)) (vc (.own 3584)) (vc (.own 90000)) (vc (.own 90000)) b0 T b2 L b4 L L L b8 L b10 L L b13 b14 L [(5,[aL (Y X7.row a0.Points),aL (Y X2.row a0.Segments)])] [(90000,1,Y (rL rI) v6),(3200,1,Y rI ([]:P U))]):=by
 intro f
 induction f with
 | zero=>intro b0 b2 b4 b8 b10 b13 b14 h; simp at h
 | succ f ih=>
  intro b0 b2 b4 b8 b10 b13 b14;refine Af ⟨?_,?_,?_,?_,?_,?_,?_,?_,?_,?_,?_,?_,?_,?_,?_,?_,?_,⟨⟩⟩<;>try first | (intro h; cases h; done) | (intro _ hw; simp at hw; done) | (intro h0 hw; obtain rfl:=hz h0 rfl; refine np ?_; simp only[A8,A5,A6,A2,C,E,F,G,H,J]; exact ih _ _ _ _ _ _ _)
  ·intro h0 hw;obtain rfl:=hq hw 2 rfl rfl;refine⟨[],[(O,.keep [1,2,3,4,5,11,12,14,31,32,33,49,50,51,52,53,54,55,56,57,58,59,60,61,62,63,64,4] [5] [90000,3200])],X,X,?_⟩;try simp only[h14,A8,A5,A6,zA,I,A2,C,E,F,G,H,J]
   exact A8f rec_ h_rec a1 a2 a3 x1 v5 r9 a0 v6 r18 h14 h15 h16 h17 h18 _ b0 b4 b8 b10 b13 b14
  ·intro h0 hw;obtain rfl:=hq hw 4 rfl rfl;refine⟨[],[(O,.keep [1,2,3,4,5,11,12,14,31,32,33,49,50,51,52,53,54,55,56,57,58,59,60,61,62,63,64,4] [5] [90000,3200,3456])],X,X,?_⟩;try simp only[A8,A5,A6,zA,I,A2,C,E,F,G,H,J]
   refine Aq (es:=Y rI ([r9]:P U)) X (by simp only[St.fresh,zB,zC,Ah]; simp[AV.cells,V1.cells,AC.uses]) ?_;try simp only[A2,C,E,F,G,H,J]
   exact cd rec_ h_rec a1 a2 a3 x1 v5 r9 a0 v6 r18 h14 h15 h16 h17 h18 _ b0 b2 b8 b10 b13 b14
  ·intro h0 hw;refine⟨[],[(O,.keep [1,2,3,4,5,11,12,14,31,32,33,49,50,51,52,53,54,55,56,57,58,59,60,61,62,63,64,4] [5] [90000,3200,3584])],X,X,?_⟩;try simp only[A8,A5,A6,zA,I,A2,C,E,F,G,H,J]
   refine Aq (es:=Y rI ([]:P U)) X (by simp only[St.fresh,zB,zC,Ah]; simp[AV.cells,V1.cells,AC.uses]) ?_;try simp only[A2,C,E,F,G,H,J]
   exact ce rec_ h_rec a1 a2 a3 x1 v5 r9 a0 v6 r18 h14 h15 h16 h17 h18 _ b0 b2 b4 b8 b10 b13 b14
  ·intro h0 hw;obtain rfl:=hq hw 10 rfl rfl;refine⟨[],[(O,.keep [1,2,3,4,5,11,12,14,31,32,33,49,50,51,52,53,54,55,56,57,58,59,60,61,62,63,64,4] [5] [90000,3200,3840])],X,X,?_⟩;try simp only[A8,A5,A6,zA,I,A2,C,E,F,G,H,J]
   refine Aq (es:=Y rI ([v5]:P U)) X (by simp only[St.fresh,zB,zC,Ah]; simp[AV.cells,V1.cells,AC.uses]) ?_;try simp only[A2,C,E,F,G,H,J]
   exact cf rec_ h_rec a1 a2 a3 x1 v5 r9 a0 v6 r18 h14 h15 h16 h17 h18 _ b0 b2 b4 b8 b13 b14
theorem A8i(rec_:X1→(P U)→(P U)→U→(P (P U))→Q (P (P U)))(h_rec:∀(a0:X1) (a1 a2:P U) (a3:U) (a4:P (P U)) zr,rec_ a0 a1 a2 a3 a4=N zr→FCt Z 179 [.d (.ag (X1.row a0)),.d (.sc (.sl (Y rI a1))),.d (.sc (.sl (Y rI a2))),.d (.sc (.int .i64 a3)),.r] 1 (Y (rL rI) a4) (Y (rL rI) zr))(a1 a2:P U)(a3)(x1:U)(v5)(r9)(a0)(v6)(r18)(h14:(A3 ([]:P U).length a1.length 8)=T)(h15:(A3 a1.length ([r9]:P U).length 8)=T)(h16:(A3 ([]:P U).length a2.length 8)=T)(h17:(A3 a2.length ([v5]:P U).length 8)=T)(h18:rec_ a0 (a1++([r9]:P U)) (a2++([v5]:P U)) a3 v6=N r18):∀(f:W) (b0 b2:V) (b8 b10:V) (b13 b14:V),Ad Z B4 (B0 a1 a2 a3 x1 v5 r9 a0 r18) f [b0,L,b2,L,T,T,L,L,b8,L,b10,L,L,b13,b14,L,L] (A8 a1 a2 a3 x1 v5 r9 a0 (vc (.own 90000)) (vc (.own 3200)) (vc (.own 3200)) (vc (.own 3200)) (vc (.own 3584)) (vc (.own 3584)) (vc (.own 3584)) (vc (.own 90000)) (vc (.own 90000)) b0 L b2 L T T L L b8 L b10 L L b13 b14 L [(5,[aL (Y X7.row a0.Points),aL (Y X2.row a0.Segments)])] [(90000,1,Y (rL rI) v6),(3456,1,Y rI ([r9]:P U))]):=by
 intro f
 induction f with
 | zero=>intro b0 b2 b8 b10 b13 b14 h; simp at h
 | succ f ih=>
  intro b0 b2 b8 b10 b13 b14;refine Af ⟨?_,?_,?_,?_,?_,?_,?_,?_,?_,?_,?_,?_,?_,?_,?_,?_,?_,⟨⟩⟩<;>try first | (intro h; cases h; done) | (intro _ hw; simp at hw; done) | (intro h0 hw; obtain rfl:=hz h0 rfl; refine np ?_; simp only[A8,A5,A6,A2,C,E,F,G,H,J]; exact ih _ _ _ _ _ _)
  ·intro h0 hw;refine⟨[],[(O,.keep [1,2,3,4,5,11,12,14,31,32,33,49,50,51,52,53,54,55,56,57,58,59,60,61,62,63,64,4] [5] [90000,3200,3456])],X,X,?_⟩;try simp only[A8,A5,A6,zA,I,A2,C,E,F,G,H,J]
   refine Aq (es:=Y rI ([]:P U)) X (by simp only[St.fresh,zB,zC,Ah]; simp[AV.cells,V1.cells,AC.uses]) ?_;try simp only[A2,C,E,F,G,H,J]
   exact cd rec_ h_rec a1 a2 a3 x1 v5 r9 a0 v6 r18 h14 h15 h16 h17 h18 _ b0 b2 b8 b10 b13 b14
  ·intro h0 hw;refine⟨[],[(O,.keep [1,2,3,4,5,11,12,14,31,32,33,49,50,51,52,53,54,55,56,57,58,59,60,61,62,63,64,4] [5] [90000,3456,3584])],X,X,?_⟩;try simp only[A8,A5,A6,zA,I,A2,C,E,F,G,H,J]
   refine Aq (es:=Y rI ([]:P U)) X (by simp only[St.fresh,zB,zC,Ah]; simp[AV.cells,V1.cells,AC.uses]) ?_;try simp only[A2,C,E,F,G,H,J]
   exact cg rec_ h_rec a1 a2 a3 x1 v5 r9 a0 v6 r18 h14 h15 h16 h17 h18 _ b0 b2 b8 b10 b13 b14
  ·intro h0 hw;obtain rfl:=hq hw 10 rfl rfl;refine⟨[],[(O,.keep [1,2,3,4,5,11,12,14,31,32,33,49,50,51,52,53,54,55,56,57,58,59,60,61,62,63,64,4] [5] [90000,3456,3840])],X,X,?_⟩;try simp only[A8,A5,A6,zA,I,A2,C,E,F,G,H,J]
   refine Aq (es:=Y rI ([v5]:P U)) X (by simp only[St.fresh,zB,zC,Ah]; simp[AV.cells,V1.cells,AC.uses]) ?_;try simp only[A2,C,E,F,G,H,J]
   exact cj rec_ h_rec a1 a2 a3 x1 v5 r9 a0 v6 r18 h14 h15 h16 h17 h18 _ b0 b2 b8 b13 b14
theorem A8j(rec_:X1→(P U)→(P U)→U→(P (P U))→Q (P (P U)))(h_rec:∀(a0:X1) (a1 a2:P U) (a3:U) (a4:P (P U)) zr,rec_ a0 a1 a2 a3 a4=N zr→FCt Z 179 [.d (.ag (X1.row a0)),.d (.sc (.sl (Y rI a1))),.d (.sc (.sl (Y rI a2))),.d (.sc (.int .i64 a3)),.r] 1 (Y (rL rI) a4) (Y (rL rI) zr))(a1 a2:P U)(a3)(x1:U)(v5)(r9)(a0)(v6)(r18)(h14:(A3 ([]:P U).length a1.length 8)=T)(h15:(A3 a1.length ([r9]:P U).length 8)=T)(h16:(A3 ([]:P U).length a2.length 8)=T)(h17:(A3 a2.length ([v5]:P U).length 8)=T)(h18:rec_ a0 (a1++([r9]:P U)) (a2++([v5]:P U)) a3 v6=N r18):∀(f:W) (b0 b2:V) (b4 b8:V) (b10 b13 b14:V),Ad Z B4 (B0 a1 a2 a3 x1 v5 r9 a0 r18) f [b0,L,b2,L,b4,L,L,T,b8,L,b10,L,L,b13,b14,L,L] (A8 a1 a2 a3 x1 v5 r9 a0 (vc (.own 90000)) (vc (.own 3200)) (vc (.own 3200)) (vc (.own 3200)) (vc (.own 3584)) (vc (.own 3584)) (vc (.own 3584)) (vc (.own 90000)) (vc (.own 90000)) b0 L b2 L b4 L L T b8 L b10 L L b13 b14 L [(5,[aL (Y X7.row a0.Points),aL (Y X2.row a0.Segments)])] [(90000,1,Y (rL rI) v6),(3584,1,Y rI ([]:P U))]):=by
 intro f
 induction f with
 | zero=>intro b0 b2 b4 b8 b10 b13 b14 h; simp at h
 | succ f ih=>
  intro b0 b2 b4 b8 b10 b13 b14;refine Af ⟨?_,?_,?_,?_,?_,?_,?_,?_,?_,?_,?_,?_,?_,?_,?_,?_,?_,⟨⟩⟩<;>try first | (intro h; cases h; done) | (intro _ hw; simp at hw; done) | (intro h0 hw; obtain rfl:=hz h0 rfl; refine np ?_; simp only[A8,A5,A6,A2,C,E,F,G,H,J]; exact ih _ _ _ _ _ _ _)
  ·intro h0 hw;refine⟨[],[(O,.keep [1,2,3,4,5,11,12,14,31,32,33,49,50,51,52,53,54,55,56,57,58,59,60,61,62,63,64,4] [5] [90000,3200,3584])],X,X,?_⟩;try simp only[A8,A5,A6,zA,I,A2,C,E,F,G,H,J]
   refine Aq (es:=Y rI ([]:P U)) X (by simp only[St.fresh,zB,zC,Ah]; simp[AV.cells,V1.cells,AC.uses]) ?_;try simp only[A2,C,E,F,G,H,J]
   exact ce rec_ h_rec a1 a2 a3 x1 v5 r9 a0 v6 r18 h14 h15 h16 h17 h18 _ b0 b2 b4 b8 b10 b13 b14
  ·intro h0 hw;obtain rfl:=hq hw 4 rfl rfl;refine⟨[],[(O,.keep [1,2,3,4,5,11,12,14,31,32,33,49,50,51,52,53,54,55,56,57,58,59,60,61,62,63,64,4] [5] [90000,3456,3584])],X,X,?_⟩;try simp only[A8,A5,A6,zA,I,A2,C,E,F,G,H,J]
   refine Aq (es:=Y rI ([r9]:P U)) X (by simp only[St.fresh,zB,zC,Ah]; simp[AV.cells,V1.cells,AC.uses]) ?_;try simp only[A2,C,E,F,G,H,J]
   exact cg rec_ h_rec a1 a2 a3 x1 v5 r9 a0 v6 r18 h14 h15 h16 h17 h18 _ b0 b2 b8 b10 b13 b14
  ·intro h0 hw;obtain rfl:=hq hw 10 rfl rfl;refine⟨[],[(O,.keep [1,2,3,4,5,11,12,14,31,32,33,49,50,51,52,53,54,55,56,57,58,59,60,61,62,63,64,4] [5] [90000,3584,3840])],X,X,?_⟩;try simp only[A8,A5,A6,zA,I,A2,C,E,F,G,H,J]
   refine Aq (es:=Y rI ([v5]:P U)) X (by simp only[St.fresh,zB,zC,Ah]; simp[AV.cells,V1.cells,AC.uses]) ?_;try simp only[A2,C,E,F,G,H,J]
   exact ck rec_ h_rec a1 a2 a3 x1 v5 r9 a0 v6 r18 h14 h15 h16 h17 h18 _ b0 b2 b4 b8 b13 b14
theorem A8k(rec_:X1→(P U)→(P U)→U→(P (P U))→Q (P (P U)))(h_rec:∀(a0:X1) (a1 a2:P U) (a3:U) (a4:P (P U)) zr,rec_ a0 a1 a2 a3 a4=N zr→FCt Z 179 [.d (.ag (X1.row a0)),.d (.sc (.sl (Y rI a1))),.d (.sc (.sl (Y rI a2))),.d (.sc (.int .i64 a3)),.r] 1 (Y (rL rI) a4) (Y (rL rI) zr))(a1 a2:P U)(a3)(x1:U)(v5)(r9)(a0)(v6)(r18)(h14:(A3 ([]:P U).length a1.length 8)=T)(h15:(A3 a1.length ([r9]:P U).length 8)=T)(h16:(A3 ([]:P U).length a2.length 8)=T)(h17:(A3 a2.length ([v5]:P U).length 8)=T)(h18:rec_ a0 (a1++([r9]:P U)) (a2++([v5]:P U)) a3 v6=N r18):∀(f:W) (b0 b2:V) (b4 b8:V) (b13 b14:V),Ad Z B4 (B0 a1 a2 a3 x1 v5 r9 a0 r18) f [b0,L,b2,L,b4,L,L,L,b8,L,T,T,L,b13,b14,L,L] (A8 a1 a2 a3 x1 v5 r9 a0 (vc (.own 90000)) (vc (.own 3200)) (vc (.own 3200)) (vc (.own 3200)) (vc (.own 3584)) (vc (.own 3584)) (vc (.own 3584)) (vc (.own 90000)) (vc (.own 90000)) b0 L b2 L b4 L L L b8 L T T L b13 b14 L [(5,[aL (Y X7.row a0.Points),aL (Y X2.row a0.Segments)])] [(90000,1,Y (rL rI) v6),(3840,1,Y rI ([v5]:P U))]):=by
 intro f
 induction f with
 | zero=>intro b0 b2 b4 b8 b13 b14 h; simp at h
 | succ f ih=>
  intro b0 b2 b4 b8 b13 b14;refine Af ⟨?_,?_,?_,?_,?_,?_,?_,?_,?_,?_,?_,?_,?_,?_,?_,?_,?_,⟨⟩⟩<;>try first | (intro h; cases h; done) | (intro _ hw; simp at hw; done) | (intro h0 hw; obtain rfl:=hz h0 rfl; refine np ?_; simp only[A8,A5,A6,A2,C,E,F,G,H,J]; exact ih _ _ _ _ _ _)
  ·intro h0 hw;refine⟨[],[(O,.keep [1,2,3,4,5,11,12,14,31,32,33,49,50,51,52,53,54,55,56,57,58,59,60,61,62,63,64,4] [5] [90000,3200,3840])],X,X,?_⟩;try simp only[A8,A5,A6,zA,I,A2,C,E,F,G,H,J]
   refine Aq (es:=Y rI ([]:P U)) X (by simp only[St.fresh,zB,zC,Ah]; simp[AV.cells,V1.cells,AC.uses]) ?_;try simp only[A2,C,E,F,G,H,J]
   exact cf rec_ h_rec a1 a2 a3 x1 v5 r9 a0 v6 r18 h14 h15 h16 h17 h18 _ b0 b2 b4 b8 b13 b14
  ·intro h0 hw;obtain rfl:=hq hw 4 rfl rfl;refine⟨[],[(O,.keep [1,2,3,4,5,11,12,14,31,32,33,49,50,51,52,53,54,55,56,57,58,59,60,61,62,63,64,4] [5] [90000,3456,3840])],X,X,?_⟩;try simp only[A8,A5,A6,zA,I,A2,C,E,F,G,H,J]
   refine Aq (es:=Y rI ([r9]:P U)) X (by simp only[St.fresh,zB,zC,Ah]; simp[AV.cells,V1.cells,AC.uses]) ?_;try simp only[A2,C,E,F,G,H,J]
   exact cj rec_ h_rec a1 a2 a3 x1 v5 r9 a0 v6 r18 h14 h15 h16 h17 h18 _ b0 b2 b8 b13 b14
  ·intro h0 hw;refine⟨[],[(O,.keep [1,2,3,4,5,11,12,14,31,32,33,49,50,51,52,53,54,55,56,57,58,59,60,61,62,63,64,4] [5] [90000,3584,3840])],X,X,?_⟩;try simp only[A8,A5,A6,zA,I,A2,C,E,F,G,H,J]
   refine Aq (es:=Y rI ([]:P U)) X (by simp only[St.fresh,zB,zC,Ah]; simp[AV.cells,V1.cells,AC.uses]) ?_;try simp only[A2,C,E,F,G,H,J]
   exact ck rec_ h_rec a1 a2 a3 x1 v5 r9 a0 v6 r18 h14 h15 h16 h17 h18 _ b0 b2 b4 b8 b13 b14
theorem A8l(rec_:X1→(P U)→(P U)→U→(P (P U))→Q (P (P U)))(h_rec:∀(a0:X1) (a1 a2:P U) (a3:U) (a4:P (P U)) zr,rec_ a0 a1 a2 a3 a4=N zr→FCt Z 179 [.d (.ag (X1.row a0)),.d (.sc (.sl (Y rI a1))),.d (.sc (.sl (Y rI a2))),.d (.sc (.int .i64 a3)),.r] 1 (Y (rL rI) a4) (Y (rL rI) zr))(a1 a2:P U)(a3)(x1:U)(v5)(r9)(a0)(v6)(r18)(h14:(A3 ([]:P U).length a1.length 8)=T)(h15:(A3 a1.length ([r9]:P U).length 8)=T)(h16:(A3 ([]:P U).length a2.length 8)=T)(h17:(A3 a2.length ([v5]:P U).length 8)=T)(h18:rec_ a0 (a1++([r9]:P U)) (a2++([v5]:P U)) a3 v6=N r18):∀(f:W) (b0 b2:V) (b4 b8:V) (b10 b13 b14:V),Ad Z B4 (B0 a1 a2 a3 x1 v5 r9 a0 r18) f [b0,L,b2,L,b4,L,L,L,b8,L,b10,L,L,b13,b14,L,L] (A8 a1 a2 a3 x1 v5 r9 a0 (vc (.own 90000)) (vc (.own 3200)) (vc (.own 3200)) (vc (.own 3200)) (vc (.own 3584)) (vc (.own 3584)) (vc (.own 3584)) (vc (.own 90000)) (.undef) b0 L b2 L b4 L L L b8 L b10 L L b13 b14 L [(5,[aL (Y X7.row a0.Points),aL (Y X2.row a0.Segments)])] [(90000,1,Y (rL rI) v6)]):=by
 intro f
 induction f with
 | zero=>intro b0 b2 b4 b8 b10 b13 b14 h; simp at h
 | succ f ih=>
  intro b0 b2 b4 b8 b10 b13 b14;refine Af ⟨?_,?_,?_,?_,?_,?_,?_,?_,?_,?_,?_,?_,?_,?_,?_,?_,?_,⟨⟩⟩<;>try first | (intro _ hw; simp at hw; done) | (intro h0 hw; obtain rfl:=hz h0 rfl; refine np ?_; simp only[A8,A5,A6,A2,C,E,F,G,H,J]; exact ih _ _ _ _ _ _ _)
  ·intro h0 hw;refine⟨[],[(O,.keep [1,2,3,4,5,11,12,14,31,32,33,49,50,51,52,53,54,55,56,57,58,59,60,61,62,63,64,4] [5] [90000,3200])],X,X,?_⟩;try simp only[A8,A5,A6,zA,I,A2,C,E,F,G,H,J]
   refine Aq (es:=Y rI ([]:P U)) X (by simp only[St.fresh,zB,zC,Ah]; simp[AV.cells,V1.cells,AC.uses]) ?_;try simp only[A2,C,E,F,G,H,J]
   exact A8h rec_ h_rec a1 a2 a3 x1 v5 r9 a0 v6 r18 h14 h15 h16 h17 h18 _ b0 b2 b4 b8 b10 b13 b14
  ·intro h0 hw;obtain rfl:=hq hw 4 rfl rfl;refine⟨[],[(O,.keep [1,2,3,4,5,11,12,14,31,32,33,49,50,51,52,53,54,55,56,57,58,59,60,61,62,63,64,4] [5] [90000,3456])],X,X,?_⟩;try simp only[A8,A5,A6,zA,I,A2,C,E,F,G,H,J]
   refine Aq (es:=Y rI ([r9]:P U)) X (by simp only[St.fresh,zB,zC,Ah]; simp[AV.cells,V1.cells,AC.uses]) ?_;try simp only[A2,C,E,F,G,H,J]
   exact A8i rec_ h_rec a1 a2 a3 x1 v5 r9 a0 v6 r18 h14 h15 h16 h17 h18 _ b0 b2 b8 b10 b13 b14
  ·intro h0 hw;refine⟨[],[(O,.keep [1,2,3,4,5,11,12,14,31,32,33,49,50,51,52,53,54,55,56,57,58,59,60,61,62,63,64,4] [5] [90000,3584])],X,X,?_⟩;try simp only[A8,A5,A6,zA,I,A2,C,E,F,G,H,J]
   refine Aq (es:=Y rI ([]:P U)) X (by simp only[St.fresh,zB,zC,Ah]; simp[AV.cells,V1.cells,AC.uses]) ?_;try simp only[A2,C,E,F,G,H,J]
   exact A8j rec_ h_rec a1 a2 a3 x1 v5 r9 a0 v6 r18 h14 h15 h16 h17 h18 _ b0 b2 b4 b8 b10 b13 b14
  ·intro h0 hw;obtain rfl:=hq hw 10 rfl rfl;refine⟨[],[(O,.keep [1,2,3,4,5,11,12,14,31,32,33,49,50,51,52,53,54,55,56,57,58,59,60,61,62,63,64,4] [5] [90000,3840])],X,X,?_⟩;try simp only[A8,A5,A6,zA,I,A2,C,E,F,G,H,J]
   refine Aq (es:=Y rI ([v5]:P U)) X (by simp only[St.fresh,zB,zC,Ah]; simp[AV.cells,V1.cells,AC.uses]) ?_;try simp only[A2,C,E,F,G,H,J]
   exact A8k rec_ h_rec a1 a2 a3 x1 v5 r9 a0 v6 r18 h14 h15 h16 h17 h18 _ b0 b2 b4 b8 b13 b14
def gA:=fun a1 a2 a3 x1 v5 r9 (a0:X1) v6 (k_:V→Q (P (P U)))=>∀{v12} {zr},k_ v12=N zr→Kh Z 179 QQ 31 [1,2,3,4,5,11,12,14,31,32,33,48] [5] [90000] ⟨[pL 1 rI a1,pL 2 rI a2,pI 3 a3,pW 4 90000,pB 5,pI 11 x1,pI 12 v5,pI 14 r9,pL 31 X2.row a0.Segments,pI 32 (a0.Segments.length:U),pI 33 v5,(48,vc (aB v12))],[(5,[aM X7.row a0.Points,aM X2.row a0.Segments])],[(90000,1,Y (rL rI) v6)]⟩ (He [10] 1 (Y (rL rI) zr))
def V4:=fun a1 a2 a3 x1 (a0:X1) (k_:U→(P (P U))→Q (P (P U)))=>∀{v5 v6} {zr},k_ v5 v6=N zr→Kh Z 179 QQ 16 [1,2,3,4,5,11,31,32,33] [5] [90000] ⟨[pL 1 rI a1,pL 2 rI a2,pI 3 a3,pW 4 90000,pB 5,pI 11 x1,pL 31 X2.row a0.Segments,pI 32 (a0.Segments.length:U),pI 33 v5],[(5,[aM X7.row a0.Points,aM X2.row a0.Segments])],[(90000,1,Y (rL rI) v6)]⟩ (He [10] 1 (Y (rL rI) zr))
theorem cl{rec_:X1→(P U)→(P U)→U→(P (P U))→Q (P (P U))}(h_rec:∀(a0:X1) (a1 a2:P U) (a3:U) (a4:P (P U)) zr,rec_ a0 a1 a2 a3 a4=N zr→FCt Z 179 [.d (.ag (X1.row a0)),.d (.sc (.sl (Y rI a1))),.d (.sc (.sl (Y rI a2))),.d (.sc (.int .i64 a3)),.r] 1 (Y (rL rI) a4) (Y (rL rI) zr)){a1 a2 a3 x1 v5 r9 a0 v6}{OB}(Yj:V4 a1 a2 a3 x1 a0 OB):gA a1 a2 a3 x1 v5 r9 a0 v6 (IM rec_ a1 a2 a3 x1 v5 r9 a0 v6 OB):=by
 intro v12 r h σ hσ S hS;refine ev hS ?_;refine AA ?_;unfold IM at h;obtain⟨h13,h⟩|⟨h13,h⟩:=ic h
 ·try simp only[hσ,h13,C,E,F,G,H,J]
  obtain⟨h14,h⟩:=AR h;obtain⟨h15,h⟩:=AR h;obtain⟨h16,h⟩:=AR h;obtain⟨h17,h⟩:=AR h;obtain⟨r18,h18,h⟩:=ob h;refine E3 (ks:= [1,2,3,4,5,11,12,14,31,32,33]) (bs:= [5]) (rs:= [90000]) (τ:=(B0 a1 a2 a3 x1 v5 r9 a0 r18)) X (A8l rec_ h_rec a1 a2 a3 x1 v5 r9 a0 v6 r18 h14 h15 h16 h17 h18 _ L L L L L L L) ?_;simp only[B0,A8,A5];try simp only[h13,h14,h15,h16,h17,C,E,F,G,H,J]
  refine Yj h ?_ (by kernel_rfl);try simp only[h13,h14,h15,h16,h17,C,E,F,G,H,J,pL,aM,zE]
 ·try simp only[hσ,h13,C,E,F,G,H,J]
  refine Yj h ?_ (by kernel_rfl);try simp only[h13,C,E,F,G,H,J,pL,aM,zE]
theorem A8m{rec_:X1→(P U)→(P U)→U→(P (P U))→Q (P (P U))}(h_rec:∀(a0:X1) (a1 a2:P U) (a3:U) (a4:P (P U)) zr,rec_ a0 a1 a2 a3 a4=N zr→FCt Z 179 [.d (.ag (X1.row a0)),.d (.sc (.sl (Y rI a1))),.d (.sc (.sl (Y rI a2))),.d (.sc (.int .i64 a3)),.r] 1 (Y (rL rI) a4) (Y (rL rI) zr)){a1 a2 a3 x1 a0}{n:W}:V4 a1 a2 a3 x1 a0 (GD rec_ a1 a2 a3 x1 a0 n):=by
 induction n with
 | zero=>intro _ _ r h; cases h
 | succ n ih=>
  intro v5 v6 r h σ hσ S hS;refine ev hS ?_;rw[GD] at h;refine AM (AA ?_);obtain⟨h7,h⟩|⟨h7,h⟩:=ic h
  ·obtain⟨x8,h8,h⟩:=ob h;try simp only[hσ,h7,h8,C,E,F,G,H,J]
   refine Bv ?_;obtain⟨r9,h9,h⟩:=ob h;try simp only[h7,h8,C,E,F,G,H,J]
   refine AE (Ag bj h9) ?_;obtain⟨h10,h⟩|⟨h10,h⟩:=ic h
   ·obtain⟨r11,h11,h⟩:=ob h;try simp only[h7,h8,h10,C,E,F,G,H,J]
    refine AE (Ag bh h11) ?_;try simp only[h7,h8,h10,C,E,F,G,H,J]
    refine cl h_rec ih h ?_ (by kernel_rfl);try simp only[h7,h8,h10,C,E,F,G,H,J,pL,aM,zE]
   ·try simp only[h7,h8,h10,C,E,F,G,H,J]
    refine cl h_rec ih h ?_ (by kernel_rfl);try simp only[h7,h8,h10,C,E,F,G,H,J,pL,aM,zE]
  ·try simp only[hσ,h7,C,E,F,G,H,J]
   cases h;trivial
theorem nC:BM Z 179=N ((Ei Z 179 QQ).strip,[10],67):=by kernel_rfl
theorem A14(rec_:X1→(P U)→(P U)→U→(P (P U))→Q (P (P U)))(a0:X1)(a1 a2:P U)(a3:U)(a4:P (P U))(r:(P (P U)))(h_rec:∀(a0:X1) (a1 a2:P U) (a3:U) (a4:P (P U)) zr,rec_ a0 a1 a2 a3 a4=N zr→FCt Z 179 [.d (.ag (X1.row a0)),.d (.sc (.sl (Y rI a1))),.d (.sc (.sl (Y rI a2))),.d (.sc (.int .i64 a3)),.r] 1 (Y (rL rI) a4) (Y (rL rI) zr))(h:Qm rec_ a0 a1 a2 a3 a4=N r):FCt Z 179 [.d (.ag (X1.row a0)),.d (.sc (.sl (Y rI a1))),.d (.sc (.sl (Y rI a2))),.d (.sc (.int .i64 a3)),.r] 1 (Y (rL rI) a4) (Y (rL rI) r):=by
 unfold Qm at h;refine UA (σ:=⟨[(0,va [aL (Y X7.row a0.Points),aL (Y X2.row a0.Segments)]),(1,vc (aL (Y rI a1))),(2,vc (aL (Y rI a2))),(3,vc (aI a3)),(4,vc (.own 90000))],[],[(90000,1,Y (rL rI) a4)]⟩) mixed nC X X ?_;refine F4 QQ ?_;have s0:= @Ap (Y rI ([]:P U));have s1:= @Ap (Y (rL rI) ([a2]:P (P U)));have k0:= @A8m;exact gc
theorem A15:∀(n:W) (a0:X1) (a1:P U) (a2:P U) (a3:U) (a4:P (P U)) (r:(P (P U))),GE n a0 a1 a2 a3 a4=N r→FCt Z 179 [.d (.ag (X1.row a0)),.d (.sc (.sl (Y rI a1))),.d (.sc (.sl (Y rI a2))),.d (.sc (.int .i64 a3)),.r] 1 (Y (rL rI) a4) (Y (rL rI) r):=by
 intro n
 induction n with
 | zero=>intro _ _ _ _ _ r h; cases h
 | succ n ih=>intro a0 a1 a2 a3 a4 r h; rw[GE] at h; exact A14 (GE n) a0 a1 a2 a3 a4 r ih h
theorem A13{a0}{a1}{a2}{a3}{a4}{r}(h:SH a0 a1 a2 a3 a4=N r):FCt Z 179 [.d (.ag (X1.row a0)),.d (.sc (.sl (Y rI a1))),.d (.sc (.sl (Y rI a2))),.d (.sc (.int .i64 a3)),.r] 1 (Y (rL rI) a4) (Y (rL rI) r):=A15 bigN a0 a1 a2 a3 a4 r h
def qo:Hw:=([],[(11,5,(O,.frz 1920))])
instance B33:Ct 150 (∀{a0} {a1} {a2} {r},ND a0 a1 a2=N r→FC Z 150 [.ag (X1.row a0),.sc (.int .i64 a1),.sc (.int .i64 a2)] [.sc (.o 1 (Y (rL rI) r))]):=by
 refine⟨fun{a0} {a1} {a2} {r} h=> ?_⟩;unfold ND at h;refine A4 mixed qo [6] 34 ?_;intro S hS;refine ev hS ?_;simp only[C,E,F,G,H,J];try simp only[C,E,F,G,H,J]
 refine BE ?_;obtain⟨r1,h1,h⟩:=ob h;try simp only[C,E,F,G,H,J]
 refine AE (Ag A1x h1) ?_;obtain⟨h2,h⟩|⟨h2,h⟩:=ic h
 ·obtain⟨r3,h3,h⟩:=ob h;try simp only[h2,C,E,F,G,H,J]
  refine AE (Ag RL h3) ?_;obtain⟨h4,h⟩|⟨h4,h⟩:=ic h
  ·obtain⟨r5,h5,h⟩:=ob h;try simp only[h2,h4,C,E,F,G,H,J]
   refine AE (Ag RL h5) ?_;obtain⟨h6,h⟩|⟨h6,h⟩:=ic h
   ·try simp only[h2,h4,h6,C,E,F,G,H,J]
    refine Be (es:=Y rI ([a1]:P U)) ?_;try simp only[h2,h4,h6,C,E,F,G,H,J]
    refine Be (es:=Y (rL rI) ([]:P (P U))) ?_;try simp only[h2,h4,h6,C,E,F,G,H,J]
    refine C8 ?_;obtain⟨r7,h7,h⟩:=ob h;try simp only[h2,h4,h6,C,E,F,G,H,J]
    refine SN (A13 h7) 2048 X X X X X ?_;rw[Sh];try simp only[h2,h4,h6,C,E,F,G,H,J]
    cases h;exact t0
   ·try simp only[h2,h4,h6,C,E,F,G,H,J]
    cases h;exact t0
  ·try simp only[h2,h4,C,E,F,G,H,J]
   cases h;exact t0
 ·try simp only[h2,C,E,F,G,H,J]
  cases h;exact t0
def Y9:Hw:=([(16,[2,5,11,12,13],[2],[])],[])
def fj:=fun a1 (a0:X1) (k_:U→U→Q U)=>∀{v3 v4} {zr},k_ v3 v4=N zr→Kh Z 151 Y9 16 [2,5,11,12,13] [2] [] ⟨[pB 2,pI 5 v3,pL 11 rI a1,pI 12 (a1.length:U),pI 13 v4],[(2,[aM X7.row a0.Points,aM X2.row a0.Segments])],[]⟩ (A7 [4] [.sc (.v (.int .i64 zr))])
theorem A8n{a1 a0}{n:W}:fj a1 a0 (IF a1 a0 n):=by
 induction n with
 | zero=>intro _ _ r h; cases h
 | succ n ih=>
  intro v3 v4 r h σ hσ;rw[IF] at h;exact gc
instance bg:Ct 151 (∀{a0} {a1} {r},Gz a0 a1=N r→FC Z 151 [.ag (X1.row a0),.sc (.sl (Y rI a1))] [.sc (.v (.int .i64 r))]):=by
 refine⟨fun h=> ?_⟩;unfold Gz at h;refine A4 mixed Y9 [4] 34 ?_;have k0:= @A8n;exact gc
def Tb:Hw:=([(10,[3,8,9,16,17,18],[3],[1024]),(23,[3,8,9,11,16,17,18,32],[3],[1024])],[(3,1,(O,.frz 768))])
def fG:=fun v2 x6 r1 v4 (a0:X1) (k_:V→V→Q ((P U) × V))=>∀{v11 v12} {zr},k_ v11 v12=N zr→Kh Z 119 Tb 23 [3,8,9,11,16,17,18,32] [3] [1024] ⟨[pB 3,pL 8 rI v2,(9,vc (aB v11)),pL 11 rI x6,pW 16 1024,pI 17 (r1.length:U),pI 18 v4,(32,vc (aB v12))],[(3,[aM X7.row a0.Points,aM X2.row a0.Segments])],[(1024,1,Y (rL rI) r1)]⟩ (A7 [6,7] [.sc (.v (.sl (Y rI zr.1))),.sc (.v (.bool zr.2))])
def UU:=fun r1 (a0:X1) (k_:(P U)→V→U→Q ((P U) × V))=>∀{v2 v3 v4} {zr},k_ v2 v3 v4=N zr→Kh Z 119 Tb 10 [3,8,9,16,17,18] [3] [1024] ⟨[pB 3,pL 8 rI v2,(9,vc (aB v3)),pW 16 1024,pI 17 (r1.length:U),pI 18 v4],[(3,[aM X7.row a0.Points,aM X2.row a0.Segments])],[(1024,1,Y (rL rI) r1)]⟩ (A7 [6,7] [.sc (.v (.sl (Y rI zr.1))),.sc (.v (.bool zr.2))])
theorem cm{v2 x6 r1 v4 a0}{Ov}(rG:UU r1 a0 Ov):fG v2 x6 r1 v4 a0 (Kn v2 x6 r1 v4 a0 Ov):=by
 intro v11 v12 r h σ hσ;unfold Kn at h;have k0:= @rG;exact gc
theorem A8o{r1 a0}{n:W}:UU r1 a0 (Fm r1 a0 n):=by
 induction n with
 | zero=>intro _ _ _ r h; cases h
 | succ n ih=>
  intro v2 v3 v4 r h σ hσ S hS;refine ev hS ?_;rw[Fm] at h;refine AM (AA ?_);obtain⟨h5,h⟩|⟨h5,h⟩:=ic h
  ·obtain⟨x6,h6,h⟩:=ob h;have h6n:=Ay h6;try simp only[hσ,h5,h6,h6n,C,E,F,G,H,J]
   refine An ?_;obtain⟨h7,h⟩|⟨h7,h⟩:=ic h
   ·obtain⟨r9,h9,h⟩:=ob h;try simp only[h5,h6,h6n,h7,C,E,F,G,H,J]
    refine BF (Ag bg h9) ?_;obtain⟨r10,h10,h⟩:=ob h;try simp only[h5,h6,h6n,h7,C,E,F,G,H,J]
    refine BF (Ag bg h10) ?_;try simp only[h5,h6,h6n,h7,C,E,F,G,H,J]
    refine cm ih h ?_ (by kernel_rfl);try simp only[h5,h6,h6n,h7,C,E,F,G,H,J,pL,aM,zE]
   ·try simp only[h5,h6,h6n,h7,C,E,F,G,H,J]
    refine cm ih h ?_ (by kernel_rfl);try simp only[h5,h6,h6n,h7,C,E,F,G,H,J,pL,aM,zE]
  ·obtain⟨h14,h⟩|⟨h14,h⟩:=ic h
   ·try simp only[hσ,h5,h14,C,E,F,G,H,J]
    cases h;trivial
   ·try simp only[hσ,h5,h14,C,E,F,G,H,J]
    cases h;trivial
instance B3b:Ct 119 (∀{a0} {a1} {a2} {r},Nk a0 a1 a2=N r→FC Z 119 [.ag (X1.row a0),.sc (.int .i64 a1),.sc (.int .i64 a2)] [.sc (.v (.sl (Y rI r.1))),.sc (.v (.bool r.2))]):=by
 refine⟨fun h=> ?_⟩;unfold Nk at h;refine A4 mixed Tb [6,7] 38 ?_;have s0:= @Ap (Y rI ([]:P U));have k0:= @A8o;exact gc
instance B4k:Ct 206 (∀{a0} {a1} {a2} {r},IN a0 a1 a2=N r→FC Z 206 [.ag (X1.row a0),.sc (.int .i64 a1),.ag (X6.row a2)] [.sc (.v (.bool r))]):=by
 refine⟨fun h=> ?_⟩;unfold IN at h;refine A4 mixed h0 [6] 21 ?_;exact gc
instance B37:Ct 247 (∀{a0} {r},Ql a0=N r→FC Z 247 [.ag (X6.row a0)] [.sc (.v (.int .i64 r))]):=by
 refine⟨fun h=> ?_⟩;unfold Ql at h;refine A4 mixed h0 [2] 14 ?_;exact gc
instance B3s:Ct 230 (∀{a0} {r},Qj a0=N r→FC Z 230 [.ag (X6.row a0)] [.sc (.v (.int .i64 r))]):=by
 refine⟨fun h=> ?_⟩;unfold Qj at h;refine A4 mixed h0 [2] 12 ?_;exact gc
instance B3q:Ct 209 (∀{a0} {a1} {a2} {r},Nv a0 a1 a2=N r→FC Z 209 [.ag (X1.row a0),.sc (.int .i64 a1),.ag (X6.row a2)] [.sc (.v (.int .i64 r))]):=by
 refine⟨fun h=> ?_⟩;unfold Nv at h;refine A4 mixed h0 [6] 21 ?_;exact gc
def Ya:Hw:=([(8,[1,4,5,13,14,15],[4,5],[])],[])
def fv:=fun a1 (a0:Xd) (k_:U→U→U→U→Q X9)=>∀{v2 v3 v4 v5} {zr},k_ v2 v3 v4 v5=N zr→Kh Z 227 Ya 8 [1,4,5,13,14,15] [4,5] [] ⟨[pI 1 a1,pB 4,pB 5,pL 13 X9.row a0.Surges,pI 14 (a0.Surges.length:U),pI 15 v2],[(4,[aI (0:U),aI (0:U),aI (0:U)]),(5,[aI v3,aI v4,aI v5])],[]⟩ (A7 [.c 4 T 3] [.ag [.v (.int .i64 zr.From),.v (.int .i64 zr.Low),.v (.int .i64 zr.High)]])
theorem A8p{a1 a0}{n:W}:fv a1 a0 (Fv a1 a0 n):=by
 induction n with
 | zero=>intro _ _ _ _ r h; cases h
 | succ n ih=>
  intro v2 v3 v4 v5 r h σ hσ;rw[Fv] at h;exact gc
instance B4f:Ct 227 (∀{a0} {a1} {r},IJ a0 a1=N r→FC Z 227 [.ag (Xd.row a0),.sc (.int .i64 a1)] [.ag [.v (.int .i64 r.From),.v (.int .i64 r.Low),.v (.int .i64 r.High)]]):=by
 refine⟨fun h=> ?_⟩;unfold IJ at h;refine A4 mixed Ya [.c 4 T 3] 26 ?_;have k0:= @A8p;exact gc
def Yb:Hw:=([(18,[1,5],[],[])],[])
def fp:=fun a1 (k_:U→Q U)=>∀{v6} {zr},k_ v6=N zr→Kh Z 246 Yb 18 [1,5] [] [] ⟨[pI 1 a1,pI 5 v6],[],[]⟩ (A7 [4] [.sc (.v (.int .i64 zr))])
theorem A8q{a1}:fp a1 (NJ a1):=by
 intro v6 r h σ hσ;unfold NJ at h;exact gc
instance B4c:Ct 246 (∀{a0} {a1} {r},NI a0 a1=N r→FC Z 246 [.sc (.int .i64 a0),.sc (.int .i64 a1)] [.sc (.v (.int .i64 r))]):=by
 refine⟨fun h=> ?_⟩;unfold NI at h;refine A4 mixed Yb [4] 55 ?_;have k0:= @A8q;exact gc
def Yc:Hw:=([(8,[1,5,11,12,13],[],[])],[])
def ft:=fun a1 (a0:Xl) (k_:U→U→Q U)=>∀{v1 v2} {zr},k_ v1 v2=N zr→Kh Z 228 Yc 8 [1,5,11,12,13] [] [] ⟨[pI 1 a1,pI 5 v1,pL 11 zD a0.Parts,pI 12 (a0.Parts.length:U),pI 13 v2],[],[]⟩ (A7 [4] [.sc (.v (.int .i64 zr))])
theorem A8s{a1 a0}{n:W}:ft a1 a0 (II a1 a0 n):=by
 induction n with
 | zero=>intro _ _ r h; cases h
 | succ n ih=>
  intro v1 v2 r h σ hσ;rw[II] at h;exact gc
instance B4e:Ct 228 (∀{a0} {a1} {r},KK a0 a1=N r→FC Z 228 [.ag (Xl.row a0),.sc (.int .i64 a1)] [.sc (.v (.int .i64 r))]):=by
 refine⟨fun h=> ?_⟩;unfold KK at h;refine A4 mixed Yc [4] 32 ?_;have k0:= @A8s;exact gc
def Tc:Hw:=([(8,[3,7,8,9],[],[384]),(27,[3,4,7,8,9,30],[],[384])],[])
def fx:=fun v1 a0 v2 (k_:V→Q (P X5))=>∀{v8} {zr},k_ v8=N zr→Kh Z 229 Tc 27 [3,4,7,8,9,30] [] [384] ⟨[pW 3 384,pI 4 v1,pL 7 rB a0,pI 8 (a0.length:U),pI 9 v1,(30,vc (aB v8))],[],[(384,2,Y X5.row v2)]⟩ (A7 [2] [.sc (.o 2 (Y X5.row zr))])
def V2:=fun a0 (k_:U→(P X5)→Q (P X5))=>∀{v1 v2} {zr},k_ v1 v2=N zr→Kh Z 229 Tc 8 [3,7,8,9] [] [384] ⟨[pW 3 384,pL 7 rB a0,pI 8 (a0.length:U),pI 9 v1],[],[(384,2,Y X5.row v2)]⟩ (A7 [2] [.sc (.o 2 (Y X5.row zr))])
theorem cn{v1 a0 v2}{OA}(rP:V2 a0 OA):fx v1 a0 v2 (IK v1 a0 v2 OA):=by
 intro v8 r h σ hσ;unfold IK at h;have s0:= @Ap (Y X5.row ([(⟨v1,v1⟩:X5)]:P X5));have s1:=fun(x10:X5)=> @ES _ X5.row ((⟨x10.From,v1⟩:X5))
 have k0:= @rP;exact gc
theorem A8t{a0}{n:W}:V2 a0 (Ez a0 n):=by
 induction n with
 | zero=>intro _ _ r h; cases h
 | succ n ih=>
  intro v1 v2 r h σ hσ S hS;refine ev hS ?_;rw[Ez] at h;refine AM (AA ?_);obtain⟨h3,h⟩|⟨h3,h⟩:=ic h
  ·obtain⟨x4,h4,h⟩:=ob h;obtain⟨h5,h⟩|⟨h5,h⟩:=ic h
   ·obtain⟨h6,h⟩|⟨h6,h⟩:=ic h
    ·obtain⟨x7,h7,h⟩:=ob h;have h7n:=Ay h7;try simp only[hσ,h3,h4,h5,h6,h7,h7n,C,E,F,G,H,J]
     refine cn ih h ?_ (by kernel_rfl);try simp only[h3,h4,h5,h6,h7,h7n,C,E,F,G,H,J,pL,aM,zE]
    ·try simp only[hσ,h3,h4,h5,h6,C,E,F,G,H,J]
     refine cn ih h ?_ (by kernel_rfl);try simp only[h3,h4,h5,h6,C,E,F,G,H,J,pL,aM,zE]
   ·try simp only[hσ,h3,h4,h5,C,E,F,G,H,J]
    refine ih h ?_ (by kernel_rfl);try simp only[h3,h4,h5,C,E,F,G,H,J,pL,aM,zE]
  ·try simp only[hσ,h3,C,E,F,G,H,J]
   cases h;exact t0
instance B4h:Ct 229 (∀{a0} {r},NM a0=N r→FC Z 229 [.sc (.sl (Y rB a0))] [.sc (.o 2 (Y X5.row r))]):=by
 refine⟨fun h=> ?_⟩;unfold NM at h;refine A4 mixed Tc [2] 46 ?_;have s0:= @Ap (Y X5.row ([]:P X5));have k0:= @A8t;exact gc
def Td:Hw:=([(8,[1,2,3,7,8],[3],[704]),(27,[1,2,3,7,8,10],[3],[704])],[])
def fw:=fun a1 v2 (a0:Xd) v3 (k_:V→U→Q (P X5))=>∀{v7 v8} {zr},k_ v7 v8=N zr→Kh Z 208 Td 27 [1,2,3,7,8,10] [3] [704] ⟨[pI 1 a1,(2,vc (aB v7)),pB 3,pW 7 704,pI 8 v2,pI 10 v8],[(3,[aI a0.Tide.Mean,aM zD a0.Tide.Parts,aM X9.row a0.Surges])],[(704,1,Y rB v3)]⟩ (A7 [6] [.sc (.o 2 (Y X5.row zr))])
def V0:=fun a1 (a0:Xd) (k_:V→U→(P V)→Q (P X5))=>∀{v1 v2 v3} {zr},k_ v1 v2 v3=N zr→Kh Z 208 Td 8 [1,2,3,7,8] [3] [704] ⟨[pI 1 a1,(2,vc (aB v1)),pB 3,pW 7 704,pI 8 v2],[(3,[aI a0.Tide.Mean,aM zD a0.Tide.Parts,aM X9.row a0.Surges])],[(704,1,Y rB v3)]⟩ (A7 [6] [.sc (.o 2 (Y X5.row zr))])
theorem A8u{a1 v2 a0 v3}{Ra}(rO:V0 a1 a0 Ra):fw a1 v2 a0 v3 (NL a1 v2 a0 v3 Ra):=by
 intro v7 v8 r h σ hσ;unfold NL at h;have s0:=fun(r9:U)=> @Ap (Y rB ([(decide (a1≤(IntKind.i64.wrap (r9+v8))))]:P V))
 have k0:= @rO;exact gc
theorem A8v{a1 a0}{n:W}:V0 a1 a0 (GA a1 a0 n):=by
 induction n with
 | zero=>intro _ _ _ r h; cases h
 | succ n ih=>
  intro v1 v2 v3 r h σ hσ;rw[GA] at h;have k0:= @A8u;exact gc
instance B4g:Ct 208 (∀{a0} {a1} {a2} {r},NK a0 a1 a2=N r→FC Z 208 [.ag (Xd.row a0),.sc (.int .i64 a1),.sc (.bool a2)] [.sc (.o 2 (Y X5.row r))]):=by
 refine⟨fun h=> ?_⟩;unfold NK at h;refine A4 mixed Td [6] 37 ?_;have s0:= @Ap (Y rB ([]:P V));have k0:= @A8v;exact gc
instance Ud:Ct 156 (∀{a0} {a1} {r},Fw a0 a1=N r→FC Z 156 [.ag (X2.row a0),.ag (X6.row a1)] [.sc (.v (.int .i64 r))]):=by
 refine⟨fun h=> ?_⟩;unfold Fw at h;refine A4 mixed h0 [4] 12 ?_;exact gc
end Go.Vi
