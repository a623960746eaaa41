/-
Walks. No condition.
-/
import Derived.Test.YtkkaabmffppplaaGreatCNf
import Derived.Test.YtkkaabmffppplaaGreatChecked
import Derived.Test.YtkkaabmffppplaaGreatCVi44
import Derived.KernelRfl
namespace Go.Vi
open Go.Proofs
set_option linter.all false
set_option maxRecDepth 4000
set_option maxHeartbeats 2000000
open Nat renaming reduceBEq → C, reduceMul → E, reduceAdd → F, reduceDiv → G, le_of_ble_eq_true → uf
open Int renaming reduceBEq → I
attribute [local irreducible] go B5 HL
open List renaming map → Z, cons_append → zA, nil_append → zC
open Tryz renaming prog → zB
open Xd renaming row → zD
open Xa renaming row → zE
open Xc renaming row → zF
open Bool renaming true → T, false → L
open Option renaming some → N, none → O
open _root_ renaming List → U, Option → V, Int → W, Bool → X, Nat → Y
theorem A2:Tryz.prog.follows .mixedOrders=T:=by kernel_rfl
instance B8z:Ct 100 (∀{a0} {a1} {r},O4 a0 a1=N r→FC zB 100 [.sc (.sl (Z zD a0)),.sc (.int .i64 a1)] [.sc (.v (.int .i64 r))]):=by
 refine⟨fun h=> ?_⟩;unfold O4 at h;refine A3 A2 h0 [4] 12 ?_;exact gc
instance B86:Ct 56 (∀{a0} {a1} {r},R9 a0 a1=N r→FC zB 56 [.ag (Xn.row a0),.sc (.int .i64 a1)] [.sc (.v (.int .i64 r))]):=by
 refine⟨fun h=> ?_⟩;unfold R9 at h;refine A3 A2 h0 [4] 12 ?_;exact gc
instance B85:Ct 57 (∀{a0} {a1} {r},Oa a0 a1=N r→FC zB 57 [.sc (.sl (Z zE a0)),.sc (.int .i64 a1)] [.sc (.v (.int .i64 r))]):=by
 refine⟨fun h=> ?_⟩;unfold Oa at h;refine A3 A2 h0 [4] 12 ?_;exact gc
instance B8x:Ct 21 (∀{a0} {a1} {r},O2 a0 a1=N r→FC zB 21 [.ag (Xe.row a0),.sc (.int .i64 a1)] [.sc (.v (.int .i64 r))]):=by
 refine⟨fun h=> ?_⟩;unfold O2 at h;refine A3 A2 h0 [4] 18 ?_;exact gc
instance B80:Ct 101 (∀{a0} {a1} {r},O5 a0 a1=N r→FC zB 101 [.ag (X8.row a0),.sc (.int .i64 a1)] [.sc (.v (.int .i64 r))]):=by
 refine⟨fun h=> ?_⟩;unfold O5 at h;refine A3 A2 h0 [4] 13 ?_;exact gc
def YR:Hw:=([(16,[0,1,5],[],[])],[])
def jL:=fun a0 (k_:W→W→V W)=>∀{v2 v3} {zr},k_ v2 v3=N zr→Kh zB 58 YR 16 [0,1,5] [] [] ⟨[pL 0 X8.row a0,pI 1 v2,pI 5 v3],[],[]⟩ (A5 [4] [.sc (.v (.int .i64 zr))])
theorem ww1{a0}{n:Y}:jL a0 (H4 a0 n):=by
 induction n with
 | zero=>intro _ _ r h; cases h
 | succ n ih=>
  intro v2 v3 r h σ hσ;rw[H4] at h;exact gc
instance B81:Ct 58 (∀{a0} {a1} {r},O6 a0 a1=N r→FC zB 58 [.sc (.sl (Z X8.row a0)),.sc (.int .i64 a1)] [.sc (.v (.int .i64 r))]):=by
 refine⟨fun h=> ?_⟩;unfold O6 at h;refine A3 A2 YR [4] 27 ?_;have k0:= @ww1;exact gc
instance B82:Ct 59 (∀{a0} {a1} {r},O7 a0 a1=N r→FC zB 59 [.sc (.sl (Z X2.row a0)),.sc (.int .i64 a1)] [.sc (.v (.int .i64 r))]):=by
 refine⟨fun h=> ?_⟩;unfold O7 at h;refine A3 A2 h0 [4] 12 ?_;exact gc
instance B8v:Ct 22 (∀{a0} {a1} {r},O1 a0 a1=N r→FC zB 22 [.ag (X3.row a0),.sc (.int .i64 a1)] [.sc (.v (.int .i64 r))]):=by
 refine⟨fun h=> ?_⟩;unfold O1 at h;refine A3 A2 h0 [4] 18 ?_;exact gc
instance B83:Ct 60 (∀{a0} {a1} {r},O8 a0 a1=N r→FC zB 60 [.ag (X4.row a0),.sc (.int .i64 a1)] [.sc (.v (.int .i64 r))]):=by
 refine⟨fun h=> ?_⟩;unfold O8 at h;refine A3 A2 h0 [4] 13 ?_;exact gc
def EV:Hw:=([(16,[0,1,5],[],[])],[])
def jM:=fun a0 (k_:W→W→V W)=>∀{v2 v3} {zr},k_ v2 v3=N zr→Kh zB 23 EV 16 [0,1,5] [] [] ⟨[pL 0 X4.row a0,pI 1 v2,pI 5 v3],[],[]⟩ (A5 [4] [.sc (.v (.int .i64 zr))])
theorem ww3{a0}{n:Y}:jM a0 (H5 a0 n):=by
 induction n with
 | zero=>intro _ _ r h; cases h
 | succ n ih=>
  intro v2 v3 r h σ hσ;rw[H5] at h;exact gc
instance B84:Ct 23 (∀{a0} {a1} {r},O9 a0 a1=N r→FC zB 23 [.sc (.sl (Z X4.row a0)),.sc (.int .i64 a1)] [.sc (.v (.int .i64 r))]):=by
 refine⟨fun h=> ?_⟩;unfold O9 at h;refine A3 A2 EV [4] 27 ?_;have k0:= @ww3;exact gc
instance B8y:Ct 61 (∀{a0} {a1} {r},O3 a0 a1=N r→FC zB 61 [.sc (.sl (Z rI a0)),.sc (.int .i64 a1)] [.sc (.v (.int .i64 r))]):=by
 refine⟨fun h=> ?_⟩;unfold O3 at h;refine A3 A2 h0 [4] 12 ?_;exact gc
instance B8w:Ct 24 (∀{a0} {a1} {r},R8 a0 a1=N r→FC zB 24 [.ag (Xo.row a0),.sc (.int .i64 a1)] [.sc (.v (.int .i64 r))]):=by
 refine⟨fun h=> ?_⟩;unfold R8 at h;refine A3 A2 h0 [4] 12 ?_;exact gc
theorem A7m{a0}{a1}{r}(h:J9 a0 a1=N r):FC zB 4 [.ag (X6.row a0),.sc (.int .i64 a1)] [.sc (.v (.int .i64 r))]:=by
 unfold J9 at h;refine A3 A2 h0 [4] 30 ?_;exact gc
theorem A7k{a0}{a1}{r}(h:J7 a0 a1=N r):FC zB 5 [.sc (.sl (Z zF a0)),.sc (.int .i64 a1)] [.sc (.v (.int .i64 r))]:=by
 unfold J7 at h;refine A3 A2 h0 [4] 12 ?_;exact gc
theorem A7l{a0}{a1}{r}(h:J8 a0 a1=N r):FC zB 6 [.sc (.sl (Z X7.row a0)),.sc (.int .i64 a1)] [.sc (.v (.int .i64 r))]:=by
 unfold J8 at h;refine A3 A2 h0 [4] 12 ?_;exact gc
instance B9d:Ct 157 (∀{a0} {r},Rd a0=N r→FC zB 157 [.ag (zD a0)] [.ag [.v (.int .i64 r.Amp),.v (.int .i64 r.Period),.v (.int .i64 r.Phase)]]):=by
 refine⟨fun h=> ?_⟩;unfold Rd at h;refine A3 A2 h0 [.c 2 T 3] 14 ?_;exact gc
def aA:Hw:=([(8,[0,3,4],[],[448])],[])
def jQ:=fun a0 (k_:W→(U Xd)→V (U Xd))=>∀{v2 v3} {zr},k_ v2 v3=N zr→Kh zB 114 aA 8 [0,3,4] [] [448] ⟨[pL 0 zD a0,pW 3 448,pI 4 v2],[],[(448,3,Z zD v3)]⟩ (A5 [2] [.sc (.o 3 (Z zD zr))])
theorem ww5{a0}{n:Y}:jQ a0 (Jd a0 n):=by
 induction n with
 | zero=>intro _ _ r h; cases h
 | succ n ih=>
  intro v2 v3 r h σ hσ;rw[Jd] at h;have s0:=fun(r6:Xd)=> @Ez _ zD r6
  exact gc
instance B9e:Ct 114 (∀{a0} {r},Oe a0=N r→FC zB 114 [.sc (.sl (Z zD a0))] [.sc (.o 3 (Z zD r))]):=by
 refine⟨fun h=> ?_⟩;unfold Oe at h;refine A3 A2 aA [2] 23 ?_;have s0:= @Et _ zD (⟨(0:W),(0:W),(0:W)⟩:Xd);have k0:= @ww5;exact gc
instance B9o:Ct 70 (∀{a0} {r},Rj a0=N r→FC zB 70 [.ag (Xn.row a0)] [.ag [.v (.int .i64 r.Mean),.o 3 (Z zD r.Parts)]]):=by
 refine⟨fun h=> ?_⟩;unfold Rj at h;refine A3 A2 h0 [.c 2 T 2] 12 ?_;exact gc
instance B9m:Ct 115 (∀{a0} {r},Ri a0=N r→FC zB 115 [.ag (zE a0)] [.ag [.v (.int .i64 r.From),.v (.int .i64 r.Low),.v (.int .i64 r.High)]]):=by
 refine⟨fun h=> ?_⟩;unfold Ri at h;refine A3 A2 h0 [.c 2 T 3] 14 ?_;exact gc
def aG:Hw:=([(8,[0,3,4],[],[448])],[])
def jU:=fun a0 (k_:W→(U Xa)→V (U Xa))=>∀{v2 v3} {zr},k_ v2 v3=N zr→Kh zB 71 aG 8 [0,3,4] [] [448] ⟨[pL 0 zE a0,pW 3 448,pI 4 v2],[],[(448,3,Z zE v3)]⟩ (A5 [2] [.sc (.o 3 (Z zE zr))])
theorem ww7{a0}{n:Y}:jU a0 (Jh a0 n):=by
 induction n with
 | zero=>intro _ _ r h; cases h
 | succ n ih=>
  intro v2 v3 r h σ hσ;rw[Jh] at h;have s0:=fun(r6:Xa)=> @Ez _ zE r6
  exact gc
instance B9n:Ct 71 (∀{a0} {r},Oi a0=N r→FC zB 71 [.sc (.sl (Z zE a0))] [.sc (.o 3 (Z zE r))]):=by
 refine⟨fun h=> ?_⟩;unfold Oi at h;refine A3 A2 aG [2] 23 ?_;have s0:= @Et _ zE (⟨(0:W),(0:W),(0:W)⟩:Xa);have k0:= @ww7;exact gc
instance B9b:Ct 29 (∀{a0} {r},Oc a0=N r→FC zB 29 [.ag (Xe.row a0)] [.ag [.v (.int .i64 r.Tide.Mean),.o 3 (Z zD r.Tide.Parts),.o 3 (Z zE r.Surges)]]):=by
 refine⟨fun h=> ?_⟩;unfold Oc at h;refine A3 A2 h0 [.c 2 T 3] 13 ?_;exact gc
instance B9f:Ct 116 (∀{a0} {r},Re a0=N r→FC zB 116 [.ag (X8.row a0)] [.ag [.v (.str r.Name),.v (.bool r.Wait)]]):=by
 refine⟨fun h=> ?_⟩;unfold Re at h;refine A3 A2 h0 [.c 2 T 2] 11 ?_;exact gc
def aH:Hw:=([(8,[0,3,4],[],[448])],[])
def jR:=fun a0 (k_:W→(U X8)→V (U X8))=>∀{v2 v3} {zr},k_ v2 v3=N zr→Kh zB 72 aH 8 [0,3,4] [] [448] ⟨[pL 0 X8.row a0,pW 3 448,pI 4 v2],[],[(448,2,Z X8.row v3)]⟩ (A5 [2] [.sc (.o 2 (Z X8.row zr))])
theorem ww9{a0}{n:Y}:jR a0 (Je a0 n):=by
 induction n with
 | zero=>intro _ _ r h; cases h
 | succ n ih=>
  intro v2 v3 r h σ hσ;rw[Je] at h;have s0:=fun(r6:X8)=> @Ez _ X8.row r6
  exact gc
instance B9g:Ct 72 (∀{a0} {r},Of a0=N r→FC zB 72 [.sc (.sl (Z X8.row a0))] [.sc (.o 2 (Z X8.row r))]):=by
 refine⟨fun h=> ?_⟩;unfold Of at h;refine A3 A2 aH [2] 23 ?_;have s0:= @Et _ X8.row (⟨([]:U UInt8),L⟩:X8);have k0:= @ww9;exact gc
instance B9i:Ct 117 (∀{a0} {r},Rg a0=N r→FC zB 117 [.ag (X2.row a0)] [.ag [.v (.int .i64 r.A),.v (.int .i64 r.B),.v (.int .i64 r.Depth),.v (.int .i64 r.Minutes),.v (.bool r.Meet)]]):=by
 refine⟨fun h=> ?_⟩;unfold Rg at h;refine A3 A2 h0 [.c 2 T 5] 20 ?_;exact gc
def YS:Hw:=([(8,[0,3,4],[],[448])],[])
def jS:=fun a0 (k_:W→(U X2)→V (U X2))=>∀{v2 v3} {zr},k_ v2 v3=N zr→Kh zB 73 YS 8 [0,3,4] [] [448] ⟨[pL 0 X2.row a0,pW 3 448,pI 4 v2],[],[(448,5,Z X2.row v3)]⟩ (A5 [2] [.sc (.o 5 (Z X2.row zr))])
theorem A86{a0}{n:Y}:jS a0 (Jf a0 n):=by
 induction n with
 | zero=>intro _ _ r h; cases h
 | succ n ih=>
  intro v2 v3 r h σ hσ;rw[Jf] at h;have s0:=fun(r6:X2)=> @Ez _ X2.row r6
  exact gc
instance B9j:Ct 73 (∀{a0} {r},Og a0=N r→FC zB 73 [.sc (.sl (Z X2.row a0))] [.sc (.o 5 (Z X2.row r))]):=by
 refine⟨fun h=> ?_⟩;unfold Og at h;refine A3 A2 YS [2] 23 ?_;have s0:= @Et _ X2.row (⟨(0:W),(0:W),(0:W),(0:W),L⟩:X2);have k0:= @A86;exact gc
instance B88:Ct 30 (∀{a0} {r},Ob a0=N r→FC zB 30 [.ag (X3.row a0)] [.ag [.o 2 (Z X8.row r.Points),.o 5 (Z X2.row r.Segments)]]):=by
 refine⟨fun h=> ?_⟩;unfold Ob at h;refine A3 A2 h0 [.c 2 T 2] 13 ?_;exact gc
instance B9k:Ct 74 (∀{a0} {r},Rh a0=N r→FC zB 74 [.ag (X4.row a0)] [.ag [.v (.str r.Name),.v (.int .i64 r.Length),.v (.int .i64 r.Draught),.v (.int .i64 r.Line),.v (.int .i64 r.Tugs),.v (.bool r.Slow)]]):=by
 refine⟨fun h=> ?_⟩;unfold Rh at h;refine A3 A2 h0 [.c 2 T 6] 23 ?_;exact gc
def Z0:Hw:=([(8,[0,3,4],[],[448])],[])
def jT:=fun a0 (k_:W→(U X4)→V (U X4))=>∀{v2 v3} {zr},k_ v2 v3=N zr→Kh zB 31 Z0 8 [0,3,4] [] [448] ⟨[pL 0 X4.row a0,pW 3 448,pI 4 v2],[],[(448,6,Z X4.row v3)]⟩ (A5 [2] [.sc (.o 6 (Z X4.row zr))])
theorem A9h{a0}{n:Y}:jT a0 (Jg a0 n):=by
 induction n with
 | zero=>intro _ _ r h; cases h
 | succ n ih=>
  intro v2 v3 r h σ hσ;rw[Jg] at h;have s0:=fun(r6:X4)=> @Ez _ X4.row r6
  exact gc
instance B9l:Ct 31 (∀{a0} {r},Oh a0=N r→FC zB 31 [.sc (.sl (Z X4.row a0))] [.sc (.o 6 (Z X4.row r))]):=by
 refine⟨fun h=> ?_⟩;unfold Oh at h;refine A3 A2 Z0 [2] 23 ?_;have s0:= @Et _ X4.row (⟨([]:U UInt8),(0:W),(0:W),(0:W),(0:W),L⟩:X4);have k0:= @A9h;exact gc
instance B9h:Ct 32 (∀{a0} {r},Rf a0=N r→FC zB 32 [.ag (Xj.row a0)] [.ag [.v (.int .i64 r.Gap),.v (.bool r.NoMeet)]]):=by
 refine⟨fun h=> ?_⟩;unfold Rf at h;refine A3 A2 h0 [.c 2 T 2] 11 ?_;exact gc
def Z7:Hw:=([(8,[0,3,4],[],[448])],[])
def jP:=fun a0 (k_:W→(U W)→V (U W))=>∀{v2 v3} {zr},k_ v2 v3=N zr→Kh zB 75 Z7 8 [0,3,4] [] [448] ⟨[pL 0 rI a0,pW 3 448,pI 4 v2],[],[(448,1,Z rI v3)]⟩ (A5 [2] [.sc (.o 1 (Z rI zr))])
theorem A9u{a0}{n:Y}:jP a0 (Jc a0 n):=by
 induction n with
 | zero=>intro _ _ r h; cases h
 | succ n ih=>
  intro v2 v3 r h σ hσ;rw[Jc] at h;have s0:=fun(x5:W)=> @Ez _ rI x5
  exact gc
instance B9c:Ct 75 (∀{a0} {r},Od a0=N r→FC zB 75 [.sc (.sl (Z rI a0))] [.sc (.o 1 (Z rI r))]):=by
 refine⟨fun h=> ?_⟩;unfold Od at h;refine A3 A2 Z7 [2] 22 ?_;have s0:= @Et _ rI (0:W);have k0:= @A9u;exact gc
instance B9a:Ct 33 (∀{a0} {r},Rc a0=N r→FC zB 33 [.ag (Xo.row a0)] [.ag [.v (.int .i64 r.Tugs),.v (.int .i64 r.Pilots),.v (.int .i64 r.Rest),.o 1 (Z rI r.Moves)]]):=by
 refine⟨fun h=> ?_⟩;unfold Rc at h;refine A3 A2 h0 [.c 2 T 4] 18 ?_;exact gc
theorem SX{a0}{r}(h:EO a0=N r):FC zB 8 [.ag (X6.row a0)] [.ag [.v (.int .i64 r.Forecast.Tide.Mean),.o 3 (Z zD r.Forecast.Tide.Parts),.o 3 (Z zE r.Forecast.Surges),.o 2 (Z X8.row r.Chart.Points),.o 5 (Z X2.row r.Chart.Segments),.o 6 (Z X4.row r.Fleet),.v (.int .i64 r.Regime.Gap),.v (.bool r.Regime.NoMeet),.v (.int .i64 r.Crew.Tugs),.v (.int .i64 r.Crew.Pilots),.v (.int .i64 r.Crew.Rest),.o 1 (Z rI r.Crew.Moves)]]:=by
 unfold EO at h;refine A3 A2 h0 [.c 2 T 12] 25 ?_;exact gc
instance B87:Ct 34 (∀{a0} {r},Ra a0=N r→FC zB 34 [.ag (zF a0)] [.ag [.v (.int .i64 r.Ship),.v (.int .i64 r.From),.v (.int .i64 r.To),.v (.int .i64 r.Ready),.v (.int .i64 r.Due)]]):=by
 refine⟨fun h=> ?_⟩;unfold Ra at h;refine A3 A2 h0 [.c 2 T 5] 20 ?_;exact gc
def Zb:Hw:=([(8,[0,3,4],[],[448])],[])
def jN:=fun a0 (k_:W→(U Xc)→V (U Xc))=>∀{v2 v3} {zr},k_ v2 v3=N zr→Kh zB 9 Zb 8 [0,3,4] [] [448] ⟨[pL 0 zF a0,pW 3 448,pI 4 v2],[],[(448,5,Z zF v3)]⟩ (A5 [2] [.sc (.o 5 (Z zF zr))])
theorem A97{a0}{n:Y}:jN a0 (Ja a0 n):=by
 induction n with
 | zero=>intro _ _ r h; cases h
 | succ n ih=>
  intro v2 v3 r h σ hσ;rw[Ja] at h;have s0:=fun(r6:Xc)=> @Ez _ zF r6
  exact gc
theorem SV{a0}{r}(h:EM a0=N r):FC zB 9 [.sc (.sl (Z zF a0))] [.sc (.o 5 (Z zF r))]:=by
 unfold EM at h;refine A3 A2 Zb [2] 23 ?_;have s0:= @Et _ zF (⟨(0:W),(0:W),(0:W),(0:W),(0:W)⟩:Xc);have k0:= @A97;exact gc
instance B89:Ct 35 (∀{a0} {r},Rb a0=N r→FC zB 35 [.ag (X7.row a0)] [.ag [.v (.int .i64 r.Segment),.v (.int .i64 r.From),.v (.int .i64 r.To)]]):=by
 refine⟨fun h=> ?_⟩;unfold Rb at h;refine A3 A2 h0 [.c 2 T 3] 14 ?_;exact gc
def Zf:Hw:=([(8,[0,3,4],[],[448])],[])
def jO:=fun a0 (k_:W→(U X7)→V (U X7))=>∀{v2 v3} {zr},k_ v2 v3=N zr→Kh zB 10 Zf 8 [0,3,4] [] [448] ⟨[pL 0 X7.row a0,pW 3 448,pI 4 v2],[],[(448,3,Z X7.row v3)]⟩ (A5 [2] [.sc (.o 3 (Z X7.row zr))])
theorem B0m{a0}{n:Y}:jO a0 (Jb a0 n):=by
 induction n with
 | zero=>intro _ _ r h; cases h
 | succ n ih=>
  intro v2 v3 r h σ hσ;rw[Jb] at h;have s0:=fun(r6:X7)=> @Ez _ X7.row r6
  exact gc
theorem SW{a0}{r}(h:EN a0=N r):FC zB 10 [.sc (.sl (Z X7.row a0))] [.sc (.o 3 (Z X7.row r))]:=by
 unfold EN at h;refine A3 A2 Zf [2] 23 ?_;have s0:= @Et _ X7.row (⟨(0:W),(0:W),(0:W)⟩:X7);have k0:= @B0m;exact gc
instance Gy:Ct 65 (∀{a0} {a1} {a2} {r},Az a0 a1 a2=N r→FC zB 65 [.sc (.int .i64 a0),.sc (.int .i64 a1),.sc (.int .i64 a2)] [.sc (.v (.bool r))]):=by
 refine⟨fun h=> ?_⟩;unfold Az at h;refine A3 A2 h0 [6] 15 ?_;exact gc
instance C0e:Ct 177 (∀{a0} {r},OH a0=N r→FC zB 177 [.ag (zD a0)] [.sc (.v (.bool r))]):=by
 refine⟨fun h=> ?_⟩;unfold OH at h;refine A3 A2 h0 [2] 25 ?_;exact gc
def Zj:Hw:=([(14,[16,17,18],[],[])],[])
def kv:=fun(a0:Xn) (k_:W→V X)=>∀{v4} {zr},k_ v4=N zr→Kh zB 143 Zj 14 [16,17,18] [] [] ⟨[pL 16 zD a0.Parts,pI 17 (a0.Parts.length:W),pI 18 v4],[],[]⟩ (A5 [2] [.sc (.v (.bool zr))])
theorem B0y{a0}{n:Y}:kv a0 (JI a0 n):=by
 induction n with
 | zero=>intro _ r h; cases h
 | succ n ih=>
  intro v4 r h σ hσ;rw[JI] at h;exact gc
instance C0s:Ct 143 (∀{a0} {r},OR a0=N r→FC zB 143 [.ag (Xn.row a0)] [.sc (.v (.bool r))]):=by
 refine⟨fun h=> ?_⟩;unfold OR at h;refine A3 A2 Zj [2] 26 ?_;have k0:= @B0y;exact gc
instance C0r:Ct 144 (∀{a0} {r},OQ a0=N r→FC zB 144 [.ag (zE a0)] [.sc (.v (.bool r))]):=by
 refine⟨fun h=> ?_⟩;unfold OQ at h;refine A3 A2 h0 [2] 18 ?_;exact gc
def Zo:Hw:=([(14,[1,25,26,27],[1],[])],[])
def jq:=fun(a0:Xe) (k_:W→V X)=>∀{v7} {zr},k_ v7=N zr→Kh zB 102 Zo 14 [1,25,26,27] [1] [] ⟨[pB 1,pL 25 zE a0.Surges,pI 26 (a0.Surges.length:W),pI 27 v7],[(1,[aI a0.Tide.Mean,aM zD a0.Tide.Parts,aM zE a0.Surges])],[]⟩ (A5 [2] [.sc (.v (.bool zr))])
theorem B1d{a0}{n:Y}:jq a0 (H8 a0 n):=by
 induction n with
 | zero=>intro _ r h; cases h
 | succ n ih=>
  intro v7 r h σ hσ;rw[H8] at h;exact gc
instance B90:Ct 102 (∀{a0} {r},LD a0=N r→FC zB 102 [.ag (Xe.row a0)] [.sc (.v (.bool r))]):=by
 refine⟨fun h=> ?_⟩;unfold LD at h;refine A3 A2 Zo [2] 52 ?_;have k0:= @B1d;exact gc
def RQ:Hw:=([(6,[0,3],[],[]),(17,[0,3,4],[],[]),(24,[0,3],[],[])],[])
def jy:=fun a0 v1 (k_:V X)=>∀{zr},k_=N zr→Kh zB 106 RQ 24 [0,3] [] [] ⟨[(0,vc (aS a0)),pI 3 v1],[],[]⟩ (A5 [2] [.sc (.v (.bool zr))])
def jx:=fun a0 v1 (k_:X→V X)=>∀{v5} {zr},k_ v5=N zr→Kh zB 106 RQ 17 [0,3,4] [] [] ⟨[(0,vc (aS a0)),pI 3 v1,(4,vc (aB v5))],[],[]⟩ (A5 [2] [.sc (.v (.bool zr))])
def Tb:=fun a0 (k_:W→V X)=>∀{v1} {zr},k_ v1=N zr→Kh zB 106 RQ 6 [0,3] [] [] ⟨[(0,vc (aS a0)),pI 3 v1],[],[]⟩ (A5 [2] [.sc (.v (.bool zr))])
theorem B1n{a0 v1}{F0}(aW:Tb a0 F0):jy a0 v1 (OC a0 v1 F0):=by
 intro r h σ hσ;unfold OC at h;have k0:= @aW;exact gc
theorem B1u{a0 v1}{F0}(aW:Tb a0 F0):jx a0 v1 (OB a0 v1 F0):=by
 intro v5 r h σ hσ;unfold OB at h;have k0:= @B1n;exact gc
theorem B1y{a0}{n:Y}:Tb a0 (Hb a0 n):=by
 induction n with
 | zero=>intro _ r h; cases h
 | succ n ih=>
  intro v1 r h σ hσ;rw[Hb] at h;have k0:= @B1u;exact gc
instance B96:Ct 106 (∀{a0} {r},LH a0=N r→FC zB 106 [.sc (.str a0)] [.sc (.v (.bool r))]):=by
 refine⟨fun h=> ?_⟩;unfold LH at h;refine A3 A2 RQ [2] 42 ?_;have k0:= @B1y;exact gc
def ZD:Hw:=([(6,[1,8,9,10],[],[])],[])
def kk:=fun a1 (a0:X3) (k_:W→V W)=>∀{v1} {zr},k_ v1=N zr→Kh zB 107 ZD 6 [1,8,9,10] [] [] ⟨[(1,vc (aS a1)),pL 8 X8.row a0.Points,pI 9 (a0.Points.length:W),pI 10 v1],[],[]⟩ (A5 [4] [.sc (.v (.int .i64 zr))])
theorem B2a{a1 a0}{n:Y}:kk a1 a0 (JD a1 a0 n):=by
 induction n with
 | zero=>intro _ r h; cases h
 | succ n ih=>
  intro v1 r h σ hσ;rw[JD] at h;exact gc
instance C0h:Ct 107 (∀{a0} {a1} {r},OM a0 a1=N r→FC zB 107 [.ag (X3.row a0),.sc (.str a1)] [.sc (.v (.int .i64 r))]):=by
 refine⟨fun h=> ?_⟩;unfold OM at h;refine A3 A2 ZD [4] 21 ?_;have k0:= @B2a;exact gc
instance C0z:Ct 108 (∀{a0} {a1} {a2} {r},OZ a0 a1 a2=N r→FC zB 108 [.ag (X2.row a0),.sc (.int .i64 a1),.sc (.int .i64 a2)] [.sc (.v (.bool r))]):=by
 refine⟨fun h=> ?_⟩;unfold OZ at h;refine A3 A2 h0 [6] 29 ?_;exact gc
def RX:Hw:=([(14,[1,20,21,22],[1],[]),(37,[1,41,42,43],[1],[]),(59,[1,6,41,42,43,88,89,90],[1,6],[])],[])
def jg:=fun(a0:X3) v11 (x13:X2) y24 y25 (k_:W→V X)=>∀{v26} {zr},k_ v26=N zr→Kh zB 64 RX 59 [1,6,41,42,43,88,89,90] [1,6] [] ⟨[pB 1,pB 6,pL 41 X2.row a0.Segments,pI 42 (a0.Segments.length:W),pI 43 v11,pL 88 X2.row y24,pI 89 y25,pI 90 v26],[(1,[aM X8.row a0.Points,aM X2.row a0.Segments]),(6,(dm x13.row))],[]⟩ (A5 [2] [.sc (.v (.bool zr))])
def WN:=fun(a0:X3) (k_:W→V X)=>∀{v11} {zr},k_ v11=N zr→Kh zB 64 RX 37 [1,41,42,43] [1] [] ⟨[pB 1,pL 41 X2.row a0.Segments,pI 42 (a0.Segments.length:W),pI 43 v11],[(1,[aM X8.row a0.Points,aM X2.row a0.Segments])],[]⟩ (A5 [2] [.sc (.v (.bool zr))])
def jf:=fun(a0:X3) (k_:W→V X)=>∀{v3} {zr},k_ v3=N zr→Kh zB 64 RX 14 [1,20,21,22] [1] [] ⟨[pB 1,pL 20 X8.row a0.Points,pI 21 (a0.Points.length:W),pI 22 v3],[(1,[aM X8.row a0.Points,aM X2.row a0.Segments])],[]⟩ (A5 [2] [.sc (.v (.bool zr))])
theorem B2o{a0 v11 x13 y24 y25}{PC}(vN:WN a0 PC){n:Y}:jg a0 v11 x13 y24 y25 (Jo a0 v11 x13 y24 y25 PC n):=by
 induction n with
 | zero=>intro _ r h; cases h
 | succ n ih=>
  intro v26 r h σ hσ;rw[Jo] at h;have k0:= @vN;exact gc
theorem B2u{a0}{n:Y}:WN a0 (EP a0 n):=by
 induction n with
 | zero=>intro _ r h; cases h
 | succ n ih=>
  intro v11 r h σ hσ;rw[EP] at h;have k0:= @B2o;exact gc
theorem B2y{a0}{n:Y}:jf a0 (Jn a0 n):=by
 induction n with
 | zero=>intro _ r h; cases h
 | succ n ih=>
  intro v3 r h σ hσ;rw[Jn] at h;have k0:= @B2u;exact gc
instance A7x:Ct 64 (∀{a0} {r},D8 a0=N r→FC zB 64 [.ag (X3.row a0)] [.sc (.v (.bool r))]):=by
 refine⟨fun h=> ?_⟩;unfold D8 at h;refine A3 A2 RX [2] 102 ?_;have k0:= @B2y;exact gc
instance C0n:Ct 145 (∀{a0} {r},Eh a0=N r→FC zB 145 [.ag (X4.row a0)] [.sc (.v (.bool r))]):=by
 refine⟨fun h=> ?_⟩;unfold Eh at h;refine A3 A2 h0 [2] 26 ?_;exact gc
def ZK:Hw:=([(6,[1,7,8,9],[],[])],[])
def ko:=fun a1 a0 (k_:W→V W)=>∀{v1} {zr},k_ v1=N zr→Kh zB 146 ZK 6 [1,7,8,9] [] [] ⟨[(1,vc (aS a1)),pL 7 X4.row a0,pI 8 (a0.length:W),pI 9 v1],[],[]⟩ (A5 [4] [.sc (.v (.int .i64 zr))])
theorem B3g{a1 a0}{n:Y}:ko a1 a0 (JG a1 a0 n):=by
 induction n with
 | zero=>intro _ r h; cases h
 | succ n ih=>
  intro v1 r h σ hσ;rw[JG] at h;exact gc
instance C0m:Ct 146 (∀{a0} {a1} {r},OO a0 a1=N r→FC zB 146 [.sc (.sl (Z X4.row a0)),.sc (.str a1)] [.sc (.v (.int .i64 r))]):=by
 refine⟨fun h=> ?_⟩;unfold OO at h;refine A3 A2 ZK [4] 20 ?_;have k0:= @B3g;exact gc
def ZL:Hw:=([(14,[0,8,9,10],[],[])],[])
def jp:=fun a0 (k_:W→V X)=>∀{v2} {zr},k_ v2=N zr→Kh zB 103 ZL 14 [0,8,9,10] [] [] ⟨[pL 0 X4.row a0,pL 8 X4.row a0,pI 9 (a0.length:W),pI 10 v2],[],[]⟩ (A5 [2] [.sc (.v (.bool zr))])
theorem B3q{a0}{n:Y}:jp a0 (Jv a0 n):=by
 induction n with
 | zero=>intro _ r h; cases h
 | succ n ih=>
  intro v2 r h σ hσ;rw[Jv] at h;exact gc
instance B9z:Ct 103 (∀{a0} {r},LC a0=N r→FC zB 103 [.sc (.sl (Z X4.row a0))] [.sc (.v (.bool r))]):=by
 refine⟨fun h=> ?_⟩;unfold LC at h;refine A3 A2 ZL [2] 27 ?_;have k0:= @B3q;exact gc
instance C0i:Ct 104 (∀{a0} {r},JE a0=N r→FC zB 104 [.ag (Xj.row a0)] [.sc (.v (.bool r))]):=by
 refine⟨fun h=> ?_⟩;unfold JE at h;refine A3 A2 h0 [2] 6 ?_;exact gc
def ZU:Hw:=([(14,[15,16,17],[],[])],[])
def lM:=fun a1 (k_:W→V X)=>∀{v4} {zr},k_ v4=N zr→Kh zB 147 ZU 14 [15,16,17] [] [] ⟨[pL 15 rI a1,pI 16 (a1.length:W),pI 17 v4],[],[]⟩ (A5 [4] [.sc (.v (.bool zr))])
theorem B31{a1}{n:Y}:lM a1 (Hr a1 n):=by
 induction n with
 | zero=>intro _ r h; cases h
 | succ n ih=>
  intro v4 r h σ hσ;rw[Hr] at h;exact gc
instance C07:Ct 147 (∀{a0} {a1} {r},Hq a0 a1=N r→FC zB 147 [.sc (.int .i64 a0),.sc (.sl (Z rI a1))] [.sc (.v (.bool r))]):=by
 refine⟨fun h=> ?_⟩;unfold Hq at h;refine A3 A2 ZU [4] 25 ?_;have k0:= @B31;exact gc
instance B9x:Ct 105 (∀{a0} {r},Js a0=N r→FC zB 105 [.ag (Xo.row a0)] [.sc (.v (.bool r))]):=by
 refine⟨fun h=> ?_⟩;unfold Js at h;refine A3 A2 h0 [2] 18 ?_;exact gc
instance B92:Ct 62 (∀{a0} {r},LG a0=N r→FC zB 62 [.ag (X6.row a0)] [.sc (.v (.bool r))]):=by
 refine⟨fun h=> ?_⟩;unfold LG at h;refine A3 A2 h0 [2] 26 ?_;exact gc
instance B9r:Ct 63 (∀{a0} {a1} {r},Jl a0 a1=N r→FC zB 63 [.ag (X6.row a0),.ag (zF a1)] [.sc (.v (.bool r))]):=by
 refine⟨fun h=> ?_⟩;unfold Jl at h;refine A3 A2 h0 [4] 53 ?_;exact gc
def Uw:Hw:=([(14,[1,2,17,18,19],[2],[]),(36,[1,2,6,17,18,19,30,31,32],[2,6],[])],[])
def jd:=fun a1 v4 (a0:X6) (x6:Xc) y10 y11 (k_:W→V X)=>∀{v12} {zr},k_ v12=N zr→Kh zB 25 Uw 36 [1,2,6,17,18,19,30,31,32] [2,6] [] ⟨[pL 1 zF a1,pB 2,pB 6,pL 17 zF a1,pI 18 (a1.length:W),pI 19 v4,pL 30 zF y10,pI 31 y11,pI 32 v12],[(2,([aI a0.Forecast.Tide.Mean,aM zD a0.Forecast.Tide.Parts,aM zE a0.Forecast.Surges,aM X8.row a0.Chart.Points,aM X2.row a0.Chart.Segments,aM X4.row a0.Fleet,aI a0.Regime.Gap,aB a0.Regime.NoMeet]++dm a0.Crew.row)),(6,(dm x6.row))],[]⟩ (A5 [4] [.sc (.v (.bool zr))])
def WM:=fun a1 (a0:X6) (k_:W→V X)=>∀{v4} {zr},k_ v4=N zr→Kh zB 25 Uw 14 [1,2,17,18,19] [2] [] ⟨[pL 1 zF a1,pB 2,pL 17 zF a1,pI 18 (a1.length:W),pI 19 v4],[(2,([aI a0.Forecast.Tide.Mean,aM zD a0.Forecast.Tide.Parts,aM zE a0.Forecast.Surges,aM X8.row a0.Chart.Points,aM X2.row a0.Chart.Segments,aM X4.row a0.Fleet,aI a0.Regime.Gap,aB a0.Regime.NoMeet]++dm a0.Crew.row))],[]⟩ (A5 [4] [.sc (.v (.bool zr))])
theorem B38{a1 v4 a0 x6 y10 y11}{PB}(vM:WM a1 a0 PB){n:Y}:jd a1 v4 a0 x6 y10 y11 (Lx a1 v4 a0 x6 y10 y11 PB n):=by
 induction n with
 | zero=>intro _ r h; cases h
 | succ n ih=>
  intro v12 r h σ hσ;rw[Lx] at h;have k0:= @vM;exact gc
theorem B4c{a1 a0}{n:Y}:WM a1 a0 (Lw a1 a0 n):=by
 induction n with
 | zero=>intro _ r h; cases h
 | succ n ih=>
  intro v4 r h σ hσ;rw[Lw] at h;have k0:= @B38;exact gc
instance B9s:Ct 25 (∀{a0} {a1} {r},Oq a0 a1=N r→FC zB 25 [.ag (X6.row a0),.sc (.sl (Z zF a1))] [.sc (.v (.bool r))]):=by
 refine⟨fun h=> ?_⟩;unfold Oq at h;refine A3 A2 Uw [4] 43 ?_;have k0:= @B4c;exact gc
def aE:Hw:=([(14,[2,15,16,17],[2],[])],[])
def jl:=fun a1 (a0:X3) (k_:W→V X)=>∀{v4} {zr},k_ v4=N zr→Kh zB 26 aE 14 [2,15,16,17] [2] [] ⟨[pB 2,pL 15 X7.row a1,pI 16 (a1.length:W),pI 17 v4],[(2,[aM X8.row a0.Points,aM X2.row a0.Segments])],[]⟩ (A5 [4] [.sc (.v (.bool zr))])
theorem B4g{a1 a0}{n:Y}:jl a1 a0 (Jr a1 a0 n):=by
 induction n with
 | zero=>intro _ r h; cases h
 | succ n ih=>
  intro v4 r h σ hσ;rw[Jr] at h;exact gc
instance B9v:Ct 26 (∀{a0} {a1} {r},LA a0 a1=N r→FC zB 26 [.ag (X3.row a0),.sc (.sl (Z X7.row a1))] [.sc (.v (.bool r))]):=by
 refine⟨fun h=> ?_⟩;unfold LA at h;refine A3 A2 aE [4] 48 ?_;have k0:= @B4g;exact gc
instance fC:Ct 208 (∀{a0} {a1} {r},P0 a0 a1=N r→FC zB 208 [.ag (X2.row a0),.sc (.int .i64 a1)] [.sc (.v (.int .i64 r))]):=by
 refine⟨fun h=> ?_⟩;unfold P0 at h;refine A3 A2 h0 [4] 18 ?_;exact gc
def aF:Hw:=([(6,[1,7,8,9],[],[])],[])
def lC:=fun a1 a0 (k_:W→V X)=>∀{v1} {zr},k_ v1=N zr→Kh zB 209 aF 6 [1,7,8,9] [] [] ⟨[pI 1 a1,pL 7 rI a0,pI 8 (a0.length:W),pI 9 v1],[],[]⟩ (A5 [4] [.sc (.v (.bool zr))])
theorem B4h{a1 a0}{n:Y}:lC a1 a0 (JM a1 a0 n):=by
 induction n with
 | zero=>intro _ r h; cases h
 | succ n ih=>
  intro v1 r h σ hσ;rw[JM] at h;exact gc
instance fB:Ct 209 (∀{a0} {a1} {r},LO a0 a1=N r→FC zB 209 [.sc (.sl (Z rI a0)),.sc (.int .i64 a1)] [.sc (.v (.bool r))]):=by
 refine⟨fun h=> ?_⟩;unfold LO at h;refine A3 A2 aF [4] 17 ?_;have k0:= @B4h;exact gc
def B5h:U (U Y × AItem):= [([],(O,.load 49 (S 5) T 2)),([],(O,.bslice 50 1 [.int .i64 0] 0 [])),([],(O,.mv 51 (S 1))),([1,2],(O,.app 52 1 8 (S 50) (S 51))),([],(O,.mv 53 (S 14))),([4],(O,.bslice 54 1 [.int .i64 0] 1 [(0,(S 53))])),([3,5,3],(O,.app 55 1 8 (S 52) (S 54))),([],(O,.bslice 56 1 [.int .i64 0] 0 [])),([],(O,.mv 57 (S 2))),([7,8,6],(O,.app 58 1 8 (S 56) (S 57))),([],(O,.mv 59 (S 12))),([10],(O,.bslice 60 1 [.int .i64 0] 1 [(0,(S 59))])),([9,11,9],(O,.app 61 1 8 (S 58) (S 60))),([],(O,.mv 62 (S 3))),([],(O,.mv 63 (S 4))),([0,6,12,13,14,12],(O,.call 64 206 [(S 49),(S 55),(S 61),(S 62),(S 63)])),([15,15,0,1,2,3,4,5,6,7,8,9,10,11,12,13,14,15],(O,.mv 4 (S 64)))]
def S3:Hw:=([(16,[1,2,3,4,5,11,31,32,33],[5],[90000]),(31,[1,2,3,4,5,11,12,14,31,32,33,48],[5],[90000])],[(9,4,(O,.frz 1600))])
abbrev B6(a1 a2:U W)(a3 x1:W)(v5 r9:W)(a0:X3)(ws4_ wo1_:AV)(wo3_ wo6_:AV)(wo7_ wo9_:AV)(wo12_ wo14_ wu16_:AV)(c0_ c1_:X)(c2_ c3_:X)(c4_ c5_:X)(c6_ c7_:X)(c8_ c9_:X)(c10_ c11_:X)(c12_ c13_:X)(c14_ c15_:X)(bx_:U (Y × U AC))(rs_:Rows):St:=⟨[(1,vc (aL (Z rI a1))),(2,vc (aL (Z rI a2))),(3,vc (aI a3)),(4,ws4_),(5,vc (.pb 5 0)),(11,vc (aI x1)),(12,vc (aI v5)),(14,vc (aI r9)),(31,vc (aL (Z X2.row a0.Segments))),(32,vc (aI (a0.Segments.length:W))),(33,vc (aI v5)),(49,bif c0_ then va [aL (Z X8.row a0.Points),aL (Z X2.row a0.Segments)] else .undef),(50,bif c1_ then wo1_ else .undef),(51,bif c2_ then vc (aL (Z rI a1)) else .undef),(52,bif c3_ then wo3_ else .undef),(53,bif c4_ then vc (aI r9) else .undef),(54,bif c5_ then vc (.own 3456) else .undef),(55,bif c6_ then wo6_ else .undef),(56,bif c7_ then wo7_ else .undef),(57,bif c8_ then vc (aL (Z rI a2)) else .undef),(58,bif c9_ then wo9_ else .undef),(59,bif c10_ then vc (aI v5) else .undef),(60,bif c11_ then vc (.own 3840) else .undef),(61,bif c12_ then wo12_ else .undef),(62,bif c13_ then vc (aI a3) else .undef),(63,bif c14_ then wo14_ else .undef),(64,bif c15_ then vc (.own 90000) else .undef),(4,wu16_)],bx_,rs_⟩
abbrev VZ(a1 a2:U W)(a3 x1:W)(v5 r9:W)(a0:X3)(r18:(U (U W))):St:=(B6 a1 a2 a3 x1 v5 r9 a0 (vc (.own 90000)) (vc (.undef)) (vc (.undef)) (vc (aL (Z rI (a1++([r9]:U W))))) (vc (.undef)) (vc (.undef)) (vc (aL (Z rI (a2++([v5]:U W))))) (vc (.undef)) (vc (.own 90000)) T T T T T T T T T T T T T T T T [(5,[aL (Z X8.row a0.Points),aL (Z X2.row a0.Segments)])] [(90000,1,Z (rL rI) r18),(3456,1,Z rI ([r9]:U W)),(3840,1,Z rI ([v5]:U W))])
def Aq:=fun(a1:U W) (a2:U W) a3 (x1:W) v5 r9 a0 r18 (f:Y) (c0:X) (c1:X) (c2:X) (c3:X) (c4:X) (c5:X) (c6:X) (c7:X) (c8:X) (c9:X) (c10:X) (c11:X) (c12:X) (c13:X) (c14:X) (c15:X) (c16:X) c17 c18 c19 c20 c21 c22 c23 c24 c25 c26=>BZ zB B5h (VZ a1 a2 a3 x1 v5 r9 a0 r18) f [c0,c1,c2,c3,c4,c5,c6,c7,c8,c9,c10,c11,c12,c13,c14,c15,c16] (B6 a1 a2 a3 x1 v5 r9 a0 (vc ((c17))) (vc ((c18))) (vc ((c19))) (vc ((c20))) (vc ((c21))) (vc ((c22))) (vc ((c23))) (vc ((c24))) ((c25)) c0 c1 c2 c3 c4 c5 c6 c7 c8 c9 c10 c11 c12 c13 c14 c15 [(5,[aL (Z X8.row a0.Points),aL (Z X2.row a0.Segments)])] c26)
def Be:=fun(rec_:X3→(U W)→(U W)→W→(U (U W))→V (U (U W))) (a1:U W) (a2:U W) a3 v5 r9 a0 v6 r18=>(∀(a0:X3) (a1:U W) (a2:U W) (a3:W) (a4:U (U W)) zr,rec_ a0 a1 a2 a3 a4=N zr→FCt zB 206 [.d (.ag (X3.row a0)),.d (.sc (.sl (Z rI a1))),.d (.sc (.sl (Z rI a2))),.d (.sc (.int .i64 a3)),.r] 1 (Z (rL rI) a4) (Z (rL rI) zr))∧((Ad ([]:U W).length a1.length 8)=T)∧((Ad a1.length ([r9]:U W).length 8)=T)∧((Ad ([]:U W).length a2.length 8)=T)∧((Ad a2.length ([v5]:U W).length 8)=T)∧(rec_ a0 (a1++([r9]:U W)) (a2++([v5]:U W)) a3 v6=N r18)
theorem At{P:Program}{o:AItem}{Q:Xl→St→Prop}{σ:St}(c:U Y)(h:go P [.ops [o,(O,.keep [1,2,3,4,5,11,12,14,31,32,33,49,50,51,52,53,54,55,56,57,58,59,60,61,62,63,64,4] [5] c)]] Q .normal (N σ)):∃pre post:U AItem,pre.all (fun i=>i.2.idle)=T∧post.all (fun i=>i.2.idle)=T∧go P [.ops (pre++o::post)] Q .normal (N σ):=kp _ _ c h
theorem B4i{rec_ a1 a2 a3 x1 v5 r9 a0 v6 r18}(H:Be rec_ a1 a2 a3 v5 r9 a0 v6 r18):∀(f:Y),Aq a1 a2 a3 x1 v5 r9 a0 r18 f T T T T T T T T T T T T T T T T T (.own 90000) .undef .undef (aL (Z rI (a1++([r9]:U W)))) .undef .undef (aL (Z rI (a2++([v5]:U W)))) .undef (vc (.own 90000)) [(90000,1,Z (rL rI) r18),(3456,1,Z rI ([r9]:U W)),(3840,1,Z rI ([v5]:U W))]:=by
 obtain⟨h_rec,h14,h15,h16,h17,h18⟩:=id H;unfold Aq B6;intro f
 induction f with
 | zero=>intro h; rfl
 | succ f ih=>
  refine Ag ⟨?_,?_,?_,?_,?_,?_,?_,?_,?_,?_,?_,?_,?_,?_,?_,?_,?_,⟨⟩⟩<;>try first | (intro h; cases h; done)
theorem B4j{rec_ a1 a2 a3 x1 v5 r9 a0 v6 r18}(H:Be rec_ a1 a2 a3 v5 r9 a0 v6 r18):∀(f:Y),Aq a1 a2 a3 x1 v5 r9 a0 r18 f T T T T T T T T T T T T T T T T L .undef .undef .undef (aL (Z rI (a1++([r9]:U W)))) .undef .undef (aL (Z rI (a2++([v5]:U W)))) .undef (vc (.undef)) [(90000,1,Z (rL rI) r18),(3456,1,Z rI ([r9]:U W)),(3840,1,Z rI ([v5]:U W))]:=by
 obtain⟨h_rec,hg14,hg15,hg16,hg17,hr18⟩:=id H;unfold Aq B6;intro f
 induction f with
 | zero=>intro  h; simp at h
 | succ f ih=>
  refine Ag ⟨?_,?_,?_,?_,?_,?_,?_,?_,?_,?_,?_,?_,?_,?_,?_,?_,?_,⟨⟩⟩<;>try first | (intro h; cases h; done)
  ·intro h0 hw;refine At [90000,3456,3840] ?_;try simp only[A7,A8,zC,zA,A4,C,E,F,G,I,J]
   exact B4i H ..
theorem B4l{rec_ a1 a2 a3 x1 v5 r9 a0 v6 r18}(H:Be rec_ a1 a2 a3 v5 r9 a0 v6 r18):∀(f:Y) (b0 b13 b14:X),Aq a1 a2 a3 x1 v5 r9 a0 r18 f b0 T T T T T T T T T T T T b13 b14 L L (.own 90000) .undef .undef (.own 3200) .undef .undef (.own 3584) (.own 90000) (vc (.own 90000)) [(90000,1,Z (rL rI) v6),(3200,1,Z rI (a1++([r9]:U W))),(3456,1,Z rI ([r9]:U W)),(3584,1,Z rI (a2++([v5]:U W))),(3840,1,Z rI ([v5]:U W))]:=by
 obtain⟨h_rec,hg14,hg15,hg16,hg17,hr18⟩:=id H;unfold Aq B6;intro f
 induction f with
 | zero=>intros; intro h; simp at h
 | succ f ih=>
  intros;refine Ag ⟨?_,?_,?_,?_,?_,?_,?_,?_,?_,?_,?_,?_,?_,?_,?_,?_,?_,⟨⟩⟩<;>try exact gi
  ·intro h0 hw;obtain rfl:=hq hw 0 rfl rfl;obtain rfl:=hq hw 13 rfl rfl;obtain rfl:=hq hw 14 rfl rfl;refine⟨[(O,.frz 3200),(O,.frz 3584)],[(O,.ren 4096 90000),(O,.keep [1,2,3,4,5,11,12,14,31,32,33,49,50,51,52,53,54,55,56,57,58,59,60,61,62,63,64,4] [5] [90000,3456,3840])],rfl,rfl,?_⟩;try simp only[A7,A8,zC,zA,A4,C,E,F,G,I,J]
   refine El ?_;try simp only[A4,C,E,F,G,I,J]
   refine El ?_;try simp only[A4,C,E,F,G,I,J]
   refine U4 (h_rec _ _ _ _ _ _ hr18) 90000 rfl rfl (by simp only[St.fresh,List.all_cons,List.all_nil,D4]; simp[AV.cells,V1.cells,AC.uses]) rfl rfl ?_;rw[QE];try simp only[A4,C,E,F,G,I,J]
   refine ug rfl rfl ?_;try simp only[A4,C,E,F,G,I,J]
   exact B4j H ..
theorem fm{rec_ a1 a2 a3 x1 v5 r9 a0 v6 r18}(H:Be rec_ a1 a2 a3 v5 r9 a0 v6 r18):∀(f:Y) (b0 b13 b14:X),Aq a1 a2 a3 x1 v5 r9 a0 r18 f b0 T T T T T T T T T T T L b13 b14 L L (.own 90000) .undef .undef (.own 3200) .undef (.own 3584) (.own 3584) (.own 90000) (vc (.own 90000)) [(90000,1,Z (rL rI) v6),(3200,1,Z rI (a1++([r9]:U W))),(3456,1,Z rI ([r9]:U W)),(3584,1,Z rI a2),(3840,1,Z rI ([v5]:U W))]:=by
 obtain⟨h_rec,hg14,hg15,hg16,hg17,hr18⟩:=id H;unfold Aq B6;intro f
 induction f with
 | zero=>intros; intro h; simp at h
 | succ f ih=>
  intros;refine Ag ⟨?_,?_,?_,?_,?_,?_,?_,?_,?_,?_,?_,?_,?_,?_,?_,?_,?_,⟨⟩⟩<;>try exact gi
  ·intro h0 hw;refine At [90000,3200,3456,3584,3840] ?_;try simp only[hg17,A7,A8,zC,zA,A4,C,E,F,G,I,J]
   exact B4l H ..
theorem B4m{rec_ a1 a2 a3 x1 v5 r9 a0 v6 r18}(H:Be rec_ a1 a2 a3 v5 r9 a0 v6 r18):∀(f:Y) (b0 b10:X) (b13 b14:X),Aq a1 a2 a3 x1 v5 r9 a0 r18 f b0 T T T T T T T T T b10 L L b13 b14 L L (.own 90000) .undef .undef (.own 3200) .undef (.own 3584) (.own 3584) (.own 90000) (vc (.own 90000)) [(90000,1,Z (rL rI) v6),(3200,1,Z rI (a1++([r9]:U W))),(3456,1,Z rI ([r9]:U W)),(3584,1,Z rI a2)]:=by
 obtain⟨h_rec,hg14,hg15,hg16,hg17,hr18⟩:=id H;unfold Aq B6;intro f
 induction f with
 | zero=>intros; intro h; simp at h
 | succ f ih=>
  intros;refine Ag ⟨?_,?_,?_,?_,?_,?_,?_,?_,?_,?_,?_,?_,?_,?_,?_,?_,?_,⟨⟩⟩<;>try exact gi
  ·intro h0 hw;obtain rfl:=hq hw 10 rfl rfl;refine At [90000,3200,3456,3584,3840] ?_;try simp only[A7,A8,zC,zA,A4,C,E,F,G,I,J]
   refine Au (Z rI ([v5]:U W)) ?_;try simp only[A4,C,E,F,G,I,J]
   exact fm H ..
theorem Wj{rec_ a1 a2 a3 x1 v5 r9 a0 v6 r18}(H:Be rec_ a1 a2 a3 v5 r9 a0 v6 r18):∀(f:Y) (b0 b8:X) (b13 b14:X),Aq a1 a2 a3 x1 v5 r9 a0 r18 f b0 T T T T T T T b8 L T T L b13 b14 L L (.own 90000) .undef .undef (.own 3200) (.own 3584) (.own 3584) (.own 3584) (.own 90000) (vc (.own 90000)) [(90000,1,Z (rL rI) v6),(3200,1,Z rI (a1++([r9]:U W))),(3456,1,Z rI ([r9]:U W)),(3584,1,Z rI ([]:U W)),(3840,1,Z rI ([v5]:U W))]:=by
 obtain⟨h_rec,hg14,hg15,hg16,hg17,hr18⟩:=id H;unfold Aq B6;intro f
 induction f with
 | zero=>intros; intro h; simp at h
 | succ f ih=>
  intros;refine Ag ⟨?_,?_,?_,?_,?_,?_,?_,?_,?_,?_,?_,?_,?_,?_,?_,?_,?_,⟨⟩⟩<;>try exact gi
  ·intro h0 hw;obtain rfl:=hq hw 8 rfl rfl;refine At [90000,3200,3456,3584,3840] ?_;try simp only[hg16,A7,A8,zC,zA,A4,C,E,F,G,I,J]
   exact fm H ..
theorem fo{rec_ a1 a2 a3 x1 v5 r9 a0 v6 r18}(H:Be rec_ a1 a2 a3 v5 r9 a0 v6 r18):∀(f:Y) (b0 b8:X) (b10 b13 b14:X),Aq a1 a2 a3 x1 v5 r9 a0 r18 f b0 T T T T T T T b8 L b10 L L b13 b14 L L (.own 90000) .undef .undef (.own 3200) (.own 3584) (.own 3584) (.own 3584) (.own 90000) (vc (.own 90000)) [(90000,1,Z (rL rI) v6),(3200,1,Z rI (a1++([r9]:U W))),(3456,1,Z rI ([r9]:U W)),(3584,1,Z rI ([]:U W))]:=by
 obtain⟨h_rec,hg14,hg15,hg16,hg17,hr18⟩:=id H;unfold Aq B6;intro f
 induction f with
 | zero=>intros; intro h; simp at h
 | succ f ih=>
  intros;refine Ag ⟨?_,?_,?_,?_,?_,?_,?_,?_,?_,?_,?_,?_,?_,?_,?_,?_,?_,⟨⟩⟩<;>try exact gi
  ·intro h0 hw;obtain rfl:=hq hw 8 rfl rfl;refine At [90000,3200,3456,3584] ?_;try simp only[hg16,A7,A8,zC,zA,A4,C,E,F,G,I,J]
   exact B4m H ..
  ·intro h0 hw;obtain rfl:=hq hw 10 rfl rfl;refine At [90000,3200,3456,3584,3840] ?_;try simp only[A7,A8,zC,zA,A4,C,E,F,G,I,J]
   refine Au (Z rI ([v5]:U W)) ?_;try simp only[A4,C,E,F,G,I,J]
   exact Wj H ..
theorem fp{rec_ a1 a2 a3 x1 v5 r9 a0 v6 r18}(H:Be rec_ a1 a2 a3 v5 r9 a0 v6 r18):∀(f:Y) (b0 b8:X) (b13 b14:X),Aq a1 a2 a3 x1 v5 r9 a0 r18 f b0 T T T T T T L b8 L T T L b13 b14 L L (.own 90000) .undef .undef (.own 3200) (.own 3584) (.own 3584) (.own 3584) (.own 90000) (vc (.own 90000)) [(90000,1,Z (rL rI) v6),(3200,1,Z rI (a1++([r9]:U W))),(3456,1,Z rI ([r9]:U W)),(3840,1,Z rI ([v5]:U W))]:=by
 obtain⟨h_rec,hg14,hg15,hg16,hg17,hr18⟩:=id H;unfold Aq B6;intro f
 induction f with
 | zero=>intros; intro h; simp at h
 | succ f ih=>
  intros;refine Ag ⟨?_,?_,?_,?_,?_,?_,?_,?_,?_,?_,?_,?_,?_,?_,?_,?_,?_,⟨⟩⟩<;>try exact gi
  ·intro h0 hw;refine At [90000,3200,3456,3584,3840] ?_;try simp only[A7,A8,zC,zA,A4,C,E,F,G,I,J]
   refine Au (Z rI ([]:U W)) ?_;try simp only[A4,C,E,F,G,I,J]
   exact Wj H ..
theorem SZ{rec_ a1 a2 a3 x1 v5 r9 a0 v6 r18}(H:Be rec_ a1 a2 a3 v5 r9 a0 v6 r18):∀(f:Y) (b0 b8:X) (b13 b14:X),Aq a1 a2 a3 x1 v5 r9 a0 r18 f b0 T T T T T L T b8 L T T L b13 b14 L L (.own 90000) .undef (.own 3200) (.own 3200) (.own 3584) (.own 3584) (.own 3584) (.own 90000) (vc (.own 90000)) [(90000,1,Z (rL rI) v6),(3200,1,Z rI a1),(3456,1,Z rI ([r9]:U W)),(3584,1,Z rI ([]:U W)),(3840,1,Z rI ([v5]:U W))]:=by
 obtain⟨h_rec,hg14,hg15,hg16,hg17,hr18⟩:=id H;unfold Aq B6;intro f
 induction f with
 | zero=>intros; intro h; simp at h
 | succ f ih=>
  intros;refine Ag ⟨?_,?_,?_,?_,?_,?_,?_,?_,?_,?_,?_,?_,?_,?_,?_,?_,?_,⟨⟩⟩<;>try exact gi
  ·intro h0 hw;refine At [90000,3200,3456,3584,3840] ?_;try simp only[hg15,A7,A8,zC,zA,A4,C,E,F,G,I,J]
   exact Wj H ..
theorem B4n{rec_ a1 a2 a3 x1 v5 r9 a0 v6 r18}(H:Be rec_ a1 a2 a3 v5 r9 a0 v6 r18):∀(f:Y) (b0 b8:X) (b10 b13 b14:X),Aq a1 a2 a3 x1 v5 r9 a0 r18 f b0 T T T T T T L b8 L b10 L L b13 b14 L L (.own 90000) .undef .undef (.own 3200) (.own 3584) (.own 3584) (.own 3584) (.own 90000) (vc (.own 90000)) [(90000,1,Z (rL rI) v6),(3200,1,Z rI (a1++([r9]:U W))),(3456,1,Z rI ([r9]:U W))]:=by
 obtain⟨h_rec,hg14,hg15,hg16,hg17,hr18⟩:=id H;unfold Aq B6;intro f
 induction f with
 | zero=>intros; intro h; simp at h
 | succ f ih=>
  intros;refine Ag ⟨?_,?_,?_,?_,?_,?_,?_,?_,?_,?_,?_,?_,?_,?_,?_,?_,?_,⟨⟩⟩<;>try exact gi
  ·intro h0 hw;refine At [90000,3200,3456,3584] ?_;try simp only[A7,A8,zC,zA,A4,C,E,F,G,I,J]
   refine Au (Z rI ([]:U W)) ?_;try simp only[A4,C,E,F,G,I,J]
   exact fo H ..
  ·intro h0 hw;obtain rfl:=hq hw 10 rfl rfl;refine At [90000,3200,3456,3840] ?_;try simp only[A7,A8,zC,zA,A4,C,E,F,G,I,J]
   refine Au (Z rI ([v5]:U W)) ?_;try simp only[A4,C,E,F,G,I,J]
   exact fp H ..
theorem Wk{rec_ a1 a2 a3 x1 v5 r9 a0 v6 r18}(H:Be rec_ a1 a2 a3 v5 r9 a0 v6 r18):∀(f:Y) (b0 b8:X) (b10 b13 b14:X),Aq a1 a2 a3 x1 v5 r9 a0 r18 f b0 T T T T T L T b8 L b10 L L b13 b14 L L (.own 90000) .undef (.own 3200) (.own 3200) (.own 3584) (.own 3584) (.own 3584) (.own 90000) (vc (.own 90000)) [(90000,1,Z (rL rI) v6),(3200,1,Z rI a1),(3456,1,Z rI ([r9]:U W)),(3584,1,Z rI ([]:U W))]:=by
 obtain⟨h_rec,hg14,hg15,hg16,hg17,hr18⟩:=id H;unfold Aq B6;intro f
 induction f with
 | zero=>intros; intro h; simp at h
 | succ f ih=>
  intros;refine Ag ⟨?_,?_,?_,?_,?_,?_,?_,?_,?_,?_,?_,?_,?_,?_,?_,?_,?_,⟨⟩⟩<;>try exact gi
  ·intro h0 hw;refine At [90000,3200,3456,3584] ?_;try simp only[hg15,A7,A8,zC,zA,A4,C,E,F,G,I,J]
   exact fo H ..
  ·intro h0 hw;obtain rfl:=hq hw 10 rfl rfl;refine At [90000,3200,3456,3584,3840] ?_;try simp only[A7,A8,zC,zA,A4,C,E,F,G,I,J]
   refine Au (Z rI ([v5]:U W)) ?_;try simp only[A4,C,E,F,G,I,J]
   exact SZ H ..
theorem Wl{rec_ a1 a2 a3 x1 v5 r9 a0 v6 r18}(H:Be rec_ a1 a2 a3 v5 r9 a0 v6 r18):∀(f:Y) (b0 b8:X) (b13 b14:X),Aq a1 a2 a3 x1 v5 r9 a0 r18 f b0 T T T T T L L b8 L T T L b13 b14 L L (.own 90000) .undef (.own 3200) (.own 3200) (.own 3584) (.own 3584) (.own 3584) (.own 90000) (vc (.own 90000)) [(90000,1,Z (rL rI) v6),(3200,1,Z rI a1),(3456,1,Z rI ([r9]:U W)),(3840,1,Z rI ([v5]:U W))]:=by
 obtain⟨h_rec,hg14,hg15,hg16,hg17,hr18⟩:=id H;unfold Aq B6;intro f
 induction f with
 | zero=>intros; intro h; simp at h
 | succ f ih=>
  intros;refine Ag ⟨?_,?_,?_,?_,?_,?_,?_,?_,?_,?_,?_,?_,?_,?_,?_,?_,?_,⟨⟩⟩<;>try exact gi
  ·intro h0 hw;refine At [90000,3200,3456,3840] ?_;try simp only[hg15,A7,A8,zC,zA,A4,C,E,F,G,I,J]
   exact fp H ..
  ·intro h0 hw;refine At [90000,3200,3456,3584,3840] ?_;try simp only[A7,A8,zC,zA,A4,C,E,F,G,I,J]
   refine Au (Z rI ([]:U W)) ?_;try simp only[A4,C,E,F,G,I,J]
   exact SZ H ..
theorem Wm{rec_ a1 a2 a3 x1 v5 r9 a0 v6 r18}(H:Be rec_ a1 a2 a3 v5 r9 a0 v6 r18):∀(f:Y) (b0 b4:X) (b8 b13 b14:X),Aq a1 a2 a3 x1 v5 r9 a0 r18 f b0 T T T b4 L L T b8 L T T L b13 b14 L L (.own 90000) .undef (.own 3200) (.own 3200) (.own 3584) (.own 3584) (.own 3584) (.own 90000) (vc (.own 90000)) [(90000,1,Z (rL rI) v6),(3200,1,Z rI a1),(3584,1,Z rI ([]:U W)),(3840,1,Z rI ([v5]:U W))]:=by
 obtain⟨h_rec,hg14,hg15,hg16,hg17,hr18⟩:=id H;unfold Aq B6;intro f
 induction f with
 | zero=>intros; intro h; simp at h
 | succ f ih=>
  intros;refine Ag ⟨?_,?_,?_,?_,?_,?_,?_,?_,?_,?_,?_,?_,?_,?_,?_,?_,?_,⟨⟩⟩<;>try exact gi
  ·intro h0 hw;obtain rfl:=hq hw 4 rfl rfl;refine At [90000,3200,3456,3584,3840] ?_;try simp only[A7,A8,zC,zA,A4,C,E,F,G,I,J]
   refine Au (Z rI ([r9]:U W)) ?_;try simp only[A4,C,E,F,G,I,J]
   exact SZ H ..
theorem T0{rec_ a1 a2 a3 x1 v5 r9 a0 v6 r18}(H:Be rec_ a1 a2 a3 v5 r9 a0 v6 r18):∀(f:Y) (b0 b2:X) (b8 b13 b14:X),Aq a1 a2 a3 x1 v5 r9 a0 r18 f b0 T b2 L T T L T b8 L T T L b13 b14 L L (.own 90000) (.own 3200) (.own 3200) (.own 3200) (.own 3584) (.own 3584) (.own 3584) (.own 90000) (vc (.own 90000)) [(90000,1,Z (rL rI) v6),(3200,1,Z rI ([]:U W)),(3456,1,Z rI ([r9]:U W)),(3584,1,Z rI ([]:U W)),(3840,1,Z rI ([v5]:U W))]:=by
 obtain⟨h_rec,hg14,hg15,hg16,hg17,hr18⟩:=id H;unfold Aq B6;intro f
 induction f with
 | zero=>intros; intro h; simp at h
 | succ f ih=>
  intros;refine Ag ⟨?_,?_,?_,?_,?_,?_,?_,?_,?_,?_,?_,?_,?_,?_,?_,?_,?_,⟨⟩⟩<;>try exact gi
  ·intro h0 hw;obtain rfl:=hq hw 2 rfl rfl;refine At [90000,3200,3456,3584,3840] ?_;try simp only[hg14,A7,A8,zC,zA,A4,C,E,F,G,I,J]
   exact SZ H ..
theorem fq{rec_ a1 a2 a3 x1 v5 r9 a0 v6 r18}(H:Be rec_ a1 a2 a3 v5 r9 a0 v6 r18):∀(f:Y) (b0 b8:X) (b10 b13 b14:X),Aq a1 a2 a3 x1 v5 r9 a0 r18 f b0 T T T T T L L b8 L b10 L L b13 b14 L L (.own 90000) .undef (.own 3200) (.own 3200) (.own 3584) (.own 3584) (.own 3584) (.own 90000) (vc (.own 90000)) [(90000,1,Z (rL rI) v6),(3200,1,Z rI a1),(3456,1,Z rI ([r9]:U W))]:=by
 obtain⟨h_rec,hg14,hg15,hg16,hg17,hr18⟩:=id H;unfold Aq B6;intro f
 induction f with
 | zero=>intros; intro h; simp at h
 | succ f ih=>
  intros;refine Ag ⟨?_,?_,?_,?_,?_,?_,?_,?_,?_,?_,?_,?_,?_,?_,?_,?_,?_,⟨⟩⟩<;>try exact gi
  ·intro h0 hw;refine At [90000,3200,3456] ?_;try simp only[hg15,A7,A8,zC,zA,A4,C,E,F,G,I,J]
   exact B4n H ..
  ·intro h0 hw;refine At [90000,3200,3456,3584] ?_;try simp only[A7,A8,zC,zA,A4,C,E,F,G,I,J]
   refine Au (Z rI ([]:U W)) ?_;try simp only[A4,C,E,F,G,I,J]
   exact Wk H ..
  ·intro h0 hw;obtain rfl:=hq hw 10 rfl rfl;refine At [90000,3200,3456,3840] ?_;try simp only[A7,A8,zC,zA,A4,C,E,F,G,I,J]
   refine Au (Z rI ([v5]:U W)) ?_;try simp only[A4,C,E,F,G,I,J]
   exact Wl H ..
theorem ft{rec_ a1 a2 a3 x1 v5 r9 a0 v6 r18}(H:Be rec_ a1 a2 a3 v5 r9 a0 v6 r18):∀(f:Y) (b0 b4:X) (b8 b10:X) (b13 b14:X),Aq a1 a2 a3 x1 v5 r9 a0 r18 f b0 T T T b4 L L T b8 L b10 L L b13 b14 L L (.own 90000) .undef (.own 3200) (.own 3200) (.own 3584) (.own 3584) (.own 3584) (.own 90000) (vc (.own 90000)) [(90000,1,Z (rL rI) v6),(3200,1,Z rI a1),(3584,1,Z rI ([]:U W))]:=by
 obtain⟨h_rec,hg14,hg15,hg16,hg17,hr18⟩:=id H;unfold Aq B6;intro f
 induction f with
 | zero=>intros; intro h; simp at h
 | succ f ih=>
  intros;refine Ag ⟨?_,?_,?_,?_,?_,?_,?_,?_,?_,?_,?_,?_,?_,?_,?_,?_,?_,⟨⟩⟩<;>try exact gi
  ·intro h0 hw;obtain rfl:=hq hw 4 rfl rfl;refine At [90000,3200,3456,3584] ?_;try simp only[A7,A8,zC,zA,A4,C,E,F,G,I,J]
   refine Au (Z rI ([r9]:U W)) ?_;try simp only[A4,C,E,F,G,I,J]
   exact Wk H ..
  ·intro h0 hw;obtain rfl:=hq hw 10 rfl rfl;refine At [90000,3200,3584,3840] ?_;try simp only[A7,A8,zC,zA,A4,C,E,F,G,I,J]
   refine Au (Z rI ([v5]:U W)) ?_;try simp only[A4,C,E,F,G,I,J]
   exact Wm H ..
theorem fv{rec_ a1 a2 a3 x1 v5 r9 a0 v6 r18}(H:Be rec_ a1 a2 a3 v5 r9 a0 v6 r18):∀(f:Y) (b0 b4:X) (b8 b13 b14:X),Aq a1 a2 a3 x1 v5 r9 a0 r18 f b0 T T T b4 L L L b8 L T T L b13 b14 L L (.own 90000) .undef (.own 3200) (.own 3200) (.own 3584) (.own 3584) (.own 3584) (.own 90000) (vc (.own 90000)) [(90000,1,Z (rL rI) v6),(3200,1,Z rI a1),(3840,1,Z rI ([v5]:U W))]:=by
 obtain⟨h_rec,hg14,hg15,hg16,hg17,hr18⟩:=id H;unfold Aq B6;intro f
 induction f with
 | zero=>intros; intro h; simp at h
 | succ f ih=>
  intros;refine Ag ⟨?_,?_,?_,?_,?_,?_,?_,?_,?_,?_,?_,?_,?_,?_,?_,?_,?_,⟨⟩⟩<;>try exact gi
  ·intro h0 hw;obtain rfl:=hq hw 4 rfl rfl;refine At [90000,3200,3456,3840] ?_;try simp only[A7,A8,zC,zA,A4,C,E,F,G,I,J]
   refine Au (Z rI ([r9]:U W)) ?_;try simp only[A4,C,E,F,G,I,J]
   exact Wl H ..
  ·intro h0 hw;refine At [90000,3200,3584,3840] ?_;try simp only[A7,A8,zC,zA,A4,C,E,F,G,I,J]
   refine Au (Z rI ([]:U W)) ?_;try simp only[A4,C,E,F,G,I,J]
   exact Wm H ..
theorem Wn{rec_ a1 a2 a3 x1 v5 r9 a0 v6 r18}(H:Be rec_ a1 a2 a3 v5 r9 a0 v6 r18):∀(f:Y) (b0 b2:X) (b8 b10:X) (b13 b14:X),Aq a1 a2 a3 x1 v5 r9 a0 r18 f b0 T b2 L T T L T b8 L b10 L L b13 b14 L L (.own 90000) (.own 3200) (.own 3200) (.own 3200) (.own 3584) (.own 3584) (.own 3584) (.own 90000) (vc (.own 90000)) [(90000,1,Z (rL rI) v6),(3200,1,Z rI ([]:U W)),(3456,1,Z rI ([r9]:U W)),(3584,1,Z rI ([]:U W))]:=by
 obtain⟨h_rec,hg14,hg15,hg16,hg17,hr18⟩:=id H;unfold Aq B6;intro f
 induction f with
 | zero=>intros; intro h; simp at h
 | succ f ih=>
  intros;refine Ag ⟨?_,?_,?_,?_,?_,?_,?_,?_,?_,?_,?_,?_,?_,?_,?_,?_,?_,⟨⟩⟩<;>try exact gi
  ·intro h0 hw;obtain rfl:=hq hw 2 rfl rfl;refine At [90000,3200,3456,3584] ?_;try simp only[hg14,A7,A8,zC,zA,A4,C,E,F,G,I,J]
   exact Wk H ..
  ·intro h0 hw;obtain rfl:=hq hw 10 rfl rfl;refine At [90000,3200,3456,3584,3840] ?_;try simp only[A7,A8,zC,zA,A4,C,E,F,G,I,J]
   refine Au (Z rI ([v5]:U W)) ?_;try simp only[A4,C,E,F,G,I,J]
   exact T0 H ..
theorem Wo{rec_ a1 a2 a3 x1 v5 r9 a0 v6 r18}(H:Be rec_ a1 a2 a3 v5 r9 a0 v6 r18):∀(f:Y) (b0 b2:X) (b8 b13 b14:X),Aq a1 a2 a3 x1 v5 r9 a0 r18 f b0 T b2 L T T L L b8 L T T L b13 b14 L L (.own 90000) (.own 3200) (.own 3200) (.own 3200) (.own 3584) (.own 3584) (.own 3584) (.own 90000) (vc (.own 90000)) [(90000,1,Z (rL rI) v6),(3200,1,Z rI ([]:U W)),(3456,1,Z rI ([r9]:U W)),(3840,1,Z rI ([v5]:U W))]:=by
 obtain⟨h_rec,hg14,hg15,hg16,hg17,hr18⟩:=id H;unfold Aq B6;intro f
 induction f with
 | zero=>intros; intro h; simp at h
 | succ f ih=>
  intros;refine Ag ⟨?_,?_,?_,?_,?_,?_,?_,?_,?_,?_,?_,?_,?_,?_,?_,?_,?_,⟨⟩⟩<;>try exact gi
  ·intro h0 hw;obtain rfl:=hq hw 2 rfl rfl;refine At [90000,3200,3456,3840] ?_;try simp only[hg14,A7,A8,zC,zA,A4,C,E,F,G,I,J]
   exact Wl H ..
  ·intro h0 hw;refine At [90000,3200,3456,3584,3840] ?_;try simp only[A7,A8,zC,zA,A4,C,E,F,G,I,J]
   refine Au (Z rI ([]:U W)) ?_;try simp only[A4,C,E,F,G,I,J]
   exact T0 H ..
theorem Wp{rec_ a1 a2 a3 x1 v5 r9 a0 v6 r18}(H:Be rec_ a1 a2 a3 v5 r9 a0 v6 r18):∀(f:Y) (b0 b2:X) (b4 b8:X) (b13 b14:X),Aq a1 a2 a3 x1 v5 r9 a0 r18 f b0 T b2 L b4 L L T b8 L T T L b13 b14 L L (.own 90000) (.own 3200) (.own 3200) (.own 3200) (.own 3584) (.own 3584) (.own 3584) (.own 90000) (vc (.own 90000)) [(90000,1,Z (rL rI) v6),(3200,1,Z rI ([]:U W)),(3584,1,Z rI ([]:U W)),(3840,1,Z rI ([v5]:U W))]:=by
 obtain⟨h_rec,hg14,hg15,hg16,hg17,hr18⟩:=id H;unfold Aq B6;intro f
 induction f with
 | zero=>intros; intro h; simp at h
 | succ f ih=>
  intros;refine Ag ⟨?_,?_,?_,?_,?_,?_,?_,?_,?_,?_,?_,?_,?_,?_,?_,?_,?_,⟨⟩⟩<;>try exact gi
  ·intro h0 hw;obtain rfl:=hq hw 2 rfl rfl;refine At [90000,3200,3584,3840] ?_;try simp only[hg14,A7,A8,zC,zA,A4,C,E,F,G,I,J]
   exact Wm H ..
  ·intro h0 hw;obtain rfl:=hq hw 4 rfl rfl;refine At [90000,3200,3456,3584,3840] ?_;try simp only[A7,A8,zC,zA,A4,C,E,F,G,I,J]
   refine Au (Z rI ([r9]:U W)) ?_;try simp only[A4,C,E,F,G,I,J]
   exact T0 H ..
theorem Wq{rec_ a1 a2 a3 x1 v5 r9 a0 v6 r18}(H:Be rec_ a1 a2 a3 v5 r9 a0 v6 r18):∀(f:Y) (b0 b2:X) (b8 b13 b14:X),Aq a1 a2 a3 x1 v5 r9 a0 r18 f b0 L b2 L T T L T b8 L T T L b13 b14 L L (.own 90000) (.own 3200) (.own 3200) (.own 3200) (.own 3584) (.own 3584) (.own 3584) (.own 90000) (vc (.own 90000)) [(90000,1,Z (rL rI) v6),(3456,1,Z rI ([r9]:U W)),(3584,1,Z rI ([]:U W)),(3840,1,Z rI ([v5]:U W))]:=by
 obtain⟨h_rec,hg14,hg15,hg16,hg17,hr18⟩:=id H;unfold Aq B6;intro f
 induction f with
 | zero=>intros; intro h; simp at h
 | succ f ih=>
  intros;refine Ag ⟨?_,?_,?_,?_,?_,?_,?_,?_,?_,?_,?_,?_,?_,?_,?_,?_,?_,⟨⟩⟩<;>try exact gi
  ·intro h0 hw;refine At [90000,3200,3456,3584,3840] ?_;try simp only[A7,A8,zC,zA,A4,C,E,F,G,I,J]
   refine Au (Z rI ([]:U W)) ?_;try simp only[A4,C,E,F,G,I,J]
   exact T0 H ..
theorem B4o{rec_ a1 a2 a3 x1 v5 r9 a0 v6 r18}(H:Be rec_ a1 a2 a3 v5 r9 a0 v6 r18):∀(f:Y) (b0 b4:X) (b8 b10:X) (b13 b14:X),Aq a1 a2 a3 x1 v5 r9 a0 r18 f b0 T T T b4 L L L b8 L b10 L L b13 b14 L L (.own 90000) .undef (.own 3200) (.own 3200) (.own 3584) (.own 3584) (.own 3584) (.own 90000) (vc (.own 90000)) [(90000,1,Z (rL rI) v6),(3200,1,Z rI a1)]:=by
 obtain⟨h_rec,hg14,hg15,hg16,hg17,hr18⟩:=id H;unfold Aq B6;intro f
 induction f with
 | zero=>intros; intro h; simp at h
 | succ f ih=>
  intros;refine Ag ⟨?_,?_,?_,?_,?_,?_,?_,?_,?_,?_,?_,?_,?_,?_,?_,?_,?_,⟨⟩⟩<;>try exact gi
  ·intro h0 hw;obtain rfl:=hq hw 4 rfl rfl;refine At [90000,3200,3456] ?_;try simp only[A7,A8,zC,zA,A4,C,E,F,G,I,J]
   refine Au (Z rI ([r9]:U W)) ?_;try simp only[A4,C,E,F,G,I,J]
   exact fq H ..
  ·intro h0 hw;refine At [90000,3200,3584] ?_;try simp only[A7,A8,zC,zA,A4,C,E,F,G,I,J]
   refine Au (Z rI ([]:U W)) ?_;try simp only[A4,C,E,F,G,I,J]
   exact ft H ..
  ·intro h0 hw;obtain rfl:=hq hw 10 rfl rfl;refine At [90000,3200,3840] ?_;try simp only[A7,A8,zC,zA,A4,C,E,F,G,I,J]
   refine Au (Z rI ([v5]:U W)) ?_;try simp only[A4,C,E,F,G,I,J]
   exact fv H ..
theorem fw{rec_ a1 a2 a3 x1 v5 r9 a0 v6 r18}(H:Be rec_ a1 a2 a3 v5 r9 a0 v6 r18):∀(f:Y) (b0 b2:X) (b8 b10:X) (b13 b14:X),Aq a1 a2 a3 x1 v5 r9 a0 r18 f b0 T b2 L T T L L b8 L b10 L L b13 b14 L L (.own 90000) (.own 3200) (.own 3200) (.own 3200) (.own 3584) (.own 3584) (.own 3584) (.own 90000) (vc (.own 90000)) [(90000,1,Z (rL rI) v6),(3200,1,Z rI ([]:U W)),(3456,1,Z rI ([r9]:U W))]:=by
 obtain⟨h_rec,hg14,hg15,hg16,hg17,hr18⟩:=id H;unfold Aq B6;intro f
 induction f with
 | zero=>intros; intro h; simp at h
 | succ f ih=>
  intros;refine Ag ⟨?_,?_,?_,?_,?_,?_,?_,?_,?_,?_,?_,?_,?_,?_,?_,?_,?_,⟨⟩⟩<;>try exact gi
  ·intro h0 hw;obtain rfl:=hq hw 2 rfl rfl;refine At [90000,3200,3456] ?_;try simp only[hg14,A7,A8,zC,zA,A4,C,E,F,G,I,J]
   exact fq H ..
  ·intro h0 hw;refine At [90000,3200,3456,3584] ?_;try simp only[A7,A8,zC,zA,A4,C,E,F,G,I,J]
   refine Au (Z rI ([]:U W)) ?_;try simp only[A4,C,E,F,G,I,J]
   exact Wn H ..
  ·intro h0 hw;obtain rfl:=hq hw 10 rfl rfl;refine At [90000,3200,3456,3840] ?_;try simp only[A7,A8,zC,zA,A4,C,E,F,G,I,J]
   refine Au (Z rI ([v5]:U W)) ?_;try simp only[A4,C,E,F,G,I,J]
   exact Wo H ..
theorem fx{rec_ a1 a2 a3 x1 v5 r9 a0 v6 r18}(H:Be rec_ a1 a2 a3 v5 r9 a0 v6 r18):∀(f:Y) (b0 b2:X) (b4 b8:X) (b10 b13 b14:X),Aq a1 a2 a3 x1 v5 r9 a0 r18 f b0 T b2 L b4 L L T b8 L b10 L L b13 b14 L L (.own 90000) (.own 3200) (.own 3200) (.own 3200) (.own 3584) (.own 3584) (.own 3584) (.own 90000) (vc (.own 90000)) [(90000,1,Z (rL rI) v6),(3200,1,Z rI ([]:U W)),(3584,1,Z rI ([]:U W))]:=by
 obtain⟨h_rec,hg14,hg15,hg16,hg17,hr18⟩:=id H;unfold Aq B6;intro f
 induction f with
 | zero=>intros; intro h; simp at h
 | succ f ih=>
  intros;refine Ag ⟨?_,?_,?_,?_,?_,?_,?_,?_,?_,?_,?_,?_,?_,?_,?_,?_,?_,⟨⟩⟩<;>try exact gi
  ·intro h0 hw;obtain rfl:=hq hw 2 rfl rfl;refine At [90000,3200,3584] ?_;try simp only[hg14,A7,A8,zC,zA,A4,C,E,F,G,I,J]
   exact ft H ..
  ·intro h0 hw;obtain rfl:=hq hw 4 rfl rfl;refine At [90000,3200,3456,3584] ?_;try simp only[A7,A8,zC,zA,A4,C,E,F,G,I,J]
   refine Au (Z rI ([r9]:U W)) ?_;try simp only[A4,C,E,F,G,I,J]
   exact Wn H ..
  ·intro h0 hw;obtain rfl:=hq hw 10 rfl rfl;refine At [90000,3200,3584,3840] ?_;try simp only[A7,A8,zC,zA,A4,C,E,F,G,I,J]
   refine Au (Z rI ([v5]:U W)) ?_;try simp only[A4,C,E,F,G,I,J]
   exact Wp H ..
theorem fy{rec_ a1 a2 a3 x1 v5 r9 a0 v6 r18}(H:Be rec_ a1 a2 a3 v5 r9 a0 v6 r18):∀(f:Y) (b0 b2:X) (b4 b8:X) (b13 b14:X),Aq a1 a2 a3 x1 v5 r9 a0 r18 f b0 T b2 L b4 L L L b8 L T T L b13 b14 L L (.own 90000) (.own 3200) (.own 3200) (.own 3200) (.own 3584) (.own 3584) (.own 3584) (.own 90000) (vc (.own 90000)) [(90000,1,Z (rL rI) v6),(3200,1,Z rI ([]:U W)),(3840,1,Z rI ([v5]:U W))]:=by
 obtain⟨h_rec,hg14,hg15,hg16,hg17,hr18⟩:=id H;unfold Aq B6;intro f
 induction f with
 | zero=>intros; intro h; simp at h
 | succ f ih=>
  intros;refine Ag ⟨?_,?_,?_,?_,?_,?_,?_,?_,?_,?_,?_,?_,?_,?_,?_,?_,?_,⟨⟩⟩<;>try exact gi
  ·intro h0 hw;obtain rfl:=hq hw 2 rfl rfl;refine At [90000,3200,3840] ?_;try simp only[hg14,A7,A8,zC,zA,A4,C,E,F,G,I,J]
   exact fv H ..
  ·intro h0 hw;obtain rfl:=hq hw 4 rfl rfl;refine At [90000,3200,3456,3840] ?_;try simp only[A7,A8,zC,zA,A4,C,E,F,G,I,J]
   refine Au (Z rI ([r9]:U W)) ?_;try simp only[A4,C,E,F,G,I,J]
   exact Wo H ..
  ·intro h0 hw;refine At [90000,3200,3584,3840] ?_;try simp only[A7,A8,zC,zA,A4,C,E,F,G,I,J]
   refine Au (Z rI ([]:U W)) ?_;try simp only[A4,C,E,F,G,I,J]
   exact Wp H ..
theorem fz{rec_ a1 a2 a3 x1 v5 r9 a0 v6 r18}(H:Be rec_ a1 a2 a3 v5 r9 a0 v6 r18):∀(f:Y) (b0 b2:X) (b8 b10:X) (b13 b14:X),Aq a1 a2 a3 x1 v5 r9 a0 r18 f b0 L b2 L T T L T b8 L b10 L L b13 b14 L L (.own 90000) (.own 3200) (.own 3200) (.own 3200) (.own 3584) (.own 3584) (.own 3584) (.own 90000) (vc (.own 90000)) [(90000,1,Z (rL rI) v6),(3456,1,Z rI ([r9]:U W)),(3584,1,Z rI ([]:U W))]:=by
 obtain⟨h_rec,hg14,hg15,hg16,hg17,hr18⟩:=id H;unfold Aq B6;intro f
 induction f with
 | zero=>intros; intro h; simp at h
 | succ f ih=>
  intros;refine Ag ⟨?_,?_,?_,?_,?_,?_,?_,?_,?_,?_,?_,?_,?_,?_,?_,?_,?_,⟨⟩⟩<;>try exact gi
  ·intro h0 hw;refine At [90000,3200,3456,3584] ?_;try simp only[A7,A8,zC,zA,A4,C,E,F,G,I,J]
   refine Au (Z rI ([]:U W)) ?_;try simp only[A4,C,E,F,G,I,J]
   exact Wn H ..
  ·intro h0 hw;obtain rfl:=hq hw 10 rfl rfl;refine At [90000,3456,3584,3840] ?_;try simp only[A7,A8,zC,zA,A4,C,E,F,G,I,J]
   refine Au (Z rI ([v5]:U W)) ?_;try simp only[A4,C,E,F,G,I,J]
   exact Wq H ..
theorem gA{rec_ a1 a2 a3 x1 v5 r9 a0 v6 r18}(H:Be rec_ a1 a2 a3 v5 r9 a0 v6 r18):∀(f:Y) (b0 b2:X) (b8 b13 b14:X),Aq a1 a2 a3 x1 v5 r9 a0 r18 f b0 L b2 L T T L L b8 L T T L b13 b14 L L (.own 90000) (.own 3200) (.own 3200) (.own 3200) (.own 3584) (.own 3584) (.own 3584) (.own 90000) (vc (.own 90000)) [(90000,1,Z (rL rI) v6),(3456,1,Z rI ([r9]:U W)),(3840,1,Z rI ([v5]:U W))]:=by
 obtain⟨h_rec,hg14,hg15,hg16,hg17,hr18⟩:=id H;unfold Aq B6;intro f
 induction f with
 | zero=>intros; intro h; simp at h
 | succ f ih=>
  intros;refine Ag ⟨?_,?_,?_,?_,?_,?_,?_,?_,?_,?_,?_,?_,?_,?_,?_,?_,?_,⟨⟩⟩<;>try exact gi
  ·intro h0 hw;refine At [90000,3200,3456,3840] ?_;try simp only[A7,A8,zC,zA,A4,C,E,F,G,I,J]
   refine Au (Z rI ([]:U W)) ?_;try simp only[A4,C,E,F,G,I,J]
   exact Wo H ..
  ·intro h0 hw;refine At [90000,3456,3584,3840] ?_;try simp only[A7,A8,zC,zA,A4,C,E,F,G,I,J]
   refine Au (Z rI ([]:U W)) ?_;try simp only[A4,C,E,F,G,I,J]
   exact Wq H ..
theorem gB{rec_ a1 a2 a3 x1 v5 r9 a0 v6 r18}(H:Be rec_ a1 a2 a3 v5 r9 a0 v6 r18):∀(f:Y) (b0 b2:X) (b4 b8:X) (b13 b14:X),Aq a1 a2 a3 x1 v5 r9 a0 r18 f b0 L b2 L b4 L L T b8 L T T L b13 b14 L L (.own 90000) (.own 3200) (.own 3200) (.own 3200) (.own 3584) (.own 3584) (.own 3584) (.own 90000) (vc (.own 90000)) [(90000,1,Z (rL rI) v6),(3584,1,Z rI ([]:U W)),(3840,1,Z rI ([v5]:U W))]:=by
 obtain⟨h_rec,hg14,hg15,hg16,hg17,hr18⟩:=id H;unfold Aq B6;intro f
 induction f with
 | zero=>intros; intro h; simp at h
 | succ f ih=>
  intros;refine Ag ⟨?_,?_,?_,?_,?_,?_,?_,?_,?_,?_,?_,?_,?_,?_,?_,?_,?_,⟨⟩⟩<;>try exact gi
  ·intro h0 hw;refine At [90000,3200,3584,3840] ?_;try simp only[A7,A8,zC,zA,A4,C,E,F,G,I,J]
   refine Au (Z rI ([]:U W)) ?_;try simp only[A4,C,E,F,G,I,J]
   exact Wp H ..
  ·intro h0 hw;obtain rfl:=hq hw 4 rfl rfl;refine At [90000,3456,3584,3840] ?_;try simp only[A7,A8,zC,zA,A4,C,E,F,G,I,J]
   refine Au (Z rI ([r9]:U W)) ?_;try simp only[A4,C,E,F,G,I,J]
   exact Wq H ..
theorem B4q{rec_ a1 a2 a3 x1 v5 r9 a0 v6 r18}(H:Be rec_ a1 a2 a3 v5 r9 a0 v6 r18):∀(f:Y) (b0 b2:X) (b4 b8:X) (b10 b13 b14:X),Aq a1 a2 a3 x1 v5 r9 a0 r18 f b0 T b2 L b4 L L L b8 L b10 L L b13 b14 L L (.own 90000) (.own 3200) (.own 3200) (.own 3200) (.own 3584) (.own 3584) (.own 3584) (.own 90000) (vc (.own 90000)) [(90000,1,Z (rL rI) v6),(3200,1,Z rI ([]:U W))]:=by
 obtain⟨h_rec,hg14,hg15,hg16,hg17,hr18⟩:=id H;unfold Aq B6;intro f
 induction f with
 | zero=>intros; intro h; simp at h
 | succ f ih=>
  intros;refine Ag ⟨?_,?_,?_,?_,?_,?_,?_,?_,?_,?_,?_,?_,?_,?_,?_,?_,?_,⟨⟩⟩<;>try exact gi
  ·intro h0 hw;obtain rfl:=hq hw 2 rfl rfl;refine At [90000,3200] ?_;try simp only[hg14,A7,A8,zC,zA,A4,C,E,F,G,I,J]
   exact B4o H ..
  ·intro h0 hw;obtain rfl:=hq hw 4 rfl rfl;refine At [90000,3200,3456] ?_;try simp only[A7,A8,zC,zA,A4,C,E,F,G,I,J]
   refine Au (Z rI ([r9]:U W)) ?_;try simp only[A4,C,E,F,G,I,J]
   exact fw H ..
  ·intro h0 hw;refine At [90000,3200,3584] ?_;try simp only[A7,A8,zC,zA,A4,C,E,F,G,I,J]
   refine Au (Z rI ([]:U W)) ?_;try simp only[A4,C,E,F,G,I,J]
   exact fx H ..
  ·intro h0 hw;obtain rfl:=hq hw 10 rfl rfl;refine At [90000,3200,3840] ?_;try simp only[A7,A8,zC,zA,A4,C,E,F,G,I,J]
   refine Au (Z rI ([v5]:U W)) ?_;try simp only[A4,C,E,F,G,I,J]
   exact fy H ..
theorem B4r{rec_ a1 a2 a3 x1 v5 r9 a0 v6 r18}(H:Be rec_ a1 a2 a3 v5 r9 a0 v6 r18):∀(f:Y) (b0 b2:X) (b8 b10:X) (b13 b14:X),Aq a1 a2 a3 x1 v5 r9 a0 r18 f b0 L b2 L T T L L b8 L b10 L L b13 b14 L L (.own 90000) (.own 3200) (.own 3200) (.own 3200) (.own 3584) (.own 3584) (.own 3584) (.own 90000) (vc (.own 90000)) [(90000,1,Z (rL rI) v6),(3456,1,Z rI ([r9]:U W))]:=by
 obtain⟨h_rec,hg14,hg15,hg16,hg17,hr18⟩:=id H;unfold Aq B6;intro f
 induction f with
 | zero=>intros; intro h; simp at h
 | succ f ih=>
  intros;refine Ag ⟨?_,?_,?_,?_,?_,?_,?_,?_,?_,?_,?_,?_,?_,?_,?_,?_,?_,⟨⟩⟩<;>try exact gi
  ·intro h0 hw;refine At [90000,3200,3456] ?_;try simp only[A7,A8,zC,zA,A4,C,E,F,G,I,J]
   refine Au (Z rI ([]:U W)) ?_;try simp only[A4,C,E,F,G,I,J]
   exact fw H ..
  ·intro h0 hw;refine At [90000,3456,3584] ?_;try simp only[A7,A8,zC,zA,A4,C,E,F,G,I,J]
   refine Au (Z rI ([]:U W)) ?_;try simp only[A4,C,E,F,G,I,J]
   exact fz H ..
  ·intro h0 hw;obtain rfl:=hq hw 10 rfl rfl;refine At [90000,3456,3840] ?_;try simp only[A7,A8,zC,zA,A4,C,E,F,G,I,J]
   refine Au (Z rI ([v5]:U W)) ?_;try simp only[A4,C,E,F,G,I,J]
   exact gA H ..
theorem B4s{rec_ a1 a2 a3 x1 v5 r9 a0 v6 r18}(H:Be rec_ a1 a2 a3 v5 r9 a0 v6 r18):∀(f:Y) (b0 b2:X) (b4 b8:X) (b10 b13 b14:X),Aq a1 a2 a3 x1 v5 r9 a0 r18 f b0 L b2 L b4 L L T b8 L b10 L L b13 b14 L L (.own 90000) (.own 3200) (.own 3200) (.own 3200) (.own 3584) (.own 3584) (.own 3584) (.own 90000) (vc (.own 90000)) [(90000,1,Z (rL rI) v6),(3584,1,Z rI ([]:U W))]:=by
 obtain⟨h_rec,hg14,hg15,hg16,hg17,hr18⟩:=id H;unfold Aq B6;intro f
 induction f with
 | zero=>intros; intro h; simp at h
 | succ f ih=>
  intros;refine Ag ⟨?_,?_,?_,?_,?_,?_,?_,?_,?_,?_,?_,?_,?_,?_,?_,?_,?_,⟨⟩⟩<;>try exact gi
  ·intro h0 hw;refine At [90000,3200,3584] ?_;try simp only[A7,A8,zC,zA,A4,C,E,F,G,I,J]
   refine Au (Z rI ([]:U W)) ?_;try simp only[A4,C,E,F,G,I,J]
   exact fx H ..
  ·intro h0 hw;obtain rfl:=hq hw 4 rfl rfl;refine At [90000,3456,3584] ?_;try simp only[A7,A8,zC,zA,A4,C,E,F,G,I,J]
   refine Au (Z rI ([r9]:U W)) ?_;try simp only[A4,C,E,F,G,I,J]
   exact fz H ..
  ·intro h0 hw;obtain rfl:=hq hw 10 rfl rfl;refine At [90000,3584,3840] ?_;try simp only[A7,A8,zC,zA,A4,C,E,F,G,I,J]
   refine Au (Z rI ([v5]:U W)) ?_;try simp only[A4,C,E,F,G,I,J]
   exact gB H ..
theorem B4t{rec_ a1 a2 a3 x1 v5 r9 a0 v6 r18}(H:Be rec_ a1 a2 a3 v5 r9 a0 v6 r18):∀(f:Y) (b0 b2:X) (b4 b8:X) (b13 b14:X),Aq a1 a2 a3 x1 v5 r9 a0 r18 f b0 L b2 L b4 L L L b8 L T T L b13 b14 L L (.own 90000) (.own 3200) (.own 3200) (.own 3200) (.own 3584) (.own 3584) (.own 3584) (.own 90000) (vc (.own 90000)) [(90000,1,Z (rL rI) v6),(3840,1,Z rI ([v5]:U W))]:=by
 obtain⟨h_rec,hg14,hg15,hg16,hg17,hr18⟩:=id H;unfold Aq B6;intro f
 induction f with
 | zero=>intros; intro h; simp at h
 | succ f ih=>
  intros;refine Ag ⟨?_,?_,?_,?_,?_,?_,?_,?_,?_,?_,?_,?_,?_,?_,?_,?_,?_,⟨⟩⟩<;>try exact gi
  ·intro h0 hw;refine At [90000,3200,3840] ?_;try simp only[A7,A8,zC,zA,A4,C,E,F,G,I,J]
   refine Au (Z rI ([]:U W)) ?_;try simp only[A4,C,E,F,G,I,J]
   exact fy H ..
  ·intro h0 hw;obtain rfl:=hq hw 4 rfl rfl;refine At [90000,3456,3840] ?_;try simp only[A7,A8,zC,zA,A4,C,E,F,G,I,J]
   refine Au (Z rI ([r9]:U W)) ?_;try simp only[A4,C,E,F,G,I,J]
   exact gA H ..
  ·intro h0 hw;refine At [90000,3584,3840] ?_;try simp only[A7,A8,zC,zA,A4,C,E,F,G,I,J]
   refine Au (Z rI ([]:U W)) ?_;try simp only[A4,C,E,F,G,I,J]
   exact gB H ..
theorem B4u{rec_ a1 a2 a3 x1 v5 r9 a0 v6 r18}(H:Be rec_ a1 a2 a3 v5 r9 a0 v6 r18):∀(f:Y) (b0 b2:X) (b4 b8:X) (b10 b13 b14:X),Aq a1 a2 a3 x1 v5 r9 a0 r18 f b0 L b2 L b4 L L L b8 L b10 L L b13 b14 L L (.own 90000) (.own 3200) (.own 3200) (.own 3200) (.own 3584) (.own 3584) (.own 3584) (.own 90000) .undef [(90000,1,Z (rL rI) v6)]:=by
 obtain⟨h_rec,hg14,hg15,hg16,hg17,hr18⟩:=id H;unfold Aq B6;intro f
 induction f with
 | zero=>intros; intro h; simp at h
 | succ f ih=>
  intros;refine Ag ⟨?_,?_,?_,?_,?_,?_,?_,?_,?_,?_,?_,?_,?_,?_,?_,?_,?_,⟨⟩⟩<;>try exact gi
  ·intro h0 hw;refine At [90000,3200] ?_;try simp only[A7,A8,zC,zA,A4,C,E,F,G,I,J]
   refine Au (Z rI ([]:U W)) ?_;try simp only[A4,C,E,F,G,I,J]
   exact B4q H ..
  ·intro h0 hw;obtain rfl:=hq hw 4 rfl rfl;refine At [90000,3456] ?_;try simp only[A7,A8,zC,zA,A4,C,E,F,G,I,J]
   refine Au (Z rI ([r9]:U W)) ?_;try simp only[A4,C,E,F,G,I,J]
   exact B4r H ..
  ·intro h0 hw;refine At [90000,3584] ?_;try simp only[A7,A8,zC,zA,A4,C,E,F,G,I,J]
   refine Au (Z rI ([]:U W)) ?_;try simp only[A4,C,E,F,G,I,J]
   exact B4s H ..
  ·intro h0 hw;obtain rfl:=hq hw 10 rfl rfl;refine At [90000,3840] ?_;try simp only[A7,A8,zC,zA,A4,C,E,F,G,I,J]
   refine Au (Z rI ([v5]:U W)) ?_;try simp only[A4,C,E,F,G,I,J]
   exact B4t H ..
def lE:=fun a1 a2 a3 x1 v5 r9 (a0:X3) v6 (k_:X→V (U (U W)))=>∀{v12} {zr},k_ v12=N zr→Kh zB 206 S3 31 [1,2,3,4,5,11,12,14,31,32,33,48] [5] [90000] ⟨[pL 1 rI a1,pL 2 rI a2,pI 3 a3,pW 4 90000,pB 5,pI 11 x1,pI 12 v5,pI 14 r9,pL 31 X2.row a0.Segments,pI 32 (a0.Segments.length:W),pI 33 v5,(48,vc (aB v12))],[(5,[aM X8.row a0.Points,aM X2.row a0.Segments])],[(90000,1,Z (rL rI) v6)]⟩ (GA [10] 1 (Z (rL rI) zr))
def WU:=fun a1 a2 a3 x1 (a0:X3) (k_:W→(U (U W))→V (U (U W)))=>∀{v5 v6} {zr},k_ v5 v6=N zr→Kh zB 206 S3 16 [1,2,3,4,5,11,31,32,33] [5] [90000] ⟨[pL 1 rI a1,pL 2 rI a2,pI 3 a3,pW 4 90000,pB 5,pI 11 x1,pL 31 X2.row a0.Segments,pI 32 (a0.Segments.length:W),pI 33 v5],[(5,[aM X8.row a0.Points,aM X2.row a0.Segments])],[(90000,1,Z (rL rI) v6)]⟩ (GA [10] 1 (Z (rL rI) zr))
theorem gC{rec_:X3→(U W)→(U W)→W→(U (U W))→V (U (U W))}(h_rec:∀(a0:X3) (a1 a2:U W) (a3:W) (a4:U (U W)) zr,rec_ a0 a1 a2 a3 a4=N zr→FCt zB 206 [.d (.ag (X3.row a0)),.d (.sc (.sl (Z rI a1))),.d (.sc (.sl (Z rI a2))),.d (.sc (.int .i64 a3)),.r] 1 (Z (rL rI) a4) (Z (rL rI) zr)){a1 a2 a3 x1 v5 r9 a0 v6}{PG}(aX:WU a1 a2 a3 x1 a0 PG):lE a1 a2 a3 x1 v5 r9 a0 v6 (JN rec_ a1 a2 a3 x1 v5 r9 a0 v6 PG):=by
 intro v12 r h σ hσ S hS;refine ev hS ?_;refine As ?_;unfold JN at h;obtain⟨h13,h⟩|⟨h13,h⟩:=ic h
 ·refine sg ?_;obtain⟨h14,h⟩:=B2 h;obtain⟨h15,h⟩:=B2 h;obtain⟨h16,h⟩:=B2 h;obtain⟨h17,h⟩:=B2 h;obtain⟨r18,h18,h⟩:=ob h;refine Em (ks:= [1,2,3,4,5,11,12,14,31,32,33]) (bs:= [5]) (rs:= [90000]) (τ:=(VZ a1 a2 a3 x1 v5 r9 a0 r18)) rfl (B4u ⟨h_rec,h14,h15,h16,h17,h18⟩ _ L L L L L L L) ?_;simp only[VZ,B6,A7];refine sg ?_;exact aX h sq kr
 ·refine sg ?_;exact aX h sq kr
theorem B4v{rec_:X3→(U W)→(U W)→W→(U (U W))→V (U (U W))}(h_rec:∀(a0:X3) (a1 a2:U W) (a3:W) (a4:U (U W)) zr,rec_ a0 a1 a2 a3 a4=N zr→FCt zB 206 [.d (.ag (X3.row a0)),.d (.sc (.sl (Z rI a1))),.d (.sc (.sl (Z rI a2))),.d (.sc (.int .i64 a3)),.r] 1 (Z (rL rI) a4) (Z (rL rI) zr)){a1 a2 a3 x1 a0}{n:Y}:WU a1 a2 a3 x1 a0 (Hh rec_ a1 a2 a3 x1 a0 n):=by
 induction n with
 | zero=>intro _ _ r h; cases h
 | succ n ih=>
  intro v5 v6 r h σ hσ S hS;refine ev hS ?_;rw[Hh] at h;refine AB (As ?_);obtain⟨h7,h⟩|⟨h7,h⟩:=ic h
  ·obtain⟨x8,h8,h⟩:=ob h;obtain⟨r9,h9,h⟩:=ob h;refine sg ?_;refine AF (Ab fC h9) ?_;obtain⟨h10,h⟩|⟨h10,h⟩:=ic h
   ·obtain⟨r11,h11,h⟩:=ob h;refine sg ?_;refine AF (Ab fB h11) ?_;refine sg ?_;exact gC h_rec ih h sq kr
   ·refine sg ?_;exact gC h_rec ih h sq kr
  ·refine sg ?_;cases h;trivial
theorem rF:AE zB 206=N ((Bp zB 206 S3).strip,[10],67):=by kernel_rfl
theorem A77(rec_:X3→(U W)→(U W)→W→(U (U W))→V (U (U W)))(a0:X3)(a1 a2:U W)(a3:W)(a4:U (U W))(r:(U (U W)))(h_rec:∀(a0:X3) (a1 a2:U W) (a3:W) (a4:U (U W)) zr,rec_ a0 a1 a2 a3 a4=N zr→FCt zB 206 [.d (.ag (X3.row a0)),.d (.sc (.sl (Z rI a1))),.d (.sc (.sl (Z rI a2))),.d (.sc (.int .i64 a3)),.r] 1 (Z (rL rI) a4) (Z (rL rI) zr))(h:Ry rec_ a0 a1 a2 a3 a4=N r):FCt zB 206 [.d (.ag (X3.row a0)),.d (.sc (.sl (Z rI a1))),.d (.sc (.sl (Z rI a2))),.d (.sc (.int .i64 a3)),.r] 1 (Z (rL rI) a4) (Z (rL rI) r):=by
 unfold Ry at h;refine T7 (σ:=⟨[(0,va [aL (Z X8.row a0.Points),aL (Z X2.row a0.Segments)]),(1,vc (aL (Z rI a1))),(2,vc (aL (Z rI a2))),(3,vc (aI a3)),(4,vc (.own 90000))],[],[(90000,1,Z (rL rI) a4)]⟩) A2 rF rfl rfl ?_;refine Bt S3 ?_;have s0:= @Aw (Z rI ([]:U W));have s1:= @Aw (Z (rL rI) ([a2]:U (U W)));have k0:= @B4v;exact gc
theorem A78:∀(n:Y) (a0:X3) (a1:U W) (a2:U W) (a3:W) (a4:U (U W)) (r:(U (U W))),Hj n a0 a1 a2 a3 a4=N r→FCt zB 206 [.d (.ag (X3.row a0)),.d (.sc (.sl (Z rI a1))),.d (.sc (.sl (Z rI a2))),.d (.sc (.int .i64 a3)),.r] 1 (Z (rL rI) a4) (Z (rL rI) r):=by
 intro n
 induction n with
 | zero=>intro _ _ _ _ _ r h; cases h
 | succ n ih=>intro a0 a1 a2 a3 a4 r h; rw[Hj] at h; exact A77 (Hj n) a0 a1 a2 a3 a4 r ih h
theorem A76{a0}{a1}{a2}{a3}{a4}{r}(h:TX a0 a1 a2 a3 a4=N r):FCt zB 206 [.d (.ag (X3.row a0)),.d (.sc (.sl (Z rI a1))),.d (.sc (.sl (Z rI a2))),.d (.sc (.int .i64 a3)),.r] 1 (Z (rL rI) a4) (Z (rL rI) r):=A78 bigN a0 a1 a2 a3 a4 r h
def vB:Hw:=([],[(11,5,(O,.frz 1920))])
instance C0l:Ct 178 (∀{a0} {a1} {a2} {r},ON a0 a1 a2=N r→FC zB 178 [.ag (X3.row a0),.sc (.int .i64 a1),.sc (.int .i64 a2)] [.sc (.o 1 (Z (rL rI) r))]):=by
 refine⟨fun{a0} {a1} {a2} {r} h=> ?_⟩;unfold ON at h;refine A3 A2 vB [6] 34 ?_;intro S hS;refine ev hS ?_;obtain⟨r1,h1,h⟩:=ob h;refine sg ?_;refine AF (Ab A7x h1) ?_;obtain⟨h2,h⟩|⟨h2,h⟩:=ic h
 ·obtain⟨r3,h3,h⟩:=ob h;refine sg ?_;refine AF (Ab Gy h3) ?_;obtain⟨h4,h⟩|⟨h4,h⟩:=ic h
  ·obtain⟨r5,h5,h⟩:=ob h;refine sg ?_;refine AF (Ab Gy h5) ?_;obtain⟨h6,h⟩|⟨h6,h⟩:=ic h
   ·refine sg ?_;refine Bc (es:=Z rI ([a1]:U W)) ?_;refine sg ?_;refine Bc (es:=Z (rL rI) ([]:U (U W))) ?_;obtain⟨r7,h7,h⟩:=ob h;refine sg ?_;refine U4 (A76 h7) 2048 rfl rfl rfl rfl rfl ?_;rw[QE];refine sg ?_;cases h;exact t0
   ·refine sg ?_;cases h;exact t0
  ·refine sg ?_;cases h;exact t0
 ·refine sg ?_;cases h;exact t0
def aJ:Hw:=([(16,[2,5,11,12,13],[2],[])],[])
def kn:=fun a1 (a0:X3) (k_:W→W→V W)=>∀{v3 v4} {zr},k_ v3 v4=N zr→Kh zB 179 aJ 16 [2,5,11,12,13] [2] [] ⟨[pB 2,pI 5 v3,pL 11 rI a1,pI 12 (a1.length:W),pI 13 v4],[(2,[aM X8.row a0.Points,aM X2.row a0.Segments])],[]⟩ (A5 [4] [.sc (.v (.int .i64 zr))])
theorem B4w{a1 a0}{n:Y}:kn a1 a0 (JF a1 a0 n):=by
 induction n with
 | zero=>intro _ _ r h; cases h
 | succ n ih=>
  intro v3 v4 r h σ hσ;rw[JF] at h;exact gc
instance fA:Ct 179 (∀{a0} {a1} {r},Hd a0 a1=N r→FC zB 179 [.ag (X3.row a0),.sc (.sl (Z rI a1))] [.sc (.v (.int .i64 r))]):=by
 refine⟨fun h=> ?_⟩;unfold Hd at h;refine A3 A2 aJ [4] 34 ?_;have k0:= @B4w;exact gc
def UD:Hw:=([(10,[3,8,9,16,17,18],[3],[1024]),(23,[3,8,9,11,16,17,18,32],[3],[1024])],[(3,1,(O,.frz 768))])
def jc:=fun v2 x6 r1 v4 (a0:X3) (k_:X→X→V ((U W) × X))=>∀{v11 v12} {zr},k_ v11 v12=N zr→Kh zB 148 UD 23 [3,8,9,11,16,17,18,32] [3] [1024] ⟨[pB 3,pL 8 rI v2,(9,vc (aB v11)),pL 11 rI x6,pW 16 1024,pI 17 (r1.length:W),pI 18 v4,(32,vc (aB v12))],[(3,[aM X8.row a0.Points,aM X2.row a0.Segments])],[(1024,1,Z (rL rI) r1)]⟩ (A5 [6,7] [.sc (.v (.sl (Z rI zr.1))),.sc (.v (.bool zr.2))])
def WL:=fun r1 (a0:X3) (k_:(U W)→X→W→V ((U W) × X))=>∀{v2 v3 v4} {zr},k_ v2 v3 v4=N zr→Kh zB 148 UD 10 [3,8,9,16,17,18] [3] [1024] ⟨[pB 3,pL 8 rI v2,(9,vc (aB v3)),pW 16 1024,pI 17 (r1.length:W),pI 18 v4],[(3,[aM X8.row a0.Points,aM X2.row a0.Segments])],[(1024,1,Z (rL rI) r1)]⟩ (A5 [6,7] [.sc (.v (.sl (Z rI zr.1))),.sc (.v (.bool zr.2))])
theorem gD{v2 x6 r1 v4 a0}{PA}(vL:WL r1 a0 PA):jc v2 x6 r1 v4 a0 (Lv v2 x6 r1 v4 a0 PA):=by
 intro v11 v12 r h σ hσ;unfold Lv at h;have k0:= @vL;exact gc
theorem B4x{r1 a0}{n:Y}:WL r1 a0 (FU r1 a0 n):=by
 induction n with
 | zero=>intro _ _ _ r h; cases h
 | succ n ih=>
  intro v2 v3 v4 r h σ hσ S hS;refine ev hS ?_;rw[FU] at h;refine AB (As ?_);obtain⟨h5,h⟩|⟨h5,h⟩:=ic h
  ·obtain⟨x6,h6,h⟩:=ob h;have h6n:=Am h6;refine sg ?_;obtain⟨h7,h⟩|⟨h7,h⟩:=ic h
   ·obtain⟨r9,h9,h⟩:=ob h;refine sg ?_;refine D6 (Ab fA h9) ?_;obtain⟨r10,h10,h⟩:=ob h;refine sg ?_;refine Pf (by first | rfl | kernel_rfl) ?_;refine AF (Ab fA h10) ?_;refine sg ?_;exact gD ih h sq kr
   ·refine sg ?_;refine Pe (by first | rfl | kernel_rfl) rfl ?_;refine sg ?_;exact gD ih h sq kr
  ·obtain⟨h14,h⟩|⟨h14,h⟩:=ic h
   ·refine sg ?_;cases h;trivial
   ·refine sg ?_;cases h;trivial
instance B9q:Ct 148 (∀{a0} {a1} {a2} {r},Oo a0 a1 a2=N r→FC zB 148 [.ag (X3.row a0),.sc (.int .i64 a1),.sc (.int .i64 a2)] [.sc (.v (.sl (Z rI r.1))),.sc (.v (.bool r.2))]):=by
 refine⟨fun h=> ?_⟩;unfold Oo at h;refine A3 A2 UD [6,7] 38 ?_;have s0:= @Aw (Z rI ([]:U W));have k0:= @B4x;exact gc
instance C01:Ct 230 (∀{a0} {a1} {a2} {r},JO a0 a1 a2=N r→FC zB 230 [.ag (X3.row a0),.sc (.int .i64 a1),.ag (X4.row a2)] [.sc (.v (.bool r))]):=by
 refine⟨fun h=> ?_⟩;unfold JO at h;refine A3 A2 h0 [6] 21 ?_;exact gc
instance C0p:Ct 258 (∀{a0} {r},Rx a0=N r→FC zB 258 [.ag (X4.row a0)] [.sc (.v (.int .i64 r))]):=by
 refine⟨fun h=> ?_⟩;unfold Rx at h;refine A3 A2 h0 [2] 14 ?_;exact gc
instance C0a:Ct 249 (∀{a0} {r},Ru a0=N r→FC zB 249 [.ag (X4.row a0)] [.sc (.v (.int .i64 r))]):=by
 refine⟨fun h=> ?_⟩;unfold Ru at h;refine A3 A2 h0 [2] 12 ?_;exact gc
instance B98:Ct 233 (∀{a0} {a1} {a2} {r},OE a0 a1 a2=N r→FC zB 233 [.ag (X3.row a0),.sc (.int .i64 a1),.ag (X4.row a2)] [.sc (.v (.int .i64 r))]):=by
 refine⟨fun h=> ?_⟩;unfold OE at h;refine A3 A2 h0 [6] 21 ?_;exact gc
def aK:Hw:=([(8,[1,4,5,13,14,15],[4,5],[])],[])
def kz:=fun a1 (a0:Xe) (k_:W→W→W→W→V Xa)=>∀{v2 v3 v4 v5} {zr},k_ v2 v3 v4 v5=N zr→Kh zB 246 aK 8 [1,4,5,13,14,15] [4,5] [] ⟨[pI 1 a1,pB 4,pB 5,pL 13 zE a0.Surges,pI 14 (a0.Surges.length:W),pI 15 v2],[(4,[aI (0:W),aI (0:W),aI (0:W)]),(5,[aI v3,aI v4,aI v5])],[]⟩ (A5 [.c 4 T 3] [.ag [.v (.int .i64 zr.From),.v (.int .i64 zr.Low),.v (.int .i64 zr.High)]])
theorem B4z{a1 a0}{n:Y}:kz a1 a0 (G2 a1 a0 n):=by
 induction n with
 | zero=>intro _ _ _ _ r h; cases h
 | succ n ih=>
  intro v2 v3 v4 v5 r h σ hσ;rw[G2] at h;exact gc
instance C0w:Ct 246 (∀{a0} {a1} {r},JK a0 a1=N r→FC zB 246 [.ag (Xe.row a0),.sc (.int .i64 a1)] [.ag [.v (.int .i64 r.From),.v (.int .i64 r.Low),.v (.int .i64 r.High)]]):=by
 refine⟨fun h=> ?_⟩;unfold JK at h;refine A3 A2 aK [.c 4 T 3] 26 ?_;have k0:= @B4z;exact gc
def aN:Hw:=([(18,[1,5],[],[])],[])
def kw:=fun a1 (k_:W→V W)=>∀{v6} {zr},k_ v6=N zr→Kh zB 257 aN 18 [1,5] [] [] ⟨[pI 1 a1,pI 5 v6],[],[]⟩ (A5 [4] [.sc (.v (.int .i64 zr))])
theorem B40{a1}:kw a1 (OT a1):=by
 intro v6 r h σ hσ;unfold OT at h;exact gc
instance C0t:Ct 257 (∀{a0} {a1} {r},OS a0 a1=N r→FC zB 257 [.sc (.int .i64 a0),.sc (.int .i64 a1)] [.sc (.v (.int .i64 r))]):=by
 refine⟨fun h=> ?_⟩;unfold OS at h;refine A3 A2 aN [4] 55 ?_;have k0:= @B40;exact gc
def aO:Hw:=([(8,[1,5,11,12,13],[],[])],[])
def ky:=fun a1 (a0:Xn) (k_:W→W→V W)=>∀{v1 v2} {zr},k_ v1 v2=N zr→Kh zB 247 aO 8 [1,5,11,12,13] [] [] ⟨[pI 1 a1,pI 5 v1,pL 11 zD a0.Parts,pI 12 (a0.Parts.length:W),pI 13 v2],[],[]⟩ (A5 [4] [.sc (.v (.int .i64 zr))])
theorem B41{a1 a0}{n:Y}:ky a1 a0 (JJ a1 a0 n):=by
 induction n with
 | zero=>intro _ _ r h; cases h
 | succ n ih=>
  intro v1 v2 r h σ hσ;rw[JJ] at h;exact gc
instance C0v:Ct 247 (∀{a0} {a1} {r},LN a0 a1=N r→FC zB 247 [.ag (Xn.row a0),.sc (.int .i64 a1)] [.sc (.v (.int .i64 r))]):=by
 refine⟨fun h=> ?_⟩;unfold LN at h;refine A3 A2 aO [4] 32 ?_;have k0:= @B41;exact gc
end Go.Vi
