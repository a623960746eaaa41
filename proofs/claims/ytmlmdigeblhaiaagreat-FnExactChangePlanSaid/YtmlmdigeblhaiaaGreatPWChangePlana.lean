/-
Walks. No condition.
-/
import Derived.Test.YtmlmdigeblhaiaaGreatPNf
import Derived.Test.YtmlmdigeblhaiaaGreatChecked
import Derived.Test.YtmlmdigeblhaiaaGreatPVi49
import Derived.KernelRfl
namespace Go.Vi
open Go.Proofs
set_option linter.all false
set_option maxRecDepth 4000
set_option maxHeartbeats 2000000
open Nat renaming reduceBEq → C, reduceMul → E, reduceAdd → F, reduceDiv → G, le_of_ble_eq_true → uf
open Int renaming reduceBEq → I
attribute [local irreducible] go B0 Gz
open Tryz renaming prog → X
open List renaming map → Y, all_eq_true → J
open Xc renaming row → Z
open Xd renaming row → zA
open Bool renaming true → T, false → L
open Option renaming some → N
open _root_ renaming List → O, Option → P, Int → Q, Bool → V, Nat → W
def A2:Tryz.prog.follows .mixedOrders=T:=by kernel_rfl
instance B9z:Ct 103 (∀{a0} {a1} {r},Oh a0 a1=N r->FC X 103 [.sc (.sl (Y Z a0)),.sc (.int .i64 a1)] [.sc (.v (.int .i64 r))]):=by
 refine⟨fun h=> ?_⟩;unfold Oh at h;refine A3 A2 h0 [4] 12 ?_;exact gc
instance B97:Ct 56 (∀{a0} {a1} {r},Rx a0 a1=N r->FC X 56 [.ag (Xm.row a0),.sc (.int .i64 a1)] [.sc (.v (.int .i64 r))]):=by
 refine⟨fun h=> ?_⟩;unfold Rx at h;refine A3 A2 h0 [4] 12 ?_;exact gc
instance B96:Ct 57 (∀{a0} {a1} {r},Oo a0 a1=N r->FC X 57 [.sc (.sl (Y X9.row a0)),.sc (.int .i64 a1)] [.sc (.v (.int .i64 r))]):=by
 refine⟨fun h=> ?_⟩;unfold Oo at h;refine A3 A2 h0 [4] 12 ?_;exact gc
instance B9w:Ct 19 (∀{a0} {a1} {r},Oe a0 a1=N r->FC X 19 [.ag (zA a0),.sc (.int .i64 a1)] [.sc (.v (.int .i64 r))]):=by
 refine⟨fun h=> ?_⟩;unfold Oe at h;refine A3 A2 h0 [4] 18 ?_;exact gc
instance B91:Ct 104 (∀{a0} {a1} {r},Oi a0 a1=N r->FC X 104 [.ag (X7.row a0),.sc (.int .i64 a1)] [.sc (.v (.int .i64 r))]):=by
 refine⟨fun h=> ?_⟩;unfold Oi at h;refine A3 A2 h0 [4] 13 ?_;exact gc
def Zl:Hw:=([(16,[0,1,5],[],[])],[])
def ki:=fun a0 (k_:Q->Q->P Q)=>∀{v2 v3} {zr},k_ v2 v3=N zr->Kh X 58 Zl 16 [0,1,5] [] [] ⟨[pL 0 X7.row a0,pI 1 v2,pI 5 v3],[],[]⟩ (A5 [4] [.sc (.v (.int .i64 zr))])
def ww1{a0}{n:W}:ki a0 (Hg a0 n):=by
 induction n with
 | zero=>intro _ _ r h; cases h
 | succ n ih=>
  intro v2 v3 r h M hσ;rw[Hg] at h;exact gc
instance B92:Ct 58 (∀{a0} {a1} {r},Oj a0 a1=N r->FC X 58 [.sc (.sl (Y X7.row a0)),.sc (.int .i64 a1)] [.sc (.v (.int .i64 r))]):=by
 refine⟨fun h=> ?_⟩;unfold Oj at h;refine A3 A2 Zl [4] 27 ?_;have k0:= @ww1;exact gc
instance B93:Ct 59 (∀{a0} {a1} {r},Ol a0 a1=N r->FC X 59 [.sc (.sl (Y X2.row a0)),.sc (.int .i64 a1)] [.sc (.v (.int .i64 r))]):=by
 refine⟨fun h=> ?_⟩;unfold Ol at h;refine A3 A2 h0 [4] 12 ?_;exact gc
instance B9u:Ct 20 (∀{a0} {a1} {r},Od a0 a1=N r->FC X 20 [.ag (X4.row a0),.sc (.int .i64 a1)] [.sc (.v (.int .i64 r))]):=by
 refine⟨fun h=> ?_⟩;unfold Od at h;refine A3 A2 h0 [4] 18 ?_;exact gc
instance B94:Ct 60 (∀{a0} {a1} {r},Om a0 a1=N r->FC X 60 [.ag (X5.row a0),.sc (.int .i64 a1)] [.sc (.v (.int .i64 r))]):=by
 refine⟨fun h=> ?_⟩;unfold Om at h;refine A3 A2 h0 [4] 13 ?_;exact gc
def F3:Hw:=([(16,[0,1,5],[],[])],[])
def kj:=fun a0 (k_:Q->Q->P Q)=>∀{v2 v3} {zr},k_ v2 v3=N zr->Kh X 21 F3 16 [0,1,5] [] [] ⟨[pL 0 X5.row a0,pI 1 v2,pI 5 v3],[],[]⟩ (A5 [4] [.sc (.v (.int .i64 zr))])
def ww3{a0}{n:W}:kj a0 (Hh a0 n):=by
 induction n with
 | zero=>intro _ _ r h; cases h
 | succ n ih=>
  intro v2 v3 r h M hσ;rw[Hh] at h;exact gc
instance B95:Ct 21 (∀{a0} {a1} {r},On a0 a1=N r->FC X 21 [.sc (.sl (Y X5.row a0)),.sc (.int .i64 a1)] [.sc (.v (.int .i64 r))]):=by
 refine⟨fun h=> ?_⟩;unfold On at h;refine A3 A2 F3 [4] 27 ?_;have k0:= @ww3;exact gc
instance B9x:Ct 61 (∀{a0} {a1} {r},Of a0 a1=N r->FC X 61 [.sc (.sl (Y rI a0)),.sc (.int .i64 a1)] [.sc (.v (.int .i64 r))]):=by
 refine⟨fun h=> ?_⟩;unfold Of at h;refine A3 A2 h0 [4] 12 ?_;exact gc
instance B9v:Ct 22 (∀{a0} {a1} {r},Rv a0 a1=N r->FC X 22 [.ag (Xn.row a0),.sc (.int .i64 a1)] [.sc (.v (.int .i64 r))]):=by
 refine⟨fun h=> ?_⟩;unfold Rv at h;refine A3 A2 h0 [4] 12 ?_;exact gc
def A8o{a0}{a1}{r}(h:Jj a0 a1=N r):FC X 4 [.ag (X3.row a0),.sc (.int .i64 a1)] [.sc (.v (.int .i64 r))]:=by
 unfold Jj at h;refine A3 A2 h0 [4] 30 ?_;exact gc
def A8n{a0}{a1}{r}(h:Ji a0 a1=N r):FC X 5 [.sc (.sl (Y X8.row a0)),.sc (.int .i64 a1)] [.sc (.v (.int .i64 r))]:=by
 unfold Ji at h;refine A3 A2 h0 [4] 12 ?_;exact gc
instance B90:Ct 62 (∀{a0} {a1} {r},Rw a0 a1=N r->FC X 62 [.sc (.sl (Y X1.row a0)),.sc (.int .i64 a1)] [.sc (.v (.int .i64 r))]):=by
 refine⟨fun h=> ?_⟩;unfold Rw at h;refine A3 A2 h0 [4] 12 ?_;exact gc
instance B9y:Ct 23 (∀{a0} {a1} {r},Og a0 a1=N r->FC X 23 [.ag (X0.row a0),.sc (.int .i64 a1)] [.sc (.v (.int .i64 r))]):=by
 refine⟨fun h=> ?_⟩;unfold Og at h;refine A3 A2 h0 [4] 12 ?_;exact gc
def aR:Hw:=([(16,[0,1,5],[],[])],[])
def kh:=fun a0 (k_:Q->Q->P Q)=>∀{v2 v3} {zr},k_ v2 v3=N zr->Kh X 6 aR 16 [0,1,5] [] [] ⟨[pL 0 X0.row a0,pI 1 v2,pI 5 v3],[],[]⟩ (A5 [4] [.sc (.v (.int .i64 zr))])
def ww5{a0}{n:W}:kh a0 (Hf a0 n):=by
 induction n with
 | zero=>intro _ _ r h; cases h
 | succ n ih=>
  intro v2 v3 r h M hσ;rw[Hf] at h;exact gc
def A8p{a0}{a1}{r}(h:Jk a0 a1=N r):FC X 6 [.sc (.sl (Y X0.row a0)),.sc (.int .i64 a1)] [.sc (.v (.int .i64 r))]:=by
 unfold Jk at h;refine A3 A2 aR [4] 27 ?_;have k0:= @ww5;exact gc
instance C0d:Ct 168 (∀{a0} {r},RA a0=N r->FC X 168 [.ag (Z a0)] [.ag [.v (.int .i64 r.Amp),.v (.int .i64 r.Period),.v (.int .i64 r.Phase)]]):=by
 refine⟨fun h=> ?_⟩;unfold RA at h;refine A3 A2 h0 [.c 2 T 3] 14 ?_;exact gc
def ae:Hw:=([(8,[0,3,4],[],[448])],[])
def ko:=fun a0 (k_:Q->(O Xc)->P (O Xc))=>∀{v2 v3} {zr},k_ v2 v3=N zr->Kh X 119 ae 8 [0,3,4] [] [448] ⟨[pL 0 Z a0,pW 3 448,pI 4 v2],[],[(448,3,Y Z v3)]⟩ (A5 [2] [.sc (.o 3 (Y Z zr))])
def ww7{a0}{n:W}:ko a0 (Jo a0 n):=by
 induction n with
 | zero=>intro _ _ r h; cases h
 | succ n ih=>
  intro v2 v3 r h M hσ;rw[Jo] at h;have s0:=fun(r6:Xc)=> @EA _ Z r6
  exact gc
instance C0e:Ct 119 (∀{a0} {r},Ow a0=N r->FC X 119 [.sc (.sl (Y Z a0))] [.sc (.o 3 (Y Z r))]):=by
 refine⟨fun h=> ?_⟩;unfold Ow at h;refine A3 A2 ae [2] 23 ?_;have s0:= @DR _ Z (⟨(0:Q),(0:Q),(0:Q)⟩:Xc);have k0:= @ww7;exact gc
instance C0q:Ct 73 (∀{a0} {r},RI a0=N r->FC X 73 [.ag (Xm.row a0)] [.ag [.v (.int .i64 r.Mean),.o 3 (Y Z r.Parts)]]):=by
 refine⟨fun h=> ?_⟩;unfold RI at h;refine A3 A2 h0 [.c 2 T 2] 12 ?_;exact gc
instance C0o:Ct 120 (∀{a0} {r},RH a0=N r->FC X 120 [.ag (X9.row a0)] [.ag [.v (.int .i64 r.From),.v (.int .i64 r.Low),.v (.int .i64 r.High)]]):=by
 refine⟨fun h=> ?_⟩;unfold RH at h;refine A3 A2 h0 [.c 2 T 3] 14 ?_;exact gc
def ar:Hw:=([(8,[0,3,4],[],[448])],[])
def kx:=fun a0 (k_:Q->(O X9)->P (O X9))=>∀{v2 v3} {zr},k_ v2 v3=N zr->Kh X 74 ar 8 [0,3,4] [] [448] ⟨[pL 0 X9.row a0,pW 3 448,pI 4 v2],[],[(448,3,Y X9.row v3)]⟩ (A5 [2] [.sc (.o 3 (Y X9.row zr))])
def ww9{a0}{n:W}:kx a0 (Jt a0 n):=by
 induction n with
 | zero=>intro _ _ r h; cases h
 | succ n ih=>
  intro v2 v3 r h M hσ;rw[Jt] at h;have s0:=fun(r6:X9)=> @EA _ X9.row r6
  exact gc
instance C0p:Ct 74 (∀{a0} {r},OB a0=N r->FC X 74 [.sc (.sl (Y X9.row a0))] [.sc (.o 3 (Y X9.row r))]):=by
 refine⟨fun h=> ?_⟩;unfold OB at h;refine A3 A2 ar [2] 23 ?_;have s0:= @DR _ X9.row (⟨(0:Q),(0:Q),(0:Q)⟩:X9);have k0:= @ww9;exact gc
instance C0b:Ct 29 (∀{a0} {r},Ot a0=N r->FC X 29 [.ag (zA a0)] [.ag [.v (.int .i64 r.Tide.Mean),.o 3 (Y Z r.Tide.Parts),.o 3 (Y X9.row r.Surges)]]):=by
 refine⟨fun h=> ?_⟩;unfold Ot at h;refine A3 A2 h0 [.c 2 T 3] 13 ?_;exact gc
instance C0h:Ct 121 (∀{a0} {r},RD a0=N r->FC X 121 [.ag (X7.row a0)] [.ag [.v (.str r.Name),.v (.bool r.Wait)]]):=by
 refine⟨fun h=> ?_⟩;unfold RD at h;refine A3 A2 h0 [.c 2 T 2] 11 ?_;exact gc
def Zm:Hw:=([(8,[0,3,4],[],[448])],[])
def ku:=fun a0 (k_:Q->(O X7)->P (O X7))=>∀{v2 v3} {zr},k_ v2 v3=N zr->Kh X 75 Zm 8 [0,3,4] [] [448] ⟨[pL 0 X7.row a0,pW 3 448,pI 4 v2],[],[(448,2,Y X7.row v3)]⟩ (A5 [2] [.sc (.o 2 (Y X7.row zr))])
def A97{a0}{n:W}:ku a0 (Jq a0 n):=by
 induction n with
 | zero=>intro _ _ r h; cases h
 | succ n ih=>
  intro v2 v3 r h M hσ;rw[Jq] at h;have s0:=fun(r6:X7)=> @EA _ X7.row r6
  exact gc
instance C0i:Ct 75 (∀{a0} {r},Oy a0=N r->FC X 75 [.sc (.sl (Y X7.row a0))] [.sc (.o 2 (Y X7.row r))]):=by
 refine⟨fun h=> ?_⟩;unfold Oy at h;refine A3 A2 Zm [2] 23 ?_;have s0:= @DR _ X7.row (⟨([]:O UInt8),L⟩:X7);have k0:= @A97;exact gc
instance C0k:Ct 122 (∀{a0} {r},RF a0=N r->FC X 122 [.ag (X2.row a0)] [.ag [.v (.int .i64 r.A),.v (.int .i64 r.B),.v (.int .i64 r.Depth),.v (.int .i64 r.Minutes),.v (.bool r.Meet)]]):=by
 refine⟨fun h=> ?_⟩;unfold RF at h;refine A3 A2 h0 [.c 2 T 5] 20 ?_;exact gc
def Zn:Hw:=([(8,[0,3,4],[],[448])],[])
def kv:=fun a0 (k_:Q->(O X2)->P (O X2))=>∀{v2 v3} {zr},k_ v2 v3=N zr->Kh X 76 Zn 8 [0,3,4] [] [448] ⟨[pL 0 X2.row a0,pW 3 448,pI 4 v2],[],[(448,5,Y X2.row v3)]⟩ (A5 [2] [.sc (.o 5 (Y X2.row zr))])
def B0f{a0}{n:W}:kv a0 (Jr a0 n):=by
 induction n with
 | zero=>intro _ _ r h; cases h
 | succ n ih=>
  intro v2 v3 r h M hσ;rw[Jr] at h;have s0:=fun(r6:X2)=> @EA _ X2.row r6
  exact gc
instance C0l:Ct 76 (∀{a0} {r},Oz a0=N r->FC X 76 [.sc (.sl (Y X2.row a0))] [.sc (.o 5 (Y X2.row r))]):=by
 refine⟨fun h=> ?_⟩;unfold Oz at h;refine A3 A2 Zn [2] 23 ?_;have s0:= @DR _ X2.row (⟨(0:Q),(0:Q),(0:Q),(0:Q),L⟩:X2);have k0:= @B0f;exact gc
instance B99:Ct 30 (∀{a0} {r},Oq a0=N r->FC X 30 [.ag (X4.row a0)] [.ag [.o 2 (Y X7.row r.Points),.o 5 (Y X2.row r.Segments)]]):=by
 refine⟨fun h=> ?_⟩;unfold Oq at h;refine A3 A2 h0 [.c 2 T 2] 13 ?_;exact gc
instance C0m:Ct 77 (∀{a0} {r},RG a0=N r->FC X 77 [.ag (X5.row a0)] [.ag [.v (.str r.Name),.v (.int .i64 r.Length),.v (.int .i64 r.Draught),.v (.int .i64 r.Line),.v (.int .i64 r.Tugs),.v (.bool r.Slow)]]):=by
 refine⟨fun h=> ?_⟩;unfold RG at h;refine A3 A2 h0 [.c 2 T 6] 23 ?_;exact gc
def Zo:Hw:=([(8,[0,3,4],[],[448])],[])
def kw:=fun a0 (k_:Q->(O X5)->P (O X5))=>∀{v2 v3} {zr},k_ v2 v3=N zr->Kh X 31 Zo 8 [0,3,4] [] [448] ⟨[pL 0 X5.row a0,pW 3 448,pI 4 v2],[],[(448,6,Y X5.row v3)]⟩ (A5 [2] [.sc (.o 6 (Y X5.row zr))])
def B0p{a0}{n:W}:kw a0 (Js a0 n):=by
 induction n with
 | zero=>intro _ _ r h; cases h
 | succ n ih=>
  intro v2 v3 r h M hσ;rw[Js] at h;have s0:=fun(r6:X5)=> @EA _ X5.row r6
  exact gc
instance C0n:Ct 31 (∀{a0} {r},OA a0=N r->FC X 31 [.sc (.sl (Y X5.row a0))] [.sc (.o 6 (Y X5.row r))]):=by
 refine⟨fun h=> ?_⟩;unfold OA at h;refine A3 A2 Zo [2] 23 ?_;have s0:= @DR _ X5.row (⟨([]:O UInt8),(0:Q),(0:Q),(0:Q),(0:Q),L⟩:X5);have k0:= @B0p;exact gc
instance C0j:Ct 32 (∀{a0} {r},RE a0=N r->FC X 32 [.ag (Xi.row a0)] [.ag [.v (.int .i64 r.Gap),.v (.bool r.NoMeet)]]):=by
 refine⟨fun h=> ?_⟩;unfold RE at h;refine A3 A2 h0 [.c 2 T 2] 11 ?_;exact gc
def Zr:Hw:=([(8,[0,3,4],[],[448])],[])
def kn:=fun a0 (k_:Q->(O Q)->P (O Q))=>∀{v2 v3} {zr},k_ v2 v3=N zr->Kh X 78 Zr 8 [0,3,4] [] [448] ⟨[pL 0 rI a0,pW 3 448,pI 4 v2],[],[(448,1,Y rI v3)]⟩ (A5 [2] [.sc (.o 1 (Y rI zr))])
def B02{a0}{n:W}:kn a0 (Jm a0 n):=by
 induction n with
 | zero=>intro _ _ r h; cases h
 | succ n ih=>
  intro v2 v3 r h M hσ;rw[Jm] at h;have s0:=fun(x5:Q)=> @EA _ rI x5
  exact gc
instance C0c:Ct 78 (∀{a0} {r},Ou a0=N r->FC X 78 [.sc (.sl (Y rI a0))] [.sc (.o 1 (Y rI r))]):=by
 refine⟨fun h=> ?_⟩;unfold Ou at h;refine A3 A2 Zr [2] 22 ?_;have s0:= @DR _ rI (0:Q);have k0:= @B02;exact gc
instance C0a:Ct 33 (∀{a0} {r},Rz a0=N r->FC X 33 [.ag (Xn.row a0)] [.ag [.v (.int .i64 r.Tugs),.v (.int .i64 r.Pilots),.v (.int .i64 r.Rest),.o 1 (Y rI r.Moves)]]):=by
 refine⟨fun h=> ?_⟩;unfold Rz at h;refine A3 A2 h0 [.c 2 T 4] 18 ?_;exact gc
def Te{a0}{r}(h:EW a0=N r):FC X 8 [.ag (X3.row a0)] [.ag [.v (.int .i64 r.Forecast.Tide.Mean),.o 3 (Y Z r.Forecast.Tide.Parts),.o 3 (Y X9.row r.Forecast.Surges),.o 2 (Y X7.row r.Chart.Points),.o 5 (Y X2.row r.Chart.Segments),.o 6 (Y X5.row r.Fleet),.v (.int .i64 r.Regime.Gap),.v (.bool r.Regime.NoMeet),.v (.int .i64 r.Crew.Tugs),.v (.int .i64 r.Crew.Pilots),.v (.int .i64 r.Crew.Rest),.o 1 (Y rI r.Crew.Moves)]]:=by
 unfold EW at h;refine A3 A2 h0 [.c 2 T 12] 25 ?_;exact gc
instance B98:Ct 34 (∀{a0} {r},Ry a0=N r->FC X 34 [.ag (X8.row a0)] [.ag [.v (.int .i64 r.Ship),.v (.int .i64 r.From),.v (.int .i64 r.To),.v (.int .i64 r.Ready),.v (.int .i64 r.Due)]]):=by
 refine⟨fun h=> ?_⟩;unfold Ry at h;refine A3 A2 h0 [.c 2 T 5] 20 ?_;exact gc
def Zv:Hw:=([(8,[0,3,4],[],[448])],[])
def kk:=fun a0 (k_:Q->(O X8)->P (O X8))=>∀{v2 v3} {zr},k_ v2 v3=N zr->Kh X 9 Zv 8 [0,3,4] [] [448] ⟨[pL 0 X8.row a0,pW 3 448,pI 4 v2],[],[(448,5,Y X8.row v3)]⟩ (A5 [2] [.sc (.o 5 (Y X8.row zr))])
def B1f{a0}{n:W}:kk a0 (Jl a0 n):=by
 induction n with
 | zero=>intro _ _ r h; cases h
 | succ n ih=>
  intro v2 v3 r h M hσ;rw[Jl] at h;have s0:=fun(r6:X8)=> @EA _ X8.row r6
  exact gc
def Td{a0}{r}(h:EV a0=N r):FC X 9 [.sc (.sl (Y X8.row a0))] [.sc (.o 5 (Y X8.row r))]:=by
 unfold EV at h;refine A3 A2 Zv [2] 23 ?_;have s0:= @DR _ X8.row (⟨(0:Q),(0:Q),(0:Q),(0:Q),(0:Q)⟩:X8);have k0:= @B1f;exact gc
instance C0f:Ct 123 (∀{a0} {r},RB a0=N r->FC X 123 [.ag (X1.row a0)] [.ag [.v (.int .i64 r.Ship),.v (.int .i64 r.Segment),.v (.bool r.Toward),.v (.int .i64 r.Start),.v (.int .i64 r.End)]]):=by
 refine⟨fun h=> ?_⟩;unfold RB at h;refine A3 A2 h0 [.c 2 T 5] 20 ?_;exact gc
def Zz:Hw:=([(8,[0,3,4],[],[448])],[])
def kq:=fun a0 (k_:Q->(O X1)->P (O X1))=>∀{v2 v3} {zr},k_ v2 v3=N zr->Kh X 79 Zz 8 [0,3,4] [] [448] ⟨[pL 0 X1.row a0,pW 3 448,pI 4 v2],[],[(448,5,Y X1.row v3)]⟩ (A5 [2] [.sc (.o 5 (Y X1.row zr))])
def B1v{a0}{n:W}:kq a0 (Jp a0 n):=by
 induction n with
 | zero=>intro _ _ r h; cases h
 | succ n ih=>
  intro v2 v3 r h M hσ;rw[Jp] at h;have s0:=fun(r6:X1)=> @EA _ X1.row r6
  exact gc
instance C0g:Ct 79 (∀{a0} {r},Ox a0=N r->FC X 79 [.sc (.sl (Y X1.row a0))] [.sc (.o 5 (Y X1.row r))]):=by
 refine⟨fun h=> ?_⟩;unfold Ox at h;refine A3 A2 Zz [2] 23 ?_;have s0:= @DR _ X1.row (⟨(0:Q),(0:Q),L,(0:Q),(0:Q)⟩:X1);have k0:= @B1v;exact gc
instance A8q:Ct 35 (∀{a0} {r},Ov a0=N r->FC X 35 [.ag (X0.row a0)] [.ag [.v (.int .i64 r.Start),.v (.int .i64 r.Arrival),.v (.int .i64 r.Cost),.o 5 (Y X1.row r.Passages)]]):=by
 refine⟨fun h=> ?_⟩;unfold Ov at h;refine A3 A2 h0 [.c 2 T 4] 18 ?_;exact gc
instance GP:Ct 25 (∀{a0} {a1} {a2} {r},Ay a0 a1 a2=N r->FC X 25 [.sc (.int .i64 a0),.sc (.int .i64 a1),.sc (.int .i64 a2)] [.sc (.v (.bool r))]):=by
 refine⟨fun h=> ?_⟩;unfold Ay at h;refine A3 A2 h0 [6] 15 ?_;exact gc
instance C1e:Ct 188 (∀{a0} {r},P0 a0=N r->FC X 188 [.ag (Z a0)] [.sc (.v (.bool r))]):=by
 refine⟨fun h=> ?_⟩;unfold P0 at h;refine A3 A2 h0 [2] 25 ?_;exact gc
def ZH:Hw:=([(14,[16,17,18],[],[])],[])
def lz:=fun(a0:Xm) (k_:Q->P V)=>∀{v4} {zr},k_ v4=N zr->Kh X 145 ZH 14 [16,17,18] [] [] ⟨[pL 16 Z a0.Parts,pI 17 (a0.Parts.length:Q),pI 18 v4],[],[]⟩ (A5 [2] [.sc (.v (.bool zr))])
def B2i{a0}{n:W}:lz a0 (JT a0 n):=by
 induction n with
 | zero=>intro _ r h; cases h
 | succ n ih=>
  intro v4 r h M hσ;rw[JT] at h;exact gc
instance C1s:Ct 145 (∀{a0} {r},Pc a0=N r->FC X 145 [.ag (Xm.row a0)] [.sc (.v (.bool r))]):=by
 refine⟨fun h=> ?_⟩;unfold Pc at h;refine A3 A2 ZH [2] 26 ?_;have k0:= @B2i;exact gc
instance C1r:Ct 146 (∀{a0} {r},Pb a0=N r->FC X 146 [.ag (X9.row a0)] [.sc (.v (.bool r))]):=by
 refine⟨fun h=> ?_⟩;unfold Pb at h;refine A3 A2 h0 [2] 18 ?_;exact gc
def ZP:Hw:=([(14,[1,25,26,27],[1],[])],[])
def lR:=fun(a0:Xd) (k_:Q->P V)=>∀{v7} {zr},k_ v7=N zr->Kh X 105 ZP 14 [1,25,26,27] [1] [] ⟨[pB 1,pL 25 X9.row a0.Surges,pI 26 (a0.Surges.length:Q),pI 27 v7],[(1,[aI a0.Tide.Mean,aM Z a0.Tide.Parts,aM X9.row a0.Surges])],[]⟩ (A5 [2] [.sc (.v (.bool zr))])
def B2t{a0}{n:W}:lR a0 (Hm a0 n):=by
 induction n with
 | zero=>intro _ r h; cases h
 | succ n ih=>
  intro v7 r h M hσ;rw[Hm] at h;exact gc
instance C01:Ct 105 (∀{a0} {r},JE a0=N r->FC X 105 [.ag (zA a0)] [.sc (.v (.bool r))]):=by
 refine⟨fun h=> ?_⟩;unfold JE at h;refine A3 A2 ZP [2] 52 ?_;have k0:= @B2t;exact gc
def Sg:Hw:=([(6,[0,3],[],[]),(17,[0,3,4],[],[]),(24,[0,3],[],[])],[])
def lW:=fun a0 v1 (k_:P V)=>∀{zr},k_=N zr->Kh X 147 Sg 24 [0,3] [] [] ⟨[(0,vc (aS a0)),pI 3 v1],[],[]⟩ (A5 [2] [.sc (.v (.bool zr))])
def lV:=fun a0 v1 (k_:V->P V)=>∀{v5} {zr},k_ v5=N zr->Kh X 147 Sg 17 [0,3,4] [] [] ⟨[(0,vc (aS a0)),pI 3 v1,(4,vc (aB v5))],[],[]⟩ (A5 [2] [.sc (.v (.bool zr))])
def Tq:=fun a0 (k_:Q->P V)=>∀{v1} {zr},k_ v1=N zr->Kh X 147 Sg 6 [0,3] [] [] ⟨[(0,vc (aS a0)),pI 3 v1],[],[]⟩ (A5 [2] [.sc (.v (.bool zr))])
def B27{a0 v1}{F7}(bH:Tq a0 F7):lW a0 v1 (OS a0 v1 F7):=by
 intro r h M hσ;unfold OS at h;have k0:= @bH;exact gc
def B3c{a0 v1}{F7}(bH:Tq a0 F7):lV a0 v1 (OR a0 v1 F7):=by
 intro v5 r h M hσ;unfold OR at h;have k0:= @B27;exact gc
def B3l{a0}{n:W}:Tq a0 (Hq a0 n):=by
 induction n with
 | zero=>intro _ r h; cases h
 | succ n ih=>
  intro v1 r h M hσ;rw[Hq] at h;have k0:= @B3c;exact gc
instance C06:Ct 147 (∀{a0} {r},LS a0=N r->FC X 147 [.sc (.str a0)] [.sc (.v (.bool r))]):=by
 refine⟨fun h=> ?_⟩;unfold LS at h;refine A3 A2 Sg [2] 42 ?_;have k0:= @B3l;exact gc
def ZY:Hw:=([(6,[1,8,9,10],[],[])],[])
def lp:=fun a1 (a0:X4) (k_:Q->P Q)=>∀{v1} {zr},k_ v1=N zr->Kh X 148 ZY 6 [1,8,9,10] [] [] ⟨[(1,vc (aS a1)),pL 8 X7.row a0.Points,pI 9 (a0.Points.length:Q),pI 10 v1],[],[]⟩ (A5 [4] [.sc (.v (.int .i64 zr))])
def B3v{a1 a0}{n:W}:lp a1 a0 (JN a1 a0 n):=by
 induction n with
 | zero=>intro _ r h; cases h
 | succ n ih=>
  intro v1 r h M hσ;rw[JN] at h;exact gc
instance C1h:Ct 148 (∀{a0} {a1} {r},P5 a0 a1=N r->FC X 148 [.ag (X4.row a0),.sc (.str a1)] [.sc (.v (.int .i64 r))]):=by
 refine⟨fun h=> ?_⟩;unfold P5 at h;refine A3 A2 ZY [4] 21 ?_;have k0:= @B3v;exact gc
instance C1z:Ct 149 (∀{a0} {a1} {a2} {r},Pi a0 a1 a2=N r->FC X 149 [.ag (X2.row a0),.sc (.int .i64 a1),.sc (.int .i64 a2)] [.sc (.v (.bool r))]):=by
 refine⟨fun h=> ?_⟩;unfold Pi at h;refine A3 A2 h0 [6] 29 ?_;exact gc
def Sk:Hw:=([(14,[1,20,21,22],[1],[]),(37,[1,41,42,43],[1],[]),(59,[1,6,41,42,43,88,89,90],[1,6],[])],[])
def lJ:=fun(a0:X4) v11 (x13:X2) y24 y25 (k_:Q->P V)=>∀{v26} {zr},k_ v26=N zr->Kh X 106 Sk 59 [1,6,41,42,43,88,89,90] [1,6] [] ⟨[pB 1,pB 6,pL 41 X2.row a0.Segments,pI 42 (a0.Segments.length:Q),pI 43 v11,pL 88 X2.row y24,pI 89 y25,pI 90 v26],[(1,[aM X7.row a0.Points,aM X2.row a0.Segments]),(6,(dm x13.row))],[]⟩ (A5 [2] [.sc (.v (.bool zr))])
def Xz:=fun(a0:X4) (k_:Q->P V)=>∀{v11} {zr},k_ v11=N zr->Kh X 106 Sk 37 [1,41,42,43] [1] [] ⟨[pB 1,pL 41 X2.row a0.Segments,pI 42 (a0.Segments.length:Q),pI 43 v11],[(1,[aM X7.row a0.Points,aM X2.row a0.Segments])],[]⟩ (A5 [2] [.sc (.v (.bool zr))])
def lI:=fun(a0:X4) (k_:Q->P V)=>∀{v3} {zr},k_ v3=N zr->Kh X 106 Sk 14 [1,20,21,22] [1] [] ⟨[pB 1,pL 20 X7.row a0.Points,pI 21 (a0.Points.length:Q),pI 22 v3],[(1,[aM X7.row a0.Points,aM X2.row a0.Segments])],[]⟩ (A5 [2] [.sc (.v (.bool zr))])
def B4a{a0 v11 x13 y24 y25}{PV}(wK:Xz a0 PV){n:W}:lJ a0 v11 x13 y24 y25 (Jy a0 v11 x13 y24 y25 PV n):=by
 induction n with
 | zero=>intro _ r h; cases h
 | succ n ih=>
  intro v26 r h M hσ;rw[Jy] at h;have k0:= @wK;exact gc
def B4h{a0}{n:W}:Xz a0 (EX a0 n):=by
 induction n with
 | zero=>intro _ r h; cases h
 | succ n ih=>
  intro v11 r h M hσ;rw[EX] at h;have k0:= @B4a;exact gc
def B4p{a0}{n:W}:lI a0 (Jx a0 n):=by
 induction n with
 | zero=>intro _ r h; cases h
 | succ n ih=>
  intro v3 r h M hσ;rw[Jx] at h;have k0:= @B4h;exact gc
instance A8x:Ct 106 (∀{a0} {r},Dq a0=N r->FC X 106 [.ag (X4.row a0)] [.sc (.v (.bool r))]):=by
 refine⟨fun h=> ?_⟩;unfold Dq at h;refine A3 A2 Sk [2] 102 ?_;have k0:= @B4p;exact gc
instance C1n:Ct 150 (∀{a0} {r},DG a0=N r->FC X 150 [.ag (X5.row a0)] [.sc (.v (.bool r))]):=by
 refine⟨fun h=> ?_⟩;unfold DG at h;refine A3 A2 h0 [2] 26 ?_;exact gc
def aE:Hw:=([(6,[1,7,8,9],[],[])],[])
def lx:=fun a1 a0 (k_:Q->P Q)=>∀{v1} {zr},k_ v1=N zr->Kh X 151 aE 6 [1,7,8,9] [] [] ⟨[(1,vc (aS a1)),pL 7 X5.row a0,pI 8 (a0.length:Q),pI 9 v1],[],[]⟩ (A5 [4] [.sc (.v (.int .i64 zr))])
def B4w{a1 a0}{n:W}:lx a1 a0 (JS a1 a0 n):=by
 induction n with
 | zero=>intro _ r h; cases h
 | succ n ih=>
  intro v1 r h M hσ;rw[JS] at h;exact gc
instance C1m:Ct 151 (∀{a0} {a1} {r},P9 a0 a1=N r->FC X 151 [.sc (.sl (Y X5.row a0)),.sc (.str a1)] [.sc (.v (.int .i64 r))]):=by
 refine⟨fun h=> ?_⟩;unfold P9 at h;refine A3 A2 aE [4] 20 ?_;have k0:= @B4w;exact gc
def aT:Hw:=([(14,[0,8,9,10],[],[])],[])
def lQ:=fun a0 (k_:Q->P V)=>∀{v2} {zr},k_ v2=N zr->Kh X 107 aT 14 [0,8,9,10] [] [] ⟨[pL 0 X5.row a0,pL 8 X5.row a0,pI 9 (a0.length:Q),pI 10 v2],[],[]⟩ (A5 [2] [.sc (.v (.bool zr))])
def B45{a0}{n:W}:lQ a0 (JD a0 n):=by
 induction n with
 | zero=>intro _ r h; cases h
 | succ n ih=>
  intro v2 r h M hσ;rw[JD] at h;exact gc
instance C00:Ct 107 (∀{a0} {r},LP a0=N r->FC X 107 [.sc (.sl (Y X5.row a0))] [.sc (.v (.bool r))]):=by
 refine⟨fun h=> ?_⟩;unfold LP at h;refine A3 A2 aT [2] 27 ?_;have k0:= @B45;exact gc
instance C1i:Ct 108 (∀{a0} {r},JO a0=N r->FC X 108 [.ag (Xi.row a0)] [.sc (.v (.bool r))]):=by
 refine⟨fun h=> ?_⟩;unfold JO at h;refine A3 A2 h0 [2] 6 ?_;exact gc
def aV:Hw:=([(14,[15,16,17],[],[])],[])
def mQ:=fun a1 (k_:Q->P V)=>∀{v4} {zr},k_ v4=N zr->Kh X 152 aV 14 [15,16,17] [] [] ⟨[pL 15 rI a1,pI 16 (a1.length:Q),pI 17 v4],[],[]⟩ (A5 [4] [.sc (.v (.bool zr))])
def B5c{a1}{n:W}:mQ a1 (HF a1 n):=by
 induction n with
 | zero=>intro _ r h; cases h
 | succ n ih=>
  intro v4 r h M hσ;rw[HF] at h;exact gc
instance C17:Ct 152 (∀{a0} {a1} {r},HE a0 a1=N r->FC X 152 [.sc (.int .i64 a0),.sc (.sl (Y rI a1))] [.sc (.v (.bool r))]):=by
 refine⟨fun h=> ?_⟩;unfold HE at h;refine A3 A2 aV [4] 25 ?_;have k0:= @B5c;exact gc
instance C0y:Ct 109 (∀{a0} {r},JA a0=N r->FC X 109 [.ag (Xn.row a0)] [.sc (.v (.bool r))]):=by
 refine⟨fun h=> ?_⟩;unfold JA at h;refine A3 A2 h0 [2] 18 ?_;exact gc
instance C03:Ct 63 (∀{a0} {r},LR a0=N r->FC X 63 [.ag (X3.row a0)] [.sc (.v (.bool r))]):=by
 refine⟨fun h=> ?_⟩;unfold LR at h;refine A3 A2 h0 [2] 26 ?_;exact gc
instance A8u:Ct 64 (∀{a0} {a1} {r},G7 a0 a1=N r->FC X 64 [.ag (X3.row a0),.ag (X8.row a1)] [.sc (.v (.bool r))]):=by
 refine⟨fun h=> ?_⟩;unfold G7 at h;refine A3 A2 h0 [4] 53 ?_;exact gc
def UP:Hw:=([(14,[1,2,17,18,19],[2],[]),(36,[1,2,6,17,18,19,30,31,32],[2,6],[])],[])
def lD:=fun a1 v4 (a0:X3) (x6:X8) y10 y11 (k_:Q->P V)=>∀{v12} {zr},k_ v12=N zr->Kh X 24 UP 36 [1,2,6,17,18,19,30,31,32] [2,6] [] ⟨[pL 1 X8.row a1,pB 2,pB 6,pL 17 X8.row a1,pI 18 (a1.length:Q),pI 19 v4,pL 30 X8.row y10,pI 31 y11,pI 32 v12],[(2,([aI a0.Forecast.Tide.Mean,aM Z a0.Forecast.Tide.Parts,aM X9.row a0.Forecast.Surges,aM X7.row a0.Chart.Points,aM X2.row a0.Chart.Segments,aM X5.row a0.Fleet,aI a0.Regime.Gap,aB a0.Regime.NoMeet]++dm a0.Crew.row)),(6,(dm x6.row))],[]⟩ (A5 [4] [.sc (.v (.bool zr))])
def Xy:=fun a1 (a0:X3) (k_:Q->P V)=>∀{v4} {zr},k_ v4=N zr->Kh X 24 UP 14 [1,2,17,18,19] [2] [] ⟨[pL 1 X8.row a1,pB 2,pL 17 X8.row a1,pI 18 (a1.length:Q),pI 19 v4],[(2,([aI a0.Forecast.Tide.Mean,aM Z a0.Forecast.Tide.Parts,aM X9.row a0.Forecast.Surges,aM X7.row a0.Chart.Points,aM X2.row a0.Chart.Segments,aM X5.row a0.Fleet,aI a0.Regime.Gap,aB a0.Regime.NoMeet]++dm a0.Crew.row))],[]⟩ (A5 [4] [.sc (.v (.bool zr))])
def B5f{a1 v4 a0 x6 y10 y11}{PU}(wJ:Xy a1 a0 PU){n:W}:lD a1 v4 a0 x6 y10 y11 (LM a1 v4 a0 x6 y10 y11 PU n):=by
 induction n with
 | zero=>intro _ r h; cases h
 | succ n ih=>
  intro v12 r h M hσ;rw[LM] at h;have k0:= @wJ;exact gc
def B5g{a1 a0}{n:W}:Xy a1 a0 (LL a1 a0 n):=by
 induction n with
 | zero=>intro _ r h; cases h
 | succ n ih=>
  intro v4 r h M hσ;rw[LL] at h;have k0:= @B5f;exact gc
instance C0u:Ct 24 (∀{a0} {a1} {r},OG a0 a1=N r->FC X 24 [.ag (X3.row a0),.sc (.sl (Y X8.row a1))] [.sc (.v (.bool r))]):=by
 refine⟨fun h=> ?_⟩;unfold OG at h;refine A3 A2 UP [4] 43 ?_;have k0:= @B5g;exact gc
instance fw:Ct 196 (∀{a0} {a1} {r},Pj a0 a1=N r->FC X 196 [.ag (X2.row a0),.sc (.int .i64 a1)] [.sc (.v (.int .i64 r))]):=by
 refine⟨fun h=> ?_⟩;unfold Pj at h;refine A3 A2 h0 [4] 18 ?_;exact gc
def aY:Hw:=([(6,[1,7,8,9],[],[])],[])
def mG:=fun a1 a0 (k_:Q->P V)=>∀{v1} {zr},k_ v1=N zr->Kh X 197 aY 6 [1,7,8,9] [] [] ⟨[pI 1 a1,pL 7 rI a0,pI 8 (a0.length:Q),pI 9 v1],[],[]⟩ (A5 [4] [.sc (.v (.bool zr))])
def B5h{a1 a0}{n:W}:mG a1 a0 (JX a1 a0 n):=by
 induction n with
 | zero=>intro _ r h; cases h
 | succ n ih=>
  intro v1 r h M hσ;rw[JX] at h;exact gc
instance fv:Ct 197 (∀{a0} {a1} {r},M2 a0 a1=N r->FC X 197 [.sc (.sl (Y rI a0)),.sc (.int .i64 a1)] [.sc (.v (.bool r))]):=by
 refine⟨fun h=> ?_⟩;unfold M2 at h;refine A3 A2 aY [4] 17 ?_;have k0:= @B5h;exact gc
def UQ:Hw:=([(8,[3,8,14,15,16],[3],[832]),(32,[3,8,11,14,15,16,45],[3],[832])],[])
def mH:=fun r9 a2 v1 (a0:X4) v2 (k_:V->P ((O Q) × V))=>∀{v12} {zr},k_ v12=N zr->Kh X 162 UQ 32 [3,8,11,14,15,16,45] [3] [832] ⟨[pB 3,pW 8 832,pI 11 r9,pL 14 rI a2,pI 15 (a2.length:Q),pI 16 v1,(45,vc (aB v12))],[(3,[aM X7.row a0.Points,aM X2.row a0.Segments])],[(832,1,Y rI v2)]⟩ (A5 [6,7] [.sc (.o 1 (Y rI zr.1)),.sc (.v (.bool zr.2))])
def XG:=fun a2 (a0:X4) (k_:Q->(O Q)->P ((O Q) × V))=>∀{v1 v2} {zr},k_ v1 v2=N zr->Kh X 162 UQ 8 [3,8,14,15,16] [3] [832] ⟨[pB 3,pW 8 832,pL 14 rI a2,pI 15 (a2.length:Q),pI 16 v1],[(3,[aM X7.row a0.Points,aM X2.row a0.Segments])],[(832,1,Y rI v2)]⟩ (A5 [6,7] [.sc (.o 1 (Y rI zr.1)),.sc (.v (.bool zr.2))])
def hD{r9 a2 v1 a0 v2}{SE}(wR:XG a2 a0 SE):mH r9 a2 v1 a0 v2 (Hy r9 a2 v1 a0 v2 SE):=by
 intro v12 r h M hσ;unfold Hy at h;have s0:= @Aq (Y rI ([r9]:O Q));have k0:= @wR;exact gc
def B5j{a2 a0}{n:W}:XG a2 a0 (El a2 a0 n):=by
 induction n with
 | zero=>intro _ _ r h; cases h
 | succ n ih=>
  intro v1 v2 r h M hσ S hS;refine ev hS ?_;rw[El] at h;refine AA (Av ?_);obtain⟨h3,h⟩|⟨h3,h⟩:=ic h
  .obtain⟨x4,h4,h⟩:=ob h;obtain⟨r5,h5,h⟩:=ob h;refine sg ?_;refine AD (Ag GP h5) ?_;obtain⟨h6,h⟩|⟨h6,h⟩:=ic h
   .obtain⟨x7,h7,h⟩:=ob h;obtain⟨x8,h8,h⟩:=ob h;have h8n:=Ah h8;obtain⟨r9,h9,h⟩:=ob h;refine sg ?_;refine AD (Ag fw h9) ?_;refine sg ?_;obtain⟨h10,h⟩|⟨h10,h⟩:=ic h
    .refine sg ?_;exact hD ih h sq kr
    .obtain⟨r11,h11,h⟩:=ob h;refine sg ?_;refine B8 (Ag fv h11) rfl (Br rfl) rfl (uf rfl) ?_;refine sg ?_;exact hD ih h sq kr
   .refine sg ?_;cases h;trivial
  .refine sg ?_;cases h;trivial
instance C10:Ct 162 (∀{a0} {a1} {a2} {r},Hx a0 a1 a2=N r->FC X 162 [.ag (X4.row a0),.sc (.int .i64 a1),.sc (.sl (Y rI a2))] [.sc (.o 1 (Y rI r.1)),.sc (.v (.bool r.2))]):=by
 refine⟨fun{a0} {a1} {a2} {r} h=> ?_⟩;unfold Hx at h;refine A3 A2 UQ [6,7] 52 ?_;have s0:= @Aq (Y rI ([a1]:O Q));have k0:= @B5j;exact gc
instance C1j:Ct 161 (∀{a0} {a1} {a2} {r},Ej a0 a1 a2=N r->FC X 161 [.ag (X4.row a0),.sc (.int .i64 a1),.sc (.sl (Y rI a2))] [.sc (.v (.bool r))]):=by
 refine⟨fun h=> ?_⟩;unfold Ej at h;refine A3 A2 h0 [6] 29 ?_;exact gc
instance A86:Ct 116 (∀{a0} {a1} {a2} {r},Ek a0 a1 a2=N r->FC X 116 [.ag (X4.row a0),.sc (.int .i64 a1),.sc (.sl (Y rI a2))] [.sc (.o 1 (Y rI r))]):=by
 refine⟨fun h=> ?_⟩;unfold Ek at h;refine A3 A2 h0 [6] 22 ?_;exact gc
instance C19:Ct 156 (∀{a0} {a1} {a2} {r},RZ a0 a1 a2=N r->FC X 156 [.ag (X3.row a0),.ag (X8.row a1),.sc (.sl (Y rI a2))] [.sc (.v (.bool r))]):=by
 refine⟨fun{a0} {a1} {a2} {r} h=> ?_⟩;unfold RZ at h;refine A3 A2 h0 [6] 28 ?_;intro S hS;refine ev hS ?_;obtain⟨r1,hr1,h⟩:=ob h;refine sg ?_;refine AD (Ag A86 hr1) ?_;refine sg ?_;obtain⟨hb2,h⟩|⟨hb2,h⟩:=ic h
 .obtain⟨x3,hx3,h⟩:=ob h;have hx3n:=Ah hx3;refine sg ?_;cases h;exact t0
 .refine sg ?_;cases h;exact t0
instance C11:Ct 217 (∀{a0} {a1} {a2} {r},JZ a0 a1 a2=N r->FC X 217 [.ag (X4.row a0),.sc (.int .i64 a1),.ag (X5.row a2)] [.sc (.v (.bool r))]):=by
 refine⟨fun h=> ?_⟩;unfold JZ at h;refine A3 A2 h0 [6] 21 ?_;exact gc
instance C1p:Ct 252 (∀{a0} {r},RQ a0=N r->FC X 252 [.ag (X5.row a0)] [.sc (.v (.int .i64 r))]):=by
 refine⟨fun h=> ?_⟩;unfold RQ at h;refine A3 A2 h0 [2] 14 ?_;exact gc
instance C1a:Ct 240 (∀{a0} {r},RO a0=N r->FC X 240 [.ag (X5.row a0)] [.sc (.v (.int .i64 r))]):=by
 refine⟨fun h=> ?_⟩;unfold RO at h;refine A3 A2 h0 [2] 12 ?_;exact gc
instance C08:Ct 220 (∀{a0} {a1} {a2} {r},OV a0 a1 a2=N r->FC X 220 [.ag (X4.row a0),.sc (.int .i64 a1),.ag (X5.row a2)] [.sc (.v (.int .i64 r))]):=by
 refine⟨fun h=> ?_⟩;unfold OV at h;refine A3 A2 h0 [6] 21 ?_;exact gc
def aZ:Hw:=([(8,[1,4,5,13,14,15],[4,5],[])],[])
def mD:=fun a1 (a0:Xd) (k_:Q->Q->Q->Q->P X9)=>∀{v2 v3 v4 v5} {zr},k_ v2 v3 v4 v5=N zr->Kh X 237 aZ 8 [1,4,5,13,14,15] [4,5] [] ⟨[pI 1 a1,pB 4,pB 5,pL 13 X9.row a0.Surges,pI 14 (a0.Surges.length:Q),pI 15 v2],[(4,[aI (0:Q),aI (0:Q),aI (0:Q)]),(5,[aI v3,aI v4,aI v5])],[]⟩ (A5 [.c 4 T 3] [.ag [.v (.int .i64 zr.From),.v (.int .i64 zr.Low),.v (.int .i64 zr.High)]])
def B5k{a1 a0}{n:W}:mD a1 a0 (Ge a1 a0 n):=by
 induction n with
 | zero=>intro _ _ _ _ r h; cases h
 | succ n ih=>
  intro v2 v3 v4 v5 r h M hσ;rw[Ge] at h;exact gc
instance C1w:Ct 237 (∀{a0} {a1} {r},JV a0 a1=N r->FC X 237 [.ag (zA a0),.sc (.int .i64 a1)] [.ag [.v (.int .i64 r.From),.v (.int .i64 r.Low),.v (.int .i64 r.High)]]):=by
 refine⟨fun h=> ?_⟩;unfold JV at h;refine A3 A2 aZ [.c 4 T 3] 26 ?_;have k0:= @B5k;exact gc
def aa:Hw:=([(18,[1,5],[],[])],[])
def mA:=fun a1 (k_:Q->P Q)=>∀{v6} {zr},k_ v6=N zr->Kh X 251 aa 18 [1,5] [] [] ⟨[pI 1 a1,pI 5 v6],[],[]⟩ (A5 [4] [.sc (.v (.int .i64 zr))])
def B5l{a1}:mA a1 (Pe a1):=by
 intro v6 r h M hσ;unfold Pe at h;exact gc
instance C1t:Ct 251 (∀{a0} {a1} {r},Pd a0 a1=N r->FC X 251 [.sc (.int .i64 a0),.sc (.int .i64 a1)] [.sc (.v (.int .i64 r))]):=by
 refine⟨fun h=> ?_⟩;unfold Pd at h;refine A3 A2 aa [4] 55 ?_;have k0:= @B5l;exact gc
def ab:Hw:=([(8,[1,5,11,12,13],[],[])],[])
def mC:=fun a1 (a0:Xm) (k_:Q->Q->P Q)=>∀{v1 v2} {zr},k_ v1 v2=N zr->Kh X 238 ab 8 [1,5,11,12,13] [] [] ⟨[pI 1 a1,pI 5 v1,pL 11 Z a0.Parts,pI 12 (a0.Parts.length:Q),pI 13 v2],[],[]⟩ (A5 [4] [.sc (.v (.int .i64 zr))])
def B5m{a1 a0}{n:W}:mC a1 a0 (JU a1 a0 n):=by
 induction n with
 | zero=>intro _ _ r h; cases h
 | succ n ih=>
  intro v1 v2 r h M hσ;rw[JU] at h;exact gc
instance C1v:Ct 238 (∀{a0} {a1} {r},M1 a0 a1=N r->FC X 238 [.ag (Xm.row a0),.sc (.int .i64 a1)] [.sc (.v (.int .i64 r))]):=by
 refine⟨fun h=> ?_⟩;unfold M1 at h;refine A3 A2 ab [4] 32 ?_;have k0:= @B5m;exact gc
def UR:Hw:=([(8,[3,7,8,9],[],[384]),(27,[3,4,7,8,9,30],[],[384])],[])
def mF:=fun v1 a0 v2 (k_:V->P (O X6))=>∀{v8} {zr},k_ v8=N zr->Kh X 239 UR 27 [3,4,7,8,9,30] [] [384] ⟨[pW 3 384,pI 4 v1,pL 7 rB a0,pI 8 (a0.length:Q),pI 9 v1,(30,vc (aB v8))],[],[(384,2,Y X6.row v2)]⟩ (A5 [2] [.sc (.o 2 (Y X6.row zr))])
def XF:=fun a0 (k_:Q->(O X6)->P (O X6))=>∀{v1 v2} {zr},k_ v1 v2=N zr->Kh X 239 UR 8 [3,7,8,9] [] [384] ⟨[pW 3 384,pL 7 rB a0,pI 8 (a0.length:Q),pI 9 v1],[],[(384,2,Y X6.row v2)]⟩ (A5 [2] [.sc (.o 2 (Y X6.row zr))])
def hH{v1 a0 v2}{PY}(wQ:XF a0 PY):mF v1 a0 v2 (JW v1 a0 v2 PY):=by
 intro v8 r h M hσ;unfold JW at h;have s0:= @Aq (Y X6.row ([(⟨v1,v1⟩:X6)]:O X6));have s1:=fun(x10:X6)=> @EA _ X6.row ((⟨x10.From,v1⟩:X6))
 have k0:= @wQ;exact gc
def B5n{a0}{n:W}:XF a0 (EZ a0 n):=by
 induction n with
 | zero=>intro _ _ r h; cases h
 | succ n ih=>
  intro v1 v2 r h M hσ S hS;refine ev hS ?_;rw[EZ] at h;refine AA (Av ?_);obtain⟨h3,h⟩|⟨h3,h⟩:=ic h
  .obtain⟨x4,h4,h⟩:=ob h;obtain⟨h5,h⟩|⟨h5,h⟩:=ic h
   .obtain⟨h6,h⟩|⟨h6,h⟩:=ic h
    .obtain⟨x7,h7,h⟩:=ob h;have h7n:=Ah h7;refine sg ?_;exact hH ih h sq kr
    .refine sg ?_;exact hH ih h sq kr
   .refine sg ?_;exact ih h sq kr
  .refine sg ?_;cases h;exact t0
instance C1y:Ct 239 (∀{a0} {r},Ph a0=N r->FC X 239 [.sc (.sl (Y rB a0))] [.sc (.o 2 (Y X6.row r))]):=by
 refine⟨fun h=> ?_⟩;unfold Ph at h;refine A3 A2 UR [2] 46 ?_;have s0:= @Aq (Y X6.row ([]:O X6));have k0:= @B5n;exact gc
def US:Hw:=([(8,[1,2,3,7,8],[3],[704]),(27,[1,2,3,7,8,10],[3],[704])],[])
def mE:=fun a1 v2 (a0:Xd) v3 (k_:V->Q->P (O X6))=>∀{v7 v8} {zr},k_ v7 v8=N zr->Kh X 219 US 27 [1,2,3,7,8,10] [3] [704] ⟨[pI 1 a1,(2,vc (aB v7)),pB 3,pW 7 704,pI 8 v2,pI 10 v8],[(3,[aI a0.Tide.Mean,aM Z a0.Tide.Parts,aM X9.row a0.Surges])],[(704,1,Y rB v3)]⟩ (A5 [6] [.sc (.o 2 (Y X6.row zr))])
def XE:=fun a1 (a0:Xd) (k_:V->Q->(O V)->P (O X6))=>∀{v1 v2 v3} {zr},k_ v1 v2 v3=N zr->Kh X 219 US 8 [1,2,3,7,8] [3] [704] ⟨[pI 1 a1,(2,vc (aB v1)),pB 3,pW 7 704,pI 8 v2],[(3,[aI a0.Tide.Mean,aM Z a0.Tide.Parts,aM X9.row a0.Surges])],[(704,1,Y rB v3)]⟩ (A5 [6] [.sc (.o 2 (Y X6.row zr))])
def B5o{a1 v2 a0 v3}{SD}(wO:XE a1 a0 SD):mE a1 v2 a0 v3 (Pg a1 v2 a0 v3 SD):=by
 intro v7 v8 r h M hσ;unfold Pg at h;have s0:=fun(r9:Q)=> @Aq (Y rB ([(decide (a1<=(IntKind.i64.wrap (r9+v8))))]:O V))
 have k0:= @wO;exact gc
def B5p{a1 a0}{n:W}:XE a1 a0 (Hv a1 a0 n):=by
 induction n with
 | zero=>intro _ _ _ r h; cases h
 | succ n ih=>
  intro v1 v2 v3 r h M hσ;rw[Hv] at h;have k0:= @B5o;exact gc
instance C1x:Ct 219 (∀{a0} {a1} {a2} {r},Pf a0 a1 a2=N r->FC X 219 [.ag (zA a0),.sc (.int .i64 a1),.sc (.bool a2)] [.sc (.o 2 (Y X6.row r))]):=by
 refine⟨fun h=> ?_⟩;unfold Pf at h;refine A3 A2 US [6] 37 ?_;have s0:= @Aq (Y rB ([]:O V));have k0:= @B5p;exact gc
instance Ws:Ct 164 (∀{a0} {a1} {r},Gf a0 a1=N r->FC X 164 [.ag (X2.row a0),.ag (X5.row a1)] [.sc (.v (.int .i64 r))]):=by
 refine⟨fun h=> ?_⟩;unfold Gf at h;refine A3 A2 h0 [4] 12 ?_;exact gc
instance C09:Ct 221 (∀{a0} {a1} {a2} {r},LV a0 a1 a2=N r->FC X 221 [.ag (X4.row a0),.sc (.int .i64 a1),.ag (X5.row a2)] [.sc (.v (.int .i64 r))]):=by
 refine⟨fun h=> ?_⟩;unfold LV at h;refine A3 A2 h0 [6] 31 ?_;exact gc
def af:Hw:=([(6,[0,5,6,7],[],[])],[])
def mB:=fun a0 (k_:Q->P V)=>∀{v1} {zr},k_ v1=N zr->Kh X 198 af 6 [0,5,6,7] [] [] ⟨[pL 0 X6.row a0,pL 5 X6.row a0,pI 6 (a0.length:Q),pI 7 v1],[],[]⟩ (A5 [2] [.sc (.v (.bool zr))])
def B5q{a0}{n:W}:mB a0 (Gd a0 n):=by
 induction n with
 | zero=>intro _ r h; cases h
 | succ n ih=>
  intro v1 r h M hσ S hS;refine ev hS ?_;rw[Gd] at h;refine AA (Av ?_);obtain⟨h2,h⟩|⟨h2,h⟩:=ic h
  .obtain⟨x3,h3,h⟩:=ob h;obtain⟨r4,h4,h⟩:=ob h;refine sg ?_;refine AD (Ag GP h4) ?_;refine sg ?_;obtain⟨h5,h⟩|⟨h5,h⟩:=ic h
   .obtain⟨r6,h6,h⟩:=ob h;refine sg ?_;refine Pz (by first | rfl | kernel_rfl) ?_;refine AD (Ag GP h6) ?_;refine sg ?_;obtain⟨h7,h⟩|⟨h7,h⟩:=ic h
    .obtain⟨h8,h⟩|⟨h8,h⟩:=ic h
     .obtain⟨x9,h9,h⟩:=ob h;obtain⟨h10,h⟩|⟨h10,h⟩:=ic h
      .refine sg ?_;cases h;exact t0
      .refine sg ?_;exact ih h sq kr
     .refine sg ?_;exact ih h sq kr
    .refine sg ?_;cases h;exact t0
   .refine sg ?_;refine Py (by first | rfl | kernel_rfl) rfl ?_;refine sg ?_;cases h;exact t0
  .refine sg ?_;cases h;exact t0
instance C1u:Ct 198 (∀{a0} {r},M0 a0=N r->FC X 198 [.sc (.sl (Y X6.row a0))] [.sc (.v (.bool r))]):=by
 refine⟨fun h=> ?_⟩;unfold M0 at h;refine A3 A2 af [2] 41 ?_;have k0:= @B5q;exact gc
def ah:Hw:=([(16,[1,5,17,18,19],[],[1024])],[])
def ly:=fun a1 a0 (k_:Q->(O X6)->P (O X6))=>∀{v5 v6} {zr},k_ v5 v6=N zr->Kh X 218 ah 16 [1,5,17,18,19] [] [1024] ⟨[pI 1 a1,pW 5 1024,pL 17 X6.row a0,pI 18 (a0.length:Q),pI 19 v5],[],[(1024,2,Y X6.row v6)]⟩ (A5 [4] [.sc (.o 2 (Y X6.row zr))])
def B5r{a1 a0}{n:W}:ly a1 a0 (Gc a1 a0 n):=by
 induction n with
 | zero=>intro _ _ r h; cases h
 | succ n ih=>
  intro v5 v6 r h M hσ;rw[Gc] at h;have s0:=fun(x8:X6)=> @Aq (Y X6.row ([(⟨x8.From,(IntKind.i64.wrap (x8.To - a1))⟩:X6)]:O X6))
  exact gc
instance C1o:Ct 218 (∀{a0} {a1} {r},RP a0 a1=N r->FC X 218 [.sc (.sl (Y X6.row a0)),.sc (.int .i64 a1)] [.sc (.o 2 (Y X6.row r))]):=by
 refine⟨fun h=> ?_⟩;unfold RP at h;refine A3 A2 ah [4] 42 ?_;have s0:= @Aq (Y X6.row ([]:O X6));have k0:= @B5r;exact gc
instance C12:Ct 195 (∀{a0} {a1} {a2} {a3} {a4} {r},RW a0 a1 a2 a3 a4=N r->FC X 195 [.ag (zA a0),.ag (X4.row a1),.sc (.int .i64 a2),.ag (X5.row a3),.sc (.bool a4)] [.sc (.o 2 (Y X6.row r))]):=by
 refine⟨fun h=> ?_⟩;unfold RW at h;refine A3 A2 h0 [10] 33 ?_;exact gc
instance C1q:Ct 160 (∀{a0} {a1} {a2} {a3} {r},Pa a0 a1 a2 a3=N r->FC X 160 [.ag (zA a0),.ag (X4.row a1),.sc (.int .i64 a2),.ag (X5.row a3)] [.sc (.o 2 (Y X6.row r))]):=by
 refine⟨fun h=> ?_⟩;unfold Pa at h;refine A3 A2 h0 [8] 14 ?_;exact gc
def aj:Hw:=([(8,[4,5,6,9,13,14,15],[4,5,6],[768])],[(19,6,(none,.frz 1536))])
def mK:=fun a3 (a0:Xd) (a1:X4) (a2:X5) (k_:Q->(O (O X6))->P (O (O X6)))=>∀{v1 v2} {zr},k_ v1 v2=N zr->Kh X 115 aj 8 [4,5,6,9,13,14,15] [4,5,6] [768] ⟨[pB 4,pB 5,pB 6,pW 9 768,pL 13 rI a3,pI 14 (a3.length:Q),pI 15 v1],[(4,[aI a0.Tide.Mean,aM Z a0.Tide.Parts,aM X9.row a0.Surges]),(5,[aM X7.row a1.Points,aM X2.row a1.Segments]),(6,(dm a2.row))],[(768,1,Y (rL X6.row) v2)]⟩ (A5 [8] [.sc (.o 1 (Y (rL X6.row) zr))])
def B5s{a3 a0 a1 a2}{n:W}:mK a3 a0 a1 a2 (HB a3 a0 a1 a2 n):=by
 induction n with
 | zero=>intro _ _ r h; cases h
 | succ n ih=>
  intro v1 v2 r h M hσ;rw[HB] at h;have s0:=fun(r5:(O X6))=> @Aq (Y (rL X6.row) ([r5]:O (O X6)))
  exact gc
instance C13:Ct 115 (∀{a0} {a1} {a2} {a3} {r},Pk a0 a1 a2 a3=N r->FC X 115 [.ag (zA a0),.ag (X4.row a1),.ag (X5.row a2),.sc (.sl (Y rI a3))] [.sc (.o 1 (Y (rL X6.row) r))]):=by
 refine⟨fun h=> ?_⟩;unfold Pk at h;refine A3 A2 aj [8] 29 ?_;have s0:= @Aq (Y (rL X6.row) ([]:O (O X6)));have k0:= @B5s;exact gc
def ak:Hw:=([(6,[1,7,8,9],[],[])],[])
def lT:=fun a1 a0 (k_:Q->P V)=>∀{v1} {zr},k_ v1=N zr->Kh X 163 ak 6 [1,7,8,9] [] [] ⟨[pI 1 a1,pL 7 X6.row a0,pI 8 (a0.length:Q),pI 9 v1],[],[]⟩ (A5 [4] [.sc (.v (.bool zr))])
def B5u{a1 a0}{n:W}:lT a1 a0 (JF a1 a0 n):=by
 induction n with
 | zero=>intro _ r h; cases h
 | succ n ih=>
  intro v1 r h M hσ;rw[JF] at h;exact gc
instance C04:Ct 163 (∀{a0} {a1} {r},OP a0 a1=N r->FC X 163 [.sc (.sl (Y X6.row a0)),.sc (.int .i64 a1)] [.sc (.v (.bool r))]):=by
 refine⟨fun h=> ?_⟩;unfold OP at h;refine A3 A2 ak [4] 20 ?_;have k0:= @B5u;exact gc
def al:Hw:=([(14,[1,10,11,12],[],[])],[])
def lc:=fun a1 a0 (k_:Q->P Q)=>∀{v3} {zr},k_ v3=N zr->Kh X 165 al 14 [1,10,11,12] [] [] ⟨[pI 1 a1,pL 10 X6.row a0,pI 11 (a0.length:Q),pI 12 v3],[],[]⟩ (A5 [4] [.sc (.v (.int .i64 zr))])
def B5v{a1 a0}{n:W}:lc a1 a0 (JJ a1 a0 n):=by
 induction n with
 | zero=>intro _ r h; cases h
 | succ n ih=>
  intro v3 r h M hσ;rw[JJ] at h;exact gc
instance A82:Ct 165 (∀{a0} {a1} {r},OW a0 a1=N r->FC X 165 [.sc (.sl (Y X6.row a0)),.sc (.int .i64 a1)] [.sc (.v (.int .i64 r))]):=by
 refine⟨fun h=> ?_⟩;unfold OW at h;refine A3 A2 al [4] 25 ?_;have k0:= @B5v;exact gc
def UT:Hw:=([(16,[2,3,4,6,7,14,15],[6,7],[1600]),(32,[2,3,4,6,7,14,15,17,73],[6,7],[1600])],[])
def mJ:=fun a2 a3 a4 v4 r12 (a0:X4) (a1:X5) v5 (k_:V->P ((O Q) × V))=>∀{v17} {zr},k_ v17=N zr->Kh X 117 UT 32 [2,3,4,6,7,14,15,17,73] [6,7] [1600] ⟨[pL 2 rI a2,pL 3 rI a3,pL 4 (rL X6.row) a4,pB 6,pB 7,pW 14 1600,pI 15 v4,pI 17 r12,(73,vc (aB v17))],[(6,[aM X7.row a0.Points,aM X2.row a0.Segments]),(7,(dm a1.row))],[(1600,1,Y rI v5)]⟩ (A5 [12,13] [.sc (.o 1 (Y rI zr.1)),.sc (.v (.bool zr.2))])
def XI:=fun a2 a3 a4 (a0:X4) (a1:X5) (k_:Q->(O Q)->P ((O Q) × V))=>∀{v4 v5} {zr},k_ v4 v5=N zr->Kh X 117 UT 16 [2,3,4,6,7,14,15] [6,7] [1600] ⟨[pL 2 rI a2,pL 3 rI a3,pL 4 (rL X6.row) a4,pB 6,pB 7,pW 14 1600,pI 15 v4],[(6,[aM X7.row a0.Points,aM X2.row a0.Segments]),(7,(dm a1.row))],[(1600,1,Y rI v5)]⟩ (A5 [12,13] [.sc (.o 1 (Y rI zr.1)),.sc (.v (.bool zr.2))])
def WH{a2 a3 a4 v4 r12 a0 a1 v5}{SF}(wS:XI a2 a3 a4 a0 a1 SF):mJ a2 a3 a4 v4 r12 a0 a1 v5 (K1 a2 a3 a4 v4 r12 a0 a1 v5 SF):=by
 intro v17 r h M hσ;unfold K1 at h;have s0:= @Aq (Y rI ([r12]:O Q));have k0:= @wS;exact gc
def B5w{a2 a3 a4 a0 a1}{n:W}:XI a2 a3 a4 a0 a1 (F0 a2 a3 a4 a0 a1 n):=by
 induction n with
 | zero=>intro _ _ r h; cases h
 | succ n ih=>
  intro v4 v5 r h M hσ S hS;refine ev hS ?_;rw[F0] at h;refine AA (Av ?_);obtain⟨h6,h⟩|⟨h6,h⟩:=ic h
  .obtain⟨x7,h7,h⟩:=ob h;have h7n:=Ah h7;obtain⟨x8,h8,h⟩:=ob h;obtain⟨x9,h9,h⟩:=ob h;obtain⟨r10,h10,h⟩:=ob h;refine sg ?_;refine CO (Ag Ws h10) ?_;obtain⟨x11,h11,h⟩:=ob h;obtain⟨r12,h12,h⟩:=ob h;refine sg ?_;refine AD (Ag A82 h12) ?_;refine sg ?_;obtain⟨h13,h⟩|⟨h13,h⟩:=ic h
   .refine sg ?_;exact WH ih h sq kr
   .obtain⟨h14,h⟩|⟨h14,h⟩:=ic h
    .obtain⟨x15,h15,h⟩:=ob h;obtain⟨x16,h16,h⟩:=ob h;refine sg ?_;exact WH ih h sq kr
    .refine sg ?_;exact WH ih h sq kr
  .refine sg ?_;cases h;trivial
instance A9c:Ct 117 (∀{a0} {a1} {a2} {a3} {a4} {a5} {r},K0 a0 a1 a2 a3 a4 a5=N r->FC X 117 [.ag (X4.row a0),.ag (X5.row a1),.sc (.sl (Y rI a2)),.sc (.sl (Y rI a3)),.sc (.sl (Y (rL X6.row) a4)),.sc (.int .i64 a5)] [.sc (.o 1 (Y rI r.1)),.sc (.v (.bool r.2))]):=by
 refine⟨fun{a0} {a1} {a2} {a3} {a4} {a5} {r} h=> ?_⟩;unfold K0 at h;refine A3 A2 UT [12,13] 79 ?_;have s0:= @Aq (Y rI ([a5]:O Q));have k0:= @B5w;exact gc
def am:Hw:=([(5,[3,4,5,6,7,8,33],[6,7,8],[])],[])
def lr:=fun a3 a4 a5 (a0:Xd) (a1:X4) (a2:X5) (k_:V->P ((O Q) × V))=>∀{v7} {zr},k_ v7=N zr->Kh X 157 am 5 [3,4,5,6,7,8,33] [6,7,8] [] ⟨[pI 3 a3,pL 4 rI a4,pI 5 a5,pB 6,pB 7,pB 8,(33,vc (aB v7))],[(6,[aI a0.Tide.Mean,aM Z a0.Tide.Parts,aM X9.row a0.Surges]),(7,[aM X7.row a1.Points,aM X2.row a1.Segments]),(8,(dm a2.row))],[]⟩ (A5 [12,13] [.sc (.o 1 (Y rI zr.1)),.sc (.v (.bool zr.2))])
def B5x{a3 a4 a5 a0 a1 a2}:lr a3 a4 a5 a0 a1 a2 (JQ a3 a4 a5 a0 a1 a2):=by
 intro v7 r h M hσ;unfold JQ at h;exact gc
instance C1l:Ct 157 (∀{a0} {a1} {a2} {a3} {a4} {a5} {r},P8 a0 a1 a2 a3 a4 a5=N r->FC X 157 [.ag (zA a0),.ag (X4.row a1),.ag (X5.row a2),.sc (.int .i64 a3),.sc (.sl (Y rI a4)),.sc (.int .i64 a5)] [.sc (.o 1 (Y rI r.1)),.sc (.v (.bool r.2))]):=by
 refine⟨fun h=> ?_⟩;unfold P8 at h;refine A3 A2 am [12,13] 50 ?_;have k0:= @B5x;exact gc
def aq:Hw:=([(16,[2,5,11,12,13],[2],[])],[])
def lq:=fun a1 (a0:X4) (k_:Q->Q->P Q)=>∀{v3 v4} {zr},k_ v3 v4=N zr->Kh X 159 aq 16 [2,5,11,12,13] [2] [] ⟨[pB 2,pI 5 v3,pL 11 rI a1,pI 12 (a1.length:Q),pI 13 v4],[(2,[aM X7.row a0.Points,aM X2.row a0.Segments])],[]⟩ (A5 [4] [.sc (.v (.int .i64 zr))])
def B5y{a1 a0}{n:W}:lq a1 a0 (JP a1 a0 n):=by
 induction n with
 | zero=>intro _ _ r h; cases h
 | succ n ih=>
  intro v3 v4 r h M hσ;rw[JP] at h;exact gc
instance ft:Ct 159 (∀{a0} {a1} {r},Hu a0 a1=N r->FC X 159 [.ag (X4.row a0),.sc (.sl (Y rI a1))] [.sc (.v (.int .i64 r))]):=by
 refine⟨fun h=> ?_⟩;unfold Hu at h;refine A3 A2 aq [4] 34 ?_;have k0:= @B5y;exact gc
instance A8t:Ct 166 (∀{a0} {a1} {a2} {a3} {r},OE a0 a1 a2 a3=N r->FC X 166 [.ag (X4.row a0),.ag (X5.row a1),.sc (.sl (Y rI a2)),.sc (.sl (Y rI a3))] [.sc (.v (.int .i64 r))]):=by
 refine⟨fun h=> ?_⟩;unfold OE at h;refine A3 A2 h0 [8] 54 ?_;exact gc
def au:Hw:=([(18,[1,5,6,8,13,14,39,40,41],[6,8],[2176,2432])],[])
def lh:=fun a1 a5 a4 (a0:X4) (a2:X5) r6 (k_:Q->(O X1)->P (O X1))=>∀{v7 v8} {zr},k_ v7 v8=N zr->Kh X 167 au 18 [1,5,6,8,13,14,39,40,41] [6,8] [2176,2432] ⟨[pI 1 a1,pL 5 rI a5,pB 6,pB 8,pW 13 2176,pW 14 2432,pL 39 rI a4,pI 40 (a4.length:Q),pI 41 v7],[(6,[aM X7.row a0.Points,aM X2.row a0.Segments]),(8,(dm a2.row))],[(2176,5,Y X1.row v8),(2432,1,Y rI r6)]⟩ (A5 [12] [.sc (.o 5 (Y X1.row zr))])
def B5z{a1 a5 a4 a0 a2 r6}{n:W}:lh a1 a5 a4 a0 a2 r6 (JL a1 a5 a4 a0 a2 r6 n):=by
 induction n with
 | zero=>intro _ _ r h; cases h
 | succ n ih=>
  intro v7 v8 r h M hσ S hS;refine ev hS ?_;rw[JL] at h;refine AA (Av ?_);obtain⟨h9,h⟩|⟨h9,h⟩:=ic h
  .obtain⟨x10,h10,h⟩:=ob h;obtain⟨x11,h11,h⟩:=ob h;obtain⟨r12,h12,h⟩:=ob h;refine sg ?_;refine AD (Ag GP h12) ?_;obtain⟨h13,h⟩|⟨h13,h⟩:=ic h
   .obtain⟨x14,h14,h⟩:=ob h;obtain⟨x15,h15,h⟩:=ob h;have h15n:=Ah h15;obtain⟨r16,h16,h⟩:=ob h;refine sg ?_;refine CO (Ag Ws h16) ?_;refine sg ?_;refine AU (es:=Y X1.row ([(⟨a1,x10,(x14.A==x15),x11,(IntKind.i64.wrap (x11+r16))⟩:X1)]:O X1)) ?_;obtain⟨h17,h⟩:=AR h;refine sg ?_;exact ih h sq kr
   .refine sg ?_;cases h;exact t0
  .refine sg ?_;cases h;exact t0
instance A83:Ct 167 (∀{a0} {a1} {a2} {a3} {a4} {a5} {r},P1 a0 a1 a2 a3 a4 a5=N r->FC X 167 [.ag (X4.row a0),.sc (.int .i64 a1),.ag (X5.row a2),.sc (.int .i64 a3),.sc (.sl (Y rI a4)),.sc (.sl (Y rI a5))] [.sc (.o 5 (Y X1.row r))]):=by
 refine⟨fun h=> ?_⟩;unfold P1 at h;refine A3 A2 au [12] 87 ?_;have s0:= @Aq (Y X1.row ([]:O X1));have k0:= @B5z;exact gc
def B6v:O (O W × AItem):= [([],(none,.load 65 (S 11) T 4)),([],(none,.faddr 66 (S 11) 1)),([1],(none,.load 67 (S 66) L 1)),([2],(none,.bin 68 .leq (S 67) (K 2880))),([0,0],(none,.store (S 8) (S 65) 4)),([3,4,0,1,2,3,4],(none,.mv 9 (S 68)))]
def aw:Hw:=([(12,[4,8,10,11,46,47,48],[4,8,10,11],[2432])],[])
abbrev Qy(x2 r3 v6:Q)(c0_ c1_:V)(c2_ c3_ c5_:V)(bx_:O (W × O AC))(rs_:Rows):St:=⟨[(8,vc (.pb 8 0)),(11,vc (.pb 11 0)),(65,bif c0_ then va [aI x2,aI r3,aI v6,.own 2432] else .undef),(66,bif c1_ then vc (.pb 11 1) else .undef),(67,bif c2_ then vc (aI r3) else .undef),(68,bif c3_ then vc (aB (decide (r3<=(2880:Q)))) else .undef),(9,bif c5_ then vc (aB (decide (r3<=(2880:Q)))) else .undef)],bx_,rs_⟩
abbrev Wi(x2 r3:Q)(r4:(O X1))(v6:Q):St:=(Qy x2 r3 v6 T T T T T [(8,[aI x2,aI r3,aI v6,.own 2432]),(11,[aI x2,aI r3,aI v6,.own 2432])] [(2432,5,Y X1.row r4)])
def Tl:=fun x2 r3 r4 v6 (f:W) (c0:V) (c1:V) (c2:V) (c3:V) (c4:V) (c5:V) c6 c7 c8 c9=>Dl X B6v (Wi x2 r3 r4 v6) f [c0,c1,c2,c3,c4,c5] (Qy x2 r3 v6 c0 c1 c2 c3 c5 [(8,[aI c6,aI c7,aI c8,(c9)]),(11,[aI x2,aI r3,aI v6,.own 2432])] [(2432,5,Y X1.row r4)])
def bL:Prop:=True
def B50{x2 r3 r4 v6}(H:bL):∀(f:W) (b1 b2:V) (b3 b5:V),Tl x2 r3 r4 v6 f T b1 b2 b3 T b5 x2 r3 v6 (.own 2432):=by
 unfold Tl Qy;intro f
 induction f with
 | zero=>
  intro b1 b2 b3 b5 h;obtain rfl:b1=T:=J.1 h b1 d0;obtain rfl:b2=T:=J.1 h b2 d0;obtain rfl:b3=T:=J.1 h b3 d0;obtain rfl:b5=T:=J.1 h b5 d0;rfl
 | succ f ih=>
  intros;refine Ae ⟨?_,?_,?_,?_,?_,?_,⟨⟩⟩<;>try exact gi
def B51{x2 r3 r4 v6}(H:bL):∀(f:W) (b0 b1:V) (b2 b3:V),Tl x2 r3 r4 v6 f b0 b1 b2 b3 L L (0:Q) (0:Q) (0:Q) .nil:=by
 unfold Tl Qy;intro f
 induction f with
 | zero=>intros; intro h; simp at h
 | succ f ih=>
  intros;refine Ae ⟨?_,?_,?_,?_,?_,?_,⟨⟩⟩<;>try exact gi
  .intro h0 hw;obtain rfl:=hq hw 0 rfl rfl;refine np ?_;try simp only[A7,A8,A4,C,E,F,G,I,U]
   exact B50 H ..
def mS:=fun a2 (a0:X3) (x1:X5) x2 r3 r4 (k_:Q->Q->P (X0 × V))=>∀{v5 v6} {zr},k_ v5 v6=N zr->Kh X 118 aw 12 [4,8,10,11,46,47,48] [4,8,10,11] [2432] ⟨[pB 4,pB 8,pB 10,pB 11,pL 46 rI a2,pI 47 (a2.length:Q),pI 48 v5],[(4,([aI a0.Forecast.Tide.Mean,aM Z a0.Forecast.Tide.Parts,aM X9.row a0.Forecast.Surges,aM X7.row a0.Chart.Points,aM X2.row a0.Chart.Segments,aM X5.row a0.Fleet,aI a0.Regime.Gap,aB a0.Regime.NoMeet]++dm a0.Crew.row)),(8,[aI (0:Q),aI (0:Q),aI (0:Q),.nil]),(10,(dm x1.row)),(11,[aI x2,aI r3,aI v6,.own 2432])],[(2432,5,Y X1.row r4)]⟩ (A5 [.c 8 T 4,9] [.ag [.v (.int .i64 zr.1.Start),.v (.int .i64 zr.1.Arrival),.v (.int .i64 zr.1.Cost),.o 5 (Y X1.row zr.1.Passages)],.sc (.v (.bool zr.2))])
def B52{a2 a0 x1 x2 r3 r4}{n:W}:mS a2 a0 x1 x2 r3 r4 (HH a2 a0 x1 x2 r3 r4 n):=by
 induction n with
 | zero=>intro _ _ r h; cases h
 | succ n ih=>
  intro v5 v6 r h M hσ S hS;refine ev hS ?_;rw[HH] at h;refine AA (Av ?_);obtain⟨h7,h⟩|⟨h7,h⟩:=ic h
  .obtain⟨x8,h8,h⟩:=ob h;obtain⟨x9,h9,h⟩:=ob h;obtain⟨r10,h10,h⟩:=ob h;refine sg ?_;refine CO (Ag Ws h10) ?_;refine sg ?_;exact ih h sq kr
  .refine sg ?_;refine DL (ks:= [8,11]) (bs:= [8,11]) (rs:= [2432]) (τ:=(Wi x2 r3 r4 v6)) rfl (B51 ⟨⟩ _ L L L L) ?_;simp only[Wi,Qy,A7];refine sg ?_;cases h;try simp only[Qq,C,E,F,G,I,U]
   trivial
instance A9g:Ct 118 (∀{a0} {a1} {a2} {a3} {r},M5 a0 a1 a2 a3=N r->FC X 118 [.ag (X3.row a0),.ag (X8.row a1),.sc (.sl (Y rI a2)),.sc (.sl (Y rI a3))] [.ag [.v (.int .i64 r.1.Start),.v (.int .i64 r.1.Arrival),.v (.int .i64 r.1.Cost),.o 5 (Y X1.row r.1.Passages)],.sc (.v (.bool r.2))]):=by
 refine⟨fun{a0} {a1} {a2} {a3} {r} h=> ?_⟩;unfold M5 at h;refine A3 A2 aw [.c 8 T 4,9] 69 ?_;intro S hS;refine ev hS ?_;obtain⟨x1,h1,h⟩:=ob h;obtain⟨x2,h2,h⟩:=ob h;obtain⟨r3,h3,h⟩:=ob h;refine sg ?_;refine CO (Ag A8t h3) ?_;obtain⟨r4,h4,h⟩:=ob h;refine sg ?_;refine CO (Ag A83 h4) ?_;refine sg ?_;refine Uj (m:= .box 11 [aI (0:Q),aI (0:Q),aI (0:Q),.nil]) rfl rfl (SO rfl rfl) ?_;refine sg ?_;exact B52 h sq kr
def az:Hw:=([(5,[2,3,4,5,8,33],[4,5,8],[])],[])
def lf:=fun a2 a3 (a0:X3) (a1:X8) (k_:V->P (X0 × V))=>∀{v6} {zr},k_ v6=N zr->Kh X 113 az 5 [2,3,4,5,8,33] [4,5,8] [] ⟨[pL 2 rI a2,pI 3 a3,pB 4,pB 5,pB 8,(33,vc (aB v6))],[(4,([aI a0.Forecast.Tide.Mean,aM Z a0.Forecast.Tide.Parts,aM X9.row a0.Forecast.Surges,aM X7.row a0.Chart.Points,aM X2.row a0.Chart.Segments,aM X5.row a0.Fleet,aI a0.Regime.Gap,aB a0.Regime.NoMeet]++dm a0.Crew.row)),(5,(dm a1.row)),(8,[aI (0:Q),aI (0:Q),aI (0:Q),.nil])],[]⟩ (A5 [.c 8 T 4,9] [.ag [.v (.int .i64 zr.1.Start),.v (.int .i64 zr.1.Arrival),.v (.int .i64 zr.1.Cost),.o 5 (Y X1.row zr.1.Passages)],.sc (.v (.bool zr.2))])
def B53{a2 a3 a0 a1}:lf a2 a3 a0 a1 (Hr a2 a3 a0 a1):=by
 intro v6 r h M hσ;unfold Hr at h;exact gc
instance C1b:Ct 113 (∀{a0} {a1} {a2} {a3} {r},LW a0 a1 a2 a3=N r->FC X 113 [.ag (X3.row a0),.ag (X8.row a1),.sc (.sl (Y rI a2)),.sc (.int .i64 a3)] [.ag [.v (.int .i64 r.1.Start),.v (.int .i64 r.1.Arrival),.v (.int .i64 r.1.Cost),.o 5 (Y X1.row r.1.Passages)],.sc (.v (.bool r.2))]):=by
 refine⟨fun h=> ?_⟩;unfold LW at h;refine A3 A2 az [.c 8 T 4,9] 68 ?_;have k0:= @B53;exact gc
def Rb:Xf:=EF [XX [3,36,37,38] [3] []] (EF [bn 39 .lss 38 37] (XZ 39 0 1 (EF [mv 40 38,ia 41 36 38 5,lw 42 41 5,md 6 [aI 0,aI 0,aB L,aI 0,aI 0],mv 5 40,so 6 42 5] (QV (.drw [o0 (lw 43 6 5),o0 (fa 44 3 3),o0 (ld 45 44),o0 (mv 46 5),o0 (ia 47 45 46 5),o0 (lw 48 47 5),o0 (none,.geq 49 T [.i,.i,.b,.i,.i] (S 43) (S 48))]) (XU 49 (KK [GR 4 L])))) (XW 50 38)))
def TZ:Xf:=(KK [GR 4 T])
def YL:Xf:=(EF [bo 2 0,bo 3 1,GR 4 L] (Y0 [fa 7 2 0,ld 8 7,fa 9 3 0,ld 10 9,bn 11 .neq 8 10,mv 12 11,Mb 12 L 13 2 1,Mc 12 L 14 13,Mb 12 L 15 3 1,Mc 12 L 16 15,Uh 12 L 17 .neq 14 16,po 18 12 17,mv 19 18,Mb 19 L 20 2 2,Mc 19 L 21 20,Mb 19 L 22 3 2,Mc 19 L 23 22,Uh 19 L 24 .neq 21 23,po 25 19 24,mv 26 25,Mb 26 L 27 2 3,Mc 26 L 28 27,Ze 26 L 29 28,Mb 26 L 30 3 3,Mc 26 L 31 30,Ze 26 L 32 31,Uh 26 L 33 .neq 29 32,po 34 26 33] 34 (KK [GR 4 L]) (QV (EF [fa 35 2 3,ld 36 35,ln 37 36,XY 38 0] (XS 0 Rb)) TZ)))
def lu:=fun(a0:X0) (a1:X0) (k_:Q->P V)=>∀{v5} {zr},k_ v5=N zr->Kp X [3,36,37,38] [3] [] ⟨[pB 3,pL 36 X1.row a0.Passages,pI 37 (a0.Passages.length:Q),pI 38 v5],[(3,(dm a1.row))],[]⟩ (.code (.loop Rb):: [.blk 0,.code TZ]) (A5 [4] [.sc (.v (.bool zr))])
def wq7{a0 a1}{n:W}:lu a0 a1 (JR a0 a1 n):=by
 induction n with
 | zero=>intro _ r h; cases h
 | succ n ih=>
  intro v5 r h M hσ;rw[JR] at h;refine AA ?_;obtain⟨h6,h⟩|⟨h6,h⟩:=ic h
  .obtain⟨x7,h7,h⟩:=ob h;try simp only[hσ,h6,h7,Rb,C,E,F,G,I,U]
   refine MV ?_;try simp only[h6,h7,C,E,F,G,I,U]
   refine CC ?_;obtain⟨x8,h8,h⟩:=ob h;obtain⟨h9,h⟩|⟨h9,h⟩:=ic h
   .try simp only[h6,h7,h8,h9,C,E,F,G,I,U]
    refine ih h ?_;try simp only[h6,h7,h8,h9,C,E,F,G,I,U,pL,aM,List.map_nil]
   .try simp only[h6,h7,h8,h9,C,E,F,G,I,U]
    cases h;exact t0
  .try simp only[hσ,h6,Rb,TZ,C,E,F,G,I,U]
   cases h;exact t0
instance A87:Ct 72 (∀{a0} {a1} {r},EY a0 a1=N r->FC X 72 [.ag (X0.row a0),.ag (X0.row a1)] [.sc (.v (.bool r))]):=by
 refine⟨fun{a0} {a1} {r} h=> ?_⟩;unfold EY at h;refine WP A2 YL [4] 51 ?_;simp only[YL,C,E,F,G,I,U];try simp only[C,E,F,G,I,U]
 refine N1 ?_;try simp only[C,E,F,G,I,U]
 refine N1 ?_;obtain⟨h1,h⟩|⟨h1,h⟩:=ic h
 .try simp only[h1,C,E,F,G,I,U]
  cases h;exact t0
 .obtain⟨h2,h⟩|⟨h2,h⟩:=ic h
  .try simp only[h1,h2,C,E,F,G,I,U]
   cases h;exact t0
  .obtain⟨h3,h⟩|⟨h3,h⟩:=ic h
   .try simp only[h1,h2,h3,C,E,F,G,I,U]
    cases h;exact t0
   .obtain⟨h4,h⟩|⟨h4,h⟩:=ic h
    .try simp only[h1,h2,h3,h4,C,E,F,G,I,U]
     cases h;exact t0
    .try simp only[h1,h2,h3,h4,C,E,F,G,I,U]
     refine wq7 h ?_;try simp only[h1,h2,h3,h4,C,E,F,G,I,U,pL,aM,List.map_nil]
def bA:Hw:=([(16,[3,4,5,7,18,19,20],[3,4,5],[1024])],[])
def lX:=fun(a2:X0) (a0:X3) (a1:X8) (k_:Q->(O Q)->P V)=>∀{v3 v4} {zr},k_ v3 v4=N zr->Kh X 69 bA 16 [3,4,5,7,18,19,20] [3,4,5] [1024] ⟨[pB 3,pB 4,pB 5,pW 7 1024,pL 18 X1.row a2.Passages,pI 19 (a2.Passages.length:Q),pI 20 v3],[(3,([aI a0.Forecast.Tide.Mean,aM Z a0.Forecast.Tide.Parts,aM X9.row a0.Forecast.Surges,aM X7.row a0.Chart.Points,aM X2.row a0.Chart.Segments,aM X5.row a0.Fleet,aI a0.Regime.Gap,aB a0.Regime.NoMeet]++dm a0.Crew.row)),(4,(dm a1.row)),(5,[aI a2.Start,aI a2.Arrival,aI a2.Cost,aM X1.row a2.Passages])],[(1024,1,Y rI v4)]⟩ (A5 [6] [.sc (.v (.bool zr))])
def B55{a2 a0 a1}{n:W}:lX a2 a0 a1 (JG a2 a0 a1 n):=by
 induction n with
 | zero=>intro _ _ r h; cases h
 | succ n ih=>
  intro v3 v4 r h M hσ;rw[JG] at h;have s0:=fun(x6:X1)=> @Aq (Y rI ([x6.Segment]:O Q))
  exact gc
instance A81:Ct 69 (∀{a0} {a1} {a2} {r},LU a0 a1 a2=N r->FC X 69 [.ag (X3.row a0),.ag (X8.row a1),.ag (X0.row a2)] [.sc (.v (.bool r))]):=by
 refine⟨fun h=> ?_⟩;unfold LU at h;refine A3 A2 bA [6] 45 ?_;have s0:= @Aq (Y rI ([]:O Q));have k0:= @B55;exact gc
instance A9l:Ct 70 (∀{a0} {r},Pp a0=N r->FC X 70 [.ag (X0.row a0)] [.ag [.v (.int .i64 r.Start),.v (.int .i64 r.Arrival),.v (.int .i64 r.Cost),.o 5 (Y X1.row r.Passages)]]):=by
 refine⟨fun h=> ?_⟩;unfold Pp at h;refine A3 A2 h0 [.c 2 T 4] 9 ?_;have s0:= @Aq (Y X1.row ([]:O X1));exact gc
end Go.Vi
