/-
Walks. No condition.
-/
import Derived.Test.YtjaofdfehibjhaaGreatDoorSNf
import Derived.Test.YtjaofdfehibjhaaGreatDoorChecked
import Derived.Test.YtjaofdfehibjhaaGreatDoorSSh
import Derived.KernelRfl
import Derived.Test.YtjaofdfehibjhaaGreatDoorSWStrategiesa
namespace Go.Vi
open Go.Proofs
set_option linter.all false
set_option maxRecDepth 4000
set_option maxHeartbeats 2000000
open Nat renaming reduceBEq → C, reduceMul → E, reduceAdd → F, reduceDiv → G, le_of_ble_eq_true → uf
open Int renaming reduceBEq → H
attribute [local irreducible] go AWP
open List renaming map → Y, map_nil → I, all_cons → zE, all_nil → zF, replicate → zG, all_eq_true → zH, cons_append → zI, nil_append → zJ
open Tryz renaming prog → Z
open Int renaming toNat → zA
open Xb renaming row → zB
open Xg renaming row → zC
open Xc renaming row → zD
open Bool renaming true → T, false → L
open Option renaming some → N, none → O
open _root_ renaming List → P, Option → Q, Int → U, Bool → V, Nat → W, rfl → X
/- 58:impl_copyForecast -/
def cc227:X2:=(.seq (.reg [bo 1 0,(O,.alloc 2 [aI 0,.nil,.nil])]) (.seq (.drw [o0 (fa 3 1 0),o0 (lw 4 3 2),o0 (ca 5 57 [S 4]),(N [5],fa 6 1 2),(N [5],ld 7 6),o0 (ca 8 37 [S 7]),o0 (O,.build 9 [aI 0,.nil,.nil] [(0,2,(S 5)),(2,1,(S 8))]),(O,so 2 9 3)]) .ret))
theorem F6x:A5 Z 58=N (cc227.strip,[.c 2 T 3],10):=by kernel_rfl
theorem B5l(a0 r:X8)(h:A4t a0=N r):FC Z 58 [.ag (X8.row a0)] [.ag [.v (.int .i64 r.Tide.Mean),.o 3 (Y Xe.row r.Tide.Parts),.o 3 (Y X6.row r.Surges)]]:=by
 unfold A4t at h
 refine C3 mixed F6x X ?_
 simp only[cc227,C,E,F,G,H,J]
 try simp only[C,E,F,G,H,J]
 refine B2 X X X ?_
 try simp only[C,E,F,G,H,J]
 refine B7 X X ?_
 try simp only[C,E,F,G,H,J]
 refine B3 X ?_
 obtain⟨r1,h1,h⟩:=ob h
 try simp only[C,E,F,G,H,J]
 refine E1 (B2q _ _ h1) X X (uf X) ?_
 obtain⟨r2,h2,h⟩:=ob h
 try simp only[C,E,F,G,H,J]
 refine E1 (A7k _ _ h2) X X (uf X) ?_
 try simp only[C,E,F,G,H,J]
 refine B3 X ?_
 try simp only[C,E,F,G,H,J]
 cases h
 try simp only[I2,C,E,F,G,H,J]
 trivial
/- 59:impl_clone_Point -/
def cc229:X2:=(.seq (.reg [(O,.mv 2 KN)]) (.seq (.reg [mv 3 0,ln 4 3,(O,.mksl 5 2 24 [.str [],.bool L] (K 0) (S 4)),mv 6 0,(O,.app 7 2 24 (S 5) (S 6)),mv 2 7]) .ret))
theorem F7g:A5 Z 59=N (cc229.strip,[2],8):=by kernel_rfl
theorem B6m(a0:P Xd)(r:(P Xd))(h:A2w a0=N r):FC Z 59 [.sc (.sl (Y Xd.row a0))] [.sc (.o 2 (Y Xd.row r))]:=by
 unfold A2w at h
 refine C3 mixed F7g X ?_
 simp only[cc229,C,E,F,G,H,J]
 obtain⟨n1,hn1,h⟩:=ob h
 try simp only[C,E,F,G,H,J]
 refine A7l (es:=Y Xd.row (zG n1 (⟨([]:P UInt8),L⟩:Xd))) X X hn1 X (A54 X) X ?_
 obtain⟨h2,h⟩:=C9 h
 try simp only[h2,C,E,F,G,H,J]
 cases h
 trivial
/- 60:impl_clone_Segment -/
def cc231:X2:=(.seq (.reg [(O,.mv 2 KN)]) (.seq (.reg [mv 3 0,ln 4 3,(O,.mksl 5 5 40 [.int .i64 0,.int .i64 0,.int .i64 0,.int .i64 0,.bool L] (K 0) (S 4)),mv 6 0,(O,.app 7 5 40 (S 5) (S 6)),mv 2 7]) .ret))
theorem F9x:A5 Z 60=N (cc231.strip,[2],8):=by kernel_rfl
theorem B4x(a0:P X3)(r:(P X3))(h:A03 a0=N r):FC Z 60 [.sc (.sl (Y X3.row a0))] [.sc (.o 5 (Y X3.row r))]:=by
 unfold A03 at h
 refine C3 mixed F9x X ?_
 simp only[cc231,C,E,F,G,H,J]
 obtain⟨n1,hn1,h⟩:=ob h
 try simp only[C,E,F,G,H,J]
 refine A7l (es:=Y X3.row (zG n1 (⟨(0:U),(0:U),(0:U),(0:U),L⟩:X3))) X X hn1 X (A54 X) X ?_
 obtain⟨h2,h⟩:=C9 h
 try simp only[h2,C,E,F,G,H,J]
 cases h
 trivial
/- 61:impl_clone_Ship -/
def cc233:X2:=(.seq (.reg [(O,.mv 2 KN)]) (.seq (.reg [mv 3 0,ln 4 3,(O,.mksl 5 6 56 [.str [],.int .i64 0,.int .i64 0,.int .i64 0,.int .i64 0,.bool L] (K 0) (S 4)),mv 6 0,(O,.app 7 6 56 (S 5) (S 6)),mv 2 7]) .ret))
theorem F7t:A5 Z 61=N (cc233.strip,[2],8):=by kernel_rfl
theorem B71(a0:P Xc)(r:(P Xc))(h:A3i a0=N r):FC Z 61 [.sc (.sl (Y zD a0))] [.sc (.o 6 (Y zD r))]:=by
 unfold A3i at h
 refine C3 mixed F7t X ?_
 simp only[cc233,C,E,F,G,H,J]
 obtain⟨n1,hn1,h⟩:=ob h
 try simp only[C,E,F,G,H,J]
 refine A7l (es:=Y zD (zG n1 (⟨([]:P UInt8),(0:U),(0:U),(0:U),(0:U),L⟩:Xc))) X X hn1 X (A54 X) X ?_
 obtain⟨h2,h⟩:=C9 h
 try simp only[h2,C,E,F,G,H,J]
 cases h
 trivial
/- 33:impl_copyHarbour -/
def cc235:X2:=(.seq (.reg [bo 1 0,(O,.alloc 2 [aI 0,.nil,.nil,.nil,.nil,.nil,aI 0,aB L,aI 0,aI 0,aI 0,.nil])]) (.seq (.reg [lw 4 1 12,(O,.alloc 3 [aI 0,.nil,.nil,.nil,.nil,.nil,aI 0,aB L,aI 0,aI 0,aI 0,.nil]),so 3 4 12]) (.seq (.reg [fa 5 1 0,lw 6 5 3,ca 7 58 [S 6],fa 8 3 0,so 8 7 3]) (.seq (.drw [o0 (fa 9 1 3),o0 (fa 10 9 0),o0 (ld 11 10),o0 (ca 12 59 [S 11]),(N [12],fa 13 1 3),(N [12],fa 14 13 1),(N [12],ld 15 14),o0 (ca 16 60 [S 15]),o0 (O,.build 17 [.nil,.nil] [(0,1,(S 12)),(1,1,(S 16))]),o0 (fa 18 3 3),(O,so 18 17 2)]) (.seq (.reg [fa 19 1 5,ld 20 19,ca 21 61 [S 20],fa 22 3 5,so 22 21 1]) (.seq (.reg [fa 23 1 8,fa 24 23 3,ld 25 24,ca 26 21 [S 25],fa 27 3 8,fa 28 27 3,so 28 26 1]) (.seq (.reg [lw 29 3 12,so 2 29 12]) .ret)))))))
theorem F24:A5 Z 33=N (cc235.strip,[.c 2 T 12],30):=by kernel_rfl
theorem B62(a0 r:X4)(h:A2m a0=N r):FC Z 33 [.ag (X4.row a0)] [.ag [.v (.int .i64 r.Forecast.Tide.Mean),.o 3 (Y Xe.row r.Forecast.Tide.Parts),.o 3 (Y X6.row r.Forecast.Surges),.o 2 (Y Xd.row r.Chart.Points),.o 5 (Y X3.row r.Chart.Segments),.o 6 (Y zD r.Fleet),.v (.int .i64 r.Regime.Gap),.v (.bool r.Regime.NoMeet),.v (.int .i64 r.Crew.Tugs),.v (.int .i64 r.Crew.Pilots),.v (.int .i64 r.Crew.Rest),.o 1 (Y rI r.Crew.Moves)]]:=by
 unfold A2m at h
 refine C3 mixed F24 X ?_
 simp only[cc235,C,E,F,G,H,J]
 try simp only[C,E,F,G,H,J]
 refine B2 X X X ?_
 try simp only[C,E,F,G,H,J]
 refine B7 X X ?_
 try simp only[C,E,F,G,H,J]
 refine B7 X X ?_
 obtain⟨r1,h1,h⟩:=ob h
 try simp only[C,E,F,G,H,J]
 refine A2 (B5l _ _ h1) X X (uf X) ?_
 try simp only[C,E,F,G,H,J]
 refine B3 X ?_
 obtain⟨r2,h2,h⟩:=ob h
 try simp only[C,E,F,G,H,J]
 refine E1 (B6m _ _ h2) X X (uf X) ?_
 obtain⟨r3,h3,h⟩:=ob h
 try simp only[C,E,F,G,H,J]
 refine E1 (B4x _ _ h3) X X (uf X) ?_
 try simp only[C,E,F,G,H,J]
 refine B3 X ?_
 obtain⟨r4,h4,h⟩:=ob h
 try simp only[C,E,F,G,H,J]
 refine A2 (B71 _ _ h4) X X (uf X) ?_
 obtain⟨r5,h5,h⟩:=ob h
 try simp only[C,E,F,G,H,J]
 refine A2 (A16 _ _ h5) X X (uf X) ?_
 try simp only[C,E,F,G,H,J]
 cases h
 try simp only[I2,C,E,F,G,H,J]
 trivial
/- 9:impl_AfterReading -/
def C5p:X2:= .seq (.reg [(O,.keep [4,8,10,28] [4,8,10] [1217,1218])]) (.cond (S 28) (.seq (.reg [(O,.build 29 [aI 0,.nil,.nil,.nil,.nil,.nil,aI 0,aB L,aI 0,aI 0,aI 0,.nil] []),so 8 29 12,(O,.mv 9 (KB L))]) .ret) .skip)
def D2y:X2:=(.seq (.reg [lw 30 4 12,ca 31 33 [S 30],(O,.alloc 12 [aI 0,.nil,.nil,.nil,.nil,.nil,aI 0,aB L,aI 0,aI 0,aI 0,.nil]),so 12 31 12]) (.seq (.reg [lw 32 10 3,fa 33 12 0,so 33 32 3]) (.seq (.reg [lw 34 12 12,so 8 34 12,(O,.mv 9 (KB T))]) .ret)))
def cc239:X2:=(.seq (.reg [bo 4 0,(O,.alloc 8 [aI 0,.nil,.nil,.nil,.nil,.nil,aI 0,aB L,aI 0,aI 0,aI 0,.nil]),(O,.mv 9 (KB L))]) (.seq (.reg [fa 14 4 0,lw 15 14 3,mv 16 1,mv 17 2,mv 18 3,ca 19 32 [S 15,S 16,S 17,S 18],mv 13 19,xt 20 13 0,xt 21 13 1,(O,.alloc 10 [aI 0,.nil,.nil]),so 10 20 3,mv 11 21]) (.seq (.seq (.reg [mv 22 11,nt 23 22,mv 24 23,(N (24,L),.load 25 (S 4) T 12),(N (24,L),.call 26 27 [(S 25)]),(N (24,L),.un 27 .not (S 26)),po 28 24 27]) C5p) D2y)))
theorem E26(a0:X4)(r1:X8 × V)(v4:V)(r:X4 × V)(h:A0s a0 r1 v4=N r)(σ:St)(hσ:σ.kept [4,8,10,28] [4,8,10] [1217,1218]=⟨[(4,vc (.pb 4 0)),(8,vc (.pb 8 0)),(10,vc (.pb 10 0)),(28,vc (aB v4))],[(4,(dm a0.row)),(8,[aI (0:U),.nil,.nil,.nil,.nil,.nil,aI (0:U),aB L,aI (0:U),aI (0:U),aI (0:U),.nil]),(10,[aI r1.1.Tide.Mean,.own 1217,.own 1218])],[(1217,3,Y Xe.row r1.1.Tide.Parts),(1218,3,Y X6.row r1.1.Surges)]⟩):go Z (.code C5p:: [.code D2y]) (Ret [.c 8 T 12,9] [.ag [.v (.int .i64 r.1.Forecast.Tide.Mean),.o 3 (Y Xe.row r.1.Forecast.Tide.Parts),.o 3 (Y X6.row r.1.Forecast.Surges),.o 2 (Y Xd.row r.1.Chart.Points),.o 5 (Y X3.row r.1.Chart.Segments),.o 6 (Y zD r.1.Fleet),.v (.int .i64 r.1.Regime.Gap),.v (.bool r.1.Regime.NoMeet),.v (.int .i64 r.1.Crew.Tugs),.v (.int .i64 r.1.Crew.Pilots),.v (.int .i64 r.1.Crew.Rest),.o 1 (Y rI r.1.Crew.Moves)],.sc (.v (.bool r.2))]) .normal (N σ):=by
 unfold A0s at h
 rcases ic h with ⟨h5,h⟩|⟨h5,h⟩
 ·try simp only[hσ,h5,C5p,C,E,F,G,H,J]
  cases h
  try simp only[I2,C,E,F,G,H,J]
  trivial
 ·obtain⟨r6,h6,h⟩:=ob h
  try simp only[hσ,h5,C5p,D2y,C,E,F,G,H,J]
  refine A2 (B62 _ _ h6) X X (uf X) ?_
  try simp only[h5,C,E,F,G,H,J]
  refine B7 X X ?_
  try simp only[h5,C,E,F,G,H,J]
  cases h
  try simp only[I2,C,E,F,G,H,J]
  trivial
theorem F38:A5 Z 9=N (cc239.strip,[.c 8 T 12,9],35):=by kernel_rfl
theorem A7d(a0:X4)(a1 a2 a3:U)(r:X4 × V)(h:O9 a0 a1 a2 a3=N r):FC Z 9 [.ag (X4.row a0),.sc (.int .i64 a1),.sc (.int .i64 a2),.sc (.int .i64 a3)] [.ag [.v (.int .i64 r.1.Forecast.Tide.Mean),.o 3 (Y Xe.row r.1.Forecast.Tide.Parts),.o 3 (Y X6.row r.1.Forecast.Surges),.o 2 (Y Xd.row r.1.Chart.Points),.o 5 (Y X3.row r.1.Chart.Segments),.o 6 (Y zD r.1.Fleet),.v (.int .i64 r.1.Regime.Gap),.v (.bool r.1.Regime.NoMeet),.v (.int .i64 r.1.Crew.Tugs),.v (.int .i64 r.1.Crew.Pilots),.v (.int .i64 r.1.Crew.Rest),.o 1 (Y rI r.1.Crew.Moves)],.sc (.v (.bool r.2))]:=by
 unfold O9 at h
 refine C3 mixed F38 X ?_
 simp only[cc239,C,E,F,G,H,J]
 try simp only[C,E,F,G,H,J]
 refine B2 X X X ?_
 try simp only[C,E,F,G,H,J]
 refine B7 X X ?_
 obtain⟨r1,h1,h⟩:=ob h
 try simp only[C,E,F,G,H,J]
 refine A2 (B8e _ _ _ _ _ h1) X X (uf X) ?_
 try simp only[C,E,F,G,H,J]
 refine B7 X X ?_
 rcases ic h with ⟨h2,h⟩|⟨h2,h⟩
 ·obtain⟨r3,h3,h⟩:=ob h
  try simp only[h2,C,E,F,G,H,J]
  refine A2 (A6k _ _ h3) X X (uf X) ?_
  try simp only[h2,C,E,F,G,H,J]
  refine E26 _ _ _ _ h _ ?_
  try simp only[h2,C,E,F,G,H,J,I]
 ·try simp only[h2,C,E,F,G,H,J]
  refine E26 _ _ _ _ h _ ?_
  try simp only[h2,C,E,F,G,H,J,I]
/- 75:impl_CallOk -/
def cc242:X2:=(.seq (.reg [bo 2 0,bo 3 1,(O,.mv 4 (KB L))]) (.seq (.reg [lw 5 2 12,ca 6 27 [S 5],mv 7 6,(N (7,T),.load 8 (S 2) T 12),(N (7,T),.load 9 (S 3) T 5),(N (7,T),.call 10 28 [(S 8),(S 9)]),pa 11 7 10,mv 4 11]) .ret))
theorem F7v:A5 Z 75=N (cc242.strip,[4],12):=by kernel_rfl
theorem B44(a0:X4)(a1:Xa)(r:V)(h:A4y a0 a1=N r):FC Z 75 [.ag (X4.row a0),.ag (Xa.row a1)] [.sc (.v (.bool r))]:=by
 unfold A4y at h
 refine C3 mixed F7v X ?_
 simp only[cc242,C,E,F,G,H,J]
 try simp only[C,E,F,G,H,J]
 refine B2 X X X ?_
 try simp only[C,E,F,G,H,J]
 refine B2 X X X ?_
 obtain⟨r1,h1,h⟩:=ob h
 try simp only[C,E,F,G,H,J]
 refine A2 (A6k _ _ h1) X X (uf X) ?_
 rcases ic h with ⟨h2,h⟩|⟨h2,h⟩
 ·obtain⟨r3,h3,h⟩:=ob h
  try simp only[h2,C,E,F,G,H,J]
  refine A2 (B5d _ _ _ h3) X X (uf X) ?_
  try simp only[h2,C,E,F,G,H,J]
  cases h
  trivial
 ·try simp only[h2,C,E,F,G,H,J]
  cases h
  trivial
/- 140:impl_Segment_end -/
def cc244:X2:=(.seq (.reg [bo 2 0,(O,.mv 4 (K 0))]) (.seq (.seq (.reg [mv 5 1]) (.block 0 (.seq (.reg [fa 7 2 0,ld 8 7,bn 9 .eql 5 8,mv 6 9]) (.cond (S 6) (.seq (.reg [fa 10 2 1,ld 11 10,mv 4 11]) .ret) (.seq (.reg [fa 13 2 1,ld 14 13,bn 15 .eql 5 14,mv 12 15]) (.cond (S 12) (.seq (.reg [fa 16 2 0,ld 17 16,mv 4 17]) .ret) .skip)))))) (.seq (.reg [(O,.mv 4 (K (-1)))]) .ret)))
theorem F4z:A5 Z 140=N (cc244.strip,[4],18):=by kernel_rfl
theorem B0d(a0:X3)(a1 r:U)(h:A0q a0 a1=N r):FC Z 140 [.ag (X3.row a0),.sc (.int .i64 a1)] [.sc (.v (.int .i64 r))]:=by
 unfold A0q at h
 refine C3 mixed F4z X ?_
 simp only[cc244,C,E,F,G,H,J]
 try simp only[C,E,F,G,H,J]
 refine B2 X X X ?_
 rcases ic h with ⟨h1,h⟩|⟨h1,h⟩
 ·try simp only[h1,C,E,F,G,H,J]
  cases h
  trivial
 ·rcases ic h with ⟨h2,h⟩|⟨h2,h⟩
  ·try simp only[h1,h2,C,E,F,G,H,J]
   cases h
   trivial
  ·try simp only[h1,h2,C,E,F,G,H,J]
   cases h
   trivial
/- 119:impl_Chart_routesFrom -/
def O1:P (P W × AItem):= [([],(O,.mv 18 (S 5))),([],(O,.mv 19 (S 5))),([1],(O,.nilc 20 (S 19))),([2],(O,.load 21 (S 20) L 1)),([],(O,.mv 22 (S 3))),([4],(O,.call 23 21 [(S 22)])),([5],(O,.bslice 24 1 [.sl []] 1 [(0,(S 23))])),([3,6,5],(O,.app 25 1 24 (S 21) (S 24))),([0,0,1,2,3,4,5,6,7],(O,.nilc 26 (S 18))),([8,7,7,0,1,2,3,4,5,6,7],(O,.store (S 26) (S 25) 1))]
def K1:P (P W × AItem):= [([],(O,.load 48 (S 6) T 2)),([],(O,.mv 49 (S 14))),([],(O,.mv 50 (S 2))),([],(O,.mv 51 (S 3))),([3],(O,.call 52 21 [(S 51)])),([],(O,.mv 53 (S 12))),([5],(O,.bslice 54 1 [.int .i64 0] 1 [(0,(S 53))])),([4,6,4],(O,.app 55 1 8 (S 52) (S 54))),([],(O,.load 56 (S 10) T 8)),([],(O,.mv 57 (S 5))),([0,1,2,7,8,9,7],(O,.call 58 119 [(S 48),(S 49),(S 50),(S 55),(S 56),(S 57)]))]
def C46:X2:= .seq (.reg [(O,.keep [1,2,3,5,6,10,12,14,30,31,32,47] [99999999999,6,10] [90000])]) (.cond (S 47) (.any K1) .skip)
def C6e:X2:=(.reg [(O,.bin 59 .add (S 32) (K 1)),mv 32 59])
def B7y:X2:= .seq (.reg [(O,.keep [1,2,3,5,6,10,30,31,32] [99999999999,6,10] [90000])]) (.seq (.reg [bn 33 .lss 32 31]) (.seq (.cond (S 33) .skip (.exit 0)) (.seq (.block 1 (.seq (.reg [mv 34 32,ia 35 30 32 5,lw 36 35 5,(O,.alloc 13 [aI 0,aI 0,aI 0,aI 0,aB L]),mv 12 34,so 13 36 5]) (.seq (.reg [lw 37 13 5,mv 38 1,ca 39 140 [S 37,S 38],mv 14 39]) (.seq (.reg [mv 40 14,(O,.bin 41 .geq (S 40) (K 0)),mv 42 41,(N (42,T),.mv 43 (S 14)),(N (42,T),.aaddr 44 (S 10) (S 43) 8 1),(N (42,T),.load 45 (S 44) L 1),(N (42,T),.un 46 .not (S 45)),pa 47 42 46]) C46)))) C6e)))
def cc249:X2:=(.seq (.reg [bo 6 0,bo 10 4]) (.seq (.seq (.reg [mv 15 1,mv 16 2,bn 17 .eql 15 16]) (.cond (S 17) (.seq (.any O1) .ret) .skip)) (.seq (.reg [mv 27 1,(O,.aaddr 28 (S 10) (S 27) 8 1),(O,.store (S 28) (KB T) 1)]) (.seq (.reg [fa 29 6 1,ld 30 29,ln 31 30,(O,.mv 32 (K 0))]) (.block 0 (.loop B7y))))))
abbrev D2(a3:P U)(wo3_ wo5_:AV)(c0_ c1_:V)(c2_ c3_:V)(c4_ c5_:V)(c6_ c7_ c8_:V)(bx_:P (W × P AC))(rs_:Rows):St:=⟨[(3,vc (aL (Y rI a3))),(5,vc (.pb 99999999999 0)),(18,bif c0_ then vc (.pb 99999999999 0) else .undef),(19,bif c1_ then vc (.pb 99999999999 0) else .undef),(20,bif c2_ then vc (.pb 99999999999 0) else .undef),(21,bif c3_ then wo3_ else .undef),(22,bif c4_ then vc (aL (Y rI a3)) else .undef),(23,bif c5_ then wo5_ else .undef),(24,bif c6_ then vc (.own 1536) else .undef),(25,bif c7_ then vc (.own 90000) else .undef),(26,bif c8_ then vc (.pb 99999999999 0) else .undef)],bx_,rs_⟩
abbrev J5(a3:P U)(a5:P (P U))(r2:(P U)):St:=(D2 a3 (vc (.undef)) (vc (aL (Y rI r2))) T T T T T T T T T [(99999999999,[.own 90000])] [(90000,1,Y (rL rI) (a5++([r2]:P (P U)))),(1536,1,Y (rL rI) ([r2]:P (P U)))])
theorem F6z(rec_:X9→U→U→(P U)→X7→(P (P U))→Q (P (P U)))(h_rec:∀(a0:X9) (a1 a2:U) (a3:P U) (a4:X7) (a5:P (P U)) zr,rec_ a0 a1 a2 a3 a4 a5=N zr→FCz Z 119 [.d (.ag (X9.row a0)),.d (.sc (.int .i64 a1)),.d (.sc (.int .i64 a2)),.d (.sc (.sl (Y rI a3))),.d (.ag (X7.row a4)),.p] [.r 0] [(1,Y (rL rI) a5)] [.r 0] [(1,Y (rL rI) zr)] [])(a3:P U)(a5:P (P U))(r2:(P U))(h2:D5 a3=N r2)(h3:(B9 a5.length ([r2]:P (P U)).length 24)=T):∀(f:W),E0 Z O1 (J5 a3 a5 r2) f [T,T,T,T,T,T,T,T,T,T] (D2 a3 (vc (.undef)) (vc (aL (Y rI r2))) T T T T T T T T T [(99999999999,[.own 90000])] [(90000,1,Y (rL rI) (a5++([r2]:P (P U)))),(1536,1,Y (rL rI) ([r2]:P (P U)))]):=by
 intro f
 induction f with
 | zero=>intro h; rfl
 | succ f ih=>
  refine A9 ⟨?_,?_,?_,?_,?_,?_,?_,?_,?_,?_,⟨⟩⟩<;>try first | (intro h; cases h; done)
theorem F17(rec_:X9→U→U→(P U)→X7→(P (P U))→Q (P (P U)))(h_rec:∀(a0:X9) (a1 a2:U) (a3:P U) (a4:X7) (a5:P (P U)) zr,rec_ a0 a1 a2 a3 a4 a5=N zr→FCz Z 119 [.d (.ag (X9.row a0)),.d (.sc (.int .i64 a1)),.d (.sc (.int .i64 a2)),.d (.sc (.sl (Y rI a3))),.d (.ag (X7.row a4)),.p] [.r 0] [(1,Y (rL rI) a5)] [.r 0] [(1,Y (rL rI) zr)] [])(a3:P U)(a5:P (P U))(r2:(P U))(h2:D5 a3=N r2)(h3:(B9 a5.length ([r2]:P (P U)).length 24)=T):∀(f:W) (b0 b1:V) (b2 b8:V),E0 Z O1 (J5 a3 a5 r2) f [b0,b1,b2,T,T,T,T,T,b8,L] (D2 a3 (vc (.undef)) (vc (aL (Y rI r2))) b0 b1 b2 T T T T T b8 [(99999999999,[.undef])] [(90000,1,Y (rL rI) (a5++([r2]:P (P U)))),(1536,1,Y (rL rI) ([r2]:P (P U)))]):=by
 intro f
 induction f with
 | zero=>intro b0 b1 b2 b8 h; simp at h
 | succ f ih=>
  intro b0 b1 b2 b8
  refine A9 ⟨?_,?_,?_,?_,?_,?_,?_,?_,?_,?_,⟨⟩⟩<;>try first | (intro h; cases h; done) | (intro h0 hw; obtain rfl:=hz h0 rfl; (try obtain rfl:=hq hw 0 rfl rfl); (try obtain rfl:=hq hw 1 rfl rfl); (try obtain rfl:=hq hw 2 rfl rfl); refine np ?_; simp only[D2,cdt,cdf,A1,C,E,F,G,H,J]; exact ih _ _ _ _)
  ·intro h0 hw
   obtain rfl:=hq hw 0 rfl rfl
   obtain rfl:=hq hw 1 rfl rfl
   obtain rfl:=hq hw 2 rfl rfl
   obtain rfl:=hq hw 8 rfl rfl
   refine np ?_
   try simp only[D2,cdt,cdf,A1,C,E,F,G,H,J]
   exact F6z rec_ h_rec a3 a5 r2 h2 h3 _
theorem F76(rec_:X9→U→U→(P U)→X7→(P (P U))→Q (P (P U)))(h_rec:∀(a0:X9) (a1 a2:U) (a3:P U) (a4:X7) (a5:P (P U)) zr,rec_ a0 a1 a2 a3 a4 a5=N zr→FCz Z 119 [.d (.ag (X9.row a0)),.d (.sc (.int .i64 a1)),.d (.sc (.int .i64 a2)),.d (.sc (.sl (Y rI a3))),.d (.ag (X7.row a4)),.p] [.r 0] [(1,Y (rL rI) a5)] [.r 0] [(1,Y (rL rI) zr)] [])(a3:P U)(a5:P (P U))(r2:(P U))(h2:D5 a3=N r2)(h3:(B9 a5.length ([r2]:P (P U)).length 24)=T):∀(f:W) (b0 b1:V) (b2 b3:V),E0 Z O1 (J5 a3 a5 r2) f [b0,b1,b2,b3,T,T,T,L,L,L] (D2 a3 (vc (.own 90000)) (vc (aL (Y rI r2))) b0 b1 b2 b3 T T T L L [(99999999999,[.own 90000])] [(90000,1,Y (rL rI) a5),(1536,1,Y (rL rI) ([r2]:P (P U)))]):=by
 intro f
 induction f with
 | zero=>intro b0 b1 b2 b3 h; simp at h
 | succ f ih=>
  intro b0 b1 b2 b3
  refine A9 ⟨?_,?_,?_,?_,?_,?_,?_,?_,?_,?_,⟨⟩⟩<;>try first | (intro h; cases h; done) | (intro _ hw; simp at hw; done) | (intro h0 hw; obtain rfl:=hz h0 rfl; (try obtain rfl:=hq hw 1 rfl rfl); (try obtain rfl:=hq hw 2 rfl rfl); refine np ?_; simp only[D2,cdt,cdf,A1,C,E,F,G,H,J]; exact ih _ _ _ _)
  ·intro h0 hw
   obtain rfl:=hq hw 3 rfl rfl
   refine np ?_
   try simp only[h3,D2,cdt,cdf,A1,C,E,F,G,H,J]
   exact F17 rec_ h_rec a3 a5 r2 h2 h3 _ b0 b1 b2 L
theorem F4r(rec_:X9→U→U→(P U)→X7→(P (P U))→Q (P (P U)))(h_rec:∀(a0:X9) (a1 a2:U) (a3:P U) (a4:X7) (a5:P (P U)) zr,rec_ a0 a1 a2 a3 a4 a5=N zr→FCz Z 119 [.d (.ag (X9.row a0)),.d (.sc (.int .i64 a1)),.d (.sc (.int .i64 a2)),.d (.sc (.sl (Y rI a3))),.d (.ag (X7.row a4)),.p] [.r 0] [(1,Y (rL rI) a5)] [.r 0] [(1,Y (rL rI) zr)] [])(a3:P U)(a5:P (P U))(r2:(P U))(h2:D5 a3=N r2)(h3:(B9 a5.length ([r2]:P (P U)).length 24)=T):∀(f:W) (b0 b1:V) (b2 b3:V),E0 Z O1 (J5 a3 a5 r2) f [b0,b1,b2,b3,T,T,L,L,L,L] (D2 a3 (vc (.own 90000)) (vc (.own 1472)) b0 b1 b2 b3 T T L L L [(99999999999,[.own 90000])] [(90000,1,Y (rL rI) a5),(1472,1,Y rI r2)]):=by
 intro f
 induction f with
 | zero=>intro b0 b1 b2 b3 h; simp at h
 | succ f ih=>
  intro b0 b1 b2 b3
  refine A9 ⟨?_,?_,?_,?_,?_,?_,?_,?_,?_,?_,⟨⟩⟩<;>try first | (intro h; cases h; done) | (intro _ hw; simp at hw; done) | (intro h0 hw; obtain rfl:=hz h0 rfl; (try obtain rfl:=hq hw 1 rfl rfl); (try obtain rfl:=hq hw 2 rfl rfl); refine np ?_; simp only[D2,cdt,cdf,A1,C,E,F,G,H,J]; exact ih _ _ _ _)
  ·intro h0 hw
   refine⟨[(O,.frz 1472)],[],X,X,?_⟩
   try simp only[D2,cdt,cdf,zJ,zI,A1,C,E,F,G,H,J]
   refine N7 X ?_
   try simp only[A1,C,E,F,G,H,J]
   refine D6 (es:=Y (rL rI) ([r2]:P (P U))) X (by simp only[St.fresh,zE,zF,H5]; simp[AV.cells,V1.cells,AC.uses]) ?_
   try simp only[A1,C,E,F,G,H,J]
   exact F76 rec_ h_rec a3 a5 r2 h2 h3 _ b0 b1 b2 b3
theorem F6i(rec_:X9→U→U→(P U)→X7→(P (P U))→Q (P (P U)))(h_rec:∀(a0:X9) (a1 a2:U) (a3:P U) (a4:X7) (a5:P (P U)) zr,rec_ a0 a1 a2 a3 a4 a5=N zr→FCz Z 119 [.d (.ag (X9.row a0)),.d (.sc (.int .i64 a1)),.d (.sc (.int .i64 a2)),.d (.sc (.sl (Y rI a3))),.d (.ag (X7.row a4)),.p] [.r 0] [(1,Y (rL rI) a5)] [.r 0] [(1,Y (rL rI) zr)] [])(a3:P U)(a5:P (P U))(r2:(P U))(h2:D5 a3=N r2)(h3:(B9 a5.length ([r2]:P (P U)).length 24)=T):∀(f:W) (b0 b1:V) (b2 b3 b4:V),E0 Z O1 (J5 a3 a5 r2) f [b0,b1,b2,b3,b4,L,L,L,L,L] (D2 a3 (vc (.own 90000)) (vc (.own 1472)) b0 b1 b2 b3 b4 L L L L [(99999999999,[.own 90000])] [(90000,1,Y (rL rI) a5)]):=by
 intro f
 induction f with
 | zero=>intro b0 b1 b2 b3 b4 h; simp at h
 | succ f ih=>
  intro b0 b1 b2 b3 b4
  refine A9 ⟨?_,?_,?_,?_,?_,?_,?_,?_,?_,?_,⟨⟩⟩<;>try first | (intro _ hw; simp at hw; done) | (intro h0 hw; obtain rfl:=hz h0 rfl; (try obtain rfl:=hq hw 1 rfl rfl); (try obtain rfl:=hq hw 2 rfl rfl); refine np ?_; simp only[D2,cdt,cdf,A1,C,E,F,G,H,J]; exact ih _ _ _ _ _)
  ·intro h0 hw
   obtain rfl:=hq hw 4 rfl rfl
   refine np ?_
   try simp only[D2,cdt,cdf,A1,C,E,F,G,H,J]
   refine A2 (A16 _ _ h2) X (by simp only[St.fresh,zE,zF,H5]; simp[AV.cells,V1.cells,AC.uses]) (uf X) ?_
   try simp only[A1,C,E,F,G,H,J]
   exact F4r rec_ h_rec a3 a5 r2 h2 h3 _ b0 b1 b2 b3
abbrev B6(a1 a2:U)(a3:P U)(v6 r11:U)(a0:X9)(y7:X7)(wo4_ wo7_:AV)(c0_ c1_:V)(c2_ c3_:V)(c4_ c5_:V)(c6_ c7_:V)(c8_ c9_ c10_:V)(bx_:P (W × P AC))(rs_:Rows):St:=⟨[(1,vc (aI a1)),(2,vc (aI a2)),(3,vc (aL (Y rI a3))),(5,vc (.pb 99999999999 0)),(6,vc (.pb 6 0)),(10,vc (.pb 10 0)),(12,vc (aI v6)),(14,vc (aI r11)),(30,vc (aL (Y X3.row a0.Segments))),(31,vc (aI (a0.Segments.length:U))),(32,vc (aI v6)),(48,bif c0_ then va (dm a0.row) else .undef),(49,bif c1_ then vc (aI r11) else .undef),(50,bif c2_ then vc (aI a2) else .undef),(51,bif c3_ then vc (aL (Y rI a3)) else .undef),(52,bif c4_ then wo4_ else .undef),(53,bif c5_ then vc (aI v6) else .undef),(54,bif c6_ then vc (.own 3456) else .undef),(55,bif c7_ then wo7_ else .undef),(56,bif c8_ then va [aB y7.i0,aB y7.i1,aB y7.i2,aB y7.i3,aB y7.i4,aB y7.i5,aB y7.i6,aB y7.i7] else .undef),(57,bif c9_ then vc (.pb 99999999999 0) else .undef),(58,bif c10_ then .tup [] else .undef)],bx_,rs_⟩
abbrev I1(a1 a2:U)(a3:P U)(v6 r11:U)(a0:X9)(y7:X7)(r18:(P U))(r20:(P (P U))):St:=(B6 a1 a2 a3 v6 r11 a0 y7 (vc (.undef)) (vc (aL (Y rI (r18++([v6]:P U))))) T T T T T T T T T T T [(99999999999,[.own 90000]),(6,(dm a0.row)),(10,[aB y7.i0,aB y7.i1,aB y7.i2,aB y7.i3,aB y7.i4,aB y7.i5,aB y7.i6,aB y7.i7])] [(90000,1,Y (rL rI) r20),(3456,1,Y rI ([v6]:P U))])
theorem F30(rec_:X9→U→U→(P U)→X7→(P (P U))→Q (P (P U)))(h_rec:∀(a0:X9) (a1 a2:U) (a3:P U) (a4:X7) (a5:P (P U)) zr,rec_ a0 a1 a2 a3 a4 a5=N zr→FCz Z 119 [.d (.ag (X9.row a0)),.d (.sc (.int .i64 a1)),.d (.sc (.int .i64 a2)),.d (.sc (.sl (Y rI a3))),.d (.ag (X7.row a4)),.p] [.r 0] [(1,Y (rL rI) a5)] [.r 0] [(1,Y (rL rI) zr)] [])(a1 a2:U)(a3:P U)(v6 r11:U)(a0:X9)(y7:X7)(v8:P (P U))(r18:(P U))(r20:(P (P U)))(h18:D5 a3=N r18)(h19:(B9 r18.length ([v6]:P U).length 8)=T)(h20:rec_ a0 r11 a2 (r18++([v6]:P U)) y7 v8=N r20):∀(f:W),E0 Z K1 (I1 a1 a2 a3 v6 r11 a0 y7 r18 r20) f [T,T,T,T,T,T,T,T,T,T,T] (B6 a1 a2 a3 v6 r11 a0 y7 (vc (.undef)) (vc (aL (Y rI (r18++([v6]:P U))))) T T T T T T T T T T T [(99999999999,[.own 90000]),(6,(dm a0.row)),(10,[aB y7.i0,aB y7.i1,aB y7.i2,aB y7.i3,aB y7.i4,aB y7.i5,aB y7.i6,aB y7.i7])] [(90000,1,Y (rL rI) r20),(3456,1,Y rI ([v6]:P U))]):=by
 intro f
 induction f with
 | zero=>intro h; rfl
 | succ f ih=>
  refine A9 ⟨?_,?_,?_,?_,?_,?_,?_,?_,?_,?_,?_,⟨⟩⟩<;>try first | (intro h; cases h; done)
theorem F5f(rec_:X9→U→U→(P U)→X7→(P (P U))→Q (P (P U)))(h_rec:∀(a0:X9) (a1 a2:U) (a3:P U) (a4:X7) (a5:P (P U)) zr,rec_ a0 a1 a2 a3 a4 a5=N zr→FCz Z 119 [.d (.ag (X9.row a0)),.d (.sc (.int .i64 a1)),.d (.sc (.int .i64 a2)),.d (.sc (.sl (Y rI a3))),.d (.ag (X7.row a4)),.p] [.r 0] [(1,Y (rL rI) a5)] [.r 0] [(1,Y (rL rI) zr)] [])(a1 a2:U)(a3:P U)(v6 r11:U)(a0:X9)(y7:X7)(v8:P (P U))(r18:(P U))(r20:(P (P U)))(h18:D5 a3=N r18)(h19:(B9 r18.length ([v6]:P U).length 8)=T)(h20:rec_ a0 r11 a2 (r18++([v6]:P U)) y7 v8=N r20):∀(f:W) (b0 b1:V) (b2 b8 b9:V),E0 Z K1 (I1 a1 a2 a3 v6 r11 a0 y7 r18 r20) f [b0,b1,b2,T,T,T,T,T,b8,b9,L] (B6 a1 a2 a3 v6 r11 a0 y7 (vc (.undef)) (vc (.own 3328)) b0 b1 b2 T T T T T b8 b9 L [(99999999999,[.own 90000]),(6,(dm a0.row)),(10,[aB y7.i0,aB y7.i1,aB y7.i2,aB y7.i3,aB y7.i4,aB y7.i5,aB y7.i6,aB y7.i7])] [(90000,1,Y (rL rI) v8),(3328,1,Y rI (r18++([v6]:P U))),(3456,1,Y rI ([v6]:P U))]):=by
 intro f
 induction f with
 | zero=>intro b0 b1 b2 b8 b9 h; simp at h
 | succ f ih=>
  intro b0 b1 b2 b8 b9
  refine A9 ⟨?_,?_,?_,?_,?_,?_,?_,?_,?_,?_,?_,⟨⟩⟩<;>try first | (intro h; cases h; done) | (intro h0 hw; obtain rfl:=hz h0 rfl; refine np ?_; simp only[B6,cdt,cdf,A1,C,E,F,G,H,J]; exact ih _ _ _ _ _)
  ·intro h0 hw
   obtain rfl:=hq hw 0 rfl rfl
   obtain rfl:=hq hw 1 rfl rfl
   obtain rfl:=hq hw 2 rfl rfl
   obtain rfl:=hq hw 8 rfl rfl
   obtain rfl:=hq hw 9 rfl rfl
   refine⟨[(O,.frz 3328)],[],X,X,?_⟩
   try simp only[B6,cdt,cdf,zJ,zI,A1,C,E,F,G,H,J]
   refine N7 X ?_
   try simp only[A1,C,E,F,G,H,J]
   refine A9z (h_rec _ _ _ _ _ _ _ h20) 99999999999 [90000] rfl X X X (by decide) X X X ?_
   try simp only[A1,C,E,F,G,H,J]
   exact F30 rec_ h_rec a1 a2 a3 v6 r11 a0 y7 v8 r18 r20 h18 h19 h20 _
theorem E2v(rec_:X9→U→U→(P U)→X7→(P (P U))→Q (P (P U)))(h_rec:∀(a0:X9) (a1 a2:U) (a3:P U) (a4:X7) (a5:P (P U)) zr,rec_ a0 a1 a2 a3 a4 a5=N zr→FCz Z 119 [.d (.ag (X9.row a0)),.d (.sc (.int .i64 a1)),.d (.sc (.int .i64 a2)),.d (.sc (.sl (Y rI a3))),.d (.ag (X7.row a4)),.p] [.r 0] [(1,Y (rL rI) a5)] [.r 0] [(1,Y (rL rI) zr)] [])(a1 a2:U)(a3:P U)(v6 r11:U)(a0:X9)(y7:X7)(v8:P (P U))(r18:(P U))(r20:(P (P U)))(h18:D5 a3=N r18)(h19:(B9 r18.length ([v6]:P U).length 8)=T)(h20:rec_ a0 r11 a2 (r18++([v6]:P U)) y7 v8=N r20):∀(f:W) (b0 b1:V) (b2 b8 b9:V),E0 Z K1 (I1 a1 a2 a3 v6 r11 a0 y7 r18 r20) f [b0,b1,b2,T,T,T,T,L,b8,b9,L] (B6 a1 a2 a3 v6 r11 a0 y7 (vc (.own 3328)) (vc (.own 3328)) b0 b1 b2 T T T T L b8 b9 L [(99999999999,[.own 90000]),(6,(dm a0.row)),(10,[aB y7.i0,aB y7.i1,aB y7.i2,aB y7.i3,aB y7.i4,aB y7.i5,aB y7.i6,aB y7.i7])] [(90000,1,Y (rL rI) v8),(3328,1,Y rI r18),(3456,1,Y rI ([v6]:P U))]):=by
 intro f
 induction f with
 | zero=>intro b0 b1 b2 b8 b9 h; simp at h
 | succ f ih=>
  intro b0 b1 b2 b8 b9
  refine A9 ⟨?_,?_,?_,?_,?_,?_,?_,?_,?_,?_,?_,⟨⟩⟩<;>try first | (intro h; cases h; done) | (intro _ hw; simp at hw; done) | (intro h0 hw; obtain rfl:=hz h0 rfl; refine np ?_; simp only[B6,cdt,cdf,A1,C,E,F,G,H,J]; exact ih _ _ _ _ _)
  ·intro h0 hw
   refine np ?_
   try simp only[h19,B6,cdt,cdf,A1,C,E,F,G,H,J]
   exact F5f rec_ h_rec a1 a2 a3 v6 r11 a0 y7 v8 r18 r20 h18 h19 h20 _ b0 b1 b2 b8 b9
theorem F4b(rec_:X9→U→U→(P U)→X7→(P (P U))→Q (P (P U)))(h_rec:∀(a0:X9) (a1 a2:U) (a3:P U) (a4:X7) (a5:P (P U)) zr,rec_ a0 a1 a2 a3 a4 a5=N zr→FCz Z 119 [.d (.ag (X9.row a0)),.d (.sc (.int .i64 a1)),.d (.sc (.int .i64 a2)),.d (.sc (.sl (Y rI a3))),.d (.ag (X7.row a4)),.p] [.r 0] [(1,Y (rL rI) a5)] [.r 0] [(1,Y (rL rI) zr)] [])(a1 a2:U)(a3:P U)(v6 r11:U)(a0:X9)(y7:X7)(v8:P (P U))(r18:(P U))(r20:(P (P U)))(h18:D5 a3=N r18)(h19:(B9 r18.length ([v6]:P U).length 8)=T)(h20:rec_ a0 r11 a2 (r18++([v6]:P U)) y7 v8=N r20):∀(f:W) (b0 b1:V) (b2 b5:V) (b8 b9:V),E0 Z K1 (I1 a1 a2 a3 v6 r11 a0 y7 r18 r20) f [b0,b1,b2,T,T,b5,L,L,b8,b9,L] (B6 a1 a2 a3 v6 r11 a0 y7 (vc (.own 3328)) (vc (.own 3328)) b0 b1 b2 T T b5 L L b8 b9 L [(99999999999,[.own 90000]),(6,(dm a0.row)),(10,[aB y7.i0,aB y7.i1,aB y7.i2,aB y7.i3,aB y7.i4,aB y7.i5,aB y7.i6,aB y7.i7])] [(90000,1,Y (rL rI) v8),(3328,1,Y rI r18)]):=by
 intro f
 induction f with
 | zero=>intro b0 b1 b2 b5 b8 b9 h; simp at h
 | succ f ih=>
  intro b0 b1 b2 b5 b8 b9
  refine A9 ⟨?_,?_,?_,?_,?_,?_,?_,?_,?_,?_,?_,⟨⟩⟩<;>try first | (intro h; cases h; done) | (intro _ hw; simp at hw; done) | (intro h0 hw; obtain rfl:=hz h0 rfl; refine np ?_; simp only[B6,cdt,cdf,A1,C,E,F,G,H,J]; exact ih _ _ _ _ _ _)
  ·intro h0 hw
   obtain rfl:=hq hw 5 rfl rfl
   refine np ?_
   try simp only[B6,cdt,cdf,A1,C,E,F,G,H,J]
   refine D6 (es:=Y rI ([v6]:P U)) X (by simp only[St.fresh,zE,zF,H5]; simp[AV.cells,V1.cells,AC.uses]) ?_
   try simp only[A1,C,E,F,G,H,J]
   exact E2v rec_ h_rec a1 a2 a3 v6 r11 a0 y7 v8 r18 r20 h18 h19 h20 _ b0 b1 b2 b8 b9
theorem F5p(rec_:X9→U→U→(P U)→X7→(P (P U))→Q (P (P U)))(h_rec:∀(a0:X9) (a1 a2:U) (a3:P U) (a4:X7) (a5:P (P U)) zr,rec_ a0 a1 a2 a3 a4 a5=N zr→FCz Z 119 [.d (.ag (X9.row a0)),.d (.sc (.int .i64 a1)),.d (.sc (.int .i64 a2)),.d (.sc (.sl (Y rI a3))),.d (.ag (X7.row a4)),.p] [.r 0] [(1,Y (rL rI) a5)] [.r 0] [(1,Y (rL rI) zr)] [])(a1 a2:U)(a3:P U)(v6 r11:U)(a0:X9)(y7:X7)(v8:P (P U))(r18:(P U))(r20:(P (P U)))(h18:D5 a3=N r18)(h19:(B9 r18.length ([v6]:P U).length 8)=T)(h20:rec_ a0 r11 a2 (r18++([v6]:P U)) y7 v8=N r20):∀(f:W) (b0 b1:V) (b2 b3:V) (b8 b9:V),E0 Z K1 (I1 a1 a2 a3 v6 r11 a0 y7 r18 r20) f [b0,b1,b2,b3,L,T,T,L,b8,b9,L] (B6 a1 a2 a3 v6 r11 a0 y7 (vc (.own 3328)) (vc (.own 3328)) b0 b1 b2 b3 L T T L b8 b9 L [(99999999999,[.own 90000]),(6,(dm a0.row)),(10,[aB y7.i0,aB y7.i1,aB y7.i2,aB y7.i3,aB y7.i4,aB y7.i5,aB y7.i6,aB y7.i7])] [(90000,1,Y (rL rI) v8),(3456,1,Y rI ([v6]:P U))]):=by
 intro f
 induction f with
 | zero=>intro b0 b1 b2 b3 b8 b9 h; simp at h
 | succ f ih=>
  intro b0 b1 b2 b3 b8 b9
  refine A9 ⟨?_,?_,?_,?_,?_,?_,?_,?_,?_,?_,?_,⟨⟩⟩<;>try first | (intro h; cases h; done) | (intro _ hw; simp at hw; done) | (intro h0 hw; obtain rfl:=hz h0 rfl; refine np ?_; simp only[B6,cdt,cdf,A1,C,E,F,G,H,J]; exact ih _ _ _ _ _ _)
  ·intro h0 hw
   obtain rfl:=hq hw 3 rfl rfl
   refine⟨[],[(O,.keep [1,2,3,5,6,10,12,14,30,31,32,48,49,50,51,52,53,54,55,56,57,58] [99999999999,6,10] [90000,3328,3456])],X,X,?_⟩
   try simp only[B6,cdt,cdf,zJ,zI,A1,C,E,F,G,H,J]
   refine A2 (A16 _ _ h18) X (by simp only[St.fresh,zE,zF,H5]; simp[AV.cells,V1.cells,AC.uses]) (uf X) ?_
   try simp only[A1,C,E,F,G,H,J]
   exact E2v rec_ h_rec a1 a2 a3 v6 r11 a0 y7 v8 r18 r20 h18 h19 h20 _ b0 b1 b2 b8 b9
theorem F5l(rec_:X9→U→U→(P U)→X7→(P (P U))→Q (P (P U)))(h_rec:∀(a0:X9) (a1 a2:U) (a3:P U) (a4:X7) (a5:P (P U)) zr,rec_ a0 a1 a2 a3 a4 a5=N zr→FCz Z 119 [.d (.ag (X9.row a0)),.d (.sc (.int .i64 a1)),.d (.sc (.int .i64 a2)),.d (.sc (.sl (Y rI a3))),.d (.ag (X7.row a4)),.p] [.r 0] [(1,Y (rL rI) a5)] [.r 0] [(1,Y (rL rI) zr)] [])(a1 a2:U)(a3:P U)(v6 r11:U)(a0:X9)(y7:X7)(v8:P (P U))(r18:(P U))(r20:(P (P U)))(h18:D5 a3=N r18)(h19:(B9 r18.length ([v6]:P U).length 8)=T)(h20:rec_ a0 r11 a2 (r18++([v6]:P U)) y7 v8=N r20):∀(f:W) (b0 b1:V) (b2 b3:V) (b5 b8 b9:V),E0 Z K1 (I1 a1 a2 a3 v6 r11 a0 y7 r18 r20) f [b0,b1,b2,b3,L,b5,L,L,b8,b9,L] (B6 a1 a2 a3 v6 r11 a0 y7 (vc (.own 3328)) (vc (.own 3328)) b0 b1 b2 b3 L b5 L L b8 b9 L [(99999999999,[.own 90000]),(6,(dm a0.row)),(10,[aB y7.i0,aB y7.i1,aB y7.i2,aB y7.i3,aB y7.i4,aB y7.i5,aB y7.i6,aB y7.i7])] [(90000,1,Y (rL rI) v8)]):=by
 intro f
 induction f with
 | zero=>intro b0 b1 b2 b3 b5 b8 b9 h; simp at h
 | succ f ih=>
  intro b0 b1 b2 b3 b5 b8 b9
  refine A9 ⟨?_,?_,?_,?_,?_,?_,?_,?_,?_,?_,?_,⟨⟩⟩<;>try first | (intro _ hw; simp at hw; done) | (intro h0 hw; obtain rfl:=hz h0 rfl; refine np ?_; simp only[B6,cdt,cdf,A1,C,E,F,G,H,J]; exact ih _ _ _ _ _ _ _)
  ·intro h0 hw
   obtain rfl:=hq hw 3 rfl rfl
   refine np ?_
   try simp only[B6,cdt,cdf,A1,C,E,F,G,H,J]
   refine A2 (A16 _ _ h18) X (by simp only[St.fresh,zE,zF,H5]; simp[AV.cells,V1.cells,AC.uses]) (uf X) ?_
   try simp only[A1,C,E,F,G,H,J]
   exact F4b rec_ h_rec a1 a2 a3 v6 r11 a0 y7 v8 r18 r20 h18 h19 h20 _ b0 b1 b2 b5 b8 b9
  ·intro h0 hw
   obtain rfl:=hq hw 5 rfl rfl
   refine np ?_
   try simp only[B6,cdt,cdf,A1,C,E,F,G,H,J]
   refine D6 (es:=Y rI ([v6]:P U)) X (by simp only[St.fresh,zE,zF,H5]; simp[AV.cells,V1.cells,AC.uses]) ?_
   try simp only[A1,C,E,F,G,H,J]
   exact F5p rec_ h_rec a1 a2 a3 v6 r11 a0 y7 v8 r18 r20 h18 h19 h20 _ b0 b1 b2 b3 b8 b9
theorem E3k(rec_:X9→U→U→(P U)→X7→(P (P U))→Q (P (P U)))(h_rec:∀(a0:X9) (a1 a2:U) (a3:P U) (a4:X7) (a5:P (P U)) zr,rec_ a0 a1 a2 a3 a4 a5=N zr→FCz Z 119 [.d (.ag (X9.row a0)),.d (.sc (.int .i64 a1)),.d (.sc (.int .i64 a2)),.d (.sc (.sl (Y rI a3))),.d (.ag (X7.row a4)),.p] [.r 0] [(1,Y (rL rI) a5)] [.r 0] [(1,Y (rL rI) zr)] [])(a1 a2:U)(a3:P U)(v6 r11:U)(a0:X9)(y7:X7)(v8:P (P U))(U8:U→(P (P U))→Q (P (P U)))(A60:∀(v6:U) (v8:P (P U)) zr,U8 v6 v8=N zr→∀σ:St,σ.kept [1,2,3,5,6,10,30,31,32] [99999999999,6,10] [90000]=⟨[(1,vc (aI a1)),(2,vc (aI a2)),(3,vc (aL (Y rI a3))),(5,vc (.pb 99999999999 0)),(6,vc (.pb 6 0)),(10,vc (.pb 10 0)),(30,vc (aL (Y X3.row a0.Segments))),(31,vc (aI (a0.Segments.length:U))),(32,vc (aI v6))],[(99999999999,[.own 90000]),(6,(dm a0.row)),(10,[aB y7.i0,aB y7.i1,aB y7.i2,aB y7.i3,aB y7.i4,aB y7.i5,aB y7.i6,aB y7.i7])],[(90000,1,Y (rL rI) v8)]⟩→go Z (.code (.loop B7y):: [.blk 0]) (B0w [] [] [.r 0] [(1,Y (rL rI) zr)]) .normal (N σ))(v16:V)(r:(P (P U)))(h:L2 rec_ a1 a2 a3 v6 r11 a0 y7 v8 U8 v16=N r)(σ:St)(hσ:σ.kept [1,2,3,5,6,10,12,14,30,31,32,47] [99999999999,6,10] [90000]=⟨[(1,vc (aI a1)),(2,vc (aI a2)),(3,vc (aL (Y rI a3))),(5,vc (.pb 99999999999 0)),(6,vc (.pb 6 0)),(10,vc (.pb 10 0)),(12,vc (aI v6)),(14,vc (aI r11)),(30,vc (aL (Y X3.row a0.Segments))),(31,vc (aI (a0.Segments.length:U))),(32,vc (aI v6)),(47,vc (aB v16))],[(99999999999,[.own 90000]),(6,(dm a0.row)),(10,[aB y7.i0,aB y7.i1,aB y7.i2,aB y7.i3,aB y7.i4,aB y7.i5,aB y7.i6,aB y7.i7])],[(90000,1,Y (rL rI) v8)]⟩):go Z (.code C46:: [.blk 1,.code C6e,.code (.loop B7y),.blk 0]) (B0w [] [] [.r 0] [(1,Y (rL rI) r)]) .normal (N σ):=by
 unfold L2 at h
 rcases ic h with ⟨h17,h⟩|⟨h17,h⟩
 ·try simp only[hσ,h17,C46,C,E,F,G,H,J]
  obtain⟨r18,h18,h⟩:=ob h
  obtain⟨h19,h⟩:=C9 h
  obtain⟨r20,h20,h⟩:=ob h
  refine A3l (ks:= [1,2,3,5,6,10,12,14,30,31,32]) (bs:= [99999999999,6,10]) (rs:= [90000]) (τ:=(I1 a1 a2 a3 v6 r11 a0 y7 r18 r20)) X (F5l rec_ h_rec a1 a2 a3 v6 r11 a0 y7 v8 r18 r20 h18 h19 h20 _ L L L L L L L) ?_
  simp only[I1,B6,cdt]
  try simp only[h17,h19,C6e,C,E,F,G,H,J]
  refine A60 _ _ _ h _ ?_
  try simp only[h17,h19,C,E,F,G,H,J,I]
 ·try simp only[hσ,h17,C46,C6e,C,E,F,G,H,J]
  refine A60 _ _ _ h _ ?_
  try simp only[h17,C,E,F,G,H,J,I]
theorem F22(rec_:X9→U→U→(P U)→X7→(P (P U))→Q (P (P U)))(h_rec:∀(a0:X9) (a1 a2:U) (a3:P U) (a4:X7) (a5:P (P U)) zr,rec_ a0 a1 a2 a3 a4 a5=N zr→FCz Z 119 [.d (.ag (X9.row a0)),.d (.sc (.int .i64 a1)),.d (.sc (.int .i64 a2)),.d (.sc (.sl (Y rI a3))),.d (.ag (X7.row a4)),.p] [.r 0] [(1,Y (rL rI) a5)] [.r 0] [(1,Y (rL rI) zr)] [])(a1 a2:U)(a3:P U)(a0:X9)(y7:X7):∀(n:W) (v6:U) (v8:P (P U)) (r:(P (P U))),F1 rec_ a1 a2 a3 a0 y7 n v6 v8=N r→∀σ:St,σ.kept [1,2,3,5,6,10,30,31,32] [99999999999,6,10] [90000]=⟨[(1,vc (aI a1)),(2,vc (aI a2)),(3,vc (aL (Y rI a3))),(5,vc (.pb 99999999999 0)),(6,vc (.pb 6 0)),(10,vc (.pb 10 0)),(30,vc (aL (Y X3.row a0.Segments))),(31,vc (aI (a0.Segments.length:U))),(32,vc (aI v6))],[(99999999999,[.own 90000]),(6,(dm a0.row)),(10,[aB y7.i0,aB y7.i1,aB y7.i2,aB y7.i3,aB y7.i4,aB y7.i5,aB y7.i6,aB y7.i7])],[(90000,1,Y (rL rI) v8)]⟩→go Z (.code (.loop B7y):: [.blk 0]) (B0w [] [] [.r 0] [(1,Y (rL rI) r)]) .normal (N σ):=by
 intro n
 induction n with
 | zero=>intro _ _ r h; cases h
 | succ n ih=>
  intro v6 v8 r h σ hσ
  rw[F1] at h
  refine B5 ?_
  rcases ic h with ⟨h9,h⟩|⟨h9,h⟩
  ·obtain⟨x10,h10,h⟩:=ob h
   try simp only[hσ,h9,h10,B7y,C,E,F,G,H,J]
   refine B7 X X ?_
   obtain⟨r11,h11,h⟩:=ob h
   try simp only[h9,h10,C,E,F,G,H,J]
   refine A2 (B0d _ _ _ h11) X X (uf X) ?_
   rcases ic h with ⟨h12,h⟩|⟨h12,h⟩
   ·obtain⟨h13,h⟩:=C9 h
    try simp only[h9,h10,h12,C,E,F,G,H,J]
    refine C1x X X h13 ?_
    obtain⟨x14,h14,h⟩:=ob h
    have h14n:=M2 h14
    have hA15:([aB y7.i0,aB y7.i1,aB y7.i2,aB y7.i3,aB y7.i4,aB y7.i5,aB y7.i6,aB y7.i7]:P AC)[zA r11]?=N (aB x14):=D03 h14n
    try simp only[h9,h10,h12,hA15,C,E,F,G,H,J]
    refine E3k rec_ h_rec _ _ _ _ _ _ _ _ (F1 rec_ a1 a2 a3 a0 y7 n) ih _ _ h _ ?_
    try simp only[h9,h10,h12,hA15,C,E,F,G,H,J,I]
   ·try simp only[h9,h10,h12,C,E,F,G,H,J]
    refine E3k rec_ h_rec _ _ _ _ _ _ _ _ (F1 rec_ a1 a2 a3 a0 y7 n) ih _ _ h _ ?_
    try simp only[h9,h10,h12,C,E,F,G,H,J,I]
  ·try simp only[hσ,h9,B7y,C,E,F,G,H,J]
   cases h
   exact⟨trivial,[90000],by decide,by decide,X,X⟩
theorem F99:A5 Z 119=N (cc249.strip,[],60):=by kernel_rfl
theorem B1h(rec_:X9→U→U→(P U)→X7→(P (P U))→Q (P (P U)))(a0:X9)(a1 a2:U)(a3:P U)(a4:X7)(a5:P (P U))(r:(P (P U)))(h_rec:∀(a0:X9) (a1 a2:U) (a3:P U) (a4:X7) (a5:P (P U)) zr,rec_ a0 a1 a2 a3 a4 a5=N zr→FCz Z 119 [.d (.ag (X9.row a0)),.d (.sc (.int .i64 a1)),.d (.sc (.int .i64 a2)),.d (.sc (.sl (Y rI a3))),.d (.ag (X7.row a4)),.p] [.r 0] [(1,Y (rL rI) a5)] [.r 0] [(1,Y (rL rI) zr)] [])(h:A0y rec_ a0 a1 a2 a3 a4 a5=N r):FCz Z 119 [.d (.ag (X9.row a0)),.d (.sc (.int .i64 a1)),.d (.sc (.int .i64 a2)),.d (.sc (.sl (Y rI a3))),.d (.ag (X7.row a4)),.p] [.r 0] [(1,Y (rL rI) a5)] [.r 0] [(1,Y (rL rI) r)] []:=by
 unfold A0y at h
 refine C8c (σ:=⟨[(0,va (dm a0.row)),(1,vc (aI a1)),(2,vc (aI a2)),(3,vc (aL (Y rI a3))),(4,va [aB a4.i0,aB a4.i1,aB a4.i2,aB a4.i3,aB a4.i4,aB a4.i5,aB a4.i6,aB a4.i7]),(5,vc (.pb 99999999999 0))],[(99999999999,[.own 90000])],[(90000,1,Y (rL rI) a5)]⟩) mixed F99 X X X X ?_
 simp only[cc249]
 try simp only[C,E,F,G,H,J]
 refine B2 X X X ?_
 try simp only[C,E,F,G,H,J]
 refine B2 X X X ?_
 rcases ic h with ⟨h1,h⟩|⟨h1,h⟩
 ·try simp only[h1,C,E,F,G,H,J]
  obtain⟨r2,h2,h⟩:=ob h
  obtain⟨h3,h⟩:=C9 h
  refine A3l (ks:= [3,5]) (bs:= [99999999999]) (rs:= [90000]) (τ:=(J5 a3 a5 r2)) X (F6i rec_ h_rec a3 a5 r2 h2 h3 _ L L L L L) ?_
  simp only[J5,D2,cdt]
  try simp only[h1,h3,C,E,F,G,H,J]
  cases h
  exact⟨trivial,[90000],by decide,by decide,X,X⟩
 ·obtain⟨h4,h⟩:=C9 h
  try simp only[h1,C,E,F,G,H,J]
  refine C1x X X h4 ?_
  have hA5:A31 [aB a4.i0,aB a4.i1,aB a4.i2,aB a4.i3,aB a4.i4,aB a4.i5,aB a4.i6,aB a4.i7] (zA a1) [aB T]= [aB ((X7.set a4 (zA a1) T)).i0,aB ((X7.set a4 (zA a1) T)).i1,aB ((X7.set a4 (zA a1) T)).i2,aB ((X7.set a4 (zA a1) T)).i3,aB ((X7.set a4 (zA a1) T)).i4,aB ((X7.set a4 (zA a1) T)).i5,aB ((X7.set a4 (zA a1) T)).i6,aB ((X7.set a4 (zA a1) T)).i7]:=X7.set_eq a4 (A9b h4)
  have hA5g:A23 [aB a4.i0,aB a4.i1,aB a4.i2,aB a4.i3,aB a4.i4,aB a4.i5,aB a4.i6,aB a4.i7] (zA a1+1)=T:=C7r (A9b h4)
  have hA5h:A23 [aB a4.i1,aB a4.i2,aB a4.i3,aB a4.i4,aB a4.i5,aB a4.i6,aB a4.i7] (zA a1)=T:=C14 (c:=aB a4.i0) (A9b h4)
  try simp only[h1,hA5,hA5g,hA5h,C,E,F,G,H,J]
  refine F22 rec_ h_rec _ _ _ _ _ _ _ _ _ h _ ?_
  try simp only[h1,hA5,hA5g,hA5h,C,E,F,G,H,J,I]
theorem B09:∀(n:W) (a0:X9) (a1:U) (a2:U) (a3:P U) (a4:X7) (a5:P (P U)) (r:(P (P U))),H8 n a0 a1 a2 a3 a4 a5=N r→FCz Z 119 [.d (.ag (X9.row a0)),.d (.sc (.int .i64 a1)),.d (.sc (.int .i64 a2)),.d (.sc (.sl (Y rI a3))),.d (.ag (X7.row a4)),.p] [.r 0] [(1,Y (rL rI) a5)] [.r 0] [(1,Y (rL rI) r)] []:=by
 intro n
 induction n with
 | zero=>intro _ _ _ _ _ _ r h; cases h
 | succ n ih=>intro a0 a1 a2 a3 a4 a5 r h; rw[H8] at h; exact B1h (H8 n) a0 a1 a2 a3 a4 a5 r ih h
theorem B2i(a0:X9)(a1 a2:U)(a3:P U)(a4:X7)(a5:P (P U))(r:(P (P U)))(h:A4x a0 a1 a2 a3 a4 a5=N r):FCz Z 119 [.d (.ag (X9.row a0)),.d (.sc (.int .i64 a1)),.d (.sc (.int .i64 a2)),.d (.sc (.sl (Y rI a3))),.d (.ag (X7.row a4)),.p] [.r 0] [(1,Y (rL rI) a5)] [.r 0] [(1,Y (rL rI) r)] []:=B09 bigN a0 a1 a2 a3 a4 a5 r h
/- 99:impl_RoutesBetween -/
def cc264:X2:=(.seq (.reg [bo 3 0,(O,.mv 6 KN)]) (.seq (.seq (.reg [lw 8 3 2,ca 9 53 [S 8],nt 10 9,mv 11 10,(N (11,L),.mv 12 (S 1)),(N (11,L),.faddr 13 (S 3) 0),(N (11,L),.load 14 (S 13) L 1),(N (11,L),.len 15 (S 14)),(N (11,L),.call 16 50 [(S 12),(S 15)]),(N (11,L),.un 17 .not (S 16)),po 18 11 17,mv 19 18,(N (19,L),.mv 20 (S 2)),(N (19,L),.faddr 21 (S 3) 0),(N (19,L),.load 22 (S 21) L 1),(N (19,L),.len 23 (S 22)),(N (19,L),.call 24 50 [(S 20),(S 23)]),(N (19,L),.un 25 .not (S 24)),po 26 19 25]) (.cond (S 26) (.seq (.reg [(O,.mv 6 KN)]) .ret) .skip)) (.seq (.reg [(O,.bslice 27 1 [.sl []] 0 []),(O,.alloc 7 [.nil]),so 7 27 1]) (.seq (.cal [lw 28 3 2,mv 29 1,mv 30 2,(O,.build 31 [aB L,aB L,aB L,aB L,aB L,aB L,aB L,aB L] [])] 32 119 [(S 28),(S 29),(S 30),KN,(S 31),(S 7)]) (.seq (.reg [ld 33 7,mv 6 33]) .ret)))))
theorem F6g:A5 Z 99=N (cc264.strip,[6],34):=by kernel_rfl
theorem B4n(a0:X9)(a1 a2:U)(r:(P (P U)))(h:A1g a0 a1 a2=N r):FC Z 99 [.ag (X9.row a0),.sc (.int .i64 a1),.sc (.int .i64 a2)] [.sc (.o 1 (Y (rL rI) r))]:=by
 unfold A1g at h
 refine C3 mixed F6g X ?_
 simp only[cc264,C,E,F,G,H,J]
 try simp only[C,E,F,G,H,J]
 refine B2 X X X ?_
 obtain⟨r1,h1,h⟩:=ob h
 try simp only[C,E,F,G,H,J]
 refine A2 (A0v _ _ h1) X X (uf X) ?_
 rcases ic h with ⟨h2,h⟩|⟨h2,h⟩
 ·obtain⟨r3,h3,h⟩:=ob h
  try simp only[h2,C,E,F,G,H,J]
  refine A2 (E9 _ _ _ h3) X X (uf X) ?_
  rcases ic h with ⟨h4,h⟩|⟨h4,h⟩
  ·obtain⟨r5,h5,h⟩:=ob h
   try simp only[h2,h4,C,E,F,G,H,J]
   refine A2 (E9 _ _ _ h5) X X (uf X) ?_
   rcases ic h with ⟨h6,h⟩|⟨h6,h⟩
   ·try simp only[h2,h4,h6,C,E,F,G,H,J]
    refine D6 (es:=Y (rL rI) ([]:P (P U))) X X ?_
    try simp only[h2,h4,h6,C,E,F,G,H,J]
    refine B7 X X ?_
    try simp only[h2,h4,h6,C,E,F,G,H,J]
    refine C26 ?_
    obtain⟨r7,h7,h⟩:=ob h
    try simp only[h2,h4,h6,C,E,F,G,H,J]
    refine A9z (B2i _ _ _ _ _ _ _ h7) 7 [1728] rfl X X X (by decide) X X X ?_
    try simp only[h2,h4,h6,C,E,F,G,H,J]
    cases h
    trivial
   ·try simp only[h2,h4,h6,C,E,F,G,H,J]
    cases h
    trivial
  ·try simp only[h2,h4,C,E,F,G,H,J]
   cases h
   trivial
 ·try simp only[h2,C,E,F,G,H,J]
  cases h
  trivial
/- 100:impl_RouteMinutes -/
def C63:X2:= .seq (.reg [(O,.keep [2,5,11,12,13] [2] [])]) (.seq (.reg [bn 14 .lss 13 12]) (.seq (.cond (S 14) .skip (.exit 0)) (.seq (.block 1 (.seq (.reg [ia 15 11 13 1,ld 16 15,mv 7 16]) (.seq (.seq (.reg [mv 17 7,fa 18 2 1,ld 19 18,ln 20 19,ca 21 50 [S 17,S 20],nt 22 21]) (.cond (S 22) (.seq (.reg [(O,.mv 4 (K (-1)))]) .ret) .skip)) (.reg [mv 23 5,fa 24 2 1,ld 25 24,mv 26 7,ia 27 25 26 5,fa 28 27 3,ld 29 28,bn 30 .add 23 29,mv 5 30])))) (.reg [(O,.bin 31 .add (S 13) (K 1)),mv 13 31]))))
def D16:X2:=(.seq (.reg [mv 32 5,mv 4 32]) .ret)
def cc268:X2:=(.seq (.reg [bo 2 0,(O,.mv 4 (K 0))]) (.seq (.seq (.reg [lw 8 2 2,ca 9 53 [S 8],nt 10 9]) (.cond (S 10) (.seq (.reg [(O,.mv 4 (K (-1)))]) .ret) .skip)) (.seq (.reg [(O,.mv 5 (K 0))]) (.seq (.seq (.reg [mv 11 1,ln 12 11,(O,.mv 13 (K 0))]) (.block 0 (.loop C63))) D16))))
theorem F2r(a1:P U)(a0:X9):∀(n:W) (v3 v4 r:U),J1 a1 a0 n v3 v4=N r→∀σ:St,σ.kept [2,5,11,12,13] [2] []=⟨[(2,vc (.pb 2 0)),(5,vc (aI v3)),(11,vc (aL (Y rI a1))),(12,vc (aI (a1.length:U))),(13,vc (aI v4))],[(2,(dm a0.row))],[]⟩→go Z (.code (.loop C63):: [.blk 0,.code D16]) (Ret [4] [.sc (.v (.int .i64 r))]) .normal (N σ):=by
 intro n
 induction n with
 | zero=>intro _ _ r h; cases h
 | succ n ih=>
  intro v3 v4 r h σ hσ
  rw[J1] at h
  refine B5 ?_
  rcases ic h with ⟨h5,h⟩|⟨h5,h⟩
  ·obtain⟨x6,h6,h⟩:=ob h
   obtain⟨r7,h7,h⟩:=ob h
   try simp only[hσ,h5,h6,C63,C,E,F,G,H,J]
   refine A2 (E9 _ _ _ h7) X X (uf X) ?_
   rcases ic h with ⟨h8,h⟩|⟨h8,h⟩
   ·obtain⟨x9,h9,h⟩:=ob h
    try simp only[h5,h6,h8,h9,C,E,F,G,H,J]
    refine ih _ _ _ h _ ?_
    try simp only[h5,h6,h8,h9,C,E,F,G,H,J,I]
   ·try simp only[h5,h6,h8,C,E,F,G,H,J]
    cases h
    trivial
  ·try simp only[hσ,h5,C63,D16,C,E,F,G,H,J]
   cases h
   trivial
theorem F9q:A5 Z 100=N (cc268.strip,[4],33):=by kernel_rfl
theorem A7c(a0:X9)(a1:P U)(r:U)(h:M6 a0 a1=N r):FC Z 100 [.ag (X9.row a0),.sc (.sl (Y rI a1))] [.sc (.v (.int .i64 r))]:=by
 unfold M6 at h
 refine C3 mixed F9q X ?_
 simp only[cc268,C,E,F,G,H,J]
 try simp only[C,E,F,G,H,J]
 refine B2 X X X ?_
 obtain⟨r1,h1,h⟩:=ob h
 try simp only[C,E,F,G,H,J]
 refine A2 (A0v _ _ h1) X X (uf X) ?_
 rcases ic h with ⟨h2,h⟩|⟨h2,h⟩
 ·try simp only[h2,C,E,F,G,H,J]
  refine F2r _ _ _ _ _ _ h _ ?_
  try simp only[h2,C,E,F,G,H,J,I]
 ·try simp only[h2,C,E,F,G,H,J]
  cases h
  trivial
/- 76:impl_BestRoute -/
def C5v:X2:= .seq (.reg [(O,.keep [3,9,22,23,24] [3] [960])]) (.seq (.reg [bn 25 .lss 24 23]) (.seq (.cond (S 25) .skip (.exit 0)) (.seq (.block 1 (.seq (.reg [ia 26 22 24 1,ld 27 26,mv 11 27]) (.seq (.drw [o0 (lw 28 3 2),o0 (mv 29 11),o0 (ca 30 100 [S 28,S 29]),(N [30],lw 31 3 2),(N [30],mv 32 9),o0 (ca 33 100 [S 31,S 32]),o0 (bn 34 .lss 30 33)]) (.cond (S 34) (.reg [mv 35 11,mv 9 35]) .skip)))) (.reg [(O,.bin 36 .add (S 24) (K 1)),mv 24 36]))))
def D2z:X2:=(.seq (.reg [mv 37 9,mv 6 37,(O,.mv 7 (KB T))]) .ret)
def cc273:X2:=(.seq (.reg [bo 3 0,(O,.mv 6 KN),(O,.mv 7 (KB L))]) (.seq (.reg [lw 12 3 2,mv 13 1,mv 14 2,ca 15 99 [S 12,S 13,S 14],mv 8 15]) (.seq (.seq (.reg [mv 16 8,ln 17 16,(O,.bin 18 .eql (S 17) (K 0))]) (.cond (S 18) (.seq (.reg [(O,.mv 6 KN),(O,.mv 7 (KB L))]) .ret) .skip)) (.seq (.reg [mv 19 8,(O,.iaddr 20 (S 19) (K 0) 1),ld 21 20,mv 9 21]) (.seq (.seq (.reg [mv 22 8,ln 23 22,(O,.mv 24 (K 0))]) (.block 0 (.loop C5v))) D2z)))))
theorem F5r(r1:(P (P U)))(a0:X9):∀(n:W) (v4:P U) (v5:U) (r:(P U) × V),Q9 r1 a0 n v4 v5=N r→∀σ:St,σ.kept [3,9,22,23,24] [3] [960]=⟨[(3,vc (.pb 3 0)),(9,vc (aL (Y rI v4))),(22,vc (.own 960)),(23,vc (aI (r1.length:U))),(24,vc (aI v5))],[(3,(dm a0.row))],[(960,1,Y (rL rI) r1)]⟩→go Z (.code (.loop C5v):: [.blk 0,.code D2z]) (Ret [6,7] [.sc (.v (.sl (Y rI r.1))),.sc (.v (.bool r.2))]) .normal (N σ):=by
 intro n
 induction n with
 | zero=>intro _ _ r h; cases h
 | succ n ih=>
  intro v4 v5 r h σ hσ
  rw[Q9] at h
  refine B5 ?_
  rcases ic h with ⟨h6,h⟩|⟨h6,h⟩
  ·obtain⟨x7,h7,h⟩:=ob h
   have h7n:=M2 h7
   try simp only[hσ,h6,h7,h7n,C5v,C,E,F,G,H,J]
   refine B3 X ?_
   obtain⟨r9,h9,h⟩:=ob h
   try simp only[h6,h7,h7n,C,E,F,G,H,J]
   refine E1 (A7c _ _ _ h9) X X (uf X) ?_
   obtain⟨r10,h10,h⟩:=ob h
   try simp only[h6,h7,h7n,C,E,F,G,H,J]
   refine E1 (A7c _ _ _ h10) X X (uf X) ?_
   rcases ic h with ⟨h11,h⟩|⟨h11,h⟩
   ·try simp only[h6,h7,h7n,h11,C,E,F,G,H,J]
    refine ih _ _ _ h _ ?_
    try simp only[h6,h7,h7n,h11,C,E,F,G,H,J,I]
   ·try simp only[h6,h7,h7n,h11,C,E,F,G,H,J]
    refine ih _ _ _ h _ ?_
    try simp only[h6,h7,h7n,h11,C,E,F,G,H,J,I]
  ·try simp only[hσ,h6,C5v,D2z,C,E,F,G,H,J]
   cases h
   trivial
theorem F4h:A5 Z 76=N (cc273.strip,[6,7],38):=by kernel_rfl
theorem B87(a0:X9)(a1 a2:U)(r:(P U) × V)(h:A4f a0 a1 a2=N r):FC Z 76 [.ag (X9.row a0),.sc (.int .i64 a1),.sc (.int .i64 a2)] [.sc (.v (.sl (Y rI r.1))),.sc (.v (.bool r.2))]:=by
 unfold A4f at h
 refine C3 mixed F4h X ?_
 simp only[cc273,C,E,F,G,H,J]
 try simp only[C,E,F,G,H,J]
 refine B2 X X X ?_
 obtain⟨r1,h1,h⟩:=ob h
 try simp only[C,E,F,G,H,J]
 refine A2 (B4n _ _ _ _ h1) X X (uf X) ?_
 rcases ic h with ⟨h2,h⟩|⟨h2,h⟩
 ·try simp only[h2,C,E,F,G,H,J]
  cases h
  trivial
 ·obtain⟨x3,h3,h⟩:=ob h
  have h3n:=M2 h3
  try simp only[h2,h3,h3n,C,E,F,G,H,J]
  refine F5r _ _ _ _ _ _ h _ ?_
  try simp only[h2,h3,h3n,C,E,F,G,H,J,I]
/- 120:impl_Chart_points -/
def C66:X2:= .seq (.reg [(O,.keep [1,3,8,9,22,23,24,47] [3,8] [1344])]) (.cond (S 47) (.seq (.reg [(O,.mv 6 KN),(O,.mv 7 (KB L))]) .ret) .skip)
def D3j:X2:=(.seq (.reg [mv 48 1,(O,.aaddr 49 (S 8) (S 48) 8 1),(O,.store (S 49) (KB T) 1)]) (.reg [mv 50 9,mv 51 1,(O,.bslice 52 1 [.int .i64 0] 1 [(0,(S 51))]),(O,.app 53 1 8 (S 50) (S 52)),mv 9 53]))
def D45:X2:=(.reg [(O,.bin 54 .add (S 24) (K 1)),mv 24 54])
def B7s:X2:= .seq (.reg [(O,.keep [1,3,8,9,22,23,24] [3,8] [1344])]) (.seq (.reg [bn 25 .lss 24 23]) (.seq (.cond (S 25) .skip (.exit 0)) (.seq (.block 1 (.seq (.reg [ia 26 22 24 1,ld 27 26,mv 11 27]) (.seq (.seq (.reg [mv 28 11,fa 29 3 1,ld 30 29,ln 31 30,ca 32 50 [S 28,S 31],nt 33 32]) (.cond (S 33) (.seq (.reg [(O,.mv 6 KN),(O,.mv 7 (KB L))]) .ret) .skip)) (.seq (.reg [fa 34 3 1,ld 35 34,mv 36 11,ia 37 35 36 5,lw 38 37 5,mv 39 1,ca 40 140 [S 38,S 39],mv 1 40]) (.seq (.seq (.reg [mv 41 1,(O,.bin 42 .lss (S 41) (K 0)),mv 43 42,(N (43,L),.mv 44 (S 1)),(N (43,L),.aaddr 45 (S 8) (S 44) 8 1),(N (43,L),.load 46 (S 45) L 1),po 47 43 46]) C66) D3j))))) D45)))
def C0k:X2:=(.seq (.reg [mv 55 9,mv 6 55,(O,.mv 7 (KB T))]) .ret)
def cc281:X2:=(.seq (.reg [bo 3 0,(O,.mv 6 KN),(O,.mv 7 (KB L))]) (.seq (.seq (.reg [mv 12 1,fa 13 3 0,ld 14 13,ln 15 14,ca 16 50 [S 12,S 15],nt 17 16]) (.cond (S 17) (.seq (.reg [(O,.mv 6 KN),(O,.mv 7 (KB L))]) .ret) .skip)) (.seq (.reg [(O,.alloc 8 [aB L,aB L,aB L,aB L,aB L,aB L,aB L,aB L])]) (.seq (.reg [mv 18 1,(O,.aaddr 19 (S 8) (S 18) 8 1),(O,.store (S 19) (KB T) 1)]) (.seq (.reg [mv 20 1,(O,.bslice 21 1 [.int .i64 0] 1 [(0,(S 20))]),mv 9 21]) (.seq (.seq (.reg [mv 22 2,ln 23 22,(O,.mv 24 (K 0))]) (.block 0 (.loop B7s))) C0k))))))
theorem E3e(r14:U)(a2:P U)(v6:U)(a0:X9)(v7:X7)(v8:P U)(A24:U→U→X7→(P U)→Q ((P U) × V))(B3d:∀(v5 v6:U) (v7:X7) (v8:P U) zr,A24 v5 v6 v7 v8=N zr→∀σ:St,σ.kept [1,3,8,9,22,23,24] [3,8] [1344]=⟨[(1,vc (aI v5)),(3,vc (.pb 3 0)),(8,vc (.pb 8 0)),(9,vc (.own 1344)),(22,vc (aL (Y rI a2))),(23,vc (aI (a2.length:U))),(24,vc (aI v6))],[(3,(dm a0.row)),(8,[aB v7.i0,aB v7.i1,aB v7.i2,aB v7.i3,aB v7.i4,aB v7.i5,aB v7.i6,aB v7.i7])],[(1344,1,Y rI v8)]⟩→go Z (.code (.loop B7s):: [.blk 0,.code C0k]) (Ret [6,7] [.sc (.o 1 (Y rI zr.1)),.sc (.v (.bool zr.2))]) .normal (N σ))(v19:V)(r:(P U) × V)(h:Q3 r14 a2 v6 a0 v7 v8 A24 v19=N r)(σ:St)(hσ:σ.kept [1,3,8,9,22,23,24,47] [3,8] [1344]=⟨[(1,vc (aI r14)),(3,vc (.pb 3 0)),(8,vc (.pb 8 0)),(9,vc (.own 1344)),(22,vc (aL (Y rI a2))),(23,vc (aI (a2.length:U))),(24,vc (aI v6)),(47,vc (aB v19))],[(3,(dm a0.row)),(8,[aB v7.i0,aB v7.i1,aB v7.i2,aB v7.i3,aB v7.i4,aB v7.i5,aB v7.i6,aB v7.i7])],[(1344,1,Y rI v8)]⟩):go Z (.code C66:: [.code D3j,.blk 1,.code D45,.code (.loop B7s),.blk 0,.code C0k]) (Ret [6,7] [.sc (.o 1 (Y rI r.1)),.sc (.v (.bool r.2))]) .normal (N σ):=by
 unfold Q3 at h
 rcases ic h with ⟨h20,h⟩|⟨h20,h⟩
 ·try simp only[hσ,h20,C66,C,E,F,G,H,J]
  cases h
  trivial
 ·obtain⟨h21,h⟩:=C9 h
  try simp only[hσ,h20,C66,D3j,C,E,F,G,H,J]
  refine C1x X X h21 ?_
  have hA22:A31 [aB v7.i0,aB v7.i1,aB v7.i2,aB v7.i3,aB v7.i4,aB v7.i5,aB v7.i6,aB v7.i7] (zA r14) [aB T]= [aB ((X7.set v7 (zA r14) T)).i0,aB ((X7.set v7 (zA r14) T)).i1,aB ((X7.set v7 (zA r14) T)).i2,aB ((X7.set v7 (zA r14) T)).i3,aB ((X7.set v7 (zA r14) T)).i4,aB ((X7.set v7 (zA r14) T)).i5,aB ((X7.set v7 (zA r14) T)).i6,aB ((X7.set v7 (zA r14) T)).i7]:=X7.set_eq v7 (A9b h21)
  have hA22g:A23 [aB v7.i0,aB v7.i1,aB v7.i2,aB v7.i3,aB v7.i4,aB v7.i5,aB v7.i6,aB v7.i7] (zA r14+1)=T:=C7r (A9b h21)
  have hA22h:A23 [aB v7.i1,aB v7.i2,aB v7.i3,aB v7.i4,aB v7.i5,aB v7.i6,aB v7.i7] (zA r14)=T:=C14 (c:=aB v7.i0) (A9b h21)
  try simp only[h20,hA22,hA22g,hA22h,C,E,F,G,H,J]
  refine D6 (es:=Y rI ([r14]:P U)) X X ?_
  obtain⟨h23,h⟩:=C9 h
  try simp only[h20,hA22,hA22g,hA22h,h23,D45,C,E,F,G,H,J]
  refine B3d _ _ _ _ _ h _ ?_
  try simp only[h20,hA22,hA22g,hA22h,h23,C,E,F,G,H,J,I]
theorem F5y(a2:P U)(a0:X9):∀(n:W) (v5 v6:U) (v7:X7) (v8:P U) (r:(P U) × V),J0 a2 a0 n v5 v6 v7 v8=N r→∀σ:St,σ.kept [1,3,8,9,22,23,24] [3,8] [1344]=⟨[(1,vc (aI v5)),(3,vc (.pb 3 0)),(8,vc (.pb 8 0)),(9,vc (.own 1344)),(22,vc (aL (Y rI a2))),(23,vc (aI (a2.length:U))),(24,vc (aI v6))],[(3,(dm a0.row)),(8,[aB v7.i0,aB v7.i1,aB v7.i2,aB v7.i3,aB v7.i4,aB v7.i5,aB v7.i6,aB v7.i7])],[(1344,1,Y rI v8)]⟩→go Z (.code (.loop B7s):: [.blk 0,.code C0k]) (Ret [6,7] [.sc (.o 1 (Y rI r.1)),.sc (.v (.bool r.2))]) .normal (N σ):=by
 intro n
 induction n with
 | zero=>intro _ _ _ _ r h; cases h
 | succ n ih=>
  intro v5 v6 v7 v8 r h σ hσ
  rw[J0] at h
  refine B5 ?_
  rcases ic h with ⟨h9,h⟩|⟨h9,h⟩
  ·obtain⟨x10,h10,h⟩:=ob h
   obtain⟨r11,h11,h⟩:=ob h
   try simp only[hσ,h9,h10,B7s,C,E,F,G,H,J]
   refine A2 (E9 _ _ _ h11) X X (uf X) ?_
   rcases ic h with ⟨h12,h⟩|⟨h12,h⟩
   ·obtain⟨x13,h13,h⟩:=ob h
    obtain⟨r14,h14,h⟩:=ob h
    try simp only[h9,h10,h12,h13,C,E,F,G,H,J]
    refine A2 (B0d _ _ _ h14) X X (uf X) ?_
    rcases ic h with ⟨h15,h⟩|⟨h15,h⟩
    ·try simp only[h9,h10,h12,h13,h15,C,E,F,G,H,J]
     refine E3e _ _ _ _ _ _ (J0 a2 a0 n) ih _ _ h _ ?_
     try simp only[h9,h10,h12,h13,h15,C,E,F,G,H,J,I]
    ·obtain⟨h16,h⟩:=C9 h
     try simp only[h9,h10,h12,h13,h15,C,E,F,G,H,J]
     refine C1x X X h16 ?_
     obtain⟨x17,h17,h⟩:=ob h
     have h17n:=M2 h17
     have hA18:([aB v7.i0,aB v7.i1,aB v7.i2,aB v7.i3,aB v7.i4,aB v7.i5,aB v7.i6,aB v7.i7]:P AC)[zA r14]?=N (aB x17):=D03 h17n
     try simp only[h9,h10,h12,h13,h15,hA18,C,E,F,G,H,J]
     refine E3e _ _ _ _ _ _ (J0 a2 a0 n) ih _ _ h _ ?_
     try simp only[h9,h10,h12,h13,h15,hA18,C,E,F,G,H,J,I]
   ·try simp only[h9,h10,h12,C,E,F,G,H,J]
    cases h
    trivial
  ·try simp only[hσ,h9,B7s,C0k,C,E,F,G,H,J]
   cases h
   trivial
theorem F4y:A5 Z 120=N (cc281.strip,[6,7],56):=by kernel_rfl
theorem A9j(a0:X9)(a1:U)(a2:P U)(r:(P U) × V)(h:U5 a0 a1 a2=N r):FC Z 120 [.ag (X9.row a0),.sc (.int .i64 a1),.sc (.sl (Y rI a2))] [.sc (.o 1 (Y rI r.1)),.sc (.v (.bool r.2))]:=by
 unfold U5 at h
 refine C3 mixed F4y X ?_
 simp only[cc281,C,E,F,G,H,J]
 try simp only[C,E,F,G,H,J]
 refine B2 X X X ?_
 obtain⟨r1,h1,h⟩:=ob h
 try simp only[C,E,F,G,H,J]
 refine A2 (E9 _ _ _ h1) X X (uf X) ?_
 rcases ic h with ⟨h2,h⟩|⟨h2,h⟩
 ·try simp only[h2,C,E,F,G,H,J]
  refine B7 X X ?_
  obtain⟨h3,h⟩:=C9 h
  try simp only[h2,C,E,F,G,H,J]
  refine C1x X X h3 ?_
  have hA4:A31 [aB L,aB L,aB L,aB L,aB L,aB L,aB L,aB L] (zA a1) [aB T]= [aB ((X7.set (⟨L,L,L,L,L,L,L,L⟩:X7) (zA a1) T)).i0,aB ((X7.set (⟨L,L,L,L,L,L,L,L⟩:X7) (zA a1) T)).i1,aB ((X7.set (⟨L,L,L,L,L,L,L,L⟩:X7) (zA a1) T)).i2,aB ((X7.set (⟨L,L,L,L,L,L,L,L⟩:X7) (zA a1) T)).i3,aB ((X7.set (⟨L,L,L,L,L,L,L,L⟩:X7) (zA a1) T)).i4,aB ((X7.set (⟨L,L,L,L,L,L,L,L⟩:X7) (zA a1) T)).i5,aB ((X7.set (⟨L,L,L,L,L,L,L,L⟩:X7) (zA a1) T)).i6,aB ((X7.set (⟨L,L,L,L,L,L,L,L⟩:X7) (zA a1) T)).i7]:=X7.set_eq (⟨L,L,L,L,L,L,L,L⟩:X7) (A9b h3)
  have hA4g:A23 [aB L,aB L,aB L,aB L,aB L,aB L,aB L,aB L] (zA a1+1)=T:=C7r (A9b h3)
  have hA4h:A23 [aB L,aB L,aB L,aB L,aB L,aB L,aB L] (zA a1)=T:=C14 (c:=aB L) (A9b h3)
  try simp only[h2,hA4,hA4g,hA4h,C,E,F,G,H,J]
  refine D6 (es:=Y rI ([a1]:P U)) X X ?_
  try simp only[h2,hA4,hA4g,hA4h,C,E,F,G,H,J]
  refine F5y _ _ _ _ _ _ _ _ h _ ?_
  try simp only[h2,hA4,hA4g,hA4h,C,E,F,G,H,J,I]
 ·try simp only[h2,C,E,F,G,H,J]
  cases h
  trivial
/- 101:impl_RoutePoints -/
def cc285:X2:=(.seq (.reg [bo 3 0,(O,.mv 6 KN)]) (.seq (.seq (.reg [lw 9 3 2,ca 10 53 [S 9],nt 11 10]) (.cond (S 11) (.seq (.reg [(O,.mv 6 KN)]) .ret) .skip)) (.seq (.reg [lw 13 3 2,mv 14 1,mv 15 2,ca 16 120 [S 13,S 14,S 15],mv 12 16,xt 17 12 0,xt 18 12 1,mv 7 17,mv 8 18]) (.seq (.reg [mv 19 7,mv 6 19]) .ret))))
theorem F49:A5 Z 101=N (cc285.strip,[6],20):=by kernel_rfl
theorem A7j(a0:X9)(a1:U)(a2:P U)(r:(P U))(h:O4 a0 a1 a2=N r):FC Z 101 [.ag (X9.row a0),.sc (.int .i64 a1),.sc (.sl (Y rI a2))] [.sc (.o 1 (Y rI r))]:=by
 unfold O4 at h
 refine C3 mixed F49 X ?_
 simp only[cc285,C,E,F,G,H,J]
 try simp only[C,E,F,G,H,J]
 refine B2 X X X ?_
 obtain⟨r1,h1,h⟩:=ob h
 try simp only[C,E,F,G,H,J]
 refine A2 (A0v _ _ h1) X X (uf X) ?_
 rcases ic h with ⟨h2,h⟩|⟨h2,h⟩
 ·obtain⟨r3,h3,h⟩:=ob h
  try simp only[h2,C,E,F,G,H,J]
  refine A2 (A9j _ _ _ _ h3) X X (uf X) ?_
  try simp only[h2,C,E,F,G,H,J]
  cases h
  trivial
 ·try simp only[h2,C,E,F,G,H,J]
  cases h
  trivial
/- 121:impl_RouteOk -/
def cc287:X2:=(.seq (.reg [bo 3 0,(O,.mv 6 (KB L))]) (.seq (.seq (.reg [lw 9 3 2,ca 10 53 [S 9],nt 11 10]) (.cond (S 11) (.seq (.reg [(O,.mv 6 (KB L))]) .ret) .skip)) (.seq (.reg [lw 13 3 2,mv 14 1,mv 15 2,ca 16 120 [S 13,S 14,S 15],mv 12 16,xt 17 12 0,xt 18 12 1,mv 7 17,mv 8 18]) (.seq (.reg [mv 19 8,mv 6 19]) .ret))))
theorem F63:A5 Z 121=N (cc287.strip,[6],20):=by kernel_rfl
theorem B34(a0:X9)(a1:U)(a2:P U)(r:V)(h:A2g a0 a1 a2=N r):FC Z 121 [.ag (X9.row a0),.sc (.int .i64 a1),.sc (.sl (Y rI a2))] [.sc (.v (.bool r))]:=by
 unfold A2g at h
 refine C3 mixed F63 X ?_
 simp only[cc287,C,E,F,G,H,J]
 try simp only[C,E,F,G,H,J]
 refine B2 X X X ?_
 obtain⟨r1,h1,h⟩:=ob h
 try simp only[C,E,F,G,H,J]
 refine A2 (A0v _ _ h1) X X (uf X) ?_
 rcases ic h with ⟨h2,h⟩|⟨h2,h⟩
 ·obtain⟨r3,h3,h⟩:=ob h
  try simp only[h2,C,E,F,G,H,J]
  refine A2 (A9j _ _ _ _ h3) X X (uf X) ?_
  try simp only[h2,C,E,F,G,H,J]
  cases h
  trivial
 ·try simp only[h2,C,E,F,G,H,J]
  cases h
  trivial
/- 122:impl_Ship_minutes -/
def cc289:X2:=(.seq (.reg [bo 2 0,bo 3 1,(O,.mv 4 (K 0))]) (.seq (.seq (.reg [fa 5 2 5,ld 6 5]) (.cond (S 6) (.seq (.reg [fa 7 3 3,ld 8 7,(O,.bin 9 .mul (K 2) (S 8)),mv 4 9]) .ret) .skip)) (.seq (.reg [fa 10 3 3,ld 11 10,mv 4 11]) .ret)))
theorem F8w:A5 Z 122=N (cc289.strip,[4],12):=by kernel_rfl
theorem A11(a0:Xc)(a1:X3)(r:U)(h:M7 a0 a1=N r):FC Z 122 [.ag (zD a0),.ag (X3.row a1)] [.sc (.v (.int .i64 r))]:=by
 unfold M7 at h
 refine C3 mixed F8w X ?_
 simp only[cc289,C,E,F,G,H,J]
 try simp only[C,E,F,G,H,J]
 refine B2 X X X ?_
 try simp only[C,E,F,G,H,J]
 refine B2 X X X ?_
 rcases ic h with ⟨h1,h⟩|⟨h1,h⟩
 ·try simp only[h1,C,E,F,G,H,J]
  cases h
  trivial
 ·try simp only[h1,C,E,F,G,H,J]
  cases h
  trivial
/- 141:impl_onSegment -/
def cc291:X2:=(.seq (.reg [bo 3 0,bo 5 2,(O,.mv 6 (KB L))]) (.seq (.reg [lw 7 3 2,ca 8 53 [S 7],mv 9 8,(N (9,T),.load 10 (S 5) T 6),(N (9,T),.call 11 83 [(S 10)]),pa 12 9 11,mv 13 12,(N (13,T),.mv 14 (S 1)),(N (13,T),.faddr 15 (S 3) 1),(N (13,T),.load 16 (S 15) L 1),(N (13,T),.len 17 (S 16)),(N (13,T),.call 18 50 [(S 14),(S 17)]),pa 19 13 18,mv 6 19]) .ret))
theorem F21:A5 Z 141=N (cc291.strip,[6],20):=by kernel_rfl
theorem B1n(a0:X9)(a1:U)(a2:Xc)(r:V)(h:A2b a0 a1 a2=N r):FC Z 141 [.ag (X9.row a0),.sc (.int .i64 a1),.ag (zD a2)] [.sc (.v (.bool r))]:=by
 unfold A2b at h
 refine C3 mixed F21 X ?_
 simp only[cc291,C,E,F,G,H,J]
 try simp only[C,E,F,G,H,J]
 refine B2 X X X ?_
 try simp only[C,E,F,G,H,J]
 refine B2 X X X ?_
 obtain⟨r1,h1,h⟩:=ob h
 try simp only[C,E,F,G,H,J]
 refine A2 (A0v _ _ h1) X X (uf X) ?_
 rcases ic h with ⟨h2,h⟩|⟨h2,h⟩
 ·obtain⟨r3,h3,h⟩:=ob h
  try simp only[h2,C,E,F,G,H,J]
  refine A2 (A4z _ _ h3) X X (uf X) ?_
  rcases ic h with ⟨h4,h⟩|⟨h4,h⟩
  ·obtain⟨r5,h5,h⟩:=ob h
   try simp only[h2,h4,C,E,F,G,H,J]
   refine A2 (E9 _ _ _ h5) X X (uf X) ?_
   try simp only[h2,h4,C,E,F,G,H,J]
   cases h
   trivial
  ·try simp only[h2,h4,C,E,F,G,H,J]
   cases h
   trivial
 ·try simp only[h2,C,E,F,G,H,J]
  cases h
  trivial
/- 167:impl_Ship_squat -/
def cc293:X2:=(.seq (.reg [bo 1 0,(O,.mv 2 (K 0))]) (.seq (.seq (.reg [fa 3 1 5,ld 4 3]) (.cond (S 4) (.seq (.reg [fa 5 1 2,ld 6 5,(O,.bin 7 .quo (S 6) (K 50)),mv 2 7]) .ret) .skip)) (.seq (.reg [fa 8 1 2,ld 9 8,(O,.bin 10 .quo (S 9) (K 20)),mv 2 10]) .ret)))
theorem F2i:A5 Z 167=N (cc293.strip,[2],11):=by kernel_rfl
theorem B8b(a0:Xc)(r:U)(h:A5w a0=N r):FC Z 167 [.ag (zD a0)] [.sc (.v (.int .i64 r))]:=by
 unfold A5w at h
 refine C3 mixed F2i X ?_
 simp only[cc293,C,E,F,G,H,J]
 try simp only[C,E,F,G,H,J]
 refine B2 X X X ?_
 rcases ic h with ⟨h1,h⟩|⟨h1,h⟩
 ·try simp only[h1,C,E,F,G,H,J]
  cases h
  trivial
 ·try simp only[h1,C,E,F,G,H,J]
  cases h
  trivial
/- 161:impl_Ship_need -/
def cc295:X2:=(.seq (.reg [bo 1 0,(O,.mv 2 (K 0))]) (.seq (.drw [(N [6],fa 3 1 2),(N [6],ld 4 3),o0 (lw 5 1 6),o0 (ca 6 167 [S 5]),o0 (bn 7 .add 4 6),o0 (O,.bin 8 .add (S 7) (K 50)),o0 (mv 2 8)]) .ret))
theorem F65:A5 Z 161=N (cc295.strip,[2],9):=by kernel_rfl
theorem B9s(a0:Xc)(r:U)(h:A6p a0=N r):FC Z 161 [.ag (zD a0)] [.sc (.v (.int .i64 r))]:=by
 unfold A6p at h
 refine C3 mixed F65 X ?_
 simp only[cc295,C,E,F,G,H,J]
 try simp only[C,E,F,G,H,J]
 refine B2 X X X ?_
 try simp only[C,E,F,G,H,J]
 refine B3 X ?_
 obtain⟨r1,h1,h⟩:=ob h
 try simp only[C,E,F,G,H,J]
 refine E1 (B8b _ _ h1) X X (uf X) ?_
 try simp only[C,E,F,G,H,J]
 cases h
 trivial
/- 144:impl_LevelFor -/
def cc297:X2:=(.seq (.reg [bo 3 0,bo 5 2,(O,.mv 6 (K 0))]) (.seq (.seq (.reg [lw 7 3 2,mv 8 1,lw 9 5 6,ca 10 141 [S 7,S 8,S 9],nt 11 10]) (.cond (S 11) (.seq (.reg [(O,.mv 6 (K 0))]) .ret) .skip)) (.seq (.drw [o0 (lw 12 5 6),o0 (ca 13 161 [S 12]),(N [13],fa 14 3 1),(N [13],ld 15 14),(N [13],mv 16 1),(N [13],ia 17 15 16 5),(N [13],fa 18 17 2),(N [13],ld 19 18),o0 (bn 20 .sub 13 19),o0 (mv 6 20)]) .ret)))
theorem F7x:A5 Z 144=N (cc297.strip,[6],21):=by kernel_rfl
theorem C1l(a0:X9)(a1:U)(a2:Xc)(r:U)(h:A44 a0 a1 a2=N r):FC Z 144 [.ag (X9.row a0),.sc (.int .i64 a1),.ag (zD a2)] [.sc (.v (.int .i64 r))]:=by
 unfold A44 at h
 refine C3 mixed F7x X ?_
 simp only[cc297,C,E,F,G,H,J]
 try simp only[C,E,F,G,H,J]
 refine B2 X X X ?_
 try simp only[C,E,F,G,H,J]
 refine B2 X X X ?_
 obtain⟨r1,h1,h⟩:=ob h
 try simp only[C,E,F,G,H,J]
 refine A2 (B1n _ _ _ _ h1) X X (uf X) ?_
 rcases ic h with ⟨h2,h⟩|⟨h2,h⟩
 ·try simp only[h2,C,E,F,G,H,J]
  refine B3 X ?_
  obtain⟨r3,h3,h⟩:=ob h
  try simp only[h2,C,E,F,G,H,J]
  refine E1 (B9s _ _ h3) X X (uf X) ?_
  obtain⟨x4,h4,h⟩:=ob h
  try simp only[h2,h4,C,E,F,G,H,J]
  cases h
  trivial
 ·try simp only[h2,C,E,F,G,H,J]
  cases h
  trivial
/- 158:impl_windowsOf -/
def D5e:X2:= .seq (.reg [(O,.keep [0,3,4,5] [] [384])]) (.reg [mv 22 3,mv 23 3,ln 24 23,(O,.bin 25 .sub (S 24) (K 1)),mv 26 5,ia 27 22 25 2,fa 28 27 1,so 28 26 1])
def C5e:X2:= .seq (.reg [(O,.keep [0,3,4,5] [] [384])]) (.reg [mv 9 5,(O,.bin 10 .add (S 9) (K 1)),mv 5 10])
def B24:X2:= .seq (.reg [(O,.keep [0,3,4,5] [] [384])]) (.seq (.seq (.reg [mv 7 5,(O,.bin 8 .leq (S 7) (K 2880))]) (.cond (S 8) .skip (.exit 0))) (.seq (.block 1 (.seq (.seq (.reg [mv 11 0,mv 12 5,(O,.callv 13 (S 11) [(S 12)]),nt 14 13]) (.cond (S 14) (.seq (.reg [(O,.mv 4 (KB L))]) (.exit 1)) .skip)) (.seq (.seq (.reg [mv 15 4,nt 16 15]) (.cond (S 16) (.seq (.reg [mv 17 3,mv 18 5,(O,.build 19 [aI 0,aI 0] [(0,1,(S 18))]),(O,.bslice 20 2 [.int .i64 0,.int .i64 0] 1 [(0,(S 19))]),(O,.app 21 2 16 (S 17) (S 20)),mv 3 21]) (.reg [(O,.mv 4 (KB T))])) .skip)) D5e))) C5e))
def B4j:X2:=(.seq (.reg [mv 29 3,mv 2 29]) .ret)
def cc303:X2:=(.seq (.reg [(O,.mv 2 KN)]) (.seq (.reg [(O,.bslice 6 2 [.int .i64 0,.int .i64 0] 0 []),mv 3 6]) (.seq (.reg [(O,.mv 4 (KB L))]) (.seq (.seq (.reg [(O,.mv 5 (K 0))]) (.block 0 (.loop B24))) B4j))))
theorem E3n(a0:U→Q V)(F_a0:FuncId)(caps_a0:P D)(hF_a0:A4j Z F_a0=T)(h_a0:∀z0 zr,a0 z0=N zr→FC Z F_a0 ([.sc (.int .i64 z0)]++caps_a0.map .sc) [.sc (.v (.bool zr))])(v2:U)(L3:V→U→(P Xb)→Q (P Xb))(A7a:∀(v1:V) (v2:U) (v3:P Xb) zr,L3 v1 v2 v3=N zr→∀σ:St,σ.kept [0,3,4,5] [] [384]=⟨[(0,vc (.dat (.clo F_a0 caps_a0))),(3,vc (.own 384)),(4,vc (aB v1)),(5,vc (aI v2))],[],[(384,2,Y zB v3)]⟩→go Z (.code (.loop B24):: [.blk 0,.code B4j]) (Ret [2] [.sc (.o 2 (Y zB zr))]) .normal (N σ))(v11:V)(v12:P Xb)(r:(P Xb))(h:W9 a0 v2 L3 v11 v12=N r)(σ:St)(hσ:σ.kept [0,3,4,5] [] [384]=⟨[(0,vc (.dat (.clo F_a0 caps_a0))),(3,vc (.own 384)),(4,vc (aB v11)),(5,vc (aI v2))],[],[(384,2,Y zB v12)]⟩):go Z (.code C5e:: [.code (.loop B24),.blk 0,.code B4j]) (Ret [2] [.sc (.o 2 (Y zB r))]) .normal (N σ):=by
 unfold W9 at h
 try simp only[hσ,C5e,C,E,F,G,H,J]
 refine A7a _ _ _ _ h _ ?_
 try simp only[C,E,F,G,H,J,I]
theorem E2r(a0:U→Q V)(F_a0:FuncId)(caps_a0:P D)(hF_a0:A4j Z F_a0=T)(h_a0:∀z0 zr,a0 z0=N zr→FC Z F_a0 ([.sc (.int .i64 z0)]++caps_a0.map .sc) [.sc (.v (.bool zr))])(v2:U)(L3:V→U→(P Xb)→Q (P Xb))(A7a:∀(v1:V) (v2:U) (v3:P Xb) zr,L3 v1 v2 v3=N zr→∀σ:St,σ.kept [0,3,4,5] [] [384]=⟨[(0,vc (.dat (.clo F_a0 caps_a0))),(3,vc (.own 384)),(4,vc (aB v1)),(5,vc (aI v2))],[],[(384,2,Y zB v3)]⟩→go Z (.code (.loop B24):: [.blk 0,.code B4j]) (Ret [2] [.sc (.o 2 (Y zB zr))]) .normal (N σ))(v9:P Xb)(r:(P Xb))(h:A0r a0 v2 L3 v9=N r)(σ:St)(hσ:σ.kept [0,3,4,5] [] [384]=⟨[(0,vc (.dat (.clo F_a0 caps_a0))),(3,vc (.own 384)),(4,vc (aB T)),(5,vc (aI v2))],[],[(384,2,Y zB v9)]⟩):go Z (.code D5e:: [.blk 1,.code C5e,.code (.loop B24),.blk 0,.code B4j]) (Ret [2] [.sc (.o 2 (Y zB r))]) .normal (N σ):=by
 unfold A0r at h
 obtain⟨x10,h10,h⟩:=ob h
 have h10n:=M2 h10
 try simp only[hσ,h10,D5e,C,E,F,G,H,J]
 refine A5j (row:=zB) (y:=(⟨x10.From,v2⟩:Xb)) X X h10n X X (by rfl) ?_
 try simp only[h10,C,E,F,G,H,J]
 refine E3n a0 F_a0 caps_a0 hF_a0 h_a0 _ L3 A7a _ _ _ h _ ?_
 try simp only[h10,C,E,F,G,H,J,I]
theorem F5v(a0:U→Q V)(F_a0:FuncId)(caps_a0:P D)(hF_a0:A4j Z F_a0=T)(h_a0:∀z0 zr,a0 z0=N zr→FC Z F_a0 ([.sc (.int .i64 z0)]++caps_a0.map .sc) [.sc (.v (.bool zr))]):∀(n:W) (v1:V) (v2:U) (v3:P Xb) (r:(P Xb)),I5 a0 n v1 v2 v3=N r→∀σ:St,σ.kept [0,3,4,5] [] [384]=⟨[(0,vc (.dat (.clo F_a0 caps_a0))),(3,vc (.own 384)),(4,vc (aB v1)),(5,vc (aI v2))],[],[(384,2,Y zB v3)]⟩→go Z (.code (.loop B24):: [.blk 0,.code B4j]) (Ret [2] [.sc (.o 2 (Y zB r))]) .normal (N σ):=by
 intro n
 induction n with
 | zero=>intro _ _ _ r h; cases h
 | succ n ih=>
  intro v1 v2 v3 r h σ hσ
  rw[I5] at h
  refine B5 ?_
  rcases ic h with ⟨h4,h⟩|⟨h4,h⟩
  ·obtain⟨r5,h5,h⟩:=ob h
   try simp only[hσ,h4,B24,C,E,F,G,H,J]
   refine C7n (h_a0 _ _ h5) hF_a0 X X (N9 X) X (uf X) ?_
   rcases ic h with ⟨h6,h⟩|⟨h6,h⟩
   ·rcases ic h with ⟨h7,h⟩|⟨h7,h⟩
    ·try simp only[h4,h6,h7,C,E,F,G,H,J]
     refine E2r a0 F_a0 caps_a0 hF_a0 h_a0 _ (I5 a0 n) ih _ _ h _ ?_
     try simp only[h4,h6,h7,C,E,F,G,H,J,I]
    ·try simp only[h4,h6,h7,C,E,F,G,H,J]
     refine D6 (es:=Y zB ([(⟨v2,(0:U)⟩:Xb)]:P Xb)) X X ?_
     obtain⟨h8,h⟩:=C9 h
     try simp only[h4,h6,h7,h8,C,E,F,G,H,J]
     refine E2r a0 F_a0 caps_a0 hF_a0 h_a0 _ (I5 a0 n) ih _ _ h _ ?_
     try simp only[h4,h6,h7,h8,C,E,F,G,H,J,I]
   ·try simp only[h4,h6,C,E,F,G,H,J]
    refine E3n a0 F_a0 caps_a0 hF_a0 h_a0 _ (I5 a0 n) ih _ _ _ h _ ?_
    try simp only[h4,h6,C,E,F,G,H,J,I]
  ·try simp only[hσ,h4,B24,B4j,C,E,F,G,H,J]
   cases h
   trivial
theorem F5k:A5 Z 158=N (cc303.strip,[2],30):=by kernel_rfl
theorem B9e(a0:U→Q V)(r:(P Xb))(F_a0:FuncId)(caps_a0:P D)(hF_a0:A4j Z F_a0=T)(h_a0:∀z0 zr,a0 z0=N zr→FC Z F_a0 ([.sc (.int .i64 z0)]++caps_a0.map .sc) [.sc (.v (.bool zr))])(h:A6i a0=N r):FC Z 158 [.sc (.clo F_a0 caps_a0)] [.sc (.o 2 (Y zB r))]:=by
 unfold A6i at h
 refine C3 mixed F5k X ?_
 simp only[cc303,C,E,F,G,H,J]
 try simp only[C,E,F,G,H,J]
 refine D6 (es:=Y zB ([]:P Xb)) X X ?_
 try simp only[C,E,F,G,H,J]
 refine F5v a0 F_a0 caps_a0 hF_a0 h_a0 _ _ _ _ _ h _ ?_
 try simp only[C,E,F,G,H,J,I]
/- 168:impl_Wave -/
def cc308:X2:=(.seq (.reg [(O,.mv 4 (K 0))]) (.seq (.seq (.reg [mv 7 1,ca 8 106 [S 7],nt 9 8]) (.cond (S 9) (.seq (.reg [(O,.mv 4 (K 0))]) .ret) .skip)) (.seq (.reg [mv 10 0,mv 11 1,bn 12 .rem 10 11,mv 13 1,bn 14 .add 12 13,mv 15 1,bn 16 .rem 14 15,mv 5 16]) (.seq (.reg [mv 17 1,(O,.bin 18 .quo (S 17) (K 2)),mv 6 18]) (.seq (.seq (.reg [mv 19 5,mv 20 6,bn 21 .geq 19 20]) (.cond (S 21) (.seq (.reg [mv 22 5,mv 23 6,bn 24 .sub 22 23,mv 5 24]) (.seq (.reg [mv 25 5,(O,.bin 26 .mul (K 40000) (S 25)),mv 27 6,mv 28 5,bn 29 .sub 27 28,bn 30 .mul 26 29,mv 31 6,mv 32 6,bn 33 .mul 31 32,bn 34 .quo 30 33,(O,.un 35 .neg (S 34)),mv 4 35]) .ret)) .skip)) (.seq (.reg [mv 36 5,(O,.bin 37 .mul (K 40000) (S 36)),mv 38 6,mv 39 5,bn 40 .sub 38 39,bn 41 .mul 37 40,mv 42 6,mv 43 6,bn 44 .mul 42 43,bn 45 .quo 41 44,mv 4 45]) .ret))))))
theorem F59:A5 Z 168=N (cc308.strip,[4],46):=by kernel_rfl
theorem C9k(a0 a1 r:U)(h:A8h a0 a1=N r):FC Z 168 [.sc (.int .i64 a0),.sc (.int .i64 a1)] [.sc (.v (.int .i64 r))]:=by
 unfold A8h at h
 refine C3 mixed F59 X ?_
 simp only[cc308,C,E,F,G,H,J]
 obtain⟨r1,h1,h⟩:=ob h
 try simp only[C,E,F,G,H,J]
 refine A2 (B26 _ _ h1) X X (uf X) ?_
 rcases ic h with ⟨h2,h⟩|⟨h2,h⟩
 ·obtain⟨h3,h⟩:=A1u h
  obtain⟨h4,h⟩:=A1u h
  rcases ic h with ⟨h5,h⟩|⟨h5,h⟩
  ·obtain⟨h6,h⟩:=A1u h
   try simp only[h2,h3,h4,h5,h6,C,E,F,G,H,J]
   cases h
   trivial
  ·obtain⟨h7,h⟩:=A1u h
   try simp only[h2,h3,h4,h5,h7,C,E,F,G,H,J]
   cases h
   trivial
 ·try simp only[h2,C,E,F,G,H,J]
  cases h
  trivial
/- 166:impl_Tide_level -/
def C5g:X2:= .seq (.reg [(O,.keep [1,5,11,12,13] [] [])]) (.seq (.reg [bn 14 .lss 13 12]) (.seq (.cond (S 14) .skip (.exit 0)) (.seq (.block 1 (.seq (.reg [ia 15 11 13 3,lw 16 15 3,(O,.alloc 7 [aI 0,aI 0,aI 0]),so 7 16 3]) (.drw [(N [26],mv 17 5),(N [26],fa 18 7 0),(N [26],ld 19 18),o0 (mv 20 1),o0 (fa 21 7 2),o0 (ld 22 21),o0 (bn 23 .add 20 22),o0 (fa 24 7 1),o0 (ld 25 24),o0 (ca 26 168 [S 23,S 25]),o0 (bn 27 .mul 19 26),o0 (O,.bin 28 .quo (S 27) (K 10000)),o0 (bn 29 .add 17 28),o0 (mv 5 29)]))) (.reg [(O,.bin 30 .add (S 13) (K 1)),mv 13 30]))))
def D5w:X2:=(.seq (.reg [mv 31 5,mv 4 31]) .ret)
def cc312:X2:=(.seq (.reg [bo 2 0,(O,.mv 4 (K 0))]) (.seq (.reg [fa 8 2 0,ld 9 8,mv 5 9]) (.seq (.seq (.reg [fa 10 2 1,ld 11 10,ln 12 11,(O,.mv 13 (K 0))]) (.block 0 (.loop C5g))) D5w)))
theorem F27(a1:U)(a0:Xn):∀(n:W) (v1 v2 r:U),U4 a1 a0 n v1 v2=N r→∀σ:St,σ.kept [1,5,11,12,13] [] []=⟨[(1,vc (aI a1)),(5,vc (aI v1)),(11,vc (aL (Y Xe.row a0.Parts))),(12,vc (aI (a0.Parts.length:U))),(13,vc (aI v2))],[],[]⟩→go Z (.code (.loop C5g):: [.blk 0,.code D5w]) (Ret [4] [.sc (.v (.int .i64 r))]) .normal (N σ):=by
 intro n
 induction n with
 | zero=>intro _ _ r h; cases h
 | succ n ih=>
  intro v1 v2 r h σ hσ
  rw[U4] at h
  refine B5 ?_
  rcases ic h with ⟨h3,h⟩|⟨h3,h⟩
  ·obtain⟨x4,h4,h⟩:=ob h
   try simp only[hσ,h3,h4,C5g,C,E,F,G,H,J]
   refine B7 X X ?_
   try simp only[h3,h4,C,E,F,G,H,J]
   refine B3 X ?_
   obtain⟨r5,h5,h⟩:=ob h
   try simp only[h3,h4,C,E,F,G,H,J]
   refine E1 (C9k _ _ _ h5) X X (uf X) ?_
   try simp only[h3,h4,C,E,F,G,H,J]
   refine ih _ _ _ h _ ?_
   try simp only[h3,h4,C,E,F,G,H,J,I]
  ·try simp only[hσ,h3,C5g,D5w,C,E,F,G,H,J]
   cases h
   trivial
theorem F42:A5 Z 166=N (cc312.strip,[4],32):=by kernel_rfl
theorem B8h(a0:Xn)(a1 r:U)(h:A5v a0 a1=N r):FC Z 166 [.ag (Xn.row a0),.sc (.int .i64 a1)] [.sc (.v (.int .i64 r))]:=by
 unfold A5v at h
 refine C3 mixed F42 X ?_
 simp only[cc312,C,E,F,G,H,J]
 try simp only[C,E,F,G,H,J]
 refine B2 X X X ?_
 try simp only[C,E,F,G,H,J]
 refine F27 _ _ _ _ _ _ h _ ?_
 try simp only[C,E,F,G,H,J,I]
/- 160:impl_Forecast_low -/
def cc315:X2:=(.seq (.reg [bo 2 0,(O,.mv 4 (K 0))]) (.seq (.drw [o0 (fa 5 2 0),o0 (lw 6 5 2),o0 (mv 7 1),o0 (ca 8 166 [S 6,S 7]),(N [8,13],fa 9 2 2),(N [8,13],ld 10 9),(N [8],lw 11 2 3),(N [8],mv 12 1),o0 (ca 13 26 [S 11,S 12]),o0 (ia 14 10 13 3),o0 (fa 15 14 1),o0 (ld 16 15),o0 (bn 17 .add 8 16),o0 (mv 4 17)]) .ret))
theorem F8k:A5 Z 160=N (cc315.strip,[4],18):=by kernel_rfl
theorem B5k(a0:X8)(a1 r:U)(h:P1 a0 a1=N r):FC Z 160 [.ag (X8.row a0),.sc (.int .i64 a1)] [.sc (.v (.int .i64 r))]:=by
 unfold P1 at h
 refine C3 mixed F8k X ?_
 simp only[cc315,C,E,F,G,H,J]
 try simp only[C,E,F,G,H,J]
 refine B2 X X X ?_
 try simp only[C,E,F,G,H,J]
 refine B3 X ?_
 obtain⟨r1,h1,h⟩:=ob h
 try simp only[C,E,F,G,H,J]
 refine E1 (B8h _ _ _ h1) X X (uf X) ?_
 obtain⟨r2,h2,h⟩:=ob h
 try simp only[C,E,F,G,H,J]
 refine E1 (H4 _ _ _ h2) X X (uf X) ?_
 obtain⟨x3,h3,h⟩:=ob h
 try simp only[h3,C,E,F,G,H,J]
 cases h
 trivial
/- 159:impl_LowWindows_1 -/
def cc317:X2:=(.seq (.reg [(O,.mv 4 (KB L))]) (.seq (.drw [o0 (lw 5 1 3),o0 (mv 6 0),o0 (ca 7 160 [S 5,S 6]),(N [7],ld 8 2),o0 (bn 9 .geq 7 8),o0 (mv 4 9)]) .ret))
theorem F82:A5 Z 159=N (cc317.strip,[4],10):=by kernel_rfl
theorem F6m(a0:U)(c0:X8)(c1:U)(r:V)(h:A15 a0 c0 c1=N r):FC Z 159 [.sc (.int .i64 a0),.sc (.pd (X8.row c0)),.sc (.pd (rI c1))] [.sc (.v (.bool r))]:=by
 unfold A15 at h
 refine C3 mixed F82 X ?_
 simp only[cc317,C,E,F,G,H,J]
 try simp only[C,E,F,G,H,J]
 refine B3 X ?_
 obtain⟨r1,h1,h⟩:=ob h
 try simp only[C,E,F,G,H,J]
 refine E1 (B5k _ _ _ h1) X X (uf X) ?_
 try simp only[C,E,F,G,H,J]
 cases h
 trivial
/- 143:impl_LowWindows -/
def cc320:X2:=(.seq (.reg [bo 2 0,bo 3 1,(O,.mv 4 KN)]) (.seq (.seq (.reg [lw 5 2 3,ca 6 24 [S 5],nt 7 6]) (.cond (S 7) (.seq (.reg [(O,.mv 4 KN)]) .ret) .skip)) (.seq (.reg [(O,.mkf 8 159 [(S 2),(S 3)]),ca 9 158 [S 8],mv 4 9]) .ret)))
theorem F9t:A5 Z 143=N (cc320.strip,[4],10):=by kernel_rfl
theorem B78(a0:X8)(a1:U)(r:(P Xb))(h:A5t a0 a1=N r):FC Z 143 [.ag (X8.row a0),.sc (.int .i64 a1)] [.sc (.o 2 (Y zB r))]:=by
 unfold A5t at h
 refine C3 mixed F9t X ?_
 simp only[cc320,C,E,F,G,H,J]
 try simp only[C,E,F,G,H,J]
 refine B2 X X X ?_
 try simp only[C,E,F,G,H,J]
 refine B2 X X X ?_
 obtain⟨r1,h1,h⟩:=ob h
 try simp only[C,E,F,G,H,J]
 refine A2 (P2 _ _ h1) X X (uf X) ?_
 rcases ic h with ⟨h2,h⟩|⟨h2,h⟩
 ·obtain⟨r3,h3,h⟩:=ob h
  try simp only[h2,C,E,F,G,H,J]
  refine P4 (B9e _ _ 159 [.pd (X8.row a0),.pd (rI a1)] (by kernel_rfl) (fun z0 zr zh=>F6m z0 a0 a1 zr zh) h3) X (A7r X ⟨A7m,⟨⟩⟩) X (uf X) ?_
  try simp only[h2,C,E,F,G,H,J]
  cases h
  trivial
 ·try simp only[h2,C,E,F,G,H,J]
  cases h
  trivial
/- 145:impl_MinutesOn -/
def cc322:X2:=(.seq (.reg [bo 3 0,bo 5 2,(O,.mv 6 (K 0))]) (.seq (.seq (.reg [lw 7 3 2,ca 8 53 [S 7],nt 9 8,mv 10 9,(N (10,L),.load 11 (S 5) T 6),(N (10,L),.call 12 83 [(S 11)]),(N (10,L),.un 13 .not (S 12)),po 14 10 13,mv 15 14,(N (15,L),.mv 16 (S 1)),(N (15,L),.faddr 17 (S 3) 1),(N (15,L),.load 18 (S 17) L 1),(N (15,L),.len 19 (S 18)),(N (15,L),.call 20 50 [(S 16),(S 19)]),(N (15,L),.un 21 .not (S 20)),po 22 15 21]) (.cond (S 22) (.seq (.reg [(O,.mv 6 (K 0))]) .ret) .skip)) (.seq (.drw [o0 (lw 23 5 6),o0 (fa 24 3 1),o0 (ld 25 24),o0 (mv 26 1),o0 (ia 27 25 26 5),o0 (lw 28 27 5),o0 (ca 29 122 [S 23,S 28]),o0 (mv 6 29)]) .ret)))
theorem F8m:A5 Z 145=N (cc322.strip,[6],30):=by kernel_rfl
theorem B9x(a0:X9)(a1:U)(a2:Xc)(r:U)(h:A6h a0 a1 a2=N r):FC Z 145 [.ag (X9.row a0),.sc (.int .i64 a1),.ag (zD a2)] [.sc (.v (.int .i64 r))]:=by
 unfold A6h at h
 refine C3 mixed F8m X ?_
 simp only[cc322,C,E,F,G,H,J]
 try simp only[C,E,F,G,H,J]
 refine B2 X X X ?_
 try simp only[C,E,F,G,H,J]
 refine B2 X X X ?_
 obtain⟨r1,h1,h⟩:=ob h
 try simp only[C,E,F,G,H,J]
 refine A2 (A0v _ _ h1) X X (uf X) ?_
 rcases ic h with ⟨h2,h⟩|⟨h2,h⟩
 ·obtain⟨r3,h3,h⟩:=ob h
  try simp only[h2,C,E,F,G,H,J]
  refine A2 (A4z _ _ h3) X X (uf X) ?_
  rcases ic h with ⟨h4,h⟩|⟨h4,h⟩
  ·obtain⟨r5,h5,h⟩:=ob h
   try simp only[h2,h4,C,E,F,G,H,J]
   refine A2 (E9 _ _ _ h5) X X (uf X) ?_
   rcases ic h with ⟨h6,h⟩|⟨h6,h⟩
   ·try simp only[h2,h4,h6,C,E,F,G,H,J]
    refine B3 X ?_
    obtain⟨x7,h7,h⟩:=ob h
    obtain⟨r9,h9,h⟩:=ob h
    try simp only[h2,h4,h6,h7,C,E,F,G,H,J]
    refine E1 (A11 _ _ _ h9) X X (uf X) ?_
    try simp only[h2,h4,h6,h7,C,E,F,G,H,J]
    cases h
    trivial
   ·try simp only[h2,h4,h6,C,E,F,G,H,J]
    cases h
    trivial
  ·try simp only[h2,h4,C,E,F,G,H,J]
   cases h
   trivial
 ·try simp only[h2,C,E,F,G,H,J]
  cases h
  trivial
/- 146:impl_WindowsOk -/
def C62:X2:= .seq (.reg [(O,.keep [0,5,6,7] [] [])]) (.seq (.reg [bn 8 .lss 7 6]) (.seq (.cond (S 8) .skip (.exit 0)) (.seq (.block 1 (.seq (.reg [mv 9 7,ia 10 5 7 2,lw 11 10 2,(O,.alloc 4 [aI 0,aI 0]),mv 3 9,so 4 11 2]) (.seq (.drw [o0 (fa 12 4 0),o0 (ld 13 12),o0 (O,.bin 14 .lss (S 13) (K 0)),o0 (mv 15 14),o0 (N (15,L),.faddr 16 (S 4) 0),o0 (N (15,L),.load 17 (S 16) L 1),o0 (N (15,L),.faddr 18 (S 4) 1),o0 (N (15,L),.load 19 (S 18) L 1),o0 (N (15,L),.bin 20 .gtr (S 17) (S 19)),o0 (po 21 15 20),o0 (mv 22 21),o0 (N (22,L),.faddr 23 (S 4) 1),o0 (N (22,L),.load 24 (S 23) L 1),o0 (N (22,L),.bin 25 .gtr (S 24) (K 2880)),o0 (po 26 22 25),o0 (mv 27 26),o0 (N (27,L),.mv 28 (S 3)),o0 (N (27,L),.bin 29 .gtr (S 28) (K 0)),o0 (N (27,L),.mv 30 (S 29)),o0 (N (30,T),.mv 31 (S 0)),o0 (N (30,T),.mv 32 (S 3)),o0 (N (30,T),.bin 33 .sub (S 32) (K 1)),o0 (N (30,T),.iaddr 34 (S 31) (S 33) 2),o0 (N (30,T),.faddr 35 (S 34) 1),o0 (N (30,T),.load 36 (S 35) L 1),o0 (N (30,T),.bin 37 .add (S 36) (K 1)),o0 (N (30,T),.faddr 38 (S 4) 0),o0 (N (30,T),.load 39 (S 38) L 1),o0 (N (30,T),.bin 40 .geq (S 37) (S 39)),o0 (N (27,L),.pick 41 (S 30) (S 40) (KB L)),o0 (po 42 27 41)]) (.cond (S 42) (.seq (.reg [(O,.mv 2 (KB L))]) .ret) .skip)))) (.reg [(O,.bin 43 .add (S 7) (K 1)),mv 7 43]))))
def D30:X2:=(.seq (.reg [(O,.mv 2 (KB T))]) .ret)
def cc326:X2:=(.seq (.reg [(O,.mv 2 (KB L))]) (.seq (.seq (.reg [mv 5 0,ln 6 5,(O,.mv 7 (K 0))]) (.block 0 (.loop C62))) D30))
theorem F62(a0:P Xb):∀(n:W) (v1:U) (r:V),R5 a0 n v1=N r→∀σ:St,σ.kept [0,5,6,7] [] []=⟨[(0,vc (aL (Y zB a0))),(5,vc (aL (Y zB a0))),(6,vc (aI (a0.length:U))),(7,vc (aI v1))],[],[]⟩→go Z (.code (.loop C62):: [.blk 0,.code D30]) (Ret [2] [.sc (.v (.bool r))]) .normal (N σ):=by
 intro n
 induction n with
 | zero=>intro _ r h; cases h
 | succ n ih=>
  intro v1 r h σ hσ
  rw[R5] at h
  refine B5 ?_
  rcases ic h with ⟨h2,h⟩|⟨h2,h⟩
  ·obtain⟨x3,h3,h⟩:=ob h
   try simp only[hσ,h2,h3,C62,C,E,F,G,H,J]
   refine B7 X X ?_
   try simp only[h2,h3,C,E,F,G,H,J]
   refine B3 X ?_
   rcases ic h with ⟨h4,h⟩|⟨h4,h⟩
   ·try simp only[h2,h3,h4,C,E,F,G,H,J]
    cases h
    trivial
   ·rcases ic h with ⟨h5,h⟩|⟨h5,h⟩
    ·try simp only[h2,h3,h4,h5,C,E,F,G,H,J]
     cases h
     trivial
    ·rcases ic h with ⟨h6,h⟩|⟨h6,h⟩
     ·try simp only[h2,h3,h4,h5,h6,C,E,F,G,H,J]
      cases h
      trivial
     ·rcases ic h with ⟨h7,h⟩|⟨h7,h⟩
      ·obtain⟨x8,h8,h⟩:=ob h
       rcases ic h with ⟨h9,h⟩|⟨h9,h⟩
       ·try simp only[h2,h3,h4,h5,h6,h7,h8,h9,C,E,F,G,H,J]
        cases h
        trivial
       ·try simp only[h2,h3,h4,h5,h6,h7,h8,h9,C,E,F,G,H,J]
        refine ih _ _ h _ ?_
        try simp only[h2,h3,h4,h5,h6,h7,h8,h9,C,E,F,G,H,J,I]
      ·try simp only[h2,h3,h4,h5,h6,h7,C,E,F,G,H,J]
       refine ih _ _ h _ ?_
       try simp only[h2,h3,h4,h5,h6,h7,C,E,F,G,H,J,I]
  ·try simp only[hσ,h2,C62,D30,C,E,F,G,H,J]
   cases h
   trivial
theorem F8v:A5 Z 146=N (cc326.strip,[2],44):=by kernel_rfl
theorem B1y(a0:P Xb)(r:V)(h:A4n a0=N r):FC Z 146 [.sc (.sl (Y zB a0))] [.sc (.v (.bool r))]:=by
 unfold A4n at h
 refine C3 mixed F8v X ?_
 simp only[cc326,C,E,F,G,H,J]
 try simp only[C,E,F,G,H,J]
 refine F62 _ _ _ _ h _ ?_
 try simp only[C,E,F,G,H,J,I]
/- 142:impl_ShrinkWindows -/
def C6w:X2:= .seq (.reg [(O,.keep [1,5,17,18,19] [] [1024])]) (.seq (.reg [bn 20 .lss 19 18]) (.seq (.cond (S 20) .skip (.exit 0)) (.seq (.block 1 (.seq (.reg [ia 21 17 19 2,lw 22 21 2,(O,.alloc 7 [aI 0,aI 0]),so 7 22 2]) (.seq (.reg [fa 23 7 1,ld 24 23,fa 25 7 0,ld 26 25,bn 27 .sub 24 26,mv 28 1,bn 29 .geq 27 28]) (.cond (S 29) (.reg [mv 30 5,fa 31 7 0,ld 32 31,fa 33 7 1,ld 34 33,mv 35 1,bn 36 .sub 34 35,(O,.build 37 [aI 0,aI 0] [(0,1,(S 32)),(1,1,(S 36))]),(O,.bslice 38 2 [.int .i64 0,.int .i64 0] 1 [(0,(S 37))]),(O,.app 39 2 16 (S 30) (S 38)),mv 5 39]) .skip)))) (.reg [(O,.bin 40 .add (S 19) (K 1)),mv 19 40]))))
def D1s:X2:=(.seq (.reg [mv 41 5,mv 4 41]) .ret)
def cc331:X2:=(.seq (.reg [(O,.mv 4 KN)]) (.seq (.seq (.reg [mv 8 0,ca 9 146 [S 8],nt 10 9,mv 11 10,(N (11,L),.mv 12 (S 1)),(N (11,L),.call 13 25 [(S 12)]),(N (11,L),.un 14 .not (S 13)),po 15 11 14]) (.cond (S 15) (.seq (.reg [(O,.mv 4 KN)]) .ret) .skip)) (.seq (.reg [(O,.bslice 16 2 [.int .i64 0,.int .i64 0] 0 []),mv 5 16]) (.seq (.seq (.reg [mv 17 0,ln 18 17,(O,.mv 19 (K 0))]) (.block 0 (.loop C6w))) D1s))))
theorem F7i(a1:U)(a0:P Xb):∀(n:W) (v5:U) (v6:P Xb) (r:(P Xb)),M0 a1 a0 n v5 v6=N r→∀σ:St,σ.kept [1,5,17,18,19] [] [1024]=⟨[(1,vc (aI a1)),(5,vc (.own 1024)),(17,vc (aL (Y zB a0))),(18,vc (aI (a0.length:U))),(19,vc (aI v5))],[],[(1024,2,Y zB v6)]⟩→go Z (.code (.loop C6w):: [.blk 0,.code D1s]) (Ret [4] [.sc (.o 2 (Y zB r))]) .normal (N σ):=by
 intro n
 induction n with
 | zero=>intro _ _ r h; cases h
 | succ n ih=>
  intro v5 v6 r h σ hσ
  rw[M0] at h
  refine B5 ?_
  rcases ic h with ⟨h7,h⟩|⟨h7,h⟩
  ·obtain⟨x8,h8,h⟩:=ob h
   try simp only[hσ,h7,h8,C6w,C,E,F,G,H,J]
   refine B7 X X ?_
   rcases ic h with ⟨h9,h⟩|⟨h9,h⟩
   ·try simp only[h7,h8,h9,C,E,F,G,H,J]
    refine D6 (es:=Y zB ([(⟨x8.From,(IntKind.i64.wrap (x8.To - a1))⟩:Xb)]:P Xb)) X X ?_
    obtain⟨h10,h⟩:=C9 h
    try simp only[h7,h8,h9,h10,C,E,F,G,H,J]
    refine ih _ _ _ h _ ?_
    try simp only[h7,h8,h9,h10,C,E,F,G,H,J,I]
   ·try simp only[h7,h8,h9,C,E,F,G,H,J]
    refine ih _ _ _ h _ ?_
    try simp only[h7,h8,h9,C,E,F,G,H,J,I]
  ·try simp only[hσ,h7,C6w,D1s,C,E,F,G,H,J]
   cases h
   trivial
theorem F98:A5 Z 142=N (cc331.strip,[4],42):=by kernel_rfl
theorem B4q(a0:P Xb)(a1:U)(r:(P Xb))(h:A1k a0 a1=N r):FC Z 142 [.sc (.sl (Y zB a0)),.sc (.int .i64 a1)] [.sc (.o 2 (Y zB r))]:=by
 unfold A1k at h
 refine C3 mixed F98 X ?_
 simp only[cc331,C,E,F,G,H,J]
 obtain⟨r1,h1,h⟩:=ob h
 try simp only[C,E,F,G,H,J]
 refine A2 (B1y _ _ h1) X X (uf X) ?_
 rcases ic h with ⟨h2,h⟩|⟨h2,h⟩
 ·obtain⟨r3,h3,h⟩:=ob h
  try simp only[h2,C,E,F,G,H,J]
  refine A2 (O5 _ _ h3) X X (uf X) ?_
  rcases ic h with ⟨h4,h⟩|⟨h4,h⟩
  ·try simp only[h2,h4,C,E,F,G,H,J]
   refine D6 (es:=Y zB ([]:P Xb)) X X ?_
   try simp only[h2,h4,C,E,F,G,H,J]
   refine F7i _ _ _ _ _ _ h _ ?_
   try simp only[h2,h4,C,E,F,G,H,J,I]
  ·try simp only[h2,h4,C,E,F,G,H,J]
   cases h
   trivial
 ·try simp only[h2,C,E,F,G,H,J]
  cases h
  trivial
/- 123:impl_SureStarts -/
def cc334:X2:=(.seq (.reg [bo 4 0,bo 5 1,bo 7 3,(O,.mv 8 KN)]) (.seq (.seq (.reg [lw 9 4 3,ca 10 24 [S 9],nt 11 10,mv 12 11,(N (12,L),.load 13 (S 5) T 2),(N (12,L),.mv 14 (S 2)),(N (12,L),.load 15 (S 7) T 6),(N (12,L),.call 16 141 [(S 13),(S 14),(S 15)]),(N (12,L),.un 17 .not (S 16)),po 18 12 17]) (.cond (S 18) (.seq (.reg [(O,.mv 8 KN)]) .ret) .skip)) (.seq (.drw [(N [23],lw 19 4 3),o0 (lw 20 5 2),o0 (mv 21 2),o0 (lw 22 7 6),o0 (ca 23 144 [S 20,S 21,S 22]),o0 (ca 24 143 [S 19,S 23]),(N [23,24],lw 25 5 2),(N [23,24],mv 26 2),(N [23,24],lw 27 7 6),o0 (ca 28 145 [S 25,S 26,S 27]),o0 (ca 29 142 [S 24,S 28]),o0 (mv 8 29)]) .ret)))
theorem F6e:A5 Z 123=N (cc334.strip,[8],30):=by kernel_rfl
theorem B8a(a0:X8)(a1:X9)(a2:U)(a3:Xc)(r:(P Xb))(h:A3m a0 a1 a2 a3=N r):FC Z 123 [.ag (X8.row a0),.ag (X9.row a1),.sc (.int .i64 a2),.ag (zD a3)] [.sc (.o 2 (Y zB r))]:=by
 unfold A3m at h
 refine C3 mixed F6e X ?_
 simp only[cc334,C,E,F,G,H,J]
 try simp only[C,E,F,G,H,J]
 refine B2 X X X ?_
 try simp only[C,E,F,G,H,J]
 refine B2 X X X ?_
 try simp only[C,E,F,G,H,J]
 refine B2 X X X ?_
 obtain⟨r1,h1,h⟩:=ob h
 try simp only[C,E,F,G,H,J]
 refine A2 (P2 _ _ h1) X X (uf X) ?_
 rcases ic h with ⟨h2,h⟩|⟨h2,h⟩
 ·obtain⟨r3,h3,h⟩:=ob h
  try simp only[h2,C,E,F,G,H,J]
  refine A2 (B1n _ _ _ _ h3) X X (uf X) ?_
  rcases ic h with ⟨h4,h⟩|⟨h4,h⟩
  ·try simp only[h2,h4,C,E,F,G,H,J]
   refine B3 X ?_
   obtain⟨r5,h5,h⟩:=ob h
   try simp only[h2,h4,C,E,F,G,H,J]
   refine E1 (C1l _ _ _ _ h5) X X (uf X) ?_
   obtain⟨r6,h6,h⟩:=ob h
   try simp only[h2,h4,C,E,F,G,H,J]
   refine E1 (B78 _ _ _ h6) X X (uf X) ?_
   obtain⟨r7,h7,h⟩:=ob h
   try simp only[h2,h4,C,E,F,G,H,J]
   refine E1 (B9x _ _ _ _ h7) X X (uf X) ?_
   obtain⟨r9,h9,h⟩:=ob h
   try simp only[h2,h4,C,E,F,G,H,J]
   refine A5p (B4q _ _ _ h9) (by first | rfl | kernel_rfl) (A7r X ⟨A7m,⟨⟩⟩) X (uf X) ?_
   try simp only[h2,h4,C,E,F,G,H,J]
   cases h
   trivial
  ·try simp only[h2,h4,C,E,F,G,H,J]
   cases h
   trivial
 ·try simp only[h2,C,E,F,G,H,J]
  cases h
  trivial
/- 102:impl_voyageOf -/
def C5r:X2:= .seq (.reg [(O,.keep [3,4,5,6,7,10,34] [5,6,7,10] [])]) (.cond (S 34) (.seq (.reg [(O,.build 35 [.nil,.nil,.nil] []),so 10 35 3,(O,.mv 11 (KB L))]) .ret) .skip)
def C6k:X2:= .seq (.reg [(O,.keep [4,5,6,7,10,12,43,44,45] [5,6,7,10,12] [140288,140352,140416])]) (.seq (.reg [bn 46 .lss 45 44]) (.seq (.cond (S 46) .skip (.exit 0)) (.seq (.block 1 (.seq (.reg [mv 47 45,ia 48 43 45 1,ld 49 48,mv 13 47,mv 14 49]) (.seq (.drw [(N [58],fa 50 12 0),(N [58],ld 51 50),o0 (fa 52 6 0),o0 (ld 53 52),o0 (mv 54 14),o0 (ia 55 53 54 2),o0 (fa 56 55 1),o0 (ld 57 56),o0 (O,.bslice 58 1 [.bool L] 1 [(0,(S 57))]),(O,(O,.app 59 1 1 (S 51) (S 58))),o0 (fa 60 12 0),(O,so 60 59 1)]) (.seq (.drw [(N [72,73],fa 61 12 1),(N [72,73],ld 62 61),o0 (lw 63 7 6),o0 (fa 64 6 1),o0 (ld 65 64),o0 (mv 66 4),o0 (mv 67 13),o0 (ia 68 66 67 1),o0 (ld 69 68),o0 (ia 70 65 69 5),o0 (lw 71 70 5),o0 (ca 72 122 [S 63,S 71]),o0 (O,.bslice 73 1 [.int .i64 0] 1 [(0,(S 72))]),(O,(O,.app 74 1 8 (S 62) (S 73))),o0 (fa 75 12 1),(O,so 75 74 1)]) (.drw [(N [85,86],fa 76 12 2),(N [85,86],ld 77 76),o0 (lw 78 5 3),o0 (lw 79 6 2),o0 (mv 80 4),o0 (mv 81 13),o0 (ia 82 80 81 1),o0 (ld 83 82),o0 (lw 84 7 6),o0 (ca 85 123 [S 78,S 79,S 83,S 84]),o0 (O,.bslice 86 1 [.sl []] 1 [(0,(S 85))]),(O,(O,.app 87 1 24 (S 77) (S 86))),o0 (fa 88 12 2),(O,so 88 87 1)]))))) (.reg [(O,.bin 89 .add (S 45) (K 1)),mv 45 89]))))
def D3n:X2:=(.seq (.reg [lw 90 12 3,so 10 90 3,(O,.mv 11 (KB T))]) .ret)
def D5g:X2:=(.seq (.reg [(O,.build 36 [.nil,.nil,.nil] []),(O,.alloc 12 [.nil,.nil,.nil]),so 12 36 3,(O,.ownb 12 0 140288 1),(O,.ownb 12 1 140352 1),(O,.ownb 12 2 140416 1)]) (.seq (.seq (.reg [lw 37 6 2,mv 38 3,mv 39 4,ca 40 101 [S 37,S 38,S 39],mv 41 4,ln 42 41,(O,.frz 2560),(O,.slc 43 1 (S 40) O (N (S 42)) O),ln 44 43,(O,.mv 45 (K 0))]) (.block 0 (.loop C6k))) D3n))
def cc340:X2:=(.seq (.reg [bo 5 0,bo 6 1,bo 7 2,(O,.alloc 10 [.nil,.nil,.nil]),(O,.mv 11 (KB L))]) (.seq (.seq (.reg [lw 15 5 3,ca 16 24 [S 15],nt 17 16,mv 18 17,(N (18,L),.load 19 (S 7) T 6),(N (18,L),.call 20 83 [(S 19)]),(N (18,L),.un 21 .not (S 20)),po 22 18 21,mv 23 22,(N (23,L),.load 24 (S 6) T 2),(N (23,L),.mv 25 (S 3)),(N (23,L),.mv 26 (S 4)),(N (23,L),.call 27 121 [(S 24),(S 25),(S 26)]),(N (23,L),.un 28 .not (S 27)),po 29 23 28,mv 30 29,(N (30,L),.mv 31 (S 4)),(N (30,L),.len 32 (S 31)),(N (30,L),.bin 33 .eql (S 32) (K 0)),po 34 30 33]) C5r) D5g))
theorem F5s(a4:P U)(a0:X8)(a1:X9)(a2:Xc)(y11:P U)(y12:U):∀(n:W) (v13:U) (v14:P V) (v15:P U) (v16:P (P Xb)) (r:Xl × V),Z6 a4 a0 a1 a2 y11 y12 n v13 v14 v15 v16=N r→∀σ:St,σ.kept [4,5,6,7,10,12,43,44,45] [5,6,7,10,12] [140288,140352,140416]=⟨[(4,vc (aL (Y rI a4))),(5,vc (.pb 5 0)),(6,vc (.pb 6 0)),(7,vc (.pb 7 0)),(10,vc (.pb 10 0)),(12,vc (.pb 12 0)),(43,vc (aL (Y rI y11))),(44,vc (aI y12)),(45,vc (aI v13))],[(5,(dm a0.row)),(6,(dm a1.row)),(7,(dm a2.row)),(10,[.nil,.nil,.nil]),(12,[.own 140288,.own 140352,.own 140416])],[(140288,1,Y rB v14),(140352,1,Y rI v15),(140416,1,Y (rL zB) v16)]⟩→go Z (.code (.loop C6k):: [.blk 0,.code D3n]) (Ret [.c 10 T 3,11] [.ag [.o 1 (Y rB r.1.waits),.o 1 (Y rI r.1.minutes),.o 1 (Y (rL zB) r.1.sure)],.sc (.v (.bool r.2))]) .normal (N σ):=by
 intro n
 induction n with
 | zero=>intro _ _ _ _ r h; cases h
 | succ n ih=>
  intro v13 v14 v15 v16 r h σ hσ
  rw[Z6] at h
  refine B5 ?_
  rcases ic h with ⟨h17,h⟩|⟨h17,h⟩
  ·obtain⟨x18,h18,h⟩:=ob h
   try simp only[hσ,h17,h18,C6k,C,E,F,G,H,J]
   refine B3 X ?_
   obtain⟨x19,h19,h⟩:=ob h
   try simp only[h17,h18,h19,C,E,F,G,H,J]
   refine D6 (es:=Y rB ([x19.Wait]:P V)) X X ?_
   obtain⟨h20,h⟩:=C9 h
   try simp only[h17,h18,h19,h20,C,E,F,G,H,J]
   refine B3 X ?_
   try simp only[h17,h18,h19,h20,C,E,F,G,H,J]
   refine B3 X ?_
   try simp only[h17,h18,h19,h20,C,E,F,G,H,J]
   refine B3 X ?_
   obtain⟨x21,h21,h⟩:=ob h
   obtain⟨x22,h22,h⟩:=ob h
   obtain⟨r23,h23,h⟩:=ob h
   try simp only[h17,h18,h19,h20,h21,h22,C,E,F,G,H,J]
   refine E1 (A11 _ _ _ h23) X X (uf X) ?_
   try simp only[h17,h18,h19,h20,h21,h22,C,E,F,G,H,J]
   refine D6 (es:=Y rI ([r23]:P U)) X X ?_
   obtain⟨h24,h⟩:=C9 h
   try simp only[h17,h18,h19,h20,h21,h22,h24,C,E,F,G,H,J]
   refine B3 X ?_
   try simp only[h17,h18,h19,h20,h21,h22,h24,C,E,F,G,H,J]
   refine B3 X ?_
   try simp only[h17,h18,h19,h20,h21,h22,h24,C,E,F,G,H,J]
   refine B3 X ?_
   obtain⟨r25,h25,h⟩:=ob h
   try simp only[h17,h18,h19,h20,h21,h22,h24,C,E,F,G,H,J]
   refine E1 (FC.asV (rs':= [.sc (.v (.sl (Y zB r25)))]) (B8a _ _ _ _ _ h25) X) X X (uf X) ?_
   try simp only[h17,h18,h19,h20,h21,h22,h24,C,E,F,G,H,J]
   refine D6 (es:=Y (rL zB) ([r25]:P (P Xb))) X X ?_
   obtain⟨h26,h⟩:=C9 h
   try simp only[h17,h18,h19,h20,h21,h22,h24,h26,C,E,F,G,H,J]
   refine B3 X ?_
   try simp only[h17,h18,h19,h20,h21,h22,h24,h26,C,E,F,G,H,J]
   refine B3 X ?_
   try simp only[h17,h18,h19,h20,h21,h22,h24,h26,C,E,F,G,H,J]
   refine ih _ _ _ _ _ h _ ?_
   try simp only[h17,h18,h19,h20,h21,h22,h24,h26,C,E,F,G,H,J,I]
  ·try simp only[hσ,h17,C6k,D3n,C,E,F,G,H,J]
   cases h
   try simp only[I2,C,E,F,G,H,J]
   trivial
theorem C56(a3:U)(a4:P U)(a0:X8)(a1:X9)(a2:Xc)(v7:V)(r:Xl × V)(h:Z5 a3 a4 a0 a1 a2 v7=N r)(σ:St)(hσ:σ.kept [3,4,5,6,7,10,34] [5,6,7,10] []=⟨[(3,vc (aI a3)),(4,vc (aL (Y rI a4))),(5,vc (.pb 5 0)),(6,vc (.pb 6 0)),(7,vc (.pb 7 0)),(10,vc (.pb 10 0)),(34,vc (aB v7))],[(5,(dm a0.row)),(6,(dm a1.row)),(7,(dm a2.row)),(10,[.nil,.nil,.nil])],[]⟩):go Z (.code C5r:: [.code D5g]) (Ret [.c 10 T 3,11] [.ag [.o 1 (Y rB r.1.waits),.o 1 (Y rI r.1.minutes),.o 1 (Y (rL zB) r.1.sure)],.sc (.v (.bool r.2))]) .normal (N σ):=by
 unfold Z5 at h
 rcases ic h with ⟨h8,h⟩|⟨h8,h⟩
 ·try simp only[hσ,h8,C5r,C,E,F,G,H,J]
  cases h
  try simp only[I2,C,E,F,G,H,J]
  trivial
 ·try simp only[hσ,h8,C5r,D5g,C,E,F,G,H,J]
  refine B7 X X ?_
  try simp only[h8,C,E,F,G,H,J]
  refine A4p (cs':= [.own 140288,.nil,.nil]) X X X X ?_
  try simp only[h8,C,E,F,G,H,J]
  refine A4p (cs':= [.own 140288,.own 140352,.nil]) X X X X ?_
  try simp only[h8,C,E,F,G,H,J]
  refine A4p (cs':= [.own 140288,.own 140352,.own 140416]) X X X X ?_
  obtain⟨r9,h9,h⟩:=ob h
  try simp only[h8,C,E,F,G,H,J]
  refine A2 (A7j _ _ _ _ h9) X X (uf X) ?_
  try simp only[h8,C,E,F,G,H,J]
  refine N7 X ?_
  obtain⟨p10,h10,h⟩:=ob h
  try simp only[h8,h10,C,E,F,G,H,J]
  refine F5s _ _ _ _ _ _ _ _ _ _ _ _ h _ ?_
  try simp only[h8,h10,C,E,F,G,H,J,I]
theorem F4n:A5 Z 102=N (cc340.strip,[.c 10 T 3,11],91):=by kernel_rfl
theorem C0a(a0:X8)(a1:X9)(a2:Xc)(a3:U)(a4:P U)(r:Xl × V)(h:A5n a0 a1 a2 a3 a4=N r):FC Z 102 [.ag (X8.row a0),.ag (X9.row a1),.ag (zD a2),.sc (.int .i64 a3),.sc (.sl (Y rI a4))] [.ag [.o 1 (Y rB r.1.waits),.o 1 (Y rI r.1.minutes),.o 1 (Y (rL zB) r.1.sure)],.sc (.v (.bool r.2))]:=by
 unfold A5n at h
 refine C3 mixed F4n X ?_
 simp only[cc340,C,E,F,G,H,J]
 try simp only[C,E,F,G,H,J]
 refine B2 X X X ?_
 try simp only[C,E,F,G,H,J]
 refine B2 X X X ?_
 try simp only[C,E,F,G,H,J]
 refine B2 X X X ?_
 try simp only[C,E,F,G,H,J]
 refine B7 X X ?_
 obtain⟨r1,h1,h⟩:=ob h
 try simp only[C,E,F,G,H,J]
 refine A2 (P2 _ _ h1) X X (uf X) ?_
 rcases ic h with ⟨h2,h⟩|⟨h2,h⟩
 ·obtain⟨r3,h3,h⟩:=ob h
  try simp only[h2,C,E,F,G,H,J]
  refine A2 (A4z _ _ h3) X X (uf X) ?_
  rcases ic h with ⟨h4,h⟩|⟨h4,h⟩
  ·obtain⟨r5,h5,h⟩:=ob h
   try simp only[h2,h4,C,E,F,G,H,J]
   refine A2 (B34 _ _ _ _ h5) X X (uf X) ?_
   rcases ic h with ⟨h6,h⟩|⟨h6,h⟩
   ·try simp only[h2,h4,h6,C,E,F,G,H,J]
    refine C56 _ _ _ _ _ _ _ h _ ?_
    try simp only[h2,h4,h6,C,E,F,G,H,J,I]
   ·try simp only[h2,h4,h6,C,E,F,G,H,J]
    refine C56 _ _ _ _ _ _ _ h _ ?_
    try simp only[h2,h4,h6,C,E,F,G,H,J,I]
  ·try simp only[h2,h4,C,E,F,G,H,J]
   refine C56 _ _ _ _ _ _ _ h _ ?_
   try simp only[h2,h4,C,E,F,G,H,J,I]
 ·try simp only[h2,C,E,F,G,H,J]
  refine C56 _ _ _ _ _ _ _ h _ ?_
  try simp only[h2,C,E,F,G,H,J,I]
/- 77:impl_callVoyage -/
def C6f:X2:= .seq (.reg [(O,.keep [2,3,4,6,28] [3,4,6] [])]) (.cond (S 28) (.seq (.reg [(O,.build 29 [.nil,.nil,.nil] []),so 6 29 3,(O,.mv 7 (KB L))]) .ret) .skip)
def D4f:X2:=(.seq (.drw [o0 (fa 30 3 0),o0 (lw 31 30 3),o0 (fa 32 3 3),o0 (lw 33 32 2),o0 (fa 34 3 5),o0 (ld 35 34),o0 (fa 36 4 0),o0 (ld 37 36),o0 (ia 38 35 37 6),o0 (lw 39 38 6),o0 (fa 40 4 1),o0 (ld 41 40),o0 (mv 42 2),o0 (ca 43 102 [S 31,S 33,S 39,S 41,S 42]),o0 (xt 44 43 0),o0 (xt 45 43 1),(O,so 6 44 3),o0 (mv 7 45)]) .ret)
def cc346:X2:=(.seq (.reg [bo 3 0,bo 4 1,(O,.alloc 6 [.nil,.nil,.nil]),(O,.mv 7 (KB L))]) (.seq (.reg [fa 9 3 3,lw 10 9 2,fa 11 4 1,ld 12 11,mv 13 2,ca 14 101 [S 10,S 12,S 13],mv 8 14]) (.seq (.seq (.drw [o0 (mv 15 8),o0 (ln 16 15),o0 (O,.bin 17 .eql (S 16) (K 0)),o0 (mv 18 17),o0 (N (18,L),.mv 19 (S 8)),o0 (N (18,L),.mv 20 (S 8)),o0 (N (18,L),.len 21 (S 20)),o0 (N (18,L),.bin 22 .sub (S 21) (K 1)),o0 (N (18,L),.iaddr 23 (S 19) (S 22) 1),o0 (N (18,L),.load 24 (S 23) L 1),o0 (N (18,L),.faddr 25 (S 4) 2),o0 (N (18,L),.load 26 (S 25) L 1),o0 (N (18,L),.bin 27 .neq (S 24) (S 26)),o0 (po 28 18 27)]) C6f) D4f)))
theorem E25(a2:P U)(a0:X4)(a1:Xa)(v4:V)(r:Xl × V)(h:Z9 a2 a0 a1 v4=N r)(σ:St)(hσ:σ.kept [2,3,4,6,28] [3,4,6] []=⟨[(2,vc (aL (Y rI a2))),(3,vc (.pb 3 0)),(4,vc (.pb 4 0)),(6,vc (.pb 6 0)),(28,vc (aB v4))],[(3,(dm a0.row)),(4,(dm a1.row)),(6,[.nil,.nil,.nil])],[]⟩):go Z (.code C6f:: [.code D4f]) (Ret [.c 6 T 3,7] [.ag [.o 1 (Y rB r.1.waits),.o 1 (Y rI r.1.minutes),.o 1 (Y (rL zB) r.1.sure)],.sc (.v (.bool r.2))]) .normal (N σ):=by
 unfold Z9 at h
 rcases ic h with ⟨h5,h⟩|⟨h5,h⟩
 ·try simp only[hσ,h5,C6f,C,E,F,G,H,J]
  cases h
  try simp only[I2,C,E,F,G,H,J]
  trivial
 ·try simp only[hσ,h5,C6f,D4f,C,E,F,G,H,J]
  refine B3 X ?_
  obtain⟨x6,h6,h⟩:=ob h
  obtain⟨r7,h7,h⟩:=ob h
  try simp only[h5,h6,C,E,F,G,H,J]
  refine E1 (C0a _ _ _ _ _ _ h7) X X (uf X) ?_
  try simp only[h5,h6,C,E,F,G,H,J]
  refine B3 X ?_
  try simp only[h5,h6,C,E,F,G,H,J]
  cases h
  try simp only[I2,C,E,F,G,H,J]
  trivial
theorem F5z:A5 Z 77=N (cc346.strip,[.c 6 T 3,7],46):=by kernel_rfl
theorem B0y(a0:X4)(a1:Xa)(a2:P U)(r:Xl × V)(h:T2 a0 a1 a2=N r):FC Z 77 [.ag (X4.row a0),.ag (Xa.row a1),.sc (.sl (Y rI a2))] [.ag [.o 1 (Y rB r.1.waits),.o 1 (Y rI r.1.minutes),.o 1 (Y (rL zB) r.1.sure)],.sc (.v (.bool r.2))]:=by
 unfold T2 at h
 refine C3 mixed F5z X ?_
 simp only[cc346,C,E,F,G,H,J]
 try simp only[C,E,F,G,H,J]
 refine B2 X X X ?_
 try simp only[C,E,F,G,H,J]
 refine B2 X X X ?_
 try simp only[C,E,F,G,H,J]
 refine B7 X X ?_
 obtain⟨r1,h1,h⟩:=ob h
 try simp only[C,E,F,G,H,J]
 refine A2 (A7j _ _ _ _ h1) X X (uf X) ?_
 try simp only[C,E,F,G,H,J]
 refine B3 X ?_
 rcases ic h with ⟨h2,h⟩|⟨h2,h⟩
 ·try simp only[h2,C,E,F,G,H,J]
  refine E25 _ _ _ _ _ h _ ?_
  try simp only[h2,C,E,F,G,H,J,I]
 ·obtain⟨x3,h3,h⟩:=ob h
  have h3n:=M2 h3
  try simp only[h2,h3,h3n,C,E,F,G,H,J]
  refine E25 _ _ _ _ _ h _ ?_
  try simp only[h2,h3,h3n,C,E,F,G,H,J,I]
/- 124:impl_HasMinute -/
def C59:X2:= .seq (.reg [(O,.keep [1,7,8,9] [] [])]) (.seq (.reg [bn 10 .lss 9 8]) (.seq (.cond (S 10) .skip (.exit 0)) (.seq (.block 1 (.seq (.reg [ia 11 7 9 2,lw 12 11 2,(O,.alloc 6 [aI 0,aI 0]),so 6 12 2]) (.seq (.reg [mv 13 1,fa 14 6 0,ld 15 14,fa 16 6 1,ld 17 16,ca 18 31 [S 13,S 15,S 17]]) (.cond (S 18) (.seq (.reg [(O,.mv 4 (KB T))]) .ret) .skip)))) (.reg [(O,.bin 19 .add (S 9) (K 1)),mv 9 19]))))
def D3m:X2:=(.seq (.reg [(O,.mv 4 (KB L))]) .ret)
def cc351:X2:=(.seq (.reg [(O,.mv 4 (KB L))]) (.seq (.seq (.reg [mv 7 0,ln 8 7,(O,.mv 9 (K 0))]) (.block 0 (.loop C59))) D3m))
theorem F9a(a1:U)(a0:P Xb):∀(n:W) (v1:U) (r:V),W2 a1 a0 n v1=N r→∀σ:St,σ.kept [1,7,8,9] [] []=⟨[(1,vc (aI a1)),(7,vc (aL (Y zB a0))),(8,vc (aI (a0.length:U))),(9,vc (aI v1))],[],[]⟩→go Z (.code (.loop C59):: [.blk 0,.code D3m]) (Ret [4] [.sc (.v (.bool r))]) .normal (N σ):=by
 intro n
 induction n with
 | zero=>intro _ r h; cases h
 | succ n ih=>
  intro v1 r h σ hσ
  rw[W2] at h
  refine B5 ?_
  rcases ic h with ⟨h2,h⟩|⟨h2,h⟩
  ·obtain⟨x3,h3,h⟩:=ob h
   try simp only[hσ,h2,h3,C59,C,E,F,G,H,J]
   refine B7 X X ?_
   obtain⟨r4,h4,h⟩:=ob h
   try simp only[h2,h3,C,E,F,G,H,J]
   refine A2 (F8 _ _ _ _ h4) X X (uf X) ?_
   rcases ic h with ⟨h5,h⟩|⟨h5,h⟩
   ·try simp only[h2,h3,h5,C,E,F,G,H,J]
    cases h
    trivial
   ·try simp only[h2,h3,h5,C,E,F,G,H,J]
    refine ih _ _ h _ ?_
    try simp only[h2,h3,h5,C,E,F,G,H,J,I]
  ·try simp only[hσ,h2,C59,D3m,C,E,F,G,H,J]
   cases h
   trivial
theorem F52:A5 Z 124=N (cc351.strip,[4],20):=by kernel_rfl
theorem B8w(a0:P Xb)(a1:U)(r:V)(h:A6q a0 a1=N r):FC Z 124 [.sc (.sl (Y zB a0)),.sc (.int .i64 a1)] [.sc (.v (.bool r))]:=by
 unfold A6q at h
 refine C3 mixed F52 X ?_
 simp only[cc351,C,E,F,G,H,J]
 try simp only[C,E,F,G,H,J]
 refine F9a _ _ _ _ _ h _ ?_
 try simp only[C,E,F,G,H,J,I]
/- 125:impl_NextMinute -/
def C5i:X2:= .seq (.reg [(O,.keep [1,10,11,12] [] [])]) (.seq (.reg [bn 13 .lss 12 11]) (.seq (.cond (S 13) .skip (.exit 0)) (.seq (.block 1 (.seq (.reg [ia 14 10 12 2,lw 15 14 2,(O,.alloc 6 [aI 0,aI 0]),so 6 15 2]) (.seq (.reg [fa 16 6 1,ld 17 16,mv 18 1,bn 19 .geq 17 18]) (.cond (S 19) (.seq (.reg [fa 20 6 0,ld 21 20,mv 22 1,(O,.mm 23 T (S 21) (S 22)),mv 4 23]) .ret) .skip)))) (.reg [(O,.bin 24 .add (S 12) (K 1)),mv 12 24]))))
def D3s:X2:=(.seq (.reg [(O,.mv 4 (K (-1)))]) .ret)
def cc356:X2:=(.seq (.reg [(O,.mv 4 (K 0))]) (.seq (.seq (.reg [mv 7 0,ca 8 146 [S 7],nt 9 8]) (.cond (S 9) (.seq (.reg [(O,.mv 4 (K (-1)))]) .ret) .skip)) (.seq (.seq (.reg [mv 10 0,ln 11 10,(O,.mv 12 (K 0))]) (.block 0 (.loop C5i))) D3s)))
theorem F41(a1:U)(a0:P Xb):∀(n:W) (v3 r:U),U1 a1 a0 n v3=N r→∀σ:St,σ.kept [1,10,11,12] [] []=⟨[(1,vc (aI a1)),(10,vc (aL (Y zB a0))),(11,vc (aI (a0.length:U))),(12,vc (aI v3))],[],[]⟩→go Z (.code (.loop C5i):: [.blk 0,.code D3s]) (Ret [4] [.sc (.v (.int .i64 r))]) .normal (N σ):=by
 intro n
 induction n with
 | zero=>intro _ r h; cases h
 | succ n ih=>
  intro v3 r h σ hσ
  rw[U1] at h
  refine B5 ?_
  rcases ic h with ⟨h4,h⟩|⟨h4,h⟩
  ·obtain⟨x5,h5,h⟩:=ob h
   try simp only[hσ,h4,h5,C5i,C,E,F,G,H,J]
   refine B7 X X ?_
   rcases ic h with ⟨h6,h⟩|⟨h6,h⟩
   ·try simp only[h4,h5,h6,C,E,F,G,H,J]
    cases h
    trivial
   ·try simp only[h4,h5,h6,C,E,F,G,H,J]
    refine ih _ _ h _ ?_
    try simp only[h4,h5,h6,C,E,F,G,H,J,I]
  ·try simp only[hσ,h4,C5i,D3s,C,E,F,G,H,J]
   cases h
   trivial
theorem F4m:A5 Z 125=N (cc356.strip,[4],25):=by kernel_rfl
theorem B8c(a0:P Xb)(a1 r:U)(h:A3o a0 a1=N r):FC Z 125 [.sc (.sl (Y zB a0)),.sc (.int .i64 a1)] [.sc (.v (.int .i64 r))]:=by
 unfold A3o at h
 refine C3 mixed F4m X ?_
 simp only[cc356,C,E,F,G,H,J]
 obtain⟨r1,h1,h⟩:=ob h
 try simp only[C,E,F,G,H,J]
 refine A2 (B1y _ _ h1) X X (uf X) ?_
 rcases ic h with ⟨h2,h⟩|⟨h2,h⟩
 ·try simp only[h2,C,E,F,G,H,J]
  refine F41 _ _ _ _ _ h _ ?_
  try simp only[h2,C,E,F,G,H,J,I]
 ·try simp only[h2,C,E,F,G,H,J]
  cases h
  trivial
/- 103:impl_voyage_sail -/
def C7a:X2:= .seq (.reg [(O,.keep [2,6,7,9,59] [2] [1152])]) (.cond (S 59) (.seq (.reg [(O,.mv 4 KN),(O,.mv 5 (KB L))]) .ret) .skip)
def D3v:X2:=(.reg [mv 60 6,mv 61 9,(O,.bslice 62 1 [.int .i64 0] 1 [(0,(S 61))]),(O,.app 63 1 8 (S 60) (S 62)),mv 6 63])
def D5o:X2:=(.reg [mv 24 7,(O,.bin 25 .add (S 24) (K 1)),mv 7 25])
def B7f:X2:= .seq (.reg [(O,.keep [2,6,7] [2] [1152])]) (.seq (.seq (.reg [mv 19 7,fa 20 2 2,ld 21 20,ln 22 21,bn 23 .lss 19 22]) (.cond (S 23) .skip (.exit 0))) (.seq (.block 1 (.seq (.drw [o0 (mv 26 6),o0 (mv 27 7),o0 (O,.bin 28 .sub (S 27) (K 1)),o0 (ia 29 26 28 1),o0 (ld 30 29),o0 (fa 31 2 1),o0 (ld 32 31),o0 (mv 33 7),o0 (O,.bin 34 .sub (S 33) (K 1)),o0 (ia 35 32 34 1),o0 (ld 36 35),o0 (bn 37 .add 30 36),o0 (mv 8 37)]) (.seq (.reg [fa 38 2 2,ld 39 38,mv 40 7,ia 41 39 40 1,ld 42 41,mv 43 8,ca 44 125 [S 42,S 43],mv 9 44]) (.seq (.seq (.reg [mv 45 9,(O,.bin 46 .lss (S 45) (K 0)),mv 47 46,(N (47,L),.mv 48 (S 9)),(N (47,L),.mv 49 (S 8)),(N (47,L),.bin 50 .gtr (S 48) (S 49)),(N (47,L),.mv 51 (S 50)),(N (51,T),.faddr 52 (S 2) 0),(N (51,T),.load 53 (S 52) L 1),(N (51,T),.mv 54 (S 7)),(N (51,T),.iaddr 55 (S 53) (S 54) 1),(N (51,T),.load 56 (S 55) L 1),(N (51,T),.un 57 .not (S 56)),(N (47,L),.pick 58 (S 51) (S 57) (KB L)),po 59 47 58]) C7a) D3v)))) D5o))
def C0q:X2:=(.seq (.reg [mv 64 6,mv 4 64,(O,.mv 5 (KB T))]) .ret)
def cc364:X2:=(.seq (.reg [bo 2 0,(O,.mv 4 KN),(O,.mv 5 (KB L))]) (.seq (.seq (.reg [fa 10 2 2,ld 11 10,(O,.iaddr 12 (S 11) (K 0) 1),ld 13 12,mv 14 1,ca 15 124 [S 13,S 14],nt 16 15]) (.cond (S 16) (.seq (.reg [(O,.mv 4 KN),(O,.mv 5 (KB L))]) .ret) .skip)) (.seq (.reg [mv 17 1,(O,.bslice 18 1 [.int .i64 0] 1 [(0,(S 17))]),mv 6 18]) (.seq (.seq (.reg [(O,.mv 7 (K 1))]) (.block 0 (.loop B7f))) C0q))))
theorem D4w(v4 r10:U)(a0:Xl)(v5:P U)(A3q:U→(P U)→Q ((P U) × V))(B36:∀(v4:U) (v5:P U) zr,A3q v4 v5=N zr→∀σ:St,σ.kept [2,6,7] [2] [1152]=⟨[(2,vc (.pb 2 0)),(6,vc (.own 1152)),(7,vc (aI v4))],[(2,(dm a0.row))],[(1152,1,Y rI v5)]⟩→go Z (.code (.loop B7f):: [.blk 0,.code C0q]) (Ret [4,5] [.sc (.o 1 (Y rI zr.1)),.sc (.v (.bool zr.2))]) .normal (N σ))(v14:V)(r:(P U) × V)(h:K7 v4 r10 a0 v5 A3q v14=N r)(σ:St)(hσ:σ.kept [2,6,7,9,59] [2] [1152]=⟨[(2,vc (.pb 2 0)),(6,vc (.own 1152)),(7,vc (aI v4)),(9,vc (aI r10)),(59,vc (aB v14))],[(2,(dm a0.row))],[(1152,1,Y rI v5)]⟩):go Z (.code C7a:: [.code D3v,.blk 1,.code D5o,.code (.loop B7f),.blk 0,.code C0q]) (Ret [4,5] [.sc (.o 1 (Y rI r.1)),.sc (.v (.bool r.2))]) .normal (N σ):=by
 unfold K7 at h
 rcases ic h with ⟨h15,h⟩|⟨h15,h⟩
 ·try simp only[hσ,h15,C7a,C,E,F,G,H,J]
  cases h
  trivial
 ·try simp only[hσ,h15,C7a,D3v,C,E,F,G,H,J]
  refine D6 (es:=Y rI ([r10]:P U)) X X ?_
  obtain⟨h16,h⟩:=C9 h
  try simp only[h15,h16,D5o,C,E,F,G,H,J]
  refine B36 _ _ _ h _ ?_
  try simp only[h15,h16,C,E,F,G,H,J,I]
theorem F5i(a0:Xl):∀(n:W) (v4:U) (v5:P U) (r:(P U) × V),F9 a0 n v4 v5=N r→∀σ:St,σ.kept [2,6,7] [2] [1152]=⟨[(2,vc (.pb 2 0)),(6,vc (.own 1152)),(7,vc (aI v4))],[(2,(dm a0.row))],[(1152,1,Y rI v5)]⟩→go Z (.code (.loop B7f):: [.blk 0,.code C0q]) (Ret [4,5] [.sc (.o 1 (Y rI r.1)),.sc (.v (.bool r.2))]) .normal (N σ):=by
 intro n
 induction n with
 | zero=>intro _ _ r h; cases h
 | succ n ih=>
  intro v4 v5 r h σ hσ
  rw[F9] at h
  refine B5 ?_
  rcases ic h with ⟨h6,h⟩|⟨h6,h⟩
  ·try simp only[hσ,h6,B7f,C,E,F,G,H,J]
   refine B3 X ?_
   obtain⟨x7,h7,h⟩:=ob h
   have h7n:=M2 h7
   obtain⟨x8,h8,h⟩:=ob h
   obtain⟨x9,h9,h⟩:=ob h
   obtain⟨r10,h10,h⟩:=ob h
   try simp only[h6,h7,h7n,h8,h9,C,E,F,G,H,J]
   refine A2 (B8c _ _ _ h10) X X (uf X) ?_
   rcases ic h with ⟨h11,h⟩|⟨h11,h⟩
   ·try simp only[h6,h7,h7n,h8,h9,h11,C,E,F,G,H,J]
    refine D4w _ _ _ _ (F9 a0 n) ih _ _ h _ ?_
    try simp only[h6,h7,h7n,h8,h9,h11,C,E,F,G,H,J,I]
   ·rcases ic h with ⟨h12,h⟩|⟨h12,h⟩
    ·obtain⟨x13,h13,h⟩:=ob h
     try simp only[h6,h7,h7n,h8,h9,h11,h12,h13,C,E,F,G,H,J]
     refine D4w _ _ _ _ (F9 a0 n) ih _ _ h _ ?_
     try simp only[h6,h7,h7n,h8,h9,h11,h12,h13,C,E,F,G,H,J,I]
    ·try simp only[h6,h7,h7n,h8,h9,h11,h12,C,E,F,G,H,J]
     refine D4w _ _ _ _ (F9 a0 n) ih _ _ h _ ?_
     try simp only[h6,h7,h7n,h8,h9,h11,h12,C,E,F,G,H,J,I]
  ·try simp only[hσ,h6,B7f,C0q,C,E,F,G,H,J]
   cases h
   trivial
theorem F4l:A5 Z 103=N (cc364.strip,[4,5],65):=by kernel_rfl
theorem B6d(a0:Xl)(a1:U)(r:(P U) × V)(h:A2r a0 a1=N r):FC Z 103 [.ag (Xl.row a0),.sc (.int .i64 a1)] [.sc (.o 1 (Y rI r.1)),.sc (.v (.bool r.2))]:=by
 unfold A2r at h
 refine C3 mixed F4l X ?_
 simp only[cc364,C,E,F,G,H,J]
 try simp only[C,E,F,G,H,J]
 refine B2 X X X ?_
 obtain⟨x1,h1,h⟩:=ob h
 obtain⟨r2,h2,h⟩:=ob h
 try simp only[h1,C,E,F,G,H,J]
 refine A2 (B8w _ _ _ h2) X X (uf X) ?_
 rcases ic h with ⟨h3,h⟩|⟨h3,h⟩
 ·try simp only[h1,h3,C,E,F,G,H,J]
  refine D6 (es:=Y rI ([a1]:P U)) X X ?_
  try simp only[h1,h3,C,E,F,G,H,J]
  refine F5i _ _ _ _ _ h _ ?_
  try simp only[h1,h3,C,E,F,G,H,J,I]
 ·try simp only[h1,h3,C,E,F,G,H,J]
  cases h
  trivial
/- 104:impl_PassagesOf -/
def C7b:X2:= .seq (.reg [(O,.keep [1,5,6,8,13,14,40,41,42] [6,8] [2432,2496])]) (.seq (.reg [bn 43 .lss 42 41]) (.seq (.cond (S 43) .skip (.exit 0)) (.seq (.block 1 (.seq (.reg [mv 44 42,ia 45 40 42 1,ld 46 45,mv 15 44,mv 16 46]) (.seq (.seq (.reg [mv 47 5,mv 48 15,ia 49 47 48 1,ld 50 49,ca 51 25 [S 50],nt 52 51]) (.cond (S 52) (.seq (.reg [(O,.mv 12 KN)]) .ret) .skip)) (.seq (.reg [fa 53 6 1,ld 54 53,mv 55 16,ia 56 54 55 5,lw 57 56 5,(O,.alloc 17 [aI 0,aI 0,aI 0,aI 0,aB L]),so 17 57 5]) (.drw [(N [78,81],mv 58 14),(N [78],mv 59 1),(N [78],mv 60 16),(N [78],mv 61 13),(N [78],mv 62 15),(N [78],ia 63 61 62 1),(N [78],ld 64 63),(N [78],fa 65 17 0),(N [78],ld 66 65),(N [78],bn 67 .eql 64 66),(N [78],mv 68 5),(N [78],mv 69 15),(N [78],ia 70 68 69 1),(N [78],ld 71 70),(N [78],mv 72 5),(N [78],mv 73 15),(N [78],ia 74 72 73 1),(N [78],ld 75 74),o0 (lw 76 8 6),o0 (lw 77 17 5),o0 (ca 78 122 [S 76,S 77]),o0 (bn 79 .add 75 78),o0 (O,.build 80 [aI 0,aI 0,aB L,aI 0,aI 0] [(0,1,(S 59)),(1,1,(S 60)),(2,1,(S 67)),(3,1,(S 71)),(4,1,(S 79))]),o0 (O,.bslice 81 5 [.int .i64 0,.int .i64 0,.bool L,.int .i64 0,.int .i64 0] 1 [(0,(S 80))]),(O,(O,.app 82 5 40 (S 58) (S 81))),o0 (mv 14 82)]))))) (.reg [(O,.bin 83 .add (S 42) (K 1)),mv 42 83]))))
def D2j:X2:=(.seq (.reg [mv 84 14,mv 12 84]) .ret)
def cc370:X2:=(.seq (.reg [bo 6 0,bo 8 2,(O,.mv 12 KN)]) (.seq (.seq (.reg [lw 18 6 2,mv 19 3,mv 20 4,ca 21 121 [S 18,S 19,S 20],nt 22 21,mv 23 22,(N (23,L),.load 24 (S 8) T 6),(N (23,L),.call 25 83 [(S 24)]),(N (23,L),.un 26 .not (S 25)),po 27 23 26,mv 28 27,(N (28,L),.mv 29 (S 4)),(N (28,L),.len 30 (S 29)),(N (28,L),.mv 31 (S 5)),(N (28,L),.len 32 (S 31)),(N (28,L),.bin 33 .neq (S 30) (S 32)),po 34 28 33]) (.cond (S 34) (.seq (.reg [(O,.mv 12 KN)]) .ret) .skip)) (.seq (.reg [lw 35 6 2,mv 36 3,mv 37 4,ca 38 101 [S 35,S 36,S 37],mv 13 38]) (.seq (.reg [(O,.bslice 39 5 [.int .i64 0,.int .i64 0,.bool L,.int .i64 0,.int .i64 0] 0 []),mv 14 39]) (.seq (.seq (.reg [mv 40 4,ln 41 40,(O,.mv 42 (K 0))]) (.block 0 (.loop C7b))) D2j)))))
theorem F4e(a1:U)(a5 a4:P U)(a0:X9)(a2:Xc)(r6:(P U)):∀(n:W) (v7:U) (v8:P X5) (r:(P X5)),T6 a1 a5 a4 a0 a2 r6 n v7 v8=N r→∀σ:St,σ.kept [1,5,6,8,13,14,40,41,42] [6,8] [2432,2496]=⟨[(1,vc (aI a1)),(5,vc (aL (Y rI a5))),(6,vc (.pb 6 0)),(8,vc (.pb 8 0)),(13,vc (.own 2432)),(14,vc (.own 2496)),(40,vc (aL (Y rI a4))),(41,vc (aI (a4.length:U))),(42,vc (aI v7))],[(6,(dm a0.row)),(8,(dm a2.row))],[(2432,1,Y rI r6),(2496,5,Y X5.row v8)]⟩→go Z (.code (.loop C7b):: [.blk 0,.code D2j]) (Ret [12] [.sc (.o 5 (Y X5.row r))]) .normal (N σ):=by
 intro n
 induction n with
 | zero=>intro _ _ r h; cases h
 | succ n ih=>
  intro v7 v8 r h σ hσ
  rw[T6] at h
  refine B5 ?_
  rcases ic h with ⟨h9,h⟩|⟨h9,h⟩
  ·obtain⟨x10,h10,h⟩:=ob h
   obtain⟨x11,h11,h⟩:=ob h
   obtain⟨r12,h12,h⟩:=ob h
   try simp only[hσ,h9,h10,h11,C7b,C,E,F,G,H,J]
   refine A2 (O5 _ _ h12) X X (uf X) ?_
   rcases ic h with ⟨h13,h⟩|⟨h13,h⟩
   ·obtain⟨x14,h14,h⟩:=ob h
    try simp only[h9,h10,h11,h13,h14,C,E,F,G,H,J]
    refine B7 X X ?_
    try simp only[h9,h10,h11,h13,h14,C,E,F,G,H,J]
    refine B3 X ?_
    obtain⟨x15,h15,h⟩:=ob h
    have h15n:=M2 h15
    obtain⟨r16,h16,h⟩:=ob h
    try simp only[h9,h10,h11,h13,h14,h15,h15n,C,E,F,G,H,J]
    refine E1 (A11 _ _ _ h16) X X (uf X) ?_
    try simp only[h9,h10,h11,h13,h14,h15,h15n,C,E,F,G,H,J]
    refine D6 (es:=Y X5.row ([(⟨a1,x10,(x15==x14.A),x11,(IntKind.i64.wrap (x11+r16))⟩:X5)]:P X5)) X X ?_
    obtain⟨h17,h⟩:=C9 h
    try simp only[h9,h10,h11,h13,h14,h15,h15n,h17,C,E,F,G,H,J]
    refine B3 X ?_
    try simp only[h9,h10,h11,h13,h14,h15,h15n,h17,C,E,F,G,H,J]
    refine ih _ _ _ h _ ?_
    try simp only[h9,h10,h11,h13,h14,h15,h15n,h17,C,E,F,G,H,J,I]
   ·try simp only[h9,h10,h11,h13,C,E,F,G,H,J]
    cases h
    trivial
  ·try simp only[hσ,h9,C7b,D2j,C,E,F,G,H,J]
   cases h
   trivial
theorem F16:A5 Z 104=N (cc370.strip,[12],85):=by kernel_rfl
theorem B70(a0:X9)(a1:U)(a2:Xc)(a3:U)(a4 a5:P U)(r:(P X5))(h:A3g a0 a1 a2 a3 a4 a5=N r):FC Z 104 [.ag (X9.row a0),.sc (.int .i64 a1),.ag (zD a2),.sc (.int .i64 a3),.sc (.sl (Y rI a4)),.sc (.sl (Y rI a5))] [.sc (.o 5 (Y X5.row r))]:=by
 unfold A3g at h
 refine C3 mixed F16 X ?_
 simp only[cc370,C,E,F,G,H,J]
 try simp only[C,E,F,G,H,J]
 refine B2 X X X ?_
 try simp only[C,E,F,G,H,J]
 refine B2 X X X ?_
 obtain⟨r1,h1,h⟩:=ob h
 try simp only[C,E,F,G,H,J]
 refine A2 (B34 _ _ _ _ h1) X X (uf X) ?_
 rcases ic h with ⟨h2,h⟩|⟨h2,h⟩
 ·obtain⟨r3,h3,h⟩:=ob h
  try simp only[h2,C,E,F,G,H,J]
  refine A2 (A4z _ _ h3) X X (uf X) ?_
  rcases ic h with ⟨h4,h⟩|⟨h4,h⟩
  ·rcases ic h with ⟨h5,h⟩|⟨h5,h⟩
   ·try simp only[h2,h4,h5,C,E,F,G,H,J]
    cases h
    trivial
   ·obtain⟨r6,h6,h⟩:=ob h
    try simp only[h2,h4,h5,C,E,F,G,H,J]
    refine A2 (A7j _ _ _ _ h6) X X (uf X) ?_
    try simp only[h2,h4,h5,C,E,F,G,H,J]
    refine D6 (es:=Y X5.row ([]:P X5)) X X ?_
    try simp only[h2,h4,h5,C,E,F,G,H,J]
    refine F4e _ _ _ _ _ _ _ _ _ _ h _ ?_
    try simp only[h2,h4,h5,C,E,F,G,H,J,I]
  ·try simp only[h2,h4,C,E,F,G,H,J]
   cases h
   trivial
 ·try simp only[h2,C,E,F,G,H,J]
  cases h
  trivial
/- 105:impl_ArrivalOf -/
def cc373:X2:=(.seq (.reg [bo 4 0,bo 5 1,(O,.mv 8 (K 0))]) (.seq (.seq (.reg [lw 10 4 2,mv 11 2,ca 12 100 [S 10,S 11],(O,.bin 13 .lss (S 12) (K 0)),mv 14 13,(N (14,L),.load 15 (S 5) T 6),(N (14,L),.call 16 83 [(S 15)]),(N (14,L),.un 17 .not (S 16)),po 18 14 17,mv 19 18,(N (19,L),.mv 20 (S 2)),(N (19,L),.len 21 (S 20)),(N (19,L),.bin 22 .eql (S 21) (K 0)),po 23 19 22,mv 24 23,(N (24,L),.mv 25 (S 2)),(N (24,L),.len 26 (S 25)),(N (24,L),.mv 27 (S 3)),(N (24,L),.len 28 (S 27)),(N (24,L),.bin 29 .neq (S 26) (S 28)),po 30 24 29]) (.cond (S 30) (.seq (.reg [(O,.mv 8 (K (-1)))]) .ret) .skip)) (.seq (.reg [mv 31 2,ln 32 31,(O,.bin 33 .sub (S 32) (K 1)),mv 9 33]) (.seq (.seq (.reg [mv 34 3,mv 35 9,ia 36 34 35 1,ld 37 36,ca 38 25 [S 37],nt 39 38]) (.cond (S 39) (.seq (.reg [(O,.mv 8 (K (-1)))]) .ret) .skip)) (.seq (.drw [(N [53],mv 40 3),(N [53],mv 41 9),(N [53],ia 42 40 41 1),(N [53],ld 43 42),o0 (lw 44 5 6),o0 (fa 45 4 1),o0 (ld 46 45),o0 (mv 47 2),o0 (mv 48 9),o0 (ia 49 47 48 1),o0 (ld 50 49),o0 (ia 51 46 50 5),o0 (lw 52 51 5),o0 (ca 53 122 [S 44,S 52]),o0 (bn 54 .add 43 53),o0 (mv 8 54)]) .ret)))))
theorem F5w:A5 Z 105=N (cc373.strip,[8],55):=by kernel_rfl
theorem B9h(a0:X9)(a1:Xc)(a2 a3:P U)(r:U)(h:A4g a0 a1 a2 a3=N r):FC Z 105 [.ag (X9.row a0),.ag (zD a1),.sc (.sl (Y rI a2)),.sc (.sl (Y rI a3))] [.sc (.v (.int .i64 r))]:=by
 unfold A4g at h
 refine C3 mixed F5w X ?_
 simp only[cc373,C,E,F,G,H,J]
 try simp only[C,E,F,G,H,J]
 refine B2 X X X ?_
 try simp only[C,E,F,G,H,J]
 refine B2 X X X ?_
 obtain⟨r1,h1,h⟩:=ob h
 try simp only[C,E,F,G,H,J]
 refine A2 (A7c _ _ _ h1) X X (uf X) ?_
 rcases ic h with ⟨h2,h⟩|⟨h2,h⟩
 ·try simp only[h2,C,E,F,G,H,J]
  cases h
  trivial
 ·obtain⟨r3,h3,h⟩:=ob h
  try simp only[h2,C,E,F,G,H,J]
  refine A2 (A4z _ _ h3) X X (uf X) ?_
  rcases ic h with ⟨h4,h⟩|⟨h4,h⟩
  ·rcases ic h with ⟨h5,h⟩|⟨h5,h⟩
   ·try simp only[h2,h4,h5,C,E,F,G,H,J]
    cases h
    trivial
   ·rcases ic h with ⟨h6,h⟩|⟨h6,h⟩
    ·try simp only[h2,h4,h5,h6,C,E,F,G,H,J]
     cases h
     trivial
    ·obtain⟨x7,h7,h⟩:=ob h
     obtain⟨r9,h9,h⟩:=ob h
     try simp only[h2,h4,h5,h6,h7,C,E,F,G,H,J]
     refine A2 (O5 _ _ h9) X X (uf X) ?_
     rcases ic h with ⟨h10,h⟩|⟨h10,h⟩
     ·try simp only[h2,h4,h5,h6,h7,h10,C,E,F,G,H,J]
      refine B3 X ?_
      obtain⟨x11,h11,h⟩:=ob h
      obtain⟨x12,h12,h⟩:=ob h
      obtain⟨r13,h13,h⟩:=ob h
      try simp only[h2,h4,h5,h6,h7,h10,h11,h12,C,E,F,G,H,J]
      refine E1 (A11 _ _ _ h13) X X (uf X) ?_
      try simp only[h2,h4,h5,h6,h7,h10,h11,h12,C,E,F,G,H,J]
      cases h
      trivial
     ·try simp only[h2,h4,h5,h6,h7,h10,C,E,F,G,H,J]
      cases h
      trivial
  ·try simp only[h2,h4,C,E,F,G,H,J]
   cases h
   trivial
/- 78:impl_option -/
def A8u:P (P W × AItem):= [([],(O,.load 72 (S 16) T 4)),([],(O,.faddr 73 (S 16) 1)),([1],(O,.load 74 (S 73) L 1)),([2],(O,.bin 75 .leq (S 74) (K 2880))),([0,0],(O,.store (S 10) (S 72) 4)),([3,4,0,1,2,3,4],(O,.mv 11 (S 75)))]
def C52:X2:= .seq (.reg [(O,.keep [10,16,60,61,62] [10,16] [2752])]) (.seq (.reg [bn 63 .lss 62 61]) (.seq (.cond (S 63) .skip (.exit 0)) (.seq (.block 1 (.seq (.reg [ia 64 60 62 1,ld 65 64,mv 18 65]) (.reg [fa 66 16 2,ld 67 66,mv 68 18,bn 69 .sub 67 68,fa 70 16 2,so 70 69 1]))) (.reg [(O,.bin 71 .add (S 62) (K 1)),mv 62 71]))))
def D1r:X2:=(.seq (.any A8u) .ret)
def cc377:X2:=(.seq (.reg [bo 5 0,bo 6 1,bo 7 2,(O,.alloc 10 [aI 0,aI 0,aI 0,.nil]),(O,.mv 11 (KB L))]) (.seq (.reg [lw 20 7 3,mv 21 4,ca 22 103 [S 20,S 21],mv 19 22,xt 23 19 0,xt 24 19 1,mv 12 23,mv 13 24]) (.seq (.seq (.reg [mv 25 13,nt 26 25]) (.cond (S 26) (.seq (.reg [(O,.build 27 [aI 0,aI 0,aI 0,.nil] []),so 10 27 4,(O,.mv 11 (KB L))]) .ret) .skip)) (.seq (.reg [fa 28 5 5,ld 29 28,fa 30 6 0,ld 31 30,ia 32 29 31 6,lw 33 32 6,(O,.alloc 14 [aS [],aI 0,aI 0,aI 0,aI 0,aB L]),so 14 33 6]) (.seq (.reg [fa 34 5 3,lw 35 34 2,fa 36 6 0,ld 37 36,lw 38 14 6,fa 39 6 1,ld 40 39,mv 41 3,mv 42 12,ca 43 104 [S 35,S 37,S 38,S 40,S 41,S 42],mv 15 43]) (.seq (.reg [mv 44 4,fa 45 5 3,lw 46 45 2,lw 47 14 6,mv 48 3,mv 49 12,ca 50 105 [S 46,S 47,S 48,S 49],mv 51 15,(O,.build 52 [aI 0,aI 0,aI 0,.nil] [(0,1,(S 44)),(1,1,(S 50)),(3,1,(S 51))]),(O,.alloc 16 [aI 0,aI 0,aI 0,.nil]),so 16 52 4]) (.seq (.reg [fa 53 16 1,ld 54 53,fa 55 6 3,ld 56 55,bn 57 .sub 54 56,fa 58 16 2,so 58 57 1]) (.seq (.seq (.reg [fa 59 7 1,ld 60 59,ln 61 60,(O,.mv 62 (K 0))]) (.block 0 (.loop C52))) D1r))))))))
abbrev Z2(a4 r5 v7:U)(c0_ c1_:V)(c2_ c3_ c5_:V)(bx_:P (W × P AC))(rs_:Rows):St:=⟨[(10,vc (.pb 10 0)),(16,vc (.pb 16 0)),(72,bif c0_ then va [aI a4,aI r5,aI v7,.own 2752] else .undef),(73,bif c1_ then vc (.pb 16 1) else .undef),(74,bif c2_ then vc (aI r5) else .undef),(75,bif c3_ then vc (aB (decide (r5≤(2880:U)))) else .undef),(11,bif c5_ then vc (aB (decide (r5≤(2880:U)))) else .undef)],bx_,rs_⟩
abbrev A5y(a4 r5:U)(r4:(P X5))(v7:U):St:=(Z2 a4 r5 v7 T T T T T [(10,[aI a4,aI r5,aI v7,.own 2752]),(16,[aI a4,aI r5,aI v7,.own 2752])] [(2752,5,Y X5.row r4)])
theorem F37(a4 r5:U)(r4:(P X5))(v7:U):∀(f:W) (b1 b2:V) (b3 b5:V),E0 Z A8u (A5y a4 r5 r4 v7) f [T,b1,b2,b3,T,b5] (Z2 a4 r5 v7 T b1 b2 b3 b5 [(10,[aI a4,aI r5,aI v7,.own 2752]),(16,[aI a4,aI r5,aI v7,.own 2752])] [(2752,5,Y X5.row r4)]):=by
 intro f
 induction f with
 | zero=>
  intro b1 b2 b3 b5 h
  obtain rfl:b1=T:=zH.1 h b1 (by simp)
  obtain rfl:b2=T:=zH.1 h b2 (by simp)
  obtain rfl:b3=T:=zH.1 h b3 (by simp)
  obtain rfl:b5=T:=zH.1 h b5 (by simp)
  rfl
 | succ f ih=>
  intro b1 b2 b3 b5
  refine A9 ⟨?_,?_,?_,?_,?_,?_,⟨⟩⟩<;>try first | (intro h; cases h; done) | (intro h0 hw; obtain rfl:=hz h0 rfl; (try obtain rfl:=hq hw 1 rfl rfl); (try obtain rfl:=hq hw 2 rfl rfl); (try obtain rfl:=hq hw 3 rfl rfl); refine np ?_; simp only[Z2,cdt,cdf,A1,C,E,F,G,H,J]; exact ih _ _ _ _)
theorem F9f(a4 r5:U)(r4:(P X5))(v7:U):∀(f:W) (b0 b1:V) (b2 b3:V),E0 Z A8u (A5y a4 r5 r4 v7) f [b0,b1,b2,b3,L,L] (Z2 a4 r5 v7 b0 b1 b2 b3 L [(10,[aI (0:U),aI (0:U),aI (0:U),.nil]),(16,[aI a4,aI r5,aI v7,.own 2752])] [(2752,5,Y X5.row r4)]):=by
 intro f
 induction f with
 | zero=>intro b0 b1 b2 b3 h; simp at h
 | succ f ih=>
  intro b0 b1 b2 b3
  refine A9 ⟨?_,?_,?_,?_,?_,?_,⟨⟩⟩<;>try first | (intro _ hw; simp at hw; done) | (intro h0 hw; obtain rfl:=hz h0 rfl; (try obtain rfl:=hq hw 1 rfl rfl); (try obtain rfl:=hq hw 2 rfl rfl); refine np ?_; simp only[Z2,cdt,cdf,A1,C,E,F,G,H,J]; exact ih _ _ _ _)
  ·intro h0 hw
   obtain rfl:=hq hw 0 rfl rfl
   refine np ?_
   try simp only[Z2,cdt,cdf,A1,C,E,F,G,H,J]
   exact F37 a4 r5 r4 v7 _ b1 b2 b3 L
theorem F89(a2:Xl)(a4 r5:U)(r4:(P X5)):∀(n:W) (v6 v7:U) (r:X0 × V),A1h a2 a4 r5 r4 n v6 v7=N r→∀σ:St,σ.kept [10,16,60,61,62] [10,16] [2752]=⟨[(10,vc (.pb 10 0)),(16,vc (.pb 16 0)),(60,vc (aL (Y rI a2.minutes))),(61,vc (aI (a2.minutes.length:U))),(62,vc (aI v6))],[(10,[aI (0:U),aI (0:U),aI (0:U),.nil]),(16,[aI a4,aI r5,aI v7,.own 2752])],[(2752,5,Y X5.row r4)]⟩→go Z (.code (.loop C52):: [.blk 0,.code D1r]) (Ret [.c 10 T 4,11] [.ag [.v (.int .i64 r.1.Start),.v (.int .i64 r.1.Arrival),.v (.int .i64 r.1.Cost),.o 5 (Y X5.row r.1.Passages)],.sc (.v (.bool r.2))]) .normal (N σ):=by
 intro n
 induction n with
 | zero=>intro _ _ r h; cases h
 | succ n ih=>
  intro v6 v7 r h σ hσ
  rw[A1h] at h
  refine B5 ?_
  rcases ic h with ⟨h8,h⟩|⟨h8,h⟩
  ·obtain⟨x9,h9,h⟩:=ob h
   try simp only[hσ,h8,h9,C52,C,E,F,G,H,J]
   refine ih _ _ _ h _ ?_
   try simp only[h8,h9,C,E,F,G,H,J,I]
  ·try simp only[hσ,h8,C52,D1r,C,E,F,G,H,J]
   refine A3l (ks:= [10,16]) (bs:= [10,16]) (rs:= [2752]) (τ:=(A5y a4 r5 r4 v7)) X (F9f a4 r5 r4 v7 _ L L L L) ?_
   simp only[A5y,Z2,cdt]
   try simp only[h8,C,E,F,G,H,J]
   cases h
   try simp only[I2,C,E,F,G,H,J]
   trivial
theorem F23:A5 Z 78=N (cc377.strip,[.c 10 T 4,11],76):=by kernel_rfl
theorem B5b(a0:X4)(a1:Xa)(a2:Xl)(a3:P U)(a4:U)(r:X0 × V)(h:A0e a0 a1 a2 a3 a4=N r):FC Z 78 [.ag (X4.row a0),.ag (Xa.row a1),.ag (Xl.row a2),.sc (.sl (Y rI a3)),.sc (.int .i64 a4)] [.ag [.v (.int .i64 r.1.Start),.v (.int .i64 r.1.Arrival),.v (.int .i64 r.1.Cost),.o 5 (Y X5.row r.1.Passages)],.sc (.v (.bool r.2))]:=by
 unfold A0e at h
 refine C3 mixed F23 X ?_
 simp only[cc377,C,E,F,G,H,J]
 try simp only[C,E,F,G,H,J]
 refine B2 X X X ?_
 try simp only[C,E,F,G,H,J]
 refine B2 X X X ?_
 try simp only[C,E,F,G,H,J]
 refine B2 X X X ?_
 try simp only[C,E,F,G,H,J]
 refine B7 X X ?_
 obtain⟨r1,h1,h⟩:=ob h
 try simp only[C,E,F,G,H,J]
 refine A2 (B6d _ _ _ h1) X X (uf X) ?_
 rcases ic h with ⟨h2,h⟩|⟨h2,h⟩
 ·obtain⟨x3,h3,h⟩:=ob h
  try simp only[h2,h3,C,E,F,G,H,J]
  refine B7 X X ?_
  obtain⟨r4,h4,h⟩:=ob h
  try simp only[h2,h3,C,E,F,G,H,J]
  refine P4 (B70 _ _ _ _ _ _ _ h4) X (A7r X ⟨A7m,⟨⟩⟩) X (uf X) ?_
  obtain⟨r5,h5,h⟩:=ob h
  try simp only[h2,h3,C,E,F,G,H,J]
  refine P4 (B9h _ _ _ _ _ h5) X (N9 X) X (uf X) ?_
  try simp only[h2,h3,C,E,F,G,H,J]
  refine B7 X X ?_
  try simp only[h2,h3,C,E,F,G,H,J]
  refine F89 _ _ _ _ _ _ _ _ h _ ?_
  try simp only[h2,h3,C,E,F,G,H,J,I]
 ·try simp only[h2,C,E,F,G,H,J]
  cases h
  try simp only[I2,C,E,F,G,H,J]
  trivial
/- 49:impl_OptionsOf -/
def D3h:X2:= .seq (.reg [(O,.keep [2,3,5,7,9,10] [2,3,7] [1984,1985,1986,2560])]) (.reg [mv 52 10,(O,.bin 53 .add (S 52) (K 15)),mv 10 53])
def B4s:X2:= .seq (.reg [(O,.keep [2,3,5,7,9,10] [2,3,7] [1984,1985,1986,2560])]) (.seq (.seq (.reg [mv 43 10,fa 44 3 4,ld 45 44,bn 46 .leq 43 45,mv 47 46,(N (47,T),.mv 48 (S 9)),(N (47,T),.len 49 (S 48)),(N (47,T),.bin 50 .lss (S 49) (K 8)),pa 51 47 50]) (.cond (S 51) .skip (.exit 0))) (.seq (.block 1 (.seq (.reg [lw 55 2 12,lw 56 3 5,lw 57 7 3,mv 58 5,mv 59 10,ca 60 78 [S 55,S 56,S 57,S 58,S 59],mv 54 60,xt 61 54 0,xt 62 54 1,(O,.alloc 11 [aI 0,aI 0,aI 0,.nil]),so 11 61 4,mv 12 62]) (.seq (.reg [mv 63 12]) (.cond (S 63) (.reg [mv 64 9,lw 65 11 4,(O,.frz 3843),(O,.bslice 66 4 [.int .i64 0,.int .i64 0,.int .i64 0,.sl []] 1 [(0,(S 65))]),(O,.app 67 4 48 (S 64) (S 66)),mv 9 67]) .skip)))) D3h))
def B7l:X2:=(.seq (.reg [mv 68 9,mv 4 68]) .ret)
def cc385:X2:=(.seq (.reg [bo 2 0,bo 3 1,(O,.mv 4 KN)]) (.seq (.seq (.reg [lw 13 2 12,lw 14 3 5,ca 15 75 [S 13,S 14],nt 16 15]) (.cond (S 16) (.seq (.reg [(O,.mv 4 KN)]) .ret) .skip)) (.seq (.reg [fa 18 2 3,lw 19 18 2,fa 20 3 1,ld 21 20,fa 22 3 2,ld 23 22,ca 24 76 [S 19,S 21,S 23],mv 17 24,xt 25 17 0,xt 26 17 1,mv 5 25,mv 6 26]) (.seq (.reg [lw 28 2 12,lw 29 3 5,mv 30 5,ca 31 77 [S 28,S 29,S 30],mv 27 31,xt 32 27 0,xt 33 27 1,(O,.alloc 7 [.nil,.nil,.nil]),so 7 32 3,mv 8 33]) (.seq (.seq (.reg [mv 34 6,nt 35 34,mv 36 35,(N (36,L),.mv 37 (S 8)),(N (36,L),.un 38 .not (S 37)),po 39 36 38]) (.cond (S 39) (.seq (.reg [(O,.mv 4 KN)]) .ret) .skip)) (.seq (.reg [(O,.bslice 40 4 [.int .i64 0,.int .i64 0,.int .i64 0,.sl []] 0 []),mv 9 40]) (.seq (.seq (.reg [fa 41 3 3,ld 42 41,mv 10 42]) (.block 0 (.loop B4s))) B7l)))))))
theorem E2t(r3:(P U) × V)(v7:U)(a0:X4)(a1:Xa)(r4:Xl × V)(A5h:U→(P X0)→Q (P X0))(B5f:∀(v7:U) (v8:P X0) zr,A5h v7 v8=N zr→∀σ:St,σ.kept [2,3,5,7,9,10] [2,3,7] [1984,1985,1986,2560]=⟨[(2,vc (.pb 2 0)),(3,vc (.pb 3 0)),(5,vc (aL (Y rI r3.1))),(7,vc (.pb 7 0)),(9,vc (.own 2560)),(10,vc (aI v7))],[(2,(dm a0.row)),(3,(dm a1.row)),(7,[.own 1984,.own 1985,.own 1986])],[(1984,1,Y rB r4.1.waits),(1985,1,Y rI r4.1.minutes),(1986,1,Y (rL zB) r4.1.sure),(2560,4,Y X0.row v8)]⟩→go Z (.code (.loop B4s):: [.blk 0,.code B7l]) (Ret [4] [.sc (.o 4 (Y X0.row zr))]) .normal (N σ))(v14:P X0)(r:(P X0))(h:A0t r3 v7 a0 a1 r4 A5h v14=N r)(σ:St)(hσ:σ.kept [2,3,5,7,9,10] [2,3,7] [1984,1985,1986,2560]=⟨[(2,vc (.pb 2 0)),(3,vc (.pb 3 0)),(5,vc (aL (Y rI r3.1))),(7,vc (.pb 7 0)),(9,vc (.own 2560)),(10,vc (aI v7))],[(2,(dm a0.row)),(3,(dm a1.row)),(7,[.own 1984,.own 1985,.own 1986])],[(1984,1,Y rB r4.1.waits),(1985,1,Y rI r4.1.minutes),(1986,1,Y (rL zB) r4.1.sure),(2560,4,Y X0.row v14)]⟩):go Z (.code D3h:: [.code (.loop B4s),.blk 0,.code B7l]) (Ret [4] [.sc (.o 4 (Y X0.row r))]) .normal (N σ):=by
 unfold A0t at h
 try simp only[hσ,D3h,C,E,F,G,H,J]
 refine B5f _ _ _ h _ ?_
 try simp only[C,E,F,G,H,J,I]
theorem F57(r3:(P U) × V)(a0:X4)(a1:Xa)(r4:Xl × V):∀(n:W) (v7:U) (v8:P X0) (r:(P X0)),L4 r3 a0 a1 r4 n v7 v8=N r→∀σ:St,σ.kept [2,3,5,7,9,10] [2,3,7] [1984,1985,1986,2560]=⟨[(2,vc (.pb 2 0)),(3,vc (.pb 3 0)),(5,vc (aL (Y rI r3.1))),(7,vc (.pb 7 0)),(9,vc (.own 2560)),(10,vc (aI v7))],[(2,(dm a0.row)),(3,(dm a1.row)),(7,[.own 1984,.own 1985,.own 1986])],[(1984,1,Y rB r4.1.waits),(1985,1,Y rI r4.1.minutes),(1986,1,Y (rL zB) r4.1.sure),(2560,4,Y X0.row v8)]⟩→go Z (.code (.loop B4s):: [.blk 0,.code B7l]) (Ret [4] [.sc (.o 4 (Y X0.row r))]) .normal (N σ):=by
 intro n
 induction n with
 | zero=>intro _ _ r h; cases h
 | succ n ih=>
  intro v7 v8 r h σ hσ
  rw[L4] at h
  refine B5 ?_
  rcases ic h with ⟨h9,h⟩|⟨h9,h⟩
  ·rcases ic h with ⟨h10,h⟩|⟨h10,h⟩
   ·obtain⟨r11,h11,h⟩:=ob h
    try simp only[hσ,h9,h10,B4s,C,E,F,G,H,J]
    refine P4 (B5b _ _ _ _ _ _ h11) X (A7r X ⟨X,X,X,A7m,X,⟨⟩⟩) X (uf X) ?_
    try simp only[h9,h10,C,E,F,G,H,J]
    refine B7 X X ?_
    rcases ic h with ⟨h12,h⟩|⟨h12,h⟩
    ·try simp only[h9,h10,h12,C,E,F,G,H,J]
     refine N7 X ?_
     try simp only[h9,h10,h12,C,E,F,G,H,J]
     refine D6 (es:=Y X0.row ([r11.1]:P X0)) X X ?_
     obtain⟨h13,h⟩:=C9 h
     try simp only[h9,h10,h12,h13,C,E,F,G,H,J]
     refine E2t _ _ _ _ _ (L4 r3 a0 a1 r4 n) ih _ _ h _ ?_
     try simp only[h9,h10,h12,h13,C,E,F,G,H,J,I]
    ·try simp only[h9,h10,h12,C,E,F,G,H,J]
     refine E2t _ _ _ _ _ (L4 r3 a0 a1 r4 n) ih _ _ h _ ?_
     try simp only[h9,h10,h12,C,E,F,G,H,J,I]
   ·try simp only[hσ,h9,h10,B4s,B7l,C,E,F,G,H,J]
    cases h
    trivial
  ·try simp only[hσ,h9,B4s,B7l,C,E,F,G,H,J]
   cases h
   trivial
theorem F5m:A5 Z 49=N (cc385.strip,[4],69):=by kernel_rfl
theorem B18(a0:X4)(a1:Xa)(r:(P X0))(h:W0 a0 a1=N r):FC Z 49 [.ag (X4.row a0),.ag (Xa.row a1)] [.sc (.o 4 (Y X0.row r))]:=by
 unfold W0 at h
 refine C3 mixed F5m X ?_
 simp only[cc385,C,E,F,G,H,J]
 try simp only[C,E,F,G,H,J]
 refine B2 X X X ?_
 try simp only[C,E,F,G,H,J]
 refine B2 X X X ?_
 obtain⟨r1,h1,h⟩:=ob h
 try simp only[C,E,F,G,H,J]
 refine A2 (B44 _ _ _ h1) X X (uf X) ?_
 rcases ic h with ⟨h2,h⟩|⟨h2,h⟩
 ·obtain⟨r3,h3,h⟩:=ob h
  try simp only[h2,C,E,F,G,H,J]
  refine A2 (B87 _ _ _ _ h3) X X (uf X) ?_
  obtain⟨r4,h4,h⟩:=ob h
  try simp only[h2,C,E,F,G,H,J]
  refine A2 (B0y _ _ _ _ h4) X X (uf X) ?_
  try simp only[h2,C,E,F,G,H,J]
  refine B7 X X ?_
  rcases ic h with ⟨h5,h⟩|⟨h5,h⟩
  ·rcases ic h with ⟨h6,h⟩|⟨h6,h⟩
   ·try simp only[h2,h5,h6,C,E,F,G,H,J]
    refine D6 (es:=Y X0.row ([]:P X0)) X X ?_
    try simp only[h2,h5,h6,C,E,F,G,H,J]
    refine F57 _ _ _ _ _ _ _ _ h _ ?_
    try simp only[h2,h5,h6,C,E,F,G,H,J,I]
   ·try simp only[h2,h5,h6,C,E,F,G,H,J]
    cases h
    trivial
  ·try simp only[h2,h5,C,E,F,G,H,J]
   cases h
   trivial
 ·try simp only[h2,C,E,F,G,H,J]
  cases h
  trivial
/- 47:impl_allOptions -/
def C6n:X2:= .seq (.reg [(O,.keep [2,5,9,10,11] [2] [512])]) (.seq (.reg [bn 12 .lss 11 10]) (.seq (.cond (S 12) .skip (.exit 0)) (.seq (.block 1 (.seq (.reg [ia 13 9 11 5,lw 14 13 5,(O,.alloc 7 [aI 0,aI 0,aI 0,aI 0,aI 0]),so 7 14 5]) (.reg [mv 15 5,lw 16 2 12,lw 17 7 5,ca 18 49 [S 16,S 17],(O,.frz 1152),(O,.bslice 19 1 [.sl []] 1 [(0,(S 18))]),(O,.app 20 1 24 (S 15) (S 19)),mv 5 20]))) (.reg [(O,.bin 21 .add (S 11) (K 1)),mv 11 21]))))
def D4y:X2:=(.seq (.reg [mv 22 5,mv 4 22]) .ret)
def cc391:X2:=(.seq (.reg [bo 2 0,(O,.mv 4 KN)]) (.seq (.reg [(O,.bslice 8 1 [.sl []] 0 []),mv 5 8]) (.seq (.seq (.reg [mv 9 1,ln 10 9,(O,.mv 11 (K 0))]) (.block 0 (.loop C6n))) D4y)))
theorem F66(a1:P Xa)(a0:X4):∀(n:W) (v1:U) (v2:P (P X0)) (r:(P (P X0))),T8 a1 a0 n v1 v2=N r→∀σ:St,σ.kept [2,5,9,10,11] [2] [512]=⟨[(2,vc (.pb 2 0)),(5,vc (.own 512)),(9,vc (aL (Y Xa.row a1))),(10,vc (aI (a1.length:U))),(11,vc (aI v1))],[(2,(dm a0.row))],[(512,1,Y (rL X0.row) v2)]⟩→go Z (.code (.loop C6n):: [.blk 0,.code D4y]) (Ret [4] [.sc (.o 1 (Y (rL X0.row) r))]) .normal (N σ):=by
 intro n
 induction n with
 | zero=>intro _ _ r h; cases h
 | succ n ih=>
  intro v1 v2 r h σ hσ
  rw[T8] at h
  refine B5 ?_
  rcases ic h with ⟨h3,h⟩|⟨h3,h⟩
  ·obtain⟨x4,h4,h⟩:=ob h
   try simp only[hσ,h3,h4,C6n,C,E,F,G,H,J]
   refine B7 X X ?_
   obtain⟨r5,h5,h⟩:=ob h
   try simp only[h3,h4,C,E,F,G,H,J]
   refine A2 (B18 _ _ _ h5) X X (uf X) ?_
   try simp only[h3,h4,C,E,F,G,H,J]
   refine N7 X ?_
   try simp only[h3,h4,C,E,F,G,H,J]
   refine D6 (es:=Y (rL X0.row) ([r5]:P (P X0))) X X ?_
   obtain⟨h6,h⟩:=C9 h
   try simp only[h3,h4,h6,C,E,F,G,H,J]
   refine ih _ _ _ h _ ?_
   try simp only[h3,h4,h6,C,E,F,G,H,J,I]
  ·try simp only[hσ,h3,C6n,D4y,C,E,F,G,H,J]
   cases h
   trivial
theorem F9j:A5 Z 47=N (cc391.strip,[4],23):=by kernel_rfl
theorem B8k(a0:X4)(a1:P Xa)(r:(P (P X0)))(h:A1s a0 a1=N r):FC Z 47 [.ag (X4.row a0),.sc (.sl (Y Xa.row a1))] [.sc (.o 1 (Y (rL X0.row) r))]:=by
 unfold A1s at h
 refine C3 mixed F9j X ?_
 simp only[cc391,C,E,F,G,H,J]
 try simp only[C,E,F,G,H,J]
 refine B2 X X X ?_
 try simp only[C,E,F,G,H,J]
 refine D6 (es:=Y (rL X0.row) ([]:P (P X0))) X X ?_
 try simp only[C,E,F,G,H,J]
 refine F66 _ _ _ _ _ _ h _ ?_
 try simp only[C,E,F,G,H,J,I]
/- 98:impl_weight_less -/
def cc394:X2:=(.seq (.reg [bo 2 0,bo 3 1,(O,.mv 4 (KB L))]) (.seq (.reg [fa 5 2 0,ld 6 5,fa 7 3 0,ld 8 7,bn 9 .lss 6 8,mv 10 9,(N (10,L),.faddr 11 (S 2) 0),(N (10,L),.load 12 (S 11) L 1),(N (10,L),.faddr 13 (S 3) 0),(N (10,L),.load 14 (S 13) L 1),(N (10,L),.bin 15 .eql (S 12) (S 14)),(N (10,L),.mv 16 (S 15)),(N (16,T),.faddr 17 (S 2) 1),(N (16,T),.load 18 (S 17) L 1),(N (16,T),.faddr 19 (S 3) 1),(N (16,T),.load 20 (S 19) L 1),(N (16,T),.bin 21 .lss (S 18) (S 20)),(N (10,L),.pick 22 (S 16) (S 21) (KB L)),po 23 10 22,mv 4 23]) .ret))
theorem F2w:A5 Z 98=N (cc394.strip,[4],24):=by kernel_rfl
theorem B6z(a0 a1:Xk)(r:V)(h:A2u a0 a1=N r):FC Z 98 [.ag (Xk.row a0),.ag (Xk.row a1)] [.sc (.v (.bool r))]:=by
 unfold A2u at h
 refine C3 mixed F2w X ?_
 simp only[cc394,C,E,F,G,H,J]
 try simp only[C,E,F,G,H,J]
 refine B2 X X X ?_
 try simp only[C,E,F,G,H,J]
 refine B2 X X X ?_
 rcases ic h with ⟨h1,h⟩|⟨h1,h⟩
 ·try simp only[h1,C,E,F,G,H,J]
  cases h
  trivial
 ·rcases ic h with ⟨h2,h⟩|⟨h2,h⟩
  ·try simp only[h1,h2,C,E,F,G,H,J]
   cases h
   trivial
  ·try simp only[h1,h2,C,E,F,G,H,J]
   cases h
   trivial
/- 107:impl_Overlaps -/
def cc396:X2:=(.seq (.reg [bo 2 0,bo 3 1,(O,.mv 4 (KB L))]) (.seq (.reg [fa 5 2 3,ld 6 5,fa 7 3 3,ld 8 7,(O,.mm 9 T (S 6) (S 8)),fa 10 2 4,ld 11 10,fa 12 3 4,ld 13 12,(O,.mm 14 L (S 11) (S 13)),bn 15 .lss 9 14,mv 4 15]) .ret))
theorem F9m:A5 Z 107=N (cc396.strip,[4],16):=by kernel_rfl
theorem B20(a0 a1:X5)(r:V)(h:A43 a0 a1=N r):FC Z 107 [.ag (X5.row a0),.ag (X5.row a1)] [.sc (.v (.bool r))]:=by
 unfold A43 at h
 refine C3 mixed F9m X ?_
 simp only[cc396,C,E,F,G,H,J]
 try simp only[C,E,F,G,H,J]
 refine B2 X X X ?_
 try simp only[C,E,F,G,H,J]
 refine B2 X X X ?_
 try simp only[C,E,F,G,H,J]
 cases h
 trivial
/- 108:impl_near -/
def cc398:X2:=(.seq (.reg [(O,.mv 6 (KB L))]) (.seq (.reg [mv 7 0,mv 8 1,(O,.mm 9 T (S 7) (S 8)),(O,.conv 10 .u64 (S 9)),mv 11 0,mv 12 1,(O,.mm 13 L (S 11) (S 12)),(O,.conv 14 .u64 (S 13)),bn 15 .sub 10 14,mv 16 2,(O,.conv 17 .u64 (S 16)),bn 18 .lss 15 17,mv 6 18]) .ret))
theorem F1y:A5 Z 108=N (cc398.strip,[6],19):=by kernel_rfl
theorem B8q(a0 a1 a2:U)(r:V)(h:A8c a0 a1 a2=N r):FC Z 108 [.sc (.int .i64 a0),.sc (.int .i64 a1),.sc (.int .i64 a2)] [.sc (.v (.bool r))]:=by
 unfold A8c at h
 refine C3 mixed F1y X ?_
 simp only[cc398,C,E,F,G,H,J]
 try simp only[C,E,F,G,H,J]
 cases h
 trivial
/- 87:impl_conflict -/
def A93:X2:= .seq (.reg [(O,.keep [6,7,72] [6,7] [])]) (.cond (S 72) (.seq (.reg [(O,.mv 8 (K 3))]) .ret) (.seq (.reg [fa 90 6 3,ld 91 90,fa 92 7 3,ld 93 92,bn 94 .lss 91 93,mv 95 94,(N (95,T),.faddr 96 (S 6) 4),(N (95,T),.load 97 (S 96) L 1),(N (95,T),.faddr 98 (S 7) 4),(N (95,T),.load 99 (S 98) L 1),(N (95,T),.bin 100 .gtr (S 97) (S 99)),pa 101 95 100,mv 102 101,(N (102,L),.faddr 103 (S 6) 3),(N (102,L),.load 104 (S 103) L 1),(N (102,L),.faddr 105 (S 7) 3),(N (102,L),.load 106 (S 105) L 1),(N (102,L),.bin 107 .gtr (S 104) (S 106)),(N (102,L),.mv 108 (S 107)),(N (108,T),.faddr 109 (S 6) 4),(N (108,T),.load 110 (S 109) L 1),(N (108,T),.faddr 111 (S 7) 4),(N (108,T),.load 112 (S 111) L 1),(N (108,T),.bin 113 .lss (S 110) (S 112)),(N (102,L),.pick 114 (S 108) (S 113) (KB L)),po 115 102 114,mv 89 115]) (.cond (S 89) (.seq (.reg [(O,.mv 8 (K 4))]) .ret) .skip)))
def B96:X2:= .seq (.reg [(O,.keep [5,6,7,41] [5,6,7] [])]) (.cond (S 41) (.seq (.reg [(O,.mv 8 (K 2))]) .ret) (.seq (.reg [fa 67 6 2,ld 68 67,fa 69 7 2,ld 70 69,(O,.beq 71 T (S 68) (S 70)),mv 66 71]) (.cond (S 66) (.seq (.reg [(O,.mv 8 (K 0))]) .ret) (.seq (.reg [fa 73 6 3,ld 74 73,fa 75 7 3,ld 76 75,fa 77 5 0,ld 78 77,ca 79 108 [S 74,S 76,S 78],mv 80 79,(N (80,L),.faddr 81 (S 6) 4),(N (80,L),.load 82 (S 81) L 1),(N (80,L),.faddr 83 (S 7) 4),(N (80,L),.load 84 (S 83) L 1),(N (80,L),.faddr 85 (S 5) 0),(N (80,L),.load 86 (S 85) L 1),(N (80,L),.call 87 108 [(S 82),(S 84),(S 86)]),po 88 80 87,mv 72 88]) A93))))
def B7v:X2:= .seq (.reg [(O,.keep [4,5,6,7,24] [4,5,6,7] [])]) (.cond (S 24) (.seq (.reg [(O,.mv 8 (K 1))]) .ret) (.seq (.reg [fa 36 6 0,ld 37 36,fa 38 7 0,ld 39 38,bn 40 .eql 37 39,mv 35 40]) (.cond (S 35) (.seq (.reg [(O,.mv 8 (K 0))]) .ret) (.seq (.reg [fa 42 6 2,ld 43 42,fa 44 7 2,ld 45 44,(O,.beq 46 T (S 43) (S 45)),mv 47 46,(N (47,T),.load 48 (S 6) T 5),(N (47,T),.load 49 (S 7) T 5),(N (47,T),.call 50 107 [(S 48),(S 49)]),pa 51 47 50,mv 52 51,(N (52,T),.faddr 53 (S 5) 1),(N (52,T),.load 54 (S 53) L 1),(N (52,T),.mv 55 (S 54)),(N (55,L),.faddr 56 (S 4) 1),(N (55,L),.load 57 (S 56) L 1),(N (55,L),.faddr 58 (S 6) 1),(N (55,L),.load 59 (S 58) L 1),(N (55,L),.iaddr 60 (S 57) (S 59) 5),(N (55,L),.faddr 61 (S 60) 4),(N (55,L),.load 62 (S 61) L 1),(N (55,L),.un 63 .not (S 62)),(N (52,T),.pick 64 (S 55) (KB T) (S 63)),pa 65 52 64,mv 41 65]) B96))))
def B91:X2:= .seq (.reg [(O,.keep [4,5,6,7,9] [4,5,6,7] [])]) (.cond (S 9) (.seq (.reg [(O,.mv 8 (K 0))]) .ret) (.seq (.reg [fa 25 6 0,ld 26 25,fa 27 7 0,ld 28 27,bn 29 .eql 26 28,mv 30 29,(N (30,T),.load 31 (S 6) T 5),(N (30,T),.load 32 (S 7) T 5),(N (30,T),.call 33 107 [(S 31),(S 32)]),pa 34 30 33,mv 24 34]) B7v))
def B08:X2:=(.seq (.reg [(O,.mv 8 (K 0))]) .ret)
def cc405:X2:=(.seq (.reg [bo 4 0,bo 5 1,bo 6 2,bo 7 3,(O,.mv 8 (K 0))]) (.seq (.block 0 (.seq (.reg [fa 10 6 1,ld 11 10,fa 12 7 1,ld 13 12,bn 14 .neq 11 13,mv 15 14,(N (15,L),.faddr 16 (S 6) 1),(N (15,L),.load 17 (S 16) L 1),(N (15,L),.faddr 18 (S 4) 1),(N (15,L),.load 19 (S 18) L 1),(N (15,L),.len 20 (S 19)),(N (15,L),.call 21 50 [(S 17),(S 20)]),(N (15,L),.un 22 .not (S 21)),po 23 15 22,mv 9 23]) B91)) B08))
theorem E3j(a2 a3:X5)(v22:V)(r:U)(h:A1q a2 a3 v22=N r)(σ:St)(hσ:σ.kept [6,7,72] [6,7] []=⟨[(6,vc (.pb 6 0)),(7,vc (.pb 7 0)),(72,vc (aB v22))],[(6,(dm a2.row)),(7,(dm a3.row))],[]⟩):go Z (.code A93:: [.blk 0,.code B08]) (Ret [8] [.sc (.v (.int .i64 r))]) .normal (N σ):=by
 unfold A1q at h
 rcases ic h with ⟨h23,h⟩|⟨h23,h⟩
 ·try simp only[hσ,h23,A93,C,E,F,G,H,J]
  cases h
  trivial
 ·rcases ic h with ⟨h24,h⟩|⟨h24,h⟩
  ·rcases ic h with ⟨h25,h⟩|⟨h25,h⟩
   ·try simp only[hσ,h23,h24,h25,A93,C,E,F,G,H,J]
    cases h
    trivial
   ·rcases ic h with ⟨h26,h⟩|⟨h26,h⟩
    ·rcases ic h with ⟨h28,h⟩|⟨h28,h⟩
     ·try simp only[hσ,h23,h24,h25,h26,h28,A93,C,E,F,G,H,J]
      cases h
      trivial
     ·try simp only[hσ,h23,h24,h25,h26,h28,A93,B08,C,E,F,G,H,J]
      cases h
      trivial
    ·try simp only[hσ,h23,h24,h25,h26,A93,B08,C,E,F,G,H,J]
     cases h
     trivial
  ·rcases ic h with ⟨h27,h⟩|⟨h27,h⟩
   ·rcases ic h with ⟨h29,h⟩|⟨h29,h⟩
    ·try simp only[hσ,h23,h24,h27,h29,A93,C,E,F,G,H,J]
     cases h
     trivial
    ·try simp only[hσ,h23,h24,h27,h29,A93,B08,C,E,F,G,H,J]
     cases h
     trivial
   ·try simp only[hσ,h23,h24,h27,A93,B08,C,E,F,G,H,J]
    cases h
    trivial
theorem C65(a1:Xm)(a2 a3:X5)(v15 v16:V)(r:U)(h:T3 a1 a2 a3 v15 v16=N r)(σ:St)(hσ:σ.kept [5,6,7,41] [5,6,7] []=⟨[(5,vc (.pb 5 0)),(6,vc (.pb 6 0)),(7,vc (.pb 7 0)),(41,vc (aB v15))],[(5,[aI a1.Gap,aB v16]),(6,(dm a2.row)),(7,(dm a3.row))],[]⟩):go Z (.code B96:: [.blk 0,.code B08]) (Ret [8] [.sc (.v (.int .i64 r))]) .normal (N σ):=by
 unfold T3 at h
 rcases ic h with ⟨h17,h⟩|⟨h17,h⟩
 ·try simp only[hσ,h17,B96,C,E,F,G,H,J]
  cases h
  trivial
 ·rcases ic h with ⟨h18,h⟩|⟨h18,h⟩
  ·obtain⟨r19,h19,h⟩:=ob h
   try simp only[hσ,h17,h18,B96,C,E,F,G,H,J]
   refine A2 (B8q _ _ _ _ h19) X X (uf X) ?_
   rcases ic h with ⟨h20,h⟩|⟨h20,h⟩
   ·try simp only[h17,h18,h20,C,E,F,G,H,J]
    refine E3j _ _ _ _ h _ ?_
    try simp only[h17,h18,h20,C,E,F,G,H,J,I]
   ·obtain⟨r21,h21,h⟩:=ob h
    try simp only[h17,h18,h20,C,E,F,G,H,J]
    refine A2 (B8q _ _ _ _ h21) X X (uf X) ?_
    try simp only[h17,h18,h20,C,E,F,G,H,J]
    refine E3j _ _ _ _ h _ ?_
    try simp only[h17,h18,h20,C,E,F,G,H,J,I]
  ·try simp only[hσ,h17,h18,B96,C,E,F,G,H,J]
   cases h
   trivial
theorem E2z(a0:X9)(a1:Xm)(a2 a3:X5)(v7:V)(r:U)(h:A1o a0 a1 a2 a3 v7=N r)(σ:St)(hσ:σ.kept [4,5,6,7,24] [4,5,6,7] []=⟨[(4,vc (.pb 4 0)),(5,vc (.pb 5 0)),(6,vc (.pb 6 0)),(7,vc (.pb 7 0)),(24,vc (aB v7))],[(4,(dm a0.row)),(5,(dm a1.row)),(6,(dm a2.row)),(7,(dm a3.row))],[]⟩):go Z (.code B7v:: [.blk 0,.code B08]) (Ret [8] [.sc (.v (.int .i64 r))]) .normal (N σ):=by
 unfold A1o at h
 rcases ic h with ⟨h8,h⟩|⟨h8,h⟩
 ·try simp only[hσ,h8,B7v,C,E,F,G,H,J]
  cases h
  trivial
 ·rcases ic h with ⟨h9,h⟩|⟨h9,h⟩
  ·try simp only[hσ,h8,h9,B7v,C,E,F,G,H,J]
   cases h
   trivial
  ·rcases ic h with ⟨h10,h⟩|⟨h10,h⟩
   ·try simp only[hσ,h8,h9,h10,B7v,C,E,F,G,H,J]
    refine C65 _ _ _ _ _ _ h _ ?_
    try simp only[h8,h9,h10,C,E,F,G,H,J,I]
   ·obtain⟨r11,h11,h⟩:=ob h
    try simp only[hσ,h8,h9,h10,B7v,C,E,F,G,H,J]
    refine A2 (B20 _ _ _ h11) X X (uf X) ?_
    rcases ic h with ⟨h12,h⟩|⟨h12,h⟩
    ·rcases ic h with ⟨h13,h⟩|⟨h13,h⟩
     ·try simp only[h8,h9,h10,h12,h13,C,E,F,G,H,J]
      refine C65 _ _ _ _ _ _ h _ ?_
      try simp only[h8,h9,h10,h12,h13,C,E,F,G,H,J,I]
     ·obtain⟨x14,h14,h⟩:=ob h
      try simp only[h8,h9,h10,h12,h13,h14,C,E,F,G,H,J]
      refine C65 _ _ _ _ _ _ h _ ?_
      try simp only[h8,h9,h10,h12,h13,h14,C,E,F,G,H,J,I]
    ·try simp only[h8,h9,h10,h12,C,E,F,G,H,J]
     refine C65 _ _ _ _ _ _ h _ ?_
     try simp only[h8,h9,h10,h12,C,E,F,G,H,J,I]
theorem E3t(a0:X9)(a1:Xm)(a2 a3:X5)(v3:V)(r:U)(h:A1r a0 a1 a2 a3 v3=N r)(σ:St)(hσ:σ.kept [4,5,6,7,9] [4,5,6,7] []=⟨[(4,vc (.pb 4 0)),(5,vc (.pb 5 0)),(6,vc (.pb 6 0)),(7,vc (.pb 7 0)),(9,vc (aB v3))],[(4,(dm a0.row)),(5,(dm a1.row)),(6,(dm a2.row)),(7,(dm a3.row))],[]⟩):go Z (.code B91:: [.blk 0,.code B08]) (Ret [8] [.sc (.v (.int .i64 r))]) .normal (N σ):=by
 unfold A1r at h
 rcases ic h with ⟨h4,h⟩|⟨h4,h⟩
 ·try simp only[hσ,h4,B91,C,E,F,G,H,J]
  cases h
  trivial
 ·rcases ic h with ⟨h5,h⟩|⟨h5,h⟩
  ·obtain⟨r6,h6,h⟩:=ob h
   try simp only[hσ,h4,h5,B91,C,E,F,G,H,J]
   refine A2 (B20 _ _ _ h6) X X (uf X) ?_
   try simp only[h4,h5,C,E,F,G,H,J]
   refine E2z _ _ _ _ _ _ h _ ?_
   try simp only[h4,h5,C,E,F,G,H,J,I]
  ·try simp only[hσ,h4,h5,B91,C,E,F,G,H,J]
   refine E2z _ _ _ _ _ _ h _ ?_
   try simp only[h4,h5,C,E,F,G,H,J,I]
theorem F6q:A5 Z 87=N (cc405.strip,[8],116):=by kernel_rfl
theorem C03(a0:X9)(a1:Xm)(a2 a3:X5)(r:U)(h:A5m a0 a1 a2 a3=N r):FC Z 87 [.ag (X9.row a0),.ag (Xm.row a1),.ag (X5.row a2),.ag (X5.row a3)] [.sc (.v (.int .i64 r))]:=by
 unfold A5m at h
 refine C3 mixed F6q X ?_
 simp only[cc405,C,E,F,G,H,J]
 try simp only[C,E,F,G,H,J]
 refine B2 X X X ?_
 try simp only[C,E,F,G,H,J]
 refine B2 X X X ?_
 try simp only[C,E,F,G,H,J]
 refine B2 X X X ?_
 try simp only[C,E,F,G,H,J]
 refine B2 X X X ?_
 rcases ic h with ⟨h1,h⟩|⟨h1,h⟩
 ·try simp only[h1,C,E,F,G,H,J]
  refine E3t _ _ _ _ _ _ h _ ?_
  try simp only[h1,C,E,F,G,H,J,I]
 ·obtain⟨r2,h2,h⟩:=ob h
  try simp only[h1,C,E,F,G,H,J]
  refine A2 (E9 _ _ _ h2) X X (uf X) ?_
  try simp only[h1,C,E,F,G,H,J]
  refine E3t _ _ _ _ _ _ h _ ?_
  try simp only[h1,C,E,F,G,H,J,I]
/- 64:impl_clashes -/
def C5l:X2:= .seq (.reg [(O,.keep [3,4,5,10,13,14,15,19,20,21] [4,5,10] [])]) (.seq (.reg [bn 22 .lss 21 20]) (.seq (.cond (S 22) .skip (.exit 2)) (.seq (.block 3 (.seq (.reg [ia 23 19 21 5,lw 24 23 5,(O,.alloc 12 [aI 0,aI 0,aB L,aI 0,aI 0]),so 12 24 5]) (.seq (.reg [lw 25 4 2,lw 26 5 2,lw 27 10 5,lw 28 12 5,ca 29 87 [S 25,S 26,S 27,S 28],(O,.bin 30 .neq (S 29) (K 0))]) (.cond (S 30) (.seq (.reg [(O,.mv 8 (KB T))]) .ret) .skip)))) (.reg [(O,.bin 31 .add (S 21) (K 1)),mv 21 31]))))
def D36:X2:=(.reg [(O,.bin 32 .add (S 15) (K 1)),mv 15 32])
def B7i:X2:= .seq (.reg [(O,.keep [3,4,5,13,14,15] [4,5] [])]) (.seq (.reg [bn 16 .lss 15 14]) (.seq (.cond (S 16) .skip (.exit 0)) (.seq (.block 1 (.seq (.reg [ia 17 13 15 5,lw 18 17 5,(O,.alloc 10 [aI 0,aI 0,aB L,aI 0,aI 0]),so 10 18 5]) (.seq (.reg [mv 19 3,ln 20 19,(O,.mv 21 (K 0))]) (.block 2 (.loop C5l))))) D36)))
def C08:X2:=(.seq (.reg [(O,.mv 8 (KB L))]) .ret)
def cc415:X2:=(.seq (.reg [bo 4 0,bo 5 1,(O,.mv 8 (KB L))]) (.seq (.seq (.reg [mv 13 2,ln 14 13,(O,.mv 15 (K 0))]) (.block 0 (.loop B7i))) C08))
theorem F6h(a3 a2:P X5)(v1:U)(a0:X9)(a1:Xm)(x3:X5)(A4i:U→Q V)(B79:∀(v1:U) zr,A4i v1=N zr→∀σ:St,σ.kept [3,4,5,13,14,15] [4,5] []=⟨[(3,vc (aL (Y X5.row a3))),(4,vc (.pb 4 0)),(5,vc (.pb 5 0)),(13,vc (aL (Y X5.row a2))),(14,vc (aI (a2.length:U))),(15,vc (aI v1))],[(4,(dm a0.row)),(5,(dm a1.row))],[]⟩→go Z (.code (.loop B7i):: [.blk 0,.code C08]) (Ret [8] [.sc (.v (.bool zr))]) .normal (N σ)):∀(n:W) (v4:U) (r:V),A0h a3 a2 v1 a0 a1 x3 A4i n v4=N r→∀σ:St,σ.kept [3,4,5,10,13,14,15,19,20,21] [4,5,10] []=⟨[(3,vc (aL (Y X5.row a3))),(4,vc (.pb 4 0)),(5,vc (.pb 5 0)),(10,vc (.pb 10 0)),(13,vc (aL (Y X5.row a2))),(14,vc (aI (a2.length:U))),(15,vc (aI v1)),(19,vc (aL (Y X5.row a3))),(20,vc (aI (a3.length:U))),(21,vc (aI v4))],[(4,(dm a0.row)),(5,(dm a1.row)),(10,(dm x3.row))],[]⟩→go Z (.code (.loop C5l):: [.blk 2,.blk 1,.code D36,.code (.loop B7i),.blk 0,.code C08]) (Ret [8] [.sc (.v (.bool r))]) .normal (N σ):=by
 intro n
 induction n with
 | zero=>intro _ r h; cases h
 | succ n ih=>
  intro v4 r h σ hσ
  rw[A0h] at h
  refine B5 ?_
  rcases ic h with ⟨h5,h⟩|⟨h5,h⟩
  ·obtain⟨x6,h6,h⟩:=ob h
   try simp only[hσ,h5,h6,C5l,C,E,F,G,H,J]
   refine B7 X X ?_
   obtain⟨r7,h7,h⟩:=ob h
   try simp only[h5,h6,C,E,F,G,H,J]
   refine A2 (C03 _ _ _ _ _ h7) X X (uf X) ?_
   rcases ic h with ⟨h8,h⟩|⟨h8,h⟩
   ·try simp only[h5,h6,h8,C,E,F,G,H,J]
    cases h
    trivial
   ·try simp only[h5,h6,h8,C,E,F,G,H,J]
    refine ih _ _ h _ ?_
    try simp only[h5,h6,h8,C,E,F,G,H,J,I]
  ·try simp only[hσ,h5,C5l,D36,C,E,F,G,H,J]
   refine B79 _ _ h _ ?_
   try simp only[h5,C,E,F,G,H,J,I]
theorem F5u(a3 a2:P X5)(a0:X9)(a1:Xm):∀(n:W) (v1:U) (r:V),R9 a3 a2 a0 a1 n v1=N r→∀σ:St,σ.kept [3,4,5,13,14,15] [4,5] []=⟨[(3,vc (aL (Y X5.row a3))),(4,vc (.pb 4 0)),(5,vc (.pb 5 0)),(13,vc (aL (Y X5.row a2))),(14,vc (aI (a2.length:U))),(15,vc (aI v1))],[(4,(dm a0.row)),(5,(dm a1.row))],[]⟩→go Z (.code (.loop B7i):: [.blk 0,.code C08]) (Ret [8] [.sc (.v (.bool r))]) .normal (N σ):=by
 intro n
 induction n with
 | zero=>intro _ r h; cases h
 | succ n ih=>
  intro v1 r h σ hσ
  rw[R9] at h
  refine B5 ?_
  rcases ic h with ⟨h2,h⟩|⟨h2,h⟩
  ·obtain⟨x3,h3,h⟩:=ob h
   try simp only[hσ,h2,h3,B7i,C,E,F,G,H,J]
   refine B7 X X ?_
   try simp only[h2,h3,C,E,F,G,H,J]
   refine F6h _ _ _ _ _ _ (R9 a3 a2 a0 a1 n) ih _ _ _ h _ ?_
   try simp only[h2,h3,C,E,F,G,H,J,I]
  ·try simp only[hσ,h2,B7i,C08,C,E,F,G,H,J]
   cases h
   trivial
theorem F70:A5 Z 64=N (cc415.strip,[8],33):=by kernel_rfl
theorem C2h(a0:X9)(a1:Xm)(a2 a3:P X5)(r:V)(h:A76 a0 a1 a2 a3=N r):FC Z 64 [.ag (X9.row a0),.ag (Xm.row a1),.sc (.sl (Y X5.row a2)),.sc (.sl (Y X5.row a3))] [.sc (.v (.bool r))]:=by
 unfold A76 at h
 refine C3 mixed F70 X ?_
 simp only[cc415,C,E,F,G,H,J]
 try simp only[C,E,F,G,H,J]
 refine B2 X X X ?_
 try simp only[C,E,F,G,H,J]
 refine B2 X X X ?_
 try simp only[C,E,F,G,H,J]
 refine F5u _ _ _ _ _ _ _ h _ ?_
 try simp only[C,E,F,G,H,J,I]
/- 66:impl_clone_Option -/
def cc419:X2:=(.seq (.reg [(O,.mv 2 KN)]) (.seq (.reg [mv 3 0,ln 4 3,(O,.mksl 5 4 48 [.int .i64 0,.int .i64 0,.int .i64 0,.sl []] (K 0) (S 4)),mv 6 0,(O,.app 7 4 48 (S 5) (S 6)),mv 2 7]) .ret))
theorem F5j:A5 Z 66=N (cc419.strip,[2],8):=by kernel_rfl
theorem A9l(a0:P X0)(r:(P X0))(h:K0 a0=N r):FC Z 66 [.sc (.sl (Y X0.row a0))] [.sc (.o 4 (Y X0.row r))]:=by
 unfold K0 at h
 refine C3 mixed F5j X ?_
 simp only[cc419,C,E,F,G,H,J]
 obtain⟨n1,hn1,h⟩:=ob h
 try simp only[C,E,F,G,H,J]
 refine A7l (es:=Y X0.row (zG n1 (⟨(0:U),(0:U),(0:U),([]:P X5)⟩:X0))) X X hn1 X (A54 X) X ?_
 obtain⟨h2,h⟩:=C9 h
 try simp only[h2,C,E,F,G,H,J]
 cases h
 trivial
/- 109:impl_Passage_ends -/
def cc421:X2:=(.seq (.reg [bo 2 0,bo 3 1,(O,.mv 4 (K 0)),(O,.mv 5 (K 0))]) (.seq (.reg [fa 7 3 1,ld 8 7,fa 9 2 1,ld 10 9,ia 11 8 10 5,lw 12 11 5,(O,.alloc 6 [aI 0,aI 0,aI 0,aI 0,aB L]),so 6 12 5]) (.seq (.seq (.reg [fa 13 2 2,ld 14 13]) (.cond (S 14) (.seq (.drw [o0 (fa 15 6 0),o0 (ld 16 15),o0 (fa 17 6 1),o0 (ld 18 17),o0 (mv 4 16),o0 (mv 5 18)]) .ret) .skip)) (.seq (.drw [o0 (fa 19 6 1),o0 (ld 20 19),o0 (fa 21 6 0),o0 (ld 22 21),o0 (mv 4 20),o0 (mv 5 22)]) .ret))))
theorem F8n:A5 Z 109=N (cc421.strip,[4,5],23):=by kernel_rfl
theorem A9m(a0:X5)(a1:X9)(r:U × U)(h:A0c a0 a1=N r):FC Z 109 [.ag (X5.row a0),.ag (X9.row a1)] [.sc (.v (.int .i64 r.1)),.sc (.v (.int .i64 r.2))]:=by
 unfold A0c at h
 refine C3 mixed F8n X ?_
 simp only[cc421,C,E,F,G,H,J]
 try simp only[C,E,F,G,H,J]
 refine B2 X X X ?_
 try simp only[C,E,F,G,H,J]
 refine B2 X X X ?_
 obtain⟨x1,h1,h⟩:=ob h
 try simp only[h1,C,E,F,G,H,J]
 refine B7 X X ?_
 rcases ic h with ⟨h2,h⟩|⟨h2,h⟩
 ·try simp only[h1,h2,C,E,F,G,H,J]
  refine B3 X ?_
  try simp only[h1,h2,C,E,F,G,H,J]
  cases h
  trivial
 ·try simp only[h1,h2,C,E,F,G,H,J]
  refine B3 X ?_
  try simp only[h1,h2,C,E,F,G,H,J]
  cases h
  trivial
/- 88:impl_duty -/
def cc423:X2:=(.seq (.reg [bo 3 0,bo 4 1,bo 5 2,(O,.alloc 6 [aI 0,aI 0,aI 0,aI 0])]) (.seq (.reg [lw 12 4 5,lw 13 3 2,ca 14 109 [S 12,S 13],mv 11 14,xt 15 11 0,xt 16 11 1,mv 7 15,mv 8 16]) (.seq (.reg [lw 18 5 5,lw 19 3 2,ca 20 109 [S 18,S 19],mv 17 20,xt 21 17 0,xt 22 17 1,mv 9 21,mv 10 22]) (.seq (.reg [fa 23 4 3,ld 24 23,fa 25 5 4,ld 26 25,mv 27 7,mv 28 10,(O,.build 29 [aI 0,aI 0,aI 0,aI 0] [(0,1,(S 24)),(1,1,(S 26)),(2,1,(S 27)),(3,1,(S 28))]),so 6 29 4]) .ret))))
theorem F3f:A5 Z 88=N (cc423.strip,[.c 6 T 4],30):=by kernel_rfl
theorem B8u(a0:X9)(a1 a2:X5)(r:Xg)(h:A66 a0 a1 a2=N r):FC Z 88 [.ag (X9.row a0),.ag (X5.row a1),.ag (X5.row a2)] [.ag [.v (.int .i64 r.From),.v (.int .i64 r.To),.v (.int .i64 r.A),.v (.int .i64 r.B)]]:=by
 unfold A66 at h
 refine C3 mixed F3f X ?_
 simp only[cc423,C,E,F,G,H,J]
 try simp only[C,E,F,G,H,J]
 refine B2 X X X ?_
 try simp only[C,E,F,G,H,J]
 refine B2 X X X ?_
 try simp only[C,E,F,G,H,J]
 refine B2 X X X ?_
 try simp only[C,E,F,G,H,J]
 refine B7 X X ?_
 obtain⟨r1,h1,h⟩:=ob h
 try simp only[C,E,F,G,H,J]
 refine A2 (A9m _ _ _ h1) X X (uf X) ?_
 obtain⟨r2,h2,h⟩:=ob h
 try simp only[C,E,F,G,H,J]
 refine A2 (A9m _ _ _ h2) X X (uf X) ?_
 try simp only[C,E,F,G,H,J]
 cases h
 try simp only[I2,C,E,F,G,H,J]
 trivial
/- 126:impl_passageOk -/
def cc425:X2:=(.seq (.reg [bo 3 0,bo 5 2,(O,.mv 6 (KB L))]) (.seq (.seq (.reg [fa 7 5 0,ld 8 7,mv 9 1,ln 10 9,ca 11 50 [S 8,S 10],nt 12 11,mv 13 12,(N (13,L),.faddr 14 (S 5) 1),(N (13,L),.load 15 (S 14) L 1),(N (13,L),.faddr 16 (S 3) 1),(N (13,L),.load 17 (S 16) L 1),(N (13,L),.len 18 (S 17)),(N (13,L),.call 19 50 [(S 15),(S 18)]),(N (13,L),.un 20 .not (S 19)),po 21 13 20,mv 22 21,(N (22,L),.faddr 23 (S 5) 3),(N (22,L),.load 24 (S 23) L 1),(N (22,L),.call 25 25 [(S 24)]),(N (22,L),.un 26 .not (S 25)),po 27 22 26,mv 28 27,(N (28,L),.faddr 29 (S 5) 4),(N (28,L),.load 30 (S 29) L 1),(N (28,L),.bin 31 .gtr (S 30) (K 2880)),po 32 28 31]) (.cond (S 32) (.seq (.reg [(O,.mv 6 (KB L))]) .ret) .skip)) (.seq (.drw [(N [48],fa 33 5 4),(N [48],ld 34 33),(N [48],fa 35 5 3),(N [48],ld 36 35),o0 (mv 37 1),o0 (fa 38 5 0),o0 (ld 39 38),o0 (ia 40 37 39 6),o0 (lw 41 40 6),o0 (fa 42 3 1),o0 (ld 43 42),o0 (fa 44 5 1),o0 (ld 45 44),o0 (ia 46 43 45 5),o0 (lw 47 46 5),o0 (ca 48 122 [S 41,S 47]),o0 (bn 49 .add 36 48),o0 (bn 50 .eql 34 49),o0 (mv 6 50)]) .ret)))
theorem G0b:A5 Z 126=N (cc425.strip,[6],51):=by kernel_rfl
theorem B9b(a0:X9)(a1:P Xc)(a2:X5)(r:V)(h:A32 a0 a1 a2=N r):FC Z 126 [.ag (X9.row a0),.sc (.sl (Y zD a1)),.ag (X5.row a2)] [.sc (.v (.bool r))]:=by
 unfold A32 at h
 refine C3 mixed G0b X ?_
 simp only[cc425,C,E,F,G,H,J]
 try simp only[C,E,F,G,H,J]
 refine B2 X X X ?_
 try simp only[C,E,F,G,H,J]
 refine B2 X X X ?_
 obtain⟨r1,h1,h⟩:=ob h
 try simp only[C,E,F,G,H,J]
 refine A2 (E9 _ _ _ h1) X X (uf X) ?_
 rcases ic h with ⟨h2,h⟩|⟨h2,h⟩
 ·obtain⟨r3,h3,h⟩:=ob h
  try simp only[h2,C,E,F,G,H,J]
  refine A2 (E9 _ _ _ h3) X X (uf X) ?_
  rcases ic h with ⟨h4,h⟩|⟨h4,h⟩
  ·obtain⟨r5,h5,h⟩:=ob h
   try simp only[h2,h4,C,E,F,G,H,J]
   refine A2 (O5 _ _ h5) X X (uf X) ?_
   rcases ic h with ⟨h6,h⟩|⟨h6,h⟩
   ·rcases ic h with ⟨h7,h⟩|⟨h7,h⟩
    ·try simp only[h2,h4,h6,h7,C,E,F,G,H,J]
     cases h
     trivial
    ·try simp only[h2,h4,h6,h7,C,E,F,G,H,J]
     refine B3 X ?_
     obtain⟨x8,h8,h⟩:=ob h
     obtain⟨x9,h9,h⟩:=ob h
     obtain⟨r10,h10,h⟩:=ob h
     try simp only[h2,h4,h6,h7,h8,h9,C,E,F,G,H,J]
     refine E1 (A11 _ _ _ h10) X X (uf X) ?_
     try simp only[h2,h4,h6,h7,h8,h9,C,E,F,G,H,J]
     cases h
     trivial
   ·try simp only[h2,h4,h6,C,E,F,G,H,J]
    cases h
    trivial
  ·try simp only[h2,h4,C,E,F,G,H,J]
   cases h
   trivial
 ·try simp only[h2,C,E,F,G,H,J]
  cases h
  trivial
/- 110:impl_PassageOk -/
def cc427:X2:=(.seq (.reg [bo 3 0,bo 5 2,(O,.mv 6 (KB L))]) (.seq (.reg [lw 7 3 2,ca 8 53 [S 7],mv 9 8,(N (9,T),.mv 10 (S 1)),(N (9,T),.call 11 54 [(S 10)]),pa 12 9 11,mv 13 12,(N (13,T),.load 14 (S 3) T 2),(N (13,T),.mv 15 (S 1)),(N (13,T),.load 16 (S 5) T 5),(N (13,T),.call 17 126 [(S 14),(S 15),(S 16)]),pa 18 13 17,mv 6 18]) .ret))
theorem F3u:A5 Z 110=N (cc427.strip,[6],19):=by kernel_rfl
theorem B9d(a0:X9)(a1:P Xc)(a2:X5)(r:V)(h:A34 a0 a1 a2=N r):FC Z 110 [.ag (X9.row a0),.sc (.sl (Y zD a1)),.ag (X5.row a2)] [.sc (.v (.bool r))]:=by
 unfold A34 at h
 refine C3 mixed F3u X ?_
 simp only[cc427,C,E,F,G,H,J]
 try simp only[C,E,F,G,H,J]
 refine B2 X X X ?_
 try simp only[C,E,F,G,H,J]
 refine B2 X X X ?_
 obtain⟨r1,h1,h⟩:=ob h
 try simp only[C,E,F,G,H,J]
 refine A2 (A0v _ _ h1) X X (uf X) ?_
 rcases ic h with ⟨h2,h⟩|⟨h2,h⟩
 ·obtain⟨r3,h3,h⟩:=ob h
  try simp only[h2,C,E,F,G,H,J]
  refine A2 (B39 _ _ h3) X X (uf X) ?_
  rcases ic h with ⟨h4,h⟩|⟨h4,h⟩
  ·obtain⟨r5,h5,h⟩:=ob h
   try simp only[h2,h4,C,E,F,G,H,J]
   refine A2 (B9b _ _ _ _ h5) X X (uf X) ?_
   try simp only[h2,h4,C,E,F,G,H,J]
   cases h
   trivial
  ·try simp only[h2,h4,C,E,F,G,H,J]
   cases h
   trivial
 ·try simp only[h2,C,E,F,G,H,J]
  cases h
  trivial
/- 89:impl_tugDuties -/
def C04:X2:= .seq (.reg [(O,.keep [1,3,8,10,12,13,14,28,29] [3,10] [704])]) (.seq (.reg [bn 30 .lss 29 28]) (.seq (.cond (S 30) .skip (.exit 2)) (.seq (.block 3 (.reg [mv 31 8,lw 32 3 2,lw 33 10 5,lw 34 10 5,ca 35 88 [S 32,S 33,S 34],(O,.bslice 36 4 [.int .i64 0,.int .i64 0,.int .i64 0,.int .i64 0] 1 [(0,(S 35))]),(O,.app 37 4 32 (S 31) (S 36)),mv 8 37])) (.reg [(O,.bin 38 .add (S 29) (K 1)),mv 29 38]))))
def C6r:X2:=(.seq (.reg [mv 39 8,ln 40 39,(O,.bin 41 .gtr (S 40) (K 12))]) (.cond (S 41) (.seq (.reg [(O,.mv 6 KN),(O,.mv 7 (KB L))]) .ret) .skip))
def D17:X2:=(.reg [(O,.bin 42 .add (S 14) (K 1)),mv 14 42])
def B7t:X2:= .seq (.reg [(O,.keep [1,3,8,12,13,14] [3] [704])]) (.seq (.reg [bn 15 .lss 14 13]) (.seq (.cond (S 15) .skip (.exit 0)) (.seq (.block 1 (.seq (.reg [ia 16 12 14 5,lw 17 16 5,(O,.alloc 10 [aI 0,aI 0,aB L,aI 0,aI 0]),so 10 17 5]) (.seq (.seq (.reg [lw 18 3 2,mv 19 1,lw 20 10 5,ca 21 110 [S 18,S 19,S 20],nt 22 21]) (.cond (S 22) (.seq (.reg [(O,.mv 6 KN),(O,.mv 7 (KB L))]) .ret) .skip)) (.seq (.seq (.reg [mv 23 1,fa 24 10 0,ld 25 24,ia 26 23 25 6,fa 27 26 4,ld 28 27,(O,.mv 29 (K 0))]) (.block 2 (.loop C04))) C6r)))) D17)))
def C0p:X2:=(.seq (.reg [mv 43 8,mv 6 43,(O,.mv 7 (KB T))]) .ret)
def cc434:X2:=(.seq (.reg [bo 3 0,(O,.mv 6 KN),(O,.mv 7 (KB L))]) (.seq (.reg [(O,.bslice 11 4 [.int .i64 0,.int .i64 0,.int .i64 0,.int .i64 0] 0 []),mv 8 11]) (.seq (.seq (.reg [mv 12 2,ln 13 12,(O,.mv 14 (K 0))]) (.block 0 (.loop B7t))) C0p)))
theorem F6d(a1:P Xc)(a2:P X5)(v1:U)(x7:Xc)(a0:X9)(x4:X5)(A2n:U→(P Xg)→Q ((P Xg) × V))(B5m:∀(v1:U) (v2:P Xg) zr,A2n v1 v2=N zr→∀σ:St,σ.kept [1,3,8,12,13,14] [3] [704]=⟨[(1,vc (aL (Y zD a1))),(3,vc (.pb 3 0)),(8,vc (.own 704)),(12,vc (aL (Y X5.row a2))),(13,vc (aI (a2.length:U))),(14,vc (aI v1))],[(3,(dm a0.row))],[(704,4,Y zC v2)]⟩→go Z (.code (.loop B7t):: [.blk 0,.code C0p]) (Ret [6,7] [.sc (.o 4 (Y zC zr.1)),.sc (.v (.bool zr.2))]) .normal (N σ)):∀(n:W) (v8:U) (v9:P Xg) (r:(P Xg) × V),R4 a1 a2 v1 x7 a0 x4 A2n n v8 v9=N r→∀σ:St,σ.kept [1,3,8,10,12,13,14,28,29] [3,10] [704]=⟨[(1,vc (aL (Y zD a1))),(3,vc (.pb 3 0)),(8,vc (.own 704)),(10,vc (.pb 10 0)),(12,vc (aL (Y X5.row a2))),(13,vc (aI (a2.length:U))),(14,vc (aI v1)),(28,vc (aI x7.Tugs)),(29,vc (aI v8))],[(3,(dm a0.row)),(10,(dm x4.row))],[(704,4,Y zC v9)]⟩→go Z (.code (.loop C04):: [.blk 2,.code C6r,.blk 1,.code D17,.code (.loop B7t),.blk 0,.code C0p]) (Ret [6,7] [.sc (.o 4 (Y zC r.1)),.sc (.v (.bool r.2))]) .normal (N σ):=by
 intro n
 induction n with
 | zero=>intro _ _ r h; cases h
 | succ n ih=>
  intro v8 v9 r h σ hσ
  rw[R4] at h
  refine B5 ?_
  rcases ic h with ⟨h10,h⟩|⟨h10,h⟩
  ·obtain⟨r11,h11,h⟩:=ob h
   try simp only[hσ,h10,C04,C,E,F,G,H,J]
   refine A2 (B8u _ _ _ _ h11) X X (uf X) ?_
   try simp only[h10,C,E,F,G,H,J]
   refine D6 (es:=Y zC ([r11]:P Xg)) X X ?_
   obtain⟨h12,h⟩:=C9 h
   try simp only[h10,h12,C,E,F,G,H,J]
   refine ih _ _ _ h _ ?_
   try simp only[h10,h12,C,E,F,G,H,J,I]
  ·rcases ic h with ⟨h13,h⟩|⟨h13,h⟩
   ·try simp only[hσ,h10,h13,C04,C6r,C,E,F,G,H,J]
    cases h
    trivial
   ·try simp only[hσ,h10,h13,C04,C6r,D17,C,E,F,G,H,J]
    refine B5m _ _ _ h _ ?_
    try simp only[h10,h13,C,E,F,G,H,J,I]
theorem F8z(a1:P Xc)(a2:P X5)(a0:X9):∀(n:W) (v1:U) (v2:P Xg) (r:(P Xg) × V),L9 a1 a2 a0 n v1 v2=N r→∀σ:St,σ.kept [1,3,8,12,13,14] [3] [704]=⟨[(1,vc (aL (Y zD a1))),(3,vc (.pb 3 0)),(8,vc (.own 704)),(12,vc (aL (Y X5.row a2))),(13,vc (aI (a2.length:U))),(14,vc (aI v1))],[(3,(dm a0.row))],[(704,4,Y zC v2)]⟩→go Z (.code (.loop B7t):: [.blk 0,.code C0p]) (Ret [6,7] [.sc (.o 4 (Y zC r.1)),.sc (.v (.bool r.2))]) .normal (N σ):=by
 intro n
 induction n with
 | zero=>intro _ _ r h; cases h
 | succ n ih=>
  intro v1 v2 r h σ hσ
  rw[L9] at h
  refine B5 ?_
  rcases ic h with ⟨h3,h⟩|⟨h3,h⟩
  ·obtain⟨x4,h4,h⟩:=ob h
   try simp only[hσ,h3,h4,B7t,C,E,F,G,H,J]
   refine B7 X X ?_
   obtain⟨r5,h5,h⟩:=ob h
   try simp only[h3,h4,C,E,F,G,H,J]
   refine A2 (B9d _ _ _ _ h5) X X (uf X) ?_
   rcases ic h with ⟨h6,h⟩|⟨h6,h⟩
   ·obtain⟨x7,h7,h⟩:=ob h
    try simp only[h3,h4,h6,h7,C,E,F,G,H,J]
    refine F6d _ _ _ _ _ _ (L9 a1 a2 a0 n) ih _ _ _ _ h _ ?_
    try simp only[h3,h4,h6,h7,C,E,F,G,H,J,I]
   ·try simp only[h3,h4,h6,C,E,F,G,H,J]
    cases h
    trivial
  ·try simp only[hσ,h3,B7t,C0p,C,E,F,G,H,J]
   cases h
   trivial
theorem F15:A5 Z 89=N (cc434.strip,[6,7],44):=by kernel_rfl
theorem B9p(a0:X9)(a1:P Xc)(a2:P X5)(r:(P Xg) × V)(h:A6o a0 a1 a2=N r):FC Z 89 [.ag (X9.row a0),.sc (.sl (Y zD a1)),.sc (.sl (Y X5.row a2))] [.sc (.o 4 (Y zC r.1)),.sc (.v (.bool r.2))]:=by
 unfold A6o at h
 refine C3 mixed F15 X ?_
 simp only[cc434,C,E,F,G,H,J]
 try simp only[C,E,F,G,H,J]
 refine B2 X X X ?_
 try simp only[C,E,F,G,H,J]
 refine D6 (es:=Y zC ([]:P Xg)) X X ?_
 try simp only[C,E,F,G,H,J]
 refine F8z _ _ _ _ _ _ _ h _ ?_
 try simp only[C,E,F,G,H,J,I]
/- 147:impl_DutiesOk -/
def C51:X2:= .seq (.reg [(O,.keep [8,9,10] [] [])]) (.seq (.reg [bn 11 .lss 10 9]) (.seq (.cond (S 11) .skip (.exit 0)) (.seq (.block 1 (.seq (.reg [ia 12 8 10 4,lw 13 12 4,(O,.alloc 4 [aI 0,aI 0,aI 0,aI 0]),so 4 13 4]) (.seq (.reg [fa 14 4 0,ld 15 14,(O,.bin 16 .lss (S 15) (K 0)),mv 17 16,(N (17,L),.faddr 18 (S 4) 0),(N (17,L),.load 19 (S 18) L 1),(N (17,L),.faddr 20 (S 4) 1),(N (17,L),.load 21 (S 20) L 1),(N (17,L),.bin 22 .geq (S 19) (S 21)),po 23 17 22,mv 24 23,(N (24,L),.faddr 25 (S 4) 1),(N (24,L),.load 26 (S 25) L 1),(N (24,L),.bin 27 .gtr (S 26) (K 2880)),po 28 24 27,mv 29 28,(N (29,L),.faddr 30 (S 4) 2),(N (29,L),.load 31 (S 30) L 1),(N (29,L),.call 32 50 [(S 31),(K 8)]),(N (29,L),.un 33 .not (S 32)),po 34 29 33,mv 35 34,(N (35,L),.faddr 36 (S 4) 3),(N (35,L),.load 37 (S 36) L 1),(N (35,L),.call 38 50 [(S 37),(K 8)]),(N (35,L),.un 39 .not (S 38)),po 40 35 39]) (.cond (S 40) (.seq (.reg [(O,.mv 2 (KB L))]) .ret) .skip)))) (.reg [(O,.bin 41 .add (S 10) (K 1)),mv 10 41]))))
def D31:X2:=(.seq (.reg [(O,.mv 2 (KB T))]) .ret)
def cc440:X2:=(.seq (.reg [(O,.mv 2 (KB L))]) (.seq (.seq (.reg [mv 5 0,ln 6 5,(O,.bin 7 .gtr (S 6) (K 12))]) (.cond (S 7) (.seq (.reg [(O,.mv 2 (KB L))]) .ret) .skip)) (.seq (.seq (.reg [mv 8 0,ln 9 8,(O,.mv 10 (K 0))]) (.block 0 (.loop C51))) D31)))
theorem F8x(a0:P Xg):∀(n:W) (v2:U) (r:V),Y8 a0 n v2=N r→∀σ:St,σ.kept [8,9,10] [] []=⟨[(8,vc (aL (Y zC a0))),(9,vc (aI (a0.length:U))),(10,vc (aI v2))],[],[]⟩→go Z (.code (.loop C51):: [.blk 0,.code D31]) (Ret [2] [.sc (.v (.bool r))]) .normal (N σ):=by
 intro n
 induction n with
 | zero=>intro _ r h; cases h
 | succ n ih=>
  intro v2 r h σ hσ
  rw[Y8] at h
  refine B5 ?_
  rcases ic h with ⟨h3,h⟩|⟨h3,h⟩
  ·obtain⟨x4,h4,h⟩:=ob h
   try simp only[hσ,h3,h4,C51,C,E,F,G,H,J]
   refine B7 X X ?_
   rcases ic h with ⟨h5,h⟩|⟨h5,h⟩
   ·try simp only[h3,h4,h5,C,E,F,G,H,J]
    cases h
    trivial
   ·rcases ic h with ⟨h6,h⟩|⟨h6,h⟩
    ·try simp only[h3,h4,h5,h6,C,E,F,G,H,J]
     cases h
     trivial
    ·rcases ic h with ⟨h7,h⟩|⟨h7,h⟩
     ·try simp only[h3,h4,h5,h6,h7,C,E,F,G,H,J]
      cases h
      trivial
     ·obtain⟨r9,h9,h⟩:=ob h
      try simp only[h3,h4,h5,h6,h7,C,E,F,G,H,J]
      refine A2 (E9 _ _ _ h9) X X (uf X) ?_
      rcases ic h with ⟨h10,h⟩|⟨h10,h⟩
      ·obtain⟨r11,h11,h⟩:=ob h
       try simp only[h3,h4,h5,h6,h7,h10,C,E,F,G,H,J]
       refine A2 (E9 _ _ _ h11) X X (uf X) ?_
       rcases ic h with ⟨h12,h⟩|⟨h12,h⟩
       ·try simp only[h3,h4,h5,h6,h7,h10,h12,C,E,F,G,H,J]
        refine ih _ _ h _ ?_
        try simp only[h3,h4,h5,h6,h7,h10,h12,C,E,F,G,H,J,I]
       ·try simp only[h3,h4,h5,h6,h7,h10,h12,C,E,F,G,H,J]
        cases h
        trivial
      ·try simp only[h3,h4,h5,h6,h7,h10,C,E,F,G,H,J]
       cases h
       trivial
  ·try simp only[hσ,h3,C51,D31,C,E,F,G,H,J]
   cases h
   trivial
theorem F9i:A5 Z 147=N (cc440.strip,[2],42):=by kernel_rfl
theorem A9e(a0:P Xg)(r:V)(h:A08 a0=N r):FC Z 147 [.sc (.sl (Y zC a0))] [.sc (.v (.bool r))]:=by
 unfold A08 at h
 refine C3 mixed F9i X ?_
 simp only[cc440,C,E,F,G,H,J]
 rcases ic h with ⟨h1,h⟩|⟨h1,h⟩
 ·try simp only[h1,C,E,F,G,H,J]
  cases h
  trivial
 ·try simp only[h1,C,E,F,G,H,J]
  refine F8x _ _ _ _ h _ ?_
  try simp only[h1,C,E,F,G,H,J,I]
/- 127:impl_coverable -/
def cc443:X2:=(.seq (.reg [(O,.mv 6 (KB L))]) (.seq (.reg [mv 7 2,ca 8 147 [S 7],mv 9 8,(N (9,T),.mv 10 (S 0)),(N (9,T),.call 11 25 [(S 10)]),pa 12 9 11,mv 13 12,(N (13,T),.mv 14 (S 1)),(N (13,T),.call 15 85 [(S 14)]),pa 16 13 15,mv 6 16]) .ret))
theorem F7p:A5 Z 127=N (cc443.strip,[6],17):=by kernel_rfl
theorem B8z(a0:U)(a1:P U)(a2:P Xg)(r:V)(h:A2e a0 a1 a2=N r):FC Z 127 [.sc (.int .i64 a0),.sc (.sl (Y rI a1)),.sc (.sl (Y zC a2))] [.sc (.v (.bool r))]:=by
 unfold A2e at h
 refine C3 mixed F7p X ?_
 simp only[cc443,C,E,F,G,H,J]
 obtain⟨r1,h1,h⟩:=ob h
 try simp only[C,E,F,G,H,J]
 refine A2 (A9e _ _ h1) X X (uf X) ?_
 rcases ic h with ⟨h2,h⟩|⟨h2,h⟩
 ·obtain⟨r3,h3,h⟩:=ob h
  try simp only[h2,C,E,F,G,H,J]
  refine A2 (O5 _ _ h3) X X (uf X) ?_
  rcases ic h with ⟨h4,h⟩|⟨h4,h⟩
  ·obtain⟨r5,h5,h⟩:=ob h
   try simp only[h2,h4,C,E,F,G,H,J]
   refine A2 (A9x _ _ h5) X X (uf X) ?_
   try simp only[h2,h4,C,E,F,G,H,J]
   cases h
   trivial
  ·try simp only[h2,h4,C,E,F,G,H,J]
   cases h
   trivial
 ·try simp only[h2,C,E,F,G,H,J]
  cases h
  trivial
/- 162:impl_Gap -/
def C45:X2:= .seq (.reg [(O,.keep [0,1,6,7,29] [6,7] [])]) (.cond (S 29) (.seq (.reg [(O,.mv 8 (K 0)),(O,.mv 9 (KB L))]) .ret) .skip)
def D3d:X2:=(.seq (.reg [mv 30 0,mv 31 1,fa 32 6 3,ld 33 32,(O,.bin 34 .mul (K 8) (S 33)),fa 35 7 2,ld 36 35,bn 37 .add 34 36,ia 38 31 37 1,ld 39 38,bn 40 .add 30 39,mv 8 40,(O,.mv 9 (KB T))]) .ret)
def cc447:X2:=(.seq (.reg [bo 6 2,bo 7 3,(O,.mv 8 (K 0)),(O,.mv 9 (KB L))]) (.seq (.seq (.reg [mv 10 0,ca 11 25 [S 10],nt 12 11,mv 13 12,(N (13,L),.mv 14 (S 1)),(N (13,L),.call 15 85 [(S 14)]),(N (13,L),.un 16 .not (S 15)),po 17 13 16,mv 18 17,(N (18,L),.faddr 19 (S 6) 3),(N (18,L),.load 20 (S 19) L 1),(N (18,L),.call 21 50 [(S 20),(K 8)]),(N (18,L),.un 22 .not (S 21)),po 23 18 22,mv 24 23,(N (24,L),.faddr 25 (S 7) 2),(N (24,L),.load 26 (S 25) L 1),(N (24,L),.call 27 50 [(S 26),(K 8)]),(N (24,L),.un 28 .not (S 27)),po 29 24 28]) C45) D3d))
theorem C69(a0:U)(a1:P U)(a2 a3:Xg)(v8:V)(r:U × V)(h:A36 a0 a1 a2 a3 v8=N r)(σ:St)(hσ:σ.kept [0,1,6,7,29] [6,7] []=⟨[(0,vc (aI a0)),(1,vc (aL (Y rI a1))),(6,vc (.pb 6 0)),(7,vc (.pb 7 0)),(29,vc (aB v8))],[(6,(dm a2.row)),(7,(dm a3.row))],[]⟩):go Z (.code C45:: [.code D3d]) (Ret [8,9] [.sc (.v (.int .i64 r.1)),.sc (.v (.bool r.2))]) .normal (N σ):=by
 unfold A36 at h
 rcases ic h with ⟨h9,h⟩|⟨h9,h⟩
 ·try simp only[hσ,h9,C45,C,E,F,G,H,J]
  cases h
  trivial
 ·obtain⟨x10,h10,h⟩:=ob h
  try simp only[hσ,h9,h10,C45,D3d,C,E,F,G,H,J]
  cases h
  trivial
theorem F7e:A5 Z 162=N (cc447.strip,[8,9],41):=by kernel_rfl
theorem D2w(a0:U)(a1:P U)(a2 a3:Xg)(r:U × V)(h:B03 a0 a1 a2 a3=N r):FC Z 162 [.sc (.int .i64 a0),.sc (.sl (Y rI a1)),.ag (zC a2),.ag (zC a3)] [.sc (.v (.int .i64 r.1)),.sc (.v (.bool r.2))]:=by
 unfold B03 at h
 refine C3 mixed F7e X ?_
 simp only[cc447,C,E,F,G,H,J]
 try simp only[C,E,F,G,H,J]
 refine B2 X X X ?_
 try simp only[C,E,F,G,H,J]
 refine B2 X X X ?_
 obtain⟨r1,h1,h⟩:=ob h
 try simp only[C,E,F,G,H,J]
 refine A2 (O5 _ _ h1) X X (uf X) ?_
 rcases ic h with ⟨h2,h⟩|⟨h2,h⟩
 ·obtain⟨r3,h3,h⟩:=ob h
  try simp only[h2,C,E,F,G,H,J]
  refine A2 (A9x _ _ h3) X X (uf X) ?_
  rcases ic h with ⟨h4,h⟩|⟨h4,h⟩
  ·obtain⟨r5,h5,h⟩:=ob h
   try simp only[h2,h4,C,E,F,G,H,J]
   refine A2 (E9 _ _ _ h5) X X (uf X) ?_
   rcases ic h with ⟨h6,h⟩|⟨h6,h⟩
   ·obtain⟨r7,h7,h⟩:=ob h
    try simp only[h2,h4,h6,C,E,F,G,H,J]
    refine A2 (E9 _ _ _ h7) X X (uf X) ?_
    try simp only[h2,h4,h6,C,E,F,G,H,J]
    refine C69 _ _ _ _ _ _ h _ ?_
    try simp only[h2,h4,h6,C,E,F,G,H,J,I]
   ·try simp only[h2,h4,h6,C,E,F,G,H,J]
    refine C69 _ _ _ _ _ _ h _ ?_
    try simp only[h2,h4,h6,C,E,F,G,H,J,I]
  ·try simp only[h2,h4,C,E,F,G,H,J]
   refine C69 _ _ _ _ _ _ h _ ?_
   try simp only[h2,h4,C,E,F,G,H,J,I]
 ·try simp only[h2,C,E,F,G,H,J]
  refine C69 _ _ _ _ _ _ h _ ?_
  try simp only[h2,C,E,F,G,H,J,I]
/- 148:impl_CanFollow -/
def cc450:X2:=(.seq (.reg [bo 6 2,bo 7 3,(O,.mv 8 (KB L))]) (.seq (.reg [mv 12 0,mv 13 1,lw 14 6 4,lw 15 7 4,ca 16 162 [S 12,S 13,S 14,S 15],mv 11 16,xt 17 11 0,xt 18 11 1,mv 9 17,mv 10 18]) (.seq (.reg [mv 19 10,mv 20 19,(N (20,T),.load 21 (S 6) T 4),(N (20,T),.bslice 22 4 [.int .i64 0,.int .i64 0,.int .i64 0,.int .i64 0] 1 [(0,(S 21))]),(N (20,T),.call 23 147 [(S 22)]),pa 24 20 23,mv 25 24,(N (25,T),.load 26 (S 7) T 4),(N (25,T),.bslice 27 4 [.int .i64 0,.int .i64 0,.int .i64 0,.int .i64 0] 1 [(0,(S 26))]),(N (25,T),.call 28 147 [(S 27)]),pa 29 25 28,mv 30 29,(N (30,T),.faddr 31 (S 6) 1),(N (30,T),.load 32 (S 31) L 1),(N (30,T),.mv 33 (S 9)),(N (30,T),.bin 34 .add (S 32) (S 33)),(N (30,T),.faddr 35 (S 7) 0),(N (30,T),.load 36 (S 35) L 1),(N (30,T),.bin 37 .leq (S 34) (S 36)),pa 38 30 37,mv 8 38]) .ret)))
theorem F9d:A5 Z 148=N (cc450.strip,[8],39):=by kernel_rfl
theorem B13(a0:U)(a1:P U)(a2 a3:Xg)(r:V)(h:A2h a0 a1 a2 a3=N r):FC Z 148 [.sc (.int .i64 a0),.sc (.sl (Y rI a1)),.ag (zC a2),.ag (zC a3)] [.sc (.v (.bool r))]:=by
 unfold A2h at h
 refine C3 mixed F9d X ?_
 simp only[cc450,C,E,F,G,H,J]
 try simp only[C,E,F,G,H,J]
 refine B2 X X X ?_
 try simp only[C,E,F,G,H,J]
 refine B2 X X X ?_
 obtain⟨r1,h1,h⟩:=ob h
 try simp only[C,E,F,G,H,J]
 refine A2 (D2w _ _ _ _ _ h1) X X (uf X) ?_
 rcases ic h with ⟨h2,h⟩|⟨h2,h⟩
 ·try simp only[h2,C,E,F,G,H,J]
  refine D6 (es:=Y zC ([a2]:P Xg)) X X ?_
  obtain⟨r3,h3,h⟩:=ob h
  try simp only[h2,C,E,F,G,H,J]
  refine P4 (A9e _ _ h3) X (N9 X) X (uf X) ?_
  rcases ic h with ⟨h4,h⟩|⟨h4,h⟩
  ·try simp only[h2,h4,C,E,F,G,H,J]
   refine D6 (es:=Y zC ([a3]:P Xg)) X X ?_
   obtain⟨r5,h5,h⟩:=ob h
   try simp only[h2,h4,C,E,F,G,H,J]
   refine P4 (A9e _ _ h5) X (N9 X) X (uf X) ?_
   rcases ic h with ⟨h6,h⟩|⟨h6,h⟩
   ·try simp only[h2,h4,h6,C,E,F,G,H,J]
    cases h
    trivial
   ·try simp only[h2,h4,h6,C,E,F,G,H,J]
    cases h
    trivial
  ·try simp only[h2,h4,C,E,F,G,H,J]
   cases h
   trivial
 ·try simp only[h2,C,E,F,G,H,J]
  cases h
  trivial
/- 128:impl_partners -/
def C5z:X2:= .seq (.reg [(O,.keep [0,1,2,7,8,9,10,15,16,17,22,23,24,45] [9] [896])]) (.cond (S 45) (.drw [o0 (mv 46 7),o0 (mv 47 8),o0 (ia 48 46 47 1),o0 (ld 49 48),o0 (mv 50 10),o0 (O,.bin 51 .shl (.c (.v (.sc (.dat (.int .u64 1))))) (S 50)),o0 (bn 52 .or 49 51),o0 (ia 53 46 47 1),(O,so 53 52 1)]) .skip)
def C7c:X2:=(.reg [(O,.bin 54 .add (S 24) (K 1)),mv 24 54])
def B7a:X2:= .seq (.reg [(O,.keep [0,1,2,7,8,9,15,16,17,22,23,24] [9] [896])]) (.seq (.reg [bn 25 .lss 24 23]) (.seq (.cond (S 25) .skip (.exit 2)) (.seq (.block 3 (.seq (.reg [mv 26 24,ia 27 22 24 4,lw 28 27 4,(O,.alloc 11 [aI 0,aI 0,aI 0,aI 0]),mv 10 26,so 11 28 4]) (.seq (.reg [mv 29 8,mv 30 10,bn 31 .neq 29 30,mv 32 31,(N (32,T),.mv 33 (S 0)),(N (32,T),.mv 34 (S 1)),(N (32,T),.load 35 (S 9) T 4),(N (32,T),.load 36 (S 11) T 4),(N (32,T),.call 37 148 [(S 33),(S 34),(S 35),(S 36)]),(N (32,T),.mv 38 (S 37)),(N (38,L),.mv 39 (S 0)),(N (38,L),.mv 40 (S 1)),(N (38,L),.load 41 (S 11) T 4),(N (38,L),.load 42 (S 9) T 4),(N (38,L),.call 43 148 [(S 39),(S 40),(S 41),(S 42)]),(N (32,T),.pick 44 (S 38) (KB T) (S 43)),pa 45 32 44]) C5z))) C7c)))
def C1i:X2:=(.reg [(O,.bin 55 .add (S 17) (K 1)),mv 17 55])
def B2r:X2:= .seq (.reg [(O,.keep [0,1,2,7,15,16,17] [] [896])]) (.seq (.reg [bn 18 .lss 17 16]) (.seq (.cond (S 18) .skip (.exit 0)) (.seq (.block 1 (.seq (.reg [mv 19 17,ia 20 15 17 4,lw 21 20 4,(O,.alloc 9 [aI 0,aI 0,aI 0,aI 0]),mv 8 19,so 9 21 4]) (.seq (.reg [mv 22 2,ln 23 22,(O,.mv 24 (K 0))]) (.block 2 (.loop B7a))))) C1i)))
def B4l:X2:=(.seq (.reg [mv 56 7,mv 6 56]) .ret)
def cc458:X2:=(.seq (.reg [(O,.mv 6 KN)]) (.seq (.reg [mv 12 2,ln 13 12,(O,.mksl 14 1 8 [.int .u64 0] (S 13) (S 13)),mv 7 14]) (.seq (.seq (.reg [mv 15 2,ln 16 15,(O,.mv 17 (K 0))]) (.block 0 (.loop B2r))) B4l)))
theorem D4o(a0:U)(a1:P U)(a2:P Xg)(v2 v6:U)(x5:Xg)(v7:P U)(A3e:U→(P U)→Q (P U))(B0q:∀(v6:U) (v7:P U) zr,A3e v6 v7=N zr→∀σ:St,σ.kept [0,1,2,7,8,9,15,16,17,22,23,24] [9] [896]=⟨[(0,vc (aI a0)),(1,vc (aL (Y rI a1))),(2,vc (aL (Y zC a2))),(7,vc (.own 896)),(8,vc (aI v2)),(9,vc (.pb 9 0)),(15,vc (aL (Y zC a2))),(16,vc (aI (a2.length:U))),(17,vc (aI v2)),(22,vc (aL (Y zC a2))),(23,vc (aI (a2.length:U))),(24,vc (aI v6))],[(9,(dm x5.row))],[(896,1,Y rU v7)]⟩→go Z (.code (.loop B7a):: [.blk 2,.blk 1,.code C1i,.code (.loop B2r),.blk 0,.code B4l]) (Ret [6] [.sc (.o 1 (Y rU zr))]) .normal (N σ))(v14:V)(r:(P U))(h:Z4 a0 a1 a2 v2 v6 x5 v7 A3e v14=N r)(σ:St)(hσ:σ.kept [0,1,2,7,8,9,10,15,16,17,22,23,24,45] [9] [896]=⟨[(0,vc (aI a0)),(1,vc (aL (Y rI a1))),(2,vc (aL (Y zC a2))),(7,vc (.own 896)),(8,vc (aI v2)),(9,vc (.pb 9 0)),(10,vc (aI v6)),(15,vc (aL (Y zC a2))),(16,vc (aI (a2.length:U))),(17,vc (aI v2)),(22,vc (aL (Y zC a2))),(23,vc (aI (a2.length:U))),(24,vc (aI v6)),(45,vc (aB v14))],[(9,(dm x5.row))],[(896,1,Y rU v7)]⟩):go Z (.code C5z:: [.blk 3,.code C7c,.code (.loop B7a),.blk 2,.blk 1,.code C1i,.code (.loop B2r),.blk 0,.code B4l]) (Ret [6] [.sc (.o 1 (Y rU r))]) .normal (N σ):=by
 unfold Z4 at h
 rcases ic h with ⟨h15,h⟩|⟨h15,h⟩
 ·try simp only[hσ,h15,C5z,C,E,F,G,H,J]
  refine B3 X ?_
  obtain⟨x16,h16,h⟩:=ob h
  have h16n:=M2 h16
  obtain⟨h17,h⟩:=A1u h
  try simp only[h15,h16,h16n,h17,C,E,F,G,H,J]
  refine A5j (row:=rU) (y:=(K6 .or .u64 x16 (A1v .u64 (1:U) v6))) X X h16n X X (by rfl) ?_
  try simp only[h15,h16,h16n,h17,C,E,F,G,H,J]
  refine B3 X ?_
  try simp only[h15,h16,h16n,h17,C7c,C,E,F,G,H,J]
  refine B0q _ _ _ h _ ?_
  try simp only[h15,h16,h16n,h17,C,E,F,G,H,J,I]
 ·try simp only[hσ,h15,C5z,C7c,C,E,F,G,H,J]
  refine B0q _ _ _ h _ ?_
  try simp only[h15,C,E,F,G,H,J,I]
theorem F8f(a0:U)(a1:P U)(a2:P Xg)(v2:U)(x5:Xg)(N4:U→(P U)→Q (P U))(B6g:∀(v2:U) (v3:P U) zr,N4 v2 v3=N zr→∀σ:St,σ.kept [0,1,2,7,15,16,17] [] [896]=⟨[(0,vc (aI a0)),(1,vc (aL (Y rI a1))),(2,vc (aL (Y zC a2))),(7,vc (.own 896)),(15,vc (aL (Y zC a2))),(16,vc (aI (a2.length:U))),(17,vc (aI v2))],[],[(896,1,Y rU v3)]⟩→go Z (.code (.loop B2r):: [.blk 0,.code B4l]) (Ret [6] [.sc (.o 1 (Y rU zr))]) .normal (N σ)):∀(n:W) (v6:U) (v7:P U) (r:(P U)),H0 a0 a1 a2 v2 x5 N4 n v6 v7=N r→∀σ:St,σ.kept [0,1,2,7,8,9,15,16,17,22,23,24] [9] [896]=⟨[(0,vc (aI a0)),(1,vc (aL (Y rI a1))),(2,vc (aL (Y zC a2))),(7,vc (.own 896)),(8,vc (aI v2)),(9,vc (.pb 9 0)),(15,vc (aL (Y zC a2))),(16,vc (aI (a2.length:U))),(17,vc (aI v2)),(22,vc (aL (Y zC a2))),(23,vc (aI (a2.length:U))),(24,vc (aI v6))],[(9,(dm x5.row))],[(896,1,Y rU v7)]⟩→go Z (.code (.loop B7a):: [.blk 2,.blk 1,.code C1i,.code (.loop B2r),.blk 0,.code B4l]) (Ret [6] [.sc (.o 1 (Y rU r))]) .normal (N σ):=by
 intro n
 induction n with
 | zero=>intro _ _ r h; cases h
 | succ n ih=>
  intro v6 v7 r h σ hσ
  rw[H0] at h
  refine B5 ?_
  rcases ic h with ⟨h8,h⟩|⟨h8,h⟩
  ·obtain⟨x9,h9,h⟩:=ob h
   try simp only[hσ,h8,h9,B7a,C,E,F,G,H,J]
   refine B7 X X ?_
   rcases ic h with ⟨h10,h⟩|⟨h10,h⟩
   ·obtain⟨r11,h11,h⟩:=ob h
    try simp only[h8,h9,h10,C,E,F,G,H,J]
    refine A2 (B13 _ _ _ _ _ h11) X X (uf X) ?_
    rcases ic h with ⟨h12,h⟩|⟨h12,h⟩
    ·try simp only[h8,h9,h10,h12,C,E,F,G,H,J]
     refine D4o _ _ _ _ _ _ _ (H0 a0 a1 a2 v2 x5 N4 n) ih _ _ h _ ?_
     try simp only[h8,h9,h10,h12,C,E,F,G,H,J,I]
    ·obtain⟨r13,h13,h⟩:=ob h
     try simp only[h8,h9,h10,h12,C,E,F,G,H,J]
     refine A2 (B13 _ _ _ _ _ h13) X X (uf X) ?_
     try simp only[h8,h9,h10,h12,C,E,F,G,H,J]
     refine D4o _ _ _ _ _ _ _ (H0 a0 a1 a2 v2 x5 N4 n) ih _ _ h _ ?_
     try simp only[h8,h9,h10,h12,C,E,F,G,H,J,I]
   ·try simp only[h8,h9,h10,C,E,F,G,H,J]
    refine D4o _ _ _ _ _ _ _ (H0 a0 a1 a2 v2 x5 N4 n) ih _ _ h _ ?_
    try simp only[h8,h9,h10,C,E,F,G,H,J,I]
  ·try simp only[hσ,h8,B7a,C1i,C,E,F,G,H,J]
   refine B6g _ _ _ h _ ?_
   try simp only[h8,C,E,F,G,H,J,I]
theorem F7n(a0:U)(a1:P U)(a2:P Xg):∀(n:W) (v2:U) (v3:P U) (r:(P U)),N3 a0 a1 a2 n v2 v3=N r→∀σ:St,σ.kept [0,1,2,7,15,16,17] [] [896]=⟨[(0,vc (aI a0)),(1,vc (aL (Y rI a1))),(2,vc (aL (Y zC a2))),(7,vc (.own 896)),(15,vc (aL (Y zC a2))),(16,vc (aI (a2.length:U))),(17,vc (aI v2))],[],[(896,1,Y rU v3)]⟩→go Z (.code (.loop B2r):: [.blk 0,.code B4l]) (Ret [6] [.sc (.o 1 (Y rU r))]) .normal (N σ):=by
 intro n
 induction n with
 | zero=>intro _ _ r h; cases h
 | succ n ih=>
  intro v2 v3 r h σ hσ
  rw[N3] at h
  refine B5 ?_
  rcases ic h with ⟨h4,h⟩|⟨h4,h⟩
  ·obtain⟨x5,h5,h⟩:=ob h
   try simp only[hσ,h4,h5,B2r,C,E,F,G,H,J]
   refine B7 X X ?_
   try simp only[h4,h5,C,E,F,G,H,J]
   refine F8f _ _ _ _ _ (N3 a0 a1 a2 n) ih _ _ _ _ h _ ?_
   try simp only[h4,h5,C,E,F,G,H,J,I]
  ·try simp only[hσ,h4,B2r,B4l,C,E,F,G,H,J]
   cases h
   trivial
theorem F6c:A5 Z 128=N (cc458.strip,[6],57):=by kernel_rfl
theorem B97(a0:U)(a1:P U)(a2:P Xg)(r:(P U))(h:A5e a0 a1 a2=N r):FC Z 128 [.sc (.int .i64 a0),.sc (.sl (Y rI a1)),.sc (.sl (Y zC a2))] [.sc (.o 1 (Y rU r))]:=by
 unfold A5e at h
 refine C3 mixed F6c X ?_
 simp only[cc458,C,E,F,G,H,J]
 obtain⟨n1,hn1,h⟩:=ob h
 try simp only[C,E,F,G,H,J]
 refine A7l (es:=Y rU (zG n1 (0:U))) X X hn1 X (A54 X) X ?_
 try simp only[C,E,F,G,H,J]
 refine F7n _ _ _ _ _ _ _ h _ ?_
 try simp only[C,E,F,G,H,J,I]
end Go.Vi
