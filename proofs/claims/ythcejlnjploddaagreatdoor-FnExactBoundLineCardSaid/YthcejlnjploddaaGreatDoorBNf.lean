/-
Plain definitions of functions. No condition.
-/
import Derived.Test.YthcejlnjploddaaGreatDoorBVi42
import Derived.Test.YthcejlnjploddaaGreatDoorBLa
namespace Go.Vi
set_option linter.all false
open List renaming map → zB, replicate → zG, not_mem_nil → zH, mem_cons → zJ, all_cons → zK, all_nil → zL
open Nat renaming le_of_ble_eq_true → zC
open Int renaming toNat → zD, tdiv → zE, tmod → zI
open And renaming intro → zF
open IntKind renaming wrap → zM
open Bool renaming true → F, false → E
open Option renaming some → O, none → U
open _root_ renaming List → V, Option → W, Int → X, Bool → Y, Nat → Z, UInt8 → zA
def Cq(k:IntKind)(x:X)(n:Z):X:=k.wrap (x.fdiv (2 ^ min n k.bits))
theorem iq{k:IntKind}{x:X}:Cw .shr (.v (.sc (.dat (.int k x)))) (.v (.sc (.dat (.int .u64 8))))=O (.v (.sc (.dat (.int k (Cq k x 8))))):=by simp[Cw,AQ,Cq]
theorem tC{k:IntKind}{x:X}:AQ .shr k x 8=O (.int k (Cq k x 8)):=by simp[AQ,Cq]
theorem io{k:IntKind}{x:X}:Cw .shr (.v (.sc (.dat (.int k x)))) (.v (.sc (.dat (.int .u64 16))))=O (.v (.sc (.dat (.int k (Cq k x 16))))):=by simp[Cw,AQ,Cq]
theorem tA{k:IntKind}{x:X}:AQ .shr k x 16=O (.int k (Cq k x 16)):=by simp[AQ,Cq]
theorem ip{k:IntKind}{x:X}:Cw .shr (.v (.sc (.dat (.int k x)))) (.v (.sc (.dat (.int .u64 32))))=O (.v (.sc (.dat (.int k (Cq k x 32))))):=by simp[Cw,AQ,Cq]
theorem tB{k:IntKind}{x:X}:AQ .shr k x 32=O (.int k (Cq k x 32)):=by simp[AQ,Cq]
structure Xo where
 isS:Y
 s:V zA
 n:X
 deriving DecidableEq
def Pv(x:Xo):D:= .ifc (bif x.isS then 9 else 3) (bif x.isS then .str x.s else .int .i64 x.n)
theorem gt{t:TypeId}{zc:AC}{x:Xo}:H7 t zc (.v (.sc (.dat (Pv x))))=H7 t zc (.v (.sc (.dat (.ifc (bif x.isS then 9 else 3) (bif x.isS then .str x.s else .int .i64 x.n))))):=rfl
def rA(x:Xo):V D:= [Pv x]
theorem wG(x:Xo):rA x= [Pv x]:=rfl
instance:Row rA 1:=⟨fun _=>rfl,zC rfl⟩
structure Xc where
 Amp:X
 Period:X
 Phase:X
 deriving DecidableEq
def Xc.row(x:Xc):V D:= [.int .i64 x.Amp,.int .i64 x.Period,.int .i64 x.Phase]
theorem Xc.row_eq(x:Xc):Xc.row x= [.int .i64 x.Amp,.int .i64 x.Period,.int .i64 x.Phase]:=rfl
instance:Row Xc.row 3:=⟨fun _=>rfl,zC rfl⟩
instance:FlatRow Xc.row:=⟨fun x d hd=>by simp only[Xc.row_eq,zJ,zH,or_false] at hd; rcases hd with rfl | rfl | rfl<;>rfl⟩
instance:OfTy (.st [(.int .i64),(.int .i64),(.int .i64)]) Xc.row:=⟨fun ds h=>by
 obtain⟨a0,b0,h0,t0,rfl⟩:=h;obtain⟨a1,b1,h1,t1,rfl⟩:=t0;obtain⟨a2,b2,h2,t2,rfl⟩:=t1;obtain rfl:=t2;obtain⟨x0,rfl⟩:=OfTy.of (row:=rI) _ h0;obtain⟨x1,rfl⟩:=OfTy.of (row:=rI) _ h1;obtain⟨x2,rfl⟩:=OfTy.of (row:=rI) _ h2;exact⟨⟨x0,x1,x2⟩,rfl⟩⟩
structure Xl where
 Mean:X
 Parts:V Xc
 deriving DecidableEq
def Xl.row(x:Xl):V D:= [.int .i64 x.Mean,.sl (zB Xc.row x.Parts)]
theorem Xl.row_eq(x:Xl):Xl.row x= [.int .i64 x.Mean,.sl (zB Xc.row x.Parts)]:=rfl
instance:Row Xl.row 2:=⟨fun _=>rfl,zC rfl⟩
instance:OfTy (.st [(.int .i64),(.sl (.st [(.int .i64),(.int .i64),(.int .i64)]))]) Xl.row:=⟨fun ds h=>by
 obtain⟨a0,b0,h0,t0,rfl⟩:=h;obtain⟨a1,b1,h1,t1,rfl⟩:=t0;obtain rfl:=t1;obtain⟨x0,rfl⟩:=OfTy.of (row:=rI) _ h0;obtain⟨x1,rfl⟩:=OfTy.of (row:=(rL Xc.row)) _ h1;exact⟨⟨x0,x1⟩,rfl⟩⟩
structure X9 where
 From:X
 Low:X
 High:X
 deriving DecidableEq
def X9.row(x:X9):V D:= [.int .i64 x.From,.int .i64 x.Low,.int .i64 x.High]
theorem X9.row_eq(x:X9):X9.row x= [.int .i64 x.From,.int .i64 x.Low,.int .i64 x.High]:=rfl
instance:Row X9.row 3:=⟨fun _=>rfl,zC rfl⟩
instance:FlatRow X9.row:=⟨fun x d hd=>by simp only[X9.row_eq,zJ,zH,or_false] at hd; rcases hd with rfl | rfl | rfl<;>rfl⟩
instance:OfTy (.st [(.int .i64),(.int .i64),(.int .i64)]) X9.row:=⟨fun ds h=>by
 obtain⟨a0,b0,h0,t0,rfl⟩:=h;obtain⟨a1,b1,h1,t1,rfl⟩:=t0;obtain⟨a2,b2,h2,t2,rfl⟩:=t1;obtain rfl:=t2;obtain⟨x0,rfl⟩:=OfTy.of (row:=rI) _ h0;obtain⟨x1,rfl⟩:=OfTy.of (row:=rI) _ h1;obtain⟨x2,rfl⟩:=OfTy.of (row:=rI) _ h2;exact⟨⟨x0,x1,x2⟩,rfl⟩⟩
structure Xd where
 Tide:Xl
 Surges:V X9
 deriving DecidableEq
def Xd.row(x:Xd):V D:= [.int .i64 x.Tide.Mean,.sl (zB Xc.row x.Tide.Parts),.sl (zB X9.row x.Surges)]
theorem Xd.row_eq(x:Xd):Xd.row x= [.int .i64 x.Tide.Mean,.sl (zB Xc.row x.Tide.Parts),.sl (zB X9.row x.Surges)]:=rfl
instance:Row Xd.row 3:=⟨fun _=>rfl,zC rfl⟩
instance:OfTy (.st [(.st [(.int .i64),(.sl (.st [(.int .i64),(.int .i64),(.int .i64)]))]),(.sl (.st [(.int .i64),(.int .i64),(.int .i64)]))]) Xd.row:=⟨fun ds h=>by
 obtain⟨a0,b0,h0,t0,rfl⟩:=h;obtain⟨a1,b1,h1,t1,rfl⟩:=t0;obtain rfl:=t1;obtain⟨x0,rfl⟩:=OfTy.of (row:=Xl.row) _ h0;obtain⟨x1,rfl⟩:=OfTy.of (row:=(rL X9.row)) _ h1;exact⟨⟨x0,x1⟩,rfl⟩⟩
structure X7 where
 Name:V zA
 Wait:Y
 deriving DecidableEq
def X7.row(x:X7):V D:= [.str x.Name,.bool x.Wait]
theorem X7.row_eq(x:X7):X7.row x= [.str x.Name,.bool x.Wait]:=rfl
instance:Row X7.row 2:=⟨fun _=>rfl,zC rfl⟩
instance:FlatRow X7.row:=⟨fun x d hd=>by simp only[X7.row_eq,zJ,zH,or_false] at hd; rcases hd with rfl | rfl<;>rfl⟩
instance:OfTy (.st [.str,.bool]) X7.row:=⟨fun ds h=>by
 obtain⟨a0,b0,h0,t0,rfl⟩:=h;obtain⟨a1,b1,h1,t1,rfl⟩:=t0;obtain rfl:=t1;obtain⟨x0,rfl⟩:=OfTy.of (row:=rS) _ h0;obtain⟨x1,rfl⟩:=OfTy.of (row:=rB) _ h1;exact⟨⟨x0,x1⟩,rfl⟩⟩
structure X2 where
 A:X
 B:X
 Depth:X
 Minutes:X
 Meet:Y
 deriving DecidableEq
def X2.row(x:X2):V D:= [.int .i64 x.A,.int .i64 x.B,.int .i64 x.Depth,.int .i64 x.Minutes,.bool x.Meet]
theorem X2.row_eq(x:X2):X2.row x= [.int .i64 x.A,.int .i64 x.B,.int .i64 x.Depth,.int .i64 x.Minutes,.bool x.Meet]:=rfl
instance:Row X2.row 5:=⟨fun _=>rfl,zC rfl⟩
instance:FlatRow X2.row:=⟨fun x d hd=>by simp only[X2.row_eq,zJ,zH,or_false] at hd; rcases hd with rfl | rfl | rfl | rfl | rfl<;>rfl⟩
instance:OfTy (.st [(.int .i64),(.int .i64),(.int .i64),(.int .i64),.bool]) X2.row:=⟨fun ds h=>by
 obtain⟨a0,b0,h0,t0,rfl⟩:=h;obtain⟨a1,b1,h1,t1,rfl⟩:=t0;obtain⟨a2,b2,h2,t2,rfl⟩:=t1;obtain⟨a3,b3,h3,t3,rfl⟩:=t2;obtain⟨a4,b4,h4,t4,rfl⟩:=t3;obtain rfl:=t4;obtain⟨x0,rfl⟩:=OfTy.of (row:=rI) _ h0;obtain⟨x1,rfl⟩:=OfTy.of (row:=rI) _ h1;obtain⟨x2,rfl⟩:=OfTy.of (row:=rI) _ h2;obtain⟨x3,rfl⟩:=OfTy.of (row:=rI) _ h3;obtain⟨x4,rfl⟩:=OfTy.of (row:=rB) _ h4;exact⟨⟨x0,x1,x2,x3,x4⟩,rfl⟩⟩
structure X1 where
 Points:V X7
 Segments:V X2
 deriving DecidableEq
def X1.row(x:X1):V D:= [.sl (zB X7.row x.Points),.sl (zB X2.row x.Segments)]
theorem X1.row_eq(x:X1):X1.row x= [.sl (zB X7.row x.Points),.sl (zB X2.row x.Segments)]:=rfl
instance:Row X1.row 2:=⟨fun _=>rfl,zC rfl⟩
instance:OfTy (.st [(.sl (.st [.str,.bool])),(.sl (.st [(.int .i64),(.int .i64),(.int .i64),(.int .i64),.bool]))]) X1.row:=⟨fun ds h=>by
 obtain⟨a0,b0,h0,t0,rfl⟩:=h;obtain⟨a1,b1,h1,t1,rfl⟩:=t0;obtain rfl:=t1;obtain⟨x0,rfl⟩:=OfTy.of (row:=(rL X7.row)) _ h0;obtain⟨x1,rfl⟩:=OfTy.of (row:=(rL X2.row)) _ h1;exact⟨⟨x0,x1⟩,rfl⟩⟩
structure X6 where
 Name:V zA
 Length:X
 Draught:X
 Line:X
 Tugs:X
 Slow:Y
 deriving DecidableEq
def X6.row(x:X6):V D:= [.str x.Name,.int .i64 x.Length,.int .i64 x.Draught,.int .i64 x.Line,.int .i64 x.Tugs,.bool x.Slow]
theorem X6.row_eq(x:X6):X6.row x= [.str x.Name,.int .i64 x.Length,.int .i64 x.Draught,.int .i64 x.Line,.int .i64 x.Tugs,.bool x.Slow]:=rfl
instance:Row X6.row 6:=⟨fun _=>rfl,zC rfl⟩
instance:FlatRow X6.row:=⟨fun x d hd=>by simp only[X6.row_eq,zJ,zH,or_false] at hd; rcases hd with rfl | rfl | rfl | rfl | rfl | rfl<;>rfl⟩
instance:OfTy (.st [.str,(.int .i64),(.int .i64),(.int .i64),(.int .i64),.bool]) X6.row:=⟨fun ds h=>by
 obtain⟨a0,b0,h0,t0,rfl⟩:=h;obtain⟨a1,b1,h1,t1,rfl⟩:=t0;obtain⟨a2,b2,h2,t2,rfl⟩:=t1;obtain⟨a3,b3,h3,t3,rfl⟩:=t2;obtain⟨a4,b4,h4,t4,rfl⟩:=t3;obtain⟨a5,b5,h5,t5,rfl⟩:=t4;obtain rfl:=t5;obtain⟨x0,rfl⟩:=OfTy.of (row:=rS) _ h0;obtain⟨x1,rfl⟩:=OfTy.of (row:=rI) _ h1;obtain⟨x2,rfl⟩:=OfTy.of (row:=rI) _ h2;obtain⟨x3,rfl⟩:=OfTy.of (row:=rI) _ h3;obtain⟨x4,rfl⟩:=OfTy.of (row:=rI) _ h4;obtain⟨x5,rfl⟩:=OfTy.of (row:=rB) _ h5;exact⟨⟨x0,x1,x2,x3,x4,x5⟩,rfl⟩⟩
structure Xh where
 Gap:X
 NoMeet:Y
 deriving DecidableEq
def Xh.row(x:Xh):V D:= [.int .i64 x.Gap,.bool x.NoMeet]
theorem Xh.row_eq(x:Xh):Xh.row x= [.int .i64 x.Gap,.bool x.NoMeet]:=rfl
instance:Row Xh.row 2:=⟨fun _=>rfl,zC rfl⟩
instance:FlatRow Xh.row:=⟨fun x d hd=>by simp only[Xh.row_eq,zJ,zH,or_false] at hd; rcases hd with rfl | rfl<;>rfl⟩
instance:OfTy (.st [(.int .i64),.bool]) Xh.row:=⟨fun ds h=>by
 obtain⟨a0,b0,h0,t0,rfl⟩:=h;obtain⟨a1,b1,h1,t1,rfl⟩:=t0;obtain rfl:=t1;obtain⟨x0,rfl⟩:=OfTy.of (row:=rI) _ h0;obtain⟨x1,rfl⟩:=OfTy.of (row:=rB) _ h1;exact⟨⟨x0,x1⟩,rfl⟩⟩
structure Xm where
 Tugs:X
 Pilots:X
 Rest:X
 Moves:V X
 deriving DecidableEq
def Xm.row(x:Xm):V D:= [.int .i64 x.Tugs,.int .i64 x.Pilots,.int .i64 x.Rest,.sl (zB rI x.Moves)]
theorem Xm.row_eq(x:Xm):Xm.row x= [.int .i64 x.Tugs,.int .i64 x.Pilots,.int .i64 x.Rest,.sl (zB rI x.Moves)]:=rfl
instance:Row Xm.row 4:=⟨fun _=>rfl,zC rfl⟩
instance:OfTy (.st [(.int .i64),(.int .i64),(.int .i64),(.sl (.int .i64))]) Xm.row:=⟨fun ds h=>by
 obtain⟨a0,b0,h0,t0,rfl⟩:=h;obtain⟨a1,b1,h1,t1,rfl⟩:=t0;obtain⟨a2,b2,h2,t2,rfl⟩:=t1;obtain⟨a3,b3,h3,t3,rfl⟩:=t2;obtain rfl:=t3;obtain⟨x0,rfl⟩:=OfTy.of (row:=rI) _ h0;obtain⟨x1,rfl⟩:=OfTy.of (row:=rI) _ h1;obtain⟨x2,rfl⟩:=OfTy.of (row:=rI) _ h2;obtain⟨x3,rfl⟩:=OfTy.of (row:=(rL rI)) _ h3;exact⟨⟨x0,x1,x2,x3⟩,rfl⟩⟩
structure X4 where
 Forecast:Xd
 Chart:X1
 Fleet:V X6
 Regime:Xh
 Crew:Xm
 deriving DecidableEq
def X4.row(x:X4):V D:= [.int .i64 x.Forecast.Tide.Mean,.sl (zB Xc.row x.Forecast.Tide.Parts),.sl (zB X9.row x.Forecast.Surges),.sl (zB X7.row x.Chart.Points),.sl (zB X2.row x.Chart.Segments),.sl (zB X6.row x.Fleet),.int .i64 x.Regime.Gap,.bool x.Regime.NoMeet,.int .i64 x.Crew.Tugs,.int .i64 x.Crew.Pilots,.int .i64 x.Crew.Rest,.sl (zB rI x.Crew.Moves)]
theorem X4.row_eq(x:X4):X4.row x= [.int .i64 x.Forecast.Tide.Mean,.sl (zB Xc.row x.Forecast.Tide.Parts),.sl (zB X9.row x.Forecast.Surges),.sl (zB X7.row x.Chart.Points),.sl (zB X2.row x.Chart.Segments),.sl (zB X6.row x.Fleet),.int .i64 x.Regime.Gap,.bool x.Regime.NoMeet,.int .i64 x.Crew.Tugs,.int .i64 x.Crew.Pilots,.int .i64 x.Crew.Rest,.sl (zB rI x.Crew.Moves)]:=rfl
instance:Row X4.row 12:=⟨fun _=>rfl,zC rfl⟩
instance:OfTy (.st [(.st [(.st [(.int .i64),(.sl (.st [(.int .i64),(.int .i64),(.int .i64)]))]),(.sl (.st [(.int .i64),(.int .i64),(.int .i64)]))]),(.st [(.sl (.st [.str,.bool])),(.sl (.st [(.int .i64),(.int .i64),(.int .i64),(.int .i64),.bool]))]),(.sl (.st [.str,(.int .i64),(.int .i64),(.int .i64),(.int .i64),.bool])),(.st [(.int .i64),.bool]),(.st [(.int .i64),(.int .i64),(.int .i64),(.sl (.int .i64))])]) X4.row:=⟨fun ds h=>by
 obtain⟨a0,b0,h0,t0,rfl⟩:=h;obtain⟨a1,b1,h1,t1,rfl⟩:=t0;obtain⟨a2,b2,h2,t2,rfl⟩:=t1;obtain⟨a3,b3,h3,t3,rfl⟩:=t2;obtain⟨a4,b4,h4,t4,rfl⟩:=t3;obtain rfl:=t4;obtain⟨x0,rfl⟩:=OfTy.of (row:=Xd.row) _ h0;obtain⟨x1,rfl⟩:=OfTy.of (row:=X1.row) _ h1;obtain⟨x2,rfl⟩:=OfTy.of (row:=(rL X6.row)) _ h2;obtain⟨x3,rfl⟩:=OfTy.of (row:=Xh.row) _ h3;obtain⟨x4,rfl⟩:=OfTy.of (row:=Xm.row) _ h4;exact⟨⟨x0,x1,x2,x3,x4⟩,rfl⟩⟩
structure Xb where
 Ship:X
 From:X
 To:X
 Ready:X
 Due:X
 deriving DecidableEq
def Xb.row(x:Xb):V D:= [.int .i64 x.Ship,.int .i64 x.From,.int .i64 x.To,.int .i64 x.Ready,.int .i64 x.Due]
theorem Xb.row_eq(x:Xb):Xb.row x= [.int .i64 x.Ship,.int .i64 x.From,.int .i64 x.To,.int .i64 x.Ready,.int .i64 x.Due]:=rfl
instance:Row Xb.row 5:=⟨fun _=>rfl,zC rfl⟩
instance:FlatRow Xb.row:=⟨fun x d hd=>by simp only[Xb.row_eq,zJ,zH,or_false] at hd; rcases hd with rfl | rfl | rfl | rfl | rfl<;>rfl⟩
instance:OfTy (.st [(.int .i64),(.int .i64),(.int .i64),(.int .i64),(.int .i64)]) Xb.row:=⟨fun ds h=>by
 obtain⟨a0,b0,h0,t0,rfl⟩:=h;obtain⟨a1,b1,h1,t1,rfl⟩:=t0;obtain⟨a2,b2,h2,t2,rfl⟩:=t1;obtain⟨a3,b3,h3,t3,rfl⟩:=t2;obtain⟨a4,b4,h4,t4,rfl⟩:=t3;obtain rfl:=t4;obtain⟨x0,rfl⟩:=OfTy.of (row:=rI) _ h0;obtain⟨x1,rfl⟩:=OfTy.of (row:=rI) _ h1;obtain⟨x2,rfl⟩:=OfTy.of (row:=rI) _ h2;obtain⟨x3,rfl⟩:=OfTy.of (row:=rI) _ h3;obtain⟨x4,rfl⟩:=OfTy.of (row:=rI) _ h4;exact⟨⟨x0,x1,x2,x3,x4⟩,rfl⟩⟩
structure X3 where
 Ship:X
 Segment:X
 Toward:Y
 Start:X
 End:X
 deriving DecidableEq
def X3.row(x:X3):V D:= [.int .i64 x.Ship,.int .i64 x.Segment,.bool x.Toward,.int .i64 x.Start,.int .i64 x.End]
theorem X3.row_eq(x:X3):X3.row x= [.int .i64 x.Ship,.int .i64 x.Segment,.bool x.Toward,.int .i64 x.Start,.int .i64 x.End]:=rfl
instance:Row X3.row 5:=⟨fun _=>rfl,zC rfl⟩
instance:FlatRow X3.row:=⟨fun x d hd=>by simp only[X3.row_eq,zJ,zH,or_false] at hd; rcases hd with rfl | rfl | rfl | rfl | rfl<;>rfl⟩
instance:OfTy (.st [(.int .i64),(.int .i64),.bool,(.int .i64),(.int .i64)]) X3.row:=⟨fun ds h=>by
 obtain⟨a0,b0,h0,t0,rfl⟩:=h;obtain⟨a1,b1,h1,t1,rfl⟩:=t0;obtain⟨a2,b2,h2,t2,rfl⟩:=t1;obtain⟨a3,b3,h3,t3,rfl⟩:=t2;obtain⟨a4,b4,h4,t4,rfl⟩:=t3;obtain rfl:=t4;obtain⟨x0,rfl⟩:=OfTy.of (row:=rI) _ h0;obtain⟨x1,rfl⟩:=OfTy.of (row:=rI) _ h1;obtain⟨x2,rfl⟩:=OfTy.of (row:=rB) _ h2;obtain⟨x3,rfl⟩:=OfTy.of (row:=rI) _ h3;obtain⟨x4,rfl⟩:=OfTy.of (row:=rI) _ h4;exact⟨⟨x0,x1,x2,x3,x4⟩,rfl⟩⟩
structure X0 where
 Start:X
 Arrival:X
 Cost:X
 Passages:V X3
 deriving DecidableEq
def X0.row(x:X0):V D:= [.int .i64 x.Start,.int .i64 x.Arrival,.int .i64 x.Cost,.sl (zB X3.row x.Passages)]
theorem X0.row_eq(x:X0):X0.row x= [.int .i64 x.Start,.int .i64 x.Arrival,.int .i64 x.Cost,.sl (zB X3.row x.Passages)]:=rfl
instance:Row X0.row 4:=⟨fun _=>rfl,zC rfl⟩
instance:OfTy (.st [(.int .i64),(.int .i64),(.int .i64),(.sl (.st [(.int .i64),(.int .i64),.bool,(.int .i64),(.int .i64)]))]) X0.row:=⟨fun ds h=>by
 obtain⟨a0,b0,h0,t0,rfl⟩:=h;obtain⟨a1,b1,h1,t1,rfl⟩:=t0;obtain⟨a2,b2,h2,t2,rfl⟩:=t1;obtain⟨a3,b3,h3,t3,rfl⟩:=t2;obtain rfl:=t3;obtain⟨x0,rfl⟩:=OfTy.of (row:=rI) _ h0;obtain⟨x1,rfl⟩:=OfTy.of (row:=rI) _ h1;obtain⟨x2,rfl⟩:=OfTy.of (row:=rI) _ h2;obtain⟨x3,rfl⟩:=OfTy.of (row:=(rL X3.row)) _ h3;exact⟨⟨x0,x1,x2,x3⟩,rfl⟩⟩
structure X5 where
 From:X
 To:X
 deriving DecidableEq
def X5.row(x:X5):V D:= [.int .i64 x.From,.int .i64 x.To]
theorem X5.row_eq(x:X5):X5.row x= [.int .i64 x.From,.int .i64 x.To]:=rfl
instance:Row X5.row 2:=⟨fun _=>rfl,zC rfl⟩
instance:FlatRow X5.row:=⟨fun x d hd=>by simp only[X5.row_eq,zJ,zH,or_false] at hd; rcases hd with rfl | rfl<;>rfl⟩
instance:OfTy (.st [(.int .i64),(.int .i64)]) X5.row:=⟨fun ds h=>by
 obtain⟨a0,b0,h0,t0,rfl⟩:=h;obtain⟨a1,b1,h1,t1,rfl⟩:=t0;obtain rfl:=t1;obtain⟨x0,rfl⟩:=OfTy.of (row:=rI) _ h0;obtain⟨x1,rfl⟩:=OfTy.of (row:=rI) _ h1;exact⟨⟨x0,x1⟩,rfl⟩⟩
structure Xe where
 h:X4
 lists:V (V X0)
 clash:V (V (V (V Y)))
 rest:V X
 best:V X
 cost:X
 found:Y
 deriving DecidableEq
def Xe.row(x:Xe):V D:= [.int .i64 x.h.Forecast.Tide.Mean,.sl (zB Xc.row x.h.Forecast.Tide.Parts),.sl (zB X9.row x.h.Forecast.Surges),.sl (zB X7.row x.h.Chart.Points),.sl (zB X2.row x.h.Chart.Segments),.sl (zB X6.row x.h.Fleet),.int .i64 x.h.Regime.Gap,.bool x.h.Regime.NoMeet,.int .i64 x.h.Crew.Tugs,.int .i64 x.h.Crew.Pilots,.int .i64 x.h.Crew.Rest,.sl (zB rI x.h.Crew.Moves),.sl (zB (rL X0.row) x.lists),.sl (zB (rL (rL (rL rB))) x.clash),.sl (zB rI x.rest),.sl (zB rI x.best),.int .i64 x.cost,.bool x.found]
theorem Xe.row_eq(x:Xe):Xe.row x= [.int .i64 x.h.Forecast.Tide.Mean,.sl (zB Xc.row x.h.Forecast.Tide.Parts),.sl (zB X9.row x.h.Forecast.Surges),.sl (zB X7.row x.h.Chart.Points),.sl (zB X2.row x.h.Chart.Segments),.sl (zB X6.row x.h.Fleet),.int .i64 x.h.Regime.Gap,.bool x.h.Regime.NoMeet,.int .i64 x.h.Crew.Tugs,.int .i64 x.h.Crew.Pilots,.int .i64 x.h.Crew.Rest,.sl (zB rI x.h.Crew.Moves),.sl (zB (rL X0.row) x.lists),.sl (zB (rL (rL (rL rB))) x.clash),.sl (zB rI x.rest),.sl (zB rI x.best),.int .i64 x.cost,.bool x.found]:=rfl
instance:Row Xe.row 18:=⟨fun _=>rfl,zC rfl⟩
instance:OfTy (.st [(.st [(.st [(.st [(.int .i64),(.sl (.st [(.int .i64),(.int .i64),(.int .i64)]))]),(.sl (.st [(.int .i64),(.int .i64),(.int .i64)]))]),(.st [(.sl (.st [.str,.bool])),(.sl (.st [(.int .i64),(.int .i64),(.int .i64),(.int .i64),.bool]))]),(.sl (.st [.str,(.int .i64),(.int .i64),(.int .i64),(.int .i64),.bool])),(.st [(.int .i64),.bool]),(.st [(.int .i64),(.int .i64),(.int .i64),(.sl (.int .i64))])]),(.sl (.sl (.st [(.int .i64),(.int .i64),(.int .i64),(.sl (.st [(.int .i64),(.int .i64),.bool,(.int .i64),(.int .i64)]))]))),(.sl (.sl (.sl (.sl .bool)))),(.sl (.int .i64)),(.sl (.int .i64)),(.int .i64),.bool]) Xe.row:=⟨fun ds h=>by
 obtain⟨a0,b0,h0,t0,rfl⟩:=h;obtain⟨a1,b1,h1,t1,rfl⟩:=t0;obtain⟨a2,b2,h2,t2,rfl⟩:=t1;obtain⟨a3,b3,h3,t3,rfl⟩:=t2;obtain⟨a4,b4,h4,t4,rfl⟩:=t3;obtain⟨a5,b5,h5,t5,rfl⟩:=t4;obtain⟨a6,b6,h6,t6,rfl⟩:=t5;obtain rfl:=t6;obtain⟨x0,rfl⟩:=OfTy.of (row:=X4.row) _ h0;obtain⟨x1,rfl⟩:=OfTy.of (row:=(rL (rL X0.row))) _ h1;obtain⟨x2,rfl⟩:=OfTy.of (row:=(rL (rL (rL (rL rB))))) _ h2;obtain⟨x3,rfl⟩:=OfTy.of (row:=(rL rI)) _ h3;obtain⟨x4,rfl⟩:=OfTy.of (row:=(rL rI)) _ h4;obtain⟨x5,rfl⟩:=OfTy.of (row:=rI) _ h5;obtain⟨x6,rfl⟩:=OfTy.of (row:=rB) _ h6;exact⟨⟨x0,x1,x2,x3,x4,x5,x6⟩,rfl⟩⟩
abbrev AX(x:Xe):V XC:= [.d (.int .i64 x.h.Forecast.Tide.Mean),.d (.sl (zB Xc.row x.h.Forecast.Tide.Parts)),.d (.sl (zB X9.row x.h.Forecast.Surges)),.d (.sl (zB X7.row x.h.Chart.Points)),.d (.sl (zB X2.row x.h.Chart.Segments)),.d (.sl (zB X6.row x.h.Fleet)),.d (.int .i64 x.h.Regime.Gap),.d (.bool x.h.Regime.NoMeet),.d (.int .i64 x.h.Crew.Tugs),.d (.int .i64 x.h.Crew.Pilots),.d (.int .i64 x.h.Crew.Rest),.d (.sl (zB rI x.h.Crew.Moves)),.d (.sl (zB (rL X0.row) x.lists)),.d (.sl (zB (rL (rL (rL rB))) x.clash)),.d (.sl (zB rI x.rest)),.r 0,.d (.int .i64 x.cost),.d (.bool x.found)]
abbrev AY(x:Xe):Av:= [(1,zB rI x.best)]
structure Xa where
 From:X
 To:X
 A:X
 B:X
 deriving DecidableEq
def Xa.row(x:Xa):V D:= [.int .i64 x.From,.int .i64 x.To,.int .i64 x.A,.int .i64 x.B]
theorem Xa.row_eq(x:Xa):Xa.row x= [.int .i64 x.From,.int .i64 x.To,.int .i64 x.A,.int .i64 x.B]:=rfl
instance:Row Xa.row 4:=⟨fun _=>rfl,zC rfl⟩
instance:FlatRow Xa.row:=⟨fun x d hd=>by simp only[Xa.row_eq,zJ,zH,or_false] at hd; rcases hd with rfl | rfl | rfl | rfl<;>rfl⟩
instance:OfTy (.st [(.int .i64),(.int .i64),(.int .i64),(.int .i64)]) Xa.row:=⟨fun ds h=>by
 obtain⟨a0,b0,h0,t0,rfl⟩:=h;obtain⟨a1,b1,h1,t1,rfl⟩:=t0;obtain⟨a2,b2,h2,t2,rfl⟩:=t1;obtain⟨a3,b3,h3,t3,rfl⟩:=t2;obtain rfl:=t3;obtain⟨x0,rfl⟩:=OfTy.of (row:=rI) _ h0;obtain⟨x1,rfl⟩:=OfTy.of (row:=rI) _ h1;obtain⟨x2,rfl⟩:=OfTy.of (row:=rI) _ h2;obtain⟨x3,rfl⟩:=OfTy.of (row:=rI) _ h3;exact⟨⟨x0,x1,x2,x3⟩,rfl⟩⟩
structure X8 where
 i0:Y
 i1:Y
 i2:Y
 i3:Y
 i4:Y
 i5:Y
 i6:Y
 i7:Y
 deriving DecidableEq
def X8.row(x:X8):V D:= [.bool x.i0,.bool x.i1,.bool x.i2,.bool x.i3,.bool x.i4,.bool x.i5,.bool x.i6,.bool x.i7]
theorem X8.row_eq(x:X8):X8.row x= [.bool x.i0,.bool x.i1,.bool x.i2,.bool x.i3,.bool x.i4,.bool x.i5,.bool x.i6,.bool x.i7]:=rfl
instance:Row X8.row 8:=⟨fun _=>rfl,zC rfl⟩
def X8.set(x:X8)(n:Z)(v:Y):X8:=⟨bif n==0 then v else x.i0,bif n==1 then v else x.i1,bif n==2 then v else x.i2,bif n==3 then v else x.i3,bif n==4 then v else x.i4,bif n==5 then v else x.i5,bif n==6 then v else x.i6,bif n==7 then v else x.i7⟩
theorem X8.set_eq(x:X8){n:Z}{v:Y}(h:n<8):BK (zB AC.dat (X8.row x)) n [.dat (.bool v)]=zB AC.dat (X8.row (X8.set x n v)):=by
 match n,h with
 | 0,_=>rfl
 | 1,_=>rfl
 | 2,_=>rfl
 | 3,_=>rfl
 | 4,_=>rfl
 | 5,_=>rfl
 | 6,_=>rfl
 | 7,_=>rfl
instance:FlatRow X8.row:=⟨fun x d hd=>by simp only[X8.row_eq,zJ,zH,or_false] at hd; rcases hd with rfl | rfl | rfl | rfl | rfl | rfl | rfl | rfl<;>rfl⟩
instance:OfTy (.st [.bool,.bool,.bool,.bool,.bool,.bool,.bool,.bool]) X8.row:=⟨fun ds h=>by
 obtain⟨a0,b0,h0,t0,rfl⟩:=h;obtain⟨a1,b1,h1,t1,rfl⟩:=t0;obtain⟨a2,b2,h2,t2,rfl⟩:=t1;obtain⟨a3,b3,h3,t3,rfl⟩:=t2;obtain⟨a4,b4,h4,t4,rfl⟩:=t3;obtain⟨a5,b5,h5,t5,rfl⟩:=t4;obtain⟨a6,b6,h6,t6,rfl⟩:=t5;obtain⟨a7,b7,h7,t7,rfl⟩:=t6;obtain rfl:=t7;obtain⟨x0,rfl⟩:=OfTy.of (row:=rB) _ h0;obtain⟨x1,rfl⟩:=OfTy.of (row:=rB) _ h1;obtain⟨x2,rfl⟩:=OfTy.of (row:=rB) _ h2;obtain⟨x3,rfl⟩:=OfTy.of (row:=rB) _ h3;obtain⟨x4,rfl⟩:=OfTy.of (row:=rB) _ h4;obtain⟨x5,rfl⟩:=OfTy.of (row:=rB) _ h5;obtain⟨x6,rfl⟩:=OfTy.of (row:=rB) _ h6;obtain⟨x7,rfl⟩:=OfTy.of (row:=rB) _ h7;exact⟨⟨x0,x1,x2,x3,x4,x5,x6,x7⟩,rfl⟩⟩
structure Xk where
 waits:V Y
 minutes:V X
 sure:V (V X5)
 deriving DecidableEq
def Xk.row(x:Xk):V D:= [.sl (zB rB x.waits),.sl (zB rI x.minutes),.sl (zB (rL X5.row) x.sure)]
theorem Xk.row_eq(x:Xk):Xk.row x= [.sl (zB rB x.waits),.sl (zB rI x.minutes),.sl (zB (rL X5.row) x.sure)]:=rfl
instance:Row Xk.row 3:=⟨fun _=>rfl,zC rfl⟩
instance:OfTy (.st [(.sl .bool),(.sl (.int .i64)),(.sl (.sl (.st [(.int .i64),(.int .i64)])))]) Xk.row:=⟨fun ds h=>by
 obtain⟨a0,b0,h0,t0,rfl⟩:=h;obtain⟨a1,b1,h1,t1,rfl⟩:=t0;obtain⟨a2,b2,h2,t2,rfl⟩:=t1;obtain rfl:=t2;obtain⟨x0,rfl⟩:=OfTy.of (row:=(rL rB)) _ h0;obtain⟨x1,rfl⟩:=OfTy.of (row:=(rL rI)) _ h1;obtain⟨x2,rfl⟩:=OfTy.of (row:=(rL (rL X5.row))) _ h2;exact⟨⟨x0,x1,x2⟩,rfl⟩⟩
structure Xj where
 i0:X
 i1:X
 deriving DecidableEq
def Xj.row(x:Xj):V D:= [.int .i64 x.i0,.int .i64 x.i1]
theorem Xj.row_eq(x:Xj):Xj.row x= [.int .i64 x.i0,.int .i64 x.i1]:=rfl
instance:Row Xj.row 2:=⟨fun _=>rfl,zC rfl⟩
instance:FlatRow Xj.row:=⟨fun x d hd=>by simp only[Xj.row_eq,zJ,zH,or_false] at hd; rcases hd with rfl | rfl<;>rfl⟩
instance:OfTy (.st [(.int .i64),(.int .i64)]) Xj.row:=⟨fun ds h=>by
 obtain⟨a0,b0,h0,t0,rfl⟩:=h;obtain⟨a1,b1,h1,t1,rfl⟩:=t0;obtain rfl:=t1;obtain⟨x0,rfl⟩:=OfTy.of (row:=rI) _ h0;obtain⟨x1,rfl⟩:=OfTy.of (row:=rI) _ h1;exact⟨⟨x0,x1⟩,rfl⟩⟩
structure Xf where
 h:X4
 choices:V (V X0)
 plan:V X0
 choice:V X
 best:V X
 least:Xj
 found:Y
abbrev D0(F_w0:FuncId)(caps_w0:V D)(x:Xf):V XC:= [.d (.int .i64 x.h.Forecast.Tide.Mean),.d (.sl (zB Xc.row x.h.Forecast.Tide.Parts)),.d (.sl (zB X9.row x.h.Forecast.Surges)),.d (.sl (zB X7.row x.h.Chart.Points)),.d (.sl (zB X2.row x.h.Chart.Segments)),.d (.sl (zB X6.row x.h.Fleet)),.d (.int .i64 x.h.Regime.Gap),.d (.bool x.h.Regime.NoMeet),.d (.int .i64 x.h.Crew.Tugs),.d (.int .i64 x.h.Crew.Pilots),.d (.int .i64 x.h.Crew.Rest),.d (.sl (zB rI x.h.Crew.Moves)),.d (.sl (zB (rL X0.row) x.choices)),.d (.clo F_w0 caps_w0),.r 0,.r 1,.r 2,.d (.int .i64 x.least.i0),.d (.int .i64 x.least.i1),.d (.bool x.found)]
abbrev D1(x:Xf):Av:= [(4,zB X0.row x.plan),(1,zB rI x.choice),(1,zB rI x.best)]
structure Xg where
 sets:V X
 most:X
 groups:V X
 who:V X
 deriving DecidableEq
def Xg.row(x:Xg):V D:= [.sl (zB rU x.sets),.int .i64 x.most,.sl (zB rU x.groups),.sl (zB rI x.who)]
theorem Xg.row_eq(x:Xg):Xg.row x= [.sl (zB rU x.sets),.int .i64 x.most,.sl (zB rU x.groups),.sl (zB rI x.who)]:=rfl
instance:Row Xg.row 4:=⟨fun _=>rfl,zC rfl⟩
instance:OfTy (.st [(.sl (.int .u64)),(.int .i64),(.sl (.int .u64)),(.sl (.int .i64))]) Xg.row:=⟨fun ds h=>by
 obtain⟨a0,b0,h0,t0,rfl⟩:=h;obtain⟨a1,b1,h1,t1,rfl⟩:=t0;obtain⟨a2,b2,h2,t2,rfl⟩:=t1;obtain⟨a3,b3,h3,t3,rfl⟩:=t2;obtain rfl:=t3;obtain⟨x0,rfl⟩:=OfTy.of (row:=(rL rU)) _ h0;obtain⟨x1,rfl⟩:=OfTy.of (row:=rI) _ h1;obtain⟨x2,rfl⟩:=OfTy.of (row:=(rL rU)) _ h2;obtain⟨x3,rfl⟩:=OfTy.of (row:=(rL rI)) _ h3;exact⟨⟨x0,x1,x2,x3⟩,rfl⟩⟩
abbrev Cr(x:Xg):V XC:= [.d (.sl (zB rU x.sets)),.d (.int .i64 x.most),.r 0,.r 1]
abbrev Cs(x:Xg):Av:= [(1,zB rU x.groups),(1,zB rI x.who)]
def wk:=zF @ZJ (zF @iq (zF @tC (zF @io (zF @tA (zF @ip (zF @tB (zF @gt (zF @wG (zF @Xc.row_eq (zF @Xl.row_eq (zF @X9.row_eq (zF @Xd.row_eq (zF @X7.row_eq (zF @X2.row_eq (zF @X1.row_eq (zF @X6.row_eq (zF @Xh.row_eq (zF @Xm.row_eq (zF @X4.row_eq (zF @Xb.row_eq (zF @X3.row_eq (zF @X0.row_eq (zF @X5.row_eq (zF @Xe.row_eq (zF @Xa.row_eq (zF @X8.row_eq (zF @Xk.row_eq (zF @Xj.row_eq (@Xg.row_eq)))))))))))))))))))))))))))))
def J:=zF wm (zF wo (zF wq (zF wn wk)))
def N0(a0:V Xc)(a1:X):W X:=
if(decide ((zM .i64 (a1 - (a0.length:X)))<(0:X))) then(
 O (-1:X))
else(
 O (zM .i64 (a1 - (a0.length:X))))
def Q7(a0:Xl)(a1:X):W X:=
(N0 a0.Parts a1).bind fun r1=>
if(decide (r1<(0:X))) then(
 O (-1:X))
else(
 O r1)
def N6(a0:V X9)(a1:X):W X:=
if(decide ((zM .i64 (a1 - (a0.length:X)))<(0:X))) then(
 O (-1:X))
else(
 O (zM .i64 (a1 - (a0.length:X))))
def MX(a0:Xd)(a1:X):W X:=
(Q7 a0.Tide a1).bind fun r1=>
if(decide (r1<(0:X))) then(
 O (-1:X))
else(
 (N6 a0.Surges r1).bind fun r3=>
 if(decide (r3<(0:X))) then(
 O (-1:X))
 else(
 O r3))
def N1(a0:X7)(a1:X):W X:=
if(decide ((zM .i64 (a1 - (a0.Name.length:X)))<(0:X))) then(
 O (-1:X))
else(
 O (zM .i64 (a1 - (a0.Name.length:X))))
def Gs(a0:V X7):Z→X→X→W X
| 0,_,_=>U
| n+1,v2,v3=>
 if(decide (v3<(a0.length:X))) then(
 (ix a0 v3).bind fun x5=>
 (N1 x5 v2).bind fun r6=>
 if(decide (r6<(0:X))) then(
  O (-1:X))
 else(
  Gs a0 n r6 (zM .i64 (v3+(1:X)))))
 else(
 O v2)
def N2(a0:V X7)(a1:X):W X:=
if(decide ((zM .i64 (a1 - (a0.length:X)))<(0:X))) then(
 O (-1:X))
else(
 Gs a0 bigN (zM .i64 (a1 - (a0.length:X))) (0:X))
def N3(a0:V X2)(a1:X):W X:=
if(decide ((zM .i64 (a1 - (a0.length:X)))<(0:X))) then(
 O (-1:X))
else(
 O (zM .i64 (a1 - (a0.length:X))))
def MW(a0:X1)(a1:X):W X:=
(N2 a0.Points a1).bind fun r1=>
if(decide (r1<(0:X))) then(
 O (-1:X))
else(
 (N3 a0.Segments r1).bind fun r3=>
 if(decide (r3<(0:X))) then(
 O (-1:X))
 else(
 O r3))
def N4(a0:X6)(a1:X):W X:=
if(decide ((zM .i64 (a1 - (a0.Name.length:X)))<(0:X))) then(
 O (-1:X))
else(
 O (zM .i64 (a1 - (a0.Name.length:X))))
def Gt(a0:V X6):Z→X→X→W X
| 0,_,_=>U
| n+1,v2,v3=>
 if(decide (v3<(a0.length:X))) then(
 (ix a0 v3).bind fun x5=>
 (N4 x5 v2).bind fun r6=>
 if(decide (r6<(0:X))) then(
  O (-1:X))
 else(
  Gt a0 n r6 (zM .i64 (v3+(1:X)))))
 else(
 O v2)
def N5(a0:V X6)(a1:X):W X:=
if(decide ((zM .i64 (a1 - (a0.length:X)))<(0:X))) then(
 O (-1:X))
else(
 Gt a0 bigN (zM .i64 (a1 - (a0.length:X))) (0:X))
def MZ(a0:V X)(a1:X):W X:=
if(decide ((zM .i64 (a1 - (a0.length:X)))<(0:X))) then(
 O (-1:X))
else(
 O (zM .i64 (a1 - (a0.length:X))))
def Q6(a0:Xm)(a1:X):W X:=
(MZ a0.Moves a1).bind fun r1=>
if(decide (r1<(0:X))) then(
 O (-1:X))
else(
 O r1)
def MY(a0:X4)(a1:X):W X:=
(MX a0.Forecast a1).bind fun r1=>
if(decide (r1<(0:X))) then(
 O (-1:X))
else(
 (MW a0.Chart r1).bind fun r3=>
 if(decide (r3<(0:X))) then(
 O (-1:X))
 else(
 (N5 a0.Fleet r3).bind fun r5=>
 if(decide (r5<(0:X))) then(
  O (-1:X))
 else(
  (Q6 a0.Crew r5).bind fun r7=>
  if(decide (r7<(0:X))) then(
  O (-1:X))
  else(
  O r7))))
def MV(a0:V Xb)(a1:X):W X:=
if(decide ((zM .i64 (a1 - (a0.length:X)))<(0:X))) then(
 O (-1:X))
else(
 O (zM .i64 (a1 - (a0.length:X))))
def Qa(a0:Xc):W Xc:=
O a0
def Ih(a0:V Xc):Z→X→(V Xc)→W (V Xc)
| 0,_,_=>U
| n+1,v2,v3=>
 if(decide (v2<(a0.length:X))) then(
 (ix a0 v2).bind fun x5=>
 (Qa x5).bind fun r6=>
 (ix v3 v2).bind fun x7=>
 Ih a0 n (zM .i64 (v2+(1:X))) (v3.set (zD v2) r6))
 else(
 O v3)
def Na(a0:V Xc):W (V Xc):=
(BI (a0.length:X) (a0.length:X) 24).bind fun n1=>
Ih a0 bigN (0:X) (zG n1 (⟨(0:X),(0:X),(0:X)⟩:Xc))
def Qg(a0:Xl):W Xl:=
(Na a0.Parts).bind fun r1=>
O (⟨a0.Mean,r1⟩:Xl)
def Qf(a0:X9):W X9:=
O a0
def Il(a0:V X9):Z→X→(V X9)→W (V X9)
| 0,_,_=>U
| n+1,v2,v3=>
 if(decide (v2<(a0.length:X))) then(
 (ix a0 v2).bind fun x5=>
 (Qf x5).bind fun r6=>
 (ix v3 v2).bind fun x7=>
 Il a0 n (zM .i64 (v2+(1:X))) (v3.set (zD v2) r6))
 else(
 O v3)
def Nf(a0:V X9):W (V X9):=
(BI (a0.length:X) (a0.length:X) 24).bind fun n1=>
Il a0 bigN (0:X) (zG n1 (⟨(0:X),(0:X),(0:X)⟩:X9))
def N8(a0:Xd):W Xd:=
(Qg a0.Tide).bind fun r1=>
(Nf a0.Surges).bind fun r2=>
O (⟨r1,r2⟩:Xd)
def Qb(a0:X7):W X7:=
O a0
def Ii(a0:V X7):Z→X→(V X7)→W (V X7)
| 0,_,_=>U
| n+1,v2,v3=>
 if(decide (v2<(a0.length:X))) then(
 (ix a0 v2).bind fun x5=>
 (Qb x5).bind fun r6=>
 (ix v3 v2).bind fun x7=>
 Ii a0 n (zM .i64 (v2+(1:X))) (v3.set (zD v2) r6))
 else(
 O v3)
def Nb(a0:V X7):W (V X7):=
(BI (a0.length:X) (a0.length:X) 24).bind fun n1=>
Ii a0 bigN (0:X) (zG n1 (⟨([]:V zA),E⟩:X7))
def Qd(a0:X2):W X2:=
O a0
def Ij(a0:V X2):Z→X→(V X2)→W (V X2)
| 0,_,_=>U
| n+1,v2,v3=>
 if(decide (v2<(a0.length:X))) then(
 (ix a0 v2).bind fun x5=>
 (Qd x5).bind fun r6=>
 (ix v3 v2).bind fun x7=>
 Ij a0 n (zM .i64 (v2+(1:X))) (v3.set (zD v2) r6))
 else(
 O v3)
def Nc(a0:V X2):W (V X2):=
(BI (a0.length:X) (a0.length:X) 40).bind fun n1=>
Ij a0 bigN (0:X) (zG n1 (⟨(0:X),(0:X),(0:X),(0:X),E⟩:X2))
def N7(a0:X1):W X1:=
(Nb a0.Points).bind fun r1=>
(Nc a0.Segments).bind fun r2=>
O (⟨r1,r2⟩:X1)
def Qe(a0:X6):W X6:=
O a0
def Ik(a0:V X6):Z→X→(V X6)→W (V X6)
| 0,_,_=>U
| n+1,v2,v3=>
 if(decide (v2<(a0.length:X))) then(
 (ix a0 v2).bind fun x5=>
 (Qe x5).bind fun r6=>
 (ix v3 v2).bind fun x7=>
 Ik a0 n (zM .i64 (v2+(1:X))) (v3.set (zD v2) r6))
 else(
 O v3)
def Nd(a0:V X6):W (V X6):=
(BI (a0.length:X) (a0.length:X) 56).bind fun n1=>
Ik a0 bigN (0:X) (zG n1 (⟨([]:V zA),(0:X),(0:X),(0:X),(0:X),E⟩:X6))
def Qc(a0:Xh):W Xh:=
O a0
def Ig(a0:V X):Z→X→(V X)→W (V X)
| 0,_,_=>U
| n+1,v2,v3=>
 if(decide (v2<(a0.length:X))) then(
 (ix a0 v2).bind fun x5=>
 (ix v3 v2).bind fun x6=>
 Ig a0 n (zM .i64 (v2+(1:X))) (v3.set (zD v2) x5))
 else(
 O v3)
def N9(a0:V X):W (V X):=
(BI (a0.length:X) (a0.length:X) 8).bind fun n1=>
Ig a0 bigN (0:X) (zG n1 (0:X))
def Q9(a0:Xm):W Xm:=
(N9 a0.Moves).bind fun r1=>
O (⟨a0.Tugs,a0.Pilots,a0.Rest,r1⟩:Xm)
def If(a0:X4):W X4:=
(N8 a0.Forecast).bind fun r1=>
(N7 a0.Chart).bind fun r2=>
(Nd a0.Fleet).bind fun r3=>
(Qc a0.Regime).bind fun r4=>
(Q9 a0.Crew).bind fun r5=>
O (⟨r1,r2,r3,r4,r5⟩:X4)
def Q8(a0:Xb):W Xb:=
O a0
def Ie(a0:V Xb):Z→X→(V Xb)→W (V Xb)
| 0,_,_=>U
| n+1,v2,v3=>
 if(decide (v2<(a0.length:X))) then(
 (ix a0 v2).bind fun x5=>
 (Q8 x5).bind fun r6=>
 (ix v3 v2).bind fun x7=>
 Ie a0 n (zM .i64 (v2+(1:X))) (v3.set (zD v2) r6))
 else(
 O v3)
def Ic(a0:V Xb):W (V Xb):=
(BI (a0.length:X) (a0.length:X) 40).bind fun n1=>
Ie a0 bigN (0:X) (zG n1 (⟨(0:X),(0:X),(0:X),(0:X),(0:X)⟩:Xb))
def Aw(a0 a1 a2:X):W Y:=
if(decide (a1≤a0)) then(
 O (decide (a0≤a2)))
else(
 O E)
def Nx(a0:Xc):W Y:=
(Aw a0.Amp (0:X) (1000:X)).bind fun r1=>
if r1 then(
 (Aw a0.Period (4:X) (2880:X)).bind fun r3=>
 if r3 then(
 if((zM .i64 (zI a0.Period (4:X)))==(0:X)) then(
  (Aw a0.Phase (0:X) (zM .i64 (a0.Period - (1:X)))).bind fun r6=>
  O r6)
 else(
  O E))
 else(
 O E))
else(
 O E)
def IH(a0:Xl):Z→X→W Y
| 0,_=>U
| n+1,v4=>
 if(decide (v4<(a0.Parts.length:X))) then(
 (ix a0.Parts v4).bind fun x6=>
 (Nx x6).bind fun r7=>
 if r7 then(
  IH a0 n (zM .i64 (v4+(1:X))))
 else(
  O E))
 else(
 O F)
def NH(a0:Xl):W Y:=
(Aw a0.Mean (-1000:X) (1000:X)).bind fun r1=>
if r1 then(
 if(decide ((4:X)<(a0.Parts.length:X))) then(
 O E)
 else(
 IH a0 bigN (0:X)))
else(
 O E)
def NG(a0:X9):W Y:=
(Aw a0.From (0:X) (2880:X)).bind fun r1=>
if r1 then(
 (Aw a0.Low (-500:X) (500:X)).bind fun r3=>
 if r3 then(
 (Aw a0.High a0.Low (500:X)).bind fun r5=>
 O r5)
 else(
 O E))
else(
 O E)
def Gv(a0:Xd):Z→X→W Y
| 0,_=>U
| n+1,v7=>
 if(decide (v7<(a0.Surges.length:X))) then(
 (ix a0.Surges v7).bind fun x9=>
 (NG x9).bind fun r10=>
 if r10 then(
  if(decide ((0:X)<v7)) then(
  (ix a0.Surges (zM .i64 (v7 - (1:X)))).bind fun x13=>
  if(decide (x9.From≤x13.From)) then(
   O E)
  else(
   Gv a0 n (zM .i64 (v7+(1:X)))))
  else(
  Gv a0 n (zM .i64 (v7+(1:X)))))
 else(
  O E))
 else(
 O F)
def Kw(a0:Xd):W Y:=
(NH a0.Tide).bind fun r1=>
if r1 then(
 (Aw (a0.Surges.length:X) (1:X) (6:X)).bind fun r3=>
 if r3 then(
 (ix a0.Surges (0:X)).bind fun x5=>
 if(x5.From !=(0:X)) then(
  O E)
 else(
  Gv a0 bigN (0:X)))
 else(
 O E))
else(
 O E)
def Nt(a0:V zA)(v1:X)(EI:X→W Y):W Y:=
EI (zM .i64 (v1+(1:X)))
def Ns(a0:V zA)(v1:X)(EI:X→W Y)(v5:Y):W Y:=
if v5 then(
 Nt a0 v1 EI)
else(
 if(v1==(0:X)) then(
 O E)
 else(
 (ix a0 v1).bind fun b8=>
 if(decide ((b8.toNat:X)<(48:X))) then(
  O E)
 else(
  if(decide ((57:X)<(b8.toNat:X))) then(
  O E)
  else(
  Nt a0 v1 EI))))
def Gx(a0:V zA):Z→X→W Y
| 0,_=>U
| n+1,v1=>
 if(decide (v1<(a0.length:X))) then(
 (ix a0 v1).bind fun b3=>
 if(decide ((97:X)≤(b3.toNat:X))) then(
  Ns a0 v1 (Gx a0 n) (decide ((b3.toNat:X)≤(122:X))))
 else(
  Ns a0 v1 (Gx a0 n) E))
 else(
 (Aw (a0.length:X) (1:X) (8:X)).bind fun r11=>
 O r11)
def KD(a0:V zA):W Y:=
Gx a0 bigN (0:X)
def ID(a1:V zA)(a0:X1):Z→X→W X
| 0,_=>U
| n+1,v1=>
 if(decide (v1<(a0.Points.length:X))) then(
 (ix a0.Points v1).bind fun x3=>
 if(x3.Name==a1) then(
  O v1)
 else(
  ID a1 a0 n (zM .i64 (v1+(1:X)))))
 else(
 O (-1:X))
def NC(a0:X1)(a1:V zA):W X:=
ID a1 a0 bigN (0:X)
def NN(a0:X2)(a1 a2:X):W Y:=
if(a0.A==a1) then(
 if(a0.B==a2) then(
 O F)
 else(
 if(a0.A==a2) then(
  O (a0.B==a1))
 else(
  O E)))
else(
 if(a0.A==a2) then(
 O (a0.B==a1))
 else(
 O E))
def Ip(a0:X1)(v11:X)(x13:X2)(y24:V X2)(y25:X)(Ox:X→W Y):Z→X→W Y
| 0,_=>U
| n+1,v26=>
 if(decide (v26<y25)) then(
 (ix y24 v26).bind fun x28=>
 (NN x28 x13.A x13.B).bind fun r29=>
 if r29 then(
  O E)
 else(
  Ip a0 v11 x13 y24 y25 Ox n (zM .i64 (v26+(1:X)))))
 else(
 Ox (zM .i64 (v11+(1:X))))
def Eu(a0:X1):Z→X→W Y
| 0,_=>U
| n+1,v11=>
 if(decide (v11<(a0.Segments.length:X))) then(
 (ix a0.Segments v11).bind fun x13=>
 (Aw x13.A (0:X) (zM .i64 ((a0.Points.length:X) - (1:X)))).bind fun r14=>
 if r14 then(
  (Aw x13.B (0:X) (zM .i64 ((a0.Points.length:X) - (1:X)))).bind fun r16=>
  if r16 then(
  if(x13.A==x13.B) then(
   O E)
  else(
   (Aw x13.Depth (0:X) (3000:X)).bind fun r19=>
   if r19 then(
   (Aw x13.Minutes (1:X) (240:X)).bind fun r21=>
   if r21 then(
    (bnd (a0.Segments.length:X) v11 (0:X) a0.Segments.length).bind fun p23=>
    Ip a0 v11 x13 ((a0.Segments.drop p23.1).take (p23.2 - p23.1)) (((a0.Segments.drop p23.1).take (p23.2 - p23.1)).length:X) (Eu a0 n) bigN (0:X))
   else(
    O E))
   else(
   O E)))
  else(
  O E))
 else(
  O E))
 else(
 O F)
def Io(a0:X1):Z→X→W Y
| 0,_=>U
| n+1,v3=>
 if(decide (v3<(a0.Points.length:X))) then(
 (ix a0.Points v3).bind fun x5=>
 (KD x5.Name).bind fun r6=>
 if r6 then(
  (NC a0 x5.Name).bind fun r9=>
  if(r9 !=v3) then(
  O E)
  else(
  Io a0 n (zM .i64 (v3+(1:X)))))
 else(
  O E))
 else(
 Eu a0 bigN (0:X))
def D6(a0:X1):W Y:=
if(decide ((8:X)<(a0.Points.length:X))) then(
 O E)
else(
 if(decide ((10:X)<(a0.Segments.length:X))) then(
 O E)
 else(
 Io a0 bigN (0:X)))
def DX(a0:X6):W Y:=
(KD a0.Name).bind fun r1=>
if r1 then(
 (Aw a0.Length (10:X) (400:X)).bind fun r3=>
 if r3 then(
 (Aw a0.Draught (100:X) (2000:X)).bind fun r5=>
 if r5 then(
  (Aw a0.Line (0:X) (3:X)).bind fun r7=>
  if r7 then(
  (Aw a0.Tugs (0:X) (4:X)).bind fun r9=>
  O r9)
  else(
  O E))
 else(
  O E))
 else(
 O E))
else(
 O E)
def IG(a1:V zA)(a0:V X6):Z→X→W X
| 0,_=>U
| n+1,v1=>
 if(decide (v1<(a0.length:X))) then(
 (ix a0 v1).bind fun x3=>
 if(x3.Name==a1) then(
  O v1)
 else(
  IG a1 a0 n (zM .i64 (v1+(1:X)))))
 else(
 O (-1:X))
def NE(a0:V X6)(a1:V zA):W X:=
IG a1 a0 bigN (0:X)
def Iv(a0:V X6):Z→X→W Y
| 0,_=>U
| n+1,v2=>
 if(decide (v2<(a0.length:X))) then(
 (ix a0 v2).bind fun x4=>
 (DX x4).bind fun r5=>
 if r5 then(
  (NE a0 x4.Name).bind fun r7=>
  if(r7 !=v2) then(
  O E)
  else(
  Iv a0 n (zM .i64 (v2+(1:X)))))
 else(
  O E))
 else(
 O F)
def Kv(a0:V X6):W Y:=
if(decide ((6:X)<(a0.length:X))) then(
 O E)
else(
 Iv a0 bigN (0:X))
def IE(a0:Xh):W Y:=
(Aw a0.Gap (0:X) (60:X)).bind fun r1=>
O r1
def GJ(a1:V X):Z→X→W Y
| 0,_=>U
| n+1,v4=>
 if(decide (v4<(a1.length:X))) then(
 (ix a1 v4).bind fun x6=>
 (Aw x6 (0:X) (240:X)).bind fun r7=>
 if r7 then(
  GJ a1 n (zM .i64 (v4+(1:X))))
 else(
  O E))
 else(
 O F)
def GI(a0:X)(a1:V X):W Y:=
(Aw a0 (0:X) (2880:X)).bind fun r1=>
if r1 then(
 if((a1.length:X) !=(64:X)) then(
 O E)
 else(
 GJ a1 bigN (0:X)))
else(
 O E)
def Ir(a0:Xm):W Y:=
(Aw a0.Tugs (0:X) (12:X)).bind fun r1=>
if r1 then(
 (Aw a0.Pilots (0:X) (12:X)).bind fun r3=>
 if r3 then(
 (GI a0.Rest a0.Moves).bind fun r5=>
 O r5)
 else(
 O E))
else(
 O E)
def KC(a0:X4):W Y:=
(Kw a0.Forecast).bind fun r1=>
if r1 then(
 (D6 a0.Chart).bind fun r3=>
 if r3 then(
 (Kv a0.Fleet).bind fun r5=>
 if r5 then(
  (IE a0.Regime).bind fun r7=>
  if r7 then(
  (Ir a0.Crew).bind fun r9=>
  O r9)
  else(
  O E))
 else(
  O E))
 else(
 O E))
else(
 O E)
def Ko(a0:X4)(a1:Xb):W Y:=
(KC a0).bind fun r1=>
if r1 then(
 (Aw a1.Ship (0:X) (zM .i64 ((a0.Fleet.length:X) - (1:X)))).bind fun r3=>
 if r3 then(
 (Aw a1.From (0:X) (zM .i64 ((a0.Chart.Points.length:X) - (1:X)))).bind fun r5=>
 if r5 then(
  (Aw a1.To (0:X) (zM .i64 ((a0.Chart.Points.length:X) - (1:X)))).bind fun r7=>
  if r7 then(
  if(a1.From !=a1.To) then(
   (Aw a1.Ready (0:X) (2880:X)).bind fun r10=>
   if r10 then(
   (Aw a1.Due a1.Ready (2880:X)).bind fun r12=>
   O r12)
   else(
   O E))
  else(
   O E))
  else(
  O E))
 else(
  O E))
 else(
 O E))
else(
 O E)
def Kr(a1:V Xb)(v4:X)(a0:X4)(x6:Xb)(y10:V Xb)(y11:X)(Ow:X→W Y):Z→X→W Y
| 0,_=>U
| n+1,v12=>
 if(decide (v12<y11)) then(
 (ix y10 v12).bind fun x14=>
 if(x6.Ship==x14.Ship) then(
  O E)
 else(
  Kr a1 v4 a0 x6 y10 y11 Ow n (zM .i64 (v12+(1:X)))))
 else(
 Ow (zM .i64 (v4+(1:X))))
def Kq(a1:V Xb)(a0:X4):Z→X→W Y
| 0,_=>U
| n+1,v4=>
 if(decide (v4<(a1.length:X))) then(
 (ix a1 v4).bind fun x6=>
 (Ko a0 x6).bind fun r7=>
 if r7 then(
  (bnd (a1.length:X) v4 (0:X) a1.length).bind fun p9=>
  Kr a1 v4 a0 x6 ((a1.drop p9.1).take (p9.2 - p9.1)) (((a1.drop p9.1).take (p9.2 - p9.1)).length:X) (Kq a1 a0 n) bigN (0:X))
 else(
  O E))
 else(
 O F)
def Fo(a0:X4)(a1:V Xb):W Y:=
(KC a0).bind fun r1=>
if r1 then(
 if(decide ((6:X)<(a1.length:X))) then(
 O E)
 else(
 Kq a1 a0 bigN (0:X)))
else(
 O E)
def NO(a0:X2)(a1:X):W X:=
if(a1==a0.A) then(
 O a0.B)
else(
 if(a1==a0.B) then(
 O a0.A)
 else(
 O (-1:X)))
def IL(a1:X)(a0:V X):Z→X→W Y
| 0,_=>U
| n+1,v1=>
 if(decide (v1<(a0.length:X))) then(
 (ix a0 v1).bind fun x3=>
 if(x3==a1) then(
  O F)
 else(
  IL a1 a0 n (zM .i64 (v1+(1:X)))))
 else(
 O E)
def KL(a0:V X)(a1:X):W Y:=
IL a1 a0 bigN (0:X)
def IM(rec_:X1→(V X)→(V X)→X→(V (V X))→W (V (V X)))(a1 a2:V X)(a3 x1:X)(v5 r9:X)(a0:X1)(v6:V (V X))(OB:X→(V (V X))→W (V (V X)))(v12:Y):W (V (V X)):=
if v12 then(
 if A3 ([]:V X).length a1.length 8 then(
 if A3 a1.length ([r9]:V X).length 8 then(
  if A3 ([]:V X).length a2.length 8 then(
  if A3 a2.length ([v5]:V X).length 8 then(
   (rec_ a0 (a1++([r9]:V X)) (a2++([v5]:V X)) a3 v6).bind fun r18=>
   OB (zM .i64 (v5+(1:X))) r18)
  else U)
  else U)
 else U)
 else U)
else(
 OB (zM .i64 (v5+(1:X))) v6)
def GD(rec_:X1→(V X)→(V X)→X→(V (V X))→W (V (V X)))(a1 a2:V X)(a3 x1:X)(a0:X1):Z→X→(V (V X))→W (V (V X))
| 0,_,_=>U
| n+1,v5,v6=>
 if(decide (v5<(a0.Segments.length:X))) then(
 (ix a0.Segments v5).bind fun x8=>
 (NO x8 x1).bind fun r9=>
 if(decide ((0:X)≤r9)) then(
  (KL a1 r9).bind fun r11=>
  IM rec_ a1 a2 a3 x1 v5 r9 a0 v6 (GD rec_ a1 a2 a3 x1 a0 n) (!r11))
 else(
  IM rec_ a1 a2 a3 x1 v5 r9 a0 v6 (GD rec_ a1 a2 a3 x1 a0 n) E))
 else(
 O v6)
def Qm(rec_:X1→(V X)→(V X)→X→(V (V X))→W (V (V X)))(a0:X1)(a1 a2:V X)(a3:X)(a4:V (V X)):W (V (V X)):=
(ix a1 (zM .i64 ((a1.length:X) - (1:X)))).bind fun x1=>
if(x1==a3) then(
 if A3 ([]:V X).length a2.length 8 then(
 if A3 a4.length ([a2]:V (V X)).length 24 then(
  O (a4++([a2]:V (V X))))
 else U)
 else U)
else(
 GD rec_ a1 a2 a3 x1 a0 bigN (0:X) a4)
def GE:Z→X1→(V X)→(V X)→X→(V (V X))→W (V (V X))
| 0,_,_,_,_,_=>U
| n+1,a0,a1,a2,a3,a4=>Qm (GE n) a0 a1 a2 a3 a4
def SH(a0:X1)(a1 a2:V X)(a3:X)(a4:V (V X)):W (V (V X)):=GE bigN a0 a1 a2 a3 a4
def ND(a0:X1)(a1 a2:X):W (V (V X)):=
(D6 a0).bind fun r1=>
if r1 then(
 (Aw a1 (0:X) (zM .i64 ((a0.Points.length:X) - (1:X)))).bind fun r3=>
 if r3 then(
 (Aw a2 (0:X) (zM .i64 ((a0.Points.length:X) - (1:X)))).bind fun r5=>
 if r5 then(
  (SH a0 ([a1]:V X) ([]:V X) a2 ([]:V (V X))).bind fun r7=>
  O r7)
 else(
  O ([]:V (V X))))
 else(
 O ([]:V (V X))))
else(
 O ([]:V (V X)))
def IF(a1:V X)(a0:X1):Z→X→X→W X
| 0,_,_=>U
| n+1,v3,v4=>
 if(decide (v4<(a1.length:X))) then(
 (ix a1 v4).bind fun x6=>
 (Aw x6 (0:X) (zM .i64 ((a0.Segments.length:X) - (1:X)))).bind fun r7=>
 if r7 then(
  (ix a0.Segments x6).bind fun x9=>
  IF a1 a0 n (zM .i64 (v3+x9.Minutes)) (zM .i64 (v4+(1:X))))
 else(
  O (-1:X)))
 else(
 O v3)
def Gz(a0:X1)(a1:V X):W X:=
(D6 a0).bind fun r1=>
if r1 then(
 IF a1 a0 bigN (0:X) (0:X))
else(
 O (-1:X))
def Kn(v2 x6:V X)(r1:(V (V X)))(v4:X)(a0:X1)(Ov:(V X)→Y→X→W ((V X) × Y))(v11 v12:Y):W ((V X) × Y):=
if v12 then(
 Ov x6 F (zM .i64 (v4+(1:X))))
else(
 Ov v2 v11 (zM .i64 (v4+(1:X))))
def Fm(r1:(V (V X)))(a0:X1):Z→(V X)→Y→X→W ((V X) × Y)
| 0,_,_,_=>U
| n+1,v2,v3,v4=>
 if(decide (v4<(r1.length:X))) then(
 (ix r1 v4).bind fun x6=>
 if v3 then(
  (Gz a0 x6).bind fun r9=>
  (Gz a0 v2).bind fun r10=>
  Kn v2 x6 r1 v4 a0 (Fm r1 a0 n) F (decide (r9<r10)))
 else(
  Kn v2 x6 r1 v4 a0 (Fm r1 a0 n) E F))
 else(
 if v3 then(
  O (v2,F))
 else(
  O (([]:V X),E)))
def Nk(a0:X1)(a1 a2:X):W ((V X) × Y):=
(ND a0 a1 a2).bind fun r1=>
Fm r1 a0 bigN ([]:V X) E (0:X)
def IN(a0:X1)(a1:X)(a2:X6):W Y:=
(D6 a0).bind fun r1=>
if r1 then(
 (DX a2).bind fun r3=>
 if r3 then(
 (Aw a1 (0:X) (zM .i64 ((a0.Segments.length:X) - (1:X)))).bind fun r5=>
 O r5)
 else(
 O E))
else(
 O E)
def Ql(a0:X6):W X:=
(DX a0).bind fun r1=>
if r1 then(
 if a0.Slow then(
 O (zM .i64 (zE a0.Draught (50:X))))
 else(
 O (zM .i64 (zE a0.Draught (20:X)))))
else(
 O (0:X))
def Qj(a0:X6):W X:=
(DX a0).bind fun r1=>
if r1 then(
 (Ql a0).bind fun r3=>
 O (zM .i64 ((zM .i64 (a0.Draught+r3))+(50:X))))
else(
 O (0:X))
def Nv(a0:X1)(a1:X)(a2:X6):W X:=
(IN a0 a1 a2).bind fun r1=>
if r1 then(
 (Qj a2).bind fun r3=>
 (ix a0.Segments a1).bind fun x4=>
 O (zM .i64 (r3 - x4.Depth)))
else(
 O (0:X))
def Fv(a1:X)(a0:Xd):Z→X→X→X→X→W X9
| 0,_,_,_,_=>U
| n+1,v2,v3,v4,v5=>
 if(decide (v2<(a0.Surges.length:X))) then(
 (ix a0.Surges v2).bind fun x7=>
 if(decide (x7.From≤a1)) then(
  Fv a1 a0 n (zM .i64 (v2+(1:X))) x7.From x7.Low x7.High)
 else(
  Fv a1 a0 n (zM .i64 (v2+(1:X))) v3 v4 v5))
 else(
 O (⟨v3,v4,v5⟩:X9))
def IJ(a0:Xd)(a1:X):W X9:=
(ix a0.Surges (0:X)).bind fun x1=>
Fv a1 a0 bigN (0:X) x1.From x1.Low x1.High
def NJ(a1 v6:X):W X:=
if(decide (v6<(zM .i64 (zE a1 (2:X))))) then(
 if(zM .i64 ((zM .i64 (zE a1 (2:X)))*(zM .i64 (zE a1 (2:X)))))==0 then U else
 O (zM .i64 (zE (zM .i64 ((zM .i64 ((40000:X)*v6))*(zM .i64 ((zM .i64 (zE a1 (2:X))) - v6)))) (zM .i64 ((zM .i64 (zE a1 (2:X)))*(zM .i64 (zE a1 (2:X))))))))
else(
 if(zM .i64 ((zM .i64 (zE a1 (2:X)))*(zM .i64 (zE a1 (2:X)))))==0 then U else
 O (zM .i64 (0 - (zM .i64 (zE (zM .i64 ((zM .i64 ((40000:X)*(zM .i64 (v6 - (zM .i64 (zE a1 (2:X)))))))*(zM .i64 ((zM .i64 (zE a1 (2:X))) - (zM .i64 (v6 - (zM .i64 (zE a1 (2:X))))))))) (zM .i64 ((zM .i64 (zE a1 (2:X)))*(zM .i64 (zE a1 (2:X))))))))))
def NI(a0 a1:X):W X:=
if(decide (a1<(4:X))) then(
 O (0:X))
else(
 if(decide ((2880:X)<a1)) then(
 O (0:X))
 else(
 if((zM .i64 (zI a1 (4:X))) !=(0:X)) then(
  O (0:X))
 else(
  if a1==0 then U else
  if(decide ((zM .i64 (zI a0 a1))<(0:X))) then(
  NJ a1 (zM .i64 ((zM .i64 (zI a0 a1))+a1)))
  else(
  NJ a1 (zM .i64 (zI a0 a1))))))
def II(a1:X)(a0:Xl):Z→X→X→W X
| 0,_,_=>U
| n+1,v1,v2=>
 if(decide (v2<(a0.Parts.length:X))) then(
 (ix a0.Parts v2).bind fun x4=>
 (NI (zM .i64 (a1+x4.Phase)) x4.Period).bind fun r5=>
 II a1 a0 n (zM .i64 (v1+(zM .i64 (zE (zM .i64 (x4.Amp*r5)) (10000:X))))) (zM .i64 (v2+(1:X))))
 else(
 O v1)
def KK(a0:Xl)(a1:X):W X:=
II a1 a0 bigN a0.Mean (0:X)
def IK(v1:X)(a0:V Y)(v2:V X5)(OA:X→(V X5)→W (V X5))(v8:Y):W (V X5):=
if v8 then(
 (ix v2 (zM .i64 ((v2.length:X) - (1:X)))).bind fun x10=>
 OA (zM .i64 (v1+(1:X))) (v2.set (zD (zM .i64 ((v2.length:X) - (1:X)))) (⟨x10.From,v1⟩:X5)))
else(
 if A3 v2.length ([(⟨v1,v1⟩:X5)]:V X5).length 16 then(
 OA (zM .i64 (v1+(1:X))) (v2++([(⟨v1,v1⟩:X5)]:V X5)))
 else U)
def Ez(a0:V Y):Z→X→(V X5)→W (V X5)
| 0,_,_=>U
| n+1,v1,v2=>
 if(decide (v1<(a0.length:X))) then(
 (ix a0 v1).bind fun x4=>
 if x4 then(
  if(decide ((0:X)<(v2.length:X))) then(
  (ix v2 (zM .i64 ((v2.length:X) - (1:X)))).bind fun x7=>
  IK v1 a0 v2 (Ez a0 n) (x7.To==(zM .i64 (v1 - (1:X)))))
  else(
  IK v1 a0 v2 (Ez a0 n) E))
 else(
  Ez a0 n (zM .i64 (v1+(1:X))) v2))
 else(
 O v2)
def NM(a0:V Y):W (V X5):=
Ez a0 bigN (0:X) ([]:V X5)
def NL(a1 v2:X)(a0:Xd)(v3:V Y)(Ra:Y→X→(V Y)→W (V X5))(v7:Y)(v8:X):W (V X5):=
(KK a0.Tide v2).bind fun r9=>
if A3 v3.length ([(decide (a1≤(zM .i64 (r9+v8))))]:V Y).length 1 then(
 Ra v7 (zM .i64 (v2+(1:X))) (v3++([(decide (a1≤(zM .i64 (r9+v8))))]:V Y)))
else U
def GA(a1:X)(a0:Xd):Z→Y→X→(V Y)→W (V X5)
| 0,_,_,_=>U
| n+1,v1,v2,v3=>
 if(decide (v2≤(2880:X))) then(
 (IJ a0 v2).bind fun r5=>
 if v1 then(
  NL a1 v2 a0 v3 (GA a1 a0 n) F r5.High)
 else(
  NL a1 v2 a0 v3 (GA a1 a0 n) E r5.Low))
 else(
 (NM v3).bind fun r11=>
 O r11)
def NK(a0:Xd)(a1:X)(a2:Y):W (V X5):=
GA a1 a0 bigN a2 (0:X) ([]:V Y)
def Fw(a0:X2)(a1:X6):W X:=
if a1.Slow then(
 O (zM .i64 ((2:X)*a0.Minutes)))
else(
 O a0.Minutes)
def KE(a0:X1)(a1:X)(a2:X6):W X:=
(D6 a0).bind fun r1=>
if r1 then(
 (DX a2).bind fun r3=>
 if r3 then(
 (Aw a1 (0:X) (zM .i64 ((a0.Segments.length:X) - (1:X)))).bind fun r5=>
 if r5 then(
  (ix a0.Segments a1).bind fun x7=>
  (Fw x7 a2).bind fun r9=>
  O r9)
 else(
  O (0:X)))
 else(
 O (0:X)))
else(
 O (0:X))
def Fu(a0:V X5):Z→X→W Y
| 0,_=>U
| n+1,v1=>
 if(decide (v1<(a0.length:X))) then(
 (ix a0 v1).bind fun x3=>
 (Aw x3.From (0:X) (2880:X)).bind fun r4=>
 if r4 then(
  (Aw x3.To x3.From (2880:X)).bind fun r6=>
  if r6 then(
  if(decide ((0:X)<v1)) then(
   (ix a0 (zM .i64 (v1 - (1:X)))).bind fun x9=>
   if(decide (x3.From≤(zM .i64 (x9.To+(1:X))))) then(
   O E)
   else(
   Fu a0 n (zM .i64 (v1+(1:X)))))
  else(
   Fu a0 n (zM .i64 (v1+(1:X)))))
  else(
  O E))
 else(
  O E))
 else(
 O F)
def KJ(a0:V X5):W Y:=
Fu a0 bigN (0:X)
def Ft(a1:X)(a0:V X5):Z→X→(V X5)→W (V X5)
| 0,_,_=>U
| n+1,v5,v6=>
 if(decide (v5<(a0.length:X))) then(
 (ix a0 v5).bind fun x8=>
 if(decide (a1≤(zM .i64 (x8.To - x8.From)))) then(
  if A3 v6.length ([(⟨x8.From,(zM .i64 (x8.To - a1))⟩:X5)]:V X5).length 16 then(
  Ft a1 a0 n (zM .i64 (v5+(1:X))) (v6++([(⟨x8.From,(zM .i64 (x8.To - a1))⟩:X5)]:V X5)))
  else U)
 else(
  Ft a1 a0 n (zM .i64 (v5+(1:X))) v6))
 else(
 O v6)
def Qk(a0:V X5)(a1:X):W (V X5):=
(KJ a0).bind fun r1=>
if r1 then(
 (Aw a1 (0:X) (2880:X)).bind fun r3=>
 if r3 then(
 Ft a1 a0 bigN (0:X) ([]:V X5))
 else(
 O ([]:V X5)))
else(
 O ([]:V X5))
def Qn(a0:Xd)(a1:X1)(a2:X)(a3:X6)(a4:Y):W (V X5):=
(Kw a0).bind fun r1=>
if r1 then(
 (IN a1 a2 a3).bind fun r3=>
 if r3 then(
 (Nv a1 a2 a3).bind fun r5=>
 (NK a0 r5 a4).bind fun r6=>
 (KE a1 a2 a3).bind fun r7=>
 (Qk r6 r7).bind fun r9=>
 O r9)
 else(
 O ([]:V X5)))
else(
 O ([]:V X5))
def NF(a0:Xd)(a1:X1)(a2:X)(a3:X6):W (V X5):=
(Qn a0 a1 a2 a3 E).bind fun r1=>
O r1
def GF(a3:V X)(a0:Xd)(a1:X1)(a2:X6):Z→X→(V (V X5))→W (V (V X5))
| 0,_,_=>U
| n+1,v1,v2=>
 if(decide (v1<(a3.length:X))) then(
 (ix a3 v1).bind fun x4=>
 (NF a0 a1 x4 a2).bind fun r5=>
 if A3 v2.length ([r5]:V (V X5)).length 24 then(
  GF a3 a0 a1 a2 n (zM .i64 (v1+(1:X))) (v2++([r5]:V (V X5))))
 else U)
 else(
 O v2)
def Qo(a0:Xd)(a1:X1)(a2:X6)(a3:V X):W (V (V X5)):=
GF a3 a0 a1 a2 bigN (0:X) ([]:V (V X5))
def GC(r9:X)(a2:V X)(v1:X)(a0:X1)(v2:V X)(Rb:X→(V X)→W ((V X) × Y))(v12:Y):W ((V X) × Y):=
if v12 then(
 O (([]:V X),E))
else(
 if A3 v2.length ([r9]:V X).length 8 then(
 Rb (zM .i64 (v1+(1:X))) (v2++([r9]:V X)))
 else U)
def DY(a2:V X)(a0:X1):Z→X→(V X)→W ((V X) × Y)
| 0,_,_=>U
| n+1,v1,v2=>
 if(decide (v1<(a2.length:X))) then(
 (ix a2 v1).bind fun x4=>
 (Aw x4 (0:X) (zM .i64 ((a0.Segments.length:X) - (1:X)))).bind fun r5=>
 if r5 then(
  (ix a0.Segments x4).bind fun x7=>
  (ix v2 (zM .i64 ((v2.length:X) - (1:X)))).bind fun x8=>
  (NO x7 x8).bind fun r9=>
  if(decide (r9<(0:X))) then(
  GC r9 a2 v1 a0 v2 (DY a2 a0 n) F)
  else(
  (KL v2 r9).bind fun r11=>
  GC r9 a2 v1 a0 v2 (DY a2 a0 n) r11))
 else(
  O (([]:V X),E)))
 else(
 O (v2,F))
def GB(a0:X1)(a1:X)(a2:V X):W ((V X) × Y):=
DY a2 a0 bigN (0:X) ([a1]:V X)
def Ey(a0:X1)(a1:X)(a2:V X):W Y:=
(D6 a0).bind fun r1=>
if r1 then(
 (Aw a1 (0:X) (zM .i64 ((a0.Points.length:X) - (1:X)))).bind fun r3=>
 if r3 then(
 (GB a0 a1 a2).bind fun r5=>
 O r5.2)
 else(
 O E))
else(
 O E)
def Fs(a0:X1)(a1:X)(a2:V X):W (V X):=
(Ey a0 a1 a2).bind fun r1=>
if r1 then(
 (GB a0 a1 a2).bind fun r3=>
 O r3.1)
else(
 O ([]:V X))
def Iw(a1:X)(a0:V X5):Z→X→W Y
| 0,_=>U
| n+1,v1=>
 if(decide (v1<(a0.length:X))) then(
 (ix a0 v1).bind fun x3=>
 (Aw a1 x3.From x3.To).bind fun r4=>
 if r4 then(
  O F)
 else(
  Iw a1 a0 n (zM .i64 (v1+(1:X)))))
 else(
 O E)
def Nq(a0:V X5)(a1:X):W Y:=
Iw a1 a0 bigN (0:X)
def Iz(a1:X)(a0:V X5):Z→X→W X
| 0,_=>U
| n+1,v3=>
 if(decide (v3<(a0.length:X))) then(
 (ix a0 v3).bind fun x5=>
 if(decide (a1≤x5.To)) then(
  O (if x5.From<a1 then a1 else x5.From))
 else(
  Iz a1 a0 n (zM .i64 (v3+(1:X)))))
 else(
 O (-1:X))
def Nw(a0:V X5)(a1:X):W X:=
(KJ a0).bind fun r1=>
if r1 then(
 Iz a1 a0 bigN (0:X))
else(
 O (-1:X))
def IP(a2 a3:V X)(a4:V (V X5))(v4 r12:X)(a0:X1)(a1:X6)(v5:V X)(Rc:X→(V X)→W ((V X) × Y))(v17:Y):W ((V X) × Y):=
if v17 then(
 O (([]:V X),E))
else(
 if A3 v5.length ([r12]:V X).length 8 then(
 Rc (zM .i64 (v4+(1:X))) (v5++([r12]:V X)))
 else U)
def EA(a2 a3:V X)(a4:V (V X5))(a0:X1)(a1:X6):Z→X→(V X)→W ((V X) × Y)
| 0,_,_=>U
| n+1,v4,v5=>
 if(decide (v4<(a3.length:X))) then(
 (ix v5 (zM .i64 (v4 - (1:X)))).bind fun x7=>
 (ix a3 (zM .i64 (v4 - (1:X)))).bind fun x8=>
 (ix a0.Segments x8).bind fun x9=>
 (Fw x9 a1).bind fun r10=>
 (ix a4 v4).bind fun x11=>
 (Nw x11 (zM .i64 (x7+r10))).bind fun r12=>
 if(decide (r12<(0:X))) then(
  IP a2 a3 a4 v4 r12 a0 a1 v5 (EA a2 a3 a4 a0 a1 n) F)
 else(
  if(r12 !=(zM .i64 (x7+r10))) then(
  (ix a2 v4).bind fun x15=>
  (ix a0.Points x15).bind fun x16=>
  IP a2 a3 a4 v4 r12 a0 a1 v5 (EA a2 a3 a4 a0 a1 n) (!x16.Wait))
  else(
  IP a2 a3 a4 v4 r12 a0 a1 v5 (EA a2 a3 a4 a0 a1 n) E)))
 else(
 O (v5,F))
def KM(a0:X1)(a1:X6)(a2 a3:V X)(a4:V (V X5))(a5:X):W ((V X) × Y):=
(ix a4 (0:X)).bind fun x1=>
(Nq x1 a5).bind fun r2=>
if r2 then(
 EA a2 a3 a4 a0 a1 bigN (1:X) ([a5]:V X))
else(
 O (([]:V X),E))
def Ni(a0:X1)(a1:X6)(a2 a3:V X):W X:=
(Gz a0 a2).bind fun r1=>
if(decide (r1<(0:X))) then(
 O (-1:X))
else(
 (DX a1).bind fun r3=>
 if r3 then(
 if((a2.length:X) !=(a3.length:X)) then(
  O (-1:X))
 else(
  if((a2.length:X)==(0:X)) then(
  O (-1:X))
  else(
  (ix a3 (zM .i64 ((a3.length:X) - (1:X)))).bind fun x7=>
  (Aw x7 (0:X) (2880:X)).bind fun r9=>
  if r9 then(
   (ix a2 (zM .i64 ((a2.length:X) - (1:X)))).bind fun x11=>
   (ix a0.Segments x11).bind fun x12=>
   (Fw x12 a1).bind fun r13=>
   O (zM .i64 (x7+r13)))
  else(
   O (-1:X)))))
 else(
 O (-1:X)))
def IB(a1:X)(a5 a4:V X)(a0:X1)(a2:X6)(r6:(V X)):Z→X→(V X3)→W (V X3)
| 0,_,_=>U
| n+1,v7,v8=>
 if(decide (v7<(a4.length:X))) then(
 (ix a4 v7).bind fun x10=>
 (ix a5 v7).bind fun x11=>
 (Aw x11 (0:X) (2880:X)).bind fun r12=>
 if r12 then(
  (ix a0.Segments x10).bind fun x14=>
  (ix r6 v7).bind fun x15=>
  (Fw x14 a2).bind fun r16=>
  if A3 v8.length ([(⟨a1,x10,(x14.A==x15),x11,(zM .i64 (x11+r16))⟩:X3)]:V X3).length 40 then(
  IB a1 a5 a4 a0 a2 r6 n (zM .i64 (v7+(1:X))) (v8++([(⟨a1,x10,(x14.A==x15),x11,(zM .i64 (x11+r16))⟩:X3)]:V X3)))
  else U)
 else(
  O ([]:V X3)))
 else(
 O v8)
def Ny(a0:X1)(a1:X)(a2:X6)(a3:X)(a4 a5:V X):W (V X3):=
(Ey a0 a3 a4).bind fun r1=>
if r1 then(
 (DX a2).bind fun r3=>
 if r3 then(
 if((a4.length:X) !=(a5.length:X)) then(
  O ([]:V X3))
 else(
  (Fs a0 a3 a4).bind fun r6=>
  IB a1 a5 a4 a0 a2 r6 bigN (0:X) ([]:V X3)))
 else(
 O ([]:V X3)))
else(
 O ([]:V X3))
def GL(a2:V X)(a0:X4)(x1:X6)(x2 r3:X)(r4:(V X3)):Z→X→X→W (X0 × Y)
| 0,_,_=>U
| n+1,v5,v6=>
 if(decide (v5<(a2.length:X))) then(
 (ix a2 v5).bind fun x8=>
 (ix a0.Chart.Segments x8).bind fun x9=>
 (Fw x9 x1).bind fun r10=>
 GL a2 a0 x1 x2 r3 r4 n (zM .i64 (v5+(1:X))) (zM .i64 (v6 - r10)))
 else(
 O ((⟨x2,r3,v6,r4⟩:X0),(decide (r3≤(2880:X)))))
def NS(a0:X4)(a1:Xb)(a2 a3:V X):W (X0 × Y):=
(ix a0.Fleet a1.Ship).bind fun x1=>
(ix a3 (0:X)).bind fun x2=>
(Ni a0.Chart x1 a2 a3).bind fun r3=>
(Ny a0.Chart a1.Ship x1 a1.From a2 a3).bind fun r4=>
GL a2 a0 x1 x2 r3 r4 bigN (0:X) (zM .i64 (r3 - a1.Ready))
def IA(r3:(V X) × Y)(v8:X)(a0:X4)(a1:Xb)(x5:X6)(r6:(V (V X5)))(r7:(V X))(R9:X→(V X0)→W (V X0))(v17:V X0):W (V X0):=
R9 (zM .i64 (v8+(15:X))) v17
def Fq(r3:(V X) × Y)(a0:X4)(a1:Xb)(x5:X6)(r6:(V (V X5)))(r7:(V X)):Z→X→(V X0)→W (V X0)
| 0,_,_=>U
| n+1,v8,v9=>
 if(decide (v8≤a1.Due)) then(
 if(decide ((v9.length:X)<(8:X))) then(
  (KM a0.Chart x5 r7 r3.1 r6 v8).bind fun r12=>
  if r12.2 then(
  (NS a0 a1 r3.1 r12.1).bind fun r14=>
  if r14.2 then(
   if A3 v9.length ([r14.1]:V X0).length 48 then(
   IA r3 v8 a0 a1 x5 r6 r7 (Fq r3 a0 a1 x5 r6 r7 n) (v9++([r14.1]:V X0)))
   else U)
  else(
   IA r3 v8 a0 a1 x5 r6 r7 (Fq r3 a0 a1 x5 r6 r7 n) v9))
  else(
  IA r3 v8 a0 a1 x5 r6 r7 (Fq r3 a0 a1 x5 r6 r7 n) v9))
 else(
  O v9))
 else(
 O v9)
def KF(a0:X4)(a1:Xb):W (V X0):=
(Ko a0 a1).bind fun r1=>
if r1 then(
 (Nk a0.Chart a1.From a1.To).bind fun r3=>
 if r3.2 then(
 (ix a0.Fleet a1.Ship).bind fun x5=>
 (Qo a0.Forecast a0.Chart x5 r3.1).bind fun r6=>
 (Fs a0.Chart a1.From r3.1).bind fun r7=>
 Fq r3 a0 a1 x5 r6 r7 bigN a1.Ready ([]:V X0))
 else(
 O ([]:V X0)))
else(
 O ([]:V X0))
def IT(a1:V Xb)(a0:X4):Z→X→(V (V X0))→W (V (V X0))
| 0,_,_=>U
| n+1,v1,v2=>
 if(decide (v1<(a1.length:X))) then(
 (ix a1 v1).bind fun x4=>
 (KF a0 x4).bind fun r5=>
 if A3 v2.length ([r5]:V (V X0)).length 24 then(
  IT a1 a0 n (zM .i64 (v1+(1:X))) (v2++([r5]:V (V X0))))
 else U)
 else(
 O v2)
def NV(a0:X4)(a1:V Xb):W (V (V X0)):=
IT a1 a0 bigN (0:X) ([]:V (V X0))
def KG(a0 a1:X3):W Y:=
O (decide ((if a0.Start<a1.Start then a1.Start else a0.Start)<(if a1.End<a0.End then a1.End else a0.End)))
def NP(a2 v3 v4:X):W Y:=
O (decide ((zM .i64 (v4 - v3))<a2))
def KO(a0 a1 a2:X):W Y:=
if(decide ((if a1<a0 then a1 else a0)<(0:X))) then(
 if(decide ((zM .i64 ((if a1<a0 then a1 else a0)+(9223372036854775807:X)))<(if a0<a1 then a1 else a0))) then(
 O E)
 else(
 NP a2 (if a1<a0 then a1 else a0) (if a0<a1 then a1 else a0)))
else(
 NP a2 (if a1<a0 then a1 else a0) (if a0<a1 then a1 else a0))
def Nm(a0:X1)(a1:Xh)(a2 a3:X3):W X:=
(D6 a0).bind fun r1=>
if r1 then(
 (IE a1).bind fun r3=>
 if r3 then(
 (Aw a2.Segment (0:X) (zM .i64 ((a0.Segments.length:X) - (1:X)))).bind fun r5=>
 if r5 then(
  if(a2.Segment !=a3.Segment) then(
  O (0:X))
  else(
  if(a2.Ship==a3.Ship) then(
   (KG a2 a3).bind fun r9=>
   if r9 then(
   O (1:X))
   else(
   O (0:X)))
  else(
   if(a2.Toward==a3.Toward) then(
   (KO a2.Start a3.Start a1.Gap).bind fun r17=>
   if r17 then(
    O (3:X))
   else(
    (KO a2.End a3.End a1.Gap).bind fun r19=>
    if r19 then(
    O (3:X))
    else(
    if(decide (a2.Start<a3.Start)) then(
     if(decide (a3.End<a2.End)) then(
     O (4:X))
     else(
     if(decide (a3.Start<a2.Start)) then(
      if(decide (a2.End<a3.End)) then(
      O (4:X))
      else(
      O (0:X)))
     else(
      O (0:X))))
    else(
     if(decide (a3.Start<a2.Start)) then(
     if(decide (a2.End<a3.End)) then(
      O (4:X))
     else(
      O (0:X)))
     else(
     O (0:X))))))
   else(
   (KG a2 a3).bind fun r12=>
   if r12 then(
    if a1.NoMeet then(
    O (2:X))
    else(
    (ix a0.Segments a2.Segment).bind fun x15=>
    if x15.Meet then(
     O (0:X))
    else(
     O (2:X))))
   else(
    O (0:X))))))
 else(
  O (0:X)))
 else(
 O (0:X)))
else(
 O (0:X))
def Iq(a3 a2:V X3)(v1:X)(a0:X1)(a1:Xh)(x3:X3)(Oz:X→W Y):Z→X→W Y
| 0,_=>U
| n+1,v4=>
 if(decide (v4<(a3.length:X))) then(
 (ix a3 v4).bind fun x6=>
 (Nm a0 a1 x3 x6).bind fun r7=>
 if(r7 !=(0:X)) then(
  O F)
 else(
  Iq a3 a2 v1 a0 a1 x3 Oz n (zM .i64 (v4+(1:X)))))
 else(
 Oz (zM .i64 (v1+(1:X))))
def Fp(a3 a2:V X3)(a0:X1)(a1:Xh):Z→X→W Y
| 0,_=>U
| n+1,v1=>
 if(decide (v1<(a2.length:X))) then(
 (ix a2 v1).bind fun x3=>
 Iq a3 a2 v1 a0 a1 x3 (Fp a3 a2 a0 a1 n) bigN (0:X))
 else(
 O E)
def Ew(a0:X1)(a1:Xh)(a2 a3:V X3):W Y:=
Fp a3 a2 a0 a1 bigN (0:X)
def IS(a1:V (V X0))(x4 x8:V X0)(v1 v5 v9:X)(a0:X4)(x12:X0)(v2:V (V (V (V Y))))(v6:V (V (V Y)))(v10:V (V Y))(OF:X→(V (V Y))→W (V (V (V (V Y))))):Z→X→(V Y)→W (V (V (V (V Y))))
| 0,_,_=>U
| n+1,v13,v14=>
 if(decide (v13<(x8.length:X))) then(
 (ix x8 v13).bind fun x16=>
 (Ew a0.Chart a0.Regime x12.Passages x16.Passages).bind fun r17=>
 if A3 v14.length ([r17]:V Y).length 1 then(
  IS a1 x4 x8 v1 v5 v9 a0 x12 v2 v6 v10 OF n (zM .i64 (v13+(1:X))) (v14++([r17]:V Y)))
 else U)
 else(
 if A3 v10.length ([v14]:V (V Y)).length 24 then(
  OF (zM .i64 (v9+(1:X))) (v10++([v14]:V (V Y))))
 else U)
def FA(a1:V (V X0))(x4 x8:V X0)(v1 v5:X)(a0:X4)(v2:V (V (V (V Y))))(v6:V (V (V Y)))(OE:X→(V (V (V Y)))→W (V (V (V (V Y))))):Z→X→(V (V Y))→W (V (V (V (V Y))))
| 0,_,_=>U
| n+1,v9,v10=>
 if(decide (v9<(x4.length:X))) then(
 (ix x4 v9).bind fun x12=>
 IS a1 x4 x8 v1 v5 v9 a0 x12 v2 v6 v10 (FA a1 x4 x8 v1 v5 a0 v2 v6 OE n) bigN (0:X) ([]:V Y))
 else(
 if A3 v6.length ([v10]:V (V (V Y))).length 24 then(
  OE (zM .i64 (v5+(1:X))) (v6++([v10]:V (V (V Y)))))
 else U)
def E0(a1:V (V X0))(x4:V X0)(v1:X)(a0:X4)(v2:V (V (V (V Y))))(OD:X→(V (V (V (V Y))))→W (V (V (V (V Y))))):Z→X→(V (V (V Y)))→W (V (V (V (V Y))))
| 0,_,_=>U
| n+1,v5,v6=>
 if(decide (v5<(a1.length:X))) then(
 (ix a1 v5).bind fun x8=>
 FA a1 x4 x8 v1 v5 a0 v2 v6 (E0 a1 x4 v1 a0 v2 OD n) bigN (0:X) ([]:V (V Y)))
 else(
 if A3 v2.length ([v6]:V (V (V (V Y)))).length 24 then(
  OD (zM .i64 (v1+(1:X))) (v2++([v6]:V (V (V (V Y))))))
 else U)
def D7(a1:V (V X0))(a0:X4):Z→X→(V (V (V (V Y))))→W (V (V (V (V Y))))
| 0,_,_=>U
| n+1,v1,v2=>
 if(decide (v1<(a1.length:X))) then(
 (ix a1 v1).bind fun x4=>
 E0 a1 x4 v1 a0 v2 (D7 a1 a0 n) bigN (0:X) ([]:V (V (V Y))))
 else(
 O v2)
def NU(a0:X4)(a1:V (V X0)):W (V (V (V (V Y)))):=
D7 a1 a0 bigN (0:X) ([]:V (V (V (V Y))))
def Ku(a0:V X0)(v1 v2:X)(Oy:X→X→W X)(v7:Y):W X:=
if v7 then(
 Oy v2 (zM .i64 (v2+(1:X))))
else(
 Oy v1 (zM .i64 (v2+(1:X))))
def DW(a0:V X0):Z→X→X→W X
| 0,_,_=>U
| n+1,v1,v2=>
 if(decide (v2<(a0.length:X))) then(
 (ix a0 v2).bind fun x4=>
 if(decide (v1<(0:X))) then(
  Ku a0 v1 v2 (DW a0 n) F)
 else(
  (ix a0 v1).bind fun x6=>
  Ku a0 v1 v2 (DW a0 n) (decide (x4.Cost<x6.Cost))))
 else(
 O v1)
def Gu(a0:V X0):W X:=
DW a0 bigN (-1:X) (0:X)
def In(a0:V X0):Z→X→(V (V X3))→W (V (V X3))
| 0,_,_=>U
| n+1,v1,v2=>
 if(decide (v1<(a0.length:X))) then(
 (ix a0 v1).bind fun x4=>
 if A3 ([]:V X3).length x4.Passages.length 40 then(
  if A3 v2.length ([x4.Passages]:V (V X3)).length 24 then(
  In a0 n (zM .i64 (v1+(1:X))) (v2++([x4.Passages]:V (V X3))))
  else U)
 else U)
 else(
 O v2)
def Kt(a0:V X0):W (V (V X3)):=
In a0 bigN (0:X) ([]:V (V X3))
def KH(a0:X1)(a1:V X6)(a2:X3):W Y:=
(D6 a0).bind fun r1=>
if r1 then(
 (Kv a1).bind fun r3=>
 if r3 then(
 (Aw a2.Ship (0:X) (zM .i64 ((a1.length:X) - (1:X)))).bind fun r5=>
 if r5 then(
  (Aw a2.Segment (0:X) (zM .i64 ((a0.Segments.length:X) - (1:X)))).bind fun r7=>
  if r7 then(
  (Aw a2.Start (0:X) (2880:X)).bind fun r9=>
  if r9 then(
   (ix a1 a2.Ship).bind fun x11=>
   (KE a0 a2.Segment x11).bind fun r12=>
   if(a2.End==(zM .i64 (a2.Start+r12))) then(
   O (decide (a2.End≤(2880:X))))
   else(
   O E))
  else(
   O E))
  else(
  O E))
 else(
  O E))
 else(
 O E))
else(
 O E)
def Fx(a0:X1)(a1:X3):W (X × X):=
(ix a0.Segments a1.Segment).bind fun x1=>
if a1.Toward then(
 O (x1.A,x1.B))
else(
 O (x1.B,x1.A))
def GK(a1:V X6)(r7:X × X)(a2:V X3)(v1:X)(a0:X1)(x4:X3)(OC:X→(V Xa)→W ((V Xa) × Y)):Z→X→(V Xa)→W ((V Xa) × Y)
| 0,_,_=>U
| n+1,v8,v9=>
 (ix a1 x4.Ship).bind fun x10=>
 if(decide (v8<x10.Tugs)) then(
 if A3 v9.length ([(⟨x4.Start,x4.End,r7.1,r7.2⟩:Xa)]:V Xa).length 32 then(
  GK a1 r7 a2 v1 a0 x4 OC n (zM .i64 (v8+(1:X))) (v9++([(⟨x4.Start,x4.End,r7.1,r7.2⟩:Xa)]:V Xa)))
 else U)
 else(
 if(decide ((12:X)<(v9.length:X))) then(
  O (([]:V Xa),E))
 else(
  OC (zM .i64 (v1+(1:X))) v9))
def Fz(a1:V X6)(a2:V X3)(a0:X1):Z→X→(V Xa)→W ((V Xa) × Y)
| 0,_,_=>U
| n+1,v1,v2=>
 if(decide (v1<(a2.length:X))) then(
 (ix a2 v1).bind fun x4=>
 (KH a0 a1 x4).bind fun r5=>
 if r5 then(
  (Fx a0 x4).bind fun r7=>
  GK a1 r7 a2 v1 a0 x4 (Fz a1 a2 a0 n) bigN (0:X) v2)
 else(
  O (([]:V Xa),E)))
 else(
 O (v2,F))
def Qq(a0:X1)(a1:V X6)(a2:V X3):W ((V Xa) × Y):=
Fz a1 a2 a0 bigN (0:X) ([]:V Xa)
def IQ(a0:Xa):W Y:=
(Aw a0.From (0:X) (2880:X)).bind fun r1=>
if r1 then(
 if(decide (a0.From<a0.To)) then(
 if(decide (a0.To≤(2880:X))) then(
  (Aw a0.A (0:X) (7:X)).bind fun r5=>
  if r5 then(
  (Aw a0.B (0:X) (7:X)).bind fun r7=>
  O r7)
  else(
  O E))
 else(
  O E))
 else(
 O E))
else(
 O E)
def Iu(a0:V Xa):Z→X→W Y
| 0,_=>U
| n+1,v2=>
 if(decide (v2<(a0.length:X))) then(
 (ix a0 v2).bind fun x4=>
 (IQ x4).bind fun r5=>
 if r5 then(
  Iu a0 n (zM .i64 (v2+(1:X))))
 else(
  O E))
 else(
 O F)
def Np(a0:V Xa):W Y:=
if(decide ((12:X)<(a0.length:X))) then(
 O E)
else(
 Iu a0 bigN (0:X))
def KA(a0:X)(a1:V X)(a2 a3:Xa)(v6:Y):W (X × Y):=
if v6 then(
 O ((0:X),E))
else(
 (ix a1 (zM .i64 ((zM .i64 (a2.B*(8:X)))+a3.A))).bind fun x8=>
 O ((zM .i64 (a0+x8)),F))
def Qi(a0:X)(a1:V X)(a2 a3:Xa):W (X × Y):=
(GI a0 a1).bind fun r1=>
if r1 then(
 (Aw a2.B (0:X) (7:X)).bind fun r3=>
 if r3 then(
 (Aw a3.A (0:X) (7:X)).bind fun r5=>
 KA a0 a1 a2 a3 (!r5))
 else(
 KA a0 a1 a2 a3 F))
else(
 KA a0 a1 a2 a3 F)
def Ks(a0:X)(a1:V X)(a2 a3:Xa):W Y:=
(Qi a0 a1 a2 a3).bind fun r1=>
if r1.2 then(
 (IQ a2).bind fun r3=>
 if r3 then(
 (IQ a3).bind fun r5=>
 if r5 then(
  O (decide ((zM .i64 (a2.To+r1.1))≤a3.From)))
 else(
  O E))
 else(
 O E))
else(
 O E)
def GG(a0:X)(a1:V X)(a2:V Xa)(v1:X)(x4:Xa)(v2:V (V Y))(L7:X→(V (V Y))→W (V (V Y))):Z→X→(V Y)→W (V (V Y))
| 0,_,_=>U
| n+1,v5,v6=>
 if(decide (v5<(a2.length:X))) then(
 (ix a2 v5).bind fun x8=>
 (Ks a0 a1 x4 x8).bind fun r9=>
 if r9 then(
  if A3 v6.length ([F]:V Y).length 1 then(
  GG a0 a1 a2 v1 x4 v2 L7 n (zM .i64 (v5+(1:X))) (v6++([F]:V Y)))
  else U)
 else(
  (Ks a0 a1 x8 x4).bind fun r12=>
  if A3 v6.length ([r12]:V Y).length 1 then(
  GG a0 a1 a2 v1 x4 v2 L7 n (zM .i64 (v5+(1:X))) (v6++([r12]:V Y)))
  else U))
 else(
 if A3 v2.length ([v6]:V (V Y)).length 24 then(
  L7 (zM .i64 (v1+(1:X))) (v2++([v6]:V (V Y))))
 else U)
def Fy(a0:X)(a1:V X)(a2:V Xa):Z→X→(V (V Y))→W (V (V Y))
| 0,_,_=>U
| n+1,v1,v2=>
 if(decide (v1<(a2.length:X))) then(
 (ix a2 v1).bind fun x4=>
 GG a0 a1 a2 v1 x4 v2 (Fy a0 a1 a2 n) bigN (0:X) ([]:V Y))
 else(
 O v2)
def NQ(a0:X)(a1:V X)(a2:V Xa):W (V (V Y)):=
Fy a0 a1 a2 bigN (0:X) ([]:V (V Y))
def KP(rec_:(V (V Y))→(V X)→X→W ((V X) × Y))(a0:V (V Y))(a1:V X)(a2 v2 v6:X)(De:X→W ((V X) × Y)):W ((V X) × Y):=
De (zM .i64 (v6+(1:X)))
def Dv(rec_:(V (V Y))→(V X)→X→W ((V X) × Y))(a0:V (V Y))(a1:V X)(a2 v2 v6:X)(De:X→W ((V X) × Y)):Z→Y→X→W ((V X) × Y)
| 0,_,_=>U
| n+1,v9,v10=>
 if(decide (v10<(a1.length:X))) then(
 (ix a1 v10).bind fun x12=>
 if(x12==v6) then(
  (ix a0 (a1.length:X)).bind fun x14=>
  (ix x14 v10).bind fun x15=>
  if x15 then(
  Dv rec_ a0 a1 a2 v2 v6 De n v9 (zM .i64 (v10+(1:X))))
  else(
  Dv rec_ a0 a1 a2 v2 v6 De n E (zM .i64 (v10+(1:X)))))
 else(
  Dv rec_ a0 a1 a2 v2 v6 De n v9 (zM .i64 (v10+(1:X)))))
 else(
 if v9 then(
  if A3 ([]:V X).length a1.length 8 then(
  if A3 a1.length ([v6]:V X).length 8 then(
   (rec_ a0 (a1++([v6]:V X)) a2).bind fun r20=>
   if r20.2 then(
   O (r20.1,F))
   else(
   KP rec_ a0 a1 a2 v2 v6 De))
  else U)
  else U)
 else(
  KP rec_ a0 a1 a2 v2 v6 De))
def DZ(rec_:(V (V Y))→(V X)→X→W ((V X) × Y))(a0:V (V Y))(a1:V X)(a2 v2:X):Z→X→W ((V X) × Y)
| 0,_=>U
| n+1,v6=>
 if(decide (v6≤v2)) then(
 if(decide (v6<a2)) then(
  Dv rec_ a0 a1 a2 v2 v6 (DZ rec_ a0 a1 a2 v2 n) bigN F (0:X))
 else(
  O (([]:V X),E)))
 else(
 O (([]:V X),E))
def GH(rec_:(V (V Y))→(V X)→X→W ((V X) × Y))(a0:V (V Y))(a1:V X)(a2:X):Z→X→X→W ((V X) × Y)
| 0,_,_=>U
| n+1,v2,v3=>
 if(decide (v3<(a1.length:X))) then(
 (ix a1 v3).bind fun x5=>
 GH rec_ a0 a1 a2 n (if v2<(zM .i64 (x5+(1:X))) then(zM .i64 (x5+(1:X))) else v2) (zM .i64 (v3+(1:X))))
 else(
 DZ rec_ a0 a1 a2 v2 bigN (0:X))
def NR(rec_:(V (V Y))→(V X)→X→W ((V X) × Y))(a0:V (V Y))(a1:V X)(a2:X):W ((V X) × Y):=
if((a1.length:X)==(a0.length:X)) then(
 O (a1,F))
else(
 GH rec_ a0 a1 a2 bigN (0:X) (0:X))
def Cl:Z→(V (V Y))→(V X)→X→W ((V X) × Y)
| 0,_,_,_=>U
| n+1,a0,a1,a2=>NR (Cl n) a0 a1 a2
def Qp(a0:V (V Y))(a1:V X)(a2:X):W ((V X) × Y):=Cl bigN a0 a1 a2
def Iy(a2:V Xa)(r6:(V (V Y))):Z→X→W ((V X) × X × Y)
| 0,_=>U
| n+1,v7=>
 if(decide (v7≤(a2.length:X))) then(
 (Qp r6 ([]:V X) v7).bind fun r9=>
 if r9.2 then(
  O (r9.1,v7,F))
 else(
  Iy a2 r6 n (zM .i64 (v7+(1:X)))))
 else(
 O (([]:V X),(0:X),E))
def Nu(a0:X)(a1:V X)(a2:V Xa)(v4:Y):W ((V X) × X × Y):=
if v4 then(
 O (([]:V X),(0:X),E))
else(
 (NQ a0 a1 a2).bind fun r6=>
 Iy a2 r6 bigN (0:X))
def Ix(a0:X)(a1:V X)(a2:V Xa):W ((V X) × X × Y):=
(Np a2).bind fun r1=>
if r1 then(
 (GI a0 a1).bind fun r3=>
 Nu a0 a1 a2 (!r3))
else(
 Nu a0 a1 a2 F)
def KI(a0:Xm)(a1:X1)(a2:V X6)(a3:V X3):W X:=
(Qq a1 a2 a3).bind fun r1=>
(Ir a0).bind fun r2=>
if r2 then(
 if r1.2 then(
 (Ix (0:X) a0.Moves r1.1).bind fun r5=>
 if r5.2.2 then(
  O r5.2.1)
 else(
  O (-1:X)))
 else(
 O (-1:X)))
else(
 O (-1:X))
def Gw(a1:V X3)(a0:X1):Z→X→W Y
| 0,_=>U
| n+1,v3=>
 if(decide (v3<(a1.length:X))) then(
 (ix a1 v3).bind fun x5=>
 (ix a1 (0:X)).bind fun x6=>
 if(x5.Ship !=x6.Ship) then(
  O E)
 else(
  (Aw x5.Segment (0:X) (zM .i64 ((a0.Segments.length:X) - (1:X)))).bind fun r9=>
  if r9 then(
  if(v3==(0:X)) then(
   Gw a1 a0 n (zM .i64 (v3+(1:X))))
  else(
   (Fx a0 x5).bind fun r12=>
   (ix a1 (zM .i64 (v3 - (1:X)))).bind fun x13=>
   (Fx a0 x13).bind fun r14=>
   if(r12.1 !=r14.2) then(
   O E)
   else(
   if(decide (x5.Start<x13.End)) then(
    O E)
   else(
    Gw a1 a0 n (zM .i64 (v3+(1:X)))))))
  else(
  O E)))
 else(
 O F)
def Nr(a0:X1)(a1:V X3):W Y:=
(D6 a0).bind fun r1=>
if r1 then(
 Gw a1 a0 bigN (0:X))
else(
 O E)
def IC(a1:V X6)(a2:V X3)(a0:X1):Z→X→W (Xa × Y)
| 0,_=>U
| n+1,v5=>
 if(decide (v5<(a2.length:X))) then(
 (ix a2 v5).bind fun x7=>
 (KH a0 a1 x7).bind fun r9=>
 if r9 then(
  IC a1 a2 a0 n (zM .i64 (v5+(1:X))))
 else(
  O ((⟨(0:X),(0:X),(0:X),(0:X)⟩:Xa),E)))
 else(
 (ix a2 (zM .i64 ((a2.length:X) - (1:X)))).bind fun x11=>
 (ix a2 (0:X)).bind fun x12=>
 (Fx a0 x12).bind fun r13=>
 (Fx a0 x11).bind fun r14=>
 O ((⟨x12.Start,x11.End,r13.1,r14.2⟩:Xa),F))
def NA(a1:V X6)(a2:V X3)(a0:X1)(v3:Y):W (Xa × Y):=
if v3 then(
 O ((⟨(0:X),(0:X),(0:X),(0:X)⟩:Xa),E))
else(
 IC a1 a2 a0 bigN (0:X))
def Nz(a0:X1)(a1:V X6)(a2:V X3):W (Xa × Y):=
if((a2.length:X)==(0:X)) then(
 NA a1 a2 a0 F)
else(
 (Nr a0 a2).bind fun r2=>
 NA a1 a2 a0 (!r2))
def Gy(a2:V X6)(a3:V (V X3))(a0:Xm)(a1:X1):Z→X→(V Xa)→W X
| 0,_,_=>U
| n+1,v3,v4=>
 if(decide (v3<(a3.length:X))) then(
 (ix a3 v3).bind fun x6=>
 if((x6.length:X)==(0:X)) then(
  Gy a2 a3 a0 a1 n (zM .i64 (v3+(1:X))) v4)
 else(
  (Nz a1 a2 x6).bind fun r9=>
  if r9.2 then(
  if A3 v4.length ([r9.1]:V Xa).length 32 then(
   Gy a2 a3 a0 a1 n (zM .i64 (v3+(1:X))) (v4++([r9.1]:V Xa)))
  else U)
  else(
  O (-1:X))))
 else(
 (Ix a0.Rest a0.Moves v4).bind fun r12=>
 if r12.2.2 then(
  O r12.2.1)
 else(
  O (-1:X)))
def NB(a0:Xm)(a1:X1)(a2:V X6)(a3:V (V X3)):W X:=
(Ir a0).bind fun r1=>
if r1 then(
 Gy a2 a3 a0 a1 bigN (0:X) ([]:V Xa))
else(
 O (-1:X))
def It(a2:V X6)(a3:V (V X3))(a0:Xm)(a1:X1):Z→X→(V X3)→W Y
| 0,_,_=>U
| n+1,v1,v2=>
 if(decide (v1<(a3.length:X))) then(
 (ix a3 v1).bind fun x4=>
 if A3 v2.length x4.length 40 then(
  It a2 a3 a0 a1 n (zM .i64 (v1+(1:X))) (v2++x4))
 else U)
 else(
 (KI a0 a1 a2 v2).bind fun r6=>
 (Aw r6 (0:X) a0.Tugs).bind fun r7=>
 if r7 then(
  (NB a0 a1 a2 a3).bind fun r9=>
  (Aw r9 (0:X) a0.Pilots).bind fun r10=>
  O r10)
 else(
  O E))
def Nn(a0:Xm)(a1:X1)(a2:V X6)(a3:V (V X3)):W Y:=
It a2 a3 a0 a1 bigN (0:X) ([]:V X3)
def D8(rec_:Xe→(V X)→X→W Xe)(a1:V X)(a2:X)(a0:Xe)(v4:Y):Z→X→(V X0)→W Xe
| 0,_,_=>U
| n+1,v6,v7=>
 if(decide (v6<(a1.length:X))) then(
 (ix a1 v6).bind fun x9=>
 (ix a0.lists v6).bind fun x10=>
 (ix x10 x9).bind fun x11=>
 if A3 v7.length ([x11]:V X0).length 48 then(
  D8 rec_ a1 a2 a0 v4 n (zM .i64 (v6+(1:X))) (v7++([x11]:V X0)))
 else U)
 else(
 (Kt v7).bind fun r13=>
 (Nn a0.h.Crew a0.h.Chart a0.h.Fleet r13).bind fun r14=>
 if r14 then(
  if A3 ([]:V X).length a1.length 8 then(
  O (⟨a0.h,a0.lists,a0.clash,a0.rest,a1,a2,F⟩:Xe))
  else U)
 else(
  O (⟨a0.h,a0.lists,a0.clash,a0.rest,a0.best,a0.cost,v4⟩:Xe)))
def Dw(rec_:Xe→(V X)→X→W Xe)(a1:V X)(a2 v18:X)(x17:V X0)(v19:X)(v20:V Xc)(v21:V X9)(v22:V X7)(v23:V X2)(v24:V X6)(v25:X)(v26:Y)(v27 v28 v29:X)(v30:V X)(v31:V (V X0))(v32:V (V (V (V Y))))(v33:V X)(v34:X)(v35:Y)(x38:X0)(v36:V X)(J5:X→X→(V Xc)→(V X9)→(V X7)→(V X2)→(V X6)→X→Y→X→X→X→(V X)→(V (V X0))→(V (V (V (V Y))))→(V X)→X→Y→(V X)→W Xe):Z→Y→X→W Xe
| 0,_,_=>U
| n+1,v39,v40=>
 if(decide (v40<(a1.length:X))) then(
 (ix a1 v40).bind fun x42=>
 (ix v32 (a1.length:X)).bind fun x43=>
 (ix x43 v40).bind fun x44=>
 (ix x44 v18).bind fun x45=>
 (ix x45 x42).bind fun x46=>
 if x46 then(
  Dw rec_ a1 a2 v18 x17 v19 v20 v21 v22 v23 v24 v25 v26 v27 v28 v29 v30 v31 v32 v33 v34 v35 x38 v36 J5 n E (zM .i64 (v40+(1:X))))
 else(
  Dw rec_ a1 a2 v18 x17 v19 v20 v21 v22 v23 v24 v25 v26 v27 v28 v29 v30 v31 v32 v33 v34 v35 x38 v36 J5 n v39 (zM .i64 (v40+(1:X)))))
 else(
 if v39 then(
  if A3 ([]:V X).length a1.length 8 then(
  if A3 a1.length ([v18]:V X).length 8 then(
   (rec_ (⟨(⟨(⟨(⟨v19,v20⟩:Xl),v21⟩:Xd),(⟨v22,v23⟩:X1),v24,(⟨v25,v26⟩:Xh),(⟨v27,v28,v29,v30⟩:Xm)⟩:X4),v31,v32,v33,v36,v34,v35⟩:Xe) (a1++([v18]:V X)) (zM .i64 (a2+x38.Cost))).bind fun r51=>
   J5 (zM .i64 (v18+(1:X))) r51.h.Forecast.Tide.Mean r51.h.Forecast.Tide.Parts r51.h.Forecast.Surges r51.h.Chart.Points r51.h.Chart.Segments r51.h.Fleet r51.h.Regime.Gap r51.h.Regime.NoMeet r51.h.Crew.Tugs r51.h.Crew.Pilots r51.h.Crew.Rest r51.h.Crew.Moves r51.lists r51.clash r51.rest r51.cost r51.found r51.best)
  else U)
  else U)
 else(
  J5 (zM .i64 (v18+(1:X))) v19 v20 v21 v22 v23 v24 v25 v26 v27 v28 v29 v30 v31 v32 v33 v34 v35 v36))
def EB(rec_:Xe→(V X)→X→W Xe)(a1:V X)(a2:X)(x17:V X0):Z→X→X→(V Xc)→(V X9)→(V X7)→(V X2)→(V X6)→X→Y→X→X→X→(V X)→(V (V X0))→(V (V (V (V Y))))→(V X)→X→Y→(V X)→W Xe
| 0,_,_,_,_,_,_,_,_,_,_,_,_,_,_,_,_,_,_,_=>U
| n+1,v18,v19,v20,v21,v22,v23,v24,v25,v26,v27,v28,v29,v30,v31,v32,v33,v34,v35,v36=>
 if(decide (v18<(x17.length:X))) then(
 (ix x17 v18).bind fun x38=>
 Dw rec_ a1 a2 v18 x17 v19 v20 v21 v22 v23 v24 v25 v26 v27 v28 v29 v30 v31 v32 v33 v34 v35 x38 v36 (EB rec_ a1 a2 x17 n) bigN F (0:X))
 else(
 O (⟨(⟨(⟨(⟨v19,v20⟩:Xl),v21⟩:Xd),(⟨v22,v23⟩:X1),v24,(⟨v25,v26⟩:Xh),(⟨v27,v28,v29,v30⟩:Xm)⟩:X4),v31,v32,v33,v36,v34,v35⟩:Xe))
def GM(rec_:Xe→(V X)→X→W Xe)(a1:V X)(a2:X)(a0:Xe)(v4:Y):W Xe:=
if((a1.length:X)==(a0.lists.length:X)) then(
 D8 rec_ a1 a2 a0 v4 bigN (0:X) ([]:V X0))
else(
 (ix a0.lists (a1.length:X)).bind fun x17=>
 EB rec_ a1 a2 x17 bigN (0:X) a0.h.Forecast.Tide.Mean a0.h.Forecast.Tide.Parts a0.h.Forecast.Surges a0.h.Chart.Points a0.h.Chart.Segments a0.h.Fleet a0.h.Regime.Gap a0.h.Regime.NoMeet a0.h.Crew.Tugs a0.h.Crew.Pilots a0.h.Crew.Rest a0.h.Crew.Moves a0.lists a0.clash a0.rest a0.cost v4 a0.best)
def Qr(rec_:Xe→(V X)→X→W Xe)(a0:Xe)(a1:V X)(a2:X):W Xe:=
if a0.found then(
 (ix a0.rest (a1.length:X)).bind fun x2=>
 if(decide (a0.cost≤(zM .i64 (a2+x2)))) then(
 O (⟨a0.h,a0.lists,a0.clash,a0.rest,a0.best,a0.cost,F⟩:Xe))
 else(
 GM rec_ a1 a2 a0 F))
else(
 GM rec_ a1 a2 a0 E)
def BO:Z→Xe→(V X)→X→W Xe
| 0,_,_,_=>U
| n+1,a0,a1,a2=>Qr (BO n) a0 a1 a2
def SI(a0:Xe)(a1:V X)(a2:X):W Xe:=BO bigN a0 a1 a2
def IR(a1:V (V X0))(a0:X4)(r1:(V (V (V (V Y))))):Z→X→(V X)→W ((V X) × X × Y)
| 0,_,_=>U
| n+1,v3,v4=>
 if(decide ((0:X)≤v3)) then(
 (ix a1 v3).bind fun x6=>
 (Gu x6).bind fun r7=>
 if(decide (r7<(0:X))) then(
  O (([]:V X),(0:X),E))
 else(
  (ix v4 (zM .i64 (v3+(1:X)))).bind fun x9=>
  (ix x6 r7).bind fun x10=>
  (ix v4 v3).bind fun x11=>
  IR a1 a0 r1 n (zM .i64 (v3 - (1:X))) (v4.set (zD v3) (zM .i64 (x9+x10.Cost)))))
 else(
 (SI (⟨a0,a1,r1,v4,([]:V X),(0:X),E⟩:Xe) ([]:V X) (0:X)).bind fun r12=>
 if r12.found then(
  O (r12.best,r12.cost,F))
 else(
  O (([]:V X),(0:X),E)))
def NT(a0:X4)(a1:V (V X0)):W ((V X) × X × Y):=
(NU a0 a1).bind fun r1=>
(BI (zM .i64 ((a1.length:X)+(1:X))) (zM .i64 ((a1.length:X)+(1:X))) 8).bind fun n2=>
IR a1 a0 r1 bigN (zM .i64 ((a1.length:X) - (1:X))) (zG n2 (0:X))
def Nj(a0:X4)(a1:V Xb):W ((V X) × X × Y):=
(Fo a0 a1).bind fun r1=>
if r1 then(
 (NV a0 a1).bind fun r3=>
 (NT a0 r3).bind fun r4=>
 O (r4.1,r4.2.1,r4.2.2))
else(
 O (([]:V X),(0:X),E))
def KR(rec_:(V X)→(V (V X))→W (V (V X)))(a0:V X)(v1 v5:X)(Rd:X→(V (V X))→W (V (V X)))(v14:V (V X)):W (V (V X)):=
Rd (zM .i64 (v5+(1:X))) v14
def IU(rec_:(V X)→(V (V X))→W (V (V X)))(a0:V X)(v1:X):Z→X→(V (V X))→W (V (V X))
| 0,_,_=>U
| n+1,v5,v6=>
 if(decide (v5<(a0.length:X))) then(
 (ix a0 v5).bind fun x8=>
 if(decide (x8<(0:X))) then(
  if A3 ([]:V X).length a0.length 8 then(
  (ix a0 v1).bind fun x11=>
  (ix (a0.set (zD v1) v5) v5).bind fun x12=>
  (rec_ ((a0.set (zD v1) v5).set (zD v5) v1) v6).bind fun r13=>
  KR rec_ a0 v1 v5 (IU rec_ a0 v1 n) r13)
  else U)
 else(
  KR rec_ a0 v1 v5 (IU rec_ a0 v1 n) v6))
 else(
 O v6)
def KQ(rec_:(V X)→(V (V X))→W (V (V X)))(a0:V X)(a1:V (V X)):Z→X→W (V (V X))
| 0,_=>U
| n+1,v1=>
 if(decide (v1<(a0.length:X))) then(
 (ix a0 v1).bind fun x3=>
 if(decide ((0:X)≤x3)) then(
  KQ rec_ a0 a1 n (zM .i64 (v1+(1:X))))
 else(
  IU rec_ a0 v1 bigN v1 a1))
 else(
 if A3 a1.length ([a0]:V (V X)).length 24 then(
  O (a1++([a0]:V (V X))))
 else U)
def Qt(rec_:(V X)→(V (V X))→W (V (V X)))(a0:V X)(a1:V (V X)):W (V (V X)):=
KQ rec_ a0 a1 bigN (0:X)
def FB:Z→(V X)→(V (V X))→W (V (V X))
| 0,_,_=>U
| n+1,a0,a1=>Qt (FB n) a0 a1
def Qs(a0:V X)(a1:V (V X)):W (V (V X)):=FB bigN a0 a1
def IV(a2:V X0)(v5:X)(a1:V X0)(v2 v6:X)(a0:X4)(x4 x8:X0)(OG:X→X→W X)(v13:Y):W X:=
if v13 then(
 OG (zM .i64 (x4.Cost+x8.Cost)) (zM .i64 (v6+(1:X))))
else(
 OG v5 (zM .i64 (v6+(1:X))))
def E1(a2 a1:V X0)(v2:X)(a0:X4)(x4:X0)(J6:X→X→W X):Z→X→X→W X
| 0,_,_=>U
| n+1,v5,v6=>
 if(decide (v6<(a2.length:X))) then(
 (ix a2 v6).bind fun x8=>
 if(decide (v5<(0:X))) then(
  (Ew a0.Chart a0.Regime x4.Passages x8.Passages).bind fun r10=>
  IV a2 v5 a1 v2 v6 a0 x4 x8 (E1 a2 a1 v2 a0 x4 J6 n) (!r10))
 else(
  if(decide ((zM .i64 (x4.Cost+x8.Cost))<v5)) then(
  (Ew a0.Chart a0.Regime x4.Passages x8.Passages).bind fun r12=>
  IV a2 v5 a1 v2 v6 a0 x4 x8 (E1 a2 a1 v2 a0 x4 J6 n) (!r12))
  else(
  IV a2 v5 a1 v2 v6 a0 x4 x8 (E1 a2 a1 v2 a0 x4 J6 n) E)))
 else(
 J6 v5 (zM .i64 (v2+(1:X))))
def EC(a2 a1:V X0)(a0:X4):Z→X→X→W X
| 0,_,_=>U
| n+1,v1,v2=>
 if(decide (v2<(a1.length:X))) then(
 (ix a1 v2).bind fun x4=>
 E1 a2 a1 v2 a0 x4 (EC a2 a1 a0 n) bigN v1 (0:X))
 else(
 O v1)
def KT(a0:X4)(a1 a2:V X0):W X:=
EC a2 a1 a0 bigN (-1:X) (0:X)
def FD(a1:V (V X0))(v1:X)(a2:V X)(v2:X)(a0:X4)(Re:X→X→W (X × Y))(v15:X):W (X × Y):=
Re (zM .i64 (v1+v15)) (zM .i64 (v2+(1:X)))
def Dx(a1:V (V X0))(a2:V X)(a0:X4):Z→X→X→W (X × Y)
| 0,_,_=>U
| n+1,v1,v2=>
 if(decide (v2<(a2.length:X))) then(
 (ix a2 v2).bind fun x4=>
 if(x4==v2) then(
  (ix a1 v2).bind fun x6=>
  (Gu x6).bind fun r7=>
  if(decide (r7<(0:X))) then(
  O ((0:X),E))
  else(
  (ix x6 r7).bind fun x9=>
  FD a1 v1 a2 v2 a0 (Dx a1 a2 a0 n) x9.Cost))
 else(
  if(decide (v2<x4)) then(
  (ix a1 v2).bind fun x11=>
  (ix a1 x4).bind fun x12=>
  (KT a0 x11 x12).bind fun r13=>
  if(decide (r13<(0:X))) then(
   O ((0:X),E))
  else(
   FD a1 v1 a2 v2 a0 (Dx a1 a2 a0 n) r13))
  else(
  FD a1 v1 a2 v2 a0 (Dx a1 a2 a0 n) (0:X))))
 else(
 O (v1,F))
def GN(a0:X4)(a1:V (V X0))(a2:V X):W (X × Y):=
Dx a1 a2 a0 bigN (0:X) (0:X)
def Km(v10:V X)(v11:X)(x15:V X)(r16:X × Y)(r9:(V (V X)))(v13:X)(a0:X4)(r3:(V (V X0)))(Ou:(V X)→X→Y→X→W ((V X) × X × Y))(v19 v20:Y):W ((V X) × X × Y):=
if v20 then(
 Ou x15 r16.1 F (zM .i64 (v13+(1:X))))
else(
 Ou v10 v11 v19 (zM .i64 (v13+(1:X))))
def Et(r9:(V (V X)))(a0:X4)(r3:(V (V X0))):Z→(V X)→X→Y→X→W ((V X) × X × Y)
| 0,_,_,_,_=>U
| n+1,v10,v11,v12,v13=>
 if(decide (v13<(r9.length:X))) then(
 (ix r9 v13).bind fun x15=>
 (GN a0 r3 x15).bind fun r16=>
 if r16.2 then(
  if v12 then(
  Km v10 v11 x15 r16 r9 v13 a0 r3 (Et r9 a0 r3 n) F (decide (v11<r16.1)))
  else(
  Km v10 v11 x15 r16 r9 v13 a0 r3 (Et r9 a0 r3 n) E F))
 else(
  Km v10 v11 x15 r16 r9 v13 a0 r3 (Et r9 a0 r3 n) v12 E))
 else(
 if v12 then(
  O (v10,v11,F))
 else(
  O (([]:V X),(0:X),E)))
def Im(a1:V Xb)(a0:X4)(r3:(V (V X0))):Z→X→(V X)→W ((V X) × X × Y)
| 0,_,_=>U
| n+1,v4,v5=>
 if(decide (v4<(a1.length:X))) then(
 if A3 v5.length ([(-1:X)]:V X).length 8 then(
  Im a1 a0 r3 n (zM .i64 (v4+(1:X))) (v5++([(-1:X)]:V X)))
 else U)
 else(
 (Qs v5 ([]:V (V X))).bind fun r9=>
 Et r9 a0 r3 bigN ([]:V X) (0:X) E (0:X))
def Kl(a0:X4)(a1:V Xb):W ((V X) × X × Y):=
(Fo a0 a1).bind fun r1=>
if r1 then(
 (NV a0 a1).bind fun r3=>
 Im a1 a0 r3 bigN (0:X) ([]:V X))
else(
 O (([]:V X),(0:X),E))
def Ky(rec_:X→W (V zA)):Z→X→(V zA)→W (V zA)
| 0,_,_=>U
| n+1,v6,v7=>
 if(decide ((9:X)<v6)) then(
 if Cy ([(IntKind.u8.wrap (zM .i64 ((48:X)+(zM .i64 (zI v6 (10:X))))))]:V X).length v7.length then(
  Ky rec_ n (zM .i64 (zE v6 (10:X))) ((zB Js ([(IntKind.u8.wrap (zM .i64 ((48:X)+(zM .i64 (zI v6 (10:X))))))]:V X))++v7))
 else U)
 else(
 if Cy ([(IntKind.u8.wrap (zM .i64 ((48:X)+v6)))]:V X).length v7.length then(
  O ((zB Js ([(IntKind.u8.wrap (zM .i64 ((48:X)+v6)))]:V X))++v7))
 else U)
def Kz(rec_:X→W (V zA))(a0:X):W (V zA):=
if(decide (a0<(0:X))) then(
 if((zM .i64 (zE a0 (10:X)))==(0:X)) then(
 if Cy ([45]:V zA).length ([(IntKind.u8.wrap (zM .i64 ((48:X) - a0)))]:V X).length then(
  O (([45]:V zA)++(zB Js ([(IntKind.u8.wrap (zM .i64 ((48:X) - a0)))]:V X))))
 else U)
 else(
 (rec_ (zM .i64 (zE a0 (10:X)))).bind fun r4=>
 if Cy r4.length ([(IntKind.u8.wrap (zM .i64 ((48:X) - (zM .i64 (zI a0 (10:X))))))]:V X).length then(
  O (r4++(zB Js ([(IntKind.u8.wrap (zM .i64 ((48:X) - (zM .i64 (zI a0 (10:X))))))]:V X))))
 else U))
else(
 Ky rec_ bigN a0 ([]:V zA))
def Ex:Z→X→W (V zA)
| 0,_=>U
| n+1,a0=>Kz (Ex n) a0
def Kx(a0:X):W (V zA):=Ex bigN a0
def Nl(a0:X4)(a1:V Xb):W (V zA):=
(Fo a0 a1).bind fun r1=>
if r1 then(
 (Nj a0 a1).bind fun r3=>
 if r3.2.2 then(
 (Kl a0 a1).bind fun r5=>
 (Kx r3.2.1).bind fun r6=>
 if Cy ([99,111,115,116,32]:V zA).length r6.length then(
  if Cy (([99,111,115,116,32]:V zA)++r6).length ([32,98,111,117,110,100,32]:V zA).length then(
  (Kx r5.2.1).bind fun r9=>
  if Cy ((([99,111,115,116,32]:V zA)++r6)++([32,98,111,117,110,100,32]:V zA)).length r9.length then(
   if Cy (((([99,111,115,116,32]:V zA)++r6)++([32,98,111,117,110,100,32]:V zA))++r9).length ([32,103,97,112,32]:V zA).length then(
   (Kx (zM .i64 (r3.2.1 - r5.2.1))).bind fun r12=>
   if Cy ((((([99,111,115,116,32]:V zA)++r6)++([32,98,111,117,110,100,32]:V zA))++r9)++([32,103,97,112,32]:V zA)).length r12.length then(
    O (((((([99,111,115,116,32]:V zA)++r6)++([32,98,111,117,110,100,32]:V zA))++r9)++([32,103,97,112,32]:V zA))++r12))
   else U)
   else U)
  else U)
  else U)
 else U)
 else(
 O ([110,111,32,112,108,97,110]:V zA)))
else(
 O ([]:V zA))
def BN(a0 a1 a2:X):W Y:=
if(decide (a1≤a0)) then(
 O (decide (a0≤a2)))
else(
 O E)
def Kd(a0:X):W Y:=
(BN a0 (4:X) (2880:X)).bind fun r1=>
if r1 then(
 O ((zM .i64 (zI a0 (4:X)))==(0:X)))
else(
 O E)
def Mc(a0:Xc):W Y:=
(BN a0.Amp (0:X) (1000:X)).bind fun r1=>
if r1 then(
 (Kd a0.Period).bind fun r3=>
 if r3 then(
 (BN a0.Phase (0:X) (zM .i64 (a0.Period - (1:X)))).bind fun r5=>
 O r5)
 else(
 O E))
else(
 O E)
def HN(a0:Xl):Z→X→W Y
| 0,_=>U
| n+1,v4=>
 if(decide (v4<(a0.Parts.length:X))) then(
 (ix a0.Parts v4).bind fun x6=>
 (Mc x6).bind fun r7=>
 if r7 then(
  HN a0 n (zM .i64 (v4+(1:X))))
 else(
  O E))
 else(
 O F)
def Mm(a0:Xl):W Y:=
(BN a0.Mean (-1000:X) (1000:X)).bind fun r1=>
if r1 then(
 if(decide ((4:X)<(a0.Parts.length:X))) then(
 O E)
 else(
 HN a0 bigN (0:X)))
else(
 O E)
def CU(a0:X):W Y:=
(BN a0 (0:X) (2880:X)).bind fun r1=>
O r1
def Ml(a0:X9):W Y:=
(CU a0.From).bind fun r1=>
if r1 then(
 if(decide ((-500:X)≤a0.Low)) then(
 if(decide (a0.Low≤a0.High)) then(
  O (decide (a0.High≤(500:X))))
 else(
  O E))
 else(
 O E))
else(
 O E)
def Gc(a0:Xd):Z→X→W Y
| 0,_=>U
| n+1,v7=>
 if(decide (v7<(a0.Surges.length:X))) then(
 (ix a0.Surges v7).bind fun x9=>
 (Ml x9).bind fun r10=>
 if r10 then(
  if(decide ((0:X)<v7)) then(
  (ix a0.Surges (zM .i64 (v7 - (1:X)))).bind fun x13=>
  if(decide (x9.From≤x13.From)) then(
   O E)
  else(
   Gc a0 n (zM .i64 (v7+(1:X)))))
  else(
  Gc a0 n (zM .i64 (v7+(1:X)))))
 else(
  O E))
 else(
 O F)
def Gb(a0:Xd):W Y:=
(Mm a0.Tide).bind fun r1=>
if r1 then(
 (BN (a0.Surges.length:X) (1:X) (6:X)).bind fun r3=>
 if r3 then(
 (ix a0.Surges (0:X)).bind fun x5=>
 if(x5.From !=(0:X)) then(
  O E)
 else(
  Gc a0 bigN (0:X)))
 else(
 O E))
else(
 O E)
def M5(a0:V zA)(v3:X)(EG:X→W Y):W Y:=
EG (zM .i64 (v3+(1:X)))
def M4(a0:V zA)(v3:X)(EG:X→W Y)(v7:Y):W Y:=
if v7 then(
 M5 a0 v3 EG)
else(
 if(v3==(0:X)) then(
 O E)
 else(
 (ix a0 v3).bind fun b10=>
 if(decide ((b10.toNat:X)<(48:X))) then(
  O E)
 else(
  if(decide ((57:X)<(b10.toNat:X))) then(
  O E)
  else(
  M5 a0 v3 EG))))
def Gd(a0:V zA):Z→X→W Y
| 0,_=>U
| n+1,v3=>
 if(decide (v3<(a0.length:X))) then(
 (ix a0 v3).bind fun b5=>
 if(decide ((97:X)≤(b5.toNat:X))) then(
  M4 a0 v3 (Gd a0 n) (decide ((b5.toNat:X)≤(122:X))))
 else(
  M4 a0 v3 (Gd a0 n) E))
 else(
 O F)
def JY(a0:V zA):W Y:=
(BN (a0.length:X) (1:X) (8:X)).bind fun r1=>
if r1 then(
 Gd a0 bigN (0:X))
else(
 O E)
def HK(a1:V zA)(a0:X1):Z→X→W X
| 0,_=>U
| n+1,v1=>
 if(decide (v1<(a0.Points.length:X))) then(
 (ix a0.Points v1).bind fun x3=>
 if(x3.Name==a1) then(
  O v1)
 else(
  HK a1 a0 n (zM .i64 (v1+(1:X)))))
 else(
 O (-1:X))
def Mf(a0:X1)(a1:V zA):W X:=
HK a1 a0 bigN (0:X)
def Bt(a0 a1:X):W Y:=
if(decide ((0:X)≤a0)) then(
 O (decide (a0<a1)))
else(
 O E)
def Mh(a0:X2)(a1 a2:X):W Y:=
if(a0.A==a1) then(
 if(a0.B==a2) then(
 O F)
 else(
 if(a0.A==a2) then(
  O (a0.B==a1))
 else(
  O E)))
else(
 if(a0.A==a2) then(
 O (a0.B==a1))
 else(
 O E))
def Hv(a0:X1)(v11:X)(x13:X2)(y24:V X2)(y25:X)(Oj:X→W Y):Z→X→W Y
| 0,_=>U
| n+1,v26=>
 if(decide (v26<y25)) then(
 (ix y24 v26).bind fun x28=>
 (Mh x28 x13.A x13.B).bind fun r29=>
 if r29 then(
  O E)
 else(
  Hv a0 v11 x13 y24 y25 Oj n (zM .i64 (v26+(1:X)))))
 else(
 Oj (zM .i64 (v11+(1:X))))
def Em(a0:X1):Z→X→W Y
| 0,_=>U
| n+1,v11=>
 if(decide (v11<(a0.Segments.length:X))) then(
 (ix a0.Segments v11).bind fun x13=>
 (Bt x13.A (a0.Points.length:X)).bind fun r14=>
 if r14 then(
  (Bt x13.B (a0.Points.length:X)).bind fun r16=>
  if r16 then(
  if(x13.A==x13.B) then(
   O E)
  else(
   (BN x13.Depth (0:X) (3000:X)).bind fun r19=>
   if r19 then(
   (BN x13.Minutes (1:X) (240:X)).bind fun r21=>
   if r21 then(
    (bnd (a0.Segments.length:X) v11 (0:X) a0.Segments.length).bind fun p23=>
    Hv a0 v11 x13 ((a0.Segments.drop p23.1).take (p23.2 - p23.1)) (((a0.Segments.drop p23.1).take (p23.2 - p23.1)).length:X) (Em a0 n) bigN (0:X))
   else(
    O E))
   else(
   O E)))
  else(
  O E))
 else(
  O E))
 else(
 O F)
def Hu(a0:X1):Z→X→W Y
| 0,_=>U
| n+1,v3=>
 if(decide (v3<(a0.Points.length:X))) then(
 (ix a0.Points v3).bind fun x5=>
 (JY x5.Name).bind fun r6=>
 if r6 then(
  (Mf a0 x5.Name).bind fun r9=>
  if(r9 !=v3) then(
  O E)
  else(
  Hu a0 n (zM .i64 (v3+(1:X)))))
 else(
  O E))
 else(
 Em a0 bigN (0:X))
def Ds(a0:X1):W Y:=
if(decide ((8:X)<(a0.Points.length:X))) then(
 O E)
else(
 if(decide ((10:X)<(a0.Segments.length:X))) then(
 O E)
 else(
 Hu a0 bigN (0:X)))
def En(a0:X6):W Y:=
(JY a0.Name).bind fun r1=>
if r1 then(
 (BN a0.Length (10:X) (400:X)).bind fun r3=>
 if r3 then(
 (BN a0.Draught (100:X) (2000:X)).bind fun r5=>
 if r5 then(
  (Bt a0.Line (4:X)).bind fun r7=>
  if r7 then(
  (BN a0.Tugs (0:X) (4:X)).bind fun r9=>
  O r9)
  else(
  O E))
 else(
  O E))
 else(
 O E))
else(
 O E)
def HM(a1:V zA)(a0:V X6):Z→X→W X
| 0,_=>U
| n+1,v1=>
 if(decide (v1<(a0.length:X))) then(
 (ix a0 v1).bind fun x3=>
 if(x3.Name==a1) then(
  O v1)
 else(
  HM a1 a0 n (zM .i64 (v1+(1:X)))))
 else(
 O (-1:X))
def Mi(a0:V X6)(a1:V zA):W X:=
HM a1 a0 bigN (0:X)
def HE(a0:V X6):Z→X→W Y
| 0,_=>U
| n+1,v2=>
 if(decide (v2<(a0.length:X))) then(
 (ix a0 v2).bind fun x4=>
 (En x4).bind fun r5=>
 if r5 then(
  (Mi a0 x4.Name).bind fun r7=>
  if(r7 !=v2) then(
  O E)
  else(
  HE a0 n (zM .i64 (v2+(1:X)))))
 else(
  O E))
 else(
 O F)
def JW(a0:V X6):W Y:=
if(decide ((6:X)<(a0.length:X))) then(
 O E)
else(
 HE a0 bigN (0:X))
def PS(a0:Xh):W Y:=
(BN a0.Gap (0:X) (60:X)).bind fun r1=>
O r1
def Gp(a0:V X):Z→X→W Y
| 0,_=>U
| n+1,v2=>
 if(decide (v2<(a0.length:X))) then(
 (ix a0 v2).bind fun x4=>
 (BN x4 (0:X) (240:X)).bind fun r5=>
 if r5 then(
  Gp a0 n (zM .i64 (v2+(1:X))))
 else(
  O E))
 else(
 O F)
def Gn(a0:V X):W Y:=
if((a0.length:X) !=(64:X)) then(
 O E)
else(
 Gp a0 bigN (0:X))
def LY(a0:Xm):W Y:=
(BN a0.Tugs (0:X) (12:X)).bind fun r1=>
if r1 then(
 (BN a0.Pilots (0:X) (12:X)).bind fun r3=>
 if r3 then(
 (CU a0.Rest).bind fun r5=>
 if r5 then(
  (Gn a0.Moves).bind fun r7=>
  O r7)
 else(
  O E))
 else(
 O E))
else(
 O E)
def JX(a0:X4):W Y:=
(Gb a0.Forecast).bind fun r1=>
if r1 then(
 (Ds a0.Chart).bind fun r3=>
 if r3 then(
 (JW a0.Fleet).bind fun r5=>
 if r5 then(
  (PS a0.Regime).bind fun r7=>
  if r7 then(
  (LY a0.Crew).bind fun r9=>
  O r9)
  else(
  O E))
 else(
  O E))
 else(
 O E))
else(
 O E)
def K9(a0:X4)(a1:Xb):W Y:=
(Bt a1.Ship (a0.Fleet.length:X)).bind fun r1=>
if r1 then(
 (Bt a1.From (a0.Chart.Points.length:X)).bind fun r3=>
 if r3 then(
 (Bt a1.To (a0.Chart.Points.length:X)).bind fun r5=>
 if r5 then(
  if(a1.From !=a1.To) then(
  (CU a1.Ready).bind fun r9=>
  if r9 then(
   (BN a1.Due a1.Ready (2880:X)).bind fun r11=>
   O r11)
  else(
   O E))
  else(
  O E))
 else(
  O E))
 else(
 O E))
else(
 O E)
def F9(a1:V Xb)(v4:X)(a0:X4)(x6:Xb)(y10:V Xb)(y11:X)(Oi:X→W Y):Z→X→W Y
| 0,_=>U
| n+1,v12=>
 if(decide (v12<y11)) then(
 (ix y10 v12).bind fun x14=>
 if(x14.Ship==x6.Ship) then(
  O E)
 else(
  F9 a1 v4 a0 x6 y10 y11 Oi n (zM .i64 (v12+(1:X)))))
 else(
 Oi (zM .i64 (v4+(1:X))))
def DO(a1:V Xb)(a0:X4):Z→X→W Y
| 0,_=>U
| n+1,v4=>
 if(decide (v4<(a1.length:X))) then(
 (ix a1 v4).bind fun x6=>
 (K9 a0 x6).bind fun r7=>
 if r7 then(
  (bnd (a1.length:X) v4 (0:X) a1.length).bind fun p9=>
  F9 a1 v4 a0 x6 ((a1.drop p9.1).take (p9.2 - p9.1)) (((a1.drop p9.1).take (p9.2 - p9.1)).length:X) (DO a1 a0 n) bigN (0:X))
 else(
  O E))
 else(
 O F)
def Dr(a0:X4)(a1:V Xb):W Y:=
(JX a0).bind fun r1=>
if r1 then(
 if(decide ((6:X)<(a1.length:X))) then(
 O E)
 else(
 DO a1 a0 bigN (0:X)))
else(
 O E)
def LV(a0:X4)(a1:Xb):W Y:=
(JX a0).bind fun r1=>
if r1 then(
 (K9 a0 a1).bind fun r3=>
 O r3)
else(
 O E)
def Bi(a0:V X):W (V X):=
(BI (0:X) (a0.length:X) 8).bind fun n1=>
if A3 (zG n1 (0:X)).length a0.length 8 then(
 O ((zG n1 (0:X))++a0))
else U
def K6(a0:X2)(a1:X):W X:=
if(a1==a0.A) then(
 O a0.B)
else(
 if(a1==a0.B) then(
 O a0.A)
 else(
 O (-1:X)))
def Hz(rec_:X1→X→X→(V X)→X8→(V (V X))→W (V (V X)))(a1 a2:X)(a3:V X)(v6 r11:X)(a0:X1)(y7:X8)(v8:V (V X))(Ol:X→(V (V X))→W (V (V X)))(v16:Y):W (V (V X)):=
if v16 then(
 (Bi a3).bind fun r18=>
 if A3 r18.length ([v6]:V X).length 8 then(
 (rec_ a0 r11 a2 (r18++([v6]:V X)) y7 v8).bind fun r20=>
 Ol (zM .i64 (v6+(1:X))) r20)
 else U)
else(
 Ol (zM .i64 (v6+(1:X))) v8)
def G9(rec_:X1→X→X→(V X)→X8→(V (V X))→W (V (V X)))(a1 a2:X)(a3:V X)(a0:X1)(y7:X8):Z→X→(V (V X))→W (V (V X))
| 0,_,_=>U
| n+1,v6,v8=>
 if(decide (v6<(a0.Segments.length:X))) then(
 (ix a0.Segments v6).bind fun x10=>
 (K6 x10 a1).bind fun r11=>
 if(decide ((0:X)≤r11)) then(
  if decide ((0:X)≤r11)&&decide (r11<(8:X)) then(
  (ix ([y7.i0,y7.i1,y7.i2,y7.i3,y7.i4,y7.i5,y7.i6,y7.i7]:V Y) r11).bind fun x14=>
  Hz rec_ a1 a2 a3 v6 r11 a0 y7 v8 (G9 rec_ a1 a2 a3 a0 y7 n) (!x14))
  else U)
 else(
  Hz rec_ a1 a2 a3 v6 r11 a0 y7 v8 (G9 rec_ a1 a2 a3 a0 y7 n) E))
 else(
 O v8)
def PO(rec_:X1→X→X→(V X)→X8→(V (V X))→W (V (V X)))(a0:X1)(a1 a2:X)(a3:V X)(a4:X8)(a5:V (V X)):W (V (V X)):=
if(a1==a2) then(
 (Bi a3).bind fun r2=>
 if A3 a5.length ([r2]:V (V X)).length 24 then(
 O (a5++([r2]:V (V X))))
 else U)
else(
 if decide ((0:X)≤a1)&&decide (a1<(8:X)) then(
 G9 rec_ a1 a2 a3 a0 (⟨((X8.set a4 (zD a1) F)).i0,((X8.set a4 (zD a1) F)).i1,((X8.set a4 (zD a1) F)).i2,((X8.set a4 (zD a1) F)).i3,((X8.set a4 (zD a1) F)).i4,((X8.set a4 (zD a1) F)).i5,((X8.set a4 (zD a1) F)).i6,((X8.set a4 (zD a1) F)).i7⟩:X8) bigN (0:X) a5)
 else U)
def Ga:Z→X1→X→X→(V X)→X8→(V (V X))→W (V (V X))
| 0,_,_,_,_,_,_=>U
| n+1,a0,a1,a2,a3,a4,a5=>PO (Ga n) a0 a1 a2 a3 a4 a5
def SE(a0:X1)(a1 a2:X)(a3:V X)(a4:X8)(a5:V (V X)):W (V (V X)):=Ga bigN a0 a1 a2 a3 a4 a5
def Mg(a0:X1)(a1 a2:X):W (V (V X)):=
(Ds a0).bind fun r1=>
if r1 then(
 (Bt a1 (a0.Points.length:X)).bind fun r3=>
 if r3 then(
 (Bt a2 (a0.Points.length:X)).bind fun r5=>
 if r5 then(
  (SE a0 a1 a2 ([]:V X) (⟨E,E,E,E,E,E,E,E⟩:X8) ([]:V (V X))).bind fun r7=>
  O r7)
 else(
  O ([]:V (V X))))
 else(
 O ([]:V (V X))))
else(
 O ([]:V (V X)))
def HL(a1:V X)(a0:X1):Z→X→X→W X
| 0,_,_=>U
| n+1,v3,v4=>
 if(decide (v4<(a1.length:X))) then(
 (ix a1 v4).bind fun x6=>
 (Bt x6 (a0.Segments.length:X)).bind fun r7=>
 if r7 then(
  (ix a0.Segments x6).bind fun x9=>
  HL a1 a0 n (zM .i64 (v3+x9.Minutes)) (zM .i64 (v4+(1:X))))
 else(
  O (-1:X)))
 else(
 O v3)
def Gg(a0:X1)(a1:V X):W X:=
(Ds a0).bind fun r1=>
if r1 then(
 HL a1 a0 bigN (0:X) (0:X))
else(
 O (-1:X))
def F8(r1:(V (V X)))(a0:X1):Z→(V X)→X→W ((V X) × Y)
| 0,_,_=>U
| n+1,v4,v5=>
 if(decide (v5<(r1.length:X))) then(
 (ix r1 v5).bind fun x7=>
 (Gg a0 x7).bind fun r9=>
 (Gg a0 v4).bind fun r10=>
 if(decide (r9<r10)) then(
  F8 r1 a0 n x7 (zM .i64 (v5+(1:X))))
 else(
  F8 r1 a0 n v4 (zM .i64 (v5+(1:X)))))
 else(
 O (v4,F))
def LR(a0:X1)(a1 a2:X):W ((V X) × Y):=
(Mg a0 a1 a2).bind fun r1=>
if((r1.length:X)==(0:X)) then(
 O (([]:V X),E))
else(
 (ix r1 (0:X)).bind fun x3=>
 F8 r1 a0 bigN x3 (0:X))
def Hy(r14:X)(a2:V X)(v6:X)(a0:X1)(v7:X8)(v8:V X)(R5:X→X→X8→(V X)→W ((V X) × Y))(v19:Y):W ((V X) × Y):=
if v19 then(
 O (([]:V X),E))
else(
 if decide ((0:X)≤r14)&&decide (r14<(8:X)) then(
 if A3 v8.length ([r14]:V X).length 8 then(
  R5 r14 (zM .i64 (v6+(1:X))) (⟨((X8.set v7 (zD r14) F)).i0,((X8.set v7 (zD r14) F)).i1,((X8.set v7 (zD r14) F)).i2,((X8.set v7 (zD r14) F)).i3,((X8.set v7 (zD r14) F)).i4,((X8.set v7 (zD r14) F)).i5,((X8.set v7 (zD r14) F)).i6,((X8.set v7 (zD r14) F)).i7⟩:X8) (v8++([r14]:V X)))
 else U)
 else U)
def G8(a2:V X)(a0:X1):Z→X→X→X8→(V X)→W ((V X) × Y)
| 0,_,_,_,_=>U
| n+1,v5,v6,v7,v8=>
 if(decide (v6<(a2.length:X))) then(
 (ix a2 v6).bind fun x10=>
 (Bt x10 (a0.Segments.length:X)).bind fun r11=>
 if r11 then(
  (ix a0.Segments x10).bind fun x13=>
  (K6 x13 v5).bind fun r14=>
  if(decide (r14<(0:X))) then(
  Hy r14 a2 v6 a0 v7 v8 (G8 a2 a0 n) F)
  else(
  if decide ((0:X)≤r14)&&decide (r14<(8:X)) then(
   (ix ([v7.i0,v7.i1,v7.i2,v7.i3,v7.i4,v7.i5,v7.i6,v7.i7]:V Y) r14).bind fun x17=>
   Hy r14 a2 v6 a0 v7 v8 (G8 a2 a0 n) x17)
  else U))
 else(
  O (([]:V X),E)))
 else(
 O (v8,F))
def Hx(a0:X1)(a1:X)(a2:V X):W ((V X) × Y):=
(Bt a1 (a0.Points.length:X)).bind fun r1=>
if r1 then(
 if decide ((0:X)≤a1)&&decide (a1<(8:X)) then(
 G8 a2 a0 bigN a1 (0:X) (⟨((X8.set (⟨E,E,E,E,E,E,E,E⟩:X8) (zD a1) F)).i0,((X8.set (⟨E,E,E,E,E,E,E,E⟩:X8) (zD a1) F)).i1,((X8.set (⟨E,E,E,E,E,E,E,E⟩:X8) (zD a1) F)).i2,((X8.set (⟨E,E,E,E,E,E,E,E⟩:X8) (zD a1) F)).i3,((X8.set (⟨E,E,E,E,E,E,E,E⟩:X8) (zD a1) F)).i4,((X8.set (⟨E,E,E,E,E,E,E,E⟩:X8) (zD a1) F)).i5,((X8.set (⟨E,E,E,E,E,E,E,E⟩:X8) (zD a1) F)).i6,((X8.set (⟨E,E,E,E,E,E,E,E⟩:X8) (zD a1) F)).i7⟩:X8) ([a1]:V X))
 else U)
else(
 O (([]:V X),E))
def DP(a0:X1)(a1:X)(a2:V X):W (V X):=
(Ds a0).bind fun r1=>
if r1 then(
 (Hx a0 a1 a2).bind fun r3=>
 O r3.1)
else(
 O ([]:V X))
def Fb(a0:X1)(a1:X)(a2:V X):W Y:=
(Ds a0).bind fun r1=>
if r1 then(
 (Hx a0 a1 a2).bind fun r3=>
 O r3.2)
else(
 O E)
def Fc(a0:X6)(a1:X2):W X:=
if a0.Slow then(
 O (zM .i64 ((2:X)*a1.Minutes)))
else(
 O a1.Minutes)
def HV(a0:X1)(a1:X)(a2:X6):W Y:=
(Ds a0).bind fun r1=>
if r1 then(
 (En a2).bind fun r3=>
 if r3 then(
 (Bt a1 (a0.Segments.length:X)).bind fun r5=>
 O r5)
 else(
 O E))
else(
 O E)
def PU(a0:X6):W X:=
if a0.Slow then(
 O (zM .i64 (zE a0.Draught (50:X))))
else(
 O (zM .i64 (zE a0.Draught (20:X))))
def PT(a0:X6):W X:=
(PU a0).bind fun r1=>
O (zM .i64 ((zM .i64 (a0.Draught+r1))+(50:X)))
def M7(a0:X1)(a1:X)(a2:X6):W X:=
(HV a0 a1 a2).bind fun r1=>
if r1 then(
 (PT a2).bind fun r3=>
 (ix a0.Segments a1).bind fun x4=>
 O (zM .i64 (r3 - x4.Depth)))
else(
 O (0:X))
def I3(a0:X→W Y)(v2:X)(FH:Y→X→(V X5)→W (V X5))(v11:Y)(v12:V X5):W (V X5):=
FH v11 (zM .i64 (v2+(1:X))) v12
def Ki(a0:X→W Y)(v2:X)(FH:Y→X→(V X5)→W (V X5))(v9:V X5):W (V X5):=
(ix v9 (zM .i64 ((v9.length:X) - (1:X)))).bind fun x10=>
I3 a0 v2 FH F (v9.set (zD (zM .i64 ((v9.length:X) - (1:X)))) (⟨x10.From,v2⟩:X5))
def Fl(a0:X→W Y):Z→Y→X→(V X5)→W (V X5)
| 0,_,_,_=>U
| n+1,v1,v2,v3=>
 if(decide (v2≤(2880:X))) then(
 (a0 v2).bind fun r5=>
 if r5 then(
  if v1 then(
  Ki a0 v2 (Fl a0 n) v3)
  else(
  if A3 v3.length ([(⟨v2,(0:X)⟩:X5)]:V X5).length 16 then(
   Ki a0 v2 (Fl a0 n) (v3++([(⟨v2,(0:X)⟩:X5)]:V X5)))
  else U))
 else(
  I3 a0 v2 (Fl a0 n) E v3))
 else(
 O v3)
def MD(a0:X→W Y):W (V X5):=
Fl a0 bigN E (0:X) ([]:V X5)
def Mn(a0 a1:X):W X:=
(Kd a1).bind fun r1=>
if r1 then(
 if a1==0 then U else
 if a1==0 then U else
 if(decide ((zM .i64 (zE a1 (2:X)))≤(zM .i64 (zI (zM .i64 ((zM .i64 (zI a0 a1))+a1)) a1)))) then(
 if(zM .i64 ((zM .i64 (zE a1 (2:X)))*(zM .i64 (zE a1 (2:X)))))==0 then U else
 O (zM .i64 (0 - (zM .i64 (zE (zM .i64 ((zM .i64 ((40000:X)*(zM .i64 ((zM .i64 (zI (zM .i64 ((zM .i64 (zI a0 a1))+a1)) a1)) - (zM .i64 (zE a1 (2:X)))))))*(zM .i64 ((zM .i64 (zE a1 (2:X))) - (zM .i64 ((zM .i64 (zI (zM .i64 ((zM .i64 (zI a0 a1))+a1)) a1)) - (zM .i64 (zE a1 (2:X))))))))) (zM .i64 ((zM .i64 (zE a1 (2:X)))*(zM .i64 (zE a1 (2:X))))))))))
 else(
 if(zM .i64 ((zM .i64 (zE a1 (2:X)))*(zM .i64 (zE a1 (2:X)))))==0 then U else
 O (zM .i64 (zE (zM .i64 ((zM .i64 ((40000:X)*(zM .i64 (zI (zM .i64 ((zM .i64 (zI a0 a1))+a1)) a1))))*(zM .i64 ((zM .i64 (zE a1 (2:X))) - (zM .i64 (zI (zM .i64 ((zM .i64 (zI a0 a1))+a1)) a1)))))) (zM .i64 ((zM .i64 (zE a1 (2:X)))*(zM .i64 (zE a1 (2:X)))))))))
else(
 O (0:X))
def HO(a1:X)(a0:Xl):Z→X→X→W X
| 0,_,_=>U
| n+1,v1,v2=>
 if(decide (v2<(a0.Parts.length:X))) then(
 (ix a0.Parts v2).bind fun x4=>
 (Mn (zM .i64 (a1+x4.Phase)) x4.Period).bind fun r5=>
 HO a1 a0 n (zM .i64 (v1+(zM .i64 (zE (zM .i64 (x4.Amp*r5)) (10000:X))))) (zM .i64 (v2+(1:X))))
 else(
 O v1)
def PW(a0:Xl)(a1:X):W X:=
HO a1 a0 bigN a0.Mean (0:X)
def Fa(a1:X)(a0:Xd):Z→X→X→W X
| 0,_,_=>U
| n+1,v1,v2=>
 if(decide (v2<(a0.Surges.length:X))) then(
 (ix a0.Surges v2).bind fun x4=>
 if(decide (x4.From≤a1)) then(
  Fa a1 a0 n v2 (zM .i64 (v2+(1:X))))
 else(
  Fa a1 a0 n v1 (zM .i64 (v2+(1:X)))))
 else(
 O v1)
def M1(a0:Xd)(a1:X):W X:=
Fa a1 a0 bigN (0:X) (0:X)
def M0(a0:Xd)(a1:X):W X:=
(PW a0.Tide a1).bind fun r1=>
(M1 a0 a1).bind fun r2=>
(ix a0.Surges r2).bind fun x3=>
O (zM .i64 (r1+x3.Low))
def PR(a0:X)(c0:Xd)(c1:X):W Y:=
(M0 c0 a0).bind fun r1=>
O (decide (c1≤r1))
def M8(a0:Xd)(a1:X):W (V X5):=
(Gb a0).bind fun r1=>
if r1 then(
 (MD (fun z0=>PR z0 a0 a1)).bind fun r3=>
 O r3)
else(
 O ([]:V X5))
def M9(a0:X1)(a1:X)(a2:X6):W X:=
(Ds a0).bind fun r1=>
if r1 then(
 (En a2).bind fun r3=>
 if r3 then(
 (Bt a1 (a0.Segments.length:X)).bind fun r5=>
 if r5 then(
  (ix a0.Segments a1).bind fun x7=>
  (Fc a2 x7).bind fun r9=>
  O r9)
 else(
  O (0:X)))
 else(
 O (0:X)))
else(
 O (0:X))
def Ff(a0:V X5):Z→X→W Y
| 0,_=>U
| n+1,v1=>
 if(decide (v1<(a0.length:X))) then(
 (ix a0 v1).bind fun x3=>
 if(decide (x3.From<(0:X))) then(
  O E)
 else(
  if(decide (x3.To<x3.From)) then(
  O E)
  else(
  if(decide ((2880:X)<x3.To)) then(
   O E)
  else(
   if(decide ((0:X)<v1)) then(
   (ix a0 (zM .i64 (v1 - (1:X)))).bind fun x8=>
   if(decide (x3.From≤(zM .i64 (x8.To+(1:X))))) then(
    O E)
   else(
    Ff a0 n (zM .i64 (v1+(1:X)))))
   else(
   Ff a0 n (zM .i64 (v1+(1:X))))))))
 else(
 O F)
def K7(a0:V X5):W Y:=
Ff a0 bigN (0:X)
def Fe(a1:X)(a0:V X5):Z→X→(V X5)→W (V X5)
| 0,_,_=>U
| n+1,v5,v6=>
 if(decide (v5<(a0.length:X))) then(
 (ix a0 v5).bind fun x8=>
 if(decide (a1≤(zM .i64 (x8.To - x8.From)))) then(
  if A3 v6.length ([(⟨x8.From,(zM .i64 (x8.To - a1))⟩:X5)]:V X5).length 16 then(
  Fe a1 a0 n (zM .i64 (v5+(1:X))) (v6++([(⟨x8.From,(zM .i64 (x8.To - a1))⟩:X5)]:V X5)))
  else U)
 else(
  Fe a1 a0 n (zM .i64 (v5+(1:X))) v6))
 else(
 O v6)
def PV(a0:V X5)(a1:X):W (V X5):=
(K7 a0).bind fun r1=>
if r1 then(
 (CU a1).bind fun r3=>
 if r3 then(
 Fe a1 a0 bigN (0:X) ([]:V X5))
 else(
 O ([]:V X5)))
else(
 O ([]:V X5))
def Mj(a0:Xd)(a1:X1)(a2:X)(a3:X6):W (V X5):=
(Gb a0).bind fun r1=>
if r1 then(
 (HV a1 a2 a3).bind fun r3=>
 if r3 then(
 (M7 a1 a2 a3).bind fun r5=>
 (M8 a0 r5).bind fun r6=>
 (M9 a1 a2 a3).bind fun r7=>
 (PV r6 r7).bind fun r9=>
 O r9)
 else(
 O ([]:V X5)))
else(
 O ([]:V X5))
def I1(a4:V X)(a0:Xd)(a1:X1)(a2:X6)(y11:V X)(y12:X):Z→X→(V Y)→(V X)→(V (V X5))→W (Xk × Y)
| 0,_,_,_,_=>U
| n+1,v13,v14,v15,v16=>
 if(decide (v13<y12)) then(
 (ix y11 v13).bind fun x18=>
 (ix a1.Points x18).bind fun x19=>
 if A3 v14.length ([x19.Wait]:V Y).length 1 then(
  (ix a4 v13).bind fun x21=>
  (ix a1.Segments x21).bind fun x22=>
  (Fc a2 x22).bind fun r23=>
  if A3 v15.length ([r23]:V X).length 8 then(
  (Mj a0 a1 x21 a2).bind fun r25=>
  if A3 v16.length ([r25]:V (V X5)).length 24 then(
   I1 a4 a0 a1 a2 y11 y12 n (zM .i64 (v13+(1:X))) (v14++([x19.Wait]:V Y)) (v15++([r23]:V X)) (v16++([r25]:V (V X5))))
  else U)
  else U)
 else U)
 else(
 O ((⟨v14,v15,v16⟩:Xk),F))
def I0(a3:X)(a4:V X)(a0:Xd)(a1:X1)(a2:X6)(v7:Y):W (Xk × Y):=
if v7 then(
 O ((⟨([]:V Y),([]:V X),([]:V (V X5))⟩:Xk),E))
else(
 (DP a1 a3 a4).bind fun r9=>
 (bnd (r9.length:X) (a4.length:X) (0:X) r9.length).bind fun p10=>
 I1 a4 a0 a1 a2 ((r9.drop p10.1).take (p10.2 - p10.1)) (((r9.drop p10.1).take (p10.2 - p10.1)).length:X) bigN (0:X) ([]:V Y) ([]:V X) ([]:V (V X5)))
def HZ(a0:Xd)(a1:X1)(a2:X6)(a3:X)(a4:V X):W (Xk × Y):=
(Gb a0).bind fun r1=>
if r1 then(
 (En a2).bind fun r3=>
 if r3 then(
 (Fb a1 a3 a4).bind fun r5=>
 if r5 then(
  I0 a3 a4 a0 a1 a2 ((a4.length:X)==(0:X)))
 else(
  I0 a3 a4 a0 a1 a2 F))
 else(
 I0 a3 a4 a0 a1 a2 F))
else(
 I0 a3 a4 a0 a1 a2 F)
def Ka(a2:V X)(a0:X4)(a1:Xb)(v4:Y):W (Xk × Y):=
if v4 then(
 O ((⟨([]:V Y),([]:V X),([]:V (V X5))⟩:Xk),E))
else(
 (ix a0.Fleet a1.Ship).bind fun x6=>
 (HZ a0.Forecast a0.Chart x6 a1.From a2).bind fun r7=>
 O (r7.1,r7.2))
def HQ(a0:X4)(a1:Xb)(a2:V X):W (Xk × Y):=
(DP a0.Chart a1.From a2).bind fun r1=>
if((r1.length:X)==(0:X)) then(
 Ka a2 a0 a1 F)
else(
 (ix r1 (zM .i64 ((r1.length:X) - (1:X)))).bind fun x3=>
 Ka a2 a0 a1 (x3 !=a1.To))
def HG(a1:X)(a0:V X5):Z→X→W Y
| 0,_=>U
| n+1,v1=>
 if(decide (v1<(a0.length:X))) then(
 (ix a0 v1).bind fun x3=>
 (BN a1 x3.From x3.To).bind fun r4=>
 if r4 then(
  O F)
 else(
  HG a1 a0 n (zM .i64 (v1+(1:X)))))
 else(
 O E)
def M3(a0:V X5)(a1:X):W Y:=
HG a1 a0 bigN (0:X)
def HI(a1:X)(a0:V X5):Z→X→W X
| 0,_=>U
| n+1,v3=>
 if(decide (v3<(a0.length:X))) then(
 (ix a0 v3).bind fun x5=>
 if(decide (a1≤x5.To)) then(
  O (if x5.From<a1 then a1 else x5.From))
 else(
  HI a1 a0 n (zM .i64 (v3+(1:X)))))
 else(
 O (-1:X))
def Ma(a0:V X5)(a1:X):W X:=
(K7 a0).bind fun r1=>
if r1 then(
 HI a1 a0 bigN (0:X))
else(
 O (-1:X))
def I2(v4 r10:X)(a0:Xk)(v5:V X)(R8:X→(V X)→W ((V X) × Y))(v14:Y):W ((V X) × Y):=
if v14 then(
 O (([]:V X),E))
else(
 if A3 v5.length ([r10]:V X).length 8 then(
 R8 (zM .i64 (v4+(1:X))) (v5++([r10]:V X)))
 else U)
def Es(a0:Xk):Z→X→(V X)→W ((V X) × Y)
| 0,_,_=>U
| n+1,v4,v5=>
 if(decide (v4<(a0.sure.length:X))) then(
 (ix v5 (zM .i64 (v4 - (1:X)))).bind fun x7=>
 (ix a0.minutes (zM .i64 (v4 - (1:X)))).bind fun x8=>
 (ix a0.sure v4).bind fun x9=>
 (Ma x9 (zM .i64 (x7+x8))).bind fun r10=>
 if(decide (r10<(0:X))) then(
  I2 v4 r10 a0 v5 (Es a0 n) F)
 else(
  if(decide ((zM .i64 (x7+x8))<r10)) then(
  (ix a0.waits v4).bind fun x13=>
  I2 v4 r10 a0 v5 (Es a0 n) (!x13))
  else(
  I2 v4 r10 a0 v5 (Es a0 n) E)))
 else(
 O (v5,F))
def MB(a0:Xk)(a1:X):W ((V X) × Y):=
(ix a0.sure (0:X)).bind fun x1=>
(M3 x1 a1).bind fun r2=>
if r2 then(
 Es a0 bigN (1:X) ([a1]:V X))
else(
 O (([]:V X),E))
def HJ(a1:X)(a5 a4:V X)(a0:X1)(a2:X6)(r6:(V X)):Z→X→(V X3)→W (V X3)
| 0,_,_=>U
| n+1,v7,v8=>
 if(decide (v7<(a4.length:X))) then(
 (ix a4 v7).bind fun x10=>
 (ix a5 v7).bind fun x11=>
 (CU x11).bind fun r12=>
 if r12 then(
  (ix a0.Segments x10).bind fun x14=>
  (ix r6 v7).bind fun x15=>
  (Fc a2 x14).bind fun r16=>
  if A3 v8.length ([(⟨a1,x10,(x15==x14.A),x11,(zM .i64 (x11+r16))⟩:X3)]:V X3).length 40 then(
  HJ a1 a5 a4 a0 a2 r6 n (zM .i64 (v7+(1:X))) (v8++([(⟨a1,x10,(x15==x14.A),x11,(zM .i64 (x11+r16))⟩:X3)]:V X3)))
  else U)
 else(
  O ([]:V X3)))
 else(
 O v8)
def Me(a0:X1)(a1:X)(a2:X6)(a3:X)(a4 a5:V X):W (V X3):=
(Fb a0 a3 a4).bind fun r1=>
if r1 then(
 (En a2).bind fun r3=>
 if r3 then(
 if((a4.length:X) !=(a5.length:X)) then(
  O ([]:V X3))
 else(
  (DP a0 a3 a4).bind fun r6=>
  HJ a1 a5 a4 a0 a2 r6 bigN (0:X) ([]:V X3)))
 else(
 O ([]:V X3)))
else(
 O ([]:V X3))
def LP(a0:X1)(a1:X6)(a2 a3:V X):W X:=
(Gg a0 a2).bind fun r1=>
if(decide (r1<(0:X))) then(
 O (-1:X))
else(
 (En a1).bind fun r3=>
 if r3 then(
 if((a2.length:X)==(0:X)) then(
  O (-1:X))
 else(
  if((a2.length:X) !=(a3.length:X)) then(
  O (-1:X))
  else(
  (ix a3 (zM .i64 ((a2.length:X) - (1:X)))).bind fun x7=>
  (CU x7).bind fun r9=>
  if r9 then(
   (ix a2 (zM .i64 ((a2.length:X) - (1:X)))).bind fun x11=>
   (ix a0.Segments x11).bind fun x12=>
   (Fc a1 x12).bind fun r13=>
   O (zM .i64 (x7+r13)))
  else(
   O (-1:X)))))
 else(
 O (-1:X)))
def Gq(a2:Xk)(a4 r5:X)(r4:(V X3)):Z→X→X→W (X0 × Y)
| 0,_,_=>U
| n+1,v6,v7=>
 if(decide (v6<(a2.minutes.length:X))) then(
 (ix a2.minutes v6).bind fun x9=>
 Gq a2 a4 r5 r4 n (zM .i64 (v6+(1:X))) (zM .i64 (v7 - x9)))
 else(
 O ((⟨a4,r5,v7,r4⟩:X0),(decide (r5≤(2880:X)))))
def HW(a0:X4)(a1:Xb)(a2:Xk)(a3:V X)(a4:X):W (X0 × Y):=
(MB a2 a4).bind fun r1=>
if r1.2 then(
 (ix a0.Fleet a1.Ship).bind fun x3=>
 (Me a0.Chart a1.Ship x3 a1.From a3 r1.1).bind fun r4=>
 (LP a0.Chart x3 a3 r1.1).bind fun r5=>
 Gq a2 a4 r5 r4 bigN (0:X) (zM .i64 (r5 - a1.Ready)))
else(
 O ((⟨(0:X),(0:X),(0:X),([]:V X3)⟩:X0),E))
def K1(r3:(V X) × Y)(v7:X)(a0:X4)(a1:Xb)(r4:Xk × Y)(R6:X→(V X0)→W (V X0))(v14:V X0):W (V X0):=
R6 (zM .i64 (v7+(15:X))) v14
def Ge(r3:(V X) × Y)(a0:X4)(a1:Xb)(r4:Xk × Y):Z→X→(V X0)→W (V X0)
| 0,_,_=>U
| n+1,v7,v8=>
 if(decide (v7≤a1.Due)) then(
 if(decide ((v8.length:X)<(8:X))) then(
  (HW a0 a1 r4.1 r3.1 v7).bind fun r11=>
  if r11.2 then(
  if A3 v8.length ([r11.1]:V X0).length 48 then(
   K1 r3 v7 a0 a1 r4 (Ge r3 a0 a1 r4 n) (v8++([r11.1]:V X0)))
  else U)
  else(
  K1 r3 v7 a0 a1 r4 (Ge r3 a0 a1 r4 n) v8))
 else(
  O v8))
 else(
 O v8)
def D5(a0:X4)(a1:Xb):W (V X0):=
(LV a0 a1).bind fun r1=>
if r1 then(
 (LR a0.Chart a1.From a1.To).bind fun r3=>
 (HQ a0 a1 r3.1).bind fun r4=>
 if r3.2 then(
 if r4.2 then(
  Ge r3 a0 a1 r4 bigN a1.Ready ([]:V X0))
 else(
  O ([]:V X0)))
 else(
 O ([]:V X0)))
else(
 O ([]:V X0))
def HP(a1:V Xb)(a0:X4):Z→X→(V (V X0))→W (V (V X0))
| 0,_,_=>U
| n+1,v1,v2=>
 if(decide (v1<(a1.length:X))) then(
 (ix a1 v1).bind fun x4=>
 (D5 a0 x4).bind fun r5=>
 if A3 v2.length ([r5]:V (V X0)).length 24 then(
  HP a1 a0 n (zM .i64 (v1+(1:X))) (v2++([r5]:V (V X0))))
 else U)
 else(
 O v2)
def PY(a0:X4)(a1:V Xb):W (V (V X0)):=
HP a1 a0 bigN (0:X) ([]:V (V X0))
def MC(a0 a1:Xj):W Y:=
if(decide (a0.i0<a1.i0)) then(
 O F)
else(
 if(a0.i0==a1.i0) then(
 O (decide (a0.i1<a1.i1)))
 else(
 O E))
def K2(a0 a1:X3):W Y:=
O (decide ((if a0.Start<a1.Start then a1.Start else a0.Start)<(if a1.End<a0.End then a1.End else a0.End)))
def Kg(a0 a1 a2:X):W Y:=
O (decide ((IntKind.u64.wrap ((IntKind.u64.wrap (if a0<a1 then a1 else a0)) - (IntKind.u64.wrap (if a1<a0 then a1 else a0))))<(IntKind.u64.wrap a2)))
def Ms(a2 a3:X3)(v22:Y):W X:=
if v22 then(
 O (3:X))
else(
 if(decide (a2.Start<a3.Start)) then(
 if(decide (a3.End<a2.End)) then(
  O (4:X))
 else(
  if(decide (a3.Start<a2.Start)) then(
  if(decide (a2.End<a3.End)) then(
   O (4:X))
  else(
   O (0:X)))
  else(
  O (0:X))))
 else(
 if(decide (a3.Start<a2.Start)) then(
  if(decide (a2.End<a3.End)) then(
  O (4:X))
  else(
  O (0:X)))
 else(
  O (0:X))))
def HS(a1:Xh)(a2 a3:X3)(v15 v16:Y):W X:=
if v15 then(
 O (2:X))
else(
 if(a2.Toward==a3.Toward) then(
 (Kg a2.Start a3.Start a1.Gap).bind fun r19=>
 if r19 then(
  Ms a2 a3 F)
 else(
  (Kg a2.End a3.End a1.Gap).bind fun r21=>
  Ms a2 a3 r21))
 else(
 O (0:X)))
def Mr(a0:X1)(a1:Xh)(a2 a3:X3)(v7:Y):W X:=
if v7 then(
 O (1:X))
else(
 if(a2.Ship==a3.Ship) then(
 O (0:X))
 else(
 if(a2.Toward==a3.Toward) then(
  HS a1 a2 a3 E a1.NoMeet)
 else(
  (K2 a2 a3).bind fun r11=>
  if r11 then(
  if a1.NoMeet then(
   HS a1 a2 a3 F F)
  else(
   (ix a0.Segments a2.Segment).bind fun x14=>
   HS a1 a2 a3 (!x14.Meet) E))
  else(
  HS a1 a2 a3 E a1.NoMeet))))
def Mq(a0:X1)(a1:Xh)(a2 a3:X3)(v3:Y):W X:=
if v3 then(
 O (0:X))
else(
 if(a2.Ship==a3.Ship) then(
 (K2 a2 a3).bind fun r6=>
 Mr a0 a1 a2 a3 r6)
 else(
 Mr a0 a1 a2 a3 E))
def Mp(a0:X1)(a1:Xh)(a2 a3:X3):W X:=
if(a2.Segment !=a3.Segment) then(
 Mq a0 a1 a2 a3 F)
else(
 (Bt a2.Segment (a0.Segments.length:X)).bind fun r2=>
 Mq a0 a1 a2 a3 (!r2))
def HR(a3 a2:V X3)(v1:X)(a0:X1)(a1:Xh)(x3:X3)(Oo:X→W Y):Z→X→W Y
| 0,_=>U
| n+1,v4=>
 if(decide (v4<(a3.length:X))) then(
 (ix a3 v4).bind fun x6=>
 (Mp a0 a1 x3 x6).bind fun r7=>
 if(r7 !=(0:X)) then(
  O F)
 else(
  HR a3 a2 v1 a0 a1 x3 Oo n (zM .i64 (v4+(1:X)))))
 else(
 Oo (zM .i64 (v1+(1:X))))
def Fg(a3 a2:V X3)(a0:X1)(a1:Xh):Z→X→W Y
| 0,_=>U
| n+1,v1=>
 if(decide (v1<(a2.length:X))) then(
 (ix a2 v1).bind fun x3=>
 HR a3 a2 v1 a0 a1 x3 (Fg a3 a2 a0 a1 n) bigN (0:X))
 else(
 O E)
def Eo(a0:X1)(a1:Xh)(a2 a3:V X3):W Y:=
Fg a3 a2 a0 a1 bigN (0:X)
def Ep(a0:V X0):W (V X0):=
(BI (0:X) (a0.length:X) 48).bind fun n1=>
if A3 (zG n1 (⟨(0:X),(0:X),(0:X),([]:V X3)⟩:X0)).length a0.length 48 then(
 O ((zG n1 (⟨(0:X),(0:X),(0:X),([]:V X3)⟩:X0))++a0))
else U
def K5(a0:X3)(a1:X1):W (X × X):=
(ix a1.Segments a0.Segment).bind fun x1=>
if a0.Toward then(
 O (x1.A,x1.B))
else(
 O (x1.B,x1.A))
def Kc(a0:X1)(a1 a2:X3):W Xa:=
(K5 a1 a0).bind fun r1=>
(K5 a2 a0).bind fun r2=>
O (⟨a1.Start,a2.End,r1.1,r2.2⟩:Xa)
def My(a0:X1)(a1:V X6)(a2:X3):W Y:=
(Bt a2.Ship (a1.length:X)).bind fun r1=>
if r1 then(
 (Bt a2.Segment (a0.Segments.length:X)).bind fun r3=>
 if r3 then(
 (CU a2.Start).bind fun r5=>
 if r5 then(
  if(decide ((2880:X)<a2.End)) then(
  O E)
  else(
  (ix a1 a2.Ship).bind fun x8=>
  (ix a0.Segments a2.Segment).bind fun x9=>
  (Fc x8 x9).bind fun r10=>
  O (a2.End==(zM .i64 (a2.Start+r10)))))
 else(
  O E))
 else(
 O E))
else(
 O E)
def Md(a0:X1)(a1:V X6)(a2:X3):W Y:=
(Ds a0).bind fun r1=>
if r1 then(
 (JW a1).bind fun r3=>
 if r3 then(
 (My a0 a1 a2).bind fun r5=>
 O r5)
 else(
 O E))
else(
 O E)
def Gr(a1:V X6)(a2:V X3)(v1:X)(x7:X6)(a0:X1)(x4:X3)(Ot:X→(V Xa)→W ((V Xa) × Y)):Z→X→(V Xa)→W ((V Xa) × Y)
| 0,_,_=>U
| n+1,v8,v9=>
 if(decide (v8<x7.Tugs)) then(
 (Kc a0 x4 x4).bind fun r11=>
 if A3 v9.length ([r11]:V Xa).length 32 then(
  Gr a1 a2 v1 x7 a0 x4 Ot n (zM .i64 (v8+(1:X))) (v9++([r11]:V Xa)))
 else U)
 else(
 if(decide ((12:X)<(v9.length:X))) then(
  O (([]:V Xa),E))
 else(
  Ot (zM .i64 (v1+(1:X))) v9))
def Fj(a1:V X6)(a2:V X3)(a0:X1):Z→X→(V Xa)→W ((V Xa) × Y)
| 0,_,_=>U
| n+1,v1,v2=>
 if(decide (v1<(a2.length:X))) then(
 (ix a2 v1).bind fun x4=>
 (Md a0 a1 x4).bind fun r5=>
 if r5 then(
  (ix a1 x4.Ship).bind fun x7=>
  Gr a1 a2 v1 x7 a0 x4 (Fj a1 a2 a0 n) bigN (0:X) v2)
 else(
  O (([]:V Xa),E)))
 else(
 O (v2,F))
def MA(a0:X1)(a1:V X6)(a2:V X3):W ((V Xa) × Y):=
Fj a1 a2 a0 bigN (0:X) ([]:V Xa)
def HD(a0:V Xa):Z→X→W Y
| 0,_=>U
| n+1,v2=>
 if(decide (v2<(a0.length:X))) then(
 (ix a0 v2).bind fun x4=>
 if(decide (x4.From<(0:X))) then(
  O E)
 else(
  if(decide (x4.To≤x4.From)) then(
  O E)
  else(
  if(decide ((2880:X)<x4.To)) then(
   O E)
  else(
   (Bt x4.A (8:X)).bind fun r9=>
   if r9 then(
   (Bt x4.B (8:X)).bind fun r11=>
   if r11 then(
    HD a0 n (zM .i64 (v2+(1:X))))
   else(
    O E))
   else(
   O E)))))
 else(
 O F)
def HC(a0:V Xa):W Y:=
if(decide ((12:X)<(a0.length:X))) then(
 O E)
else(
 HD a0 bigN (0:X))
def PZ(a0:X)(a1:V X)(a2:V Xa):W Y:=
(HC a2).bind fun r1=>
if r1 then(
 (CU a0).bind fun r3=>
 if r3 then(
 (Gn a1).bind fun r5=>
 O r5)
 else(
 O E))
else(
 O E)
def HF(a0:X)(a1:V X)(a2 a3:Xa)(v8:Y):W (X × Y):=
if v8 then(
 O ((0:X),E))
else(
 (ix a1 (zM .i64 ((zM .i64 ((8:X)*a2.B))+a3.A))).bind fun x10=>
 O ((zM .i64 (a0+x10)),F))
def PQ(a0:X)(a1:V X)(a2 a3:Xa):W (X × Y):=
(CU a0).bind fun r1=>
if r1 then(
 (Gn a1).bind fun r3=>
 if r3 then(
 (Bt a2.B (8:X)).bind fun r5=>
 if r5 then(
  (Bt a3.A (8:X)).bind fun r7=>
  HF a0 a1 a2 a3 (!r7))
 else(
  HF a0 a1 a2 a3 F))
 else(
 HF a0 a1 a2 a3 F))
else(
 HF a0 a1 a2 a3 F)
def JV(a0:X)(a1:V X)(a2 a3:Xa):W Y:=
(PQ a0 a1 a2 a3).bind fun r1=>
if r1.2 then(
 (HC ([a2]:V Xa)).bind fun r3=>
 if r3 then(
 (HC ([a3]:V Xa)).bind fun r5=>
 if r5 then(
  O (decide ((zM .i64 (a2.To+r1.1))≤a3.From)))
 else(
  O E))
 else(
 O E))
else(
 O E)
def HX(a0:X)(a1:V X)(a2:V Xa)(v2 v6:X)(x5:Xa)(v7:V X)(Oq:X→(V X)→W (V X))(v14:Y):W (V X):=
if v14 then(
 (ix v7 v2).bind fun x16=>
 if decide (v6<0) then U else
 Oq (zM .i64 (v6+(1:X))) (v7.set (zD v2) (B8 .or .u64 x16 (Bl .u64 (1:X) v6))))
else(
 Oq (zM .i64 (v6+(1:X))) v7)
def DT(a0:X)(a1:V X)(a2:V Xa)(v2:X)(x5:Xa)(J4:X→(V X)→W (V X)):Z→X→(V X)→W (V X)
| 0,_,_=>U
| n+1,v6,v7=>
 if(decide (v6<(a2.length:X))) then(
 (ix a2 v6).bind fun x9=>
 if(v2 !=v6) then(
  (JV a0 a1 x5 x9).bind fun r11=>
  if r11 then(
  HX a0 a1 a2 v2 v6 x5 v7 (DT a0 a1 a2 v2 x5 J4 n) F)
  else(
  (JV a0 a1 x9 x5).bind fun r13=>
  HX a0 a1 a2 v2 v6 x5 v7 (DT a0 a1 a2 v2 x5 J4 n) r13))
 else(
  HX a0 a1 a2 v2 v6 x5 v7 (DT a0 a1 a2 v2 x5 J4 n) E))
 else(
 J4 (zM .i64 (v2+(1:X))) v7)
def Fi(a0:X)(a1:V X)(a2:V Xa):Z→X→(V X)→W (V X)
| 0,_,_=>U
| n+1,v2,v3=>
 if(decide (v2<(a2.length:X))) then(
 (ix a2 v2).bind fun x5=>
 DT a0 a1 a2 v2 x5 (Fi a0 a1 a2 n) bigN (0:X) v3)
 else(
 O v3)
def Mx(a0:X)(a1:V X)(a2:V Xa):W (V X):=
(BI (a2.length:X) (a2.length:X) 8).bind fun n1=>
Fi a0 a1 a2 bigN (0:X) (zG n1 (0:X))
def Kk(v8 v9:X):W X:=
(ix ([0,1,2,2,3,3,3,3,4,4,4,4,4,4,4,4,5,5,5,5,5,5,5,5,5,5,5,5,5,5,5,5,6,6,6,6,6,6,6,6,6,6,6,6,6,6,6,6,6,6,6,6,6,6,6,6,6,6,6,6,6,6,6,6,7,7,7,7,7,7,7,7,7,7,7,7,7,7,7,7,7,7,7,7,7,7,7,7,7,7,7,7,7,7,7,7,7,7,7,7,7,7,7,7,7,7,7,7,7,7,7,7,7,7,7,7,7,7,7,7,7,7,7,7,7,7,7,7,8,8,8,8,8,8,8,8,8,8,8,8,8,8,8,8,8,8,8,8,8,8,8,8,8,8,8,8,8,8,8,8,8,8,8,8,8,8,8,8,8,8,8,8,8,8,8,8,8,8,8,8,8,8,8,8,8,8,8,8,8,8,8,8,8,8,8,8,8,8,8,8,8,8,8,8,8,8,8,8,8,8,8,8,8,8,8,8,8,8,8,8,8,8,8,8,8,8,8,8,8,8,8,8,8,8,8,8,8,8,8,8,8,8,8,8,8,8,8,8,8,8,8,8,8,8,8,8]:V zA) (IntKind.u8.wrap v8)).bind fun b10=>
O (zM .i64 (v9+(zM .i64 (b10.toNat:X))))
def Nh(v5 v6:X):W X:=
if(decide ((256:X)≤v5)) then(
 Kk (Cq .u64 v5 8) (zM .i64 (v6+(8:X))))
else(
 Kk v5 v6)
def Ng(v2 v3:X):W X:=
if(decide ((65536:X)≤v2)) then(
 Nh (Cq .u64 v2 16) (zM .i64 (v3+(16:X))))
else(
 Nh v2 v3)
def Qh(a0:X):W X:=
if(decide ((4294967296:X)≤a0)) then(
 Ng (Cq .u64 a0 32) (32:X))
else(
 Ng a0 (0:X))
def Kj(a0:X):W X:=
(Qh a0).bind fun r1=>
O r1
def Kf(a0:V X)(y5 v6:X)(v17 v18 v21:X)(v19:V Y)(Co:X→(V Y)→(V X)→W X)(R7:X→(V X)→W X)(v28:V X):W X:=
if(v21==(0:X)) then(
 Co (zM .i64 (v6+(1:X))) v19 v28)
else(
 R7 (B8 .and .i64 (zM .i64 (v21 - (1:X))) v18) v28)
def Gm(a0:V X)(y5 v6:X)(v17 v18:X)(v19:V Y)(Co:X→(V Y)→(V X)→W X):Z→X→(V X)→W X
| 0,_,_=>U
| n+1,v21,v22=>
 if decide (v17<0) then U else
 (ix v19 (B8 .or .i64 v21 (Bl .i64 (1:X) v17))).bind fun x24=>
 if x24 then(
 (ix v22 v6).bind fun x26=>
 (ix v22 (B8 .andNot .i64 v18 v21)).bind fun x27=>
 Kf a0 y5 v6 v17 v18 v21 v19 Co (Gm a0 y5 v6 v17 v18 v19 Co n) (v22.set (zD v6) (if(zM .i64 ((1:X)+x27))<x26 then(zM .i64 ((1:X)+x27)) else x26)))
 else(
 Kf a0 y5 v6 v17 v18 v21 v19 Co (Gm a0 y5 v6 v17 v18 v19 Co n) v22)
def Ke(a0:V X)(y5 v6:X)(v8:V X)(Co:X→(V Y)→(V X)→W X)(v17 v18:X)(v19:V Y):W X:=
(ix v8 v6).bind fun x20=>
Gm a0 y5 v6 v17 v18 v19 Co bigN v18 (v8.set (zD v6) (a0.length:X))
def Er(a0:V X)(y5:X):Z→X→(V Y)→(V X)→W X
| 0,_,_,_=>U
| n+1,v6,v7,v8=>
 if(decide (v6<y5)) then(
 (Kj (IntKind.u64.wrap v6)).bind fun r10=>
 if decide ((zM .i64 (r10 - (1:X)))<0) then U else
 (ix v7 (B8 .andNot .i64 v6 (Bl .i64 (1:X) (zM .i64 (r10 - (1:X)))))).bind fun x12=>
 if x12 then(
  (ix a0 (zM .i64 (r10 - (1:X)))).bind fun x14=>
  (ix v7 v6).bind fun x15=>
  Ke a0 y5 v6 v8 (Er a0 y5 n) (zM .i64 (r10 - (1:X))) (B8 .andNot .i64 v6 (Bl .i64 (1:X) (zM .i64 (r10 - (1:X))))) (v7.set (zD v6) ((B8 .andNot .u64 (IntKind.u64.wrap (B8 .andNot .i64 v6 (Bl .i64 (1:X) (zM .i64 (r10 - (1:X)))))) x14)==(0:X))))
 else(
  (ix v7 v6).bind fun x16=>
  Ke a0 y5 v6 v8 (Er a0 y5 n) (zM .i64 (r10 - (1:X))) (B8 .andNot .i64 v6 (Bl .i64 (1:X) (zM .i64 (r10 - (1:X))))) (v7.set (zD v6) E)))
 else(
 (ix v8 (zM .i64 (y5 - (1:X)))).bind fun x30=>
 O x30)
def Mw(a0:V X):W X:=
if decide ((a0.length:X)<0) then U else
(BI (Bl .i64 (1:X) (a0.length:X)) (Bl .i64 (1:X) (a0.length:X)) 1).bind fun n2=>
(BI (Bl .i64 (1:X) (a0.length:X)) (Bl .i64 (1:X) (a0.length:X)) 8).bind fun n3=>
(ix (zG n2 E) (0:X)).bind fun x4=>
Er a0 (Bl .i64 (1:X) (a0.length:X)) bigN (1:X) ((zG n2 E).set (zD (0:X)) F) (zG n3 (0:X))
def HT(rec_:Xg→W (Y × Xg))(a0:Xg)(v2:X)(EH:X→(V X)→X→(V X)→(V X)→W (Y × Xg))(v22:V X)(v23:X)(v24 v25:V X):W (Y × Xg):=
(ix v24 v2).bind fun x26=>
if(x26==(0:X)) then(
 (bnd (v24.length:X) v2 0 v24.length).bind fun p28=>
 O (E,(⟨v22,v23,(v24.take p28.2),v25⟩:Xg)))
else(
 EH (zM .i64 (v2+(1:X))) v22 v23 v24 v25)
def Kb(rec_:Xg→W (Y × Xg))(a0:Xg)(v2:X)(v3:V X)(v4:X)(v6:V X)(EH:X→(V X)→X→(V X)→(V X)→W (Y × Xg))(v11:V X):W (Y × Xg):=
(ix v11 v2).bind fun x12=>
(ix v3 (a0.who.length:X)).bind fun x13=>
if((B8 .andNot .u64 x12 x13)==(0:X)) then(
 if decide ((a0.who.length:X)<0) then U else
 if A3 v6.length ([v2]:V X).length 8 then(
 (rec_ (⟨v3,v4,(v11.set (zD v2) (B8 .or .u64 x12 (Bl .u64 (1:X) (a0.who.length:X)))),(v6++([v2]:V X))⟩:Xg)).bind fun r17=>
 if r17.1 then(
  O (F,r17.2))
 else(
  (bnd (r17.2.who.length:X) (a0.who.length:X) 0 r17.2.who.length).bind fun p19=>
  (ix r17.2.groups v2).bind fun x20=>
  if decide ((a0.who.length:X)<0) then U else
  HT rec_ a0 v2 EH r17.2.sets r17.2.most (r17.2.groups.set (zD v2) (B8 .andNot .u64 x20 (Bl .u64 (1:X) (a0.who.length:X)))) (r17.2.who.take p19.2)))
 else U)
else(
 HT rec_ a0 v2 EH v3 v4 v11 v6)
def Fh(rec_:Xg→W (Y × Xg))(a0:Xg):Z→X→(V X)→X→(V X)→(V X)→W (Y × Xg)
| 0,_,_,_,_,_=>U
| n+1,v2,v3,v4,v5,v6=>
 if(decide (v2≤(v5.length:X))) then(
 if(decide (v2<v4)) then(
  if(v2==(v5.length:X)) then(
  if A3 v5.length ([(0:X)]:V X).length 8 then(
   Kb rec_ a0 v2 v3 v4 v6 (Fh rec_ a0 n) (v5++([(0:X)]:V X)))
  else U)
  else(
  Kb rec_ a0 v2 v3 v4 v6 (Fh rec_ a0 n) v5))
 else(
  O (E,(⟨v3,v4,v5,v6⟩:Xg))))
 else(
 O (E,(⟨v3,v4,v5,v6⟩:Xg)))
def Mu(rec_:Xg→W (Y × Xg))(a0:Xg):W (Y × Xg):=
if((a0.who.length:X)==(a0.sets.length:X)) then(
 O (F,a0))
else(
 Fh rec_ a0 bigN (0:X) a0.sets a0.most a0.groups a0.who)
def DS:Z→Xg→W (Y × Xg)
| 0,_=>U
| n+1,a0=>Mu (DS n) a0
def SF(a0:Xg):W (Y × Xg):=DS bigN a0
def M6(a0:X)(a1:V X)(a2:V Xa):W ((V X) × X × Y):=
(PZ a0 a1 a2).bind fun r1=>
if r1 then(
 (Mx a0 a1 a2).bind fun r3=>
 (Mw r3).bind fun r4=>
 (SF (⟨r3,r4,([]:V X),([]:V X)⟩:Xg)).bind fun r5=>
 O (r5.2.who,r5.2.most,F))
else(
 O (([]:V X),(0:X),E))
def Gk(a0:X)(a1:V X)(a2:V Xa)(a3:X):W Y:=
if(decide ((a2.length:X)≤a3)) then(
 O F)
else(
 (M6 a0 a1 a2).bind fun r2=>
 O (decide (r2.2.1≤a3)))
def Gl(a1:V X0)(a0:X4):Z→X→(V X3)→(V Xa)→W Y
| 0,_,_,_=>U
| n+1,v1,v2,v3=>
 if(decide (v1<(a1.length:X))) then(
 (ix a1 v1).bind fun x5=>
 if A3 v2.length x5.Passages.length 40 then(
  if(decide ((0:X)<(x5.Passages.length:X))) then(
  (ix x5.Passages (0:X)).bind fun x8=>
  (ix x5.Passages (zM .i64 ((x5.Passages.length:X) - (1:X)))).bind fun x9=>
  (Kc a0.Chart x8 x9).bind fun r10=>
  if A3 v3.length ([r10]:V Xa).length 32 then(
   Gl a1 a0 n (zM .i64 (v1+(1:X))) (v2++x5.Passages) (v3++([r10]:V Xa)))
  else U)
  else(
  Gl a1 a0 n (zM .i64 (v1+(1:X))) (v2++x5.Passages) v3))
 else U)
 else(
 (MA a0.Chart a0.Fleet v2).bind fun r12=>
 if r12.2 then(
  (Gk (0:X) a0.Crew.Moves r12.1 a0.Crew.Tugs).bind fun r14=>
  if r14 then(
  (Gk a0.Crew.Rest a0.Crew.Moves v3 a0.Crew.Pilots).bind fun r16=>
  O r16)
  else(
  O E))
 else(
  O E))
def Dt(a0:X4)(a1:V X0):W Y:=
Gl a1 a0 bigN (0:X) ([]:V X3) ([]:V Xa)
def HU(a1:V X0)(a0:X4)(a2:X0):Z→X→W Y
| 0,_=>U
| n+1,v1=>
 if(decide (v1<(a1.length:X))) then(
 (ix a1 v1).bind fun x3=>
 (Eo a0.Chart a0.Regime x3.Passages a2.Passages).bind fun r4=>
 if r4 then(
  O E)
 else(
  HU a1 a0 a2 n (zM .i64 (v1+(1:X)))))
 else(
 (Ep a1).bind fun r6=>
 if A3 r6.length ([a2]:V X0).length 48 then(
  (Dt a0 (r6++([a2]:V X0))).bind fun r9=>
  O r9)
 else U)
def Mv(a0:X4)(a1:V X0)(a2:X0):W Y:=
HU a1 a0 a2 bigN (0:X)
def DU(w0:(V X0)→W Xj)(rec_:Xf→W Xf)(a0:Xf)(x8:V X0):Z→X→X4→(V (V X0))→X→X→Y→(V X0)→(V X)→(V X)→W Xf
| 0,_,_,_,_,_,_,_,_,_=>U
| n+1,v9,v10,v11,v12,v13,v14,v15,v16,v17=>
 if(decide (v9<(x8.length:X))) then(
 (ix x8 v9).bind fun x19=>
 (Mv v10 v15 x19).bind fun r20=>
 if r20 then(
  if A3 v15.length ([x19]:V X0).length 48 then(
  if A3 v16.length ([v9]:V X).length 8 then(
   (rec_ (⟨v10,v11,(v15++([x19]:V X0)),(v16++([v9]:V X)),v17,(⟨v12,v13⟩:Xj),v14⟩:Xf)).bind fun r24=>
   (bnd (r24.plan.length:X) (a0.plan.length:X) 0 r24.plan.length).bind fun p25=>
   (bnd (r24.choice.length:X) (a0.plan.length:X) 0 r24.choice.length).bind fun p26=>
   DU w0 rec_ a0 x8 n (zM .i64 (v9+(1:X))) r24.h r24.choices r24.least.i0 r24.least.i1 r24.found (r24.plan.take p25.2) (r24.choice.take p26.2) r24.best)
  else U)
  else U)
 else(
  DU w0 rec_ a0 x8 n (zM .i64 (v9+(1:X))) v10 v11 v12 v13 v14 v15 v16 v17))
 else(
 O (⟨v10,v11,v15,v16,v17,(⟨v12,v13⟩:Xj),v14⟩:Xf))
def HY(w0:(V X0)→W Xj)(rec_:Xf→W Xf)(a0:Xf)(r1:Xj)(v5:Y):W Xf:=
if((a0.plan.length:X)==(a0.choices.length:X)) then(
 (Bi a0.choice).bind fun r7=>
 O (⟨a0.h,a0.choices,a0.plan,a0.choice,r7,r1,F⟩:Xf))
else(
 (ix a0.choices (a0.plan.length:X)).bind fun x8=>
 DU w0 rec_ a0 x8 bigN (0:X) a0.h a0.choices a0.least.i0 a0.least.i1 v5 a0.plan a0.choice a0.best)
def Mz(w0:(V X0)→W Xj)(rec_:Xf→W Xf)(a0:Xf):W Xf:=
(w0 a0.plan).bind fun r1=>
if a0.found then(
 (MC r1 a0.least).bind fun r3=>
 if r3 then(
 HY w0 rec_ a0 r1 F)
 else(
 O (⟨a0.h,a0.choices,a0.plan,a0.choice,a0.best,a0.least,F⟩:Xf)))
else(
 HY w0 rec_ a0 r1 E)
def Du(w0:(V X0)→W Xj):Z→Xf→W Xf
| 0,_=>U
| n+1,a0=>Mz w0 (Du w0 n) a0
def SG(w0:(V X0)→W Xj)(a0:Xf):W Xf:=Du w0 bigN a0
def Q0(a0:X4)(a1:V (V X0))(a2:(V X0)→W Xj):W ((V X) × Xj × Y):=
(SG a2 (⟨a0,a1,([]:V X0),([]:V X),([]:V X),(⟨(0:X),(0:X)⟩:Xj),E⟩:Xf)).bind fun r1=>
O (r1.best,r1.least,r1.found)
def HB(a0:V X0):Z→X→X→W X
| 0,_,_=>U
| n+1,v1,v2=>
 if(decide (v2<(a0.length:X))) then(
 (ix a0 v2).bind fun x4=>
 HB a0 n (zM .i64 (v1+x4.Cost)) (zM .i64 (v2+(1:X))))
 else(
 O v1)
def LX(a0:V X0):W X:=
HB a0 bigN (0:X) (0:X)
def Mo(a0:V X0):W Xj:=
(LX a0).bind fun r1=>
O (⟨r1,(0:X)⟩:Xj)
def LQ(a0:X4)(a1:V Xb):W ((V X) × X × Y):=
(Dr a0 a1).bind fun r1=>
if r1 then(
 (PY a0 a1).bind fun r3=>
 (Q0 a0 r3 (fun z0=>Mo z0)).bind fun r4=>
 O (r4.1,r4.2.1.i0,r4.2.2))
else(
 O (([]:V X),(0:X),E))
def HH(a1:V X):Z→X→W Y
| 0,_=>U
| n+1,v2=>
 if(decide (v2<(a1.length:X))) then(
 (ix a1 v2).bind fun x4=>
 (Bt x4 (a1.length:X)).bind fun r5=>
 if r5 then(
  (ix a1 x4).bind fun x7=>
  if(x7 !=v2) then(
  O E)
  else(
  HH a1 n (zM .i64 (v2+(1:X)))))
 else(
  O E))
 else(
 O F)
def K0(a0:V Xb)(a1:V X):W Y:=
if((a1.length:X) !=(a0.length:X)) then(
 O E)
else(
 HH a1 bigN (0:X))
def LW(a0:V X0)(v1 v2:X)(Om:X→X→W X)(v7:Y):W X:=
if v7 then(
 Om v2 (zM .i64 (v2+(1:X))))
else(
 Om v1 (zM .i64 (v2+(1:X))))
def HA(a0:V X0):Z→X→X→W X
| 0,_,_=>U
| n+1,v1,v2=>
 if(decide (v2<(a0.length:X))) then(
 (ix a0 v2).bind fun x4=>
 if(decide (v1<(0:X))) then(
  LW a0 v1 v2 (HA a0 n) F)
 else(
  (ix a0 v1).bind fun x6=>
  LW a0 v1 v2 (HA a0 n) (decide (x4.Cost<x6.Cost))))
 else(
 O v1)
def PP(a0:V X0):W X:=
HA a0 bigN (-1:X) (0:X)
def LZ(a0:X4)(a1:Xb):W X:=
(D5 a0 a1).bind fun r1=>
if((r1.length:X)==(0:X)) then(
 O (-1:X))
else(
 (PP r1).bind fun r3=>
 (ix r1 r3).bind fun x4=>
 O x4.Cost)
def K4(v7:X)(r1:(V X0))(v3:X)(r6:(V X0))(v8:X)(a0:X4)(a2:Xb)(x5:X0)(On:X→X→W X)(v15:X)(v16:Y):W X:=
if v16 then(
 On v15 (zM .i64 (v8+(1:X))))
else(
 On v7 (zM .i64 (v8+(1:X))))
def Gf(r1:(V X0))(v3:X)(r6:(V X0))(a0:X4)(a2:Xb)(x5:X0)(J3:X→X→W X):Z→X→X→W X
| 0,_,_=>U
| n+1,v7,v8=>
 if(decide (v8<(r6.length:X))) then(
 (ix r6 v8).bind fun x10=>
 if(decide (v7<(0:X))) then(
  (Eo a0.Chart a0.Regime x5.Passages x10.Passages).bind fun r12=>
  K4 v7 r1 v3 r6 v8 a0 a2 x5 (Gf r1 v3 r6 a0 a2 x5 J3 n) (zM .i64 (x5.Cost+x10.Cost)) (!r12))
 else(
  if(decide ((zM .i64 (x5.Cost+x10.Cost))<v7)) then(
  (Eo a0.Chart a0.Regime x5.Passages x10.Passages).bind fun r14=>
  K4 v7 r1 v3 r6 v8 a0 a2 x5 (Gf r1 v3 r6 a0 a2 x5 J3 n) (zM .i64 (x5.Cost+x10.Cost)) (!r14))
  else(
  K4 v7 r1 v3 r6 v8 a0 a2 x5 (Gf r1 v3 r6 a0 a2 x5 J3 n) (zM .i64 (x5.Cost+x10.Cost)) E)))
 else(
 J3 v7 (zM .i64 (v3+(1:X))))
def K3(r1:(V X0))(a0:X4)(a2:Xb):Z→X→X→W X
| 0,_,_=>U
| n+1,v2,v3=>
 if(decide (v3<(r1.length:X))) then(
 (ix r1 v3).bind fun x5=>
 (D5 a0 a2).bind fun r6=>
 Gf r1 v3 r6 a0 a2 x5 (K3 r1 a0 a2 n) bigN v2 (0:X))
 else(
 O v2)
def Mb(a0:X4)(a1 a2:Xb):W X:=
(D5 a0 a1).bind fun r1=>
K3 r1 a0 a2 bigN (-1:X) (0:X)
def G7(a1:V Xb)(v6:X)(a2:V X)(v7:X)(a0:X4)(R4:X→X→W (X × Y))(v17:X):W (X × Y):=
if(decide (v17<(0:X))) then(
 O ((0:X),E))
else(
 R4 (zM .i64 (v6+v17)) (zM .i64 (v7+(1:X))))
def G6(a1:V Xb)(a2:V X)(a0:X4):Z→X→X→W (X × Y)
| 0,_,_=>U
| n+1,v6,v7=>
 if(decide (v7<(a2.length:X))) then(
 (ix a2 v7).bind fun x9=>
 if(x9==v7) then(
  (ix a1 v7).bind fun x11=>
  (LZ a0 x11).bind fun r12=>
  G7 a1 v6 a2 v7 a0 (G6 a1 a2 a0 n) r12)
 else(
  if(decide (v7<x9)) then(
  (ix a1 v7).bind fun x14=>
  (ix a1 x9).bind fun x15=>
  (Mb a0 x14 x15).bind fun r16=>
  G7 a1 v6 a2 v7 a0 (G6 a1 a2 a0 n) r16)
  else(
  G7 a1 v6 a2 v7 a0 (G6 a1 a2 a0 n) (0:X))))
 else(
 O (v6,F))
def LU(a1:V Xb)(a2:V X)(a0:X4)(v4:Y):W (X × Y):=
if v4 then(
 O ((0:X),E))
else(
 G6 a1 a2 a0 bigN (0:X) (0:X))
def JU(a0:X4)(a1:V Xb)(a2:V X):W (X × Y):=
(Dr a0 a1).bind fun r1=>
if r1 then(
 (K0 a1 a2).bind fun r3=>
 LU a1 a2 a0 (!r3))
else(
 LU a1 a2 a0 F)
def Gi(a0:X4)(a1:V Xb)(m:V X)(f:Y)(k:X)(b:V X):W (Y × X × V X):=
(JU a0 a1 m).bind fun r1=>
if r1.2 then(
 if f then(
 if(decide (k<r1.1)) then(
  (Bi m).bind fun r2=>
  O (F,r1.1,r2))
 else(
  O (f,k,b)))
 else(
 (Bi m).bind fun r2=>
 O (F,r1.1,r2)))
else(
 O (f,k,b))
def DR(rec_:V X→Y→X→V X→W (V X × Y × X × V X))(i:X):Z→X→V X→Y→X→V X→W (V X × Y × X × V X)
| 0,_,_,_,_,_=>U
| n+1,v,m,f,k,b=>
 if(decide (v<(m.length:X))) then(
 (ix m v).bind fun x1=>
 if(decide (x1<(0:X))) then(
  (ix m i).bind fun x2=>
  (ix (m.set (zD i) v) v).bind fun x3=>
  (rec_ ((m.set (zD i) v).set (zD v) i) f k b).bind fun r4=>
  (ix r4.1 i).bind fun x5=>
  (ix (r4.1.set (zD i) (-1:X)) v).bind fun x6=>
  DR rec_ i n (zM .i64 (v+(1:X))) ((r4.1.set (zD i) (-1:X)).set (zD v) (-1:X)) r4.2.1 r4.2.2.1 r4.2.2.2)
 else(
  DR rec_ i n (zM .i64 (v+(1:X))) m f k b))
 else(
 O (m,f,k,b))
def Gh(rec_:V X→Y→X→V X→W (V X × Y × X × V X))(a0:X4)(a1:V Xb)(m:V X)(f:Y)(k:X)(b:V X)(v:X):W (V X × Y × X × V X):=
if(v==(m.length:X)) then(
 (Gi a0 a1 m f k b).bind fun r1=>
 O (m,r1.1,r1.2.1,r1.2.2))
else(
 DR rec_ v bigN v m f k b)
def DQ(rec_:V X→Y→X→V X→W (V X × Y × X × V X))(a0:X4)(a1:V Xb)(m:V X)(f:Y)(k:X)(b:V X):Z→X→W (V X × Y × X × V X)
| 0,_=>U
| n+1,v=>
 if(decide (v<(m.length:X))) then(
 (ix m v).bind fun x1=>
 if(decide ((0:X)≤x1)) then(
  DQ rec_ a0 a1 m f k b n (zM .i64 (v+(1:X))))
 else(
  Gh rec_ a0 a1 m f k b v))
 else(
 Gh rec_ a0 a1 m f k b v)
def Gj(a0:X4)(a1:V Xb):Z→V X→Y→X→V X→W (V X × Y × X × V X)
| 0,_,_,_,_=>U
| n+1,m,f,k,b=>DQ (Gj a0 a1 n) a0 a1 m f k b bigN (0:X)
def PX(a0:X4)(a1:V Xb)(m:V X)(f:Y)(k:X)(b:V X):W (V X × Y × X × V X):=Gj a0 a1 bigN m f k b
def Ht(a0:X4)(a1:V Xb)(y4:X):Z→X→(V X)→W ((V X) × X × Y)
| 0,_,_=>U
| n+1,v5,v6=>
 if(decide (v5<y4)) then(
 (ix v6 v5).bind fun x8=>
 Ht a0 a1 y4 n (zM .i64 (v5+(1:X))) (v6.set (zD v5) (-1:X)))
 else(
 (PX a0 a1 v6 E (0:X) ([]:V X)).bind fun r9=>
 O (r9.2.2.2,r9.2.2.1,r9.2.1))
def JT(a0:X4)(a1:V Xb):W ((V X) × X × Y):=
(Dr a0 a1).bind fun r1=>
if r1 then(
 (BI (a1.length:X) (a1.length:X) 8).bind fun n3=>
 Ht a0 a1 ((zG n3 (0:X)).length:X) bigN (0:X) (zG n3 (0:X)))
else(
 O (([]:V X),(0:X),E))
def M2(a0:X):W (V zA):=
(Qu a0).bind fun r1=>
O r1
def ME(a0:Xo):W (V zA):=
if a0.isS then(
 O a0.s)
else(
 (M2 a0.n).bind fun r2=>
 O r2)
def JZ(a0:V (V zA))(a1:V zA):W (V zA):=
(Qv a0 a1).bind fun r1=>
O r1
def I4(a0:V Xo):Z→X→(V (V zA))→W (V zA)
| 0,_,_=>U
| n+1,v1,v2=>
 if(decide (v1<(a0.length:X))) then(
 (ix a0 v1).bind fun x4=>
 (ME x4).bind fun r5=>
 if A3 v2.length ([r5]:V (V zA)).length 16 then(
  I4 a0 n (zM .i64 (v1+(1:X))) (v2++([r5]:V (V zA))))
 else U)
 else(
 (JZ v2 ([32]:V zA)).bind fun r7=>
 O r7)
def MF(a0:V Xo):W (V zA):=
I4 a0 bigN (0:X) ([]:V (V zA))
def LS(a0:X4)(a1:V Xb):W (V zA):=
(Dr a0 a1).bind fun r1=>
if r1 then(
 (LQ a0 a1).bind fun r3=>
 if r3.2.2 then(
 (JT a0 a1).bind fun r5=>
 (MF ([(⟨F,([99,111,115,116]:V zA),0⟩:Xo),(⟨E,[],r3.2.1⟩:Xo),(⟨F,([98,111,117,110,100]:V zA),0⟩:Xo),(⟨E,[],r5.2.1⟩:Xo),(⟨F,([103,97,112]:V zA),0⟩:Xo),(⟨E,[],(zM .i64 (r3.2.1 - r5.2.1))⟩:Xo)]:V Xo)).bind fun r6=>
 O r6)
 else(
 O ([110,111,32,112,108,97,110]:V zA)))
else(
 O ([]:V zA))
def ML(a0 a1:Xc):W Y:=
if(a0.Amp !=a1.Amp) then(
 O E)
else(
 if(a0.Period !=a1.Period) then(
 O E)
 else(
 if(a0.Phase !=a1.Phase) then(
  O E)
 else(
  O F)))
def I7(a0 a1:V Xc):Z→X→W Y
| 0,_=>U
| n+1,v2=>
 if(decide (v2<(a0.length:X))) then(
 (ix a0 v2).bind fun x4=>
 (ix a1 v2).bind fun x5=>
 (ML x4 x5).bind fun r6=>
 if r6 then(
  I7 a0 a1 n (zM .i64 (v2+(1:X))))
 else(
  O E))
 else(
 O F)
def MM(a0 a1:V Xc):W Y:=
if((a0.length:X) !=(a1.length:X)) then(
 O E)
else(
 I7 a0 a1 bigN (0:X))
def Q5(a0 a1:Xl):W Y:=
if(a0.Mean !=a1.Mean) then(
 O E)
else(
 (MM a0.Parts a1.Parts).bind fun r2=>
 if r2 then(
 O F)
 else(
 O E))
def MT(a0 a1:X9):W Y:=
if(a0.From !=a1.From) then(
 O E)
else(
 if(a0.Low !=a1.Low) then(
 O E)
 else(
 if(a0.High !=a1.High) then(
  O E)
 else(
  O F)))
def Ib(a0 a1:V X9):Z→X→W Y
| 0,_=>U
| n+1,v2=>
 if(decide (v2<(a0.length:X))) then(
 (ix a0 v2).bind fun x4=>
 (ix a1 v2).bind fun x5=>
 (MT x4 x5).bind fun r6=>
 if r6 then(
  Ib a0 a1 n (zM .i64 (v2+(1:X))))
 else(
  O E))
 else(
 O F)
def MU(a0 a1:V X9):W Y:=
if((a0.length:X) !=(a1.length:X)) then(
 O E)
else(
 Ib a0 a1 bigN (0:X))
def MI(a0 a1:Xd):W Y:=
(Q5 a0.Tide a1.Tide).bind fun r1=>
if r1 then(
 (MU a0.Surges a1.Surges).bind fun r3=>
 if r3 then(
 O F)
 else(
 O E))
else(
 O E)
def MN(a0 a1:X7):W Y:=
if(a0.Name==a1.Name) then(
 if(a0.Wait==a1.Wait) then(
 O F)
 else(
 O E))
else(
 O E)
def I8(a0 a1:V X7):Z→X→W Y
| 0,_=>U
| n+1,v2=>
 if(decide (v2<(a0.length:X))) then(
 (ix a0 v2).bind fun x4=>
 (ix a1 v2).bind fun x5=>
 (MN x4 x5).bind fun r6=>
 if r6 then(
  I8 a0 a1 n (zM .i64 (v2+(1:X))))
 else(
  O E))
 else(
 O F)
def MO(a0 a1:V X7):W Y:=
if((a0.length:X) !=(a1.length:X)) then(
 O E)
else(
 I8 a0 a1 bigN (0:X))
def MP(a0 a1:X2):W Y:=
if(a0.A !=a1.A) then(
 O E)
else(
 if(a0.B !=a1.B) then(
 O E)
 else(
 if(a0.Depth !=a1.Depth) then(
  O E)
 else(
  if(a0.Minutes !=a1.Minutes) then(
  O E)
  else(
  if(a0.Meet==a1.Meet) then(
   O F)
  else(
   O E)))))
def I9(a0 a1:V X2):Z→X→W Y
| 0,_=>U
| n+1,v2=>
 if(decide (v2<(a0.length:X))) then(
 (ix a0 v2).bind fun x4=>
 (ix a1 v2).bind fun x5=>
 (MP x4 x5).bind fun r6=>
 if r6 then(
  I9 a0 a1 n (zM .i64 (v2+(1:X))))
 else(
  O E))
 else(
 O F)
def MQ(a0 a1:V X2):W Y:=
if((a0.length:X) !=(a1.length:X)) then(
 O E)
else(
 I9 a0 a1 bigN (0:X))
def MH(a0 a1:X1):W Y:=
(MO a0.Points a1.Points).bind fun r1=>
if r1 then(
 (MQ a0.Segments a1.Segments).bind fun r3=>
 if r3 then(
 O F)
 else(
 O E))
else(
 O E)
def MR(a0 a1:X6):W Y:=
if(a0.Name==a1.Name) then(
 if(a0.Length !=a1.Length) then(
 O E)
 else(
 if(a0.Draught !=a1.Draught) then(
  O E)
 else(
  if(a0.Line !=a1.Line) then(
  O E)
  else(
  if(a0.Tugs !=a1.Tugs) then(
   O E)
  else(
   if(a0.Slow==a1.Slow) then(
   O F)
   else(
   O E))))))
else(
 O E)
def Ia(a0 a1:V X6):Z→X→W Y
| 0,_=>U
| n+1,v2=>
 if(decide (v2<(a0.length:X))) then(
 (ix a0 v2).bind fun x4=>
 (ix a1 v2).bind fun x5=>
 (MR x4 x5).bind fun r6=>
 if r6 then(
  Ia a0 a1 n (zM .i64 (v2+(1:X))))
 else(
  O E))
 else(
 O F)
def MS(a0 a1:V X6):W Y:=
if((a0.length:X) !=(a1.length:X)) then(
 O E)
else(
 Ia a0 a1 bigN (0:X))
def Q4(a0 a1:Xh):W Y:=
if(a0.Gap !=a1.Gap) then(
 O E)
else(
 if(a0.NoMeet==a1.NoMeet) then(
 O F)
 else(
 O E))
def I6(a0 a1:V X):Z→X→W Y
| 0,_=>U
| n+1,v2=>
 if(decide (v2<(a0.length:X))) then(
 (ix a0 v2).bind fun x4=>
 (ix a1 v2).bind fun x5=>
 if(x4 !=x5) then(
  O E)
 else(
  I6 a0 a1 n (zM .i64 (v2+(1:X)))))
 else(
 O F)
def MK(a0 a1:V X):W Y:=
if((a0.length:X) !=(a1.length:X)) then(
 O E)
else(
 I6 a0 a1 bigN (0:X))
def Q3(a0 a1:Xm):W Y:=
if(a0.Tugs !=a1.Tugs) then(
 O E)
else(
 if(a0.Pilots !=a1.Pilots) then(
 O E)
 else(
 if(a0.Rest !=a1.Rest) then(
  O E)
 else(
  (MK a0.Moves a1.Moves).bind fun r4=>
  if r4 then(
  O F)
  else(
  O E))))
def MJ(a0 a1:X4):W Y:=
(MI a0.Forecast a1.Forecast).bind fun r1=>
if r1 then(
 (MH a0.Chart a1.Chart).bind fun r3=>
 if r3 then(
 (MS a0.Fleet a1.Fleet).bind fun r5=>
 if r5 then(
  (Q4 a0.Regime a1.Regime).bind fun r7=>
  if r7 then(
  (Q3 a0.Crew a1.Crew).bind fun r9=>
  if r9 then(
   O F)
  else(
   O E))
  else(
  O E))
 else(
  O E))
 else(
 O E))
else(
 O E)
def Q2(a0 a1:Xb):W Y:=
if(a0.Ship !=a1.Ship) then(
 O E)
else(
 if(a0.From !=a1.From) then(
 O E)
 else(
 if(a0.To !=a1.To) then(
  O E)
 else(
  if(a0.Ready !=a1.Ready) then(
  O E)
  else(
  if(a0.Due !=a1.Due) then(
   O E)
  else(
   O F)))))
def I5(a0 a1:V Xb):Z→X→W Y
| 0,_=>U
| n+1,v2=>
 if(decide (v2<(a0.length:X))) then(
 (ix a0 v2).bind fun x4=>
 (ix a1 v2).bind fun x5=>
 (Q2 x4 x5).bind fun r6=>
 if r6 then(
  I5 a0 a1 n (zM .i64 (v2+(1:X))))
 else(
  O E))
 else(
 O F)
def MG(a0 a1:V Xb):W Y:=
if((a0.length:X) !=(a1.length:X)) then(
 O E)
else(
 I5 a0 a1 bigN (0:X))
def Q1(a0:X4)(a1:V Xb):W Y:=
(MY a0 (1048576:X)).bind fun r1=>
if(decide (r1<(0:X))) then(
 O F)
else(
 (MV a1 r1).bind fun r3=>
 if(decide (r3<(0:X))) then(
 O F)
 else(
 (If a0).bind fun r5=>
 (Ic a1).bind fun r6=>
 (Nl r5 r6).bind fun r7=>
 (If a0).bind fun r9=>
 (Ic a1).bind fun r10=>
 (LS r9 r10).bind fun r11=>
 if(r11==r7) then(
  (If a0).bind fun r13=>
  (MJ r9 r13).bind fun r14=>
  if r14 then(
  (Ic a1).bind fun r16=>
  (MG r10 r16).bind fun r17=>
  if r17 then(
   O F)
  else(
   O E))
  else(
  O E))
 else(
  O E)))
class Ct (f:Z) (T:outParam Prop):Prop where
 c:T
theorem Ag{f:Z}{T:Prop}(I:Ct f T):T:=I.c
section
variable {P : Program} {k : V Fr} {Q : Xn → St → Prop} {σ : St} {its : V AItem} {d f : Z} {args : V Opd} {xs : V DV} {rs : V R1} {T : Prop} [I : Ct f T]
theorem jJ(hf:T→FC P f xs rs)(h:go P (.ops its::k) Q .normal (O (σ.inst d rs)))(h1:σ.toIVs args=O xs:=by exact rfl)(h3:σ.fresh d=F:=by first | exact rfl | (simp only[St.fresh,zK,zL,Ah]; simp[AV.cells,V1.cells,AC.uses]))(h4:Nat.ble (rs.flatMap R1.cells).length 64=F:=by exact rfl) :
  go P (.ops ((U,.call d f args)::its)::k) Q .normal (O σ):=AE (hf I.c) h h1 h3 h4
theorem lu{N:V Z}{ds:V AZ}(hf:T→FC P f xs rs)(h:go P (.dops ds::k) Q .normal (O (σ.inst d rs)))(h1:(σ.less N).toIVs args=O xs:=by exact rfl)(h3:σ.fresh d=F:=by first | exact rfl | (simp only[St.fresh,zK,zL,Ah]; simp[AV.cells,V1.cells,AC.uses]))(h4:Nat.ble (rs.flatMap R1.cells).length 64=F:=by exact rfl) :
  go P (.dops ((O N,U,.call d f args)::ds)::k) Q .normal (O σ):=BF (hf I.c) h h1 h3 h4
theorem jK(hf:T→FC P f xs rs)(h:go P (.ops its::k) Q .normal (O (σ.inst d rs)))(h1:σ.toDVs args=O xs:=by exact rfl)(h2:CC rs:=by first | exact E2 rfl | exact Db rfl ⟨Dc,⟨⟩⟩ | exact Db rfl ⟨Dc,rfl,⟨⟩⟩ | exact Db rfl ⟨Dc,rfl,rfl,⟨⟩⟩ | exact Db rfl ⟨rfl,rfl,rfl,Dc,rfl,⟨⟩⟩)(h3:σ.fresh d=F:=by first | exact rfl | (simp only[St.fresh,zK,zL,Ah]; simp[AV.cells,V1.cells,AC.uses]))(h4:Nat.ble (rs.flatMap R1.cells).length 64=F:=by exact rfl) :
  go P (.ops ((U,.call d f args)::its)::k) Q .normal (O σ):=E4 (hf I.c) h1 h2 h3 (zC h4) h
theorem lx{N:V Z}{ds:V AZ}(hf:T→FC P f xs rs)(h:go P (.dops ds::k) Q .normal (O (σ.inst d rs)))(h1:(σ.less N).toDVs args=O xs:=by exact rfl)(h2:CC rs:=by first | exact E2 rfl | exact Db rfl ⟨Dc,⟨⟩⟩ | exact Db rfl ⟨Dc,rfl,⟨⟩⟩)(h3:σ.fresh d=F:=by first | exact rfl | (simp only[St.fresh,zK,zL,Ah]; simp[AV.cells,V1.cells,AC.uses]))(h4:Nat.ble (rs.flatMap R1.cells).length 64=F:=by exact rfl) :
  go P (.dops ((O N,U,.call d f args)::ds)::k) Q .normal (O σ):=O4 (hf I.c) h1 h2 h3 (zC h4) h
end
theorem Ap(es:V (V D)){P:Program}{k:V Fr}{Q:Xn→St→Prop}{σ:St}{its:V AItem}{d sz:Z}{zs:V D}{len:Z}{ps:V (Z × Opd)}(H:go P (.ops its::k) Q .normal (O {(σ.set d (.v (.sc (.own (d*64))))) with rows:=put σ.rows (d*64) (sz,es) }))(hm:σ.made (.bslice d sz zs len ps)=O (.row d sz es):=by exact rfl)(hf:σ.fresh d=F:=by first | exact rfl | (simp only[St.fresh,zK,zL,Ah]; simp[AV.cells,V1.cells,AC.uses])) :
  go P (.ops ((U,.bslice d sz zs len ps)::its)::k) Q .normal (O σ):=Aq hm hf H
theorem Ea{α:Type}(row:α→V D)(z:α){P:Program}{k:V Fr}{Q:Xn→St→Prop}{σ:St}{its:V AItem}{d:Z}{L C:Opd}{l c:X}{bytes n sz:Z}{zs:V D}(hb:BI l c bytes=O n)
  (H:go P (.ops its::k) Q .normal (O {(σ.set d (.v (.sc (.own (d*64))))) with rows:=put σ.rows (d*64) (sz,zB row (zG n z)) })) (hl:BX (σ.val L)=O l:=by exact rfl) (hc:BX (σ.val C)=O c:=by exact rfl) (hz:zs.length=sz:=by exact rfl) (he:row z=zs:=by exact rfl) (hf:σ.fresh d=F:=by exact rfl):go P (.ops ((U,.mksl d sz bytes zs L C)::its)::k) Q .normal (O σ):=SO hl hc hb hz (Rt he) hf H
theorem ES{α:Type}(row:α→V D)(y:α){P:Program}{k:V Fr}{Q:Xn→St→Prop}{env bx rows}{id sz off n:Z}{i:X}{xs:V α}{x:α}{yv:V1}{dd:V D}(hx:ix xs i=O x)(H:go P k Q .normal (O ⟨env,bx,put rows id (sz,zB row (xs.set i.toNat y))⟩))(hd:yv.toDs=O dd:=by exact rfl)(hf:A1 rows id=O (sz,zB row xs):=by exact rfl)
  (hn:dd.length=n:=by exact rfl) (ho:Nat.ble (off+n) (row x).length=F:=by exact rfl) (hy:FV (row x) off dd=row y:=by exact rfl) :
  go P k Q .normal (St.storeV ⟨env,bx,rows⟩ n (.v (.sc (.pe id i.toNat off))) (.v yv)):=CE hd hf (Ay hx) hn ho hy H
theorem gc{G:Prop}(k:G:=by
 first | intro S hS | intro hS
 conv at hS=>rhs; reduce
 try simp only[Int.reduceOfNat,Int.reduceNegSucc,U8,UInt8.reduceOfNat] at hS
 subst hS;first | refine AM (AA ?_) | refine AA ?_ | skip
 repeat' (first | refine BE ?_ | refine Bv ?_ | refine An ?_ | refine C8 ?_ | (obtain⟨_,hc,h⟩:=ob h; first | refine jJ (by intro k; apply k; exact hc) ?_ | refine lu (by intro k; apply k; exact hc) ?_ | refine jK (by intro k; apply k; exact hc) ?_ | refine lx (by intro k; apply k; exact hc) ?_ | refine s0 hc ?_ | refine s1 hc ?_) | simp only[*,Nat.reduceBEq,Nat.reduceMul,Nat.reduceAdd,Nat.reduceDiv,Int.reduceBEq,J] | (first | refine s0 ?_ | refine s0 _ ?_ | refine s0 ‹_› ?_ | refine s0 _ ‹_› ?_ | refine s0 _ _ ‹_› ?_ | refine s1 ?_ | refine s1 _ ?_ | refine s1 ‹_› ?_ | refine s1 _ ‹_› ?_ | refine s1 _ _ ‹_› ?_ | refine s2 ?_ | refine s2 _ ?_ | refine s2 ‹_› ?_ | refine s2 _ ‹_› ?_ | refine s2 _ _ ‹_› ?_ | refine s3 ?_ | refine s3 _ ?_ | refine s3 ‹_› ?_ | refine s3 _ ‹_› ?_ | refine s3 _ _ ‹_› ?_) | ((first | show go _ (.code (.loop _)::_) _ _ _ | show go _ (.code (Ja _)::_) _ _ _); (first | refine ih h ?_ (by kernel_rfl) | refine k0 h ?_ (by kernel_rfl) | refine k0 ‹_› h ?_ (by kernel_rfl) | refine k0 ‹_› ‹_› h ?_ (by kernel_rfl) | refine k0 ‹_› ‹_› ‹_› h ?_ (by kernel_rfl) | refine k1 h ?_ (by kernel_rfl) | refine k1 ‹_› h ?_ (by kernel_rfl) | refine k1 ‹_› ‹_› h ?_ (by kernel_rfl) | refine k1 ‹_› ‹_› ‹_› h ?_ (by kernel_rfl) | refine k2 h ?_ (by kernel_rfl) | refine k2 ‹_› h ?_ (by kernel_rfl) | refine k2 ‹_› ‹_› h ?_ (by kernel_rfl) | refine k2 ‹_› ‹_› ‹_› h ?_ (by kernel_rfl) | refine k3 h ?_ (by kernel_rfl) | refine k3 ‹_› h ?_ (by kernel_rfl) | refine k3 ‹_› ‹_› h ?_ (by kernel_rfl) | refine k3 ‹_› ‹_› ‹_› h ?_ (by kernel_rfl)))<;>try simp only[*,Nat.reduceBEq,Nat.reduceMul,Nat.reduceAdd,Nat.reduceDiv,Int.reduceBEq,J,pL,aM,List.map_nil] | (obtain⟨_,_,h⟩:=ob h) | (obtain⟨_,h⟩:=AR h) | (obtain⟨_,h⟩:=Jf h) | (obtain⟨_,h⟩ | ⟨_,h⟩:=ic h) | (cases h; first | exact t0 | trivial | (repeat' constructor; done)))
 done):G:=k
end Go.Vi
