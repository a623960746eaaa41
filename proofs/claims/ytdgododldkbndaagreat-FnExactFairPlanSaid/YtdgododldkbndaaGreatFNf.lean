/-
Plain definitions of functions. No condition.
-/
import Derived.Test.YtdgododldkbndaaGreatFVi41
namespace Go.Vi
set_option linter.all false
open Int renaming toNat → zB, tdiv → zE, tmod → zI
open List renaming map → zC, replicate → zG, not_mem_nil → zH, mem_cons → zJ, all_cons → zK, all_nil → zL
open Nat renaming le_of_ble_eq_true → zD
open And renaming intro → zF
open IntKind renaming wrap → zM
open Bool renaming true → F, false → E
open Option renaming some → O, none → U
open _root_ renaming List → V, Option → W, Int → X, Bool → Y, Nat → Z, UInt8 → zA
def CF(k:IntKind)(x:X)(n:Z):X:=k.wrap (x.fdiv (2 ^ min n k.bits))
theorem fp{k:IntKind}{x:X}:CJ .shr (.v (.sc (.dat (.int k x)))) (.v (.sc (.dat (.int .u64 8))))=O (.v (.sc (.dat (.int k (CF k x 8))))):=by simp[CJ,AT,CF]
theorem qZ{k:IntKind}{x:X}:AT .shr k x 8=O (.int k (CF k x 8)):=by simp[AT,CF]
theorem fm{k:IntKind}{x:X}:CJ .shr (.v (.sc (.dat (.int k x)))) (.v (.sc (.dat (.int .u64 16))))=O (.v (.sc (.dat (.int k (CF k x 16))))):=by simp[CJ,AT,CF]
theorem qX{k:IntKind}{x:X}:AT .shr k x 16=O (.int k (CF k x 16)):=by simp[AT,CF]
theorem fo{k:IntKind}{x:X}:CJ .shr (.v (.sc (.dat (.int k x)))) (.v (.sc (.dat (.int .u64 32))))=O (.v (.sc (.dat (.int k (CF k x 32))))):=by simp[CJ,AT,CF]
theorem qY{k:IntKind}{x:X}:AT .shr k x 32=O (.int k (CF k x 32)):=by simp[AT,CF]
structure Xc where
 Amp:X
 Period:X
 Phase:X
 deriving DecidableEq
def Xc.row(x:Xc):V D:= [.int .i64 x.Amp,.int .i64 x.Period,.int .i64 x.Phase]
theorem Xc.row_eq(x:Xc):Xc.row x= [.int .i64 x.Amp,.int .i64 x.Period,.int .i64 x.Phase]:=rfl
instance:Row Xc.row 3:=⟨fun _=>rfl,zD rfl⟩
instance:FlatRow Xc.row:=⟨fun x d hd=>by simp only[Xc.row_eq,zJ,zH,or_false] at hd; rcases hd with rfl | rfl | rfl<;>rfl⟩
instance:OfTy (.st [(.int .i64),(.int .i64),(.int .i64)]) Xc.row:=⟨fun ds h=>by
 obtain⟨a0,b0,h0,t0,rfl⟩:=h;obtain⟨a1,b1,h1,t1,rfl⟩:=t0;obtain⟨a2,b2,h2,t2,rfl⟩:=t1;obtain rfl:=t2;obtain⟨x0,rfl⟩:=OfTy.of (row:=rI) _ h0;obtain⟨x1,rfl⟩:=OfTy.of (row:=rI) _ h1;obtain⟨x2,rfl⟩:=OfTy.of (row:=rI) _ h2;exact⟨⟨x0,x1,x2⟩,rfl⟩⟩
structure Xl where
 Mean:X
 Parts:V Xc
 deriving DecidableEq
def Xl.row(x:Xl):V D:= [.int .i64 x.Mean,.sl (zC Xc.row x.Parts)]
theorem Xl.row_eq(x:Xl):Xl.row x= [.int .i64 x.Mean,.sl (zC Xc.row x.Parts)]:=rfl
instance:Row Xl.row 2:=⟨fun _=>rfl,zD rfl⟩
instance:OfTy (.st [(.int .i64),(.sl (.st [(.int .i64),(.int .i64),(.int .i64)]))]) Xl.row:=⟨fun ds h=>by
 obtain⟨a0,b0,h0,t0,rfl⟩:=h;obtain⟨a1,b1,h1,t1,rfl⟩:=t0;obtain rfl:=t1;obtain⟨x0,rfl⟩:=OfTy.of (row:=rI) _ h0;obtain⟨x1,rfl⟩:=OfTy.of (row:=(rL Xc.row)) _ h1;exact⟨⟨x0,x1⟩,rfl⟩⟩
structure X9 where
 From:X
 Low:X
 High:X
 deriving DecidableEq
def X9.row(x:X9):V D:= [.int .i64 x.From,.int .i64 x.Low,.int .i64 x.High]
theorem X9.row_eq(x:X9):X9.row x= [.int .i64 x.From,.int .i64 x.Low,.int .i64 x.High]:=rfl
instance:Row X9.row 3:=⟨fun _=>rfl,zD rfl⟩
instance:FlatRow X9.row:=⟨fun x d hd=>by simp only[X9.row_eq,zJ,zH,or_false] at hd; rcases hd with rfl | rfl | rfl<;>rfl⟩
instance:OfTy (.st [(.int .i64),(.int .i64),(.int .i64)]) X9.row:=⟨fun ds h=>by
 obtain⟨a0,b0,h0,t0,rfl⟩:=h;obtain⟨a1,b1,h1,t1,rfl⟩:=t0;obtain⟨a2,b2,h2,t2,rfl⟩:=t1;obtain rfl:=t2;obtain⟨x0,rfl⟩:=OfTy.of (row:=rI) _ h0;obtain⟨x1,rfl⟩:=OfTy.of (row:=rI) _ h1;obtain⟨x2,rfl⟩:=OfTy.of (row:=rI) _ h2;exact⟨⟨x0,x1,x2⟩,rfl⟩⟩
structure Xd where
 Tide:Xl
 Surges:V X9
 deriving DecidableEq
def Xd.row(x:Xd):V D:= [.int .i64 x.Tide.Mean,.sl (zC Xc.row x.Tide.Parts),.sl (zC X9.row x.Surges)]
theorem Xd.row_eq(x:Xd):Xd.row x= [.int .i64 x.Tide.Mean,.sl (zC Xc.row x.Tide.Parts),.sl (zC X9.row x.Surges)]:=rfl
instance:Row Xd.row 3:=⟨fun _=>rfl,zD rfl⟩
instance:OfTy (.st [(.st [(.int .i64),(.sl (.st [(.int .i64),(.int .i64),(.int .i64)]))]),(.sl (.st [(.int .i64),(.int .i64),(.int .i64)]))]) Xd.row:=⟨fun ds h=>by
 obtain⟨a0,b0,h0,t0,rfl⟩:=h;obtain⟨a1,b1,h1,t1,rfl⟩:=t0;obtain rfl:=t1;obtain⟨x0,rfl⟩:=OfTy.of (row:=Xl.row) _ h0;obtain⟨x1,rfl⟩:=OfTy.of (row:=(rL X9.row)) _ h1;exact⟨⟨x0,x1⟩,rfl⟩⟩
structure X7 where
 Name:V zA
 Wait:Y
 deriving DecidableEq
def X7.row(x:X7):V D:= [.str x.Name,.bool x.Wait]
theorem X7.row_eq(x:X7):X7.row x= [.str x.Name,.bool x.Wait]:=rfl
instance:Row X7.row 2:=⟨fun _=>rfl,zD rfl⟩
instance:FlatRow X7.row:=⟨fun x d hd=>by simp only[X7.row_eq,zJ,zH,or_false] at hd; rcases hd with rfl | rfl<;>rfl⟩
instance:OfTy (.st [.str,.bool]) X7.row:=⟨fun ds h=>by
 obtain⟨a0,b0,h0,t0,rfl⟩:=h;obtain⟨a1,b1,h1,t1,rfl⟩:=t0;obtain rfl:=t1;obtain⟨x0,rfl⟩:=OfTy.of (row:=rS) _ h0;obtain⟨x1,rfl⟩:=OfTy.of (row:=rB) _ h1;exact⟨⟨x0,x1⟩,rfl⟩⟩
structure X2 where
 A:X
 B:X
 Depth:X
 Minutes:X
 Meet:Y
 deriving DecidableEq
def X2.row(x:X2):V D:= [.int .i64 x.A,.int .i64 x.B,.int .i64 x.Depth,.int .i64 x.Minutes,.bool x.Meet]
theorem X2.row_eq(x:X2):X2.row x= [.int .i64 x.A,.int .i64 x.B,.int .i64 x.Depth,.int .i64 x.Minutes,.bool x.Meet]:=rfl
instance:Row X2.row 5:=⟨fun _=>rfl,zD rfl⟩
instance:FlatRow X2.row:=⟨fun x d hd=>by simp only[X2.row_eq,zJ,zH,or_false] at hd; rcases hd with rfl | rfl | rfl | rfl | rfl<;>rfl⟩
instance:OfTy (.st [(.int .i64),(.int .i64),(.int .i64),(.int .i64),.bool]) X2.row:=⟨fun ds h=>by
 obtain⟨a0,b0,h0,t0,rfl⟩:=h;obtain⟨a1,b1,h1,t1,rfl⟩:=t0;obtain⟨a2,b2,h2,t2,rfl⟩:=t1;obtain⟨a3,b3,h3,t3,rfl⟩:=t2;obtain⟨a4,b4,h4,t4,rfl⟩:=t3;obtain rfl:=t4;obtain⟨x0,rfl⟩:=OfTy.of (row:=rI) _ h0;obtain⟨x1,rfl⟩:=OfTy.of (row:=rI) _ h1;obtain⟨x2,rfl⟩:=OfTy.of (row:=rI) _ h2;obtain⟨x3,rfl⟩:=OfTy.of (row:=rI) _ h3;obtain⟨x4,rfl⟩:=OfTy.of (row:=rB) _ h4;exact⟨⟨x0,x1,x2,x3,x4⟩,rfl⟩⟩
structure X1 where
 Points:V X7
 Segments:V X2
 deriving DecidableEq
def X1.row(x:X1):V D:= [.sl (zC X7.row x.Points),.sl (zC X2.row x.Segments)]
theorem X1.row_eq(x:X1):X1.row x= [.sl (zC X7.row x.Points),.sl (zC X2.row x.Segments)]:=rfl
instance:Row X1.row 2:=⟨fun _=>rfl,zD rfl⟩
instance:OfTy (.st [(.sl (.st [.str,.bool])),(.sl (.st [(.int .i64),(.int .i64),(.int .i64),(.int .i64),.bool]))]) X1.row:=⟨fun ds h=>by
 obtain⟨a0,b0,h0,t0,rfl⟩:=h;obtain⟨a1,b1,h1,t1,rfl⟩:=t0;obtain rfl:=t1;obtain⟨x0,rfl⟩:=OfTy.of (row:=(rL X7.row)) _ h0;obtain⟨x1,rfl⟩:=OfTy.of (row:=(rL X2.row)) _ h1;exact⟨⟨x0,x1⟩,rfl⟩⟩
structure X4 where
 Name:V zA
 Length:X
 Draught:X
 Line:X
 Tugs:X
 Slow:Y
 deriving DecidableEq
def X4.row(x:X4):V D:= [.str x.Name,.int .i64 x.Length,.int .i64 x.Draught,.int .i64 x.Line,.int .i64 x.Tugs,.bool x.Slow]
theorem X4.row_eq(x:X4):X4.row x= [.str x.Name,.int .i64 x.Length,.int .i64 x.Draught,.int .i64 x.Line,.int .i64 x.Tugs,.bool x.Slow]:=rfl
instance:Row X4.row 6:=⟨fun _=>rfl,zD rfl⟩
instance:FlatRow X4.row:=⟨fun x d hd=>by simp only[X4.row_eq,zJ,zH,or_false] at hd; rcases hd with rfl | rfl | rfl | rfl | rfl | rfl<;>rfl⟩
instance:OfTy (.st [.str,(.int .i64),(.int .i64),(.int .i64),(.int .i64),.bool]) X4.row:=⟨fun ds h=>by
 obtain⟨a0,b0,h0,t0,rfl⟩:=h;obtain⟨a1,b1,h1,t1,rfl⟩:=t0;obtain⟨a2,b2,h2,t2,rfl⟩:=t1;obtain⟨a3,b3,h3,t3,rfl⟩:=t2;obtain⟨a4,b4,h4,t4,rfl⟩:=t3;obtain⟨a5,b5,h5,t5,rfl⟩:=t4;obtain rfl:=t5;obtain⟨x0,rfl⟩:=OfTy.of (row:=rS) _ h0;obtain⟨x1,rfl⟩:=OfTy.of (row:=rI) _ h1;obtain⟨x2,rfl⟩:=OfTy.of (row:=rI) _ h2;obtain⟨x3,rfl⟩:=OfTy.of (row:=rI) _ h3;obtain⟨x4,rfl⟩:=OfTy.of (row:=rI) _ h4;obtain⟨x5,rfl⟩:=OfTy.of (row:=rB) _ h5;exact⟨⟨x0,x1,x2,x3,x4,x5⟩,rfl⟩⟩
structure Xi where
 Gap:X
 NoMeet:Y
 deriving DecidableEq
def Xi.row(x:Xi):V D:= [.int .i64 x.Gap,.bool x.NoMeet]
theorem Xi.row_eq(x:Xi):Xi.row x= [.int .i64 x.Gap,.bool x.NoMeet]:=rfl
instance:Row Xi.row 2:=⟨fun _=>rfl,zD rfl⟩
instance:FlatRow Xi.row:=⟨fun x d hd=>by simp only[Xi.row_eq,zJ,zH,or_false] at hd; rcases hd with rfl | rfl<;>rfl⟩
instance:OfTy (.st [(.int .i64),.bool]) Xi.row:=⟨fun ds h=>by
 obtain⟨a0,b0,h0,t0,rfl⟩:=h;obtain⟨a1,b1,h1,t1,rfl⟩:=t0;obtain rfl:=t1;obtain⟨x0,rfl⟩:=OfTy.of (row:=rI) _ h0;obtain⟨x1,rfl⟩:=OfTy.of (row:=rB) _ h1;exact⟨⟨x0,x1⟩,rfl⟩⟩
structure Xn where
 Tugs:X
 Pilots:X
 Rest:X
 Moves:V X
 deriving DecidableEq
def Xn.row(x:Xn):V D:= [.int .i64 x.Tugs,.int .i64 x.Pilots,.int .i64 x.Rest,.sl (zC rI x.Moves)]
theorem Xn.row_eq(x:Xn):Xn.row x= [.int .i64 x.Tugs,.int .i64 x.Pilots,.int .i64 x.Rest,.sl (zC rI x.Moves)]:=rfl
instance:Row Xn.row 4:=⟨fun _=>rfl,zD rfl⟩
instance:OfTy (.st [(.int .i64),(.int .i64),(.int .i64),(.sl (.int .i64))]) Xn.row:=⟨fun ds h=>by
 obtain⟨a0,b0,h0,t0,rfl⟩:=h;obtain⟨a1,b1,h1,t1,rfl⟩:=t0;obtain⟨a2,b2,h2,t2,rfl⟩:=t1;obtain⟨a3,b3,h3,t3,rfl⟩:=t2;obtain rfl:=t3;obtain⟨x0,rfl⟩:=OfTy.of (row:=rI) _ h0;obtain⟨x1,rfl⟩:=OfTy.of (row:=rI) _ h1;obtain⟨x2,rfl⟩:=OfTy.of (row:=rI) _ h2;obtain⟨x3,rfl⟩:=OfTy.of (row:=(rL rI)) _ h3;exact⟨⟨x0,x1,x2,x3⟩,rfl⟩⟩
structure X6 where
 Forecast:Xd
 Chart:X1
 Fleet:V X4
 Regime:Xi
 Crew:Xn
 deriving DecidableEq
def X6.row(x:X6):V D:= [.int .i64 x.Forecast.Tide.Mean,.sl (zC Xc.row x.Forecast.Tide.Parts),.sl (zC X9.row x.Forecast.Surges),.sl (zC X7.row x.Chart.Points),.sl (zC X2.row x.Chart.Segments),.sl (zC X4.row x.Fleet),.int .i64 x.Regime.Gap,.bool x.Regime.NoMeet,.int .i64 x.Crew.Tugs,.int .i64 x.Crew.Pilots,.int .i64 x.Crew.Rest,.sl (zC rI x.Crew.Moves)]
theorem X6.row_eq(x:X6):X6.row x= [.int .i64 x.Forecast.Tide.Mean,.sl (zC Xc.row x.Forecast.Tide.Parts),.sl (zC X9.row x.Forecast.Surges),.sl (zC X7.row x.Chart.Points),.sl (zC X2.row x.Chart.Segments),.sl (zC X4.row x.Fleet),.int .i64 x.Regime.Gap,.bool x.Regime.NoMeet,.int .i64 x.Crew.Tugs,.int .i64 x.Crew.Pilots,.int .i64 x.Crew.Rest,.sl (zC rI x.Crew.Moves)]:=rfl
instance:Row X6.row 12:=⟨fun _=>rfl,zD rfl⟩
instance:OfTy (.st [(.st [(.st [(.int .i64),(.sl (.st [(.int .i64),(.int .i64),(.int .i64)]))]),(.sl (.st [(.int .i64),(.int .i64),(.int .i64)]))]),(.st [(.sl (.st [.str,.bool])),(.sl (.st [(.int .i64),(.int .i64),(.int .i64),(.int .i64),.bool]))]),(.sl (.st [.str,(.int .i64),(.int .i64),(.int .i64),(.int .i64),.bool])),(.st [(.int .i64),.bool]),(.st [(.int .i64),(.int .i64),(.int .i64),(.sl (.int .i64))])]) X6.row:=⟨fun ds h=>by
 obtain⟨a0,b0,h0,t0,rfl⟩:=h;obtain⟨a1,b1,h1,t1,rfl⟩:=t0;obtain⟨a2,b2,h2,t2,rfl⟩:=t1;obtain⟨a3,b3,h3,t3,rfl⟩:=t2;obtain⟨a4,b4,h4,t4,rfl⟩:=t3;obtain rfl:=t4;obtain⟨x0,rfl⟩:=OfTy.of (row:=Xd.row) _ h0;obtain⟨x1,rfl⟩:=OfTy.of (row:=X1.row) _ h1;obtain⟨x2,rfl⟩:=OfTy.of (row:=(rL X4.row)) _ h2;obtain⟨x3,rfl⟩:=OfTy.of (row:=Xi.row) _ h3;obtain⟨x4,rfl⟩:=OfTy.of (row:=Xn.row) _ h4;exact⟨⟨x0,x1,x2,x3,x4⟩,rfl⟩⟩
structure Xa where
 Ship:X
 From:X
 To:X
 Ready:X
 Due:X
 deriving DecidableEq
def Xa.row(x:Xa):V D:= [.int .i64 x.Ship,.int .i64 x.From,.int .i64 x.To,.int .i64 x.Ready,.int .i64 x.Due]
theorem Xa.row_eq(x:Xa):Xa.row x= [.int .i64 x.Ship,.int .i64 x.From,.int .i64 x.To,.int .i64 x.Ready,.int .i64 x.Due]:=rfl
instance:Row Xa.row 5:=⟨fun _=>rfl,zD rfl⟩
instance:FlatRow Xa.row:=⟨fun x d hd=>by simp only[Xa.row_eq,zJ,zH,or_false] at hd; rcases hd with rfl | rfl | rfl | rfl | rfl<;>rfl⟩
instance:OfTy (.st [(.int .i64),(.int .i64),(.int .i64),(.int .i64),(.int .i64)]) Xa.row:=⟨fun ds h=>by
 obtain⟨a0,b0,h0,t0,rfl⟩:=h;obtain⟨a1,b1,h1,t1,rfl⟩:=t0;obtain⟨a2,b2,h2,t2,rfl⟩:=t1;obtain⟨a3,b3,h3,t3,rfl⟩:=t2;obtain⟨a4,b4,h4,t4,rfl⟩:=t3;obtain rfl:=t4;obtain⟨x0,rfl⟩:=OfTy.of (row:=rI) _ h0;obtain⟨x1,rfl⟩:=OfTy.of (row:=rI) _ h1;obtain⟨x2,rfl⟩:=OfTy.of (row:=rI) _ h2;obtain⟨x3,rfl⟩:=OfTy.of (row:=rI) _ h3;obtain⟨x4,rfl⟩:=OfTy.of (row:=rI) _ h4;exact⟨⟨x0,x1,x2,x3,x4⟩,rfl⟩⟩
structure X3 where
 Ship:X
 Segment:X
 Toward:Y
 Start:X
 End:X
 deriving DecidableEq
def X3.row(x:X3):V D:= [.int .i64 x.Ship,.int .i64 x.Segment,.bool x.Toward,.int .i64 x.Start,.int .i64 x.End]
theorem X3.row_eq(x:X3):X3.row x= [.int .i64 x.Ship,.int .i64 x.Segment,.bool x.Toward,.int .i64 x.Start,.int .i64 x.End]:=rfl
instance:Row X3.row 5:=⟨fun _=>rfl,zD rfl⟩
instance:FlatRow X3.row:=⟨fun x d hd=>by simp only[X3.row_eq,zJ,zH,or_false] at hd; rcases hd with rfl | rfl | rfl | rfl | rfl<;>rfl⟩
instance:OfTy (.st [(.int .i64),(.int .i64),.bool,(.int .i64),(.int .i64)]) X3.row:=⟨fun ds h=>by
 obtain⟨a0,b0,h0,t0,rfl⟩:=h;obtain⟨a1,b1,h1,t1,rfl⟩:=t0;obtain⟨a2,b2,h2,t2,rfl⟩:=t1;obtain⟨a3,b3,h3,t3,rfl⟩:=t2;obtain⟨a4,b4,h4,t4,rfl⟩:=t3;obtain rfl:=t4;obtain⟨x0,rfl⟩:=OfTy.of (row:=rI) _ h0;obtain⟨x1,rfl⟩:=OfTy.of (row:=rI) _ h1;obtain⟨x2,rfl⟩:=OfTy.of (row:=rB) _ h2;obtain⟨x3,rfl⟩:=OfTy.of (row:=rI) _ h3;obtain⟨x4,rfl⟩:=OfTy.of (row:=rI) _ h4;exact⟨⟨x0,x1,x2,x3,x4⟩,rfl⟩⟩
structure X0 where
 Start:X
 Arrival:X
 Cost:X
 Passages:V X3
 deriving DecidableEq
def X0.row(x:X0):V D:= [.int .i64 x.Start,.int .i64 x.Arrival,.int .i64 x.Cost,.sl (zC X3.row x.Passages)]
theorem X0.row_eq(x:X0):X0.row x= [.int .i64 x.Start,.int .i64 x.Arrival,.int .i64 x.Cost,.sl (zC X3.row x.Passages)]:=rfl
instance:Row X0.row 4:=⟨fun _=>rfl,zD rfl⟩
instance:OfTy (.st [(.int .i64),(.int .i64),(.int .i64),(.sl (.st [(.int .i64),(.int .i64),.bool,(.int .i64),(.int .i64)]))]) X0.row:=⟨fun ds h=>by
 obtain⟨a0,b0,h0,t0,rfl⟩:=h;obtain⟨a1,b1,h1,t1,rfl⟩:=t0;obtain⟨a2,b2,h2,t2,rfl⟩:=t1;obtain⟨a3,b3,h3,t3,rfl⟩:=t2;obtain rfl:=t3;obtain⟨x0,rfl⟩:=OfTy.of (row:=rI) _ h0;obtain⟨x1,rfl⟩:=OfTy.of (row:=rI) _ h1;obtain⟨x2,rfl⟩:=OfTy.of (row:=rI) _ h2;obtain⟨x3,rfl⟩:=OfTy.of (row:=(rL X3.row)) _ h3;exact⟨⟨x0,x1,x2,x3⟩,rfl⟩⟩
structure X5 where
 From:X
 To:X
 deriving DecidableEq
def X5.row(x:X5):V D:= [.int .i64 x.From,.int .i64 x.To]
theorem X5.row_eq(x:X5):X5.row x= [.int .i64 x.From,.int .i64 x.To]:=rfl
instance:Row X5.row 2:=⟨fun _=>rfl,zD rfl⟩
instance:FlatRow X5.row:=⟨fun x d hd=>by simp only[X5.row_eq,zJ,zH,or_false] at hd; rcases hd with rfl | rfl<;>rfl⟩
instance:OfTy (.st [(.int .i64),(.int .i64)]) X5.row:=⟨fun ds h=>by
 obtain⟨a0,b0,h0,t0,rfl⟩:=h;obtain⟨a1,b1,h1,t1,rfl⟩:=t0;obtain rfl:=t1;obtain⟨x0,rfl⟩:=OfTy.of (row:=rI) _ h0;obtain⟨x1,rfl⟩:=OfTy.of (row:=rI) _ h1;exact⟨⟨x0,x1⟩,rfl⟩⟩
structure Xf where
 h:X6
 calls:V Xa
 lists:V (V X0)
 clash:V (V (V (V Y)))
 best:V X
 most:X
 cost:X
 found:Y
 deriving DecidableEq
def Xf.row(x:Xf):V D:= [.int .i64 x.h.Forecast.Tide.Mean,.sl (zC Xc.row x.h.Forecast.Tide.Parts),.sl (zC X9.row x.h.Forecast.Surges),.sl (zC X7.row x.h.Chart.Points),.sl (zC X2.row x.h.Chart.Segments),.sl (zC X4.row x.h.Fleet),.int .i64 x.h.Regime.Gap,.bool x.h.Regime.NoMeet,.int .i64 x.h.Crew.Tugs,.int .i64 x.h.Crew.Pilots,.int .i64 x.h.Crew.Rest,.sl (zC rI x.h.Crew.Moves),.sl (zC Xa.row x.calls),.sl (zC (rL X0.row) x.lists),.sl (zC (rL (rL (rL rB))) x.clash),.sl (zC rI x.best),.int .i64 x.most,.int .i64 x.cost,.bool x.found]
theorem Xf.row_eq(x:Xf):Xf.row x= [.int .i64 x.h.Forecast.Tide.Mean,.sl (zC Xc.row x.h.Forecast.Tide.Parts),.sl (zC X9.row x.h.Forecast.Surges),.sl (zC X7.row x.h.Chart.Points),.sl (zC X2.row x.h.Chart.Segments),.sl (zC X4.row x.h.Fleet),.int .i64 x.h.Regime.Gap,.bool x.h.Regime.NoMeet,.int .i64 x.h.Crew.Tugs,.int .i64 x.h.Crew.Pilots,.int .i64 x.h.Crew.Rest,.sl (zC rI x.h.Crew.Moves),.sl (zC Xa.row x.calls),.sl (zC (rL X0.row) x.lists),.sl (zC (rL (rL (rL rB))) x.clash),.sl (zC rI x.best),.int .i64 x.most,.int .i64 x.cost,.bool x.found]:=rfl
instance:Row Xf.row 19:=⟨fun _=>rfl,zD rfl⟩
instance:OfTy (.st [(.st [(.st [(.st [(.int .i64),(.sl (.st [(.int .i64),(.int .i64),(.int .i64)]))]),(.sl (.st [(.int .i64),(.int .i64),(.int .i64)]))]),(.st [(.sl (.st [.str,.bool])),(.sl (.st [(.int .i64),(.int .i64),(.int .i64),(.int .i64),.bool]))]),(.sl (.st [.str,(.int .i64),(.int .i64),(.int .i64),(.int .i64),.bool])),(.st [(.int .i64),.bool]),(.st [(.int .i64),(.int .i64),(.int .i64),(.sl (.int .i64))])]),(.sl (.st [(.int .i64),(.int .i64),(.int .i64),(.int .i64),(.int .i64)])),(.sl (.sl (.st [(.int .i64),(.int .i64),(.int .i64),(.sl (.st [(.int .i64),(.int .i64),.bool,(.int .i64),(.int .i64)]))]))),(.sl (.sl (.sl (.sl .bool)))),(.sl (.int .i64)),(.int .i64),(.int .i64),.bool]) Xf.row:=⟨fun ds h=>by
 obtain⟨a0,b0,h0,t0,rfl⟩:=h;obtain⟨a1,b1,h1,t1,rfl⟩:=t0;obtain⟨a2,b2,h2,t2,rfl⟩:=t1;obtain⟨a3,b3,h3,t3,rfl⟩:=t2;obtain⟨a4,b4,h4,t4,rfl⟩:=t3;obtain⟨a5,b5,h5,t5,rfl⟩:=t4;obtain⟨a6,b6,h6,t6,rfl⟩:=t5;obtain⟨a7,b7,h7,t7,rfl⟩:=t6;obtain rfl:=t7;obtain⟨x0,rfl⟩:=OfTy.of (row:=X6.row) _ h0;obtain⟨x1,rfl⟩:=OfTy.of (row:=(rL Xa.row)) _ h1;obtain⟨x2,rfl⟩:=OfTy.of (row:=(rL (rL X0.row))) _ h2;obtain⟨x3,rfl⟩:=OfTy.of (row:=(rL (rL (rL (rL rB))))) _ h3;obtain⟨x4,rfl⟩:=OfTy.of (row:=(rL rI)) _ h4;obtain⟨x5,rfl⟩:=OfTy.of (row:=rI) _ h5;obtain⟨x6,rfl⟩:=OfTy.of (row:=rI) _ h6;obtain⟨x7,rfl⟩:=OfTy.of (row:=rB) _ h7;exact⟨⟨x0,x1,x2,x3,x4,x5,x6,x7⟩,rfl⟩⟩
abbrev Cl(x:Xf):V XC:= [.d (.int .i64 x.h.Forecast.Tide.Mean),.d (.sl (zC Xc.row x.h.Forecast.Tide.Parts)),.d (.sl (zC X9.row x.h.Forecast.Surges)),.d (.sl (zC X7.row x.h.Chart.Points)),.d (.sl (zC X2.row x.h.Chart.Segments)),.d (.sl (zC X4.row x.h.Fleet)),.d (.int .i64 x.h.Regime.Gap),.d (.bool x.h.Regime.NoMeet),.d (.int .i64 x.h.Crew.Tugs),.d (.int .i64 x.h.Crew.Pilots),.d (.int .i64 x.h.Crew.Rest),.d (.sl (zC rI x.h.Crew.Moves)),.d (.sl (zC Xa.row x.calls)),.d (.sl (zC (rL X0.row) x.lists)),.d (.sl (zC (rL (rL (rL rB))) x.clash)),.r 0,.d (.int .i64 x.most),.d (.int .i64 x.cost),.d (.bool x.found)]
abbrev Cm(x:Xf):Ap:= [(1,zC rI x.best)]
structure Xo where
 Waits:V X
 Calls:V X
 deriving DecidableEq
def Xo.row(x:Xo):V D:= [.sl (zC rI x.Waits),.sl (zC rI x.Calls)]
theorem Xo.row_eq(x:Xo):Xo.row x= [.sl (zC rI x.Waits),.sl (zC rI x.Calls)]:=rfl
instance:Row Xo.row 2:=⟨fun _=>rfl,zD rfl⟩
instance:OfTy (.st [(.sl (.int .i64)),(.sl (.int .i64))]) Xo.row:=⟨fun ds h=>by
 obtain⟨a0,b0,h0,t0,rfl⟩:=h;obtain⟨a1,b1,h1,t1,rfl⟩:=t0;obtain rfl:=t1;obtain⟨x0,rfl⟩:=OfTy.of (row:=(rL rI)) _ h0;obtain⟨x1,rfl⟩:=OfTy.of (row:=(rL rI)) _ h1;exact⟨⟨x0,x1⟩,rfl⟩⟩
structure Xb where
 From:X
 To:X
 A:X
 B:X
 deriving DecidableEq
def Xb.row(x:Xb):V D:= [.int .i64 x.From,.int .i64 x.To,.int .i64 x.A,.int .i64 x.B]
theorem Xb.row_eq(x:Xb):Xb.row x= [.int .i64 x.From,.int .i64 x.To,.int .i64 x.A,.int .i64 x.B]:=rfl
instance:Row Xb.row 4:=⟨fun _=>rfl,zD rfl⟩
instance:FlatRow Xb.row:=⟨fun x d hd=>by simp only[Xb.row_eq,zJ,zH,or_false] at hd; rcases hd with rfl | rfl | rfl | rfl<;>rfl⟩
instance:OfTy (.st [(.int .i64),(.int .i64),(.int .i64),(.int .i64)]) Xb.row:=⟨fun ds h=>by
 obtain⟨a0,b0,h0,t0,rfl⟩:=h;obtain⟨a1,b1,h1,t1,rfl⟩:=t0;obtain⟨a2,b2,h2,t2,rfl⟩:=t1;obtain⟨a3,b3,h3,t3,rfl⟩:=t2;obtain rfl:=t3;obtain⟨x0,rfl⟩:=OfTy.of (row:=rI) _ h0;obtain⟨x1,rfl⟩:=OfTy.of (row:=rI) _ h1;obtain⟨x2,rfl⟩:=OfTy.of (row:=rI) _ h2;obtain⟨x3,rfl⟩:=OfTy.of (row:=rI) _ h3;exact⟨⟨x0,x1,x2,x3⟩,rfl⟩⟩
structure X8 where
 i0:Y
 i1:Y
 i2:Y
 i3:Y
 i4:Y
 i5:Y
 i6:Y
 i7:Y
 deriving DecidableEq
def X8.row(x:X8):V D:= [.bool x.i0,.bool x.i1,.bool x.i2,.bool x.i3,.bool x.i4,.bool x.i5,.bool x.i6,.bool x.i7]
theorem X8.row_eq(x:X8):X8.row x= [.bool x.i0,.bool x.i1,.bool x.i2,.bool x.i3,.bool x.i4,.bool x.i5,.bool x.i6,.bool x.i7]:=rfl
instance:Row X8.row 8:=⟨fun _=>rfl,zD rfl⟩
def X8.set(x:X8)(n:Z)(v:Y):X8:=⟨bif n==0 then v else x.i0,bif n==1 then v else x.i1,bif n==2 then v else x.i2,bif n==3 then v else x.i3,bif n==4 then v else x.i4,bif n==5 then v else x.i5,bif n==6 then v else x.i6,bif n==7 then v else x.i7⟩
theorem X8.set_eq(x:X8){n:Z}{v:Y}(h:n<8):BL (zC AC.dat (X8.row x)) n [.dat (.bool v)]=zC AC.dat (X8.row (X8.set x n v)):=by
 match n,h with
 | 0,_=>rfl
 | 1,_=>rfl
 | 2,_=>rfl
 | 3,_=>rfl
 | 4,_=>rfl
 | 5,_=>rfl
 | 6,_=>rfl
 | 7,_=>rfl
instance:FlatRow X8.row:=⟨fun x d hd=>by simp only[X8.row_eq,zJ,zH,or_false] at hd; rcases hd with rfl | rfl | rfl | rfl | rfl | rfl | rfl | rfl<;>rfl⟩
instance:OfTy (.st [.bool,.bool,.bool,.bool,.bool,.bool,.bool,.bool]) X8.row:=⟨fun ds h=>by
 obtain⟨a0,b0,h0,t0,rfl⟩:=h;obtain⟨a1,b1,h1,t1,rfl⟩:=t0;obtain⟨a2,b2,h2,t2,rfl⟩:=t1;obtain⟨a3,b3,h3,t3,rfl⟩:=t2;obtain⟨a4,b4,h4,t4,rfl⟩:=t3;obtain⟨a5,b5,h5,t5,rfl⟩:=t4;obtain⟨a6,b6,h6,t6,rfl⟩:=t5;obtain⟨a7,b7,h7,t7,rfl⟩:=t6;obtain rfl:=t7;obtain⟨x0,rfl⟩:=OfTy.of (row:=rB) _ h0;obtain⟨x1,rfl⟩:=OfTy.of (row:=rB) _ h1;obtain⟨x2,rfl⟩:=OfTy.of (row:=rB) _ h2;obtain⟨x3,rfl⟩:=OfTy.of (row:=rB) _ h3;obtain⟨x4,rfl⟩:=OfTy.of (row:=rB) _ h4;obtain⟨x5,rfl⟩:=OfTy.of (row:=rB) _ h5;obtain⟨x6,rfl⟩:=OfTy.of (row:=rB) _ h6;obtain⟨x7,rfl⟩:=OfTy.of (row:=rB) _ h7;exact⟨⟨x0,x1,x2,x3,x4,x5,x6,x7⟩,rfl⟩⟩
structure Xk where
 waits:V Y
 minutes:V X
 sure:V (V X5)
 deriving DecidableEq
def Xk.row(x:Xk):V D:= [.sl (zC rB x.waits),.sl (zC rI x.minutes),.sl (zC (rL X5.row) x.sure)]
theorem Xk.row_eq(x:Xk):Xk.row x= [.sl (zC rB x.waits),.sl (zC rI x.minutes),.sl (zC (rL X5.row) x.sure)]:=rfl
instance:Row Xk.row 3:=⟨fun _=>rfl,zD rfl⟩
instance:OfTy (.st [(.sl .bool),(.sl (.int .i64)),(.sl (.sl (.st [(.int .i64),(.int .i64)])))]) Xk.row:=⟨fun ds h=>by
 obtain⟨a0,b0,h0,t0,rfl⟩:=h;obtain⟨a1,b1,h1,t1,rfl⟩:=t0;obtain⟨a2,b2,h2,t2,rfl⟩:=t1;obtain rfl:=t2;obtain⟨x0,rfl⟩:=OfTy.of (row:=(rL rB)) _ h0;obtain⟨x1,rfl⟩:=OfTy.of (row:=(rL rI)) _ h1;obtain⟨x2,rfl⟩:=OfTy.of (row:=(rL (rL X5.row))) _ h2;exact⟨⟨x0,x1,x2⟩,rfl⟩⟩
structure Xj where
 i0:X
 i1:X
 deriving DecidableEq
def Xj.row(x:Xj):V D:= [.int .i64 x.i0,.int .i64 x.i1]
theorem Xj.row_eq(x:Xj):Xj.row x= [.int .i64 x.i0,.int .i64 x.i1]:=rfl
instance:Row Xj.row 2:=⟨fun _=>rfl,zD rfl⟩
instance:FlatRow Xj.row:=⟨fun x d hd=>by simp only[Xj.row_eq,zJ,zH,or_false] at hd; rcases hd with rfl | rfl<;>rfl⟩
instance:OfTy (.st [(.int .i64),(.int .i64)]) Xj.row:=⟨fun ds h=>by
 obtain⟨a0,b0,h0,t0,rfl⟩:=h;obtain⟨a1,b1,h1,t1,rfl⟩:=t0;obtain rfl:=t1;obtain⟨x0,rfl⟩:=OfTy.of (row:=rI) _ h0;obtain⟨x1,rfl⟩:=OfTy.of (row:=rI) _ h1;exact⟨⟨x0,x1⟩,rfl⟩⟩
structure Xe where
 h:X6
 choices:V (V X0)
 plan:V X0
 choice:V X
 best:V X
 least:Xj
 found:Y
abbrev Da(F_w0:FuncId)(caps_w0:V D)(x:Xe):V XC:= [.d (.int .i64 x.h.Forecast.Tide.Mean),.d (.sl (zC Xc.row x.h.Forecast.Tide.Parts)),.d (.sl (zC X9.row x.h.Forecast.Surges)),.d (.sl (zC X7.row x.h.Chart.Points)),.d (.sl (zC X2.row x.h.Chart.Segments)),.d (.sl (zC X4.row x.h.Fleet)),.d (.int .i64 x.h.Regime.Gap),.d (.bool x.h.Regime.NoMeet),.d (.int .i64 x.h.Crew.Tugs),.d (.int .i64 x.h.Crew.Pilots),.d (.int .i64 x.h.Crew.Rest),.d (.sl (zC rI x.h.Crew.Moves)),.d (.sl (zC (rL X0.row) x.choices)),.d (.clo F_w0 caps_w0),.r 0,.r 1,.r 2,.d (.int .i64 x.least.i0),.d (.int .i64 x.least.i1),.d (.bool x.found)]
abbrev Db(x:Xe):Ap:= [(4,zC X0.row x.plan),(1,zC rI x.choice),(1,zC rI x.best)]
structure Xg where
 sets:V X
 most:X
 groups:V X
 who:V X
 deriving DecidableEq
def Xg.row(x:Xg):V D:= [.sl (zC rU x.sets),.int .i64 x.most,.sl (zC rU x.groups),.sl (zC rI x.who)]
theorem Xg.row_eq(x:Xg):Xg.row x= [.sl (zC rU x.sets),.int .i64 x.most,.sl (zC rU x.groups),.sl (zC rI x.who)]:=rfl
instance:Row Xg.row 4:=⟨fun _=>rfl,zD rfl⟩
instance:OfTy (.st [(.sl (.int .u64)),(.int .i64),(.sl (.int .u64)),(.sl (.int .i64))]) Xg.row:=⟨fun ds h=>by
 obtain⟨a0,b0,h0,t0,rfl⟩:=h;obtain⟨a1,b1,h1,t1,rfl⟩:=t0;obtain⟨a2,b2,h2,t2,rfl⟩:=t1;obtain⟨a3,b3,h3,t3,rfl⟩:=t2;obtain rfl:=t3;obtain⟨x0,rfl⟩:=OfTy.of (row:=(rL rU)) _ h0;obtain⟨x1,rfl⟩:=OfTy.of (row:=rI) _ h1;obtain⟨x2,rfl⟩:=OfTy.of (row:=(rL rU)) _ h2;obtain⟨x3,rfl⟩:=OfTy.of (row:=(rL rI)) _ h3;exact⟨⟨x0,x1,x2,x3⟩,rfl⟩⟩
abbrev CG(x:Xg):V XC:= [.d (.sl (zC rU x.sets)),.d (.int .i64 x.most),.r 0,.r 1]
abbrev CH(x:Xg):Ap:= [(1,zC rU x.groups),(1,zC rI x.who)]
def uP:=zF @Yw (zF @fp (zF @qZ (zF @fm (zF @qX (zF @fo (zF @qY (zF @Xc.row_eq (zF @Xl.row_eq (zF @X9.row_eq (zF @Xd.row_eq (zF @X7.row_eq (zF @X2.row_eq (zF @X1.row_eq (zF @X4.row_eq (zF @Xi.row_eq (zF @Xn.row_eq (zF @X6.row_eq (zF @Xa.row_eq (zF @X3.row_eq (zF @X0.row_eq (zF @X5.row_eq (zF @Xf.row_eq (zF @Xo.row_eq (zF @Xb.row_eq (zF @X8.row_eq (zF @Xk.row_eq (zF @Xj.row_eq (@Xg.row_eq))))))))))))))))))))))))))))
def J:=zF uQ (zF uS (zF uT (zF uR uP)))
/- laws_szPartS -/
def MH(a0:V Xc)(a1:X):W X:=
if(decide ((zM .i64 (a1 - (a0.length:X)))<(0:X))) then(
 O (-1:X))
else(
 O (zM .i64 (a1 - (a0.length:X))))
/- laws_szTide -/
def Py(a0:Xl)(a1:X):W X:=
(MH a0.Parts a1).bind fun r1=>
if(decide (r1<(0:X))) then(
 O (-1:X))
else(
 O r1)
/- laws_szSurgeS -/
def MN(a0:V X9)(a1:X):W X:=
if(decide ((zM .i64 (a1 - (a0.length:X)))<(0:X))) then(
 O (-1:X))
else(
 O (zM .i64 (a1 - (a0.length:X))))
/- laws_szForecast -/
def ME(a0:Xd)(a1:X):W X:=
(Py a0.Tide a1).bind fun r1=>
if(decide (r1<(0:X))) then(
 O (-1:X))
else(
 (MN a0.Surges r1).bind fun r3=>
 if(decide (r3<(0:X))) then(
 O (-1:X))
 else(
 O r3))
/- laws_szPoint -/
def MI(a0:X7)(a1:X):W X:=
if(decide ((zM .i64 (a1 - (a0.Name.length:X)))<(0:X))) then(
 O (-1:X))
else(
 O (zM .i64 (a1 - (a0.Name.length:X))))
/- laws_szPointS -/
def Gs(a0:V X7):Z→X→X→W X
| 0,_,_=>U
| n+1,v2,v3=>
 if(decide (v3<(a0.length:X))) then(
 (ix a0 v3).bind fun x5=>
 (MI x5 v2).bind fun r6=>
 if(decide (r6<(0:X))) then(
  O (-1:X))
 else(
  Gs a0 n r6 (zM .i64 (v3+(1:X)))))
 else(
 O v2)
def MJ(a0:V X7)(a1:X):W X:=
if(decide ((zM .i64 (a1 - (a0.length:X)))<(0:X))) then(
 O (-1:X))
else(
 Gs a0 bigN (zM .i64 (a1 - (a0.length:X))) (0:X))
/- laws_szSegmentS -/
def MK(a0:V X2)(a1:X):W X:=
if(decide ((zM .i64 (a1 - (a0.length:X)))<(0:X))) then(
 O (-1:X))
else(
 O (zM .i64 (a1 - (a0.length:X))))
/- laws_szChart -/
def MD(a0:X1)(a1:X):W X:=
(MJ a0.Points a1).bind fun r1=>
if(decide (r1<(0:X))) then(
 O (-1:X))
else(
 (MK a0.Segments r1).bind fun r3=>
 if(decide (r3<(0:X))) then(
 O (-1:X))
 else(
 O r3))
/- laws_szShip -/
def ML(a0:X4)(a1:X):W X:=
if(decide ((zM .i64 (a1 - (a0.Name.length:X)))<(0:X))) then(
 O (-1:X))
else(
 O (zM .i64 (a1 - (a0.Name.length:X))))
/- laws_szShipS -/
def Gt(a0:V X4):Z→X→X→W X
| 0,_,_=>U
| n+1,v2,v3=>
 if(decide (v3<(a0.length:X))) then(
 (ix a0 v3).bind fun x5=>
 (ML x5 v2).bind fun r6=>
 if(decide (r6<(0:X))) then(
  O (-1:X))
 else(
  Gt a0 n r6 (zM .i64 (v3+(1:X)))))
 else(
 O v2)
def MM(a0:V X4)(a1:X):W X:=
if(decide ((zM .i64 (a1 - (a0.length:X)))<(0:X))) then(
 O (-1:X))
else(
 Gt a0 bigN (zM .i64 (a1 - (a0.length:X))) (0:X))
/- laws_szIntS -/
def MG(a0:V X)(a1:X):W X:=
if(decide ((zM .i64 (a1 - (a0.length:X)))<(0:X))) then(
 O (-1:X))
else(
 O (zM .i64 (a1 - (a0.length:X))))
/- laws_szCrew -/
def Pw(a0:Xn)(a1:X):W X:=
(MG a0.Moves a1).bind fun r1=>
if(decide (r1<(0:X))) then(
 O (-1:X))
else(
 O r1)
/- laws_szHarbour -/
def MF(a0:X6)(a1:X):W X:=
(ME a0.Forecast a1).bind fun r1=>
if(decide (r1<(0:X))) then(
 O (-1:X))
else(
 (MD a0.Chart r1).bind fun r3=>
 if(decide (r3<(0:X))) then(
 O (-1:X))
 else(
 (MM a0.Fleet r3).bind fun r5=>
 if(decide (r5<(0:X))) then(
  O (-1:X))
 else(
  (Pw a0.Crew r5).bind fun r7=>
  if(decide (r7<(0:X))) then(
  O (-1:X))
  else(
  O r7))))
/- laws_szCallS -/
def MC(a0:V Xa)(a1:X):W X:=
if(decide ((zM .i64 (a1 - (a0.length:X)))<(0:X))) then(
 O (-1:X))
else(
 O (zM .i64 (a1 - (a0.length:X))))
/- laws_toPart -/
def PB(a0:Xc):W Xc:=
O a0
/- laws_toPartS -/
def Ic(a0:V Xc):Z→X→(V Xc)→W (V Xc)
| 0,_,_=>U
| n+1,v2,v3=>
 if(decide (v2<(a0.length:X))) then(
 (ix a0 v2).bind fun x5=>
 (PB x5).bind fun r6=>
 (ix v3 v2).bind fun x7=>
 Ic a0 n (zM .i64 (v2+(1:X))) (v3.set (zB v2) r6))
 else(
 O v3)
def MR(a0:V Xc):W (V Xc):=
(Br (a0.length:X) (a0.length:X) 24).bind fun n1=>
Ic a0 bigN (0:X) (zG n1 (⟨(0:X),(0:X),(0:X)⟩:Xc))
/- laws_toTide -/
def PH(a0:Xl):W Xl:=
(MR a0.Parts).bind fun r1=>
O (⟨a0.Mean,r1⟩:Xl)
/- laws_toSurge -/
def PG(a0:X9):W X9:=
O a0
/- laws_toSurgeS -/
def Ih(a0:V X9):Z→X→(V X9)→W (V X9)
| 0,_,_=>U
| n+1,v2,v3=>
 if(decide (v2<(a0.length:X))) then(
 (ix a0 v2).bind fun x5=>
 (PG x5).bind fun r6=>
 (ix v3 v2).bind fun x7=>
 Ih a0 n (zM .i64 (v2+(1:X))) (v3.set (zB v2) r6))
 else(
 O v3)
def MV(a0:V X9):W (V X9):=
(Br (a0.length:X) (a0.length:X) 24).bind fun n1=>
Ih a0 bigN (0:X) (zG n1 (⟨(0:X),(0:X),(0:X)⟩:X9))
/- laws_toForecast -/
def MP(a0:Xd):W Xd:=
(PH a0.Tide).bind fun r1=>
(MV a0.Surges).bind fun r2=>
O (⟨r1,r2⟩:Xd)
/- laws_toPoint -/
def PC(a0:X7):W X7:=
O a0
/- laws_toPointS -/
def Ie(a0:V X7):Z→X→(V X7)→W (V X7)
| 0,_,_=>U
| n+1,v2,v3=>
 if(decide (v2<(a0.length:X))) then(
 (ix a0 v2).bind fun x5=>
 (PC x5).bind fun r6=>
 (ix v3 v2).bind fun x7=>
 Ie a0 n (zM .i64 (v2+(1:X))) (v3.set (zB v2) r6))
 else(
 O v3)
def MS(a0:V X7):W (V X7):=
(Br (a0.length:X) (a0.length:X) 24).bind fun n1=>
Ie a0 bigN (0:X) (zG n1 (⟨([]:V zA),E⟩:X7))
/- laws_toSegment -/
def PE(a0:X2):W X2:=
O a0
/- laws_toSegmentS -/
def If(a0:V X2):Z→X→(V X2)→W (V X2)
| 0,_,_=>U
| n+1,v2,v3=>
 if(decide (v2<(a0.length:X))) then(
 (ix a0 v2).bind fun x5=>
 (PE x5).bind fun r6=>
 (ix v3 v2).bind fun x7=>
 If a0 n (zM .i64 (v2+(1:X))) (v3.set (zB v2) r6))
 else(
 O v3)
def MT(a0:V X2):W (V X2):=
(Br (a0.length:X) (a0.length:X) 40).bind fun n1=>
If a0 bigN (0:X) (zG n1 (⟨(0:X),(0:X),(0:X),(0:X),E⟩:X2))
/- laws_toChart -/
def MO(a0:X1):W X1:=
(MS a0.Points).bind fun r1=>
(MT a0.Segments).bind fun r2=>
O (⟨r1,r2⟩:X1)
/- laws_toShip -/
def PF(a0:X4):W X4:=
O a0
/- laws_toShipS -/
def Ig(a0:V X4):Z→X→(V X4)→W (V X4)
| 0,_,_=>U
| n+1,v2,v3=>
 if(decide (v2<(a0.length:X))) then(
 (ix a0 v2).bind fun x5=>
 (PF x5).bind fun r6=>
 (ix v3 v2).bind fun x7=>
 Ig a0 n (zM .i64 (v2+(1:X))) (v3.set (zB v2) r6))
 else(
 O v3)
def MU(a0:V X4):W (V X4):=
(Br (a0.length:X) (a0.length:X) 56).bind fun n1=>
Ig a0 bigN (0:X) (zG n1 (⟨([]:V zA),(0:X),(0:X),(0:X),(0:X),E⟩:X4))
/- laws_toRegime -/
def PD(a0:Xi):W Xi:=
O a0
/- laws_toIntS -/
def Ib(a0:V X):Z→X→(V X)→W (V X)
| 0,_,_=>U
| n+1,v2,v3=>
 if(decide (v2<(a0.length:X))) then(
 (ix a0 v2).bind fun x5=>
 (ix v3 v2).bind fun x6=>
 Ib a0 n (zM .i64 (v2+(1:X))) (v3.set (zB v2) x5))
 else(
 O v3)
def MQ(a0:V X):W (V X):=
(Br (a0.length:X) (a0.length:X) 8).bind fun n1=>
Ib a0 bigN (0:X) (zG n1 (0:X))
/- laws_toCrew -/
def PA(a0:Xn):W Xn:=
(MQ a0.Moves).bind fun r1=>
O (⟨a0.Tugs,a0.Pilots,a0.Rest,r1⟩:Xn)
/- laws_toHarbour -/
def Gv(a0:X6):W X6:=
(MP a0.Forecast).bind fun r1=>
(MO a0.Chart).bind fun r2=>
(MU a0.Fleet).bind fun r3=>
(PD a0.Regime).bind fun r4=>
(PA a0.Crew).bind fun r5=>
O (⟨r1,r2,r3,r4,r5⟩:X6)
/- laws_toCall -/
def Pz(a0:Xa):W Xa:=
O a0
/- laws_toCallS -/
def Ia(a0:V Xa):Z→X→(V Xa)→W (V Xa)
| 0,_,_=>U
| n+1,v2,v3=>
 if(decide (v2<(a0.length:X))) then(
 (ix a0 v2).bind fun x5=>
 (Pz x5).bind fun r6=>
 (ix v3 v2).bind fun x7=>
 Ia a0 n (zM .i64 (v2+(1:X))) (v3.set (zB v2) r6))
 else(
 O v3)
def Gu(a0:V Xa):W (V Xa):=
(Br (a0.length:X) (a0.length:X) 40).bind fun n1=>
Ia a0 bigN (0:X) (zG n1 (⟨(0:X),(0:X),(0:X),(0:X),(0:X)⟩:Xa))
/- spec_l01In -/
def Ax(a0 a1 a2:X):W Y:=
if(decide (a1≤a0)) then(
 O (decide (a0≤a2)))
else(
 O E)
/- spec_PartOk -/
def Nd(a0:Xc):W Y:=
(Ax a0.Amp (0:X) (1000:X)).bind fun r1=>
if r1 then(
 (Ax a0.Period (4:X) (2880:X)).bind fun r3=>
 if r3 then(
 if((zM .i64 (zI a0.Period (4:X)))==(0:X)) then(
  (Ax a0.Phase (0:X) (zM .i64 (a0.Period - (1:X)))).bind fun r6=>
  O r6)
 else(
  O E))
 else(
 O E))
else(
 O E)
/- spec_TideOk -/
def ID(a0:Xl):Z→X→W Y
| 0,_=>U
| n+1,v4=>
 if(decide (v4<(a0.Parts.length:X))) then(
 (ix a0.Parts v4).bind fun x6=>
 (Nd x6).bind fun r7=>
 if r7 then(
  ID a0 n (zM .i64 (v4+(1:X))))
 else(
  O E))
 else(
 O F)
def Np(a0:Xl):W Y:=
(Ax a0.Mean (-1000:X) (1000:X)).bind fun r1=>
if r1 then(
 if(decide ((4:X)<(a0.Parts.length:X))) then(
 O E)
 else(
 ID a0 bigN (0:X)))
else(
 O E)
/- spec_SurgeOk -/
def Nn(a0:X9):W Y:=
(Ax a0.From (0:X) (2880:X)).bind fun r1=>
if r1 then(
 (Ax a0.Low (-500:X) (500:X)).bind fun r3=>
 if r3 then(
 (Ax a0.High a0.Low (500:X)).bind fun r5=>
 O r5)
 else(
 O E))
else(
 O E)
/- spec_ForecastOk -/
def Gx(a0:Xd):Z→X→W Y
| 0,_=>U
| n+1,v7=>
 if(decide (v7<(a0.Surges.length:X))) then(
 (ix a0.Surges v7).bind fun x9=>
 (Nn x9).bind fun r10=>
 if r10 then(
  if(decide ((0:X)<v7)) then(
  (ix a0.Surges (zM .i64 (v7 - (1:X)))).bind fun x13=>
  if(decide (x9.From≤x13.From)) then(
   O E)
  else(
   Gx a0 n (zM .i64 (v7+(1:X)))))
  else(
  Gx a0 n (zM .i64 (v7+(1:X)))))
 else(
  O E))
 else(
 O F)
def Kw(a0:Xd):W Y:=
(Np a0.Tide).bind fun r1=>
if r1 then(
 (Ax (a0.Surges.length:X) (1:X) (6:X)).bind fun r3=>
 if r3 then(
 (ix a0.Surges (0:X)).bind fun x5=>
 if(x5.From !=(0:X)) then(
  O E)
 else(
  Gx a0 bigN (0:X)))
 else(
 O E))
else(
 O E)
/- spec_IsName -/
def N9(a0:V zA)(v1:X)(EG:X→W Y):W Y:=
EG (zM .i64 (v1+(1:X)))
def N8(a0:V zA)(v1:X)(EG:X→W Y)(v5:Y):W Y:=
if v5 then(
 N9 a0 v1 EG)
else(
 if(v1==(0:X)) then(
 O E)
 else(
 (ix a0 v1).bind fun b8=>
 if(decide ((b8.toNat:X)<(48:X))) then(
  O E)
 else(
  if(decide ((57:X)<(b8.toNat:X))) then(
  O E)
  else(
  N9 a0 v1 EG))))
def Gz(a0:V zA):Z→X→W Y
| 0,_=>U
| n+1,v1=>
 if(decide (v1<(a0.length:X))) then(
 (ix a0 v1).bind fun b3=>
 if(decide ((97:X)≤(b3.toNat:X))) then(
  N8 a0 v1 (Gz a0 n) (decide ((b3.toNat:X)≤(122:X))))
 else(
  N8 a0 v1 (Gz a0 n) E))
 else(
 (Ax (a0.length:X) (1:X) (8:X)).bind fun r11=>
 O r11)
def Kz(a0:V zA):W Y:=
Gz a0 bigN (0:X)
/- spec_PointNamed -/
def Iz(a1:V zA)(a0:X1):Z→X→W X
| 0,_=>U
| n+1,v1=>
 if(decide (v1<(a0.Points.length:X))) then(
 (ix a0.Points v1).bind fun x3=>
 if(x3.Name==a1) then(
  O v1)
 else(
  Iz a1 a0 n (zM .i64 (v1+(1:X)))))
 else(
 O (-1:X))
def Nj(a0:X1)(a1:V zA):W X:=
Iz a1 a0 bigN (0:X)
/- spec_l05Joins -/
def Nv(a0:X2)(a1 a2:X):W Y:=
if(a0.A==a1) then(
 if(a0.B==a2) then(
 O F)
 else(
 if(a0.A==a2) then(
  O (a0.B==a1))
 else(
  O E)))
else(
 if(a0.A==a2) then(
 O (a0.B==a1))
 else(
 O E))
/- spec_ChartOk -/
def Ik(a0:X1)(v11:X)(x13:X2)(y24:V X2)(y25:X)(O3:X→W Y):Z→X→W Y
| 0,_=>U
| n+1,v26=>
 if(decide (v26<y25)) then(
 (ix y24 v26).bind fun x28=>
 (Nv x28 x13.A x13.B).bind fun r29=>
 if r29 then(
  O E)
 else(
  Ik a0 v11 x13 y24 y25 O3 n (zM .i64 (v26+(1:X)))))
 else(
 O3 (zM .i64 (v11+(1:X))))
def Eu(a0:X1):Z→X→W Y
| 0,_=>U
| n+1,v11=>
 if(decide (v11<(a0.Segments.length:X))) then(
 (ix a0.Segments v11).bind fun x13=>
 (Ax x13.A (0:X) (zM .i64 ((a0.Points.length:X) - (1:X)))).bind fun r14=>
 if r14 then(
  (Ax x13.B (0:X) (zM .i64 ((a0.Points.length:X) - (1:X)))).bind fun r16=>
  if r16 then(
  if(x13.A==x13.B) then(
   O E)
  else(
   (Ax x13.Depth (0:X) (3000:X)).bind fun r19=>
   if r19 then(
   (Ax x13.Minutes (1:X) (240:X)).bind fun r21=>
   if r21 then(
    (bnd (a0.Segments.length:X) v11 (0:X) a0.Segments.length).bind fun p23=>
    Ik a0 v11 x13 ((a0.Segments.drop p23.1).take (p23.2 - p23.1)) (((a0.Segments.drop p23.1).take (p23.2 - p23.1)).length:X) (Eu a0 n) bigN (0:X))
   else(
    O E))
   else(
   O E)))
  else(
  O E))
 else(
  O E))
 else(
 O F)
def Ij(a0:X1):Z→X→W Y
| 0,_=>U
| n+1,v3=>
 if(decide (v3<(a0.Points.length:X))) then(
 (ix a0.Points v3).bind fun x5=>
 (Kz x5.Name).bind fun r6=>
 if r6 then(
  (Nj a0 x5.Name).bind fun r9=>
  if(r9 !=v3) then(
  O E)
  else(
  Ij a0 n (zM .i64 (v3+(1:X)))))
 else(
  O E))
 else(
 Eu a0 bigN (0:X))
def Df(a0:X1):W Y:=
if(decide ((8:X)<(a0.Points.length:X))) then(
 O E)
else(
 if(decide ((10:X)<(a0.Segments.length:X))) then(
 O E)
 else(
 Ij a0 bigN (0:X)))
/- spec_ShipOk -/
def E2(a0:X4):W Y:=
(Kz a0.Name).bind fun r1=>
if r1 then(
 (Ax a0.Length (10:X) (400:X)).bind fun r3=>
 if r3 then(
 (Ax a0.Draught (100:X) (2000:X)).bind fun r5=>
 if r5 then(
  (Ax a0.Line (0:X) (3:X)).bind fun r7=>
  if r7 then(
  (Ax a0.Tugs (0:X) (4:X)).bind fun r9=>
  O r9)
  else(
  O E))
 else(
  O E))
 else(
 O E))
else(
 O E)
/- spec_ShipNamed -/
def IC(a1:V zA)(a0:V X4):Z→X→W X
| 0,_=>U
| n+1,v1=>
 if(decide (v1<(a0.length:X))) then(
 (ix a0 v1).bind fun x3=>
 if(x3.Name==a1) then(
  O v1)
 else(
  IC a1 a0 n (zM .i64 (v1+(1:X)))))
 else(
 O (-1:X))
def Nl(a0:V X4)(a1:V zA):W X:=
IC a1 a0 bigN (0:X)
/- spec_FleetOk -/
def Iq(a0:V X4):Z→X→W Y
| 0,_=>U
| n+1,v2=>
 if(decide (v2<(a0.length:X))) then(
 (ix a0 v2).bind fun x4=>
 (E2 x4).bind fun r5=>
 if r5 then(
  (Nl a0 x4.Name).bind fun r7=>
  if(r7 !=v2) then(
  O E)
  else(
  Iq a0 n (zM .i64 (v2+(1:X)))))
 else(
  O E))
 else(
 O F)
def Kv(a0:V X4):W Y:=
if(decide ((6:X)<(a0.length:X))) then(
 O E)
else(
 Iq a0 bigN (0:X))
/- spec_RegimeOk -/
def IA(a0:Xi):W Y:=
(Ax a0.Gap (0:X) (60:X)).bind fun r1=>
O r1
/- spec_l13Table -/
def GL(a1:V X):Z→X→W Y
| 0,_=>U
| n+1,v4=>
 if(decide (v4<(a1.length:X))) then(
 (ix a1 v4).bind fun x6=>
 (Ax x6 (0:X) (240:X)).bind fun r7=>
 if r7 then(
  GL a1 n (zM .i64 (v4+(1:X))))
 else(
  O E))
 else(
 O F)
def GK(a0:X)(a1:V X):W Y:=
(Ax a0 (0:X) (2880:X)).bind fun r1=>
if r1 then(
 if((a1.length:X) !=(64:X)) then(
 O E)
 else(
 GL a1 bigN (0:X)))
else(
 O E)
/- spec_CrewOk -/
def Im(a0:Xn):W Y:=
(Ax a0.Tugs (0:X) (12:X)).bind fun r1=>
if r1 then(
 (Ax a0.Pilots (0:X) (12:X)).bind fun r3=>
 if r3 then(
 (GK a0.Rest a0.Moves).bind fun r5=>
 O r5)
 else(
 O E))
else(
 O E)
/- spec_HarbourOk -/
def Ky(a0:X6):W Y:=
(Kw a0.Forecast).bind fun r1=>
if r1 then(
 (Df a0.Chart).bind fun r3=>
 if r3 then(
 (Kv a0.Fleet).bind fun r5=>
 if r5 then(
  (IA a0.Regime).bind fun r7=>
  if r7 then(
  (Im a0.Crew).bind fun r9=>
  O r9)
  else(
  O E))
 else(
  O E))
 else(
 O E))
else(
 O E)
/- spec_CallOk -/
def Kq(a0:X6)(a1:Xa):W Y:=
(Ky a0).bind fun r1=>
if r1 then(
 (Ax a1.Ship (0:X) (zM .i64 ((a0.Fleet.length:X) - (1:X)))).bind fun r3=>
 if r3 then(
 (Ax a1.From (0:X) (zM .i64 ((a0.Chart.Points.length:X) - (1:X)))).bind fun r5=>
 if r5 then(
  (Ax a1.To (0:X) (zM .i64 ((a0.Chart.Points.length:X) - (1:X)))).bind fun r7=>
  if r7 then(
  if(a1.From !=a1.To) then(
   (Ax a1.Ready (0:X) (2880:X)).bind fun r10=>
   if r10 then(
   (Ax a1.Due a1.Ready (2880:X)).bind fun r12=>
   O r12)
   else(
   O E))
  else(
   O E))
  else(
  O E))
 else(
  O E))
 else(
 O E))
else(
 O E)
/- spec_CallsOk -/
def Ks(a1:V Xa)(v4:X)(a0:X6)(x6:Xa)(y10:V Xa)(y11:X)(O2:X→W Y):Z→X→W Y
| 0,_=>U
| n+1,v12=>
 if(decide (v12<y11)) then(
 (ix y10 v12).bind fun x14=>
 if(x6.Ship==x14.Ship) then(
  O E)
 else(
  Ks a1 v4 a0 x6 y10 y11 O2 n (zM .i64 (v12+(1:X)))))
 else(
 O2 (zM .i64 (v4+(1:X))))
def Kr(a1:V Xa)(a0:X6):Z→X→W Y
| 0,_=>U
| n+1,v4=>
 if(decide (v4<(a1.length:X))) then(
 (ix a1 v4).bind fun x6=>
 (Kq a0 x6).bind fun r7=>
 if r7 then(
  (bnd (a1.length:X) v4 (0:X) a1.length).bind fun p9=>
  Ks a1 v4 a0 x6 ((a1.drop p9.1).take (p9.2 - p9.1)) (((a1.drop p9.1).take (p9.2 - p9.1)).length:X) (Kr a1 a0 n) bigN (0:X))
 else(
  O E))
 else(
 O F)
def N0(a0:X6)(a1:V Xa):W Y:=
(Ky a0).bind fun r1=>
if r1 then(
 if(decide ((6:X)<(a1.length:X))) then(
 O E)
 else(
 Kr a1 a0 bigN (0:X)))
else(
 O E)
/- spec_l05Other -/
def Nw(a0:X2)(a1:X):W X:=
if(a1==a0.A) then(
 O a0.B)
else(
 if(a1==a0.B) then(
 O a0.A)
 else(
 O (-1:X)))
/- spec_l05Has -/
def IH(a1:X)(a0:V X):Z→X→W Y
| 0,_=>U
| n+1,v1=>
 if(decide (v1<(a0.length:X))) then(
 (ix a0 v1).bind fun x3=>
 if(x3==a1) then(
  O F)
 else(
  IH a1 a0 n (zM .i64 (v1+(1:X)))))
 else(
 O E)
def KI(a0:V X)(a1:X):W Y:=
IH a1 a0 bigN (0:X)
/- spec_l05Walk -/
def II(rec_:X1→(V X)→(V X)→X→(V (V X))→W (V (V X)))(a1 a2:V X)(a3 x1:X)(v5 r9:X)(a0:X1)(v6:V (V X))(O6:X→(V (V X))→W (V (V X)))(v12:Y):W (V (V X)):=
if v12 then(
 if A3 ([]:V X).length a1.length 8 then(
 if A3 a1.length ([r9]:V X).length 8 then(
  if A3 ([]:V X).length a2.length 8 then(
  if A3 a2.length ([v5]:V X).length 8 then(
   (rec_ a0 (a1++([r9]:V X)) (a2++([v5]:V X)) a3 v6).bind fun r18=>
   O6 (zM .i64 (v5+(1:X))) r18)
  else U)
  else U)
 else U)
 else U)
else(
 O6 (zM .i64 (v5+(1:X))) v6)
def GF(rec_:X1→(V X)→(V X)→X→(V (V X))→W (V (V X)))(a1 a2:V X)(a3 x1:X)(a0:X1):Z→X→(V (V X))→W (V (V X))
| 0,_,_=>U
| n+1,v5,v6=>
 if(decide (v5<(a0.Segments.length:X))) then(
 (ix a0.Segments v5).bind fun x8=>
 (Nw x8 x1).bind fun r9=>
 if(decide ((0:X)≤r9)) then(
  (KI a1 r9).bind fun r11=>
  II rec_ a1 a2 a3 x1 v5 r9 a0 v6 (GF rec_ a1 a2 a3 x1 a0 n) (!r11))
 else(
  II rec_ a1 a2 a3 x1 v5 r9 a0 v6 (GF rec_ a1 a2 a3 x1 a0 n) E))
 else(
 O v6)
def PN(rec_:X1→(V X)→(V X)→X→(V (V X))→W (V (V X)))(a0:X1)(a1 a2:V X)(a3:X)(a4:V (V X)):W (V (V X)):=
(ix a1 (zM .i64 ((a1.length:X) - (1:X)))).bind fun x1=>
if(x1==a3) then(
 if A3 ([]:V X).length a2.length 8 then(
 if A3 a4.length ([a2]:V (V X)).length 24 then(
  O (a4++([a2]:V (V X))))
 else U)
 else U)
else(
 GF rec_ a1 a2 a3 x1 a0 bigN (0:X) a4)
def GG:Z→X1→(V X)→(V X)→X→(V (V X))→W (V (V X))
| 0,_,_,_,_,_=>U
| n+1,a0,a1,a2,a3,a4=>PN (GG n) a0 a1 a2 a3 a4
def RJ(a0:X1)(a1 a2:V X)(a3:X)(a4:V (V X)):W (V (V X)):=GG bigN a0 a1 a2 a3 a4
/- spec_RoutesBetween -/
def Nk(a0:X1)(a1 a2:X):W (V (V X)):=
(Df a0).bind fun r1=>
if r1 then(
 (Ax a1 (0:X) (zM .i64 ((a0.Points.length:X) - (1:X)))).bind fun r3=>
 if r3 then(
 (Ax a2 (0:X) (zM .i64 ((a0.Points.length:X) - (1:X)))).bind fun r5=>
 if r5 then(
  (RJ a0 ([a1]:V X) ([]:V X) a2 ([]:V (V X))).bind fun r7=>
  O r7)
 else(
  O ([]:V (V X))))
 else(
 O ([]:V (V X))))
else(
 O ([]:V (V X)))
/- spec_RouteMinutes -/
def IB(a1:V X)(a0:X1):Z→X→X→W X
| 0,_,_=>U
| n+1,v3,v4=>
 if(decide (v4<(a1.length:X))) then(
 (ix a1 v4).bind fun x6=>
 (Ax x6 (0:X) (zM .i64 ((a0.Segments.length:X) - (1:X)))).bind fun r7=>
 if r7 then(
  (ix a0.Segments x6).bind fun x9=>
  IB a1 a0 n (zM .i64 (v3+x9.Minutes)) (zM .i64 (v4+(1:X))))
 else(
  O (-1:X)))
 else(
 O v3)
def GB(a0:X1)(a1:V X):W X:=
(Df a0).bind fun r1=>
if r1 then(
 IB a1 a0 bigN (0:X) (0:X))
else(
 O (-1:X))
/- spec_BestRoute -/
def Ko(v2 x6:V X)(r1:(V (V X)))(v4:X)(a0:X1)(O1:(V X)→Y→X→W ((V X) × Y))(v11 v12:Y):W ((V X) × Y):=
if v12 then(
 O1 x6 F (zM .i64 (v4+(1:X))))
else(
 O1 v2 v11 (zM .i64 (v4+(1:X))))
def Fu(r1:(V (V X)))(a0:X1):Z→(V X)→Y→X→W ((V X) × Y)
| 0,_,_,_=>U
| n+1,v2,v3,v4=>
 if(decide (v4<(r1.length:X))) then(
 (ix r1 v4).bind fun x6=>
 if v3 then(
  (GB a0 x6).bind fun r9=>
  (GB a0 v2).bind fun r10=>
  Ko v2 x6 r1 v4 a0 (Fu r1 a0 n) F (decide (r9<r10)))
 else(
  Ko v2 x6 r1 v4 a0 (Fu r1 a0 n) E F))
 else(
 if v3 then(
  O (v2,F))
 else(
  O (([]:V X),E)))
def MZ(a0:X1)(a1 a2:X):W ((V X) × Y):=
(Nk a0 a1 a2).bind fun r1=>
Fu r1 a0 bigN ([]:V X) E (0:X)
/- spec_l07Ok -/
def IJ(a0:X1)(a1:X)(a2:X4):W Y:=
(Df a0).bind fun r1=>
if r1 then(
 (E2 a2).bind fun r3=>
 if r3 then(
 (Ax a1 (0:X) (zM .i64 ((a0.Segments.length:X) - (1:X)))).bind fun r5=>
 O r5)
 else(
 O E))
else(
 O E)
/- spec_SquatOf -/
def PM(a0:X4):W X:=
(E2 a0).bind fun r1=>
if r1 then(
 if a0.Slow then(
 O (zM .i64 (zE a0.Draught (50:X))))
 else(
 O (zM .i64 (zE a0.Draught (20:X)))))
else(
 O (0:X))
/- spec_NeedOf -/
def PK(a0:X4):W X:=
(E2 a0).bind fun r1=>
if r1 then(
 (PM a0).bind fun r3=>
 O (zM .i64 ((zM .i64 (a0.Draught+r3))+(50:X))))
else(
 O (0:X))
/- spec_LevelFor -/
def Nb(a0:X1)(a1:X)(a2:X4):W X:=
(IJ a0 a1 a2).bind fun r1=>
if r1 then(
 (PK a2).bind fun r3=>
 (ix a0.Segments a1).bind fun x4=>
 O (zM .i64 (r3 - x4.Depth)))
else(
 O (0:X))
/- spec_l03Surge -/
def FA(a1:X)(a0:Xd):Z→X→X→X→X→W X9
| 0,_,_,_,_=>U
| n+1,v2,v3,v4,v5=>
 if(decide (v2<(a0.Surges.length:X))) then(
 (ix a0.Surges v2).bind fun x7=>
 if(decide (x7.From≤a1)) then(
  FA a1 a0 n (zM .i64 (v2+(1:X))) x7.From x7.Low x7.High)
 else(
  FA a1 a0 n (zM .i64 (v2+(1:X))) v3 v4 v5))
 else(
 O (⟨v3,v4,v5⟩:X9))
def IF(a0:Xd)(a1:X):W X9:=
(ix a0.Surges (0:X)).bind fun x1=>
FA a1 a0 bigN (0:X) x1.From x1.Low x1.High
/- spec_Wave -/
def Nr(a1 v6:X):W X:=
if(decide (v6<(zM .i64 (zE a1 (2:X))))) then(
 if(zM .i64 ((zM .i64 (zE a1 (2:X)))*(zM .i64 (zE a1 (2:X)))))==0 then U else
 O (zM .i64 (zE (zM .i64 ((zM .i64 ((40000:X)*v6))*(zM .i64 ((zM .i64 (zE a1 (2:X))) - v6)))) (zM .i64 ((zM .i64 (zE a1 (2:X)))*(zM .i64 (zE a1 (2:X))))))))
else(
 if(zM .i64 ((zM .i64 (zE a1 (2:X)))*(zM .i64 (zE a1 (2:X)))))==0 then U else
 O (zM .i64 (0 - (zM .i64 (zE (zM .i64 ((zM .i64 ((40000:X)*(zM .i64 (v6 - (zM .i64 (zE a1 (2:X)))))))*(zM .i64 ((zM .i64 (zE a1 (2:X))) - (zM .i64 (v6 - (zM .i64 (zE a1 (2:X))))))))) (zM .i64 ((zM .i64 (zE a1 (2:X)))*(zM .i64 (zE a1 (2:X))))))))))
def Nq(a0 a1:X):W X:=
if(decide (a1<(4:X))) then(
 O (0:X))
else(
 if(decide ((2880:X)<a1)) then(
 O (0:X))
 else(
 if((zM .i64 (zI a1 (4:X))) !=(0:X)) then(
  O (0:X))
 else(
  if a1==0 then U else
  if(decide ((zM .i64 (zI a0 a1))<(0:X))) then(
  Nr a1 (zM .i64 ((zM .i64 (zI a0 a1))+a1)))
  else(
  Nr a1 (zM .i64 (zI a0 a1))))))
/- spec_l02Level -/
def IE(a1:X)(a0:Xl):Z→X→X→W X
| 0,_,_=>U
| n+1,v1,v2=>
 if(decide (v2<(a0.Parts.length:X))) then(
 (ix a0.Parts v2).bind fun x4=>
 (Nq (zM .i64 (a1+x4.Phase)) x4.Period).bind fun r5=>
 IE a1 a0 n (zM .i64 (v1+(zM .i64 (zE (zM .i64 (x4.Amp*r5)) (10000:X))))) (zM .i64 (v2+(1:X))))
 else(
 O v1)
def KH(a0:Xl)(a1:X):W X:=
IE a1 a0 bigN a0.Mean (0:X)
/- spec_l04Of -/
def IG(v1:X)(a0:V Y)(v2:V X5)(O5:X→(V X5)→W (V X5))(v8:Y):W (V X5):=
if v8 then(
 (ix v2 (zM .i64 ((v2.length:X) - (1:X)))).bind fun x10=>
 O5 (zM .i64 (v1+(1:X))) (v2.set (zB (zM .i64 ((v2.length:X) - (1:X)))) (⟨x10.From,v1⟩:X5)))
else(
 if A3 v2.length ([(⟨v1,v1⟩:X5)]:V X5).length 16 then(
 O5 (zM .i64 (v1+(1:X))) (v2++([(⟨v1,v1⟩:X5)]:V X5)))
 else U)
def Ex(a0:V Y):Z→X→(V X5)→W (V X5)
| 0,_,_=>U
| n+1,v1,v2=>
 if(decide (v1<(a0.length:X))) then(
 (ix a0 v1).bind fun x4=>
 if x4 then(
  if(decide ((0:X)<(v2.length:X))) then(
  (ix v2 (zM .i64 ((v2.length:X) - (1:X)))).bind fun x7=>
  IG v1 a0 v2 (Ex a0 n) (x7.To==(zM .i64 (v1 - (1:X)))))
  else(
  IG v1 a0 v2 (Ex a0 n) E))
 else(
  Ex a0 n (zM .i64 (v1+(1:X))) v2))
 else(
 O v2)
def Nu(a0:V Y):W (V X5):=
Ex a0 bigN (0:X) ([]:V X5)
/- spec_l04Levels -/
def Nt(a1 v2:X)(a0:Xd)(v3:V Y)(Qn:Y→X→(V Y)→W (V X5))(v7:Y)(v8:X):W (V X5):=
(KH a0.Tide v2).bind fun r9=>
if A3 v3.length ([(decide (a1≤(zM .i64 (r9+v8))))]:V Y).length 1 then(
 Qn v7 (zM .i64 (v2+(1:X))) (v3++([(decide (a1≤(zM .i64 (r9+v8))))]:V Y)))
else U
def GC(a1:X)(a0:Xd):Z→Y→X→(V Y)→W (V X5)
| 0,_,_,_=>U
| n+1,v1,v2,v3=>
 if(decide (v2≤(2880:X))) then(
 (IF a0 v2).bind fun r5=>
 if v1 then(
  Nt a1 v2 a0 v3 (GC a1 a0 n) F r5.High)
 else(
  Nt a1 v2 a0 v3 (GC a1 a0 n) E r5.Low))
 else(
 (Nu v3).bind fun r11=>
 O r11)
def Ns(a0:Xd)(a1:X)(a2:Y):W (V X5):=
GC a1 a0 bigN a2 (0:X) ([]:V Y)
/- spec_l06Minutes -/
def FB(a0:X2)(a1:X4):W X:=
if a1.Slow then(
 O (zM .i64 ((2:X)*a0.Minutes)))
else(
 O a0.Minutes)
/- spec_MinutesOn -/
def KA(a0:X1)(a1:X)(a2:X4):W X:=
(Df a0).bind fun r1=>
if r1 then(
 (E2 a2).bind fun r3=>
 if r3 then(
 (Ax a1 (0:X) (zM .i64 ((a0.Segments.length:X) - (1:X)))).bind fun r5=>
 if r5 then(
  (ix a0.Segments a1).bind fun x7=>
  (FB x7 a2).bind fun r9=>
  O r9)
 else(
  O (0:X)))
 else(
 O (0:X)))
else(
 O (0:X))
/- spec_WindowsOk -/
def Fz(a0:V X5):Z→X→W Y
| 0,_=>U
| n+1,v1=>
 if(decide (v1<(a0.length:X))) then(
 (ix a0 v1).bind fun x3=>
 (Ax x3.From (0:X) (2880:X)).bind fun r4=>
 if r4 then(
  (Ax x3.To x3.From (2880:X)).bind fun r6=>
  if r6 then(
  if(decide ((0:X)<v1)) then(
   (ix a0 (zM .i64 (v1 - (1:X)))).bind fun x9=>
   if(decide (x3.From≤(zM .i64 (x9.To+(1:X))))) then(
   O E)
   else(
   Fz a0 n (zM .i64 (v1+(1:X)))))
  else(
   Fz a0 n (zM .i64 (v1+(1:X)))))
  else(
  O E))
 else(
  O E))
 else(
 O F)
def KG(a0:V X5):W Y:=
Fz a0 bigN (0:X)
/- spec_ShrinkWindows -/
def Fy(a1:X)(a0:V X5):Z→X→(V X5)→W (V X5)
| 0,_,_=>U
| n+1,v5,v6=>
 if(decide (v5<(a0.length:X))) then(
 (ix a0 v5).bind fun x8=>
 if(decide (a1≤(zM .i64 (x8.To - x8.From)))) then(
  if A3 v6.length ([(⟨x8.From,(zM .i64 (x8.To - a1))⟩:X5)]:V X5).length 16 then(
  Fy a1 a0 n (zM .i64 (v5+(1:X))) (v6++([(⟨x8.From,(zM .i64 (x8.To - a1))⟩:X5)]:V X5)))
  else U)
 else(
  Fy a1 a0 n (zM .i64 (v5+(1:X))) v6))
 else(
 O v6)
def PL(a0:V X5)(a1:X):W (V X5):=
(KG a0).bind fun r1=>
if r1 then(
 (Ax a1 (0:X) (2880:X)).bind fun r3=>
 if r3 then(
 Fy a1 a0 bigN (0:X) ([]:V X5))
 else(
 O ([]:V X5)))
else(
 O ([]:V X5))
/- spec_l07Starts -/
def PO(a0:Xd)(a1:X1)(a2:X)(a3:X4)(a4:Y):W (V X5):=
(Kw a0).bind fun r1=>
if r1 then(
 (IJ a1 a2 a3).bind fun r3=>
 if r3 then(
 (Nb a1 a2 a3).bind fun r5=>
 (Ns a0 r5 a4).bind fun r6=>
 (KA a1 a2 a3).bind fun r7=>
 (PL r6 r7).bind fun r9=>
 O r9)
 else(
 O ([]:V X5)))
else(
 O ([]:V X5))
/- spec_SureStarts -/
def Nm(a0:Xd)(a1:X1)(a2:X)(a3:X4):W (V X5):=
(PO a0 a1 a2 a3 E).bind fun r1=>
O r1
/- spec_l08Starts -/
def GH(a3:V X)(a0:Xd)(a1:X1)(a2:X4):Z→X→(V (V X5))→W (V (V X5))
| 0,_,_=>U
| n+1,v1,v2=>
 if(decide (v1<(a3.length:X))) then(
 (ix a3 v1).bind fun x4=>
 (Nm a0 a1 x4 a2).bind fun r5=>
 if A3 v2.length ([r5]:V (V X5)).length 24 then(
  GH a3 a0 a1 a2 n (zM .i64 (v1+(1:X))) (v2++([r5]:V (V X5))))
 else U)
 else(
 O v2)
def PP(a0:Xd)(a1:X1)(a2:X4)(a3:V X):W (V (V X5)):=
GH a3 a0 a1 a2 bigN (0:X) ([]:V (V X5))
/- spec_l05Points -/
def GE(r9:X)(a2:V X)(v1:X)(a0:X1)(v2:V X)(Qo:X→(V X)→W ((V X) × Y))(v12:Y):W ((V X) × Y):=
if v12 then(
 O (([]:V X),E))
else(
 if A3 v2.length ([r9]:V X).length 8 then(
 Qo (zM .i64 (v1+(1:X))) (v2++([r9]:V X)))
 else U)
def E3(a2:V X)(a0:X1):Z→X→(V X)→W ((V X) × Y)
| 0,_,_=>U
| n+1,v1,v2=>
 if(decide (v1<(a2.length:X))) then(
 (ix a2 v1).bind fun x4=>
 (Ax x4 (0:X) (zM .i64 ((a0.Segments.length:X) - (1:X)))).bind fun r5=>
 if r5 then(
  (ix a0.Segments x4).bind fun x7=>
  (ix v2 (zM .i64 ((v2.length:X) - (1:X)))).bind fun x8=>
  (Nw x7 x8).bind fun r9=>
  if(decide (r9<(0:X))) then(
  GE r9 a2 v1 a0 v2 (E3 a2 a0 n) F)
  else(
  (KI v2 r9).bind fun r11=>
  GE r9 a2 v1 a0 v2 (E3 a2 a0 n) r11))
 else(
  O (([]:V X),E)))
 else(
 O (v2,F))
def GD(a0:X1)(a1:X)(a2:V X):W ((V X) × Y):=
E3 a2 a0 bigN (0:X) ([a1]:V X)
/- spec_RouteOk -/
def Ew(a0:X1)(a1:X)(a2:V X):W Y:=
(Df a0).bind fun r1=>
if r1 then(
 (Ax a1 (0:X) (zM .i64 ((a0.Points.length:X) - (1:X)))).bind fun r3=>
 if r3 then(
 (GD a0 a1 a2).bind fun r5=>
 O r5.2)
 else(
 O E))
else(
 O E)
/- spec_RoutePoints -/
def Fx(a0:X1)(a1:X)(a2:V X):W (V X):=
(Ew a0 a1 a2).bind fun r1=>
if r1 then(
 (GD a0 a1 a2).bind fun r3=>
 O r3.1)
else(
 O ([]:V X))
/- spec_HasMinute -/
def Ir(a1:X)(a0:V X5):Z→X→W Y
| 0,_=>U
| n+1,v1=>
 if(decide (v1<(a0.length:X))) then(
 (ix a0 v1).bind fun x3=>
 (Ax a1 x3.From x3.To).bind fun r4=>
 if r4 then(
  O F)
 else(
  Ir a1 a0 n (zM .i64 (v1+(1:X)))))
 else(
 O E)
def N6(a0:V X5)(a1:X):W Y:=
Ir a1 a0 bigN (0:X)
/- spec_NextMinute -/
def Iv(a1:X)(a0:V X5):Z→X→W X
| 0,_=>U
| n+1,v3=>
 if(decide (v3<(a0.length:X))) then(
 (ix a0 v3).bind fun x5=>
 if(decide (a1≤x5.To)) then(
  O (if x5.From<a1 then a1 else x5.From))
 else(
  Iv a1 a0 n (zM .i64 (v3+(1:X)))))
 else(
 O (-1:X))
def Nc(a0:V X5)(a1:X):W X:=
(KG a0).bind fun r1=>
if r1 then(
 Iv a1 a0 bigN (0:X))
else(
 O (-1:X))
/- spec_l08Sail -/
def IK(a2 a3:V X)(a4:V (V X5))(v4 r12:X)(a0:X1)(a1:X4)(v5:V X)(Qp:X→(V X)→W ((V X) × Y))(v17:Y):W ((V X) × Y):=
if v17 then(
 O (([]:V X),E))
else(
 if A3 v5.length ([r12]:V X).length 8 then(
 Qp (zM .i64 (v4+(1:X))) (v5++([r12]:V X)))
 else U)
def Ey(a2 a3:V X)(a4:V (V X5))(a0:X1)(a1:X4):Z→X→(V X)→W ((V X) × Y)
| 0,_,_=>U
| n+1,v4,v5=>
 if(decide (v4<(a3.length:X))) then(
 (ix v5 (zM .i64 (v4 - (1:X)))).bind fun x7=>
 (ix a3 (zM .i64 (v4 - (1:X)))).bind fun x8=>
 (ix a0.Segments x8).bind fun x9=>
 (FB x9 a1).bind fun r10=>
 (ix a4 v4).bind fun x11=>
 (Nc x11 (zM .i64 (x7+r10))).bind fun r12=>
 if(decide (r12<(0:X))) then(
  IK a2 a3 a4 v4 r12 a0 a1 v5 (Ey a2 a3 a4 a0 a1 n) F)
 else(
  if(r12 !=(zM .i64 (x7+r10))) then(
  (ix a2 v4).bind fun x15=>
  (ix a0.Points x15).bind fun x16=>
  IK a2 a3 a4 v4 r12 a0 a1 v5 (Ey a2 a3 a4 a0 a1 n) (!x16.Wait))
  else(
  IK a2 a3 a4 v4 r12 a0 a1 v5 (Ey a2 a3 a4 a0 a1 n) E)))
 else(
 O (v5,F))
def KJ(a0:X1)(a1:X4)(a2 a3:V X)(a4:V (V X5))(a5:X):W ((V X) × Y):=
(ix a4 (0:X)).bind fun x1=>
(N6 x1 a5).bind fun r2=>
if r2 then(
 Ey a2 a3 a4 a0 a1 bigN (1:X) ([a5]:V X))
else(
 O (([]:V X),E))
/- spec_ArrivalOf -/
def MY(a0:X1)(a1:X4)(a2 a3:V X):W X:=
(GB a0 a2).bind fun r1=>
if(decide (r1<(0:X))) then(
 O (-1:X))
else(
 (E2 a1).bind fun r3=>
 if r3 then(
 if((a2.length:X) !=(a3.length:X)) then(
  O (-1:X))
 else(
  if((a2.length:X)==(0:X)) then(
  O (-1:X))
  else(
  (ix a3 (zM .i64 ((a3.length:X) - (1:X)))).bind fun x7=>
  (Ax x7 (0:X) (2880:X)).bind fun r9=>
  if r9 then(
   (ix a2 (zM .i64 ((a2.length:X) - (1:X)))).bind fun x11=>
   (ix a0.Segments x11).bind fun x12=>
   (FB x12 a1).bind fun r13=>
   O (zM .i64 (x7+r13)))
  else(
   O (-1:X)))))
 else(
 O (-1:X)))
/- spec_PassagesOf -/
def Ix(a1:X)(a5 a4:V X)(a0:X1)(a2:X4)(r6:(V X)):Z→X→(V X3)→W (V X3)
| 0,_,_=>U
| n+1,v7,v8=>
 if(decide (v7<(a4.length:X))) then(
 (ix a4 v7).bind fun x10=>
 (ix a5 v7).bind fun x11=>
 (Ax x11 (0:X) (2880:X)).bind fun r12=>
 if r12 then(
  (ix a0.Segments x10).bind fun x14=>
  (ix r6 v7).bind fun x15=>
  (FB x14 a2).bind fun r16=>
  if A3 v8.length ([(⟨a1,x10,(x14.A==x15),x11,(zM .i64 (x11+r16))⟩:X3)]:V X3).length 40 then(
  Ix a1 a5 a4 a0 a2 r6 n (zM .i64 (v7+(1:X))) (v8++([(⟨a1,x10,(x14.A==x15),x11,(zM .i64 (x11+r16))⟩:X3)]:V X3)))
  else U)
 else(
  O ([]:V X3)))
 else(
 O v8)
def Nf(a0:X1)(a1:X)(a2:X4)(a3:X)(a4 a5:V X):W (V X3):=
(Ew a0 a3 a4).bind fun r1=>
if r1 then(
 (E2 a2).bind fun r3=>
 if r3 then(
 if((a4.length:X) !=(a5.length:X)) then(
  O ([]:V X3))
 else(
  (Fx a0 a3 a4).bind fun r6=>
  Ix a1 a5 a4 a0 a2 r6 bigN (0:X) ([]:V X3)))
 else(
 O ([]:V X3)))
else(
 O ([]:V X3))
/- spec_l15Make -/
def GN(a2:V X)(a0:X6)(x1:X4)(x2 r3:X)(r4:(V X3)):Z→X→X→W (X0 × Y)
| 0,_,_=>U
| n+1,v5,v6=>
 if(decide (v5<(a2.length:X))) then(
 (ix a2 v5).bind fun x8=>
 (ix a0.Chart.Segments x8).bind fun x9=>
 (FB x9 x1).bind fun r10=>
 GN a2 a0 x1 x2 r3 r4 n (zM .i64 (v5+(1:X))) (zM .i64 (v6 - r10)))
 else(
 O ((⟨x2,r3,v6,r4⟩:X0),(decide (r3≤(2880:X)))))
def NA(a0:X6)(a1:Xa)(a2 a3:V X):W (X0 × Y):=
(ix a0.Fleet a1.Ship).bind fun x1=>
(ix a3 (0:X)).bind fun x2=>
(MY a0.Chart x1 a2 a3).bind fun r3=>
(Nf a0.Chart a1.Ship x1 a1.From a2 a3).bind fun r4=>
GN a2 a0 x1 x2 r3 r4 bigN (0:X) (zM .i64 (r3 - a1.Ready))
/- spec_OptionsOf -/
def Iw(r3:(V X) × Y)(v8:X)(a0:X6)(a1:Xa)(x5:X4)(r6:(V (V X5)))(r7:(V X))(Qm:X→(V X0)→W (V X0))(v17:V X0):W (V X0):=
Qm (zM .i64 (v8+(15:X))) v17
def Fw(r3:(V X) × Y)(a0:X6)(a1:Xa)(x5:X4)(r6:(V (V X5)))(r7:(V X)):Z→X→(V X0)→W (V X0)
| 0,_,_=>U
| n+1,v8,v9=>
 if(decide (v8≤a1.Due)) then(
 if(decide ((v9.length:X)<(8:X))) then(
  (KJ a0.Chart x5 r7 r3.1 r6 v8).bind fun r12=>
  if r12.2 then(
  (NA a0 a1 r3.1 r12.1).bind fun r14=>
  if r14.2 then(
   if A3 v9.length ([r14.1]:V X0).length 48 then(
   Iw r3 v8 a0 a1 x5 r6 r7 (Fw r3 a0 a1 x5 r6 r7 n) (v9++([r14.1]:V X0)))
   else U)
  else(
   Iw r3 v8 a0 a1 x5 r6 r7 (Fw r3 a0 a1 x5 r6 r7 n) v9))
  else(
  Iw r3 v8 a0 a1 x5 r6 r7 (Fw r3 a0 a1 x5 r6 r7 n) v9))
 else(
  O v9))
 else(
 O v9)
def KC(a0:X6)(a1:Xa):W (V X0):=
(Kq a0 a1).bind fun r1=>
if r1 then(
 (MZ a0.Chart a1.From a1.To).bind fun r3=>
 if r3.2 then(
 (ix a0.Fleet a1.Ship).bind fun x5=>
 (PP a0.Forecast a0.Chart x5 r3.1).bind fun r6=>
 (Fx a0.Chart a1.From r3.1).bind fun r7=>
 Fw r3 a0 a1 x5 r6 r7 bigN a1.Ready ([]:V X0))
 else(
 O ([]:V X0)))
else(
 O ([]:V X0))
/- spec_l16Options -/
def IN(a1:V Xa)(a0:X6):Z→X→(V (V X0))→W (V (V X0))
| 0,_,_=>U
| n+1,v1,v2=>
 if(decide (v1<(a1.length:X))) then(
 (ix a1 v1).bind fun x4=>
 (KC a0 x4).bind fun r5=>
 if A3 v2.length ([r5]:V (V X0)).length 24 then(
  IN a1 a0 n (zM .i64 (v1+(1:X))) (v2++([r5]:V (V X0))))
 else U)
 else(
 O v2)
def PS(a0:X6)(a1:V Xa):W (V (V X0)):=
IN a1 a0 bigN (0:X) ([]:V (V X0))
/- spec_Overlaps -/
def KD(a0 a1:X3):W Y:=
O (decide ((if a0.Start<a1.Start then a1.Start else a0.Start)<(if a1.End<a0.End then a1.End else a0.End)))
/- spec_l09Near -/
def Nx(a2 v3 v4:X):W Y:=
O (decide ((zM .i64 (v4 - v3))<a2))
def KK(a0 a1 a2:X):W Y:=
if(decide ((if a1<a0 then a1 else a0)<(0:X))) then(
 if(decide ((zM .i64 ((if a1<a0 then a1 else a0)+(9223372036854775807:X)))<(if a0<a1 then a1 else a0))) then(
 O E)
 else(
 Nx a2 (if a1<a0 then a1 else a0) (if a0<a1 then a1 else a0)))
else(
 Nx a2 (if a1<a0 then a1 else a0) (if a0<a1 then a1 else a0))
/- spec_ConflictOf -/
def N2(a0:X1)(a1:Xi)(a2 a3:X3):W X:=
(Df a0).bind fun r1=>
if r1 then(
 (IA a1).bind fun r3=>
 if r3 then(
 (Ax a2.Segment (0:X) (zM .i64 ((a0.Segments.length:X) - (1:X)))).bind fun r5=>
 if r5 then(
  if(a2.Segment !=a3.Segment) then(
  O (0:X))
  else(
  if(a2.Ship==a3.Ship) then(
   (KD a2 a3).bind fun r9=>
   if r9 then(
   O (1:X))
   else(
   O (0:X)))
  else(
   if(a2.Toward==a3.Toward) then(
   (KK a2.Start a3.Start a1.Gap).bind fun r17=>
   if r17 then(
    O (3:X))
   else(
    (KK a2.End a3.End a1.Gap).bind fun r19=>
    if r19 then(
    O (3:X))
    else(
    if(decide (a2.Start<a3.Start)) then(
     if(decide (a3.End<a2.End)) then(
     O (4:X))
     else(
     if(decide (a3.Start<a2.Start)) then(
      if(decide (a2.End<a3.End)) then(
      O (4:X))
      else(
      O (0:X)))
     else(
      O (0:X))))
    else(
     if(decide (a3.Start<a2.Start)) then(
     if(decide (a2.End<a3.End)) then(
      O (4:X))
     else(
      O (0:X)))
     else(
     O (0:X))))))
   else(
   (KD a2 a3).bind fun r12=>
   if r12 then(
    if a1.NoMeet then(
    O (2:X))
    else(
    (ix a0.Segments a2.Segment).bind fun x15=>
    if x15.Meet then(
     O (0:X))
    else(
     O (2:X))))
   else(
    O (0:X))))))
 else(
  O (0:X)))
 else(
 O (0:X)))
else(
 O (0:X))
/- spec_Clashes -/
def Il(a3 a2:V X3)(v1:X)(a0:X1)(a1:Xi)(x3:X3)(O4:X→W Y):Z→X→W Y
| 0,_=>U
| n+1,v4=>
 if(decide (v4<(a3.length:X))) then(
 (ix a3 v4).bind fun x6=>
 (N2 a0 a1 x3 x6).bind fun r7=>
 if(r7 !=(0:X)) then(
  O F)
 else(
  Il a3 a2 v1 a0 a1 x3 O4 n (zM .i64 (v4+(1:X)))))
 else(
 O4 (zM .i64 (v1+(1:X))))
def Fv(a3 a2:V X3)(a0:X1)(a1:Xi):Z→X→W Y
| 0,_=>U
| n+1,v1=>
 if(decide (v1<(a2.length:X))) then(
 (ix a2 v1).bind fun x3=>
 Il a3 a2 v1 a0 a1 x3 (Fv a3 a2 a0 a1 n) bigN (0:X))
 else(
 O E)
def N1(a0:X1)(a1:Xi)(a2 a3:V X3):W Y:=
Fv a3 a2 a0 a1 bigN (0:X)
/- spec_l16Clash -/
def IM(a1:V (V X0))(x4 x8:V X0)(v1 v5 v9:X)(a0:X6)(x12:X0)(v2:V (V (V (V Y))))(v6:V (V (V Y)))(v10:V (V Y))(Oa:X→(V (V Y))→W (V (V (V (V Y))))):Z→X→(V Y)→W (V (V (V (V Y))))
| 0,_,_=>U
| n+1,v13,v14=>
 if(decide (v13<(x8.length:X))) then(
 (ix x8 v13).bind fun x16=>
 (N1 a0.Chart a0.Regime x12.Passages x16.Passages).bind fun r17=>
 if A3 v14.length ([r17]:V Y).length 1 then(
  IM a1 x4 x8 v1 v5 v9 a0 x12 v2 v6 v10 Oa n (zM .i64 (v13+(1:X))) (v14++([r17]:V Y)))
 else U)
 else(
 if A3 v10.length ([v14]:V (V Y)).length 24 then(
  Oa (zM .i64 (v9+(1:X))) (v10++([v14]:V (V Y))))
 else U)
def FG(a1:V (V X0))(x4 x8:V X0)(v1 v5:X)(a0:X6)(v2:V (V (V (V Y))))(v6:V (V (V Y)))(O9:X→(V (V (V Y)))→W (V (V (V (V Y))))):Z→X→(V (V Y))→W (V (V (V (V Y))))
| 0,_,_=>U
| n+1,v9,v10=>
 if(decide (v9<(x4.length:X))) then(
 (ix x4 v9).bind fun x12=>
 IM a1 x4 x8 v1 v5 v9 a0 x12 v2 v6 v10 (FG a1 x4 x8 v1 v5 a0 v2 v6 O9 n) bigN (0:X) ([]:V Y))
 else(
 if A3 v6.length ([v10]:V (V (V Y))).length 24 then(
  O9 (zM .i64 (v5+(1:X))) (v6++([v10]:V (V (V Y)))))
 else U)
def E5(a1:V (V X0))(x4:V X0)(v1:X)(a0:X6)(v2:V (V (V (V Y))))(O8:X→(V (V (V (V Y))))→W (V (V (V (V Y))))):Z→X→(V (V (V Y)))→W (V (V (V (V Y))))
| 0,_,_=>U
| n+1,v5,v6=>
 if(decide (v5<(a1.length:X))) then(
 (ix a1 v5).bind fun x8=>
 FG a1 x4 x8 v1 v5 a0 v2 v6 (E5 a1 x4 v1 a0 v2 O8 n) bigN (0:X) ([]:V (V Y)))
 else(
 if A3 v2.length ([v6]:V (V (V (V Y)))).length 24 then(
  O8 (zM .i64 (v1+(1:X))) (v2++([v6]:V (V (V (V Y))))))
 else U)
def Dg(a1:V (V X0))(a0:X6):Z→X→(V (V (V (V Y))))→W (V (V (V (V Y))))
| 0,_,_=>U
| n+1,v1,v2=>
 if(decide (v1<(a1.length:X))) then(
 (ix a1 v1).bind fun x4=>
 E5 a1 x4 v1 a0 v2 (Dg a1 a0 n) bigN (0:X) ([]:V (V (V Y))))
 else(
 O v2)
def NB(a0:X6)(a1:V (V X0)):W (V (V (V (V Y)))):=
Dg a1 a0 bigN (0:X) ([]:V (V (V (V Y))))
/- spec_l21Account -/
def IQ(a2:V X0)(a1:V Xa)(a0:X6):Z→X→(V X)→(V X)→W Xo
| 0,_,_,_=>U
| n+1,v3,v4,v5=>
 if(decide (v3<(a1.length:X))) then(
 (ix a1 v3).bind fun x7=>
 (ix a0.Fleet x7.Ship).bind fun x8=>
 (ix v4 x8.Line).bind fun x9=>
 (ix a2 v3).bind fun x10=>
 (ix v5 x8.Line).bind fun x11=>
 IQ a2 a1 a0 n (zM .i64 (v3+(1:X))) (v4.set (zB x8.Line) (zM .i64 (x9+x10.Cost))) (v5.set (zB x8.Line) (zM .i64 (x11+(1:X)))))
 else(
 O (⟨v4,v5⟩:Xo))
def IP(a0:X6)(a1:V Xa)(a2:V X0):W Xo:=
(Br (4:X) (4:X) 8).bind fun n1=>
(Br (4:X) (4:X) 8).bind fun n2=>
IQ a2 a1 a0 bigN (0:X) (zG n1 (0:X)) (zG n2 (0:X))
/- spec_CostOf -/
def Ku(a0:V X0):Z→X→X→W X
| 0,_,_=>U
| n+1,v1,v2=>
 if(decide (v2<(a0.length:X))) then(
 (ix a0 v2).bind fun x4=>
 Ku a0 n (zM .i64 (v1+x4.Cost)) (zM .i64 (v2+(1:X))))
 else(
 O v1)
def N3(a0:V X0):W X:=
Ku a0 bigN (0:X) (0:X)
/- spec_ChainsOf -/
def Ii(a0:V X0):Z→X→(V (V X3))→W (V (V X3))
| 0,_,_=>U
| n+1,v1,v2=>
 if(decide (v1<(a0.length:X))) then(
 (ix a0 v1).bind fun x4=>
 if A3 ([]:V X3).length x4.Passages.length 40 then(
  if A3 v2.length ([x4.Passages]:V (V X3)).length 24 then(
  Ii a0 n (zM .i64 (v1+(1:X))) (v2++([x4.Passages]:V (V X3))))
  else U)
 else U)
 else(
 O v2)
def Gw(a0:V X0):W (V (V X3)):=
Ii a0 bigN (0:X) ([]:V (V X3))
/- spec_PassageOk -/
def KE(a0:X1)(a1:V X4)(a2:X3):W Y:=
(Df a0).bind fun r1=>
if r1 then(
 (Kv a1).bind fun r3=>
 if r3 then(
 (Ax a2.Ship (0:X) (zM .i64 ((a1.length:X) - (1:X)))).bind fun r5=>
 if r5 then(
  (Ax a2.Segment (0:X) (zM .i64 ((a0.Segments.length:X) - (1:X)))).bind fun r7=>
  if r7 then(
  (Ax a2.Start (0:X) (2880:X)).bind fun r9=>
  if r9 then(
   (ix a1 a2.Ship).bind fun x11=>
   (KA a0 a2.Segment x11).bind fun r12=>
   if(a2.End==(zM .i64 (a2.Start+r12))) then(
   O (decide (a2.End≤(2880:X))))
   else(
   O E))
  else(
   O E))
  else(
  O E))
 else(
  O E))
 else(
 O E))
else(
 O E)
/- spec_l08Ends -/
def FD(a0:X1)(a1:X3):W (X × X):=
(ix a0.Segments a1.Segment).bind fun x1=>
if a1.Toward then(
 O (x1.A,x1.B))
else(
 O (x1.B,x1.A))
/- spec_l14Tugs -/
def GM(a1:V X4)(r7:X × X)(a2:V X3)(v1:X)(a0:X1)(x4:X3)(O7:X→(V Xb)→W ((V Xb) × Y)):Z→X→(V Xb)→W ((V Xb) × Y)
| 0,_,_=>U
| n+1,v8,v9=>
 (ix a1 x4.Ship).bind fun x10=>
 if(decide (v8<x10.Tugs)) then(
 if A3 v9.length ([(⟨x4.Start,x4.End,r7.1,r7.2⟩:Xb)]:V Xb).length 32 then(
  GM a1 r7 a2 v1 a0 x4 O7 n (zM .i64 (v8+(1:X))) (v9++([(⟨x4.Start,x4.End,r7.1,r7.2⟩:Xb)]:V Xb)))
 else U)
 else(
 if(decide ((12:X)<(v9.length:X))) then(
  O (([]:V Xb),E))
 else(
  O7 (zM .i64 (v1+(1:X))) v9))
def FF(a1:V X4)(a2:V X3)(a0:X1):Z→X→(V Xb)→W ((V Xb) × Y)
| 0,_,_=>U
| n+1,v1,v2=>
 if(decide (v1<(a2.length:X))) then(
 (ix a2 v1).bind fun x4=>
 (KE a0 a1 x4).bind fun r5=>
 if r5 then(
  (FD a0 x4).bind fun r7=>
  GM a1 r7 a2 v1 a0 x4 (FF a1 a2 a0 n) bigN (0:X) v2)
 else(
  O (([]:V Xb),E)))
 else(
 O (v2,F))
def PR(a0:X1)(a1:V X4)(a2:V X3):W ((V Xb) × Y):=
FF a1 a2 a0 bigN (0:X) ([]:V Xb)
/- spec_l13Duty -/
def IL(a0:Xb):W Y:=
(Ax a0.From (0:X) (2880:X)).bind fun r1=>
if r1 then(
 if(decide (a0.From<a0.To)) then(
 if(decide (a0.To≤(2880:X))) then(
  (Ax a0.A (0:X) (7:X)).bind fun r5=>
  if r5 then(
  (Ax a0.B (0:X) (7:X)).bind fun r7=>
  O r7)
  else(
  O E))
 else(
  O E))
 else(
 O E))
else(
 O E)
/- spec_DutiesOk -/
def Ip(a0:V Xb):Z→X→W Y
| 0,_=>U
| n+1,v2=>
 if(decide (v2<(a0.length:X))) then(
 (ix a0 v2).bind fun x4=>
 (IL x4).bind fun r5=>
 if r5 then(
  Ip a0 n (zM .i64 (v2+(1:X))))
 else(
  O E))
 else(
 O F)
def N4(a0:V Xb):W Y:=
if(decide ((12:X)<(a0.length:X))) then(
 O E)
else(
 Ip a0 bigN (0:X))
/- spec_Gap -/
def Kx(a0:X)(a1:V X)(a2 a3:Xb)(v6:Y):W (X × Y):=
if v6 then(
 O ((0:X),E))
else(
 (ix a1 (zM .i64 ((zM .i64 (a2.B*(8:X)))+a3.A))).bind fun x8=>
 O ((zM .i64 (a0+x8)),F))
def PJ(a0:X)(a1:V X)(a2 a3:Xb):W (X × Y):=
(GK a0 a1).bind fun r1=>
if r1 then(
 (Ax a2.B (0:X) (7:X)).bind fun r3=>
 if r3 then(
 (Ax a3.A (0:X) (7:X)).bind fun r5=>
 Kx a0 a1 a2 a3 (!r5))
 else(
 Kx a0 a1 a2 a3 F))
else(
 Kx a0 a1 a2 a3 F)
/- spec_CanFollow -/
def Kt(a0:X)(a1:V X)(a2 a3:Xb):W Y:=
(PJ a0 a1 a2 a3).bind fun r1=>
if r1.2 then(
 (IL a2).bind fun r3=>
 if r3 then(
 (IL a3).bind fun r5=>
 if r5 then(
  O (decide ((zM .i64 (a2.To+r1.1))≤a3.From)))
 else(
  O E))
 else(
 O E))
else(
 O E)
/- spec_l13Both -/
def GI(a0:X)(a1:V X)(a2:V Xb)(v1:X)(x4:Xb)(v2:V (V Y))(L2:X→(V (V Y))→W (V (V Y))):Z→X→(V Y)→W (V (V Y))
| 0,_,_=>U
| n+1,v5,v6=>
 if(decide (v5<(a2.length:X))) then(
 (ix a2 v5).bind fun x8=>
 (Kt a0 a1 x4 x8).bind fun r9=>
 if r9 then(
  if A3 v6.length ([F]:V Y).length 1 then(
  GI a0 a1 a2 v1 x4 v2 L2 n (zM .i64 (v5+(1:X))) (v6++([F]:V Y)))
  else U)
 else(
  (Kt a0 a1 x8 x4).bind fun r12=>
  if A3 v6.length ([r12]:V Y).length 1 then(
  GI a0 a1 a2 v1 x4 v2 L2 n (zM .i64 (v5+(1:X))) (v6++([r12]:V Y)))
  else U))
 else(
 if A3 v2.length ([v6]:V (V Y)).length 24 then(
  L2 (zM .i64 (v1+(1:X))) (v2++([v6]:V (V Y))))
 else U)
def FE(a0:X)(a1:V X)(a2:V Xb):Z→X→(V (V Y))→W (V (V Y))
| 0,_,_=>U
| n+1,v1,v2=>
 if(decide (v1<(a2.length:X))) then(
 (ix a2 v1).bind fun x4=>
 GI a0 a1 a2 v1 x4 v2 (FE a0 a1 a2 n) bigN (0:X) ([]:V Y))
 else(
 O v2)
def Ny(a0:X)(a1:V X)(a2:V Xb):W (V (V Y)):=
FE a0 a1 a2 bigN (0:X) ([]:V (V Y))
/- spec_l13Search -/
def KL(rec_:(V (V Y))→(V X)→X→W ((V X) × Y))(a0:V (V Y))(a1:V X)(a2 v2 v6:X)(Dn:X→W ((V X) × Y)):W ((V X) × Y):=
Dn (zM .i64 (v6+(1:X)))
def DF(rec_:(V (V Y))→(V X)→X→W ((V X) × Y))(a0:V (V Y))(a1:V X)(a2 v2 v6:X)(Dn:X→W ((V X) × Y)):Z→Y→X→W ((V X) × Y)
| 0,_,_=>U
| n+1,v9,v10=>
 if(decide (v10<(a1.length:X))) then(
 (ix a1 v10).bind fun x12=>
 if(x12==v6) then(
  (ix a0 (a1.length:X)).bind fun x14=>
  (ix x14 v10).bind fun x15=>
  if x15 then(
  DF rec_ a0 a1 a2 v2 v6 Dn n v9 (zM .i64 (v10+(1:X))))
  else(
  DF rec_ a0 a1 a2 v2 v6 Dn n E (zM .i64 (v10+(1:X)))))
 else(
  DF rec_ a0 a1 a2 v2 v6 Dn n v9 (zM .i64 (v10+(1:X)))))
 else(
 if v9 then(
  if A3 ([]:V X).length a1.length 8 then(
  if A3 a1.length ([v6]:V X).length 8 then(
   (rec_ a0 (a1++([v6]:V X)) a2).bind fun r20=>
   if r20.2 then(
   O (r20.1,F))
   else(
   KL rec_ a0 a1 a2 v2 v6 Dn))
  else U)
  else U)
 else(
  KL rec_ a0 a1 a2 v2 v6 Dn))
def E4(rec_:(V (V Y))→(V X)→X→W ((V X) × Y))(a0:V (V Y))(a1:V X)(a2 v2:X):Z→X→W ((V X) × Y)
| 0,_=>U
| n+1,v6=>
 if(decide (v6≤v2)) then(
 if(decide (v6<a2)) then(
  DF rec_ a0 a1 a2 v2 v6 (E4 rec_ a0 a1 a2 v2 n) bigN F (0:X))
 else(
  O (([]:V X),E)))
 else(
 O (([]:V X),E))
def GJ(rec_:(V (V Y))→(V X)→X→W ((V X) × Y))(a0:V (V Y))(a1:V X)(a2:X):Z→X→X→W ((V X) × Y)
| 0,_,_=>U
| n+1,v2,v3=>
 if(decide (v3<(a1.length:X))) then(
 (ix a1 v3).bind fun x5=>
 GJ rec_ a0 a1 a2 n (if v2<(zM .i64 (x5+(1:X))) then(zM .i64 (x5+(1:X))) else v2) (zM .i64 (v3+(1:X))))
 else(
 E4 rec_ a0 a1 a2 v2 bigN (0:X))
def Nz(rec_:(V (V Y))→(V X)→X→W ((V X) × Y))(a0:V (V Y))(a1:V X)(a2:X):W ((V X) × Y):=
if((a1.length:X)==(a0.length:X)) then(
 O (a1,F))
else(
 GJ rec_ a0 a1 a2 bigN (0:X) (0:X))
def Cz:Z→(V (V Y))→(V X)→X→W ((V X) × Y)
| 0,_,_,_=>U
| n+1,a0,a1,a2=>Nz (Cz n) a0 a1 a2
def PQ(a0:V (V Y))(a1:V X)(a2:X):W ((V X) × Y):=Cz bigN a0 a1 a2
/- spec_LeastCover -/
def Iu(a2:V Xb)(r6:(V (V Y))):Z→X→W ((V X) × X × Y)
| 0,_=>U
| n+1,v7=>
 if(decide (v7≤(a2.length:X))) then(
 (PQ r6 ([]:V X) v7).bind fun r9=>
 if r9.2 then(
  O (r9.1,v7,F))
 else(
  Iu a2 r6 n (zM .i64 (v7+(1:X)))))
 else(
 O (([]:V X),(0:X),E))
def Na(a0:X)(a1:V X)(a2:V Xb)(v4:Y):W ((V X) × X × Y):=
if v4 then(
 O (([]:V X),(0:X),E))
else(
 (Ny a0 a1 a2).bind fun r6=>
 Iu a2 r6 bigN (0:X))
def It(a0:X)(a1:V X)(a2:V Xb):W ((V X) × X × Y):=
(N4 a2).bind fun r1=>
if r1 then(
 (GK a0 a1).bind fun r3=>
 Na a0 a1 a2 (!r3))
else(
 Na a0 a1 a2 F)
/- spec_TugsNeeded -/
def KF(a0:Xn)(a1:X1)(a2:V X4)(a3:V X3):W X:=
(PR a1 a2 a3).bind fun r1=>
(Im a0).bind fun r2=>
if r2 then(
 if r1.2 then(
 (It (0:X) a0.Moves r1.1).bind fun r5=>
 if r5.2.2 then(
  O r5.2.1)
 else(
  O (-1:X)))
 else(
 O (-1:X)))
else(
 O (-1:X))
/- spec_IsChain -/
def Gy(a1:V X3)(a0:X1):Z→X→W Y
| 0,_=>U
| n+1,v3=>
 if(decide (v3<(a1.length:X))) then(
 (ix a1 v3).bind fun x5=>
 (ix a1 (0:X)).bind fun x6=>
 if(x5.Ship !=x6.Ship) then(
  O E)
 else(
  (Ax x5.Segment (0:X) (zM .i64 ((a0.Segments.length:X) - (1:X)))).bind fun r9=>
  if r9 then(
  if(v3==(0:X)) then(
   Gy a1 a0 n (zM .i64 (v3+(1:X))))
  else(
   (FD a0 x5).bind fun r12=>
   (ix a1 (zM .i64 (v3 - (1:X)))).bind fun x13=>
   (FD a0 x13).bind fun r14=>
   if(r12.1 !=r14.2) then(
   O E)
   else(
   if(decide (x5.Start<x13.End)) then(
    O E)
   else(
    Gy a1 a0 n (zM .i64 (v3+(1:X)))))))
  else(
  O E)))
 else(
 O F)
def N7(a0:X1)(a1:V X3):W Y:=
(Df a0).bind fun r1=>
if r1 then(
 Gy a1 a0 bigN (0:X))
else(
 O E)
/- spec_PilotDuty -/
def Iy(a1:V X4)(a2:V X3)(a0:X1):Z→X→W (Xb × Y)
| 0,_=>U
| n+1,v5=>
 if(decide (v5<(a2.length:X))) then(
 (ix a2 v5).bind fun x7=>
 (KE a0 a1 x7).bind fun r9=>
 if r9 then(
  Iy a1 a2 a0 n (zM .i64 (v5+(1:X))))
 else(
  O ((⟨(0:X),(0:X),(0:X),(0:X)⟩:Xb),E)))
 else(
 (ix a2 (zM .i64 ((a2.length:X) - (1:X)))).bind fun x11=>
 (ix a2 (0:X)).bind fun x12=>
 (FD a0 x12).bind fun r13=>
 (FD a0 x11).bind fun r14=>
 O ((⟨x12.Start,x11.End,r13.1,r14.2⟩:Xb),F))
def Nh(a1:V X4)(a2:V X3)(a0:X1)(v3:Y):W (Xb × Y):=
if v3 then(
 O ((⟨(0:X),(0:X),(0:X),(0:X)⟩:Xb),E))
else(
 Iy a1 a2 a0 bigN (0:X))
def Ng(a0:X1)(a1:V X4)(a2:V X3):W (Xb × Y):=
if((a2.length:X)==(0:X)) then(
 Nh a1 a2 a0 F)
else(
 (N7 a0 a2).bind fun r2=>
 Nh a1 a2 a0 (!r2))
/- spec_PilotsNeeded -/
def GA(a2:V X4)(a3:V (V X3))(a0:Xn)(a1:X1):Z→X→(V Xb)→W X
| 0,_,_=>U
| n+1,v3,v4=>
 if(decide (v3<(a3.length:X))) then(
 (ix a3 v3).bind fun x6=>
 if((x6.length:X)==(0:X)) then(
  GA a2 a3 a0 a1 n (zM .i64 (v3+(1:X))) v4)
 else(
  (Ng a1 a2 x6).bind fun r9=>
  if r9.2 then(
  if A3 v4.length ([r9.1]:V Xb).length 32 then(
   GA a2 a3 a0 a1 n (zM .i64 (v3+(1:X))) (v4++([r9.1]:V Xb)))
  else U)
  else(
  O (-1:X))))
 else(
 (It a0.Rest a0.Moves v4).bind fun r12=>
 if r12.2.2 then(
  O r12.2.1)
 else(
  O (-1:X)))
def Ni(a0:Xn)(a1:X1)(a2:V X4)(a3:V (V X3)):W X:=
(Im a0).bind fun r1=>
if r1 then(
 GA a2 a3 a0 a1 bigN (0:X) ([]:V Xb))
else(
 O (-1:X))
/- spec_CrewSuffices -/
def Io(a2:V X4)(a3:V (V X3))(a0:Xn)(a1:X1):Z→X→(V X3)→W Y
| 0,_,_=>U
| n+1,v1,v2=>
 if(decide (v1<(a3.length:X))) then(
 (ix a3 v1).bind fun x4=>
 if A3 v2.length x4.length 40 then(
  Io a2 a3 a0 a1 n (zM .i64 (v1+(1:X))) (v2++x4))
 else U)
 else(
 (KF a0 a1 a2 v2).bind fun r6=>
 (Ax r6 (0:X) a0.Tugs).bind fun r7=>
 if r7 then(
  (Ni a0 a1 a2 a3).bind fun r9=>
  (Ax r9 (0:X) a0.Pilots).bind fun r10=>
  O r10)
 else(
  O E))
def In(a0:Xn)(a1:X1)(a2:V X4)(a3:V (V X3)):W Y:=
Io a2 a3 a0 a1 bigN (0:X) ([]:V X3)
/- spec_l21Take -/
def KM(a1:V X)(v10 r14:X)(a0:Xf)(v28:Y):W Xf:=
if A3 ([]:V X).length a1.length 8 then(
 O (⟨a0.h,a0.calls,a0.lists,a0.clash,a1,v10,r14,F⟩:Xf))
else U
def Di(a1:V X)(r9:Xo)(a0:Xf)(v2:V X0):Z→X→X→W Xf
| 0,_,_=>U
| n+1,v10,v11=>
 if(decide (v11<(r9.Waits.length:X))) then(
 (ix r9.Waits v11).bind fun x13=>
 Di a1 r9 a0 v2 n (if v10<x13 then x13 else v10) (zM .i64 (v11+(1:X))))
 else(
 (N3 v2).bind fun r14=>
 if a0.found then(
  if(decide (a0.most<v10)) then(
  O (⟨a0.h,a0.calls,a0.lists,a0.clash,a0.best,a0.most,a0.cost,F⟩:Xf))
  else(
  if(v10==a0.most) then(
   if(decide (a0.cost≤r14)) then(
   O (⟨a0.h,a0.calls,a0.lists,a0.clash,a0.best,a0.most,a0.cost,F⟩:Xf))
   else(
   (Gw v2).bind fun r19=>
   (In a0.h.Crew a0.h.Chart a0.h.Fleet r19).bind fun r20=>
   if r20 then(
    KM a1 v10 r14 a0 F)
   else(
    O (⟨a0.h,a0.calls,a0.lists,a0.clash,a0.best,a0.most,a0.cost,F⟩:Xf))))
  else(
   (Gw v2).bind fun r21=>
   (In a0.h.Crew a0.h.Chart a0.h.Fleet r21).bind fun r22=>
   if r22 then(
   KM a1 v10 r14 a0 F)
   else(
   O (⟨a0.h,a0.calls,a0.lists,a0.clash,a0.best,a0.most,a0.cost,F⟩:Xf)))))
 else(
  (Gw v2).bind fun r23=>
  (In a0.h.Crew a0.h.Chart a0.h.Fleet r23).bind fun r24=>
  if r24 then(
  KM a1 v10 r14 a0 E)
  else(
  O (⟨a0.h,a0.calls,a0.lists,a0.clash,a0.best,a0.most,a0.cost,E⟩:Xf))))
def IR(a1:V X)(a0:Xf):Z→X→(V X0)→W Xf
| 0,_,_=>U
| n+1,v1,v2=>
 if(decide (v1<(a1.length:X))) then(
 (ix a1 v1).bind fun x4=>
 (ix a0.lists v1).bind fun x5=>
 (ix x5 x4).bind fun x6=>
 if A3 v2.length ([x6]:V X0).length 48 then(
  IR a1 a0 n (zM .i64 (v1+(1:X))) (v2++([x6]:V X0)))
 else U)
 else(
 (IP a0.h a0.calls v2).bind fun r9=>
 Di a1 r9 a0 v2 bigN (0:X) (0:X))
def ND(a0:Xf)(a1:V X):W Xf:=
IR a1 a0 bigN (0:X) ([]:V X0)
/- spec_l21Search -/
def E6(rec_:Xf→(V X)→W Xf)(a1:V X)(v4:X)(x3:V X0)(v5:X)(v6:V Xc)(v7:V X9)(v8:V X7)(v9:V X2)(v10:V X4)(v11:X)(v12:Y)(v13 v14 v15:X)(v16:V X)(v17:V Xa)(v18:V (V X0))(v19:V (V (V (V Y))))(v20 v21:X)(v22:Y)(v23:V X)(IZ:X→X→(V Xc)→(V X9)→(V X7)→(V X2)→(V X4)→X→Y→X→X→X→(V X)→(V Xa)→(V (V X0))→(V (V (V (V Y))))→X→X→Y→(V X)→W Xf):Z→Y→X→W Xf
| 0,_,_=>U
| n+1,v25,v26=>
 if(decide (v26<(a1.length:X))) then(
 (ix a1 v26).bind fun x28=>
 (ix v19 (a1.length:X)).bind fun x29=>
 (ix x29 v26).bind fun x30=>
 (ix x30 v4).bind fun x31=>
 (ix x31 x28).bind fun x32=>
 if x32 then(
  E6 rec_ a1 v4 x3 v5 v6 v7 v8 v9 v10 v11 v12 v13 v14 v15 v16 v17 v18 v19 v20 v21 v22 v23 IZ n E (zM .i64 (v26+(1:X))))
 else(
  E6 rec_ a1 v4 x3 v5 v6 v7 v8 v9 v10 v11 v12 v13 v14 v15 v16 v17 v18 v19 v20 v21 v22 v23 IZ n v25 (zM .i64 (v26+(1:X)))))
 else(
 if v25 then(
  if A3 ([]:V X).length a1.length 8 then(
  if A3 a1.length ([v4]:V X).length 8 then(
   (rec_ (⟨(⟨(⟨(⟨v5,v6⟩:Xl),v7⟩:Xd),(⟨v8,v9⟩:X1),v10,(⟨v11,v12⟩:Xi),(⟨v13,v14,v15,v16⟩:Xn)⟩:X6),v17,v18,v19,v23,v20,v21,v22⟩:Xf) (a1++([v4]:V X))).bind fun r37=>
   IZ (zM .i64 (v4+(1:X))) r37.h.Forecast.Tide.Mean r37.h.Forecast.Tide.Parts r37.h.Forecast.Surges r37.h.Chart.Points r37.h.Chart.Segments r37.h.Fleet r37.h.Regime.Gap r37.h.Regime.NoMeet r37.h.Crew.Tugs r37.h.Crew.Pilots r37.h.Crew.Rest r37.h.Crew.Moves r37.calls r37.lists r37.clash r37.most r37.cost r37.found r37.best)
  else U)
  else U)
 else(
  IZ (zM .i64 (v4+(1:X))) v5 v6 v7 v8 v9 v10 v11 v12 v13 v14 v15 v16 v17 v18 v19 v20 v21 v22 v23))
def FH(rec_:Xf→(V X)→W Xf)(a1:V X)(x3:V X0):Z→X→X→(V Xc)→(V X9)→(V X7)→(V X2)→(V X4)→X→Y→X→X→X→(V X)→(V Xa)→(V (V X0))→(V (V (V (V Y))))→X→X→Y→(V X)→W Xf
| 0,_,_,_,_,_,_,_,_,_,_,_,_,_,_,_,_,_,_,_,_=>U
| n+1,v4,v5,v6,v7,v8,v9,v10,v11,v12,v13,v14,v15,v16,v17,v18,v19,v20,v21,v22,v23=>
 if(decide (v4<(x3.length:X))) then(
 E6 rec_ a1 v4 x3 v5 v6 v7 v8 v9 v10 v11 v12 v13 v14 v15 v16 v17 v18 v19 v20 v21 v22 v23 (FH rec_ a1 x3 n) bigN F (0:X))
 else(
 O (⟨(⟨(⟨(⟨v5,v6⟩:Xl),v7⟩:Xd),(⟨v8,v9⟩:X1),v10,(⟨v11,v12⟩:Xi),(⟨v13,v14,v15,v16⟩:Xn)⟩:X6),v17,v18,v19,v23,v20,v21,v22⟩:Xf))
def NC(rec_:Xf→(V X)→W Xf)(a0:Xf)(a1:V X):W Xf:=
if((a1.length:X)==(a0.lists.length:X)) then(
 (ND a0 a1).bind fun r2=>
 O r2)
else(
 (ix a0.lists (a1.length:X)).bind fun x3=>
 FH rec_ a1 x3 bigN (0:X) a0.h.Forecast.Tide.Mean a0.h.Forecast.Tide.Parts a0.h.Forecast.Surges a0.h.Chart.Points a0.h.Chart.Segments a0.h.Fleet a0.h.Regime.Gap a0.h.Regime.NoMeet a0.h.Crew.Tugs a0.h.Crew.Pilots a0.h.Crew.Rest a0.h.Crew.Moves a0.calls a0.lists a0.clash a0.most a0.cost a0.found a0.best)
def Dh:Z→Xf→(V X)→W Xf
| 0,_,_=>U
| n+1,a0,a1=>NC (Dh n) a0 a1
def RL(a0:Xf)(a1:V X):W Xf:=Dh bigN a0 a1
/- spec_FairPlan -/
def N5(a0:X6)(a1:V Xa):W ((V X) × X × Y):=
(N0 a0 a1).bind fun r1=>
if r1 then(
 (PS a0 a1).bind fun r3=>
 (NB a0 r3).bind fun r4=>
 (RL (⟨a0,a1,r3,r4,([]:V X),(0:X),(0:X),E⟩:Xf) ([]:V X)).bind fun r5=>
 if r5.found then(
 O (r5.best,r5.most,F))
 else(
 O (([]:V X),(0:X),E)))
else(
 O (([]:V X),(0:X),E))
/- impl_within -/
def BN(a0 a1 a2:X):W Y:=
if(decide (a1≤a0)) then(
 O (decide (a0≤a2)))
else(
 O E)
/- impl_isPeriod -/
def K3(a0:X):W Y:=
(BN a0 (4:X) (2880:X)).bind fun r1=>
if r1 then(
 O ((zM .i64 (zI a0 (4:X)))==(0:X)))
else(
 O E)
/- impl_PartOk -/
def LW(a0:Xc):W Y:=
(BN a0.Amp (0:X) (1000:X)).bind fun r1=>
if r1 then(
 (K3 a0.Period).bind fun r3=>
 if r3 then(
 (BN a0.Phase (0:X) (zM .i64 (a0.Period - (1:X)))).bind fun r5=>
 O r5)
 else(
 O E))
else(
 O E)
/- impl_TideOk -/
def HI(a0:Xl):Z→X→W Y
| 0,_=>U
| n+1,v4=>
 if(decide (v4<(a0.Parts.length:X))) then(
 (ix a0.Parts v4).bind fun x6=>
 (LW x6).bind fun r7=>
 if r7 then(
  HI a0 n (zM .i64 (v4+(1:X))))
 else(
  O E))
 else(
 O F)
def M5(a0:Xl):W Y:=
(BN a0.Mean (-1000:X) (1000:X)).bind fun r1=>
if r1 then(
 if(decide ((4:X)<(a0.Parts.length:X))) then(
 O E)
 else(
 HI a0 bigN (0:X)))
else(
 O E)
/- impl_isMinute -/
def D4(a0:X):W Y:=
(BN a0 (0:X) (2880:X)).bind fun r1=>
O r1
/- impl_SurgeOk -/
def M4(a0:X9):W Y:=
(D4 a0.From).bind fun r1=>
if r1 then(
 if(decide ((-500:X)≤a0.Low)) then(
 if(decide (a0.Low≤a0.High)) then(
  O (decide (a0.High≤(500:X))))
 else(
  O E))
 else(
 O E))
else(
 O E)
/- impl_ForecastOk -/
def Gg(a0:Xd):Z→X→W Y
| 0,_=>U
| n+1,v7=>
 if(decide (v7<(a0.Surges.length:X))) then(
 (ix a0.Surges v7).bind fun x9=>
 (M4 x9).bind fun r10=>
 if r10 then(
  if(decide ((0:X)<v7)) then(
  (ix a0.Surges (zM .i64 (v7 - (1:X)))).bind fun x13=>
  if(decide (x9.From≤x13.From)) then(
   O E)
  else(
   Gg a0 n (zM .i64 (v7+(1:X)))))
  else(
  Gg a0 n (zM .i64 (v7+(1:X)))))
 else(
  O E))
 else(
 O F)
def Gf(a0:Xd):W Y:=
(M5 a0.Tide).bind fun r1=>
if r1 then(
 (BN (a0.Surges.length:X) (1:X) (6:X)).bind fun r3=>
 if r3 then(
 (ix a0.Surges (0:X)).bind fun x5=>
 if(x5.From !=(0:X)) then(
  O E)
 else(
  Gg a0 bigN (0:X)))
 else(
 O E))
else(
 O E)
/- impl_IsName -/
def LP(a0:V zA)(v3:X)(EE:X→W Y):W Y:=
EE (zM .i64 (v3+(1:X)))
def LO(a0:V zA)(v3:X)(EE:X→W Y)(v7:Y):W Y:=
if v7 then(
 LP a0 v3 EE)
else(
 if(v3==(0:X)) then(
 O E)
 else(
 (ix a0 v3).bind fun b10=>
 if(decide ((b10.toNat:X)<(48:X))) then(
  O E)
 else(
  if(decide ((57:X)<(b10.toNat:X))) then(
  O E)
  else(
  LP a0 v3 EE))))
def Gh(a0:V zA):Z→X→W Y
| 0,_=>U
| n+1,v3=>
 if(decide (v3<(a0.length:X))) then(
 (ix a0 v3).bind fun b5=>
 if(decide ((97:X)≤(b5.toNat:X))) then(
  LO a0 v3 (Gh a0 n) (decide ((b5.toNat:X)≤(122:X))))
 else(
  LO a0 v3 (Gh a0 n) E))
 else(
 O F)
def JT(a0:V zA):W Y:=
(BN (a0.length:X) (1:X) (8:X)).bind fun r1=>
if r1 then(
 Gh a0 bigN (0:X))
else(
 O E)
/- impl_PointNamed -/
def HF(a1:V zA)(a0:X1):Z→X→W X
| 0,_=>U
| n+1,v1=>
 if(decide (v1<(a0.Points.length:X))) then(
 (ix a0.Points v1).bind fun x3=>
 if(x3.Name==a1) then(
  O v1)
 else(
  HF a1 a0 n (zM .i64 (v1+(1:X)))))
 else(
 O (-1:X))
def LZ(a0:X1)(a1:V zA):W X:=
HF a1 a0 bigN (0:X)
/- impl_isIndex -/
def Bz(a0 a1:X):W Y:=
if(decide ((0:X)≤a0)) then(
 O (decide (a0<a1)))
else(
 O E)
/- impl_Segment_joins -/
def M1(a0:X2)(a1 a2:X):W Y:=
if(a0.A==a1) then(
 if(a0.B==a2) then(
 O F)
 else(
 if(a0.A==a2) then(
  O (a0.B==a1))
 else(
  O E)))
else(
 if(a0.A==a2) then(
 O (a0.B==a1))
 else(
 O E))
/- impl_ChartOk -/
def Hr(a0:X1)(v11:X)(x13:X2)(y24:V X2)(y25:X)(NW:X→W Y):Z→X→W Y
| 0,_=>U
| n+1,v26=>
 if(decide (v26<y25)) then(
 (ix y24 v26).bind fun x28=>
 (M1 x28 x13.A x13.B).bind fun r29=>
 if r29 then(
  O E)
 else(
  Hr a0 v11 x13 y24 y25 NW n (zM .i64 (v26+(1:X)))))
 else(
 NW (zM .i64 (v11+(1:X))))
def En(a0:X1):Z→X→W Y
| 0,_=>U
| n+1,v11=>
 if(decide (v11<(a0.Segments.length:X))) then(
 (ix a0.Segments v11).bind fun x13=>
 (Bz x13.A (a0.Points.length:X)).bind fun r14=>
 if r14 then(
  (Bz x13.B (a0.Points.length:X)).bind fun r16=>
  if r16 then(
  if(x13.A==x13.B) then(
   O E)
  else(
   (BN x13.Depth (0:X) (3000:X)).bind fun r19=>
   if r19 then(
   (BN x13.Minutes (1:X) (240:X)).bind fun r21=>
   if r21 then(
    (bnd (a0.Segments.length:X) v11 (0:X) a0.Segments.length).bind fun p23=>
    Hr a0 v11 x13 ((a0.Segments.drop p23.1).take (p23.2 - p23.1)) (((a0.Segments.drop p23.1).take (p23.2 - p23.1)).length:X) (En a0 n) bigN (0:X))
   else(
    O E))
   else(
   O E)))
  else(
  O E))
 else(
  O E))
 else(
 O F)
def Hq(a0:X1):Z→X→W Y
| 0,_=>U
| n+1,v3=>
 if(decide (v3<(a0.Points.length:X))) then(
 (ix a0.Points v3).bind fun x5=>
 (JT x5.Name).bind fun r6=>
 if r6 then(
  (LZ a0 x5.Name).bind fun r9=>
  if(r9 !=v3) then(
  O E)
  else(
  Hq a0 n (zM .i64 (v3+(1:X)))))
 else(
  O E))
 else(
 En a0 bigN (0:X))
def DB(a0:X1):W Y:=
if(decide ((8:X)<(a0.Points.length:X))) then(
 O E)
else(
 if(decide ((10:X)<(a0.Segments.length:X))) then(
 O E)
 else(
 Hq a0 bigN (0:X)))
/- impl_ShipOk -/
def Eo(a0:X4):W Y:=
(JT a0.Name).bind fun r1=>
if r1 then(
 (BN a0.Length (10:X) (400:X)).bind fun r3=>
 if r3 then(
 (BN a0.Draught (100:X) (2000:X)).bind fun r5=>
 if r5 then(
  (Bz a0.Line (4:X)).bind fun r7=>
  if r7 then(
  (BN a0.Tugs (0:X) (4:X)).bind fun r9=>
  O r9)
  else(
  O E))
 else(
  O E))
 else(
 O E))
else(
 O E)
/- impl_ShipNamed -/
def HH(a1:V zA)(a0:V X4):Z→X→W X
| 0,_=>U
| n+1,v1=>
 if(decide (v1<(a0.length:X))) then(
 (ix a0 v1).bind fun x3=>
 if(x3.Name==a1) then(
  O v1)
 else(
  HH a1 a0 n (zM .i64 (v1+(1:X)))))
 else(
 O (-1:X))
def M2(a0:V X4)(a1:V zA):W X:=
HH a1 a0 bigN (0:X)
/- impl_FleetOk -/
def HA(a0:V X4):Z→X→W Y
| 0,_=>U
| n+1,v2=>
 if(decide (v2<(a0.length:X))) then(
 (ix a0 v2).bind fun x4=>
 (Eo x4).bind fun r5=>
 if r5 then(
  (M2 a0 x4.Name).bind fun r7=>
  if(r7 !=v2) then(
  O E)
  else(
  HA a0 n (zM .i64 (v2+(1:X)))))
 else(
  O E))
 else(
 O F)
def JR(a0:V X4):W Y:=
if(decide ((6:X)<(a0.length:X))) then(
 O E)
else(
 HA a0 bigN (0:X))
/- impl_RegimeOk -/
def Pj(a0:Xi):W Y:=
(BN a0.Gap (0:X) (60:X)).bind fun r1=>
O r1
/- impl_movesOk -/
def Gp(a0:V X):Z→X→W Y
| 0,_=>U
| n+1,v2=>
 if(decide (v2<(a0.length:X))) then(
 (ix a0 v2).bind fun x4=>
 (BN x4 (0:X) (240:X)).bind fun r5=>
 if r5 then(
  Gp a0 n (zM .i64 (v2+(1:X))))
 else(
  O E))
 else(
 O F)
def Gn(a0:V X):W Y:=
if((a0.length:X) !=(64:X)) then(
 O E)
else(
 Gp a0 bigN (0:X))
/- impl_CrewOk -/
def LK(a0:Xn):W Y:=
(BN a0.Tugs (0:X) (12:X)).bind fun r1=>
if r1 then(
 (BN a0.Pilots (0:X) (12:X)).bind fun r3=>
 if r3 then(
 (D4 a0.Rest).bind fun r5=>
 if r5 then(
  (Gn a0.Moves).bind fun r7=>
  O r7)
 else(
  O E))
 else(
 O E))
else(
 O E)
/- impl_HarbourOk -/
def JS(a0:X6):W Y:=
(Gf a0.Forecast).bind fun r1=>
if r1 then(
 (DB a0.Chart).bind fun r3=>
 if r3 then(
 (JR a0.Fleet).bind fun r5=>
 if r5 then(
  (Pj a0.Regime).bind fun r7=>
  if r7 then(
  (LK a0.Crew).bind fun r9=>
  O r9)
  else(
  O E))
 else(
  O E))
 else(
 O E))
else(
 O E)
/- impl_callOk -/
def JZ(a0:X6)(a1:Xa):W Y:=
(Bz a1.Ship (a0.Fleet.length:X)).bind fun r1=>
if r1 then(
 (Bz a1.From (a0.Chart.Points.length:X)).bind fun r3=>
 if r3 then(
 (Bz a1.To (a0.Chart.Points.length:X)).bind fun r5=>
 if r5 then(
  if(a1.From !=a1.To) then(
  (D4 a1.Ready).bind fun r9=>
  if r9 then(
   (BN a1.Due a1.Ready (2880:X)).bind fun r11=>
   O r11)
  else(
   O E))
  else(
  O E))
 else(
  O E))
 else(
 O E))
else(
 O E)
/- impl_CallsOk -/
def F6(a1:V Xa)(v4:X)(a0:X6)(x6:Xa)(y10:V Xa)(y11:X)(NV:X→W Y):Z→X→W Y
| 0,_=>U
| n+1,v12=>
 if(decide (v12<y11)) then(
 (ix y10 v12).bind fun x14=>
 if(x14.Ship==x6.Ship) then(
  O E)
 else(
  F6 a1 v4 a0 x6 y10 y11 NV n (zM .i64 (v12+(1:X)))))
 else(
 NV (zM .i64 (v4+(1:X))))
def DX(a1:V Xa)(a0:X6):Z→X→W Y
| 0,_=>U
| n+1,v4=>
 if(decide (v4<(a1.length:X))) then(
 (ix a1 v4).bind fun x6=>
 (JZ a0 x6).bind fun r7=>
 if r7 then(
  (bnd (a1.length:X) v4 (0:X) a1.length).bind fun p9=>
  F6 a1 v4 a0 x6 ((a1.drop p9.1).take (p9.2 - p9.1)) (((a1.drop p9.1).take (p9.2 - p9.1)).length:X) (DX a1 a0 n) bigN (0:X))
 else(
  O E))
 else(
 O F)
def LJ(a0:X6)(a1:V Xa):W Y:=
(JS a0).bind fun r1=>
if r1 then(
 if(decide ((6:X)<(a1.length:X))) then(
 O E)
 else(
 DX a1 a0 bigN (0:X)))
else(
 O E)
/- impl_CallOk -/
def LI(a0:X6)(a1:Xa):W Y:=
(JS a0).bind fun r1=>
if r1 then(
 (JZ a0 a1).bind fun r3=>
 O r3)
else(
 O E)
/- impl_clone_int -/
def BD(a0:V X):W (V X):=
(Br (0:X) (a0.length:X) 8).bind fun n1=>
if A3 (zG n1 (0:X)).length a0.length 8 then(
 O ((zG n1 (0:X))++a0))
else U
/- impl_Segment_end -/
def JX(a0:X2)(a1:X):W X:=
if(a1==a0.A) then(
 O a0.B)
else(
 if(a1==a0.B) then(
 O a0.A)
 else(
 O (-1:X)))
/- impl_Chart_routesFrom -/
def Hv(rec_:X1→X→X→(V X)→X8→(V (V X))→W (V (V X)))(a1 a2:X)(a3:V X)(v6 r11:X)(a0:X1)(y7:X8)(v8:V (V X))(NX:X→(V (V X))→W (V (V X)))(v16:Y):W (V (V X)):=
if v16 then(
 (BD a3).bind fun r18=>
 if A3 r18.length ([v6]:V X).length 8 then(
 (rec_ a0 r11 a2 (r18++([v6]:V X)) y7 v8).bind fun r20=>
 NX (zM .i64 (v6+(1:X))) r20)
 else U)
else(
 NX (zM .i64 (v6+(1:X))) v8)
def Gd(rec_:X1→X→X→(V X)→X8→(V (V X))→W (V (V X)))(a1 a2:X)(a3:V X)(a0:X1)(y7:X8):Z→X→(V (V X))→W (V (V X))
| 0,_,_=>U
| n+1,v6,v8=>
 if(decide (v6<(a0.Segments.length:X))) then(
 (ix a0.Segments v6).bind fun x10=>
 (JX x10 a1).bind fun r11=>
 if(decide ((0:X)≤r11)) then(
  if decide ((0:X)≤r11)&&decide (r11<(8:X)) then(
  (ix ([y7.i0,y7.i1,y7.i2,y7.i3,y7.i4,y7.i5,y7.i6,y7.i7]:V Y) r11).bind fun x14=>
  Hv rec_ a1 a2 a3 v6 r11 a0 y7 v8 (Gd rec_ a1 a2 a3 a0 y7 n) (!x14))
  else U)
 else(
  Hv rec_ a1 a2 a3 v6 r11 a0 y7 v8 (Gd rec_ a1 a2 a3 a0 y7 n) E))
 else(
 O v8)
def Pf(rec_:X1→X→X→(V X)→X8→(V (V X))→W (V (V X)))(a0:X1)(a1 a2:X)(a3:V X)(a4:X8)(a5:V (V X)):W (V (V X)):=
if(a1==a2) then(
 (BD a3).bind fun r2=>
 if A3 a5.length ([r2]:V (V X)).length 24 then(
 O (a5++([r2]:V (V X))))
 else U)
else(
 if decide ((0:X)≤a1)&&decide (a1<(8:X)) then(
 Gd rec_ a1 a2 a3 a0 (⟨((X8.set a4 (zB a1) F)).i0,((X8.set a4 (zB a1) F)).i1,((X8.set a4 (zB a1) F)).i2,((X8.set a4 (zB a1) F)).i3,((X8.set a4 (zB a1) F)).i4,((X8.set a4 (zB a1) F)).i5,((X8.set a4 (zB a1) F)).i6,((X8.set a4 (zB a1) F)).i7⟩:X8) bigN (0:X) a5)
 else U)
def Ge:Z→X1→X→X→(V X)→X8→(V (V X))→W (V (V X))
| 0,_,_,_,_,_,_=>U
| n+1,a0,a1,a2,a3,a4,a5=>Pf (Ge n) a0 a1 a2 a3 a4 a5
def RG(a0:X1)(a1 a2:X)(a3:V X)(a4:X8)(a5:V (V X)):W (V (V X)):=Ge bigN a0 a1 a2 a3 a4 a5
/- impl_RoutesBetween -/
def M0(a0:X1)(a1 a2:X):W (V (V X)):=
(DB a0).bind fun r1=>
if r1 then(
 (Bz a1 (a0.Points.length:X)).bind fun r3=>
 if r3 then(
 (Bz a2 (a0.Points.length:X)).bind fun r5=>
 if r5 then(
  (RG a0 a1 a2 ([]:V X) (⟨E,E,E,E,E,E,E,E⟩:X8) ([]:V (V X))).bind fun r7=>
  O r7)
 else(
  O ([]:V (V X))))
 else(
 O ([]:V (V X))))
else(
 O ([]:V (V X)))
/- impl_RouteMinutes -/
def HG(a1:V X)(a0:X1):Z→X→X→W X
| 0,_,_=>U
| n+1,v3,v4=>
 if(decide (v4<(a1.length:X))) then(
 (ix a1 v4).bind fun x6=>
 (Bz x6 (a0.Segments.length:X)).bind fun r7=>
 if r7 then(
  (ix a0.Segments x6).bind fun x9=>
  HG a1 a0 n (zM .i64 (v3+x9.Minutes)) (zM .i64 (v4+(1:X))))
 else(
  O (-1:X)))
 else(
 O v3)
def Gj(a0:X1)(a1:V X):W X:=
(DB a0).bind fun r1=>
if r1 then(
 HG a1 a0 bigN (0:X) (0:X))
else(
 O (-1:X))
/- impl_BestRoute -/
def F5(r1:(V (V X)))(a0:X1):Z→(V X)→X→W ((V X) × Y)
| 0,_,_=>U
| n+1,v4,v5=>
 if(decide (v5<(r1.length:X))) then(
 (ix r1 v5).bind fun x7=>
 (Gj a0 x7).bind fun r9=>
 (Gj a0 v4).bind fun r10=>
 if(decide (r9<r10)) then(
  F5 r1 a0 n x7 (zM .i64 (v5+(1:X))))
 else(
  F5 r1 a0 n v4 (zM .i64 (v5+(1:X)))))
 else(
 O (v4,F))
def LH(a0:X1)(a1 a2:X):W ((V X) × Y):=
(M0 a0 a1 a2).bind fun r1=>
if((r1.length:X)==(0:X)) then(
 O (([]:V X),E))
else(
 (ix r1 (0:X)).bind fun x3=>
 F5 r1 a0 bigN x3 (0:X))
/- impl_Chart_points -/
def Hu(r14:X)(a2:V X)(v6:X)(a0:X1)(v7:X8)(v8:V X)(Qi:X→X→X8→(V X)→W ((V X) × Y))(v19:Y):W ((V X) × Y):=
if v19 then(
 O (([]:V X),E))
else(
 if decide ((0:X)≤r14)&&decide (r14<(8:X)) then(
 if A3 v8.length ([r14]:V X).length 8 then(
  Qi r14 (zM .i64 (v6+(1:X))) (⟨((X8.set v7 (zB r14) F)).i0,((X8.set v7 (zB r14) F)).i1,((X8.set v7 (zB r14) F)).i2,((X8.set v7 (zB r14) F)).i3,((X8.set v7 (zB r14) F)).i4,((X8.set v7 (zB r14) F)).i5,((X8.set v7 (zB r14) F)).i6,((X8.set v7 (zB r14) F)).i7⟩:X8) (v8++([r14]:V X)))
 else U)
 else U)
def Gc(a2:V X)(a0:X1):Z→X→X→X8→(V X)→W ((V X) × Y)
| 0,_,_,_,_=>U
| n+1,v5,v6,v7,v8=>
 if(decide (v6<(a2.length:X))) then(
 (ix a2 v6).bind fun x10=>
 (Bz x10 (a0.Segments.length:X)).bind fun r11=>
 if r11 then(
  (ix a0.Segments x10).bind fun x13=>
  (JX x13 v5).bind fun r14=>
  if(decide (r14<(0:X))) then(
  Hu r14 a2 v6 a0 v7 v8 (Gc a2 a0 n) F)
  else(
  if decide ((0:X)≤r14)&&decide (r14<(8:X)) then(
   (ix ([v7.i0,v7.i1,v7.i2,v7.i3,v7.i4,v7.i5,v7.i6,v7.i7]:V Y) r14).bind fun x17=>
   Hu r14 a2 v6 a0 v7 v8 (Gc a2 a0 n) x17)
  else U))
 else(
  O (([]:V X),E)))
 else(
 O (v8,F))
def Ht(a0:X1)(a1:X)(a2:V X):W ((V X) × Y):=
(Bz a1 (a0.Points.length:X)).bind fun r1=>
if r1 then(
 if decide ((0:X)≤a1)&&decide (a1<(8:X)) then(
 Gc a2 a0 bigN a1 (0:X) (⟨((X8.set (⟨E,E,E,E,E,E,E,E⟩:X8) (zB a1) F)).i0,((X8.set (⟨E,E,E,E,E,E,E,E⟩:X8) (zB a1) F)).i1,((X8.set (⟨E,E,E,E,E,E,E,E⟩:X8) (zB a1) F)).i2,((X8.set (⟨E,E,E,E,E,E,E,E⟩:X8) (zB a1) F)).i3,((X8.set (⟨E,E,E,E,E,E,E,E⟩:X8) (zB a1) F)).i4,((X8.set (⟨E,E,E,E,E,E,E,E⟩:X8) (zB a1) F)).i5,((X8.set (⟨E,E,E,E,E,E,E,E⟩:X8) (zB a1) F)).i6,((X8.set (⟨E,E,E,E,E,E,E,E⟩:X8) (zB a1) F)).i7⟩:X8) ([a1]:V X))
 else U)
else(
 O (([]:V X),E))
/- impl_RoutePoints -/
def DY(a0:X1)(a1:X)(a2:V X):W (V X):=
(DB a0).bind fun r1=>
if r1 then(
 (Ht a0 a1 a2).bind fun r3=>
 O r3.1)
else(
 O ([]:V X))
/- impl_RouteOk -/
def F9(a0:X1)(a1:X)(a2:V X):W Y:=
(DB a0).bind fun r1=>
if r1 then(
 (Ht a0 a1 a2).bind fun r3=>
 O r3.2)
else(
 O E)
/- impl_Ship_minutes -/
def Fa(a0:X4)(a1:X2):W X:=
if a0.Slow then(
 O (zM .i64 ((2:X)*a1.Minutes)))
else(
 O a1.Minutes)
/- impl_onSegment -/
def HR(a0:X1)(a1:X)(a2:X4):W Y:=
(DB a0).bind fun r1=>
if r1 then(
 (Eo a2).bind fun r3=>
 if r3 then(
 (Bz a1 (a0.Segments.length:X)).bind fun r5=>
 O r5)
 else(
 O E))
else(
 O E)
/- impl_Ship_squat -/
def Pl(a0:X4):W X:=
if a0.Slow then(
 O (zM .i64 (zE a0.Draught (50:X))))
else(
 O (zM .i64 (zE a0.Draught (20:X))))
/- impl_Ship_need -/
def Pk(a0:X4):W X:=
(Pl a0).bind fun r1=>
O (zM .i64 ((zM .i64 (a0.Draught+r1))+(50:X)))
/- impl_LevelFor -/
def LR(a0:X1)(a1:X)(a2:X4):W X:=
(HR a0 a1 a2).bind fun r1=>
if r1 then(
 (Pk a2).bind fun r3=>
 (ix a0.Segments a1).bind fun x4=>
 O (zM .i64 (r3 - x4.Depth)))
else(
 O (0:X))
/- impl_windowsOf -/
def HZ(a0:X→W Y)(v2:X)(FO:Y→X→(V X5)→W (V X5))(v11:Y)(v12:V X5):W (V X5):=
FO v11 (zM .i64 (v2+(1:X))) v12
def K7(a0:X→W Y)(v2:X)(FO:Y→X→(V X5)→W (V X5))(v9:V X5):W (V X5):=
(ix v9 (zM .i64 ((v9.length:X) - (1:X)))).bind fun x10=>
HZ a0 v2 FO F (v9.set (zB (zM .i64 ((v9.length:X) - (1:X)))) (⟨x10.From,v2⟩:X5))
def Fi(a0:X→W Y):Z→Y→X→(V X5)→W (V X5)
| 0,_,_,_=>U
| n+1,v1,v2,v3=>
 if(decide (v2≤(2880:X))) then(
 (a0 v2).bind fun r5=>
 if r5 then(
  if v1 then(
  K7 a0 v2 (Fi a0 n) v3)
  else(
  if A3 v3.length ([(⟨v2,(0:X)⟩:X5)]:V X5).length 16 then(
   K7 a0 v2 (Fi a0 n) (v3++([(⟨v2,(0:X)⟩:X5)]:V X5)))
  else U))
 else(
  HZ a0 v2 (Fi a0 n) E v3))
 else(
 O v3)
def Mm(a0:X→W Y):W (V X5):=
Fi a0 bigN E (0:X) ([]:V X5)
/- impl_Wave -/
def M6(a0 a1:X):W X:=
(K3 a1).bind fun r1=>
if r1 then(
 if a1==0 then U else
 if a1==0 then U else
 if(decide ((zM .i64 (zE a1 (2:X)))≤(zM .i64 (zI (zM .i64 ((zM .i64 (zI a0 a1))+a1)) a1)))) then(
 if(zM .i64 ((zM .i64 (zE a1 (2:X)))*(zM .i64 (zE a1 (2:X)))))==0 then U else
 O (zM .i64 (0 - (zM .i64 (zE (zM .i64 ((zM .i64 ((40000:X)*(zM .i64 ((zM .i64 (zI (zM .i64 ((zM .i64 (zI a0 a1))+a1)) a1)) - (zM .i64 (zE a1 (2:X)))))))*(zM .i64 ((zM .i64 (zE a1 (2:X))) - (zM .i64 ((zM .i64 (zI (zM .i64 ((zM .i64 (zI a0 a1))+a1)) a1)) - (zM .i64 (zE a1 (2:X))))))))) (zM .i64 ((zM .i64 (zE a1 (2:X)))*(zM .i64 (zE a1 (2:X))))))))))
 else(
 if(zM .i64 ((zM .i64 (zE a1 (2:X)))*(zM .i64 (zE a1 (2:X)))))==0 then U else
 O (zM .i64 (zE (zM .i64 ((zM .i64 ((40000:X)*(zM .i64 (zI (zM .i64 ((zM .i64 (zI a0 a1))+a1)) a1))))*(zM .i64 ((zM .i64 (zE a1 (2:X))) - (zM .i64 (zI (zM .i64 ((zM .i64 (zI a0 a1))+a1)) a1)))))) (zM .i64 ((zM .i64 (zE a1 (2:X)))*(zM .i64 (zE a1 (2:X)))))))))
else(
 O (0:X))
/- impl_Tide_level -/
def HJ(a1:X)(a0:Xl):Z→X→X→W X
| 0,_,_=>U
| n+1,v1,v2=>
 if(decide (v2<(a0.Parts.length:X))) then(
 (ix a0.Parts v2).bind fun x4=>
 (M6 (zM .i64 (a1+x4.Phase)) x4.Period).bind fun r5=>
 HJ a1 a0 n (zM .i64 (v1+(zM .i64 (zE (zM .i64 (x4.Amp*r5)) (10000:X))))) (zM .i64 (v2+(1:X))))
 else(
 O v1)
def Pn(a0:Xl)(a1:X):W X:=
HJ a1 a0 bigN a0.Mean (0:X)
/- impl_Forecast_surge -/
def F8(a1:X)(a0:Xd):Z→X→X→W X
| 0,_,_=>U
| n+1,v1,v2=>
 if(decide (v2<(a0.Surges.length:X))) then(
 (ix a0.Surges v2).bind fun x4=>
 if(decide (x4.From≤a1)) then(
  F8 a1 a0 n v2 (zM .i64 (v2+(1:X))))
 else(
  F8 a1 a0 n v1 (zM .i64 (v2+(1:X)))))
 else(
 O v1)
def LM(a0:Xd)(a1:X):W X:=
F8 a1 a0 bigN (0:X) (0:X)
/- impl_Forecast_low -/
def LL(a0:Xd)(a1:X):W X:=
(Pn a0.Tide a1).bind fun r1=>
(LM a0 a1).bind fun r2=>
(ix a0.Surges r2).bind fun x3=>
O (zM .i64 (r1+x3.Low))
/- impl_LowWindows_1 -/
def Pi(a0:X)(c0:Xd)(c1:X):W Y:=
(LL c0 a0).bind fun r1=>
O (decide (c1≤r1))
/- impl_LowWindows -/
def LS(a0:Xd)(a1:X):W (V X5):=
(Gf a0).bind fun r1=>
if r1 then(
 (Mm (fun z0=>Pi z0 a0 a1)).bind fun r3=>
 O r3)
else(
 O ([]:V X5))
/- impl_MinutesOn -/
def LU(a0:X1)(a1:X)(a2:X4):W X:=
(DB a0).bind fun r1=>
if r1 then(
 (Eo a2).bind fun r3=>
 if r3 then(
 (Bz a1 (a0.Segments.length:X)).bind fun r5=>
 if r5 then(
  (ix a0.Segments a1).bind fun x7=>
  (Fa a2 x7).bind fun r9=>
  O r9)
 else(
  O (0:X)))
 else(
 O (0:X)))
else(
 O (0:X))
/- impl_WindowsOk -/
def Fc(a0:V X5):Z→X→W Y
| 0,_=>U
| n+1,v1=>
 if(decide (v1<(a0.length:X))) then(
 (ix a0 v1).bind fun x3=>
 if(decide (x3.From<(0:X))) then(
  O E)
 else(
  if(decide (x3.To<x3.From)) then(
  O E)
  else(
  if(decide ((2880:X)<x3.To)) then(
   O E)
  else(
   if(decide ((0:X)<v1)) then(
   (ix a0 (zM .i64 (v1 - (1:X)))).bind fun x8=>
   if(decide (x3.From≤(zM .i64 (x8.To+(1:X))))) then(
    O E)
   else(
    Fc a0 n (zM .i64 (v1+(1:X)))))
   else(
   Fc a0 n (zM .i64 (v1+(1:X))))))))
 else(
 O F)
def JY(a0:V X5):W Y:=
Fc a0 bigN (0:X)
/- impl_ShrinkWindows -/
def Fb(a1:X)(a0:V X5):Z→X→(V X5)→W (V X5)
| 0,_,_=>U
| n+1,v5,v6=>
 if(decide (v5<(a0.length:X))) then(
 (ix a0 v5).bind fun x8=>
 if(decide (a1≤(zM .i64 (x8.To - x8.From)))) then(
  if A3 v6.length ([(⟨x8.From,(zM .i64 (x8.To - a1))⟩:X5)]:V X5).length 16 then(
  Fb a1 a0 n (zM .i64 (v5+(1:X))) (v6++([(⟨x8.From,(zM .i64 (x8.To - a1))⟩:X5)]:V X5)))
  else U)
 else(
  Fb a1 a0 n (zM .i64 (v5+(1:X))) v6))
 else(
 O v6)
def Pm(a0:V X5)(a1:X):W (V X5):=
(JY a0).bind fun r1=>
if r1 then(
 (D4 a1).bind fun r3=>
 if r3 then(
 Fb a1 a0 bigN (0:X) ([]:V X5))
 else(
 O ([]:V X5)))
else(
 O ([]:V X5))
/- impl_SureStarts -/
def M3(a0:Xd)(a1:X1)(a2:X)(a3:X4):W (V X5):=
(Gf a0).bind fun r1=>
if r1 then(
 (HR a1 a2 a3).bind fun r3=>
 if r3 then(
 (LR a1 a2 a3).bind fun r5=>
 (LS a0 r5).bind fun r6=>
 (LU a1 a2 a3).bind fun r7=>
 (Pm r6 r7).bind fun r9=>
 O r9)
 else(
 O ([]:V X5)))
else(
 O ([]:V X5))
/- impl_voyageOf -/
def HX(a4:V X)(a0:Xd)(a1:X1)(a2:X4)(y11:V X)(y12:X):Z→X→(V Y)→(V X)→(V (V X5))→W (Xk × Y)
| 0,_,_,_,_=>U
| n+1,v13,v14,v15,v16=>
 if(decide (v13<y12)) then(
 (ix y11 v13).bind fun x18=>
 (ix a1.Points x18).bind fun x19=>
 if A3 v14.length ([x19.Wait]:V Y).length 1 then(
  (ix a4 v13).bind fun x21=>
  (ix a1.Segments x21).bind fun x22=>
  (Fa a2 x22).bind fun r23=>
  if A3 v15.length ([r23]:V X).length 8 then(
  (M3 a0 a1 x21 a2).bind fun r25=>
  if A3 v16.length ([r25]:V (V X5)).length 24 then(
   HX a4 a0 a1 a2 y11 y12 n (zM .i64 (v13+(1:X))) (v14++([x19.Wait]:V Y)) (v15++([r23]:V X)) (v16++([r25]:V (V X5))))
  else U)
  else U)
 else U)
 else(
 O ((⟨v14,v15,v16⟩:Xk),F))
def HW(a3:X)(a4:V X)(a0:Xd)(a1:X1)(a2:X4)(v7:Y):W (Xk × Y):=
if v7 then(
 O ((⟨([]:V Y),([]:V X),([]:V (V X5))⟩:Xk),E))
else(
 (DY a1 a3 a4).bind fun r9=>
 (bnd (r9.length:X) (a4.length:X) (0:X) r9.length).bind fun p10=>
 HX a4 a0 a1 a2 ((r9.drop p10.1).take (p10.2 - p10.1)) (((r9.drop p10.1).take (p10.2 - p10.1)).length:X) bigN (0:X) ([]:V Y) ([]:V X) ([]:V (V X5)))
def HV(a0:Xd)(a1:X1)(a2:X4)(a3:X)(a4:V X):W (Xk × Y):=
(Gf a0).bind fun r1=>
if r1 then(
 (Eo a2).bind fun r3=>
 if r3 then(
 (F9 a1 a3 a4).bind fun r5=>
 if r5 then(
  HW a3 a4 a0 a1 a2 ((a4.length:X)==(0:X)))
 else(
  HW a3 a4 a0 a1 a2 F))
 else(
 HW a3 a4 a0 a1 a2 F))
else(
 HW a3 a4 a0 a1 a2 F)
/- impl_callVoyage -/
def K0(a2:V X)(a0:X6)(a1:Xa)(v4:Y):W (Xk × Y):=
if v4 then(
 O ((⟨([]:V Y),([]:V X),([]:V (V X5))⟩:Xk),E))
else(
 (ix a0.Fleet a1.Ship).bind fun x6=>
 (HV a0.Forecast a0.Chart x6 a1.From a2).bind fun r7=>
 O (r7.1,r7.2))
def HM(a0:X6)(a1:Xa)(a2:V X):W (Xk × Y):=
(DY a0.Chart a1.From a2).bind fun r1=>
if((r1.length:X)==(0:X)) then(
 K0 a2 a0 a1 F)
else(
 (ix r1 (zM .i64 ((r1.length:X) - (1:X)))).bind fun x3=>
 K0 a2 a0 a1 (x3 !=a1.To))
/- impl_HasMinute -/
def HC(a1:X)(a0:V X5):Z→X→W Y
| 0,_=>U
| n+1,v1=>
 if(decide (v1<(a0.length:X))) then(
 (ix a0 v1).bind fun x3=>
 (BN a1 x3.From x3.To).bind fun r4=>
 if r4 then(
  O F)
 else(
  HC a1 a0 n (zM .i64 (v1+(1:X)))))
 else(
 O E)
def LN(a0:V X5)(a1:X):W Y:=
HC a1 a0 bigN (0:X)
/- impl_NextMinute -/
def HD(a1:X)(a0:V X5):Z→X→W X
| 0,_=>U
| n+1,v3=>
 if(decide (v3<(a0.length:X))) then(
 (ix a0 v3).bind fun x5=>
 if(decide (a1≤x5.To)) then(
  O (if x5.From<a1 then a1 else x5.From))
 else(
  HD a1 a0 n (zM .i64 (v3+(1:X)))))
 else(
 O (-1:X))
def LV(a0:V X5)(a1:X):W X:=
(JY a0).bind fun r1=>
if r1 then(
 HD a1 a0 bigN (0:X))
else(
 O (-1:X))
/- impl_voyage_sail -/
def HY(v4 r10:X)(a0:Xk)(v5:V X)(Ql:X→(V X)→W ((V X) × Y))(v14:Y):W ((V X) × Y):=
if v14 then(
 O (([]:V X),E))
else(
 if A3 v5.length ([r10]:V X).length 8 then(
 Ql (zM .i64 (v4+(1:X))) (v5++([r10]:V X)))
 else U)
def Et(a0:Xk):Z→X→(V X)→W ((V X) × Y)
| 0,_,_=>U
| n+1,v4,v5=>
 if(decide (v4<(a0.sure.length:X))) then(
 (ix v5 (zM .i64 (v4 - (1:X)))).bind fun x7=>
 (ix a0.minutes (zM .i64 (v4 - (1:X)))).bind fun x8=>
 (ix a0.sure v4).bind fun x9=>
 (LV x9 (zM .i64 (x7+x8))).bind fun r10=>
 if(decide (r10<(0:X))) then(
  HY v4 r10 a0 v5 (Et a0 n) F)
 else(
  if(decide ((zM .i64 (x7+x8))<r10)) then(
  (ix a0.waits v4).bind fun x13=>
  HY v4 r10 a0 v5 (Et a0 n) (!x13))
  else(
  HY v4 r10 a0 v5 (Et a0 n) E)))
 else(
 O (v5,F))
def Mj(a0:Xk)(a1:X):W ((V X) × Y):=
(ix a0.sure (0:X)).bind fun x1=>
(LN x1 a1).bind fun r2=>
if r2 then(
 Et a0 bigN (1:X) ([a1]:V X))
else(
 O (([]:V X),E))
/- impl_PassagesOf -/
def HE(a1:X)(a5 a4:V X)(a0:X1)(a2:X4)(r6:(V X)):Z→X→(V X3)→W (V X3)
| 0,_,_=>U
| n+1,v7,v8=>
 if(decide (v7<(a4.length:X))) then(
 (ix a4 v7).bind fun x10=>
 (ix a5 v7).bind fun x11=>
 (D4 x11).bind fun r12=>
 if r12 then(
  (ix a0.Segments x10).bind fun x14=>
  (ix r6 v7).bind fun x15=>
  (Fa a2 x14).bind fun r16=>
  if A3 v8.length ([(⟨a1,x10,(x15==x14.A),x11,(zM .i64 (x11+r16))⟩:X3)]:V X3).length 40 then(
  HE a1 a5 a4 a0 a2 r6 n (zM .i64 (v7+(1:X))) (v8++([(⟨a1,x10,(x15==x14.A),x11,(zM .i64 (x11+r16))⟩:X3)]:V X3)))
  else U)
 else(
  O ([]:V X3)))
 else(
 O v8)
def LY(a0:X1)(a1:X)(a2:X4)(a3:X)(a4 a5:V X):W (V X3):=
(F9 a0 a3 a4).bind fun r1=>
if r1 then(
 (Eo a2).bind fun r3=>
 if r3 then(
 if((a4.length:X) !=(a5.length:X)) then(
  O ([]:V X3))
 else(
  (DY a0 a3 a4).bind fun r6=>
  HE a1 a5 a4 a0 a2 r6 bigN (0:X) ([]:V X3)))
 else(
 O ([]:V X3)))
else(
 O ([]:V X3))
/- impl_ArrivalOf -/
def LG(a0:X1)(a1:X4)(a2 a3:V X):W X:=
(Gj a0 a2).bind fun r1=>
if(decide (r1<(0:X))) then(
 O (-1:X))
else(
 (Eo a1).bind fun r3=>
 if r3 then(
 if((a2.length:X)==(0:X)) then(
  O (-1:X))
 else(
  if((a2.length:X) !=(a3.length:X)) then(
  O (-1:X))
  else(
  (ix a3 (zM .i64 ((a2.length:X) - (1:X)))).bind fun x7=>
  (D4 x7).bind fun r9=>
  if r9 then(
   (ix a2 (zM .i64 ((a2.length:X) - (1:X)))).bind fun x11=>
   (ix a0.Segments x11).bind fun x12=>
   (Fa a1 x12).bind fun r13=>
   O (zM .i64 (x7+r13)))
  else(
   O (-1:X)))))
 else(
 O (-1:X)))
/- impl_option -/
def Gq(a2:Xk)(a4 r5:X)(r4:(V X3)):Z→X→X→W (X0 × Y)
| 0,_,_=>U
| n+1,v6,v7=>
 if(decide (v6<(a2.minutes.length:X))) then(
 (ix a2.minutes v6).bind fun x9=>
 Gq a2 a4 r5 r4 n (zM .i64 (v6+(1:X))) (zM .i64 (v7 - x9)))
 else(
 O ((⟨a4,r5,v7,r4⟩:X0),(decide (r5≤(2880:X)))))
def HS(a0:X6)(a1:Xa)(a2:Xk)(a3:V X)(a4:X):W (X0 × Y):=
(Mj a2 a4).bind fun r1=>
if r1.2 then(
 (ix a0.Fleet a1.Ship).bind fun x3=>
 (LY a0.Chart a1.Ship x3 a1.From a3 r1.1).bind fun r4=>
 (LG a0.Chart x3 a3 r1.1).bind fun r5=>
 Gq a2 a4 r5 r4 bigN (0:X) (zM .i64 (r5 - a1.Ready)))
else(
 O ((⟨(0:X),(0:X),(0:X),([]:V X3)⟩:X0),E))
/- impl_OptionsOf -/
def JU(r3:(V X) × Y)(v7:X)(a0:X6)(a1:Xa)(r4:Xk × Y)(Qj:X→(V X0)→W (V X0))(v14:V X0):W (V X0):=
Qj (zM .i64 (v7+(15:X))) v14
def Gi(r3:(V X) × Y)(a0:X6)(a1:Xa)(r4:Xk × Y):Z→X→(V X0)→W (V X0)
| 0,_,_=>U
| n+1,v7,v8=>
 if(decide (v7≤a1.Due)) then(
 if(decide ((v8.length:X)<(8:X))) then(
  (HS a0 a1 r4.1 r3.1 v7).bind fun r11=>
  if r11.2 then(
  if A3 v8.length ([r11.1]:V X0).length 48 then(
   JU r3 v7 a0 a1 r4 (Gi r3 a0 a1 r4 n) (v8++([r11.1]:V X0)))
  else U)
  else(
  JU r3 v7 a0 a1 r4 (Gi r3 a0 a1 r4 n) v8))
 else(
  O v8))
 else(
 O v8)
def De(a0:X6)(a1:Xa):W (V X0):=
(LI a0 a1).bind fun r1=>
if r1 then(
 (LH a0.Chart a1.From a1.To).bind fun r3=>
 (HM a0 a1 r3.1).bind fun r4=>
 if r3.2 then(
 if r4.2 then(
  Gi r3 a0 a1 r4 bigN a1.Ready ([]:V X0))
 else(
  O ([]:V X0)))
 else(
 O ([]:V X0)))
else(
 O ([]:V X0))
/- impl_allOptions -/
def HL(a1:V Xa)(a0:X6):Z→X→(V (V X0))→W (V (V X0))
| 0,_,_=>U
| n+1,v1,v2=>
 if(decide (v1<(a1.length:X))) then(
 (ix a1 v1).bind fun x4=>
 (De a0 x4).bind fun r5=>
 if A3 v2.length ([r5]:V (V X0)).length 24 then(
  HL a1 a0 n (zM .i64 (v1+(1:X))) (v2++([r5]:V (V X0))))
 else U)
 else(
 O v2)
def Po(a0:X6)(a1:V Xa):W (V (V X0)):=
HL a1 a0 bigN (0:X) ([]:V (V X0))
/- impl_weight_less -/
def Ml(a0 a1:Xj):W Y:=
if(decide (a0.i0<a1.i0)) then(
 O F)
else(
 if(a0.i0==a1.i0) then(
 O (decide (a0.i1<a1.i1)))
 else(
 O E))
/- impl_Overlaps -/
def JV(a0 a1:X3):W Y:=
O (decide ((if a0.Start<a1.Start then a1.Start else a0.Start)<(if a1.End<a0.End then a1.End else a0.End)))
/- impl_near -/
def K6(a0 a1 a2:X):W Y:=
O (decide ((IntKind.u64.wrap ((IntKind.u64.wrap (if a0<a1 then a1 else a0)) - (IntKind.u64.wrap (if a1<a0 then a1 else a0))))<(IntKind.u64.wrap a2)))
/- impl_conflict -/
def Mb(a2 a3:X3)(v22:Y):W X:=
if v22 then(
 O (3:X))
else(
 if(decide (a2.Start<a3.Start)) then(
 if(decide (a3.End<a2.End)) then(
  O (4:X))
 else(
  if(decide (a3.Start<a2.Start)) then(
  if(decide (a2.End<a3.End)) then(
   O (4:X))
  else(
   O (0:X)))
  else(
  O (0:X))))
 else(
 if(decide (a3.Start<a2.Start)) then(
  if(decide (a2.End<a3.End)) then(
  O (4:X))
  else(
  O (0:X)))
 else(
  O (0:X))))
def HO(a1:Xi)(a2 a3:X3)(v15 v16:Y):W X:=
if v15 then(
 O (2:X))
else(
 if(a2.Toward==a3.Toward) then(
 (K6 a2.Start a3.Start a1.Gap).bind fun r19=>
 if r19 then(
  Mb a2 a3 F)
 else(
  (K6 a2.End a3.End a1.Gap).bind fun r21=>
  Mb a2 a3 r21))
 else(
 O (0:X)))
def Ma(a0:X1)(a1:Xi)(a2 a3:X3)(v7:Y):W X:=
if v7 then(
 O (1:X))
else(
 if(a2.Ship==a3.Ship) then(
 O (0:X))
 else(
 if(a2.Toward==a3.Toward) then(
  HO a1 a2 a3 E a1.NoMeet)
 else(
  (JV a2 a3).bind fun r11=>
  if r11 then(
  if a1.NoMeet then(
   HO a1 a2 a3 F F)
  else(
   (ix a0.Segments a2.Segment).bind fun x14=>
   HO a1 a2 a3 (!x14.Meet) E))
  else(
  HO a1 a2 a3 E a1.NoMeet))))
def M9(a0:X1)(a1:Xi)(a2 a3:X3)(v3:Y):W X:=
if v3 then(
 O (0:X))
else(
 if(a2.Ship==a3.Ship) then(
 (JV a2 a3).bind fun r6=>
 Ma a0 a1 a2 a3 r6)
 else(
 Ma a0 a1 a2 a3 E))
def M8(a0:X1)(a1:Xi)(a2 a3:X3):W X:=
if(a2.Segment !=a3.Segment) then(
 M9 a0 a1 a2 a3 F)
else(
 (Bz a2.Segment (a0.Segments.length:X)).bind fun r2=>
 M9 a0 a1 a2 a3 (!r2))
/- impl_clashes -/
def HN(a3 a2:V X3)(v1:X)(a0:X1)(a1:Xi)(x3:X3)(NY:X→W Y):Z→X→W Y
| 0,_=>U
| n+1,v4=>
 if(decide (v4<(a3.length:X))) then(
 (ix a3 v4).bind fun x6=>
 (M8 a0 a1 x3 x6).bind fun r7=>
 if(r7 !=(0:X)) then(
  O F)
 else(
  HN a3 a2 v1 a0 a1 x3 NY n (zM .i64 (v4+(1:X)))))
 else(
 NY (zM .i64 (v1+(1:X))))
def Fe(a3 a2:V X3)(a0:X1)(a1:Xi):Z→X→W Y
| 0,_=>U
| n+1,v1=>
 if(decide (v1<(a2.length:X))) then(
 (ix a2 v1).bind fun x3=>
 HN a3 a2 v1 a0 a1 x3 (Fe a3 a2 a0 a1 n) bigN (0:X))
 else(
 O E)
def M7(a0:X1)(a1:Xi)(a2 a3:V X3):W Y:=
Fe a3 a2 a0 a1 bigN (0:X)
/- impl_clone_Option -/
def Er(a0:V X0):W (V X0):=
(Br (0:X) (a0.length:X) 48).bind fun n1=>
if A3 (zG n1 (⟨(0:X),(0:X),(0:X),([]:V X3)⟩:X0)).length a0.length 48 then(
 O ((zG n1 (⟨(0:X),(0:X),(0:X),([]:V X3)⟩:X0))++a0))
else U
/- impl_Passage_ends -/
def JW(a0:X3)(a1:X1):W (X × X):=
(ix a1.Segments a0.Segment).bind fun x1=>
if a0.Toward then(
 O (x1.A,x1.B))
else(
 O (x1.B,x1.A))
/- impl_duty -/
def K2(a0:X1)(a1 a2:X3):W Xb:=
(JW a1 a0).bind fun r1=>
(JW a2 a0).bind fun r2=>
O (⟨a1.Start,a2.End,r1.1,r2.2⟩:Xb)
/- impl_passageOk -/
def Mg(a0:X1)(a1:V X4)(a2:X3):W Y:=
(Bz a2.Ship (a1.length:X)).bind fun r1=>
if r1 then(
 (Bz a2.Segment (a0.Segments.length:X)).bind fun r3=>
 if r3 then(
 (D4 a2.Start).bind fun r5=>
 if r5 then(
  if(decide ((2880:X)<a2.End)) then(
  O E)
  else(
  (ix a1 a2.Ship).bind fun x8=>
  (ix a0.Segments a2.Segment).bind fun x9=>
  (Fa x8 x9).bind fun r10=>
  O (a2.End==(zM .i64 (a2.Start+r10)))))
 else(
  O E))
 else(
 O E))
else(
 O E)
/- impl_PassageOk -/
def LX(a0:X1)(a1:V X4)(a2:X3):W Y:=
(DB a0).bind fun r1=>
if r1 then(
 (JR a1).bind fun r3=>
 if r3 then(
 (Mg a0 a1 a2).bind fun r5=>
 O r5)
 else(
 O E))
else(
 O E)
/- impl_tugDuties -/
def Gr(a1:V X4)(a2:V X3)(v1:X)(x7:X4)(a0:X1)(x4:X3)(O0:X→(V Xb)→W ((V Xb) × Y)):Z→X→(V Xb)→W ((V Xb) × Y)
| 0,_,_=>U
| n+1,v8,v9=>
 if(decide (v8<x7.Tugs)) then(
 (K2 a0 x4 x4).bind fun r11=>
 if A3 v9.length ([r11]:V Xb).length 32 then(
  Gr a1 a2 v1 x7 a0 x4 O0 n (zM .i64 (v8+(1:X))) (v9++([r11]:V Xb)))
 else U)
 else(
 if(decide ((12:X)<(v9.length:X))) then(
  O (([]:V Xb),E))
 else(
  O0 (zM .i64 (v1+(1:X))) v9))
def Fh(a1:V X4)(a2:V X3)(a0:X1):Z→X→(V Xb)→W ((V Xb) × Y)
| 0,_,_=>U
| n+1,v1,v2=>
 if(decide (v1<(a2.length:X))) then(
 (ix a2 v1).bind fun x4=>
 (LX a0 a1 x4).bind fun r5=>
 if r5 then(
  (ix a1 x4.Ship).bind fun x7=>
  Gr a1 a2 v1 x7 a0 x4 (Fh a1 a2 a0 n) bigN (0:X) v2)
 else(
  O (([]:V Xb),E)))
 else(
 O (v2,F))
def Mi(a0:X1)(a1:V X4)(a2:V X3):W ((V Xb) × Y):=
Fh a1 a2 a0 bigN (0:X) ([]:V Xb)
/- impl_DutiesOk -/
def Hy(a0:V Xb):Z→X→W Y
| 0,_=>U
| n+1,v2=>
 if(decide (v2<(a0.length:X))) then(
 (ix a0 v2).bind fun x4=>
 if(decide (x4.From<(0:X))) then(
  O E)
 else(
  if(decide (x4.To≤x4.From)) then(
  O E)
  else(
  if(decide ((2880:X)<x4.To)) then(
   O E)
  else(
   (Bz x4.A (8:X)).bind fun r9=>
   if r9 then(
   (Bz x4.B (8:X)).bind fun r11=>
   if r11 then(
    Hy a0 n (zM .i64 (v2+(1:X))))
   else(
    O E))
   else(
   O E)))))
 else(
 O F)
def Hx(a0:V Xb):W Y:=
if(decide ((12:X)<(a0.length:X))) then(
 O E)
else(
 Hy a0 bigN (0:X))
/- impl_coverable -/
def Pp(a0:X)(a1:V X)(a2:V Xb):W Y:=
(Hx a2).bind fun r1=>
if r1 then(
 (D4 a0).bind fun r3=>
 if r3 then(
 (Gn a1).bind fun r5=>
 O r5)
 else(
 O E))
else(
 O E)
/- impl_Gap -/
def HB(a0:X)(a1:V X)(a2 a3:Xb)(v8:Y):W (X × Y):=
if v8 then(
 O ((0:X),E))
else(
 (ix a1 (zM .i64 ((zM .i64 ((8:X)*a2.B))+a3.A))).bind fun x10=>
 O ((zM .i64 (a0+x10)),F))
def Ph(a0:X)(a1:V X)(a2 a3:Xb):W (X × Y):=
(D4 a0).bind fun r1=>
if r1 then(
 (Gn a1).bind fun r3=>
 if r3 then(
 (Bz a2.B (8:X)).bind fun r5=>
 if r5 then(
  (Bz a3.A (8:X)).bind fun r7=>
  HB a0 a1 a2 a3 (!r7))
 else(
  HB a0 a1 a2 a3 F))
 else(
 HB a0 a1 a2 a3 F))
else(
 HB a0 a1 a2 a3 F)
/- impl_CanFollow -/
def JP(a0:X)(a1:V X)(a2 a3:Xb):W Y:=
(Ph a0 a1 a2 a3).bind fun r1=>
if r1.2 then(
 (Hx ([a2]:V Xb)).bind fun r3=>
 if r3 then(
 (Hx ([a3]:V Xb)).bind fun r5=>
 if r5 then(
  O (decide ((zM .i64 (a2.To+r1.1))≤a3.From)))
 else(
  O E))
 else(
 O E))
else(
 O E)
/- impl_partners -/
def HT(a0:X)(a1:V X)(a2:V Xb)(v2 v6:X)(x5:Xb)(v7:V X)(NZ:X→(V X)→W (V X))(v14:Y):W (V X):=
if v14 then(
 (ix v7 v2).bind fun x16=>
 if decide (v6<0) then U else
 NZ (zM .i64 (v6+(1:X))) (v7.set (zB v2) (Bf .or .u64 x16 (Bn .u64 (1:X) v6))))
else(
 NZ (zM .i64 (v6+(1:X))) v7)
def E0(a0:X)(a1:V X)(a2:V Xb)(v2:X)(x5:Xb)(IY:X→(V X)→W (V X)):Z→X→(V X)→W (V X)
| 0,_,_=>U
| n+1,v6,v7=>
 if(decide (v6<(a2.length:X))) then(
 (ix a2 v6).bind fun x9=>
 if(v2 !=v6) then(
  (JP a0 a1 x5 x9).bind fun r11=>
  if r11 then(
  HT a0 a1 a2 v2 v6 x5 v7 (E0 a0 a1 a2 v2 x5 IY n) F)
  else(
  (JP a0 a1 x9 x5).bind fun r13=>
  HT a0 a1 a2 v2 v6 x5 v7 (E0 a0 a1 a2 v2 x5 IY n) r13))
 else(
  HT a0 a1 a2 v2 v6 x5 v7 (E0 a0 a1 a2 v2 x5 IY n) E))
 else(
 IY (zM .i64 (v2+(1:X))) v7)
def Fg(a0:X)(a1:V X)(a2:V Xb):Z→X→(V X)→W (V X)
| 0,_,_=>U
| n+1,v2,v3=>
 if(decide (v2<(a2.length:X))) then(
 (ix a2 v2).bind fun x5=>
 E0 a0 a1 a2 v2 x5 (Fg a0 a1 a2 n) bigN (0:X) v3)
 else(
 O v3)
def Mf(a0:X)(a1:V X)(a2:V Xb):W (V X):=
(Br (a2.length:X) (a2.length:X) 8).bind fun n1=>
Fg a0 a1 a2 bigN (0:X) (zG n1 (0:X))
/- math_bits_Len64 -/
def Kn(v8 v9:X):W X:=
(ix ([0,1,2,2,3,3,3,3,4,4,4,4,4,4,4,4,5,5,5,5,5,5,5,5,5,5,5,5,5,5,5,5,6,6,6,6,6,6,6,6,6,6,6,6,6,6,6,6,6,6,6,6,6,6,6,6,6,6,6,6,6,6,6,6,7,7,7,7,7,7,7,7,7,7,7,7,7,7,7,7,7,7,7,7,7,7,7,7,7,7,7,7,7,7,7,7,7,7,7,7,7,7,7,7,7,7,7,7,7,7,7,7,7,7,7,7,7,7,7,7,7,7,7,7,7,7,7,7,8,8,8,8,8,8,8,8,8,8,8,8,8,8,8,8,8,8,8,8,8,8,8,8,8,8,8,8,8,8,8,8,8,8,8,8,8,8,8,8,8,8,8,8,8,8,8,8,8,8,8,8,8,8,8,8,8,8,8,8,8,8,8,8,8,8,8,8,8,8,8,8,8,8,8,8,8,8,8,8,8,8,8,8,8,8,8,8,8,8,8,8,8,8,8,8,8,8,8,8,8,8,8,8,8,8,8,8,8,8,8,8,8,8,8,8,8,8,8,8,8,8,8,8,8,8,8,8]:V zA) (IntKind.u8.wrap v8)).bind fun b10=>
O (zM .i64 (v9+(zM .i64 (b10.toNat:X))))
def MX(v5 v6:X):W X:=
if(decide ((256:X)≤v5)) then(
 Kn (CF .u64 v5 8) (zM .i64 (v6+(8:X))))
else(
 Kn v5 v6)
def MW(v2 v3:X):W X:=
if(decide ((65536:X)≤v2)) then(
 MX (CF .u64 v2 16) (zM .i64 (v3+(16:X))))
else(
 MX v2 v3)
def PI(a0:X):W X:=
if(decide ((4294967296:X)≤a0)) then(
 MW (CF .u64 a0 32) (32:X))
else(
 MW a0 (0:X))
/- math_bits_Len -/
def Km(a0:X):W X:=
(PI a0).bind fun r1=>
O r1
/- impl_leastPersons -/
def K5(a0:V X)(y5 v6:X)(v17 v18 v21:X)(v19:V Y)(CC:X→(V Y)→(V X)→W X)(Qk:X→(V X)→W X)(v28:V X):W X:=
if(v21==(0:X)) then(
 CC (zM .i64 (v6+(1:X))) v19 v28)
else(
 Qk (Bf .and .i64 (zM .i64 (v21 - (1:X))) v18) v28)
def Gm(a0:V X)(y5 v6:X)(v17 v18:X)(v19:V Y)(CC:X→(V Y)→(V X)→W X):Z→X→(V X)→W X
| 0,_,_=>U
| n+1,v21,v22=>
 if decide (v17<0) then U else
 (ix v19 (Bf .or .i64 v21 (Bn .i64 (1:X) v17))).bind fun x24=>
 if x24 then(
 (ix v22 v6).bind fun x26=>
 (ix v22 (Bf .andNot .i64 v18 v21)).bind fun x27=>
 K5 a0 y5 v6 v17 v18 v21 v19 CC (Gm a0 y5 v6 v17 v18 v19 CC n) (v22.set (zB v6) (if(zM .i64 ((1:X)+x27))<x26 then(zM .i64 ((1:X)+x27)) else x26)))
 else(
 K5 a0 y5 v6 v17 v18 v21 v19 CC (Gm a0 y5 v6 v17 v18 v19 CC n) v22)
def K4(a0:V X)(y5 v6:X)(v8:V X)(CC:X→(V Y)→(V X)→W X)(v17 v18:X)(v19:V Y):W X:=
(ix v8 v6).bind fun x20=>
Gm a0 y5 v6 v17 v18 v19 CC bigN v18 (v8.set (zB v6) (a0.length:X))
def Es(a0:V X)(y5:X):Z→X→(V Y)→(V X)→W X
| 0,_,_,_=>U
| n+1,v6,v7,v8=>
 if(decide (v6<y5)) then(
 (Km (IntKind.u64.wrap v6)).bind fun r10=>
 if decide ((zM .i64 (r10 - (1:X)))<0) then U else
 (ix v7 (Bf .andNot .i64 v6 (Bn .i64 (1:X) (zM .i64 (r10 - (1:X)))))).bind fun x12=>
 if x12 then(
  (ix a0 (zM .i64 (r10 - (1:X)))).bind fun x14=>
  (ix v7 v6).bind fun x15=>
  K4 a0 y5 v6 v8 (Es a0 y5 n) (zM .i64 (r10 - (1:X))) (Bf .andNot .i64 v6 (Bn .i64 (1:X) (zM .i64 (r10 - (1:X))))) (v7.set (zB v6) ((Bf .andNot .u64 (IntKind.u64.wrap (Bf .andNot .i64 v6 (Bn .i64 (1:X) (zM .i64 (r10 - (1:X)))))) x14)==(0:X))))
 else(
  (ix v7 v6).bind fun x16=>
  K4 a0 y5 v6 v8 (Es a0 y5 n) (zM .i64 (r10 - (1:X))) (Bf .andNot .i64 v6 (Bn .i64 (1:X) (zM .i64 (r10 - (1:X))))) (v7.set (zB v6) E)))
 else(
 (ix v8 (zM .i64 (y5 - (1:X)))).bind fun x30=>
 O x30)
def Me(a0:V X):W X:=
if decide ((a0.length:X)<0) then U else
(Br (Bn .i64 (1:X) (a0.length:X)) (Bn .i64 (1:X) (a0.length:X)) 1).bind fun n2=>
(Br (Bn .i64 (1:X) (a0.length:X)) (Bn .i64 (1:X) (a0.length:X)) 8).bind fun n3=>
(ix (zG n2 E) (0:X)).bind fun x4=>
Es a0 (Bn .i64 (1:X) (a0.length:X)) bigN (1:X) ((zG n2 E).set (zB (0:X)) F) (zG n3 (0:X))
/- impl_coverer_cover -/
def HP(rec_:Xg→W (Y × Xg))(a0:Xg)(v2:X)(EF:X→(V X)→X→(V X)→(V X)→W (Y × Xg))(v22:V X)(v23:X)(v24 v25:V X):W (Y × Xg):=
(ix v24 v2).bind fun x26=>
if(x26==(0:X)) then(
 (bnd (v24.length:X) v2 0 v24.length).bind fun p28=>
 O (E,(⟨v22,v23,(v24.take p28.2),v25⟩:Xg)))
else(
 EF (zM .i64 (v2+(1:X))) v22 v23 v24 v25)
def K1(rec_:Xg→W (Y × Xg))(a0:Xg)(v2:X)(v3:V X)(v4:X)(v6:V X)(EF:X→(V X)→X→(V X)→(V X)→W (Y × Xg))(v11:V X):W (Y × Xg):=
(ix v11 v2).bind fun x12=>
(ix v3 (a0.who.length:X)).bind fun x13=>
if((Bf .andNot .u64 x12 x13)==(0:X)) then(
 if decide ((a0.who.length:X)<0) then U else
 if A3 v6.length ([v2]:V X).length 8 then(
 (rec_ (⟨v3,v4,(v11.set (zB v2) (Bf .or .u64 x12 (Bn .u64 (1:X) (a0.who.length:X)))),(v6++([v2]:V X))⟩:Xg)).bind fun r17=>
 if r17.1 then(
  O (F,r17.2))
 else(
  (bnd (r17.2.who.length:X) (a0.who.length:X) 0 r17.2.who.length).bind fun p19=>
  (ix r17.2.groups v2).bind fun x20=>
  if decide ((a0.who.length:X)<0) then U else
  HP rec_ a0 v2 EF r17.2.sets r17.2.most (r17.2.groups.set (zB v2) (Bf .andNot .u64 x20 (Bn .u64 (1:X) (a0.who.length:X)))) (r17.2.who.take p19.2)))
 else U)
else(
 HP rec_ a0 v2 EF v3 v4 v11 v6)
def Ff(rec_:Xg→W (Y × Xg))(a0:Xg):Z→X→(V X)→X→(V X)→(V X)→W (Y × Xg)
| 0,_,_,_,_,_=>U
| n+1,v2,v3,v4,v5,v6=>
 if(decide (v2≤(v5.length:X))) then(
 if(decide (v2<v4)) then(
  if(v2==(v5.length:X)) then(
  if A3 v5.length ([(0:X)]:V X).length 8 then(
   K1 rec_ a0 v2 v3 v4 v6 (Ff rec_ a0 n) (v5++([(0:X)]:V X)))
  else U)
  else(
  K1 rec_ a0 v2 v3 v4 v6 (Ff rec_ a0 n) v5))
 else(
  O (E,(⟨v3,v4,v5,v6⟩:Xg))))
 else(
 O (E,(⟨v3,v4,v5,v6⟩:Xg)))
def Mc(rec_:Xg→W (Y × Xg))(a0:Xg):W (Y × Xg):=
if((a0.who.length:X)==(a0.sets.length:X)) then(
 O (F,a0))
else(
 Ff rec_ a0 bigN (0:X) a0.sets a0.most a0.groups a0.who)
def DZ:Z→Xg→W (Y × Xg)
| 0,_=>U
| n+1,a0=>Mc (DZ n) a0
def RH(a0:Xg):W (Y × Xg):=DZ bigN a0
/- impl_LeastCover -/
def LQ(a0:X)(a1:V X)(a2:V Xb):W ((V X) × X × Y):=
(Pp a0 a1 a2).bind fun r1=>
if r1 then(
 (Mf a0 a1 a2).bind fun r3=>
 (Me r3).bind fun r4=>
 (RH (⟨r3,r4,([]:V X),([]:V X)⟩:Xg)).bind fun r5=>
 O (r5.2.who,r5.2.most,F))
else(
 O (([]:V X),(0:X),E))
/- impl_coverFits -/
def Gk(a0:X)(a1:V X)(a2:V Xb)(a3:X):W Y:=
if(decide ((a2.length:X)≤a3)) then(
 O F)
else(
 (LQ a0 a1 a2).bind fun r2=>
 O (decide (r2.2.1≤a3)))
/- impl_crewFits -/
def Gl(a1:V X0)(a0:X6):Z→X→(V X3)→(V Xb)→W Y
| 0,_,_,_=>U
| n+1,v1,v2,v3=>
 if(decide (v1<(a1.length:X))) then(
 (ix a1 v1).bind fun x5=>
 if A3 v2.length x5.Passages.length 40 then(
  if(decide ((0:X)<(x5.Passages.length:X))) then(
  (ix x5.Passages (0:X)).bind fun x8=>
  (ix x5.Passages (zM .i64 ((x5.Passages.length:X) - (1:X)))).bind fun x9=>
  (K2 a0.Chart x8 x9).bind fun r10=>
  if A3 v3.length ([r10]:V Xb).length 32 then(
   Gl a1 a0 n (zM .i64 (v1+(1:X))) (v2++x5.Passages) (v3++([r10]:V Xb)))
  else U)
  else(
  Gl a1 a0 n (zM .i64 (v1+(1:X))) (v2++x5.Passages) v3))
 else U)
 else(
 (Mi a0.Chart a0.Fleet v2).bind fun r12=>
 if r12.2 then(
  (Gk (0:X) a0.Crew.Moves r12.1 a0.Crew.Tugs).bind fun r14=>
  if r14 then(
  (Gk a0.Crew.Rest a0.Crew.Moves v3 a0.Crew.Pilots).bind fun r16=>
  O r16)
  else(
  O E))
 else(
  O E))
def DC(a0:X6)(a1:V X0):W Y:=
Gl a1 a0 bigN (0:X) ([]:V X3) ([]:V Xb)
/- impl_fitsTo -/
def HQ(a1:V X0)(a0:X6)(a2:X0):Z→X→W Y
| 0,_=>U
| n+1,v1=>
 if(decide (v1<(a1.length:X))) then(
 (ix a1 v1).bind fun x3=>
 (M7 a0.Chart a0.Regime x3.Passages a2.Passages).bind fun r4=>
 if r4 then(
  O E)
 else(
  HQ a1 a0 a2 n (zM .i64 (v1+(1:X)))))
 else(
 (Er a1).bind fun r6=>
 if A3 r6.length ([a2]:V X0).length 48 then(
  (DC a0 (r6++([a2]:V X0))).bind fun r9=>
  O r9)
 else U)
def Md(a0:X6)(a1:V X0)(a2:X0):W Y:=
HQ a1 a0 a2 bigN (0:X)
/- impl_planner_search -/
def E1(w0:(V X0)→W Xj)(rec_:Xe→W Xe)(a0:Xe)(x8:V X0):Z→X→X6→(V (V X0))→X→X→Y→(V X0)→(V X)→(V X)→W Xe
| 0,_,_,_,_,_,_,_,_,_=>U
| n+1,v9,v10,v11,v12,v13,v14,v15,v16,v17=>
 if(decide (v9<(x8.length:X))) then(
 (ix x8 v9).bind fun x19=>
 (Md v10 v15 x19).bind fun r20=>
 if r20 then(
  if A3 v15.length ([x19]:V X0).length 48 then(
  if A3 v16.length ([v9]:V X).length 8 then(
   (rec_ (⟨v10,v11,(v15++([x19]:V X0)),(v16++([v9]:V X)),v17,(⟨v12,v13⟩:Xj),v14⟩:Xe)).bind fun r24=>
   (bnd (r24.plan.length:X) (a0.plan.length:X) 0 r24.plan.length).bind fun p25=>
   (bnd (r24.choice.length:X) (a0.plan.length:X) 0 r24.choice.length).bind fun p26=>
   E1 w0 rec_ a0 x8 n (zM .i64 (v9+(1:X))) r24.h r24.choices r24.least.i0 r24.least.i1 r24.found (r24.plan.take p25.2) (r24.choice.take p26.2) r24.best)
  else U)
  else U)
 else(
  E1 w0 rec_ a0 x8 n (zM .i64 (v9+(1:X))) v10 v11 v12 v13 v14 v15 v16 v17))
 else(
 O (⟨v10,v11,v15,v16,v17,(⟨v12,v13⟩:Xj),v14⟩:Xe))
def HU(w0:(V X0)→W Xj)(rec_:Xe→W Xe)(a0:Xe)(r1:Xj)(v5:Y):W Xe:=
if((a0.plan.length:X)==(a0.choices.length:X)) then(
 (BD a0.choice).bind fun r7=>
 O (⟨a0.h,a0.choices,a0.plan,a0.choice,r7,r1,F⟩:Xe))
else(
 (ix a0.choices (a0.plan.length:X)).bind fun x8=>
 E1 w0 rec_ a0 x8 bigN (0:X) a0.h a0.choices a0.least.i0 a0.least.i1 v5 a0.plan a0.choice a0.best)
def Mh(w0:(V X0)→W Xj)(rec_:Xe→W Xe)(a0:Xe):W Xe:=
(w0 a0.plan).bind fun r1=>
if a0.found then(
 (Ml r1 a0.least).bind fun r3=>
 if r3 then(
 HU w0 rec_ a0 r1 F)
 else(
 O (⟨a0.h,a0.choices,a0.plan,a0.choice,a0.best,a0.least,F⟩:Xe)))
else(
 HU w0 rec_ a0 r1 E)
def DD(w0:(V X0)→W Xj):Z→Xe→W Xe
| 0,_=>U
| n+1,a0=>Mh w0 (DD w0 n) a0
def RI(w0:(V X0)→W Xj)(a0:Xe):W Xe:=DD w0 bigN a0
/- impl_leastPlan -/
def Pq(a0:X6)(a1:V (V X0))(a2:(V X0)→W Xj):W ((V X) × Xj × Y):=
(RI a2 (⟨a0,a1,([]:V X0),([]:V X),([]:V X),(⟨(0:X),(0:X)⟩:Xj),E⟩:Xe)).bind fun r1=>
O (r1.best,r1.least,r1.found)
/- impl_account -/
def Ep(a1:V Xa)(a2:V X0)(a0:X6):Z→X→(V X)→(V X)→W Xo
| 0,_,_,_=>U
| n+1,v3,v4,v5=>
 if(decide (v3<(a2.length:X))) then(
 (ix a2 v3).bind fun x7=>
 (ix a1 v3).bind fun x8=>
 (ix a0.Fleet x8.Ship).bind fun x9=>
 (ix v4 x9.Line).bind fun x10=>
 (ix v5 x9.Line).bind fun x11=>
 Ep a1 a2 a0 n (zM .i64 (v3+(1:X))) (v4.set (zB x9.Line) (zM .i64 (x10+x7.Cost))) (v5.set (zB x9.Line) (zM .i64 (x11+(1:X)))))
 else(
 O (⟨v4,v5⟩:Xo))
def HK(a0:X6)(a1:V Xa)(a2:V X0):W Xo:=
(Br (4:X) (4:X) 8).bind fun n1=>
(Br (4:X) (4:X) 8).bind fun n2=>
Ep a1 a2 a0 bigN (0:X) (zG n1 (0:X)) (zG n2 (0:X))
/- impl_CostOf -/
def F7(a0:V X0):Z→X→X→W X
| 0,_,_=>U
| n+1,v1,v2=>
 if(decide (v2<(a0.length:X))) then(
 (ix a0 v2).bind fun x4=>
 F7 a0 n (zM .i64 (v1+x4.Cost)) (zM .i64 (v2+(1:X))))
 else(
 O v1)
def Pg(a0:V X0):W X:=
F7 a0 bigN (0:X) (0:X)
/- impl_FairPlan_1 -/
def Hz(a0:V X0)(r1:Xo):Z→X→X→W Xj
| 0,_,_=>U
| n+1,v2,v3=>
 if(decide (v3<(r1.Waits.length:X))) then(
 (ix r1.Waits v3).bind fun x5=>
 Hz a0 r1 n (if v2<x5 then x5 else v2) (zM .i64 (v3+(1:X))))
 else(
 (Pg a0).bind fun r6=>
 O (⟨v2,r6⟩:Xj))
def CX(a0:V X0)(c0:X6)(c1:V Xa):W Xj:=
(HK c0 c1 a0).bind fun r1=>
Hz a0 r1 bigN (0:X) (0:X)
/- impl_FairPlan -/
def JQ(a0:X6)(a1:V Xa):W ((V X) × X × Y):=
(LJ a0 a1).bind fun r1=>
if r1 then(
 (Po a0 a1).bind fun r3=>
 (Pq a0 r3 (fun z0=>CX z0 a0 a1)).bind fun r4=>
 O (r4.1,r4.2.1.i0,r4.2.2))
else(
 O (([]:V X),(0:X),E))
/- laws_eqIntS -/
def I1(a0 a1:V X):Z→X→W Y
| 0,_=>U
| n+1,v2=>
 if(decide (v2<(a0.length:X))) then(
 (ix a0 v2).bind fun x4=>
 (ix a1 v2).bind fun x5=>
 if(x4 !=x5) then(
  O E)
 else(
  I1 a0 a1 n (zM .i64 (v2+(1:X)))))
 else(
 O F)
def Fj(a0 a1:V X):W Y:=
if((a0.length:X) !=(a1.length:X)) then(
 O E)
else(
 I1 a0 a1 bigN (0:X))
/- laws_eqPart -/
def Mr(a0 a1:Xc):W Y:=
if(a0.Amp !=a1.Amp) then(
 O E)
else(
 if(a0.Period !=a1.Period) then(
 O E)
 else(
 if(a0.Phase !=a1.Phase) then(
  O E)
 else(
  O F)))
/- laws_eqPartS -/
def I2(a0 a1:V Xc):Z→X→W Y
| 0,_=>U
| n+1,v2=>
 if(decide (v2<(a0.length:X))) then(
 (ix a0 v2).bind fun x4=>
 (ix a1 v2).bind fun x5=>
 (Mr x4 x5).bind fun r6=>
 if r6 then(
  I2 a0 a1 n (zM .i64 (v2+(1:X))))
 else(
  O E))
 else(
 O F)
def Ms(a0 a1:V Xc):W Y:=
if((a0.length:X) !=(a1.length:X)) then(
 O E)
else(
 I2 a0 a1 bigN (0:X))
/- laws_eqTide -/
def Pv(a0 a1:Xl):W Y:=
if(a0.Mean !=a1.Mean) then(
 O E)
else(
 (Ms a0.Parts a1.Parts).bind fun r2=>
 if r2 then(
 O F)
 else(
 O E))
/- laws_eqSurge -/
def MA(a0 a1:X9):W Y:=
if(a0.From !=a1.From) then(
 O E)
else(
 if(a0.Low !=a1.Low) then(
 O E)
 else(
 if(a0.High !=a1.High) then(
  O E)
 else(
  O F)))
/- laws_eqSurgeS -/
def I6(a0 a1:V X9):Z→X→W Y
| 0,_=>U
| n+1,v2=>
 if(decide (v2<(a0.length:X))) then(
 (ix a0 v2).bind fun x4=>
 (ix a1 v2).bind fun x5=>
 (MA x4 x5).bind fun r6=>
 if r6 then(
  I6 a0 a1 n (zM .i64 (v2+(1:X))))
 else(
  O E))
 else(
 O F)
def MB(a0 a1:V X9):W Y:=
if((a0.length:X) !=(a1.length:X)) then(
 O E)
else(
 I6 a0 a1 bigN (0:X))
/- laws_eqForecast -/
def Mp(a0 a1:Xd):W Y:=
(Pv a0.Tide a1.Tide).bind fun r1=>
if r1 then(
 (MB a0.Surges a1.Surges).bind fun r3=>
 if r3 then(
 O F)
 else(
 O E))
else(
 O E)
/- laws_eqPoint -/
def Mu(a0 a1:X7):W Y:=
if(a0.Name==a1.Name) then(
 if(a0.Wait==a1.Wait) then(
 O F)
 else(
 O E))
else(
 O E)
/- laws_eqPointS -/
def I3(a0 a1:V X7):Z→X→W Y
| 0,_=>U
| n+1,v2=>
 if(decide (v2<(a0.length:X))) then(
 (ix a0 v2).bind fun x4=>
 (ix a1 v2).bind fun x5=>
 (Mu x4 x5).bind fun r6=>
 if r6 then(
  I3 a0 a1 n (zM .i64 (v2+(1:X))))
 else(
  O E))
 else(
 O F)
def Mv(a0 a1:V X7):W Y:=
if((a0.length:X) !=(a1.length:X)) then(
 O E)
else(
 I3 a0 a1 bigN (0:X))
/- laws_eqSegment -/
def Mw(a0 a1:X2):W Y:=
if(a0.A !=a1.A) then(
 O E)
else(
 if(a0.B !=a1.B) then(
 O E)
 else(
 if(a0.Depth !=a1.Depth) then(
  O E)
 else(
  if(a0.Minutes !=a1.Minutes) then(
  O E)
  else(
  if(a0.Meet==a1.Meet) then(
   O F)
  else(
   O E)))))
/- laws_eqSegmentS -/
def I4(a0 a1:V X2):Z→X→W Y
| 0,_=>U
| n+1,v2=>
 if(decide (v2<(a0.length:X))) then(
 (ix a0 v2).bind fun x4=>
 (ix a1 v2).bind fun x5=>
 (Mw x4 x5).bind fun r6=>
 if r6 then(
  I4 a0 a1 n (zM .i64 (v2+(1:X))))
 else(
  O E))
 else(
 O F)
def Mx(a0 a1:V X2):W Y:=
if((a0.length:X) !=(a1.length:X)) then(
 O E)
else(
 I4 a0 a1 bigN (0:X))
/- laws_eqChart -/
def Mo(a0 a1:X1):W Y:=
(Mv a0.Points a1.Points).bind fun r1=>
if r1 then(
 (Mx a0.Segments a1.Segments).bind fun r3=>
 if r3 then(
 O F)
 else(
 O E))
else(
 O E)
/- laws_eqShip -/
def My(a0 a1:X4):W Y:=
if(a0.Name==a1.Name) then(
 if(a0.Length !=a1.Length) then(
 O E)
 else(
 if(a0.Draught !=a1.Draught) then(
  O E)
 else(
  if(a0.Line !=a1.Line) then(
  O E)
  else(
  if(a0.Tugs !=a1.Tugs) then(
   O E)
  else(
   if(a0.Slow==a1.Slow) then(
   O F)
   else(
   O E))))))
else(
 O E)
/- laws_eqShipS -/
def I5(a0 a1:V X4):Z→X→W Y
| 0,_=>U
| n+1,v2=>
 if(decide (v2<(a0.length:X))) then(
 (ix a0 v2).bind fun x4=>
 (ix a1 v2).bind fun x5=>
 (My x4 x5).bind fun r6=>
 if r6 then(
  I5 a0 a1 n (zM .i64 (v2+(1:X))))
 else(
  O E))
 else(
 O F)
def Mz(a0 a1:V X4):W Y:=
if((a0.length:X) !=(a1.length:X)) then(
 O E)
else(
 I5 a0 a1 bigN (0:X))
/- laws_eqRegime -/
def Pu(a0 a1:Xi):W Y:=
if(a0.Gap !=a1.Gap) then(
 O E)
else(
 if(a0.NoMeet==a1.NoMeet) then(
 O F)
 else(
 O E))
/- laws_eqCrew -/
def Pt(a0 a1:Xn):W Y:=
if(a0.Tugs !=a1.Tugs) then(
 O E)
else(
 if(a0.Pilots !=a1.Pilots) then(
 O E)
 else(
 if(a0.Rest !=a1.Rest) then(
  O E)
 else(
  (Fj a0.Moves a1.Moves).bind fun r4=>
  if r4 then(
  O F)
  else(
  O E))))
/- laws_eqHarbour -/
def Mq(a0 a1:X6):W Y:=
(Mp a0.Forecast a1.Forecast).bind fun r1=>
if r1 then(
 (Mo a0.Chart a1.Chart).bind fun r3=>
 if r3 then(
 (Mz a0.Fleet a1.Fleet).bind fun r5=>
 if r5 then(
  (Pu a0.Regime a1.Regime).bind fun r7=>
  if r7 then(
  (Pt a0.Crew a1.Crew).bind fun r9=>
  if r9 then(
   O F)
  else(
   O E))
  else(
  O E))
 else(
  O E))
 else(
 O E))
else(
 O E)
/- laws_eqCall -/
def Ps(a0 a1:Xa):W Y:=
if(a0.Ship !=a1.Ship) then(
 O E)
else(
 if(a0.From !=a1.From) then(
 O E)
 else(
 if(a0.To !=a1.To) then(
  O E)
 else(
  if(a0.Ready !=a1.Ready) then(
  O E)
  else(
  if(a0.Due !=a1.Due) then(
   O E)
  else(
   O F)))))
/- laws_eqCallS -/
def I0(a0 a1:V Xa):Z→X→W Y
| 0,_=>U
| n+1,v2=>
 if(decide (v2<(a0.length:X))) then(
 (ix a0 v2).bind fun x4=>
 (ix a1 v2).bind fun x5=>
 (Ps x4 x5).bind fun r6=>
 if r6 then(
  I0 a0 a1 n (zM .i64 (v2+(1:X))))
 else(
  O E))
 else(
 O F)
def Mn(a0 a1:V Xa):W Y:=
if((a0.length:X) !=(a1.length:X)) then(
 O E)
else(
 I0 a0 a1 bigN (0:X))
/- laws_markPartS -/
def Fo:Z→X→X→(V Xc)→W (X × V Xc)
| 0,_,_,_=>U
| n+1,v1,v2,v3=>
 if(decide (v2<(v3.length:X))) then(
 (ix v3 v2).bind fun x5=>
 (ix (v3.set (zB v2) (⟨v1,x5.Period,x5.Phase⟩:Xc)) v2).bind fun x6=>
 (ix ((v3.set (zB v2) (⟨v1,x5.Period,x5.Phase⟩:Xc)).set (zB v2) (⟨x6.Amp,(zM .i64 (v1+(1:X))),x6.Phase⟩:Xc)) v2).bind fun x7=>
 Fo n (zM .i64 ((zM .i64 ((zM .i64 (v1+(1:X)))+(1:X)))+(1:X))) (zM .i64 (v2+(1:X))) (((v3.set (zB v2) (⟨v1,x5.Period,x5.Phase⟩:Xc)).set (zB v2) (⟨x6.Amp,(zM .i64 (v1+(1:X))),x6.Phase⟩:Xc)).set (zB v2) (⟨x7.Amp,x7.Period,(zM .i64 ((zM .i64 (v1+(1:X)))+(1:X)))⟩:Xc)))
 else(
 O (v1,v3))
def Ke(a0:V Xc)(a1:X):W (X × V Xc):=
Fo bigN a1 (0:X) a0
/- laws_markTide -/
def Kl(a0:Xl)(a1:X):W (X × V Xc):=
(Ke a0.Parts a1).bind fun r1=>
O (r1.1,r1.2)
/- laws_markSurgeS -/
def Ft:Z→X→X→(V X9)→W (X × V X9)
| 0,_,_,_=>U
| n+1,v1,v2,v3=>
 if(decide (v2<(v3.length:X))) then(
 (ix v3 v2).bind fun x5=>
 (ix (v3.set (zB v2) (⟨v1,x5.Low,x5.High⟩:X9)) v2).bind fun x6=>
 (ix ((v3.set (zB v2) (⟨v1,x5.Low,x5.High⟩:X9)).set (zB v2) (⟨x6.From,(zM .i64 (v1+(1:X))),x6.High⟩:X9)) v2).bind fun x7=>
 Ft n (zM .i64 ((zM .i64 ((zM .i64 (v1+(1:X)))+(1:X)))+(1:X))) (zM .i64 (v2+(1:X))) (((v3.set (zB v2) (⟨v1,x5.Low,x5.High⟩:X9)).set (zB v2) (⟨x6.From,(zM .i64 (v1+(1:X))),x6.High⟩:X9)).set (zB v2) (⟨x7.From,x7.Low,(zM .i64 ((zM .i64 (v1+(1:X)))+(1:X)))⟩:X9)))
 else(
 O (v1,v3))
def Kj(a0:V X9)(a1:X):W (X × V X9):=
Ft bigN a1 (0:X) a0
/- laws_markForecast -/
def Kd(a0:Xd)(a1:X):W (X × V Xc × V X9):=
(Kl a0.Tide a1).bind fun r1=>
(Kj a0.Surges r1.1).bind fun r2=>
O (r2.1,r1.2,r2.2)
/- laws_markText -/
def I9:Z→X→(V zA)→W (V zA)
| 0,_,_=>U
| n+1,v2,v3=>
 if(decide ((0:X)<v2)) then(
 if JE ([(IntKind.u8.wrap (zM .i64 ((48:X)+(zM .i64 (zI v2 (10:X))))))]:V X).length v3.length then(
  I9 n (zM .i64 (zE v2 (10:X))) ((zC Zv ([(IntKind.u8.wrap (zM .i64 ((48:X)+(zM .i64 (zI v2 (10:X))))))]:V X))++v3))
 else U)
 else(
 if JE ([109]:V zA).length v3.length then(
  O (([109]:V zA)++v3))
 else U)
def Kk(a0:X):W (V zA):=
if(decide (a0≤(0:X))) then(
 O ([109,48]:V zA))
else(
 I9 bigN a0 ([]:V zA))
/- laws_markPointS -/
def Fp:Z→X→X→(V X7)→W (X × V X7)
| 0,_,_,_=>U
| n+1,v1,v2,v3=>
 if(decide (v2<(v3.length:X))) then(
 (Kk v1).bind fun r5=>
 (ix v3 v2).bind fun x6=>
 (ix (v3.set (zB v2) (⟨r5,x6.Wait⟩:X7)) v2).bind fun x7=>
 Fp n (zM .i64 ((zM .i64 (v1+(1:X)))+(1:X))) (zM .i64 (v2+(1:X))) ((v3.set (zB v2) (⟨r5,x6.Wait⟩:X7)).set (zB v2) (⟨x7.Name,((zM .i64 (zI (zM .i64 (v1+(1:X))) (3:X)))==(0:X))⟩:X7)))
 else(
 O (v1,v3))
def Kf(a0:V X7)(a1:X):W (X × V X7):=
Fp bigN a1 (0:X) a0
/- laws_markSegmentS -/
def Fq:Z→X→X→(V X2)→W (X × V X2)
| 0,_,_,_=>U
| n+1,v1,v2,v3=>
 if(decide (v2<(v3.length:X))) then(
 (ix v3 v2).bind fun x5=>
 (ix (v3.set (zB v2) (⟨v1,x5.B,x5.Depth,x5.Minutes,x5.Meet⟩:X2)) v2).bind fun x6=>
 (ix ((v3.set (zB v2) (⟨v1,x5.B,x5.Depth,x5.Minutes,x5.Meet⟩:X2)).set (zB v2) (⟨x6.A,(zM .i64 (v1+(1:X))),x6.Depth,x6.Minutes,x6.Meet⟩:X2)) v2).bind fun x7=>
 (ix (((v3.set (zB v2) (⟨v1,x5.B,x5.Depth,x5.Minutes,x5.Meet⟩:X2)).set (zB v2) (⟨x6.A,(zM .i64 (v1+(1:X))),x6.Depth,x6.Minutes,x6.Meet⟩:X2)).set (zB v2) (⟨x7.A,x7.B,(zM .i64 ((zM .i64 (v1+(1:X)))+(1:X))),x7.Minutes,x7.Meet⟩:X2)) v2).bind fun x8=>
 (ix ((((v3.set (zB v2) (⟨v1,x5.B,x5.Depth,x5.Minutes,x5.Meet⟩:X2)).set (zB v2) (⟨x6.A,(zM .i64 (v1+(1:X))),x6.Depth,x6.Minutes,x6.Meet⟩:X2)).set (zB v2) (⟨x7.A,x7.B,(zM .i64 ((zM .i64 (v1+(1:X)))+(1:X))),x7.Minutes,x7.Meet⟩:X2)).set (zB v2) (⟨x8.A,x8.B,x8.Depth,(zM .i64 ((zM .i64 ((zM .i64 (v1+(1:X)))+(1:X)))+(1:X))),x8.Meet⟩:X2)) v2).bind fun x9=>
 Fq n (zM .i64 ((zM .i64 ((zM .i64 ((zM .i64 ((zM .i64 (v1+(1:X)))+(1:X)))+(1:X)))+(1:X)))+(1:X))) (zM .i64 (v2+(1:X))) (((((v3.set (zB v2) (⟨v1,x5.B,x5.Depth,x5.Minutes,x5.Meet⟩:X2)).set (zB v2) (⟨x6.A,(zM .i64 (v1+(1:X))),x6.Depth,x6.Minutes,x6.Meet⟩:X2)).set (zB v2) (⟨x7.A,x7.B,(zM .i64 ((zM .i64 (v1+(1:X)))+(1:X))),x7.Minutes,x7.Meet⟩:X2)).set (zB v2) (⟨x8.A,x8.B,x8.Depth,(zM .i64 ((zM .i64 ((zM .i64 (v1+(1:X)))+(1:X)))+(1:X))),x8.Meet⟩:X2)).set (zB v2) (⟨x9.A,x9.B,x9.Depth,x9.Minutes,((zM .i64 (zI (zM .i64 ((zM .i64 ((zM .i64 ((zM .i64 (v1+(1:X)))+(1:X)))+(1:X)))+(1:X))) (3:X)))==(0:X))⟩:X2)))
 else(
 O (v1,v3))
def Kg(a0:V X2)(a1:X):W (X × V X2):=
Fq bigN a1 (0:X) a0
/- laws_markChart -/
def Kb(a0:X1)(a1:X):W (X × V X7 × V X2):=
(Kf a0.Points a1).bind fun r1=>
(Kg a0.Segments r1.1).bind fun r2=>
O (r2.1,r1.2,r2.2)
/- laws_markShipS -/
def Fs:Z→X→X→(V X4)→W (X × V X4)
| 0,_,_,_=>U
| n+1,v1,v2,v3=>
 if(decide (v2<(v3.length:X))) then(
 (Kk v1).bind fun r5=>
 (ix v3 v2).bind fun x6=>
 (ix (v3.set (zB v2) (⟨r5,x6.Length,x6.Draught,x6.Line,x6.Tugs,x6.Slow⟩:X4)) v2).bind fun x7=>
 (ix ((v3.set (zB v2) (⟨r5,x6.Length,x6.Draught,x6.Line,x6.Tugs,x6.Slow⟩:X4)).set (zB v2) (⟨x7.Name,(zM .i64 (v1+(1:X))),x7.Draught,x7.Line,x7.Tugs,x7.Slow⟩:X4)) v2).bind fun x8=>
 (ix (((v3.set (zB v2) (⟨r5,x6.Length,x6.Draught,x6.Line,x6.Tugs,x6.Slow⟩:X4)).set (zB v2) (⟨x7.Name,(zM .i64 (v1+(1:X))),x7.Draught,x7.Line,x7.Tugs,x7.Slow⟩:X4)).set (zB v2) (⟨x8.Name,x8.Length,(zM .i64 ((zM .i64 (v1+(1:X)))+(1:X))),x8.Line,x8.Tugs,x8.Slow⟩:X4)) v2).bind fun x9=>
 (ix ((((v3.set (zB v2) (⟨r5,x6.Length,x6.Draught,x6.Line,x6.Tugs,x6.Slow⟩:X4)).set (zB v2) (⟨x7.Name,(zM .i64 (v1+(1:X))),x7.Draught,x7.Line,x7.Tugs,x7.Slow⟩:X4)).set (zB v2) (⟨x8.Name,x8.Length,(zM .i64 ((zM .i64 (v1+(1:X)))+(1:X))),x8.Line,x8.Tugs,x8.Slow⟩:X4)).set (zB v2) (⟨x9.Name,x9.Length,x9.Draught,(zM .i64 ((zM .i64 ((zM .i64 (v1+(1:X)))+(1:X)))+(1:X))),x9.Tugs,x9.Slow⟩:X4)) v2).bind fun x10=>
 (ix (((((v3.set (zB v2) (⟨r5,x6.Length,x6.Draught,x6.Line,x6.Tugs,x6.Slow⟩:X4)).set (zB v2) (⟨x7.Name,(zM .i64 (v1+(1:X))),x7.Draught,x7.Line,x7.Tugs,x7.Slow⟩:X4)).set (zB v2) (⟨x8.Name,x8.Length,(zM .i64 ((zM .i64 (v1+(1:X)))+(1:X))),x8.Line,x8.Tugs,x8.Slow⟩:X4)).set (zB v2) (⟨x9.Name,x9.Length,x9.Draught,(zM .i64 ((zM .i64 ((zM .i64 (v1+(1:X)))+(1:X)))+(1:X))),x9.Tugs,x9.Slow⟩:X4)).set (zB v2) (⟨x10.Name,x10.Length,x10.Draught,x10.Line,(zM .i64 ((zM .i64 ((zM .i64 ((zM .i64 (v1+(1:X)))+(1:X)))+(1:X)))+(1:X))),x10.Slow⟩:X4)) v2).bind fun x11=>
 Fs n (zM .i64 ((zM .i64 ((zM .i64 ((zM .i64 ((zM .i64 ((zM .i64 (v1+(1:X)))+(1:X)))+(1:X)))+(1:X)))+(1:X)))+(1:X))) (zM .i64 (v2+(1:X))) ((((((v3.set (zB v2) (⟨r5,x6.Length,x6.Draught,x6.Line,x6.Tugs,x6.Slow⟩:X4)).set (zB v2) (⟨x7.Name,(zM .i64 (v1+(1:X))),x7.Draught,x7.Line,x7.Tugs,x7.Slow⟩:X4)).set (zB v2) (⟨x8.Name,x8.Length,(zM .i64 ((zM .i64 (v1+(1:X)))+(1:X))),x8.Line,x8.Tugs,x8.Slow⟩:X4)).set (zB v2) (⟨x9.Name,x9.Length,x9.Draught,(zM .i64 ((zM .i64 ((zM .i64 (v1+(1:X)))+(1:X)))+(1:X))),x9.Tugs,x9.Slow⟩:X4)).set (zB v2) (⟨x10.Name,x10.Length,x10.Draught,x10.Line,(zM .i64 ((zM .i64 ((zM .i64 ((zM .i64 (v1+(1:X)))+(1:X)))+(1:X)))+(1:X))),x10.Slow⟩:X4)).set (zB v2) (⟨x11.Name,x11.Length,x11.Draught,x11.Line,x11.Tugs,((zM .i64 (zI (zM .i64 ((zM .i64 ((zM .i64 ((zM .i64 ((zM .i64 (v1+(1:X)))+(1:X)))+(1:X)))+(1:X)))+(1:X))) (3:X)))==(0:X))⟩:X4)))
 else(
 O (v1,v3))
def Ki(a0:V X4)(a1:X):W (X × V X4):=
Fs bigN a1 (0:X) a0
/- laws_markIntS -/
def DE:Z→X→X→(V X)→W (X × V X)
| 0,_,_,_=>U
| n+1,v1,v2,v3=>
 if(decide (v2<(v3.length:X))) then(
 (ix v3 v2).bind fun x5=>
 DE n (zM .i64 (v1+(1:X))) (zM .i64 (v2+(1:X))) (v3.set (zB v2) v1))
 else(
 O (v1,v3))
def Fm(a0:V X)(a1:X):W (X × V X):=
DE bigN a1 (0:X) a0
/- laws_markCrew -/
def Kc(a0:Xn)(a1:X):W (X × V X):=
(Fm a0.Moves a1).bind fun r1=>
O (r1.1,r1.2)
/- laws_markHarbour -/
def I8(a0:X6)(a1:X):W (X × V Xc × V X9 × V X7 × V X2 × V X4 × V X):=
(Kd a0.Forecast a1).bind fun r1=>
(Kb a0.Chart r1.1).bind fun r2=>
(Ki a0.Fleet r2.1).bind fun r3=>
(Kc a0.Crew r3.1).bind fun r4=>
O (r4.1,r1.2.1,r1.2.2,r2.2.1,r2.2.2,r3.2,r4.2)
/- laws_markCallS -/
def Fl:Z→X→X→(V Xa)→W (X × V Xa)
| 0,_,_,_=>U
| n+1,v1,v2,v3=>
 if(decide (v2<(v3.length:X))) then(
 (ix v3 v2).bind fun x5=>
 (ix (v3.set (zB v2) (⟨v1,x5.From,x5.To,x5.Ready,x5.Due⟩:Xa)) v2).bind fun x6=>
 (ix ((v3.set (zB v2) (⟨v1,x5.From,x5.To,x5.Ready,x5.Due⟩:Xa)).set (zB v2) (⟨x6.Ship,(zM .i64 (v1+(1:X))),x6.To,x6.Ready,x6.Due⟩:Xa)) v2).bind fun x7=>
 (ix (((v3.set (zB v2) (⟨v1,x5.From,x5.To,x5.Ready,x5.Due⟩:Xa)).set (zB v2) (⟨x6.Ship,(zM .i64 (v1+(1:X))),x6.To,x6.Ready,x6.Due⟩:Xa)).set (zB v2) (⟨x7.Ship,x7.From,(zM .i64 ((zM .i64 (v1+(1:X)))+(1:X))),x7.Ready,x7.Due⟩:Xa)) v2).bind fun x8=>
 (ix ((((v3.set (zB v2) (⟨v1,x5.From,x5.To,x5.Ready,x5.Due⟩:Xa)).set (zB v2) (⟨x6.Ship,(zM .i64 (v1+(1:X))),x6.To,x6.Ready,x6.Due⟩:Xa)).set (zB v2) (⟨x7.Ship,x7.From,(zM .i64 ((zM .i64 (v1+(1:X)))+(1:X))),x7.Ready,x7.Due⟩:Xa)).set (zB v2) (⟨x8.Ship,x8.From,x8.To,(zM .i64 ((zM .i64 ((zM .i64 (v1+(1:X)))+(1:X)))+(1:X))),x8.Due⟩:Xa)) v2).bind fun x9=>
 Fl n (zM .i64 ((zM .i64 ((zM .i64 ((zM .i64 ((zM .i64 (v1+(1:X)))+(1:X)))+(1:X)))+(1:X)))+(1:X))) (zM .i64 (v2+(1:X))) (((((v3.set (zB v2) (⟨v1,x5.From,x5.To,x5.Ready,x5.Due⟩:Xa)).set (zB v2) (⟨x6.Ship,(zM .i64 (v1+(1:X))),x6.To,x6.Ready,x6.Due⟩:Xa)).set (zB v2) (⟨x7.Ship,x7.From,(zM .i64 ((zM .i64 (v1+(1:X)))+(1:X))),x7.Ready,x7.Due⟩:Xa)).set (zB v2) (⟨x8.Ship,x8.From,x8.To,(zM .i64 ((zM .i64 ((zM .i64 (v1+(1:X)))+(1:X)))+(1:X))),x8.Due⟩:Xa)).set (zB v2) (⟨x9.Ship,x9.From,x9.To,x9.Ready,(zM .i64 ((zM .i64 ((zM .i64 ((zM .i64 (v1+(1:X)))+(1:X)))+(1:X)))+(1:X)))⟩:Xa)))
 else(
 O (v1,v3))
def Ka(a0:V Xa)(a1:X):W (X × V Xa):=
Fl bigN a1 (0:X) a0
/- laws_heldIntS -/
def I7(a0:V X):Z→X→X→W X
| 0,_,_=>U
| n+1,v1,v2=>
 if(decide (v2<(a0.length:X))) then(
 (ix a0 v2).bind fun x4=>
 if(x4 !=v1) then(
  O (-1:X))
 else(
  I7 a0 n (zM .i64 (v1+(1:X))) (zM .i64 (v2+(1:X)))))
 else(
 O v1)
def K9(a0:V X)(a1:X):W X:=
I7 a0 bigN a1 (0:X)
/- laws_FnExactFairPlan -/
def Pr(a0:X6)(a1:V Xa):W Y:=
(MF a0 (1048576:X)).bind fun r1=>
if(decide (r1<(0:X))) then(
 O F)
else(
 (MC a1 r1).bind fun r3=>
 if(decide (r3<(0:X))) then(
 O F)
 else(
 (Gv a0).bind fun r5=>
 (Gu a1).bind fun r6=>
 (N5 r5 r6).bind fun r7=>
 (Gv a0).bind fun r9=>
 (Gu a1).bind fun r10=>
 (JQ r9 r10).bind fun r11=>
 (Fj r11.1 r7.1).bind fun r12=>
 if r12 then(
  if(r11.2.1 !=r7.2.1) then(
  O E)
  else(
  if(r11.2.2==r7.2.2) then(
   (Gv a0).bind fun r16=>
   (Mq r9 r16).bind fun r17=>
   if r17 then(
   (Gu a1).bind fun r19=>
   (Mn r10 r19).bind fun r20=>
   if r20 then(
    (I8 r9 (1:X)).bind fun r22=>
    (Ka r10 r22.1).bind fun r23=>
    if(decide (r23.1<(0:X))) then(
    O E)
    else(
    (Fj r11.1 r7.1).bind fun r25=>
    if r25 then(
     (Fm r11.1 (1:X)).bind fun r27=>
     (K9 r27.2 (1:X)).bind fun r28=>
     if(decide (r28<(0:X))) then(
     O E)
     else(
     if(r28 !=r27.1) then(
      O E)
     else(
      (Gv a0).bind fun r31=>
      (Gu a1).bind fun r32=>
      (JQ r31 r32).bind fun r33=>
      (Fj r33.1 r7.1).bind fun r34=>
      if r34 then(
      if(r33.2.1 !=r7.2.1) then(
       O E)
      else(
       if(r33.2.2==r7.2.2) then(
       (K9 r27.2 (1:X)).bind fun r38=>
       if(decide (r38<(0:X))) then(
        O E)
       else(
        if(r38 !=r27.1) then(
        O E)
        else(
        O F)))
       else(
       O E)))
      else(
      O E))))
    else(
     O E)))
   else(
    O E))
   else(
   O E))
  else(
   O E)))
 else(
  O E)))
class Ct (f:Z) (T:outParam Prop):Prop where
 c:T
theorem Ac{f:Z}{T:Prop}(I:Ct f T):T:=I.c
section
variable {P : Program} {k : V Fr} {Q : Xm → St → Prop} {σ : St} {its : V AItem} {d f : Z} {args : V Opd} {xs : V DV} {rs : V R1} {T : Prop} [I : Ct f T]
theorem gE(hf:T→FC P f xs rs)(h:go P (.ops its::k) Q .normal (O (σ.inst d rs)))(h1:σ.toIVs args=O xs:=by exact rfl)(h3:σ.fresh d=F:=by first | exact rfl | (simp only[St.fresh,zK,zL,Ak]; simp[AV.cells,V1.cells,AC.uses]))(h4:Nat.ble (rs.flatMap R1.cells).length 64=F:=by exact rfl) :
  go P (.ops ((U,.call d f args)::its)::k) Q .normal (O σ):=AJ (hf I.c) h h1 h3 h4
theorem jE{N:V Z}{ds:V B0}(hf:T→FC P f xs rs)(h:go P (.dops ds::k) Q .normal (O (σ.inst d rs)))(h1:(σ.less N).toIVs args=O xs:=by exact rfl)(h3:σ.fresh d=F:=by first | exact rfl | (simp only[St.fresh,zK,zL,Ak]; simp[AV.cells,V1.cells,AC.uses]))(h4:Nat.ble (rs.flatMap R1.cells).length 64=F:=by exact rfl) :
  go P (.dops ((O N,U,.call d f args)::ds)::k) Q .normal (O σ):=BS (hf I.c) h h1 h3 h4
theorem gF(hf:T→FC P f xs rs)(h:go P (.ops its::k) Q .normal (O (σ.inst d rs)))(h1:σ.toDVs args=O xs:=by exact rfl)(h2:CM rs:=by first | exact Ce rfl | exact CN rfl ⟨CB,⟨⟩⟩ | exact CN rfl ⟨CB,rfl,⟨⟩⟩ | exact CN rfl ⟨CB,rfl,rfl,⟨⟩⟩ | exact CN rfl ⟨rfl,rfl,rfl,CB,rfl,⟨⟩⟩)(h3:σ.fresh d=F:=by first | exact rfl | (simp only[St.fresh,zK,zL,Ak]; simp[AV.cells,V1.cells,AC.uses]))(h4:Nat.ble (rs.flatMap R1.cells).length 64=F:=by exact rfl) :
  go P (.ops ((U,.call d f args)::its)::k) Q .normal (O σ):=Cf (hf I.c) h1 h2 h3 (zD h4) h
theorem jF{N:V Z}{ds:V B0}(hf:T→FC P f xs rs)(h:go P (.dops ds::k) Q .normal (O (σ.inst d rs)))(h1:(σ.less N).toDVs args=O xs:=by exact rfl)(h2:CM rs:=by first | exact Ce rfl | exact CN rfl ⟨CB,⟨⟩⟩ | exact CN rfl ⟨CB,rfl,⟨⟩⟩)(h3:σ.fresh d=F:=by first | exact rfl | (simp only[St.fresh,zK,zL,Ak]; simp[AV.cells,V1.cells,AC.uses]))(h4:Nat.ble (rs.flatMap R1.cells).length 64=F:=by exact rfl) :
  go P (.dops ((O N,U,.call d f args)::ds)::k) Q .normal (O σ):=GQ (hf I.c) h1 h2 h3 (zD h4) h
end
theorem AD(es:V (V D)){P:Program}{k:V Fr}{Q:Xm→St→Prop}{σ:St}{its:V AItem}{d sz:Z}{zs:V D}{len:Z}{ps:V (Z × Opd)}(H:go P (.ops its::k) Q .normal (O {(σ.set d (.v (.sc (.own (d*64))))) with rows:=put σ.rows (d*64) (sz,es) }))(hm:σ.made (.bslice d sz zs len ps)=O (.row d sz es):=by exact rfl)(hf:σ.fresh d=F:=by first | exact rfl | (simp only[St.fresh,zK,zL,Ak]; simp[AV.cells,V1.cells,AC.uses])) :
  go P (.ops ((U,.bslice d sz zs len ps)::its)::k) Q .normal (O σ):=At hm hf H
theorem EJ{α:Type}(row:α→V D)(z:α){P:Program}{k:V Fr}{Q:Xm→St→Prop}{σ:St}{its:V AItem}{d:Z}{L C:Opd}{l c:X}{bytes n sz:Z}{zs:V D}(hb:Br l c bytes=O n)
  (H:go P (.ops its::k) Q .normal (O {(σ.set d (.v (.sc (.own (d*64))))) with rows:=put σ.rows (d*64) (sz,zC row (zG n z)) })) (hl:BZ (σ.val L)=O l:=by exact rfl) (hc:BZ (σ.val C)=O c:=by exact rfl) (hz:zs.length=sz:=by exact rfl) (he:row z=zs:=by exact rfl) (hf:σ.fresh d=F:=by exact rfl):go P (.ops ((U,.mksl d sz bytes zs L C)::its)::k) Q .normal (O σ):=RO hl hc hb hz (Jd he) hf H
theorem H7{α:Type}(row:α→V D)(y:α){P:Program}{k:V Fr}{Q:Xm→St→Prop}{env bx rows}{id sz off n:Z}{i:X}{xs:V α}{x:α}{yv:V1}{dd:V D}(hx:ix xs i=O x)(H:go P k Q .normal (O ⟨env,bx,put rows id (sz,zC row (xs.set i.toNat y))⟩))(hd:yv.toDs=O dd:=by exact rfl)(hf:A1 rows id=O (sz,zC row xs):=by exact rfl)
  (hn:dd.length=n:=by exact rfl) (ho:Nat.ble (off+n) (row x).length=F:=by exact rfl) (hy:G0 (row x) off dd=row y:=by exact rfl) :
  go P k Q .normal (St.storeV ⟨env,bx,rows⟩ n (.v (.sc (.pe id i.toNat off))) (.v yv)):=AS hd hf (Av hx) hn ho hy H
theorem gc{G:Prop}(k:G:=by
 first | intro S hS | intro hS
 conv at hS=>rhs; reduce
 try simp only[Int.reduceOfNat,Int.reduceNegSucc,Ah,UInt8.reduceOfNat] at hS
 subst hS;first | refine AM (Ay ?_) | refine Ay ?_ | skip
 repeat' (first | refine Bk ?_ | refine By ?_ | refine An ?_ | refine Cq ?_ | (obtain⟨_,hc,h⟩:=ob h; first | refine gE (by intro k; apply k; exact hc) ?_ | refine jE (by intro k; apply k; exact hc) ?_ | refine gF (by intro k; apply k; exact hc) ?_ | refine jF (by intro k; apply k; exact hc) ?_ | refine s0 hc ?_ | refine s1 hc ?_) | simp only[*,Nat.reduceBEq,Nat.reduceMul,Nat.reduceAdd,Nat.reduceDiv,Int.reduceBEq,J] | (first | refine s0 ?_ | refine s0 _ ?_ | refine s0 ‹_› ?_ | refine s0 _ ‹_› ?_ | refine s0 _ _ ‹_› ?_ | refine s1 ?_ | refine s1 _ ?_ | refine s1 ‹_› ?_ | refine s1 _ ‹_› ?_ | refine s1 _ _ ‹_› ?_ | refine s2 ?_ | refine s2 _ ?_ | refine s2 ‹_› ?_ | refine s2 _ ‹_› ?_ | refine s2 _ _ ‹_› ?_ | refine s3 ?_ | refine s3 _ ?_ | refine s3 ‹_› ?_ | refine s3 _ ‹_› ?_ | refine s3 _ _ ‹_› ?_) | ((first | show go _ (.code (.loop _)::_) _ _ _ | show go _ (.code (J4 _)::_) _ _ _); (first | refine ih h ?_ (by kernel_rfl) | refine k0 h ?_ (by kernel_rfl) | refine k0 ‹_› h ?_ (by kernel_rfl) | refine k0 ‹_› ‹_› h ?_ (by kernel_rfl) | refine k0 ‹_› ‹_› ‹_› h ?_ (by kernel_rfl) | refine k1 h ?_ (by kernel_rfl) | refine k1 ‹_› h ?_ (by kernel_rfl) | refine k1 ‹_› ‹_› h ?_ (by kernel_rfl) | refine k1 ‹_› ‹_› ‹_› h ?_ (by kernel_rfl) | refine k2 h ?_ (by kernel_rfl) | refine k2 ‹_› h ?_ (by kernel_rfl) | refine k2 ‹_› ‹_› h ?_ (by kernel_rfl) | refine k2 ‹_› ‹_› ‹_› h ?_ (by kernel_rfl) | refine k3 h ?_ (by kernel_rfl) | refine k3 ‹_› h ?_ (by kernel_rfl) | refine k3 ‹_› ‹_› h ?_ (by kernel_rfl) | refine k3 ‹_› ‹_› ‹_› h ?_ (by kernel_rfl)))<;>try simp only[*,Nat.reduceBEq,Nat.reduceMul,Nat.reduceAdd,Nat.reduceDiv,Int.reduceBEq,J,pL,aM,List.map_nil] | (obtain⟨_,_,h⟩:=ob h) | (obtain⟨_,h⟩:=AW h) | (obtain⟨_,h⟩:=J9 h) | (obtain⟨_,h⟩ | ⟨_,h⟩:=ic h) | (cases h; first | exact t0 | trivial | (repeat' constructor; done)))
 done):G:=k
end Go.Vi
