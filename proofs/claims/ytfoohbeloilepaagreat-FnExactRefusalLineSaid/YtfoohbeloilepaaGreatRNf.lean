/-
Plain definitions of functions. No condition.
-/
import Derived.Test.YtfoohbeloilepaaGreatRVi41
import Derived.Test.YtfoohbeloilepaaGreatRLa
namespace Go.Vi
set_option linter.all false
open List renaming map → zB, replicate → zG, not_mem_nil → zH, mem_cons → zI, all_cons → zK, all_nil → zL
open Nat renaming le_of_ble_eq_true → zC
open Int renaming toNat → zD, tdiv → zF, tmod → zJ
open And renaming intro → zE
open IntKind renaming wrap → zM
open Bool renaming true → F, false → E
open Option renaming some → O, none → U
open _root_ renaming List → V, Option → W, Int → X, Bool → Y, Nat → Z, UInt8 → zA
def Cs(k:IntKind)(x:X)(n:Z):X:=k.wrap (x.fdiv (2 ^ min n k.bits))
theorem gB{k:IntKind}{x:X}:Cf .shr (.v (.sc (.dat (.int k x)))) (.v (.sc (.dat (.int .u64 8))))=O (.v (.sc (.dat (.int k (Cs k x 8))))):=by simp[Cf,AK,Cs]
theorem qi{k:IntKind}{x:X}:AK .shr k x 8=O (.int k (Cs k x 8)):=by simp[AK,Cs]
theorem fz{k:IntKind}{x:X}:Cf .shr (.v (.sc (.dat (.int k x)))) (.v (.sc (.dat (.int .u64 16))))=O (.v (.sc (.dat (.int k (Cs k x 16))))):=by simp[Cf,AK,Cs]
theorem qg{k:IntKind}{x:X}:AK .shr k x 16=O (.int k (Cs k x 16)):=by simp[AK,Cs]
theorem gA{k:IntKind}{x:X}:Cf .shr (.v (.sc (.dat (.int k x)))) (.v (.sc (.dat (.int .u64 32))))=O (.v (.sc (.dat (.int k (Cs k x 32))))):=by simp[Cf,AK,Cs]
theorem qh{k:IntKind}{x:X}:AK .shr k x 32=O (.int k (Cs k x 32)):=by simp[AK,Cs]
def Oo(k:IntKind)(x y:X):X:=k.wrap (x.fdiv (2 ^ min y.toNat k.bits))
theorem fy{k:IntKind}{x y:X}:Cf .shr (.v (.sc (.dat (.int k x)))) (.v (.sc (.dat (.int .i64 y))))=bif decide (y<0) then U else O (.v (.sc (.dat (.int k (Oo k x y))))):=by
 by_cases h:y<0<;>simp[Cf,AK,Oo,h]
theorem qf{x y:X}:AK .shr .i64 x y=bif decide (y<0) then U else O (.int .i64 (Oo .i64 x y)):=by
 by_cases h:y<0<;>simp[AK,Oo,h]
structure Xc where
 Amp:X
 Period:X
 Phase:X
 deriving DecidableEq
def Xc.row(x:Xc):V D:= [.int .i64 x.Amp,.int .i64 x.Period,.int .i64 x.Phase]
theorem Xc.row_eq(x:Xc):Xc.row x= [.int .i64 x.Amp,.int .i64 x.Period,.int .i64 x.Phase]:=rfl
instance:Row Xc.row 3:=⟨fun _=>rfl,zC rfl⟩
instance:FlatRow Xc.row:=⟨fun x d hd=>by simp only[Xc.row_eq,zI,zH,or_false] at hd; rcases hd with rfl | rfl | rfl<;>rfl⟩
instance:OfTy (.st [(.int .i64),(.int .i64),(.int .i64)]) Xc.row:=⟨fun ds h=>by
 obtain⟨a0,b0,h0,t0,rfl⟩:=h;obtain⟨a1,b1,h1,t1,rfl⟩:=t0;obtain⟨a2,b2,h2,t2,rfl⟩:=t1;obtain rfl:=t2;obtain⟨x0,rfl⟩:=OfTy.of (row:=rI) _ h0;obtain⟨x1,rfl⟩:=OfTy.of (row:=rI) _ h1;obtain⟨x2,rfl⟩:=OfTy.of (row:=rI) _ h2;exact⟨⟨x0,x1,x2⟩,rfl⟩⟩
structure Xl where
 Mean:X
 Parts:V Xc
 deriving DecidableEq
def Xl.row(x:Xl):V D:= [.int .i64 x.Mean,.sl (zB Xc.row x.Parts)]
theorem Xl.row_eq(x:Xl):Xl.row x= [.int .i64 x.Mean,.sl (zB Xc.row x.Parts)]:=rfl
instance:Row Xl.row 2:=⟨fun _=>rfl,zC rfl⟩
instance:OfTy (.st [(.int .i64),(.sl (.st [(.int .i64),(.int .i64),(.int .i64)]))]) Xl.row:=⟨fun ds h=>by
 obtain⟨a0,b0,h0,t0,rfl⟩:=h;obtain⟨a1,b1,h1,t1,rfl⟩:=t0;obtain rfl:=t1;obtain⟨x0,rfl⟩:=OfTy.of (row:=rI) _ h0;obtain⟨x1,rfl⟩:=OfTy.of (row:=(rL Xc.row)) _ h1;exact⟨⟨x0,x1⟩,rfl⟩⟩
structure Xa where
 From:X
 Low:X
 High:X
 deriving DecidableEq
def Xa.row(x:Xa):V D:= [.int .i64 x.From,.int .i64 x.Low,.int .i64 x.High]
theorem Xa.row_eq(x:Xa):Xa.row x= [.int .i64 x.From,.int .i64 x.Low,.int .i64 x.High]:=rfl
instance:Row Xa.row 3:=⟨fun _=>rfl,zC rfl⟩
instance:FlatRow Xa.row:=⟨fun x d hd=>by simp only[Xa.row_eq,zI,zH,or_false] at hd; rcases hd with rfl | rfl | rfl<;>rfl⟩
instance:OfTy (.st [(.int .i64),(.int .i64),(.int .i64)]) Xa.row:=⟨fun ds h=>by
 obtain⟨a0,b0,h0,t0,rfl⟩:=h;obtain⟨a1,b1,h1,t1,rfl⟩:=t0;obtain⟨a2,b2,h2,t2,rfl⟩:=t1;obtain rfl:=t2;obtain⟨x0,rfl⟩:=OfTy.of (row:=rI) _ h0;obtain⟨x1,rfl⟩:=OfTy.of (row:=rI) _ h1;obtain⟨x2,rfl⟩:=OfTy.of (row:=rI) _ h2;exact⟨⟨x0,x1,x2⟩,rfl⟩⟩
structure Xd where
 Tide:Xl
 Surges:V Xa
 deriving DecidableEq
def Xd.row(x:Xd):V D:= [.int .i64 x.Tide.Mean,.sl (zB Xc.row x.Tide.Parts),.sl (zB Xa.row x.Surges)]
theorem Xd.row_eq(x:Xd):Xd.row x= [.int .i64 x.Tide.Mean,.sl (zB Xc.row x.Tide.Parts),.sl (zB Xa.row x.Surges)]:=rfl
instance:Row Xd.row 3:=⟨fun _=>rfl,zC rfl⟩
instance:OfTy (.st [(.st [(.int .i64),(.sl (.st [(.int .i64),(.int .i64),(.int .i64)]))]),(.sl (.st [(.int .i64),(.int .i64),(.int .i64)]))]) Xd.row:=⟨fun ds h=>by
 obtain⟨a0,b0,h0,t0,rfl⟩:=h;obtain⟨a1,b1,h1,t1,rfl⟩:=t0;obtain rfl:=t1;obtain⟨x0,rfl⟩:=OfTy.of (row:=Xl.row) _ h0;obtain⟨x1,rfl⟩:=OfTy.of (row:=(rL Xa.row)) _ h1;exact⟨⟨x0,x1⟩,rfl⟩⟩
structure X7 where
 Name:V zA
 Wait:Y
 deriving DecidableEq
def X7.row(x:X7):V D:= [.str x.Name,.bool x.Wait]
theorem X7.row_eq(x:X7):X7.row x= [.str x.Name,.bool x.Wait]:=rfl
instance:Row X7.row 2:=⟨fun _=>rfl,zC rfl⟩
instance:FlatRow X7.row:=⟨fun x d hd=>by simp only[X7.row_eq,zI,zH,or_false] at hd; rcases hd with rfl | rfl<;>rfl⟩
instance:OfTy (.st [.str,.bool]) X7.row:=⟨fun ds h=>by
 obtain⟨a0,b0,h0,t0,rfl⟩:=h;obtain⟨a1,b1,h1,t1,rfl⟩:=t0;obtain rfl:=t1;obtain⟨x0,rfl⟩:=OfTy.of (row:=rS) _ h0;obtain⟨x1,rfl⟩:=OfTy.of (row:=rB) _ h1;exact⟨⟨x0,x1⟩,rfl⟩⟩
structure X2 where
 A:X
 B:X
 Depth:X
 Minutes:X
 Meet:Y
 deriving DecidableEq
def X2.row(x:X2):V D:= [.int .i64 x.A,.int .i64 x.B,.int .i64 x.Depth,.int .i64 x.Minutes,.bool x.Meet]
theorem X2.row_eq(x:X2):X2.row x= [.int .i64 x.A,.int .i64 x.B,.int .i64 x.Depth,.int .i64 x.Minutes,.bool x.Meet]:=rfl
instance:Row X2.row 5:=⟨fun _=>rfl,zC rfl⟩
instance:FlatRow X2.row:=⟨fun x d hd=>by simp only[X2.row_eq,zI,zH,or_false] at hd; rcases hd with rfl | rfl | rfl | rfl | rfl<;>rfl⟩
instance:OfTy (.st [(.int .i64),(.int .i64),(.int .i64),(.int .i64),.bool]) X2.row:=⟨fun ds h=>by
 obtain⟨a0,b0,h0,t0,rfl⟩:=h;obtain⟨a1,b1,h1,t1,rfl⟩:=t0;obtain⟨a2,b2,h2,t2,rfl⟩:=t1;obtain⟨a3,b3,h3,t3,rfl⟩:=t2;obtain⟨a4,b4,h4,t4,rfl⟩:=t3;obtain rfl:=t4;obtain⟨x0,rfl⟩:=OfTy.of (row:=rI) _ h0;obtain⟨x1,rfl⟩:=OfTy.of (row:=rI) _ h1;obtain⟨x2,rfl⟩:=OfTy.of (row:=rI) _ h2;obtain⟨x3,rfl⟩:=OfTy.of (row:=rI) _ h3;obtain⟨x4,rfl⟩:=OfTy.of (row:=rB) _ h4;exact⟨⟨x0,x1,x2,x3,x4⟩,rfl⟩⟩
structure X1 where
 Points:V X7
 Segments:V X2
 deriving DecidableEq
def X1.row(x:X1):V D:= [.sl (zB X7.row x.Points),.sl (zB X2.row x.Segments)]
theorem X1.row_eq(x:X1):X1.row x= [.sl (zB X7.row x.Points),.sl (zB X2.row x.Segments)]:=rfl
instance:Row X1.row 2:=⟨fun _=>rfl,zC rfl⟩
instance:OfTy (.st [(.sl (.st [.str,.bool])),(.sl (.st [(.int .i64),(.int .i64),(.int .i64),(.int .i64),.bool]))]) X1.row:=⟨fun ds h=>by
 obtain⟨a0,b0,h0,t0,rfl⟩:=h;obtain⟨a1,b1,h1,t1,rfl⟩:=t0;obtain rfl:=t1;obtain⟨x0,rfl⟩:=OfTy.of (row:=(rL X7.row)) _ h0;obtain⟨x1,rfl⟩:=OfTy.of (row:=(rL X2.row)) _ h1;exact⟨⟨x0,x1⟩,rfl⟩⟩
structure X6 where
 Name:V zA
 Length:X
 Draught:X
 Line:X
 Tugs:X
 Slow:Y
 deriving DecidableEq
def X6.row(x:X6):V D:= [.str x.Name,.int .i64 x.Length,.int .i64 x.Draught,.int .i64 x.Line,.int .i64 x.Tugs,.bool x.Slow]
theorem X6.row_eq(x:X6):X6.row x= [.str x.Name,.int .i64 x.Length,.int .i64 x.Draught,.int .i64 x.Line,.int .i64 x.Tugs,.bool x.Slow]:=rfl
instance:Row X6.row 6:=⟨fun _=>rfl,zC rfl⟩
instance:FlatRow X6.row:=⟨fun x d hd=>by simp only[X6.row_eq,zI,zH,or_false] at hd; rcases hd with rfl | rfl | rfl | rfl | rfl | rfl<;>rfl⟩
instance:OfTy (.st [.str,(.int .i64),(.int .i64),(.int .i64),(.int .i64),.bool]) X6.row:=⟨fun ds h=>by
 obtain⟨a0,b0,h0,t0,rfl⟩:=h;obtain⟨a1,b1,h1,t1,rfl⟩:=t0;obtain⟨a2,b2,h2,t2,rfl⟩:=t1;obtain⟨a3,b3,h3,t3,rfl⟩:=t2;obtain⟨a4,b4,h4,t4,rfl⟩:=t3;obtain⟨a5,b5,h5,t5,rfl⟩:=t4;obtain rfl:=t5;obtain⟨x0,rfl⟩:=OfTy.of (row:=rS) _ h0;obtain⟨x1,rfl⟩:=OfTy.of (row:=rI) _ h1;obtain⟨x2,rfl⟩:=OfTy.of (row:=rI) _ h2;obtain⟨x3,rfl⟩:=OfTy.of (row:=rI) _ h3;obtain⟨x4,rfl⟩:=OfTy.of (row:=rI) _ h4;obtain⟨x5,rfl⟩:=OfTy.of (row:=rB) _ h5;exact⟨⟨x0,x1,x2,x3,x4,x5⟩,rfl⟩⟩
structure Xh where
 Gap:X
 NoMeet:Y
 deriving DecidableEq
def Xh.row(x:Xh):V D:= [.int .i64 x.Gap,.bool x.NoMeet]
theorem Xh.row_eq(x:Xh):Xh.row x= [.int .i64 x.Gap,.bool x.NoMeet]:=rfl
instance:Row Xh.row 2:=⟨fun _=>rfl,zC rfl⟩
instance:FlatRow Xh.row:=⟨fun x d hd=>by simp only[Xh.row_eq,zI,zH,or_false] at hd; rcases hd with rfl | rfl<;>rfl⟩
instance:OfTy (.st [(.int .i64),.bool]) Xh.row:=⟨fun ds h=>by
 obtain⟨a0,b0,h0,t0,rfl⟩:=h;obtain⟨a1,b1,h1,t1,rfl⟩:=t0;obtain rfl:=t1;obtain⟨x0,rfl⟩:=OfTy.of (row:=rI) _ h0;obtain⟨x1,rfl⟩:=OfTy.of (row:=rB) _ h1;exact⟨⟨x0,x1⟩,rfl⟩⟩
structure Xm where
 Tugs:X
 Pilots:X
 Rest:X
 Moves:V X
 deriving DecidableEq
def Xm.row(x:Xm):V D:= [.int .i64 x.Tugs,.int .i64 x.Pilots,.int .i64 x.Rest,.sl (zB rI x.Moves)]
theorem Xm.row_eq(x:Xm):Xm.row x= [.int .i64 x.Tugs,.int .i64 x.Pilots,.int .i64 x.Rest,.sl (zB rI x.Moves)]:=rfl
instance:Row Xm.row 4:=⟨fun _=>rfl,zC rfl⟩
instance:OfTy (.st [(.int .i64),(.int .i64),(.int .i64),(.sl (.int .i64))]) Xm.row:=⟨fun ds h=>by
 obtain⟨a0,b0,h0,t0,rfl⟩:=h;obtain⟨a1,b1,h1,t1,rfl⟩:=t0;obtain⟨a2,b2,h2,t2,rfl⟩:=t1;obtain⟨a3,b3,h3,t3,rfl⟩:=t2;obtain rfl:=t3;obtain⟨x0,rfl⟩:=OfTy.of (row:=rI) _ h0;obtain⟨x1,rfl⟩:=OfTy.of (row:=rI) _ h1;obtain⟨x2,rfl⟩:=OfTy.of (row:=rI) _ h2;obtain⟨x3,rfl⟩:=OfTy.of (row:=(rL rI)) _ h3;exact⟨⟨x0,x1,x2,x3⟩,rfl⟩⟩
structure X4 where
 Forecast:Xd
 Chart:X1
 Fleet:V X6
 Regime:Xh
 Crew:Xm
 deriving DecidableEq
def X4.row(x:X4):V D:= [.int .i64 x.Forecast.Tide.Mean,.sl (zB Xc.row x.Forecast.Tide.Parts),.sl (zB Xa.row x.Forecast.Surges),.sl (zB X7.row x.Chart.Points),.sl (zB X2.row x.Chart.Segments),.sl (zB X6.row x.Fleet),.int .i64 x.Regime.Gap,.bool x.Regime.NoMeet,.int .i64 x.Crew.Tugs,.int .i64 x.Crew.Pilots,.int .i64 x.Crew.Rest,.sl (zB rI x.Crew.Moves)]
theorem X4.row_eq(x:X4):X4.row x= [.int .i64 x.Forecast.Tide.Mean,.sl (zB Xc.row x.Forecast.Tide.Parts),.sl (zB Xa.row x.Forecast.Surges),.sl (zB X7.row x.Chart.Points),.sl (zB X2.row x.Chart.Segments),.sl (zB X6.row x.Fleet),.int .i64 x.Regime.Gap,.bool x.Regime.NoMeet,.int .i64 x.Crew.Tugs,.int .i64 x.Crew.Pilots,.int .i64 x.Crew.Rest,.sl (zB rI x.Crew.Moves)]:=rfl
instance:Row X4.row 12:=⟨fun _=>rfl,zC rfl⟩
instance:OfTy (.st [(.st [(.st [(.int .i64),(.sl (.st [(.int .i64),(.int .i64),(.int .i64)]))]),(.sl (.st [(.int .i64),(.int .i64),(.int .i64)]))]),(.st [(.sl (.st [.str,.bool])),(.sl (.st [(.int .i64),(.int .i64),(.int .i64),(.int .i64),.bool]))]),(.sl (.st [.str,(.int .i64),(.int .i64),(.int .i64),(.int .i64),.bool])),(.st [(.int .i64),.bool]),(.st [(.int .i64),(.int .i64),(.int .i64),(.sl (.int .i64))])]) X4.row:=⟨fun ds h=>by
 obtain⟨a0,b0,h0,t0,rfl⟩:=h;obtain⟨a1,b1,h1,t1,rfl⟩:=t0;obtain⟨a2,b2,h2,t2,rfl⟩:=t1;obtain⟨a3,b3,h3,t3,rfl⟩:=t2;obtain⟨a4,b4,h4,t4,rfl⟩:=t3;obtain rfl:=t4;obtain⟨x0,rfl⟩:=OfTy.of (row:=Xd.row) _ h0;obtain⟨x1,rfl⟩:=OfTy.of (row:=X1.row) _ h1;obtain⟨x2,rfl⟩:=OfTy.of (row:=(rL X6.row)) _ h2;obtain⟨x3,rfl⟩:=OfTy.of (row:=Xh.row) _ h3;obtain⟨x4,rfl⟩:=OfTy.of (row:=Xm.row) _ h4;exact⟨⟨x0,x1,x2,x3,x4⟩,rfl⟩⟩
structure Xb where
 Ship:X
 From:X
 To:X
 Ready:X
 Due:X
 deriving DecidableEq
def Xb.row(x:Xb):V D:= [.int .i64 x.Ship,.int .i64 x.From,.int .i64 x.To,.int .i64 x.Ready,.int .i64 x.Due]
theorem Xb.row_eq(x:Xb):Xb.row x= [.int .i64 x.Ship,.int .i64 x.From,.int .i64 x.To,.int .i64 x.Ready,.int .i64 x.Due]:=rfl
instance:Row Xb.row 5:=⟨fun _=>rfl,zC rfl⟩
instance:FlatRow Xb.row:=⟨fun x d hd=>by simp only[Xb.row_eq,zI,zH,or_false] at hd; rcases hd with rfl | rfl | rfl | rfl | rfl<;>rfl⟩
instance:OfTy (.st [(.int .i64),(.int .i64),(.int .i64),(.int .i64),(.int .i64)]) Xb.row:=⟨fun ds h=>by
 obtain⟨a0,b0,h0,t0,rfl⟩:=h;obtain⟨a1,b1,h1,t1,rfl⟩:=t0;obtain⟨a2,b2,h2,t2,rfl⟩:=t1;obtain⟨a3,b3,h3,t3,rfl⟩:=t2;obtain⟨a4,b4,h4,t4,rfl⟩:=t3;obtain rfl:=t4;obtain⟨x0,rfl⟩:=OfTy.of (row:=rI) _ h0;obtain⟨x1,rfl⟩:=OfTy.of (row:=rI) _ h1;obtain⟨x2,rfl⟩:=OfTy.of (row:=rI) _ h2;obtain⟨x3,rfl⟩:=OfTy.of (row:=rI) _ h3;obtain⟨x4,rfl⟩:=OfTy.of (row:=rI) _ h4;exact⟨⟨x0,x1,x2,x3,x4⟩,rfl⟩⟩
structure X3 where
 Ship:X
 Segment:X
 Toward:Y
 Start:X
 End:X
 deriving DecidableEq
def X3.row(x:X3):V D:= [.int .i64 x.Ship,.int .i64 x.Segment,.bool x.Toward,.int .i64 x.Start,.int .i64 x.End]
theorem X3.row_eq(x:X3):X3.row x= [.int .i64 x.Ship,.int .i64 x.Segment,.bool x.Toward,.int .i64 x.Start,.int .i64 x.End]:=rfl
instance:Row X3.row 5:=⟨fun _=>rfl,zC rfl⟩
instance:FlatRow X3.row:=⟨fun x d hd=>by simp only[X3.row_eq,zI,zH,or_false] at hd; rcases hd with rfl | rfl | rfl | rfl | rfl<;>rfl⟩
instance:OfTy (.st [(.int .i64),(.int .i64),.bool,(.int .i64),(.int .i64)]) X3.row:=⟨fun ds h=>by
 obtain⟨a0,b0,h0,t0,rfl⟩:=h;obtain⟨a1,b1,h1,t1,rfl⟩:=t0;obtain⟨a2,b2,h2,t2,rfl⟩:=t1;obtain⟨a3,b3,h3,t3,rfl⟩:=t2;obtain⟨a4,b4,h4,t4,rfl⟩:=t3;obtain rfl:=t4;obtain⟨x0,rfl⟩:=OfTy.of (row:=rI) _ h0;obtain⟨x1,rfl⟩:=OfTy.of (row:=rI) _ h1;obtain⟨x2,rfl⟩:=OfTy.of (row:=rB) _ h2;obtain⟨x3,rfl⟩:=OfTy.of (row:=rI) _ h3;obtain⟨x4,rfl⟩:=OfTy.of (row:=rI) _ h4;exact⟨⟨x0,x1,x2,x3,x4⟩,rfl⟩⟩
structure X0 where
 Start:X
 Arrival:X
 Cost:X
 Passages:V X3
 deriving DecidableEq
def X0.row(x:X0):V D:= [.int .i64 x.Start,.int .i64 x.Arrival,.int .i64 x.Cost,.sl (zB X3.row x.Passages)]
theorem X0.row_eq(x:X0):X0.row x= [.int .i64 x.Start,.int .i64 x.Arrival,.int .i64 x.Cost,.sl (zB X3.row x.Passages)]:=rfl
instance:Row X0.row 4:=⟨fun _=>rfl,zC rfl⟩
instance:OfTy (.st [(.int .i64),(.int .i64),(.int .i64),(.sl (.st [(.int .i64),(.int .i64),.bool,(.int .i64),(.int .i64)]))]) X0.row:=⟨fun ds h=>by
 obtain⟨a0,b0,h0,t0,rfl⟩:=h;obtain⟨a1,b1,h1,t1,rfl⟩:=t0;obtain⟨a2,b2,h2,t2,rfl⟩:=t1;obtain⟨a3,b3,h3,t3,rfl⟩:=t2;obtain rfl:=t3;obtain⟨x0,rfl⟩:=OfTy.of (row:=rI) _ h0;obtain⟨x1,rfl⟩:=OfTy.of (row:=rI) _ h1;obtain⟨x2,rfl⟩:=OfTy.of (row:=rI) _ h2;obtain⟨x3,rfl⟩:=OfTy.of (row:=(rL X3.row)) _ h3;exact⟨⟨x0,x1,x2,x3⟩,rfl⟩⟩
structure X5 where
 From:X
 To:X
 deriving DecidableEq
def X5.row(x:X5):V D:= [.int .i64 x.From,.int .i64 x.To]
theorem X5.row_eq(x:X5):X5.row x= [.int .i64 x.From,.int .i64 x.To]:=rfl
instance:Row X5.row 2:=⟨fun _=>rfl,zC rfl⟩
instance:FlatRow X5.row:=⟨fun x d hd=>by simp only[X5.row_eq,zI,zH,or_false] at hd; rcases hd with rfl | rfl<;>rfl⟩
instance:OfTy (.st [(.int .i64),(.int .i64)]) X5.row:=⟨fun ds h=>by
 obtain⟨a0,b0,h0,t0,rfl⟩:=h;obtain⟨a1,b1,h1,t1,rfl⟩:=t0;obtain rfl:=t1;obtain⟨x0,rfl⟩:=OfTy.of (row:=rI) _ h0;obtain⟨x1,rfl⟩:=OfTy.of (row:=rI) _ h1;exact⟨⟨x0,x1⟩,rfl⟩⟩
structure Xe where
 h:X4
 lists:V (V X0)
 clash:V (V (V (V Y)))
 rest:V X
 best:V X
 cost:X
 found:Y
 deriving DecidableEq
def Xe.row(x:Xe):V D:= [.int .i64 x.h.Forecast.Tide.Mean,.sl (zB Xc.row x.h.Forecast.Tide.Parts),.sl (zB Xa.row x.h.Forecast.Surges),.sl (zB X7.row x.h.Chart.Points),.sl (zB X2.row x.h.Chart.Segments),.sl (zB X6.row x.h.Fleet),.int .i64 x.h.Regime.Gap,.bool x.h.Regime.NoMeet,.int .i64 x.h.Crew.Tugs,.int .i64 x.h.Crew.Pilots,.int .i64 x.h.Crew.Rest,.sl (zB rI x.h.Crew.Moves),.sl (zB (rL X0.row) x.lists),.sl (zB (rL (rL (rL rB))) x.clash),.sl (zB rI x.rest),.sl (zB rI x.best),.int .i64 x.cost,.bool x.found]
theorem Xe.row_eq(x:Xe):Xe.row x= [.int .i64 x.h.Forecast.Tide.Mean,.sl (zB Xc.row x.h.Forecast.Tide.Parts),.sl (zB Xa.row x.h.Forecast.Surges),.sl (zB X7.row x.h.Chart.Points),.sl (zB X2.row x.h.Chart.Segments),.sl (zB X6.row x.h.Fleet),.int .i64 x.h.Regime.Gap,.bool x.h.Regime.NoMeet,.int .i64 x.h.Crew.Tugs,.int .i64 x.h.Crew.Pilots,.int .i64 x.h.Crew.Rest,.sl (zB rI x.h.Crew.Moves),.sl (zB (rL X0.row) x.lists),.sl (zB (rL (rL (rL rB))) x.clash),.sl (zB rI x.rest),.sl (zB rI x.best),.int .i64 x.cost,.bool x.found]:=rfl
instance:Row Xe.row 18:=⟨fun _=>rfl,zC rfl⟩
instance:OfTy (.st [(.st [(.st [(.st [(.int .i64),(.sl (.st [(.int .i64),(.int .i64),(.int .i64)]))]),(.sl (.st [(.int .i64),(.int .i64),(.int .i64)]))]),(.st [(.sl (.st [.str,.bool])),(.sl (.st [(.int .i64),(.int .i64),(.int .i64),(.int .i64),.bool]))]),(.sl (.st [.str,(.int .i64),(.int .i64),(.int .i64),(.int .i64),.bool])),(.st [(.int .i64),.bool]),(.st [(.int .i64),(.int .i64),(.int .i64),(.sl (.int .i64))])]),(.sl (.sl (.st [(.int .i64),(.int .i64),(.int .i64),(.sl (.st [(.int .i64),(.int .i64),.bool,(.int .i64),(.int .i64)]))]))),(.sl (.sl (.sl (.sl .bool)))),(.sl (.int .i64)),(.sl (.int .i64)),(.int .i64),.bool]) Xe.row:=⟨fun ds h=>by
 obtain⟨a0,b0,h0,t0,rfl⟩:=h;obtain⟨a1,b1,h1,t1,rfl⟩:=t0;obtain⟨a2,b2,h2,t2,rfl⟩:=t1;obtain⟨a3,b3,h3,t3,rfl⟩:=t2;obtain⟨a4,b4,h4,t4,rfl⟩:=t3;obtain⟨a5,b5,h5,t5,rfl⟩:=t4;obtain⟨a6,b6,h6,t6,rfl⟩:=t5;obtain rfl:=t6;obtain⟨x0,rfl⟩:=OfTy.of (row:=X4.row) _ h0;obtain⟨x1,rfl⟩:=OfTy.of (row:=(rL (rL X0.row))) _ h1;obtain⟨x2,rfl⟩:=OfTy.of (row:=(rL (rL (rL (rL rB))))) _ h2;obtain⟨x3,rfl⟩:=OfTy.of (row:=(rL rI)) _ h3;obtain⟨x4,rfl⟩:=OfTy.of (row:=(rL rI)) _ h4;obtain⟨x5,rfl⟩:=OfTy.of (row:=rI) _ h5;obtain⟨x6,rfl⟩:=OfTy.of (row:=rB) _ h6;exact⟨⟨x0,x1,x2,x3,x4,x5,x6⟩,rfl⟩⟩
abbrev AR(x:Xe):V XC:= [.d (.int .i64 x.h.Forecast.Tide.Mean),.d (.sl (zB Xc.row x.h.Forecast.Tide.Parts)),.d (.sl (zB Xa.row x.h.Forecast.Surges)),.d (.sl (zB X7.row x.h.Chart.Points)),.d (.sl (zB X2.row x.h.Chart.Segments)),.d (.sl (zB X6.row x.h.Fleet)),.d (.int .i64 x.h.Regime.Gap),.d (.bool x.h.Regime.NoMeet),.d (.int .i64 x.h.Crew.Tugs),.d (.int .i64 x.h.Crew.Pilots),.d (.int .i64 x.h.Crew.Rest),.d (.sl (zB rI x.h.Crew.Moves)),.d (.sl (zB (rL X0.row) x.lists)),.d (.sl (zB (rL (rL (rL rB))) x.clash)),.d (.sl (zB rI x.rest)),.r 0,.d (.int .i64 x.cost),.d (.bool x.found)]
abbrev AS(x:Xe):Av:= [(1,zB rI x.best)]
structure X9 where
 From:X
 To:X
 A:X
 B:X
 deriving DecidableEq
def X9.row(x:X9):V D:= [.int .i64 x.From,.int .i64 x.To,.int .i64 x.A,.int .i64 x.B]
theorem X9.row_eq(x:X9):X9.row x= [.int .i64 x.From,.int .i64 x.To,.int .i64 x.A,.int .i64 x.B]:=rfl
instance:Row X9.row 4:=⟨fun _=>rfl,zC rfl⟩
instance:FlatRow X9.row:=⟨fun x d hd=>by simp only[X9.row_eq,zI,zH,or_false] at hd; rcases hd with rfl | rfl | rfl | rfl<;>rfl⟩
instance:OfTy (.st [(.int .i64),(.int .i64),(.int .i64),(.int .i64)]) X9.row:=⟨fun ds h=>by
 obtain⟨a0,b0,h0,t0,rfl⟩:=h;obtain⟨a1,b1,h1,t1,rfl⟩:=t0;obtain⟨a2,b2,h2,t2,rfl⟩:=t1;obtain⟨a3,b3,h3,t3,rfl⟩:=t2;obtain rfl:=t3;obtain⟨x0,rfl⟩:=OfTy.of (row:=rI) _ h0;obtain⟨x1,rfl⟩:=OfTy.of (row:=rI) _ h1;obtain⟨x2,rfl⟩:=OfTy.of (row:=rI) _ h2;obtain⟨x3,rfl⟩:=OfTy.of (row:=rI) _ h3;exact⟨⟨x0,x1,x2,x3⟩,rfl⟩⟩
structure X8 where
 i0:Y
 i1:Y
 i2:Y
 i3:Y
 i4:Y
 i5:Y
 i6:Y
 i7:Y
 deriving DecidableEq
def X8.row(x:X8):V D:= [.bool x.i0,.bool x.i1,.bool x.i2,.bool x.i3,.bool x.i4,.bool x.i5,.bool x.i6,.bool x.i7]
theorem X8.row_eq(x:X8):X8.row x= [.bool x.i0,.bool x.i1,.bool x.i2,.bool x.i3,.bool x.i4,.bool x.i5,.bool x.i6,.bool x.i7]:=rfl
instance:Row X8.row 8:=⟨fun _=>rfl,zC rfl⟩
def X8.set(x:X8)(n:Z)(v:Y):X8:=⟨bif n==0 then v else x.i0,bif n==1 then v else x.i1,bif n==2 then v else x.i2,bif n==3 then v else x.i3,bif n==4 then v else x.i4,bif n==5 then v else x.i5,bif n==6 then v else x.i6,bif n==7 then v else x.i7⟩
theorem X8.set_eq(x:X8){n:Z}{v:Y}(h:n<8):BH (zB AC.dat (X8.row x)) n [.dat (.bool v)]=zB AC.dat (X8.row (X8.set x n v)):=by
 match n,h with
 | 0,_=>rfl
 | 1,_=>rfl
 | 2,_=>rfl
 | 3,_=>rfl
 | 4,_=>rfl
 | 5,_=>rfl
 | 6,_=>rfl
 | 7,_=>rfl
instance:FlatRow X8.row:=⟨fun x d hd=>by simp only[X8.row_eq,zI,zH,or_false] at hd; rcases hd with rfl | rfl | rfl | rfl | rfl | rfl | rfl | rfl<;>rfl⟩
instance:OfTy (.st [.bool,.bool,.bool,.bool,.bool,.bool,.bool,.bool]) X8.row:=⟨fun ds h=>by
 obtain⟨a0,b0,h0,t0,rfl⟩:=h;obtain⟨a1,b1,h1,t1,rfl⟩:=t0;obtain⟨a2,b2,h2,t2,rfl⟩:=t1;obtain⟨a3,b3,h3,t3,rfl⟩:=t2;obtain⟨a4,b4,h4,t4,rfl⟩:=t3;obtain⟨a5,b5,h5,t5,rfl⟩:=t4;obtain⟨a6,b6,h6,t6,rfl⟩:=t5;obtain⟨a7,b7,h7,t7,rfl⟩:=t6;obtain rfl:=t7;obtain⟨x0,rfl⟩:=OfTy.of (row:=rB) _ h0;obtain⟨x1,rfl⟩:=OfTy.of (row:=rB) _ h1;obtain⟨x2,rfl⟩:=OfTy.of (row:=rB) _ h2;obtain⟨x3,rfl⟩:=OfTy.of (row:=rB) _ h3;obtain⟨x4,rfl⟩:=OfTy.of (row:=rB) _ h4;obtain⟨x5,rfl⟩:=OfTy.of (row:=rB) _ h5;obtain⟨x6,rfl⟩:=OfTy.of (row:=rB) _ h6;obtain⟨x7,rfl⟩:=OfTy.of (row:=rB) _ h7;exact⟨⟨x0,x1,x2,x3,x4,x5,x6,x7⟩,rfl⟩⟩
structure Xk where
 waits:V Y
 minutes:V X
 sure:V (V X5)
 deriving DecidableEq
def Xk.row(x:Xk):V D:= [.sl (zB rB x.waits),.sl (zB rI x.minutes),.sl (zB (rL X5.row) x.sure)]
theorem Xk.row_eq(x:Xk):Xk.row x= [.sl (zB rB x.waits),.sl (zB rI x.minutes),.sl (zB (rL X5.row) x.sure)]:=rfl
instance:Row Xk.row 3:=⟨fun _=>rfl,zC rfl⟩
instance:OfTy (.st [(.sl .bool),(.sl (.int .i64)),(.sl (.sl (.st [(.int .i64),(.int .i64)])))]) Xk.row:=⟨fun ds h=>by
 obtain⟨a0,b0,h0,t0,rfl⟩:=h;obtain⟨a1,b1,h1,t1,rfl⟩:=t0;obtain⟨a2,b2,h2,t2,rfl⟩:=t1;obtain rfl:=t2;obtain⟨x0,rfl⟩:=OfTy.of (row:=(rL rB)) _ h0;obtain⟨x1,rfl⟩:=OfTy.of (row:=(rL rI)) _ h1;obtain⟨x2,rfl⟩:=OfTy.of (row:=(rL (rL X5.row))) _ h2;exact⟨⟨x0,x1,x2⟩,rfl⟩⟩
structure Xj where
 i0:X
 i1:X
 deriving DecidableEq
def Xj.row(x:Xj):V D:= [.int .i64 x.i0,.int .i64 x.i1]
theorem Xj.row_eq(x:Xj):Xj.row x= [.int .i64 x.i0,.int .i64 x.i1]:=rfl
instance:Row Xj.row 2:=⟨fun _=>rfl,zC rfl⟩
instance:FlatRow Xj.row:=⟨fun x d hd=>by simp only[Xj.row_eq,zI,zH,or_false] at hd; rcases hd with rfl | rfl<;>rfl⟩
instance:OfTy (.st [(.int .i64),(.int .i64)]) Xj.row:=⟨fun ds h=>by
 obtain⟨a0,b0,h0,t0,rfl⟩:=h;obtain⟨a1,b1,h1,t1,rfl⟩:=t0;obtain rfl:=t1;obtain⟨x0,rfl⟩:=OfTy.of (row:=rI) _ h0;obtain⟨x1,rfl⟩:=OfTy.of (row:=rI) _ h1;exact⟨⟨x0,x1⟩,rfl⟩⟩
structure Xf where
 h:X4
 choices:V (V X0)
 plan:V X0
 choice:V X
 best:V X
 least:Xj
 found:Y
abbrev D0(F_w0:FuncId)(caps_w0:V D)(x:Xf):V XC:= [.d (.int .i64 x.h.Forecast.Tide.Mean),.d (.sl (zB Xc.row x.h.Forecast.Tide.Parts)),.d (.sl (zB Xa.row x.h.Forecast.Surges)),.d (.sl (zB X7.row x.h.Chart.Points)),.d (.sl (zB X2.row x.h.Chart.Segments)),.d (.sl (zB X6.row x.h.Fleet)),.d (.int .i64 x.h.Regime.Gap),.d (.bool x.h.Regime.NoMeet),.d (.int .i64 x.h.Crew.Tugs),.d (.int .i64 x.h.Crew.Pilots),.d (.int .i64 x.h.Crew.Rest),.d (.sl (zB rI x.h.Crew.Moves)),.d (.sl (zB (rL X0.row) x.choices)),.d (.clo F_w0 caps_w0),.r 0,.r 1,.r 2,.d (.int .i64 x.least.i0),.d (.int .i64 x.least.i1),.d (.bool x.found)]
abbrev D1(x:Xf):Av:= [(4,zB X0.row x.plan),(1,zB rI x.choice),(1,zB rI x.best)]
structure Xg where
 sets:V X
 most:X
 groups:V X
 who:V X
 deriving DecidableEq
def Xg.row(x:Xg):V D:= [.sl (zB rU x.sets),.int .i64 x.most,.sl (zB rU x.groups),.sl (zB rI x.who)]
theorem Xg.row_eq(x:Xg):Xg.row x= [.sl (zB rU x.sets),.int .i64 x.most,.sl (zB rU x.groups),.sl (zB rI x.who)]:=rfl
instance:Row Xg.row 4:=⟨fun _=>rfl,zC rfl⟩
instance:OfTy (.st [(.sl (.int .u64)),(.int .i64),(.sl (.int .u64)),(.sl (.int .i64))]) Xg.row:=⟨fun ds h=>by
 obtain⟨a0,b0,h0,t0,rfl⟩:=h;obtain⟨a1,b1,h1,t1,rfl⟩:=t0;obtain⟨a2,b2,h2,t2,rfl⟩:=t1;obtain⟨a3,b3,h3,t3,rfl⟩:=t2;obtain rfl:=t3;obtain⟨x0,rfl⟩:=OfTy.of (row:=(rL rU)) _ h0;obtain⟨x1,rfl⟩:=OfTy.of (row:=rI) _ h1;obtain⟨x2,rfl⟩:=OfTy.of (row:=(rL rU)) _ h2;obtain⟨x3,rfl⟩:=OfTy.of (row:=(rL rI)) _ h3;exact⟨⟨x0,x1,x2,x3⟩,rfl⟩⟩
abbrev Cu(x:Xg):V XC:= [.d (.sl (zB rU x.sets)),.d (.int .i64 x.most),.r 0,.r 1]
abbrev Cv(x:Xg):Av:= [(1,zB rU x.groups),(1,zB rI x.who)]
def uY:=zE @Yv (zE @gB (zE @qi (zE @fz (zE @qg (zE @gA (zE @qh (zE @fy (zE @qf (zE @Xc.row_eq (zE @Xl.row_eq (zE @Xa.row_eq (zE @Xd.row_eq (zE @X7.row_eq (zE @X2.row_eq (zE @X1.row_eq (zE @X6.row_eq (zE @Xh.row_eq (zE @Xm.row_eq (zE @X4.row_eq (zE @Xb.row_eq (zE @X3.row_eq (zE @X0.row_eq (zE @X5.row_eq (zE @Xe.row_eq (zE @X9.row_eq (zE @X8.row_eq (zE @Xk.row_eq (zE @Xj.row_eq (@Xg.row_eq)))))))))))))))))))))))))))))
def J:=zE uZ (zE ub (zE uc (zE ua uY)))
/- laws_szPartS -/
def Mm(a0:V Xc)(a1:X):W X:=
if(decide ((zM .i64 (a1 - (a0.length:X)))<(0:X))) then(
 O (-1:X))
else(
 O (zM .i64 (a1 - (a0.length:X))))
/- laws_szTide -/
def Pr(a0:Xl)(a1:X):W X:=
(Mm a0.Parts a1).bind fun r1=>
if(decide (r1<(0:X))) then(
 O (-1:X))
else(
 O r1)
/- laws_szSurgeS -/
def Ms(a0:V Xa)(a1:X):W X:=
if(decide ((zM .i64 (a1 - (a0.length:X)))<(0:X))) then(
 O (-1:X))
else(
 O (zM .i64 (a1 - (a0.length:X))))
/- laws_szForecast -/
def Mi(a0:Xd)(a1:X):W X:=
(Pr a0.Tide a1).bind fun r1=>
if(decide (r1<(0:X))) then(
 O (-1:X))
else(
 (Ms a0.Surges r1).bind fun r3=>
 if(decide (r3<(0:X))) then(
 O (-1:X))
 else(
 O r3))
/- laws_szPoint -/
def Mn(a0:X7)(a1:X):W X:=
if(decide ((zM .i64 (a1 - (a0.Name.length:X)))<(0:X))) then(
 O (-1:X))
else(
 O (zM .i64 (a1 - (a0.Name.length:X))))
/- laws_szPointS -/
def G7(a0:V X7):Z→X→X→W X
| 0,_,_=>U
| n+1,v2,v3=>
 if(decide (v3<(a0.length:X))) then(
 (ix a0 v3).bind fun x5=>
 (Mn x5 v2).bind fun r6=>
 if(decide (r6<(0:X))) then(
  O (-1:X))
 else(
  G7 a0 n r6 (zM .i64 (v3+(1:X)))))
 else(
 O v2)
def Mo(a0:V X7)(a1:X):W X:=
if(decide ((zM .i64 (a1 - (a0.length:X)))<(0:X))) then(
 O (-1:X))
else(
 G7 a0 bigN (zM .i64 (a1 - (a0.length:X))) (0:X))
/- laws_szSegmentS -/
def Mp(a0:V X2)(a1:X):W X:=
if(decide ((zM .i64 (a1 - (a0.length:X)))<(0:X))) then(
 O (-1:X))
else(
 O (zM .i64 (a1 - (a0.length:X))))
/- laws_szChart -/
def Mh(a0:X1)(a1:X):W X:=
(Mo a0.Points a1).bind fun r1=>
if(decide (r1<(0:X))) then(
 O (-1:X))
else(
 (Mp a0.Segments r1).bind fun r3=>
 if(decide (r3<(0:X))) then(
 O (-1:X))
 else(
 O r3))
/- laws_szShip -/
def Mq(a0:X6)(a1:X):W X:=
if(decide ((zM .i64 (a1 - (a0.Name.length:X)))<(0:X))) then(
 O (-1:X))
else(
 O (zM .i64 (a1 - (a0.Name.length:X))))
/- laws_szShipS -/
def G8(a0:V X6):Z→X→X→W X
| 0,_,_=>U
| n+1,v2,v3=>
 if(decide (v3<(a0.length:X))) then(
 (ix a0 v3).bind fun x5=>
 (Mq x5 v2).bind fun r6=>
 if(decide (r6<(0:X))) then(
  O (-1:X))
 else(
  G8 a0 n r6 (zM .i64 (v3+(1:X)))))
 else(
 O v2)
def Mr(a0:V X6)(a1:X):W X:=
if(decide ((zM .i64 (a1 - (a0.length:X)))<(0:X))) then(
 O (-1:X))
else(
 G8 a0 bigN (zM .i64 (a1 - (a0.length:X))) (0:X))
/- laws_szIntS -/
def Ml(a0:V X)(a1:X):W X:=
if(decide ((zM .i64 (a1 - (a0.length:X)))<(0:X))) then(
 O (-1:X))
else(
 O (zM .i64 (a1 - (a0.length:X))))
/- laws_szCrew -/
def Pq(a0:Xm)(a1:X):W X:=
(Ml a0.Moves a1).bind fun r1=>
if(decide (r1<(0:X))) then(
 O (-1:X))
else(
 O r1)
/- laws_szHarbour -/
def Mj(a0:X4)(a1:X):W X:=
(Mi a0.Forecast a1).bind fun r1=>
if(decide (r1<(0:X))) then(
 O (-1:X))
else(
 (Mh a0.Chart r1).bind fun r3=>
 if(decide (r3<(0:X))) then(
 O (-1:X))
 else(
 (Mr a0.Fleet r3).bind fun r5=>
 if(decide (r5<(0:X))) then(
  O (-1:X))
 else(
  (Pq a0.Crew r5).bind fun r7=>
  if(decide (r7<(0:X))) then(
  O (-1:X))
  else(
  O r7))))
/- laws_szCallS -/
def Mg(a0:V Xb)(a1:X):W X:=
if(decide ((zM .i64 (a1 - (a0.length:X)))<(0:X))) then(
 O (-1:X))
else(
 O (zM .i64 (a1 - (a0.length:X))))
/- laws_toPart -/
def Pu(a0:Xc):W Xc:=
O a0
/- laws_toPartS -/
def I2(a0:V Xc):Z→X→(V Xc)→W (V Xc)
| 0,_,_=>U
| n+1,v2,v3=>
 if(decide (v2<(a0.length:X))) then(
 (ix a0 v2).bind fun x5=>
 (Pu x5).bind fun r6=>
 (ix v3 v2).bind fun x7=>
 I2 a0 n (zM .i64 (v2+(1:X))) (v3.set (zD v2) r6))
 else(
 O v3)
def Mx(a0:V Xc):W (V Xc):=
(BM (a0.length:X) (a0.length:X) 24).bind fun n1=>
I2 a0 bigN (0:X) (zG n1 (⟨(0:X),(0:X),(0:X)⟩:Xc))
/- laws_toTide -/
def PB(a0:Xl):W Xl:=
(Mx a0.Parts).bind fun r1=>
O (⟨a0.Mean,r1⟩:Xl)
/- laws_toSurge -/
def PA(a0:Xa):W Xa:=
O a0
/- laws_toSurgeS -/
def I6(a0:V Xa):Z→X→(V Xa)→W (V Xa)
| 0,_,_=>U
| n+1,v2,v3=>
 if(decide (v2<(a0.length:X))) then(
 (ix a0 v2).bind fun x5=>
 (PA x5).bind fun r6=>
 (ix v3 v2).bind fun x7=>
 I6 a0 n (zM .i64 (v2+(1:X))) (v3.set (zD v2) r6))
 else(
 O v3)
def MB(a0:V Xa):W (V Xa):=
(BM (a0.length:X) (a0.length:X) 24).bind fun n1=>
I6 a0 bigN (0:X) (zG n1 (⟨(0:X),(0:X),(0:X)⟩:Xa))
/- laws_toForecast -/
def Mv(a0:Xd):W Xd:=
(PB a0.Tide).bind fun r1=>
(MB a0.Surges).bind fun r2=>
O (⟨r1,r2⟩:Xd)
/- laws_toPoint -/
def Pv(a0:X7):W X7:=
O a0
/- laws_toPointS -/
def I3(a0:V X7):Z→X→(V X7)→W (V X7)
| 0,_,_=>U
| n+1,v2,v3=>
 if(decide (v2<(a0.length:X))) then(
 (ix a0 v2).bind fun x5=>
 (Pv x5).bind fun r6=>
 (ix v3 v2).bind fun x7=>
 I3 a0 n (zM .i64 (v2+(1:X))) (v3.set (zD v2) r6))
 else(
 O v3)
def My(a0:V X7):W (V X7):=
(BM (a0.length:X) (a0.length:X) 24).bind fun n1=>
I3 a0 bigN (0:X) (zG n1 (⟨([]:V zA),E⟩:X7))
/- laws_toSegment -/
def Py(a0:X2):W X2:=
O a0
/- laws_toSegmentS -/
def I4(a0:V X2):Z→X→(V X2)→W (V X2)
| 0,_,_=>U
| n+1,v2,v3=>
 if(decide (v2<(a0.length:X))) then(
 (ix a0 v2).bind fun x5=>
 (Py x5).bind fun r6=>
 (ix v3 v2).bind fun x7=>
 I4 a0 n (zM .i64 (v2+(1:X))) (v3.set (zD v2) r6))
 else(
 O v3)
def Mz(a0:V X2):W (V X2):=
(BM (a0.length:X) (a0.length:X) 40).bind fun n1=>
I4 a0 bigN (0:X) (zG n1 (⟨(0:X),(0:X),(0:X),(0:X),E⟩:X2))
/- laws_toChart -/
def Mu(a0:X1):W X1:=
(My a0.Points).bind fun r1=>
(Mz a0.Segments).bind fun r2=>
O (⟨r1,r2⟩:X1)
/- laws_toShip -/
def Pz(a0:X6):W X6:=
O a0
/- laws_toShipS -/
def I5(a0:V X6):Z→X→(V X6)→W (V X6)
| 0,_,_=>U
| n+1,v2,v3=>
 if(decide (v2<(a0.length:X))) then(
 (ix a0 v2).bind fun x5=>
 (Pz x5).bind fun r6=>
 (ix v3 v2).bind fun x7=>
 I5 a0 n (zM .i64 (v2+(1:X))) (v3.set (zD v2) r6))
 else(
 O v3)
def MA(a0:V X6):W (V X6):=
(BM (a0.length:X) (a0.length:X) 56).bind fun n1=>
I5 a0 bigN (0:X) (zG n1 (⟨([]:V zA),(0:X),(0:X),(0:X),(0:X),E⟩:X6))
/- laws_toRegime -/
def Pw(a0:Xh):W Xh:=
O a0
/- laws_toIntS -/
def I1(a0:V X):Z→X→(V X)→W (V X)
| 0,_,_=>U
| n+1,v2,v3=>
 if(decide (v2<(a0.length:X))) then(
 (ix a0 v2).bind fun x5=>
 (ix v3 v2).bind fun x6=>
 I1 a0 n (zM .i64 (v2+(1:X))) (v3.set (zD v2) x5))
 else(
 O v3)
def Mw(a0:V X):W (V X):=
(BM (a0.length:X) (a0.length:X) 8).bind fun n1=>
I1 a0 bigN (0:X) (zG n1 (0:X))
/- laws_toCrew -/
def Pt(a0:Xm):W Xm:=
(Mw a0.Moves).bind fun r1=>
O (⟨a0.Tugs,a0.Pilots,a0.Rest,r1⟩:Xm)
/- laws_toHarbour -/
def I0(a0:X4):W X4:=
(Mv a0.Forecast).bind fun r1=>
(Mu a0.Chart).bind fun r2=>
(MA a0.Fleet).bind fun r3=>
(Pw a0.Regime).bind fun r4=>
(Pt a0.Crew).bind fun r5=>
O (⟨r1,r2,r3,r4,r5⟩:X4)
/- laws_toCall -/
def Ps(a0:Xb):W Xb:=
O a0
/- laws_toCallS -/
def HZ(a0:V Xb):Z→X→(V Xb)→W (V Xb)
| 0,_,_=>U
| n+1,v2,v3=>
 if(decide (v2<(a0.length:X))) then(
 (ix a0 v2).bind fun x5=>
 (Ps x5).bind fun r6=>
 (ix v3 v2).bind fun x7=>
 HZ a0 n (zM .i64 (v2+(1:X))) (v3.set (zD v2) r6))
 else(
 O v3)
def HY(a0:V Xb):W (V Xb):=
(BM (a0.length:X) (a0.length:X) 40).bind fun n1=>
HZ a0 bigN (0:X) (zG n1 (⟨(0:X),(0:X),(0:X),(0:X),(0:X)⟩:Xb))
/- spec_l01In -/
def Ax(a0 a1 a2:X):W Y:=
if(decide (a1≤a0)) then(
 O (decide (a0≤a2)))
else(
 O E)
/- spec_PartOk -/
def MS(a0:Xc):W Y:=
(Ax a0.Amp (0:X) (1000:X)).bind fun r1=>
if r1 then(
 (Ax a0.Period (4:X) (2880:X)).bind fun r3=>
 if r3 then(
 if((zM .i64 (zJ a0.Period (4:X)))==(0:X)) then(
  (Ax a0.Phase (0:X) (zM .i64 (a0.Period - (1:X)))).bind fun r6=>
  O r6)
 else(
  O E))
 else(
 O E))
else(
 O E)
/- spec_TideOk -/
def It(a0:Xl):Z→X→W Y
| 0,_=>U
| n+1,v4=>
 if(decide (v4<(a0.Parts.length:X))) then(
 (ix a0.Parts v4).bind fun x6=>
 (MS x6).bind fun r7=>
 if r7 then(
  It a0 n (zM .i64 (v4+(1:X))))
 else(
  O E))
 else(
 O F)
def N4(a0:Xl):W Y:=
(Ax a0.Mean (-1000:X) (1000:X)).bind fun r1=>
if r1 then(
 if(decide ((4:X)<(a0.Parts.length:X))) then(
 O E)
 else(
 It a0 bigN (0:X)))
else(
 O E)
/- spec_SurgeOk -/
def N3(a0:Xa):W Y:=
(Ax a0.From (0:X) (2880:X)).bind fun r1=>
if r1 then(
 (Ax a0.Low (-500:X) (500:X)).bind fun r3=>
 if r3 then(
 (Ax a0.High a0.Low (500:X)).bind fun r5=>
 O r5)
 else(
 O E))
else(
 O E)
/- spec_ForecastOk -/
def Ga(a0:Xd):Z→X→W Y
| 0,_=>U
| n+1,v7=>
 if(decide (v7<(a0.Surges.length:X))) then(
 (ix a0.Surges v7).bind fun x9=>
 (N3 x9).bind fun r10=>
 if r10 then(
  if(decide ((0:X)<v7)) then(
  (ix a0.Surges (zM .i64 (v7 - (1:X)))).bind fun x13=>
  if(decide (x9.From≤x13.From)) then(
   O E)
  else(
   Ga a0 n (zM .i64 (v7+(1:X)))))
  else(
  Ga a0 n (zM .i64 (v7+(1:X)))))
 else(
  O E))
 else(
 O F)
def K2(a0:Xd):W Y:=
(N4 a0.Tide).bind fun r1=>
if r1 then(
 (Ax (a0.Surges.length:X) (1:X) (6:X)).bind fun r3=>
 if r3 then(
 (ix a0.Surges (0:X)).bind fun x5=>
 if(x5.From !=(0:X)) then(
  O E)
 else(
  Ga a0 bigN (0:X)))
 else(
 O E))
else(
 O E)
/- spec_IsName -/
def MN(a0:V zA)(v1:X)(Er:X→W Y):W Y:=
Er (zM .i64 (v1+(1:X)))
def MM(a0:V zA)(v1:X)(Er:X→W Y)(v5:Y):W Y:=
if v5 then(
 MN a0 v1 Er)
else(
 if(v1==(0:X)) then(
 O E)
 else(
 (ix a0 v1).bind fun b8=>
 if(decide ((b8.toNat:X)<(48:X))) then(
  O E)
 else(
  if(decide ((57:X)<(b8.toNat:X))) then(
  O E)
  else(
  MN a0 v1 Er))))
def Gc(a0:V zA):Z→X→W Y
| 0,_=>U
| n+1,v1=>
 if(decide (v1<(a0.length:X))) then(
 (ix a0 v1).bind fun b3=>
 if(decide ((97:X)≤(b3.toNat:X))) then(
  MM a0 v1 (Gc a0 n) (decide ((b3.toNat:X)≤(122:X))))
 else(
  MM a0 v1 (Gc a0 n) E))
 else(
 (Ax (a0.length:X) (1:X) (8:X)).bind fun r11=>
 O r11)
def K5(a0:V zA):W Y:=
Gc a0 bigN (0:X)
/- spec_PointNamed -/
def Io(a1:V zA)(a0:X1):Z→X→W X
| 0,_=>U
| n+1,v1=>
 if(decide (v1<(a0.Points.length:X))) then(
 (ix a0.Points v1).bind fun x3=>
 if(x3.Name==a1) then(
  O v1)
 else(
  Io a1 a0 n (zM .i64 (v1+(1:X)))))
 else(
 O (-1:X))
def MX(a0:X1)(a1:V zA):W X:=
Io a1 a0 bigN (0:X)
/- spec_l05Joins -/
def Na(a0:X2)(a1 a2:X):W Y:=
if(a0.A==a1) then(
 if(a0.B==a2) then(
 O F)
 else(
 if(a0.A==a2) then(
  O (a0.B==a1))
 else(
  O E)))
else(
 if(a0.A==a2) then(
 O (a0.B==a1))
 else(
 O E))
/- spec_ChartOk -/
def Ia(a0:X1)(v11:X)(x13:X2)(y24:V X2)(y25:X)(NS:X→W Y):Z→X→W Y
| 0,_=>U
| n+1,v26=>
 if(decide (v26<y25)) then(
 (ix y24 v26).bind fun x28=>
 (Na x28 x13.A x13.B).bind fun r29=>
 if r29 then(
  O E)
 else(
  Ia a0 v11 x13 y24 y25 NS n (zM .i64 (v26+(1:X)))))
 else(
 NS (zM .i64 (v11+(1:X))))
def Eh(a0:X1):Z→X→W Y
| 0,_=>U
| n+1,v11=>
 if(decide (v11<(a0.Segments.length:X))) then(
 (ix a0.Segments v11).bind fun x13=>
 (Ax x13.A (0:X) (zM .i64 ((a0.Points.length:X) - (1:X)))).bind fun r14=>
 if r14 then(
  (Ax x13.B (0:X) (zM .i64 ((a0.Points.length:X) - (1:X)))).bind fun r16=>
  if r16 then(
  if(x13.A==x13.B) then(
   O E)
  else(
   (Ax x13.Depth (0:X) (3000:X)).bind fun r19=>
   if r19 then(
   (Ax x13.Minutes (1:X) (240:X)).bind fun r21=>
   if r21 then(
    (bnd (a0.Segments.length:X) v11 (0:X) a0.Segments.length).bind fun p23=>
    Ia a0 v11 x13 ((a0.Segments.drop p23.1).take (p23.2 - p23.1)) (((a0.Segments.drop p23.1).take (p23.2 - p23.1)).length:X) (Eh a0 n) bigN (0:X))
   else(
    O E))
   else(
   O E)))
  else(
  O E))
 else(
  O E))
 else(
 O F)
def I9(a0:X1):Z→X→W Y
| 0,_=>U
| n+1,v3=>
 if(decide (v3<(a0.Points.length:X))) then(
 (ix a0.Points v3).bind fun x5=>
 (K5 x5.Name).bind fun r6=>
 if r6 then(
  (MX a0 x5.Name).bind fun r9=>
  if(r9 !=v3) then(
  O E)
  else(
  I9 a0 n (zM .i64 (v3+(1:X)))))
 else(
  O E))
 else(
 Eh a0 bigN (0:X))
def D4(a0:X1):W Y:=
if(decide ((8:X)<(a0.Points.length:X))) then(
 O E)
else(
 if(decide ((10:X)<(a0.Segments.length:X))) then(
 O E)
 else(
 I9 a0 bigN (0:X)))
/- spec_ShipOk -/
def DO(a0:X6):W Y:=
(K5 a0.Name).bind fun r1=>
if r1 then(
 (Ax a0.Length (10:X) (400:X)).bind fun r3=>
 if r3 then(
 (Ax a0.Draught (100:X) (2000:X)).bind fun r5=>
 if r5 then(
  (Ax a0.Line (0:X) (3:X)).bind fun r7=>
  if r7 then(
  (Ax a0.Tugs (0:X) (4:X)).bind fun r9=>
  O r9)
  else(
  O E))
 else(
  O E))
 else(
 O E))
else(
 O E)
/- spec_ShipNamed -/
def Ir(a1:V zA)(a0:V X6):Z→X→W X
| 0,_=>U
| n+1,v1=>
 if(decide (v1<(a0.length:X))) then(
 (ix a0 v1).bind fun x3=>
 if(x3.Name==a1) then(
  O v1)
 else(
  Ir a1 a0 n (zM .i64 (v1+(1:X)))))
 else(
 O (-1:X))
def N1(a0:V X6)(a1:V zA):W X:=
Ir a1 a0 bigN (0:X)
/- spec_FleetOk -/
def Ig(a0:V X6):Z→X→W Y
| 0,_=>U
| n+1,v2=>
 if(decide (v2<(a0.length:X))) then(
 (ix a0 v2).bind fun x4=>
 (DO x4).bind fun r5=>
 if r5 then(
  (N1 a0 x4.Name).bind fun r7=>
  if(r7 !=v2) then(
  O E)
  else(
  Ig a0 n (zM .i64 (v2+(1:X)))))
 else(
  O E))
 else(
 O F)
def K1(a0:V X6):W Y:=
if(decide ((6:X)<(a0.length:X))) then(
 O E)
else(
 Ig a0 bigN (0:X))
/- spec_RegimeOk -/
def Ip(a0:Xh):W Y:=
(Ax a0.Gap (0:X) (60:X)).bind fun r1=>
O r1
/- spec_l13Table -/
def Gr(a1:V X):Z→X→W Y
| 0,_=>U
| n+1,v4=>
 if(decide (v4<(a1.length:X))) then(
 (ix a1 v4).bind fun x6=>
 (Ax x6 (0:X) (240:X)).bind fun r7=>
 if r7 then(
  Gr a1 n (zM .i64 (v4+(1:X))))
 else(
  O E))
 else(
 O F)
def Gq(a0:X)(a1:V X):W Y:=
(Ax a0 (0:X) (2880:X)).bind fun r1=>
if r1 then(
 if((a1.length:X) !=(64:X)) then(
 O E)
 else(
 Gr a1 bigN (0:X)))
else(
 O E)
/- spec_CrewOk -/
def Ic(a0:Xm):W Y:=
(Ax a0.Tugs (0:X) (12:X)).bind fun r1=>
if r1 then(
 (Ax a0.Pilots (0:X) (12:X)).bind fun r3=>
 if r3 then(
 (Gq a0.Rest a0.Moves).bind fun r5=>
 O r5)
 else(
 O E))
else(
 O E)
/- spec_HarbourOk -/
def K4(a0:X4):W Y:=
(K2 a0.Forecast).bind fun r1=>
if r1 then(
 (D4 a0.Chart).bind fun r3=>
 if r3 then(
 (K1 a0.Fleet).bind fun r5=>
 if r5 then(
  (Ip a0.Regime).bind fun r7=>
  if r7 then(
  (Ic a0.Crew).bind fun r9=>
  O r9)
  else(
  O E))
 else(
  O E))
 else(
 O E))
else(
 O E)
/- spec_CallOk -/
def JV(a0:X4)(a1:Xb):W Y:=
(K4 a0).bind fun r1=>
if r1 then(
 (Ax a1.Ship (0:X) (zM .i64 ((a0.Fleet.length:X) - (1:X)))).bind fun r3=>
 if r3 then(
 (Ax a1.From (0:X) (zM .i64 ((a0.Chart.Points.length:X) - (1:X)))).bind fun r5=>
 if r5 then(
  (Ax a1.To (0:X) (zM .i64 ((a0.Chart.Points.length:X) - (1:X)))).bind fun r7=>
  if r7 then(
  if(a1.From !=a1.To) then(
   (Ax a1.Ready (0:X) (2880:X)).bind fun r10=>
   if r10 then(
   (Ax a1.Due a1.Ready (2880:X)).bind fun r12=>
   O r12)
   else(
   O E))
  else(
   O E))
  else(
  O E))
 else(
  O E))
 else(
 O E))
else(
 O E)
/- spec_CallsOk -/
def JX(a1:V Xb)(v4:X)(a0:X4)(x6:Xb)(y10:V Xb)(y11:X)(NR:X→W Y):Z→X→W Y
| 0,_=>U
| n+1,v12=>
 if(decide (v12<y11)) then(
 (ix y10 v12).bind fun x14=>
 if(x6.Ship==x14.Ship) then(
  O E)
 else(
  JX a1 v4 a0 x6 y10 y11 NR n (zM .i64 (v12+(1:X)))))
 else(
 NR (zM .i64 (v4+(1:X))))
def JW(a1:V Xb)(a0:X4):Z→X→W Y
| 0,_=>U
| n+1,v4=>
 if(decide (v4<(a1.length:X))) then(
 (ix a1 v4).bind fun x6=>
 (JV a0 x6).bind fun r7=>
 if r7 then(
  (bnd (a1.length:X) v4 (0:X) a1.length).bind fun p9=>
  JX a1 v4 a0 x6 ((a1.drop p9.1).take (p9.2 - p9.1)) (((a1.drop p9.1).take (p9.2 - p9.1)).length:X) (JW a1 a0 n) bigN (0:X))
 else(
  O E))
 else(
 O F)
def I7(a0:X4)(a1:V Xb):W Y:=
(K4 a0).bind fun r1=>
if r1 then(
 if(decide ((6:X)<(a1.length:X))) then(
 O E)
 else(
 JW a1 a0 bigN (0:X)))
else(
 O E)
/- spec_l05Other -/
def Nb(a0:X2)(a1:X):W X:=
if(a1==a0.A) then(
 O a0.B)
else(
 if(a1==a0.B) then(
 O a0.A)
 else(
 O (-1:X)))
/- spec_l05Has -/
def Ix(a1:X)(a0:V X):Z→X→W Y
| 0,_=>U
| n+1,v1=>
 if(decide (v1<(a0.length:X))) then(
 (ix a0 v1).bind fun x3=>
 if(x3==a1) then(
  O F)
 else(
  Ix a1 a0 n (zM .i64 (v1+(1:X)))))
 else(
 O E)
def Kf(a0:V X)(a1:X):W Y:=
Ix a1 a0 bigN (0:X)
/- spec_l05Walk -/
def Iy(rec_:X1→(V X)→(V X)→X→(V (V X))→W (V (V X)))(a1 a2:V X)(a3 x1:X)(v5 r9:X)(a0:X1)(v6:V (V X))(NW:X→(V (V X))→W (V (V X)))(v12:Y):W (V (V X)):=
if v12 then(
 if A3 ([]:V X).length a1.length 8 then(
 if A3 a1.length ([r9]:V X).length 8 then(
  if A3 ([]:V X).length a2.length 8 then(
  if A3 a2.length ([v5]:V X).length 8 then(
   (rec_ a0 (a1++([r9]:V X)) (a2++([v5]:V X)) a3 v6).bind fun r18=>
   NW (zM .i64 (v5+(1:X))) r18)
  else U)
  else U)
 else U)
 else U)
else(
 NW (zM .i64 (v5+(1:X))) v6)
def Gk(rec_:X1→(V X)→(V X)→X→(V (V X))→W (V (V X)))(a1 a2:V X)(a3 x1:X)(a0:X1):Z→X→(V (V X))→W (V (V X))
| 0,_,_=>U
| n+1,v5,v6=>
 if(decide (v5<(a0.Segments.length:X))) then(
 (ix a0.Segments v5).bind fun x8=>
 (Nb x8 x1).bind fun r9=>
 if(decide ((0:X)≤r9)) then(
  (Kf a1 r9).bind fun r11=>
  Iy rec_ a1 a2 a3 x1 v5 r9 a0 v6 (Gk rec_ a1 a2 a3 x1 a0 n) (!r11))
 else(
  Iy rec_ a1 a2 a3 x1 v5 r9 a0 v6 (Gk rec_ a1 a2 a3 x1 a0 n) E))
 else(
 O v6)
def PI(rec_:X1→(V X)→(V X)→X→(V (V X))→W (V (V X)))(a0:X1)(a1 a2:V X)(a3:X)(a4:V (V X)):W (V (V X)):=
(ix a1 (zM .i64 ((a1.length:X) - (1:X)))).bind fun x1=>
if(x1==a3) then(
 if A3 ([]:V X).length a2.length 8 then(
 if A3 a4.length ([a2]:V (V X)).length 24 then(
  O (a4++([a2]:V (V X))))
 else U)
 else U)
else(
 Gk rec_ a1 a2 a3 x1 a0 bigN (0:X) a4)
def Gl:Z→X1→(V X)→(V X)→X→(V (V X))→W (V (V X))
| 0,_,_,_,_,_=>U
| n+1,a0,a1,a2,a3,a4=>PI (Gl n) a0 a1 a2 a3 a4
def RS(a0:X1)(a1 a2:V X)(a3:X)(a4:V (V X)):W (V (V X)):=Gl bigN a0 a1 a2 a3 a4
/- spec_RoutesBetween -/
def N0(a0:X1)(a1 a2:X):W (V (V X)):=
(D4 a0).bind fun r1=>
if r1 then(
 (Ax a1 (0:X) (zM .i64 ((a0.Points.length:X) - (1:X)))).bind fun r3=>
 if r3 then(
 (Ax a2 (0:X) (zM .i64 ((a0.Points.length:X) - (1:X)))).bind fun r5=>
 if r5 then(
  (RS a0 ([a1]:V X) ([]:V X) a2 ([]:V (V X))).bind fun r7=>
  O r7)
 else(
  O ([]:V (V X))))
 else(
 O ([]:V (V X))))
else(
 O ([]:V (V X)))
/- spec_RouteMinutes -/
def Iq(a1:V X)(a0:X1):Z→X→X→W X
| 0,_,_=>U
| n+1,v3,v4=>
 if(decide (v4<(a1.length:X))) then(
 (ix a1 v4).bind fun x6=>
 (Ax x6 (0:X) (zM .i64 ((a0.Segments.length:X) - (1:X)))).bind fun r7=>
 if r7 then(
  (ix a0.Segments x6).bind fun x9=>
  Iq a1 a0 n (zM .i64 (v3+x9.Minutes)) (zM .i64 (v4+(1:X))))
 else(
  O (-1:X)))
 else(
 O v3)
def Gg(a0:X1)(a1:V X):W X:=
(D4 a0).bind fun r1=>
if r1 then(
 Iq a1 a0 bigN (0:X) (0:X))
else(
 O (-1:X))
/- spec_BestRoute -/
def JU(v2 x6:V X)(r1:(V (V X)))(v4:X)(a0:X1)(NQ:(V X)→Y→X→W ((V X) × Y))(v11 v12:Y):W ((V X) × Y):=
if v12 then(
 NQ x6 F (zM .i64 (v4+(1:X))))
else(
 NQ v2 v11 (zM .i64 (v4+(1:X))))
def F2(r1:(V (V X)))(a0:X1):Z→(V X)→Y→X→W ((V X) × Y)
| 0,_,_,_=>U
| n+1,v2,v3,v4=>
 if(decide (v4<(r1.length:X))) then(
 (ix r1 v4).bind fun x6=>
 if v3 then(
  (Gg a0 x6).bind fun r9=>
  (Gg a0 v2).bind fun r10=>
  JU v2 x6 r1 v4 a0 (F2 r1 a0 n) F (decide (r9<r10)))
 else(
  JU v2 x6 r1 v4 a0 (F2 r1 a0 n) E F))
 else(
 if v3 then(
  O (v2,F))
 else(
  O (([]:V X),E)))
def MF(a0:X1)(a1 a2:X):W ((V X) × Y):=
(N0 a0 a1 a2).bind fun r1=>
F2 r1 a0 bigN ([]:V X) E (0:X)
/- spec_l07Ok -/
def Iz(a0:X1)(a1:X)(a2:X6):W Y:=
(D4 a0).bind fun r1=>
if r1 then(
 (DO a2).bind fun r3=>
 if r3 then(
 (Ax a1 (0:X) (zM .i64 ((a0.Segments.length:X) - (1:X)))).bind fun r5=>
 O r5)
 else(
 O E))
else(
 O E)
/- spec_SquatOf -/
def PH(a0:X6):W X:=
(DO a0).bind fun r1=>
if r1 then(
 if a0.Slow then(
 O (zM .i64 (zF a0.Draught (50:X))))
 else(
 O (zM .i64 (zF a0.Draught (20:X)))))
else(
 O (0:X))
/- spec_NeedOf -/
def PF(a0:X6):W X:=
(DO a0).bind fun r1=>
if r1 then(
 (PH a0).bind fun r3=>
 O (zM .i64 ((zM .i64 (a0.Draught+r3))+(50:X))))
else(
 O (0:X))
/- spec_LevelFor -/
def MQ(a0:X1)(a1:X)(a2:X6):W X:=
(Iz a0 a1 a2).bind fun r1=>
if r1 then(
 (PF a2).bind fun r3=>
 (ix a0.Segments a1).bind fun x4=>
 O (zM .i64 (r3 - x4.Depth)))
else(
 O (0:X))
/- spec_l03Surge -/
def F8(a1:X)(a0:Xd):Z→X→X→X→X→W Xa
| 0,_,_,_,_=>U
| n+1,v2,v3,v4,v5=>
 if(decide (v2<(a0.Surges.length:X))) then(
 (ix a0.Surges v2).bind fun x7=>
 if(decide (x7.From≤a1)) then(
  F8 a1 a0 n (zM .i64 (v2+(1:X))) x7.From x7.Low x7.High)
 else(
  F8 a1 a0 n (zM .i64 (v2+(1:X))) v3 v4 v5))
 else(
 O (⟨v3,v4,v5⟩:Xa))
def Iv(a0:Xd)(a1:X):W Xa:=
(ix a0.Surges (0:X)).bind fun x1=>
F8 a1 a0 bigN (0:X) x1.From x1.Low x1.High
/- spec_Wave -/
def N6(a1 v6:X):W X:=
if(decide (v6<(zM .i64 (zF a1 (2:X))))) then(
 if(zM .i64 ((zM .i64 (zF a1 (2:X)))*(zM .i64 (zF a1 (2:X)))))==0 then U else
 O (zM .i64 (zF (zM .i64 ((zM .i64 ((40000:X)*v6))*(zM .i64 ((zM .i64 (zF a1 (2:X))) - v6)))) (zM .i64 ((zM .i64 (zF a1 (2:X)))*(zM .i64 (zF a1 (2:X))))))))
else(
 if(zM .i64 ((zM .i64 (zF a1 (2:X)))*(zM .i64 (zF a1 (2:X)))))==0 then U else
 O (zM .i64 (0 - (zM .i64 (zF (zM .i64 ((zM .i64 ((40000:X)*(zM .i64 (v6 - (zM .i64 (zF a1 (2:X)))))))*(zM .i64 ((zM .i64 (zF a1 (2:X))) - (zM .i64 (v6 - (zM .i64 (zF a1 (2:X))))))))) (zM .i64 ((zM .i64 (zF a1 (2:X)))*(zM .i64 (zF a1 (2:X))))))))))
def N5(a0 a1:X):W X:=
if(decide (a1<(4:X))) then(
 O (0:X))
else(
 if(decide ((2880:X)<a1)) then(
 O (0:X))
 else(
 if((zM .i64 (zJ a1 (4:X))) !=(0:X)) then(
  O (0:X))
 else(
  if a1==0 then U else
  if(decide ((zM .i64 (zJ a0 a1))<(0:X))) then(
  N6 a1 (zM .i64 ((zM .i64 (zJ a0 a1))+a1)))
  else(
  N6 a1 (zM .i64 (zJ a0 a1))))))
/- spec_l02Level -/
def Iu(a1:X)(a0:Xl):Z→X→X→W X
| 0,_,_=>U
| n+1,v1,v2=>
 if(decide (v2<(a0.Parts.length:X))) then(
 (ix a0.Parts v2).bind fun x4=>
 (N5 (zM .i64 (a1+x4.Phase)) x4.Period).bind fun r5=>
 Iu a1 a0 n (zM .i64 (v1+(zM .i64 (zF (zM .i64 (x4.Amp*r5)) (10000:X))))) (zM .i64 (v2+(1:X))))
 else(
 O v1)
def Ke(a0:Xl)(a1:X):W X:=
Iu a1 a0 bigN a0.Mean (0:X)
/- spec_l04Of -/
def Iw(v1:X)(a0:V Y)(v2:V X5)(NV:X→(V X5)→W (V X5))(v8:Y):W (V X5):=
if v8 then(
 (ix v2 (zM .i64 ((v2.length:X) - (1:X)))).bind fun x10=>
 NV (zM .i64 (v1+(1:X))) (v2.set (zD (zM .i64 ((v2.length:X) - (1:X)))) (⟨x10.From,v1⟩:X5)))
else(
 if A3 v2.length ([(⟨v1,v1⟩:X5)]:V X5).length 16 then(
 NV (zM .i64 (v1+(1:X))) (v2++([(⟨v1,v1⟩:X5)]:V X5)))
 else U)
def Ej(a0:V Y):Z→X→(V X5)→W (V X5)
| 0,_,_=>U
| n+1,v1,v2=>
 if(decide (v1<(a0.length:X))) then(
 (ix a0 v1).bind fun x4=>
 if x4 then(
  if(decide ((0:X)<(v2.length:X))) then(
  (ix v2 (zM .i64 ((v2.length:X) - (1:X)))).bind fun x7=>
  Iw v1 a0 v2 (Ej a0 n) (x7.To==(zM .i64 (v1 - (1:X)))))
  else(
  Iw v1 a0 v2 (Ej a0 n) E))
 else(
  Ej a0 n (zM .i64 (v1+(1:X))) v2))
 else(
 O v2)
def N9(a0:V Y):W (V X5):=
Ej a0 bigN (0:X) ([]:V X5)
/- spec_l04Levels -/
def N8(a1 v2:X)(a0:Xd)(v3:V Y)(Qs:Y→X→(V Y)→W (V X5))(v7:Y)(v8:X):W (V X5):=
(Ke a0.Tide v2).bind fun r9=>
if A3 v3.length ([(decide (a1≤(zM .i64 (r9+v8))))]:V Y).length 1 then(
 Qs v7 (zM .i64 (v2+(1:X))) (v3++([(decide (a1≤(zM .i64 (r9+v8))))]:V Y)))
else U
def Gh(a1:X)(a0:Xd):Z→Y→X→(V Y)→W (V X5)
| 0,_,_,_=>U
| n+1,v1,v2,v3=>
 if(decide (v2≤(2880:X))) then(
 (Iv a0 v2).bind fun r5=>
 if v1 then(
  N8 a1 v2 a0 v3 (Gh a1 a0 n) F r5.High)
 else(
  N8 a1 v2 a0 v3 (Gh a1 a0 n) E r5.Low))
 else(
 (N9 v3).bind fun r11=>
 O r11)
def N7(a0:Xd)(a1:X)(a2:Y):W (V X5):=
Gh a1 a0 bigN a2 (0:X) ([]:V Y)
/- spec_l06Minutes -/
def F9(a0:X2)(a1:X6):W X:=
if a1.Slow then(
 O (zM .i64 ((2:X)*a0.Minutes)))
else(
 O a0.Minutes)
/- spec_MinutesOn -/
def K7(a0:X1)(a1:X)(a2:X6):W X:=
(D4 a0).bind fun r1=>
if r1 then(
 (DO a2).bind fun r3=>
 if r3 then(
 (Ax a1 (0:X) (zM .i64 ((a0.Segments.length:X) - (1:X)))).bind fun r5=>
 if r5 then(
  (ix a0.Segments a1).bind fun x7=>
  (F9 x7 a2).bind fun r9=>
  O r9)
 else(
  O (0:X)))
 else(
 O (0:X)))
else(
 O (0:X))
/- spec_WindowsOk -/
def F7(a0:V X5):Z→X→W Y
| 0,_=>U
| n+1,v1=>
 if(decide (v1<(a0.length:X))) then(
 (ix a0 v1).bind fun x3=>
 (Ax x3.From (0:X) (2880:X)).bind fun r4=>
 if r4 then(
  (Ax x3.To x3.From (2880:X)).bind fun r6=>
  if r6 then(
  if(decide ((0:X)<v1)) then(
   (ix a0 (zM .i64 (v1 - (1:X)))).bind fun x9=>
   if(decide (x3.From≤(zM .i64 (x9.To+(1:X))))) then(
   O E)
   else(
   F7 a0 n (zM .i64 (v1+(1:X)))))
  else(
   F7 a0 n (zM .i64 (v1+(1:X)))))
  else(
  O E))
 else(
  O E))
 else(
 O F)
def Kd(a0:V X5):W Y:=
F7 a0 bigN (0:X)
/- spec_ShrinkWindows -/
def F6(a1:X)(a0:V X5):Z→X→(V X5)→W (V X5)
| 0,_,_=>U
| n+1,v5,v6=>
 if(decide (v5<(a0.length:X))) then(
 (ix a0 v5).bind fun x8=>
 if(decide (a1≤(zM .i64 (x8.To - x8.From)))) then(
  if A3 v6.length ([(⟨x8.From,(zM .i64 (x8.To - a1))⟩:X5)]:V X5).length 16 then(
  F6 a1 a0 n (zM .i64 (v5+(1:X))) (v6++([(⟨x8.From,(zM .i64 (x8.To - a1))⟩:X5)]:V X5)))
  else U)
 else(
  F6 a1 a0 n (zM .i64 (v5+(1:X))) v6))
 else(
 O v6)
def PG(a0:V X5)(a1:X):W (V X5):=
(Kd a0).bind fun r1=>
if r1 then(
 (Ax a1 (0:X) (2880:X)).bind fun r3=>
 if r3 then(
 F6 a1 a0 bigN (0:X) ([]:V X5))
 else(
 O ([]:V X5)))
else(
 O ([]:V X5))
/- spec_l07Starts -/
def PJ(a0:Xd)(a1:X1)(a2:X)(a3:X6)(a4:Y):W (V X5):=
(K2 a0).bind fun r1=>
if r1 then(
 (Iz a1 a2 a3).bind fun r3=>
 if r3 then(
 (MQ a1 a2 a3).bind fun r5=>
 (N7 a0 r5 a4).bind fun r6=>
 (K7 a1 a2 a3).bind fun r7=>
 (PG r6 r7).bind fun r9=>
 O r9)
 else(
 O ([]:V X5)))
else(
 O ([]:V X5))
/- spec_SureStarts -/
def N2(a0:Xd)(a1:X1)(a2:X)(a3:X6):W (V X5):=
(PJ a0 a1 a2 a3 E).bind fun r1=>
O r1
/- spec_l08Starts -/
def Gm(a3:V X)(a0:Xd)(a1:X1)(a2:X6):Z→X→(V (V X5))→W (V (V X5))
| 0,_,_=>U
| n+1,v1,v2=>
 if(decide (v1<(a3.length:X))) then(
 (ix a3 v1).bind fun x4=>
 (N2 a0 a1 x4 a2).bind fun r5=>
 if A3 v2.length ([r5]:V (V X5)).length 24 then(
  Gm a3 a0 a1 a2 n (zM .i64 (v1+(1:X))) (v2++([r5]:V (V X5))))
 else U)
 else(
 O v2)
def PK(a0:Xd)(a1:X1)(a2:X6)(a3:V X):W (V (V X5)):=
Gm a3 a0 a1 a2 bigN (0:X) ([]:V (V X5))
/- spec_l05Points -/
def Gj(r9:X)(a2:V X)(v1:X)(a0:X1)(v2:V X)(Qt:X→(V X)→W ((V X) × Y))(v12:Y):W ((V X) × Y):=
if v12 then(
 O (([]:V X),E))
else(
 if A3 v2.length ([r9]:V X).length 8 then(
 Qt (zM .i64 (v1+(1:X))) (v2++([r9]:V X)))
 else U)
def DP(a2:V X)(a0:X1):Z→X→(V X)→W ((V X) × Y)
| 0,_,_=>U
| n+1,v1,v2=>
 if(decide (v1<(a2.length:X))) then(
 (ix a2 v1).bind fun x4=>
 (Ax x4 (0:X) (zM .i64 ((a0.Segments.length:X) - (1:X)))).bind fun r5=>
 if r5 then(
  (ix a0.Segments x4).bind fun x7=>
  (ix v2 (zM .i64 ((v2.length:X) - (1:X)))).bind fun x8=>
  (Nb x7 x8).bind fun r9=>
  if(decide (r9<(0:X))) then(
  Gj r9 a2 v1 a0 v2 (DP a2 a0 n) F)
  else(
  (Kf v2 r9).bind fun r11=>
  Gj r9 a2 v1 a0 v2 (DP a2 a0 n) r11))
 else(
  O (([]:V X),E)))
 else(
 O (v2,F))
def Gi(a0:X1)(a1:X)(a2:V X):W ((V X) × Y):=
DP a2 a0 bigN (0:X) ([a1]:V X)
/- spec_RouteOk -/
def Ei(a0:X1)(a1:X)(a2:V X):W Y:=
(D4 a0).bind fun r1=>
if r1 then(
 (Ax a1 (0:X) (zM .i64 ((a0.Points.length:X) - (1:X)))).bind fun r3=>
 if r3 then(
 (Gi a0 a1 a2).bind fun r5=>
 O r5.2)
 else(
 O E))
else(
 O E)
/- spec_RoutePoints -/
def F5(a0:X1)(a1:X)(a2:V X):W (V X):=
(Ei a0 a1 a2).bind fun r1=>
if r1 then(
 (Gi a0 a1 a2).bind fun r3=>
 O r3.1)
else(
 O ([]:V X))
/- spec_HasMinute -/
def Ih(a1:X)(a0:V X5):Z→X→W Y
| 0,_=>U
| n+1,v1=>
 if(decide (v1<(a0.length:X))) then(
 (ix a0 v1).bind fun x3=>
 (Ax a1 x3.From x3.To).bind fun r4=>
 if r4 then(
  O F)
 else(
  Ih a1 a0 n (zM .i64 (v1+(1:X)))))
 else(
 O E)
def MK(a0:V X5)(a1:X):W Y:=
Ih a1 a0 bigN (0:X)
/- spec_NextMinute -/
def Ik(a1:X)(a0:V X5):Z→X→W X
| 0,_=>U
| n+1,v3=>
 if(decide (v3<(a0.length:X))) then(
 (ix a0 v3).bind fun x5=>
 if(decide (a1≤x5.To)) then(
  O (if x5.From<a1 then a1 else x5.From))
 else(
  Ik a1 a0 n (zM .i64 (v3+(1:X)))))
 else(
 O (-1:X))
def MR(a0:V X5)(a1:X):W X:=
(Kd a0).bind fun r1=>
if r1 then(
 Ik a1 a0 bigN (0:X))
else(
 O (-1:X))
/- spec_l08Sail -/
def IA(a2 a3:V X)(a4:V (V X5))(v4 r12:X)(a0:X1)(a1:X6)(v5:V X)(Qu:X→(V X)→W ((V X) × Y))(v17:Y):W ((V X) × Y):=
if v17 then(
 O (([]:V X),E))
else(
 if A3 v5.length ([r12]:V X).length 8 then(
 Qu (zM .i64 (v4+(1:X))) (v5++([r12]:V X)))
 else U)
def Ek(a2 a3:V X)(a4:V (V X5))(a0:X1)(a1:X6):Z→X→(V X)→W ((V X) × Y)
| 0,_,_=>U
| n+1,v4,v5=>
 if(decide (v4<(a3.length:X))) then(
 (ix v5 (zM .i64 (v4 - (1:X)))).bind fun x7=>
 (ix a3 (zM .i64 (v4 - (1:X)))).bind fun x8=>
 (ix a0.Segments x8).bind fun x9=>
 (F9 x9 a1).bind fun r10=>
 (ix a4 v4).bind fun x11=>
 (MR x11 (zM .i64 (x7+r10))).bind fun r12=>
 if(decide (r12<(0:X))) then(
  IA a2 a3 a4 v4 r12 a0 a1 v5 (Ek a2 a3 a4 a0 a1 n) F)
 else(
  if(r12 !=(zM .i64 (x7+r10))) then(
  (ix a2 v4).bind fun x15=>
  (ix a0.Points x15).bind fun x16=>
  IA a2 a3 a4 v4 r12 a0 a1 v5 (Ek a2 a3 a4 a0 a1 n) (!x16.Wait))
  else(
  IA a2 a3 a4 v4 r12 a0 a1 v5 (Ek a2 a3 a4 a0 a1 n) E)))
 else(
 O (v5,F))
def Kg(a0:X1)(a1:X6)(a2 a3:V X)(a4:V (V X5))(a5:X):W ((V X) × Y):=
(ix a4 (0:X)).bind fun x1=>
(MK x1 a5).bind fun r2=>
if r2 then(
 Ek a2 a3 a4 a0 a1 bigN (1:X) ([a5]:V X))
else(
 O (([]:V X),E))
/- spec_ArrivalOf -/
def ME(a0:X1)(a1:X6)(a2 a3:V X):W X:=
(Gg a0 a2).bind fun r1=>
if(decide (r1<(0:X))) then(
 O (-1:X))
else(
 (DO a1).bind fun r3=>
 if r3 then(
 if((a2.length:X) !=(a3.length:X)) then(
  O (-1:X))
 else(
  if((a2.length:X)==(0:X)) then(
  O (-1:X))
  else(
  (ix a3 (zM .i64 ((a3.length:X) - (1:X)))).bind fun x7=>
  (Ax x7 (0:X) (2880:X)).bind fun r9=>
  if r9 then(
   (ix a2 (zM .i64 ((a2.length:X) - (1:X)))).bind fun x11=>
   (ix a0.Segments x11).bind fun x12=>
   (F9 x12 a1).bind fun r13=>
   O (zM .i64 (x7+r13)))
  else(
   O (-1:X)))))
 else(
 O (-1:X)))
/- spec_PassagesOf -/
def Im(a1:X)(a5 a4:V X)(a0:X1)(a2:X6)(r6:(V X)):Z→X→(V X3)→W (V X3)
| 0,_,_=>U
| n+1,v7,v8=>
 if(decide (v7<(a4.length:X))) then(
 (ix a4 v7).bind fun x10=>
 (ix a5 v7).bind fun x11=>
 (Ax x11 (0:X) (2880:X)).bind fun r12=>
 if r12 then(
  (ix a0.Segments x10).bind fun x14=>
  (ix r6 v7).bind fun x15=>
  (F9 x14 a2).bind fun r16=>
  if A3 v8.length ([(⟨a1,x10,(x14.A==x15),x11,(zM .i64 (x11+r16))⟩:X3)]:V X3).length 40 then(
  Im a1 a5 a4 a0 a2 r6 n (zM .i64 (v7+(1:X))) (v8++([(⟨a1,x10,(x14.A==x15),x11,(zM .i64 (x11+r16))⟩:X3)]:V X3)))
  else U)
 else(
  O ([]:V X3)))
 else(
 O v8)
def MT(a0:X1)(a1:X)(a2:X6)(a3:X)(a4 a5:V X):W (V X3):=
(Ei a0 a3 a4).bind fun r1=>
if r1 then(
 (DO a2).bind fun r3=>
 if r3 then(
 if((a4.length:X) !=(a5.length:X)) then(
  O ([]:V X3))
 else(
  (F5 a0 a3 a4).bind fun r6=>
  Im a1 a5 a4 a0 a2 r6 bigN (0:X) ([]:V X3)))
 else(
 O ([]:V X3)))
else(
 O ([]:V X3))
/- spec_l15Make -/
def Gt(a2:V X)(a0:X4)(x1:X6)(x2 r3:X)(r4:(V X3)):Z→X→X→W (X0 × Y)
| 0,_,_=>U
| n+1,v5,v6=>
 if(decide (v5<(a2.length:X))) then(
 (ix a2 v5).bind fun x8=>
 (ix a0.Chart.Segments x8).bind fun x9=>
 (F9 x9 x1).bind fun r10=>
 Gt a2 a0 x1 x2 r3 r4 n (zM .i64 (v5+(1:X))) (zM .i64 (v6 - r10)))
 else(
 O ((⟨x2,r3,v6,r4⟩:X0),(decide (r3≤(2880:X)))))
def Ng(a0:X4)(a1:Xb)(a2 a3:V X):W (X0 × Y):=
(ix a0.Fleet a1.Ship).bind fun x1=>
(ix a3 (0:X)).bind fun x2=>
(ME a0.Chart x1 a2 a3).bind fun r3=>
(MT a0.Chart a1.Ship x1 a1.From a2 a3).bind fun r4=>
Gt a2 a0 x1 x2 r3 r4 bigN (0:X) (zM .i64 (r3 - a1.Ready))
/- spec_OptionsOf -/
def Il(r3:(V X) × Y)(v8:X)(a0:X4)(a1:Xb)(x5:X6)(r6:(V (V X5)))(r7:(V X))(Qr:X→(V X0)→W (V X0))(v17:V X0):W (V X0):=
Qr (zM .i64 (v8+(15:X))) v17
def F4(r3:(V X) × Y)(a0:X4)(a1:Xb)(x5:X6)(r6:(V (V X5)))(r7:(V X)):Z→X→(V X0)→W (V X0)
| 0,_,_=>U
| n+1,v8,v9=>
 if(decide (v8≤a1.Due)) then(
 if(decide ((v9.length:X)<(8:X))) then(
  (Kg a0.Chart x5 r7 r3.1 r6 v8).bind fun r12=>
  if r12.2 then(
  (Ng a0 a1 r3.1 r12.1).bind fun r14=>
  if r14.2 then(
   if A3 v9.length ([r14.1]:V X0).length 48 then(
   Il r3 v8 a0 a1 x5 r6 r7 (F4 r3 a0 a1 x5 r6 r7 n) (v9++([r14.1]:V X0)))
   else U)
  else(
   Il r3 v8 a0 a1 x5 r6 r7 (F4 r3 a0 a1 x5 r6 r7 n) v9))
  else(
  Il r3 v8 a0 a1 x5 r6 r7 (F4 r3 a0 a1 x5 r6 r7 n) v9))
 else(
  O v9))
 else(
 O v9)
def K9(a0:X4)(a1:Xb):W (V X0):=
(JV a0 a1).bind fun r1=>
if r1 then(
 (MF a0.Chart a1.From a1.To).bind fun r3=>
 if r3.2 then(
 (ix a0.Fleet a1.Ship).bind fun x5=>
 (PK a0.Forecast a0.Chart x5 r3.1).bind fun r6=>
 (F5 a0.Chart a1.From r3.1).bind fun r7=>
 F4 r3 a0 a1 x5 r6 r7 bigN a1.Ready ([]:V X0))
 else(
 O ([]:V X0)))
else(
 O ([]:V X0))
/- spec_l16Options -/
def IE(a1:V Xb)(a0:X4):Z→X→(V (V X0))→W (V (V X0))
| 0,_,_=>U
| n+1,v1,v2=>
 if(decide (v1<(a1.length:X))) then(
 (ix a1 v1).bind fun x4=>
 (K9 a0 x4).bind fun r5=>
 if A3 v2.length ([r5]:V (V X0)).length 24 then(
  IE a1 a0 n (zM .i64 (v1+(1:X))) (v2++([r5]:V (V X0))))
 else U)
 else(
 O v2)
def PP(a0:X4)(a1:V Xb):W (V (V X0)):=
IE a1 a0 bigN (0:X) ([]:V (V X0))
/- spec_l18Bits -/
def PR(a0 a1 v1:X)(Qv:X→(V X)→W (V X))(v7:V X):W (V X):=
Qv (zM .i64 (v1+(1:X))) v7
def Nk(a0 a1:X):Z→X→(V X)→W (V X)
| 0,_,_=>U
| n+1,v1,v2=>
 if(decide (v1<a0)) then(
 if decide (v1<0) then U else
 if((B4 .and .i64 (Oo .i64 a1 v1) (1:X))==(1:X)) then(
  if A3 v2.length ([v1]:V X).length 8 then(
  PR a0 a1 v1 (Nk a0 a1 n) (v2++([v1]:V X)))
  else U)
 else(
  PR a0 a1 v1 (Nk a0 a1 n) v2))
 else(
 O v2)
def Nj(a0 a1:X):W (V X):=
Nk a0 a1 bigN (0:X) ([]:V X)
/- spec_Overlaps -/
def Ka(a0 a1:X3):W Y:=
O (decide ((if a0.Start<a1.Start then a1.Start else a0.Start)<(if a1.End<a0.End then a1.End else a0.End)))
/- spec_l09Near -/
def Nc(a2 v3 v4:X):W Y:=
O (decide ((zM .i64 (v4 - v3))<a2))
def Ki(a0 a1 a2:X):W Y:=
if(decide ((if a1<a0 then a1 else a0)<(0:X))) then(
 if(decide ((zM .i64 ((if a1<a0 then a1 else a0)+(9223372036854775807:X)))<(if a0<a1 then a1 else a0))) then(
 O E)
 else(
 Nc a2 (if a1<a0 then a1 else a0) (if a0<a1 then a1 else a0)))
else(
 Nc a2 (if a1<a0 then a1 else a0) (if a0<a1 then a1 else a0))
/- spec_ConflictOf -/
def MH(a0:X1)(a1:Xh)(a2 a3:X3):W X:=
(D4 a0).bind fun r1=>
if r1 then(
 (Ip a1).bind fun r3=>
 if r3 then(
 (Ax a2.Segment (0:X) (zM .i64 ((a0.Segments.length:X) - (1:X)))).bind fun r5=>
 if r5 then(
  if(a2.Segment !=a3.Segment) then(
  O (0:X))
  else(
  if(a2.Ship==a3.Ship) then(
   (Ka a2 a3).bind fun r9=>
   if r9 then(
   O (1:X))
   else(
   O (0:X)))
  else(
   if(a2.Toward==a3.Toward) then(
   (Ki a2.Start a3.Start a1.Gap).bind fun r17=>
   if r17 then(
    O (3:X))
   else(
    (Ki a2.End a3.End a1.Gap).bind fun r19=>
    if r19 then(
    O (3:X))
    else(
    if(decide (a2.Start<a3.Start)) then(
     if(decide (a3.End<a2.End)) then(
     O (4:X))
     else(
     if(decide (a3.Start<a2.Start)) then(
      if(decide (a2.End<a3.End)) then(
      O (4:X))
      else(
      O (0:X)))
     else(
      O (0:X))))
    else(
     if(decide (a3.Start<a2.Start)) then(
     if(decide (a2.End<a3.End)) then(
      O (4:X))
     else(
      O (0:X)))
     else(
     O (0:X))))))
   else(
   (Ka a2 a3).bind fun r12=>
   if r12 then(
    if a1.NoMeet then(
    O (2:X))
    else(
    (ix a0.Segments a2.Segment).bind fun x15=>
    if x15.Meet then(
     O (0:X))
    else(
     O (2:X))))
   else(
    O (0:X))))))
 else(
  O (0:X)))
 else(
 O (0:X)))
else(
 O (0:X))
/- spec_Clashes -/
def Ib(a3 a2:V X3)(v1:X)(a0:X1)(a1:Xh)(x3:X3)(NU:X→W Y):Z→X→W Y
| 0,_=>U
| n+1,v4=>
 if(decide (v4<(a3.length:X))) then(
 (ix a3 v4).bind fun x6=>
 (MH a0 a1 x3 x6).bind fun r7=>
 if(r7 !=(0:X)) then(
  O F)
 else(
  Ib a3 a2 v1 a0 a1 x3 NU n (zM .i64 (v4+(1:X)))))
 else(
 NU (zM .i64 (v1+(1:X))))
def F3(a3 a2:V X3)(a0:X1)(a1:Xh):Z→X→W Y
| 0,_=>U
| n+1,v1=>
 if(decide (v1<(a2.length:X))) then(
 (ix a2 v1).bind fun x3=>
 Ib a3 a2 v1 a0 a1 x3 (F3 a3 a2 a0 a1 n) bigN (0:X))
 else(
 O E)
def MG(a0:X1)(a1:Xh)(a2 a3:V X3):W Y:=
F3 a3 a2 a0 a1 bigN (0:X)
/- spec_l16Clash -/
def ID(a1:V (V X0))(x4 x8:V X0)(v1 v5 v9:X)(a0:X4)(x12:X0)(v2:V (V (V (V Y))))(v6:V (V (V Y)))(v10:V (V Y))(O0:X→(V (V Y))→W (V (V (V (V Y))))):Z→X→(V Y)→W (V (V (V (V Y))))
| 0,_,_=>U
| n+1,v13,v14=>
 if(decide (v13<(x8.length:X))) then(
 (ix x8 v13).bind fun x16=>
 (MG a0.Chart a0.Regime x12.Passages x16.Passages).bind fun r17=>
 if A3 v14.length ([r17]:V Y).length 1 then(
  ID a1 x4 x8 v1 v5 v9 a0 x12 v2 v6 v10 O0 n (zM .i64 (v13+(1:X))) (v14++([r17]:V Y)))
 else U)
 else(
 if A3 v10.length ([v14]:V (V Y)).length 24 then(
  O0 (zM .i64 (v9+(1:X))) (v10++([v14]:V (V Y))))
 else U)
def Fe(a1:V (V X0))(x4 x8:V X0)(v1 v5:X)(a0:X4)(v2:V (V (V (V Y))))(v6:V (V (V Y)))(NZ:X→(V (V (V Y)))→W (V (V (V (V Y))))):Z→X→(V (V Y))→W (V (V (V (V Y))))
| 0,_,_=>U
| n+1,v9,v10=>
 if(decide (v9<(x4.length:X))) then(
 (ix x4 v9).bind fun x12=>
 ID a1 x4 x8 v1 v5 v9 a0 x12 v2 v6 v10 (Fe a1 x4 x8 v1 v5 a0 v2 v6 NZ n) bigN (0:X) ([]:V Y))
 else(
 if A3 v6.length ([v10]:V (V (V Y))).length 24 then(
  NZ (zM .i64 (v5+(1:X))) (v6++([v10]:V (V (V Y)))))
 else U)
def DR(a1:V (V X0))(x4:V X0)(v1:X)(a0:X4)(v2:V (V (V (V Y))))(NY:X→(V (V (V (V Y))))→W (V (V (V (V Y))))):Z→X→(V (V (V Y)))→W (V (V (V (V Y))))
| 0,_,_=>U
| n+1,v5,v6=>
 if(decide (v5<(a1.length:X))) then(
 (ix a1 v5).bind fun x8=>
 Fe a1 x4 x8 v1 v5 a0 v2 v6 (DR a1 x4 v1 a0 v2 NY n) bigN (0:X) ([]:V (V Y)))
 else(
 if A3 v2.length ([v6]:V (V (V (V Y)))).length 24 then(
  NY (zM .i64 (v1+(1:X))) (v2++([v6]:V (V (V (V Y))))))
 else U)
def D5(a1:V (V X0))(a0:X4):Z→X→(V (V (V (V Y))))→W (V (V (V (V Y))))
| 0,_,_=>U
| n+1,v1,v2=>
 if(decide (v1<(a1.length:X))) then(
 (ix a1 v1).bind fun x4=>
 DR a1 x4 v1 a0 v2 (D5 a1 a0 n) bigN (0:X) ([]:V (V (V Y))))
 else(
 O v2)
def Ni(a0:X4)(a1:V (V X0)):W (V (V (V (V Y)))):=
D5 a1 a0 bigN (0:X) ([]:V (V (V (V Y))))
/- spec_CheapestOption -/
def K0(a0:V X0)(v1 v2:X)(NT:X→X→W X)(v7:Y):W X:=
if v7 then(
 NT v2 (zM .i64 (v2+(1:X))))
else(
 NT v1 (zM .i64 (v2+(1:X))))
def G9(a0:V X0):Z→X→X→W X
| 0,_,_=>U
| n+1,v1,v2=>
 if(decide (v2<(a0.length:X))) then(
 (ix a0 v2).bind fun x4=>
 if(decide (v1<(0:X))) then(
  K0 a0 v1 v2 (G9 a0 n) F)
 else(
  (ix a0 v1).bind fun x6=>
  K0 a0 v1 v2 (G9 a0 n) (decide (x4.Cost<x6.Cost))))
 else(
 O v1)
def PD(a0:V X0):W X:=
G9 a0 bigN (-1:X) (0:X)
/- spec_ChainsOf -/
def I8(a0:V X0):Z→X→(V (V X3))→W (V (V X3))
| 0,_,_=>U
| n+1,v1,v2=>
 if(decide (v1<(a0.length:X))) then(
 (ix a0 v1).bind fun x4=>
 if A3 ([]:V X3).length x4.Passages.length 40 then(
  if A3 v2.length ([x4.Passages]:V (V X3)).length 24 then(
  I8 a0 n (zM .i64 (v1+(1:X))) (v2++([x4.Passages]:V (V X3))))
  else U)
 else U)
 else(
 O v2)
def JZ(a0:V X0):W (V (V X3)):=
I8 a0 bigN (0:X) ([]:V (V X3))
/- spec_PassageOk -/
def Kb(a0:X1)(a1:V X6)(a2:X3):W Y:=
(D4 a0).bind fun r1=>
if r1 then(
 (K1 a1).bind fun r3=>
 if r3 then(
 (Ax a2.Ship (0:X) (zM .i64 ((a1.length:X) - (1:X)))).bind fun r5=>
 if r5 then(
  (Ax a2.Segment (0:X) (zM .i64 ((a0.Segments.length:X) - (1:X)))).bind fun r7=>
  if r7 then(
  (Ax a2.Start (0:X) (2880:X)).bind fun r9=>
  if r9 then(
   (ix a1 a2.Ship).bind fun x11=>
   (K7 a0 a2.Segment x11).bind fun r12=>
   if(a2.End==(zM .i64 (a2.Start+r12))) then(
   O (decide (a2.End≤(2880:X))))
   else(
   O E))
  else(
   O E))
  else(
  O E))
 else(
  O E))
 else(
 O E))
else(
 O E)
/- spec_l08Ends -/
def Fa(a0:X1)(a1:X3):W (X × X):=
(ix a0.Segments a1.Segment).bind fun x1=>
if a1.Toward then(
 O (x1.A,x1.B))
else(
 O (x1.B,x1.A))
/- spec_l14Tugs -/
def Gs(a1:V X6)(r7:X × X)(a2:V X3)(v1:X)(a0:X1)(x4:X3)(NX:X→(V X9)→W ((V X9) × Y)):Z→X→(V X9)→W ((V X9) × Y)
| 0,_,_=>U
| n+1,v8,v9=>
 (ix a1 x4.Ship).bind fun x10=>
 if(decide (v8<x10.Tugs)) then(
 if A3 v9.length ([(⟨x4.Start,x4.End,r7.1,r7.2⟩:X9)]:V X9).length 32 then(
  Gs a1 r7 a2 v1 a0 x4 NX n (zM .i64 (v8+(1:X))) (v9++([(⟨x4.Start,x4.End,r7.1,r7.2⟩:X9)]:V X9)))
 else U)
 else(
 if(decide ((12:X)<(v9.length:X))) then(
  O (([]:V X9),E))
 else(
  NX (zM .i64 (v1+(1:X))) v9))
def Fc(a1:V X6)(a2:V X3)(a0:X1):Z→X→(V X9)→W ((V X9) × Y)
| 0,_,_=>U
| n+1,v1,v2=>
 if(decide (v1<(a2.length:X))) then(
 (ix a2 v1).bind fun x4=>
 (Kb a0 a1 x4).bind fun r5=>
 if r5 then(
  (Fa a0 x4).bind fun r7=>
  Gs a1 r7 a2 v1 a0 x4 (Fc a1 a2 a0 n) bigN (0:X) v2)
 else(
  O (([]:V X9),E)))
 else(
 O (v2,F))
def PO(a0:X1)(a1:V X6)(a2:V X3):W ((V X9) × Y):=
Fc a1 a2 a0 bigN (0:X) ([]:V X9)
/- spec_l13Duty -/
def IB(a0:X9):W Y:=
(Ax a0.From (0:X) (2880:X)).bind fun r1=>
if r1 then(
 if(decide (a0.From<a0.To)) then(
 if(decide (a0.To≤(2880:X))) then(
  (Ax a0.A (0:X) (7:X)).bind fun r5=>
  if r5 then(
  (Ax a0.B (0:X) (7:X)).bind fun r7=>
  O r7)
  else(
  O E))
 else(
  O E))
 else(
 O E))
else(
 O E)
/- spec_DutiesOk -/
def If(a0:V X9):Z→X→W Y
| 0,_=>U
| n+1,v2=>
 if(decide (v2<(a0.length:X))) then(
 (ix a0 v2).bind fun x4=>
 (IB x4).bind fun r5=>
 if r5 then(
  If a0 n (zM .i64 (v2+(1:X))))
 else(
  O E))
 else(
 O F)
def MJ(a0:V X9):W Y:=
if(decide ((12:X)<(a0.length:X))) then(
 O E)
else(
 If a0 bigN (0:X))
/- spec_Gap -/
def K3(a0:X)(a1:V X)(a2 a3:X9)(v6:Y):W (X × Y):=
if v6 then(
 O ((0:X),E))
else(
 (ix a1 (zM .i64 ((zM .i64 (a2.B*(8:X)))+a3.A))).bind fun x8=>
 O ((zM .i64 (a0+x8)),F))
def PE(a0:X)(a1:V X)(a2 a3:X9):W (X × Y):=
(Gq a0 a1).bind fun r1=>
if r1 then(
 (Ax a2.B (0:X) (7:X)).bind fun r3=>
 if r3 then(
 (Ax a3.A (0:X) (7:X)).bind fun r5=>
 K3 a0 a1 a2 a3 (!r5))
 else(
 K3 a0 a1 a2 a3 F))
else(
 K3 a0 a1 a2 a3 F)
/- spec_CanFollow -/
def JY(a0:X)(a1:V X)(a2 a3:X9):W Y:=
(PE a0 a1 a2 a3).bind fun r1=>
if r1.2 then(
 (IB a2).bind fun r3=>
 if r3 then(
 (IB a3).bind fun r5=>
 if r5 then(
  O (decide ((zM .i64 (a2.To+r1.1))≤a3.From)))
 else(
  O E))
 else(
 O E))
else(
 O E)
/- spec_l13Both -/
def Gn(a0:X)(a1:V X)(a2:V X9)(v1:X)(x4:X9)(v2:V (V Y))(KA:X→(V (V Y))→W (V (V Y))):Z→X→(V Y)→W (V (V Y))
| 0,_,_=>U
| n+1,v5,v6=>
 if(decide (v5<(a2.length:X))) then(
 (ix a2 v5).bind fun x8=>
 (JY a0 a1 x4 x8).bind fun r9=>
 if r9 then(
  if A3 v6.length ([F]:V Y).length 1 then(
  Gn a0 a1 a2 v1 x4 v2 KA n (zM .i64 (v5+(1:X))) (v6++([F]:V Y)))
  else U)
 else(
  (JY a0 a1 x8 x4).bind fun r12=>
  if A3 v6.length ([r12]:V Y).length 1 then(
  Gn a0 a1 a2 v1 x4 v2 KA n (zM .i64 (v5+(1:X))) (v6++([r12]:V Y)))
  else U))
 else(
 if A3 v2.length ([v6]:V (V Y)).length 24 then(
  KA (zM .i64 (v1+(1:X))) (v2++([v6]:V (V Y))))
 else U)
def Fb(a0:X)(a1:V X)(a2:V X9):Z→X→(V (V Y))→W (V (V Y))
| 0,_,_=>U
| n+1,v1,v2=>
 if(decide (v1<(a2.length:X))) then(
 (ix a2 v1).bind fun x4=>
 Gn a0 a1 a2 v1 x4 v2 (Fb a0 a1 a2 n) bigN (0:X) ([]:V Y))
 else(
 O v2)
def Nd(a0:X)(a1:V X)(a2:V X9):W (V (V Y)):=
Fb a0 a1 a2 bigN (0:X) ([]:V (V Y))
/- spec_l13Search -/
def Kj(rec_:(V (V Y))→(V X)→X→W ((V X) × Y))(a0:V (V Y))(a1:V X)(a2 v2 v6:X)(Da:X→W ((V X) × Y)):W ((V X) × Y):=
Da (zM .i64 (v6+(1:X)))
def Dp(rec_:(V (V Y))→(V X)→X→W ((V X) × Y))(a0:V (V Y))(a1:V X)(a2 v2 v6:X)(Da:X→W ((V X) × Y)):Z→Y→X→W ((V X) × Y)
| 0,_,_=>U
| n+1,v9,v10=>
 if(decide (v10<(a1.length:X))) then(
 (ix a1 v10).bind fun x12=>
 if(x12==v6) then(
  (ix a0 (a1.length:X)).bind fun x14=>
  (ix x14 v10).bind fun x15=>
  if x15 then(
  Dp rec_ a0 a1 a2 v2 v6 Da n v9 (zM .i64 (v10+(1:X))))
  else(
  Dp rec_ a0 a1 a2 v2 v6 Da n E (zM .i64 (v10+(1:X)))))
 else(
  Dp rec_ a0 a1 a2 v2 v6 Da n v9 (zM .i64 (v10+(1:X)))))
 else(
 if v9 then(
  if A3 ([]:V X).length a1.length 8 then(
  if A3 a1.length ([v6]:V X).length 8 then(
   (rec_ a0 (a1++([v6]:V X)) a2).bind fun r20=>
   if r20.2 then(
   O (r20.1,F))
   else(
   Kj rec_ a0 a1 a2 v2 v6 Da))
  else U)
  else U)
 else(
  Kj rec_ a0 a1 a2 v2 v6 Da))
def DQ(rec_:(V (V Y))→(V X)→X→W ((V X) × Y))(a0:V (V Y))(a1:V X)(a2 v2:X):Z→X→W ((V X) × Y)
| 0,_=>U
| n+1,v6=>
 if(decide (v6≤v2)) then(
 if(decide (v6<a2)) then(
  Dp rec_ a0 a1 a2 v2 v6 (DQ rec_ a0 a1 a2 v2 n) bigN F (0:X))
 else(
  O (([]:V X),E)))
 else(
 O (([]:V X),E))
def Gp(rec_:(V (V Y))→(V X)→X→W ((V X) × Y))(a0:V (V Y))(a1:V X)(a2:X):Z→X→X→W ((V X) × Y)
| 0,_,_=>U
| n+1,v2,v3=>
 if(decide (v3<(a1.length:X))) then(
 (ix a1 v3).bind fun x5=>
 Gp rec_ a0 a1 a2 n (if v2<(zM .i64 (x5+(1:X))) then(zM .i64 (x5+(1:X))) else v2) (zM .i64 (v3+(1:X))))
 else(
 DQ rec_ a0 a1 a2 v2 bigN (0:X))
def Nf(rec_:(V (V Y))→(V X)→X→W ((V X) × Y))(a0:V (V Y))(a1:V X)(a2:X):W ((V X) × Y):=
if((a1.length:X)==(a0.length:X)) then(
 O (a1,F))
else(
 Gp rec_ a0 a1 a2 bigN (0:X) (0:X))
def Co:Z→(V (V Y))→(V X)→X→W ((V X) × Y)
| 0,_,_,_=>U
| n+1,a0,a1,a2=>Nf (Co n) a0 a1 a2
def PN(a0:V (V Y))(a1:V X)(a2:X):W ((V X) × Y):=Co bigN a0 a1 a2
/- spec_LeastCover -/
def Ij(a2:V X9)(r6:(V (V Y))):Z→X→W ((V X) × X × Y)
| 0,_=>U
| n+1,v7=>
 if(decide (v7≤(a2.length:X))) then(
 (PN r6 ([]:V X) v7).bind fun r9=>
 if r9.2 then(
  O (r9.1,v7,F))
 else(
  Ij a2 r6 n (zM .i64 (v7+(1:X)))))
 else(
 O (([]:V X),(0:X),E))
def MP(a0:X)(a1:V X)(a2:V X9)(v4:Y):W ((V X) × X × Y):=
if v4 then(
 O (([]:V X),(0:X),E))
else(
 (Nd a0 a1 a2).bind fun r6=>
 Ij a2 r6 bigN (0:X))
def Ii(a0:X)(a1:V X)(a2:V X9):W ((V X) × X × Y):=
(MJ a2).bind fun r1=>
if r1 then(
 (Gq a0 a1).bind fun r3=>
 MP a0 a1 a2 (!r3))
else(
 MP a0 a1 a2 F)
/- spec_TugsNeeded -/
def Kc(a0:Xm)(a1:X1)(a2:V X6)(a3:V X3):W X:=
(PO a1 a2 a3).bind fun r1=>
(Ic a0).bind fun r2=>
if r2 then(
 if r1.2 then(
 (Ii (0:X) a0.Moves r1.1).bind fun r5=>
 if r5.2.2 then(
  O r5.2.1)
 else(
  O (-1:X)))
 else(
 O (-1:X)))
else(
 O (-1:X))
/- spec_IsChain -/
def Gb(a1:V X3)(a0:X1):Z→X→W Y
| 0,_=>U
| n+1,v3=>
 if(decide (v3<(a1.length:X))) then(
 (ix a1 v3).bind fun x5=>
 (ix a1 (0:X)).bind fun x6=>
 if(x5.Ship !=x6.Ship) then(
  O E)
 else(
  (Ax x5.Segment (0:X) (zM .i64 ((a0.Segments.length:X) - (1:X)))).bind fun r9=>
  if r9 then(
  if(v3==(0:X)) then(
   Gb a1 a0 n (zM .i64 (v3+(1:X))))
  else(
   (Fa a0 x5).bind fun r12=>
   (ix a1 (zM .i64 (v3 - (1:X)))).bind fun x13=>
   (Fa a0 x13).bind fun r14=>
   if(r12.1 !=r14.2) then(
   O E)
   else(
   if(decide (x5.Start<x13.End)) then(
    O E)
   else(
    Gb a1 a0 n (zM .i64 (v3+(1:X)))))))
  else(
  O E)))
 else(
 O F)
def ML(a0:X1)(a1:V X3):W Y:=
(D4 a0).bind fun r1=>
if r1 then(
 Gb a1 a0 bigN (0:X))
else(
 O E)
/- spec_PilotDuty -/
def In(a1:V X6)(a2:V X3)(a0:X1):Z→X→W (X9 × Y)
| 0,_=>U
| n+1,v5=>
 if(decide (v5<(a2.length:X))) then(
 (ix a2 v5).bind fun x7=>
 (Kb a0 a1 x7).bind fun r9=>
 if r9 then(
  In a1 a2 a0 n (zM .i64 (v5+(1:X))))
 else(
  O ((⟨(0:X),(0:X),(0:X),(0:X)⟩:X9),E)))
 else(
 (ix a2 (zM .i64 ((a2.length:X) - (1:X)))).bind fun x11=>
 (ix a2 (0:X)).bind fun x12=>
 (Fa a0 x12).bind fun r13=>
 (Fa a0 x11).bind fun r14=>
 O ((⟨x12.Start,x11.End,r13.1,r14.2⟩:X9),F))
def MV(a1:V X6)(a2:V X3)(a0:X1)(v3:Y):W (X9 × Y):=
if v3 then(
 O ((⟨(0:X),(0:X),(0:X),(0:X)⟩:X9),E))
else(
 In a1 a2 a0 bigN (0:X))
def MU(a0:X1)(a1:V X6)(a2:V X3):W (X9 × Y):=
if((a2.length:X)==(0:X)) then(
 MV a1 a2 a0 F)
else(
 (ML a0 a2).bind fun r2=>
 MV a1 a2 a0 (!r2))
/- spec_PilotsNeeded -/
def Ge(a2:V X6)(a3:V (V X3))(a0:Xm)(a1:X1):Z→X→(V X9)→W X
| 0,_,_=>U
| n+1,v3,v4=>
 if(decide (v3<(a3.length:X))) then(
 (ix a3 v3).bind fun x6=>
 if((x6.length:X)==(0:X)) then(
  Ge a2 a3 a0 a1 n (zM .i64 (v3+(1:X))) v4)
 else(
  (MU a1 a2 x6).bind fun r9=>
  if r9.2 then(
  if A3 v4.length ([r9.1]:V X9).length 32 then(
   Ge a2 a3 a0 a1 n (zM .i64 (v3+(1:X))) (v4++([r9.1]:V X9)))
  else U)
  else(
  O (-1:X))))
 else(
 (Ii a0.Rest a0.Moves v4).bind fun r12=>
 if r12.2.2 then(
  O r12.2.1)
 else(
  O (-1:X)))
def MW(a0:Xm)(a1:X1)(a2:V X6)(a3:V (V X3)):W X:=
(Ic a0).bind fun r1=>
if r1 then(
 Ge a2 a3 a0 a1 bigN (0:X) ([]:V X9))
else(
 O (-1:X))
/- spec_CrewSuffices -/
def Ie(a2:V X6)(a3:V (V X3))(a0:Xm)(a1:X1):Z→X→(V X3)→W Y
| 0,_,_=>U
| n+1,v1,v2=>
 if(decide (v1<(a3.length:X))) then(
 (ix a3 v1).bind fun x4=>
 if A3 v2.length x4.length 40 then(
  Ie a2 a3 a0 a1 n (zM .i64 (v1+(1:X))) (v2++x4))
 else U)
 else(
 (Kc a0 a1 a2 v2).bind fun r6=>
 (Ax r6 (0:X) a0.Tugs).bind fun r7=>
 if r7 then(
  (MW a0 a1 a2 a3).bind fun r9=>
  (Ax r9 (0:X) a0.Pilots).bind fun r10=>
  O r10)
 else(
  O E))
def MI(a0:Xm)(a1:X1)(a2:V X6)(a3:V (V X3)):W Y:=
Ie a2 a3 a0 a1 bigN (0:X) ([]:V X3)
/- spec_l16Search -/
def D6(rec_:Xe→(V X)→X→W Xe)(a1:V X)(a2:X)(a0:Xe)(v4:Y):Z→X→(V X0)→W Xe
| 0,_,_=>U
| n+1,v6,v7=>
 if(decide (v6<(a1.length:X))) then(
 (ix a1 v6).bind fun x9=>
 (ix a0.lists v6).bind fun x10=>
 (ix x10 x9).bind fun x11=>
 if A3 v7.length ([x11]:V X0).length 48 then(
  D6 rec_ a1 a2 a0 v4 n (zM .i64 (v6+(1:X))) (v7++([x11]:V X0)))
 else U)
 else(
 (JZ v7).bind fun r13=>
 (MI a0.h.Crew a0.h.Chart a0.h.Fleet r13).bind fun r14=>
 if r14 then(
  if A3 ([]:V X).length a1.length 8 then(
  O (⟨a0.h,a0.lists,a0.clash,a0.rest,a1,a2,F⟩:Xe))
  else U)
 else(
  O (⟨a0.h,a0.lists,a0.clash,a0.rest,a0.best,a0.cost,v4⟩:Xe)))
def Dq(rec_:Xe→(V X)→X→W Xe)(a1:V X)(a2 v18:X)(x17:V X0)(v19:X)(v20:V Xc)(v21:V Xa)(v22:V X7)(v23:V X2)(v24:V X6)(v25:X)(v26:Y)(v27 v28 v29:X)(v30:V X)(v31:V (V X0))(v32:V (V (V (V Y))))(v33:V X)(v34:X)(v35:Y)(x38:X0)(v36:V X)(IN:X→X→(V Xc)→(V Xa)→(V X7)→(V X2)→(V X6)→X→Y→X→X→X→(V X)→(V (V X0))→(V (V (V (V Y))))→(V X)→X→Y→(V X)→W Xe):Z→Y→X→W Xe
| 0,_,_=>U
| n+1,v39,v40=>
 if(decide (v40<(a1.length:X))) then(
 (ix a1 v40).bind fun x42=>
 (ix v32 (a1.length:X)).bind fun x43=>
 (ix x43 v40).bind fun x44=>
 (ix x44 v18).bind fun x45=>
 (ix x45 x42).bind fun x46=>
 if x46 then(
  Dq rec_ a1 a2 v18 x17 v19 v20 v21 v22 v23 v24 v25 v26 v27 v28 v29 v30 v31 v32 v33 v34 v35 x38 v36 IN n E (zM .i64 (v40+(1:X))))
 else(
  Dq rec_ a1 a2 v18 x17 v19 v20 v21 v22 v23 v24 v25 v26 v27 v28 v29 v30 v31 v32 v33 v34 v35 x38 v36 IN n v39 (zM .i64 (v40+(1:X)))))
 else(
 if v39 then(
  if A3 ([]:V X).length a1.length 8 then(
  if A3 a1.length ([v18]:V X).length 8 then(
   (rec_ (⟨(⟨(⟨(⟨v19,v20⟩:Xl),v21⟩:Xd),(⟨v22,v23⟩:X1),v24,(⟨v25,v26⟩:Xh),(⟨v27,v28,v29,v30⟩:Xm)⟩:X4),v31,v32,v33,v36,v34,v35⟩:Xe) (a1++([v18]:V X)) (zM .i64 (a2+x38.Cost))).bind fun r51=>
   IN (zM .i64 (v18+(1:X))) r51.h.Forecast.Tide.Mean r51.h.Forecast.Tide.Parts r51.h.Forecast.Surges r51.h.Chart.Points r51.h.Chart.Segments r51.h.Fleet r51.h.Regime.Gap r51.h.Regime.NoMeet r51.h.Crew.Tugs r51.h.Crew.Pilots r51.h.Crew.Rest r51.h.Crew.Moves r51.lists r51.clash r51.rest r51.cost r51.found r51.best)
  else U)
  else U)
 else(
  IN (zM .i64 (v18+(1:X))) v19 v20 v21 v22 v23 v24 v25 v26 v27 v28 v29 v30 v31 v32 v33 v34 v35 v36))
def El(rec_:Xe→(V X)→X→W Xe)(a1:V X)(a2:X)(x17:V X0):Z→X→X→(V Xc)→(V Xa)→(V X7)→(V X2)→(V X6)→X→Y→X→X→X→(V X)→(V (V X0))→(V (V (V (V Y))))→(V X)→X→Y→(V X)→W Xe
| 0,_,_,_,_,_,_,_,_,_,_,_,_,_,_,_,_,_,_,_=>U
| n+1,v18,v19,v20,v21,v22,v23,v24,v25,v26,v27,v28,v29,v30,v31,v32,v33,v34,v35,v36=>
 if(decide (v18<(x17.length:X))) then(
 (ix x17 v18).bind fun x38=>
 Dq rec_ a1 a2 v18 x17 v19 v20 v21 v22 v23 v24 v25 v26 v27 v28 v29 v30 v31 v32 v33 v34 v35 x38 v36 (El rec_ a1 a2 x17 n) bigN F (0:X))
 else(
 O (⟨(⟨(⟨(⟨v19,v20⟩:Xl),v21⟩:Xd),(⟨v22,v23⟩:X1),v24,(⟨v25,v26⟩:Xh),(⟨v27,v28,v29,v30⟩:Xm)⟩:X4),v31,v32,v33,v36,v34,v35⟩:Xe))
def Gu(rec_:Xe→(V X)→X→W Xe)(a1:V X)(a2:X)(a0:Xe)(v4:Y):W Xe:=
if((a1.length:X)==(a0.lists.length:X)) then(
 D6 rec_ a1 a2 a0 v4 bigN (0:X) ([]:V X0))
else(
 (ix a0.lists (a1.length:X)).bind fun x17=>
 El rec_ a1 a2 x17 bigN (0:X) a0.h.Forecast.Tide.Mean a0.h.Forecast.Tide.Parts a0.h.Forecast.Surges a0.h.Chart.Points a0.h.Chart.Segments a0.h.Fleet a0.h.Regime.Gap a0.h.Regime.NoMeet a0.h.Crew.Tugs a0.h.Crew.Pilots a0.h.Crew.Rest a0.h.Crew.Moves a0.lists a0.clash a0.rest a0.cost v4 a0.best)
def PQ(rec_:Xe→(V X)→X→W Xe)(a0:Xe)(a1:V X)(a2:X):W Xe:=
if a0.found then(
 (ix a0.rest (a1.length:X)).bind fun x2=>
 if(decide (a0.cost≤(zM .i64 (a2+x2)))) then(
 O (⟨a0.h,a0.lists,a0.clash,a0.rest,a0.best,a0.cost,F⟩:Xe))
 else(
 Gu rec_ a1 a2 a0 F))
else(
 Gu rec_ a1 a2 a0 E)
def BK:Z→Xe→(V X)→X→W Xe
| 0,_,_,_=>U
| n+1,a0,a1,a2=>PQ (BK n) a0 a1 a2
def RU(a0:Xe)(a1:V X)(a2:X):W Xe:=BK bigN a0 a1 a2
/- spec_l16Best -/
def IC(a1:V (V X0))(a0:X4)(r1:(V (V (V (V Y))))):Z→X→(V X)→W ((V X) × X × Y)
| 0,_,_=>U
| n+1,v3,v4=>
 if(decide ((0:X)≤v3)) then(
 (ix a1 v3).bind fun x6=>
 (PD x6).bind fun r7=>
 if(decide (r7<(0:X))) then(
  O (([]:V X),(0:X),E))
 else(
  (ix v4 (zM .i64 (v3+(1:X)))).bind fun x9=>
  (ix x6 r7).bind fun x10=>
  (ix v4 v3).bind fun x11=>
  IC a1 a0 r1 n (zM .i64 (v3 - (1:X))) (v4.set (zD v3) (zM .i64 (x9+x10.Cost)))))
 else(
 (RU (⟨a0,a1,r1,v4,([]:V X),(0:X),E⟩:Xe) ([]:V X) (0:X)).bind fun r12=>
 if r12.found then(
  O (r12.best,r12.cost,F))
 else(
  O (([]:V X),(0:X),E)))
def Nh(a0:X4)(a1:V (V X0)):W ((V X) × X × Y):=
(Ni a0 a1).bind fun r1=>
(BM (zM .i64 ((a1.length:X)+(1:X))) (zM .i64 ((a1.length:X)+(1:X))) 8).bind fun n2=>
IC a1 a0 r1 bigN (zM .i64 ((a1.length:X) - (1:X))) (zG n2 (0:X))
/- spec_l18Serves -/
def IG(a1:V (V X0))(a2:V X)(a0:X4):Z→X→(V (V X0))→W Y
| 0,_,_=>U
| n+1,v1,v2=>
 if(decide (v1<(a2.length:X))) then(
 (ix a2 v1).bind fun x4=>
 (ix a1 x4).bind fun x5=>
 if A3 v2.length ([x5]:V (V X0)).length 24 then(
  IG a1 a2 a0 n (zM .i64 (v1+(1:X))) (v2++([x5]:V (V X0))))
 else U)
 else(
 (Nh a0 v2).bind fun r7=>
 O r7.2.2)
def Nm(a0:X4)(a1:V (V X0))(a2:V X):W Y:=
IG a1 a2 a0 bigN (0:X) ([]:V (V X0))
/- spec_l18Table -/
def IH(a1:V Xb)(a0:X4)(r1:(V (V X0))):Z→X→(V Y)→W (V Y)
| 0,_,_=>U
| n+1,v2,v3=>
 if decide ((a1.length:X)<0) then U else
 if(decide (v2<(B9 .i64 (1:X) (a1.length:X)))) then(
 (Nj (a1.length:X) v2).bind fun r6=>
 (Nm a0 r1 r6).bind fun r7=>
 if A3 v3.length ([r7]:V Y).length 1 then(
  IH a1 a0 r1 n (zM .i64 (v2+(1:X))) (v3++([r7]:V Y)))
 else U)
 else(
 O v3)
def Nn(a0:X4)(a1:V Xb):W (V Y):=
(PP a0 a1).bind fun r1=>
IH a1 a0 r1 bigN (0:X) ([]:V Y)
/- spec_l13Less -/
def PM(a1 a0:V X):Z→X→W Y
| 0,_=>U
| n+1,v1=>
 if(decide (v1<(a0.length:X))) then(
 (ix a0 v1).bind fun x3=>
 (ix a1 v1).bind fun x4=>
 if(x3 !=x4) then(
  O (decide (x3<x4)))
 else(
  PM a1 a0 n (zM .i64 (v1+(1:X)))))
 else(
 O E)
def PL(a0 a1:V X):W Y:=
PM a1 a0 bigN (0:X)
/- spec_l18Pick -/
def IF(a0:X)(a2 v14:Y)(v2:V X)(v11:Y)(r9:(V X))(a1:V Y)(v4:X)(BA:Y→(V X)→Y→X→W (V X))(v21:Y):W (V X):=
if v21 then(
 BA v14 r9 F (zM .i64 (v4+(1:X))))
else(
 BA v14 v2 v11 (zM .i64 (v4+(1:X))))
def Km(a0:X)(a2 v14:Y)(v2:V X)(v11:Y)(r9:(V X))(a1:V Y)(v4:X)(BA:Y→(V X)→Y→X→W (V X))(v17:Y):W (V X):=
if v17 then(
 IF a0 a2 v14 v2 v11 r9 a1 v4 BA F)
else(
 if((r9.length:X)==(v2.length:X)) then(
 (PL r9 v2).bind fun r20=>
 IF a0 a2 v14 v2 v11 r9 a1 v4 BA r20)
 else(
 IF a0 a2 v14 v2 v11 r9 a1 v4 BA E))
def Kl(a0:X)(a2:Y)(v2:V X)(v11:Y)(r9:(V X))(v12:Y)(a1:V Y)(v4:X)(BA:Y→(V X)→Y→X→W (V X))(v14 v15:Y):W (V X):=
if v15 then(
 Km a0 a2 v14 v2 v11 r9 a1 v4 BA (decide ((v2.length:X)<(r9.length:X))))
else(
 Km a0 a2 v14 v2 v11 r9 a1 v4 BA v12)
def Kk(a0:X)(a2 v1:Y)(v2:V X)(r9:(V X))(a1:V Y)(v4:X)(BA:Y→(V X)→Y→X→W (V X))(v11 v12:Y):W (V X):=
if v1 then(
 Kl a0 a2 v2 v11 r9 v12 a1 v4 BA F v11)
else(
 Kl a0 a2 v2 v11 r9 v12 a1 v4 BA E E)
def Ff(a0:X)(a2:Y)(a1:V Y):Z→Y→(V X)→Y→X→W (V X)
| 0,_,_,_,_=>U
| n+1,v1,v2,v3,v4=>
 if(decide (v4<(a1.length:X))) then(
 (ix a1 v4).bind fun x6=>
 if(x6==a2) then(
  (Nj a0 v4).bind fun r9=>
  if v3 then(
  Kk a0 a2 v1 v2 r9 a1 v4 (Ff a0 a2 a1 n) F (decide ((r9.length:X)<(v2.length:X))))
  else(
  Kk a0 a2 v1 v2 r9 a1 v4 (Ff a0 a2 a1 n) E F))
 else(
  Ff a0 a2 a1 n v1 v2 v3 (zM .i64 (v4+(1:X)))))
 else(
 if v3 then(
  O v2)
 else(
  O ([]:V X)))
def Nl(a0:X)(a1:V Y)(a2 a3:Y):W (V X):=
Ff a0 a2 a1 bigN a3 ([]:V X) E (0:X)
/- spec_RefusalOf -/
def MZ(a0:X4)(a1:V Xb):W (V X):=
(I7 a0 a1).bind fun r1=>
if r1 then(
 (Nn a0 a1).bind fun r3=>
 (Nl (a1.length:X) r3 E E).bind fun r4=>
 O r4)
else(
 O ([]:V X))
/- spec_Join -/
def K6(a1 x4:V zA)(a0:V (V zA))(v2:X)(Qq:(V zA)→X→W (V zA))(v7:V zA):W (V zA):=
if H8 v7.length x4.length then(
 Qq (v7++x4) (zM .i64 (v2+(1:X))))
else U
def Gd(a1:V zA)(a0:V (V zA)):Z→(V zA)→X→W (V zA)
| 0,_,_=>U
| n+1,v1,v2=>
 if(decide (v2<(a0.length:X))) then(
 (ix a0 v2).bind fun x4=>
 if(decide ((0:X)<v2)) then(
  if H8 v1.length a1.length then(
  K6 a1 x4 a0 v2 (Gd a1 a0 n) (v1++a1))
  else U)
 else(
  K6 a1 x4 a0 v2 (Gd a1 a0 n) v1))
 else(
 O v1)
def MO(a0:V (V zA))(a1:V zA):W (V zA):=
Gd a1 a0 bigN ([]:V zA) (0:X)
/- spec_RefusalLine -/
def Gf(a1:V Xb)(r3:(V X))(a0:X4):Z→X→(V (V zA))→W (V zA)
| 0,_,_=>U
| n+1,v4,v5=>
 if(decide (v4<(r3.length:X))) then(
 (ix r3 v4).bind fun x7=>
 (ix a1 x7).bind fun x8=>
 (ix a0.Fleet x8.Ship).bind fun x9=>
 if A3 v5.length ([x9.Name]:V (V zA)).length 16 then(
  Gf a1 r3 a0 n (zM .i64 (v4+(1:X))) (v5++([x9.Name]:V (V zA))))
 else U)
 else(
 if((v5.length:X)==(0:X)) then(
  O ([110,111,110,101]:V zA))
 else(
  (MO v5 ([43]:V zA)).bind fun r12=>
  O r12))
def MY(a0:X4)(a1:V Xb):W (V zA):=
(I7 a0 a1).bind fun r1=>
if r1 then(
 (MZ a0 a1).bind fun r3=>
 Gf a1 r3 a0 bigN (0:X) ([]:V (V zA)))
else(
 O ([]:V zA))
/- impl_within -/
def BJ(a0 a1 a2:X):W Y:=
if(decide (a1≤a0)) then(
 O (decide (a0≤a2)))
else(
 O E)
/- impl_isPeriod -/
def JM(a0:X):W Y:=
(BJ a0 (4:X) (2880:X)).bind fun r1=>
if r1 then(
 O ((zM .i64 (zJ a0 (4:X)))==(0:X)))
else(
 O E)
/- impl_PartOk -/
def Lu(a0:Xc):W Y:=
(BJ a0.Amp (0:X) (1000:X)).bind fun r1=>
if r1 then(
 (JM a0.Period).bind fun r3=>
 if r3 then(
 (BJ a0.Phase (0:X) (zM .i64 (a0.Period - (1:X)))).bind fun r5=>
 O r5)
 else(
 O E))
else(
 O E)
/- impl_TideOk -/
def HA(a0:Xl):Z→X→W Y
| 0,_=>U
| n+1,v4=>
 if(decide (v4<(a0.Parts.length:X))) then(
 (ix a0.Parts v4).bind fun x6=>
 (Lu x6).bind fun r7=>
 if r7 then(
  HA a0 n (zM .i64 (v4+(1:X))))
 else(
  O E))
 else(
 O F)
def LH(a0:Xl):W Y:=
(BJ a0.Mean (-1000:X) (1000:X)).bind fun r1=>
if r1 then(
 if(decide ((4:X)<(a0.Parts.length:X))) then(
 O E)
 else(
 HA a0 bigN (0:X)))
else(
 O E)
/- impl_isMinute -/
def CS(a0:X):W Y:=
(BJ a0 (0:X) (2880:X)).bind fun r1=>
O r1
/- impl_SurgeOk -/
def LG(a0:Xa):W Y:=
(CS a0.From).bind fun r1=>
if r1 then(
 if(decide ((-500:X)≤a0.Low)) then(
 if(decide (a0.Low≤a0.High)) then(
  O (decide (a0.High≤(500:X))))
 else(
  O E))
 else(
 O E))
else(
 O E)
/- impl_ForecastOk -/
def FS(a0:Xd):Z→X→W Y
| 0,_=>U
| n+1,v7=>
 if(decide (v7<(a0.Surges.length:X))) then(
 (ix a0.Surges v7).bind fun x9=>
 (LG x9).bind fun r10=>
 if r10 then(
  if(decide ((0:X)<v7)) then(
  (ix a0.Surges (zM .i64 (v7 - (1:X)))).bind fun x13=>
  if(decide (x9.From≤x13.From)) then(
   O E)
  else(
   FS a0 n (zM .i64 (v7+(1:X)))))
  else(
  FS a0 n (zM .i64 (v7+(1:X)))))
 else(
  O E))
 else(
 O F)
def FR(a0:Xd):W Y:=
(LH a0.Tide).bind fun r1=>
if r1 then(
 (BJ (a0.Surges.length:X) (1:X) (6:X)).bind fun r3=>
 if r3 then(
 (ix a0.Surges (0:X)).bind fun x5=>
 if(x5.From !=(0:X)) then(
  O E)
 else(
  FS a0 bigN (0:X)))
 else(
 O E))
else(
 O E)
/- impl_IsName -/
def Ln(a0:V zA)(v3:X)(Eo:X→W Y):W Y:=
Eo (zM .i64 (v3+(1:X)))
def Lm(a0:V zA)(v3:X)(Eo:X→W Y)(v7:Y):W Y:=
if v7 then(
 Ln a0 v3 Eo)
else(
 if(v3==(0:X)) then(
 O E)
 else(
 (ix a0 v3).bind fun b10=>
 if(decide ((b10.toNat:X)<(48:X))) then(
  O E)
 else(
  if(decide ((57:X)<(b10.toNat:X))) then(
  O E)
  else(
  Ln a0 v3 Eo))))
def FT(a0:V zA):Z→X→W Y
| 0,_=>U
| n+1,v3=>
 if(decide (v3<(a0.length:X))) then(
 (ix a0 v3).bind fun b5=>
 if(decide ((97:X)≤(b5.toNat:X))) then(
  Lm a0 v3 (FT a0 n) (decide ((b5.toNat:X)≤(122:X))))
 else(
  Lm a0 v3 (FT a0 n) E))
 else(
 O F)
def JB(a0:V zA):W Y:=
(BJ (a0.length:X) (1:X) (8:X)).bind fun r1=>
if r1 then(
 FT a0 bigN (0:X))
else(
 O E)
/- impl_PointNamed -/
def Hv(a1:V zA)(a0:X1):Z→X→W X
| 0,_=>U
| n+1,v1=>
 if(decide (v1<(a0.Points.length:X))) then(
 (ix a0.Points v1).bind fun x3=>
 if(x3.Name==a1) then(
  O v1)
 else(
  Hv a1 a0 n (zM .i64 (v1+(1:X)))))
 else(
 O (-1:X))
def Lx(a0:X1)(a1:V zA):W X:=
Hv a1 a0 bigN (0:X)
/- impl_isIndex -/
def Bq(a0 a1:X):W Y:=
if(decide ((0:X)≤a0)) then(
 O (decide (a0<a1)))
else(
 O E)
/- impl_Segment_joins -/
def LB(a0:X2)(a1 a2:X):W Y:=
if(a0.A==a1) then(
 if(a0.B==a2) then(
 O F)
 else(
 if(a0.A==a2) then(
  O (a0.B==a1))
 else(
  O E)))
else(
 if(a0.A==a2) then(
 O (a0.B==a1))
 else(
 O E))
/- impl_ChartOk -/
def Hd(a0:X1)(v11:X)(x13:X2)(y24:V X2)(y25:X)(NI:X→W Y):Z→X→W Y
| 0,_=>U
| n+1,v26=>
 if(decide (v26<y25)) then(
 (ix y24 v26).bind fun x28=>
 (LB x28 x13.A x13.B).bind fun r29=>
 if r29 then(
  O E)
 else(
  Hd a0 v11 x13 y24 y25 NI n (zM .i64 (v26+(1:X)))))
 else(
 NI (zM .i64 (v11+(1:X))))
def Ec(a0:X1):Z→X→W Y
| 0,_=>U
| n+1,v11=>
 if(decide (v11<(a0.Segments.length:X))) then(
 (ix a0.Segments v11).bind fun x13=>
 (Bq x13.A (a0.Points.length:X)).bind fun r14=>
 if r14 then(
  (Bq x13.B (a0.Points.length:X)).bind fun r16=>
  if r16 then(
  if(x13.A==x13.B) then(
   O E)
  else(
   (BJ x13.Depth (0:X) (3000:X)).bind fun r19=>
   if r19 then(
   (BJ x13.Minutes (1:X) (240:X)).bind fun r21=>
   if r21 then(
    (bnd (a0.Segments.length:X) v11 (0:X) a0.Segments.length).bind fun p23=>
    Hd a0 v11 x13 ((a0.Segments.drop p23.1).take (p23.2 - p23.1)) (((a0.Segments.drop p23.1).take (p23.2 - p23.1)).length:X) (Ec a0 n) bigN (0:X))
   else(
    O E))
   else(
   O E)))
  else(
  O E))
 else(
  O E))
 else(
 O F)
def Hc(a0:X1):Z→X→W Y
| 0,_=>U
| n+1,v3=>
 if(decide (v3<(a0.Points.length:X))) then(
 (ix a0.Points v3).bind fun x5=>
 (JB x5.Name).bind fun r6=>
 if r6 then(
  (Lx a0 x5.Name).bind fun r9=>
  if(r9 !=v3) then(
  O E)
  else(
  Hc a0 n (zM .i64 (v3+(1:X)))))
 else(
  O E))
 else(
 Ec a0 bigN (0:X))
def Dm(a0:X1):W Y:=
if(decide ((8:X)<(a0.Points.length:X))) then(
 O E)
else(
 if(decide ((10:X)<(a0.Segments.length:X))) then(
 O E)
 else(
 Hc a0 bigN (0:X)))
/- impl_ShipOk -/
def Ed(a0:X6):W Y:=
(JB a0.Name).bind fun r1=>
if r1 then(
 (BJ a0.Length (10:X) (400:X)).bind fun r3=>
 if r3 then(
 (BJ a0.Draught (100:X) (2000:X)).bind fun r5=>
 if r5 then(
  (Bq a0.Line (4:X)).bind fun r7=>
  if r7 then(
  (BJ a0.Tugs (0:X) (4:X)).bind fun r9=>
  O r9)
  else(
  O E))
 else(
  O E))
 else(
 O E))
else(
 O E)
/- impl_ShipNamed -/
def Hz(a1:V zA)(a0:V X6):Z→X→W X
| 0,_=>U
| n+1,v1=>
 if(decide (v1<(a0.length:X))) then(
 (ix a0 v1).bind fun x3=>
 if(x3.Name==a1) then(
  O v1)
 else(
  Hz a1 a0 n (zM .i64 (v1+(1:X)))))
 else(
 O (-1:X))
def LD(a0:V X6)(a1:V zA):W X:=
Hz a1 a0 bigN (0:X)
/- impl_FleetOk -/
def Hm(a0:V X6):Z→X→W Y
| 0,_=>U
| n+1,v2=>
 if(decide (v2<(a0.length:X))) then(
 (ix a0 v2).bind fun x4=>
 (Ed x4).bind fun r5=>
 if r5 then(
  (LD a0 x4.Name).bind fun r7=>
  if(r7 !=v2) then(
  O E)
  else(
  Hm a0 n (zM .i64 (v2+(1:X)))))
 else(
  O E))
 else(
 O F)
def Jz(a0:V X6):W Y:=
if(decide ((6:X)<(a0.length:X))) then(
 O E)
else(
 Hm a0 bigN (0:X))
/- impl_RegimeOk -/
def Pa(a0:Xh):W Y:=
(BJ a0.Gap (0:X) (60:X)).bind fun r1=>
O r1
/- impl_movesOk -/
def G4(a0:V X):Z→X→W Y
| 0,_=>U
| n+1,v2=>
 if(decide (v2<(a0.length:X))) then(
 (ix a0 v2).bind fun x4=>
 (BJ x4 (0:X) (240:X)).bind fun r5=>
 if r5 then(
  G4 a0 n (zM .i64 (v2+(1:X))))
 else(
  O E))
 else(
 O F)
def G3(a0:V X):W Y:=
if((a0.length:X) !=(64:X)) then(
 O E)
else(
 G4 a0 bigN (0:X))
/- impl_CrewOk -/
def Li(a0:Xm):W Y:=
(BJ a0.Tugs (0:X) (12:X)).bind fun r1=>
if r1 then(
 (BJ a0.Pilots (0:X) (12:X)).bind fun r3=>
 if r3 then(
 (CS a0.Rest).bind fun r5=>
 if r5 then(
  (G3 a0.Moves).bind fun r7=>
  O r7)
 else(
  O E))
 else(
 O E))
else(
 O E)
/- impl_HarbourOk -/
def JA(a0:X4):W Y:=
(FR a0.Forecast).bind fun r1=>
if r1 then(
 (Dm a0.Chart).bind fun r3=>
 if r3 then(
 (Jz a0.Fleet).bind fun r5=>
 if r5 then(
  (Pa a0.Regime).bind fun r7=>
  if r7 then(
  (Li a0.Crew).bind fun r9=>
  O r9)
  else(
  O E))
 else(
  O E))
 else(
 O E))
else(
 O E)
/- impl_callOk -/
def JI(a0:X4)(a1:Xb):W Y:=
(Bq a1.Ship (a0.Fleet.length:X)).bind fun r1=>
if r1 then(
 (Bq a1.From (a0.Chart.Points.length:X)).bind fun r3=>
 if r3 then(
 (Bq a1.To (a0.Chart.Points.length:X)).bind fun r5=>
 if r5 then(
  if(a1.From !=a1.To) then(
  (CS a1.Ready).bind fun r9=>
  if r9 then(
   (BJ a1.Due a1.Ready (2880:X)).bind fun r11=>
   O r11)
  else(
   O E))
  else(
  O E))
 else(
  O E))
 else(
 O E))
else(
 O E)
/- impl_CallsOk -/
def Dl(a1:V Xb)(v4:X)(a0:X4)(x6:Xb)(y10:V Xb)(y11:X)(NH:X→W Y):Z→X→W Y
| 0,_=>U
| n+1,v12=>
 if(decide (v12<y11)) then(
 (ix y10 v12).bind fun x14=>
 if(x14.Ship==x6.Ship) then(
  O E)
 else(
  Dl a1 v4 a0 x6 y10 y11 NH n (zM .i64 (v12+(1:X)))))
 else(
 NH (zM .i64 (v4+(1:X))))
def CB(a1:V Xb)(a0:X4):Z→X→W Y
| 0,_=>U
| n+1,v4=>
 if(decide (v4<(a1.length:X))) then(
 (ix a1 v4).bind fun x6=>
 (JI a0 x6).bind fun r7=>
 if r7 then(
  (bnd (a1.length:X) v4 (0:X) a1.length).bind fun p9=>
  Dl a1 v4 a0 x6 ((a1.drop p9.1).take (p9.2 - p9.1)) (((a1.drop p9.1).take (p9.2 - p9.1)).length:X) (CB a1 a0 n) bigN (0:X))
 else(
  O E))
 else(
 O F)
def Cn(a0:X4)(a1:V Xb):W Y:=
(JA a0).bind fun r1=>
if r1 then(
 if(decide ((6:X)<(a1.length:X))) then(
 O E)
 else(
 CB a1 a0 bigN (0:X)))
else(
 O E)
/- impl_selections -/
def Pk(rec_:X→X→W (V (V X)))(a0 a1 v2:X)(r5:(V (V X)))(v6:X)(x9:V X)(v7:V (V X))(NO:X→(V (V X))→W (V (V X))):Z→X→(V X)→W (V (V X))
| 0,_,_=>U
| n+1,v10,v11=>
 if(decide (v10<(x9.length:X))) then(
 (ix x9 v10).bind fun x13=>
 if A3 v11.length ([(zM .i64 ((zM .i64 (v2+(1:X)))+x13))]:V X).length 8 then(
  Pk rec_ a0 a1 v2 r5 v6 x9 v7 NO n (zM .i64 (v10+(1:X))) (v11++([(zM .i64 ((zM .i64 (v2+(1:X)))+x13))]:V X)))
 else U)
 else(
 if A3 v7.length ([v11]:V (V X)).length 24 then(
  NO (zM .i64 (v6+(1:X))) (v7++([v11]:V (V X))))
 else U)
def Pj(rec_:X→X→W (V (V X)))(a0 a1 v2:X)(r5:(V (V X)))(NN:X→(V (V X))→W (V (V X))):Z→X→(V (V X))→W (V (V X))
| 0,_,_=>U
| n+1,v6,v7=>
 if(decide (v6<(r5.length:X))) then(
 (ix r5 v6).bind fun x9=>
 Pk rec_ a0 a1 v2 r5 v6 x9 v7 (Pj rec_ a0 a1 v2 r5 NN n) bigN (0:X) ([v2]:V X))
 else(
 NN (zM .i64 (v2+(1:X))) v7)
def Pi(rec_:X→X→W (V (V X)))(a0 a1:X):Z→X→(V (V X))→W (V (V X))
| 0,_,_=>U
| n+1,v2,v3=>
 if(decide (v2<a0)) then(
 (rec_ (zM .i64 ((zM .i64 (a0 - v2)) - (1:X))) (zM .i64 (a1 - (1:X)))).bind fun r5=>
 Pj rec_ a0 a1 v2 r5 (Pi rec_ a0 a1 n) bigN (0:X) v3)
 else(
 O v3)
def RQ(rec_:X→X→W (V (V X)))(a0 a1:X):W (V (V X)):=
if(a1==(0:X)) then(
 O ([([]:V X)]:V (V X)))
else(
 Pi rec_ a0 a1 bigN (0:X) ([]:V (V X)))
def LW:Z→X→X→W (V (V X))
| 0,_,_=>U
| n+1,a0,a1=>RQ (LW n) a0 a1
def RP(a0 a1:X):W (V (V X)):=LW bigN a0 a1
/- impl_isSelection -/
def G1(a0:V Xb)(a1:V X):Z→X→W Y
| 0,_=>U
| n+1,v1=>
 if(decide (v1<(a1.length:X))) then(
 (ix a1 v1).bind fun x3=>
 (Bq x3 (a0.length:X)).bind fun r4=>
 if r4 then(
  if(decide ((0:X)<v1)) then(
  (ix a1 (zM .i64 (v1 - (1:X)))).bind fun x7=>
  if(decide (x3≤x7)) then(
   O E)
  else(
   G1 a0 a1 n (zM .i64 (v1+(1:X)))))
  else(
  G1 a0 a1 n (zM .i64 (v1+(1:X)))))
 else(
  O E))
 else(
 O F)
def JN(a0:V Xb)(a1:V X):W Y:=
G1 a0 a1 bigN (0:X)
/- impl_SelectCalls -/
def Hy(a0:V Xb)(a1:V X):Z→X→(V Xb)→W (V Xb)
| 0,_,_=>U
| n+1,v3,v4=>
 if(decide (v3<(a1.length:X))) then(
 (ix a1 v3).bind fun x6=>
 (ix a0 x6).bind fun x7=>
 if A3 v4.length ([x7]:V Xb).length 40 then(
  Hy a0 a1 n (zM .i64 (v3+(1:X))) (v4++([x7]:V Xb)))
 else U)
 else(
 O v4)
def LC(a0:V Xb)(a1:V X):W (V Xb):=
(JN a0 a1).bind fun r1=>
if r1 then(
 Hy a0 a1 bigN (0:X) ([]:V Xb))
else(
 O ([]:V Xb))
/- impl_CallOk -/
def Lf(a0:X4)(a1:Xb):W Y:=
(JA a0).bind fun r1=>
if r1 then(
 (JI a0 a1).bind fun r3=>
 O r3)
else(
 O E)
/- impl_clone_int -/
def Bx(a0:V X):W (V X):=
(BM (0:X) (a0.length:X) 8).bind fun n1=>
if A3 (zG n1 (0:X)).length a0.length 8 then(
 O ((zG n1 (0:X))++a0))
else U
/- impl_Segment_end -/
def JF(a0:X2)(a1:X):W X:=
if(a1==a0.A) then(
 O a0.B)
else(
 if(a1==a0.B) then(
 O a0.A)
 else(
 O (-1:X)))
/- impl_Chart_routesFrom -/
def Hg(rec_:X1→X→X→(V X)→X8→(V (V X))→W (V (V X)))(a1 a2:X)(a3:V X)(v6 r11:X)(a0:X1)(y7:X8)(v8:V (V X))(NJ:X→(V (V X))→W (V (V X)))(v16:Y):W (V (V X)):=
if v16 then(
 (Bx a3).bind fun r18=>
 if A3 r18.length ([v6]:V X).length 8 then(
 (rec_ a0 r11 a2 (r18++([v6]:V X)) y7 v8).bind fun r20=>
 NJ (zM .i64 (v6+(1:X))) r20)
 else U)
else(
 NJ (zM .i64 (v6+(1:X))) v8)
def FP(rec_:X1→X→X→(V X)→X8→(V (V X))→W (V (V X)))(a1 a2:X)(a3:V X)(a0:X1)(y7:X8):Z→X→(V (V X))→W (V (V X))
| 0,_,_=>U
| n+1,v6,v8=>
 if(decide (v6<(a0.Segments.length:X))) then(
 (ix a0.Segments v6).bind fun x10=>
 (JF x10 a1).bind fun r11=>
 if(decide ((0:X)≤r11)) then(
  if decide ((0:X)≤r11)&&decide (r11<(8:X)) then(
  (ix ([y7.i0,y7.i1,y7.i2,y7.i3,y7.i4,y7.i5,y7.i6,y7.i7]:V Y) r11).bind fun x14=>
  Hg rec_ a1 a2 a3 v6 r11 a0 y7 v8 (FP rec_ a1 a2 a3 a0 y7 n) (!x14))
  else U)
 else(
  Hg rec_ a1 a2 a3 v6 r11 a0 y7 v8 (FP rec_ a1 a2 a3 a0 y7 n) E))
 else(
 O v8)
def P7(rec_:X1→X→X→(V X)→X8→(V (V X))→W (V (V X)))(a0:X1)(a1 a2:X)(a3:V X)(a4:X8)(a5:V (V X)):W (V (V X)):=
if(a1==a2) then(
 (Bx a3).bind fun r2=>
 if A3 a5.length ([r2]:V (V X)).length 24 then(
 O (a5++([r2]:V (V X))))
 else U)
else(
 if decide ((0:X)≤a1)&&decide (a1<(8:X)) then(
 FP rec_ a1 a2 a3 a0 (⟨((X8.set a4 (zD a1) F)).i0,((X8.set a4 (zD a1) F)).i1,((X8.set a4 (zD a1) F)).i2,((X8.set a4 (zD a1) F)).i3,((X8.set a4 (zD a1) F)).i4,((X8.set a4 (zD a1) F)).i5,((X8.set a4 (zD a1) F)).i6,((X8.set a4 (zD a1) F)).i7⟩:X8) bigN (0:X) a5)
 else U)
def FQ:Z→X1→X→X→(V X)→X8→(V (V X))→W (V (V X))
| 0,_,_,_,_,_,_=>U
| n+1,a0,a1,a2,a3,a4,a5=>P7 (FQ n) a0 a1 a2 a3 a4 a5
def RM(a0:X1)(a1 a2:X)(a3:V X)(a4:X8)(a5:V (V X)):W (V (V X)):=FQ bigN a0 a1 a2 a3 a4 a5
/- impl_RoutesBetween -/
def LA(a0:X1)(a1 a2:X):W (V (V X)):=
(Dm a0).bind fun r1=>
if r1 then(
 (Bq a1 (a0.Points.length:X)).bind fun r3=>
 if r3 then(
 (Bq a2 (a0.Points.length:X)).bind fun r5=>
 if r5 then(
  (RM a0 a1 a2 ([]:V X) (⟨E,E,E,E,E,E,E,E⟩:X8) ([]:V (V X))).bind fun r7=>
  O r7)
 else(
  O ([]:V (V X))))
 else(
 O ([]:V (V X))))
else(
 O ([]:V (V X)))
/- impl_RouteMinutes -/
def Hx(a1:V X)(a0:X1):Z→X→X→W X
| 0,_,_=>U
| n+1,v3,v4=>
 if(decide (v4<(a1.length:X))) then(
 (ix a1 v4).bind fun x6=>
 (Bq x6 (a0.Segments.length:X)).bind fun r7=>
 if r7 then(
  (ix a0.Segments x6).bind fun x9=>
  Hx a1 a0 n (zM .i64 (v3+x9.Minutes)) (zM .i64 (v4+(1:X))))
 else(
  O (-1:X)))
 else(
 O v3)
def FY(a0:X1)(a1:V X):W X:=
(Dm a0).bind fun r1=>
if r1 then(
 Hx a1 a0 bigN (0:X) (0:X))
else(
 O (-1:X))
/- impl_BestRoute -/
def ER(r1:(V (V X)))(a0:X1):Z→(V X)→X→W ((V X) × Y)
| 0,_,_=>U
| n+1,v4,v5=>
 if(decide (v5<(r1.length:X))) then(
 (ix r1 v5).bind fun x7=>
 (FY a0 x7).bind fun r9=>
 (FY a0 v4).bind fun r10=>
 if(decide (r9<r10)) then(
  ER r1 a0 n x7 (zM .i64 (v5+(1:X))))
 else(
  ER r1 a0 n v4 (zM .i64 (v5+(1:X)))))
 else(
 O (v4,F))
def Le(a0:X1)(a1 a2:X):W ((V X) × Y):=
(LA a0 a1 a2).bind fun r1=>
if((r1.length:X)==(0:X)) then(
 O (([]:V X),E))
else(
 (ix r1 (0:X)).bind fun x3=>
 ER r1 a0 bigN x3 (0:X))
/- impl_Chart_points -/
def Hf(r14:X)(a2:V X)(v6:X)(a0:X1)(v7:X8)(v8:V X)(Qm:X→X→X8→(V X)→W ((V X) × Y))(v19:Y):W ((V X) × Y):=
if v19 then(
 O (([]:V X),E))
else(
 if decide ((0:X)≤r14)&&decide (r14<(8:X)) then(
 if A3 v8.length ([r14]:V X).length 8 then(
  Qm r14 (zM .i64 (v6+(1:X))) (⟨((X8.set v7 (zD r14) F)).i0,((X8.set v7 (zD r14) F)).i1,((X8.set v7 (zD r14) F)).i2,((X8.set v7 (zD r14) F)).i3,((X8.set v7 (zD r14) F)).i4,((X8.set v7 (zD r14) F)).i5,((X8.set v7 (zD r14) F)).i6,((X8.set v7 (zD r14) F)).i7⟩:X8) (v8++([r14]:V X)))
 else U)
 else U)
def FO(a2:V X)(a0:X1):Z→X→X→X8→(V X)→W ((V X) × Y)
| 0,_,_,_,_=>U
| n+1,v5,v6,v7,v8=>
 if(decide (v6<(a2.length:X))) then(
 (ix a2 v6).bind fun x10=>
 (Bq x10 (a0.Segments.length:X)).bind fun r11=>
 if r11 then(
  (ix a0.Segments x10).bind fun x13=>
  (JF x13 v5).bind fun r14=>
  if(decide (r14<(0:X))) then(
  Hf r14 a2 v6 a0 v7 v8 (FO a2 a0 n) F)
  else(
  if decide ((0:X)≤r14)&&decide (r14<(8:X)) then(
   (ix ([v7.i0,v7.i1,v7.i2,v7.i3,v7.i4,v7.i5,v7.i6,v7.i7]:V Y) r14).bind fun x17=>
   Hf r14 a2 v6 a0 v7 v8 (FO a2 a0 n) x17)
  else U))
 else(
  O (([]:V X),E)))
 else(
 O (v8,F))
def He(a0:X1)(a1:X)(a2:V X):W ((V X) × Y):=
(Bq a1 (a0.Points.length:X)).bind fun r1=>
if r1 then(
 if decide ((0:X)≤a1)&&decide (a1<(8:X)) then(
 FO a2 a0 bigN a1 (0:X) (⟨((X8.set (⟨E,E,E,E,E,E,E,E⟩:X8) (zD a1) F)).i0,((X8.set (⟨E,E,E,E,E,E,E,E⟩:X8) (zD a1) F)).i1,((X8.set (⟨E,E,E,E,E,E,E,E⟩:X8) (zD a1) F)).i2,((X8.set (⟨E,E,E,E,E,E,E,E⟩:X8) (zD a1) F)).i3,((X8.set (⟨E,E,E,E,E,E,E,E⟩:X8) (zD a1) F)).i4,((X8.set (⟨E,E,E,E,E,E,E,E⟩:X8) (zD a1) F)).i5,((X8.set (⟨E,E,E,E,E,E,E,E⟩:X8) (zD a1) F)).i6,((X8.set (⟨E,E,E,E,E,E,E,E⟩:X8) (zD a1) F)).i7⟩:X8) ([a1]:V X))
 else U)
else(
 O (([]:V X),E))
/- impl_RoutePoints -/
def DK(a0:X1)(a1:X)(a2:V X):W (V X):=
(Dm a0).bind fun r1=>
if r1 then(
 (He a0 a1 a2).bind fun r3=>
 O r3.1)
else(
 O ([]:V X))
/- impl_RouteOk -/
def ET(a0:X1)(a1:X)(a2:V X):W Y:=
(Dm a0).bind fun r1=>
if r1 then(
 (He a0 a1 a2).bind fun r3=>
 O r3.2)
else(
 O E)
/- impl_Ship_minutes -/
def EU(a0:X6)(a1:X2):W X:=
if a0.Slow then(
 O (zM .i64 ((2:X)*a1.Minutes)))
else(
 O a1.Minutes)
/- impl_onSegment -/
def HI(a0:X1)(a1:X)(a2:X6):W Y:=
(Dm a0).bind fun r1=>
if r1 then(
 (Ed a2).bind fun r3=>
 if r3 then(
 (Bq a1 (a0.Segments.length:X)).bind fun r5=>
 O r5)
 else(
 O E))
else(
 O E)
/- impl_Ship_squat -/
def Pc(a0:X6):W X:=
if a0.Slow then(
 O (zM .i64 (zF a0.Draught (50:X))))
else(
 O (zM .i64 (zF a0.Draught (20:X))))
/- impl_Ship_need -/
def Pb(a0:X6):W X:=
(Pc a0).bind fun r1=>
O (zM .i64 ((zM .i64 (a0.Draught+r1))+(50:X)))
/- impl_LevelFor -/
def Lq(a0:X1)(a1:X)(a2:X6):W X:=
(HI a0 a1 a2).bind fun r1=>
if r1 then(
 (Pb a2).bind fun r3=>
 (ix a0.Segments a1).bind fun x4=>
 O (zM .i64 (r3 - x4.Depth)))
else(
 O (0:X))
/- impl_windowsOf -/
def HQ(a0:X→W Y)(v2:X)(Fo:Y→X→(V X5)→W (V X5))(v11:Y)(v12:V X5):W (V X5):=
Fo v11 (zM .i64 (v2+(1:X))) v12
def JR(a0:X→W Y)(v2:X)(Fo:Y→X→(V X5)→W (V X5))(v9:V X5):W (V X5):=
(ix v9 (zM .i64 ((v9.length:X) - (1:X)))).bind fun x10=>
HQ a0 v2 Fo F (v9.set (zD (zM .i64 ((v9.length:X) - (1:X)))) (⟨x10.From,v2⟩:X5))
def F1(a0:X→W Y):Z→Y→X→(V X5)→W (V X5)
| 0,_,_,_=>U
| n+1,v1,v2,v3=>
 if(decide (v2≤(2880:X))) then(
 (a0 v2).bind fun r5=>
 if r5 then(
  if v1 then(
  JR a0 v2 (F1 a0 n) v3)
  else(
  if A3 v3.length ([(⟨v2,(0:X)⟩:X5)]:V X5).length 16 then(
   JR a0 v2 (F1 a0 n) (v3++([(⟨v2,(0:X)⟩:X5)]:V X5)))
  else U))
 else(
  HQ a0 v2 (F1 a0 n) E v3))
 else(
 O v3)
def M0(a0:X→W Y):W (V X5):=
F1 a0 bigN E (0:X) ([]:V X5)
/- impl_Wave -/
def LI(a0 a1:X):W X:=
(JM a1).bind fun r1=>
if r1 then(
 if a1==0 then U else
 if a1==0 then U else
 if(decide ((zM .i64 (zF a1 (2:X)))≤(zM .i64 (zJ (zM .i64 ((zM .i64 (zJ a0 a1))+a1)) a1)))) then(
 if(zM .i64 ((zM .i64 (zF a1 (2:X)))*(zM .i64 (zF a1 (2:X)))))==0 then U else
 O (zM .i64 (0 - (zM .i64 (zF (zM .i64 ((zM .i64 ((40000:X)*(zM .i64 ((zM .i64 (zJ (zM .i64 ((zM .i64 (zJ a0 a1))+a1)) a1)) - (zM .i64 (zF a1 (2:X)))))))*(zM .i64 ((zM .i64 (zF a1 (2:X))) - (zM .i64 ((zM .i64 (zJ (zM .i64 ((zM .i64 (zJ a0 a1))+a1)) a1)) - (zM .i64 (zF a1 (2:X))))))))) (zM .i64 ((zM .i64 (zF a1 (2:X)))*(zM .i64 (zF a1 (2:X))))))))))
 else(
 if(zM .i64 ((zM .i64 (zF a1 (2:X)))*(zM .i64 (zF a1 (2:X)))))==0 then U else
 O (zM .i64 (zF (zM .i64 ((zM .i64 ((40000:X)*(zM .i64 (zJ (zM .i64 ((zM .i64 (zJ a0 a1))+a1)) a1))))*(zM .i64 ((zM .i64 (zF a1 (2:X))) - (zM .i64 (zJ (zM .i64 ((zM .i64 (zJ a0 a1))+a1)) a1)))))) (zM .i64 ((zM .i64 (zF a1 (2:X)))*(zM .i64 (zF a1 (2:X)))))))))
else(
 O (0:X))
/- impl_Tide_level -/
def HB(a1:X)(a0:Xl):Z→X→X→W X
| 0,_,_=>U
| n+1,v1,v2=>
 if(decide (v2<(a0.Parts.length:X))) then(
 (ix a0.Parts v2).bind fun x4=>
 (LI (zM .i64 (a1+x4.Phase)) x4.Period).bind fun r5=>
 HB a1 a0 n (zM .i64 (v1+(zM .i64 (zF (zM .i64 (x4.Amp*r5)) (10000:X))))) (zM .i64 (v2+(1:X))))
 else(
 O v1)
def Pe(a0:Xl)(a1:X):W X:=
HB a1 a0 bigN a0.Mean (0:X)
/- impl_Forecast_surge -/
def ES(a1:X)(a0:Xd):Z→X→X→W X
| 0,_,_=>U
| n+1,v1,v2=>
 if(decide (v2<(a0.Surges.length:X))) then(
 (ix a0.Surges v2).bind fun x4=>
 if(decide (x4.From≤a1)) then(
  ES a1 a0 n v2 (zM .i64 (v2+(1:X))))
 else(
  ES a1 a0 n v1 (zM .i64 (v2+(1:X)))))
 else(
 O v1)
def Lk(a0:Xd)(a1:X):W X:=
ES a1 a0 bigN (0:X) (0:X)
/- impl_Forecast_low -/
def Lj(a0:Xd)(a1:X):W X:=
(Pe a0.Tide a1).bind fun r1=>
(Lk a0 a1).bind fun r2=>
(ix a0.Surges r2).bind fun x3=>
O (zM .i64 (r1+x3.Low))
/- impl_LowWindows_1 -/
def P9(a0:X)(c0:Xd)(c1:X):W Y:=
(Lj c0 a0).bind fun r1=>
O (decide (c1≤r1))
/- impl_LowWindows -/
def Lr(a0:Xd)(a1:X):W (V X5):=
(FR a0).bind fun r1=>
if r1 then(
 (M0 (fun z0=>P9 z0 a0 a1)).bind fun r3=>
 O r3)
else(
 O ([]:V X5))
/- impl_MinutesOn -/
def Ls(a0:X1)(a1:X)(a2:X6):W X:=
(Dm a0).bind fun r1=>
if r1 then(
 (Ed a2).bind fun r3=>
 if r3 then(
 (Bq a1 (a0.Segments.length:X)).bind fun r5=>
 if r5 then(
  (ix a0.Segments a1).bind fun x7=>
  (EU a2 x7).bind fun r9=>
  O r9)
 else(
  O (0:X)))
 else(
 O (0:X)))
else(
 O (0:X))
/- impl_WindowsOk -/
def EW(a0:V X5):Z→X→W Y
| 0,_=>U
| n+1,v1=>
 if(decide (v1<(a0.length:X))) then(
 (ix a0 v1).bind fun x3=>
 if(decide (x3.From<(0:X))) then(
  O E)
 else(
  if(decide (x3.To<x3.From)) then(
  O E)
  else(
  if(decide ((2880:X)<x3.To)) then(
   O E)
  else(
   if(decide ((0:X)<v1)) then(
   (ix a0 (zM .i64 (v1 - (1:X)))).bind fun x8=>
   if(decide (x3.From≤(zM .i64 (x8.To+(1:X))))) then(
    O E)
   else(
    EW a0 n (zM .i64 (v1+(1:X)))))
   else(
   EW a0 n (zM .i64 (v1+(1:X))))))))
 else(
 O F)
def JH(a0:V X5):W Y:=
EW a0 bigN (0:X)
/- impl_ShrinkWindows -/
def EV(a1:X)(a0:V X5):Z→X→(V X5)→W (V X5)
| 0,_,_=>U
| n+1,v5,v6=>
 if(decide (v5<(a0.length:X))) then(
 (ix a0 v5).bind fun x8=>
 if(decide (a1≤(zM .i64 (x8.To - x8.From)))) then(
  if A3 v6.length ([(⟨x8.From,(zM .i64 (x8.To - a1))⟩:X5)]:V X5).length 16 then(
  EV a1 a0 n (zM .i64 (v5+(1:X))) (v6++([(⟨x8.From,(zM .i64 (x8.To - a1))⟩:X5)]:V X5)))
  else U)
 else(
  EV a1 a0 n (zM .i64 (v5+(1:X))) v6))
 else(
 O v6)
def Pd(a0:V X5)(a1:X):W (V X5):=
(JH a0).bind fun r1=>
if r1 then(
 (CS a1).bind fun r3=>
 if r3 then(
 EV a1 a0 bigN (0:X) ([]:V X5))
 else(
 O ([]:V X5)))
else(
 O ([]:V X5))
/- impl_SureStarts -/
def LF(a0:Xd)(a1:X1)(a2:X)(a3:X6):W (V X5):=
(FR a0).bind fun r1=>
if r1 then(
 (HI a1 a2 a3).bind fun r3=>
 if r3 then(
 (Lq a1 a2 a3).bind fun r5=>
 (Lr a0 r5).bind fun r6=>
 (Ls a1 a2 a3).bind fun r7=>
 (Pd r6 r7).bind fun r9=>
 O r9)
 else(
 O ([]:V X5)))
else(
 O ([]:V X5))
/- impl_voyageOf -/
def HO(a4:V X)(a0:Xd)(a1:X1)(a2:X6)(y11:V X)(y12:X):Z→X→(V Y)→(V X)→(V (V X5))→W (Xk × Y)
| 0,_,_,_,_=>U
| n+1,v13,v14,v15,v16=>
 if(decide (v13<y12)) then(
 (ix y11 v13).bind fun x18=>
 (ix a1.Points x18).bind fun x19=>
 if A3 v14.length ([x19.Wait]:V Y).length 1 then(
  (ix a4 v13).bind fun x21=>
  (ix a1.Segments x21).bind fun x22=>
  (EU a2 x22).bind fun r23=>
  if A3 v15.length ([r23]:V X).length 8 then(
  (LF a0 a1 x21 a2).bind fun r25=>
  if A3 v16.length ([r25]:V (V X5)).length 24 then(
   HO a4 a0 a1 a2 y11 y12 n (zM .i64 (v13+(1:X))) (v14++([x19.Wait]:V Y)) (v15++([r23]:V X)) (v16++([r25]:V (V X5))))
  else U)
  else U)
 else U)
 else(
 O ((⟨v14,v15,v16⟩:Xk),F))
def HN(a3:X)(a4:V X)(a0:Xd)(a1:X1)(a2:X6)(v7:Y):W (Xk × Y):=
if v7 then(
 O ((⟨([]:V Y),([]:V X),([]:V (V X5))⟩:Xk),E))
else(
 (DK a1 a3 a4).bind fun r9=>
 (bnd (r9.length:X) (a4.length:X) (0:X) r9.length).bind fun p10=>
 HO a4 a0 a1 a2 ((r9.drop p10.1).take (p10.2 - p10.1)) (((r9.drop p10.1).take (p10.2 - p10.1)).length:X) bigN (0:X) ([]:V Y) ([]:V X) ([]:V (V X5)))
def HM(a0:Xd)(a1:X1)(a2:X6)(a3:X)(a4:V X):W (Xk × Y):=
(FR a0).bind fun r1=>
if r1 then(
 (Ed a2).bind fun r3=>
 if r3 then(
 (ET a1 a3 a4).bind fun r5=>
 if r5 then(
  HN a3 a4 a0 a1 a2 ((a4.length:X)==(0:X)))
 else(
  HN a3 a4 a0 a1 a2 F))
 else(
 HN a3 a4 a0 a1 a2 F))
else(
 HN a3 a4 a0 a1 a2 F)
/- impl_callVoyage -/
def JJ(a2:V X)(a0:X4)(a1:Xb)(v4:Y):W (Xk × Y):=
if v4 then(
 O ((⟨([]:V Y),([]:V X),([]:V (V X5))⟩:Xk),E))
else(
 (ix a0.Fleet a1.Ship).bind fun x6=>
 (HM a0.Forecast a0.Chart x6 a1.From a2).bind fun r7=>
 O (r7.1,r7.2))
def HD(a0:X4)(a1:Xb)(a2:V X):W (Xk × Y):=
(DK a0.Chart a1.From a2).bind fun r1=>
if((r1.length:X)==(0:X)) then(
 JJ a2 a0 a1 F)
else(
 (ix r1 (zM .i64 ((r1.length:X) - (1:X)))).bind fun x3=>
 JJ a2 a0 a1 (x3 !=a1.To))
/- impl_HasMinute -/
def Hq(a1:X)(a0:V X5):Z→X→W Y
| 0,_=>U
| n+1,v1=>
 if(decide (v1<(a0.length:X))) then(
 (ix a0 v1).bind fun x3=>
 (BJ a1 x3.From x3.To).bind fun r4=>
 if r4 then(
  O F)
 else(
  Hq a1 a0 n (zM .i64 (v1+(1:X)))))
 else(
 O E)
def Ll(a0:V X5)(a1:X):W Y:=
Hq a1 a0 bigN (0:X)
/- impl_NextMinute -/
def Hr(a1:X)(a0:V X5):Z→X→W X
| 0,_=>U
| n+1,v3=>
 if(decide (v3<(a0.length:X))) then(
 (ix a0 v3).bind fun x5=>
 if(decide (a1≤x5.To)) then(
  O (if x5.From<a1 then a1 else x5.From))
 else(
  Hr a1 a0 n (zM .i64 (v3+(1:X)))))
 else(
 O (-1:X))
def Lt(a0:V X5)(a1:X):W X:=
(JH a0).bind fun r1=>
if r1 then(
 Hr a1 a0 bigN (0:X))
else(
 O (-1:X))
/- impl_voyage_sail -/
def HP(v4 r10:X)(a0:Xk)(v5:V X)(Qp:X→(V X)→W ((V X) × Y))(v14:Y):W ((V X) × Y):=
if v14 then(
 O (([]:V X),E))
else(
 if A3 v5.length ([r10]:V X).length 8 then(
 Qp (zM .i64 (v4+(1:X))) (v5++([r10]:V X)))
 else U)
def Eg(a0:Xk):Z→X→(V X)→W ((V X) × Y)
| 0,_,_=>U
| n+1,v4,v5=>
 if(decide (v4<(a0.sure.length:X))) then(
 (ix v5 (zM .i64 (v4 - (1:X)))).bind fun x7=>
 (ix a0.minutes (zM .i64 (v4 - (1:X)))).bind fun x8=>
 (ix a0.sure v4).bind fun x9=>
 (Lt x9 (zM .i64 (x7+x8))).bind fun r10=>
 if(decide (r10<(0:X))) then(
  HP v4 r10 a0 v5 (Eg a0 n) F)
 else(
  if(decide ((zM .i64 (x7+x8))<r10)) then(
  (ix a0.waits v4).bind fun x13=>
  HP v4 r10 a0 v5 (Eg a0 n) (!x13))
  else(
  HP v4 r10 a0 v5 (Eg a0 n) E)))
 else(
 O (v5,F))
def LY(a0:Xk)(a1:X):W ((V X) × Y):=
(ix a0.sure (0:X)).bind fun x1=>
(Ll x1 a1).bind fun r2=>
if r2 then(
 Eg a0 bigN (1:X) ([a1]:V X))
else(
 O (([]:V X),E))
/- impl_PassagesOf -/
def Hu(a1:X)(a5 a4:V X)(a0:X1)(a2:X6)(r6:(V X)):Z→X→(V X3)→W (V X3)
| 0,_,_=>U
| n+1,v7,v8=>
 if(decide (v7<(a4.length:X))) then(
 (ix a4 v7).bind fun x10=>
 (ix a5 v7).bind fun x11=>
 (CS x11).bind fun r12=>
 if r12 then(
  (ix a0.Segments x10).bind fun x14=>
  (ix r6 v7).bind fun x15=>
  (EU a2 x14).bind fun r16=>
  if A3 v8.length ([(⟨a1,x10,(x15==x14.A),x11,(zM .i64 (x11+r16))⟩:X3)]:V X3).length 40 then(
  Hu a1 a5 a4 a0 a2 r6 n (zM .i64 (v7+(1:X))) (v8++([(⟨a1,x10,(x15==x14.A),x11,(zM .i64 (x11+r16))⟩:X3)]:V X3)))
  else U)
 else(
  O ([]:V X3)))
 else(
 O v8)
def Lw(a0:X1)(a1:X)(a2:X6)(a3:X)(a4 a5:V X):W (V X3):=
(ET a0 a3 a4).bind fun r1=>
if r1 then(
 (Ed a2).bind fun r3=>
 if r3 then(
 if((a4.length:X) !=(a5.length:X)) then(
  O ([]:V X3))
 else(
  (DK a0 a3 a4).bind fun r6=>
  Hu a1 a5 a4 a0 a2 r6 bigN (0:X) ([]:V X3)))
 else(
 O ([]:V X3)))
else(
 O ([]:V X3))
/- impl_ArrivalOf -/
def Ld(a0:X1)(a1:X6)(a2 a3:V X):W X:=
(FY a0 a2).bind fun r1=>
if(decide (r1<(0:X))) then(
 O (-1:X))
else(
 (Ed a1).bind fun r3=>
 if r3 then(
 if((a2.length:X)==(0:X)) then(
  O (-1:X))
 else(
  if((a2.length:X) !=(a3.length:X)) then(
  O (-1:X))
  else(
  (ix a3 (zM .i64 ((a2.length:X) - (1:X)))).bind fun x7=>
  (CS x7).bind fun r9=>
  if r9 then(
   (ix a2 (zM .i64 ((a2.length:X) - (1:X)))).bind fun x11=>
   (ix a0.Segments x11).bind fun x12=>
   (EU a1 x12).bind fun r13=>
   O (zM .i64 (x7+r13)))
  else(
   O (-1:X)))))
 else(
 O (-1:X)))
/- impl_option -/
def G5(a2:Xk)(a4 r5:X)(r4:(V X3)):Z→X→X→W (X0 × Y)
| 0,_,_=>U
| n+1,v6,v7=>
 if(decide (v6<(a2.minutes.length:X))) then(
 (ix a2.minutes v6).bind fun x9=>
 G5 a2 a4 r5 r4 n (zM .i64 (v6+(1:X))) (zM .i64 (v7 - x9)))
 else(
 O ((⟨a4,r5,v7,r4⟩:X0),(decide (r5≤(2880:X)))))
def HJ(a0:X4)(a1:Xb)(a2:Xk)(a3:V X)(a4:X):W (X0 × Y):=
(LY a2 a4).bind fun r1=>
if r1.2 then(
 (ix a0.Fleet a1.Ship).bind fun x3=>
 (Lw a0.Chart a1.Ship x3 a1.From a3 r1.1).bind fun r4=>
 (Ld a0.Chart x3 a3 r1.1).bind fun r5=>
 G5 a2 a4 r5 r4 bigN (0:X) (zM .i64 (r5 - a1.Ready)))
else(
 O ((⟨(0:X),(0:X),(0:X),([]:V X3)⟩:X0),E))
/- impl_OptionsOf -/
def JC(r3:(V X) × Y)(v7:X)(a0:X4)(a1:Xb)(r4:Xk × Y)(Qn:X→(V X0)→W (V X0))(v14:V X0):W (V X0):=
Qn (zM .i64 (v7+(15:X))) v14
def FU(r3:(V X) × Y)(a0:X4)(a1:Xb)(r4:Xk × Y):Z→X→(V X0)→W (V X0)
| 0,_,_=>U
| n+1,v7,v8=>
 if(decide (v7≤a1.Due)) then(
 if(decide ((v8.length:X)<(8:X))) then(
  (HJ a0 a1 r4.1 r3.1 v7).bind fun r11=>
  if r11.2 then(
  if A3 v8.length ([r11.1]:V X0).length 48 then(
   JC r3 v7 a0 a1 r4 (FU r3 a0 a1 r4 n) (v8++([r11.1]:V X0)))
  else U)
  else(
  JC r3 v7 a0 a1 r4 (FU r3 a0 a1 r4 n) v8))
 else(
  O v8))
 else(
 O v8)
def Ht(a0:X4)(a1:Xb):W (V X0):=
(Lf a0 a1).bind fun r1=>
if r1 then(
 (Le a0.Chart a1.From a1.To).bind fun r3=>
 (HD a0 a1 r3.1).bind fun r4=>
 if r3.2 then(
 if r4.2 then(
  FU r3 a0 a1 r4 bigN a1.Ready ([]:V X0))
 else(
  O ([]:V X0)))
 else(
 O ([]:V X0)))
else(
 O ([]:V X0))
/- impl_allOptions -/
def HC(a1:V Xb)(a0:X4):Z→X→(V (V X0))→W (V (V X0))
| 0,_,_=>U
| n+1,v1,v2=>
 if(decide (v1<(a1.length:X))) then(
 (ix a1 v1).bind fun x4=>
 (Ht a0 x4).bind fun r5=>
 if A3 v2.length ([r5]:V (V X0)).length 24 then(
  HC a1 a0 n (zM .i64 (v1+(1:X))) (v2++([r5]:V (V X0))))
 else U)
 else(
 O v2)
def Pf(a0:X4)(a1:V Xb):W (V (V X0)):=
HC a1 a0 bigN (0:X) ([]:V (V X0))
/- impl_weight_less -/
def LZ(a0 a1:Xj):W Y:=
if(decide (a0.i0<a1.i0)) then(
 O F)
else(
 if(a0.i0==a1.i0) then(
 O (decide (a0.i1<a1.i1)))
 else(
 O E))
/- impl_Overlaps -/
def JD(a0 a1:X3):W Y:=
O (decide ((if a0.Start<a1.Start then a1.Start else a0.Start)<(if a1.End<a0.End then a1.End else a0.End)))
/- impl_near -/
def JQ(a0 a1 a2:X):W Y:=
O (decide ((IntKind.u64.wrap ((IntKind.u64.wrap (if a0<a1 then a1 else a0)) - (IntKind.u64.wrap (if a1<a0 then a1 else a0))))<(IntKind.u64.wrap a2)))
/- impl_conflict -/
def LO(a2 a3:X3)(v22:Y):W X:=
if v22 then(
 O (3:X))
else(
 if(decide (a2.Start<a3.Start)) then(
 if(decide (a3.End<a2.End)) then(
  O (4:X))
 else(
  if(decide (a3.Start<a2.Start)) then(
  if(decide (a2.End<a3.End)) then(
   O (4:X))
  else(
   O (0:X)))
  else(
  O (0:X))))
 else(
 if(decide (a3.Start<a2.Start)) then(
  if(decide (a2.End<a3.End)) then(
  O (4:X))
  else(
  O (0:X)))
 else(
  O (0:X))))
def HF(a1:Xh)(a2 a3:X3)(v15 v16:Y):W X:=
if v15 then(
 O (2:X))
else(
 if(a2.Toward==a3.Toward) then(
 (JQ a2.Start a3.Start a1.Gap).bind fun r19=>
 if r19 then(
  LO a2 a3 F)
 else(
  (JQ a2.End a3.End a1.Gap).bind fun r21=>
  LO a2 a3 r21))
 else(
 O (0:X)))
def LN(a0:X1)(a1:Xh)(a2 a3:X3)(v7:Y):W X:=
if v7 then(
 O (1:X))
else(
 if(a2.Ship==a3.Ship) then(
 O (0:X))
 else(
 if(a2.Toward==a3.Toward) then(
  HF a1 a2 a3 E a1.NoMeet)
 else(
  (JD a2 a3).bind fun r11=>
  if r11 then(
  if a1.NoMeet then(
   HF a1 a2 a3 F F)
  else(
   (ix a0.Segments a2.Segment).bind fun x14=>
   HF a1 a2 a3 (!x14.Meet) E))
  else(
  HF a1 a2 a3 E a1.NoMeet))))
def LM(a0:X1)(a1:Xh)(a2 a3:X3)(v3:Y):W X:=
if v3 then(
 O (0:X))
else(
 if(a2.Ship==a3.Ship) then(
 (JD a2 a3).bind fun r6=>
 LN a0 a1 a2 a3 r6)
 else(
 LN a0 a1 a2 a3 E))
def LL(a0:X1)(a1:Xh)(a2 a3:X3):W X:=
if(a2.Segment !=a3.Segment) then(
 LM a0 a1 a2 a3 F)
else(
 (Bq a2.Segment (a0.Segments.length:X)).bind fun r2=>
 LM a0 a1 a2 a3 (!r2))
/- impl_clashes -/
def HE(a3 a2:V X3)(v1:X)(a0:X1)(a1:Xh)(x3:X3)(NL:X→W Y):Z→X→W Y
| 0,_=>U
| n+1,v4=>
 if(decide (v4<(a3.length:X))) then(
 (ix a3 v4).bind fun x6=>
 (LL a0 a1 x3 x6).bind fun r7=>
 if(r7 !=(0:X)) then(
  O F)
 else(
  HE a3 a2 v1 a0 a1 x3 NL n (zM .i64 (v4+(1:X)))))
 else(
 NL (zM .i64 (v1+(1:X))))
def EX(a3 a2:V X3)(a0:X1)(a1:Xh):Z→X→W Y
| 0,_=>U
| n+1,v1=>
 if(decide (v1<(a2.length:X))) then(
 (ix a2 v1).bind fun x3=>
 HE a3 a2 v1 a0 a1 x3 (EX a3 a2 a0 a1 n) bigN (0:X))
 else(
 O E)
def LK(a0:X1)(a1:Xh)(a2 a3:V X3):W Y:=
EX a3 a2 a0 a1 bigN (0:X)
/- impl_clone_Option -/
def Ee(a0:V X0):W (V X0):=
(BM (0:X) (a0.length:X) 48).bind fun n1=>
if A3 (zG n1 (⟨(0:X),(0:X),(0:X),([]:V X3)⟩:X0)).length a0.length 48 then(
 O ((zG n1 (⟨(0:X),(0:X),(0:X),([]:V X3)⟩:X0))++a0))
else U
/- impl_Passage_ends -/
def JE(a0:X3)(a1:X1):W (X × X):=
(ix a1.Segments a0.Segment).bind fun x1=>
if a0.Toward then(
 O (x1.A,x1.B))
else(
 O (x1.B,x1.A))
/- impl_duty -/
def JL(a0:X1)(a1 a2:X3):W X9:=
(JE a1 a0).bind fun r1=>
(JE a2 a0).bind fun r2=>
O (⟨a1.Start,a2.End,r1.1,r2.2⟩:X9)
/- impl_passageOk -/
def LU(a0:X1)(a1:V X6)(a2:X3):W Y:=
(Bq a2.Ship (a1.length:X)).bind fun r1=>
if r1 then(
 (Bq a2.Segment (a0.Segments.length:X)).bind fun r3=>
 if r3 then(
 (CS a2.Start).bind fun r5=>
 if r5 then(
  if(decide ((2880:X)<a2.End)) then(
  O E)
  else(
  (ix a1 a2.Ship).bind fun x8=>
  (ix a0.Segments a2.Segment).bind fun x9=>
  (EU x8 x9).bind fun r10=>
  O (a2.End==(zM .i64 (a2.Start+r10)))))
 else(
  O E))
 else(
 O E))
else(
 O E)
/- impl_PassageOk -/
def Lv(a0:X1)(a1:V X6)(a2:X3):W Y:=
(Dm a0).bind fun r1=>
if r1 then(
 (Jz a1).bind fun r3=>
 if r3 then(
 (LU a0 a1 a2).bind fun r5=>
 O r5)
 else(
 O E))
else(
 O E)
/- impl_tugDuties -/
def G6(a1:V X6)(a2:V X3)(v1:X)(x7:X6)(a0:X1)(x4:X3)(NP:X→(V X9)→W ((V X9) × Y)):Z→X→(V X9)→W ((V X9) × Y)
| 0,_,_=>U
| n+1,v8,v9=>
 if(decide (v8<x7.Tugs)) then(
 (JL a0 x4 x4).bind fun r11=>
 if A3 v9.length ([r11]:V X9).length 32 then(
  G6 a1 a2 v1 x7 a0 x4 NP n (zM .i64 (v8+(1:X))) (v9++([r11]:V X9)))
 else U)
 else(
 if(decide ((12:X)<(v9.length:X))) then(
  O (([]:V X9),E))
 else(
  NP (zM .i64 (v1+(1:X))) v9))
def F0(a1:V X6)(a2:V X3)(a0:X1):Z→X→(V X9)→W ((V X9) × Y)
| 0,_,_=>U
| n+1,v1,v2=>
 if(decide (v1<(a2.length:X))) then(
 (ix a2 v1).bind fun x4=>
 (Lv a0 a1 x4).bind fun r5=>
 if r5 then(
  (ix a1 x4.Ship).bind fun x7=>
  G6 a1 a2 v1 x7 a0 x4 (F0 a1 a2 a0 n) bigN (0:X) v2)
 else(
  O (([]:V X9),E)))
 else(
 O (v2,F))
def LX(a0:X1)(a1:V X6)(a2:V X3):W ((V X9) × Y):=
F0 a1 a2 a0 bigN (0:X) ([]:V X9)
/- impl_DutiesOk -/
def Hk(a0:V X9):Z→X→W Y
| 0,_=>U
| n+1,v2=>
 if(decide (v2<(a0.length:X))) then(
 (ix a0 v2).bind fun x4=>
 if(decide (x4.From<(0:X))) then(
  O E)
 else(
  if(decide (x4.To≤x4.From)) then(
  O E)
  else(
  if(decide ((2880:X)<x4.To)) then(
   O E)
  else(
   (Bq x4.A (8:X)).bind fun r9=>
   if r9 then(
   (Bq x4.B (8:X)).bind fun r11=>
   if r11 then(
    Hk a0 n (zM .i64 (v2+(1:X))))
   else(
    O E))
   else(
   O E)))))
 else(
 O F)
def Hj(a0:V X9):W Y:=
if(decide ((12:X)<(a0.length:X))) then(
 O E)
else(
 Hk a0 bigN (0:X))
/- impl_coverable -/
def Pg(a0:X)(a1:V X)(a2:V X9):W Y:=
(Hj a2).bind fun r1=>
if r1 then(
 (CS a0).bind fun r3=>
 if r3 then(
 (G3 a1).bind fun r5=>
 O r5)
 else(
 O E))
else(
 O E)
/- impl_Gap -/
def Hn(a0:X)(a1:V X)(a2 a3:X9)(v8:Y):W (X × Y):=
if v8 then(
 O ((0:X),E))
else(
 (ix a1 (zM .i64 ((zM .i64 ((8:X)*a2.B))+a3.A))).bind fun x10=>
 O ((zM .i64 (a0+x10)),F))
def P8(a0:X)(a1:V X)(a2 a3:X9):W (X × Y):=
(CS a0).bind fun r1=>
if r1 then(
 (G3 a1).bind fun r3=>
 if r3 then(
 (Bq a2.B (8:X)).bind fun r5=>
 if r5 then(
  (Bq a3.A (8:X)).bind fun r7=>
  Hn a0 a1 a2 a3 (!r7))
 else(
  Hn a0 a1 a2 a3 F))
 else(
 Hn a0 a1 a2 a3 F))
else(
 Hn a0 a1 a2 a3 F)
/- impl_CanFollow -/
def Jy(a0:X)(a1:V X)(a2 a3:X9):W Y:=
(P8 a0 a1 a2 a3).bind fun r1=>
if r1.2 then(
 (Hj ([a2]:V X9)).bind fun r3=>
 if r3 then(
 (Hj ([a3]:V X9)).bind fun r5=>
 if r5 then(
  O (decide ((zM .i64 (a2.To+r1.1))≤a3.From)))
 else(
  O E))
 else(
 O E))
else(
 O E)
/- impl_partners -/
def HK(a0:X)(a1:V X)(a2:V X9)(v2 v6:X)(x5:X9)(v7:V X)(NM:X→(V X)→W (V X))(v14:Y):W (V X):=
if v14 then(
 (ix v7 v2).bind fun x16=>
 if decide (v6<0) then U else
 NM (zM .i64 (v6+(1:X))) (v7.set (zD v2) (B4 .or .u64 x16 (B9 .u64 (1:X) v6))))
else(
 NM (zM .i64 (v6+(1:X))) v7)
def DM(a0:X)(a1:V X)(a2:V X9)(v2:X)(x5:X9)(IM:X→(V X)→W (V X)):Z→X→(V X)→W (V X)
| 0,_,_=>U
| n+1,v6,v7=>
 if(decide (v6<(a2.length:X))) then(
 (ix a2 v6).bind fun x9=>
 if(v2 !=v6) then(
  (Jy a0 a1 x5 x9).bind fun r11=>
  if r11 then(
  HK a0 a1 a2 v2 v6 x5 v7 (DM a0 a1 a2 v2 x5 IM n) F)
  else(
  (Jy a0 a1 x9 x5).bind fun r13=>
  HK a0 a1 a2 v2 v6 x5 v7 (DM a0 a1 a2 v2 x5 IM n) r13))
 else(
  HK a0 a1 a2 v2 v6 x5 v7 (DM a0 a1 a2 v2 x5 IM n) E))
 else(
 IM (zM .i64 (v2+(1:X))) v7)
def EZ(a0:X)(a1:V X)(a2:V X9):Z→X→(V X)→W (V X)
| 0,_,_=>U
| n+1,v2,v3=>
 if(decide (v2<(a2.length:X))) then(
 (ix a2 v2).bind fun x5=>
 DM a0 a1 a2 v2 x5 (EZ a0 a1 a2 n) bigN (0:X) v3)
 else(
 O v3)
def LS(a0:X)(a1:V X)(a2:V X9):W (V X):=
(BM (a2.length:X) (a2.length:X) 8).bind fun n1=>
EZ a0 a1 a2 bigN (0:X) (zG n1 (0:X))
/- math_bits_Len64 -/
def JT(v8 v9:X):W X:=
(ix ([0,1,2,2,3,3,3,3,4,4,4,4,4,4,4,4,5,5,5,5,5,5,5,5,5,5,5,5,5,5,5,5,6,6,6,6,6,6,6,6,6,6,6,6,6,6,6,6,6,6,6,6,6,6,6,6,6,6,6,6,6,6,6,6,7,7,7,7,7,7,7,7,7,7,7,7,7,7,7,7,7,7,7,7,7,7,7,7,7,7,7,7,7,7,7,7,7,7,7,7,7,7,7,7,7,7,7,7,7,7,7,7,7,7,7,7,7,7,7,7,7,7,7,7,7,7,7,7,8,8,8,8,8,8,8,8,8,8,8,8,8,8,8,8,8,8,8,8,8,8,8,8,8,8,8,8,8,8,8,8,8,8,8,8,8,8,8,8,8,8,8,8,8,8,8,8,8,8,8,8,8,8,8,8,8,8,8,8,8,8,8,8,8,8,8,8,8,8,8,8,8,8,8,8,8,8,8,8,8,8,8,8,8,8,8,8,8,8,8,8,8,8,8,8,8,8,8,8,8,8,8,8,8,8,8,8,8,8,8,8,8,8,8,8,8,8,8,8,8,8,8,8,8,8,8,8]:V zA) (IntKind.u8.wrap v8)).bind fun b10=>
O (zM .i64 (v9+(zM .i64 (b10.toNat:X))))
def MD(v5 v6:X):W X:=
if(decide ((256:X)≤v5)) then(
 JT (Cs .u64 v5 8) (zM .i64 (v6+(8:X))))
else(
 JT v5 v6)
def MC(v2 v3:X):W X:=
if(decide ((65536:X)≤v2)) then(
 MD (Cs .u64 v2 16) (zM .i64 (v3+(16:X))))
else(
 MD v2 v3)
def PC(a0:X):W X:=
if(decide ((4294967296:X)≤a0)) then(
 MC (Cs .u64 a0 32) (32:X))
else(
 MC a0 (0:X))
/- math_bits_Len -/
def JS(a0:X):W X:=
(PC a0).bind fun r1=>
O r1
/- impl_leastPersons -/
def JP(a0:V X)(y5 v6:X)(v17 v18 v21:X)(v19:V Y)(Cq:X→(V Y)→(V X)→W X)(Qo:X→(V X)→W X)(v28:V X):W X:=
if(v21==(0:X)) then(
 Cq (zM .i64 (v6+(1:X))) v19 v28)
else(
 Qo (B4 .and .i64 (zM .i64 (v21 - (1:X))) v18) v28)
def G2(a0:V X)(y5 v6:X)(v17 v18:X)(v19:V Y)(Cq:X→(V Y)→(V X)→W X):Z→X→(V X)→W X
| 0,_,_=>U
| n+1,v21,v22=>
 if decide (v17<0) then U else
 (ix v19 (B4 .or .i64 v21 (B9 .i64 (1:X) v17))).bind fun x24=>
 if x24 then(
 (ix v22 v6).bind fun x26=>
 (ix v22 (B4 .andNot .i64 v18 v21)).bind fun x27=>
 JP a0 y5 v6 v17 v18 v21 v19 Cq (G2 a0 y5 v6 v17 v18 v19 Cq n) (v22.set (zD v6) (if(zM .i64 ((1:X)+x27))<x26 then(zM .i64 ((1:X)+x27)) else x26)))
 else(
 JP a0 y5 v6 v17 v18 v21 v19 Cq (G2 a0 y5 v6 v17 v18 v19 Cq n) v22)
def JO(a0:V X)(y5 v6:X)(v8:V X)(Cq:X→(V Y)→(V X)→W X)(v17 v18:X)(v19:V Y):W X:=
(ix v8 v6).bind fun x20=>
G2 a0 y5 v6 v17 v18 v19 Cq bigN v18 (v8.set (zD v6) (a0.length:X))
def Ef(a0:V X)(y5:X):Z→X→(V Y)→(V X)→W X
| 0,_,_,_=>U
| n+1,v6,v7,v8=>
 if(decide (v6<y5)) then(
 (JS (IntKind.u64.wrap v6)).bind fun r10=>
 if decide ((zM .i64 (r10 - (1:X)))<0) then U else
 (ix v7 (B4 .andNot .i64 v6 (B9 .i64 (1:X) (zM .i64 (r10 - (1:X)))))).bind fun x12=>
 if x12 then(
  (ix a0 (zM .i64 (r10 - (1:X)))).bind fun x14=>
  (ix v7 v6).bind fun x15=>
  JO a0 y5 v6 v8 (Ef a0 y5 n) (zM .i64 (r10 - (1:X))) (B4 .andNot .i64 v6 (B9 .i64 (1:X) (zM .i64 (r10 - (1:X))))) (v7.set (zD v6) ((B4 .andNot .u64 (IntKind.u64.wrap (B4 .andNot .i64 v6 (B9 .i64 (1:X) (zM .i64 (r10 - (1:X)))))) x14)==(0:X))))
 else(
  (ix v7 v6).bind fun x16=>
  JO a0 y5 v6 v8 (Ef a0 y5 n) (zM .i64 (r10 - (1:X))) (B4 .andNot .i64 v6 (B9 .i64 (1:X) (zM .i64 (r10 - (1:X))))) (v7.set (zD v6) E)))
 else(
 (ix v8 (zM .i64 (y5 - (1:X)))).bind fun x30=>
 O x30)
def LR(a0:V X):W X:=
if decide ((a0.length:X)<0) then U else
(BM (B9 .i64 (1:X) (a0.length:X)) (B9 .i64 (1:X) (a0.length:X)) 1).bind fun n2=>
(BM (B9 .i64 (1:X) (a0.length:X)) (B9 .i64 (1:X) (a0.length:X)) 8).bind fun n3=>
(ix (zG n2 E) (0:X)).bind fun x4=>
Ef a0 (B9 .i64 (1:X) (a0.length:X)) bigN (1:X) ((zG n2 E).set (zD (0:X)) F) (zG n3 (0:X))
/- impl_coverer_cover -/
def HG(rec_:Xg→W (Y × Xg))(a0:Xg)(v2:X)(Ep:X→(V X)→X→(V X)→(V X)→W (Y × Xg))(v22:V X)(v23:X)(v24 v25:V X):W (Y × Xg):=
(ix v24 v2).bind fun x26=>
if(x26==(0:X)) then(
 (bnd (v24.length:X) v2 0 v24.length).bind fun p28=>
 O (E,(⟨v22,v23,(v24.take p28.2),v25⟩:Xg)))
else(
 Ep (zM .i64 (v2+(1:X))) v22 v23 v24 v25)
def JK(rec_:Xg→W (Y × Xg))(a0:Xg)(v2:X)(v3:V X)(v4:X)(v6:V X)(Ep:X→(V X)→X→(V X)→(V X)→W (Y × Xg))(v11:V X):W (Y × Xg):=
(ix v11 v2).bind fun x12=>
(ix v3 (a0.who.length:X)).bind fun x13=>
if((B4 .andNot .u64 x12 x13)==(0:X)) then(
 if decide ((a0.who.length:X)<0) then U else
 if A3 v6.length ([v2]:V X).length 8 then(
 (rec_ (⟨v3,v4,(v11.set (zD v2) (B4 .or .u64 x12 (B9 .u64 (1:X) (a0.who.length:X)))),(v6++([v2]:V X))⟩:Xg)).bind fun r17=>
 if r17.1 then(
  O (F,r17.2))
 else(
  (bnd (r17.2.who.length:X) (a0.who.length:X) 0 r17.2.who.length).bind fun p19=>
  (ix r17.2.groups v2).bind fun x20=>
  if decide ((a0.who.length:X)<0) then U else
  HG rec_ a0 v2 Ep r17.2.sets r17.2.most (r17.2.groups.set (zD v2) (B4 .andNot .u64 x20 (B9 .u64 (1:X) (a0.who.length:X)))) (r17.2.who.take p19.2)))
 else U)
else(
 HG rec_ a0 v2 Ep v3 v4 v11 v6)
def EY(rec_:Xg→W (Y × Xg))(a0:Xg):Z→X→(V X)→X→(V X)→(V X)→W (Y × Xg)
| 0,_,_,_,_,_=>U
| n+1,v2,v3,v4,v5,v6=>
 if(decide (v2≤(v5.length:X))) then(
 if(decide (v2<v4)) then(
  if(v2==(v5.length:X)) then(
  if A3 v5.length ([(0:X)]:V X).length 8 then(
   JK rec_ a0 v2 v3 v4 v6 (EY rec_ a0 n) (v5++([(0:X)]:V X)))
  else U)
  else(
  JK rec_ a0 v2 v3 v4 v6 (EY rec_ a0 n) v5))
 else(
  O (E,(⟨v3,v4,v5,v6⟩:Xg))))
 else(
 O (E,(⟨v3,v4,v5,v6⟩:Xg)))
def LP(rec_:Xg→W (Y × Xg))(a0:Xg):W (Y × Xg):=
if((a0.who.length:X)==(a0.sets.length:X)) then(
 O (F,a0))
else(
 EY rec_ a0 bigN (0:X) a0.sets a0.most a0.groups a0.who)
def DL:Z→Xg→W (Y × Xg)
| 0,_=>U
| n+1,a0=>LP (DL n) a0
def RN(a0:Xg):W (Y × Xg):=DL bigN a0
/- impl_LeastCover -/
def Lp(a0:X)(a1:V X)(a2:V X9):W ((V X) × X × Y):=
(Pg a0 a1 a2).bind fun r1=>
if r1 then(
 (LS a0 a1 a2).bind fun r3=>
 (LR r3).bind fun r4=>
 (RN (⟨r3,r4,([]:V X),([]:V X)⟩:Xg)).bind fun r5=>
 O (r5.2.who,r5.2.most,F))
else(
 O (([]:V X),(0:X),E))
/- impl_coverFits -/
def FZ(a0:X)(a1:V X)(a2:V X9)(a3:X):W Y:=
if(decide ((a2.length:X)≤a3)) then(
 O F)
else(
 (Lp a0 a1 a2).bind fun r2=>
 O (decide (r2.2.1≤a3)))
/- impl_crewFits -/
def G0(a1:V X0)(a0:X4):Z→X→(V X3)→(V X9)→W Y
| 0,_,_,_=>U
| n+1,v1,v2,v3=>
 if(decide (v1<(a1.length:X))) then(
 (ix a1 v1).bind fun x5=>
 if A3 v2.length x5.Passages.length 40 then(
  if(decide ((0:X)<(x5.Passages.length:X))) then(
  (ix x5.Passages (0:X)).bind fun x8=>
  (ix x5.Passages (zM .i64 ((x5.Passages.length:X) - (1:X)))).bind fun x9=>
  (JL a0.Chart x8 x9).bind fun r10=>
  if A3 v3.length ([r10]:V X9).length 32 then(
   G0 a1 a0 n (zM .i64 (v1+(1:X))) (v2++x5.Passages) (v3++([r10]:V X9)))
  else U)
  else(
  G0 a1 a0 n (zM .i64 (v1+(1:X))) (v2++x5.Passages) v3))
 else U)
 else(
 (LX a0.Chart a0.Fleet v2).bind fun r12=>
 if r12.2 then(
  (FZ (0:X) a0.Crew.Moves r12.1 a0.Crew.Tugs).bind fun r14=>
  if r14 then(
  (FZ a0.Crew.Rest a0.Crew.Moves v3 a0.Crew.Pilots).bind fun r16=>
  O r16)
  else(
  O E))
 else(
  O E))
def Dn(a0:X4)(a1:V X0):W Y:=
G0 a1 a0 bigN (0:X) ([]:V X3) ([]:V X9)
/- impl_fitsTo -/
def HH(a1:V X0)(a0:X4)(a2:X0):Z→X→W Y
| 0,_=>U
| n+1,v1=>
 if(decide (v1<(a1.length:X))) then(
 (ix a1 v1).bind fun x3=>
 (LK a0.Chart a0.Regime x3.Passages a2.Passages).bind fun r4=>
 if r4 then(
  O E)
 else(
  HH a1 a0 a2 n (zM .i64 (v1+(1:X)))))
 else(
 (Ee a1).bind fun r6=>
 if A3 r6.length ([a2]:V X0).length 48 then(
  (Dn a0 (r6++([a2]:V X0))).bind fun r9=>
  O r9)
 else U)
def LQ(a0:X4)(a1:V X0)(a2:X0):W Y:=
HH a1 a0 a2 bigN (0:X)
/- impl_planner_search -/
def DN(w0:(V X0)→W Xj)(rec_:Xf→W Xf)(a0:Xf)(x8:V X0):Z→X→X4→(V (V X0))→X→X→Y→(V X0)→(V X)→(V X)→W Xf
| 0,_,_,_,_,_,_,_,_,_=>U
| n+1,v9,v10,v11,v12,v13,v14,v15,v16,v17=>
 if(decide (v9<(x8.length:X))) then(
 (ix x8 v9).bind fun x19=>
 (LQ v10 v15 x19).bind fun r20=>
 if r20 then(
  if A3 v15.length ([x19]:V X0).length 48 then(
  if A3 v16.length ([v9]:V X).length 8 then(
   (rec_ (⟨v10,v11,(v15++([x19]:V X0)),(v16++([v9]:V X)),v17,(⟨v12,v13⟩:Xj),v14⟩:Xf)).bind fun r24=>
   (bnd (r24.plan.length:X) (a0.plan.length:X) 0 r24.plan.length).bind fun p25=>
   (bnd (r24.choice.length:X) (a0.plan.length:X) 0 r24.choice.length).bind fun p26=>
   DN w0 rec_ a0 x8 n (zM .i64 (v9+(1:X))) r24.h r24.choices r24.least.i0 r24.least.i1 r24.found (r24.plan.take p25.2) (r24.choice.take p26.2) r24.best)
  else U)
  else U)
 else(
  DN w0 rec_ a0 x8 n (zM .i64 (v9+(1:X))) v10 v11 v12 v13 v14 v15 v16 v17))
 else(
 O (⟨v10,v11,v15,v16,v17,(⟨v12,v13⟩:Xj),v14⟩:Xf))
def HL(w0:(V X0)→W Xj)(rec_:Xf→W Xf)(a0:Xf)(r1:Xj)(v5:Y):W Xf:=
if((a0.plan.length:X)==(a0.choices.length:X)) then(
 (Bx a0.choice).bind fun r7=>
 O (⟨a0.h,a0.choices,a0.plan,a0.choice,r7,r1,F⟩:Xf))
else(
 (ix a0.choices (a0.plan.length:X)).bind fun x8=>
 DN w0 rec_ a0 x8 bigN (0:X) a0.h a0.choices a0.least.i0 a0.least.i1 v5 a0.plan a0.choice a0.best)
def LV(w0:(V X0)→W Xj)(rec_:Xf→W Xf)(a0:Xf):W Xf:=
(w0 a0.plan).bind fun r1=>
if a0.found then(
 (LZ r1 a0.least).bind fun r3=>
 if r3 then(
 HL w0 rec_ a0 r1 F)
 else(
 O (⟨a0.h,a0.choices,a0.plan,a0.choice,a0.best,a0.least,F⟩:Xf)))
else(
 HL w0 rec_ a0 r1 E)
def Do(w0:(V X0)→W Xj):Z→Xf→W Xf
| 0,_=>U
| n+1,a0=>LV w0 (Do w0 n) a0
def RO(w0:(V X0)→W Xj)(a0:Xf):W Xf:=Do w0 bigN a0
/- impl_leastPlan -/
def Ph(a0:X4)(a1:V (V X0))(a2:(V X0)→W Xj):W ((V X) × Xj × Y):=
(RO a2 (⟨a0,a1,([]:V X0),([]:V X),([]:V X),(⟨(0:X),(0:X)⟩:Xj),E⟩:Xf)).bind fun r1=>
O (r1.best,r1.least,r1.found)
/- impl_CostOf -/
def Hh(a0:V X0):Z→X→X→W X
| 0,_,_=>U
| n+1,v1,v2=>
 if(decide (v2<(a0.length:X))) then(
 (ix a0 v2).bind fun x4=>
 Hh a0 n (zM .i64 (v1+x4.Cost)) (zM .i64 (v2+(1:X))))
 else(
 O v1)
def Lh(a0:V X0):W X:=
Hh a0 bigN (0:X) (0:X)
/- impl_byCost -/
def LJ(a0:V X0):W Xj:=
(Lh a0).bind fun r1=>
O (⟨r1,(0:X)⟩:Xj)
/- impl_BestPlan -/
def P6(a0:X4)(a1:V Xb):W ((V X) × X × Y):=
(Cn a0 a1).bind fun r1=>
if r1 then(
 (Pf a0 a1).bind fun r3=>
 (Ph a0 r3 (fun z0=>LJ z0)).bind fun r4=>
 O (r4.1,r4.2.1.i0,r4.2.2))
else(
 O (([]:V X),(0:X),E))
/- impl_CanServe -/
def Lg(a0:X4)(a1:V Xb):W Y:=
(P6 a0 a1).bind fun r1=>
O r1.2.2
/- impl_Servable -/
def JG(a0:X4)(a1:V Xb)(a2:V X):W Y:=
(Cn a0 a1).bind fun r1=>
if r1 then(
 (JN a1 a2).bind fun r3=>
 if r3 then(
 (LC a1 a2).bind fun r5=>
 (Lg a0 r5).bind fun r6=>
 O r6)
 else(
 O E))
else(
 O E)
/- impl_RefusalOf -/
def FX(a1:V Xb)(y3 v4:X)(r6:(V (V X)))(a0:X4)(NK:X→W (V X)):Z→X→W (V X)
| 0,_=>U
| n+1,v7=>
 if(decide (v7<(r6.length:X))) then(
 (ix r6 v7).bind fun x9=>
 (JG a0 a1 x9).bind fun r10=>
 if r10 then(
  FX a1 y3 v4 r6 a0 NK n (zM .i64 (v7+(1:X))))
 else(
  O x9))
 else(
 NK (zM .i64 (v4+(1:X))))
def FW(a1:V Xb)(a0:X4)(y3:X):Z→X→W (V X)
| 0,_=>U
| n+1,v4=>
 if(decide (v4<y3)) then(
 (RP (a1.length:X) v4).bind fun r6=>
 FX a1 y3 v4 r6 a0 (FW a1 a0 y3 n) bigN (0:X))
 else(
 O ([]:V X))
def Lz(a0:X4)(a1:V Xb):W (V X):=
(Cn a0 a1).bind fun r1=>
if r1 then(
 FW a1 a0 (zM .i64 ((a1.length:X)+(1:X))) bigN (0:X))
else(
 O ([]:V X))
/- impl_Join -/
def Lo(a0:V (V zA))(a1:V zA):W (V zA):=
(PS a0 a1).bind fun r1=>
O r1
/- impl_RefusalLine -/
def FV(a1:V Xb)(r3:(V X))(a0:X4):Z→X→(V (V zA))→W (V zA)
| 0,_,_=>U
| n+1,v4,v5=>
 if(decide (v4<(r3.length:X))) then(
 (ix r3 v4).bind fun x7=>
 (ix a1 x7).bind fun x8=>
 (ix a0.Fleet x8.Ship).bind fun x9=>
 if A3 v5.length ([x9.Name]:V (V zA)).length 16 then(
  FV a1 r3 a0 n (zM .i64 (v4+(1:X))) (v5++([x9.Name]:V (V zA))))
 else U)
 else(
 if((v5.length:X)==(0:X)) then(
  O ([110,111,110,101]:V zA))
 else(
  (Lo v5 ([43]:V zA)).bind fun r12=>
  O r12))
def Ly(a0:X4)(a1:V Xb):W (V zA):=
(Cn a0 a1).bind fun r1=>
if r1 then(
 (Lz a0 a1).bind fun r3=>
 FV a1 r3 a0 bigN (0:X) ([]:V (V zA)))
else(
 O ([]:V zA))
/- laws_eqPart -/
def M6(a0 a1:Xc):W Y:=
if(a0.Amp !=a1.Amp) then(
 O E)
else(
 if(a0.Period !=a1.Period) then(
 O E)
 else(
 if(a0.Phase !=a1.Phase) then(
  O E)
 else(
  O F)))
/- laws_eqPartS -/
def HT(a0 a1:V Xc):Z→X→W Y
| 0,_=>U
| n+1,v2=>
 if(decide (v2<(a0.length:X))) then(
 (ix a0 v2).bind fun x4=>
 (ix a1 v2).bind fun x5=>
 (M6 x4 x5).bind fun r6=>
 if r6 then(
  HT a0 a1 n (zM .i64 (v2+(1:X))))
 else(
  O E))
 else(
 O F)
def M7(a0 a1:V Xc):W Y:=
if((a0.length:X) !=(a1.length:X)) then(
 O E)
else(
 HT a0 a1 bigN (0:X))
/- laws_eqTide -/
def Pp(a0 a1:Xl):W Y:=
if(a0.Mean !=a1.Mean) then(
 O E)
else(
 (M7 a0.Parts a1.Parts).bind fun r2=>
 if r2 then(
 O F)
 else(
 O E))
/- laws_eqSurge -/
def Me(a0 a1:Xa):W Y:=
if(a0.From !=a1.From) then(
 O E)
else(
 if(a0.Low !=a1.Low) then(
 O E)
 else(
 if(a0.High !=a1.High) then(
  O E)
 else(
  O F)))
/- laws_eqSurgeS -/
def HX(a0 a1:V Xa):Z→X→W Y
| 0,_=>U
| n+1,v2=>
 if(decide (v2<(a0.length:X))) then(
 (ix a0 v2).bind fun x4=>
 (ix a1 v2).bind fun x5=>
 (Me x4 x5).bind fun r6=>
 if r6 then(
  HX a0 a1 n (zM .i64 (v2+(1:X))))
 else(
  O E))
 else(
 O F)
def Mf(a0 a1:V Xa):W Y:=
if((a0.length:X) !=(a1.length:X)) then(
 O E)
else(
 HX a0 a1 bigN (0:X))
/- laws_eqForecast -/
def M3(a0 a1:Xd):W Y:=
(Pp a0.Tide a1.Tide).bind fun r1=>
if r1 then(
 (Mf a0.Surges a1.Surges).bind fun r3=>
 if r3 then(
 O F)
 else(
 O E))
else(
 O E)
/- laws_eqPoint -/
def M8(a0 a1:X7):W Y:=
if(a0.Name==a1.Name) then(
 if(a0.Wait==a1.Wait) then(
 O F)
 else(
 O E))
else(
 O E)
/- laws_eqPointS -/
def HU(a0 a1:V X7):Z→X→W Y
| 0,_=>U
| n+1,v2=>
 if(decide (v2<(a0.length:X))) then(
 (ix a0 v2).bind fun x4=>
 (ix a1 v2).bind fun x5=>
 (M8 x4 x5).bind fun r6=>
 if r6 then(
  HU a0 a1 n (zM .i64 (v2+(1:X))))
 else(
  O E))
 else(
 O F)
def M9(a0 a1:V X7):W Y:=
if((a0.length:X) !=(a1.length:X)) then(
 O E)
else(
 HU a0 a1 bigN (0:X))
/- laws_eqSegment -/
def Ma(a0 a1:X2):W Y:=
if(a0.A !=a1.A) then(
 O E)
else(
 if(a0.B !=a1.B) then(
 O E)
 else(
 if(a0.Depth !=a1.Depth) then(
  O E)
 else(
  if(a0.Minutes !=a1.Minutes) then(
  O E)
  else(
  if(a0.Meet==a1.Meet) then(
   O F)
  else(
   O E)))))
/- laws_eqSegmentS -/
def HV(a0 a1:V X2):Z→X→W Y
| 0,_=>U
| n+1,v2=>
 if(decide (v2<(a0.length:X))) then(
 (ix a0 v2).bind fun x4=>
 (ix a1 v2).bind fun x5=>
 (Ma x4 x5).bind fun r6=>
 if r6 then(
  HV a0 a1 n (zM .i64 (v2+(1:X))))
 else(
  O E))
 else(
 O F)
def Mb(a0 a1:V X2):W Y:=
if((a0.length:X) !=(a1.length:X)) then(
 O E)
else(
 HV a0 a1 bigN (0:X))
/- laws_eqChart -/
def M2(a0 a1:X1):W Y:=
(M9 a0.Points a1.Points).bind fun r1=>
if r1 then(
 (Mb a0.Segments a1.Segments).bind fun r3=>
 if r3 then(
 O F)
 else(
 O E))
else(
 O E)
/- laws_eqShip -/
def Mc(a0 a1:X6):W Y:=
if(a0.Name==a1.Name) then(
 if(a0.Length !=a1.Length) then(
 O E)
 else(
 if(a0.Draught !=a1.Draught) then(
  O E)
 else(
  if(a0.Line !=a1.Line) then(
  O E)
  else(
  if(a0.Tugs !=a1.Tugs) then(
   O E)
  else(
   if(a0.Slow==a1.Slow) then(
   O F)
   else(
   O E))))))
else(
 O E)
/- laws_eqShipS -/
def HW(a0 a1:V X6):Z→X→W Y
| 0,_=>U
| n+1,v2=>
 if(decide (v2<(a0.length:X))) then(
 (ix a0 v2).bind fun x4=>
 (ix a1 v2).bind fun x5=>
 (Mc x4 x5).bind fun r6=>
 if r6 then(
  HW a0 a1 n (zM .i64 (v2+(1:X))))
 else(
  O E))
 else(
 O F)
def Md(a0 a1:V X6):W Y:=
if((a0.length:X) !=(a1.length:X)) then(
 O E)
else(
 HW a0 a1 bigN (0:X))
/- laws_eqRegime -/
def Po(a0 a1:Xh):W Y:=
if(a0.Gap !=a1.Gap) then(
 O E)
else(
 if(a0.NoMeet==a1.NoMeet) then(
 O F)
 else(
 O E))
/- laws_eqIntS -/
def HS(a0 a1:V X):Z→X→W Y
| 0,_=>U
| n+1,v2=>
 if(decide (v2<(a0.length:X))) then(
 (ix a0 v2).bind fun x4=>
 (ix a1 v2).bind fun x5=>
 if(x4 !=x5) then(
  O E)
 else(
  HS a0 a1 n (zM .i64 (v2+(1:X)))))
 else(
 O F)
def M5(a0 a1:V X):W Y:=
if((a0.length:X) !=(a1.length:X)) then(
 O E)
else(
 HS a0 a1 bigN (0:X))
/- laws_eqCrew -/
def Pn(a0 a1:Xm):W Y:=
if(a0.Tugs !=a1.Tugs) then(
 O E)
else(
 if(a0.Pilots !=a1.Pilots) then(
 O E)
 else(
 if(a0.Rest !=a1.Rest) then(
  O E)
 else(
  (M5 a0.Moves a1.Moves).bind fun r4=>
  if r4 then(
  O F)
  else(
  O E))))
/- laws_eqHarbour -/
def M4(a0 a1:X4):W Y:=
(M3 a0.Forecast a1.Forecast).bind fun r1=>
if r1 then(
 (M2 a0.Chart a1.Chart).bind fun r3=>
 if r3 then(
 (Md a0.Fleet a1.Fleet).bind fun r5=>
 if r5 then(
  (Po a0.Regime a1.Regime).bind fun r7=>
  if r7 then(
  (Pn a0.Crew a1.Crew).bind fun r9=>
  if r9 then(
   O F)
  else(
   O E))
  else(
  O E))
 else(
  O E))
 else(
 O E))
else(
 O E)
/- laws_eqCall -/
def Pm(a0 a1:Xb):W Y:=
if(a0.Ship !=a1.Ship) then(
 O E)
else(
 if(a0.From !=a1.From) then(
 O E)
 else(
 if(a0.To !=a1.To) then(
  O E)
 else(
  if(a0.Ready !=a1.Ready) then(
  O E)
  else(
  if(a0.Due !=a1.Due) then(
   O E)
  else(
   O F)))))
/- laws_eqCallS -/
def HR(a0 a1:V Xb):Z→X→W Y
| 0,_=>U
| n+1,v2=>
 if(decide (v2<(a0.length:X))) then(
 (ix a0 v2).bind fun x4=>
 (ix a1 v2).bind fun x5=>
 (Pm x4 x5).bind fun r6=>
 if r6 then(
  HR a0 a1 n (zM .i64 (v2+(1:X))))
 else(
  O E))
 else(
 O F)
def M1(a0 a1:V Xb):W Y:=
if((a0.length:X) !=(a1.length:X)) then(
 O E)
else(
 HR a0 a1 bigN (0:X))
/- laws_FnExactRefusalLine -/
def Pl(a0:X4)(a1:V Xb):W Y:=
(Mj a0 (1048576:X)).bind fun r1=>
if(decide (r1<(0:X))) then(
 O F)
else(
 (Mg a1 r1).bind fun r3=>
 if(decide (r3<(0:X))) then(
 O F)
 else(
 (I0 a0).bind fun r5=>
 (HY a1).bind fun r6=>
 (MY r5 r6).bind fun r7=>
 (I0 a0).bind fun r9=>
 (HY a1).bind fun r10=>
 (Ly r9 r10).bind fun r11=>
 if(r11==r7) then(
  (I0 a0).bind fun r13=>
  (M4 r9 r13).bind fun r14=>
  if r14 then(
  (HY a1).bind fun r16=>
  (M1 r10 r16).bind fun r17=>
  if r17 then(
   O F)
  else(
   O E))
  else(
  O E))
 else(
  O E)))
class Ct (f:Z) (T:outParam Prop):Prop where
 c:T
theorem Aq{f:Z}{T:Prop}(I:Ct f T):T:=I.c
section
variable {P : Program} {k : V Fr} {Q : Xn → St → Prop} {σ : St} {its : V AItem} {d f : Z} {args : V Opd} {xs : V DV} {rs : V R1} {T : Prop} [I : Ct f T]
theorem gO(hf:T→FC P f xs rs)(h:go P (.ops its::k) Q .normal (O (σ.inst d rs)))(h1:σ.toIVs args=O xs:=by exact rfl)(h3:σ.fresh d=F:=by first | exact rfl | (simp only[St.fresh,zK,zL,Ah]; simp[AV.cells,V1.cells,AC.uses]))(h4:Nat.ble (rs.flatMap R1.cells).length 64=F:=by exact rfl) :
  go P (.ops ((U,.call d f args)::its)::k) Q .normal (O σ):=AY (hf I.c) h h1 h3 h4
theorem jR{N:V Z}{ds:V AT}(hf:T→FC P f xs rs)(h:go P (.dops ds::k) Q .normal (O (σ.inst d rs)))(h1:(σ.less N).toIVs args=O xs:=by exact rfl)(h3:σ.fresh d=F:=by first | exact rfl | (simp only[St.fresh,zK,zL,Ah]; simp[AV.cells,V1.cells,AC.uses]))(h4:Nat.ble (rs.flatMap R1.cells).length 64=F:=by exact rfl) :
  go P (.dops ((O N,U,.call d f args)::ds)::k) Q .normal (O σ):=Cg (hf I.c) h h1 h3 h4
theorem gP(hf:T→FC P f xs rs)(h:go P (.ops its::k) Q .normal (O (σ.inst d rs)))(h1:σ.toDVs args=O xs:=by exact rfl)(h2:CD rs:=by first | exact Fg rfl | exact Dr rfl ⟨Ds,⟨⟩⟩ | exact Dr rfl ⟨Ds,rfl,⟨⟩⟩ | exact Dr rfl ⟨Ds,rfl,rfl,⟨⟩⟩ | exact Dr rfl ⟨rfl,rfl,rfl,Ds,rfl,⟨⟩⟩)(h3:σ.fresh d=F:=by first | exact rfl | (simp only[St.fresh,zK,zL,Ah]; simp[AV.cells,V1.cells,AC.uses]))(h4:Nat.ble (rs.flatMap R1.cells).length 64=F:=by exact rfl) :
  go P (.ops ((U,.call d f args)::its)::k) Q .normal (O σ):=Fh (hf I.c) h1 h2 h3 (zC h4) h
theorem jS{N:V Z}{ds:V AT}(hf:T→FC P f xs rs)(h:go P (.dops ds::k) Q .normal (O (σ.inst d rs)))(h1:(σ.less N).toDVs args=O xs:=by exact rfl)(h2:CD rs:=by first | exact Fg rfl | exact Dr rfl ⟨Ds,⟨⟩⟩ | exact Dr rfl ⟨Ds,rfl,⟨⟩⟩)(h3:σ.fresh d=F:=by first | exact rfl | (simp only[St.fresh,zK,zL,Ah]; simp[AV.cells,V1.cells,AC.uses]))(h4:Nat.ble (rs.flatMap R1.cells).length 64=F:=by exact rfl) :
  go P (.dops ((O N,U,.call d f args)::ds)::k) Q .normal (O σ):=PY (hf I.c) h1 h2 h3 (zC h4) h
end
theorem Ai(es:V (V D)){P:Program}{k:V Fr}{Q:Xn→St→Prop}{σ:St}{its:V AItem}{d sz:Z}{zs:V D}{len:Z}{ps:V (Z × Opd)}(H:go P (.ops its::k) Q .normal (O {(σ.set d (.v (.sc (.own (d*64))))) with rows:=put σ.rows (d*64) (sz,es) }))(hm:σ.made (.bslice d sz zs len ps)=O (.row d sz es):=by exact rfl)(hf:σ.fresh d=F:=by first | exact rfl | (simp only[St.fresh,zK,zL,Ah]; simp[AV.cells,V1.cells,AC.uses])) :
  go P (.ops ((U,.bslice d sz zs len ps)::its)::k) Q .normal (O σ):=Am hm hf H
theorem Ew{α:Type}(row:α→V D)(z:α){P:Program}{k:V Fr}{Q:Xn→St→Prop}{σ:St}{its:V AItem}{d:Z}{L C:Opd}{l c:X}{bytes n sz:Z}{zs:V D}(hb:BM l c bytes=O n)
  (H:go P (.ops its::k) Q .normal (O {(σ.set d (.v (.sc (.own (d*64))))) with rows:=put σ.rows (d*64) (sz,zB row (zG n z)) })) (hl:BV (σ.val L)=O l:=by exact rfl) (hc:BV (σ.val C)=O c:=by exact rfl) (hz:zs.length=sz:=by exact rfl) (he:row z=zs:=by exact rfl) (hf:σ.fresh d=F:=by exact rfl):go P (.ops ((U,.mksl d sz bytes zs L C)::its)::k) Q .normal (O σ):=RY hl hc hb hz (QG he) hf H
theorem ED{α:Type}(row:α→V D)(y:α){P:Program}{k:V Fr}{Q:Xn→St→Prop}{env bx rows}{id sz off n:Z}{i:X}{xs:V α}{x:α}{yv:V1}{dd:V D}(hx:ix xs i=O x)(H:go P k Q .normal (O ⟨env,bx,put rows id (sz,zB row (xs.set i.toNat y))⟩))(hd:yv.toDs=O dd:=by exact rfl)(hf:A2 rows id=O (sz,zB row xs):=by exact rfl)
  (hn:dd.length=n:=by exact rfl) (ho:Nat.ble (off+n) (row x).length=F:=by exact rfl) (hy:FB (row x) off dd=row y:=by exact rfl) :
  go P k Q .normal (St.storeV ⟨env,bx,rows⟩ n (.v (.sc (.pe id i.toNat off))) (.v yv)):=Fj hd hf (B7 hx) hn ho hy H
theorem gc{G:Prop}(k:G:=by
 first | intro S hS | intro hS
 conv at hS=>rhs; reduce
 try simp only[Int.reduceOfNat,Int.reduceNegSucc,Au,UInt8.reduceOfNat] at hS
 subst hS;first | refine AZ (AF ?_) | refine AF ?_ | skip
 repeat' (first | refine C5 ?_ | refine Cd ?_ | refine At ?_ | refine CF ?_ | (obtain⟨_,hc,h⟩:=ob h; first | refine gO (by intro k; apply k; exact hc) ?_ | refine jR (by intro k; apply k; exact hc) ?_ | refine gP (by intro k; apply k; exact hc) ?_ | refine jS (by intro k; apply k; exact hc) ?_ | refine s0 hc ?_ | refine s1 hc ?_) | simp only[*,Nat.reduceBEq,Nat.reduceMul,Nat.reduceAdd,Nat.reduceDiv,Int.reduceBEq,J] | (first | refine s0 ?_ | refine s0 _ ?_ | refine s0 ‹_› ?_ | refine s0 _ ‹_› ?_ | refine s0 _ _ ‹_› ?_ | refine s1 ?_ | refine s1 _ ?_ | refine s1 ‹_› ?_ | refine s1 _ ‹_› ?_ | refine s1 _ _ ‹_› ?_ | refine s2 ?_ | refine s2 _ ?_ | refine s2 ‹_› ?_ | refine s2 _ ‹_› ?_ | refine s2 _ _ ‹_› ?_ | refine s3 ?_ | refine s3 _ ?_ | refine s3 ‹_› ?_ | refine s3 _ ‹_› ?_ | refine s3 _ _ ‹_› ?_) | ((first | show go _ (.code (.loop _)::_) _ _ _ | show go _ (.code (IR _)::_) _ _ _); (first | refine ih h ?_ (by kernel_rfl) | refine k0 h ?_ (by kernel_rfl) | refine k0 ‹_› h ?_ (by kernel_rfl) | refine k0 ‹_› ‹_› h ?_ (by kernel_rfl) | refine k0 ‹_› ‹_› ‹_› h ?_ (by kernel_rfl) | refine k1 h ?_ (by kernel_rfl) | refine k1 ‹_› h ?_ (by kernel_rfl) | refine k1 ‹_› ‹_› h ?_ (by kernel_rfl) | refine k1 ‹_› ‹_› ‹_› h ?_ (by kernel_rfl) | refine k2 h ?_ (by kernel_rfl) | refine k2 ‹_› h ?_ (by kernel_rfl) | refine k2 ‹_› ‹_› h ?_ (by kernel_rfl) | refine k2 ‹_› ‹_› ‹_› h ?_ (by kernel_rfl) | refine k3 h ?_ (by kernel_rfl) | refine k3 ‹_› h ?_ (by kernel_rfl) | refine k3 ‹_› ‹_› h ?_ (by kernel_rfl) | refine k3 ‹_› ‹_› ‹_› h ?_ (by kernel_rfl)))<;>try simp only[*,Nat.reduceBEq,Nat.reduceMul,Nat.reduceAdd,Nat.reduceDiv,Int.reduceBEq,J,pL,aM,List.map_nil] | (obtain⟨_,_,h⟩:=ob h) | (obtain⟨_,h⟩:=B5 h) | (obtain⟨_,h⟩:=GL h) | (obtain⟨_,h⟩ | ⟨_,h⟩:=ic h) | (cases h; first | exact t0 | trivial | (repeat' constructor; done)))
 done):G:=k
end Go.Vi
