/-
Plain definitions of functions. No condition.
-/
import Derived.Test.YtmgfndipofbbaaaGreatOVi40
namespace Go.Vi
set_option linter.all false
open Int renaming toNat → U, tdiv → X, tmod → I
open Nat renaming le_of_ble_eq_true → V
open List renaming map → W, replicate → Z, not_mem_nil → C, mem_cons → zA
open And renaming intro → Y
open IntKind renaming wrap → zB
open Bool renaming true → T, false → F
open Option renaming some → E, none → G
open _root_ renaming List → H, Option → L, Int → N, Bool → O, Nat → P, UInt8 → Q
def CH(k:IntKind)(x:N)(n:P):N:=k.wrap (x.fdiv (2 ^ min n k.bits))
theorem pX{k:IntKind}{x:N}:CK .shr (.v (.sc (.dat (.int k x)))) (.v (.sc (.dat (.int .u64 8))))=E (.v (.sc (.dat (.int k (CH k x 8))))):=by simp[CK,B9,CH]
theorem yc{k:IntKind}{x:N}:B9 .shr k x 8=E (.int k (CH k x 8)):=by simp[B9,CH]
theorem pU{k:IntKind}{x:N}:CK .shr (.v (.sc (.dat (.int k x)))) (.v (.sc (.dat (.int .u64 16))))=E (.v (.sc (.dat (.int k (CH k x 16))))):=by simp[CK,B9,CH]
theorem ya{k:IntKind}{x:N}:B9 .shr k x 16=E (.int k (CH k x 16)):=by simp[B9,CH]
theorem pV{k:IntKind}{x:N}:CK .shr (.v (.sc (.dat (.int k x)))) (.v (.sc (.dat (.int .u64 32))))=E (.v (.sc (.dat (.int k (CH k x 32))))):=by simp[CK,B9,CH]
theorem yb{k:IntKind}{x:N}:B9 .shr k x 32=E (.int k (CH k x 32)):=by simp[B9,CH]
structure Xd where
 Amp:N
 Period:N
 Phase:N
 deriving DecidableEq
def Xd.row(x:Xd):H D:= [.int .i64 x.Amp,.int .i64 x.Period,.int .i64 x.Phase]
theorem Xd.row_eq(x:Xd):Xd.row x= [.int .i64 x.Amp,.int .i64 x.Period,.int .i64 x.Phase]:=rfl
instance:Row Xd.row 3:=⟨fun _=>rfl,V rfl⟩
instance:FlatRow Xd.row:=⟨fun x d hd=>by simp only[Xd.row_eq,zA,C,or_false] at hd; rcases hd with rfl | rfl | rfl<;>rfl⟩
instance:OfTy (.st [(.int .i64),(.int .i64),(.int .i64)]) Xd.row:=⟨fun ds h=>by
 obtain⟨a0,b0,h0,t0,rfl⟩:=h;obtain⟨a1,b1,h1,t1,rfl⟩:=t0;obtain⟨a2,b2,h2,t2,rfl⟩:=t1;obtain rfl:=t2;obtain⟨x0,rfl⟩:=OfTy.of (row:=rI) _ h0;obtain⟨x1,rfl⟩:=OfTy.of (row:=rI) _ h1;obtain⟨x2,rfl⟩:=OfTy.of (row:=rI) _ h2;exact⟨⟨x0,x1,x2⟩,rfl⟩⟩
structure Xj where
 Mean:N
 Parts:H Xd
 deriving DecidableEq
def Xj.row(x:Xj):H D:= [.int .i64 x.Mean,.sl (W Xd.row x.Parts)]
theorem Xj.row_eq(x:Xj):Xj.row x= [.int .i64 x.Mean,.sl (W Xd.row x.Parts)]:=rfl
instance:Row Xj.row 2:=⟨fun _=>rfl,V rfl⟩
instance:OfTy (.st [(.int .i64),(.sl (.st [(.int .i64),(.int .i64),(.int .i64)]))]) Xj.row:=⟨fun ds h=>by
 obtain⟨a0,b0,h0,t0,rfl⟩:=h;obtain⟨a1,b1,h1,t1,rfl⟩:=t0;obtain rfl:=t1;obtain⟨x0,rfl⟩:=OfTy.of (row:=rI) _ h0;obtain⟨x1,rfl⟩:=OfTy.of (row:=(rL Xd.row)) _ h1;exact⟨⟨x0,x1⟩,rfl⟩⟩
structure Xb where
 From:N
 Low:N
 High:N
 deriving DecidableEq
def Xb.row(x:Xb):H D:= [.int .i64 x.From,.int .i64 x.Low,.int .i64 x.High]
theorem Xb.row_eq(x:Xb):Xb.row x= [.int .i64 x.From,.int .i64 x.Low,.int .i64 x.High]:=rfl
instance:Row Xb.row 3:=⟨fun _=>rfl,V rfl⟩
instance:FlatRow Xb.row:=⟨fun x d hd=>by simp only[Xb.row_eq,zA,C,or_false] at hd; rcases hd with rfl | rfl | rfl<;>rfl⟩
instance:OfTy (.st [(.int .i64),(.int .i64),(.int .i64)]) Xb.row:=⟨fun ds h=>by
 obtain⟨a0,b0,h0,t0,rfl⟩:=h;obtain⟨a1,b1,h1,t1,rfl⟩:=t0;obtain⟨a2,b2,h2,t2,rfl⟩:=t1;obtain rfl:=t2;obtain⟨x0,rfl⟩:=OfTy.of (row:=rI) _ h0;obtain⟨x1,rfl⟩:=OfTy.of (row:=rI) _ h1;obtain⟨x2,rfl⟩:=OfTy.of (row:=rI) _ h2;exact⟨⟨x0,x1,x2⟩,rfl⟩⟩
structure Xc where
 Tide:Xj
 Surges:H Xb
 deriving DecidableEq
def Xc.row(x:Xc):H D:= [.int .i64 x.Tide.Mean,.sl (W Xd.row x.Tide.Parts),.sl (W Xb.row x.Surges)]
theorem Xc.row_eq(x:Xc):Xc.row x= [.int .i64 x.Tide.Mean,.sl (W Xd.row x.Tide.Parts),.sl (W Xb.row x.Surges)]:=rfl
instance:Row Xc.row 3:=⟨fun _=>rfl,V rfl⟩
instance:OfTy (.st [(.st [(.int .i64),(.sl (.st [(.int .i64),(.int .i64),(.int .i64)]))]),(.sl (.st [(.int .i64),(.int .i64),(.int .i64)]))]) Xc.row:=⟨fun ds h=>by
 obtain⟨a0,b0,h0,t0,rfl⟩:=h;obtain⟨a1,b1,h1,t1,rfl⟩:=t0;obtain rfl:=t1;obtain⟨x0,rfl⟩:=OfTy.of (row:=Xj.row) _ h0;obtain⟨x1,rfl⟩:=OfTy.of (row:=(rL Xb.row)) _ h1;exact⟨⟨x0,x1⟩,rfl⟩⟩
structure X9 where
 Name:H Q
 Wait:O
 deriving DecidableEq
def X9.row(x:X9):H D:= [.str x.Name,.bool x.Wait]
theorem X9.row_eq(x:X9):X9.row x= [.str x.Name,.bool x.Wait]:=rfl
instance:Row X9.row 2:=⟨fun _=>rfl,V rfl⟩
instance:FlatRow X9.row:=⟨fun x d hd=>by simp only[X9.row_eq,zA,C,or_false] at hd; rcases hd with rfl | rfl<;>rfl⟩
instance:OfTy (.st [.str,.bool]) X9.row:=⟨fun ds h=>by
 obtain⟨a0,b0,h0,t0,rfl⟩:=h;obtain⟨a1,b1,h1,t1,rfl⟩:=t0;obtain rfl:=t1;obtain⟨x0,rfl⟩:=OfTy.of (row:=rS) _ h0;obtain⟨x1,rfl⟩:=OfTy.of (row:=rB) _ h1;exact⟨⟨x0,x1⟩,rfl⟩⟩
structure X3 where
 A:N
 B:N
 Depth:N
 Minutes:N
 Meet:O
 deriving DecidableEq
def X3.row(x:X3):H D:= [.int .i64 x.A,.int .i64 x.B,.int .i64 x.Depth,.int .i64 x.Minutes,.bool x.Meet]
theorem X3.row_eq(x:X3):X3.row x= [.int .i64 x.A,.int .i64 x.B,.int .i64 x.Depth,.int .i64 x.Minutes,.bool x.Meet]:=rfl
instance:Row X3.row 5:=⟨fun _=>rfl,V rfl⟩
instance:FlatRow X3.row:=⟨fun x d hd=>by simp only[X3.row_eq,zA,C,or_false] at hd; rcases hd with rfl | rfl | rfl | rfl | rfl<;>rfl⟩
instance:OfTy (.st [(.int .i64),(.int .i64),(.int .i64),(.int .i64),.bool]) X3.row:=⟨fun ds h=>by
 obtain⟨a0,b0,h0,t0,rfl⟩:=h;obtain⟨a1,b1,h1,t1,rfl⟩:=t0;obtain⟨a2,b2,h2,t2,rfl⟩:=t1;obtain⟨a3,b3,h3,t3,rfl⟩:=t2;obtain⟨a4,b4,h4,t4,rfl⟩:=t3;obtain rfl:=t4;obtain⟨x0,rfl⟩:=OfTy.of (row:=rI) _ h0;obtain⟨x1,rfl⟩:=OfTy.of (row:=rI) _ h1;obtain⟨x2,rfl⟩:=OfTy.of (row:=rI) _ h2;obtain⟨x3,rfl⟩:=OfTy.of (row:=rI) _ h3;obtain⟨x4,rfl⟩:=OfTy.of (row:=rB) _ h4;exact⟨⟨x0,x1,x2,x3,x4⟩,rfl⟩⟩
structure X6 where
 Points:H X9
 Segments:H X3
 deriving DecidableEq
def X6.row(x:X6):H D:= [.sl (W X9.row x.Points),.sl (W X3.row x.Segments)]
theorem X6.row_eq(x:X6):X6.row x= [.sl (W X9.row x.Points),.sl (W X3.row x.Segments)]:=rfl
instance:Row X6.row 2:=⟨fun _=>rfl,V rfl⟩
instance:OfTy (.st [(.sl (.st [.str,.bool])),(.sl (.st [(.int .i64),(.int .i64),(.int .i64),(.int .i64),.bool]))]) X6.row:=⟨fun ds h=>by
 obtain⟨a0,b0,h0,t0,rfl⟩:=h;obtain⟨a1,b1,h1,t1,rfl⟩:=t0;obtain rfl:=t1;obtain⟨x0,rfl⟩:=OfTy.of (row:=(rL X9.row)) _ h0;obtain⟨x1,rfl⟩:=OfTy.of (row:=(rL X3.row)) _ h1;exact⟨⟨x0,x1⟩,rfl⟩⟩
structure X5 where
 Name:H Q
 Length:N
 Draught:N
 Line:N
 Tugs:N
 Slow:O
 deriving DecidableEq
def X5.row(x:X5):H D:= [.str x.Name,.int .i64 x.Length,.int .i64 x.Draught,.int .i64 x.Line,.int .i64 x.Tugs,.bool x.Slow]
theorem X5.row_eq(x:X5):X5.row x= [.str x.Name,.int .i64 x.Length,.int .i64 x.Draught,.int .i64 x.Line,.int .i64 x.Tugs,.bool x.Slow]:=rfl
instance:Row X5.row 6:=⟨fun _=>rfl,V rfl⟩
instance:FlatRow X5.row:=⟨fun x d hd=>by simp only[X5.row_eq,zA,C,or_false] at hd; rcases hd with rfl | rfl | rfl | rfl | rfl | rfl<;>rfl⟩
instance:OfTy (.st [.str,(.int .i64),(.int .i64),(.int .i64),(.int .i64),.bool]) X5.row:=⟨fun ds h=>by
 obtain⟨a0,b0,h0,t0,rfl⟩:=h;obtain⟨a1,b1,h1,t1,rfl⟩:=t0;obtain⟨a2,b2,h2,t2,rfl⟩:=t1;obtain⟨a3,b3,h3,t3,rfl⟩:=t2;obtain⟨a4,b4,h4,t4,rfl⟩:=t3;obtain⟨a5,b5,h5,t5,rfl⟩:=t4;obtain rfl:=t5;obtain⟨x0,rfl⟩:=OfTy.of (row:=rS) _ h0;obtain⟨x1,rfl⟩:=OfTy.of (row:=rI) _ h1;obtain⟨x2,rfl⟩:=OfTy.of (row:=rI) _ h2;obtain⟨x3,rfl⟩:=OfTy.of (row:=rI) _ h3;obtain⟨x4,rfl⟩:=OfTy.of (row:=rI) _ h4;obtain⟨x5,rfl⟩:=OfTy.of (row:=rB) _ h5;exact⟨⟨x0,x1,x2,x3,x4,x5⟩,rfl⟩⟩
structure Xg where
 Gap:N
 NoMeet:O
 deriving DecidableEq
def Xg.row(x:Xg):H D:= [.int .i64 x.Gap,.bool x.NoMeet]
theorem Xg.row_eq(x:Xg):Xg.row x= [.int .i64 x.Gap,.bool x.NoMeet]:=rfl
instance:Row Xg.row 2:=⟨fun _=>rfl,V rfl⟩
instance:FlatRow Xg.row:=⟨fun x d hd=>by simp only[Xg.row_eq,zA,C,or_false] at hd; rcases hd with rfl | rfl<;>rfl⟩
instance:OfTy (.st [(.int .i64),.bool]) Xg.row:=⟨fun ds h=>by
 obtain⟨a0,b0,h0,t0,rfl⟩:=h;obtain⟨a1,b1,h1,t1,rfl⟩:=t0;obtain rfl:=t1;obtain⟨x0,rfl⟩:=OfTy.of (row:=rI) _ h0;obtain⟨x1,rfl⟩:=OfTy.of (row:=rB) _ h1;exact⟨⟨x0,x1⟩,rfl⟩⟩
structure Xk where
 Tugs:N
 Pilots:N
 Rest:N
 Moves:H N
 deriving DecidableEq
def Xk.row(x:Xk):H D:= [.int .i64 x.Tugs,.int .i64 x.Pilots,.int .i64 x.Rest,.sl (W rI x.Moves)]
theorem Xk.row_eq(x:Xk):Xk.row x= [.int .i64 x.Tugs,.int .i64 x.Pilots,.int .i64 x.Rest,.sl (W rI x.Moves)]:=rfl
instance:Row Xk.row 4:=⟨fun _=>rfl,V rfl⟩
instance:OfTy (.st [(.int .i64),(.int .i64),(.int .i64),(.sl (.int .i64))]) Xk.row:=⟨fun ds h=>by
 obtain⟨a0,b0,h0,t0,rfl⟩:=h;obtain⟨a1,b1,h1,t1,rfl⟩:=t0;obtain⟨a2,b2,h2,t2,rfl⟩:=t1;obtain⟨a3,b3,h3,t3,rfl⟩:=t2;obtain rfl:=t3;obtain⟨x0,rfl⟩:=OfTy.of (row:=rI) _ h0;obtain⟨x1,rfl⟩:=OfTy.of (row:=rI) _ h1;obtain⟨x2,rfl⟩:=OfTy.of (row:=rI) _ h2;obtain⟨x3,rfl⟩:=OfTy.of (row:=(rL rI)) _ h3;exact⟨⟨x0,x1,x2,x3⟩,rfl⟩⟩
structure X7 where
 Forecast:Xc
 Chart:X6
 Fleet:H X5
 Regime:Xg
 Crew:Xk
 deriving DecidableEq
def X7.row(x:X7):H D:= [.int .i64 x.Forecast.Tide.Mean,.sl (W Xd.row x.Forecast.Tide.Parts),.sl (W Xb.row x.Forecast.Surges),.sl (W X9.row x.Chart.Points),.sl (W X3.row x.Chart.Segments),.sl (W X5.row x.Fleet),.int .i64 x.Regime.Gap,.bool x.Regime.NoMeet,.int .i64 x.Crew.Tugs,.int .i64 x.Crew.Pilots,.int .i64 x.Crew.Rest,.sl (W rI x.Crew.Moves)]
theorem X7.row_eq(x:X7):X7.row x= [.int .i64 x.Forecast.Tide.Mean,.sl (W Xd.row x.Forecast.Tide.Parts),.sl (W Xb.row x.Forecast.Surges),.sl (W X9.row x.Chart.Points),.sl (W X3.row x.Chart.Segments),.sl (W X5.row x.Fleet),.int .i64 x.Regime.Gap,.bool x.Regime.NoMeet,.int .i64 x.Crew.Tugs,.int .i64 x.Crew.Pilots,.int .i64 x.Crew.Rest,.sl (W rI x.Crew.Moves)]:=rfl
instance:Row X7.row 12:=⟨fun _=>rfl,V rfl⟩
instance:OfTy (.st [(.st [(.st [(.int .i64),(.sl (.st [(.int .i64),(.int .i64),(.int .i64)]))]),(.sl (.st [(.int .i64),(.int .i64),(.int .i64)]))]),(.st [(.sl (.st [.str,.bool])),(.sl (.st [(.int .i64),(.int .i64),(.int .i64),(.int .i64),.bool]))]),(.sl (.st [.str,(.int .i64),(.int .i64),(.int .i64),(.int .i64),.bool])),(.st [(.int .i64),.bool]),(.st [(.int .i64),(.int .i64),(.int .i64),(.sl (.int .i64))])]) X7.row:=⟨fun ds h=>by
 obtain⟨a0,b0,h0,t0,rfl⟩:=h;obtain⟨a1,b1,h1,t1,rfl⟩:=t0;obtain⟨a2,b2,h2,t2,rfl⟩:=t1;obtain⟨a3,b3,h3,t3,rfl⟩:=t2;obtain⟨a4,b4,h4,t4,rfl⟩:=t3;obtain rfl:=t4;obtain⟨x0,rfl⟩:=OfTy.of (row:=Xc.row) _ h0;obtain⟨x1,rfl⟩:=OfTy.of (row:=X6.row) _ h1;obtain⟨x2,rfl⟩:=OfTy.of (row:=(rL X5.row)) _ h2;obtain⟨x3,rfl⟩:=OfTy.of (row:=Xg.row) _ h3;obtain⟨x4,rfl⟩:=OfTy.of (row:=Xk.row) _ h4;exact⟨⟨x0,x1,x2,x3,x4⟩,rfl⟩⟩
structure Xa where
 Ship:N
 From:N
 To:N
 Ready:N
 Due:N
 deriving DecidableEq
def Xa.row(x:Xa):H D:= [.int .i64 x.Ship,.int .i64 x.From,.int .i64 x.To,.int .i64 x.Ready,.int .i64 x.Due]
theorem Xa.row_eq(x:Xa):Xa.row x= [.int .i64 x.Ship,.int .i64 x.From,.int .i64 x.To,.int .i64 x.Ready,.int .i64 x.Due]:=rfl
instance:Row Xa.row 5:=⟨fun _=>rfl,V rfl⟩
instance:FlatRow Xa.row:=⟨fun x d hd=>by simp only[Xa.row_eq,zA,C,or_false] at hd; rcases hd with rfl | rfl | rfl | rfl | rfl<;>rfl⟩
instance:OfTy (.st [(.int .i64),(.int .i64),(.int .i64),(.int .i64),(.int .i64)]) Xa.row:=⟨fun ds h=>by
 obtain⟨a0,b0,h0,t0,rfl⟩:=h;obtain⟨a1,b1,h1,t1,rfl⟩:=t0;obtain⟨a2,b2,h2,t2,rfl⟩:=t1;obtain⟨a3,b3,h3,t3,rfl⟩:=t2;obtain⟨a4,b4,h4,t4,rfl⟩:=t3;obtain rfl:=t4;obtain⟨x0,rfl⟩:=OfTy.of (row:=rI) _ h0;obtain⟨x1,rfl⟩:=OfTy.of (row:=rI) _ h1;obtain⟨x2,rfl⟩:=OfTy.of (row:=rI) _ h2;obtain⟨x3,rfl⟩:=OfTy.of (row:=rI) _ h3;obtain⟨x4,rfl⟩:=OfTy.of (row:=rI) _ h4;exact⟨⟨x0,x1,x2,x3,x4⟩,rfl⟩⟩
structure X1 where
 Ship:N
 Segment:N
 Toward:O
 Start:N
 End:N
 deriving DecidableEq
def X1.row(x:X1):H D:= [.int .i64 x.Ship,.int .i64 x.Segment,.bool x.Toward,.int .i64 x.Start,.int .i64 x.End]
theorem X1.row_eq(x:X1):X1.row x= [.int .i64 x.Ship,.int .i64 x.Segment,.bool x.Toward,.int .i64 x.Start,.int .i64 x.End]:=rfl
instance:Row X1.row 5:=⟨fun _=>rfl,V rfl⟩
instance:FlatRow X1.row:=⟨fun x d hd=>by simp only[X1.row_eq,zA,C,or_false] at hd; rcases hd with rfl | rfl | rfl | rfl | rfl<;>rfl⟩
instance:OfTy (.st [(.int .i64),(.int .i64),.bool,(.int .i64),(.int .i64)]) X1.row:=⟨fun ds h=>by
 obtain⟨a0,b0,h0,t0,rfl⟩:=h;obtain⟨a1,b1,h1,t1,rfl⟩:=t0;obtain⟨a2,b2,h2,t2,rfl⟩:=t1;obtain⟨a3,b3,h3,t3,rfl⟩:=t2;obtain⟨a4,b4,h4,t4,rfl⟩:=t3;obtain rfl:=t4;obtain⟨x0,rfl⟩:=OfTy.of (row:=rI) _ h0;obtain⟨x1,rfl⟩:=OfTy.of (row:=rI) _ h1;obtain⟨x2,rfl⟩:=OfTy.of (row:=rB) _ h2;obtain⟨x3,rfl⟩:=OfTy.of (row:=rI) _ h3;obtain⟨x4,rfl⟩:=OfTy.of (row:=rI) _ h4;exact⟨⟨x0,x1,x2,x3,x4⟩,rfl⟩⟩
structure X2 where
 Start:N
 Arrival:N
 Cost:N
 Passages:H X1
 deriving DecidableEq
def X2.row(x:X2):H D:= [.int .i64 x.Start,.int .i64 x.Arrival,.int .i64 x.Cost,.sl (W X1.row x.Passages)]
theorem X2.row_eq(x:X2):X2.row x= [.int .i64 x.Start,.int .i64 x.Arrival,.int .i64 x.Cost,.sl (W X1.row x.Passages)]:=rfl
instance:Row X2.row 4:=⟨fun _=>rfl,V rfl⟩
instance:OfTy (.st [(.int .i64),(.int .i64),(.int .i64),(.sl (.st [(.int .i64),(.int .i64),.bool,(.int .i64),(.int .i64)]))]) X2.row:=⟨fun ds h=>by
 obtain⟨a0,b0,h0,t0,rfl⟩:=h;obtain⟨a1,b1,h1,t1,rfl⟩:=t0;obtain⟨a2,b2,h2,t2,rfl⟩:=t1;obtain⟨a3,b3,h3,t3,rfl⟩:=t2;obtain rfl:=t3;obtain⟨x0,rfl⟩:=OfTy.of (row:=rI) _ h0;obtain⟨x1,rfl⟩:=OfTy.of (row:=rI) _ h1;obtain⟨x2,rfl⟩:=OfTy.of (row:=rI) _ h2;obtain⟨x3,rfl⟩:=OfTy.of (row:=(rL X1.row)) _ h3;exact⟨⟨x0,x1,x2,x3⟩,rfl⟩⟩
structure Xh where
 Waits:H N
 Calls:H N
 deriving DecidableEq
def Xh.row(x:Xh):H D:= [.sl (W rI x.Waits),.sl (W rI x.Calls)]
theorem Xh.row_eq(x:Xh):Xh.row x= [.sl (W rI x.Waits),.sl (W rI x.Calls)]:=rfl
instance:Row Xh.row 2:=⟨fun _=>rfl,V rfl⟩
instance:OfTy (.st [(.sl (.int .i64)),(.sl (.int .i64))]) Xh.row:=⟨fun ds h=>by
 obtain⟨a0,b0,h0,t0,rfl⟩:=h;obtain⟨a1,b1,h1,t1,rfl⟩:=t0;obtain rfl:=t1;obtain⟨x0,rfl⟩:=OfTy.of (row:=(rL rI)) _ h0;obtain⟨x1,rfl⟩:=OfTy.of (row:=(rL rI)) _ h1;exact⟨⟨x0,x1⟩,rfl⟩⟩
structure X4 where
 From:N
 To:N
 deriving DecidableEq
def X4.row(x:X4):H D:= [.int .i64 x.From,.int .i64 x.To]
theorem X4.row_eq(x:X4):X4.row x= [.int .i64 x.From,.int .i64 x.To]:=rfl
instance:Row X4.row 2:=⟨fun _=>rfl,V rfl⟩
instance:FlatRow X4.row:=⟨fun x d hd=>by simp only[X4.row_eq,zA,C,or_false] at hd; rcases hd with rfl | rfl<;>rfl⟩
instance:OfTy (.st [(.int .i64),(.int .i64)]) X4.row:=⟨fun ds h=>by
 obtain⟨a0,b0,h0,t0,rfl⟩:=h;obtain⟨a1,b1,h1,t1,rfl⟩:=t0;obtain rfl:=t1;obtain⟨x0,rfl⟩:=OfTy.of (row:=rI) _ h0;obtain⟨x1,rfl⟩:=OfTy.of (row:=rI) _ h1;exact⟨⟨x0,x1⟩,rfl⟩⟩
structure X8 where
 From:N
 To:N
 A:N
 B:N
 deriving DecidableEq
def X8.row(x:X8):H D:= [.int .i64 x.From,.int .i64 x.To,.int .i64 x.A,.int .i64 x.B]
theorem X8.row_eq(x:X8):X8.row x= [.int .i64 x.From,.int .i64 x.To,.int .i64 x.A,.int .i64 x.B]:=rfl
instance:Row X8.row 4:=⟨fun _=>rfl,V rfl⟩
instance:FlatRow X8.row:=⟨fun x d hd=>by simp only[X8.row_eq,zA,C,or_false] at hd; rcases hd with rfl | rfl | rfl | rfl<;>rfl⟩
instance:OfTy (.st [(.int .i64),(.int .i64),(.int .i64),(.int .i64)]) X8.row:=⟨fun ds h=>by
 obtain⟨a0,b0,h0,t0,rfl⟩:=h;obtain⟨a1,b1,h1,t1,rfl⟩:=t0;obtain⟨a2,b2,h2,t2,rfl⟩:=t1;obtain⟨a3,b3,h3,t3,rfl⟩:=t2;obtain rfl:=t3;obtain⟨x0,rfl⟩:=OfTy.of (row:=rI) _ h0;obtain⟨x1,rfl⟩:=OfTy.of (row:=rI) _ h1;obtain⟨x2,rfl⟩:=OfTy.of (row:=rI) _ h2;obtain⟨x3,rfl⟩:=OfTy.of (row:=rI) _ h3;exact⟨⟨x0,x1,x2,x3⟩,rfl⟩⟩
structure Xi where
 waits:H O
 minutes:H N
 sure:H (H X4)
 deriving DecidableEq
def Xi.row(x:Xi):H D:= [.sl (W rB x.waits),.sl (W rI x.minutes),.sl (W (rL X4.row) x.sure)]
theorem Xi.row_eq(x:Xi):Xi.row x= [.sl (W rB x.waits),.sl (W rI x.minutes),.sl (W (rL X4.row) x.sure)]:=rfl
instance:Row Xi.row 3:=⟨fun _=>rfl,V rfl⟩
instance:OfTy (.st [(.sl .bool),(.sl (.int .i64)),(.sl (.sl (.st [(.int .i64),(.int .i64)])))]) Xi.row:=⟨fun ds h=>by
 obtain⟨a0,b0,h0,t0,rfl⟩:=h;obtain⟨a1,b1,h1,t1,rfl⟩:=t0;obtain⟨a2,b2,h2,t2,rfl⟩:=t1;obtain rfl:=t2;obtain⟨x0,rfl⟩:=OfTy.of (row:=(rL rB)) _ h0;obtain⟨x1,rfl⟩:=OfTy.of (row:=(rL rI)) _ h1;obtain⟨x2,rfl⟩:=OfTy.of (row:=(rL (rL X4.row))) _ h2;exact⟨⟨x0,x1,x2⟩,rfl⟩⟩
structure Xe where
 i0:O
 i1:O
 i2:O
 i3:O
 i4:O
 i5:O
 i6:O
 i7:O
 deriving DecidableEq
def Xe.row(x:Xe):H D:= [.bool x.i0,.bool x.i1,.bool x.i2,.bool x.i3,.bool x.i4,.bool x.i5,.bool x.i6,.bool x.i7]
theorem Xe.row_eq(x:Xe):Xe.row x= [.bool x.i0,.bool x.i1,.bool x.i2,.bool x.i3,.bool x.i4,.bool x.i5,.bool x.i6,.bool x.i7]:=rfl
instance:Row Xe.row 8:=⟨fun _=>rfl,V rfl⟩
def Xe.set(x:Xe)(n:P)(v:O):Xe:=⟨bif n==0 then v else x.i0,bif n==1 then v else x.i1,bif n==2 then v else x.i2,bif n==3 then v else x.i3,bif n==4 then v else x.i4,bif n==5 then v else x.i5,bif n==6 then v else x.i6,bif n==7 then v else x.i7⟩
theorem Xe.set_eq(x:Xe){n:P}{v:O}(h:n<8):C5 (W AC.dat (Xe.row x)) n [.dat (.bool v)]=W AC.dat (Xe.row (Xe.set x n v)):=by
 match n,h with
 | 0,_=>rfl
 | 1,_=>rfl
 | 2,_=>rfl
 | 3,_=>rfl
 | 4,_=>rfl
 | 5,_=>rfl
 | 6,_=>rfl
 | 7,_=>rfl
instance:FlatRow Xe.row:=⟨fun x d hd=>by simp only[Xe.row_eq,zA,C,or_false] at hd; rcases hd with rfl | rfl | rfl | rfl | rfl | rfl | rfl | rfl<;>rfl⟩
instance:OfTy (.st [.bool,.bool,.bool,.bool,.bool,.bool,.bool,.bool]) Xe.row:=⟨fun ds h=>by
 obtain⟨a0,b0,h0,t0,rfl⟩:=h;obtain⟨a1,b1,h1,t1,rfl⟩:=t0;obtain⟨a2,b2,h2,t2,rfl⟩:=t1;obtain⟨a3,b3,h3,t3,rfl⟩:=t2;obtain⟨a4,b4,h4,t4,rfl⟩:=t3;obtain⟨a5,b5,h5,t5,rfl⟩:=t4;obtain⟨a6,b6,h6,t6,rfl⟩:=t5;obtain⟨a7,b7,h7,t7,rfl⟩:=t6;obtain rfl:=t7;obtain⟨x0,rfl⟩:=OfTy.of (row:=rB) _ h0;obtain⟨x1,rfl⟩:=OfTy.of (row:=rB) _ h1;obtain⟨x2,rfl⟩:=OfTy.of (row:=rB) _ h2;obtain⟨x3,rfl⟩:=OfTy.of (row:=rB) _ h3;obtain⟨x4,rfl⟩:=OfTy.of (row:=rB) _ h4;obtain⟨x5,rfl⟩:=OfTy.of (row:=rB) _ h5;obtain⟨x6,rfl⟩:=OfTy.of (row:=rB) _ h6;obtain⟨x7,rfl⟩:=OfTy.of (row:=rB) _ h7;exact⟨⟨x0,x1,x2,x3,x4,x5,x6,x7⟩,rfl⟩⟩
structure Xf where
 sets:H N
 most:N
 groups:H N
 who:H N
 deriving DecidableEq
def Xf.row(x:Xf):H D:= [.sl (W rU x.sets),.int .i64 x.most,.sl (W rU x.groups),.sl (W rI x.who)]
theorem Xf.row_eq(x:Xf):Xf.row x= [.sl (W rU x.sets),.int .i64 x.most,.sl (W rU x.groups),.sl (W rI x.who)]:=rfl
instance:Row Xf.row 4:=⟨fun _=>rfl,V rfl⟩
instance:OfTy (.st [(.sl (.int .u64)),(.int .i64),(.sl (.int .u64)),(.sl (.int .i64))]) Xf.row:=⟨fun ds h=>by
 obtain⟨a0,b0,h0,t0,rfl⟩:=h;obtain⟨a1,b1,h1,t1,rfl⟩:=t0;obtain⟨a2,b2,h2,t2,rfl⟩:=t1;obtain⟨a3,b3,h3,t3,rfl⟩:=t2;obtain rfl:=t3;obtain⟨x0,rfl⟩:=OfTy.of (row:=(rL rU)) _ h0;obtain⟨x1,rfl⟩:=OfTy.of (row:=rI) _ h1;obtain⟨x2,rfl⟩:=OfTy.of (row:=(rL rU)) _ h2;obtain⟨x3,rfl⟩:=OfTy.of (row:=(rL rI)) _ h3;exact⟨⟨x0,x1,x2,x3⟩,rfl⟩⟩
abbrev CI(x:Xf):H XC:= [.d (.sl (W rU x.sets)),.d (.int .i64 x.most),.r 0,.r 1]
abbrev CJ(x:Xf):AB:= [(1,W rU x.groups),(1,W rI x.who)]
def A3u:=Y @gN (Y @pX (Y @yc (Y @pU (Y @ya (Y @pV (Y @yb (Y @Xd.row_eq (Y @Xj.row_eq (Y @Xb.row_eq (Y @Xc.row_eq (Y @X9.row_eq (Y @X3.row_eq (Y @X6.row_eq (Y @X5.row_eq (Y @Xg.row_eq (Y @Xk.row_eq (Y @X7.row_eq (Y @Xa.row_eq (Y @X1.row_eq (Y @X2.row_eq (Y @Xh.row_eq (Y @X4.row_eq (Y @X8.row_eq (Y @Xi.row_eq (Y @Xe.row_eq (@Xf.row_eq))))))))))))))))))))))))))
def J:=Y A3v (Y A3x (Y A3y (Y A3w A3u)))
/- laws_szPartS -/
def MW(a0:H Xd)(a1:N):L N:= if(decide ((zB .i64 (a1 - (a0.length:N)))<(0:N))) then(
 E (-1:N)) else(
 E (zB .i64 (a1 - (a0.length:N))))
/- laws_szTide -/
def RZ(a0:Xj)(a1:N):L N:= (MW a0.Parts a1).bind fun r1=> if(decide (r1<(0:N))) then(
 E (-1:N)) else(
 E r1)
/- laws_szSurgeS -/
def N2(a0:H Xb)(a1:N):L N:= if(decide ((zB .i64 (a1 - (a0.length:N)))<(0:N))) then(
 E (-1:N)) else(
 E (zB .i64 (a1 - (a0.length:N))))
/- laws_szForecast -/
def MR(a0:Xc)(a1:N):L N:= (RZ a0.Tide a1).bind fun r1=> if(decide (r1<(0:N))) then(
 E (-1:N)) else(
 (N2 a0.Surges r1).bind fun r3=>
 if(decide (r3<(0:N))) then(
 E (-1:N))
 else(
 E r3))
/- laws_szPoint -/
def MX(a0:X9)(a1:N):L N:= if(decide ((zB .i64 (a1 - (a0.Name.length:N)))<(0:N))) then(
 E (-1:N)) else(
 E (zB .i64 (a1 - (a0.Name.length:N))))
/- laws_szPointS -/
def FW(a0:H X9):P→N→N→L N
| 0,_,_=>G
| n+1,v2,v3=>
 if(decide (v3<(a0.length:N))) then(
 (ix a0 v3).bind fun x5=>
 (MX x5 v2).bind fun r6=>
 if(decide (r6<(0:N))) then(
  E (-1:N))
 else(
  FW a0 n r6 (zB .i64 (v3+(1:N)))))
 else(
 E v2)
def MY(a0:H X9)(a1:N):L N:= if(decide ((zB .i64 (a1 - (a0.length:N)))<(0:N))) then(
 E (-1:N)) else(
 FW a0 bigN (zB .i64 (a1 - (a0.length:N))) (0:N))
/- laws_szSegmentS -/
def MZ(a0:H X3)(a1:N):L N:= if(decide ((zB .i64 (a1 - (a0.length:N)))<(0:N))) then(
 E (-1:N)) else(
 E (zB .i64 (a1 - (a0.length:N))))
/- laws_szChart -/
def MQ(a0:X6)(a1:N):L N:= (MY a0.Points a1).bind fun r1=> if(decide (r1<(0:N))) then(
 E (-1:N)) else(
 (MZ a0.Segments r1).bind fun r3=>
 if(decide (r3<(0:N))) then(
 E (-1:N))
 else(
 E r3))
/- laws_szShip -/
def N0(a0:X5)(a1:N):L N:= if(decide ((zB .i64 (a1 - (a0.Name.length:N)))<(0:N))) then(
 E (-1:N)) else(
 E (zB .i64 (a1 - (a0.Name.length:N))))
/- laws_szShipS -/
def FX(a0:H X5):P→N→N→L N
| 0,_,_=>G
| n+1,v2,v3=>
 if(decide (v3<(a0.length:N))) then(
 (ix a0 v3).bind fun x5=>
 (N0 x5 v2).bind fun r6=>
 if(decide (r6<(0:N))) then(
  E (-1:N))
 else(
  FX a0 n r6 (zB .i64 (v3+(1:N)))))
 else(
 E v2)
def N1(a0:H X5)(a1:N):L N:= if(decide ((zB .i64 (a1 - (a0.length:N)))<(0:N))) then(
 E (-1:N)) else(
 FX a0 bigN (zB .i64 (a1 - (a0.length:N))) (0:N))
/- laws_szIntS -/
def MT(a0:H N)(a1:N):L N:= if(decide ((zB .i64 (a1 - (a0.length:N)))<(0:N))) then(
 E (-1:N)) else(
 E (zB .i64 (a1 - (a0.length:N))))
/- laws_szCrew -/
def RX(a0:Xk)(a1:N):L N:= (MT a0.Moves a1).bind fun r1=> if(decide (r1<(0:N))) then(
 E (-1:N)) else(
 E r1)
/- laws_szHarbour -/
def MS(a0:X7)(a1:N):L N:= (MR a0.Forecast a1).bind fun r1=> if(decide (r1<(0:N))) then(
 E (-1:N)) else(
 (MQ a0.Chart r1).bind fun r3=>
 if(decide (r3<(0:N))) then(
 E (-1:N))
 else(
 (N1 a0.Fleet r3).bind fun r5=>
 if(decide (r5<(0:N))) then(
  E (-1:N))
 else(
  (RX a0.Crew r5).bind fun r7=>
  if(decide (r7<(0:N))) then(
  E (-1:N))
  else(
  E r7))))
/- laws_szCallS -/
def MP(a0:H Xa)(a1:N):L N:= if(decide ((zB .i64 (a1 - (a0.length:N)))<(0:N))) then(
 E (-1:N)) else(
 E (zB .i64 (a1 - (a0.length:N))))
/- laws_szPassageS -/
def RY(a0:H X1)(a1:N):L N:= if(decide ((zB .i64 (a1 - (a0.length:N)))<(0:N))) then(
 E (-1:N)) else(
 E (zB .i64 (a1 - (a0.length:N))))
/- laws_szOption -/
def MU(a0:X2)(a1:N):L N:= (RY a0.Passages a1).bind fun r1=> if(decide (r1<(0:N))) then(
 E (-1:N)) else(
 E r1)
/- laws_szOptionS -/
def FV(a0:H X2):P→N→N→L N
| 0,_,_=>G
| n+1,v2,v3=>
 if(decide (v3<(a0.length:N))) then(
 (ix a0 v3).bind fun x5=>
 (MU x5 v2).bind fun r6=>
 if(decide (r6<(0:N))) then(
  E (-1:N))
 else(
  FV a0 n r6 (zB .i64 (v3+(1:N)))))
 else(
 E v2)
def MV(a0:H X2)(a1:N):L N:= if(decide ((zB .i64 (a1 - (a0.length:N)))<(0:N))) then(
 E (-1:N)) else(
 FV a0 bigN (zB .i64 (a1 - (a0.length:N))) (0:N))
/- laws_toPart -/
def S3(a0:Xd):L Xd:= E a0
/- laws_toPartS -/
def HW(a0:H Xd):P→N→(H Xd)→L (H Xd)
| 0,_,_=>G
| n+1,v2,v3=>
 if(decide (v2<(a0.length:N))) then(
 (ix a0 v2).bind fun x5=>
 (S3 x5).bind fun r6=>
 (ix v3 v2).bind fun x7=>
 HW a0 n (zB .i64 (v2+(1:N))) (v3.set (U v2) r6))
 else(
 E v3)
def N7(a0:H Xd):L (H Xd):= (BH (a0.length:N) (a0.length:N) 24).bind fun n1=> HW a0 bigN (0:N) (Z n1 (⟨(0:N),(0:N),(0:N)⟩:Xd))
/- laws_toTide -/
def Sa(a0:Xj):L Xj:= (N7 a0.Parts).bind fun r1=> E (⟨a0.Mean,r1⟩:Xj)
/- laws_toSurge -/
def S9(a0:Xb):L Xb:= E a0
/- laws_toSurgeS -/
def I1(a0:H Xb):P→N→(H Xb)→L (H Xb)
| 0,_,_=>G
| n+1,v2,v3=>
 if(decide (v2<(a0.length:N))) then(
 (ix a0 v2).bind fun x5=>
 (S9 x5).bind fun r6=>
 (ix v3 v2).bind fun x7=>
 I1 a0 n (zB .i64 (v2+(1:N))) (v3.set (U v2) r6))
 else(
 E v3)
def Nc(a0:H Xb):L (H Xb):= (BH (a0.length:N) (a0.length:N) 24).bind fun n1=> I1 a0 bigN (0:N) (Z n1 (⟨(0:N),(0:N),(0:N)⟩:Xb))
/- laws_toForecast -/
def N4(a0:Xc):L Xc:= (Sa a0.Tide).bind fun r1=> (Nc a0.Surges).bind fun r2=> E (⟨r1,r2⟩:Xc)
/- laws_toPoint -/
def S5(a0:X9):L X9:= E a0
/- laws_toPointS -/
def HY(a0:H X9):P→N→(H X9)→L (H X9)
| 0,_,_=>G
| n+1,v2,v3=>
 if(decide (v2<(a0.length:N))) then(
 (ix a0 v2).bind fun x5=>
 (S5 x5).bind fun r6=>
 (ix v3 v2).bind fun x7=>
 HY a0 n (zB .i64 (v2+(1:N))) (v3.set (U v2) r6))
 else(
 E v3)
def N9(a0:H X9):L (H X9):= (BH (a0.length:N) (a0.length:N) 24).bind fun n1=> HY a0 bigN (0:N) (Z n1 (⟨([]:H Q),F⟩:X9))
/- laws_toSegment -/
def S7(a0:X3):L X3:= E a0
/- laws_toSegmentS -/
def HZ(a0:H X3):P→N→(H X3)→L (H X3)
| 0,_,_=>G
| n+1,v2,v3=>
 if(decide (v2<(a0.length:N))) then(
 (ix a0 v2).bind fun x5=>
 (S7 x5).bind fun r6=>
 (ix v3 v2).bind fun x7=>
 HZ a0 n (zB .i64 (v2+(1:N))) (v3.set (U v2) r6))
 else(
 E v3)
def Na(a0:H X3):L (H X3):= (BH (a0.length:N) (a0.length:N) 40).bind fun n1=> HZ a0 bigN (0:N) (Z n1 (⟨(0:N),(0:N),(0:N),(0:N),F⟩:X3))
/- laws_toChart -/
def N3(a0:X6):L X6:= (N9 a0.Points).bind fun r1=> (Na a0.Segments).bind fun r2=> E (⟨r1,r2⟩:X6)
/- laws_toShip -/
def S8(a0:X5):L X5:= E a0
/- laws_toShipS -/
def I0(a0:H X5):P→N→(H X5)→L (H X5)
| 0,_,_=>G
| n+1,v2,v3=>
 if(decide (v2<(a0.length:N))) then(
 (ix a0 v2).bind fun x5=>
 (S8 x5).bind fun r6=>
 (ix v3 v2).bind fun x7=>
 I0 a0 n (zB .i64 (v2+(1:N))) (v3.set (U v2) r6))
 else(
 E v3)
def Nb(a0:H X5):L (H X5):= (BH (a0.length:N) (a0.length:N) 56).bind fun n1=> I0 a0 bigN (0:N) (Z n1 (⟨([]:H Q),(0:N),(0:N),(0:N),(0:N),F⟩:X5))
/- laws_toRegime -/
def S6(a0:Xg):L Xg:= E a0
/- laws_toIntS -/
def HU(a0:H N):P→N→(H N)→L (H N)
| 0,_,_=>G
| n+1,v2,v3=>
 if(decide (v2<(a0.length:N))) then(
 (ix a0 v2).bind fun x5=>
 (ix v3 v2).bind fun x6=>
 HU a0 n (zB .i64 (v2+(1:N))) (v3.set (U v2) x5))
 else(
 E v3)
def N5(a0:H N):L (H N):= (BH (a0.length:N) (a0.length:N) 8).bind fun n1=> HU a0 bigN (0:N) (Z n1 (0:N))
/- laws_toCrew -/
def S2(a0:Xk):L Xk:= (N5 a0.Moves).bind fun r1=> E (⟨a0.Tugs,a0.Pilots,a0.Rest,r1⟩:Xk)
/- laws_toHarbour -/
def FZ(a0:X7):L X7:= (N4 a0.Forecast).bind fun r1=> (N3 a0.Chart).bind fun r2=> (Nb a0.Fleet).bind fun r3=> (S6 a0.Regime).bind fun r4=> (S2 a0.Crew).bind fun r5=> E (⟨r1,r2,r3,r4,r5⟩:X7)
/- laws_toCall -/
def S0(a0:Xa):L Xa:= E a0
/- laws_toCallS -/
def HT(a0:H Xa):P→N→(H Xa)→L (H Xa)
| 0,_,_=>G
| n+1,v2,v3=>
 if(decide (v2<(a0.length:N))) then(
 (ix a0 v2).bind fun x5=>
 (S0 x5).bind fun r6=>
 (ix v3 v2).bind fun x7=>
 HT a0 n (zB .i64 (v2+(1:N))) (v3.set (U v2) r6))
 else(
 E v3)
def FY(a0:H Xa):L (H Xa):= (BH (a0.length:N) (a0.length:N) 40).bind fun n1=> HT a0 bigN (0:N) (Z n1 (⟨(0:N),(0:N),(0:N),(0:N),(0:N)⟩:Xa))
/- laws_toPassage -/
def S4(a0:X1):L X1:= E a0
/- laws_toPassageS -/
def HX(a0:H X1):P→N→(H X1)→L (H X1)
| 0,_,_=>G
| n+1,v2,v3=>
 if(decide (v2<(a0.length:N))) then(
 (ix a0 v2).bind fun x5=>
 (S4 x5).bind fun r6=>
 (ix v3 v2).bind fun x7=>
 HX a0 n (zB .i64 (v2+(1:N))) (v3.set (U v2) r6))
 else(
 E v3)
def N8(a0:H X1):L (H X1):= (BH (a0.length:N) (a0.length:N) 40).bind fun n1=> HX a0 bigN (0:N) (Z n1 (⟨(0:N),(0:N),F,(0:N),(0:N)⟩:X1))
/- laws_toOption -/
def N6(a0:X2):L X2:= (N8 a0.Passages).bind fun r1=> E (⟨a0.Start,a0.Arrival,a0.Cost,r1⟩:X2)
/- laws_toOptionS -/
def HV(a0:H X2):P→N→(H X2)→L (H X2)
| 0,_,_=>G
| n+1,v2,v3=>
 if(decide (v2<(a0.length:N))) then(
 (ix a0 v2).bind fun x5=>
 (N6 x5).bind fun r6=>
 (ix v3 v2).bind fun x7=>
 HV a0 n (zB .i64 (v2+(1:N))) (v3.set (U v2) r6))
 else(
 E v3)
def G0(a0:H X2):L (H X2):= (BH (a0.length:N) (a0.length:N) 48).bind fun n1=> HV a0 bigN (0:N) (Z n1 (⟨(0:N),(0:N),(0:N),([]:H X1)⟩:X2))
/- spec_l01In -/
def AK(a0 a1 a2:N):L O:= if(decide (a1≤a0)) then(
 E (decide (a0≤a2))) else(
 E F)
/- spec_PartOk -/
def Nw(a0:Xd):L O:= (AK a0.Amp (0:N) (1000:N)).bind fun r1=> if r1 then(
 (AK a0.Period (4:N) (2880:N)).bind fun r3=>
 if r3 then(
 if((zB .i64 (I a0.Period (4:N)))==(0:N)) then(
  (AK a0.Phase (0:N) (zB .i64 (a0.Period - (1:N)))).bind fun r6=>
  E r6)
 else(
  E F))
 else(
 E F)) else(
 E F)
/- spec_TideOk -/
def It(a0:Xj):P→N→L O
| 0,_=>G
| n+1,v4=>
 if(decide (v4<(a0.Parts.length:N))) then(
 (ix a0.Parts v4).bind fun x6=>
 (Nw x6).bind fun r7=>
 if r7 then(
  It a0 n (zB .i64 (v4+(1:N))))
 else(
  E F))
 else(
 E T)
def NH(a0:Xj):L O:= (AK a0.Mean (-1000:N) (1000:N)).bind fun r1=> if r1 then(
 if(decide ((4:N)<(a0.Parts.length:N))) then(
 E F)
 else(
 It a0 bigN (0:N))) else(
 E F)
/- spec_SurgeOk -/
def NG(a0:Xb):L O:= (AK a0.From (0:N) (2880:N)).bind fun r1=> if r1 then(
 (AK a0.Low (-500:N) (500:N)).bind fun r3=>
 if r3 then(
 (AK a0.High a0.Low (500:N)).bind fun r5=>
 E r5)
 else(
 E F)) else(
 E F)
/- spec_ForecastOk -/
def G1(a0:Xc):P→N→L O
| 0,_=>G
| n+1,v7=>
 if(decide (v7<(a0.Surges.length:N))) then(
 (ix a0.Surges v7).bind fun x9=>
 (NG x9).bind fun r10=>
 if r10 then(
  if(decide ((0:N)<v7)) then(
  (ix a0.Surges (zB .i64 (v7 - (1:N)))).bind fun x13=>
  if(decide (x9.From≤x13.From)) then(
   E F)
  else(
   G1 a0 n (zB .i64 (v7+(1:N)))))
  else(
  G1 a0 n (zB .i64 (v7+(1:N)))))
 else(
  E F))
 else(
 E T)
def Ic(a0:Xc):L O:= (NH a0.Tide).bind fun r1=> if r1 then(
 (AK (a0.Surges.length:N) (1:N) (6:N)).bind fun r3=>
 if r3 then(
 (ix a0.Surges (0:N)).bind fun x5=>
 if(x5.From !=(0:N)) then(
  E F)
 else(
  G1 a0 bigN (0:N)))
 else(
 E F)) else(
 E F)
/- spec_IsName -/
def Nr(a0:H Q)(v1:N)(Ep:N→L O):L O:= Ep (zB .i64 (v1+(1:N)))
def Nq(a0:H Q)(v1:N)(Ep:N→L O)(v5:O):L O:= if v5 then(
 Nr a0 v1 Ep) else(
 if(v1==(0:N)) then(
 E F)
 else(
 (ix a0 v1).bind fun b8=>
 if(decide ((b8.toNat:N)<(48:N))) then(
  E F)
 else(
  if(decide ((57:N)<(b8.toNat:N))) then(
  E F)
  else(
  Nr a0 v1 Ep))))
def G3(a0:H Q):P→N→L O
| 0,_=>G
| n+1,v1=>
 if(decide (v1<(a0.length:N))) then(
 (ix a0 v1).bind fun b3=>
 if(decide ((97:N)≤(b3.toNat:N))) then(
  Nq a0 v1 (G3 a0 n) (decide ((b3.toNat:N)≤(122:N))))
 else(
  Nq a0 v1 (G3 a0 n) F))
 else(
 (AK (a0.length:N) (1:N) (8:N)).bind fun r11=>
 E r11)
def Kb(a0:H Q):L O:= G3 a0 bigN (0:N)
/- spec_PointNamed -/
def Il(a1:H Q)(a0:X6):P→N→L N
| 0,_=>G
| n+1,v1=>
 if(decide (v1<(a0.Points.length:N))) then(
 (ix a0.Points v1).bind fun x3=>
 if(x3.Name==a1) then(
  E v1)
 else(
  Il a1 a0 n (zB .i64 (v1+(1:N)))))
 else(
 E (-1:N))
def NB(a0:X6)(a1:H Q):L N:= Il a1 a0 bigN (0:N)
/- spec_l05Joins -/
def NO(a0:X3)(a1 a2:N):L O:= if(a0.A==a1) then(
 if(a0.B==a2) then(
 E T)
 else(
 if(a0.A==a2) then(
  E (a0.B==a1))
 else(
  E F))) else(
 if(a0.A==a2) then(
 E (a0.B==a1))
 else(
 E F))
/- spec_ChartOk -/
def I6(a0:X6)(v11:N)(x13:X3)(y24:H X3)(y25:N)(Oa:N→L O):P→N→L O
| 0,_=>G
| n+1,v26=>
 if(decide (v26<y25)) then(
 (ix y24 v26).bind fun x28=>
 (NO x28 x13.A x13.B).bind fun r29=>
 if r29 then(
  E F)
 else(
  I6 a0 v11 x13 y24 y25 Oa n (zB .i64 (v26+(1:N)))))
 else(
 Oa (zB .i64 (v11+(1:N))))
def Eg(a0:X6):P→N→L O
| 0,_=>G
| n+1,v11=>
 if(decide (v11<(a0.Segments.length:N))) then(
 (ix a0.Segments v11).bind fun x13=>
 (AK x13.A (0:N) (zB .i64 ((a0.Points.length:N) - (1:N)))).bind fun r14=>
 if r14 then(
  (AK x13.B (0:N) (zB .i64 ((a0.Points.length:N) - (1:N)))).bind fun r16=>
  if r16 then(
  if(x13.A==x13.B) then(
   E F)
  else(
   (AK x13.Depth (0:N) (3000:N)).bind fun r19=>
   if r19 then(
   (AK x13.Minutes (1:N) (240:N)).bind fun r21=>
   if r21 then(
    (bnd (a0.Segments.length:N) v11 (0:N) a0.Segments.length).bind fun p23=>
    I6 a0 v11 x13 ((a0.Segments.drop p23.1).take (p23.2 - p23.1)) (((a0.Segments.drop p23.1).take (p23.2 - p23.1)).length:N) (Eg a0 n) bigN (0:N))
   else(
    E F))
   else(
   E F)))
  else(
  E F))
 else(
  E F))
 else(
 E T)
def I5(a0:X6):P→N→L O
| 0,_=>G
| n+1,v3=>
 if(decide (v3<(a0.Points.length:N))) then(
 (ix a0.Points v3).bind fun x5=>
 (Kb x5.Name).bind fun r6=>
 if r6 then(
  (NB a0 x5.Name).bind fun r9=>
  if(r9 !=v3) then(
  E F)
  else(
  I5 a0 n (zB .i64 (v3+(1:N)))))
 else(
  E F))
 else(
 Eg a0 bigN (0:N))
def Dr(a0:X6):L O:= if(decide ((8:N)<(a0.Points.length:N))) then(
 E F) else(
 if(decide ((10:N)<(a0.Segments.length:N))) then(
 E F)
 else(
 I5 a0 bigN (0:N)))
/- spec_ShipOk -/
def Ds(a0:X5):L O:= (Kb a0.Name).bind fun r1=> if r1 then(
 (AK a0.Length (10:N) (400:N)).bind fun r3=>
 if r3 then(
 (AK a0.Draught (100:N) (2000:N)).bind fun r5=>
 if r5 then(
  (AK a0.Line (0:N) (3:N)).bind fun r7=>
  if r7 then(
  (AK a0.Tugs (0:N) (4:N)).bind fun r9=>
  E r9)
  else(
  E F))
 else(
  E F))
 else(
 E F)) else(
 E F)
/- spec_ShipNamed -/
def Ir(a1:H Q)(a0:H X5):P→N→L N
| 0,_=>G
| n+1,v1=>
 if(decide (v1<(a0.length:N))) then(
 (ix a0 v1).bind fun x3=>
 if(x3.Name==a1) then(
  E v1)
 else(
  Ir a1 a0 n (zB .i64 (v1+(1:N)))))
 else(
 E (-1:N))
def NE(a0:H X5)(a1:H Q):L N:= Ir a1 a0 bigN (0:N)
/- spec_FleetOk -/
def Ib(a0:H X5):P→N→L O
| 0,_=>G
| n+1,v2=>
 if(decide (v2<(a0.length:N))) then(
 (ix a0 v2).bind fun x4=>
 (Ds x4).bind fun r5=>
 if r5 then(
  (NE a0 x4.Name).bind fun r7=>
  if(r7 !=v2) then(
  E F)
  else(
  Ib a0 n (zB .i64 (v2+(1:N)))))
 else(
  E F))
 else(
 E T)
def K7(a0:H X5):L O:= if(decide ((6:N)<(a0.length:N))) then(
 E F) else(
 Ib a0 bigN (0:N))
/- spec_RegimeOk -/
def Im(a0:Xg):L O:= (AK a0.Gap (0:N) (60:N)).bind fun r1=> E r1
/- spec_l13Table -/
def Gf(a1:H N):P→N→L O
| 0,_=>G
| n+1,v4=>
 if(decide (v4<(a1.length:N))) then(
 (ix a1 v4).bind fun x6=>
 (AK x6 (0:N) (240:N)).bind fun r7=>
 if r7 then(
  Gf a1 n (zB .i64 (v4+(1:N))))
 else(
  E F))
 else(
 E T)
def Ge(a0:N)(a1:H N):L O:= (AK a0 (0:N) (2880:N)).bind fun r1=> if r1 then(
 if((a1.length:N) !=(64:N)) then(
 E F)
 else(
 Gf a1 bigN (0:N))) else(
 E F)
/- spec_CrewOk -/
def I8(a0:Xk):L O:= (AK a0.Tugs (0:N) (12:N)).bind fun r1=> if r1 then(
 (AK a0.Pilots (0:N) (12:N)).bind fun r3=>
 if r3 then(
 (Ge a0.Rest a0.Moves).bind fun r5=>
 E r5)
 else(
 E F)) else(
 E F)
/- spec_HarbourOk -/
def Ka(a0:X7):L O:= (Ic a0.Forecast).bind fun r1=> if r1 then(
 (Dr a0.Chart).bind fun r3=>
 if r3 then(
 (K7 a0.Fleet).bind fun r5=>
 if r5 then(
  (Im a0.Regime).bind fun r7=>
  if r7 then(
  (I8 a0.Crew).bind fun r9=>
  E r9)
  else(
  E F))
 else(
  E F))
 else(
 E F)) else(
 E F)
/- spec_CallOk -/
def I3(a0:X7)(a1:Xa):L O:= (Ka a0).bind fun r1=> if r1 then(
 (AK a1.Ship (0:N) (zB .i64 ((a0.Fleet.length:N) - (1:N)))).bind fun r3=>
 if r3 then(
 (AK a1.From (0:N) (zB .i64 ((a0.Chart.Points.length:N) - (1:N)))).bind fun r5=>
 if r5 then(
  (AK a1.To (0:N) (zB .i64 ((a0.Chart.Points.length:N) - (1:N)))).bind fun r7=>
  if r7 then(
  if(a1.From !=a1.To) then(
   (AK a1.Ready (0:N) (2880:N)).bind fun r10=>
   if r10 then(
   (AK a1.Due a1.Ready (2880:N)).bind fun r12=>
   E r12)
   else(
   E F))
  else(
   E F))
  else(
  E F))
 else(
  E F))
 else(
 E F)) else(
 E F)
/- spec_CallsOk -/
def K5(a1:H Xa)(v4:N)(a0:X7)(x6:Xa)(y10:H Xa)(y11:N)(O9:N→L O):P→N→L O
| 0,_=>G
| n+1,v12=>
 if(decide (v12<y11)) then(
 (ix y10 v12).bind fun x14=>
 if(x6.Ship==x14.Ship) then(
  E F)
 else(
  K5 a1 v4 a0 x6 y10 y11 O9 n (zB .i64 (v12+(1:N)))))
 else(
 O9 (zB .i64 (v4+(1:N))))
def K4(a1:H Xa)(a0:X7):P→N→L O
| 0,_=>G
| n+1,v4=>
 if(decide (v4<(a1.length:N))) then(
 (ix a1 v4).bind fun x6=>
 (I3 a0 x6).bind fun r7=>
 if r7 then(
  (bnd (a1.length:N) v4 (0:N) a1.length).bind fun p9=>
  K5 a1 v4 a0 x6 ((a1.drop p9.1).take (p9.2 - p9.1)) (((a1.drop p9.1).take (p9.2 - p9.1)).length:N) (K4 a1 a0 n) bigN (0:N))
 else(
  E F))
 else(
 E T)
def Ni(a0:X7)(a1:H Xa):L O:= (Ka a0).bind fun r1=> if r1 then(
 if(decide ((6:N)<(a1.length:N))) then(
 E F)
 else(
 K4 a1 a0 bigN (0:N))) else(
 E F)
/- spec_l05Other -/
def Si(a0:X3)(a1:N):L N:= if(a1==a0.A) then(
 E a0.B) else(
 if(a1==a0.B) then(
 E a0.A)
 else(
 E (-1:N)))
/- spec_l05Has -/
def Ix(a1:N)(a0:H N):P→N→L O
| 0,_=>G
| n+1,v1=>
 if(decide (v1<(a0.length:N))) then(
 (ix a0 v1).bind fun x3=>
 if(x3==a1) then(
  E T)
 else(
  Ix a1 a0 n (zB .i64 (v1+(1:N)))))
 else(
 E F)
def NN(a0:H N)(a1:N):L O:= Ix a1 a0 bigN (0:N)
/- spec_l05Points -/
def Iy(r9:N)(a2:H N)(v1:N)(a0:X6)(v2:H N)(SL:N→(H N)→L ((H N) × O))(v12:O):L ((H N) × O):= if v12 then(
 E (([]:H N),F)) else(
 if AP v2.length ([r9]:H N).length 8 then(
 SL (zB .i64 (v1+(1:N))) (v2++([r9]:H N)))
 else G)
def Ga(a2:H N)(a0:X6):P→N→(H N)→L ((H N) × O)
| 0,_,_=>G
| n+1,v1,v2=>
 if(decide (v1<(a2.length:N))) then(
 (ix a2 v1).bind fun x4=>
 (AK x4 (0:N) (zB .i64 ((a0.Segments.length:N) - (1:N)))).bind fun r5=>
 if r5 then(
  (ix a0.Segments x4).bind fun x7=>
  (ix v2 (zB .i64 ((v2.length:N) - (1:N)))).bind fun x8=>
  (Si x7 x8).bind fun r9=>
  if(decide (r9<(0:N))) then(
  Iy r9 a2 v1 a0 v2 (Ga a2 a0 n) T)
  else(
  (NN v2 r9).bind fun r11=>
  Iy r9 a2 v1 a0 v2 (Ga a2 a0 n) r11))
 else(
  E (([]:H N),F)))
 else(
 E (v2,T))
def Kk(a0:X6)(a1:N)(a2:H N):L ((H N) × O):= Ga a2 a0 bigN (0:N) ([a1]:H N)
/- spec_RouteOk -/
def G7(a0:X6)(a1:N)(a2:H N):L O:= (Dr a0).bind fun r1=> if r1 then(
 (AK a1 (0:N) (zB .i64 ((a0.Points.length:N) - (1:N)))).bind fun r3=>
 if r3 then(
 (Kk a0 a1 a2).bind fun r5=>
 E r5.2)
 else(
 E F)) else(
 E F)
/- spec_RoutePoints -/
def G8(a0:X6)(a1:N)(a2:H N):L (H N):= (G7 a0 a1 a2).bind fun r1=> if r1 then(
 (Kk a0 a1 a2).bind fun r3=>
 E r3.1) else(
 E ([]:H N))
/- spec_l15Leads -/
def Sn(a0:X7)(a1:Xa)(a2:H N):L O:= (G8 a0.Chart a1.From a2).bind fun r1=> if(decide ((1:N)<(r1.length:N))) then(
 (ix r1 (zB .i64 ((r1.length:N) - (1:N)))).bind fun x3=>
 E (x3==a1.To)) else(
 E F)
/- spec_l07Ok -/
def Iz(a0:X6)(a1:N)(a2:X5):L O:= (Dr a0).bind fun r1=> if r1 then(
 (Ds a2).bind fun r3=>
 if r3 then(
 (AK a1 (0:N) (zB .i64 ((a0.Segments.length:N) - (1:N)))).bind fun r5=>
 E r5)
 else(
 E F)) else(
 E F)
/- spec_SquatOf -/
def Sh(a0:X5):L N:= (Ds a0).bind fun r1=> if r1 then(
 if a0.Slow then(
 E (zB .i64 (X a0.Draught (50:N))))
 else(
 E (zB .i64 (X a0.Draught (20:N))))) else(
 E (0:N))
/- spec_NeedOf -/
def Sf(a0:X5):L N:= (Ds a0).bind fun r1=> if r1 then(
 (Sh a0).bind fun r3=>
 E (zB .i64 ((zB .i64 (a0.Draught+r3))+(50:N)))) else(
 E (0:N))
/- spec_LevelFor -/
def Nu(a0:X6)(a1:N)(a2:X5):L N:= (Iz a0 a1 a2).bind fun r1=> if r1 then(
 (Sf a2).bind fun r3=>
 (ix a0.Segments a1).bind fun x4=>
 E (zB .i64 (r3 - x4.Depth))) else(
 E (0:N))
/- spec_l03Surge -/
def F9(a1:N)(a0:Xc):P→N→N→N→N→L Xb
| 0,_,_,_,_=>G
| n+1,v2,v3,v4,v5=>
 if(decide (v2<(a0.Surges.length:N))) then(
 (ix a0.Surges v2).bind fun x7=>
 if(decide (x7.From≤a1)) then(
  F9 a1 a0 n (zB .i64 (v2+(1:N))) x7.From x7.Low x7.High)
 else(
  F9 a1 a0 n (zB .i64 (v2+(1:N))) v3 v4 v5))
 else(
 E (⟨v3,v4,v5⟩:Xb))
def Iv(a0:Xc)(a1:N):L Xb:= (ix a0.Surges (0:N)).bind fun x1=> F9 a1 a0 bigN (0:N) x1.From x1.Low x1.High
/- spec_Wave -/
def NJ(a1 v6:N):L N:= if(decide (v6<(zB .i64 (X a1 (2:N))))) then(
 if(zB .i64 ((zB .i64 (X a1 (2:N)))*(zB .i64 (X a1 (2:N)))))==0 then G else
 E (zB .i64 (X (zB .i64 ((zB .i64 ((40000:N)*v6))*(zB .i64 ((zB .i64 (X a1 (2:N))) - v6)))) (zB .i64 ((zB .i64 (X a1 (2:N)))*(zB .i64 (X a1 (2:N)))))))) else(
 if(zB .i64 ((zB .i64 (X a1 (2:N)))*(zB .i64 (X a1 (2:N)))))==0 then G else
 E (zB .i64 (0 - (zB .i64 (X (zB .i64 ((zB .i64 ((40000:N)*(zB .i64 (v6 - (zB .i64 (X a1 (2:N)))))))*(zB .i64 ((zB .i64 (X a1 (2:N))) - (zB .i64 (v6 - (zB .i64 (X a1 (2:N))))))))) (zB .i64 ((zB .i64 (X a1 (2:N)))*(zB .i64 (X a1 (2:N))))))))))
def NI(a0 a1:N):L N:= if(decide (a1<(4:N))) then(
 E (0:N)) else(
 if(decide ((2880:N)<a1)) then(
 E (0:N))
 else(
 if((zB .i64 (I a1 (4:N))) !=(0:N)) then(
  E (0:N))
 else(
  if a1==0 then G else
  if(decide ((zB .i64 (I a0 a1))<(0:N))) then(
  NJ a1 (zB .i64 ((zB .i64 (I a0 a1))+a1)))
  else(
  NJ a1 (zB .i64 (I a0 a1))))))
/- spec_l02Level -/
def Iu(a1:N)(a0:Xj):P→N→N→L N
| 0,_,_=>G
| n+1,v1,v2=>
 if(decide (v2<(a0.Parts.length:N))) then(
 (ix a0.Parts v2).bind fun x4=>
 (NI (zB .i64 (a1+x4.Phase)) x4.Period).bind fun r5=>
 Iu a1 a0 n (zB .i64 (v1+(zB .i64 (X (zB .i64 (x4.Amp*r5)) (10000:N))))) (zB .i64 (v2+(1:N))))
 else(
 E v1)
def Kj(a0:Xj)(a1:N):L N:= Iu a1 a0 bigN a0.Mean (0:N)
/- spec_l04Of -/
def Iw(v1:N)(a0:H O)(v2:H X4)(Oc:N→(H X4)→L (H X4))(v8:O):L (H X4):= if v8 then(
 (ix v2 (zB .i64 ((v2.length:N) - (1:N)))).bind fun x10=>
 Oc (zB .i64 (v1+(1:N))) (v2.set (U (zB .i64 ((v2.length:N) - (1:N)))) (⟨x10.From,v1⟩:X4))) else(
 if AP v2.length ([(⟨v1,v1⟩:X4)]:H X4).length 16 then(
 Oc (zB .i64 (v1+(1:N))) (v2++([(⟨v1,v1⟩:X4)]:H X4)))
 else G)
def Eh(a0:H O):P→N→(H X4)→L (H X4)
| 0,_,_=>G
| n+1,v1,v2=>
 if(decide (v1<(a0.length:N))) then(
 (ix a0 v1).bind fun x4=>
 if x4 then(
  if(decide ((0:N)<(v2.length:N))) then(
  (ix v2 (zB .i64 ((v2.length:N) - (1:N)))).bind fun x7=>
  Iw v1 a0 v2 (Eh a0 n) (x7.To==(zB .i64 (v1 - (1:N)))))
  else(
  Iw v1 a0 v2 (Eh a0 n) F))
 else(
  Eh a0 n (zB .i64 (v1+(1:N))) v2))
 else(
 E v2)
def NM(a0:H O):L (H X4):= Eh a0 bigN (0:N) ([]:H X4)
/- spec_l04Levels -/
def NL(a1 v2:N)(a0:Xc)(v3:H O)(SK:O→N→(H O)→L (H X4))(v7:O)(v8:N):L (H X4):= (Kj a0.Tide v2).bind fun r9=> if AP v3.length ([(decide (a1≤(zB .i64 (r9+v8))))]:H O).length 1 then(
 SK v7 (zB .i64 (v2+(1:N))) (v3++([(decide (a1≤(zB .i64 (r9+v8))))]:H O))) else G
def G9(a1:N)(a0:Xc):P→O→N→(H O)→L (H X4)
| 0,_,_,_=>G
| n+1,v1,v2,v3=>
 if(decide (v2≤(2880:N))) then(
 (Iv a0 v2).bind fun r5=>
 if v1 then(
  NL a1 v2 a0 v3 (G9 a1 a0 n) T r5.High)
 else(
  NL a1 v2 a0 v3 (G9 a1 a0 n) F r5.Low))
 else(
 (NM v3).bind fun r11=>
 E r11)
def NK(a0:Xc)(a1:N)(a2:O):L (H X4):= G9 a1 a0 bigN a2 (0:N) ([]:H O)
/- spec_l06Minutes -/
def Fa(a0:X3)(a1:X5):L N:= if a1.Slow then(
 E (zB .i64 ((2:N)*a0.Minutes))) else(
 E a0.Minutes)
/- spec_MinutesOn -/
def Kd(a0:X6)(a1:N)(a2:X5):L N:= (Dr a0).bind fun r1=> if r1 then(
 (Ds a2).bind fun r3=>
 if r3 then(
 (AK a1 (0:N) (zB .i64 ((a0.Segments.length:N) - (1:N)))).bind fun r5=>
 if r5 then(
  (ix a0.Segments a1).bind fun x7=>
  (Fa x7 a2).bind fun r9=>
  E r9)
 else(
  E (0:N)))
 else(
 E (0:N))) else(
 E (0:N))
/- spec_WindowsOk -/
def F8(a0:H X4):P→N→L O
| 0,_=>G
| n+1,v1=>
 if(decide (v1<(a0.length:N))) then(
 (ix a0 v1).bind fun x3=>
 (AK x3.From (0:N) (2880:N)).bind fun r4=>
 if r4 then(
  (AK x3.To x3.From (2880:N)).bind fun r6=>
  if r6 then(
  if(decide ((0:N)<v1)) then(
   (ix a0 (zB .i64 (v1 - (1:N)))).bind fun x9=>
   if(decide (x3.From≤(zB .i64 (x9.To+(1:N))))) then(
   E F)
   else(
   F8 a0 n (zB .i64 (v1+(1:N)))))
  else(
   F8 a0 n (zB .i64 (v1+(1:N)))))
  else(
  E F))
 else(
  E F))
 else(
 E T)
def Ki(a0:H X4):L O:= F8 a0 bigN (0:N)
/- spec_ShrinkWindows -/
def F7(a1:N)(a0:H X4):P→N→(H X4)→L (H X4)
| 0,_,_=>G
| n+1,v5,v6=>
 if(decide (v5<(a0.length:N))) then(
 (ix a0 v5).bind fun x8=>
 if(decide (a1≤(zB .i64 (x8.To - x8.From)))) then(
  if AP v6.length ([(⟨x8.From,(zB .i64 (x8.To - a1))⟩:X4)]:H X4).length 16 then(
  F7 a1 a0 n (zB .i64 (v5+(1:N))) (v6++([(⟨x8.From,(zB .i64 (x8.To - a1))⟩:X4)]:H X4)))
  else G)
 else(
  F7 a1 a0 n (zB .i64 (v5+(1:N))) v6))
 else(
 E v6)
def Sg(a0:H X4)(a1:N):L (H X4):= (Ki a0).bind fun r1=> if r1 then(
 (AK a1 (0:N) (2880:N)).bind fun r3=>
 if r3 then(
 F7 a1 a0 bigN (0:N) ([]:H X4))
 else(
 E ([]:H X4))) else(
 E ([]:H X4))
/- spec_l07Starts -/
def Sj(a0:Xc)(a1:X6)(a2:N)(a3:X5)(a4:O):L (H X4):= (Ic a0).bind fun r1=> if r1 then(
 (Iz a1 a2 a3).bind fun r3=>
 if r3 then(
 (Nu a1 a2 a3).bind fun r5=>
 (NK a0 r5 a4).bind fun r6=>
 (Kd a1 a2 a3).bind fun r7=>
 (Sg r6 r7).bind fun r9=>
 E r9)
 else(
 E ([]:H X4))) else(
 E ([]:H X4))
/- spec_SureStarts -/
def NF(a0:Xc)(a1:X6)(a2:N)(a3:X5):L (H X4):= (Sj a0 a1 a2 a3 F).bind fun r1=> E r1
/- spec_l08Starts -/
def Gb(a3:H N)(a0:Xc)(a1:X6)(a2:X5):P→N→(H (H X4))→L (H (H X4))
| 0,_,_=>G
| n+1,v1,v2=>
 if(decide (v1<(a3.length:N))) then(
 (ix a3 v1).bind fun x4=>
 (NF a0 a1 x4 a2).bind fun r5=>
 if AP v2.length ([r5]:H (H X4)).length 24 then(
  Gb a3 a0 a1 a2 n (zB .i64 (v1+(1:N))) (v2++([r5]:H (H X4))))
 else G)
 else(
 E v2)
def Sk(a0:Xc)(a1:X6)(a2:X5)(a3:H N):L (H (H X4)):= Gb a3 a0 a1 a2 bigN (0:N) ([]:H (H X4))
/- spec_HasMinute -/
def Ie(a1:N)(a0:H X4):P→N→L O
| 0,_=>G
| n+1,v1=>
 if(decide (v1<(a0.length:N))) then(
 (ix a0 v1).bind fun x3=>
 (AK a1 x3.From x3.To).bind fun r4=>
 if r4 then(
  E T)
 else(
  Ie a1 a0 n (zB .i64 (v1+(1:N)))))
 else(
 E F)
def Nn(a0:H X4)(a1:N):L O:= Ie a1 a0 bigN (0:N)
/- spec_NextMinute -/
def Ii(a1:N)(a0:H X4):P→N→L N
| 0,_=>G
| n+1,v3=>
 if(decide (v3<(a0.length:N))) then(
 (ix a0 v3).bind fun x5=>
 if(decide (a1≤x5.To)) then(
  E (if x5.From<a1 then a1 else x5.From))
 else(
  Ii a1 a0 n (zB .i64 (v3+(1:N)))))
 else(
 E (-1:N))
def Nv(a0:H X4)(a1:N):L N:= (Ki a0).bind fun r1=> if r1 then(
 Ii a1 a0 bigN (0:N)) else(
 E (-1:N))
/- spec_l08Sail -/
def IA(a2 a3:H N)(a4:H (H X4))(v4 r12:N)(a0:X6)(a1:X5)(v5:H N)(SM:N→(H N)→L ((H N) × O))(v17:O):L ((H N) × O):= if v17 then(
 E (([]:H N),F)) else(
 if AP v5.length ([r12]:H N).length 8 then(
 SM (zB .i64 (v4+(1:N))) (v5++([r12]:H N)))
 else G)
def Ei(a2 a3:H N)(a4:H (H X4))(a0:X6)(a1:X5):P→N→(H N)→L ((H N) × O)
| 0,_,_=>G
| n+1,v4,v5=>
 if(decide (v4<(a3.length:N))) then(
 (ix v5 (zB .i64 (v4 - (1:N)))).bind fun x7=>
 (ix a3 (zB .i64 (v4 - (1:N)))).bind fun x8=>
 (ix a0.Segments x8).bind fun x9=>
 (Fa x9 a1).bind fun r10=>
 (ix a4 v4).bind fun x11=>
 (Nv x11 (zB .i64 (x7+r10))).bind fun r12=>
 if(decide (r12<(0:N))) then(
  IA a2 a3 a4 v4 r12 a0 a1 v5 (Ei a2 a3 a4 a0 a1 n) T)
 else(
  if(r12 !=(zB .i64 (x7+r10))) then(
  (ix a2 v4).bind fun x15=>
  (ix a0.Points x15).bind fun x16=>
  IA a2 a3 a4 v4 r12 a0 a1 v5 (Ei a2 a3 a4 a0 a1 n) (!x16.Wait))
  else(
  IA a2 a3 a4 v4 r12 a0 a1 v5 (Ei a2 a3 a4 a0 a1 n) F)))
 else(
 E (v5,T))
def NP(a0:X6)(a1:X5)(a2 a3:H N)(a4:H (H X4))(a5:N):L ((H N) × O):= (ix a4 (0:N)).bind fun x1=> (Nn x1 a5).bind fun r2=> if r2 then(
 Ei a2 a3 a4 a0 a1 bigN (1:N) ([a5]:H N)) else(
 E (([]:H N),F))
/- spec_SailRoute -/
def Io(a3:N)(a4:H N)(a5:N)(a0:Xc)(a1:X6)(a2:X5)(v7:O):L ((H N) × O):= if v7 then(
 E (([]:H N),F)) else(
 (G8 a1 a3 a4).bind fun r9=>
 (Sk a0 a1 a2 a4).bind fun r10=>
 (NP a1 a2 r9 a4 r10 a5).bind fun r11=>
 E (r11.1,r11.2))
def ND(a0:Xc)(a1:X6)(a2:X5)(a3:N)(a4:H N)(a5:N):L ((H N) × O):= (Ic a0).bind fun r1=> if r1 then(
 (Ds a2).bind fun r3=>
 if r3 then(
 (G7 a1 a3 a4).bind fun r5=>
 if r5 then(
  Io a3 a4 a5 a0 a1 a2 ((a4.length:N)==(0:N)))
 else(
  Io a3 a4 a5 a0 a1 a2 T))
 else(
 Io a3 a4 a5 a0 a1 a2 T)) else(
 Io a3 a4 a5 a0 a1 a2 T)
/- spec_RouteMinutes -/
def In(a1:H N)(a0:X6):P→N→N→L N
| 0,_,_=>G
| n+1,v3,v4=>
 if(decide (v4<(a1.length:N))) then(
 (ix a1 v4).bind fun x6=>
 (AK x6 (0:N) (zB .i64 ((a0.Segments.length:N) - (1:N)))).bind fun r7=>
 if r7 then(
  (ix a0.Segments x6).bind fun x9=>
  In a1 a0 n (zB .i64 (v3+x9.Minutes)) (zB .i64 (v4+(1:N))))
 else(
  E (-1:N)))
 else(
 E v3)
def NC(a0:X6)(a1:H N):L N:= (Dr a0).bind fun r1=> if r1 then(
 In a1 a0 bigN (0:N) (0:N)) else(
 E (-1:N))
/- spec_ArrivalOf -/
def Nh(a0:X6)(a1:X5)(a2 a3:H N):L N:= (NC a0 a2).bind fun r1=> if(decide (r1<(0:N))) then(
 E (-1:N)) else(
 (Ds a1).bind fun r3=>
 if r3 then(
 if((a2.length:N) !=(a3.length:N)) then(
  E (-1:N))
 else(
  if((a2.length:N)==(0:N)) then(
  E (-1:N))
  else(
  (ix a3 (zB .i64 ((a3.length:N) - (1:N)))).bind fun x7=>
  (AK x7 (0:N) (2880:N)).bind fun r9=>
  if r9 then(
   (ix a2 (zB .i64 ((a2.length:N) - (1:N)))).bind fun x11=>
   (ix a0.Segments x11).bind fun x12=>
   (Fa x12 a1).bind fun r13=>
   E (zB .i64 (x7+r13)))
  else(
   E (-1:N)))))
 else(
 E (-1:N)))
/- spec_PassagesOf -/
def Ij(a1:N)(a5 a4:H N)(a0:X6)(a2:X5)(r6:(H N)):P→N→(H X1)→L (H X1)
| 0,_,_=>G
| n+1,v7,v8=>
 if(decide (v7<(a4.length:N))) then(
 (ix a4 v7).bind fun x10=>
 (ix a5 v7).bind fun x11=>
 (AK x11 (0:N) (2880:N)).bind fun r12=>
 if r12 then(
  (ix a0.Segments x10).bind fun x14=>
  (ix r6 v7).bind fun x15=>
  (Fa x14 a2).bind fun r16=>
  if AP v8.length ([(⟨a1,x10,(x14.A==x15),x11,(zB .i64 (x11+r16))⟩:X1)]:H X1).length 40 then(
  Ij a1 a5 a4 a0 a2 r6 n (zB .i64 (v7+(1:N))) (v8++([(⟨a1,x10,(x14.A==x15),x11,(zB .i64 (x11+r16))⟩:X1)]:H X1)))
  else G)
 else(
  E ([]:H X1)))
 else(
 E v8)
def Nx(a0:X6)(a1:N)(a2:X5)(a3:N)(a4 a5:H N):L (H X1):= (G7 a0 a3 a4).bind fun r1=> if r1 then(
 (Ds a2).bind fun r3=>
 if r3 then(
 if((a4.length:N) !=(a5.length:N)) then(
  E ([]:H X1))
 else(
  (G8 a0 a3 a4).bind fun r6=>
  Ij a1 a5 a4 a0 a2 r6 bigN (0:N) ([]:H X1)))
 else(
 E ([]:H X1))) else(
 E ([]:H X1))
/- spec_l15Make -/
def Gh(a2:H N)(a0:X7)(x1:X5)(x2 r3:N)(r4:(H X1)):P→N→N→L (X2 × O)
| 0,_,_=>G
| n+1,v5,v6=>
 if(decide (v5<(a2.length:N))) then(
 (ix a2 v5).bind fun x8=>
 (ix a0.Chart.Segments x8).bind fun x9=>
 (Fa x9 x1).bind fun r10=>
 Gh a2 a0 x1 x2 r3 r4 n (zB .i64 (v5+(1:N))) (zB .i64 (v6 - r10)))
 else(
 E ((⟨x2,r3,v6,r4⟩:X2),(decide (r3≤(2880:N)))))
def So(a0:X7)(a1:Xa)(a2 a3:H N):L (X2 × O):= (ix a0.Fleet a1.Ship).bind fun x1=> (ix a3 (0:N)).bind fun x2=> (Nh a0.Chart x1 a2 a3).bind fun r3=> (Nx a0.Chart a1.Ship x1 a1.From a2 a3).bind fun r4=> Gh a2 a0 x1 x2 r3 r4 bigN (0:N) (zB .i64 (r3 - a1.Ready))
/- spec_OptionAt -/
def G5(a2:H N)(a3:N)(a0:X7)(a1:Xa)(v6:O):L (X2 × O):= if v6 then(
 E ((⟨(0:N),(0:N),(0:N),([]:H X1)⟩:X2),F)) else(
 (ix a0.Fleet a1.Ship).bind fun x8=>
 (ND a0.Forecast a0.Chart x8 a1.From a2 a3).bind fun r9=>
 if r9.2 then(
 (So a0 a1 a2 r9.1).bind fun r11=>
 if r11.2 then(
  E (r11.1,T))
 else(
  E ((⟨(0:N),(0:N),(0:N),([]:H X1)⟩:X2),F)))
 else(
 E ((⟨(0:N),(0:N),(0:N),([]:H X1)⟩:X2),F)))
def Ke(a0:X7)(a1:Xa)(a2:H N)(a3:N):L (X2 × O):= (I3 a0 a1).bind fun r1=> if r1 then(
 (AK a3 a1.Ready a1.Due).bind fun r3=>
 if r3 then(
 (Sn a0 a1 a2).bind fun r5=>
 G5 a2 a3 a0 a1 (!r5))
 else(
 G5 a2 a3 a0 a1 T)) else(
 G5 a2 a3 a0 a1 T)
/- spec_SameOptions -/
def Iq(a0 a1:X2):P→N→L O
| 0,_=>G
| n+1,v5=>
 if(decide (v5<(a0.Passages.length:N))) then(
 (ix a0.Passages v5).bind fun x7=>
 (ix a1.Passages v5).bind fun x8=>
 if((x7.Ship==x8.Ship)&&((x7.Segment==x8.Segment)&&((x7.Toward==x8.Toward)&&((x7.Start==x8.Start)&&((x7.End==x8.End)&&T))))) then(
  Iq a0 a1 n (zB .i64 (v5+(1:N))))
 else(
  E F))
 else(
 E T)
def Ip(a0 a1:X2):L O:= if(a0.Start !=a1.Start) then(
 E F) else(
 if(a0.Arrival !=a1.Arrival) then(
 E F)
 else(
 if(a0.Cost !=a1.Cost) then(
  E F)
 else(
  if((a0.Passages.length:N) !=(a1.Passages.length:N)) then(
  E F)
  else(
  Iq a0 a1 bigN (0:N)))))
/- spec_IsOption -/
def If(a2:X2)(a0:X7)(a1:Xa):P→N→(H N)→L O
| 0,_,_=>G
| n+1,v3,v4=>
 if(decide (v3<(a2.Passages.length:N))) then(
 (ix a2.Passages v3).bind fun x6=>
 if AP v4.length ([x6.Segment]:H N).length 8 then(
  If a2 a0 a1 n (zB .i64 (v3+(1:N))) (v4++([x6.Segment]:H N)))
 else G)
 else(
 (Ke a0 a1 v4 a2.Start).bind fun r9=>
 if r9.2 then(
  (Ip r9.1 a2).bind fun r11=>
  E r11)
 else(
  E F))
def Kc(a0:X7)(a1:Xa)(a2:X2):L O:= (I3 a0 a1).bind fun r1=> if r1 then(
 If a2 a0 a1 bigN (0:N) ([]:H N)) else(
 E F)
/- spec_Overlaps -/
def Kf(a0 a1:X1):L O:= E (decide ((if a0.Start<a1.Start then a1.Start else a0.Start)<(if a1.End<a0.End then a1.End else a0.End)))
/- spec_l09Near -/
def NQ(a2 v3 v4:N):L O:= E (decide ((zB .i64 (v4 - v3))<a2))
def Kl(a0 a1 a2:N):L O:= if(decide ((if a1<a0 then a1 else a0)<(0:N))) then(
 if(decide ((zB .i64 ((if a1<a0 then a1 else a0)+(9223372036854775807:N)))<(if a0<a1 then a1 else a0))) then(
 E F)
 else(
 NQ a2 (if a1<a0 then a1 else a0) (if a0<a1 then a1 else a0))) else(
 NQ a2 (if a1<a0 then a1 else a0) (if a0<a1 then a1 else a0))
/- spec_ConflictOf -/
def Nl(a0:X6)(a1:Xg)(a2 a3:X1):L N:= (Dr a0).bind fun r1=> if r1 then(
 (Im a1).bind fun r3=>
 if r3 then(
 (AK a2.Segment (0:N) (zB .i64 ((a0.Segments.length:N) - (1:N)))).bind fun r5=>
 if r5 then(
  if(a2.Segment !=a3.Segment) then(
  E (0:N))
  else(
  if(a2.Ship==a3.Ship) then(
   (Kf a2 a3).bind fun r9=>
   if r9 then(
   E (1:N))
   else(
   E (0:N)))
  else(
   if(a2.Toward==a3.Toward) then(
   (Kl a2.Start a3.Start a1.Gap).bind fun r17=>
   if r17 then(
    E (3:N))
   else(
    (Kl a2.End a3.End a1.Gap).bind fun r19=>
    if r19 then(
    E (3:N))
    else(
    if(decide (a2.Start<a3.Start)) then(
     if(decide (a3.End<a2.End)) then(
     E (4:N))
     else(
     if(decide (a3.Start<a2.Start)) then(
      if(decide (a2.End<a3.End)) then(
      E (4:N))
      else(
      E (0:N)))
     else(
      E (0:N))))
    else(
     if(decide (a3.Start<a2.Start)) then(
     if(decide (a2.End<a3.End)) then(
      E (4:N))
     else(
      E (0:N)))
     else(
     E (0:N))))))
   else(
   (Kf a2 a3).bind fun r12=>
   if r12 then(
    if a1.NoMeet then(
    E (2:N))
    else(
    (ix a0.Segments a2.Segment).bind fun x15=>
    if x15.Meet then(
     E (0:N))
    else(
     E (2:N))))
   else(
    E (0:N))))))
 else(
  E (0:N)))
 else(
 E (0:N))) else(
 E (0:N))
/- spec_Clashes -/
def I7(a3 a2:H X1)(v1:N)(a0:X6)(a1:Xg)(x3:X1)(Ob:N→L O):P→N→L O
| 0,_=>G
| n+1,v4=>
 if(decide (v4<(a3.length:N))) then(
 (ix a3 v4).bind fun x6=>
 (Nl a0 a1 x3 x6).bind fun r7=>
 if(r7 !=(0:N)) then(
  E T)
 else(
  I7 a3 a2 v1 a0 a1 x3 Ob n (zB .i64 (v4+(1:N)))))
 else(
 Ob (zB .i64 (v1+(1:N))))
def F6(a3 a2:H X1)(a0:X6)(a1:Xg):P→N→L O
| 0,_=>G
| n+1,v1=>
 if(decide (v1<(a2.length:N))) then(
 (ix a2 v1).bind fun x3=>
 I7 a3 a2 v1 a0 a1 x3 (F6 a3 a2 a0 a1 n) bigN (0:N))
 else(
 E F)
def Nk(a0:X6)(a1:Xg)(a2 a3:H X1):L O:= F6 a3 a2 a0 a1 bigN (0:N)
/- spec_ChainsOf -/
def I4(a0:H X2):P→N→(H (H X1))→L (H (H X1))
| 0,_,_=>G
| n+1,v1,v2=>
 if(decide (v1<(a0.length:N))) then(
 (ix a0 v1).bind fun x4=>
 if AP ([]:H X1).length x4.Passages.length 40 then(
  if AP v2.length ([x4.Passages]:H (H X1)).length 24 then(
  I4 a0 n (zB .i64 (v1+(1:N))) (v2++([x4.Passages]:H (H X1))))
  else G)
 else G)
 else(
 E v2)
def Nj(a0:H X2):L (H (H X1)):= I4 a0 bigN (0:N) ([]:H (H X1))
/- spec_PassageOk -/
def Kg(a0:X6)(a1:H X5)(a2:X1):L O:= (Dr a0).bind fun r1=> if r1 then(
 (K7 a1).bind fun r3=>
 if r3 then(
 (AK a2.Ship (0:N) (zB .i64 ((a1.length:N) - (1:N)))).bind fun r5=>
 if r5 then(
  (AK a2.Segment (0:N) (zB .i64 ((a0.Segments.length:N) - (1:N)))).bind fun r7=>
  if r7 then(
  (AK a2.Start (0:N) (2880:N)).bind fun r9=>
  if r9 then(
   (ix a1 a2.Ship).bind fun x11=>
   (Kd a0 a2.Segment x11).bind fun r12=>
   if(a2.End==(zB .i64 (a2.Start+r12))) then(
   E (decide (a2.End≤(2880:N))))
   else(
   E F))
  else(
   E F))
  else(
  E F))
 else(
  E F))
 else(
 E F)) else(
 E F)
/- spec_l08Ends -/
def Fb(a0:X6)(a1:X1):L (N × N):= (ix a0.Segments a1.Segment).bind fun x1=> if a1.Toward then(
 E (x1.A,x1.B)) else(
 E (x1.B,x1.A))
/- spec_l14Tugs -/
def Gg(a1:H X5)(r7:N × N)(a2:H X1)(v1:N)(a0:X6)(x4:X1)(Od:N→(H X8)→L ((H X8) × O)):P→N→(H X8)→L ((H X8) × O)
| 0,_,_=>G
| n+1,v8,v9=>
 (ix a1 x4.Ship).bind fun x10=>
 if(decide (v8<x10.Tugs)) then(
 if AP v9.length ([(⟨x4.Start,x4.End,r7.1,r7.2⟩:X8)]:H X8).length 32 then(
  Gg a1 r7 a2 v1 a0 x4 Od n (zB .i64 (v8+(1:N))) (v9++([(⟨x4.Start,x4.End,r7.1,r7.2⟩:X8)]:H X8)))
 else G)
 else(
 if(decide ((12:N)<(v9.length:N))) then(
  E (([]:H X8),F))
 else(
  Od (zB .i64 (v1+(1:N))) v9))
def Fe(a1:H X5)(a2:H X1)(a0:X6):P→N→(H X8)→L ((H X8) × O)
| 0,_,_=>G
| n+1,v1,v2=>
 if(decide (v1<(a2.length:N))) then(
 (ix a2 v1).bind fun x4=>
 (Kg a0 a1 x4).bind fun r5=>
 if r5 then(
  (Fb a0 x4).bind fun r7=>
  Gg a1 r7 a2 v1 a0 x4 (Fe a1 a2 a0 n) bigN (0:N) v2)
 else(
  E (([]:H X8),F)))
 else(
 E (v2,T))
def Sm(a0:X6)(a1:H X5)(a2:H X1):L ((H X8) × O):= Fe a1 a2 a0 bigN (0:N) ([]:H X8)
/- spec_l13Duty -/
def IB(a0:X8):L O:= (AK a0.From (0:N) (2880:N)).bind fun r1=> if r1 then(
 if(decide (a0.From<a0.To)) then(
 if(decide (a0.To≤(2880:N))) then(
  (AK a0.A (0:N) (7:N)).bind fun r5=>
  if r5 then(
  (AK a0.B (0:N) (7:N)).bind fun r7=>
  E r7)
  else(
  E F))
 else(
  E F))
 else(
 E F)) else(
 E F)
/- spec_DutiesOk -/
def Ia(a0:H X8):P→N→L O
| 0,_=>G
| n+1,v2=>
 if(decide (v2<(a0.length:N))) then(
 (ix a0 v2).bind fun x4=>
 (IB x4).bind fun r5=>
 if r5 then(
  Ia a0 n (zB .i64 (v2+(1:N))))
 else(
  E F))
 else(
 E T)
def Nm(a0:H X8):L O:= if(decide ((12:N)<(a0.length:N))) then(
 E F) else(
 Ia a0 bigN (0:N))
/- spec_Gap -/
def K9(a0:N)(a1:H N)(a2 a3:X8)(v6:O):L (N × O):= if v6 then(
 E ((0:N),F)) else(
 (ix a1 (zB .i64 ((zB .i64 (a2.B*(8:N)))+a3.A))).bind fun x8=>
 E ((zB .i64 (a0+x8)),T))
def Se(a0:N)(a1:H N)(a2 a3:X8):L (N × O):= (Ge a0 a1).bind fun r1=> if r1 then(
 (AK a2.B (0:N) (7:N)).bind fun r3=>
 if r3 then(
 (AK a3.A (0:N) (7:N)).bind fun r5=>
 K9 a0 a1 a2 a3 (!r5))
 else(
 K9 a0 a1 a2 a3 T)) else(
 K9 a0 a1 a2 a3 T)
/- spec_CanFollow -/
def K6(a0:N)(a1:H N)(a2 a3:X8):L O:= (Se a0 a1 a2 a3).bind fun r1=> if r1.2 then(
 (IB a2).bind fun r3=>
 if r3 then(
 (IB a3).bind fun r5=>
 if r5 then(
  E (decide ((zB .i64 (a2.To+r1.1))≤a3.From)))
 else(
  E F))
 else(
 E F)) else(
 E F)
/- spec_l13Both -/
def Gc(a0:N)(a1:H N)(a2:H X8)(v1:N)(x4:X8)(v2:H (H O))(KC:N→(H (H O))→L (H (H O))):P→N→(H O)→L (H (H O))
| 0,_,_=>G
| n+1,v5,v6=>
 if(decide (v5<(a2.length:N))) then(
 (ix a2 v5).bind fun x8=>
 (K6 a0 a1 x4 x8).bind fun r9=>
 if r9 then(
  if AP v6.length ([T]:H O).length 1 then(
  Gc a0 a1 a2 v1 x4 v2 KC n (zB .i64 (v5+(1:N))) (v6++([T]:H O)))
  else G)
 else(
  (K6 a0 a1 x8 x4).bind fun r12=>
  if AP v6.length ([r12]:H O).length 1 then(
  Gc a0 a1 a2 v1 x4 v2 KC n (zB .i64 (v5+(1:N))) (v6++([r12]:H O)))
  else G))
 else(
 if AP v2.length ([v6]:H (H O)).length 24 then(
  KC (zB .i64 (v1+(1:N))) (v2++([v6]:H (H O))))
 else G)
def Fc(a0:N)(a1:H N)(a2:H X8):P→N→(H (H O))→L (H (H O))
| 0,_,_=>G
| n+1,v1,v2=>
 if(decide (v1<(a2.length:N))) then(
 (ix a2 v1).bind fun x4=>
 Gc a0 a1 a2 v1 x4 v2 (Fc a0 a1 a2 n) bigN (0:N) ([]:H O))
 else(
 E v2)
def NR(a0:N)(a1:H N)(a2:H X8):L (H (H O)):= Fc a0 a1 a2 bigN (0:N) ([]:H (H O))
/- spec_l13Search -/
def Km(rec_:(H (H O))→(H N)→N→L ((H N) × O))(a0:H (H O))(a1:H N)(a2 v2 v6:N)(Dh:N→L ((H N) × O)):L ((H N) × O):= Dh (zB .i64 (v6+(1:N)))
def Dt(rec_:(H (H O))→(H N)→N→L ((H N) × O))(a0:H (H O))(a1:H N)(a2 v2 v6:N)(Dh:N→L ((H N) × O)):P→O→N→L ((H N) × O)
| 0,_,_=>G
| n+1,v9,v10=>
 if(decide (v10<(a1.length:N))) then(
 (ix a1 v10).bind fun x12=>
 if(x12==v6) then(
  (ix a0 (a1.length:N)).bind fun x14=>
  (ix x14 v10).bind fun x15=>
  if x15 then(
  Dt rec_ a0 a1 a2 v2 v6 Dh n v9 (zB .i64 (v10+(1:N))))
  else(
  Dt rec_ a0 a1 a2 v2 v6 Dh n F (zB .i64 (v10+(1:N)))))
 else(
  Dt rec_ a0 a1 a2 v2 v6 Dh n v9 (zB .i64 (v10+(1:N)))))
 else(
 if v9 then(
  if AP ([]:H N).length a1.length 8 then(
  if AP a1.length ([v6]:H N).length 8 then(
   (rec_ a0 (a1++([v6]:H N)) a2).bind fun r20=>
   if r20.2 then(
   E (r20.1,T))
   else(
   Km rec_ a0 a1 a2 v2 v6 Dh))
  else G)
  else G)
 else(
  Km rec_ a0 a1 a2 v2 v6 Dh))
def DQ(rec_:(H (H O))→(H N)→N→L ((H N) × O))(a0:H (H O))(a1:H N)(a2 v2:N):P→N→L ((H N) × O)
| 0,_=>G
| n+1,v6=>
 if(decide (v6≤v2)) then(
 if(decide (v6<a2)) then(
  Dt rec_ a0 a1 a2 v2 v6 (DQ rec_ a0 a1 a2 v2 n) bigN T (0:N))
 else(
  E (([]:H N),F)))
 else(
 E (([]:H N),F))
def Gd(rec_:(H (H O))→(H N)→N→L ((H N) × O))(a0:H (H O))(a1:H N)(a2:N):P→N→N→L ((H N) × O)
| 0,_,_=>G
| n+1,v2,v3=>
 if(decide (v3<(a1.length:N))) then(
 (ix a1 v3).bind fun x5=>
 Gd rec_ a0 a1 a2 n (if v2<(zB .i64 (x5+(1:N))) then(zB .i64 (x5+(1:N))) else v2) (zB .i64 (v3+(1:N))))
 else(
 DQ rec_ a0 a1 a2 v2 bigN (0:N))
def NS(rec_:(H (H O))→(H N)→N→L ((H N) × O))(a0:H (H O))(a1:H N)(a2:N):L ((H N) × O):= if((a1.length:N)==(a0.length:N)) then(
 E (a1,T)) else(
 Gd rec_ a0 a1 a2 bigN (0:N) (0:N))
def Cz:P→(H (H O))→(H N)→N→L ((H N) × O)
| 0,_,_,_=>G
| n+1,a0,a1,a2=>NS (Cz n) a0 a1 a2
def Sl(a0:H (H O))(a1:H N)(a2:N):L ((H N) × O):=Cz bigN a0 a1 a2
/- spec_LeastCover -/
def Ih(a2:H X8)(r6:(H (H O))):P→N→L ((H N) × N × O)
| 0,_=>G
| n+1,v7=>
 if(decide (v7≤(a2.length:N))) then(
 (Sl r6 ([]:H N) v7).bind fun r9=>
 if r9.2 then(
  E (r9.1,v7,T))
 else(
  Ih a2 r6 n (zB .i64 (v7+(1:N)))))
 else(
 E (([]:H N),(0:N),F))
def Nt(a0:N)(a1:H N)(a2:H X8)(v4:O):L ((H N) × N × O):= if v4 then(
 E (([]:H N),(0:N),F)) else(
 (NR a0 a1 a2).bind fun r6=>
 Ih a2 r6 bigN (0:N))
def Ig(a0:N)(a1:H N)(a2:H X8):L ((H N) × N × O):= (Nm a2).bind fun r1=> if r1 then(
 (Ge a0 a1).bind fun r3=>
 Nt a0 a1 a2 (!r3)) else(
 Nt a0 a1 a2 T)
/- spec_TugsNeeded -/
def Kh(a0:Xk)(a1:X6)(a2:H X5)(a3:H X1):L N:= (Sm a1 a2 a3).bind fun r1=> (I8 a0).bind fun r2=> if r2 then(
 if r1.2 then(
 (Ig (0:N) a0.Moves r1.1).bind fun r5=>
 if r5.2.2 then(
  E r5.2.1)
 else(
  E (-1:N)))
 else(
 E (-1:N))) else(
 E (-1:N))
/- spec_IsChain -/
def G2(a1:H X1)(a0:X6):P→N→L O
| 0,_=>G
| n+1,v3=>
 if(decide (v3<(a1.length:N))) then(
 (ix a1 v3).bind fun x5=>
 (ix a1 (0:N)).bind fun x6=>
 if(x5.Ship !=x6.Ship) then(
  E F)
 else(
  (AK x5.Segment (0:N) (zB .i64 ((a0.Segments.length:N) - (1:N)))).bind fun r9=>
  if r9 then(
  if(v3==(0:N)) then(
   G2 a1 a0 n (zB .i64 (v3+(1:N))))
  else(
   (Fb a0 x5).bind fun r12=>
   (ix a1 (zB .i64 (v3 - (1:N)))).bind fun x13=>
   (Fb a0 x13).bind fun r14=>
   if(r12.1 !=r14.2) then(
   E F)
   else(
   if(decide (x5.Start<x13.End)) then(
    E F)
   else(
    G2 a1 a0 n (zB .i64 (v3+(1:N)))))))
  else(
  E F)))
 else(
 E T)
def Np(a0:X6)(a1:H X1):L O:= (Dr a0).bind fun r1=> if r1 then(
 G2 a1 a0 bigN (0:N)) else(
 E F)
/- spec_PilotDuty -/
def Ik(a1:H X5)(a2:H X1)(a0:X6):P→N→L (X8 × O)
| 0,_=>G
| n+1,v5=>
 if(decide (v5<(a2.length:N))) then(
 (ix a2 v5).bind fun x7=>
 (Kg a0 a1 x7).bind fun r9=>
 if r9 then(
  Ik a1 a2 a0 n (zB .i64 (v5+(1:N))))
 else(
  E ((⟨(0:N),(0:N),(0:N),(0:N)⟩:X8),F)))
 else(
 (ix a2 (zB .i64 ((a2.length:N) - (1:N)))).bind fun x11=>
 (ix a2 (0:N)).bind fun x12=>
 (Fb a0 x12).bind fun r13=>
 (Fb a0 x11).bind fun r14=>
 E ((⟨x12.Start,x11.End,r13.1,r14.2⟩:X8),T))
def Nz(a1:H X5)(a2:H X1)(a0:X6)(v3:O):L (X8 × O):= if v3 then(
 E ((⟨(0:N),(0:N),(0:N),(0:N)⟩:X8),F)) else(
 Ik a1 a2 a0 bigN (0:N))
def Ny(a0:X6)(a1:H X5)(a2:H X1):L (X8 × O):= if((a2.length:N)==(0:N)) then(
 Nz a1 a2 a0 T) else(
 (Np a0 a2).bind fun r2=>
 Nz a1 a2 a0 (!r2))
/- spec_PilotsNeeded -/
def G6(a2:H X5)(a3:H (H X1))(a0:Xk)(a1:X6):P→N→(H X8)→L N
| 0,_,_=>G
| n+1,v3,v4=>
 if(decide (v3<(a3.length:N))) then(
 (ix a3 v3).bind fun x6=>
 if((x6.length:N)==(0:N)) then(
  G6 a2 a3 a0 a1 n (zB .i64 (v3+(1:N))) v4)
 else(
  (Ny a1 a2 x6).bind fun r9=>
  if r9.2 then(
  if AP v4.length ([r9.1]:H X8).length 32 then(
   G6 a2 a3 a0 a1 n (zB .i64 (v3+(1:N))) (v4++([r9.1]:H X8)))
  else G)
  else(
  E (-1:N))))
 else(
 (Ig a0.Rest a0.Moves v4).bind fun r12=>
 if r12.2.2 then(
  E r12.2.1)
 else(
  E (-1:N)))
def NA(a0:Xk)(a1:X6)(a2:H X5)(a3:H (H X1)):L N:= (I8 a0).bind fun r1=> if r1 then(
 G6 a2 a3 a0 a1 bigN (0:N) ([]:H X8)) else(
 E (-1:N))
/- spec_CrewSuffices -/
def I9(a2:H X5)(a3:H (H X1))(a0:Xk)(a1:X6):P→N→(H X1)→L O
| 0,_,_=>G
| n+1,v1,v2=>
 if(decide (v1<(a3.length:N))) then(
 (ix a3 v1).bind fun x4=>
 if AP v2.length x4.length 40 then(
  I9 a2 a3 a0 a1 n (zB .i64 (v1+(1:N))) (v2++x4))
 else G)
 else(
 (Kh a0 a1 a2 v2).bind fun r6=>
 (AK r6 (0:N) a0.Tugs).bind fun r7=>
 if r7 then(
  (NA a0 a1 a2 a3).bind fun r9=>
  (AK r9 (0:N) a0.Pilots).bind fun r10=>
  E r10)
 else(
  E F))
def Sd(a0:Xk)(a1:X6)(a2:H X5)(a3:H (H X1)):L O:= I9 a2 a3 a0 a1 bigN (0:N) ([]:H X1)
/- spec_l16Fit -/
def IC(a1:H X2)(v1:N)(a0:X7)(x3:X2)(y5:H X2)(y6:N)(Oe:N→L O):P→N→L O
| 0,_=>G
| n+1,v7=>
 if(decide (v7<y6)) then(
 (ix y5 v7).bind fun x9=>
 (Nk a0.Chart a0.Regime x3.Passages x9.Passages).bind fun r10=>
 if r10 then(
  E F)
 else(
  IC a1 v1 a0 x3 y5 y6 Oe n (zB .i64 (v7+(1:N)))))
 else(
 Oe (zB .i64 (v1+(1:N))))
def Ff(a1:H X2)(a0:X7):P→N→L O
| 0,_=>G
| n+1,v1=>
 if(decide (v1<(a1.length:N))) then(
 (ix a1 v1).bind fun x3=>
 (bnd (a1.length:N) v1 (0:N) a1.length).bind fun p4=>
 IC a1 v1 a0 x3 ((a1.drop p4.1).take (p4.2 - p4.1)) (((a1.drop p4.1).take (p4.2 - p4.1)).length:N) (Ff a1 a0 n) bigN (0:N))
 else(
 (Nj a1).bind fun r12=>
 (Sd a0.Crew a0.Chart a0.Fleet r12).bind fun r13=>
 E r13)
def Sp(a0:X7)(a1:H X2):L O:= Ff a1 a0 bigN (0:N)
/- spec_IsPlan -/
def G4(a1:H Xa)(a2:H X2)(a0:X7):P→N→L O
| 0,_=>G
| n+1,v4=>
 if(decide (v4<(a2.length:N))) then(
 (ix a2 v4).bind fun x6=>
 (ix a1 v4).bind fun x7=>
 (Kc a0 x7 x6).bind fun r9=>
 if r9 then(
  G4 a1 a2 a0 n (zB .i64 (v4+(1:N))))
 else(
  E F))
 else(
 (Sp a0 a2).bind fun r11=>
 E r11)
def Ns(a0:X7)(a1:H Xa)(a2:H X2):L O:= (Ni a0 a1).bind fun r1=> if r1 then(
 if((a2.length:N) !=(a1.length:N)) then(
 E F)
 else(
 G4 a1 a2 a0 bigN (0:N))) else(
 E F)
/- spec_l21Account -/
def ID(a2:H X2)(a1:H Xa)(a0:X7):P→N→(H N)→(H N)→L Xh
| 0,_,_,_=>G
| n+1,v3,v4,v5=>
 if(decide (v3<(a1.length:N))) then(
 (ix a1 v3).bind fun x7=>
 (ix a0.Fleet x7.Ship).bind fun x8=>
 (ix v4 x8.Line).bind fun x9=>
 (ix a2 v3).bind fun x10=>
 (ix v5 x8.Line).bind fun x11=>
 ID a2 a1 a0 n (zB .i64 (v3+(1:N))) (v4.set (U x8.Line) (zB .i64 (x9+x10.Cost))) (v5.set (U x8.Line) (zB .i64 (x11+(1:N)))))
 else(
 E (⟨v4,v5⟩:Xh))
def NT(a0:X7)(a1:H Xa)(a2:H X2):L Xh:= (BH (4:N) (4:N) 8).bind fun n1=> (BH (4:N) (4:N) 8).bind fun n2=> ID a2 a1 a0 bigN (0:N) (Z n1 (0:N)) (Z n2 (0:N))
/- spec_AccountOf -/
def Ng(a0:X7)(a1:H Xa)(a2:H X2):L (Xh × O):= (Ns a0 a1 a2).bind fun r1=> if r1 then(
 (NT a0 a1 a2).bind fun r3=>
 E (r3,T)) else(
 E ((⟨([]:H N),([]:H N)⟩:Xh),F))
/- impl_within -/
def BP(a0 a1 a2:N):L O:= if(decide (a1≤a0)) then(
 E (decide (a0≤a2))) else(
 E F)
/- impl_isPeriod -/
def JK(a0:N):L O:= (BP a0 (4:N) (2880:N)).bind fun r1=> if r1 then(
 E ((zB .i64 (I a0 (4:N)))==(0:N))) else(
 E F)
/- impl_PartOk -/
def M4(a0:Xd):L O:= (BP a0.Amp (0:N) (1000:N)).bind fun r1=> if r1 then(
 (JK a0.Period).bind fun r3=>
 if r3 then(
 (BP a0.Phase (0:N) (zB .i64 (a0.Period - (1:N)))).bind fun r5=>
 E r5)
 else(
 E F)) else(
 E F)
/- impl_TideOk -/
def Hh(a0:Xj):P→N→L O
| 0,_=>G
| n+1,v4=>
 if(decide (v4<(a0.Parts.length:N))) then(
 (ix a0.Parts v4).bind fun x6=>
 (M4 x6).bind fun r7=>
 if r7 then(
  Hh a0 n (zB .i64 (v4+(1:N))))
 else(
  E F))
 else(
 E T)
def Me(a0:Xj):L O:= (BP a0.Mean (-1000:N) (1000:N)).bind fun r1=> if r1 then(
 if(decide ((4:N)<(a0.Parts.length:N))) then(
 E F)
 else(
 Hh a0 bigN (0:N))) else(
 E F)
/- impl_isMinute -/
def D1(a0:N):L O:= (BP a0 (0:N) (2880:N)).bind fun r1=> E r1
/- impl_SurgeOk -/
def Md(a0:Xb):L O:= (D1 a0.From).bind fun r1=> if r1 then(
 if(decide ((-500:N)≤a0.Low)) then(
 if(decide (a0.Low≤a0.High)) then(
  E (decide (a0.High≤(500:N))))
 else(
  E F))
 else(
 E F)) else(
 E F)
/- impl_ForecastOk -/
def FJ(a0:Xc):P→N→L O
| 0,_=>G
| n+1,v7=>
 if(decide (v7<(a0.Surges.length:N))) then(
 (ix a0.Surges v7).bind fun x9=>
 (Md x9).bind fun r10=>
 if r10 then(
  if(decide ((0:N)<v7)) then(
  (ix a0.Surges (zB .i64 (v7 - (1:N)))).bind fun x13=>
  if(decide (x9.From≤x13.From)) then(
   E F)
  else(
   FJ a0 n (zB .i64 (v7+(1:N)))))
  else(
  FJ a0 n (zB .i64 (v7+(1:N)))))
 else(
  E F))
 else(
 E T)
def FI(a0:Xc):L O:= (Me a0.Tide).bind fun r1=> if r1 then(
 (BP (a0.Surges.length:N) (1:N) (6:N)).bind fun r3=>
 if r3 then(
 (ix a0.Surges (0:N)).bind fun x5=>
 if(x5.From !=(0:N)) then(
  E F)
 else(
  FJ a0 bigN (0:N)))
 else(
 E F)) else(
 E F)
/- impl_IsName -/
def LW(a0:H Q)(v3:N)(En:N→L O):L O:= En (zB .i64 (v3+(1:N)))
def LV(a0:H Q)(v3:N)(En:N→L O)(v7:O):L O:= if v7 then(
 LW a0 v3 En) else(
 if(v3==(0:N)) then(
 E F)
 else(
 (ix a0 v3).bind fun b10=>
 if(decide ((b10.toNat:N)<(48:N))) then(
  E F)
 else(
  if(decide ((57:N)<(b10.toNat:N))) then(
  E F)
  else(
  LW a0 v3 En))))
def FL(a0:H Q):P→N→L O
| 0,_=>G
| n+1,v3=>
 if(decide (v3<(a0.length:N))) then(
 (ix a0 v3).bind fun b5=>
 if(decide ((97:N)≤(b5.toNat:N))) then(
  LV a0 v3 (FL a0 n) (decide ((b5.toNat:N)≤(122:N))))
 else(
  LV a0 v3 (FL a0 n) F))
 else(
 E T)
def JC(a0:H Q):L O:= (BP (a0.length:N) (1:N) (8:N)).bind fun r1=> if r1 then(
 FL a0 bigN (0:N)) else(
 E F)
/- impl_PointNamed -/
def Hd(a1:H Q)(a0:X6):P→N→L N
| 0,_=>G
| n+1,v1=>
 if(decide (v1<(a0.Points.length:N))) then(
 (ix a0.Points v1).bind fun x3=>
 if(x3.Name==a1) then(
  E v1)
 else(
  Hd a1 a0 n (zB .i64 (v1+(1:N)))))
 else(
 E (-1:N))
def M7(a0:X6)(a1:H Q):L N:= Hd a1 a0 bigN (0:N)
/- impl_isIndex -/
def BO(a0 a1:N):L O:= if(decide ((0:N)≤a0)) then(
 E (decide (a0<a1))) else(
 E F)
/- impl_Segment_joins -/
def Ma(a0:X3)(a1 a2:N):L O:= if(a0.A==a1) then(
 if(a0.B==a2) then(
 E T)
 else(
 if(a0.A==a2) then(
  E (a0.B==a1))
 else(
  E F))) else(
 if(a0.A==a2) then(
 E (a0.B==a1))
 else(
 E F))
/- impl_ChartOk -/
def H1(a0:X6)(v11:N)(x13:X3)(y24:H X3)(y25:N)(O5:N→L O):P→N→L O
| 0,_=>G
| n+1,v26=>
 if(decide (v26<y25)) then(
 (ix y24 v26).bind fun x28=>
 (Ma x28 x13.A x13.B).bind fun r29=>
 if r29 then(
  E F)
 else(
  H1 a0 v11 x13 y24 y25 O5 n (zB .i64 (v26+(1:N)))))
 else(
 O5 (zB .i64 (v11+(1:N))))
def E9(a0:X6):P→N→L O
| 0,_=>G
| n+1,v11=>
 if(decide (v11<(a0.Segments.length:N))) then(
 (ix a0.Segments v11).bind fun x13=>
 (BO x13.A (a0.Points.length:N)).bind fun r14=>
 if r14 then(
  (BO x13.B (a0.Points.length:N)).bind fun r16=>
  if r16 then(
  if(x13.A==x13.B) then(
   E F)
  else(
   (BP x13.Depth (0:N) (3000:N)).bind fun r19=>
   if r19 then(
   (BP x13.Minutes (1:N) (240:N)).bind fun r21=>
   if r21 then(
    (bnd (a0.Segments.length:N) v11 (0:N) a0.Segments.length).bind fun p23=>
    H1 a0 v11 x13 ((a0.Segments.drop p23.1).take (p23.2 - p23.1)) (((a0.Segments.drop p23.1).take (p23.2 - p23.1)).length:N) (E9 a0 n) bigN (0:N))
   else(
    E F))
   else(
   E F)))
  else(
  E F))
 else(
  E F))
 else(
 E T)
def H0(a0:X6):P→N→L O
| 0,_=>G
| n+1,v3=>
 if(decide (v3<(a0.Points.length:N))) then(
 (ix a0.Points v3).bind fun x5=>
 (JC x5.Name).bind fun r6=>
 if r6 then(
  (M7 a0 x5.Name).bind fun r9=>
  if(r9 !=v3) then(
  E F)
  else(
  H0 a0 n (zB .i64 (v3+(1:N)))))
 else(
  E F))
 else(
 E9 a0 bigN (0:N))
def DN(a0:X6):L O:= if(decide ((8:N)<(a0.Points.length:N))) then(
 E F) else(
 if(decide ((10:N)<(a0.Segments.length:N))) then(
 E F)
 else(
 H0 a0 bigN (0:N)))
/- impl_ShipOk -/
def Ea(a0:X5):L O:= (JC a0.Name).bind fun r1=> if r1 then(
 (BP a0.Length (10:N) (400:N)).bind fun r3=>
 if r3 then(
 (BP a0.Draught (100:N) (2000:N)).bind fun r5=>
 if r5 then(
  (BO a0.Line (4:N)).bind fun r7=>
  if r7 then(
  (BP a0.Tugs (0:N) (4:N)).bind fun r9=>
  E r9)
  else(
  E F))
 else(
  E F))
 else(
 E F)) else(
 E F)
/- impl_ShipNamed -/
def Hg(a1:H Q)(a0:H X5):P→N→L N
| 0,_=>G
| n+1,v1=>
 if(decide (v1<(a0.length:N))) then(
 (ix a0 v1).bind fun x3=>
 if(x3.Name==a1) then(
  E v1)
 else(
  Hg a1 a0 n (zB .i64 (v1+(1:N)))))
 else(
 E (-1:N))
def Mb(a0:H X5)(a1:H Q):L N:= Hg a1 a0 bigN (0:N)
/- impl_FleetOk -/
def H6(a0:H X5):P→N→L O
| 0,_=>G
| n+1,v2=>
 if(decide (v2<(a0.length:N))) then(
 (ix a0 v2).bind fun x4=>
 (Ea x4).bind fun r5=>
 if r5 then(
  (Mb a0 x4.Name).bind fun r7=>
  if(r7 !=v2) then(
  E F)
  else(
  H6 a0 n (zB .i64 (v2+(1:N)))))
 else(
  E F))
 else(
 E T)
def JA(a0:H X5):L O:= if(decide ((6:N)<(a0.length:N))) then(
 E F) else(
 H6 a0 bigN (0:N))
/- impl_RegimeOk -/
def RF(a0:Xg):L O:= (BP a0.Gap (0:N) (60:N)).bind fun r1=> E r1
/- impl_movesOk -/
def Fsz(a0:H N):P→N→L O
| 0,_=>G
| n+1,v2=>
 if(decide (v2<(a0.length:N))) then(
 (ix a0 v2).bind fun x4=>
 (BP x4 (0:N) (240:N)).bind fun r5=>
 if r5 then(
  Fsz a0 n (zB .i64 (v2+(1:N))))
 else(
  E F))
 else(
 E T)
def FR(a0:H N):L O:= if((a0.length:N) !=(64:N)) then(
 E F) else(
 Fsz a0 bigN (0:N))
/- impl_CrewOk -/
def LQ(a0:Xk):L O:= (BP a0.Tugs (0:N) (12:N)).bind fun r1=> if r1 then(
 (BP a0.Pilots (0:N) (12:N)).bind fun r3=>
 if r3 then(
 (D1 a0.Rest).bind fun r5=>
 if r5 then(
  (FR a0.Moves).bind fun r7=>
  E r7)
 else(
  E F))
 else(
 E F)) else(
 E F)
/- impl_HarbourOk -/
def JB(a0:X7):L O:= (FI a0.Forecast).bind fun r1=> if r1 then(
 (DN a0.Chart).bind fun r3=>
 if r3 then(
 (JA a0.Fleet).bind fun r5=>
 if r5 then(
  (RF a0.Regime).bind fun r7=>
  if r7 then(
  (LQ a0.Crew).bind fun r9=>
  E r9)
  else(
  E F))
 else(
  E F))
 else(
 E F)) else(
 E F)
/- impl_callOk -/
def JH(a0:X7)(a1:Xa):L O:= (BO a1.Ship (a0.Fleet.length:N)).bind fun r1=> if r1 then(
 (BO a1.From (a0.Chart.Points.length:N)).bind fun r3=>
 if r3 then(
 (BO a1.To (a0.Chart.Points.length:N)).bind fun r5=>
 if r5 then(
  if(a1.From !=a1.To) then(
  (D1 a1.Ready).bind fun r9=>
  if r9 then(
   (BP a1.Due a1.Ready (2880:N)).bind fun r11=>
   E r11)
  else(
   E F))
  else(
  E F))
 else(
  E F))
 else(
 E F)) else(
 E F)
/- impl_CallsOk -/
def EP(a1:H Xa)(v4:N)(a0:X7)(x6:Xa)(y10:H Xa)(y11:N)(O4:N→L O):P→N→L O
| 0,_=>G
| n+1,v12=>
 if(decide (v12<y11)) then(
 (ix y10 v12).bind fun x14=>
 if(x14.Ship==x6.Ship) then(
  E F)
 else(
  EP a1 v4 a0 x6 y10 y11 O4 n (zB .i64 (v12+(1:N)))))
 else(
 O4 (zB .i64 (v4+(1:N))))
def DM(a1:H Xa)(a0:X7):P→N→L O
| 0,_=>G
| n+1,v4=>
 if(decide (v4<(a1.length:N))) then(
 (ix a1 v4).bind fun x6=>
 (JH a0 x6).bind fun r7=>
 if r7 then(
  (bnd (a1.length:N) v4 (0:N) a1.length).bind fun p9=>
  EP a1 v4 a0 x6 ((a1.drop p9.1).take (p9.2 - p9.1)) (((a1.drop p9.1).take (p9.2 - p9.1)).length:N) (DM a1 a0 n) bigN (0:N))
 else(
  E F))
 else(
 E T)
def LP(a0:X7)(a1:H Xa):L O:= (JB a0).bind fun r1=> if r1 then(
 if(decide ((6:N)<(a1.length:N))) then(
 E F)
 else(
 DM a1 a0 bigN (0:N))) else(
 E F)
/- impl_CallOk -/
def LO(a0:X7)(a1:Xa):L O:= (JB a0).bind fun r1=> if r1 then(
 (JH a0 a1).bind fun r3=>
 E r3) else(
 E F)
/- impl_Segment_end -/
def M9(a0:X3)(a1:N):L N:= if(a1==a0.A) then(
 E a0.B) else(
 if(a1==a0.B) then(
 E a0.A)
 else(
 E (-1:N)))
/- impl_Chart_points -/
def H3(r14:N)(a2:H N)(v6:N)(a0:X6)(v7:Xe)(v8:H N)(SH:N→N→Xe→(H N)→L ((H N) × O))(v19:O):L ((H N) × O):= if v19 then(
 E (([]:H N),F)) else(
 if decide ((0:N)≤r14)&&decide (r14<(8:N)) then(
 if AP v8.length ([r14]:H N).length 8 then(
  SH r14 (zB .i64 (v6+(1:N))) (⟨((Xe.set v7 (U r14) T)).i0,((Xe.set v7 (U r14) T)).i1,((Xe.set v7 (U r14) T)).i2,((Xe.set v7 (U r14) T)).i3,((Xe.set v7 (U r14) T)).i4,((Xe.set v7 (U r14) T)).i5,((Xe.set v7 (U r14) T)).i6,((Xe.set v7 (U r14) T)).i7⟩:Xe) (v8++([r14]:H N)))
 else G)
 else G)
def FH(a2:H N)(a0:X6):P→N→N→Xe→(H N)→L ((H N) × O)
| 0,_,_,_,_=>G
| n+1,v5,v6,v7,v8=>
 if(decide (v6<(a2.length:N))) then(
 (ix a2 v6).bind fun x10=>
 (BO x10 (a0.Segments.length:N)).bind fun r11=>
 if r11 then(
  (ix a0.Segments x10).bind fun x13=>
  (M9 x13 v5).bind fun r14=>
  if(decide (r14<(0:N))) then(
  H3 r14 a2 v6 a0 v7 v8 (FH a2 a0 n) T)
  else(
  if decide ((0:N)≤r14)&&decide (r14<(8:N)) then(
   (ix ([v7.i0,v7.i1,v7.i2,v7.i3,v7.i4,v7.i5,v7.i6,v7.i7]:H O) r14).bind fun x17=>
   H3 r14 a2 v6 a0 v7 v8 (FH a2 a0 n) x17)
  else G))
 else(
  E (([]:H N),F)))
 else(
 E (v8,T))
def H2(a0:X6)(a1:N)(a2:H N):L ((H N) × O):= (BO a1 (a0.Points.length:N)).bind fun r1=> if r1 then(
 if decide ((0:N)≤a1)&&decide (a1<(8:N)) then(
 FH a2 a0 bigN a1 (0:N) (⟨((Xe.set (⟨F,F,F,F,F,F,F,F⟩:Xe) (U a1) T)).i0,((Xe.set (⟨F,F,F,F,F,F,F,F⟩:Xe) (U a1) T)).i1,((Xe.set (⟨F,F,F,F,F,F,F,F⟩:Xe) (U a1) T)).i2,((Xe.set (⟨F,F,F,F,F,F,F,F⟩:Xe) (U a1) T)).i3,((Xe.set (⟨F,F,F,F,F,F,F,F⟩:Xe) (U a1) T)).i4,((Xe.set (⟨F,F,F,F,F,F,F,F⟩:Xe) (U a1) T)).i5,((Xe.set (⟨F,F,F,F,F,F,F,F⟩:Xe) (U a1) T)).i6,((Xe.set (⟨F,F,F,F,F,F,F,F⟩:Xe) (U a1) T)).i7⟩:Xe) ([a1]:H N))
 else G) else(
 E (([]:H N),F))
/- impl_RoutePoints -/
def ER(a0:X6)(a1:N)(a2:H N):L (H N):= (DN a0).bind fun r1=> if r1 then(
 (H2 a0 a1 a2).bind fun r3=>
 E r3.1) else(
 E ([]:H N))
/- impl_RouteOk -/
def FN(a0:X6)(a1:N)(a2:H N):L O:= (DN a0).bind fun r1=> if r1 then(
 (H2 a0 a1 a2).bind fun r3=>
 E r3.2) else(
 E F)
/- impl_Ship_minutes -/
def ES(a0:X5)(a1:X3):L N:= if a0.Slow then(
 E (zB .i64 ((2:N)*a1.Minutes))) else(
 E a1.Minutes)
/- impl_onSegment -/
def Hv(a0:X6)(a1:N)(a2:X5):L O:= (DN a0).bind fun r1=> if r1 then(
 (Ea a2).bind fun r3=>
 if r3 then(
 (BO a1 (a0.Segments.length:N)).bind fun r5=>
 E r5)
 else(
 E F)) else(
 E F)
/- impl_Ship_squat -/
def RH(a0:X5):L N:= if a0.Slow then(
 E (zB .i64 (X a0.Draught (50:N)))) else(
 E (zB .i64 (X a0.Draught (20:N))))
/- impl_Ship_need -/
def RG(a0:X5):L N:= (RH a0).bind fun r1=> E (zB .i64 ((zB .i64 (a0.Draught+r1))+(50:N)))
/- impl_LevelFor -/
def LZ(a0:X6)(a1:N)(a2:X5):L N:= (Hv a0 a1 a2).bind fun r1=> if r1 then(
 (RG a2).bind fun r3=>
 (ix a0.Segments a1).bind fun x4=>
 E (zB .i64 (r3 - x4.Depth))) else(
 E (0:N))
/- impl_windowsOf -/
def HB(a0:N→L O)(v2:N)(Fi:O→N→(H X4)→L (H X4))(v11:O)(v12:H X4):L (H X4):= Fi v11 (zB .i64 (v2+(1:N))) v12
def JO(a0:N→L O)(v2:N)(Fi:O→N→(H X4)→L (H X4))(v9:H X4):L (H X4):= (ix v9 (zB .i64 ((v9.length:N) - (1:N)))).bind fun x10=> HB a0 v2 Fi T (v9.set (U (zB .i64 ((v9.length:N) - (1:N)))) (⟨x10.From,v2⟩:X4))
def EZ(a0:N→L O):P→O→N→(H X4)→L (H X4)
| 0,_,_,_=>G
| n+1,v1,v2,v3=>
 if(decide (v2≤(2880:N))) then(
 (a0 v2).bind fun r5=>
 if r5 then(
  if v1 then(
  JO a0 v2 (EZ a0 n) v3)
  else(
  if AP v3.length ([(⟨v2,(0:N)⟩:X4)]:H X4).length 16 then(
   JO a0 v2 (EZ a0 n) (v3++([(⟨v2,(0:N)⟩:X4)]:H X4)))
  else G))
 else(
  HB a0 v2 (EZ a0 n) F v3))
 else(
 E v3)
def Mv(a0:N→L O):L (H X4):= EZ a0 bigN F (0:N) ([]:H X4)
/- impl_Wave -/
def Mf(a0 a1:N):L N:= (JK a1).bind fun r1=> if r1 then(
 if a1==0 then G else
 if a1==0 then G else
 if(decide ((zB .i64 (X a1 (2:N)))≤(zB .i64 (I (zB .i64 ((zB .i64 (I a0 a1))+a1)) a1)))) then(
 if(zB .i64 ((zB .i64 (X a1 (2:N)))*(zB .i64 (X a1 (2:N)))))==0 then G else
 E (zB .i64 (0 - (zB .i64 (X (zB .i64 ((zB .i64 ((40000:N)*(zB .i64 ((zB .i64 (I (zB .i64 ((zB .i64 (I a0 a1))+a1)) a1)) - (zB .i64 (X a1 (2:N)))))))*(zB .i64 ((zB .i64 (X a1 (2:N))) - (zB .i64 ((zB .i64 (I (zB .i64 ((zB .i64 (I a0 a1))+a1)) a1)) - (zB .i64 (X a1 (2:N))))))))) (zB .i64 ((zB .i64 (X a1 (2:N)))*(zB .i64 (X a1 (2:N))))))))))
 else(
 if(zB .i64 ((zB .i64 (X a1 (2:N)))*(zB .i64 (X a1 (2:N)))))==0 then G else
 E (zB .i64 (X (zB .i64 ((zB .i64 ((40000:N)*(zB .i64 (I (zB .i64 ((zB .i64 (I a0 a1))+a1)) a1))))*(zB .i64 ((zB .i64 (X a1 (2:N))) - (zB .i64 (I (zB .i64 ((zB .i64 (I a0 a1))+a1)) a1)))))) (zB .i64 ((zB .i64 (X a1 (2:N)))*(zB .i64 (X a1 (2:N))))))))) else(
 E (0:N))
/- impl_Tide_level -/
def Hk(a1:N)(a0:Xj):P→N→N→L N
| 0,_,_=>G
| n+1,v1,v2=>
 if(decide (v2<(a0.Parts.length:N))) then(
 (ix a0.Parts v2).bind fun x4=>
 (Mf (zB .i64 (a1+x4.Phase)) x4.Period).bind fun r5=>
 Hk a1 a0 n (zB .i64 (v1+(zB .i64 (X (zB .i64 (x4.Amp*r5)) (10000:N))))) (zB .i64 (v2+(1:N))))
 else(
 E v1)
def RJ(a0:Xj)(a1:N):L N:= Hk a1 a0 bigN a0.Mean (0:N)
/- impl_Forecast_surge -/
def EQ(a1:N)(a0:Xc):P→N→N→L N
| 0,_,_=>G
| n+1,v1,v2=>
 if(decide (v2<(a0.Surges.length:N))) then(
 (ix a0.Surges v2).bind fun x4=>
 if(decide (x4.From≤a1)) then(
  EQ a1 a0 n v2 (zB .i64 (v2+(1:N))))
 else(
  EQ a1 a0 n v1 (zB .i64 (v2+(1:N)))))
 else(
 E v1)
def LS(a0:Xc)(a1:N):L N:= EQ a1 a0 bigN (0:N) (0:N)
/- impl_Forecast_low -/
def LR(a0:Xc)(a1:N):L N:= (RJ a0.Tide a1).bind fun r1=> (LS a0 a1).bind fun r2=> (ix a0.Surges r2).bind fun x3=> E (zB .i64 (r1+x3.Low))
/- impl_LowWindows_1 -/
def RE(a0:N)(c0:Xc)(c1:N):L O:= (LR c0 a0).bind fun r1=> E (decide (c1≤r1))
/- impl_LowWindows -/
def M0(a0:Xc)(a1:N):L (H X4):= (FI a0).bind fun r1=> if r1 then(
 (Mv (fun z0=>RE z0 a0 a1)).bind fun r3=>
 E r3) else(
 E ([]:H X4))
/- impl_MinutesOn -/
def M1(a0:X6)(a1:N)(a2:X5):L N:= (DN a0).bind fun r1=> if r1 then(
 (Ea a2).bind fun r3=>
 if r3 then(
 (BO a1 (a0.Segments.length:N)).bind fun r5=>
 if r5 then(
  (ix a0.Segments a1).bind fun x7=>
  (ES a2 x7).bind fun r9=>
  E r9)
 else(
  E (0:N)))
 else(
 E (0:N))) else(
 E (0:N))
/- impl_WindowsOk -/
def EU(a0:H X4):P→N→L O
| 0,_=>G
| n+1,v1=>
 if(decide (v1<(a0.length:N))) then(
 (ix a0 v1).bind fun x3=>
 if(decide (x3.From<(0:N))) then(
  E F)
 else(
  if(decide (x3.To<x3.From)) then(
  E F)
  else(
  if(decide ((2880:N)<x3.To)) then(
   E F)
  else(
   if(decide ((0:N)<v1)) then(
   (ix a0 (zB .i64 (v1 - (1:N)))).bind fun x8=>
   if(decide (x3.From≤(zB .i64 (x8.To+(1:N))))) then(
    E F)
   else(
    EU a0 n (zB .i64 (v1+(1:N)))))
   else(
   EU a0 n (zB .i64 (v1+(1:N))))))))
 else(
 E T)
def JG(a0:H X4):L O:= EU a0 bigN (0:N)
/- impl_ShrinkWindows -/
def ET(a1:N)(a0:H X4):P→N→(H X4)→L (H X4)
| 0,_,_=>G
| n+1,v5,v6=>
 if(decide (v5<(a0.length:N))) then(
 (ix a0 v5).bind fun x8=>
 if(decide (a1≤(zB .i64 (x8.To - x8.From)))) then(
  if AP v6.length ([(⟨x8.From,(zB .i64 (x8.To - a1))⟩:X4)]:H X4).length 16 then(
  ET a1 a0 n (zB .i64 (v5+(1:N))) (v6++([(⟨x8.From,(zB .i64 (x8.To - a1))⟩:X4)]:H X4)))
  else G)
 else(
  ET a1 a0 n (zB .i64 (v5+(1:N))) v6))
 else(
 E v6)
def RI(a0:H X4)(a1:N):L (H X4):= (JG a0).bind fun r1=> if r1 then(
 (D1 a1).bind fun r3=>
 if r3 then(
 ET a1 a0 bigN (0:N) ([]:H X4))
 else(
 E ([]:H X4))) else(
 E ([]:H X4))
/- impl_SureStarts -/
def Mc(a0:Xc)(a1:X6)(a2:N)(a3:X5):L (H X4):= (FI a0).bind fun r1=> if r1 then(
 (Hv a1 a2 a3).bind fun r3=>
 if r3 then(
 (LZ a1 a2 a3).bind fun r5=>
 (M0 a0 r5).bind fun r6=>
 (M1 a1 a2 a3).bind fun r7=>
 (RI r6 r7).bind fun r9=>
 E r9)
 else(
 E ([]:H X4))) else(
 E ([]:H X4))
/- impl_voyageOf -/
def Hz(a4:H N)(a0:Xc)(a1:X6)(a2:X5)(y11:H N)(y12:N):P→N→(H O)→(H N)→(H (H X4))→L (Xi × O)
| 0,_,_,_,_=>G
| n+1,v13,v14,v15,v16=>
 if(decide (v13<y12)) then(
 (ix y11 v13).bind fun x18=>
 (ix a1.Points x18).bind fun x19=>
 if AP v14.length ([x19.Wait]:H O).length 1 then(
  (ix a4 v13).bind fun x21=>
  (ix a1.Segments x21).bind fun x22=>
  (ES a2 x22).bind fun r23=>
  if AP v15.length ([r23]:H N).length 8 then(
  (Mc a0 a1 x21 a2).bind fun r25=>
  if AP v16.length ([r25]:H (H X4)).length 24 then(
   Hz a4 a0 a1 a2 y11 y12 n (zB .i64 (v13+(1:N))) (v14++([x19.Wait]:H O)) (v15++([r23]:H N)) (v16++([r25]:H (H X4))))
  else G)
  else G)
 else G)
 else(
 E ((⟨v14,v15,v16⟩:Xi),T))
def Hy(a3:N)(a4:H N)(a0:Xc)(a1:X6)(a2:X5)(v7:O):L (Xi × O):= if v7 then(
 E ((⟨([]:H O),([]:H N),([]:H (H X4))⟩:Xi),F)) else(
 (ER a1 a3 a4).bind fun r9=>
 (bnd (r9.length:N) (a4.length:N) (0:N) r9.length).bind fun p10=>
 Hz a4 a0 a1 a2 ((r9.drop p10.1).take (p10.2 - p10.1)) (((r9.drop p10.1).take (p10.2 - p10.1)).length:N) bigN (0:N) ([]:H O) ([]:H N) ([]:H (H X4)))
def Hx(a0:Xc)(a1:X6)(a2:X5)(a3:N)(a4:H N):L (Xi × O):= (FI a0).bind fun r1=> if r1 then(
 (Ea a2).bind fun r3=>
 if r3 then(
 (FN a1 a3 a4).bind fun r5=>
 if r5 then(
  Hy a3 a4 a0 a1 a2 ((a4.length:N)==(0:N)))
 else(
  Hy a3 a4 a0 a1 a2 T))
 else(
 Hy a3 a4 a0 a1 a2 T)) else(
 Hy a3 a4 a0 a1 a2 T)
/- impl_callVoyage -/
def Hn(a2:H N)(a0:X7)(a1:Xa)(v4:O):L (Xi × O):= if v4 then(
 E ((⟨([]:H O),([]:H N),([]:H (H X4))⟩:Xi),F)) else(
 (ix a0.Fleet a1.Ship).bind fun x6=>
 (Hx a0.Forecast a0.Chart x6 a1.From a2).bind fun r7=>
 E (r7.1,r7.2))
def RL(a0:X7)(a1:Xa)(a2:H N):L (Xi × O):= (ER a0.Chart a1.From a2).bind fun r1=> if((r1.length:N)==(0:N)) then(
 Hn a2 a0 a1 T) else(
 (ix r1 (zB .i64 ((r1.length:N) - (1:N)))).bind fun x3=>
 Hn a2 a0 a1 (x3 !=a1.To))
/- impl_HasMinute -/
def H8(a1:N)(a0:H X4):P→N→L O
| 0,_=>G
| n+1,v1=>
 if(decide (v1<(a0.length:N))) then(
 (ix a0 v1).bind fun x3=>
 (BP a1 x3.From x3.To).bind fun r4=>
 if r4 then(
  E T)
 else(
  H8 a1 a0 n (zB .i64 (v1+(1:N)))))
 else(
 E F)
def LU(a0:H X4)(a1:N):L O:= H8 a1 a0 bigN (0:N)
/- impl_NextMinute -/
def Hb(a1:N)(a0:H X4):P→N→L N
| 0,_=>G
| n+1,v3=>
 if(decide (v3<(a0.length:N))) then(
 (ix a0 v3).bind fun x5=>
 if(decide (a1≤x5.To)) then(
  E (if x5.From<a1 then a1 else x5.From))
 else(
  Hb a1 a0 n (zB .i64 (v3+(1:N)))))
 else(
 E (-1:N))
def M2(a0:H X4)(a1:N):L N:= (JG a0).bind fun r1=> if r1 then(
 Hb a1 a0 bigN (0:N)) else(
 E (-1:N))
/- impl_voyage_sail -/
def HA(v4 r10:N)(a0:Xi)(v5:H N)(SJ:N→(H N)→L ((H N) × O))(v14:O):L ((H N) × O):= if v14 then(
 E (([]:H N),F)) else(
 if AP v5.length ([r10]:H N).length 8 then(
 SJ (zB .i64 (v4+(1:N))) (v5++([r10]:H N)))
 else G)
def Ee(a0:Xi):P→N→(H N)→L ((H N) × O)
| 0,_,_=>G
| n+1,v4,v5=>
 if(decide (v4<(a0.sure.length:N))) then(
 (ix v5 (zB .i64 (v4 - (1:N)))).bind fun x7=>
 (ix a0.minutes (zB .i64 (v4 - (1:N)))).bind fun x8=>
 (ix a0.sure v4).bind fun x9=>
 (M2 x9 (zB .i64 (x7+x8))).bind fun r10=>
 if(decide (r10<(0:N))) then(
  HA v4 r10 a0 v5 (Ee a0 n) T)
 else(
  if(decide ((zB .i64 (x7+x8))<r10)) then(
  (ix a0.waits v4).bind fun x13=>
  HA v4 r10 a0 v5 (Ee a0 n) (!x13))
  else(
  HA v4 r10 a0 v5 (Ee a0 n) F)))
 else(
 E (v5,T))
def Mu(a0:Xi)(a1:N):L ((H N) × O):= (ix a0.sure (0:N)).bind fun x1=> (LU x1 a1).bind fun r2=> if r2 then(
 Ee a0 bigN (1:N) ([a1]:H N)) else(
 E (([]:H N),F))
/- impl_PassagesOf -/
def Hc(a1:N)(a5 a4:H N)(a0:X6)(a2:X5)(r6:(H N)):P→N→(H X1)→L (H X1)
| 0,_,_=>G
| n+1,v7,v8=>
 if(decide (v7<(a4.length:N))) then(
 (ix a4 v7).bind fun x10=>
 (ix a5 v7).bind fun x11=>
 (D1 x11).bind fun r12=>
 if r12 then(
  (ix a0.Segments x10).bind fun x14=>
  (ix r6 v7).bind fun x15=>
  (ES a2 x14).bind fun r16=>
  if AP v8.length ([(⟨a1,x10,(x15==x14.A),x11,(zB .i64 (x11+r16))⟩:X1)]:H X1).length 40 then(
  Hc a1 a5 a4 a0 a2 r6 n (zB .i64 (v7+(1:N))) (v8++([(⟨a1,x10,(x15==x14.A),x11,(zB .i64 (x11+r16))⟩:X1)]:H X1)))
  else G)
 else(
  E ([]:H X1)))
 else(
 E v8)
def M6(a0:X6)(a1:N)(a2:X5)(a3:N)(a4 a5:H N):L (H X1):= (FN a0 a3 a4).bind fun r1=> if r1 then(
 (Ea a2).bind fun r3=>
 if r3 then(
 if((a4.length:N) !=(a5.length:N)) then(
  E ([]:H X1))
 else(
  (ER a0 a3 a4).bind fun r6=>
  Hc a1 a5 a4 a0 a2 r6 bigN (0:N) ([]:H X1)))
 else(
 E ([]:H X1))) else(
 E ([]:H X1))
/- impl_RouteMinutes -/
def He(a1:H N)(a0:X6):P→N→N→L N
| 0,_,_=>G
| n+1,v3,v4=>
 if(decide (v4<(a1.length:N))) then(
 (ix a1 v4).bind fun x6=>
 (BO x6 (a0.Segments.length:N)).bind fun r7=>
 if r7 then(
  (ix a0.Segments x6).bind fun x9=>
  He a1 a0 n (zB .i64 (v3+x9.Minutes)) (zB .i64 (v4+(1:N))))
 else(
  E (-1:N)))
 else(
 E v3)
def M8(a0:X6)(a1:H N):L N:= (DN a0).bind fun r1=> if r1 then(
 He a1 a0 bigN (0:N) (0:N)) else(
 E (-1:N))
/- impl_ArrivalOf -/
def LN(a0:X6)(a1:X5)(a2 a3:H N):L N:= (M8 a0 a2).bind fun r1=> if(decide (r1<(0:N))) then(
 E (-1:N)) else(
 (Ea a1).bind fun r3=>
 if r3 then(
 if((a2.length:N)==(0:N)) then(
  E (-1:N))
 else(
  if((a2.length:N) !=(a3.length:N)) then(
  E (-1:N))
  else(
  (ix a3 (zB .i64 ((a2.length:N) - (1:N)))).bind fun x7=>
  (D1 x7).bind fun r9=>
  if r9 then(
   (ix a2 (zB .i64 ((a2.length:N) - (1:N)))).bind fun x11=>
   (ix a0.Segments x11).bind fun x12=>
   (ES a1 x12).bind fun r13=>
   E (zB .i64 (x7+r13)))
  else(
   E (-1:N)))))
 else(
 E (-1:N)))
/- impl_option -/
def FT(a2:Xi)(a4 r5:N)(r4:(H X1)):P→N→N→L (X2 × O)
| 0,_,_=>G
| n+1,v6,v7=>
 if(decide (v6<(a2.minutes.length:N))) then(
 (ix a2.minutes v6).bind fun x9=>
 FT a2 a4 r5 r4 n (zB .i64 (v6+(1:N))) (zB .i64 (v7 - x9)))
 else(
 E ((⟨a4,r5,v7,r4⟩:X2),(decide (r5≤(2880:N)))))
def RN(a0:X7)(a1:Xa)(a2:Xi)(a3:H N)(a4:N):L (X2 × O):= (Mu a2 a4).bind fun r1=> if r1.2 then(
 (ix a0.Fleet a1.Ship).bind fun x3=>
 (M6 a0.Chart a1.Ship x3 a1.From a3 r1.1).bind fun r4=>
 (LN a0.Chart x3 a3 r1.1).bind fun r5=>
 FT a2 a4 r5 r4 bigN (0:N) (zB .i64 (r5 - a1.Ready))) else(
 E ((⟨(0:N),(0:N),(0:N),([]:H X1)⟩:X2),F))
/- impl_OptionAt -/
def M3(a2:H N)(a3:N)(a0:X7)(a1:Xa)(v4:O):L (X2 × O):= if v4 then(
 E ((⟨(0:N),(0:N),(0:N),([]:H X1)⟩:X2),F)) else(
 (RL a0 a1 a2).bind fun r6=>
 if r6.2 then(
 (RN a0 a1 r6.1 a2 a3).bind fun r9=>
 if r9.2 then(
  E (r9.1,T))
 else(
  E ((⟨(0:N),(0:N),(0:N),([]:H X1)⟩:X2),F)))
 else(
 E ((⟨(0:N),(0:N),(0:N),([]:H X1)⟩:X2),F)))
def JD(a0:X7)(a1:Xa)(a2:H N)(a3:N):L (X2 × O):= (LO a0 a1).bind fun r1=> if r1 then(
 (BP a3 a1.Ready a1.Due).bind fun r3=>
 M3 a2 a3 a0 a1 (!r3)) else(
 M3 a2 a3 a0 a1 T)
/- slices_Equal_Passage -/
def I2(a0 a1:H X1):P→N→L O
| 0,_=>G
| n+1,v2=>
 if(decide (v2<(a0.length:N))) then(
 (ix a0 v2).bind fun x4=>
 (ix a1 v2).bind fun x5=>
 if((x4.Ship==x5.Ship)&&((x4.Segment==x5.Segment)&&((x4.Toward==x5.Toward)&&((x4.Start==x5.Start)&&((x4.End==x5.End)&&T))))) then(
  I2 a0 a1 n (zB .i64 (v2+(1:N))))
 else(
  E F))
 else(
 E T)
def Sc(a0 a1:H X1):L O:= if((a0.length:N) !=(a1.length:N)) then(
 E F) else(
 I2 a0 a1 bigN (0:N))
/- impl_SameOptions -/
def Hf(a0 a1:X2):L O:= if(a0.Start==a1.Start) then(
 if(a0.Arrival==a1.Arrival) then(
 if(a0.Cost==a1.Cost) then(
  (Sc a0.Passages a1.Passages).bind fun r4=>
  E r4)
 else(
  E F))
 else(
 E F)) else(
 E F)
/- impl_IsOption -/
def Ha(a2:X2)(a0:X7)(a1:Xa):P→N→(H N)→L O
| 0,_,_=>G
| n+1,v1,v2=>
 if(decide (v1<(a2.Passages.length:N))) then(
 (ix a2.Passages v1).bind fun x4=>
 if AP v2.length ([x4.Segment]:H N).length 8 then(
  Ha a2 a0 a1 n (zB .i64 (v1+(1:N))) (v2++([x4.Segment]:H N)))
 else G)
 else(
 (JD a0 a1 v2 a2.Start).bind fun r6=>
 if r6.2 then(
  (Hf r6.1 a2).bind fun r9=>
  E r9)
 else(
  E F))
def H9(a0:X7)(a1:Xa)(a2:X2):L O:= Ha a2 a0 a1 bigN (0:N) ([]:H N)
/- impl_Overlaps -/
def JE(a0 a1:X1):L O:= E (decide ((if a0.Start<a1.Start then a1.Start else a0.Start)<(if a1.End<a0.End then a1.End else a0.End)))
/- impl_near -/
def JN(a0 a1 a2:N):L O:= E (decide ((IntKind.u64.wrap ((IntKind.u64.wrap (if a0<a1 then a1 else a0)) - (IntKind.u64.wrap (if a1<a0 then a1 else a0))))<(IntKind.u64.wrap a2)))
/- impl_conflict -/
def Mm(a2 a3:X1)(v22:O):L N:= if v22 then(
 E (3:N)) else(
 if(decide (a2.Start<a3.Start)) then(
 if(decide (a3.End<a2.End)) then(
  E (4:N))
 else(
  if(decide (a3.Start<a2.Start)) then(
  if(decide (a2.End<a3.End)) then(
   E (4:N))
  else(
   E (0:N)))
  else(
  E (0:N))))
 else(
 if(decide (a3.Start<a2.Start)) then(
  if(decide (a2.End<a3.End)) then(
  E (4:N))
  else(
  E (0:N)))
 else(
  E (0:N))))
def Hr(a1:Xg)(a2 a3:X1)(v15 v16:O):L N:= if v15 then(
 E (2:N)) else(
 if(a2.Toward==a3.Toward) then(
 (JN a2.Start a3.Start a1.Gap).bind fun r19=>
 if r19 then(
  Mm a2 a3 T)
 else(
  (JN a2.End a3.End a1.Gap).bind fun r21=>
  Mm a2 a3 r21))
 else(
 E (0:N)))
def Ml(a0:X6)(a1:Xg)(a2 a3:X1)(v7:O):L N:= if v7 then(
 E (1:N)) else(
 if(a2.Ship==a3.Ship) then(
 E (0:N))
 else(
 if(a2.Toward==a3.Toward) then(
  Hr a1 a2 a3 F a1.NoMeet)
 else(
  (JE a2 a3).bind fun r11=>
  if r11 then(
  if a1.NoMeet then(
   Hr a1 a2 a3 T T)
  else(
   (ix a0.Segments a2.Segment).bind fun x14=>
   Hr a1 a2 a3 (!x14.Meet) F))
  else(
  Hr a1 a2 a3 F a1.NoMeet))))
def Mj(a0:X6)(a1:Xg)(a2 a3:X1)(v3:O):L N:= if v3 then(
 E (0:N)) else(
 if(a2.Ship==a3.Ship) then(
 (JE a2 a3).bind fun r6=>
 Ml a0 a1 a2 a3 r6)
 else(
 Ml a0 a1 a2 a3 F))
def Mi(a0:X6)(a1:Xg)(a2 a3:X1):L N:= if(a2.Segment !=a3.Segment) then(
 Mj a0 a1 a2 a3 T) else(
 (BO a2.Segment (a0.Segments.length:N)).bind fun r2=>
 Mj a0 a1 a2 a3 (!r2))
/- impl_clashes -/
def Hq(a3 a2:H X1)(v1:N)(a0:X6)(a1:Xg)(x3:X1)(O6:N→L O):P→N→L O
| 0,_=>G
| n+1,v4=>
 if(decide (v4<(a3.length:N))) then(
 (ix a3 v4).bind fun x6=>
 (Mi a0 a1 x3 x6).bind fun r7=>
 if(r7 !=(0:N)) then(
  E T)
 else(
  Hq a3 a2 v1 a0 a1 x3 O6 n (zB .i64 (v4+(1:N)))))
 else(
 O6 (zB .i64 (v1+(1:N))))
def EV(a3 a2:H X1)(a0:X6)(a1:Xg):P→N→L O
| 0,_=>G
| n+1,v1=>
 if(decide (v1<(a2.length:N))) then(
 (ix a2 v1).bind fun x3=>
 Hq a3 a2 v1 a0 a1 x3 (EV a3 a2 a0 a1 n) bigN (0:N))
 else(
 E F)
def Mh(a0:X6)(a1:Xg)(a2 a3:H X1):L O:= EV a3 a2 a0 a1 bigN (0:N)
/- impl_clone_Option -/
def Eb(a0:H X2):L (H X2):= (BH (0:N) (a0.length:N) 48).bind fun n1=> if AP (Z n1 (⟨(0:N),(0:N),(0:N),([]:H X1)⟩:X2)).length a0.length 48 then(
 E ((Z n1 (⟨(0:N),(0:N),(0:N),([]:H X1)⟩:X2))++a0)) else G
/- impl_Passage_ends -/
def JF(a0:X1)(a1:X6):L (N × N):= (ix a1.Segments a0.Segment).bind fun x1=> if a0.Toward then(
 E (x1.A,x1.B)) else(
 E (x1.B,x1.A))
/- impl_duty -/
def JJ(a0:X6)(a1 a2:X1):L X8:= (JF a1 a0).bind fun r1=> (JF a2 a0).bind fun r2=> E (⟨a1.Start,a2.End,r1.1,r2.2⟩:X8)
/- impl_passageOk -/
def Mr(a0:X6)(a1:H X5)(a2:X1):L O:= (BO a2.Ship (a1.length:N)).bind fun r1=> if r1 then(
 (BO a2.Segment (a0.Segments.length:N)).bind fun r3=>
 if r3 then(
 (D1 a2.Start).bind fun r5=>
 if r5 then(
  if(decide ((2880:N)<a2.End)) then(
  E F)
  else(
  (ix a1 a2.Ship).bind fun x8=>
  (ix a0.Segments a2.Segment).bind fun x9=>
  (ES x8 x9).bind fun r10=>
  E (a2.End==(zB .i64 (a2.Start+r10)))))
 else(
  E F))
 else(
 E F)) else(
 E F)
/- impl_PassageOk -/
def M5(a0:X6)(a1:H X5)(a2:X1):L O:= (DN a0).bind fun r1=> if r1 then(
 (JA a1).bind fun r3=>
 if r3 then(
 (Mr a0 a1 a2).bind fun r5=>
 E r5)
 else(
 E F)) else(
 E F)
/- impl_tugDuties -/
def FU(a1:H X5)(a2:H X1)(v1:N)(x7:X5)(a0:X6)(x4:X1)(O8:N→(H X8)→L ((H X8) × O)):P→N→(H X8)→L ((H X8) × O)
| 0,_,_=>G
| n+1,v8,v9=>
 if(decide (v8<x7.Tugs)) then(
 (JJ a0 x4 x4).bind fun r11=>
 if AP v9.length ([r11]:H X8).length 32 then(
  FU a1 a2 v1 x7 a0 x4 O8 n (zB .i64 (v8+(1:N))) (v9++([r11]:H X8)))
 else G)
 else(
 if(decide ((12:N)<(v9.length:N))) then(
  E (([]:H X8),F))
 else(
  O8 (zB .i64 (v1+(1:N))) v9))
def EY(a1:H X5)(a2:H X1)(a0:X6):P→N→(H X8)→L ((H X8) × O)
| 0,_,_=>G
| n+1,v1,v2=>
 if(decide (v1<(a2.length:N))) then(
 (ix a2 v1).bind fun x4=>
 (M5 a0 a1 x4).bind fun r5=>
 if r5 then(
  (ix a1 x4.Ship).bind fun x7=>
  FU a1 a2 v1 x7 a0 x4 (EY a1 a2 a0 n) bigN (0:N) v2)
 else(
  E (([]:H X8),F)))
 else(
 E (v2,T))
def Ms(a0:X6)(a1:H X5)(a2:H X1):L ((H X8) × O):= EY a1 a2 a0 bigN (0:N) ([]:H X8)
/- impl_DutiesOk -/
def H5(a0:H X8):P→N→L O
| 0,_=>G
| n+1,v2=>
 if(decide (v2<(a0.length:N))) then(
 (ix a0 v2).bind fun x4=>
 if(decide (x4.From<(0:N))) then(
  E F)
 else(
  if(decide (x4.To≤x4.From)) then(
  E F)
  else(
  if(decide ((2880:N)<x4.To)) then(
   E F)
  else(
   (BO x4.A (8:N)).bind fun r9=>
   if r9 then(
   (BO x4.B (8:N)).bind fun r11=>
   if r11 then(
    H5 a0 n (zB .i64 (v2+(1:N))))
   else(
    E F))
   else(
   E F)))))
 else(
 E T)
def H4(a0:H X8):L O:= if(decide ((12:N)<(a0.length:N))) then(
 E F) else(
 H5 a0 bigN (0:N))
/- impl_coverable -/
def RM(a0:N)(a1:H N)(a2:H X8):L O:= (H4 a2).bind fun r1=> if r1 then(
 (D1 a0).bind fun r3=>
 if r3 then(
 (FR a1).bind fun r5=>
 E r5)
 else(
 E F)) else(
 E F)
/- impl_Gap -/
def H7(a0:N)(a1:H N)(a2 a3:X8)(v8:O):L (N × O):= if v8 then(
 E ((0:N),F)) else(
 (ix a1 (zB .i64 ((zB .i64 ((8:N)*a2.B))+a3.A))).bind fun x10=>
 E ((zB .i64 (a0+x10)),T))
def RD(a0:N)(a1:H N)(a2 a3:X8):L (N × O):= (D1 a0).bind fun r1=> if r1 then(
 (FR a1).bind fun r3=>
 if r3 then(
 (BO a2.B (8:N)).bind fun r5=>
 if r5 then(
  (BO a3.A (8:N)).bind fun r7=>
  H7 a0 a1 a2 a3 (!r7))
 else(
  H7 a0 a1 a2 a3 T))
 else(
 H7 a0 a1 a2 a3 T)) else(
 H7 a0 a1 a2 a3 T)
/- impl_CanFollow -/
def Jz(a0:N)(a1:H N)(a2 a3:X8):L O:= (RD a0 a1 a2 a3).bind fun r1=> if r1.2 then(
 (H4 ([a2]:H X8)).bind fun r3=>
 if r3 then(
 (H4 ([a3]:H X8)).bind fun r5=>
 if r5 then(
  E (decide ((zB .i64 (a2.To+r1.1))≤a3.From)))
 else(
  E F))
 else(
 E F)) else(
 E F)
/- impl_partners -/
def Hw(a0:N)(a1:H N)(a2:H X8)(v2 v6:N)(x5:X8)(v7:H N)(O7:N→(H N)→L (H N))(v14:O):L (H N):= if v14 then(
 (ix v7 v2).bind fun x16=>
 if decide (v6<0) then G else
 O7 (zB .i64 (v6+(1:N))) (v7.set (U v2) (Br .or .u64 x16 (Bz .u64 (1:N) v6)))) else(
 O7 (zB .i64 (v6+(1:N))) v7)
def DP(a0:N)(a1:H N)(a2:H X8)(v2:N)(x5:X8)(IL:N→(H N)→L (H N)):P→N→(H N)→L (H N)
| 0,_,_=>G
| n+1,v6,v7=>
 if(decide (v6<(a2.length:N))) then(
 (ix a2 v6).bind fun x9=>
 if(v2 !=v6) then(
  (Jz a0 a1 x5 x9).bind fun r11=>
  if r11 then(
  Hw a0 a1 a2 v2 v6 x5 v7 (DP a0 a1 a2 v2 x5 IL n) T)
  else(
  (Jz a0 a1 x9 x5).bind fun r13=>
  Hw a0 a1 a2 v2 v6 x5 v7 (DP a0 a1 a2 v2 x5 IL n) r13))
 else(
  Hw a0 a1 a2 v2 v6 x5 v7 (DP a0 a1 a2 v2 x5 IL n) F))
 else(
 IL (zB .i64 (v2+(1:N))) v7)
def EX(a0:N)(a1:H N)(a2:H X8):P→N→(H N)→L (H N)
| 0,_,_=>G
| n+1,v2,v3=>
 if(decide (v2<(a2.length:N))) then(
 (ix a2 v2).bind fun x5=>
 DP a0 a1 a2 v2 x5 (EX a0 a1 a2 n) bigN (0:N) v3)
 else(
 E v3)
def Mq(a0:N)(a1:H N)(a2:H X8):L (H N):= (BH (a2.length:N) (a2.length:N) 8).bind fun n1=> EX a0 a1 a2 bigN (0:N) (Z n1 (0:N))
/- math_bits_Len64 -/
def K3(v8 v9:N):L N:= (ix ([0,1,2,2,3,3,3,3,4,4,4,4,4,4,4,4,5,5,5,5,5,5,5,5,5,5,5,5,5,5,5,5,6,6,6,6,6,6,6,6,6,6,6,6,6,6,6,6,6,6,6,6,6,6,6,6,6,6,6,6,6,6,6,6,7,7,7,7,7,7,7,7,7,7,7,7,7,7,7,7,7,7,7,7,7,7,7,7,7,7,7,7,7,7,7,7,7,7,7,7,7,7,7,7,7,7,7,7,7,7,7,7,7,7,7,7,7,7,7,7,7,7,7,7,7,7,7,7,8,8,8,8,8,8,8,8,8,8,8,8,8,8,8,8,8,8,8,8,8,8,8,8,8,8,8,8,8,8,8,8,8,8,8,8,8,8,8,8,8,8,8,8,8,8,8,8,8,8,8,8,8,8,8,8,8,8,8,8,8,8,8,8,8,8,8,8,8,8,8,8,8,8,8,8,8,8,8,8,8,8,8,8,8,8,8,8,8,8,8,8,8,8,8,8,8,8,8,8,8,8,8,8,8,8,8,8,8,8,8,8,8,8,8,8,8,8,8,8,8,8,8,8,8,8,8,8]:H Q) (IntKind.u8.wrap v8)).bind fun b10=> E (zB .i64 (v9+(zB .i64 (b10.toNat:N))))
def Nf(v5 v6:N):L N:= if(decide ((256:N)≤v5)) then(
 K3 (CH .u64 v5 8) (zB .i64 (v6+(8:N)))) else(
 K3 v5 v6)
def Nd(v2 v3:N):L N:= if(decide ((65536:N)≤v2)) then(
 Nf (CH .u64 v2 16) (zB .i64 (v3+(16:N)))) else(
 Nf v2 v3)
def Sb(a0:N):L N:= if(decide ((4294967296:N)≤a0)) then(
 Nd (CH .u64 a0 32) (32:N)) else(
 Nd a0 (0:N))
/- math_bits_Len -/
def K2(a0:N):L N:= (Sb a0).bind fun r1=> E r1
/- impl_leastPersons -/
def JM(a0:H N)(y5 v6:N)(v17 v18 v21:N)(v19:H O)(CC:N→(H O)→(H N)→L N)(SI:N→(H N)→L N)(v28:H N):L N:= if(v21==(0:N)) then(
 CC (zB .i64 (v6+(1:N))) v19 v28) else(
 SI (Br .and .i64 (zB .i64 (v21 - (1:N))) v18) v28)
def FQ(a0:H N)(y5 v6:N)(v17 v18:N)(v19:H O)(CC:N→(H O)→(H N)→L N):P→N→(H N)→L N
| 0,_,_=>G
| n+1,v21,v22=>
 if decide (v17<0) then G else
 (ix v19 (Br .or .i64 v21 (Bz .i64 (1:N) v17))).bind fun x24=>
 if x24 then(
 (ix v22 v6).bind fun x26=>
 (ix v22 (Br .andNot .i64 v18 v21)).bind fun x27=>
 JM a0 y5 v6 v17 v18 v21 v19 CC (FQ a0 y5 v6 v17 v18 v19 CC n) (v22.set (U v6) (if(zB .i64 ((1:N)+x27))<x26 then(zB .i64 ((1:N)+x27)) else x26)))
 else(
 JM a0 y5 v6 v17 v18 v21 v19 CC (FQ a0 y5 v6 v17 v18 v19 CC n) v22)
def JL(a0:H N)(y5 v6:N)(v8:H N)(CC:N→(H O)→(H N)→L N)(v17 v18:N)(v19:H O):L N:= (ix v8 v6).bind fun x20=> FQ a0 y5 v6 v17 v18 v19 CC bigN v18 (v8.set (U v6) (a0.length:N))
def Ed(a0:H N)(y5:N):P→N→(H O)→(H N)→L N
| 0,_,_,_=>G
| n+1,v6,v7,v8=>
 if(decide (v6<y5)) then(
 (K2 (IntKind.u64.wrap v6)).bind fun r10=>
 if decide ((zB .i64 (r10 - (1:N)))<0) then G else
 (ix v7 (Br .andNot .i64 v6 (Bz .i64 (1:N) (zB .i64 (r10 - (1:N)))))).bind fun x12=>
 if x12 then(
  (ix a0 (zB .i64 (r10 - (1:N)))).bind fun x14=>
  (ix v7 v6).bind fun x15=>
  JL a0 y5 v6 v8 (Ed a0 y5 n) (zB .i64 (r10 - (1:N))) (Br .andNot .i64 v6 (Bz .i64 (1:N) (zB .i64 (r10 - (1:N))))) (v7.set (U v6) ((Br .andNot .u64 (IntKind.u64.wrap (Br .andNot .i64 v6 (Bz .i64 (1:N) (zB .i64 (r10 - (1:N)))))) x14)==(0:N))))
 else(
  (ix v7 v6).bind fun x16=>
  JL a0 y5 v6 v8 (Ed a0 y5 n) (zB .i64 (r10 - (1:N))) (Br .andNot .i64 v6 (Bz .i64 (1:N) (zB .i64 (r10 - (1:N))))) (v7.set (U v6) F)))
 else(
 (ix v8 (zB .i64 (y5 - (1:N)))).bind fun x30=>
 E x30)
def Mp(a0:H N):L N:= if decide ((a0.length:N)<0) then G else (BH (Bz .i64 (1:N) (a0.length:N)) (Bz .i64 (1:N) (a0.length:N)) 1).bind fun n2=> (BH (Bz .i64 (1:N) (a0.length:N)) (Bz .i64 (1:N) (a0.length:N)) 8).bind fun n3=> (ix (Z n2 F) (0:N)).bind fun x4=> Ed a0 (Bz .i64 (1:N) (a0.length:N)) bigN (1:N) ((Z n2 F).set (U (0:N)) T) (Z n3 (0:N))
/- impl_coverer_cover -/
def Ht(rec_:Xf→L (O × Xf))(a0:Xf)(v2:N)(Eo:N→(H N)→N→(H N)→(H N)→L (O × Xf))(v22:H N)(v23:N)(v24 v25:H N):L (O × Xf):= (ix v24 v2).bind fun x26=> if(x26==(0:N)) then(
 (bnd (v24.length:N) v2 0 v24.length).bind fun p28=>
 E (F,(⟨v22,v23,(v24.take p28.2),v25⟩:Xf))) else(
 Eo (zB .i64 (v2+(1:N))) v22 v23 v24 v25)
def JI(rec_:Xf→L (O × Xf))(a0:Xf)(v2:N)(v3:H N)(v4:N)(v6:H N)(Eo:N→(H N)→N→(H N)→(H N)→L (O × Xf))(v11:H N):L (O × Xf):= (ix v11 v2).bind fun x12=> (ix v3 (a0.who.length:N)).bind fun x13=> if((Br .andNot .u64 x12 x13)==(0:N)) then(
 if decide ((a0.who.length:N)<0) then G else
 if AP v6.length ([v2]:H N).length 8 then(
 (rec_ (⟨v3,v4,(v11.set (U v2) (Br .or .u64 x12 (Bz .u64 (1:N) (a0.who.length:N)))),(v6++([v2]:H N))⟩:Xf)).bind fun r17=>
 if r17.1 then(
  E (T,r17.2))
 else(
  (bnd (r17.2.who.length:N) (a0.who.length:N) 0 r17.2.who.length).bind fun p19=>
  (ix r17.2.groups v2).bind fun x20=>
  if decide ((a0.who.length:N)<0) then G else
  Ht rec_ a0 v2 Eo r17.2.sets r17.2.most (r17.2.groups.set (U v2) (Br .andNot .u64 x20 (Bz .u64 (1:N) (a0.who.length:N)))) (r17.2.who.take p19.2)))
 else G) else(
 Ht rec_ a0 v2 Eo v3 v4 v11 v6)
def EW(rec_:Xf→L (O × Xf))(a0:Xf):P→N→(H N)→N→(H N)→(H N)→L (O × Xf)
| 0,_,_,_,_,_=>G
| n+1,v2,v3,v4,v5,v6=>
 if(decide (v2≤(v5.length:N))) then(
 if(decide (v2<v4)) then(
  if(v2==(v5.length:N)) then(
  if AP v5.length ([(0:N)]:H N).length 8 then(
   JI rec_ a0 v2 v3 v4 v6 (EW rec_ a0 n) (v5++([(0:N)]:H N)))
  else G)
  else(
  JI rec_ a0 v2 v3 v4 v6 (EW rec_ a0 n) v5))
 else(
  E (F,(⟨v3,v4,v5,v6⟩:Xf))))
 else(
 E (F,(⟨v3,v4,v5,v6⟩:Xf)))
def Mn(rec_:Xf→L (O × Xf))(a0:Xf):L (O × Xf):= if((a0.who.length:N)==(a0.sets.length:N)) then(
 E (T,a0)) else(
 EW rec_ a0 bigN (0:N) a0.sets a0.most a0.groups a0.who)
def DO:P→Xf→L (O × Xf)
| 0,_=>G
| n+1,a0=>Mn (DO n) a0
def VX(a0:Xf):L (O × Xf):=DO bigN a0
/- impl_LeastCover -/
def LY(a0:N)(a1:H N)(a2:H X8):L ((H N) × N × O):= (RM a0 a1 a2).bind fun r1=> if r1 then(
 (Mq a0 a1 a2).bind fun r3=>
 (Mp r3).bind fun r4=>
 (VX (⟨r3,r4,([]:H N),([]:H N)⟩:Xf)).bind fun r5=>
 E (r5.2.who,r5.2.most,T)) else(
 E (([]:H N),(0:N),F))
/- impl_coverFits -/
def FO(a0:N)(a1:H N)(a2:H X8)(a3:N):L O:= if(decide ((a2.length:N)≤a3)) then(
 E T) else(
 (LY a0 a1 a2).bind fun r2=>
 E (decide (r2.2.1≤a3)))
/- impl_crewFits -/
def FP(a1:H X2)(a0:X7):P→N→(H X1)→(H X8)→L O
| 0,_,_,_=>G
| n+1,v1,v2,v3=>
 if(decide (v1<(a1.length:N))) then(
 (ix a1 v1).bind fun x5=>
 if AP v2.length x5.Passages.length 40 then(
  if(decide ((0:N)<(x5.Passages.length:N))) then(
  (ix x5.Passages (0:N)).bind fun x8=>
  (ix x5.Passages (zB .i64 ((x5.Passages.length:N) - (1:N)))).bind fun x9=>
  (JJ a0.Chart x8 x9).bind fun r10=>
  if AP v3.length ([r10]:H X8).length 32 then(
   FP a1 a0 n (zB .i64 (v1+(1:N))) (v2++x5.Passages) (v3++([r10]:H X8)))
  else G)
  else(
  FP a1 a0 n (zB .i64 (v1+(1:N))) (v2++x5.Passages) v3))
 else G)
 else(
 (Ms a0.Chart a0.Fleet v2).bind fun r12=>
 if r12.2 then(
  (FO (0:N) a0.Crew.Moves r12.1 a0.Crew.Tugs).bind fun r14=>
  if r14 then(
  (FO a0.Crew.Rest a0.Crew.Moves v3 a0.Crew.Pilots).bind fun r16=>
  E r16)
  else(
  E F))
 else(
  E F))
def Ec(a0:X7)(a1:H X2):L O:= FP a1 a0 bigN (0:N) ([]:H X1) ([]:H X8)
/- impl_fitsTo -/
def Hu(a1:H X2)(a0:X7)(a2:X2):P→N→L O
| 0,_=>G
| n+1,v1=>
 if(decide (v1<(a1.length:N))) then(
 (ix a1 v1).bind fun x3=>
 (Mh a0.Chart a0.Regime x3.Passages a2.Passages).bind fun r4=>
 if r4 then(
  E F)
 else(
  Hu a1 a0 a2 n (zB .i64 (v1+(1:N)))))
 else(
 (Eb a1).bind fun r6=>
 if AP r6.length ([a2]:H X2).length 48 then(
  (Ec a0 (r6++([a2]:H X2))).bind fun r9=>
  E r9)
 else G)
def Mo(a0:X7)(a1:H X2)(a2:X2):L O:= Hu a1 a0 a2 bigN (0:N)
/- impl_IsPlan -/
def FM(a2:H X2)(a1:H Xa)(a0:X7):P→N→L O
| 0,_=>G
| n+1,v4=>
 if(decide (v4<(a1.length:N))) then(
 (ix a1 v4).bind fun x6=>
 (ix a2 v4).bind fun x7=>
 (H9 a0 x6 x7).bind fun r9=>
 if r9 then(
  (bnd (a2.length:N) v4 (0:N) a2.length).bind fun p11=>
  (Mo a0 ((a2.drop p11.1).take (p11.2 - p11.1)) x7).bind fun r12=>
  if r12 then(
  FM a2 a1 a0 n (zB .i64 (v4+(1:N))))
  else(
  E F))
 else(
  E F))
 else(
 E T)
def LX(a0:X7)(a1:H Xa)(a2:H X2):L O:= (LP a0 a1).bind fun r1=> if r1 then(
 if((a2.length:N) !=(a1.length:N)) then(
 E F)
 else(
 FM a2 a1 a0 bigN (0:N))) else(
 E F)
/- impl_account -/
def Hm(a1:H Xa)(a2:H X2)(a0:X7):P→N→(H N)→(H N)→L Xh
| 0,_,_,_=>G
| n+1,v3,v4,v5=>
 if(decide (v3<(a2.length:N))) then(
 (ix a2 v3).bind fun x7=>
 (ix a1 v3).bind fun x8=>
 (ix a0.Fleet x8.Ship).bind fun x9=>
 (ix v4 x9.Line).bind fun x10=>
 (ix v5 x9.Line).bind fun x11=>
 Hm a1 a2 a0 n (zB .i64 (v3+(1:N))) (v4.set (U x9.Line) (zB .i64 (x10+x7.Cost))) (v5.set (U x9.Line) (zB .i64 (x11+(1:N)))))
 else(
 E (⟨v4,v5⟩:Xh))
def Mg(a0:X7)(a1:H Xa)(a2:H X2):L Xh:= (BH (4:N) (4:N) 8).bind fun n1=> (BH (4:N) (4:N) 8).bind fun n2=> Hm a1 a2 a0 bigN (0:N) (Z n1 (0:N)) (Z n2 (0:N))
/- impl_AccountOf -/
def Jy(a0:X7)(a1:H Xa)(a2:H X2):L (Xh × O):= (LX a0 a1 a2).bind fun r1=> if r1 then(
 (Mg a0 a1 a2).bind fun r3=>
 E (r3,T)) else(
 E ((⟨([]:H N),([]:H N)⟩:Xh),F))
/- laws_eqIntS -/
def HF(a0 a1:H N):P→N→L O
| 0,_=>G
| n+1,v2=>
 if(decide (v2<(a0.length:N))) then(
 (ix a0 v2).bind fun x4=>
 (ix a1 v2).bind fun x5=>
 if(x4 !=x5) then(
  E F)
 else(
  HF a0 a1 n (zB .i64 (v2+(1:N)))))
 else(
 E T)
def HE(a0 a1:H N):L O:= if((a0.length:N) !=(a1.length:N)) then(
 E F) else(
 HF a0 a1 bigN (0:N))
/- laws_eqAccount -/
def HC(a0 a1:Xh):L O:= (HE a0.Waits a1.Waits).bind fun r1=> if r1 then(
 (HE a0.Calls a1.Calls).bind fun r3=>
 if r3 then(
 E T)
 else(
 E F)) else(
 E F)
/- laws_eqPart -/
def MD(a0 a1:Xd):L O:= if(a0.Amp !=a1.Amp) then(
 E F) else(
 if(a0.Period !=a1.Period) then(
 E F)
 else(
 if(a0.Phase !=a1.Phase) then(
  E F)
 else(
  E T)))
/- laws_eqPartS -/
def HH(a0 a1:H Xd):P→N→L O
| 0,_=>G
| n+1,v2=>
 if(decide (v2<(a0.length:N))) then(
 (ix a0 v2).bind fun x4=>
 (ix a1 v2).bind fun x5=>
 (MD x4 x5).bind fun r6=>
 if r6 then(
  HH a0 a1 n (zB .i64 (v2+(1:N))))
 else(
  E F))
 else(
 E T)
def ME(a0 a1:H Xd):L O:= if((a0.length:N) !=(a1.length:N)) then(
 E F) else(
 HH a0 a1 bigN (0:N))
/- laws_eqTide -/
def RS(a0 a1:Xj):L O:= if(a0.Mean !=a1.Mean) then(
 E F) else(
 (ME a0.Parts a1.Parts).bind fun r2=>
 if r2 then(
 E T)
 else(
 E F))
/- laws_eqSurge -/
def MN(a0 a1:Xb):L O:= if(a0.From !=a1.From) then(
 E F) else(
 if(a0.Low !=a1.Low) then(
 E F)
 else(
 if(a0.High !=a1.High) then(
  E F)
 else(
  E T)))
/- laws_eqSurgeS -/
def HM(a0 a1:H Xb):P→N→L O
| 0,_=>G
| n+1,v2=>
 if(decide (v2<(a0.length:N))) then(
 (ix a0 v2).bind fun x4=>
 (ix a1 v2).bind fun x5=>
 (MN x4 x5).bind fun r6=>
 if r6 then(
  HM a0 a1 n (zB .i64 (v2+(1:N))))
 else(
  E F))
 else(
 E T)
def MO(a0 a1:H Xb):L O:= if((a0.length:N) !=(a1.length:N)) then(
 E F) else(
 HM a0 a1 bigN (0:N))
/- laws_eqForecast -/
def Mz(a0 a1:Xc):L O:= (RS a0.Tide a1.Tide).bind fun r1=> if r1 then(
 (MO a0.Surges a1.Surges).bind fun r3=>
 if r3 then(
 E T)
 else(
 E F)) else(
 E F)
/- laws_eqPoint -/
def MH(a0 a1:X9):L O:= if(a0.Name==a1.Name) then(
 if(a0.Wait==a1.Wait) then(
 E T)
 else(
 E F)) else(
 E F)
/- laws_eqPointS -/
def HJ(a0 a1:H X9):P→N→L O
| 0,_=>G
| n+1,v2=>
 if(decide (v2<(a0.length:N))) then(
 (ix a0 v2).bind fun x4=>
 (ix a1 v2).bind fun x5=>
 (MH x4 x5).bind fun r6=>
 if r6 then(
  HJ a0 a1 n (zB .i64 (v2+(1:N))))
 else(
  E F))
 else(
 E T)
def MI(a0 a1:H X9):L O:= if((a0.length:N) !=(a1.length:N)) then(
 E F) else(
 HJ a0 a1 bigN (0:N))
/- laws_eqSegment -/
def MJ(a0 a1:X3):L O:= if(a0.A !=a1.A) then(
 E F) else(
 if(a0.B !=a1.B) then(
 E F)
 else(
 if(a0.Depth !=a1.Depth) then(
  E F)
 else(
  if(a0.Minutes !=a1.Minutes) then(
  E F)
  else(
  if(a0.Meet==a1.Meet) then(
   E T)
  else(
   E F)))))
/- laws_eqSegmentS -/
def HK(a0 a1:H X3):P→N→L O
| 0,_=>G
| n+1,v2=>
 if(decide (v2<(a0.length:N))) then(
 (ix a0 v2).bind fun x4=>
 (ix a1 v2).bind fun x5=>
 (MJ x4 x5).bind fun r6=>
 if r6 then(
  HK a0 a1 n (zB .i64 (v2+(1:N))))
 else(
  E F))
 else(
 E T)
def MK(a0 a1:H X3):L O:= if((a0.length:N) !=(a1.length:N)) then(
 E F) else(
 HK a0 a1 bigN (0:N))
/- laws_eqChart -/
def My(a0 a1:X6):L O:= (MI a0.Points a1.Points).bind fun r1=> if r1 then(
 (MK a0.Segments a1.Segments).bind fun r3=>
 if r3 then(
 E T)
 else(
 E F)) else(
 E F)
/- laws_eqShip -/
def ML(a0 a1:X5):L O:= if(a0.Name==a1.Name) then(
 if(a0.Length !=a1.Length) then(
 E F)
 else(
 if(a0.Draught !=a1.Draught) then(
  E F)
 else(
  if(a0.Line !=a1.Line) then(
  E F)
  else(
  if(a0.Tugs !=a1.Tugs) then(
   E F)
  else(
   if(a0.Slow==a1.Slow) then(
   E T)
   else(
   E F)))))) else(
 E F)
/- laws_eqShipS -/
def HL(a0 a1:H X5):P→N→L O
| 0,_=>G
| n+1,v2=>
 if(decide (v2<(a0.length:N))) then(
 (ix a0 v2).bind fun x4=>
 (ix a1 v2).bind fun x5=>
 (ML x4 x5).bind fun r6=>
 if r6 then(
  HL a0 a1 n (zB .i64 (v2+(1:N))))
 else(
  E F))
 else(
 E T)
def MM(a0 a1:H X5):L O:= if((a0.length:N) !=(a1.length:N)) then(
 E F) else(
 HL a0 a1 bigN (0:N))
/- laws_eqRegime -/
def RQ(a0 a1:Xg):L O:= if(a0.Gap !=a1.Gap) then(
 E F) else(
 if(a0.NoMeet==a1.NoMeet) then(
 E T)
 else(
 E F))
/- laws_eqCrew -/
def RP(a0 a1:Xk):L O:= if(a0.Tugs !=a1.Tugs) then(
 E F) else(
 if(a0.Pilots !=a1.Pilots) then(
 E F)
 else(
 if(a0.Rest !=a1.Rest) then(
  E F)
 else(
  (HE a0.Moves a1.Moves).bind fun r4=>
  if r4 then(
  E T)
  else(
  E F))))
/- laws_eqHarbour -/
def MA(a0 a1:X7):L O:= (Mz a0.Forecast a1.Forecast).bind fun r1=> if r1 then(
 (My a0.Chart a1.Chart).bind fun r3=>
 if r3 then(
 (MM a0.Fleet a1.Fleet).bind fun r5=>
 if r5 then(
  (RQ a0.Regime a1.Regime).bind fun r7=>
  if r7 then(
  (RP a0.Crew a1.Crew).bind fun r9=>
  if r9 then(
   E T)
  else(
   E F))
  else(
  E F))
 else(
  E F))
 else(
 E F)) else(
 E F)
/- laws_eqCall -/
def RO(a0 a1:Xa):L O:= if(a0.Ship !=a1.Ship) then(
 E F) else(
 if(a0.From !=a1.From) then(
 E F)
 else(
 if(a0.To !=a1.To) then(
  E F)
 else(
  if(a0.Ready !=a1.Ready) then(
  E F)
  else(
  if(a0.Due !=a1.Due) then(
   E F)
  else(
   E T)))))
/- laws_eqCallS -/
def HD(a0 a1:H Xa):P→N→L O
| 0,_=>G
| n+1,v2=>
 if(decide (v2<(a0.length:N))) then(
 (ix a0 v2).bind fun x4=>
 (ix a1 v2).bind fun x5=>
 (RO x4 x5).bind fun r6=>
 if r6 then(
  HD a0 a1 n (zB .i64 (v2+(1:N))))
 else(
  E F))
 else(
 E T)
def Mx(a0 a1:H Xa):L O:= if((a0.length:N) !=(a1.length:N)) then(
 E F) else(
 HD a0 a1 bigN (0:N))
/- laws_eqPassage -/
def MF(a0 a1:X1):L O:= if(a0.Ship !=a1.Ship) then(
 E F) else(
 if(a0.Segment !=a1.Segment) then(
 E F)
 else(
 if(a0.Toward==a1.Toward) then(
  if(a0.Start !=a1.Start) then(
  E F)
  else(
  if(a0.End !=a1.End) then(
   E F)
  else(
   E T)))
 else(
  E F)))
/- laws_eqPassageS -/
def HI(a0 a1:H X1):P→N→L O
| 0,_=>G
| n+1,v2=>
 if(decide (v2<(a0.length:N))) then(
 (ix a0 v2).bind fun x4=>
 (ix a1 v2).bind fun x5=>
 (MF x4 x5).bind fun r6=>
 if r6 then(
  HI a0 a1 n (zB .i64 (v2+(1:N))))
 else(
  E F))
 else(
 E T)
def MG(a0 a1:H X1):L O:= if((a0.length:N) !=(a1.length:N)) then(
 E F) else(
 HI a0 a1 bigN (0:N))
/- laws_eqOption -/
def MB(a0 a1:X2):L O:= if(a0.Start !=a1.Start) then(
 E F) else(
 if(a0.Arrival !=a1.Arrival) then(
 E F)
 else(
 if(a0.Cost !=a1.Cost) then(
  E F)
 else(
  (MG a0.Passages a1.Passages).bind fun r4=>
  if r4 then(
  E T)
  else(
  E F))))
/- laws_eqOptionS -/
def HG(a0 a1:H X2):P→N→L O
| 0,_=>G
| n+1,v2=>
 if(decide (v2<(a0.length:N))) then(
 (ix a0 v2).bind fun x4=>
 (ix a1 v2).bind fun x5=>
 (MB x4 x5).bind fun r6=>
 if r6 then(
  HG a0 a1 n (zB .i64 (v2+(1:N))))
 else(
  E F))
 else(
 E T)
def MC(a0 a1:H X2):L O:= if((a0.length:N) !=(a1.length:N)) then(
 E F) else(
 HG a0 a1 bigN (0:N))
/- laws_markPartS -/
def F1:P→N→N→(H Xd)→L (N × H Xd)
| 0,_,_,_=>G
| n+1,v1,v2,v3=>
 if(decide (v2<(v3.length:N))) then(
 (ix v3 v2).bind fun x5=>
 (ix (v3.set (U v2) (⟨v1,x5.Period,x5.Phase⟩:Xd)) v2).bind fun x6=>
 (ix ((v3.set (U v2) (⟨v1,x5.Period,x5.Phase⟩:Xd)).set (U v2) (⟨x6.Amp,(zB .i64 (v1+(1:N))),x6.Phase⟩:Xd)) v2).bind fun x7=>
 F1 n (zB .i64 ((zB .i64 ((zB .i64 (v1+(1:N)))+(1:N)))+(1:N))) (zB .i64 (v2+(1:N))) (((v3.set (U v2) (⟨v1,x5.Period,x5.Phase⟩:Xd)).set (U v2) (⟨x6.Amp,(zB .i64 (v1+(1:N))),x6.Phase⟩:Xd)).set (U v2) (⟨x7.Amp,x7.Period,(zB .i64 ((zB .i64 (v1+(1:N)))+(1:N)))⟩:Xd)))
 else(
 E (v1,v3))
def JV(a0:H Xd)(a1:N):L (N × H Xd):= F1 bigN a1 (0:N) a0
/- laws_markTide -/
def K1(a0:Xj)(a1:N):L (N × H Xd):= (JV a0.Parts a1).bind fun r1=> E (r1.1,r1.2)
/- laws_markSurgeS -/
def F5:P→N→N→(H Xb)→L (N × H Xb)
| 0,_,_,_=>G
| n+1,v1,v2,v3=>
 if(decide (v2<(v3.length:N))) then(
 (ix v3 v2).bind fun x5=>
 (ix (v3.set (U v2) (⟨v1,x5.Low,x5.High⟩:Xb)) v2).bind fun x6=>
 (ix ((v3.set (U v2) (⟨v1,x5.Low,x5.High⟩:Xb)).set (U v2) (⟨x6.From,(zB .i64 (v1+(1:N))),x6.High⟩:Xb)) v2).bind fun x7=>
 F5 n (zB .i64 ((zB .i64 ((zB .i64 (v1+(1:N)))+(1:N)))+(1:N))) (zB .i64 (v2+(1:N))) (((v3.set (U v2) (⟨v1,x5.Low,x5.High⟩:Xb)).set (U v2) (⟨x6.From,(zB .i64 (v1+(1:N))),x6.High⟩:Xb)).set (U v2) (⟨x7.From,x7.Low,(zB .i64 ((zB .i64 (v1+(1:N)))+(1:N)))⟩:Xb)))
 else(
 E (v1,v3))
def JZ(a0:H Xb)(a1:N):L (N × H Xb):= F5 bigN a1 (0:N) a0
/- laws_markForecast -/
def JU(a0:Xc)(a1:N):L (N × H Xd × H Xb):= (K1 a0.Tide a1).bind fun r1=> (JZ a0.Surges r1.1).bind fun r2=> E (r2.1,r1.2,r2.2)
/- laws_markText -/
def HS:P→N→(H Q)→L (H Q)
| 0,_,_=>G
| n+1,v2,v3=>
 if(decide ((0:N)<v2)) then(
 if Jj ([(IntKind.u8.wrap (zB .i64 ((48:N)+(zB .i64 (I v2 (10:N))))))]:H N).length v3.length then(
  HS n (zB .i64 (X v2 (10:N))) ((W iN ([(IntKind.u8.wrap (zB .i64 ((48:N)+(zB .i64 (I v2 (10:N))))))]:H N))++v3))
 else G)
 else(
 if Jj ([109]:H Q).length v3.length then(
  E (([109]:H Q)++v3))
 else G)
def K0(a0:N):L (H Q):= if(decide (a0≤(0:N))) then(
 E ([109,48]:H Q)) else(
 HS bigN a0 ([]:H Q))
/- laws_markPointS -/
def F2:P→N→N→(H X9)→L (N × H X9)
| 0,_,_,_=>G
| n+1,v1,v2,v3=>
 if(decide (v2<(v3.length:N))) then(
 (K0 v1).bind fun r5=>
 (ix v3 v2).bind fun x6=>
 (ix (v3.set (U v2) (⟨r5,x6.Wait⟩:X9)) v2).bind fun x7=>
 F2 n (zB .i64 ((zB .i64 (v1+(1:N)))+(1:N))) (zB .i64 (v2+(1:N))) ((v3.set (U v2) (⟨r5,x6.Wait⟩:X9)).set (U v2) (⟨x7.Name,((zB .i64 (I (zB .i64 (v1+(1:N))) (3:N)))==(0:N))⟩:X9)))
 else(
 E (v1,v3))
def JW(a0:H X9)(a1:N):L (N × H X9):= F2 bigN a1 (0:N) a0
/- laws_markSegmentS -/
def F3:P→N→N→(H X3)→L (N × H X3)
| 0,_,_,_=>G
| n+1,v1,v2,v3=>
 if(decide (v2<(v3.length:N))) then(
 (ix v3 v2).bind fun x5=>
 (ix (v3.set (U v2) (⟨v1,x5.B,x5.Depth,x5.Minutes,x5.Meet⟩:X3)) v2).bind fun x6=>
 (ix ((v3.set (U v2) (⟨v1,x5.B,x5.Depth,x5.Minutes,x5.Meet⟩:X3)).set (U v2) (⟨x6.A,(zB .i64 (v1+(1:N))),x6.Depth,x6.Minutes,x6.Meet⟩:X3)) v2).bind fun x7=>
 (ix (((v3.set (U v2) (⟨v1,x5.B,x5.Depth,x5.Minutes,x5.Meet⟩:X3)).set (U v2) (⟨x6.A,(zB .i64 (v1+(1:N))),x6.Depth,x6.Minutes,x6.Meet⟩:X3)).set (U v2) (⟨x7.A,x7.B,(zB .i64 ((zB .i64 (v1+(1:N)))+(1:N))),x7.Minutes,x7.Meet⟩:X3)) v2).bind fun x8=>
 (ix ((((v3.set (U v2) (⟨v1,x5.B,x5.Depth,x5.Minutes,x5.Meet⟩:X3)).set (U v2) (⟨x6.A,(zB .i64 (v1+(1:N))),x6.Depth,x6.Minutes,x6.Meet⟩:X3)).set (U v2) (⟨x7.A,x7.B,(zB .i64 ((zB .i64 (v1+(1:N)))+(1:N))),x7.Minutes,x7.Meet⟩:X3)).set (U v2) (⟨x8.A,x8.B,x8.Depth,(zB .i64 ((zB .i64 ((zB .i64 (v1+(1:N)))+(1:N)))+(1:N))),x8.Meet⟩:X3)) v2).bind fun x9=>
 F3 n (zB .i64 ((zB .i64 ((zB .i64 ((zB .i64 ((zB .i64 (v1+(1:N)))+(1:N)))+(1:N)))+(1:N)))+(1:N))) (zB .i64 (v2+(1:N))) (((((v3.set (U v2) (⟨v1,x5.B,x5.Depth,x5.Minutes,x5.Meet⟩:X3)).set (U v2) (⟨x6.A,(zB .i64 (v1+(1:N))),x6.Depth,x6.Minutes,x6.Meet⟩:X3)).set (U v2) (⟨x7.A,x7.B,(zB .i64 ((zB .i64 (v1+(1:N)))+(1:N))),x7.Minutes,x7.Meet⟩:X3)).set (U v2) (⟨x8.A,x8.B,x8.Depth,(zB .i64 ((zB .i64 ((zB .i64 (v1+(1:N)))+(1:N)))+(1:N))),x8.Meet⟩:X3)).set (U v2) (⟨x9.A,x9.B,x9.Depth,x9.Minutes,((zB .i64 (I (zB .i64 ((zB .i64 ((zB .i64 ((zB .i64 (v1+(1:N)))+(1:N)))+(1:N)))+(1:N))) (3:N)))==(0:N))⟩:X3)))
 else(
 E (v1,v3))
def JX(a0:H X3)(a1:N):L (N × H X3):= F3 bigN a1 (0:N) a0
/- laws_markChart -/
def JS(a0:X6)(a1:N):L (N × H X9 × H X3):= (JW a0.Points a1).bind fun r1=> (JX a0.Segments r1.1).bind fun r2=> E (r2.1,r1.2,r2.2)
/- laws_markShipS -/
def F4:P→N→N→(H X5)→L (N × H X5)
| 0,_,_,_=>G
| n+1,v1,v2,v3=>
 if(decide (v2<(v3.length:N))) then(
 (K0 v1).bind fun r5=>
 (ix v3 v2).bind fun x6=>
 (ix (v3.set (U v2) (⟨r5,x6.Length,x6.Draught,x6.Line,x6.Tugs,x6.Slow⟩:X5)) v2).bind fun x7=>
 (ix ((v3.set (U v2) (⟨r5,x6.Length,x6.Draught,x6.Line,x6.Tugs,x6.Slow⟩:X5)).set (U v2) (⟨x7.Name,(zB .i64 (v1+(1:N))),x7.Draught,x7.Line,x7.Tugs,x7.Slow⟩:X5)) v2).bind fun x8=>
 (ix (((v3.set (U v2) (⟨r5,x6.Length,x6.Draught,x6.Line,x6.Tugs,x6.Slow⟩:X5)).set (U v2) (⟨x7.Name,(zB .i64 (v1+(1:N))),x7.Draught,x7.Line,x7.Tugs,x7.Slow⟩:X5)).set (U v2) (⟨x8.Name,x8.Length,(zB .i64 ((zB .i64 (v1+(1:N)))+(1:N))),x8.Line,x8.Tugs,x8.Slow⟩:X5)) v2).bind fun x9=>
 (ix ((((v3.set (U v2) (⟨r5,x6.Length,x6.Draught,x6.Line,x6.Tugs,x6.Slow⟩:X5)).set (U v2) (⟨x7.Name,(zB .i64 (v1+(1:N))),x7.Draught,x7.Line,x7.Tugs,x7.Slow⟩:X5)).set (U v2) (⟨x8.Name,x8.Length,(zB .i64 ((zB .i64 (v1+(1:N)))+(1:N))),x8.Line,x8.Tugs,x8.Slow⟩:X5)).set (U v2) (⟨x9.Name,x9.Length,x9.Draught,(zB .i64 ((zB .i64 ((zB .i64 (v1+(1:N)))+(1:N)))+(1:N))),x9.Tugs,x9.Slow⟩:X5)) v2).bind fun x10=>
 (ix (((((v3.set (U v2) (⟨r5,x6.Length,x6.Draught,x6.Line,x6.Tugs,x6.Slow⟩:X5)).set (U v2) (⟨x7.Name,(zB .i64 (v1+(1:N))),x7.Draught,x7.Line,x7.Tugs,x7.Slow⟩:X5)).set (U v2) (⟨x8.Name,x8.Length,(zB .i64 ((zB .i64 (v1+(1:N)))+(1:N))),x8.Line,x8.Tugs,x8.Slow⟩:X5)).set (U v2) (⟨x9.Name,x9.Length,x9.Draught,(zB .i64 ((zB .i64 ((zB .i64 (v1+(1:N)))+(1:N)))+(1:N))),x9.Tugs,x9.Slow⟩:X5)).set (U v2) (⟨x10.Name,x10.Length,x10.Draught,x10.Line,(zB .i64 ((zB .i64 ((zB .i64 ((zB .i64 (v1+(1:N)))+(1:N)))+(1:N)))+(1:N))),x10.Slow⟩:X5)) v2).bind fun x11=>
 F4 n (zB .i64 ((zB .i64 ((zB .i64 ((zB .i64 ((zB .i64 ((zB .i64 (v1+(1:N)))+(1:N)))+(1:N)))+(1:N)))+(1:N)))+(1:N))) (zB .i64 (v2+(1:N))) ((((((v3.set (U v2) (⟨r5,x6.Length,x6.Draught,x6.Line,x6.Tugs,x6.Slow⟩:X5)).set (U v2) (⟨x7.Name,(zB .i64 (v1+(1:N))),x7.Draught,x7.Line,x7.Tugs,x7.Slow⟩:X5)).set (U v2) (⟨x8.Name,x8.Length,(zB .i64 ((zB .i64 (v1+(1:N)))+(1:N))),x8.Line,x8.Tugs,x8.Slow⟩:X5)).set (U v2) (⟨x9.Name,x9.Length,x9.Draught,(zB .i64 ((zB .i64 ((zB .i64 (v1+(1:N)))+(1:N)))+(1:N))),x9.Tugs,x9.Slow⟩:X5)).set (U v2) (⟨x10.Name,x10.Length,x10.Draught,x10.Line,(zB .i64 ((zB .i64 ((zB .i64 ((zB .i64 (v1+(1:N)))+(1:N)))+(1:N)))+(1:N))),x10.Slow⟩:X5)).set (U v2) (⟨x11.Name,x11.Length,x11.Draught,x11.Line,x11.Tugs,((zB .i64 (I (zB .i64 ((zB .i64 ((zB .i64 ((zB .i64 ((zB .i64 (v1+(1:N)))+(1:N)))+(1:N)))+(1:N)))+(1:N))) (3:N)))==(0:N))⟩:X5)))
 else(
 E (v1,v3))
def JY(a0:H X5)(a1:N):L (N × H X5):= F4 bigN a1 (0:N) a0
/- laws_markIntS -/
def Dq:P→N→N→(H N)→L (N × H N)
| 0,_,_,_=>G
| n+1,v1,v2,v3=>
 if(decide (v2<(v3.length:N))) then(
 (ix v3 v2).bind fun x5=>
 Dq n (zB .i64 (v1+(1:N))) (zB .i64 (v2+(1:N))) (v3.set (U v2) v1))
 else(
 E (v1,v3))
def Ef(a0:H N)(a1:N):L (N × H N):= Dq bigN a1 (0:N) a0
/- laws_markCrew -/
def JT(a0:Xk)(a1:N):L (N × H N):= (Ef a0.Moves a1).bind fun r1=> E (r1.1,r1.2)
/- laws_markHarbour -/
def HP(a0:X7)(a1:N):L (N × H Xd × H Xb × H X9 × H X3 × H X5 × H N):= (JU a0.Forecast a1).bind fun r1=> (JS a0.Chart r1.1).bind fun r2=> (JY a0.Fleet r2.1).bind fun r3=> (JT a0.Crew r3.1).bind fun r4=> E (r4.1,r1.2.1,r1.2.2,r2.2.1,r2.2.2,r3.2,r4.2)
/- laws_markCallS -/
def F0:P→N→N→(H Xa)→L (N × H Xa)
| 0,_,_,_=>G
| n+1,v1,v2,v3=>
 if(decide (v2<(v3.length:N))) then(
 (ix v3 v2).bind fun x5=>
 (ix (v3.set (U v2) (⟨v1,x5.From,x5.To,x5.Ready,x5.Due⟩:Xa)) v2).bind fun x6=>
 (ix ((v3.set (U v2) (⟨v1,x5.From,x5.To,x5.Ready,x5.Due⟩:Xa)).set (U v2) (⟨x6.Ship,(zB .i64 (v1+(1:N))),x6.To,x6.Ready,x6.Due⟩:Xa)) v2).bind fun x7=>
 (ix (((v3.set (U v2) (⟨v1,x5.From,x5.To,x5.Ready,x5.Due⟩:Xa)).set (U v2) (⟨x6.Ship,(zB .i64 (v1+(1:N))),x6.To,x6.Ready,x6.Due⟩:Xa)).set (U v2) (⟨x7.Ship,x7.From,(zB .i64 ((zB .i64 (v1+(1:N)))+(1:N))),x7.Ready,x7.Due⟩:Xa)) v2).bind fun x8=>
 (ix ((((v3.set (U v2) (⟨v1,x5.From,x5.To,x5.Ready,x5.Due⟩:Xa)).set (U v2) (⟨x6.Ship,(zB .i64 (v1+(1:N))),x6.To,x6.Ready,x6.Due⟩:Xa)).set (U v2) (⟨x7.Ship,x7.From,(zB .i64 ((zB .i64 (v1+(1:N)))+(1:N))),x7.Ready,x7.Due⟩:Xa)).set (U v2) (⟨x8.Ship,x8.From,x8.To,(zB .i64 ((zB .i64 ((zB .i64 (v1+(1:N)))+(1:N)))+(1:N))),x8.Due⟩:Xa)) v2).bind fun x9=>
 F0 n (zB .i64 ((zB .i64 ((zB .i64 ((zB .i64 ((zB .i64 (v1+(1:N)))+(1:N)))+(1:N)))+(1:N)))+(1:N))) (zB .i64 (v2+(1:N))) (((((v3.set (U v2) (⟨v1,x5.From,x5.To,x5.Ready,x5.Due⟩:Xa)).set (U v2) (⟨x6.Ship,(zB .i64 (v1+(1:N))),x6.To,x6.Ready,x6.Due⟩:Xa)).set (U v2) (⟨x7.Ship,x7.From,(zB .i64 ((zB .i64 (v1+(1:N)))+(1:N))),x7.Ready,x7.Due⟩:Xa)).set (U v2) (⟨x8.Ship,x8.From,x8.To,(zB .i64 ((zB .i64 ((zB .i64 (v1+(1:N)))+(1:N)))+(1:N))),x8.Due⟩:Xa)).set (U v2) (⟨x9.Ship,x9.From,x9.To,x9.Ready,(zB .i64 ((zB .i64 ((zB .i64 ((zB .i64 (v1+(1:N)))+(1:N)))+(1:N)))+(1:N)))⟩:Xa)))
 else(
 E (v1,v3))
def JR(a0:H Xa)(a1:N):L (N × H Xa):= F0 bigN a1 (0:N) a0
/- laws_markPassageS_d -/
def HR(a0:H X1):P→N→N→L N
| 0,_,_=>G
| n+1,v1,v2=>
 if(decide (v2<(a0.length:N))) then(
 (ix a0 v2).bind fun x4=>
 HR a0 n (zB .i64 ((zB .i64 ((zB .i64 ((zB .i64 ((zB .i64 (v1+(1:N)))+(1:N)))+(1:N)))+(1:N)))+(1:N))) (zB .i64 (v2+(1:N))))
 else(
 E v1)
def RW(a0:H X1)(a1:N):L N:= HR a0 bigN a1 (0:N)
/- laws_markOptionS_d -/
def HQ(a0:H X2):P→N→N→L N
| 0,_,_=>G
| n+1,v1,v2=>
 if(decide (v2<(a0.length:N))) then(
 (ix a0 v2).bind fun x4=>
 (RW x4.Passages (zB .i64 ((zB .i64 ((zB .i64 (v1+(1:N)))+(1:N)))+(1:N)))).bind fun r5=>
 HQ a0 n r5 (zB .i64 (v2+(1:N))))
 else(
 E v1)
def RU(a0:H X2)(a1:N):L N:= HQ a0 bigN a1 (0:N)
/- laws_markAccount -/
def HO(a0:Xh)(a1:N):L (N × H N × H N):= (Ef a0.Waits a1).bind fun r1=> (Ef a0.Calls r1.1).bind fun r2=> E (r2.1,r1.2,r2.2)
/- laws_heldIntS -/
def HN(a0:H N):P→N→N→L N
| 0,_,_=>G
| n+1,v1,v2=>
 if(decide (v2<(a0.length:N))) then(
 (ix a0 v2).bind fun x4=>
 if(x4 !=v1) then(
  E (-1:N))
 else(
  HN a0 n (zB .i64 (v1+(1:N))) (zB .i64 (v2+(1:N)))))
 else(
 E v1)
def JQ(a0:H N)(a1:N):L N:= HN a0 bigN a1 (0:N)
/- laws_heldAccount -/
def JP(a0:Xh)(a1:N):L N:= (JQ a0.Waits a1).bind fun r1=> if(decide (r1<(0:N))) then(
 E (-1:N)) else(
 (JQ a0.Calls r1).bind fun r3=>
 if(decide (r3<(0:N))) then(
 E (-1:N))
 else(
 E r3))
/- laws_FnExactAccountOf -/
def Mw(a0:X7)(a1:H Xa)(a2:H X2):L O:= (MS a0 (1048576:N)).bind fun r1=> if(decide (r1<(0:N))) then(
 E T) else(
 (MP a1 r1).bind fun r3=>
 if(decide (r3<(0:N))) then(
 E T)
 else(
 (MV a2 r3).bind fun r5=>
 if(decide (r5<(0:N))) then(
  E T)
 else(
  (FZ a0).bind fun r7=>
  (FY a1).bind fun r9=>
  (G0 a2).bind fun r10=>
  (Ng r7 r9 r10).bind fun r11=>
  (FZ a0).bind fun r12=>
  (FY a1).bind fun r13=>
  (G0 a2).bind fun r14=>
  (Jy r12 r13 r14).bind fun r15=>
  (HC r15.1 r11.1).bind fun r16=>
  if r16 then(
  if(r15.2==r11.2) then(
   (FZ a0).bind fun r19=>
   (MA r12 r19).bind fun r20=>
   if r20 then(
   (FY a1).bind fun r22=>
   (Mx r13 r22).bind fun r23=>
   if r23 then(
    (G0 a2).bind fun r25=>
    (MC r14 r25).bind fun r26=>
    if r26 then(
    (HP r12 (1:N)).bind fun r28=>
    (JR r13 r28.1).bind fun r29=>
    (RU r14 r29.1).bind fun r30=>
    if(decide (r30<(0:N))) then(
     E F)
    else(
     (HC r15.1 r11.1).bind fun r32=>
     if r32 then(
     (HO r15.1 (1:N)).bind fun r34=>
     (JP (⟨r34.2.1,r34.2.2⟩:Xh) (1:N)).bind fun r35=>
     if(decide (r35<(0:N))) then(
      E F)
     else(
      if(r35 !=r34.1) then(
      E F)
      else(
      (FZ a0).bind fun r38=>
      (FY a1).bind fun r39=>
      (G0 a2).bind fun r40=>
      (Jy r38 r39 r40).bind fun r41=>
      (HC r41.1 r11.1).bind fun r42=>
      if r42 then(
       if(r41.2==r11.2) then(
       (JP (⟨r34.2.1,r34.2.2⟩:Xh) (1:N)).bind fun r45=>
       if(decide (r45<(0:N))) then(
        E F)
       else(
        if(r45 !=r34.1) then(
        E F)
        else(
        E T)))
       else(
       E F))
      else(
       E F))))
     else(
     E F)))
    else(
    E F))
   else(
    E F))
   else(
   E F))
  else(
   E F))
  else(
  E F))))
end Go.Vi
