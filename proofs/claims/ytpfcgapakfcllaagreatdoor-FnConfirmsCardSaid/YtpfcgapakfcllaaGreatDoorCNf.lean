/-
Plain definitions of functions. No condition.
-/
import Derived.Test.YtpfcgapakfcllaaGreatDoorCVi43
import Derived.Test.YtpfcgapakfcllaaGreatDoorCLa
namespace Go.Vi
set_option linter.all false
open List renaming map → zB, replicate → zD, not_mem_nil → zG, mem_cons → zH, all_cons → zK, all_nil → zL
open Nat renaming le_of_ble_eq_true → zC
open Int renaming toNat → zE, tdiv → zI, tmod → zJ
open And renaming intro → zF
open IntKind renaming wrap → zM
open Bool renaming true → F, false → E
open Option renaming some → O, none → U
open _root_ renaming List → V, Option → W, Int → X, Bool → Y, Nat → Z, UInt8 → zA
def B5(k:IntKind)(x:X)(n:Z):X:=k.wrap (x.fdiv (2 ^ min n k.bits))
theorem Ya{k:IntKind}{x:X}:Bv .shr (.v (.sc (.dat (.int k x)))) (.v (.sc (.dat (.int .u64 8))))=O (.v (.sc (.dat (.int k (B5 k x 8))))):=by simp[Bv,Au,B5]
theorem gE{k:IntKind}{x:X}:Au .shr k x 8=O (.int k (B5 k x 8)):=by simp[Au,B5]
theorem Y6{k:IntKind}{x:X}:Bv .shr (.v (.sc (.dat (.int k x)))) (.v (.sc (.dat (.int .u64 16))))=O (.v (.sc (.dat (.int k (B5 k x 16))))):=by simp[Bv,Au,B5]
theorem gA{k:IntKind}{x:X}:Au .shr k x 16=O (.int k (B5 k x 16)):=by simp[Au,B5]
theorem Y7{k:IntKind}{x:X}:Bv .shr (.v (.sc (.dat (.int k x)))) (.v (.sc (.dat (.int .u64 32))))=O (.v (.sc (.dat (.int k (B5 k x 32))))):=by simp[Bv,Au,B5]
theorem gB{k:IntKind}{x:X}:Au .shr k x 32=O (.int k (B5 k x 32)):=by simp[Au,B5]
theorem Y8{k:IntKind}{x:X}:Bv .shr (.v (.sc (.dat (.int k x)))) (.v (.sc (.dat (.int .u64 33))))=O (.v (.sc (.dat (.int k (B5 k x 33))))):=by simp[Bv,Au,B5]
theorem gC{k:IntKind}{x:X}:Au .shr k x 33=O (.int k (B5 k x 33)):=by simp[Au,B5]
theorem Y9{k:IntKind}{x:X}:Bv .shr (.v (.sc (.dat (.int k x)))) (.v (.sc (.dat (.int .u64 45))))=O (.v (.sc (.dat (.int k (B5 k x 45))))):=by simp[Bv,Au,B5]
theorem gD{k:IntKind}{x:X}:Au .shr k x 45=O (.int k (B5 k x 45)):=by simp[Au,B5]
structure Xm where
 isS:Y
 s:V zA
 n:X
 deriving DecidableEq
def J8(x:Xm):D:= .ifc (bif x.isS then 9 else 3) (bif x.isS then .str x.s else .int .i64 x.n)
theorem WR{t:TypeId}{zc:AC}{x:Xm}:Et t zc (.v (.sc (.dat (J8 x))))=Et t zc (.v (.sc (.dat (.ifc (bif x.isS then 9 else 3) (bif x.isS then .str x.s else .int .i64 x.n))))):=rfl
def rA(x:Xm):V D:= [J8 x]
theorem ke(x:Xm):rA x= [J8 x]:=rfl
instance:Row rA 1:=⟨fun _=>rfl,zC rfl⟩
structure Xn where
 b:V X
 i:X
 h:X
 deriving DecidableEq
def Xn.row(x:Xn):V D:= [.sl (zB r8 x.b),.int .i64 x.i,.int .i64 x.h]
theorem Xn.row_eq(x:Xn):Xn.row x= [.sl (zB r8 x.b),.int .i64 x.i,.int .i64 x.h]:=rfl
instance:Row Xn.row 3:=⟨fun _=>rfl,zC rfl⟩
instance:OfTy (.st [(.sl (.int .u8)),(.int .i64),(.int .i64)]) Xn.row:=⟨fun ds h=>by
 obtain⟨a0,b0,h0,t0,rfl⟩:=h;obtain⟨a1,b1,h1,t1,rfl⟩:=t0;obtain⟨a2,b2,h2,t2,rfl⟩:=t1;obtain rfl:=t2;obtain⟨x0,rfl⟩:=OfTy.of (row:=(rL r8)) _ h0;obtain⟨x1,rfl⟩:=OfTy.of (row:=rI) _ h1;obtain⟨x2,rfl⟩:=OfTy.of (row:=rI) _ h2;exact⟨⟨x0,x1,x2⟩,rfl⟩⟩
structure Xf where
 Amp:X
 Period:X
 Phase:X
 deriving DecidableEq
def Xf.row(x:Xf):V D:= [.int .i64 x.Amp,.int .i64 x.Period,.int .i64 x.Phase]
theorem Xf.row_eq(x:Xf):Xf.row x= [.int .i64 x.Amp,.int .i64 x.Period,.int .i64 x.Phase]:=rfl
instance:Row Xf.row 3:=⟨fun _=>rfl,zC rfl⟩
instance:FlatRow Xf.row:=⟨fun x d hd=>by simp only[Xf.row_eq,zH,zG,or_false] at hd; rcases hd with rfl | rfl | rfl<;>rfl⟩
instance:OfTy (.st [(.int .i64),(.int .i64),(.int .i64)]) Xf.row:=⟨fun ds h=>by
 obtain⟨a0,b0,h0,t0,rfl⟩:=h;obtain⟨a1,b1,h1,t1,rfl⟩:=t0;obtain⟨a2,b2,h2,t2,rfl⟩:=t1;obtain rfl:=t2;obtain⟨x0,rfl⟩:=OfTy.of (row:=rI) _ h0;obtain⟨x1,rfl⟩:=OfTy.of (row:=rI) _ h1;obtain⟨x2,rfl⟩:=OfTy.of (row:=rI) _ h2;exact⟨⟨x0,x1,x2⟩,rfl⟩⟩
structure Xp where
 Mean:X
 Parts:V Xf
 deriving DecidableEq
def Xp.row(x:Xp):V D:= [.int .i64 x.Mean,.sl (zB Xf.row x.Parts)]
theorem Xp.row_eq(x:Xp):Xp.row x= [.int .i64 x.Mean,.sl (zB Xf.row x.Parts)]:=rfl
instance:Row Xp.row 2:=⟨fun _=>rfl,zC rfl⟩
instance:OfTy (.st [(.int .i64),(.sl (.st [(.int .i64),(.int .i64),(.int .i64)]))]) Xp.row:=⟨fun ds h=>by
 obtain⟨a0,b0,h0,t0,rfl⟩:=h;obtain⟨a1,b1,h1,t1,rfl⟩:=t0;obtain rfl:=t1;obtain⟨x0,rfl⟩:=OfTy.of (row:=rI) _ h0;obtain⟨x1,rfl⟩:=OfTy.of (row:=(rL Xf.row)) _ h1;exact⟨⟨x0,x1⟩,rfl⟩⟩
structure Xb where
 From:X
 Low:X
 High:X
 deriving DecidableEq
def Xb.row(x:Xb):V D:= [.int .i64 x.From,.int .i64 x.Low,.int .i64 x.High]
theorem Xb.row_eq(x:Xb):Xb.row x= [.int .i64 x.From,.int .i64 x.Low,.int .i64 x.High]:=rfl
instance:Row Xb.row 3:=⟨fun _=>rfl,zC rfl⟩
instance:FlatRow Xb.row:=⟨fun x d hd=>by simp only[Xb.row_eq,zH,zG,or_false] at hd; rcases hd with rfl | rfl | rfl<;>rfl⟩
instance:OfTy (.st [(.int .i64),(.int .i64),(.int .i64)]) Xb.row:=⟨fun ds h=>by
 obtain⟨a0,b0,h0,t0,rfl⟩:=h;obtain⟨a1,b1,h1,t1,rfl⟩:=t0;obtain⟨a2,b2,h2,t2,rfl⟩:=t1;obtain rfl:=t2;obtain⟨x0,rfl⟩:=OfTy.of (row:=rI) _ h0;obtain⟨x1,rfl⟩:=OfTy.of (row:=rI) _ h1;obtain⟨x2,rfl⟩:=OfTy.of (row:=rI) _ h2;exact⟨⟨x0,x1,x2⟩,rfl⟩⟩
structure Xh where
 Tide:Xp
 Surges:V Xb
 deriving DecidableEq
def Xh.row(x:Xh):V D:= [.int .i64 x.Tide.Mean,.sl (zB Xf.row x.Tide.Parts),.sl (zB Xb.row x.Surges)]
theorem Xh.row_eq(x:Xh):Xh.row x= [.int .i64 x.Tide.Mean,.sl (zB Xf.row x.Tide.Parts),.sl (zB Xb.row x.Surges)]:=rfl
instance:Row Xh.row 3:=⟨fun _=>rfl,zC rfl⟩
instance:OfTy (.st [(.st [(.int .i64),(.sl (.st [(.int .i64),(.int .i64),(.int .i64)]))]),(.sl (.st [(.int .i64),(.int .i64),(.int .i64)]))]) Xh.row:=⟨fun ds h=>by
 obtain⟨a0,b0,h0,t0,rfl⟩:=h;obtain⟨a1,b1,h1,t1,rfl⟩:=t0;obtain rfl:=t1;obtain⟨x0,rfl⟩:=OfTy.of (row:=Xp.row) _ h0;obtain⟨x1,rfl⟩:=OfTy.of (row:=(rL Xb.row)) _ h1;exact⟨⟨x0,x1⟩,rfl⟩⟩
structure Xd where
 Name:V zA
 Wait:Y
 deriving DecidableEq
def Xd.row(x:Xd):V D:= [.str x.Name,.bool x.Wait]
theorem Xd.row_eq(x:Xd):Xd.row x= [.str x.Name,.bool x.Wait]:=rfl
instance:Row Xd.row 2:=⟨fun _=>rfl,zC rfl⟩
instance:FlatRow Xd.row:=⟨fun x d hd=>by simp only[Xd.row_eq,zH,zG,or_false] at hd; rcases hd with rfl | rfl<;>rfl⟩
instance:OfTy (.st [.str,.bool]) Xd.row:=⟨fun ds h=>by
 obtain⟨a0,b0,h0,t0,rfl⟩:=h;obtain⟨a1,b1,h1,t1,rfl⟩:=t0;obtain rfl:=t1;obtain⟨x0,rfl⟩:=OfTy.of (row:=rS) _ h0;obtain⟨x1,rfl⟩:=OfTy.of (row:=rB) _ h1;exact⟨⟨x0,x1⟩,rfl⟩⟩
structure X6 where
 A:X
 B:X
 Depth:X
 Minutes:X
 Meet:Y
 deriving DecidableEq
def X6.row(x:X6):V D:= [.int .i64 x.A,.int .i64 x.B,.int .i64 x.Depth,.int .i64 x.Minutes,.bool x.Meet]
theorem X6.row_eq(x:X6):X6.row x= [.int .i64 x.A,.int .i64 x.B,.int .i64 x.Depth,.int .i64 x.Minutes,.bool x.Meet]:=rfl
instance:Row X6.row 5:=⟨fun _=>rfl,zC rfl⟩
instance:FlatRow X6.row:=⟨fun x d hd=>by simp only[X6.row_eq,zH,zG,or_false] at hd; rcases hd with rfl | rfl | rfl | rfl | rfl<;>rfl⟩
instance:OfTy (.st [(.int .i64),(.int .i64),(.int .i64),(.int .i64),.bool]) X6.row:=⟨fun ds h=>by
 obtain⟨a0,b0,h0,t0,rfl⟩:=h;obtain⟨a1,b1,h1,t1,rfl⟩:=t0;obtain⟨a2,b2,h2,t2,rfl⟩:=t1;obtain⟨a3,b3,h3,t3,rfl⟩:=t2;obtain⟨a4,b4,h4,t4,rfl⟩:=t3;obtain rfl:=t4;obtain⟨x0,rfl⟩:=OfTy.of (row:=rI) _ h0;obtain⟨x1,rfl⟩:=OfTy.of (row:=rI) _ h1;obtain⟨x2,rfl⟩:=OfTy.of (row:=rI) _ h2;obtain⟨x3,rfl⟩:=OfTy.of (row:=rI) _ h3;obtain⟨x4,rfl⟩:=OfTy.of (row:=rB) _ h4;exact⟨⟨x0,x1,x2,x3,x4⟩,rfl⟩⟩
structure X5 where
 Points:V Xd
 Segments:V X6
 deriving DecidableEq
def X5.row(x:X5):V D:= [.sl (zB Xd.row x.Points),.sl (zB X6.row x.Segments)]
theorem X5.row_eq(x:X5):X5.row x= [.sl (zB Xd.row x.Points),.sl (zB X6.row x.Segments)]:=rfl
instance:Row X5.row 2:=⟨fun _=>rfl,zC rfl⟩
instance:OfTy (.st [(.sl (.st [.str,.bool])),(.sl (.st [(.int .i64),(.int .i64),(.int .i64),(.int .i64),.bool]))]) X5.row:=⟨fun ds h=>by
 obtain⟨a0,b0,h0,t0,rfl⟩:=h;obtain⟨a1,b1,h1,t1,rfl⟩:=t0;obtain rfl:=t1;obtain⟨x0,rfl⟩:=OfTy.of (row:=(rL Xd.row)) _ h0;obtain⟨x1,rfl⟩:=OfTy.of (row:=(rL X6.row)) _ h1;exact⟨⟨x0,x1⟩,rfl⟩⟩
structure X8 where
 Name:V zA
 Length:X
 Draught:X
 Line:X
 Tugs:X
 Slow:Y
 deriving DecidableEq
def X8.row(x:X8):V D:= [.str x.Name,.int .i64 x.Length,.int .i64 x.Draught,.int .i64 x.Line,.int .i64 x.Tugs,.bool x.Slow]
theorem X8.row_eq(x:X8):X8.row x= [.str x.Name,.int .i64 x.Length,.int .i64 x.Draught,.int .i64 x.Line,.int .i64 x.Tugs,.bool x.Slow]:=rfl
instance:Row X8.row 6:=⟨fun _=>rfl,zC rfl⟩
instance:FlatRow X8.row:=⟨fun x d hd=>by simp only[X8.row_eq,zH,zG,or_false] at hd; rcases hd with rfl | rfl | rfl | rfl | rfl | rfl<;>rfl⟩
instance:OfTy (.st [.str,(.int .i64),(.int .i64),(.int .i64),(.int .i64),.bool]) X8.row:=⟨fun ds h=>by
 obtain⟨a0,b0,h0,t0,rfl⟩:=h;obtain⟨a1,b1,h1,t1,rfl⟩:=t0;obtain⟨a2,b2,h2,t2,rfl⟩:=t1;obtain⟨a3,b3,h3,t3,rfl⟩:=t2;obtain⟨a4,b4,h4,t4,rfl⟩:=t3;obtain⟨a5,b5,h5,t5,rfl⟩:=t4;obtain rfl:=t5;obtain⟨x0,rfl⟩:=OfTy.of (row:=rS) _ h0;obtain⟨x1,rfl⟩:=OfTy.of (row:=rI) _ h1;obtain⟨x2,rfl⟩:=OfTy.of (row:=rI) _ h2;obtain⟨x3,rfl⟩:=OfTy.of (row:=rI) _ h3;obtain⟨x4,rfl⟩:=OfTy.of (row:=rI) _ h4;obtain⟨x5,rfl⟩:=OfTy.of (row:=rB) _ h5;exact⟨⟨x0,x1,x2,x3,x4,x5⟩,rfl⟩⟩
structure Xl where
 Gap:X
 NoMeet:Y
 deriving DecidableEq
def Xl.row(x:Xl):V D:= [.int .i64 x.Gap,.bool x.NoMeet]
theorem Xl.row_eq(x:Xl):Xl.row x= [.int .i64 x.Gap,.bool x.NoMeet]:=rfl
instance:Row Xl.row 2:=⟨fun _=>rfl,zC rfl⟩
instance:FlatRow Xl.row:=⟨fun x d hd=>by simp only[Xl.row_eq,zH,zG,or_false] at hd; rcases hd with rfl | rfl<;>rfl⟩
instance:OfTy (.st [(.int .i64),.bool]) Xl.row:=⟨fun ds h=>by
 obtain⟨a0,b0,h0,t0,rfl⟩:=h;obtain⟨a1,b1,h1,t1,rfl⟩:=t0;obtain rfl:=t1;obtain⟨x0,rfl⟩:=OfTy.of (row:=rI) _ h0;obtain⟨x1,rfl⟩:=OfTy.of (row:=rB) _ h1;exact⟨⟨x0,x1⟩,rfl⟩⟩
structure Xq where
 Tugs:X
 Pilots:X
 Rest:X
 Moves:V X
 deriving DecidableEq
def Xq.row(x:Xq):V D:= [.int .i64 x.Tugs,.int .i64 x.Pilots,.int .i64 x.Rest,.sl (zB rI x.Moves)]
theorem Xq.row_eq(x:Xq):Xq.row x= [.int .i64 x.Tugs,.int .i64 x.Pilots,.int .i64 x.Rest,.sl (zB rI x.Moves)]:=rfl
instance:Row Xq.row 4:=⟨fun _=>rfl,zC rfl⟩
instance:OfTy (.st [(.int .i64),(.int .i64),(.int .i64),(.sl (.int .i64))]) Xq.row:=⟨fun ds h=>by
 obtain⟨a0,b0,h0,t0,rfl⟩:=h;obtain⟨a1,b1,h1,t1,rfl⟩:=t0;obtain⟨a2,b2,h2,t2,rfl⟩:=t1;obtain⟨a3,b3,h3,t3,rfl⟩:=t2;obtain rfl:=t3;obtain⟨x0,rfl⟩:=OfTy.of (row:=rI) _ h0;obtain⟨x1,rfl⟩:=OfTy.of (row:=rI) _ h1;obtain⟨x2,rfl⟩:=OfTy.of (row:=rI) _ h2;obtain⟨x3,rfl⟩:=OfTy.of (row:=(rL rI)) _ h3;exact⟨⟨x0,x1,x2,x3⟩,rfl⟩⟩
structure X2 where
 Forecast:Xh
 Chart:X5
 Fleet:V X8
 Regime:Xl
 Crew:Xq
 deriving DecidableEq
def X2.row(x:X2):V D:= [.int .i64 x.Forecast.Tide.Mean,.sl (zB Xf.row x.Forecast.Tide.Parts),.sl (zB Xb.row x.Forecast.Surges),.sl (zB Xd.row x.Chart.Points),.sl (zB X6.row x.Chart.Segments),.sl (zB X8.row x.Fleet),.int .i64 x.Regime.Gap,.bool x.Regime.NoMeet,.int .i64 x.Crew.Tugs,.int .i64 x.Crew.Pilots,.int .i64 x.Crew.Rest,.sl (zB rI x.Crew.Moves)]
theorem X2.row_eq(x:X2):X2.row x= [.int .i64 x.Forecast.Tide.Mean,.sl (zB Xf.row x.Forecast.Tide.Parts),.sl (zB Xb.row x.Forecast.Surges),.sl (zB Xd.row x.Chart.Points),.sl (zB X6.row x.Chart.Segments),.sl (zB X8.row x.Fleet),.int .i64 x.Regime.Gap,.bool x.Regime.NoMeet,.int .i64 x.Crew.Tugs,.int .i64 x.Crew.Pilots,.int .i64 x.Crew.Rest,.sl (zB rI x.Crew.Moves)]:=rfl
instance:Row X2.row 12:=⟨fun _=>rfl,zC rfl⟩
instance:OfTy (.st [(.st [(.st [(.int .i64),(.sl (.st [(.int .i64),(.int .i64),(.int .i64)]))]),(.sl (.st [(.int .i64),(.int .i64),(.int .i64)]))]),(.st [(.sl (.st [.str,.bool])),(.sl (.st [(.int .i64),(.int .i64),(.int .i64),(.int .i64),.bool]))]),(.sl (.st [.str,(.int .i64),(.int .i64),(.int .i64),(.int .i64),.bool])),(.st [(.int .i64),.bool]),(.st [(.int .i64),(.int .i64),(.int .i64),(.sl (.int .i64))])]) X2.row:=⟨fun ds h=>by
 obtain⟨a0,b0,h0,t0,rfl⟩:=h;obtain⟨a1,b1,h1,t1,rfl⟩:=t0;obtain⟨a2,b2,h2,t2,rfl⟩:=t1;obtain⟨a3,b3,h3,t3,rfl⟩:=t2;obtain⟨a4,b4,h4,t4,rfl⟩:=t3;obtain rfl:=t4;obtain⟨x0,rfl⟩:=OfTy.of (row:=Xh.row) _ h0;obtain⟨x1,rfl⟩:=OfTy.of (row:=X5.row) _ h1;obtain⟨x2,rfl⟩:=OfTy.of (row:=(rL X8.row)) _ h2;obtain⟨x3,rfl⟩:=OfTy.of (row:=Xl.row) _ h3;obtain⟨x4,rfl⟩:=OfTy.of (row:=Xq.row) _ h4;exact⟨⟨x0,x1,x2,x3,x4⟩,rfl⟩⟩
structure X4 where
 Ship:X
 From:X
 To:X
 Ready:X
 Due:X
 deriving DecidableEq
def X4.row(x:X4):V D:= [.int .i64 x.Ship,.int .i64 x.From,.int .i64 x.To,.int .i64 x.Ready,.int .i64 x.Due]
theorem X4.row_eq(x:X4):X4.row x= [.int .i64 x.Ship,.int .i64 x.From,.int .i64 x.To,.int .i64 x.Ready,.int .i64 x.Due]:=rfl
instance:Row X4.row 5:=⟨fun _=>rfl,zC rfl⟩
instance:FlatRow X4.row:=⟨fun x d hd=>by simp only[X4.row_eq,zH,zG,or_false] at hd; rcases hd with rfl | rfl | rfl | rfl | rfl<;>rfl⟩
instance:OfTy (.st [(.int .i64),(.int .i64),(.int .i64),(.int .i64),(.int .i64)]) X4.row:=⟨fun ds h=>by
 obtain⟨a0,b0,h0,t0,rfl⟩:=h;obtain⟨a1,b1,h1,t1,rfl⟩:=t0;obtain⟨a2,b2,h2,t2,rfl⟩:=t1;obtain⟨a3,b3,h3,t3,rfl⟩:=t2;obtain⟨a4,b4,h4,t4,rfl⟩:=t3;obtain rfl:=t4;obtain⟨x0,rfl⟩:=OfTy.of (row:=rI) _ h0;obtain⟨x1,rfl⟩:=OfTy.of (row:=rI) _ h1;obtain⟨x2,rfl⟩:=OfTy.of (row:=rI) _ h2;obtain⟨x3,rfl⟩:=OfTy.of (row:=rI) _ h3;obtain⟨x4,rfl⟩:=OfTy.of (row:=rI) _ h4;exact⟨⟨x0,x1,x2,x3,x4⟩,rfl⟩⟩
structure Xo where
 Now:X
 Starts:V X
 Cleared:V Y
 deriving DecidableEq
def Xo.row(x:Xo):V D:= [.int .i64 x.Now,.sl (zB rI x.Starts),.sl (zB rB x.Cleared)]
theorem Xo.row_eq(x:Xo):Xo.row x= [.int .i64 x.Now,.sl (zB rI x.Starts),.sl (zB rB x.Cleared)]:=rfl
instance:Row Xo.row 3:=⟨fun _=>rfl,zC rfl⟩
instance:OfTy (.st [(.int .i64),(.sl (.int .i64)),(.sl .bool)]) Xo.row:=⟨fun ds h=>by
 obtain⟨a0,b0,h0,t0,rfl⟩:=h;obtain⟨a1,b1,h1,t1,rfl⟩:=t0;obtain⟨a2,b2,h2,t2,rfl⟩:=t1;obtain rfl:=t2;obtain⟨x0,rfl⟩:=OfTy.of (row:=rI) _ h0;obtain⟨x1,rfl⟩:=OfTy.of (row:=(rL rI)) _ h1;obtain⟨x2,rfl⟩:=OfTy.of (row:=(rL rB)) _ h2;exact⟨⟨x0,x1,x2⟩,rfl⟩⟩
structure X9 where
 Harbour:X2
 Calls:V X4
 Desk:Xo
 deriving DecidableEq
def X9.row(x:X9):V D:= [.int .i64 x.Harbour.Forecast.Tide.Mean,.sl (zB Xf.row x.Harbour.Forecast.Tide.Parts),.sl (zB Xb.row x.Harbour.Forecast.Surges),.sl (zB Xd.row x.Harbour.Chart.Points),.sl (zB X6.row x.Harbour.Chart.Segments),.sl (zB X8.row x.Harbour.Fleet),.int .i64 x.Harbour.Regime.Gap,.bool x.Harbour.Regime.NoMeet,.int .i64 x.Harbour.Crew.Tugs,.int .i64 x.Harbour.Crew.Pilots,.int .i64 x.Harbour.Crew.Rest,.sl (zB rI x.Harbour.Crew.Moves),.sl (zB X4.row x.Calls),.int .i64 x.Desk.Now,.sl (zB rI x.Desk.Starts),.sl (zB rB x.Desk.Cleared)]
theorem X9.row_eq(x:X9):X9.row x= [.int .i64 x.Harbour.Forecast.Tide.Mean,.sl (zB Xf.row x.Harbour.Forecast.Tide.Parts),.sl (zB Xb.row x.Harbour.Forecast.Surges),.sl (zB Xd.row x.Harbour.Chart.Points),.sl (zB X6.row x.Harbour.Chart.Segments),.sl (zB X8.row x.Harbour.Fleet),.int .i64 x.Harbour.Regime.Gap,.bool x.Harbour.Regime.NoMeet,.int .i64 x.Harbour.Crew.Tugs,.int .i64 x.Harbour.Crew.Pilots,.int .i64 x.Harbour.Crew.Rest,.sl (zB rI x.Harbour.Crew.Moves),.sl (zB X4.row x.Calls),.int .i64 x.Desk.Now,.sl (zB rI x.Desk.Starts),.sl (zB rB x.Desk.Cleared)]:=rfl
instance:Row X9.row 16:=⟨fun _=>rfl,zC rfl⟩
instance:OfTy (.st [(.st [(.st [(.st [(.int .i64),(.sl (.st [(.int .i64),(.int .i64),(.int .i64)]))]),(.sl (.st [(.int .i64),(.int .i64),(.int .i64)]))]),(.st [(.sl (.st [.str,.bool])),(.sl (.st [(.int .i64),(.int .i64),(.int .i64),(.int .i64),.bool]))]),(.sl (.st [.str,(.int .i64),(.int .i64),(.int .i64),(.int .i64),.bool])),(.st [(.int .i64),.bool]),(.st [(.int .i64),(.int .i64),(.int .i64),(.sl (.int .i64))])]),(.sl (.st [(.int .i64),(.int .i64),(.int .i64),(.int .i64),(.int .i64)])),(.st [(.int .i64),(.sl (.int .i64)),(.sl .bool)])]) X9.row:=⟨fun ds h=>by
 obtain⟨a0,b0,h0,t0,rfl⟩:=h;obtain⟨a1,b1,h1,t1,rfl⟩:=t0;obtain⟨a2,b2,h2,t2,rfl⟩:=t1;obtain rfl:=t2;obtain⟨x0,rfl⟩:=OfTy.of (row:=X2.row) _ h0;obtain⟨x1,rfl⟩:=OfTy.of (row:=(rL X4.row)) _ h1;obtain⟨x2,rfl⟩:=OfTy.of (row:=Xo.row) _ h2;exact⟨⟨x0,x1,x2⟩,rfl⟩⟩
structure X1 where
 Ship:X
 Segment:X
 Toward:Y
 Start:X
 End:X
 deriving DecidableEq
def X1.row(x:X1):V D:= [.int .i64 x.Ship,.int .i64 x.Segment,.bool x.Toward,.int .i64 x.Start,.int .i64 x.End]
theorem X1.row_eq(x:X1):X1.row x= [.int .i64 x.Ship,.int .i64 x.Segment,.bool x.Toward,.int .i64 x.Start,.int .i64 x.End]:=rfl
instance:Row X1.row 5:=⟨fun _=>rfl,zC rfl⟩
instance:FlatRow X1.row:=⟨fun x d hd=>by simp only[X1.row_eq,zH,zG,or_false] at hd; rcases hd with rfl | rfl | rfl | rfl | rfl<;>rfl⟩
instance:OfTy (.st [(.int .i64),(.int .i64),.bool,(.int .i64),(.int .i64)]) X1.row:=⟨fun ds h=>by
 obtain⟨a0,b0,h0,t0,rfl⟩:=h;obtain⟨a1,b1,h1,t1,rfl⟩:=t0;obtain⟨a2,b2,h2,t2,rfl⟩:=t1;obtain⟨a3,b3,h3,t3,rfl⟩:=t2;obtain⟨a4,b4,h4,t4,rfl⟩:=t3;obtain rfl:=t4;obtain⟨x0,rfl⟩:=OfTy.of (row:=rI) _ h0;obtain⟨x1,rfl⟩:=OfTy.of (row:=rI) _ h1;obtain⟨x2,rfl⟩:=OfTy.of (row:=rB) _ h2;obtain⟨x3,rfl⟩:=OfTy.of (row:=rI) _ h3;obtain⟨x4,rfl⟩:=OfTy.of (row:=rI) _ h4;exact⟨⟨x0,x1,x2,x3,x4⟩,rfl⟩⟩
structure X0 where
 Start:X
 Arrival:X
 Cost:X
 Passages:V X1
 deriving DecidableEq
def X0.row(x:X0):V D:= [.int .i64 x.Start,.int .i64 x.Arrival,.int .i64 x.Cost,.sl (zB X1.row x.Passages)]
theorem X0.row_eq(x:X0):X0.row x= [.int .i64 x.Start,.int .i64 x.Arrival,.int .i64 x.Cost,.sl (zB X1.row x.Passages)]:=rfl
instance:Row X0.row 4:=⟨fun _=>rfl,zC rfl⟩
instance:OfTy (.st [(.int .i64),(.int .i64),(.int .i64),(.sl (.st [(.int .i64),(.int .i64),.bool,(.int .i64),(.int .i64)]))]) X0.row:=⟨fun ds h=>by
 obtain⟨a0,b0,h0,t0,rfl⟩:=h;obtain⟨a1,b1,h1,t1,rfl⟩:=t0;obtain⟨a2,b2,h2,t2,rfl⟩:=t1;obtain⟨a3,b3,h3,t3,rfl⟩:=t2;obtain rfl:=t3;obtain⟨x0,rfl⟩:=OfTy.of (row:=rI) _ h0;obtain⟨x1,rfl⟩:=OfTy.of (row:=rI) _ h1;obtain⟨x2,rfl⟩:=OfTy.of (row:=rI) _ h2;obtain⟨x3,rfl⟩:=OfTy.of (row:=(rL X1.row)) _ h3;exact⟨⟨x0,x1,x2,x3⟩,rfl⟩⟩
structure X3 where
 i0:Y
 i1:Y
 i2:Y
 i3:Y
 i4:Y
 i5:Y
 i6:Y
 i7:Y
 deriving DecidableEq
def X3.row(x:X3):V D:= [.bool x.i0,.bool x.i1,.bool x.i2,.bool x.i3,.bool x.i4,.bool x.i5,.bool x.i6,.bool x.i7]
theorem X3.row_eq(x:X3):X3.row x= [.bool x.i0,.bool x.i1,.bool x.i2,.bool x.i3,.bool x.i4,.bool x.i5,.bool x.i6,.bool x.i7]:=rfl
instance:Row X3.row 8:=⟨fun _=>rfl,zC rfl⟩
def X3.set(x:X3)(n:Z)(v:Y):X3:=⟨bif n==0 then v else x.i0,bif n==1 then v else x.i1,bif n==2 then v else x.i2,bif n==3 then v else x.i3,bif n==4 then v else x.i4,bif n==5 then v else x.i5,bif n==6 then v else x.i6,bif n==7 then v else x.i7⟩
theorem X3.set_eq(x:X3){n:Z}{v:Y}(h:n<8):Bm (zB AC.dat (X3.row x)) n [.dat (.bool v)]=zB AC.dat (X3.row (X3.set x n v)):=by
 match n,h with
 | 0,_=>rfl
 | 1,_=>rfl
 | 2,_=>rfl
 | 3,_=>rfl
 | 4,_=>rfl
 | 5,_=>rfl
 | 6,_=>rfl
 | 7,_=>rfl
instance:FlatRow X3.row:=⟨fun x d hd=>by simp only[X3.row_eq,zH,zG,or_false] at hd; rcases hd with rfl | rfl | rfl | rfl | rfl | rfl | rfl | rfl<;>rfl⟩
instance:OfTy (.st [.bool,.bool,.bool,.bool,.bool,.bool,.bool,.bool]) X3.row:=⟨fun ds h=>by
 obtain⟨a0,b0,h0,t0,rfl⟩:=h;obtain⟨a1,b1,h1,t1,rfl⟩:=t0;obtain⟨a2,b2,h2,t2,rfl⟩:=t1;obtain⟨a3,b3,h3,t3,rfl⟩:=t2;obtain⟨a4,b4,h4,t4,rfl⟩:=t3;obtain⟨a5,b5,h5,t5,rfl⟩:=t4;obtain⟨a6,b6,h6,t6,rfl⟩:=t5;obtain⟨a7,b7,h7,t7,rfl⟩:=t6;obtain rfl:=t7;obtain⟨x0,rfl⟩:=OfTy.of (row:=rB) _ h0;obtain⟨x1,rfl⟩:=OfTy.of (row:=rB) _ h1;obtain⟨x2,rfl⟩:=OfTy.of (row:=rB) _ h2;obtain⟨x3,rfl⟩:=OfTy.of (row:=rB) _ h3;obtain⟨x4,rfl⟩:=OfTy.of (row:=rB) _ h4;obtain⟨x5,rfl⟩:=OfTy.of (row:=rB) _ h5;obtain⟨x6,rfl⟩:=OfTy.of (row:=rB) _ h6;obtain⟨x7,rfl⟩:=OfTy.of (row:=rB) _ h7;exact⟨⟨x0,x1,x2,x3,x4,x5,x6,x7⟩,rfl⟩⟩
structure X7 where
 From:X
 To:X
 deriving DecidableEq
def X7.row(x:X7):V D:= [.int .i64 x.From,.int .i64 x.To]
theorem X7.row_eq(x:X7):X7.row x= [.int .i64 x.From,.int .i64 x.To]:=rfl
instance:Row X7.row 2:=⟨fun _=>rfl,zC rfl⟩
instance:FlatRow X7.row:=⟨fun x d hd=>by simp only[X7.row_eq,zH,zG,or_false] at hd; rcases hd with rfl | rfl<;>rfl⟩
instance:OfTy (.st [(.int .i64),(.int .i64)]) X7.row:=⟨fun ds h=>by
 obtain⟨a0,b0,h0,t0,rfl⟩:=h;obtain⟨a1,b1,h1,t1,rfl⟩:=t0;obtain rfl:=t1;obtain⟨x0,rfl⟩:=OfTy.of (row:=rI) _ h0;obtain⟨x1,rfl⟩:=OfTy.of (row:=rI) _ h1;exact⟨⟨x0,x1⟩,rfl⟩⟩
structure Xk where
 waits:V Y
 minutes:V X
 sure:V (V X7)
 deriving DecidableEq
def Xk.row(x:Xk):V D:= [.sl (zB rB x.waits),.sl (zB rI x.minutes),.sl (zB (rL X7.row) x.sure)]
theorem Xk.row_eq(x:Xk):Xk.row x= [.sl (zB rB x.waits),.sl (zB rI x.minutes),.sl (zB (rL X7.row) x.sure)]:=rfl
instance:Row Xk.row 3:=⟨fun _=>rfl,zC rfl⟩
instance:OfTy (.st [(.sl .bool),(.sl (.int .i64)),(.sl (.sl (.st [(.int .i64),(.int .i64)])))]) Xk.row:=⟨fun ds h=>by
 obtain⟨a0,b0,h0,t0,rfl⟩:=h;obtain⟨a1,b1,h1,t1,rfl⟩:=t0;obtain⟨a2,b2,h2,t2,rfl⟩:=t1;obtain rfl:=t2;obtain⟨x0,rfl⟩:=OfTy.of (row:=(rL rB)) _ h0;obtain⟨x1,rfl⟩:=OfTy.of (row:=(rL rI)) _ h1;obtain⟨x2,rfl⟩:=OfTy.of (row:=(rL (rL X7.row))) _ h2;exact⟨⟨x0,x1,x2⟩,rfl⟩⟩
structure Xi where
 i0:X
 i1:X
 deriving DecidableEq
def Xi.row(x:Xi):V D:= [.int .i64 x.i0,.int .i64 x.i1]
theorem Xi.row_eq(x:Xi):Xi.row x= [.int .i64 x.i0,.int .i64 x.i1]:=rfl
instance:Row Xi.row 2:=⟨fun _=>rfl,zC rfl⟩
instance:FlatRow Xi.row:=⟨fun x d hd=>by simp only[Xi.row_eq,zH,zG,or_false] at hd; rcases hd with rfl | rfl<;>rfl⟩
instance:OfTy (.st [(.int .i64),(.int .i64)]) Xi.row:=⟨fun ds h=>by
 obtain⟨a0,b0,h0,t0,rfl⟩:=h;obtain⟨a1,b1,h1,t1,rfl⟩:=t0;obtain rfl:=t1;obtain⟨x0,rfl⟩:=OfTy.of (row:=rI) _ h0;obtain⟨x1,rfl⟩:=OfTy.of (row:=rI) _ h1;exact⟨⟨x0,x1⟩,rfl⟩⟩
structure Xa where
 h:X2
 choices:V (V X0)
 plan:V X0
 choice:V X
 best:V X
 least:Xi
 found:Y
abbrev Cq(F_w0:FuncId)(caps_w0:V D)(x:Xa):V XC:= [.d (.int .i64 x.h.Forecast.Tide.Mean),.d (.sl (zB Xf.row x.h.Forecast.Tide.Parts)),.d (.sl (zB Xb.row x.h.Forecast.Surges)),.d (.sl (zB Xd.row x.h.Chart.Points)),.d (.sl (zB X6.row x.h.Chart.Segments)),.d (.sl (zB X8.row x.h.Fleet)),.d (.int .i64 x.h.Regime.Gap),.d (.bool x.h.Regime.NoMeet),.d (.int .i64 x.h.Crew.Tugs),.d (.int .i64 x.h.Crew.Pilots),.d (.int .i64 x.h.Crew.Rest),.d (.sl (zB rI x.h.Crew.Moves)),.d (.sl (zB (rL X0.row) x.choices)),.d (.clo F_w0 caps_w0),.r 0,.r 1,.r 2,.d (.int .i64 x.least.i0),.d (.int .i64 x.least.i1),.d (.bool x.found)]
abbrev Cr(x:Xa):Ak:= [(4,zB X0.row x.plan),(1,zB rI x.choice),(1,zB rI x.best)]
structure Xc where
 From:X
 To:X
 A:X
 B:X
 deriving DecidableEq
def Xc.row(x:Xc):V D:= [.int .i64 x.From,.int .i64 x.To,.int .i64 x.A,.int .i64 x.B]
theorem Xc.row_eq(x:Xc):Xc.row x= [.int .i64 x.From,.int .i64 x.To,.int .i64 x.A,.int .i64 x.B]:=rfl
instance:Row Xc.row 4:=⟨fun _=>rfl,zC rfl⟩
instance:FlatRow Xc.row:=⟨fun x d hd=>by simp only[Xc.row_eq,zH,zG,or_false] at hd; rcases hd with rfl | rfl | rfl | rfl<;>rfl⟩
instance:OfTy (.st [(.int .i64),(.int .i64),(.int .i64),(.int .i64)]) Xc.row:=⟨fun ds h=>by
 obtain⟨a0,b0,h0,t0,rfl⟩:=h;obtain⟨a1,b1,h1,t1,rfl⟩:=t0;obtain⟨a2,b2,h2,t2,rfl⟩:=t1;obtain⟨a3,b3,h3,t3,rfl⟩:=t2;obtain rfl:=t3;obtain⟨x0,rfl⟩:=OfTy.of (row:=rI) _ h0;obtain⟨x1,rfl⟩:=OfTy.of (row:=rI) _ h1;obtain⟨x2,rfl⟩:=OfTy.of (row:=rI) _ h2;obtain⟨x3,rfl⟩:=OfTy.of (row:=rI) _ h3;exact⟨⟨x0,x1,x2,x3⟩,rfl⟩⟩
structure Xg where
 sets:V X
 most:X
 groups:V X
 who:V X
 deriving DecidableEq
def Xg.row(x:Xg):V D:= [.sl (zB rU x.sets),.int .i64 x.most,.sl (zB rU x.groups),.sl (zB rI x.who)]
theorem Xg.row_eq(x:Xg):Xg.row x= [.sl (zB rU x.sets),.int .i64 x.most,.sl (zB rU x.groups),.sl (zB rI x.who)]:=rfl
instance:Row Xg.row 4:=⟨fun _=>rfl,zC rfl⟩
instance:OfTy (.st [(.sl (.int .u64)),(.int .i64),(.sl (.int .u64)),(.sl (.int .i64))]) Xg.row:=⟨fun ds h=>by
 obtain⟨a0,b0,h0,t0,rfl⟩:=h;obtain⟨a1,b1,h1,t1,rfl⟩:=t0;obtain⟨a2,b2,h2,t2,rfl⟩:=t1;obtain⟨a3,b3,h3,t3,rfl⟩:=t2;obtain rfl:=t3;obtain⟨x0,rfl⟩:=OfTy.of (row:=(rL rU)) _ h0;obtain⟨x1,rfl⟩:=OfTy.of (row:=rI) _ h1;obtain⟨x2,rfl⟩:=OfTy.of (row:=(rL rU)) _ h2;obtain⟨x3,rfl⟩:=OfTy.of (row:=(rL rI)) _ h3;exact⟨⟨x0,x1,x2,x3⟩,rfl⟩⟩
abbrev BS(x:Xg):V XC:= [.d (.sl (zB rU x.sets)),.d (.int .i64 x.most),.r 0,.r 1]
abbrev BT(x:Xg):Ak:= [(1,zB rU x.groups),(1,zB rI x.who)]
def lL:=zF @SN (zF @Ya (zF @gE (zF @Y6 (zF @gA (zF @Y7 (zF @gB (zF @Y8 (zF @gC (zF @Y9 (zF @gD (zF @WR (zF @ke (zF @Xn.row_eq (zF @Xf.row_eq (zF @Xp.row_eq (zF @Xb.row_eq (zF @Xh.row_eq (zF @Xd.row_eq (zF @X6.row_eq (zF @X5.row_eq (zF @X8.row_eq (zF @Xl.row_eq (zF @Xq.row_eq (zF @X2.row_eq (zF @X4.row_eq (zF @Xo.row_eq (zF @X9.row_eq (zF @X1.row_eq (zF @X0.row_eq (zF @X3.row_eq (zF @X7.row_eq (zF @Xk.row_eq (zF @Xi.row_eq (zF @Xc.row_eq (@Xg.row_eq)))))))))))))))))))))))))))))))))))
def J:=zF lN (zF lP (zF lQ (zF lO lL)))
def Gi(a0:V X)(v1:X):W Xn:=
O (⟨a0,(0:X),v1⟩:Xn)
def EW(a0:V X):Z→X→X→W Xn
| 0,_,_=>U
| n+1,v1,v2=>
 if(decide (v2<(a0.length:X))) then(
 if(decide (v2<(4000:X))) then(
  (ix a0 v2).bind fun x5=>
  EW a0 n (AH .and .i64 (zM .i64 ((zM .i64 ((zM .i64 (v1*(79:X)))+(zM .i64 x5)))+(7:X))) (1073741823:X)) (zM .i64 (v2+(1:X))))
 else(
  Gi a0 v1))
 else(
 Gi a0 v1)
def I6(a0:V X):W Xn:=
EW a0 bigN (zM .i64 ((1976:X)+(a0.length:X))) (0:X)
def Ed(a0:Xn):W (X × Xn):=
if(decide (a0.i<(a0.b.length:X))) then(
 (ix a0.b a0.i).bind fun x2=>
 O ((AH .and .i64 (zM .i64 ((AH .and .i64 (AH .xor .i64 (B5 .i64 (zM .i64 ((zM .i64 (a0.h*(6364136223846793005:X)))+(1442695040888963407:X))) 33) (B5 .i64 (zM .i64 ((zM .i64 (a0.h*(6364136223846793005:X)))+(1442695040888963407:X))) 45)) (255:X))+(zM .i64 x2))) (255:X)),(⟨a0.b,(zM .i64 (a0.i+(1:X))),(zM .i64 ((zM .i64 (a0.h*(6364136223846793005:X)))+(1442695040888963407:X)))⟩:Xn)))
else(
 O ((AH .and .i64 (AH .xor .i64 (B5 .i64 (zM .i64 ((zM .i64 (a0.h*(6364136223846793005:X)))+(1442695040888963407:X))) 33) (B5 .i64 (zM .i64 ((zM .i64 (a0.h*(6364136223846793005:X)))+(1442695040888963407:X))) 45)) (255:X)),(⟨a0.b,a0.i,(zM .i64 ((zM .i64 (a0.h*(6364136223846793005:X)))+(1442695040888963407:X)))⟩:Xn)))
def EX(a1:X):Z→X→(V X)→X→X→W Xn
| 0,_,_,_,_=>U
| n+1,v2,v3,v4,v5=>
 if(decide (v2<a1)) then(
 (Ed (⟨v3,v4,v5⟩:Xn)).bind fun r7=>
 EX a1 n (zM .i64 (v2+(1:X))) r7.2.b r7.2.i r7.2.h)
 else(
 O (⟨v3,v4,v5⟩:Xn))
def Gj(a0:V X)(a1:X):W Xn:=
(I6 a0).bind fun r1=>
EX a1 bigN (0:X) r1.b r1.i r1.h
def I5(a0:V X)(a1:X):W X:=
(Gj a0 a1).bind fun r1=>
(Ed r1).bind fun r2=>
(Ed r2.2).bind fun r3=>
O (zM .i64 ((zM .i64 (r2.1*(256:X)))+r3.1))
def BW(a0:X):W (V zA):=
(ND a0).bind fun r1=>
O r1
def Ke(a0 a1:V zA)(v2:X)(Ln:X→X→(V (V zA))→W (V (V zA)))(v10:X)(v11:V (V zA)):W (V (V zA)):=
Ln v10 (zM .i64 (v2+(1:X))) v11
def HD(a0 a1:V zA):Z→X→X→(V (V zA))→W (V (V zA))
| 0,_,_,_=>U
| n+1,v1,v2,v3=>
 if(decide (v2<(a0.length:X))) then(
 (ix a0 v2).bind fun b5=>
 (NE a1 (b5.toNat:X)).bind fun r6=>
 if(decide ((0:X)≤r6)) then(
  (bnd (a0.length:X) v2 v1 a0.length).bind fun p8=>
  if Aa v3.length ([((a0.drop p8.1).take (p8.2 - p8.1))]:V (V zA)).length 16 then(
  Ke a0 a1 v2 (HD a0 a1 n) (zM .i64 (v2+(1:X))) (v3++([((a0.drop p8.1).take (p8.2 - p8.1))]:V (V zA))))
  else U)
 else(
  Ke a0 a1 v2 (HD a0 a1 n) v1 v3))
 else(
 (bnd (a0.length:X) (a0.length:X) v1 a0.length).bind fun p12=>
 if Aa v3.length ([((a0.drop p12.1).take (p12.2 - p12.1))]:V (V zA)).length 16 then(
  O (v3++([((a0.drop p12.1).take (p12.2 - p12.1))]:V (V zA))))
 else U)
def HC(a0 a1:V zA):W (V (V zA)):=
HD a0 a1 bigN (0:X) (0:X) ([]:V (V zA))
def G4(a0:V zA):W (V (V zA)):=
(HC a0 ([10]:V zA)).bind fun r1=>
(ix r1 (zM .i64 ((r1.length:X) - (1:X)))).bind fun x2=>
if(x2==([]:V zA)) then(
 (bnd (r1.length:X) (zM .i64 ((r1.length:X) - (1:X))) (0:X) r1.length).bind fun p4=>
 O ((r1.drop p4.1).take (p4.2 - p4.1)))
else(
 O r1)
def N5:W (V X):=
(Bx (64:X) (64:X) 8).bind fun n1=>
O (zD n1 (0:X))
def JV:W X9:=
(N5).bind fun r1=>
O (⟨(⟨(⟨(⟨(0:X),([]:V Xf)⟩:Xp),([(⟨(0:X),(0:X),(0:X)⟩:Xb)]:V Xb)⟩:Xh),(⟨([]:V Xd),([]:V X6)⟩:X5),([]:V X8),(⟨(10:X),E⟩:Xl),(⟨(2:X),(2:X),(30:X),r1⟩:Xq)⟩:X2),([]:V X4),(⟨(0:X),([]:V X),([]:V Y)⟩:Xo)⟩:X9)
def Na(a0:V Xf):W (V Xf):=
(Bx (0:X) (a0.length:X) 24).bind fun n1=>
if Aa (zD n1 (⟨(0:X),(0:X),(0:X)⟩:Xf)).length a0.length 24 then(
 O ((zD n1 (⟨(0:X),(0:X),(0:X)⟩:Xf))++a0))
else U
def Nl(a0:Xp):W Xp:=
(Na a0.Parts).bind fun r1=>
O (⟨a0.Mean,r1⟩:Xp)
def Ng(a0:V Xb):W (V Xb):=
(Bx (0:X) (a0.length:X) 24).bind fun n1=>
if Aa (zD n1 (⟨(0:X),(0:X),(0:X)⟩:Xb)).length a0.length 24 then(
 O ((zD n1 (⟨(0:X),(0:X),(0:X)⟩:Xb))++a0))
else U
def Nk(a0:Xh):W Xh:=
(Nl a0.Tide).bind fun r1=>
(Ng a0.Surges).bind fun r2=>
O (⟨r1,r2⟩:Xh)
def Nc(a0:V Xd):W (V Xd):=
(Bx (0:X) (a0.length:X) 24).bind fun n1=>
if Aa (zD n1 (⟨([]:V zA),E⟩:Xd)).length a0.length 24 then(
 O ((zD n1 (⟨([]:V zA),E⟩:Xd))++a0))
else U
def Nd(a0:V X6):W (V X6):=
(Bx (0:X) (a0.length:X) 40).bind fun n1=>
if Aa (zD n1 (⟨(0:X),(0:X),(0:X),(0:X),E⟩:X6)).length a0.length 40 then(
 O ((zD n1 (⟨(0:X),(0:X),(0:X),(0:X),E⟩:X6))++a0))
else U
def Nf(a0:V X8):W (V X8):=
(Bx (0:X) (a0.length:X) 56).bind fun n1=>
if Aa (zD n1 (⟨([]:V zA),(0:X),(0:X),(0:X),(0:X),E⟩:X8)).length a0.length 56 then(
 O ((zD n1 (⟨([]:V zA),(0:X),(0:X),(0:X),(0:X),E⟩:X8))++a0))
else U
def B9(a0:V X):W (V X):=
(Bx (0:X) (a0.length:X) 8).bind fun n1=>
if Aa (zD n1 (0:X)).length a0.length 8 then(
 O ((zD n1 (0:X))++a0))
else U
def HL(a0:X2):W X2:=
(Nk a0.Forecast).bind fun r1=>
(Nc a0.Chart.Points).bind fun r2=>
(Nd a0.Chart.Segments).bind fun r3=>
(Nf a0.Fleet).bind fun r4=>
(B9 a0.Crew.Moves).bind fun r5=>
O (⟨r1,(⟨r2,r3⟩:X5),r4,a0.Regime,(⟨a0.Crew.Tugs,a0.Crew.Pilots,a0.Crew.Rest,r5⟩:Xq)⟩:X2)
def Kn(a0:V X4):W (V X4):=
(Bx (0:X) (a0.length:X) 40).bind fun n1=>
if Aa (zD n1 (⟨(0:X),(0:X),(0:X),(0:X),(0:X)⟩:X4)).length a0.length 40 then(
 O ((zD n1 (⟨(0:X),(0:X),(0:X),(0:X),(0:X)⟩:X4))++a0))
else U
def Nh(a0:V Y):W (V Y):=
(Bx (0:X) (a0.length:X) 1).bind fun n1=>
if Aa (zD n1 E).length a0.length 1 then(
 O ((zD n1 E)++a0))
else U
def Nj(a0:Xo):W Xo:=
(B9 a0.Starts).bind fun r1=>
(Nh a0.Cleared).bind fun r2=>
O (⟨a0.Now,r1,r2⟩:Xo)
def CP(a0:X9):W X9:=
(HL a0.Harbour).bind fun r1=>
(Kn a0.Calls).bind fun r2=>
(Nj a0.Desk).bind fun r3=>
O (⟨r1,r2,r3⟩:X9)
def ER(a0:V (V zA))(v7:Y):W (Xd × Y):=
if v7 then(
 O ((⟨([]:V zA),E⟩:Xd),E))
else(
 (ix a0 (1:X)).bind fun x9=>
 O ((⟨x9,((a0.length:X)==(3:X))⟩:Xd),F))
def Nu(a0:V (V zA)):W (Xd × Y):=
if(decide ((a0.length:X)<(2:X))) then(
 ER a0 F)
else(
 if(decide ((3:X)<(a0.length:X))) then(
 ER a0 F)
 else(
 (ix a0 (0:X)).bind fun x3=>
 if(x3==([112,111,105,110,116]:V zA)) then(
  if((a0.length:X)==(3:X)) then(
  (ix a0 (2:X)).bind fun x6=>
  ER a0 (!(x6==([119,97,105,116]:V zA))))
  else(
  ER a0 E))
 else(
  ER a0 F)))
def KD(a0:V (V zA)):Z→X→(V X)→W ((V X) × Y)
| 0,_,_=>U
| n+1,v1,v2=>
 if(decide (v1<(a0.length:X))) then(
 (ix a0 v1).bind fun x4=>
 (MU x4).bind fun r5=>
 if r5.2 then(
  if Aa v2.length ([r5.1]:V X).length 8 then(
  KD a0 n (zM .i64 (v1+(1:X))) (v2++([r5.1]:V X)))
  else U)
 else(
  O (([]:V X),E)))
 else(
 O (v2,F))
def Gd(a0:V (V zA)):W ((V X) × Y):=
KD a0 bigN (0:X) ([]:V X)
def K5(a1:V zA)(a0:X5):Z→X→W X
| 0,_=>U
| n+1,v1=>
 if(decide (v1<(a0.Points.length:X))) then(
 (ix a0.Points v1).bind fun x3=>
 if(x3.Name==a1) then(
  O v1)
 else(
  K5 a1 a0 n (zM .i64 (v1+(1:X)))))
 else(
 O (-1:X))
def DJ(a0:X5)(a1:V zA):W X:=
K5 a1 a0 bigN (0:X)
def ES(a1:V (V zA))(a0:X5)(v7:Y):W (X6 × Y):=
if v7 then(
 O ((⟨(0:X),(0:X),(0:X),(0:X),E⟩:X6),E))
else(
 (bnd (5:X) (5:X) (3:X) a1.length).bind fun p9=>
 (Gd ((a1.drop p9.1).take (p9.2 - p9.1))).bind fun r10=>
 if r10.2 then(
 (ix a1 (1:X)).bind fun x12=>
 (DJ a0 x12).bind fun r13=>
 (ix a1 (2:X)).bind fun x14=>
 (DJ a0 x14).bind fun r15=>
 (ix r10.1 (0:X)).bind fun x16=>
 (ix r10.1 (1:X)).bind fun x17=>
 O ((⟨r13,r15,x16,x17,((a1.length:X)==(6:X))⟩:X6),F))
 else(
 O ((⟨(0:X),(0:X),(0:X),(0:X),E⟩:X6),E)))
def Nv(a0:X5)(a1:V (V zA)):W (X6 × Y):=
if(decide ((a1.length:X)<(5:X))) then(
 ES a1 a0 F)
else(
 if(decide ((6:X)<(a1.length:X))) then(
 ES a1 a0 F)
 else(
 (ix a1 (0:X)).bind fun x3=>
 if(x3==([99,104,97,110,110,101,108]:V zA)) then(
  if((a1.length:X)==(6:X)) then(
  (ix a1 (5:X)).bind fun x6=>
  ES a1 a0 (!(x6==([109,101,101,116]:V zA))))
  else(
  ES a1 a0 E))
 else(
  ES a1 a0 F)))
def Bd(a0 a1 a2:X):W Y:=
if(decide (a1≤a0)) then(
 O (decide (a0≤a2)))
else(
 O E)
def JQ(a0:V zA)(v3:X)(Dr:X→W Y):W Y:=
Dr (zM .i64 (v3+(1:X)))
def JP(a0:V zA)(v3:X)(Dr:X→W Y)(v7:Y):W Y:=
if v7 then(
 JQ a0 v3 Dr)
else(
 if(v3==(0:X)) then(
 O E)
 else(
 (ix a0 v3).bind fun b10=>
 if(decide ((b10.toNat:X)<(48:X))) then(
  O E)
 else(
  if(decide ((57:X)<(b10.toNat:X))) then(
  O E)
  else(
  JQ a0 v3 Dr))))
def Hm(a0:V zA):Z→X→W Y
| 0,_=>U
| n+1,v3=>
 if(decide (v3<(a0.length:X))) then(
 (ix a0 v3).bind fun b5=>
 if(decide ((97:X)≤(b5.toNat:X))) then(
  JP a0 v3 (Hm a0 n) (decide ((b5.toNat:X)≤(122:X))))
 else(
  JP a0 v3 (Hm a0 n) E))
 else(
 O F)
def JO(a0:V zA):W Y:=
(Bd (a0.length:X) (1:X) (8:X)).bind fun r1=>
if r1 then(
 Hm a0 bigN (0:X))
else(
 O E)
def B3(a0 a1:X):W Y:=
if(decide ((0:X)≤a0)) then(
 O (decide (a0<a1)))
else(
 O E)
def Cz(a0:X8):W Y:=
(JO a0.Name).bind fun r1=>
if r1 then(
 (Bd a0.Length (10:X) (400:X)).bind fun r3=>
 if r3 then(
 (Bd a0.Draught (100:X) (2000:X)).bind fun r5=>
 if r5 then(
  (B3 a0.Line (4:X)).bind fun r7=>
  if r7 then(
  (Bd a0.Tugs (0:X) (4:X)).bind fun r9=>
  O r9)
  else(
  O E))
 else(
  O E))
 else(
 O E))
else(
 O E)
def D7(a0:V (V zA))(a1:V zA):W (V zA):=
(NF a0 a1).bind fun r1=>
O r1
def Nq(a0:V zA)(a1:Y)(a2:V zA):W (V zA):=
if a1 then(
 if AZ a0.length ([32]:V zA).length then(
 if AZ (a0++([32]:V zA)).length a2.length then(
  O ((a0++([32]:V zA))++a2))
 else U)
 else U)
else(
 O a0)
def MO(a0:X8):W (V zA):=
(Cz a0).bind fun r1=>
if r1 then(
 (BW a0.Length).bind fun r3=>
 (BW a0.Draught).bind fun r4=>
 (BW a0.Line).bind fun r5=>
 (BW a0.Tugs).bind fun r6=>
 (D7 ([a0.Name,r3,r4,r5,r6]:V (V zA)) ([32]:V zA)).bind fun r7=>
 (Nq r7 a0.Slow ([115,108,111,119]:V zA)).bind fun r9=>
 O r9)
else(
 O ([]:V zA))
def K0(x6:V zA)(x7 x8:X)(x9 x10:X)(v14 v15:Y):W (X8 × Y):=
if v14 then(
 O ((⟨([]:V zA),(0:X),(0:X),(0:X),(0:X),E⟩:X8),E))
else(
 O ((⟨x6,x7,x8,x9,x10,v15⟩:X8),F))
def MV(a0:V zA):W (X8 × Y):=
(HC a0 ([32]:V zA)).bind fun r1=>
if(decide ((r1.length:X)<(5:X))) then(
 O ((⟨([]:V zA),(0:X),(0:X),(0:X),(0:X),E⟩:X8),E))
else(
 (bnd (5:X) (5:X) (1:X) r1.length).bind fun p3=>
 (Gd ((r1.drop p3.1).take (p3.2 - p3.1))).bind fun r4=>
 if r4.2 then(
 (ix r1 (0:X)).bind fun x6=>
 (ix r4.1 (0:X)).bind fun x7=>
 (ix r4.1 (1:X)).bind fun x8=>
 (ix r4.1 (2:X)).bind fun x9=>
 (ix r4.1 (3:X)).bind fun x10=>
 (Cz (⟨x6,x7,x8,x9,x10,(decide ((5:X)<(r1.length:X)))⟩:X8)).bind fun r11=>
 if r11 then(
  (MO (⟨x6,x7,x8,x9,x10,(decide ((5:X)<(r1.length:X)))⟩:X8)).bind fun r13=>
  K0 x6 x7 x8 x9 x10 (!(r13==a0)) (decide ((5:X)<(r1.length:X))))
 else(
  K0 x6 x7 x8 x9 x10 F (decide ((5:X)<(r1.length:X)))))
 else(
 O ((⟨([]:V zA),(0:X),(0:X),(0:X),(0:X),E⟩:X8),E)))
def Kw(a0:X):W Y:=
(Bd a0 (4:X) (2880:X)).bind fun r1=>
if r1 then(
 O ((zM .i64 (zJ a0 (4:X)))==(0:X)))
else(
 O E)
def MW(a0:Xf):W Y:=
(Bd a0.Amp (0:X) (1000:X)).bind fun r1=>
if r1 then(
 (Kw a0.Period).bind fun r3=>
 if r3 then(
 (Bd a0.Phase (0:X) (zM .i64 (a0.Period - (1:X)))).bind fun r5=>
 O r5)
 else(
 O E))
else(
 O E)
def Ki(a0:Xp):Z→X→W Y
| 0,_=>U
| n+1,v4=>
 if(decide (v4<(a0.Parts.length:X))) then(
 (ix a0.Parts v4).bind fun x6=>
 (MW x6).bind fun r7=>
 if r7 then(
  Ki a0 n (zM .i64 (v4+(1:X))))
 else(
  O E))
 else(
 O F)
def N7(a0:Xp):W Y:=
(Bd a0.Mean (-1000:X) (1000:X)).bind fun r1=>
if r1 then(
 if(decide ((4:X)<(a0.Parts.length:X))) then(
 O E)
 else(
 Ki a0 bigN (0:X)))
else(
 O E)
def CQ(a0:X):W Y:=
(Bd a0 (0:X) (2880:X)).bind fun r1=>
O r1
def N6(a0:Xb):W Y:=
(CQ a0.From).bind fun r1=>
if r1 then(
 if(decide ((-500:X)≤a0.Low)) then(
 if(decide (a0.Low≤a0.High)) then(
  O (decide (a0.High≤(500:X))))
 else(
  O E))
 else(
 O E))
else(
 O E)
def Hi(a0:Xh):Z→X→W Y
| 0,_=>U
| n+1,v7=>
 if(decide (v7<(a0.Surges.length:X))) then(
 (ix a0.Surges v7).bind fun x9=>
 (N6 x9).bind fun r10=>
 if r10 then(
  if(decide ((0:X)<v7)) then(
  (ix a0.Surges (zM .i64 (v7 - (1:X)))).bind fun x13=>
  if(decide (x9.From≤x13.From)) then(
   O E)
  else(
   Hi a0 n (zM .i64 (v7+(1:X)))))
  else(
  Hi a0 n (zM .i64 (v7+(1:X)))))
 else(
  O E))
 else(
 O F)
def Cj(a0:Xh):W Y:=
(N7 a0.Tide).bind fun r1=>
if r1 then(
 (Bd (a0.Surges.length:X) (1:X) (6:X)).bind fun r3=>
 if r3 then(
 (ix a0.Surges (0:X)).bind fun x5=>
 if(x5.From !=(0:X)) then(
  O E)
 else(
  Hi a0 bigN (0:X)))
 else(
 O E))
else(
 O E)
def N2(a0:X6)(a1 a2:X):W Y:=
if(a0.A==a1) then(
 if(a0.B==a2) then(
 O F)
 else(
 if(a0.A==a2) then(
  O (a0.B==a1))
 else(
  O E)))
else(
 if(a0.A==a2) then(
 O (a0.B==a1))
 else(
 O E))
def Jt(a0:X5)(v11:X)(x13:X6)(y24:V X6)(y25:X)(Im:X→W Y):Z→X→W Y
| 0,_=>U
| n+1,v26=>
 if(decide (v26<y25)) then(
 (ix y24 v26).bind fun x28=>
 (N2 x28 x13.A x13.B).bind fun r29=>
 if r29 then(
  O E)
 else(
  Jt a0 v11 x13 y24 y25 Im n (zM .i64 (v26+(1:X)))))
 else(
 Im (zM .i64 (v11+(1:X))))
def Js(a0:X5):Z→X→W Y
| 0,_=>U
| n+1,v11=>
 if(decide (v11<(a0.Segments.length:X))) then(
 (ix a0.Segments v11).bind fun x13=>
 (B3 x13.A (a0.Points.length:X)).bind fun r14=>
 if r14 then(
  (B3 x13.B (a0.Points.length:X)).bind fun r16=>
  if r16 then(
  if(x13.A==x13.B) then(
   O E)
  else(
   (Bd x13.Depth (0:X) (3000:X)).bind fun r19=>
   if r19 then(
   (Bd x13.Minutes (1:X) (240:X)).bind fun r21=>
   if r21 then(
    (bnd (a0.Segments.length:X) v11 (0:X) a0.Segments.length).bind fun p23=>
    Jt a0 v11 x13 ((a0.Segments.drop p23.1).take (p23.2 - p23.1)) (((a0.Segments.drop p23.1).take (p23.2 - p23.1)).length:X) (Js a0 n) bigN (0:X))
   else(
    O E))
   else(
   O E)))
  else(
  O E))
 else(
  O E))
 else(
 O F)
def Jr(a0:X5):Z→X→W Y
| 0,_=>U
| n+1,v3=>
 if(decide (v3<(a0.Points.length:X))) then(
 (ix a0.Points v3).bind fun x5=>
 (JO x5.Name).bind fun r6=>
 if r6 then(
  (DJ a0 x5.Name).bind fun r9=>
  if(r9 !=v3) then(
  O E)
  else(
  Jr a0 n (zM .i64 (v3+(1:X)))))
 else(
  O E))
 else(
 Js a0 bigN (0:X))
def Cy(a0:X5):W Y:=
if(decide ((8:X)<(a0.Points.length:X))) then(
 O E)
else(
 if(decide ((10:X)<(a0.Segments.length:X))) then(
 O E)
 else(
 Jr a0 bigN (0:X)))
def Kd(a1:V zA)(a0:V X8):Z→X→W X
| 0,_=>U
| n+1,v1=>
 if(decide (v1<(a0.length:X))) then(
 (ix a0 v1).bind fun x3=>
 if(x3.Name==a1) then(
  O v1)
 else(
  Kd a1 a0 n (zM .i64 (v1+(1:X)))))
 else(
 O (-1:X))
def G3(a0:V X8)(a1:V zA):W X:=
Kd a1 a0 bigN (0:X)
def JJ(a0:V X8):Z→X→W Y
| 0,_=>U
| n+1,v2=>
 if(decide (v2<(a0.length:X))) then(
 (ix a0 v2).bind fun x4=>
 (Cz x4).bind fun r5=>
 if r5 then(
  (G3 a0 x4.Name).bind fun r7=>
  if(r7 !=v2) then(
  O E)
  else(
  JJ a0 n (zM .i64 (v2+(1:X)))))
 else(
  O E))
 else(
 O F)
def JI(a0:V X8):W Y:=
if(decide ((6:X)<(a0.length:X))) then(
 O E)
else(
 JJ a0 bigN (0:X))
def N0(a0:Xl):W Y:=
(Bd a0.Gap (0:X) (60:X)).bind fun r1=>
O r1
def Kz(a0:V X):Z→X→W Y
| 0,_=>U
| n+1,v2=>
 if(decide (v2<(a0.length:X))) then(
 (ix a0 v2).bind fun x4=>
 (Bd x4 (0:X) (240:X)).bind fun r5=>
 if r5 then(
  Kz a0 n (zM .i64 (v2+(1:X))))
 else(
  O E))
 else(
 O F)
def HW(a0:V X):W Y:=
if((a0.length:X) !=(64:X)) then(
 O E)
else(
 Kz a0 bigN (0:X))
def He(a0:Xq):W Y:=
(Bd a0.Tugs (0:X) (12:X)).bind fun r1=>
if r1 then(
 (Bd a0.Pilots (0:X) (12:X)).bind fun r3=>
 if r3 then(
 (CQ a0.Rest).bind fun r5=>
 if r5 then(
  (HW a0.Moves).bind fun r7=>
  O r7)
 else(
  O E))
 else(
 O E))
else(
 O E)
def FR(a0:X2):W Y:=
(Cj a0.Forecast).bind fun r1=>
if r1 then(
 (Cy a0.Chart).bind fun r3=>
 if r3 then(
 (JI a0.Fleet).bind fun r5=>
 if r5 then(
  (N0 a0.Regime).bind fun r7=>
  if r7 then(
  (He a0.Crew).bind fun r9=>
  O r9)
  else(
  O E))
 else(
  O E))
 else(
 O E))
else(
 O E)
def HP(a0:Y):W (V zA):=
if a0 then(
 O ([111,107]:V zA))
else(
 O ([110,111,110,101]:V zA))
def JD(a0:X9)(v3:Y)(v4:X)(v5:V Xf)(v6:V Xb)(v7:V Xd)(v8:V X6)(v9:V X8)(v10:X)(v11:Y)(v12 v13 v14:X)(v15:V X):W ((V zA) × X9):=
(HP v3).bind fun r16=>
O (r16,(⟨(⟨(⟨(⟨v4,v5⟩:Xp),v6⟩:Xh),(⟨v7,v8⟩:X5),v9,(⟨v10,v11⟩:Xl),(⟨v12,v13,v14,v15⟩:Xq)⟩:X2),a0.Calls,a0.Desk⟩:X9))
def Dm(a0:X9)(a1:X2):W ((V zA) × X9):=
(FR a1).bind fun r1=>
if r1 then(
 JD a0 F a1.Forecast.Tide.Mean a1.Forecast.Tide.Parts a1.Forecast.Surges a1.Chart.Points a1.Chart.Segments a1.Fleet a1.Regime.Gap a1.Regime.NoMeet a1.Crew.Tugs a1.Crew.Pilots a1.Crew.Rest a1.Crew.Moves)
else(
 JD a0 E a0.Harbour.Forecast.Tide.Mean a0.Harbour.Forecast.Tide.Parts a0.Harbour.Forecast.Surges a0.Harbour.Chart.Points a0.Harbour.Chart.Segments a0.Harbour.Fleet a0.Harbour.Regime.Gap a0.Harbour.Regime.NoMeet a0.Harbour.Crew.Tugs a0.Harbour.Crew.Pilots a0.Harbour.Crew.Rest a0.Harbour.Crew.Moves)
def MH(a0:X9)(a1:V zA)(a2:V (V zA)):W ((V zA) × X9):=
(HL a0.Harbour).bind fun r1=>
(ix a2 (0:X)).bind fun x2=>
if(x2==([112,111,105,110,116]:V zA)) then(
 (Nu a2).bind fun r4=>
 if r4.2 then(
 if Aa r1.Chart.Points.length ([r4.1]:V Xd).length 24 then(
  (Dm a0 (⟨r1.Forecast,(⟨(r1.Chart.Points++([r4.1]:V Xd)),r1.Chart.Segments⟩:X5),r1.Fleet,r1.Regime,r1.Crew⟩:X2)).bind fun r17=>
  O (r17.1,r17.2))
 else U)
 else(
 O (([117,110,107,110,111,119,110,32,99,111,109,109,97,110,100]:V zA),a0)))
else(
 if(x2==([99,104,97,110,110,101,108]:V zA)) then(
 (Nv r1.Chart a2).bind fun r9=>
 if r9.2 then(
  if Aa r1.Chart.Segments.length ([r9.1]:V X6).length 40 then(
  (Dm a0 (⟨r1.Forecast,(⟨r1.Chart.Points,(r1.Chart.Segments++([r9.1]:V X6))⟩:X5),r1.Fleet,r1.Regime,r1.Crew⟩:X2)).bind fun r18=>
  O (r18.1,r18.2))
  else U)
 else(
  O (([117,110,107,110,111,119,110,32,99,111,109,109,97,110,100]:V zA),a0)))
 else(
 if(decide ((a2.length:X)<(2:X))) then(
  O (([117,110,107,110,111,119,110,32,99,111,109,109,97,110,100]:V zA),a0))
 else(
  (bnd (a1.length:X) (a1.length:X) (5:X) a1.length).bind fun p13=>
  (MV ((a1.drop p13.1).take (p13.2 - p13.1))).bind fun r14=>
  if r14.2 then(
  if Aa r1.Fleet.length ([r14.1]:V X8).length 56 then(
   (Dm a0 (⟨r1.Forecast,r1.Chart,(r1.Fleet++([r14.1]:V X8)),r1.Regime,r1.Crew⟩:X2)).bind fun r19=>
   O (r19.1,r19.2))
  else U)
  else(
  O (([117,110,107,110,111,119,110,32,99,111,109,109,97,110,100]:V zA),a0)))))
def MJ(a0:X9)(a1:V (V zA)):W ((V zA) × X9):=
(bnd (a1.length:X) (a1.length:X) (1:X) a1.length).bind fun p1=>
(Gd ((a1.drop p1.1).take (p1.2 - p1.1))).bind fun r2=>
if r2.2 then(
 (ix a1 (0:X)).bind fun x4=>
 if((r2.1.length:X) !=Cd x4 GF) then(
 O (([117,110,107,110,111,119,110,32,99,111,109,109,97,110,100]:V zA),a0))
 else(
 (HL a0.Harbour).bind fun r6=>
 (ix a1 (0:X)).bind fun x7=>
 if(x7==([109,101,97,110]:V zA)) then(
  (ix r2.1 (0:X)).bind fun x9=>
  (Dm a0 (⟨(⟨(⟨x9,r6.Forecast.Tide.Parts⟩:Xp),r6.Forecast.Surges⟩:Xh),r6.Chart,r6.Fleet,r6.Regime,r6.Crew⟩:X2)).bind fun r20=>
  O (r20.1,r20.2))
 else(
  if(x7==([119,97,118,101]:V zA)) then(
  (ix r2.1 (0:X)).bind fun x11=>
  (ix r2.1 (1:X)).bind fun x12=>
  (ix r2.1 (2:X)).bind fun x13=>
  if Aa r6.Forecast.Tide.Parts.length ([(⟨x11,x12,x13⟩:Xf)]:V Xf).length 24 then(
   (Dm a0 (⟨(⟨(⟨r6.Forecast.Tide.Mean,(r6.Forecast.Tide.Parts++([(⟨x11,x12,x13⟩:Xf)]:V Xf))⟩:Xp),r6.Forecast.Surges⟩:Xh),r6.Chart,r6.Fleet,r6.Regime,r6.Crew⟩:X2)).bind fun r21=>
   O (r21.1,r21.2))
  else U)
  else(
  if(x7==([115,117,114,103,101]:V zA)) then(
   (ix r2.1 (0:X)).bind fun x16=>
   (ix r2.1 (1:X)).bind fun x17=>
   (Dm a0 (⟨(⟨r6.Forecast.Tide,([(⟨(0:X),x16,x17⟩:Xb)]:V Xb)⟩:Xh),r6.Chart,r6.Fleet,r6.Regime,r6.Crew⟩:X2)).bind fun r22=>
   O (r22.1,r22.2))
  else(
   if(x7==([103,97,112]:V zA)) then(
   (ix r2.1 (0:X)).bind fun x19=>
   (Dm a0 (⟨r6.Forecast,r6.Chart,r6.Fleet,(⟨x19,r6.Regime.NoMeet⟩:Xl),r6.Crew⟩:X2)).bind fun r23=>
   O (r23.1,r23.2))
   else(
   (Dm a0 r6).bind fun r24=>
   O (r24.1,r24.2)))))))
else(
 O (([117,110,107,110,111,119,110,32,99,111,109,109,97,110,100]:V zA),a0))
def Kk(a0:X2)(a1:X4):W Y:=
(B3 a1.Ship (a0.Fleet.length:X)).bind fun r1=>
if r1 then(
 (B3 a1.From (a0.Chart.Points.length:X)).bind fun r3=>
 if r3 then(
 (B3 a1.To (a0.Chart.Points.length:X)).bind fun r5=>
 if r5 then(
  if(a1.From !=a1.To) then(
  (CQ a1.Ready).bind fun r9=>
  if r9 then(
   (Bd a1.Due a1.Ready (2880:X)).bind fun r11=>
   O r11)
  else(
   O E))
  else(
  O E))
 else(
  O E))
 else(
 O E))
else(
 O E)
def Jn(a1:V X4)(v4:X)(a0:X2)(x6:X4)(y10:V X4)(y11:X)(Il:X→W Y):Z→X→W Y
| 0,_=>U
| n+1,v12=>
 if(decide (v12<y11)) then(
 (ix y10 v12).bind fun x14=>
 if(x14.Ship==x6.Ship) then(
  O E)
 else(
  Jn a1 v4 a0 x6 y10 y11 Il n (zM .i64 (v12+(1:X)))))
 else(
 Il (zM .i64 (v4+(1:X))))
def Jm(a1:V X4)(a0:X2):Z→X→W Y
| 0,_=>U
| n+1,v4=>
 if(decide (v4<(a1.length:X))) then(
 (ix a1 v4).bind fun x6=>
 (Kk a0 x6).bind fun r7=>
 if r7 then(
  (bnd (a1.length:X) v4 (0:X) a1.length).bind fun p9=>
  Jn a1 v4 a0 x6 ((a1.drop p9.1).take (p9.2 - p9.1)) (((a1.drop p9.1).take (p9.2 - p9.1)).length:X) (Jm a1 a0 n) bigN (0:X))
 else(
  O E))
 else(
 O F)
def Ci(a0:X2)(a1:V X4):W Y:=
(FR a0).bind fun r1=>
if r1 then(
 if(decide ((6:X)<(a1.length:X))) then(
 O E)
 else(
 Jm a1 a0 bigN (0:X)))
else(
 O E)
def JG(a0:X):Z→X→(V X)→(V Y)→W Xo
| 0,_,_,_=>U
| n+1,v3,v4,v5=>
 if(decide (v3<a0)) then(
 if Aa v4.length ([(-1:X)]:V X).length 8 then(
  if Aa v5.length ([E]:V Y).length 1 then(
  JG a0 n (zM .i64 (v3+(1:X))) (v4++([(-1:X)]:V X)) (v5++([E]:V Y)))
  else U)
 else U)
 else(
 O (⟨(0:X),v4,v5⟩:Xo))
def MM(a0:X):W Xo:=
(Bd a0 (0:X) (6:X)).bind fun r1=>
if r1 then(
 JG a0 bigN (0:X) ([]:V X) ([]:V Y))
else(
 O (⟨(0:X),([]:V X),([]:V Y)⟩:Xo))
def MG(a0:X9)(a1:V (V zA)):W ((V zA) × X9):=
if((a1.length:X) !=(6:X)) then(
 O (([117,110,107,110,111,119,110,32,99,111,109,109,97,110,100]:V zA),a0))
else(
 (bnd (a1.length:X) (a1.length:X) (4:X) a1.length).bind fun p2=>
 (Gd ((a1.drop p2.1).take (p2.2 - p2.1))).bind fun r3=>
 if r3.2 then(
 (Kn a0.Calls).bind fun r5=>
 (ix a1 (1:X)).bind fun x6=>
 (G3 a0.Harbour.Fleet x6).bind fun r7=>
 (ix a1 (2:X)).bind fun x8=>
 (DJ a0.Harbour.Chart x8).bind fun r9=>
 (ix a1 (3:X)).bind fun x10=>
 (DJ a0.Harbour.Chart x10).bind fun r11=>
 (ix r3.1 (0:X)).bind fun x12=>
 (ix r3.1 (1:X)).bind fun x13=>
 if Aa r5.length ([(⟨r7,r9,r11,x12,x13⟩:X4)]:V X4).length 40 then(
  (Ci a0.Harbour (r5++([(⟨r7,r9,r11,x12,x13⟩:X4)]:V X4))).bind fun r15=>
  if r15 then(
  (MM ((r5++([(⟨r7,r9,r11,x12,x13⟩:X4)]:V X4)).length:X)).bind fun r18=>
  (HP F).bind fun r19=>
  O (r19,(⟨a0.Harbour,(r5++([(⟨r7,r9,r11,x12,x13⟩:X4)]:V X4)),r18⟩:X9)))
  else(
  (HP E).bind fun r17=>
  O (r17,a0)))
 else U)
 else(
 O (([117,110,107,110,111,119,110,32,99,111,109,109,97,110,100]:V zA),a0)))
def FL(a0:X2)(a1:X4):W Y:=
(FR a0).bind fun r1=>
if r1 then(
 (Kk a0 a1).bind fun r3=>
 O r3)
else(
 O E)
def Ka(a0:X6)(a1:X):W X:=
if(a1==a0.A) then(
 O a0.B)
else(
 if(a1==a0.B) then(
 O a0.A)
 else(
 O (-1:X)))
def Jw(rec_:X5→X→X→(V X)→X3→(V (V X))→W (V (V X)))(a1 a2:X)(a3:V X)(v6 r11:X)(a0:X5)(y7:X3)(v8:V (V X))(In:X→(V (V X))→W (V (V X)))(v16:Y):W (V (V X)):=
if v16 then(
 (B9 a3).bind fun r18=>
 if Aa r18.length ([v6]:V X).length 8 then(
 (rec_ a0 r11 a2 (r18++([v6]:V X)) y7 v8).bind fun r20=>
 In (zM .i64 (v6+(1:X))) r20)
 else U)
else(
 In (zM .i64 (v6+(1:X))) v8)
def H8(rec_:X5→X→X→(V X)→X3→(V (V X))→W (V (V X)))(a1 a2:X)(a3:V X)(a0:X5)(y7:X3):Z→X→(V (V X))→W (V (V X))
| 0,_,_=>U
| n+1,v6,v8=>
 if(decide (v6<(a0.Segments.length:X))) then(
 (ix a0.Segments v6).bind fun x10=>
 (Ka x10 a1).bind fun r11=>
 if(decide ((0:X)≤r11)) then(
  if decide ((0:X)≤r11)&&decide (r11<(8:X)) then(
  (ix ([y7.i0,y7.i1,y7.i2,y7.i3,y7.i4,y7.i5,y7.i6,y7.i7]:V Y) r11).bind fun x14=>
  Jw rec_ a1 a2 a3 v6 r11 a0 y7 v8 (H8 rec_ a1 a2 a3 a0 y7 n) (!x14))
  else U)
 else(
  Jw rec_ a1 a2 a3 v6 r11 a0 y7 v8 (H8 rec_ a1 a2 a3 a0 y7 n) E))
 else(
 O v8)
def MF(rec_:X5→X→X→(V X)→X3→(V (V X))→W (V (V X)))(a0:X5)(a1 a2:X)(a3:V X)(a4:X3)(a5:V (V X)):W (V (V X)):=
if(a1==a2) then(
 (B9 a3).bind fun r2=>
 if Aa a5.length ([r2]:V (V X)).length 24 then(
 O (a5++([r2]:V (V X))))
 else U)
else(
 if decide ((0:X)≤a1)&&decide (a1<(8:X)) then(
 H8 rec_ a1 a2 a3 a0 (⟨((X3.set a4 (zE a1) F)).i0,((X3.set a4 (zE a1) F)).i1,((X3.set a4 (zE a1) F)).i2,((X3.set a4 (zE a1) F)).i3,((X3.set a4 (zE a1) F)).i4,((X3.set a4 (zE a1) F)).i5,((X3.set a4 (zE a1) F)).i6,((X3.set a4 (zE a1) F)).i7⟩:X3) bigN (0:X) a5)
 else U)
def H9:Z→X5→X→X→(V X)→X3→(V (V X))→W (V (V X))
| 0,_,_,_,_,_,_=>U
| n+1,a0,a1,a2,a3,a4,a5=>MF (H9 n) a0 a1 a2 a3 a4 a5
def Q8(a0:X5)(a1 a2:X)(a3:V X)(a4:X3)(a5:V (V X)):W (V (V X)):=H9 bigN a0 a1 a2 a3 a4 a5
def N1(a0:X5)(a1 a2:X):W (V (V X)):=
(Cy a0).bind fun r1=>
if r1 then(
 (B3 a1 (a0.Points.length:X)).bind fun r3=>
 if r3 then(
 (B3 a2 (a0.Points.length:X)).bind fun r5=>
 if r5 then(
  (Q8 a0 a1 a2 ([]:V X) (⟨E,E,E,E,E,E,E,E⟩:X3) ([]:V (V X))).bind fun r7=>
  O r7)
 else(
  O ([]:V (V X))))
 else(
 O ([]:V (V X))))
else(
 O ([]:V (V X)))
def K6(a1:V X)(a0:X5):Z→X→X→W X
| 0,_,_=>U
| n+1,v3,v4=>
 if(decide (v4<(a1.length:X))) then(
 (ix a1 v4).bind fun x6=>
 (B3 x6 (a0.Segments.length:X)).bind fun r7=>
 if r7 then(
  (ix a0.Segments x6).bind fun x9=>
  K6 a1 a0 n (zM .i64 (v3+x9.Minutes)) (zM .i64 (v4+(1:X))))
 else(
  O (-1:X)))
 else(
 O v3)
def Hy(a0:X5)(a1:V X):W X:=
(Cy a0).bind fun r1=>
if r1 then(
 K6 a1 a0 bigN (0:X) (0:X))
else(
 O (-1:X))
def H4(r1:(V (V X)))(a0:X5):Z→(V X)→X→W ((V X) × Y)
| 0,_,_=>U
| n+1,v4,v5=>
 if(decide (v5<(r1.length:X))) then(
 (ix r1 v5).bind fun x7=>
 (Hy a0 x7).bind fun r9=>
 (Hy a0 v4).bind fun r10=>
 if(decide (r9<r10)) then(
  H4 r1 a0 n x7 (zM .i64 (v5+(1:X))))
 else(
  H4 r1 a0 n v4 (zM .i64 (v5+(1:X)))))
 else(
 O (v4,F))
def EI(a0:X5)(a1 a2:X):W ((V X) × Y):=
(N1 a0 a1 a2).bind fun r1=>
if((r1.length:X)==(0:X)) then(
 O (([]:V X),E))
else(
 (ix r1 (0:X)).bind fun x3=>
 H4 r1 a0 bigN x3 (0:X))
def Jv(r14:X)(a2:V X)(v6:X)(a0:X5)(v7:X3)(v8:V X)(Ll:X→X→X3→(V X)→W ((V X) × Y))(v19:Y):W ((V X) × Y):=
if v19 then(
 O (([]:V X),E))
else(
 if decide ((0:X)≤r14)&&decide (r14<(8:X)) then(
 if Aa v8.length ([r14]:V X).length 8 then(
  Ll r14 (zM .i64 (v6+(1:X))) (⟨((X3.set v7 (zE r14) F)).i0,((X3.set v7 (zE r14) F)).i1,((X3.set v7 (zE r14) F)).i2,((X3.set v7 (zE r14) F)).i3,((X3.set v7 (zE r14) F)).i4,((X3.set v7 (zE r14) F)).i5,((X3.set v7 (zE r14) F)).i6,((X3.set v7 (zE r14) F)).i7⟩:X3) (v8++([r14]:V X)))
 else U)
 else U)
def H7(a2:V X)(a0:X5):Z→X→X→X3→(V X)→W ((V X) × Y)
| 0,_,_,_,_=>U
| n+1,v5,v6,v7,v8=>
 if(decide (v6<(a2.length:X))) then(
 (ix a2 v6).bind fun x10=>
 (B3 x10 (a0.Segments.length:X)).bind fun r11=>
 if r11 then(
  (ix a0.Segments x10).bind fun x13=>
  (Ka x13 v5).bind fun r14=>
  if(decide (r14<(0:X))) then(
  Jv r14 a2 v6 a0 v7 v8 (H7 a2 a0 n) F)
  else(
  if decide ((0:X)≤r14)&&decide (r14<(8:X)) then(
   (ix ([v7.i0,v7.i1,v7.i2,v7.i3,v7.i4,v7.i5,v7.i6,v7.i7]:V Y) r14).bind fun x17=>
   Jv r14 a2 v6 a0 v7 v8 (H7 a2 a0 n) x17)
  else U))
 else(
  O (([]:V X),E)))
 else(
 O (v8,F))
def Ju(a0:X5)(a1:X)(a2:V X):W ((V X) × Y):=
(B3 a1 (a0.Points.length:X)).bind fun r1=>
if r1 then(
 if decide ((0:X)≤a1)&&decide (a1<(8:X)) then(
 H7 a2 a0 bigN a1 (0:X) (⟨((X3.set (⟨E,E,E,E,E,E,E,E⟩:X3) (zE a1) F)).i0,((X3.set (⟨E,E,E,E,E,E,E,E⟩:X3) (zE a1) F)).i1,((X3.set (⟨E,E,E,E,E,E,E,E⟩:X3) (zE a1) F)).i2,((X3.set (⟨E,E,E,E,E,E,E,E⟩:X3) (zE a1) F)).i3,((X3.set (⟨E,E,E,E,E,E,E,E⟩:X3) (zE a1) F)).i4,((X3.set (⟨E,E,E,E,E,E,E,E⟩:X3) (zE a1) F)).i5,((X3.set (⟨E,E,E,E,E,E,E,E⟩:X3) (zE a1) F)).i6,((X3.set (⟨E,E,E,E,E,E,E,E⟩:X3) (zE a1) F)).i7⟩:X3) ([a1]:V X))
 else U)
else(
 O (([]:V X),E))
def E8(a0:X5)(a1:X)(a2:V X):W (V X):=
(Cy a0).bind fun r1=>
if r1 then(
 (Ju a0 a1 a2).bind fun r3=>
 O r3.1)
else(
 O ([]:V X))
def Hz(a0:X5)(a1:X)(a2:V X):W Y:=
(Cy a0).bind fun r1=>
if r1 then(
 (Ju a0 a1 a2).bind fun r3=>
 O r3.2)
else(
 O E)
def E9(a0:X8)(a1:X6):W X:=
if a0.Slow then(
 O (zM .i64 ((2:X)*a1.Minutes)))
else(
 O a1.Minutes)
def HX(a0:X5)(a1:X)(a2:X8):W Y:=
(Cy a0).bind fun r1=>
if r1 then(
 (Cz a2).bind fun r3=>
 if r3 then(
 (B3 a1 (a0.Segments.length:X)).bind fun r5=>
 O r5)
 else(
 O E))
else(
 O E)
def N4(a0:X8):W X:=
if a0.Slow then(
 O (zM .i64 (zI a0.Draught (50:X))))
else(
 O (zM .i64 (zI a0.Draught (20:X))))
def N3(a0:X8):W X:=
(N4 a0).bind fun r1=>
O (zM .i64 ((zM .i64 (a0.Draught+r1))+(50:X)))
def JR(a0:X5)(a1:X)(a2:X8):W X:=
(HX a0 a1 a2).bind fun r1=>
if r1 then(
 (N3 a2).bind fun r3=>
 (ix a0.Segments a1).bind fun x4=>
 O (zM .i64 (r3 - x4.Depth)))
else(
 O (0:X))
def KP(a0:X→W Y)(v2:X)(DQ:Y→X→(V X7)→W (V X7))(v11:Y)(v12:V X7):W (V X7):=
DQ v11 (zM .i64 (v2+(1:X))) v12
def KO(a0:X→W Y)(v2:X)(DQ:Y→X→(V X7)→W (V X7))(v9:V X7):W (V X7):=
(ix v9 (zM .i64 ((v9.length:X) - (1:X)))).bind fun x10=>
KP a0 v2 DQ F (v9.set (zE (zM .i64 ((v9.length:X) - (1:X)))) (⟨x10.From,v2⟩:X7))
def Gh(a0:X→W Y):Z→Y→X→(V X7)→W (V X7)
| 0,_,_,_=>U
| n+1,v1,v2,v3=>
 if(decide (v2≤(2880:X))) then(
 (a0 v2).bind fun r5=>
 if r5 then(
  if v1 then(
  KO a0 v2 (Gh a0 n) v3)
  else(
  if Aa v3.length ([(⟨v2,(0:X)⟩:X7)]:V X7).length 16 then(
   KO a0 v2 (Gh a0 n) (v3++([(⟨v2,(0:X)⟩:X7)]:V X7)))
  else U))
 else(
  KP a0 v2 (Gh a0 n) E v3))
 else(
 O v3)
def I4(a0:X→W Y):W (V X7):=
Gh a0 bigN E (0:X) ([]:V X7)
def N9(a0 a1:X):W X:=
(Kw a1).bind fun r1=>
if r1 then(
 if a1==0 then U else
 if a1==0 then U else
 if(decide ((zM .i64 (zI a1 (2:X)))≤(zM .i64 (zJ (zM .i64 ((zM .i64 (zJ a0 a1))+a1)) a1)))) then(
 if(zM .i64 ((zM .i64 (zI a1 (2:X)))*(zM .i64 (zI a1 (2:X)))))==0 then U else
 O (zM .i64 (0 - (zM .i64 (zI (zM .i64 ((zM .i64 ((40000:X)*(zM .i64 ((zM .i64 (zJ (zM .i64 ((zM .i64 (zJ a0 a1))+a1)) a1)) - (zM .i64 (zI a1 (2:X)))))))*(zM .i64 ((zM .i64 (zI a1 (2:X))) - (zM .i64 ((zM .i64 (zJ (zM .i64 ((zM .i64 (zJ a0 a1))+a1)) a1)) - (zM .i64 (zI a1 (2:X))))))))) (zM .i64 ((zM .i64 (zI a1 (2:X)))*(zM .i64 (zI a1 (2:X))))))))))
 else(
 if(zM .i64 ((zM .i64 (zI a1 (2:X)))*(zM .i64 (zI a1 (2:X)))))==0 then U else
 O (zM .i64 (zI (zM .i64 ((zM .i64 ((40000:X)*(zM .i64 (zJ (zM .i64 ((zM .i64 (zJ a0 a1))+a1)) a1))))*(zM .i64 ((zM .i64 (zI a1 (2:X))) - (zM .i64 (zJ (zM .i64 ((zM .i64 (zJ a0 a1))+a1)) a1)))))) (zM .i64 ((zM .i64 (zI a1 (2:X)))*(zM .i64 (zI a1 (2:X)))))))))
else(
 O (0:X))
def HF(a1:X)(a0:Xp):Z→X→X→W X
| 0,_,_=>U
| n+1,v1,v2=>
 if(decide (v2<(a0.Parts.length:X))) then(
 (ix a0.Parts v2).bind fun x4=>
 (N9 (zM .i64 (a1+x4.Phase)) x4.Period).bind fun r5=>
 HF a1 a0 n (zM .i64 (v1+(zM .i64 (zI (zM .i64 (x4.Amp*r5)) (10000:X))))) (zM .i64 (v2+(1:X))))
 else(
 O v1)
def HE(a0:Xp)(a1:X):W X:=
HF a1 a0 bigN a0.Mean (0:X)
def EK(a1:X)(a0:Xh):Z→X→X→W X
| 0,_,_=>U
| n+1,v1,v2=>
 if(decide (v2<(a0.Surges.length:X))) then(
 (ix a0.Surges v2).bind fun x4=>
 if(decide (x4.From≤a1)) then(
  EK a1 a0 n v2 (zM .i64 (v2+(1:X))))
 else(
  EK a1 a0 n v1 (zM .i64 (v2+(1:X)))))
 else(
 O v1)
def Hj(a0:Xh)(a1:X):W X:=
EK a1 a0 bigN (0:X) (0:X)
def JK(a0:Xh)(a1:X):W X:=
(HE a0.Tide a1).bind fun r1=>
(Hj a0 a1).bind fun r2=>
(ix a0.Surges r2).bind fun x3=>
O (zM .i64 (r1+x3.Low))
def EM(a0:X)(c0:Xh)(c1:X):W Y:=
(JK c0 a0).bind fun r1=>
O (decide (c1≤r1))
def EL(a0:Xh)(a1:X):W (V X7):=
(Cj a0).bind fun r1=>
if r1 then(
 (I4 (fun z0=>EM z0 a0 a1)).bind fun r3=>
 O r3)
else(
 O ([]:V X7))
def JU(a0:X5)(a1:X)(a2:X8):W X:=
(Cy a0).bind fun r1=>
if r1 then(
 (Cz a2).bind fun r3=>
 if r3 then(
 (B3 a1 (a0.Segments.length:X)).bind fun r5=>
 if r5 then(
  (ix a0.Segments a1).bind fun x7=>
  (E9 a2 x7).bind fun r9=>
  O r9)
 else(
  O (0:X)))
 else(
 O (0:X)))
else(
 O (0:X))
def HH(a0:V X7):Z→X→W Y
| 0,_=>U
| n+1,v1=>
 if(decide (v1<(a0.length:X))) then(
 (ix a0 v1).bind fun x3=>
 if(decide (x3.From<(0:X))) then(
  O E)
 else(
  if(decide (x3.To<x3.From)) then(
  O E)
  else(
  if(decide ((2880:X)<x3.To)) then(
   O E)
  else(
   if(decide ((0:X)<v1)) then(
   (ix a0 (zM .i64 (v1 - (1:X)))).bind fun x8=>
   if(decide (x3.From≤(zM .i64 (x8.To+(1:X))))) then(
    O E)
   else(
    HH a0 n (zM .i64 (v1+(1:X)))))
   else(
   HH a0 n (zM .i64 (v1+(1:X))))))))
 else(
 O F)
def HG(a0:V X7):W Y:=
HH a0 bigN (0:X)
def HB(a1:X)(a0:V X7):Z→X→(V X7)→W (V X7)
| 0,_,_=>U
| n+1,v5,v6=>
 if(decide (v5<(a0.length:X))) then(
 (ix a0 v5).bind fun x8=>
 if(decide (a1≤(zM .i64 (x8.To - x8.From)))) then(
  if Aa v6.length ([(⟨x8.From,(zM .i64 (x8.To - a1))⟩:X7)]:V X7).length 16 then(
  HB a1 a0 n (zM .i64 (v5+(1:X))) (v6++([(⟨x8.From,(zM .i64 (x8.To - a1))⟩:X7)]:V X7)))
  else U)
 else(
  HB a1 a0 n (zM .i64 (v5+(1:X))) v6))
 else(
 O v6)
def HA(a0:V X7)(a1:X):W (V X7):=
(HG a0).bind fun r1=>
if r1 then(
 (CQ a1).bind fun r3=>
 if r3 then(
 HB a1 a0 bigN (0:X) ([]:V X7))
 else(
 O ([]:V X7)))
else(
 O ([]:V X7))
def Dn(a0:Xh)(a1:X5)(a2:X)(a3:X8):W (V X7):=
(Cj a0).bind fun r1=>
if r1 then(
 (HX a1 a2 a3).bind fun r3=>
 if r3 then(
 (JR a1 a2 a3).bind fun r5=>
 (EL a0 r5).bind fun r6=>
 (JU a1 a2 a3).bind fun r7=>
 (HA r6 r7).bind fun r9=>
 O r9)
 else(
 O ([]:V X7)))
else(
 O ([]:V X7))
def EU(a4:V X)(a0:Xh)(a1:X5)(a2:X8)(y11:V X)(y12:X):Z→X→(V Y)→(V X)→(V (V X7))→W (Xk × Y)
| 0,_,_,_,_=>U
| n+1,v13,v14,v15,v16=>
 if(decide (v13<y12)) then(
 (ix y11 v13).bind fun x18=>
 (ix a1.Points x18).bind fun x19=>
 if Aa v14.length ([x19.Wait]:V Y).length 1 then(
  (ix a4 v13).bind fun x21=>
  (ix a1.Segments x21).bind fun x22=>
  (E9 a2 x22).bind fun r23=>
  if Aa v15.length ([r23]:V X).length 8 then(
  (Dn a0 a1 x21 a2).bind fun r25=>
  if Aa v16.length ([r25]:V (V X7)).length 24 then(
   EU a4 a0 a1 a2 y11 y12 n (zM .i64 (v13+(1:X))) (v14++([x19.Wait]:V Y)) (v15++([r23]:V X)) (v16++([r25]:V (V X7))))
  else U)
  else U)
 else U)
 else(
 O ((⟨v14,v15,v16⟩:Xk),F))
def ET(a3:X)(a4:V X)(a0:Xh)(a1:X5)(a2:X8)(v7:Y):W (Xk × Y):=
if v7 then(
 O ((⟨([]:V Y),([]:V X),([]:V (V X7))⟩:Xk),E))
else(
 (E8 a1 a3 a4).bind fun r9=>
 (bnd (r9.length:X) (a4.length:X) (0:X) r9.length).bind fun p10=>
 EU a4 a0 a1 a2 ((r9.drop p10.1).take (p10.2 - p10.1)) (((r9.drop p10.1).take (p10.2 - p10.1)).length:X) bigN (0:X) ([]:V Y) ([]:V X) ([]:V (V X7)))
def Gf(a0:Xh)(a1:X5)(a2:X8)(a3:X)(a4:V X):W (Xk × Y):=
(Cj a0).bind fun r1=>
if r1 then(
 (Cz a2).bind fun r3=>
 if r3 then(
 (Hz a1 a3 a4).bind fun r5=>
 if r5 then(
  ET a3 a4 a0 a1 a2 ((a4.length:X)==(0:X)))
 else(
  ET a3 a4 a0 a1 a2 F))
 else(
 ET a3 a4 a0 a1 a2 F))
else(
 ET a3 a4 a0 a1 a2 F)
def Ga(a2:V X)(a0:X2)(a1:X4)(v4:Y):W (Xk × Y):=
if v4 then(
 O ((⟨([]:V Y),([]:V X),([]:V (V X7))⟩:Xk),E))
else(
 (ix a0.Fleet a1.Ship).bind fun x6=>
 (Gf a0.Forecast a0.Chart x6 a1.From a2).bind fun r7=>
 O (r7.1,r7.2))
def G9(a0:X2)(a1:X4)(a2:V X):W (Xk × Y):=
(E8 a0.Chart a1.From a2).bind fun r1=>
if((r1.length:X)==(0:X)) then(
 Ga a2 a0 a1 F)
else(
 (ix r1 (zM .i64 ((r1.length:X) - (1:X)))).bind fun x3=>
 Ga a2 a0 a1 (x3 !=a1.To))
def JN(a1:X)(a0:V X7):Z→X→W Y
| 0,_=>U
| n+1,v1=>
 if(decide (v1<(a0.length:X))) then(
 (ix a0 v1).bind fun x3=>
 (Bd a1 x3.From x3.To).bind fun r4=>
 if r4 then(
  O F)
 else(
  JN a1 a0 n (zM .i64 (v1+(1:X)))))
 else(
 O E)
def MQ(a0:V X7)(a1:X):W Y:=
JN a1 a0 bigN (0:X)
def JW(a1:X)(a0:V X7):Z→X→W X
| 0,_=>U
| n+1,v3=>
 if(decide (v3<(a0.length:X))) then(
 (ix a0 v3).bind fun x5=>
 if(decide (a1≤x5.To)) then(
  O (if x5.From<a1 then a1 else x5.From))
 else(
  JW a1 a0 n (zM .i64 (v3+(1:X)))))
 else(
 O (-1:X))
def MS(a0:V X7)(a1:X):W X:=
(HG a0).bind fun r1=>
if r1 then(
 JW a1 a0 bigN (0:X))
else(
 O (-1:X))
def I3(v4 r10:X)(a0:Xk)(v5:V X)(Lp:X→(V X)→W ((V X) × Y))(v14:Y):W ((V X) × Y):=
if v14 then(
 O (([]:V X),E))
else(
 if Aa v5.length ([r10]:V X).length 8 then(
 Lp (zM .i64 (v4+(1:X))) (v5++([r10]:V X)))
 else U)
def Gg(a0:Xk):Z→X→(V X)→W ((V X) × Y)
| 0,_,_=>U
| n+1,v4,v5=>
 if(decide (v4<(a0.sure.length:X))) then(
 (ix v5 (zM .i64 (v4 - (1:X)))).bind fun x7=>
 (ix a0.minutes (zM .i64 (v4 - (1:X)))).bind fun x8=>
 (ix a0.sure v4).bind fun x9=>
 (MS x9 (zM .i64 (x7+x8))).bind fun r10=>
 if(decide (r10<(0:X))) then(
  I3 v4 r10 a0 v5 (Gg a0 n) F)
 else(
  if(decide ((zM .i64 (x7+x8))<r10)) then(
  (ix a0.waits v4).bind fun x13=>
  I3 v4 r10 a0 v5 (Gg a0 n) (!x13))
  else(
  I3 v4 r10 a0 v5 (Gg a0 n) E)))
 else(
 O (v5,F))
def Nx(a0:Xk)(a1:X):W ((V X) × Y):=
(ix a0.sure (0:X)).bind fun x1=>
(MQ x1 a1).bind fun r2=>
if r2 then(
 Gg a0 bigN (1:X) ([a1]:V X))
else(
 O (([]:V X),E))
def K2(a1:X)(a5 a4:V X)(a0:X5)(a2:X8)(r6:(V X)):Z→X→(V X1)→W (V X1)
| 0,_,_=>U
| n+1,v7,v8=>
 if(decide (v7<(a4.length:X))) then(
 (ix a4 v7).bind fun x10=>
 (ix a5 v7).bind fun x11=>
 (CQ x11).bind fun r12=>
 if r12 then(
  (ix a0.Segments x10).bind fun x14=>
  (ix r6 v7).bind fun x15=>
  (E9 a2 x14).bind fun r16=>
  if Aa v8.length ([(⟨a1,x10,(x15==x14.A),x11,(zM .i64 (x11+r16))⟩:X1)]:V X1).length 40 then(
  K2 a1 a5 a4 a0 a2 r6 n (zM .i64 (v7+(1:X))) (v8++([(⟨a1,x10,(x15==x14.A),x11,(zM .i64 (x11+r16))⟩:X1)]:V X1)))
  else U)
 else(
  O ([]:V X1)))
 else(
 O v8)
def MX(a0:X5)(a1:X)(a2:X8)(a3:X)(a4 a5:V X):W (V X1):=
(Hz a0 a3 a4).bind fun r1=>
if r1 then(
 (Cz a2).bind fun r3=>
 if r3 then(
 if((a4.length:X) !=(a5.length:X)) then(
  O ([]:V X1))
 else(
  (E8 a0 a3 a4).bind fun r6=>
  K2 a1 a5 a4 a0 a2 r6 bigN (0:X) ([]:V X1)))
 else(
 O ([]:V X1)))
else(
 O ([]:V X1))
def MD(a0:X5)(a1:X8)(a2 a3:V X):W X:=
(Hy a0 a2).bind fun r1=>
if(decide (r1<(0:X))) then(
 O (-1:X))
else(
 (Cz a1).bind fun r3=>
 if r3 then(
 if((a2.length:X)==(0:X)) then(
  O (-1:X))
 else(
  if((a2.length:X) !=(a3.length:X)) then(
  O (-1:X))
  else(
  (ix a3 (zM .i64 ((a2.length:X) - (1:X)))).bind fun x7=>
  (CQ x7).bind fun r9=>
  if r9 then(
   (ix a2 (zM .i64 ((a2.length:X) - (1:X)))).bind fun x11=>
   (ix a0.Segments x11).bind fun x12=>
   (E9 a1 x12).bind fun r13=>
   O (zM .i64 (x7+r13)))
  else(
   O (-1:X)))))
 else(
 O (-1:X)))
def KC(a2:Xk)(a4 r5:X)(r4:(V X1)):Z→X→X→W (X0 × Y)
| 0,_,_=>U
| n+1,v6,v7=>
 if(decide (v6<(a2.minutes.length:X))) then(
 (ix a2.minutes v6).bind fun x9=>
 KC a2 a4 r5 r4 n (zM .i64 (v6+(1:X))) (zM .i64 (v7 - x9)))
 else(
 O ((⟨a4,r5,v7,r4⟩:X0),(decide (r5≤(2880:X)))))
def HY(a0:X2)(a1:X4)(a2:Xk)(a3:V X)(a4:X):W (X0 × Y):=
(Nx a2 a4).bind fun r1=>
if r1.2 then(
 (ix a0.Fleet a1.Ship).bind fun x3=>
 (MX a0.Chart a1.Ship x3 a1.From a3 r1.1).bind fun r4=>
 (MD a0.Chart x3 a3 r1.1).bind fun r5=>
 KC a2 a4 r5 r4 bigN (0:X) (zM .i64 (r5 - a1.Ready)))
else(
 O ((⟨(0:X),(0:X),(0:X),([]:V X1)⟩:X0),E))
def JX(r3:(V X) × Y)(v7:X)(a0:X2)(a1:X4)(r4:Xk × Y)(Lm:X→(V X0)→W (V X0))(v14:V X0):W (V X0):=
Lm (zM .i64 (v7+(15:X))) v14
def EN(r3:(V X) × Y)(a0:X2)(a1:X4)(r4:Xk × Y):Z→X→(V X0)→W (V X0)
| 0,_,_=>U
| n+1,v7,v8=>
 if(decide (v7≤a1.Due)) then(
 if(decide ((v8.length:X)<(8:X))) then(
  (HY a0 a1 r4.1 r3.1 v7).bind fun r11=>
  if r11.2 then(
  if Aa v8.length ([r11.1]:V X0).length 48 then(
   JX r3 v7 a0 a1 r4 (EN r3 a0 a1 r4 n) (v8++([r11.1]:V X0)))
  else U)
  else(
  JX r3 v7 a0 a1 r4 (EN r3 a0 a1 r4 n) v8))
 else(
  O v8))
 else(
 O v8)
def CO(a0:X2)(a1:X4):W (V X0):=
(FL a0 a1).bind fun r1=>
if r1 then(
 (EI a0.Chart a1.From a1.To).bind fun r3=>
 (G9 a0 a1 r3.1).bind fun r4=>
 if r3.2 then(
 if r4.2 then(
  EN r3 a0 a1 r4 bigN a1.Ready ([]:V X0))
 else(
  O ([]:V X0)))
 else(
 O ([]:V X0)))
else(
 O ([]:V X0))
def G8(a1:V X4)(a0:X2):Z→X→(V (V X0))→W (V (V X0))
| 0,_,_=>U
| n+1,v1,v2=>
 if(decide (v1<(a1.length:X))) then(
 (ix a1 v1).bind fun x4=>
 (CO a0 x4).bind fun r5=>
 if Aa v2.length ([r5]:V (V X0)).length 24 then(
  G8 a1 a0 n (zM .i64 (v1+(1:X))) (v2++([r5]:V (V X0))))
 else U)
 else(
 O v2)
def HI(a0:X2)(a1:V X4):W (V (V X0)):=
G8 a1 a0 bigN (0:X) ([]:V (V X0))
def Ny(a0 a1:Xi):W Y:=
if(decide (a0.i0<a1.i0)) then(
 O F)
else(
 if(a0.i0==a1.i0) then(
 O (decide (a0.i1<a1.i1)))
 else(
 O E))
def JY(a0 a1:X1):W Y:=
O (decide ((if a0.Start<a1.Start then a1.Start else a0.Start)<(if a1.End<a0.End then a1.End else a0.End)))
def KA(a0 a1 a2:X):W Y:=
O (decide ((IntKind.u64.wrap ((IntKind.u64.wrap (if a0<a1 then a1 else a0)) - (IntKind.u64.wrap (if a1<a0 then a1 else a0))))<(IntKind.u64.wrap a2)))
def Kr(a2 a3:X1)(v22:Y):W X:=
if v22 then(
 O (3:X))
else(
 if(decide (a2.Start<a3.Start)) then(
 if(decide (a3.End<a2.End)) then(
  O (4:X))
 else(
  if(decide (a3.Start<a2.Start)) then(
  if(decide (a2.End<a3.End)) then(
   O (4:X))
  else(
   O (0:X)))
  else(
  O (0:X))))
 else(
 if(decide (a3.Start<a2.Start)) then(
  if(decide (a2.End<a3.End)) then(
  O (4:X))
  else(
  O (0:X)))
 else(
  O (0:X))))
def Gb(a1:Xl)(a2 a3:X1)(v15 v16:Y):W X:=
if v15 then(
 O (2:X))
else(
 if(a2.Toward==a3.Toward) then(
 (KA a2.Start a3.Start a1.Gap).bind fun r19=>
 if r19 then(
  Kr a2 a3 F)
 else(
  (KA a2.End a3.End a1.Gap).bind fun r21=>
  Kr a2 a3 r21))
 else(
 O (0:X)))
def Kq(a0:X5)(a1:Xl)(a2 a3:X1)(v7:Y):W X:=
if v7 then(
 O (1:X))
else(
 if(a2.Ship==a3.Ship) then(
 O (0:X))
 else(
 if(a2.Toward==a3.Toward) then(
  Gb a1 a2 a3 E a1.NoMeet)
 else(
  (JY a2 a3).bind fun r11=>
  if r11 then(
  if a1.NoMeet then(
   Gb a1 a2 a3 F F)
  else(
   (ix a0.Segments a2.Segment).bind fun x14=>
   Gb a1 a2 a3 (!x14.Meet) E))
  else(
  Gb a1 a2 a3 E a1.NoMeet))))
def Ko(a0:X5)(a1:Xl)(a2 a3:X1)(v3:Y):W X:=
if v3 then(
 O (0:X))
else(
 if(a2.Ship==a3.Ship) then(
 (JY a2 a3).bind fun r6=>
 Kq a0 a1 a2 a3 r6)
 else(
 Kq a0 a1 a2 a3 E))
def Ni(a0:X5)(a1:Xl)(a2 a3:X1):W X:=
if(a2.Segment !=a3.Segment) then(
 Ko a0 a1 a2 a3 F)
else(
 (B3 a2.Segment (a0.Segments.length:X)).bind fun r2=>
 Ko a0 a1 a2 a3 (!r2))
def Km(a3 a2:V X1)(v1:X)(a0:X5)(a1:Xl)(x3:X1)(Ir:X→W Y):Z→X→W Y
| 0,_=>U
| n+1,v4=>
 if(decide (v4<(a3.length:X))) then(
 (ix a3 v4).bind fun x6=>
 (Ni a0 a1 x3 x6).bind fun r7=>
 if(r7 !=(0:X)) then(
  O F)
 else(
  Km a3 a2 v1 a0 a1 x3 Ir n (zM .i64 (v4+(1:X)))))
 else(
 Ir (zM .i64 (v1+(1:X))))
def Kl(a3 a2:V X1)(a0:X5)(a1:Xl):Z→X→W Y
| 0,_=>U
| n+1,v1=>
 if(decide (v1<(a2.length:X))) then(
 (ix a2 v1).bind fun x3=>
 Km a3 a2 v1 a0 a1 x3 (Kl a3 a2 a0 a1 n) bigN (0:X))
 else(
 O E)
def HK(a0:X5)(a1:Xl)(a2 a3:V X1):W Y:=
Kl a3 a2 a0 a1 bigN (0:X)
def Eb(a0:V X0):W (V X0):=
(Bx (0:X) (a0.length:X) 48).bind fun n1=>
if Aa (zD n1 (⟨(0:X),(0:X),(0:X),([]:V X1)⟩:X0)).length a0.length 48 then(
 O ((zD n1 (⟨(0:X),(0:X),(0:X),([]:V X1)⟩:X0))++a0))
else U
def FW(a0:X1)(a1:X5):W (X × X):=
(ix a1.Segments a0.Segment).bind fun x1=>
if a0.Toward then(
 O (x1.A,x1.B))
else(
 O (x1.B,x1.A))
def HQ(a0:X5)(a1 a2:X1):W Xc:=
(FW a1 a0).bind fun r1=>
(FW a2 a0).bind fun r2=>
O (⟨a1.Start,a2.End,r1.1,r2.2⟩:Xc)
def Ns(a0:X5)(a1:V X8)(a2:X1):W Y:=
(B3 a2.Ship (a1.length:X)).bind fun r1=>
if r1 then(
 (B3 a2.Segment (a0.Segments.length:X)).bind fun r3=>
 if r3 then(
 (CQ a2.Start).bind fun r5=>
 if r5 then(
  if(decide ((2880:X)<a2.End)) then(
  O E)
  else(
  (ix a1 a2.Ship).bind fun x8=>
  (ix a0.Segments a2.Segment).bind fun x9=>
  (E9 x8 x9).bind fun r10=>
  O (a2.End==(zM .i64 (a2.Start+r10)))))
 else(
  O E))
 else(
 O E))
else(
 O E)
def K1(a0:X5)(a1:V X8)(a2:X1):W Y:=
(Cy a0).bind fun r1=>
if r1 then(
 (JI a1).bind fun r3=>
 if r3 then(
 (Ns a0 a1 a2).bind fun r5=>
 O r5)
 else(
 O E))
else(
 O E)
def KM(a1:V X8)(a2:V X1)(v1:X)(x7:X8)(a0:X5)(x4:X1)(Iw:X→(V Xc)→W ((V Xc) × Y)):Z→X→(V Xc)→W ((V Xc) × Y)
| 0,_,_=>U
| n+1,v8,v9=>
 if(decide (v8<x7.Tugs)) then(
 (HQ a0 x4 x4).bind fun r11=>
 if Aa v9.length ([r11]:V Xc).length 32 then(
  KM a1 a2 v1 x7 a0 x4 Iw n (zM .i64 (v8+(1:X))) (v9++([r11]:V Xc)))
 else U)
 else(
 if(decide ((12:X)<(v9.length:X))) then(
  O (([]:V Xc),E))
 else(
  Iw (zM .i64 (v1+(1:X))) v9))
def KL(a1:V X8)(a2:V X1)(a0:X5):Z→X→(V Xc)→W ((V Xc) × Y)
| 0,_,_=>U
| n+1,v1,v2=>
 if(decide (v1<(a2.length:X))) then(
 (ix a2 v1).bind fun x4=>
 (K1 a0 a1 x4).bind fun r5=>
 if r5 then(
  (ix a1 x4.Ship).bind fun x7=>
  KM a1 a2 v1 x7 a0 x4 (KL a1 a2 a0 n) bigN (0:X) v2)
 else(
  O (([]:V Xc),E)))
 else(
 O (v2,F))
def KK(a0:X5)(a1:V X8)(a2:V X1):W ((V Xc) × Y):=
KL a1 a2 a0 bigN (0:X) ([]:V Xc)
def JH(a0:V Xc):Z→X→W Y
| 0,_=>U
| n+1,v2=>
 if(decide (v2<(a0.length:X))) then(
 (ix a0 v2).bind fun x4=>
 if(decide (x4.From<(0:X))) then(
  O E)
 else(
  if(decide (x4.To≤x4.From)) then(
  O E)
  else(
  if(decide ((2880:X)<x4.To)) then(
   O E)
  else(
   (B3 x4.A (8:X)).bind fun r9=>
   if r9 then(
   (B3 x4.B (8:X)).bind fun r11=>
   if r11 then(
    JH a0 n (zM .i64 (v2+(1:X))))
   else(
    O E))
   else(
   O E)))))
 else(
 O F)
def Hg(a0:V Xc):W Y:=
if(decide ((12:X)<(a0.length:X))) then(
 O E)
else(
 JH a0 bigN (0:X))
def Nm(a0:X)(a1:V X)(a2:V Xc):W Y:=
(Hg a2).bind fun r1=>
if r1 then(
 (CQ a0).bind fun r3=>
 if r3 then(
 (HW a1).bind fun r5=>
 O r5)
 else(
 O E))
else(
 O E)
def FQ(a0:X)(a1:V X)(a2 a3:Xc)(v8:Y):W (X × Y):=
if v8 then(
 O ((0:X),E))
else(
 (ix a1 (zM .i64 ((zM .i64 ((8:X)*a2.B))+a3.A))).bind fun x10=>
 O ((zM .i64 (a0+x10)),F))
def MP(a0:X)(a1:V X)(a2 a3:Xc):W (X × Y):=
(CQ a0).bind fun r1=>
if r1 then(
 (HW a1).bind fun r3=>
 if r3 then(
 (B3 a2.B (8:X)).bind fun r5=>
 if r5 then(
  (B3 a3.A (8:X)).bind fun r7=>
  FQ a0 a1 a2 a3 (!r7))
 else(
  FQ a0 a1 a2 a3 F))
 else(
 FQ a0 a1 a2 a3 F))
else(
 FQ a0 a1 a2 a3 F)
def Jo(a0:X)(a1:V X)(a2 a3:Xc):W Y:=
(MP a0 a1 a2 a3).bind fun r1=>
if r1.2 then(
 (Hg ([a2]:V Xc)).bind fun r3=>
 if r3 then(
 (Hg ([a3]:V Xc)).bind fun r5=>
 if r5 then(
  O (decide ((zM .i64 (a2.To+r1.1))≤a3.From)))
 else(
  O E))
 else(
 O E))
else(
 O E)
def HZ(a0:X)(a1:V X)(a2:V Xc)(v2 v6:X)(x5:Xc)(v7:V X)(It:X→(V X)→W (V X))(v14:Y):W (V X):=
if v14 then(
 (ix v7 v2).bind fun x16=>
 if decide (v6<0) then U else
 It (zM .i64 (v6+(1:X))) (v7.set (zE v2) (AH .or .u64 x16 (Br .u64 (1:X) v6))))
else(
 It (zM .i64 (v6+(1:X))) v7)
def Ge(a0:X)(a1:V X)(a2:V Xc)(v2:X)(x5:Xc)(F3:X→(V X)→W (V X)):Z→X→(V X)→W (V X)
| 0,_,_=>U
| n+1,v6,v7=>
 if(decide (v6<(a2.length:X))) then(
 (ix a2 v6).bind fun x9=>
 if(v2 !=v6) then(
  (Jo a0 a1 x5 x9).bind fun r11=>
  if r11 then(
  HZ a0 a1 a2 v2 v6 x5 v7 (Ge a0 a1 a2 v2 x5 F3 n) F)
  else(
  (Jo a0 a1 x9 x5).bind fun r13=>
  HZ a0 a1 a2 v2 v6 x5 v7 (Ge a0 a1 a2 v2 x5 F3 n) r13))
 else(
  HZ a0 a1 a2 v2 v6 x5 v7 (Ge a0 a1 a2 v2 x5 F3 n) E))
 else(
 F3 (zM .i64 (v2+(1:X))) v7)
def KE(a0:X)(a1:V X)(a2:V Xc):Z→X→(V X)→W (V X)
| 0,_,_=>U
| n+1,v2,v3=>
 if(decide (v2<(a2.length:X))) then(
 (ix a2 v2).bind fun x5=>
 Ge a0 a1 a2 v2 x5 (KE a0 a1 a2 n) bigN (0:X) v3)
 else(
 O v3)
def Nr(a0:X)(a1:V X)(a2:V Xc):W (V X):=
(Bx (a2.length:X) (a2.length:X) 8).bind fun n1=>
KE a0 a1 a2 bigN (0:X) (zD n1 (0:X))
def KV(v8 v9:X):W X:=
(ix ([0,1,2,2,3,3,3,3,4,4,4,4,4,4,4,4,5,5,5,5,5,5,5,5,5,5,5,5,5,5,5,5,6,6,6,6,6,6,6,6,6,6,6,6,6,6,6,6,6,6,6,6,6,6,6,6,6,6,6,6,6,6,6,6,7,7,7,7,7,7,7,7,7,7,7,7,7,7,7,7,7,7,7,7,7,7,7,7,7,7,7,7,7,7,7,7,7,7,7,7,7,7,7,7,7,7,7,7,7,7,7,7,7,7,7,7,7,7,7,7,7,7,7,7,7,7,7,7,8,8,8,8,8,8,8,8,8,8,8,8,8,8,8,8,8,8,8,8,8,8,8,8,8,8,8,8,8,8,8,8,8,8,8,8,8,8,8,8,8,8,8,8,8,8,8,8,8,8,8,8,8,8,8,8,8,8,8,8,8,8,8,8,8,8,8,8,8,8,8,8,8,8,8,8,8,8,8,8,8,8,8,8,8,8,8,8,8,8,8,8,8,8,8,8,8,8,8,8,8,8,8,8,8,8,8,8,8,8,8,8,8,8,8,8,8,8,8,8,8,8,8,8,8,8,8,8]:V zA) (IntKind.u8.wrap v8)).bind fun b10=>
O (zM .i64 (v9+(zM .i64 (b10.toNat:X))))
def KU(v5 v6:X):W X:=
if(decide ((256:X)≤v5)) then(
 KV (B5 .u64 v5 8) (zM .i64 (v6+(8:X))))
else(
 KV v5 v6)
def KT(v2 v3:X):W X:=
if(decide ((65536:X)≤v2)) then(
 KU (B5 .u64 v2 16) (zM .i64 (v3+(16:X))))
else(
 KU v2 v3)
def NB(a0:X):W X:=
if(decide ((4294967296:X)≤a0)) then(
 KT (B5 .u64 a0 32) (32:X))
else(
 KT a0 (0:X))
def NA(a0:X):W X:=
(NB a0).bind fun r1=>
O r1
def Ky(a0:V X)(y5 v6:X)(v17 v18 v21:X)(v19:V Y)(BO:X→(V Y)→(V X)→W X)(Lo:X→(V X)→W X)(v28:V X):W X:=
if(v21==(0:X)) then(
 BO (zM .i64 (v6+(1:X))) v19 v28)
else(
 Lo (AH .and .i64 (zM .i64 (v21 - (1:X))) v18) v28)
def HU(a0:V X)(y5 v6:X)(v17 v18:X)(v19:V Y)(BO:X→(V Y)→(V X)→W X):Z→X→(V X)→W X
| 0,_,_=>U
| n+1,v21,v22=>
 if decide (v17<0) then U else
 (ix v19 (AH .or .i64 v21 (Br .i64 (1:X) v17))).bind fun x24=>
 if x24 then(
 (ix v22 v6).bind fun x26=>
 (ix v22 (AH .andNot .i64 v18 v21)).bind fun x27=>
 Ky a0 y5 v6 v17 v18 v21 v19 BO (HU a0 y5 v6 v17 v18 v19 BO n) (v22.set (zE v6) (if(zM .i64 ((1:X)+x27))<x26 then(zM .i64 ((1:X)+x27)) else x26)))
 else(
 Ky a0 y5 v6 v17 v18 v21 v19 BO (HU a0 y5 v6 v17 v18 v19 BO n) v22)
def Kx(a0:V X)(y5 v6:X)(v8:V X)(BO:X→(V Y)→(V X)→W X)(v17 v18:X)(v19:V Y):W X:=
(ix v8 v6).bind fun x20=>
HU a0 y5 v6 v17 v18 v19 BO bigN v18 (v8.set (zE v6) (a0.length:X))
def HT(a0:V X)(y5:X):Z→X→(V Y)→(V X)→W X
| 0,_,_,_=>U
| n+1,v6,v7,v8=>
 if(decide (v6<y5)) then(
 (NA (IntKind.u64.wrap v6)).bind fun r10=>
 if decide ((zM .i64 (r10 - (1:X)))<0) then U else
 (ix v7 (AH .andNot .i64 v6 (Br .i64 (1:X) (zM .i64 (r10 - (1:X)))))).bind fun x12=>
 if x12 then(
  (ix a0 (zM .i64 (r10 - (1:X)))).bind fun x14=>
  (ix v7 v6).bind fun x15=>
  Kx a0 y5 v6 v8 (HT a0 y5 n) (zM .i64 (r10 - (1:X))) (AH .andNot .i64 v6 (Br .i64 (1:X) (zM .i64 (r10 - (1:X))))) (v7.set (zE v6) ((AH .andNot .u64 (IntKind.u64.wrap (AH .andNot .i64 v6 (Br .i64 (1:X) (zM .i64 (r10 - (1:X)))))) x14)==(0:X))))
 else(
  (ix v7 v6).bind fun x16=>
  Kx a0 y5 v6 v8 (HT a0 y5 n) (zM .i64 (r10 - (1:X))) (AH .andNot .i64 v6 (Br .i64 (1:X) (zM .i64 (r10 - (1:X))))) (v7.set (zE v6) E)))
 else(
 (ix v8 (zM .i64 (y5 - (1:X)))).bind fun x30=>
 O x30)
def Np(a0:V X):W X:=
if decide ((a0.length:X)<0) then U else
(Bx (Br .i64 (1:X) (a0.length:X)) (Br .i64 (1:X) (a0.length:X)) 1).bind fun n2=>
(Bx (Br .i64 (1:X) (a0.length:X)) (Br .i64 (1:X) (a0.length:X)) 8).bind fun n3=>
(ix (zD n2 E) (0:X)).bind fun x4=>
HT a0 (Br .i64 (1:X) (a0.length:X)) bigN (1:X) ((zD n2 E).set (zE (0:X)) F) (zD n3 (0:X))
def Ku(rec_:Xg→W (Y × Xg))(a0:Xg)(v2:X)(Ds:X→(V X)→X→(V X)→(V X)→W (Y × Xg))(v22:V X)(v23:X)(v24 v25:V X):W (Y × Xg):=
(ix v24 v2).bind fun x26=>
if(x26==(0:X)) then(
 (bnd (v24.length:X) v2 0 v24.length).bind fun p28=>
 O (E,(⟨v22,v23,(v24.take p28.2),v25⟩:Xg)))
else(
 Ds (zM .i64 (v2+(1:X))) v22 v23 v24 v25)
def Kt(rec_:Xg→W (Y × Xg))(a0:Xg)(v2:X)(v3:V X)(v4:X)(v6:V X)(Ds:X→(V X)→X→(V X)→(V X)→W (Y × Xg))(v11:V X):W (Y × Xg):=
(ix v11 v2).bind fun x12=>
(ix v3 (a0.who.length:X)).bind fun x13=>
if((AH .andNot .u64 x12 x13)==(0:X)) then(
 if decide ((a0.who.length:X)<0) then U else
 if Aa v6.length ([v2]:V X).length 8 then(
 (rec_ (⟨v3,v4,(v11.set (zE v2) (AH .or .u64 x12 (Br .u64 (1:X) (a0.who.length:X)))),(v6++([v2]:V X))⟩:Xg)).bind fun r17=>
 if r17.1 then(
  O (F,r17.2))
 else(
  (bnd (r17.2.who.length:X) (a0.who.length:X) 0 r17.2.who.length).bind fun p19=>
  (ix r17.2.groups v2).bind fun x20=>
  if decide ((a0.who.length:X)<0) then U else
  Ku rec_ a0 v2 Ds r17.2.sets r17.2.most (r17.2.groups.set (zE v2) (AH .andNot .u64 x20 (Br .u64 (1:X) (a0.who.length:X)))) (r17.2.who.take p19.2)))
 else U)
else(
 Ku rec_ a0 v2 Ds v3 v4 v11 v6)
def HM(rec_:Xg→W (Y × Xg))(a0:Xg):Z→X→(V X)→X→(V X)→(V X)→W (Y × Xg)
| 0,_,_,_,_,_=>U
| n+1,v2,v3,v4,v5,v6=>
 if(decide (v2≤(v5.length:X))) then(
 if(decide (v2<v4)) then(
  if(v2==(v5.length:X)) then(
  if Aa v5.length ([(0:X)]:V X).length 8 then(
   Kt rec_ a0 v2 v3 v4 v6 (HM rec_ a0 n) (v5++([(0:X)]:V X)))
  else U)
  else(
  Kt rec_ a0 v2 v3 v4 v6 (HM rec_ a0 n) v5))
 else(
  O (E,(⟨v3,v4,v5,v6⟩:Xg))))
 else(
 O (E,(⟨v3,v4,v5,v6⟩:Xg)))
def Nn(rec_:Xg→W (Y × Xg))(a0:Xg):W (Y × Xg):=
if((a0.who.length:X)==(a0.sets.length:X)) then(
 O (F,a0))
else(
 HM rec_ a0 bigN (0:X) a0.sets a0.most a0.groups a0.who)
def HN:Z→Xg→W (Y × Xg)
| 0,_=>U
| n+1,a0=>Nn (HN n) a0
def Q9(a0:Xg):W (Y × Xg):=HN bigN a0
def Hp(a0:X)(a1:V X)(a2:V Xc):W ((V X) × X × Y):=
(Nm a0 a1 a2).bind fun r1=>
if r1 then(
 (Nr a0 a1 a2).bind fun r3=>
 (Np r3).bind fun r4=>
 (Q9 (⟨r3,r4,([]:V X),([]:V X)⟩:Xg)).bind fun r5=>
 O (r5.2.who,r5.2.most,F))
else(
 O (([]:V X),(0:X),E))
def Ks(a0:X)(a1:V X)(a2:V Xc)(a3:X):W Y:=
if(decide ((a2.length:X)≤a3)) then(
 O F)
else(
 (Hp a0 a1 a2).bind fun r2=>
 O (decide (r2.2.1≤a3)))
def HO(a1:V X0)(a0:X2):Z→X→(V X1)→(V Xc)→W Y
| 0,_,_,_=>U
| n+1,v1,v2,v3=>
 if(decide (v1<(a1.length:X))) then(
 (ix a1 v1).bind fun x5=>
 if Aa v2.length x5.Passages.length 40 then(
  if(decide ((0:X)<(x5.Passages.length:X))) then(
  (ix x5.Passages (0:X)).bind fun x8=>
  (ix x5.Passages (zM .i64 ((x5.Passages.length:X) - (1:X)))).bind fun x9=>
  (HQ a0.Chart x8 x9).bind fun r10=>
  if Aa v3.length ([r10]:V Xc).length 32 then(
   HO a1 a0 n (zM .i64 (v1+(1:X))) (v2++x5.Passages) (v3++([r10]:V Xc)))
  else U)
  else(
  HO a1 a0 n (zM .i64 (v1+(1:X))) (v2++x5.Passages) v3))
 else U)
 else(
 (KK a0.Chart a0.Fleet v2).bind fun r12=>
 if r12.2 then(
  (Ks (0:X) a0.Crew.Moves r12.1 a0.Crew.Tugs).bind fun r14=>
  if r14 then(
  (Ks a0.Crew.Rest a0.Crew.Moves v3 a0.Crew.Pilots).bind fun r16=>
  O r16)
  else(
  O E))
 else(
  O E))
def Ec(a0:X2)(a1:V X0):W Y:=
HO a1 a0 bigN (0:X) ([]:V X1) ([]:V Xc)
def Kv(a1:V X0)(a0:X2)(a2:X0):Z→X→W Y
| 0,_=>U
| n+1,v1=>
 if(decide (v1<(a1.length:X))) then(
 (ix a1 v1).bind fun x3=>
 (HK a0.Chart a0.Regime x3.Passages a2.Passages).bind fun r4=>
 if r4 then(
  O E)
 else(
  Kv a1 a0 a2 n (zM .i64 (v1+(1:X)))))
 else(
 (Eb a1).bind fun r6=>
 if Aa r6.length ([a2]:V X0).length 48 then(
  (Ec a0 (r6++([a2]:V X0))).bind fun r9=>
  O r9)
 else U)
def Gc(a0:X2)(a1:V X0)(a2:X0):W Y:=
Kv a1 a0 a2 bigN (0:X)
def I0(w0:(V X0)→W Xi)(rec_:Xa→W Xa)(a0:Xa)(x8:V X0):Z→X→X2→(V (V X0))→X→X→Y→(V X0)→(V X)→(V X)→W Xa
| 0,_,_,_,_,_,_,_,_,_=>U
| n+1,v9,v10,v11,v12,v13,v14,v15,v16,v17=>
 if(decide (v9<(x8.length:X))) then(
 (ix x8 v9).bind fun x19=>
 (Gc v10 v15 x19).bind fun r20=>
 if r20 then(
  if Aa v15.length ([x19]:V X0).length 48 then(
  if Aa v16.length ([v9]:V X).length 8 then(
   (rec_ (⟨v10,v11,(v15++([x19]:V X0)),(v16++([v9]:V X)),v17,(⟨v12,v13⟩:Xi),v14⟩:Xa)).bind fun r24=>
   (bnd (r24.plan.length:X) (a0.plan.length:X) 0 r24.plan.length).bind fun p25=>
   (bnd (r24.choice.length:X) (a0.plan.length:X) 0 r24.choice.length).bind fun p26=>
   I0 w0 rec_ a0 x8 n (zM .i64 (v9+(1:X))) r24.h r24.choices r24.least.i0 r24.least.i1 r24.found (r24.plan.take p25.2) (r24.choice.take p26.2) r24.best)
  else U)
  else U)
 else(
  I0 w0 rec_ a0 x8 n (zM .i64 (v9+(1:X))) v10 v11 v12 v13 v14 v15 v16 v17))
 else(
 O (⟨v10,v11,v15,v16,v17,(⟨v12,v13⟩:Xi),v14⟩:Xa))
def KF(w0:(V X0)→W Xi)(rec_:Xa→W Xa)(a0:Xa)(r1:Xi)(v5:Y):W Xa:=
if((a0.plan.length:X)==(a0.choices.length:X)) then(
 (B9 a0.choice).bind fun r7=>
 O (⟨a0.h,a0.choices,a0.plan,a0.choice,r7,r1,F⟩:Xa))
else(
 (ix a0.choices (a0.plan.length:X)).bind fun x8=>
 I0 w0 rec_ a0 x8 bigN (0:X) a0.h a0.choices a0.least.i0 a0.least.i1 v5 a0.plan a0.choice a0.best)
def Nt(w0:(V X0)→W Xi)(rec_:Xa→W Xa)(a0:Xa):W Xa:=
(w0 a0.plan).bind fun r1=>
if a0.found then(
 (Ny r1 a0.least).bind fun r3=>
 if r3 then(
 KF w0 rec_ a0 r1 F)
 else(
 O (⟨a0.h,a0.choices,a0.plan,a0.choice,a0.best,a0.least,F⟩:Xa)))
else(
 KF w0 rec_ a0 r1 E)
def I1(w0:(V X0)→W Xi):Z→Xa→W Xa
| 0,_=>U
| n+1,a0=>Nt w0 (I1 w0 n) a0
def Qa(w0:(V X0)→W Xi)(a0:Xa):W Xa:=I1 w0 bigN a0
def HV(a0:X2)(a1:V (V X0))(a2:(V X0)→W Xi):W ((V X) × Xi × Y):=
(Qa a2 (⟨a0,a1,([]:V X0),([]:V X),([]:V X),(⟨(0:X),(0:X)⟩:Xi),E⟩:Xa)).bind fun r1=>
O (r1.best,r1.least,r1.found)
def JE(a0:V X0):Z→X→X→W X
| 0,_,_=>U
| n+1,v1,v2=>
 if(decide (v2<(a0.length:X))) then(
 (ix a0 v2).bind fun x4=>
 JE a0 n (zM .i64 (v1+x4.Cost)) (zM .i64 (v2+(1:X))))
 else(
 O v1)
def MK(a0:V X0):W X:=
JE a0 bigN (0:X) (0:X)
def HJ(a0:V X0):W Xi:=
(MK a0).bind fun r1=>
O (⟨r1,(0:X)⟩:Xi)
def D6(a0:X2)(a1:V X4):W ((V X) × X × Y):=
(Ci a0 a1).bind fun r1=>
if r1 then(
 (HI a0 a1).bind fun r3=>
 (HV a0 r3 (fun z0=>HJ z0)).bind fun r4=>
 O (r4.1,r4.2.1.i0,r4.2.2))
else(
 O (([]:V X),(0:X),E))
def JT(a1:V X):Z→X→W Y
| 0,_=>U
| n+1,v2=>
 if(decide (v2<(a1.length:X))) then(
 (ix a1 v2).bind fun x4=>
 (B3 x4 (a1.length:X)).bind fun r5=>
 if r5 then(
  (ix a1 x4).bind fun x7=>
  if(x7 !=v2) then(
  O E)
  else(
  JT a1 n (zM .i64 (v2+(1:X)))))
 else(
  O E))
 else(
 O F)
def JS(a0:V X4)(a1:V X):W Y:=
if((a1.length:X) !=(a0.length:X)) then(
 O E)
else(
 JT a1 bigN (0:X))
def Jy(a0:V X0)(v1 v2:X)(Io:X→X→W X)(v7:Y):W X:=
if v7 then(
 Io v2 (zM .i64 (v2+(1:X))))
else(
 Io v1 (zM .i64 (v2+(1:X))))
def Ha(a0:V X0):Z→X→X→W X
| 0,_,_=>U
| n+1,v1,v2=>
 if(decide (v2<(a0.length:X))) then(
 (ix a0 v2).bind fun x4=>
 if(decide (v1<(0:X))) then(
  Jy a0 v1 v2 (Ha a0 n) F)
 else(
  (ix a0 v1).bind fun x6=>
  Jy a0 v1 v2 (Ha a0 n) (decide (x4.Cost<x6.Cost))))
 else(
 O v1)
def Jx(a0:V X0):W X:=
Ha a0 bigN (-1:X) (0:X)
def Hh(a0:X2)(a1:X4):W X:=
(CO a0 a1).bind fun r1=>
if((r1.length:X)==(0:X)) then(
 O (-1:X))
else(
 (Jx r1).bind fun r3=>
 (ix r1 r3).bind fun x4=>
 O x4.Cost)
def Hr(v7:X)(r1:(V X0))(v3:X)(r6:(V X0))(v8:X)(a0:X2)(a2:X4)(x5:X0)(Ip:X→X→W X)(v15:X)(v16:Y):W X:=
if v16 then(
 Ip v15 (zM .i64 (v8+(1:X))))
else(
 Ip v7 (zM .i64 (v8+(1:X))))
def FV(r1:(V X0))(v3:X)(r6:(V X0))(a0:X2)(a2:X4)(x5:X0)(F2:X→X→W X):Z→X→X→W X
| 0,_,_=>U
| n+1,v7,v8=>
 if(decide (v8<(r6.length:X))) then(
 (ix r6 v8).bind fun x10=>
 if(decide (v7<(0:X))) then(
  (HK a0.Chart a0.Regime x5.Passages x10.Passages).bind fun r12=>
  Hr v7 r1 v3 r6 v8 a0 a2 x5 (FV r1 v3 r6 a0 a2 x5 F2 n) (zM .i64 (x5.Cost+x10.Cost)) (!r12))
 else(
  if(decide ((zM .i64 (x5.Cost+x10.Cost))<v7)) then(
  (HK a0.Chart a0.Regime x5.Passages x10.Passages).bind fun r14=>
  Hr v7 r1 v3 r6 v8 a0 a2 x5 (FV r1 v3 r6 a0 a2 x5 F2 n) (zM .i64 (x5.Cost+x10.Cost)) (!r14))
  else(
  Hr v7 r1 v3 r6 v8 a0 a2 x5 (FV r1 v3 r6 a0 a2 x5 F2 n) (zM .i64 (x5.Cost+x10.Cost)) E)))
 else(
 F2 v7 (zM .i64 (v3+(1:X))))
def JZ(r1:(V X0))(a0:X2)(a2:X4):Z→X→X→W X
| 0,_,_=>U
| n+1,v2,v3=>
 if(decide (v3<(r1.length:X))) then(
 (ix r1 v3).bind fun x5=>
 (CO a0 a2).bind fun r6=>
 FV r1 v3 r6 a0 a2 x5 (JZ r1 a0 a2 n) bigN v2 (0:X))
 else(
 O v2)
def MT(a0:X2)(a1 a2:X4):W X:=
(CO a0 a1).bind fun r1=>
JZ r1 a0 a2 bigN (-1:X) (0:X)
def FJ(a1:V X4)(v6:X)(a2:V X)(v7:X)(a0:X2)(Lk:X→X→W (X × Y))(v17:X):W (X × Y):=
if(decide (v17<(0:X))) then(
 O ((0:X),E))
else(
 Lk (zM .i64 (v6+v17)) (zM .i64 (v7+(1:X))))
def E6(a1:V X4)(a2:V X)(a0:X2):Z→X→X→W (X × Y)
| 0,_,_=>U
| n+1,v6,v7=>
 if(decide (v7<(a2.length:X))) then(
 (ix a2 v7).bind fun x9=>
 if(x9==v7) then(
  (ix a1 v7).bind fun x11=>
  (Hh a0 x11).bind fun r12=>
  FJ a1 v6 a2 v7 a0 (E6 a1 a2 a0 n) r12)
 else(
  if(decide (v7<x9)) then(
  (ix a1 v7).bind fun x14=>
  (ix a1 x9).bind fun x15=>
  (MT a0 x14 x15).bind fun r16=>
  FJ a1 v6 a2 v7 a0 (E6 a1 a2 a0 n) r16)
  else(
  FJ a1 v6 a2 v7 a0 (E6 a1 a2 a0 n) (0:X))))
 else(
 O (v6,F))
def H6(a1:V X4)(a2:V X)(a0:X2)(v4:Y):W (X × Y):=
if v4 then(
 O ((0:X),E))
else(
 E6 a1 a2 a0 bigN (0:X) (0:X))
def H5(a0:X2)(a1:V X4)(a2:V X):W (X × Y):=
(Ci a0 a1).bind fun r1=>
if r1 then(
 (JS a1 a2).bind fun r3=>
 H6 a1 a2 a0 (!r3))
else(
 H6 a1 a2 a0 F)
def Kj(a0:X2)(a1:V X4)(m:V X)(f:Y)(k:X)(b:V X):W (Y × X × V X):=
(H5 a0 a1 m).bind fun r1=>
if r1.2 then(
 if f then(
 if(decide (k<r1.1)) then(
  (B9 m).bind fun r2=>
  O (F,r1.1,r2))
 else(
  O (f,k,b)))
 else(
 (B9 m).bind fun r2=>
 O (F,r1.1,r2)))
else(
 O (f,k,b))
def Do(rec_:V X→Y→X→V X→W (V X × Y × X × V X))(i:X):Z→X→V X→Y→X→V X→W (V X × Y × X × V X)
| 0,_,_,_,_,_=>U
| n+1,v,m,f,k,b=>
 if(decide (v<(m.length:X))) then(
 (ix m v).bind fun x1=>
 if(decide (x1<(0:X))) then(
  (ix m i).bind fun x2=>
  (ix (m.set (zE i) v) v).bind fun x3=>
  (rec_ ((m.set (zE i) v).set (zE v) i) f k b).bind fun r4=>
  (ix r4.1 i).bind fun x5=>
  (ix (r4.1.set (zE i) (-1:X)) v).bind fun x6=>
  Do rec_ i n (zM .i64 (v+(1:X))) ((r4.1.set (zE i) (-1:X)).set (zE v) (-1:X)) r4.2.1 r4.2.2.1 r4.2.2.2)
 else(
  Do rec_ i n (zM .i64 (v+(1:X))) m f k b))
 else(
 O (m,f,k,b))
def Ea(rec_:V X→Y→X→V X→W (V X × Y × X × V X))(a0:X2)(a1:V X4)(m:V X)(f:Y)(k:X)(b:V X)(v:X):W (V X × Y × X × V X):=
if(v==(m.length:X)) then(
 (Kj a0 a1 m f k b).bind fun r1=>
 O (m,r1.1,r1.2.1,r1.2.2))
else(
 Do rec_ v bigN v m f k b)
def D8(rec_:V X→Y→X→V X→W (V X × Y × X × V X))(a0:X2)(a1:V X4)(m:V X)(f:Y)(k:X)(b:V X):Z→X→W (V X × Y × X × V X)
| 0,_=>U
| n+1,v=>
 if(decide (v<(m.length:X))) then(
 (ix m v).bind fun x1=>
 if(decide ((0:X)≤x1)) then(
  D8 rec_ a0 a1 m f k b n (zM .i64 (v+(1:X))))
 else(
  Ea rec_ a0 a1 m f k b v))
 else(
 Ea rec_ a0 a1 m f k b v)
def DL(a0:X2)(a1:V X4):Z→V X→Y→X→V X→W (V X × Y × X × V X)
| 0,_,_,_,_=>U
| n+1,m,f,k,b=>D8 (DL a0 a1 n) a0 a1 m f k b bigN (0:X)
def G7(a0:X2)(a1:V X4)(m:V X)(f:Y)(k:X)(b:V X):W (V X × Y × X × V X):=DL a0 a1 bigN m f k b
def FI(a0:X2)(a1:V X4)(y4:X):Z→X→(V X)→W ((V X) × X × Y)
| 0,_,_=>U
| n+1,v5,v6=>
 if(decide (v5<y4)) then(
 (ix v6 v5).bind fun x8=>
 FI a0 a1 y4 n (zM .i64 (v5+(1:X))) (v6.set (zE v5) (-1:X)))
 else(
 (G7 a0 a1 v6 E (0:X) ([]:V X)).bind fun r9=>
 O (r9.2.2.2,r9.2.2.1,r9.2.1))
def H3(a0:X2)(a1:V X4):W ((V X) × X × Y):=
(Ci a0 a1).bind fun r1=>
if r1 then(
 (Bx (a1.length:X) (a1.length:X) 8).bind fun n3=>
 FI a0 a1 ((zD n3 (0:X)).length:X) bigN (0:X) (zD n3 (0:X)))
else(
 O (([]:V X),(0:X),E))
def Nz(a0:Xm):W (V zA):=
if a0.isS then(
 O a0.s)
else(
 (BW a0.n).bind fun r2=>
 O r2)
def KQ(a0:V Xm):Z→X→(V (V zA))→W (V zA)
| 0,_,_=>U
| n+1,v1,v2=>
 if(decide (v1<(a0.length:X))) then(
 (ix a0 v1).bind fun x4=>
 (Nz x4).bind fun r5=>
 if Aa v2.length ([r5]:V (V zA)).length 16 then(
  KQ a0 n (zM .i64 (v1+(1:X))) (v2++([r5]:V (V zA))))
 else U)
 else(
 (D7 v2 ([32]:V zA)).bind fun r7=>
 O r7)
def EV(a0:V Xm):W (V zA):=
KQ a0 bigN (0:X) ([]:V (V zA))
def EJ(a0:X2)(a1:V X4):W (V zA):=
(Ci a0 a1).bind fun r1=>
if r1 then(
 (D6 a0 a1).bind fun r3=>
 if r3.2.2 then(
 (H3 a0 a1).bind fun r5=>
 (EV ([(⟨F,([99,111,115,116]:V zA),0⟩:Xm),(⟨E,[],r3.2.1⟩:Xm),(⟨F,([98,111,117,110,100]:V zA),0⟩:Xm),(⟨E,[],r5.2.1⟩:Xm),(⟨F,([103,97,112]:V zA),0⟩:Xm),(⟨E,[],(zM .i64 (r3.2.1 - r5.2.1))⟩:Xm)]:V Xm)).bind fun r6=>
 O r6)
 else(
 O ([110,111,32,112,108,97,110]:V zA)))
else(
 O ([]:V zA))
def CA(a0:V zA):W (V zA):=
if(a0==([]:V zA)) then(
 O ([110,111,110,101]:V zA))
else(
 O a0)
def KJ(rec_:X→X→W (V (V X)))(a0 a1 v2:X)(r5:(V (V X)))(v6:X)(x9:V X)(v7:V (V X))(Iv:X→(V (V X))→W (V (V X))):Z→X→(V X)→W (V (V X))
| 0,_,_=>U
| n+1,v10,v11=>
 if(decide (v10<(x9.length:X))) then(
 (ix x9 v10).bind fun x13=>
 if Aa v11.length ([(zM .i64 ((zM .i64 (v2+(1:X)))+x13))]:V X).length 8 then(
  KJ rec_ a0 a1 v2 r5 v6 x9 v7 Iv n (zM .i64 (v10+(1:X))) (v11++([(zM .i64 ((zM .i64 (v2+(1:X)))+x13))]:V X)))
 else U)
 else(
 if Aa v7.length ([v11]:V (V X)).length 24 then(
  Iv (zM .i64 (v6+(1:X))) (v7++([v11]:V (V X))))
 else U)
def KI(rec_:X→X→W (V (V X)))(a0 a1 v2:X)(r5:(V (V X)))(Iu:X→(V (V X))→W (V (V X))):Z→X→(V (V X))→W (V (V X))
| 0,_,_=>U
| n+1,v6,v7=>
 if(decide (v6<(r5.length:X))) then(
 (ix r5 v6).bind fun x9=>
 KJ rec_ a0 a1 v2 r5 v6 x9 v7 (KI rec_ a0 a1 v2 r5 Iu n) bigN (0:X) ([v2]:V X))
 else(
 Iu (zM .i64 (v2+(1:X))) v7)
def KH(rec_:X→X→W (V (V X)))(a0 a1:X):Z→X→(V (V X))→W (V (V X))
| 0,_,_=>U
| n+1,v2,v3=>
 if(decide (v2<a0)) then(
 (rec_ (zM .i64 ((zM .i64 (a0 - v2)) - (1:X))) (zM .i64 (a1 - (1:X)))).bind fun r5=>
 KI rec_ a0 a1 v2 r5 (KH rec_ a0 a1 n) bigN (0:X) v3)
 else(
 O v3)
def Nw(rec_:X→X→W (V (V X)))(a0 a1:X):W (V (V X)):=
if(a1==(0:X)) then(
 O ([([]:V X)]:V (V X)))
else(
 KH rec_ a0 a1 bigN (0:X) ([]:V (V X)))
def I2:Z→X→X→W (V (V X))
| 0,_,_=>U
| n+1,a0,a1=>Nw (I2 n) a0 a1
def KG(a0 a1:X):W (V (V X)):=I2 bigN a0 a1
def HS(a0:V X4)(a1:V X):Z→X→W Y
| 0,_=>U
| n+1,v1=>
 if(decide (v1<(a1.length:X))) then(
 (ix a1 v1).bind fun x3=>
 (B3 x3 (a0.length:X)).bind fun r4=>
 if r4 then(
  if(decide ((0:X)<v1)) then(
  (ix a1 (zM .i64 (v1 - (1:X)))).bind fun x7=>
  if(decide (x3≤x7)) then(
   O E)
  else(
   HS a0 a1 n (zM .i64 (v1+(1:X)))))
  else(
  HS a0 a1 n (zM .i64 (v1+(1:X)))))
 else(
  O E))
 else(
 O F)
def HR(a0:V X4)(a1:V X):W Y:=
HS a0 a1 bigN (0:X)
def Kc(a0:V X4)(a1:V X):Z→X→(V X4)→W (V X4)
| 0,_,_=>U
| n+1,v3,v4=>
 if(decide (v3<(a1.length:X))) then(
 (ix a1 v3).bind fun x6=>
 (ix a0 x6).bind fun x7=>
 if Aa v4.length ([x7]:V X4).length 40 then(
  Kc a0 a1 n (zM .i64 (v3+(1:X))) (v4++([x7]:V X4)))
 else U)
 else(
 O v4)
def Kb(a0:V X4)(a1:V X):W (V X4):=
(HR a0 a1).bind fun r1=>
if r1 then(
 Kc a0 a1 bigN (0:X) ([]:V X4))
else(
 O ([]:V X4))
def Jp(a0:X2)(a1:V X4):W Y:=
(D6 a0 a1).bind fun r1=>
O r1.2.2
def G2(a0:X2)(a1:V X4)(a2:V X):W Y:=
(Ci a0 a1).bind fun r1=>
if r1 then(
 (HR a1 a2).bind fun r3=>
 if r3 then(
 (Kb a1 a2).bind fun r5=>
 (Jp a0 r5).bind fun r6=>
 O r6)
 else(
 O E))
else(
 O E)
def EQ(a1:V X4)(y3 v4:X)(r6:(V (V X)))(a0:X2)(Iq:X→W (V X)):Z→X→W (V X)
| 0,_=>U
| n+1,v7=>
 if(decide (v7<(r6.length:X))) then(
 (ix r6 v7).bind fun x9=>
 (G2 a0 a1 x9).bind fun r10=>
 if r10 then(
  EQ a1 y3 v4 r6 a0 Iq n (zM .i64 (v7+(1:X))))
 else(
  O x9))
 else(
 Iq (zM .i64 (v4+(1:X))))
def G0(a1:V X4)(a0:X2)(y3:X):Z→X→W (V X)
| 0,_=>U
| n+1,v4=>
 if(decide (v4<y3)) then(
 (KG (a1.length:X) v4).bind fun r6=>
 EQ a1 y3 v4 r6 a0 (G0 a1 a0 y3 n) bigN (0:X))
 else(
 O ([]:V X))
def Hx(a0:X2)(a1:V X4):W (V X):=
(Ci a0 a1).bind fun r1=>
if r1 then(
 G0 a1 a0 (zM .i64 ((a1.length:X)+(1:X))) bigN (0:X))
else(
 O ([]:V X))
def Hv(a1:V X4)(r3:(V X))(a0:X2):Z→X→(V (V zA))→W (V zA)
| 0,_,_=>U
| n+1,v4,v5=>
 if(decide (v4<(r3.length:X))) then(
 (ix r3 v4).bind fun x7=>
 (ix a1 x7).bind fun x8=>
 (ix a0.Fleet x8.Ship).bind fun x9=>
 if Aa v5.length ([x9.Name]:V (V zA)).length 16 then(
  Hv a1 r3 a0 n (zM .i64 (v4+(1:X))) (v5++([x9.Name]:V (V zA))))
 else U)
 else(
 if((v5.length:X)==(0:X)) then(
  O ([110,111,110,101]:V zA))
 else(
  (D7 v5 ([43]:V zA)).bind fun r12=>
  O r12))
def EP(a0:X2)(a1:V X4):W (V zA):=
(Ci a0 a1).bind fun r1=>
if r1 then(
 (Hx a0 a1).bind fun r3=>
 Hv a1 r3 a0 bigN (0:X) ([]:V (V zA)))
else(
 O ([]:V zA))
def Hf(a0:Xo):Z→X→W Y
| 0,_=>U
| n+1,v5=>
 if(decide (v5<(a0.Starts.length:X))) then(
 (ix a0.Starts v5).bind fun x7=>
 (Bd x7 (-1:X) (2880:X)).bind fun r9=>
 if r9 then(
  (ix a0.Cleared v5).bind fun x11=>
  if x11 then(
  if(decide (x7<(0:X))) then(
   O E)
  else(
   Hf a0 n (zM .i64 (v5+(1:X)))))
  else(
  Hf a0 n (zM .i64 (v5+(1:X)))))
 else(
  O E))
 else(
 O F)
def MN(a0:Xo):W Y:=
(CQ a0.Now).bind fun r1=>
if r1 then(
 if(decide ((6:X)<(a0.Starts.length:X))) then(
 O E)
 else(
 if((a0.Cleared.length:X) !=(a0.Starts.length:X)) then(
  O E)
 else(
  Hf a0 bigN (0:X))))
else(
 O E)
def FP(a0:Xo):Z→(V zA)→X→W (V zA)
| 0,_,_=>U
| n+1,v4,v5=>
 if(decide (v5<(a0.Starts.length:X))) then(
 (ix a0.Starts v5).bind fun x7=>
 if(decide (x7<(0:X))) then(
  if AZ v4.length ([32,45]:V zA).length then(
  FP a0 n (v4++([32,45]:V zA)) (zM .i64 (v5+(1:X))))
  else U)
 else(
  (ix a0.Cleared v5).bind fun x10=>
  if x10 then(
  (BW x7).bind fun r12=>
  if AZ ([32]:V zA).length r12.length then(
   if AZ (([32]:V zA)++r12).length ([33]:V zA).length then(
   if AZ v4.length ((([32]:V zA)++r12)++([33]:V zA)).length then(
    FP a0 n (v4++((([32]:V zA)++r12)++([33]:V zA))) (zM .i64 (v5+(1:X))))
   else U)
   else U)
  else U)
  else(
  (BW x7).bind fun r16=>
  if AZ ([32]:V zA).length r16.length then(
   if AZ v4.length (([32]:V zA)++r16).length then(
   FP a0 n (v4++(([32]:V zA)++r16)) (zM .i64 (v5+(1:X))))
   else U)
  else U)))
 else(
 O v4)
def ML(a0:Xo):W (V zA):=
(MN a0).bind fun r1=>
if r1 then(
 (BW a0.Now).bind fun r3=>
 FP a0 bigN r3 (0:X))
else(
 O ([]:V zA))
def FZ(a2:V X)(a1:V X4)(a0:X2):Z→X→(V X0)→W ((V X0) × Y)
| 0,_,_=>U
| n+1,v5,v6=>
 if(decide (v5<(a1.length:X))) then(
 (ix a1 v5).bind fun x8=>
 (CO a0 x8).bind fun r9=>
 (ix a2 v5).bind fun x10=>
 (B3 x10 (r9.length:X)).bind fun r11=>
 if r11 then(
  (ix r9 x10).bind fun x13=>
  if Aa v6.length ([x13]:V X0).length 48 then(
  FZ a2 a1 a0 n (zM .i64 (v5+(1:X))) (v6++([x13]:V X0)))
  else U)
 else(
  O (([]:V X0),E)))
 else(
 O (v6,F))
def FY(a1:V X4)(a2:V X)(a0:X2)(v3:Y):W ((V X0) × Y):=
if v3 then(
 O (([]:V X0),E))
else(
 FZ a2 a1 a0 bigN (0:X) ([]:V X0))
def FX(a0:X2)(a1:V X4)(a2:V X):W ((V X0) × Y):=
(Ci a0 a1).bind fun r1=>
if r1 then(
 FY a1 a2 a0 ((a2.length:X) !=(a1.length:X)))
else(
 FY a1 a2 a0 F)
def DI(a0:X9):W ((V X0) × Y × X9):=
(D6 a0.Harbour a0.Calls).bind fun r1=>
if r1.2.2 then(
 (FX a0.Harbour a0.Calls r1.1).bind fun r3=>
 O (r3.1,r3.2,a0))
else(
 O (([]:V X0),E,a0))
def Nb(a0:V X1):W (V X1):=
(Bx (0:X) (a0.length:X) 40).bind fun n1=>
if Aa (zD n1 (⟨(0:X),(0:X),E,(0:X),(0:X)⟩:X1)).length a0.length 40 then(
 O ((zD n1 (⟨(0:X),(0:X),E,(0:X),(0:X)⟩:X1))++a0))
else U
def Jq(a0:V X0):Z→X→(V (V X1))→W (V (V X1))
| 0,_,_=>U
| n+1,v1,v2=>
 if(decide (v1<(a0.length:X))) then(
 (ix a0 v1).bind fun x4=>
 (Nb x4.Passages).bind fun r5=>
 if Aa v2.length ([r5]:V (V X1)).length 24 then(
  Jq a0 n (zM .i64 (v1+(1:X))) (v2++([r5]:V (V X1))))
 else U)
 else(
 O v2)
def ME(a0:V X0):W (V (V X1)):=
Jq a0 bigN (0:X) ([]:V (V X1))
def N8(a0:Xq)(a1:X5)(a2:V X8)(a3:V X1):W X:=
(KK a1 a2 a3).bind fun r1=>
if r1.2 then(
 (He a0).bind fun r3=>
 if r3 then(
 (Hp (0:X) a0.Moves r1.1).bind fun r5=>
 O r5.2.1)
 else(
 O (-1:X)))
else(
 O (-1:X))
def Hk(a1:V X1)(a0:X5):Z→X→W Y
| 0,_=>U
| n+1,v3=>
 if(decide (v3<(a1.length:X))) then(
 (ix a1 v3).bind fun x5=>
 (ix a1 (0:X)).bind fun x6=>
 if(x5.Ship !=x6.Ship) then(
  O E)
 else(
  (B3 x5.Segment (a0.Segments.length:X)).bind fun r9=>
  if r9 then(
  if(v3==(0:X)) then(
   Hk a1 a0 n (zM .i64 (v3+(1:X))))
  else(
   (ix a1 (zM .i64 (v3 - (1:X)))).bind fun x12=>
   (FW x12 a0).bind fun r13=>
   (FW x5 a0).bind fun r14=>
   if(r14.1 !=r13.2) then(
   O E)
   else(
   if(decide (x5.Start<x12.End)) then(
    O E)
   else(
    Hk a1 a0 n (zM .i64 (v3+(1:X)))))))
  else(
  O E)))
 else(
 O F)
def MR(a0:X5)(a1:V X1):W Y:=
(Cy a0).bind fun r1=>
if r1 then(
 Hk a1 a0 bigN (0:X))
else(
 O E)
def K4(a1:V X8)(a2:V X1)(a0:X5):Z→X→W (Xc × Y)
| 0,_=>U
| n+1,v5=>
 if(decide (v5<(a2.length:X))) then(
 (ix a2 v5).bind fun x7=>
 (K1 a0 a1 x7).bind fun r9=>
 if r9 then(
  K4 a1 a2 a0 n (zM .i64 (v5+(1:X))))
 else(
  O ((⟨(0:X),(0:X),(0:X),(0:X)⟩:Xc),E)))
 else(
 (ix a2 (0:X)).bind fun x11=>
 (ix a2 (zM .i64 ((a2.length:X) - (1:X)))).bind fun x12=>
 (HQ a0 x11 x12).bind fun r13=>
 O (r13,F))
def K3(a1:V X8)(a2:V X1)(a0:X5)(v3:Y):W (Xc × Y):=
if v3 then(
 O ((⟨(0:X),(0:X),(0:X),(0:X)⟩:Xc),E))
else(
 K4 a1 a2 a0 bigN (0:X))
def MY(a0:X5)(a1:V X8)(a2:V X1):W (Xc × Y):=
if((a2.length:X)==(0:X)) then(
 K3 a1 a2 a0 F)
else(
 (MR a0 a2).bind fun r2=>
 K3 a1 a2 a0 (!r2))
def Ht(a2:V X8)(a3:V (V X1))(a0:Xq)(a1:X5):Z→X→(V Xc)→W X
| 0,_,_=>U
| n+1,v1,v2=>
 if(decide (v1<(a3.length:X))) then(
 (ix a3 v1).bind fun x4=>
 if((x4.length:X)==(0:X)) then(
  Ht a2 a3 a0 a1 n (zM .i64 (v1+(1:X))) v2)
 else(
  (MY a1 a2 x4).bind fun r6=>
  if r6.2 then(
  if Aa v2.length ([r6.1]:V Xc).length 32 then(
   Ht a2 a3 a0 a1 n (zM .i64 (v1+(1:X))) (v2++([r6.1]:V Xc)))
  else U)
  else(
  O (-1:X))))
 else(
 (He a0).bind fun r9=>
 if r9 then(
  if(decide ((12:X)<(v2.length:X))) then(
  O (-1:X))
  else(
  (Hp a0.Rest a0.Moves v2).bind fun r12=>
  O r12.2.1))
 else(
  O (-1:X)))
def MZ(a0:Xq)(a1:X5)(a2:V X8)(a3:V (V X1)):W X:=
Ht a2 a3 a0 a1 bigN (0:X) ([]:V Xc)
def JF(r3:(V (V X1)))(a0:X2):Z→X→(V X1)→W (V zA)
| 0,_,_=>U
| n+1,v4,v5=>
 if(decide (v4<(r3.length:X))) then(
 (ix r3 v4).bind fun x7=>
 if Aa v5.length x7.length 40 then(
  JF r3 a0 n (zM .i64 (v4+(1:X))) (v5++x7))
 else U)
 else(
 (N8 a0.Crew a0.Chart a0.Fleet v5).bind fun r9=>
 (MZ a0.Crew a0.Chart a0.Fleet r3).bind fun r10=>
 (EV ([(⟨F,([116,117,103,115]:V zA),0⟩:Xm),(⟨E,[],r9⟩:Xm),(⟨F,([112,105,108,111,116,115]:V zA),0⟩:Xm),(⟨E,[],r10⟩:Xm)]:V Xm)).bind fun r11=>
 O r11)
def FO(a0:X2)(a1:V X0):W (V zA):=
(FR a0).bind fun r1=>
if r1 then(
 (ME a1).bind fun r3=>
 JF r3 a0 bigN (0:X) ([]:V X1))
else(
 O ([]:V zA))
def Hq(a2:V X)(a3:X)(a0:X2)(a1:X4)(v4:Y):W (X0 × Y):=
if v4 then(
 O ((⟨(0:X),(0:X),(0:X),([]:V X1)⟩:X0),E))
else(
 (G9 a0 a1 a2).bind fun r6=>
 if r6.2 then(
 (HY a0 a1 r6.1 a2 a3).bind fun r9=>
 if r9.2 then(
  O (r9.1,F))
 else(
  O ((⟨(0:X),(0:X),(0:X),([]:V X1)⟩:X0),E)))
 else(
 O ((⟨(0:X),(0:X),(0:X),([]:V X1)⟩:X0),E)))
def FU(a0:X2)(a1:X4)(a2:V X)(a3:X):W (X0 × Y):=
(FL a0 a1).bind fun r1=>
if r1 then(
 (Bd a3 a1.Ready a1.Due).bind fun r3=>
 Hq a2 a3 a0 a1 (!r3))
else(
 Hq a2 a3 a0 a1 F)
def KW(a0 a1:V X1):Z→X→W Y
| 0,_=>U
| n+1,v2=>
 if(decide (v2<(a0.length:X))) then(
 (ix a0 v2).bind fun x4=>
 (ix a1 v2).bind fun x5=>
 if((x4.Ship==x5.Ship)&&((x4.Segment==x5.Segment)&&((x4.Toward==x5.Toward)&&((x4.Start==x5.Start)&&((x4.End==x5.End)&&F))))) then(
  KW a0 a1 n (zM .i64 (v2+(1:X))))
 else(
  O E))
 else(
 O F)
def NC(a0 a1:V X1):W Y:=
if((a0.length:X) !=(a1.length:X)) then(
 O E)
else(
 KW a0 a1 bigN (0:X))
def K9(a0 a1:X0):W Y:=
if(a0.Start==a1.Start) then(
 if(a0.Arrival==a1.Arrival) then(
 if(a0.Cost==a1.Cost) then(
  (NC a0.Passages a1.Passages).bind fun r4=>
  O r4)
 else(
  O E))
 else(
 O E))
else(
 O E)
def FS(a2:X0)(a0:X2)(a1:X4):Z→X→(V X)→W Y
| 0,_,_=>U
| n+1,v1,v2=>
 if(decide (v1<(a2.Passages.length:X))) then(
 (ix a2.Passages v1).bind fun x4=>
 if Aa v2.length ([x4.Segment]:V X).length 8 then(
  FS a2 a0 a1 n (zM .i64 (v1+(1:X))) (v2++([x4.Segment]:V X)))
 else U)
 else(
 (FU a0 a1 v2 a2.Start).bind fun r6=>
 if r6.2 then(
  (K9 r6.1 a2).bind fun r9=>
  O r9)
 else(
  O E))
def Hn(a0:X2)(a1:X4)(a2:X0):W Y:=
FS a2 a0 a1 bigN (0:X) ([]:V X)
def FT(a2:V X0)(a1:V X4)(a0:X2):Z→X→W Y
| 0,_=>U
| n+1,v4=>
 if(decide (v4<(a1.length:X))) then(
 (ix a1 v4).bind fun x6=>
 (ix a2 v4).bind fun x7=>
 (Hn a0 x6 x7).bind fun r9=>
 if r9 then(
  (bnd (a2.length:X) v4 (0:X) a2.length).bind fun p11=>
  (Gc a0 ((a2.drop p11.1).take (p11.2 - p11.1)) x7).bind fun r12=>
  if r12 then(
  FT a2 a1 a0 n (zM .i64 (v4+(1:X))))
  else(
  O E))
 else(
  O E))
 else(
 O F)
def Ho(a0:X2)(a1:V X4)(a2:V X0):W Y:=
(Ci a0 a1).bind fun r1=>
if r1 then(
 if((a2.length:X) !=(a1.length:X)) then(
 O E)
 else(
 FT a2 a1 a0 bigN (0:X)))
else(
 O E)
def Hu(a1:V X4)(a2:V X0)(a0:X2):Z→X→(V (V zA))→W (V (V zA))
| 0,_,_=>U
| n+1,v3,v4=>
 if(decide (v3<(a2.length:X))) then(
 (ix a2 v3).bind fun x6=>
 (ix a1 v3).bind fun x7=>
 (ix a0.Fleet x7.Ship).bind fun x8=>
 (EV ([(⟨F,x8.Name,0⟩:Xm),(⟨F,([115,116,97,114,116]:V zA),0⟩:Xm),(⟨E,[],x6.Start⟩:Xm),(⟨F,([97,114,114,105,118,101]:V zA),0⟩:Xm),(⟨E,[],x6.Arrival⟩:Xm),(⟨F,([119,97,105,116]:V zA),0⟩:Xm),(⟨E,[],x6.Cost⟩:Xm)]:V Xm)).bind fun r9=>
 if Aa v4.length ([r9]:V (V zA)).length 16 then(
  Hu a1 a2 a0 n (zM .i64 (v3+(1:X))) (v4++([r9]:V (V zA))))
 else U)
 else(
 O v4)
def EO(a0:X2)(a1:V X4)(a2:V X0):W (V (V zA)):=
(Ho a0 a1 a2).bind fun r1=>
if r1 then(
 Hu a1 a2 a0 bigN (0:X) ([]:V (V zA)))
else(
 O ([]:V (V zA)))
def Cb(a0:X9)(a1:V zA):W ((V zA) × X9):=
if(a1==([98,111,117,110,100]:V zA)) then(
 (EJ a0.Harbour a0.Calls).bind fun r2=>
 (CA r2).bind fun r3=>
 O (r3,a0))
else(
 if(a1==([114,101,102,117,115,101]:V zA)) then(
 (EP a0.Harbour a0.Calls).bind fun r5=>
 (CA r5).bind fun r6=>
 O (r6,a0))
 else(
 if(a1==([100,101,115,107]:V zA)) then(
  (ML a0.Desk).bind fun r9=>
  (CA r9).bind fun r10=>
  O (r10,a0))
 else(
  (DI a0).bind fun r11=>
  if r11.2.1 then(
  if(a1==([99,114,101,119]:V zA)) then(
   (FO r11.2.2.Harbour r11.1).bind fun r14=>
   (CA r14).bind fun r15=>
   O (r15,r11.2.2))
  else(
   (EO r11.2.2.Harbour r11.2.2.Calls r11.1).bind fun r16=>
   (D7 r16 ([59]:V zA)).bind fun r17=>
   (CA r17).bind fun r18=>
   O (r18,r11.2.2)))
  else(
  O (([110,111,110,101]:V zA),r11.2.2)))))
def JM(a0:V X7):Z→X→(V (V zA))→W (V zA)
| 0,_,_=>U
| n+1,v4,v5=>
 if(decide (v4<(a0.length:X))) then(
 (ix a0 v4).bind fun x7=>
 (BW x7.From).bind fun r9=>
 if AZ r9.length ([45]:V zA).length then(
  (BW x7.To).bind fun r11=>
  if AZ (r9++([45]:V zA)).length r11.length then(
  if Aa v5.length ([((r9++([45]:V zA))++r11)]:V (V zA)).length 16 then(
   JM a0 n (zM .i64 (v4+(1:X))) (v5++([((r9++([45]:V zA))++r11)]:V (V zA))))
  else U)
  else U)
 else U)
 else(
 (D7 v5 ([32]:V zA)).bind fun r14=>
 O r14)
def JL(a0:V X7):W (V zA):=
(HG a0).bind fun r1=>
if r1 then(
 if((a0.length:X)==(0:X)) then(
 O ([110,111,110,101]:V zA))
 else(
 JM a0 bigN (0:X) ([]:V (V zA))))
else(
 O ([]:V zA))
def G6(a1:X5)(a0:Xh)(a2:X8):Z→X→(V (V zA))→W (V (V zA))
| 0,_,_=>U
| n+1,v7,v8=>
 if(decide (v7<(a1.Segments.length:X))) then(
 (ix a1.Segments v7).bind fun x10=>
 (ix a1.Points x10.A).bind fun x11=>
 if AZ x11.Name.length ([45]:V zA).length then(
  (ix a1.Points x10.B).bind fun x13=>
  if AZ (x11.Name++([45]:V zA)).length x13.Name.length then(
  (Dn a0 a1 v7 a2).bind fun r15=>
  (JL r15).bind fun r16=>
  (EV ([(⟨F,((x11.Name++([45]:V zA))++x13.Name),0⟩:Xm),(⟨F,r16,0⟩:Xm)]:V Xm)).bind fun r17=>
  if Aa v8.length ([r17]:V (V zA)).length 16 then(
   G6 a1 a0 a2 n (zM .i64 (v7+(1:X))) (v8++([r17]:V (V zA))))
  else U)
  else U)
 else U)
 else(
 O v8)
def G5(a0:Xh)(a1:X5)(a2:X8):W (V (V zA)):=
(Cj a0).bind fun r1=>
if r1 then(
 (Cy a1).bind fun r3=>
 if r3 then(
 (Cz a2).bind fun r5=>
 if r5 then(
  G6 a1 a0 a2 bigN (0:X) ([]:V (V zA)))
 else(
  O ([]:V (V zA))))
 else(
 O ([]:V (V zA))))
else(
 O ([]:V (V zA)))
def Hd(a0:X9)(a1:V zA):W ((V zA) × X9):=
(G3 a0.Harbour.Fleet a1).bind fun r1=>
if(decide (r1<(0:X))) then(
 O (([110,111,110,101]:V zA),a0))
else(
 (ix a0.Harbour.Fleet r1).bind fun x3=>
 (G5 a0.Harbour.Forecast a0.Harbour.Chart x3).bind fun r4=>
 (D7 r4 ([59]:V zA)).bind fun r5=>
 (CA r5).bind fun r6=>
 O (r6,a0))
def Jz(r5:(V X))(a0:X9):Z→X→(V (V zA))→W ((V zA) × X9)
| 0,_,_=>U
| n+1,v6,v7=>
 if(decide (v6<(r5.length:X))) then(
 (ix r5 v6).bind fun x9=>
 (ix a0.Harbour.Chart.Points x9).bind fun x10=>
 if Aa v7.length ([x10.Name]:V (V zA)).length 16 then(
  Jz r5 a0 n (zM .i64 (v6+(1:X))) (v7++([x10.Name]:V (V zA))))
 else U)
 else(
 (D7 v7 ([62]:V zA)).bind fun r12=>
 O (r12,a0))
def Hb(a0:X9)(a1 a2:V zA):W ((V zA) × X9):=
(DJ a0.Harbour.Chart a1).bind fun r1=>
(DJ a0.Harbour.Chart a2).bind fun r2=>
(EI a0.Harbour.Chart r1 r2).bind fun r3=>
if r3.2 then(
 (E8 a0.Harbour.Chart r1 r3.1).bind fun r5=>
 Jz r5 a0 bigN (0:X) ([]:V (V zA)))
else(
 O (([110,111,110,101]:V zA),a0))
def JC(a0:X9)(r1:(V (V zA)))(v44:Y):W ((V zA) × X9):=
if v44 then(
 (ix r1 (1:X)).bind fun x46=>
 (ix r1 (2:X)).bind fun x47=>
 (Hb a0 x46 x47).bind fun r48=>
 O (r48.1,r48.2))
else(
 O (([117,110,107,110,111,119,110,32,99,111,109,109,97,110,100]:V zA),a0))
def JB(a0:X9)(r1:(V (V zA)))(v39:Y):W ((V zA) × X9):=
if v39 then(
 (ix r1 (1:X)).bind fun x41=>
 U)
else(
 if((r1.length:X)==(3:X)) then(
 (ix r1 (0:X)).bind fun x43=>
 JC a0 r1 (x43==([114,111,117,116,101]:V zA)))
 else(
 JC a0 r1 E))
def JA(a0:X9)(r1:(V (V zA)))(v33:Y):W ((V zA) × X9):=
if v33 then(
 (ix r1 (1:X)).bind fun x35=>
 (Hd a0 x35).bind fun r36=>
 O (r36.1,r36.2))
else(
 if((r1.length:X)==(2:X)) then(
 (ix r1 (0:X)).bind fun x38=>
 JB a0 r1 (x38==([108,101,118,101,108]:V zA)))
 else(
 JB a0 r1 E))
def E7(a0:X9)(r1:(V (V zA)))(v27:Y):W ((V zA) × X9):=
if v27 then(
 (ix r1 (0:X)).bind fun x29=>
 (Cb a0 x29).bind fun r30=>
 O (r30.1,r30.2))
else(
 if((r1.length:X)==(2:X)) then(
 (ix r1 (0:X)).bind fun x32=>
 JA a0 r1 (x32==([115,117,114,101]:V zA)))
 else(
 JA a0 r1 E))
def FN(a0:X9)(r1:(V (V zA)))(v19:Y):W ((V zA) × X9):=
if v19 then(
 U)
else(
 if((r1.length:X)==(1:X)) then(
 (ix r1 (0:X)).bind fun x22=>
 if(x22==([112,108,97,110]:V zA)) then(
  E7 a0 r1 F)
 else(
  if(x22==([98,111,117,110,100]:V zA)) then(
  E7 a0 r1 F)
  else(
  if(x22==([114,101,102,117,115,101]:V zA)) then(
   E7 a0 r1 F)
  else(
   if(x22==([99,114,101,119]:V zA)) then(
   E7 a0 r1 F)
   else(
   E7 a0 r1 (x22==([100,101,115,107]:V zA)))))))
 else(
 E7 a0 r1 E))
def FM(x2:V zA)(a0:X9)(r1:(V (V zA)))(v11:Y):W ((V zA) × X9):=
if v11 then(
 (MJ a0 r1).bind fun r13=>
 O (r13.1,r13.2))
else(
 if(x2==([99,97,108,108]:V zA)) then(
 (MG a0 r1).bind fun r15=>
 O (r15.1,r15.2))
 else(
 if(x2==([97,110,110,111,117,110,99,101]:V zA)) then(
  FN a0 r1 F)
 else(
  if(x2==([99,108,101,97,114]:V zA)) then(
  FN a0 r1 F)
  else(
  if(x2==([99,97,110,99,101,108]:V zA)) then(
   FN a0 r1 F)
  else(
   FN a0 r1 (x2==([116,105,99,107]:V zA)))))))
def Hc(a1 x2:V zA)(a0:X9)(r1:(V (V zA)))(v5:Y):W ((V zA) × X9):=
if v5 then(
 (MH a0 a1 r1).bind fun r7=>
 O (r7.1,r7.2))
else(
 if(x2==([109,101,97,110]:V zA)) then(
 FM x2 a0 r1 F)
 else(
 if(x2==([119,97,118,101]:V zA)) then(
  FM x2 a0 r1 F)
 else(
  if(x2==([115,117,114,103,101]:V zA)) then(
  FM x2 a0 r1 F)
  else(
  FM x2 a0 r1 (x2==([103,97,112]:V zA))))))
def MI(a0:X9)(a1:V zA):W ((V zA) × X9):=
(HC a1 ([32]:V zA)).bind fun r1=>
(ix r1 (0:X)).bind fun x2=>
if(x2==([112,111,105,110,116]:V zA)) then(
 Hc a1 x2 a0 r1 F)
else(
 if(x2==([99,104,97,110,110,101,108]:V zA)) then(
 Hc a1 x2 a0 r1 F)
 else(
 Hc a1 x2 a0 r1 (x2==([115,104,105,112]:V zA))))
def K7(a1:V zA)(r1:X9)(v4:Y):W (X9 × (V zA)):=
if v4 then(
 O (r1,([]:V zA)))
else(
 (MI r1 a1).bind fun r6=>
 O (r6.2,r6.1))
def Bi(a0:X9)(a1:V zA):W (X9 × (V zA)):=
(CP a0).bind fun r1=>
if(a1==([]:V zA)) then(
 K7 a1 r1 F)
else(
 (ix a1 (0:X)).bind fun b3=>
 K7 a1 r1 ((b3.toNat:X)==(35:X)))
def DK(r1:(V (V zA))):Z→(V zA)→X→X→(V Xf)→(V Xb)→(V Xd)→(V X6)→(V X8)→X→Y→X→X→X→(V X)→(V X4)→X→(V X)→(V Y)→W ((V zA) × X)
| 0,_,_,_,_,_,_,_,_,_,_,_,_,_,_,_,_,_,_=>U
| n+1,v4,v5,v6,v7,v8,v9,v10,v11,v12,v13,v14,v15,v16,v17,v18,v19,v20,v21=>
 if(decide (v5<(r1.length:X))) then(
 (ix r1 v5).bind fun x23=>
 (Bi (⟨(⟨(⟨(⟨v6,v7⟩:Xp),v8⟩:Xh),(⟨v9,v10⟩:X5),v11,(⟨v12,v13⟩:Xl),(⟨v14,v15,v16,v17⟩:Xq)⟩:X2),v18,(⟨v19,v20,v21⟩:Xo)⟩:X9) x23).bind fun r24=>
 if(r24.2==([]:V zA)) then(
  DK r1 n v4 (zM .i64 (v5+(1:X))) r24.1.Harbour.Forecast.Tide.Mean r24.1.Harbour.Forecast.Tide.Parts r24.1.Harbour.Forecast.Surges r24.1.Harbour.Chart.Points r24.1.Harbour.Chart.Segments r24.1.Harbour.Fleet r24.1.Harbour.Regime.Gap r24.1.Harbour.Regime.NoMeet r24.1.Harbour.Crew.Tugs r24.1.Harbour.Crew.Pilots r24.1.Harbour.Crew.Rest r24.1.Harbour.Crew.Moves r24.1.Calls r24.1.Desk.Now r24.1.Desk.Starts r24.1.Desk.Cleared)
 else(
  if AZ r24.2.length ([10]:V zA).length then(
  if AZ v4.length (r24.2++([10]:V zA)).length then(
   DK r1 n (v4++(r24.2++([10]:V zA))) (zM .i64 (v5+(1:X))) r24.1.Harbour.Forecast.Tide.Mean r24.1.Harbour.Forecast.Tide.Parts r24.1.Harbour.Forecast.Surges r24.1.Harbour.Chart.Points r24.1.Harbour.Chart.Segments r24.1.Harbour.Fleet r24.1.Harbour.Regime.Gap r24.1.Harbour.Regime.NoMeet r24.1.Harbour.Crew.Tugs r24.1.Harbour.Crew.Pilots r24.1.Harbour.Crew.Rest r24.1.Harbour.Crew.Moves r24.1.Calls r24.1.Desk.Now r24.1.Desk.Starts r24.1.Desk.Cleared)
  else U)
  else U))
 else(
 O (v4,(r1.length:X)))
def G1(a0:V zA):W ((V zA) × X):=
(G4 a0).bind fun r1=>
if(decide ((40:X)<(r1.length:X))) then(
 O (([]:V zA),(-1:X)))
else(
 (JV).bind fun r3=>
 DK r1 bigN ([]:V zA) (0:X) r3.Harbour.Forecast.Tide.Mean r3.Harbour.Forecast.Tide.Parts r3.Harbour.Forecast.Surges r3.Harbour.Chart.Points r3.Harbour.Chart.Segments r3.Harbour.Fleet r3.Harbour.Regime.Gap r3.Harbour.Regime.NoMeet r3.Harbour.Crew.Tugs r3.Harbour.Crew.Pilots r3.Harbour.Crew.Rest r3.Harbour.Crew.Moves r3.Calls r3.Desk.Now r3.Desk.Starts r3.Desk.Cleared)
def Kg(a0:V zA):Z→X→X→W X
| 0,_,_=>U
| n+1,v1,v2=>
 if(decide (v2<(a0.length:X))) then(
 (ix a0 v2).bind fun b4=>
 Kg a0 n (zM .i64 (zJ (zM .i64 ((zM .i64 ((31:X)*v1))+(zM .i64 (b4.toNat:X)))) (65521:X))) (zM .i64 (v2+(1:X))))
 else(
 O v1)
def Kf(a0:V zA):W X:=
Kg a0 bigN (7:X) (0:X)
def KR(a0:V X):W Y:=
if(decide ((1048576:X)<(a0.length:X))) then(
 O F)
else(
 (I5 a0 (1:X)).bind fun r2=>
 (BW (zM .i64 ((10:X)+(zM .i64 (zJ r2 (100:X)))))).bind fun r3=>
 if AZ ([112,111,105,110,116,32,97,32,119,97,105,116,10,112,111,105,110,116,32,98,32,119,97,105,116,10,99,104,97,110,110,101,108,32,97,32,98,32,49,48,48,48,32]:V zA).length r3.length then(
 if AZ (([112,111,105,110,116,32,97,32,119,97,105,116,10,112,111,105,110,116,32,98,32,119,97,105,116,10,99,104,97,110,110,101,108,32,97,32,98,32,49,48,48,48,32]:V zA)++r3).length ([10,115,104,105,112,32,115,49,32,49,48,48,32,56,48,48,32,48,32,49,10,99,97,108,108,32,115,49,32,97,32,98,32,49,53,32,54,48,10,112,108,97,110,10,98,111,117,110,100,10,99,114,101,119,10,109,101,97,110,32,45,49,50,48,10,112,108,97,110,10,114,101,102,117,115,101,10,115,117,114,101,32,115,49]:V zA).length then(
  (G1 ((([112,111,105,110,116,32,97,32,119,97,105,116,10,112,111,105,110,116,32,98,32,119,97,105,116,10,99,104,97,110,110,101,108,32,97,32,98,32,49,48,48,48,32]:V zA)++r3)++([10,115,104,105,112,32,115,49,32,49,48,48,32,56,48,48,32,48,32,49,10,99,97,108,108,32,115,49,32,97,32,98,32,49,53,32,54,48,10,112,108,97,110,10,98,111,117,110,100,10,99,114,101,119,10,109,101,97,110,32,45,49,50,48,10,112,108,97,110,10,114,101,102,117,115,101,10,115,117,114,101,32,115,49]:V zA))).bind fun r6=>
  (G4 r6.1).bind fun r7=>
  if((r7.length:X)==(12:X)) then(
  (ix r7 (5:X)).bind fun x9=>
  (BW (zM .i64 ((15:X)+(zM .i64 ((10:X)+(zM .i64 (zJ r2 (100:X)))))))).bind fun r10=>
  if AZ ([115,49,32,115,116,97,114,116,32,49,53,32,97,114,114,105,118,101,32]:V zA).length r10.length then(
   if AZ (([115,49,32,115,116,97,114,116,32,49,53,32,97,114,114,105,118,101,32]:V zA)++r10).length ([32,119,97,105,116,32,48]:V zA).length then(
   if(x9==((([115,49,32,115,116,97,114,116,32,49,53,32,97,114,114,105,118,101,32]:V zA)++r10)++([32,119,97,105,116,32,48]:V zA))) then(
    (ix r7 (6:X)).bind fun x14=>
    if(x14==([99,111,115,116,32,48,32,98,111,117,110,100,32,48,32,103,97,112,32,48]:V zA)) then(
    (ix r7 (7:X)).bind fun x16=>
    if(x16==([116,117,103,115,32,49,32,112,105,108,111,116,115,32,49]:V zA)) then(
     (ix r7 (9:X)).bind fun x18=>
     if(x18==([110,111,110,101]:V zA)) then(
     (ix r7 (10:X)).bind fun x20=>
     if(x20==([115,49]:V zA)) then(
      (ix r7 (11:X)).bind fun x22=>
      if(x22==([97,45,98,32,110,111,110,101]:V zA)) then(
      (Kf ([]:V zA)).bind fun r24=>
      O (r24==(7:X)))
      else(
      O E))
     else(
      O E))
     else(
     O E))
    else(
     O E))
    else(
    O E))
   else(
    O E))
   else U)
  else U)
  else(
  O E))
 else U)
 else U)
class Ct (f:Z) (T:outParam Prop):Prop where
 c:T
theorem A6{f:Z}{T:Prop}(I:Ct f T):T:=I.c
section
variable {P : Program} {k : V Fr} {Q : Xj → St → Prop} {σ : St} {its : V AItem} {d f : Z} {args : V Opd} {xs : V DV} {rs : V R1} {T : Prop} [I : Ct f T]
theorem Ys(hf:T→FC P f xs rs)(h:go P (.ops its::k) Q .normal (O (σ.inst d rs)))(h1:σ.toIVs args=O xs:=by exact rfl)(h3:σ.fresh d=F:=by first | exact rfl | (simp only[St.fresh,zK,zL,Bn]; simp[AV.cells,V1.cells,AC.uses]))(h4:Nat.ble (rs.flatMap R1.cells).length 64=F:=by exact rfl) :
  go P (.ops ((U,.call d f args)::its)::k) Q .normal (O σ):=Ai (hf I.c) h h1 h3 h4
theorem ZK{N:V Z}{ds:V AD}(hf:T→FC P f xs rs)(h:go P (.dops ds::k) Q .normal (O (σ.inst d rs)))(h1:(σ.less N).toIVs args=O xs:=by exact rfl)(h3:σ.fresh d=F:=by first | exact rfl | (simp only[St.fresh,zK,zL,Bn]; simp[AV.cells,V1.cells,AC.uses]))(h4:Nat.ble (rs.flatMap R1.cells).length 64=F:=by exact rfl) :
  go P (.dops ((O N,U,.call d f args)::ds)::k) Q .normal (O σ):=AR (hf I.c) h h1 h3 h4
theorem Yt(hf:T→FC P f xs rs)(h:go P (.ops its::k) Q .normal (O (σ.inst d rs)))(h1:σ.toDVs args=O xs:=by exact rfl)(h2:BX rs:=by first | exact BN rfl | exact D9 rfl ⟨Da,⟨⟩⟩ | exact D9 rfl ⟨Da,rfl,⟨⟩⟩ | exact D9 rfl ⟨Da,rfl,rfl,⟨⟩⟩ | exact D9 rfl ⟨rfl,rfl,rfl,Da,rfl,⟨⟩⟩)(h3:σ.fresh d=F:=by first | exact rfl | (simp only[St.fresh,zK,zL,Bn]; simp[AV.cells,V1.cells,AC.uses]))(h4:Nat.ble (rs.flatMap R1.cells).length 64=F:=by exact rfl) :
  go P (.ops ((U,.call d f args)::its)::k) Q .normal (O σ):=Db (hf I.c) h1 h2 h3 (zC h4) h
theorem ZL{N:V Z}{ds:V AD}(hf:T→FC P f xs rs)(h:go P (.dops ds::k) Q .normal (O (σ.inst d rs)))(h1:(σ.less N).toDVs args=O xs:=by exact rfl)(h2:BX rs:=by first | exact BN rfl | exact D9 rfl ⟨Da,⟨⟩⟩ | exact D9 rfl ⟨Da,rfl,⟨⟩⟩)(h3:σ.fresh d=F:=by first | exact rfl | (simp only[St.fresh,zK,zL,Bn]; simp[AV.cells,V1.cells,AC.uses]))(h4:Nat.ble (rs.flatMap R1.cells).length 64=F:=by exact rfl) :
  go P (.dops ((O N,U,.call d f args)::ds)::k) Q .normal (O σ):=DN (hf I.c) h1 h2 h3 (zC h4) h
end
theorem Ap(es:V (V D)){P:Program}{k:V Fr}{Q:Xj→St→Prop}{σ:St}{its:V AItem}{d sz:Z}{zs:V D}{len:Z}{ps:V (Z × Opd)}(H:go P (.ops its::k) Q .normal (O {(σ.set d (.v (.sc (.own (d*64))))) with rows:=put σ.rows (d*64) (sz,es) }))(hm:σ.made (.bslice d sz zs len ps)=O (.row d sz es):=by exact rfl)(hf:σ.fresh d=F:=by first | exact rfl | (simp only[St.fresh,zK,zL,Bn]; simp[AV.cells,V1.cells,AC.uses])) :
  go P (.ops ((U,.bslice d sz zs len ps)::its)::k) Q .normal (O σ):=CR hm hf H
theorem CG{α:Type}(row:α→V D)(z:α){P:Program}{k:V Fr}{Q:Xj→St→Prop}{σ:St}{its:V AItem}{d:Z}{L C:Opd}{l c:X}{bytes n sz:Z}{zs:V D}(hb:Bx l c bytes=O n)
  (H:go P (.ops its::k) Q .normal (O {(σ.set d (.v (.sc (.own (d*64))))) with rows:=put σ.rows (d*64) (sz,zB row (zD n z)) })) (hl:Bu (σ.val L)=O l:=by exact rfl) (hc:Bu (σ.val C)=O c:=by exact rfl) (hz:zs.length=sz:=by exact rfl) (he:row z=zs:=by exact rfl) (hf:σ.fresh d=F:=by exact rfl):go P (.ops ((U,.mksl d sz bytes zs L C)::its)::k) Q .normal (O σ):=NM hl hc hb hz (Ox he) hf H
theorem T4{α:Type}(row:α→V D)(y:α){P:Program}{k:V Fr}{Q:Xj→St→Prop}{env bx rows}{id sz off n:Z}{i:X}{xs:V α}{x:α}{yv:V1}{dd:V D}(hx:ix xs i=O x)(H:go P k Q .normal (O ⟨env,bx,put rows id (sz,zB row (xs.set i.toNat y))⟩))(hd:yv.toDs=O dd:=by exact rfl)(hf:A1 rows id=O (sz,zB row xs):=by exact rfl)
  (hn:dd.length=n:=by exact rfl) (ho:Nat.ble (off+n) (row x).length=F:=by exact rfl) (hy:DX (row x) off dd=row y:=by exact rfl) :
  go P k Q .normal (St.storeV ⟨env,bx,rows⟩ n (.v (.sc (.pe id i.toNat off))) (.v yv)):=CC hd hf (Ah hx) hn ho hy H
theorem gc{G:Prop}(k:G:=by
 first | intro S hS | intro hS
 conv at hS=>rhs; reduce
 try simp only[Int.reduceOfNat,Int.reduceNegSucc,OK,UInt8.reduceOfNat] at hS
 subst hS;first | refine AF (An ?_) | refine An ?_ | skip
 repeat' (first | refine BA ?_ | refine AI ?_ | refine Af ?_ | refine Ad ?_ | (obtain⟨_,hc,h⟩:=ob h; first | refine Ys (by intro k; apply k; exact hc) ?_ | refine ZK (by intro k; apply k; exact hc) ?_ | refine Yt (by intro k; apply k; exact hc) ?_ | refine ZL (by intro k; apply k; exact hc) ?_ | refine s0 hc ?_ | refine s1 hc ?_) | simp only[*,Nat.reduceBEq,Nat.reduceMul,Nat.reduceAdd,Nat.reduceDiv,Int.reduceBEq,J] | (first | refine s0 ?_ | refine s0 _ ?_ | refine s0 ‹_› ?_ | refine s0 _ ‹_› ?_ | refine s0 _ _ ‹_› ?_ | refine s1 ?_ | refine s1 _ ?_ | refine s1 ‹_› ?_ | refine s1 _ ‹_› ?_ | refine s1 _ _ ‹_› ?_ | refine s2 ?_ | refine s2 _ ?_ | refine s2 ‹_› ?_ | refine s2 _ ‹_› ?_ | refine s2 _ _ ‹_› ?_ | refine s3 ?_ | refine s3 _ ?_ | refine s3 ‹_› ?_ | refine s3 _ ‹_› ?_ | refine s3 _ _ ‹_› ?_) | ((first | show go _ (.code (.loop _)::_) _ _ _ | show go _ (.code (Gx _)::_) _ _ _); (first | refine ih h ?_ (by kernel_rfl) | refine k0 h ?_ (by kernel_rfl) | refine k0 ‹_› h ?_ (by kernel_rfl) | refine k0 ‹_› ‹_› h ?_ (by kernel_rfl) | refine k0 ‹_› ‹_› ‹_› h ?_ (by kernel_rfl) | refine k1 h ?_ (by kernel_rfl) | refine k1 ‹_› h ?_ (by kernel_rfl) | refine k1 ‹_› ‹_› h ?_ (by kernel_rfl) | refine k1 ‹_› ‹_› ‹_› h ?_ (by kernel_rfl) | refine k2 h ?_ (by kernel_rfl) | refine k2 ‹_› h ?_ (by kernel_rfl) | refine k2 ‹_› ‹_› h ?_ (by kernel_rfl) | refine k2 ‹_› ‹_› ‹_› h ?_ (by kernel_rfl) | refine k3 h ?_ (by kernel_rfl) | refine k3 ‹_› h ?_ (by kernel_rfl) | refine k3 ‹_› ‹_› h ?_ (by kernel_rfl) | refine k3 ‹_› ‹_› ‹_› h ?_ (by kernel_rfl)))<;>try simp only[*,Nat.reduceBEq,Nat.reduceMul,Nat.reduceAdd,Nat.reduceDiv,Int.reduceBEq,J,pL,aM,List.map_nil] | (obtain⟨_,_,h⟩:=ob h) | (obtain⟨_,h⟩:=Az h) | (obtain⟨_,h⟩:=F6 h) | (obtain⟨_,h⟩ | ⟨_,h⟩:=ic h) | (cases h; first | exact t0 | trivial | (repeat' constructor; done)))
 done):G:=k
end Go.Vi
