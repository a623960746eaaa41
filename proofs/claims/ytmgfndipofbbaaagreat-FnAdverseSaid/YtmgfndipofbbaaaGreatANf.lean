/-
Plain definitions of functions. No condition.
-/
import Derived.Test.YtmgfndipofbbaaaGreatAVi39
namespace Go.Vi
set_option linter.all false
open List renaming map → H, not_mem_nil → P, mem_cons → U, replicate → W
open Nat renaming le_of_ble_eq_true → L
open And renaming intro → N
open Int renaming toNat → O, tdiv → Q, tmod → V
open IntKind renaming wrap → X
open Bool renaming true → T, false → F
open Option renaming some → E, none → G
def A0i(k:IntKind)(x:Int)(n:Nat):Int:=k.wrap (x.fdiv (2 ^ min n k.bits))
theorem C4l{k:IntKind}{x:Int}:A4a .shr (.v (.sc (.dat (.int k x)))) (.v (.sc (.dat (.int .u64 8))))=E (.v (.sc (.dat (.int k (A0i k x 8))))):=by simp[A4a,M5,A0i]
theorem C6l{k:IntKind}{x:Int}:M5 .shr k x 8=E (.int k (A0i k x 8)):=by simp[M5,A0i]
theorem C10{k:IntKind}{x:Int}:A4a .shr (.v (.sc (.dat (.int k x)))) (.v (.sc (.dat (.int .u64 16))))=E (.v (.sc (.dat (.int k (A0i k x 16))))):=by simp[A4a,M5,A0i]
theorem C2l{k:IntKind}{x:Int}:M5 .shr k x 16=E (.int k (A0i k x 16)):=by simp[M5,A0i]
theorem C2b{k:IntKind}{x:Int}:A4a .shr (.v (.sc (.dat (.int k x)))) (.v (.sc (.dat (.int .u64 32))))=E (.v (.sc (.dat (.int k (A0i k x 32))))):=by simp[A4a,M5,A0i]
theorem C2d{k:IntKind}{x:Int}:M5 .shr k x 32=E (.int k (A0i k x 32)):=by simp[M5,A0i]
theorem C16{k:IntKind}{x:Int}:A4a .shr (.v (.sc (.dat (.int k x)))) (.v (.sc (.dat (.int .u64 33))))=E (.v (.sc (.dat (.int k (A0i k x 33))))):=by simp[A4a,M5,A0i]
theorem C15{k:IntKind}{x:Int}:M5 .shr k x 33=E (.int k (A0i k x 33)):=by simp[M5,A0i]
theorem C11{k:IntKind}{x:Int}:A4a .shr (.v (.sc (.dat (.int k x)))) (.v (.sc (.dat (.int .u64 45))))=E (.v (.sc (.dat (.int k (A0i k x 45))))):=by simp[A4a,M5,A0i]
theorem C2g{k:IntKind}{x:Int}:M5 .shr k x 45=E (.int k (A0i k x 45)):=by simp[M5,A0i]
structure XPart where
 Amp:Int
 Period:Int
 Phase:Int
 deriving DecidableEq
def XPart.row(x:XPart):List D:= [.int .i64 x.Amp,.int .i64 x.Period,.int .i64 x.Phase]
theorem XPart.row_eq(x:XPart):XPart.row x= [.int .i64 x.Amp,.int .i64 x.Period,.int .i64 x.Phase]:=rfl
instance:Row XPart.row 3:=⟨fun _=>rfl,L rfl⟩
instance:FlatRow XPart.row:=⟨fun x d hd=>by simp only[XPart.row_eq,U,P,or_false] at hd; rcases hd with rfl | rfl | rfl<;>rfl⟩
structure XTide where
 Mean:Int
 Parts:List XPart
 deriving DecidableEq
def XTide.row(x:XTide):List D:= [.int .i64 x.Mean,.sl (H XPart.row x.Parts)]
theorem XTide.row_eq(x:XTide):XTide.row x= [.int .i64 x.Mean,.sl (H XPart.row x.Parts)]:=rfl
instance:Row XTide.row 2:=⟨fun _=>rfl,L rfl⟩
structure XSurge where
 From:Int
 Low:Int
 High:Int
 deriving DecidableEq
def XSurge.row(x:XSurge):List D:= [.int .i64 x.From,.int .i64 x.Low,.int .i64 x.High]
theorem XSurge.row_eq(x:XSurge):XSurge.row x= [.int .i64 x.From,.int .i64 x.Low,.int .i64 x.High]:=rfl
instance:Row XSurge.row 3:=⟨fun _=>rfl,L rfl⟩
instance:FlatRow XSurge.row:=⟨fun x d hd=>by simp only[XSurge.row_eq,U,P,or_false] at hd; rcases hd with rfl | rfl | rfl<;>rfl⟩
structure XForecast where
 Tide:XTide
 Surges:List XSurge
 deriving DecidableEq
def XForecast.row(x:XForecast):List D:= [.int .i64 x.Tide.Mean,.sl (H XPart.row x.Tide.Parts),.sl (H XSurge.row x.Surges)]
theorem XForecast.row_eq(x:XForecast):XForecast.row x= [.int .i64 x.Tide.Mean,.sl (H XPart.row x.Tide.Parts),.sl (H XSurge.row x.Surges)]:=rfl
instance:Row XForecast.row 3:=⟨fun _=>rfl,L rfl⟩
structure XPoint where
 Name:List UInt8
 Wait:Bool
 deriving DecidableEq
def XPoint.row(x:XPoint):List D:= [.str x.Name,.bool x.Wait]
theorem XPoint.row_eq(x:XPoint):XPoint.row x= [.str x.Name,.bool x.Wait]:=rfl
instance:Row XPoint.row 2:=⟨fun _=>rfl,L rfl⟩
instance:FlatRow XPoint.row:=⟨fun x d hd=>by simp only[XPoint.row_eq,U,P,or_false] at hd; rcases hd with rfl | rfl<;>rfl⟩
structure XSegment where
 A:Int
 B:Int
 Depth:Int
 Minutes:Int
 Meet:Bool
 deriving DecidableEq
def XSegment.row(x:XSegment):List D:= [.int .i64 x.A,.int .i64 x.B,.int .i64 x.Depth,.int .i64 x.Minutes,.bool x.Meet]
theorem XSegment.row_eq(x:XSegment):XSegment.row x= [.int .i64 x.A,.int .i64 x.B,.int .i64 x.Depth,.int .i64 x.Minutes,.bool x.Meet]:=rfl
instance:Row XSegment.row 5:=⟨fun _=>rfl,L rfl⟩
instance:FlatRow XSegment.row:=⟨fun x d hd=>by simp only[XSegment.row_eq,U,P,or_false] at hd; rcases hd with rfl | rfl | rfl | rfl | rfl<;>rfl⟩
structure XChart where
 Points:List XPoint
 Segments:List XSegment
 deriving DecidableEq
def XChart.row(x:XChart):List D:= [.sl (H XPoint.row x.Points),.sl (H XSegment.row x.Segments)]
theorem XChart.row_eq(x:XChart):XChart.row x= [.sl (H XPoint.row x.Points),.sl (H XSegment.row x.Segments)]:=rfl
instance:Row XChart.row 2:=⟨fun _=>rfl,L rfl⟩
structure XShip where
 Name:List UInt8
 Length:Int
 Draught:Int
 Line:Int
 Tugs:Int
 Slow:Bool
 deriving DecidableEq
def XShip.row(x:XShip):List D:= [.str x.Name,.int .i64 x.Length,.int .i64 x.Draught,.int .i64 x.Line,.int .i64 x.Tugs,.bool x.Slow]
theorem XShip.row_eq(x:XShip):XShip.row x= [.str x.Name,.int .i64 x.Length,.int .i64 x.Draught,.int .i64 x.Line,.int .i64 x.Tugs,.bool x.Slow]:=rfl
instance:Row XShip.row 6:=⟨fun _=>rfl,L rfl⟩
instance:FlatRow XShip.row:=⟨fun x d hd=>by simp only[XShip.row_eq,U,P,or_false] at hd; rcases hd with rfl | rfl | rfl | rfl | rfl | rfl<;>rfl⟩
structure XRegime where
 Gap:Int
 NoMeet:Bool
 deriving DecidableEq
def XRegime.row(x:XRegime):List D:= [.int .i64 x.Gap,.bool x.NoMeet]
theorem XRegime.row_eq(x:XRegime):XRegime.row x= [.int .i64 x.Gap,.bool x.NoMeet]:=rfl
instance:Row XRegime.row 2:=⟨fun _=>rfl,L rfl⟩
instance:FlatRow XRegime.row:=⟨fun x d hd=>by simp only[XRegime.row_eq,U,P,or_false] at hd; rcases hd with rfl | rfl<;>rfl⟩
structure XCrew where
 Tugs:Int
 Pilots:Int
 Rest:Int
 Moves:List Int
 deriving DecidableEq
def XCrew.row(x:XCrew):List D:= [.int .i64 x.Tugs,.int .i64 x.Pilots,.int .i64 x.Rest,.sl (H rI x.Moves)]
theorem XCrew.row_eq(x:XCrew):XCrew.row x= [.int .i64 x.Tugs,.int .i64 x.Pilots,.int .i64 x.Rest,.sl (H rI x.Moves)]:=rfl
instance:Row XCrew.row 4:=⟨fun _=>rfl,L rfl⟩
structure XHarbour where
 Forecast:XForecast
 Chart:XChart
 Fleet:List XShip
 Regime:XRegime
 Crew:XCrew
 deriving DecidableEq
def XHarbour.row(x:XHarbour):List D:= [.int .i64 x.Forecast.Tide.Mean,.sl (H XPart.row x.Forecast.Tide.Parts),.sl (H XSurge.row x.Forecast.Surges),.sl (H XPoint.row x.Chart.Points),.sl (H XSegment.row x.Chart.Segments),.sl (H XShip.row x.Fleet),.int .i64 x.Regime.Gap,.bool x.Regime.NoMeet,.int .i64 x.Crew.Tugs,.int .i64 x.Crew.Pilots,.int .i64 x.Crew.Rest,.sl (H rI x.Crew.Moves)]
theorem XHarbour.row_eq(x:XHarbour):XHarbour.row x= [.int .i64 x.Forecast.Tide.Mean,.sl (H XPart.row x.Forecast.Tide.Parts),.sl (H XSurge.row x.Forecast.Surges),.sl (H XPoint.row x.Chart.Points),.sl (H XSegment.row x.Chart.Segments),.sl (H XShip.row x.Fleet),.int .i64 x.Regime.Gap,.bool x.Regime.NoMeet,.int .i64 x.Crew.Tugs,.int .i64 x.Crew.Pilots,.int .i64 x.Crew.Rest,.sl (H rI x.Crew.Moves)]:=rfl
instance:Row XHarbour.row 12:=⟨fun _=>rfl,L rfl⟩
structure XCall where
 Ship:Int
 From:Int
 To:Int
 Ready:Int
 Due:Int
 deriving DecidableEq
def XCall.row(x:XCall):List D:= [.int .i64 x.Ship,.int .i64 x.From,.int .i64 x.To,.int .i64 x.Ready,.int .i64 x.Due]
theorem XCall.row_eq(x:XCall):XCall.row x= [.int .i64 x.Ship,.int .i64 x.From,.int .i64 x.To,.int .i64 x.Ready,.int .i64 x.Due]:=rfl
instance:Row XCall.row 5:=⟨fun _=>rfl,L rfl⟩
instance:FlatRow XCall.row:=⟨fun x d hd=>by simp only[XCall.row_eq,U,P,or_false] at hd; rcases hd with rfl | rfl | rfl | rfl | rfl<;>rfl⟩
structure Xl01Cur where
 b:List Int
 i:Int
 h:Int
 deriving DecidableEq
def Xl01Cur.row(x:Xl01Cur):List D:= [.sl (H r8 x.b),.int .i64 x.i,.int .i64 x.h]
theorem Xl01Cur.row_eq(x:Xl01Cur):Xl01Cur.row x= [.sl (H r8 x.b),.int .i64 x.i,.int .i64 x.h]:=rfl
instance:Row Xl01Cur.row 3:=⟨fun _=>rfl,L rfl⟩
structure XPassage where
 Ship:Int
 Segment:Int
 Toward:Bool
 Start:Int
 End:Int
 deriving DecidableEq
def XPassage.row(x:XPassage):List D:= [.int .i64 x.Ship,.int .i64 x.Segment,.bool x.Toward,.int .i64 x.Start,.int .i64 x.End]
theorem XPassage.row_eq(x:XPassage):XPassage.row x= [.int .i64 x.Ship,.int .i64 x.Segment,.bool x.Toward,.int .i64 x.Start,.int .i64 x.End]:=rfl
instance:Row XPassage.row 5:=⟨fun _=>rfl,L rfl⟩
instance:FlatRow XPassage.row:=⟨fun x d hd=>by simp only[XPassage.row_eq,U,P,or_false] at hd; rcases hd with rfl | rfl | rfl | rfl | rfl<;>rfl⟩
structure XOption where
 Start:Int
 Arrival:Int
 Cost:Int
 Passages:List XPassage
 deriving DecidableEq
def XOption.row(x:XOption):List D:= [.int .i64 x.Start,.int .i64 x.Arrival,.int .i64 x.Cost,.sl (H XPassage.row x.Passages)]
theorem XOption.row_eq(x:XOption):XOption.row x= [.int .i64 x.Start,.int .i64 x.Arrival,.int .i64 x.Cost,.sl (H XPassage.row x.Passages)]:=rfl
instance:Row XOption.row 4:=⟨fun _=>rfl,L rfl⟩
structure X_8_bool where
 i0:Bool
 i1:Bool
 i2:Bool
 i3:Bool
 i4:Bool
 i5:Bool
 i6:Bool
 i7:Bool
 deriving DecidableEq
def X_8_bool.row(x:X_8_bool):List D:= [.bool x.i0,.bool x.i1,.bool x.i2,.bool x.i3,.bool x.i4,.bool x.i5,.bool x.i6,.bool x.i7]
theorem X_8_bool.row_eq(x:X_8_bool):X_8_bool.row x= [.bool x.i0,.bool x.i1,.bool x.i2,.bool x.i3,.bool x.i4,.bool x.i5,.bool x.i6,.bool x.i7]:=rfl
instance:Row X_8_bool.row 8:=⟨fun _=>rfl,L rfl⟩
def X_8_bool.set(x:X_8_bool)(n:Nat)(v:Bool):X_8_bool:=⟨bif n==0 then v else x.i0,bif n==1 then v else x.i1,bif n==2 then v else x.i2,bif n==3 then v else x.i3,bif n==4 then v else x.i4,bif n==5 then v else x.i5,bif n==6 then v else x.i6,bif n==7 then v else x.i7⟩
theorem X_8_bool.set_eq(x:X_8_bool){n:Nat}{v:Bool}(h:n<8):A2c (H AC.dat (X_8_bool.row x)) n [.dat (.bool v)]=H AC.dat (X_8_bool.row (X_8_bool.set x n v)):=by
 match n,h with
 | 0,_=>rfl
 | 1,_=>rfl
 | 2,_=>rfl
 | 3,_=>rfl
 | 4,_=>rfl
 | 5,_=>rfl
 | 6,_=>rfl
 | 7,_=>rfl
instance:FlatRow X_8_bool.row:=⟨fun x d hd=>by simp only[X_8_bool.row_eq,U,P,or_false] at hd; rcases hd with rfl | rfl | rfl | rfl | rfl | rfl | rfl | rfl<;>rfl⟩
structure XWindow where
 From:Int
 To:Int
 deriving DecidableEq
def XWindow.row(x:XWindow):List D:= [.int .i64 x.From,.int .i64 x.To]
theorem XWindow.row_eq(x:XWindow):XWindow.row x= [.int .i64 x.From,.int .i64 x.To]:=rfl
instance:Row XWindow.row 2:=⟨fun _=>rfl,L rfl⟩
instance:FlatRow XWindow.row:=⟨fun x d hd=>by simp only[XWindow.row_eq,U,P,or_false] at hd; rcases hd with rfl | rfl<;>rfl⟩
structure Xvoyage where
 waits:List Bool
 minutes:List Int
 sure:List (List XWindow)
 deriving DecidableEq
def Xvoyage.row(x:Xvoyage):List D:= [.sl (H rB x.waits),.sl (H rI x.minutes),.sl (H (rL XWindow.row) x.sure)]
theorem Xvoyage.row_eq(x:Xvoyage):Xvoyage.row x= [.sl (H rB x.waits),.sl (H rI x.minutes),.sl (H (rL XWindow.row) x.sure)]:=rfl
instance:Row Xvoyage.row 3:=⟨fun _=>rfl,L rfl⟩
structure Xweight where
 i0:Int
 i1:Int
 deriving DecidableEq
def Xweight.row(x:Xweight):List D:= [.int .i64 x.i0,.int .i64 x.i1]
theorem Xweight.row_eq(x:Xweight):Xweight.row x= [.int .i64 x.i0,.int .i64 x.i1]:=rfl
instance:Row Xweight.row 2:=⟨fun _=>rfl,L rfl⟩
instance:FlatRow Xweight.row:=⟨fun x d hd=>by simp only[Xweight.row_eq,U,P,or_false] at hd; rcases hd with rfl | rfl<;>rfl⟩
structure Xplanner where
 h:XHarbour
 choices:List (List XOption)
 plan:List XOption
 choice:List Int
 best:List Int
 least:Xweight
 found:Bool
abbrev S6(F_w0:FuncId)(caps_w0:List D)(x:Xplanner):List XC:= [.d (.int .i64 x.h.Forecast.Tide.Mean),.d (.sl (H XPart.row x.h.Forecast.Tide.Parts)),.d (.sl (H XSurge.row x.h.Forecast.Surges)),.d (.sl (H XPoint.row x.h.Chart.Points)),.d (.sl (H XSegment.row x.h.Chart.Segments)),.d (.sl (H XShip.row x.h.Fleet)),.d (.int .i64 x.h.Regime.Gap),.d (.bool x.h.Regime.NoMeet),.d (.int .i64 x.h.Crew.Tugs),.d (.int .i64 x.h.Crew.Pilots),.d (.int .i64 x.h.Crew.Rest),.d (.sl (H rI x.h.Crew.Moves)),.d (.sl (H (rL XOption.row) x.choices)),.d (.clo F_w0 caps_w0),.r 0,.r 1,.r 2,.d (.int .i64 x.least.i0),.d (.int .i64 x.least.i1),.d (.bool x.found)]
abbrev S7(x:Xplanner):I1:= [(4,H XOption.row x.plan),(1,H rI x.choice),(1,H rI x.best)]
structure XDuty where
 From:Int
 To:Int
 A:Int
 B:Int
 deriving DecidableEq
def XDuty.row(x:XDuty):List D:= [.int .i64 x.From,.int .i64 x.To,.int .i64 x.A,.int .i64 x.B]
theorem XDuty.row_eq(x:XDuty):XDuty.row x= [.int .i64 x.From,.int .i64 x.To,.int .i64 x.A,.int .i64 x.B]:=rfl
instance:Row XDuty.row 4:=⟨fun _=>rfl,L rfl⟩
instance:FlatRow XDuty.row:=⟨fun x d hd=>by simp only[XDuty.row_eq,U,P,or_false] at hd; rcases hd with rfl | rfl | rfl | rfl<;>rfl⟩
structure Xcoverer where
 sets:List Int
 most:Int
 groups:List Int
 who:List Int
 deriving DecidableEq
def Xcoverer.row(x:Xcoverer):List D:= [.sl (H rU x.sets),.int .i64 x.most,.sl (H rU x.groups),.sl (H rI x.who)]
theorem Xcoverer.row_eq(x:Xcoverer):Xcoverer.row x= [.sl (H rU x.sets),.int .i64 x.most,.sl (H rU x.groups),.sl (H rI x.who)]:=rfl
instance:Row Xcoverer.row 4:=⟨fun _=>rfl,L rfl⟩
abbrev K4(x:Xcoverer):List XC:= [.d (.sl (H rU x.sets)),.d (.int .i64 x.most),.r 0,.r 1]
abbrev K3(x:Xcoverer):I1:= [(1,H rU x.groups),(1,H rI x.who)]
structure Xgrounded where
 option:Int
 minute:Int
 deriving DecidableEq
def Xgrounded.row(x:Xgrounded):List D:= [.int .i64 x.option,.int .i64 x.minute]
theorem Xgrounded.row_eq(x:Xgrounded):Xgrounded.row x= [.int .i64 x.option,.int .i64 x.minute]:=rfl
instance:Row Xgrounded.row 2:=⟨fun _=>rfl,L rfl⟩
instance:FlatRow Xgrounded.row:=⟨fun x d hd=>by simp only[Xgrounded.row_eq,U,P,or_false] at hd; rcases hd with rfl | rfl<;>rfl⟩
def B32(x:Xgrounded):D:= .ifs 179 x.row
theorem D0j{x:Option Xgrounded}(h:x.isSome=F):x=G:=by cases x with | none=>rfl | some _=>cases h
def F0g:=N @D9l (N @C4l (N @C6l (N @C10 (N @C2l (N @C2b (N @C2d (N @C16 (N @C15 (N @C11 (N @C2g (N @XPart.row_eq (N @XTide.row_eq (N @XSurge.row_eq (N @XForecast.row_eq (N @XPoint.row_eq (N @XSegment.row_eq (N @XChart.row_eq (N @XShip.row_eq (N @XRegime.row_eq (N @XCrew.row_eq (N @XHarbour.row_eq (N @XCall.row_eq (N @Xl01Cur.row_eq (N @XPassage.row_eq (N @XOption.row_eq (N @X_8_bool.row_eq (N @XWindow.row_eq (N @Xvoyage.row_eq (N @Xweight.row_eq (N @XDuty.row_eq (N @Xcoverer.row_eq (@Xgrounded.row_eq))))))))))))))))))))))))))))))))
def J:=N E36 (N E4f (N E6t (N E6j F0g)))
/- spec_l01New -/
def A1t(a0:List Int)(v1:Int):Option Xl01Cur:= E (⟨a0,(0:Int),v1⟩:Xl01Cur)
def A0e(a0:List Int):Nat→Int→Int→Option Xl01Cur
| 0,_,_=>G
| n+1,v1,v2=>
 if(decide (v2<(a0.length:Int))) then(
 if(decide (v2<(4000:Int))) then(
  (ix a0 v2).bind fun x5=>
  A0e a0 n (K0 .and .i64 (X .i64 ((X .i64 ((X .i64 (v1*(79:Int)))+(X .i64 x5)))+(7:Int))) (1073741823:Int)) (X .i64 (v2+(1:Int))))
 else(
  A1t a0 v1))
 else(
 A1t a0 v1)
def A3e(a0:List Int):Option Xl01Cur:= A0e a0 bigN (X .i64 ((1976:Int)+(a0.length:Int))) (0:Int)
/- spec_l01Byte -/
def N7(a0:Xl01Cur):Option (Int × Xl01Cur):= if(decide (a0.i<(a0.b.length:Int))) then(
 (ix a0.b a0.i).bind fun x2=>
 E ((K0 .and .i64 (X .i64 ((K0 .and .i64 (K0 .xor .i64 (A0i .i64 (X .i64 ((X .i64 (a0.h*(6364136223846793005:Int)))+(1442695040888963407:Int))) 33) (A0i .i64 (X .i64 ((X .i64 (a0.h*(6364136223846793005:Int)))+(1442695040888963407:Int))) 45)) (255:Int))+(X .i64 x2))) (255:Int)),(⟨a0.b,(X .i64 (a0.i+(1:Int))),(X .i64 ((X .i64 (a0.h*(6364136223846793005:Int)))+(1442695040888963407:Int)))⟩:Xl01Cur))) else(
 E ((K0 .and .i64 (K0 .xor .i64 (A0i .i64 (X .i64 ((X .i64 (a0.h*(6364136223846793005:Int)))+(1442695040888963407:Int))) 33) (A0i .i64 (X .i64 ((X .i64 (a0.h*(6364136223846793005:Int)))+(1442695040888963407:Int))) 45)) (255:Int)),(⟨a0.b,a0.i,(X .i64 ((X .i64 (a0.h*(6364136223846793005:Int)))+(1442695040888963407:Int)))⟩:Xl01Cur)))
/- spec_l01Below -/
def A8(a0:Xl01Cur)(a1:Int):Option (Int × Xl01Cur):= if(decide (a1≤(0:Int))) then(
 E ((0:Int),a0)) else(
 if(decide (a1≤(256:Int))) then(
 (N7 a0).bind fun r3=>
 if a1==0 then G else
 E ((X .i64 (V r3.1 a1)),r3.2))
 else(
 (N7 a0).bind fun r5=>
 (N7 r5.2).bind fun r6=>
 (N7 r6.2).bind fun r7=>
 (N7 r7.2).bind fun r9=>
 if a1==0 then G else
 E ((X .i64 (V (X .i64 ((X .i64 ((X .i64 ((X .i64 (r5.1*(16777216:Int)))+(X .i64 (r6.1*(65536:Int)))))+(X .i64 (r7.1*(256:Int)))))+r9.1)) a1)),r9.2)))
/- spec_l01Pick -/
def A2h(a0:Xl01Cur)(a1:List Int):Option (Int × Xl01Cur):= (A8 a0 (a1.length:Int)).bind fun r1=> (ix a1 r1.1).bind fun x2=> E (x2,r1.2)
/- spec_l02Part -/
def N6(a0:Xl01Cur):Option (XPart × Xl01Cur):= (A8 a0 (300:Int)).bind fun r1=> (A2h r1.2 ([(744:Int),(720:Int),(1440:Int),(372:Int),(240:Int)]:List Int)).bind fun r2=> (A8 r2.2 r2.1).bind fun r3=> E ((⟨r1.1,r2.1,r3.1⟩:XPart),r3.2)
/- spec_l02Draw -/
def X8(r1:Int × Xl01Cur):Nat→Int→(List Int)→Int→Int→(List XPart)→Option (XTide × Xl01Cur)
| 0,_,_,_,_,_=>G
| n+1,v3,v4,v5,v6,v7=>
 if(decide ((0:Int)<v3)) then(
 (N6 (⟨v4,v5,v6⟩:Xl01Cur)).bind fun r9=>
 if D4 v7.length ([r9.1]:List XPart).length 24 then(
  X8 r1 n (X .i64 (v3 - (1:Int))) r9.2.b r9.2.i r9.2.h (v7++([r9.1]:List XPart)))
 else G)
 else(
 E ((⟨r1.1,v7⟩:XTide),(⟨v4,v5,v6⟩:Xl01Cur)))
def A4g(a0:Xl01Cur):Option (XTide × Xl01Cur):= (A8 a0 (300:Int)).bind fun r1=> (A8 r1.2 (2:Int)).bind fun r2=> X8 r1 bigN (X .i64 ((1:Int)+r2.1)) r2.2.b r2.2.i r2.2.h ([]:List XPart)
/- spec_l03Draw -/
def P0(r1:XTide × Xl01Cur):Nat→Int→Int→(List Int)→Int→Int→(List XSurge)→Option (XForecast × Xl01Cur)
| 0,_,_,_,_,_,_=>G
| n+1,v3,v4,v5,v6,v7,v8=>
 if(decide ((0:Int)<v4)) then(
 (A8 (⟨v5,v6,v7⟩:Xl01Cur) (60:Int)).bind fun r10=>
 (A8 r10.2 (60:Int)).bind fun r11=>
 if D4 v8.length ([(⟨v3,(X .i64 (r10.1 - (40:Int))),(X .i64 ((X .i64 (r10.1 - (40:Int)))+r11.1))⟩:XSurge)]:List XSurge).length 24 then(
  (A8 r11.2 (700:Int)).bind fun r13=>
  P0 r1 n (X .i64 ((X .i64 (v3+(100:Int)))+r13.1)) (X .i64 (v4 - (1:Int))) r13.2.b r13.2.i r13.2.h (v8++([(⟨v3,(X .i64 (r10.1 - (40:Int))),(X .i64 ((X .i64 (r10.1 - (40:Int)))+r11.1))⟩:XSurge)]:List XSurge)))
 else G)
 else(
 E ((⟨r1.1,v8⟩:XForecast),(⟨v5,v6,v7⟩:Xl01Cur)))
def A2j(a0:Xl01Cur):Option (XForecast × Xl01Cur):= (A4g a0).bind fun r1=> (A8 r1.2 (3:Int)).bind fun r2=> P0 r1 bigN (0:Int) (X .i64 ((1:Int)+r2.1)) r2.2.b r2.2.i r2.2.h ([]:List XSurge)
/- spec_l01Once -/
def I7(a0:Xl01Cur)(a1:Int):Option (Bool × Xl01Cur):= (A8 a0 a1).bind fun r1=> E ((r1.1==(0:Int)),r1.2)
/- spec_l05Draw -/
def A02(v15:List Int)(v16 v17:Int)(v18:List XPoint)(v19:List XSegment):Option (XChart × Xl01Cur):= (I7 (⟨v15,v16,v17⟩:Xl01Cur) (3:Int)).bind fun r20=> if r20.1 then(
 if D4 v18.length ([(⟨([100,111,99,107]:List UInt8),T⟩:XPoint)]:List XPoint).length 24 then(
 (A8 r20.2 (300:Int)).bind fun r23=>
 if D4 v19.length ([(⟨(2:Int),(4:Int),(X .i64 ((800:Int)+r23.1)),(15:Int),F⟩:XSegment)]:List XSegment).length 40 then(
  E ((⟨(v18++([(⟨([100,111,99,107]:List UInt8),T⟩:XPoint)]:List XPoint)),(v19++([(⟨(2:Int),(4:Int),(X .i64 ((800:Int)+r23.1)),(15:Int),F⟩:XSegment)]:List XSegment))⟩:XChart),r23.2))
 else G)
 else G) else(
 E ((⟨v18,v19⟩:XChart),r20.2))
def A38(a0:Xl01Cur):Option (XChart × Xl01Cur):= (I7 a0 (2:Int)).bind fun r1=> (A8 r1.2 (300:Int)).bind fun r2=> (A8 r2.2 (40:Int)).bind fun r3=> (A8 r3.2 (300:Int)).bind fun r4=> (A8 r4.2 (30:Int)).bind fun r5=> (I7 r5.2 (2:Int)).bind fun r6=> (A8 r6.2 (200:Int)).bind fun r7=> (A8 r7.2 (20:Int)).bind fun r9=> (I7 r9.2 (3:Int)).bind fun r10=> if r10.1 then(
 (A8 r10.2 (300:Int)).bind fun r12=>
 (A8 r12.2 (30:Int)).bind fun r13=>
 if D4 ([(⟨(0:Int),(1:Int),(X .i64 ((900:Int)+r2.1)),(X .i64 ((10:Int)+r3.1)),F⟩:XSegment),(⟨(1:Int),(2:Int),(X .i64 ((800:Int)+r4.1)),(X .i64 ((10:Int)+r5.1)),r6.1⟩:XSegment),(⟨(2:Int),(3:Int),(X .i64 ((900:Int)+r7.1)),(X .i64 ((5:Int)+r9.1)),F⟩:XSegment)]:List XSegment).length ([(⟨(3:Int),(1:Int),(X .i64 ((700:Int)+r12.1)),(X .i64 ((20:Int)+r13.1)),T⟩:XSegment)]:List XSegment).length 40 then(
 A02 r13.2.b r13.2.i r13.2.h ([(⟨([115,101,97]:List UInt8),T⟩:XPoint),(⟨([98,97,114]:List UInt8),F⟩:XPoint),(⟨([114,111,97,100]:List UInt8),r1.1⟩:XPoint),(⟨([113,117,97,121]:List UInt8),T⟩:XPoint)]:List XPoint) (([(⟨(0:Int),(1:Int),(X .i64 ((900:Int)+r2.1)),(X .i64 ((10:Int)+r3.1)),F⟩:XSegment),(⟨(1:Int),(2:Int),(X .i64 ((800:Int)+r4.1)),(X .i64 ((10:Int)+r5.1)),r6.1⟩:XSegment),(⟨(2:Int),(3:Int),(X .i64 ((900:Int)+r7.1)),(X .i64 ((5:Int)+r9.1)),F⟩:XSegment)]:List XSegment)++([(⟨(3:Int),(1:Int),(X .i64 ((700:Int)+r12.1)),(X .i64 ((20:Int)+r13.1)),T⟩:XSegment)]:List XSegment)))
 else G) else(
 A02 r10.2.b r10.2.i r10.2.h ([(⟨([115,101,97]:List UInt8),T⟩:XPoint),(⟨([98,97,114]:List UInt8),F⟩:XPoint),(⟨([114,111,97,100]:List UInt8),r1.1⟩:XPoint),(⟨([113,117,97,121]:List UInt8),T⟩:XPoint)]:List XPoint) ([(⟨(0:Int),(1:Int),(X .i64 ((900:Int)+r2.1)),(X .i64 ((10:Int)+r3.1)),F⟩:XSegment),(⟨(1:Int),(2:Int),(X .i64 ((800:Int)+r4.1)),(X .i64 ((10:Int)+r5.1)),r6.1⟩:XSegment),(⟨(2:Int),(3:Int),(X .i64 ((900:Int)+r7.1)),(X .i64 ((5:Int)+r9.1)),F⟩:XSegment)]:List XSegment))
/- spec_FormatInt -/
def A3q(rec_:Int→Option (List UInt8)):Nat→Int→(List UInt8)→Option (List UInt8)
| 0,_,_=>G
| n+1,v6,v7=>
 if(decide ((9:Int)<v6)) then(
 if B61 ([(IntKind.u8.wrap (X .i64 ((48:Int)+(X .i64 (V v6 (10:Int))))))]:List Int).length v7.length then(
  A3q rec_ n (X .i64 (Q v6 (10:Int))) ((H C4m ([(IntKind.u8.wrap (X .i64 ((48:Int)+(X .i64 (V v6 (10:Int))))))]:List Int))++v7))
 else G)
 else(
 if B61 ([(IntKind.u8.wrap (X .i64 ((48:Int)+v6)))]:List Int).length v7.length then(
  E ((H C4m ([(IntKind.u8.wrap (X .i64 ((48:Int)+v6)))]:List Int))++v7))
 else G)
def A5v(rec_:Int→Option (List UInt8))(a0:Int):Option (List UInt8):= if(decide (a0<(0:Int))) then(
 if((X .i64 (Q a0 (10:Int)))==(0:Int)) then(
 if B61 ([45]:List UInt8).length ([(IntKind.u8.wrap (X .i64 ((48:Int) - a0)))]:List Int).length then(
  E (([45]:List UInt8)++(H C4m ([(IntKind.u8.wrap (X .i64 ((48:Int) - a0)))]:List Int))))
 else G)
 else(
 (rec_ (X .i64 (Q a0 (10:Int)))).bind fun r4=>
 if B61 r4.length ([(IntKind.u8.wrap (X .i64 ((48:Int) - (X .i64 (V a0 (10:Int))))))]:List Int).length then(
  E (r4++(H C4m ([(IntKind.u8.wrap (X .i64 ((48:Int) - (X .i64 (V a0 (10:Int))))))]:List Int))))
 else G)) else(
 A3q rec_ bigN a0 ([]:List UInt8))
def A1f:Nat→Int→Option (List UInt8)
| 0,_=>G
| n+1,a0=>A5v (A1f n) a0
def A66(a0:Int):Option (List UInt8):=A1f bigN a0
/- spec_l06Ship -/
def A2g(a0:Xl01Cur)(a1:Int):Option (XShip × Xl01Cur):= (A66 a1).bind fun r1=> if B61 ([115]:List UInt8).length r1.length then(
 (A8 a0 (200:Int)).bind fun r3=>
 (A8 r3.2 (500:Int)).bind fun r4=>
 (A8 r4.2 (4:Int)).bind fun r5=>
 (A8 r5.2 (3:Int)).bind fun r6=>
 (I7 r6.2 (4:Int)).bind fun r7=>
 E ((⟨(([115]:List UInt8)++r1),(X .i64 ((40:Int)+r3.1)),(X .i64 ((600:Int)+r4.1)),r5.1,r6.1,r7.1⟩:XShip),r7.2)) else G
/- spec_l06Fleet -/
def V6:Nat→Int→(List Int)→Int→Int→(List XShip)→Option ((List XShip) × Xl01Cur)
| 0,_,_,_,_,_=>G
| n+1,v2,v3,v4,v5,v6=>
 if(decide ((0:Int)<v2)) then(
 (A2g (⟨v3,v4,v5⟩:Xl01Cur) (v6.length:Int)).bind fun r9=>
 if D4 v6.length ([r9.1]:List XShip).length 56 then(
  V6 n (X .i64 (v2 - (1:Int))) r9.2.b r9.2.i r9.2.h (v6++([r9.1]:List XShip)))
 else G)
 else(
 E (v6,(⟨v3,v4,v5⟩:Xl01Cur)))
def A3k(a0:Xl01Cur)(a1:Int):Option ((List XShip) × Xl01Cur):= (A8 a0 a1).bind fun r1=> V6 bigN (X .i64 ((1:Int)+r1.1)) r1.2.b r1.2.i r1.2.h ([]:List XShip)
/- spec_l09Regime -/
def A25(a0:Xl01Cur):Option (XRegime × Xl01Cur):= (A8 a0 (30:Int)).bind fun r1=> (I7 r1.2 (4:Int)).bind fun r2=> E ((⟨r1.1,r2.1⟩:XRegime),r2.2)
/- spec_StayingMoves -/
def A3a:Option (List Int):= (mkS (64:Int) (64:Int) 8).bind fun n1=> E (W n1 (0:Int))
/- spec_l13Moves -/
def Q6(r1:(List Int)):Nat→Int→(List Int)→Int→Int→(List Int)→Option ((List Int) × Xl01Cur)
| 0,_,_,_,_,_=>G
| n+1,v2,v3,v4,v5,v6=>
 if(decide (v2<(r1.length:Int))) then(
 if((X .i64 (V v2 (9:Int))) !=(0:Int)) then(
  (A8 (⟨v3,v4,v5⟩:Xl01Cur) (5:Int)).bind fun r9=>
  (ix v6 v2).bind fun x10=>
  Q6 r1 n (X .i64 (v2+(1:Int))) r9.2.b r9.2.i r9.2.h (v6.set (O v2) (X .i64 ((5:Int)*r9.1))))
 else(
  Q6 r1 n (X .i64 (v2+(1:Int))) v3 v4 v5 v6))
 else(
 E (v6,(⟨v3,v4,v5⟩:Xl01Cur)))
def A3n(a0:Xl01Cur):Option ((List Int) × Xl01Cur):= (A3a).bind fun r1=> Q6 r1 bigN (0:Int) a0.b a0.i a0.h r1
/- spec_l14Crew -/
def A4h(a0:Xl01Cur):Option (XCrew × Xl01Cur):= (A8 a0 (4:Int)).bind fun r1=> (A8 r1.2 (3:Int)).bind fun r2=> (A8 r2.2 (60:Int)).bind fun r3=> (A3n r3.2).bind fun r4=> E ((⟨(X .i64 ((1:Int)+r1.1)),(X .i64 ((1:Int)+r2.1)),r3.1,r4.1⟩:XCrew),r4.2)
/- spec_l15Harbour -/
def R8(r3:(List XShip) × Xl01Cur)(r5:XCrew × Xl01Cur)(r1:XForecast × Xl01Cur)(r2:XChart × Xl01Cur)(r4:XRegime × Xl01Cur)(y7:Int):Nat→Int→(List XShip)→Option (XHarbour × Xl01Cur)
| 0,_,_=>G
| n+1,v6,v8=>
 if(decide (v6<(r3.1.length:Int))) then(
 (ix v8 v6).bind fun x10=>
 R8 r3 r5 r1 r2 r4 y7 n (X .i64 (v6+(1:Int))) (v8.set (O v6) (⟨x10.Name,x10.Length,x10.Draught,x10.Line,(if(1:Int)<x10.Tugs then(1:Int) else x10.Tugs),x10.Slow⟩:XShip)))
 else(
 E ((⟨(⟨(⟨y7,r1.1.Tide.Parts⟩:XTide),r1.1.Surges⟩:XForecast),r2.1,v8,r4.1,r5.1⟩:XHarbour),r5.2))
def A19(a0:Xl01Cur):Option (XHarbour × Xl01Cur):= (A2j a0).bind fun r1=> (A38 r1.2).bind fun r2=> (A3k r2.2 (3:Int)).bind fun r3=> (A25 r3.2).bind fun r4=> (A4h r4.2).bind fun r5=> R8 r3 r5 r1 r2 r4 (X .i64 (r1.1.Tide.Mean+(150:Int))) bigN (0:Int) r3.1
/- spec_l15Call -/
def A2r(r2:Bool × Xl01Cur)(a1 v4:Int)(v5 v6:Int):Option (XCall × Xl01Cur):= (A8 r2.2 (400:Int)).bind fun r7=> E ((⟨a1,v4,v5,v6,(X .i64 ((X .i64 (v6+(60:Int)))+r7.1))⟩:XCall),r7.2)
def A2f(a0:Xl01Cur)(a1:Int):Option (XCall × Xl01Cur):= (A8 a0 (30:Int)).bind fun r1=> (I7 r1.2 (3:Int)).bind fun r2=> if r2.1 then(
 A2r r2 a1 (3:Int) (0:Int) (X .i64 ((15:Int)*r1.1))) else(
 A2r r2 a1 (0:Int) (3:Int) (X .i64 ((15:Int)*r1.1)))
/- spec_l16Case -/
def U2(v2:Int)(r1:XHarbour × Xl01Cur)(v6:List XCall)(A29:Int→(List Int)→Int→Int→(List XCall)→Option (XHarbour × (List XCall) × Xl01Cur))(v10:Bool)(v11:List Int)(v12 v13:Int):Option (XHarbour × (List XCall) × Xl01Cur):= if v10 then(
 (A2f (⟨v11,v12,v13⟩:Xl01Cur) v2).bind fun r15=>
 if D4 v6.length ([r15.1]:List XCall).length 40 then(
 A29 (X .i64 (v2+(1:Int))) r15.2.b r15.2.i r15.2.h (v6++([r15.1]:List XCall)))
 else G) else(
 A29 (X .i64 (v2+(1:Int))) v11 v12 v13 v6)
def I8(r1:XHarbour × Xl01Cur):Nat→Int→(List Int)→Int→Int→(List XCall)→Option (XHarbour × (List XCall) × Xl01Cur)
| 0,_,_,_,_,_=>G
| n+1,v2,v3,v4,v5,v6=>
 if(decide (v2<(r1.1.Fleet.length:Int))) then(
 if(v2==(0:Int)) then(
  U2 v2 r1 v6 (I8 r1 n) T v3 v4 v5)
 else(
  (I7 (⟨v3,v4,v5⟩:Xl01Cur) (4:Int)).bind fun r9=>
  U2 v2 r1 v6 (I8 r1 n) (!r9.1) r9.2.b r9.2.i r9.2.h))
 else(
 E (r1.1,v6,(⟨v3,v4,v5⟩:Xl01Cur)))
def A6g(a0:Xl01Cur):Option (XHarbour × (List XCall) × Xl01Cur):= (A19 a0).bind fun r1=> I8 r1 bigN (0:Int) r1.2.b r1.2.i r1.2.h ([]:List XCall)
/- spec_MakeCalls -/
def A21(a0:List Int):Option (XHarbour × (List XCall)):= (A3e a0).bind fun r1=> (A6g r1).bind fun r2=> E (r2.1,r2.2.1)
/- impl_within -/
def E4(a0 a1 a2:Int):Option Bool:= if(decide (a1≤a0)) then(
 E (decide (a0≤a2))) else(
 E F)
/- impl_isPeriod -/
def A1q(a0:Int):Option Bool:= (E4 a0 (4:Int) (2880:Int)).bind fun r1=> if r1 then(
 E ((X .i64 (V a0 (4:Int)))==(0:Int))) else(
 E F)
/- impl_PartOk -/
def A49(a0:XPart):Option Bool:= (E4 a0.Amp (0:Int) (1000:Int)).bind fun r1=> if r1 then(
 (A1q a0.Period).bind fun r3=>
 if r3 then(
 (E4 a0.Phase (0:Int) (X .i64 (a0.Period - (1:Int)))).bind fun r5=>
 E r5)
 else(
 E F)) else(
 E F)
/- impl_TideOk -/
def A0d(a0:XTide):Nat→Int→Option Bool
| 0,_=>G
| n+1,v4=>
 if(decide (v4<(a0.Parts.length:Int))) then(
 (ix a0.Parts v4).bind fun x6=>
 (A49 x6).bind fun r7=>
 if r7 then(
  A0d a0 n (X .i64 (v4+(1:Int))))
 else(
  E F))
 else(
 E T)
def A4y(a0:XTide):Option Bool:= (E4 a0.Mean (-1000:Int) (1000:Int)).bind fun r1=> if r1 then(
 if(decide ((4:Int)<(a0.Parts.length:Int))) then(
 E F)
 else(
 A0d a0 bigN (0:Int))) else(
 E F)
/- impl_isMinute -/
def G9(a0:Int):Option Bool:= (E4 a0 (0:Int) (2880:Int)).bind fun r1=> E r1
/- impl_SurgeOk -/
def A39(a0:XSurge):Option Bool:= (G9 a0.From).bind fun r1=> if r1 then(
 if(decide ((-500:Int)≤a0.Low)) then(
 if(decide (a0.Low≤a0.High)) then(
  E (decide (a0.High≤(500:Int))))
 else(
  E F))
 else(
 E F)) else(
 E F)
/- impl_ForecastOk -/
def N3(a0:XForecast):Nat→Int→Option Bool
| 0,_=>G
| n+1,v7=>
 if(decide (v7<(a0.Surges.length:Int))) then(
 (ix a0.Surges v7).bind fun x9=>
 (A39 x9).bind fun r10=>
 if r10 then(
  if(decide ((0:Int)<v7)) then(
  (ix a0.Surges (X .i64 (v7 - (1:Int)))).bind fun x13=>
  if(decide (x9.From≤x13.From)) then(
   E F)
  else(
   N3 a0 n (X .i64 (v7+(1:Int)))))
  else(
  N3 a0 n (X .i64 (v7+(1:Int)))))
 else(
  E F))
 else(
 E T)
def M3(a0:XForecast):Option Bool:= (A4y a0.Tide).bind fun r1=> if r1 then(
 (E4 (a0.Surges.length:Int) (1:Int) (6:Int)).bind fun r3=>
 if r3 then(
 (ix a0.Surges (0:Int)).bind fun x5=>
 if(x5.From !=(0:Int)) then(
  E F)
 else(
  N3 a0 bigN (0:Int)))
 else(
 E F)) else(
 E F)
/- impl_IsName -/
def A3z(a0:List UInt8)(v3:Int)(L5:Int→Option Bool):Option Bool:= L5 (X .i64 (v3+(1:Int)))
def A3x(a0:List UInt8)(v3:Int)(L5:Int→Option Bool)(v7:Bool):Option Bool:= if v7 then(
 A3z a0 v3 L5) else(
 if(v3==(0:Int)) then(
 E F)
 else(
 (ix a0 v3).bind fun b10=>
 if(decide ((b10.toNat:Int)<(48:Int))) then(
  E F)
 else(
  if(decide ((57:Int)<(b10.toNat:Int))) then(
  E F)
  else(
  A3z a0 v3 L5))))
def O2(a0:List UInt8):Nat→Int→Option Bool
| 0,_=>G
| n+1,v3=>
 if(decide (v3<(a0.length:Int))) then(
 (ix a0 v3).bind fun b5=>
 if(decide ((97:Int)≤(b5.toNat:Int))) then(
  A3x a0 v3 (O2 a0 n) (decide ((b5.toNat:Int)≤(122:Int))))
 else(
  A3x a0 v3 (O2 a0 n) F))
 else(
 E T)
def A3h(a0:List UInt8):Option Bool:= (E4 (a0.length:Int) (1:Int) (8:Int)).bind fun r1=> if r1 then(
 O2 a0 bigN (0:Int)) else(
 E F)
/- impl_PointNamed -/
def Q7(a1:List UInt8)(a0:XChart):Nat→Int→Option Int
| 0,_=>G
| n+1,v1=>
 if(decide (v1<(a0.Points.length:Int))) then(
 (ix a0.Points v1).bind fun x3=>
 if(x3.Name==a1) then(
  E v1)
 else(
  Q7 a1 a0 n (X .i64 (v1+(1:Int)))))
 else(
 E (-1:Int))
def A15(a0:XChart)(a1:List UInt8):Option Int:= Q7 a1 a0 bigN (0:Int)
/- impl_isIndex -/
def D7(a0 a1:Int):Option Bool:= if(decide ((0:Int)≤a0)) then(
 E (decide (a0<a1))) else(
 E F)
/- impl_Segment_joins -/
def A0j(a0:XSegment)(a1 a2:Int):Option Bool:= if(a0.A==a1) then(
 if(a0.B==a2) then(
 E T)
 else(
 if(a0.A==a2) then(
  E (a0.B==a1))
 else(
  E F))) else(
 if(a0.A==a2) then(
 E (a0.B==a1))
 else(
 E F))
/- impl_ChartOk -/
def X9(a0:XChart)(v11:Int)(x13:XSegment)(y24:List XSegment)(y25:Int)(A2p:Int→Option Bool):Nat→Int→Option Bool
| 0,_=>G
| n+1,v26=>
 if(decide (v26<y25)) then(
 (ix y24 v26).bind fun x28=>
 (A0j x28 x13.A x13.B).bind fun r29=>
 if r29 then(
  E F)
 else(
  X9 a0 v11 x13 y24 y25 A2p n (X .i64 (v26+(1:Int)))))
 else(
 A2p (X .i64 (v11+(1:Int))))
def L6(a0:XChart):Nat→Int→Option Bool
| 0,_=>G
| n+1,v11=>
 if(decide (v11<(a0.Segments.length:Int))) then(
 (ix a0.Segments v11).bind fun x13=>
 (D7 x13.A (a0.Points.length:Int)).bind fun r14=>
 if r14 then(
  (D7 x13.B (a0.Points.length:Int)).bind fun r16=>
  if r16 then(
  if(x13.A==x13.B) then(
   E F)
  else(
   (E4 x13.Depth (0:Int) (3000:Int)).bind fun r19=>
   if r19 then(
   (E4 x13.Minutes (1:Int) (240:Int)).bind fun r21=>
   if r21 then(
    (bnd (a0.Segments.length:Int) v11 (0:Int) a0.Segments.length).bind fun p23=>
    X9 a0 v11 x13 ((a0.Segments.drop p23.1).take (p23.2 - p23.1)) (((a0.Segments.drop p23.1).take (p23.2 - p23.1)).length:Int) (L6 a0 n) bigN (0:Int))
   else(
    E F))
   else(
   E F)))
  else(
  E F))
 else(
  E F))
 else(
 E T)
def X4(a0:XChart):Nat→Int→Option Bool
| 0,_=>G
| n+1,v3=>
 if(decide (v3<(a0.Points.length:Int))) then(
 (ix a0.Points v3).bind fun x5=>
 (A3h x5.Name).bind fun r6=>
 if r6 then(
  (A15 a0 x5.Name).bind fun r9=>
  if(r9 !=v3) then(
  E F)
  else(
  X4 a0 n (X .i64 (v3+(1:Int)))))
 else(
  E F))
 else(
 L6 a0 bigN (0:Int))
def M8(a0:XChart):Option Bool:= if(decide ((8:Int)<(a0.Points.length:Int))) then(
 E F) else(
 if(decide ((10:Int)<(a0.Segments.length:Int))) then(
 E F)
 else(
 X4 a0 bigN (0:Int)))
/- impl_ShipOk -/
def U3(a0:XShip):Option Bool:= (A3h a0.Name).bind fun r1=> if r1 then(
 (E4 a0.Length (10:Int) (400:Int)).bind fun r3=>
 if r3 then(
 (E4 a0.Draught (100:Int) (2000:Int)).bind fun r5=>
 if r5 then(
  (D7 a0.Line (4:Int)).bind fun r7=>
  if r7 then(
  (E4 a0.Tugs (0:Int) (4:Int)).bind fun r9=>
  E r9)
  else(
  E F))
 else(
  E F))
 else(
 E F)) else(
 E F)
/- impl_ShipNamed -/
def T3(a1:List UInt8)(a0:List XShip):Nat→Int→Option Int
| 0,_=>G
| n+1,v1=>
 if(decide (v1<(a0.length:Int))) then(
 (ix a0 v1).bind fun x3=>
 if(x3.Name==a1) then(
  E v1)
 else(
  T3 a1 a0 n (X .i64 (v1+(1:Int)))))
 else(
 E (-1:Int))
def A2t(a0:List XShip)(a1:List UInt8):Option Int:= T3 a1 a0 bigN (0:Int)
/- impl_FleetOk -/
def Y0(a0:List XShip):Nat→Int→Option Bool
| 0,_=>G
| n+1,v2=>
 if(decide (v2<(a0.length:Int))) then(
 (ix a0 v2).bind fun x4=>
 (U3 x4).bind fun r5=>
 if r5 then(
  (A2t a0 x4.Name).bind fun r7=>
  if(r7 !=v2) then(
  E F)
  else(
  Y0 a0 n (X .i64 (v2+(1:Int)))))
 else(
  E F))
 else(
 E T)
def A2m(a0:List XShip):Option Bool:= if(decide ((6:Int)<(a0.length:Int))) then(
 E F) else(
 Y0 a0 bigN (0:Int))
/- impl_RegimeOk -/
def A5o(a0:XRegime):Option Bool:= (E4 a0.Gap (0:Int) (60:Int)).bind fun r1=> E r1
/- impl_movesOk -/
def U0(a0:List Int):Nat→Int→Option Bool
| 0,_=>G
| n+1,v2=>
 if(decide (v2<(a0.length:Int))) then(
 (ix a0 v2).bind fun x4=>
 (E4 x4 (0:Int) (240:Int)).bind fun r5=>
 if r5 then(
  U0 a0 n (X .i64 (v2+(1:Int))))
 else(
  E F))
 else(
 E T)
def Y3(a0:List Int):Option Bool:= if((a0.length:Int) !=(64:Int)) then(
 E F) else(
 U0 a0 bigN (0:Int))
/- impl_CrewOk -/
def A46(a0:XCrew):Option Bool:= (E4 a0.Tugs (0:Int) (12:Int)).bind fun r1=> if r1 then(
 (E4 a0.Pilots (0:Int) (12:Int)).bind fun r3=>
 if r3 then(
 (G9 a0.Rest).bind fun r5=>
 if r5 then(
  (Y3 a0.Moves).bind fun r7=>
  E r7)
 else(
  E F))
 else(
 E F)) else(
 E F)
/- impl_HarbourOk -/
def X7(a0:XHarbour):Option Bool:= (M3 a0.Forecast).bind fun r1=> if r1 then(
 (M8 a0.Chart).bind fun r3=>
 if r3 then(
 (A2m a0.Fleet).bind fun r5=>
 if r5 then(
  (A5o a0.Regime).bind fun r7=>
  if r7 then(
  (A46 a0.Crew).bind fun r9=>
  E r9)
  else(
  E F))
 else(
  E F))
 else(
 E F)) else(
 E F)
/- impl_callOk -/
def A3f(a0:XHarbour)(a1:XCall):Option Bool:= (D7 a1.Ship (a0.Fleet.length:Int)).bind fun r1=> if r1 then(
 (D7 a1.From (a0.Chart.Points.length:Int)).bind fun r3=>
 if r3 then(
 (D7 a1.To (a0.Chart.Points.length:Int)).bind fun r5=>
 if r5 then(
  if(a1.From !=a1.To) then(
  (G9 a1.Ready).bind fun r9=>
  if r9 then(
   (E4 a1.Due a1.Ready (2880:Int)).bind fun r11=>
   E r11)
  else(
   E F))
  else(
  E F))
 else(
  E F))
 else(
 E F)) else(
 E F)
/- impl_CallsOk -/
def X1(a1:List XCall)(v4:Int)(a0:XHarbour)(x6:XCall)(y10:List XCall)(y11:Int)(A20:Int→Option Bool):Nat→Int→Option Bool
| 0,_=>G
| n+1,v12=>
 if(decide (v12<y11)) then(
 (ix y10 v12).bind fun x14=>
 if(x14.Ship==x6.Ship) then(
  E F)
 else(
  X1 a1 v4 a0 x6 y10 y11 A20 n (X .i64 (v12+(1:Int)))))
 else(
 A20 (X .i64 (v4+(1:Int))))
def P5(a1:List XCall)(a0:XHarbour):Nat→Int→Option Bool
| 0,_=>G
| n+1,v4=>
 if(decide (v4<(a1.length:Int))) then(
 (ix a1 v4).bind fun x6=>
 (A3f a0 x6).bind fun r7=>
 if r7 then(
  (bnd (a1.length:Int) v4 (0:Int) a1.length).bind fun p9=>
  X1 a1 v4 a0 x6 ((a1.drop p9.1).take (p9.2 - p9.1)) (((a1.drop p9.1).take (p9.2 - p9.1)).length:Int) (P5 a1 a0 n) bigN (0:Int))
 else(
  E F))
 else(
 E T)
def A1b(a0:XHarbour)(a1:List XCall):Option Bool:= (X7 a0).bind fun r1=> if r1 then(
 if(decide ((6:Int)<(a1.length:Int))) then(
 E F)
 else(
 P5 a1 a0 bigN (0:Int))) else(
 E F)
/- impl_CallOk -/
def A4x(a0:XHarbour)(a1:XCall):Option Bool:= (X7 a0).bind fun r1=> if r1 then(
 (A3f a0 a1).bind fun r3=>
 E r3) else(
 E F)
/- impl_clone_int -/
def D5(a0:List Int):Option (List Int):= (mkS (0:Int) (a0.length:Int) 8).bind fun n1=> if D4 (W n1 (0:Int)).length a0.length 8 then(
 E ((W n1 (0:Int))++a0)) else G
/- impl_Segment_end -/
def Y2(a0:XSegment)(a1:Int):Option Int:= if(a1==a0.A) then(
 E a0.B) else(
 if(a1==a0.B) then(
 E a0.A)
 else(
 E (-1:Int)))
/- impl_Chart_routesFrom -/
def K2(rec_:XChart→Int→Int→(List Int)→X_8_bool→(List (List Int))→Option (List (List Int)))(a1 a2:Int)(a3:List Int)(v6 r11:Int)(a0:XChart)(y7:X_8_bool)(v8:List (List Int))(S4:Int→(List (List Int))→Option (List (List Int)))(v16:Bool):Option (List (List Int)):= if v16 then(
 (D5 a3).bind fun r18=>
 if D4 r18.length ([v6]:List Int).length 8 then(
 (rec_ a0 r11 a2 (r18++([v6]:List Int)) y7 v8).bind fun r20=>
 S4 (X .i64 (v6+(1:Int))) r20)
 else G) else(
 S4 (X .i64 (v6+(1:Int))) v8)
def F0(rec_:XChart→Int→Int→(List Int)→X_8_bool→(List (List Int))→Option (List (List Int)))(a1 a2:Int)(a3:List Int)(a0:XChart)(y7:X_8_bool):Nat→Int→(List (List Int))→Option (List (List Int))
| 0,_,_=>G
| n+1,v6,v8=>
 if(decide (v6<(a0.Segments.length:Int))) then(
 (ix a0.Segments v6).bind fun x10=>
 (Y2 x10 a1).bind fun r11=>
 if(decide ((0:Int)≤r11)) then(
  if decide ((0:Int)≤r11)&&decide (r11<(8:Int)) then(
  (ix ([y7.i0,y7.i1,y7.i2,y7.i3,y7.i4,y7.i5,y7.i6,y7.i7]:List Bool) r11).bind fun x14=>
  K2 rec_ a1 a2 a3 v6 r11 a0 y7 v8 (F0 rec_ a1 a2 a3 a0 y7 n) (!x14))
  else G)
 else(
  K2 rec_ a1 a2 a3 v6 r11 a0 y7 v8 (F0 rec_ a1 a2 a3 a0 y7 n) F))
 else(
 E v8)
def Z2(rec_:XChart→Int→Int→(List Int)→X_8_bool→(List (List Int))→Option (List (List Int)))(a0:XChart)(a1 a2:Int)(a3:List Int)(a4:X_8_bool)(a5:List (List Int)):Option (List (List Int)):= if(a1==a2) then(
 (D5 a3).bind fun r2=>
 if D4 a5.length ([r2]:List (List Int)).length 24 then(
 E (a5++([r2]:List (List Int))))
 else G) else(
 if decide ((0:Int)≤a1)&&decide (a1<(8:Int)) then(
 F0 rec_ a1 a2 a3 a0 (⟨((X_8_bool.set a4 (O a1) T)).i0,((X_8_bool.set a4 (O a1) T)).i1,((X_8_bool.set a4 (O a1) T)).i2,((X_8_bool.set a4 (O a1) T)).i3,((X_8_bool.set a4 (O a1) T)).i4,((X_8_bool.set a4 (O a1) T)).i5,((X_8_bool.set a4 (O a1) T)).i6,((X_8_bool.set a4 (O a1) T)).i7⟩:X_8_bool) bigN (0:Int) a5)
 else G)
def H2:Nat→XChart→Int→Int→(List Int)→X_8_bool→(List (List Int))→Option (List (List Int))
| 0,_,_,_,_,_,_=>G
| n+1,a0,a1,a2,a3,a4,a5=>Z2 (H2 n) a0 a1 a2 a3 a4 a5
def A3c(a0:XChart)(a1 a2:Int)(a3:List Int)(a4:X_8_bool)(a5:List (List Int)):Option (List (List Int)):=H2 bigN a0 a1 a2 a3 a4 a5
/- impl_RoutesBetween -/
def A0b(a0:XChart)(a1 a2:Int):Option (List (List Int)):= (M8 a0).bind fun r1=> if r1 then(
 (D7 a1 (a0.Points.length:Int)).bind fun r3=>
 if r3 then(
 (D7 a2 (a0.Points.length:Int)).bind fun r5=>
 if r5 then(
  (A3c a0 a1 a2 ([]:List Int) (⟨F,F,F,F,F,F,F,F⟩:X_8_bool) ([]:List (List Int))).bind fun r7=>
  E r7)
 else(
  E ([]:List (List Int))))
 else(
 E ([]:List (List Int)))) else(
 E ([]:List (List Int)))
/- impl_RouteMinutes -/
def O1(a1:List Int)(a0:XChart):Nat→Int→Int→Option Int
| 0,_,_=>G
| n+1,v3,v4=>
 if(decide (v4<(a1.length:Int))) then(
 (ix a1 v4).bind fun x6=>
 (D7 x6 (a0.Segments.length:Int)).bind fun r7=>
 if r7 then(
  (ix a0.Segments x6).bind fun x9=>
  O1 a1 a0 n (X .i64 (v3+x9.Minutes)) (X .i64 (v4+(1:Int))))
 else(
  E (-1:Int)))
 else(
 E v3)
def S2(a0:XChart)(a1:List Int):Option Int:= (M8 a0).bind fun r1=> if r1 then(
 O1 a1 a0 bigN (0:Int) (0:Int)) else(
 E (-1:Int))
/- impl_BestRoute -/
def O7(r1:(List (List Int)))(a0:XChart):Nat→(List Int)→Int→Option ((List Int) × Bool)
| 0,_,_=>G
| n+1,v4,v5=>
 if(decide (v5<(r1.length:Int))) then(
 (ix r1 v5).bind fun x7=>
 (S2 a0 x7).bind fun r9=>
 (S2 a0 v4).bind fun r10=>
 if(decide (r9<r10)) then(
  O7 r1 a0 n x7 (X .i64 (v5+(1:Int))))
 else(
  O7 r1 a0 n v4 (X .i64 (v5+(1:Int)))))
 else(
 E (v4,T))
def A26(a0:XChart)(a1 a2:Int):Option ((List Int) × Bool):= (A0b a0 a1 a2).bind fun r1=> if((r1.length:Int)==(0:Int)) then(
 E (([]:List Int),F)) else(
 (ix r1 (0:Int)).bind fun x3=>
 O7 r1 a0 bigN x3 (0:Int))
/- impl_Chart_points -/
def N9(r14:Int)(a2:List Int)(v6:Int)(a0:XChart)(v7:X_8_bool)(v8:List Int)(A1r:Int→Int→X_8_bool→(List Int)→Option ((List Int) × Bool))(v19:Bool):Option ((List Int) × Bool):= if v19 then(
 E (([]:List Int),F)) else(
 if decide ((0:Int)≤r14)&&decide (r14<(8:Int)) then(
 if D4 v8.length ([r14]:List Int).length 8 then(
  A1r r14 (X .i64 (v6+(1:Int))) (⟨((X_8_bool.set v7 (O r14) T)).i0,((X_8_bool.set v7 (O r14) T)).i1,((X_8_bool.set v7 (O r14) T)).i2,((X_8_bool.set v7 (O r14) T)).i3,((X_8_bool.set v7 (O r14) T)).i4,((X_8_bool.set v7 (O r14) T)).i5,((X_8_bool.set v7 (O r14) T)).i6,((X_8_bool.set v7 (O r14) T)).i7⟩:X_8_bool) (v8++([r14]:List Int)))
 else G)
 else G)
def I2(a2:List Int)(a0:XChart):Nat→Int→Int→X_8_bool→(List Int)→Option ((List Int) × Bool)
| 0,_,_,_,_=>G
| n+1,v5,v6,v7,v8=>
 if(decide (v6<(a2.length:Int))) then(
 (ix a2 v6).bind fun x10=>
 (D7 x10 (a0.Segments.length:Int)).bind fun r11=>
 if r11 then(
  (ix a0.Segments x10).bind fun x13=>
  (Y2 x13 v5).bind fun r14=>
  if(decide (r14<(0:Int))) then(
  N9 r14 a2 v6 a0 v7 v8 (I2 a2 a0 n) T)
  else(
  if decide ((0:Int)≤r14)&&decide (r14<(8:Int)) then(
   (ix ([v7.i0,v7.i1,v7.i2,v7.i3,v7.i4,v7.i5,v7.i6,v7.i7]:List Bool) r14).bind fun x17=>
   N9 r14 a2 v6 a0 v7 v8 (I2 a2 a0 n) x17)
  else G))
 else(
  E (([]:List Int),F)))
 else(
 E (v8,T))
def S3(a0:XChart)(a1:Int)(a2:List Int):Option ((List Int) × Bool):= (D7 a1 (a0.Points.length:Int)).bind fun r1=> if r1 then(
 if decide ((0:Int)≤a1)&&decide (a1<(8:Int)) then(
 I2 a2 a0 bigN a1 (0:Int) (⟨((X_8_bool.set (⟨F,F,F,F,F,F,F,F⟩:X_8_bool) (O a1) T)).i0,((X_8_bool.set (⟨F,F,F,F,F,F,F,F⟩:X_8_bool) (O a1) T)).i1,((X_8_bool.set (⟨F,F,F,F,F,F,F,F⟩:X_8_bool) (O a1) T)).i2,((X_8_bool.set (⟨F,F,F,F,F,F,F,F⟩:X_8_bool) (O a1) T)).i3,((X_8_bool.set (⟨F,F,F,F,F,F,F,F⟩:X_8_bool) (O a1) T)).i4,((X_8_bool.set (⟨F,F,F,F,F,F,F,F⟩:X_8_bool) (O a1) T)).i5,((X_8_bool.set (⟨F,F,F,F,F,F,F,F⟩:X_8_bool) (O a1) T)).i6,((X_8_bool.set (⟨F,F,F,F,F,F,F,F⟩:X_8_bool) (O a1) T)).i7⟩:X_8_bool) ([a1]:List Int))
 else G) else(
 E (([]:List Int),F))
/- impl_RoutePoints -/
def N1(a0:XChart)(a1:Int)(a2:List Int):Option (List Int):= (M8 a0).bind fun r1=> if r1 then(
 (S3 a0 a1 a2).bind fun r3=>
 E r3.1) else(
 E ([]:List Int))
/- impl_RouteOk -/
def A09(a0:XChart)(a1:Int)(a2:List Int):Option Bool:= (M8 a0).bind fun r1=> if r1 then(
 (S3 a0 a1 a2).bind fun r3=>
 E r3.2) else(
 E F)
/- impl_Ship_minutes -/
def L8(a0:XShip)(a1:XSegment):Option Int:= if a0.Slow then(
 E (X .i64 ((2:Int)*a1.Minutes))) else(
 E a1.Minutes)
/- impl_onSegment -/
def A1c(a0:XChart)(a1:Int)(a2:XShip):Option Bool:= (M8 a0).bind fun r1=> if r1 then(
 (U3 a2).bind fun r3=>
 if r3 then(
 (D7 a1 (a0.Segments.length:Int)).bind fun r5=>
 E r5)
 else(
 E F)) else(
 E F)
/- impl_Ship_squat -/
def A31(a0:XShip):Option Int:= if a0.Slow then(
 E (X .i64 (Q a0.Draught (50:Int)))) else(
 E (X .i64 (Q a0.Draught (20:Int))))
/- impl_Ship_need -/
def A4n(a0:XShip):Option Int:= (A31 a0).bind fun r1=> E (X .i64 ((X .i64 (a0.Draught+r1))+(50:Int)))
/- impl_LevelFor -/
def Z5(a0:XChart)(a1:Int)(a2:XShip):Option Int:= (A1c a0 a1 a2).bind fun r1=> if r1 then(
 (A4n a2).bind fun r3=>
 (ix a0.Segments a1).bind fun x4=>
 E (X .i64 (r3 - x4.Depth))) else(
 E (0:Int))
/- impl_windowsOf -/
def T4(a0:Int→Option Bool)(v2:Int)(K6:Bool→Int→(List XWindow)→Option (List XWindow))(v11:Bool)(v12:List XWindow):Option (List XWindow):= K6 v11 (X .i64 (v2+(1:Int))) v12
def Y5(a0:Int→Option Bool)(v2:Int)(K6:Bool→Int→(List XWindow)→Option (List XWindow))(v9:List XWindow):Option (List XWindow):= (ix v9 (X .i64 ((v9.length:Int) - (1:Int)))).bind fun x10=> T4 a0 v2 K6 T (v9.set (O (X .i64 ((v9.length:Int) - (1:Int)))) (⟨x10.From,v2⟩:XWindow))
def I0(a0:Int→Option Bool):Nat→Bool→Int→(List XWindow)→Option (List XWindow)
| 0,_,_,_=>G
| n+1,v1,v2,v3=>
 if(decide (v2≤(2880:Int))) then(
 (a0 v2).bind fun r5=>
 if r5 then(
  if v1 then(
  Y5 a0 v2 (I0 a0 n) v3)
  else(
  if D4 v3.length ([(⟨v2,(0:Int)⟩:XWindow)]:List XWindow).length 16 then(
   Y5 a0 v2 (I0 a0 n) (v3++([(⟨v2,(0:Int)⟩:XWindow)]:List XWindow)))
  else G))
 else(
  T4 a0 v2 (I0 a0 n) F v3))
 else(
 E v3)
def A4p(a0:Int→Option Bool):Option (List XWindow):= I0 a0 bigN F (0:Int) ([]:List XWindow)
/- impl_Wave -/
def A6v(a0 a1:Int):Option Int:= (A1q a1).bind fun r1=> if r1 then(
 if a1==0 then G else
 if a1==0 then G else
 if(decide ((X .i64 (Q a1 (2:Int)))≤(X .i64 (V (X .i64 ((X .i64 (V a0 a1))+a1)) a1)))) then(
 if(X .i64 ((X .i64 (Q a1 (2:Int)))*(X .i64 (Q a1 (2:Int)))))==0 then G else
 E (X .i64 (0 - (X .i64 (Q (X .i64 ((X .i64 ((40000:Int)*(X .i64 ((X .i64 (V (X .i64 ((X .i64 (V a0 a1))+a1)) a1)) - (X .i64 (Q a1 (2:Int)))))))*(X .i64 ((X .i64 (Q a1 (2:Int))) - (X .i64 ((X .i64 (V (X .i64 ((X .i64 (V a0 a1))+a1)) a1)) - (X .i64 (Q a1 (2:Int))))))))) (X .i64 ((X .i64 (Q a1 (2:Int)))*(X .i64 (Q a1 (2:Int))))))))))
 else(
 if(X .i64 ((X .i64 (Q a1 (2:Int)))*(X .i64 (Q a1 (2:Int)))))==0 then G else
 E (X .i64 (Q (X .i64 ((X .i64 ((40000:Int)*(X .i64 (V (X .i64 ((X .i64 (V a0 a1))+a1)) a1))))*(X .i64 ((X .i64 (Q a1 (2:Int))) - (X .i64 (V (X .i64 ((X .i64 (V a0 a1))+a1)) a1)))))) (X .i64 ((X .i64 (Q a1 (2:Int)))*(X .i64 (Q a1 (2:Int))))))))) else(
 E (0:Int))
/- impl_Tide_level -/
def Q9(a1:Int)(a0:XTide):Nat→Int→Int→Option Int
| 0,_,_=>G
| n+1,v1,v2=>
 if(decide (v2<(a0.Parts.length:Int))) then(
 (ix a0.Parts v2).bind fun x4=>
 (A6v (X .i64 (a1+x4.Phase)) x4.Period).bind fun r5=>
 Q9 a1 a0 n (X .i64 (v1+(X .i64 (Q (X .i64 (x4.Amp*r5)) (10000:Int))))) (X .i64 (v2+(1:Int))))
 else(
 E v1)
def A16(a0:XTide)(a1:Int):Option Int:= Q9 a1 a0 bigN a0.Mean (0:Int)
/- impl_Forecast_surge -/
def I6(a1:Int)(a0:XForecast):Nat→Int→Int→Option Int
| 0,_,_=>G
| n+1,v1,v2=>
 if(decide (v2<(a0.Surges.length:Int))) then(
 (ix a0.Surges v2).bind fun x4=>
 if(decide (x4.From≤a1)) then(
  I6 a1 a0 n v2 (X .i64 (v2+(1:Int))))
 else(
  I6 a1 a0 n v1 (X .i64 (v2+(1:Int)))))
 else(
 E v1)
def Y7(a0:XForecast)(a1:Int):Option Int:= I6 a1 a0 bigN (0:Int) (0:Int)
/- impl_Forecast_low -/
def H5(a0:XForecast)(a1:Int):Option Int:= (A16 a0.Tide a1).bind fun r1=> (Y7 a0 a1).bind fun r2=> (ix a0.Surges r2).bind fun x3=> E (X .i64 (r1+x3.Low))
/- impl_LowWindows_1 -/
def A00(a0:Int)(c0:XForecast)(c1:Int):Option Bool:= (H5 c0 a0).bind fun r1=> E (decide (c1≤r1))
/- impl_LowWindows -/
def A33(a0:XForecast)(a1:Int):Option (List XWindow):= (M3 a0).bind fun r1=> if r1 then(
 (A4p (fun z0=>A00 z0 a0 a1)).bind fun r3=>
 E r3) else(
 E ([]:List XWindow))
/- impl_MinutesOn -/
def A4u(a0:XChart)(a1:Int)(a2:XShip):Option Int:= (M8 a0).bind fun r1=> if r1 then(
 (U3 a2).bind fun r3=>
 if r3 then(
 (D7 a1 (a0.Segments.length:Int)).bind fun r5=>
 if r5 then(
  (ix a0.Segments a1).bind fun x7=>
  (L8 a2 x7).bind fun r9=>
  E r9)
 else(
  E (0:Int)))
 else(
 E (0:Int))) else(
 E (0:Int))
/- impl_WindowsOk -/
def O6(a0:List XWindow):Nat→Int→Option Bool
| 0,_=>G
| n+1,v1=>
 if(decide (v1<(a0.length:Int))) then(
 (ix a0 v1).bind fun x3=>
 if(decide (x3.From<(0:Int))) then(
  E F)
 else(
  if(decide (x3.To<x3.From)) then(
  E F)
  else(
  if(decide ((2880:Int)<x3.To)) then(
   E F)
  else(
   if(decide ((0:Int)<v1)) then(
   (ix a0 (X .i64 (v1 - (1:Int)))).bind fun x8=>
   if(decide (x3.From≤(X .i64 (x8.To+(1:Int))))) then(
    E F)
   else(
    O6 a0 n (X .i64 (v1+(1:Int)))))
   else(
   O6 a0 n (X .i64 (v1+(1:Int))))))))
 else(
 E T)
def A2z(a0:List XWindow):Option Bool:= O6 a0 bigN (0:Int)
/- impl_ShrinkWindows -/
def K9(a1:Int)(a0:List XWindow):Nat→Int→(List XWindow)→Option (List XWindow)
| 0,_,_=>G
| n+1,v5,v6=>
 if(decide (v5<(a0.length:Int))) then(
 (ix a0 v5).bind fun x8=>
 if(decide (a1≤(X .i64 (x8.To - x8.From)))) then(
  if D4 v6.length ([(⟨x8.From,(X .i64 (x8.To - a1))⟩:XWindow)]:List XWindow).length 16 then(
  K9 a1 a0 n (X .i64 (v5+(1:Int))) (v6++([(⟨x8.From,(X .i64 (x8.To - a1))⟩:XWindow)]:List XWindow)))
  else G)
 else(
  K9 a1 a0 n (X .i64 (v5+(1:Int))) v6))
 else(
 E v6)
def A0f(a0:List XWindow)(a1:Int):Option (List XWindow):= (A2z a0).bind fun r1=> if r1 then(
 (G9 a1).bind fun r3=>
 if r3 then(
 K9 a1 a0 bigN (0:Int) ([]:List XWindow))
 else(
 E ([]:List XWindow))) else(
 E ([]:List XWindow))
/- impl_SureStarts -/
def A18(a0:XForecast)(a1:XChart)(a2:Int)(a3:XShip):Option (List XWindow):= (M3 a0).bind fun r1=> if r1 then(
 (A1c a1 a2 a3).bind fun r3=>
 if r3 then(
 (Z5 a1 a2 a3).bind fun r5=>
 (A33 a0 r5).bind fun r6=>
 (A4u a1 a2 a3).bind fun r7=>
 (A0f r6 r7).bind fun r9=>
 E r9)
 else(
 E ([]:List XWindow))) else(
 E ([]:List XWindow))
/- impl_voyageOf -/
def V8(a4:List Int)(a0:XForecast)(a1:XChart)(a2:XShip)(y11:List Int)(y12:Int):Nat→Int→(List Bool)→(List Int)→(List (List XWindow))→Option (Xvoyage × Bool)
| 0,_,_,_,_=>G
| n+1,v13,v14,v15,v16=>
 if(decide (v13<y12)) then(
 (ix y11 v13).bind fun x18=>
 (ix a1.Points x18).bind fun x19=>
 if D4 v14.length ([x19.Wait]:List Bool).length 1 then(
  (ix a4 v13).bind fun x21=>
  (ix a1.Segments x21).bind fun x22=>
  (L8 a2 x22).bind fun r23=>
  if D4 v15.length ([r23]:List Int).length 8 then(
  (A18 a0 a1 x21 a2).bind fun r25=>
  if D4 v16.length ([r25]:List (List XWindow)).length 24 then(
   V8 a4 a0 a1 a2 y11 y12 n (X .i64 (v13+(1:Int))) (v14++([x19.Wait]:List Bool)) (v15++([r23]:List Int)) (v16++([r25]:List (List XWindow))))
  else G)
  else G)
 else G)
 else(
 E ((⟨v14,v15,v16⟩:Xvoyage),T))
def V3(a3:Int)(a4:List Int)(a0:XForecast)(a1:XChart)(a2:XShip)(v7:Bool):Option (Xvoyage × Bool):= if v7 then(
 E ((⟨([]:List Bool),([]:List Int),([]:List (List XWindow))⟩:Xvoyage),F)) else(
 (N1 a1 a3 a4).bind fun r9=>
 (bnd (r9.length:Int) (a4.length:Int) (0:Int) r9.length).bind fun p10=>
 V8 a4 a0 a1 a2 ((r9.drop p10.1).take (p10.2 - p10.1)) (((r9.drop p10.1).take (p10.2 - p10.1)).length:Int) bigN (0:Int) ([]:List Bool) ([]:List Int) ([]:List (List XWindow)))
def A3u(a0:XForecast)(a1:XChart)(a2:XShip)(a3:Int)(a4:List Int):Option (Xvoyage × Bool):= (M3 a0).bind fun r1=> if r1 then(
 (U3 a2).bind fun r3=>
 if r3 then(
 (A09 a1 a3 a4).bind fun r5=>
 if r5 then(
  V3 a3 a4 a0 a1 a2 ((a4.length:Int)==(0:Int)))
 else(
  V3 a3 a4 a0 a1 a2 T))
 else(
 V3 a3 a4 a0 a1 a2 T)) else(
 V3 a3 a4 a0 a1 a2 T)
/- impl_callVoyage -/
def W5(a2:List Int)(a0:XHarbour)(a1:XCall)(v4:Bool):Option (Xvoyage × Bool):= if v4 then(
 E ((⟨([]:List Bool),([]:List Int),([]:List (List XWindow))⟩:Xvoyage),F)) else(
 (ix a0.Fleet a1.Ship).bind fun x6=>
 (A3u a0.Forecast a0.Chart x6 a1.From a2).bind fun r7=>
 E (r7.1,r7.2))
def A1z(a0:XHarbour)(a1:XCall)(a2:List Int):Option (Xvoyage × Bool):= (N1 a0.Chart a1.From a2).bind fun r1=> if((r1.length:Int)==(0:Int)) then(
 W5 a2 a0 a1 T) else(
 (ix r1 (X .i64 ((r1.length:Int) - (1:Int)))).bind fun x3=>
 W5 a2 a0 a1 (x3 !=a1.To))
/- impl_HasMinute -/
def T7(a1:Int)(a0:List XWindow):Nat→Int→Option Bool
| 0,_=>G
| n+1,v1=>
 if(decide (v1<(a0.length:Int))) then(
 (ix a0 v1).bind fun x3=>
 (E4 a1 x3.From x3.To).bind fun r4=>
 if r4 then(
  E T)
 else(
  T7 a1 a0 n (X .i64 (v1+(1:Int)))))
 else(
 E F)
def A4w(a0:List XWindow)(a1:Int):Option Bool:= T7 a1 a0 bigN (0:Int)
/- impl_NextMinute -/
def R4(a1:Int)(a0:List XWindow):Nat→Int→Option Int
| 0,_=>G
| n+1,v3=>
 if(decide (v3<(a0.length:Int))) then(
 (ix a0 v3).bind fun x5=>
 if(decide (a1≤x5.To)) then(
  E (if x5.From<a1 then a1 else x5.From))
 else(
  R4 a1 a0 n (X .i64 (v3+(1:Int)))))
 else(
 E (-1:Int))
def A13(a0:List XWindow)(a1:Int):Option Int:= (A2z a0).bind fun r1=> if r1 then(
 R4 a1 a0 bigN (0:Int)) else(
 E (-1:Int))
/- impl_voyage_sail -/
def K1(v4 r10:Int)(a0:Xvoyage)(v5:List Int)(A2a:Int→(List Int)→Option ((List Int) × Bool))(v14:Bool):Option ((List Int) × Bool):= if v14 then(
 E (([]:List Int),F)) else(
 if D4 v5.length ([r10]:List Int).length 8 then(
 A2a (X .i64 (v4+(1:Int))) (v5++([r10]:List Int)))
 else G)
def F7(a0:Xvoyage):Nat→Int→(List Int)→Option ((List Int) × Bool)
| 0,_,_=>G
| n+1,v4,v5=>
 if(decide (v4<(a0.sure.length:Int))) then(
 (ix v5 (X .i64 (v4 - (1:Int)))).bind fun x7=>
 (ix a0.minutes (X .i64 (v4 - (1:Int)))).bind fun x8=>
 (ix a0.sure v4).bind fun x9=>
 (A13 x9 (X .i64 (x7+x8))).bind fun r10=>
 if(decide (r10<(0:Int))) then(
  K1 v4 r10 a0 v5 (F7 a0 n) T)
 else(
  if(decide ((X .i64 (x7+x8))<r10)) then(
  (ix a0.waits v4).bind fun x13=>
  K1 v4 r10 a0 v5 (F7 a0 n) (!x13))
  else(
  K1 v4 r10 a0 v5 (F7 a0 n) F)))
 else(
 E (v5,T))
def A1h(a0:Xvoyage)(a1:Int):Option ((List Int) × Bool):= (ix a0.sure (0:Int)).bind fun x1=> (A4w x1 a1).bind fun r2=> if r2 then(
 F7 a0 bigN (1:Int) ([a1]:List Int)) else(
 E (([]:List Int),F))
/- impl_PassagesOf -/
def S0(a1:Int)(a5 a4:List Int)(a0:XChart)(a2:XShip)(r6:(List Int)):Nat→Int→(List XPassage)→Option (List XPassage)
| 0,_,_=>G
| n+1,v7,v8=>
 if(decide (v7<(a4.length:Int))) then(
 (ix a4 v7).bind fun x10=>
 (ix a5 v7).bind fun x11=>
 (G9 x11).bind fun r12=>
 if r12 then(
  (ix a0.Segments x10).bind fun x14=>
  (ix r6 v7).bind fun x15=>
  (L8 a2 x14).bind fun r16=>
  if D4 v8.length ([(⟨a1,x10,(x15==x14.A),x11,(X .i64 (x11+r16))⟩:XPassage)]:List XPassage).length 40 then(
  S0 a1 a5 a4 a0 a2 r6 n (X .i64 (v7+(1:Int))) (v8++([(⟨a1,x10,(x15==x14.A),x11,(X .i64 (x11+r16))⟩:XPassage)]:List XPassage)))
  else G)
 else(
  E ([]:List XPassage)))
 else(
 E v8)
def A12(a0:XChart)(a1:Int)(a2:XShip)(a3:Int)(a4 a5:List Int):Option (List XPassage):= (A09 a0 a3 a4).bind fun r1=> if r1 then(
 (U3 a2).bind fun r3=>
 if r3 then(
 if((a4.length:Int) !=(a5.length:Int)) then(
  E ([]:List XPassage))
 else(
  (N1 a0 a3 a4).bind fun r6=>
  S0 a1 a5 a4 a0 a2 r6 bigN (0:Int) ([]:List XPassage)))
 else(
 E ([]:List XPassage))) else(
 E ([]:List XPassage))
/- impl_ArrivalOf -/
def A27(a0:XChart)(a1:XShip)(a2 a3:List Int):Option Int:= (S2 a0 a2).bind fun r1=> if(decide (r1<(0:Int))) then(
 E (-1:Int)) else(
 (U3 a1).bind fun r3=>
 if r3 then(
 if((a2.length:Int)==(0:Int)) then(
  E (-1:Int))
 else(
  if((a2.length:Int) !=(a3.length:Int)) then(
  E (-1:Int))
  else(
  (ix a3 (X .i64 ((a2.length:Int) - (1:Int)))).bind fun x7=>
  (G9 x7).bind fun r9=>
  if r9 then(
   (ix a2 (X .i64 ((a2.length:Int) - (1:Int)))).bind fun x11=>
   (ix a0.Segments x11).bind fun x12=>
   (L8 a1 x12).bind fun r13=>
   E (X .i64 (x7+r13)))
  else(
   E (-1:Int)))))
 else(
 E (-1:Int)))
/- impl_option -/
def A0k(a2:Xvoyage)(a4 r5:Int)(r4:(List XPassage)):Nat→Int→Int→Option (XOption × Bool)
| 0,_,_=>G
| n+1,v6,v7=>
 if(decide (v6<(a2.minutes.length:Int))) then(
 (ix a2.minutes v6).bind fun x9=>
 A0k a2 a4 r5 r4 n (X .i64 (v6+(1:Int))) (X .i64 (v7 - x9)))
 else(
 E ((⟨a4,r5,v7,r4⟩:XOption),(decide (r5≤(2880:Int)))))
def A45(a0:XHarbour)(a1:XCall)(a2:Xvoyage)(a3:List Int)(a4:Int):Option (XOption × Bool):= (A1h a2 a4).bind fun r1=> if r1.2 then(
 (ix a0.Fleet a1.Ship).bind fun x3=>
 (A12 a0.Chart a1.Ship x3 a1.From a3 r1.1).bind fun r4=>
 (A27 a0.Chart x3 a3 r1.1).bind fun r5=>
 A0k a2 a4 r5 r4 bigN (0:Int) (X .i64 (r5 - a1.Ready))) else(
 E ((⟨(0:Int),(0:Int),(0:Int),([]:List XPassage)⟩:XOption),F))
/- impl_OptionsOf -/
def Y6(r3:(List Int) × Bool)(v7:Int)(a0:XHarbour)(a1:XCall)(r4:Xvoyage × Bool)(A3p:Int→(List XOption)→Option (List XOption))(v14:List XOption):Option (List XOption):= A3p (X .i64 (v7+(15:Int))) v14
def L0(r3:(List Int) × Bool)(a0:XHarbour)(a1:XCall)(r4:Xvoyage × Bool):Nat→Int→(List XOption)→Option (List XOption)
| 0,_,_=>G
| n+1,v7,v8=>
 if(decide (v7≤a1.Due)) then(
 if(decide ((v8.length:Int)<(8:Int))) then(
  (A45 a0 a1 r4.1 r3.1 v7).bind fun r11=>
  if r11.2 then(
  if D4 v8.length ([r11.1]:List XOption).length 48 then(
   Y6 r3 v7 a0 a1 r4 (L0 r3 a0 a1 r4 n) (v8++([r11.1]:List XOption)))
  else G)
  else(
  Y6 r3 v7 a0 a1 r4 (L0 r3 a0 a1 r4 n) v8))
 else(
  E v8))
 else(
 E v8)
def U1(a0:XHarbour)(a1:XCall):Option (List XOption):= (A4x a0 a1).bind fun r1=> if r1 then(
 (A26 a0.Chart a1.From a1.To).bind fun r3=>
 (A1z a0 a1 r3.1).bind fun r4=>
 if r3.2 then(
 if r4.2 then(
  L0 r3 a0 a1 r4 bigN a1.Ready ([]:List XOption))
 else(
  E ([]:List XOption)))
 else(
 E ([]:List XOption))) else(
 E ([]:List XOption))
/- impl_allOptions -/
def R9(a1:List XCall)(a0:XHarbour):Nat→Int→(List (List XOption))→Option (List (List XOption))
| 0,_,_=>G
| n+1,v1,v2=>
 if(decide (v1<(a1.length:Int))) then(
 (ix a1 v1).bind fun x4=>
 (U1 a0 x4).bind fun r5=>
 if D4 v2.length ([r5]:List (List XOption)).length 24 then(
  R9 a1 a0 n (X .i64 (v1+(1:Int))) (v2++([r5]:List (List XOption))))
 else G)
 else(
 E v2)
def A14(a0:XHarbour)(a1:List XCall):Option (List (List XOption)):= R9 a1 a0 bigN (0:Int) ([]:List (List XOption))
/- impl_weight_less -/
def T1(a0 a1:Xweight):Option Bool:= if(decide (a0.i0<a1.i0)) then(
 E T) else(
 if(a0.i0==a1.i0) then(
 E (decide (a0.i1<a1.i1)))
 else(
 E F))
/- impl_Overlaps -/
def A3y(a0 a1:XPassage):Option Bool:= E (decide ((if a0.Start<a1.Start then a1.Start else a0.Start)<(if a1.End<a0.End then a1.End else a0.End)))
/- impl_near -/
def A6t(a0 a1 a2:Int):Option Bool:= E (decide ((IntKind.u64.wrap ((IntKind.u64.wrap (if a0<a1 then a1 else a0)) - (IntKind.u64.wrap (if a1<a0 then a1 else a0))))<(IntKind.u64.wrap a2)))
/- impl_conflict -/
def A0q(a2 a3:XPassage)(v22:Bool):Option Int:= if v22 then(
 E (3:Int)) else(
 if(decide (a2.Start<a3.Start)) then(
 if(decide (a3.End<a2.End)) then(
  E (4:Int))
 else(
  if(decide (a3.Start<a2.Start)) then(
  if(decide (a2.End<a3.End)) then(
   E (4:Int))
  else(
   E (0:Int)))
  else(
  E (0:Int))))
 else(
 if(decide (a3.Start<a2.Start)) then(
  if(decide (a2.End<a3.End)) then(
  E (4:Int))
  else(
  E (0:Int)))
 else(
  E (0:Int))))
def Q4(a1:XRegime)(a2 a3:XPassage)(v15 v16:Bool):Option Int:= if v15 then(
 E (2:Int)) else(
 if(a2.Toward==a3.Toward) then(
 (A6t a2.Start a3.Start a1.Gap).bind fun r19=>
 if r19 then(
  A0q a2 a3 T)
 else(
  (A6t a2.End a3.End a1.Gap).bind fun r21=>
  A0q a2 a3 r21))
 else(
 E (0:Int)))
def A0m(a0:XChart)(a1:XRegime)(a2 a3:XPassage)(v7:Bool):Option Int:= if v7 then(
 E (1:Int)) else(
 if(a2.Ship==a3.Ship) then(
 E (0:Int))
 else(
 if(a2.Toward==a3.Toward) then(
  Q4 a1 a2 a3 F a1.NoMeet)
 else(
  (A3y a2 a3).bind fun r11=>
  if r11 then(
  if a1.NoMeet then(
   Q4 a1 a2 a3 T T)
  else(
   (ix a0.Segments a2.Segment).bind fun x14=>
   Q4 a1 a2 a3 (!x14.Meet) F))
  else(
  Q4 a1 a2 a3 F a1.NoMeet))))
def A0r(a0:XChart)(a1:XRegime)(a2 a3:XPassage)(v3:Bool):Option Int:= if v3 then(
 E (0:Int)) else(
 if(a2.Ship==a3.Ship) then(
 (A3y a2 a3).bind fun r6=>
 A0m a0 a1 a2 a3 r6)
 else(
 A0m a0 a1 a2 a3 F))
def A3t(a0:XChart)(a1:XRegime)(a2 a3:XPassage):Option Int:= if(a2.Segment !=a3.Segment) then(
 A0r a0 a1 a2 a3 T) else(
 (D7 a2.Segment (a0.Segments.length:Int)).bind fun r2=>
 A0r a0 a1 a2 a3 (!r2))
/- impl_clashes -/
def X2(a3 a2:List XPassage)(v1:Int)(a0:XChart)(a1:XRegime)(x3:XPassage)(A22:Int→Option Bool):Nat→Int→Option Bool
| 0,_=>G
| n+1,v4=>
 if(decide (v4<(a3.length:Int))) then(
 (ix a3 v4).bind fun x6=>
 (A3t a0 a1 x3 x6).bind fun r7=>
 if(r7 !=(0:Int)) then(
  E T)
 else(
  X2 a3 a2 v1 a0 a1 x3 A22 n (X .i64 (v4+(1:Int)))))
 else(
 A22 (X .i64 (v1+(1:Int))))
def P1(a3 a2:List XPassage)(a0:XChart)(a1:XRegime):Nat→Int→Option Bool
| 0,_=>G
| n+1,v1=>
 if(decide (v1<(a2.length:Int))) then(
 (ix a2 v1).bind fun x3=>
 X2 a3 a2 v1 a0 a1 x3 (P1 a3 a2 a0 a1 n) bigN (0:Int))
 else(
 E F)
def A55(a0:XChart)(a1:XRegime)(a2 a3:List XPassage):Option Bool:= P1 a3 a2 a0 a1 bigN (0:Int)
/- impl_clone_Option -/
def J4(a0:List XOption):Option (List XOption):= (mkS (0:Int) (a0.length:Int) 48).bind fun n1=> if D4 (W n1 (⟨(0:Int),(0:Int),(0:Int),([]:List XPassage)⟩:XOption)).length a0.length 48 then(
 E ((W n1 (⟨(0:Int),(0:Int),(0:Int),([]:List XPassage)⟩:XOption))++a0)) else G
/- impl_Passage_ends -/
def W8(a0:XPassage)(a1:XChart):Option (Int × Int):= (ix a1.Segments a0.Segment).bind fun x1=> if a0.Toward then(
 E (x1.A,x1.B)) else(
 E (x1.B,x1.A))
/- impl_duty -/
def A5d(a0:XChart)(a1 a2:XPassage):Option XDuty:= (W8 a1 a0).bind fun r1=> (W8 a2 a0).bind fun r2=> E (⟨a1.Start,a2.End,r1.1,r2.2⟩:XDuty)
/- impl_passageOk -/
def A1d(a0:XChart)(a1:List XShip)(a2:XPassage):Option Bool:= (D7 a2.Ship (a1.length:Int)).bind fun r1=> if r1 then(
 (D7 a2.Segment (a0.Segments.length:Int)).bind fun r3=>
 if r3 then(
 (G9 a2.Start).bind fun r5=>
 if r5 then(
  if(decide ((2880:Int)<a2.End)) then(
  E F)
  else(
  (ix a1 a2.Ship).bind fun x8=>
  (ix a0.Segments a2.Segment).bind fun x9=>
  (L8 x8 x9).bind fun r10=>
  E (a2.End==(X .i64 (a2.Start+r10)))))
 else(
  E F))
 else(
 E F)) else(
 E F)
/- impl_PassageOk -/
def A2s(a0:XChart)(a1:List XShip)(a2:XPassage):Option Bool:= (M8 a0).bind fun r1=> if r1 then(
 (A2m a1).bind fun r3=>
 if r3 then(
 (A1d a0 a1 a2).bind fun r5=>
 E r5)
 else(
 E F)) else(
 E F)
/- impl_tugDuties -/
def O8(a1:List XShip)(a2:List XPassage)(v1:Int)(x7:XShip)(a0:XChart)(x4:XPassage)(A1j:Int→(List XDuty)→Option ((List XDuty) × Bool)):Nat→Int→(List XDuty)→Option ((List XDuty) × Bool)
| 0,_,_=>G
| n+1,v8,v9=>
 if(decide (v8<x7.Tugs)) then(
 (A5d a0 x4 x4).bind fun r11=>
 if D4 v9.length ([r11]:List XDuty).length 32 then(
  O8 a1 a2 v1 x7 a0 x4 A1j n (X .i64 (v8+(1:Int))) (v9++([r11]:List XDuty)))
 else G)
 else(
 if(decide ((12:Int)<(v9.length:Int))) then(
  E (([]:List XDuty),F))
 else(
  A1j (X .i64 (v1+(1:Int))) v9))
def K7(a1:List XShip)(a2:List XPassage)(a0:XChart):Nat→Int→(List XDuty)→Option ((List XDuty) × Bool)
| 0,_,_=>G
| n+1,v1,v2=>
 if(decide (v1<(a2.length:Int))) then(
 (ix a2 v1).bind fun x4=>
 (A2s a0 a1 x4).bind fun r5=>
 if r5 then(
  (ix a1 x4.Ship).bind fun x7=>
  O8 a1 a2 v1 x7 a0 x4 (K7 a1 a2 a0 n) bigN (0:Int) v2)
 else(
  E (([]:List XDuty),F)))
 else(
 E (v2,T))
def A4s(a0:XChart)(a1:List XShip)(a2:List XPassage):Option ((List XDuty) × Bool):= K7 a1 a2 a0 bigN (0:Int) ([]:List XDuty)
/- impl_DutiesOk -/
def V5(a0:List XDuty):Nat→Int→Option Bool
| 0,_=>G
| n+1,v2=>
 if(decide (v2<(a0.length:Int))) then(
 (ix a0 v2).bind fun x4=>
 if(decide (x4.From<(0:Int))) then(
  E F)
 else(
  if(decide (x4.To≤x4.From)) then(
  E F)
  else(
  if(decide ((2880:Int)<x4.To)) then(
   E F)
  else(
   (D7 x4.A (8:Int)).bind fun r9=>
   if r9 then(
   (D7 x4.B (8:Int)).bind fun r11=>
   if r11 then(
    V5 a0 n (X .i64 (v2+(1:Int))))
   else(
    E F))
   else(
   E F)))))
 else(
 E T)
def A0g(a0:List XDuty):Option Bool:= if(decide ((12:Int)<(a0.length:Int))) then(
 E F) else(
 V5 a0 bigN (0:Int))
/- impl_coverable -/
def A1a(a0:Int)(a1:List Int)(a2:List XDuty):Option Bool:= (A0g a2).bind fun r1=> if r1 then(
 (G9 a0).bind fun r3=>
 if r3 then(
 (Y3 a1).bind fun r5=>
 E r5)
 else(
 E F)) else(
 E F)
/- impl_Gap -/
def A2x(a0:Int)(a1:List Int)(a2 a3:XDuty)(v8:Bool):Option (Int × Bool):= if v8 then(
 E ((0:Int),F)) else(
 (ix a1 (X .i64 ((X .i64 ((8:Int)*a2.B))+a3.A))).bind fun x10=>
 E ((X .i64 (a0+x10)),T))
def A9k(a0:Int)(a1:List Int)(a2 a3:XDuty):Option (Int × Bool):= (G9 a0).bind fun r1=> if r1 then(
 (Y3 a1).bind fun r3=>
 if r3 then(
 (D7 a2.B (8:Int)).bind fun r5=>
 if r5 then(
  (D7 a3.A (8:Int)).bind fun r7=>
  A2x a0 a1 a2 a3 (!r7))
 else(
  A2x a0 a1 a2 a3 T))
 else(
 A2x a0 a1 a2 a3 T)) else(
 A2x a0 a1 a2 a3 T)
/- impl_CanFollow -/
def A07(a0:Int)(a1:List Int)(a2 a3:XDuty):Option Bool:= (A9k a0 a1 a2 a3).bind fun r1=> if r1.2 then(
 (A0g ([a2]:List XDuty)).bind fun r3=>
 if r3 then(
 (A0g ([a3]:List XDuty)).bind fun r5=>
 if r5 then(
  E (decide ((X .i64 (a2.To+r1.1))≤a3.From)))
 else(
  E F))
 else(
 E F)) else(
 E F)
/- impl_partners -/
def V9(a0:Int)(a1:List Int)(a2:List XDuty)(v2 v6:Int)(x5:XDuty)(v7:List Int)(A10:Int→(List Int)→Option (List Int))(v14:Bool):Option (List Int):= if v14 then(
 (ix v7 v2).bind fun x16=>
 if decide (v6<0) then G else
 A10 (X .i64 (v6+(1:Int))) (v7.set (O v2) (K0 .or .u64 x16 (A0v .u64 (1:Int) v6)))) else(
 A10 (X .i64 (v6+(1:Int))) v7)
def G8(a0:Int)(a1:List Int)(a2:List XDuty)(v2:Int)(x5:XDuty)(M1:Int→(List Int)→Option (List Int)):Nat→Int→(List Int)→Option (List Int)
| 0,_,_=>G
| n+1,v6,v7=>
 if(decide (v6<(a2.length:Int))) then(
 (ix a2 v6).bind fun x9=>
 if(v2 !=v6) then(
  (A07 a0 a1 x5 x9).bind fun r11=>
  if r11 then(
  V9 a0 a1 a2 v2 v6 x5 v7 (G8 a0 a1 a2 v2 x5 M1 n) T)
  else(
  (A07 a0 a1 x9 x5).bind fun r13=>
  V9 a0 a1 a2 v2 v6 x5 v7 (G8 a0 a1 a2 v2 x5 M1 n) r13))
 else(
  V9 a0 a1 a2 v2 v6 x5 v7 (G8 a0 a1 a2 v2 x5 M1 n) F))
 else(
 M1 (X .i64 (v2+(1:Int))) v7)
def M2(a0:Int)(a1:List Int)(a2:List XDuty):Nat→Int→(List Int)→Option (List Int)
| 0,_,_=>G
| n+1,v2,v3=>
 if(decide (v2<(a2.length:Int))) then(
 (ix a2 v2).bind fun x5=>
 G8 a0 a1 a2 v2 x5 (M2 a0 a1 a2 n) bigN (0:Int) v3)
 else(
 E v3)
def A3o(a0:Int)(a1:List Int)(a2:List XDuty):Option (List Int):= (mkS (a2.length:Int) (a2.length:Int) 8).bind fun n1=> M2 a0 a1 a2 bigN (0:Int) (W n1 (0:Int))
/- math_bits_Len64 -/
def W6(v8 v9:Int):Option Int:= (ix ([0,1,2,2,3,3,3,3,4,4,4,4,4,4,4,4,5,5,5,5,5,5,5,5,5,5,5,5,5,5,5,5,6,6,6,6,6,6,6,6,6,6,6,6,6,6,6,6,6,6,6,6,6,6,6,6,6,6,6,6,6,6,6,6,7,7,7,7,7,7,7,7,7,7,7,7,7,7,7,7,7,7,7,7,7,7,7,7,7,7,7,7,7,7,7,7,7,7,7,7,7,7,7,7,7,7,7,7,7,7,7,7,7,7,7,7,7,7,7,7,7,7,7,7,7,7,7,7,8,8,8,8,8,8,8,8,8,8,8,8,8,8,8,8,8,8,8,8,8,8,8,8,8,8,8,8,8,8,8,8,8,8,8,8,8,8,8,8,8,8,8,8,8,8,8,8,8,8,8,8,8,8,8,8,8,8,8,8,8,8,8,8,8,8,8,8,8,8,8,8,8,8,8,8,8,8,8,8,8,8,8,8,8,8,8,8,8,8,8,8,8,8,8,8,8,8,8,8,8,8,8,8,8,8,8,8,8,8,8,8,8,8,8,8,8,8,8,8,8,8,8,8,8,8,8,8]:List UInt8) (IntKind.u8.wrap v8)).bind fun b10=> E (X .i64 (v9+(X .i64 (b10.toNat:Int))))
def A0y(v5 v6:Int):Option Int:= if(decide ((256:Int)≤v5)) then(
 W6 (A0i .u64 v5 8) (X .i64 (v6+(8:Int)))) else(
 W6 v5 v6)
def A0z(v2 v3:Int):Option Int:= if(decide ((65536:Int)≤v2)) then(
 A0y (A0i .u64 v2 16) (X .i64 (v3+(16:Int)))) else(
 A0y v2 v3)
def A32(a0:Int):Option Int:= if(decide ((4294967296:Int)≤a0)) then(
 A0z (A0i .u64 a0 32) (32:Int)) else(
 A0z a0 (0:Int))
/- math_bits_Len -/
def A1v(a0:Int):Option Int:= (A32 a0).bind fun r1=> E r1
/- impl_leastPersons -/
def S8(a0:List Int)(y5 v6:Int)(v17 v18 v21:Int)(v19:List Bool)(C4:Int→(List Bool)→(List Int)→Option Int)(A1u:Int→(List Int)→Option Int)(v28:List Int):Option Int:= if(v21==(0:Int)) then(
 C4 (X .i64 (v6+(1:Int))) v19 v28) else(
 A1u (K0 .and .i64 (X .i64 (v21 - (1:Int))) v18) v28)
def I3(a0:List Int)(y5 v6:Int)(v17 v18:Int)(v19:List Bool)(C4:Int→(List Bool)→(List Int)→Option Int):Nat→Int→(List Int)→Option Int
| 0,_,_=>G
| n+1,v21,v22=>
 if decide (v17<0) then G else
 (ix v19 (K0 .or .i64 v21 (A0v .i64 (1:Int) v17))).bind fun x24=>
 if x24 then(
 (ix v22 v6).bind fun x26=>
 (ix v22 (K0 .andNot .i64 v18 v21)).bind fun x27=>
 S8 a0 y5 v6 v17 v18 v21 v19 C4 (I3 a0 y5 v6 v17 v18 v19 C4 n) (v22.set (O v6) (if(X .i64 ((1:Int)+x27))<x26 then(X .i64 ((1:Int)+x27)) else x26)))
 else(
 S8 a0 y5 v6 v17 v18 v21 v19 C4 (I3 a0 y5 v6 v17 v18 v19 C4 n) v22)
def S9(a0:List Int)(y5 v6:Int)(v8:List Int)(C4:Int→(List Bool)→(List Int)→Option Int)(v17 v18:Int)(v19:List Bool):Option Int:= (ix v8 v6).bind fun x20=> I3 a0 y5 v6 v17 v18 v19 C4 bigN v18 (v8.set (O v6) (a0.length:Int))
def G1(a0:List Int)(y5:Int):Nat→Int→(List Bool)→(List Int)→Option Int
| 0,_,_,_=>G
| n+1,v6,v7,v8=>
 if(decide (v6<y5)) then(
 (A1v (IntKind.u64.wrap v6)).bind fun r10=>
 if decide ((X .i64 (r10 - (1:Int)))<0) then G else
 (ix v7 (K0 .andNot .i64 v6 (A0v .i64 (1:Int) (X .i64 (r10 - (1:Int)))))).bind fun x12=>
 if x12 then(
  (ix a0 (X .i64 (r10 - (1:Int)))).bind fun x14=>
  (ix v7 v6).bind fun x15=>
  S9 a0 y5 v6 v8 (G1 a0 y5 n) (X .i64 (r10 - (1:Int))) (K0 .andNot .i64 v6 (A0v .i64 (1:Int) (X .i64 (r10 - (1:Int))))) (v7.set (O v6) ((K0 .andNot .u64 (IntKind.u64.wrap (K0 .andNot .i64 v6 (A0v .i64 (1:Int) (X .i64 (r10 - (1:Int)))))) x14)==(0:Int))))
 else(
  (ix v7 v6).bind fun x16=>
  S9 a0 y5 v6 v8 (G1 a0 y5 n) (X .i64 (r10 - (1:Int))) (K0 .andNot .i64 v6 (A0v .i64 (1:Int) (X .i64 (r10 - (1:Int))))) (v7.set (O v6) F)))
 else(
 (ix v8 (X .i64 (y5 - (1:Int)))).bind fun x30=>
 E x30)
def A01(a0:List Int):Option Int:= if decide ((a0.length:Int)<0) then G else (mkS (A0v .i64 (1:Int) (a0.length:Int)) (A0v .i64 (1:Int) (a0.length:Int)) 1).bind fun n2=> (mkS (A0v .i64 (1:Int) (a0.length:Int)) (A0v .i64 (1:Int) (a0.length:Int)) 8).bind fun n3=> (ix (W n2 F) (0:Int)).bind fun x4=> G1 a0 (A0v .i64 (1:Int) (a0.length:Int)) bigN (1:Int) ((W n2 F).set (O (0:Int)) T) (W n3 (0:Int))
/- impl_coverer_cover -/
def N2(rec_:Xcoverer→Option (Bool × Xcoverer))(a0:Xcoverer)(v2:Int)(F6:Int→(List Int)→Int→(List Int)→(List Int)→Option (Bool × Xcoverer))(v22:List Int)(v23:Int)(v24 v25:List Int):Option (Bool × Xcoverer):= (ix v24 v2).bind fun x26=> if(x26==(0:Int)) then(
 (bnd (v24.length:Int) v2 0 v24.length).bind fun p28=>
 E (F,(⟨v22,v23,(v24.take p28.2),v25⟩:Xcoverer))) else(
 F6 (X .i64 (v2+(1:Int))) v22 v23 v24 v25)
def Q2(rec_:Xcoverer→Option (Bool × Xcoverer))(a0:Xcoverer)(v2:Int)(v3:List Int)(v4:Int)(v6:List Int)(F6:Int→(List Int)→Int→(List Int)→(List Int)→Option (Bool × Xcoverer))(v11:List Int):Option (Bool × Xcoverer):= (ix v11 v2).bind fun x12=> (ix v3 (a0.who.length:Int)).bind fun x13=> if((K0 .andNot .u64 x12 x13)==(0:Int)) then(
 if decide ((a0.who.length:Int)<0) then G else
 if D4 v6.length ([v2]:List Int).length 8 then(
 (rec_ (⟨v3,v4,(v11.set (O v2) (K0 .or .u64 x12 (A0v .u64 (1:Int) (a0.who.length:Int)))),(v6++([v2]:List Int))⟩:Xcoverer)).bind fun r17=>
 if r17.1 then(
  E (T,r17.2))
 else(
  (bnd (r17.2.who.length:Int) (a0.who.length:Int) 0 r17.2.who.length).bind fun p19=>
  (ix r17.2.groups v2).bind fun x20=>
  if decide ((a0.who.length:Int)<0) then G else
  N2 rec_ a0 v2 F6 r17.2.sets r17.2.most (r17.2.groups.set (O v2) (K0 .andNot .u64 x20 (A0v .u64 (1:Int) (a0.who.length:Int)))) (r17.2.who.take p19.2)))
 else G) else(
 N2 rec_ a0 v2 F6 v3 v4 v11 v6)
def G2(rec_:Xcoverer→Option (Bool × Xcoverer))(a0:Xcoverer):Nat→Int→(List Int)→Int→(List Int)→(List Int)→Option (Bool × Xcoverer)
| 0,_,_,_,_,_=>G
| n+1,v2,v3,v4,v5,v6=>
 if(decide (v2≤(v5.length:Int))) then(
 if(decide (v2<v4)) then(
  if(v2==(v5.length:Int)) then(
  if D4 v5.length ([(0:Int)]:List Int).length 8 then(
   Q2 rec_ a0 v2 v3 v4 v6 (G2 rec_ a0 n) (v5++([(0:Int)]:List Int)))
  else G)
  else(
  Q2 rec_ a0 v2 v3 v4 v6 (G2 rec_ a0 n) v5))
 else(
  E (F,(⟨v3,v4,v5,v6⟩:Xcoverer))))
 else(
 E (F,(⟨v3,v4,v5,v6⟩:Xcoverer)))
def X0(rec_:Xcoverer→Option (Bool × Xcoverer))(a0:Xcoverer):Option (Bool × Xcoverer):= if((a0.who.length:Int)==(a0.sets.length:Int)) then(
 E (T,a0)) else(
 G2 rec_ a0 bigN (0:Int) a0.sets a0.most a0.groups a0.who)
def G4:Nat→Xcoverer→Option (Bool × Xcoverer)
| 0,_=>G
| n+1,a0=>X0 (G4 n) a0
def A4o(a0:Xcoverer):Option (Bool × Xcoverer):=G4 bigN a0
/- impl_LeastCover -/
def W0(a0:Int)(a1:List Int)(a2:List XDuty):Option ((List Int) × Int × Bool):= (A1a a0 a1 a2).bind fun r1=> if r1 then(
 (A3o a0 a1 a2).bind fun r3=>
 (A01 r3).bind fun r4=>
 (A4o (⟨r3,r4,([]:List Int),([]:List Int)⟩:Xcoverer)).bind fun r5=>
 E (r5.2.who,r5.2.most,T)) else(
 E (([]:List Int),(0:Int),F))
/- impl_coverFits -/
def A06(a0:Int)(a1:List Int)(a2:List XDuty)(a3:Int):Option Bool:= if(decide ((a2.length:Int)≤a3)) then(
 E T) else(
 (W0 a0 a1 a2).bind fun r2=>
 E (decide (r2.2.1≤a3)))
/- impl_crewFits -/
def Q5(a1:List XOption)(a0:XHarbour):Nat→Int→(List XPassage)→(List XDuty)→Option Bool
| 0,_,_,_=>G
| n+1,v1,v2,v3=>
 if(decide (v1<(a1.length:Int))) then(
 (ix a1 v1).bind fun x5=>
 if D4 v2.length x5.Passages.length 40 then(
  if(decide ((0:Int)<(x5.Passages.length:Int))) then(
  (ix x5.Passages (0:Int)).bind fun x8=>
  (ix x5.Passages (X .i64 ((x5.Passages.length:Int) - (1:Int)))).bind fun x9=>
  (A5d a0.Chart x8 x9).bind fun r10=>
  if D4 v3.length ([r10]:List XDuty).length 32 then(
   Q5 a1 a0 n (X .i64 (v1+(1:Int))) (v2++x5.Passages) (v3++([r10]:List XDuty)))
  else G)
  else(
  Q5 a1 a0 n (X .i64 (v1+(1:Int))) (v2++x5.Passages) v3))
 else G)
 else(
 (A4s a0.Chart a0.Fleet v2).bind fun r12=>
 if r12.2 then(
  (A06 (0:Int) a0.Crew.Moves r12.1 a0.Crew.Tugs).bind fun r14=>
  if r14 then(
  (A06 a0.Crew.Rest a0.Crew.Moves v3 a0.Crew.Pilots).bind fun r16=>
  E r16)
  else(
  E F))
 else(
  E F))
def S5(a0:XHarbour)(a1:List XOption):Option Bool:= Q5 a1 a0 bigN (0:Int) ([]:List XPassage) ([]:List XDuty)
/- impl_fitsTo -/
def A0c(a1:List XOption)(a0:XHarbour)(a2:XOption):Nat→Int→Option Bool
| 0,_=>G
| n+1,v1=>
 if(decide (v1<(a1.length:Int))) then(
 (ix a1 v1).bind fun x3=>
 (A55 a0.Chart a0.Regime x3.Passages a2.Passages).bind fun r4=>
 if r4 then(
  E F)
 else(
  A0c a1 a0 a2 n (X .i64 (v1+(1:Int)))))
 else(
 (J4 a1).bind fun r6=>
 if D4 r6.length ([a2]:List XOption).length 48 then(
  (S5 a0 (r6++([a2]:List XOption))).bind fun r9=>
  E r9)
 else G)
def A6z(a0:XHarbour)(a1:List XOption)(a2:XOption):Option Bool:= A0c a1 a0 a2 bigN (0:Int)
/- impl_planner_search -/
def J9(w0:(List XOption)→Option Xweight)(rec_:Xplanner→Option Xplanner)(a0:Xplanner)(x8:List XOption):Nat→Int→XHarbour→(List (List XOption))→Int→Int→Bool→(List XOption)→(List Int)→(List Int)→Option Xplanner
| 0,_,_,_,_,_,_,_,_,_=>G
| n+1,v9,v10,v11,v12,v13,v14,v15,v16,v17=>
 if(decide (v9<(x8.length:Int))) then(
 (ix x8 v9).bind fun x19=>
 (A6z v10 v15 x19).bind fun r20=>
 if r20 then(
  if D4 v15.length ([x19]:List XOption).length 48 then(
  if D4 v16.length ([v9]:List Int).length 8 then(
   (rec_ (⟨v10,v11,(v15++([x19]:List XOption)),(v16++([v9]:List Int)),v17,(⟨v12,v13⟩:Xweight),v14⟩:Xplanner)).bind fun r24=>
   (bnd (r24.plan.length:Int) (a0.plan.length:Int) 0 r24.plan.length).bind fun p25=>
   (bnd (r24.choice.length:Int) (a0.plan.length:Int) 0 r24.choice.length).bind fun p26=>
   J9 w0 rec_ a0 x8 n (X .i64 (v9+(1:Int))) r24.h r24.choices r24.least.i0 r24.least.i1 r24.found (r24.plan.take p25.2) (r24.choice.take p26.2) r24.best)
  else G)
  else G)
 else(
  J9 w0 rec_ a0 x8 n (X .i64 (v9+(1:Int))) v10 v11 v12 v13 v14 v15 v16 v17))
 else(
 E (⟨v10,v11,v15,v16,v17,(⟨v12,v13⟩:Xweight),v14⟩:Xplanner))
def J8(w0:(List XOption)→Option Xweight)(rec_:Xplanner→Option Xplanner)(a0:Xplanner)(r1:Xweight)(v5:Bool):Option Xplanner:= if((a0.plan.length:Int)==(a0.choices.length:Int)) then(
 (D5 a0.choice).bind fun r7=>
 E (⟨a0.h,a0.choices,a0.plan,a0.choice,r7,r1,T⟩:Xplanner)) else(
 (ix a0.choices (a0.plan.length:Int)).bind fun x8=>
 J9 w0 rec_ a0 x8 bigN (0:Int) a0.h a0.choices a0.least.i0 a0.least.i1 v5 a0.plan a0.choice a0.best)
def V0(w0:(List XOption)→Option Xweight)(rec_:Xplanner→Option Xplanner)(a0:Xplanner):Option Xplanner:= (w0 a0.plan).bind fun r1=> if a0.found then(
 (T1 r1 a0.least).bind fun r3=>
 if r3 then(
 J8 w0 rec_ a0 r1 T)
 else(
 E (⟨a0.h,a0.choices,a0.plan,a0.choice,a0.best,a0.least,T⟩:Xplanner))) else(
 J8 w0 rec_ a0 r1 F)
def F9(w0:(List XOption)→Option Xweight):Nat→Xplanner→Option Xplanner
| 0,_=>G
| n+1,a0=>V0 w0 (F9 w0 n) a0
def A4i(w0:(List XOption)→Option Xweight)(a0:Xplanner):Option Xplanner:=F9 w0 bigN a0
/- impl_leastPlan -/
def A23(a0:XHarbour)(a1:List (List XOption))(a2:(List XOption)→Option Xweight):Option ((List Int) × Xweight × Bool):= (A4i a2 (⟨a0,a1,([]:List XOption),([]:List Int),([]:List Int),(⟨(0:Int),(0:Int)⟩:Xweight),F⟩:Xplanner)).bind fun r1=> E (r1.best,r1.least,r1.found)
/- impl_CostOf -/
def Z6(a0:List XOption):Nat→Int→Int→Option Int
| 0,_,_=>G
| n+1,v1,v2=>
 if(decide (v2<(a0.length:Int))) then(
 (ix a0 v2).bind fun x4=>
 Z6 a0 n (X .i64 (v1+x4.Cost)) (X .i64 (v2+(1:Int))))
 else(
 E v1)
def A6y(a0:List XOption):Option Int:= Z6 a0 bigN (0:Int) (0:Int)
/- impl_byCost -/
def A47(a0:List XOption):Option Xweight:= (A6y a0).bind fun r1=> E (⟨r1,(0:Int)⟩:Xweight)
/- impl_BestPlan -/
def A1o(a0:XHarbour)(a1:List XCall):Option ((List Int) × Int × Bool):= (A1b a0 a1).bind fun r1=> if r1 then(
 (A14 a0 a1).bind fun r3=>
 (A23 a0 r3 (fun z0=>A47 z0)).bind fun r4=>
 E (r4.1,r4.2.1.i0,r4.2.2)) else(
 E (([]:List Int),(0:Int),F))
/- impl_CanServe -/
def A5p(a0:XHarbour)(a1:List XCall):Option Bool:= (A1o a0 a1).bind fun r1=> E r1.2.2
/- impl_PlanOf -/
def Z7(a2:List Int)(a1:List XCall)(a0:XHarbour):Nat→Int→(List XOption)→Option ((List XOption) × Bool)
| 0,_,_=>G
| n+1,v5,v6=>
 if(decide (v5<(a1.length:Int))) then(
 (ix a1 v5).bind fun x8=>
 (U1 a0 x8).bind fun r9=>
 (ix a2 v5).bind fun x10=>
 (D7 x10 (r9.length:Int)).bind fun r11=>
 if r11 then(
  (ix r9 x10).bind fun x13=>
  if D4 v6.length ([x13]:List XOption).length 48 then(
  Z7 a2 a1 a0 n (X .i64 (v5+(1:Int))) (v6++([x13]:List XOption)))
  else G)
 else(
  E (([]:List XOption),F)))
 else(
 E (v6,T))
def A3w(a1:List XCall)(a2:List Int)(a0:XHarbour)(v3:Bool):Option ((List XOption) × Bool):= if v3 then(
 E (([]:List XOption),F)) else(
 Z7 a2 a1 a0 bigN (0:Int) ([]:List XOption))
def A48(a0:XHarbour)(a1:List XCall)(a2:List Int):Option ((List XOption) × Bool):= (A1b a0 a1).bind fun r1=> if r1 then(
 A3w a1 a2 a0 ((a2.length:Int) !=(a1.length:Int))) else(
 A3w a1 a2 a0 T)
/- spec_l28New -/
def A0l(a1:Int):Nat→Int→(List Int)→Int→Int→Option Xl01Cur
| 0,_,_,_,_=>G
| n+1,v2,v3,v4,v5=>
 if(decide (v2<a1)) then(
 (N7 (⟨v3,v4,v5⟩:Xl01Cur)).bind fun r7=>
 A0l a1 n (X .i64 (v2+(1:Int))) r7.2.b r7.2.i r7.2.h)
 else(
 E (⟨v3,v4,v5⟩:Xl01Cur))
def A3d(a0:List Int)(a1:Int):Option Xl01Cur:= (A3e a0).bind fun r1=> A0l a1 bigN (0:Int) r1.b r1.i r1.h
/- spec_l24Picks -/
def V7:Nat→Int→(List Int)→Int→Int→(List Int)→Option ((List Int) × Xl01Cur)
| 0,_,_,_,_,_=>G
| n+1,v2,v3,v4,v5,v6=>
 if(decide ((0:Int)<v2)) then(
 (A8 (⟨v3,v4,v5⟩:Xl01Cur) (1001:Int)).bind fun r9=>
 (A2h r9.2 ([(0:Int),(1000:Int),r9.1]:List Int)).bind fun r10=>
 if D4 v6.length ([r10.1]:List Int).length 8 then(
  V7 n (X .i64 (v2 - (1:Int))) r10.2.b r10.2.i r10.2.h (v6++([r10.1]:List Int)))
 else G)
 else(
 E (v6,(⟨v3,v4,v5⟩:Xl01Cur)))
def A3l(a0:Xl01Cur):Option ((List Int) × Xl01Cur):= (A8 a0 (6:Int)).bind fun r1=> V7 bigN (X .i64 ((1:Int)+r1.1)) r1.2.b r1.2.i r1.2.h ([]:List Int)
/- spec_MakePicks -/
def A2w(a0:List Int)(a1:Int):Option (List Int):= (A3d a0 a1).bind fun r1=> (A3l r1).bind fun r2=> E r2.1
/- impl_PicksOk -/
def X5(a0:List Int):Nat→Int→Option Bool
| 0,_=>G
| n+1,v3=>
 if(decide (v3<(a0.length:Int))) then(
 (ix a0 v3).bind fun x5=>
 (E4 x5 (0:Int) (1000:Int)).bind fun r6=>
 if r6 then(
  X5 a0 n (X .i64 (v3+(1:Int))))
 else(
  E F))
 else(
 E T)
def Q0(a0:List Int):Option Bool:= (E4 (a0.length:Int) (1:Int) (48:Int)).bind fun r1=> if r1 then(
 X5 a0 bigN (0:Int)) else(
 E F)
/- impl_Forecast_high -/
def P3(a0:XForecast)(a1:Int):Option Int:= (A16 a0.Tide a1).bind fun r1=> (Y7 a0 a1).bind fun r2=> (ix a0.Surges r2).bind fun x3=> E (X .i64 (r1+x3.High))
/- impl_pickOf -/
def P6(a0:List Int)(a1:Int):Option Int:= (ix a0 (if(X .i64 ((a0.length:Int) - (1:Int)))<a1 then(X .i64 ((a0.length:Int) - (1:Int))) else a1)).bind fun x1=> E x1
/- impl_levelOn -/
def L4(a0:XForecast)(a1:List Int)(a2:Int):Option Int:= (H5 a0 a2).bind fun r1=> (P3 a0 a2).bind fun r2=> (P6 a1 (X .i64 (Q a2 (60:Int)))).bind fun r3=> E (X .i64 (r1+(X .i64 (Q (X .i64 ((X .i64 (r2 - r1))*r3)) (1000:Int)))))
/- impl_ClearanceOn -/
def P4(a2:List Int)(a0:XHarbour)(a1:XPassage):Nat→Int→Int→Option (Int × Bool)
| 0,_,_=>G
| n+1,v10,v11=>
 if(decide (v11≤a1.End)) then(
 (L4 a0.Forecast a2 v11).bind fun r13=>
 P4 a2 a0 a1 n (if r13<v10 then r13 else v10) (X .i64 (v11+(1:Int))))
 else(
 (ix a0.Fleet a1.Ship).bind fun x14=>
 (Z5 a0.Chart a1.Segment x14).bind fun r15=>
 E ((X .i64 (v10 - r15)),T))
def U6(a2:List Int)(a0:XHarbour)(a1:XPassage)(v6:Bool):Option (Int × Bool):= if v6 then(
 E ((0:Int),F)) else(
 (L4 a0.Forecast a2 a1.Start).bind fun r9=>
 P4 a2 a0 a1 bigN r9 a1.Start)
def F3(a0:XHarbour)(a1:XPassage)(a2:List Int):Option (Int × Bool):= (X7 a0).bind fun r1=> if r1 then(
 (Q0 a2).bind fun r3=>
 if r3 then(
 (A1d a0.Chart a0.Fleet a1).bind fun r5=>
 U6 a2 a0 a1 (!r5))
 else(
 U6 a2 a0 a1 T)) else(
 U6 a2 a0 a1 T)
/- impl_LeastClearance -/
def O9(a2:List Int)(v6:Int)(r11:Int × Bool)(a1:List XOption)(v3:Int)(x5:XOption)(v8:Int)(a0:XHarbour)(U8:Int→Bool→Int→Option (Int × Bool))(v14 v15:Bool):Option (Int × Bool):= if v15 then(
 U8 r11.1 T (X .i64 (v8+(1:Int)))) else(
 U8 v6 v14 (X .i64 (v8+(1:Int))))
def H0(a2:List Int)(a1:List XOption)(v3:Int)(x5:XOption)(a0:XHarbour)(J6:Int→Bool→Int→Option (Int × Bool)):Nat→Int→Bool→Int→Option (Int × Bool)
| 0,_,_,_=>G
| n+1,v6,v7,v8=>
 if(decide (v8<(x5.Passages.length:Int))) then(
 (ix x5.Passages v8).bind fun x10=>
 (F3 a0 x10 a2).bind fun r11=>
 if r11.2 then(
  if v7 then(
  O9 a2 v6 r11 a1 v3 x5 v8 a0 (H0 a2 a1 v3 x5 a0 J6 n) T (decide (r11.1<v6)))
  else(
  O9 a2 v6 r11 a1 v3 x5 v8 a0 (H0 a2 a1 v3 x5 a0 J6 n) F T))
 else(
  E ((0:Int),F)))
 else(
 J6 v6 v7 (X .i64 (v3+(1:Int))))
def I4(a2:List Int)(a1:List XOption)(a0:XHarbour):Nat→Int→Bool→Int→Option (Int × Bool)
| 0,_,_,_=>G
| n+1,v1,v2,v3=>
 if(decide (v3<(a1.length:Int))) then(
 (ix a1 v3).bind fun x5=>
 H0 a2 a1 v3 x5 a0 (I4 a2 a1 a0 n) bigN v1 v2 (0:Int))
 else(
 E (v1,v2))
def Y1(a0:XHarbour)(a1:List XOption)(a2:List Int):Option (Int × Bool):= I4 a2 a1 a0 bigN (0:Int) F (0:Int)
/- impl_sailOn -/
def A5k(a1:Int)(a3:List Int)(a0:XHarbour)(a2:XPassage):Nat→Int→Option (Option Xgrounded)
| 0,_=>G
| n+1,v4=>
 if(decide (v4≤a2.End)) then(
 (L4 a0.Forecast a3 v4).bind fun r6=>
 (ix a0.Fleet a2.Ship).bind fun x7=>
 (Z5 a0.Chart a2.Segment x7).bind fun r9=>
 if(decide (r6<r9)) then(
  E (E (⟨a1,v4⟩:Xgrounded)))
 else(
  A5k a1 a3 a0 a2 n (X .i64 (v4+(1:Int)))))
 else(
 E (G:Option Xgrounded))
def A42(a0:XHarbour)(a1:Int)(a2:XPassage)(a3:List Int):Option (Option Xgrounded):= (F3 a0 a2 a3).bind fun r1=> if r1.2 then(
 if(decide ((0:Int)≤r1.1)) then(
 E (G:Option Xgrounded))
 else(
 A5k a1 a3 a0 a2 bigN a2.Start)) else(
 E (G:Option Xgrounded))
/- impl_FirstGrounding -/
def M6(a2:List Int)(a0:XHarbour)(v1:Int)(a1:List XOption)(x3:XOption)(U7:Int→Option (Int × Int)):Nat→Int→Option (Int × Int)
| 0,_=>G
| n+1,v4=>
 if(decide (v4<(x3.Passages.length:Int))) then(
 (ix x3.Passages v4).bind fun x6=>
 (A42 a0 v1 x6 a2).bind fun r7=>
 if r7.isSome then(
  (r7).bind fun y9=>
  E (y9.option,y9.minute))
 else(
  M6 a2 a0 v1 a1 x3 U7 n (X .i64 (v4+(1:Int)))))
 else(
 U7 (X .i64 (v1+(1:Int))))
def I5(a2:List Int)(a0:XHarbour)(a1:List XOption):Nat→Int→Option (Int × Int)
| 0,_=>G
| n+1,v1=>
 if(decide (v1<(a1.length:Int))) then(
 (ix a1 v1).bind fun x3=>
 M6 a2 a0 v1 a1 x3 (I5 a2 a0 a1 n) bigN (0:Int))
 else(
 E ((-1:Int),(-1:Int)))
def A1w(a0:XHarbour)(a1:List XOption)(a2:List Int):Option (Int × Int):= I5 a2 a0 a1 bigN (0:Int)
/- impl_HoldsOn -/
def X6(a2:List Int)(a1:List XOption)(v1:Int)(x3:XOption)(a0:XHarbour)(A2y:Int→Option Bool):Nat→Int→Option Bool
| 0,_=>G
| n+1,v4=>
 if(decide (v4<(x3.Passages.length:Int))) then(
 (ix x3.Passages v4).bind fun x6=>
 (F3 a0 x6 a2).bind fun r7=>
 if r7.2 then(
  if(decide (r7.1<(0:Int))) then(
  E F)
  else(
  X6 a2 a1 v1 x3 a0 A2y n (X .i64 (v4+(1:Int)))))
 else(
  E F))
 else(
 A2y (X .i64 (v1+(1:Int))))
def P2(a2:List Int)(a1:List XOption)(a0:XHarbour):Nat→Int→Option Bool
| 0,_=>G
| n+1,v1=>
 if(decide (v1<(a1.length:Int))) then(
 (ix a1 v1).bind fun x3=>
 X6 a2 a1 v1 x3 a0 (P2 a2 a1 a0 n) bigN (0:Int))
 else(
 E T)
def A4b(a0:XHarbour)(a1:List XOption)(a2:List Int):Option Bool:= P2 a2 a1 a0 bigN (0:Int)
/- impl_SaferPicks -/
def Q8(a0 a1:List Int):Nat→Int→Option Bool
| 0,_=>G
| n+1,v5=>
 if(decide (v5<(48:Int))) then(
 (P6 a0 v5).bind fun r7=>
 (P6 a1 v5).bind fun r9=>
 if(decide (r7<r9)) then(
  E F)
 else(
  Q8 a0 a1 n (X .i64 (v5+(1:Int)))))
 else(
 E T)
def A11(a0 a1:List Int):Option Bool:= (Q0 a0).bind fun r1=> if r1 then(
 (Q0 a1).bind fun r3=>
 if r3 then(
 Q8 a0 a1 bigN (0:Int))
 else(
 E F)) else(
 E F)
/- impl_LevelOn -/
def A4e(a0:XForecast)(a1:List Int)(a2:Int):Option Int:= (M3 a0).bind fun r1=> if r1 then(
 (Q0 a1).bind fun r3=>
 if r3 then(
 (G9 a2).bind fun r5=>
 if r5 then(
  (L4 a0 a1 a2).bind fun r7=>
  E r7)
 else(
  E (0:Int)))
 else(
 E (0:Int))) else(
 E (0:Int))
/- impl_LowAt -/
def A5u(a0:XForecast)(a1:Int):Option Int:= (M3 a0).bind fun r1=> if r1 then(
 (G9 a1).bind fun r3=>
 if r3 then(
 (H5 a0 a1).bind fun r5=>
 E r5)
 else(
 E (0:Int))) else(
 E (0:Int))
/- laws_FnAdverse -/
def A4l(a0:List Int):Option Bool:= if(decide ((1048576:Int)<(a0.length:Int))) then(
 E T) else(
 (A21 a0).bind fun r2=>
 (A1o r2.1 r2.2).bind fun r3=>
 (A1b r2.1 r2.2).bind fun r4=>
 if r4 then(
 if r3.2.2 then(
  (A48 r2.1 r2.2 r3.1).bind fun r9=>
  (A2w a0 (90:Int)).bind fun r10=>
  (Y1 r2.1 r9.1 r10).bind fun r11=>
  (Y1 r2.1 r9.1 ([(0:Int)]:List Int)).bind fun r12=>
  (A1w r2.1 r9.1 r10).bind fun r13=>
  if r11.2 then(
  if r12.2 then(
   if(decide (r12.1≤r11.1)) then(
   if(decide ((0:Int)≤r12.1)) then(
    (A4b r2.1 r9.1 r10).bind fun r18=>
    if r18 then(
    (A4b r2.1 r9.1 ([(0:Int)]:List Int)).bind fun r20=>
    if r20 then(
     if(r13.1==(-1:Int)) then(
     if(r13.2==(-1:Int)) then(
      (Q0 r10).bind fun r24=>
      if r24 then(
      (A11 r10 ([(0:Int)]:List Int)).bind fun r26=>
      if r26 then(
       (A4e r2.1.Forecast r10 (100:Int)).bind fun r28=>
       (A5u r2.1.Forecast (100:Int)).bind fun r29=>
       E (decide (r29≤r28)))
      else(
       E F))
      else(
      E F))
     else(
      E F))
     else(
     E F))
    else(
     E F))
    else(
    E F))
   else(
    E F))
   else(
   E F))
  else(
   E F))
  else(
  E F))
 else(
  (A5p r2.1 r2.2).bind fun r7=>
  E (!r7)))
 else(
 E F))
end Go.Vi
