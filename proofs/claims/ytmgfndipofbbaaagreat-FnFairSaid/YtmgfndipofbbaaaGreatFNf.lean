/-
Plain definitions of functions. No condition.
-/
import Derived.Test.YtmgfndipofbbaaaGreatFVi39
namespace Go.Vi
set_option linter.all false
open List renaming map → U, not_mem_nil → Y, mem_cons → C, replicate → I
open Nat renaming le_of_ble_eq_true → V
open Int renaming toNat → W, tdiv → Z, tmod → zA
open And renaming intro → X
open IntKind renaming wrap → zB
open Bool renaming true → T, false → F
open Option renaming some → E, none → G
open _root_ renaming List → H, Option → L, Int → N, Bool → O, Nat → P, UInt8 → Q
def Z5(k:IntKind)(x:N)(n:P):N:=k.wrap (x.fdiv (2 ^ min n k.bits))
theorem C36{k:IntKind}{x:N}:A4b .shr (.v (.sc (.dat (.int k x)))) (.v (.sc (.dat (.int .u64 8))))=E (.v (.sc (.dat (.int k (Z5 k x 8))))):=by simp[A4b,L6,Z5]
theorem C3x{k:IntKind}{x:N}:L6 .shr k x 8=E (.int k (Z5 k x 8)):=by simp[L6,Z5]
theorem C1l{k:IntKind}{x:N}:A4b .shr (.v (.sc (.dat (.int k x)))) (.v (.sc (.dat (.int .u64 16))))=E (.v (.sc (.dat (.int k (Z5 k x 16))))):=by simp[A4b,L6,Z5]
theorem C06{k:IntKind}{x:N}:L6 .shr k x 16=E (.int k (Z5 k x 16)):=by simp[L6,Z5]
theorem C1b{k:IntKind}{x:N}:A4b .shr (.v (.sc (.dat (.int k x)))) (.v (.sc (.dat (.int .u64 32))))=E (.v (.sc (.dat (.int k (Z5 k x 32))))):=by simp[A4b,L6,Z5]
theorem C1g{k:IntKind}{x:N}:L6 .shr k x 32=E (.int k (Z5 k x 32)):=by simp[L6,Z5]
theorem C1q{k:IntKind}{x:N}:A4b .shr (.v (.sc (.dat (.int k x)))) (.v (.sc (.dat (.int .u64 33))))=E (.v (.sc (.dat (.int k (Z5 k x 33))))):=by simp[A4b,L6,Z5]
theorem C1c{k:IntKind}{x:N}:L6 .shr k x 33=E (.int k (Z5 k x 33)):=by simp[L6,Z5]
theorem C1h{k:IntKind}{x:N}:A4b .shr (.v (.sc (.dat (.int k x)))) (.v (.sc (.dat (.int .u64 45))))=E (.v (.sc (.dat (.int k (Z5 k x 45))))):=by simp[A4b,L6,Z5]
theorem C1f{k:IntKind}{x:N}:L6 .shr k x 45=E (.int k (Z5 k x 45)):=by simp[L6,Z5]
structure Xi where
 Amp:N
 Period:N
 Phase:N
 deriving DecidableEq
def Xi.row(x:Xi):H D:= [.int .i64 x.Amp,.int .i64 x.Period,.int .i64 x.Phase]
theorem Xi.row_eq(x:Xi):Xi.row x= [.int .i64 x.Amp,.int .i64 x.Period,.int .i64 x.Phase]:=rfl
instance:Row Xi.row 3:=⟨fun _=>rfl,V rfl⟩
instance:FlatRow Xi.row:=⟨fun x d hd=>by simp only[Xi.row_eq,C,Y,or_false] at hd; rcases hd with rfl | rfl | rfl<;>rfl⟩
structure Xl where
 Mean:N
 Parts:H Xi
 deriving DecidableEq
def Xl.row(x:Xl):H D:= [.int .i64 x.Mean,.sl (U Xi.row x.Parts)]
theorem Xl.row_eq(x:Xl):Xl.row x= [.int .i64 x.Mean,.sl (U Xi.row x.Parts)]:=rfl
instance:Row Xl.row 2:=⟨fun _=>rfl,V rfl⟩
structure Xf where
 From:N
 Low:N
 High:N
 deriving DecidableEq
def Xf.row(x:Xf):H D:= [.int .i64 x.From,.int .i64 x.Low,.int .i64 x.High]
theorem Xf.row_eq(x:Xf):Xf.row x= [.int .i64 x.From,.int .i64 x.Low,.int .i64 x.High]:=rfl
instance:Row Xf.row 3:=⟨fun _=>rfl,V rfl⟩
instance:FlatRow Xf.row:=⟨fun x d hd=>by simp only[Xf.row_eq,C,Y,or_false] at hd; rcases hd with rfl | rfl | rfl<;>rfl⟩
structure Xe where
 Tide:Xl
 Surges:H Xf
 deriving DecidableEq
def Xe.row(x:Xe):H D:= [.int .i64 x.Tide.Mean,.sl (U Xi.row x.Tide.Parts),.sl (U Xf.row x.Surges)]
theorem Xe.row_eq(x:Xe):Xe.row x= [.int .i64 x.Tide.Mean,.sl (U Xi.row x.Tide.Parts),.sl (U Xf.row x.Surges)]:=rfl
instance:Row Xe.row 3:=⟨fun _=>rfl,V rfl⟩
structure Xb where
 Name:H Q
 Wait:O
 deriving DecidableEq
def Xb.row(x:Xb):H D:= [.str x.Name,.bool x.Wait]
theorem Xb.row_eq(x:Xb):Xb.row x= [.str x.Name,.bool x.Wait]:=rfl
instance:Row Xb.row 2:=⟨fun _=>rfl,V rfl⟩
instance:FlatRow Xb.row:=⟨fun x d hd=>by simp only[Xb.row_eq,C,Y,or_false] at hd; rcases hd with rfl | rfl<;>rfl⟩
structure X2 where
 A:N
 B:N
 Depth:N
 Minutes:N
 Meet:O
 deriving DecidableEq
def X2.row(x:X2):H D:= [.int .i64 x.A,.int .i64 x.B,.int .i64 x.Depth,.int .i64 x.Minutes,.bool x.Meet]
theorem X2.row_eq(x:X2):X2.row x= [.int .i64 x.A,.int .i64 x.B,.int .i64 x.Depth,.int .i64 x.Minutes,.bool x.Meet]:=rfl
instance:Row X2.row 5:=⟨fun _=>rfl,V rfl⟩
instance:FlatRow X2.row:=⟨fun x d hd=>by simp only[X2.row_eq,C,Y,or_false] at hd; rcases hd with rfl | rfl | rfl | rfl | rfl<;>rfl⟩
structure X7 where
 Points:H Xb
 Segments:H X2
 deriving DecidableEq
def X7.row(x:X7):H D:= [.sl (U Xb.row x.Points),.sl (U X2.row x.Segments)]
theorem X7.row_eq(x:X7):X7.row x= [.sl (U Xb.row x.Points),.sl (U X2.row x.Segments)]:=rfl
instance:Row X7.row 2:=⟨fun _=>rfl,V rfl⟩
structure Xa where
 Name:H Q
 Length:N
 Draught:N
 Line:N
 Tugs:N
 Slow:O
 deriving DecidableEq
def Xa.row(x:Xa):H D:= [.str x.Name,.int .i64 x.Length,.int .i64 x.Draught,.int .i64 x.Line,.int .i64 x.Tugs,.bool x.Slow]
theorem Xa.row_eq(x:Xa):Xa.row x= [.str x.Name,.int .i64 x.Length,.int .i64 x.Draught,.int .i64 x.Line,.int .i64 x.Tugs,.bool x.Slow]:=rfl
instance:Row Xa.row 6:=⟨fun _=>rfl,V rfl⟩
instance:FlatRow Xa.row:=⟨fun x d hd=>by simp only[Xa.row_eq,C,Y,or_false] at hd; rcases hd with rfl | rfl | rfl | rfl | rfl | rfl<;>rfl⟩
structure Xk where
 Gap:N
 NoMeet:O
 deriving DecidableEq
def Xk.row(x:Xk):H D:= [.int .i64 x.Gap,.bool x.NoMeet]
theorem Xk.row_eq(x:Xk):Xk.row x= [.int .i64 x.Gap,.bool x.NoMeet]:=rfl
instance:Row Xk.row 2:=⟨fun _=>rfl,V rfl⟩
instance:FlatRow Xk.row:=⟨fun x d hd=>by simp only[Xk.row_eq,C,Y,or_false] at hd; rcases hd with rfl | rfl<;>rfl⟩
structure Xo where
 Tugs:N
 Pilots:N
 Rest:N
 Moves:H N
 deriving DecidableEq
def Xo.row(x:Xo):H D:= [.int .i64 x.Tugs,.int .i64 x.Pilots,.int .i64 x.Rest,.sl (U rI x.Moves)]
theorem Xo.row_eq(x:Xo):Xo.row x= [.int .i64 x.Tugs,.int .i64 x.Pilots,.int .i64 x.Rest,.sl (U rI x.Moves)]:=rfl
instance:Row Xo.row 4:=⟨fun _=>rfl,V rfl⟩
structure X4 where
 Forecast:Xe
 Chart:X7
 Fleet:H Xa
 Regime:Xk
 Crew:Xo
 deriving DecidableEq
def X4.row(x:X4):H D:= [.int .i64 x.Forecast.Tide.Mean,.sl (U Xi.row x.Forecast.Tide.Parts),.sl (U Xf.row x.Forecast.Surges),.sl (U Xb.row x.Chart.Points),.sl (U X2.row x.Chart.Segments),.sl (U Xa.row x.Fleet),.int .i64 x.Regime.Gap,.bool x.Regime.NoMeet,.int .i64 x.Crew.Tugs,.int .i64 x.Crew.Pilots,.int .i64 x.Crew.Rest,.sl (U rI x.Crew.Moves)]
theorem X4.row_eq(x:X4):X4.row x= [.int .i64 x.Forecast.Tide.Mean,.sl (U Xi.row x.Forecast.Tide.Parts),.sl (U Xf.row x.Forecast.Surges),.sl (U Xb.row x.Chart.Points),.sl (U X2.row x.Chart.Segments),.sl (U Xa.row x.Fleet),.int .i64 x.Regime.Gap,.bool x.Regime.NoMeet,.int .i64 x.Crew.Tugs,.int .i64 x.Crew.Pilots,.int .i64 x.Crew.Rest,.sl (U rI x.Crew.Moves)]:=rfl
instance:Row X4.row 12:=⟨fun _=>rfl,V rfl⟩
structure X9 where
 Ship:N
 From:N
 To:N
 Ready:N
 Due:N
 deriving DecidableEq
def X9.row(x:X9):H D:= [.int .i64 x.Ship,.int .i64 x.From,.int .i64 x.To,.int .i64 x.Ready,.int .i64 x.Due]
theorem X9.row_eq(x:X9):X9.row x= [.int .i64 x.Ship,.int .i64 x.From,.int .i64 x.To,.int .i64 x.Ready,.int .i64 x.Due]:=rfl
instance:Row X9.row 5:=⟨fun _=>rfl,V rfl⟩
instance:FlatRow X9.row:=⟨fun x d hd=>by simp only[X9.row_eq,C,Y,or_false] at hd; rcases hd with rfl | rfl | rfl | rfl | rfl<;>rfl⟩
structure X1 where
 b:H N
 i:N
 h:N
 deriving DecidableEq
def X1.row(x:X1):H D:= [.sl (U r8 x.b),.int .i64 x.i,.int .i64 x.h]
theorem X1.row_eq(x:X1):X1.row x= [.sl (U r8 x.b),.int .i64 x.i,.int .i64 x.h]:=rfl
instance:Row X1.row 3:=⟨fun _=>rfl,V rfl⟩
structure X5 where
 Ship:N
 Segment:N
 Toward:O
 Start:N
 End:N
 deriving DecidableEq
def X5.row(x:X5):H D:= [.int .i64 x.Ship,.int .i64 x.Segment,.bool x.Toward,.int .i64 x.Start,.int .i64 x.End]
theorem X5.row_eq(x:X5):X5.row x= [.int .i64 x.Ship,.int .i64 x.Segment,.bool x.Toward,.int .i64 x.Start,.int .i64 x.End]:=rfl
instance:Row X5.row 5:=⟨fun _=>rfl,V rfl⟩
instance:FlatRow X5.row:=⟨fun x d hd=>by simp only[X5.row_eq,C,Y,or_false] at hd; rcases hd with rfl | rfl | rfl | rfl | rfl<;>rfl⟩
structure X0 where
 Start:N
 Arrival:N
 Cost:N
 Passages:H X5
 deriving DecidableEq
def X0.row(x:X0):H D:= [.int .i64 x.Start,.int .i64 x.Arrival,.int .i64 x.Cost,.sl (U X5.row x.Passages)]
theorem X0.row_eq(x:X0):X0.row x= [.int .i64 x.Start,.int .i64 x.Arrival,.int .i64 x.Cost,.sl (U X5.row x.Passages)]:=rfl
instance:Row X0.row 4:=⟨fun _=>rfl,V rfl⟩
structure X6 where
 i0:O
 i1:O
 i2:O
 i3:O
 i4:O
 i5:O
 i6:O
 i7:O
 deriving DecidableEq
def X6.row(x:X6):H D:= [.bool x.i0,.bool x.i1,.bool x.i2,.bool x.i3,.bool x.i4,.bool x.i5,.bool x.i6,.bool x.i7]
theorem X6.row_eq(x:X6):X6.row x= [.bool x.i0,.bool x.i1,.bool x.i2,.bool x.i3,.bool x.i4,.bool x.i5,.bool x.i6,.bool x.i7]:=rfl
instance:Row X6.row 8:=⟨fun _=>rfl,V rfl⟩
def X6.set(x:X6)(n:P)(v:O):X6:=⟨bif n==0 then v else x.i0,bif n==1 then v else x.i1,bif n==2 then v else x.i2,bif n==3 then v else x.i3,bif n==4 then v else x.i4,bif n==5 then v else x.i5,bif n==6 then v else x.i6,bif n==7 then v else x.i7⟩
theorem X6.set_eq(x:X6){n:P}{v:O}(h:n<8):A2g (U AC.dat (X6.row x)) n [.dat (.bool v)]=U AC.dat (X6.row (X6.set x n v)):=by
 match n,h with
 | 0,_=>rfl
 | 1,_=>rfl
 | 2,_=>rfl
 | 3,_=>rfl
 | 4,_=>rfl
 | 5,_=>rfl
 | 6,_=>rfl
 | 7,_=>rfl
instance:FlatRow X6.row:=⟨fun x d hd=>by simp only[X6.row_eq,C,Y,or_false] at hd; rcases hd with rfl | rfl | rfl | rfl | rfl | rfl | rfl | rfl<;>rfl⟩
structure X8 where
 From:N
 To:N
 deriving DecidableEq
def X8.row(x:X8):H D:= [.int .i64 x.From,.int .i64 x.To]
theorem X8.row_eq(x:X8):X8.row x= [.int .i64 x.From,.int .i64 x.To]:=rfl
instance:Row X8.row 2:=⟨fun _=>rfl,V rfl⟩
instance:FlatRow X8.row:=⟨fun x d hd=>by simp only[X8.row_eq,C,Y,or_false] at hd; rcases hd with rfl | rfl<;>rfl⟩
structure Xj where
 waits:H O
 minutes:H N
 sure:H (H X8)
 deriving DecidableEq
def Xj.row(x:Xj):H D:= [.sl (U rB x.waits),.sl (U rI x.minutes),.sl (U (rL X8.row) x.sure)]
theorem Xj.row_eq(x:Xj):Xj.row x= [.sl (U rB x.waits),.sl (U rI x.minutes),.sl (U (rL X8.row) x.sure)]:=rfl
instance:Row Xj.row 3:=⟨fun _=>rfl,V rfl⟩
structure Xh where
 i0:N
 i1:N
 deriving DecidableEq
def Xh.row(x:Xh):H D:= [.int .i64 x.i0,.int .i64 x.i1]
theorem Xh.row_eq(x:Xh):Xh.row x= [.int .i64 x.i0,.int .i64 x.i1]:=rfl
instance:Row Xh.row 2:=⟨fun _=>rfl,V rfl⟩
instance:FlatRow Xh.row:=⟨fun x d hd=>by simp only[Xh.row_eq,C,Y,or_false] at hd; rcases hd with rfl | rfl<;>rfl⟩
structure Xc where
 h:X4
 choices:H (H X0)
 plan:H X0
 choice:H N
 best:H N
 least:Xh
 found:O
abbrev R4(F_w0:FuncId)(caps_w0:H D)(x:Xc):H XC:= [.d (.int .i64 x.h.Forecast.Tide.Mean),.d (.sl (U Xi.row x.h.Forecast.Tide.Parts)),.d (.sl (U Xf.row x.h.Forecast.Surges)),.d (.sl (U Xb.row x.h.Chart.Points)),.d (.sl (U X2.row x.h.Chart.Segments)),.d (.sl (U Xa.row x.h.Fleet)),.d (.int .i64 x.h.Regime.Gap),.d (.bool x.h.Regime.NoMeet),.d (.int .i64 x.h.Crew.Tugs),.d (.int .i64 x.h.Crew.Pilots),.d (.int .i64 x.h.Crew.Rest),.d (.sl (U rI x.h.Crew.Moves)),.d (.sl (U (rL X0.row) x.choices)),.d (.clo F_w0 caps_w0),.r 0,.r 1,.r 2,.d (.int .i64 x.least.i0),.d (.int .i64 x.least.i1),.d (.bool x.found)]
abbrev Q8(x:Xc):H5:= [(4,U X0.row x.plan),(1,U rI x.choice),(1,U rI x.best)]
structure Xd where
 From:N
 To:N
 A:N
 B:N
 deriving DecidableEq
def Xd.row(x:Xd):H D:= [.int .i64 x.From,.int .i64 x.To,.int .i64 x.A,.int .i64 x.B]
theorem Xd.row_eq(x:Xd):Xd.row x= [.int .i64 x.From,.int .i64 x.To,.int .i64 x.A,.int .i64 x.B]:=rfl
instance:Row Xd.row 4:=⟨fun _=>rfl,V rfl⟩
instance:FlatRow Xd.row:=⟨fun x d hd=>by simp only[Xd.row_eq,C,Y,or_false] at hd; rcases hd with rfl | rfl | rfl | rfl<;>rfl⟩
structure Xg where
 sets:H N
 most:N
 groups:H N
 who:H N
 deriving DecidableEq
def Xg.row(x:Xg):H D:= [.sl (U rU x.sets),.int .i64 x.most,.sl (U rU x.groups),.sl (U rI x.who)]
theorem Xg.row_eq(x:Xg):Xg.row x= [.sl (U rU x.sets),.int .i64 x.most,.sl (U rU x.groups),.sl (U rI x.who)]:=rfl
instance:Row Xg.row 4:=⟨fun _=>rfl,V rfl⟩
abbrev J9(x:Xg):H XC:= [.d (.sl (U rU x.sets)),.d (.int .i64 x.most),.r 0,.r 1]
abbrev J8(x:Xg):H5:= [(1,U rU x.groups),(1,U rI x.who)]
structure Xn where
 Waits:H N
 Calls:H N
 deriving DecidableEq
def Xn.row(x:Xn):H D:= [.sl (U rI x.Waits),.sl (U rI x.Calls)]
theorem Xn.row_eq(x:Xn):Xn.row x= [.sl (U rI x.Waits),.sl (U rI x.Calls)]:=rfl
instance:Row Xn.row 2:=⟨fun _=>rfl,V rfl⟩
def E7x:=X @D7l (X @C36 (X @C3x (X @C1l (X @C06 (X @C1b (X @C1g (X @C1q (X @C1c (X @C1h (X @C1f (X @Xi.row_eq (X @Xl.row_eq (X @Xf.row_eq (X @Xe.row_eq (X @Xb.row_eq (X @X2.row_eq (X @X7.row_eq (X @Xa.row_eq (X @Xk.row_eq (X @Xo.row_eq (X @X4.row_eq (X @X9.row_eq (X @X1.row_eq (X @X5.row_eq (X @X0.row_eq (X @X6.row_eq (X @X8.row_eq (X @Xj.row_eq (X @Xh.row_eq (X @Xd.row_eq (X @Xg.row_eq (@Xn.row_eq))))))))))))))))))))))))))))))))
def J:=X E48 (X E5h (X E59 (X E3n E7x)))
/- spec_l01New -/
def A1d(a0:H N)(v1:N):L X1:= E (⟨a0,(0:N),v1⟩:X1)
def Z0(a0:H N):P→N→N→L X1
| 0,_,_=>G
| n+1,v1,v2=>
 if(decide (v2<(a0.length:N))) then(
 if(decide (v2<(4000:N))) then(
  (ix a0 v2).bind fun x5=>
  Z0 a0 n (J4 .and .i64 (zB .i64 ((zB .i64 ((zB .i64 (v1*(79:N)))+(zB .i64 x5)))+(7:N))) (1073741823:N)) (zB .i64 (v2+(1:N))))
 else(
  A1d a0 v1))
 else(
 A1d a0 v1)
def A4w(a0:H N):L X1:= Z0 a0 bigN (zB .i64 ((1976:N)+(a0.length:N))) (0:N)
/- spec_l01Byte -/
def T0(a0:X1):L (N × X1):= if(decide (a0.i<(a0.b.length:N))) then(
 (ix a0.b a0.i).bind fun x2=>
 E ((J4 .and .i64 (zB .i64 ((J4 .and .i64 (J4 .xor .i64 (Z5 .i64 (zB .i64 ((zB .i64 (a0.h*(6364136223846793005:N)))+(1442695040888963407:N))) 33) (Z5 .i64 (zB .i64 ((zB .i64 (a0.h*(6364136223846793005:N)))+(1442695040888963407:N))) 45)) (255:N))+(zB .i64 x2))) (255:N)),(⟨a0.b,(zB .i64 (a0.i+(1:N))),(zB .i64 ((zB .i64 (a0.h*(6364136223846793005:N)))+(1442695040888963407:N)))⟩:X1))) else(
 E ((J4 .and .i64 (J4 .xor .i64 (Z5 .i64 (zB .i64 ((zB .i64 (a0.h*(6364136223846793005:N)))+(1442695040888963407:N))) 33) (Z5 .i64 (zB .i64 ((zB .i64 (a0.h*(6364136223846793005:N)))+(1442695040888963407:N))) 45)) (255:N)),(⟨a0.b,a0.i,(zB .i64 ((zB .i64 (a0.h*(6364136223846793005:N)))+(1442695040888963407:N)))⟩:X1)))
/- spec_l01Below -/
def A4(a0:X1)(a1:N):L (N × X1):= if(decide (a1≤(0:N))) then(
 E ((0:N),a0)) else(
 if(decide (a1≤(256:N))) then(
 (T0 a0).bind fun r3=>
 if a1==0 then G else
 E ((zB .i64 (zA r3.1 a1)),r3.2))
 else(
 (T0 a0).bind fun r5=>
 (T0 r5.2).bind fun r6=>
 (T0 r6.2).bind fun r7=>
 (T0 r7.2).bind fun r9=>
 if a1==0 then G else
 E ((zB .i64 (zA (zB .i64 ((zB .i64 ((zB .i64 ((zB .i64 (r5.1*(16777216:N)))+(zB .i64 (r6.1*(65536:N)))))+(zB .i64 (r7.1*(256:N)))))+r9.1)) a1)),r9.2)))
/- spec_l01Pick -/
def A35(a0:X1)(a1:H N):L (N × X1):= (A4 a0 (a1.length:N)).bind fun r1=> (ix a1 r1.1).bind fun x2=> E (x2,r1.2)
/- spec_l02Part -/
def N3(a0:X1):L (Xi × X1):= (A4 a0 (300:N)).bind fun r1=> (A35 r1.2 ([(744:N),(720:N),(1440:N),(372:N),(240:N)]:H N)).bind fun r2=> (A4 r2.2 r2.1).bind fun r3=> E ((⟨r1.1,r2.1,r3.1⟩:Xi),r3.2)
/- spec_l02Draw -/
def W0(r1:N × X1):P→N→(H N)→N→N→(H Xi)→L (Xl × X1)
| 0,_,_,_,_,_=>G
| n+1,v3,v4,v5,v6,v7=>
 if(decide ((0:N)<v3)) then(
 (N3 (⟨v4,v5,v6⟩:X1)).bind fun r9=>
 if C9 v7.length ([r9.1]:H Xi).length 24 then(
  W0 r1 n (zB .i64 (v3 - (1:N))) r9.2.b r9.2.i r9.2.h (v7++([r9.1]:H Xi)))
 else G)
 else(
 E ((⟨r1.1,v7⟩:Xl),(⟨v4,v5,v6⟩:X1)))
def A4g(a0:X1):L (Xl × X1):= (A4 a0 (300:N)).bind fun r1=> (A4 r1.2 (2:N)).bind fun r2=> W0 r1 bigN (zB .i64 ((1:N)+r2.1)) r2.2.b r2.2.i r2.2.h ([]:H Xi)
/- spec_l03Draw -/
def O4(r1:Xl × X1):P→N→N→(H N)→N→N→(H Xf)→L (Xe × X1)
| 0,_,_,_,_,_,_=>G
| n+1,v3,v4,v5,v6,v7,v8=>
 if(decide ((0:N)<v4)) then(
 (A4 (⟨v5,v6,v7⟩:X1) (60:N)).bind fun r10=>
 (A4 r10.2 (60:N)).bind fun r11=>
 if C9 v8.length ([(⟨v3,(zB .i64 (r10.1 - (40:N))),(zB .i64 ((zB .i64 (r10.1 - (40:N)))+r11.1))⟩:Xf)]:H Xf).length 24 then(
  (A4 r11.2 (700:N)).bind fun r13=>
  O4 r1 n (zB .i64 ((zB .i64 (v3+(100:N)))+r13.1)) (zB .i64 (v4 - (1:N))) r13.2.b r13.2.i r13.2.h (v8++([(⟨v3,(zB .i64 (r10.1 - (40:N))),(zB .i64 ((zB .i64 (r10.1 - (40:N)))+r11.1))⟩:Xf)]:H Xf)))
 else G)
 else(
 E ((⟨r1.1,v8⟩:Xe),(⟨v5,v6,v7⟩:X1)))
def A19(a0:X1):L (Xe × X1):= (A4g a0).bind fun r1=> (A4 r1.2 (3:N)).bind fun r2=> O4 r1 bigN (0:N) (zB .i64 ((1:N)+r2.1)) r2.2.b r2.2.i r2.2.h ([]:H Xf)
/- spec_l01Once -/
def I3(a0:X1)(a1:N):L (O × X1):= (A4 a0 a1).bind fun r1=> E ((r1.1==(0:N)),r1.2)
/- spec_l05Draw -/
def A00(v15:H N)(v16 v17:N)(v18:H Xb)(v19:H X2):L (X7 × X1):= (I3 (⟨v15,v16,v17⟩:X1) (3:N)).bind fun r20=> if r20.1 then(
 if C9 v18.length ([(⟨([100,111,99,107]:H Q),T⟩:Xb)]:H Xb).length 24 then(
 (A4 r20.2 (300:N)).bind fun r23=>
 if C9 v19.length ([(⟨(2:N),(4:N),(zB .i64 ((800:N)+r23.1)),(15:N),F⟩:X2)]:H X2).length 40 then(
  E ((⟨(v18++([(⟨([100,111,99,107]:H Q),T⟩:Xb)]:H Xb)),(v19++([(⟨(2:N),(4:N),(zB .i64 ((800:N)+r23.1)),(15:N),F⟩:X2)]:H X2))⟩:X7),r23.2))
 else G)
 else G) else(
 E ((⟨v18,v19⟩:X7),r20.2))
def A31(a0:X1):L (X7 × X1):= (I3 a0 (2:N)).bind fun r1=> (A4 r1.2 (300:N)).bind fun r2=> (A4 r2.2 (40:N)).bind fun r3=> (A4 r3.2 (300:N)).bind fun r4=> (A4 r4.2 (30:N)).bind fun r5=> (I3 r5.2 (2:N)).bind fun r6=> (A4 r6.2 (200:N)).bind fun r7=> (A4 r7.2 (20:N)).bind fun r9=> (I3 r9.2 (3:N)).bind fun r10=> if r10.1 then(
 (A4 r10.2 (300:N)).bind fun r12=>
 (A4 r12.2 (30:N)).bind fun r13=>
 if C9 ([(⟨(0:N),(1:N),(zB .i64 ((900:N)+r2.1)),(zB .i64 ((10:N)+r3.1)),F⟩:X2),(⟨(1:N),(2:N),(zB .i64 ((800:N)+r4.1)),(zB .i64 ((10:N)+r5.1)),r6.1⟩:X2),(⟨(2:N),(3:N),(zB .i64 ((900:N)+r7.1)),(zB .i64 ((5:N)+r9.1)),F⟩:X2)]:H X2).length ([(⟨(3:N),(1:N),(zB .i64 ((700:N)+r12.1)),(zB .i64 ((20:N)+r13.1)),T⟩:X2)]:H X2).length 40 then(
 A00 r13.2.b r13.2.i r13.2.h ([(⟨([115,101,97]:H Q),T⟩:Xb),(⟨([98,97,114]:H Q),F⟩:Xb),(⟨([114,111,97,100]:H Q),r1.1⟩:Xb),(⟨([113,117,97,121]:H Q),T⟩:Xb)]:H Xb) (([(⟨(0:N),(1:N),(zB .i64 ((900:N)+r2.1)),(zB .i64 ((10:N)+r3.1)),F⟩:X2),(⟨(1:N),(2:N),(zB .i64 ((800:N)+r4.1)),(zB .i64 ((10:N)+r5.1)),r6.1⟩:X2),(⟨(2:N),(3:N),(zB .i64 ((900:N)+r7.1)),(zB .i64 ((5:N)+r9.1)),F⟩:X2)]:H X2)++([(⟨(3:N),(1:N),(zB .i64 ((700:N)+r12.1)),(zB .i64 ((20:N)+r13.1)),T⟩:X2)]:H X2)))
 else G) else(
 A00 r10.2.b r10.2.i r10.2.h ([(⟨([115,101,97]:H Q),T⟩:Xb),(⟨([98,97,114]:H Q),F⟩:Xb),(⟨([114,111,97,100]:H Q),r1.1⟩:Xb),(⟨([113,117,97,121]:H Q),T⟩:Xb)]:H Xb) ([(⟨(0:N),(1:N),(zB .i64 ((900:N)+r2.1)),(zB .i64 ((10:N)+r3.1)),F⟩:X2),(⟨(1:N),(2:N),(zB .i64 ((800:N)+r4.1)),(zB .i64 ((10:N)+r5.1)),r6.1⟩:X2),(⟨(2:N),(3:N),(zB .i64 ((900:N)+r7.1)),(zB .i64 ((5:N)+r9.1)),F⟩:X2)]:H X2))
/- spec_FormatInt -/
def A22(rec_:N→L (H Q)):P→N→(H Q)→L (H Q)
| 0,_,_=>G
| n+1,v6,v7=>
 if(decide ((9:N)<v6)) then(
 if B6e ([(IntKind.u8.wrap (zB .i64 ((48:N)+(zB .i64 (zA v6 (10:N))))))]:H N).length v7.length then(
  A22 rec_ n (zB .i64 (Z v6 (10:N))) ((U C4x ([(IntKind.u8.wrap (zB .i64 ((48:N)+(zB .i64 (zA v6 (10:N))))))]:H N))++v7))
 else G)
 else(
 if B6e ([(IntKind.u8.wrap (zB .i64 ((48:N)+v6)))]:H N).length v7.length then(
  E ((U C4x ([(IntKind.u8.wrap (zB .i64 ((48:N)+v6)))]:H N))++v7))
 else G)
def A5j(rec_:N→L (H Q))(a0:N):L (H Q):= if(decide (a0<(0:N))) then(
 if((zB .i64 (Z a0 (10:N)))==(0:N)) then(
 if B6e ([45]:H Q).length ([(IntKind.u8.wrap (zB .i64 ((48:N) - a0)))]:H N).length then(
  E (([45]:H Q)++(U C4x ([(IntKind.u8.wrap (zB .i64 ((48:N) - a0)))]:H N))))
 else G)
 else(
 (rec_ (zB .i64 (Z a0 (10:N)))).bind fun r4=>
 if B6e r4.length ([(IntKind.u8.wrap (zB .i64 ((48:N) - (zB .i64 (zA a0 (10:N))))))]:H N).length then(
  E (r4++(U C4x ([(IntKind.u8.wrap (zB .i64 ((48:N) - (zB .i64 (zA a0 (10:N))))))]:H N))))
 else G)) else(
 A22 rec_ bigN a0 ([]:H Q))
def A04:P→N→L (H Q)
| 0,_=>G
| n+1,a0=>A5j (A04 n) a0
def A6o(a0:N):L (H Q):=A04 bigN a0
/- spec_l06Ship -/
def A18(a0:X1)(a1:N):L (Xa × X1):= (A6o a1).bind fun r1=> if B6e ([115]:H Q).length r1.length then(
 (A4 a0 (200:N)).bind fun r3=>
 (A4 r3.2 (500:N)).bind fun r4=>
 (A4 r4.2 (4:N)).bind fun r5=>
 (A4 r5.2 (3:N)).bind fun r6=>
 (I3 r6.2 (4:N)).bind fun r7=>
 E ((⟨(([115]:H Q)++r1),(zB .i64 ((40:N)+r3.1)),(zB .i64 ((600:N)+r4.1)),r5.1,r6.1,r7.1⟩:Xa),r7.2)) else G
/- spec_l06Fleet -/
def T9:P→N→(H N)→N→N→(H Xa)→L ((H Xa) × X1)
| 0,_,_,_,_,_=>G
| n+1,v2,v3,v4,v5,v6=>
 if(decide ((0:N)<v2)) then(
 (A18 (⟨v3,v4,v5⟩:X1) (v6.length:N)).bind fun r9=>
 if C9 v6.length ([r9.1]:H Xa).length 56 then(
  T9 n (zB .i64 (v2 - (1:N))) r9.2.b r9.2.i r9.2.h (v6++([r9.1]:H Xa)))
 else G)
 else(
 E (v6,(⟨v3,v4,v5⟩:X1)))
def A3k(a0:X1)(a1:N):L ((H Xa) × X1):= (A4 a0 a1).bind fun r1=> T9 bigN (zB .i64 ((1:N)+r1.1)) r1.2.b r1.2.i r1.2.h ([]:H Xa)
/- spec_l09Regime -/
def A2m(a0:X1):L (Xk × X1):= (A4 a0 (30:N)).bind fun r1=> (I3 r1.2 (4:N)).bind fun r2=> E ((⟨r1.1,r2.1⟩:Xk),r2.2)
/- spec_StayingMoves -/
def A2u:L (H N):= (mkS (64:N) (64:N) 8).bind fun n1=> E (I n1 (0:N))
/- spec_l13Moves -/
def P4(r1:(H N)):P→N→(H N)→N→N→(H N)→L ((H N) × X1)
| 0,_,_,_,_,_=>G
| n+1,v2,v3,v4,v5,v6=>
 if(decide (v2<(r1.length:N))) then(
 if((zB .i64 (zA v2 (9:N))) !=(0:N)) then(
  (A4 (⟨v3,v4,v5⟩:X1) (5:N)).bind fun r9=>
  (ix v6 v2).bind fun x10=>
  P4 r1 n (zB .i64 (v2+(1:N))) r9.2.b r9.2.i r9.2.h (v6.set (W v2) (zB .i64 ((5:N)*r9.1))))
 else(
  P4 r1 n (zB .i64 (v2+(1:N))) v3 v4 v5 v6))
 else(
 E (v6,(⟨v3,v4,v5⟩:X1)))
def A3n(a0:X1):L ((H N) × X1):= (A2u).bind fun r1=> P4 r1 bigN (0:N) a0.b a0.i a0.h r1
/- spec_l14Crew -/
def A32(a0:X1):L (Xo × X1):= (A4 a0 (4:N)).bind fun r1=> (A4 r1.2 (3:N)).bind fun r2=> (A4 r2.2 (60:N)).bind fun r3=> (A3n r3.2).bind fun r4=> E ((⟨(zB .i64 ((1:N)+r1.1)),(zB .i64 ((1:N)+r2.1)),r3.1,r4.1⟩:Xo),r4.2)
/- spec_l15Harbour -/
def Q2(r3:(H Xa) × X1)(r5:Xo × X1)(r1:Xe × X1)(r2:X7 × X1)(r4:Xk × X1)(y7:N):P→N→(H Xa)→L (X4 × X1)
| 0,_,_=>G
| n+1,v6,v8=>
 if(decide (v6<(r3.1.length:N))) then(
 (ix v8 v6).bind fun x10=>
 Q2 r3 r5 r1 r2 r4 y7 n (zB .i64 (v6+(1:N))) (v8.set (W v6) (⟨x10.Name,x10.Length,x10.Draught,x10.Line,(if(1:N)<x10.Tugs then(1:N) else x10.Tugs),x10.Slow⟩:Xa)))
 else(
 E ((⟨(⟨(⟨y7,r1.1.Tide.Parts⟩:Xl),r1.1.Surges⟩:Xe),r2.1,v8,r4.1,r5.1⟩:X4),r5.2))
def A1p(a0:X1):L (X4 × X1):= (A19 a0).bind fun r1=> (A31 r1.2).bind fun r2=> (A3k r2.2 (3:N)).bind fun r3=> (A2m r3.2).bind fun r4=> (A32 r4.2).bind fun r5=> Q2 r3 r5 r1 r2 r4 (zB .i64 (r1.1.Tide.Mean+(150:N))) bigN (0:N) r3.1
/- spec_l15Call -/
def A2s(r2:O × X1)(a1 v4:N)(v5 v6:N):L (X9 × X1):= (A4 r2.2 (400:N)).bind fun r7=> E ((⟨a1,v4,v5,v6,(zB .i64 ((zB .i64 (v6+(60:N)))+r7.1))⟩:X9),r7.2)
def A15(a0:X1)(a1:N):L (X9 × X1):= (A4 a0 (30:N)).bind fun r1=> (I3 r1.2 (3:N)).bind fun r2=> if r2.1 then(
 A2s r2 a1 (3:N) (0:N) (zB .i64 ((15:N)*r1.1))) else(
 A2s r2 a1 (0:N) (3:N) (zB .i64 ((15:N)*r1.1)))
/- spec_l16Case -/
def S7(v2:N)(r1:X4 × X1)(v6:H X9)(A2t:N→(H N)→N→N→(H X9)→L (X4 × (H X9) × X1))(v10:O)(v11:H N)(v12 v13:N):L (X4 × (H X9) × X1):= if v10 then(
 (A15 (⟨v11,v12,v13⟩:X1) v2).bind fun r15=>
 if C9 v6.length ([r15.1]:H X9).length 40 then(
 A2t (zB .i64 (v2+(1:N))) r15.2.b r15.2.i r15.2.h (v6++([r15.1]:H X9)))
 else G) else(
 A2t (zB .i64 (v2+(1:N))) v11 v12 v13 v6)
def I2(r1:X4 × X1):P→N→(H N)→N→N→(H X9)→L (X4 × (H X9) × X1)
| 0,_,_,_,_,_=>G
| n+1,v2,v3,v4,v5,v6=>
 if(decide (v2<(r1.1.Fleet.length:N))) then(
 if(v2==(0:N)) then(
  S7 v2 r1 v6 (I2 r1 n) T v3 v4 v5)
 else(
  (I3 (⟨v3,v4,v5⟩:X1) (4:N)).bind fun r9=>
  S7 v2 r1 v6 (I2 r1 n) (!r9.1) r9.2.b r9.2.i r9.2.h))
 else(
 E (r1.1,v6,(⟨v3,v4,v5⟩:X1)))
def A5y(a0:X1):L (X4 × (H X9) × X1):= (A1p a0).bind fun r1=> I2 r1 bigN (0:N) r1.2.b r1.2.i r1.2.h ([]:H X9)
/- spec_MakeCalls -/
def A2c(a0:H N):L (X4 × (H X9)):= (A4w a0).bind fun r1=> (A5y r1).bind fun r2=> E (r2.1,r2.2.1)
/- impl_within -/
def E0(a0 a1 a2:N):L O:= if(decide (a1≤a0)) then(
 E (decide (a0≤a2))) else(
 E F)
/- impl_isPeriod -/
def A1i(a0:N):L O:= (E0 a0 (4:N) (2880:N)).bind fun r1=> if r1 then(
 E ((zB .i64 (zA a0 (4:N)))==(0:N))) else(
 E F)
/- impl_PartOk -/
def A4v(a0:Xi):L O:= (E0 a0.Amp (0:N) (1000:N)).bind fun r1=> if r1 then(
 (A1i a0.Period).bind fun r3=>
 if r3 then(
 (E0 a0.Phase (0:N) (zB .i64 (a0.Period - (1:N)))).bind fun r5=>
 E r5)
 else(
 E F)) else(
 E F)
/- impl_TideOk -/
def Y9(a0:Xl):P→N→L O
| 0,_=>G
| n+1,v4=>
 if(decide (v4<(a0.Parts.length:N))) then(
 (ix a0.Parts v4).bind fun x6=>
 (A4v x6).bind fun r7=>
 if r7 then(
  Y9 a0 n (zB .i64 (v4+(1:N))))
 else(
  E F))
 else(
 E T)
def A4x(a0:Xl):L O:= (E0 a0.Mean (-1000:N) (1000:N)).bind fun r1=> if r1 then(
 if(decide ((4:N)<(a0.Parts.length:N))) then(
 E F)
 else(
 Y9 a0 bigN (0:N))) else(
 E F)
/- impl_isMinute -/
def I0(a0:N):L O:= (E0 a0 (0:N) (2880:N)).bind fun r1=> E r1
/- impl_SurgeOk -/
def A4f(a0:Xf):L O:= (I0 a0.From).bind fun r1=> if r1 then(
 if(decide ((-500:N)≤a0.Low)) then(
 if(decide (a0.Low≤a0.High)) then(
  E (decide (a0.High≤(500:N))))
 else(
  E F))
 else(
 E F)) else(
 E F)
/- impl_ForecastOk -/
def M7(a0:Xe):P→N→L O
| 0,_=>G
| n+1,v7=>
 if(decide (v7<(a0.Surges.length:N))) then(
 (ix a0.Surges v7).bind fun x9=>
 (A4f x9).bind fun r10=>
 if r10 then(
  if(decide ((0:N)<v7)) then(
  (ix a0.Surges (zB .i64 (v7 - (1:N)))).bind fun x13=>
  if(decide (x9.From≤x13.From)) then(
   E F)
  else(
   M7 a0 n (zB .i64 (v7+(1:N)))))
  else(
  M7 a0 n (zB .i64 (v7+(1:N)))))
 else(
  E F))
 else(
 E T)
def P5(a0:Xe):L O:= (A4x a0.Tide).bind fun r1=> if r1 then(
 (E0 (a0.Surges.length:N) (1:N) (6:N)).bind fun r3=>
 if r3 then(
 (ix a0.Surges (0:N)).bind fun x5=>
 if(x5.From !=(0:N)) then(
  E F)
 else(
  M7 a0 bigN (0:N)))
 else(
 E F)) else(
 E F)
/- impl_IsName -/
def A29(a0:H Q)(v3:N)(K4:N→L O):L O:= K4 (zB .i64 (v3+(1:N)))
def A3e(a0:H Q)(v3:N)(K4:N→L O)(v7:O):L O:= if v7 then(
 A29 a0 v3 K4) else(
 if(v3==(0:N)) then(
 E F)
 else(
 (ix a0 v3).bind fun b10=>
 if(decide ((b10.toNat:N)<(48:N))) then(
  E F)
 else(
  if(decide ((57:N)<(b10.toNat:N))) then(
  E F)
  else(
  A29 a0 v3 K4))))
def N7(a0:H Q):P→N→L O
| 0,_=>G
| n+1,v3=>
 if(decide (v3<(a0.length:N))) then(
 (ix a0 v3).bind fun b5=>
 if(decide ((97:N)≤(b5.toNat:N))) then(
  A3e a0 v3 (N7 a0 n) (decide ((b5.toNat:N)≤(122:N))))
 else(
  A3e a0 v3 (N7 a0 n) F))
 else(
 E T)
def A21(a0:H Q):L O:= (E0 (a0.length:N) (1:N) (8:N)).bind fun r1=> if r1 then(
 N7 a0 bigN (0:N)) else(
 E F)
/- impl_PointNamed -/
def Q0(a1:H Q)(a0:X7):P→N→L N
| 0,_=>G
| n+1,v1=>
 if(decide (v1<(a0.Points.length:N))) then(
 (ix a0.Points v1).bind fun x3=>
 if(x3.Name==a1) then(
  E v1)
 else(
  Q0 a1 a0 n (zB .i64 (v1+(1:N)))))
 else(
 E (-1:N))
def A1t(a0:X7)(a1:H Q):L N:= Q0 a1 a0 bigN (0:N)
/- impl_isIndex -/
def D2(a0 a1:N):L O:= if(decide ((0:N)≤a0)) then(
 E (decide (a0<a1))) else(
 E F)
/- impl_Segment_joins -/
def Z7(a0:X2)(a1 a2:N):L O:= if(a0.A==a1) then(
 if(a0.B==a2) then(
 E T)
 else(
 if(a0.A==a2) then(
  E (a0.B==a1))
 else(
  E F))) else(
 if(a0.A==a2) then(
 E (a0.B==a1))
 else(
 E F))
/- impl_ChartOk -/
def V7(a0:X7)(v11:N)(x13:X2)(y24:H X2)(y25:N)(A2r:N→L O):P→N→L O
| 0,_=>G
| n+1,v26=>
 if(decide (v26<y25)) then(
 (ix y24 v26).bind fun x28=>
 (Z7 x28 x13.A x13.B).bind fun r29=>
 if r29 then(
  E F)
 else(
  V7 a0 v11 x13 y24 y25 A2r n (zB .i64 (v26+(1:N)))))
 else(
 A2r (zB .i64 (v11+(1:N))))
def K5(a0:X7):P→N→L O
| 0,_=>G
| n+1,v11=>
 if(decide (v11<(a0.Segments.length:N))) then(
 (ix a0.Segments v11).bind fun x13=>
 (D2 x13.A (a0.Points.length:N)).bind fun r14=>
 if r14 then(
  (D2 x13.B (a0.Points.length:N)).bind fun r16=>
  if r16 then(
  if(x13.A==x13.B) then(
   E F)
  else(
   (E0 x13.Depth (0:N) (3000:N)).bind fun r19=>
   if r19 then(
   (E0 x13.Minutes (1:N) (240:N)).bind fun r21=>
   if r21 then(
    (bnd (a0.Segments.length:N) v11 (0:N) a0.Segments.length).bind fun p23=>
    V7 a0 v11 x13 ((a0.Segments.drop p23.1).take (p23.2 - p23.1)) (((a0.Segments.drop p23.1).take (p23.2 - p23.1)).length:N) (K5 a0 n) bigN (0:N))
   else(
    E F))
   else(
   E F)))
  else(
  E F))
 else(
  E F))
 else(
 E T)
def V6(a0:X7):P→N→L O
| 0,_=>G
| n+1,v3=>
 if(decide (v3<(a0.Points.length:N))) then(
 (ix a0.Points v3).bind fun x5=>
 (A21 x5.Name).bind fun r6=>
 if r6 then(
  (A1t a0 x5.Name).bind fun r9=>
  if(r9 !=v3) then(
  E F)
  else(
  V6 a0 n (zB .i64 (v3+(1:N)))))
 else(
  E F))
 else(
 K5 a0 bigN (0:N))
def L7(a0:X7):L O:= if(decide ((8:N)<(a0.Points.length:N))) then(
 E F) else(
 if(decide ((10:N)<(a0.Segments.length:N))) then(
 E F)
 else(
 V6 a0 bigN (0:N)))
/- impl_ShipOk -/
def S9(a0:Xa):L O:= (A21 a0.Name).bind fun r1=> if r1 then(
 (E0 a0.Length (10:N) (400:N)).bind fun r3=>
 if r3 then(
 (E0 a0.Draught (100:N) (2000:N)).bind fun r5=>
 if r5 then(
  (D2 a0.Line (4:N)).bind fun r7=>
  if r7 then(
  (E0 a0.Tugs (0:N) (4:N)).bind fun r9=>
  E r9)
  else(
  E F))
 else(
  E F))
 else(
 E F)) else(
 E F)
/- impl_ShipNamed -/
def S6(a1:H Q)(a0:H Xa):P→N→L N
| 0,_=>G
| n+1,v1=>
 if(decide (v1<(a0.length:N))) then(
 (ix a0 v1).bind fun x3=>
 if(x3.Name==a1) then(
  E v1)
 else(
  S6 a1 a0 n (zB .i64 (v1+(1:N)))))
 else(
 E (-1:N))
def A2p(a0:H Xa)(a1:H Q):L N:= S6 a1 a0 bigN (0:N)
/- impl_FleetOk -/
def V8(a0:H Xa):P→N→L O
| 0,_=>G
| n+1,v2=>
 if(decide (v2<(a0.length:N))) then(
 (ix a0 v2).bind fun x4=>
 (S9 x4).bind fun r5=>
 if r5 then(
  (A2p a0 x4.Name).bind fun r7=>
  if(r7 !=v2) then(
  E F)
  else(
  V8 a0 n (zB .i64 (v2+(1:N)))))
 else(
  E F))
 else(
 E T)
def A12(a0:H Xa):L O:= if(decide ((6:N)<(a0.length:N))) then(
 E F) else(
 V8 a0 bigN (0:N))
/- impl_RegimeOk -/
def A5e(a0:Xk):L O:= (E0 a0.Gap (0:N) (60:N)).bind fun r1=> E r1
/- impl_movesOk -/
def R9(a0:H N):P→N→L O
| 0,_=>G
| n+1,v2=>
 if(decide (v2<(a0.length:N))) then(
 (ix a0 v2).bind fun x4=>
 (E0 x4 (0:N) (240:N)).bind fun r5=>
 if r5 then(
  R9 a0 n (zB .i64 (v2+(1:N))))
 else(
  E F))
 else(
 E T)
def W4(a0:H N):L O:= if((a0.length:N) !=(64:N)) then(
 E F) else(
 R9 a0 bigN (0:N))
/- impl_CrewOk -/
def A4y(a0:Xo):L O:= (E0 a0.Tugs (0:N) (12:N)).bind fun r1=> if r1 then(
 (E0 a0.Pilots (0:N) (12:N)).bind fun r3=>
 if r3 then(
 (I0 a0.Rest).bind fun r5=>
 if r5 then(
  (W4 a0.Moves).bind fun r7=>
  E r7)
 else(
  E F))
 else(
 E F)) else(
 E F)
/- impl_HarbourOk -/
def A0w(a0:X4):L O:= (P5 a0.Forecast).bind fun r1=> if r1 then(
 (L7 a0.Chart).bind fun r3=>
 if r3 then(
 (A12 a0.Fleet).bind fun r5=>
 if r5 then(
  (A5e a0.Regime).bind fun r7=>
  if r7 then(
  (A4y a0.Crew).bind fun r9=>
  E r9)
  else(
  E F))
 else(
  E F))
 else(
 E F)) else(
 E F)
/- impl_callOk -/
def A2x(a0:X4)(a1:X9):L O:= (D2 a1.Ship (a0.Fleet.length:N)).bind fun r1=> if r1 then(
 (D2 a1.From (a0.Chart.Points.length:N)).bind fun r3=>
 if r3 then(
 (D2 a1.To (a0.Chart.Points.length:N)).bind fun r5=>
 if r5 then(
  if(a1.From !=a1.To) then(
  (I0 a1.Ready).bind fun r9=>
  if r9 then(
   (E0 a1.Due a1.Ready (2880:N)).bind fun r11=>
   E r11)
  else(
   E F))
  else(
  E F))
 else(
  E F))
 else(
 E F)) else(
 E F)
/- impl_CallsOk -/
def V5(a1:H X9)(v4:N)(a0:X4)(x6:X9)(y10:H X9)(y11:N)(A2d:N→L O):P→N→L O
| 0,_=>G
| n+1,v12=>
 if(decide (v12<y11)) then(
 (ix y10 v12).bind fun x14=>
 if(x14.Ship==x6.Ship) then(
  E F)
 else(
  V5 a1 v4 a0 x6 y10 y11 A2d n (zB .i64 (v12+(1:N)))))
 else(
 A2d (zB .i64 (v4+(1:N))))
def O3(a1:H X9)(a0:X4):P→N→L O
| 0,_=>G
| n+1,v4=>
 if(decide (v4<(a1.length:N))) then(
 (ix a1 v4).bind fun x6=>
 (A2x a0 x6).bind fun r7=>
 if r7 then(
  (bnd (a1.length:N) v4 (0:N) a1.length).bind fun p9=>
  V5 a1 v4 a0 x6 ((a1.drop p9.1).take (p9.2 - p9.1)) (((a1.drop p9.1).take (p9.2 - p9.1)).length:N) (O3 a1 a0 n) bigN (0:N))
 else(
  E F))
 else(
 E T)
def T2(a0:X4)(a1:H X9):L O:= (A0w a0).bind fun r1=> if r1 then(
 if(decide ((6:N)<(a1.length:N))) then(
 E F)
 else(
 O3 a1 a0 bigN (0:N))) else(
 E F)
/- impl_CallOk -/
def A2z(a0:X4)(a1:X9):L O:= (A0w a0).bind fun r1=> if r1 then(
 (A2x a0 a1).bind fun r3=>
 E r3) else(
 E F)
/- impl_clone_int -/
def D0(a0:H N):L (H N):= (mkS (0:N) (a0.length:N) 8).bind fun n1=> if C9 (I n1 (0:N)).length a0.length 8 then(
 E ((I n1 (0:N))++a0)) else G
/- impl_Segment_end -/
def W8(a0:X2)(a1:N):L N:= if(a1==a0.A) then(
 E a0.B) else(
 if(a1==a0.B) then(
 E a0.A)
 else(
 E (-1:N)))
/- impl_Chart_routesFrom -/
def J5(rec_:X7→N→N→(H N)→X6→(H (H N))→L (H (H N)))(a1 a2:N)(a3:H N)(v6 r11:N)(a0:X7)(y7:X6)(v8:H (H N))(Q9:N→(H (H N))→L (H (H N)))(v16:O):L (H (H N)):= if v16 then(
 (D0 a3).bind fun r18=>
 if C9 r18.length ([v6]:H N).length 8 then(
 (rec_ a0 r11 a2 (r18++([v6]:H N)) y7 v8).bind fun r20=>
 Q9 (zB .i64 (v6+(1:N))) r20)
 else G) else(
 Q9 (zB .i64 (v6+(1:N))) v8)
def E4(rec_:X7→N→N→(H N)→X6→(H (H N))→L (H (H N)))(a1 a2:N)(a3:H N)(a0:X7)(y7:X6):P→N→(H (H N))→L (H (H N))
| 0,_,_=>G
| n+1,v6,v8=>
 if(decide (v6<(a0.Segments.length:N))) then(
 (ix a0.Segments v6).bind fun x10=>
 (W8 x10 a1).bind fun r11=>
 if(decide ((0:N)≤r11)) then(
  if decide ((0:N)≤r11)&&decide (r11<(8:N)) then(
  (ix ([y7.i0,y7.i1,y7.i2,y7.i3,y7.i4,y7.i5,y7.i6,y7.i7]:H O) r11).bind fun x14=>
  J5 rec_ a1 a2 a3 v6 r11 a0 y7 v8 (E4 rec_ a1 a2 a3 a0 y7 n) (!x14))
  else G)
 else(
  J5 rec_ a1 a2 a3 v6 r11 a0 y7 v8 (E4 rec_ a1 a2 a3 a0 y7 n) F))
 else(
 E v8)
def W9(rec_:X7→N→N→(H N)→X6→(H (H N))→L (H (H N)))(a0:X7)(a1 a2:N)(a3:H N)(a4:X6)(a5:H (H N)):L (H (H N)):= if(a1==a2) then(
 (D0 a3).bind fun r2=>
 if C9 a5.length ([r2]:H (H N)).length 24 then(
 E (a5++([r2]:H (H N))))
 else G) else(
 if decide ((0:N)≤a1)&&decide (a1<(8:N)) then(
 E4 rec_ a1 a2 a3 a0 (⟨((X6.set a4 (W a1) T)).i0,((X6.set a4 (W a1) T)).i1,((X6.set a4 (W a1) T)).i2,((X6.set a4 (W a1) T)).i3,((X6.set a4 (W a1) T)).i4,((X6.set a4 (W a1) T)).i5,((X6.set a4 (W a1) T)).i6,((X6.set a4 (W a1) T)).i7⟩:X6) bigN (0:N) a5)
 else G)
def G4:P→X7→N→N→(H N)→X6→(H (H N))→L (H (H N))
| 0,_,_,_,_,_,_=>G
| n+1,a0,a1,a2,a3,a4,a5=>W9 (G4 n) a0 a1 a2 a3 a4 a5
def A2w(a0:X7)(a1 a2:N)(a3:H N)(a4:X6)(a5:H (H N)):L (H (H N)):=G4 bigN a0 a1 a2 a3 a4 a5
/- impl_RoutesBetween -/
def Y8(a0:X7)(a1 a2:N):L (H (H N)):= (L7 a0).bind fun r1=> if r1 then(
 (D2 a1 (a0.Points.length:N)).bind fun r3=>
 if r3 then(
 (D2 a2 (a0.Points.length:N)).bind fun r5=>
 if r5 then(
  (A2w a0 a1 a2 ([]:H N) (⟨F,F,F,F,F,F,F,F⟩:X6) ([]:H (H N))).bind fun r7=>
  E r7)
 else(
  E ([]:H (H N))))
 else(
 E ([]:H (H N)))) else(
 E ([]:H (H N)))
/- impl_RouteMinutes -/
def H6(a1:H N)(a0:X7):P→N→N→L N
| 0,_,_=>G
| n+1,v3,v4=>
 if(decide (v4<(a1.length:N))) then(
 (ix a1 v4).bind fun x6=>
 (D2 x6 (a0.Segments.length:N)).bind fun r7=>
 if r7 then(
  (ix a0.Segments x6).bind fun x9=>
  H6 a1 a0 n (zB .i64 (v3+x9.Minutes)) (zB .i64 (v4+(1:N))))
 else(
  E (-1:N)))
 else(
 E v3)
def L0(a0:X7)(a1:H N):L N:= (L7 a0).bind fun r1=> if r1 then(
 H6 a1 a0 bigN (0:N) (0:N)) else(
 E (-1:N))
/- impl_BestRoute -/
def O1(r1:(H (H N)))(a0:X7):P→(H N)→N→L ((H N) × O)
| 0,_,_=>G
| n+1,v4,v5=>
 if(decide (v5<(r1.length:N))) then(
 (ix r1 v5).bind fun x7=>
 (L0 a0 x7).bind fun r9=>
 (L0 a0 v4).bind fun r10=>
 if(decide (r9<r10)) then(
  O1 r1 a0 n x7 (zB .i64 (v5+(1:N))))
 else(
  O1 r1 a0 n v4 (zB .i64 (v5+(1:N)))))
 else(
 E (v4,T))
def A2k(a0:X7)(a1 a2:N):L ((H N) × O):= (Y8 a0 a1 a2).bind fun r1=> if((r1.length:N)==(0:N)) then(
 E (([]:H N),F)) else(
 (ix r1 (0:N)).bind fun x3=>
 O1 r1 a0 bigN x3 (0:N))
/- impl_Chart_points -/
def N2(r14:N)(a2:H N)(v6:N)(a0:X7)(v7:X6)(v8:H N)(A1j:N→N→X6→(H N)→L ((H N) × O))(v19:O):L ((H N) × O):= if v19 then(
 E (([]:H N),F)) else(
 if decide ((0:N)≤r14)&&decide (r14<(8:N)) then(
 if C9 v8.length ([r14]:H N).length 8 then(
  A1j r14 (zB .i64 (v6+(1:N))) (⟨((X6.set v7 (W r14) T)).i0,((X6.set v7 (W r14) T)).i1,((X6.set v7 (W r14) T)).i2,((X6.set v7 (W r14) T)).i3,((X6.set v7 (W r14) T)).i4,((X6.set v7 (W r14) T)).i5,((X6.set v7 (W r14) T)).i6,((X6.set v7 (W r14) T)).i7⟩:X6) (v8++([r14]:H N)))
 else G)
 else G)
def H7(a2:H N)(a0:X7):P→N→N→X6→(H N)→L ((H N) × O)
| 0,_,_,_,_=>G
| n+1,v5,v6,v7,v8=>
 if(decide (v6<(a2.length:N))) then(
 (ix a2 v6).bind fun x10=>
 (D2 x10 (a0.Segments.length:N)).bind fun r11=>
 if r11 then(
  (ix a0.Segments x10).bind fun x13=>
  (W8 x13 v5).bind fun r14=>
  if(decide (r14<(0:N))) then(
  N2 r14 a2 v6 a0 v7 v8 (H7 a2 a0 n) T)
  else(
  if decide ((0:N)≤r14)&&decide (r14<(8:N)) then(
   (ix ([v7.i0,v7.i1,v7.i2,v7.i3,v7.i4,v7.i5,v7.i6,v7.i7]:H O) r14).bind fun x17=>
   N2 r14 a2 v6 a0 v7 v8 (H7 a2 a0 n) x17)
  else G))
 else(
  E (([]:H N),F)))
 else(
 E (v8,T))
def P9(a0:X7)(a1:N)(a2:H N):L ((H N) × O):= (D2 a1 (a0.Points.length:N)).bind fun r1=> if r1 then(
 if decide ((0:N)≤a1)&&decide (a1<(8:N)) then(
 H7 a2 a0 bigN a1 (0:N) (⟨((X6.set (⟨F,F,F,F,F,F,F,F⟩:X6) (W a1) T)).i0,((X6.set (⟨F,F,F,F,F,F,F,F⟩:X6) (W a1) T)).i1,((X6.set (⟨F,F,F,F,F,F,F,F⟩:X6) (W a1) T)).i2,((X6.set (⟨F,F,F,F,F,F,F,F⟩:X6) (W a1) T)).i3,((X6.set (⟨F,F,F,F,F,F,F,F⟩:X6) (W a1) T)).i4,((X6.set (⟨F,F,F,F,F,F,F,F⟩:X6) (W a1) T)).i5,((X6.set (⟨F,F,F,F,F,F,F,F⟩:X6) (W a1) T)).i6,((X6.set (⟨F,F,F,F,F,F,F,F⟩:X6) (W a1) T)).i7⟩:X6) ([a1]:H N))
 else G) else(
 E (([]:H N),F))
/- impl_RoutePoints -/
def M0(a0:X7)(a1:N)(a2:H N):L (H N):= (L7 a0).bind fun r1=> if r1 then(
 (P9 a0 a1 a2).bind fun r3=>
 E r3.1) else(
 E ([]:H N))
/- impl_RouteOk -/
def A0z(a0:X7)(a1:N)(a2:H N):L O:= (L7 a0).bind fun r1=> if r1 then(
 (P9 a0 a1 a2).bind fun r3=>
 E r3.2) else(
 E F)
/- impl_Ship_minutes -/
def K9(a0:Xa)(a1:X2):L N:= if a0.Slow then(
 E (zB .i64 ((2:N)*a1.Minutes))) else(
 E a1.Minutes)
/- impl_onSegment -/
def A0x(a0:X7)(a1:N)(a2:Xa):L O:= (L7 a0).bind fun r1=> if r1 then(
 (S9 a2).bind fun r3=>
 if r3 then(
 (D2 a1 (a0.Segments.length:N)).bind fun r5=>
 E r5)
 else(
 E F)) else(
 E F)
/- impl_Ship_squat -/
def A3z(a0:Xa):L N:= if a0.Slow then(
 E (zB .i64 (Z a0.Draught (50:N)))) else(
 E (zB .i64 (Z a0.Draught (20:N))))
/- impl_Ship_need -/
def A4n(a0:Xa):L N:= (A3z a0).bind fun r1=> E (zB .i64 ((zB .i64 (a0.Draught+r1))+(50:N)))
/- impl_LevelFor -/
def A3j(a0:X7)(a1:N)(a2:Xa):L N:= (A0x a0 a1 a2).bind fun r1=> if r1 then(
 (A4n a2).bind fun r3=>
 (ix a0.Segments a1).bind fun x4=>
 E (zB .i64 (r3 - x4.Depth))) else(
 E (0:N))
/- impl_windowsOf -/
def S3(a0:N→L O)(v2:N)(K1:O→N→(H X8)→L (H X8))(v11:O)(v12:H X8):L (H X8):= K1 v11 (zB .i64 (v2+(1:N))) v12
def W3(a0:N→L O)(v2:N)(K1:O→N→(H X8)→L (H X8))(v9:H X8):L (H X8):= (ix v9 (zB .i64 ((v9.length:N) - (1:N)))).bind fun x10=> S3 a0 v2 K1 T (v9.set (W (zB .i64 ((v9.length:N) - (1:N)))) (⟨x10.From,v2⟩:X8))
def H3(a0:N→L O):P→O→N→(H X8)→L (H X8)
| 0,_,_,_=>G
| n+1,v1,v2,v3=>
 if(decide (v2≤(2880:N))) then(
 (a0 v2).bind fun r5=>
 if r5 then(
  if v1 then(
  W3 a0 v2 (H3 a0 n) v3)
  else(
  if C9 v3.length ([(⟨v2,(0:N)⟩:X8)]:H X8).length 16 then(
   W3 a0 v2 (H3 a0 n) (v3++([(⟨v2,(0:N)⟩:X8)]:H X8)))
  else G))
 else(
  S3 a0 v2 (H3 a0 n) F v3))
 else(
 E v3)
def A4p(a0:N→L O):L (H X8):= H3 a0 bigN F (0:N) ([]:H X8)
/- impl_Wave -/
def A6b(a0 a1:N):L N:= (A1i a1).bind fun r1=> if r1 then(
 if a1==0 then G else
 if a1==0 then G else
 if(decide ((zB .i64 (Z a1 (2:N)))≤(zB .i64 (zA (zB .i64 ((zB .i64 (zA a0 a1))+a1)) a1)))) then(
 if(zB .i64 ((zB .i64 (Z a1 (2:N)))*(zB .i64 (Z a1 (2:N)))))==0 then G else
 E (zB .i64 (0 - (zB .i64 (Z (zB .i64 ((zB .i64 ((40000:N)*(zB .i64 ((zB .i64 (zA (zB .i64 ((zB .i64 (zA a0 a1))+a1)) a1)) - (zB .i64 (Z a1 (2:N)))))))*(zB .i64 ((zB .i64 (Z a1 (2:N))) - (zB .i64 ((zB .i64 (zA (zB .i64 ((zB .i64 (zA a0 a1))+a1)) a1)) - (zB .i64 (Z a1 (2:N))))))))) (zB .i64 ((zB .i64 (Z a1 (2:N)))*(zB .i64 (Z a1 (2:N))))))))))
 else(
 if(zB .i64 ((zB .i64 (Z a1 (2:N)))*(zB .i64 (Z a1 (2:N)))))==0 then G else
 E (zB .i64 (Z (zB .i64 ((zB .i64 ((40000:N)*(zB .i64 (zA (zB .i64 ((zB .i64 (zA a0 a1))+a1)) a1))))*(zB .i64 ((zB .i64 (Z a1 (2:N))) - (zB .i64 (zA (zB .i64 ((zB .i64 (zA a0 a1))+a1)) a1)))))) (zB .i64 ((zB .i64 (Z a1 (2:N)))*(zB .i64 (Z a1 (2:N))))))))) else(
 E (0:N))
/- impl_Tide_level -/
def P8(a1:N)(a0:Xl):P→N→N→L N
| 0,_,_=>G
| n+1,v1,v2=>
 if(decide (v2<(a0.Parts.length:N))) then(
 (ix a0.Parts v2).bind fun x4=>
 (A6b (zB .i64 (a1+x4.Phase)) x4.Period).bind fun r5=>
 P8 a1 a0 n (zB .i64 (v1+(zB .i64 (Z (zB .i64 (x4.Amp*r5)) (10000:N))))) (zB .i64 (v2+(1:N))))
 else(
 E v1)
def A3x(a0:Xl)(a1:N):L N:= P8 a1 a0 bigN a0.Mean (0:N)
/- impl_Forecast_surge -/
def H9(a1:N)(a0:Xe):P→N→N→L N
| 0,_,_=>G
| n+1,v1,v2=>
 if(decide (v2<(a0.Surges.length:N))) then(
 (ix a0.Surges v2).bind fun x4=>
 if(decide (x4.From≤a1)) then(
  H9 a1 a0 n v2 (zB .i64 (v2+(1:N))))
 else(
  H9 a1 a0 n v1 (zB .i64 (v2+(1:N)))))
 else(
 E v1)
def A1e(a0:Xe)(a1:N):L N:= H9 a1 a0 bigN (0:N) (0:N)
/- impl_Forecast_low -/
def M8(a0:Xe)(a1:N):L N:= (A3x a0.Tide a1).bind fun r1=> (A1e a0 a1).bind fun r2=> (ix a0.Surges r2).bind fun x3=> E (zB .i64 (r1+x3.Low))
/- impl_LowWindows_1 -/
def A0m(a0:N)(c0:Xe)(c1:N):L O:= (M8 c0 a0).bind fun r1=> E (decide (c1≤r1))
/- impl_LowWindows -/
def A3u(a0:Xe)(a1:N):L (H X8):= (P5 a0).bind fun r1=> if r1 then(
 (A4p (fun z0=>A0m z0 a0 a1)).bind fun r3=>
 E r3) else(
 E ([]:H X8))
/- impl_MinutesOn -/
def A4m(a0:X7)(a1:N)(a2:Xa):L N:= (L7 a0).bind fun r1=> if r1 then(
 (S9 a2).bind fun r3=>
 if r3 then(
 (D2 a1 (a0.Segments.length:N)).bind fun r5=>
 if r5 then(
  (ix a0.Segments a1).bind fun x7=>
  (K9 a2 x7).bind fun r9=>
  E r9)
 else(
  E (0:N)))
 else(
 E (0:N))) else(
 E (0:N))
/- impl_WindowsOk -/
def N8(a0:H X8):P→N→L O
| 0,_=>G
| n+1,v1=>
 if(decide (v1<(a0.length:N))) then(
 (ix a0 v1).bind fun x3=>
 if(decide (x3.From<(0:N))) then(
  E F)
 else(
  if(decide (x3.To<x3.From)) then(
  E F)
  else(
  if(decide ((2880:N)<x3.To)) then(
   E F)
  else(
   if(decide ((0:N)<v1)) then(
   (ix a0 (zB .i64 (v1 - (1:N)))).bind fun x8=>
   if(decide (x3.From≤(zB .i64 (x8.To+(1:N))))) then(
    E F)
   else(
    N8 a0 n (zB .i64 (v1+(1:N)))))
   else(
   N8 a0 n (zB .i64 (v1+(1:N))))))))
 else(
 E T)
def A2a(a0:H X8):L O:= N8 a0 bigN (0:N)
/- impl_ShrinkWindows -/
def K3(a1:N)(a0:H X8):P→N→(H X8)→L (H X8)
| 0,_,_=>G
| n+1,v5,v6=>
 if(decide (v5<(a0.length:N))) then(
 (ix a0 v5).bind fun x8=>
 if(decide (a1≤(zB .i64 (x8.To - x8.From)))) then(
  if C9 v6.length ([(⟨x8.From,(zB .i64 (x8.To - a1))⟩:X8)]:H X8).length 16 then(
  K3 a1 a0 n (zB .i64 (v5+(1:N))) (v6++([(⟨x8.From,(zB .i64 (x8.To - a1))⟩:X8)]:H X8)))
  else G)
 else(
  K3 a1 a0 n (zB .i64 (v5+(1:N))) v6))
 else(
 E v6)
def Z4(a0:H X8)(a1:N):L (H X8):= (A2a a0).bind fun r1=> if r1 then(
 (I0 a1).bind fun r3=>
 if r3 then(
 K3 a1 a0 bigN (0:N) ([]:H X8))
 else(
 E ([]:H X8))) else(
 E ([]:H X8))
/- impl_SureStarts -/
def A1q(a0:Xe)(a1:X7)(a2:N)(a3:Xa):L (H X8):= (P5 a0).bind fun r1=> if r1 then(
 (A0x a1 a2 a3).bind fun r3=>
 if r3 then(
 (A3j a1 a2 a3).bind fun r5=>
 (A3u a0 r5).bind fun r6=>
 (A4m a1 a2 a3).bind fun r7=>
 (Z4 r6 r7).bind fun r9=>
 E r9)
 else(
 E ([]:H X8))) else(
 E ([]:H X8))
/- impl_voyageOf -/
def T8(a4:H N)(a0:Xe)(a1:X7)(a2:Xa)(y11:H N)(y12:N):P→N→(H O)→(H N)→(H (H X8))→L (Xj × O)
| 0,_,_,_,_=>G
| n+1,v13,v14,v15,v16=>
 if(decide (v13<y12)) then(
 (ix y11 v13).bind fun x18=>
 (ix a1.Points x18).bind fun x19=>
 if C9 v14.length ([x19.Wait]:H O).length 1 then(
  (ix a4 v13).bind fun x21=>
  (ix a1.Segments x21).bind fun x22=>
  (K9 a2 x22).bind fun r23=>
  if C9 v15.length ([r23]:H N).length 8 then(
  (A1q a0 a1 x21 a2).bind fun r25=>
  if C9 v16.length ([r25]:H (H X8)).length 24 then(
   T8 a4 a0 a1 a2 y11 y12 n (zB .i64 (v13+(1:N))) (v14++([x19.Wait]:H O)) (v15++([r23]:H N)) (v16++([r25]:H (H X8))))
  else G)
  else G)
 else G)
 else(
 E ((⟨v14,v15,v16⟩:Xj),T))
def T7(a3:N)(a4:H N)(a0:Xe)(a1:X7)(a2:Xa)(v7:O):L (Xj × O):= if v7 then(
 E ((⟨([]:H O),([]:H N),([]:H (H X8))⟩:Xj),F)) else(
 (M0 a1 a3 a4).bind fun r9=>
 (bnd (r9.length:N) (a4.length:N) (0:N) r9.length).bind fun p10=>
 T8 a4 a0 a1 a2 ((r9.drop p10.1).take (p10.2 - p10.1)) (((r9.drop p10.1).take (p10.2 - p10.1)).length:N) bigN (0:N) ([]:H O) ([]:H N) ([]:H (H X8)))
def A25(a0:Xe)(a1:X7)(a2:Xa)(a3:N)(a4:H N):L (Xj × O):= (P5 a0).bind fun r1=> if r1 then(
 (S9 a2).bind fun r3=>
 if r3 then(
 (A0z a1 a3 a4).bind fun r5=>
 if r5 then(
  T7 a3 a4 a0 a1 a2 ((a4.length:N)==(0:N)))
 else(
  T7 a3 a4 a0 a1 a2 T))
 else(
 T7 a3 a4 a0 a1 a2 T)) else(
 T7 a3 a4 a0 a1 a2 T)
/- impl_callVoyage -/
def U7(a2:H N)(a0:X4)(a1:X9)(v4:O):L (Xj × O):= if v4 then(
 E ((⟨([]:H O),([]:H N),([]:H (H X8))⟩:Xj),F)) else(
 (ix a0.Fleet a1.Ship).bind fun x6=>
 (A25 a0.Forecast a0.Chart x6 a1.From a2).bind fun r7=>
 E (r7.1,r7.2))
def P2(a0:X4)(a1:X9)(a2:H N):L (Xj × O):= (M0 a0.Chart a1.From a2).bind fun r1=> if((r1.length:N)==(0:N)) then(
 U7 a2 a0 a1 T) else(
 (ix r1 (zB .i64 ((r1.length:N) - (1:N)))).bind fun x3=>
 U7 a2 a0 a1 (x3 !=a1.To))
/- impl_HasMinute -/
def S8(a1:N)(a0:H X8):P→N→L O
| 0,_=>G
| n+1,v1=>
 if(decide (v1<(a0.length:N))) then(
 (ix a0 v1).bind fun x3=>
 (E0 a1 x3.From x3.To).bind fun r4=>
 if r4 then(
  E T)
 else(
  S8 a1 a0 n (zB .i64 (v1+(1:N)))))
 else(
 E F)
def A4l(a0:H X8)(a1:N):L O:= S8 a1 a0 bigN (0:N)
/- impl_NextMinute -/
def Q4(a1:N)(a0:H X8):P→N→L N
| 0,_=>G
| n+1,v3=>
 if(decide (v3<(a0.length:N))) then(
 (ix a0 v3).bind fun x5=>
 if(decide (a1≤x5.To)) then(
  E (if x5.From<a1 then a1 else x5.From))
 else(
  Q4 a1 a0 n (zB .i64 (v3+(1:N)))))
 else(
 E (-1:N))
def A1w(a0:H X8)(a1:N):L N:= (A2a a0).bind fun r1=> if r1 then(
 Q4 a1 a0 bigN (0:N)) else(
 E (-1:N))
/- impl_voyage_sail -/
def J7(v4 r10:N)(a0:Xj)(v5:H N)(A1z:N→(H N)→L ((H N) × O))(v14:O):L ((H N) × O):= if v14 then(
 E (([]:H N),F)) else(
 if C9 v5.length ([r10]:H N).length 8 then(
 A1z (zB .i64 (v4+(1:N))) (v5++([r10]:H N)))
 else G)
def F2(a0:Xj):P→N→(H N)→L ((H N) × O)
| 0,_,_=>G
| n+1,v4,v5=>
 if(decide (v4<(a0.sure.length:N))) then(
 (ix v5 (zB .i64 (v4 - (1:N)))).bind fun x7=>
 (ix a0.minutes (zB .i64 (v4 - (1:N)))).bind fun x8=>
 (ix a0.sure v4).bind fun x9=>
 (A1w x9 (zB .i64 (x7+x8))).bind fun r10=>
 if(decide (r10<(0:N))) then(
  J7 v4 r10 a0 v5 (F2 a0 n) T)
 else(
  if(decide ((zB .i64 (x7+x8))<r10)) then(
  (ix a0.waits v4).bind fun x13=>
  J7 v4 r10 a0 v5 (F2 a0 n) (!x13))
  else(
  J7 v4 r10 a0 v5 (F2 a0 n) F)))
 else(
 E (v5,T))
def A1b(a0:Xj)(a1:N):L ((H N) × O):= (ix a0.sure (0:N)).bind fun x1=> (A4l x1 a1).bind fun r2=> if r2 then(
 F2 a0 bigN (1:N) ([a1]:H N)) else(
 E (([]:H N),F))
/- impl_PassagesOf -/
def Q3(a1:N)(a5 a4:H N)(a0:X7)(a2:Xa)(r6:(H N)):P→N→(H X5)→L (H X5)
| 0,_,_=>G
| n+1,v7,v8=>
 if(decide (v7<(a4.length:N))) then(
 (ix a4 v7).bind fun x10=>
 (ix a5 v7).bind fun x11=>
 (I0 x11).bind fun r12=>
 if r12 then(
  (ix a0.Segments x10).bind fun x14=>
  (ix r6 v7).bind fun x15=>
  (K9 a2 x14).bind fun r16=>
  if C9 v8.length ([(⟨a1,x10,(x15==x14.A),x11,(zB .i64 (x11+r16))⟩:X5)]:H X5).length 40 then(
  Q3 a1 a5 a4 a0 a2 r6 n (zB .i64 (v7+(1:N))) (v8++([(⟨a1,x10,(x15==x14.A),x11,(zB .i64 (x11+r16))⟩:X5)]:H X5)))
  else G)
 else(
  E ([]:H X5)))
 else(
 E v8)
def A1x(a0:X7)(a1:N)(a2:Xa)(a3:N)(a4 a5:H N):L (H X5):= (A0z a0 a3 a4).bind fun r1=> if r1 then(
 (S9 a2).bind fun r3=>
 if r3 then(
 if((a4.length:N) !=(a5.length:N)) then(
  E ([]:H X5))
 else(
  (M0 a0 a3 a4).bind fun r6=>
  Q3 a1 a5 a4 a0 a2 r6 bigN (0:N) ([]:H X5)))
 else(
 E ([]:H X5))) else(
 E ([]:H X5))
/- impl_ArrivalOf -/
def A2i(a0:X7)(a1:Xa)(a2 a3:H N):L N:= (L0 a0 a2).bind fun r1=> if(decide (r1<(0:N))) then(
 E (-1:N)) else(
 (S9 a1).bind fun r3=>
 if r3 then(
 if((a2.length:N)==(0:N)) then(
  E (-1:N))
 else(
  if((a2.length:N) !=(a3.length:N)) then(
  E (-1:N))
  else(
  (ix a3 (zB .i64 ((a2.length:N) - (1:N)))).bind fun x7=>
  (I0 x7).bind fun r9=>
  if r9 then(
   (ix a2 (zB .i64 ((a2.length:N) - (1:N)))).bind fun x11=>
   (ix a0.Segments x11).bind fun x12=>
   (K9 a1 x12).bind fun r13=>
   E (zB .i64 (x7+r13)))
  else(
   E (-1:N)))))
 else(
 E (-1:N)))
/- impl_option -/
def Z2(a2:Xj)(a4 r5:N)(r4:(H X5)):P→N→N→L (X0 × O)
| 0,_,_=>G
| n+1,v6,v7=>
 if(decide (v6<(a2.minutes.length:N))) then(
 (ix a2.minutes v6).bind fun x9=>
 Z2 a2 a4 r5 r4 n (zB .i64 (v6+(1:N))) (zB .i64 (v7 - x9)))
 else(
 E ((⟨a4,r5,v7,r4⟩:X0),(decide (r5≤(2880:N)))))
def V4(a0:X4)(a1:X9)(a2:Xj)(a3:H N)(a4:N):L (X0 × O):= (A1b a2 a4).bind fun r1=> if r1.2 then(
 (ix a0.Fleet a1.Ship).bind fun x3=>
 (A1x a0.Chart a1.Ship x3 a1.From a3 r1.1).bind fun r4=>
 (A2i a0.Chart x3 a3 r1.1).bind fun r5=>
 Z2 a2 a4 r5 r4 bigN (0:N) (zB .i64 (r5 - a1.Ready))) else(
 E ((⟨(0:N),(0:N),(0:N),([]:H X5)⟩:X0),F))
/- impl_OptionsOf -/
def W7(r3:(H N) × O)(v7:N)(a0:X4)(a1:X9)(r4:Xj × O)(A3i:N→(H X0)→L (H X0))(v14:H X0):L (H X0):= A3i (zB .i64 (v7+(15:N))) v14
def K0(r3:(H N) × O)(a0:X4)(a1:X9)(r4:Xj × O):P→N→(H X0)→L (H X0)
| 0,_,_=>G
| n+1,v7,v8=>
 if(decide (v7≤a1.Due)) then(
 if(decide ((v8.length:N)<(8:N))) then(
  (V4 a0 a1 r4.1 r3.1 v7).bind fun r11=>
  if r11.2 then(
  if C9 v8.length ([r11.1]:H X0).length 48 then(
   W7 r3 v7 a0 a1 r4 (K0 r3 a0 a1 r4 n) (v8++([r11.1]:H X0)))
  else G)
  else(
  W7 r3 v7 a0 a1 r4 (K0 r3 a0 a1 r4 n) v8))
 else(
  E v8))
 else(
 E v8)
def S2(a0:X4)(a1:X9):L (H X0):= (A2z a0 a1).bind fun r1=> if r1 then(
 (A2k a0.Chart a1.From a1.To).bind fun r3=>
 (P2 a0 a1 r3.1).bind fun r4=>
 if r3.2 then(
 if r4.2 then(
  K0 r3 a0 a1 r4 bigN a1.Ready ([]:H X0))
 else(
  E ([]:H X0)))
 else(
 E ([]:H X0))) else(
 E ([]:H X0))
/- impl_allOptions -/
def Q5(a1:H X9)(a0:X4):P→N→(H (H X0))→L (H (H X0))
| 0,_,_=>G
| n+1,v1,v2=>
 if(decide (v1<(a1.length:N))) then(
 (ix a1 v1).bind fun x4=>
 (S2 a0 x4).bind fun r5=>
 if C9 v2.length ([r5]:H (H X0)).length 24 then(
  Q5 a1 a0 n (zB .i64 (v1+(1:N))) (v2++([r5]:H (H X0))))
 else G)
 else(
 E v2)
def P7(a0:X4)(a1:H X9):L (H (H X0)):= Q5 a1 a0 bigN (0:N) ([]:H (H X0))
/- impl_weight_less -/
def A06(a0 a1:Xh):L O:= if(decide (a0.i0<a1.i0)) then(
 E T) else(
 if(a0.i0==a1.i0) then(
 E (decide (a0.i1<a1.i1)))
 else(
 E F))
/- impl_Overlaps -/
def A3g(a0 a1:X5):L O:= E (decide ((if a0.Start<a1.Start then a1.Start else a0.Start)<(if a1.End<a0.End then a1.End else a0.End)))
/- impl_near -/
def A57(a0 a1 a2:N):L O:= E (decide ((IntKind.u64.wrap ((IntKind.u64.wrap (if a0<a1 then a1 else a0)) - (IntKind.u64.wrap (if a1<a0 then a1 else a0))))<(IntKind.u64.wrap a2)))
/- impl_conflict -/
def Z8(a2 a3:X5)(v22:O):L N:= if v22 then(
 E (3:N)) else(
 if(decide (a2.Start<a3.Start)) then(
 if(decide (a3.End<a2.End)) then(
  E (4:N))
 else(
  if(decide (a3.Start<a2.Start)) then(
  if(decide (a2.End<a3.End)) then(
   E (4:N))
  else(
   E (0:N)))
  else(
  E (0:N))))
 else(
 if(decide (a3.Start<a2.Start)) then(
  if(decide (a2.End<a3.End)) then(
  E (4:N))
  else(
  E (0:N)))
 else(
  E (0:N))))
def P6(a1:Xk)(a2 a3:X5)(v15 v16:O):L N:= if v15 then(
 E (2:N)) else(
 if(a2.Toward==a3.Toward) then(
 (A57 a2.Start a3.Start a1.Gap).bind fun r19=>
 if r19 then(
  Z8 a2 a3 T)
 else(
  (A57 a2.End a3.End a1.Gap).bind fun r21=>
  Z8 a2 a3 r21))
 else(
 E (0:N)))
def A0f(a0:X7)(a1:Xk)(a2 a3:X5)(v7:O):L N:= if v7 then(
 E (1:N)) else(
 if(a2.Ship==a3.Ship) then(
 E (0:N))
 else(
 if(a2.Toward==a3.Toward) then(
  P6 a1 a2 a3 F a1.NoMeet)
 else(
  (A3g a2 a3).bind fun r11=>
  if r11 then(
  if a1.NoMeet then(
   P6 a1 a2 a3 T T)
  else(
   (ix a0.Segments a2.Segment).bind fun x14=>
   P6 a1 a2 a3 (!x14.Meet) F))
  else(
  P6 a1 a2 a3 F a1.NoMeet))))
def A0c(a0:X7)(a1:Xk)(a2 a3:X5)(v3:O):L N:= if v3 then(
 E (0:N)) else(
 if(a2.Ship==a3.Ship) then(
 (A3g a2 a3).bind fun r6=>
 A0f a0 a1 a2 a3 r6)
 else(
 A0f a0 a1 a2 a3 F))
def A3a(a0:X7)(a1:Xk)(a2 a3:X5):L N:= if(a2.Segment !=a3.Segment) then(
 A0c a0 a1 a2 a3 T) else(
 (D2 a2.Segment (a0.Segments.length:N)).bind fun r2=>
 A0c a0 a1 a2 a3 (!r2))
/- impl_clashes -/
def W1(a3 a2:H X5)(v1:N)(a0:X7)(a1:Xk)(x3:X5)(A2q:N→L O):P→N→L O
| 0,_=>G
| n+1,v4=>
 if(decide (v4<(a3.length:N))) then(
 (ix a3 v4).bind fun x6=>
 (A3a a0 a1 x3 x6).bind fun r7=>
 if(r7 !=(0:N)) then(
  E T)
 else(
  W1 a3 a2 v1 a0 a1 x3 A2q n (zB .i64 (v4+(1:N)))))
 else(
 A2q (zB .i64 (v1+(1:N))))
def O5(a3 a2:H X5)(a0:X7)(a1:Xk):P→N→L O
| 0,_=>G
| n+1,v1=>
 if(decide (v1<(a2.length:N))) then(
 (ix a2 v1).bind fun x3=>
 W1 a3 a2 v1 a0 a1 x3 (O5 a3 a2 a0 a1 n) bigN (0:N))
 else(
 E F)
def A5l(a0:X7)(a1:Xk)(a2 a3:H X5):L O:= O5 a3 a2 a0 a1 bigN (0:N)
/- impl_clone_Option -/
def I9(a0:H X0):L (H X0):= (mkS (0:N) (a0.length:N) 48).bind fun n1=> if C9 (I n1 (⟨(0:N),(0:N),(0:N),([]:H X5)⟩:X0)).length a0.length 48 then(
 E ((I n1 (⟨(0:N),(0:N),(0:N),([]:H X5)⟩:X0))++a0)) else G
/- impl_Passage_ends -/
def U9(a0:X5)(a1:X7):L (N × N):= (ix a1.Segments a0.Segment).bind fun x1=> if a0.Toward then(
 E (x1.A,x1.B)) else(
 E (x1.B,x1.A))
/- impl_duty -/
def A46(a0:X7)(a1 a2:X5):L Xd:= (U9 a1 a0).bind fun r1=> (U9 a2 a0).bind fun r2=> E (⟨a1.Start,a2.End,r1.1,r2.2⟩:Xd)
/- impl_passageOk -/
def A2j(a0:X7)(a1:H Xa)(a2:X5):L O:= (D2 a2.Ship (a1.length:N)).bind fun r1=> if r1 then(
 (D2 a2.Segment (a0.Segments.length:N)).bind fun r3=>
 if r3 then(
 (I0 a2.Start).bind fun r5=>
 if r5 then(
  if(decide ((2880:N)<a2.End)) then(
  E F)
  else(
  (ix a1 a2.Ship).bind fun x8=>
  (ix a0.Segments a2.Segment).bind fun x9=>
  (K9 x8 x9).bind fun r10=>
  E (a2.End==(zB .i64 (a2.Start+r10)))))
 else(
  E F))
 else(
 E F)) else(
 E F)
/- impl_PassageOk -/
def A2f(a0:X7)(a1:H Xa)(a2:X5):L O:= (L7 a0).bind fun r1=> if r1 then(
 (A12 a1).bind fun r3=>
 if r3 then(
 (A2j a0 a1 a2).bind fun r5=>
 E r5)
 else(
 E F)) else(
 E F)
/- impl_tugDuties -/
def O0(a1:H Xa)(a2:H X5)(v1:N)(x7:Xa)(a0:X7)(x4:X5)(A1a:N→(H Xd)→L ((H Xd) × O)):P→N→(H Xd)→L ((H Xd) × O)
| 0,_,_=>G
| n+1,v8,v9=>
 if(decide (v8<x7.Tugs)) then(
 (A46 a0 x4 x4).bind fun r11=>
 if C9 v9.length ([r11]:H Xd).length 32 then(
  O0 a1 a2 v1 x7 a0 x4 A1a n (zB .i64 (v8+(1:N))) (v9++([r11]:H Xd)))
 else G)
 else(
 if(decide ((12:N)<(v9.length:N))) then(
  E (([]:H Xd),F))
 else(
  A1a (zB .i64 (v1+(1:N))) v9))
def K2(a1:H Xa)(a2:H X5)(a0:X7):P→N→(H Xd)→L ((H Xd) × O)
| 0,_,_=>G
| n+1,v1,v2=>
 if(decide (v1<(a2.length:N))) then(
 (ix a2 v1).bind fun x4=>
 (A2f a0 a1 x4).bind fun r5=>
 if r5 then(
  (ix a1 x4.Ship).bind fun x7=>
  O0 a1 a2 v1 x7 a0 x4 (K2 a1 a2 a0 n) bigN (0:N) v2)
 else(
  E (([]:H Xd),F)))
 else(
 E (v2,T))
def A4s(a0:X7)(a1:H Xa)(a2:H X5):L ((H Xd) × O):= K2 a1 a2 a0 bigN (0:N) ([]:H Xd)
/- impl_DutiesOk -/
def U0(a0:H Xd):P→N→L O
| 0,_=>G
| n+1,v2=>
 if(decide (v2<(a0.length:N))) then(
 (ix a0 v2).bind fun x4=>
 if(decide (x4.From<(0:N))) then(
  E F)
 else(
  if(decide (x4.To≤x4.From)) then(
  E F)
  else(
  if(decide ((2880:N)<x4.To)) then(
   E F)
  else(
   (D2 x4.A (8:N)).bind fun r9=>
   if r9 then(
   (D2 x4.B (8:N)).bind fun r11=>
   if r11 then(
    U0 a0 n (zB .i64 (v2+(1:N))))
   else(
    E F))
   else(
   E F)))))
 else(
 E T)
def Z3(a0:H Xd):L O:= if(decide ((12:N)<(a0.length:N))) then(
 E F) else(
 U0 a0 bigN (0:N))
/- impl_coverable -/
def A0y(a0:N)(a1:H N)(a2:H Xd):L O:= (Z3 a2).bind fun r1=> if r1 then(
 (I0 a0).bind fun r3=>
 if r3 then(
 (W4 a1).bind fun r5=>
 E r5)
 else(
 E F)) else(
 E F)
/- impl_Gap -/
def A2l(a0:N)(a1:H N)(a2 a3:Xd)(v8:O):L (N × O):= if v8 then(
 E ((0:N),F)) else(
 (ix a1 (zB .i64 ((zB .i64 ((8:N)*a2.B))+a3.A))).bind fun x10=>
 E ((zB .i64 (a0+x10)),T))
def A87(a0:N)(a1:H N)(a2 a3:Xd):L (N × O):= (I0 a0).bind fun r1=> if r1 then(
 (W4 a1).bind fun r3=>
 if r3 then(
 (D2 a2.B (8:N)).bind fun r5=>
 if r5 then(
  (D2 a3.A (8:N)).bind fun r7=>
  A2l a0 a1 a2 a3 (!r7))
 else(
  A2l a0 a1 a2 a3 T))
 else(
 A2l a0 a1 a2 a3 T)) else(
 A2l a0 a1 a2 a3 T)
/- impl_CanFollow -/
def A01(a0:N)(a1:H N)(a2 a3:Xd):L O:= (A87 a0 a1 a2 a3).bind fun r1=> if r1.2 then(
 (Z3 ([a2]:H Xd)).bind fun r3=>
 if r3 then(
 (Z3 ([a3]:H Xd)).bind fun r5=>
 if r5 then(
  E (decide ((zB .i64 (a2.To+r1.1))≤a3.From)))
 else(
  E F))
 else(
 E F)) else(
 E F)
/- impl_partners -/
def T6(a0:N)(a1:H N)(a2:H Xd)(v2 v6:N)(x5:Xd)(v7:H N)(A1o:N→(H N)→L (H N))(v14:O):L (H N):= if v14 then(
 (ix v7 v2).bind fun x16=>
 if decide (v6<0) then G else
 A1o (zB .i64 (v6+(1:N))) (v7.set (W v2) (J4 .or .u64 x16 (A0h .u64 (1:N) v6)))) else(
 A1o (zB .i64 (v6+(1:N))) v7)
def G3(a0:N)(a1:H N)(a2:H Xd)(v2:N)(x5:Xd)(L3:N→(H N)→L (H N)):P→N→(H N)→L (H N)
| 0,_,_=>G
| n+1,v6,v7=>
 if(decide (v6<(a2.length:N))) then(
 (ix a2 v6).bind fun x9=>
 if(v2 !=v6) then(
  (A01 a0 a1 x5 x9).bind fun r11=>
  if r11 then(
  T6 a0 a1 a2 v2 v6 x5 v7 (G3 a0 a1 a2 v2 x5 L3 n) T)
  else(
  (A01 a0 a1 x9 x5).bind fun r13=>
  T6 a0 a1 a2 v2 v6 x5 v7 (G3 a0 a1 a2 v2 x5 L3 n) r13))
 else(
  T6 a0 a1 a2 v2 v6 x5 v7 (G3 a0 a1 a2 v2 x5 L3 n) F))
 else(
 L3 (zB .i64 (v2+(1:N))) v7)
def L4(a0:N)(a1:H N)(a2:H Xd):P→N→(H N)→L (H N)
| 0,_,_=>G
| n+1,v2,v3=>
 if(decide (v2<(a2.length:N))) then(
 (ix a2 v2).bind fun x5=>
 G3 a0 a1 a2 v2 x5 (L4 a0 a1 a2 n) bigN (0:N) v3)
 else(
 E v3)
def A3c(a0:N)(a1:H N)(a2:H Xd):L (H N):= (mkS (a2.length:N) (a2.length:N) 8).bind fun n1=> L4 a0 a1 a2 bigN (0:N) (I n1 (0:N))
/- math_bits_Len64 -/
def U8(v8 v9:N):L N:= (ix ([0,1,2,2,3,3,3,3,4,4,4,4,4,4,4,4,5,5,5,5,5,5,5,5,5,5,5,5,5,5,5,5,6,6,6,6,6,6,6,6,6,6,6,6,6,6,6,6,6,6,6,6,6,6,6,6,6,6,6,6,6,6,6,6,7,7,7,7,7,7,7,7,7,7,7,7,7,7,7,7,7,7,7,7,7,7,7,7,7,7,7,7,7,7,7,7,7,7,7,7,7,7,7,7,7,7,7,7,7,7,7,7,7,7,7,7,7,7,7,7,7,7,7,7,7,7,7,7,8,8,8,8,8,8,8,8,8,8,8,8,8,8,8,8,8,8,8,8,8,8,8,8,8,8,8,8,8,8,8,8,8,8,8,8,8,8,8,8,8,8,8,8,8,8,8,8,8,8,8,8,8,8,8,8,8,8,8,8,8,8,8,8,8,8,8,8,8,8,8,8,8,8,8,8,8,8,8,8,8,8,8,8,8,8,8,8,8,8,8,8,8,8,8,8,8,8,8,8,8,8,8,8,8,8,8,8,8,8,8,8,8,8,8,8,8,8,8,8,8,8,8,8,8,8,8,8]:H Q) (IntKind.u8.wrap v8)).bind fun b10=> E (zB .i64 (v9+(zB .i64 (b10.toNat:N))))
def A0n(v5 v6:N):L N:= if(decide ((256:N)≤v5)) then(
 U8 (Z5 .u64 v5 8) (zB .i64 (v6+(8:N)))) else(
 U8 v5 v6)
def A0j(v2 v3:N):L N:= if(decide ((65536:N)≤v2)) then(
 A0n (Z5 .u64 v2 16) (zB .i64 (v3+(16:N)))) else(
 A0n v2 v3)
def A3v(a0:N):L N:= if(decide ((4294967296:N)≤a0)) then(
 A0j (Z5 .u64 a0 32) (32:N)) else(
 A0j a0 (0:N))
/- math_bits_Len -/
def A1h(a0:N):L N:= (A3v a0).bind fun r1=> E r1
/- impl_leastPersons -/
def R6(a0:H N)(y5 v6:N)(v17 v18 v21:N)(v19:H O)(B5:N→(H O)→(H N)→L N)(A1g:N→(H N)→L N)(v28:H N):L N:= if(v21==(0:N)) then(
 B5 (zB .i64 (v6+(1:N))) v19 v28) else(
 A1g (J4 .and .i64 (zB .i64 (v21 - (1:N))) v18) v28)
def H8(a0:H N)(y5 v6:N)(v17 v18:N)(v19:H O)(B5:N→(H O)→(H N)→L N):P→N→(H N)→L N
| 0,_,_=>G
| n+1,v21,v22=>
 if decide (v17<0) then G else
 (ix v19 (J4 .or .i64 v21 (A0h .i64 (1:N) v17))).bind fun x24=>
 if x24 then(
 (ix v22 v6).bind fun x26=>
 (ix v22 (J4 .andNot .i64 v18 v21)).bind fun x27=>
 R6 a0 y5 v6 v17 v18 v21 v19 B5 (H8 a0 y5 v6 v17 v18 v19 B5 n) (v22.set (W v6) (if(zB .i64 ((1:N)+x27))<x26 then(zB .i64 ((1:N)+x27)) else x26)))
 else(
 R6 a0 y5 v6 v17 v18 v21 v19 B5 (H8 a0 y5 v6 v17 v18 v19 B5 n) v22)
def R7(a0:H N)(y5 v6:N)(v8:H N)(B5:N→(H O)→(H N)→L N)(v17 v18:N)(v19:H O):L N:= (ix v8 v6).bind fun x20=> H8 a0 y5 v6 v17 v18 v19 B5 bigN v18 (v8.set (W v6) (a0.length:N))
def F4(a0:H N)(y5:N):P→N→(H O)→(H N)→L N
| 0,_,_,_=>G
| n+1,v6,v7,v8=>
 if(decide (v6<y5)) then(
 (A1h (IntKind.u64.wrap v6)).bind fun r10=>
 if decide ((zB .i64 (r10 - (1:N)))<0) then G else
 (ix v7 (J4 .andNot .i64 v6 (A0h .i64 (1:N) (zB .i64 (r10 - (1:N)))))).bind fun x12=>
 if x12 then(
  (ix a0 (zB .i64 (r10 - (1:N)))).bind fun x14=>
  (ix v7 v6).bind fun x15=>
  R7 a0 y5 v6 v8 (F4 a0 y5 n) (zB .i64 (r10 - (1:N))) (J4 .andNot .i64 v6 (A0h .i64 (1:N) (zB .i64 (r10 - (1:N))))) (v7.set (W v6) ((J4 .andNot .u64 (IntKind.u64.wrap (J4 .andNot .i64 v6 (A0h .i64 (1:N) (zB .i64 (r10 - (1:N)))))) x14)==(0:N))))
 else(
  (ix v7 v6).bind fun x16=>
  R7 a0 y5 v6 v8 (F4 a0 y5 n) (zB .i64 (r10 - (1:N))) (J4 .andNot .i64 v6 (A0h .i64 (1:N) (zB .i64 (r10 - (1:N))))) (v7.set (W v6) F)))
 else(
 (ix v8 (zB .i64 (y5 - (1:N)))).bind fun x30=>
 E x30)
def A0l(a0:H N):L N:= if decide ((a0.length:N)<0) then G else (mkS (A0h .i64 (1:N) (a0.length:N)) (A0h .i64 (1:N) (a0.length:N)) 1).bind fun n2=> (mkS (A0h .i64 (1:N) (a0.length:N)) (A0h .i64 (1:N) (a0.length:N)) 8).bind fun n3=> (ix (I n2 F) (0:N)).bind fun x4=> F4 a0 (A0h .i64 (1:N) (a0.length:N)) bigN (1:N) ((I n2 F).set (W (0:N)) T) (I n3 (0:N))
/- impl_coverer_cover -/
def M3(rec_:Xg→L (O × Xg))(a0:Xg)(v2:N)(F0:N→(H N)→N→(H N)→(H N)→L (O × Xg))(v22:H N)(v23:N)(v24 v25:H N):L (O × Xg):= (ix v24 v2).bind fun x26=> if(x26==(0:N)) then(
 (bnd (v24.length:N) v2 0 v24.length).bind fun p28=>
 E (F,(⟨v22,v23,(v24.take p28.2),v25⟩:Xg))) else(
 F0 (zB .i64 (v2+(1:N))) v22 v23 v24 v25)
def O9(rec_:Xg→L (O × Xg))(a0:Xg)(v2:N)(v3:H N)(v4:N)(v6:H N)(F0:N→(H N)→N→(H N)→(H N)→L (O × Xg))(v11:H N):L (O × Xg):= (ix v11 v2).bind fun x12=> (ix v3 (a0.who.length:N)).bind fun x13=> if((J4 .andNot .u64 x12 x13)==(0:N)) then(
 if decide ((a0.who.length:N)<0) then G else
 if C9 v6.length ([v2]:H N).length 8 then(
 (rec_ (⟨v3,v4,(v11.set (W v2) (J4 .or .u64 x12 (A0h .u64 (1:N) (a0.who.length:N)))),(v6++([v2]:H N))⟩:Xg)).bind fun r17=>
 if r17.1 then(
  E (T,r17.2))
 else(
  (bnd (r17.2.who.length:N) (a0.who.length:N) 0 r17.2.who.length).bind fun p19=>
  (ix r17.2.groups v2).bind fun x20=>
  if decide ((a0.who.length:N)<0) then G else
  M3 rec_ a0 v2 F0 r17.2.sets r17.2.most (r17.2.groups.set (W v2) (J4 .andNot .u64 x20 (A0h .u64 (1:N) (a0.who.length:N)))) (r17.2.who.take p19.2)))
 else G) else(
 M3 rec_ a0 v2 F0 v3 v4 v11 v6)
def F6(rec_:Xg→L (O × Xg))(a0:Xg):P→N→(H N)→N→(H N)→(H N)→L (O × Xg)
| 0,_,_,_,_,_=>G
| n+1,v2,v3,v4,v5,v6=>
 if(decide (v2≤(v5.length:N))) then(
 if(decide (v2<v4)) then(
  if(v2==(v5.length:N)) then(
  if C9 v5.length ([(0:N)]:H N).length 8 then(
   O9 rec_ a0 v2 v3 v4 v6 (F6 rec_ a0 n) (v5++([(0:N)]:H N)))
  else G)
  else(
  O9 rec_ a0 v2 v3 v4 v6 (F6 rec_ a0 n) v5))
 else(
  E (F,(⟨v3,v4,v5,v6⟩:Xg))))
 else(
 E (F,(⟨v3,v4,v5,v6⟩:Xg)))
def V2(rec_:Xg→L (O × Xg))(a0:Xg):L (O × Xg):= if((a0.who.length:N)==(a0.sets.length:N)) then(
 E (T,a0)) else(
 F6 rec_ a0 bigN (0:N) a0.sets a0.most a0.groups a0.who)
def F7:P→Xg→L (O × Xg)
| 0,_=>G
| n+1,a0=>V2 (F7 n) a0
def A4r(a0:Xg):L (O × Xg):=F7 bigN a0
/- impl_LeastCover -/
def U4(a0:N)(a1:H N)(a2:H Xd):L ((H N) × N × O):= (A0y a0 a1 a2).bind fun r1=> if r1 then(
 (A3c a0 a1 a2).bind fun r3=>
 (A0l r3).bind fun r4=>
 (A4r (⟨r3,r4,([]:H N),([]:H N)⟩:Xg)).bind fun r5=>
 E (r5.2.who,r5.2.most,T)) else(
 E (([]:H N),(0:N),F))
/- impl_coverFits -/
def A0p(a0:N)(a1:H N)(a2:H Xd)(a3:N):L O:= if(decide ((a2.length:N)≤a3)) then(
 E T) else(
 (U4 a0 a1 a2).bind fun r2=>
 E (decide (r2.2.1≤a3)))
/- impl_crewFits -/
def P3(a1:H X0)(a0:X4):P→N→(H X5)→(H Xd)→L O
| 0,_,_,_=>G
| n+1,v1,v2,v3=>
 if(decide (v1<(a1.length:N))) then(
 (ix a1 v1).bind fun x5=>
 if C9 v2.length x5.Passages.length 40 then(
  if(decide ((0:N)<(x5.Passages.length:N))) then(
  (ix x5.Passages (0:N)).bind fun x8=>
  (ix x5.Passages (zB .i64 ((x5.Passages.length:N) - (1:N)))).bind fun x9=>
  (A46 a0.Chart x8 x9).bind fun r10=>
  if C9 v3.length ([r10]:H Xd).length 32 then(
   P3 a1 a0 n (zB .i64 (v1+(1:N))) (v2++x5.Passages) (v3++([r10]:H Xd)))
  else G)
  else(
  P3 a1 a0 n (zB .i64 (v1+(1:N))) (v2++x5.Passages) v3))
 else G)
 else(
 (A4s a0.Chart a0.Fleet v2).bind fun r12=>
 if r12.2 then(
  (A0p (0:N) a0.Crew.Moves r12.1 a0.Crew.Tugs).bind fun r14=>
  if r14 then(
  (A0p a0.Crew.Rest a0.Crew.Moves v3 a0.Crew.Pilots).bind fun r16=>
  E r16)
  else(
  E F))
 else(
  E F))
def Q7(a0:X4)(a1:H X0):L O:= P3 a1 a0 bigN (0:N) ([]:H X5) ([]:H Xd)
/- impl_fitsTo -/
def Y5(a1:H X0)(a0:X4)(a2:X0):P→N→L O
| 0,_=>G
| n+1,v1=>
 if(decide (v1<(a1.length:N))) then(
 (ix a1 v1).bind fun x3=>
 (A5l a0.Chart a0.Regime x3.Passages a2.Passages).bind fun r4=>
 if r4 then(
  E F)
 else(
  Y5 a1 a0 a2 n (zB .i64 (v1+(1:N)))))
 else(
 (I9 a1).bind fun r6=>
 if C9 r6.length ([a2]:H X0).length 48 then(
  (Q7 a0 (r6++([a2]:H X0))).bind fun r9=>
  E r9)
 else G)
def A1k(a0:X4)(a1:H X0)(a2:X0):L O:= Y5 a1 a0 a2 bigN (0:N)
/- impl_planner_search -/
def J1(w0:(H X0)→L Xh)(rec_:Xc→L Xc)(a0:Xc)(x8:H X0):P→N→X4→(H (H X0))→N→N→O→(H X0)→(H N)→(H N)→L Xc
| 0,_,_,_,_,_,_,_,_,_=>G
| n+1,v9,v10,v11,v12,v13,v14,v15,v16,v17=>
 if(decide (v9<(x8.length:N))) then(
 (ix x8 v9).bind fun x19=>
 (A1k v10 v15 x19).bind fun r20=>
 if r20 then(
  if C9 v15.length ([x19]:H X0).length 48 then(
  if C9 v16.length ([v9]:H N).length 8 then(
   (rec_ (⟨v10,v11,(v15++([x19]:H X0)),(v16++([v9]:H N)),v17,(⟨v12,v13⟩:Xh),v14⟩:Xc)).bind fun r24=>
   (bnd (r24.plan.length:N) (a0.plan.length:N) 0 r24.plan.length).bind fun p25=>
   (bnd (r24.choice.length:N) (a0.plan.length:N) 0 r24.choice.length).bind fun p26=>
   J1 w0 rec_ a0 x8 n (zB .i64 (v9+(1:N))) r24.h r24.choices r24.least.i0 r24.least.i1 r24.found (r24.plan.take p25.2) (r24.choice.take p26.2) r24.best)
  else G)
  else G)
 else(
  J1 w0 rec_ a0 x8 n (zB .i64 (v9+(1:N))) v10 v11 v12 v13 v14 v15 v16 v17))
 else(
 E (⟨v10,v11,v15,v16,v17,(⟨v12,v13⟩:Xh),v14⟩:Xc))
def J3(w0:(H X0)→L Xh)(rec_:Xc→L Xc)(a0:Xc)(r1:Xh)(v5:O):L Xc:= if((a0.plan.length:N)==(a0.choices.length:N)) then(
 (D0 a0.choice).bind fun r7=>
 E (⟨a0.h,a0.choices,a0.plan,a0.choice,r7,r1,T⟩:Xc)) else(
 (ix a0.choices (a0.plan.length:N)).bind fun x8=>
 J1 w0 rec_ a0 x8 bigN (0:N) a0.h a0.choices a0.least.i0 a0.least.i1 v5 a0.plan a0.choice a0.best)
def T3(w0:(H X0)→L Xh)(rec_:Xc→L Xc)(a0:Xc):L Xc:= (w0 a0.plan).bind fun r1=> if a0.found then(
 (A06 r1 a0.least).bind fun r3=>
 if r3 then(
 J3 w0 rec_ a0 r1 T)
 else(
 E (⟨a0.h,a0.choices,a0.plan,a0.choice,a0.best,a0.least,T⟩:Xc))) else(
 J3 w0 rec_ a0 r1 F)
def F3(w0:(H X0)→L Xh):P→Xc→L Xc
| 0,_=>G
| n+1,a0=>T3 w0 (F3 w0 n) a0
def A36(w0:(H X0)→L Xh)(a0:Xc):L Xc:=F3 w0 bigN a0
/- impl_leastPlan -/
def A0q(a0:X4)(a1:H (H X0))(a2:(H X0)→L Xh):L ((H N) × Xh × O):= (A36 a2 (⟨a0,a1,([]:H X0),([]:H N),([]:H N),(⟨(0:N),(0:N)⟩:Xh),F⟩:Xc)).bind fun r1=> E (r1.best,r1.least,r1.found)
/- impl_CostOf -/
def Y3(a0:H X0):P→N→N→L N
| 0,_,_=>G
| n+1,v1,v2=>
 if(decide (v2<(a0.length:N))) then(
 (ix a0 v2).bind fun x4=>
 Y3 a0 n (zB .i64 (v1+x4.Cost)) (zB .i64 (v2+(1:N))))
 else(
 E v1)
def A1l(a0:H X0):L N:= Y3 a0 bigN (0:N) (0:N)
/- impl_byCost -/
def A4u(a0:H X0):L Xh:= (A1l a0).bind fun r1=> E (⟨r1,(0:N)⟩:Xh)
/- impl_BestPlan -/
def A3d(a0:X4)(a1:H X9):L ((H N) × N × O):= (T2 a0 a1).bind fun r1=> if r1 then(
 (P7 a0 a1).bind fun r3=>
 (A0q a0 r3 (fun z0=>A4u z0)).bind fun r4=>
 E (r4.1,r4.2.1.i0,r4.2.2)) else(
 E (([]:H N),(0:N),F))
/- impl_account -/
def V9(a1:H X9)(a2:H X0)(a0:X4):P→N→(H N)→(H N)→L Xn
| 0,_,_,_=>G
| n+1,v3,v4,v5=>
 if(decide (v3<(a2.length:N))) then(
 (ix a2 v3).bind fun x7=>
 (ix a1 v3).bind fun x8=>
 (ix a0.Fleet x8.Ship).bind fun x9=>
 (ix v4 x9.Line).bind fun x10=>
 (ix v5 x9.Line).bind fun x11=>
 V9 a1 a2 a0 n (zB .i64 (v3+(1:N))) (v4.set (W x9.Line) (zB .i64 (x10+x7.Cost))) (v5.set (W x9.Line) (zB .i64 (x11+(1:N)))))
 else(
 E (⟨v4,v5⟩:Xn))
def A17(a0:X4)(a1:H X9)(a2:H X0):L Xn:= (mkS (4:N) (4:N) 8).bind fun n1=> (mkS (4:N) (4:N) 8).bind fun n2=> V9 a1 a2 a0 bigN (0:N) (I n1 (0:N)) (I n2 (0:N))
/- impl_FairPlan_1 -/
def Q1(a0:H X0)(r1:Xn):P→N→N→L Xh
| 0,_,_=>G
| n+1,v2,v3=>
 if(decide (v3<(r1.Waits.length:N))) then(
 (ix r1.Waits v3).bind fun x5=>
 Q1 a0 r1 n (if v2<x5 then x5 else v2) (zB .i64 (v3+(1:N))))
 else(
 (A1l a0).bind fun r6=>
 E (⟨v2,r6⟩:Xh))
def A0b(a0:H X0)(c0:X4)(c1:H X9):L Xh:= (A17 c0 c1 a0).bind fun r1=> Q1 a0 r1 bigN (0:N) (0:N)
/- impl_FairPlan -/
def A28(a0:X4)(a1:H X9):L ((H N) × N × O):= (T2 a0 a1).bind fun r1=> if r1 then(
 (P7 a0 a1).bind fun r3=>
 (A0q a0 r3 (fun z0=>A0b z0 a0 a1)).bind fun r4=>
 E (r4.1,r4.2.1.i0,r4.2.2)) else(
 E (([]:H N),(0:N),F))
/- impl_PlanOf -/
def Z1(a2:H N)(a1:H X9)(a0:X4):P→N→(H X0)→L ((H X0) × O)
| 0,_,_=>G
| n+1,v5,v6=>
 if(decide (v5<(a1.length:N))) then(
 (ix a1 v5).bind fun x8=>
 (S2 a0 x8).bind fun r9=>
 (ix a2 v5).bind fun x10=>
 (D2 x10 (r9.length:N)).bind fun r11=>
 if r11 then(
  (ix r9 x10).bind fun x13=>
  if C9 v6.length ([x13]:H X0).length 48 then(
  Z1 a2 a1 a0 n (zB .i64 (v5+(1:N))) (v6++([x13]:H X0)))
  else G)
 else(
  E (([]:H X0),F)))
 else(
 E (v6,T))
def A3o(a1:H X9)(a2:H N)(a0:X4)(v3:O):L ((H X0) × O):= if v3 then(
 E (([]:H X0),F)) else(
 Z1 a2 a1 a0 bigN (0:N) ([]:H X0))
def A20(a0:X4)(a1:H X9)(a2:H N):L ((H X0) × O):= (T2 a0 a1).bind fun r1=> if r1 then(
 A3o a1 a2 a0 ((a2.length:N) !=(a1.length:N))) else(
 A3o a1 a2 a0 T)
/- impl_OptionAt -/
def A1s(a2:H N)(a3:N)(a0:X4)(a1:X9)(v4:O):L (X0 × O):= if v4 then(
 E ((⟨(0:N),(0:N),(0:N),([]:H X5)⟩:X0),F)) else(
 (P2 a0 a1 a2).bind fun r6=>
 if r6.2 then(
 (V4 a0 a1 r6.1 a2 a3).bind fun r9=>
 if r9.2 then(
  E (r9.1,T))
 else(
  E ((⟨(0:N),(0:N),(0:N),([]:H X5)⟩:X0),F)))
 else(
 E ((⟨(0:N),(0:N),(0:N),([]:H X5)⟩:X0),F)))
def A3l(a0:X4)(a1:X9)(a2:H N)(a3:N):L (X0 × O):= (A2z a0 a1).bind fun r1=> if r1 then(
 (E0 a3 a1.Ready a1.Due).bind fun r3=>
 A1s a2 a3 a0 a1 (!r3)) else(
 A1s a2 a3 a0 a1 T)
/- slices_Equal_Passage -/
def K7(a0 a1:H X5):P→N→L O
| 0,_=>G
| n+1,v2=>
 if(decide (v2<(a0.length:N))) then(
 (ix a0 v2).bind fun x4=>
 (ix a1 v2).bind fun x5=>
 if((x4.Ship==x5.Ship)&&((x4.Segment==x5.Segment)&&((x4.Toward==x5.Toward)&&((x4.Start==x5.Start)&&((x4.End==x5.End)&&T))))) then(
  K7 a0 a1 n (zB .i64 (v2+(1:N))))
 else(
  E F))
 else(
 E T)
def V3(a0 a1:H X5):L O:= if((a0.length:N) !=(a1.length:N)) then(
 E F) else(
 K7 a0 a1 bigN (0:N))
/- impl_SameOptions -/
def A03(a0 a1:X0):L O:= if(a0.Start==a1.Start) then(
 if(a0.Arrival==a1.Arrival) then(
 if(a0.Cost==a1.Cost) then(
  (V3 a0.Passages a1.Passages).bind fun r4=>
  E r4)
 else(
  E F))
 else(
 E F)) else(
 E F)
/- impl_IsOption -/
def T4(a2:X0)(a0:X4)(a1:X9):P→N→(H N)→L O
| 0,_,_=>G
| n+1,v1,v2=>
 if(decide (v1<(a2.Passages.length:N))) then(
 (ix a2.Passages v1).bind fun x4=>
 if C9 v2.length ([x4.Segment]:H N).length 8 then(
  T4 a2 a0 a1 n (zB .i64 (v1+(1:N))) (v2++([x4.Segment]:H N)))
 else G)
 else(
 (A3l a0 a1 v2 a2.Start).bind fun r6=>
 if r6.2 then(
  (A03 r6.1 a2).bind fun r9=>
  E r9)
 else(
  E F))
def A3m(a0:X4)(a1:X9)(a2:X0):L O:= T4 a2 a0 a1 bigN (0:N) ([]:H N)
/- impl_IsPlan -/
def Z6(a2:H X0)(a1:H X9)(a0:X4):P→N→L O
| 0,_=>G
| n+1,v4=>
 if(decide (v4<(a1.length:N))) then(
 (ix a1 v4).bind fun x6=>
 (ix a2 v4).bind fun x7=>
 (A3m a0 x6 x7).bind fun r9=>
 if r9 then(
  (bnd (a2.length:N) v4 (0:N) a2.length).bind fun p11=>
  (A1k a0 ((a2.drop p11.1).take (p11.2 - p11.1)) x7).bind fun r12=>
  if r12 then(
  Z6 a2 a1 a0 n (zB .i64 (v4+(1:N))))
  else(
  E F))
 else(
  E F))
 else(
 E T)
def A43(a0:X4)(a1:H X9)(a2:H X0):L O:= (T2 a0 a1).bind fun r1=> if r1 then(
 if((a2.length:N) !=(a1.length:N)) then(
 E F)
 else(
 Z6 a2 a1 a0 bigN (0:N))) else(
 E F)
/- impl_AccountOf -/
def A0t(a0:X4)(a1:H X9)(a2:H X0):L (Xn × O):= (A43 a0 a1 a2).bind fun r1=> if r1 then(
 (A17 a0 a1 a2).bind fun r3=>
 E (r3,T)) else(
 E ((⟨([]:H N),([]:H N)⟩:Xn),F))
/- laws_greatest -/
def U2(a0:H N):P→N→N→L N
| 0,_,_=>G
| n+1,v1,v2=>
 if(decide (v2<(a0.length:N))) then(
 (ix a0 v2).bind fun x4=>
 U2 a0 n (if v1<x4 then x4 else v1) (zB .i64 (v2+(1:N))))
 else(
 E v1)
def A3p(a0:H N):L N:= U2 a0 bigN (0:N) (0:N)
/- laws_FnFair -/
def A6f(a0:H N):L O:= if(decide ((1048576:N)<(a0.length:N))) then(
 E T) else(
 (A2c a0).bind fun r2=>
 (A3d r2.1 r2.2).bind fun r3=>
 (A28 r2.1 r2.2).bind fun r4=>
 (T2 r2.1 r2.2).bind fun r5=>
 if r5 then(
 if(r3.2.2==r4.2.2) then(
  if r3.2.2 then(
  (A20 r2.1 r2.2 r3.1).bind fun r9=>
  (A20 r2.1 r2.2 r4.1).bind fun r10=>
  (A0t r2.1 r2.2 r9.1).bind fun r11=>
  (A0t r2.1 r2.2 r10.1).bind fun r12=>
  if r10.2 then(
   if r11.2 then(
   if r12.2 then(
    (A1l r10.1).bind fun r16=>
    (A1l r9.1).bind fun r17=>
    if(decide (r16<r17)) then(
    E F)
    else(
    (A3p r12.1.Waits).bind fun r19=>
    if(r19==r4.2.1) then(
     (A3p r11.1.Waits).bind fun r21=>
     E (decide (r4.2.1≤r21)))
    else(
     E F)))
   else(
    E F))
   else(
   E F))
  else(
   E F))
  else(
  E ((r4.1.length:N)==(0:N))))
 else(
  E F))
 else(
 E F))
end Go.Vi
