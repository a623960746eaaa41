/-
Plain definitions of functions. No condition.
-/
import Derived.Test.YtmgfndipofbbaaaGreatCVi39
namespace Go.Vi
set_option linter.all false
open List renaming map → U, not_mem_nil → Y, mem_cons → C, replicate → I
open Nat renaming le_of_ble_eq_true → V
open Int renaming toNat → W, tdiv → Z, tmod → zA
open And renaming intro → X
open IntKind renaming wrap → zB
open Bool renaming true → T, false → F
open Option renaming some → E, none → G
open _root_ renaming List → H, Option → L, Int → N, Bool → O, Nat → P, UInt8 → Q
def A0p(k:IntKind)(x:N)(n:P):N:=k.wrap (x.fdiv (2 ^ min n k.bits))
theorem C5i{k:IntKind}{x:N}:A4o .shr (.v (.sc (.dat (.int k x)))) (.v (.sc (.dat (.int .u64 8))))=E (.v (.sc (.dat (.int k (A0p k x 8))))):=by simp[A4o,M0,A0p]
theorem C5m{k:IntKind}{x:N}:M0 .shr k x 8=E (.int k (A0p k x 8)):=by simp[M0,A0p]
theorem C15{k:IntKind}{x:N}:A4o .shr (.v (.sc (.dat (.int k x)))) (.v (.sc (.dat (.int .u64 16))))=E (.v (.sc (.dat (.int k (A0p k x 16))))):=by simp[A4o,M0,A0p]
theorem C13{k:IntKind}{x:N}:M0 .shr k x 16=E (.int k (A0p k x 16)):=by simp[M0,A0p]
theorem C2c{k:IntKind}{x:N}:A4o .shr (.v (.sc (.dat (.int k x)))) (.v (.sc (.dat (.int .u64 32))))=E (.v (.sc (.dat (.int k (A0p k x 32))))):=by simp[A4o,M0,A0p]
theorem C2i{k:IntKind}{x:N}:M0 .shr k x 32=E (.int k (A0p k x 32)):=by simp[M0,A0p]
theorem C2a{k:IntKind}{x:N}:A4o .shr (.v (.sc (.dat (.int k x)))) (.v (.sc (.dat (.int .u64 33))))=E (.v (.sc (.dat (.int k (A0p k x 33))))):=by simp[A4o,M0,A0p]
theorem C18{k:IntKind}{x:N}:M0 .shr k x 33=E (.int k (A0p k x 33)):=by simp[M0,A0p]
theorem C2g{k:IntKind}{x:N}:A4o .shr (.v (.sc (.dat (.int k x)))) (.v (.sc (.dat (.int .u64 45))))=E (.v (.sc (.dat (.int k (A0p k x 45))))):=by simp[A4o,M0,A0p]
theorem C2f{k:IntKind}{x:N}:M0 .shr k x 45=E (.int k (A0p k x 45)):=by simp[M0,A0p]
structure Xi where
 Amp:N
 Period:N
 Phase:N
 deriving DecidableEq
def Xi.row(x:Xi):H D:= [.int .i64 x.Amp,.int .i64 x.Period,.int .i64 x.Phase]
theorem Xi.row_eq(x:Xi):Xi.row x= [.int .i64 x.Amp,.int .i64 x.Period,.int .i64 x.Phase]:=rfl
instance:Row Xi.row 3:=⟨fun _=>rfl,V rfl⟩
instance:FlatRow Xi.row:=⟨fun x d hd=>by simp only[Xi.row_eq,C,Y,or_false] at hd; rcases hd with rfl | rfl | rfl<;>rfl⟩
structure Xm where
 Mean:N
 Parts:H Xi
 deriving DecidableEq
def Xm.row(x:Xm):H D:= [.int .i64 x.Mean,.sl (U Xi.row x.Parts)]
theorem Xm.row_eq(x:Xm):Xm.row x= [.int .i64 x.Mean,.sl (U Xi.row x.Parts)]:=rfl
instance:Row Xm.row 2:=⟨fun _=>rfl,V rfl⟩
structure Xf where
 From:N
 Low:N
 High:N
 deriving DecidableEq
def Xf.row(x:Xf):H D:= [.int .i64 x.From,.int .i64 x.Low,.int .i64 x.High]
theorem Xf.row_eq(x:Xf):Xf.row x= [.int .i64 x.From,.int .i64 x.Low,.int .i64 x.High]:=rfl
instance:Row Xf.row 3:=⟨fun _=>rfl,V rfl⟩
instance:FlatRow Xf.row:=⟨fun x d hd=>by simp only[Xf.row_eq,C,Y,or_false] at hd; rcases hd with rfl | rfl | rfl<;>rfl⟩
structure Xe where
 Tide:Xm
 Surges:H Xf
 deriving DecidableEq
def Xe.row(x:Xe):H D:= [.int .i64 x.Tide.Mean,.sl (U Xi.row x.Tide.Parts),.sl (U Xf.row x.Surges)]
theorem Xe.row_eq(x:Xe):Xe.row x= [.int .i64 x.Tide.Mean,.sl (U Xi.row x.Tide.Parts),.sl (U Xf.row x.Surges)]:=rfl
instance:Row Xe.row 3:=⟨fun _=>rfl,V rfl⟩
structure Xb where
 Name:H Q
 Wait:O
 deriving DecidableEq
def Xb.row(x:Xb):H D:= [.str x.Name,.bool x.Wait]
theorem Xb.row_eq(x:Xb):Xb.row x= [.str x.Name,.bool x.Wait]:=rfl
instance:Row Xb.row 2:=⟨fun _=>rfl,V rfl⟩
instance:FlatRow Xb.row:=⟨fun x d hd=>by simp only[Xb.row_eq,C,Y,or_false] at hd; rcases hd with rfl | rfl<;>rfl⟩
structure X2 where
 A:N
 B:N
 Depth:N
 Minutes:N
 Meet:O
 deriving DecidableEq
def X2.row(x:X2):H D:= [.int .i64 x.A,.int .i64 x.B,.int .i64 x.Depth,.int .i64 x.Minutes,.bool x.Meet]
theorem X2.row_eq(x:X2):X2.row x= [.int .i64 x.A,.int .i64 x.B,.int .i64 x.Depth,.int .i64 x.Minutes,.bool x.Meet]:=rfl
instance:Row X2.row 5:=⟨fun _=>rfl,V rfl⟩
instance:FlatRow X2.row:=⟨fun x d hd=>by simp only[X2.row_eq,C,Y,or_false] at hd; rcases hd with rfl | rfl | rfl | rfl | rfl<;>rfl⟩
structure X7 where
 Points:H Xb
 Segments:H X2
 deriving DecidableEq
def X7.row(x:X7):H D:= [.sl (U Xb.row x.Points),.sl (U X2.row x.Segments)]
theorem X7.row_eq(x:X7):X7.row x= [.sl (U Xb.row x.Points),.sl (U X2.row x.Segments)]:=rfl
instance:Row X7.row 2:=⟨fun _=>rfl,V rfl⟩
structure Xa where
 Name:H Q
 Length:N
 Draught:N
 Line:N
 Tugs:N
 Slow:O
 deriving DecidableEq
def Xa.row(x:Xa):H D:= [.str x.Name,.int .i64 x.Length,.int .i64 x.Draught,.int .i64 x.Line,.int .i64 x.Tugs,.bool x.Slow]
theorem Xa.row_eq(x:Xa):Xa.row x= [.str x.Name,.int .i64 x.Length,.int .i64 x.Draught,.int .i64 x.Line,.int .i64 x.Tugs,.bool x.Slow]:=rfl
instance:Row Xa.row 6:=⟨fun _=>rfl,V rfl⟩
instance:FlatRow Xa.row:=⟨fun x d hd=>by simp only[Xa.row_eq,C,Y,or_false] at hd; rcases hd with rfl | rfl | rfl | rfl | rfl | rfl<;>rfl⟩
structure Xl where
 Gap:N
 NoMeet:O
 deriving DecidableEq
def Xl.row(x:Xl):H D:= [.int .i64 x.Gap,.bool x.NoMeet]
theorem Xl.row_eq(x:Xl):Xl.row x= [.int .i64 x.Gap,.bool x.NoMeet]:=rfl
instance:Row Xl.row 2:=⟨fun _=>rfl,V rfl⟩
instance:FlatRow Xl.row:=⟨fun x d hd=>by simp only[Xl.row_eq,C,Y,or_false] at hd; rcases hd with rfl | rfl<;>rfl⟩
structure Xo where
 Tugs:N
 Pilots:N
 Rest:N
 Moves:H N
 deriving DecidableEq
def Xo.row(x:Xo):H D:= [.int .i64 x.Tugs,.int .i64 x.Pilots,.int .i64 x.Rest,.sl (U rI x.Moves)]
theorem Xo.row_eq(x:Xo):Xo.row x= [.int .i64 x.Tugs,.int .i64 x.Pilots,.int .i64 x.Rest,.sl (U rI x.Moves)]:=rfl
instance:Row Xo.row 4:=⟨fun _=>rfl,V rfl⟩
structure X4 where
 Forecast:Xe
 Chart:X7
 Fleet:H Xa
 Regime:Xl
 Crew:Xo
 deriving DecidableEq
def X4.row(x:X4):H D:= [.int .i64 x.Forecast.Tide.Mean,.sl (U Xi.row x.Forecast.Tide.Parts),.sl (U Xf.row x.Forecast.Surges),.sl (U Xb.row x.Chart.Points),.sl (U X2.row x.Chart.Segments),.sl (U Xa.row x.Fleet),.int .i64 x.Regime.Gap,.bool x.Regime.NoMeet,.int .i64 x.Crew.Tugs,.int .i64 x.Crew.Pilots,.int .i64 x.Crew.Rest,.sl (U rI x.Crew.Moves)]
theorem X4.row_eq(x:X4):X4.row x= [.int .i64 x.Forecast.Tide.Mean,.sl (U Xi.row x.Forecast.Tide.Parts),.sl (U Xf.row x.Forecast.Surges),.sl (U Xb.row x.Chart.Points),.sl (U X2.row x.Chart.Segments),.sl (U Xa.row x.Fleet),.int .i64 x.Regime.Gap,.bool x.Regime.NoMeet,.int .i64 x.Crew.Tugs,.int .i64 x.Crew.Pilots,.int .i64 x.Crew.Rest,.sl (U rI x.Crew.Moves)]:=rfl
instance:Row X4.row 12:=⟨fun _=>rfl,V rfl⟩
structure X9 where
 Ship:N
 From:N
 To:N
 Ready:N
 Due:N
 deriving DecidableEq
def X9.row(x:X9):H D:= [.int .i64 x.Ship,.int .i64 x.From,.int .i64 x.To,.int .i64 x.Ready,.int .i64 x.Due]
theorem X9.row_eq(x:X9):X9.row x= [.int .i64 x.Ship,.int .i64 x.From,.int .i64 x.To,.int .i64 x.Ready,.int .i64 x.Due]:=rfl
instance:Row X9.row 5:=⟨fun _=>rfl,V rfl⟩
instance:FlatRow X9.row:=⟨fun x d hd=>by simp only[X9.row_eq,C,Y,or_false] at hd; rcases hd with rfl | rfl | rfl | rfl | rfl<;>rfl⟩
structure X1 where
 b:H N
 i:N
 h:N
 deriving DecidableEq
def X1.row(x:X1):H D:= [.sl (U r8 x.b),.int .i64 x.i,.int .i64 x.h]
theorem X1.row_eq(x:X1):X1.row x= [.sl (U r8 x.b),.int .i64 x.i,.int .i64 x.h]:=rfl
instance:Row X1.row 3:=⟨fun _=>rfl,V rfl⟩
structure Xg where
 Waits:H N
 Calls:H N
 deriving DecidableEq
def Xg.row(x:Xg):H D:= [.sl (U rI x.Waits),.sl (U rI x.Calls)]
theorem Xg.row_eq(x:Xg):Xg.row x= [.sl (U rI x.Waits),.sl (U rI x.Calls)]:=rfl
instance:Row Xg.row 2:=⟨fun _=>rfl,V rfl⟩
structure X5 where
 Ship:N
 Segment:N
 Toward:O
 Start:N
 End:N
 deriving DecidableEq
def X5.row(x:X5):H D:= [.int .i64 x.Ship,.int .i64 x.Segment,.bool x.Toward,.int .i64 x.Start,.int .i64 x.End]
theorem X5.row_eq(x:X5):X5.row x= [.int .i64 x.Ship,.int .i64 x.Segment,.bool x.Toward,.int .i64 x.Start,.int .i64 x.End]:=rfl
instance:Row X5.row 5:=⟨fun _=>rfl,V rfl⟩
instance:FlatRow X5.row:=⟨fun x d hd=>by simp only[X5.row_eq,C,Y,or_false] at hd; rcases hd with rfl | rfl | rfl | rfl | rfl<;>rfl⟩
structure X0 where
 Start:N
 Arrival:N
 Cost:N
 Passages:H X5
 deriving DecidableEq
def X0.row(x:X0):H D:= [.int .i64 x.Start,.int .i64 x.Arrival,.int .i64 x.Cost,.sl (U X5.row x.Passages)]
theorem X0.row_eq(x:X0):X0.row x= [.int .i64 x.Start,.int .i64 x.Arrival,.int .i64 x.Cost,.sl (U X5.row x.Passages)]:=rfl
instance:Row X0.row 4:=⟨fun _=>rfl,V rfl⟩
structure X6 where
 i0:O
 i1:O
 i2:O
 i3:O
 i4:O
 i5:O
 i6:O
 i7:O
 deriving DecidableEq
def X6.row(x:X6):H D:= [.bool x.i0,.bool x.i1,.bool x.i2,.bool x.i3,.bool x.i4,.bool x.i5,.bool x.i6,.bool x.i7]
theorem X6.row_eq(x:X6):X6.row x= [.bool x.i0,.bool x.i1,.bool x.i2,.bool x.i3,.bool x.i4,.bool x.i5,.bool x.i6,.bool x.i7]:=rfl
instance:Row X6.row 8:=⟨fun _=>rfl,V rfl⟩
def X6.set(x:X6)(n:P)(v:O):X6:=⟨bif n==0 then v else x.i0,bif n==1 then v else x.i1,bif n==2 then v else x.i2,bif n==3 then v else x.i3,bif n==4 then v else x.i4,bif n==5 then v else x.i5,bif n==6 then v else x.i6,bif n==7 then v else x.i7⟩
theorem X6.set_eq(x:X6){n:P}{v:O}(h:n<8):A22 (U AC.dat (X6.row x)) n [.dat (.bool v)]=U AC.dat (X6.row (X6.set x n v)):=by
 match n,h with
 | 0,_=>rfl
 | 1,_=>rfl
 | 2,_=>rfl
 | 3,_=>rfl
 | 4,_=>rfl
 | 5,_=>rfl
 | 6,_=>rfl
 | 7,_=>rfl
instance:FlatRow X6.row:=⟨fun x d hd=>by simp only[X6.row_eq,C,Y,or_false] at hd; rcases hd with rfl | rfl | rfl | rfl | rfl | rfl | rfl | rfl<;>rfl⟩
structure X8 where
 From:N
 To:N
 deriving DecidableEq
def X8.row(x:X8):H D:= [.int .i64 x.From,.int .i64 x.To]
theorem X8.row_eq(x:X8):X8.row x= [.int .i64 x.From,.int .i64 x.To]:=rfl
instance:Row X8.row 2:=⟨fun _=>rfl,V rfl⟩
instance:FlatRow X8.row:=⟨fun x d hd=>by simp only[X8.row_eq,C,Y,or_false] at hd; rcases hd with rfl | rfl<;>rfl⟩
structure Xk where
 waits:H O
 minutes:H N
 sure:H (H X8)
 deriving DecidableEq
def Xk.row(x:Xk):H D:= [.sl (U rB x.waits),.sl (U rI x.minutes),.sl (U (rL X8.row) x.sure)]
theorem Xk.row_eq(x:Xk):Xk.row x= [.sl (U rB x.waits),.sl (U rI x.minutes),.sl (U (rL X8.row) x.sure)]:=rfl
instance:Row Xk.row 3:=⟨fun _=>rfl,V rfl⟩
structure Xj where
 i0:N
 i1:N
 deriving DecidableEq
def Xj.row(x:Xj):H D:= [.int .i64 x.i0,.int .i64 x.i1]
theorem Xj.row_eq(x:Xj):Xj.row x= [.int .i64 x.i0,.int .i64 x.i1]:=rfl
instance:Row Xj.row 2:=⟨fun _=>rfl,V rfl⟩
instance:FlatRow Xj.row:=⟨fun x d hd=>by simp only[Xj.row_eq,C,Y,or_false] at hd; rcases hd with rfl | rfl<;>rfl⟩
structure Xc where
 h:X4
 choices:H (H X0)
 plan:H X0
 choice:H N
 best:H N
 least:Xj
 found:O
abbrev S0(F_w0:FuncId)(caps_w0:H D)(x:Xc):H XC:= [.d (.int .i64 x.h.Forecast.Tide.Mean),.d (.sl (U Xi.row x.h.Forecast.Tide.Parts)),.d (.sl (U Xf.row x.h.Forecast.Surges)),.d (.sl (U Xb.row x.h.Chart.Points)),.d (.sl (U X2.row x.h.Chart.Segments)),.d (.sl (U Xa.row x.h.Fleet)),.d (.int .i64 x.h.Regime.Gap),.d (.bool x.h.Regime.NoMeet),.d (.int .i64 x.h.Crew.Tugs),.d (.int .i64 x.h.Crew.Pilots),.d (.int .i64 x.h.Crew.Rest),.d (.sl (U rI x.h.Crew.Moves)),.d (.sl (U (rL X0.row) x.choices)),.d (.clo F_w0 caps_w0),.r 0,.r 1,.r 2,.d (.int .i64 x.least.i0),.d (.int .i64 x.least.i1),.d (.bool x.found)]
abbrev S3(x:Xc):H9:= [(4,U X0.row x.plan),(1,U rI x.choice),(1,U rI x.best)]
structure Xd where
 From:N
 To:N
 A:N
 B:N
 deriving DecidableEq
def Xd.row(x:Xd):H D:= [.int .i64 x.From,.int .i64 x.To,.int .i64 x.A,.int .i64 x.B]
theorem Xd.row_eq(x:Xd):Xd.row x= [.int .i64 x.From,.int .i64 x.To,.int .i64 x.A,.int .i64 x.B]:=rfl
instance:Row Xd.row 4:=⟨fun _=>rfl,V rfl⟩
instance:FlatRow Xd.row:=⟨fun x d hd=>by simp only[Xd.row_eq,C,Y,or_false] at hd; rcases hd with rfl | rfl | rfl | rfl<;>rfl⟩
structure Xh where
 sets:H N
 most:N
 groups:H N
 who:H N
 deriving DecidableEq
def Xh.row(x:Xh):H D:= [.sl (U rU x.sets),.int .i64 x.most,.sl (U rU x.groups),.sl (U rI x.who)]
theorem Xh.row_eq(x:Xh):Xh.row x= [.sl (U rU x.sets),.int .i64 x.most,.sl (U rU x.groups),.sl (U rI x.who)]:=rfl
instance:Row Xh.row 4:=⟨fun _=>rfl,V rfl⟩
abbrev K2(x:Xh):H XC:= [.d (.sl (U rU x.sets)),.d (.int .i64 x.most),.r 0,.r 1]
abbrev J8(x:Xh):H9:= [(1,U rU x.groups),(1,U rI x.who)]
def F20:=X @D9w (X @C5i (X @C5m (X @C15 (X @C13 (X @C2c (X @C2i (X @C2a (X @C18 (X @C2g (X @C2f (X @Xi.row_eq (X @Xm.row_eq (X @Xf.row_eq (X @Xe.row_eq (X @Xb.row_eq (X @X2.row_eq (X @X7.row_eq (X @Xa.row_eq (X @Xl.row_eq (X @Xo.row_eq (X @X4.row_eq (X @X9.row_eq (X @X1.row_eq (X @Xg.row_eq (X @X5.row_eq (X @X0.row_eq (X @X6.row_eq (X @X8.row_eq (X @Xk.row_eq (X @Xj.row_eq (X @Xd.row_eq (@Xh.row_eq))))))))))))))))))))))))))))))))
def J:=X E6f (X E4p (X E6y (X E6t F20)))
/- spec_l01New -/
def A1t(a0:H N)(v1:N):L X1:= E (⟨a0,(0:N),v1⟩:X1)
def Z8(a0:H N):P→N→N→L X1
| 0,_,_=>G
| n+1,v1,v2=>
 if(decide (v2<(a0.length:N))) then(
 if(decide (v2<(4000:N))) then(
  (ix a0 v2).bind fun x5=>
  Z8 a0 n (J7 .and .i64 (zB .i64 ((zB .i64 ((zB .i64 (v1*(79:N)))+(zB .i64 x5)))+(7:N))) (1073741823:N)) (zB .i64 (v2+(1:N))))
 else(
  A1t a0 v1))
 else(
 A1t a0 v1)
def A3l(a0:H N):L X1:= Z8 a0 bigN (zB .i64 ((1976:N)+(a0.length:N))) (0:N)
/- spec_l01Byte -/
def N7(a0:X1):L (N × X1):= if(decide (a0.i<(a0.b.length:N))) then(
 (ix a0.b a0.i).bind fun x2=>
 E ((J7 .and .i64 (zB .i64 ((J7 .and .i64 (J7 .xor .i64 (A0p .i64 (zB .i64 ((zB .i64 (a0.h*(6364136223846793005:N)))+(1442695040888963407:N))) 33) (A0p .i64 (zB .i64 ((zB .i64 (a0.h*(6364136223846793005:N)))+(1442695040888963407:N))) 45)) (255:N))+(zB .i64 x2))) (255:N)),(⟨a0.b,(zB .i64 (a0.i+(1:N))),(zB .i64 ((zB .i64 (a0.h*(6364136223846793005:N)))+(1442695040888963407:N)))⟩:X1))) else(
 E ((J7 .and .i64 (J7 .xor .i64 (A0p .i64 (zB .i64 ((zB .i64 (a0.h*(6364136223846793005:N)))+(1442695040888963407:N))) 33) (A0p .i64 (zB .i64 ((zB .i64 (a0.h*(6364136223846793005:N)))+(1442695040888963407:N))) 45)) (255:N)),(⟨a0.b,a0.i,(zB .i64 ((zB .i64 (a0.h*(6364136223846793005:N)))+(1442695040888963407:N)))⟩:X1)))
/- spec_l01Below -/
def A3(a0:X1)(a1:N):L (N × X1):= if(decide (a1≤(0:N))) then(
 E ((0:N),a0)) else(
 if(decide (a1≤(256:N))) then(
 (N7 a0).bind fun r3=>
 if a1==0 then G else
 E ((zB .i64 (zA r3.1 a1)),r3.2))
 else(
 (N7 a0).bind fun r5=>
 (N7 r5.2).bind fun r6=>
 (N7 r6.2).bind fun r7=>
 (N7 r7.2).bind fun r9=>
 if a1==0 then G else
 E ((zB .i64 (zA (zB .i64 ((zB .i64 ((zB .i64 ((zB .i64 (r5.1*(16777216:N)))+(zB .i64 (r6.1*(65536:N)))))+(zB .i64 (r7.1*(256:N)))))+r9.1)) a1)),r9.2)))
/- spec_l01Pick -/
def A4y(a0:X1)(a1:H N):L (N × X1):= (A3 a0 (a1.length:N)).bind fun r1=> (ix a1 r1.1).bind fun x2=> E (x2,r1.2)
/- spec_l02Part -/
def N6(a0:X1):L (Xi × X1):= (A3 a0 (300:N)).bind fun r1=> (A4y r1.2 ([(744:N),(720:N),(1440:N),(372:N),(240:N)]:H N)).bind fun r2=> (A3 r2.2 r2.1).bind fun r3=> E ((⟨r1.1,r2.1,r3.1⟩:Xi),r3.2)
/- spec_l02Draw -/
def Y2(r1:N × X1):P→N→(H N)→N→N→(H Xi)→L (Xm × X1)
| 0,_,_,_,_,_=>G
| n+1,v3,v4,v5,v6,v7=>
 if(decide ((0:N)<v3)) then(
 (N6 (⟨v4,v5,v6⟩:X1)).bind fun r9=>
 if C5 v7.length ([r9.1]:H Xi).length 24 then(
  Y2 r1 n (zB .i64 (v3 - (1:N))) r9.2.b r9.2.i r9.2.h (v7++([r9.1]:H Xi)))
 else G)
 else(
 E ((⟨r1.1,v7⟩:Xm),(⟨v4,v5,v6⟩:X1)))
def A4w(a0:X1):L (Xm × X1):= (A3 a0 (300:N)).bind fun r1=> (A3 r1.2 (2:N)).bind fun r2=> Y2 r1 bigN (zB .i64 ((1:N)+r2.1)) r2.2.b r2.2.i r2.2.h ([]:H Xi)
/- spec_l03Draw -/
def P5(r1:Xm × X1):P→N→N→(H N)→N→N→(H Xf)→L (Xe × X1)
| 0,_,_,_,_,_,_=>G
| n+1,v3,v4,v5,v6,v7,v8=>
 if(decide ((0:N)<v4)) then(
 (A3 (⟨v5,v6,v7⟩:X1) (60:N)).bind fun r10=>
 (A3 r10.2 (60:N)).bind fun r11=>
 if C5 v8.length ([(⟨v3,(zB .i64 (r10.1 - (40:N))),(zB .i64 ((zB .i64 (r10.1 - (40:N)))+r11.1))⟩:Xf)]:H Xf).length 24 then(
  (A3 r11.2 (700:N)).bind fun r13=>
  P5 r1 n (zB .i64 ((zB .i64 (v3+(100:N)))+r13.1)) (zB .i64 (v4 - (1:N))) r13.2.b r13.2.i r13.2.h (v8++([(⟨v3,(zB .i64 (r10.1 - (40:N))),(zB .i64 ((zB .i64 (r10.1 - (40:N)))+r11.1))⟩:Xf)]:H Xf)))
 else G)
 else(
 E ((⟨r1.1,v8⟩:Xe),(⟨v5,v6,v7⟩:X1)))
def A2p(a0:X1):L (Xe × X1):= (A4w a0).bind fun r1=> (A3 r1.2 (3:N)).bind fun r2=> P5 r1 bigN (0:N) (zB .i64 ((1:N)+r2.1)) r2.2.b r2.2.i r2.2.h ([]:H Xf)
/- spec_l01Once -/
def I5(a0:X1)(a1:N):L (O × X1):= (A3 a0 a1).bind fun r1=> E ((r1.1==(0:N)),r1.2)
/- spec_l05Draw -/
def A07(v15:H N)(v16 v17:N)(v18:H Xb)(v19:H X2):L (X7 × X1):= (I5 (⟨v15,v16,v17⟩:X1) (3:N)).bind fun r20=> if r20.1 then(
 if C5 v18.length ([(⟨([100,111,99,107]:H Q),T⟩:Xb)]:H Xb).length 24 then(
 (A3 r20.2 (300:N)).bind fun r23=>
 if C5 v19.length ([(⟨(2:N),(4:N),(zB .i64 ((800:N)+r23.1)),(15:N),F⟩:X2)]:H X2).length 40 then(
  E ((⟨(v18++([(⟨([100,111,99,107]:H Q),T⟩:Xb)]:H Xb)),(v19++([(⟨(2:N),(4:N),(zB .i64 ((800:N)+r23.1)),(15:N),F⟩:X2)]:H X2))⟩:X7),r23.2))
 else G)
 else G) else(
 E ((⟨v18,v19⟩:X7),r20.2))
def A4m(a0:X1):L (X7 × X1):= (I5 a0 (2:N)).bind fun r1=> (A3 r1.2 (300:N)).bind fun r2=> (A3 r2.2 (40:N)).bind fun r3=> (A3 r3.2 (300:N)).bind fun r4=> (A3 r4.2 (30:N)).bind fun r5=> (I5 r5.2 (2:N)).bind fun r6=> (A3 r6.2 (200:N)).bind fun r7=> (A3 r7.2 (20:N)).bind fun r9=> (I5 r9.2 (3:N)).bind fun r10=> if r10.1 then(
 (A3 r10.2 (300:N)).bind fun r12=>
 (A3 r12.2 (30:N)).bind fun r13=>
 if C5 ([(⟨(0:N),(1:N),(zB .i64 ((900:N)+r2.1)),(zB .i64 ((10:N)+r3.1)),F⟩:X2),(⟨(1:N),(2:N),(zB .i64 ((800:N)+r4.1)),(zB .i64 ((10:N)+r5.1)),r6.1⟩:X2),(⟨(2:N),(3:N),(zB .i64 ((900:N)+r7.1)),(zB .i64 ((5:N)+r9.1)),F⟩:X2)]:H X2).length ([(⟨(3:N),(1:N),(zB .i64 ((700:N)+r12.1)),(zB .i64 ((20:N)+r13.1)),T⟩:X2)]:H X2).length 40 then(
 A07 r13.2.b r13.2.i r13.2.h ([(⟨([115,101,97]:H Q),T⟩:Xb),(⟨([98,97,114]:H Q),F⟩:Xb),(⟨([114,111,97,100]:H Q),r1.1⟩:Xb),(⟨([113,117,97,121]:H Q),T⟩:Xb)]:H Xb) (([(⟨(0:N),(1:N),(zB .i64 ((900:N)+r2.1)),(zB .i64 ((10:N)+r3.1)),F⟩:X2),(⟨(1:N),(2:N),(zB .i64 ((800:N)+r4.1)),(zB .i64 ((10:N)+r5.1)),r6.1⟩:X2),(⟨(2:N),(3:N),(zB .i64 ((900:N)+r7.1)),(zB .i64 ((5:N)+r9.1)),F⟩:X2)]:H X2)++([(⟨(3:N),(1:N),(zB .i64 ((700:N)+r12.1)),(zB .i64 ((20:N)+r13.1)),T⟩:X2)]:H X2)))
 else G) else(
 A07 r10.2.b r10.2.i r10.2.h ([(⟨([115,101,97]:H Q),T⟩:Xb),(⟨([98,97,114]:H Q),F⟩:Xb),(⟨([114,111,97,100]:H Q),r1.1⟩:Xb),(⟨([113,117,97,121]:H Q),T⟩:Xb)]:H Xb) ([(⟨(0:N),(1:N),(zB .i64 ((900:N)+r2.1)),(zB .i64 ((10:N)+r3.1)),F⟩:X2),(⟨(1:N),(2:N),(zB .i64 ((800:N)+r4.1)),(zB .i64 ((10:N)+r5.1)),r6.1⟩:X2),(⟨(2:N),(3:N),(zB .i64 ((900:N)+r7.1)),(zB .i64 ((5:N)+r9.1)),F⟩:X2)]:H X2))
/- spec_FormatInt -/
def A30(rec_:N→L (H Q)):P→N→(H Q)→L (H Q)
| 0,_,_=>G
| n+1,v6,v7=>
 if(decide ((9:N)<v6)) then(
 if B68 ([(IntKind.u8.wrap (zB .i64 ((48:N)+(zB .i64 (zA v6 (10:N))))))]:H N).length v7.length then(
  A30 rec_ n (zB .i64 (Z v6 (10:N))) ((U C4z ([(IntKind.u8.wrap (zB .i64 ((48:N)+(zB .i64 (zA v6 (10:N))))))]:H N))++v7))
 else G)
 else(
 if B68 ([(IntKind.u8.wrap (zB .i64 ((48:N)+v6)))]:H N).length v7.length then(
  E ((U C4z ([(IntKind.u8.wrap (zB .i64 ((48:N)+v6)))]:H N))++v7))
 else G)
def A51(rec_:N→L (H Q))(a0:N):L (H Q):= if(decide (a0<(0:N))) then(
 if((zB .i64 (Z a0 (10:N)))==(0:N)) then(
 if B68 ([45]:H Q).length ([(IntKind.u8.wrap (zB .i64 ((48:N) - a0)))]:H N).length then(
  E (([45]:H Q)++(U C4z ([(IntKind.u8.wrap (zB .i64 ((48:N) - a0)))]:H N))))
 else G)
 else(
 (rec_ (zB .i64 (Z a0 (10:N)))).bind fun r4=>
 if B68 r4.length ([(IntKind.u8.wrap (zB .i64 ((48:N) - (zB .i64 (zA a0 (10:N))))))]:H N).length then(
  E (r4++(U C4z ([(IntKind.u8.wrap (zB .i64 ((48:N) - (zB .i64 (zA a0 (10:N))))))]:H N))))
 else G)) else(
 A30 rec_ bigN a0 ([]:H Q))
def A1s:P→N→L (H Q)
| 0,_=>G
| n+1,a0=>A51 (A1s n) a0
def A67(a0:N):L (H Q):=A1s bigN a0
/- spec_l06Ship -/
def A2q(a0:X1)(a1:N):L (Xa × X1):= (A67 a1).bind fun r1=> if B68 ([115]:H Q).length r1.length then(
 (A3 a0 (200:N)).bind fun r3=>
 (A3 r3.2 (500:N)).bind fun r4=>
 (A3 r4.2 (4:N)).bind fun r5=>
 (A3 r5.2 (3:N)).bind fun r6=>
 (I5 r6.2 (4:N)).bind fun r7=>
 E ((⟨(([115]:H Q)++r1),(zB .i64 ((40:N)+r3.1)),(zB .i64 ((600:N)+r4.1)),r5.1,r6.1,r7.1⟩:Xa),r7.2)) else G
/- spec_l06Fleet -/
def U9:P→N→(H N)→N→N→(H Xa)→L ((H Xa) × X1)
| 0,_,_,_,_,_=>G
| n+1,v2,v3,v4,v5,v6=>
 if(decide ((0:N)<v2)) then(
 (A2q (⟨v3,v4,v5⟩:X1) (v6.length:N)).bind fun r9=>
 if C5 v6.length ([r9.1]:H Xa).length 56 then(
  U9 n (zB .i64 (v2 - (1:N))) r9.2.b r9.2.i r9.2.h (v6++([r9.1]:H Xa)))
 else G)
 else(
 E (v6,(⟨v3,v4,v5⟩:X1)))
def A3x(a0:X1)(a1:N):L ((H Xa) × X1):= (A3 a0 a1).bind fun r1=> U9 bigN (zB .i64 ((1:N)+r1.1)) r1.2.b r1.2.i r1.2.h ([]:H Xa)
/- spec_l09Regime -/
def A28(a0:X1):L (Xl × X1):= (A3 a0 (30:N)).bind fun r1=> (I5 r1.2 (4:N)).bind fun r2=> E ((⟨r1.1,r2.1⟩:Xl),r2.2)
/- spec_StayingMoves -/
def A3j:L (H N):= (mkS (64:N) (64:N) 8).bind fun n1=> E (I n1 (0:N))
/- spec_l13Moves -/
def Q5(r1:(H N)):P→N→(H N)→N→N→(H N)→L ((H N) × X1)
| 0,_,_,_,_,_=>G
| n+1,v2,v3,v4,v5,v6=>
 if(decide (v2<(r1.length:N))) then(
 if((zB .i64 (zA v2 (9:N))) !=(0:N)) then(
  (A3 (⟨v3,v4,v5⟩:X1) (5:N)).bind fun r9=>
  (ix v6 v2).bind fun x10=>
  Q5 r1 n (zB .i64 (v2+(1:N))) r9.2.b r9.2.i r9.2.h (v6.set (W v2) (zB .i64 ((5:N)*r9.1))))
 else(
  Q5 r1 n (zB .i64 (v2+(1:N))) v3 v4 v5 v6))
 else(
 E (v6,(⟨v3,v4,v5⟩:X1)))
def A4b(a0:X1):L ((H N) × X1):= (A3j).bind fun r1=> Q5 r1 bigN (0:N) a0.b a0.i a0.h r1
/- spec_l14Crew -/
def A4x(a0:X1):L (Xo × X1):= (A3 a0 (4:N)).bind fun r1=> (A3 r1.2 (3:N)).bind fun r2=> (A3 r2.2 (60:N)).bind fun r3=> (A4b r3.2).bind fun r4=> E ((⟨(zB .i64 ((1:N)+r1.1)),(zB .i64 ((1:N)+r2.1)),r3.1,r4.1⟩:Xo),r4.2)
/- spec_l15Harbour -/
def R6(r3:(H Xa) × X1)(r5:Xo × X1)(r1:Xe × X1)(r2:X7 × X1)(r4:Xl × X1)(y7:N):P→N→(H Xa)→L (X4 × X1)
| 0,_,_=>G
| n+1,v6,v8=>
 if(decide (v6<(r3.1.length:N))) then(
 (ix v8 v6).bind fun x10=>
 R6 r3 r5 r1 r2 r4 y7 n (zB .i64 (v6+(1:N))) (v8.set (W v6) (⟨x10.Name,x10.Length,x10.Draught,x10.Line,(if(1:N)<x10.Tugs then(1:N) else x10.Tugs),x10.Slow⟩:Xa)))
 else(
 E ((⟨(⟨(⟨y7,r1.1.Tide.Parts⟩:Xm),r1.1.Surges⟩:Xe),r2.1,v8,r4.1,r5.1⟩:X4),r5.2))
def A17(a0:X1):L (X4 × X1):= (A2p a0).bind fun r1=> (A4m r1.2).bind fun r2=> (A3x r2.2 (3:N)).bind fun r3=> (A28 r3.2).bind fun r4=> (A4x r4.2).bind fun r5=> R6 r3 r5 r1 r2 r4 (zB .i64 (r1.1.Tide.Mean+(150:N))) bigN (0:N) r3.1
/- spec_l15Call -/
def A3c(r2:O × X1)(a1 v4:N)(v5 v6:N):L (X9 × X1):= (A3 r2.2 (400:N)).bind fun r7=> E ((⟨a1,v4,v5,v6,(zB .i64 ((zB .i64 (v6+(60:N)))+r7.1))⟩:X9),r7.2)
def A2k(a0:X1)(a1:N):L (X9 × X1):= (A3 a0 (30:N)).bind fun r1=> (I5 r1.2 (3:N)).bind fun r2=> if r2.1 then(
 A3c r2 a1 (3:N) (0:N) (zB .i64 ((15:N)*r1.1))) else(
 A3c r2 a1 (0:N) (3:N) (zB .i64 ((15:N)*r1.1)))
/- spec_l16Case -/
def T5(v2:N)(r1:X4 × X1)(v6:H X9)(A2x:N→(H N)→N→N→(H X9)→L (X4 × (H X9) × X1))(v10:O)(v11:H N)(v12 v13:N):L (X4 × (H X9) × X1):= if v10 then(
 (A2k (⟨v11,v12,v13⟩:X1) v2).bind fun r15=>
 if C5 v6.length ([r15.1]:H X9).length 40 then(
 A2x (zB .i64 (v2+(1:N))) r15.2.b r15.2.i r15.2.h (v6++([r15.1]:H X9)))
 else G) else(
 A2x (zB .i64 (v2+(1:N))) v11 v12 v13 v6)
def I6(r1:X4 × X1):P→N→(H N)→N→N→(H X9)→L (X4 × (H X9) × X1)
| 0,_,_,_,_,_=>G
| n+1,v2,v3,v4,v5,v6=>
 if(decide (v2<(r1.1.Fleet.length:N))) then(
 if(v2==(0:N)) then(
  T5 v2 r1 v6 (I6 r1 n) T v3 v4 v5)
 else(
  (I5 (⟨v3,v4,v5⟩:X1) (4:N)).bind fun r9=>
  T5 v2 r1 v6 (I6 r1 n) (!r9.1) r9.2.b r9.2.i r9.2.h))
 else(
 E (r1.1,v6,(⟨v3,v4,v5⟩:X1)))
def A6m(a0:X1):L (X4 × (H X9) × X1):= (A17 a0).bind fun r1=> I6 r1 bigN (0:N) r1.2.b r1.2.i r1.2.h ([]:H X9)
/- spec_MakeCalls -/
def A2z(a0:H N):L (X4 × (H X9)):= (A3l a0).bind fun r1=> (A6m r1).bind fun r2=> E (r2.1,r2.2.1)
/- spec_l28New -/
def A0h(a1:N):P→N→(H N)→N→N→L X1
| 0,_,_,_,_=>G
| n+1,v2,v3,v4,v5=>
 if(decide (v2<a1)) then(
 (N7 (⟨v3,v4,v5⟩:X1)).bind fun r7=>
 A0h a1 n (zB .i64 (v2+(1:N))) r7.2.b r7.2.i r7.2.h)
 else(
 E (⟨v3,v4,v5⟩:X1))
def A5m(a0:H N)(a1:N):L X1:= (A3l a0).bind fun r1=> A0h a1 bigN (0:N) r1.b r1.i r1.h
/- spec_MakeAccount -/
def P3:P→N→(H N)→N→N→(H N)→(H N)→L Xg
| 0,_,_,_,_,_,_=>G
| n+1,v2,v3,v4,v5,v6,v7=>
 if(decide (v2<(4:N))) then(
 (A3 (⟨v3,v4,v5⟩:X1) (300:N)).bind fun r9=>
 if C5 v6.length ([r9.1]:H N).length 8 then(
  (A3 r9.2 (4:N)).bind fun r11=>
  if C5 v7.length ([r11.1]:H N).length 8 then(
  P3 n (zB .i64 (v2+(1:N))) r11.2.b r11.2.i r11.2.h (v6++([r9.1]:H N)) (v7++([r11.1]:H N)))
  else G)
 else G)
 else(
 E (⟨v6,v7⟩:Xg))
def O7(a0:H N)(a1:N):L Xg:= (A5m a0 a1).bind fun r1=> P3 bigN (0:N) r1.b r1.i r1.h ([]:H N) ([]:H N)
/- impl_within -/
def E1(a0 a1 a2:N):L O:= if(decide (a1≤a0)) then(
 E (decide (a0≤a2))) else(
 E F)
/- impl_AccountOk -/
def T4(a0:Xg):P→N→L O
| 0,_=>G
| n+1,v3=>
 if(decide (v3<(4:N))) then(
 (ix a0.Waits v3).bind fun x5=>
 (E1 x5 (0:N) (1000000:N)).bind fun r6=>
 if r6 then(
  (ix a0.Calls v3).bind fun x8=>
  (E1 x8 (0:N) (1000000:N)).bind fun r9=>
  if r9 then(
  T4 a0 n (zB .i64 (v3+(1:N))))
  else(
  E F))
 else(
  E F))
 else(
 E T)
def P2(a0:Xg):L O:= if((a0.Waits.length:N) !=(4:N)) then(
 E F) else(
 if((a0.Calls.length:N) !=(4:N)) then(
 E F)
 else(
 T4 a0 bigN (0:N)))
/- impl_clone_int -/
def D0(a0:H N):L (H N):= (mkS (0:N) (a0.length:N) 8).bind fun n1=> if C5 (I n1 (0:N)).length a0.length 8 then(
 E ((I n1 (0:N))++a0)) else G
/- impl_AddAccounts -/
def A0n(a1:Xg):P→N→(H N)→(H N)→L (Xg × O)
| 0,_,_,_=>G
| n+1,v8,v9,v10=>
 if(decide (v8<(4:N))) then(
 (ix v9 v8).bind fun x12=>
 (ix a1.Waits v8).bind fun x13=>
 (ix v10 v8).bind fun x14=>
 (ix a1.Calls v8).bind fun x15=>
 A0n a1 n (zB .i64 (v8+(1:N))) (v9.set (W v8) (zB .i64 (x12+x13))) (v10.set (W v8) (zB .i64 (x14+x15))))
 else(
 (P2 (⟨v9,v10⟩:Xg)).bind fun r16=>
 if r16 then(
  E ((⟨v9,v10⟩:Xg),T))
 else(
  E ((⟨([]:H N),([]:H N)⟩:Xg),F)))
def A0j(a0 a1:Xg)(v4:O):L (Xg × O):= if v4 then(
 E ((⟨([]:H N),([]:H N)⟩:Xg),F)) else(
 (D0 a0.Waits).bind fun r6=>
 (D0 a0.Calls).bind fun r7=>
 A0n a1 bigN (0:N) r6 r7)
def A1m(a0 a1:Xg):L (Xg × O):= (P2 a0).bind fun r1=> if r1 then(
 (P2 a1).bind fun r3=>
 A0j a0 a1 (!r3)) else(
 A0j a0 a1 T)
/- impl_isPeriod -/
def A10(a0:N):L O:= (E1 a0 (4:N) (2880:N)).bind fun r1=> if r1 then(
 E ((zB .i64 (zA a0 (4:N)))==(0:N))) else(
 E F)
/- impl_PartOk -/
def A5d(a0:Xi):L O:= (E1 a0.Amp (0:N) (1000:N)).bind fun r1=> if r1 then(
 (A10 a0.Period).bind fun r3=>
 if r3 then(
 (E1 a0.Phase (0:N) (zB .i64 (a0.Period - (1:N)))).bind fun r5=>
 E r5)
 else(
 E F)) else(
 E F)
/- impl_TideOk -/
def A0a(a0:Xm):P→N→L O
| 0,_=>G
| n+1,v4=>
 if(decide (v4<(a0.Parts.length:N))) then(
 (ix a0.Parts v4).bind fun x6=>
 (A5d x6).bind fun r7=>
 if r7 then(
  A0a a0 n (zB .i64 (v4+(1:N))))
 else(
  E F))
 else(
 E T)
def A5i(a0:Xm):L O:= (E1 a0.Mean (-1000:N) (1000:N)).bind fun r1=> if r1 then(
 if(decide ((4:N)<(a0.Parts.length:N))) then(
 E F)
 else(
 A0a a0 bigN (0:N))) else(
 E F)
/- impl_isMinute -/
def I4(a0:N):L O:= (E1 a0 (0:N) (2880:N)).bind fun r1=> E r1
/- impl_SurgeOk -/
def A4q(a0:Xf):L O:= (I4 a0.From).bind fun r1=> if r1 then(
 if(decide ((-500:N)≤a0.Low)) then(
 if(decide (a0.Low≤a0.High)) then(
  E (decide (a0.High≤(500:N))))
 else(
  E F))
 else(
 E F)) else(
 E F)
/- impl_ForecastOk -/
def N0(a0:Xe):P→N→L O
| 0,_=>G
| n+1,v7=>
 if(decide (v7<(a0.Surges.length:N))) then(
 (ix a0.Surges v7).bind fun x9=>
 (A4q x9).bind fun r10=>
 if r10 then(
  if(decide ((0:N)<v7)) then(
  (ix a0.Surges (zB .i64 (v7 - (1:N)))).bind fun x13=>
  if(decide (x9.From≤x13.From)) then(
   E F)
  else(
   N0 a0 n (zB .i64 (v7+(1:N)))))
  else(
  N0 a0 n (zB .i64 (v7+(1:N)))))
 else(
  E F))
 else(
 E T)
def Q4(a0:Xe):L O:= (A5i a0.Tide).bind fun r1=> if r1 then(
 (E1 (a0.Surges.length:N) (1:N) (6:N)).bind fun r3=>
 if r3 then(
 (ix a0.Surges (0:N)).bind fun x5=>
 if(x5.From !=(0:N)) then(
  E F)
 else(
  N0 a0 bigN (0:N)))
 else(
 E F)) else(
 E F)
/- impl_IsName -/
def A3y(a0:H Q)(v3:N)(K9:N→L O):L O:= K9 (zB .i64 (v3+(1:N)))
def A3r(a0:H Q)(v3:N)(K9:N→L O)(v7:O):L O:= if v7 then(
 A3y a0 v3 K9) else(
 if(v3==(0:N)) then(
 E F)
 else(
 (ix a0 v3).bind fun b10=>
 if(decide ((b10.toNat:N)<(48:N))) then(
  E F)
 else(
  if(decide ((57:N)<(b10.toNat:N))) then(
  E F)
  else(
  A3y a0 v3 K9))))
def O1(a0:H Q):P→N→L O
| 0,_=>G
| n+1,v3=>
 if(decide (v3<(a0.length:N))) then(
 (ix a0 v3).bind fun b5=>
 if(decide ((97:N)≤(b5.toNat:N))) then(
  A3r a0 v3 (O1 a0 n) (decide ((b5.toNat:N)≤(122:N))))
 else(
  A3r a0 v3 (O1 a0 n) F))
 else(
 E T)
def A3m(a0:H Q):L O:= (E1 (a0.length:N) (1:N) (8:N)).bind fun r1=> if r1 then(
 O1 a0 bigN (0:N)) else(
 E F)
/- impl_PointNamed -/
def Q8(a1:H Q)(a0:X7):P→N→L N
| 0,_=>G
| n+1,v1=>
 if(decide (v1<(a0.Points.length:N))) then(
 (ix a0.Points v1).bind fun x3=>
 if(x3.Name==a1) then(
  E v1)
 else(
  Q8 a1 a0 n (zB .i64 (v1+(1:N)))))
 else(
 E (-1:N))
def A2c(a0:X7)(a1:H Q):L N:= Q8 a1 a0 bigN (0:N)
/- impl_isIndex -/
def D2(a0 a1:N):L O:= if(decide ((0:N)≤a0)) then(
 E (decide (a0<a1))) else(
 E F)
/- impl_Segment_joins -/
def A0l(a0:X2)(a1 a2:N):L O:= if(a0.A==a1) then(
 if(a0.B==a2) then(
 E T)
 else(
 if(a0.A==a2) then(
  E (a0.B==a1))
 else(
  E F))) else(
 if(a0.A==a2) then(
 E (a0.B==a1))
 else(
 E F))
/- impl_ChartOk -/
def W7(a0:X7)(v11:N)(x13:X2)(y24:H X2)(y25:N)(A29:N→L O):P→N→L O
| 0,_=>G
| n+1,v26=>
 if(decide (v26<y25)) then(
 (ix y24 v26).bind fun x28=>
 (A0l x28 x13.A x13.B).bind fun r29=>
 if r29 then(
  E F)
 else(
  W7 a0 v11 x13 y24 y25 A29 n (zB .i64 (v26+(1:N)))))
 else(
 A29 (zB .i64 (v11+(1:N))))
def L0(a0:X7):P→N→L O
| 0,_=>G
| n+1,v11=>
 if(decide (v11<(a0.Segments.length:N))) then(
 (ix a0.Segments v11).bind fun x13=>
 (D2 x13.A (a0.Points.length:N)).bind fun r14=>
 if r14 then(
  (D2 x13.B (a0.Points.length:N)).bind fun r16=>
  if r16 then(
  if(x13.A==x13.B) then(
   E F)
  else(
   (E1 x13.Depth (0:N) (3000:N)).bind fun r19=>
   if r19 then(
   (E1 x13.Minutes (1:N) (240:N)).bind fun r21=>
   if r21 then(
    (bnd (a0.Segments.length:N) v11 (0:N) a0.Segments.length).bind fun p23=>
    W7 a0 v11 x13 ((a0.Segments.drop p23.1).take (p23.2 - p23.1)) (((a0.Segments.drop p23.1).take (p23.2 - p23.1)).length:N) (L0 a0 n) bigN (0:N))
   else(
    E F))
   else(
   E F)))
  else(
  E F))
 else(
  E F))
 else(
 E T)
def Y1(a0:X7):P→N→L O
| 0,_=>G
| n+1,v3=>
 if(decide (v3<(a0.Points.length:N))) then(
 (ix a0.Points v3).bind fun x5=>
 (A3m x5.Name).bind fun r6=>
 if r6 then(
  (A2c a0 x5.Name).bind fun r9=>
  if(r9 !=v3) then(
  E F)
  else(
  Y1 a0 n (zB .i64 (v3+(1:N)))))
 else(
  E F))
 else(
 L0 a0 bigN (0:N))
def M1(a0:X7):L O:= if(decide ((8:N)<(a0.Points.length:N))) then(
 E F) else(
 if(decide ((10:N)<(a0.Segments.length:N))) then(
 E F)
 else(
 Y1 a0 bigN (0:N)))
/- impl_ShipOk -/
def U3(a0:Xa):L O:= (A3m a0.Name).bind fun r1=> if r1 then(
 (E1 a0.Length (10:N) (400:N)).bind fun r3=>
 if r3 then(
 (E1 a0.Draught (100:N) (2000:N)).bind fun r5=>
 if r5 then(
  (D2 a0.Line (4:N)).bind fun r7=>
  if r7 then(
  (E1 a0.Tugs (0:N) (4:N)).bind fun r9=>
  E r9)
  else(
  E F))
 else(
  E F))
 else(
 E F)) else(
 E F)
/- impl_ShipNamed -/
def T7(a1:H Q)(a0:H Xa):P→N→L N
| 0,_=>G
| n+1,v1=>
 if(decide (v1<(a0.length:N))) then(
 (ix a0 v1).bind fun x3=>
 if(x3.Name==a1) then(
  E v1)
 else(
  T7 a1 a0 n (zB .i64 (v1+(1:N)))))
 else(
 E (-1:N))
def A25(a0:H Xa)(a1:H Q):L N:= T7 a1 a0 bigN (0:N)
/- impl_FleetOk -/
def W8(a0:H Xa):P→N→L O
| 0,_=>G
| n+1,v2=>
 if(decide (v2<(a0.length:N))) then(
 (ix a0 v2).bind fun x4=>
 (U3 x4).bind fun r5=>
 if r5 then(
  (A25 a0 x4.Name).bind fun r7=>
  if(r7 !=v2) then(
  E F)
  else(
  W8 a0 n (zB .i64 (v2+(1:N)))))
 else(
  E F))
 else(
 E T)
def A2o(a0:H Xa):L O:= if(decide ((6:N)<(a0.length:N))) then(
 E F) else(
 W8 a0 bigN (0:N))
/- impl_RegimeOk -/
def A5y(a0:Xl):L O:= (E1 a0.Gap (0:N) (60:N)).bind fun r1=> E r1
/- impl_movesOk -/
def T3(a0:H N):P→N→L O
| 0,_=>G
| n+1,v2=>
 if(decide (v2<(a0.length:N))) then(
 (ix a0 v2).bind fun x4=>
 (E1 x4 (0:N) (240:N)).bind fun r5=>
 if r5 then(
  T3 a0 n (zB .i64 (v2+(1:N))))
 else(
  E F))
 else(
 E T)
def Z2(a0:H N):L O:= if((a0.length:N) !=(64:N)) then(
 E F) else(
 T3 a0 bigN (0:N))
/- impl_CrewOk -/
def A5h(a0:Xo):L O:= (E1 a0.Tugs (0:N) (12:N)).bind fun r1=> if r1 then(
 (E1 a0.Pilots (0:N) (12:N)).bind fun r3=>
 if r3 then(
 (I4 a0.Rest).bind fun r5=>
 if r5 then(
  (Z2 a0.Moves).bind fun r7=>
  E r7)
 else(
  E F))
 else(
 E F)) else(
 E F)
/- impl_HarbourOk -/
def A05(a0:X4):L O:= (Q4 a0.Forecast).bind fun r1=> if r1 then(
 (M1 a0.Chart).bind fun r3=>
 if r3 then(
 (A2o a0.Fleet).bind fun r5=>
 if r5 then(
  (A5y a0.Regime).bind fun r7=>
  if r7 then(
  (A5h a0.Crew).bind fun r9=>
  E r9)
  else(
  E F))
 else(
  E F))
 else(
 E F)) else(
 E F)
/- impl_callOk -/
def A3o(a0:X4)(a1:X9):L O:= (D2 a1.Ship (a0.Fleet.length:N)).bind fun r1=> if r1 then(
 (D2 a1.From (a0.Chart.Points.length:N)).bind fun r3=>
 if r3 then(
 (D2 a1.To (a0.Chart.Points.length:N)).bind fun r5=>
 if r5 then(
  if(a1.From !=a1.To) then(
  (I4 a1.Ready).bind fun r9=>
  if r9 then(
   (E1 a1.Due a1.Ready (2880:N)).bind fun r11=>
   E r11)
  else(
   E F))
  else(
  E F))
 else(
  E F))
 else(
 E F)) else(
 E F)
/- impl_CallsOk -/
def Y0(a1:H X9)(v4:N)(a0:X4)(x6:X9)(y10:H X9)(y11:N)(A24:N→L O):P→N→L O
| 0,_=>G
| n+1,v12=>
 if(decide (v12<y11)) then(
 (ix y10 v12).bind fun x14=>
 if(x14.Ship==x6.Ship) then(
  E F)
 else(
  Y0 a1 v4 a0 x6 y10 y11 A24 n (zB .i64 (v12+(1:N)))))
 else(
 A24 (zB .i64 (v4+(1:N))))
def P0(a1:H X9)(a0:X4):P→N→L O
| 0,_=>G
| n+1,v4=>
 if(decide (v4<(a1.length:N))) then(
 (ix a1 v4).bind fun x6=>
 (A3o a0 x6).bind fun r7=>
 if r7 then(
  (bnd (a1.length:N) v4 (0:N) a1.length).bind fun p9=>
  Y0 a1 v4 a0 x6 ((a1.drop p9.1).take (p9.2 - p9.1)) (((a1.drop p9.1).take (p9.2 - p9.1)).length:N) (P0 a1 a0 n) bigN (0:N))
 else(
  E F))
 else(
 E T)
def Z4(a0:X4)(a1:H X9):L O:= (A05 a0).bind fun r1=> if r1 then(
 if(decide ((6:N)<(a1.length:N))) then(
 E F)
 else(
 P0 a1 a0 bigN (0:N))) else(
 E F)
/- impl_means -/
def Y5(a0:Xg):P→N→(H N)→(H N)→L ((H N) × (H N))
| 0,_,_,_=>G
| n+1,v3,v4,v5=>
 if(decide (v3<(4:N))) then(
 (ix a0.Calls v3).bind fun x7=>
 if(decide ((0:N)<x7)) then(
  (ix a0.Waits v3).bind fun x9=>
  if x7==0 then G else
  if C5 v4.length ([(zB .i64 (Z x9 x7))]:H N).length 8 then(
  if C5 v5.length ([v3]:H N).length 8 then(
   Y5 a0 n (zB .i64 (v3+(1:N))) (v4++([(zB .i64 (Z x9 x7))]:H N)) (v5++([v3]:H N)))
  else G)
  else G)
 else(
  Y5 a0 n (zB .i64 (v3+(1:N))) v4 v5))
 else(
 E (v4,v5))
def A4s(a0:Xg):L ((H N) × (H N)):= (P2 a0).bind fun r1=> if r1 then(
 Y5 a0 bigN (0:N) ([]:H N) ([]:H N)) else(
 E (([]:H N),([]:H N)))
/- impl_SpreadOf -/
def V2(r1:(H N) × (H N)):P→N→N→N→L N
| 0,_,_,_=>G
| n+1,v4,v5,v6=>
 if(decide (v6<(r1.1.length:N))) then(
 (ix r1.1 v6).bind fun x8=>
 V2 r1 n (if x8<v4 then x8 else v4) (if v5<x8 then x8 else v5) (zB .i64 (v6+(1:N))))
 else(
 E (zB .i64 (v5 - v4)))
def A32(a0:Xg):L N:= (A4s a0).bind fun r1=> if((r1.1.length:N)==(0:N)) then(
 E (0:N)) else(
 (ix r1.1 (0:N)).bind fun x3=>
 V2 r1 bigN x3 x3 (0:N))
/- impl_CallOk -/
def A3p(a0:X4)(a1:X9):L O:= (A05 a0).bind fun r1=> if r1 then(
 (A3o a0 a1).bind fun r3=>
 E r3) else(
 E F)
/- impl_Segment_end -/
def Y8(a0:X2)(a1:N):L N:= if(a1==a0.A) then(
 E a0.B) else(
 if(a1==a0.B) then(
 E a0.A)
 else(
 E (-1:N)))
/- impl_Chart_routesFrom -/
def K0(rec_:X7→N→N→(H N)→X6→(H (H N))→L (H (H N)))(a1 a2:N)(a3:H N)(v6 r11:N)(a0:X7)(y7:X6)(v8:H (H N))(S4:N→(H (H N))→L (H (H N)))(v16:O):L (H (H N)):= if v16 then(
 (D0 a3).bind fun r18=>
 if C5 r18.length ([v6]:H N).length 8 then(
 (rec_ a0 r11 a2 (r18++([v6]:H N)) y7 v8).bind fun r20=>
 S4 (zB .i64 (v6+(1:N))) r20)
 else G) else(
 S4 (zB .i64 (v6+(1:N))) v8)
def E8(rec_:X7→N→N→(H N)→X6→(H (H N))→L (H (H N)))(a1 a2:N)(a3:H N)(a0:X7)(y7:X6):P→N→(H (H N))→L (H (H N))
| 0,_,_=>G
| n+1,v6,v8=>
 if(decide (v6<(a0.Segments.length:N))) then(
 (ix a0.Segments v6).bind fun x10=>
 (Y8 x10 a1).bind fun r11=>
 if(decide ((0:N)≤r11)) then(
  if decide ((0:N)≤r11)&&decide (r11<(8:N)) then(
  (ix ([y7.i0,y7.i1,y7.i2,y7.i3,y7.i4,y7.i5,y7.i6,y7.i7]:H O) r11).bind fun x14=>
  K0 rec_ a1 a2 a3 v6 r11 a0 y7 v8 (E8 rec_ a1 a2 a3 a0 y7 n) (!x14))
  else G)
 else(
  K0 rec_ a1 a2 a3 v6 r11 a0 y7 v8 (E8 rec_ a1 a2 a3 a0 y7 n) F))
 else(
 E v8)
def Z5(rec_:X7→N→N→(H N)→X6→(H (H N))→L (H (H N)))(a0:X7)(a1 a2:N)(a3:H N)(a4:X6)(a5:H (H N)):L (H (H N)):= if(a1==a2) then(
 (D0 a3).bind fun r2=>
 if C5 a5.length ([r2]:H (H N)).length 24 then(
 E (a5++([r2]:H (H N))))
 else G) else(
 if decide ((0:N)≤a1)&&decide (a1<(8:N)) then(
 E8 rec_ a1 a2 a3 a0 (⟨((X6.set a4 (W a1) T)).i0,((X6.set a4 (W a1) T)).i1,((X6.set a4 (W a1) T)).i2,((X6.set a4 (W a1) T)).i3,((X6.set a4 (W a1) T)).i4,((X6.set a4 (W a1) T)).i5,((X6.set a4 (W a1) T)).i6,((X6.set a4 (W a1) T)).i7⟩:X6) bigN (0:N) a5)
 else G)
def G9:P→X7→N→N→(H N)→X6→(H (H N))→L (H (H N))
| 0,_,_,_,_,_,_=>G
| n+1,a0,a1,a2,a3,a4,a5=>Z5 (G9 n) a0 a1 a2 a3 a4 a5
def A3k(a0:X7)(a1 a2:N)(a3:H N)(a4:X6)(a5:H (H N)):L (H (H N)):=G9 bigN a0 a1 a2 a3 a4 a5
/- impl_RoutesBetween -/
def A0b(a0:X7)(a1 a2:N):L (H (H N)):= (M1 a0).bind fun r1=> if r1 then(
 (D2 a1 (a0.Points.length:N)).bind fun r3=>
 if r3 then(
 (D2 a2 (a0.Points.length:N)).bind fun r5=>
 if r5 then(
  (A3k a0 a1 a2 ([]:H N) (⟨F,F,F,F,F,F,F,F⟩:X6) ([]:H (H N))).bind fun r7=>
  E r7)
 else(
  E ([]:H (H N))))
 else(
 E ([]:H (H N)))) else(
 E ([]:H (H N)))
/- impl_RouteMinutes -/
def I1(a1:H N)(a0:X7):P→N→N→L N
| 0,_,_=>G
| n+1,v3,v4=>
 if(decide (v4<(a1.length:N))) then(
 (ix a1 v4).bind fun x6=>
 (D2 x6 (a0.Segments.length:N)).bind fun r7=>
 if r7 then(
  (ix a0.Segments x6).bind fun x9=>
  I1 a1 a0 n (zB .i64 (v3+x9.Minutes)) (zB .i64 (v4+(1:N))))
 else(
  E (-1:N)))
 else(
 E v3)
def L4(a0:X7)(a1:H N):L N:= (M1 a0).bind fun r1=> if r1 then(
 I1 a1 a0 bigN (0:N) (0:N)) else(
 E (-1:N))
/- impl_BestRoute -/
def O8(r1:(H (H N)))(a0:X7):P→(H N)→N→L ((H N) × O)
| 0,_,_=>G
| n+1,v4,v5=>
 if(decide (v5<(r1.length:N))) then(
 (ix r1 v5).bind fun x7=>
 (L4 a0 x7).bind fun r9=>
 (L4 a0 v4).bind fun r10=>
 if(decide (r9<r10)) then(
  O8 r1 a0 n x7 (zB .i64 (v5+(1:N))))
 else(
  O8 r1 a0 n v4 (zB .i64 (v5+(1:N)))))
 else(
 E (v4,T))
def A3g(a0:X7)(a1 a2:N):L ((H N) × O):= (A0b a0 a1 a2).bind fun r1=> if((r1.length:N)==(0:N)) then(
 E (([]:H N),F)) else(
 (ix r1 (0:N)).bind fun x3=>
 O8 r1 a0 bigN x3 (0:N))
/- impl_Chart_points -/
def N2(r14:N)(a2:H N)(v6:N)(a0:X7)(v7:X6)(v8:H N)(A1y:N→N→X6→(H N)→L ((H N) × O))(v19:O):L ((H N) × O):= if v19 then(
 E (([]:H N),F)) else(
 if decide ((0:N)≤r14)&&decide (r14<(8:N)) then(
 if C5 v8.length ([r14]:H N).length 8 then(
  A1y r14 (zB .i64 (v6+(1:N))) (⟨((X6.set v7 (W r14) T)).i0,((X6.set v7 (W r14) T)).i1,((X6.set v7 (W r14) T)).i2,((X6.set v7 (W r14) T)).i3,((X6.set v7 (W r14) T)).i4,((X6.set v7 (W r14) T)).i5,((X6.set v7 (W r14) T)).i6,((X6.set v7 (W r14) T)).i7⟩:X6) (v8++([r14]:H N)))
 else G)
 else G)
def I2(a2:H N)(a0:X7):P→N→N→X6→(H N)→L ((H N) × O)
| 0,_,_,_,_=>G
| n+1,v5,v6,v7,v8=>
 if(decide (v6<(a2.length:N))) then(
 (ix a2 v6).bind fun x10=>
 (D2 x10 (a0.Segments.length:N)).bind fun r11=>
 if r11 then(
  (ix a0.Segments x10).bind fun x13=>
  (Y8 x13 v5).bind fun r14=>
  if(decide (r14<(0:N))) then(
  N2 r14 a2 v6 a0 v7 v8 (I2 a2 a0 n) T)
  else(
  if decide ((0:N)≤r14)&&decide (r14<(8:N)) then(
   (ix ([v7.i0,v7.i1,v7.i2,v7.i3,v7.i4,v7.i5,v7.i6,v7.i7]:H O) r14).bind fun x17=>
   N2 r14 a2 v6 a0 v7 v8 (I2 a2 a0 n) x17)
  else G))
 else(
  E (([]:H N),F)))
 else(
 E (v8,T))
def Q9(a0:X7)(a1:N)(a2:H N):L ((H N) × O):= (D2 a1 (a0.Points.length:N)).bind fun r1=> if r1 then(
 if decide ((0:N)≤a1)&&decide (a1<(8:N)) then(
 I2 a2 a0 bigN a1 (0:N) (⟨((X6.set (⟨F,F,F,F,F,F,F,F⟩:X6) (W a1) T)).i0,((X6.set (⟨F,F,F,F,F,F,F,F⟩:X6) (W a1) T)).i1,((X6.set (⟨F,F,F,F,F,F,F,F⟩:X6) (W a1) T)).i2,((X6.set (⟨F,F,F,F,F,F,F,F⟩:X6) (W a1) T)).i3,((X6.set (⟨F,F,F,F,F,F,F,F⟩:X6) (W a1) T)).i4,((X6.set (⟨F,F,F,F,F,F,F,F⟩:X6) (W a1) T)).i5,((X6.set (⟨F,F,F,F,F,F,F,F⟩:X6) (W a1) T)).i6,((X6.set (⟨F,F,F,F,F,F,F,F⟩:X6) (W a1) T)).i7⟩:X6) ([a1]:H N))
 else G) else(
 E (([]:H N),F))
/- impl_RoutePoints -/
def M4(a0:X7)(a1:N)(a2:H N):L (H N):= (M1 a0).bind fun r1=> if r1 then(
 (Q9 a0 a1 a2).bind fun r3=>
 E r3.1) else(
 E ([]:H N))
/- impl_RouteOk -/
def A1a(a0:X7)(a1:N)(a2:H N):L O:= (M1 a0).bind fun r1=> if r1 then(
 (Q9 a0 a1 a2).bind fun r3=>
 E r3.2) else(
 E F)
/- impl_Ship_minutes -/
def L3(a0:Xa)(a1:X2):L N:= if a0.Slow then(
 E (zB .i64 ((2:N)*a1.Minutes))) else(
 E a1.Minutes)
/- impl_onSegment -/
def A1f(a0:X7)(a1:N)(a2:Xa):L O:= (M1 a0).bind fun r1=> if r1 then(
 (U3 a2).bind fun r3=>
 if r3 then(
 (D2 a1 (a0.Segments.length:N)).bind fun r5=>
 E r5)
 else(
 E F)) else(
 E F)
/- impl_Ship_squat -/
def A4i(a0:Xa):L N:= if a0.Slow then(
 E (zB .i64 (Z a0.Draught (50:N)))) else(
 E (zB .i64 (Z a0.Draught (20:N))))
/- impl_Ship_need -/
def A5a(a0:Xa):L N:= (A4i a0).bind fun r1=> E (zB .i64 ((zB .i64 (a0.Draught+r1))+(50:N)))
/- impl_LevelFor -/
def A3v(a0:X7)(a1:N)(a2:Xa):L N:= (A1f a0 a1 a2).bind fun r1=> if r1 then(
 (A5a a2).bind fun r3=>
 (ix a0.Segments a1).bind fun x4=>
 E (zB .i64 (r3 - x4.Depth))) else(
 E (0:N))
/- impl_windowsOf -/
def T8(a0:N→L O)(v2:N)(K7:O→N→(H X8)→L (H X8))(v11:O)(v12:H X8):L (H X8):= K7 v11 (zB .i64 (v2+(1:N))) v12
def Z3(a0:N→L O)(v2:N)(K7:O→N→(H X8)→L (H X8))(v9:H X8):L (H X8):= (ix v9 (zB .i64 ((v9.length:N) - (1:N)))).bind fun x10=> T8 a0 v2 K7 T (v9.set (W (zB .i64 ((v9.length:N) - (1:N)))) (⟨x10.From,v2⟩:X8))
def H7(a0:N→L O):P→O→N→(H X8)→L (H X8)
| 0,_,_,_=>G
| n+1,v1,v2,v3=>
 if(decide (v2≤(2880:N))) then(
 (a0 v2).bind fun r5=>
 if r5 then(
  if v1 then(
  Z3 a0 v2 (H7 a0 n) v3)
  else(
  if C5 v3.length ([(⟨v2,(0:N)⟩:X8)]:H X8).length 16 then(
   Z3 a0 v2 (H7 a0 n) (v3++([(⟨v2,(0:N)⟩:X8)]:H X8)))
  else G))
 else(
  T8 a0 v2 (H7 a0 n) F v3))
 else(
 E v3)
def A5b(a0:N→L O):L (H X8):= H7 a0 bigN F (0:N) ([]:H X8)
/- impl_Wave -/
def A6v(a0 a1:N):L N:= (A10 a1).bind fun r1=> if r1 then(
 if a1==0 then G else
 if a1==0 then G else
 if(decide ((zB .i64 (Z a1 (2:N)))≤(zB .i64 (zA (zB .i64 ((zB .i64 (zA a0 a1))+a1)) a1)))) then(
 if(zB .i64 ((zB .i64 (Z a1 (2:N)))*(zB .i64 (Z a1 (2:N)))))==0 then G else
 E (zB .i64 (0 - (zB .i64 (Z (zB .i64 ((zB .i64 ((40000:N)*(zB .i64 ((zB .i64 (zA (zB .i64 ((zB .i64 (zA a0 a1))+a1)) a1)) - (zB .i64 (Z a1 (2:N)))))))*(zB .i64 ((zB .i64 (Z a1 (2:N))) - (zB .i64 ((zB .i64 (zA (zB .i64 ((zB .i64 (zA a0 a1))+a1)) a1)) - (zB .i64 (Z a1 (2:N))))))))) (zB .i64 ((zB .i64 (Z a1 (2:N)))*(zB .i64 (Z a1 (2:N))))))))))
 else(
 if(zB .i64 ((zB .i64 (Z a1 (2:N)))*(zB .i64 (Z a1 (2:N)))))==0 then G else
 E (zB .i64 (Z (zB .i64 ((zB .i64 ((40000:N)*(zB .i64 (zA (zB .i64 ((zB .i64 (zA a0 a1))+a1)) a1))))*(zB .i64 ((zB .i64 (Z a1 (2:N))) - (zB .i64 (zA (zB .i64 ((zB .i64 (zA a0 a1))+a1)) a1)))))) (zB .i64 ((zB .i64 (Z a1 (2:N)))*(zB .i64 (Z a1 (2:N))))))))) else(
 E (0:N))
/- impl_Tide_level -/
def R8(a1:N)(a0:Xm):P→N→N→L N
| 0,_,_=>G
| n+1,v1,v2=>
 if(decide (v2<(a0.Parts.length:N))) then(
 (ix a0.Parts v2).bind fun x4=>
 (A6v (zB .i64 (a1+x4.Phase)) x4.Period).bind fun r5=>
 R8 a1 a0 n (zB .i64 (v1+(zB .i64 (Z (zB .i64 (x4.Amp*r5)) (10000:N))))) (zB .i64 (v2+(1:N))))
 else(
 E v1)
def A4e(a0:Xm)(a1:N):L N:= R8 a1 a0 bigN a0.Mean (0:N)
/- impl_Forecast_surge -/
def I3(a1:N)(a0:Xe):P→N→N→L N
| 0,_,_=>G
| n+1,v1,v2=>
 if(decide (v2<(a0.Surges.length:N))) then(
 (ix a0.Surges v2).bind fun x4=>
 if(decide (x4.From≤a1)) then(
  I3 a1 a0 n v2 (zB .i64 (v2+(1:N))))
 else(
  I3 a1 a0 n v1 (zB .i64 (v2+(1:N)))))
 else(
 E v1)
def A1x(a0:Xe)(a1:N):L N:= I3 a1 a0 bigN (0:N) (0:N)
/- impl_Forecast_low -/
def N1(a0:Xe)(a1:N):L N:= (A4e a0.Tide a1).bind fun r1=> (A1x a0 a1).bind fun r2=> (ix a0.Surges r2).bind fun x3=> E (zB .i64 (r1+x3.Low))
/- impl_LowWindows_1 -/
def A01(a0:N)(c0:Xe)(c1:N):L O:= (N1 c0 a0).bind fun r1=> E (decide (c1≤r1))
/- impl_LowWindows -/
def A4h(a0:Xe)(a1:N):L (H X8):= (Q4 a0).bind fun r1=> if r1 then(
 (A5b (fun z0=>A01 z0 a0 a1)).bind fun r3=>
 E r3) else(
 E ([]:H X8))
/- impl_MinutesOn -/
def A44(a0:X7)(a1:N)(a2:Xa):L N:= (M1 a0).bind fun r1=> if r1 then(
 (U3 a2).bind fun r3=>
 if r3 then(
 (D2 a1 (a0.Segments.length:N)).bind fun r5=>
 if r5 then(
  (ix a0.Segments a1).bind fun x7=>
  (L3 a2 x7).bind fun r9=>
  E r9)
 else(
  E (0:N)))
 else(
 E (0:N))) else(
 E (0:N))
/- impl_WindowsOk -/
def O9(a0:H X8):P→N→L O
| 0,_=>G
| n+1,v1=>
 if(decide (v1<(a0.length:N))) then(
 (ix a0 v1).bind fun x3=>
 if(decide (x3.From<(0:N))) then(
  E F)
 else(
  if(decide (x3.To<x3.From)) then(
  E F)
  else(
  if(decide ((2880:N)<x3.To)) then(
   E F)
  else(
   if(decide ((0:N)<v1)) then(
   (ix a0 (zB .i64 (v1 - (1:N)))).bind fun x8=>
   if(decide (x3.From≤(zB .i64 (x8.To+(1:N))))) then(
    E F)
   else(
    O9 a0 n (zB .i64 (v1+(1:N)))))
   else(
   O9 a0 n (zB .i64 (v1+(1:N))))))))
 else(
 E T)
def A3a(a0:H X8):L O:= O9 a0 bigN (0:N)
/- impl_ShrinkWindows -/
def K5(a1:N)(a0:H X8):P→N→(H X8)→L (H X8)
| 0,_,_=>G
| n+1,v5,v6=>
 if(decide (v5<(a0.length:N))) then(
 (ix a0 v5).bind fun x8=>
 if(decide (a1≤(zB .i64 (x8.To - x8.From)))) then(
  if C5 v6.length ([(⟨x8.From,(zB .i64 (x8.To - a1))⟩:X8)]:H X8).length 16 then(
  K5 a1 a0 n (zB .i64 (v5+(1:N))) (v6++([(⟨x8.From,(zB .i64 (x8.To - a1))⟩:X8)]:H X8)))
  else G)
 else(
  K5 a1 a0 n (zB .i64 (v5+(1:N))) v6))
 else(
 E v6)
def A0o(a0:H X8)(a1:N):L (H X8):= (A3a a0).bind fun r1=> if r1 then(
 (I4 a1).bind fun r3=>
 if r3 then(
 K5 a1 a0 bigN (0:N) ([]:H X8))
 else(
 E ([]:H X8))) else(
 E ([]:H X8))
/- impl_SureStarts -/
def A2e(a0:Xe)(a1:X7)(a2:N)(a3:Xa):L (H X8):= (Q4 a0).bind fun r1=> if r1 then(
 (A1f a1 a2 a3).bind fun r3=>
 if r3 then(
 (A3v a1 a2 a3).bind fun r5=>
 (A4h a0 r5).bind fun r6=>
 (A44 a1 a2 a3).bind fun r7=>
 (A0o r6 r7).bind fun r9=>
 E r9)
 else(
 E ([]:H X8))) else(
 E ([]:H X8))
/- impl_voyageOf -/
def V4(a4:H N)(a0:Xe)(a1:X7)(a2:Xa)(y11:H N)(y12:N):P→N→(H O)→(H N)→(H (H X8))→L (Xk × O)
| 0,_,_,_,_=>G
| n+1,v13,v14,v15,v16=>
 if(decide (v13<y12)) then(
 (ix y11 v13).bind fun x18=>
 (ix a1.Points x18).bind fun x19=>
 if C5 v14.length ([x19.Wait]:H O).length 1 then(
  (ix a4 v13).bind fun x21=>
  (ix a1.Segments x21).bind fun x22=>
  (L3 a2 x22).bind fun r23=>
  if C5 v15.length ([r23]:H N).length 8 then(
  (A2e a0 a1 x21 a2).bind fun r25=>
  if C5 v16.length ([r25]:H (H X8)).length 24 then(
   V4 a4 a0 a1 a2 y11 y12 n (zB .i64 (v13+(1:N))) (v14++([x19.Wait]:H O)) (v15++([r23]:H N)) (v16++([r25]:H (H X8))))
  else G)
  else G)
 else G)
 else(
 E ((⟨v14,v15,v16⟩:Xk),T))
def V0(a3:N)(a4:H N)(a0:Xe)(a1:X7)(a2:Xa)(v7:O):L (Xk × O):= if v7 then(
 E ((⟨([]:H O),([]:H N),([]:H (H X8))⟩:Xk),F)) else(
 (M4 a1 a3 a4).bind fun r9=>
 (bnd (r9.length:N) (a4.length:N) (0:N) r9.length).bind fun p10=>
 V4 a4 a0 a1 a2 ((r9.drop p10.1).take (p10.2 - p10.1)) (((r9.drop p10.1).take (p10.2 - p10.1)).length:N) bigN (0:N) ([]:H O) ([]:H N) ([]:H (H X8)))
def A38(a0:Xe)(a1:X7)(a2:Xa)(a3:N)(a4:H N):L (Xk × O):= (Q4 a0).bind fun r1=> if r1 then(
 (U3 a2).bind fun r3=>
 if r3 then(
 (A1a a1 a3 a4).bind fun r5=>
 if r5 then(
  V0 a3 a4 a0 a1 a2 ((a4.length:N)==(0:N)))
 else(
  V0 a3 a4 a0 a1 a2 T))
 else(
 V0 a3 a4 a0 a1 a2 T)) else(
 V0 a3 a4 a0 a1 a2 T)
/- impl_callVoyage -/
def W0(a2:H N)(a0:X4)(a1:X9)(v4:O):L (Xk × O):= if v4 then(
 E ((⟨([]:H O),([]:H N),([]:H (H X8))⟩:Xk),F)) else(
 (ix a0.Fleet a1.Ship).bind fun x6=>
 (A38 a0.Forecast a0.Chart x6 a1.From a2).bind fun r7=>
 E (r7.1,r7.2))
def Q3(a0:X4)(a1:X9)(a2:H N):L (Xk × O):= (M4 a0.Chart a1.From a2).bind fun r1=> if((r1.length:N)==(0:N)) then(
 W0 a2 a0 a1 T) else(
 (ix r1 (zB .i64 ((r1.length:N) - (1:N)))).bind fun x3=>
 W0 a2 a0 a1 (x3 !=a1.To))
/- impl_HasMinute -/
def T2(a1:N)(a0:H X8):P→N→L O
| 0,_=>G
| n+1,v1=>
 if(decide (v1<(a0.length:N))) then(
 (ix a0 v1).bind fun x3=>
 (E1 a1 x3.From x3.To).bind fun r4=>
 if r4 then(
  E T)
 else(
  T2 a1 a0 n (zB .i64 (v1+(1:N)))))
 else(
 E F)
def A47(a0:H X8)(a1:N):L O:= T2 a1 a0 bigN (0:N)
/- impl_NextMinute -/
def R4(a1:N)(a0:H X8):P→N→L N
| 0,_=>G
| n+1,v3=>
 if(decide (v3<(a0.length:N))) then(
 (ix a0 v3).bind fun x5=>
 if(decide (a1≤x5.To)) then(
  E (if x5.From<a1 then a1 else x5.From))
 else(
  R4 a1 a0 n (zB .i64 (v3+(1:N)))))
 else(
 E (-1:N))
def A2a(a0:H X8)(a1:N):L N:= (A3a a0).bind fun r1=> if r1 then(
 R4 a1 a0 bigN (0:N)) else(
 E (-1:N))
/- impl_voyage_sail -/
def J9(v4 r10:N)(a0:Xk)(v5:H N)(A2g:N→(H N)→L ((H N) × O))(v14:O):L ((H N) × O):= if v14 then(
 E (([]:H N),F)) else(
 if C5 v5.length ([r10]:H N).length 8 then(
 A2g (zB .i64 (v4+(1:N))) (v5++([r10]:H N)))
 else G)
def F6(a0:Xk):P→N→(H N)→L ((H N) × O)
| 0,_,_=>G
| n+1,v4,v5=>
 if(decide (v4<(a0.sure.length:N))) then(
 (ix v5 (zB .i64 (v4 - (1:N)))).bind fun x7=>
 (ix a0.minutes (zB .i64 (v4 - (1:N)))).bind fun x8=>
 (ix a0.sure v4).bind fun x9=>
 (A2a x9 (zB .i64 (x7+x8))).bind fun r10=>
 if(decide (r10<(0:N))) then(
  J9 v4 r10 a0 v5 (F6 a0 n) T)
 else(
  if(decide ((zB .i64 (x7+x8))<r10)) then(
  (ix a0.waits v4).bind fun x13=>
  J9 v4 r10 a0 v5 (F6 a0 n) (!x13))
  else(
  J9 v4 r10 a0 v5 (F6 a0 n) F)))
 else(
 E (v5,T))
def A1r(a0:Xk)(a1:N):L ((H N) × O):= (ix a0.sure (0:N)).bind fun x1=> (A47 x1 a1).bind fun r2=> if r2 then(
 F6 a0 bigN (1:N) ([a1]:H N)) else(
 E (([]:H N),F))
/- impl_PassagesOf -/
def R7(a1:N)(a5 a4:H N)(a0:X7)(a2:Xa)(r6:(H N)):P→N→(H X5)→L (H X5)
| 0,_,_=>G
| n+1,v7,v8=>
 if(decide (v7<(a4.length:N))) then(
 (ix a4 v7).bind fun x10=>
 (ix a5 v7).bind fun x11=>
 (I4 x11).bind fun r12=>
 if r12 then(
  (ix a0.Segments x10).bind fun x14=>
  (ix r6 v7).bind fun x15=>
  (L3 a2 x14).bind fun r16=>
  if C5 v8.length ([(⟨a1,x10,(x15==x14.A),x11,(zB .i64 (x11+r16))⟩:X5)]:H X5).length 40 then(
  R7 a1 a5 a4 a0 a2 r6 n (zB .i64 (v7+(1:N))) (v8++([(⟨a1,x10,(x15==x14.A),x11,(zB .i64 (x11+r16))⟩:X5)]:H X5)))
  else G)
 else(
  E ([]:H X5)))
 else(
 E v8)
def A18(a0:X7)(a1:N)(a2:Xa)(a3:N)(a4 a5:H N):L (H X5):= (A1a a0 a3 a4).bind fun r1=> if r1 then(
 (U3 a2).bind fun r3=>
 if r3 then(
 if((a4.length:N) !=(a5.length:N)) then(
  E ([]:H X5))
 else(
  (M4 a0 a3 a4).bind fun r6=>
  R7 a1 a5 a4 a0 a2 r6 bigN (0:N) ([]:H X5)))
 else(
 E ([]:H X5))) else(
 E ([]:H X5))
/- impl_ArrivalOf -/
def A2v(a0:X7)(a1:Xa)(a2 a3:H N):L N:= (L4 a0 a2).bind fun r1=> if(decide (r1<(0:N))) then(
 E (-1:N)) else(
 (U3 a1).bind fun r3=>
 if r3 then(
 if((a2.length:N)==(0:N)) then(
  E (-1:N))
 else(
  if((a2.length:N) !=(a3.length:N)) then(
  E (-1:N))
  else(
  (ix a3 (zB .i64 ((a2.length:N) - (1:N)))).bind fun x7=>
  (I4 x7).bind fun r9=>
  if r9 then(
   (ix a2 (zB .i64 ((a2.length:N) - (1:N)))).bind fun x11=>
   (ix a0.Segments x11).bind fun x12=>
   (L3 a1 x12).bind fun r13=>
   E (zB .i64 (x7+r13)))
  else(
   E (-1:N)))))
 else(
 E (-1:N)))
/- impl_option -/
def A0d(a2:Xk)(a4 r5:N)(r4:(H X5)):P→N→N→L (X0 × O)
| 0,_,_=>G
| n+1,v6,v7=>
 if(decide (v6<(a2.minutes.length:N))) then(
 (ix a2.minutes v6).bind fun x9=>
 A0d a2 a4 r5 r4 n (zB .i64 (v6+(1:N))) (zB .i64 (v7 - x9)))
 else(
 E ((⟨a4,r5,v7,r4⟩:X0),(decide (r5≤(2880:N)))))
def W5(a0:X4)(a1:X9)(a2:Xk)(a3:H N)(a4:N):L (X0 × O):= (A1r a2 a4).bind fun r1=> if r1.2 then(
 (ix a0.Fleet a1.Ship).bind fun x3=>
 (A18 a0.Chart a1.Ship x3 a1.From a3 r1.1).bind fun r4=>
 (A2v a0.Chart x3 a3 r1.1).bind fun r5=>
 A0d a2 a4 r5 r4 bigN (0:N) (zB .i64 (r5 - a1.Ready))) else(
 E ((⟨(0:N),(0:N),(0:N),([]:H X5)⟩:X0),F))
/- impl_OptionsOf -/
def Z0(r3:(H N) × O)(v7:N)(a0:X4)(a1:X9)(r4:Xk × O)(A31:N→(H X0)→L (H X0))(v14:H X0):L (H X0):= A31 (zB .i64 (v7+(15:N))) v14
def K6(r3:(H N) × O)(a0:X4)(a1:X9)(r4:Xk × O):P→N→(H X0)→L (H X0)
| 0,_,_=>G
| n+1,v7,v8=>
 if(decide (v7≤a1.Due)) then(
 if(decide ((v8.length:N)<(8:N))) then(
  (W5 a0 a1 r4.1 r3.1 v7).bind fun r11=>
  if r11.2 then(
  if C5 v8.length ([r11.1]:H X0).length 48 then(
   Z0 r3 v7 a0 a1 r4 (K6 r3 a0 a1 r4 n) (v8++([r11.1]:H X0)))
  else G)
  else(
  Z0 r3 v7 a0 a1 r4 (K6 r3 a0 a1 r4 n) v8))
 else(
  E v8))
 else(
 E v8)
def T9(a0:X4)(a1:X9):L (H X0):= (A3p a0 a1).bind fun r1=> if r1 then(
 (A3g a0.Chart a1.From a1.To).bind fun r3=>
 (Q3 a0 a1 r3.1).bind fun r4=>
 if r3.2 then(
 if r4.2 then(
  K6 r3 a0 a1 r4 bigN a1.Ready ([]:H X0))
 else(
  E ([]:H X0)))
 else(
 E ([]:H X0))) else(
 E ([]:H X0))
/- impl_allOptions -/
def R9(a1:H X9)(a0:X4):P→N→(H (H X0))→L (H (H X0))
| 0,_,_=>G
| n+1,v1,v2=>
 if(decide (v1<(a1.length:N))) then(
 (ix a1 v1).bind fun x4=>
 (T9 a0 x4).bind fun r5=>
 if C5 v2.length ([r5]:H (H X0)).length 24 then(
  R9 a1 a0 n (zB .i64 (v1+(1:N))) (v2++([r5]:H (H X0))))
 else G)
 else(
 E v2)
def A0s(a0:X4)(a1:H X9):L (H (H X0)):= R9 a1 a0 bigN (0:N) ([]:H (H X0))
/- impl_weight_less -/
def A1j(a0 a1:Xj):L O:= if(decide (a0.i0<a1.i0)) then(
 E T) else(
 if(a0.i0==a1.i0) then(
 E (decide (a0.i1<a1.i1)))
 else(
 E F))
/- impl_Overlaps -/
def A3s(a0 a1:X5):L O:= E (decide ((if a0.Start<a1.Start then a1.Start else a0.Start)<(if a1.End<a0.End then a1.End else a0.End)))
/- impl_near -/
def A6u(a0 a1 a2:N):L O:= E (decide ((IntKind.u64.wrap ((IntKind.u64.wrap (if a0<a1 then a1 else a0)) - (IntKind.u64.wrap (if a1<a0 then a1 else a0))))<(IntKind.u64.wrap a2)))
/- impl_conflict -/
def A0t(a2 a3:X5)(v22:O):L N:= if v22 then(
 E (3:N)) else(
 if(decide (a2.Start<a3.Start)) then(
 if(decide (a3.End<a2.End)) then(
  E (4:N))
 else(
  if(decide (a3.Start<a2.Start)) then(
  if(decide (a2.End<a3.End)) then(
   E (4:N))
  else(
   E (0:N)))
  else(
  E (0:N))))
 else(
 if(decide (a3.Start<a2.Start)) then(
  if(decide (a2.End<a3.End)) then(
  E (4:N))
  else(
  E (0:N)))
 else(
  E (0:N))))
def Q7(a1:Xl)(a2 a3:X5)(v15 v16:O):L N:= if v15 then(
 E (2:N)) else(
 if(a2.Toward==a3.Toward) then(
 (A6u a2.Start a3.Start a1.Gap).bind fun r19=>
 if r19 then(
  A0t a2 a3 T)
 else(
  (A6u a2.End a3.End a1.Gap).bind fun r21=>
  A0t a2 a3 r21))
 else(
 E (0:N)))
def A0u(a0:X7)(a1:Xl)(a2 a3:X5)(v7:O):L N:= if v7 then(
 E (1:N)) else(
 if(a2.Ship==a3.Ship) then(
 E (0:N))
 else(
 if(a2.Toward==a3.Toward) then(
  Q7 a1 a2 a3 F a1.NoMeet)
 else(
  (A3s a2 a3).bind fun r11=>
  if r11 then(
  if a1.NoMeet then(
   Q7 a1 a2 a3 T T)
  else(
   (ix a0.Segments a2.Segment).bind fun x14=>
   Q7 a1 a2 a3 (!x14.Meet) F))
  else(
  Q7 a1 a2 a3 F a1.NoMeet))))
def A0q(a0:X7)(a1:Xl)(a2 a3:X5)(v3:O):L N:= if v3 then(
 E (0:N)) else(
 if(a2.Ship==a3.Ship) then(
 (A3s a2 a3).bind fun r6=>
 A0u a0 a1 a2 a3 r6)
 else(
 A0u a0 a1 a2 a3 F))
def A4a(a0:X7)(a1:Xl)(a2 a3:X5):L N:= if(a2.Segment !=a3.Segment) then(
 A0q a0 a1 a2 a3 T) else(
 (D2 a2.Segment (a0.Segments.length:N)).bind fun r2=>
 A0q a0 a1 a2 a3 (!r2))
/- impl_clashes -/
def Y3(a3 a2:H X5)(v1:N)(a0:X7)(a1:Xl)(x3:X5)(A3f:N→L O):P→N→L O
| 0,_=>G
| n+1,v4=>
 if(decide (v4<(a3.length:N))) then(
 (ix a3 v4).bind fun x6=>
 (A4a a0 a1 x3 x6).bind fun r7=>
 if(r7 !=(0:N)) then(
  E T)
 else(
  Y3 a3 a2 v1 a0 a1 x3 A3f n (zB .i64 (v4+(1:N)))))
 else(
 A3f (zB .i64 (v1+(1:N))))
def P4(a3 a2:H X5)(a0:X7)(a1:Xl):P→N→L O
| 0,_=>G
| n+1,v1=>
 if(decide (v1<(a2.length:N))) then(
 (ix a2 v1).bind fun x3=>
 Y3 a3 a2 v1 a0 a1 x3 (P4 a3 a2 a0 a1 n) bigN (0:N))
 else(
 E F)
def A6d(a0:X7)(a1:Xl)(a2 a3:H X5):L O:= P4 a3 a2 a0 a1 bigN (0:N)
/- impl_clone_Option -/
def J2(a0:H X0):L (H X0):= (mkS (0:N) (a0.length:N) 48).bind fun n1=> if C5 (I n1 (⟨(0:N),(0:N),(0:N),([]:H X5)⟩:X0)).length a0.length 48 then(
 E ((I n1 (⟨(0:N),(0:N),(0:N),([]:H X5)⟩:X0))++a0)) else G
/- impl_Passage_ends -/
def W1(a0:X5)(a1:X7):L (N × N):= (ix a1.Segments a0.Segment).bind fun x1=> if a0.Toward then(
 E (x1.A,x1.B)) else(
 E (x1.B,x1.A))
/- impl_duty -/
def A5o(a0:X7)(a1 a2:X5):L Xd:= (W1 a1 a0).bind fun r1=> (W1 a2 a0).bind fun r2=> E (⟨a1.Start,a2.End,r1.1,r2.2⟩:Xd)
/- impl_passageOk -/
def A3b(a0:X7)(a1:H Xa)(a2:X5):L O:= (D2 a2.Ship (a1.length:N)).bind fun r1=> if r1 then(
 (D2 a2.Segment (a0.Segments.length:N)).bind fun r3=>
 if r3 then(
 (I4 a2.Start).bind fun r5=>
 if r5 then(
  if(decide ((2880:N)<a2.End)) then(
  E F)
  else(
  (ix a1 a2.Ship).bind fun x8=>
  (ix a0.Segments a2.Segment).bind fun x9=>
  (L3 x8 x9).bind fun r10=>
  E (a2.End==(zB .i64 (a2.Start+r10)))))
 else(
  E F))
 else(
 E F)) else(
 E F)
/- impl_PassageOk -/
def A21(a0:X7)(a1:H Xa)(a2:X5):L O:= (M1 a0).bind fun r1=> if r1 then(
 (A2o a1).bind fun r3=>
 if r3 then(
 (A3b a0 a1 a2).bind fun r5=>
 E r5)
 else(
 E F)) else(
 E F)
/- impl_tugDuties -/
def O5(a1:H Xa)(a2:H X5)(v1:N)(x7:Xa)(a0:X7)(x4:X5)(A1o:N→(H Xd)→L ((H Xd) × O)):P→N→(H Xd)→L ((H Xd) × O)
| 0,_,_=>G
| n+1,v8,v9=>
 if(decide (v8<x7.Tugs)) then(
 (A5o a0 x4 x4).bind fun r11=>
 if C5 v9.length ([r11]:H Xd).length 32 then(
  O5 a1 a2 v1 x7 a0 x4 A1o n (zB .i64 (v8+(1:N))) (v9++([r11]:H Xd)))
 else G)
 else(
 if(decide ((12:N)<(v9.length:N))) then(
  E (([]:H Xd),F))
 else(
  A1o (zB .i64 (v1+(1:N))) v9))
def K4(a1:H Xa)(a2:H X5)(a0:X7):P→N→(H Xd)→L ((H Xd) × O)
| 0,_,_=>G
| n+1,v1,v2=>
 if(decide (v1<(a2.length:N))) then(
 (ix a2 v1).bind fun x4=>
 (A21 a0 a1 x4).bind fun r5=>
 if r5 then(
  (ix a1 x4.Ship).bind fun x7=>
  O5 a1 a2 v1 x7 a0 x4 (K4 a1 a2 a0 n) bigN (0:N) v2)
 else(
  E (([]:H Xd),F)))
 else(
 E (v2,T))
def A46(a0:X7)(a1:H Xa)(a2:H X5):L ((H Xd) × O):= K4 a1 a2 a0 bigN (0:N) ([]:H Xd)
/- impl_DutiesOk -/
def V7(a0:H Xd):P→N→L O
| 0,_=>G
| n+1,v2=>
 if(decide (v2<(a0.length:N))) then(
 (ix a0 v2).bind fun x4=>
 if(decide (x4.From<(0:N))) then(
  E F)
 else(
  if(decide (x4.To≤x4.From)) then(
  E F)
  else(
  if(decide ((2880:N)<x4.To)) then(
   E F)
  else(
   (D2 x4.A (8:N)).bind fun r9=>
   if r9 then(
   (D2 x4.B (8:N)).bind fun r11=>
   if r11 then(
    V7 a0 n (zB .i64 (v2+(1:N))))
   else(
    E F))
   else(
   E F)))))
 else(
 E T)
def A0k(a0:H Xd):L O:= if(decide ((12:N)<(a0.length:N))) then(
 E F) else(
 V7 a0 bigN (0:N))
/- impl_coverable -/
def A1b(a0:N)(a1:H N)(a2:H Xd):L O:= (A0k a2).bind fun r1=> if r1 then(
 (I4 a0).bind fun r3=>
 if r3 then(
 (Z2 a1).bind fun r5=>
 E r5)
 else(
 E F)) else(
 E F)
/- impl_Gap -/
def A20(a0:N)(a1:H N)(a2 a3:Xd)(v8:O):L (N × O):= if v8 then(
 E ((0:N),F)) else(
 (ix a1 (zB .i64 ((zB .i64 ((8:N)*a2.B))+a3.A))).bind fun x10=>
 E ((zB .i64 (a0+x10)),T))
def A9g(a0:N)(a1:H N)(a2 a3:Xd):L (N × O):= (I4 a0).bind fun r1=> if r1 then(
 (Z2 a1).bind fun r3=>
 if r3 then(
 (D2 a2.B (8:N)).bind fun r5=>
 if r5 then(
  (D2 a3.A (8:N)).bind fun r7=>
  A20 a0 a1 a2 a3 (!r7))
 else(
  A20 a0 a1 a2 a3 T))
 else(
 A20 a0 a1 a2 a3 T)) else(
 A20 a0 a1 a2 a3 T)
/- impl_CanFollow -/
def A1d(a0:N)(a1:H N)(a2 a3:Xd):L O:= (A9g a0 a1 a2 a3).bind fun r1=> if r1.2 then(
 (A0k ([a2]:H Xd)).bind fun r3=>
 if r3 then(
 (A0k ([a3]:H Xd)).bind fun r5=>
 if r5 then(
  E (decide ((zB .i64 (a2.To+r1.1))≤a3.From)))
 else(
  E F))
 else(
 E F)) else(
 E F)
/- impl_partners -/
def V5(a0:N)(a1:H N)(a2:H Xd)(v2 v6:N)(x5:Xd)(v7:H N)(A19:N→(H N)→L (H N))(v14:O):L (H N):= if v14 then(
 (ix v7 v2).bind fun x16=>
 if decide (v6<0) then G else
 A19 (zB .i64 (v6+(1:N))) (v7.set (W v2) (J7 .or .u64 x16 (A0x .u64 (1:N) v6)))) else(
 A19 (zB .i64 (v6+(1:N))) v7)
def G6(a0:N)(a1:H N)(a2:H Xd)(v2:N)(x5:Xd)(L8:N→(H N)→L (H N)):P→N→(H N)→L (H N)
| 0,_,_=>G
| n+1,v6,v7=>
 if(decide (v6<(a2.length:N))) then(
 (ix a2 v6).bind fun x9=>
 if(v2 !=v6) then(
  (A1d a0 a1 x5 x9).bind fun r11=>
  if r11 then(
  V5 a0 a1 a2 v2 v6 x5 v7 (G6 a0 a1 a2 v2 x5 L8 n) T)
  else(
  (A1d a0 a1 x9 x5).bind fun r13=>
  V5 a0 a1 a2 v2 v6 x5 v7 (G6 a0 a1 a2 v2 x5 L8 n) r13))
 else(
  V5 a0 a1 a2 v2 v6 x5 v7 (G6 a0 a1 a2 v2 x5 L8 n) F))
 else(
 L8 (zB .i64 (v2+(1:N))) v7)
def L7(a0:N)(a1:H N)(a2:H Xd):P→N→(H N)→L (H N)
| 0,_,_=>G
| n+1,v2,v3=>
 if(decide (v2<(a2.length:N))) then(
 (ix a2 v2).bind fun x5=>
 G6 a0 a1 a2 v2 x5 (L7 a0 a1 a2 n) bigN (0:N) v3)
 else(
 E v3)
def A34(a0:N)(a1:H N)(a2:H Xd):L (H N):= (mkS (a2.length:N) (a2.length:N) 8).bind fun n1=> L7 a0 a1 a2 bigN (0:N) (I n1 (0:N))
/- math_bits_Len64 -/
def W2(v8 v9:N):L N:= (ix ([0,1,2,2,3,3,3,3,4,4,4,4,4,4,4,4,5,5,5,5,5,5,5,5,5,5,5,5,5,5,5,5,6,6,6,6,6,6,6,6,6,6,6,6,6,6,6,6,6,6,6,6,6,6,6,6,6,6,6,6,6,6,6,6,7,7,7,7,7,7,7,7,7,7,7,7,7,7,7,7,7,7,7,7,7,7,7,7,7,7,7,7,7,7,7,7,7,7,7,7,7,7,7,7,7,7,7,7,7,7,7,7,7,7,7,7,7,7,7,7,7,7,7,7,7,7,7,7,8,8,8,8,8,8,8,8,8,8,8,8,8,8,8,8,8,8,8,8,8,8,8,8,8,8,8,8,8,8,8,8,8,8,8,8,8,8,8,8,8,8,8,8,8,8,8,8,8,8,8,8,8,8,8,8,8,8,8,8,8,8,8,8,8,8,8,8,8,8,8,8,8,8,8,8,8,8,8,8,8,8,8,8,8,8,8,8,8,8,8,8,8,8,8,8,8,8,8,8,8,8,8,8,8,8,8,8,8,8,8,8,8,8,8,8,8,8,8,8,8,8,8,8,8,8,8,8]:H Q) (IntKind.u8.wrap v8)).bind fun b10=> E (zB .i64 (v9+(zB .i64 (b10.toNat:N))))
def A0z(v5 v6:N):L N:= if(decide ((256:N)≤v5)) then(
 W2 (A0p .u64 v5 8) (zB .i64 (v6+(8:N)))) else(
 W2 v5 v6)
def A04(v2 v3:N):L N:= if(decide ((65536:N)≤v2)) then(
 A0z (A0p .u64 v2 16) (zB .i64 (v3+(16:N)))) else(
 A0z v2 v3)
def A4g(a0:N):L N:= if(decide ((4294967296:N)≤a0)) then(
 A04 (A0p .u64 a0 32) (32:N)) else(
 A04 a0 (0:N))
/- math_bits_Len -/
def A1w(a0:N):L N:= (A4g a0).bind fun r1=> E r1
/- impl_leastPersons -/
def T0(a0:H N)(y5 v6:N)(v17 v18 v21:N)(v19:H O)(B7:N→(H O)→(H N)→L N)(A11:N→(H N)→L N)(v28:H N):L N:= if(v21==(0:N)) then(
 B7 (zB .i64 (v6+(1:N))) v19 v28) else(
 A11 (J7 .and .i64 (zB .i64 (v21 - (1:N))) v18) v28)
def I0(a0:H N)(y5 v6:N)(v17 v18:N)(v19:H O)(B7:N→(H O)→(H N)→L N):P→N→(H N)→L N
| 0,_,_=>G
| n+1,v21,v22=>
 if decide (v17<0) then G else
 (ix v19 (J7 .or .i64 v21 (A0x .i64 (1:N) v17))).bind fun x24=>
 if x24 then(
 (ix v22 v6).bind fun x26=>
 (ix v22 (J7 .andNot .i64 v18 v21)).bind fun x27=>
 T0 a0 y5 v6 v17 v18 v21 v19 B7 (I0 a0 y5 v6 v17 v18 v19 B7 n) (v22.set (W v6) (if(zB .i64 ((1:N)+x27))<x26 then(zB .i64 ((1:N)+x27)) else x26)))
 else(
 T0 a0 y5 v6 v17 v18 v21 v19 B7 (I0 a0 y5 v6 v17 v18 v19 B7 n) v22)
def S7(a0:H N)(y5 v6:N)(v8:H N)(B7:N→(H O)→(H N)→L N)(v17 v18:N)(v19:H O):L N:= (ix v8 v6).bind fun x20=> I0 a0 y5 v6 v17 v18 v19 B7 bigN v18 (v8.set (W v6) (a0.length:N))
def F8(a0:H N)(y5:N):P→N→(H O)→(H N)→L N
| 0,_,_,_=>G
| n+1,v6,v7,v8=>
 if(decide (v6<y5)) then(
 (A1w (IntKind.u64.wrap v6)).bind fun r10=>
 if decide ((zB .i64 (r10 - (1:N)))<0) then G else
 (ix v7 (J7 .andNot .i64 v6 (A0x .i64 (1:N) (zB .i64 (r10 - (1:N)))))).bind fun x12=>
 if x12 then(
  (ix a0 (zB .i64 (r10 - (1:N)))).bind fun x14=>
  (ix v7 v6).bind fun x15=>
  S7 a0 y5 v6 v8 (F8 a0 y5 n) (zB .i64 (r10 - (1:N))) (J7 .andNot .i64 v6 (A0x .i64 (1:N) (zB .i64 (r10 - (1:N))))) (v7.set (W v6) ((J7 .andNot .u64 (IntKind.u64.wrap (J7 .andNot .i64 v6 (A0x .i64 (1:N) (zB .i64 (r10 - (1:N)))))) x14)==(0:N))))
 else(
  (ix v7 v6).bind fun x16=>
  S7 a0 y5 v6 v8 (F8 a0 y5 n) (zB .i64 (r10 - (1:N))) (J7 .andNot .i64 v6 (A0x .i64 (1:N) (zB .i64 (r10 - (1:N))))) (v7.set (W v6) F)))
 else(
 (ix v8 (zB .i64 (y5 - (1:N)))).bind fun x30=>
 E x30)
def A00(a0:H N):L N:= if decide ((a0.length:N)<0) then G else (mkS (A0x .i64 (1:N) (a0.length:N)) (A0x .i64 (1:N) (a0.length:N)) 1).bind fun n2=> (mkS (A0x .i64 (1:N) (a0.length:N)) (A0x .i64 (1:N) (a0.length:N)) 8).bind fun n3=> (ix (I n2 F) (0:N)).bind fun x4=> F8 a0 (A0x .i64 (1:N) (a0.length:N)) bigN (1:N) ((I n2 F).set (W (0:N)) T) (I n3 (0:N))
/- impl_coverer_cover -/
def M7(rec_:Xh→L (O × Xh))(a0:Xh)(v2:N)(F4:N→(H N)→N→(H N)→(H N)→L (O × Xh))(v22:H N)(v23:N)(v24 v25:H N):L (O × Xh):= (ix v24 v2).bind fun x26=> if(x26==(0:N)) then(
 (bnd (v24.length:N) v2 0 v24.length).bind fun p28=>
 E (F,(⟨v22,v23,(v24.take p28.2),v25⟩:Xh))) else(
 F4 (zB .i64 (v2+(1:N))) v22 v23 v24 v25)
def Q0(rec_:Xh→L (O × Xh))(a0:Xh)(v2:N)(v3:H N)(v4:N)(v6:H N)(F4:N→(H N)→N→(H N)→(H N)→L (O × Xh))(v11:H N):L (O × Xh):= (ix v11 v2).bind fun x12=> (ix v3 (a0.who.length:N)).bind fun x13=> if((J7 .andNot .u64 x12 x13)==(0:N)) then(
 if decide ((a0.who.length:N)<0) then G else
 if C5 v6.length ([v2]:H N).length 8 then(
 (rec_ (⟨v3,v4,(v11.set (W v2) (J7 .or .u64 x12 (A0x .u64 (1:N) (a0.who.length:N)))),(v6++([v2]:H N))⟩:Xh)).bind fun r17=>
 if r17.1 then(
  E (T,r17.2))
 else(
  (bnd (r17.2.who.length:N) (a0.who.length:N) 0 r17.2.who.length).bind fun p19=>
  (ix r17.2.groups v2).bind fun x20=>
  if decide ((a0.who.length:N)<0) then G else
  M7 rec_ a0 v2 F4 r17.2.sets r17.2.most (r17.2.groups.set (W v2) (J7 .andNot .u64 x20 (A0x .u64 (1:N) (a0.who.length:N)))) (r17.2.who.take p19.2)))
 else G) else(
 M7 rec_ a0 v2 F4 v3 v4 v11 v6)
def F9(rec_:Xh→L (O × Xh))(a0:Xh):P→N→(H N)→N→(H N)→(H N)→L (O × Xh)
| 0,_,_,_,_,_=>G
| n+1,v2,v3,v4,v5,v6=>
 if(decide (v2≤(v5.length:N))) then(
 if(decide (v2<v4)) then(
  if(v2==(v5.length:N)) then(
  if C5 v5.length ([(0:N)]:H N).length 8 then(
   Q0 rec_ a0 v2 v3 v4 v6 (F9 rec_ a0 n) (v5++([(0:N)]:H N)))
  else G)
  else(
  Q0 rec_ a0 v2 v3 v4 v6 (F9 rec_ a0 n) v5))
 else(
  E (F,(⟨v3,v4,v5,v6⟩:Xh))))
 else(
 E (F,(⟨v3,v4,v5,v6⟩:Xh)))
def W4(rec_:Xh→L (O × Xh))(a0:Xh):L (O × Xh):= if((a0.who.length:N)==(a0.sets.length:N)) then(
 E (T,a0)) else(
 F9 rec_ a0 bigN (0:N) a0.sets a0.most a0.groups a0.who)
def G1:P→Xh→L (O × Xh)
| 0,_=>G
| n+1,a0=>W4 (G1 n) a0
def A48(a0:Xh):L (O × Xh):=G1 bigN a0
/- impl_LeastCover -/
def U6(a0:N)(a1:H N)(a2:H Xd):L ((H N) × N × O):= (A1b a0 a1 a2).bind fun r1=> if r1 then(
 (A34 a0 a1 a2).bind fun r3=>
 (A00 r3).bind fun r4=>
 (A48 (⟨r3,r4,([]:H N),([]:H N)⟩:Xh)).bind fun r5=>
 E (r5.2.who,r5.2.most,T)) else(
 E (([]:H N),(0:N),F))
/- impl_coverFits -/
def A06(a0:N)(a1:H N)(a2:H Xd)(a3:N):L O:= if(decide ((a2.length:N)≤a3)) then(
 E T) else(
 (U6 a0 a1 a2).bind fun r2=>
 E (decide (r2.2.1≤a3)))
/- impl_crewFits -/
def Q6(a1:H X0)(a0:X4):P→N→(H X5)→(H Xd)→L O
| 0,_,_,_=>G
| n+1,v1,v2,v3=>
 if(decide (v1<(a1.length:N))) then(
 (ix a1 v1).bind fun x5=>
 if C5 v2.length x5.Passages.length 40 then(
  if(decide ((0:N)<(x5.Passages.length:N))) then(
  (ix x5.Passages (0:N)).bind fun x8=>
  (ix x5.Passages (zB .i64 ((x5.Passages.length:N) - (1:N)))).bind fun x9=>
  (A5o a0.Chart x8 x9).bind fun r10=>
  if C5 v3.length ([r10]:H Xd).length 32 then(
   Q6 a1 a0 n (zB .i64 (v1+(1:N))) (v2++x5.Passages) (v3++([r10]:H Xd)))
  else G)
  else(
  Q6 a1 a0 n (zB .i64 (v1+(1:N))) (v2++x5.Passages) v3))
 else G)
 else(
 (A46 a0.Chart a0.Fleet v2).bind fun r12=>
 if r12.2 then(
  (A06 (0:N) a0.Crew.Moves r12.1 a0.Crew.Tugs).bind fun r14=>
  if r14 then(
  (A06 a0.Crew.Rest a0.Crew.Moves v3 a0.Crew.Pilots).bind fun r16=>
  E r16)
  else(
  E F))
 else(
  E F))
def S6(a0:X4)(a1:H X0):L O:= Q6 a1 a0 bigN (0:N) ([]:H X5) ([]:H Xd)
/- impl_fitsTo -/
def A0m(a1:H X0)(a0:X4)(a2:X0):P→N→L O
| 0,_=>G
| n+1,v1=>
 if(decide (v1<(a1.length:N))) then(
 (ix a1 v1).bind fun x3=>
 (A6d a0.Chart a0.Regime x3.Passages a2.Passages).bind fun r4=>
 if r4 then(
  E F)
 else(
  A0m a1 a0 a2 n (zB .i64 (v1+(1:N)))))
 else(
 (J2 a1).bind fun r6=>
 if C5 r6.length ([a2]:H X0).length 48 then(
  (S6 a0 (r6++([a2]:H X0))).bind fun r9=>
  E r9)
 else G)
def A14(a0:X4)(a1:H X0)(a2:X0):L O:= A0m a1 a0 a2 bigN (0:N)
/- impl_planner_search -/
def J6(w0:(H X0)→L Xj)(rec_:Xc→L Xc)(a0:Xc)(x8:H X0):P→N→X4→(H (H X0))→N→N→O→(H X0)→(H N)→(H N)→L Xc
| 0,_,_,_,_,_,_,_,_,_=>G
| n+1,v9,v10,v11,v12,v13,v14,v15,v16,v17=>
 if(decide (v9<(x8.length:N))) then(
 (ix x8 v9).bind fun x19=>
 (A14 v10 v15 x19).bind fun r20=>
 if r20 then(
  if C5 v15.length ([x19]:H X0).length 48 then(
  if C5 v16.length ([v9]:H N).length 8 then(
   (rec_ (⟨v10,v11,(v15++([x19]:H X0)),(v16++([v9]:H N)),v17,(⟨v12,v13⟩:Xj),v14⟩:Xc)).bind fun r24=>
   (bnd (r24.plan.length:N) (a0.plan.length:N) 0 r24.plan.length).bind fun p25=>
   (bnd (r24.choice.length:N) (a0.plan.length:N) 0 r24.choice.length).bind fun p26=>
   J6 w0 rec_ a0 x8 n (zB .i64 (v9+(1:N))) r24.h r24.choices r24.least.i0 r24.least.i1 r24.found (r24.plan.take p25.2) (r24.choice.take p26.2) r24.best)
  else G)
  else G)
 else(
  J6 w0 rec_ a0 x8 n (zB .i64 (v9+(1:N))) v10 v11 v12 v13 v14 v15 v16 v17))
 else(
 E (⟨v10,v11,v15,v16,v17,(⟨v12,v13⟩:Xj),v14⟩:Xc))
def J4(w0:(H X0)→L Xj)(rec_:Xc→L Xc)(a0:Xc)(r1:Xj)(v5:O):L Xc:= if((a0.plan.length:N)==(a0.choices.length:N)) then(
 (D0 a0.choice).bind fun r7=>
 E (⟨a0.h,a0.choices,a0.plan,a0.choice,r7,r1,T⟩:Xc)) else(
 (ix a0.choices (a0.plan.length:N)).bind fun x8=>
 J6 w0 rec_ a0 x8 bigN (0:N) a0.h a0.choices a0.least.i0 a0.least.i1 v5 a0.plan a0.choice a0.best)
def U5(w0:(H X0)→L Xj)(rec_:Xc→L Xc)(a0:Xc):L Xc:= (w0 a0.plan).bind fun r1=> if a0.found then(
 (A1j r1 a0.least).bind fun r3=>
 if r3 then(
 J4 w0 rec_ a0 r1 T)
 else(
 E (⟨a0.h,a0.choices,a0.plan,a0.choice,a0.best,a0.least,T⟩:Xc))) else(
 J4 w0 rec_ a0 r1 F)
def F7(w0:(H X0)→L Xj):P→Xc→L Xc
| 0,_=>G
| n+1,a0=>U5 w0 (F7 w0 n) a0
def A4v(w0:(H X0)→L Xj)(a0:Xc):L Xc:=F7 w0 bigN a0
/- impl_leastPlan -/
def A2r(a0:X4)(a1:H (H X0))(a2:(H X0)→L Xj):L ((H N) × Xj × O):= (A4v a2 (⟨a0,a1,([]:H X0),([]:H N),([]:H N),(⟨(0:N),(0:N)⟩:Xj),F⟩:Xc)).bind fun r1=> E (r1.best,r1.least,r1.found)
/- impl_CostOf -/
def Z9(a0:H X0):P→N→N→L N
| 0,_,_=>G
| n+1,v1,v2=>
 if(decide (v2<(a0.length:N))) then(
 (ix a0 v2).bind fun x4=>
 Z9 a0 n (zB .i64 (v1+x4.Cost)) (zB .i64 (v2+(1:N))))
 else(
 E v1)
def A62(a0:H X0):L N:= Z9 a0 bigN (0:N) (0:N)
/- impl_byCost -/
def A5l(a0:H X0):L Xj:= (A62 a0).bind fun r1=> E (⟨r1,(0:N)⟩:Xj)
/- impl_BestPlan -/
def A1v(a0:X4)(a1:H X9):L ((H N) × N × O):= (Z4 a0 a1).bind fun r1=> if r1 then(
 (A0s a0 a1).bind fun r3=>
 (A2r a0 r3 (fun z0=>A5l z0)).bind fun r4=>
 E (r4.1,r4.2.1.i0,r4.2.2)) else(
 E (([]:H N),(0:N),F))
/- impl_CanServe -/
def A50(a0:X4)(a1:H X9):L O:= (A1v a0 a1).bind fun r1=> E r1.2.2
/- impl_PlanOf -/
def A0f(a2:H N)(a1:H X9)(a0:X4):P→N→(H X0)→L ((H X0) × O)
| 0,_,_=>G
| n+1,v5,v6=>
 if(decide (v5<(a1.length:N))) then(
 (ix a1 v5).bind fun x8=>
 (T9 a0 x8).bind fun r9=>
 (ix a2 v5).bind fun x10=>
 (D2 x10 (r9.length:N)).bind fun r11=>
 if r11 then(
  (ix r9 x10).bind fun x13=>
  if C5 v6.length ([x13]:H X0).length 48 then(
  A0f a2 a1 a0 n (zB .i64 (v5+(1:N))) (v6++([x13]:H X0)))
  else G)
 else(
  E (([]:H X0),F)))
 else(
 E (v6,T))
def A36(a1:H X9)(a2:H N)(a0:X4)(v3:O):L ((H X0) × O):= if v3 then(
 E (([]:H X0),F)) else(
 A0f a2 a1 a0 bigN (0:N) ([]:H X0))
def A5c(a0:X4)(a1:H X9)(a2:H N):L ((H X0) × O):= (Z4 a0 a1).bind fun r1=> if r1 then(
 A36 a1 a2 a0 ((a2.length:N) !=(a1.length:N))) else(
 A36 a1 a2 a0 T)
/- impl_OptionAt -/
def A2b(a2:H N)(a3:N)(a0:X4)(a1:X9)(v4:O):L (X0 × O):= if v4 then(
 E ((⟨(0:N),(0:N),(0:N),([]:H X5)⟩:X0),F)) else(
 (Q3 a0 a1 a2).bind fun r6=>
 if r6.2 then(
 (W5 a0 a1 r6.1 a2 a3).bind fun r9=>
 if r9.2 then(
  E (r9.1,T))
 else(
  E ((⟨(0:N),(0:N),(0:N),([]:H X5)⟩:X0),F)))
 else(
 E ((⟨(0:N),(0:N),(0:N),([]:H X5)⟩:X0),F)))
def A3t(a0:X4)(a1:X9)(a2:H N)(a3:N):L (X0 × O):= (A3p a0 a1).bind fun r1=> if r1 then(
 (E1 a3 a1.Ready a1.Due).bind fun r3=>
 A2b a2 a3 a0 a1 (!r3)) else(
 A2b a2 a3 a0 a1 T)
/- slices_Equal_Passage -/
def L1(a0 a1:H X5):P→N→L O
| 0,_=>G
| n+1,v2=>
 if(decide (v2<(a0.length:N))) then(
 (ix a0 v2).bind fun x4=>
 (ix a1 v2).bind fun x5=>
 if((x4.Ship==x5.Ship)&&((x4.Segment==x5.Segment)&&((x4.Toward==x5.Toward)&&((x4.Start==x5.Start)&&((x4.End==x5.End)&&T))))) then(
  L1 a0 a1 n (zB .i64 (v2+(1:N))))
 else(
  E F))
 else(
 E T)
def W3(a0 a1:H X5):L O:= if((a0.length:N) !=(a1.length:N)) then(
 E F) else(
 L1 a0 a1 bigN (0:N))
/- impl_SameOptions -/
def A1n(a0 a1:X0):L O:= if(a0.Start==a1.Start) then(
 if(a0.Arrival==a1.Arrival) then(
 if(a0.Cost==a1.Cost) then(
  (W3 a0.Passages a1.Passages).bind fun r4=>
  E r4)
 else(
  E F))
 else(
 E F)) else(
 E F)
/- impl_IsOption -/
def V8(a2:X0)(a0:X4)(a1:X9):P→N→(H N)→L O
| 0,_,_=>G
| n+1,v1,v2=>
 if(decide (v1<(a2.Passages.length:N))) then(
 (ix a2.Passages v1).bind fun x4=>
 if C5 v2.length ([x4.Segment]:H N).length 8 then(
  V8 a2 a0 a1 n (zB .i64 (v1+(1:N))) (v2++([x4.Segment]:H N)))
 else G)
 else(
 (A3t a0 a1 v2 a2.Start).bind fun r6=>
 if r6.2 then(
  (A1n r6.1 a2).bind fun r9=>
  E r9)
 else(
  E F))
def A33(a0:X4)(a1:X9)(a2:X0):L O:= V8 a2 a0 a1 bigN (0:N) ([]:H N)
/- impl_IsPlan -/
def A0i(a2:H X0)(a1:H X9)(a0:X4):P→N→L O
| 0,_=>G
| n+1,v4=>
 if(decide (v4<(a1.length:N))) then(
 (ix a1 v4).bind fun x6=>
 (ix a2 v4).bind fun x7=>
 (A33 a0 x6 x7).bind fun r9=>
 if r9 then(
  (bnd (a2.length:N) v4 (0:N) a2.length).bind fun p11=>
  (A14 a0 ((a2.drop p11.1).take (p11.2 - p11.1)) x7).bind fun r12=>
  if r12 then(
  A0i a2 a1 a0 n (zB .i64 (v4+(1:N))))
  else(
  E F))
 else(
  E F))
 else(
 E T)
def A5k(a0:X4)(a1:H X9)(a2:H X0):L O:= (Z4 a0 a1).bind fun r1=> if r1 then(
 if((a2.length:N) !=(a1.length:N)) then(
 E F)
 else(
 A0i a2 a1 a0 bigN (0:N))) else(
 E F)
/- impl_account -/
def W9(a1:H X9)(a2:H X0)(a0:X4):P→N→(H N)→(H N)→L Xg
| 0,_,_,_=>G
| n+1,v3,v4,v5=>
 if(decide (v3<(a2.length:N))) then(
 (ix a2 v3).bind fun x7=>
 (ix a1 v3).bind fun x8=>
 (ix a0.Fleet x8.Ship).bind fun x9=>
 (ix v4 x9.Line).bind fun x10=>
 (ix v5 x9.Line).bind fun x11=>
 W9 a1 a2 a0 n (zB .i64 (v3+(1:N))) (v4.set (W x9.Line) (zB .i64 (x10+x7.Cost))) (v5.set (W x9.Line) (zB .i64 (x11+(1:N)))))
 else(
 E (⟨v4,v5⟩:Xg))
def A4r(a0:X4)(a1:H X9)(a2:H X0):L Xg:= (mkS (4:N) (4:N) 8).bind fun n1=> (mkS (4:N) (4:N) 8).bind fun n2=> W9 a1 a2 a0 bigN (0:N) (I n1 (0:N)) (I n2 (0:N))
/- impl_AccountOf -/
def A23(a0:X4)(a1:H X9)(a2:H X0):L (Xg × O):= (A5k a0 a1 a2).bind fun r1=> if r1 then(
 (A4r a0 a1 a2).bind fun r3=>
 E (r3,T)) else(
 E ((⟨([]:H N),([]:H N)⟩:Xg),F))
/- laws_countLine -/
def O4(a2:N)(a1:H X9)(a0:X4):P→N→N→L N
| 0,_,_=>G
| n+1,v1,v2=>
 if(decide (v2<(a1.length:N))) then(
 (ix a1 v2).bind fun x4=>
 (ix a0.Fleet x4.Ship).bind fun x5=>
 if(x5.Line==a2) then(
  O4 a2 a1 a0 n (zB .i64 (v1+(1:N))) (zB .i64 (v2+(1:N))))
 else(
  O4 a2 a1 a0 n v1 (zB .i64 (v2+(1:N)))))
 else(
 E v1)
def A2t(a0:X4)(a1:H X9)(a2:N):L N:= O4 a2 a1 a0 bigN (0:N) (0:N)
/- impl_WorstLine -/
def O2(r1:(H N) × (H N)):P→N→N→N→L N
| 0,_,_,_=>G
| n+1,v2,v3,v4=>
 if(decide (v4<(r1.1.length:N))) then(
 (ix r1.1 v4).bind fun x6=>
 if(decide (v3<x6)) then(
  (ix r1.2 v4).bind fun x8=>
  O2 r1 n x8 x6 (zB .i64 (v4+(1:N))))
 else(
  O2 r1 n v2 v3 (zB .i64 (v4+(1:N)))))
 else(
 E v2)
def A26(a0:Xg):L N:= (A4s a0).bind fun r1=> O2 r1 bigN (-1:N) (-1:N) (0:N)
/- laws_FnAccounts -/
def R5(r2:X4 × (H X9))(r17:(H N) × N × O)(r21:Xg × O):P→N→N→N→L O
| 0,_,_,_=>G
| n+1,v25,v26,v27=>
 if(decide (v27<(r21.1.Waits.length:N))) then(
 (ix r21.1.Waits v27).bind fun x29=>
 (ix r21.1.Calls v27).bind fun x30=>
 (A2t r2.1 r2.2 v27).bind fun r31=>
 if(x30 !=r31) then(
  E F)
 else(
  R5 r2 r17 r21 n (zB .i64 (v25+x29)) (zB .i64 (v26+x30)) (zB .i64 (v27+(1:N)))))
 else(
 (A26 r21.1).bind fun r33=>
 if(v25==r17.2.1) then(
  if(v26==(r2.2.length:N)) then(
  if(decide ((0:N)≤r33)) then(
   if(decide (r33<(4:N))) then(
   (ix r21.1.Calls r33).bind fun x38=>
   E (decide ((0:N)<x38)))
   else(
   E F))
  else(
   E F))
  else(
  E F))
 else(
  E F))
def A4l(a0:H N):L O:= if(decide ((1048576:N)<(a0.length:N))) then(
 E T) else(
 (A2z a0).bind fun r2=>
 (O7 a0 (90:N)).bind fun r3=>
 (O7 a0 (110:N)).bind fun r4=>
 (A1m r3 r4).bind fun r5=>
 (Z4 r2.1 r2.2).bind fun r6=>
 if r6 then(
 if r5.2 then(
  (P2 r5.1).bind fun r9=>
  if r9 then(
  (ix r5.1.Waits (1:N)).bind fun x11=>
  (ix r3.Waits (1:N)).bind fun x12=>
  (ix r4.Waits (1:N)).bind fun x13=>
  if(x11 !=(zB .i64 (x12+x13))) then(
   E F)
  else(
   (A32 r3).bind fun r15=>
   if(decide (r15<(0:N))) then(
   E F)
   else(
   (A1v r2.1 r2.2).bind fun r17=>
   if r17.2.2 then(
    (A5c r2.1 r2.2 r17.1).bind fun r20=>
    (A23 r2.1 r2.2 r20.1).bind fun r21=>
    if r21.2 then(
    if((r21.1.Waits.length:N) !=(4:N)) then(
     E F)
    else(
     if((r21.1.Calls.length:N) !=(4:N)) then(
     E F)
     else(
     R5 r2 r17 r21 bigN (0:N) (0:N) (0:N))))
    else(
    E F))
   else(
    (A50 r2.1 r2.2).bind fun r19=>
    E (!r19)))))
  else(
  E F))
 else(
  E F))
 else(
 E F))
end Go.Vi
