/-
  Plain definitions of functions, by program. No condition.
-/
import Derived.Test.YtdgobmphhncomaaDoorTVi34
import Derived.Test.YtdgobmphhncomaaDoorTLa
namespace Go.Vi
set_option linter.unusedSimpArgs false
set_option linter.unusedVariables false
def shrV (k : IntKind) (x : Int) (n : Nat) : Int := k.wrap (x.fdiv (2 ^ min n k.bits))
theorem bin_shr_u6433 {k : IntKind} {x : Int} : binV .shr (.v (.sc (.dat (.int k x)))) (.v (.sc (.dat (.int .u64 33)))) = some (.v (.sc (.dat (.int k (shrV k x 33))))) := by simp [binV, intV, shrV]
theorem bin_shr_u6445 {k : IntKind} {x : Int} : binV .shr (.v (.sc (.dat (.int k x)))) (.v (.sc (.dat (.int .u64 45)))) = some (.v (.sc (.dat (.int k (shrV k x 45))))) := by simp [binV, intV, shrV]
structure XPoint where
  Name : List UInt8
  Wait : Bool
  deriving DecidableEq
def XPoint.row (x : XPoint) : List D := [.str x.Name, .bool x.Wait]
theorem XPoint.row_eq (x : XPoint) : XPoint.row x = [.str x.Name, .bool x.Wait] := rfl
instance : Row XPoint.row 2 := ⟨fun _ => rfl, Nat.le_of_ble_eq_true rfl⟩
instance : FlatRow XPoint.row := ⟨fun x d hd => by simp only [XPoint.row_eq, List.mem_cons, List.not_mem_nil, or_false] at hd; rcases hd with rfl | rfl <;> rfl⟩
instance : OfTy (.st [.str, .bool]) XPoint.row := ⟨fun ds h => by
  obtain ⟨a0, b0, h0, t0, rfl⟩ := h
  obtain ⟨a1, b1, h1, t1, rfl⟩ := t0
  obtain rfl := t1
  obtain ⟨x0, rfl⟩ := OfTy.of (row := rS) _ h0
  obtain ⟨x1, rfl⟩ := OfTy.of (row := rB) _ h1
  exact ⟨⟨x0, x1⟩, rfl⟩⟩
structure XSegment where
  A : Int
  B : Int
  Depth : Int
  Minutes : Int
  Meet : Bool
  deriving DecidableEq
def XSegment.row (x : XSegment) : List D := [.int .i64 x.A, .int .i64 x.B, .int .i64 x.Depth, .int .i64 x.Minutes, .bool x.Meet]
theorem XSegment.row_eq (x : XSegment) : XSegment.row x = [.int .i64 x.A, .int .i64 x.B, .int .i64 x.Depth, .int .i64 x.Minutes, .bool x.Meet] := rfl
instance : Row XSegment.row 5 := ⟨fun _ => rfl, Nat.le_of_ble_eq_true rfl⟩
instance : FlatRow XSegment.row := ⟨fun x d hd => by simp only [XSegment.row_eq, List.mem_cons, List.not_mem_nil, or_false] at hd; rcases hd with rfl | rfl | rfl | rfl | rfl <;> rfl⟩
instance : OfTy (.st [(.int .i64), (.int .i64), (.int .i64), (.int .i64), .bool]) XSegment.row := ⟨fun ds h => by
  obtain ⟨a0, b0, h0, t0, rfl⟩ := h
  obtain ⟨a1, b1, h1, t1, rfl⟩ := t0
  obtain ⟨a2, b2, h2, t2, rfl⟩ := t1
  obtain ⟨a3, b3, h3, t3, rfl⟩ := t2
  obtain ⟨a4, b4, h4, t4, rfl⟩ := t3
  obtain rfl := t4
  obtain ⟨x0, rfl⟩ := OfTy.of (row := rI) _ h0
  obtain ⟨x1, rfl⟩ := OfTy.of (row := rI) _ h1
  obtain ⟨x2, rfl⟩ := OfTy.of (row := rI) _ h2
  obtain ⟨x3, rfl⟩ := OfTy.of (row := rI) _ h3
  obtain ⟨x4, rfl⟩ := OfTy.of (row := rB) _ h4
  exact ⟨⟨x0, x1, x2, x3, x4⟩, rfl⟩⟩
structure XChart where
  Points : List XPoint
  Segments : List XSegment
  deriving DecidableEq
def XChart.row (x : XChart) : List D := [.sl (List.map XPoint.row x.Points), .sl (List.map XSegment.row x.Segments)]
theorem XChart.row_eq (x : XChart) : XChart.row x = [.sl (List.map XPoint.row x.Points), .sl (List.map XSegment.row x.Segments)] := rfl
instance : Row XChart.row 2 := ⟨fun _ => rfl, Nat.le_of_ble_eq_true rfl⟩
instance : OfTy (.st [(.sl (.st [.str, .bool])), (.sl (.st [(.int .i64), (.int .i64), (.int .i64), (.int .i64), .bool]))]) XChart.row := ⟨fun ds h => by
  obtain ⟨a0, b0, h0, t0, rfl⟩ := h
  obtain ⟨a1, b1, h1, t1, rfl⟩ := t0
  obtain rfl := t1
  obtain ⟨x0, rfl⟩ := OfTy.of (row := (rL XPoint.row)) _ h0
  obtain ⟨x1, rfl⟩ := OfTy.of (row := (rL XSegment.row)) _ h1
  exact ⟨⟨x0, x1⟩, rfl⟩⟩
structure Xl01Cur where
  b : List Int
  i : Int
  h : Int
  deriving DecidableEq
def Xl01Cur.row (x : Xl01Cur) : List D := [.sl (List.map r8 x.b), .int .i64 x.i, .int .i64 x.h]
theorem Xl01Cur.row_eq (x : Xl01Cur) : Xl01Cur.row x = [.sl (List.map r8 x.b), .int .i64 x.i, .int .i64 x.h] := rfl
instance : Row Xl01Cur.row 3 := ⟨fun _ => rfl, Nat.le_of_ble_eq_true rfl⟩
instance : OfTy (.st [(.sl (.int .u8)), (.int .i64), (.int .i64)]) Xl01Cur.row := ⟨fun ds h => by
  obtain ⟨a0, b0, h0, t0, rfl⟩ := h
  obtain ⟨a1, b1, h1, t1, rfl⟩ := t0
  obtain ⟨a2, b2, h2, t2, rfl⟩ := t1
  obtain rfl := t2
  obtain ⟨x0, rfl⟩ := OfTy.of (row := (rL r8)) _ h0
  obtain ⟨x1, rfl⟩ := OfTy.of (row := rI) _ h1
  obtain ⟨x2, rfl⟩ := OfTy.of (row := rI) _ h2
  exact ⟨⟨x0, x1, x2⟩, rfl⟩⟩
structure XShip where
  Name : List UInt8
  Length : Int
  Draught : Int
  Line : Int
  Tugs : Int
  Slow : Bool
  deriving DecidableEq
def XShip.row (x : XShip) : List D := [.str x.Name, .int .i64 x.Length, .int .i64 x.Draught, .int .i64 x.Line, .int .i64 x.Tugs, .bool x.Slow]
theorem XShip.row_eq (x : XShip) : XShip.row x = [.str x.Name, .int .i64 x.Length, .int .i64 x.Draught, .int .i64 x.Line, .int .i64 x.Tugs, .bool x.Slow] := rfl
instance : Row XShip.row 6 := ⟨fun _ => rfl, Nat.le_of_ble_eq_true rfl⟩
instance : FlatRow XShip.row := ⟨fun x d hd => by simp only [XShip.row_eq, List.mem_cons, List.not_mem_nil, or_false] at hd; rcases hd with rfl | rfl | rfl | rfl | rfl | rfl <;> rfl⟩
instance : OfTy (.st [.str, (.int .i64), (.int .i64), (.int .i64), (.int .i64), .bool]) XShip.row := ⟨fun ds h => by
  obtain ⟨a0, b0, h0, t0, rfl⟩ := h
  obtain ⟨a1, b1, h1, t1, rfl⟩ := t0
  obtain ⟨a2, b2, h2, t2, rfl⟩ := t1
  obtain ⟨a3, b3, h3, t3, rfl⟩ := t2
  obtain ⟨a4, b4, h4, t4, rfl⟩ := t3
  obtain ⟨a5, b5, h5, t5, rfl⟩ := t4
  obtain rfl := t5
  obtain ⟨x0, rfl⟩ := OfTy.of (row := rS) _ h0
  obtain ⟨x1, rfl⟩ := OfTy.of (row := rI) _ h1
  obtain ⟨x2, rfl⟩ := OfTy.of (row := rI) _ h2
  obtain ⟨x3, rfl⟩ := OfTy.of (row := rI) _ h3
  obtain ⟨x4, rfl⟩ := OfTy.of (row := rI) _ h4
  obtain ⟨x5, rfl⟩ := OfTy.of (row := rB) _ h5
  exact ⟨⟨x0, x1, x2, x3, x4, x5⟩, rfl⟩⟩
structure XWindow where
  From : Int
  To : Int
  deriving DecidableEq
def XWindow.row (x : XWindow) : List D := [.int .i64 x.From, .int .i64 x.To]
theorem XWindow.row_eq (x : XWindow) : XWindow.row x = [.int .i64 x.From, .int .i64 x.To] := rfl
instance : Row XWindow.row 2 := ⟨fun _ => rfl, Nat.le_of_ble_eq_true rfl⟩
instance : FlatRow XWindow.row := ⟨fun x d hd => by simp only [XWindow.row_eq, List.mem_cons, List.not_mem_nil, or_false] at hd; rcases hd with rfl | rfl <;> rfl⟩
instance : OfTy (.st [(.int .i64), (.int .i64)]) XWindow.row := ⟨fun ds h => by
  obtain ⟨a0, b0, h0, t0, rfl⟩ := h
  obtain ⟨a1, b1, h1, t1, rfl⟩ := t0
  obtain rfl := t1
  obtain ⟨x0, rfl⟩ := OfTy.of (row := rI) _ h0
  obtain ⟨x1, rfl⟩ := OfTy.of (row := rI) _ h1
  exact ⟨⟨x0, x1⟩, rfl⟩⟩
theorem rowsX : type_of% (And.intro @rI_eq (And.intro @bin_shr_u6433 (And.intro @bin_shr_u6445 (And.intro @XPoint.row_eq (And.intro @XSegment.row_eq (And.intro @XChart.row_eq (And.intro @Xl01Cur.row_eq (And.intro @XShip.row_eq (@XWindow.row_eq))))))))) := And.intro @rI_eq (And.intro @bin_shr_u6433 (And.intro @bin_shr_u6445 (And.intro @XPoint.row_eq (And.intro @XSegment.row_eq (And.intro @XChart.row_eq (And.intro @Xl01Cur.row_eq (And.intro @XShip.row_eq (@XWindow.row_eq))))))))
/- spec_l01New -/
def f_spec_l01New_2 (a0 : List Int) (v1 : Int) : Option Xl01Cur :=
 some (⟨a0, (0 : Int), v1⟩ : Xl01Cur)
def f_spec_l01New_1 (a0 : List Int) : Nat → Int → Int → Option Xl01Cur
 | 0, _, _ => none
 | n + 1, v1, v2 =>
  if (decide (v2 < (a0.length : Int))) then (
   if (decide (v2 < (4000 : Int))) then (
    (ix a0 v2).bind fun x5 =>
    f_spec_l01New_1 a0 n (bitsV .and .i64 (IntKind.i64.wrap ((IntKind.i64.wrap ((IntKind.i64.wrap (v1 * (79 : Int))) + (IntKind.i64.wrap x5))) + (7 : Int))) (1073741823 : Int)) (IntKind.i64.wrap (v2 + (1 : Int))))
   else (
    f_spec_l01New_2 a0 v1))
  else (
   f_spec_l01New_2 a0 v1)
def f_spec_l01New (a0 : List Int) : Option Xl01Cur :=
 f_spec_l01New_1 a0 bigN (IntKind.i64.wrap ((1976 : Int) + (a0.length : Int))) (0 : Int)
/- spec_l01Byte -/
def f_spec_l01Byte (a0 : Xl01Cur) : Option (Int × Xl01Cur) :=
 if (decide (a0.i < (a0.b.length : Int))) then (
  (ix a0.b a0.i).bind fun x2 =>
  some ((bitsV .and .i64 (IntKind.i64.wrap ((bitsV .and .i64 (bitsV .xor .i64 (shrV .i64 (IntKind.i64.wrap ((IntKind.i64.wrap (a0.h * (6364136223846793005 : Int))) + (1442695040888963407 : Int))) 33) (shrV .i64 (IntKind.i64.wrap ((IntKind.i64.wrap (a0.h * (6364136223846793005 : Int))) + (1442695040888963407 : Int))) 45)) (255 : Int)) + (IntKind.i64.wrap x2))) (255 : Int)), (⟨a0.b, (IntKind.i64.wrap (a0.i + (1 : Int))), (IntKind.i64.wrap ((IntKind.i64.wrap (a0.h * (6364136223846793005 : Int))) + (1442695040888963407 : Int)))⟩ : Xl01Cur)))
 else (
  some ((bitsV .and .i64 (bitsV .xor .i64 (shrV .i64 (IntKind.i64.wrap ((IntKind.i64.wrap (a0.h * (6364136223846793005 : Int))) + (1442695040888963407 : Int))) 33) (shrV .i64 (IntKind.i64.wrap ((IntKind.i64.wrap (a0.h * (6364136223846793005 : Int))) + (1442695040888963407 : Int))) 45)) (255 : Int)), (⟨a0.b, a0.i, (IntKind.i64.wrap ((IntKind.i64.wrap (a0.h * (6364136223846793005 : Int))) + (1442695040888963407 : Int)))⟩ : Xl01Cur)))
/- spec_l28New -/
def f_spec_l28New_1 (a1 : Int) : Nat → Int → (List Int) → Int → Int → Option Xl01Cur
 | 0, _, _, _, _ => none
 | n + 1, v2, v3, v4, v5 =>
  if (decide (v2 < a1)) then (
   (f_spec_l01Byte (⟨v3, v4, v5⟩ : Xl01Cur)).bind fun r7 =>
   f_spec_l28New_1 a1 n (IntKind.i64.wrap (v2 + (1 : Int))) r7.2.b r7.2.i r7.2.h)
  else (
   some (⟨v3, v4, v5⟩ : Xl01Cur))
def f_spec_l28New (a0 : List Int) (a1 : Int) : Option Xl01Cur :=
 (f_spec_l01New a0).bind fun r1 =>
 f_spec_l28New_1 a1 bigN (0 : Int) r1.b r1.i r1.h
/- spec_l01Below -/
def f_spec_l01Below (a0 : Xl01Cur) (a1 : Int) : Option (Int × Xl01Cur) :=
 if (decide (a1 ≤ (0 : Int))) then (
  some ((0 : Int), a0))
 else (
  if (decide (a1 ≤ (256 : Int))) then (
   (f_spec_l01Byte a0).bind fun r3 =>
   if a1 == 0 then none else
   some ((IntKind.i64.wrap (Int.tmod r3.1 a1)), r3.2))
  else (
   (f_spec_l01Byte a0).bind fun r5 =>
   (f_spec_l01Byte r5.2).bind fun r6 =>
   (f_spec_l01Byte r6.2).bind fun r7 =>
   (f_spec_l01Byte r7.2).bind fun r9 =>
   if a1 == 0 then none else
   some ((IntKind.i64.wrap (Int.tmod (IntKind.i64.wrap ((IntKind.i64.wrap ((IntKind.i64.wrap ((IntKind.i64.wrap (r5.1 * (16777216 : Int))) + (IntKind.i64.wrap (r6.1 * (65536 : Int))))) + (IntKind.i64.wrap (r7.1 * (256 : Int))))) + r9.1)) a1)), r9.2)))
/- spec_l01Once -/
def f_spec_l01Once (a0 : Xl01Cur) (a1 : Int) : Option (Bool × Xl01Cur) :=
 (f_spec_l01Below a0 a1).bind fun r1 =>
 some ((r1.1 == (0 : Int)), r1.2)
/- spec_l05Draw -/
def f_spec_l05Draw_1 (v15 : List Int) (v16 : Int) (v17 : Int) (v18 : List XPoint) (v19 : List XSegment) : Option (XChart × Xl01Cur) :=
 (f_spec_l01Once (⟨v15, v16, v17⟩ : Xl01Cur) (3 : Int)).bind fun r20 =>
 if r20.1 then (
  if appB v18.length ([(⟨([100, 111, 99, 107] : List UInt8), true⟩ : XPoint)] : List XPoint).length 24 then (
   (f_spec_l01Below r20.2 (300 : Int)).bind fun r23 =>
   if appB v19.length ([(⟨(2 : Int), (4 : Int), (IntKind.i64.wrap ((800 : Int) + r23.1)), (15 : Int), false⟩ : XSegment)] : List XSegment).length 40 then (
    some ((⟨(v18 ++ ([(⟨([100, 111, 99, 107] : List UInt8), true⟩ : XPoint)] : List XPoint)), (v19 ++ ([(⟨(2 : Int), (4 : Int), (IntKind.i64.wrap ((800 : Int) + r23.1)), (15 : Int), false⟩ : XSegment)] : List XSegment))⟩ : XChart), r23.2))
   else none)
  else none)
 else (
  some ((⟨v18, v19⟩ : XChart), r20.2))
def f_spec_l05Draw (a0 : Xl01Cur) : Option (XChart × Xl01Cur) :=
 (f_spec_l01Once a0 (2 : Int)).bind fun r1 =>
 (f_spec_l01Below r1.2 (300 : Int)).bind fun r2 =>
 (f_spec_l01Below r2.2 (40 : Int)).bind fun r3 =>
 (f_spec_l01Below r3.2 (300 : Int)).bind fun r4 =>
 (f_spec_l01Below r4.2 (30 : Int)).bind fun r5 =>
 (f_spec_l01Once r5.2 (2 : Int)).bind fun r6 =>
 (f_spec_l01Below r6.2 (200 : Int)).bind fun r7 =>
 (f_spec_l01Below r7.2 (20 : Int)).bind fun r9 =>
 (f_spec_l01Once r9.2 (3 : Int)).bind fun r10 =>
 if r10.1 then (
  (f_spec_l01Below r10.2 (300 : Int)).bind fun r12 =>
  (f_spec_l01Below r12.2 (30 : Int)).bind fun r13 =>
  if appB ([(⟨(0 : Int), (1 : Int), (IntKind.i64.wrap ((900 : Int) + r2.1)), (IntKind.i64.wrap ((10 : Int) + r3.1)), false⟩ : XSegment), (⟨(1 : Int), (2 : Int), (IntKind.i64.wrap ((800 : Int) + r4.1)), (IntKind.i64.wrap ((10 : Int) + r5.1)), r6.1⟩ : XSegment), (⟨(2 : Int), (3 : Int), (IntKind.i64.wrap ((900 : Int) + r7.1)), (IntKind.i64.wrap ((5 : Int) + r9.1)), false⟩ : XSegment)] : List XSegment).length ([(⟨(3 : Int), (1 : Int), (IntKind.i64.wrap ((700 : Int) + r12.1)), (IntKind.i64.wrap ((20 : Int) + r13.1)), true⟩ : XSegment)] : List XSegment).length 40 then (
   f_spec_l05Draw_1 r13.2.b r13.2.i r13.2.h ([(⟨([115, 101, 97] : List UInt8), true⟩ : XPoint), (⟨([98, 97, 114] : List UInt8), false⟩ : XPoint), (⟨([114, 111, 97, 100] : List UInt8), r1.1⟩ : XPoint), (⟨([113, 117, 97, 121] : List UInt8), true⟩ : XPoint)] : List XPoint) (([(⟨(0 : Int), (1 : Int), (IntKind.i64.wrap ((900 : Int) + r2.1)), (IntKind.i64.wrap ((10 : Int) + r3.1)), false⟩ : XSegment), (⟨(1 : Int), (2 : Int), (IntKind.i64.wrap ((800 : Int) + r4.1)), (IntKind.i64.wrap ((10 : Int) + r5.1)), r6.1⟩ : XSegment), (⟨(2 : Int), (3 : Int), (IntKind.i64.wrap ((900 : Int) + r7.1)), (IntKind.i64.wrap ((5 : Int) + r9.1)), false⟩ : XSegment)] : List XSegment) ++ ([(⟨(3 : Int), (1 : Int), (IntKind.i64.wrap ((700 : Int) + r12.1)), (IntKind.i64.wrap ((20 : Int) + r13.1)), true⟩ : XSegment)] : List XSegment)))
  else none)
 else (
  f_spec_l05Draw_1 r10.2.b r10.2.i r10.2.h ([(⟨([115, 101, 97] : List UInt8), true⟩ : XPoint), (⟨([98, 97, 114] : List UInt8), false⟩ : XPoint), (⟨([114, 111, 97, 100] : List UInt8), r1.1⟩ : XPoint), (⟨([113, 117, 97, 121] : List UInt8), true⟩ : XPoint)] : List XPoint) ([(⟨(0 : Int), (1 : Int), (IntKind.i64.wrap ((900 : Int) + r2.1)), (IntKind.i64.wrap ((10 : Int) + r3.1)), false⟩ : XSegment), (⟨(1 : Int), (2 : Int), (IntKind.i64.wrap ((800 : Int) + r4.1)), (IntKind.i64.wrap ((10 : Int) + r5.1)), r6.1⟩ : XSegment), (⟨(2 : Int), (3 : Int), (IntKind.i64.wrap ((900 : Int) + r7.1)), (IntKind.i64.wrap ((5 : Int) + r9.1)), false⟩ : XSegment)] : List XSegment))
/- spec_MakeChart -/
def f_spec_MakeChart (a0 : List Int) (a1 : Int) : Option XChart :=
 (f_spec_l28New a0 a1).bind fun r1 =>
 (f_spec_l05Draw r1).bind fun r2 =>
 some r2.1
/- spec_FormatInt -/
def f_spec_FormatInt_1 (rec_ : Int → Option (List UInt8)) : Nat → Int → (List UInt8) → Option (List UInt8)
 | 0, _, _ => none
 | n + 1, v6, v7 =>
  if (decide ((9 : Int) < v6)) then (
   if catB ([(IntKind.u8.wrap (IntKind.i64.wrap ((48 : Int) + (IntKind.i64.wrap (Int.tmod v6 (10 : Int))))))] : List Int).length v7.length then (
    f_spec_FormatInt_1 rec_ n (IntKind.i64.wrap (Int.tdiv v6 (10 : Int))) ((List.map toU8 ([(IntKind.u8.wrap (IntKind.i64.wrap ((48 : Int) + (IntKind.i64.wrap (Int.tmod v6 (10 : Int))))))] : List Int)) ++ v7))
   else none)
  else (
   if catB ([(IntKind.u8.wrap (IntKind.i64.wrap ((48 : Int) + v6)))] : List Int).length v7.length then (
    some ((List.map toU8 ([(IntKind.u8.wrap (IntKind.i64.wrap ((48 : Int) + v6)))] : List Int)) ++ v7))
   else none)
def f_spec_FormatInt_b (rec_ : Int → Option (List UInt8)) (a0 : Int) : Option (List UInt8) :=
 if (decide (a0 < (0 : Int))) then (
  if ((IntKind.i64.wrap (Int.tdiv a0 (10 : Int))) == (0 : Int)) then (
   if catB ([45] : List UInt8).length ([(IntKind.u8.wrap (IntKind.i64.wrap ((48 : Int) - a0)))] : List Int).length then (
    some (([45] : List UInt8) ++ (List.map toU8 ([(IntKind.u8.wrap (IntKind.i64.wrap ((48 : Int) - a0)))] : List Int))))
   else none)
  else (
   (rec_ (IntKind.i64.wrap (Int.tdiv a0 (10 : Int)))).bind fun r4 =>
   if catB r4.length ([(IntKind.u8.wrap (IntKind.i64.wrap ((48 : Int) - (IntKind.i64.wrap (Int.tmod a0 (10 : Int))))))] : List Int).length then (
    some (r4 ++ (List.map toU8 ([(IntKind.u8.wrap (IntKind.i64.wrap ((48 : Int) - (IntKind.i64.wrap (Int.tmod a0 (10 : Int))))))] : List Int))))
   else none))
 else (
  f_spec_FormatInt_1 rec_ bigN a0 ([] : List UInt8))
def f_spec_FormatInt_r : Nat → Int → Option (List UInt8)
 | 0, _ => none
 | n + 1, a0 => f_spec_FormatInt_b (f_spec_FormatInt_r n) a0
def f_spec_FormatInt (a0 : Int) : Option (List UInt8) := f_spec_FormatInt_r bigN a0
/- spec_l06Ship -/
def f_spec_l06Ship (a0 : Xl01Cur) (a1 : Int) : Option (XShip × Xl01Cur) :=
 (f_spec_FormatInt a1).bind fun r1 =>
 if catB ([115] : List UInt8).length r1.length then (
  (f_spec_l01Below a0 (200 : Int)).bind fun r3 =>
  (f_spec_l01Below r3.2 (500 : Int)).bind fun r4 =>
  (f_spec_l01Below r4.2 (4 : Int)).bind fun r5 =>
  (f_spec_l01Below r5.2 (3 : Int)).bind fun r6 =>
  (f_spec_l01Once r6.2 (4 : Int)).bind fun r7 =>
  some ((⟨(([115] : List UInt8) ++ r1), (IntKind.i64.wrap ((40 : Int) + r3.1)), (IntKind.i64.wrap ((600 : Int) + r4.1)), r5.1, r6.1, r7.1⟩ : XShip), r7.2))
 else none
/- spec_MakeShip -/
def f_spec_MakeShip (a0 : List Int) (a1 : Int) : Option XShip :=
 (f_spec_l28New a0 a1).bind fun r1 =>
 (f_spec_l06Ship r1 (0 : Int)).bind fun r2 =>
 some r2.1
/- spec_l04Draw -/
def f_spec_l04Draw_1 : Nat → Int → Int → (List Int) → Int → Int → (List XWindow) → Option ((List XWindow) × Xl01Cur)
 | 0, _, _, _, _, _, _ => none
 | n + 1, v3, v4, v5, v6, v7, v8 =>
  if (decide ((0 : Int) < v4)) then (
   (f_spec_l01Below (⟨v5, v6, v7⟩ : Xl01Cur) (300 : Int)).bind fun r10 =>
   if appB v8.length ([(⟨v3, (IntKind.i64.wrap (v3 + r10.1))⟩ : XWindow)] : List XWindow).length 16 then (
    (f_spec_l01Below r10.2 (200 : Int)).bind fun r12 =>
    f_spec_l04Draw_1 n (IntKind.i64.wrap ((IntKind.i64.wrap ((IntKind.i64.wrap (v3 + r10.1)) + (2 : Int))) + r12.1)) (IntKind.i64.wrap (v4 - (1 : Int))) r12.2.b r12.2.i r12.2.h (v8 ++ ([(⟨v3, (IntKind.i64.wrap (v3 + r10.1))⟩ : XWindow)] : List XWindow)))
   else none)
  else (
   some (v8, (⟨v5, v6, v7⟩ : Xl01Cur)))
def f_spec_l04Draw (a0 : Xl01Cur) : Option ((List XWindow) × Xl01Cur) :=
 (f_spec_l01Below a0 (60 : Int)).bind fun r1 =>
 (f_spec_l01Below r1.2 (4 : Int)).bind fun r2 =>
 f_spec_l04Draw_1 bigN r1.1 r2.1 r2.2.b r2.2.i r2.2.h ([] : List XWindow)
/- spec_MakeWindows -/
def f_spec_MakeWindows (a0 : List Int) (a1 : Int) : Option (List XWindow) :=
 (f_spec_l28New a0 a1).bind fun r1 =>
 (f_spec_l04Draw r1).bind fun r2 =>
 some r2.1
/- impl_within -/
def f_impl_within (a0 : Int) (a1 : Int) (a2 : Int) : Option Bool :=
 if (decide (a1 ≤ a0)) then (
  some (decide (a0 ≤ a2)))
 else (
  some false)
/- impl_IsName -/
def f_impl_IsName_3 (a0 : List UInt8) (v3 : Int) (k_impl_IsName_1 : Int → Option Bool) : Option Bool :=
 k_impl_IsName_1 (IntKind.i64.wrap (v3 + (1 : Int)))
def f_impl_IsName_2 (a0 : List UInt8) (v3 : Int) (k_impl_IsName_1 : Int → Option Bool) (v7 : Bool) : Option Bool :=
 if v7 then (
  f_impl_IsName_3 a0 v3 k_impl_IsName_1)
 else (
  if (v3 == (0 : Int)) then (
   some false)
  else (
   (ix a0 v3).bind fun b10 =>
   if (decide ((b10.toNat : Int) < (48 : Int))) then (
    some false)
   else (
    if (decide ((57 : Int) < (b10.toNat : Int))) then (
     some false)
    else (
     f_impl_IsName_3 a0 v3 k_impl_IsName_1))))
def f_impl_IsName_1 (a0 : List UInt8) : Nat → Int → Option Bool
 | 0, _ => none
 | n + 1, v3 =>
  if (decide (v3 < (a0.length : Int))) then (
   (ix a0 v3).bind fun b5 =>
   if (decide ((97 : Int) ≤ (b5.toNat : Int))) then (
    f_impl_IsName_2 a0 v3 (f_impl_IsName_1 a0 n) (decide ((b5.toNat : Int) ≤ (122 : Int))))
   else (
    f_impl_IsName_2 a0 v3 (f_impl_IsName_1 a0 n) false))
  else (
   some true)
def f_impl_IsName (a0 : List UInt8) : Option Bool :=
 (f_impl_within (a0.length : Int) (1 : Int) (8 : Int)).bind fun r1 =>
 if r1 then (
  f_impl_IsName_1 a0 bigN (0 : Int))
 else (
  some false)
/- impl_PointNamed -/
def f_impl_PointNamed_1 (a1 : List UInt8) (a0 : XChart) : Nat → Int → Option Int
 | 0, _ => none
 | n + 1, v1 =>
  if (decide (v1 < (a0.Points.length : Int))) then (
   (ix a0.Points v1).bind fun x3 =>
   if (x3.Name == a1) then (
    some v1)
   else (
    f_impl_PointNamed_1 a1 a0 n (IntKind.i64.wrap (v1 + (1 : Int)))))
  else (
   some (-1 : Int))
def f_impl_PointNamed (a0 : XChart) (a1 : List UInt8) : Option Int :=
 f_impl_PointNamed_1 a1 a0 bigN (0 : Int)
/- impl_isIndex -/
def f_impl_isIndex (a0 : Int) (a1 : Int) : Option Bool :=
 if (decide ((0 : Int) ≤ a0)) then (
  some (decide (a0 < a1)))
 else (
  some false)
/- impl_Segment_joins -/
def f_impl_Segment_joins (a0 : XSegment) (a1 : Int) (a2 : Int) : Option Bool :=
 if (a0.A == a1) then (
  if (a0.B == a2) then (
   some true)
  else (
   if (a0.A == a2) then (
    some (a0.B == a1))
   else (
    some false)))
 else (
  if (a0.A == a2) then (
   some (a0.B == a1))
  else (
   some false))
/- impl_ChartOk -/
def f_impl_ChartOk_3 (a0 : XChart) (v11 : Int) (x13 : XSegment) (y24 : List XSegment) (y25 : Int) (k_impl_ChartOk_2 : Int → Option Bool) : Nat → Int → Option Bool
 | 0, _ => none
 | n + 1, v26 =>
  if (decide (v26 < y25)) then (
   (ix y24 v26).bind fun x28 =>
   (f_impl_Segment_joins x28 x13.A x13.B).bind fun r29 =>
   if r29 then (
    some false)
   else (
    f_impl_ChartOk_3 a0 v11 x13 y24 y25 k_impl_ChartOk_2 n (IntKind.i64.wrap (v26 + (1 : Int)))))
  else (
   k_impl_ChartOk_2 (IntKind.i64.wrap (v11 + (1 : Int))))
def f_impl_ChartOk_2 (a0 : XChart) : Nat → Int → Option Bool
 | 0, _ => none
 | n + 1, v11 =>
  if (decide (v11 < (a0.Segments.length : Int))) then (
   (ix a0.Segments v11).bind fun x13 =>
   (f_impl_isIndex x13.A (a0.Points.length : Int)).bind fun r14 =>
   if r14 then (
    (f_impl_isIndex x13.B (a0.Points.length : Int)).bind fun r16 =>
    if r16 then (
     if (x13.A == x13.B) then (
      some false)
     else (
      (f_impl_within x13.Depth (0 : Int) (3000 : Int)).bind fun r19 =>
      if r19 then (
       (f_impl_within x13.Minutes (1 : Int) (240 : Int)).bind fun r21 =>
       if r21 then (
        (bnd (a0.Segments.length : Int) v11 (0 : Int) a0.Segments.length).bind fun p23 =>
        f_impl_ChartOk_3 a0 v11 x13 ((a0.Segments.drop p23.1).take (p23.2 - p23.1)) (((a0.Segments.drop p23.1).take (p23.2 - p23.1)).length : Int) (f_impl_ChartOk_2 a0 n) bigN (0 : Int))
       else (
        some false))
      else (
       some false)))
    else (
     some false))
   else (
    some false))
  else (
   some true)
def f_impl_ChartOk_1 (a0 : XChart) : Nat → Int → Option Bool
 | 0, _ => none
 | n + 1, v3 =>
  if (decide (v3 < (a0.Points.length : Int))) then (
   (ix a0.Points v3).bind fun x5 =>
   (f_impl_IsName x5.Name).bind fun r6 =>
   if r6 then (
    (f_impl_PointNamed a0 x5.Name).bind fun r9 =>
    if (r9 != v3) then (
     some false)
    else (
     f_impl_ChartOk_1 a0 n (IntKind.i64.wrap (v3 + (1 : Int)))))
   else (
    some false))
  else (
   f_impl_ChartOk_2 a0 bigN (0 : Int))
def f_impl_ChartOk (a0 : XChart) : Option Bool :=
 if (decide ((8 : Int) < (a0.Points.length : Int))) then (
  some false)
 else (
  if (decide ((10 : Int) < (a0.Segments.length : Int))) then (
   some false)
  else (
   f_impl_ChartOk_1 a0 bigN (0 : Int)))
/- impl_marked -/
def f_impl_marked (a0 : List UInt8) (a1 : Bool) (a2 : List UInt8) : Option (List UInt8) :=
 if a1 then (
  if catB a0.length ([32] : List UInt8).length then (
   if catB (a0 ++ ([32] : List UInt8)).length a2.length then (
    some ((a0 ++ ([32] : List UInt8)) ++ a2))
   else none)
  else none)
 else (
  some a0)
/- impl_FormatInt -/
def f_impl_FormatInt (a0 : Int) : Option (List UInt8) :=
 (f_strconv_Itoa a0).bind fun r1 =>
 some r1
/- impl_Join -/
def f_impl_Join (a0 : List (List UInt8)) (a1 : List UInt8) : Option (List UInt8) :=
 (f_strings_Join a0 a1).bind fun r1 =>
 some r1
/- impl_FormatChart -/
def f_impl_FormatChart_2 (a0 : XChart) : Nat → (List UInt8) → Int → Option (List UInt8)
 | 0, _, _ => none
 | n + 1, v12, v13 =>
  if (decide (v13 < (a0.Segments.length : Int))) then (
   (ix a0.Segments v13).bind fun x15 =>
   (ix a0.Points x15.A).bind fun x16 =>
   (ix a0.Points x15.B).bind fun x17 =>
   (f_impl_FormatInt x15.Depth).bind fun r18 =>
   (f_impl_FormatInt x15.Minutes).bind fun r19 =>
   (f_impl_Join ([([99, 104, 97, 110, 110, 101, 108] : List UInt8), x16.Name, x17.Name, r18, r19] : List (List UInt8)) ([32] : List UInt8)).bind fun r20 =>
   (f_impl_marked r20 x15.Meet ([109, 101, 101, 116] : List UInt8)).bind fun r21 =>
   if catB r21.length ([10] : List UInt8).length then (
    if catB v12.length (r21 ++ ([10] : List UInt8)).length then (
     f_impl_FormatChart_2 a0 n (v12 ++ (r21 ++ ([10] : List UInt8))) (IntKind.i64.wrap (v13 + (1 : Int))))
    else none)
   else none)
  else (
   some v12)
def f_impl_FormatChart_1 (a0 : XChart) : Nat → (List UInt8) → Int → Option (List UInt8)
 | 0, _, _ => none
 | n + 1, v3, v4 =>
  if (decide (v4 < (a0.Points.length : Int))) then (
   (ix a0.Points v4).bind fun x6 =>
   if catB ([112, 111, 105, 110, 116, 32] : List UInt8).length x6.Name.length then (
    (f_impl_marked (([112, 111, 105, 110, 116, 32] : List UInt8) ++ x6.Name) x6.Wait ([119, 97, 105, 116] : List UInt8)).bind fun r9 =>
    if catB r9.length ([10] : List UInt8).length then (
     if catB v3.length (r9 ++ ([10] : List UInt8)).length then (
      f_impl_FormatChart_1 a0 n (v3 ++ (r9 ++ ([10] : List UInt8))) (IntKind.i64.wrap (v4 + (1 : Int))))
     else none)
    else none)
   else none)
  else (
   f_impl_FormatChart_2 a0 bigN v3 (0 : Int))
def f_impl_FormatChart (a0 : XChart) : Option (List UInt8) :=
 (f_impl_ChartOk a0).bind fun r1 =>
 if r1 then (
  f_impl_FormatChart_1 a0 bigN ([] : List UInt8) (0 : Int))
 else (
  some ([] : List UInt8))
/- impl_SplitAny -/
def f_impl_SplitAny_2 (a0 : List UInt8) (a1 : List UInt8) (v2 : Int) (k_impl_SplitAny_1 : Int → Int → (List (List UInt8)) → Option (List (List UInt8))) (v10 : Int) (v11 : List (List UInt8)) : Option (List (List UInt8)) :=
 k_impl_SplitAny_1 v10 (IntKind.i64.wrap (v2 + (1 : Int))) v11
def f_impl_SplitAny_1 (a0 : List UInt8) (a1 : List UInt8) : Nat → Int → Int → (List (List UInt8)) → Option (List (List UInt8))
 | 0, _, _, _ => none
 | n + 1, v1, v2, v3 =>
  if (decide (v2 < (a0.length : Int))) then (
   (ix a0 v2).bind fun b5 =>
   (f_strings_IndexByte a1 (b5.toNat : Int)).bind fun r6 =>
   if (decide ((0 : Int) ≤ r6)) then (
    (bnd (a0.length : Int) v2 v1 a0.length).bind fun p8 =>
    if appB v3.length ([((a0.drop p8.1).take (p8.2 - p8.1))] : List (List UInt8)).length 16 then (
     f_impl_SplitAny_2 a0 a1 v2 (f_impl_SplitAny_1 a0 a1 n) (IntKind.i64.wrap (v2 + (1 : Int))) (v3 ++ ([((a0.drop p8.1).take (p8.2 - p8.1))] : List (List UInt8))))
    else none)
   else (
    f_impl_SplitAny_2 a0 a1 v2 (f_impl_SplitAny_1 a0 a1 n) v1 v3))
  else (
   (bnd (a0.length : Int) (a0.length : Int) v1 a0.length).bind fun p12 =>
   if appB v3.length ([((a0.drop p12.1).take (p12.2 - p12.1))] : List (List UInt8)).length 16 then (
    some (v3 ++ ([((a0.drop p12.1).take (p12.2 - p12.1))] : List (List UInt8))))
   else none)
def f_impl_SplitAny (a0 : List UInt8) (a1 : List UInt8) : Option (List (List UInt8)) :=
 f_impl_SplitAny_1 a0 a1 bigN (0 : Int) (0 : Int) ([] : List (List UInt8))
/- impl_SplitLines -/
def f_impl_SplitLines (a0 : List UInt8) : Option (List (List UInt8)) :=
 (f_impl_SplitAny a0 ([10] : List UInt8)).bind fun r1 =>
 (ix r1 (IntKind.i64.wrap ((r1.length : Int) - (1 : Int)))).bind fun x2 =>
 if (x2 == ([] : List UInt8)) then (
  (bnd (r1.length : Int) (IntKind.i64.wrap ((r1.length : Int) - (1 : Int))) (0 : Int) r1.length).bind fun p4 =>
  some ((r1.drop p4.1).take (p4.2 - p4.1)))
 else (
  some r1)
/- impl_pointOf -/
def f_impl_pointOf_1 (a0 : List (List UInt8)) (v7 : Bool) : Option (XPoint × Bool) :=
 if v7 then (
  some ((⟨([] : List UInt8), false⟩ : XPoint), false))
 else (
  (ix a0 (1 : Int)).bind fun x9 =>
  some ((⟨x9, ((a0.length : Int) == (3 : Int))⟩ : XPoint), true))
def f_impl_pointOf (a0 : List (List UInt8)) : Option (XPoint × Bool) :=
 if (decide ((a0.length : Int) < (2 : Int))) then (
  f_impl_pointOf_1 a0 true)
 else (
  if (decide ((3 : Int) < (a0.length : Int))) then (
   f_impl_pointOf_1 a0 true)
  else (
   (ix a0 (0 : Int)).bind fun x3 =>
   if (x3 == ([112, 111, 105, 110, 116] : List UInt8)) then (
    if ((a0.length : Int) == (3 : Int)) then (
     (ix a0 (2 : Int)).bind fun x6 =>
     f_impl_pointOf_1 a0 (!(x6 == ([119, 97, 105, 116] : List UInt8))))
    else (
     f_impl_pointOf_1 a0 false))
   else (
    f_impl_pointOf_1 a0 true)))
/- impl_parseNumbers -/
def f_impl_parseNumbers_1 (a0 : List (List UInt8)) : Nat → Int → (List Int) → Option ((List Int) × Bool)
 | 0, _, _ => none
 | n + 1, v1, v2 =>
  if (decide (v1 < (a0.length : Int))) then (
   (ix a0 v1).bind fun x4 =>
   (f_impl_ParseInt x4).bind fun r5 =>
   if r5.2 then (
    if appB v2.length ([r5.1] : List Int).length 8 then (
     f_impl_parseNumbers_1 a0 n (IntKind.i64.wrap (v1 + (1 : Int))) (v2 ++ ([r5.1] : List Int)))
    else none)
   else (
    some (([] : List Int), false)))
  else (
   some (v2, true))
def f_impl_parseNumbers (a0 : List (List UInt8)) : Option ((List Int) × Bool) :=
 f_impl_parseNumbers_1 a0 bigN (0 : Int) ([] : List Int)
/- impl_segmentOf -/
def f_impl_segmentOf_1 (a1 : List (List UInt8)) (a0 : XChart) (v7 : Bool) : Option (XSegment × Bool) :=
 if v7 then (
  some ((⟨(0 : Int), (0 : Int), (0 : Int), (0 : Int), false⟩ : XSegment), false))
 else (
  (bnd (5 : Int) (5 : Int) (3 : Int) a1.length).bind fun p9 =>
  (f_impl_parseNumbers ((a1.drop p9.1).take (p9.2 - p9.1))).bind fun r10 =>
  if r10.2 then (
   (ix a1 (1 : Int)).bind fun x12 =>
   (f_impl_PointNamed a0 x12).bind fun r13 =>
   (ix a1 (2 : Int)).bind fun x14 =>
   (f_impl_PointNamed a0 x14).bind fun r15 =>
   (ix r10.1 (0 : Int)).bind fun x16 =>
   (ix r10.1 (1 : Int)).bind fun x17 =>
   some ((⟨r13, r15, x16, x17, ((a1.length : Int) == (6 : Int))⟩ : XSegment), true))
  else (
   some ((⟨(0 : Int), (0 : Int), (0 : Int), (0 : Int), false⟩ : XSegment), false)))
def f_impl_segmentOf (a0 : XChart) (a1 : List (List UInt8)) : Option (XSegment × Bool) :=
 if (decide ((a1.length : Int) < (5 : Int))) then (
  f_impl_segmentOf_1 a1 a0 true)
 else (
  if (decide ((6 : Int) < (a1.length : Int))) then (
   f_impl_segmentOf_1 a1 a0 true)
  else (
   (ix a1 (0 : Int)).bind fun x3 =>
   if (x3 == ([99, 104, 97, 110, 110, 101, 108] : List UInt8)) then (
    if ((a1.length : Int) == (6 : Int)) then (
     (ix a1 (5 : Int)).bind fun x6 =>
     f_impl_segmentOf_1 a1 a0 (!(x6 == ([109, 101, 101, 116] : List UInt8))))
    else (
     f_impl_segmentOf_1 a1 a0 false))
   else (
    f_impl_segmentOf_1 a1 a0 true)))
/- impl_ParseChart -/
def f_impl_ParseChart_3 (a0 : List UInt8) (r1 : (List (List UInt8))) (v2 : Int) (v15 : List XPoint) (v16 : List XSegment) (k_impl_ParseChart_1 : Int → (List XPoint) → (List XSegment) → Option (XChart × Bool)) (v18 : Bool) : Option (XChart × Bool) :=
 if v18 then (
  some ((⟨([] : List XPoint), ([] : List XSegment)⟩ : XChart), false))
 else (
  k_impl_ParseChart_1 (IntKind.i64.wrap (v2 + (1 : Int))) v15 v16)
def f_impl_ParseChart_2 (a0 : List UInt8) (r1 : (List (List UInt8))) (v2 : Int) (k_impl_ParseChart_1 : Int → (List XPoint) → (List XSegment) → Option (XChart × Bool)) (v15 : List XPoint) (v16 : List XSegment) : Option (XChart × Bool) :=
 if (decide ((8 : Int) < (v15.length : Int))) then (
  f_impl_ParseChart_3 a0 r1 v2 v15 v16 k_impl_ParseChart_1 true)
 else (
  f_impl_ParseChart_3 a0 r1 v2 v15 v16 k_impl_ParseChart_1 (decide ((10 : Int) < (v16.length : Int))))
def f_impl_ParseChart_4 (v3 : List XPoint) (v4 : List XSegment) (v23 : Bool) : Option (XChart × Bool) :=
 if v23 then (
  some ((⟨([] : List XPoint), ([] : List XSegment)⟩ : XChart), false))
 else (
  some ((⟨v3, v4⟩ : XChart), true))
def f_impl_ParseChart_1 (a0 : List UInt8) (r1 : (List (List UInt8))) : Nat → Int → (List XPoint) → (List XSegment) → Option (XChart × Bool)
 | 0, _, _, _ => none
 | n + 1, v2, v3, v4 =>
  if (decide (v2 < (r1.length : Int))) then (
   (ix r1 v2).bind fun x6 =>
   (f_impl_SplitAny x6 ([32] : List UInt8)).bind fun r7 =>
   (f_impl_pointOf r7).bind fun r9 =>
   (f_impl_segmentOf (⟨v3, v4⟩ : XChart) r7).bind fun r10 =>
   if r9.2 then (
    if appB v3.length ([r9.1] : List XPoint).length 24 then (
     f_impl_ParseChart_2 a0 r1 v2 (f_impl_ParseChart_1 a0 r1 n) (v3 ++ ([r9.1] : List XPoint)) v4)
    else none)
   else (
    if r10.2 then (
     if appB v4.length ([r10.1] : List XSegment).length 40 then (
      f_impl_ParseChart_2 a0 r1 v2 (f_impl_ParseChart_1 a0 r1 n) v3 (v4 ++ ([r10.1] : List XSegment)))
     else none)
    else (
     some ((⟨([] : List XPoint), ([] : List XSegment)⟩ : XChart), false))))
  else (
   (f_impl_ChartOk (⟨v3, v4⟩ : XChart)).bind fun r20 =>
   if r20 then (
    (f_impl_FormatChart (⟨v3, v4⟩ : XChart)).bind fun r22 =>
    f_impl_ParseChart_4 v3 v4 (!(r22 == a0)))
   else (
    f_impl_ParseChart_4 v3 v4 true))
def f_impl_ParseChart (a0 : List UInt8) : Option (XChart × Bool) :=
 (f_impl_SplitLines a0).bind fun r1 =>
 f_impl_ParseChart_1 a0 r1 bigN (0 : Int) ([] : List XPoint) ([] : List XSegment)
/- impl_ShipOk -/
def f_impl_ShipOk (a0 : XShip) : Option Bool :=
 (f_impl_IsName a0.Name).bind fun r1 =>
 if r1 then (
  (f_impl_within a0.Length (10 : Int) (400 : Int)).bind fun r3 =>
  if r3 then (
   (f_impl_within a0.Draught (100 : Int) (2000 : Int)).bind fun r5 =>
   if r5 then (
    (f_impl_isIndex a0.Line (4 : Int)).bind fun r7 =>
    if r7 then (
     (f_impl_within a0.Tugs (0 : Int) (4 : Int)).bind fun r9 =>
     some r9)
    else (
     some false))
   else (
    some false))
  else (
   some false))
 else (
  some false)
/- impl_FormatShip -/
def f_impl_FormatShip (a0 : XShip) : Option (List UInt8) :=
 (f_impl_ShipOk a0).bind fun r1 =>
 if r1 then (
  (f_impl_FormatInt a0.Length).bind fun r3 =>
  (f_impl_FormatInt a0.Draught).bind fun r4 =>
  (f_impl_FormatInt a0.Line).bind fun r5 =>
  (f_impl_FormatInt a0.Tugs).bind fun r6 =>
  (f_impl_Join ([a0.Name, r3, r4, r5, r6] : List (List UInt8)) ([32] : List UInt8)).bind fun r7 =>
  (f_impl_marked r7 a0.Slow ([115, 108, 111, 119] : List UInt8)).bind fun r9 =>
  some r9)
 else (
  some ([] : List UInt8))
/- impl_ParseShip -/
def f_impl_ParseShip_1 (x6 : List UInt8) (x7 : Int) (x8 : Int) (x9 : Int) (x10 : Int) (v14 : Bool) (v15 : Bool) : Option (XShip × Bool) :=
 if v14 then (
  some ((⟨([] : List UInt8), (0 : Int), (0 : Int), (0 : Int), (0 : Int), false⟩ : XShip), false))
 else (
  some ((⟨x6, x7, x8, x9, x10, v15⟩ : XShip), true))
def f_impl_ParseShip (a0 : List UInt8) : Option (XShip × Bool) :=
 (f_impl_SplitAny a0 ([32] : List UInt8)).bind fun r1 =>
 if (decide ((r1.length : Int) < (5 : Int))) then (
  some ((⟨([] : List UInt8), (0 : Int), (0 : Int), (0 : Int), (0 : Int), false⟩ : XShip), false))
 else (
  (bnd (5 : Int) (5 : Int) (1 : Int) r1.length).bind fun p3 =>
  (f_impl_parseNumbers ((r1.drop p3.1).take (p3.2 - p3.1))).bind fun r4 =>
  if r4.2 then (
   (ix r1 (0 : Int)).bind fun x6 =>
   (ix r4.1 (0 : Int)).bind fun x7 =>
   (ix r4.1 (1 : Int)).bind fun x8 =>
   (ix r4.1 (2 : Int)).bind fun x9 =>
   (ix r4.1 (3 : Int)).bind fun x10 =>
   (f_impl_ShipOk (⟨x6, x7, x8, x9, x10, (decide ((5 : Int) < (r1.length : Int)))⟩ : XShip)).bind fun r11 =>
   if r11 then (
    (f_impl_FormatShip (⟨x6, x7, x8, x9, x10, (decide ((5 : Int) < (r1.length : Int)))⟩ : XShip)).bind fun r13 =>
    f_impl_ParseShip_1 x6 x7 x8 x9 x10 (!(r13 == a0)) (decide ((5 : Int) < (r1.length : Int))))
   else (
    f_impl_ParseShip_1 x6 x7 x8 x9 x10 true (decide ((5 : Int) < (r1.length : Int)))))
  else (
   some ((⟨([] : List UInt8), (0 : Int), (0 : Int), (0 : Int), (0 : Int), false⟩ : XShip), false)))
/- impl_WindowsOk -/
def f_impl_WindowsOk_1 (a0 : List XWindow) : Nat → Int → Option Bool
 | 0, _ => none
 | n + 1, v1 =>
  if (decide (v1 < (a0.length : Int))) then (
   (ix a0 v1).bind fun x3 =>
   if (decide (x3.From < (0 : Int))) then (
    some false)
   else (
    if (decide (x3.To < x3.From)) then (
     some false)
    else (
     if (decide ((2880 : Int) < x3.To)) then (
      some false)
     else (
      if (decide ((0 : Int) < v1)) then (
       (ix a0 (IntKind.i64.wrap (v1 - (1 : Int)))).bind fun x8 =>
       if (decide (x3.From ≤ (IntKind.i64.wrap (x8.To + (1 : Int))))) then (
        some false)
       else (
        f_impl_WindowsOk_1 a0 n (IntKind.i64.wrap (v1 + (1 : Int)))))
      else (
       f_impl_WindowsOk_1 a0 n (IntKind.i64.wrap (v1 + (1 : Int))))))))
  else (
   some true)
def f_impl_WindowsOk (a0 : List XWindow) : Option Bool :=
 f_impl_WindowsOk_1 a0 bigN (0 : Int)
/- impl_FormatWindows -/
def f_impl_FormatWindows_1 (a0 : List XWindow) : Nat → Int → (List (List UInt8)) → Option (List UInt8)
 | 0, _, _ => none
 | n + 1, v4, v5 =>
  if (decide (v4 < (a0.length : Int))) then (
   (ix a0 v4).bind fun x7 =>
   (f_impl_FormatInt x7.From).bind fun r9 =>
   if catB r9.length ([45] : List UInt8).length then (
    (f_impl_FormatInt x7.To).bind fun r11 =>
    if catB (r9 ++ ([45] : List UInt8)).length r11.length then (
     if appB v5.length ([((r9 ++ ([45] : List UInt8)) ++ r11)] : List (List UInt8)).length 16 then (
      f_impl_FormatWindows_1 a0 n (IntKind.i64.wrap (v4 + (1 : Int))) (v5 ++ ([((r9 ++ ([45] : List UInt8)) ++ r11)] : List (List UInt8))))
     else none)
    else none)
   else none)
  else (
   (f_impl_Join v5 ([32] : List UInt8)).bind fun r14 =>
   some r14)
def f_impl_FormatWindows (a0 : List XWindow) : Option (List UInt8) :=
 (f_impl_WindowsOk a0).bind fun r1 =>
 if r1 then (
  if ((a0.length : Int) == (0 : Int)) then (
   some ([110, 111, 110, 101] : List UInt8))
  else (
   f_impl_FormatWindows_1 a0 bigN (0 : Int) ([] : List (List UInt8))))
 else (
  some ([] : List UInt8))
/- impl_ParseWindows -/
def f_impl_ParseWindows_2 (a0 : List UInt8) (r2 : (List (List UInt8))) (v3 : Int) (v4 : List XWindow) (r9 : (List Int) × Bool) (k_impl_ParseWindows_1 : Int → (List XWindow) → Option ((List XWindow) × Bool)) (v11 : Bool) : Option ((List XWindow) × Bool) :=
 if v11 then (
  some (([] : List XWindow), false))
 else (
  (ix r9.1 (0 : Int)).bind fun x13 =>
  (ix r9.1 (1 : Int)).bind fun x14 =>
  if appB v4.length ([(⟨x13, x14⟩ : XWindow)] : List XWindow).length 16 then (
   k_impl_ParseWindows_1 (IntKind.i64.wrap (v3 + (1 : Int))) (v4 ++ ([(⟨x13, x14⟩ : XWindow)] : List XWindow)))
  else none)
def f_impl_ParseWindows_3 (v4 : List XWindow) (v19 : Bool) : Option ((List XWindow) × Bool) :=
 if v19 then (
  some (([] : List XWindow), false))
 else (
  some (v4, true))
def f_impl_ParseWindows_1 (a0 : List UInt8) (r2 : (List (List UInt8))) : Nat → Int → (List XWindow) → Option ((List XWindow) × Bool)
 | 0, _, _ => none
 | n + 1, v3, v4 =>
  if (decide (v3 < (r2.length : Int))) then (
   (ix r2 v3).bind fun x6 =>
   (f_impl_SplitAny x6 ([45] : List UInt8)).bind fun r7 =>
   (f_impl_parseNumbers r7).bind fun r9 =>
   if r9.2 then (
    f_impl_ParseWindows_2 a0 r2 v3 v4 r9 (f_impl_ParseWindows_1 a0 r2 n) ((r9.1.length : Int) != (2 : Int)))
   else (
    f_impl_ParseWindows_2 a0 r2 v3 v4 r9 (f_impl_ParseWindows_1 a0 r2 n) true))
  else (
   (f_impl_WindowsOk v4).bind fun r16 =>
   if r16 then (
    (f_impl_FormatWindows v4).bind fun r18 =>
    f_impl_ParseWindows_3 v4 (!(r18 == a0)))
   else (
    f_impl_ParseWindows_3 v4 true))
def f_impl_ParseWindows (a0 : List UInt8) : Option ((List XWindow) × Bool) :=
 if (a0 == ([110, 111, 110, 101] : List UInt8)) then (
  some (([] : List XWindow), true))
 else (
  (f_impl_SplitAny a0 ([32] : List UInt8)).bind fun r2 =>
  f_impl_ParseWindows_1 a0 r2 bigN (0 : Int) ([] : List XWindow))
/- laws_FnTexts -/
def f_laws_FnTexts_3 (r2 : XChart) (r3 : XShip) (r6 : XChart × Bool) : Nat → Int → Option Bool
 | 0, _ => none
 | n + 1, v29 =>
  if (decide (v29 < (r2.Segments.length : Int))) then (
   (ix r6.1.Segments v29).bind fun x31 =>
   (ix r2.Segments v29).bind fun x32 =>
   if ((x31.A == x32.A) && ((x31.B == x32.B) && ((x31.Depth == x32.Depth) && ((x31.Minutes == x32.Minutes) && ((x31.Meet == x32.Meet) && true))))) then (
    f_laws_FnTexts_3 r2 r3 r6 n (IntKind.i64.wrap (v29 + (1 : Int))))
   else (
    some false))
  else (
   (f_impl_ChartOk r2).bind fun r34 =>
   if r34 then (
    (f_impl_ShipOk r3).bind fun r36 =>
    some r36)
   else (
    some false))
def f_laws_FnTexts_2 (r2 : XChart) (r3 : XShip) (r6 : XChart × Bool) : Nat → Int → Option Bool
 | 0, _ => none
 | n + 1, v24 =>
  if (decide (v24 < (r2.Points.length : Int))) then (
   (ix r6.1.Points v24).bind fun x26 =>
   (ix r2.Points v24).bind fun x27 =>
   if ((x26.Name == x27.Name) && ((x26.Wait == x27.Wait) && true)) then (
    f_laws_FnTexts_2 r2 r3 r6 n (IntKind.i64.wrap (v24 + (1 : Int))))
   else (
    some false))
  else (
   f_laws_FnTexts_3 r2 r3 r6 bigN (0 : Int))
def f_laws_FnTexts_1 (r4 : (List XWindow)) (r2 : XChart) (r3 : XShip) (r6 : XChart × Bool) (r11 : (List XWindow) × Bool) : Nat → Int → Option Bool
 | 0, _ => none
 | n + 1, v19 =>
  if (decide (v19 < (r4.length : Int))) then (
   (ix r11.1 v19).bind fun x21 =>
   (ix r4 v19).bind fun x22 =>
   if ((x21.From == x22.From) && ((x21.To == x22.To) && true)) then (
    f_laws_FnTexts_1 r4 r2 r3 r6 r11 n (IntKind.i64.wrap (v19 + (1 : Int))))
   else (
    some false))
  else (
   f_laws_FnTexts_2 r2 r3 r6 bigN (0 : Int))
def f_laws_FnTexts (a0 : List Int) : Option Bool :=
 if (decide ((1048576 : Int) < (a0.length : Int))) then (
  some true)
 else (
  (f_spec_MakeChart a0 (1 : Int)).bind fun r2 =>
  (f_spec_MakeShip a0 (60 : Int)).bind fun r3 =>
  (f_spec_MakeWindows a0 (80 : Int)).bind fun r4 =>
  (f_impl_FormatChart r2).bind fun r5 =>
  (f_impl_ParseChart r5).bind fun r6 =>
  (f_impl_FormatShip r3).bind fun r7 =>
  (f_impl_ParseShip r7).bind fun r9 =>
  (f_impl_FormatWindows r4).bind fun r10 =>
  (f_impl_ParseWindows r10).bind fun r11 =>
  if r6.2 then (
   if r9.2 then (
    if r11.2 then (
     if ((r9.1.Name == r3.Name) && ((r9.1.Length == r3.Length) && ((r9.1.Draught == r3.Draught) && ((r9.1.Line == r3.Line) && ((r9.1.Tugs == r3.Tugs) && ((r9.1.Slow == r3.Slow) && true)))))) then (
      if ((r11.1.length : Int) != (r4.length : Int)) then (
       some false)
      else (
       if ((r6.1.Points.length : Int) != (r2.Points.length : Int)) then (
        some false)
       else (
        if ((r6.1.Segments.length : Int) != (r2.Segments.length : Int)) then (
         some false)
        else (
         f_laws_FnTexts_1 r4 r2 r3 r6 r11 bigN (0 : Int)))))
     else (
      some false))
    else (
     some false))
   else (
    some false))
  else (
   some false))
end Go.Vi
