/-
  Plain definitions of functions, by program. No condition.
-/
import Derived.Test.YtdgobmphhncomaaDoorDVi34
import Derived.Test.YtdgobmphhncomaaDoorDLa
namespace Go.Vi
set_option linter.unusedSimpArgs false
set_option linter.unusedVariables false
def shrV (k : IntKind) (x : Int) (n : Nat) : Int := k.wrap (x.fdiv (2 ^ min n k.bits))
theorem bin_shr_u648 {k : IntKind} {x : Int} : binV .shr (.v (.sc (.dat (.int k x)))) (.v (.sc (.dat (.int .u64 8)))) = some (.v (.sc (.dat (.int k (shrV k x 8))))) := by simp [binV, intV, shrV]
theorem bin_shr_u6416 {k : IntKind} {x : Int} : binV .shr (.v (.sc (.dat (.int k x)))) (.v (.sc (.dat (.int .u64 16)))) = some (.v (.sc (.dat (.int k (shrV k x 16))))) := by simp [binV, intV, shrV]
theorem bin_shr_u6418 {k : IntKind} {x : Int} : binV .shr (.v (.sc (.dat (.int k x)))) (.v (.sc (.dat (.int .u64 18)))) = some (.v (.sc (.dat (.int k (shrV k x 18))))) := by simp [binV, intV, shrV]
theorem bin_shr_u6432 {k : IntKind} {x : Int} : binV .shr (.v (.sc (.dat (.int k x)))) (.v (.sc (.dat (.int .u64 32)))) = some (.v (.sc (.dat (.int k (shrV k x 32))))) := by simp [binV, intV, shrV]
theorem bin_shr_u6433 {k : IntKind} {x : Int} : binV .shr (.v (.sc (.dat (.int k x)))) (.v (.sc (.dat (.int .u64 33)))) = some (.v (.sc (.dat (.int k (shrV k x 33))))) := by simp [binV, intV, shrV]
theorem bin_shr_u6445 {k : IntKind} {x : Int} : binV .shr (.v (.sc (.dat (.int k x)))) (.v (.sc (.dat (.int .u64 45)))) = some (.v (.sc (.dat (.int k (shrV k x 45))))) := by simp [binV, intV, shrV]
structure XAny where
  isS : Bool
  s : List UInt8
  n : Int
  deriving DecidableEq
def anyD (x : XAny) : D := .ifc (bif x.isS then 9 else 3) (bif x.isS then .str x.s else .int .i64 x.n)
theorem any_t {t : TypeId} {zc : AC} {x : XAny} : tassV t zc (.v (.sc (.dat (anyD x)))) = tassV t zc (.v (.sc (.dat (.ifc (bif x.isS then 9 else 3) (bif x.isS then .str x.s else .int .i64 x.n))))) := rfl
def rA (x : XAny) : List D := [anyD x]
theorem rA_eq (x : XAny) : rA x = [anyD x] := rfl
instance : Row rA 1 := ⟨fun _ => rfl, Nat.le_of_ble_eq_true rfl⟩
def errD : Option Int → D
  | none => .noi
  | some n => .ifc 111 (.pd [.int .i64 n])
theorem errD_none : errD none = .noi := rfl
theorem errD_some (n : Int) : errD (some n) = .ifc 111 (.pd [.int .i64 n]) := rfl
theorem of_noerr {x : Option Int} (h : x.isSome = false) : x = none := by cases x with | none => rfl | some _ => cases h
structure XPoint where
  Name : List UInt8
  Wait : Bool
  deriving DecidableEq
def XPoint.row (x : XPoint) : List D := [.str x.Name, .bool x.Wait]
theorem XPoint.row_eq (x : XPoint) : XPoint.row x = [.str x.Name, .bool x.Wait] := rfl
instance : Row XPoint.row 2 := ⟨fun _ => rfl, Nat.le_of_ble_eq_true rfl⟩
instance : FlatRow XPoint.row := ⟨fun x d hd => by simp only [XPoint.row_eq, List.mem_cons, List.not_mem_nil, or_false] at hd; rcases hd with rfl | rfl <;> rfl⟩
instance : OfTy (.st [.str, .bool]) XPoint.row := ⟨fun ds h => by
  obtain ⟨a0, b0, h0, t0, rfl⟩ := h
  obtain ⟨a1, b1, h1, t1, rfl⟩ := t0
  obtain rfl := t1
  obtain ⟨x0, rfl⟩ := OfTy.of (row := rS) _ h0
  obtain ⟨x1, rfl⟩ := OfTy.of (row := rB) _ h1
  exact ⟨⟨x0, x1⟩, rfl⟩⟩
structure XSegment where
  A : Int
  B : Int
  Depth : Int
  Minutes : Int
  Meet : Bool
  deriving DecidableEq
def XSegment.row (x : XSegment) : List D := [.int .i64 x.A, .int .i64 x.B, .int .i64 x.Depth, .int .i64 x.Minutes, .bool x.Meet]
theorem XSegment.row_eq (x : XSegment) : XSegment.row x = [.int .i64 x.A, .int .i64 x.B, .int .i64 x.Depth, .int .i64 x.Minutes, .bool x.Meet] := rfl
instance : Row XSegment.row 5 := ⟨fun _ => rfl, Nat.le_of_ble_eq_true rfl⟩
instance : FlatRow XSegment.row := ⟨fun x d hd => by simp only [XSegment.row_eq, List.mem_cons, List.not_mem_nil, or_false] at hd; rcases hd with rfl | rfl | rfl | rfl | rfl <;> rfl⟩
instance : OfTy (.st [(.int .i64), (.int .i64), (.int .i64), (.int .i64), .bool]) XSegment.row := ⟨fun ds h => by
  obtain ⟨a0, b0, h0, t0, rfl⟩ := h
  obtain ⟨a1, b1, h1, t1, rfl⟩ := t0
  obtain ⟨a2, b2, h2, t2, rfl⟩ := t1
  obtain ⟨a3, b3, h3, t3, rfl⟩ := t2
  obtain ⟨a4, b4, h4, t4, rfl⟩ := t3
  obtain rfl := t4
  obtain ⟨x0, rfl⟩ := OfTy.of (row := rI) _ h0
  obtain ⟨x1, rfl⟩ := OfTy.of (row := rI) _ h1
  obtain ⟨x2, rfl⟩ := OfTy.of (row := rI) _ h2
  obtain ⟨x3, rfl⟩ := OfTy.of (row := rI) _ h3
  obtain ⟨x4, rfl⟩ := OfTy.of (row := rB) _ h4
  exact ⟨⟨x0, x1, x2, x3, x4⟩, rfl⟩⟩
structure XChart where
  Points : List XPoint
  Segments : List XSegment
  deriving DecidableEq
def XChart.row (x : XChart) : List D := [.sl (List.map XPoint.row x.Points), .sl (List.map XSegment.row x.Segments)]
theorem XChart.row_eq (x : XChart) : XChart.row x = [.sl (List.map XPoint.row x.Points), .sl (List.map XSegment.row x.Segments)] := rfl
instance : Row XChart.row 2 := ⟨fun _ => rfl, Nat.le_of_ble_eq_true rfl⟩
instance : OfTy (.st [(.sl (.st [.str, .bool])), (.sl (.st [(.int .i64), (.int .i64), (.int .i64), (.int .i64), .bool]))]) XChart.row := ⟨fun ds h => by
  obtain ⟨a0, b0, h0, t0, rfl⟩ := h
  obtain ⟨a1, b1, h1, t1, rfl⟩ := t0
  obtain rfl := t1
  obtain ⟨x0, rfl⟩ := OfTy.of (row := (rL XPoint.row)) _ h0
  obtain ⟨x1, rfl⟩ := OfTy.of (row := (rL XSegment.row)) _ h1
  exact ⟨⟨x0, x1⟩, rfl⟩⟩
structure Xl01Cur where
  b : List Int
  i : Int
  h : Int
  deriving DecidableEq
def Xl01Cur.row (x : Xl01Cur) : List D := [.sl (List.map r8 x.b), .int .i64 x.i, .int .i64 x.h]
theorem Xl01Cur.row_eq (x : Xl01Cur) : Xl01Cur.row x = [.sl (List.map r8 x.b), .int .i64 x.i, .int .i64 x.h] := rfl
instance : Row Xl01Cur.row 3 := ⟨fun _ => rfl, Nat.le_of_ble_eq_true rfl⟩
instance : OfTy (.st [(.sl (.int .u8)), (.int .i64), (.int .i64)]) Xl01Cur.row := ⟨fun ds h => by
  obtain ⟨a0, b0, h0, t0, rfl⟩ := h
  obtain ⟨a1, b1, h1, t1, rfl⟩ := t0
  obtain ⟨a2, b2, h2, t2, rfl⟩ := t1
  obtain rfl := t2
  obtain ⟨x0, rfl⟩ := OfTy.of (row := (rL r8)) _ h0
  obtain ⟨x1, rfl⟩ := OfTy.of (row := rI) _ h1
  obtain ⟨x2, rfl⟩ := OfTy.of (row := rI) _ h2
  exact ⟨⟨x0, x1, x2⟩, rfl⟩⟩
structure XShip where
  Name : List UInt8
  Length : Int
  Draught : Int
  Line : Int
  Tugs : Int
  Slow : Bool
  deriving DecidableEq
def XShip.row (x : XShip) : List D := [.str x.Name, .int .i64 x.Length, .int .i64 x.Draught, .int .i64 x.Line, .int .i64 x.Tugs, .bool x.Slow]
theorem XShip.row_eq (x : XShip) : XShip.row x = [.str x.Name, .int .i64 x.Length, .int .i64 x.Draught, .int .i64 x.Line, .int .i64 x.Tugs, .bool x.Slow] := rfl
instance : Row XShip.row 6 := ⟨fun _ => rfl, Nat.le_of_ble_eq_true rfl⟩
instance : FlatRow XShip.row := ⟨fun x d hd => by simp only [XShip.row_eq, List.mem_cons, List.not_mem_nil, or_false] at hd; rcases hd with rfl | rfl | rfl | rfl | rfl | rfl <;> rfl⟩
instance : OfTy (.st [.str, (.int .i64), (.int .i64), (.int .i64), (.int .i64), .bool]) XShip.row := ⟨fun ds h => by
  obtain ⟨a0, b0, h0, t0, rfl⟩ := h
  obtain ⟨a1, b1, h1, t1, rfl⟩ := t0
  obtain ⟨a2, b2, h2, t2, rfl⟩ := t1
  obtain ⟨a3, b3, h3, t3, rfl⟩ := t2
  obtain ⟨a4, b4, h4, t4, rfl⟩ := t3
  obtain ⟨a5, b5, h5, t5, rfl⟩ := t4
  obtain rfl := t5
  obtain ⟨x0, rfl⟩ := OfTy.of (row := rS) _ h0
  obtain ⟨x1, rfl⟩ := OfTy.of (row := rI) _ h1
  obtain ⟨x2, rfl⟩ := OfTy.of (row := rI) _ h2
  obtain ⟨x3, rfl⟩ := OfTy.of (row := rI) _ h3
  obtain ⟨x4, rfl⟩ := OfTy.of (row := rI) _ h4
  obtain ⟨x5, rfl⟩ := OfTy.of (row := rB) _ h5
  exact ⟨⟨x0, x1, x2, x3, x4, x5⟩, rfl⟩⟩
structure XWindow where
  From : Int
  To : Int
  deriving DecidableEq
def XWindow.row (x : XWindow) : List D := [.int .i64 x.From, .int .i64 x.To]
theorem XWindow.row_eq (x : XWindow) : XWindow.row x = [.int .i64 x.From, .int .i64 x.To] := rfl
instance : Row XWindow.row 2 := ⟨fun _ => rfl, Nat.le_of_ble_eq_true rfl⟩
instance : FlatRow XWindow.row := ⟨fun x d hd => by simp only [XWindow.row_eq, List.mem_cons, List.not_mem_nil, or_false] at hd; rcases hd with rfl | rfl <;> rfl⟩
instance : OfTy (.st [(.int .i64), (.int .i64)]) XWindow.row := ⟨fun ds h => by
  obtain ⟨a0, b0, h0, t0, rfl⟩ := h
  obtain ⟨a1, b1, h1, t1, rfl⟩ := t0
  obtain rfl := t1
  obtain ⟨x0, rfl⟩ := OfTy.of (row := rI) _ h0
  obtain ⟨x1, rfl⟩ := OfTy.of (row := rI) _ h1
  exact ⟨⟨x0, x1⟩, rfl⟩⟩
structure XEntry where
  Kind : Int
  At : Int
  Call : Int
  Value : Int
  deriving DecidableEq
def XEntry.row (x : XEntry) : List D := [.int .i64 x.Kind, .int .i64 x.At, .int .i64 x.Call, .int .i64 x.Value]
theorem XEntry.row_eq (x : XEntry) : XEntry.row x = [.int .i64 x.Kind, .int .i64 x.At, .int .i64 x.Call, .int .i64 x.Value] := rfl
instance : Row XEntry.row 4 := ⟨fun _ => rfl, Nat.le_of_ble_eq_true rfl⟩
instance : FlatRow XEntry.row := ⟨fun x d hd => by simp only [XEntry.row_eq, List.mem_cons, List.not_mem_nil, or_false] at hd; rcases hd with rfl | rfl | rfl | rfl <;> rfl⟩
instance : OfTy (.st [(.int .i64), (.int .i64), (.int .i64), (.int .i64)]) XEntry.row := ⟨fun ds h => by
  obtain ⟨a0, b0, h0, t0, rfl⟩ := h
  obtain ⟨a1, b1, h1, t1, rfl⟩ := t0
  obtain ⟨a2, b2, h2, t2, rfl⟩ := t1
  obtain ⟨a3, b3, h3, t3, rfl⟩ := t2
  obtain rfl := t3
  obtain ⟨x0, rfl⟩ := OfTy.of (row := rI) _ h0
  obtain ⟨x1, rfl⟩ := OfTy.of (row := rI) _ h1
  obtain ⟨x2, rfl⟩ := OfTy.of (row := rI) _ h2
  obtain ⟨x3, rfl⟩ := OfTy.of (row := rI) _ h3
  exact ⟨⟨x0, x1, x2, x3⟩, rfl⟩⟩
structure XDesk where
  Now : Int
  Starts : List Int
  Cleared : List Bool
  deriving DecidableEq
def XDesk.row (x : XDesk) : List D := [.int .i64 x.Now, .sl (List.map rI x.Starts), .sl (List.map rB x.Cleared)]
theorem XDesk.row_eq (x : XDesk) : XDesk.row x = [.int .i64 x.Now, .sl (List.map rI x.Starts), .sl (List.map rB x.Cleared)] := rfl
instance : Row XDesk.row 3 := ⟨fun _ => rfl, Nat.le_of_ble_eq_true rfl⟩
instance : OfTy (.st [(.int .i64), (.sl (.int .i64)), (.sl .bool)]) XDesk.row := ⟨fun ds h => by
  obtain ⟨a0, b0, h0, t0, rfl⟩ := h
  obtain ⟨a1, b1, h1, t1, rfl⟩ := t0
  obtain ⟨a2, b2, h2, t2, rfl⟩ := t1
  obtain rfl := t2
  obtain ⟨x0, rfl⟩ := OfTy.of (row := rI) _ h0
  obtain ⟨x1, rfl⟩ := OfTy.of (row := (rL rI)) _ h1
  obtain ⟨x2, rfl⟩ := OfTy.of (row := (rL rB)) _ h2
  exact ⟨⟨x0, x1, x2⟩, rfl⟩⟩
structure XPassage where
  Ship : Int
  Segment : Int
  Toward : Bool
  Start : Int
  End : Int
  deriving DecidableEq
def XPassage.row (x : XPassage) : List D := [.int .i64 x.Ship, .int .i64 x.Segment, .bool x.Toward, .int .i64 x.Start, .int .i64 x.End]
theorem XPassage.row_eq (x : XPassage) : XPassage.row x = [.int .i64 x.Ship, .int .i64 x.Segment, .bool x.Toward, .int .i64 x.Start, .int .i64 x.End] := rfl
instance : Row XPassage.row 5 := ⟨fun _ => rfl, Nat.le_of_ble_eq_true rfl⟩
instance : FlatRow XPassage.row := ⟨fun x d hd => by simp only [XPassage.row_eq, List.mem_cons, List.not_mem_nil, or_false] at hd; rcases hd with rfl | rfl | rfl | rfl | rfl <;> rfl⟩
instance : OfTy (.st [(.int .i64), (.int .i64), .bool, (.int .i64), (.int .i64)]) XPassage.row := ⟨fun ds h => by
  obtain ⟨a0, b0, h0, t0, rfl⟩ := h
  obtain ⟨a1, b1, h1, t1, rfl⟩ := t0
  obtain ⟨a2, b2, h2, t2, rfl⟩ := t1
  obtain ⟨a3, b3, h3, t3, rfl⟩ := t2
  obtain ⟨a4, b4, h4, t4, rfl⟩ := t3
  obtain rfl := t4
  obtain ⟨x0, rfl⟩ := OfTy.of (row := rI) _ h0
  obtain ⟨x1, rfl⟩ := OfTy.of (row := rI) _ h1
  obtain ⟨x2, rfl⟩ := OfTy.of (row := rB) _ h2
  obtain ⟨x3, rfl⟩ := OfTy.of (row := rI) _ h3
  obtain ⟨x4, rfl⟩ := OfTy.of (row := rI) _ h4
  exact ⟨⟨x0, x1, x2, x3, x4⟩, rfl⟩⟩
structure XOption where
  Start : Int
  Arrival : Int
  Cost : Int
  Passages : List XPassage
  deriving DecidableEq
def XOption.row (x : XOption) : List D := [.int .i64 x.Start, .int .i64 x.Arrival, .int .i64 x.Cost, .sl (List.map XPassage.row x.Passages)]
theorem XOption.row_eq (x : XOption) : XOption.row x = [.int .i64 x.Start, .int .i64 x.Arrival, .int .i64 x.Cost, .sl (List.map XPassage.row x.Passages)] := rfl
instance : Row XOption.row 4 := ⟨fun _ => rfl, Nat.le_of_ble_eq_true rfl⟩
instance : OfTy (.st [(.int .i64), (.int .i64), (.int .i64), (.sl (.st [(.int .i64), (.int .i64), .bool, (.int .i64), (.int .i64)]))]) XOption.row := ⟨fun ds h => by
  obtain ⟨a0, b0, h0, t0, rfl⟩ := h
  obtain ⟨a1, b1, h1, t1, rfl⟩ := t0
  obtain ⟨a2, b2, h2, t2, rfl⟩ := t1
  obtain ⟨a3, b3, h3, t3, rfl⟩ := t2
  obtain rfl := t3
  obtain ⟨x0, rfl⟩ := OfTy.of (row := rI) _ h0
  obtain ⟨x1, rfl⟩ := OfTy.of (row := rI) _ h1
  obtain ⟨x2, rfl⟩ := OfTy.of (row := rI) _ h2
  obtain ⟨x3, rfl⟩ := OfTy.of (row := (rL XPassage.row)) _ h3
  exact ⟨⟨x0, x1, x2, x3⟩, rfl⟩⟩
structure XBranch where
  Low : Int
  High : Int
  Plan : List XOption
  deriving DecidableEq
def XBranch.row (x : XBranch) : List D := [.int .i64 x.Low, .int .i64 x.High, .sl (List.map XOption.row x.Plan)]
theorem XBranch.row_eq (x : XBranch) : XBranch.row x = [.int .i64 x.Low, .int .i64 x.High, .sl (List.map XOption.row x.Plan)] := rfl
instance : Row XBranch.row 3 := ⟨fun _ => rfl, Nat.le_of_ble_eq_true rfl⟩
instance : OfTy (.st [(.int .i64), (.int .i64), (.sl (.st [(.int .i64), (.int .i64), (.int .i64), (.sl (.st [(.int .i64), (.int .i64), .bool, (.int .i64), (.int .i64)]))]))]) XBranch.row := ⟨fun ds h => by
  obtain ⟨a0, b0, h0, t0, rfl⟩ := h
  obtain ⟨a1, b1, h1, t1, rfl⟩ := t0
  obtain ⟨a2, b2, h2, t2, rfl⟩ := t1
  obtain rfl := t2
  obtain ⟨x0, rfl⟩ := OfTy.of (row := rI) _ h0
  obtain ⟨x1, rfl⟩ := OfTy.of (row := rI) _ h1
  obtain ⟨x2, rfl⟩ := OfTy.of (row := (rL XOption.row)) _ h2
  exact ⟨⟨x0, x1, x2⟩, rfl⟩⟩
structure XStrategy where
  Minute : Int
  Branches : List XBranch
  deriving DecidableEq
def XStrategy.row (x : XStrategy) : List D := [.int .i64 x.Minute, .sl (List.map XBranch.row x.Branches)]
theorem XStrategy.row_eq (x : XStrategy) : XStrategy.row x = [.int .i64 x.Minute, .sl (List.map XBranch.row x.Branches)] := rfl
instance : Row XStrategy.row 2 := ⟨fun _ => rfl, Nat.le_of_ble_eq_true rfl⟩
instance : OfTy (.st [(.int .i64), (.sl (.st [(.int .i64), (.int .i64), (.sl (.st [(.int .i64), (.int .i64), (.int .i64), (.sl (.st [(.int .i64), (.int .i64), .bool, (.int .i64), (.int .i64)]))]))]))]) XStrategy.row := ⟨fun ds h => by
  obtain ⟨a0, b0, h0, t0, rfl⟩ := h
  obtain ⟨a1, b1, h1, t1, rfl⟩ := t0
  obtain rfl := t1
  obtain ⟨x0, rfl⟩ := OfTy.of (row := rI) _ h0
  obtain ⟨x1, rfl⟩ := OfTy.of (row := (rL XBranch.row)) _ h1
  exact ⟨⟨x0, x1⟩, rfl⟩⟩
theorem rowsX : type_of% (And.intro @rI_eq (And.intro @bin_shr_u648 (And.intro @bin_shr_u6416 (And.intro @bin_shr_u6418 (And.intro @bin_shr_u6432 (And.intro @bin_shr_u6433 (And.intro @bin_shr_u6445 (And.intro @any_t (And.intro @rA_eq (And.intro @errD_none (And.intro @errD_some (And.intro @XPoint.row_eq (And.intro @XSegment.row_eq (And.intro @XChart.row_eq (And.intro @Xl01Cur.row_eq (And.intro @XShip.row_eq (And.intro @XWindow.row_eq (And.intro @XEntry.row_eq (And.intro @XDesk.row_eq (And.intro @XPassage.row_eq (And.intro @XOption.row_eq (And.intro @XBranch.row_eq (@XStrategy.row_eq))))))))))))))))))))))) := And.intro @rI_eq (And.intro @bin_shr_u648 (And.intro @bin_shr_u6416 (And.intro @bin_shr_u6418 (And.intro @bin_shr_u6432 (And.intro @bin_shr_u6433 (And.intro @bin_shr_u6445 (And.intro @any_t (And.intro @rA_eq (And.intro @errD_none (And.intro @errD_some (And.intro @XPoint.row_eq (And.intro @XSegment.row_eq (And.intro @XChart.row_eq (And.intro @Xl01Cur.row_eq (And.intro @XShip.row_eq (And.intro @XWindow.row_eq (And.intro @XEntry.row_eq (And.intro @XDesk.row_eq (And.intro @XPassage.row_eq (And.intro @XOption.row_eq (And.intro @XBranch.row_eq (@XStrategy.row_eq))))))))))))))))))))))
/- spec_l01New -/
def f_spec_l01New_2 (a0 : List Int) (v1 : Int) : Option Xl01Cur :=
 some (⟨a0, (0 : Int), v1⟩ : Xl01Cur)
def f_spec_l01New_1 (a0 : List Int) : Nat → Int → Int → Option Xl01Cur
 | 0, _, _ => none
 | n + 1, v1, v2 =>
  if (decide (v2 < (a0.length : Int))) then (
   if (decide (v2 < (4000 : Int))) then (
    (ix a0 v2).bind fun x5 =>
    f_spec_l01New_1 a0 n (bitsV .and .i64 (IntKind.i64.wrap ((IntKind.i64.wrap ((IntKind.i64.wrap (v1 * (79 : Int))) + (IntKind.i64.wrap x5))) + (7 : Int))) (1073741823 : Int)) (IntKind.i64.wrap (v2 + (1 : Int))))
   else (
    f_spec_l01New_2 a0 v1))
  else (
   f_spec_l01New_2 a0 v1)
def f_spec_l01New (a0 : List Int) : Option Xl01Cur :=
 f_spec_l01New_1 a0 bigN (IntKind.i64.wrap ((1976 : Int) + (a0.length : Int))) (0 : Int)
/- spec_l01Byte -/
def f_spec_l01Byte (a0 : Xl01Cur) : Option (Int × Xl01Cur) :=
 if (decide (a0.i < (a0.b.length : Int))) then (
  (ix a0.b a0.i).bind fun x2 =>
  some ((bitsV .and .i64 (IntKind.i64.wrap ((bitsV .and .i64 (bitsV .xor .i64 (shrV .i64 (IntKind.i64.wrap ((IntKind.i64.wrap (a0.h * (6364136223846793005 : Int))) + (1442695040888963407 : Int))) 33) (shrV .i64 (IntKind.i64.wrap ((IntKind.i64.wrap (a0.h * (6364136223846793005 : Int))) + (1442695040888963407 : Int))) 45)) (255 : Int)) + (IntKind.i64.wrap x2))) (255 : Int)), (⟨a0.b, (IntKind.i64.wrap (a0.i + (1 : Int))), (IntKind.i64.wrap ((IntKind.i64.wrap (a0.h * (6364136223846793005 : Int))) + (1442695040888963407 : Int)))⟩ : Xl01Cur)))
 else (
  some ((bitsV .and .i64 (bitsV .xor .i64 (shrV .i64 (IntKind.i64.wrap ((IntKind.i64.wrap (a0.h * (6364136223846793005 : Int))) + (1442695040888963407 : Int))) 33) (shrV .i64 (IntKind.i64.wrap ((IntKind.i64.wrap (a0.h * (6364136223846793005 : Int))) + (1442695040888963407 : Int))) 45)) (255 : Int)), (⟨a0.b, a0.i, (IntKind.i64.wrap ((IntKind.i64.wrap (a0.h * (6364136223846793005 : Int))) + (1442695040888963407 : Int)))⟩ : Xl01Cur)))
/- spec_l28New -/
def f_spec_l28New_1 (a1 : Int) : Nat → Int → (List Int) → Int → Int → Option Xl01Cur
 | 0, _, _, _, _ => none
 | n + 1, v2, v3, v4, v5 =>
  if (decide (v2 < a1)) then (
   (f_spec_l01Byte (⟨v3, v4, v5⟩ : Xl01Cur)).bind fun r7 =>
   f_spec_l28New_1 a1 n (IntKind.i64.wrap (v2 + (1 : Int))) r7.2.b r7.2.i r7.2.h)
  else (
   some (⟨v3, v4, v5⟩ : Xl01Cur))
def f_spec_l28New (a0 : List Int) (a1 : Int) : Option Xl01Cur :=
 (f_spec_l01New a0).bind fun r1 =>
 f_spec_l28New_1 a1 bigN (0 : Int) r1.b r1.i r1.h
/- spec_l01Below -/
def f_spec_l01Below (a0 : Xl01Cur) (a1 : Int) : Option (Int × Xl01Cur) :=
 if (decide (a1 ≤ (0 : Int))) then (
  some ((0 : Int), a0))
 else (
  if (decide (a1 ≤ (256 : Int))) then (
   (f_spec_l01Byte a0).bind fun r3 =>
   if a1 == 0 then none else
   some ((IntKind.i64.wrap (Int.tmod r3.1 a1)), r3.2))
  else (
   (f_spec_l01Byte a0).bind fun r5 =>
   (f_spec_l01Byte r5.2).bind fun r6 =>
   (f_spec_l01Byte r6.2).bind fun r7 =>
   (f_spec_l01Byte r7.2).bind fun r9 =>
   if a1 == 0 then none else
   some ((IntKind.i64.wrap (Int.tmod (IntKind.i64.wrap ((IntKind.i64.wrap ((IntKind.i64.wrap ((IntKind.i64.wrap (r5.1 * (16777216 : Int))) + (IntKind.i64.wrap (r6.1 * (65536 : Int))))) + (IntKind.i64.wrap (r7.1 * (256 : Int))))) + r9.1)) a1)), r9.2)))
/- spec_l01Once -/
def f_spec_l01Once (a0 : Xl01Cur) (a1 : Int) : Option (Bool × Xl01Cur) :=
 (f_spec_l01Below a0 a1).bind fun r1 =>
 some ((r1.1 == (0 : Int)), r1.2)
/- spec_l05Draw -/
def f_spec_l05Draw_1 (v15 : List Int) (v16 : Int) (v17 : Int) (v18 : List XPoint) (v19 : List XSegment) : Option (XChart × Xl01Cur) :=
 (f_spec_l01Once (⟨v15, v16, v17⟩ : Xl01Cur) (3 : Int)).bind fun r20 =>
 if r20.1 then (
  if appB v18.length ([(⟨([100, 111, 99, 107] : List UInt8), true⟩ : XPoint)] : List XPoint).length 24 then (
   (f_spec_l01Below r20.2 (300 : Int)).bind fun r23 =>
   if appB v19.length ([(⟨(2 : Int), (4 : Int), (IntKind.i64.wrap ((800 : Int) + r23.1)), (15 : Int), false⟩ : XSegment)] : List XSegment).length 40 then (
    some ((⟨(v18 ++ ([(⟨([100, 111, 99, 107] : List UInt8), true⟩ : XPoint)] : List XPoint)), (v19 ++ ([(⟨(2 : Int), (4 : Int), (IntKind.i64.wrap ((800 : Int) + r23.1)), (15 : Int), false⟩ : XSegment)] : List XSegment))⟩ : XChart), r23.2))
   else none)
  else none)
 else (
  some ((⟨v18, v19⟩ : XChart), r20.2))
def f_spec_l05Draw (a0 : Xl01Cur) : Option (XChart × Xl01Cur) :=
 (f_spec_l01Once a0 (2 : Int)).bind fun r1 =>
 (f_spec_l01Below r1.2 (300 : Int)).bind fun r2 =>
 (f_spec_l01Below r2.2 (40 : Int)).bind fun r3 =>
 (f_spec_l01Below r3.2 (300 : Int)).bind fun r4 =>
 (f_spec_l01Below r4.2 (30 : Int)).bind fun r5 =>
 (f_spec_l01Once r5.2 (2 : Int)).bind fun r6 =>
 (f_spec_l01Below r6.2 (200 : Int)).bind fun r7 =>
 (f_spec_l01Below r7.2 (20 : Int)).bind fun r9 =>
 (f_spec_l01Once r9.2 (3 : Int)).bind fun r10 =>
 if r10.1 then (
  (f_spec_l01Below r10.2 (300 : Int)).bind fun r12 =>
  (f_spec_l01Below r12.2 (30 : Int)).bind fun r13 =>
  if appB ([(⟨(0 : Int), (1 : Int), (IntKind.i64.wrap ((900 : Int) + r2.1)), (IntKind.i64.wrap ((10 : Int) + r3.1)), false⟩ : XSegment), (⟨(1 : Int), (2 : Int), (IntKind.i64.wrap ((800 : Int) + r4.1)), (IntKind.i64.wrap ((10 : Int) + r5.1)), r6.1⟩ : XSegment), (⟨(2 : Int), (3 : Int), (IntKind.i64.wrap ((900 : Int) + r7.1)), (IntKind.i64.wrap ((5 : Int) + r9.1)), false⟩ : XSegment)] : List XSegment).length ([(⟨(3 : Int), (1 : Int), (IntKind.i64.wrap ((700 : Int) + r12.1)), (IntKind.i64.wrap ((20 : Int) + r13.1)), true⟩ : XSegment)] : List XSegment).length 40 then (
   f_spec_l05Draw_1 r13.2.b r13.2.i r13.2.h ([(⟨([115, 101, 97] : List UInt8), true⟩ : XPoint), (⟨([98, 97, 114] : List UInt8), false⟩ : XPoint), (⟨([114, 111, 97, 100] : List UInt8), r1.1⟩ : XPoint), (⟨([113, 117, 97, 121] : List UInt8), true⟩ : XPoint)] : List XPoint) (([(⟨(0 : Int), (1 : Int), (IntKind.i64.wrap ((900 : Int) + r2.1)), (IntKind.i64.wrap ((10 : Int) + r3.1)), false⟩ : XSegment), (⟨(1 : Int), (2 : Int), (IntKind.i64.wrap ((800 : Int) + r4.1)), (IntKind.i64.wrap ((10 : Int) + r5.1)), r6.1⟩ : XSegment), (⟨(2 : Int), (3 : Int), (IntKind.i64.wrap ((900 : Int) + r7.1)), (IntKind.i64.wrap ((5 : Int) + r9.1)), false⟩ : XSegment)] : List XSegment) ++ ([(⟨(3 : Int), (1 : Int), (IntKind.i64.wrap ((700 : Int) + r12.1)), (IntKind.i64.wrap ((20 : Int) + r13.1)), true⟩ : XSegment)] : List XSegment)))
  else none)
 else (
  f_spec_l05Draw_1 r10.2.b r10.2.i r10.2.h ([(⟨([115, 101, 97] : List UInt8), true⟩ : XPoint), (⟨([98, 97, 114] : List UInt8), false⟩ : XPoint), (⟨([114, 111, 97, 100] : List UInt8), r1.1⟩ : XPoint), (⟨([113, 117, 97, 121] : List UInt8), true⟩ : XPoint)] : List XPoint) ([(⟨(0 : Int), (1 : Int), (IntKind.i64.wrap ((900 : Int) + r2.1)), (IntKind.i64.wrap ((10 : Int) + r3.1)), false⟩ : XSegment), (⟨(1 : Int), (2 : Int), (IntKind.i64.wrap ((800 : Int) + r4.1)), (IntKind.i64.wrap ((10 : Int) + r5.1)), r6.1⟩ : XSegment), (⟨(2 : Int), (3 : Int), (IntKind.i64.wrap ((900 : Int) + r7.1)), (IntKind.i64.wrap ((5 : Int) + r9.1)), false⟩ : XSegment)] : List XSegment))
/- spec_MakeChart -/
def f_spec_MakeChart (a0 : List Int) (a1 : Int) : Option XChart :=
 (f_spec_l28New a0 a1).bind fun r1 =>
 (f_spec_l05Draw r1).bind fun r2 =>
 some r2.1
/- spec_FormatInt -/
def f_spec_FormatInt_1 (rec_ : Int → Option (List UInt8)) : Nat → Int → (List UInt8) → Option (List UInt8)
 | 0, _, _ => none
 | n + 1, v6, v7 =>
  if (decide ((9 : Int) < v6)) then (
   if catB ([(IntKind.u8.wrap (IntKind.i64.wrap ((48 : Int) + (IntKind.i64.wrap (Int.tmod v6 (10 : Int))))))] : List Int).length v7.length then (
    f_spec_FormatInt_1 rec_ n (IntKind.i64.wrap (Int.tdiv v6 (10 : Int))) ((List.map toU8 ([(IntKind.u8.wrap (IntKind.i64.wrap ((48 : Int) + (IntKind.i64.wrap (Int.tmod v6 (10 : Int))))))] : List Int)) ++ v7))
   else none)
  else (
   if catB ([(IntKind.u8.wrap (IntKind.i64.wrap ((48 : Int) + v6)))] : List Int).length v7.length then (
    some ((List.map toU8 ([(IntKind.u8.wrap (IntKind.i64.wrap ((48 : Int) + v6)))] : List Int)) ++ v7))
   else none)
def f_spec_FormatInt_b (rec_ : Int → Option (List UInt8)) (a0 : Int) : Option (List UInt8) :=
 if (decide (a0 < (0 : Int))) then (
  if ((IntKind.i64.wrap (Int.tdiv a0 (10 : Int))) == (0 : Int)) then (
   if catB ([45] : List UInt8).length ([(IntKind.u8.wrap (IntKind.i64.wrap ((48 : Int) - a0)))] : List Int).length then (
    some (([45] : List UInt8) ++ (List.map toU8 ([(IntKind.u8.wrap (IntKind.i64.wrap ((48 : Int) - a0)))] : List Int))))
   else none)
  else (
   (rec_ (IntKind.i64.wrap (Int.tdiv a0 (10 : Int)))).bind fun r4 =>
   if catB r4.length ([(IntKind.u8.wrap (IntKind.i64.wrap ((48 : Int) - (IntKind.i64.wrap (Int.tmod a0 (10 : Int))))))] : List Int).length then (
    some (r4 ++ (List.map toU8 ([(IntKind.u8.wrap (IntKind.i64.wrap ((48 : Int) - (IntKind.i64.wrap (Int.tmod a0 (10 : Int))))))] : List Int))))
   else none))
 else (
  f_spec_FormatInt_1 rec_ bigN a0 ([] : List UInt8))
def f_spec_FormatInt_r : Nat → Int → Option (List UInt8)
 | 0, _ => none
 | n + 1, a0 => f_spec_FormatInt_b (f_spec_FormatInt_r n) a0
def f_spec_FormatInt (a0 : Int) : Option (List UInt8) := f_spec_FormatInt_r bigN a0
/- spec_l06Ship -/
def f_spec_l06Ship (a0 : Xl01Cur) (a1 : Int) : Option (XShip × Xl01Cur) :=
 (f_spec_FormatInt a1).bind fun r1 =>
 if catB ([115] : List UInt8).length r1.length then (
  (f_spec_l01Below a0 (200 : Int)).bind fun r3 =>
  (f_spec_l01Below r3.2 (500 : Int)).bind fun r4 =>
  (f_spec_l01Below r4.2 (4 : Int)).bind fun r5 =>
  (f_spec_l01Below r5.2 (3 : Int)).bind fun r6 =>
  (f_spec_l01Once r6.2 (4 : Int)).bind fun r7 =>
  some ((⟨(([115] : List UInt8) ++ r1), (IntKind.i64.wrap ((40 : Int) + r3.1)), (IntKind.i64.wrap ((600 : Int) + r4.1)), r5.1, r6.1, r7.1⟩ : XShip), r7.2))
 else none
/- spec_MakeShip -/
def f_spec_MakeShip (a0 : List Int) (a1 : Int) : Option XShip :=
 (f_spec_l28New a0 a1).bind fun r1 =>
 (f_spec_l06Ship r1 (0 : Int)).bind fun r2 =>
 some r2.1
/- spec_l04Draw -/
def f_spec_l04Draw_1 : Nat → Int → Int → (List Int) → Int → Int → (List XWindow) → Option ((List XWindow) × Xl01Cur)
 | 0, _, _, _, _, _, _ => none
 | n + 1, v3, v4, v5, v6, v7, v8 =>
  if (decide ((0 : Int) < v4)) then (
   (f_spec_l01Below (⟨v5, v6, v7⟩ : Xl01Cur) (300 : Int)).bind fun r10 =>
   if appB v8.length ([(⟨v3, (IntKind.i64.wrap (v3 + r10.1))⟩ : XWindow)] : List XWindow).length 16 then (
    (f_spec_l01Below r10.2 (200 : Int)).bind fun r12 =>
    f_spec_l04Draw_1 n (IntKind.i64.wrap ((IntKind.i64.wrap ((IntKind.i64.wrap (v3 + r10.1)) + (2 : Int))) + r12.1)) (IntKind.i64.wrap (v4 - (1 : Int))) r12.2.b r12.2.i r12.2.h (v8 ++ ([(⟨v3, (IntKind.i64.wrap (v3 + r10.1))⟩ : XWindow)] : List XWindow)))
   else none)
  else (
   some (v8, (⟨v5, v6, v7⟩ : Xl01Cur)))
def f_spec_l04Draw (a0 : Xl01Cur) : Option ((List XWindow) × Xl01Cur) :=
 (f_spec_l01Below a0 (60 : Int)).bind fun r1 =>
 (f_spec_l01Below r1.2 (4 : Int)).bind fun r2 =>
 f_spec_l04Draw_1 bigN r1.1 r2.1 r2.2.b r2.2.i r2.2.h ([] : List XWindow)
/- spec_MakeWindows -/
def f_spec_MakeWindows (a0 : List Int) (a1 : Int) : Option (List XWindow) :=
 (f_spec_l28New a0 a1).bind fun r1 =>
 (f_spec_l04Draw r1).bind fun r2 =>
 some r2.1
/- impl_within -/
def f_impl_within (a0 : Int) (a1 : Int) (a2 : Int) : Option Bool :=
 if (decide (a1 ≤ a0)) then (
  some (decide (a0 ≤ a2)))
 else (
  some false)
/- impl_IsName -/
def f_impl_IsName_3 (a0 : List UInt8) (v3 : Int) (k_impl_IsName_1 : Int → Option Bool) : Option Bool :=
 k_impl_IsName_1 (IntKind.i64.wrap (v3 + (1 : Int)))
def f_impl_IsName_2 (a0 : List UInt8) (v3 : Int) (k_impl_IsName_1 : Int → Option Bool) (v7 : Bool) : Option Bool :=
 if v7 then (
  f_impl_IsName_3 a0 v3 k_impl_IsName_1)
 else (
  if (v3 == (0 : Int)) then (
   some false)
  else (
   (ix a0 v3).bind fun b10 =>
   if (decide ((b10.toNat : Int) < (48 : Int))) then (
    some false)
   else (
    if (decide ((57 : Int) < (b10.toNat : Int))) then (
     some false)
    else (
     f_impl_IsName_3 a0 v3 k_impl_IsName_1))))
def f_impl_IsName_1 (a0 : List UInt8) : Nat → Int → Option Bool
 | 0, _ => none
 | n + 1, v3 =>
  if (decide (v3 < (a0.length : Int))) then (
   (ix a0 v3).bind fun b5 =>
   if (decide ((97 : Int) ≤ (b5.toNat : Int))) then (
    f_impl_IsName_2 a0 v3 (f_impl_IsName_1 a0 n) (decide ((b5.toNat : Int) ≤ (122 : Int))))
   else (
    f_impl_IsName_2 a0 v3 (f_impl_IsName_1 a0 n) false))
  else (
   some true)
def f_impl_IsName (a0 : List UInt8) : Option Bool :=
 (f_impl_within (a0.length : Int) (1 : Int) (8 : Int)).bind fun r1 =>
 if r1 then (
  f_impl_IsName_1 a0 bigN (0 : Int))
 else (
  some false)
/- impl_PointNamed -/
def f_impl_PointNamed_1 (a1 : List UInt8) (a0 : XChart) : Nat → Int → Option Int
 | 0, _ => none
 | n + 1, v1 =>
  if (decide (v1 < (a0.Points.length : Int))) then (
   (ix a0.Points v1).bind fun x3 =>
   if (x3.Name == a1) then (
    some v1)
   else (
    f_impl_PointNamed_1 a1 a0 n (IntKind.i64.wrap (v1 + (1 : Int)))))
  else (
   some (-1 : Int))
def f_impl_PointNamed (a0 : XChart) (a1 : List UInt8) : Option Int :=
 f_impl_PointNamed_1 a1 a0 bigN (0 : Int)
/- impl_isIndex -/
def f_impl_isIndex (a0 : Int) (a1 : Int) : Option Bool :=
 if (decide ((0 : Int) ≤ a0)) then (
  some (decide (a0 < a1)))
 else (
  some false)
/- impl_Segment_joins -/
def f_impl_Segment_joins (a0 : XSegment) (a1 : Int) (a2 : Int) : Option Bool :=
 if (a0.A == a1) then (
  if (a0.B == a2) then (
   some true)
  else (
   if (a0.A == a2) then (
    some (a0.B == a1))
   else (
    some false)))
 else (
  if (a0.A == a2) then (
   some (a0.B == a1))
  else (
   some false))
/- impl_ChartOk -/
def f_impl_ChartOk_3 (a0 : XChart) (v11 : Int) (x13 : XSegment) (y24 : List XSegment) (y25 : Int) (k_impl_ChartOk_2 : Int → Option Bool) : Nat → Int → Option Bool
 | 0, _ => none
 | n + 1, v26 =>
  if (decide (v26 < y25)) then (
   (ix y24 v26).bind fun x28 =>
   (f_impl_Segment_joins x28 x13.A x13.B).bind fun r29 =>
   if r29 then (
    some false)
   else (
    f_impl_ChartOk_3 a0 v11 x13 y24 y25 k_impl_ChartOk_2 n (IntKind.i64.wrap (v26 + (1 : Int)))))
  else (
   k_impl_ChartOk_2 (IntKind.i64.wrap (v11 + (1 : Int))))
def f_impl_ChartOk_2 (a0 : XChart) : Nat → Int → Option Bool
 | 0, _ => none
 | n + 1, v11 =>
  if (decide (v11 < (a0.Segments.length : Int))) then (
   (ix a0.Segments v11).bind fun x13 =>
   (f_impl_isIndex x13.A (a0.Points.length : Int)).bind fun r14 =>
   if r14 then (
    (f_impl_isIndex x13.B (a0.Points.length : Int)).bind fun r16 =>
    if r16 then (
     if (x13.A == x13.B) then (
      some false)
     else (
      (f_impl_within x13.Depth (0 : Int) (3000 : Int)).bind fun r19 =>
      if r19 then (
       (f_impl_within x13.Minutes (1 : Int) (240 : Int)).bind fun r21 =>
       if r21 then (
        (bnd (a0.Segments.length : Int) v11 (0 : Int) a0.Segments.length).bind fun p23 =>
        f_impl_ChartOk_3 a0 v11 x13 ((a0.Segments.drop p23.1).take (p23.2 - p23.1)) (((a0.Segments.drop p23.1).take (p23.2 - p23.1)).length : Int) (f_impl_ChartOk_2 a0 n) bigN (0 : Int))
       else (
        some false))
      else (
       some false)))
    else (
     some false))
   else (
    some false))
  else (
   some true)
def f_impl_ChartOk_1 (a0 : XChart) : Nat → Int → Option Bool
 | 0, _ => none
 | n + 1, v3 =>
  if (decide (v3 < (a0.Points.length : Int))) then (
   (ix a0.Points v3).bind fun x5 =>
   (f_impl_IsName x5.Name).bind fun r6 =>
   if r6 then (
    (f_impl_PointNamed a0 x5.Name).bind fun r9 =>
    if (r9 != v3) then (
     some false)
    else (
     f_impl_ChartOk_1 a0 n (IntKind.i64.wrap (v3 + (1 : Int)))))
   else (
    some false))
  else (
   f_impl_ChartOk_2 a0 bigN (0 : Int))
def f_impl_ChartOk (a0 : XChart) : Option Bool :=
 if (decide ((8 : Int) < (a0.Points.length : Int))) then (
  some false)
 else (
  if (decide ((10 : Int) < (a0.Segments.length : Int))) then (
   some false)
  else (
   f_impl_ChartOk_1 a0 bigN (0 : Int)))
/- impl_marked -/
def f_impl_marked (a0 : List UInt8) (a1 : Bool) (a2 : List UInt8) : Option (List UInt8) :=
 if a1 then (
  if catB a0.length ([32] : List UInt8).length then (
   if catB (a0 ++ ([32] : List UInt8)).length a2.length then (
    some ((a0 ++ ([32] : List UInt8)) ++ a2))
   else none)
  else none)
 else (
  some a0)
/- impl_FormatInt -/
def f_impl_FormatInt (a0 : Int) : Option (List UInt8) :=
 (f_strconv_Itoa a0).bind fun r1 =>
 some r1
/- impl_Join -/
def f_impl_Join (a0 : List (List UInt8)) (a1 : List UInt8) : Option (List UInt8) :=
 (f_strings_Join a0 a1).bind fun r1 =>
 some r1
/- impl_FormatChart -/
def f_impl_FormatChart_2 (a0 : XChart) : Nat → (List UInt8) → Int → Option (List UInt8)
 | 0, _, _ => none
 | n + 1, v12, v13 =>
  if (decide (v13 < (a0.Segments.length : Int))) then (
   (ix a0.Segments v13).bind fun x15 =>
   (ix a0.Points x15.A).bind fun x16 =>
   (ix a0.Points x15.B).bind fun x17 =>
   (f_impl_FormatInt x15.Depth).bind fun r18 =>
   (f_impl_FormatInt x15.Minutes).bind fun r19 =>
   (f_impl_Join ([([99, 104, 97, 110, 110, 101, 108] : List UInt8), x16.Name, x17.Name, r18, r19] : List (List UInt8)) ([32] : List UInt8)).bind fun r20 =>
   (f_impl_marked r20 x15.Meet ([109, 101, 101, 116] : List UInt8)).bind fun r21 =>
   if catB r21.length ([10] : List UInt8).length then (
    if catB v12.length (r21 ++ ([10] : List UInt8)).length then (
     f_impl_FormatChart_2 a0 n (v12 ++ (r21 ++ ([10] : List UInt8))) (IntKind.i64.wrap (v13 + (1 : Int))))
    else none)
   else none)
  else (
   some v12)
def f_impl_FormatChart_1 (a0 : XChart) : Nat → (List UInt8) → Int → Option (List UInt8)
 | 0, _, _ => none
 | n + 1, v3, v4 =>
  if (decide (v4 < (a0.Points.length : Int))) then (
   (ix a0.Points v4).bind fun x6 =>
   if catB ([112, 111, 105, 110, 116, 32] : List UInt8).length x6.Name.length then (
    (f_impl_marked (([112, 111, 105, 110, 116, 32] : List UInt8) ++ x6.Name) x6.Wait ([119, 97, 105, 116] : List UInt8)).bind fun r9 =>
    if catB r9.length ([10] : List UInt8).length then (
     if catB v3.length (r9 ++ ([10] : List UInt8)).length then (
      f_impl_FormatChart_1 a0 n (v3 ++ (r9 ++ ([10] : List UInt8))) (IntKind.i64.wrap (v4 + (1 : Int))))
     else none)
    else none)
   else none)
  else (
   f_impl_FormatChart_2 a0 bigN v3 (0 : Int))
def f_impl_FormatChart (a0 : XChart) : Option (List UInt8) :=
 (f_impl_ChartOk a0).bind fun r1 =>
 if r1 then (
  f_impl_FormatChart_1 a0 bigN ([] : List UInt8) (0 : Int))
 else (
  some ([] : List UInt8))
/- impl_SplitAny -/
def f_impl_SplitAny_2 (a0 : List UInt8) (a1 : List UInt8) (v2 : Int) (k_impl_SplitAny_1 : Int → Int → (List (List UInt8)) → Option (List (List UInt8))) (v10 : Int) (v11 : List (List UInt8)) : Option (List (List UInt8)) :=
 k_impl_SplitAny_1 v10 (IntKind.i64.wrap (v2 + (1 : Int))) v11
def f_impl_SplitAny_1 (a0 : List UInt8) (a1 : List UInt8) : Nat → Int → Int → (List (List UInt8)) → Option (List (List UInt8))
 | 0, _, _, _ => none
 | n + 1, v1, v2, v3 =>
  if (decide (v2 < (a0.length : Int))) then (
   (ix a0 v2).bind fun b5 =>
   (f_strings_IndexByte a1 (b5.toNat : Int)).bind fun r6 =>
   if (decide ((0 : Int) ≤ r6)) then (
    (bnd (a0.length : Int) v2 v1 a0.length).bind fun p8 =>
    if appB v3.length ([((a0.drop p8.1).take (p8.2 - p8.1))] : List (List UInt8)).length 16 then (
     f_impl_SplitAny_2 a0 a1 v2 (f_impl_SplitAny_1 a0 a1 n) (IntKind.i64.wrap (v2 + (1 : Int))) (v3 ++ ([((a0.drop p8.1).take (p8.2 - p8.1))] : List (List UInt8))))
    else none)
   else (
    f_impl_SplitAny_2 a0 a1 v2 (f_impl_SplitAny_1 a0 a1 n) v1 v3))
  else (
   (bnd (a0.length : Int) (a0.length : Int) v1 a0.length).bind fun p12 =>
   if appB v3.length ([((a0.drop p12.1).take (p12.2 - p12.1))] : List (List UInt8)).length 16 then (
    some (v3 ++ ([((a0.drop p12.1).take (p12.2 - p12.1))] : List (List UInt8))))
   else none)
def f_impl_SplitAny (a0 : List UInt8) (a1 : List UInt8) : Option (List (List UInt8)) :=
 f_impl_SplitAny_1 a0 a1 bigN (0 : Int) (0 : Int) ([] : List (List UInt8))
/- impl_SplitLines -/
def f_impl_SplitLines (a0 : List UInt8) : Option (List (List UInt8)) :=
 (f_impl_SplitAny a0 ([10] : List UInt8)).bind fun r1 =>
 (ix r1 (IntKind.i64.wrap ((r1.length : Int) - (1 : Int)))).bind fun x2 =>
 if (x2 == ([] : List UInt8)) then (
  (bnd (r1.length : Int) (IntKind.i64.wrap ((r1.length : Int) - (1 : Int))) (0 : Int) r1.length).bind fun p4 =>
  some ((r1.drop p4.1).take (p4.2 - p4.1)))
 else (
  some r1)
/- impl_pointOf -/
def f_impl_pointOf_1 (a0 : List (List UInt8)) (v7 : Bool) : Option (XPoint × Bool) :=
 if v7 then (
  some ((⟨([] : List UInt8), false⟩ : XPoint), false))
 else (
  (ix a0 (1 : Int)).bind fun x9 =>
  some ((⟨x9, ((a0.length : Int) == (3 : Int))⟩ : XPoint), true))
def f_impl_pointOf (a0 : List (List UInt8)) : Option (XPoint × Bool) :=
 if (decide ((a0.length : Int) < (2 : Int))) then (
  f_impl_pointOf_1 a0 true)
 else (
  if (decide ((3 : Int) < (a0.length : Int))) then (
   f_impl_pointOf_1 a0 true)
  else (
   (ix a0 (0 : Int)).bind fun x3 =>
   if (x3 == ([112, 111, 105, 110, 116] : List UInt8)) then (
    if ((a0.length : Int) == (3 : Int)) then (
     (ix a0 (2 : Int)).bind fun x6 =>
     f_impl_pointOf_1 a0 (!(x6 == ([119, 97, 105, 116] : List UInt8))))
    else (
     f_impl_pointOf_1 a0 false))
   else (
    f_impl_pointOf_1 a0 true)))
/- impl_parseNumbers -/
def f_impl_parseNumbers_1 (a0 : List (List UInt8)) : Nat → Int → (List Int) → Option ((List Int) × Bool)
 | 0, _, _ => none
 | n + 1, v1, v2 =>
  if (decide (v1 < (a0.length : Int))) then (
   (ix a0 v1).bind fun x4 =>
   (f_impl_ParseInt x4).bind fun r5 =>
   if r5.2 then (
    if appB v2.length ([r5.1] : List Int).length 8 then (
     f_impl_parseNumbers_1 a0 n (IntKind.i64.wrap (v1 + (1 : Int))) (v2 ++ ([r5.1] : List Int)))
    else none)
   else (
    some (([] : List Int), false)))
  else (
   some (v2, true))
def f_impl_parseNumbers (a0 : List (List UInt8)) : Option ((List Int) × Bool) :=
 f_impl_parseNumbers_1 a0 bigN (0 : Int) ([] : List Int)
/- impl_segmentOf -/
def f_impl_segmentOf_1 (a1 : List (List UInt8)) (a0 : XChart) (v7 : Bool) : Option (XSegment × Bool) :=
 if v7 then (
  some ((⟨(0 : Int), (0 : Int), (0 : Int), (0 : Int), false⟩ : XSegment), false))
 else (
  (bnd (5 : Int) (5 : Int) (3 : Int) a1.length).bind fun p9 =>
  (f_impl_parseNumbers ((a1.drop p9.1).take (p9.2 - p9.1))).bind fun r10 =>
  if r10.2 then (
   (ix a1 (1 : Int)).bind fun x12 =>
   (f_impl_PointNamed a0 x12).bind fun r13 =>
   (ix a1 (2 : Int)).bind fun x14 =>
   (f_impl_PointNamed a0 x14).bind fun r15 =>
   (ix r10.1 (0 : Int)).bind fun x16 =>
   (ix r10.1 (1 : Int)).bind fun x17 =>
   some ((⟨r13, r15, x16, x17, ((a1.length : Int) == (6 : Int))⟩ : XSegment), true))
  else (
   some ((⟨(0 : Int), (0 : Int), (0 : Int), (0 : Int), false⟩ : XSegment), false)))
def f_impl_segmentOf (a0 : XChart) (a1 : List (List UInt8)) : Option (XSegment × Bool) :=
 if (decide ((a1.length : Int) < (5 : Int))) then (
  f_impl_segmentOf_1 a1 a0 true)
 else (
  if (decide ((6 : Int) < (a1.length : Int))) then (
   f_impl_segmentOf_1 a1 a0 true)
  else (
   (ix a1 (0 : Int)).bind fun x3 =>
   if (x3 == ([99, 104, 97, 110, 110, 101, 108] : List UInt8)) then (
    if ((a1.length : Int) == (6 : Int)) then (
     (ix a1 (5 : Int)).bind fun x6 =>
     f_impl_segmentOf_1 a1 a0 (!(x6 == ([109, 101, 101, 116] : List UInt8))))
    else (
     f_impl_segmentOf_1 a1 a0 false))
   else (
    f_impl_segmentOf_1 a1 a0 true)))
/- impl_ParseChart -/
def f_impl_ParseChart_3 (a0 : List UInt8) (r1 : (List (List UInt8))) (v2 : Int) (v15 : List XPoint) (v16 : List XSegment) (k_impl_ParseChart_1 : Int → (List XPoint) → (List XSegment) → Option (XChart × Bool)) (v18 : Bool) : Option (XChart × Bool) :=
 if v18 then (
  some ((⟨([] : List XPoint), ([] : List XSegment)⟩ : XChart), false))
 else (
  k_impl_ParseChart_1 (IntKind.i64.wrap (v2 + (1 : Int))) v15 v16)
def f_impl_ParseChart_2 (a0 : List UInt8) (r1 : (List (List UInt8))) (v2 : Int) (k_impl_ParseChart_1 : Int → (List XPoint) → (List XSegment) → Option (XChart × Bool)) (v15 : List XPoint) (v16 : List XSegment) : Option (XChart × Bool) :=
 if (decide ((8 : Int) < (v15.length : Int))) then (
  f_impl_ParseChart_3 a0 r1 v2 v15 v16 k_impl_ParseChart_1 true)
 else (
  f_impl_ParseChart_3 a0 r1 v2 v15 v16 k_impl_ParseChart_1 (decide ((10 : Int) < (v16.length : Int))))
def f_impl_ParseChart_4 (v3 : List XPoint) (v4 : List XSegment) (v23 : Bool) : Option (XChart × Bool) :=
 if v23 then (
  some ((⟨([] : List XPoint), ([] : List XSegment)⟩ : XChart), false))
 else (
  some ((⟨v3, v4⟩ : XChart), true))
def f_impl_ParseChart_1 (a0 : List UInt8) (r1 : (List (List UInt8))) : Nat → Int → (List XPoint) → (List XSegment) → Option (XChart × Bool)
 | 0, _, _, _ => none
 | n + 1, v2, v3, v4 =>
  if (decide (v2 < (r1.length : Int))) then (
   (ix r1 v2).bind fun x6 =>
   (f_impl_SplitAny x6 ([32] : List UInt8)).bind fun r7 =>
   (f_impl_pointOf r7).bind fun r9 =>
   (f_impl_segmentOf (⟨v3, v4⟩ : XChart) r7).bind fun r10 =>
   if r9.2 then (
    if appB v3.length ([r9.1] : List XPoint).length 24 then (
     f_impl_ParseChart_2 a0 r1 v2 (f_impl_ParseChart_1 a0 r1 n) (v3 ++ ([r9.1] : List XPoint)) v4)
    else none)
   else (
    if r10.2 then (
     if appB v4.length ([r10.1] : List XSegment).length 40 then (
      f_impl_ParseChart_2 a0 r1 v2 (f_impl_ParseChart_1 a0 r1 n) v3 (v4 ++ ([r10.1] : List XSegment)))
     else none)
    else (
     some ((⟨([] : List XPoint), ([] : List XSegment)⟩ : XChart), false))))
  else (
   (f_impl_ChartOk (⟨v3, v4⟩ : XChart)).bind fun r20 =>
   if r20 then (
    (f_impl_FormatChart (⟨v3, v4⟩ : XChart)).bind fun r22 =>
    f_impl_ParseChart_4 v3 v4 (!(r22 == a0)))
   else (
    f_impl_ParseChart_4 v3 v4 true))
def f_impl_ParseChart (a0 : List UInt8) : Option (XChart × Bool) :=
 (f_impl_SplitLines a0).bind fun r1 =>
 f_impl_ParseChart_1 a0 r1 bigN (0 : Int) ([] : List XPoint) ([] : List XSegment)
/- impl_ShipOk -/
def f_impl_ShipOk (a0 : XShip) : Option Bool :=
 (f_impl_IsName a0.Name).bind fun r1 =>
 if r1 then (
  (f_impl_within a0.Length (10 : Int) (400 : Int)).bind fun r3 =>
  if r3 then (
   (f_impl_within a0.Draught (100 : Int) (2000 : Int)).bind fun r5 =>
   if r5 then (
    (f_impl_isIndex a0.Line (4 : Int)).bind fun r7 =>
    if r7 then (
     (f_impl_within a0.Tugs (0 : Int) (4 : Int)).bind fun r9 =>
     some r9)
    else (
     some false))
   else (
    some false))
  else (
   some false))
 else (
  some false)
/- impl_FormatShip -/
def f_impl_FormatShip (a0 : XShip) : Option (List UInt8) :=
 (f_impl_ShipOk a0).bind fun r1 =>
 if r1 then (
  (f_impl_FormatInt a0.Length).bind fun r3 =>
  (f_impl_FormatInt a0.Draught).bind fun r4 =>
  (f_impl_FormatInt a0.Line).bind fun r5 =>
  (f_impl_FormatInt a0.Tugs).bind fun r6 =>
  (f_impl_Join ([a0.Name, r3, r4, r5, r6] : List (List UInt8)) ([32] : List UInt8)).bind fun r7 =>
  (f_impl_marked r7 a0.Slow ([115, 108, 111, 119] : List UInt8)).bind fun r9 =>
  some r9)
 else (
  some ([] : List UInt8))
/- impl_ParseShip -/
def f_impl_ParseShip_1 (x6 : List UInt8) (x7 : Int) (x8 : Int) (x9 : Int) (x10 : Int) (v14 : Bool) (v15 : Bool) : Option (XShip × Bool) :=
 if v14 then (
  some ((⟨([] : List UInt8), (0 : Int), (0 : Int), (0 : Int), (0 : Int), false⟩ : XShip), false))
 else (
  some ((⟨x6, x7, x8, x9, x10, v15⟩ : XShip), true))
def f_impl_ParseShip (a0 : List UInt8) : Option (XShip × Bool) :=
 (f_impl_SplitAny a0 ([32] : List UInt8)).bind fun r1 =>
 if (decide ((r1.length : Int) < (5 : Int))) then (
  some ((⟨([] : List UInt8), (0 : Int), (0 : Int), (0 : Int), (0 : Int), false⟩ : XShip), false))
 else (
  (bnd (5 : Int) (5 : Int) (1 : Int) r1.length).bind fun p3 =>
  (f_impl_parseNumbers ((r1.drop p3.1).take (p3.2 - p3.1))).bind fun r4 =>
  if r4.2 then (
   (ix r1 (0 : Int)).bind fun x6 =>
   (ix r4.1 (0 : Int)).bind fun x7 =>
   (ix r4.1 (1 : Int)).bind fun x8 =>
   (ix r4.1 (2 : Int)).bind fun x9 =>
   (ix r4.1 (3 : Int)).bind fun x10 =>
   (f_impl_ShipOk (⟨x6, x7, x8, x9, x10, (decide ((5 : Int) < (r1.length : Int)))⟩ : XShip)).bind fun r11 =>
   if r11 then (
    (f_impl_FormatShip (⟨x6, x7, x8, x9, x10, (decide ((5 : Int) < (r1.length : Int)))⟩ : XShip)).bind fun r13 =>
    f_impl_ParseShip_1 x6 x7 x8 x9 x10 (!(r13 == a0)) (decide ((5 : Int) < (r1.length : Int))))
   else (
    f_impl_ParseShip_1 x6 x7 x8 x9 x10 true (decide ((5 : Int) < (r1.length : Int)))))
  else (
   some ((⟨([] : List UInt8), (0 : Int), (0 : Int), (0 : Int), (0 : Int), false⟩ : XShip), false)))
/- impl_WindowsOk -/
def f_impl_WindowsOk_1 (a0 : List XWindow) : Nat → Int → Option Bool
 | 0, _ => none
 | n + 1, v1 =>
  if (decide (v1 < (a0.length : Int))) then (
   (ix a0 v1).bind fun x3 =>
   if (decide (x3.From < (0 : Int))) then (
    some false)
   else (
    if (decide (x3.To < x3.From)) then (
     some false)
    else (
     if (decide ((2880 : Int) < x3.To)) then (
      some false)
     else (
      if (decide ((0 : Int) < v1)) then (
       (ix a0 (IntKind.i64.wrap (v1 - (1 : Int)))).bind fun x8 =>
       if (decide (x3.From ≤ (IntKind.i64.wrap (x8.To + (1 : Int))))) then (
        some false)
       else (
        f_impl_WindowsOk_1 a0 n (IntKind.i64.wrap (v1 + (1 : Int)))))
      else (
       f_impl_WindowsOk_1 a0 n (IntKind.i64.wrap (v1 + (1 : Int))))))))
  else (
   some true)
def f_impl_WindowsOk (a0 : List XWindow) : Option Bool :=
 f_impl_WindowsOk_1 a0 bigN (0 : Int)
/- impl_FormatWindows -/
def f_impl_FormatWindows_1 (a0 : List XWindow) : Nat → Int → (List (List UInt8)) → Option (List UInt8)
 | 0, _, _ => none
 | n + 1, v4, v5 =>
  if (decide (v4 < (a0.length : Int))) then (
   (ix a0 v4).bind fun x7 =>
   (f_impl_FormatInt x7.From).bind fun r9 =>
   if catB r9.length ([45] : List UInt8).length then (
    (f_impl_FormatInt x7.To).bind fun r11 =>
    if catB (r9 ++ ([45] : List UInt8)).length r11.length then (
     if appB v5.length ([((r9 ++ ([45] : List UInt8)) ++ r11)] : List (List UInt8)).length 16 then (
      f_impl_FormatWindows_1 a0 n (IntKind.i64.wrap (v4 + (1 : Int))) (v5 ++ ([((r9 ++ ([45] : List UInt8)) ++ r11)] : List (List UInt8))))
     else none)
    else none)
   else none)
  else (
   (f_impl_Join v5 ([32] : List UInt8)).bind fun r14 =>
   some r14)
def f_impl_FormatWindows (a0 : List XWindow) : Option (List UInt8) :=
 (f_impl_WindowsOk a0).bind fun r1 =>
 if r1 then (
  if ((a0.length : Int) == (0 : Int)) then (
   some ([110, 111, 110, 101] : List UInt8))
  else (
   f_impl_FormatWindows_1 a0 bigN (0 : Int) ([] : List (List UInt8))))
 else (
  some ([] : List UInt8))
/- impl_ParseWindows -/
def f_impl_ParseWindows_2 (a0 : List UInt8) (r2 : (List (List UInt8))) (v3 : Int) (v4 : List XWindow) (r9 : (List Int) × Bool) (k_impl_ParseWindows_1 : Int → (List XWindow) → Option ((List XWindow) × Bool)) (v11 : Bool) : Option ((List XWindow) × Bool) :=
 if v11 then (
  some (([] : List XWindow), false))
 else (
  (ix r9.1 (0 : Int)).bind fun x13 =>
  (ix r9.1 (1 : Int)).bind fun x14 =>
  if appB v4.length ([(⟨x13, x14⟩ : XWindow)] : List XWindow).length 16 then (
   k_impl_ParseWindows_1 (IntKind.i64.wrap (v3 + (1 : Int))) (v4 ++ ([(⟨x13, x14⟩ : XWindow)] : List XWindow)))
  else none)
def f_impl_ParseWindows_3 (v4 : List XWindow) (v19 : Bool) : Option ((List XWindow) × Bool) :=
 if v19 then (
  some (([] : List XWindow), false))
 else (
  some (v4, true))
def f_impl_ParseWindows_1 (a0 : List UInt8) (r2 : (List (List UInt8))) : Nat → Int → (List XWindow) → Option ((List XWindow) × Bool)
 | 0, _, _ => none
 | n + 1, v3, v4 =>
  if (decide (v3 < (r2.length : Int))) then (
   (ix r2 v3).bind fun x6 =>
   (f_impl_SplitAny x6 ([45] : List UInt8)).bind fun r7 =>
   (f_impl_parseNumbers r7).bind fun r9 =>
   if r9.2 then (
    f_impl_ParseWindows_2 a0 r2 v3 v4 r9 (f_impl_ParseWindows_1 a0 r2 n) ((r9.1.length : Int) != (2 : Int)))
   else (
    f_impl_ParseWindows_2 a0 r2 v3 v4 r9 (f_impl_ParseWindows_1 a0 r2 n) true))
  else (
   (f_impl_WindowsOk v4).bind fun r16 =>
   if r16 then (
    (f_impl_FormatWindows v4).bind fun r18 =>
    f_impl_ParseWindows_3 v4 (!(r18 == a0)))
   else (
    f_impl_ParseWindows_3 v4 true))
def f_impl_ParseWindows (a0 : List UInt8) : Option ((List XWindow) × Bool) :=
 if (a0 == ([110, 111, 110, 101] : List UInt8)) then (
  some (([] : List XWindow), true))
 else (
  (f_impl_SplitAny a0 ([32] : List UInt8)).bind fun r2 =>
  f_impl_ParseWindows_1 a0 r2 bigN (0 : Int) ([] : List XWindow))
/- spec_l01In -/
def f_spec_l01In (a0 : Int) (a1 : Int) (a2 : Int) : Option Bool :=
 if (decide (a1 ≤ a0)) then (
  some (decide (a0 ≤ a2)))
 else (
  some false)
/- spec_DeskNew -/
def f_spec_DeskNew_1 (a0 : Int) : Nat → Int → (List Int) → (List Bool) → Option XDesk
 | 0, _, _, _ => none
 | n + 1, v3, v4, v5 =>
  if (decide (v3 < a0)) then (
   if appB v4.length ([(-1 : Int)] : List Int).length 8 then (
    if appB v5.length ([false] : List Bool).length 1 then (
     f_spec_DeskNew_1 a0 n (IntKind.i64.wrap (v3 + (1 : Int))) (v4 ++ ([(-1 : Int)] : List Int)) (v5 ++ ([false] : List Bool)))
    else none)
   else none)
  else (
   some (⟨(0 : Int), v4, v5⟩ : XDesk))
def f_spec_DeskNew (a0 : Int) : Option XDesk :=
 (f_spec_l01In a0 (0 : Int) (6 : Int)).bind fun r1 =>
 if r1 then (
  f_spec_DeskNew_1 a0 bigN (0 : Int) ([] : List Int) ([] : List Bool))
 else (
  some (⟨(0 : Int), ([] : List Int), ([] : List Bool)⟩ : XDesk))
/- spec_l23Entry -/
def f_spec_l23Entry (a0 : Xl01Cur) (a1 : XDesk) : Option (XEntry × Xl01Cur) :=
 (f_spec_l01Below a0 (4 : Int)).bind fun r1 =>
 (f_spec_l01Below r1.2 (20 : Int)).bind fun r2 =>
 (f_spec_l01Below r2.2 (if (1 : Int) < (a1.Starts.length : Int) then (a1.Starts.length : Int) else (1 : Int))).bind fun r3 =>
 if ((IntKind.i64.wrap ((1 : Int) + r1.1)) == (1 : Int)) then (
  (f_spec_l01Below r3.2 (100 : Int)).bind fun r5 =>
  some ((⟨(IntKind.i64.wrap ((1 : Int) + r1.1)), (if (IntKind.i64.wrap (a1.Now + r2.1)) < (2880 : Int) then (IntKind.i64.wrap (a1.Now + r2.1)) else (2880 : Int)), r3.1, (if (IntKind.i64.wrap ((if (IntKind.i64.wrap (a1.Now + r2.1)) < (2880 : Int) then (IntKind.i64.wrap (a1.Now + r2.1)) else (2880 : Int)) + r5.1)) < (2880 : Int) then (IntKind.i64.wrap ((if (IntKind.i64.wrap (a1.Now + r2.1)) < (2880 : Int) then (IntKind.i64.wrap (a1.Now + r2.1)) else (2880 : Int)) + r5.1)) else (2880 : Int))⟩ : XEntry), r5.2))
 else (
  if ((IntKind.i64.wrap ((1 : Int) + r1.1)) == (4 : Int)) then (
   some ((⟨(IntKind.i64.wrap ((1 : Int) + r1.1)), (if (IntKind.i64.wrap (a1.Now + r2.1)) < (2880 : Int) then (IntKind.i64.wrap (a1.Now + r2.1)) else (2880 : Int)), (0 : Int), (0 : Int)⟩ : XEntry), r3.2))
  else (
   some ((⟨(IntKind.i64.wrap ((1 : Int) + r1.1)), (if (IntKind.i64.wrap (a1.Now + r2.1)) < (2880 : Int) then (IntKind.i64.wrap (a1.Now + r2.1)) else (2880 : Int)), r3.1, (0 : Int)⟩ : XEntry), r3.2)))
/- spec_l23Copy -/
def f_spec_l23Copy (a0 : XDesk) : Option XDesk :=
 if appB 0 a0.Starts.length 8 then (
  if appB 0 a0.Cleared.length 1 then (
   some a0)
  else none)
 else none
/- spec_DeskOk -/
def f_spec_DeskOk_1 (a0 : XDesk) : Nat → Int → Option Bool
 | 0, _ => none
 | n + 1, v5 =>
  if (decide (v5 < (a0.Starts.length : Int))) then (
   (ix a0.Starts v5).bind fun x7 =>
   (f_spec_l01In x7 (-1 : Int) (2880 : Int)).bind fun r9 =>
   if r9 then (
    (ix a0.Cleared v5).bind fun x11 =>
    if x11 then (
     if (decide (x7 < (0 : Int))) then (
      some false)
     else (
      f_spec_DeskOk_1 a0 n (IntKind.i64.wrap (v5 + (1 : Int)))))
    else (
     f_spec_DeskOk_1 a0 n (IntKind.i64.wrap (v5 + (1 : Int)))))
   else (
    some false))
  else (
   some true)
def f_spec_DeskOk (a0 : XDesk) : Option Bool :=
 (f_spec_l01In a0.Now (0 : Int) (2880 : Int)).bind fun r1 =>
 if r1 then (
  if (decide ((6 : Int) < (a0.Starts.length : Int))) then (
   some false)
  else (
   if ((a0.Cleared.length : Int) != (a0.Starts.length : Int)) then (
    some false)
   else (
    f_spec_DeskOk_1 a0 bigN (0 : Int))))
 else (
  some false)
/- spec_l23Allowed -/
def f_spec_l23Allowed (a0 : XDesk) (a1 : XEntry) : Option Bool :=
 (f_spec_l01In a1.At a0.Now (2880 : Int)).bind fun r1 =>
 if r1 then (
  (f_spec_l01In a1.Kind (1 : Int) (4 : Int)).bind fun r3 =>
  if r3 then (
   if (a1.Kind == (4 : Int)) then (
    if (a1.Call == (0 : Int)) then (
     some (a1.Value == (0 : Int)))
    else (
     some false))
   else (
    (f_spec_l01In a1.Call (0 : Int) (IntKind.i64.wrap ((a0.Starts.length : Int) - (1 : Int)))).bind fun r7 =>
    if r7 then (
     (ix a0.Cleared a1.Call).bind fun x9 =>
     if x9 then (
      some false)
     else (
      if (a1.Kind == (1 : Int)) then (
       (f_spec_l01In a1.Value a1.At (2880 : Int)).bind fun r12 =>
       some r12)
      else (
       if (a1.Value == (0 : Int)) then (
        (ix a0.Starts a1.Call).bind fun x14 =>
        if (decide ((0 : Int) ≤ x14)) then (
         if (a1.Kind == (3 : Int)) then (
          some true)
         else (
          some (decide (a1.At ≤ x14))))
        else (
         some false))
       else (
        some false))))
    else (
     some false)))
  else (
   some false))
 else (
  some false)
/- spec_ApplyEntry -/
def f_spec_ApplyEntry_2 (a1 : XEntry) (v13 : List Int) (v14 : List Bool) : Option (XDesk × Bool) :=
 some ((⟨a1.At, v13, v14⟩ : XDesk), true)
def f_spec_ApplyEntry_1 (a1 : XEntry) (r1 : XDesk) (v5 : Bool) : Option (XDesk × Bool) :=
 if v5 then (
  some (r1, false))
 else (
  if (a1.Kind == (1 : Int)) then (
   (ix r1.Starts a1.Call).bind fun x8 =>
   f_spec_ApplyEntry_2 a1 (r1.Starts.set (Int.toNat a1.Call) a1.Value) r1.Cleared)
  else (
   if (a1.Kind == (2 : Int)) then (
    (ix r1.Cleared a1.Call).bind fun x10 =>
    f_spec_ApplyEntry_2 a1 r1.Starts (r1.Cleared.set (Int.toNat a1.Call) true))
   else (
    if (a1.Kind == (3 : Int)) then (
     (ix r1.Starts a1.Call).bind fun x12 =>
     f_spec_ApplyEntry_2 a1 (r1.Starts.set (Int.toNat a1.Call) (-1 : Int)) r1.Cleared)
    else (
     f_spec_ApplyEntry_2 a1 r1.Starts r1.Cleared))))
def f_spec_ApplyEntry (a0 : XDesk) (a1 : XEntry) : Option (XDesk × Bool) :=
 (f_spec_l23Copy a0).bind fun r1 =>
 (f_spec_DeskOk a0).bind fun r2 =>
 if r2 then (
  (f_spec_l23Allowed a0 a1).bind fun r4 =>
  f_spec_ApplyEntry_1 a1 r1 (!r4))
 else (
  f_spec_ApplyEntry_1 a1 r1 true)
/- spec_l23Draw -/
def f_spec_l23Draw_2 (v4 : Int) (r13 : XEntry × Xl01Cur) (k_spec_l23Draw_1 : Int → (List Int) → Int → Int → Int → (List Int) → (List Bool) → (List XEntry) → Option (XDesk × (List XEntry) × Xl01Cur)) (v17 : Int) (v18 : List Int) (v19 : List Bool) (v20 : List XEntry) : Option (XDesk × (List XEntry) × Xl01Cur) :=
 k_spec_l23Draw_1 (IntKind.i64.wrap (v4 - (1 : Int))) r13.2.b r13.2.i r13.2.h v17 v18 v19 v20
def f_spec_l23Draw_1 : Nat → Int → (List Int) → Int → Int → Int → (List Int) → (List Bool) → (List XEntry) → Option (XDesk × (List XEntry) × Xl01Cur)
 | 0, _, _, _, _, _, _, _, _ => none
 | n + 1, v4, v5, v6, v7, v8, v9, v10, v11 =>
  if (decide ((0 : Int) < v4)) then (
   (f_spec_l23Entry (⟨v5, v6, v7⟩ : Xl01Cur) (⟨v8, v9, v10⟩ : XDesk)).bind fun r13 =>
   (f_spec_ApplyEntry (⟨v8, v9, v10⟩ : XDesk) r13.1).bind fun r14 =>
   if r14.2 then (
    if appB v11.length ([r13.1] : List XEntry).length 32 then (
     f_spec_l23Draw_2 v4 r13 (f_spec_l23Draw_1 n) r14.1.Now r14.1.Starts r14.1.Cleared (v11 ++ ([r13.1] : List XEntry)))
    else none)
   else (
    f_spec_l23Draw_2 v4 r13 (f_spec_l23Draw_1 n) v8 v9 v10 v11))
  else (
   some ((⟨v8, v9, v10⟩ : XDesk), v11, (⟨v5, v6, v7⟩ : Xl01Cur)))
def f_spec_l23Draw (a0 : Xl01Cur) : Option (XDesk × (List XEntry) × Xl01Cur) :=
 (f_spec_l01Below a0 (3 : Int)).bind fun r1 =>
 (f_spec_DeskNew (IntKind.i64.wrap ((1 : Int) + r1.1))).bind fun r2 =>
 (f_spec_l01Below r1.2 (8 : Int)).bind fun r3 =>
 f_spec_l23Draw_1 bigN r3.1 r3.2.b r3.2.i r3.2.h r2.Now r2.Starts r2.Cleared ([] : List XEntry)
/- spec_MakeJournal -/
def f_spec_MakeJournal (a0 : List Int) : Option (Int × (List XEntry)) :=
 (f_spec_l01New a0).bind fun r1 =>
 (f_spec_l23Draw r1).bind fun r2 =>
 some ((r2.1.Starts.length : Int), r2.2.1)
/- impl_entryName -/
def f_impl_entryName (a0 : Int) : Option (List UInt8) :=
 (f_impl_within a0 (1 : Int) (4 : Int)).bind fun r1 =>
 if r1 then (
  (ix ([([97, 110, 110, 111, 117, 110, 99, 101] : List UInt8), ([99, 108, 101, 97, 114] : List UInt8), ([99, 97, 110, 99, 101, 108] : List UInt8), ([116, 105, 99, 107] : List UInt8)] : List (List UInt8)) (IntKind.i64.wrap (a0 - (1 : Int)))).bind fun x3 =>
  some x3)
 else (
  some ([] : List UInt8))
/- impl_isMinute -/
def f_impl_isMinute (a0 : Int) : Option Bool :=
 (f_impl_within a0 (0 : Int) (2880 : Int)).bind fun r1 =>
 some r1
/- impl_SumOfText -/
def f_impl_SumOfText_1 (a0 : List UInt8) : Nat → Int → Int → Option Int
 | 0, _, _ => none
 | n + 1, v1, v2 =>
  if (decide (v2 < (a0.length : Int))) then (
   (ix a0 v2).bind fun b4 =>
   f_impl_SumOfText_1 a0 n (IntKind.i64.wrap (Int.tmod (IntKind.i64.wrap ((IntKind.i64.wrap ((31 : Int) * v1)) + (IntKind.i64.wrap (b4.toNat : Int)))) (65521 : Int))) (IntKind.i64.wrap (v2 + (1 : Int))))
  else (
   some v1)
def f_impl_SumOfText (a0 : List UInt8) : Option Int :=
 f_impl_SumOfText_1 a0 bigN (7 : Int) (0 : Int)
/- impl_FormatEntry -/
def f_impl_FormatEntry (a0 : XEntry) : Option (List UInt8) :=
 (f_impl_entryName a0.Kind).bind fun r1 =>
 if (r1 == ([] : List UInt8)) then (
  some ([] : List UInt8))
 else (
  (f_impl_isMinute a0.At).bind fun r3 =>
  if r3 then (
   (f_impl_isMinute a0.Call).bind fun r5 =>
   if r5 then (
    (f_impl_isMinute a0.Value).bind fun r7 =>
    if r7 then (
     (f_impl_FormatInt a0.At).bind fun r9 =>
     (f_impl_FormatInt a0.Call).bind fun r10 =>
     (f_impl_FormatInt a0.Value).bind fun r11 =>
     (f_impl_Join ([r1, r9, r10, r11] : List (List UInt8)) ([32] : List UInt8)).bind fun r12 =>
     if catB r12.length ([32, 35] : List UInt8).length then (
      (f_impl_SumOfText r12).bind fun r14 =>
      (f_impl_FormatInt r14).bind fun r15 =>
      if catB (r12 ++ ([32, 35] : List UInt8)).length r15.length then (
       some ((r12 ++ ([32, 35] : List UInt8)) ++ r15))
      else none)
     else none)
    else (
     some ([] : List UInt8)))
   else (
    some ([] : List UInt8)))
  else (
   some ([] : List UInt8)))
/- impl_JournalText -/
def f_impl_JournalText_1 (a0 : List XEntry) : Nat → (List UInt8) → Int → Option (List UInt8)
 | 0, _, _ => none
 | n + 1, v1, v2 =>
  if (decide (v2 < (a0.length : Int))) then (
   (ix a0 v2).bind fun x4 =>
   (f_impl_FormatEntry x4).bind fun r5 =>
   if catB r5.length ([10] : List UInt8).length then (
    if catB v1.length (r5 ++ ([10] : List UInt8)).length then (
     f_impl_JournalText_1 a0 n (v1 ++ (r5 ++ ([10] : List UInt8))) (IntKind.i64.wrap (v2 + (1 : Int))))
    else none)
   else none)
  else (
   some v1)
def f_impl_JournalText (a0 : List XEntry) : Option (List UInt8) :=
 f_impl_JournalText_1 a0 bigN ([] : List UInt8) (0 : Int)
/- impl_DeskNew -/
def f_impl_DeskNew_1 (a0 : Int) : Nat → Int → (List Int) → (List Bool) → Option XDesk
 | 0, _, _, _ => none
 | n + 1, v3, v4, v5 =>
  if (decide (v3 < a0)) then (
   if appB v4.length ([(-1 : Int)] : List Int).length 8 then (
    if appB v5.length ([false] : List Bool).length 1 then (
     f_impl_DeskNew_1 a0 n (IntKind.i64.wrap (v3 + (1 : Int))) (v4 ++ ([(-1 : Int)] : List Int)) (v5 ++ ([false] : List Bool)))
    else none)
   else none)
  else (
   some (⟨(0 : Int), v4, v5⟩ : XDesk))
def f_impl_DeskNew (a0 : Int) : Option XDesk :=
 (f_impl_within a0 (0 : Int) (6 : Int)).bind fun r1 =>
 if r1 then (
  f_impl_DeskNew_1 a0 bigN (0 : Int) ([] : List Int) ([] : List Bool))
 else (
  some (⟨(0 : Int), ([] : List Int), ([] : List Bool)⟩ : XDesk))
/- impl_DeskOk -/
def f_impl_DeskOk_1 (a0 : XDesk) : Nat → Int → Option Bool
 | 0, _ => none
 | n + 1, v5 =>
  if (decide (v5 < (a0.Starts.length : Int))) then (
   (ix a0.Starts v5).bind fun x7 =>
   (f_impl_within x7 (-1 : Int) (2880 : Int)).bind fun r9 =>
   if r9 then (
    (ix a0.Cleared v5).bind fun x11 =>
    if x11 then (
     if (decide (x7 < (0 : Int))) then (
      some false)
     else (
      f_impl_DeskOk_1 a0 n (IntKind.i64.wrap (v5 + (1 : Int)))))
    else (
     f_impl_DeskOk_1 a0 n (IntKind.i64.wrap (v5 + (1 : Int)))))
   else (
    some false))
  else (
   some true)
def f_impl_DeskOk (a0 : XDesk) : Option Bool :=
 (f_impl_isMinute a0.Now).bind fun r1 =>
 if r1 then (
  if (decide ((6 : Int) < (a0.Starts.length : Int))) then (
   some false)
  else (
   if ((a0.Cleared.length : Int) != (a0.Starts.length : Int)) then (
    some false)
   else (
    f_impl_DeskOk_1 a0 bigN (0 : Int))))
 else (
  some false)
/- impl_ParseEntry -/
def f_impl_ParseEntry_1 (a0 : List UInt8) (r4 : (List Int) × Bool) : Nat → Int → Option (XEntry × Bool)
 | 0, _ => none
 | n + 1, v6 =>
  if (decide (v6 ≤ (4 : Int))) then (
   (ix r4.1 (0 : Int)).bind fun x8 =>
   (ix r4.1 (1 : Int)).bind fun x9 =>
   (ix r4.1 (2 : Int)).bind fun x10 =>
   (f_impl_FormatEntry (⟨v6, x8, x9, x10⟩ : XEntry)).bind fun r11 =>
   if (r11 == a0) then (
    some ((⟨v6, x8, x9, x10⟩ : XEntry), true))
   else (
    f_impl_ParseEntry_1 a0 r4 n (IntKind.i64.wrap (v6 + (1 : Int)))))
  else (
   some ((⟨(0 : Int), (0 : Int), (0 : Int), (0 : Int)⟩ : XEntry), false))
def f_impl_ParseEntry (a0 : List UInt8) : Option (XEntry × Bool) :=
 (f_impl_SplitAny a0 ([32] : List UInt8)).bind fun r1 =>
 if ((r1.length : Int) != (5 : Int)) then (
  some ((⟨(0 : Int), (0 : Int), (0 : Int), (0 : Int)⟩ : XEntry), false))
 else (
  (bnd (r1.length : Int) (4 : Int) (1 : Int) r1.length).bind fun p3 =>
  (f_impl_parseNumbers ((r1.drop p3.1).take (p3.2 - p3.1))).bind fun r4 =>
  if r4.2 then (
   f_impl_ParseEntry_1 a0 r4 bigN (1 : Int))
  else (
   some ((⟨(0 : Int), (0 : Int), (0 : Int), (0 : Int)⟩ : XEntry), false)))
/- impl_readEntries -/
def f_impl_readEntries_1 (a0 : List (List UInt8)) : Nat → Int → (List XEntry) → Option ((List XEntry) × (Option Int))
 | 0, _, _ => none
 | n + 1, v1, v2 =>
  if (decide (v1 < (a0.length : Int))) then (
   (ix a0 v1).bind fun x4 =>
   (f_impl_ParseEntry x4).bind fun r5 =>
   if r5.2 then (
    if appB v2.length ([r5.1] : List XEntry).length 32 then (
     f_impl_readEntries_1 a0 n (IntKind.i64.wrap (v1 + (1 : Int))) (v2 ++ ([r5.1] : List XEntry)))
    else none)
   else (
    some (v2, (some v1 : Option Int))))
  else (
   some (v2, (none : Option Int)))
def f_impl_readEntries (a0 : List (List UInt8)) : Option ((List XEntry) × (Option Int)) :=
 f_impl_readEntries_1 a0 bigN (0 : Int) ([] : List XEntry)
/- impl_ReadJournal -/
def f_impl_ReadJournal (a0 : List UInt8) : Option ((List XEntry) × Int) :=
 (f_impl_SplitLines a0).bind fun r1 =>
 (bnd (r1.length : Int) (if (60 : Int) < (r1.length : Int) then (60 : Int) else (r1.length : Int)) (0 : Int) r1.length).bind fun p2 =>
 (f_impl_readEntries ((r1.drop p2.1).take (p2.2 - p2.1))).bind fun r3 =>
 if r3.2.isSome then (
  (r3.2).bind fun k5 =>
  some (r3.1, k5))
 else (
  some (r3.1, (r3.1.length : Int)))
/- spec_MakeNum -/
def f_spec_MakeNum (a0 : List Int) (a1 : Int) : Option Int :=
 (f_spec_l28New a0 a1).bind fun r1 =>
 (f_spec_l01Byte r1).bind fun r2 =>
 (f_spec_l01Byte r2.2).bind fun r3 =>
 some (IntKind.i64.wrap ((IntKind.i64.wrap (r2.1 * (256 : Int))) + r3.1))
/- laws_FnDamaged -/
def f_laws_FnDamaged_2 (r3 : (List UInt8)) (y14 : Int) (v16 : Int) (k_laws_FnDamaged_1 : Int → Int → Option Bool) (v20 : Int) : Option Bool :=
 k_laws_FnDamaged_1 v20 (IntKind.i64.wrap (v16 + (1 : Int)))
def f_laws_FnDamaged_1 (r3 : (List UInt8)) (y14 : Int) : Nat → Int → Int → Option Bool
 | 0, _, _ => none
 | n + 1, v15, v16 =>
  if (decide (v16 < y14)) then (
   (ix r3 v16).bind fun b18 =>
   if ((b18.toNat : Int) == (10 : Int)) then (
    f_laws_FnDamaged_2 r3 y14 v16 (f_laws_FnDamaged_1 r3 y14 n) (IntKind.i64.wrap (v15 + (1 : Int))))
   else (
    f_laws_FnDamaged_2 r3 y14 v16 (f_laws_FnDamaged_1 r3 y14 n) v15))
  else (
   (bnd (r3.length : Int) y14 (0 : Int) r3.length).bind fun p21 =>
   if catB ((r3.drop p21.1).take (p21.2 - p21.1)).length ([122] : List UInt8).length then (
    (bnd (r3.length : Int) (r3.length : Int) (IntKind.i64.wrap (y14 + (1 : Int))) r3.length).bind fun p23 =>
    if catB (((r3.drop p21.1).take (p21.2 - p21.1)) ++ ([122] : List UInt8)).length ((r3.drop p23.1).take (p23.2 - p23.1)).length then (
     (f_impl_ReadJournal ((((r3.drop p21.1).take (p21.2 - p21.1)) ++ ([122] : List UInt8)) ++ ((r3.drop p23.1).take (p23.2 - p23.1)))).bind fun r25 =>
     some (r25.2 == v15))
    else none)
   else none)
def f_laws_FnDamaged (a0 : List Int) : Option Bool :=
 if (decide ((1048576 : Int) < (a0.length : Int))) then (
  some true)
 else (
  (f_spec_MakeJournal a0).bind fun r2 =>
  (f_impl_JournalText r2.2).bind fun r3 =>
  (f_impl_DeskNew r2.1).bind fun r4 =>
  (f_impl_DeskOk r4).bind fun r5 =>
  if r5 then (
   (f_impl_DeskNew r2.1).bind fun r7 =>
   if ((r7.Starts.length : Int) != r2.1) then (
    some false)
   else (
    if ((r3.length : Int) == (0 : Int)) then (
     (f_impl_ReadJournal r3).bind fun r10 =>
     if (r10.2 == (0 : Int)) then (
      some ((r2.2.length : Int) == (0 : Int)))
     else (
      some false))
    else (
     (f_spec_MakeNum a0 (60 : Int)).bind fun r12 =>
     if (r3.length : Int) == 0 then none else
     f_laws_FnDamaged_1 r3 (IntKind.i64.wrap (Int.tmod r12 (r3.length : Int))) bigN (0 : Int) (0 : Int))))
  else (
   some false))
/- laws_szPassageS -/
def f_laws_szPassageS (a0 : List XPassage) (a1 : Int) : Option Int :=
 if (decide ((IntKind.i64.wrap (a1 - (a0.length : Int))) < (0 : Int))) then (
  some (-1 : Int))
 else (
  some (IntKind.i64.wrap (a1 - (a0.length : Int))))
/- laws_szOption -/
def f_laws_szOption (a0 : XOption) (a1 : Int) : Option Int :=
 (f_laws_szPassageS a0.Passages a1).bind fun r1 =>
 if (decide (r1 < (0 : Int))) then (
  some (-1 : Int))
 else (
  some r1)
/- laws_szOptionS -/
def f_laws_szOptionS_1 (a0 : List XOption) : Nat → Int → Int → Option Int
 | 0, _, _ => none
 | n + 1, v2, v3 =>
  if (decide (v3 < (a0.length : Int))) then (
   (ix a0 v3).bind fun x5 =>
   (f_laws_szOption x5 v2).bind fun r6 =>
   if (decide (r6 < (0 : Int))) then (
    some (-1 : Int))
   else (
    f_laws_szOptionS_1 a0 n r6 (IntKind.i64.wrap (v3 + (1 : Int)))))
  else (
   some v2)
def f_laws_szOptionS (a0 : List XOption) (a1 : Int) : Option Int :=
 if (decide ((IntKind.i64.wrap (a1 - (a0.length : Int))) < (0 : Int))) then (
  some (-1 : Int))
 else (
  f_laws_szOptionS_1 a0 bigN (IntKind.i64.wrap (a1 - (a0.length : Int))) (0 : Int))
/- laws_szBranch -/
def f_laws_szBranch (a0 : XBranch) (a1 : Int) : Option Int :=
 (f_laws_szOptionS a0.Plan a1).bind fun r1 =>
 if (decide (r1 < (0 : Int))) then (
  some (-1 : Int))
 else (
  some r1)
/- laws_szBranchS -/
def f_laws_szBranchS_1 (a0 : List XBranch) : Nat → Int → Int → Option Int
 | 0, _, _ => none
 | n + 1, v2, v3 =>
  if (decide (v3 < (a0.length : Int))) then (
   (ix a0 v3).bind fun x5 =>
   (f_laws_szBranch x5 v2).bind fun r6 =>
   if (decide (r6 < (0 : Int))) then (
    some (-1 : Int))
   else (
    f_laws_szBranchS_1 a0 n r6 (IntKind.i64.wrap (v3 + (1 : Int)))))
  else (
   some v2)
def f_laws_szBranchS (a0 : List XBranch) (a1 : Int) : Option Int :=
 if (decide ((IntKind.i64.wrap (a1 - (a0.length : Int))) < (0 : Int))) then (
  some (-1 : Int))
 else (
  f_laws_szBranchS_1 a0 bigN (IntKind.i64.wrap (a1 - (a0.length : Int))) (0 : Int))
/- laws_szStrategy -/
def f_laws_szStrategy (a0 : XStrategy) (a1 : Int) : Option Int :=
 (f_laws_szBranchS a0.Branches a1).bind fun r1 =>
 if (decide (r1 < (0 : Int))) then (
  some (-1 : Int))
 else (
  some r1)
/- laws_toPassage -/
def f_laws_toPassage (a0 : XPassage) : Option XPassage :=
 some a0
/- laws_toPassageS -/
def f_laws_toPassageS_1 (a0 : List XPassage) : Nat → Int → (List XPassage) → Option (List XPassage)
 | 0, _, _ => none
 | n + 1, v2, v3 =>
  if (decide (v2 < (a0.length : Int))) then (
   (ix a0 v2).bind fun x5 =>
   (f_laws_toPassage x5).bind fun r6 =>
   (ix v3 v2).bind fun x7 =>
   f_laws_toPassageS_1 a0 n (IntKind.i64.wrap (v2 + (1 : Int))) (v3.set (Int.toNat v2) r6))
  else (
   some v3)
def f_laws_toPassageS (a0 : List XPassage) : Option (List XPassage) :=
 (mkS (a0.length : Int) (a0.length : Int) 40).bind fun n1 =>
 f_laws_toPassageS_1 a0 bigN (0 : Int) (List.replicate n1 (⟨(0 : Int), (0 : Int), false, (0 : Int), (0 : Int)⟩ : XPassage))
/- laws_toOption -/
def f_laws_toOption (a0 : XOption) : Option XOption :=
 (f_laws_toPassageS a0.Passages).bind fun r1 =>
 some (⟨a0.Start, a0.Arrival, a0.Cost, r1⟩ : XOption)
/- laws_toOptionS -/
def f_laws_toOptionS_1 (a0 : List XOption) : Nat → Int → (List XOption) → Option (List XOption)
 | 0, _, _ => none
 | n + 1, v2, v3 =>
  if (decide (v2 < (a0.length : Int))) then (
   (ix a0 v2).bind fun x5 =>
   (f_laws_toOption x5).bind fun r6 =>
   (ix v3 v2).bind fun x7 =>
   f_laws_toOptionS_1 a0 n (IntKind.i64.wrap (v2 + (1 : Int))) (v3.set (Int.toNat v2) r6))
  else (
   some v3)
def f_laws_toOptionS (a0 : List XOption) : Option (List XOption) :=
 (mkS (a0.length : Int) (a0.length : Int) 48).bind fun n1 =>
 f_laws_toOptionS_1 a0 bigN (0 : Int) (List.replicate n1 (⟨(0 : Int), (0 : Int), (0 : Int), ([] : List XPassage)⟩ : XOption))
/- laws_toBranch -/
def f_laws_toBranch (a0 : XBranch) : Option XBranch :=
 (f_laws_toOptionS a0.Plan).bind fun r1 =>
 some (⟨a0.Low, a0.High, r1⟩ : XBranch)
/- laws_toBranchS -/
def f_laws_toBranchS_1 (a0 : List XBranch) : Nat → Int → (List XBranch) → Option (List XBranch)
 | 0, _, _ => none
 | n + 1, v2, v3 =>
  if (decide (v2 < (a0.length : Int))) then (
   (ix a0 v2).bind fun x5 =>
   (f_laws_toBranch x5).bind fun r6 =>
   (ix v3 v2).bind fun x7 =>
   f_laws_toBranchS_1 a0 n (IntKind.i64.wrap (v2 + (1 : Int))) (v3.set (Int.toNat v2) r6))
  else (
   some v3)
def f_laws_toBranchS (a0 : List XBranch) : Option (List XBranch) :=
 (mkS (a0.length : Int) (a0.length : Int) 40).bind fun n1 =>
 f_laws_toBranchS_1 a0 bigN (0 : Int) (List.replicate n1 (⟨(0 : Int), (0 : Int), ([] : List XOption)⟩ : XBranch))
/- laws_toStrategy -/
def f_laws_toStrategy (a0 : XStrategy) : Option XStrategy :=
 (f_laws_toBranchS a0.Branches).bind fun r1 =>
 some (⟨a0.Minute, r1⟩ : XStrategy)
/- spec_CostOf -/
def f_spec_CostOf_1 (a0 : List XOption) : Nat → Int → Int → Option Int
 | 0, _, _ => none
 | n + 1, v1, v2 =>
  if (decide (v2 < (a0.length : Int))) then (
   (ix a0 v2).bind fun x4 =>
   f_spec_CostOf_1 a0 n (IntKind.i64.wrap (v1 + x4.Cost)) (IntKind.i64.wrap (v2 + (1 : Int))))
  else (
   some v1)
def f_spec_CostOf (a0 : List XOption) : Option Int :=
 f_spec_CostOf_1 a0 bigN (0 : Int) (0 : Int)
/- spec_StrategyLines -/
def f_spec_StrategyLines_1 (a0 : XStrategy) : Nat → Int → (List (List UInt8)) → Option (List (List UInt8))
 | 0, _, _ => none
 | n + 1, v1, v2 =>
  if (decide (v1 < (a0.Branches.length : Int))) then (
   (ix a0.Branches v1).bind fun x4 =>
   (f_spec_FormatInt x4.Low).bind fun r5 =>
   if catB r5.length ([46, 46] : List UInt8).length then (
    (f_spec_FormatInt x4.High).bind fun r7 =>
    if catB (r5 ++ ([46, 46] : List UInt8)).length r7.length then (
     if catB ((r5 ++ ([46, 46] : List UInt8)) ++ r7).length ([32] : List UInt8).length then (
      (f_spec_CostOf x4.Plan).bind fun r10 =>
      (f_spec_FormatInt r10).bind fun r11 =>
      if catB (((r5 ++ ([46, 46] : List UInt8)) ++ r7) ++ ([32] : List UInt8)).length r11.length then (
       if appB v2.length ([((((r5 ++ ([46, 46] : List UInt8)) ++ r7) ++ ([32] : List UInt8)) ++ r11)] : List (List UInt8)).length 16 then (
        f_spec_StrategyLines_1 a0 n (IntKind.i64.wrap (v1 + (1 : Int))) (v2 ++ ([((((r5 ++ ([46, 46] : List UInt8)) ++ r7) ++ ([32] : List UInt8)) ++ r11)] : List (List UInt8))))
       else none)
      else none)
     else none)
    else none)
   else none)
  else (
   some v2)
def f_spec_StrategyLines (a0 : XStrategy) : Option (List (List UInt8)) :=
 f_spec_StrategyLines_1 a0 bigN (0 : Int) ([] : List (List UInt8))
/- impl_CostOf -/
def f_impl_CostOf_1 (a0 : List XOption) : Nat → Int → Int → Option Int
 | 0, _, _ => none
 | n + 1, v1, v2 =>
  if (decide (v2 < (a0.length : Int))) then (
   (ix a0 v2).bind fun x4 =>
   f_impl_CostOf_1 a0 n (IntKind.i64.wrap (v1 + x4.Cost)) (IntKind.i64.wrap (v2 + (1 : Int))))
  else (
   some v1)
def f_impl_CostOf (a0 : List XOption) : Option Int :=
 f_impl_CostOf_1 a0 bigN (0 : Int) (0 : Int)
/- impl_word -/
def f_impl_word (a0 : XAny) : Option (List UInt8) :=
 if a0.isS then (
  some a0.s)
 else (
  (f_impl_FormatInt a0.n).bind fun r2 =>
  some r2)
/- impl_words -/
def f_impl_words_1 (a0 : List XAny) : Nat → Int → (List (List UInt8)) → Option (List UInt8)
 | 0, _, _ => none
 | n + 1, v1, v2 =>
  if (decide (v1 < (a0.length : Int))) then (
   (ix a0 v1).bind fun x4 =>
   (f_impl_word x4).bind fun r5 =>
   if appB v2.length ([r5] : List (List UInt8)).length 16 then (
    f_impl_words_1 a0 n (IntKind.i64.wrap (v1 + (1 : Int))) (v2 ++ ([r5] : List (List UInt8))))
   else none)
  else (
   (f_impl_Join v2 ([32] : List UInt8)).bind fun r7 =>
   some r7)
def f_impl_words (a0 : List XAny) : Option (List UInt8) :=
 f_impl_words_1 a0 bigN (0 : Int) ([] : List (List UInt8))
/- impl_StrategyLines -/
def f_impl_StrategyLines_1 (a0 : XStrategy) : Nat → Int → (List (List UInt8)) → Option (List (List UInt8))
 | 0, _, _ => none
 | n + 1, v1, v2 =>
  if (decide (v1 < (a0.Branches.length : Int))) then (
   (ix a0.Branches v1).bind fun x4 =>
   (f_impl_FormatInt x4.Low).bind fun r5 =>
   if catB r5.length ([46, 46] : List UInt8).length then (
    (f_impl_FormatInt x4.High).bind fun r7 =>
    if catB (r5 ++ ([46, 46] : List UInt8)).length r7.length then (
     (f_impl_CostOf x4.Plan).bind fun r9 =>
     (f_impl_words ([(⟨true, ((r5 ++ ([46, 46] : List UInt8)) ++ r7), 0⟩ : XAny), (⟨false, [], r9⟩ : XAny)] : List XAny)).bind fun r10 =>
     if appB v2.length ([r10] : List (List UInt8)).length 16 then (
      f_impl_StrategyLines_1 a0 n (IntKind.i64.wrap (v1 + (1 : Int))) (v2 ++ ([r10] : List (List UInt8))))
     else none)
    else none)
   else none)
  else (
   some v2)
def f_impl_StrategyLines (a0 : XStrategy) : Option (List (List UInt8)) :=
 f_impl_StrategyLines_1 a0 bigN (0 : Int) ([] : List (List UInt8))
/- laws_eqStringS -/
def f_laws_eqStringS_1 (a0 : List (List UInt8)) (a1 : List (List UInt8)) : Nat → Int → Option Bool
 | 0, _ => none
 | n + 1, v2 =>
  if (decide (v2 < (a0.length : Int))) then (
   (ix a0 v2).bind fun x4 =>
   (ix a1 v2).bind fun x5 =>
   if (x4 == x5) then (
    f_laws_eqStringS_1 a0 a1 n (IntKind.i64.wrap (v2 + (1 : Int))))
   else (
    some false))
  else (
   some true)
def f_laws_eqStringS (a0 : List (List UInt8)) (a1 : List (List UInt8)) : Option Bool :=
 if ((a0.length : Int) != (a1.length : Int)) then (
  some false)
 else (
  f_laws_eqStringS_1 a0 a1 bigN (0 : Int))
/- laws_eqPassage -/
def f_laws_eqPassage (a0 : XPassage) (a1 : XPassage) : Option Bool :=
 if (a0.Ship != a1.Ship) then (
  some false)
 else (
  if (a0.Segment != a1.Segment) then (
   some false)
  else (
   if (a0.Toward == a1.Toward) then (
    if (a0.Start != a1.Start) then (
     some false)
    else (
     if (a0.End != a1.End) then (
      some false)
     else (
      some true)))
   else (
    some false)))
/- laws_eqPassageS -/
def f_laws_eqPassageS_1 (a0 : List XPassage) (a1 : List XPassage) : Nat → Int → Option Bool
 | 0, _ => none
 | n + 1, v2 =>
  if (decide (v2 < (a0.length : Int))) then (
   (ix a0 v2).bind fun x4 =>
   (ix a1 v2).bind fun x5 =>
   (f_laws_eqPassage x4 x5).bind fun r6 =>
   if r6 then (
    f_laws_eqPassageS_1 a0 a1 n (IntKind.i64.wrap (v2 + (1 : Int))))
   else (
    some false))
  else (
   some true)
def f_laws_eqPassageS (a0 : List XPassage) (a1 : List XPassage) : Option Bool :=
 if ((a0.length : Int) != (a1.length : Int)) then (
  some false)
 else (
  f_laws_eqPassageS_1 a0 a1 bigN (0 : Int))
/- laws_eqOption -/
def f_laws_eqOption (a0 : XOption) (a1 : XOption) : Option Bool :=
 if (a0.Start != a1.Start) then (
  some false)
 else (
  if (a0.Arrival != a1.Arrival) then (
   some false)
  else (
   if (a0.Cost != a1.Cost) then (
    some false)
   else (
    (f_laws_eqPassageS a0.Passages a1.Passages).bind fun r4 =>
    if r4 then (
     some true)
    else (
     some false))))
/- laws_eqOptionS -/
def f_laws_eqOptionS_1 (a0 : List XOption) (a1 : List XOption) : Nat → Int → Option Bool
 | 0, _ => none
 | n + 1, v2 =>
  if (decide (v2 < (a0.length : Int))) then (
   (ix a0 v2).bind fun x4 =>
   (ix a1 v2).bind fun x5 =>
   (f_laws_eqOption x4 x5).bind fun r6 =>
   if r6 then (
    f_laws_eqOptionS_1 a0 a1 n (IntKind.i64.wrap (v2 + (1 : Int))))
   else (
    some false))
  else (
   some true)
def f_laws_eqOptionS (a0 : List XOption) (a1 : List XOption) : Option Bool :=
 if ((a0.length : Int) != (a1.length : Int)) then (
  some false)
 else (
  f_laws_eqOptionS_1 a0 a1 bigN (0 : Int))
/- laws_eqBranch -/
def f_laws_eqBranch (a0 : XBranch) (a1 : XBranch) : Option Bool :=
 if (a0.Low != a1.Low) then (
  some false)
 else (
  if (a0.High != a1.High) then (
   some false)
  else (
   (f_laws_eqOptionS a0.Plan a1.Plan).bind fun r3 =>
   if r3 then (
    some true)
   else (
    some false)))
/- laws_eqBranchS -/
def f_laws_eqBranchS_1 (a0 : List XBranch) (a1 : List XBranch) : Nat → Int → Option Bool
 | 0, _ => none
 | n + 1, v2 =>
  if (decide (v2 < (a0.length : Int))) then (
   (ix a0 v2).bind fun x4 =>
   (ix a1 v2).bind fun x5 =>
   (f_laws_eqBranch x4 x5).bind fun r6 =>
   if r6 then (
    f_laws_eqBranchS_1 a0 a1 n (IntKind.i64.wrap (v2 + (1 : Int))))
   else (
    some false))
  else (
   some true)
def f_laws_eqBranchS (a0 : List XBranch) (a1 : List XBranch) : Option Bool :=
 if ((a0.length : Int) != (a1.length : Int)) then (
  some false)
 else (
  f_laws_eqBranchS_1 a0 a1 bigN (0 : Int))
/- laws_eqStrategy -/
def f_laws_eqStrategy (a0 : XStrategy) (a1 : XStrategy) : Option Bool :=
 if (a0.Minute != a1.Minute) then (
  some false)
 else (
  (f_laws_eqBranchS a0.Branches a1.Branches).bind fun r2 =>
  if r2 then (
   some true)
  else (
   some false))
/- laws_markText -/
def f_laws_markText_1 : Nat → Int → (List UInt8) → Option (List UInt8)
 | 0, _, _ => none
 | n + 1, v2, v3 =>
  if (decide ((0 : Int) < v2)) then (
   if catB ([(IntKind.u8.wrap (IntKind.i64.wrap ((48 : Int) + (IntKind.i64.wrap (Int.tmod v2 (10 : Int))))))] : List Int).length v3.length then (
    f_laws_markText_1 n (IntKind.i64.wrap (Int.tdiv v2 (10 : Int))) ((List.map toU8 ([(IntKind.u8.wrap (IntKind.i64.wrap ((48 : Int) + (IntKind.i64.wrap (Int.tmod v2 (10 : Int))))))] : List Int)) ++ v3))
   else none)
  else (
   if catB ([109] : List UInt8).length v3.length then (
    some (([109] : List UInt8) ++ v3))
   else none)
def f_laws_markText (a0 : Int) : Option (List UInt8) :=
 if (decide (a0 ≤ (0 : Int))) then (
  some ([109, 48] : List UInt8))
 else (
  f_laws_markText_1 bigN a0 ([] : List UInt8))
/- laws_markStringS -/
def f_laws_markStringS_1 : Nat → Int → Int → (List (List UInt8)) → Option (Int × List (List UInt8))
 | 0, _, _, _ => none
 | n + 1, v1, v2, v3 =>
  if (decide (v2 < (v3.length : Int))) then (
   (f_laws_markText v1).bind fun r5 =>
   (ix v3 v2).bind fun x6 =>
   f_laws_markStringS_1 n (IntKind.i64.wrap (v1 + (1 : Int))) (IntKind.i64.wrap (v2 + (1 : Int))) (v3.set (Int.toNat v2) r5))
  else (
   some (v1, v3))
def f_laws_markStringS (a0 : List (List UInt8)) (a1 : Int) : Option (Int × List (List UInt8)) :=
 f_laws_markStringS_1 bigN a1 (0 : Int) a0
/- laws_heldStringS -/
def f_laws_heldStringS_1 (a0 : List (List UInt8)) : Nat → Int → Int → Option Int
 | 0, _, _ => none
 | n + 1, v1, v2 =>
  if (decide (v2 < (a0.length : Int))) then (
   (ix a0 v2).bind fun x4 =>
   (f_laws_markText v1).bind fun r5 =>
   if (x4 == r5) then (
    f_laws_heldStringS_1 a0 n (IntKind.i64.wrap (v1 + (1 : Int))) (IntKind.i64.wrap (v2 + (1 : Int))))
   else (
    some (-1 : Int)))
  else (
   some v1)
def f_laws_heldStringS (a0 : List (List UInt8)) (a1 : Int) : Option Int :=
 f_laws_heldStringS_1 a0 bigN a1 (0 : Int)
/- laws_markPassageS -/
def f_laws_markPassageS_1 : Nat → Int → Int → (List XPassage) → Option (Int × List XPassage)
 | 0, _, _, _ => none
 | n + 1, v1, v2, v3 =>
  if (decide (v2 < (v3.length : Int))) then (
   (ix v3 v2).bind fun x5 =>
   (ix (v3.set (Int.toNat v2) (⟨v1, x5.Segment, x5.Toward, x5.Start, x5.End⟩ : XPassage)) v2).bind fun x6 =>
   (ix ((v3.set (Int.toNat v2) (⟨v1, x5.Segment, x5.Toward, x5.Start, x5.End⟩ : XPassage)).set (Int.toNat v2) (⟨x6.Ship, (IntKind.i64.wrap (v1 + (1 : Int))), x6.Toward, x6.Start, x6.End⟩ : XPassage)) v2).bind fun x7 =>
   (ix (((v3.set (Int.toNat v2) (⟨v1, x5.Segment, x5.Toward, x5.Start, x5.End⟩ : XPassage)).set (Int.toNat v2) (⟨x6.Ship, (IntKind.i64.wrap (v1 + (1 : Int))), x6.Toward, x6.Start, x6.End⟩ : XPassage)).set (Int.toNat v2) (⟨x7.Ship, x7.Segment, ((IntKind.i64.wrap (Int.tmod (IntKind.i64.wrap ((IntKind.i64.wrap (v1 + (1 : Int))) + (1 : Int))) (3 : Int))) == (0 : Int)), x7.Start, x7.End⟩ : XPassage)) v2).bind fun x8 =>
   (ix ((((v3.set (Int.toNat v2) (⟨v1, x5.Segment, x5.Toward, x5.Start, x5.End⟩ : XPassage)).set (Int.toNat v2) (⟨x6.Ship, (IntKind.i64.wrap (v1 + (1 : Int))), x6.Toward, x6.Start, x6.End⟩ : XPassage)).set (Int.toNat v2) (⟨x7.Ship, x7.Segment, ((IntKind.i64.wrap (Int.tmod (IntKind.i64.wrap ((IntKind.i64.wrap (v1 + (1 : Int))) + (1 : Int))) (3 : Int))) == (0 : Int)), x7.Start, x7.End⟩ : XPassage)).set (Int.toNat v2) (⟨x8.Ship, x8.Segment, x8.Toward, (IntKind.i64.wrap ((IntKind.i64.wrap ((IntKind.i64.wrap (v1 + (1 : Int))) + (1 : Int))) + (1 : Int))), x8.End⟩ : XPassage)) v2).bind fun x9 =>
   f_laws_markPassageS_1 n (IntKind.i64.wrap ((IntKind.i64.wrap ((IntKind.i64.wrap ((IntKind.i64.wrap ((IntKind.i64.wrap (v1 + (1 : Int))) + (1 : Int))) + (1 : Int))) + (1 : Int))) + (1 : Int))) (IntKind.i64.wrap (v2 + (1 : Int))) (((((v3.set (Int.toNat v2) (⟨v1, x5.Segment, x5.Toward, x5.Start, x5.End⟩ : XPassage)).set (Int.toNat v2) (⟨x6.Ship, (IntKind.i64.wrap (v1 + (1 : Int))), x6.Toward, x6.Start, x6.End⟩ : XPassage)).set (Int.toNat v2) (⟨x7.Ship, x7.Segment, ((IntKind.i64.wrap (Int.tmod (IntKind.i64.wrap ((IntKind.i64.wrap (v1 + (1 : Int))) + (1 : Int))) (3 : Int))) == (0 : Int)), x7.Start, x7.End⟩ : XPassage)).set (Int.toNat v2) (⟨x8.Ship, x8.Segment, x8.Toward, (IntKind.i64.wrap ((IntKind.i64.wrap ((IntKind.i64.wrap (v1 + (1 : Int))) + (1 : Int))) + (1 : Int))), x8.End⟩ : XPassage)).set (Int.toNat v2) (⟨x9.Ship, x9.Segment, x9.Toward, x9.Start, (IntKind.i64.wrap ((IntKind.i64.wrap ((IntKind.i64.wrap ((IntKind.i64.wrap (v1 + (1 : Int))) + (1 : Int))) + (1 : Int))) + (1 : Int)))⟩ : XPassage)))
  else (
   some (v1, v3))
def f_laws_markPassageS (a0 : List XPassage) (a1 : Int) : Option (Int × List XPassage) :=
 f_laws_markPassageS_1 bigN a1 (0 : Int) a0
/- internal_strconv_small -/
def f_internal_strconv_small (a0 : Int) : Option (List UInt8) :=
 if (decide (a0 < (10 : Int))) then (
  (bnd (([48, 49, 50, 51, 52, 53, 54, 55, 56, 57, 97, 98, 99, 100, 101, 102, 103, 104, 105, 106, 107, 108, 109, 110, 111, 112, 113, 114, 115, 116, 117, 118, 119, 120, 121, 122] : List UInt8).length : Int) (IntKind.i64.wrap (a0 + (1 : Int))) a0 ([48, 49, 50, 51, 52, 53, 54, 55, 56, 57, 97, 98, 99, 100, 101, 102, 103, 104, 105, 106, 107, 108, 109, 110, 111, 112, 113, 114, 115, 116, 117, 118, 119, 120, 121, 122] : List UInt8).length).bind fun p2 =>
  some ((([48, 49, 50, 51, 52, 53, 54, 55, 56, 57, 97, 98, 99, 100, 101, 102, 103, 104, 105, 106, 107, 108, 109, 110, 111, 112, 113, 114, 115, 116, 117, 118, 119, 120, 121, 122] : List UInt8).drop p2.1).take (p2.2 - p2.1)))
 else (
  (bnd (([48, 48, 48, 49, 48, 50, 48, 51, 48, 52, 48, 53, 48, 54, 48, 55, 48, 56, 48, 57, 49, 48, 49, 49, 49, 50, 49, 51, 49, 52, 49, 53, 49, 54, 49, 55, 49, 56, 49, 57, 50, 48, 50, 49, 50, 50, 50, 51, 50, 52, 50, 53, 50, 54, 50, 55, 50, 56, 50, 57, 51, 48, 51, 49, 51, 50, 51, 51, 51, 52, 51, 53, 51, 54, 51, 55, 51, 56, 51, 57, 52, 48, 52, 49, 52, 50, 52, 51, 52, 52, 52, 53, 52, 54, 52, 55, 52, 56, 52, 57, 53, 48, 53, 49, 53, 50, 53, 51, 53, 52, 53, 53, 53, 54, 53, 55, 53, 56, 53, 57, 54, 48, 54, 49, 54, 50, 54, 51, 54, 52, 54, 53, 54, 54, 54, 55, 54, 56, 54, 57, 55, 48, 55, 49, 55, 50, 55, 51, 55, 52, 55, 53, 55, 54, 55, 55, 55, 56, 55, 57, 56, 48, 56, 49, 56, 50, 56, 51, 56, 52, 56, 53, 56, 54, 56, 55, 56, 56, 56, 57, 57, 48, 57, 49, 57, 50, 57, 51, 57, 52, 57, 53, 57, 54, 57, 55, 57, 56, 57, 57] : List UInt8).length : Int) (IntKind.i64.wrap ((IntKind.i64.wrap (a0 * (2 : Int))) + (2 : Int))) (IntKind.i64.wrap (a0 * (2 : Int))) ([48, 48, 48, 49, 48, 50, 48, 51, 48, 52, 48, 53, 48, 54, 48, 55, 48, 56, 48, 57, 49, 48, 49, 49, 49, 50, 49, 51, 49, 52, 49, 53, 49, 54, 49, 55, 49, 56, 49, 57, 50, 48, 50, 49, 50, 50, 50, 51, 50, 52, 50, 53, 50, 54, 50, 55, 50, 56, 50, 57, 51, 48, 51, 49, 51, 50, 51, 51, 51, 52, 51, 53, 51, 54, 51, 55, 51, 56, 51, 57, 52, 48, 52, 49, 52, 50, 52, 51, 52, 52, 52, 53, 52, 54, 52, 55, 52, 56, 52, 57, 53, 48, 53, 49, 53, 50, 53, 51, 53, 52, 53, 53, 53, 54, 53, 55, 53, 56, 53, 57, 54, 48, 54, 49, 54, 50, 54, 51, 54, 52, 54, 53, 54, 54, 54, 55, 54, 56, 54, 57, 55, 48, 55, 49, 55, 50, 55, 51, 55, 52, 55, 53, 55, 54, 55, 55, 55, 56, 55, 57, 56, 48, 56, 49, 56, 50, 56, 51, 56, 52, 56, 53, 56, 54, 56, 55, 56, 56, 56, 57, 57, 48, 57, 49, 57, 50, 57, 51, 57, 52, 57, 53, 57, 54, 57, 55, 57, 56, 57, 57] : List UInt8).length).bind fun p3 =>
  some ((([48, 48, 48, 49, 48, 50, 48, 51, 48, 52, 48, 53, 48, 54, 48, 55, 48, 56, 48, 57, 49, 48, 49, 49, 49, 50, 49, 51, 49, 52, 49, 53, 49, 54, 49, 55, 49, 56, 49, 57, 50, 48, 50, 49, 50, 50, 50, 51, 50, 52, 50, 53, 50, 54, 50, 55, 50, 56, 50, 57, 51, 48, 51, 49, 51, 50, 51, 51, 51, 52, 51, 53, 51, 54, 51, 55, 51, 56, 51, 57, 52, 48, 52, 49, 52, 50, 52, 51, 52, 52, 52, 53, 52, 54, 52, 55, 52, 56, 52, 57, 53, 48, 53, 49, 53, 50, 53, 51, 53, 52, 53, 53, 53, 54, 53, 55, 53, 56, 53, 57, 54, 48, 54, 49, 54, 50, 54, 51, 54, 52, 54, 53, 54, 54, 54, 55, 54, 56, 54, 57, 55, 48, 55, 49, 55, 50, 55, 51, 55, 52, 55, 53, 55, 54, 55, 55, 55, 56, 55, 57, 56, 48, 56, 49, 56, 50, 56, 51, 56, 52, 56, 53, 56, 54, 56, 55, 56, 56, 56, 57, 57, 48, 57, 49, 57, 50, 57, 51, 57, 52, 57, 53, 57, 54, 57, 55, 57, 56, 57, 57] : List UInt8).drop p3.1).take (p3.2 - p3.1)))
/- internal_strconv_log10Pow2 -/
def f_internal_strconv_log10Pow2 (a0 : Int) : Option Int :=
 some (shrV .i64 (IntKind.i64.wrap (a0 * (78913 : Int))) 18)
/- math_bits_Len64 -/
def f_math_bits_Len64_3 (v8 : Int) (v9 : Int) : Option Int :=
 (ix ([0, 1, 2, 2, 3, 3, 3, 3, 4, 4, 4, 4, 4, 4, 4, 4, 5, 5, 5, 5, 5, 5, 5, 5, 5, 5, 5, 5, 5, 5, 5, 5, 6, 6, 6, 6, 6, 6, 6, 6, 6, 6, 6, 6, 6, 6, 6, 6, 6, 6, 6, 6, 6, 6, 6, 6, 6, 6, 6, 6, 6, 6, 6, 6, 7, 7, 7, 7, 7, 7, 7, 7, 7, 7, 7, 7, 7, 7, 7, 7, 7, 7, 7, 7, 7, 7, 7, 7, 7, 7, 7, 7, 7, 7, 7, 7, 7, 7, 7, 7, 7, 7, 7, 7, 7, 7, 7, 7, 7, 7, 7, 7, 7, 7, 7, 7, 7, 7, 7, 7, 7, 7, 7, 7, 7, 7, 7, 7, 8, 8, 8, 8, 8, 8, 8, 8, 8, 8, 8, 8, 8, 8, 8, 8, 8, 8, 8, 8, 8, 8, 8, 8, 8, 8, 8, 8, 8, 8, 8, 8, 8, 8, 8, 8, 8, 8, 8, 8, 8, 8, 8, 8, 8, 8, 8, 8, 8, 8, 8, 8, 8, 8, 8, 8, 8, 8, 8, 8, 8, 8, 8, 8, 8, 8, 8, 8, 8, 8, 8, 8, 8, 8, 8, 8, 8, 8, 8, 8, 8, 8, 8, 8, 8, 8, 8, 8, 8, 8, 8, 8, 8, 8, 8, 8, 8, 8, 8, 8, 8, 8, 8, 8, 8, 8, 8, 8, 8, 8, 8, 8, 8, 8, 8, 8, 8, 8, 8, 8, 8, 8, 8, 8, 8, 8, 8, 8] : List UInt8) (IntKind.u8.wrap v8)).bind fun b10 =>
 some (IntKind.i64.wrap (v9 + (IntKind.i64.wrap (b10.toNat : Int))))
def f_math_bits_Len64_2 (v5 : Int) (v6 : Int) : Option Int :=
 if (decide ((256 : Int) ≤ v5)) then (
  f_math_bits_Len64_3 (shrV .u64 v5 8) (IntKind.i64.wrap (v6 + (8 : Int))))
 else (
  f_math_bits_Len64_3 v5 v6)
def f_math_bits_Len64_1 (v2 : Int) (v3 : Int) : Option Int :=
 if (decide ((65536 : Int) ≤ v2)) then (
  f_math_bits_Len64_2 (shrV .u64 v2 16) (IntKind.i64.wrap (v3 + (16 : Int))))
 else (
  f_math_bits_Len64_2 v2 v3)
def f_math_bits_Len64 (a0 : Int) : Option Int :=
 if (decide ((4294967296 : Int) ≤ a0)) then (
  f_math_bits_Len64_1 (shrV .u64 a0 32) (32 : Int))
 else (
  f_math_bits_Len64_1 a0 (0 : Int))
/- internal_strconv_bool2_int -/
def f_internal_strconv_bool2_int (a0 : Bool) : Option Int :=
 if a0 then (
  some (1 : Int))
 else (
  some (0 : Int))
/- internal_strconv_isPowerOfTwo -/
def f_internal_strconv_isPowerOfTwo (a0 : Int) : Option Bool :=
 some ((bitsV .and .i64 a0 (IntKind.i64.wrap (a0 - (1 : Int)))) == (0 : Int))
/- internal_strconv_lower -/
def f_internal_strconv_lower (a0 : Int) : Option Int :=
 some (bitsV .or .u8 a0 (32 : Int))
/- internal_strconv_underscoreOK -/
def f_internal_strconv_underscoreOK_7 (v7 : List UInt8) (v25 : Int) (k_internal_strconv_underscoreOK_5 : Int → Int → Bool → Option Bool) (v46 : Int) (v47 : Bool) : Option Bool :=
 k_internal_strconv_underscoreOK_5 v46 (IntKind.i64.wrap (v25 + (1 : Int))) v47
def f_internal_strconv_underscoreOK_6 (v7 : List UInt8) (v24 : Int) (v25 : Int) (k_internal_strconv_underscoreOK_5 : Int → Int → Bool → Option Bool) (v41 : Bool) : Option Bool :=
 (ix v7 v25).bind fun b42 =>
 if ((b42.toNat : Int) == (95 : Int)) then (
  if (v24 != (48 : Int)) then (
   some false)
  else (
   f_internal_strconv_underscoreOK_7 v7 v25 k_internal_strconv_underscoreOK_5 (95 : Int) v41))
 else (
  if (v24 == (95 : Int)) then (
   some false)
  else (
   f_internal_strconv_underscoreOK_7 v7 v25 k_internal_strconv_underscoreOK_5 (33 : Int) v41))
def f_internal_strconv_underscoreOK_5 (v7 : List UInt8) : Nat → Int → Int → Bool → Option Bool
 | 0, _, _, _ => none
 | n + 1, v24, v25, v26 =>
  if (decide (v25 < (v7.length : Int))) then (
   (ix v7 v25).bind fun b28 =>
   if (decide ((48 : Int) ≤ (b28.toNat : Int))) then (
    if (decide ((b28.toNat : Int) ≤ (57 : Int))) then (
     f_internal_strconv_underscoreOK_7 v7 v25 (f_internal_strconv_underscoreOK_5 v7 n) (48 : Int) v26)
    else (
     if v26 then (
      (f_internal_strconv_lower (b28.toNat : Int)).bind fun r32 =>
      if (decide ((97 : Int) ≤ r32)) then (
       (f_internal_strconv_lower (b28.toNat : Int)).bind fun r34 =>
       if (decide (r34 ≤ (102 : Int))) then (
        f_internal_strconv_underscoreOK_7 v7 v25 (f_internal_strconv_underscoreOK_5 v7 n) (48 : Int) true)
       else (
        f_internal_strconv_underscoreOK_6 v7 v24 v25 (f_internal_strconv_underscoreOK_5 v7 n) true))
      else (
       f_internal_strconv_underscoreOK_6 v7 v24 v25 (f_internal_strconv_underscoreOK_5 v7 n) true))
     else (
      f_internal_strconv_underscoreOK_6 v7 v24 v25 (f_internal_strconv_underscoreOK_5 v7 n) false)))
   else (
    if v26 then (
     (f_internal_strconv_lower (b28.toNat : Int)).bind fun r36 =>
     if (decide ((97 : Int) ≤ r36)) then (
      (f_internal_strconv_lower (b28.toNat : Int)).bind fun r38 =>
      if (decide (r38 ≤ (102 : Int))) then (
       f_internal_strconv_underscoreOK_7 v7 v25 (f_internal_strconv_underscoreOK_5 v7 n) (48 : Int) true)
      else (
       f_internal_strconv_underscoreOK_6 v7 v24 v25 (f_internal_strconv_underscoreOK_5 v7 n) true))
     else (
      f_internal_strconv_underscoreOK_6 v7 v24 v25 (f_internal_strconv_underscoreOK_5 v7 n) true))
    else (
     f_internal_strconv_underscoreOK_6 v7 v24 v25 (f_internal_strconv_underscoreOK_5 v7 n) false)))
  else (
   some (v24 != (95 : Int)))
def f_internal_strconv_underscoreOK_4 (v7 : List UInt8) (v21 : Int) (v22 : Int) (v23 : Bool) : Option Bool :=
 f_internal_strconv_underscoreOK_5 v7 bigN v21 v22 v23
def f_internal_strconv_underscoreOK_3 (v7 : List UInt8) (v17 : Bool) : Option Bool :=
 if v17 then (
  (ix v7 (1 : Int)).bind fun b19 =>
  (f_internal_strconv_lower (b19.toNat : Int)).bind fun r20 =>
  f_internal_strconv_underscoreOK_4 v7 (48 : Int) (2 : Int) (r20 == (120 : Int)))
 else (
  f_internal_strconv_underscoreOK_4 v7 (94 : Int) (0 : Int) false)
def f_internal_strconv_underscoreOK_2 (v7 : List UInt8) : Option Bool :=
 if (decide ((2 : Int) ≤ (v7.length : Int))) then (
  (ix v7 (0 : Int)).bind fun b9 =>
  if ((b9.toNat : Int) == (48 : Int)) then (
   (ix v7 (1 : Int)).bind fun b11 =>
   (f_internal_strconv_lower (b11.toNat : Int)).bind fun r12 =>
   if (r12 == (98 : Int)) then (
    f_internal_strconv_underscoreOK_3 v7 true)
   else (
    (f_internal_strconv_lower (b11.toNat : Int)).bind fun r14 =>
    if (r14 == (111 : Int)) then (
     f_internal_strconv_underscoreOK_3 v7 true)
    else (
     (f_internal_strconv_lower (b11.toNat : Int)).bind fun r16 =>
     f_internal_strconv_underscoreOK_3 v7 (r16 == (120 : Int)))))
  else (
   f_internal_strconv_underscoreOK_3 v7 false))
 else (
  f_internal_strconv_underscoreOK_3 v7 false)
def f_internal_strconv_underscoreOK_1 (a0 : List UInt8) (v4 : Bool) : Option Bool :=
 if v4 then (
  (bnd (a0.length : Int) (a0.length : Int) (1 : Int) a0.length).bind fun p6 =>
  f_internal_strconv_underscoreOK_2 ((a0.drop p6.1).take (p6.2 - p6.1)))
 else (
  f_internal_strconv_underscoreOK_2 a0)
def f_internal_strconv_underscoreOK (a0 : List UInt8) : Option Bool :=
 if (decide ((1 : Int) ≤ (a0.length : Int))) then (
  (ix a0 (0 : Int)).bind fun b2 =>
  if ((b2.toNat : Int) == (45 : Int)) then (
   f_internal_strconv_underscoreOK_1 a0 true)
  else (
   f_internal_strconv_underscoreOK_1 a0 ((b2.toNat : Int) == (43 : Int))))
 else (
  f_internal_strconv_underscoreOK_1 a0 false)
end Go.Vi
