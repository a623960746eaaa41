/-
  Plain definitions of functions, by program. No condition.
-/
import Derived.Test.YtdgobmphhncomaaGreatDoorKVi34
import Derived.Test.YtdgobmphhncomaaGreatDoorKLa
namespace Go.Vi
set_option linter.unusedSimpArgs false
set_option linter.unusedVariables false
def shrV (k : IntKind) (x : Int) (n : Nat) : Int := k.wrap (x.fdiv (2 ^ min n k.bits))
theorem bin_shr_u6433 {k : IntKind} {x : Int} : binV .shr (.v (.sc (.dat (.int k x)))) (.v (.sc (.dat (.int .u64 33)))) = some (.v (.sc (.dat (.int k (shrV k x 33))))) := by simp [binV, intV, shrV]
theorem bin_shr_u6445 {k : IntKind} {x : Int} : binV .shr (.v (.sc (.dat (.int k x)))) (.v (.sc (.dat (.int .u64 45)))) = some (.v (.sc (.dat (.int k (shrV k x 45))))) := by simp [binV, intV, shrV]
def errD : Option Int → D
  | none => .noi
  | some n => .ifc 83 (.pd [.int .i64 n])
theorem errD_none : errD none = .noi := rfl
theorem errD_some (n : Int) : errD (some n) = .ifc 83 (.pd [.int .i64 n]) := rfl
theorem of_noerr {x : Option Int} (h : x.isSome = false) : x = none := by cases x with | none => rfl | some _ => cases h
structure XEntry where
  Kind : Int
  At : Int
  Call : Int
  Value : Int
  deriving DecidableEq
def XEntry.row (x : XEntry) : List D := [.int .i64 x.Kind, .int .i64 x.At, .int .i64 x.Call, .int .i64 x.Value]
theorem XEntry.row_eq (x : XEntry) : XEntry.row x = [.int .i64 x.Kind, .int .i64 x.At, .int .i64 x.Call, .int .i64 x.Value] := rfl
instance : Row XEntry.row 4 := ⟨fun _ => rfl, Nat.le_of_ble_eq_true rfl⟩
instance : FlatRow XEntry.row := ⟨fun x d hd => by simp only [XEntry.row_eq, List.mem_cons, List.not_mem_nil, or_false] at hd; rcases hd with rfl | rfl | rfl | rfl <;> rfl⟩
instance : OfTy (.st [(.int .i64), (.int .i64), (.int .i64), (.int .i64)]) XEntry.row := ⟨fun ds h => by
  obtain ⟨a0, b0, h0, t0, rfl⟩ := h
  obtain ⟨a1, b1, h1, t1, rfl⟩ := t0
  obtain ⟨a2, b2, h2, t2, rfl⟩ := t1
  obtain ⟨a3, b3, h3, t3, rfl⟩ := t2
  obtain rfl := t3
  obtain ⟨x0, rfl⟩ := OfTy.of (row := rI) _ h0
  obtain ⟨x1, rfl⟩ := OfTy.of (row := rI) _ h1
  obtain ⟨x2, rfl⟩ := OfTy.of (row := rI) _ h2
  obtain ⟨x3, rfl⟩ := OfTy.of (row := rI) _ h3
  exact ⟨⟨x0, x1, x2, x3⟩, rfl⟩⟩
structure Xl01Cur where
  b : List Int
  i : Int
  h : Int
  deriving DecidableEq
def Xl01Cur.row (x : Xl01Cur) : List D := [.sl (List.map r8 x.b), .int .i64 x.i, .int .i64 x.h]
theorem Xl01Cur.row_eq (x : Xl01Cur) : Xl01Cur.row x = [.sl (List.map r8 x.b), .int .i64 x.i, .int .i64 x.h] := rfl
instance : Row Xl01Cur.row 3 := ⟨fun _ => rfl, Nat.le_of_ble_eq_true rfl⟩
instance : OfTy (.st [(.sl (.int .u8)), (.int .i64), (.int .i64)]) Xl01Cur.row := ⟨fun ds h => by
  obtain ⟨a0, b0, h0, t0, rfl⟩ := h
  obtain ⟨a1, b1, h1, t1, rfl⟩ := t0
  obtain ⟨a2, b2, h2, t2, rfl⟩ := t1
  obtain rfl := t2
  obtain ⟨x0, rfl⟩ := OfTy.of (row := (rL r8)) _ h0
  obtain ⟨x1, rfl⟩ := OfTy.of (row := rI) _ h1
  obtain ⟨x2, rfl⟩ := OfTy.of (row := rI) _ h2
  exact ⟨⟨x0, x1, x2⟩, rfl⟩⟩
structure XDesk where
  Now : Int
  Starts : List Int
  Cleared : List Bool
  deriving DecidableEq
def XDesk.row (x : XDesk) : List D := [.int .i64 x.Now, .sl (List.map rI x.Starts), .sl (List.map rB x.Cleared)]
theorem XDesk.row_eq (x : XDesk) : XDesk.row x = [.int .i64 x.Now, .sl (List.map rI x.Starts), .sl (List.map rB x.Cleared)] := rfl
instance : Row XDesk.row 3 := ⟨fun _ => rfl, Nat.le_of_ble_eq_true rfl⟩
instance : OfTy (.st [(.int .i64), (.sl (.int .i64)), (.sl .bool)]) XDesk.row := ⟨fun ds h => by
  obtain ⟨a0, b0, h0, t0, rfl⟩ := h
  obtain ⟨a1, b1, h1, t1, rfl⟩ := t0
  obtain ⟨a2, b2, h2, t2, rfl⟩ := t1
  obtain rfl := t2
  obtain ⟨x0, rfl⟩ := OfTy.of (row := rI) _ h0
  obtain ⟨x1, rfl⟩ := OfTy.of (row := (rL rI)) _ h1
  obtain ⟨x2, rfl⟩ := OfTy.of (row := (rL rB)) _ h2
  exact ⟨⟨x0, x1, x2⟩, rfl⟩⟩
theorem rowsX : type_of% (And.intro @rI_eq (And.intro @bin_shr_u6433 (And.intro @bin_shr_u6445 (And.intro @errD_none (And.intro @errD_some (And.intro @XEntry.row_eq (And.intro @Xl01Cur.row_eq (@XDesk.row_eq)))))))) := And.intro @rI_eq (And.intro @bin_shr_u6433 (And.intro @bin_shr_u6445 (And.intro @errD_none (And.intro @errD_some (And.intro @XEntry.row_eq (And.intro @Xl01Cur.row_eq (@XDesk.row_eq)))))))
/- spec_l01New -/
def f_spec_l01New_2 (a0 : List Int) (v1 : Int) : Option Xl01Cur :=
 some (⟨a0, (0 : Int), v1⟩ : Xl01Cur)
def f_spec_l01New_1 (a0 : List Int) : Nat → Int → Int → Option Xl01Cur
 | 0, _, _ => none
 | n + 1, v1, v2 =>
  if (decide (v2 < (a0.length : Int))) then (
   if (decide (v2 < (4000 : Int))) then (
    (ix a0 v2).bind fun x5 =>
    f_spec_l01New_1 a0 n (bitsV .and .i64 (IntKind.i64.wrap ((IntKind.i64.wrap ((IntKind.i64.wrap (v1 * (79 : Int))) + (IntKind.i64.wrap x5))) + (7 : Int))) (1073741823 : Int)) (IntKind.i64.wrap (v2 + (1 : Int))))
   else (
    f_spec_l01New_2 a0 v1))
  else (
   f_spec_l01New_2 a0 v1)
def f_spec_l01New (a0 : List Int) : Option Xl01Cur :=
 f_spec_l01New_1 a0 bigN (IntKind.i64.wrap ((1976 : Int) + (a0.length : Int))) (0 : Int)
/- spec_l01Byte -/
def f_spec_l01Byte (a0 : Xl01Cur) : Option (Int × Xl01Cur) :=
 if (decide (a0.i < (a0.b.length : Int))) then (
  (ix a0.b a0.i).bind fun x2 =>
  some ((bitsV .and .i64 (IntKind.i64.wrap ((bitsV .and .i64 (bitsV .xor .i64 (shrV .i64 (IntKind.i64.wrap ((IntKind.i64.wrap (a0.h * (6364136223846793005 : Int))) + (1442695040888963407 : Int))) 33) (shrV .i64 (IntKind.i64.wrap ((IntKind.i64.wrap (a0.h * (6364136223846793005 : Int))) + (1442695040888963407 : Int))) 45)) (255 : Int)) + (IntKind.i64.wrap x2))) (255 : Int)), (⟨a0.b, (IntKind.i64.wrap (a0.i + (1 : Int))), (IntKind.i64.wrap ((IntKind.i64.wrap (a0.h * (6364136223846793005 : Int))) + (1442695040888963407 : Int)))⟩ : Xl01Cur)))
 else (
  some ((bitsV .and .i64 (bitsV .xor .i64 (shrV .i64 (IntKind.i64.wrap ((IntKind.i64.wrap (a0.h * (6364136223846793005 : Int))) + (1442695040888963407 : Int))) 33) (shrV .i64 (IntKind.i64.wrap ((IntKind.i64.wrap (a0.h * (6364136223846793005 : Int))) + (1442695040888963407 : Int))) 45)) (255 : Int)), (⟨a0.b, a0.i, (IntKind.i64.wrap ((IntKind.i64.wrap (a0.h * (6364136223846793005 : Int))) + (1442695040888963407 : Int)))⟩ : Xl01Cur)))
/- spec_l01Below -/
def f_spec_l01Below (a0 : Xl01Cur) (a1 : Int) : Option (Int × Xl01Cur) :=
 if (decide (a1 ≤ (0 : Int))) then (
  some ((0 : Int), a0))
 else (
  if (decide (a1 ≤ (256 : Int))) then (
   (f_spec_l01Byte a0).bind fun r3 =>
   if a1 == 0 then none else
   some ((IntKind.i64.wrap (Int.tmod r3.1 a1)), r3.2))
  else (
   (f_spec_l01Byte a0).bind fun r5 =>
   (f_spec_l01Byte r5.2).bind fun r6 =>
   (f_spec_l01Byte r6.2).bind fun r7 =>
   (f_spec_l01Byte r7.2).bind fun r9 =>
   if a1 == 0 then none else
   some ((IntKind.i64.wrap (Int.tmod (IntKind.i64.wrap ((IntKind.i64.wrap ((IntKind.i64.wrap ((IntKind.i64.wrap (r5.1 * (16777216 : Int))) + (IntKind.i64.wrap (r6.1 * (65536 : Int))))) + (IntKind.i64.wrap (r7.1 * (256 : Int))))) + r9.1)) a1)), r9.2)))
/- spec_l01In -/
def f_spec_l01In (a0 : Int) (a1 : Int) (a2 : Int) : Option Bool :=
 if (decide (a1 ≤ a0)) then (
  some (decide (a0 ≤ a2)))
 else (
  some false)
/- spec_DeskNew -/
def f_spec_DeskNew_1 (a0 : Int) : Nat → Int → (List Int) → (List Bool) → Option XDesk
 | 0, _, _, _ => none
 | n + 1, v3, v4, v5 =>
  if (decide (v3 < a0)) then (
   if appB v4.length ([(-1 : Int)] : List Int).length 8 then (
    if appB v5.length ([false] : List Bool).length 1 then (
     f_spec_DeskNew_1 a0 n (IntKind.i64.wrap (v3 + (1 : Int))) (v4 ++ ([(-1 : Int)] : List Int)) (v5 ++ ([false] : List Bool)))
    else none)
   else none)
  else (
   some (⟨(0 : Int), v4, v5⟩ : XDesk))
def f_spec_DeskNew (a0 : Int) : Option XDesk :=
 (f_spec_l01In a0 (0 : Int) (6 : Int)).bind fun r1 =>
 if r1 then (
  f_spec_DeskNew_1 a0 bigN (0 : Int) ([] : List Int) ([] : List Bool))
 else (
  some (⟨(0 : Int), ([] : List Int), ([] : List Bool)⟩ : XDesk))
/- spec_l23Entry -/
def f_spec_l23Entry (a0 : Xl01Cur) (a1 : XDesk) : Option (XEntry × Xl01Cur) :=
 (f_spec_l01Below a0 (4 : Int)).bind fun r1 =>
 (f_spec_l01Below r1.2 (20 : Int)).bind fun r2 =>
 (f_spec_l01Below r2.2 (if (1 : Int) < (a1.Starts.length : Int) then (a1.Starts.length : Int) else (1 : Int))).bind fun r3 =>
 if ((IntKind.i64.wrap ((1 : Int) + r1.1)) == (1 : Int)) then (
  (f_spec_l01Below r3.2 (100 : Int)).bind fun r5 =>
  some ((⟨(IntKind.i64.wrap ((1 : Int) + r1.1)), (if (IntKind.i64.wrap (a1.Now + r2.1)) < (2880 : Int) then (IntKind.i64.wrap (a1.Now + r2.1)) else (2880 : Int)), r3.1, (if (IntKind.i64.wrap ((if (IntKind.i64.wrap (a1.Now + r2.1)) < (2880 : Int) then (IntKind.i64.wrap (a1.Now + r2.1)) else (2880 : Int)) + r5.1)) < (2880 : Int) then (IntKind.i64.wrap ((if (IntKind.i64.wrap (a1.Now + r2.1)) < (2880 : Int) then (IntKind.i64.wrap (a1.Now + r2.1)) else (2880 : Int)) + r5.1)) else (2880 : Int))⟩ : XEntry), r5.2))
 else (
  if ((IntKind.i64.wrap ((1 : Int) + r1.1)) == (4 : Int)) then (
   some ((⟨(IntKind.i64.wrap ((1 : Int) + r1.1)), (if (IntKind.i64.wrap (a1.Now + r2.1)) < (2880 : Int) then (IntKind.i64.wrap (a1.Now + r2.1)) else (2880 : Int)), (0 : Int), (0 : Int)⟩ : XEntry), r3.2))
  else (
   some ((⟨(IntKind.i64.wrap ((1 : Int) + r1.1)), (if (IntKind.i64.wrap (a1.Now + r2.1)) < (2880 : Int) then (IntKind.i64.wrap (a1.Now + r2.1)) else (2880 : Int)), r3.1, (0 : Int)⟩ : XEntry), r3.2)))
/- spec_l23Copy -/
def f_spec_l23Copy (a0 : XDesk) : Option XDesk :=
 if appB 0 a0.Starts.length 8 then (
  if appB 0 a0.Cleared.length 1 then (
   some a0)
  else none)
 else none
/- spec_DeskOk -/
def f_spec_DeskOk_1 (a0 : XDesk) : Nat → Int → Option Bool
 | 0, _ => none
 | n + 1, v5 =>
  if (decide (v5 < (a0.Starts.length : Int))) then (
   (ix a0.Starts v5).bind fun x7 =>
   (f_spec_l01In x7 (-1 : Int) (2880 : Int)).bind fun r9 =>
   if r9 then (
    (ix a0.Cleared v5).bind fun x11 =>
    if x11 then (
     if (decide (x7 < (0 : Int))) then (
      some false)
     else (
      f_spec_DeskOk_1 a0 n (IntKind.i64.wrap (v5 + (1 : Int)))))
    else (
     f_spec_DeskOk_1 a0 n (IntKind.i64.wrap (v5 + (1 : Int)))))
   else (
    some false))
  else (
   some true)
def f_spec_DeskOk (a0 : XDesk) : Option Bool :=
 (f_spec_l01In a0.Now (0 : Int) (2880 : Int)).bind fun r1 =>
 if r1 then (
  if (decide ((6 : Int) < (a0.Starts.length : Int))) then (
   some false)
  else (
   if ((a0.Cleared.length : Int) != (a0.Starts.length : Int)) then (
    some false)
   else (
    f_spec_DeskOk_1 a0 bigN (0 : Int))))
 else (
  some false)
/- spec_l23Allowed -/
def f_spec_l23Allowed (a0 : XDesk) (a1 : XEntry) : Option Bool :=
 (f_spec_l01In a1.At a0.Now (2880 : Int)).bind fun r1 =>
 if r1 then (
  (f_spec_l01In a1.Kind (1 : Int) (4 : Int)).bind fun r3 =>
  if r3 then (
   if (a1.Kind == (4 : Int)) then (
    if (a1.Call == (0 : Int)) then (
     some (a1.Value == (0 : Int)))
    else (
     some false))
   else (
    (f_spec_l01In a1.Call (0 : Int) (IntKind.i64.wrap ((a0.Starts.length : Int) - (1 : Int)))).bind fun r7 =>
    if r7 then (
     (ix a0.Cleared a1.Call).bind fun x9 =>
     if x9 then (
      some false)
     else (
      if (a1.Kind == (1 : Int)) then (
       (f_spec_l01In a1.Value a1.At (2880 : Int)).bind fun r12 =>
       some r12)
      else (
       if (a1.Value == (0 : Int)) then (
        (ix a0.Starts a1.Call).bind fun x14 =>
        if (decide ((0 : Int) ≤ x14)) then (
         if (a1.Kind == (3 : Int)) then (
          some true)
         else (
          some (decide (a1.At ≤ x14))))
        else (
         some false))
       else (
        some false))))
    else (
     some false)))
  else (
   some false))
 else (
  some false)
/- spec_ApplyEntry -/
def f_spec_ApplyEntry_2 (a1 : XEntry) (v13 : List Int) (v14 : List Bool) : Option (XDesk × Bool) :=
 some ((⟨a1.At, v13, v14⟩ : XDesk), true)
def f_spec_ApplyEntry_1 (a1 : XEntry) (r1 : XDesk) (v5 : Bool) : Option (XDesk × Bool) :=
 if v5 then (
  some (r1, false))
 else (
  if (a1.Kind == (1 : Int)) then (
   (ix r1.Starts a1.Call).bind fun x8 =>
   f_spec_ApplyEntry_2 a1 (r1.Starts.set (Int.toNat a1.Call) a1.Value) r1.Cleared)
  else (
   if (a1.Kind == (2 : Int)) then (
    (ix r1.Cleared a1.Call).bind fun x10 =>
    f_spec_ApplyEntry_2 a1 r1.Starts (r1.Cleared.set (Int.toNat a1.Call) true))
   else (
    if (a1.Kind == (3 : Int)) then (
     (ix r1.Starts a1.Call).bind fun x12 =>
     f_spec_ApplyEntry_2 a1 (r1.Starts.set (Int.toNat a1.Call) (-1 : Int)) r1.Cleared)
    else (
     f_spec_ApplyEntry_2 a1 r1.Starts r1.Cleared))))
def f_spec_ApplyEntry (a0 : XDesk) (a1 : XEntry) : Option (XDesk × Bool) :=
 (f_spec_l23Copy a0).bind fun r1 =>
 (f_spec_DeskOk a0).bind fun r2 =>
 if r2 then (
  (f_spec_l23Allowed a0 a1).bind fun r4 =>
  f_spec_ApplyEntry_1 a1 r1 (!r4))
 else (
  f_spec_ApplyEntry_1 a1 r1 true)
/- spec_l23Draw -/
def f_spec_l23Draw_2 (v4 : Int) (r13 : XEntry × Xl01Cur) (k_spec_l23Draw_1 : Int → (List Int) → Int → Int → Int → (List Int) → (List Bool) → (List XEntry) → Option (XDesk × (List XEntry) × Xl01Cur)) (v17 : Int) (v18 : List Int) (v19 : List Bool) (v20 : List XEntry) : Option (XDesk × (List XEntry) × Xl01Cur) :=
 k_spec_l23Draw_1 (IntKind.i64.wrap (v4 - (1 : Int))) r13.2.b r13.2.i r13.2.h v17 v18 v19 v20
def f_spec_l23Draw_1 : Nat → Int → (List Int) → Int → Int → Int → (List Int) → (List Bool) → (List XEntry) → Option (XDesk × (List XEntry) × Xl01Cur)
 | 0, _, _, _, _, _, _, _, _ => none
 | n + 1, v4, v5, v6, v7, v8, v9, v10, v11 =>
  if (decide ((0 : Int) < v4)) then (
   (f_spec_l23Entry (⟨v5, v6, v7⟩ : Xl01Cur) (⟨v8, v9, v10⟩ : XDesk)).bind fun r13 =>
   (f_spec_ApplyEntry (⟨v8, v9, v10⟩ : XDesk) r13.1).bind fun r14 =>
   if r14.2 then (
    if appB v11.length ([r13.1] : List XEntry).length 32 then (
     f_spec_l23Draw_2 v4 r13 (f_spec_l23Draw_1 n) r14.1.Now r14.1.Starts r14.1.Cleared (v11 ++ ([r13.1] : List XEntry)))
    else none)
   else (
    f_spec_l23Draw_2 v4 r13 (f_spec_l23Draw_1 n) v8 v9 v10 v11))
  else (
   some ((⟨v8, v9, v10⟩ : XDesk), v11, (⟨v5, v6, v7⟩ : Xl01Cur)))
def f_spec_l23Draw (a0 : Xl01Cur) : Option (XDesk × (List XEntry) × Xl01Cur) :=
 (f_spec_l01Below a0 (3 : Int)).bind fun r1 =>
 (f_spec_DeskNew (IntKind.i64.wrap ((1 : Int) + r1.1))).bind fun r2 =>
 (f_spec_l01Below r1.2 (8 : Int)).bind fun r3 =>
 f_spec_l23Draw_1 bigN r3.1 r3.2.b r3.2.i r3.2.h r2.Now r2.Starts r2.Cleared ([] : List XEntry)
/- spec_MakeJournal -/
def f_spec_MakeJournal (a0 : List Int) : Option (Int × (List XEntry)) :=
 (f_spec_l01New a0).bind fun r1 =>
 (f_spec_l23Draw r1).bind fun r2 =>
 some ((r2.1.Starts.length : Int), r2.2.1)
/- impl_within -/
def f_impl_within (a0 : Int) (a1 : Int) (a2 : Int) : Option Bool :=
 if (decide (a1 ≤ a0)) then (
  some (decide (a0 ≤ a2)))
 else (
  some false)
/- impl_entryName -/
def f_impl_entryName (a0 : Int) : Option (List UInt8) :=
 (f_impl_within a0 (1 : Int) (4 : Int)).bind fun r1 =>
 if r1 then (
  (ix ([([97, 110, 110, 111, 117, 110, 99, 101] : List UInt8), ([99, 108, 101, 97, 114] : List UInt8), ([99, 97, 110, 99, 101, 108] : List UInt8), ([116, 105, 99, 107] : List UInt8)] : List (List UInt8)) (IntKind.i64.wrap (a0 - (1 : Int)))).bind fun x3 =>
  some x3)
 else (
  some ([] : List UInt8))
/- impl_isMinute -/
def f_impl_isMinute (a0 : Int) : Option Bool :=
 (f_impl_within a0 (0 : Int) (2880 : Int)).bind fun r1 =>
 some r1
/- impl_FormatInt -/
def f_impl_FormatInt (a0 : Int) : Option (List UInt8) :=
 (f_strconv_Itoa a0).bind fun r1 =>
 some r1
/- impl_Join -/
def f_impl_Join (a0 : List (List UInt8)) (a1 : List UInt8) : Option (List UInt8) :=
 (f_strings_Join a0 a1).bind fun r1 =>
 some r1
/- impl_SumOfText -/
def f_impl_SumOfText_1 (a0 : List UInt8) : Nat → Int → Int → Option Int
 | 0, _, _ => none
 | n + 1, v1, v2 =>
  if (decide (v2 < (a0.length : Int))) then (
   (ix a0 v2).bind fun b4 =>
   f_impl_SumOfText_1 a0 n (IntKind.i64.wrap (Int.tmod (IntKind.i64.wrap ((IntKind.i64.wrap ((31 : Int) * v1)) + (IntKind.i64.wrap (b4.toNat : Int)))) (65521 : Int))) (IntKind.i64.wrap (v2 + (1 : Int))))
  else (
   some v1)
def f_impl_SumOfText (a0 : List UInt8) : Option Int :=
 f_impl_SumOfText_1 a0 bigN (7 : Int) (0 : Int)
/- impl_FormatEntry -/
def f_impl_FormatEntry (a0 : XEntry) : Option (List UInt8) :=
 (f_impl_entryName a0.Kind).bind fun r1 =>
 if (r1 == ([] : List UInt8)) then (
  some ([] : List UInt8))
 else (
  (f_impl_isMinute a0.At).bind fun r3 =>
  if r3 then (
   (f_impl_isMinute a0.Call).bind fun r5 =>
   if r5 then (
    (f_impl_isMinute a0.Value).bind fun r7 =>
    if r7 then (
     (f_impl_FormatInt a0.At).bind fun r9 =>
     (f_impl_FormatInt a0.Call).bind fun r10 =>
     (f_impl_FormatInt a0.Value).bind fun r11 =>
     (f_impl_Join ([r1, r9, r10, r11] : List (List UInt8)) ([32] : List UInt8)).bind fun r12 =>
     if catB r12.length ([32, 35] : List UInt8).length then (
      (f_impl_SumOfText r12).bind fun r14 =>
      (f_impl_FormatInt r14).bind fun r15 =>
      if catB (r12 ++ ([32, 35] : List UInt8)).length r15.length then (
       some ((r12 ++ ([32, 35] : List UInt8)) ++ r15))
      else none)
     else none)
    else (
     some ([] : List UInt8)))
   else (
    some ([] : List UInt8)))
  else (
   some ([] : List UInt8)))
/- impl_JournalText -/
def f_impl_JournalText_1 (a0 : List XEntry) : Nat → (List UInt8) → Int → Option (List UInt8)
 | 0, _, _ => none
 | n + 1, v1, v2 =>
  if (decide (v2 < (a0.length : Int))) then (
   (ix a0 v2).bind fun x4 =>
   (f_impl_FormatEntry x4).bind fun r5 =>
   if catB r5.length ([10] : List UInt8).length then (
    if catB v1.length (r5 ++ ([10] : List UInt8)).length then (
     f_impl_JournalText_1 a0 n (v1 ++ (r5 ++ ([10] : List UInt8))) (IntKind.i64.wrap (v2 + (1 : Int))))
    else none)
   else none)
  else (
   some v1)
def f_impl_JournalText (a0 : List XEntry) : Option (List UInt8) :=
 f_impl_JournalText_1 a0 bigN ([] : List UInt8) (0 : Int)
/- spec_l28New -/
def f_spec_l28New_1 (a1 : Int) : Nat → Int → (List Int) → Int → Int → Option Xl01Cur
 | 0, _, _, _, _ => none
 | n + 1, v2, v3, v4, v5 =>
  if (decide (v2 < a1)) then (
   (f_spec_l01Byte (⟨v3, v4, v5⟩ : Xl01Cur)).bind fun r7 =>
   f_spec_l28New_1 a1 n (IntKind.i64.wrap (v2 + (1 : Int))) r7.2.b r7.2.i r7.2.h)
  else (
   some (⟨v3, v4, v5⟩ : Xl01Cur))
def f_spec_l28New (a0 : List Int) (a1 : Int) : Option Xl01Cur :=
 (f_spec_l01New a0).bind fun r1 =>
 f_spec_l28New_1 a1 bigN (0 : Int) r1.b r1.i r1.h
/- spec_MakeNum -/
def f_spec_MakeNum (a0 : List Int) (a1 : Int) : Option Int :=
 (f_spec_l28New a0 a1).bind fun r1 =>
 (f_spec_l01Byte r1).bind fun r2 =>
 (f_spec_l01Byte r2.2).bind fun r3 =>
 some (IntKind.i64.wrap ((IntKind.i64.wrap (r2.1 * (256 : Int))) + r3.1))
/- impl_DeskNew -/
def f_impl_DeskNew_1 (a0 : Int) : Nat → Int → (List Int) → (List Bool) → Option XDesk
 | 0, _, _, _ => none
 | n + 1, v3, v4, v5 =>
  if (decide (v3 < a0)) then (
   if appB v4.length ([(-1 : Int)] : List Int).length 8 then (
    if appB v5.length ([false] : List Bool).length 1 then (
     f_impl_DeskNew_1 a0 n (IntKind.i64.wrap (v3 + (1 : Int))) (v4 ++ ([(-1 : Int)] : List Int)) (v5 ++ ([false] : List Bool)))
    else none)
   else none)
  else (
   some (⟨(0 : Int), v4, v5⟩ : XDesk))
def f_impl_DeskNew (a0 : Int) : Option XDesk :=
 (f_impl_within a0 (0 : Int) (6 : Int)).bind fun r1 =>
 if r1 then (
  f_impl_DeskNew_1 a0 bigN (0 : Int) ([] : List Int) ([] : List Bool))
 else (
  some (⟨(0 : Int), ([] : List Int), ([] : List Bool)⟩ : XDesk))
/- impl_clone_int -/
def f_impl_clone_int (a0 : List Int) : Option (List Int) :=
 (mkS (0 : Int) (a0.length : Int) 8).bind fun n1 =>
 if appB (List.replicate n1 (0 : Int)).length a0.length 8 then (
  some ((List.replicate n1 (0 : Int)) ++ a0))
 else none
/- impl_clone_bool -/
def f_impl_clone_bool (a0 : List Bool) : Option (List Bool) :=
 (mkS (0 : Int) (a0.length : Int) 1).bind fun n1 =>
 if appB (List.replicate n1 false).length a0.length 1 then (
  some ((List.replicate n1 false) ++ a0))
 else none
/- impl_copyDesk -/
def f_impl_copyDesk (a0 : XDesk) : Option XDesk :=
 (f_impl_clone_int a0.Starts).bind fun r1 =>
 (f_impl_clone_bool a0.Cleared).bind fun r2 =>
 some (⟨a0.Now, r1, r2⟩ : XDesk)
/- impl_DeskOk -/
def f_impl_DeskOk_1 (a0 : XDesk) : Nat → Int → Option Bool
 | 0, _ => none
 | n + 1, v5 =>
  if (decide (v5 < (a0.Starts.length : Int))) then (
   (ix a0.Starts v5).bind fun x7 =>
   (f_impl_within x7 (-1 : Int) (2880 : Int)).bind fun r9 =>
   if r9 then (
    (ix a0.Cleared v5).bind fun x11 =>
    if x11 then (
     if (decide (x7 < (0 : Int))) then (
      some false)
     else (
      f_impl_DeskOk_1 a0 n (IntKind.i64.wrap (v5 + (1 : Int)))))
    else (
     f_impl_DeskOk_1 a0 n (IntKind.i64.wrap (v5 + (1 : Int)))))
   else (
    some false))
  else (
   some true)
def f_impl_DeskOk (a0 : XDesk) : Option Bool :=
 (f_impl_isMinute a0.Now).bind fun r1 =>
 if r1 then (
  if (decide ((6 : Int) < (a0.Starts.length : Int))) then (
   some false)
  else (
   if ((a0.Cleared.length : Int) != (a0.Starts.length : Int)) then (
    some false)
   else (
    f_impl_DeskOk_1 a0 bigN (0 : Int))))
 else (
  some false)
/- impl_isIndex -/
def f_impl_isIndex (a0 : Int) (a1 : Int) : Option Bool :=
 if (decide ((0 : Int) ≤ a0)) then (
  some (decide (a0 < a1)))
 else (
  some false)
/- impl_applicable -/
def f_impl_applicable (a0 : XDesk) (a1 : XEntry) : Option Bool :=
 (f_impl_within a1.At a0.Now (2880 : Int)).bind fun r1 =>
 if r1 then (
  if (a1.Kind == (4 : Int)) then (
   if (a1.Call == (0 : Int)) then (
    some (a1.Value == (0 : Int)))
   else (
    some false))
  else (
   (f_impl_isIndex a1.Call (a0.Starts.length : Int)).bind fun r5 =>
   if r5 then (
    (ix a0.Cleared a1.Call).bind fun x7 =>
    if x7 then (
     some false)
    else (
     (ix a0.Starts a1.Call).bind fun x9 =>
     if (a1.Kind == (1 : Int)) then (
      (f_impl_within a1.Value a1.At (2880 : Int)).bind fun r11 =>
      some r11)
     else (
      if (a1.Kind == (2 : Int)) then (
       if (a1.Value == (0 : Int)) then (
        some (decide (a1.At ≤ x9)))
       else (
        some false))
      else (
       if (a1.Kind == (3 : Int)) then (
        if (a1.Value == (0 : Int)) then (
         some (decide ((0 : Int) ≤ x9)))
        else (
         some false))
       else (
        some false)))))
   else (
    some false)))
 else (
  some false)
/- impl_ApplyEntry -/
def f_impl_ApplyEntry_2 (a1 : XEntry) (v13 : List Int) (v14 : List Bool) : Option (XDesk × Bool) :=
 some ((⟨a1.At, v13, v14⟩ : XDesk), true)
def f_impl_ApplyEntry_1 (a1 : XEntry) (r1 : XDesk) (v5 : Bool) : Option (XDesk × Bool) :=
 if v5 then (
  some (r1, false))
 else (
  if (a1.Kind == (1 : Int)) then (
   (ix r1.Starts a1.Call).bind fun x8 =>
   f_impl_ApplyEntry_2 a1 (r1.Starts.set (Int.toNat a1.Call) a1.Value) r1.Cleared)
  else (
   if (a1.Kind == (2 : Int)) then (
    (ix r1.Cleared a1.Call).bind fun x10 =>
    f_impl_ApplyEntry_2 a1 r1.Starts (r1.Cleared.set (Int.toNat a1.Call) true))
   else (
    if (a1.Kind == (3 : Int)) then (
     (ix r1.Starts a1.Call).bind fun x12 =>
     f_impl_ApplyEntry_2 a1 (r1.Starts.set (Int.toNat a1.Call) (-1 : Int)) r1.Cleared)
    else (
     f_impl_ApplyEntry_2 a1 r1.Starts r1.Cleared))))
def f_impl_ApplyEntry (a0 : XDesk) (a1 : XEntry) : Option (XDesk × Bool) :=
 (f_impl_copyDesk a0).bind fun r1 =>
 (f_impl_DeskOk a0).bind fun r2 =>
 if r2 then (
  (f_impl_applicable a0 a1).bind fun r4 =>
  f_impl_ApplyEntry_1 a1 r1 (!r4))
 else (
  f_impl_ApplyEntry_1 a1 r1 true)
/- impl_SplitAny -/
def f_impl_SplitAny_2 (a0 : List UInt8) (a1 : List UInt8) (v2 : Int) (k_impl_SplitAny_1 : Int → Int → (List (List UInt8)) → Option (List (List UInt8))) (v10 : Int) (v11 : List (List UInt8)) : Option (List (List UInt8)) :=
 k_impl_SplitAny_1 v10 (IntKind.i64.wrap (v2 + (1 : Int))) v11
def f_impl_SplitAny_1 (a0 : List UInt8) (a1 : List UInt8) : Nat → Int → Int → (List (List UInt8)) → Option (List (List UInt8))
 | 0, _, _, _ => none
 | n + 1, v1, v2, v3 =>
  if (decide (v2 < (a0.length : Int))) then (
   (ix a0 v2).bind fun b5 =>
   (f_strings_IndexByte a1 (b5.toNat : Int)).bind fun r6 =>
   if (decide ((0 : Int) ≤ r6)) then (
    (bnd (a0.length : Int) v2 v1 a0.length).bind fun p8 =>
    if appB v3.length ([((a0.drop p8.1).take (p8.2 - p8.1))] : List (List UInt8)).length 16 then (
     f_impl_SplitAny_2 a0 a1 v2 (f_impl_SplitAny_1 a0 a1 n) (IntKind.i64.wrap (v2 + (1 : Int))) (v3 ++ ([((a0.drop p8.1).take (p8.2 - p8.1))] : List (List UInt8))))
    else none)
   else (
    f_impl_SplitAny_2 a0 a1 v2 (f_impl_SplitAny_1 a0 a1 n) v1 v3))
  else (
   (bnd (a0.length : Int) (a0.length : Int) v1 a0.length).bind fun p12 =>
   if appB v3.length ([((a0.drop p12.1).take (p12.2 - p12.1))] : List (List UInt8)).length 16 then (
    some (v3 ++ ([((a0.drop p12.1).take (p12.2 - p12.1))] : List (List UInt8))))
   else none)
def f_impl_SplitAny (a0 : List UInt8) (a1 : List UInt8) : Option (List (List UInt8)) :=
 f_impl_SplitAny_1 a0 a1 bigN (0 : Int) (0 : Int) ([] : List (List UInt8))
/- impl_parseNumbers -/
def f_impl_parseNumbers_1 (a0 : List (List UInt8)) : Nat → Int → (List Int) → Option ((List Int) × Bool)
 | 0, _, _ => none
 | n + 1, v1, v2 =>
  if (decide (v1 < (a0.length : Int))) then (
   (ix a0 v1).bind fun x4 =>
   (f_impl_ParseInt x4).bind fun r5 =>
   if r5.2 then (
    if appB v2.length ([r5.1] : List Int).length 8 then (
     f_impl_parseNumbers_1 a0 n (IntKind.i64.wrap (v1 + (1 : Int))) (v2 ++ ([r5.1] : List Int)))
    else none)
   else (
    some (([] : List Int), false)))
  else (
   some (v2, true))
def f_impl_parseNumbers (a0 : List (List UInt8)) : Option ((List Int) × Bool) :=
 f_impl_parseNumbers_1 a0 bigN (0 : Int) ([] : List Int)
/- impl_ParseEntry -/
def f_impl_ParseEntry_1 (a0 : List UInt8) (r4 : (List Int) × Bool) : Nat → Int → Option (XEntry × Bool)
 | 0, _ => none
 | n + 1, v6 =>
  if (decide (v6 ≤ (4 : Int))) then (
   (ix r4.1 (0 : Int)).bind fun x8 =>
   (ix r4.1 (1 : Int)).bind fun x9 =>
   (ix r4.1 (2 : Int)).bind fun x10 =>
   (f_impl_FormatEntry (⟨v6, x8, x9, x10⟩ : XEntry)).bind fun r11 =>
   if (r11 == a0) then (
    some ((⟨v6, x8, x9, x10⟩ : XEntry), true))
   else (
    f_impl_ParseEntry_1 a0 r4 n (IntKind.i64.wrap (v6 + (1 : Int)))))
  else (
   some ((⟨(0 : Int), (0 : Int), (0 : Int), (0 : Int)⟩ : XEntry), false))
def f_impl_ParseEntry (a0 : List UInt8) : Option (XEntry × Bool) :=
 (f_impl_SplitAny a0 ([32] : List UInt8)).bind fun r1 =>
 if ((r1.length : Int) != (5 : Int)) then (
  some ((⟨(0 : Int), (0 : Int), (0 : Int), (0 : Int)⟩ : XEntry), false))
 else (
  (bnd (r1.length : Int) (4 : Int) (1 : Int) r1.length).bind fun p3 =>
  (f_impl_parseNumbers ((r1.drop p3.1).take (p3.2 - p3.1))).bind fun r4 =>
  if r4.2 then (
   f_impl_ParseEntry_1 a0 r4 bigN (1 : Int))
  else (
   some ((⟨(0 : Int), (0 : Int), (0 : Int), (0 : Int)⟩ : XEntry), false)))
/- impl_SplitLines -/
def f_impl_SplitLines (a0 : List UInt8) : Option (List (List UInt8)) :=
 (f_impl_SplitAny a0 ([10] : List UInt8)).bind fun r1 =>
 (ix r1 (IntKind.i64.wrap ((r1.length : Int) - (1 : Int)))).bind fun x2 =>
 if (x2 == ([] : List UInt8)) then (
  (bnd (r1.length : Int) (IntKind.i64.wrap ((r1.length : Int) - (1 : Int))) (0 : Int) r1.length).bind fun p4 =>
  some ((r1.drop p4.1).take (p4.2 - p4.1)))
 else (
  some r1)
/- impl_readEntries -/
def f_impl_readEntries_1 (a0 : List (List UInt8)) : Nat → Int → (List XEntry) → Option ((List XEntry) × (Option Int))
 | 0, _, _ => none
 | n + 1, v1, v2 =>
  if (decide (v1 < (a0.length : Int))) then (
   (ix a0 v1).bind fun x4 =>
   (f_impl_ParseEntry x4).bind fun r5 =>
   if r5.2 then (
    if appB v2.length ([r5.1] : List XEntry).length 32 then (
     f_impl_readEntries_1 a0 n (IntKind.i64.wrap (v1 + (1 : Int))) (v2 ++ ([r5.1] : List XEntry)))
    else none)
   else (
    some (v2, (some v1 : Option Int))))
  else (
   some (v2, (none : Option Int)))
def f_impl_readEntries (a0 : List (List UInt8)) : Option ((List XEntry) × (Option Int)) :=
 f_impl_readEntries_1 a0 bigN (0 : Int) ([] : List XEntry)
/- impl_ReadJournal -/
def f_impl_ReadJournal (a0 : List UInt8) : Option ((List XEntry) × Int) :=
 (f_impl_SplitLines a0).bind fun r1 =>
 (bnd (r1.length : Int) (if (60 : Int) < (r1.length : Int) then (60 : Int) else (r1.length : Int)) (0 : Int) r1.length).bind fun p2 =>
 (f_impl_readEntries ((r1.drop p2.1).take (p2.2 - p2.1))).bind fun r3 =>
 if r3.2.isSome then (
  (r3.2).bind fun k5 =>
  some (r3.1, k5))
 else (
  some (r3.1, (r3.1.length : Int)))
/- impl_RebuildDesk -/
def f_impl_RebuildDesk_1 (r2 : (List XEntry) × Int) : Nat → Int → Int → (List Int) → (List Bool) → Option (XDesk × Int)
 | 0, _, _, _, _ => none
 | n + 1, v3, v4, v5, v6 =>
  if (decide (v3 < (r2.1.length : Int))) then (
   (ix r2.1 v3).bind fun x8 =>
   (f_impl_ApplyEntry (⟨v4, v5, v6⟩ : XDesk) x8).bind fun r9 =>
   if r9.2 then (
    f_impl_RebuildDesk_1 r2 n (IntKind.i64.wrap (v3 + (1 : Int))) r9.1.Now r9.1.Starts r9.1.Cleared)
   else (
    some ((⟨v4, v5, v6⟩ : XDesk), v3)))
  else (
   some ((⟨v4, v5, v6⟩ : XDesk), (r2.1.length : Int)))
def f_impl_RebuildDesk (a0 : Int) (a1 : List UInt8) : Option (XDesk × Int) :=
 (f_impl_DeskNew a0).bind fun r1 =>
 (f_impl_ReadJournal a1).bind fun r2 =>
 f_impl_RebuildDesk_1 r2 bigN (0 : Int) r1.Now r1.Starts r1.Cleared
/- slices_Equal_int -/
def f_slices_Equal_int_1 (a0 : List Int) (a1 : List Int) : Nat → Int → Option Bool
 | 0, _ => none
 | n + 1, v2 =>
  if (decide (v2 < (a0.length : Int))) then (
   (ix a0 v2).bind fun x4 =>
   (ix a1 v2).bind fun x5 =>
   if (x4 != x5) then (
    some false)
   else (
    f_slices_Equal_int_1 a0 a1 n (IntKind.i64.wrap (v2 + (1 : Int)))))
  else (
   some true)
def f_slices_Equal_int (a0 : List Int) (a1 : List Int) : Option Bool :=
 if ((a0.length : Int) != (a1.length : Int)) then (
  some false)
 else (
  f_slices_Equal_int_1 a0 a1 bigN (0 : Int))
/- slices_Equal_bool -/
def f_slices_Equal_bool_1 (a0 : List Bool) (a1 : List Bool) : Nat → Int → Option Bool
 | 0, _ => none
 | n + 1, v2 =>
  if (decide (v2 < (a0.length : Int))) then (
   (ix a0 v2).bind fun x4 =>
   (ix a1 v2).bind fun x5 =>
   if (x4 == x5) then (
    f_slices_Equal_bool_1 a0 a1 n (IntKind.i64.wrap (v2 + (1 : Int))))
   else (
    some false))
  else (
   some true)
def f_slices_Equal_bool (a0 : List Bool) (a1 : List Bool) : Option Bool :=
 if ((a0.length : Int) != (a1.length : Int)) then (
  some false)
 else (
  f_slices_Equal_bool_1 a0 a1 bigN (0 : Int))
/- impl_SameDesks -/
def f_impl_SameDesks (a0 : XDesk) (a1 : XDesk) : Option Bool :=
 if (a0.Now == a1.Now) then (
  (f_slices_Equal_int a0.Starts a1.Starts).bind fun r2 =>
  if r2 then (
   (f_slices_Equal_bool a0.Cleared a1.Cleared).bind fun r4 =>
   some r4)
  else (
   some false))
 else (
  some false)
/- impl_DeskLine -/
def f_impl_DeskLine_1 (a0 : XDesk) : Nat → (List UInt8) → Int → Option (List UInt8)
 | 0, _, _ => none
 | n + 1, v4, v5 =>
  if (decide (v5 < (a0.Starts.length : Int))) then (
   (ix a0.Starts v5).bind fun x7 =>
   if (decide (x7 < (0 : Int))) then (
    if catB v4.length ([32, 45] : List UInt8).length then (
     f_impl_DeskLine_1 a0 n (v4 ++ ([32, 45] : List UInt8)) (IntKind.i64.wrap (v5 + (1 : Int))))
    else none)
   else (
    (ix a0.Cleared v5).bind fun x10 =>
    if x10 then (
     (f_impl_FormatInt x7).bind fun r12 =>
     if catB ([32] : List UInt8).length r12.length then (
      if catB (([32] : List UInt8) ++ r12).length ([33] : List UInt8).length then (
       if catB v4.length ((([32] : List UInt8) ++ r12) ++ ([33] : List UInt8)).length then (
        f_impl_DeskLine_1 a0 n (v4 ++ ((([32] : List UInt8) ++ r12) ++ ([33] : List UInt8))) (IntKind.i64.wrap (v5 + (1 : Int))))
       else none)
      else none)
     else none)
    else (
     (f_impl_FormatInt x7).bind fun r16 =>
     if catB ([32] : List UInt8).length r16.length then (
      if catB v4.length (([32] : List UInt8) ++ r16).length then (
       f_impl_DeskLine_1 a0 n (v4 ++ (([32] : List UInt8) ++ r16)) (IntKind.i64.wrap (v5 + (1 : Int))))
      else none)
     else none)))
  else (
   some v4)
def f_impl_DeskLine (a0 : XDesk) : Option (List UInt8) :=
 (f_impl_DeskOk a0).bind fun r1 =>
 if r1 then (
  (f_impl_FormatInt a0.Now).bind fun r3 =>
  f_impl_DeskLine_1 a0 bigN r3 (0 : Int))
 else (
  some ([] : List UInt8))
/- laws_FnDesks -/
def f_laws_FnDesks_2 (r25 : XDesk × Int) (y35 : List XEntry) (y36 : Int) : Nat → Int → Int → (List Int) → (List Bool) → Option Bool
 | 0, _, _, _, _ => none
 | n + 1, v37, v38, v39, v40 =>
  if (decide (v37 < y36)) then (
   (ix y35 v37).bind fun x42 =>
   (f_impl_ApplyEntry (⟨v38, v39, v40⟩ : XDesk) x42).bind fun r43 =>
   f_laws_FnDesks_2 r25 y35 y36 n (IntKind.i64.wrap (v37 + (1 : Int))) r43.1.Now r43.1.Starts r43.1.Cleared)
  else (
   (f_impl_SameDesks r25.1 (⟨v38, v39, v40⟩ : XDesk)).bind fun r44 =>
   if r44 then (
    (f_impl_DeskLine r25.1).bind fun r46 =>
    some (!(r46 == ([] : List UInt8))))
   else (
    some false))
def f_laws_FnDesks_1 (r2 : Int × (List XEntry)) (r3 : (List UInt8)) (y7 : Int) : Nat → Int → Int → (List Int) → (List Bool) → Option Bool
 | 0, _, _, _, _ => none
 | n + 1, v8, v9, v10, v11 =>
  if (decide (v8 < (r2.2.length : Int))) then (
   (ix r2.2 v8).bind fun x13 =>
   (f_impl_ApplyEntry (⟨v9, v10, v11⟩ : XDesk) x13).bind fun r14 =>
   (f_impl_FormatEntry x13).bind fun r15 =>
   (f_impl_ParseEntry r15).bind fun r16 =>
   if r14.2 then (
    if r16.2 then (
     if ((r16.1.Kind == x13.Kind) && ((r16.1.At == x13.At) && ((r16.1.Call == x13.Call) && ((r16.1.Value == x13.Value) && true)))) then (
      (f_impl_DeskOk r14.1).bind fun r20 =>
      if r20 then (
       if (r14.1.Now != x13.At) then (
        some false)
       else (
        f_laws_FnDesks_1 r2 r3 y7 n (IntKind.i64.wrap (v8 + (1 : Int))) r14.1.Now r14.1.Starts r14.1.Cleared))
      else (
       some false))
     else (
      some false))
    else (
     some false))
   else (
    some false))
  else (
   (f_impl_RebuildDesk r2.1 r3).bind fun r23 =>
   (bnd (r3.length : Int) y7 (0 : Int) r3.length).bind fun p24 =>
   (f_impl_RebuildDesk r2.1 ((r3.drop p24.1).take (p24.2 - p24.1))).bind fun r25 =>
   if (r23.2 != (r2.2.length : Int)) then (
    some false)
   else (
    (f_impl_SameDesks r23.1 (⟨v9, v10, v11⟩ : XDesk)).bind fun r27 =>
    if r27 then (
     if (decide (r25.2 < (0 : Int))) then (
      some false)
     else (
      if (decide (r23.2 < r25.2)) then (
       some false)
      else (
       (f_impl_DeskOk (⟨v9, v10, v11⟩ : XDesk)).bind fun r31 =>
       if r31 then (
        (f_impl_DeskNew r2.1).bind fun r33 =>
        (bnd (r2.2.length : Int) r25.2 (0 : Int) r2.2.length).bind fun p34 =>
        f_laws_FnDesks_2 r25 ((r2.2.drop p34.1).take (p34.2 - p34.1)) (((r2.2.drop p34.1).take (p34.2 - p34.1)).length : Int) bigN (0 : Int) r33.Now r33.Starts r33.Cleared)
       else (
        some false))))
    else (
     some false)))
def f_laws_FnDesks (a0 : List Int) : Option Bool :=
 if (decide ((1048576 : Int) < (a0.length : Int))) then (
  some true)
 else (
  (f_spec_MakeJournal a0).bind fun r2 =>
  (f_impl_JournalText r2.2).bind fun r3 =>
  (f_spec_MakeNum a0 (60 : Int)).bind fun r4 =>
  if (IntKind.i64.wrap ((r3.length : Int) + (1 : Int))) == 0 then none else
  (f_impl_DeskNew r2.1).bind fun r6 =>
  f_laws_FnDesks_1 r2 r3 (IntKind.i64.wrap (Int.tmod r4 (IntKind.i64.wrap ((r3.length : Int) + (1 : Int))))) bigN (0 : Int) r6.Now r6.Starts r6.Cleared)
end Go.Vi
