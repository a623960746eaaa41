/-
  Plain definitions of functions, by program. No condition.
-/
import Derived.Test.YtnklncheopbfbaaVi32
namespace Go.Vi
set_option linter.unusedSimpArgs false
set_option linter.unusedVariables false
structure XAccount where
  Waits : List Int
  Calls : List Int
  deriving DecidableEq
def XAccount.row (x : XAccount) : List D := [.sl (List.map rI x.Waits), .sl (List.map rI x.Calls)]
theorem XAccount.row_eq (x : XAccount) : XAccount.row x = [.sl (List.map rI x.Waits), .sl (List.map rI x.Calls)] := rfl
instance : Row XAccount.row 2 := ⟨fun _ => rfl, Nat.le_of_ble_eq_true rfl⟩
instance : OfTy (.st [(.sl (.int .i64)), (.sl (.int .i64))]) XAccount.row := ⟨fun ds h => by
  obtain ⟨a0, b0, h0, t0, rfl⟩ := h
  obtain ⟨a1, b1, h1, t1, rfl⟩ := t0
  obtain rfl := t1
  obtain ⟨x0, rfl⟩ := OfTy.of (row := (rL rI)) _ h0
  obtain ⟨x1, rfl⟩ := OfTy.of (row := (rL rI)) _ h1
  exact ⟨⟨x0, x1⟩, rfl⟩⟩
structure XPassage where
  Ship : Int
  Segment : Int
  Toward : Bool
  Start : Int
  End : Int
  deriving DecidableEq
def XPassage.row (x : XPassage) : List D := [.int .i64 x.Ship, .int .i64 x.Segment, .bool x.Toward, .int .i64 x.Start, .int .i64 x.End]
theorem XPassage.row_eq (x : XPassage) : XPassage.row x = [.int .i64 x.Ship, .int .i64 x.Segment, .bool x.Toward, .int .i64 x.Start, .int .i64 x.End] := rfl
instance : Row XPassage.row 5 := ⟨fun _ => rfl, Nat.le_of_ble_eq_true rfl⟩
instance : FlatRow XPassage.row := ⟨fun x d hd => by simp only [XPassage.row_eq, List.mem_cons, List.not_mem_nil, or_false] at hd; rcases hd with rfl | rfl | rfl | rfl | rfl <;> rfl⟩
instance : OfTy (.st [(.int .i64), (.int .i64), .bool, (.int .i64), (.int .i64)]) XPassage.row := ⟨fun ds h => by
  obtain ⟨a0, b0, h0, t0, rfl⟩ := h
  obtain ⟨a1, b1, h1, t1, rfl⟩ := t0
  obtain ⟨a2, b2, h2, t2, rfl⟩ := t1
  obtain ⟨a3, b3, h3, t3, rfl⟩ := t2
  obtain ⟨a4, b4, h4, t4, rfl⟩ := t3
  obtain rfl := t4
  obtain ⟨x0, rfl⟩ := OfTy.of (row := rI) _ h0
  obtain ⟨x1, rfl⟩ := OfTy.of (row := rI) _ h1
  obtain ⟨x2, rfl⟩ := OfTy.of (row := rB) _ h2
  obtain ⟨x3, rfl⟩ := OfTy.of (row := rI) _ h3
  obtain ⟨x4, rfl⟩ := OfTy.of (row := rI) _ h4
  exact ⟨⟨x0, x1, x2, x3, x4⟩, rfl⟩⟩
structure XClosure where
  Segment : Int
  From : Int
  To : Int
  deriving DecidableEq
def XClosure.row (x : XClosure) : List D := [.int .i64 x.Segment, .int .i64 x.From, .int .i64 x.To]
theorem XClosure.row_eq (x : XClosure) : XClosure.row x = [.int .i64 x.Segment, .int .i64 x.From, .int .i64 x.To] := rfl
instance : Row XClosure.row 3 := ⟨fun _ => rfl, Nat.le_of_ble_eq_true rfl⟩
instance : FlatRow XClosure.row := ⟨fun x d hd => by simp only [XClosure.row_eq, List.mem_cons, List.not_mem_nil, or_false] at hd; rcases hd with rfl | rfl | rfl <;> rfl⟩
instance : OfTy (.st [(.int .i64), (.int .i64), (.int .i64)]) XClosure.row := ⟨fun ds h => by
  obtain ⟨a0, b0, h0, t0, rfl⟩ := h
  obtain ⟨a1, b1, h1, t1, rfl⟩ := t0
  obtain ⟨a2, b2, h2, t2, rfl⟩ := t1
  obtain rfl := t2
  obtain ⟨x0, rfl⟩ := OfTy.of (row := rI) _ h0
  obtain ⟨x1, rfl⟩ := OfTy.of (row := rI) _ h1
  obtain ⟨x2, rfl⟩ := OfTy.of (row := rI) _ h2
  exact ⟨⟨x0, x1, x2⟩, rfl⟩⟩
structure XDesk where
  Now : Int
  Starts : List Int
  Cleared : List Bool
  deriving DecidableEq
def XDesk.row (x : XDesk) : List D := [.int .i64 x.Now, .sl (List.map rI x.Starts), .sl (List.map rB x.Cleared)]
theorem XDesk.row_eq (x : XDesk) : XDesk.row x = [.int .i64 x.Now, .sl (List.map rI x.Starts), .sl (List.map rB x.Cleared)] := rfl
instance : Row XDesk.row 3 := ⟨fun _ => rfl, Nat.le_of_ble_eq_true rfl⟩
instance : OfTy (.st [(.int .i64), (.sl (.int .i64)), (.sl .bool)]) XDesk.row := ⟨fun ds h => by
  obtain ⟨a0, b0, h0, t0, rfl⟩ := h
  obtain ⟨a1, b1, h1, t1, rfl⟩ := t0
  obtain ⟨a2, b2, h2, t2, rfl⟩ := t1
  obtain rfl := t2
  obtain ⟨x0, rfl⟩ := OfTy.of (row := rI) _ h0
  obtain ⟨x1, rfl⟩ := OfTy.of (row := (rL rI)) _ h1
  obtain ⟨x2, rfl⟩ := OfTy.of (row := (rL rB)) _ h2
  exact ⟨⟨x0, x1, x2⟩, rfl⟩⟩
structure XOption where
  Start : Int
  Arrival : Int
  Cost : Int
  Passages : List XPassage
  deriving DecidableEq
def XOption.row (x : XOption) : List D := [.int .i64 x.Start, .int .i64 x.Arrival, .int .i64 x.Cost, .sl (List.map XPassage.row x.Passages)]
theorem XOption.row_eq (x : XOption) : XOption.row x = [.int .i64 x.Start, .int .i64 x.Arrival, .int .i64 x.Cost, .sl (List.map XPassage.row x.Passages)] := rfl
instance : Row XOption.row 4 := ⟨fun _ => rfl, Nat.le_of_ble_eq_true rfl⟩
instance : OfTy (.st [(.int .i64), (.int .i64), (.int .i64), (.sl (.st [(.int .i64), (.int .i64), .bool, (.int .i64), (.int .i64)]))]) XOption.row := ⟨fun ds h => by
  obtain ⟨a0, b0, h0, t0, rfl⟩ := h
  obtain ⟨a1, b1, h1, t1, rfl⟩ := t0
  obtain ⟨a2, b2, h2, t2, rfl⟩ := t1
  obtain ⟨a3, b3, h3, t3, rfl⟩ := t2
  obtain rfl := t3
  obtain ⟨x0, rfl⟩ := OfTy.of (row := rI) _ h0
  obtain ⟨x1, rfl⟩ := OfTy.of (row := rI) _ h1
  obtain ⟨x2, rfl⟩ := OfTy.of (row := rI) _ h2
  obtain ⟨x3, rfl⟩ := OfTy.of (row := (rL XPassage.row)) _ h3
  exact ⟨⟨x0, x1, x2, x3⟩, rfl⟩⟩
theorem rowsX : type_of% (And.intro @rI_eq (And.intro @XAccount.row_eq (And.intro @XPassage.row_eq (And.intro @XClosure.row_eq (And.intro @XDesk.row_eq (@XOption.row_eq)))))) := And.intro @rI_eq (And.intro @XAccount.row_eq (And.intro @XPassage.row_eq (And.intro @XClosure.row_eq (And.intro @XDesk.row_eq (@XOption.row_eq)))))
/- spec_SumOfText -/
def f_spec_SumOfText_1 (a0 : List UInt8) : Nat → Int → Int → Option Int
 | 0, _, _ => none
 | n + 1, v1, v2 =>
  if (decide (v2 < (a0.length : Int))) then (
   (ix a0 v2).bind fun b4 =>
   f_spec_SumOfText_1 a0 n (IntKind.i64.wrap (Int.tmod (IntKind.i64.wrap ((IntKind.i64.wrap ((31 : Int) * v1)) + (IntKind.i64.wrap (b4.toNat : Int)))) (65521 : Int))) (IntKind.i64.wrap (v2 + (1 : Int))))
  else (
   some v1)
def f_spec_SumOfText (a0 : List UInt8) : Option Int :=
 f_spec_SumOfText_1 a0 bigN (7 : Int) (0 : Int)
/- impl_SumOfText -/
def f_impl_SumOfText_1 (a0 : List UInt8) : Nat → Int → Int → Option Int
 | 0, _, _ => none
 | n + 1, v1, v2 =>
  if (decide (v2 < (a0.length : Int))) then (
   (ix a0 v2).bind fun b4 =>
   f_impl_SumOfText_1 a0 n (IntKind.i64.wrap (Int.tmod (IntKind.i64.wrap ((IntKind.i64.wrap ((31 : Int) * v1)) + (IntKind.i64.wrap (b4.toNat : Int)))) (65521 : Int))) (IntKind.i64.wrap (v2 + (1 : Int))))
  else (
   some v1)
def f_impl_SumOfText (a0 : List UInt8) : Option Int :=
 f_impl_SumOfText_1 a0 bigN (7 : Int) (0 : Int)
/- laws_FnExactSumOfText -/
def f_laws_FnExactSumOfText (a0 : List UInt8) : Option Bool :=
 if (decide ((1048576 : Int) < (a0.length : Int))) then (
  some true)
 else (
  (f_spec_SumOfText a0).bind fun r2 =>
  (f_impl_SumOfText a0).bind fun r3 =>
  if (r3 != r2) then (
   some false)
  else (
   some true))
/- laws_toIntS -/
def f_laws_toIntS_1 (a0 : List Int) : Nat → Int → (List Int) → Option (List Int)
 | 0, _, _ => none
 | n + 1, v2, v3 =>
  if (decide (v2 < (a0.length : Int))) then (
   (ix a0 v2).bind fun x5 =>
   (ix v3 v2).bind fun x6 =>
   f_laws_toIntS_1 a0 n (IntKind.i64.wrap (v2 + (1 : Int))) (v3.set (Int.toNat v2) x5))
  else (
   some v3)
def f_laws_toIntS (a0 : List Int) : Option (List Int) :=
 (mkS (a0.length : Int) (a0.length : Int) 8).bind fun n1 =>
 f_laws_toIntS_1 a0 bigN (0 : Int) (List.replicate n1 (0 : Int))
/- spec_l01In -/
def f_spec_l01In (a0 : Int) (a1 : Int) (a2 : Int) : Option Bool :=
 if (decide (a1 ≤ a0)) then (
  some (decide (a0 ≤ a2)))
 else (
  some false)
/- spec_PicksOk -/
def f_spec_PicksOk_1 (a0 : List Int) : Nat → Int → Option Bool
 | 0, _ => none
 | n + 1, v3 =>
  if (decide (v3 < (a0.length : Int))) then (
   (ix a0 v3).bind fun x5 =>
   (f_spec_l01In x5 (0 : Int) (1000 : Int)).bind fun r6 =>
   if r6 then (
    f_spec_PicksOk_1 a0 n (IntKind.i64.wrap (v3 + (1 : Int))))
   else (
    some false))
  else (
   some true)
def f_spec_PicksOk (a0 : List Int) : Option Bool :=
 (f_spec_l01In (a0.length : Int) (1 : Int) (48 : Int)).bind fun r1 =>
 if r1 then (
  f_spec_PicksOk_1 a0 bigN (0 : Int))
 else (
  some false)
/- impl_within -/
def f_impl_within (a0 : Int) (a1 : Int) (a2 : Int) : Option Bool :=
 if (decide (a1 ≤ a0)) then (
  some (decide (a0 ≤ a2)))
 else (
  some false)
/- impl_PicksOk -/
def f_impl_PicksOk_1 (a0 : List Int) : Nat → Int → Option Bool
 | 0, _ => none
 | n + 1, v3 =>
  if (decide (v3 < (a0.length : Int))) then (
   (ix a0 v3).bind fun x5 =>
   (f_impl_within x5 (0 : Int) (1000 : Int)).bind fun r6 =>
   if r6 then (
    f_impl_PicksOk_1 a0 n (IntKind.i64.wrap (v3 + (1 : Int))))
   else (
    some false))
  else (
   some true)
def f_impl_PicksOk (a0 : List Int) : Option Bool :=
 (f_impl_within (a0.length : Int) (1 : Int) (48 : Int)).bind fun r1 =>
 if r1 then (
  f_impl_PicksOk_1 a0 bigN (0 : Int))
 else (
  some false)
/- laws_eqIntS -/
def f_laws_eqIntS_1 (a0 : List Int) (a1 : List Int) : Nat → Int → Option Bool
 | 0, _ => none
 | n + 1, v2 =>
  if (decide (v2 < (a0.length : Int))) then (
   (ix a0 v2).bind fun x4 =>
   (ix a1 v2).bind fun x5 =>
   if (x4 != x5) then (
    some false)
   else (
    f_laws_eqIntS_1 a0 a1 n (IntKind.i64.wrap (v2 + (1 : Int)))))
  else (
   some true)
def f_laws_eqIntS (a0 : List Int) (a1 : List Int) : Option Bool :=
 if ((a0.length : Int) != (a1.length : Int)) then (
  some false)
 else (
  f_laws_eqIntS_1 a0 a1 bigN (0 : Int))
/- laws_FnExactPicksOk -/
def f_laws_FnExactPicksOk (a0 : List Int) : Option Bool :=
 if (decide ((1048576 : Int) < (a0.length : Int))) then (
  some true)
 else (
  (f_laws_toIntS a0).bind fun r2 =>
  (f_spec_PicksOk r2).bind fun r3 =>
  (f_laws_toIntS a0).bind fun r4 =>
  (f_impl_PicksOk r4).bind fun r5 =>
  if (r5 == r3) then (
   (f_laws_toIntS a0).bind fun r7 =>
   (f_laws_eqIntS r4 r7).bind fun r8 =>
   if r8 then (
    some true)
   else (
    some false))
  else (
   some false))
/- spec_SaferPicks -/
def f_spec_SaferPicks_1 (a0 : List Int) (a1 : List Int) : Nat → Int → Option Bool
 | 0, _ => none
 | n + 1, v5 =>
  if (decide (v5 < (48 : Int))) then (
   (ix a0 (if (IntKind.i64.wrap ((a0.length : Int) - (1 : Int))) < v5 then (IntKind.i64.wrap ((a0.length : Int) - (1 : Int))) else v5)).bind fun x7 =>
   (ix a1 (if (IntKind.i64.wrap ((a1.length : Int) - (1 : Int))) < v5 then (IntKind.i64.wrap ((a1.length : Int) - (1 : Int))) else v5)).bind fun x8 =>
   if (decide (x7 < x8)) then (
    some false)
   else (
    f_spec_SaferPicks_1 a0 a1 n (IntKind.i64.wrap (v5 + (1 : Int)))))
  else (
   some true)
def f_spec_SaferPicks (a0 : List Int) (a1 : List Int) : Option Bool :=
 (f_spec_PicksOk a0).bind fun r1 =>
 if r1 then (
  (f_spec_PicksOk a1).bind fun r3 =>
  if r3 then (
   f_spec_SaferPicks_1 a0 a1 bigN (0 : Int))
  else (
   some false))
 else (
  some false)
/- impl_pickOf -/
def f_impl_pickOf (a0 : List Int) (a1 : Int) : Option Int :=
 (ix a0 (if (IntKind.i64.wrap ((a0.length : Int) - (1 : Int))) < a1 then (IntKind.i64.wrap ((a0.length : Int) - (1 : Int))) else a1)).bind fun x1 =>
 some x1
/- impl_SaferPicks -/
def f_impl_SaferPicks_1 (a0 : List Int) (a1 : List Int) : Nat → Int → Option Bool
 | 0, _ => none
 | n + 1, v5 =>
  if (decide (v5 < (48 : Int))) then (
   (f_impl_pickOf a0 v5).bind fun r7 =>
   (f_impl_pickOf a1 v5).bind fun r8 =>
   if (decide (r7 < r8)) then (
    some false)
   else (
    f_impl_SaferPicks_1 a0 a1 n (IntKind.i64.wrap (v5 + (1 : Int)))))
  else (
   some true)
def f_impl_SaferPicks (a0 : List Int) (a1 : List Int) : Option Bool :=
 (f_impl_PicksOk a0).bind fun r1 =>
 if r1 then (
  (f_impl_PicksOk a1).bind fun r3 =>
  if r3 then (
   f_impl_SaferPicks_1 a0 a1 bigN (0 : Int))
  else (
   some false))
 else (
  some false)
/- laws_FnExactSaferPicks -/
def f_laws_FnExactSaferPicks (a0 : List Int) (a1 : List Int) : Option Bool :=
 if (decide ((1048576 : Int) < (a0.length : Int))) then (
  some true)
 else (
  if (decide ((1048576 : Int) < (a1.length : Int))) then (
   some true)
  else (
   (f_laws_toIntS a0).bind fun r3 =>
   (f_laws_toIntS a1).bind fun r4 =>
   (f_spec_SaferPicks r3 r4).bind fun r5 =>
   (f_laws_toIntS a0).bind fun r6 =>
   (f_laws_toIntS a1).bind fun r7 =>
   (f_impl_SaferPicks r6 r7).bind fun r8 =>
   if (r8 == r5) then (
    (f_laws_toIntS a0).bind fun r10 =>
    (f_laws_eqIntS r6 r10).bind fun r11 =>
    if r11 then (
     (f_laws_toIntS a1).bind fun r13 =>
     (f_laws_eqIntS r7 r13).bind fun r14 =>
     if r14 then (
      some true)
     else (
      some false))
    else (
     some false))
   else (
    some false)))
/- laws_szIntS -/
def f_laws_szIntS (a0 : List Int) (a1 : Int) : Option Int :=
 if (decide ((IntKind.i64.wrap (a1 - (a0.length : Int))) < (0 : Int))) then (
  some (-1 : Int))
 else (
  some (IntKind.i64.wrap (a1 - (a0.length : Int))))
/- laws_szAccount -/
def f_laws_szAccount (a0 : XAccount) (a1 : Int) : Option Int :=
 (f_laws_szIntS a0.Waits a1).bind fun r1 =>
 if (decide (r1 < (0 : Int))) then (
  some (-1 : Int))
 else (
  (f_laws_szIntS a0.Calls r1).bind fun r3 =>
  if (decide (r3 < (0 : Int))) then (
   some (-1 : Int))
  else (
   some r3))
/- laws_toAccount -/
def f_laws_toAccount (a0 : XAccount) : Option XAccount :=
 (f_laws_toIntS a0.Waits).bind fun r1 =>
 (f_laws_toIntS a0.Calls).bind fun r2 =>
 some (⟨r1, r2⟩ : XAccount)
/- spec_AccountOk -/
def f_spec_AccountOk_1 (a0 : XAccount) : Nat → Int → Option Bool
 | 0, _ => none
 | n + 1, v3 =>
  if (decide (v3 < (a0.Waits.length : Int))) then (
   (ix a0.Waits v3).bind fun x5 =>
   (f_spec_l01In x5 (0 : Int) (1000000 : Int)).bind fun r6 =>
   if r6 then (
    (ix a0.Calls v3).bind fun x8 =>
    (f_spec_l01In x8 (0 : Int) (1000000 : Int)).bind fun r9 =>
    if r9 then (
     f_spec_AccountOk_1 a0 n (IntKind.i64.wrap (v3 + (1 : Int))))
    else (
     some false))
   else (
    some false))
  else (
   some true)
def f_spec_AccountOk (a0 : XAccount) : Option Bool :=
 if ((a0.Waits.length : Int) != (4 : Int)) then (
  some false)
 else (
  if ((a0.Calls.length : Int) != (4 : Int)) then (
   some false)
  else (
   f_spec_AccountOk_1 a0 bigN (0 : Int)))
/- impl_AccountOk -/
def f_impl_AccountOk_1 (a0 : XAccount) : Nat → Int → Option Bool
 | 0, _ => none
 | n + 1, v3 =>
  if (decide (v3 < (4 : Int))) then (
   (ix a0.Waits v3).bind fun x5 =>
   (f_impl_within x5 (0 : Int) (1000000 : Int)).bind fun r6 =>
   if r6 then (
    (ix a0.Calls v3).bind fun x8 =>
    (f_impl_within x8 (0 : Int) (1000000 : Int)).bind fun r9 =>
    if r9 then (
     f_impl_AccountOk_1 a0 n (IntKind.i64.wrap (v3 + (1 : Int))))
    else (
     some false))
   else (
    some false))
  else (
   some true)
def f_impl_AccountOk (a0 : XAccount) : Option Bool :=
 if ((a0.Waits.length : Int) != (4 : Int)) then (
  some false)
 else (
  if ((a0.Calls.length : Int) != (4 : Int)) then (
   some false)
  else (
   f_impl_AccountOk_1 a0 bigN (0 : Int)))
/- laws_eqAccount -/
def f_laws_eqAccount (a0 : XAccount) (a1 : XAccount) : Option Bool :=
 (f_laws_eqIntS a0.Waits a1.Waits).bind fun r1 =>
 if r1 then (
  (f_laws_eqIntS a0.Calls a1.Calls).bind fun r3 =>
  if r3 then (
   some true)
  else (
   some false))
 else (
  some false)
/- laws_FnExactAccountOk -/
def f_laws_FnExactAccountOk (a0 : XAccount) : Option Bool :=
 (f_laws_szAccount a0 (1048576 : Int)).bind fun r1 =>
 if (decide (r1 < (0 : Int))) then (
  some true)
 else (
  (f_laws_toAccount a0).bind fun r3 =>
  (f_spec_AccountOk r3).bind fun r4 =>
  (f_laws_toAccount a0).bind fun r5 =>
  (f_impl_AccountOk r5).bind fun r6 =>
  if (r6 == r4) then (
   (f_laws_toAccount a0).bind fun r8 =>
   (f_laws_eqAccount r5 r8).bind fun r9 =>
   if r9 then (
    some true)
   else (
    some false))
  else (
   some false))
/- laws_szClosureS -/
def f_laws_szClosureS (a0 : List XClosure) (a1 : Int) : Option Int :=
 if (decide ((IntKind.i64.wrap (a1 - (a0.length : Int))) < (0 : Int))) then (
  some (-1 : Int))
 else (
  some (IntKind.i64.wrap (a1 - (a0.length : Int))))
/- laws_toPassage -/
def f_laws_toPassage (a0 : XPassage) : Option XPassage :=
 some a0
/- laws_toClosure -/
def f_laws_toClosure (a0 : XClosure) : Option XClosure :=
 some a0
/- laws_toClosureS -/
def f_laws_toClosureS_1 (a0 : List XClosure) : Nat → Int → (List XClosure) → Option (List XClosure)
 | 0, _, _ => none
 | n + 1, v2, v3 =>
  if (decide (v2 < (a0.length : Int))) then (
   (ix a0 v2).bind fun x5 =>
   (f_laws_toClosure x5).bind fun r6 =>
   (ix v3 v2).bind fun x7 =>
   f_laws_toClosureS_1 a0 n (IntKind.i64.wrap (v2 + (1 : Int))) (v3.set (Int.toNat v2) r6))
  else (
   some v3)
def f_laws_toClosureS (a0 : List XClosure) : Option (List XClosure) :=
 (mkS (a0.length : Int) (a0.length : Int) 24).bind fun n1 =>
 f_laws_toClosureS_1 a0 bigN (0 : Int) (List.replicate n1 (⟨(0 : Int), (0 : Int), (0 : Int)⟩ : XClosure))
/- spec_HitsClosure -/
def f_spec_HitsClosure_1 (a1 : List XClosure) (a0 : XPassage) : Nat → Int → Option Bool
 | 0, _ => none
 | n + 1, v1 =>
  if (decide (v1 < (a1.length : Int))) then (
   (ix a1 v1).bind fun x3 =>
   if (x3.Segment == a0.Segment) then (
    if (decide ((if a0.Start < x3.From then x3.From else a0.Start) < (if x3.To < a0.End then x3.To else a0.End))) then (
     some true)
    else (
     f_spec_HitsClosure_1 a1 a0 n (IntKind.i64.wrap (v1 + (1 : Int)))))
   else (
    f_spec_HitsClosure_1 a1 a0 n (IntKind.i64.wrap (v1 + (1 : Int)))))
  else (
   some false)
def f_spec_HitsClosure (a0 : XPassage) (a1 : List XClosure) : Option Bool :=
 f_spec_HitsClosure_1 a1 a0 bigN (0 : Int)
/- slices_IndexFunc_Closure -/
def f_slices_IndexFunc_Closure_1 (a1 : XClosure → Option Bool) (a0 : List XClosure) : Nat → Int → Option Int
 | 0, _ => none
 | n + 1, v1 =>
  if (decide (v1 < (a0.length : Int))) then (
   (ix a0 v1).bind fun x3 =>
   (a1 x3).bind fun r4 =>
   if r4 then (
    some v1)
   else (
    f_slices_IndexFunc_Closure_1 a1 a0 n (IntKind.i64.wrap (v1 + (1 : Int)))))
  else (
   some (-1 : Int))
def f_slices_IndexFunc_Closure (a0 : List XClosure) (a1 : XClosure → Option Bool) : Option Int :=
 f_slices_IndexFunc_Closure_1 a1 a0 bigN (0 : Int)
/- slices_ContainsFunc_Closure -/
def f_slices_ContainsFunc_Closure (a0 : List XClosure) (a1 : XClosure → Option Bool) : Option Bool :=
 (f_slices_IndexFunc_Closure a0 a1).bind fun r1 =>
 some (decide ((0 : Int) ≤ r1))
/- impl_HitsClosure_1 -/
def f_impl_HitsClosure_1 (a0 : XClosure) (c0 : XPassage) : Option Bool :=
 if (a0.Segment == c0.Segment) then (
  some (decide ((if a0.From < c0.Start then c0.Start else a0.From) < (if c0.End < a0.To then c0.End else a0.To))))
 else (
  some false)
/- impl_HitsClosure -/
def f_impl_HitsClosure (a0 : XPassage) (a1 : List XClosure) : Option Bool :=
 (f_slices_ContainsFunc_Closure a1 (fun z0 => f_impl_HitsClosure_1 z0 a0)).bind fun r1 =>
 some r1
/- laws_eqClosure -/
def f_laws_eqClosure (a0 : XClosure) (a1 : XClosure) : Option Bool :=
 if (a0.Segment != a1.Segment) then (
  some false)
 else (
  if (a0.From != a1.From) then (
   some false)
  else (
   if (a0.To != a1.To) then (
    some false)
   else (
    some true)))
/- laws_eqClosureS -/
def f_laws_eqClosureS_1 (a0 : List XClosure) (a1 : List XClosure) : Nat → Int → Option Bool
 | 0, _ => none
 | n + 1, v2 =>
  if (decide (v2 < (a0.length : Int))) then (
   (ix a0 v2).bind fun x4 =>
   (ix a1 v2).bind fun x5 =>
   (f_laws_eqClosure x4 x5).bind fun r6 =>
   if r6 then (
    f_laws_eqClosureS_1 a0 a1 n (IntKind.i64.wrap (v2 + (1 : Int))))
   else (
    some false))
  else (
   some true)
def f_laws_eqClosureS (a0 : List XClosure) (a1 : List XClosure) : Option Bool :=
 if ((a0.length : Int) != (a1.length : Int)) then (
  some false)
 else (
  f_laws_eqClosureS_1 a0 a1 bigN (0 : Int))
/- laws_FnExactHitsClosure -/
def f_laws_FnExactHitsClosure (a0 : XPassage) (a1 : List XClosure) : Option Bool :=
 (f_laws_szClosureS a1 (1048576 : Int)).bind fun r1 =>
 if (decide (r1 < (0 : Int))) then (
  some true)
 else (
  (f_laws_toPassage a0).bind fun r3 =>
  (f_laws_toClosureS a1).bind fun r4 =>
  (f_spec_HitsClosure r3 r4).bind fun r5 =>
  (f_laws_toClosureS a1).bind fun r6 =>
  (f_laws_toPassage a0).bind fun r7 =>
  (f_impl_HitsClosure r7 r6).bind fun r8 =>
  if (r8 == r5) then (
   (f_laws_toClosureS a1).bind fun r10 =>
   (f_laws_eqClosureS r6 r10).bind fun r11 =>
   if r11 then (
    some true)
   else (
    some false))
  else (
   some false))
/- laws_szBoolS -/
def f_laws_szBoolS (a0 : List Bool) (a1 : Int) : Option Int :=
 if (decide ((IntKind.i64.wrap (a1 - (a0.length : Int))) < (0 : Int))) then (
  some (-1 : Int))
 else (
  some (IntKind.i64.wrap (a1 - (a0.length : Int))))
/- laws_szDesk -/
def f_laws_szDesk (a0 : XDesk) (a1 : Int) : Option Int :=
 (f_laws_szIntS a0.Starts a1).bind fun r1 =>
 if (decide (r1 < (0 : Int))) then (
  some (-1 : Int))
 else (
  (f_laws_szBoolS a0.Cleared r1).bind fun r3 =>
  if (decide (r3 < (0 : Int))) then (
   some (-1 : Int))
  else (
   some r3))
/- laws_toBoolS -/
def f_laws_toBoolS_1 (a0 : List Bool) : Nat → Int → (List Bool) → Option (List Bool)
 | 0, _, _ => none
 | n + 1, v2, v3 =>
  if (decide (v2 < (a0.length : Int))) then (
   (ix a0 v2).bind fun x5 =>
   (ix v3 v2).bind fun x6 =>
   f_laws_toBoolS_1 a0 n (IntKind.i64.wrap (v2 + (1 : Int))) (v3.set (Int.toNat v2) x5))
  else (
   some v3)
def f_laws_toBoolS (a0 : List Bool) : Option (List Bool) :=
 (mkS (a0.length : Int) (a0.length : Int) 1).bind fun n1 =>
 f_laws_toBoolS_1 a0 bigN (0 : Int) (List.replicate n1 false)
/- laws_toDesk -/
def f_laws_toDesk (a0 : XDesk) : Option XDesk :=
 (f_laws_toIntS a0.Starts).bind fun r1 =>
 (f_laws_toBoolS a0.Cleared).bind fun r2 =>
 some (⟨a0.Now, r1, r2⟩ : XDesk)
/- spec_DeskOk -/
def f_spec_DeskOk_1 (a0 : XDesk) : Nat → Int → Option Bool
 | 0, _ => none
 | n + 1, v5 =>
  if (decide (v5 < (a0.Starts.length : Int))) then (
   (ix a0.Starts v5).bind fun x7 =>
   (f_spec_l01In x7 (-1 : Int) (2880 : Int)).bind fun r8 =>
   if r8 then (
    (ix a0.Cleared v5).bind fun x10 =>
    if x10 then (
     if (decide (x7 < (0 : Int))) then (
      some false)
     else (
      f_spec_DeskOk_1 a0 n (IntKind.i64.wrap (v5 + (1 : Int)))))
    else (
     f_spec_DeskOk_1 a0 n (IntKind.i64.wrap (v5 + (1 : Int)))))
   else (
    some false))
  else (
   some true)
def f_spec_DeskOk (a0 : XDesk) : Option Bool :=
 (f_spec_l01In a0.Now (0 : Int) (2880 : Int)).bind fun r1 =>
 if r1 then (
  if (decide ((6 : Int) < (a0.Starts.length : Int))) then (
   some false)
  else (
   if ((a0.Cleared.length : Int) != (a0.Starts.length : Int)) then (
    some false)
   else (
    f_spec_DeskOk_1 a0 bigN (0 : Int))))
 else (
  some false)
/- impl_isMinute -/
def f_impl_isMinute (a0 : Int) : Option Bool :=
 (f_impl_within a0 (0 : Int) (2880 : Int)).bind fun r1 =>
 some r1
/- impl_DeskOk -/
def f_impl_DeskOk_1 (a0 : XDesk) : Nat → Int → Option Bool
 | 0, _ => none
 | n + 1, v5 =>
  if (decide (v5 < (a0.Starts.length : Int))) then (
   (ix a0.Starts v5).bind fun x7 =>
   (f_impl_within x7 (-1 : Int) (2880 : Int)).bind fun r8 =>
   if r8 then (
    (ix a0.Cleared v5).bind fun x10 =>
    if x10 then (
     if (decide (x7 < (0 : Int))) then (
      some false)
     else (
      f_impl_DeskOk_1 a0 n (IntKind.i64.wrap (v5 + (1 : Int)))))
    else (
     f_impl_DeskOk_1 a0 n (IntKind.i64.wrap (v5 + (1 : Int)))))
   else (
    some false))
  else (
   some true)
def f_impl_DeskOk (a0 : XDesk) : Option Bool :=
 (f_impl_isMinute a0.Now).bind fun r1 =>
 if r1 then (
  if (decide ((6 : Int) < (a0.Starts.length : Int))) then (
   some false)
  else (
   if ((a0.Cleared.length : Int) != (a0.Starts.length : Int)) then (
    some false)
   else (
    f_impl_DeskOk_1 a0 bigN (0 : Int))))
 else (
  some false)
/- laws_eqBoolS -/
def f_laws_eqBoolS_1 (a0 : List Bool) (a1 : List Bool) : Nat → Int → Option Bool
 | 0, _ => none
 | n + 1, v2 =>
  if (decide (v2 < (a0.length : Int))) then (
   (ix a0 v2).bind fun x4 =>
   (ix a1 v2).bind fun x5 =>
   if (x4 == x5) then (
    f_laws_eqBoolS_1 a0 a1 n (IntKind.i64.wrap (v2 + (1 : Int))))
   else (
    some false))
  else (
   some true)
def f_laws_eqBoolS (a0 : List Bool) (a1 : List Bool) : Option Bool :=
 if ((a0.length : Int) != (a1.length : Int)) then (
  some false)
 else (
  f_laws_eqBoolS_1 a0 a1 bigN (0 : Int))
/- laws_eqDesk -/
def f_laws_eqDesk (a0 : XDesk) (a1 : XDesk) : Option Bool :=
 if (a0.Now != a1.Now) then (
  some false)
 else (
  (f_laws_eqIntS a0.Starts a1.Starts).bind fun r2 =>
  if r2 then (
   (f_laws_eqBoolS a0.Cleared a1.Cleared).bind fun r4 =>
   if r4 then (
    some true)
   else (
    some false))
  else (
   some false))
/- laws_FnExactDeskOk -/
def f_laws_FnExactDeskOk (a0 : XDesk) : Option Bool :=
 (f_laws_szDesk a0 (1048576 : Int)).bind fun r1 =>
 if (decide (r1 < (0 : Int))) then (
  some true)
 else (
  (f_laws_toDesk a0).bind fun r3 =>
  (f_spec_DeskOk r3).bind fun r4 =>
  (f_laws_toDesk a0).bind fun r5 =>
  (f_impl_DeskOk r5).bind fun r6 =>
  if (r6 == r4) then (
   (f_laws_toDesk a0).bind fun r8 =>
   (f_laws_eqDesk r5 r8).bind fun r9 =>
   if r9 then (
    some true)
   else (
    some false))
  else (
   some false))
/- spec_DeskNew -/
def f_spec_DeskNew_1 (a0 : Int) : Nat → Int → (List Int) → (List Bool) → Option XDesk
 | 0, _, _, _ => none
 | n + 1, v3, v4, v5 =>
  if (decide (v3 < a0)) then (
   if appB v4.length ([(-1 : Int)] : List Int).length 8 then (
    if appB v5.length ([false] : List Bool).length 1 then (
     f_spec_DeskNew_1 a0 n (IntKind.i64.wrap (v3 + (1 : Int))) (v4 ++ ([(-1 : Int)] : List Int)) (v5 ++ ([false] : List Bool)))
    else none)
   else none)
  else (
   some (⟨(0 : Int), v4, v5⟩ : XDesk))
def f_spec_DeskNew (a0 : Int) : Option XDesk :=
 (f_spec_l01In a0 (0 : Int) (6 : Int)).bind fun r1 =>
 if r1 then (
  f_spec_DeskNew_1 a0 bigN (0 : Int) ([] : List Int) ([] : List Bool))
 else (
  some (⟨(0 : Int), ([] : List Int), ([] : List Bool)⟩ : XDesk))
/- impl_DeskNew -/
def f_impl_DeskNew_1 (a0 : Int) : Nat → Int → (List Int) → (List Bool) → Option XDesk
 | 0, _, _, _ => none
 | n + 1, v3, v4, v5 =>
  if (decide (v3 < a0)) then (
   if appB v4.length ([(-1 : Int)] : List Int).length 8 then (
    if appB v5.length ([false] : List Bool).length 1 then (
     f_impl_DeskNew_1 a0 n (IntKind.i64.wrap (v3 + (1 : Int))) (v4 ++ ([(-1 : Int)] : List Int)) (v5 ++ ([false] : List Bool)))
    else none)
   else none)
  else (
   some (⟨(0 : Int), v4, v5⟩ : XDesk))
def f_impl_DeskNew (a0 : Int) : Option XDesk :=
 (f_impl_within a0 (0 : Int) (6 : Int)).bind fun r1 =>
 if r1 then (
  f_impl_DeskNew_1 a0 bigN (0 : Int) ([] : List Int) ([] : List Bool))
 else (
  some (⟨(0 : Int), ([] : List Int), ([] : List Bool)⟩ : XDesk))
/- laws_markIntS -/
def f_laws_markIntS_1 : Nat → Int → Int → (List Int) → Option (Int × List Int)
 | 0, _, _, _ => none
 | n + 1, v1, v2, v3 =>
  if (decide (v2 < (v3.length : Int))) then (
   (ix v3 v2).bind fun x5 =>
   f_laws_markIntS_1 n (IntKind.i64.wrap (v1 + (1 : Int))) (IntKind.i64.wrap (v2 + (1 : Int))) (v3.set (Int.toNat v2) v1))
  else (
   some (v1, v3))
def f_laws_markIntS (a0 : List Int) (a1 : Int) : Option (Int × List Int) :=
 f_laws_markIntS_1 bigN a1 (0 : Int) a0
/- laws_markBoolS -/
def f_laws_markBoolS_1 : Nat → Int → Int → (List Bool) → Option (Int × List Bool)
 | 0, _, _, _ => none
 | n + 1, v1, v2, v3 =>
  if (decide (v2 < (v3.length : Int))) then (
   (ix v3 v2).bind fun x5 =>
   f_laws_markBoolS_1 n (IntKind.i64.wrap (v1 + (1 : Int))) (IntKind.i64.wrap (v2 + (1 : Int))) (v3.set (Int.toNat v2) ((IntKind.i64.wrap (Int.tmod v1 (3 : Int))) == (0 : Int))))
  else (
   some (v1, v3))
def f_laws_markBoolS (a0 : List Bool) (a1 : Int) : Option (Int × List Bool) :=
 f_laws_markBoolS_1 bigN a1 (0 : Int) a0
/- laws_markDesk -/
def f_laws_markDesk (a0 : XDesk) (a1 : Int) : Option (Int × List Int × List Bool) :=
 (f_laws_markIntS a0.Starts a1).bind fun r1 =>
 (f_laws_markBoolS a0.Cleared r1.1).bind fun r2 =>
 some (r2.1, r1.2, r2.2)
/- laws_heldIntS -/
def f_laws_heldIntS_1 (a0 : List Int) : Nat → Int → Int → Option Int
 | 0, _, _ => none
 | n + 1, v1, v2 =>
  if (decide (v2 < (a0.length : Int))) then (
   (ix a0 v2).bind fun x4 =>
   if (x4 != v1) then (
    some (-1 : Int))
   else (
    f_laws_heldIntS_1 a0 n (IntKind.i64.wrap (v1 + (1 : Int))) (IntKind.i64.wrap (v2 + (1 : Int)))))
  else (
   some v1)
def f_laws_heldIntS (a0 : List Int) (a1 : Int) : Option Int :=
 f_laws_heldIntS_1 a0 bigN a1 (0 : Int)
/- laws_heldBoolS -/
def f_laws_heldBoolS_1 (a0 : List Bool) : Nat → Int → Int → Option Int
 | 0, _, _ => none
 | n + 1, v1, v2 =>
  if (decide (v2 < (a0.length : Int))) then (
   (ix a0 v2).bind fun x4 =>
   if (x4 == ((IntKind.i64.wrap (Int.tmod v1 (3 : Int))) == (0 : Int))) then (
    f_laws_heldBoolS_1 a0 n (IntKind.i64.wrap (v1 + (1 : Int))) (IntKind.i64.wrap (v2 + (1 : Int))))
   else (
    some (-1 : Int)))
  else (
   some v1)
def f_laws_heldBoolS (a0 : List Bool) (a1 : Int) : Option Int :=
 f_laws_heldBoolS_1 a0 bigN a1 (0 : Int)
/- laws_heldDesk -/
def f_laws_heldDesk (a0 : XDesk) (a1 : Int) : Option Int :=
 (f_laws_heldIntS a0.Starts a1).bind fun r1 =>
 if (decide (r1 < (0 : Int))) then (
  some (-1 : Int))
 else (
  (f_laws_heldBoolS a0.Cleared r1).bind fun r3 =>
  if (decide (r3 < (0 : Int))) then (
   some (-1 : Int))
  else (
   some r3))
/- laws_FnExactDeskNew -/
def f_laws_FnExactDeskNew (a0 : Int) : Option Bool :=
 (f_spec_DeskNew a0).bind fun r1 =>
 (f_impl_DeskNew a0).bind fun r2 =>
 (f_laws_eqDesk r2 r1).bind fun r3 =>
 if r3 then (
  (f_laws_markDesk r2 (1 : Int)).bind fun r5 =>
  (f_laws_heldDesk (⟨r2.Now, r5.2.1, r5.2.2⟩ : XDesk) (1 : Int)).bind fun r6 =>
  if (decide (r6 < (0 : Int))) then (
   some false)
  else (
   if (r6 != r5.1) then (
    some false)
   else (
    (f_impl_DeskNew a0).bind fun r9 =>
    (f_laws_eqDesk r9 r1).bind fun r10 =>
    if r10 then (
     (f_laws_heldDesk (⟨r2.Now, r5.2.1, r5.2.2⟩ : XDesk) (1 : Int)).bind fun r12 =>
     if (decide (r12 < (0 : Int))) then (
      some false)
     else (
      if (r12 != r5.1) then (
       some false)
      else (
       some true)))
    else (
     some false))))
 else (
  some false)
/- spec_SameDesks -/
def f_spec_SameDesks_2 (a0 : XDesk) (a1 : XDesk) : Nat → Int → Option Bool
 | 0, _ => none
 | n + 1, v9 =>
  if (decide (v9 < (a0.Cleared.length : Int))) then (
   (ix a0.Cleared v9).bind fun x11 =>
   (ix a1.Cleared v9).bind fun x12 =>
   if (x11 == x12) then (
    f_spec_SameDesks_2 a0 a1 n (IntKind.i64.wrap (v9 + (1 : Int))))
   else (
    some false))
  else (
   some true)
def f_spec_SameDesks_1 (a0 : XDesk) (a1 : XDesk) : Nat → Int → Option Bool
 | 0, _ => none
 | n + 1, v4 =>
  if (decide (v4 < (a0.Starts.length : Int))) then (
   (ix a0.Starts v4).bind fun x6 =>
   (ix a1.Starts v4).bind fun x7 =>
   if (x6 != x7) then (
    some false)
   else (
    f_spec_SameDesks_1 a0 a1 n (IntKind.i64.wrap (v4 + (1 : Int)))))
  else (
   f_spec_SameDesks_2 a0 a1 bigN (0 : Int))
def f_spec_SameDesks (a0 : XDesk) (a1 : XDesk) : Option Bool :=
 if (a0.Now != a1.Now) then (
  some false)
 else (
  if ((a0.Starts.length : Int) != (a1.Starts.length : Int)) then (
   some false)
  else (
   if ((a0.Cleared.length : Int) != (a1.Cleared.length : Int)) then (
    some false)
   else (
    f_spec_SameDesks_1 a0 a1 bigN (0 : Int))))
/- slices_Equal_int -/
def f_slices_Equal_int_1 (a0 : List Int) (a1 : List Int) : Nat → Int → Option Bool
 | 0, _ => none
 | n + 1, v2 =>
  if (decide (v2 < (a0.length : Int))) then (
   (ix a0 v2).bind fun x4 =>
   (ix a1 v2).bind fun x5 =>
   if (x4 != x5) then (
    some false)
   else (
    f_slices_Equal_int_1 a0 a1 n (IntKind.i64.wrap (v2 + (1 : Int)))))
  else (
   some true)
def f_slices_Equal_int (a0 : List Int) (a1 : List Int) : Option Bool :=
 if ((a0.length : Int) != (a1.length : Int)) then (
  some false)
 else (
  f_slices_Equal_int_1 a0 a1 bigN (0 : Int))
/- slices_Equal_bool -/
def f_slices_Equal_bool_1 (a0 : List Bool) (a1 : List Bool) : Nat → Int → Option Bool
 | 0, _ => none
 | n + 1, v2 =>
  if (decide (v2 < (a0.length : Int))) then (
   (ix a0 v2).bind fun x4 =>
   (ix a1 v2).bind fun x5 =>
   if (x4 == x5) then (
    f_slices_Equal_bool_1 a0 a1 n (IntKind.i64.wrap (v2 + (1 : Int))))
   else (
    some false))
  else (
   some true)
def f_slices_Equal_bool (a0 : List Bool) (a1 : List Bool) : Option Bool :=
 if ((a0.length : Int) != (a1.length : Int)) then (
  some false)
 else (
  f_slices_Equal_bool_1 a0 a1 bigN (0 : Int))
/- impl_SameDesks -/
def f_impl_SameDesks (a0 : XDesk) (a1 : XDesk) : Option Bool :=
 if (a0.Now == a1.Now) then (
  (f_slices_Equal_int a0.Starts a1.Starts).bind fun r2 =>
  if r2 then (
   (f_slices_Equal_bool a0.Cleared a1.Cleared).bind fun r4 =>
   some r4)
  else (
   some false))
 else (
  some false)
/- laws_FnExactSameDesks -/
def f_laws_FnExactSameDesks (a0 : XDesk) (a1 : XDesk) : Option Bool :=
 (f_laws_szDesk a0 (1048576 : Int)).bind fun r1 =>
 if (decide (r1 < (0 : Int))) then (
  some true)
 else (
  (f_laws_szDesk a1 r1).bind fun r3 =>
  if (decide (r3 < (0 : Int))) then (
   some true)
  else (
   (f_laws_toDesk a0).bind fun r5 =>
   (f_laws_toDesk a1).bind fun r6 =>
   (f_spec_SameDesks r5 r6).bind fun r7 =>
   (f_laws_toDesk a0).bind fun r8 =>
   (f_laws_toDesk a1).bind fun r9 =>
   (f_impl_SameDesks r8 r9).bind fun r10 =>
   if (r10 == r7) then (
    (f_laws_toDesk a0).bind fun r12 =>
    (f_laws_eqDesk r8 r12).bind fun r13 =>
    if r13 then (
     (f_laws_toDesk a1).bind fun r15 =>
     (f_laws_eqDesk r9 r15).bind fun r16 =>
     if r16 then (
      some true)
     else (
      some false))
    else (
     some false))
   else (
    some false)))
/- spec_WorstLine -/
def f_spec_WorstLine_2 (v3 : Int) (v4 : Int) (a0 : XAccount) (k_spec_WorstLine_1 : Int → Int → Option Int) (v14 : Bool) : Option Int :=
 if v14 then (
  k_spec_WorstLine_1 v4 (IntKind.i64.wrap (v4 + (1 : Int))))
 else (
  k_spec_WorstLine_1 v3 (IntKind.i64.wrap (v4 + (1 : Int))))
def f_spec_WorstLine_1 (a0 : XAccount) : Nat → Int → Int → Option Int
 | 0, _, _ => none
 | n + 1, v3, v4 =>
  if (decide (v4 < (a0.Calls.length : Int))) then (
   (ix a0.Calls v4).bind fun x6 =>
   if (decide ((0 : Int) < x6)) then (
    if (decide (v3 < (0 : Int))) then (
     f_spec_WorstLine_2 v3 v4 a0 (f_spec_WorstLine_1 a0 n) true)
    else (
     (ix a0.Waits v4).bind fun x9 =>
     if x6 == 0 then none else
     (ix a0.Waits v3).bind fun x11 =>
     (ix a0.Calls v3).bind fun x12 =>
     if x12 == 0 then none else
     f_spec_WorstLine_2 v3 v4 a0 (f_spec_WorstLine_1 a0 n) (decide ((IntKind.i64.wrap (Int.tdiv x11 x12)) < (IntKind.i64.wrap (Int.tdiv x9 x6))))))
   else (
    f_spec_WorstLine_2 v3 v4 a0 (f_spec_WorstLine_1 a0 n) false))
  else (
   some v3)
def f_spec_WorstLine (a0 : XAccount) : Option Int :=
 (f_spec_AccountOk a0).bind fun r1 =>
 if r1 then (
  f_spec_WorstLine_1 a0 bigN (-1 : Int) (0 : Int))
 else (
  some (-1 : Int))
/- impl_means -/
def f_impl_means_1 (a0 : XAccount) : Nat → Int → (List Int) → (List Int) → Option ((List Int) × (List Int))
 | 0, _, _, _ => none
 | n + 1, v3, v4, v5 =>
  if (decide (v3 < (4 : Int))) then (
   (ix a0.Calls v3).bind fun x7 =>
   if (decide ((0 : Int) < x7)) then (
    (ix a0.Waits v3).bind fun x9 =>
    if x7 == 0 then none else
    if appB v4.length ([(IntKind.i64.wrap (Int.tdiv x9 x7))] : List Int).length 8 then (
     if appB v5.length ([v3] : List Int).length 8 then (
      f_impl_means_1 a0 n (IntKind.i64.wrap (v3 + (1 : Int))) (v4 ++ ([(IntKind.i64.wrap (Int.tdiv x9 x7))] : List Int)) (v5 ++ ([v3] : List Int)))
     else none)
    else none)
   else (
    f_impl_means_1 a0 n (IntKind.i64.wrap (v3 + (1 : Int))) v4 v5))
  else (
   some (v4, v5))
def f_impl_means (a0 : XAccount) : Option ((List Int) × (List Int)) :=
 (f_impl_AccountOk a0).bind fun r1 =>
 if r1 then (
  f_impl_means_1 a0 bigN (0 : Int) ([] : List Int) ([] : List Int))
 else (
  some (([] : List Int), ([] : List Int)))
/- impl_WorstLine -/
def f_impl_WorstLine_1 (r1 : (List Int) × (List Int)) : Nat → Int → Int → Int → Option Int
 | 0, _, _, _ => none
 | n + 1, v2, v3, v4 =>
  if (decide (v4 < (r1.1.length : Int))) then (
   (ix r1.1 v4).bind fun x6 =>
   if (decide (v3 < x6)) then (
    (ix r1.2 v4).bind fun x8 =>
    f_impl_WorstLine_1 r1 n x8 x6 (IntKind.i64.wrap (v4 + (1 : Int))))
   else (
    f_impl_WorstLine_1 r1 n v2 v3 (IntKind.i64.wrap (v4 + (1 : Int)))))
  else (
   some v2)
def f_impl_WorstLine (a0 : XAccount) : Option Int :=
 (f_impl_means a0).bind fun r1 =>
 f_impl_WorstLine_1 r1 bigN (-1 : Int) (-1 : Int) (0 : Int)
/- laws_FnExactWorstLine -/
def f_laws_FnExactWorstLine (a0 : XAccount) : Option Bool :=
 (f_laws_szAccount a0 (1048576 : Int)).bind fun r1 =>
 if (decide (r1 < (0 : Int))) then (
  some true)
 else (
  (f_laws_toAccount a0).bind fun r3 =>
  (f_spec_WorstLine r3).bind fun r4 =>
  (f_laws_toAccount a0).bind fun r5 =>
  (f_impl_WorstLine r5).bind fun r6 =>
  if (r6 != r4) then (
   some false)
  else (
   (f_laws_toAccount a0).bind fun r8 =>
   (f_laws_eqAccount r5 r8).bind fun r9 =>
   if r9 then (
    some true)
   else (
    some false)))
/- spec_SpreadOf -/
def f_spec_SpreadOf_1 (a0 : XAccount) (y6 : Int) : Nat → Int → Int → Option Int
 | 0, _, _ => none
 | n + 1, v7, v8 =>
  if (decide (v8 < (a0.Calls.length : Int))) then (
   (ix a0.Calls v8).bind fun x10 =>
   if (decide ((0 : Int) < x10)) then (
    (ix a0.Waits v8).bind fun x12 =>
    if x10 == 0 then none else
    f_spec_SpreadOf_1 a0 y6 n (if (IntKind.i64.wrap (Int.tdiv x12 x10)) < v7 then (IntKind.i64.wrap (Int.tdiv x12 x10)) else v7) (IntKind.i64.wrap (v8 + (1 : Int))))
   else (
    f_spec_SpreadOf_1 a0 y6 n v7 (IntKind.i64.wrap (v8 + (1 : Int)))))
  else (
   some (IntKind.i64.wrap (y6 - v7)))
def f_spec_SpreadOf (a0 : XAccount) : Option Int :=
 (f_spec_WorstLine a0).bind fun r1 =>
 if (decide (r1 < (0 : Int))) then (
  some (0 : Int))
 else (
  (ix a0.Waits r1).bind fun x3 =>
  (ix a0.Calls r1).bind fun x4 =>
  if x4 == 0 then none else
  f_spec_SpreadOf_1 a0 (IntKind.i64.wrap (Int.tdiv x3 x4)) bigN (IntKind.i64.wrap (Int.tdiv x3 x4)) (0 : Int))
/- impl_SpreadOf -/
def f_impl_SpreadOf_1 (r1 : (List Int) × (List Int)) : Nat → Int → Int → Int → Option Int
 | 0, _, _, _ => none
 | n + 1, v4, v5, v6 =>
  if (decide (v6 < (r1.1.length : Int))) then (
   (ix r1.1 v6).bind fun x8 =>
   f_impl_SpreadOf_1 r1 n (if x8 < v4 then x8 else v4) (if v5 < x8 then x8 else v5) (IntKind.i64.wrap (v6 + (1 : Int))))
  else (
   some (IntKind.i64.wrap (v5 - v4)))
def f_impl_SpreadOf (a0 : XAccount) : Option Int :=
 (f_impl_means a0).bind fun r1 =>
 if ((r1.1.length : Int) == (0 : Int)) then (
  some (0 : Int))
 else (
  (ix r1.1 (0 : Int)).bind fun x3 =>
  f_impl_SpreadOf_1 r1 bigN x3 x3 (0 : Int))
/- laws_FnExactSpreadOf -/
def f_laws_FnExactSpreadOf (a0 : XAccount) : Option Bool :=
 (f_laws_szAccount a0 (1048576 : Int)).bind fun r1 =>
 if (decide (r1 < (0 : Int))) then (
  some true)
 else (
  (f_laws_toAccount a0).bind fun r3 =>
  (f_spec_SpreadOf r3).bind fun r4 =>
  (f_laws_toAccount a0).bind fun r5 =>
  (f_impl_SpreadOf r5).bind fun r6 =>
  if (r6 != r4) then (
   some false)
  else (
   (f_laws_toAccount a0).bind fun r8 =>
   (f_laws_eqAccount r5 r8).bind fun r9 =>
   if r9 then (
    some true)
   else (
    some false)))
/- spec_AddAccounts -/
def f_spec_AddAccounts_2 (a0 : XAccount) (a1 : XAccount) : Nat → Int → (List Int) → (List Int) → Option (XAccount × Bool)
 | 0, _, _, _ => none
 | n + 1, v6, v7, v8 =>
  if (decide (v6 < (a0.Waits.length : Int))) then (
   (ix a0.Waits v6).bind fun x10 =>
   (ix a1.Waits v6).bind fun x11 =>
   if appB v7.length ([(IntKind.i64.wrap (x10 + x11))] : List Int).length 8 then (
    (ix a0.Calls v6).bind fun x13 =>
    (ix a1.Calls v6).bind fun x14 =>
    if appB v8.length ([(IntKind.i64.wrap (x13 + x14))] : List Int).length 8 then (
     f_spec_AddAccounts_2 a0 a1 n (IntKind.i64.wrap (v6 + (1 : Int))) (v7 ++ ([(IntKind.i64.wrap (x10 + x11))] : List Int)) (v8 ++ ([(IntKind.i64.wrap (x13 + x14))] : List Int)))
    else none)
   else none)
  else (
   (f_spec_AccountOk (⟨v7, v8⟩ : XAccount)).bind fun r16 =>
   if r16 then (
    some ((⟨v7, v8⟩ : XAccount), true))
   else (
    some ((⟨([] : List Int), ([] : List Int)⟩ : XAccount), false)))
def f_spec_AddAccounts_1 (a0 : XAccount) (a1 : XAccount) (v4 : Bool) : Option (XAccount × Bool) :=
 if v4 then (
  some ((⟨([] : List Int), ([] : List Int)⟩ : XAccount), false))
 else (
  f_spec_AddAccounts_2 a0 a1 bigN (0 : Int) ([] : List Int) ([] : List Int))
def f_spec_AddAccounts (a0 : XAccount) (a1 : XAccount) : Option (XAccount × Bool) :=
 (f_spec_AccountOk a0).bind fun r1 =>
 if r1 then (
  (f_spec_AccountOk a1).bind fun r3 =>
  f_spec_AddAccounts_1 a0 a1 (!r3))
 else (
  f_spec_AddAccounts_1 a0 a1 true)
/- impl_clone_int -/
def f_impl_clone_int (a0 : List Int) : Option (List Int) :=
 (mkS (0 : Int) (a0.length : Int) 8).bind fun n1 =>
 if appB (List.replicate n1 (0 : Int)).length a0.length 8 then (
  some ((List.replicate n1 (0 : Int)) ++ a0))
 else none
/- impl_AddAccounts -/
def f_impl_AddAccounts_2 (a1 : XAccount) : Nat → Int → (List Int) → (List Int) → Option (XAccount × Bool)
 | 0, _, _, _ => none
 | n + 1, v8, v9, v10 =>
  if (decide (v8 < (4 : Int))) then (
   (ix v9 v8).bind fun x12 =>
   (ix a1.Waits v8).bind fun x13 =>
   (ix v10 v8).bind fun x14 =>
   (ix a1.Calls v8).bind fun x15 =>
   f_impl_AddAccounts_2 a1 n (IntKind.i64.wrap (v8 + (1 : Int))) (v9.set (Int.toNat v8) (IntKind.i64.wrap (x12 + x13))) (v10.set (Int.toNat v8) (IntKind.i64.wrap (x14 + x15))))
  else (
   (f_impl_AccountOk (⟨v9, v10⟩ : XAccount)).bind fun r16 =>
   if r16 then (
    some ((⟨v9, v10⟩ : XAccount), true))
   else (
    some ((⟨([] : List Int), ([] : List Int)⟩ : XAccount), false)))
def f_impl_AddAccounts_1 (a0 : XAccount) (a1 : XAccount) (v4 : Bool) : Option (XAccount × Bool) :=
 if v4 then (
  some ((⟨([] : List Int), ([] : List Int)⟩ : XAccount), false))
 else (
  (f_impl_clone_int a0.Waits).bind fun r6 =>
  (f_impl_clone_int a0.Calls).bind fun r7 =>
  f_impl_AddAccounts_2 a1 bigN (0 : Int) r6 r7)
def f_impl_AddAccounts (a0 : XAccount) (a1 : XAccount) : Option (XAccount × Bool) :=
 (f_impl_AccountOk a0).bind fun r1 =>
 if r1 then (
  (f_impl_AccountOk a1).bind fun r3 =>
  f_impl_AddAccounts_1 a0 a1 (!r3))
 else (
  f_impl_AddAccounts_1 a0 a1 true)
/- laws_markAccount -/
def f_laws_markAccount (a0 : XAccount) (a1 : Int) : Option (Int × List Int × List Int) :=
 (f_laws_markIntS a0.Waits a1).bind fun r1 =>
 (f_laws_markIntS a0.Calls r1.1).bind fun r2 =>
 some (r2.1, r1.2, r2.2)
/- laws_heldAccount -/
def f_laws_heldAccount (a0 : XAccount) (a1 : Int) : Option Int :=
 (f_laws_heldIntS a0.Waits a1).bind fun r1 =>
 if (decide (r1 < (0 : Int))) then (
  some (-1 : Int))
 else (
  (f_laws_heldIntS a0.Calls r1).bind fun r3 =>
  if (decide (r3 < (0 : Int))) then (
   some (-1 : Int))
  else (
   some r3))
/- laws_FnExactAddAccounts -/
def f_laws_FnExactAddAccounts (a0 : XAccount) (a1 : XAccount) : Option Bool :=
 (f_laws_szAccount a0 (1048576 : Int)).bind fun r1 =>
 if (decide (r1 < (0 : Int))) then (
  some true)
 else (
  (f_laws_szAccount a1 r1).bind fun r3 =>
  if (decide (r3 < (0 : Int))) then (
   some true)
  else (
   (f_laws_toAccount a0).bind fun r5 =>
   (f_laws_toAccount a1).bind fun r6 =>
   (f_spec_AddAccounts r5 r6).bind fun r7 =>
   (f_laws_toAccount a0).bind fun r8 =>
   (f_laws_toAccount a1).bind fun r9 =>
   (f_impl_AddAccounts r8 r9).bind fun r10 =>
   (f_laws_eqAccount (⟨r10.1.Waits, r10.1.Calls⟩ : XAccount) (⟨r7.1.Waits, r7.1.Calls⟩ : XAccount)).bind fun r11 =>
   if r11 then (
    if (r10.2 == r7.2) then (
     (f_laws_toAccount a0).bind fun r14 =>
     (f_laws_eqAccount r8 r14).bind fun r15 =>
     if r15 then (
      (f_laws_toAccount a1).bind fun r17 =>
      (f_laws_eqAccount r9 r17).bind fun r18 =>
      if r18 then (
       (f_laws_markAccount r8 (1 : Int)).bind fun r20 =>
       (f_laws_markAccount r9 r20.1).bind fun r21 =>
       if (decide (r21.1 < (0 : Int))) then (
        some false)
       else (
        (f_laws_eqAccount (⟨r10.1.Waits, r10.1.Calls⟩ : XAccount) (⟨r7.1.Waits, r7.1.Calls⟩ : XAccount)).bind fun r23 =>
        if r23 then (
         (f_laws_markAccount (⟨r10.1.Waits, r10.1.Calls⟩ : XAccount) (1 : Int)).bind fun r25 =>
         (f_laws_heldAccount (⟨r25.2.1, r25.2.2⟩ : XAccount) (1 : Int)).bind fun r26 =>
         if (decide (r26 < (0 : Int))) then (
          some false)
         else (
          if (r26 != r25.1) then (
           some false)
          else (
           (f_laws_toAccount a0).bind fun r29 =>
           (f_laws_toAccount a1).bind fun r30 =>
           (f_impl_AddAccounts r29 r30).bind fun r31 =>
           (f_laws_eqAccount (⟨r31.1.Waits, r31.1.Calls⟩ : XAccount) (⟨r7.1.Waits, r7.1.Calls⟩ : XAccount)).bind fun r32 =>
           if r32 then (
            if (r31.2 == r7.2) then (
             (f_laws_heldAccount (⟨r25.2.1, r25.2.2⟩ : XAccount) (1 : Int)).bind fun r35 =>
             if (decide (r35 < (0 : Int))) then (
              some false)
             else (
              if (r35 != r25.1) then (
               some false)
              else (
               some true)))
            else (
             some false))
           else (
            some false))))
        else (
         some false)))
      else (
       some false))
     else (
      some false))
    else (
     some false))
   else (
    some false)))
/- laws_szPassageS -/
def f_laws_szPassageS (a0 : List XPassage) (a1 : Int) : Option Int :=
 if (decide ((IntKind.i64.wrap (a1 - (a0.length : Int))) < (0 : Int))) then (
  some (-1 : Int))
 else (
  some (IntKind.i64.wrap (a1 - (a0.length : Int))))
/- laws_szOption -/
def f_laws_szOption (a0 : XOption) (a1 : Int) : Option Int :=
 (f_laws_szPassageS a0.Passages a1).bind fun r1 =>
 if (decide (r1 < (0 : Int))) then (
  some (-1 : Int))
 else (
  some r1)
/- laws_toPassageS -/
def f_laws_toPassageS_1 (a0 : List XPassage) : Nat → Int → (List XPassage) → Option (List XPassage)
 | 0, _, _ => none
 | n + 1, v2, v3 =>
  if (decide (v2 < (a0.length : Int))) then (
   (ix a0 v2).bind fun x5 =>
   (f_laws_toPassage x5).bind fun r6 =>
   (ix v3 v2).bind fun x7 =>
   f_laws_toPassageS_1 a0 n (IntKind.i64.wrap (v2 + (1 : Int))) (v3.set (Int.toNat v2) r6))
  else (
   some v3)
def f_laws_toPassageS (a0 : List XPassage) : Option (List XPassage) :=
 (mkS (a0.length : Int) (a0.length : Int) 40).bind fun n1 =>
 f_laws_toPassageS_1 a0 bigN (0 : Int) (List.replicate n1 (⟨(0 : Int), (0 : Int), false, (0 : Int), (0 : Int)⟩ : XPassage))
/- laws_toOption -/
def f_laws_toOption (a0 : XOption) : Option XOption :=
 (f_laws_toPassageS a0.Passages).bind fun r1 =>
 some (⟨a0.Start, a0.Arrival, a0.Cost, r1⟩ : XOption)
/- spec_ShutOut -/
def f_spec_ShutOut_1 (a1 : List XClosure) (a0 : XOption) : Nat → Int → Option Bool
 | 0, _ => none
 | n + 1, v1 =>
  if (decide (v1 < (a0.Passages.length : Int))) then (
   (ix a0.Passages v1).bind fun x3 =>
   (f_spec_HitsClosure x3 a1).bind fun r4 =>
   if r4 then (
    some true)
   else (
    f_spec_ShutOut_1 a1 a0 n (IntKind.i64.wrap (v1 + (1 : Int)))))
  else (
   some false)
def f_spec_ShutOut (a0 : XOption) (a1 : List XClosure) : Option Bool :=
 f_spec_ShutOut_1 a1 a0 bigN (0 : Int)
/- slices_IndexFunc_Passage -/
def f_slices_IndexFunc_Passage_1 (a1 : XPassage → Option Bool) (a0 : List XPassage) : Nat → Int → Option Int
 | 0, _ => none
 | n + 1, v1 =>
  if (decide (v1 < (a0.length : Int))) then (
   (ix a0 v1).bind fun x3 =>
   (a1 x3).bind fun r4 =>
   if r4 then (
    some v1)
   else (
    f_slices_IndexFunc_Passage_1 a1 a0 n (IntKind.i64.wrap (v1 + (1 : Int)))))
  else (
   some (-1 : Int))
def f_slices_IndexFunc_Passage (a0 : List XPassage) (a1 : XPassage → Option Bool) : Option Int :=
 f_slices_IndexFunc_Passage_1 a1 a0 bigN (0 : Int)
/- slices_ContainsFunc_Passage -/
def f_slices_ContainsFunc_Passage (a0 : List XPassage) (a1 : XPassage → Option Bool) : Option Bool :=
 (f_slices_IndexFunc_Passage a0 a1).bind fun r1 =>
 some (decide ((0 : Int) ≤ r1))
/- impl_ShutOut_1 -/
def f_impl_ShutOut_1 (a0 : XPassage) (c0 : List XClosure) : Option Bool :=
 (f_impl_HitsClosure a0 c0).bind fun r1 =>
 some r1
/- impl_ShutOut -/
def f_impl_ShutOut (a0 : XOption) (a1 : List XClosure) : Option Bool :=
 (f_slices_ContainsFunc_Passage a0.Passages (fun z0 => f_impl_ShutOut_1 z0 a1)).bind fun r1 =>
 some r1
/- laws_eqPassage -/
def f_laws_eqPassage (a0 : XPassage) (a1 : XPassage) : Option Bool :=
 if (a0.Ship != a1.Ship) then (
  some false)
 else (
  if (a0.Segment != a1.Segment) then (
   some false)
  else (
   if (a0.Toward == a1.Toward) then (
    if (a0.Start != a1.Start) then (
     some false)
    else (
     if (a0.End != a1.End) then (
      some false)
     else (
      some true)))
   else (
    some false)))
/- laws_eqPassageS -/
def f_laws_eqPassageS_1 (a0 : List XPassage) (a1 : List XPassage) : Nat → Int → Option Bool
 | 0, _ => none
 | n + 1, v2 =>
  if (decide (v2 < (a0.length : Int))) then (
   (ix a0 v2).bind fun x4 =>
   (ix a1 v2).bind fun x5 =>
   (f_laws_eqPassage x4 x5).bind fun r6 =>
   if r6 then (
    f_laws_eqPassageS_1 a0 a1 n (IntKind.i64.wrap (v2 + (1 : Int))))
   else (
    some false))
  else (
   some true)
def f_laws_eqPassageS (a0 : List XPassage) (a1 : List XPassage) : Option Bool :=
 if ((a0.length : Int) != (a1.length : Int)) then (
  some false)
 else (
  f_laws_eqPassageS_1 a0 a1 bigN (0 : Int))
/- laws_eqOption -/
def f_laws_eqOption (a0 : XOption) (a1 : XOption) : Option Bool :=
 if (a0.Start != a1.Start) then (
  some false)
 else (
  if (a0.Arrival != a1.Arrival) then (
   some false)
  else (
   if (a0.Cost != a1.Cost) then (
    some false)
   else (
    (f_laws_eqPassageS a0.Passages a1.Passages).bind fun r4 =>
    if r4 then (
     some true)
    else (
     some false))))
/- laws_FnExactShutOut -/
def f_laws_FnExactShutOut (a0 : XOption) (a1 : List XClosure) : Option Bool :=
 (f_laws_szOption a0 (1048576 : Int)).bind fun r1 =>
 if (decide (r1 < (0 : Int))) then (
  some true)
 else (
  (f_laws_szClosureS a1 r1).bind fun r3 =>
  if (decide (r3 < (0 : Int))) then (
   some true)
  else (
   (f_laws_toOption a0).bind fun r5 =>
   (f_laws_toClosureS a1).bind fun r6 =>
   (f_spec_ShutOut r5 r6).bind fun r7 =>
   (f_laws_toOption a0).bind fun r8 =>
   (f_laws_toClosureS a1).bind fun r9 =>
   (f_impl_ShutOut r8 r9).bind fun r10 =>
   if (r10 == r7) then (
    (f_laws_toOption a0).bind fun r12 =>
    (f_laws_eqOption r8 r12).bind fun r13 =>
    if r13 then (
     (f_laws_toClosureS a1).bind fun r15 =>
     (f_laws_eqClosureS r9 r15).bind fun r16 =>
     if r16 then (
      some true)
     else (
      some false))
    else (
     some false))
   else (
    some false)))
end Go.Vi
