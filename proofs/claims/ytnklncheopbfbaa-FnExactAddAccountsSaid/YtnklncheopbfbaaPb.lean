/-
  Plain laws: SaferPicks, ShutOut, WorstLine, SpreadOf. No condition.
-/
import Derived.Test.YtnklncheopbfbaaPa
namespace Go.Vi
set_option linter.unusedSimpArgs false
set_option linter.unusedVariables false

/-! SaferPicks -/
def pickAt (a : List Int) (i : Nat) : Option Int := a[if a.length - 1 < i then a.length - 1 else i]?
theorem pick_ix {a : List Int} (h : 0 < a.length) (hm : a.length ≤ 48) (i : Nat) (hi : i < 48) : ∃ x, ix a (if (IntKind.i64.wrap ((a.length : Int) - (1 : Int))) < (i : Int) then (IntKind.i64.wrap ((a.length : Int) - (1 : Int))) else (i : Int)) = some x ∧ pickAt a i = some x := by
  have e : IntKind.i64.wrap ((a.length : Int) - 1) = ((a.length - 1 : Nat) : Int) := by
    rw [wrap64 (by omega) (by omega)]; omega
  rw [e]
  unfold pickAt
  by_cases hc : a.length - 1 < i
  · have hc' : ((a.length - 1 : Nat) : Int) < (i : Int) := by omega
    rw [if_pos hc', if_pos hc, ix_nn]
    exact ⟨a[a.length - 1], by rw [List.getElem?_eq_getElem (by omega)], by rw [List.getElem?_eq_getElem (by omega)]⟩
  · have hc' : ¬ ((a.length - 1 : Nat) : Int) < (i : Int) := by omega
    rw [if_neg hc', if_neg hc, ix_nn]
    exact ⟨a[i]'(by omega), by rw [List.getElem?_eq_getElem (by omega)], by rw [List.getElem?_eq_getElem (by omega)]⟩
def saferAt (a b : List Int) (i : Nat) : Bool := match pickAt a i, pickAt b i with
  | some x, some y => !decide (x < y)
  | _, _ => false
def safer (a b : List Int) : Bool := picksOk a && (picksOk b && (List.range 48).all (saferAt a b))
theorem picks_len {a : List Int} (h : picksOk a = true) : 0 < a.length ∧ a.length ≤ 48 := by
  simp only [picksOk, Bool.and_eq_true, decide_eq_true_eq] at h
  omega
theorem spec_SaferPicks_eq {a b : List Int} (h1 : a.length ≤ maxLen) (h2 : b.length ≤ maxLen) : f_spec_SaferPicks a b = some (safer a b) := by
  simp only [f_spec_SaferPicks, spec_PicksOk_eq h1, spec_PicksOk_eq h2, Option.bind_some, safer]
  cases ha : picksOk a with
  | false => simp
  | true =>
    cases hb : picksOk b with
    | false => simp
    | true =>
      obtain ⟨a1, a2⟩ := picks_len ha
      obtain ⟨b1, b2⟩ := picks_len hb
      have := all_loopI (L := f_spec_SaferPicks_1 a b) 48 (saferAt a b) (by rw [maxLen_val]; omega) (fun n i hi => by
        obtain ⟨x, e1, e2⟩ := pick_ix a1 a2 i hi
        obtain ⟨y, e3, e4⟩ := pick_ix b1 b2 i hi
        have hi' : (i : Int) < 48 := by omega
        simp only [f_spec_SaferPicks_1, e1, e3, Option.bind_some, saferAt, e2, e4, hi', decide_true, if_true]
        cases decide (x < y) <;> simp) (fun n => by simp [f_spec_SaferPicks_1])
      simp [this]
theorem impl_SaferPicks_eq {a b : List Int} (h1 : a.length ≤ maxLen) (h2 : b.length ≤ maxLen) : f_impl_SaferPicks a b = some (safer a b) := by
  simp only [f_impl_SaferPicks, impl_PicksOk_eq h1, impl_PicksOk_eq h2, Option.bind_some, safer]
  cases ha : picksOk a with
  | false => simp
  | true =>
    cases hb : picksOk b with
    | false => simp
    | true =>
      obtain ⟨a1, a2⟩ := picks_len ha
      obtain ⟨b1, b2⟩ := picks_len hb
      have := all_loopI (L := f_impl_SaferPicks_1 a b) 48 (saferAt a b) (by rw [maxLen_val]; omega) (fun n i hi => by
        obtain ⟨x, e1, e2⟩ := pick_ix a1 a2 i hi
        obtain ⟨y, e3, e4⟩ := pick_ix b1 b2 i hi
        have hi' : (i : Int) < 48 := by omega
        simp only [f_impl_SaferPicks_1, f_impl_pickOf, e1, e3, Option.bind_some, saferAt, e2, e4, hi', decide_true, if_true]
        cases decide (x < y) <;> simp) (fun n => by simp [f_impl_SaferPicks_1])
      simp [this]
theorem law_FnExactSaferPicks (a b : List Int) (ok : DsOk [.sc (.sl (List.map rI a)), .sc (.sl (List.map rI b))]) : f_laws_FnExactSaferPicks a b = some true := by
  unfold f_laws_FnExactSaferPicks
  by_cases h : a.length ≤ 1048576
  · have h' : ¬ (1048576 : Int) < a.length := by omega
    by_cases g : b.length ≤ 1048576
    · have g' : ¬ (1048576 : Int) < b.length := by omega
      simp [h', g', toIntS_eq h, toIntS_eq g, spec_SaferPicks_eq (le_max h) (le_max g), impl_SaferPicks_eq (le_max h) (le_max g), eqIntS_eq (le_max h), eqIntS_eq (le_max g)]
    · have g' : (1048576 : Int) < b.length := by omega
      simp [g']
  · have h' : (1048576 : Int) < a.length := by omega
    simp [h']

/-! ShutOut -/
theorem szPassageS_of {xs : List XPassage} {l : Int} (h0 : 0 ≤ l) (h1 : l ≤ 1048576) (hx : xs.length ≤ maxLen) : ∃ r, f_laws_szPassageS xs l = some r ∧ (0 ≤ r → r ≤ l ∧ xs.length ≤ 1048576) := by
  unfold f_laws_szPassageS
  rw [maxLen_val] at hx
  rw [wrap64 (by omega) (by omega)]
  by_cases h : l - (xs.length : Int) < 0
  · exact ⟨-1, by simp [h], by omega⟩
  · exact ⟨l - xs.length, by simp [h], by omega⟩
theorem szOption_of {a : XOption} {l : Int} (h0 : 0 ≤ l) (h1 : l ≤ 1048576) (hx : a.Passages.length ≤ maxLen) : ∃ r, f_laws_szOption a l = some r ∧ (0 ≤ r → r ≤ l ∧ a.Passages.length ≤ 1048576) := by
  unfold f_laws_szOption
  obtain ⟨r, e, h⟩ := szPassageS_of h0 h1 hx
  by_cases hr : r < 0
  · exact ⟨-1, by simp [e, hr], by omega⟩
  · exact ⟨r, by simp [e, hr], h⟩
theorem toPassageS_eq {xs : List XPassage} (h : xs.length ≤ 1048576) : f_laws_toPassageS xs = some xs := by
  unfold f_laws_toPassageS
  rw [mkS_len h (by omega)]
  have := copy_loop (L := f_laws_toPassageS_1 xs) xs id (le_max h) (fun n i acc hi ha => by simp [f_laws_toPassageS_1, ix_nn, hi, ha, f_laws_toPassage]) (fun n acc => by simp [f_laws_toPassageS_1]) (List.replicate xs.length ⟨0, 0, false, 0, 0⟩) (by simp)
  simpa using this
theorem eqPassage_eq (x y : XPassage) : f_laws_eqPassage x y = some (decide (x = y)) := by
  unfold f_laws_eqPassage
  cases x; cases y
  simp only [XPassage.mk.injEq]
  repeat' split
  all_goals simp_all
theorem eqPassageS_eq {xs ys : List XPassage} (h : xs.length ≤ maxLen) : f_laws_eqPassageS xs ys = some (decide (xs = ys)) := by
  unfold f_laws_eqPassageS
  by_cases hl : xs.length = ys.length
  · have := eq_loop (L := f_laws_eqPassageS_1 xs ys) xs ys h hl (fun n i h1 h2 => by simp [f_laws_eqPassageS_1, ix_nn, h1, h2, eqPassage_eq]) (fun n => by simp [f_laws_eqPassageS_1])
    simp [hl, this]
  · have : ¬ (xs.length : Int) = ys.length := by omega
    have : xs ≠ ys := fun e => hl (by rw [e])
    simp_all
theorem toOption_eq {a : XOption} (h : a.Passages.length ≤ 1048576) : f_laws_toOption a = some a := by simp [f_laws_toOption, toPassageS_eq h]
theorem eqOption_eq {a b : XOption} (h : a.Passages.length ≤ maxLen) : f_laws_eqOption a b = some (decide (a = b)) := by
  cases a; cases b
  simp only [f_laws_eqOption, eqPassageS_eq h, Option.bind_some, XOption.mk.injEq]
  repeat' split
  all_goals simp_all
def shut (o : XOption) (l : List XClosure) : Bool := o.Passages.any fun p => l.any (hits p)
theorem spec_ShutOut_eq {o : XOption} {l : List XClosure} (h1 : o.Passages.length ≤ maxLen) (h2 : l.length ≤ maxLen) : f_spec_ShutOut o l = some (shut o l) :=
  any_loop (L := f_spec_ShutOut_1 l o) o.Passages (fun p => l.any (hits p)) h1 (fun n i hi => by
    simp only [f_spec_ShutOut_1, ix_at hi, Option.bind_some, dec_nn, hi, decide_true, if_true, spec_HitsClosure_eq h2]) (fun n => by simp [f_spec_ShutOut_1])
theorem impl_ShutOut_eq {o : XOption} {l : List XClosure} (h1 : o.Passages.length ≤ maxLen) (h2 : l.length ≤ maxLen) : f_impl_ShutOut o l = some (shut o l) := by
  obtain ⟨r, e1, e2⟩ := index_loop (L := f_slices_IndexFunc_Passage_1 (fun z0 => f_impl_ShutOut_1 z0 l) o.Passages) o.Passages (fun p => l.any (hits p)) h1 (fun n i hi => by
    simp only [f_slices_IndexFunc_Passage_1, ix_at hi, Option.bind_some, dec_nn, hi, decide_true, if_true, f_impl_ShutOut_1, impl_HitsClosure_eq h2]) (fun n => by simp [f_slices_IndexFunc_Passage_1])
  simp only [f_impl_ShutOut, f_slices_ContainsFunc_Passage, f_slices_IndexFunc_Passage, e1, Option.bind_some, e2, shut]
theorem law_FnExactShutOut (a : XOption) (l : List XClosure) (ok : DsOk [.ag (XOption.row a), .sc (.sl (List.map XClosure.row l))]) : f_laws_FnExactShutOut a l = some true := by
  unfold f_laws_FnExactShutOut
  have m1 : a.Passages.length ≤ maxLen := len_ok (row := XPassage.row) (ok.ag.1 _ (by simp [XOption.row_eq]))
  have m2 := len_ok ok.ag.2.sc.1
  obtain ⟨r, e, h⟩ := szOption_of (l := 1048576) (by omega) (by omega) m1
  by_cases hr : r < 0
  · simp [e, hr]
  · obtain ⟨k0, k1⟩ := h (by omega)
    obtain ⟨r', e', h'⟩ := szClosureS_of (xs := l) (l := r) (by omega) (by omega) m2
    by_cases hr' : r' < 0
    · simp [e, hr, e', hr']
    · obtain ⟨_, k2⟩ := h' (by omega)
      simp [e, hr, e', hr', toOption_eq k1, toClosureS_eq k2, spec_ShutOut_eq m1 m2, impl_ShutOut_eq m1 m2, eqOption_eq m1, eqClosureS_eq m2]

/-! WorstLine, SpreadOf: four lines -/
theorem four {l : List Int} (h : l.length = 4) : ∃ a b c d, l = [a, b, c, d] := by
  match l, h with
  | [a, b, c, d], _ => exact ⟨a, b, c, d, rfl⟩
theorem big5 : ∃ m, bigN = m + 5 := ⟨1208925819614629174706171, by rw [bigN_val]⟩
theorem acc_four {a : XAccount} (h : accOk a = true) : ∃ w0 w1 w2 w3 c0 c1 c2 c3, a = ⟨[w0, w1, w2, w3], [c0, c1, c2, c3]⟩ ∧ (0 ≤ w0 ∧ w0 ≤ 1000000) ∧ (0 ≤ w1 ∧ w1 ≤ 1000000) ∧ (0 ≤ w2 ∧ w2 ≤ 1000000) ∧ (0 ≤ w3 ∧ w3 ≤ 1000000) ∧
    (0 ≤ c0 ∧ c0 ≤ 1000000) ∧ (0 ≤ c1 ∧ c1 ≤ 1000000) ∧ (0 ≤ c2 ∧ c2 ≤ 1000000) ∧ (0 ≤ c3 ∧ c3 ≤ 1000000) := by
  cases a with | mk w c =>
  simp only [accOk, Bool.and_eq_true, decide_eq_true_eq] at h
  obtain ⟨⟨h1, h2⟩, h3⟩ := h
  obtain ⟨w0, w1, w2, w3, rfl⟩ := four h1
  obtain ⟨c0, c1, c2, c3, rfl⟩ := four h2
  simp [List.range_succ, accOkAt] at h3
  exact ⟨_, _, _, _, _, _, _, _, rfl, by omega, by omega, by omega, by omega, by omega, by omega, by omega, by omega⟩
theorem quo_in {w c : Int} (h1 : 0 ≤ w) (h2 : w ≤ 1000000) (h3 : 0 < c) : IntKind.i64.wrap (Int.tdiv w c) = Int.tdiv w c ∧ 0 ≤ Int.tdiv w c ∧ Int.tdiv w c ≤ 1000000 := by
  have e : Int.tdiv w c = w / c := Int.tdiv_eq_ediv_of_nonneg h1
  have a1 : 0 ≤ w / c := Int.ediv_nonneg h1 (by omega)
  have a2 : w / c ≤ w := Int.ediv_le_self _ h1
  rw [e]
  exact ⟨wrap64 (by omega) (by omega), a1, by omega⟩
theorem wr1 : IntKind.i64.wrap 1 = 1 := by decide
theorem wr2 : IntKind.i64.wrap 2 = 2 := by decide
theorem wr3 : IntKind.i64.wrap 3 = 3 := by decide
theorem wr4 : IntKind.i64.wrap 4 = 4 := by decide
theorem ix0 {α : Type} {a b c d : α} : ix [a, b, c, d] 0 = some a := rfl
theorem ix1 {α : Type} {a b c d : α} : ix [a, b, c, d] 1 = some b := rfl
theorem ix2 {α : Type} {a b c d : α} : ix [a, b, c, d] 2 = some c := rfl
theorem ix3 {α : Type} {a b c d : α} : ix [a, b, c, d] 3 = some d := rfl
theorem means_bad {a : XAccount} (h : accOk a = false) : f_impl_means a = some ([], []) := by simp [f_impl_means, impl_AccountOk_eq, h]
/-- The means that there are, with their lines. -/
def meansOf (ws cs : List Int) (k : Int) : List (Int × Int) := match ws, cs with
  | w :: ws, c :: cs => if 0 < c then (Int.tdiv w c, k) :: meansOf ws cs (k + 1) else meansOf ws cs (k + 1)
  | _, _ => []
theorem means_eq {w0 w1 w2 w3 c0 c1 c2 c3 : Int} (h : accOk ⟨[w0, w1, w2, w3], [c0, c1, c2, c3]⟩ = true) (g0 : 0 ≤ w0 ∧ w0 ≤ 1000000) (g1 : 0 ≤ w1 ∧ w1 ≤ 1000000) (g2 : 0 ≤ w2 ∧ w2 ≤ 1000000) (g3 : 0 ≤ w3 ∧ w3 ≤ 1000000) :
    f_impl_means ⟨[w0, w1, w2, w3], [c0, c1, c2, c3]⟩ = some ((meansOf [w0, w1, w2, w3] [c0, c1, c2, c3] 0).map (·.1), (meansOf [w0, w1, w2, w3] [c0, c1, c2, c3] 0).map (·.2)) := by
  obtain ⟨m, hm⟩ := big5
  have q0 := fun p : 0 < c0 => (quo_in g0.1 g0.2 p).1
  have q1 := fun p : 0 < c1 => (quo_in g1.1 g1.2 p).1
  have q2 := fun p : 0 < c2 => (quo_in g2.1 g2.2 p).1
  have q3 := fun p : 0 < c3 => (quo_in g3.1 g3.2 p).1
  have z0 : 0 < c0 → ¬ c0 = 0 := by omega
  have z1 : 0 < c1 → ¬ c1 = 0 := by omega
  have z2 : 0 < c2 → ¬ c2 = 0 := by omega
  have z3 : 0 < c3 → ¬ c3 = 0 := by omega
  by_cases p0 : 0 < c0 <;> by_cases p1 : 0 < c1 <;> by_cases p2 : 0 < c2 <;> by_cases p3 : 0 < c3 <;>
    simp [f_impl_means, impl_AccountOk_eq, h, hm, f_impl_means_1, meansOf, ix0, ix1, ix2, ix3, wr1, wr2, wr3, wr4, appB, p0, p1, p2, p3, q0, q1, q2, q3, z0, z1, z2, z3]
theorem worst_eq (a : XAccount) : ∃ r, f_spec_WorstLine a = some r ∧ f_impl_WorstLine a = some r := by
  obtain ⟨m, hm⟩ := big5
  cases h : accOk a with
  | false => exact ⟨-1, by simp [f_spec_WorstLine, spec_AccountOk_eq, h], by simp [f_impl_WorstLine, means_bad h, hm, f_impl_WorstLine_1]⟩
  | true =>
    obtain ⟨w0, w1, w2, w3, c0, c1, c2, c3, rfl, g0, g1, g2, g3, _⟩ := acc_four h
    have key : (f_spec_WorstLine ⟨[w0, w1, w2, w3], [c0, c1, c2, c3]⟩).isSome = true ∧ f_impl_WorstLine ⟨[w0, w1, w2, w3], [c0, c1, c2, c3]⟩ = f_spec_WorstLine ⟨[w0, w1, w2, w3], [c0, c1, c2, c3]⟩ := by
      have q0 := fun p : 0 < c0 => quo_in g0.1 g0.2 p
      have q1 := fun p : 0 < c1 => quo_in g1.1 g1.2 p
      have q2 := fun p : 0 < c2 => quo_in g2.1 g2.2 p
      have q3 := fun p : 0 < c3 => quo_in g3.1 g3.2 p
      have z0 : 0 < c0 → ¬ c0 = 0 := by omega
      have z1 : 0 < c1 → ¬ c1 = 0 := by omega
      have z2 : 0 < c2 → ¬ c2 = 0 := by omega
      have z3 : 0 < c3 → ¬ c3 = 0 := by omega
      simp only [f_impl_WorstLine, means_eq h g0 g1 g2 g3, Option.bind_some]
      have s0 : 0 < c0 → IntKind.i64.wrap (w0.tdiv c0) = w0.tdiv c0 := fun p => (q0 p).1
      have s1 : 0 < c1 → IntKind.i64.wrap (w1.tdiv c1) = w1.tdiv c1 := fun p => (q1 p).1
      have s2 : 0 < c2 → IntKind.i64.wrap (w2.tdiv c2) = w2.tdiv c2 := fun p => (q2 p).1
      have s3 : 0 < c3 → IntKind.i64.wrap (w3.tdiv c3) = w3.tdiv c3 := fun p => (q3 p).1
      have u0 : 0 < c0 → -1 < w0.tdiv c0 := fun p => by have := (q0 p).2.1; omega
      have u1 : 0 < c1 → -1 < w1.tdiv c1 := fun p => by have := (q1 p).2.1; omega
      have u2 : 0 < c2 → -1 < w2.tdiv c2 := fun p => by have := (q2 p).2.1; omega
      have u3 : 0 < c3 → -1 < w3.tdiv c3 := fun p => by have := (q3 p).2.1; omega
      clear q0 q1 q2 q3
      by_cases p0 : 0 < c0 <;> by_cases p1 : 0 < c1 <;> by_cases p2 : 0 < c2 <;> by_cases p3 : 0 < c3 <;>
        (simp [f_spec_WorstLine, spec_AccountOk_eq, h, hm, f_spec_WorstLine_1, f_spec_WorstLine_2, f_impl_WorstLine_1, meansOf, ix, wr1, wr2, wr3, wr4, p0, p1, p2, p3, s0, s1, s2, s3, z0, z1, z2, z3, u0, u1, u2, u3]) <;>
        (repeat' split) <;> simp_all
    obtain ⟨k1, k2⟩ := key
    obtain ⟨r, e⟩ := Option.isSome_iff_exists.1 k1
    exact ⟨r, e, k2.trans e⟩
theorem law_FnExactWorstLine (a : XAccount) (ok : DsOk [.ag (XAccount.row a)]) : f_laws_FnExactWorstLine a = some true := by
  unfold f_laws_FnExactWorstLine
  obtain ⟨m1, m2⟩ := acc_ok ok
  obtain ⟨r, e, h⟩ := szAccount_of (l := 1048576) (by omega) (by omega) m1 m2
  by_cases hr : r < 0
  · simp [e, hr]
  · obtain ⟨_, k1, k2⟩ := h (by omega)
    obtain ⟨v, e1, e2⟩ := worst_eq a
    simp [e, hr, toAccount_eq k1 k2, e1, e2, eqAccount_eq m1 m2]
end Go.Vi
