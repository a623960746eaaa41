/-
  Plain laws of the small functions. No condition.
-/
import Derived.Test.YtnklncheopbfbaaNf
import Derived.Test.YtnklncheopbfbaaVi33
namespace Go.Vi
set_option linter.unusedSimpArgs false
set_option linter.unusedVariables false

theorem l01In_eq (n lo hi : Int) : f_spec_l01In n lo hi = some (decide (lo ≤ n) && decide (n ≤ hi)) := by
  unfold f_spec_l01In
  by_cases h : lo ≤ n <;> simp [h]
theorem within_eq (n lo hi : Int) : f_impl_within n lo hi = some (decide (lo ≤ n) && decide (n ≤ hi)) := by
  unfold f_impl_within
  by_cases h : lo ≤ n <;> simp [h]
theorem mkS_len {n bytes : Nat} (h : n ≤ 1048576) (hb : bytes ≤ 1000) : mkS (n : Int) (n : Int) bytes = some n := by
  unfold mkS
  have : (n : Int) * (bytes : Int) ≤ 140737488355328 := by
    have : n * bytes ≤ 1048576 * 1000 := Nat.mul_le_mul h hb
    have e : ((n * bytes : Nat) : Int) = (n : Int) * (bytes : Int) := by simp
    omega
  rw [if_pos ⟨by omega, by omega, this, by omega⟩]
  simp
theorem le_max {n : Nat} (h : n ≤ 1048576) : n ≤ maxLen := by rw [maxLen_val]; omega

theorem toIntS_eq {xs : List Int} (h : xs.length ≤ 1048576) : f_laws_toIntS xs = some xs := by
  unfold f_laws_toIntS
  rw [mkS_len h (by omega)]
  have := copy_loop (L := f_laws_toIntS_1 xs) xs id (le_max h) (fun n i acc hi ha => by simp [f_laws_toIntS_1, ix_nn, hi, ha]) (fun n acc => by simp [f_laws_toIntS_1]) (List.replicate xs.length 0) (by simp)
  simpa using this
theorem toBoolS_eq {xs : List Bool} (h : xs.length ≤ 1048576) : f_laws_toBoolS xs = some xs := by
  unfold f_laws_toBoolS
  rw [mkS_len h (by omega)]
  have := copy_loop (L := f_laws_toBoolS_1 xs) xs id (le_max h) (fun n i acc hi ha => by simp [f_laws_toBoolS_1, ix_nn, hi, ha]) (fun n acc => by simp [f_laws_toBoolS_1]) (List.replicate xs.length false) (by simp)
  simpa using this
theorem toClosureS_eq {xs : List XClosure} (h : xs.length ≤ 1048576) : f_laws_toClosureS xs = some xs := by
  unfold f_laws_toClosureS
  rw [mkS_len h (by omega)]
  have := copy_loop (L := f_laws_toClosureS_1 xs) xs id (le_max h) (fun n i acc hi ha => by simp [f_laws_toClosureS_1, ix_nn, hi, ha, f_laws_toClosure]) (fun n acc => by simp [f_laws_toClosureS_1]) (List.replicate xs.length ⟨0, 0, 0⟩) (by simp)
  simpa using this
theorem eqIntS_eq {xs ys : List Int} (h : xs.length ≤ maxLen) : f_laws_eqIntS xs ys = some (decide (xs = ys)) := by
  unfold f_laws_eqIntS
  by_cases hl : xs.length = ys.length
  · have := eq_loop (L := f_laws_eqIntS_1 xs ys) xs ys h hl (fun n i h1 h2 => by simp [f_laws_eqIntS_1, ix_nn, h1, h2]) (fun n => by simp [f_laws_eqIntS_1])
    simp [hl, this]
  · have : ¬ (xs.length : Int) = ys.length := by omega
    have : xs ≠ ys := fun e => hl (by rw [e])
    simp_all
theorem eqBoolS_eq {xs ys : List Bool} (h : xs.length ≤ maxLen) : f_laws_eqBoolS xs ys = some (decide (xs = ys)) := by
  unfold f_laws_eqBoolS
  by_cases hl : xs.length = ys.length
  · have := eq_loop (L := f_laws_eqBoolS_1 xs ys) xs ys h hl (fun n i h1 h2 => by simp [f_laws_eqBoolS_1, ix_nn, h1, h2]) (fun n => by simp [f_laws_eqBoolS_1])
    simp [hl, this]
  · have : ¬ (xs.length : Int) = ys.length := by omega
    have : xs ≠ ys := fun e => hl (by rw [e])
    simp_all
theorem eqClosure_eq (x y : XClosure) : f_laws_eqClosure x y = some (decide (x = y)) := by
  unfold f_laws_eqClosure
  cases x; cases y
  simp only [XClosure.mk.injEq]
  repeat' split
  all_goals simp_all
theorem eqClosureS_eq {xs ys : List XClosure} (h : xs.length ≤ maxLen) : f_laws_eqClosureS xs ys = some (decide (xs = ys)) := by
  unfold f_laws_eqClosureS
  by_cases hl : xs.length = ys.length
  · have := eq_loop (L := f_laws_eqClosureS_1 xs ys) xs ys h hl (fun n i h1 h2 => by simp [f_laws_eqClosureS_1, ix_nn, h1, h2, eqClosure_eq]) (fun n => by simp [f_laws_eqClosureS_1])
    simp [hl, this]
  · have : ¬ (xs.length : Int) = ys.length := by omega
    have : xs ≠ ys := fun e => hl (by rw [e])
    simp_all
/-- What a measure of sizes says. -/
theorem szIntS_of {xs : List Int} {l : Int} (h0 : 0 ≤ l) (h1 : l ≤ 1048576) (hx : xs.length ≤ maxLen) : ∃ r, f_laws_szIntS xs l = some r ∧ (0 ≤ r → r ≤ l ∧ xs.length ≤ 1048576) := by
  unfold f_laws_szIntS
  rw [maxLen_val] at hx
  rw [wrap64 (by omega) (by omega)]
  by_cases h : l - (xs.length : Int) < 0
  · exact ⟨-1, by simp [h], by omega⟩
  · exact ⟨l - xs.length, by simp [h], by omega⟩
theorem szBoolS_of {xs : List Bool} {l : Int} (h0 : 0 ≤ l) (h1 : l ≤ 1048576) (hx : xs.length ≤ maxLen) : ∃ r, f_laws_szBoolS xs l = some r ∧ (0 ≤ r → r ≤ l ∧ xs.length ≤ 1048576) := by
  unfold f_laws_szBoolS
  rw [maxLen_val] at hx
  rw [wrap64 (by omega) (by omega)]
  by_cases h : l - (xs.length : Int) < 0
  · exact ⟨-1, by simp [h], by omega⟩
  · exact ⟨l - xs.length, by simp [h], by omega⟩
theorem szClosureS_of {xs : List XClosure} {l : Int} (h0 : 0 ≤ l) (h1 : l ≤ 1048576) (hx : xs.length ≤ maxLen) : ∃ r, f_laws_szClosureS xs l = some r ∧ (0 ≤ r → r ≤ l ∧ xs.length ≤ 1048576) := by
  unfold f_laws_szClosureS
  rw [maxLen_val] at hx
  rw [wrap64 (by omega) (by omega)]
  by_cases h : l - (xs.length : Int) < 0
  · exact ⟨-1, by simp [h], by omega⟩
  · exact ⟨l - xs.length, by simp [h], by omega⟩

/-! PicksOk -/
def pickOk (x : Int) : Bool := decide (0 ≤ x) && decide (x ≤ 1000)
def picksOk (xs : List Int) : Bool := (decide (1 ≤ (xs.length : Int)) && decide ((xs.length : Int) ≤ 48)) && xs.all pickOk
theorem spec_PicksOk_eq {xs : List Int} (h : xs.length ≤ maxLen) : f_spec_PicksOk xs = some (picksOk xs) := by
  have := all_loop (L := f_spec_PicksOk_1 xs) xs pickOk h (fun n i hi => by simp [f_spec_PicksOk_1, ix_nn, hi, l01In_eq, pickOk]) (fun n => by simp [f_spec_PicksOk_1])
  simp only [f_spec_PicksOk, l01In_eq, Option.bind_some, this, picksOk]
  cases (decide (1 ≤ (xs.length : Int)) && decide ((xs.length : Int) ≤ 48)) <;> simp
theorem impl_PicksOk_eq {xs : List Int} (h : xs.length ≤ maxLen) : f_impl_PicksOk xs = some (picksOk xs) := by
  have := all_loop (L := f_impl_PicksOk_1 xs) xs pickOk h (fun n i hi => by simp [f_impl_PicksOk_1, ix_nn, hi, within_eq, pickOk]) (fun n => by simp [f_impl_PicksOk_1])
  simp only [f_impl_PicksOk, within_eq, Option.bind_some, this, picksOk]
  cases (decide (1 ≤ (xs.length : Int)) && decide ((xs.length : Int) ≤ 48)) <;> simp
theorem len_ok {α : Type} {row : α → List D} {xs : List α} (h : (D.sl (List.map row xs)).Ok) : xs.length ≤ maxLen := by simpa using h.sl.1
theorem law_FnExactPicksOk (xs : List Int) (ok : DsOk [.sc (.sl (List.map rI xs))]) : f_laws_FnExactPicksOk xs = some true := by
  unfold f_laws_FnExactPicksOk
  by_cases h : xs.length ≤ 1048576
  · have hm := le_max h
    have h' : ¬ (1048576 : Int) < xs.length := by omega
    simp [h', toIntS_eq h, spec_PicksOk_eq hm, impl_PicksOk_eq hm, eqIntS_eq hm]
  · have h' : (1048576 : Int) < xs.length := by omega
    simp [h']
theorem szAccount_of {a : XAccount} {l : Int} (h0 : 0 ≤ l) (h1 : l ≤ 1048576) (hw : a.Waits.length ≤ maxLen) (hc : a.Calls.length ≤ maxLen) : ∃ r, f_laws_szAccount a l = some r ∧ (0 ≤ r → r ≤ l ∧ a.Waits.length ≤ 1048576 ∧ a.Calls.length ≤ 1048576) := by
  unfold f_laws_szAccount
  obtain ⟨r, e, h⟩ := szIntS_of h0 h1 hw
  by_cases hr : r < 0
  · exact ⟨-1, by simp [e, hr], by omega⟩
  · obtain ⟨k1, k2⟩ := h (by omega)
    obtain ⟨r', e', h'⟩ := szIntS_of (xs := a.Calls) (l := r) (by omega) (by omega) hc
    by_cases hr' : r' < 0
    · exact ⟨-1, by simp [e, hr, e', hr'], by omega⟩
    · obtain ⟨k3, k4⟩ := h' (by omega)
      exact ⟨r', by simp [e, hr, e', hr'], fun _ => ⟨by omega, k2, k4⟩⟩
theorem toAccount_eq {a : XAccount} (hw : a.Waits.length ≤ 1048576) (hc : a.Calls.length ≤ 1048576) : f_laws_toAccount a = some a := by
  simp [f_laws_toAccount, toIntS_eq hw, toIntS_eq hc]
theorem eqAccount_eq {a b : XAccount} (hw : a.Waits.length ≤ maxLen) (hc : a.Calls.length ≤ maxLen) : f_laws_eqAccount a b = some (decide (a = b)) := by
  cases a; cases b
  simp only [f_laws_eqAccount, eqIntS_eq hw, eqIntS_eq hc, Option.bind_some, XAccount.mk.injEq, decide_eq_true_eq, Bool.decide_and]
  split
  · split <;> simp_all
  · simp_all
def accOkAt (a : XAccount) (i : Nat) : Bool := (match a.Waits[i]? with | some x => decide (0 ≤ x) && decide (x ≤ 1000000) | none => false) && (match a.Calls[i]? with | some x => decide (0 ≤ x) && decide (x ≤ 1000000) | none => false)
def accOk (a : XAccount) : Bool := (decide (a.Waits.length = 4) && decide (a.Calls.length = 4)) && (List.range 4).all (accOkAt a)
theorem spec_AccountOk_eq (a : XAccount) : f_spec_AccountOk a = some (accOk a) := by
  unfold f_spec_AccountOk accOk
  by_cases h1 : a.Waits.length = 4
  · by_cases h2 : a.Calls.length = 4
    · have := all_loopI (L := f_spec_AccountOk_1 a) 4 (accOkAt a) (by rw [maxLen_val]; omega) (fun n i hi => by
        have e1 : i < a.Waits.length := by omega
        have e2 : i < a.Calls.length := by omega
        simp only [f_spec_AccountOk_1, h1, ix_at e1, ix_at e2, l01In_eq, Option.bind_some, accOkAt, List.getElem?_eq_getElem e1, List.getElem?_eq_getElem e2, dec_nn, hi, decide_true, if_true]
        cases (decide (0 ≤ a.Waits[i]) && decide (a.Waits[i] ≤ 1000000)) <;> cases (decide (0 ≤ a.Calls[i]) && decide (a.Calls[i] ≤ 1000000)) <;> simp) (fun n => by simp [f_spec_AccountOk_1, h1])
      simp [h1, h2, this]
    · have : ¬ (a.Calls.length : Int) = 4 := by omega
      simp [h1, h2, this]
  · have : ¬ (a.Waits.length : Int) = 4 := by omega
    simp [h1, this]
theorem impl_AccountOk_eq (a : XAccount) : f_impl_AccountOk a = some (accOk a) := by
  unfold f_impl_AccountOk accOk
  by_cases h1 : a.Waits.length = 4
  · by_cases h2 : a.Calls.length = 4
    · have := all_loopI (L := f_impl_AccountOk_1 a) 4 (accOkAt a) (by rw [maxLen_val]; omega) (fun n i hi => by
        have e1 : i < a.Waits.length := by omega
        have e2 : i < a.Calls.length := by omega
        have e3 : (i : Int) < 4 := by omega
        simp only [f_impl_AccountOk_1, ix_at e1, ix_at e2, within_eq, Option.bind_some, accOkAt, List.getElem?_eq_getElem e1, List.getElem?_eq_getElem e2, e3, decide_true, if_true]
        cases (decide (0 ≤ a.Waits[i]) && decide (a.Waits[i] ≤ 1000000)) <;> cases (decide (0 ≤ a.Calls[i]) && decide (a.Calls[i] ≤ 1000000)) <;> simp) (fun n => by simp [f_impl_AccountOk_1])
      simp [h1, h2, this]
    · have : ¬ (a.Calls.length : Int) = 4 := by omega
      simp [h1, h2, this]
  · have : ¬ (a.Waits.length : Int) = 4 := by omega
    simp [h1, this]
theorem acc_ok {a : XAccount} (ok : DsOk [.ag (XAccount.row a)]) : a.Waits.length ≤ maxLen ∧ a.Calls.length ≤ maxLen :=
  ⟨len_ok (row := rI) (ok.ag.1 _ (by simp [XAccount.row_eq])), len_ok (row := rI) (ok.ag.1 _ (by simp [XAccount.row_eq]))⟩
theorem law_FnExactAccountOk (a : XAccount) (ok : DsOk [.ag (XAccount.row a)]) : f_laws_FnExactAccountOk a = some true := by
  unfold f_laws_FnExactAccountOk
  obtain ⟨m1, m2⟩ := acc_ok ok
  obtain ⟨r, e, h⟩ := szAccount_of (l := 1048576) (by omega) (by omega) m1 m2
  by_cases hr : r < 0
  · simp [e, hr]
  · obtain ⟨_, k1, k2⟩ := h (by omega)
    simp [e, hr, toAccount_eq k1 k2, spec_AccountOk_eq, impl_AccountOk_eq, eqAccount_eq m1 m2]

/-! Closures -/
def hits (p : XPassage) (x : XClosure) : Bool := decide (x.Segment = p.Segment) && decide ((if p.Start < x.From then x.From else p.Start) < (if x.To < p.End then x.To else p.End))
theorem any_loop {α : Type} {L : Nat → Int → Option Bool} (xs : List α) (p : α → Bool) (hl : xs.length ≤ maxLen)
    (hs : ∀ (n i : Nat) (h : i < xs.length), L (n + 1) (i : Int) = if p xs[i] = true then some true else L n (IntKind.i64.wrap ((i : Int) + 1))) (he : ∀ n, L (n + 1) (xs.length : Int) = some false) : L bigN 0 = some (xs.any p) := by
  have key : ∀ (k i n : Nat), i + k = xs.length → k < n → L n (i : Int) = some ((xs.drop i).any p) := by
    intro k
    induction k with
    | zero =>
      intro i n hi hn
      obtain ⟨m, rfl⟩ : ∃ m, n = m + 1 := ⟨n - 1, by omega⟩
      have : i = xs.length := by omega
      subst this
      rw [he]; simp
    | succ k ih =>
      intro i n hi hn
      obtain ⟨m, rfl⟩ : ∃ m, n = m + 1 := ⟨n - 1, by omega⟩
      have hlt : i < xs.length := by omega
      rw [hs m i hlt, wrapS hlt hl, ih (i + 1) m (by omega) (by omega), List.drop_eq_getElem_cons hlt, List.any_cons]
      cases p xs[i] <;> simp
  have := key xs.length 0 bigN (by omega) (lt_bigN hl)
  simpa using this
/-- The first place, or -1. -/
theorem index_loop {α : Type} {L : Nat → Int → Option Int} (xs : List α) (p : α → Bool) (hl : xs.length ≤ maxLen)
    (hs : ∀ (n i : Nat) (h : i < xs.length), L (n + 1) (i : Int) = if p xs[i] = true then some (i : Int) else L n (IntKind.i64.wrap ((i : Int) + 1))) (he : ∀ n, L (n + 1) (xs.length : Int) = some (-1)) :
    ∃ r, L bigN 0 = some r ∧ decide (0 ≤ r) = xs.any p := by
  have key : ∀ (k i n : Nat), i + k = xs.length → k < n → ∃ r, L n (i : Int) = some r ∧ decide (0 ≤ r) = (xs.drop i).any p := by
    intro k
    induction k with
    | zero =>
      intro i n hi hn
      obtain ⟨m, rfl⟩ : ∃ m, n = m + 1 := ⟨n - 1, by omega⟩
      have : i = xs.length := by omega
      subst this
      exact ⟨-1, he m, by simp⟩
    | succ k ih =>
      intro i n hi hn
      obtain ⟨m, rfl⟩ : ∃ m, n = m + 1 := ⟨n - 1, by omega⟩
      have hlt : i < xs.length := by omega
      obtain ⟨r, h1, h2⟩ := ih (i + 1) m (by omega) (by omega)
      rw [hs m i hlt, wrapS hlt hl, List.drop_eq_getElem_cons hlt, List.any_cons]
      cases p xs[i] with
      | true => exact ⟨i, by simp, by simp⟩
      | false => exact ⟨r, by simpa using h1, by simp [h2]⟩
  have := key xs.length 0 bigN (by omega) (lt_bigN hl)
  simpa using this
theorem spec_HitsClosure_eq {p : XPassage} {l : List XClosure} (h : l.length ≤ maxLen) : f_spec_HitsClosure p l = some (l.any (hits p)) := by
  refine any_loop (L := f_spec_HitsClosure_1 l p) l (hits p) h (fun n i hi => ?_) (fun n => by simp [f_spec_HitsClosure_1])
  simp only [f_spec_HitsClosure_1, ix_at hi, Option.bind_some, dec_nn, hi, decide_true, if_true, hits]
  by_cases h1 : l[i].Segment = p.Segment <;> simp [h1]
theorem impl_hits_eq (x : XClosure) (p : XPassage) : f_impl_HitsClosure_1 x p = some (hits p x) := by
  unfold f_impl_HitsClosure_1 hits
  have e1 : (if x.From < p.Start then p.Start else x.From) = (if p.Start < x.From then x.From else p.Start) := by
    split <;> split <;> omega
  have e2 : (if p.End < x.To then p.End else x.To) = (if x.To < p.End then x.To else p.End) := by
    split <;> split <;> omega
  rw [e1, e2]
  by_cases h1 : x.Segment = p.Segment <;> simp [h1]
theorem impl_HitsClosure_eq {p : XPassage} {l : List XClosure} (h : l.length ≤ maxLen) : f_impl_HitsClosure p l = some (l.any (hits p)) := by
  obtain ⟨r, h1, h2⟩ := index_loop (L := f_slices_IndexFunc_Closure_1 (fun z0 => f_impl_HitsClosure_1 z0 p) l) l (hits p) h (fun n i hi => by
    simp only [f_slices_IndexFunc_Closure_1, ix_at hi, Option.bind_some, dec_nn, hi, decide_true, if_true, impl_hits_eq]) (fun n => by simp [f_slices_IndexFunc_Closure_1])
  simp only [f_impl_HitsClosure, f_slices_ContainsFunc_Closure, f_slices_IndexFunc_Closure, h1, Option.bind_some, h2]
theorem law_FnExactHitsClosure (p : XPassage) (l : List XClosure) (ok : DsOk [.ag (XPassage.row p), .sc (.sl (List.map XClosure.row l))]) : f_laws_FnExactHitsClosure p l = some true := by
  unfold f_laws_FnExactHitsClosure
  have m := len_ok ok.ag.2.sc.1
  obtain ⟨r, e, h⟩ := szClosureS_of (xs := l) (l := 1048576) (by omega) (by omega) m
  by_cases hr : r < 0
  · simp [e, hr]
  · obtain ⟨_, k1⟩ := h (by omega)
    simp [e, hr, f_laws_toPassage, toClosureS_eq k1, spec_HitsClosure_eq m, impl_HitsClosure_eq m, eqClosureS_eq m]

/-! Desks -/
theorem szDesk_of {a : XDesk} {l : Int} (h0 : 0 ≤ l) (h1 : l ≤ 1048576) (hw : a.Starts.length ≤ maxLen) (hc : a.Cleared.length ≤ maxLen) : ∃ r, f_laws_szDesk a l = some r ∧ (0 ≤ r → r ≤ l ∧ a.Starts.length ≤ 1048576 ∧ a.Cleared.length ≤ 1048576) := by
  unfold f_laws_szDesk
  obtain ⟨r, e, h⟩ := szIntS_of h0 h1 hw
  by_cases hr : r < 0
  · exact ⟨-1, by simp [e, hr], by omega⟩
  · obtain ⟨k1, k2⟩ := h (by omega)
    obtain ⟨r', e', h'⟩ := szBoolS_of (xs := a.Cleared) (l := r) (by omega) (by omega) hc
    by_cases hr' : r' < 0
    · exact ⟨-1, by simp [e, hr, e', hr'], by omega⟩
    · obtain ⟨k3, k4⟩ := h' (by omega)
      exact ⟨r', by simp [e, hr, e', hr'], fun _ => ⟨by omega, k2, k4⟩⟩
theorem toDesk_eq {a : XDesk} (hw : a.Starts.length ≤ 1048576) (hc : a.Cleared.length ≤ 1048576) : f_laws_toDesk a = some a := by
  simp [f_laws_toDesk, toIntS_eq hw, toBoolS_eq hc]
theorem eqDesk_eq {a b : XDesk} (hw : a.Starts.length ≤ maxLen) (hc : a.Cleared.length ≤ maxLen) : f_laws_eqDesk a b = some (decide (a = b)) := by
  cases a; cases b
  simp only [f_laws_eqDesk, eqIntS_eq hw, eqBoolS_eq hc, Option.bind_some, XDesk.mk.injEq, decide_eq_true_eq, Bool.decide_and]
  split
  · simp_all
  · split
    · split <;> simp_all
    · simp_all
theorem desk_ok {a : XDesk} (ok : ∀ d ∈ XDesk.row a, d.Ok) : a.Starts.length ≤ maxLen ∧ a.Cleared.length ≤ maxLen :=
  ⟨len_ok (row := rI) (ok _ (by simp [XDesk.row_eq])), len_ok (row := rB) (ok _ (by simp [XDesk.row_eq]))⟩
theorem isMinute_eq (n : Int) : f_impl_isMinute n = some (decide (0 ≤ n) && decide (n ≤ 2880)) := by simp [f_impl_isMinute, within_eq]
def deskOkAt (a : XDesk) (i : Nat) : Bool := match a.Starts[i]?, a.Cleared[i]? with
  | some x, some c => (decide (-1 ≤ x) && decide (x ≤ 2880)) && !(c && decide (x < 0))
  | _, _ => false
def deskOk (a : XDesk) : Bool := (decide (0 ≤ a.Now) && decide (a.Now ≤ 2880)) && (decide (a.Starts.length ≤ 6) && (decide (a.Cleared.length = a.Starts.length) && (List.range a.Starts.length).all (deskOkAt a)))
theorem spec_DeskOk_eq (a : XDesk) : f_spec_DeskOk a = some (deskOk a) := by
  simp only [f_spec_DeskOk, l01In_eq, Option.bind_some, deskOk]
  cases (decide (0 ≤ a.Now) && decide (a.Now ≤ 2880)) with
  | false => simp
  | true =>
    by_cases h1 : a.Starts.length ≤ 6
    · have h1' : ¬ (6 : Int) < a.Starts.length := by omega
      by_cases h2 : a.Cleared.length = a.Starts.length
      · have := all_loopI (L := f_spec_DeskOk_1 a) a.Starts.length (deskOkAt a) (by rw [maxLen_val]; omega) (fun n i hi => by
          have e2 : i < a.Cleared.length := by omega
          simp only [f_spec_DeskOk_1, ix_at hi, ix_at e2, l01In_eq, Option.bind_some, deskOkAt, List.getElem?_eq_getElem hi, List.getElem?_eq_getElem e2, dec_nn, hi, decide_true, if_true]
          cases (decide (-1 ≤ a.Starts[i]) && decide (a.Starts[i] ≤ 2880)) <;> cases a.Cleared[i] <;> cases hd : decide (a.Starts[i] < 0) <;> simp) (fun n => by simp [f_spec_DeskOk_1])
        simp [h1, h1', h2, this]
      · have : ¬ (a.Cleared.length : Int) = a.Starts.length := by omega
        simp [h1, h1', h2, this]
    · have h1' : (6 : Int) < a.Starts.length := by omega
      simp [h1, h1']
theorem impl_DeskOk_eq (a : XDesk) : f_impl_DeskOk a = some (deskOk a) := by
  simp only [f_impl_DeskOk, isMinute_eq, Option.bind_some, deskOk]
  cases (decide (0 ≤ a.Now) && decide (a.Now ≤ 2880)) with
  | false => simp
  | true =>
    by_cases h1 : a.Starts.length ≤ 6
    · have h1' : ¬ (6 : Int) < a.Starts.length := by omega
      by_cases h2 : a.Cleared.length = a.Starts.length
      · have := all_loopI (L := f_impl_DeskOk_1 a) a.Starts.length (deskOkAt a) (by rw [maxLen_val]; omega) (fun n i hi => by
          have e2 : i < a.Cleared.length := by omega
          simp only [f_impl_DeskOk_1, ix_at hi, ix_at e2, within_eq, Option.bind_some, deskOkAt, List.getElem?_eq_getElem hi, List.getElem?_eq_getElem e2, dec_nn, hi, decide_true, if_true]
          cases (decide (-1 ≤ a.Starts[i]) && decide (a.Starts[i] ≤ 2880)) <;> cases a.Cleared[i] <;> cases hd : decide (a.Starts[i] < 0) <;> simp) (fun n => by simp [f_impl_DeskOk_1])
        simp [h1, h1', h2, this]
      · have : ¬ (a.Cleared.length : Int) = a.Starts.length := by omega
        simp [h1, h1', h2, this]
    · have h1' : (6 : Int) < a.Starts.length := by omega
      simp [h1, h1']
theorem law_FnExactDeskOk (a : XDesk) (ok : DsOk [.ag (XDesk.row a)]) : f_laws_FnExactDeskOk a = some true := by
  unfold f_laws_FnExactDeskOk
  obtain ⟨m1, m2⟩ := desk_ok ok.ag.1
  obtain ⟨r, e, h⟩ := szDesk_of (l := 1048576) (by omega) (by omega) m1 m2
  by_cases hr : r < 0
  · simp [e, hr]
  · obtain ⟨_, k1, k2⟩ := h (by omega)
    simp [e, hr, toDesk_eq k1 k2, spec_DeskOk_eq, impl_DeskOk_eq, eqDesk_eq m1 m2]
theorem eqI_eq {xs ys : List Int} (h : xs.length ≤ maxLen) : f_slices_Equal_int xs ys = some (decide (xs = ys)) := by
  unfold f_slices_Equal_int
  by_cases hl : xs.length = ys.length
  · have := eq_loop (L := f_slices_Equal_int_1 xs ys) xs ys h hl (fun n i h1 h2 => by simp [f_slices_Equal_int_1, ix_nn, h1, h2]) (fun n => by simp [f_slices_Equal_int_1])
    simp [hl, this]
  · have : ¬ (xs.length : Int) = ys.length := by omega
    have : xs ≠ ys := fun e => hl (by rw [e])
    simp_all
theorem eqB_eq {xs ys : List Bool} (h : xs.length ≤ maxLen) : f_slices_Equal_bool xs ys = some (decide (xs = ys)) := by
  unfold f_slices_Equal_bool
  by_cases hl : xs.length = ys.length
  · have := eq_loop (L := f_slices_Equal_bool_1 xs ys) xs ys h hl (fun n i h1 h2 => by simp [f_slices_Equal_bool_1, ix_nn, h1, h2]) (fun n => by simp [f_slices_Equal_bool_1])
    simp [hl, this]
  · have : ¬ (xs.length : Int) = ys.length := by omega
    have : xs ≠ ys := fun e => hl (by rw [e])
    simp_all
theorem spec_SameDesks_eq {a b : XDesk} (h1 : a.Starts.length ≤ maxLen) (h2 : a.Cleared.length ≤ maxLen) : f_spec_SameDesks a b = some (decide (a = b)) := by
  cases a with | mk an as ac =>
  cases b with | mk bn bs bc =>
  simp only [f_spec_SameDesks, XDesk.mk.injEq]
  by_cases e0 : an = bn
  · by_cases e1 : as.length = bs.length
    · by_cases e2 : ac.length = bc.length
      · have k2 := eq_loop (L := f_spec_SameDesks_2 ⟨an, as, ac⟩ ⟨bn, bs, bc⟩) ac bc h2 e2 (fun n i g1 g2 => by simp [f_spec_SameDesks_2, ix_nn, g1, g2]) (fun n => by simp [f_spec_SameDesks_2])
        have k1 : f_spec_SameDesks_1 ⟨an, as, ac⟩ ⟨bn, bs, bc⟩ bigN 0 = if as = bs then f_spec_SameDesks_2 ⟨an, as, ac⟩ ⟨bn, bs, bc⟩ bigN 0 else some false := by
          have key : ∀ (k i n : Nat), i + k = as.length → k < n → f_spec_SameDesks_1 ⟨an, as, ac⟩ ⟨bn, bs, bc⟩ n (i : Int) = if as.drop i = bs.drop i then f_spec_SameDesks_2 ⟨an, as, ac⟩ ⟨bn, bs, bc⟩ bigN 0 else some false := by
            intro k
            induction k with
            | zero =>
              intro i n hi hn
              obtain ⟨m, rfl⟩ : ∃ m, n = m + 1 := ⟨n - 1, by omega⟩
              have : i = as.length := by omega
              subst this
              have : List.drop as.length bs = [] := List.drop_eq_nil_of_le (by omega)
              simp [f_spec_SameDesks_1, this]
            | succ k ih =>
              intro i n hi hn
              obtain ⟨m, rfl⟩ : ∃ m, n = m + 1 := ⟨n - 1, by omega⟩
              have g1 : i < as.length := by omega
              have g2 : i < bs.length := by omega
              simp only [f_spec_SameDesks_1, ix_at g1, ix_at g2, Option.bind_some, dec_nn, g1, decide_true, if_true, wrapS g1 h1]
              rw [ih (i + 1) m (by omega) (by omega), List.drop_eq_getElem_cons g1, List.drop_eq_getElem_cons g2]
              by_cases g3 : as[i] = bs[i]
              · simp only [List.cons.injEq, g3, bne_self_eq_false, Bool.false_eq_true, if_false, true_and]
              · simp only [List.cons.injEq, g3, bne_iff_ne, ne_eq, not_false_eq_true, if_true, false_and, if_false]
          have := key as.length 0 bigN (by omega) (lt_bigN h1)
          simpa using this
        rw [k1, k2]
        by_cases g : as = bs <;> simp [e0, e1, e2, g]
      · have n1 : ¬ (ac.length : Int) = bc.length := by omega
        have n2 : ac ≠ bc := fun e => e2 (by rw [e])
        simp [e0, e1, n1, n2]
    · have n1 : ¬ (as.length : Int) = bs.length := by omega
      have n2 : as ≠ bs := fun e => e1 (by rw [e])
      simp [e0, n1, n2]
  · simp [e0]
theorem impl_SameDesks_eq {a b : XDesk} (h1 : a.Starts.length ≤ maxLen) (h2 : a.Cleared.length ≤ maxLen) : f_impl_SameDesks a b = some (decide (a = b)) := by
  cases a; cases b
  simp only [f_impl_SameDesks, eqI_eq h1, eqB_eq h2, Option.bind_some, XDesk.mk.injEq]
  split
  · split <;> simp_all
  · simp_all
theorem law_FnExactSameDesks (a b : XDesk) (ok : DsOk [.ag (XDesk.row a), .ag (XDesk.row b)]) : f_laws_FnExactSameDesks a b = some true := by
  unfold f_laws_FnExactSameDesks
  obtain ⟨m1, m2⟩ := desk_ok ok.ag.1
  obtain ⟨m3, m4⟩ := desk_ok ok.ag.2.ag.1
  obtain ⟨r, e, h⟩ := szDesk_of (l := 1048576) (by omega) (by omega) m1 m2
  by_cases hr : r < 0
  · simp [e, hr]
  · obtain ⟨k0, k1, k2⟩ := h (by omega)
    obtain ⟨r', e', h'⟩ := szDesk_of (l := r) (by omega) (by omega) m3 m4
    by_cases hr' : r' < 0
    · simp [e, hr, e', hr']
    · obtain ⟨_, k3, k4⟩ := h' (by omega)
      simp [e, hr, e', hr', toDesk_eq k1 k2, toDesk_eq k3 k4, spec_SameDesks_eq m1 m2, impl_SameDesks_eq m1 m2, eqDesk_eq m1 m2, eqDesk_eq m3 m4]
end Go.Vi
