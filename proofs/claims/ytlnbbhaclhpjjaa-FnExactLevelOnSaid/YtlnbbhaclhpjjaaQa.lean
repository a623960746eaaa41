/-
  Plain laws: charts, closures, forecasts. No condition.
-/
import Derived.Test.YtlnbbhaclhpjjaaNf
import Derived.Test.YtlnbbhaclhpjjaaVi33
namespace Go.Vi
set_option linter.unusedSimpArgs false
set_option linter.unusedVariables false

theorem l01In_eq (n lo hi : Int) : f_spec_l01In n lo hi = some (decide (lo ≤ n) && decide (n ≤ hi)) := by
  unfold f_spec_l01In
  by_cases h : lo ≤ n <;> simp [h]
theorem within_eq (n lo hi : Int) : f_impl_within n lo hi = some (decide (lo ≤ n) && decide (n ≤ hi)) := by
  unfold f_impl_within
  by_cases h : lo ≤ n <;> simp [h]
theorem mkS_len {n bytes : Nat} (h : n ≤ 1048576) (hb : bytes ≤ 1000) : mkS (n : Int) (n : Int) bytes = some n := by
  unfold mkS
  have : (n : Int) * (bytes : Int) ≤ 140737488355328 := by
    have : n * bytes ≤ 1048576 * 1000 := Nat.mul_le_mul h hb
    have e : ((n * bytes : Nat) : Int) = (n : Int) * (bytes : Int) := by simp
    omega
  rw [if_pos ⟨by omega, by omega, this, by omega⟩]
  simp
theorem le_max {n : Nat} (h : n ≤ 1048576) : n ≤ maxLen := by rw [maxLen_val]; omega
theorem toIntS_eq {xs : List Int} (h : xs.length ≤ 1048576) : f_laws_toIntS xs = some xs := by
  unfold f_laws_toIntS
  rw [mkS_len h (by omega)]
  have := copy_loop (L := f_laws_toIntS_1 xs) xs id (le_max h) (fun n i acc hi ha => by simp [f_laws_toIntS_1, ix_nn, hi, ha]) (fun n acc => by simp [f_laws_toIntS_1]) (List.replicate xs.length 0) (by simp)
  simpa using this
theorem toClosureS_eq {xs : List XClosure} (h : xs.length ≤ 1048576) : f_laws_toClosureS xs = some xs := by
  unfold f_laws_toClosureS
  rw [mkS_len h (by omega)]
  have := copy_loop (L := f_laws_toClosureS_1 xs) xs id (le_max h) (fun n i acc hi ha => by simp [f_laws_toClosureS_1, ix_nn, hi, ha, f_laws_toClosure]) (fun n acc => by simp [f_laws_toClosureS_1]) (List.replicate xs.length ⟨0, 0, 0⟩) (by simp)
  simpa using this
theorem eqIntS_eq {xs ys : List Int} (h : xs.length ≤ maxLen) : f_laws_eqIntS xs ys = some (decide (xs = ys)) := by
  unfold f_laws_eqIntS
  by_cases hl : xs.length = ys.length
  · have := eq_loop (L := f_laws_eqIntS_1 xs ys) xs ys h hl (fun n i h1 h2 => by simp [f_laws_eqIntS_1, ix_nn, h1, h2]) (fun n => by simp [f_laws_eqIntS_1])
    simp [hl, this]
  · have : ¬ (xs.length : Int) = ys.length := by omega
    have : xs ≠ ys := fun e => hl (by rw [e])
    simp_all
theorem eqClosure_eq (x y : XClosure) : f_laws_eqClosure x y = some (decide (x = y)) := by
  unfold f_laws_eqClosure
  cases x; cases y
  simp only [XClosure.mk.injEq]
  repeat' split
  all_goals simp_all
theorem eqClosureS_eq {xs ys : List XClosure} (h : xs.length ≤ maxLen) : f_laws_eqClosureS xs ys = some (decide (xs = ys)) := by
  unfold f_laws_eqClosureS
  by_cases hl : xs.length = ys.length
  · have := eq_loop (L := f_laws_eqClosureS_1 xs ys) xs ys h hl (fun n i h1 h2 => by simp [f_laws_eqClosureS_1, ix_nn, h1, h2, eqClosure_eq]) (fun n => by simp [f_laws_eqClosureS_1])
    simp [hl, this]
  · have : ¬ (xs.length : Int) = ys.length := by omega
    have : xs ≠ ys := fun e => hl (by rw [e])
    simp_all
theorem szClosureS_of {xs : List XClosure} {l : Int} (h0 : 0 ≤ l) (h1 : l ≤ 1048576) (hx : xs.length ≤ maxLen) : ∃ r, f_laws_szClosureS xs l = some r ∧ (0 ≤ r → r ≤ l ∧ xs.length ≤ 1048576) := by
  unfold f_laws_szClosureS
  rw [maxLen_val] at hx
  rw [wrap64 (by omega) (by omega)]
  by_cases h : l - (xs.length : Int) < 0
  · exact ⟨-1, by simp [h], by omega⟩
  · exact ⟨l - xs.length, by simp [h], by omega⟩
def pickOk (x : Int) : Bool := decide (0 ≤ x) && decide (x ≤ 1000)
def picksOk (xs : List Int) : Bool := (decide (1 ≤ (xs.length : Int)) && decide ((xs.length : Int) ≤ 48)) && xs.all pickOk
theorem spec_PicksOk_eq {xs : List Int} (h : xs.length ≤ maxLen) : f_spec_PicksOk xs = some (picksOk xs) := by
  have := all_loop (L := f_spec_PicksOk_1 xs) xs pickOk h (fun n i hi => by simp [f_spec_PicksOk_1, ix_nn, hi, l01In_eq, pickOk]) (fun n => by simp [f_spec_PicksOk_1])
  simp only [f_spec_PicksOk, l01In_eq, Option.bind_some, this, picksOk]
  cases (decide (1 ≤ (xs.length : Int)) && decide ((xs.length : Int) ≤ 48)) <;> simp
theorem impl_PicksOk_eq {xs : List Int} (h : xs.length ≤ maxLen) : f_impl_PicksOk xs = some (picksOk xs) := by
  have := all_loop (L := f_impl_PicksOk_1 xs) xs pickOk h (fun n i hi => by simp [f_impl_PicksOk_1, ix_nn, hi, within_eq, pickOk]) (fun n => by simp [f_impl_PicksOk_1])
  simp only [f_impl_PicksOk, within_eq, Option.bind_some, this, picksOk]
  cases (decide (1 ≤ (xs.length : Int)) && decide ((xs.length : Int) ≤ 48)) <;> simp
theorem len_ok {α : Type} {row : α → List D} {xs : List α} (h : (D.sl (List.map row xs)).Ok) : xs.length ≤ maxLen := by simpa using h.sl.1
theorem isMinute_eq (n : Int) : f_impl_isMinute n = some (decide (0 ≤ n) && decide (n ≤ 2880)) := by simp [f_impl_isMinute, within_eq]
theorem index_loop {α : Type} {L : Nat → Int → Option Int} (xs : List α) (p : α → Bool) (hl : xs.length ≤ maxLen)
    (hs : ∀ (n i : Nat) (h : i < xs.length), L (n + 1) (i : Int) = if p xs[i] = true then some (i : Int) else L n (IntKind.i64.wrap ((i : Int) + 1))) (he : ∀ n, L (n + 1) (xs.length : Int) = some (-1)) :
    ∃ r, L bigN 0 = some r ∧ decide (0 ≤ r) = xs.any p := by
  have key : ∀ (k i n : Nat), i + k = xs.length → k < n → ∃ r, L n (i : Int) = some r ∧ decide (0 ≤ r) = (xs.drop i).any p := by
    intro k
    induction k with
    | zero =>
      intro i n hi hn
      obtain ⟨m, rfl⟩ : ∃ m, n = m + 1 := ⟨n - 1, by omega⟩
      have : i = xs.length := by omega
      subst this
      exact ⟨-1, he m, by simp⟩
    | succ k ih =>
      intro i n hi hn
      obtain ⟨m, rfl⟩ : ∃ m, n = m + 1 := ⟨n - 1, by omega⟩
      have hlt : i < xs.length := by omega
      obtain ⟨r, h1, h2⟩ := ih (i + 1) m (by omega) (by omega)
      rw [hs m i hlt, wrapS hlt hl, List.drop_eq_getElem_cons hlt, List.any_cons]
      cases p xs[i] with
      | true => exact ⟨i, by simp, by simp⟩
      | false => exact ⟨r, by simpa using h1, by simp [h2]⟩
  have := key xs.length 0 bigN (by omega) (lt_bigN hl)
  simpa using this

/-! Loops that go on to something else -/
theorem foldr_all {len : Nat} (p : Nat → Bool) (K : Option Bool) : ∀ (k i : Nat), (List.range' i k).foldr (fun i r => if p i = true then r else some false) K = if (List.range' i k).all p = true then K else some false
  | 0, i => by simp
  | k + 1, i => by
    rw [List.range'_succ, List.foldr_cons, foldr_all (len := len) p K k (i + 1), List.all_cons]
    cases p i <;> rfl
theorem foldr_any {len : Nat} (p : Nat → Bool) (K : Option Bool) : ∀ (k i : Nat), (List.range' i k).foldr (fun i r => if p i = true then some false else r) K = if (List.range' i k).any p = true then some false else K
  | 0, i => by simp
  | k + 1, i => by
    rw [List.range'_succ, List.foldr_cons, foldr_any (len := len) p K k (i + 1), List.any_cons]
    cases p i <;> rfl
theorem all_loopK {L : Nat → Int → Option Bool} (len : Nat) (p : Nat → Bool) (K : Option Bool) (hl : len ≤ maxLen)
    (hs : ∀ (n i : Nat), i < len → L (n + 1) (i : Int) = if p i = true then L n (IntKind.i64.wrap ((i : Int) + 1)) else some false) (he : ∀ n, L (n + 1) (len : Int) = K) : L bigN 0 = if (List.range len).all p = true then K else some false := by
  have := range_loop L len hl (fun i r => if p i = true then r else some false) K hs he len 0 bigN (by omega) (lt_bigN hl)
  rw [foldr_all (len := len), ← List.range_eq_range'] at this
  exact this
theorem any_loopK {L : Nat → Int → Option Bool} (len : Nat) (p : Nat → Bool) (K : Option Bool) (hl : len ≤ maxLen)
    (hs : ∀ (n i : Nat), i < len → L (n + 1) (i : Int) = if p i = true then some false else L n (IntKind.i64.wrap ((i : Int) + 1))) (he : ∀ n, L (n + 1) (len : Int) = K) : L bigN 0 = if (List.range len).any p = true then some false else K := by
  have := range_loop L len hl (fun i r => if p i = true then some false else r) K hs he len 0 bigN (by omega) (lt_bigN hl)
  rw [foldr_any (len := len), ← List.range_eq_range'] at this
  exact this

/-! Names -/
def nmOk (s : List UInt8) (i : Nat) : Bool := match s[i]? with
  | some b => (decide (97 ≤ (b.toNat : Int)) && decide ((b.toNat : Int) ≤ 122)) || (!(decide (i = 0)) && (decide (48 ≤ (b.toNat : Int)) && decide ((b.toNat : Int) ≤ 57)))
  | none => false
def nmLen (s : List UInt8) : Bool := decide (1 ≤ (s.length : Int)) && decide ((s.length : Int) ≤ 8)
def isName (s : List UInt8) : Bool := nmLen s && (List.range s.length).all (nmOk s)
theorem nm_step (c : Int) (K : Option Bool) (z' : Bool) (z : Int) (i : Nat) (hz : z = (i : Int)) :
    (if decide (97 ≤ c) = true then (if decide (c ≤ 122) = true then K else if (z == 0) = true then some false else if decide (c < 48) = true then some false else if decide (57 < c) = true then some false else K)
      else if false = true then K else if (z == 0) = true then some false else if decide (c < 48) = true then some false else if decide (57 < c) = true then some false else K) =
    if ((decide (97 ≤ c) && decide (c ≤ 122)) || (!(decide (i = 0)) && (decide (48 ≤ c) && decide (c ≤ 57)))) = true then K else some false := by
  subst hz
  have e0 : (((i : Nat) : Int) == 0) = decide (i = 0) := by rw [Bool.eq_iff_iff]; simp
  have e1 : decide (c < 48) = !decide (48 ≤ c) := by rw [Bool.eq_iff_iff]; simp
  have e2 : decide (57 < c) = !decide (c ≤ 57) := by rw [Bool.eq_iff_iff]; simp
  rw [e0, e1, e2]
  cases decide (i = 0) <;> cases decide (97 ≤ c) <;> cases decide (c ≤ 122) <;> cases decide (48 ≤ c) <;> cases decide (c ≤ 57) <;> rfl
theorem spec_IsName_eq {s : List UInt8} (h : s.length ≤ maxLen) : f_spec_IsName s = some (isName s) := by
  unfold f_spec_IsName
  rw [all_loopK (L := f_spec_IsName_1 s) s.length (nmOk s) (some (nmLen s)) h (fun n i hi => ?_) (fun n => by simp [f_spec_IsName_1, l01In_eq, nmLen])]
  · unfold isName
    cases (List.range s.length).all (nmOk s) <;> simp
  · simp only [f_spec_IsName_1, f_spec_IsName_2, f_spec_IsName_3, ix_nn, nmOk, List.getElem?_eq_getElem hi, Option.bind_some, dec_nn, hi, decide_true, if_true]
    exact nm_step _ _ true (i : Int) i rfl
theorem impl_IsName_eq {s : List UInt8} (h : s.length ≤ maxLen) : f_impl_IsName s = some (isName s) := by
  unfold f_impl_IsName
  rw [within_eq]
  rw [all_loopK (L := f_impl_IsName_1 s) s.length (nmOk s) (some true) h (fun n i hi => ?_) (fun n => by simp [f_impl_IsName_1])]
  · unfold isName nmLen
    simp only [Option.bind_some]
    cases (List.range s.length).all (nmOk s) <;> cases (decide (1 ≤ (s.length : Int)) && decide ((s.length : Int) ≤ 8)) <;> simp
  · simp only [f_impl_IsName_1, f_impl_IsName_2, f_impl_IsName_3, ix_nn, nmOk, List.getElem?_eq_getElem hi, Option.bind_some, dec_nn, hi, decide_true, if_true]
    exact nm_step _ _ true (i : Int) i rfl

/-! Points and segments -/
theorem foldr_first {R : Type} (p : Nat → Bool) (f : Nat → R) (z : R) : ∀ (k i : Nat), (List.range' i k).foldr (fun i r => if p i = true then some (f i) else r) (some z) = some ((List.range' i k).foldr (fun i r => if p i = true then f i else r) z)
  | 0, i => by simp
  | k + 1, i => by
    rw [List.range'_succ, List.foldr_cons, foldr_first p f z k (i + 1), List.foldr_cons]
    cases p i <;> simp
def ptIs (xs : List XPoint) (s : List UInt8) (i : Nat) : Bool := match xs[i]? with
  | some x => decide (x.Name = s)
  | none => false
def ptNamed (xs : List XPoint) (s : List UInt8) : Int := (List.range' 0 xs.length).foldr (fun i r => if ptIs xs s i = true then (i : Int) else r) (-1)
theorem spec_PointNamed_eq {c : XChart} {s : List UInt8} (h : c.Points.length ≤ maxLen) : f_spec_PointNamed c s = some (ptNamed c.Points s) := by
  unfold f_spec_PointNamed
  exact (range_loop (f_spec_PointNamed_1 s c) c.Points.length h (fun i r => if ptIs c.Points s i = true then some (i : Int) else r) (some (-1)) (fun n i hi => by simp [f_spec_PointNamed_1, ix_nn, hi, ptIs]) (fun n => by simp [f_spec_PointNamed_1]) c.Points.length 0 bigN (by omega) (lt_bigN h)).trans (foldr_first _ _ _ _ _)
theorem impl_PointNamed_eq {c : XChart} {s : List UInt8} (h : c.Points.length ≤ maxLen) : f_impl_PointNamed c s = some (ptNamed c.Points s) := by
  unfold f_impl_PointNamed
  exact (range_loop (f_impl_PointNamed_1 s c) c.Points.length h (fun i r => if ptIs c.Points s i = true then some (i : Int) else r) (some (-1)) (fun n i hi => by simp [f_impl_PointNamed_1, ix_nn, hi, ptIs]) (fun n => by simp [f_impl_PointNamed_1]) c.Points.length 0 bigN (by omega) (lt_bigN h)).trans (foldr_first _ _ _ _ _)
def jn (y : XSegment) (a b : Int) : Bool := (decide (y.A = a) && decide (y.B = b)) || (decide (y.A = b) && decide (y.B = a))
theorem spec_joins_eq (y : XSegment) (a b : Int) : f_spec_l05Joins y a b = some (jn y a b) := by
  unfold f_spec_l05Joins jn
  by_cases h1 : y.A = a <;> by_cases h2 : y.B = b <;> by_cases h3 : y.A = b <;> by_cases h4 : y.B = a <;> simp_all
theorem impl_joins_eq (y : XSegment) (a b : Int) : f_impl_Segment_joins y a b = some (jn y a b) := by
  unfold f_impl_Segment_joins jn
  by_cases h1 : y.A = a <;> by_cases h2 : y.B = b <;> by_cases h3 : y.A = b <;> by_cases h4 : y.B = a <;> simp_all
end Go.Vi
