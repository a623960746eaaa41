/-
  Plain laws of harbours: lists, names, charts, fleets, passages, tides, forecasts. No condition.
-/
import Derived.Test.YtldjoojbhbbhdaaGreatGNf
import Derived.Test.YtldjoojbhbbhdaaGreatGVi33
namespace Go.Vi
set_option linter.unusedSimpArgs false
set_option linter.unusedVariables false

def i64 (n : Int) : Prop := -9223372036854775808 ≤ n ∧ n ≤ 9223372036854775807
theorem l01In_eq (n lo hi : Int) : f_spec_l01In n lo hi = some (decide (lo ≤ n) && decide (n ≤ hi)) := by
  unfold f_spec_l01In
  by_cases h : lo ≤ n <;> simp [h]
theorem within_eq (n lo hi : Int) : f_impl_within n lo hi = some (decide (lo ≤ n) && decide (n ≤ hi)) := by
  unfold f_impl_within
  by_cases h : lo ≤ n <;> simp [h]
theorem mkS_len {n bytes : Nat} (h : n ≤ 1048576) (hb : bytes ≤ 1000) : mkS (n : Int) (n : Int) bytes = some n := by
  unfold mkS
  have : (n : Int) * (bytes : Int) ≤ 140737488355328 := by
    have : n * bytes ≤ 1048576 * 1000 := Nat.mul_le_mul h hb
    have e : ((n * bytes : Nat) : Int) = (n : Int) * (bytes : Int) := by simp
    omega
  rw [if_pos ⟨by omega, by omega, this, by omega⟩]
  simp
theorem le_max {n : Nat} (h : n ≤ 1048576) : n ≤ maxLen := by rw [maxLen_val]; omega
theorem toIntS_eq {xs : List Int} (h : xs.length ≤ 1048576) : f_laws_toIntS xs = some xs := by
  unfold f_laws_toIntS
  rw [mkS_len h (by omega)]
  have := copy_loop (L := f_laws_toIntS_1 xs) xs id (le_max h) (fun n i acc hi ha => by simp [f_laws_toIntS_1, ix_nn, hi, ha]) (fun n acc => by simp [f_laws_toIntS_1]) (List.replicate xs.length 0) (by simp)
  simpa using this
theorem eqIntS_eq {xs ys : List Int} (h : xs.length ≤ maxLen) : f_laws_eqIntS xs ys = some (decide (xs = ys)) := by
  unfold f_laws_eqIntS
  by_cases hl : xs.length = ys.length
  · have := eq_loop (L := f_laws_eqIntS_1 xs ys) xs ys h hl (fun n i h1 h2 => by simp [f_laws_eqIntS_1, ix_nn, h1, h2]) (fun n => by simp [f_laws_eqIntS_1])
    simp [hl, this]
  · have : ¬ (xs.length : Int) = ys.length := by omega
    have : xs ≠ ys := fun e => hl (by rw [e])
    simp_all
def pickOk (x : Int) : Bool := decide (0 ≤ x) && decide (x ≤ 1000)
def picksOk (xs : List Int) : Bool := (decide (1 ≤ (xs.length : Int)) && decide ((xs.length : Int) ≤ 48)) && xs.all pickOk
theorem spec_PicksOk_eq {xs : List Int} (h : xs.length ≤ maxLen) : f_spec_PicksOk xs = some (picksOk xs) := by
  have := all_loop (L := f_spec_PicksOk_1 xs) xs pickOk h (fun n i hi => by simp [f_spec_PicksOk_1, ix_nn, hi, l01In_eq, pickOk]) (fun n => by simp [f_spec_PicksOk_1])
  simp only [f_spec_PicksOk, l01In_eq, Option.bind_some, this, picksOk]
  cases (decide (1 ≤ (xs.length : Int)) && decide ((xs.length : Int) ≤ 48)) <;> simp
theorem impl_PicksOk_eq {xs : List Int} (h : xs.length ≤ maxLen) : f_impl_PicksOk xs = some (picksOk xs) := by
  have := all_loop (L := f_impl_PicksOk_1 xs) xs pickOk h (fun n i hi => by simp [f_impl_PicksOk_1, ix_nn, hi, within_eq, pickOk]) (fun n => by simp [f_impl_PicksOk_1])
  simp only [f_impl_PicksOk, within_eq, Option.bind_some, this, picksOk]
  cases (decide (1 ≤ (xs.length : Int)) && decide ((xs.length : Int) ≤ 48)) <;> simp
theorem len_ok {α : Type} {row : α → List D} {xs : List α} (h : (D.sl (List.map row xs)).Ok) : xs.length ≤ maxLen := by simpa using h.sl.1
theorem isMinute_eq (n : Int) : f_impl_isMinute n = some (decide (0 ≤ n) && decide (n ≤ 2880)) := by simp [f_impl_isMinute, within_eq]
theorem foldr_all {len : Nat} (p : Nat → Bool) (K : Option Bool) : ∀ (k i : Nat), (List.range' i k).foldr (fun i r => if p i = true then r else some false) K = if (List.range' i k).all p = true then K else some false
  | 0, i => by simp
  | k + 1, i => by
    rw [List.range'_succ, List.foldr_cons, foldr_all (len := len) p K k (i + 1), List.all_cons]
    cases p i <;> rfl
theorem foldr_any {len : Nat} (p : Nat → Bool) (K : Option Bool) : ∀ (k i : Nat), (List.range' i k).foldr (fun i r => if p i = true then some false else r) K = if (List.range' i k).any p = true then some false else K
  | 0, i => by simp
  | k + 1, i => by
    rw [List.range'_succ, List.foldr_cons, foldr_any (len := len) p K k (i + 1), List.any_cons]
    cases p i <;> rfl
theorem all_loopK {L : Nat → Int → Option Bool} (len : Nat) (p : Nat → Bool) (K : Option Bool) (hl : len ≤ maxLen)
    (hs : ∀ (n i : Nat), i < len → L (n + 1) (i : Int) = if p i = true then L n (IntKind.i64.wrap ((i : Int) + 1)) else some false) (he : ∀ n, L (n + 1) (len : Int) = K) : L bigN 0 = if (List.range len).all p = true then K else some false := by
  have := range_loop L len hl (fun i r => if p i = true then r else some false) K hs he len 0 bigN (by omega) (lt_bigN hl)
  rw [foldr_all (len := len), ← List.range_eq_range'] at this
  exact this
theorem any_loopK {L : Nat → Int → Option Bool} (len : Nat) (p : Nat → Bool) (K : Option Bool) (hl : len ≤ maxLen)
    (hs : ∀ (n i : Nat), i < len → L (n + 1) (i : Int) = if p i = true then some false else L n (IntKind.i64.wrap ((i : Int) + 1))) (he : ∀ n, L (n + 1) (len : Int) = K) : L bigN 0 = if (List.range len).any p = true then some false else K := by
  have := range_loop L len hl (fun i r => if p i = true then some false else r) K hs he len 0 bigN (by omega) (lt_bigN hl)
  rw [foldr_any (len := len), ← List.range_eq_range'] at this
  exact this
def nmOk (s : List UInt8) (i : Nat) : Bool := match s[i]? with
  | some b => (decide (97 ≤ (b.toNat : Int)) && decide ((b.toNat : Int) ≤ 122)) || (!(decide (i = 0)) && (decide (48 ≤ (b.toNat : Int)) && decide ((b.toNat : Int) ≤ 57)))
  | none => false
def nmLen (s : List UInt8) : Bool := decide (1 ≤ (s.length : Int)) && decide ((s.length : Int) ≤ 8)
def isName (s : List UInt8) : Bool := nmLen s && (List.range s.length).all (nmOk s)
theorem nm_step (c : Int) (K : Option Bool) (z' : Bool) (z : Int) (i : Nat) (hz : z = (i : Int)) :
    (if decide (97 ≤ c) = true then (if decide (c ≤ 122) = true then K else if (z == 0) = true then some false else if decide (c < 48) = true then some false else if decide (57 < c) = true then some false else K)
      else if false = true then K else if (z == 0) = true then some false else if decide (c < 48) = true then some false else if decide (57 < c) = true then some false else K) =
    if ((decide (97 ≤ c) && decide (c ≤ 122)) || (!(decide (i = 0)) && (decide (48 ≤ c) && decide (c ≤ 57)))) = true then K else some false := by
  subst hz
  have e0 : (((i : Nat) : Int) == 0) = decide (i = 0) := by rw [Bool.eq_iff_iff]; simp
  have e1 : decide (c < 48) = !decide (48 ≤ c) := by rw [Bool.eq_iff_iff]; simp
  have e2 : decide (57 < c) = !decide (c ≤ 57) := by rw [Bool.eq_iff_iff]; simp
  rw [e0, e1, e2]
  cases decide (i = 0) <;> cases decide (97 ≤ c) <;> cases decide (c ≤ 122) <;> cases decide (48 ≤ c) <;> cases decide (c ≤ 57) <;> rfl
theorem spec_IsName_eq {s : List UInt8} (h : s.length ≤ maxLen) : f_spec_IsName s = some (isName s) := by
  unfold f_spec_IsName
  rw [all_loopK (L := f_spec_IsName_1 s) s.length (nmOk s) (some (nmLen s)) h (fun n i hi => ?_) (fun n => by simp [f_spec_IsName_1, l01In_eq, nmLen])]
  · unfold isName
    cases (List.range s.length).all (nmOk s) <;> simp
  · simp only [f_spec_IsName_1, f_spec_IsName_2, f_spec_IsName_3, ix_nn, nmOk, List.getElem?_eq_getElem hi, Option.bind_some, dec_nn, hi, decide_true, if_true]
    exact nm_step _ _ true (i : Int) i rfl
theorem impl_IsName_eq {s : List UInt8} (h : s.length ≤ maxLen) : f_impl_IsName s = some (isName s) := by
  unfold f_impl_IsName
  rw [within_eq]
  rw [all_loopK (L := f_impl_IsName_1 s) s.length (nmOk s) (some true) h (fun n i hi => ?_) (fun n => by simp [f_impl_IsName_1])]
  · unfold isName nmLen
    simp only [Option.bind_some]
    cases (List.range s.length).all (nmOk s) <;> cases (decide (1 ≤ (s.length : Int)) && decide ((s.length : Int) ≤ 8)) <;> simp
  · simp only [f_impl_IsName_1, f_impl_IsName_2, f_impl_IsName_3, ix_nn, nmOk, List.getElem?_eq_getElem hi, Option.bind_some, dec_nn, hi, decide_true, if_true]
    exact nm_step _ _ true (i : Int) i rfl
theorem foldr_first {R : Type} (p : Nat → Bool) (f : Nat → R) (z : R) : ∀ (k i : Nat), (List.range' i k).foldr (fun i r => if p i = true then some (f i) else r) (some z) = some ((List.range' i k).foldr (fun i r => if p i = true then f i else r) z)
  | 0, i => by simp
  | k + 1, i => by
    rw [List.range'_succ, List.foldr_cons, foldr_first p f z k (i + 1), List.foldr_cons]
    cases p i <;> simp
def ptIs (xs : List XPoint) (s : List UInt8) (i : Nat) : Bool := match xs[i]? with
  | some x => decide (x.Name = s)
  | none => false
def ptNamed (xs : List XPoint) (s : List UInt8) : Int := (List.range' 0 xs.length).foldr (fun i r => if ptIs xs s i = true then (i : Int) else r) (-1)
theorem spec_PointNamed_eq {c : XChart} {s : List UInt8} (h : c.Points.length ≤ maxLen) : f_spec_PointNamed c s = some (ptNamed c.Points s) := by
  unfold f_spec_PointNamed
  exact (range_loop (f_spec_PointNamed_1 s c) c.Points.length h (fun i r => if ptIs c.Points s i = true then some (i : Int) else r) (some (-1)) (fun n i hi => by simp [f_spec_PointNamed_1, ix_nn, hi, ptIs]) (fun n => by simp [f_spec_PointNamed_1]) c.Points.length 0 bigN (by omega) (lt_bigN h)).trans (foldr_first _ _ _ _ _)
theorem impl_PointNamed_eq {c : XChart} {s : List UInt8} (h : c.Points.length ≤ maxLen) : f_impl_PointNamed c s = some (ptNamed c.Points s) := by
  unfold f_impl_PointNamed
  exact (range_loop (f_impl_PointNamed_1 s c) c.Points.length h (fun i r => if ptIs c.Points s i = true then some (i : Int) else r) (some (-1)) (fun n i hi => by simp [f_impl_PointNamed_1, ix_nn, hi, ptIs]) (fun n => by simp [f_impl_PointNamed_1]) c.Points.length 0 bigN (by omega) (lt_bigN h)).trans (foldr_first _ _ _ _ _)
def jn (y : XSegment) (a b : Int) : Bool := (decide (y.A = a) && decide (y.B = b)) || (decide (y.A = b) && decide (y.B = a))
theorem spec_joins_eq (y : XSegment) (a b : Int) : f_spec_l05Joins y a b = some (jn y a b) := by
  unfold f_spec_l05Joins jn
  by_cases h1 : y.A = a <;> by_cases h2 : y.B = b <;> by_cases h3 : y.A = b <;> by_cases h4 : y.B = a <;> simp_all
theorem impl_joins_eq (y : XSegment) (a b : Int) : f_impl_Segment_joins y a b = some (jn y a b) := by
  unfold f_impl_Segment_joins jn
  by_cases h1 : y.A = a <;> by_cases h2 : y.B = b <;> by_cases h3 : y.A = b <;> by_cases h4 : y.B = a <;> simp_all
theorem szIntS_of {xs : List Int} {l : Int} (h0 : 0 ≤ l) (h1 : l ≤ 1048576) (hx : xs.length ≤ maxLen) : ∃ r, f_laws_szIntS xs l = some r ∧ (0 ≤ r → r ≤ l ∧ xs.length ≤ 1048576) := by
  unfold f_laws_szIntS
  rw [maxLen_val] at hx
  rw [wrap64 (by omega) (by omega)]
  by_cases h : l - (xs.length : Int) < 0
  · exact ⟨-1, by simp [h], by omega⟩
  · exact ⟨l - xs.length, by simp [h], by omega⟩
theorem isIndex_eq (i n : Int) : f_impl_isIndex i n = some (decide (0 ≤ i) && decide (i < n)) := by
  unfold f_impl_isIndex
  by_cases h : 0 ≤ i <;> simp [h]
def idx (i : Int) (n : Nat) : Bool := decide (0 ≤ i) && decide (i < (n : Int))
theorem in_idx (i : Int) {n : Nat} (h : n ≤ 1000) : (decide (0 ≤ i) && decide (i ≤ IntKind.i64.wrap ((n : Int) - 1))) = idx i n := by
  rw [wrap64 (by omega) (by omega)]
  unfold idx
  congr 1
  rw [Bool.eq_iff_iff]
  simp
  omega
def segOk (c : XChart) (i : Nat) : Bool := match c.Segments[i]? with
  | some x => idx x.A c.Points.length && (idx x.B c.Points.length && (!(decide (x.A = x.B)) && ((decide (0 ≤ x.Depth) && decide (x.Depth ≤ 3000)) && ((decide (1 ≤ x.Minutes) && decide (x.Minutes ≤ 240)) && !((List.range i).any fun j => match c.Segments[j]? with | some y => jn y x.A x.B | none => false)))))
  | none => false
def ptOk (c : XChart) (i : Nat) : Bool := match c.Points[i]? with
  | some x => isName x.Name && decide (ptNamed c.Points x.Name = (i : Int))
  | none => false
def chartOk (c : XChart) : Bool := decide (c.Points.length ≤ 8) && (decide (c.Segments.length ≤ 10) && ((List.range c.Points.length).all (ptOk c) && (List.range c.Segments.length).all (segOk c)))
theorem bnd_take {n i : Nat} (h : i ≤ n) : bnd (n : Int) (i : Int) (0 : Int) n = some (0, i) := by
  unfold bnd
  rw [if_pos ⟨by omega, by omega, by omega, by omega⟩]
  simp
theorem take_at {α : Type} {l : List α} {i j : Nat} (hj : j < i) : (l.take i)[j]? = l[j]? := by simp [List.getElem?_take, hj]
theorem spec_ChartOk_eq {c : XChart} (hn : ∀ x ∈ c.Points, x.Name.length ≤ maxLen) : f_spec_ChartOk c = some (chartOk c) := by
  unfold f_spec_ChartOk chartOk
  by_cases h1 : c.Points.length ≤ 8
  · have h1' : ¬ (8 : Int) < c.Points.length := by omega
    by_cases h2 : c.Segments.length ≤ 10
    · have h2' : ¬ (10 : Int) < c.Segments.length := by omega
      have hp : c.Points.length ≤ maxLen := by rw [maxLen_val]; omega
      have hs : c.Segments.length ≤ maxLen := by rw [maxLen_val]; omega
      have inner : f_spec_ChartOk_2 c bigN 0 = some ((List.range c.Segments.length).all (segOk c)) := by
        rw [all_loopK (L := f_spec_ChartOk_2 c) c.Segments.length (segOk c) (some true) hs (fun n i hi => ?_) (fun n => by simp [f_spec_ChartOk_2])]
        · cases (List.range c.Segments.length).all (segOk c) <;> rfl
        · simp only [f_spec_ChartOk_2, ix_nn, List.getElem?_eq_getElem hi, Option.bind_some, dec_nn, hi, decide_true, if_true, l01In_eq, in_idx _ (show c.Points.length ≤ 1000 by omega), bnd_take (Nat.le_of_lt hi), segOk, List.drop_zero, Nat.sub_zero]
          have hl : (c.Segments.take i).length = i := by simp; omega
          rw [hl]
          rw [any_loopK (L := f_spec_ChartOk_3 c i c.Segments[i] (c.Segments.take i) (i : Int) (f_spec_ChartOk_2 c n)) i (fun j => match c.Segments[j]? with | some y => jn y c.Segments[i].A c.Segments[i].B | none => false)
            (f_spec_ChartOk_2 c n (IntKind.i64.wrap ((i : Int) + 1))) (by omega) (fun m j hj => by
              have hj2 : j < c.Segments.length := by omega
              simp only [f_spec_ChartOk_3, ix_nn, take_at hj, List.getElem?_eq_getElem hj2, Option.bind_some, dec_nn, hj, decide_true, if_true, spec_joins_eq]) (fun m => by simp [f_spec_ChartOk_3])]
          have e : (c.Segments[i].A == c.Segments[i].B) = decide (c.Segments[i].A = c.Segments[i].B) := rfl
          rw [e]
          cases idx c.Segments[i].A c.Points.length <;> cases idx c.Segments[i].B c.Points.length <;> cases decide (c.Segments[i].A = c.Segments[i].B) <;> cases (decide (0 ≤ c.Segments[i].Depth) && decide (c.Segments[i].Depth ≤ 3000)) <;>
            cases (decide (1 ≤ c.Segments[i].Minutes) && decide (c.Segments[i].Minutes ≤ 240)) <;> cases ((List.range i).any fun j => match c.Segments[j]? with | some y => jn y c.Segments[i].A c.Segments[i].B | none => false) <;> rfl
      rw [all_loopK (L := f_spec_ChartOk_1 c) c.Points.length (ptOk c) _ hp (fun n i hi => ?_) (fun n => by simp only [f_spec_ChartOk_1, Int.lt_irrefl, decide_false, Bool.false_eq_true, if_false]; exact inner)]
      · simp only [h1, h2, h1', h2', decide_true, decide_false, Bool.true_and, Bool.false_eq_true, if_false]
        cases (List.range c.Points.length).all (ptOk c) <;> rfl
      · simp only [f_spec_ChartOk_1, ix_nn, List.getElem?_eq_getElem hi, Option.bind_some, dec_nn, hi, decide_true, if_true, spec_IsName_eq (hn _ (List.getElem_mem hi)), spec_PointNamed_eq hp, ptOk]
        by_cases e : ptNamed c.Points c.Points[i].Name = (i : Int) <;> cases isName c.Points[i].Name <;> simp [e]
    · have h2' : (10 : Int) < c.Segments.length := by omega
      simp [h1, h1', h2, h2']
  · have h1' : (8 : Int) < c.Points.length := by omega
    simp [h1, h1']
theorem impl_ChartOk_eq {c : XChart} (hn : ∀ x ∈ c.Points, x.Name.length ≤ maxLen) : f_impl_ChartOk c = some (chartOk c) := by
  unfold f_impl_ChartOk chartOk
  by_cases h1 : c.Points.length ≤ 8
  · have h1' : ¬ (8 : Int) < c.Points.length := by omega
    by_cases h2 : c.Segments.length ≤ 10
    · have h2' : ¬ (10 : Int) < c.Segments.length := by omega
      have hp : c.Points.length ≤ maxLen := by rw [maxLen_val]; omega
      have hs : c.Segments.length ≤ maxLen := by rw [maxLen_val]; omega
      have inner : f_impl_ChartOk_2 c bigN 0 = some ((List.range c.Segments.length).all (segOk c)) := by
        rw [all_loopK (L := f_impl_ChartOk_2 c) c.Segments.length (segOk c) (some true) hs (fun n i hi => ?_) (fun n => by simp [f_impl_ChartOk_2])]
        · cases (List.range c.Segments.length).all (segOk c) <;> rfl
        · simp only [f_impl_ChartOk_2, ix_nn, List.getElem?_eq_getElem hi, Option.bind_some, dec_nn, hi, decide_true, if_true, within_eq, isIndex_eq, show ∀ (a : Int) (n : Nat), (decide (0 ≤ a) && decide (a < (n : Int))) = idx a n from fun _ _ => rfl, bnd_take (Nat.le_of_lt hi), segOk, List.drop_zero, Nat.sub_zero]
          have hl : (c.Segments.take i).length = i := by simp; omega
          rw [hl]
          rw [any_loopK (L := f_impl_ChartOk_3 c i c.Segments[i] (c.Segments.take i) (i : Int) (f_impl_ChartOk_2 c n)) i (fun j => match c.Segments[j]? with | some y => jn y c.Segments[i].A c.Segments[i].B | none => false)
            (f_impl_ChartOk_2 c n (IntKind.i64.wrap ((i : Int) + 1))) (by omega) (fun m j hj => by
              have hj2 : j < c.Segments.length := by omega
              simp only [f_impl_ChartOk_3, ix_nn, take_at hj, List.getElem?_eq_getElem hj2, Option.bind_some, dec_nn, hj, decide_true, if_true, impl_joins_eq]) (fun m => by simp [f_impl_ChartOk_3])]
          have e : (c.Segments[i].A == c.Segments[i].B) = decide (c.Segments[i].A = c.Segments[i].B) := rfl
          rw [e]
          cases idx c.Segments[i].A c.Points.length <;> cases idx c.Segments[i].B c.Points.length <;> cases decide (c.Segments[i].A = c.Segments[i].B) <;> cases (decide (0 ≤ c.Segments[i].Depth) && decide (c.Segments[i].Depth ≤ 3000)) <;>
            cases (decide (1 ≤ c.Segments[i].Minutes) && decide (c.Segments[i].Minutes ≤ 240)) <;> cases ((List.range i).any fun j => match c.Segments[j]? with | some y => jn y c.Segments[i].A c.Segments[i].B | none => false) <;> rfl
      rw [all_loopK (L := f_impl_ChartOk_1 c) c.Points.length (ptOk c) _ hp (fun n i hi => ?_) (fun n => by simp only [f_impl_ChartOk_1, Int.lt_irrefl, decide_false, Bool.false_eq_true, if_false]; exact inner)]
      · simp only [h1, h2, h1', h2', decide_true, decide_false, Bool.true_and, Bool.false_eq_true, if_false]
        cases (List.range c.Points.length).all (ptOk c) <;> rfl
      · simp only [f_impl_ChartOk_1, ix_nn, List.getElem?_eq_getElem hi, Option.bind_some, dec_nn, hi, decide_true, if_true, impl_IsName_eq (hn _ (List.getElem_mem hi)), impl_PointNamed_eq hp, ptOk]
        by_cases e : ptNamed c.Points c.Points[i].Name = (i : Int) <;> cases isName c.Points[i].Name <;> simp [e]
    · have h2' : (10 : Int) < c.Segments.length := by omega
      simp [h1, h1', h2, h2']
  · have h1' : (8 : Int) < c.Points.length := by omega
    simp [h1, h1']
theorem toPointS_eq {xs : List XPoint} (h : xs.length ≤ 1048576) : f_laws_toPointS xs = some xs := by
  unfold f_laws_toPointS
  rw [mkS_len h (by omega)]
  have := copy_loop (L := f_laws_toPointS_1 xs) xs id (le_max h) (fun n i acc hi ha => by simp [f_laws_toPointS_1, ix_nn, hi, ha, f_laws_toPoint]) (fun n acc => by simp [f_laws_toPointS_1]) (List.replicate xs.length ⟨[], false⟩) (by simp)
  simpa using this
theorem toSegmentS_eq {xs : List XSegment} (h : xs.length ≤ 1048576) : f_laws_toSegmentS xs = some xs := by
  unfold f_laws_toSegmentS
  rw [mkS_len h (by omega)]
  have := copy_loop (L := f_laws_toSegmentS_1 xs) xs id (le_max h) (fun n i acc hi ha => by simp [f_laws_toSegmentS_1, ix_nn, hi, ha, f_laws_toSegment]) (fun n acc => by simp [f_laws_toSegmentS_1]) (List.replicate xs.length ⟨0, 0, 0, 0, false⟩) (by simp)
  simpa using this
theorem toChart_eq {c : XChart} (h1 : c.Points.length ≤ 1048576) (h2 : c.Segments.length ≤ 1048576) : f_laws_toChart c = some c := by
  simp [f_laws_toChart, toPointS_eq h1, toSegmentS_eq h2]
theorem eqPoint_eq (x y : XPoint) : f_laws_eqPoint x y = some (decide (x = y)) := by
  unfold f_laws_eqPoint
  cases x; cases y
  simp only [XPoint.mk.injEq]
  repeat' split
  all_goals simp_all
theorem eqPointS_eq {xs ys : List XPoint} (h : xs.length ≤ maxLen) : f_laws_eqPointS xs ys = some (decide (xs = ys)) := by
  unfold f_laws_eqPointS
  by_cases hl : xs.length = ys.length
  · have := eq_loop (L := f_laws_eqPointS_1 xs ys) xs ys h hl (fun n i h1 h2 => by simp [f_laws_eqPointS_1, ix_nn, h1, h2, eqPoint_eq]) (fun n => by simp [f_laws_eqPointS_1])
    simp [hl, this]
  · have : ¬ (xs.length : Int) = ys.length := by omega
    have : xs ≠ ys := fun e => hl (by rw [e])
    simp_all
theorem eqSegment_eq (x y : XSegment) : f_laws_eqSegment x y = some (decide (x = y)) := by
  unfold f_laws_eqSegment
  cases x; cases y
  simp only [XSegment.mk.injEq]
  repeat' split
  all_goals simp_all
theorem eqSegmentS_eq {xs ys : List XSegment} (h : xs.length ≤ maxLen) : f_laws_eqSegmentS xs ys = some (decide (xs = ys)) := by
  unfold f_laws_eqSegmentS
  by_cases hl : xs.length = ys.length
  · have := eq_loop (L := f_laws_eqSegmentS_1 xs ys) xs ys h hl (fun n i h1 h2 => by simp [f_laws_eqSegmentS_1, ix_nn, h1, h2, eqSegment_eq]) (fun n => by simp [f_laws_eqSegmentS_1])
    simp [hl, this]
  · have : ¬ (xs.length : Int) = ys.length := by omega
    have : xs ≠ ys := fun e => hl (by rw [e])
    simp_all
theorem eqChart_self {c : XChart} (h1 : c.Points.length ≤ maxLen) (h2 : c.Segments.length ≤ maxLen) : f_laws_eqChart c c = some true := by
  simp [f_laws_eqChart, eqPointS_eq h1, eqSegmentS_eq h2]
theorem szPoint_of {x : XPoint} {l : Int} (h0 : 0 ≤ l) (h1 : l ≤ 1048576) (hx : x.Name.length ≤ maxLen) : ∃ r, f_laws_szPoint x l = some r ∧ (0 ≤ r → r ≤ l) := by
  unfold f_laws_szPoint
  rw [maxLen_val] at hx
  rw [wrap64 (by omega) (by omega)]
  by_cases h : l - (x.Name.length : Int) < 0
  · exact ⟨-1, by simp [h], by omega⟩
  · exact ⟨l - x.Name.length, by simp [h], by omega⟩
theorem szPointS_of {xs : List XPoint} {l : Int} (h0 : 0 ≤ l) (h1 : l ≤ 1048576) (hx : xs.length ≤ maxLen) (hn : ∀ x ∈ xs, x.Name.length ≤ maxLen) : ∃ r, f_laws_szPointS xs l = some r ∧ (0 ≤ r → r ≤ l ∧ xs.length ≤ 1048576) := by
  unfold f_laws_szPointS
  have hx' := hx
  rw [maxLen_val] at hx'
  rw [wrap64 (by omega) (by omega)]
  by_cases h : l - (xs.length : Int) < 0
  · exact ⟨-1, by simp [h], by omega⟩
  · have key : ∀ (k i n : Nat) (v : Int), i + k = xs.length → k < n → 0 ≤ v → v ≤ l → ∃ r, f_laws_szPointS_1 xs n v (i : Int) = some r ∧ (0 ≤ r → r ≤ l) := by
      intro k
      induction k with
      | zero =>
        intro i n v hi hn2 hv hv2
        obtain ⟨m, rfl⟩ : ∃ m, n = m + 1 := ⟨n - 1, by omega⟩
        have : i = xs.length := by omega
        subst this
        exact ⟨v, by simp [f_laws_szPointS_1], fun _ => hv2⟩
      | succ k ih =>
        intro i n v hi hn2 hv hv2
        obtain ⟨m, rfl⟩ : ∃ m, n = m + 1 := ⟨n - 1, by omega⟩
        have hlt : i < xs.length := by omega
        obtain ⟨r, e, hr⟩ := szPoint_of (x := xs[i]) hv (by omega) (hn _ (List.getElem_mem hlt))
        by_cases hr0 : r < 0
        · exact ⟨-1, by simp [f_laws_szPointS_1, ix_nn, hlt, e, hr0], by omega⟩
        · obtain ⟨r2, e2, h2⟩ := ih (i + 1) m r (by omega) (by omega) (by omega) (by have := hr (by omega); omega)
          refine ⟨r2, ?_, h2⟩
          rw [← wrapS hlt hx] at e2
          simp only [f_laws_szPointS_1, ix_nn, List.getElem?_eq_getElem hlt, Option.bind_some, dec_nn, hlt, decide_true, if_true, e, hr0, decide_false, Bool.false_eq_true, if_false]
          exact e2
    obtain ⟨r, e, hr⟩ := key xs.length 0 bigN (l - xs.length) (by omega) (lt_bigN hx) (by omega) (by omega)
    refine ⟨r, ?_, fun h => ⟨hr h, by omega⟩⟩
    simp only [h, decide_false, Bool.false_eq_true, if_false]
    exact e
theorem szSegmentS_of {xs : List XSegment} {l : Int} (h0 : 0 ≤ l) (h1 : l ≤ 1048576) (hx : xs.length ≤ maxLen) : ∃ r, f_laws_szSegmentS xs l = some r ∧ (0 ≤ r → r ≤ l ∧ xs.length ≤ 1048576) := by
  unfold f_laws_szSegmentS
  rw [maxLen_val] at hx
  rw [wrap64 (by omega) (by omega)]
  by_cases h : l - (xs.length : Int) < 0
  · exact ⟨-1, by simp [h], by omega⟩
  · exact ⟨l - xs.length, by simp [h], by omega⟩
theorem szChart_of {c : XChart} {l : Int} (h0 : 0 ≤ l) (h1 : l ≤ 1048576) (hp : c.Points.length ≤ maxLen) (hs : c.Segments.length ≤ maxLen) (hn : ∀ x ∈ c.Points, x.Name.length ≤ maxLen) :
    ∃ r, f_laws_szChart c l = some r ∧ (0 ≤ r → r ≤ l ∧ c.Points.length ≤ 1048576 ∧ c.Segments.length ≤ 1048576) := by
  unfold f_laws_szChart
  obtain ⟨r, e, h⟩ := szPointS_of h0 h1 hp hn
  by_cases hr : r < 0
  · exact ⟨-1, by simp [e, hr], by omega⟩
  · obtain ⟨k1, k2⟩ := h (by omega)
    obtain ⟨r', e', h'⟩ := szSegmentS_of (xs := c.Segments) (l := r) (by omega) (by omega) hs
    by_cases hr' : r' < 0
    · exact ⟨-1, by simp [e, hr, e', hr'], by omega⟩
    · obtain ⟨k3, k4⟩ := h' (by omega)
      exact ⟨r', by simp [e, hr, e', hr'], fun _ => ⟨by omega, k2, k4⟩⟩
theorem chart_ok {c : XChart} (ok : ∀ d ∈ XChart.row c, d.Ok) : c.Points.length ≤ maxLen ∧ c.Segments.length ≤ maxLen ∧ ∀ x ∈ c.Points, x.Name.length ≤ maxLen := by
  have h1 := ok _ (show D.sl (List.map XPoint.row c.Points) ∈ XChart.row c by simp [XChart.row_eq])
  have h2 := ok _ (show D.sl (List.map XSegment.row c.Segments) ∈ XChart.row c by simp [XChart.row_eq])
  refine ⟨len_ok h1, len_ok h2, fun x hx => ?_⟩
  exact (h1.sl.2 (XPoint.row x) (List.mem_map_of_mem hx) (.str x.Name) (by simp [XPoint.row_eq])).str
theorem name_len {s : List UInt8} (h : isName s = true) : 1 ≤ s.length ∧ s.length ≤ 8 := by
  simp only [isName, nmLen, Bool.and_eq_true, decide_eq_true_eq] at h
  omega
def shipOk (s : XShip) : Bool := isName s.Name && ((decide (10 ≤ s.Length) && decide (s.Length ≤ 400)) && ((decide (100 ≤ s.Draught) && decide (s.Draught ≤ 2000)) && ((decide (0 ≤ s.Line) && decide (s.Line ≤ 3)) && (decide (0 ≤ s.Tugs) && decide (s.Tugs ≤ 4)))))
theorem if_and (a b : Bool) : (if a = true then some b else some false) = some (a && b) := by cases a <;> rfl
theorem spec_ShipOk_eq {s : XShip} (h : s.Name.length ≤ maxLen) : f_spec_ShipOk s = some (shipOk s) := by
  simp only [f_spec_ShipOk, spec_IsName_eq h, l01In_eq, Option.bind_some, if_and, shipOk]
theorem impl_ShipOk_eq {s : XShip} (h : s.Name.length ≤ maxLen) : f_impl_ShipOk s = some (shipOk s) := by
  have e : (decide (0 ≤ s.Line) && decide (s.Line < 4)) = (decide (0 ≤ s.Line) && decide (s.Line ≤ 3)) := by
    congr 1
    rw [Bool.eq_iff_iff]; simp; omega
  simp only [f_impl_ShipOk, impl_IsName_eq h, within_eq, isIndex_eq, Option.bind_some, if_and, shipOk, e]
theorem ship_facts {s : XShip} (h : shipOk s = true) : isName s.Name = true ∧ i64 s.Length ∧ i64 s.Draught ∧ i64 s.Line ∧ i64 s.Tugs := by
  simp only [shipOk, Bool.and_eq_true, decide_eq_true_eq] at h
  unfold i64
  exact ⟨h.1, by omega, by omega, by omega, by omega⟩
def shIs (xs : List XShip) (s : List UInt8) (i : Nat) : Bool := match xs[i]? with
  | some x => decide (x.Name = s)
  | none => false
def shNamed (xs : List XShip) (s : List UInt8) : Int := (List.range' 0 xs.length).foldr (fun i r => if shIs xs s i = true then (i : Int) else r) (-1)
theorem spec_ShipNamed_eq {xs : List XShip} {s : List UInt8} (h : xs.length ≤ maxLen) : f_spec_ShipNamed xs s = some (shNamed xs s) := by
  unfold f_spec_ShipNamed
  exact (range_loop (f_spec_ShipNamed_1 s xs) xs.length h (fun i r => if shIs xs s i = true then some (i : Int) else r) (some (-1)) (fun n i hi => by simp [f_spec_ShipNamed_1, ix_nn, hi, shIs]) (fun n => by simp [f_spec_ShipNamed_1]) xs.length 0 bigN (by omega) (lt_bigN h)).trans (foldr_first _ _ _ _ _)
theorem impl_ShipNamed_eq {xs : List XShip} {s : List UInt8} (h : xs.length ≤ maxLen) : f_impl_ShipNamed xs s = some (shNamed xs s) := by
  unfold f_impl_ShipNamed
  exact (range_loop (f_impl_ShipNamed_1 s xs) xs.length h (fun i r => if shIs xs s i = true then some (i : Int) else r) (some (-1)) (fun n i hi => by simp [f_impl_ShipNamed_1, ix_nn, hi, shIs]) (fun n => by simp [f_impl_ShipNamed_1]) xs.length 0 bigN (by omega) (lt_bigN h)).trans (foldr_first _ _ _ _ _)
def flAt (xs : List XShip) (i : Nat) : Bool := match xs[i]? with
  | some x => shipOk x && decide (shNamed xs x.Name = (i : Int))
  | none => false
def fleetOk (xs : List XShip) : Bool := decide (xs.length ≤ 6) && (List.range xs.length).all (flAt xs)
theorem bne_dec (a b : Int) : (a != b) = !decide (a = b) := rfl
theorem spec_FleetOk_eq {xs : List XShip} (hn : ∀ x ∈ xs, x.Name.length ≤ maxLen) : f_spec_FleetOk xs = some (fleetOk xs) := by
  unfold f_spec_FleetOk fleetOk
  by_cases h : xs.length ≤ 6
  · have h' : ¬ (6 : Int) < xs.length := by omega
    have hm : xs.length ≤ maxLen := by rw [maxLen_val]; omega
    simp only [h, h', decide_true, decide_false, Bool.false_eq_true, if_false, Bool.true_and]
    refine all_loopI (L := f_spec_FleetOk_1 xs) xs.length (flAt xs) hm (fun n i hi => ?_) (fun n => by simp [f_spec_FleetOk_1])
    simp only [f_spec_FleetOk_1, dec_nn, hi, decide_true, if_true, ix_at hi, Option.bind_some, spec_ShipOk_eq (hn _ (List.getElem_mem hi)), spec_ShipNamed_eq hm, flAt, List.getElem?_eq_getElem hi, bne_dec]
    cases shipOk xs[i] <;> by_cases e : shNamed xs xs[i].Name = (i : Int) <;> simp [e]
  · have h' : (6 : Int) < xs.length := by omega
    simp [h, h']
theorem impl_FleetOk_eq {xs : List XShip} (hn : ∀ x ∈ xs, x.Name.length ≤ maxLen) : f_impl_FleetOk xs = some (fleetOk xs) := by
  unfold f_impl_FleetOk fleetOk
  by_cases h : xs.length ≤ 6
  · have h' : ¬ (6 : Int) < xs.length := by omega
    have hm : xs.length ≤ maxLen := by rw [maxLen_val]; omega
    simp only [h, h', decide_true, decide_false, Bool.false_eq_true, if_false, Bool.true_and]
    refine all_loopI (L := f_impl_FleetOk_1 xs) xs.length (flAt xs) hm (fun n i hi => ?_) (fun n => by simp [f_impl_FleetOk_1])
    simp only [f_impl_FleetOk_1, dec_nn, hi, decide_true, if_true, ix_at hi, Option.bind_some, impl_ShipOk_eq (hn _ (List.getElem_mem hi)), impl_ShipNamed_eq hm, flAt, List.getElem?_eq_getElem hi, bne_dec]
    cases shipOk xs[i] <;> by_cases e : shNamed xs xs[i].Name = (i : Int) <;> simp [e]
  · have h' : (6 : Int) < xs.length := by omega
    simp [h, h']
theorem fleet_facts {xs : List XShip} (h : fleetOk xs = true) : xs.length ≤ 6 ∧ ∀ x ∈ xs, shipOk x = true := by
  simp only [fleetOk, Bool.and_eq_true, decide_eq_true_eq, List.all_eq_true, List.mem_range] at h
  refine ⟨h.1, fun x hx => ?_⟩
  obtain ⟨i, hi, rfl⟩ := List.getElem_of_mem hx
  have := h.2 i hi
  simp only [flAt, List.getElem?_eq_getElem hi, Bool.and_eq_true] at this
  exact this.1
def minsOn (x : XSegment) (s : XShip) : Int := if s.Slow = true then IntKind.i64.wrap (2 * x.Minutes) else x.Minutes
theorem spec_minutes_eq (x : XSegment) (s : XShip) : f_spec_l06Minutes x s = some (minsOn x s) := by unfold f_spec_l06Minutes minsOn; split <;> rfl
theorem impl_minutes_eq (x : XSegment) (s : XShip) : f_impl_Ship_minutes s x = some (minsOn x s) := by unfold f_impl_Ship_minutes minsOn; split <;> rfl
def segAt (c : XChart) (i : Int) : XSegment := c.Segments[i.toNat]?.getD ⟨0, 0, 0, 0, false⟩
def shipAt (l : List XShip) (i : Int) : XShip := l[i.toNat]?.getD ⟨[], 0, 0, 0, 0, false⟩
theorem ix_idx {α : Type} {l : List α} {i : Int} (d : α) (h : idx i l.length = true) : ix l i = some (l[i.toNat]?.getD d) ∧ l[i.toNat]?.getD d ∈ l := by
  simp only [idx, Bool.and_eq_true, decide_eq_true_eq] at h
  obtain ⟨k, rfl⟩ : ∃ k : Nat, i = (k : Int) := ⟨i.toNat, by omega⟩
  have hk : k < l.length := by omega
  have e : l[((k : Nat) : Int).toNat]?.getD d = l[k] := by simp [hk]
  rw [ix_at hk, e]
  exact ⟨rfl, List.getElem_mem hk⟩
theorem ix_seg {c : XChart} {i : Int} (h : idx i c.Segments.length = true) : ix c.Segments i = some (segAt c i) ∧ segAt c i ∈ c.Segments := ix_idx _ h
theorem ix_ship {l : List XShip} {i : Int} (h : idx i l.length = true) : ix l i = some (shipAt l i) ∧ shipAt l i ∈ l := ix_idx _ h
theorem idx_l01 (i : Int) {n : Nat} (h : n ≤ 1000) : f_spec_l01In i 0 (IntKind.i64.wrap ((n : Int) - 1)) = some (idx i n) := by rw [l01In_eq, in_idx i h]
theorem idx_impl (i : Int) (n : Nat) : f_impl_isIndex i (n : Int) = some (idx i n) := isIndex_eq i n
theorem toShipS_eq {xs : List XShip} (h : xs.length ≤ 1048576) : f_laws_toShipS xs = some xs := by
  unfold f_laws_toShipS
  rw [mkS_len h (by omega)]
  have := copy_loop (L := f_laws_toShipS_1 xs) xs id (le_max h) (fun n i acc hi ha => by simp [f_laws_toShipS_1, ix_nn, hi, ha, f_laws_toShip]) (fun n acc => by simp [f_laws_toShipS_1]) (List.replicate xs.length ⟨[], 0, 0, 0, 0, false⟩) (by simp)
  simpa using this
theorem eqShip_eq (x y : XShip) : f_laws_eqShip x y = some (decide (x = y)) := by
  unfold f_laws_eqShip
  cases x; cases y
  simp only [XShip.mk.injEq]
  repeat' split
  all_goals simp_all
theorem eqShipS_eq {xs ys : List XShip} (h : xs.length ≤ maxLen) : f_laws_eqShipS xs ys = some (decide (xs = ys)) := by
  unfold f_laws_eqShipS
  by_cases hl : xs.length = ys.length
  · have := eq_loop (L := f_laws_eqShipS_1 xs ys) xs ys h hl (fun n i h1 h2 => by simp [f_laws_eqShipS_1, ix_nn, h1, h2, eqShip_eq]) (fun n => by simp [f_laws_eqShipS_1])
    simp [hl, this]
  · have : ¬ (xs.length : Int) = ys.length := by omega
    have : xs ≠ ys := fun e => hl (by rw [e])
    simp_all
theorem szShip_of {x : XShip} {l : Int} (h0 : 0 ≤ l) (h1 : l ≤ 1048576) (hx : x.Name.length ≤ maxLen) : ∃ r, f_laws_szShip x l = some r ∧ (0 ≤ r → r ≤ l) := by
  unfold f_laws_szShip
  rw [maxLen_val] at hx
  rw [wrap64 (by omega) (by omega)]
  by_cases h : l - (x.Name.length : Int) < 0
  · exact ⟨-1, by simp [h], by omega⟩
  · exact ⟨l - x.Name.length, by simp [h], by omega⟩
theorem szShipS_of {xs : List XShip} {l : Int} (h0 : 0 ≤ l) (h1 : l ≤ 1048576) (hx : xs.length ≤ maxLen) (hn : ∀ x ∈ xs, x.Name.length ≤ maxLen) : ∃ r, f_laws_szShipS xs l = some r ∧ (0 ≤ r → r ≤ l ∧ xs.length ≤ 1048576) := by
  unfold f_laws_szShipS
  have hx' := hx
  rw [maxLen_val] at hx'
  rw [wrap64 (by omega) (by omega)]
  by_cases h : l - (xs.length : Int) < 0
  · exact ⟨-1, by simp [h], by omega⟩
  · have key : ∀ (k i n : Nat) (v : Int), i + k = xs.length → k < n → 0 ≤ v → v ≤ l → ∃ r, f_laws_szShipS_1 xs n v (i : Int) = some r ∧ (0 ≤ r → r ≤ l) := by
      intro k
      induction k with
      | zero =>
        intro i n v hi hn2 hv hv2
        obtain ⟨m, rfl⟩ : ∃ m, n = m + 1 := ⟨n - 1, by omega⟩
        have : i = xs.length := by omega
        subst this
        exact ⟨v, by simp [f_laws_szShipS_1], fun _ => hv2⟩
      | succ k ih =>
        intro i n v hi hn2 hv hv2
        obtain ⟨m, rfl⟩ : ∃ m, n = m + 1 := ⟨n - 1, by omega⟩
        have hlt : i < xs.length := by omega
        obtain ⟨r, e, hr⟩ := szShip_of (x := xs[i]) hv (by omega) (hn _ (List.getElem_mem hlt))
        by_cases hr0 : r < 0
        · exact ⟨-1, by simp [f_laws_szShipS_1, ix_nn, hlt, e, hr0], by omega⟩
        · obtain ⟨r2, e2, h2⟩ := ih (i + 1) m r (by omega) (by omega) (by omega) (by have := hr (by omega); omega)
          refine ⟨r2, ?_, h2⟩
          rw [← wrapS hlt hx] at e2
          simp only [f_laws_szShipS_1, ix_nn, List.getElem?_eq_getElem hlt, Option.bind_some, dec_nn, hlt, decide_true, if_true, e, hr0, decide_false, Bool.false_eq_true, if_false]
          exact e2
    obtain ⟨r, e, hr⟩ := key xs.length 0 bigN (l - xs.length) (by omega) (lt_bigN hx) (by omega) (by omega)
    refine ⟨r, ?_, fun h => ⟨hr h, by omega⟩⟩
    simp only [h, decide_false, Bool.false_eq_true, if_false]
    exact e
theorem ships_ok {xs : List XShip} (ok : (D.sl (List.map XShip.row xs)).Ok) : xs.length ≤ maxLen ∧ ∀ x ∈ xs, x.Name.length ≤ maxLen :=
  ⟨len_ok ok, fun x hx => (ok.sl.2 (XShip.row x) (List.mem_map_of_mem hx) (.str x.Name) (by simp [XShip.row_eq])).str⟩
theorem wrapE (n : Int) : IntKind.i64.wrap n = if n % 18446744073709551616 ≥ 9223372036854775808 then n % 18446744073709551616 - 18446744073709551616 else n % 18446744073709551616 := by
  simp [IntKind.wrap, IntKind.bits, IntKind.signed]
theorem wrap_sub2 (a b : Int) : IntKind.i64.wrap (IntKind.i64.wrap a - IntKind.i64.wrap b) = IntKind.i64.wrap (a - b) := by
  simp only [wrapE]
  repeat' split
  all_goals omega
theorem bind_id {α : Type} (x : Option α) : (x.bind fun r => some r) = x := by cases x <;> rfl
def perOk (p : Int) : Bool := (decide (4 ≤ p) && decide (p ≤ 2880)) && (IntKind.i64.wrap (Int.tmod p 4) == 0)
def partOk (x : XPart) : Bool := (decide (0 ≤ x.Amp) && decide (x.Amp ≤ 1000)) && (perOk x.Period && (decide (0 ≤ x.Phase) && decide (x.Phase ≤ IntKind.i64.wrap (x.Period - 1))))
def tideOk (t : XTide) : Bool := (decide (-1000 ≤ t.Mean) && decide (t.Mean ≤ 1000)) && (decide (t.Parts.length ≤ 4) && t.Parts.all partOk)
theorem spec_PartOk_eq (x : XPart) : f_spec_PartOk x = some (partOk x) := by
  simp only [f_spec_PartOk, l01In_eq, Option.bind_some, partOk, perOk]
  cases (decide (0 ≤ x.Amp) && decide (x.Amp ≤ 1000)) <;> cases (decide (4 ≤ x.Period) && decide (x.Period ≤ 2880)) <;> cases (IntKind.i64.wrap (Int.tmod x.Period 4) == 0) <;> rfl
theorem isPeriod_eq (p : Int) : f_impl_isPeriod p = some (perOk p) := by
  simp only [f_impl_isPeriod, within_eq, Option.bind_some, perOk]
  cases (decide (4 ≤ p) && decide (p ≤ 2880)) <;> rfl
theorem impl_PartOk_eq (x : XPart) : f_impl_PartOk x = some (partOk x) := by
  simp only [f_impl_PartOk, within_eq, isPeriod_eq, Option.bind_some, partOk]
  cases (decide (0 ≤ x.Amp) && decide (x.Amp ≤ 1000)) <;> cases perOk x.Period <;> rfl
theorem spec_TideOk_eq (t : XTide) : f_spec_TideOk t = some (tideOk t) := by
  simp only [f_spec_TideOk, l01In_eq, Option.bind_some, tideOk]
  cases (decide (-1000 ≤ t.Mean) && decide (t.Mean ≤ 1000)) with
  | false => rfl
  | true =>
    by_cases h1 : t.Parts.length ≤ 4
    · have h1' : ¬ (4 : Int) < t.Parts.length := by omega
      rw [all_loop (L := f_spec_TideOk_1 t) t.Parts partOk (by rw [maxLen_val]; omega) (fun n i hi => by simp only [f_spec_TideOk_1, ix_nn, List.getElem?_eq_getElem hi, Option.bind_some, dec_nn, hi, decide_true, if_true, spec_PartOk_eq]) (fun n => by simp [f_spec_TideOk_1])]
      simp [h1, h1']
    · have h1' : (4 : Int) < t.Parts.length := by omega
      simp [h1, h1']
theorem impl_TideOk_eq (t : XTide) : f_impl_TideOk t = some (tideOk t) := by
  simp only [f_impl_TideOk, within_eq, Option.bind_some, tideOk]
  cases (decide (-1000 ≤ t.Mean) && decide (t.Mean ≤ 1000)) with
  | false => rfl
  | true =>
    by_cases h1 : t.Parts.length ≤ 4
    · have h1' : ¬ (4 : Int) < t.Parts.length := by omega
      rw [all_loop (L := f_impl_TideOk_1 t) t.Parts partOk (by rw [maxLen_val]; omega) (fun n i hi => by simp only [f_impl_TideOk_1, ix_nn, List.getElem?_eq_getElem hi, Option.bind_some, dec_nn, hi, decide_true, if_true, impl_PartOk_eq]) (fun n => by simp [f_impl_TideOk_1])]
      simp [h1, h1']
    · have h1' : (4 : Int) < t.Parts.length := by omega
      simp [h1, h1']
def waveV (x p : Int) : Int := if x < IntKind.i64.wrap (Int.tdiv p 2) then
    IntKind.i64.wrap (Int.tdiv (IntKind.i64.wrap (IntKind.i64.wrap (40000 * x) * IntKind.i64.wrap (IntKind.i64.wrap (Int.tdiv p 2) - x))) (IntKind.i64.wrap (IntKind.i64.wrap (Int.tdiv p 2) * IntKind.i64.wrap (Int.tdiv p 2))))
  else IntKind.i64.wrap (0 - IntKind.i64.wrap (Int.tdiv (IntKind.i64.wrap (IntKind.i64.wrap (40000 * IntKind.i64.wrap (x - IntKind.i64.wrap (Int.tdiv p 2))) * IntKind.i64.wrap (IntKind.i64.wrap (Int.tdiv p 2) - IntKind.i64.wrap (x - IntKind.i64.wrap (Int.tdiv p 2))))) (IntKind.i64.wrap (IntKind.i64.wrap (Int.tdiv p 2) * IntKind.i64.wrap (Int.tdiv p 2)))))
theorem per_facts {p : Int} (h : perOk p = true) : 4 ≤ p ∧ p ≤ 2880 ∧ IntKind.i64.wrap (Int.tmod p 4) = 0 := by
  simp only [perOk, Bool.and_eq_true, decide_eq_true_eq, beq_iff_eq] at h
  exact ⟨h.1.1, h.1.2, h.2⟩
theorem half_facts {p : Int} (h1 : 4 ≤ p) (h2 : p ≤ 2880) : (IntKind.i64.wrap (IntKind.i64.wrap (Int.tdiv p 2) * IntKind.i64.wrap (Int.tdiv p 2)) == 0) = false := by
  have e : Int.tdiv p 2 = p / 2 := Int.tdiv_eq_ediv_of_nonneg (by omega)
  rw [e, wrap64 (n := p / 2) (by omega) (by omega)]
  generalize hq : p / 2 = q
  have q1 : 2 ≤ q := by omega
  have q2 : q ≤ 1440 := by omega
  have m1 : 2 * 2 ≤ q * q := Int.mul_le_mul q1 q1 (by omega) (by omega)
  have m2 : q * q ≤ 1440 * 1440 := Int.mul_le_mul q2 q2 (by omega) (by omega)
  rw [wrap64 (by omega) (by omega)]
  simp only [beq_eq_false_iff_ne, ne_eq]
  omega
theorem spec_Wave_eq {n p : Int} (hp : perOk p = true) (hn : 0 ≤ n) (hn2 : n ≤ 100000) : f_spec_Wave n p = some (waveV (Int.tmod n p) p) := by
  obtain ⟨p1, p2, p3⟩ := per_facts hp
  have hm : Int.tmod n p = n % p := Int.tmod_eq_emod_of_nonneg hn
  have r1 := Int.emod_nonneg n (show p ≠ 0 by omega)
  have r2 := Int.emod_lt_of_pos n (show 0 < p by omega)
  unfold f_spec_Wave
  rw [hm, wrap64 (n := n % p) (by omega) (by omega), p3]
  have k1 : ¬ p < 4 := by omega
  have k2 : ¬ 2880 < p := by omega
  have k3 : (p == 0) = false := by simp; omega
  have k4 : ¬ n % p < 0 := by omega
  simp only [k1, k2, k3, k4, decide_false, Bool.false_eq_true, if_false, bne_self_eq_false]
  unfold f_spec_Wave_1 waveV
  rw [half_facts p1 p2]
  simp only [Bool.false_eq_true, if_false, decide_eq_true_eq]
  split <;> rfl
theorem impl_Wave_eq {n p : Int} (hp : perOk p = true) (hn : 0 ≤ n) (hn2 : n ≤ 100000) : f_impl_Wave n p = some (waveV (Int.tmod n p) p) := by
  obtain ⟨p1, p2, p3⟩ := per_facts hp
  have hm : Int.tmod n p = n % p := Int.tmod_eq_emod_of_nonneg hn
  have r1 := Int.emod_nonneg n (show p ≠ 0 by omega)
  have r2 := Int.emod_lt_of_pos n (show 0 < p by omega)
  have k3 : (p == 0) = false := by simp; omega
  have hmm : Int.tmod (n % p + p) p = n % p := by
    rw [Int.tmod_eq_emod_of_nonneg (by omega), Int.add_emod_right, Int.emod_emod]
  unfold f_impl_Wave
  rw [isPeriod_eq, hp, Option.bind_some, hm, wrap64 (n := n % p) (by omega) (by omega), wrap64 (n := n % p + p) (by omega) (by omega), hmm, wrap64 (n := n % p) (by omega) (by omega), half_facts p1 p2]
  simp only [k3, Bool.false_eq_true, if_false, if_true, decide_eq_true_eq]
  unfold waveV
  by_cases hx : n % p < IntKind.i64.wrap (Int.tdiv p 2)
  · rw [if_pos hx, if_neg (by omega)]
  · rw [if_neg hx, if_pos (by omega)]
theorem level_same {t : XTide} {m : Int} (ht : tideOk t = true) (h0 : 0 ≤ m) (h1 : m ≤ 2880) : ∃ r, f_spec_l02Level t m = some r ∧ f_impl_Tide_level t m = some r := by
  simp only [tideOk, Bool.and_eq_true, decide_eq_true_eq, List.all_eq_true] at ht
  obtain ⟨_, hl, hp⟩ := ht
  have hlm : t.Parts.length ≤ maxLen := by rw [maxLen_val]; omega
  have key : ∀ (k i n : Nat) (v : Int), i + k = t.Parts.length → k < n → ∃ r, f_spec_l02Level_1 m t n v (i : Int) = some r ∧ f_impl_Tide_level_1 m t n v (i : Int) = some r := by
    intro k
    induction k with
    | zero =>
      intro i n v hi hn
      obtain ⟨q, rfl⟩ : ∃ q, n = q + 1 := ⟨n - 1, by omega⟩
      have : i = t.Parts.length := by omega
      subst this
      exact ⟨v, by simp [f_spec_l02Level_1], by simp [f_impl_Tide_level_1]⟩
    | succ k ih =>
      intro i n v hi hn
      obtain ⟨q, rfl⟩ : ∃ q, n = q + 1 := ⟨n - 1, by omega⟩
      have hlt : i < t.Parts.length := by omega
      have hx := hp _ (List.getElem_mem hlt)
      simp only [partOk, Bool.and_eq_true, decide_eq_true_eq] at hx
      obtain ⟨_, hx1, hx2, hx3⟩ := hx
      obtain ⟨p1, p2, _⟩ := per_facts hx1
      rw [wrap64 (by omega) (by omega)] at hx3
      have hw := wrap64 (n := m + t.Parts[i].Phase) (by omega) (by omega)
      obtain ⟨r, e1, e2⟩ := ih (i + 1) q (IntKind.i64.wrap (v + IntKind.i64.wrap (Int.tdiv (IntKind.i64.wrap (t.Parts[i].Amp * waveV (Int.tmod (m + t.Parts[i].Phase) t.Parts[i].Period) t.Parts[i].Period)) 10000))) (by omega) (by omega)
      rw [← wrapS hlt hlm] at e1 e2
      refine ⟨r, ?_, ?_⟩
      · simp only [f_spec_l02Level_1, ix_nn, List.getElem?_eq_getElem hlt, Option.bind_some, dec_nn, hlt, decide_true, if_true, hw, spec_Wave_eq hx1 (show 0 ≤ m + t.Parts[i].Phase by omega) (by omega)]
        exact e1
      · simp only [f_impl_Tide_level_1, ix_nn, List.getElem?_eq_getElem hlt, Option.bind_some, dec_nn, hlt, decide_true, if_true, hw, impl_Wave_eq hx1 (show 0 ≤ m + t.Parts[i].Phase by omega) (by omega)]
        exact e2
  exact key t.Parts.length 0 bigN t.Mean (by omega) (lt_bigN hlm)
def surgeOk (x : XSurge) : Bool := (decide (0 ≤ x.From) && decide (x.From ≤ 2880)) && ((decide (-500 ≤ x.Low) && decide (x.Low ≤ 500)) && (decide (x.Low ≤ x.High) && decide (x.High ≤ 500)))
theorem spec_SurgeOk_eq (x : XSurge) : f_spec_SurgeOk x = some (surgeOk x) := by
  simp only [f_spec_SurgeOk, l01In_eq, Option.bind_some, surgeOk]
  cases (decide (0 ≤ x.From) && decide (x.From ≤ 2880)) <;> cases (decide (-500 ≤ x.Low) && decide (x.Low ≤ 500)) <;> rfl
theorem impl_SurgeOk_eq (x : XSurge) : f_impl_SurgeOk x = some (surgeOk x) := by
  simp only [f_impl_SurgeOk, isMinute_eq, Option.bind_some, surgeOk]
  cases (decide (0 ≤ x.From) && decide (x.From ≤ 2880))
  · rfl
  · by_cases a1 : -500 ≤ x.Low <;> by_cases a2 : x.Low ≤ x.High <;> by_cases a3 : x.High ≤ 500 <;> by_cases a4 : x.Low ≤ 500 <;> simp [a1, a2, a3, a4]
    omega
def surAt (l : List XSurge) (i : Nat) : Bool := match l[i]? with
  | some x => surgeOk x && (match i with | 0 => true | j + 1 => match l[j]? with | some y => !(decide (x.From ≤ y.From)) | none => false)
  | none => false
def surFirst (l : List XSurge) : Bool := match l[0]? with
  | some x => decide (x.From = 0)
  | none => false
def fcOk (f : XForecast) : Bool := tideOk f.Tide && ((decide (1 ≤ (f.Surges.length : Int)) && decide ((f.Surges.length : Int) ≤ 6)) && (surFirst f.Surges && (List.range f.Surges.length).all (surAt f.Surges)))
theorem wrap_pred (j : Nat) (h : j ≤ 1000) : IntKind.i64.wrap (((j + 1 : Nat) : Int) - 1) = (j : Int) := by
  rw [wrap64 (by omega) (by omega)]
  omega
theorem spec_ForecastOk_eq (f : XForecast) : f_spec_ForecastOk f = some (fcOk f) := by
  simp only [f_spec_ForecastOk, spec_TideOk_eq, l01In_eq, Option.bind_some, fcOk]
  cases tideOk f.Tide with
  | false => rfl
  | true =>
    cases hb : (decide (1 ≤ (f.Surges.length : Int)) && decide ((f.Surges.length : Int) ≤ 6)) with
    | false => rfl
    | true =>
      simp only [Bool.and_eq_true, decide_eq_true_eq] at hb
      have h0 : 0 < f.Surges.length := by omega
      have hl : f.Surges.length ≤ maxLen := by rw [maxLen_val]; omega
      rw [all_loopK (L := f_spec_ForecastOk_1 f) f.Surges.length (surAt f.Surges) (some true) hl (fun n i hi => ?_) (fun n => by simp [f_spec_ForecastOk_1])]
      · have e0 : ix f.Surges 0 = some f.Surges[0] := ix_at h0
        simp only [e0, Option.bind_some, surFirst, List.getElem?_eq_getElem h0, Bool.true_and, if_true]
        by_cases e : f.Surges[0].From = 0 <;> cases (List.range f.Surges.length).all (surAt f.Surges) <;> simp [e]
      · simp only [f_spec_ForecastOk_1, ix_nn, List.getElem?_eq_getElem hi, Option.bind_some, dec_nn, hi, decide_true, if_true, spec_SurgeOk_eq, surAt]
        cases i with
        | zero => cases surgeOk f.Surges[0] <;> simp
        | succ j =>
          have hj : j < f.Surges.length := by omega
          rw [wrap_pred j (by omega)]
          simp only [ix_nn, List.getElem?_eq_getElem hj, Option.bind_some]
          have hp : (0 : Int) < ((j + 1 : Nat) : Int) := by omega
          cases surgeOk f.Surges[j + 1] <;> cases decide (f.Surges[j + 1].From ≤ f.Surges[j].From) <;> simp
theorem impl_ForecastOk_eq (f : XForecast) : f_impl_ForecastOk f = some (fcOk f) := by
  simp only [f_impl_ForecastOk, impl_TideOk_eq, within_eq, Option.bind_some, fcOk]
  cases tideOk f.Tide with
  | false => rfl
  | true =>
    cases hb : (decide (1 ≤ (f.Surges.length : Int)) && decide ((f.Surges.length : Int) ≤ 6)) with
    | false => rfl
    | true =>
      simp only [Bool.and_eq_true, decide_eq_true_eq] at hb
      have h0 : 0 < f.Surges.length := by omega
      have hl : f.Surges.length ≤ maxLen := by rw [maxLen_val]; omega
      rw [all_loopK (L := f_impl_ForecastOk_1 f) f.Surges.length (surAt f.Surges) (some true) hl (fun n i hi => ?_) (fun n => by simp [f_impl_ForecastOk_1])]
      · have e0 : ix f.Surges 0 = some f.Surges[0] := ix_at h0
        simp only [e0, Option.bind_some, surFirst, List.getElem?_eq_getElem h0, Bool.true_and, if_true]
        by_cases e : f.Surges[0].From = 0 <;> cases (List.range f.Surges.length).all (surAt f.Surges) <;> simp [e]
      · simp only [f_impl_ForecastOk_1, ix_nn, List.getElem?_eq_getElem hi, Option.bind_some, dec_nn, hi, decide_true, if_true, impl_SurgeOk_eq, surAt]
        cases i with
        | zero => cases surgeOk f.Surges[0] <;> simp
        | succ j =>
          have hj : j < f.Surges.length := by omega
          rw [wrap_pred j (by omega)]
          simp only [ix_nn, List.getElem?_eq_getElem hj, Option.bind_some]
          have hp : (0 : Int) < ((j + 1 : Nat) : Int) := by omega
          cases surgeOk f.Surges[j + 1] <;> cases decide (f.Surges[j + 1].From ≤ f.Surges[j].From) <;> simp
theorem fc_facts {f : XForecast} (h : fcOk f = true) : tideOk f.Tide = true ∧ 0 < f.Surges.length ∧ f.Surges.length ≤ 6 := by
  simp only [fcOk, Bool.and_eq_true, decide_eq_true_eq] at h
  refine ⟨h.1, ?_, ?_⟩ <;> omega
theorem surge_same {f : XForecast} {m : Int} (h0 : 0 < f.Surges.length) (h6 : f.Surges.length ≤ 6) : ∃ (a : Nat) (ha : a < f.Surges.length), f_impl_Forecast_surge f m = some (a : Int) ∧ f_spec_l03Surge f m = some f.Surges[a] := by
  have hl : f.Surges.length ≤ maxLen := by rw [maxLen_val]; omega
  have key : ∀ (k i n a : Nat) (ha : a < f.Surges.length), i + k = f.Surges.length → k < n → ∃ (a' : Nat) (ha' : a' < f.Surges.length), f_impl_Forecast_surge_1 m f n (a : Int) (i : Int) = some (a' : Int) ∧
      f_spec_l03Surge_1 m f n (i : Int) f.Surges[a].From f.Surges[a].Low f.Surges[a].High = some f.Surges[a'] := by
    intro k
    induction k with
    | zero =>
      intro i n a ha hi hn
      obtain ⟨q, rfl⟩ : ∃ q, n = q + 1 := ⟨n - 1, by omega⟩
      have : i = f.Surges.length := by omega
      subst this
      exact ⟨a, ha, by simp [f_impl_Forecast_surge_1], by simp [f_spec_l03Surge_1]⟩
    | succ k ih =>
      intro i n a ha hi hn
      obtain ⟨q, rfl⟩ : ∃ q, n = q + 1 := ⟨n - 1, by omega⟩
      have hlt : i < f.Surges.length := by omega
      by_cases hm : f.Surges[i].From ≤ m
      · obtain ⟨a', ha', e1, e2⟩ := ih (i + 1) q i hlt (by omega) (by omega)
        rw [← wrapS hlt hl] at e1 e2
        refine ⟨a', ha', ?_, ?_⟩
        · simp only [f_impl_Forecast_surge_1, ix_nn, List.getElem?_eq_getElem hlt, Option.bind_some, dec_nn, hlt, decide_true, if_true, hm]
          exact e1
        · simp only [f_spec_l03Surge_1, ix_nn, List.getElem?_eq_getElem hlt, Option.bind_some, dec_nn, hlt, decide_true, if_true, hm]
          exact e2
      · obtain ⟨a', ha', e1, e2⟩ := ih (i + 1) q a ha (by omega) (by omega)
        rw [← wrapS hlt hl] at e1 e2
        refine ⟨a', ha', ?_, ?_⟩
        · simp only [f_impl_Forecast_surge_1, ix_nn, List.getElem?_eq_getElem hlt, Option.bind_some, dec_nn, hlt, decide_true, if_true, hm, decide_false, Bool.false_eq_true, if_false]
          exact e1
        · simp only [f_spec_l03Surge_1, ix_nn, List.getElem?_eq_getElem hlt, Option.bind_some, dec_nn, hlt, decide_true, if_true, hm, decide_false, Bool.false_eq_true, if_false]
          exact e2
  obtain ⟨a, ha, e1, e2⟩ := key f.Surges.length 0 bigN 0 h0 (by omega) (lt_bigN hl)
  have z : ((0 : Nat) : Int) = 0 := rfl
  rw [z] at e1 e2
  have e0 : ix f.Surges 0 = some f.Surges[0] := ix_at h0
  refine ⟨a, ha, ?_, ?_⟩
  · unfold f_impl_Forecast_surge
    exact e1
  · unfold f_spec_l03Surge
    rw [e0, Option.bind_some]
    exact e2
def pickAt (n : Nat) (m : Int) : Int := if IntKind.i64.wrap ((n : Int) - 1) < IntKind.i64.wrap (Int.tdiv m 60) then IntKind.i64.wrap ((n : Int) - 1) else IntKind.i64.wrap (Int.tdiv m 60)
theorem pick_in {xs : List Int} {m : Int} (h1 : 1 ≤ xs.length) (h2 : xs.length ≤ 48) (m0 : 0 ≤ m) (m1 : m ≤ 2880) : ∃ x, ix xs (pickAt xs.length m) = some x := by
  have e : Int.tdiv m 60 = m / 60 := Int.tdiv_eq_ediv_of_nonneg m0
  unfold pickAt
  rw [e, wrap64 (n := m / 60) (by omega) (by omega), wrap64 (n := (xs.length : Int) - 1) (by omega) (by omega)]
  have k : ∃ j : Nat, (if (xs.length : Int) - 1 < m / 60 then (xs.length : Int) - 1 else m / 60) = (j : Int) ∧ j < xs.length := by
    split
    · exact ⟨xs.length - 1, by omega, by omega⟩
    · exact ⟨(m / 60).toNat, by omega, by omega⟩
  obtain ⟨j, e1, h⟩ := k
  rw [e1]
  exact ⟨_, ix_at h⟩
theorem picks_facts {xs : List Int} (h : picksOk xs = true) : 1 ≤ xs.length ∧ xs.length ≤ 48 := by
  simp only [picksOk, Bool.and_eq_true, decide_eq_true_eq] at h
  omega
theorem levels_same {f : XForecast} {xs : List Int} {m : Int} (hf : fcOk f = true) (hx : picksOk xs = true) (m0 : 0 ≤ m) (m1 : m ≤ 2880) : ∃ r, f_spec_l24Level f xs m = some r ∧ f_impl_levelOn f xs m = some r := by
  obtain ⟨ht, h0, h6⟩ := fc_facts hf
  obtain ⟨k1, k2⟩ := picks_facts hx
  obtain ⟨t, e1, e2⟩ := level_same ht m0 m1
  obtain ⟨a, ha, e3, e4⟩ := surge_same (m := m) h0 h6
  obtain ⟨p, e5⟩ := pick_in k1 k2 m0 m1
  have e6 : ix f.Surges (a : Int) = some f.Surges[a] := ix_at ha
  refine ⟨IntKind.i64.wrap (IntKind.i64.wrap (t + f.Surges[a].Low) + IntKind.i64.wrap (Int.tdiv (IntKind.i64.wrap (IntKind.i64.wrap (f.Surges[a].High - f.Surges[a].Low) * p)) 1000)), ?_, ?_⟩
  · unfold f_spec_l24Level
    rw [e4, e1, Option.bind_some]
    have e5' := e5
    unfold pickAt at e5'
    rw [e5']
    rfl
  · unfold f_impl_levelOn f_impl_Forecast_low f_impl_Forecast_high f_impl_pickOf
    rw [e2, e3]
    have e5' := e5
    unfold pickAt at e5'
    simp only [Option.bind_some, e6, e5', wrap_sub2]
    have e7 : t + f.Surges[a].High - (t + f.Surges[a].Low) = f.Surges[a].High - f.Surges[a].Low := by omega
    rw [e7]
def minOk (m : Int) : Bool := decide (0 ≤ m) && decide (m ≤ 2880)
theorem toPartS_eq {xs : List XPart} (h : xs.length ≤ 1048576) : f_laws_toPartS xs = some xs := by
  unfold f_laws_toPartS
  rw [mkS_len h (by omega)]
  have := copy_loop (L := f_laws_toPartS_1 xs) xs id (le_max h) (fun n i acc hi ha => by simp [f_laws_toPartS_1, ix_nn, hi, ha, f_laws_toPart]) (fun n acc => by simp [f_laws_toPartS_1]) (List.replicate xs.length ⟨0, 0, 0⟩) (by simp)
  simpa using this
theorem toSurgeS_eq {xs : List XSurge} (h : xs.length ≤ 1048576) : f_laws_toSurgeS xs = some xs := by
  unfold f_laws_toSurgeS
  rw [mkS_len h (by omega)]
  have := copy_loop (L := f_laws_toSurgeS_1 xs) xs id (le_max h) (fun n i acc hi ha => by simp [f_laws_toSurgeS_1, ix_nn, hi, ha, f_laws_toSurge]) (fun n acc => by simp [f_laws_toSurgeS_1]) (List.replicate xs.length ⟨0, 0, 0⟩) (by simp)
  simpa using this
theorem toForecast_eq {f : XForecast} (h1 : f.Tide.Parts.length ≤ 1048576) (h2 : f.Surges.length ≤ 1048576) : f_laws_toForecast f = some f := by
  simp [f_laws_toForecast, f_laws_toTide, toPartS_eq h1, toSurgeS_eq h2]
theorem eqPart_eq (x y : XPart) : f_laws_eqPart x y = some (decide (x = y)) := by
  unfold f_laws_eqPart
  cases x; cases y
  simp only [XPart.mk.injEq]
  repeat' split
  all_goals simp_all
theorem eqPartS_eq {xs ys : List XPart} (h : xs.length ≤ maxLen) : f_laws_eqPartS xs ys = some (decide (xs = ys)) := by
  unfold f_laws_eqPartS
  by_cases hl : xs.length = ys.length
  · have := eq_loop (L := f_laws_eqPartS_1 xs ys) xs ys h hl (fun n i h1 h2 => by simp [f_laws_eqPartS_1, ix_nn, h1, h2, eqPart_eq]) (fun n => by simp [f_laws_eqPartS_1])
    simp [hl, this]
  · have : ¬ (xs.length : Int) = ys.length := by omega
    have : xs ≠ ys := fun e => hl (by rw [e])
    simp_all
theorem eqSurge_eq (x y : XSurge) : f_laws_eqSurge x y = some (decide (x = y)) := by
  unfold f_laws_eqSurge
  cases x; cases y
  simp only [XSurge.mk.injEq]
  repeat' split
  all_goals simp_all
theorem eqSurgeS_eq {xs ys : List XSurge} (h : xs.length ≤ maxLen) : f_laws_eqSurgeS xs ys = some (decide (xs = ys)) := by
  unfold f_laws_eqSurgeS
  by_cases hl : xs.length = ys.length
  · have := eq_loop (L := f_laws_eqSurgeS_1 xs ys) xs ys h hl (fun n i h1 h2 => by simp [f_laws_eqSurgeS_1, ix_nn, h1, h2, eqSurge_eq]) (fun n => by simp [f_laws_eqSurgeS_1])
    simp [hl, this]
  · have : ¬ (xs.length : Int) = ys.length := by omega
    have : xs ≠ ys := fun e => hl (by rw [e])
    simp_all
theorem eqForecast_self {f : XForecast} (h1 : f.Tide.Parts.length ≤ maxLen) (h2 : f.Surges.length ≤ maxLen) : f_laws_eqForecast f f = some true := by
  simp [f_laws_eqForecast, f_laws_eqTide, eqPartS_eq h1, eqSurgeS_eq h2]
theorem szPartS_of {xs : List XPart} {l : Int} (h0 : 0 ≤ l) (h1 : l ≤ 1048576) (hx : xs.length ≤ maxLen) : ∃ r, f_laws_szPartS xs l = some r ∧ (0 ≤ r → r ≤ l ∧ xs.length ≤ 1048576) := by
  unfold f_laws_szPartS
  rw [maxLen_val] at hx
  rw [wrap64 (by omega) (by omega)]
  by_cases h : l - (xs.length : Int) < 0
  · exact ⟨-1, by simp [h], by omega⟩
  · exact ⟨l - xs.length, by simp [h], by omega⟩
theorem szSurgeS_of {xs : List XSurge} {l : Int} (h0 : 0 ≤ l) (h1 : l ≤ 1048576) (hx : xs.length ≤ maxLen) : ∃ r, f_laws_szSurgeS xs l = some r ∧ (0 ≤ r → r ≤ l ∧ xs.length ≤ 1048576) := by
  unfold f_laws_szSurgeS
  rw [maxLen_val] at hx
  rw [wrap64 (by omega) (by omega)]
  by_cases h : l - (xs.length : Int) < 0
  · exact ⟨-1, by simp [h], by omega⟩
  · exact ⟨l - xs.length, by simp [h], by omega⟩
theorem szForecast_of {f : XForecast} {l : Int} (h0 : 0 ≤ l) (h1 : l ≤ 1048576) (hp : f.Tide.Parts.length ≤ maxLen) (hs : f.Surges.length ≤ maxLen) :
    ∃ r, f_laws_szForecast f l = some r ∧ (0 ≤ r → r ≤ l ∧ f.Tide.Parts.length ≤ 1048576 ∧ f.Surges.length ≤ 1048576) := by
  unfold f_laws_szForecast f_laws_szTide
  obtain ⟨r, e, h⟩ := szPartS_of h0 h1 hp
  by_cases hr : r < 0
  · exact ⟨-1, by simp [e, hr], by omega⟩
  · obtain ⟨k1, k2⟩ := h (by omega)
    obtain ⟨r', e', h'⟩ := szSurgeS_of (xs := f.Surges) (l := r) (by omega) (by omega) hs
    by_cases hr' : r' < 0
    · exact ⟨-1, by simp [e, hr, e', hr'], by omega⟩
    · obtain ⟨k3, k4⟩ := h' (by omega)
      exact ⟨r', by simp [e, hr, e', hr'], fun _ => ⟨by omega, k2, k4⟩⟩
theorem forecast_ok {f : XForecast} (ok : ∀ d ∈ XForecast.row f, d.Ok) : f.Tide.Parts.length ≤ maxLen ∧ f.Surges.length ≤ maxLen := by
  have h1 := ok (D.sl (List.map XPart.row f.Tide.Parts)) (by simp [XForecast.row_eq, XTide.row_eq])
  have h2 := ok (D.sl (List.map XSurge.row f.Surges)) (by simp [XForecast.row_eq, XTide.row_eq])
  exact ⟨len_ok h1, len_ok h2⟩
end Go.Vi
