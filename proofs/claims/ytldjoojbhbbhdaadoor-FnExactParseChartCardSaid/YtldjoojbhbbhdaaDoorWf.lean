/-
  Plain laws: charts and their text (of Rd, Re), for ParseChart. No condition.
-/
import Derived.Test.YtldjoojbhbbhdaaDoorWe
namespace Go.Vi
open Go.Lib
set_option linter.unusedSimpArgs false
set_option linter.unusedVariables false

theorem within_eq (n lo hi : Int) : f_impl_within n lo hi = some (decide (lo ≤ n) && decide (n ≤ hi)) := by
  unfold f_impl_within
  by_cases h : lo ≤ n <;> simp [h]
theorem foldr_any {len : Nat} (p : Nat → Bool) (K : Option Bool) : ∀ (k i : Nat), (List.range' i k).foldr (fun i r => if p i = true then some false else r) K = if (List.range' i k).any p = true then some false else K
  | 0, i => by simp
  | k + 1, i => by
    rw [List.range'_succ, List.foldr_cons, foldr_any (len := len) p K k (i + 1), List.any_cons]
    cases p i <;> rfl
theorem any_loopK {L : Nat → Int → Option Bool} (len : Nat) (p : Nat → Bool) (K : Option Bool) (hl : len ≤ maxLen)
    (hs : ∀ (n i : Nat), i < len → L (n + 1) (i : Int) = if p i = true then some false else L n (IntKind.i64.wrap ((i : Int) + 1))) (he : ∀ n, L (n + 1) (len : Int) = K) : L bigN 0 = if (List.range len).any p = true then some false else K := by
  have := range_loop L len hl (fun i r => if p i = true then some false else r) K hs he len 0 bigN (by omega) (lt_bigN hl)
  rw [foldr_any (len := len), ← List.range_eq_range'] at this
  exact this
def nmOk (s : List UInt8) (i : Nat) : Bool := match s[i]? with
  | some b => (decide (97 ≤ (b.toNat : Int)) && decide ((b.toNat : Int) ≤ 122)) || (!(decide (i = 0)) && (decide (48 ≤ (b.toNat : Int)) && decide ((b.toNat : Int) ≤ 57)))
  | none => false
def nmLen (s : List UInt8) : Bool := decide (1 ≤ (s.length : Int)) && decide ((s.length : Int) ≤ 8)
def isName (s : List UInt8) : Bool := nmLen s && (List.range s.length).all (nmOk s)
theorem nm_step (c : Int) (K : Option Bool) (z' : Bool) (z : Int) (i : Nat) (hz : z = (i : Int)) :
    (if decide (97 ≤ c) = true then (if decide (c ≤ 122) = true then K else if (z == 0) = true then some false else if decide (c < 48) = true then some false else if decide (57 < c) = true then some false else K)
      else if false = true then K else if (z == 0) = true then some false else if decide (c < 48) = true then some false else if decide (57 < c) = true then some false else K) =
    if ((decide (97 ≤ c) && decide (c ≤ 122)) || (!(decide (i = 0)) && (decide (48 ≤ c) && decide (c ≤ 57)))) = true then K else some false := by
  subst hz
  have e0 : (((i : Nat) : Int) == 0) = decide (i = 0) := by rw [Bool.eq_iff_iff]; simp
  have e1 : decide (c < 48) = !decide (48 ≤ c) := by rw [Bool.eq_iff_iff]; simp
  have e2 : decide (57 < c) = !decide (c ≤ 57) := by rw [Bool.eq_iff_iff]; simp
  rw [e0, e1, e2]
  cases decide (i = 0) <;> cases decide (97 ≤ c) <;> cases decide (c ≤ 122) <;> cases decide (48 ≤ c) <;> cases decide (c ≤ 57) <;> rfl
theorem spec_IsName_eq {s : List UInt8} (h : s.length ≤ maxLen) : f_spec_IsName s = some (isName s) := by
  unfold f_spec_IsName
  rw [all_loopK (L := f_spec_IsName_1 s) s.length (nmOk s) (some (nmLen s)) h (fun n i hi => ?_) (fun n => by simp [f_spec_IsName_1, l01In_eq, nmLen])]
  · unfold isName
    cases (List.range s.length).all (nmOk s) <;> simp
  · simp only [f_spec_IsName_1, f_spec_IsName_2, f_spec_IsName_3, ix_nn, nmOk, List.getElem?_eq_getElem hi, Option.bind_some, dec_nn, hi, decide_true, if_true]
    exact nm_step _ _ true (i : Int) i rfl
theorem impl_IsName_eq {s : List UInt8} (h : s.length ≤ maxLen) : f_impl_IsName s = some (isName s) := by
  unfold f_impl_IsName
  rw [within_eq]
  rw [all_loopK (L := f_impl_IsName_1 s) s.length (nmOk s) (some true) h (fun n i hi => ?_) (fun n => by simp [f_impl_IsName_1])]
  · unfold isName nmLen
    simp only [Option.bind_some]
    cases (List.range s.length).all (nmOk s) <;> cases (decide (1 ≤ (s.length : Int)) && decide ((s.length : Int) ≤ 8)) <;> simp
  · simp only [f_impl_IsName_1, f_impl_IsName_2, f_impl_IsName_3, ix_nn, nmOk, List.getElem?_eq_getElem hi, Option.bind_some, dec_nn, hi, decide_true, if_true]
    exact nm_step _ _ true (i : Int) i rfl
theorem isIndex_eq (i n : Int) : f_impl_isIndex i n = some (decide (0 ≤ i) && decide (i < n)) := by
  unfold f_impl_isIndex
  by_cases h : 0 ≤ i <;> simp [h]
def idx (i : Int) (n : Nat) : Bool := decide (0 ≤ i) && decide (i < (n : Int))
theorem in_idx (i : Int) {n : Nat} (h : n ≤ 1000) : (decide (0 ≤ i) && decide (i ≤ IntKind.i64.wrap ((n : Int) - 1))) = idx i n := by
  rw [wrap64 (by omega) (by omega)]
  unfold idx
  congr 1
  rw [Bool.eq_iff_iff]
  simp
  omega
theorem name_len {s : List UInt8} (h : isName s = true) : 1 ≤ s.length ∧ s.length ≤ 8 := by
  simp only [isName, nmLen, Bool.and_eq_true, decide_eq_true_eq] at h
  omega
theorem join5 (a b c d e sep : List UInt8) : join [a, b, c, d, e] sep = a ++ sep ++ b ++ sep ++ c ++ sep ++ d ++ sep ++ e := by
  rw [join_cons]; simp [joinTail]
theorem if_and (a b : Bool) : (if a = true then some b else some false) = some (a && b) := by cases a <;> rfl
theorem impl_marked_eq {a b : List UInt8} {m : Bool} (h : a.length + b.length ≤ 1000) : f_impl_marked a m b = some (a ++ (if m = true then 32 :: b else [])) := by
  unfold f_impl_marked
  cases m with
  | true =>
    simp only [if_true]
    rw [ifc (by simp; omega), ifc (by simp; omega)]
    simp
  | false => simp
theorem name_sp {s : List UInt8} (h : isName s = true) : ∀ b ∈ s, b ≠ 32 := by
  intro b hb e
  subst e
  obtain ⟨i, hi, hb⟩ := List.getElem_of_mem hb
  simp only [isName, Bool.and_eq_true, List.all_eq_true, List.mem_range] at h
  have := h.2 i hi
  simp only [nmOk, List.getElem?_eq_getElem hi, hb, Bool.or_eq_true, Bool.and_eq_true, decide_eq_true_eq] at this
  have e : (((32 : UInt8).toNat : Nat) : Int) = 32 := rfl
  rw [e] at this
  omega
theorem itoa_sp (n : Int) : ∀ b ∈ itoa n, b ≠ 32 := by
  have hd : ∀ u, ∀ b ∈ decDigits u, b ≠ 32 := fun u b hb e => by
    have := decDigits_dig u b hb
    subst e
    simp [isDig] at this
  intro b hb
  unfold itoa at hb
  split at hb
  · rcases List.mem_cons.1 hb with rfl | hb
    · decide
    · exact hd _ b hb
  · exact hd _ b hb
def jn (y : XSegment) (a b : Int) : Bool := (decide (y.A = a) && decide (y.B = b)) || (decide (y.A = b) && decide (y.B = a))
theorem spec_joins_eq (y : XSegment) (a b : Int) : f_spec_l05Joins y a b = some (jn y a b) := by
  unfold f_spec_l05Joins jn
  by_cases h1 : y.A = a <;> by_cases h2 : y.B = b <;> by_cases h3 : y.A = b <;> by_cases h4 : y.B = a <;> simp_all
theorem impl_joins_eq (y : XSegment) (a b : Int) : f_impl_Segment_joins y a b = some (jn y a b) := by
  unfold f_impl_Segment_joins jn
  by_cases h1 : y.A = a <;> by_cases h2 : y.B = b <;> by_cases h3 : y.A = b <;> by_cases h4 : y.B = a <;> simp_all
def segOk (c : XChart) (i : Nat) : Bool := match c.Segments[i]? with
  | some x => idx x.A c.Points.length && (idx x.B c.Points.length && (!(decide (x.A = x.B)) && ((decide (0 ≤ x.Depth) && decide (x.Depth ≤ 3000)) && ((decide (1 ≤ x.Minutes) && decide (x.Minutes ≤ 240)) && !((List.range i).any fun j => match c.Segments[j]? with | some y => jn y x.A x.B | none => false)))))
  | none => false
def ptOk (c : XChart) (i : Nat) : Bool := match c.Points[i]? with
  | some x => isName x.Name && decide (ptNamed c.Points x.Name = (i : Int))
  | none => false
def chartOk (c : XChart) : Bool := decide (c.Points.length ≤ 8) && (decide (c.Segments.length ≤ 10) && ((List.range c.Points.length).all (ptOk c) && (List.range c.Segments.length).all (segOk c)))
theorem bnd_take {n i : Nat} (h : i ≤ n) : bnd (n : Int) (i : Int) (0 : Int) n = some (0, i) := by
  unfold bnd
  rw [if_pos ⟨by omega, by omega, by omega, by omega⟩]
  simp
theorem take_at {α : Type} {l : List α} {i j : Nat} (hj : j < i) : (l.take i)[j]? = l[j]? := by simp [List.getElem?_take, hj]
theorem spec_ChartOk_eq {c : XChart} (hn : ∀ x ∈ c.Points, x.Name.length ≤ maxLen) : f_spec_ChartOk c = some (chartOk c) := by
  unfold f_spec_ChartOk chartOk
  by_cases h1 : c.Points.length ≤ 8
  · have h1' : ¬ (8 : Int) < c.Points.length := by omega
    by_cases h2 : c.Segments.length ≤ 10
    · have h2' : ¬ (10 : Int) < c.Segments.length := by omega
      have hp : c.Points.length ≤ maxLen := by rw [maxLen_val]; omega
      have hs : c.Segments.length ≤ maxLen := by rw [maxLen_val]; omega
      have inner : f_spec_ChartOk_2 c bigN 0 = some ((List.range c.Segments.length).all (segOk c)) := by
        rw [all_loopK (L := f_spec_ChartOk_2 c) c.Segments.length (segOk c) (some true) hs (fun n i hi => ?_) (fun n => by simp [f_spec_ChartOk_2])]
        · cases (List.range c.Segments.length).all (segOk c) <;> rfl
        · simp only [f_spec_ChartOk_2, ix_nn, List.getElem?_eq_getElem hi, Option.bind_some, dec_nn, hi, decide_true, if_true, l01In_eq, in_idx _ (show c.Points.length ≤ 1000 by omega), bnd_take (Nat.le_of_lt hi), segOk, List.drop_zero, Nat.sub_zero]
          have hl : (c.Segments.take i).length = i := by simp; omega
          rw [hl]
          rw [any_loopK (L := f_spec_ChartOk_3 c i c.Segments[i] (c.Segments.take i) (i : Int) (f_spec_ChartOk_2 c n)) i (fun j => match c.Segments[j]? with | some y => jn y c.Segments[i].A c.Segments[i].B | none => false)
            (f_spec_ChartOk_2 c n (IntKind.i64.wrap ((i : Int) + 1))) (by omega) (fun m j hj => by
              have hj2 : j < c.Segments.length := by omega
              simp only [f_spec_ChartOk_3, ix_nn, take_at hj, List.getElem?_eq_getElem hj2, Option.bind_some, dec_nn, hj, decide_true, if_true, spec_joins_eq]) (fun m => by simp [f_spec_ChartOk_3])]
          have e : (c.Segments[i].A == c.Segments[i].B) = decide (c.Segments[i].A = c.Segments[i].B) := rfl
          rw [e]
          cases idx c.Segments[i].A c.Points.length <;> cases idx c.Segments[i].B c.Points.length <;> cases decide (c.Segments[i].A = c.Segments[i].B) <;> cases (decide (0 ≤ c.Segments[i].Depth) && decide (c.Segments[i].Depth ≤ 3000)) <;>
            cases (decide (1 ≤ c.Segments[i].Minutes) && decide (c.Segments[i].Minutes ≤ 240)) <;> cases ((List.range i).any fun j => match c.Segments[j]? with | some y => jn y c.Segments[i].A c.Segments[i].B | none => false) <;> rfl
      rw [all_loopK (L := f_spec_ChartOk_1 c) c.Points.length (ptOk c) _ hp (fun n i hi => ?_) (fun n => by simp only [f_spec_ChartOk_1, Int.lt_irrefl, decide_false, Bool.false_eq_true, if_false]; exact inner)]
      · simp only [h1, h2, h1', h2', decide_true, decide_false, Bool.true_and, Bool.false_eq_true, if_false]
        cases (List.range c.Points.length).all (ptOk c) <;> rfl
      · simp only [f_spec_ChartOk_1, ix_nn, List.getElem?_eq_getElem hi, Option.bind_some, dec_nn, hi, decide_true, if_true, spec_IsName_eq (hn _ (List.getElem_mem hi)), spec_PointNamed_eq hp, ptOk]
        by_cases e : ptNamed c.Points c.Points[i].Name = (i : Int) <;> cases isName c.Points[i].Name <;> simp [e]
    · have h2' : (10 : Int) < c.Segments.length := by omega
      simp [h1, h1', h2, h2']
  · have h1' : (8 : Int) < c.Points.length := by omega
    simp [h1, h1']
theorem impl_ChartOk_eq {c : XChart} (hn : ∀ x ∈ c.Points, x.Name.length ≤ maxLen) : f_impl_ChartOk c = some (chartOk c) := by
  unfold f_impl_ChartOk chartOk
  by_cases h1 : c.Points.length ≤ 8
  · have h1' : ¬ (8 : Int) < c.Points.length := by omega
    by_cases h2 : c.Segments.length ≤ 10
    · have h2' : ¬ (10 : Int) < c.Segments.length := by omega
      have hp : c.Points.length ≤ maxLen := by rw [maxLen_val]; omega
      have hs : c.Segments.length ≤ maxLen := by rw [maxLen_val]; omega
      have inner : f_impl_ChartOk_2 c bigN 0 = some ((List.range c.Segments.length).all (segOk c)) := by
        rw [all_loopK (L := f_impl_ChartOk_2 c) c.Segments.length (segOk c) (some true) hs (fun n i hi => ?_) (fun n => by simp [f_impl_ChartOk_2])]
        · cases (List.range c.Segments.length).all (segOk c) <;> rfl
        · simp only [f_impl_ChartOk_2, ix_nn, List.getElem?_eq_getElem hi, Option.bind_some, dec_nn, hi, decide_true, if_true, within_eq, isIndex_eq, show ∀ (a : Int) (n : Nat), (decide (0 ≤ a) && decide (a < (n : Int))) = idx a n from fun _ _ => rfl, bnd_take (Nat.le_of_lt hi), segOk, List.drop_zero, Nat.sub_zero]
          have hl : (c.Segments.take i).length = i := by simp; omega
          rw [hl]
          rw [any_loopK (L := f_impl_ChartOk_3 c i c.Segments[i] (c.Segments.take i) (i : Int) (f_impl_ChartOk_2 c n)) i (fun j => match c.Segments[j]? with | some y => jn y c.Segments[i].A c.Segments[i].B | none => false)
            (f_impl_ChartOk_2 c n (IntKind.i64.wrap ((i : Int) + 1))) (by omega) (fun m j hj => by
              have hj2 : j < c.Segments.length := by omega
              simp only [f_impl_ChartOk_3, ix_nn, take_at hj, List.getElem?_eq_getElem hj2, Option.bind_some, dec_nn, hj, decide_true, if_true, impl_joins_eq]) (fun m => by simp [f_impl_ChartOk_3])]
          have e : (c.Segments[i].A == c.Segments[i].B) = decide (c.Segments[i].A = c.Segments[i].B) := rfl
          rw [e]
          cases idx c.Segments[i].A c.Points.length <;> cases idx c.Segments[i].B c.Points.length <;> cases decide (c.Segments[i].A = c.Segments[i].B) <;> cases (decide (0 ≤ c.Segments[i].Depth) && decide (c.Segments[i].Depth ≤ 3000)) <;>
            cases (decide (1 ≤ c.Segments[i].Minutes) && decide (c.Segments[i].Minutes ≤ 240)) <;> cases ((List.range i).any fun j => match c.Segments[j]? with | some y => jn y c.Segments[i].A c.Segments[i].B | none => false) <;> rfl
      rw [all_loopK (L := f_impl_ChartOk_1 c) c.Points.length (ptOk c) _ hp (fun n i hi => ?_) (fun n => by simp only [f_impl_ChartOk_1, Int.lt_irrefl, decide_false, Bool.false_eq_true, if_false]; exact inner)]
      · simp only [h1, h2, h1', h2', decide_true, decide_false, Bool.true_and, Bool.false_eq_true, if_false]
        cases (List.range c.Points.length).all (ptOk c) <;> rfl
      · simp only [f_impl_ChartOk_1, ix_nn, List.getElem?_eq_getElem hi, Option.bind_some, dec_nn, hi, decide_true, if_true, impl_IsName_eq (hn _ (List.getElem_mem hi)), impl_PointNamed_eq hp, ptOk]
        by_cases e : ptNamed c.Points c.Points[i].Name = (i : Int) <;> cases isName c.Points[i].Name <;> simp [e]
    · have h2' : (10 : Int) < c.Segments.length := by omega
      simp [h1, h1', h2, h2']
  · have h1' : (8 : Int) < c.Points.length := by omega
    simp [h1, h1']
theorem eqPoint_eq (x y : XPoint) : f_laws_eqPoint x y = some (decide (x = y)) := by
  unfold f_laws_eqPoint
  cases x; cases y
  simp only [XPoint.mk.injEq]
  repeat' split
  all_goals simp_all
theorem eqPointS_eq {xs ys : List XPoint} (h : xs.length ≤ maxLen) : f_laws_eqPointS xs ys = some (decide (xs = ys)) := by
  unfold f_laws_eqPointS
  by_cases hl : xs.length = ys.length
  · have := eq_loop (L := f_laws_eqPointS_1 xs ys) xs ys h hl (fun n i h1 h2 => by simp [f_laws_eqPointS_1, ix_nn, h1, h2, eqPoint_eq]) (fun n => by simp [f_laws_eqPointS_1])
    simp [hl, this]
  · have : ¬ (xs.length : Int) = ys.length := by omega
    have : xs ≠ ys := fun e => hl (by rw [e])
    simp_all
theorem eqSegment_eq (x y : XSegment) : f_laws_eqSegment x y = some (decide (x = y)) := by
  unfold f_laws_eqSegment
  cases x; cases y
  simp only [XSegment.mk.injEq]
  repeat' split
  all_goals simp_all
theorem eqSegmentS_eq {xs ys : List XSegment} (h : xs.length ≤ maxLen) : f_laws_eqSegmentS xs ys = some (decide (xs = ys)) := by
  unfold f_laws_eqSegmentS
  by_cases hl : xs.length = ys.length
  · have := eq_loop (L := f_laws_eqSegmentS_1 xs ys) xs ys h hl (fun n i h1 h2 => by simp [f_laws_eqSegmentS_1, ix_nn, h1, h2, eqSegment_eq]) (fun n => by simp [f_laws_eqSegmentS_1])
    simp [hl, this]
  · have : ¬ (xs.length : Int) = ys.length := by omega
    have : xs ≠ ys := fun e => hl (by rw [e])
    simp_all
theorem eqChart_self {c : XChart} (h1 : c.Points.length ≤ maxLen) (h2 : c.Segments.length ≤ maxLen) : f_laws_eqChart c c = some true := by
  simp [f_laws_eqChart, eqPointS_eq h1, eqSegmentS_eq h2]
theorem cat_loopK {L : Nat → List UInt8 → Int → Option (List UInt8)} (len : Nat) (piece : Nat → List UInt8) (B : Nat) (K : List UInt8 → Option (List UInt8)) (hl : len ≤ maxLen) (hp : ∀ i, i < len → (piece i).length ≤ B) (s0 : List UInt8) (hB : s0.length + len * B ≤ 100000000000000)
    (hs : ∀ (n i : Nat) (s : List UInt8), i < len → s.length + B ≤ 100000000000000 → L (n + 1) s (i : Int) = L n (s ++ piece i) (IntKind.i64.wrap ((i : Int) + 1))) (he : ∀ n s, L (n + 1) s (len : Int) = K s) :
    L bigN s0 0 = K (s0 ++ ((List.range len).map piece).flatten) := by
  have key : ∀ (k i n : Nat) (s : List UInt8), i + k = len → k < n → s.length + k * B ≤ 100000000000000 → L n s (i : Int) = K (s ++ ((List.range' i k).map piece).flatten) := by
    intro k
    induction k with
    | zero =>
      intro i n s hi hn hb
      obtain ⟨m, rfl⟩ : ∃ m, n = m + 1 := ⟨n - 1, by omega⟩
      have : i = len := by omega
      subst this
      rw [he]; simp
    | succ k ih =>
      intro i n s hi hn hb
      obtain ⟨m, rfl⟩ : ∃ m, n = m + 1 := ⟨n - 1, by omega⟩
      have hlt : i < len := by omega
      have h1 := hp i hlt
      rw [Nat.add_mul, Nat.one_mul] at hb
      rw [hs m i s hlt (by omega), wrapS hlt hl, ih (i + 1) m _ (by omega) (by omega) (by simp only [List.length_append]; omega), List.range'_succ]
      simp
  have := key len 0 bigN s0 (by omega) (lt_bigN hl) hB
  rw [List.range_eq_range']
  exact this
theorem flat_len {n B : Nat} {piece : Nat → List UInt8} (h : ∀ i, i < n → (piece i).length ≤ B) : ((List.range n).map piece).flatten.length ≤ n * B := by
  induction n with
  | zero => simp
  | succ n ih =>
    have h1 := ih fun i hi => h i (by omega)
    have h2 := h n (by omega)
    rw [List.range_succ, List.map_append, List.flatten_append, List.length_append, Nat.add_mul, Nat.one_mul]
    simp only [List.map_cons, List.map_nil, List.flatten_cons, List.flatten_nil, List.append_nil]
    omega
def ptText (x : XPoint) : List UInt8 := [112, 111, 105, 110, 116, 32] ++ x.Name ++ (if x.Wait = true then [32, 119, 97, 105, 116] else []) ++ [10]
def ptName (c : XChart) (i : Int) : List UInt8 := (c.Points[i.toNat]?.map XPoint.Name).getD []
def segText (c : XChart) (x : XSegment) : List UInt8 := [99, 104, 97, 110, 110, 101, 108, 32] ++ ptName c x.A ++ [32] ++ ptName c x.B ++ [32] ++ itoa x.Depth ++ [32] ++ itoa x.Minutes ++ (if x.Meet = true then [32, 109, 101, 101, 116] else []) ++ [10]
def ptPiece (c : XChart) (i : Nat) : List UInt8 := (c.Points[i]?.map ptText).getD []
def segPiece (c : XChart) (i : Nat) : List UInt8 := (c.Segments[i]?.map (segText c)).getD []
def fmtChart (c : XChart) : List UInt8 := if chartOk c = true then ((List.range c.Points.length).map (ptPiece c)).flatten ++ ((List.range c.Segments.length).map (segPiece c)).flatten else []
theorem chart_facts {c : XChart} (h : chartOk c = true) : c.Points.length ≤ 8 ∧ c.Segments.length ≤ 10 ∧ (∀ x ∈ c.Points, x.Name.length ≤ 8) ∧ ∀ x ∈ c.Segments, idx x.A c.Points.length = true ∧ idx x.B c.Points.length = true ∧ i64 x.Depth ∧ i64 x.Minutes := by
  simp only [chartOk, Bool.and_eq_true, decide_eq_true_eq, List.all_eq_true, List.mem_range] at h
  obtain ⟨h1, h2, h3, h4⟩ := h
  refine ⟨h1, h2, fun x hx => ?_, fun x hx => ?_⟩
  · obtain ⟨i, hi, rfl⟩ := List.getElem_of_mem hx
    have := h3 i hi
    simp only [ptOk, List.getElem?_eq_getElem hi, Bool.and_eq_true] at this
    exact (name_len this.1).2
  · obtain ⟨i, hi, rfl⟩ := List.getElem_of_mem hx
    have := h4 i hi
    simp only [segOk, List.getElem?_eq_getElem hi, Bool.and_eq_true, decide_eq_true_eq] at this
    exact ⟨this.1, this.2.1, ⟨by omega, by omega⟩, ⟨by omega, by omega⟩⟩
theorem ix_name {c : XChart} {i : Int} (h : idx i c.Points.length = true) (hn : ∀ x ∈ c.Points, x.Name.length ≤ 8) : ∃ x, ix c.Points i = some x ∧ x.Name = ptName c i ∧ (ptName c i).length ≤ 8 := by
  simp only [idx, Bool.and_eq_true, decide_eq_true_eq] at h
  obtain ⟨k, rfl⟩ : ∃ k : Nat, i = (k : Int) := ⟨i.toNat, by omega⟩
  have hk : k < c.Points.length := by omega
  refine ⟨c.Points[k], ix_at hk, by simp [ptName, hk], ?_⟩
  simp only [ptName, Int.toNat_natCast, List.getElem?_eq_getElem hk, Option.map_some, Option.getD_some]
  exact hn _ (List.getElem_mem hk)
theorem ptPiece_len {c : XChart} (h : chartOk c = true) (i : Nat) (hi : i < c.Points.length) : (ptPiece c i).length ≤ 100 := by
  obtain ⟨_, _, hn, _⟩ := chart_facts h
  have := hn _ (List.getElem_mem hi)
  simp only [ptPiece, List.getElem?_eq_getElem hi, Option.map_some, Option.getD_some, ptText]
  split <;> (simp; omega)
theorem segPiece_len {c : XChart} (h : chartOk c = true) (i : Nat) (hi : i < c.Segments.length) : (segPiece c i).length ≤ 100 := by
  obtain ⟨_, _, hn, hs⟩ := chart_facts h
  obtain ⟨a, b, d, m⟩ := hs _ (List.getElem_mem hi)
  obtain ⟨_, _, _, na⟩ := ix_name a hn
  obtain ⟨_, _, _, nb⟩ := ix_name b hn
  have := itoa_len d; have := itoa_len m
  simp only [segPiece, List.getElem?_eq_getElem hi, Option.map_some, Option.getD_some, segText]
  split <;> (simp; omega)
theorem pts_len {c : XChart} (h : chartOk c = true) : (((List.range c.Points.length).map (ptPiece c)).flatten).length ≤ 10000 := by
  have h1 := flat_len (ptPiece_len h)
  have := (chart_facts h).1
  omega
theorem spec_FormatChart_eq {c : XChart} (hn0 : ∀ x ∈ c.Points, x.Name.length ≤ maxLen) : f_spec_FormatChart c = some (fmtChart c) := by
  unfold f_spec_FormatChart fmtChart
  rw [spec_ChartOk_eq hn0]
  simp only [Option.bind_some]
  cases h : chartOk c with
  | false => simp
  | true =>
    obtain ⟨h1, h2, hn, hsg⟩ := chart_facts h
    simp only [if_true]
    rw [cat_loopK (L := f_spec_FormatChart_1 c) c.Points.length (ptPiece c) 100 (fun s => f_spec_FormatChart_3 c bigN s 0) (by rw [maxLen_val]; omega) (ptPiece_len h) [] (by simp; omega) (fun n i s hi hs => ?_) (fun n s => by simp [f_spec_FormatChart_1])]
    · have hp := pts_len h
      rw [List.nil_append]
      refine cat_loopK (L := f_spec_FormatChart_3 c) c.Segments.length (segPiece c) 100 some (by rw [maxLen_val]; omega) (segPiece_len h) _ (by omega) (fun n i s hi hs => ?_) (fun n s => by simp [f_spec_FormatChart_3])
      obtain ⟨a, b, d, m⟩ := hsg _ (List.getElem_mem hi)
      obtain ⟨xa, ea, na, la⟩ := ix_name a hn
      obtain ⟨xb, eb, nb, lb⟩ := ix_name b hn
      have ld := itoa_len d; have lm := itoa_len m
      simp only [f_spec_FormatChart_3, dec_nn, hi, decide_true, if_true, ix_at hi, Option.bind_some, ea, eb, na, nb, fmt_eq d, fmt_eq m, segPiece, List.getElem?_eq_getElem hi, Option.map_some, Option.getD_some, f_spec_FormatChart_4, segText]
      rw [ifc (by simp; omega), ifc (by simp; omega), ifc (by simp; omega), ifc (by simp; omega), ifc (by simp; omega), ifc (by simp; omega), ifc (by simp; omega), ifc (by simp; omega)]
      cases c.Segments[i].Meet with
      | true =>
        simp only [if_true]
        rw [ifc (by simp; omega), ifc (by simp; omega)]
        simp
      | false =>
        simp only [Bool.false_eq_true, if_false]
        rw [ifc (by simp; omega)]
        simp
    · have hx := hn _ (List.getElem_mem hi)
      simp only [f_spec_FormatChart_1, dec_nn, hi, decide_true, if_true, ix_at hi, Option.bind_some, ptPiece, List.getElem?_eq_getElem hi, Option.map_some, Option.getD_some, f_spec_FormatChart_2, ptText]
      rw [ifc (by simp; omega), ifc (by simp; omega)]
      cases c.Points[i].Wait with
      | true =>
        simp only [if_true]
        rw [ifc (by simp; omega), ifc (by simp; omega)]
        simp
      | false =>
        simp only [Bool.false_eq_true, if_false]
        rw [ifc (by simp; omega)]
        simp
theorem impl_FormatChart_eq {c : XChart} (hn0 : ∀ x ∈ c.Points, x.Name.length ≤ maxLen) : f_impl_FormatChart c = some (fmtChart c) := by
  unfold f_impl_FormatChart fmtChart
  rw [impl_ChartOk_eq hn0]
  simp only [Option.bind_some]
  cases h : chartOk c with
  | false => simp
  | true =>
    obtain ⟨h1, h2, hn, hsg⟩ := chart_facts h
    simp only [if_true]
    rw [cat_loopK (L := f_impl_FormatChart_1 c) c.Points.length (ptPiece c) 100 (fun s => f_impl_FormatChart_2 c bigN s 0) (by rw [maxLen_val]; omega) (ptPiece_len h) [] (by simp; omega) (fun n i s hi hs => ?_) (fun n s => by simp [f_impl_FormatChart_1])]
    · have hp := pts_len h
      rw [List.nil_append]
      refine cat_loopK (L := f_impl_FormatChart_2 c) c.Segments.length (segPiece c) 100 some (by rw [maxLen_val]; omega) (segPiece_len h) _ (by omega) (fun n i s hi hs => ?_) (fun n s => by simp [f_impl_FormatChart_2])
      obtain ⟨a, b, d, m⟩ := hsg _ (List.getElem_mem hi)
      obtain ⟨xa, ea, na, la⟩ := ix_name a hn
      obtain ⟨xb, eb, nb, lb⟩ := ix_name b hn
      have ld := itoa_len d; have lm := itoa_len m
      simp only [f_impl_FormatChart_2, dec_nn, hi, decide_true, if_true, ix_at hi, Option.bind_some, ea, eb, na, nb, impl_fmt_eq d, impl_fmt_eq m, segPiece, List.getElem?_eq_getElem hi, Option.map_some, Option.getD_some, segText]
      rw [impl_join_eq (by simp) (by rw [join5]; simp; omega), join5]
      simp only [Option.bind_some]
      rw [impl_marked_eq (by simp; omega)]
      simp only [Option.bind_some]
      cases c.Segments[i].Meet with
      | true =>
        simp only [if_true]
        rw [ifc (by simp; omega), ifc (by simp; omega)]
        simp
      | false =>
        simp only [Bool.false_eq_true, if_false]
        rw [ifc (by simp; omega), ifc (by simp; omega)]
        simp
    · have hx := hn _ (List.getElem_mem hi)
      simp only [f_impl_FormatChart_1, dec_nn, hi, decide_true, if_true, ix_at hi, Option.bind_some, ptPiece, List.getElem?_eq_getElem hi, Option.map_some, Option.getD_some, ptText]
      rw [ifc (by simp; omega), impl_marked_eq (by simp; omega)]
      simp only [Option.bind_some]
      cases c.Points[i].Wait with
      | true =>
        simp only [if_true]
        rw [ifc (by simp; omega), ifc (by simp; omega)]
      | false =>
        simp only [Bool.false_eq_true, if_false]
        rw [ifc (by simp; omega), ifc (by simp; omega)]
end Go.Vi
