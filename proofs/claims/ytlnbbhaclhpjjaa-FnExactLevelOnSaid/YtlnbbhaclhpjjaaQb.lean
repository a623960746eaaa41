/-
  Plain laws: charts and closures. No condition.
-/
import Derived.Test.YtlnbbhaclhpjjaaQa
namespace Go.Vi
set_option linter.unusedSimpArgs false
set_option linter.unusedVariables false

theorem isIndex_eq (i n : Int) : f_impl_isIndex i n = some (decide (0 ≤ i) && decide (i < n)) := by
  unfold f_impl_isIndex
  by_cases h : 0 ≤ i <;> simp [h]
def idx (i : Int) (n : Nat) : Bool := decide (0 ≤ i) && decide (i < (n : Int))
theorem in_idx (i : Int) {n : Nat} (h : n ≤ 1000) : (decide (0 ≤ i) && decide (i ≤ IntKind.i64.wrap ((n : Int) - 1))) = idx i n := by
  rw [wrap64 (by omega) (by omega)]
  unfold idx
  congr 1
  rw [Bool.eq_iff_iff]
  simp
  omega
def segOk (c : XChart) (i : Nat) : Bool := match c.Segments[i]? with
  | some x => idx x.A c.Points.length && (idx x.B c.Points.length && (!(decide (x.A = x.B)) && ((decide (0 ≤ x.Depth) && decide (x.Depth ≤ 3000)) && ((decide (1 ≤ x.Minutes) && decide (x.Minutes ≤ 240)) && !((List.range i).any fun j => match c.Segments[j]? with | some y => jn y x.A x.B | none => false)))))
  | none => false
def ptOk (c : XChart) (i : Nat) : Bool := match c.Points[i]? with
  | some x => isName x.Name && decide (ptNamed c.Points x.Name = (i : Int))
  | none => false
def chartOk (c : XChart) : Bool := decide (c.Points.length ≤ 8) && (decide (c.Segments.length ≤ 10) && ((List.range c.Points.length).all (ptOk c) && (List.range c.Segments.length).all (segOk c)))

theorem bnd_take {n i : Nat} (h : i ≤ n) : bnd (n : Int) (i : Int) (0 : Int) n = some (0, i) := by
  unfold bnd
  rw [if_pos ⟨by omega, by omega, by omega, by omega⟩]
  simp
theorem take_at {α : Type} {l : List α} {i j : Nat} (hj : j < i) : (l.take i)[j]? = l[j]? := by simp [List.getElem?_take, hj]

theorem spec_ChartOk_eq {c : XChart} (hn : ∀ x ∈ c.Points, x.Name.length ≤ maxLen) : f_spec_ChartOk c = some (chartOk c) := by
  unfold f_spec_ChartOk chartOk
  by_cases h1 : c.Points.length ≤ 8
  · have h1' : ¬ (8 : Int) < c.Points.length := by omega
    by_cases h2 : c.Segments.length ≤ 10
    · have h2' : ¬ (10 : Int) < c.Segments.length := by omega
      have hp : c.Points.length ≤ maxLen := by rw [maxLen_val]; omega
      have hs : c.Segments.length ≤ maxLen := by rw [maxLen_val]; omega
      have inner : f_spec_ChartOk_2 c bigN 0 = some ((List.range c.Segments.length).all (segOk c)) := by
        rw [all_loopK (L := f_spec_ChartOk_2 c) c.Segments.length (segOk c) (some true) hs (fun n i hi => ?_) (fun n => by simp [f_spec_ChartOk_2])]
        · cases (List.range c.Segments.length).all (segOk c) <;> rfl
        · simp only [f_spec_ChartOk_2, ix_nn, List.getElem?_eq_getElem hi, Option.bind_some, dec_nn, hi, decide_true, if_true, l01In_eq, in_idx _ (show c.Points.length ≤ 1000 by omega), bnd_take (Nat.le_of_lt hi), segOk, List.drop_zero, Nat.sub_zero]
          have hl : (c.Segments.take i).length = i := by simp; omega
          rw [hl]
          rw [any_loopK (L := f_spec_ChartOk_3 c i c.Segments[i] (c.Segments.take i) (i : Int) (f_spec_ChartOk_2 c n)) i (fun j => match c.Segments[j]? with | some y => jn y c.Segments[i].A c.Segments[i].B | none => false)
            (f_spec_ChartOk_2 c n (IntKind.i64.wrap ((i : Int) + 1))) (by omega) (fun m j hj => by
              have hj2 : j < c.Segments.length := by omega
              simp only [f_spec_ChartOk_3, ix_nn, take_at hj, List.getElem?_eq_getElem hj2, Option.bind_some, dec_nn, hj, decide_true, if_true, spec_joins_eq]) (fun m => by simp [f_spec_ChartOk_3])]
          have e : (c.Segments[i].A == c.Segments[i].B) = decide (c.Segments[i].A = c.Segments[i].B) := rfl
          rw [e]
          cases idx c.Segments[i].A c.Points.length <;> cases idx c.Segments[i].B c.Points.length <;> cases decide (c.Segments[i].A = c.Segments[i].B) <;> cases (decide (0 ≤ c.Segments[i].Depth) && decide (c.Segments[i].Depth ≤ 3000)) <;>
            cases (decide (1 ≤ c.Segments[i].Minutes) && decide (c.Segments[i].Minutes ≤ 240)) <;> cases ((List.range i).any fun j => match c.Segments[j]? with | some y => jn y c.Segments[i].A c.Segments[i].B | none => false) <;> rfl
      rw [all_loopK (L := f_spec_ChartOk_1 c) c.Points.length (ptOk c) _ hp (fun n i hi => ?_) (fun n => by simp only [f_spec_ChartOk_1, Int.lt_irrefl, decide_false, Bool.false_eq_true, if_false]; exact inner)]
      · simp only [h1, h2, h1', h2', decide_true, decide_false, Bool.true_and, Bool.false_eq_true, if_false]
        cases (List.range c.Points.length).all (ptOk c) <;> rfl
      · simp only [f_spec_ChartOk_1, ix_nn, List.getElem?_eq_getElem hi, Option.bind_some, dec_nn, hi, decide_true, if_true, spec_IsName_eq (hn _ (List.getElem_mem hi)), spec_PointNamed_eq hp, ptOk]
        by_cases e : ptNamed c.Points c.Points[i].Name = (i : Int) <;> cases isName c.Points[i].Name <;> simp [e]
    · have h2' : (10 : Int) < c.Segments.length := by omega
      simp [h1, h1', h2, h2']
  · have h1' : (8 : Int) < c.Points.length := by omega
    simp [h1, h1']
theorem impl_ChartOk_eq {c : XChart} (hn : ∀ x ∈ c.Points, x.Name.length ≤ maxLen) : f_impl_ChartOk c = some (chartOk c) := by
  unfold f_impl_ChartOk chartOk
  by_cases h1 : c.Points.length ≤ 8
  · have h1' : ¬ (8 : Int) < c.Points.length := by omega
    by_cases h2 : c.Segments.length ≤ 10
    · have h2' : ¬ (10 : Int) < c.Segments.length := by omega
      have hp : c.Points.length ≤ maxLen := by rw [maxLen_val]; omega
      have hs : c.Segments.length ≤ maxLen := by rw [maxLen_val]; omega
      have inner : f_impl_ChartOk_2 c bigN 0 = some ((List.range c.Segments.length).all (segOk c)) := by
        rw [all_loopK (L := f_impl_ChartOk_2 c) c.Segments.length (segOk c) (some true) hs (fun n i hi => ?_) (fun n => by simp [f_impl_ChartOk_2])]
        · cases (List.range c.Segments.length).all (segOk c) <;> rfl
        · simp only [f_impl_ChartOk_2, ix_nn, List.getElem?_eq_getElem hi, Option.bind_some, dec_nn, hi, decide_true, if_true, within_eq, isIndex_eq, show ∀ (a : Int) (n : Nat), (decide (0 ≤ a) && decide (a < (n : Int))) = idx a n from fun _ _ => rfl, bnd_take (Nat.le_of_lt hi), segOk, List.drop_zero, Nat.sub_zero]
          have hl : (c.Segments.take i).length = i := by simp; omega
          rw [hl]
          rw [any_loopK (L := f_impl_ChartOk_3 c i c.Segments[i] (c.Segments.take i) (i : Int) (f_impl_ChartOk_2 c n)) i (fun j => match c.Segments[j]? with | some y => jn y c.Segments[i].A c.Segments[i].B | none => false)
            (f_impl_ChartOk_2 c n (IntKind.i64.wrap ((i : Int) + 1))) (by omega) (fun m j hj => by
              have hj2 : j < c.Segments.length := by omega
              simp only [f_impl_ChartOk_3, ix_nn, take_at hj, List.getElem?_eq_getElem hj2, Option.bind_some, dec_nn, hj, decide_true, if_true, impl_joins_eq]) (fun m => by simp [f_impl_ChartOk_3])]
          have e : (c.Segments[i].A == c.Segments[i].B) = decide (c.Segments[i].A = c.Segments[i].B) := rfl
          rw [e]
          cases idx c.Segments[i].A c.Points.length <;> cases idx c.Segments[i].B c.Points.length <;> cases decide (c.Segments[i].A = c.Segments[i].B) <;> cases (decide (0 ≤ c.Segments[i].Depth) && decide (c.Segments[i].Depth ≤ 3000)) <;>
            cases (decide (1 ≤ c.Segments[i].Minutes) && decide (c.Segments[i].Minutes ≤ 240)) <;> cases ((List.range i).any fun j => match c.Segments[j]? with | some y => jn y c.Segments[i].A c.Segments[i].B | none => false) <;> rfl
      rw [all_loopK (L := f_impl_ChartOk_1 c) c.Points.length (ptOk c) _ hp (fun n i hi => ?_) (fun n => by simp only [f_impl_ChartOk_1, Int.lt_irrefl, decide_false, Bool.false_eq_true, if_false]; exact inner)]
      · simp only [h1, h2, h1', h2', decide_true, decide_false, Bool.true_and, Bool.false_eq_true, if_false]
        cases (List.range c.Points.length).all (ptOk c) <;> rfl
      · simp only [f_impl_ChartOk_1, ix_nn, List.getElem?_eq_getElem hi, Option.bind_some, dec_nn, hi, decide_true, if_true, impl_IsName_eq (hn _ (List.getElem_mem hi)), impl_PointNamed_eq hp, ptOk]
        by_cases e : ptNamed c.Points c.Points[i].Name = (i : Int) <;> cases isName c.Points[i].Name <;> simp [e]
    · have h2' : (10 : Int) < c.Segments.length := by omega
      simp [h1, h1', h2, h2']
  · have h1' : (8 : Int) < c.Points.length := by omega
    simp [h1, h1']

/-! Closures -/
def cloOk (c : XChart) (x : XClosure) : Bool := idx x.Segment c.Segments.length && (decide (0 ≤ x.From) && (decide (x.From < x.To) && decide (x.To ≤ 2880)))
def closOk (c : XChart) (l : List XClosure) : Bool := chartOk c && (decide (l.length ≤ 4) && l.all (cloOk c))
theorem chart_small {c : XChart} (h : chartOk c = true) : c.Segments.length ≤ 1000 := by
  simp only [chartOk, Bool.and_eq_true, decide_eq_true_eq] at h
  omega
theorem l01In_idx (i : Int) {n : Nat} (h : n ≤ 1000) : f_spec_l01In i 0 (IntKind.i64.wrap ((n : Int) - 1)) = some (idx i n) := by rw [l01In_eq, in_idx i h]
theorem isIndex_idx (i : Int) (n : Nat) : f_impl_isIndex i (n : Int) = some (idx i n) := isIndex_eq i n
theorem clo_spec (b : Bool) (f t : Int) (K : Option Bool) :
    (if b = true then (if (decide (0 ≤ f) && decide (f ≤ 2880)) = true then (if decide (t ≤ f) = true then some false else if decide (2880 < t) = true then some false else K) else some false) else some false) =
      if (b && (decide (0 ≤ f) && (decide (f < t) && decide (t ≤ 2880)))) = true then K else some false := by
  cases b
  · rfl
  · have e1 : decide (t ≤ f) = !decide (f < t) := by rw [Bool.eq_iff_iff]; simp
    have e2 : decide (2880 < t) = !decide (t ≤ 2880) := by rw [Bool.eq_iff_iff]; simp
    rw [e1, e2]
    by_cases a : f ≤ 2880
    · rw [show decide (f ≤ 2880) = true from decide_eq_true a]
      cases decide (0 ≤ f) <;> cases decide (f < t) <;> cases decide (t ≤ 2880) <;> rfl
    · have e4 : (decide (f < t) && decide (t ≤ 2880)) = false := by
        rw [Bool.and_eq_false_iff]
        simp only [decide_eq_false_iff_not]
        omega
      rw [e4, show decide (f ≤ 2880) = false from decide_eq_false a]
      cases decide (0 ≤ f) <;> rfl
theorem clo_impl (b : Bool) (f t : Int) (K : Option Bool) :
    (if b = true then (if decide (f < 0) = true then some false else (if decide (t ≤ f) = true then some false else if decide (2880 < t) = true then some false else K)) else some false) =
      if (b && (decide (0 ≤ f) && (decide (f < t) && decide (t ≤ 2880)))) = true then K else some false := by
  cases b
  · rfl
  · have e1 : decide (t ≤ f) = !decide (f < t) := by rw [Bool.eq_iff_iff]; simp
    have e2 : decide (2880 < t) = !decide (t ≤ 2880) := by rw [Bool.eq_iff_iff]; simp
    have e3 : decide (f < 0) = !decide (0 ≤ f) := by rw [Bool.eq_iff_iff]; simp
    rw [e1, e2, e3]
    cases decide (0 ≤ f) <;> cases decide (f < t) <;> cases decide (t ≤ 2880) <;> rfl
theorem spec_ClosuresOk_eq {c : XChart} {l : List XClosure} (hn : ∀ x ∈ c.Points, x.Name.length ≤ maxLen) : f_spec_ClosuresOk c l = some (closOk c l) := by
  unfold f_spec_ClosuresOk closOk
  rw [spec_ChartOk_eq hn, Option.bind_some]
  cases hc : chartOk c with
  | false => rfl
  | true =>
    have hs := chart_small hc
    by_cases h1 : l.length ≤ 4
    · have h1' : ¬ (4 : Int) < l.length := by omega
      rw [all_loop (L := f_spec_ClosuresOk_1 l c) l (cloOk c) (by rw [maxLen_val]; omega) (fun n i hi => ?_) (fun n => by simp [f_spec_ClosuresOk_1])]
      · simp [h1, h1']
      · simp only [f_spec_ClosuresOk_1, ix_nn, List.getElem?_eq_getElem hi, Option.bind_some, dec_nn, hi, decide_true, if_true, l01In_idx _ hs, l01In_eq, cloOk]
        exact clo_spec _ _ _ _
    · have h1' : (4 : Int) < l.length := by omega
      simp [h1, h1']
theorem impl_ClosuresOk_eq {c : XChart} {l : List XClosure} (hn : ∀ x ∈ c.Points, x.Name.length ≤ maxLen) : f_impl_ClosuresOk c l = some (closOk c l) := by
  unfold f_impl_ClosuresOk closOk
  rw [impl_ChartOk_eq hn, Option.bind_some]
  cases hc : chartOk c with
  | false => rfl
  | true =>
    have hs := chart_small hc
    by_cases h1 : l.length ≤ 4
    · have h1' : ¬ (4 : Int) < l.length := by omega
      rw [all_loop (L := f_impl_ClosuresOk_1 l c) l (cloOk c) (by rw [maxLen_val]; omega) (fun n i hi => ?_) (fun n => by simp [f_impl_ClosuresOk_1])]
      · simp [h1, h1']
      · simp only [f_impl_ClosuresOk_1, ix_nn, List.getElem?_eq_getElem hi, Option.bind_some, dec_nn, hi, decide_true, if_true, isIndex_idx, cloOk]
        exact clo_impl _ _ _ _
    · have h1' : (4 : Int) < l.length := by omega
      simp [h1, h1']

/-! Copies, comparisons, sizes -/
theorem toPointS_eq {xs : List XPoint} (h : xs.length ≤ 1048576) : f_laws_toPointS xs = some xs := by
  unfold f_laws_toPointS
  rw [mkS_len h (by omega)]
  have := copy_loop (L := f_laws_toPointS_1 xs) xs id (le_max h) (fun n i acc hi ha => by simp [f_laws_toPointS_1, ix_nn, hi, ha, f_laws_toPoint]) (fun n acc => by simp [f_laws_toPointS_1]) (List.replicate xs.length ⟨[], false⟩) (by simp)
  simpa using this
theorem toSegmentS_eq {xs : List XSegment} (h : xs.length ≤ 1048576) : f_laws_toSegmentS xs = some xs := by
  unfold f_laws_toSegmentS
  rw [mkS_len h (by omega)]
  have := copy_loop (L := f_laws_toSegmentS_1 xs) xs id (le_max h) (fun n i acc hi ha => by simp [f_laws_toSegmentS_1, ix_nn, hi, ha, f_laws_toSegment]) (fun n acc => by simp [f_laws_toSegmentS_1]) (List.replicate xs.length ⟨0, 0, 0, 0, false⟩) (by simp)
  simpa using this
theorem toChart_eq {c : XChart} (h1 : c.Points.length ≤ 1048576) (h2 : c.Segments.length ≤ 1048576) : f_laws_toChart c = some c := by
  simp [f_laws_toChart, toPointS_eq h1, toSegmentS_eq h2]
theorem eqPoint_eq (x y : XPoint) : f_laws_eqPoint x y = some (decide (x = y)) := by
  unfold f_laws_eqPoint
  cases x; cases y
  simp only [XPoint.mk.injEq]
  repeat' split
  all_goals simp_all
theorem eqPointS_eq {xs ys : List XPoint} (h : xs.length ≤ maxLen) : f_laws_eqPointS xs ys = some (decide (xs = ys)) := by
  unfold f_laws_eqPointS
  by_cases hl : xs.length = ys.length
  · have := eq_loop (L := f_laws_eqPointS_1 xs ys) xs ys h hl (fun n i h1 h2 => by simp [f_laws_eqPointS_1, ix_nn, h1, h2, eqPoint_eq]) (fun n => by simp [f_laws_eqPointS_1])
    simp [hl, this]
  · have : ¬ (xs.length : Int) = ys.length := by omega
    have : xs ≠ ys := fun e => hl (by rw [e])
    simp_all
theorem eqSegment_eq (x y : XSegment) : f_laws_eqSegment x y = some (decide (x = y)) := by
  unfold f_laws_eqSegment
  cases x; cases y
  simp only [XSegment.mk.injEq]
  repeat' split
  all_goals simp_all
theorem eqSegmentS_eq {xs ys : List XSegment} (h : xs.length ≤ maxLen) : f_laws_eqSegmentS xs ys = some (decide (xs = ys)) := by
  unfold f_laws_eqSegmentS
  by_cases hl : xs.length = ys.length
  · have := eq_loop (L := f_laws_eqSegmentS_1 xs ys) xs ys h hl (fun n i h1 h2 => by simp [f_laws_eqSegmentS_1, ix_nn, h1, h2, eqSegment_eq]) (fun n => by simp [f_laws_eqSegmentS_1])
    simp [hl, this]
  · have : ¬ (xs.length : Int) = ys.length := by omega
    have : xs ≠ ys := fun e => hl (by rw [e])
    simp_all
theorem eqChart_self {c : XChart} (h1 : c.Points.length ≤ maxLen) (h2 : c.Segments.length ≤ maxLen) : f_laws_eqChart c c = some true := by
  simp [f_laws_eqChart, eqPointS_eq h1, eqSegmentS_eq h2]
theorem szPoint_of {x : XPoint} {l : Int} (h0 : 0 ≤ l) (h1 : l ≤ 1048576) (hx : x.Name.length ≤ maxLen) : ∃ r, f_laws_szPoint x l = some r ∧ (0 ≤ r → r ≤ l) := by
  unfold f_laws_szPoint
  rw [maxLen_val] at hx
  rw [wrap64 (by omega) (by omega)]
  by_cases h : l - (x.Name.length : Int) < 0
  · exact ⟨-1, by simp [h], by omega⟩
  · exact ⟨l - x.Name.length, by simp [h], by omega⟩
theorem szPointS_of {xs : List XPoint} {l : Int} (h0 : 0 ≤ l) (h1 : l ≤ 1048576) (hx : xs.length ≤ maxLen) (hn : ∀ x ∈ xs, x.Name.length ≤ maxLen) : ∃ r, f_laws_szPointS xs l = some r ∧ (0 ≤ r → r ≤ l ∧ xs.length ≤ 1048576) := by
  unfold f_laws_szPointS
  have hx' := hx
  rw [maxLen_val] at hx'
  rw [wrap64 (by omega) (by omega)]
  by_cases h : l - (xs.length : Int) < 0
  · exact ⟨-1, by simp [h], by omega⟩
  · have key : ∀ (k i n : Nat) (v : Int), i + k = xs.length → k < n → 0 ≤ v → v ≤ l → ∃ r, f_laws_szPointS_1 xs n v (i : Int) = some r ∧ (0 ≤ r → r ≤ l) := by
      intro k
      induction k with
      | zero =>
        intro i n v hi hn2 hv hv2
        obtain ⟨m, rfl⟩ : ∃ m, n = m + 1 := ⟨n - 1, by omega⟩
        have : i = xs.length := by omega
        subst this
        exact ⟨v, by simp [f_laws_szPointS_1], fun _ => hv2⟩
      | succ k ih =>
        intro i n v hi hn2 hv hv2
        obtain ⟨m, rfl⟩ : ∃ m, n = m + 1 := ⟨n - 1, by omega⟩
        have hlt : i < xs.length := by omega
        obtain ⟨r, e, hr⟩ := szPoint_of (x := xs[i]) hv (by omega) (hn _ (List.getElem_mem hlt))
        by_cases hr0 : r < 0
        · exact ⟨-1, by simp [f_laws_szPointS_1, ix_nn, hlt, e, hr0], by omega⟩
        · obtain ⟨r2, e2, h2⟩ := ih (i + 1) m r (by omega) (by omega) (by omega) (by have := hr (by omega); omega)
          refine ⟨r2, ?_, h2⟩
          rw [← wrapS hlt hx] at e2
          simp only [f_laws_szPointS_1, ix_nn, List.getElem?_eq_getElem hlt, Option.bind_some, dec_nn, hlt, decide_true, if_true, e, hr0, decide_false, Bool.false_eq_true, if_false]
          exact e2
    obtain ⟨r, e, hr⟩ := key xs.length 0 bigN (l - xs.length) (by omega) (lt_bigN hx) (by omega) (by omega)
    refine ⟨r, ?_, fun h => ⟨hr h, by omega⟩⟩
    simp only [h, decide_false, Bool.false_eq_true, if_false]
    exact e
theorem szSegmentS_of {xs : List XSegment} {l : Int} (h0 : 0 ≤ l) (h1 : l ≤ 1048576) (hx : xs.length ≤ maxLen) : ∃ r, f_laws_szSegmentS xs l = some r ∧ (0 ≤ r → r ≤ l ∧ xs.length ≤ 1048576) := by
  unfold f_laws_szSegmentS
  rw [maxLen_val] at hx
  rw [wrap64 (by omega) (by omega)]
  by_cases h : l - (xs.length : Int) < 0
  · exact ⟨-1, by simp [h], by omega⟩
  · exact ⟨l - xs.length, by simp [h], by omega⟩
theorem szChart_of {c : XChart} {l : Int} (h0 : 0 ≤ l) (h1 : l ≤ 1048576) (hp : c.Points.length ≤ maxLen) (hs : c.Segments.length ≤ maxLen) (hn : ∀ x ∈ c.Points, x.Name.length ≤ maxLen) :
    ∃ r, f_laws_szChart c l = some r ∧ (0 ≤ r → r ≤ l ∧ c.Points.length ≤ 1048576 ∧ c.Segments.length ≤ 1048576) := by
  unfold f_laws_szChart
  obtain ⟨r, e, h⟩ := szPointS_of h0 h1 hp hn
  by_cases hr : r < 0
  · exact ⟨-1, by simp [e, hr], by omega⟩
  · obtain ⟨k1, k2⟩ := h (by omega)
    obtain ⟨r', e', h'⟩ := szSegmentS_of (xs := c.Segments) (l := r) (by omega) (by omega) hs
    by_cases hr' : r' < 0
    · exact ⟨-1, by simp [e, hr, e', hr'], by omega⟩
    · obtain ⟨k3, k4⟩ := h' (by omega)
      exact ⟨r', by simp [e, hr, e', hr'], fun _ => ⟨by omega, k2, k4⟩⟩
theorem chart_ok {c : XChart} (ok : ∀ d ∈ XChart.row c, d.Ok) : c.Points.length ≤ maxLen ∧ c.Segments.length ≤ maxLen ∧ ∀ x ∈ c.Points, x.Name.length ≤ maxLen := by
  have h1 := ok _ (show D.sl (List.map XPoint.row c.Points) ∈ XChart.row c by simp [XChart.row_eq])
  have h2 := ok _ (show D.sl (List.map XSegment.row c.Segments) ∈ XChart.row c by simp [XChart.row_eq])
  refine ⟨len_ok h1, len_ok h2, fun x hx => ?_⟩
  exact (h1.sl.2 (XPoint.row x) (List.mem_map_of_mem hx) (.str x.Name) (by simp [XPoint.row_eq])).str
theorem law_FnExactClosuresOk (c : XChart) (l : List XClosure) (ok : DsOk [.ag (XChart.row c), .sc (.sl (List.map XClosure.row l))]) : f_laws_FnExactClosuresOk c l = some true := by
  unfold f_laws_FnExactClosuresOk
  obtain ⟨hp, hs, hn⟩ := chart_ok ok.ag.1
  have m := len_ok ok.ag.2.sc.1
  obtain ⟨r, e, h⟩ := szChart_of (c := c) (l := 1048576) (by omega) (by omega) hp hs hn
  by_cases hr : r < 0
  · simp [e, hr]
  · obtain ⟨k1, k2, k3⟩ := h (by omega)
    obtain ⟨r', e', h'⟩ := szClosureS_of (xs := l) (l := r) (by omega) (by omega) m
    by_cases hr' : r' < 0
    · simp [e, hr, e', hr']
    · obtain ⟨_, k4⟩ := h' (by omega)
      simp [e, hr, e', hr', toChart_eq k2 k3, toClosureS_eq k4, spec_ClosuresOk_eq hn, impl_ClosuresOk_eq hn, eqClosureS_eq m, eqChart_self hp hs]
end Go.Vi
