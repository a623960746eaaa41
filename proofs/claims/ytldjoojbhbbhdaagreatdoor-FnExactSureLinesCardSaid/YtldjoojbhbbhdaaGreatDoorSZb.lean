/-
  Plain laws for SureLines: the windows of a sequence of minutes. No condition.
-/
import Derived.Test.YtldjoojbhbbhdaaGreatDoorSZa
namespace Go.Vi
open Go.Lib
set_option linter.unusedSimpArgs false
set_option linter.unusedVariables false

/-- Whether a window is open ahead of minute 'n'. -/
def opn (g : Nat → Bool) (n : Nat) : Bool := decide (0 < n) && g (n - 1)
def setTo (v : List XWindow) (n : Int) : List XWindow := v.dropLast ++ [⟨(v.getLast?.getD ⟨0, 0⟩).From, n⟩]
/-- The windows of the minutes before 'n' at which 'g' holds. -/
def wins (g : Nat → Bool) : Nat → List XWindow
  | 0 => []
  | n + 1 => if g n = true then (if opn g n = true then setTo (wins g n) (n : Int) else wins g n ++ [⟨(n : Int), (n : Int)⟩]) else wins g n
theorem opn_succ (g : Nat → Bool) (n : Nat) : opn g (n + 1) = g n := by simp [opn]
theorem setTo_snoc (l : List XWindow) (x : XWindow) (n : Int) : setTo (l ++ [x]) n = l ++ [⟨x.From, n⟩] := by simp [setTo]
theorem wins_inv (g : Nat → Bool) : ∀ n, (wins g n).length ≤ n ∧ (opn g n = true → ∃ l x, wins g n = l ++ [x] ∧ x.To = (n : Int) - 1) ∧ (opn g n = false → wins g n = [] ∨ ∃ l x, wins g n = l ++ [x] ∧ x.To < (n : Int) - 1)
  | 0 => ⟨by simp [wins], by simp [opn], fun _ => .inl rfl⟩
  | n + 1 => by
    obtain ⟨h1, h2, h3⟩ := wins_inv g n
    rw [opn_succ]
    by_cases hg : g n = true
    · by_cases ho : opn g n = true
      · obtain ⟨l, x, e, ht⟩ := h2 ho
        have ew : wins g (n + 1) = l ++ [⟨x.From, (n : Int)⟩] := by simp only [wins, hg, if_true, ho, e, setTo_snoc]
        refine ⟨by rw [ew]; rw [e] at h1; simp at h1 ⊢; omega, fun _ => ⟨l, _, ew, by simp only; omega⟩, fun h => by rw [hg] at h; cases h⟩
      · have ew : wins g (n + 1) = wins g n ++ [⟨(n : Int), (n : Int)⟩] := by simp only [wins, hg, if_true, ho, if_false]; rfl
        refine ⟨by rw [ew]; simp; omega, fun _ => ⟨_, _, ew, by simp only; omega⟩, fun h => by rw [hg] at h; cases h⟩
    · have ew : wins g (n + 1) = wins g n := by simp [wins, hg]
      rw [ew]
      refine ⟨by omega, fun h => absurd h hg, fun _ => ?_⟩
      cases ho : opn g n with
      | true =>
        obtain ⟨l, x, e, ht⟩ := h2 ho
        exact .inr ⟨l, x, e, by omega⟩
      | false =>
        rcases h3 ho with e | ⟨l, x, e, ht⟩
        · exact .inl e
        · exact .inr ⟨l, x, e, by omega⟩
theorem wins_congr {g g' : Nat → Bool} : ∀ n, (∀ j, j < n → g j = g' j) → wins g n = wins g' n
  | 0, _ => rfl
  | n + 1, h => by
    have e1 : opn g n = opn g' n := by
      unfold opn
      by_cases h0 : 0 < n
      · rw [h (n - 1) (by omega)]
      · simp [h0]
    simp only [wins, h n (by omega), e1, wins_congr n fun j hj => h j (by omega)]
theorem last_ix {l : List XWindow} {x : XWindow} (h : l.length ≤ 100000) : ix (l ++ [x]) (IntKind.i64.wrap (((l ++ [x]).length : Int) - 1)) = some x ∧ Int.toNat (IntKind.i64.wrap (((l ++ [x]).length : Int) - 1)) = l.length := by
  have e : IntKind.i64.wrap (((l ++ [x]).length : Int) - 1) = ((l.length : Nat) : Int) := by
    rw [wrap64 (by simp <;> omega) (by simp <;> omega)]
    simp
  rw [e]
  exact ⟨by rw [ix_at (by simp)]; simp, by simp⟩
theorem spec_Of_eq {L : List Bool} (hl : L.length ≤ 3000) : f_spec_l04Of L = some (wins (fun i => L.getD i false) L.length) := by
  unfold f_spec_l04Of
  have key : ∀ (k i n : Nat), i + k = L.length → k < n → f_spec_l04Of_1 L n (i : Int) (wins (fun i => L.getD i false) i) = some (wins (fun i => L.getD i false) L.length) := by
    intro k
    induction k with
    | zero =>
      intro i n hi hn
      obtain ⟨m, rfl⟩ : ∃ m, n = m + 1 := ⟨n - 1, by omega⟩
      have : i = L.length := by omega
      subst this
      simp [f_spec_l04Of_1]
    | succ k ih =>
      intro i n hi hn
      obtain ⟨m, rfl⟩ : ∃ m, n = m + 1 := ⟨n - 1, by omega⟩
      have hlt : i < L.length := by omega
      have ih' := ih (i + 1) m (by omega) (by omega)
      have hw := wrapS hlt (show L.length ≤ maxLen by rw [maxLen_val]; omega)
      obtain ⟨w1, w2, w3⟩ := wins_inv (fun i => L.getD i false) i
      have hgi : L.getD i false = L[i] := by simp [hlt]
      rw [wins] at ih'
      simp only [hgi] at ih'
      simp only [f_spec_l04Of_1, dec_nn, hlt, decide_true, if_true, ix_at hlt, Option.bind_some]
      have hwm : IntKind.i64.wrap ((i : Int) - 1) = (i : Int) - 1 := wrap64 (by omega) (by omega)
      generalize hwi : wins (fun i => L.getD i false) i = v at *
      cases hb : L[i] with
      | false =>
        rw [hb] at ih'
        simp only [Bool.false_eq_true, if_false] at ih' ⊢
        rw [hw]
        exact ih'
      | true =>
        rw [hb] at ih'
        simp only [if_true] at ih' ⊢
        cases ho : opn (fun i => L.getD i false) i with
        | true =>
          rw [ho] at ih'
          obtain ⟨l, x, rfl, ht⟩ := w2 ho
          obtain ⟨q1, q2⟩ := last_ix (l := l) (x := x) (by simp at w1; omega)
          have hpos : 0 < (l ++ [x]).length := by simp
          have hpos' : decide ((0 : Int) < ((l ++ [x]).length : Int)) = true := decide_eq_true (by omega)
          rw [if_pos hpos', q1]
          simp only [Option.bind_some, f_spec_l04Of_2, hwm, ht, beq_self_eq_true, if_true, q1, q2]
          rw [hw]
          simp only [if_true, setTo_snoc] at ih'
          simpa using ih'
        | false =>
          rw [ho] at ih'
          simp only [Bool.false_eq_true, if_false] at ih'
          have fin : ∀ w : List XWindow, w = v → f_spec_l04Of_2 (i : Int) L w (f_spec_l04Of_1 L m) false = some (wins (fun i => L.getD i false) L.length) := by
            rintro w rfl
            simp only [f_spec_l04Of_2, Bool.false_eq_true, if_false]
            rw [ifa (by simp; omega) (by omega), hw]
            exact ih'
          rcases w3 ho with rfl | ⟨l, x, rfl, ht⟩
          · exact fin [] rfl
          · obtain ⟨q1, q2⟩ := last_ix (l := l) (x := x) (by simp at w1; omega)
            have hpos' : decide ((0 : Int) < ((l ++ [x]).length : Int)) = true := decide_eq_true (by simp <;> omega)
            have hne : (x.To == (i : Int) - 1) = false := by simp <;> omega
            rw [if_pos hpos', q1]
            simp only [Option.bind_some, hwm, hne]
            exact fin _ rfl
  exact key L.length 0 bigN (by omega) (lt_bigN (by rw [maxLen_val]; omega))
theorem impl_Of_eq {a0 : Int → Option Bool} {g : Nat → Bool} (h : ∀ i : Nat, i ≤ 2880 → a0 (i : Int) = some (g i)) : f_impl_windowsOf a0 = some (wins g 2881) := by
  unfold f_impl_windowsOf
  have key : ∀ (k i n : Nat), i + k = 2881 → k < n → f_impl_windowsOf_1 a0 n (opn g i) (i : Int) (wins g i) = some (wins g 2881) := by
    intro k
    induction k with
    | zero =>
      intro i n hi hn
      obtain ⟨m, rfl⟩ : ∃ m, n = m + 1 := ⟨n - 1, by omega⟩
      have : i = 2881 := by omega
      subst this
      simp [f_impl_windowsOf_1]
    | succ k ih =>
      intro i n hi hn
      obtain ⟨m, rfl⟩ : ∃ m, n = m + 1 := ⟨n - 1, by omega⟩
      have hle : decide ((i : Int) ≤ 2880) = true := decide_eq_true (by omega)
      have ih' := ih (i + 1) m (by omega) (by omega)
      have hw : IntKind.i64.wrap ((i : Int) + 1) = ((i + 1 : Nat) : Int) := wrapS (n := 2881) (by omega) (by rw [maxLen_val]; omega)
      obtain ⟨w1, w2, w3⟩ := wins_inv g i
      rw [opn_succ, wins] at ih'
      simp only [f_impl_windowsOf_1, hle, if_true, h i (by omega), Option.bind_some]
      generalize hwi : wins g i = v at *
      cases hb : g i with
      | false =>
        rw [hb] at ih'
        simp only [Bool.false_eq_true, if_false, f_impl_windowsOf_3] at ih' ⊢
        rw [hw]
        exact ih'
      | true =>
        rw [hb] at ih'
        simp only [if_true] at ih' ⊢
        cases ho : opn g i with
        | true =>
          rw [ho] at ih'
          obtain ⟨l, x, rfl, ht⟩ := w2 ho
          obtain ⟨q1, q2⟩ := last_ix (l := l) (x := x) (by simp at w1; omega)
          simp only [if_true, f_impl_windowsOf_2, q1, Option.bind_some, f_impl_windowsOf_3, q2]
          rw [hw]
          simp only [if_true, setTo_snoc] at ih'
          simpa using ih'
        | false =>
          rw [ho] at ih'
          simp only [Bool.false_eq_true, if_false] at ih' ⊢
          rw [ifa (by simp; omega) (by omega)]
          obtain ⟨q1, q2⟩ := last_ix (l := v) (x := ⟨(i : Int), 0⟩) (by omega)
          simp only [f_impl_windowsOf_2, q1, Option.bind_some, f_impl_windowsOf_3, q2]
          rw [hw]
          simpa using ih'
  have := key 2881 0 bigN (by omega) (lt_bigN (by rw [maxLen_val]; omega))
  exact this
/-- The lowest level at a minute. -/
def lowV (f : XForecast) (m : Nat) : Int := IntKind.i64.wrap ((f_spec_l02Level f.Tide (m : Int)).getD 0 + ((f_spec_l03Surge f (m : Int)).getD ⟨0, 0, 0⟩).Low)
theorem low_facts {f : XForecast} (hf : fcOk f = true) {m : Nat} (hm : m ≤ 2880) : ∃ r x, f_spec_l02Level f.Tide (m : Int) = some r ∧ f_spec_l03Surge f (m : Int) = some x ∧ lowV f m = IntKind.i64.wrap (r + x.Low) ∧ f_impl_Forecast_low f (m : Int) = some (lowV f m) := by
  obtain ⟨ht, h0, h6⟩ := fc_facts hf
  obtain ⟨r, r1, r2⟩ := level_same ht (show (0 : Int) ≤ (m : Int) by omega) (by omega)
  obtain ⟨a, ha, a1, a2⟩ := surge_same (m := (m : Int)) h0 h6
  refine ⟨r, _, r1, a2, by simp [lowV, r1, a2], ?_⟩
  unfold f_impl_Forecast_low
  simp [r2, a1, ix_at ha, lowV, r1, a2]
theorem levels_eq {f : XForecast} (hf : fcOk f = true) (lv : Int) : f_spec_l04Levels f lv false = some (wins (fun i => decide (lv ≤ lowV f i)) 2881) := by
  unfold f_spec_l04Levels
  have key : ∀ (k i n : Nat), i + k = 2881 → k < n → f_spec_l04Levels_1 lv f n false (i : Int) ((List.range i).map fun j => decide (lv ≤ lowV f j)) = some (wins (fun i => decide (lv ≤ lowV f i)) 2881) := by
    intro k
    induction k with
    | zero =>
      intro i n hi hn
      obtain ⟨m, rfl⟩ : ∃ m, n = m + 1 := ⟨n - 1, by omega⟩
      have : i = 2881 := by omega
      subst this
      have hd : decide (((2881 : Nat) : Int) ≤ 2880) = false := by decide
      simp only [f_spec_l04Levels_1, hd, Bool.false_eq_true, if_false]
      rw [spec_Of_eq (by simp)]
      simp only [Option.bind_some, List.length_map, List.length_range]
      refine congrArg some (wins_congr 2881 fun j hj => ?_)
      show (((List.range 2881).map fun j => decide (lv ≤ lowV f j)).getD j false) = _
      rw [List.getD_eq_getElem?_getD, List.getElem?_map, List.getElem?_range hj]
      rfl
    | succ k ih =>
      intro i n hi hn
      obtain ⟨m, rfl⟩ : ∃ m, n = m + 1 := ⟨n - 1, by omega⟩
      have hle : decide ((i : Int) ≤ 2880) = true := decide_eq_true (by omega)
      have hw : IntKind.i64.wrap ((i : Int) + 1) = ((i + 1 : Nat) : Int) := wrapS (n := 2881) (by omega) (by rw [maxLen_val]; omega)
      obtain ⟨r, x, e1, e2, e3, _⟩ := low_facts hf (show i ≤ 2880 by omega)
      simp only [f_spec_l04Levels_1, hle, if_true, e2, Option.bind_some, Bool.false_eq_true, if_false, f_spec_l04Levels_2, e1]
      rw [ifa (by simp; omega) (by omega), hw]
      have := ih (i + 1) m (by omega) (by omega)
      rw [List.range_succ, List.map_append] at this
      simpa [e3] using this
  have := key 2881 0 bigN (by omega) (lt_bigN (by rw [maxLen_val]; omega))
  exact this
theorem lowWindows_eq {f : XForecast} (hf : fcOk f = true) (lv : Int) : f_impl_LowWindows f lv = some (wins (fun i => decide (lv ≤ lowV f i)) 2881) := by
  unfold f_impl_LowWindows
  rw [impl_ForecastOk_eq, hf]
  simp only [Option.bind_some, if_true]
  rw [impl_Of_eq (g := fun i => decide (lv ≤ lowV f i)) fun i hi => ?_]
  · rfl
  · obtain ⟨_, _, _, _, _, e⟩ := low_facts hf hi
    simp [f_impl_LowWindows_1, e]
theorem shrink_same (a1 : Int) (a0 : List XWindow) (hl : a0.length ≤ 100000) : ∃ r, f_spec_ShrinkWindows_1 a1 a0 bigN 0 [] = some r ∧ f_impl_ShrinkWindows_1 a1 a0 bigN 0 [] = some r ∧ r.length ≤ a0.length := by
  have key : ∀ (k i n : Nat) (acc : List XWindow), i + k = a0.length → k < n → acc.length ≤ i → ∃ r, f_spec_ShrinkWindows_1 a1 a0 n (i : Int) acc = some r ∧ f_impl_ShrinkWindows_1 a1 a0 n (i : Int) acc = some r ∧ r.length ≤ a0.length := by
    intro k
    induction k with
    | zero =>
      intro i n acc hi hn ha
      obtain ⟨m, rfl⟩ : ∃ m, n = m + 1 := ⟨n - 1, by omega⟩
      have : i = a0.length := by omega
      subst this
      exact ⟨acc, by simp [f_spec_ShrinkWindows_1], by simp [f_impl_ShrinkWindows_1], ha⟩
    | succ k ih =>
      intro i n acc hi hn ha
      obtain ⟨m, rfl⟩ : ∃ m, n = m + 1 := ⟨n - 1, by omega⟩
      have hlt : i < a0.length := by omega
      simp only [f_spec_ShrinkWindows_1, f_impl_ShrinkWindows_1, dec_nn, hlt, decide_true, if_true, ix_at hlt, Option.bind_some]
      rw [wrapS hlt (show a0.length ≤ maxLen by rw [maxLen_val]; omega)]
      by_cases hc : a1 ≤ IntKind.i64.wrap (a0[i].To - a0[i].From)
      · simp only [hc, decide_true, if_true]
        rw [ifa (by simp; omega) (by omega), ifa (by simp; omega) (by omega)]
        exact ih (i + 1) m _ (by omega) (by omega) (by simp; omega)
      · simp only [hc, decide_false, Bool.false_eq_true, if_false]
        exact ih (i + 1) m _ (by omega) (by omega) (by omega)
  exact key a0.length 0 bigN [] (by omega) (lt_bigN (by rw [maxLen_val]; omega)) (by simp)
theorem starts_same {f : XForecast} {c : XChart} {s : XShip} {i : Int} (hf : fcOk f = true) (hn : ∀ x ∈ c.Points, x.Name.length ≤ maxLen) (hs : s.Name.length ≤ maxLen) (h1 : chartOk c = true) (h2 : shipOk s = true) (h3 : idx i c.Segments.length = true) :
    ∃ r, f_spec_SureStarts f c i s = some r ∧ f_impl_SureStarts f c i s = some r ∧ r.length ≤ 2881 := by
  have hsg := (seg_facts h1).2.1
  have hW := (wins_inv (fun j => decide (needV c i s ≤ lowV f j)) 2881).1
  have hmin : f_impl_MinutesOn c i s = some (minsOn (segAt c i) s) := by
    unfold f_impl_MinutesOn
    simp only [impl_ChartOk_eq hn, impl_ShipOk_eq hs, h1, h2, Option.bind_some, if_true, idx_impl, h3, (ix_seg h3).1, impl_minutes_eq]
  have hok1 : f_spec_l07Ok c i s = some true := by
    unfold f_spec_l07Ok
    simp only [spec_ChartOk_eq hn, spec_ShipOk_eq hs, h1, h2, Option.bind_some, if_true, idx_l01 i (show c.Segments.length ≤ 1000 by omega), h3]
  have hok2 : f_impl_onSegment c i s = some true := by
    unfold f_impl_onSegment
    simp only [impl_ChartOk_eq hn, impl_ShipOk_eq hs, h1, h2, Option.bind_some, if_true, idx_impl, h3]
  unfold f_spec_SureStarts f_spec_l07Starts f_impl_SureStarts
  simp only [spec_ForecastOk_eq, impl_ForecastOk_eq, hf, Option.bind_some, if_true, hok1, hok2, spec_LevelFor_eq hn hs h1 h2 h3, impl_LevelFor_eq hn hs h1 h2 h3, levels_eq hf, lowWindows_eq hf, spec_MinutesOn_eq hn hs h1 h2 h3, hmin]
  generalize wins (fun j => decide (needV c i s ≤ lowV f j)) 2881 = W at hW
  have hWm : W.length ≤ maxLen := by rw [maxLen_val]; omega
  unfold f_spec_ShrinkWindows f_impl_ShrinkWindows
  simp only [spec_WindowsOk_eq hWm, impl_WindowsOk_eq hWm, Option.bind_some, l01In_eq, isMinute_eq]
  obtain ⟨r, r1, r2, r3⟩ := shrink_same (minsOn (segAt c i) s) W (by omega)
  by_cases hw : windowsOk W = true
  · by_cases hm : (decide (0 ≤ minsOn (segAt c i) s) && decide (minsOn (segAt c i) s ≤ 2880)) = true
    · exact ⟨r, by simp only [hw, hm, if_true, r1, Option.bind_some], by simp only [hw, hm, if_true, r2, Option.bind_some], by omega⟩
    · exact ⟨[], by simp [hw, hm], by simp [hw, hm], by simp⟩
  · exact ⟨[], by simp [hw], by simp [hw], by simp⟩
end Go.Vi
