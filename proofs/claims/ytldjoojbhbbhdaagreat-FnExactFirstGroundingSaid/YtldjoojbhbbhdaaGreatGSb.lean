/-
  Plain laws: what a passage clears on the levels that picks choose (ClearanceOn). No condition.
-/
import Derived.Test.YtldjoojbhbbhdaaGreatGSa
namespace Go.Vi
set_option linter.unusedSimpArgs false
set_option linter.unusedVariables false

/-! Levels are small -/
theorem tdiv_small {a b : Int} (hb : 1 ≤ b) {B : Int} (h1 : -B ≤ a) (h2 : a ≤ B) : -B ≤ Int.tdiv a b ∧ Int.tdiv a b ≤ B := by
  have hB : 0 ≤ B := by omega
  by_cases ha : 0 ≤ a
  · rw [Int.tdiv_eq_ediv_of_nonneg ha]
    have := Int.ediv_nonneg ha (show 0 ≤ b by omega)
    have := Int.ediv_le_self b ha
    omega
  · obtain ⟨c, rfl⟩ : ∃ c, a = -c := ⟨-a, by omega⟩
    rw [Int.neg_tdiv, Int.tdiv_eq_ediv_of_nonneg (by omega)]
    have := Int.ediv_nonneg (show 0 ≤ c by omega) (show 0 ≤ b by omega)
    have := Int.ediv_le_self b (show 0 ≤ c by omega)
    omega
theorem mul_small {a b A B : Int} (a1 : -A ≤ a) (a2 : a ≤ A) (b1 : -B ≤ b) (b2 : b ≤ B) : -(A * B) ≤ a * b ∧ a * b ≤ A * B := by
  have hA : 0 ≤ A := by omega
  have hB : 0 ≤ B := by omega
  have h : (a * b).natAbs ≤ (A * B).natAbs := by
    rw [Int.natAbs_mul, Int.natAbs_mul]
    exact Nat.mul_le_mul (by omega) (by omega)
  have hp : 0 ≤ A * B := Int.mul_nonneg hA hB
  omega
theorem wave_small {x p : Int} (h0 : 0 ≤ x) (hx : x < p) (p1 : 4 ≤ p) (p2 : p ≤ 2880) : -200000000000 ≤ waveV x p ∧ waveV x p ≤ 200000000000 := by
  have e : Int.tdiv p 2 = p / 2 := Int.tdiv_eq_ediv_of_nonneg (by omega)
  unfold waveV
  rw [e, wrap64 (n := p / 2) (by omega) (by omega)]
  generalize hq : p / 2 = q
  have q1 : 2 ≤ q := by omega
  have q2 : q ≤ 1440 := by omega
  have qq := mul_small (a := q) (b := q) (A := 1440) (B := 1440) (by omega) (by omega) (by omega) (by omega)
  have q4 : 2 * 2 ≤ q * q := Int.mul_le_mul q1 q1 (by omega) (by omega)
  rw [wrap64 (n := q * q) (by omega) (by omega)]
  have key : ∀ y : Int, -3000 ≤ y → y ≤ 3000 → -200000000000 ≤ Int.tdiv (IntKind.i64.wrap (IntKind.i64.wrap (40000 * y) * IntKind.i64.wrap (q - y))) (q * q) ∧ Int.tdiv (IntKind.i64.wrap (IntKind.i64.wrap (40000 * y) * IntKind.i64.wrap (q - y))) (q * q) ≤ 200000000000 * 5 := by
    intro y y1 y2
    rw [wrap64 (n := 40000 * y) (by omega) (by omega), wrap64 (n := q - y) (by omega) (by omega)]
    have m := mul_small (a := 40000 * y) (b := q - y) (A := 120000000) (B := 5000) (by omega) (by omega) (by omega) (by omega)
    rw [wrap64 (by omega) (by omega)]
    have t := tdiv_small (b := q * q) (show 1 ≤ q * q by omega) (B := 600000000000) (a := 40000 * y * (q - y)) (by omega) (by omega)
    -- the quotient by at least four
    have t4 : ∀ a : Int, -600000000000 ≤ a → a ≤ 600000000000 → -150000000000 ≤ Int.tdiv a (q * q) ∧ Int.tdiv a (q * q) ≤ 150000000000 := by
      intro a a1 a2
      have hd : ∀ c : Int, 0 ≤ c → c ≤ 600000000000 → 0 ≤ c / (q * q) ∧ c / (q * q) ≤ 150000000000 := by
        intro c c1 c2
        refine ⟨Int.ediv_nonneg c1 (by omega), ?_⟩
        have h3 := Int.mul_ediv_self_le (x := c) (k := q * q) (by omega)
        have h4 : 0 ≤ c / (q * q) := Int.ediv_nonneg c1 (by omega)
        have h5 : 4 * (c / (q * q)) ≤ q * q * (c / (q * q)) := Int.mul_le_mul_of_nonneg_right (by omega) h4
        omega
      by_cases ha : 0 ≤ a
      · rw [Int.tdiv_eq_ediv_of_nonneg ha]
        have := hd a ha a2
        omega
      · obtain ⟨c, rfl⟩ : ∃ c, a = -c := ⟨-a, by omega⟩
        rw [Int.neg_tdiv, Int.tdiv_eq_ediv_of_nonneg (by omega)]
        have := hd c (by omega) (by omega)
        omega
    have := t4 (40000 * y * (q - y)) (by omega) (by omega)
    omega
  have key2 : ∀ y : Int, -3000 ≤ y → y ≤ 3000 → -150000000000 ≤ Int.tdiv (IntKind.i64.wrap (IntKind.i64.wrap (40000 * y) * IntKind.i64.wrap (q - y))) (q * q) ∧ Int.tdiv (IntKind.i64.wrap (IntKind.i64.wrap (40000 * y) * IntKind.i64.wrap (q - y))) (q * q) ≤ 150000000000 := by
    intro y y1 y2
    rw [wrap64 (n := 40000 * y) (by omega) (by omega), wrap64 (n := q - y) (by omega) (by omega)]
    have m := mul_small (a := 40000 * y) (b := q - y) (A := 120000000) (B := 5000) (by omega) (by omega) (by omega) (by omega)
    rw [wrap64 (by omega) (by omega)]
    have hd : ∀ c : Int, 0 ≤ c → c ≤ 600000000000 → 0 ≤ c / (q * q) ∧ c / (q * q) ≤ 150000000000 := by
      intro c c1 c2
      have h4 : 0 ≤ c / (q * q) := Int.ediv_nonneg c1 (by omega)
      refine ⟨h4, ?_⟩
      have h3 := Int.mul_ediv_self_le (x := c) (k := q * q) (by omega)
      have h5 : 4 * (c / (q * q)) ≤ q * q * (c / (q * q)) := Int.mul_le_mul_of_nonneg_right (by omega) h4
      omega
    generalize hz : 40000 * y * (q - y) = z at m
    by_cases ha : 0 ≤ z
    · rw [Int.tdiv_eq_ediv_of_nonneg ha]
      have := hd z ha (by omega)
      omega
    · obtain ⟨c, rfl⟩ : ∃ c, z = -c := ⟨-z, by omega⟩
      rw [Int.neg_tdiv, Int.tdiv_eq_ediv_of_nonneg (by omega)]
      have := hd c (by omega) (by omega)
      omega
  split
  · have := key2 x (by omega) (by omega)
    rw [wrap64 (by omega) (by omega)]
    omega
  · rw [wrap64 (n := x - q) (by omega) (by omega)]
    have := key2 (x - q) (by omega) (by omega)
    rw [wrap64 (n := Int.tdiv _ _) (by omega) (by omega), wrap64 (by omega) (by omega)]
    omega
theorem level_small {t : XTide} {m : Int} (ht : tideOk t = true) (h0 : 0 ≤ m) (h1 : m ≤ 2880) : ∃ r, f_spec_l02Level t m = some r ∧ -1000000000000 ≤ r ∧ r ≤ 1000000000000 := by
  have ht' := ht
  simp only [tideOk, Bool.and_eq_true, decide_eq_true_eq, List.all_eq_true] at ht
  obtain ⟨hmean, hl, hp⟩ := ht
  have hlm : t.Parts.length ≤ maxLen := by rw [maxLen_val]; omega
  have key : ∀ (k i n : Nat) (v : Int), i + k = t.Parts.length → k < n → -(1000 + 20000000000 * (i : Int)) ≤ v → v ≤ 1000 + 20000000000 * (i : Int) → ∃ r, f_spec_l02Level_1 m t n v (i : Int) = some r ∧ -(1000 + 20000000000 * (t.Parts.length : Int)) ≤ r ∧ r ≤ 1000 + 20000000000 * (t.Parts.length : Int) := by
    intro k
    induction k with
    | zero =>
      intro i n v hi hn v1 v2
      obtain ⟨q, rfl⟩ : ∃ q, n = q + 1 := ⟨n - 1, by omega⟩
      have : i = t.Parts.length := by omega
      subst this
      exact ⟨v, by simp [f_spec_l02Level_1], v1, v2⟩
    | succ k ih =>
      intro i n v hi hn v1 v2
      obtain ⟨q, rfl⟩ : ∃ q, n = q + 1 := ⟨n - 1, by omega⟩
      have hlt : i < t.Parts.length := by omega
      have hx := hp _ (List.getElem_mem hlt)
      simp only [partOk, Bool.and_eq_true, decide_eq_true_eq] at hx
      obtain ⟨⟨am1, am2⟩, hx1, hx2, hx3⟩ := hx
      obtain ⟨p1, p2, _⟩ := per_facts hx1
      rw [wrap64 (by omega) (by omega)] at hx3
      have hw := wrap64 (n := m + t.Parts[i].Phase) (by omega) (by omega)
      have hnn : 0 ≤ m + t.Parts[i].Phase := by omega
      have hmm : Int.tmod (m + t.Parts[i].Phase) t.Parts[i].Period = (m + t.Parts[i].Phase) % t.Parts[i].Period := Int.tmod_eq_emod_of_nonneg hnn
      have w := wave_small (x := (m + t.Parts[i].Phase) % t.Parts[i].Period) (p := t.Parts[i].Period) (Int.emod_nonneg _ (by omega)) (Int.emod_lt_of_pos _ (by omega)) p1 p2
      rw [← hmm] at w
      generalize hwv : waveV (Int.tmod (m + t.Parts[i].Phase) t.Parts[i].Period) t.Parts[i].Period = wv at w
      have mm := mul_small (a := t.Parts[i].Amp) (b := wv) (A := 1000) (B := 200000000000) (by omega) (by omega) (by omega) (by omega)
      have hd : -20000000000 ≤ Int.tdiv (t.Parts[i].Amp * wv) 10000 ∧ Int.tdiv (t.Parts[i].Amp * wv) 10000 ≤ 20000000000 := by
        generalize t.Parts[i].Amp * wv = z at mm
        by_cases ha : 0 ≤ z
        · rw [Int.tdiv_eq_ediv_of_nonneg ha]; omega
        · obtain ⟨c, rfl⟩ : ∃ c, z = -c := ⟨-z, by omega⟩
          rw [Int.neg_tdiv, Int.tdiv_eq_ediv_of_nonneg (by omega)]; omega
      obtain ⟨r, e1, e2, e3⟩ := ih (i + 1) q (IntKind.i64.wrap (v + IntKind.i64.wrap (Int.tdiv (IntKind.i64.wrap (t.Parts[i].Amp * wv)) 10000))) (by omega) (by omega)
        (by rw [wrap64 (n := t.Parts[i].Amp * wv) (by omega) (by omega), wrap64 (n := Int.tdiv _ _) (by omega) (by omega), wrap64 (by omega) (by omega)]; omega)
        (by rw [wrap64 (n := t.Parts[i].Amp * wv) (by omega) (by omega), wrap64 (n := Int.tdiv _ _) (by omega) (by omega), wrap64 (by omega) (by omega)]; omega)
      rw [← wrapS hlt hlm] at e1
      refine ⟨r, ?_, e2, e3⟩
      simp only [f_spec_l02Level_1, ix_nn, List.getElem?_eq_getElem hlt, Option.bind_some, dec_nn, hlt, decide_true, if_true, hw, spec_Wave_eq hx1 (show 0 ≤ m + t.Parts[i].Phase by omega) (by omega), hwv]
      exact e1
  obtain ⟨r, e1, e2, e3⟩ := key t.Parts.length 0 bigN t.Mean (by omega) (lt_bigN hlm) (by omega) (by omega)
  exact ⟨r, e1, by omega, by omega⟩
theorem surge_small {f : XForecast} (hf : fcOk f = true) (a : Nat) (ha : a < f.Surges.length) : -500 ≤ f.Surges[a].Low ∧ f.Surges[a].Low ≤ 500 ∧ f.Surges[a].Low ≤ f.Surges[a].High ∧ f.Surges[a].High ≤ 500 := by
  simp only [fcOk, Bool.and_eq_true, List.all_eq_true, List.mem_range] at hf
  have := hf.2.2.2 a ha
  simp only [surAt, List.getElem?_eq_getElem ha, Bool.and_eq_true, surgeOk, decide_eq_true_eq] at this
  omega
theorem pick_small {xs : List Int} (hx : picksOk xs = true) {i x : Int} (h : ix xs i = some x) : 0 ≤ x ∧ x ≤ 1000 := by
  simp only [picksOk, Bool.and_eq_true, List.all_eq_true, pickOk, decide_eq_true_eq] at hx
  unfold ix at h
  split at h
  · exact hx.2 x (List.mem_of_getElem? h)
  · cases h
theorem levels_small {f : XForecast} {xs : List Int} {m : Int} (hf : fcOk f = true) (hx : picksOk xs = true) (m0 : 0 ≤ m) (m1 : m ≤ 2880) : ∃ r, f_spec_l24Level f xs m = some r ∧ f_impl_levelOn f xs m = some r ∧ -2000000000000 ≤ r ∧ r ≤ 2000000000000 := by
  obtain ⟨ht, h0, h6⟩ := fc_facts hf
  obtain ⟨k1, k2⟩ := picks_facts hx
  obtain ⟨r, e, e'⟩ := levels_same hf hx m0 m1
  refine ⟨r, e, e', ?_⟩
  obtain ⟨t, e1, b1, b2⟩ := level_small ht m0 m1
  obtain ⟨a, ha, e3, e4⟩ := surge_same (m := m) h0 h6
  obtain ⟨p, e5⟩ := pick_in k1 k2 m0 m1
  have hp := pick_small hx e5
  have hs := surge_small hf a ha
  unfold f_spec_l24Level at e
  unfold pickAt at e5
  rw [e4, e1, Option.bind_some, e5] at e
  simp only [Option.bind_some, Option.some.injEq] at e
  have m := mul_small (a := f.Surges[a].High - f.Surges[a].Low) (b := p) (A := 1000) (B := 1000) (by omega) (by omega) (by omega) (by omega)
  rw [wrap64 (n := t + f.Surges[a].Low) (by omega) (by omega), wrap64 (n := f.Surges[a].High - f.Surges[a].Low) (by omega) (by omega)] at e
  generalize hz : (f.Surges[a].High - f.Surges[a].Low) * p = z at m e
  rw [wrap64 (n := z) (by omega) (by omega)] at e
  have td := tdiv_small (a := z) (b := 1000) (by omega) (B := 1000000) (by omega) (by omega)
  rw [wrap64 (n := Int.tdiv z 1000) (by omega) (by omega), wrap64 (by omega) (by omega)] at e
  omega

/-! Harbours -/
def crewOk (w : XCrew) : Bool := (decide (0 ≤ w.Tugs) && decide (w.Tugs ≤ 12)) && ((decide (0 ≤ w.Pilots) && decide (w.Pilots ≤ 12)) && (minOk w.Rest && (decide (w.Moves.length = 64) && w.Moves.all fun x => decide (0 ≤ x) && decide (x ≤ 240))))
theorem if_some (a b : Bool) : (if a = true then some b else some false) = some (a && b) := by cases a <;> rfl
theorem moves_spec {l : List Int} (h : l.length ≤ maxLen) : f_spec_l13Table_1 l bigN 0 = some (l.all fun x => decide (0 ≤ x) && decide (x ≤ 240)) :=
  all_loop (L := f_spec_l13Table_1 l) l _ h (fun n i hi => by simp [f_spec_l13Table_1, ix_nn, hi, l01In_eq]) (fun n => by simp [f_spec_l13Table_1])
theorem moves_impl {l : List Int} (h : l.length ≤ maxLen) : f_impl_movesOk_1 l bigN 0 = some (l.all fun x => decide (0 ≤ x) && decide (x ≤ 240)) :=
  all_loop (L := f_impl_movesOk_1 l) l _ h (fun n i hi => by simp [f_impl_movesOk_1, ix_nn, hi, within_eq]) (fun n => by simp [f_impl_movesOk_1])
theorem spec_CrewOk_eq {w : XCrew} (h : w.Moves.length ≤ maxLen) : f_spec_CrewOk w = some (crewOk w) := by
  simp only [f_spec_CrewOk, f_spec_l13Table, l01In_eq, Option.bind_some, moves_spec h, crewOk, minOk]
  by_cases e : w.Moves.length = 64
  · have e' : ((w.Moves.length : Int) != 64) = false := by simp; omega
    simp only [e, e', Bool.false_eq_true, if_false, decide_true, Bool.true_and]
    cases (decide (0 ≤ w.Tugs) && decide (w.Tugs ≤ 12)) <;> cases (decide (0 ≤ w.Pilots) && decide (w.Pilots ≤ 12)) <;> cases (decide (0 ≤ w.Rest) && decide (w.Rest ≤ 2880)) <;> rfl
  · have e' : ((w.Moves.length : Int) != 64) = true := by simp; omega
    simp only [e, e', if_true, decide_false, Bool.false_and, Bool.and_false]
    cases (decide (0 ≤ w.Tugs) && decide (w.Tugs ≤ 12)) <;> cases (decide (0 ≤ w.Pilots) && decide (w.Pilots ≤ 12)) <;> cases (decide (0 ≤ w.Rest) && decide (w.Rest ≤ 2880)) <;> rfl
theorem impl_CrewOk_eq {w : XCrew} (h : w.Moves.length ≤ maxLen) : f_impl_CrewOk w = some (crewOk w) := by
  simp only [f_impl_CrewOk, f_impl_movesOk, within_eq, isMinute_eq, Option.bind_some, moves_impl h, crewOk, minOk]
  by_cases e : w.Moves.length = 64
  · have e' : ((w.Moves.length : Int) != 64) = false := by simp; omega
    simp only [e, e', Bool.false_eq_true, if_false, decide_true, Bool.true_and, Option.bind_some]
    cases (decide (0 ≤ w.Tugs) && decide (w.Tugs ≤ 12)) <;> cases (decide (0 ≤ w.Pilots) && decide (w.Pilots ≤ 12)) <;> cases (decide (0 ≤ w.Rest) && decide (w.Rest ≤ 2880)) <;> rfl
  · have e' : ((w.Moves.length : Int) != 64) = true := by simp; omega
    simp only [e, e', if_true, decide_false, Bool.false_and, Bool.and_false, Option.bind_some]
    cases (decide (0 ≤ w.Tugs) && decide (w.Tugs ≤ 12)) <;> cases (decide (0 ≤ w.Pilots) && decide (w.Pilots ≤ 12)) <;> cases (decide (0 ≤ w.Rest) && decide (w.Rest ≤ 2880)) <;> rfl
def regOk (r : XRegime) : Bool := decide (0 ≤ r.Gap) && decide (r.Gap ≤ 60)
def harbOk (h : XHarbour) : Bool := fcOk h.Forecast && (chartOk h.Chart && (fleetOk h.Fleet && (regOk h.Regime && crewOk h.Crew)))
structure HSmall (h : XHarbour) : Prop where
  pn : ∀ x ∈ h.Chart.Points, x.Name.length ≤ maxLen
  fn : ∀ x ∈ h.Fleet, x.Name.length ≤ maxLen
  mv : h.Crew.Moves.length ≤ maxLen
theorem spec_HarbourOk_eq {h : XHarbour} (s : HSmall h) : f_spec_HarbourOk h = some (harbOk h) := by
  simp only [f_spec_HarbourOk, f_spec_RegimeOk, spec_ForecastOk_eq, spec_ChartOk_eq s.pn, spec_FleetOk_eq s.fn, spec_CrewOk_eq s.mv, l01In_eq, Option.bind_some, if_some, harbOk, regOk]
theorem impl_HarbourOk_eq {h : XHarbour} (s : HSmall h) : f_impl_HarbourOk h = some (harbOk h) := by
  simp only [f_impl_HarbourOk, f_impl_RegimeOk, impl_ForecastOk_eq, impl_ChartOk_eq s.pn, impl_FleetOk_eq s.fn, impl_CrewOk_eq s.mv, within_eq, Option.bind_some, if_some, harbOk, regOk]

/-! Passages -/
theorem seg_facts {c : XChart} (h : chartOk c = true) : c.Points.length ≤ 8 ∧ c.Segments.length ≤ 10 ∧ ∀ x ∈ c.Segments, 0 ≤ x.Depth ∧ x.Depth ≤ 3000 ∧ 1 ≤ x.Minutes ∧ x.Minutes ≤ 240 := by
  simp only [chartOk, Bool.and_eq_true, decide_eq_true_eq, List.all_eq_true, List.mem_range] at h
  obtain ⟨h1, h2, h3, h4⟩ := h
  refine ⟨h1, h2, fun x hx => ?_⟩
  obtain ⟨i, hi, rfl⟩ := List.getElem_of_mem hx
  have := h4 i hi
  simp only [segOk, List.getElem?_eq_getElem hi, Bool.and_eq_true, decide_eq_true_eq] at this
  omega
def passIn (c : XChart) (fl : List XShip) (p : XPassage) : Bool := idx p.Ship fl.length && (idx p.Segment c.Segments.length && (minOk p.Start && (decide (p.End ≤ 2880) && decide (p.End = IntKind.i64.wrap (p.Start + minsOn (segAt c p.Segment) (shipAt fl p.Ship))))))
theorem spec_MinutesOn_eq {c : XChart} {s : XShip} {i : Int} (hn : ∀ x ∈ c.Points, x.Name.length ≤ maxLen) (hs : s.Name.length ≤ maxLen) (h1 : chartOk c = true) (h2 : shipOk s = true) (h3 : idx i c.Segments.length = true) : f_spec_MinutesOn c i s = some (minsOn (segAt c i) s) := by
  have := (seg_facts h1).2.1
  unfold f_spec_MinutesOn
  simp only [spec_ChartOk_eq hn, spec_ShipOk_eq hs, h1, h2, Option.bind_some, if_true, idx_l01 i (show c.Segments.length ≤ 1000 by omega), h3, (ix_seg h3).1, spec_minutes_eq]
theorem spec_PassageOk_in {c : XChart} {fl : List XShip} {p : XPassage} (hn : ∀ x ∈ c.Points, x.Name.length ≤ maxLen) (hf : ∀ x ∈ fl, x.Name.length ≤ maxLen) (h1 : chartOk c = true) (h2 : fleetOk fl = true) : f_spec_PassageOk c fl p = some (passIn c fl p) := by
  unfold f_spec_PassageOk
  simp only [spec_ChartOk_eq hn, spec_FleetOk_eq hf, Option.bind_some, h1, h2]
  have s1 := (seg_facts h1).2.1
  have s2 := (fleet_facts h2).1
  simp only [if_true, idx_l01 p.Ship (show fl.length ≤ 1000 by omega), idx_l01 p.Segment (show c.Segments.length ≤ 1000 by omega), Option.bind_some, l01In_eq, passIn, minOk]
  cases h3 : idx p.Ship fl.length with
  | false => simp
  | true =>
    cases h4 : idx p.Segment c.Segments.length with
    | false => simp
    | true =>
      cases h5 : decide (0 ≤ p.Start) && decide (p.Start ≤ 2880) with
      | false => simp
      | true =>
        have hsh := (fleet_facts h2).2 _ (ix_ship h3).2
        simp only [if_true, Bool.true_and, (ix_ship h3).1, Option.bind_some, spec_MinutesOn_eq hn (hf _ (ix_ship h3).2) h1 hsh h4]
        by_cases e : p.End = IntKind.i64.wrap (p.Start + minsOn (segAt c p.Segment) (shipAt fl p.Ship)) <;> simp [e]
theorem impl_passageOk_in {c : XChart} {fl : List XShip} {p : XPassage} : f_impl_passageOk c fl p = some (passIn c fl p) := by
  unfold f_impl_passageOk
  simp only [idx_impl, Option.bind_some, isMinute_eq, passIn, minOk]
  cases h3 : idx p.Ship fl.length with
  | false => simp
  | true =>
    cases h4 : idx p.Segment c.Segments.length with
    | false => simp
    | true =>
      cases h5 : decide (0 ≤ p.Start) && decide (p.Start ≤ 2880) with
      | false => simp
      | true =>
        simp only [if_true, Bool.true_and, (ix_ship h3).1, (ix_seg h4).1, Option.bind_some, impl_minutes_eq]
        have e0 : decide (2880 < p.End) = !decide (p.End ≤ 2880) := by rw [Bool.eq_iff_iff]; simp
        rw [e0]
        cases decide (p.End ≤ 2880) <;> simp
        rfl
theorem passIn_facts {c : XChart} {fl : List XShip} {p : XPassage} (hc : chartOk c = true) (h : passIn c fl p = true) : idx p.Ship fl.length = true ∧ idx p.Segment c.Segments.length = true ∧ 0 ≤ p.Start ∧ p.Start ≤ p.End ∧ p.End ≤ 2880 := by
  simp only [passIn, minOk, Bool.and_eq_true, decide_eq_true_eq] at h
  obtain ⟨h3, h4, h5, h6, h7⟩ := h
  refine ⟨h3, h4, h5.1, ?_, h6⟩
  obtain ⟨_, _, a, b⟩ := (seg_facts hc).2.2 _ (ix_seg h4).2
  rw [h7]
  unfold minsOn
  split
  · rw [wrap64 (n := 2 * _) (by omega) (by omega), wrap64 (by omega) (by omega)]; omega
  · rw [wrap64 (by omega) (by omega)]; omega

/-! What a ship needs -/
def squat (s : XShip) : Int := if s.Slow = true then IntKind.i64.wrap (Int.tdiv s.Draught 50) else IntKind.i64.wrap (Int.tdiv s.Draught 20)
def needV (c : XChart) (i : Int) (s : XShip) : Int := IntKind.i64.wrap (IntKind.i64.wrap (IntKind.i64.wrap (s.Draught + squat s) + 50) - (segAt c i).Depth)
theorem spec_LevelFor_eq {c : XChart} {s : XShip} {i : Int} (hn : ∀ x ∈ c.Points, x.Name.length ≤ maxLen) (hs : s.Name.length ≤ maxLen) (h1 : chartOk c = true) (h2 : shipOk s = true) (h3 : idx i c.Segments.length = true) : f_spec_LevelFor c i s = some (needV c i s) := by
  have := (seg_facts h1).2.1
  unfold f_spec_LevelFor f_spec_l07Ok f_spec_NeedOf f_spec_SquatOf
  simp only [spec_ChartOk_eq hn, spec_ShipOk_eq hs, h1, h2, Option.bind_some, if_true, idx_l01 i (show c.Segments.length ≤ 1000 by omega), h3, (ix_seg h3).1, needV, squat]
  cases s.Slow <;> rfl
theorem impl_LevelFor_eq {c : XChart} {s : XShip} {i : Int} (hn : ∀ x ∈ c.Points, x.Name.length ≤ maxLen) (hs : s.Name.length ≤ maxLen) (h1 : chartOk c = true) (h2 : shipOk s = true) (h3 : idx i c.Segments.length = true) : f_impl_LevelFor c i s = some (needV c i s) := by
  unfold f_impl_LevelFor f_impl_onSegment f_impl_Ship_need f_impl_Ship_squat
  simp only [impl_ChartOk_eq hn, impl_ShipOk_eq hs, h1, h2, Option.bind_some, if_true, idx_impl, h3, (ix_seg h3).1, needV, squat]
  cases s.Slow <;> rfl
theorem need_small {c : XChart} {s : XShip} {i : Int} (h1 : chartOk c = true) (h2 : shipOk s = true) (h3 : idx i c.Segments.length = true) : -10000 ≤ needV c i s ∧ needV c i s ≤ 10000 := by
  obtain ⟨d1, d2, _, _⟩ := (seg_facts h1).2.2 _ (ix_seg h3).2
  simp only [shipOk, Bool.and_eq_true, decide_eq_true_eq] at h2
  obtain ⟨_, _, ⟨g1, g2⟩, _⟩ := h2
  have hq : 0 ≤ squat s ∧ squat s ≤ 2000 := by
    unfold squat
    split
    · rw [Int.tdiv_eq_ediv_of_nonneg (by omega), wrap64 (by omega) (by omega)]; omega
    · rw [Int.tdiv_eq_ediv_of_nonneg (by omega), wrap64 (by omega) (by omega)]; omega
  unfold needV
  rw [wrap64 (n := s.Draught + squat s) (by omega) (by omega), wrap64 (n := s.Draught + squat s + 50) (by omega) (by omega), wrap64 (by omega) (by omega)]
  omega

/-! The least clearance -/
theorem least_same {h : XHarbour} {p : XPassage} {xs : List Int} {x : XShip} {nd : Int} (hf : fcOk h.Forecast = true) (hx : picksOk xs = true) (hE : p.End ≤ 2880) (n1 : -10000 ≤ nd) (n2 : nd ≤ 10000) (hsh : ix h.Fleet p.Ship = some x) (hlf : f_impl_LevelFor h.Chart p.Segment x = some nd) :
    ∀ (k n : Nat) (m lev : Int), m + (k : Int) = p.End + 1 → k < n → 0 ≤ m → -2000000000000 ≤ lev → lev ≤ 2000000000000 → ∃ r, f_spec_l24Least_1 xs nd h p n (lev - nd) m = some r ∧ f_impl_ClearanceOn_2 xs h p n lev m = some (r, true) := by
  intro k
  induction k with
  | zero =>
    intro n m lev hk hn hm l1 l2
    obtain ⟨q, rfl⟩ : ∃ q, n = q + 1 := ⟨n - 1, by omega⟩
    have : ¬ m ≤ p.End := by omega
    refine ⟨lev - nd, ?_, ?_⟩
    · rw [f_spec_l24Least_1]
      simp only [this, decide_false, Bool.false_eq_true, if_false]
    · rw [f_impl_ClearanceOn_2]
      simp only [this, decide_false, Bool.false_eq_true, if_false, hsh, Option.bind_some, hlf]
      rw [wrap64 (by omega) (by omega)]
  | succ k ih =>
    intro n m lev hk hn hm l1 l2
    obtain ⟨q, rfl⟩ : ∃ q, n = q + 1 := ⟨n - 1, by omega⟩
    have hle : m ≤ p.End := by omega
    obtain ⟨v, e1, e2, v1, v2⟩ := levels_small (m := m) hf hx hm (by omega)
    rw [f_spec_l24Least_1, f_impl_ClearanceOn_2]
    simp only [hle, decide_true, if_true, e1, e2, Option.bind_some]
    rw [wrap64 (n := v - nd) (by omega) (by omega), wrap64 (n := m + 1) (by omega) (by omega)]
    by_cases hlt : v < lev
    · have hlt' : v - nd < lev - nd := by omega
      simp only [hlt, hlt', if_true]
      exact ih q (m + 1) v (by omega) (by omega) (by omega) v1 v2
    · have hlt' : ¬ v - nd < lev - nd := by omega
      simp only [hlt, hlt', if_false]
      exact ih q (m + 1) lev (by omega) (by omega) (by omega) l1 l2
theorem ClearanceOn_same {h : XHarbour} {p : XPassage} {xs : List Int} (s : HSmall h) (hl : xs.length ≤ maxLen) : ∃ r, f_spec_ClearanceOn h p xs = some r ∧ f_impl_ClearanceOn h p xs = some r := by
  unfold f_spec_ClearanceOn f_impl_ClearanceOn
  rw [spec_HarbourOk_eq s, impl_HarbourOk_eq s, spec_PicksOk_eq hl, impl_PicksOk_eq hl]
  simp only [Option.bind_some]
  cases hh : harbOk h with
  | false => exact ⟨(0, false), by simp [f_spec_ClearanceOn_1], by simp [f_impl_ClearanceOn_1]⟩
  | true =>
    cases hx : picksOk xs with
    | false => exact ⟨(0, false), by simp [f_spec_ClearanceOn_1], by simp [f_impl_ClearanceOn_1]⟩
    | true =>
      simp only [harbOk, Bool.and_eq_true] at hh
      obtain ⟨hf, hc, hfl, _, _⟩ := hh
      simp only [if_true, spec_PassageOk_in s.pn s.fn hc hfl, impl_passageOk_in, Option.bind_some]
      cases hp : passIn h.Chart h.Fleet p with
      | false => exact ⟨(0, false), by simp [f_spec_ClearanceOn_1], by simp [f_impl_ClearanceOn_1]⟩
      | true =>
        obtain ⟨i1, i2, p1, p2, p3⟩ := passIn_facts hc hp
        have hsh := ix_ship i1
        have hok := (fleet_facts hfl).2 _ hsh.2
        have hnm := s.fn _ hsh.2
        obtain ⟨n1, n2⟩ := need_small hc hok i2
        obtain ⟨v, e1, e2, v1, v2⟩ := levels_small (m := p.Start) hf hx p1 (by omega)
        obtain ⟨r, r1, r2⟩ := least_same hf hx p3 n1 n2 hsh.1 (impl_LevelFor_eq s.pn hnm hc hok i2) (p.End + 1 - p.Start).toNat bigN p.Start v (by omega) (by rw [bigN_val]; omega) p1 v1 v2
        refine ⟨(r, true), ?_, ?_⟩
        · simp only [Bool.not_true, f_spec_ClearanceOn_1, Bool.false_eq_true, if_false, f_spec_l24Least, hsh.1, Option.bind_some, spec_LevelFor_eq s.pn hnm hc hok i2, e1]
          rw [wrap64 (n := v - _) (by omega) (by omega), r1]
          rfl
        · simp only [Bool.not_true, f_impl_ClearanceOn_1, Bool.false_eq_true, if_false, e2, Option.bind_some]
          exact r2

/-! Copies, comparisons, sizes -/
theorem szHarbour_of {a : XHarbour} {l : Int} (h0 : 0 ≤ l) (h1 : l ≤ 1048576) (q1 : a.Forecast.Tide.Parts.length ≤ maxLen) (q2 : a.Forecast.Surges.length ≤ maxLen) (q3 : a.Chart.Points.length ≤ maxLen) (q4 : a.Chart.Segments.length ≤ maxLen) (q5 : a.Fleet.length ≤ maxLen) (s : HSmall a) :
    ∃ r, f_laws_szHarbour a l = some r ∧ (0 ≤ r → r ≤ l ∧ a.Forecast.Tide.Parts.length ≤ 1048576 ∧ a.Forecast.Surges.length ≤ 1048576 ∧ a.Chart.Points.length ≤ 1048576 ∧ a.Chart.Segments.length ≤ 1048576 ∧ a.Fleet.length ≤ 1048576 ∧ a.Crew.Moves.length ≤ 1048576) := by
  unfold f_laws_szHarbour f_laws_szCrew
  obtain ⟨r1, e1, k1⟩ := szForecast_of (f := a.Forecast) h0 h1 q1 q2
  by_cases c1 : r1 < 0
  · exact ⟨-1, by simp [e1, c1], by omega⟩
  obtain ⟨b1, b2, b3⟩ := k1 (by omega)
  obtain ⟨r2, e2, k2⟩ := szChart_of (c := a.Chart) (l := r1) (by omega) (by omega) q3 q4 s.pn
  by_cases c2 : r2 < 0
  · exact ⟨-1, by simp [e1, c1, e2, c2], by omega⟩
  obtain ⟨b4, b5, b6⟩ := k2 (by omega)
  obtain ⟨r3, e3, k3⟩ := szShipS_of (xs := a.Fleet) (l := r2) (by omega) (by omega) q5 s.fn
  by_cases c3 : r3 < 0
  · exact ⟨-1, by simp [e1, c1, e2, c2, e3, c3], by omega⟩
  obtain ⟨b7, b8⟩ := k3 (by omega)
  obtain ⟨r4, e4, k4⟩ := szIntS_of (xs := a.Crew.Moves) (l := r3) (by omega) (by omega) s.mv
  by_cases c4 : r4 < 0
  · exact ⟨-1, by simp [e1, c1, e2, c2, e3, c3, e4, c4], by omega⟩
  obtain ⟨b9, b10⟩ := k4 (by omega)
  exact ⟨r4, by simp [e1, c1, e2, c2, e3, c3, e4, c4], fun _ => ⟨by omega, b2, b3, b5, b6, b8, b10⟩⟩
theorem toHarbour_eq {a : XHarbour} (q1 : a.Forecast.Tide.Parts.length ≤ 1048576) (q2 : a.Forecast.Surges.length ≤ 1048576) (q3 : a.Chart.Points.length ≤ 1048576) (q4 : a.Chart.Segments.length ≤ 1048576) (q5 : a.Fleet.length ≤ 1048576) (q6 : a.Crew.Moves.length ≤ 1048576) : f_laws_toHarbour a = some a := by
  simp [f_laws_toHarbour, f_laws_toRegime, f_laws_toCrew, toForecast_eq q1 q2, toChart_eq q3 q4, toShipS_eq q5, toIntS_eq q6]
theorem eqHarbour_self {a : XHarbour} (q1 : a.Forecast.Tide.Parts.length ≤ maxLen) (q2 : a.Forecast.Surges.length ≤ maxLen) (q3 : a.Chart.Points.length ≤ maxLen) (q4 : a.Chart.Segments.length ≤ maxLen) (q5 : a.Fleet.length ≤ maxLen) (q6 : a.Crew.Moves.length ≤ maxLen) : f_laws_eqHarbour a a = some true := by
  simp [f_laws_eqHarbour, f_laws_eqRegime, f_laws_eqCrew, eqForecast_self q1 q2, eqChart_self q3 q4, eqShipS_eq q5, eqIntS_eq q6]
theorem harb_ok {a : XHarbour} (ok : ∀ d ∈ XHarbour.row a, d.Ok) : a.Forecast.Tide.Parts.length ≤ maxLen ∧ a.Forecast.Surges.length ≤ maxLen ∧ a.Chart.Points.length ≤ maxLen ∧ a.Chart.Segments.length ≤ maxLen ∧ a.Fleet.length ≤ maxLen ∧ HSmall a := by
  have h1 := ok (D.sl (List.map XPart.row a.Forecast.Tide.Parts)) (by simp [XHarbour.row_eq])
  have h2 := ok (D.sl (List.map XSurge.row a.Forecast.Surges)) (by simp [XHarbour.row_eq])
  have h3 := ok (D.sl (List.map XPoint.row a.Chart.Points)) (by simp [XHarbour.row_eq])
  have h4 := ok (D.sl (List.map XSegment.row a.Chart.Segments)) (by simp [XHarbour.row_eq])
  have h5 := ok (D.sl (List.map XShip.row a.Fleet)) (by simp [XHarbour.row_eq])
  have h6 := ok (D.sl (List.map rI a.Crew.Moves)) (by simp [XHarbour.row_eq])
  refine ⟨len_ok h1, len_ok h2, len_ok h3, len_ok h4, len_ok h5, ⟨fun x hx => ?_, (ships_ok h5).2, len_ok h6⟩⟩
  exact (h3.sl.2 (XPoint.row x) (List.mem_map_of_mem hx) (.str x.Name) (by simp [XPoint.row_eq])).str
end Go.Vi
