/-
  Plain laws: forecasts and levels. No condition.
-/
import Derived.Test.YtlnbbhaclhpjjaaQc
namespace Go.Vi
set_option linter.unusedSimpArgs false
set_option linter.unusedVariables false

def surgeOk (x : XSurge) : Bool := (decide (0 ≤ x.From) && decide (x.From ≤ 2880)) && ((decide (-500 ≤ x.Low) && decide (x.Low ≤ 500)) && (decide (x.Low ≤ x.High) && decide (x.High ≤ 500)))
theorem spec_SurgeOk_eq (x : XSurge) : f_spec_SurgeOk x = some (surgeOk x) := by
  simp only [f_spec_SurgeOk, l01In_eq, Option.bind_some, surgeOk]
  cases (decide (0 ≤ x.From) && decide (x.From ≤ 2880)) <;> cases (decide (-500 ≤ x.Low) && decide (x.Low ≤ 500)) <;> rfl
theorem impl_SurgeOk_eq (x : XSurge) : f_impl_SurgeOk x = some (surgeOk x) := by
  simp only [f_impl_SurgeOk, isMinute_eq, Option.bind_some, surgeOk]
  cases (decide (0 ≤ x.From) && decide (x.From ≤ 2880))
  · rfl
  · by_cases a1 : -500 ≤ x.Low <;> by_cases a2 : x.Low ≤ x.High <;> by_cases a3 : x.High ≤ 500 <;> by_cases a4 : x.Low ≤ 500 <;> simp [a1, a2, a3, a4]
    omega
def surAt (l : List XSurge) (i : Nat) : Bool := match l[i]? with
  | some x => surgeOk x && (match i with | 0 => true | j + 1 => match l[j]? with | some y => !(decide (x.From ≤ y.From)) | none => false)
  | none => false
def surFirst (l : List XSurge) : Bool := match l[0]? with
  | some x => decide (x.From = 0)
  | none => false
def fcOk (f : XForecast) : Bool := tideOk f.Tide && ((decide (1 ≤ (f.Surges.length : Int)) && decide ((f.Surges.length : Int) ≤ 6)) && (surFirst f.Surges && (List.range f.Surges.length).all (surAt f.Surges)))
theorem wrap_pred (j : Nat) (h : j ≤ 1000) : IntKind.i64.wrap (((j + 1 : Nat) : Int) - 1) = (j : Int) := by
  rw [wrap64 (by omega) (by omega)]
  omega
theorem spec_ForecastOk_eq (f : XForecast) : f_spec_ForecastOk f = some (fcOk f) := by
  simp only [f_spec_ForecastOk, spec_TideOk_eq, l01In_eq, Option.bind_some, fcOk]
  cases tideOk f.Tide with
  | false => rfl
  | true =>
    cases hb : (decide (1 ≤ (f.Surges.length : Int)) && decide ((f.Surges.length : Int) ≤ 6)) with
    | false => rfl
    | true =>
      simp only [Bool.and_eq_true, decide_eq_true_eq] at hb
      have h0 : 0 < f.Surges.length := by omega
      have hl : f.Surges.length ≤ maxLen := by rw [maxLen_val]; omega
      rw [all_loopK (L := f_spec_ForecastOk_1 f) f.Surges.length (surAt f.Surges) (some true) hl (fun n i hi => ?_) (fun n => by simp [f_spec_ForecastOk_1])]
      · have e0 : ix f.Surges 0 = some f.Surges[0] := ix_at h0
        simp only [e0, Option.bind_some, surFirst, List.getElem?_eq_getElem h0, Bool.true_and, if_true]
        by_cases e : f.Surges[0].From = 0 <;> cases (List.range f.Surges.length).all (surAt f.Surges) <;> simp [e]
      · simp only [f_spec_ForecastOk_1, ix_nn, List.getElem?_eq_getElem hi, Option.bind_some, dec_nn, hi, decide_true, if_true, spec_SurgeOk_eq, surAt]
        cases i with
        | zero => cases surgeOk f.Surges[0] <;> simp
        | succ j =>
          have hj : j < f.Surges.length := by omega
          rw [wrap_pred j (by omega)]
          simp only [ix_nn, List.getElem?_eq_getElem hj, Option.bind_some]
          have hp : (0 : Int) < ((j + 1 : Nat) : Int) := by omega
          cases surgeOk f.Surges[j + 1] <;> cases decide (f.Surges[j + 1].From ≤ f.Surges[j].From) <;> simp
    
theorem impl_ForecastOk_eq (f : XForecast) : f_impl_ForecastOk f = some (fcOk f) := by
  simp only [f_impl_ForecastOk, impl_TideOk_eq, within_eq, Option.bind_some, fcOk]
  cases tideOk f.Tide with
  | false => rfl
  | true =>
    cases hb : (decide (1 ≤ (f.Surges.length : Int)) && decide ((f.Surges.length : Int) ≤ 6)) with
    | false => rfl
    | true =>
      simp only [Bool.and_eq_true, decide_eq_true_eq] at hb
      have h0 : 0 < f.Surges.length := by omega
      have hl : f.Surges.length ≤ maxLen := by rw [maxLen_val]; omega
      rw [all_loopK (L := f_impl_ForecastOk_1 f) f.Surges.length (surAt f.Surges) (some true) hl (fun n i hi => ?_) (fun n => by simp [f_impl_ForecastOk_1])]
      · have e0 : ix f.Surges 0 = some f.Surges[0] := ix_at h0
        simp only [e0, Option.bind_some, surFirst, List.getElem?_eq_getElem h0, Bool.true_and, if_true]
        by_cases e : f.Surges[0].From = 0 <;> cases (List.range f.Surges.length).all (surAt f.Surges) <;> simp [e]
      · simp only [f_impl_ForecastOk_1, ix_nn, List.getElem?_eq_getElem hi, Option.bind_some, dec_nn, hi, decide_true, if_true, impl_SurgeOk_eq, surAt]
        cases i with
        | zero => cases surgeOk f.Surges[0] <;> simp
        | succ j =>
          have hj : j < f.Surges.length := by omega
          rw [wrap_pred j (by omega)]
          simp only [ix_nn, List.getElem?_eq_getElem hj, Option.bind_some]
          have hp : (0 : Int) < ((j + 1 : Nat) : Int) := by omega
          cases surgeOk f.Surges[j + 1] <;> cases decide (f.Surges[j + 1].From ≤ f.Surges[j].From) <;> simp

theorem fc_facts {f : XForecast} (h : fcOk f = true) : tideOk f.Tide = true ∧ 0 < f.Surges.length ∧ f.Surges.length ≤ 6 := by
  simp only [fcOk, Bool.and_eq_true, decide_eq_true_eq] at h
  refine ⟨h.1, ?_, ?_⟩ <;> omega
/-- The surge of a minute: where it lies, and what it is. -/
theorem surge_same {f : XForecast} {m : Int} (h0 : 0 < f.Surges.length) (h6 : f.Surges.length ≤ 6) : ∃ (a : Nat) (ha : a < f.Surges.length), f_impl_Forecast_surge f m = some (a : Int) ∧ f_spec_l03Surge f m = some f.Surges[a] := by
  have hl : f.Surges.length ≤ maxLen := by rw [maxLen_val]; omega
  have key : ∀ (k i n a : Nat) (ha : a < f.Surges.length), i + k = f.Surges.length → k < n → ∃ (a' : Nat) (ha' : a' < f.Surges.length), f_impl_Forecast_surge_1 m f n (a : Int) (i : Int) = some (a' : Int) ∧
      f_spec_l03Surge_1 m f n (i : Int) f.Surges[a].From f.Surges[a].Low f.Surges[a].High = some f.Surges[a'] := by
    intro k
    induction k with
    | zero =>
      intro i n a ha hi hn
      obtain ⟨q, rfl⟩ : ∃ q, n = q + 1 := ⟨n - 1, by omega⟩
      have : i = f.Surges.length := by omega
      subst this
      exact ⟨a, ha, by simp [f_impl_Forecast_surge_1], by simp [f_spec_l03Surge_1]⟩
    | succ k ih =>
      intro i n a ha hi hn
      obtain ⟨q, rfl⟩ : ∃ q, n = q + 1 := ⟨n - 1, by omega⟩
      have hlt : i < f.Surges.length := by omega
      by_cases hm : f.Surges[i].From ≤ m
      · obtain ⟨a', ha', e1, e2⟩ := ih (i + 1) q i hlt (by omega) (by omega)
        rw [← wrapS hlt hl] at e1 e2
        refine ⟨a', ha', ?_, ?_⟩
        · simp only [f_impl_Forecast_surge_1, ix_nn, List.getElem?_eq_getElem hlt, Option.bind_some, dec_nn, hlt, decide_true, if_true, hm]
          exact e1
        · simp only [f_spec_l03Surge_1, ix_nn, List.getElem?_eq_getElem hlt, Option.bind_some, dec_nn, hlt, decide_true, if_true, hm]
          exact e2
      · obtain ⟨a', ha', e1, e2⟩ := ih (i + 1) q a ha (by omega) (by omega)
        rw [← wrapS hlt hl] at e1 e2
        refine ⟨a', ha', ?_, ?_⟩
        · simp only [f_impl_Forecast_surge_1, ix_nn, List.getElem?_eq_getElem hlt, Option.bind_some, dec_nn, hlt, decide_true, if_true, hm, decide_false, Bool.false_eq_true, if_false]
          exact e1
        · simp only [f_spec_l03Surge_1, ix_nn, List.getElem?_eq_getElem hlt, Option.bind_some, dec_nn, hlt, decide_true, if_true, hm, decide_false, Bool.false_eq_true, if_false]
          exact e2
  obtain ⟨a, ha, e1, e2⟩ := key f.Surges.length 0 bigN 0 h0 (by omega) (lt_bigN hl)
  have z : ((0 : Nat) : Int) = 0 := rfl
  rw [z] at e1 e2
  have e0 : ix f.Surges 0 = some f.Surges[0] := ix_at h0
  refine ⟨a, ha, ?_, ?_⟩
  · unfold f_impl_Forecast_surge
    exact e1
  · unfold f_spec_l03Surge
    rw [e0, Option.bind_some]
    exact e2

def pickAt (n : Nat) (m : Int) : Int := if IntKind.i64.wrap ((n : Int) - 1) < IntKind.i64.wrap (Int.tdiv m 60) then IntKind.i64.wrap ((n : Int) - 1) else IntKind.i64.wrap (Int.tdiv m 60)
theorem pick_in {xs : List Int} {m : Int} (h1 : 1 ≤ xs.length) (h2 : xs.length ≤ 48) (m0 : 0 ≤ m) (m1 : m ≤ 2880) : ∃ x, ix xs (pickAt xs.length m) = some x := by
  have e : Int.tdiv m 60 = m / 60 := Int.tdiv_eq_ediv_of_nonneg m0
  unfold pickAt
  rw [e, wrap64 (n := m / 60) (by omega) (by omega), wrap64 (n := (xs.length : Int) - 1) (by omega) (by omega)]
  have k : ∃ j : Nat, (if (xs.length : Int) - 1 < m / 60 then (xs.length : Int) - 1 else m / 60) = (j : Int) ∧ j < xs.length := by
    split
    · exact ⟨xs.length - 1, by omega, by omega⟩
    · exact ⟨(m / 60).toNat, by omega, by omega⟩
  obtain ⟨j, e1, h⟩ := k
  rw [e1]
  exact ⟨_, ix_at h⟩
theorem picks_facts {xs : List Int} (h : picksOk xs = true) : 1 ≤ xs.length ∧ xs.length ≤ 48 := by
  simp only [picksOk, Bool.and_eq_true, decide_eq_true_eq] at h
  omega
theorem levels_same {f : XForecast} {xs : List Int} {m : Int} (hf : fcOk f = true) (hx : picksOk xs = true) (m0 : 0 ≤ m) (m1 : m ≤ 2880) : ∃ r, f_spec_l24Level f xs m = some r ∧ f_impl_levelOn f xs m = some r := by
  obtain ⟨ht, h0, h6⟩ := fc_facts hf
  obtain ⟨k1, k2⟩ := picks_facts hx
  obtain ⟨t, e1, e2⟩ := level_same ht m0 m1
  obtain ⟨a, ha, e3, e4⟩ := surge_same (m := m) h0 h6
  obtain ⟨p, e5⟩ := pick_in k1 k2 m0 m1
  have e6 : ix f.Surges (a : Int) = some f.Surges[a] := ix_at ha
  refine ⟨IntKind.i64.wrap (IntKind.i64.wrap (t + f.Surges[a].Low) + IntKind.i64.wrap (Int.tdiv (IntKind.i64.wrap (IntKind.i64.wrap (f.Surges[a].High - f.Surges[a].Low) * p)) 1000)), ?_, ?_⟩
  · unfold f_spec_l24Level
    rw [e4, e1, Option.bind_some]
    have e5' := e5
    unfold pickAt at e5'
    rw [e5']
    rfl
  · unfold f_impl_levelOn f_impl_Forecast_low f_impl_Forecast_high f_impl_pickOf
    rw [e2, e3]
    have e5' := e5
    unfold pickAt at e5'
    simp only [Option.bind_some, e6, e5', wrap_sub2]
    have e7 : t + f.Surges[a].High - (t + f.Surges[a].Low) = f.Surges[a].High - f.Surges[a].Low := by omega
    rw [e7]
def minOk (m : Int) : Bool := decide (0 ≤ m) && decide (m ≤ 2880)
theorem LevelOn_same {f : XForecast} {xs : List Int} {m : Int} (hl : xs.length ≤ maxLen) : ∃ r, f_spec_LevelOn f xs m = some r ∧ f_impl_LevelOn f xs m = some r := by
  simp only [f_spec_LevelOn, f_impl_LevelOn, spec_ForecastOk_eq, impl_ForecastOk_eq, Option.bind_some, spec_PicksOk_eq hl, impl_PicksOk_eq hl, l01In_eq, isMinute_eq]
  cases hf : fcOk f with
  | false => exact ⟨0, rfl, rfl⟩
  | true =>
    cases hx : picksOk xs with
    | false => exact ⟨0, rfl, rfl⟩
    | true =>
      cases hm : (decide (0 ≤ m) && decide (m ≤ 2880)) with
      | false => exact ⟨0, rfl, rfl⟩
      | true =>
        simp only [Bool.and_eq_true, decide_eq_true_eq] at hm
        obtain ⟨r, e1, e2⟩ := levels_same hf hx hm.1 hm.2
        exact ⟨r, by simp [e1], by simp [e2]⟩

/-! Copies, comparisons, sizes -/
theorem toPartS_eq {xs : List XPart} (h : xs.length ≤ 1048576) : f_laws_toPartS xs = some xs := by
  unfold f_laws_toPartS
  rw [mkS_len h (by omega)]
  have := copy_loop (L := f_laws_toPartS_1 xs) xs id (le_max h) (fun n i acc hi ha => by simp [f_laws_toPartS_1, ix_nn, hi, ha, f_laws_toPart]) (fun n acc => by simp [f_laws_toPartS_1]) (List.replicate xs.length ⟨0, 0, 0⟩) (by simp)
  simpa using this
theorem toSurgeS_eq {xs : List XSurge} (h : xs.length ≤ 1048576) : f_laws_toSurgeS xs = some xs := by
  unfold f_laws_toSurgeS
  rw [mkS_len h (by omega)]
  have := copy_loop (L := f_laws_toSurgeS_1 xs) xs id (le_max h) (fun n i acc hi ha => by simp [f_laws_toSurgeS_1, ix_nn, hi, ha, f_laws_toSurge]) (fun n acc => by simp [f_laws_toSurgeS_1]) (List.replicate xs.length ⟨0, 0, 0⟩) (by simp)
  simpa using this
theorem toForecast_eq {f : XForecast} (h1 : f.Tide.Parts.length ≤ 1048576) (h2 : f.Surges.length ≤ 1048576) : f_laws_toForecast f = some f := by
  simp [f_laws_toForecast, f_laws_toTide, toPartS_eq h1, toSurgeS_eq h2]
theorem eqPart_eq (x y : XPart) : f_laws_eqPart x y = some (decide (x = y)) := by
  unfold f_laws_eqPart
  cases x; cases y
  simp only [XPart.mk.injEq]
  repeat' split
  all_goals simp_all
theorem eqPartS_eq {xs ys : List XPart} (h : xs.length ≤ maxLen) : f_laws_eqPartS xs ys = some (decide (xs = ys)) := by
  unfold f_laws_eqPartS
  by_cases hl : xs.length = ys.length
  · have := eq_loop (L := f_laws_eqPartS_1 xs ys) xs ys h hl (fun n i h1 h2 => by simp [f_laws_eqPartS_1, ix_nn, h1, h2, eqPart_eq]) (fun n => by simp [f_laws_eqPartS_1])
    simp [hl, this]
  · have : ¬ (xs.length : Int) = ys.length := by omega
    have : xs ≠ ys := fun e => hl (by rw [e])
    simp_all
theorem eqSurge_eq (x y : XSurge) : f_laws_eqSurge x y = some (decide (x = y)) := by
  unfold f_laws_eqSurge
  cases x; cases y
  simp only [XSurge.mk.injEq]
  repeat' split
  all_goals simp_all
theorem eqSurgeS_eq {xs ys : List XSurge} (h : xs.length ≤ maxLen) : f_laws_eqSurgeS xs ys = some (decide (xs = ys)) := by
  unfold f_laws_eqSurgeS
  by_cases hl : xs.length = ys.length
  · have := eq_loop (L := f_laws_eqSurgeS_1 xs ys) xs ys h hl (fun n i h1 h2 => by simp [f_laws_eqSurgeS_1, ix_nn, h1, h2, eqSurge_eq]) (fun n => by simp [f_laws_eqSurgeS_1])
    simp [hl, this]
  · have : ¬ (xs.length : Int) = ys.length := by omega
    have : xs ≠ ys := fun e => hl (by rw [e])
    simp_all
theorem eqForecast_self {f : XForecast} (h1 : f.Tide.Parts.length ≤ maxLen) (h2 : f.Surges.length ≤ maxLen) : f_laws_eqForecast f f = some true := by
  simp [f_laws_eqForecast, f_laws_eqTide, eqPartS_eq h1, eqSurgeS_eq h2]
theorem szPartS_of {xs : List XPart} {l : Int} (h0 : 0 ≤ l) (h1 : l ≤ 1048576) (hx : xs.length ≤ maxLen) : ∃ r, f_laws_szPartS xs l = some r ∧ (0 ≤ r → r ≤ l ∧ xs.length ≤ 1048576) := by
  unfold f_laws_szPartS
  rw [maxLen_val] at hx
  rw [wrap64 (by omega) (by omega)]
  by_cases h : l - (xs.length : Int) < 0
  · exact ⟨-1, by simp [h], by omega⟩
  · exact ⟨l - xs.length, by simp [h], by omega⟩
theorem szSurgeS_of {xs : List XSurge} {l : Int} (h0 : 0 ≤ l) (h1 : l ≤ 1048576) (hx : xs.length ≤ maxLen) : ∃ r, f_laws_szSurgeS xs l = some r ∧ (0 ≤ r → r ≤ l ∧ xs.length ≤ 1048576) := by
  unfold f_laws_szSurgeS
  rw [maxLen_val] at hx
  rw [wrap64 (by omega) (by omega)]
  by_cases h : l - (xs.length : Int) < 0
  · exact ⟨-1, by simp [h], by omega⟩
  · exact ⟨l - xs.length, by simp [h], by omega⟩
theorem szForecast_of {f : XForecast} {l : Int} (h0 : 0 ≤ l) (h1 : l ≤ 1048576) (hp : f.Tide.Parts.length ≤ maxLen) (hs : f.Surges.length ≤ maxLen) :
    ∃ r, f_laws_szForecast f l = some r ∧ (0 ≤ r → r ≤ l ∧ f.Tide.Parts.length ≤ 1048576 ∧ f.Surges.length ≤ 1048576) := by
  unfold f_laws_szForecast f_laws_szTide
  obtain ⟨r, e, h⟩ := szPartS_of h0 h1 hp
  by_cases hr : r < 0
  · exact ⟨-1, by simp [e, hr], by omega⟩
  · obtain ⟨k1, k2⟩ := h (by omega)
    obtain ⟨r', e', h'⟩ := szSurgeS_of (xs := f.Surges) (l := r) (by omega) (by omega) hs
    by_cases hr' : r' < 0
    · exact ⟨-1, by simp [e, hr, e', hr'], by omega⟩
    · obtain ⟨k3, k4⟩ := h' (by omega)
      exact ⟨r', by simp [e, hr, e', hr'], fun _ => ⟨by omega, k2, k4⟩⟩
theorem forecast_ok {f : XForecast} (ok : ∀ d ∈ XForecast.row f, d.Ok) : f.Tide.Parts.length ≤ maxLen ∧ f.Surges.length ≤ maxLen := by
  have h1 := ok (D.sl (List.map XPart.row f.Tide.Parts)) (by simp [XForecast.row_eq, XTide.row_eq])
  have h2 := ok (D.sl (List.map XSurge.row f.Surges)) (by simp [XForecast.row_eq, XTide.row_eq])
  exact ⟨len_ok h1, len_ok h2⟩
theorem law_FnExactLevelOn (f : XForecast) (xs : List Int) (m : Int) (ok : DsOk [.ag (XForecast.row f), .sc (.sl (List.map rI xs)), .sc (.int .i64 m)]) : f_laws_FnExactLevelOn f xs m = some true := by
  unfold f_laws_FnExactLevelOn
  obtain ⟨hp, hs⟩ := forecast_ok ok.ag.1
  have hx := len_ok (row := rI) ok.ag.2.sc.1
  by_cases h0 : (1048576 : Int) < xs.length
  · simp [h0]
  · have kx : xs.length ≤ 1048576 := by omega
    obtain ⟨r, e, h⟩ := szForecast_of (f := f) (l := 1048576) (by omega) (by omega) hp hs
    by_cases hr : r < 0
    · simp [h0, e, hr]
    · obtain ⟨k1, k2, k3⟩ := h (by omega)
      obtain ⟨v, e1, e2⟩ := LevelOn_same (f := f) (m := m) hx
      simp [h0, e, hr, toForecast_eq k2 k3, toIntS_eq kx, e1, e2, eqForecast_self hp hs, eqIntS_eq hx]
end Go.Vi
