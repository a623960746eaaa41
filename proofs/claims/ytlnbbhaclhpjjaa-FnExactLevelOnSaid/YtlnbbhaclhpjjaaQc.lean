/-
  Plain laws: tides, surges and levels. No condition.
-/
import Derived.Test.YtlnbbhaclhpjjaaQb
namespace Go.Vi
set_option linter.unusedSimpArgs false
set_option linter.unusedVariables false

theorem wrapE (n : Int) : IntKind.i64.wrap n = if n % 18446744073709551616 ≥ 9223372036854775808 then n % 18446744073709551616 - 18446744073709551616 else n % 18446744073709551616 := by
  simp [IntKind.wrap, IntKind.bits, IntKind.signed]
theorem wrap_sub2 (a b : Int) : IntKind.i64.wrap (IntKind.i64.wrap a - IntKind.i64.wrap b) = IntKind.i64.wrap (a - b) := by
  simp only [wrapE]
  repeat' split
  all_goals omega
theorem bind_id {α : Type} (x : Option α) : (x.bind fun r => some r) = x := by cases x <;> rfl

/-! Tides -/
def perOk (p : Int) : Bool := (decide (4 ≤ p) && decide (p ≤ 2880)) && (IntKind.i64.wrap (Int.tmod p 4) == 0)
def partOk (x : XPart) : Bool := (decide (0 ≤ x.Amp) && decide (x.Amp ≤ 1000)) && (perOk x.Period && (decide (0 ≤ x.Phase) && decide (x.Phase ≤ IntKind.i64.wrap (x.Period - 1))))
def tideOk (t : XTide) : Bool := (decide (-1000 ≤ t.Mean) && decide (t.Mean ≤ 1000)) && (decide (t.Parts.length ≤ 4) && t.Parts.all partOk)
theorem spec_PartOk_eq (x : XPart) : f_spec_PartOk x = some (partOk x) := by
  simp only [f_spec_PartOk, l01In_eq, Option.bind_some, partOk, perOk]
  cases (decide (0 ≤ x.Amp) && decide (x.Amp ≤ 1000)) <;> cases (decide (4 ≤ x.Period) && decide (x.Period ≤ 2880)) <;> cases (IntKind.i64.wrap (Int.tmod x.Period 4) == 0) <;> rfl
theorem isPeriod_eq (p : Int) : f_impl_isPeriod p = some (perOk p) := by
  simp only [f_impl_isPeriod, within_eq, Option.bind_some, perOk]
  cases (decide (4 ≤ p) && decide (p ≤ 2880)) <;> rfl
theorem impl_PartOk_eq (x : XPart) : f_impl_PartOk x = some (partOk x) := by
  simp only [f_impl_PartOk, within_eq, isPeriod_eq, Option.bind_some, partOk]
  cases (decide (0 ≤ x.Amp) && decide (x.Amp ≤ 1000)) <;> cases perOk x.Period <;> rfl
theorem spec_TideOk_eq (t : XTide) : f_spec_TideOk t = some (tideOk t) := by
  simp only [f_spec_TideOk, l01In_eq, Option.bind_some, tideOk]
  cases (decide (-1000 ≤ t.Mean) && decide (t.Mean ≤ 1000)) with
  | false => rfl
  | true =>
    by_cases h1 : t.Parts.length ≤ 4
    · have h1' : ¬ (4 : Int) < t.Parts.length := by omega
      rw [all_loop (L := f_spec_TideOk_1 t) t.Parts partOk (by rw [maxLen_val]; omega) (fun n i hi => by simp only [f_spec_TideOk_1, ix_nn, List.getElem?_eq_getElem hi, Option.bind_some, dec_nn, hi, decide_true, if_true, spec_PartOk_eq]) (fun n => by simp [f_spec_TideOk_1])]
      simp [h1, h1']
    · have h1' : (4 : Int) < t.Parts.length := by omega
      simp [h1, h1']
theorem impl_TideOk_eq (t : XTide) : f_impl_TideOk t = some (tideOk t) := by
  simp only [f_impl_TideOk, within_eq, Option.bind_some, tideOk]
  cases (decide (-1000 ≤ t.Mean) && decide (t.Mean ≤ 1000)) with
  | false => rfl
  | true =>
    by_cases h1 : t.Parts.length ≤ 4
    · have h1' : ¬ (4 : Int) < t.Parts.length := by omega
      rw [all_loop (L := f_impl_TideOk_1 t) t.Parts partOk (by rw [maxLen_val]; omega) (fun n i hi => by simp only [f_impl_TideOk_1, ix_nn, List.getElem?_eq_getElem hi, Option.bind_some, dec_nn, hi, decide_true, if_true, impl_PartOk_eq]) (fun n => by simp [f_impl_TideOk_1])]
      simp [h1, h1']
    · have h1' : (4 : Int) < t.Parts.length := by omega
      simp [h1, h1']

/-! Waves -/
def waveV (x p : Int) : Int := if x < IntKind.i64.wrap (Int.tdiv p 2) then
    IntKind.i64.wrap (Int.tdiv (IntKind.i64.wrap (IntKind.i64.wrap (40000 * x) * IntKind.i64.wrap (IntKind.i64.wrap (Int.tdiv p 2) - x))) (IntKind.i64.wrap (IntKind.i64.wrap (Int.tdiv p 2) * IntKind.i64.wrap (Int.tdiv p 2))))
  else IntKind.i64.wrap (0 - IntKind.i64.wrap (Int.tdiv (IntKind.i64.wrap (IntKind.i64.wrap (40000 * IntKind.i64.wrap (x - IntKind.i64.wrap (Int.tdiv p 2))) * IntKind.i64.wrap (IntKind.i64.wrap (Int.tdiv p 2) - IntKind.i64.wrap (x - IntKind.i64.wrap (Int.tdiv p 2))))) (IntKind.i64.wrap (IntKind.i64.wrap (Int.tdiv p 2) * IntKind.i64.wrap (Int.tdiv p 2)))))
theorem per_facts {p : Int} (h : perOk p = true) : 4 ≤ p ∧ p ≤ 2880 ∧ IntKind.i64.wrap (Int.tmod p 4) = 0 := by
  simp only [perOk, Bool.and_eq_true, decide_eq_true_eq, beq_iff_eq] at h
  exact ⟨h.1.1, h.1.2, h.2⟩
theorem half_facts {p : Int} (h1 : 4 ≤ p) (h2 : p ≤ 2880) : (IntKind.i64.wrap (IntKind.i64.wrap (Int.tdiv p 2) * IntKind.i64.wrap (Int.tdiv p 2)) == 0) = false := by
  have e : Int.tdiv p 2 = p / 2 := Int.tdiv_eq_ediv_of_nonneg (by omega)
  rw [e, wrap64 (n := p / 2) (by omega) (by omega)]
  generalize hq : p / 2 = q
  have q1 : 2 ≤ q := by omega
  have q2 : q ≤ 1440 := by omega
  have m1 : 2 * 2 ≤ q * q := Int.mul_le_mul q1 q1 (by omega) (by omega)
  have m2 : q * q ≤ 1440 * 1440 := Int.mul_le_mul q2 q2 (by omega) (by omega)
  rw [wrap64 (by omega) (by omega)]
  simp only [beq_eq_false_iff_ne, ne_eq]
  omega
theorem spec_Wave_eq {n p : Int} (hp : perOk p = true) (hn : 0 ≤ n) (hn2 : n ≤ 100000) : f_spec_Wave n p = some (waveV (Int.tmod n p) p) := by
  obtain ⟨p1, p2, p3⟩ := per_facts hp
  have hm : Int.tmod n p = n % p := Int.tmod_eq_emod_of_nonneg hn
  have r1 := Int.emod_nonneg n (show p ≠ 0 by omega)
  have r2 := Int.emod_lt_of_pos n (show 0 < p by omega)
  unfold f_spec_Wave
  rw [hm, wrap64 (n := n % p) (by omega) (by omega), p3]
  have k1 : ¬ p < 4 := by omega
  have k2 : ¬ 2880 < p := by omega
  have k3 : (p == 0) = false := by simp; omega
  have k4 : ¬ n % p < 0 := by omega
  simp only [k1, k2, k3, k4, decide_false, Bool.false_eq_true, if_false, bne_self_eq_false]
  unfold f_spec_Wave_1 waveV
  rw [half_facts p1 p2]
  simp only [Bool.false_eq_true, if_false, decide_eq_true_eq]
  split <;> rfl
theorem impl_Wave_eq {n p : Int} (hp : perOk p = true) (hn : 0 ≤ n) (hn2 : n ≤ 100000) : f_impl_Wave n p = some (waveV (Int.tmod n p) p) := by
  obtain ⟨p1, p2, p3⟩ := per_facts hp
  have hm : Int.tmod n p = n % p := Int.tmod_eq_emod_of_nonneg hn
  have r1 := Int.emod_nonneg n (show p ≠ 0 by omega)
  have r2 := Int.emod_lt_of_pos n (show 0 < p by omega)
  have k3 : (p == 0) = false := by simp; omega
  have hmm : Int.tmod (n % p + p) p = n % p := by
    rw [Int.tmod_eq_emod_of_nonneg (by omega), Int.add_emod_right, Int.emod_emod]
  unfold f_impl_Wave
  rw [isPeriod_eq, hp, Option.bind_some, hm, wrap64 (n := n % p) (by omega) (by omega), wrap64 (n := n % p + p) (by omega) (by omega), hmm, wrap64 (n := n % p) (by omega) (by omega), half_facts p1 p2]
  simp only [k3, Bool.false_eq_true, if_false, if_true, decide_eq_true_eq]
  unfold waveV
  by_cases hx : n % p < IntKind.i64.wrap (Int.tdiv p 2)
  · rw [if_pos hx, if_neg (by omega)]
  · rw [if_neg hx, if_pos (by omega)]

/-! The level of a tide -/
theorem level_same {t : XTide} {m : Int} (ht : tideOk t = true) (h0 : 0 ≤ m) (h1 : m ≤ 2880) : ∃ r, f_spec_l02Level t m = some r ∧ f_impl_Tide_level t m = some r := by
  simp only [tideOk, Bool.and_eq_true, decide_eq_true_eq, List.all_eq_true] at ht
  obtain ⟨_, hl, hp⟩ := ht
  have hlm : t.Parts.length ≤ maxLen := by rw [maxLen_val]; omega
  have key : ∀ (k i n : Nat) (v : Int), i + k = t.Parts.length → k < n → ∃ r, f_spec_l02Level_1 m t n v (i : Int) = some r ∧ f_impl_Tide_level_1 m t n v (i : Int) = some r := by
    intro k
    induction k with
    | zero =>
      intro i n v hi hn
      obtain ⟨q, rfl⟩ : ∃ q, n = q + 1 := ⟨n - 1, by omega⟩
      have : i = t.Parts.length := by omega
      subst this
      exact ⟨v, by simp [f_spec_l02Level_1], by simp [f_impl_Tide_level_1]⟩
    | succ k ih =>
      intro i n v hi hn
      obtain ⟨q, rfl⟩ : ∃ q, n = q + 1 := ⟨n - 1, by omega⟩
      have hlt : i < t.Parts.length := by omega
      have hx := hp _ (List.getElem_mem hlt)
      simp only [partOk, Bool.and_eq_true, decide_eq_true_eq] at hx
      obtain ⟨_, hx1, hx2, hx3⟩ := hx
      obtain ⟨p1, p2, _⟩ := per_facts hx1
      rw [wrap64 (by omega) (by omega)] at hx3
      have hw := wrap64 (n := m + t.Parts[i].Phase) (by omega) (by omega)
      obtain ⟨r, e1, e2⟩ := ih (i + 1) q (IntKind.i64.wrap (v + IntKind.i64.wrap (Int.tdiv (IntKind.i64.wrap (t.Parts[i].Amp * waveV (Int.tmod (m + t.Parts[i].Phase) t.Parts[i].Period) t.Parts[i].Period)) 10000))) (by omega) (by omega)
      rw [← wrapS hlt hlm] at e1 e2
      refine ⟨r, ?_, ?_⟩
      · simp only [f_spec_l02Level_1, ix_nn, List.getElem?_eq_getElem hlt, Option.bind_some, dec_nn, hlt, decide_true, if_true, hw, spec_Wave_eq hx1 (show 0 ≤ m + t.Parts[i].Phase by omega) (by omega)]
        exact e1
      · simp only [f_impl_Tide_level_1, ix_nn, List.getElem?_eq_getElem hlt, Option.bind_some, dec_nn, hlt, decide_true, if_true, hw, impl_Wave_eq hx1 (show 0 ≤ m + t.Parts[i].Phase by omega) (by omega)]
        exact e2
  exact key t.Parts.length 0 bigN t.Mean (by omega) (lt_bigN hlm)
end Go.Vi
