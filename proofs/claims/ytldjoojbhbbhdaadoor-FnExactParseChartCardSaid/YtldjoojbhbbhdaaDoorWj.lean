/-
  Plain law: ParseChart: the marks, and the law. No condition.
-/
import Derived.Test.YtldjoojbhbbhdaaDoorWi
namespace Go.Vi
set_option linter.unusedSimpArgs false
set_option linter.unusedVariables false

theorem markText_ex (k : Int) (h0 : 0 ≤ k) (hk : k ≤ 1000000000000) : ∃ r, f_laws_markText k = some r := by
  have key : ∀ (m n : Nat) (v : Int) (acc : List UInt8), m < n → 0 ≤ v → v < 10 ^ m → v ≤ 1000000000000 → acc.length + m ≤ 1000 → ∃ r, f_laws_markText_1 n v acc = some r := by
    intro m
    induction m with
    | zero =>
      intro n v acc hn h0 hv _ ha
      obtain ⟨q, rfl⟩ : ∃ q, n = q + 1 := ⟨n - 1, by omega⟩
      have hv0 : ¬ (0 : Int) < v := by simp at hv; omega
      refine ⟨[109] ++ acc, ?_⟩
      unfold f_laws_markText_1
      simp only [hv0, decide_false, Bool.false_eq_true, if_false]
      rw [ifc (by simp; omega)]
    | succ m ih =>
      intro n v acc hn h0 hv hb ha
      obtain ⟨q, rfl⟩ : ∃ q, n = q + 1 := ⟨n - 1, by omega⟩
      unfold f_laws_markText_1
      by_cases hp : (0 : Int) < v
      · simp only [hp, decide_true, if_true]
        rw [ifc (by simp; omega)]
        have e : Int.tdiv v 10 = v / 10 := Int.tdiv_eq_ediv_of_nonneg h0
        rw [e, wrap64 (by omega) (by omega)]
        refine ih q _ _ (by omega) (by omega) ?_ (by omega) (by simp; omega)
        have : (10 : Int) ^ (m + 1) = 10 ^ m * 10 := Int.pow_succ 10 m
        omega
      · simp only [hp, decide_false, Bool.false_eq_true, if_false]
        exact ⟨[109] ++ acc, by rw [ifc (by simp; omega)]⟩
  unfold f_laws_markText
  by_cases h : k ≤ 0
  · exact ⟨[109, 48], by simp only [h, decide_true, if_true]⟩
  · simp only [h, decide_false, Bool.false_eq_true, if_false]
    exact key 13 bigN k [] (lt_bigN (by rw [maxLen_val]; omega)) h0 (by simp; omega) hk (by simp)
def mk (k : Int) : List UInt8 := (f_laws_markText k).getD []
theorem markText_mk {k : Int} (h0 : 0 ≤ k) (hk : k ≤ 1000000000000) : f_laws_markText k = some (mk k) := by
  obtain ⟨r, h⟩ := markText_ex k h0 hk
  simp [mk, h]
theorem markPointS_of (xs : List XPoint) (k : Int) (h0 : 0 ≤ k) (hk : k ≤ 10000000000) (hl : xs.length ≤ 1048576) : ∃ ys, f_laws_markPointS xs k = some (k + 2 * (xs.length : Int), ys) ∧ ys.length = xs.length ∧ f_laws_heldPointS ys k = some (k + 2 * (xs.length : Int)) := by
  unfold f_laws_markPointS f_laws_heldPointS
  refine mark_loop (Lm := f_laws_markPointS_1) (Lh := f_laws_heldPointS_1) xs 2 (fun k => ⟨mk k, IntKind.i64.wrap (Int.tmod (k + 1) 3) == 0⟩) k h0 (by omega) hl hk (fun n i k acc hi ha k0 k1 => ?_) (fun n k acc => by simp [f_laws_markPointS_1]) (fun n i k ys hi hy k0 k1 he => ?_) (fun n k ys => by simp [f_laws_heldPointS_1])
  · have w1 := wrapk k0 (show k ≤ 1000000000000 by omega)
    have w2 := wrapk (k := k + 1) (by omega) (by omega)
    simp only [f_laws_markPointS_1, dec_nn, hi, decide_true, if_true, markText_mk k0 (show k ≤ 1000000000000 by omega), ix_at hi, Option.bind_some, wrapS hi (le_max ha), w1, w2, Int.toNat_natCast, ix_set hi, List.set_set]
    rw [show k + 1 + 1 = k + 2 by omega]
    rfl
  · have w1 := wrapk k0 (show k ≤ 1000000000000 by omega)
    have w2 := wrapk (k := k + 1) (by omega) (by omega)
    simp only [f_laws_heldPointS_1, dec_nn, hi, decide_true, if_true, markText_mk k0 (show k ≤ 1000000000000 by omega), ix_at hi, Option.bind_some, wrapS hi (le_max hy), w1, w2, he, beq_self_eq_true]
    rw [show k + 1 + 1 = k + 2 by omega]
    rfl
theorem markSegmentS_of (xs : List XSegment) (k : Int) (h0 : 0 ≤ k) (hk : k ≤ 10000000000) (hl : xs.length ≤ 1048576) : ∃ ys, f_laws_markSegmentS xs k = some (k + 5 * (xs.length : Int), ys) ∧ ys.length = xs.length ∧ f_laws_heldSegmentS ys k = some (k + 5 * (xs.length : Int)) := by
  unfold f_laws_markSegmentS f_laws_heldSegmentS
  refine mark_loop (Lm := f_laws_markSegmentS_1) (Lh := f_laws_heldSegmentS_1) xs 5 (fun k => ⟨k, k + 1, k + 1 + 1, k + 1 + 1 + 1, IntKind.i64.wrap (Int.tmod (k + 1 + 1 + 1 + 1) 3) == 0⟩) k h0 (by omega) hl hk (fun n i k acc hi ha k0 k1 => ?_) (fun n k acc => by simp [f_laws_markSegmentS_1]) (fun n i k ys hi hy k0 k1 he => ?_) (fun n k ys => by simp [f_laws_heldSegmentS_1])
  · have w1 := wrapk k0 (show k ≤ 1000000000000 by omega)
    have w2 := wrapk (k := k + 1) (by omega) (by omega)
    have w3 := wrapk (k := k + 1 + 1) (by omega) (by omega)
    have w4 := wrapk (k := k + 1 + 1 + 1) (by omega) (by omega)
    have w5 := wrapk (k := k + 1 + 1 + 1 + 1) (by omega) (by omega)
    simp only [f_laws_markSegmentS_1, dec_nn, hi, decide_true, if_true, ix_at hi, Option.bind_some, wrapS hi (le_max ha), w1, w2, w3, w4, w5, Int.toNat_natCast, ix_set hi, List.set_set]
    rw [show k + 1 + 1 + 1 + 1 + 1 = k + 5 by omega]
    rfl
  · have w1 := wrapk k0 (show k ≤ 1000000000000 by omega)
    have w2 := wrapk (k := k + 1) (by omega) (by omega)
    have w3 := wrapk (k := k + 1 + 1) (by omega) (by omega)
    have w4 := wrapk (k := k + 1 + 1 + 1) (by omega) (by omega)
    have w5 := wrapk (k := k + 1 + 1 + 1 + 1) (by omega) (by omega)
    simp only [f_laws_heldSegmentS_1, dec_nn, hi, decide_true, if_true, ix_at hi, Option.bind_some, wrapS hi (le_max hy), w1, w2, w3, w4, w5, he, beq_self_eq_true, bne_self_eq_false, Bool.false_eq_true, if_false]
    rw [show k + 1 + 1 + 1 + 1 + 1 = k + 5 by omega]
    rfl
theorem markChart_of (c : XChart) (k : Int) (h0 : 0 ≤ k) (hk : k ≤ 1000000000) (h1 : c.Points.length ≤ 1048576) (h2 : c.Segments.length ≤ 1048576) : ∃ q p s, f_laws_markChart c k = some (q, p, s) ∧ 0 ≤ q ∧ f_laws_heldChart ⟨p, s⟩ k = some q := by
  obtain ⟨p, e1, e2, e3⟩ := markPointS_of c.Points k h0 (by omega) h1
  obtain ⟨s, e4, e5, e6⟩ := markSegmentS_of c.Segments (k + 2 * (c.Points.length : Int)) (by omega) (by omega) h2
  refine ⟨k + 2 * (c.Points.length : Int) + 5 * (c.Segments.length : Int), p, s, ?_, by omega, ?_⟩
  · simp only [f_laws_markChart, e1, Option.bind_some, e4]
  · have g1 : ¬ k + 2 * (c.Points.length : Int) < 0 := by omega
    have g2 : ¬ k + 2 * (c.Points.length : Int) + 5 * (c.Segments.length : Int) < 0 := by omega
    simp only [f_laws_heldChart, e3, Option.bind_some, g1, decide_false, Bool.false_eq_true, if_false, e6, g2]
theorem law_FnExactParseChart (s : List UInt8) (ok : DsOk [.sc (.str s)]) : f_laws_FnExactParseChart s = some true := by
  unfold f_laws_FnExactParseChart
  by_cases h : (1048576 : Int) < (s.length : Int)
  · simp [h]
  · have hl : s.length ≤ 1048576 := by omega
    obtain ⟨⟨c, b⟩, e1, e2, l1, l2⟩ := parse_same hl
    simp only at l1 l2
    obtain ⟨q, p, g, m1, m2, m3⟩ := markChart_of c 1 (by omega) (by omega) (by omega) (by omega)
    have hq : ¬ q < 0 := by omega
    have m1' : f_laws_markChart ⟨c.Points, c.Segments⟩ 1 = some (q, p, g) := m1
    have he : f_laws_eqChart ⟨c.Points, c.Segments⟩ ⟨c.Points, c.Segments⟩ = some true := eqChart_self (c := c) (le_max (by omega)) (le_max (by omega))
    simp only [h, decide_false, Bool.false_eq_true, if_false, e1, e2, Option.bind_some, he, if_true, beq_self_eq_true, m1', m3, hq, bne_self_eq_false]
end Go.Vi
