/-
  Plain laws for SureLines: its lines, marks, and the law. No condition.
-/
import Derived.Test.YtldjoojbhbbhdaaGreatDoorSZb
namespace Go.Vi
open Go.Lib
set_option linter.unusedSimpArgs false
set_option linter.unusedVariables false

theorem chart_parts {c : XChart} (h : chartOk c = true) : c.Points.length ≤ 8 ∧ c.Segments.length ≤ 10 ∧ (∀ x ∈ c.Points, x.Name.length ≤ 8) ∧ ∀ x ∈ c.Segments, idx x.A c.Points.length = true ∧ idx x.B c.Points.length = true := by
  simp only [chartOk, Bool.and_eq_true, decide_eq_true_eq, List.all_eq_true, List.mem_range] at h
  obtain ⟨h1, h2, h3, h4⟩ := h
  refine ⟨h1, h2, fun x hx => ?_, fun x hx => ?_⟩
  · obtain ⟨i, hi, rfl⟩ := List.getElem_of_mem hx
    have := h3 i hi
    simp only [ptOk, List.getElem?_eq_getElem hi, Bool.and_eq_true] at this
    exact (name_len this.1).2
  · obtain ⟨i, hi, rfl⟩ := List.getElem_of_mem hx
    have := h4 i hi
    simp only [segOk, List.getElem?_eq_getElem hi, Bool.and_eq_true] at this
    exact ⟨this.1, this.2.1⟩
theorem fmtW_len {l : List XWindow} (hl : l.length ≤ 1100000) : (fmtWindows l).length ≤ 100000000 := by
  unfold fmtWindows
  split
  · rename_i h
    split
    · decide
    · exact win_join_len h hl
  · simp
theorem words_two {x y : List UInt8} (h : x.length + y.length ≤ 1000000000) : f_impl_words [(⟨true, x, 0⟩ : XAny), (⟨true, y, 0⟩ : XAny)] = some (x ++ [32] ++ y) := by
  have e : join [x, y] [32] = x ++ [32] ++ y := by simp [join]
  unfold f_impl_words
  obtain ⟨m, hm⟩ : ∃ m, bigN = m + 3 := ⟨bigN - 3, by rw [bigN_val]⟩
  rw [hm]
  have w0 : IntKind.i64.wrap ((0 : Int) + 1) = 1 := by decide
  have w1 : IntKind.i64.wrap ((1 : Int) + 1) = 2 := by decide
  have i0 : ix [(⟨true, x, 0⟩ : XAny), (⟨true, y, 0⟩ : XAny)] 0 = some ⟨true, x, 0⟩ := rfl
  have i1 : ix [(⟨true, x, 0⟩ : XAny), (⟨true, y, 0⟩ : XAny)] 1 = some ⟨true, y, 0⟩ := rfl
  have d0 : decide ((0 : Int) < (([(⟨true, x, 0⟩ : XAny), (⟨true, y, 0⟩ : XAny)] : List XAny).length : Int)) = true := rfl
  have d1 : decide ((1 : Int) < (([(⟨true, x, 0⟩ : XAny), (⟨true, y, 0⟩ : XAny)] : List XAny).length : Int)) = true := rfl
  have d2 : decide ((2 : Int) < (([(⟨true, x, 0⟩ : XAny), (⟨true, y, 0⟩ : XAny)] : List XAny).length : Int)) = false := rfl
  rw [f_impl_words_1, if_pos d0, i0]
  simp only [Option.bind_some, f_impl_word, if_true]
  rw [ifa (by simp) (by omega), w0, f_impl_words_1, if_pos d1, i1]
  simp only [Option.bind_some, f_impl_word, if_true]
  rw [ifa (by simp) (by omega), w1, f_impl_words_1, d2]
  simp only [Bool.false_eq_true, if_false, List.nil_append, List.singleton_append]
  rw [impl_join_eq (by simp) (by rw [e]; simp; omega), e]
  rfl
theorem at_idx {α : Type} {l : List α} {i : Int} (h : idx i l.length = true) : ∃ x ∈ l, ix l i = some x := by
  simp only [idx, Bool.and_eq_true, decide_eq_true_eq] at h
  obtain ⟨n, rfl⟩ : ∃ n : Nat, i = (n : Int) := ⟨i.toNat, by omega⟩
  have hlt : n < l.length := by omega
  exact ⟨l[n], List.getElem_mem hlt, ix_at hlt⟩
theorem lines_same {f : XForecast} {c : XChart} {s : XShip} (hn : ∀ x ∈ c.Points, x.Name.length ≤ maxLen) (hs : s.Name.length ≤ maxLen) : ∃ r, f_spec_SureLines f c s = some r ∧ f_impl_SureLines f c s = some r ∧ r.length ≤ 10 := by
  unfold f_spec_SureLines f_impl_SureLines
  simp only [spec_ForecastOk_eq, impl_ForecastOk_eq, spec_ChartOk_eq hn, impl_ChartOk_eq hn, spec_ShipOk_eq hs, impl_ShipOk_eq hs, Option.bind_some]
  by_cases hf : fcOk f = true
  · by_cases h1 : chartOk c = true
    · by_cases h2 : shipOk s = true
      · simp only [hf, h1, h2, if_true]
        obtain ⟨c1, c2, c3, c4⟩ := chart_parts h1
        have key : ∀ (k i n : Nat) (acc : List (List UInt8)), i + k = c.Segments.length → k < n → acc.length ≤ i → ∃ r, f_spec_SureLines_1 c f s n (i : Int) acc = some r ∧ f_impl_SureLines_1 c f s n (i : Int) acc = some r ∧ r.length ≤ 10 := by
          intro k
          induction k with
          | zero =>
            intro i n acc hi hn ha
            obtain ⟨m, rfl⟩ : ∃ m, n = m + 1 := ⟨n - 1, by omega⟩
            have : i = c.Segments.length := by omega
            subst this
            exact ⟨acc, by simp [f_spec_SureLines_1], by simp [f_impl_SureLines_1], by omega⟩
          | succ k ih =>
            intro i n acc hi hn2 ha
            obtain ⟨m, rfl⟩ : ∃ m, n = m + 1 := ⟨n - 1, by omega⟩
            have hlt : i < c.Segments.length := by omega
            obtain ⟨hA, hB⟩ := c4 _ (List.getElem_mem hlt)
            obtain ⟨p, hp, ep⟩ := at_idx hA
            obtain ⟨q, hq, eq⟩ := at_idx hB
            have lp := c3 _ hp
            have lq := c3 _ hq
            have hidx : idx (i : Int) c.Segments.length = true := by simp [idx, hlt]
            obtain ⟨w, w1, w2, w3⟩ := starts_same hf hn hs h1 h2 hidx
            have wl := fmtW_len (l := w) (by omega)
            simp only [f_spec_SureLines_1, f_impl_SureLines_1, dec_nn, hlt, decide_true, if_true, ix_at hlt, Option.bind_some, ep, eq, w1, w2, spec_FormatWindows_eq (l := w) (by omega), impl_FormatWindows_eq (l := w) (by omega)]
            rw [ifc (by simp; omega), ifc (by simp; omega), ifc (by simp; omega), ifc (by simp; omega), ifa (by simp; omega) (by omega), ifc (by simp; omega), ifc (by simp; omega), words_two (by simp; omega)]
            simp only [Option.bind_some]
            rw [ifa (by simp; omega) (by omega), wrapS hlt (show c.Segments.length ≤ maxLen by rw [maxLen_val]; omega)]
            exact ih (i + 1) m _ (by omega) (by omega) (by simp; omega)
        exact key c.Segments.length 0 bigN [] (by omega) (lt_bigN (by rw [maxLen_val]; omega)) (by simp)
      · exact ⟨[], by simp [hf, h1, h2], by simp [hf, h1, h2], by simp⟩
    · exact ⟨[], by simp [hf, h1], by simp [hf, h1], by simp⟩
  · exact ⟨[], by simp [hf], by simp [hf], by simp⟩

/-! Marks -/
/-- Marks that nobody looks for again. -/
theorem mark_only {α : Type} {Lm : Nat → Int → Int → List α → Option (Int × List α)} (xs : List α) (c : Nat) (e : Int → α) (k0 : Int) (h0 : 0 ≤ k0) (hc : c ≤ 100) (hl : xs.length ≤ 1048576) (hk : k0 ≤ 10000000000)
    (hm : ∀ (n i : Nat) (k : Int) (acc : List α), i < acc.length → acc.length ≤ 1048576 → 0 ≤ k → k ≤ 100000000000 → Lm (n + 1) k (i : Int) acc = Lm n (k + c) ((i + 1 : Nat) : Int) (acc.set i (e k)))
    (hme : ∀ (n : Nat) (k : Int) (acc : List α), Lm (n + 1) k (acc.length : Int) acc = some (k, acc)) : ∃ ys, Lm bigN k0 0 xs = some (k0 + c * (xs.length : Int), ys) := by
  obtain ⟨ys, h1, _, _⟩ := mark_loop (Lm := Lm) (Lh := fun ys _ k i => some (k + c * ((ys.length : Int) - i))) xs c e k0 h0 hc hl hk hm hme (fun n i k ys hi _ _ _ _ => by
    congr 1
    rw [show ((i + 1 : Nat) : Int) = (i : Int) + 1 from rfl, show (ys.length : Int) - (i : Int) = ((ys.length : Int) - ((i : Int) + 1)) + 1 by omega, Int.mul_add, Int.mul_one]
    omega) (fun n k ys => by simp)
  exact ⟨ys, h1⟩
theorem markText_ex (k : Int) (h0 : 0 ≤ k) (hk : k ≤ 1000000000000) : ∃ r, f_laws_markText k = some r := by
  have key : ∀ (m n : Nat) (v : Int) (acc : List UInt8), m < n → 0 ≤ v → v < 10 ^ m → v ≤ 1000000000000 → acc.length + m ≤ 1000 → ∃ r, f_laws_markText_1 n v acc = some r := by
    intro m
    induction m with
    | zero =>
      intro n v acc hn h0 hv _ ha
      obtain ⟨q, rfl⟩ : ∃ q, n = q + 1 := ⟨n - 1, by omega⟩
      have hv0 : ¬ (0 : Int) < v := by simp at hv; omega
      refine ⟨[109] ++ acc, ?_⟩
      unfold f_laws_markText_1
      simp only [hv0, decide_false, Bool.false_eq_true, if_false]
      rw [ifc (by simp; omega)]
    | succ m ih =>
      intro n v acc hn h0 hv hb ha
      obtain ⟨q, rfl⟩ : ∃ q, n = q + 1 := ⟨n - 1, by omega⟩
      unfold f_laws_markText_1
      by_cases hp : (0 : Int) < v
      · simp only [hp, decide_true, if_true]
        rw [ifc (by simp; omega)]
        have e : Int.tdiv v 10 = v / 10 := Int.tdiv_eq_ediv_of_nonneg h0
        rw [e, wrap64 (by omega) (by omega)]
        refine ih q _ _ (by omega) (by omega) ?_ (by omega) (by simp; omega)
        have : (10 : Int) ^ (m + 1) = 10 ^ m * 10 := Int.pow_succ 10 m
        omega
      · simp only [hp, decide_false, Bool.false_eq_true, if_false]
        exact ⟨[109] ++ acc, by rw [ifc (by simp; omega)]⟩
  unfold f_laws_markText
  by_cases h : k ≤ 0
  · exact ⟨[109, 48], by simp only [h, decide_true, if_true]⟩
  · simp only [h, decide_false, Bool.false_eq_true, if_false]
    exact key 13 bigN k [] (lt_bigN (by rw [maxLen_val]; omega)) h0 (by simp; omega) hk (by simp)
def mk (k : Int) : List UInt8 := (f_laws_markText k).getD []
theorem markText_mk {k : Int} (h0 : 0 ≤ k) (hk : k ≤ 1000000000000) : f_laws_markText k = some (mk k) := by
  obtain ⟨r, h⟩ := markText_ex k h0 hk
  simp [mk, h]
theorem markPartS_of (xs : List XPart) (k : Int) (h0 : 0 ≤ k) (hk : k ≤ 10000000000) (hl : xs.length ≤ 1048576) : ∃ ys, f_laws_markPartS xs k = some (k + 3 * (xs.length : Int), ys) := by
  unfold f_laws_markPartS
  refine mark_only (Lm := f_laws_markPartS_1) xs 3 (fun k => ⟨k, k + 1, k + 1 + 1⟩) k h0 (by omega) hl hk (fun n i k acc hi ha k0 k1 => ?_) (fun n k acc => by simp [f_laws_markPartS_1])
  have w1 := wrapk k0 (show k ≤ 1000000000000 by omega)
  have w2 := wrapk (k := k + 1) (by omega) (by omega)
  have w3 := wrapk (k := k + 1 + 1) (by omega) (by omega)
  simp only [f_laws_markPartS_1, dec_nn, hi, decide_true, if_true, ix_at hi, Option.bind_some, wrapS hi (le_max ha), w1, w2, w3, Int.toNat_natCast, ix_set hi, List.set_set]
  rw [show k + 1 + 1 + 1 = k + 3 by omega]
  rfl
theorem markSurgeS_of (xs : List XSurge) (k : Int) (h0 : 0 ≤ k) (hk : k ≤ 10000000000) (hl : xs.length ≤ 1048576) : ∃ ys, f_laws_markSurgeS xs k = some (k + 3 * (xs.length : Int), ys) := by
  unfold f_laws_markSurgeS
  refine mark_only (Lm := f_laws_markSurgeS_1) xs 3 (fun k => ⟨k, k + 1, k + 1 + 1⟩) k h0 (by omega) hl hk (fun n i k acc hi ha k0 k1 => ?_) (fun n k acc => by simp [f_laws_markSurgeS_1])
  have w1 := wrapk k0 (show k ≤ 1000000000000 by omega)
  have w2 := wrapk (k := k + 1) (by omega) (by omega)
  have w3 := wrapk (k := k + 1 + 1) (by omega) (by omega)
  simp only [f_laws_markSurgeS_1, dec_nn, hi, decide_true, if_true, ix_at hi, Option.bind_some, wrapS hi (le_max ha), w1, w2, w3, Int.toNat_natCast, ix_set hi, List.set_set]
  rw [show k + 1 + 1 + 1 = k + 3 by omega]
  rfl
theorem markPointS_of (xs : List XPoint) (k : Int) (h0 : 0 ≤ k) (hk : k ≤ 10000000000) (hl : xs.length ≤ 1048576) : ∃ ys, f_laws_markPointS xs k = some (k + 2 * (xs.length : Int), ys) := by
  unfold f_laws_markPointS
  refine mark_only (Lm := f_laws_markPointS_1) xs 2 (fun k => ⟨mk k, IntKind.i64.wrap (Int.tmod (k + 1) 3) == 0⟩) k h0 (by omega) hl hk (fun n i k acc hi ha k0 k1 => ?_) (fun n k acc => by simp [f_laws_markPointS_1])
  have w1 := wrapk k0 (show k ≤ 1000000000000 by omega)
  have w2 := wrapk (k := k + 1) (by omega) (by omega)
  simp only [f_laws_markPointS_1, dec_nn, hi, decide_true, if_true, markText_mk k0 (show k ≤ 1000000000000 by omega), ix_at hi, Option.bind_some, wrapS hi (le_max ha), w1, w2, Int.toNat_natCast, ix_set hi, List.set_set]
  rw [show k + 1 + 1 = k + 2 by omega]
  rfl
theorem markSegmentS_of (xs : List XSegment) (k : Int) (h0 : 0 ≤ k) (hk : k ≤ 10000000000) (hl : xs.length ≤ 1048576) : ∃ ys, f_laws_markSegmentS xs k = some (k + 5 * (xs.length : Int), ys) := by
  unfold f_laws_markSegmentS
  refine mark_only (Lm := f_laws_markSegmentS_1) xs 5 (fun k => ⟨k, k + 1, k + 1 + 1, k + 1 + 1 + 1, IntKind.i64.wrap (Int.tmod (k + 1 + 1 + 1 + 1) 3) == 0⟩) k h0 (by omega) hl hk (fun n i k acc hi ha k0 k1 => ?_) (fun n k acc => by simp [f_laws_markSegmentS_1])
  have w1 := wrapk k0 (show k ≤ 1000000000000 by omega)
  have w2 := wrapk (k := k + 1) (by omega) (by omega)
  have w3 := wrapk (k := k + 1 + 1) (by omega) (by omega)
  have w4 := wrapk (k := k + 1 + 1 + 1) (by omega) (by omega)
  have w5 := wrapk (k := k + 1 + 1 + 1 + 1) (by omega) (by omega)
  simp only [f_laws_markSegmentS_1, dec_nn, hi, decide_true, if_true, ix_at hi, Option.bind_some, wrapS hi (le_max ha), w1, w2, w3, w4, w5, Int.toNat_natCast, ix_set hi, List.set_set]
  rw [show k + 1 + 1 + 1 + 1 + 1 = k + 5 by omega]
  rfl
theorem markStringS_of (xs : List (List UInt8)) (k : Int) (h0 : 0 ≤ k) (hk : k ≤ 10000000000) (hl : xs.length ≤ 1048576) : ∃ ys, f_laws_markStringS xs k = some (k + 1 * (xs.length : Int), ys) ∧ ys.length = xs.length ∧ f_laws_heldStringS ys k = some (k + 1 * (xs.length : Int)) := by
  unfold f_laws_markStringS f_laws_heldStringS
  refine mark_loop (Lm := f_laws_markStringS_1) (Lh := f_laws_heldStringS_1) xs 1 mk k h0 (by omega) hl hk (fun n i k acc hi ha k0 k1 => ?_) (fun n k acc => by simp [f_laws_markStringS_1]) (fun n i k ys hi hy k0 k1 he => ?_) (fun n k ys => by simp [f_laws_heldStringS_1])
  · simp only [f_laws_markStringS_1, dec_nn, hi, decide_true, if_true, markText_mk k0 (show k ≤ 1000000000000 by omega), ix_at hi, Option.bind_some, wrapS hi (le_max ha), wrapk k0 (show k ≤ 1000000000000 by omega), Int.toNat_natCast]
    rfl
  · simp only [f_laws_heldStringS_1, dec_nn, hi, decide_true, if_true, markText_mk k0 (show k ≤ 1000000000000 by omega), ix_at hi, Option.bind_some, wrapS hi (le_max hy), wrapk k0 (show k ≤ 1000000000000 by omega), he, beq_self_eq_true]
    rfl
theorem markForecast_of (f : XForecast) (k : Int) (h0 : 0 ≤ k) (hk : k ≤ 1000000000) (h1 : f.Tide.Parts.length ≤ 1048576) (h2 : f.Surges.length ≤ 1048576) : ∃ r, f_laws_markForecast f k = some r ∧ 0 ≤ r.1 ∧ r.1 ≤ k + 10000000 := by
  obtain ⟨p, e1⟩ := markPartS_of f.Tide.Parts k h0 (by omega) h1
  obtain ⟨s, e2⟩ := markSurgeS_of f.Surges (k + 3 * (f.Tide.Parts.length : Int)) (by omega) (by omega) h2
  refine ⟨(k + 3 * (f.Tide.Parts.length : Int) + 3 * (f.Surges.length : Int), p, s), ?_, by simp only; omega, by simp only; omega⟩
  simp only [f_laws_markForecast, f_laws_markTide, e1, Option.bind_some, e2]
theorem markChart_of (c : XChart) (k : Int) (h0 : 0 ≤ k) (hk : k ≤ 1000000000) (h1 : c.Points.length ≤ 1048576) (h2 : c.Segments.length ≤ 1048576) : ∃ r, f_laws_markChart c k = some r ∧ 0 ≤ r.1 := by
  obtain ⟨p, e1⟩ := markPointS_of c.Points k h0 (by omega) h1
  obtain ⟨s, e2⟩ := markSegmentS_of c.Segments (k + 2 * (c.Points.length : Int)) (by omega) (by omega) h2
  refine ⟨(k + 2 * (c.Points.length : Int) + 5 * (c.Segments.length : Int), p, s), ?_, by simp only; omega⟩
  simp only [f_laws_markChart, e1, Option.bind_some, e2]
theorem eqStringS_self {xs : List (List UInt8)} (h : xs.length ≤ maxLen) : f_laws_eqStringS xs xs = some true := by
  have key : ∀ (k i n : Nat), i + k = xs.length → k < n → f_laws_eqStringS_1 xs xs n (i : Int) = some true := by
    intro k
    induction k with
    | zero =>
      intro i n hi hn
      obtain ⟨m, rfl⟩ : ∃ m, n = m + 1 := ⟨n - 1, by omega⟩
      have : i = xs.length := by omega
      subst this
      simp [f_laws_eqStringS_1]
    | succ k ih =>
      intro i n hi hn
      obtain ⟨m, rfl⟩ : ∃ m, n = m + 1 := ⟨n - 1, by omega⟩
      have hlt : i < xs.length := by omega
      simp only [f_laws_eqStringS_1, dec_nn, hlt, decide_true, if_true, ix_at hlt, Option.bind_some, bne_self_eq_false, beq_self_eq_true, Bool.false_eq_true, if_false]
      rw [wrapS hlt h]
      exact ih (i + 1) m (by omega) (by omega)
  unfold f_laws_eqStringS
  have := key xs.length 0 bigN (by omega) (lt_bigN h)
  simpa using this
theorem law_FnExactSureLines (a : XForecast) (c : XChart) (s : XShip) (ok : DsOk [.ag (XForecast.row a), .ag (XChart.row c), .ag (XShip.row s)]) : f_laws_FnExactSureLines a c s = some true := by
  obtain ⟨fp, fs⟩ := forecast_ok ok.ag.1
  obtain ⟨hp, hs, hn⟩ := chart_ok ok.ag.2.ag.1
  have hsn : s.Name.length ≤ maxLen := by
    have h := ok.ag.2.ag.2.ag.1 (.str s.Name) (by simp [XShip.row])
    simpa using h.str
  unfold f_laws_FnExactSureLines
  obtain ⟨r1, e1, h1⟩ := szForecast_of (f := a) (l := 1048576) (by omega) (by omega) fp fs
  simp only [e1, Option.bind_some]
  by_cases g1 : r1 < 0
  · simp [g1]
  obtain ⟨l1, b1, b2⟩ := h1 (by omega)
  obtain ⟨r2, e2, h2⟩ := szChart_of (c := c) (l := r1) (by omega) (by omega) hp hs hn
  simp only [g1, decide_false, Bool.false_eq_true, if_false, e2, Option.bind_some]
  by_cases g2 : r2 < 0
  · simp [g2]
  obtain ⟨l2, b3, b4⟩ := h2 (by omega)
  obtain ⟨r3, e3, h3⟩ := szShip_of (x := s) (l := r2) (by omega) (by omega) hsn
  simp only [g2, decide_false, Bool.false_eq_true, if_false, e3, Option.bind_some]
  by_cases g3 : r3 < 0
  · simp [g3]
  obtain ⟨w, w1, w2, w3⟩ := lines_same (f := a) (c := c) (s := s) hn hsn
  obtain ⟨p, p1, p2, p3⟩ := markForecast_of a 1 (by omega) (by omega) b1 b2
  obtain ⟨q, q1, q2⟩ := markChart_of c p.1 p2 (by omega) b3 b4
  have gq : ¬ q.1 < 0 := by omega
  obtain ⟨ys, m1, m2, m3⟩ := markStringS_of w 1 (by omega) (by omega) (by omega)
  have gm : ¬ (1 + 1 * (w.length : Int)) < 0 := by omega
  have hts : f_laws_toShip s = some s := rfl
  simp only [g3, decide_false, Bool.false_eq_true, if_false, toForecast_eq b1 b2, toChart_eq b3 b4, hts, Option.bind_some, w1, w2, eqStringS_self (xs := w) (by rw [maxLen_val]; omega), if_true, eqForecast_self (le_max b1) (le_max b2), eqChart_self (le_max b3) (le_max b4), p1, q1, gq, m1, m3, gm, bne_self_eq_false]
end Go.Vi
