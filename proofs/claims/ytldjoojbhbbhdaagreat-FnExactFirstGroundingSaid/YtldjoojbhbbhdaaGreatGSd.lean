/-
  Plain law: FirstGrounding. No condition.
-/
import Derived.Test.YtldjoojbhbbhdaaGreatGSc
namespace Go.Vi
set_option linter.unusedSimpArgs false
set_option linter.unusedVariables false
theorem clear_facts {h : XHarbour} {xs : List Int} {p : XPassage} (s : HSmall h) (hl : xs.length ≤ maxLen) (hc : (cV h xs p).2 = true) : harbOk h = true ∧ picksOk xs = true ∧ passIn h.Chart h.Fleet p = true := by
  have e := (cV_eq s hl p).1
  generalize cV h xs p = c at *
  unfold f_spec_ClearanceOn at e
  rw [spec_HarbourOk_eq s, spec_PicksOk_eq hl] at e
  simp only [Option.bind_some] at e
  cases hh : harbOk h with
  | false => simp [hh, f_spec_ClearanceOn_1] at e; subst e; cases hc
  | true =>
    cases hx : picksOk xs with
    | false => simp [hh, hx, f_spec_ClearanceOn_1] at e; subst e; cases hc
    | true =>
      have hh' := hh
      simp only [harbOk, Bool.and_eq_true] at hh'
      obtain ⟨hf, hch, hfl, _, _⟩ := hh'
      simp only [hh, hx, if_true, spec_PassageOk_in s.pn s.fn hch hfl, Option.bind_some] at e
      cases hp : passIn h.Chart h.Fleet p with
      | false => simp [hp, f_spec_ClearanceOn_1] at e; subst e; cases hc
      | true => exact ⟨rfl, rfl, rfl⟩
/-- Where a passage meets too little water. -/
def after (v : Int) (K : Option (Int × Int)) : Option Xgrounded → Option (Int × Int)
  | none => K
  | some y => some (v, y.minute)
theorem sail_loop {h : XHarbour} {xs : List Int} {l : List XOption} {o : XOption} {p : XPassage} {x : XShip} {nd v1 v4 : Int} {K : Int → Option (Int × Int)} (hf : fcOk h.Forecast = true) (hx : picksOk xs = true) (hE : p.End ≤ 2880) (hsh : ix h.Fleet p.Ship = some x) (h1 : f_spec_LevelFor h.Chart p.Segment x = some nd) (h2 : f_impl_LevelFor h.Chart p.Segment x = some nd) :
    ∀ (k n : Nat) (m : Int), m + (k : Int) = p.End + 1 → k < n → 0 ≤ m → ∃ r, f_impl_sailOn_1 v1 xs h p n m = some r ∧ f_spec_FirstGrounding_3 xs v1 l o v4 h p K n m = after v1 (K (IntKind.i64.wrap (v4 + 1))) r ∧ ∀ y, r = some y → y.option = v1 := by
  intro k
  induction k with
  | zero =>
    intro n m hk hn hm
    obtain ⟨q, rfl⟩ : ∃ q, n = q + 1 := ⟨n - 1, by omega⟩
    have : ¬ m ≤ p.End := by omega
    exact ⟨none, by simp [f_impl_sailOn_1, this], by simp [f_spec_FirstGrounding_3, this, after], fun y e => by cases e⟩
  | succ k ih =>
    intro n m hk hn hm
    obtain ⟨q, rfl⟩ : ∃ q, n = q + 1 := ⟨n - 1, by omega⟩
    have hle : m ≤ p.End := by omega
    obtain ⟨v, e1, e2, v1', v2⟩ := levels_small (m := m) hf hx hm (by omega)
    rw [f_impl_sailOn_1, f_spec_FirstGrounding_3]
    simp only [hle, decide_true, if_true, e1, e2, Option.bind_some, hsh, h1, h2]
    by_cases hlt : v < nd
    · simp only [hlt, decide_true, if_true]
      exact ⟨_, rfl, rfl, fun y e => by cases e; rfl⟩
    · simp only [hlt, decide_false, Bool.false_eq_true, if_false]
      rw [wrap64 (n := m + 1) (by omega) (by omega)]
      exact ih q (m + 1) (by omega) (by omega) (by omega)
theorem ground_inner {h : XHarbour} {xs : List Int} {l : List XOption} {v1 : Int} {o : XOption} (s : HSmall h) (hx : xs.length ≤ maxLen) (hp : o.Passages.length ≤ maxLen) (ks ki : Int → Option (Int × Int))
    (hk : ∃ r, ks (IntKind.i64.wrap (v1 + 1)) = some r ∧ ki (IntKind.i64.wrap (v1 + 1)) = some r) : ∀ (k i n : Nat), i + k = o.Passages.length → k < n →
      ∃ r, f_spec_FirstGrounding_2 xs v1 l o h ks n (i : Int) = some r ∧ f_impl_FirstGrounding_2 xs h v1 l o ki n (i : Int) = some r := by
  intro k
  induction k with
  | zero =>
    intro i n hi hn
    obtain ⟨q, rfl⟩ : ∃ q, n = q + 1 := ⟨n - 1, by omega⟩
    have : i = o.Passages.length := by omega
    subst this
    obtain ⟨r, e1, e2⟩ := hk
    exact ⟨r, by simp [f_spec_FirstGrounding_2, e1], by simp [f_impl_FirstGrounding_2, e2]⟩
  | succ k ih =>
    intro i n hi hn
    obtain ⟨q, rfl⟩ : ∃ q, n = q + 1 := ⟨n - 1, by omega⟩
    have hlt : i < o.Passages.length := by omega
    obtain ⟨c1, c2⟩ := cV_eq s hx o.Passages[i]
    have hw := wrapS hlt hp
    have ih' := ih (i + 1) q (by omega) (by omega)
    rw [f_spec_FirstGrounding_2, f_impl_FirstGrounding_2]
    simp only [dec_nn, hlt, decide_true, if_true, ix_at hlt, Option.bind_some, c1, f_impl_sailOn, c2, hw]
    cases hc : (cV h xs o.Passages[i]).2 with
    | false =>
      simp only [Bool.false_eq_true, if_false, Option.bind_some, Option.isSome_none]
      exact ih'
    | true =>
      simp only [if_true]
      by_cases h0 : 0 ≤ (cV h xs o.Passages[i]).1
      · simp only [h0, decide_true, if_true, Option.bind_some, Option.isSome_none, Bool.false_eq_true, if_false]
        exact ih'
      · simp only [h0, decide_false, Bool.false_eq_true, if_false]
        obtain ⟨hh, hpk, hpi⟩ := clear_facts s hx hc
        simp only [harbOk, Bool.and_eq_true] at hh
        obtain ⟨hf, hch, hfl, _, _⟩ := hh
        obtain ⟨i1, i2, p1, p2, p3⟩ := passIn_facts hch hpi
        have hsh := ix_ship i1
        have hok := (fleet_facts hfl).2 _ hsh.2
        have hnm := s.fn _ hsh.2
        obtain ⟨r, r1, r2, r3⟩ := sail_loop (l := l) (o := o) (v1 := v1) (v4 := (i : Int)) (K := f_spec_FirstGrounding_2 xs v1 l o h ks q) hf hpk p3 hsh.1 (spec_LevelFor_eq s.pn hnm hch hok i2) (impl_LevelFor_eq s.pn hnm hch hok i2) (o.Passages[i].End + 1 - o.Passages[i].Start).toNat bigN o.Passages[i].Start (by omega) (by rw [bigN_val]; omega) p1
        rw [r1, r2]
        cases r with
        | none =>
          simp only [after, Option.bind_some, Option.isSome_none, Bool.false_eq_true, if_false, hw]
          exact ih'
        | some y =>
          have := r3 y rfl
          exact ⟨(v1, y.minute), rfl, by simp [this]⟩
theorem FirstGrounding_same {h : XHarbour} {l : List XOption} {xs : List Int} (s : HSmall h) (hx : xs.length ≤ maxLen) (hl : l.length ≤ maxLen) (hp : ∀ x ∈ l, x.Passages.length ≤ maxLen) : ∃ r, f_spec_FirstGrounding h l xs = some r ∧ f_impl_FirstGrounding h l xs = some r := by
  have key : ∀ (k i n : Nat), i + k = l.length → k < n → ∃ r, f_spec_FirstGrounding_1 xs l h n (i : Int) = some r ∧ f_impl_FirstGrounding_1 xs h l n (i : Int) = some r := by
    intro k
    induction k with
    | zero =>
      intro i n hi hn
      obtain ⟨q, rfl⟩ : ∃ q, n = q + 1 := ⟨n - 1, by omega⟩
      have : i = l.length := by omega
      subst this
      exact ⟨(-1, -1), by simp [f_spec_FirstGrounding_1], by simp [f_impl_FirstGrounding_1]⟩
    | succ k ih =>
      intro i n hi hn
      obtain ⟨q, rfl⟩ : ∃ q, n = q + 1 := ⟨n - 1, by omega⟩
      have hlt : i < l.length := by omega
      have hpl := hp _ (List.getElem_mem hlt)
      simp only [f_spec_FirstGrounding_1, f_impl_FirstGrounding_1, dec_nn, hlt, decide_true, if_true, ix_at hlt, Option.bind_some]
      refine ground_inner s hx hpl _ _ ?_ l[i].Passages.length 0 bigN (by omega) (lt_bigN hpl)
      rw [wrapS hlt hl]
      exact ih (i + 1) q (by omega) (by omega)
  exact key l.length 0 bigN (by omega) (lt_bigN hl)
theorem law_FnExactFirstGrounding (a : XHarbour) (l : List XOption) (xs : List Int) (ok : DsOk [.ag (XHarbour.row a), .sc (.sl (List.map XOption.row l)), .sc (.sl (List.map rI xs))]) : f_laws_FnExactFirstGrounding a l xs = some true := by
  unfold f_laws_FnExactFirstGrounding
  obtain ⟨q1, q2, q3, q4, q5, s⟩ := harb_ok ok.ag.1
  obtain ⟨o1, o2⟩ := options_ok ok.ag.2.sc.1
  have hx := len_ok (row := rI) ok.ag.2.sc.2.sc.1
  by_cases h0 : (1048576 : Int) < xs.length
  · simp [h0]
  have kx : xs.length ≤ 1048576 := by omega
  obtain ⟨r, e, k⟩ := szHarbour_of (a := a) (l := 1048576) (by omega) (by omega) q1 q2 q3 q4 q5 s
  by_cases hr : r < 0
  · simp [h0, e, hr]
  obtain ⟨b0, b1, b2, b3, b4, b5, b6⟩ := k (by omega)
  obtain ⟨r', e', k'⟩ := szOptionS_of (xs := l) (l := r) (by omega) (by omega) o1 o2
  by_cases hr' : r' < 0
  · simp [h0, e, hr, e', hr']
  obtain ⟨_, c1, c2⟩ := k' (by omega)
  obtain ⟨v, e1, e2⟩ := FirstGrounding_same (l := l) s hx o1 o2
  simp [h0, e, hr, e', hr', toHarbour_eq b1 b2 b3 b4 b5 b6, toIntS_eq kx, toOptionS_eq c1 c2, e1, e2, eqHarbour_self q1 q2 q3 q4 q5 s.mv, eqOptionS_self o1 o2, eqIntS_eq hx]
end Go.Vi
