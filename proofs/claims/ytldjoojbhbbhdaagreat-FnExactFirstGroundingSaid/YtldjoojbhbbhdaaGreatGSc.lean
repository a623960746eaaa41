/-
  Plain laws: plans on the levels that picks choose (HoldsOn, LeastClearance). No condition.
-/
import Derived.Test.YtldjoojbhbbhdaaGreatGSb
namespace Go.Vi
set_option linter.unusedSimpArgs false
set_option linter.unusedVariables false

def cV (h : XHarbour) (xs : List Int) (p : XPassage) : Int × Bool := (f_spec_ClearanceOn h p xs).getD (0, false)
theorem cV_eq {h : XHarbour} {xs : List Int} (s : HSmall h) (hl : xs.length ≤ maxLen) (p : XPassage) : f_spec_ClearanceOn h p xs = some (cV h xs p) ∧ f_impl_ClearanceOn h p xs = some (cV h xs p) := by
  obtain ⟨r, e1, e2⟩ := ClearanceOn_same (p := p) s hl
  have : cV h xs p = r := by rw [cV, e1]; rfl
  rw [this]
  exact ⟨e1, e2⟩
def good (h : XHarbour) (xs : List Int) (p : XPassage) : Bool := (cV h xs p).2 && !(decide ((cV h xs p).1 < 0))
theorem hold_if (b : Bool) (n : Int) (K : Option Bool) : (if b = true then (if decide (n < 0) = true then some false else K) else some false) = if (b && !decide (n < 0)) = true then K else some false := by
  cases b <;> cases decide (n < 0) <;> rfl
/-- All elements, then on. -/
theorem all_listK {α : Type} {L : Nat → Int → Option Bool} (l : List α) (p : α → Bool) (K : Option Bool) (hl : l.length ≤ maxLen)
    (hs : ∀ (n i : Nat) (h : i < l.length), L (n + 1) (i : Int) = if p l[i] = true then L n (IntKind.i64.wrap ((i : Int) + 1)) else some false) (he : ∀ n, L (n + 1) (l.length : Int) = K) : L bigN 0 = if l.all p = true then K else some false := by
  have := all_loopK (L := L) l.length (fun i => (l[i]?.map p).getD true) K hl (fun n i hi => by rw [hs n i hi, List.getElem?_eq_getElem hi]; rfl) he
  rw [this]
  have e : (List.range l.length).all (fun i => (l[i]?.map p).getD true) = l.all p := by
    rw [Bool.eq_iff_iff]
    simp only [List.all_eq_true, List.mem_range]
    constructor
    · intro H x hx
      obtain ⟨i, hi, rfl⟩ := List.getElem_of_mem hx
      simpa [hi] using H i hi
    · intro H i hi
      simpa [hi] using H _ (List.getElem_mem hi)
  rw [e]
theorem spec_HoldsOn_eq {h : XHarbour} {l : List XOption} {xs : List Int} (s : HSmall h) (hx : xs.length ≤ maxLen) (hl : l.length ≤ maxLen) (hp : ∀ x ∈ l, x.Passages.length ≤ maxLen) : f_spec_HoldsOn h l xs = some (l.all fun o => o.Passages.all (good h xs)) := by
  unfold f_spec_HoldsOn
  rw [all_listK (L := f_spec_HoldsOn_1 xs l h) l (fun o => o.Passages.all (good h xs)) (some true) hl (fun n i hi => ?_) (fun n => by simp [f_spec_HoldsOn_1])]
  · cases (l.all fun o => o.Passages.all (good h xs)) <;> rfl
  · simp only [f_spec_HoldsOn_1, dec_nn, hi, decide_true, if_true, ix_at hi, Option.bind_some]
    refine all_listK (L := f_spec_HoldsOn_2 xs l (i : Int) l[i] h (f_spec_HoldsOn_1 xs l h n)) l[i].Passages (good h xs) _ (hp _ (List.getElem_mem hi)) (fun m j hj => ?_) (fun m => by simp [f_spec_HoldsOn_2])
    simp only [f_spec_HoldsOn_2, dec_nn, hj, decide_true, if_true, ix_at hj, Option.bind_some, (cV_eq s hx _).1]
    exact hold_if _ _ _
theorem impl_HoldsOn_eq {h : XHarbour} {l : List XOption} {xs : List Int} (s : HSmall h) (hx : xs.length ≤ maxLen) (hl : l.length ≤ maxLen) (hp : ∀ x ∈ l, x.Passages.length ≤ maxLen) : f_impl_HoldsOn h l xs = some (l.all fun o => o.Passages.all (good h xs)) := by
  unfold f_impl_HoldsOn
  rw [all_listK (L := f_impl_HoldsOn_1 xs l h) l (fun o => o.Passages.all (good h xs)) (some true) hl (fun n i hi => ?_) (fun n => by simp [f_impl_HoldsOn_1])]
  · cases (l.all fun o => o.Passages.all (good h xs)) <;> rfl
  · simp only [f_impl_HoldsOn_1, dec_nn, hi, decide_true, if_true, ix_at hi, Option.bind_some]
    refine all_listK (L := f_impl_HoldsOn_2 xs l (i : Int) l[i] h (f_impl_HoldsOn_1 xs l h n)) l[i].Passages (good h xs) _ (hp _ (List.getElem_mem hi)) (fun m j hj => ?_) (fun m => by simp [f_impl_HoldsOn_2])
    simp only [f_impl_HoldsOn_2, dec_nn, hj, decide_true, if_true, ix_at hj, Option.bind_some, (cV_eq s hx _).2]
    exact hold_if _ _ _

/-! The least clearance of a plan -/
theorem least_inner {h : XHarbour} {xs : List Int} {l : List XOption} {v3 : Int} {o : XOption} (s : HSmall h) (hx : xs.length ≤ maxLen) (hp : o.Passages.length ≤ maxLen) (ks ki : Int → Bool → Int → Option (Int × Bool))
    (hk : ∀ b f, ∃ r, ks b f (IntKind.i64.wrap (v3 + 1)) = some r ∧ ki b f (IntKind.i64.wrap (v3 + 1)) = some r) : ∀ (k i n : Nat) (b : Int) (f : Bool), i + k = o.Passages.length → k < n →
      ∃ r, f_spec_LeastClearance_2 xs l v3 o h ks n b f (i : Int) = some r ∧ f_impl_LeastClearance_2 xs l v3 o h ki n b f (i : Int) = some r := by
  intro k
  induction k with
  | zero =>
    intro i n b f hi hn
    obtain ⟨q, rfl⟩ : ∃ q, n = q + 1 := ⟨n - 1, by omega⟩
    have : i = o.Passages.length := by omega
    subst this
    obtain ⟨r, e1, e2⟩ := hk b f
    exact ⟨r, by simp [f_spec_LeastClearance_2, e1], by simp [f_impl_LeastClearance_2, e2]⟩
  | succ k ih =>
    intro i n b f hi hn
    obtain ⟨q, rfl⟩ : ∃ q, n = q + 1 := ⟨n - 1, by omega⟩
    have hlt : i < o.Passages.length := by omega
    obtain ⟨c1, c2⟩ := cV_eq s hx o.Passages[i]
    have hw := wrapS hlt hp
    simp only [f_spec_LeastClearance_2, f_impl_LeastClearance_2, dec_nn, hlt, decide_true, if_true, ix_at hlt, Option.bind_some, c1, c2, f_spec_LeastClearance_3, f_impl_LeastClearance_3, hw]
    cases (cV h xs o.Passages[i]).2 with
    | false => exact ⟨_, rfl, rfl⟩
    | true =>
      cases f with
      | false => exact ih (i + 1) q _ _ (by omega) (by omega)
      | true =>
        simp only [if_true]
        by_cases hb : (cV h xs o.Passages[i]).1 < b
        · simp only [hb, decide_true, if_true]
          exact ih (i + 1) q _ _ (by omega) (by omega)
        · simp only [hb, decide_false, Bool.false_eq_true, if_false]
          exact ih (i + 1) q _ _ (by omega) (by omega)
theorem LeastClearance_same {h : XHarbour} {l : List XOption} {xs : List Int} (s : HSmall h) (hx : xs.length ≤ maxLen) (hl : l.length ≤ maxLen) (hp : ∀ x ∈ l, x.Passages.length ≤ maxLen) : ∃ r, f_spec_LeastClearance h l xs = some r ∧ f_impl_LeastClearance h l xs = some r := by
  have key : ∀ (k i n : Nat) (b : Int) (f : Bool), i + k = l.length → k < n → ∃ r, f_spec_LeastClearance_1 xs l h n b f (i : Int) = some r ∧ f_impl_LeastClearance_1 xs l h n b f (i : Int) = some r := by
    intro k
    induction k with
    | zero =>
      intro i n b f hi hn
      obtain ⟨q, rfl⟩ : ∃ q, n = q + 1 := ⟨n - 1, by omega⟩
      have : i = l.length := by omega
      subst this
      exact ⟨(b, f), by simp [f_spec_LeastClearance_1], by simp [f_impl_LeastClearance_1]⟩
    | succ k ih =>
      intro i n b f hi hn
      obtain ⟨q, rfl⟩ : ∃ q, n = q + 1 := ⟨n - 1, by omega⟩
      have hlt : i < l.length := by omega
      have hpl := hp _ (List.getElem_mem hlt)
      simp only [f_spec_LeastClearance_1, f_impl_LeastClearance_1, dec_nn, hlt, decide_true, if_true, ix_at hlt, Option.bind_some]
      refine least_inner s hx hpl _ _ (fun b f => ?_) l[i].Passages.length 0 bigN b f (by omega) (lt_bigN hpl)
      rw [wrapS hlt hl]
      exact ih (i + 1) q b f (by omega) (by omega)
  exact key l.length 0 bigN 0 false (by omega) (lt_bigN hl)

/-! Copies, comparisons, sizes -/
theorem toPassageS_eq {xs : List XPassage} (h : xs.length ≤ 1048576) : f_laws_toPassageS xs = some xs := by
  unfold f_laws_toPassageS
  rw [mkS_len h (by omega)]
  have := copy_loop (L := f_laws_toPassageS_1 xs) xs id (le_max h) (fun n i acc hi ha => by simp [f_laws_toPassageS_1, ix_nn, hi, ha, f_laws_toPassage]) (fun n acc => by simp [f_laws_toPassageS_1]) (List.replicate xs.length ⟨0, 0, false, 0, 0⟩) (by simp)
  simpa using this
theorem eqPassage_eq (x y : XPassage) : f_laws_eqPassage x y = some (decide (x = y)) := by
  unfold f_laws_eqPassage
  cases x; cases y
  simp only [XPassage.mk.injEq]
  repeat' split
  all_goals simp_all
theorem eqPassageS_eq {xs ys : List XPassage} (h : xs.length ≤ maxLen) : f_laws_eqPassageS xs ys = some (decide (xs = ys)) := by
  unfold f_laws_eqPassageS
  by_cases hl : xs.length = ys.length
  · have := eq_loop (L := f_laws_eqPassageS_1 xs ys) xs ys h hl (fun n i h1 h2 => by simp [f_laws_eqPassageS_1, ix_nn, h1, h2, eqPassage_eq]) (fun n => by simp [f_laws_eqPassageS_1])
    simp [hl, this]
  · have : ¬ (xs.length : Int) = ys.length := by omega
    have : xs ≠ ys := fun e => hl (by rw [e])
    simp_all
theorem toOption_eq {x : XOption} (h : x.Passages.length ≤ 1048576) : f_laws_toOption x = some x := by
  simp [f_laws_toOption, toPassageS_eq h]
theorem toOptionS_eq {xs : List XOption} (h : xs.length ≤ 1048576) (hp : ∀ x ∈ xs, x.Passages.length ≤ 1048576) : f_laws_toOptionS xs = some xs := by
  unfold f_laws_toOptionS
  rw [mkS_len h (by omega)]
  have := copy_loop (L := f_laws_toOptionS_1 xs) xs id (le_max h) (fun n i acc hi ha => by simp [f_laws_toOptionS_1, ix_nn, hi, ha, toOption_eq (hp _ (List.getElem_mem hi))]) (fun n acc => by simp [f_laws_toOptionS_1]) (List.replicate xs.length ⟨0, 0, 0, []⟩) (by simp)
  simpa using this
theorem eqOption_self {x : XOption} (h : x.Passages.length ≤ maxLen) : f_laws_eqOption x x = some true := by
  simp [f_laws_eqOption, eqPassageS_eq h]
theorem eqOptionS_self {xs : List XOption} (h : xs.length ≤ maxLen) (hp : ∀ x ∈ xs, x.Passages.length ≤ maxLen) : f_laws_eqOptionS xs xs = some true := by
  unfold f_laws_eqOptionS
  have := all_loop (L := f_laws_eqOptionS_1 xs xs) xs (fun _ => true) h (fun n i hi => by simp [f_laws_eqOptionS_1, ix_nn, hi, eqOption_self (hp _ (List.getElem_mem hi))]) (fun n => by simp [f_laws_eqOptionS_1])
  simp [this]
theorem szOption_of {x : XOption} {l : Int} (h0 : 0 ≤ l) (h1 : l ≤ 1048576) (hx : x.Passages.length ≤ maxLen) : ∃ r, f_laws_szOption x l = some r ∧ (0 ≤ r → r ≤ l ∧ x.Passages.length ≤ 1048576) := by
  unfold f_laws_szOption f_laws_szPassageS
  rw [maxLen_val] at hx
  rw [wrap64 (by omega) (by omega)]
  by_cases h : l - (x.Passages.length : Int) < 0
  · exact ⟨-1, by simp [h], by omega⟩
  · exact ⟨l - x.Passages.length, by simp [h], by omega⟩
theorem szOptionS_of {xs : List XOption} {l : Int} (h0 : 0 ≤ l) (h1 : l ≤ 1048576) (hx : xs.length ≤ maxLen) (hn : ∀ x ∈ xs, x.Passages.length ≤ maxLen) : ∃ r, f_laws_szOptionS xs l = some r ∧ (0 ≤ r → r ≤ l ∧ xs.length ≤ 1048576 ∧ ∀ x ∈ xs, x.Passages.length ≤ 1048576) := by
  unfold f_laws_szOptionS
  have hx' := hx
  rw [maxLen_val] at hx'
  rw [wrap64 (by omega) (by omega)]
  by_cases h : l - (xs.length : Int) < 0
  · exact ⟨-1, by simp [h], by omega⟩
  · have key : ∀ (k i n : Nat) (v : Int), i + k = xs.length → k < n → 0 ≤ v → v ≤ l → ∃ r, f_laws_szOptionS_1 xs n v (i : Int) = some r ∧ (0 ≤ r → r ≤ l ∧ ∀ j (hj : j < xs.length), i ≤ j → xs[j].Passages.length ≤ 1048576) := by
      intro k
      induction k with
      | zero =>
        intro i n v hi hn2 hv hv2
        obtain ⟨m, rfl⟩ : ∃ m, n = m + 1 := ⟨n - 1, by omega⟩
        have : i = xs.length := by omega
        subst this
        exact ⟨v, by simp [f_laws_szOptionS_1], fun _ => ⟨hv2, fun j hj h => by omega⟩⟩
      | succ k ih =>
        intro i n v hi hn2 hv hv2
        obtain ⟨m, rfl⟩ : ∃ m, n = m + 1 := ⟨n - 1, by omega⟩
        have hlt : i < xs.length := by omega
        obtain ⟨r, e, hr⟩ := szOption_of (x := xs[i]) hv (by omega) (hn _ (List.getElem_mem hlt))
        by_cases hr0 : r < 0
        · exact ⟨-1, by simp [f_laws_szOptionS_1, ix_nn, hlt, e, hr0], by omega⟩
        · obtain ⟨g1, g2⟩ := hr (by omega)
          obtain ⟨r2, e2, h2⟩ := ih (i + 1) m r (by omega) (by omega) (by omega) (by omega)
          refine ⟨r2, ?_, fun h0 => ⟨(h2 h0).1, fun j hj hij => ?_⟩⟩
          · rw [← wrapS hlt hx] at e2
            simp only [f_laws_szOptionS_1, ix_nn, List.getElem?_eq_getElem hlt, Option.bind_some, dec_nn, hlt, decide_true, if_true, e, hr0, decide_false, Bool.false_eq_true, if_false]
            exact e2
          · by_cases hji : j = i
            · subst hji; exact g2
            · exact (h2 h0).2 j hj (by omega)
    obtain ⟨r, e, hr⟩ := key xs.length 0 bigN (l - xs.length) (by omega) (lt_bigN hx) (by omega) (by omega)
    refine ⟨r, ?_, fun h0 => ⟨(hr h0).1, by omega, fun x hx2 => ?_⟩⟩
    · simp only [h, decide_false, Bool.false_eq_true, if_false]
      exact e
    · obtain ⟨j, hj, rfl⟩ := List.getElem_of_mem hx2
      exact (hr h0).2 j hj (Nat.zero_le _)
theorem options_ok {xs : List XOption} (ok : (D.sl (List.map XOption.row xs)).Ok) : xs.length ≤ maxLen ∧ ∀ x ∈ xs, x.Passages.length ≤ maxLen :=
  ⟨len_ok ok, fun x hx => len_ok (row := XPassage.row) (ok.sl.2 (XOption.row x) (List.mem_map_of_mem hx) (.sl (List.map XPassage.row x.Passages)) (by simp [XOption.row_eq]))⟩
theorem law_FnExactHoldsOn (a : XHarbour) (l : List XOption) (xs : List Int) (ok : DsOk [.ag (XHarbour.row a), .sc (.sl (List.map XOption.row l)), .sc (.sl (List.map rI xs))]) : f_laws_FnExactHoldsOn a l xs = some true := by
  unfold f_laws_FnExactHoldsOn
  obtain ⟨q1, q2, q3, q4, q5, s⟩ := harb_ok ok.ag.1
  obtain ⟨o1, o2⟩ := options_ok ok.ag.2.sc.1
  have hx := len_ok (row := rI) ok.ag.2.sc.2.sc.1
  by_cases h0 : (1048576 : Int) < xs.length
  · simp [h0]
  have kx : xs.length ≤ 1048576 := by omega
  obtain ⟨r, e, k⟩ := szHarbour_of (a := a) (l := 1048576) (by omega) (by omega) q1 q2 q3 q4 q5 s
  by_cases hr : r < 0
  · simp [h0, e, hr]
  obtain ⟨b0, b1, b2, b3, b4, b5, b6⟩ := k (by omega)
  obtain ⟨r', e', k'⟩ := szOptionS_of (xs := l) (l := r) (by omega) (by omega) o1 o2
  by_cases hr' : r' < 0
  · simp [h0, e, hr, e', hr']
  obtain ⟨_, c1, c2⟩ := k' (by omega)
  simp [h0, e, hr, e', hr', toHarbour_eq b1 b2 b3 b4 b5 b6, toIntS_eq kx, toOptionS_eq c1 c2, spec_HoldsOn_eq s hx o1 o2, impl_HoldsOn_eq s hx o1 o2, eqHarbour_self q1 q2 q3 q4 q5 s.mv, eqOptionS_self o1 o2, eqIntS_eq hx]
theorem law_FnExactLeastClearance (a : XHarbour) (l : List XOption) (xs : List Int) (ok : DsOk [.ag (XHarbour.row a), .sc (.sl (List.map XOption.row l)), .sc (.sl (List.map rI xs))]) : f_laws_FnExactLeastClearance a l xs = some true := by
  unfold f_laws_FnExactLeastClearance
  obtain ⟨q1, q2, q3, q4, q5, s⟩ := harb_ok ok.ag.1
  obtain ⟨o1, o2⟩ := options_ok ok.ag.2.sc.1
  have hx := len_ok (row := rI) ok.ag.2.sc.2.sc.1
  by_cases h0 : (1048576 : Int) < xs.length
  · simp [h0]
  have kx : xs.length ≤ 1048576 := by omega
  obtain ⟨r, e, k⟩ := szHarbour_of (a := a) (l := 1048576) (by omega) (by omega) q1 q2 q3 q4 q5 s
  by_cases hr : r < 0
  · simp [h0, e, hr]
  obtain ⟨b0, b1, b2, b3, b4, b5, b6⟩ := k (by omega)
  obtain ⟨r', e', k'⟩ := szOptionS_of (xs := l) (l := r) (by omega) (by omega) o1 o2
  by_cases hr' : r' < 0
  · simp [h0, e, hr, e', hr']
  obtain ⟨_, c1, c2⟩ := k' (by omega)
  obtain ⟨v, e1, e2⟩ := LeastClearance_same (l := l) s hx o1 o2
  simp [h0, e, hr, e', hr', toHarbour_eq b1 b2 b3 b4 b5 b6, toIntS_eq kx, toOptionS_eq c1 c2, e1, e2, eqHarbour_self q1 q2 q3 q4 q5 s.mv, eqOptionS_self o1 o2, eqIntS_eq hx]
end Go.Vi
