/-
  Plain law of FnDesks, first part: the journal that is drawn runs on its own desk. No condition.
-/
import Derived.Test.YtdgobmphhncomaaGreatDoorKHa
namespace Go.Vi
open Go.Lib
set_option linter.unusedSimpArgs false
set_option linter.unusedVariables false

theorem deskOk_of {a : XDesk} (h1 : 0 ≤ a.Now) (h2 : a.Now ≤ 2880) (h3 : a.Starts.length ≤ 6) (h4 : a.Cleared.length = a.Starts.length)
    (h : ∀ (i : Nat) (s : Int) (c : Bool), a.Starts[i]? = some s → a.Cleared[i]? = some c → -1 ≤ s ∧ s ≤ 2880 ∧ (c = true → 0 ≤ s)) : deskOk a = true := by
  simp only [deskOk, Bool.and_eq_true, decide_eq_true_eq]
  refine ⟨⟨h1, h2⟩, h3, h4, ?_⟩
  rw [List.all_eq_true]
  intro i hi
  have hi' : i < a.Starts.length := List.mem_range.1 hi
  have hc : i < a.Cleared.length := by omega
  have hh := h i _ _ (List.getElem?_eq_getElem hi') (List.getElem?_eq_getElem hc)
  simp only [deskOkAt, List.getElem?_eq_getElem hi', List.getElem?_eq_getElem hc]
  generalize a.Starts[i] = s at hh
  generalize a.Cleared[i] = c at hh
  have e1 : decide (-1 ≤ s) = true := by simpa using hh.1
  have e2 : decide (s ≤ 2880) = true := by simpa using hh.2.1
  cases c with
  | false => simp [e1, e2]
  | true =>
    have := hh.2.2 rfl
    have e3 : decide (s < 0) = false := by simpa using this
    simp [e1, e2, e3]
theorem deskOk_at {a : XDesk} (hd : deskOk a = true) : 0 ≤ a.Now ∧ a.Now ≤ 2880 ∧ a.Starts.length ≤ 6 ∧ a.Cleared.length = a.Starts.length ∧
    ∀ (i : Nat) (s : Int) (c : Bool), a.Starts[i]? = some s → a.Cleared[i]? = some c → -1 ≤ s ∧ s ≤ 2880 ∧ (c = true → 0 ≤ s) := by
  simp only [deskOk, Bool.and_eq_true, decide_eq_true_eq] at hd
  obtain ⟨⟨h1, h2⟩, h3, h4, h5⟩ := hd
  refine ⟨h1, h2, h3, h4, fun i s c hs hc => ?_⟩
  have hi : i < a.Starts.length := (List.getElem?_eq_some_iff.1 hs).1
  have := List.all_eq_true.1 h5 i (List.mem_range.2 hi)
  simp only [deskOkAt, hs, hc, Bool.and_eq_true, decide_eq_true_eq, Bool.not_eq_true'] at this
  obtain ⟨⟨q1, q2⟩, q3⟩ := this
  refine ⟨q1, q2, fun hc' => ?_⟩
  subst hc'
  simp at q3
  exact q3
theorem allowed_more (a : XDesk) (e : XEntry) (h : deskOk a = true) (ht : f_spec_l23Allowed a e = some true) : a.Now ≤ e.At ∧ e.At ≤ 2880 ∧
    (e.Kind ≠ 4 → ∃ (i : Nat) (s : Int), e.Call = (i : Int) ∧ a.Starts[i]? = some s ∧ a.Cleared[i]? = some false ∧ (e.Kind = 1 → 0 ≤ e.Value ∧ e.Value ≤ 2880) ∧ (e.Kind = 2 → 0 ≤ s)) := by
  obtain ⟨hn, _, hl, hc, _⟩ := deskOk_at h
  have hw : IntKind.i64.wrap ((a.Starts.length : Int) - 1) = (a.Starts.length : Int) - 1 := wrap64 (by omega) (by omega)
  simp only [f_spec_l23Allowed, l01In_eq, Option.bind_some, hw] at ht
  by_cases hA : a.Now ≤ e.At ∧ e.At ≤ 2880
  rotate_left
  · have : (decide (a.Now ≤ e.At) && decide (e.At ≤ 2880)) = false := by
      by_cases h1 : a.Now ≤ e.At <;> by_cases h2 : e.At ≤ 2880 <;> simp [h1, h2] <;> exact (hA ⟨h1, h2⟩).elim
    rw [this] at ht
    simp at ht
  obtain ⟨hA1, hA2⟩ := hA
  refine ⟨hA1, hA2, fun k4 => ?_⟩
  have k4' : (e.Kind == 4) = false := by simpa using k4
  simp only [hA1, hA2, decide_true, Bool.and_self, if_true, k4', Bool.false_eq_true, if_false] at ht
  by_cases hi : 0 ≤ e.Call ∧ e.Call ≤ (a.Starts.length : Int) - 1
  rotate_left
  · have : (decide (0 ≤ e.Call) && decide (e.Call ≤ (a.Starts.length : Int) - 1)) = false := by
      by_cases h1 : 0 ≤ e.Call <;> by_cases h2 : e.Call ≤ (a.Starts.length : Int) - 1 <;> simp [h1, h2] <;> exact (hi ⟨h1, h2⟩).elim
    rw [this] at ht
    simp at ht
  obtain ⟨hi1, hi2⟩ := hi
  obtain ⟨i, hie⟩ : ∃ i : Nat, e.Call = (i : Int) := ⟨e.Call.toNat, by omega⟩
  have i1 : i < a.Starts.length := by omega
  have i2 : i < a.Cleared.length := by omega
  refine ⟨i, a.Starts[i], hie, List.getElem?_eq_getElem i1, ?_⟩
  rw [hie] at ht hi1 hi2
  simp only [hi1, hi2, decide_true, Bool.and_self, if_true, ix_at i1, ix_at i2, Option.bind_some] at ht
  rw [List.getElem?_eq_getElem i2]
  generalize a.Starts[i] = s at ht
  generalize a.Cleared[i] = cl at ht
  cases cl with
  | true =>
    simp only [if_true] at ht
    split at ht <;> simp at ht
  | false =>
    refine ⟨rfl, fun k1 => ?_, fun k2 => ?_⟩
    · simp only [k1, Bool.false_eq_true, if_false, beq_self_eq_true, if_true] at ht
      simp at ht
      omega
    · simp only [k2, Bool.false_eq_true, if_false] at ht
      simp at ht
      split at ht
      · split at ht
        · assumption
        · cases ht
      · cases ht
theorem getset {α : Type} {l : List α} {i j : Nat} {v w : α} (h : (l.set i v)[j]? = some w) : (j = i ∧ w = v) ∨ l[j]? = some w := by
  rw [List.getElem?_set] at h
  split at h
  · rename_i e
    split at h
    · left; exact ⟨e.symm, by injection h with h; exact h.symm⟩
    · simp at h
  · exact .inr h
/-- an entry is applied to a good desk: the good desk behind it -/
theorem apply_step (a : XDesk) (e : XEntry) (hd : deskOk a = true) : f_spec_ApplyEntry a e = some (a, false) ∨
    ∃ r, f_spec_ApplyEntry a e = some (r, true) ∧ deskOk r = true ∧ r.Now = e.At ∧ entOk e = true ∧ r.Starts.length = a.Starts.length := by
  obtain ⟨hn, hn2, hl, hc, hat⟩ := deskOk_at hd
  obtain ⟨v, e1, e3⟩ := allowed_ok a e hd
  unfold f_spec_ApplyEntry
  rw [l23Copy_eq (by omega) (by omega), spec_DeskOk_eq, hd]
  simp only [Option.bind_some, if_true, e1]
  cases v with
  | false => exact .inl (by simp [f_spec_ApplyEntry_1])
  | true =>
    right
    obtain ⟨hE, _⟩ := e3 rfl
    obtain ⟨m1, m2, m3⟩ := allowed_more a e hd e1
    by_cases k4 : e.Kind = 4
    · exact ⟨⟨e.At, a.Starts, a.Cleared⟩, by simp [f_spec_ApplyEntry_1, f_spec_ApplyEntry_2, k4], deskOk_of (by show 0 ≤ e.At; omega) m2 hl hc hat, rfl, hE, rfl⟩
    obtain ⟨i, s, hie, g1, g2, g3, g4⟩ := m3 k4
    have i1 : i < a.Starts.length := (List.getElem?_eq_some_iff.1 g1).1
    have i2 : i < a.Cleared.length := by omega
    by_cases k1 : e.Kind = 1
    · refine ⟨⟨e.At, a.Starts.set i e.Value, a.Cleared⟩, by simp [f_spec_ApplyEntry_1, f_spec_ApplyEntry_2, k1, hie, ix_at i1], deskOk_of (by show 0 ≤ e.At; omega) m2 (by simpa using hl) (by simpa using hc) ?_, rfl, hE, by simp⟩
      intro j t c ht hcj
      rcases getset ht with ⟨rfl, rfl⟩ | ht
      · have := g3 k1
        exact ⟨by omega, by omega, fun _ => by omega⟩
      · exact hat j t c ht hcj
    by_cases k2 : e.Kind = 2
    · refine ⟨⟨e.At, a.Starts, a.Cleared.set i true⟩, by simp [f_spec_ApplyEntry_1, f_spec_ApplyEntry_2, k2, hie, ix_at i2], deskOk_of (by show 0 ≤ e.At; omega) m2 hl (by simpa using hc) ?_, rfl, hE, rfl⟩
      intro j t c ht hcj
      rcases getset hcj with ⟨rfl, rfl⟩ | hcj
      · have := g4 k2
        have ht' : a.Starts[j]? = some t := ht
        rw [g1] at ht'
        injection ht' with ht'
        have := hat j s false g1 g2
        exact ⟨by omega, by omega, fun _ => by omega⟩
      · exact hat j t c ht hcj
    by_cases k3 : e.Kind = 3
    · refine ⟨⟨e.At, a.Starts.set i (-1), a.Cleared⟩, by simp [f_spec_ApplyEntry_1, f_spec_ApplyEntry_2, k3, hie, ix_at i1], deskOk_of (by show 0 ≤ e.At; omega) m2 (by simpa using hl) (by simpa using hc) ?_, rfl, hE, by simp⟩
      intro j t c ht hcj
      rcases getset ht with ⟨rfl, rfl⟩ | ht
      · have hcj' : a.Cleared[j]? = some c := hcj
        rw [g2] at hcj'
        injection hcj' with hcj'
        subst hcj'
        exact ⟨by omega, by omega, fun h => by cases h⟩
      · exact hat j t c ht hcj
    · have := entOk_kind hE
      simp only [kindOk, Bool.and_eq_true, decide_eq_true_eq] at this
      omega
/-- a desk, the entries that are applied to it one after the other, and the desk behind them -/
def runs : XDesk → List XEntry → XDesk → Prop
  | d, [], d' => d = d'
  | d, e :: l, d' => ∃ r, f_impl_ApplyEntry d e = some (r, true) ∧ deskOk r = true ∧ r.Now = e.At ∧ entOk e = true ∧ runs r l d'
theorem runs_snoc : ∀ (l : List XEntry) (d d' : XDesk) (e : XEntry) (r : XDesk), runs d l d' → f_impl_ApplyEntry d' e = some (r, true) → deskOk r = true → r.Now = e.At → entOk e = true → runs d (l ++ [e]) r
  | [], d, d', e, r, h, h1, h2, h3, h4 => by
    have : d = d' := h
    subst this
    exact ⟨r, h1, h2, h3, h4, rfl⟩
  | x :: l, d, d', e, r, ⟨q, g1, g2, g3, g4, g5⟩, h1, h2, h3, h4 => ⟨q, g1, g2, g3, g4, runs_snoc l q d' e r g5 h1 h2 h3 h4⟩
theorem runs_ok : ∀ (l : List XEntry) (d d' : XDesk), deskOk d = true → runs d l d' → deskOk d' = true
  | [], d, d', h, hr => by have : d = d' := hr; subst this; exact h
  | x :: l, d, d', h, ⟨q, g1, g2, g3, g4, g5⟩ => runs_ok l q d' g2 g5
theorem runs_take : ∀ (m : Nat) (l : List XEntry) (d d' : XDesk), runs d l d' → ∃ x, runs d (l.take m) x
  | 0, l, d, d', _ => ⟨d, by simp [runs]⟩
  | m + 1, [], d, d', _ => ⟨d, by simp [runs]⟩
  | m + 1, x :: l, d, d', ⟨q, g1, g2, g3, g4, g5⟩ => by
    obtain ⟨y, hy⟩ := runs_take m l q d' g5
    exact ⟨y, q, g1, g2, g3, g4, hy⟩
theorem runs_ent : ∀ (l : List XEntry) (d d' : XDesk), runs d l d' → ∀ e ∈ l, entOk e = true
  | [], _, _, _, e, h => by simp at h
  | x :: l, d, d', ⟨q, g1, g2, g3, g4, g5⟩, e, h => by
    rcases List.mem_cons.1 h with rfl | h
    · exact g4
    · exact runs_ent l q d' g5 e h
theorem impl_step {a : XDesk} {e : XEntry} {r : XDesk × Bool} (hd : deskOk a = true) (h : f_spec_ApplyEntry a e = some r) : f_impl_ApplyEntry a e = some r := by
  obtain ⟨_, _, hl, hc, _⟩ := deskOk_at hd
  obtain ⟨q, h1, h2, _, _⟩ := apply_same a e (by omega) (by omega)
  rw [h] at h1
  rw [h2, h1]
theorem draw_runs (d0 : XDesk) : ∀ (k n : Nat) (c : Xl01Cur) (d : XDesk) (l : List XEntry), k < n → k ≤ 7 → CurOk c → deskOk d = true → runs d0 l d → l.length + k ≤ 7 →
    ∃ d' l' c', f_spec_l23Draw_1 n (k : Int) c.b c.i c.h d.Now d.Starts d.Cleared l = some (d', l', c') ∧ d'.Starts.length = d.Starts.length ∧ runs d0 l' d' ∧ deskOk d' = true ∧ l'.length ≤ 7 := by
  intro k
  induction k with
  | zero =>
    intro n c d l hn _ hc hd hr hlen
    obtain ⟨m, rfl⟩ : ∃ m, n = m + 1 := ⟨n - 1, by omega⟩
    exact ⟨d, l, c, by rw [f_spec_l23Draw_1]; rfl, rfl, hr, hd, by omega⟩
  | succ k ih =>
    intro n c d l hn hk hc hd hr hlen
    obtain ⟨m, rfl⟩ : ∃ m, n = m + 1 := ⟨n - 1, by omega⟩
    obtain ⟨_, _, h1, h2, _⟩ := deskOk_at hd
    obtain ⟨e, c', e1, hc'⟩ := entry_ok (d := d) hc h1
    have e1' : f_spec_l23Entry ⟨c.b, c.i, c.h⟩ ⟨d.Now, d.Starts, d.Cleared⟩ = some (e, c') := e1
    have hpos : (0 : Int) < ((k + 1 : Nat) : Int) := by omega
    have hw : IntKind.i64.wrap (((k + 1 : Nat) : Int) - 1) = (k : Int) := by rw [wrap64 (by omega) (by omega)]; omega
    rcases apply_step d e hd with e2 | ⟨r, e2, r1, r2, r3, r4⟩
    · have e2' : f_spec_ApplyEntry ⟨d.Now, d.Starts, d.Cleared⟩ e = some (d, false) := e2
      simp only [f_spec_l23Draw_1, hpos, decide_true, if_true, e1', e2', Option.bind_some, f_spec_l23Draw_2, hw, Bool.false_eq_true, if_false]
      exact ih m c' d l (by omega) (by omega) hc' hd hr (by omega)
    · have e2' : f_spec_ApplyEntry ⟨d.Now, d.Starts, d.Cleared⟩ e = some (r, true) := e2
      simp only [f_spec_l23Draw_1, hpos, decide_true, if_true, e1', e2', Option.bind_some, f_spec_l23Draw_2, hw]
      rw [ifa (by simp; omega) (by omega)]
      obtain ⟨d', l', c2, q1, q2, q3, q4, q5⟩ := ih m c' r (l ++ [e]) (by omega) (by omega) hc' r1 (runs_snoc l d0 d e r hr (impl_step hd e2) r1 r2 r3) (by simp; omega)
      exact ⟨d', l', c2, q1, by omega, q3, q4, q5⟩
theorem journal_runs {a : List Int} (ha : a.length ≤ maxLen) : ∃ n l d d', f_spec_MakeJournal a = some (n, l) ∧ f_spec_DeskNew n = some d ∧ f_impl_DeskNew n = some d ∧ deskOk d = true ∧ runs d l d' ∧ l.length ≤ 7 := by
  unfold f_spec_MakeJournal f_spec_l23Draw
  obtain ⟨c, e, hc⟩ := new_ok ha
  obtain ⟨v1, c1, e1, a1, a2, a3, _⟩ := below_ok (n := 3) hc (by omega)
  obtain ⟨v2, c2, e2, b1, b2, b3, _⟩ := below_ok (n := 8) a1 (by omega)
  have a3' := a3 (by omega)
  have b3' := b3 (by omega)
  obtain ⟨k, rfl⟩ : ∃ k : Nat, v2 = (k : Int) := ⟨v2.toNat, by omega⟩
  obtain ⟨n1, n2, n3⟩ := new1
  have hn : ∃ m : Int, IntKind.i64.wrap (1 + v1) = m ∧ (m = 1 ∨ m = 2 ∨ m = 3) := ⟨1 + v1, wrap64 (by omega) (by omega), by omega⟩
  obtain ⟨m, hm, hm3⟩ := hn
  have hd : ∃ d, f_spec_DeskNew m = some d ∧ (d.Starts.length : Int) = m ∧ deskOk d = true := by
    rcases hm3 with rfl | rfl | rfl
    · exact ⟨_, n1, rfl, by decide⟩
    · exact ⟨_, n2, rfl, by decide⟩
    · exact ⟨_, n3, rfl, by decide⟩
  obtain ⟨d, hd1, hd2, hd3⟩ := hd
  obtain ⟨d', l', c', q1, q2, q3, q4, q5⟩ := draw_runs d k bigN c2 d [] (by rw [bigN_val]; omega) (by omega) b1 hd3 rfl (by simp; omega)
  simp only [e, e1, e2, hm, hd1, q1, Option.bind_some]
  obtain ⟨d2, w1, w2, _, _⟩ := DeskNew_same m
  rw [hd1] at w1
  injection w1 with w1
  subst w1
  refine ⟨_, _, d, d', rfl, ?_, ?_, hd3, q3, q5⟩
  · rw [q2, hd2]; exact hd1
  · rw [q2, hd2]; exact w2
end Go.Vi
