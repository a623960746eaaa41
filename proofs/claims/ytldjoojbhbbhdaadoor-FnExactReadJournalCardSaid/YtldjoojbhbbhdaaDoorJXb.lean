/-
  Plain law: ReadJournal. No condition.
-/
import Derived.Test.YtldjoojbhbbhdaaDoorJXa
import Derived.Test.YtldjoojbhbbhdaaDoorJMa
namespace Go.Vi
set_option linter.unusedSimpArgs false
set_option linter.unusedVariables false

/-- The entries up to the first line that is none. -/
def goodPre : List (List UInt8) → List XEntry
  | [] => []
  | l :: r => if (readEntry l).2 = true then (readEntry l).1 :: goodPre r else []
theorem goodPre_take : ∀ (n : Nat) (l : List (List UInt8)), goodPre (l.take n) = (goodPre l).take n
  | 0, l => by simp [goodPre]
  | n + 1, [] => by simp [goodPre]
  | n + 1, x :: l => by
    simp only [List.take_succ_cons, goodPre]
    split
    · rw [goodPre_take n l]; simp
    · simp
theorem lines_sub {s x : List UInt8} (h : x ∈ lines s) : x ∈ split 10 s := by
  unfold lines at h
  split at h
  · exact List.mem_of_mem_take h
  · exact h
theorem lines_le {s : List UInt8} (hl : s.length ≤ 1048576) : (lines s).length ≤ 1100000 ∧ ∀ x ∈ lines s, x.length ≤ 1048576 := by
  obtain ⟨h1, h2⟩ := piece_len (c := 10) hl
  refine ⟨?_, fun x hx => h2 x (lines_sub hx)⟩
  unfold lines
  split
  · rw [List.length_take]; omega
  · exact h1
theorem spec_ReadJournal_eq {s : List UInt8} (hl : s.length ≤ 1048576) : f_spec_ReadJournal s = some ((goodPre (lines s)).take 60, (((goodPre (lines s)).take 60).length : Int)) := by
  unfold f_spec_ReadJournal
  rw [spec_SplitLines_eq hl]
  simp only [Option.bind_some]
  obtain ⟨hn, hx⟩ := lines_le hl
  generalize lines s = q at hn hx
  have key : ∀ (k i n : Nat) (acc : List XEntry), i + k = q.length → k < n → acc.length = i → i ≤ 60 → f_spec_ReadJournal_1 q n (i : Int) acc = some (acc ++ (goodPre (q.drop i)).take (60 - i), ((acc ++ (goodPre (q.drop i)).take (60 - i)).length : Int)) := by
    intro k
    induction k with
    | zero =>
      intro i n acc hi hn ha h60
      obtain ⟨m, rfl⟩ : ∃ m, n = m + 1 := ⟨n - 1, by omega⟩
      have : i = q.length := by omega
      subst this
      simp [f_spec_ReadJournal_1, f_spec_ReadJournal_2, goodPre]
    | succ k ih =>
      intro i n acc hi hn2 ha h60
      obtain ⟨m, rfl⟩ : ∃ m, n = m + 1 := ⟨n - 1, by omega⟩
      have hlt : i < q.length := by omega
      simp only [f_spec_ReadJournal_1, dec_nn, hlt, decide_true, if_true, ix_at hlt, Option.bind_some, spec_ParseEntry_eq (hx _ (List.getElem_mem hlt))]
      rw [List.drop_eq_getElem_cons hlt, goodPre]
      by_cases hg : (readEntry q[i]).2 = true
      · simp only [hg, if_true]
        by_cases h6 : i = 60
        · subst h6
          simp [ha, f_spec_ReadJournal_2]
        · have h6' : ¬ (((acc.length : Int) == 60) = true) := by simp; omega
          rw [if_neg h6', ifa (by simp; omega) (by omega), wrapS hlt (le_big hn), ih (i + 1) m _ (by omega) (by omega) (by simp [ha]) (by omega)]
          rw [show 60 - i = (60 - (i + 1)) + 1 by omega, List.take_succ_cons]
          simp
      · simp [hg, f_spec_ReadJournal_2]
  have := key q.length 0 bigN [] (by omega) (lt_bigN (le_big hn)) rfl (by omega)
  simpa using this
theorem readEntries_eq {q : List (List UInt8)} (hn : q.length ≤ 60) (hx : ∀ x ∈ q, x.length ≤ 1048576) : ∃ o, f_impl_readEntries q = some (goodPre q, o) ∧ (o = none ∨ o = some ((goodPre q).length : Int)) := by
  unfold f_impl_readEntries
  have key : ∀ (k i n : Nat) (acc : List XEntry), i + k = q.length → k < n → acc.length = i → ∃ o, f_impl_readEntries_1 q n (i : Int) acc = some (acc ++ goodPre (q.drop i), o) ∧ (o = none ∨ o = some ((acc ++ goodPre (q.drop i)).length : Int)) := by
    intro k
    induction k with
    | zero =>
      intro i n acc hi hn ha
      obtain ⟨m, rfl⟩ : ∃ m, n = m + 1 := ⟨n - 1, by omega⟩
      have : i = q.length := by omega
      subst this
      exact ⟨none, by simp [f_impl_readEntries_1, goodPre], .inl rfl⟩
    | succ k ih =>
      intro i n acc hi hn2 ha
      obtain ⟨m, rfl⟩ : ∃ m, n = m + 1 := ⟨n - 1, by omega⟩
      have hlt : i < q.length := by omega
      simp only [f_impl_readEntries_1, dec_nn, hlt, decide_true, if_true, ix_at hlt, Option.bind_some, impl_ParseEntry_eq (hx _ (List.getElem_mem hlt))]
      rw [List.drop_eq_getElem_cons hlt, goodPre]
      by_cases hg : (readEntry q[i]).2 = true
      · simp only [hg, if_true]
        rw [ifa (by simp; omega) (by omega), wrapS hlt (le_big (by omega))]
        obtain ⟨o, h1, h2⟩ := ih (i + 1) m (acc ++ [(readEntry q[i]).1]) (by omega) (by omega) (by simp [ha])
        refine ⟨o, ?_, ?_⟩
        · rw [← show acc ++ [(readEntry q[i]).1] ++ goodPre (q.drop (i + 1)) = acc ++ (readEntry q[i]).1 :: goodPre (q.drop (i + 1)) by simp]
          exact h1
        · rcases h2 with h2 | h2
          · exact .inl h2
          · exact .inr (by rw [h2]; simp)
      · exact ⟨some (i : Int), by simp [hg], .inr (by simp [hg, ha])⟩
  obtain ⟨o, h1, h2⟩ := key q.length 0 bigN [] (by omega) (lt_bigN (le_big (by omega))) rfl
  exact ⟨o, by simpa using h1, by simpa using h2⟩
theorem impl_ReadJournal_eq {s : List UInt8} (hl : s.length ≤ 1048576) : f_impl_ReadJournal s = some ((goodPre (lines s)).take 60, (((goodPre (lines s)).take 60).length : Int)) := by
  unfold f_impl_ReadJournal
  rw [impl_SplitLines_eq hl]
  simp only [Option.bind_some]
  obtain ⟨hn, hx⟩ := lines_le hl
  generalize lines s = q at hn hx
  have hm : (if (60 : Int) < (q.length : Int) then (60 : Int) else (q.length : Int)) = ((min 60 q.length : Nat) : Int) := by
    split <;> omega
  rw [hm, show (0 : Int) = ((0 : Nat) : Int) from rfl, bnd_ok (Nat.zero_le _) (Nat.min_le_right _ _)]
  simp only [Option.bind_some, List.drop_zero, Nat.sub_zero]
  have ht : q.take (min 60 q.length) = q.take 60 := by
    rcases Nat.le_total 60 q.length with h | h
    · rw [Nat.min_eq_left h]
    · rw [Nat.min_eq_right h, List.take_of_length_le (Nat.le_refl _), List.take_of_length_le h]
  rw [ht]
  obtain ⟨o, h1, h2⟩ := readEntries_eq (q := q.take 60) (by rw [List.length_take]; omega) (fun x h => hx x (List.mem_of_mem_take h))
  rw [h1, goodPre_take] at *
  simp only [Option.bind_some]
  rcases h2 with rfl | rfl
  · rfl
  · simp [goodPre_take]
theorem markEntryS_of (xs : List XEntry) (k : Int) (h0 : 0 ≤ k) (hk : k ≤ 10000000000) (hl : xs.length ≤ 1048576) : ∃ ys, f_laws_markEntryS xs k = some (k + 4 * (xs.length : Int), ys) ∧ ys.length = xs.length ∧ f_laws_heldEntryS ys k = some (k + 4 * (xs.length : Int)) := by
  unfold f_laws_markEntryS f_laws_heldEntryS
  refine mark_loop (Lm := f_laws_markEntryS_1) (Lh := f_laws_heldEntryS_1) xs 4 (fun k => ⟨k, k + 1, k + 1 + 1, k + 1 + 1 + 1⟩) k h0 (by omega) hl hk (fun n i k acc hi ha k0 k1 => ?_) (fun n k acc => by simp [f_laws_markEntryS_1]) (fun n i k ys hi hy k0 k1 he => ?_) (fun n k ys => by simp [f_laws_heldEntryS_1])
  · have w1 := wrapk k0 (show k ≤ 1000000000000 by omega)
    have w2 := wrapk (k := k + 1) (by omega) (by omega)
    have w3 := wrapk (k := k + 1 + 1) (by omega) (by omega)
    have w4 := wrapk (k := k + 1 + 1 + 1) (by omega) (by omega)
    simp only [f_laws_markEntryS_1, dec_nn, hi, decide_true, if_true, ix_at hi, Option.bind_some, wrapS hi (le_max ha), w1, w2, w3, w4, Int.toNat_natCast, ix_set hi, List.set_set]
    rw [show k + 1 + 1 + 1 + 1 = k + 4 by omega]
    rfl
  · have w1 := wrapk k0 (show k ≤ 1000000000000 by omega)
    have w2 := wrapk (k := k + 1) (by omega) (by omega)
    have w3 := wrapk (k := k + 1 + 1) (by omega) (by omega)
    have w4 := wrapk (k := k + 1 + 1 + 1) (by omega) (by omega)
    simp only [f_laws_heldEntryS_1, dec_nn, hi, decide_true, if_true, ix_at hi, Option.bind_some, wrapS hi (le_max hy), w1, w2, w3, w4, he, bne_self_eq_false, Bool.false_eq_true, if_false]
    rw [show k + 1 + 1 + 1 + 1 = k + 4 by omega]
    rfl
theorem law_FnExactReadJournal (s : List UInt8) (ok : DsOk [.sc (.str s)]) : f_laws_FnExactReadJournal s = some true := by
  unfold f_laws_FnExactReadJournal
  by_cases h : (1048576 : Int) < (s.length : Int)
  · simp [h]
  · have hl : s.length ≤ 1048576 := by omega
    have hw : ((goodPre (lines s)).take 60).length ≤ 1048576 := by rw [List.length_take]; omega
    obtain ⟨ys, m1, m2, m3⟩ := markEntryS_of ((goodPre (lines s)).take 60) 1 (by omega) (by omega) hw
    have hq : ¬ (1 + 4 * (((goodPre (lines s)).take 60).length : Int)) < 0 := by omega
    simp only [h, decide_false, Bool.false_eq_true, if_false, spec_ReadJournal_eq hl, impl_ReadJournal_eq hl, Option.bind_some, eqEntryS_eq (le_max hw), decide_true, if_true, bne_self_eq_false, m1, m3, hq]
end Go.Vi
