/-
  Plain law: a log with a damaged byte (the text). No condition.
-/
import Derived.Test.YtdgobmphhncomaaDoorDEa
namespace Go.Vi
open Go.Lib
set_option linter.unusedSimpArgs false
set_option linter.unusedVariables false

/-- A byte that no entry's text holds but the sign: what a number's text holds. -/
theorem dec_mem {u : Nat} {b : UInt8} (h : b ∈ decDigits u) : isDig b = true := by
  have := digs_dec u
  simp only [digs, Bool.and_eq_true, List.all_eq_true] at this
  exact this.1 b h
theorem itoa_mem {n : Int} {b : UInt8} (h : b ∈ itoa n) : isDig b = true ∨ b = 45 := by
  by_cases h0 : 0 ≤ n
  · obtain ⟨u, rfl⟩ : ∃ u : Nat, n = (u : Int) := ⟨n.toNat, by omega⟩
    rw [itoa_nn] at h
    exact .inl (dec_mem h)
  · obtain ⟨u, hu, rfl⟩ : ∃ u : Nat, 1 ≤ u ∧ n = -(u : Int) := ⟨(-n).toNat, by omega, by omega⟩
    rw [itoa_ng hu] at h
    rcases List.mem_cons.1 h with h | h
    · exact .inr h
    · exact .inl (dec_mem h)
theorem itoa_no {n : Int} {b : UInt8} (h : b ∈ itoa n) : b ≠ 32 ∧ b ≠ 10 ∧ b ≠ 122 := by
  rcases itoa_mem h with h | h
  · simp only [isDig, decide_eq_true_eq] at h
    refine ⟨?_, ?_, ?_⟩ <;> rintro rfl <;> simp at h
  · subst h
    decide
theorem word_ne {k : Int} (h : kindOk k = true) : ∀ b ∈ word4 k, b ≠ 32 ∧ b ≠ 10 ∧ b ≠ 122 := by
  simp only [kindOk, Bool.and_eq_true, decide_eq_true_eq] at h
  have : k = 1 ∨ k = 2 ∨ k = 3 ∨ k = 4 := by omega
  rcases this with rfl | rfl | rfl | rfl <;> decide
theorem entOk_kind {e : XEntry} (h : entOk e = true) : kindOk e.Kind = true := by
  simp only [entOk, Bool.and_eq_true] at h
  exact h.1
theorem fmt_ne (e : XEntry) : ∀ b ∈ fmtEntry e, b ≠ 10 ∧ b ≠ 122 := by
  intro b hb
  unfold fmtEntry at hb
  split at hb
  · rename_i ok
    simp only [entBody, List.mem_append, List.mem_cons, List.not_mem_nil, or_false] at hb
    have hi : ∀ n : Int, b ∈ itoa n → b ≠ 10 ∧ b ≠ 122 := fun n h => (itoa_no h).2
    rcases hb with ((((((((h | h) | h) | h) | h) | h) | h) | (h | h)) | h)
    · exact (word_ne (entOk_kind ok) b h).2
    · subst h; decide
    · exact hi _ h
    · subst h; decide
    · exact hi _ h
    · subst h; decide
    · exact hi _ h
    · subst h; decide
    · subst h; decide
    · exact hi _ h
  · cases hb
theorem fmt_split {e : XEntry} (ok : entOk e = true) : split 32 (fmtEntry e) = [word4 e.Kind, itoa e.At, itoa e.Call, itoa e.Value, 35 :: itoa (sumT (entBody e))] := by
  have : fmtEntry e = join [word4 e.Kind, itoa e.At, itoa e.Call, itoa e.Value, 35 :: itoa (sumT (entBody e))] [32] := by
    unfold fmtEntry
    rw [if_pos ok]
    simp [join_cons, joinTail, entBody]
  rw [this]
  refine split_join 32 _ (by simp) fun w hw b hb => ?_
  simp only [List.mem_cons, List.not_mem_nil, or_false] at hw
  rcases hw with rfl | rfl | rfl | rfl | rfl
  · exact (word_ne (entOk_kind ok) b hb).1
  · exact (itoa_no hb).1
  · exact (itoa_no hb).1
  · exact (itoa_no hb).1
  · rcases List.mem_cons.1 hb with rfl | hb
    · decide
    · exact (itoa_no hb).1
/-- An entry's text is read as it was written. -/
theorem read_fmt {e : XEntry} (ok : entOk e = true) : readEntry (fmtEntry e) = (e, true) := by
  have ok' := ok
  simp only [entOk, Bool.and_eq_true] at ok'
  obtain ⟨h1, h2, h3, h4⟩ := ok'
  obtain ⟨k1, k2⟩ := kind_cases h1
  have n2 := parseN_itoa (min_i64 h2); have n3 := parseN_itoa (min_i64 h3); have n4 := parseN_itoa (min_i64 h4)
  have he : entOf [word4 e.Kind, itoa e.At, itoa e.Call, itoa e.Value, 35 :: itoa (sumT (entBody e))] (kindOf (word4 e.Kind)) = e := by
    simp only [entOf, List.getD_cons_succ, List.getD_cons_zero, numOf, n2, n3, n4, k1]
  have hk : kindOf (word4 e.Kind) ≠ 0 := by
    rw [k1]
    simp only [kindOk, Bool.and_eq_true, decide_eq_true_eq] at h1
    omega
  unfold readEntry
  rw [fmt_split ok]
  simp only [List.length_cons, List.length_nil, List.getD_cons_succ, List.getD_cons_zero, numOk, n2, n3, n4, he, true_and]
  rw [if_pos ⟨hk, trivial⟩]
theorem read_true {s : List UInt8} (h : (readEntry s).2 = true) : ∃ e, fmtEntry e = s := by
  unfold readEntry at h
  split at h
  · rename_i hc
    exact ⟨_, hc.2.2.2.2.2⟩
  · cases h
theorem read_bad {s : List UInt8} (h : (122 : UInt8) ∈ s) : (readEntry s).2 = false := by
  cases hr : (readEntry s).2 with
  | false => rfl
  | true =>
    obtain ⟨e, rfl⟩ := read_true hr
    exact absurd rfl (fmt_ne e 122 h).2
theorem spl_head (c : UInt8) : ∀ (s cur : List UInt8), ∃ x tl, spl c cur s = (cur ++ x) :: tl
  | [], cur => ⟨[], [], by simp [spl]⟩
  | b :: s, cur => by
    unfold spl
    split
    · exact ⟨[], spl c [] s, by simp⟩
    · obtain ⟨x, tl, h⟩ := spl_head c s (cur ++ [b])
      exact ⟨b :: x, tl, by rw [h]; simp⟩
theorem spl_pre (c : UInt8) : ∀ (u cur s : List UInt8), (∀ b ∈ u, b ≠ c) → spl c cur (u ++ s) = spl c (cur ++ u) s
  | [], cur, s, _ => by simp
  | b :: u, cur, s, h => by
    have hb : b ≠ c := h b (by simp)
    rw [List.cons_append, spl]
    rw [if_neg hb, spl_pre c u (cur ++ [b]) s fun x hx => h x (by simp [hx])]
    simp
theorem lines_head {x : List UInt8} {tl : List (List UInt8)} {s : List UInt8} (h : split 10 s = x :: tl) (hx : x ≠ []) : ∃ tl', lines s = x :: tl' := by
  unfold lines
  rw [h]
  split
  · rename_i hl
    cases tl with
    | nil => simp at hl; exact absurd hl hx
    | cons y tl => exact ⟨_, by simp [List.take_succ_cons]; rfl⟩
  · exact ⟨tl, rfl⟩
/-- A text whose first line holds the damage. -/
theorem bad_first {u s : List UInt8} (h1 : ∀ b ∈ u, b ≠ 10) (h2 : (122 : UInt8) ∈ u) : goodPre (lines (u ++ s)) = [] := by
  obtain ⟨x, tl, h⟩ := spl_head 10 s u
  have hs : split 10 (u ++ s) = (u ++ x) :: tl := by
    rw [split, spl_pre 10 u [] s h1]
    simpa using h
  obtain ⟨tl', hl⟩ := lines_head hs (by intro e; have : u = [] := by simpa using (List.append_eq_nil_iff.1 e).1
                                        subst this; cases h2)
  rw [hl, goodPre, read_bad (by simp [h2])]
  simp
theorem spl_nil_iff {c : UInt8} {s : List UInt8} (h : s ≠ []) : ∀ cur, spl c cur s ≠ [[]] := by
  intro cur e
  cases s with
  | nil => exact h rfl
  | cons b s =>
    unfold spl at e
    split at e
    · simp at e
      exact spl_ne c s [] e.2
    · obtain ⟨x, tl, h⟩ := spl_head c s (cur ++ [b])
      rw [h] at e
      simp at e
theorem lines_cons {w s : List UInt8} (hw : ∀ b ∈ w, b ≠ 10) (hs : s ≠ []) : lines (w ++ 10 :: s) = w :: lines s := by
  have h1 : split 10 (w ++ 10 :: s) = w :: split 10 s := by
    rw [split, spl_word 10 w [] s hw]
    simp [split]
  have hne : split 10 s ≠ [] := spl_ne 10 s []
  unfold lines
  rw [h1]
  obtain ⟨y, tl, hy⟩ : ∃ y tl, split 10 s = y :: tl := by
    cases hq : split 10 s with
    | nil => exact absurd hq hne
    | cons y tl => exact ⟨y, tl, rfl⟩
  rw [hy]
  have e1 : (w :: y :: tl).getD ((w :: y :: tl).length - 1) [] = (y :: tl).getD ((y :: tl).length - 1) [] := by
    simp [List.getD_cons_succ]
  rw [e1]
  split <;> simp [List.take_succ_cons]
def nls (s : List UInt8) : Nat := s.countP (· == 10)
def damaged (t : List UInt8) (at_ : Nat) : List UInt8 := (t.take at_ ++ [122]) ++ t.drop (at_ + 1)
theorem damaged_ne {t : List UInt8} {k : Nat} : damaged t k ≠ [] := by simp [damaged]
/-- The lines ahead of the damage are read, no more. -/
theorem damaged_read : ∀ (l : List XEntry) (k : Nat), (∀ e ∈ l, entOk e = true) → k < (l.map fun e => fmtEntry e ++ [10]).flatten.length → (goodPre (lines (damaged (l.map fun e => fmtEntry e ++ [10]).flatten k))).length = nls ((l.map fun e => fmtEntry e ++ [10]).flatten.take k)
  | [], k, _, h => by simp at h
  | e :: l, k, ok, h => by
    have oke := ok e (by simp)
    have hf := fmt_ne e
    have h10 : ∀ b ∈ fmtEntry e, b ≠ 10 := fun b hb => (hf b hb).1
    have hn0 : nls (fmtEntry e) = 0 := List.countP_eq_zero.2 fun b hb => by simpa using h10 b hb
    simp only [List.map_cons, List.flatten_cons, List.append_assoc, List.cons_append, List.nil_append] at h ⊢
    generalize hR : (l.map fun e => fmtEntry e ++ [10]).flatten = r at h ⊢
    by_cases h1 : k ≤ (fmtEntry e).length
    · have ht : (fmtEntry e ++ 10 :: r).take k = (fmtEntry e).take k := by rw [List.take_append_of_le_length h1]
      have e1 : damaged (fmtEntry e ++ 10 :: r) k = ((fmtEntry e).take k ++ [122]) ++ (fmtEntry e ++ 10 :: r).drop (k + 1) := by rw [damaged, ht]
      rw [e1, bad_first (fun b hb => ?_) (by simp), ht]
      · have : nls ((fmtEntry e).take k) = 0 := List.countP_eq_zero.2 fun b hb => by simpa using h10 b (List.mem_of_mem_take hb)
        rw [this]; rfl
      · rcases List.mem_append.1 hb with hb | hb
        · exact h10 b (List.mem_of_mem_take hb)
        · simp at hb; subst hb; decide
    · obtain ⟨j, rfl⟩ : ∃ j, k = (fmtEntry e).length + (j + 1) := ⟨k - (fmtEntry e).length - 1, by omega⟩
      have ht : (fmtEntry e ++ 10 :: r).take ((fmtEntry e).length + (j + 1)) = fmtEntry e ++ 10 :: r.take j := by
        rw [List.take_append, List.take_of_length_le (by omega), show (fmtEntry e).length + (j + 1) - (fmtEntry e).length = j + 1 by omega, List.take_succ_cons]
      have hd : (fmtEntry e ++ 10 :: r).drop ((fmtEntry e).length + (j + 1) + 1) = r.drop (j + 1) := by
        rw [show (fmtEntry e).length + (j + 1) + 1 = (fmtEntry e).length + (j + 2) by omega, List.drop_append, List.drop_of_length_le (by omega), show (fmtEntry e).length + (j + 2) - (fmtEntry e).length = (j + 1) + 1 by omega, List.drop_succ_cons, List.nil_append]
      have e1 : damaged (fmtEntry e ++ 10 :: r) ((fmtEntry e).length + (j + 1)) = fmtEntry e ++ 10 :: damaged r j := by
        rw [damaged, ht, hd, damaged]
        simp
      have hlt : j < r.length := by
        simp only [List.length_append, List.length_cons] at h
        omega
      have ih := damaged_read l j (fun x hx => ok x (by simp [hx])) (by rw [hR]; exact hlt)
      rw [hR] at ih
      rw [e1, lines_cons h10 damaged_ne, goodPre, read_fmt oke, ht]
      simp only [if_true, List.length_cons, ih]
      show nls (r.take j) + 1 = nls (fmtEntry e ++ 10 :: r.take j)
      have : nls (fmtEntry e ++ 10 :: r.take j) = nls (fmtEntry e) + (nls (r.take j) + 1) := by
        unfold nls
        rw [List.countP_append, List.countP_cons]
        simp
      rw [this, hn0]
      omega
end Go.Vi
