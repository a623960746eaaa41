/-
  Plain laws: entries, written and read (picked out of the laws of the second round). No condition.
-/
import Derived.Test.YtldjoojbhbbhdaaDoorJWb
namespace Go.Vi
open Go.Lib
set_option linter.unusedSimpArgs false
set_option linter.unusedVariables false

theorem within_eq (n lo hi : Int) : f_impl_within n lo hi = some (decide (lo ≤ n) && decide (n ≤ hi)) := by
  unfold f_impl_within
  by_cases h : lo ≤ n <;> simp [h]
theorem isMinute_eq (n : Int) : f_impl_isMinute n = some (decide (0 ≤ n) && decide (n ≤ 2880)) := by simp [f_impl_isMinute, within_eq]
theorem wrap_in (n : Int) : i64 (IntKind.i64.wrap n) := by
  unfold i64
  rw [IntKind.wrap_i64]
  omega
theorem sum_loop (s : List UInt8) (hs : s.length ≤ maxLen) : ∀ (k i n : Nat) (h : Int), i + k = s.length → k < n → i64 h → ∃ r, f_spec_SumOfText_1 s n h (i : Int) = some r ∧ f_impl_SumOfText_1 s n h (i : Int) = some r ∧ i64 r := by
  intro k
  induction k with
  | zero =>
    intro i n h hi hn hh
    obtain ⟨m, rfl⟩ : ∃ m, n = m + 1 := ⟨n - 1, by omega⟩
    have : i = s.length := by omega
    subst this
    exact ⟨h, by simp [f_spec_SumOfText_1], by simp [f_impl_SumOfText_1], hh⟩
  | succ k ih =>
    intro i n h hi hn hh
    obtain ⟨m, rfl⟩ : ∃ m, n = m + 1 := ⟨n - 1, by omega⟩
    have hlt : i < s.length := by omega
    rw [f_spec_SumOfText_1, f_impl_SumOfText_1]
    simp only [dec_nn, hlt, decide_true, if_true, ix_at hlt, Option.bind_some, wrapS hlt hs]
    exact ih (i + 1) m _ (by omega) (by omega) (wrap_in _)
def sumT (s : List UInt8) : Int := (f_spec_SumOfText s).getD 0
theorem sum_eq {s : List UInt8} (hs : s.length ≤ maxLen) : f_spec_SumOfText s = some (sumT s) ∧ f_impl_SumOfText s = some (sumT s) ∧ i64 (sumT s) := by
  obtain ⟨r, h1, h2, h3⟩ := sum_loop s hs s.length 0 bigN 7 (by omega) (lt_bigN hs) ⟨by decide, by decide⟩
  have e : f_spec_SumOfText s = some r := h1
  have e2 : sumT s = r := by rw [sumT, e]; rfl
  rw [e2]
  exact ⟨e, h2, h3⟩
def words4 : List (List UInt8) := [[97, 110, 110, 111, 117, 110, 99, 101], [99, 108, 101, 97, 114], [99, 97, 110, 99, 101, 108], [116, 105, 99, 107]]
def word4 (k : Int) : List UInt8 := (words4[(k - 1).toNat]?).getD []
def entBody (e : XEntry) : List UInt8 := word4 e.Kind ++ [32] ++ itoa e.At ++ [32] ++ itoa e.Call ++ [32] ++ itoa e.Value
def kindOk (k : Int) : Bool := decide (1 ≤ k) && decide (k ≤ 4)
def minOk (n : Int) : Bool := decide (0 ≤ n) && decide (n ≤ 2880)
def entOk (e : XEntry) : Bool := kindOk e.Kind && (minOk e.At && (minOk e.Call && minOk e.Value))
def fmtEntry (e : XEntry) : List UInt8 := if entOk e = true then entBody e ++ [32, 35] ++ itoa (sumT (entBody e)) else []
theorem word4_ix {k : Int} (h1 : 1 ≤ k) (h2 : k ≤ 4) : ix words4 (IntKind.i64.wrap (k - 1)) = some (word4 k) ∧ (word4 k).length ≤ 8 ∧ word4 k ≠ [] := by
  rw [wrap64 (by omega) (by omega)]
  have : k = 1 ∨ k = 2 ∨ k = 3 ∨ k = 4 := by omega
  rcases this with rfl | rfl | rfl | rfl <;> exact ⟨rfl, by decide, by decide⟩
theorem min_i64 {n : Int} (h : minOk n = true) : i64 n := by
  simp only [minOk, Bool.and_eq_true, decide_eq_true_eq] at h
  exact ⟨by omega, by omega⟩
theorem entBody_len {e : XEntry} (h : entOk e = true) : (entBody e).length ≤ 100 := by
  simp only [entOk, Bool.and_eq_true] at h
  obtain ⟨h1, h2, h3, h4⟩ := h
  simp only [kindOk, Bool.and_eq_true, decide_eq_true_eq] at h1
  have a := (word4_ix h1.1 h1.2).2.1
  have b := itoa_len (min_i64 h2); have c := itoa_len (min_i64 h3); have d := itoa_len (min_i64 h4)
  simp only [entBody, List.length_append, List.length_cons, List.length_nil]
  omega
theorem small_max {n : Nat} (h : n ≤ 1000) : n ≤ maxLen := by rw [maxLen_val]; omega
theorem fmtEntry_len (e : XEntry) : (fmtEntry e).length ≤ 130 := by
  unfold fmtEntry
  split
  · rename_i h
    have := entBody_len h
    have := itoa_len (sum_eq (s := entBody e) (small_max (by omega))).2.2
    simp only [List.length_append, List.length_cons, List.length_nil]
    omega
  · simp
theorem spec_FormatEntry_eq (e : XEntry) : f_spec_FormatEntry e = some (fmtEntry e) := by
  unfold f_spec_FormatEntry fmtEntry entOk kindOk
  simp only [l01In_eq, Option.bind_some]
  by_cases hk : (decide (1 ≤ e.Kind) && decide (e.Kind ≤ 4)) = true
  rotate_left
  · simp only [hk, Bool.false_eq_true, if_false, Bool.false_and]
  by_cases h2 : minOk e.At = true
  rotate_left
  · have h2' := h2; unfold minOk at h2'
    simp only [hk, if_true, h2, h2', Bool.false_eq_true, if_false, Bool.false_and, Bool.and_false]
  by_cases h3 : minOk e.Call = true
  rotate_left
  · have h2' := h2; have h3' := h3; unfold minOk at h2' h3'
    simp only [hk, if_true, h2', h3, h3', Bool.false_eq_true, if_false, Bool.false_and, Bool.and_false]
  by_cases h4 : minOk e.Value = true
  rotate_left
  · have h2' := h2; have h3' := h3; have h4' := h4; unfold minOk at h2' h3' h4'
    simp only [hk, if_true, h2', h3', h4, h4', Bool.false_eq_true, if_false, Bool.false_and, Bool.and_false]
  have ok : entOk e = true := by simp only [entOk, kindOk, hk, h2, h3, h4, Bool.and_self]
  have hb := entBody_len ok
  have h2' := h2; have h3' := h3; have h4' := h4; unfold minOk at h2' h3' h4'
  simp only [hk, if_true, h2', h3', h4', h2, h3, h4, Bool.and_self]
  simp only [Bool.and_eq_true, decide_eq_true_eq] at hk
  obtain ⟨w1, w2, w3⟩ := word4_ix hk.1 hk.2
  have b := itoa_len (min_i64 h2); have c := itoa_len (min_i64 h3); have d := itoa_len (min_i64 h4)
  obtain ⟨s1, s2, s3⟩ := sum_eq (s := entBody e) (small_max (by omega))
  have s4 := itoa_len s3
  rw [show ix ([([97, 110, 110, 111, 117, 110, 99, 101] : List UInt8), ([99, 108, 101, 97, 114] : List UInt8), ([99, 97, 110, 99, 101, 108] : List UInt8), ([116, 105, 99, 107] : List UInt8)] : List (List UInt8)) (IntKind.i64.wrap (e.Kind - 1)) = some (word4 e.Kind) from w1]
  simp only [Option.bind_some, fmt_eq (min_i64 h2), fmt_eq (min_i64 h3), fmt_eq (min_i64 h4)]
  rw [show ((((((word4 e.Kind ++ [32]) ++ itoa e.At) ++ [32]) ++ itoa e.Call) ++ [32]) ++ itoa e.Value) = entBody e from rfl, s1]
  simp only [Option.bind_some, fmt_eq s3]
  rw [ifc (by simp; omega), ifc (by simp; omega), ifc (by simp; omega), ifc (by simp; omega), ifc (by simp; omega), ifc (by simp; omega), ifc (by simp; omega), ifc (by simp; omega)]
theorem impl_entryName_eq (k : Int) : f_impl_entryName k = some (if kindOk k = true then word4 k else []) := by
  unfold f_impl_entryName
  rw [within_eq]
  simp only [Option.bind_some]
  by_cases hk : kindOk k = true
  · have hk' := hk
    unfold kindOk at hk'
    simp only [hk, hk', if_true]
    simp only [Bool.and_eq_true, decide_eq_true_eq] at hk'
    rw [show ix ([([97, 110, 110, 111, 117, 110, 99, 101] : List UInt8), ([99, 108, 101, 97, 114] : List UInt8), ([99, 97, 110, 99, 101, 108] : List UInt8), ([116, 105, 99, 107] : List UInt8)] : List (List UInt8)) (IntKind.i64.wrap (k - 1)) = some (word4 k) from (word4_ix hk'.1 hk'.2).1]
    rfl
  · have hk' := hk
    unfold kindOk at hk'
    simp only [hk, hk', Bool.false_eq_true, if_false]
theorem join4 (a b c d sep : List UInt8) : join [a, b, c, d] sep = a ++ sep ++ b ++ sep ++ c ++ sep ++ d := by
  rw [join_cons]; simp [joinTail]
theorem impl_FormatEntry_eq (e : XEntry) : f_impl_FormatEntry e = some (fmtEntry e) := by
  unfold f_impl_FormatEntry fmtEntry entOk
  rw [impl_entryName_eq]
  simp only [Option.bind_some, isMinute_eq]
  by_cases hk : kindOk e.Kind = true
  rotate_left
  · simp only [hk, Bool.false_eq_true, if_false, Bool.false_and, beq_self_eq_true, if_true]
  have hk' := hk
  simp only [kindOk, Bool.and_eq_true, decide_eq_true_eq] at hk'
  obtain ⟨w1, w2, w3⟩ := word4_ix hk'.1 hk'.2
  have w4 : (word4 e.Kind == []) = false := by simpa using w3
  simp only [hk, if_true, w4, Bool.false_eq_true, if_false, Bool.true_and]
  by_cases h2 : minOk e.At = true
  rotate_left
  · have h2' := h2; unfold minOk at h2'
    simp only [h2, h2', Bool.false_eq_true, if_false, Bool.false_and, Bool.and_false]
  by_cases h3 : minOk e.Call = true
  rotate_left
  · have h2' := h2; have h3' := h3; unfold minOk at h2' h3'
    simp only [if_true, h2', h3, h3', Bool.false_eq_true, if_false, Bool.false_and, Bool.and_false]
  by_cases h4 : minOk e.Value = true
  rotate_left
  · have h2' := h2; have h3' := h3; have h4' := h4; unfold minOk at h2' h3' h4'
    simp only [if_true, h2', h3', h4, h4', Bool.false_eq_true, if_false, Bool.false_and, Bool.and_false]
  have ok : entOk e = true := by simp only [entOk, hk, h2, h3, h4, Bool.and_self]
  have hb := entBody_len ok
  have h2' := h2; have h3' := h3; have h4' := h4; unfold minOk at h2' h3' h4'
  have b := itoa_len (min_i64 h2); have c := itoa_len (min_i64 h3); have d := itoa_len (min_i64 h4)
  obtain ⟨s1, s2, s3⟩ := sum_eq (s := entBody e) (small_max (by omega))
  have s4 := itoa_len s3
  simp only [if_true, h2', h3', h4', h2, h3, h4, Bool.and_self, impl_fmt_eq (min_i64 h2), impl_fmt_eq (min_i64 h3), impl_fmt_eq (min_i64 h4), Option.bind_some]
  rw [impl_join_eq (by simp) (by rw [join4]; simp; omega), join4, show word4 e.Kind ++ [32] ++ itoa e.At ++ [32] ++ itoa e.Call ++ [32] ++ itoa e.Value = entBody e from rfl]
  simp only [Option.bind_some, s2, impl_fmt_eq s3]
  rw [ifc (by simp; omega), ifc (by simp; omega)]
theorem eqEntry_eq (x y : XEntry) : f_laws_eqEntry x y = some (decide (x = y)) := by
  unfold f_laws_eqEntry
  cases x; cases y
  simp only [XEntry.mk.injEq]
  repeat' split
  all_goals simp_all
theorem eqEntryS_eq {xs ys : List XEntry} (h : xs.length ≤ maxLen) : f_laws_eqEntryS xs ys = some (decide (xs = ys)) := by
  unfold f_laws_eqEntryS
  by_cases hl : xs.length = ys.length
  · have := eq_loop (L := f_laws_eqEntryS_1 xs ys) xs ys h hl (fun n i h1 h2 => by simp [f_laws_eqEntryS_1, ix_nn, h1, h2, eqEntry_eq]) (fun n => by simp [f_laws_eqEntryS_1])
    simp [hl, this]
  · have : ¬ (xs.length : Int) = ys.length := by omega
    have : xs ≠ ys := fun e => hl (by rw [e])
    simp_all
theorem len5 {α : Type} {l : List α} (h : l.length = 5) : ∃ a b c d e, l = [a, b, c, d, e] := by
  match l, h with
  | [a, b, c, d, e], _ => exact ⟨a, b, c, d, e, rfl⟩
def kindOf (w : List UInt8) : Int := if w = [116, 105, 99, 107] then 4 else if w = [99, 97, 110, 99, 101, 108] then 3 else if w = [99, 108, 101, 97, 114] then 2 else if w = [97, 110, 110, 111, 117, 110, 99, 101] then 1 else 0
def entOf (w : List (List UInt8)) (k : Int) : XEntry := ⟨k, numOf (w.getD 1 []), numOf (w.getD 2 []), numOf (w.getD 3 [])⟩
def nilEnt : XEntry := ⟨0, 0, 0, 0⟩
def readEntry (s : List UInt8) : XEntry × Bool :=
  if (split 32 s).length = 5 ∧ numOk ((split 32 s).getD 1 []) = true ∧ numOk ((split 32 s).getD 2 []) = true ∧ numOk ((split 32 s).getD 3 []) = true ∧ kindOf ((split 32 s).getD 0 []) ≠ 0 ∧ fmtEntry (entOf (split 32 s) (kindOf ((split 32 s).getD 0 []))) = s then (entOf (split 32 s) (kindOf ((split 32 s).getD 0 [])), true) else (nilEnt, false)
theorem part_len {s : List UInt8} (hl : s.length ≤ 1048576) : ∀ x ∈ split 32 s, x.length ≤ 1048576 := fun x hx => by
  have := spl_mem 32 s [] x hx
  simp at this
  omega
theorem spec_ParseEntry_eq {s : List UInt8} (hl : s.length ≤ 1048576) : f_spec_ParseEntry s = some (readEntry s) := by
  unfold f_spec_ParseEntry readEntry
  rw [spec_SplitAny_eq hl]
  simp only [Option.bind_some]
  have hp := part_len hl
  generalize split 32 s = w at hp
  by_cases h5 : w.length = 5
  rotate_left
  · have : (((w.length : Int) != 5) = true) := by simp; omega
    rw [if_pos this, if_neg (fun h => h5 h.1)]
    rfl
  have : ¬ (((w.length : Int) != 5) = true) := by simp; omega
  rw [if_neg this]
  obtain ⟨w0, w1, w2, w3, w4, rfl⟩ := len5 h5
  have l1 := hp w1 (by simp); have l2 := hp w2 (by simp); have l3 := hp w3 (by simp)
  obtain ⟨m, hm⟩ : ∃ m, bigN = m + 5 := ⟨bigN - 5, by rw [bigN_val]⟩
  rw [hm]
  -- the loop over the four words
  have loop : ∀ (k : Int), f_spec_ParseEntry_1 s [w0, w1, w2, w3, w4] (4 : Int) words4 (m + 1) 4 k = some (if numOk w1 = true ∧ numOk w2 = true ∧ numOk w3 = true ∧ k ≠ 0 ∧ fmtEntry ⟨k, numOf w1, numOf w2, numOf w3⟩ = s then (⟨k, numOf w1, numOf w2, numOf w3⟩, true) else (nilEnt, false)) := by
    intro k
    rw [f_spec_ParseEntry_1]
    simp only [show decide ((4 : Int) < 4) = false from rfl, Bool.false_eq_true, if_false, show ix [w0, w1, w2, w3, w4] 1 = some w1 from rfl, show ix [w0, w1, w2, w3, w4] 2 = some w2 from rfl, show ix [w0, w1, w2, w3, w4] 3 = some w3 from rfl,
      Option.bind_some, spec_ParseInt_eq l1, spec_ParseInt_eq l2, spec_ParseInt_eq l3, spec_FormatEntry_eq, f_spec_ParseEntry_2, numOk, numOf]
    by_cases a1 : (parseN w1).2 = true <;> by_cases a2 : (parseN w2).2 = true <;> by_cases a3 : (parseN w3).2 = true <;> simp [a1, a2, a3, nilEnt]
    by_cases hk : k = 0
    · simp [hk]
    · simp only [hk, if_false, not_false_iff, true_and]
      by_cases hf : fmtEntry ⟨k, (parseN w1).1, (parseN w2).1, (parseN w3).1⟩ = s <;> simp [hf]
  have step : ∀ (n : Nat) (i : Int) (k : Int) (x : List UInt8), i < 4 → ix words4 i = some x → f_spec_ParseEntry_1 s [w0, w1, w2, w3, w4] (4 : Int) words4 (n + 1) i k = f_spec_ParseEntry_1 s [w0, w1, w2, w3, w4] (4 : Int) words4 n (IntKind.i64.wrap (i + 1)) (if w0 = x then IntKind.i64.wrap (i + 1) else k) := by
    intro n i k x hi hx
    rw [f_spec_ParseEntry_1]
    simp only [hi, decide_true, if_true, hx, Option.bind_some, show ix [w0, w1, w2, w3, w4] 0 = some w0 from rfl, beq_iff_eq]
    split <;> rfl
  have e4 : f_spec_ParseEntry_1 s [w0, w1, w2, w3, w4] (4 : Int) words4 (m + 5) 0 0 = f_spec_ParseEntry_1 s [w0, w1, w2, w3, w4] (4 : Int) words4 (m + 1) 4 (kindOf w0) := by
    rw [step (m + 4) 0 _ [97, 110, 110, 111, 117, 110, 99, 101] (by omega) rfl, show IntKind.i64.wrap ((0 : Int) + 1) = 1 from rfl, step (m + 3) 1 _ [99, 108, 101, 97, 114] (by omega) rfl, show IntKind.i64.wrap ((1 : Int) + 1) = 2 from rfl,
      step (m + 2) 2 _ [99, 97, 110, 99, 101, 108] (by omega) rfl, show IntKind.i64.wrap ((2 : Int) + 1) = 3 from rfl, step (m + 1) 3 _ [116, 105, 99, 107] (by omega) rfl, show IntKind.i64.wrap ((3 : Int) + 1) = 4 from rfl]
    rfl
  refine (show _ = f_spec_ParseEntry_1 s [w0, w1, w2, w3, w4] (4 : Int) words4 (m + 5) 0 0 from rfl).trans ?_
  rw [e4, loop]
  simp only [List.length_cons, List.length_nil, List.getD_cons_zero, List.getD_cons_succ, entOf, true_and]
theorem kind_cases {k : Int} (h : kindOk k = true) : kindOf (word4 k) = k ∧ ∀ b ∈ word4 k, b ≠ 32 := by
  simp only [kindOk, Bool.and_eq_true, decide_eq_true_eq] at h
  have : k = 1 ∨ k = 2 ∨ k = 3 ∨ k = 4 := by omega
  rcases this with rfl | rfl | rfl | rfl <;> exact ⟨by decide, by decide⟩
theorem fmt_kind {e : XEntry} {s : List UInt8} (h : fmtEntry e = s) (hs : (split 32 s).length = 5) : kindOf ((split 32 s).getD 0 []) = e.Kind ∧ kindOk e.Kind = true := by
  unfold fmtEntry at h
  by_cases ok : entOk e = true
  · rw [if_pos ok] at h
    have hk : kindOk e.Kind = true := by simp only [entOk, Bool.and_eq_true] at ok; exact ok.1
    obtain ⟨k1, k2⟩ := kind_cases hk
    have : split 32 s = word4 e.Kind :: spl 32 [] (itoa e.At ++ [32] ++ itoa e.Call ++ [32] ++ itoa e.Value ++ [32, 35] ++ itoa (sumT (entBody e))) := by
      rw [← h, split, entBody]
      have := spl_word 32 (word4 e.Kind) [] (itoa e.At ++ [32] ++ itoa e.Call ++ [32] ++ itoa e.Value ++ [32, 35] ++ itoa (sumT (entBody e))) k2
      simp only [entBody, List.append_assoc, List.cons_append, List.nil_append] at this ⊢
      exact this
    rw [this]
    exact ⟨k1, hk⟩
  · rw [if_neg ok] at h
    subst h
    simp [split, spl] at hs
theorem impl_ParseEntry_eq {s : List UInt8} (hl : s.length ≤ 1048576) : f_impl_ParseEntry s = some (readEntry s) := by
  unfold f_impl_ParseEntry readEntry
  rw [impl_SplitAny_eq hl]
  simp only [Option.bind_some]
  have hp := part_len hl
  have hfk : ∀ e, fmtEntry e = s → (split 32 s).length = 5 → kindOf ((split 32 s).getD 0 []) = e.Kind ∧ kindOk e.Kind = true := fun e => fmt_kind
  generalize split 32 s = w at hp hfk
  by_cases h5 : w.length = 5
  rotate_left
  · have : (((w.length : Int) != 5) = true) := by simp; omega
    rw [if_pos this, if_neg (fun h => h5 h.1)]
    rfl
  have : ¬ (((w.length : Int) != 5) = true) := by simp; omega
  rw [if_neg this]
  obtain ⟨w0, w1, w2, w3, w4, rfl⟩ := len5 h5
  rw [show bnd ((([w0, w1, w2, w3, w4] : List (List UInt8)).length : Nat) : Int) 4 1 ([w0, w1, w2, w3, w4] : List (List UInt8)).length = some (1, 4) from rfl]
  simp only [Option.bind_some]
  rw [show (([w0, w1, w2, w3, w4] : List (List UInt8)).drop 1).take (4 - 1) = [w1, w2, w3] from rfl, impl_parseNumbers_eq (by simp) (fun x hx => hp x (by simp at hx ⊢; rcases hx with h | h | h <;> simp [h]))]
  simp only [Option.bind_some, List.all_cons, List.all_nil, Bool.and_true, List.map_cons, List.map_nil]
  by_cases hn : (numOk w1 && (numOk w2 && numOk w3)) = true
  rotate_left
  · rw [if_neg hn]
    simp only [Bool.false_eq_true, if_false, List.getD_cons_succ, List.getD_cons_zero]
    rw [if_neg]
    · rfl
    · rintro ⟨_, a, b, c, _⟩
      exact hn (by simp [a, b, c])
  rw [if_pos hn]
  simp only [if_true]
  obtain ⟨m, hm⟩ : ∃ m, bigN = m + 5 := ⟨bigN - 5, by rw [bigN_val]⟩
  rw [hm]
  have step : ∀ (n : Nat) (k : Int), k ≤ 4 → f_impl_ParseEntry_1 s ([numOf w1, numOf w2, numOf w3], true) (n + 1) k = if fmtEntry ⟨k, numOf w1, numOf w2, numOf w3⟩ = s then some (⟨k, numOf w1, numOf w2, numOf w3⟩, true) else f_impl_ParseEntry_1 s ([numOf w1, numOf w2, numOf w3], true) n (IntKind.i64.wrap (k + 1)) := by
    intro n k hk
    rw [f_impl_ParseEntry_1]
    simp only [hk, decide_true, if_true, show ix [numOf w1, numOf w2, numOf w3] 0 = some (numOf w1) from rfl, show ix [numOf w1, numOf w2, numOf w3] 1 = some (numOf w2) from rfl, show ix [numOf w1, numOf w2, numOf w3] 2 = some (numOf w3) from rfl, Option.bind_some, impl_FormatEntry_eq, beq_iff_eq]
  have last : f_impl_ParseEntry_1 s ([numOf w1, numOf w2, numOf w3], true) (m + 1) 5 = some (nilEnt, false) := by
    rw [f_impl_ParseEntry_1]
    rfl
  rw [step (m + 4) 1 (by omega), show IntKind.i64.wrap ((1 : Int) + 1) = 2 from rfl, step (m + 3) 2 (by omega), show IntKind.i64.wrap ((2 : Int) + 1) = 3 from rfl, step (m + 2) 3 (by omega), show IntKind.i64.wrap ((3 : Int) + 1) = 4 from rfl,
    step (m + 1) 4 (by omega), show IntKind.i64.wrap ((4 : Int) + 1) = 5 from rfl, last]
  have hkd : ∀ k, fmtEntry ⟨k, numOf w1, numOf w2, numOf w3⟩ = s → kindOf w0 = k ∧ kindOk k = true := fun k h => hfk _ h rfl
  simp only [Bool.and_eq_true] at hn
  simp only [List.length_cons, List.length_nil, List.getD_cons_zero, List.getD_cons_succ, entOf, true_and, hn.1, hn.2.1, hn.2.2]
  by_cases f : fmtEntry ⟨kindOf w0, numOf w1, numOf w2, numOf w3⟩ = s
  · obtain ⟨_, hk⟩ := hkd _ f
    have hne : kindOf w0 ≠ 0 := fun e => by rw [e] at hk; cases hk
    rw [if_pos (show kindOf w0 ≠ 0 ∧ fmtEntry ⟨kindOf w0, numOf w1, numOf w2, numOf w3⟩ = s from ⟨hne, f⟩)]
    simp only [kindOk, Bool.and_eq_true, decide_eq_true_eq] at hk
    have hno : ∀ k, k ≠ kindOf w0 → ¬ fmtEntry ⟨k, numOf w1, numOf w2, numOf w3⟩ = s := fun k h e => h (hkd k e).1.symm
    have : kindOf w0 = 1 ∨ kindOf w0 = 2 ∨ kindOf w0 = 3 ∨ kindOf w0 = 4 := by omega
    rcases this with e | e | e | e <;> rw [e] at f hno ⊢
    · rw [if_pos f]
    · rw [if_neg (hno 1 (by omega)), if_pos f]
    · rw [if_neg (hno 1 (by omega)), if_neg (hno 2 (by omega)), if_pos f]
    · rw [if_neg (hno 1 (by omega)), if_neg (hno 2 (by omega)), if_neg (hno 3 (by omega)), if_pos f]
  · have hno : ∀ k, ¬ fmtEntry ⟨k, numOf w1, numOf w2, numOf w3⟩ = s := fun k e => f ((hkd k e).1.symm ▸ e)
    rw [if_neg (show ¬ (kindOf w0 ≠ 0 ∧ fmtEntry ⟨kindOf w0, numOf w1, numOf w2, numOf w3⟩ = s) from fun h => f h.2), if_neg (hno 1), if_neg (hno 2), if_neg (hno 3), if_neg (hno 4)]
end Go.Vi
