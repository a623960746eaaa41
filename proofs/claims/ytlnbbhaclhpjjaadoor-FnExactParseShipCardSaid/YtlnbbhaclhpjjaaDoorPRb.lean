/-
  Plain laws: entries of a log, as texts (FormatEntry, JournalText). No condition.
-/
import Derived.Test.YtlnbbhaclhpjjaaDoorPRa
namespace Go.Vi
open Go.Lib
set_option linter.unusedSimpArgs false
set_option linter.unusedVariables false

theorem l01In_eq (n lo hi : Int) : f_spec_l01In n lo hi = some (decide (lo ≤ n) && decide (n ≤ hi)) := by
  unfold f_spec_l01In
  by_cases h : lo ≤ n <;> simp [h]
theorem within_eq (n lo hi : Int) : f_impl_within n lo hi = some (decide (lo ≤ n) && decide (n ≤ hi)) := by
  unfold f_impl_within
  by_cases h : lo ≤ n <;> simp [h]
theorem isMinute_eq (n : Int) : f_impl_isMinute n = some (decide (0 ≤ n) && decide (n ≤ 2880)) := by simp [f_impl_isMinute, within_eq]
theorem len_ok {α : Type} {row : α → List D} {xs : List α} (h : (D.sl (List.map row xs)).Ok) : xs.length ≤ maxLen := by simpa using h.sl.1
theorem wrap_in (n : Int) : i64 (IntKind.i64.wrap n) := by
  unfold i64
  rw [IntKind.wrap_i64]
  omega

/-! The sum of a text -/
theorem sum_loop (s : List UInt8) (hs : s.length ≤ maxLen) : ∀ (k i n : Nat) (h : Int), i + k = s.length → k < n → i64 h → ∃ r, f_spec_SumOfText_1 s n h (i : Int) = some r ∧ f_impl_SumOfText_1 s n h (i : Int) = some r ∧ i64 r := by
  intro k
  induction k with
  | zero =>
    intro i n h hi hn hh
    obtain ⟨m, rfl⟩ : ∃ m, n = m + 1 := ⟨n - 1, by omega⟩
    have : i = s.length := by omega
    subst this
    exact ⟨h, by simp [f_spec_SumOfText_1], by simp [f_impl_SumOfText_1], hh⟩
  | succ k ih =>
    intro i n h hi hn hh
    obtain ⟨m, rfl⟩ : ∃ m, n = m + 1 := ⟨n - 1, by omega⟩
    have hlt : i < s.length := by omega
    rw [f_spec_SumOfText_1, f_impl_SumOfText_1]
    simp only [dec_nn, hlt, decide_true, if_true, ix_at hlt, Option.bind_some, wrapS hlt hs]
    exact ih (i + 1) m _ (by omega) (by omega) (wrap_in _)
def sumT (s : List UInt8) : Int := (f_spec_SumOfText s).getD 0
theorem sum_eq {s : List UInt8} (hs : s.length ≤ maxLen) : f_spec_SumOfText s = some (sumT s) ∧ f_impl_SumOfText s = some (sumT s) ∧ i64 (sumT s) := by
  obtain ⟨r, h1, h2, h3⟩ := sum_loop s hs s.length 0 bigN 7 (by omega) (lt_bigN hs) ⟨by decide, by decide⟩
  have e : f_spec_SumOfText s = some r := h1
  have e2 : sumT s = r := by rw [sumT, e]; rfl
  rw [e2]
  exact ⟨e, h2, h3⟩

/-! Entries -/
def words4 : List (List UInt8) := [[97, 110, 110, 111, 117, 110, 99, 101], [99, 108, 101, 97, 114], [99, 97, 110, 99, 101, 108], [116, 105, 99, 107]]
def word4 (k : Int) : List UInt8 := (words4[(k - 1).toNat]?).getD []
def entBody (e : XEntry) : List UInt8 := word4 e.Kind ++ [32] ++ itoa e.At ++ [32] ++ itoa e.Call ++ [32] ++ itoa e.Value
def kindOk (k : Int) : Bool := decide (1 ≤ k) && decide (k ≤ 4)
def minOk (n : Int) : Bool := decide (0 ≤ n) && decide (n ≤ 2880)
def entOk (e : XEntry) : Bool := kindOk e.Kind && (minOk e.At && (minOk e.Call && minOk e.Value))
def fmtEntry (e : XEntry) : List UInt8 := if entOk e = true then entBody e ++ [32, 35] ++ itoa (sumT (entBody e)) else []
theorem word4_ix {k : Int} (h1 : 1 ≤ k) (h2 : k ≤ 4) : ix words4 (IntKind.i64.wrap (k - 1)) = some (word4 k) ∧ (word4 k).length ≤ 8 ∧ word4 k ≠ [] := by
  rw [wrap64 (by omega) (by omega)]
  have : k = 1 ∨ k = 2 ∨ k = 3 ∨ k = 4 := by omega
  rcases this with rfl | rfl | rfl | rfl <;> exact ⟨rfl, by decide, by decide⟩
theorem min_i64 {n : Int} (h : minOk n = true) : i64 n := by
  simp only [minOk, Bool.and_eq_true, decide_eq_true_eq] at h
  exact ⟨by omega, by omega⟩
theorem entBody_len {e : XEntry} (h : entOk e = true) : (entBody e).length ≤ 100 := by
  simp only [entOk, Bool.and_eq_true] at h
  obtain ⟨h1, h2, h3, h4⟩ := h
  simp only [kindOk, Bool.and_eq_true, decide_eq_true_eq] at h1
  have a := (word4_ix h1.1 h1.2).2.1
  have b := itoa_len (min_i64 h2); have c := itoa_len (min_i64 h3); have d := itoa_len (min_i64 h4)
  simp only [entBody, List.length_append, List.length_cons, List.length_nil]
  omega
theorem small_max {n : Nat} (h : n ≤ 1000) : n ≤ maxLen := by rw [maxLen_val]; omega
theorem fmtEntry_len (e : XEntry) : (fmtEntry e).length ≤ 130 := by
  unfold fmtEntry
  split
  · rename_i h
    have := entBody_len h
    have := itoa_len (sum_eq (s := entBody e) (small_max (by omega))).2.2
    simp only [List.length_append, List.length_cons, List.length_nil]
    omega
  · simp
theorem spec_FormatEntry_eq (e : XEntry) : f_spec_FormatEntry e = some (fmtEntry e) := by
  unfold f_spec_FormatEntry fmtEntry entOk kindOk
  simp only [l01In_eq, Option.bind_some]
  by_cases hk : (decide (1 ≤ e.Kind) && decide (e.Kind ≤ 4)) = true
  rotate_left
  · simp only [hk, Bool.false_eq_true, if_false, Bool.false_and]
  by_cases h2 : minOk e.At = true
  rotate_left
  · have h2' := h2; unfold minOk at h2'
    simp only [hk, if_true, h2, h2', Bool.false_eq_true, if_false, Bool.false_and, Bool.and_false]
  by_cases h3 : minOk e.Call = true
  rotate_left
  · have h2' := h2; have h3' := h3; unfold minOk at h2' h3'
    simp only [hk, if_true, h2', h3, h3', Bool.false_eq_true, if_false, Bool.false_and, Bool.and_false]
  by_cases h4 : minOk e.Value = true
  rotate_left
  · have h2' := h2; have h3' := h3; have h4' := h4; unfold minOk at h2' h3' h4'
    simp only [hk, if_true, h2', h3', h4, h4', Bool.false_eq_true, if_false, Bool.false_and, Bool.and_false]
  have ok : entOk e = true := by simp only [entOk, kindOk, hk, h2, h3, h4, Bool.and_self]
  have hb := entBody_len ok
  have h2' := h2; have h3' := h3; have h4' := h4; unfold minOk at h2' h3' h4'
  simp only [hk, if_true, h2', h3', h4', h2, h3, h4, Bool.and_self]
  simp only [Bool.and_eq_true, decide_eq_true_eq] at hk
  obtain ⟨w1, w2, w3⟩ := word4_ix hk.1 hk.2
  have b := itoa_len (min_i64 h2); have c := itoa_len (min_i64 h3); have d := itoa_len (min_i64 h4)
  obtain ⟨s1, s2, s3⟩ := sum_eq (s := entBody e) (small_max (by omega))
  have s4 := itoa_len s3
  rw [show ix ([([97, 110, 110, 111, 117, 110, 99, 101] : List UInt8), ([99, 108, 101, 97, 114] : List UInt8), ([99, 97, 110, 99, 101, 108] : List UInt8), ([116, 105, 99, 107] : List UInt8)] : List (List UInt8)) (IntKind.i64.wrap (e.Kind - 1)) = some (word4 e.Kind) from w1]
  simp only [Option.bind_some, fmt_eq (min_i64 h2), fmt_eq (min_i64 h3), fmt_eq (min_i64 h4)]
  rw [show ((((((word4 e.Kind ++ [32]) ++ itoa e.At) ++ [32]) ++ itoa e.Call) ++ [32]) ++ itoa e.Value) = entBody e from rfl, s1]
  simp only [Option.bind_some, fmt_eq s3]
  rw [ifc (by simp; omega), ifc (by simp; omega), ifc (by simp; omega), ifc (by simp; omega), ifc (by simp; omega), ifc (by simp; omega), ifc (by simp; omega), ifc (by simp; omega)]
theorem impl_entryName_eq (k : Int) : f_impl_entryName k = some (if kindOk k = true then word4 k else []) := by
  unfold f_impl_entryName
  rw [within_eq]
  simp only [Option.bind_some]
  by_cases hk : kindOk k = true
  · have hk' := hk
    unfold kindOk at hk'
    simp only [hk, hk', if_true]
    simp only [Bool.and_eq_true, decide_eq_true_eq] at hk'
    rw [show ix ([([97, 110, 110, 111, 117, 110, 99, 101] : List UInt8), ([99, 108, 101, 97, 114] : List UInt8), ([99, 97, 110, 99, 101, 108] : List UInt8), ([116, 105, 99, 107] : List UInt8)] : List (List UInt8)) (IntKind.i64.wrap (k - 1)) = some (word4 k) from (word4_ix hk'.1 hk'.2).1]
    rfl
  · have hk' := hk
    unfold kindOk at hk'
    simp only [hk, hk', Bool.false_eq_true, if_false]
theorem join4 (a b c d sep : List UInt8) : join [a, b, c, d] sep = a ++ sep ++ b ++ sep ++ c ++ sep ++ d := by
  rw [join_cons]; simp [joinTail]
theorem impl_FormatEntry_eq (e : XEntry) : f_impl_FormatEntry e = some (fmtEntry e) := by
  unfold f_impl_FormatEntry fmtEntry entOk
  rw [impl_entryName_eq]
  simp only [Option.bind_some, isMinute_eq]
  by_cases hk : kindOk e.Kind = true
  rotate_left
  · simp only [hk, Bool.false_eq_true, if_false, Bool.false_and, beq_self_eq_true, if_true]
  have hk' := hk
  simp only [kindOk, Bool.and_eq_true, decide_eq_true_eq] at hk'
  obtain ⟨w1, w2, w3⟩ := word4_ix hk'.1 hk'.2
  have w4 : (word4 e.Kind == []) = false := by simpa using w3
  simp only [hk, if_true, w4, Bool.false_eq_true, if_false, Bool.true_and]
  by_cases h2 : minOk e.At = true
  rotate_left
  · have h2' := h2; unfold minOk at h2'
    simp only [h2, h2', Bool.false_eq_true, if_false, Bool.false_and, Bool.and_false]
  by_cases h3 : minOk e.Call = true
  rotate_left
  · have h2' := h2; have h3' := h3; unfold minOk at h2' h3'
    simp only [if_true, h2', h3, h3', Bool.false_eq_true, if_false, Bool.false_and, Bool.and_false]
  by_cases h4 : minOk e.Value = true
  rotate_left
  · have h2' := h2; have h3' := h3; have h4' := h4; unfold minOk at h2' h3' h4'
    simp only [if_true, h2', h3', h4, h4', Bool.false_eq_true, if_false, Bool.false_and, Bool.and_false]
  have ok : entOk e = true := by simp only [entOk, hk, h2, h3, h4, Bool.and_self]
  have hb := entBody_len ok
  have h2' := h2; have h3' := h3; have h4' := h4; unfold minOk at h2' h3' h4'
  have b := itoa_len (min_i64 h2); have c := itoa_len (min_i64 h3); have d := itoa_len (min_i64 h4)
  obtain ⟨s1, s2, s3⟩ := sum_eq (s := entBody e) (small_max (by omega))
  have s4 := itoa_len s3
  simp only [if_true, h2', h3', h4', h2, h3, h4, Bool.and_self, impl_fmt_eq (min_i64 h2), impl_fmt_eq (min_i64 h3), impl_fmt_eq (min_i64 h4), Option.bind_some]
  rw [impl_join_eq (by simp) (by rw [join4]; simp; omega), join4, show word4 e.Kind ++ [32] ++ itoa e.At ++ [32] ++ itoa e.Call ++ [32] ++ itoa e.Value = entBody e from rfl]
  simp only [Option.bind_some, s2, impl_fmt_eq s3]
  rw [ifc (by simp; omega), ifc (by simp; omega)]
theorem law_FnExactFormatEntry (a : XEntry) (ok : DsOk [.ag (XEntry.row a)]) : f_laws_FnExactFormatEntry a = some true := by
  simp [f_laws_FnExactFormatEntry, f_laws_toEntry, spec_FormatEntry_eq, impl_FormatEntry_eq]
end Go.Vi
