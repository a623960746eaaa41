/-
  Plain laws: numbers and texts: what the reference makes of them is what Go's library makes of them. No condition.
-/
import Derived.Test.YtldjoojbhbbhdaaGreatDoorJNf
import Derived.Test.YtldjoojbhbbhdaaGreatDoorJVi33
namespace Go.Vi
open Go.Lib
set_option linter.unusedSimpArgs false
set_option linter.unusedVariables false

theorem wrap64' {n : Int} (h : i64 n) : IntKind.i64.wrap n = n := wrap64 h.1 h.2
theorem wrap8 {n : Int} (h0 : 0 ≤ n) (h1 : n ≤ 255) : IntKind.u8.wrap n = n := by
  rw [IntKind.wrap_u8]
  omega
theorem catB_of {m n : Nat} (h : m + n ≤ 140737488355328) : catB m n = true := by
  unfold catB
  rw [decide_eq_true_eq]
  omega
theorem ifc {α : Type} {m n : Nat} (h : m + n ≤ 140737488355328) (x y : α) : (if catB m n = true then x else y) = x := by rw [if_pos (catB_of h)]
theorem dg8 {k : Nat} (h : k < 10) : ([IntKind.u8.wrap (48 + (k : Int))] : List Int).map toU8 = [UInt8.ofNat (48 + k)] := by
  rw [wrap8 (by omega) (by omega)]
  simp only [List.map_cons, List.map_nil, toU8]
  congr 2
theorem itoa_nn (u : Nat) : itoa (u : Int) = decDigits u := itoa_nonneg u

theorem fmt_loop (rec_ : Int → Option (List UInt8)) : ∀ (u n : Nat) (s : List UInt8), u < n → u ≤ 9223372036854775807 → s.length + (decDigits u).length ≤ 1000 → f_spec_FormatInt_1 rec_ n (u : Int) s = some (decDigits u ++ s) := by
  intro u
  induction u using Nat.strongRecOn with
  | _ u ih =>
    intro n s hn hu hs
    obtain ⟨m, rfl⟩ : ∃ m, n = m + 1 := ⟨n - 1, by omega⟩
    have hd1 : 1 ≤ (decDigits u).length := by have := decDigits_ne u; cases h : decDigits u <;> simp_all
    rw [f_spec_FormatInt_1]
    by_cases h : u < 10
    · have hd : ¬ ((9 : Int) < (u : Int)) := by omega
      simp only [hd, decide_false, Bool.false_eq_true, if_false]
      rw [wrap64 (by omega) (by omega), dg8 h, ifc (by simp; omega), decDigits_one h]
    · have hd : (9 : Int) < (u : Int) := by omega
      simp only [hd, decide_true, if_true]
      have e1 : Int.tmod (u : Int) 10 = ((u % 10 : Nat) : Int) := by rw [Int.tmod_eq_emod_of_nonneg (by omega)]; rfl
      have e2 : Int.tdiv (u : Int) 10 = ((u / 10 : Nat) : Int) := by rw [Int.tdiv_eq_ediv_of_nonneg (by omega)]; rfl
      rw [e1, e2, wrap64 (show -9223372036854775808 ≤ ((u % 10 : Nat) : Int) by omega) (by omega), wrap64 (by omega) (by omega), wrap64 (by omega) (by omega), dg8 (by omega), ifc (by simp; omega)]
      rw [decDigits_big h] at hs
      rw [ih (u / 10) (by omega) m _ (by omega) (by omega) (by simp at hs ⊢; omega), decDigits_big h]
      simp
theorem nd_le : ∀ (k u : Nat), u < 10 ^ (k + 1) → nDigits u ≤ k + 1
  | 0, u, h => by rw [nDigits_small (by simpa using h)]; exact Nat.le_refl _
  | k + 1, u, h => by
    by_cases h9 : u < 10
    · rw [nDigits_small h9]; omega
    · rw [nDigits_big h9]
      have := nd_le k (u / 10) (by rw [Nat.pow_succ] at h; omega)
      omega
theorem dec_len (u : Nat) (h : u ≤ 9223372036854775808) : (decDigits u).length ≤ 19 := by
  rw [decDigits_length]
  exact nd_le 18 u (by omega)
theorem tdiv_neg (u : Nat) : Int.tdiv (-(u : Int)) 10 = -((u / 10 : Nat) : Int) := by
  rw [Int.neg_tdiv, Int.tdiv_eq_ediv_of_nonneg (by omega)]; rfl
theorem tmod_neg (u : Nat) : Int.tmod (-(u : Int)) 10 = -((u % 10 : Nat) : Int) := by
  rw [Int.neg_tmod, Int.tmod_eq_emod_of_nonneg (by omega)]; rfl
theorem itoa_ng {u : Nat} (h : 1 ≤ u) : itoa (-(u : Int)) = 45 :: decDigits u := itoa_neg u h
theorem fmt_neg : ∀ (u n : Nat), u < n → 1 ≤ u → u ≤ 9223372036854775808 → f_spec_FormatInt_r n (-(u : Int)) = some (45 :: decDigits u) := by
  intro u
  induction u using Nat.strongRecOn with
  | _ u ih =>
    intro n hn h1 hu
    obtain ⟨m, rfl⟩ : ∃ m, n = m + 1 := ⟨n - 1, by omega⟩
    have hl := dec_len u hu
    rw [f_spec_FormatInt_r, f_spec_FormatInt_b]
    have hd : -(u : Int) < 0 := by omega
    simp only [hd, decide_true, if_true]
    rw [tdiv_neg, tmod_neg, wrap64 (show -9223372036854775808 ≤ -((u / 10 : Nat) : Int) by omega) (by omega)]
    by_cases h : u < 10
    · have e0 : u / 10 = 0 := by omega
      rw [e0]
      simp only [Int.ofNat_zero, Int.neg_zero, beq_self_eq_true, if_true]
      rw [show (48 : Int) - -(u : Int) = 48 + (u : Int) by omega, wrap64 (by omega) (by omega), dg8 h, ifc (by simp), decDigits_one h]
      rfl
    · have hne : (-((u / 10 : Nat) : Int) == 0) = false := by simp; omega
      simp only [hne, Bool.false_eq_true, if_false]
      rw [ih (u / 10) (by omega) m (by omega) (by omega) (by omega)]
      have hl2 := dec_len (u / 10) (by omega)
      simp only [Option.bind_some]
      rw [wrap64 (show -9223372036854775808 ≤ -((u % 10 : Nat) : Int) by omega) (by omega), show (48 : Int) - -((u % 10 : Nat) : Int) = 48 + ((u % 10 : Nat) : Int) by omega, wrap64 (by omega) (by omega), dg8 (by omega), ifc (by simp; omega), decDigits_big h]
      simp
/-- The reference's numeral is the library's. -/
theorem fmt_eq {n : Int} (h : i64 n) : f_spec_FormatInt n = some (itoa n) := by
  obtain ⟨h1, h2⟩ := h
  unfold f_spec_FormatInt
  by_cases hn : n < 0
  · obtain ⟨u, rfl⟩ : ∃ u : Nat, n = -(u : Int) := ⟨n.natAbs, by omega⟩
    rw [fmt_neg u bigN (by rw [bigN_val]; omega) (by omega) (by omega), itoa_ng (by omega)]
  · obtain ⟨u, rfl⟩ : ∃ u : Nat, n = (u : Int) := ⟨n.toNat, by omega⟩
    obtain ⟨m, hm⟩ : ∃ m, bigN = m + 1 := ⟨bigN - 1, by rw [bigN_val]⟩
    have e : f_spec_FormatInt_r bigN (u : Int) = f_spec_FormatInt_b (f_spec_FormatInt_r m) u := by rw [hm, f_spec_FormatInt_r]
    have hd : ¬ (u : Int) < 0 := by omega
    have hl := dec_len u (by omega)
    rw [e, f_spec_FormatInt_b]
    simp only [hd, decide_false, Bool.false_eq_true, if_false]
    rw [fmt_loop _ u bigN [] (by rw [bigN_val]; omega) (by omega) (by simp; omega), itoa_nn]
    simp
theorem impl_fmt_eq {n : Int} (h : i64 n) : f_impl_FormatInt n = some (itoa n) := by
  simp [f_impl_FormatInt, f_strconv_Itoa, h]

/-! Joined texts -/
theorem join_snoc (l : List (List UInt8)) (x sep : List UInt8) (h : l ≠ []) : join (l ++ [x]) sep = join l sep ++ sep ++ x := by
  cases l with
  | nil => exact absurd rfl h
  | cons a r => rw [List.cons_append, join_cons, join_cons]; simp [joinTail]
theorem join_take_le (l : List (List UInt8)) (sep : List UInt8) (i : Nat) : (join (l.take i) sep).length ≤ (join l sep).length := by
  cases l with
  | nil => simp
  | cons a r =>
    cases i with
    | zero => simp [join, List.intercalate]
    | succ i =>
      rw [List.take_succ_cons, join_cons, join_cons]
      simp only [List.length_append, joinTail]
      have : ((List.map (sep ++ ·) (r.take i)).flatten).length ≤ ((List.map (sep ++ ·) r).flatten).length := by
        rw [List.map_take]
        conv => rhs; rw [← List.take_append_drop i (List.map (sep ++ ·) r)]
        rw [List.flatten_append, List.length_append]
        omega
      omega
theorem join_eq {l : List (List UInt8)} {sep : List UInt8} (hl : l.length ≤ maxLen) (hj : (join l sep).length ≤ 140737488355328) : f_spec_Join l sep = some (join l sep) := by
  have key : ∀ (k i n : Nat), i + k = l.length → k < n → f_spec_Join_1 sep l n (join (l.take i) sep) (i : Int) = some (join l sep) := by
    intro k
    induction k with
    | zero =>
      intro i n hi hn
      obtain ⟨m, rfl⟩ : ∃ m, n = m + 1 := ⟨n - 1, by omega⟩
      have : i = l.length := by omega
      subst this
      rw [f_spec_Join_1]
      simp
    | succ k ih =>
      intro i n hi hn
      obtain ⟨m, rfl⟩ : ∃ m, n = m + 1 := ⟨n - 1, by omega⟩
      have hlt : i < l.length := by omega
      have hnext : join (l.take (i + 1)) sep = if i = 0 then l[i] else join (l.take i) sep ++ sep ++ l[i] := by
        rw [List.take_succ_eq_append_getElem hlt]
        split
        · rename_i h0; subst h0; simp [join, List.intercalate]
        · rename_i h0
          exact join_snoc _ _ _ (by
            intro e
            have e2 := congrArg List.length e
            rw [List.length_take, List.length_nil, Nat.min_eq_left (by omega)] at e2
            exact h0 e2)
      have hle := join_take_le l sep (i + 1)
      rw [f_spec_Join_1]
      simp only [dec_nn, hlt, decide_true, if_true, ix_at hlt, Option.bind_some]
      rw [← ih (i + 1) m (by omega) (by omega)]
      by_cases h0 : i = 0
      · subst h0
        simp only [Int.ofNat_zero, Int.lt_irrefl, decide_false, Bool.false_eq_true, if_false, f_spec_Join_2]
        simp only [if_true] at hnext
        rw [hnext] at hle ⊢
        rw [List.take_zero, join_nil, ifc (by simp; omega), List.nil_append]
        rfl
      · have hp : (0 : Int) < (i : Int) := by omega
        simp only [hp, decide_true, if_true, f_spec_Join_2]
        rw [if_neg h0] at hnext
        rw [hnext] at hle ⊢
        simp only [List.length_append] at hle
        rw [ifc (by omega), ifc (by simp; omega), wrapS hlt hl]
  have := key l.length 0 bigN (by omega) (lt_bigN hl)
  simpa [f_spec_Join, join_nil] using this
theorem impl_join_eq {l : List (List UInt8)} {sep : List UInt8} (hl : l.length ≤ 140737488355328) (hj : (join l sep).length ≤ 140737488355328) : f_impl_Join l sep = some (join l sep) := by
  simp [f_impl_Join, f_strings_Join, hl, hj]
end Go.Vi
