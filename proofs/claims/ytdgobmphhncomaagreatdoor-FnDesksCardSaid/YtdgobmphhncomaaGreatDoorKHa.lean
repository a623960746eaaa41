/-
  Plain laws, picked out of laws of other rounds by a program. No condition.
-/
import Derived.Test.YtdgobmphhncomaaGreatDoorKNf
import Derived.Test.YtdgobmphhncomaaGreatDoorKVi33
import Derived.Test.YtdgobmphhncomaaGreatDoorKLa
namespace Go.Vi
open Go.Lib
set_option linter.unusedSimpArgs false
set_option linter.unusedVariables false
theorem wrap_in (n : Int) : i64 (IntKind.i64.wrap n) := by
  unfold i64
  rw [IntKind.wrap_i64]
  omega
theorem sum_loop (s : List UInt8) (hs : s.length ≤ maxLen) : ∀ (k i n : Nat) (h : Int), i + k = s.length → k < n → i64 h → ∃ r, f_impl_SumOfText_1 s n h (i : Int) = some r ∧ i64 r := by
  intro k
  induction k with
  | zero =>
    intro i n h hi hn hh
    obtain ⟨m, rfl⟩ : ∃ m, n = m + 1 := ⟨n - 1, by omega⟩
    have : i = s.length := by omega
    subst this
    exact ⟨h, by simp [f_impl_SumOfText_1], hh⟩
  | succ k ih =>
    intro i n h hi hn hh
    obtain ⟨m, rfl⟩ : ∃ m, n = m + 1 := ⟨n - 1, by omega⟩
    have hlt : i < s.length := by omega
    rw [f_impl_SumOfText_1]
    simp only [dec_nn, hlt, decide_true, if_true, ix_at hlt, Option.bind_some, wrapS hlt hs]
    exact ih (i + 1) m _ (by omega) (by omega) (wrap_in _)
def sumT (s : List UInt8) : Int := (f_impl_SumOfText s).getD 0
theorem sum_eq {s : List UInt8} (hs : s.length ≤ maxLen) : True ∧ f_impl_SumOfText s = some (sumT s) ∧ i64 (sumT s) := by
  obtain ⟨r, h2, h3⟩ := sum_loop s hs s.length 0 bigN 7 (by omega) (lt_bigN hs) ⟨by decide, by decide⟩
  have e : f_impl_SumOfText s = some r := h2
  have e2 : sumT s = r := by rw [sumT, e]; rfl
  rw [e2]
  exact ⟨trivial, e, h3⟩
theorem catB_of {m n : Nat} (h : m + n ≤ 140737488355328) : catB m n = true := by
  unfold catB
  rw [decide_eq_true_eq]
  omega
theorem ifc {α : Type} {m n : Nat} (h : m + n ≤ 140737488355328) (x y : α) : (if catB m n = true then x else y) = x := by rw [if_pos (catB_of h)]
theorem itoa_nn (u : Nat) : itoa (u : Int) = decDigits u := itoa_nonneg u
theorem itoa_ng {u : Nat} (h : 1 ≤ u) : itoa (-(u : Int)) = 45 :: decDigits u := itoa_neg u h
theorem impl_fmt_eq {n : Int} (h : i64 n) : f_impl_FormatInt n = some (itoa n) := by
  simp [f_impl_FormatInt, f_strconv_Itoa, h]
theorem impl_join_eq {l : List (List UInt8)} {sep : List UInt8} (hl : l.length ≤ 140737488355328) (hj : (join l sep).length ≤ 140737488355328) : f_impl_Join l sep = some (join l sep) := by
  simp [f_impl_Join, f_strings_Join, hl, hj]
theorem le_big {n : Nat} (h : n ≤ 1100000) : n ≤ maxLen := by rw [maxLen_val]; omega
theorem l01In_eq (n lo hi : Int) : f_spec_l01In n lo hi = some (decide (lo ≤ n) && decide (n ≤ hi)) := by
  unfold f_spec_l01In
  by_cases h : lo ≤ n <;> simp [h]
theorem le_max {n : Nat} (h : n ≤ 1048576) : n ≤ maxLen := by rw [maxLen_val]; omega
theorem appB_of {m n b : Nat} (h : m + n ≤ 2000000) (hb : b ≤ 1000) : appB m n b = true := by
  unfold appB
  rw [decide_eq_true_eq]
  have : (m + n) * b ≤ 2000000 * 1000 := Nat.mul_le_mul h hb
  omega
theorem ifa {α : Type} {m n b : Nat} (h : m + n ≤ 2000000) (hb : b ≤ 1000) (x y : α) : (if appB m n b = true then x else y) = x := by rw [if_pos (appB_of h hb)]
def spl (c : UInt8) : List UInt8 → List UInt8 → List (List UInt8)
  | cur, [] => [cur]
  | cur, b :: r => if b = c then cur :: spl c [] r else spl c (cur ++ [b]) r
def split (c : UInt8) (s : List UInt8) : List (List UInt8) := spl c [] s
theorem spl_len (c : UInt8) : ∀ (s cur : List UInt8), (spl c cur s).length ≤ s.length + 1
  | [], cur => by simp [spl]
  | b :: r, cur => by
    unfold spl
    split
    · have := spl_len c r []; simp; omega
    · have := spl_len c r (cur ++ [b]); simp; omega
theorem spl_mem (c : UInt8) : ∀ (s cur x : List UInt8), x ∈ spl c cur s → x.length ≤ cur.length + s.length
  | [], cur, x, h => by simp [spl] at h; subst h; simp
  | b :: r, cur, x, h => by
    unfold spl at h
    split at h
    · rcases List.mem_cons.1 h with rfl | h
      · simp
      · have := spl_mem c r [] x h; simp at *; omega
    · have := spl_mem c r (cur ++ [b]) x h; simp at *; omega
theorem spl_ne (c : UInt8) (s cur : List UInt8) : spl c cur s ≠ [] := by
  cases s with
  | nil => simp [spl]
  | cons b r =>
    unfold spl
    split
    · simp
    · exact spl_ne c r _
termination_by s.length
theorem spl_word (c : UInt8) : ∀ (w cur r : List UInt8), (∀ b ∈ w, b ≠ c) → spl c cur (w ++ c :: r) = (cur ++ w) :: spl c [] r
  | [], cur, r, _ => by simp [spl]
  | b :: w, cur, r, h => by
    rw [List.cons_append, spl, if_neg (h b (by simp)), spl_word c w (cur ++ [b]) r fun x hx => h x (by simp [hx])]
    simp
theorem spl_end (c : UInt8) : ∀ (w cur : List UInt8), (∀ b ∈ w, b ≠ c) → spl c cur w = [cur ++ w]
  | [], cur, _ => by simp [spl]
  | b :: w, cur, h => by
    rw [spl, if_neg (h b (by simp)), spl_end c w (cur ++ [b]) fun x hx => h x (by simp [hx])]
    simp
theorem split_join (c : UInt8) : ∀ (l : List (List UInt8)), l ≠ [] → (∀ w ∈ l, ∀ b ∈ w, b ≠ c) → split c (join l [c]) = l
  | [], h, _ => absurd rfl h
  | [w], _, h => by rw [join_one, split, spl_end c w [] (h w (by simp))]; simp
  | w :: v :: r, _, h => by
    have e : join (w :: v :: r) [c] = w ++ c :: join (v :: r) [c] := by rw [join_cons, join_cons]; simp [joinTail]
    rw [e, split, spl_word c w [] _ (h w (by simp))]
    have := split_join c (v :: r) (by simp) fun x hx => h x (by simp only [List.mem_cons] at hx ⊢; exact .inr hx)
    rw [split] at this
    rw [this]
    simp
theorem bnd_ok {n a b : Nat} (h1 : a ≤ b) (h2 : b ≤ n) : bnd (n : Int) (b : Int) (a : Int) n = some (a, b) := by
  unfold bnd
  rw [if_pos ⟨by omega, by omega, by omega, by omega⟩]
  simp
theorem piece_snoc {s : List UInt8} {a i : Nat} (h1 : a ≤ i) (h2 : i < s.length) : (s.drop a).take (i + 1 - a) = (s.drop a).take (i - a) ++ [s[i]] := by
  rw [show i + 1 - a = (i - a) + 1 by omega, List.take_succ_eq_append_getElem (by simp; omega)]
  simp [show a + (i - a) = i by omega]
theorem split_loop (L : Nat → Int → Int → List (List UInt8) → Option (List (List UInt8))) (s : List UInt8) (c : UInt8) (hl : s.length ≤ 1048576)
    (hs : ∀ (n i a : Nat) (acc : List (List UInt8)) (hi : i < s.length), a ≤ i → acc.length ≤ i → L (n + 1) (a : Int) (i : Int) acc = if s[i] = c then L n (IntKind.i64.wrap ((i : Int) + 1)) (IntKind.i64.wrap ((i : Int) + 1)) (acc ++ [(s.drop a).take (i - a)]) else L n (a : Int) (IntKind.i64.wrap ((i : Int) + 1)) acc)
    (he : ∀ (n a : Nat) acc, a ≤ s.length → acc.length ≤ s.length → L (n + 1) (a : Int) (s.length : Int) acc = some (acc ++ [(s.drop a).take (s.length - a)])) : L bigN 0 0 [] = some (split c s) := by
  have key : ∀ (k i a n : Nat) (acc : List (List UInt8)), i + k = s.length → k < n → a ≤ i → acc.length ≤ i → L n (a : Int) (i : Int) acc = some (acc ++ spl c ((s.drop a).take (i - a)) (s.drop i)) := by
    intro k
    induction k with
    | zero =>
      intro i a n acc hi hn ha hc
      obtain ⟨m, rfl⟩ : ∃ m, n = m + 1 := ⟨n - 1, by omega⟩
      have : i = s.length := by omega
      subst this
      rw [he m a acc ha hc, List.drop_length, spl]
    | succ k ih =>
      intro i a n acc hi hn ha hc
      obtain ⟨m, rfl⟩ : ∃ m, n = m + 1 := ⟨n - 1, by omega⟩
      have hlt : i < s.length := by omega
      rw [hs m i a acc hlt ha hc, List.drop_eq_getElem_cons hlt, spl, wrapS hlt (le_max hl)]
      by_cases e : s[i] = c
      · rw [if_pos e, if_pos e, ih (i + 1) (i + 1) m _ (by omega) (by omega) (Nat.le_refl _) (by simp; omega)]
        simp
      · rw [if_neg e, if_neg e, ih (i + 1) a m _ (by omega) (by omega) (by omega) (by omega), piece_snoc ha hlt]
  have := key s.length 0 0 bigN [] (by omega) (lt_bigN (le_max hl)) (Nat.le_refl _) (Nat.le_refl _)
  simpa [split] using this
theorem indexByte1 (c b : UInt8) : decide ((0 : Int) ≤ indexByte [c] b) = decide (c = b) := by
  by_cases h : c = b
  · subst h; simp [indexByte]
  · have h' : (c == b) = false := by simpa using h
    simp [indexByte, h, h']
theorem back8 (b : UInt8) : ((b.toNat : Int)).toNat.toUInt8 = b := by simp
theorem impl_SplitAny_eq {s : List UInt8} {c : UInt8} (hl : s.length ≤ 1048576) : f_impl_SplitAny s [c] = some (split c s) := by
  unfold f_impl_SplitAny
  refine split_loop (f_impl_SplitAny_1 s [c]) s c hl (fun n i a acc hi ha hc => ?_) (fun n a acc ha hc => ?_)
  · have hb : bnd (s.length : Int) (i : Int) (a : Int) s.length = some (a, i) := bnd_ok ha (by omega)
    rw [f_impl_SplitAny_1]
    simp only [dec_nn, hi, decide_true, if_true, ix_at hi, Option.bind_some, f_strings_IndexByte, back8, indexByte1, f_impl_SplitAny_2]
    by_cases e : s[i] = c
    · rw [if_pos (decide_eq_true e.symm), if_pos e, hb]
      simp only [Option.bind_some]
      rw [ifa (by simp; omega) (by omega)]
    · have e' : ¬ decide (c = s[i]) = true := by simpa using fun h => e h.symm
      rw [if_neg e', if_neg e]
  · have hb : bnd (s.length : Int) (s.length : Int) (a : Int) s.length = some (a, s.length) := bnd_ok ha (Nat.le_refl _)
    rw [f_impl_SplitAny_1]
    simp only [Int.lt_irrefl, decide_false, Bool.false_eq_true, if_false, hb, Option.bind_some]
    rw [ifa (by simp; omega) (by omega)]
def digs (t : List UInt8) : Bool := t.all isDig && decide (0 < t.length)
theorem digs_dec (u : Nat) : digs (decDigits u) = true := by
  simp only [digs, Bool.and_eq_true, List.all_eq_true, decide_eq_true_eq]
  exact ⟨decDigits_dig u, List.length_pos_iff.2 (decDigits_ne u)⟩
theorem impl_ParseInt_eq {s : List UInt8} (hl : s.length ≤ 1048576) : f_impl_ParseInt s = some (parseN s) := by
  unfold f_impl_ParseInt
  rw [if_pos (by omega)]
def numOk (x : List UInt8) : Bool := (parseN x).2
def numOf (x : List UInt8) : Int := (parseN x).1
theorem num_loop {R : Type} {L : Nat → Int → List Int → Option R} (l : List (List UInt8)) (K : List Int → Option R) (bad : Option R) (hl : l.length ≤ 1100000)
    (hs : ∀ (n i : Nat) (acc : List Int) (hi : i < l.length), acc.length = i → L (n + 1) (i : Int) acc = if numOk l[i] = true then L n (IntKind.i64.wrap ((i : Int) + 1)) (acc ++ [numOf l[i]]) else bad) (he : ∀ n acc, L (n + 1) (l.length : Int) acc = K acc) :
    L bigN 0 [] = if l.all numOk = true then K (l.map numOf) else bad := by
  have key : ∀ (k i n : Nat) (acc : List Int), i + k = l.length → k < n → acc.length = i → L n (i : Int) acc = if (l.drop i).all numOk = true then K (acc ++ (l.drop i).map numOf) else bad := by
    intro k
    induction k with
    | zero =>
      intro i n acc hi hn ha
      obtain ⟨m, rfl⟩ : ∃ m, n = m + 1 := ⟨n - 1, by omega⟩
      have : i = l.length := by omega
      subst this
      rw [he]; simp
    | succ k ih =>
      intro i n acc hi hn ha
      obtain ⟨m, rfl⟩ : ∃ m, n = m + 1 := ⟨n - 1, by omega⟩
      have hlt : i < l.length := by omega
      rw [hs m i acc hlt ha, wrapS hlt (le_big hl), ih (i + 1) m _ (by omega) (by omega) (by simp [ha]), List.drop_eq_getElem_cons hlt, List.all_cons, List.map_cons]
      cases numOk l[i] <;> simp
  have := key l.length 0 bigN [] (by omega) (lt_bigN (le_big hl)) rfl
  simpa using this
theorem impl_parseNumbers_eq {l : List (List UInt8)} (hl : l.length ≤ 1100000) (hx : ∀ x ∈ l, x.length ≤ 1048576) : f_impl_parseNumbers l = some (if l.all numOk = true then (l.map numOf, true) else ([], false)) := by
  unfold f_impl_parseNumbers
  rw [num_loop (L := f_impl_parseNumbers_1 l) l (fun acc => some (acc, true)) (some ([], false)) hl (fun n i acc hi ha => ?_) (fun n acc => by simp [f_impl_parseNumbers_1])]
  · split <;> rfl
  · simp only [f_impl_parseNumbers_1, dec_nn, hi, decide_true, if_true, ix_at hi, Option.bind_some, impl_ParseInt_eq (hx _ (List.getElem_mem hi)), numOk, numOf]
    rw [ifa (by simp; omega) (by omega)]
    rfl
theorem piece_len {c : UInt8} {s : List UInt8} (hl : s.length ≤ 1048576) : (split c s).length ≤ 1100000 ∧ ∀ x ∈ split c s, x.length ≤ 1048576 := by
  refine ⟨?_, fun x hx => ?_⟩
  · have := spl_len c s []
    unfold split
    omega
  · have := spl_mem c s [] x hx
    simp at this
    omega
theorem split_lines : ∀ (l : List (List UInt8)), (∀ w ∈ l, ∀ b ∈ w, b ≠ 10) → split 10 (l.map (· ++ [10])).flatten = l ++ [[]]
  | [], _ => rfl
  | w :: l, h => by
    have e : ((w :: l).map (· ++ [10])).flatten = w ++ 10 :: (l.map (· ++ [10])).flatten := by simp
    rw [e, split, spl_word 10 w [] _ (h w (by simp))]
    have := split_lines l fun x hx => h x (by simp [hx])
    rw [split] at this
    rw [this]
    simp
def lines (s : List UInt8) : List (List UInt8) := if (split 10 s).getD ((split 10 s).length - 1) [] = [] then (split 10 s).take ((split 10 s).length - 1) else split 10 s
theorem lines_flat {l : List (List UInt8)} (h : ∀ w ∈ l, ∀ b ∈ w, b ≠ 10) : lines (l.map (· ++ [10])).flatten = l := by
  unfold lines
  rw [split_lines l h]
  simp
theorem lines_all {q : List (List UInt8)} (hq : q ≠ []) (hn : q.length ≤ 1100000) : ((ix q (IntKind.i64.wrap ((q.length : Int) - (1 : Int)))).bind fun x2 =>
    if (x2 == ([] : List UInt8)) = true then ((bnd (q.length : Int) (IntKind.i64.wrap ((q.length : Int) - (1 : Int))) (0 : Int) q.length).bind fun p4 => some ((q.drop p4.1).take (p4.2 - p4.1))) else some q) =
    some (if q.getD (q.length - 1) [] = [] then q.take (q.length - 1) else q) := by
  have h0 : 0 < q.length := List.length_pos_iff.2 hq
  have hw : IntKind.i64.wrap ((q.length : Int) - 1) = ((q.length - 1 : Nat) : Int) := by
    rw [wrap64 (by omega) (by omega)]; omega
  have hlt : q.length - 1 < q.length := by omega
  have hb : bnd (q.length : Int) ((q.length - 1 : Nat) : Int) (0 : Int) q.length = some (0, q.length - 1) := bnd_ok (a := 0) (Nat.zero_le _) (by omega)
  rw [hw, ix_at hlt, hb]
  simp only [Option.bind_some, List.getD_eq_getElem?_getD, List.getElem?_eq_getElem hlt, Option.getD_some, beq_iff_eq, List.drop_zero, Nat.sub_zero]
  split <;> rfl
theorem impl_SplitLines_eq {s : List UInt8} (hl : s.length ≤ 1048576) : f_impl_SplitLines s = some (lines s) := by
  unfold f_impl_SplitLines lines
  rw [impl_SplitAny_eq hl]
  exact lines_all (spl_ne 10 s []) (piece_len hl).1
theorem within_eq (n lo hi : Int) : f_impl_within n lo hi = some (decide (lo ≤ n) && decide (n ≤ hi)) := by
  unfold f_impl_within
  by_cases h : lo ≤ n <;> simp [h]
theorem isMinute_eq (n : Int) : f_impl_isMinute n = some (decide (0 ≤ n) && decide (n ≤ 2880)) := by simp [f_impl_isMinute, within_eq]
def words4 : List (List UInt8) := [[97, 110, 110, 111, 117, 110, 99, 101], [99, 108, 101, 97, 114], [99, 97, 110, 99, 101, 108], [116, 105, 99, 107]]
def word4 (k : Int) : List UInt8 := (words4[(k - 1).toNat]?).getD []
def entBody (e : XEntry) : List UInt8 := word4 e.Kind ++ [32] ++ itoa e.At ++ [32] ++ itoa e.Call ++ [32] ++ itoa e.Value
def kindOk (k : Int) : Bool := decide (1 ≤ k) && decide (k ≤ 4)
def minOk (n : Int) : Bool := decide (0 ≤ n) && decide (n ≤ 2880)
def entOk (e : XEntry) : Bool := kindOk e.Kind && (minOk e.At && (minOk e.Call && minOk e.Value))
def fmtEntry (e : XEntry) : List UInt8 := if entOk e = true then entBody e ++ [32, 35] ++ itoa (sumT (entBody e)) else []
theorem word4_ix {k : Int} (h1 : 1 ≤ k) (h2 : k ≤ 4) : ix words4 (IntKind.i64.wrap (k - 1)) = some (word4 k) ∧ (word4 k).length ≤ 8 ∧ word4 k ≠ [] := by
  rw [wrap64 (by omega) (by omega)]
  have : k = 1 ∨ k = 2 ∨ k = 3 ∨ k = 4 := by omega
  rcases this with rfl | rfl | rfl | rfl <;> exact ⟨rfl, by decide, by decide⟩
theorem min_i64 {n : Int} (h : minOk n = true) : i64 n := by
  simp only [minOk, Bool.and_eq_true, decide_eq_true_eq] at h
  exact ⟨by omega, by omega⟩
theorem entBody_len {e : XEntry} (h : entOk e = true) : (entBody e).length ≤ 100 := by
  simp only [entOk, Bool.and_eq_true] at h
  obtain ⟨h1, h2, h3, h4⟩ := h
  simp only [kindOk, Bool.and_eq_true, decide_eq_true_eq] at h1
  have a := (word4_ix h1.1 h1.2).2.1
  have b := itoa_len (min_i64 h2); have c := itoa_len (min_i64 h3); have d := itoa_len (min_i64 h4)
  simp only [entBody, List.length_append, List.length_cons, List.length_nil]
  omega
theorem small_max {n : Nat} (h : n ≤ 1000) : n ≤ maxLen := by rw [maxLen_val]; omega
theorem fmtEntry_len (e : XEntry) : (fmtEntry e).length ≤ 130 := by
  unfold fmtEntry
  split
  · rename_i h
    have := entBody_len h
    have := itoa_len (sum_eq (s := entBody e) (small_max (by omega))).2.2
    simp only [List.length_append, List.length_cons, List.length_nil]
    omega
  · simp
theorem impl_entryName_eq (k : Int) : f_impl_entryName k = some (if kindOk k = true then word4 k else []) := by
  unfold f_impl_entryName
  rw [within_eq]
  simp only [Option.bind_some]
  by_cases hk : kindOk k = true
  · have hk' := hk
    unfold kindOk at hk'
    simp only [hk, hk', if_true]
    simp only [Bool.and_eq_true, decide_eq_true_eq] at hk'
    rw [show ix ([([97, 110, 110, 111, 117, 110, 99, 101] : List UInt8), ([99, 108, 101, 97, 114] : List UInt8), ([99, 97, 110, 99, 101, 108] : List UInt8), ([116, 105, 99, 107] : List UInt8)] : List (List UInt8)) (IntKind.i64.wrap (k - 1)) = some (word4 k) from (word4_ix hk'.1 hk'.2).1]
    rfl
  · have hk' := hk
    unfold kindOk at hk'
    simp only [hk, hk', Bool.false_eq_true, if_false]
theorem join4 (a b c d sep : List UInt8) : join [a, b, c, d] sep = a ++ sep ++ b ++ sep ++ c ++ sep ++ d := by
  rw [join_cons]; simp [joinTail]
theorem impl_FormatEntry_eq (e : XEntry) : f_impl_FormatEntry e = some (fmtEntry e) := by
  unfold f_impl_FormatEntry fmtEntry entOk
  rw [impl_entryName_eq]
  simp only [Option.bind_some, isMinute_eq]
  by_cases hk : kindOk e.Kind = true
  rotate_left
  · simp only [hk, Bool.false_eq_true, if_false, Bool.false_and, beq_self_eq_true, if_true]
  have hk' := hk
  simp only [kindOk, Bool.and_eq_true, decide_eq_true_eq] at hk'
  obtain ⟨w1, w2, w3⟩ := word4_ix hk'.1 hk'.2
  have w4 : (word4 e.Kind == []) = false := by simpa using w3
  simp only [hk, if_true, w4, Bool.false_eq_true, if_false, Bool.true_and]
  by_cases h2 : minOk e.At = true
  rotate_left
  · have h2' := h2; unfold minOk at h2'
    simp only [h2, h2', Bool.false_eq_true, if_false, Bool.false_and, Bool.and_false]
  by_cases h3 : minOk e.Call = true
  rotate_left
  · have h2' := h2; have h3' := h3; unfold minOk at h2' h3'
    simp only [if_true, h2', h3, h3', Bool.false_eq_true, if_false, Bool.false_and, Bool.and_false]
  by_cases h4 : minOk e.Value = true
  rotate_left
  · have h2' := h2; have h3' := h3; have h4' := h4; unfold minOk at h2' h3' h4'
    simp only [if_true, h2', h3', h4, h4', Bool.false_eq_true, if_false, Bool.false_and, Bool.and_false]
  have ok : entOk e = true := by simp only [entOk, hk, h2, h3, h4, Bool.and_self]
  have hb := entBody_len ok
  have h2' := h2; have h3' := h3; have h4' := h4; unfold minOk at h2' h3' h4'
  have b := itoa_len (min_i64 h2); have c := itoa_len (min_i64 h3); have d := itoa_len (min_i64 h4)
  obtain ⟨s1, s2, s3⟩ := sum_eq (s := entBody e) (small_max (by omega))
  have s4 := itoa_len s3
  simp only [if_true, h2', h3', h4', h2, h3, h4, Bool.and_self, impl_fmt_eq (min_i64 h2), impl_fmt_eq (min_i64 h3), impl_fmt_eq (min_i64 h4), Option.bind_some]
  rw [impl_join_eq (by simp) (by rw [join4]; simp; omega), join4, show word4 e.Kind ++ [32] ++ itoa e.At ++ [32] ++ itoa e.Call ++ [32] ++ itoa e.Value = entBody e from rfl]
  simp only [Option.bind_some, s2, impl_fmt_eq s3]
  rw [ifc (by simp; omega), ifc (by simp; omega)]
theorem len5 {α : Type} {l : List α} (h : l.length = 5) : ∃ a b c d e, l = [a, b, c, d, e] := by
  match l, h with
  | [a, b, c, d, e], _ => exact ⟨a, b, c, d, e, rfl⟩
def kindOf (w : List UInt8) : Int := if w = [116, 105, 99, 107] then 4 else if w = [99, 97, 110, 99, 101, 108] then 3 else if w = [99, 108, 101, 97, 114] then 2 else if w = [97, 110, 110, 111, 117, 110, 99, 101] then 1 else 0
def entOf (w : List (List UInt8)) (k : Int) : XEntry := ⟨k, numOf (w.getD 1 []), numOf (w.getD 2 []), numOf (w.getD 3 [])⟩
def nilEnt : XEntry := ⟨0, 0, 0, 0⟩
def readEntry (s : List UInt8) : XEntry × Bool :=
  if (split 32 s).length = 5 ∧ numOk ((split 32 s).getD 1 []) = true ∧ numOk ((split 32 s).getD 2 []) = true ∧ numOk ((split 32 s).getD 3 []) = true ∧ kindOf ((split 32 s).getD 0 []) ≠ 0 ∧ fmtEntry (entOf (split 32 s) (kindOf ((split 32 s).getD 0 []))) = s then (entOf (split 32 s) (kindOf ((split 32 s).getD 0 [])), true) else (nilEnt, false)
theorem part_len {s : List UInt8} (hl : s.length ≤ 1048576) : ∀ x ∈ split 32 s, x.length ≤ 1048576 := fun x hx => by
  have := spl_mem 32 s [] x hx
  simp at this
  omega
theorem kind_cases {k : Int} (h : kindOk k = true) : kindOf (word4 k) = k ∧ ∀ b ∈ word4 k, b ≠ 32 := by
  simp only [kindOk, Bool.and_eq_true, decide_eq_true_eq] at h
  have : k = 1 ∨ k = 2 ∨ k = 3 ∨ k = 4 := by omega
  rcases this with rfl | rfl | rfl | rfl <;> exact ⟨by decide, by decide⟩
theorem fmt_kind {e : XEntry} {s : List UInt8} (h : fmtEntry e = s) (hs : (split 32 s).length = 5) : kindOf ((split 32 s).getD 0 []) = e.Kind ∧ kindOk e.Kind = true := by
  unfold fmtEntry at h
  by_cases ok : entOk e = true
  · rw [if_pos ok] at h
    have hk : kindOk e.Kind = true := by simp only [entOk, Bool.and_eq_true] at ok; exact ok.1
    obtain ⟨k1, k2⟩ := kind_cases hk
    have : split 32 s = word4 e.Kind :: spl 32 [] (itoa e.At ++ [32] ++ itoa e.Call ++ [32] ++ itoa e.Value ++ [32, 35] ++ itoa (sumT (entBody e))) := by
      rw [← h, split, entBody]
      have := spl_word 32 (word4 e.Kind) [] (itoa e.At ++ [32] ++ itoa e.Call ++ [32] ++ itoa e.Value ++ [32, 35] ++ itoa (sumT (entBody e))) k2
      simp only [entBody, List.append_assoc, List.cons_append, List.nil_append] at this ⊢
      exact this
    rw [this]
    exact ⟨k1, hk⟩
  · rw [if_neg ok] at h
    subst h
    simp [split, spl] at hs
theorem impl_ParseEntry_eq {s : List UInt8} (hl : s.length ≤ 1048576) : f_impl_ParseEntry s = some (readEntry s) := by
  unfold f_impl_ParseEntry readEntry
  rw [impl_SplitAny_eq hl]
  simp only [Option.bind_some]
  have hp := part_len hl
  have hfk : ∀ e, fmtEntry e = s → (split 32 s).length = 5 → kindOf ((split 32 s).getD 0 []) = e.Kind ∧ kindOk e.Kind = true := fun e => fmt_kind
  generalize split 32 s = w at hp hfk
  by_cases h5 : w.length = 5
  rotate_left
  · have : (((w.length : Int) != 5) = true) := by simp; omega
    rw [if_pos this, if_neg (fun h => h5 h.1)]
    rfl
  have : ¬ (((w.length : Int) != 5) = true) := by simp; omega
  rw [if_neg this]
  obtain ⟨w0, w1, w2, w3, w4, rfl⟩ := len5 h5
  rw [show bnd ((([w0, w1, w2, w3, w4] : List (List UInt8)).length : Nat) : Int) 4 1 ([w0, w1, w2, w3, w4] : List (List UInt8)).length = some (1, 4) from rfl]
  simp only [Option.bind_some]
  rw [show (([w0, w1, w2, w3, w4] : List (List UInt8)).drop 1).take (4 - 1) = [w1, w2, w3] from rfl, impl_parseNumbers_eq (by simp) (fun x hx => hp x (by simp at hx ⊢; rcases hx with h | h | h <;> simp [h]))]
  simp only [Option.bind_some, List.all_cons, List.all_nil, Bool.and_true, List.map_cons, List.map_nil]
  by_cases hn : (numOk w1 && (numOk w2 && numOk w3)) = true
  rotate_left
  · rw [if_neg hn]
    simp only [Bool.false_eq_true, if_false, List.getD_cons_succ, List.getD_cons_zero]
    rw [if_neg]
    · rfl
    · rintro ⟨_, a, b, c, _⟩
      exact hn (by simp [a, b, c])
  rw [if_pos hn]
  simp only [if_true]
  obtain ⟨m, hm⟩ : ∃ m, bigN = m + 5 := ⟨bigN - 5, by rw [bigN_val]⟩
  rw [hm]
  have step : ∀ (n : Nat) (k : Int), k ≤ 4 → f_impl_ParseEntry_1 s ([numOf w1, numOf w2, numOf w3], true) (n + 1) k = if fmtEntry ⟨k, numOf w1, numOf w2, numOf w3⟩ = s then some (⟨k, numOf w1, numOf w2, numOf w3⟩, true) else f_impl_ParseEntry_1 s ([numOf w1, numOf w2, numOf w3], true) n (IntKind.i64.wrap (k + 1)) := by
    intro n k hk
    rw [f_impl_ParseEntry_1]
    simp only [hk, decide_true, if_true, show ix [numOf w1, numOf w2, numOf w3] 0 = some (numOf w1) from rfl, show ix [numOf w1, numOf w2, numOf w3] 1 = some (numOf w2) from rfl, show ix [numOf w1, numOf w2, numOf w3] 2 = some (numOf w3) from rfl, Option.bind_some, impl_FormatEntry_eq, beq_iff_eq]
  have last : f_impl_ParseEntry_1 s ([numOf w1, numOf w2, numOf w3], true) (m + 1) 5 = some (nilEnt, false) := by
    rw [f_impl_ParseEntry_1]
    rfl
  rw [step (m + 4) 1 (by omega), show IntKind.i64.wrap ((1 : Int) + 1) = 2 from rfl, step (m + 3) 2 (by omega), show IntKind.i64.wrap ((2 : Int) + 1) = 3 from rfl, step (m + 2) 3 (by omega), show IntKind.i64.wrap ((3 : Int) + 1) = 4 from rfl,
    step (m + 1) 4 (by omega), show IntKind.i64.wrap ((4 : Int) + 1) = 5 from rfl, last]
  have hkd : ∀ k, fmtEntry ⟨k, numOf w1, numOf w2, numOf w3⟩ = s → kindOf w0 = k ∧ kindOk k = true := fun k h => hfk _ h rfl
  simp only [Bool.and_eq_true] at hn
  simp only [List.length_cons, List.length_nil, List.getD_cons_zero, List.getD_cons_succ, entOf, true_and, hn.1, hn.2.1, hn.2.2]
  by_cases f : fmtEntry ⟨kindOf w0, numOf w1, numOf w2, numOf w3⟩ = s
  · obtain ⟨_, hk⟩ := hkd _ f
    have hne : kindOf w0 ≠ 0 := fun e => by rw [e] at hk; cases hk
    rw [if_pos (show kindOf w0 ≠ 0 ∧ fmtEntry ⟨kindOf w0, numOf w1, numOf w2, numOf w3⟩ = s from ⟨hne, f⟩)]
    simp only [kindOk, Bool.and_eq_true, decide_eq_true_eq] at hk
    have hno : ∀ k, k ≠ kindOf w0 → ¬ fmtEntry ⟨k, numOf w1, numOf w2, numOf w3⟩ = s := fun k h e => h (hkd k e).1.symm
    have : kindOf w0 = 1 ∨ kindOf w0 = 2 ∨ kindOf w0 = 3 ∨ kindOf w0 = 4 := by omega
    rcases this with e | e | e | e <;> rw [e] at f hno ⊢
    · rw [if_pos f]
    · rw [if_neg (hno 1 (by omega)), if_pos f]
    · rw [if_neg (hno 1 (by omega)), if_neg (hno 2 (by omega)), if_pos f]
    · rw [if_neg (hno 1 (by omega)), if_neg (hno 2 (by omega)), if_neg (hno 3 (by omega)), if_pos f]
  · have hno : ∀ k, ¬ fmtEntry ⟨k, numOf w1, numOf w2, numOf w3⟩ = s := fun k e => f ((hkd k e).1.symm ▸ e)
    rw [if_neg (show ¬ (kindOf w0 ≠ 0 ∧ fmtEntry ⟨kindOf w0, numOf w1, numOf w2, numOf w3⟩ = s) from fun h => f h.2), if_neg (hno 1), if_neg (hno 2), if_neg (hno 3), if_neg (hno 4)]
def goodPre : List (List UInt8) → List XEntry
  | [] => []
  | l :: r => if (readEntry l).2 = true then (readEntry l).1 :: goodPre r else []
theorem goodPre_take : ∀ (n : Nat) (l : List (List UInt8)), goodPre (l.take n) = (goodPre l).take n
  | 0, l => by simp [goodPre]
  | n + 1, [] => by simp [goodPre]
  | n + 1, x :: l => by
    simp only [List.take_succ_cons, goodPre]
    split
    · rw [goodPre_take n l]; simp
    · simp
theorem lines_sub {s x : List UInt8} (h : x ∈ lines s) : x ∈ split 10 s := by
  unfold lines at h
  split at h
  · exact List.mem_of_mem_take h
  · exact h
theorem lines_le {s : List UInt8} (hl : s.length ≤ 1048576) : (lines s).length ≤ 1100000 ∧ ∀ x ∈ lines s, x.length ≤ 1048576 := by
  obtain ⟨h1, h2⟩ := piece_len (c := 10) hl
  refine ⟨?_, fun x hx => h2 x (lines_sub hx)⟩
  unfold lines
  split
  · rw [List.length_take]; omega
  · exact h1
theorem readEntries_eq {q : List (List UInt8)} (hn : q.length ≤ 60) (hx : ∀ x ∈ q, x.length ≤ 1048576) : ∃ o, f_impl_readEntries q = some (goodPre q, o) ∧ (o = none ∨ o = some ((goodPre q).length : Int)) := by
  unfold f_impl_readEntries
  have key : ∀ (k i n : Nat) (acc : List XEntry), i + k = q.length → k < n → acc.length = i → ∃ o, f_impl_readEntries_1 q n (i : Int) acc = some (acc ++ goodPre (q.drop i), o) ∧ (o = none ∨ o = some ((acc ++ goodPre (q.drop i)).length : Int)) := by
    intro k
    induction k with
    | zero =>
      intro i n acc hi hn ha
      obtain ⟨m, rfl⟩ : ∃ m, n = m + 1 := ⟨n - 1, by omega⟩
      have : i = q.length := by omega
      subst this
      exact ⟨none, by simp [f_impl_readEntries_1, goodPre], .inl rfl⟩
    | succ k ih =>
      intro i n acc hi hn2 ha
      obtain ⟨m, rfl⟩ : ∃ m, n = m + 1 := ⟨n - 1, by omega⟩
      have hlt : i < q.length := by omega
      simp only [f_impl_readEntries_1, dec_nn, hlt, decide_true, if_true, ix_at hlt, Option.bind_some, impl_ParseEntry_eq (hx _ (List.getElem_mem hlt))]
      rw [List.drop_eq_getElem_cons hlt, goodPre]
      by_cases hg : (readEntry q[i]).2 = true
      · simp only [hg, if_true]
        rw [ifa (by simp; omega) (by omega), wrapS hlt (le_big (by omega))]
        obtain ⟨o, h1, h2⟩ := ih (i + 1) m (acc ++ [(readEntry q[i]).1]) (by omega) (by omega) (by simp [ha])
        refine ⟨o, ?_, ?_⟩
        · rw [← show acc ++ [(readEntry q[i]).1] ++ goodPre (q.drop (i + 1)) = acc ++ (readEntry q[i]).1 :: goodPre (q.drop (i + 1)) by simp]
          exact h1
        · rcases h2 with h2 | h2
          · exact .inl h2
          · exact .inr (by rw [h2]; simp)
      · exact ⟨some (i : Int), by simp [hg], .inr (by simp [hg, ha])⟩
  obtain ⟨o, h1, h2⟩ := key q.length 0 bigN [] (by omega) (lt_bigN (le_big (by omega))) rfl
  exact ⟨o, by simpa using h1, by simpa using h2⟩
theorem impl_ReadJournal_eq {s : List UInt8} (hl : s.length ≤ 1048576) : f_impl_ReadJournal s = some ((goodPre (lines s)).take 60, (((goodPre (lines s)).take 60).length : Int)) := by
  unfold f_impl_ReadJournal
  rw [impl_SplitLines_eq hl]
  simp only [Option.bind_some]
  obtain ⟨hn, hx⟩ := lines_le hl
  generalize lines s = q at hn hx
  have hm : (if (60 : Int) < (q.length : Int) then (60 : Int) else (q.length : Int)) = ((min 60 q.length : Nat) : Int) := by
    split <;> omega
  rw [hm, show (0 : Int) = ((0 : Nat) : Int) from rfl, bnd_ok (Nat.zero_le _) (Nat.min_le_right _ _)]
  simp only [Option.bind_some, List.drop_zero, Nat.sub_zero]
  have ht : q.take (min 60 q.length) = q.take 60 := by
    rcases Nat.le_total 60 q.length with h | h
    · rw [Nat.min_eq_left h]
    · rw [Nat.min_eq_right h, List.take_of_length_le (Nat.le_refl _), List.take_of_length_le h]
  rw [ht]
  obtain ⟨o, h1, h2⟩ := readEntries_eq (q := q.take 60) (by rw [List.length_take]; omega) (fun x h => hx x (List.mem_of_mem_take h))
  rw [h1, goodPre_take] at *
  simp only [Option.bind_some]
  rcases h2 with rfl | rfl
  · rfl
  · simp [goodPre_take]
def deskOkAt (a : XDesk) (i : Nat) : Bool := match a.Starts[i]?, a.Cleared[i]? with
  | some x, some c => (decide (-1 ≤ x) && decide (x ≤ 2880)) && !(c && decide (x < 0))
  | _, _ => false
def deskOk (a : XDesk) : Bool := (decide (0 ≤ a.Now) && decide (a.Now ≤ 2880)) && (decide (a.Starts.length ≤ 6) && (decide (a.Cleared.length = a.Starts.length) && (List.range a.Starts.length).all (deskOkAt a)))
theorem spec_DeskOk_eq (a : XDesk) : f_spec_DeskOk a = some (deskOk a) := by
  simp only [f_spec_DeskOk, l01In_eq, Option.bind_some, deskOk]
  cases (decide (0 ≤ a.Now) && decide (a.Now ≤ 2880)) with
  | false => simp
  | true =>
    by_cases h1 : a.Starts.length ≤ 6
    · have h1' : ¬ (6 : Int) < a.Starts.length := by omega
      by_cases h2 : a.Cleared.length = a.Starts.length
      · have := all_loopI (L := f_spec_DeskOk_1 a) a.Starts.length (deskOkAt a) (by rw [maxLen_val]; omega) (fun n i hi => by
          have e2 : i < a.Cleared.length := by omega
          simp only [f_spec_DeskOk_1, ix_at hi, ix_at e2, l01In_eq, Option.bind_some, deskOkAt, List.getElem?_eq_getElem hi, List.getElem?_eq_getElem e2, dec_nn, hi, decide_true, if_true]
          cases (decide (-1 ≤ a.Starts[i]) && decide (a.Starts[i] ≤ 2880)) <;> cases a.Cleared[i] <;> cases hd : decide (a.Starts[i] < 0) <;> simp) (fun n => by simp [f_spec_DeskOk_1])
        simp [h1, h1', h2, this]
      · have : ¬ (a.Cleared.length : Int) = a.Starts.length := by omega
        simp [h1, h1', h2, this]
    · have h1' : (6 : Int) < a.Starts.length := by omega
      simp [h1, h1']
theorem impl_DeskOk_eq (a : XDesk) : f_impl_DeskOk a = some (deskOk a) := by
  simp only [f_impl_DeskOk, isMinute_eq, Option.bind_some, deskOk]
  cases (decide (0 ≤ a.Now) && decide (a.Now ≤ 2880)) with
  | false => simp
  | true =>
    by_cases h1 : a.Starts.length ≤ 6
    · have h1' : ¬ (6 : Int) < a.Starts.length := by omega
      by_cases h2 : a.Cleared.length = a.Starts.length
      · have := all_loopI (L := f_impl_DeskOk_1 a) a.Starts.length (deskOkAt a) (by rw [maxLen_val]; omega) (fun n i hi => by
          have e2 : i < a.Cleared.length := by omega
          simp only [f_impl_DeskOk_1, ix_at hi, ix_at e2, within_eq, Option.bind_some, deskOkAt, List.getElem?_eq_getElem hi, List.getElem?_eq_getElem e2, dec_nn, hi, decide_true, if_true]
          cases (decide (-1 ≤ a.Starts[i]) && decide (a.Starts[i] ≤ 2880)) <;> cases a.Cleared[i] <;> cases hd : decide (a.Starts[i] < 0) <;> simp) (fun n => by simp [f_impl_DeskOk_1])
        simp [h1, h1', h2, this]
      · have : ¬ (a.Cleared.length : Int) = a.Starts.length := by omega
        simp [h1, h1', h2, this]
    · have h1' : (6 : Int) < a.Starts.length := by omega
      simp [h1, h1']
theorem cat_loop {L : Nat → List UInt8 → Int → Option (List UInt8)} (len : Nat) (piece : Nat → List UInt8) (B : Nat) (hl : len ≤ maxLen) (hp : ∀ i, i < len → (piece i).length ≤ B) (s0 : List UInt8) (hB : s0.length + len * B ≤ 100000000000000)
    (hs : ∀ (n i : Nat) (s : List UInt8), i < len → s.length + B ≤ 100000000000000 → L (n + 1) s (i : Int) = L n (s ++ piece i) (IntKind.i64.wrap ((i : Int) + 1))) (he : ∀ n s, L (n + 1) s (len : Int) = some s) :
    L bigN s0 0 = some (s0 ++ ((List.range len).map piece).flatten) := by
  have key : ∀ (k i n : Nat) (s : List UInt8), i + k = len → k < n → s.length + k * B ≤ 100000000000000 → L n s (i : Int) = some (s ++ ((List.range' i k).map piece).flatten) := by
    intro k
    induction k with
    | zero =>
      intro i n s hi hn hb
      obtain ⟨m, rfl⟩ : ∃ m, n = m + 1 := ⟨n - 1, by omega⟩
      have : i = len := by omega
      subst this
      rw [he]; simp
    | succ k ih =>
      intro i n s hi hn hb
      obtain ⟨m, rfl⟩ : ∃ m, n = m + 1 := ⟨n - 1, by omega⟩
      have hlt : i < len := by omega
      have h1 := hp i hlt
      rw [Nat.add_mul, Nat.one_mul] at hb
      rw [hs m i s hlt (by omega), wrapS hlt hl, ih (i + 1) m _ (by omega) (by omega) (by simp only [List.length_append]; omega), List.range'_succ]
      simp
  have := key len 0 bigN s0 (by omega) (lt_bigN hl) hB
  rw [List.range_eq_range']
  exact this
def journal (l : List XEntry) : List UInt8 := ((List.range l.length).map fun i => match l[i]? with | some e => fmtEntry e ++ [10] | none => []).flatten
theorem ent_piece {l : List XEntry} (i : Nat) (h : i < l.length) : (match l[i]? with | some e => fmtEntry e ++ [10] | none => []).length ≤ 200 := by
  rw [List.getElem?_eq_getElem h]
  have := fmtEntry_len l[i]
  simp only [List.length_append, List.length_cons, List.length_nil]
  omega
theorem impl_JournalText_eq {l : List XEntry} (h : l.length ≤ 1048576) : f_impl_JournalText l = some (journal l) := by
  unfold f_impl_JournalText
  have := cat_loop (L := f_impl_JournalText_1 l) l.length (fun i => match l[i]? with | some e => fmtEntry e ++ [10] | none => []) 200 (le_max h) ent_piece [] (by simp; omega) (fun n i s hi hs => by
    have := fmtEntry_len l[i]
    simp only [f_impl_JournalText_1, dec_nn, hi, decide_true, if_true, ix_at hi, Option.bind_some, impl_FormatEntry_eq, List.getElem?_eq_getElem hi]
    rw [ifc (by simp; omega), ifc (by simp; omega)]) (fun n s => by simp [f_impl_JournalText_1])
  simpa [journal] using this
def deskWord (a : XDesk) (i : Nat) : List UInt8 := match a.Starts[i]?, a.Cleared[i]? with
  | some x, some c => if x < 0 then [32, 45] else [32] ++ itoa x ++ (if c = true then [33] else [])
  | _, _ => []
def deskLine (a : XDesk) : List UInt8 := if deskOk a = true then itoa a.Now ++ ((List.range a.Starts.length).map (deskWord a)).flatten else []
theorem desk_facts {a : XDesk} (h : deskOk a = true) : i64 a.Now ∧ a.Starts.length ≤ 6 ∧ a.Cleared.length = a.Starts.length ∧ ∀ i, i < a.Starts.length → deskOkAt a i = true := by
  simp only [deskOk, Bool.and_eq_true, decide_eq_true_eq, List.all_eq_true, List.mem_range] at h
  obtain ⟨⟨h1, h2⟩, h3, h4, h5⟩ := h
  exact ⟨⟨by omega, by omega⟩, h3, h4, h5⟩
theorem at_facts {a : XDesk} {i : Nat} (h1 : i < a.Starts.length) (h2 : i < a.Cleared.length) (h : deskOkAt a i = true) : -1 ≤ a.Starts[i] ∧ a.Starts[i] ≤ 2880 ∧ (a.Cleared[i] = true → ¬ a.Starts[i] < 0) := by
  simp only [deskOkAt, List.getElem?_eq_getElem h1, List.getElem?_eq_getElem h2, Bool.and_eq_true, decide_eq_true_eq, Bool.not_eq_true', Bool.and_eq_false_iff, decide_eq_false_iff_not] at h
  obtain ⟨⟨a1, a2⟩, a3⟩ := h
  exact ⟨a1, a2, fun e => a3.resolve_left (by rw [e]; decide)⟩
theorem deskWord_len {a : XDesk} (h : deskOk a = true) (i : Nat) (hi : i < a.Starts.length) : (deskWord a i).length ≤ 40 := by
  obtain ⟨_, _, h3, h4⟩ := desk_facts h
  have h2 : i < a.Cleared.length := by omega
  obtain ⟨b1, b2, b3⟩ := at_facts hi h2 (h4 i hi)
  simp only [deskWord, List.getElem?_eq_getElem hi, List.getElem?_eq_getElem h2]
  have := itoa_len (n := a.Starts[i]) ⟨by omega, by omega⟩
  split
  · simp
  · split <;> (simp; omega)
theorem impl_DeskLine_eq (a : XDesk) : f_impl_DeskLine a = some (deskLine a) := by
  unfold f_impl_DeskLine deskLine
  rw [impl_DeskOk_eq]
  simp only [Option.bind_some]
  cases h : deskOk a with
  | false => simp
  | true =>
    obtain ⟨h1, h2, h3, h4⟩ := desk_facts h
    have hn := itoa_len h1
    simp only [if_true, impl_fmt_eq h1, Option.bind_some]
    refine cat_loop (L := f_impl_DeskLine_1 a) a.Starts.length (deskWord a) 40 (by rw [maxLen_val]; omega) (deskWord_len h) _ (by omega) (fun n i s hi hs => ?_) (fun n s => by simp [f_impl_DeskLine_1])
    have hc : i < a.Cleared.length := by omega
    obtain ⟨b1, b2, b3⟩ := at_facts hi hc (h4 i hi)
    have hx : i64 a.Starts[i] := ⟨by omega, by omega⟩
    have hl := itoa_len hx
    simp only [f_impl_DeskLine_1, dec_nn, hi, decide_true, if_true, ix_at hi, Option.bind_some, deskWord, List.getElem?_eq_getElem hi, List.getElem?_eq_getElem hc, ix_at hc, impl_fmt_eq hx]
    by_cases hneg : a.Starts[i] < 0
    · simp only [hneg, decide_true, if_true]
      rw [ifc (by simp; omega)]
    · simp only [hneg, decide_false, Bool.false_eq_true, if_false]
      cases a.Cleared[i] with
      | true =>
        simp only [if_true]
        rw [ifc (by simp; omega), ifc (by simp; omega), ifc (by simp; omega)]
      | false =>
        simp only [Bool.false_eq_true, if_false]
        rw [ifc (by simp; omega), ifc (by simp; omega)]
        simp
theorem clone_eq {xs : List Int} (h : xs.length ≤ 1048576) : f_impl_clone_int xs = some xs := by
  unfold f_impl_clone_int mkS
  have h8 : (xs.length : Int) * ((8 : Nat) : Int) ≤ 140737488355328 := by omega
  rw [if_pos ⟨by omega, by omega, h8, by omega⟩]
  have : appB (List.replicate (Int.toNat 0) (0 : Int)).length xs.length 8 = true := by unfold appB; simp; omega
  simp only [Option.bind_some, this, if_true]
  simp
theorem cloneB_eq {xs : List Bool} (h : xs.length ≤ 1048576) : f_impl_clone_bool xs = some xs := by
  unfold f_impl_clone_bool mkS
  have h8 : (xs.length : Int) * ((1 : Nat) : Int) ≤ 140737488355328 := by omega
  rw [if_pos ⟨by omega, by omega, h8, by omega⟩]
  have : appB (List.replicate (Int.toNat 0) false).length xs.length 1 = true := by unfold appB; simp; omega
  simp only [Option.bind_some, this, if_true]
  simp
theorem copyDesk_eq {a : XDesk} (h1 : a.Starts.length ≤ 1048576) (h2 : a.Cleared.length ≤ 1048576) : f_impl_copyDesk a = some a := by
  simp only [f_impl_copyDesk, clone_eq h1, cloneB_eq h2, Option.bind_some]
theorem l23Copy_eq {a : XDesk} (h1 : a.Starts.length ≤ 1048576) (h2 : a.Cleared.length ≤ 1048576) : f_spec_l23Copy a = some a := by
  have e1 : appB 0 a.Starts.length 8 = true := by unfold appB; simp; omega
  have e2 : appB 0 a.Cleared.length 1 = true := by unfold appB; simp; omega
  simp only [f_spec_l23Copy, e1, e2, if_true]
theorem isIndex_eq (i n : Int) : f_impl_isIndex i n = some (decide (0 ≤ i) && decide (i < n)) := by
  unfold f_impl_isIndex
  by_cases h : 0 ≤ i <;> simp [h]
theorem allowed_same (a : XDesk) (e : XEntry) (h : deskOk a = true) : ∃ v, f_spec_l23Allowed a e = some v ∧ f_impl_applicable a e = some v ∧ (v = true → e.Kind ≠ 4 → (0 ≤ e.Call ∧ e.Call < (a.Starts.length : Int))) := by
  simp only [deskOk, Bool.and_eq_true, decide_eq_true_eq] at h
  obtain ⟨⟨hn, _⟩, hl, hc, _⟩ := h
  have hw : IntKind.i64.wrap ((a.Starts.length : Int) - 1) = (a.Starts.length : Int) - 1 := wrap64 (by omega) (by omega)
  simp only [f_spec_l23Allowed, f_impl_applicable, l01In_eq, within_eq, isIndex_eq, Option.bind_some, hw]
  by_cases hA : a.Now ≤ e.At ∧ e.At ≤ 2880
  rotate_left
  · refine ⟨false, ?_, ?_, by simp⟩
    · by_cases h1 : a.Now ≤ e.At <;> by_cases h2 : e.At ≤ 2880 <;> simp [h1, h2] <;> exact (hA ⟨h1, h2⟩).elim
    · by_cases h1 : a.Now ≤ e.At <;> by_cases h2 : e.At ≤ 2880 <;> simp [h1, h2] <;> exact (hA ⟨h1, h2⟩).elim
  obtain ⟨hA1, hA2⟩ := hA
  simp only [hA1, hA2, decide_true, Bool.and_self, if_true]
  by_cases h4 : e.Kind = 4
  · simp only [h4]
    by_cases c0 : e.Call = 0 <;> by_cases v0 : e.Value = 0 <;> exact ⟨_, by simp [c0, v0]; rfl, by simp [c0, v0], by simp⟩
  have h4' : (e.Kind == 4) = false := by simpa using h4
  by_cases hi : 0 ≤ e.Call ∧ e.Call < (a.Starts.length : Int)
  rotate_left
  · refine ⟨false, ?_, ?_, by simp⟩
    · have : (decide (0 ≤ e.Call) && decide (e.Call ≤ (a.Starts.length : Int) - 1)) = false := by
        by_cases h1 : 0 ≤ e.Call <;> by_cases h2 : e.Call ≤ (a.Starts.length : Int) - 1 <;> simp [h1, h2] <;> exact (hi ⟨h1, by omega⟩).elim
      simp only [this, h4', Bool.false_eq_true, if_false]
      cases (decide (1 ≤ e.Kind) && decide (e.Kind ≤ 4)) <;> simp
    · have : (decide (0 ≤ e.Call) && decide (e.Call < (a.Starts.length : Int))) = false := by
        by_cases h1 : 0 ≤ e.Call <;> by_cases h2 : e.Call < (a.Starts.length : Int) <;> simp [h1, h2] <;> exact (hi ⟨h1, h2⟩).elim
      simp only [this, h4', Bool.false_eq_true, if_false]
  obtain ⟨i, hie⟩ : ∃ i : Nat, e.Call = (i : Int) := ⟨e.Call.toNat, by omega⟩
  rw [hie] at hi ⊢
  have i1 : i < a.Starts.length := by omega
  have i2 : i < a.Cleared.length := by omega
  have g1 : (decide ((0 : Int) ≤ (i : Int)) && decide ((i : Int) ≤ (a.Starts.length : Int) - 1)) = true := by simp; omega
  have g2 : (decide ((0 : Int) ≤ (i : Int)) && decide ((i : Int) < (a.Starts.length : Int))) = true := by simp; omega
  simp only [g1, g2, h4', Bool.false_eq_true, if_false, if_true, ix_at i1, ix_at i2, Option.bind_some]
  generalize a.Starts[i] = s
  generalize a.Cleared[i] = c
  cases c with
  | true =>
    refine ⟨false, ?_, by simp, by simp⟩
    cases (decide (1 ≤ e.Kind) && decide (e.Kind ≤ 4)) <;> simp
  | false =>
    simp only [Bool.false_eq_true, if_false]
    by_cases k1 : e.Kind = 1
    · simp only [k1]
      exact ⟨_, by simp; rfl, by simp, fun _ _ => hi⟩
    by_cases k2 : e.Kind = 2
    · simp only [k2]
      by_cases v0 : e.Value = 0
      · by_cases s1 : e.At ≤ s
        · have s0 : 0 ≤ s := by omega
          exact ⟨true, by simp [v0, s1, s0], by simp [v0, s1], fun _ _ => hi⟩
        · refine ⟨false, ?_, by simp [v0, s1], by simp⟩
          by_cases s0 : 0 ≤ s <;> simp [v0, s1, s0]
      · exact ⟨false, by simp [v0], by simp [v0], by simp⟩
    by_cases k3 : e.Kind = 3
    · simp only [k3]
      by_cases v0 : e.Value = 0 <;> by_cases s0 : 0 ≤ s <;> exact ⟨_, by simp [v0, s0]; rfl, by simp [v0, s0], fun _ _ => hi⟩
    · have : (decide (1 ≤ e.Kind) && decide (e.Kind ≤ 4)) = false := by
        by_cases q1 : 1 ≤ e.Kind <;> by_cases q2 : e.Kind ≤ 4 <;> simp [q1, q2] <;> omega
      have k1' : (e.Kind == 1) = false := by simpa using k1
      have k2' : (e.Kind == 2) = false := by simpa using k2
      have k3' : (e.Kind == 3) = false := by simpa using k3
      exact ⟨false, by simp [this], by simp [k1', k2', k3'], by simp⟩
theorem apply_same (a : XDesk) (e : XEntry) (h1 : a.Starts.length ≤ 1048576) (h2 : a.Cleared.length ≤ 1048576) : ∃ r, f_spec_ApplyEntry a e = some r ∧ f_impl_ApplyEntry a e = some r ∧ r.1.Starts.length = a.Starts.length ∧ r.1.Cleared.length = a.Cleared.length := by
  unfold f_spec_ApplyEntry f_impl_ApplyEntry
  rw [l23Copy_eq h1 h2, copyDesk_eq h1 h2, spec_DeskOk_eq, impl_DeskOk_eq]
  simp only [Option.bind_some]
  cases hd : deskOk a with
  | false => exact ⟨_, by simp [f_spec_ApplyEntry_1]; rfl, by simp [f_impl_ApplyEntry_1], rfl, rfl⟩
  | true =>
    obtain ⟨v, e1, e2, e3⟩ := allowed_same a e hd
    simp only [if_true, e1, e2, Option.bind_some]
    cases v with
    | false => exact ⟨_, by simp [f_spec_ApplyEntry_1]; rfl, by simp [f_impl_ApplyEntry_1], rfl, rfl⟩
    | true =>
      simp only [deskOk, Bool.and_eq_true, decide_eq_true_eq] at hd
      have hc := hd.2.2.1
      by_cases k1 : e.Kind = 1
      · obtain ⟨c0, c1⟩ := e3 rfl (by omega)
        obtain ⟨i, hie⟩ : ∃ i : Nat, e.Call = (i : Int) := ⟨e.Call.toNat, by omega⟩
        have i1 : i < a.Starts.length := by omega
        exact ⟨_, by simp [f_spec_ApplyEntry_1, f_spec_ApplyEntry_2, k1, hie, ix_at i1]; rfl, by simp [f_impl_ApplyEntry_1, f_impl_ApplyEntry_2, k1, hie, ix_at i1], by simp, rfl⟩
      by_cases k2 : e.Kind = 2
      · obtain ⟨c0, c1⟩ := e3 rfl (by omega)
        obtain ⟨i, hie⟩ : ∃ i : Nat, e.Call = (i : Int) := ⟨e.Call.toNat, by omega⟩
        have i2 : i < a.Cleared.length := by omega
        exact ⟨_, by simp [f_spec_ApplyEntry_1, f_spec_ApplyEntry_2, k2, hie, ix_at i2]; rfl, by simp [f_impl_ApplyEntry_1, f_impl_ApplyEntry_2, k2, hie, ix_at i2], rfl, by simp⟩
      by_cases k3 : e.Kind = 3
      · obtain ⟨c0, c1⟩ := e3 rfl (by omega)
        obtain ⟨i, hie⟩ : ∃ i : Nat, e.Call = (i : Int) := ⟨e.Call.toNat, by omega⟩
        have i1 : i < a.Starts.length := by omega
        exact ⟨_, by simp [f_spec_ApplyEntry_1, f_spec_ApplyEntry_2, k3, hie, ix_at i1]; rfl, by simp [f_impl_ApplyEntry_1, f_impl_ApplyEntry_2, k3, hie, ix_at i1], by simp, rfl⟩
      · exact ⟨_, by simp [f_spec_ApplyEntry_1, f_spec_ApplyEntry_2, k1, k2, k3]; rfl, by simp [f_impl_ApplyEntry_1, f_impl_ApplyEntry_2, k1, k2, k3], rfl, rfl⟩
theorem DeskNew_same (a : Int) : ∃ d, f_spec_DeskNew a = some d ∧ f_impl_DeskNew a = some d ∧ d.Starts.length ≤ 6 ∧ d.Cleared.length ≤ 6 := by
  unfold f_spec_DeskNew f_impl_DeskNew
  rw [l01In_eq, within_eq]
  simp only [Option.bind_some]
  by_cases h : (decide (0 ≤ a) && decide (a ≤ 6)) = true
  · have h' := h
    simp only [Bool.and_eq_true, decide_eq_true_eq] at h'
    obtain ⟨m, rfl⟩ : ∃ m : Nat, a = (m : Int) := ⟨a.toNat, by omega⟩
    have key : ∀ (k i n : Nat) (v : List Int) (b : List Bool), i + k = m → k < n → v.length = i → b.length = i → ∃ d, f_spec_DeskNew_1 m n (i : Int) v b = some d ∧ f_impl_DeskNew_1 m n (i : Int) v b = some d ∧ d.Starts.length ≤ 6 ∧ d.Cleared.length ≤ 6 := by
      intro k
      induction k with
      | zero =>
        intro i n v b hi hn hv hb
        obtain ⟨q, rfl⟩ : ∃ q, n = q + 1 := ⟨n - 1, by omega⟩
        have : i = m := by omega
        subst this
        exact ⟨⟨0, v, b⟩, by simp [f_spec_DeskNew_1], by simp [f_impl_DeskNew_1], by simp; omega, by simp; omega⟩
      | succ k ih =>
        intro i n v b hi hn hv hb
        obtain ⟨q, rfl⟩ : ∃ q, n = q + 1 := ⟨n - 1, by omega⟩
        have hlt : i < m := by omega
        have a1 : appB v.length ([(-1 : Int)] : List Int).length 8 = true := by unfold appB; simp; omega
        have a2 : appB b.length ([false] : List Bool).length 1 = true := by unfold appB; simp; omega
        obtain ⟨d, e1, e2, e3⟩ := ih (i + 1) q (v ++ [-1]) (b ++ [false]) (by omega) (by omega) (by simp [hv]) (by simp [hb])
        rw [← wrapS hlt (by rw [maxLen_val]; omega)] at e1 e2
        refine ⟨d, ?_, ?_, e3⟩
        · simp only [f_spec_DeskNew_1, dec_nn, hlt, decide_true, if_true, a1, a2]
          exact e1
        · simp only [f_impl_DeskNew_1, dec_nn, hlt, decide_true, if_true, a1, a2]
          exact e2
    simp only [h, if_true]
    exact key m 0 bigN [] [] (by omega) (lt_bigN (by rw [maxLen_val]; omega)) rfl rfl
  · exact ⟨⟨0, [], []⟩, by simp [h], by simp [h], by simp, by simp⟩
theorem dec_mem {u : Nat} {b : UInt8} (h : b ∈ decDigits u) : isDig b = true := by
  have := digs_dec u
  simp only [digs, Bool.and_eq_true, List.all_eq_true] at this
  exact this.1 b h
theorem itoa_mem {n : Int} {b : UInt8} (h : b ∈ itoa n) : isDig b = true ∨ b = 45 := by
  by_cases h0 : 0 ≤ n
  · obtain ⟨u, rfl⟩ : ∃ u : Nat, n = (u : Int) := ⟨n.toNat, by omega⟩
    rw [itoa_nn] at h
    exact .inl (dec_mem h)
  · obtain ⟨u, hu, rfl⟩ : ∃ u : Nat, 1 ≤ u ∧ n = -(u : Int) := ⟨(-n).toNat, by omega, by omega⟩
    rw [itoa_ng hu] at h
    rcases List.mem_cons.1 h with h | h
    · exact .inr h
    · exact .inl (dec_mem h)
theorem itoa_no {n : Int} {b : UInt8} (h : b ∈ itoa n) : b ≠ 32 ∧ b ≠ 10 ∧ b ≠ 122 := by
  rcases itoa_mem h with h | h
  · simp only [isDig, decide_eq_true_eq] at h
    refine ⟨?_, ?_, ?_⟩ <;> rintro rfl <;> simp at h
  · subst h
    decide
theorem word_ne {k : Int} (h : kindOk k = true) : ∀ b ∈ word4 k, b ≠ 32 ∧ b ≠ 10 ∧ b ≠ 122 := by
  simp only [kindOk, Bool.and_eq_true, decide_eq_true_eq] at h
  have : k = 1 ∨ k = 2 ∨ k = 3 ∨ k = 4 := by omega
  rcases this with rfl | rfl | rfl | rfl <;> decide
theorem entOk_kind {e : XEntry} (h : entOk e = true) : kindOk e.Kind = true := by
  simp only [entOk, Bool.and_eq_true] at h
  exact h.1
theorem fmt_ne (e : XEntry) : ∀ b ∈ fmtEntry e, b ≠ 10 ∧ b ≠ 122 := by
  intro b hb
  unfold fmtEntry at hb
  split at hb
  · rename_i ok
    simp only [entBody, List.mem_append, List.mem_cons, List.not_mem_nil, or_false] at hb
    have hi : ∀ n : Int, b ∈ itoa n → b ≠ 10 ∧ b ≠ 122 := fun n h => (itoa_no h).2
    rcases hb with ((((((((h | h) | h) | h) | h) | h) | h) | (h | h)) | h)
    · exact (word_ne (entOk_kind ok) b h).2
    · subst h; decide
    · exact hi _ h
    · subst h; decide
    · exact hi _ h
    · subst h; decide
    · exact hi _ h
    · subst h; decide
    · subst h; decide
    · exact hi _ h
  · cases hb
theorem fmt_split {e : XEntry} (ok : entOk e = true) : split 32 (fmtEntry e) = [word4 e.Kind, itoa e.At, itoa e.Call, itoa e.Value, 35 :: itoa (sumT (entBody e))] := by
  have : fmtEntry e = join [word4 e.Kind, itoa e.At, itoa e.Call, itoa e.Value, 35 :: itoa (sumT (entBody e))] [32] := by
    unfold fmtEntry
    rw [if_pos ok]
    simp [join_cons, joinTail, entBody]
  rw [this]
  refine split_join 32 _ (by simp) fun w hw b hb => ?_
  simp only [List.mem_cons, List.not_mem_nil, or_false] at hw
  rcases hw with rfl | rfl | rfl | rfl | rfl
  · exact (word_ne (entOk_kind ok) b hb).1
  · exact (itoa_no hb).1
  · exact (itoa_no hb).1
  · exact (itoa_no hb).1
  · rcases List.mem_cons.1 hb with rfl | hb
    · decide
    · exact (itoa_no hb).1
theorem read_fmt {e : XEntry} (ok : entOk e = true) : readEntry (fmtEntry e) = (e, true) := by
  have ok' := ok
  simp only [entOk, Bool.and_eq_true] at ok'
  obtain ⟨h1, h2, h3, h4⟩ := ok'
  obtain ⟨k1, k2⟩ := kind_cases h1
  have n2 := parseN_itoa (min_i64 h2); have n3 := parseN_itoa (min_i64 h3); have n4 := parseN_itoa (min_i64 h4)
  have he : entOf [word4 e.Kind, itoa e.At, itoa e.Call, itoa e.Value, 35 :: itoa (sumT (entBody e))] (kindOf (word4 e.Kind)) = e := by
    simp only [entOf, List.getD_cons_succ, List.getD_cons_zero, numOf, n2, n3, n4, k1]
  have hk : kindOf (word4 e.Kind) ≠ 0 := by
    rw [k1]
    simp only [kindOk, Bool.and_eq_true, decide_eq_true_eq] at h1
    omega
  unfold readEntry
  rw [fmt_split ok]
  simp only [List.length_cons, List.length_nil, List.getD_cons_succ, List.getD_cons_zero, numOk, n2, n3, n4, he, true_and]
  rw [if_pos ⟨hk, trivial⟩]
theorem read_true {s : List UInt8} (h : (readEntry s).2 = true) : ∃ e, fmtEntry e = s := by
  unfold readEntry at h
  split at h
  · rename_i hc
    exact ⟨_, hc.2.2.2.2.2⟩
  · cases h
theorem read_bad {s : List UInt8} (h : (122 : UInt8) ∈ s) : (readEntry s).2 = false := by
  cases hr : (readEntry s).2 with
  | false => rfl
  | true =>
    obtain ⟨e, rfl⟩ := read_true hr
    exact absurd rfl (fmt_ne e 122 h).2
theorem spl_head (c : UInt8) : ∀ (s cur : List UInt8), ∃ x tl, spl c cur s = (cur ++ x) :: tl
  | [], cur => ⟨[], [], by simp [spl]⟩
  | b :: s, cur => by
    unfold spl
    split
    · exact ⟨[], spl c [] s, by simp⟩
    · obtain ⟨x, tl, h⟩ := spl_head c s (cur ++ [b])
      exact ⟨b :: x, tl, by rw [h]; simp⟩
theorem spl_pre (c : UInt8) : ∀ (u cur s : List UInt8), (∀ b ∈ u, b ≠ c) → spl c cur (u ++ s) = spl c (cur ++ u) s
  | [], cur, s, _ => by simp
  | b :: u, cur, s, h => by
    have hb : b ≠ c := h b (by simp)
    rw [List.cons_append, spl]
    rw [if_neg hb, spl_pre c u (cur ++ [b]) s fun x hx => h x (by simp [hx])]
    simp
theorem lines_head {x : List UInt8} {tl : List (List UInt8)} {s : List UInt8} (h : split 10 s = x :: tl) (hx : x ≠ []) : ∃ tl', lines s = x :: tl' := by
  unfold lines
  rw [h]
  split
  · rename_i hl
    cases tl with
    | nil => simp at hl; exact absurd hl hx
    | cons y tl => exact ⟨_, by simp [List.take_succ_cons]; rfl⟩
  · exact ⟨tl, rfl⟩
theorem bad_first {u s : List UInt8} (h1 : ∀ b ∈ u, b ≠ 10) (h2 : (122 : UInt8) ∈ u) : goodPre (lines (u ++ s)) = [] := by
  obtain ⟨x, tl, h⟩ := spl_head 10 s u
  have hs : split 10 (u ++ s) = (u ++ x) :: tl := by
    rw [split, spl_pre 10 u [] s h1]
    simpa using h
  obtain ⟨tl', hl⟩ := lines_head hs (by intro e; have : u = [] := by simpa using (List.append_eq_nil_iff.1 e).1
                                        subst this; cases h2)
  rw [hl, goodPre, read_bad (by simp [h2])]
  simp
theorem lines_cons {w s : List UInt8} (hw : ∀ b ∈ w, b ≠ 10) (hs : s ≠ []) : lines (w ++ 10 :: s) = w :: lines s := by
  have h1 : split 10 (w ++ 10 :: s) = w :: split 10 s := by
    rw [split, spl_word 10 w [] s hw]
    simp [split]
  have hne : split 10 s ≠ [] := spl_ne 10 s []
  unfold lines
  rw [h1]
  obtain ⟨y, tl, hy⟩ : ∃ y tl, split 10 s = y :: tl := by
    cases hq : split 10 s with
    | nil => exact absurd hq hne
    | cons y tl => exact ⟨y, tl, rfl⟩
  rw [hy]
  have e1 : (w :: y :: tl).getD ((w :: y :: tl).length - 1) [] = (y :: tl).getD ((y :: tl).length - 1) [] := by
    simp [List.getD_cons_succ]
  rw [e1]
  split <;> simp [List.take_succ_cons]
def nls (s : List UInt8) : Nat := s.countP (· == 10)
def damaged (t : List UInt8) (at_ : Nat) : List UInt8 := (t.take at_ ++ [122]) ++ t.drop (at_ + 1)
theorem damaged_ne {t : List UInt8} {k : Nat} : damaged t k ≠ [] := by simp [damaged]
theorem damaged_read : ∀ (l : List XEntry) (k : Nat), (∀ e ∈ l, entOk e = true) → k < (l.map fun e => fmtEntry e ++ [10]).flatten.length → (goodPre (lines (damaged (l.map fun e => fmtEntry e ++ [10]).flatten k))).length = nls ((l.map fun e => fmtEntry e ++ [10]).flatten.take k)
  | [], k, _, h => by simp at h
  | e :: l, k, ok, h => by
    have oke := ok e (by simp)
    have hf := fmt_ne e
    have h10 : ∀ b ∈ fmtEntry e, b ≠ 10 := fun b hb => (hf b hb).1
    have hn0 : nls (fmtEntry e) = 0 := List.countP_eq_zero.2 fun b hb => by simpa using h10 b hb
    simp only [List.map_cons, List.flatten_cons, List.append_assoc, List.cons_append, List.nil_append] at h ⊢
    generalize hR : (l.map fun e => fmtEntry e ++ [10]).flatten = r at h ⊢
    by_cases h1 : k ≤ (fmtEntry e).length
    · have ht : (fmtEntry e ++ 10 :: r).take k = (fmtEntry e).take k := by rw [List.take_append_of_le_length h1]
      have e1 : damaged (fmtEntry e ++ 10 :: r) k = ((fmtEntry e).take k ++ [122]) ++ (fmtEntry e ++ 10 :: r).drop (k + 1) := by rw [damaged, ht]
      rw [e1, bad_first (fun b hb => ?_) (by simp), ht]
      · have : nls ((fmtEntry e).take k) = 0 := List.countP_eq_zero.2 fun b hb => by simpa using h10 b (List.mem_of_mem_take hb)
        rw [this]; rfl
      · rcases List.mem_append.1 hb with hb | hb
        · exact h10 b (List.mem_of_mem_take hb)
        · simp at hb; subst hb; decide
    · obtain ⟨j, rfl⟩ : ∃ j, k = (fmtEntry e).length + (j + 1) := ⟨k - (fmtEntry e).length - 1, by omega⟩
      have ht : (fmtEntry e ++ 10 :: r).take ((fmtEntry e).length + (j + 1)) = fmtEntry e ++ 10 :: r.take j := by
        rw [List.take_append, List.take_of_length_le (by omega), show (fmtEntry e).length + (j + 1) - (fmtEntry e).length = j + 1 by omega, List.take_succ_cons]
      have hd : (fmtEntry e ++ 10 :: r).drop ((fmtEntry e).length + (j + 1) + 1) = r.drop (j + 1) := by
        rw [show (fmtEntry e).length + (j + 1) + 1 = (fmtEntry e).length + (j + 2) by omega, List.drop_append, List.drop_of_length_le (by omega), show (fmtEntry e).length + (j + 2) - (fmtEntry e).length = (j + 1) + 1 by omega, List.drop_succ_cons, List.nil_append]
      have e1 : damaged (fmtEntry e ++ 10 :: r) ((fmtEntry e).length + (j + 1)) = fmtEntry e ++ 10 :: damaged r j := by
        rw [damaged, ht, hd, damaged]
        simp
      have hlt : j < r.length := by
        simp only [List.length_append, List.length_cons] at h
        omega
      have ih := damaged_read l j (fun x hx => ok x (by simp [hx])) (by rw [hR]; exact hlt)
      rw [hR] at ih
      rw [e1, lines_cons h10 damaged_ne, goodPre, read_fmt oke, ht]
      simp only [if_true, List.length_cons, ih]
      show nls (r.take j) + 1 = nls (fmtEntry e ++ 10 :: r.take j)
      have : nls (fmtEntry e ++ 10 :: r.take j) = nls (fmtEntry e) + (nls (r.take j) + 1) := by
        unfold nls
        rw [List.countP_append, List.countP_cons]
        simp
      rw [this, hn0]
      omega
structure CurOk (c : Xl01Cur) : Prop where
  i0 : 0 ≤ c.i
  i1 : c.i ≤ (c.b.length : Int)
  len : c.b.length ≤ maxLen
theorem and255 (x : Int) : 0 ≤ bitsV .and .i64 x 255 ∧ bitsV .and .i64 x 255 ≤ 255 := by
  have h : (BitVec.ofInt IntKind.i64.bits x &&& BitVec.ofInt IntKind.i64.bits 255).toNat ≤ 255 := by
    rw [BitVec.toNat_and]
    exact Nat.le_trans Nat.and_le_right (by decide)
  have e : bitsV .and .i64 x 255 = ((BitVec.ofInt IntKind.i64.bits x &&& BitVec.ofInt IntKind.i64.bits 255).toNat : Int) := by
    unfold bitsV
    exact wrap64 (by omega) (by omega)
  rw [e]
  omega
theorem byte_ok {c : Xl01Cur} (h : CurOk c) : ∃ v c', f_spec_l01Byte c = some (v, c') ∧ CurOk c' ∧ 0 ≤ v ∧ v ≤ 255 := by
  unfold f_spec_l01Byte
  have hl := h.len
  rw [maxLen_val] at hl
  by_cases hlt : c.i < (c.b.length : Int)
  · obtain ⟨i, hi⟩ : ∃ i : Nat, c.i = (i : Int) := ⟨c.i.toNat, by have := h.i0; omega⟩
    have h2 : i < c.b.length := by omega
    simp only [hlt, decide_true, if_true]
    rw [hi, ix_at h2]
    simp only [Option.bind_some]
    refine ⟨_, _, rfl, ⟨?_, ?_, h.len⟩, (and255 _).1, (and255 _).2⟩
    · show 0 ≤ IntKind.i64.wrap ((i : Int) + 1)
      rw [wrap64 (by omega) (by omega)]; omega
    · show IntKind.i64.wrap ((i : Int) + 1) ≤ (c.b.length : Int)
      rw [wrap64 (by omega) (by omega)]; omega
  · simp only [hlt, decide_false, Bool.false_eq_true, if_false]
    exact ⟨_, _, rfl, ⟨h.i0, h.i1, h.len⟩, (and255 _).1, (and255 _).2⟩
theorem below_ok {c : Xl01Cur} {n : Int} (h : CurOk c) (hn : n ≤ 1000000) : ∃ v c', f_spec_l01Below c n = some (v, c') ∧ CurOk c' ∧ 0 ≤ v ∧ (0 < n → v < n) ∧ (n ≤ 0 → v = 0) := by
  unfold f_spec_l01Below
  by_cases h0 : n ≤ 0
  · simp only [h0, decide_true, if_true]
    exact ⟨0, c, rfl, h, by omega, fun h => by omega, fun _ => rfl⟩
  simp only [h0, decide_false, Bool.false_eq_true, if_false]
  have hne : (n == 0) = false := by simpa using fun e : n = 0 => h0 (by omega)
  by_cases h1 : n ≤ 256
  · obtain ⟨v, c', e, k1, k2, k3⟩ := byte_ok h
    simp only [h1, decide_true, if_true, e, Option.bind_some, hne, Bool.false_eq_true, if_false]
    have hm := Int.emod_nonneg v (b := n) (by omega)
    have hm2 := Int.emod_lt_of_pos v (b := n) (by omega)
    refine ⟨_, _, rfl, k1, ?_, ?_, fun h => by first | exact h.elim | exact absurd h h0⟩
    · rw [Int.tmod_eq_emod_of_nonneg k2, wrap64 (by omega) (by omega)]; exact hm
    · intro _; rw [Int.tmod_eq_emod_of_nonneg k2, wrap64 (by omega) (by omega)]; exact hm2
  · obtain ⟨v1, c1, e1, a1, a2, a3⟩ := byte_ok h
    obtain ⟨v2, c2, e2, b1, b2, b3⟩ := byte_ok a1
    obtain ⟨v3, c3, e3, d1, d2, d3⟩ := byte_ok b1
    obtain ⟨v4, c4, e4, g1, g2, g3⟩ := byte_ok d1
    simp only [h1, decide_false, Bool.false_eq_true, if_false, e1, e2, e3, e4, Option.bind_some, hne]
    rw [wrap64 (n := v1 * 16777216) (by omega) (by omega), wrap64 (n := v2 * 65536) (by omega) (by omega), wrap64 (n := v3 * 256) (by omega) (by omega), wrap64 (n := v1 * 16777216 + v2 * 65536) (by omega) (by omega),
      wrap64 (n := v1 * 16777216 + v2 * 65536 + v3 * 256) (by omega) (by omega), wrap64 (n := v1 * 16777216 + v2 * 65536 + v3 * 256 + v4) (by omega) (by omega)]
    have k2 : 0 ≤ v1 * 16777216 + v2 * 65536 + v3 * 256 + v4 := by omega
    have hm := Int.emod_nonneg (v1 * 16777216 + v2 * 65536 + v3 * 256 + v4) (b := n) (by omega)
    have hm2 := Int.emod_lt_of_pos (v1 * 16777216 + v2 * 65536 + v3 * 256 + v4) (b := n) (by omega)
    refine ⟨_, _, rfl, g1, ?_, ?_, fun h => by first | exact h.elim | exact absurd h h0⟩
    · rw [Int.tmod_eq_emod_of_nonneg k2, wrap64 (by omega) (by omega)]; exact hm
    · intro _; rw [Int.tmod_eq_emod_of_nonneg k2, wrap64 (by omega) (by omega)]; exact hm2
theorem new_ok {a : List Int} (ha : a.length ≤ maxLen) : ∃ c, f_spec_l01New a = some c ∧ CurOk c := by
  unfold f_spec_l01New
  have key : ∀ (k i n : Nat) (v : Int), i + k = a.length → k < n → ∃ c, f_spec_l01New_1 a n v (i : Int) = some c ∧ CurOk c := by
    intro k
    induction k with
    | zero =>
      intro i n v hi hn
      obtain ⟨m, rfl⟩ : ∃ m, n = m + 1 := ⟨n - 1, by omega⟩
      have : i = a.length := by omega
      subst this
      exact ⟨_, by simp [f_spec_l01New_1, f_spec_l01New_2]; rfl, ⟨by simp, by simp, ha⟩⟩
    | succ k ih =>
      intro i n v hi hn
      obtain ⟨m, rfl⟩ : ∃ m, n = m + 1 := ⟨n - 1, by omega⟩
      have hlt : i < a.length := by omega
      simp only [f_spec_l01New_1, dec_nn, hlt, decide_true, if_true, ix_at hlt, Option.bind_some, wrapS hlt ha]
      by_cases h4 : (i : Int) < 4000
      · simp only [h4, decide_true, if_true]
        exact ih (i + 1) m _ (by omega) (by omega)
      · simp only [h4, decide_false, Bool.false_eq_true, if_false, f_spec_l01New_2]
        exact ⟨_, rfl, ⟨by simp, by simp, ha⟩⟩
  exact key a.length 0 bigN _ (by omega) (lt_bigN ha)
theorem skip_loop {k : Nat} (hk : k ≤ 1000) : ∀ (j i n : Nat) (c : Xl01Cur), i + j = k → j < n → CurOk c → ∃ c', f_spec_l28New_1 (k : Int) n (i : Int) c.b c.i c.h = some c' ∧ CurOk c' := by
  intro j
  induction j with
  | zero =>
    intro i n c hi hn hc
    obtain ⟨m, rfl⟩ : ∃ m, n = m + 1 := ⟨n - 1, by omega⟩
    have : i = k := by omega
    subst this
    refine ⟨c, ?_, hc⟩
    rw [f_spec_l28New_1]
    simp only [Int.lt_irrefl, decide_false, Bool.false_eq_true, if_false]
  | succ j ih =>
    intro i n c hi hn hc
    obtain ⟨m, rfl⟩ : ∃ m, n = m + 1 := ⟨n - 1, by omega⟩
    have hlt : i < k := by omega
    obtain ⟨v, c', e, h1, _, _⟩ := byte_ok hc
    have e' : f_spec_l01Byte ⟨c.b, c.i, c.h⟩ = some (v, c') := e
    rw [f_spec_l28New_1]
    simp only [dec_nn, hlt, decide_true, if_true, e', Option.bind_some]
    rw [wrapS hlt (small_max hk)]
    exact ih (i + 1) m c' (by omega) (by omega) h1
theorem skip_ok {a : List Int} {k : Nat} (hk : k ≤ 1000) (ha : a.length ≤ maxLen) : ∃ c, f_spec_l28New a (k : Int) = some c ∧ CurOk c := by
  unfold f_spec_l28New
  obtain ⟨c, e, hc⟩ := new_ok ha
  have H := skip_loop hk k 0 bigN c (by omega) (lt_bigN (small_max hk)) hc
  rw [show ((0 : Nat) : Int) = 0 from rfl] at H
  rw [e]
  simpa only [Option.bind_some] using H
theorem num_ok {a : List Int} {k : Nat} (hk : k ≤ 1000) (ha : a.length ≤ maxLen) : ∃ v, f_spec_MakeNum a (k : Int) = some v ∧ 0 ≤ v ∧ v ≤ 65535 := by
  unfold f_spec_MakeNum
  obtain ⟨c, e, hc⟩ := skip_ok hk ha
  obtain ⟨v1, c1, e1, a1, a2, a3⟩ := byte_ok hc
  obtain ⟨v2, c2, e2, b1, b2, b3⟩ := byte_ok a1
  simp only [e, e1, e2, Option.bind_some]
  rw [wrap64 (n := v1 * 256) (by omega) (by omega), wrap64 (by omega) (by omega)]
  exact ⟨_, rfl, by omega, by omega⟩
theorem entry_ok {c : Xl01Cur} {d : XDesk} (hc : CurOk c) (hd : d.Starts.length ≤ 6) : ∃ e c', f_spec_l23Entry c d = some (e, c') ∧ CurOk c' := by
  unfold f_spec_l23Entry
  obtain ⟨v1, c1, e1, a1, _⟩ := below_ok (n := 4) hc (by omega)
  obtain ⟨v2, c2, e2, b1, _⟩ := below_ok (n := 20) a1 (by omega)
  obtain ⟨v3, c3, e3, d1, _⟩ := below_ok (n := if (1 : Int) < (d.Starts.length : Int) then (d.Starts.length : Int) else (1 : Int)) b1 (by split <;> omega)
  obtain ⟨v4, c4, e4, g1, _⟩ := below_ok (n := 100) d1 (by omega)
  simp only [e1, e2, e3, Option.bind_some]
  split
  · simp only [e4, Option.bind_some]
    exact ⟨_, _, rfl, g1⟩
  · split
    · exact ⟨_, _, rfl, d1⟩
    · exact ⟨_, _, rfl, d1⟩
theorem allowed_ok (a : XDesk) (e : XEntry) (h : deskOk a = true) : ∃ v, f_spec_l23Allowed a e = some v ∧ (v = true → entOk e = true ∧ (e.Kind ≠ 4 → (0 ≤ e.Call ∧ e.Call < (a.Starts.length : Int)))) := by
  simp only [deskOk, Bool.and_eq_true, decide_eq_true_eq] at h
  obtain ⟨⟨hn, _⟩, hl, hc, _⟩ := h
  have hw : IntKind.i64.wrap ((a.Starts.length : Int) - 1) = (a.Starts.length : Int) - 1 := wrap64 (by omega) (by omega)
  simp only [f_spec_l23Allowed, l01In_eq, Option.bind_some, hw]
  by_cases hA : a.Now ≤ e.At ∧ e.At ≤ 2880
  rotate_left
  · refine ⟨false, ?_, by simp⟩
    by_cases h1 : a.Now ≤ e.At <;> by_cases h2 : e.At ≤ 2880 <;> simp [h1, h2] <;> exact (hA ⟨h1, h2⟩).elim
  obtain ⟨hA1, hA2⟩ := hA
  simp only [hA1, hA2, decide_true, Bool.and_self, if_true]
  by_cases hK : 1 ≤ e.Kind ∧ e.Kind ≤ 4
  rotate_left
  · refine ⟨false, ?_, by simp⟩
    by_cases h1 : 1 ≤ e.Kind <;> by_cases h2 : e.Kind ≤ 4 <;> simp [h1, h2] <;> exact (hK ⟨h1, h2⟩).elim
  obtain ⟨hK1, hK2⟩ := hK
  simp only [hK1, hK2, decide_true, Bool.and_self, if_true]
  have hent : minOk e.Call = true → minOk e.Value = true → entOk e = true := fun g1 g2 => by
    have g3 : minOk e.At = true := by simp only [minOk, Bool.and_eq_true, decide_eq_true_eq]; omega
    have g4 : kindOk e.Kind = true := by simp only [kindOk, Bool.and_eq_true, decide_eq_true_eq]; omega
    simp only [entOk, g1, g2, g3, g4, Bool.and_self]
  by_cases h4 : e.Kind = 4
  · simp only [h4, beq_self_eq_true, if_true]
    by_cases c0 : e.Call = 0
    · simp only [c0, beq_self_eq_true, if_true]
      refine ⟨_, rfl, fun hv => ⟨?_, fun h => absurd rfl h⟩⟩
      have v0 : e.Value = 0 := by simpa using hv
      exact hent (by rw [c0]; rfl) (by rw [v0]; rfl)
    · have : (e.Call == 0) = false := by simpa using c0
      simp only [this, Bool.false_eq_true, if_false]
      exact ⟨false, rfl, by simp⟩
  have h4' : (e.Kind == 4) = false := by simpa using h4
  simp only [h4', Bool.false_eq_true, if_false]
  by_cases hi : 0 ≤ e.Call ∧ e.Call ≤ (a.Starts.length : Int) - 1
  rotate_left
  · refine ⟨false, ?_, by simp⟩
    by_cases h1 : 0 ≤ e.Call <;> by_cases h2 : e.Call ≤ (a.Starts.length : Int) - 1 <;> simp [h1, h2] <;> exact (hi ⟨h1, h2⟩).elim
  obtain ⟨hi1, hi2⟩ := hi
  simp only [hi1, hi2, decide_true, Bool.and_self, if_true]
  have hcall : minOk e.Call = true := by simp only [minOk, Bool.and_eq_true, decide_eq_true_eq]; omega
  have hrange : e.Kind ≠ 4 → (0 ≤ e.Call ∧ e.Call < (a.Starts.length : Int)) := fun _ => ⟨hi1, by omega⟩
  obtain ⟨i, hie⟩ : ∃ i : Nat, e.Call = (i : Int) := ⟨e.Call.toNat, by omega⟩
  have i1 : i < a.Starts.length := by omega
  have i2 : i < a.Cleared.length := by omega
  rw [hie] at *
  simp only [ix_at i1, ix_at i2, Option.bind_some]
  generalize a.Starts[i] = s
  generalize a.Cleared[i] = cl
  cases cl with
  | true => exact ⟨false, rfl, by simp⟩
  | false =>
    simp only [Bool.false_eq_true, if_false]
    by_cases k1 : e.Kind = 1
    · simp only [k1, beq_self_eq_true, if_true]
      refine ⟨_, rfl, fun hv => ⟨?_, fun _ => ⟨by first | trivial | omega, by omega⟩⟩⟩
      simp only [Bool.and_eq_true, decide_eq_true_eq] at hv
      exact hent hcall (by simp only [minOk, Bool.and_eq_true, decide_eq_true_eq]; omega)
    · have k1' : (e.Kind == 1) = false := by simpa using k1
      simp only [k1', Bool.false_eq_true, if_false]
      by_cases v0 : e.Value = 0
      · have hE : entOk e = true := hent hcall (by rw [v0]; rfl)
        simp only [v0, beq_self_eq_true, if_true]
        by_cases s0 : 0 ≤ s
        · simp only [s0, decide_true, if_true]
          split
          · exact ⟨_, rfl, fun _ => ⟨hE, fun _ => ⟨by first | trivial | omega, by omega⟩⟩⟩
          · exact ⟨_, rfl, fun _ => ⟨hE, fun _ => ⟨by first | trivial | omega, by omega⟩⟩⟩
        · simp only [s0, decide_false, Bool.false_eq_true, if_false]
          exact ⟨false, rfl, by simp⟩
      · have : (e.Value == 0) = false := by simpa using v0
        simp only [this, Bool.false_eq_true, if_false]
        exact ⟨false, rfl, by simp⟩
theorem apply_ok (a : XDesk) (e : XEntry) (h1 : a.Starts.length ≤ 6) (h2 : a.Cleared.length ≤ 6) : ∃ r, f_spec_ApplyEntry a e = some r ∧ r.1.Starts.length = a.Starts.length ∧ r.1.Cleared.length = a.Cleared.length ∧ (r.2 = true → entOk e = true) := by
  unfold f_spec_ApplyEntry
  rw [l23Copy_eq (by omega) (by omega), spec_DeskOk_eq]
  simp only [Option.bind_some]
  cases hd : deskOk a with
  | false => exact ⟨_, by simp [f_spec_ApplyEntry_1]; rfl, rfl, rfl, by simp⟩
  | true =>
    obtain ⟨v, e1, e3⟩ := allowed_ok a e hd
    simp only [if_true, e1, Option.bind_some]
    cases v with
    | false => exact ⟨_, by simp [f_spec_ApplyEntry_1]; rfl, rfl, rfl, by simp⟩
    | true =>
      obtain ⟨hE, hr⟩ := e3 rfl
      simp only [deskOk, Bool.and_eq_true, decide_eq_true_eq] at hd
      have hc := hd.2.2.1
      by_cases k1 : e.Kind = 1
      · obtain ⟨c0, c1⟩ := hr (by omega)
        obtain ⟨i, hie⟩ : ∃ i : Nat, e.Call = (i : Int) := ⟨e.Call.toNat, by omega⟩
        have i1 : i < a.Starts.length := by omega
        exact ⟨_, by simp [f_spec_ApplyEntry_1, f_spec_ApplyEntry_2, k1, hie, ix_at i1]; rfl, by simp, rfl, fun _ => hE⟩
      by_cases k2 : e.Kind = 2
      · obtain ⟨c0, c1⟩ := hr (by omega)
        obtain ⟨i, hie⟩ : ∃ i : Nat, e.Call = (i : Int) := ⟨e.Call.toNat, by omega⟩
        have i2 : i < a.Cleared.length := by omega
        exact ⟨_, by simp [f_spec_ApplyEntry_1, f_spec_ApplyEntry_2, k2, hie, ix_at i2]; rfl, rfl, by simp, fun _ => hE⟩
      by_cases k3 : e.Kind = 3
      · obtain ⟨c0, c1⟩ := hr (by omega)
        obtain ⟨i, hie⟩ : ∃ i : Nat, e.Call = (i : Int) := ⟨e.Call.toNat, by omega⟩
        have i1 : i < a.Starts.length := by omega
        exact ⟨_, by simp [f_spec_ApplyEntry_1, f_spec_ApplyEntry_2, k3, hie, ix_at i1]; rfl, by simp, rfl, fun _ => hE⟩
      · exact ⟨_, by simp [f_spec_ApplyEntry_1, f_spec_ApplyEntry_2, k1, k2, k3]; rfl, rfl, rfl, fun _ => hE⟩
theorem draw_loop : ∀ (k n : Nat) (c : Xl01Cur) (d : XDesk) (l : List XEntry), k < n → k ≤ 7 → CurOk c → d.Starts.length ≤ 6 → d.Cleared.length ≤ 6 → (∀ e ∈ l, entOk e = true) → l.length + k ≤ 7 →
    ∃ d' l' c', f_spec_l23Draw_1 n (k : Int) c.b c.i c.h d.Now d.Starts d.Cleared l = some (d', l', c') ∧ d'.Starts.length = d.Starts.length ∧ (∀ e ∈ l', entOk e = true) ∧ l'.length ≤ 7 := by
  intro k
  induction k with
  | zero =>
    intro n c d l hn _ hc h1 h2 hl hlen
    obtain ⟨m, rfl⟩ : ∃ m, n = m + 1 := ⟨n - 1, by omega⟩
    exact ⟨d, l, c, by rw [f_spec_l23Draw_1]; rfl, rfl, hl, by omega⟩
  | succ k ih =>
    intro n c d l hn hk hc h1 h2 hl hlen
    obtain ⟨m, rfl⟩ : ∃ m, n = m + 1 := ⟨n - 1, by omega⟩
    obtain ⟨e, c', e1, hc'⟩ := entry_ok (d := d) hc h1
    obtain ⟨r, e2, r1, r2, r3⟩ := apply_ok d e h1 h2
    have e1' : f_spec_l23Entry ⟨c.b, c.i, c.h⟩ ⟨d.Now, d.Starts, d.Cleared⟩ = some (e, c') := e1
    have e2' : f_spec_ApplyEntry ⟨d.Now, d.Starts, d.Cleared⟩ e = some r := e2
    have hpos : (0 : Int) < ((k + 1 : Nat) : Int) := by omega
    have hw : IntKind.i64.wrap (((k + 1 : Nat) : Int) - 1) = (k : Int) := by rw [wrap64 (by omega) (by omega)]; omega
    simp only [f_spec_l23Draw_1, hpos, decide_true, if_true, e1', e2', Option.bind_some, f_spec_l23Draw_2, hw]
    cases hr : r.2 with
    | true =>
      simp only [if_true]
      rw [ifa (by simp; omega) (by omega)]
      obtain ⟨d', l', c2, q1, q2, q3, q4⟩ := ih m c' r.1 (l ++ [e]) (by omega) (by omega) hc' (by omega) (by omega) (fun x hx => by
        rcases List.mem_append.1 hx with hx | hx
        · exact hl x hx
        · simp at hx; subst hx; exact r3 hr) (by simp; omega)
      exact ⟨d', l', c2, q1, by omega, q3, q4⟩
    | false =>
      simp only [Bool.false_eq_true, if_false]
      exact ih m c' d l (by omega) (by omega) hc' h1 h2 hl (by omega)
theorem new1 : f_spec_DeskNew 1 = some ⟨0, [-1], [false]⟩ ∧ f_spec_DeskNew 2 = some ⟨0, [-1, -1], [false, false]⟩ ∧ f_spec_DeskNew 3 = some ⟨0, [-1, -1, -1], [false, false, false]⟩ := ⟨by kernel_rfl, by kernel_rfl, by kernel_rfl⟩
theorem journal_ok {a : List Int} (ha : a.length ≤ maxLen) : ∃ n l, f_spec_MakeJournal a = some (n, l) ∧ (n = 1 ∨ n = 2 ∨ n = 3) ∧ (∀ e ∈ l, entOk e = true) ∧ l.length ≤ 7 := by
  unfold f_spec_MakeJournal f_spec_l23Draw
  obtain ⟨c, e, hc⟩ := new_ok ha
  obtain ⟨v1, c1, e1, a1, a2, a3, _⟩ := below_ok (n := 3) hc (by omega)
  obtain ⟨v2, c2, e2, b1, b2, b3, _⟩ := below_ok (n := 8) a1 (by omega)
  have a3' := a3 (by omega)
  have b3' := b3 (by omega)
  obtain ⟨k, rfl⟩ : ∃ k : Nat, v2 = (k : Int) := ⟨v2.toNat, by omega⟩
  obtain ⟨n1, n2, n3⟩ := new1
  have hn : ∃ m : Int, IntKind.i64.wrap (1 + v1) = m ∧ (m = 1 ∨ m = 2 ∨ m = 3) := ⟨1 + v1, wrap64 (by omega) (by omega), by omega⟩
  obtain ⟨m, hm, hm3⟩ := hn
  have hd : ∃ d, f_spec_DeskNew m = some d ∧ (d.Starts.length : Int) = m ∧ d.Starts.length ≤ 6 ∧ d.Cleared.length ≤ 6 := by
    rcases hm3 with rfl | rfl | rfl
    · exact ⟨_, n1, rfl, by decide, by decide⟩
    · exact ⟨_, n2, rfl, by decide, by decide⟩
    · exact ⟨_, n3, rfl, by decide, by decide⟩
  obtain ⟨d, hd1, hd2, hd3, hd4⟩ := hd
  obtain ⟨d', l', c', q1, q2, q3, q4⟩ := draw_loop k bigN c2 d [] (by rw [bigN_val]; omega) (by omega) b1 hd3 hd4 (by simp) (by simp; omega)
  simp only [e, e1, e2, hm, hd1, q1, Option.bind_some]
  exact ⟨_, _, rfl, by rw [q2, hd2]; exact hm3, q3, q4⟩
theorem journal_map (l : List XEntry) : journal l = (l.map fun e => fmtEntry e ++ [10]).flatten := by
  unfold journal
  congr 1
  apply List.ext_getElem?
  intro i
  by_cases h : i < l.length
  · simp [h]
  · simp [h]
theorem eqI_eq {xs ys : List Int} (h : xs.length ≤ maxLen) : f_slices_Equal_int xs ys = some (decide (xs = ys)) := by
  unfold f_slices_Equal_int
  by_cases hl : xs.length = ys.length
  · have := eq_loop (L := f_slices_Equal_int_1 xs ys) xs ys h hl (fun n i h1 h2 => by simp [f_slices_Equal_int_1, ix_nn, h1, h2]) (fun n => by simp [f_slices_Equal_int_1])
    simp [hl, this]
  · have : ¬ (xs.length : Int) = ys.length := by omega
    have : xs ≠ ys := fun e => hl (by rw [e])
    simp_all
theorem eqB_eq {xs ys : List Bool} (h : xs.length ≤ maxLen) : f_slices_Equal_bool xs ys = some (decide (xs = ys)) := by
  unfold f_slices_Equal_bool
  by_cases hl : xs.length = ys.length
  · have := eq_loop (L := f_slices_Equal_bool_1 xs ys) xs ys h hl (fun n i h1 h2 => by simp [f_slices_Equal_bool_1, ix_nn, h1, h2]) (fun n => by simp [f_slices_Equal_bool_1])
    simp [hl, this]
  · have : ¬ (xs.length : Int) = ys.length := by omega
    have : xs ≠ ys := fun e => hl (by rw [e])
    simp_all
theorem impl_SameDesks_eq {a b : XDesk} (h1 : a.Starts.length ≤ maxLen) (h2 : a.Cleared.length ≤ maxLen) : f_impl_SameDesks a b = some (decide (a = b)) := by
  cases a; cases b
  simp only [f_impl_SameDesks, eqI_eq h1, eqB_eq h2, Option.bind_some, XDesk.mk.injEq]
  split
  · split <;> simp_all
  · simp_all
end Go.Vi
