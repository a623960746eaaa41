/-
  Plain laws for RebuildDesk: lines, entries, desks (picked out of the laws of other rounds). No condition.
-/
import Derived.Test.YtldjoojbhbbhdaaGreatDoorJRa
import Derived.Test.YtldjoojbhbbhdaaGreatDoorJMa
namespace Go.Vi
open Go.Lib
set_option linter.unusedSimpArgs false
set_option linter.unusedVariables false

theorem le_big {n : Nat} (h : n ≤ 1100000) : n ≤ maxLen := by rw [maxLen_val]; omega
theorem l01In_eq (n lo hi : Int) : f_spec_l01In n lo hi = some (decide (lo ≤ n) && decide (n ≤ hi)) := by
  unfold f_spec_l01In
  by_cases h : lo ≤ n <;> simp [h]
theorem le_max {n : Nat} (h : n ≤ 1048576) : n ≤ maxLen := by rw [maxLen_val]; omega
theorem foldr_all {len : Nat} (p : Nat → Bool) (K : Option Bool) : ∀ (k i : Nat), (List.range' i k).foldr (fun i r => if p i = true then r else some false) K = if (List.range' i k).all p = true then K else some false
  | 0, i => by simp
  | k + 1, i => by
    rw [List.range'_succ, List.foldr_cons, foldr_all (len := len) p K k (i + 1), List.all_cons]
    cases p i <;> rfl
theorem all_loopK {L : Nat → Int → Option Bool} (len : Nat) (p : Nat → Bool) (K : Option Bool) (hl : len ≤ maxLen)
    (hs : ∀ (n i : Nat), i < len → L (n + 1) (i : Int) = if p i = true then L n (IntKind.i64.wrap ((i : Int) + 1)) else some false) (he : ∀ n, L (n + 1) (len : Int) = K) : L bigN 0 = if (List.range len).all p = true then K else some false := by
  have := range_loop L len hl (fun i r => if p i = true then r else some false) K hs he len 0 bigN (by omega) (lt_bigN hl)
  rw [foldr_all (len := len), ← List.range_eq_range'] at this
  exact this
theorem appB_of {m n b : Nat} (h : m + n ≤ 2000000) (hb : b ≤ 1000) : appB m n b = true := by
  unfold appB
  rw [decide_eq_true_eq]
  have : (m + n) * b ≤ 2000000 * 1000 := Nat.mul_le_mul h hb
  omega
theorem ifa {α : Type} {m n b : Nat} (h : m + n ≤ 2000000) (hb : b ≤ 1000) (x y : α) : (if appB m n b = true then x else y) = x := by rw [if_pos (appB_of h hb)]
theorem pred_ix {α : Type} {l : List α} {i : Nat} (h0 : 0 < i) (hi : i < l.length) (hl : l.length ≤ maxLen) : ix l (IntKind.i64.wrap ((i : Int) - 1)) = some (l[i - 1]'(by omega)) := by
  rw [maxLen_val] at hl
  rw [wrap64 (by omega) (by omega), show (i : Int) - 1 = ((i - 1 : Nat) : Int) by omega, ix_at (by omega)]
theorem build_loop {β R : Type} {L : Nat → Int → List β → Option R} (len : Nat) (g : Nat → β) (K : List β → Option R) (hl : len ≤ maxLen)
    (hs : ∀ (n i : Nat) (acc : List β), i < len → acc.length = i → L (n + 1) (i : Int) acc = L n (IntKind.i64.wrap ((i : Int) + 1)) (acc ++ [g i])) (he : ∀ n acc, acc.length = len → L (n + 1) (len : Int) acc = K acc) : L bigN 0 [] = K ((List.range len).map g) := by
  have key : ∀ (k i n : Nat) (acc : List β), i + k = len → k < n → acc.length = i → L n (i : Int) acc = K (acc ++ (List.range' i k).map g) := by
    intro k
    induction k with
    | zero =>
      intro i n acc hi hn ha
      obtain ⟨m, rfl⟩ : ∃ m, n = m + 1 := ⟨n - 1, by omega⟩
      have : i = len := by omega
      subst this
      rw [he _ _ ha]; simp
    | succ k ih =>
      intro i n acc hi hn ha
      obtain ⟨m, rfl⟩ : ∃ m, n = m + 1 := ⟨n - 1, by omega⟩
      rw [hs m i acc (by omega) ha, wrapS (show i < len by omega) hl, ih (i + 1) m _ (by omega) (by omega) (by simp [ha]), List.range'_succ]
      simp
  have := key len 0 bigN [] (by omega) (lt_bigN hl) rfl
  rw [List.range_eq_range']
  simpa using this
theorem range_map {β : Type} (l : List β) (d : β) (n : Nat) (h : n = l.length) : ((List.range n).map fun i => (l[i]?).getD d) = l := by
  subst h
  apply List.ext_getElem
  · simp
  · intro i h1 h2
    simp [h2]
theorem join_len_le {l : List (List UInt8)} {sep : List UInt8} {B : Nat} (h : ∀ x ∈ l, x.length ≤ B) : (join l sep).length ≤ l.length * (B + sep.length) := by
  have key : ∀ r : List (List UInt8), (∀ x ∈ r, x.length ≤ B) → (joinTail sep r).length ≤ r.length * (B + sep.length) := by
    intro r
    induction r with
    | nil => simp [joinTail]
    | cons x r ih =>
      intro hr
      have h1 := ih fun y hy => hr y (by simp [hy])
      have h2 := hr x (by simp)
      simp only [joinTail, List.map_cons, List.flatten_cons, List.length_append, List.length_cons, Nat.add_mul, Nat.one_mul] at h1 ⊢
      omega
  cases l with
  | nil => simp [join, List.intercalate]
  | cons x r =>
    rw [join_cons]
    have h1 := key r fun y hy => h y (by simp [hy])
    have h2 := h x (by simp)
    simp only [List.length_append, List.length_cons, Nat.add_mul, Nat.one_mul] at h1 ⊢
    omega
def spl (c : UInt8) : List UInt8 → List UInt8 → List (List UInt8)
  | cur, [] => [cur]
  | cur, b :: r => if b = c then cur :: spl c [] r else spl c (cur ++ [b]) r
def split (c : UInt8) (s : List UInt8) : List (List UInt8) := spl c [] s
theorem spl_len (c : UInt8) : ∀ (s cur : List UInt8), (spl c cur s).length ≤ s.length + 1
  | [], cur => by simp [spl]
  | b :: r, cur => by
    unfold spl
    split
    · have := spl_len c r []; simp; omega
    · have := spl_len c r (cur ++ [b]); simp; omega
theorem spl_mem (c : UInt8) : ∀ (s cur x : List UInt8), x ∈ spl c cur s → x.length ≤ cur.length + s.length
  | [], cur, x, h => by simp [spl] at h; subst h; simp
  | b :: r, cur, x, h => by
    unfold spl at h
    split at h
    · rcases List.mem_cons.1 h with rfl | h
      · simp
      · have := spl_mem c r [] x h; simp at *; omega
    · have := spl_mem c r (cur ++ [b]) x h; simp at *; omega
theorem spl_ne (c : UInt8) (s cur : List UInt8) : spl c cur s ≠ [] := by
  cases s with
  | nil => simp [spl]
  | cons b r =>
    unfold spl
    split
    · simp
    · exact spl_ne c r _
termination_by s.length
theorem spl_word (c : UInt8) : ∀ (w cur r : List UInt8), (∀ b ∈ w, b ≠ c) → spl c cur (w ++ c :: r) = (cur ++ w) :: spl c [] r
  | [], cur, r, _ => by simp [spl]
  | b :: w, cur, r, h => by
    rw [List.cons_append, spl, if_neg (h b (by simp)), spl_word c w (cur ++ [b]) r fun x hx => h x (by simp [hx])]
    simp
theorem spl_end (c : UInt8) : ∀ (w cur : List UInt8), (∀ b ∈ w, b ≠ c) → spl c cur w = [cur ++ w]
  | [], cur, _ => by simp [spl]
  | b :: w, cur, h => by
    rw [spl, if_neg (h b (by simp)), spl_end c w (cur ++ [b]) fun x hx => h x (by simp [hx])]
    simp
theorem split_join (c : UInt8) : ∀ (l : List (List UInt8)), l ≠ [] → (∀ w ∈ l, ∀ b ∈ w, b ≠ c) → split c (join l [c]) = l
  | [], h, _ => absurd rfl h
  | [w], _, h => by rw [join_one, split, spl_end c w [] (h w (by simp))]; simp
  | w :: v :: r, _, h => by
    have e : join (w :: v :: r) [c] = w ++ c :: join (v :: r) [c] := by rw [join_cons, join_cons]; simp [joinTail]
    rw [e, split, spl_word c w [] _ (h w (by simp))]
    have := split_join c (v :: r) (by simp) fun x hx => h x (by simp only [List.mem_cons] at hx ⊢; exact .inr hx)
    rw [split] at this
    rw [this]
    simp
theorem bnd_ok {n a b : Nat} (h1 : a ≤ b) (h2 : b ≤ n) : bnd (n : Int) (b : Int) (a : Int) n = some (a, b) := by
  unfold bnd
  rw [if_pos ⟨by omega, by omega, by omega, by omega⟩]
  simp
theorem piece_snoc {s : List UInt8} {a i : Nat} (h1 : a ≤ i) (h2 : i < s.length) : (s.drop a).take (i + 1 - a) = (s.drop a).take (i - a) ++ [s[i]] := by
  rw [show i + 1 - a = (i - a) + 1 by omega, List.take_succ_eq_append_getElem (by simp; omega)]
  simp [show a + (i - a) = i by omega]
theorem toNat_eq {a b : UInt8} : (((a.toNat : Int) == (b.toNat : Int)) = true) ↔ a = b := by
  rw [beq_iff_eq, Int.natCast_inj, UInt8.toNat_inj]
theorem split_loop (L : Nat → Int → Int → List (List UInt8) → Option (List (List UInt8))) (s : List UInt8) (c : UInt8) (hl : s.length ≤ 1048576)
    (hs : ∀ (n i a : Nat) (acc : List (List UInt8)) (hi : i < s.length), a ≤ i → acc.length ≤ i → L (n + 1) (a : Int) (i : Int) acc = if s[i] = c then L n (IntKind.i64.wrap ((i : Int) + 1)) (IntKind.i64.wrap ((i : Int) + 1)) (acc ++ [(s.drop a).take (i - a)]) else L n (a : Int) (IntKind.i64.wrap ((i : Int) + 1)) acc)
    (he : ∀ (n a : Nat) acc, a ≤ s.length → acc.length ≤ s.length → L (n + 1) (a : Int) (s.length : Int) acc = some (acc ++ [(s.drop a).take (s.length - a)])) : L bigN 0 0 [] = some (split c s) := by
  have key : ∀ (k i a n : Nat) (acc : List (List UInt8)), i + k = s.length → k < n → a ≤ i → acc.length ≤ i → L n (a : Int) (i : Int) acc = some (acc ++ spl c ((s.drop a).take (i - a)) (s.drop i)) := by
    intro k
    induction k with
    | zero =>
      intro i a n acc hi hn ha hc
      obtain ⟨m, rfl⟩ : ∃ m, n = m + 1 := ⟨n - 1, by omega⟩
      have : i = s.length := by omega
      subst this
      rw [he m a acc ha hc, List.drop_length, spl]
    | succ k ih =>
      intro i a n acc hi hn ha hc
      obtain ⟨m, rfl⟩ : ∃ m, n = m + 1 := ⟨n - 1, by omega⟩
      have hlt : i < s.length := by omega
      rw [hs m i a acc hlt ha hc, List.drop_eq_getElem_cons hlt, spl, wrapS hlt (le_max hl)]
      by_cases e : s[i] = c
      · rw [if_pos e, if_pos e, ih (i + 1) (i + 1) m _ (by omega) (by omega) (Nat.le_refl _) (by simp; omega)]
        simp
      · rw [if_neg e, if_neg e, ih (i + 1) a m _ (by omega) (by omega) (by omega) (by omega), piece_snoc ha hlt]
  have := key s.length 0 0 bigN [] (by omega) (lt_bigN (le_max hl)) (Nat.le_refl _) (Nat.le_refl _)
  simpa [split] using this
theorem spec_SplitAny_eq {s : List UInt8} {c : UInt8} (hl : s.length ≤ 1048576) : f_spec_SplitAny s [c] = some (split c s) := by
  unfold f_spec_SplitAny
  refine split_loop (f_spec_SplitAny_1 s [c]) s c hl (fun n i a acc hi ha hc => ?_) (fun n a acc ha hc => ?_)
  · obtain ⟨m, hm⟩ : ∃ m, bigN = m + 2 := ⟨bigN - 2, by rw [bigN_val]⟩
    have hb : bnd (s.length : Int) (i : Int) (a : Int) s.length = some (a, i) := bnd_ok ha (by omega)
    rw [f_spec_SplitAny_1]
    simp only [dec_nn, hi, decide_true, if_true]
    rw [hm, f_spec_SplitAny_2]
    simp only [show decide ((0 : Int) < (([c] : List UInt8).length : Int)) = true from rfl, if_true, ix_at hi, Option.bind_some, show ix [c] 0 = some c from rfl]
    by_cases e : s[i] = c
    · rw [if_pos (toNat_eq.2 e), if_pos e, hb]
      simp only [Option.bind_some, f_spec_SplitAny_3]
      rw [ifa (by simp; omega) (by omega)]
    · have e' : ¬ ((s[i].toNat : Int) == (c.toNat : Int)) = true := fun h => e (toNat_eq.1 h)
      rw [if_neg e', if_neg e, f_spec_SplitAny_2]
      rw [show IntKind.i64.wrap ((0 : Int) + 1) = 1 from rfl]
      simp only [show decide ((1 : Int) < (([c] : List UInt8).length : Int)) = false from rfl, Bool.false_eq_true, if_false, f_spec_SplitAny_3]
  · have hb : bnd (s.length : Int) (s.length : Int) (a : Int) s.length = some (a, s.length) := bnd_ok ha (Nat.le_refl _)
    rw [f_spec_SplitAny_1]
    simp only [Int.lt_irrefl, decide_false, Bool.false_eq_true, if_false, hb, Option.bind_some]
    rw [ifa (by simp; omega) (by omega)]
theorem indexByte1 (c b : UInt8) : decide ((0 : Int) ≤ indexByte [c] b) = decide (c = b) := by
  by_cases h : c = b
  · subst h; simp [indexByte]
  · have h' : (c == b) = false := by simpa using h
    simp [indexByte, h, h']
theorem back8 (b : UInt8) : ((b.toNat : Int)).toNat.toUInt8 = b := by simp
theorem impl_SplitAny_eq {s : List UInt8} {c : UInt8} (hl : s.length ≤ 1048576) : f_impl_SplitAny s [c] = some (split c s) := by
  unfold f_impl_SplitAny
  refine split_loop (f_impl_SplitAny_1 s [c]) s c hl (fun n i a acc hi ha hc => ?_) (fun n a acc ha hc => ?_)
  · have hb : bnd (s.length : Int) (i : Int) (a : Int) s.length = some (a, i) := bnd_ok ha (by omega)
    rw [f_impl_SplitAny_1]
    simp only [dec_nn, hi, decide_true, if_true, ix_at hi, Option.bind_some, f_strings_IndexByte, back8, indexByte1, f_impl_SplitAny_2]
    by_cases e : s[i] = c
    · rw [if_pos (decide_eq_true e.symm), if_pos e, hb]
      simp only [Option.bind_some]
      rw [ifa (by simp; omega) (by omega)]
    · have e' : ¬ decide (c = s[i]) = true := by simpa using fun h => e h.symm
      rw [if_neg e', if_neg e]
  · have hb : bnd (s.length : Int) (s.length : Int) (a : Int) s.length = some (a, s.length) := bnd_ok ha (Nat.le_refl _)
    rw [f_impl_SplitAny_1]
    simp only [Int.lt_irrefl, decide_false, Bool.false_eq_true, if_false, hb, Option.bind_some]
    rw [ifa (by simp; omega) (by omega)]
def digs (t : List UInt8) : Bool := t.all isDig && decide (0 < t.length)
theorem isDig_dec (b : UInt8) : isDig b = (!decide ((b.toNat : Int) < 48) && !decide ((57 : Int) < (b.toNat : Int))) := by
  unfold isDig
  rw [Bool.eq_iff_iff]
  simp only [Bool.and_eq_true, Bool.not_eq_true', decide_eq_false_iff_not, decide_eq_true_eq]
  omega
theorem spec_IsDigits_eq {t : List UInt8} (h : t.length ≤ maxLen) : f_spec_IsDigits t = some (digs t) := by
  unfold f_spec_IsDigits digs
  rw [all_loopK (L := f_spec_IsDigits_1 t) t.length (fun i => (t[i]?.map isDig).getD true) (some (decide (0 < t.length))) h (fun n i hi => ?_) (fun n => ?_)]
  · have e : (List.range t.length).all (fun i => (t[i]?.map isDig).getD true) = t.all isDig := by
      rw [Bool.eq_iff_iff]
      simp only [List.all_eq_true, List.mem_range]
      constructor
      · intro H x hx
        obtain ⟨i, hi, rfl⟩ := List.getElem_of_mem hx
        simpa [hi] using H i hi
      · intro H i hi
        simpa [hi] using H _ (List.getElem_mem hi)
    rw [e]
    cases t.all isDig <;> simp
  · simp only [f_spec_IsDigits_1, dec_nn, hi, decide_true, if_true, ix_at hi, Option.bind_some, List.getElem?_eq_getElem hi, Option.map_some, Option.getD_some, isDig_dec]
    cases decide ((t[i].toNat : Int) < 48) <;> cases decide ((57 : Int) < (t[i].toNat : Int)) <;> simp
  · simp [f_spec_IsDigits_1]
def endN (s : List UInt8) (neg : Bool) (v : Int) : Int × Bool := if neg = true then (if itoa v = s then (v, true) else (0, false)) else if v = -9223372036854775808 then (0, false) else (if itoa (-v) = s then (-v, true) else (0, false))
theorem parse5_eq {s : List UInt8} {v : Int} (h : i64 v) : f_spec_ParseInt_5 s v = some (if itoa v = s then (v, true) else (0, false)) := by
  unfold f_spec_ParseInt_5
  rw [fmt_eq h]
  simp only [Option.bind_some, beq_iff_eq]
  split <;> rfl
theorem val_take_le (t : List UInt8) (i : Nat) : val (t.take i) ≤ val t := by
  conv => rhs; rw [← List.take_append_drop i t]
  exact val_mono _ _
theorem parse_loop (s : List UInt8) (neg : Bool) (t : List UInt8) (hd : ∀ b ∈ t, isDig b = true) (hl : t.length ≤ maxLen) : ∀ (k i n : Nat), i + k = t.length → k < n → val (t.take i) ≤ 9223372036854775808 →
    f_spec_ParseInt_4 s neg t n (-(val (t.take i) : Int)) (i : Int) = some (if val t ≤ 9223372036854775808 then endN s neg (-(val t : Int)) else (0, false)) := by
  intro k
  induction k with
  | zero =>
    intro i n hi hn hv
    obtain ⟨m, rfl⟩ : ∃ m, n = m + 1 := ⟨n - 1, by omega⟩
    have : i = t.length := by omega
    subst this
    rw [List.take_length] at hv ⊢
    rw [f_spec_ParseInt_4, if_pos hv]
    simp only [Int.lt_irrefl, decide_false, Bool.false_eq_true, if_false, endN]
    cases neg with
    | true =>
      simp only [if_true]
      rw [parse5_eq ⟨by omega, by omega⟩]
    | false =>
      simp only [Bool.false_eq_true, if_false, beq_iff_eq]
      by_cases e : (-(val t : Int)) = -9223372036854775808
      · simp only [e, if_true]
      · simp only [e, if_false]
        rw [show (0 : Int) - -(val t : Int) = -(-(val t : Int)) by omega, wrap64 (by omega) (by omega), parse5_eq ⟨by omega, by omega⟩]
  | succ k ih =>
    intro i n hi hn hv
    obtain ⟨m, rfl⟩ : ∃ m, n = m + 1 := ⟨n - 1, by omega⟩
    have hlt : i < t.length := by omega
    have hb := hd _ (List.getElem_mem hlt)
    simp only [isDig, decide_eq_true_eq] at hb
    have hnext : val (t.take (i + 1)) = val (t.take i) * 10 + (t[i].toNat - 48) := by rw [List.take_succ_eq_append_getElem hlt, val_snoc]
    rw [f_spec_ParseInt_4]
    simp only [dec_nn, hlt, decide_true, if_true, ix_at hlt, Option.bind_some]
    obtain ⟨d, hdd, hd9⟩ : ∃ d : Nat, t[i].toNat = 48 + d ∧ d ≤ 9 := ⟨t[i].toNat - 48, by omega, by omega⟩
    rw [hdd] at hnext ⊢
    have hnext' : val (t.take (i + 1)) = val (t.take i) * 10 + d := by omega
    rw [show IntKind.i64.wrap (((48 + d : Nat) : Int)) = 48 + (d : Int) by rw [wrap64 (by omega) (by omega)]; rfl, show (48 : Int) + (d : Int) - 48 = (d : Int) by omega, wrap64 (show -9223372036854775808 ≤ (d : Int) by omega) (by omega),
      wrap64 (show -9223372036854775808 ≤ -9223372036854775808 + (d : Int) by omega) (by omega), show (-9223372036854775808 : Int) + (d : Int) = -((9223372036854775808 - d : Nat) : Int) by omega, tdiv_neg,
      wrap64 (show -9223372036854775808 ≤ -((( 9223372036854775808 - d) / 10 : Nat) : Int) by omega) (by omega)]
    by_cases hc : val (t.take i) * 10 + d ≤ 9223372036854775808
    · have hnot : ¬ (-(val (t.take i) : Int)) < -(((9223372036854775808 - d) / 10 : Nat) : Int) := by omega
      simp only [hnot, decide_false, Bool.false_eq_true, if_false]
      rw [wrap64 (show -9223372036854775808 ≤ (-(val (t.take i) : Int)) * 10 by omega) (by omega), wrap64 (by omega) (by omega), wrapS hlt hl]
      have := ih (i + 1) m (by omega) (by omega) (by omega)
      rw [hnext'] at this
      rw [← this]
      congr 1
      omega
    · have hyes : (-(val (t.take i) : Int)) < -(((9223372036854775808 - d) / 10 : Nat) : Int) := by omega
      have := val_take_le t (i + 1)
      simp only [hyes, decide_true, if_true]
      rw [if_neg (by omega)]
theorem parse2_eq {s t : List UInt8} {neg : Bool} (hl : t.length ≤ maxLen) : f_spec_ParseInt_2 s neg t = some (if digs t = true ∧ t.length ≤ 19 ∧ val t ≤ 9223372036854775808 then endN s neg (-(val t : Int)) else (0, false)) := by
  unfold f_spec_ParseInt_2
  rw [spec_IsDigits_eq hl]
  simp only [Option.bind_some]
  by_cases hd : digs t = true
  · simp only [hd, if_true, true_and]
    by_cases h19 : t.length ≤ 19
    · have : ¬ (19 : Int) < (t.length : Int) := by omega
      simp only [this, decide_false, f_spec_ParseInt_3, Bool.false_eq_true, if_false, h19, true_and]
      have hall : ∀ b ∈ t, isDig b = true := by
        simp only [digs, Bool.and_eq_true, List.all_eq_true] at hd
        exact hd.1
      have := parse_loop s neg t hall hl t.length 0 bigN (by omega) (lt_bigN hl) (by simp [val])
      simpa [val] using this
    · have : (19 : Int) < (t.length : Int) := by omega
      simp only [this, decide_true, f_spec_ParseInt_3, if_true, h19, false_and, if_false]
  · simp only [hd, if_false, false_and, f_spec_ParseInt_3, if_true]
    rfl
theorem digs_dec (u : Nat) : digs (decDigits u) = true := by
  simp only [digs, Bool.and_eq_true, List.all_eq_true, decide_eq_true_eq]
  exact ⟨decDigits_dig u, List.length_pos_iff.2 (decDigits_ne u)⟩
theorem endN_none {s : List UInt8} (h : ∀ n, i64 n → itoa n ≠ s) {neg : Bool} {v : Int} (hv : -9223372036854775808 ≤ v ∧ v ≤ 0) : endN s neg v = (0, false) := by
  unfold endN
  cases neg with
  | true => rw [if_pos rfl, if_neg (h v ⟨hv.1, by omega⟩)]
  | false =>
    rw [if_neg (by decide)]
    split
    · rfl
    · rw [if_neg (h (-v) ⟨by omega, by omega⟩)]
def signed (s : List UInt8) : Option (Int × Bool) := match s with
  | [] => f_spec_ParseInt_2 [] false []
  | b :: r => if b = 45 then f_spec_ParseInt_2 (b :: r) true r else f_spec_ParseInt_2 (b :: r) false (b :: r)
theorem signed_eq (s : List UInt8) : f_spec_ParseInt s = signed s := by
  cases s with
  | nil => rfl
  | cons b r =>
    have h0 : (0 : Int) < ((b :: r).length : Int) := by simp
    unfold f_spec_ParseInt signed
    simp only [h0, decide_true, if_true, show ix (b :: r) 0 = some b from rfl, Option.bind_some, f_spec_ParseInt_1]
    by_cases e : b = 45
    · subst e
      have hb : bnd ((45 :: r : List UInt8).length : Int) ((45 :: r : List UInt8).length : Int) 1 (45 :: r : List UInt8).length = some (1, (45 :: r : List UInt8).length) := bnd_ok (a := 1) (by simp) (Nat.le_refl _)
      rw [if_pos (show ((((45 : UInt8).toNat : Int)) == 45) = true from rfl), hb]
      simp
    · have e' : ¬ ((b.toNat : Int) == 45) = true := fun h => e ((toNat_eq (a := b) (b := 45)).1 h)
      rw [if_neg e', if_neg e]
theorem spec_ParseInt_eq {s : List UInt8} (hl : s.length ≤ 1048576) : f_spec_ParseInt s = some (parseN s) := by
  have hm := le_max hl
  rw [signed_eq]
  rcases parseN_cases s with ⟨n, hn, hs, e⟩ | ⟨hno, e⟩
  · rw [e]
    obtain ⟨h1, h2⟩ := hn
    by_cases hneg : n < 0
    · obtain ⟨u, rfl⟩ : ∃ u : Nat, n = -(u : Int) := ⟨n.natAbs, by omega⟩
      have hs' := hs
      rw [itoa_ng (by omega)] at hs'
      subst hs'
      have hl2 := dec_len u (by omega)
      simp only [signed, if_true]
      rw [parse2_eq (by rw [maxLen_val]; omega), if_pos ⟨digs_dec u, hl2, by rw [val_decDigits]; omega⟩, val_decDigits, endN, if_pos rfl, if_pos hs]
    · obtain ⟨u, rfl⟩ : ∃ u : Nat, n = (u : Int) := ⟨n.toNat, by omega⟩
      have hs' := hs
      rw [itoa_nn] at hs'
      obtain ⟨c, r, hc, hdg⟩ := decDigits_head u
      have hl2 := dec_len u (by omega)
      have hv := val_decDigits u
      have hdd := digs_dec u
      have hsc : s = c :: r := by rw [← hs', hc]
      rw [hs'] at hl2 hv hdd
      rw [hsc] at hl2 hv hdd hs hm ⊢
      simp only [signed, dig_ne_minus hdg, if_false]
      rw [parse2_eq hm, if_pos ⟨hdd, hl2, by rw [hv]; omega⟩, hv, endN, if_neg (by decide), if_neg (by omega), if_pos (by rw [Int.neg_neg]; exact hs), Int.neg_neg]
  · rw [e]
    have key : ∀ (neg : Bool) (t : List UInt8), t.length ≤ maxLen → f_spec_ParseInt_2 s neg t = some (0, false) := by
      intro neg t ht
      rw [parse2_eq ht]
      split
      · rename_i h; rw [endN_none hno ⟨by omega, by omega⟩]
      · rfl
    cases s with
    | nil => exact key false [] (by simp)
    | cons b r =>
      simp only [signed]
      split
      · exact key true r (by rw [maxLen_val] at hm ⊢; simp at hm; omega)
      · exact key false _ hm
theorem impl_ParseInt_eq {s : List UInt8} (hl : s.length ≤ 1048576) : f_impl_ParseInt s = some (parseN s) := by
  unfold f_impl_ParseInt
  rw [if_pos (by omega)]
def numOk (x : List UInt8) : Bool := (parseN x).2
def numOf (x : List UInt8) : Int := (parseN x).1
theorem num_loop {R : Type} {L : Nat → Int → List Int → Option R} (l : List (List UInt8)) (K : List Int → Option R) (bad : Option R) (hl : l.length ≤ 1100000)
    (hs : ∀ (n i : Nat) (acc : List Int) (hi : i < l.length), acc.length = i → L (n + 1) (i : Int) acc = if numOk l[i] = true then L n (IntKind.i64.wrap ((i : Int) + 1)) (acc ++ [numOf l[i]]) else bad) (he : ∀ n acc, L (n + 1) (l.length : Int) acc = K acc) :
    L bigN 0 [] = if l.all numOk = true then K (l.map numOf) else bad := by
  have key : ∀ (k i n : Nat) (acc : List Int), i + k = l.length → k < n → acc.length = i → L n (i : Int) acc = if (l.drop i).all numOk = true then K (acc ++ (l.drop i).map numOf) else bad := by
    intro k
    induction k with
    | zero =>
      intro i n acc hi hn ha
      obtain ⟨m, rfl⟩ : ∃ m, n = m + 1 := ⟨n - 1, by omega⟩
      have : i = l.length := by omega
      subst this
      rw [he]; simp
    | succ k ih =>
      intro i n acc hi hn ha
      obtain ⟨m, rfl⟩ : ∃ m, n = m + 1 := ⟨n - 1, by omega⟩
      have hlt : i < l.length := by omega
      rw [hs m i acc hlt ha, wrapS hlt (le_big hl), ih (i + 1) m _ (by omega) (by omega) (by simp [ha]), List.drop_eq_getElem_cons hlt, List.all_cons, List.map_cons]
      cases numOk l[i] <;> simp
  have := key l.length 0 bigN [] (by omega) (lt_bigN (le_big hl)) rfl
  simpa using this
theorem impl_parseNumbers_eq {l : List (List UInt8)} (hl : l.length ≤ 1100000) (hx : ∀ x ∈ l, x.length ≤ 1048576) : f_impl_parseNumbers l = some (if l.all numOk = true then (l.map numOf, true) else ([], false)) := by
  unfold f_impl_parseNumbers
  rw [num_loop (L := f_impl_parseNumbers_1 l) l (fun acc => some (acc, true)) (some ([], false)) hl (fun n i acc hi ha => ?_) (fun n acc => by simp [f_impl_parseNumbers_1])]
  · split <;> rfl
  · simp only [f_impl_parseNumbers_1, dec_nn, hi, decide_true, if_true, ix_at hi, Option.bind_some, impl_ParseInt_eq (hx _ (List.getElem_mem hi)), numOk, numOf]
    rw [ifa (by simp; omega) (by omega)]
    rfl
theorem piece_len {c : UInt8} {s : List UInt8} (hl : s.length ≤ 1048576) : (split c s).length ≤ 1100000 ∧ ∀ x ∈ split c s, x.length ≤ 1048576 := by
  refine ⟨?_, fun x hx => ?_⟩
  · have := spl_len c s []
    unfold split
    omega
  · have := spl_mem c s [] x hx
    simp at this
    omega
theorem ix_set {α : Type} {l : List α} {i : Nat} {v : α} (h : i < l.length) : ix (l.set i v) (i : Int) = some v := by
  rw [ix_at (by simpa using h)]; simp
theorem split_lines : ∀ (l : List (List UInt8)), (∀ w ∈ l, ∀ b ∈ w, b ≠ 10) → split 10 (l.map (· ++ [10])).flatten = l ++ [[]]
  | [], _ => rfl
  | w :: l, h => by
    have e : ((w :: l).map (· ++ [10])).flatten = w ++ 10 :: (l.map (· ++ [10])).flatten := by simp
    rw [e, split, spl_word 10 w [] _ (h w (by simp))]
    have := split_lines l fun x hx => h x (by simp [hx])
    rw [split] at this
    rw [this]
    simp
def lines (s : List UInt8) : List (List UInt8) := if (split 10 s).getD ((split 10 s).length - 1) [] = [] then (split 10 s).take ((split 10 s).length - 1) else split 10 s
theorem lines_flat {l : List (List UInt8)} (h : ∀ w ∈ l, ∀ b ∈ w, b ≠ 10) : lines (l.map (· ++ [10])).flatten = l := by
  unfold lines
  rw [split_lines l h]
  simp
theorem lines_all {q : List (List UInt8)} (hq : q ≠ []) (hn : q.length ≤ 1100000) : ((ix q (IntKind.i64.wrap ((q.length : Int) - (1 : Int)))).bind fun x2 =>
    if (x2 == ([] : List UInt8)) = true then ((bnd (q.length : Int) (IntKind.i64.wrap ((q.length : Int) - (1 : Int))) (0 : Int) q.length).bind fun p4 => some ((q.drop p4.1).take (p4.2 - p4.1))) else some q) =
    some (if q.getD (q.length - 1) [] = [] then q.take (q.length - 1) else q) := by
  have h0 : 0 < q.length := List.length_pos_iff.2 hq
  have hw : IntKind.i64.wrap ((q.length : Int) - 1) = ((q.length - 1 : Nat) : Int) := by
    rw [wrap64 (by omega) (by omega)]; omega
  have hlt : q.length - 1 < q.length := by omega
  have hb : bnd (q.length : Int) ((q.length - 1 : Nat) : Int) (0 : Int) q.length = some (0, q.length - 1) := bnd_ok (a := 0) (Nat.zero_le _) (by omega)
  rw [hw, ix_at hlt, hb]
  simp only [Option.bind_some, List.getD_eq_getElem?_getD, List.getElem?_eq_getElem hlt, Option.getD_some, beq_iff_eq, List.drop_zero, Nat.sub_zero]
  split <;> rfl
theorem spec_SplitLines_eq {s : List UInt8} (hl : s.length ≤ 1048576) : f_spec_SplitLines s = some (lines s) := by
  unfold f_spec_SplitLines lines
  rw [spec_SplitAny_eq hl]
  exact lines_all (spl_ne 10 s []) (piece_len hl).1
theorem impl_SplitLines_eq {s : List UInt8} (hl : s.length ≤ 1048576) : f_impl_SplitLines s = some (lines s) := by
  unfold f_impl_SplitLines lines
  rw [impl_SplitAny_eq hl]
  exact lines_all (spl_ne 10 s []) (piece_len hl).1
theorem within_eq (n lo hi : Int) : f_impl_within n lo hi = some (decide (lo ≤ n) && decide (n ≤ hi)) := by
  unfold f_impl_within
  by_cases h : lo ≤ n <;> simp [h]
theorem isMinute_eq (n : Int) : f_impl_isMinute n = some (decide (0 ≤ n) && decide (n ≤ 2880)) := by simp [f_impl_isMinute, within_eq]
theorem wrap_in (n : Int) : i64 (IntKind.i64.wrap n) := by
  unfold i64
  rw [IntKind.wrap_i64]
  omega
theorem sum_loop (s : List UInt8) (hs : s.length ≤ maxLen) : ∀ (k i n : Nat) (h : Int), i + k = s.length → k < n → i64 h → ∃ r, f_spec_SumOfText_1 s n h (i : Int) = some r ∧ f_impl_SumOfText_1 s n h (i : Int) = some r ∧ i64 r := by
  intro k
  induction k with
  | zero =>
    intro i n h hi hn hh
    obtain ⟨m, rfl⟩ : ∃ m, n = m + 1 := ⟨n - 1, by omega⟩
    have : i = s.length := by omega
    subst this
    exact ⟨h, by simp [f_spec_SumOfText_1], by simp [f_impl_SumOfText_1], hh⟩
  | succ k ih =>
    intro i n h hi hn hh
    obtain ⟨m, rfl⟩ : ∃ m, n = m + 1 := ⟨n - 1, by omega⟩
    have hlt : i < s.length := by omega
    rw [f_spec_SumOfText_1, f_impl_SumOfText_1]
    simp only [dec_nn, hlt, decide_true, if_true, ix_at hlt, Option.bind_some, wrapS hlt hs]
    exact ih (i + 1) m _ (by omega) (by omega) (wrap_in _)
def sumT (s : List UInt8) : Int := (f_spec_SumOfText s).getD 0
theorem sum_eq {s : List UInt8} (hs : s.length ≤ maxLen) : f_spec_SumOfText s = some (sumT s) ∧ f_impl_SumOfText s = some (sumT s) ∧ i64 (sumT s) := by
  obtain ⟨r, h1, h2, h3⟩ := sum_loop s hs s.length 0 bigN 7 (by omega) (lt_bigN hs) ⟨by decide, by decide⟩
  have e : f_spec_SumOfText s = some r := h1
  have e2 : sumT s = r := by rw [sumT, e]; rfl
  rw [e2]
  exact ⟨e, h2, h3⟩
def words4 : List (List UInt8) := [[97, 110, 110, 111, 117, 110, 99, 101], [99, 108, 101, 97, 114], [99, 97, 110, 99, 101, 108], [116, 105, 99, 107]]
def word4 (k : Int) : List UInt8 := (words4[(k - 1).toNat]?).getD []
def entBody (e : XEntry) : List UInt8 := word4 e.Kind ++ [32] ++ itoa e.At ++ [32] ++ itoa e.Call ++ [32] ++ itoa e.Value
def kindOk (k : Int) : Bool := decide (1 ≤ k) && decide (k ≤ 4)
def minOk (n : Int) : Bool := decide (0 ≤ n) && decide (n ≤ 2880)
def entOk (e : XEntry) : Bool := kindOk e.Kind && (minOk e.At && (minOk e.Call && minOk e.Value))
def fmtEntry (e : XEntry) : List UInt8 := if entOk e = true then entBody e ++ [32, 35] ++ itoa (sumT (entBody e)) else []
theorem word4_ix {k : Int} (h1 : 1 ≤ k) (h2 : k ≤ 4) : ix words4 (IntKind.i64.wrap (k - 1)) = some (word4 k) ∧ (word4 k).length ≤ 8 ∧ word4 k ≠ [] := by
  rw [wrap64 (by omega) (by omega)]
  have : k = 1 ∨ k = 2 ∨ k = 3 ∨ k = 4 := by omega
  rcases this with rfl | rfl | rfl | rfl <;> exact ⟨rfl, by decide, by decide⟩
theorem min_i64 {n : Int} (h : minOk n = true) : i64 n := by
  simp only [minOk, Bool.and_eq_true, decide_eq_true_eq] at h
  exact ⟨by omega, by omega⟩
theorem entBody_len {e : XEntry} (h : entOk e = true) : (entBody e).length ≤ 100 := by
  simp only [entOk, Bool.and_eq_true] at h
  obtain ⟨h1, h2, h3, h4⟩ := h
  simp only [kindOk, Bool.and_eq_true, decide_eq_true_eq] at h1
  have a := (word4_ix h1.1 h1.2).2.1
  have b := itoa_len (min_i64 h2); have c := itoa_len (min_i64 h3); have d := itoa_len (min_i64 h4)
  simp only [entBody, List.length_append, List.length_cons, List.length_nil]
  omega
theorem small_max {n : Nat} (h : n ≤ 1000) : n ≤ maxLen := by rw [maxLen_val]; omega
theorem fmtEntry_len (e : XEntry) : (fmtEntry e).length ≤ 130 := by
  unfold fmtEntry
  split
  · rename_i h
    have := entBody_len h
    have := itoa_len (sum_eq (s := entBody e) (small_max (by omega))).2.2
    simp only [List.length_append, List.length_cons, List.length_nil]
    omega
  · simp
theorem spec_FormatEntry_eq (e : XEntry) : f_spec_FormatEntry e = some (fmtEntry e) := by
  unfold f_spec_FormatEntry fmtEntry entOk kindOk
  simp only [l01In_eq, Option.bind_some]
  by_cases hk : (decide (1 ≤ e.Kind) && decide (e.Kind ≤ 4)) = true
  rotate_left
  · simp only [hk, Bool.false_eq_true, if_false, Bool.false_and]
  by_cases h2 : minOk e.At = true
  rotate_left
  · have h2' := h2; unfold minOk at h2'
    simp only [hk, if_true, h2, h2', Bool.false_eq_true, if_false, Bool.false_and, Bool.and_false]
  by_cases h3 : minOk e.Call = true
  rotate_left
  · have h2' := h2; have h3' := h3; unfold minOk at h2' h3'
    simp only [hk, if_true, h2', h3, h3', Bool.false_eq_true, if_false, Bool.false_and, Bool.and_false]
  by_cases h4 : minOk e.Value = true
  rotate_left
  · have h2' := h2; have h3' := h3; have h4' := h4; unfold minOk at h2' h3' h4'
    simp only [hk, if_true, h2', h3', h4, h4', Bool.false_eq_true, if_false, Bool.false_and, Bool.and_false]
  have ok : entOk e = true := by simp only [entOk, kindOk, hk, h2, h3, h4, Bool.and_self]
  have hb := entBody_len ok
  have h2' := h2; have h3' := h3; have h4' := h4; unfold minOk at h2' h3' h4'
  simp only [hk, if_true, h2', h3', h4', h2, h3, h4, Bool.and_self]
  simp only [Bool.and_eq_true, decide_eq_true_eq] at hk
  obtain ⟨w1, w2, w3⟩ := word4_ix hk.1 hk.2
  have b := itoa_len (min_i64 h2); have c := itoa_len (min_i64 h3); have d := itoa_len (min_i64 h4)
  obtain ⟨s1, s2, s3⟩ := sum_eq (s := entBody e) (small_max (by omega))
  have s4 := itoa_len s3
  rw [show ix ([([97, 110, 110, 111, 117, 110, 99, 101] : List UInt8), ([99, 108, 101, 97, 114] : List UInt8), ([99, 97, 110, 99, 101, 108] : List UInt8), ([116, 105, 99, 107] : List UInt8)] : List (List UInt8)) (IntKind.i64.wrap (e.Kind - 1)) = some (word4 e.Kind) from w1]
  simp only [Option.bind_some, fmt_eq (min_i64 h2), fmt_eq (min_i64 h3), fmt_eq (min_i64 h4)]
  rw [show ((((((word4 e.Kind ++ [32]) ++ itoa e.At) ++ [32]) ++ itoa e.Call) ++ [32]) ++ itoa e.Value) = entBody e from rfl, s1]
  simp only [Option.bind_some, fmt_eq s3]
  rw [ifc (by simp; omega), ifc (by simp; omega), ifc (by simp; omega), ifc (by simp; omega), ifc (by simp; omega), ifc (by simp; omega), ifc (by simp; omega), ifc (by simp; omega)]
theorem impl_entryName_eq (k : Int) : f_impl_entryName k = some (if kindOk k = true then word4 k else []) := by
  unfold f_impl_entryName
  rw [within_eq]
  simp only [Option.bind_some]
  by_cases hk : kindOk k = true
  · have hk' := hk
    unfold kindOk at hk'
    simp only [hk, hk', if_true]
    simp only [Bool.and_eq_true, decide_eq_true_eq] at hk'
    rw [show ix ([([97, 110, 110, 111, 117, 110, 99, 101] : List UInt8), ([99, 108, 101, 97, 114] : List UInt8), ([99, 97, 110, 99, 101, 108] : List UInt8), ([116, 105, 99, 107] : List UInt8)] : List (List UInt8)) (IntKind.i64.wrap (k - 1)) = some (word4 k) from (word4_ix hk'.1 hk'.2).1]
    rfl
  · have hk' := hk
    unfold kindOk at hk'
    simp only [hk, hk', Bool.false_eq_true, if_false]
theorem join4 (a b c d sep : List UInt8) : join [a, b, c, d] sep = a ++ sep ++ b ++ sep ++ c ++ sep ++ d := by
  rw [join_cons]; simp [joinTail]
theorem impl_FormatEntry_eq (e : XEntry) : f_impl_FormatEntry e = some (fmtEntry e) := by
  unfold f_impl_FormatEntry fmtEntry entOk
  rw [impl_entryName_eq]
  simp only [Option.bind_some, isMinute_eq]
  by_cases hk : kindOk e.Kind = true
  rotate_left
  · simp only [hk, Bool.false_eq_true, if_false, Bool.false_and, beq_self_eq_true, if_true]
  have hk' := hk
  simp only [kindOk, Bool.and_eq_true, decide_eq_true_eq] at hk'
  obtain ⟨w1, w2, w3⟩ := word4_ix hk'.1 hk'.2
  have w4 : (word4 e.Kind == []) = false := by simpa using w3
  simp only [hk, if_true, w4, Bool.false_eq_true, if_false, Bool.true_and]
  by_cases h2 : minOk e.At = true
  rotate_left
  · have h2' := h2; unfold minOk at h2'
    simp only [h2, h2', Bool.false_eq_true, if_false, Bool.false_and, Bool.and_false]
  by_cases h3 : minOk e.Call = true
  rotate_left
  · have h2' := h2; have h3' := h3; unfold minOk at h2' h3'
    simp only [if_true, h2', h3, h3', Bool.false_eq_true, if_false, Bool.false_and, Bool.and_false]
  by_cases h4 : minOk e.Value = true
  rotate_left
  · have h2' := h2; have h3' := h3; have h4' := h4; unfold minOk at h2' h3' h4'
    simp only [if_true, h2', h3', h4, h4', Bool.false_eq_true, if_false, Bool.false_and, Bool.and_false]
  have ok : entOk e = true := by simp only [entOk, hk, h2, h3, h4, Bool.and_self]
  have hb := entBody_len ok
  have h2' := h2; have h3' := h3; have h4' := h4; unfold minOk at h2' h3' h4'
  have b := itoa_len (min_i64 h2); have c := itoa_len (min_i64 h3); have d := itoa_len (min_i64 h4)
  obtain ⟨s1, s2, s3⟩ := sum_eq (s := entBody e) (small_max (by omega))
  have s4 := itoa_len s3
  simp only [if_true, h2', h3', h4', h2, h3, h4, Bool.and_self, impl_fmt_eq (min_i64 h2), impl_fmt_eq (min_i64 h3), impl_fmt_eq (min_i64 h4), Option.bind_some]
  rw [impl_join_eq (by simp) (by rw [join4]; simp; omega), join4, show word4 e.Kind ++ [32] ++ itoa e.At ++ [32] ++ itoa e.Call ++ [32] ++ itoa e.Value = entBody e from rfl]
  simp only [Option.bind_some, s2, impl_fmt_eq s3]
  rw [ifc (by simp; omega), ifc (by simp; omega)]
theorem len5 {α : Type} {l : List α} (h : l.length = 5) : ∃ a b c d e, l = [a, b, c, d, e] := by
  match l, h with
  | [a, b, c, d, e], _ => exact ⟨a, b, c, d, e, rfl⟩
def kindOf (w : List UInt8) : Int := if w = [116, 105, 99, 107] then 4 else if w = [99, 97, 110, 99, 101, 108] then 3 else if w = [99, 108, 101, 97, 114] then 2 else if w = [97, 110, 110, 111, 117, 110, 99, 101] then 1 else 0
def entOf (w : List (List UInt8)) (k : Int) : XEntry := ⟨k, numOf (w.getD 1 []), numOf (w.getD 2 []), numOf (w.getD 3 [])⟩
def nilEnt : XEntry := ⟨0, 0, 0, 0⟩
def readEntry (s : List UInt8) : XEntry × Bool :=
  if (split 32 s).length = 5 ∧ numOk ((split 32 s).getD 1 []) = true ∧ numOk ((split 32 s).getD 2 []) = true ∧ numOk ((split 32 s).getD 3 []) = true ∧ kindOf ((split 32 s).getD 0 []) ≠ 0 ∧ fmtEntry (entOf (split 32 s) (kindOf ((split 32 s).getD 0 []))) = s then (entOf (split 32 s) (kindOf ((split 32 s).getD 0 [])), true) else (nilEnt, false)
theorem part_len {s : List UInt8} (hl : s.length ≤ 1048576) : ∀ x ∈ split 32 s, x.length ≤ 1048576 := fun x hx => by
  have := spl_mem 32 s [] x hx
  simp at this
  omega
theorem spec_ParseEntry_eq {s : List UInt8} (hl : s.length ≤ 1048576) : f_spec_ParseEntry s = some (readEntry s) := by
  unfold f_spec_ParseEntry readEntry
  rw [spec_SplitAny_eq hl]
  simp only [Option.bind_some]
  have hp := part_len hl
  generalize split 32 s = w at hp
  by_cases h5 : w.length = 5
  rotate_left
  · have : (((w.length : Int) != 5) = true) := by simp; omega
    rw [if_pos this, if_neg (fun h => h5 h.1)]
    rfl
  have : ¬ (((w.length : Int) != 5) = true) := by simp; omega
  rw [if_neg this]
  obtain ⟨w0, w1, w2, w3, w4, rfl⟩ := len5 h5
  have l1 := hp w1 (by simp); have l2 := hp w2 (by simp); have l3 := hp w3 (by simp)
  obtain ⟨m, hm⟩ : ∃ m, bigN = m + 5 := ⟨bigN - 5, by rw [bigN_val]⟩
  rw [hm]
  -- the loop over the four words
  have loop : ∀ (k : Int), f_spec_ParseEntry_1 s [w0, w1, w2, w3, w4] (4 : Int) words4 (m + 1) 4 k = some (if numOk w1 = true ∧ numOk w2 = true ∧ numOk w3 = true ∧ k ≠ 0 ∧ fmtEntry ⟨k, numOf w1, numOf w2, numOf w3⟩ = s then (⟨k, numOf w1, numOf w2, numOf w3⟩, true) else (nilEnt, false)) := by
    intro k
    rw [f_spec_ParseEntry_1]
    simp only [show decide ((4 : Int) < 4) = false from rfl, Bool.false_eq_true, if_false, show ix [w0, w1, w2, w3, w4] 1 = some w1 from rfl, show ix [w0, w1, w2, w3, w4] 2 = some w2 from rfl, show ix [w0, w1, w2, w3, w4] 3 = some w3 from rfl,
      Option.bind_some, spec_ParseInt_eq l1, spec_ParseInt_eq l2, spec_ParseInt_eq l3, spec_FormatEntry_eq, f_spec_ParseEntry_2, numOk, numOf]
    by_cases a1 : (parseN w1).2 = true <;> by_cases a2 : (parseN w2).2 = true <;> by_cases a3 : (parseN w3).2 = true <;> simp [a1, a2, a3, nilEnt]
    by_cases hk : k = 0
    · simp [hk]
    · simp only [hk, if_false, not_false_iff, true_and]
      by_cases hf : fmtEntry ⟨k, (parseN w1).1, (parseN w2).1, (parseN w3).1⟩ = s <;> simp [hf]
  have step : ∀ (n : Nat) (i : Int) (k : Int) (x : List UInt8), i < 4 → ix words4 i = some x → f_spec_ParseEntry_1 s [w0, w1, w2, w3, w4] (4 : Int) words4 (n + 1) i k = f_spec_ParseEntry_1 s [w0, w1, w2, w3, w4] (4 : Int) words4 n (IntKind.i64.wrap (i + 1)) (if w0 = x then IntKind.i64.wrap (i + 1) else k) := by
    intro n i k x hi hx
    rw [f_spec_ParseEntry_1]
    simp only [hi, decide_true, if_true, hx, Option.bind_some, show ix [w0, w1, w2, w3, w4] 0 = some w0 from rfl, beq_iff_eq]
    split <;> rfl
  have e4 : f_spec_ParseEntry_1 s [w0, w1, w2, w3, w4] (4 : Int) words4 (m + 5) 0 0 = f_spec_ParseEntry_1 s [w0, w1, w2, w3, w4] (4 : Int) words4 (m + 1) 4 (kindOf w0) := by
    rw [step (m + 4) 0 _ [97, 110, 110, 111, 117, 110, 99, 101] (by omega) rfl, show IntKind.i64.wrap ((0 : Int) + 1) = 1 from rfl, step (m + 3) 1 _ [99, 108, 101, 97, 114] (by omega) rfl, show IntKind.i64.wrap ((1 : Int) + 1) = 2 from rfl,
      step (m + 2) 2 _ [99, 97, 110, 99, 101, 108] (by omega) rfl, show IntKind.i64.wrap ((2 : Int) + 1) = 3 from rfl, step (m + 1) 3 _ [116, 105, 99, 107] (by omega) rfl, show IntKind.i64.wrap ((3 : Int) + 1) = 4 from rfl]
    rfl
  refine (show _ = f_spec_ParseEntry_1 s [w0, w1, w2, w3, w4] (4 : Int) words4 (m + 5) 0 0 from rfl).trans ?_
  rw [e4, loop]
  simp only [List.length_cons, List.length_nil, List.getD_cons_zero, List.getD_cons_succ, entOf, true_and]
theorem kind_cases {k : Int} (h : kindOk k = true) : kindOf (word4 k) = k ∧ ∀ b ∈ word4 k, b ≠ 32 := by
  simp only [kindOk, Bool.and_eq_true, decide_eq_true_eq] at h
  have : k = 1 ∨ k = 2 ∨ k = 3 ∨ k = 4 := by omega
  rcases this with rfl | rfl | rfl | rfl <;> exact ⟨by decide, by decide⟩
theorem fmt_kind {e : XEntry} {s : List UInt8} (h : fmtEntry e = s) (hs : (split 32 s).length = 5) : kindOf ((split 32 s).getD 0 []) = e.Kind ∧ kindOk e.Kind = true := by
  unfold fmtEntry at h
  by_cases ok : entOk e = true
  · rw [if_pos ok] at h
    have hk : kindOk e.Kind = true := by simp only [entOk, Bool.and_eq_true] at ok; exact ok.1
    obtain ⟨k1, k2⟩ := kind_cases hk
    have : split 32 s = word4 e.Kind :: spl 32 [] (itoa e.At ++ [32] ++ itoa e.Call ++ [32] ++ itoa e.Value ++ [32, 35] ++ itoa (sumT (entBody e))) := by
      rw [← h, split, entBody]
      have := spl_word 32 (word4 e.Kind) [] (itoa e.At ++ [32] ++ itoa e.Call ++ [32] ++ itoa e.Value ++ [32, 35] ++ itoa (sumT (entBody e))) k2
      simp only [entBody, List.append_assoc, List.cons_append, List.nil_append] at this ⊢
      exact this
    rw [this]
    exact ⟨k1, hk⟩
  · rw [if_neg ok] at h
    subst h
    simp [split, spl] at hs
theorem impl_ParseEntry_eq {s : List UInt8} (hl : s.length ≤ 1048576) : f_impl_ParseEntry s = some (readEntry s) := by
  unfold f_impl_ParseEntry readEntry
  rw [impl_SplitAny_eq hl]
  simp only [Option.bind_some]
  have hp := part_len hl
  have hfk : ∀ e, fmtEntry e = s → (split 32 s).length = 5 → kindOf ((split 32 s).getD 0 []) = e.Kind ∧ kindOk e.Kind = true := fun e => fmt_kind
  generalize split 32 s = w at hp hfk
  by_cases h5 : w.length = 5
  rotate_left
  · have : (((w.length : Int) != 5) = true) := by simp; omega
    rw [if_pos this, if_neg (fun h => h5 h.1)]
    rfl
  have : ¬ (((w.length : Int) != 5) = true) := by simp; omega
  rw [if_neg this]
  obtain ⟨w0, w1, w2, w3, w4, rfl⟩ := len5 h5
  rw [show bnd ((([w0, w1, w2, w3, w4] : List (List UInt8)).length : Nat) : Int) 4 1 ([w0, w1, w2, w3, w4] : List (List UInt8)).length = some (1, 4) from rfl]
  simp only [Option.bind_some]
  rw [show (([w0, w1, w2, w3, w4] : List (List UInt8)).drop 1).take (4 - 1) = [w1, w2, w3] from rfl, impl_parseNumbers_eq (by simp) (fun x hx => hp x (by simp at hx ⊢; rcases hx with h | h | h <;> simp [h]))]
  simp only [Option.bind_some, List.all_cons, List.all_nil, Bool.and_true, List.map_cons, List.map_nil]
  by_cases hn : (numOk w1 && (numOk w2 && numOk w3)) = true
  rotate_left
  · rw [if_neg hn]
    simp only [Bool.false_eq_true, if_false, List.getD_cons_succ, List.getD_cons_zero]
    rw [if_neg]
    · rfl
    · rintro ⟨_, a, b, c, _⟩
      exact hn (by simp [a, b, c])
  rw [if_pos hn]
  simp only [if_true]
  obtain ⟨m, hm⟩ : ∃ m, bigN = m + 5 := ⟨bigN - 5, by rw [bigN_val]⟩
  rw [hm]
  have step : ∀ (n : Nat) (k : Int), k ≤ 4 → f_impl_ParseEntry_1 s ([numOf w1, numOf w2, numOf w3], true) (n + 1) k = if fmtEntry ⟨k, numOf w1, numOf w2, numOf w3⟩ = s then some (⟨k, numOf w1, numOf w2, numOf w3⟩, true) else f_impl_ParseEntry_1 s ([numOf w1, numOf w2, numOf w3], true) n (IntKind.i64.wrap (k + 1)) := by
    intro n k hk
    rw [f_impl_ParseEntry_1]
    simp only [hk, decide_true, if_true, show ix [numOf w1, numOf w2, numOf w3] 0 = some (numOf w1) from rfl, show ix [numOf w1, numOf w2, numOf w3] 1 = some (numOf w2) from rfl, show ix [numOf w1, numOf w2, numOf w3] 2 = some (numOf w3) from rfl, Option.bind_some, impl_FormatEntry_eq, beq_iff_eq]
  have last : f_impl_ParseEntry_1 s ([numOf w1, numOf w2, numOf w3], true) (m + 1) 5 = some (nilEnt, false) := by
    rw [f_impl_ParseEntry_1]
    rfl
  rw [step (m + 4) 1 (by omega), show IntKind.i64.wrap ((1 : Int) + 1) = 2 from rfl, step (m + 3) 2 (by omega), show IntKind.i64.wrap ((2 : Int) + 1) = 3 from rfl, step (m + 2) 3 (by omega), show IntKind.i64.wrap ((3 : Int) + 1) = 4 from rfl,
    step (m + 1) 4 (by omega), show IntKind.i64.wrap ((4 : Int) + 1) = 5 from rfl, last]
  have hkd : ∀ k, fmtEntry ⟨k, numOf w1, numOf w2, numOf w3⟩ = s → kindOf w0 = k ∧ kindOk k = true := fun k h => hfk _ h rfl
  simp only [Bool.and_eq_true] at hn
  simp only [List.length_cons, List.length_nil, List.getD_cons_zero, List.getD_cons_succ, entOf, true_and, hn.1, hn.2.1, hn.2.2]
  by_cases f : fmtEntry ⟨kindOf w0, numOf w1, numOf w2, numOf w3⟩ = s
  · obtain ⟨_, hk⟩ := hkd _ f
    have hne : kindOf w0 ≠ 0 := fun e => by rw [e] at hk; cases hk
    rw [if_pos (show kindOf w0 ≠ 0 ∧ fmtEntry ⟨kindOf w0, numOf w1, numOf w2, numOf w3⟩ = s from ⟨hne, f⟩)]
    simp only [kindOk, Bool.and_eq_true, decide_eq_true_eq] at hk
    have hno : ∀ k, k ≠ kindOf w0 → ¬ fmtEntry ⟨k, numOf w1, numOf w2, numOf w3⟩ = s := fun k h e => h (hkd k e).1.symm
    have : kindOf w0 = 1 ∨ kindOf w0 = 2 ∨ kindOf w0 = 3 ∨ kindOf w0 = 4 := by omega
    rcases this with e | e | e | e <;> rw [e] at f hno ⊢
    · rw [if_pos f]
    · rw [if_neg (hno 1 (by omega)), if_pos f]
    · rw [if_neg (hno 1 (by omega)), if_neg (hno 2 (by omega)), if_pos f]
    · rw [if_neg (hno 1 (by omega)), if_neg (hno 2 (by omega)), if_neg (hno 3 (by omega)), if_pos f]
  · have hno : ∀ k, ¬ fmtEntry ⟨k, numOf w1, numOf w2, numOf w3⟩ = s := fun k e => f ((hkd k e).1.symm ▸ e)
    rw [if_neg (show ¬ (kindOf w0 ≠ 0 ∧ fmtEntry ⟨kindOf w0, numOf w1, numOf w2, numOf w3⟩ = s) from fun h => f h.2), if_neg (hno 1), if_neg (hno 2), if_neg (hno 3), if_neg (hno 4)]
def goodPre : List (List UInt8) → List XEntry
  | [] => []
  | l :: r => if (readEntry l).2 = true then (readEntry l).1 :: goodPre r else []
theorem goodPre_take : ∀ (n : Nat) (l : List (List UInt8)), goodPre (l.take n) = (goodPre l).take n
  | 0, l => by simp [goodPre]
  | n + 1, [] => by simp [goodPre]
  | n + 1, x :: l => by
    simp only [List.take_succ_cons, goodPre]
    split
    · rw [goodPre_take n l]; simp
    · simp
theorem lines_sub {s x : List UInt8} (h : x ∈ lines s) : x ∈ split 10 s := by
  unfold lines at h
  split at h
  · exact List.mem_of_mem_take h
  · exact h
theorem lines_le {s : List UInt8} (hl : s.length ≤ 1048576) : (lines s).length ≤ 1100000 ∧ ∀ x ∈ lines s, x.length ≤ 1048576 := by
  obtain ⟨h1, h2⟩ := piece_len (c := 10) hl
  refine ⟨?_, fun x hx => h2 x (lines_sub hx)⟩
  unfold lines
  split
  · rw [List.length_take]; omega
  · exact h1
theorem spec_ReadJournal_eq {s : List UInt8} (hl : s.length ≤ 1048576) : f_spec_ReadJournal s = some ((goodPre (lines s)).take 60, (((goodPre (lines s)).take 60).length : Int)) := by
  unfold f_spec_ReadJournal
  rw [spec_SplitLines_eq hl]
  simp only [Option.bind_some]
  obtain ⟨hn, hx⟩ := lines_le hl
  generalize lines s = q at hn hx
  have key : ∀ (k i n : Nat) (acc : List XEntry), i + k = q.length → k < n → acc.length = i → i ≤ 60 → f_spec_ReadJournal_1 q n (i : Int) acc = some (acc ++ (goodPre (q.drop i)).take (60 - i), ((acc ++ (goodPre (q.drop i)).take (60 - i)).length : Int)) := by
    intro k
    induction k with
    | zero =>
      intro i n acc hi hn ha h60
      obtain ⟨m, rfl⟩ : ∃ m, n = m + 1 := ⟨n - 1, by omega⟩
      have : i = q.length := by omega
      subst this
      simp [f_spec_ReadJournal_1, f_spec_ReadJournal_2, goodPre]
    | succ k ih =>
      intro i n acc hi hn2 ha h60
      obtain ⟨m, rfl⟩ : ∃ m, n = m + 1 := ⟨n - 1, by omega⟩
      have hlt : i < q.length := by omega
      simp only [f_spec_ReadJournal_1, dec_nn, hlt, decide_true, if_true, ix_at hlt, Option.bind_some, spec_ParseEntry_eq (hx _ (List.getElem_mem hlt))]
      rw [List.drop_eq_getElem_cons hlt, goodPre]
      by_cases hg : (readEntry q[i]).2 = true
      · simp only [hg, if_true]
        by_cases h6 : i = 60
        · subst h6
          simp [ha, f_spec_ReadJournal_2]
        · have h6' : ¬ (((acc.length : Int) == 60) = true) := by simp; omega
          rw [if_neg h6', ifa (by simp; omega) (by omega), wrapS hlt (le_big hn), ih (i + 1) m _ (by omega) (by omega) (by simp [ha]) (by omega)]
          rw [show 60 - i = (60 - (i + 1)) + 1 by omega, List.take_succ_cons]
          simp
      · simp [hg, f_spec_ReadJournal_2]
  have := key q.length 0 bigN [] (by omega) (lt_bigN (le_big hn)) rfl (by omega)
  simpa using this
theorem readEntries_eq {q : List (List UInt8)} (hn : q.length ≤ 60) (hx : ∀ x ∈ q, x.length ≤ 1048576) : ∃ o, f_impl_readEntries q = some (goodPre q, o) ∧ (o = none ∨ o = some ((goodPre q).length : Int)) := by
  unfold f_impl_readEntries
  have key : ∀ (k i n : Nat) (acc : List XEntry), i + k = q.length → k < n → acc.length = i → ∃ o, f_impl_readEntries_1 q n (i : Int) acc = some (acc ++ goodPre (q.drop i), o) ∧ (o = none ∨ o = some ((acc ++ goodPre (q.drop i)).length : Int)) := by
    intro k
    induction k with
    | zero =>
      intro i n acc hi hn ha
      obtain ⟨m, rfl⟩ : ∃ m, n = m + 1 := ⟨n - 1, by omega⟩
      have : i = q.length := by omega
      subst this
      exact ⟨none, by simp [f_impl_readEntries_1, goodPre], .inl rfl⟩
    | succ k ih =>
      intro i n acc hi hn2 ha
      obtain ⟨m, rfl⟩ : ∃ m, n = m + 1 := ⟨n - 1, by omega⟩
      have hlt : i < q.length := by omega
      simp only [f_impl_readEntries_1, dec_nn, hlt, decide_true, if_true, ix_at hlt, Option.bind_some, impl_ParseEntry_eq (hx _ (List.getElem_mem hlt))]
      rw [List.drop_eq_getElem_cons hlt, goodPre]
      by_cases hg : (readEntry q[i]).2 = true
      · simp only [hg, if_true]
        rw [ifa (by simp; omega) (by omega), wrapS hlt (le_big (by omega))]
        obtain ⟨o, h1, h2⟩ := ih (i + 1) m (acc ++ [(readEntry q[i]).1]) (by omega) (by omega) (by simp [ha])
        refine ⟨o, ?_, ?_⟩
        · rw [← show acc ++ [(readEntry q[i]).1] ++ goodPre (q.drop (i + 1)) = acc ++ (readEntry q[i]).1 :: goodPre (q.drop (i + 1)) by simp]
          exact h1
        · rcases h2 with h2 | h2
          · exact .inl h2
          · exact .inr (by rw [h2]; simp)
      · exact ⟨some (i : Int), by simp [hg], .inr (by simp [hg, ha])⟩
  obtain ⟨o, h1, h2⟩ := key q.length 0 bigN [] (by omega) (lt_bigN (le_big (by omega))) rfl
  exact ⟨o, by simpa using h1, by simpa using h2⟩
theorem impl_ReadJournal_eq {s : List UInt8} (hl : s.length ≤ 1048576) : f_impl_ReadJournal s = some ((goodPre (lines s)).take 60, (((goodPre (lines s)).take 60).length : Int)) := by
  unfold f_impl_ReadJournal
  rw [impl_SplitLines_eq hl]
  simp only [Option.bind_some]
  obtain ⟨hn, hx⟩ := lines_le hl
  generalize lines s = q at hn hx
  have hm : (if (60 : Int) < (q.length : Int) then (60 : Int) else (q.length : Int)) = ((min 60 q.length : Nat) : Int) := by
    split <;> omega
  rw [hm, show (0 : Int) = ((0 : Nat) : Int) from rfl, bnd_ok (Nat.zero_le _) (Nat.min_le_right _ _)]
  simp only [Option.bind_some, List.drop_zero, Nat.sub_zero]
  have ht : q.take (min 60 q.length) = q.take 60 := by
    rcases Nat.le_total 60 q.length with h | h
    · rw [Nat.min_eq_left h]
    · rw [Nat.min_eq_right h, List.take_of_length_le (Nat.le_refl _), List.take_of_length_le h]
  rw [ht]
  obtain ⟨o, h1, h2⟩ := readEntries_eq (q := q.take 60) (by rw [List.length_take]; omega) (fun x h => hx x (List.mem_of_mem_take h))
  rw [h1, goodPre_take] at *
  simp only [Option.bind_some]
  rcases h2 with rfl | rfl
  · rfl
  · simp [goodPre_take]
end Go.Vi
