/-
  Plain laws: texts that are taken apart; numbers read from texts (SplitAny, ParseInt). No condition.
-/
import Derived.Test.YtlnbbhaclhpjjaaDoorPRf
namespace Go.Vi
open Go.Lib
set_option linter.unusedSimpArgs false
set_option linter.unusedVariables false

/-! Parts of a text -/
def spl (c : UInt8) : List UInt8 → List UInt8 → List (List UInt8)
  | cur, [] => [cur]
  | cur, b :: r => if b = c then cur :: spl c [] r else spl c (cur ++ [b]) r
def split (c : UInt8) (s : List UInt8) : List (List UInt8) := spl c [] s
theorem spl_len (c : UInt8) : ∀ (s cur : List UInt8), (spl c cur s).length ≤ s.length + 1
  | [], cur => by simp [spl]
  | b :: r, cur => by
    unfold spl
    split
    · have := spl_len c r []; simp; omega
    · have := spl_len c r (cur ++ [b]); simp; omega
theorem spl_mem (c : UInt8) : ∀ (s cur x : List UInt8), x ∈ spl c cur s → x.length ≤ cur.length + s.length
  | [], cur, x, h => by simp [spl] at h; subst h; simp
  | b :: r, cur, x, h => by
    unfold spl at h
    split at h
    · rcases List.mem_cons.1 h with rfl | h
      · simp
      · have := spl_mem c r [] x h; simp at *; omega
    · have := spl_mem c r (cur ++ [b]) x h; simp at *; omega
theorem spl_ne (c : UInt8) (s cur : List UInt8) : spl c cur s ≠ [] := by
  cases s with
  | nil => simp [spl]
  | cons b r =>
    unfold spl
    split
    · simp
    · exact spl_ne c r _
termination_by s.length
theorem spl_word (c : UInt8) : ∀ (w cur r : List UInt8), (∀ b ∈ w, b ≠ c) → spl c cur (w ++ c :: r) = (cur ++ w) :: spl c [] r
  | [], cur, r, _ => by simp [spl]
  | b :: w, cur, r, h => by
    rw [List.cons_append, spl, if_neg (h b (by simp)), spl_word c w (cur ++ [b]) r fun x hx => h x (by simp [hx])]
    simp
theorem spl_end (c : UInt8) : ∀ (w cur : List UInt8), (∀ b ∈ w, b ≠ c) → spl c cur w = [cur ++ w]
  | [], cur, _ => by simp [spl]
  | b :: w, cur, h => by
    rw [spl, if_neg (h b (by simp)), spl_end c w (cur ++ [b]) fun x hx => h x (by simp [hx])]
    simp
/-- What was joined comes apart again. -/
theorem split_join (c : UInt8) : ∀ (l : List (List UInt8)), l ≠ [] → (∀ w ∈ l, ∀ b ∈ w, b ≠ c) → split c (join l [c]) = l
  | [], h, _ => absurd rfl h
  | [w], _, h => by rw [join_one, split, spl_end c w [] (h w (by simp))]; simp
  | w :: v :: r, _, h => by
    have e : join (w :: v :: r) [c] = w ++ c :: join (v :: r) [c] := by rw [join_cons, join_cons]; simp [joinTail]
    rw [e, split, spl_word c w [] _ (h w (by simp))]
    have := split_join c (v :: r) (by simp) fun x hx => h x (by simp only [List.mem_cons] at hx ⊢; exact .inr hx)
    rw [split] at this
    rw [this]
    simp
theorem bnd_ok {n a b : Nat} (h1 : a ≤ b) (h2 : b ≤ n) : bnd (n : Int) (b : Int) (a : Int) n = some (a, b) := by
  unfold bnd
  rw [if_pos ⟨by omega, by omega, by omega, by omega⟩]
  simp
theorem piece_snoc {s : List UInt8} {a i : Nat} (h1 : a ≤ i) (h2 : i < s.length) : (s.drop a).take (i + 1 - a) = (s.drop a).take (i - a) ++ [s[i]] := by
  rw [show i + 1 - a = (i - a) + 1 by omega, List.take_succ_eq_append_getElem (by simp; omega)]
  simp [show a + (i - a) = i by omega]
theorem toNat_eq {a b : UInt8} : (((a.toNat : Int) == (b.toNat : Int)) = true) ↔ a = b := by
  rw [beq_iff_eq, Int.natCast_inj, UInt8.toNat_inj]
theorem split_loop (L : Nat → Int → Int → List (List UInt8) → Option (List (List UInt8))) (s : List UInt8) (c : UInt8) (hl : s.length ≤ 1048576)
    (hs : ∀ (n i a : Nat) (acc : List (List UInt8)) (hi : i < s.length), a ≤ i → acc.length ≤ i → L (n + 1) (a : Int) (i : Int) acc = if s[i] = c then L n (IntKind.i64.wrap ((i : Int) + 1)) (IntKind.i64.wrap ((i : Int) + 1)) (acc ++ [(s.drop a).take (i - a)]) else L n (a : Int) (IntKind.i64.wrap ((i : Int) + 1)) acc)
    (he : ∀ (n a : Nat) acc, a ≤ s.length → acc.length ≤ s.length → L (n + 1) (a : Int) (s.length : Int) acc = some (acc ++ [(s.drop a).take (s.length - a)])) : L bigN 0 0 [] = some (split c s) := by
  have key : ∀ (k i a n : Nat) (acc : List (List UInt8)), i + k = s.length → k < n → a ≤ i → acc.length ≤ i → L n (a : Int) (i : Int) acc = some (acc ++ spl c ((s.drop a).take (i - a)) (s.drop i)) := by
    intro k
    induction k with
    | zero =>
      intro i a n acc hi hn ha hc
      obtain ⟨m, rfl⟩ : ∃ m, n = m + 1 := ⟨n - 1, by omega⟩
      have : i = s.length := by omega
      subst this
      rw [he m a acc ha hc, List.drop_length, spl]
    | succ k ih =>
      intro i a n acc hi hn ha hc
      obtain ⟨m, rfl⟩ : ∃ m, n = m + 1 := ⟨n - 1, by omega⟩
      have hlt : i < s.length := by omega
      rw [hs m i a acc hlt ha hc, List.drop_eq_getElem_cons hlt, spl, wrapS hlt (le_max hl)]
      by_cases e : s[i] = c
      · rw [if_pos e, if_pos e, ih (i + 1) (i + 1) m _ (by omega) (by omega) (Nat.le_refl _) (by simp; omega)]
        simp
      · rw [if_neg e, if_neg e, ih (i + 1) a m _ (by omega) (by omega) (by omega) (by omega), piece_snoc ha hlt]
  have := key s.length 0 0 bigN [] (by omega) (lt_bigN (le_max hl)) (Nat.le_refl _) (Nat.le_refl _)
  simpa [split] using this
theorem spec_SplitAny_eq {s : List UInt8} {c : UInt8} (hl : s.length ≤ 1048576) : f_spec_SplitAny s [c] = some (split c s) := by
  unfold f_spec_SplitAny
  refine split_loop (f_spec_SplitAny_1 s [c]) s c hl (fun n i a acc hi ha hc => ?_) (fun n a acc ha hc => ?_)
  · obtain ⟨m, hm⟩ : ∃ m, bigN = m + 2 := ⟨bigN - 2, by rw [bigN_val]⟩
    have hb : bnd (s.length : Int) (i : Int) (a : Int) s.length = some (a, i) := bnd_ok ha (by omega)
    rw [f_spec_SplitAny_1]
    simp only [dec_nn, hi, decide_true, if_true]
    rw [hm, f_spec_SplitAny_2]
    simp only [show decide ((0 : Int) < (([c] : List UInt8).length : Int)) = true from rfl, if_true, ix_at hi, Option.bind_some, show ix [c] 0 = some c from rfl]
    by_cases e : s[i] = c
    · rw [if_pos (toNat_eq.2 e), if_pos e, hb]
      simp only [Option.bind_some, f_spec_SplitAny_3]
      rw [ifa (by simp; omega) (by omega)]
    · have e' : ¬ ((s[i].toNat : Int) == (c.toNat : Int)) = true := fun h => e (toNat_eq.1 h)
      rw [if_neg e', if_neg e, f_spec_SplitAny_2]
      rw [show IntKind.i64.wrap ((0 : Int) + 1) = 1 from rfl]
      simp only [show decide ((1 : Int) < (([c] : List UInt8).length : Int)) = false from rfl, Bool.false_eq_true, if_false, f_spec_SplitAny_3]
  · have hb : bnd (s.length : Int) (s.length : Int) (a : Int) s.length = some (a, s.length) := bnd_ok ha (Nat.le_refl _)
    rw [f_spec_SplitAny_1]
    simp only [Int.lt_irrefl, decide_false, Bool.false_eq_true, if_false, hb, Option.bind_some]
    rw [ifa (by simp; omega) (by omega)]
theorem indexByte1 (c b : UInt8) : decide ((0 : Int) ≤ indexByte [c] b) = decide (c = b) := by
  by_cases h : c = b
  · subst h; simp [indexByte]
  · have h' : (c == b) = false := by simpa using h
    simp [indexByte, h, h']
theorem back8 (b : UInt8) : ((b.toNat : Int)).toNat.toUInt8 = b := by simp
theorem impl_SplitAny_eq {s : List UInt8} {c : UInt8} (hl : s.length ≤ 1048576) : f_impl_SplitAny s [c] = some (split c s) := by
  unfold f_impl_SplitAny
  refine split_loop (f_impl_SplitAny_1 s [c]) s c hl (fun n i a acc hi ha hc => ?_) (fun n a acc ha hc => ?_)
  · have hb : bnd (s.length : Int) (i : Int) (a : Int) s.length = some (a, i) := bnd_ok ha (by omega)
    rw [f_impl_SplitAny_1]
    simp only [dec_nn, hi, decide_true, if_true, ix_at hi, Option.bind_some, f_strings_IndexByte, back8, indexByte1, f_impl_SplitAny_2]
    by_cases e : s[i] = c
    · rw [if_pos (decide_eq_true e.symm), if_pos e, hb]
      simp only [Option.bind_some]
      rw [ifa (by simp; omega) (by omega)]
    · have e' : ¬ decide (c = s[i]) = true := by simpa using fun h => e h.symm
      rw [if_neg e', if_neg e]
  · have hb : bnd (s.length : Int) (s.length : Int) (a : Int) s.length = some (a, s.length) := bnd_ok ha (Nat.le_refl _)
    rw [f_impl_SplitAny_1]
    simp only [Int.lt_irrefl, decide_false, Bool.false_eq_true, if_false, hb, Option.bind_some]
    rw [ifa (by simp; omega) (by omega)]

/-! Numbers -/
def digs (t : List UInt8) : Bool := t.all isDig && decide (0 < t.length)
theorem isDig_dec (b : UInt8) : isDig b = (!decide ((b.toNat : Int) < 48) && !decide ((57 : Int) < (b.toNat : Int))) := by
  unfold isDig
  rw [Bool.eq_iff_iff]
  simp only [Bool.and_eq_true, Bool.not_eq_true', decide_eq_false_iff_not, decide_eq_true_eq]
  omega
theorem spec_IsDigits_eq {t : List UInt8} (h : t.length ≤ maxLen) : f_spec_IsDigits t = some (digs t) := by
  unfold f_spec_IsDigits digs
  rw [all_loopK (L := f_spec_IsDigits_1 t) t.length (fun i => (t[i]?.map isDig).getD true) (some (decide (0 < t.length))) h (fun n i hi => ?_) (fun n => ?_)]
  · have e : (List.range t.length).all (fun i => (t[i]?.map isDig).getD true) = t.all isDig := by
      rw [Bool.eq_iff_iff]
      simp only [List.all_eq_true, List.mem_range]
      constructor
      · intro H x hx
        obtain ⟨i, hi, rfl⟩ := List.getElem_of_mem hx
        simpa [hi] using H i hi
      · intro H i hi
        simpa [hi] using H _ (List.getElem_mem hi)
    rw [e]
    cases t.all isDig <;> simp
  · simp only [f_spec_IsDigits_1, dec_nn, hi, decide_true, if_true, ix_at hi, Option.bind_some, List.getElem?_eq_getElem hi, Option.map_some, Option.getD_some, isDig_dec]
    cases decide ((t[i].toNat : Int) < 48) <;> cases decide ((57 : Int) < (t[i].toNat : Int)) <;> simp
  · simp [f_spec_IsDigits_1]
def endN (s : List UInt8) (neg : Bool) (v : Int) : Int × Bool := if neg = true then (if itoa v = s then (v, true) else (0, false)) else if v = -9223372036854775808 then (0, false) else (if itoa (-v) = s then (-v, true) else (0, false))
theorem parse5_eq {s : List UInt8} {v : Int} (h : i64 v) : f_spec_ParseInt_5 s v = some (if itoa v = s then (v, true) else (0, false)) := by
  unfold f_spec_ParseInt_5
  rw [fmt_eq h]
  simp only [Option.bind_some, beq_iff_eq]
  split <;> rfl
theorem val_take_le (t : List UInt8) (i : Nat) : val (t.take i) ≤ val t := by
  conv => rhs; rw [← List.take_append_drop i t]
  exact val_mono _ _
theorem parse_loop (s : List UInt8) (neg : Bool) (t : List UInt8) (hd : ∀ b ∈ t, isDig b = true) (hl : t.length ≤ maxLen) : ∀ (k i n : Nat), i + k = t.length → k < n → val (t.take i) ≤ 9223372036854775808 →
    f_spec_ParseInt_4 s neg t n (-(val (t.take i) : Int)) (i : Int) = some (if val t ≤ 9223372036854775808 then endN s neg (-(val t : Int)) else (0, false)) := by
  intro k
  induction k with
  | zero =>
    intro i n hi hn hv
    obtain ⟨m, rfl⟩ : ∃ m, n = m + 1 := ⟨n - 1, by omega⟩
    have : i = t.length := by omega
    subst this
    rw [List.take_length] at hv ⊢
    rw [f_spec_ParseInt_4, if_pos hv]
    simp only [Int.lt_irrefl, decide_false, Bool.false_eq_true, if_false, endN]
    cases neg with
    | true =>
      simp only [if_true]
      rw [parse5_eq ⟨by omega, by omega⟩]
    | false =>
      simp only [Bool.false_eq_true, if_false, beq_iff_eq]
      by_cases e : (-(val t : Int)) = -9223372036854775808
      · simp only [e, if_true]
      · simp only [e, if_false]
        rw [show (0 : Int) - -(val t : Int) = -(-(val t : Int)) by omega, wrap64 (by omega) (by omega), parse5_eq ⟨by omega, by omega⟩]
  | succ k ih =>
    intro i n hi hn hv
    obtain ⟨m, rfl⟩ : ∃ m, n = m + 1 := ⟨n - 1, by omega⟩
    have hlt : i < t.length := by omega
    have hb := hd _ (List.getElem_mem hlt)
    simp only [isDig, decide_eq_true_eq] at hb
    have hnext : val (t.take (i + 1)) = val (t.take i) * 10 + (t[i].toNat - 48) := by rw [List.take_succ_eq_append_getElem hlt, val_snoc]
    rw [f_spec_ParseInt_4]
    simp only [dec_nn, hlt, decide_true, if_true, ix_at hlt, Option.bind_some]
    obtain ⟨d, hdd, hd9⟩ : ∃ d : Nat, t[i].toNat = 48 + d ∧ d ≤ 9 := ⟨t[i].toNat - 48, by omega, by omega⟩
    rw [hdd] at hnext ⊢
    have hnext' : val (t.take (i + 1)) = val (t.take i) * 10 + d := by omega
    rw [show IntKind.i64.wrap (((48 + d : Nat) : Int)) = 48 + (d : Int) by rw [wrap64 (by omega) (by omega)]; rfl, show (48 : Int) + (d : Int) - 48 = (d : Int) by omega, wrap64 (show -9223372036854775808 ≤ (d : Int) by omega) (by omega),
      wrap64 (show -9223372036854775808 ≤ -9223372036854775808 + (d : Int) by omega) (by omega), show (-9223372036854775808 : Int) + (d : Int) = -((9223372036854775808 - d : Nat) : Int) by omega, tdiv_neg,
      wrap64 (show -9223372036854775808 ≤ -((( 9223372036854775808 - d) / 10 : Nat) : Int) by omega) (by omega)]
    by_cases hc : val (t.take i) * 10 + d ≤ 9223372036854775808
    · have hnot : ¬ (-(val (t.take i) : Int)) < -(((9223372036854775808 - d) / 10 : Nat) : Int) := by omega
      simp only [hnot, decide_false, Bool.false_eq_true, if_false]
      rw [wrap64 (show -9223372036854775808 ≤ (-(val (t.take i) : Int)) * 10 by omega) (by omega), wrap64 (by omega) (by omega), wrapS hlt hl]
      have := ih (i + 1) m (by omega) (by omega) (by omega)
      rw [hnext'] at this
      rw [← this]
      congr 1
      omega
    · have hyes : (-(val (t.take i) : Int)) < -(((9223372036854775808 - d) / 10 : Nat) : Int) := by omega
      have := val_take_le t (i + 1)
      simp only [hyes, decide_true, if_true]
      rw [if_neg (by omega)]
theorem parse2_eq {s t : List UInt8} {neg : Bool} (hl : t.length ≤ maxLen) : f_spec_ParseInt_2 s neg t = some (if digs t = true ∧ t.length ≤ 19 ∧ val t ≤ 9223372036854775808 then endN s neg (-(val t : Int)) else (0, false)) := by
  unfold f_spec_ParseInt_2
  rw [spec_IsDigits_eq hl]
  simp only [Option.bind_some]
  by_cases hd : digs t = true
  · simp only [hd, if_true, true_and]
    by_cases h19 : t.length ≤ 19
    · have : ¬ (19 : Int) < (t.length : Int) := by omega
      simp only [this, decide_false, f_spec_ParseInt_3, Bool.false_eq_true, if_false, h19, true_and]
      have hall : ∀ b ∈ t, isDig b = true := by
        simp only [digs, Bool.and_eq_true, List.all_eq_true] at hd
        exact hd.1
      have := parse_loop s neg t hall hl t.length 0 bigN (by omega) (lt_bigN hl) (by simp [val])
      simpa [val] using this
    · have : (19 : Int) < (t.length : Int) := by omega
      simp only [this, decide_true, f_spec_ParseInt_3, if_true, h19, false_and, if_false]
  · simp only [hd, if_false, false_and, f_spec_ParseInt_3, if_true]
    rfl
theorem digs_dec (u : Nat) : digs (decDigits u) = true := by
  simp only [digs, Bool.and_eq_true, List.all_eq_true, decide_eq_true_eq]
  exact ⟨decDigits_dig u, List.length_pos_iff.2 (decDigits_ne u)⟩
theorem endN_none {s : List UInt8} (h : ∀ n, i64 n → itoa n ≠ s) {neg : Bool} {v : Int} (hv : -9223372036854775808 ≤ v ∧ v ≤ 0) : endN s neg v = (0, false) := by
  unfold endN
  cases neg with
  | true => rw [if_pos rfl, if_neg (h v ⟨hv.1, by omega⟩)]
  | false =>
    rw [if_neg (by decide)]
    split
    · rfl
    · rw [if_neg (h (-v) ⟨by omega, by omega⟩)]
def signed (s : List UInt8) : Option (Int × Bool) := match s with
  | [] => f_spec_ParseInt_2 [] false []
  | b :: r => if b = 45 then f_spec_ParseInt_2 (b :: r) true r else f_spec_ParseInt_2 (b :: r) false (b :: r)
theorem signed_eq (s : List UInt8) : f_spec_ParseInt s = signed s := by
  cases s with
  | nil => rfl
  | cons b r =>
    have h0 : (0 : Int) < ((b :: r).length : Int) := by simp
    unfold f_spec_ParseInt signed
    simp only [h0, decide_true, if_true, show ix (b :: r) 0 = some b from rfl, Option.bind_some, f_spec_ParseInt_1]
    by_cases e : b = 45
    · subst e
      have hb : bnd ((45 :: r : List UInt8).length : Int) ((45 :: r : List UInt8).length : Int) 1 (45 :: r : List UInt8).length = some (1, (45 :: r : List UInt8).length) := bnd_ok (a := 1) (by simp) (Nat.le_refl _)
      rw [if_pos (show ((((45 : UInt8).toNat : Int)) == 45) = true from rfl), hb]
      simp
    · have e' : ¬ ((b.toNat : Int) == 45) = true := fun h => e ((toNat_eq (a := b) (b := 45)).1 h)
      rw [if_neg e', if_neg e]
theorem spec_ParseInt_eq {s : List UInt8} (hl : s.length ≤ 1048576) : f_spec_ParseInt s = some (parseN s) := by
  have hm := le_max hl
  rw [signed_eq]
  rcases parseN_cases s with ⟨n, hn, hs, e⟩ | ⟨hno, e⟩
  · rw [e]
    obtain ⟨h1, h2⟩ := hn
    by_cases hneg : n < 0
    · obtain ⟨u, rfl⟩ : ∃ u : Nat, n = -(u : Int) := ⟨n.natAbs, by omega⟩
      have hs' := hs
      rw [itoa_ng (by omega)] at hs'
      subst hs'
      have hl2 := dec_len u (by omega)
      simp only [signed, if_true]
      rw [parse2_eq (by rw [maxLen_val]; omega), if_pos ⟨digs_dec u, hl2, by rw [val_decDigits]; omega⟩, val_decDigits, endN, if_pos rfl, if_pos hs]
    · obtain ⟨u, rfl⟩ : ∃ u : Nat, n = (u : Int) := ⟨n.toNat, by omega⟩
      have hs' := hs
      rw [itoa_nn] at hs'
      obtain ⟨c, r, hc, hdg⟩ := decDigits_head u
      have hl2 := dec_len u (by omega)
      have hv := val_decDigits u
      have hdd := digs_dec u
      have hsc : s = c :: r := by rw [← hs', hc]
      rw [hs'] at hl2 hv hdd
      rw [hsc] at hl2 hv hdd hs hm ⊢
      simp only [signed, dig_ne_minus hdg, if_false]
      rw [parse2_eq hm, if_pos ⟨hdd, hl2, by rw [hv]; omega⟩, hv, endN, if_neg (by decide), if_neg (by omega), if_pos (by rw [Int.neg_neg]; exact hs), Int.neg_neg]
  · rw [e]
    have key : ∀ (neg : Bool) (t : List UInt8), t.length ≤ maxLen → f_spec_ParseInt_2 s neg t = some (0, false) := by
      intro neg t ht
      rw [parse2_eq ht]
      split
      · rename_i h; rw [endN_none hno ⟨by omega, by omega⟩]
      · rfl
    cases s with
    | nil => exact key false [] (by simp)
    | cons b r =>
      simp only [signed]
      split
      · exact key true r (by rw [maxLen_val] at hm ⊢; simp at hm; omega)
      · exact key false _ hm
theorem impl_ParseInt_eq {s : List UInt8} (hl : s.length ≤ 1048576) : f_impl_ParseInt s = some (parseN s) := by
  unfold f_impl_ParseInt
  rw [if_pos (by omega)]
end Go.Vi
