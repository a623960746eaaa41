/-
  Plain laws, picked out of laws of other rounds by a program. No condition.
-/
import Derived.Test.YtdgobmphhncomaaDoorTNf
import Derived.Test.YtdgobmphhncomaaDoorTVi33
import Derived.Test.YtdgobmphhncomaaDoorTLa
namespace Go.Vi
open Go.Lib
set_option linter.unusedSimpArgs false
set_option linter.unusedVariables false
theorem wrap8 {n : Int} (h0 : 0 ≤ n) (h1 : n ≤ 255) : IntKind.u8.wrap n = n := by
  rw [IntKind.wrap_u8]
  omega
theorem catB_of {m n : Nat} (h : m + n ≤ 140737488355328) : catB m n = true := by
  unfold catB
  rw [decide_eq_true_eq]
  omega
theorem ifc {α : Type} {m n : Nat} (h : m + n ≤ 140737488355328) (x y : α) : (if catB m n = true then x else y) = x := by rw [if_pos (catB_of h)]
theorem dg8 {k : Nat} (h : k < 10) : ([IntKind.u8.wrap (48 + (k : Int))] : List Int).map toU8 = [UInt8.ofNat (48 + k)] := by
  rw [wrap8 (by omega) (by omega)]
  simp only [List.map_cons, List.map_nil, toU8]
  congr 2
theorem itoa_nn (u : Nat) : itoa (u : Int) = decDigits u := itoa_nonneg u
theorem fmt_loop (rec_ : Int → Option (List UInt8)) : ∀ (u n : Nat) (s : List UInt8), u < n → u ≤ 9223372036854775807 → s.length + (decDigits u).length ≤ 1000 → f_spec_FormatInt_1 rec_ n (u : Int) s = some (decDigits u ++ s) := by
  intro u
  induction u using Nat.strongRecOn with
  | _ u ih =>
    intro n s hn hu hs
    obtain ⟨m, rfl⟩ : ∃ m, n = m + 1 := ⟨n - 1, by omega⟩
    have hd1 : 1 ≤ (decDigits u).length := by have := decDigits_ne u; cases h : decDigits u <;> simp_all
    rw [f_spec_FormatInt_1]
    by_cases h : u < 10
    · have hd : ¬ ((9 : Int) < (u : Int)) := by omega
      simp only [hd, decide_false, Bool.false_eq_true, if_false]
      rw [wrap64 (by omega) (by omega), dg8 h, ifc (by simp; omega), decDigits_one h]
    · have hd : (9 : Int) < (u : Int) := by omega
      simp only [hd, decide_true, if_true]
      have e1 : Int.tmod (u : Int) 10 = ((u % 10 : Nat) : Int) := by rw [Int.tmod_eq_emod_of_nonneg (by omega)]; rfl
      have e2 : Int.tdiv (u : Int) 10 = ((u / 10 : Nat) : Int) := by rw [Int.tdiv_eq_ediv_of_nonneg (by omega)]; rfl
      rw [e1, e2, wrap64 (show -9223372036854775808 ≤ ((u % 10 : Nat) : Int) by omega) (by omega), wrap64 (by omega) (by omega), wrap64 (by omega) (by omega), dg8 (by omega), ifc (by simp; omega)]
      rw [decDigits_big h] at hs
      rw [ih (u / 10) (by omega) m _ (by omega) (by omega) (by simp at hs ⊢; omega), decDigits_big h]
      simp
theorem nd_le : ∀ (k u : Nat), u < 10 ^ (k + 1) → nDigits u ≤ k + 1
  | 0, u, h => by rw [nDigits_small (by simpa using h)]; exact Nat.le_refl _
  | k + 1, u, h => by
    by_cases h9 : u < 10
    · rw [nDigits_small h9]; omega
    · rw [nDigits_big h9]
      have := nd_le k (u / 10) (by rw [Nat.pow_succ] at h; omega)
      omega
theorem dec_len (u : Nat) (h : u ≤ 9223372036854775808) : (decDigits u).length ≤ 19 := by
  rw [decDigits_length]
  exact nd_le 18 u (by omega)
theorem tdiv_neg (u : Nat) : Int.tdiv (-(u : Int)) 10 = -((u / 10 : Nat) : Int) := by
  rw [Int.neg_tdiv, Int.tdiv_eq_ediv_of_nonneg (by omega)]; rfl
theorem tmod_neg (u : Nat) : Int.tmod (-(u : Int)) 10 = -((u % 10 : Nat) : Int) := by
  rw [Int.neg_tmod, Int.tmod_eq_emod_of_nonneg (by omega)]; rfl
theorem itoa_ng {u : Nat} (h : 1 ≤ u) : itoa (-(u : Int)) = 45 :: decDigits u := itoa_neg u h
theorem fmt_neg : ∀ (u n : Nat), u < n → 1 ≤ u → u ≤ 9223372036854775808 → f_spec_FormatInt_r n (-(u : Int)) = some (45 :: decDigits u) := by
  intro u
  induction u using Nat.strongRecOn with
  | _ u ih =>
    intro n hn h1 hu
    obtain ⟨m, rfl⟩ : ∃ m, n = m + 1 := ⟨n - 1, by omega⟩
    have hl := dec_len u hu
    rw [f_spec_FormatInt_r, f_spec_FormatInt_b]
    have hd : -(u : Int) < 0 := by omega
    simp only [hd, decide_true, if_true]
    rw [tdiv_neg, tmod_neg, wrap64 (show -9223372036854775808 ≤ -((u / 10 : Nat) : Int) by omega) (by omega)]
    by_cases h : u < 10
    · have e0 : u / 10 = 0 := by omega
      rw [e0]
      simp only [Int.ofNat_zero, Int.neg_zero, beq_self_eq_true, if_true]
      rw [show (48 : Int) - -(u : Int) = 48 + (u : Int) by omega, wrap64 (by omega) (by omega), dg8 h, ifc (by simp), decDigits_one h]
      rfl
    · have hne : (-((u / 10 : Nat) : Int) == 0) = false := by simp; omega
      simp only [hne, Bool.false_eq_true, if_false]
      rw [ih (u / 10) (by omega) m (by omega) (by omega) (by omega)]
      have hl2 := dec_len (u / 10) (by omega)
      simp only [Option.bind_some]
      rw [wrap64 (show -9223372036854775808 ≤ -((u % 10 : Nat) : Int) by omega) (by omega), show (48 : Int) - -((u % 10 : Nat) : Int) = 48 + ((u % 10 : Nat) : Int) by omega, wrap64 (by omega) (by omega), dg8 (by omega), ifc (by simp; omega), decDigits_big h]
      simp
theorem fmt_eq {n : Int} (h : i64 n) : f_spec_FormatInt n = some (itoa n) := by
  obtain ⟨h1, h2⟩ := h
  unfold f_spec_FormatInt
  by_cases hn : n < 0
  · obtain ⟨u, rfl⟩ : ∃ u : Nat, n = -(u : Int) := ⟨n.natAbs, by omega⟩
    rw [fmt_neg u bigN (by rw [bigN_val]; omega) (by omega) (by omega), itoa_ng (by omega)]
  · obtain ⟨u, rfl⟩ : ∃ u : Nat, n = (u : Int) := ⟨n.toNat, by omega⟩
    obtain ⟨m, hm⟩ : ∃ m, bigN = m + 1 := ⟨bigN - 1, by rw [bigN_val]⟩
    have e : f_spec_FormatInt_r bigN (u : Int) = f_spec_FormatInt_b (f_spec_FormatInt_r m) u := by rw [hm, f_spec_FormatInt_r]
    have hd : ¬ (u : Int) < 0 := by omega
    have hl := dec_len u (by omega)
    rw [e, f_spec_FormatInt_b]
    simp only [hd, decide_false, Bool.false_eq_true, if_false]
    rw [fmt_loop _ u bigN [] (by rw [bigN_val]; omega) (by omega) (by simp; omega), itoa_nn]
    simp
theorem impl_fmt_eq {n : Int} (h : i64 n) : f_impl_FormatInt n = some (itoa n) := by
  simp [f_impl_FormatInt, f_strconv_Itoa, h]
theorem join_snoc (l : List (List UInt8)) (x sep : List UInt8) (h : l ≠ []) : join (l ++ [x]) sep = join l sep ++ sep ++ x := by
  cases l with
  | nil => exact absurd rfl h
  | cons a r => rw [List.cons_append, join_cons, join_cons]; simp [joinTail]
theorem impl_join_eq {l : List (List UInt8)} {sep : List UInt8} (hl : l.length ≤ 140737488355328) (hj : (join l sep).length ≤ 140737488355328) : f_impl_Join l sep = some (join l sep) := by
  simp [f_impl_Join, f_strings_Join, hl, hj]
theorem le_big {n : Nat} (h : n ≤ 1100000) : n ≤ maxLen := by rw [maxLen_val]; omega
theorem le_max {n : Nat} (h : n ≤ 1048576) : n ≤ maxLen := by rw [maxLen_val]; omega
theorem foldr_all {len : Nat} (p : Nat → Bool) (K : Option Bool) : ∀ (k i : Nat), (List.range' i k).foldr (fun i r => if p i = true then r else some false) K = if (List.range' i k).all p = true then K else some false
  | 0, i => by simp
  | k + 1, i => by
    rw [List.range'_succ, List.foldr_cons, foldr_all (len := len) p K k (i + 1), List.all_cons]
    cases p i <;> rfl
theorem all_loopK {L : Nat → Int → Option Bool} (len : Nat) (p : Nat → Bool) (K : Option Bool) (hl : len ≤ maxLen)
    (hs : ∀ (n i : Nat), i < len → L (n + 1) (i : Int) = if p i = true then L n (IntKind.i64.wrap ((i : Int) + 1)) else some false) (he : ∀ n, L (n + 1) (len : Int) = K) : L bigN 0 = if (List.range len).all p = true then K else some false := by
  have := range_loop L len hl (fun i r => if p i = true then r else some false) K hs he len 0 bigN (by omega) (lt_bigN hl)
  rw [foldr_all (len := len), ← List.range_eq_range'] at this
  exact this
theorem appB_of {m n b : Nat} (h : m + n ≤ 2000000) (hb : b ≤ 1000) : appB m n b = true := by
  unfold appB
  rw [decide_eq_true_eq]
  have : (m + n) * b ≤ 2000000 * 1000 := Nat.mul_le_mul h hb
  omega
theorem ifa {α : Type} {m n b : Nat} (h : m + n ≤ 2000000) (hb : b ≤ 1000) (x y : α) : (if appB m n b = true then x else y) = x := by rw [if_pos (appB_of h hb)]
def winAt (l : List XWindow) (i : Nat) : Bool := match l[i]? with
  | some x => decide (0 ≤ x.From) && (decide (x.From ≤ x.To) && (decide (x.To ≤ 2880) && (match l[i - 1]? with | some y => decide (i = 0) || !(decide (x.From ≤ IntKind.i64.wrap (y.To + 1))) | none => true)))
  | none => false
def windowsOk (l : List XWindow) : Bool := (List.range l.length).all (winAt l)
theorem pred_ix {α : Type} {l : List α} {i : Nat} (h0 : 0 < i) (hi : i < l.length) (hl : l.length ≤ maxLen) : ix l (IntKind.i64.wrap ((i : Int) - 1)) = some (l[i - 1]'(by omega)) := by
  rw [maxLen_val] at hl
  rw [wrap64 (by omega) (by omega), show (i : Int) - 1 = ((i - 1 : Nat) : Int) by omega, ix_at (by omega)]
theorem impl_WindowsOk_eq {l : List XWindow} (hl : l.length ≤ maxLen) : f_impl_WindowsOk l = some (windowsOk l) := by
  unfold f_impl_WindowsOk windowsOk
  refine all_loopI (L := f_impl_WindowsOk_1 l) l.length (winAt l) hl (fun n i hi => ?_) (fun n => by simp [f_impl_WindowsOk_1])
  have hp : i - 1 < l.length := by omega
  simp only [f_impl_WindowsOk_1, dec_nn, hi, decide_true, if_true, ix_at hi, Option.bind_some, winAt, List.getElem?_eq_getElem hi, List.getElem?_eq_getElem hp]
  generalize f_impl_WindowsOk_1 l n (IntKind.i64.wrap ((i : Int) + 1)) = K
  have b1 : decide (l[i].From < 0) = !decide (0 ≤ l[i].From) := by rw [Bool.eq_iff_iff]; simp
  have b2 : decide (l[i].To < l[i].From) = !decide (l[i].From ≤ l[i].To) := by rw [Bool.eq_iff_iff]; simp
  have b3 : decide (2880 < l[i].To) = !decide (l[i].To ≤ 2880) := by rw [Bool.eq_iff_iff]; simp
  rw [b1, b2, b3]
  by_cases h0 : i = 0
  · subst h0
    have hz : ¬ (0 : Int) < ((0 : Nat) : Int) := by omega
    simp only [hz, decide_false, Bool.false_eq_true, if_false, decide_true, Bool.true_or]
    cases decide (0 ≤ l[0].From) <;> cases decide (l[0].From ≤ l[0].To) <;> cases decide (l[0].To ≤ 2880) <;> rfl
  · have hz : (0 : Int) < (i : Int) := by omega
    simp only [hz, decide_true, if_true, pred_ix (by omega) hi hl, Option.bind_some, h0, decide_false, Bool.false_or]
    cases decide (0 ≤ l[i].From) <;> cases decide (l[i].From ≤ l[i].To) <;> cases decide (l[i].To ≤ 2880) <;> cases decide (l[i].From ≤ IntKind.i64.wrap (l[i - 1].To + 1)) <;> rfl
theorem win_facts {l : List XWindow} (h : windowsOk l = true) : ∀ x ∈ l, i64 x.From ∧ i64 x.To := by
  intro x hx
  obtain ⟨i, hi, rfl⟩ := List.getElem_of_mem hx
  have := List.all_eq_true.1 h i (List.mem_range.2 hi)
  simp only [winAt, List.getElem?_eq_getElem hi, Bool.and_eq_true, decide_eq_true_eq] at this
  exact ⟨⟨by omega, by omega⟩, ⟨by omega, by omega⟩⟩
theorem build_loop {β R : Type} {L : Nat → Int → List β → Option R} (len : Nat) (g : Nat → β) (K : List β → Option R) (hl : len ≤ maxLen)
    (hs : ∀ (n i : Nat) (acc : List β), i < len → acc.length = i → L (n + 1) (i : Int) acc = L n (IntKind.i64.wrap ((i : Int) + 1)) (acc ++ [g i])) (he : ∀ n acc, acc.length = len → L (n + 1) (len : Int) acc = K acc) : L bigN 0 [] = K ((List.range len).map g) := by
  have key : ∀ (k i n : Nat) (acc : List β), i + k = len → k < n → acc.length = i → L n (i : Int) acc = K (acc ++ (List.range' i k).map g) := by
    intro k
    induction k with
    | zero =>
      intro i n acc hi hn ha
      obtain ⟨m, rfl⟩ : ∃ m, n = m + 1 := ⟨n - 1, by omega⟩
      have : i = len := by omega
      subst this
      rw [he _ _ ha]; simp
    | succ k ih =>
      intro i n acc hi hn ha
      obtain ⟨m, rfl⟩ : ∃ m, n = m + 1 := ⟨n - 1, by omega⟩
      rw [hs m i acc (by omega) ha, wrapS (show i < len by omega) hl, ih (i + 1) m _ (by omega) (by omega) (by simp [ha]), List.range'_succ]
      simp
  have := key len 0 bigN [] (by omega) (lt_bigN hl) rfl
  rw [List.range_eq_range']
  simpa using this
theorem range_map {β : Type} (l : List β) (d : β) (n : Nat) (h : n = l.length) : ((List.range n).map fun i => (l[i]?).getD d) = l := by
  subst h
  apply List.ext_getElem
  · simp
  · intro i h1 h2
    simp [h2]
def winText (x : XWindow) : List UInt8 := itoa x.From ++ [45] ++ itoa x.To
def fmtWindows (l : List XWindow) : List UInt8 := if windowsOk l = true then (if l = [] then [110, 111, 110, 101] else join (l.map winText) [32]) else []
theorem join_len_le {l : List (List UInt8)} {sep : List UInt8} {B : Nat} (h : ∀ x ∈ l, x.length ≤ B) : (join l sep).length ≤ l.length * (B + sep.length) := by
  have key : ∀ r : List (List UInt8), (∀ x ∈ r, x.length ≤ B) → (joinTail sep r).length ≤ r.length * (B + sep.length) := by
    intro r
    induction r with
    | nil => simp [joinTail]
    | cons x r ih =>
      intro hr
      have h1 := ih fun y hy => hr y (by simp [hy])
      have h2 := hr x (by simp)
      simp only [joinTail, List.map_cons, List.flatten_cons, List.length_append, List.length_cons, Nat.add_mul, Nat.one_mul] at h1 ⊢
      omega
  cases l with
  | nil => simp [join, List.intercalate]
  | cons x r =>
    rw [join_cons]
    have h1 := key r fun y hy => h y (by simp [hy])
    have h2 := h x (by simp)
    simp only [List.length_append, List.length_cons, Nat.add_mul, Nat.one_mul] at h1 ⊢
    omega
theorem winText_len {l : List XWindow} (h : windowsOk l = true) : ∀ x ∈ l.map winText, x.length ≤ 50 := by
  intro x hx
  obtain ⟨y, hy, rfl⟩ := List.mem_map.1 hx
  obtain ⟨a, b⟩ := win_facts h y hy
  have := itoa_len a; have := itoa_len b
  simp only [winText, List.length_append, List.length_cons, List.length_nil]
  omega
theorem win_join_len {l : List XWindow} (h : windowsOk l = true) (hl : l.length ≤ 1100000) : (join (l.map winText) [32]).length ≤ 100000000 := by
  have := join_len_le (sep := [32]) (winText_len h)
  simp only [List.length_map, List.length_cons, List.length_nil] at this
  omega
theorem impl_FormatWindows_eq {l : List XWindow} (hl : l.length ≤ 1100000) : f_impl_FormatWindows l = some (fmtWindows l) := by
  unfold f_impl_FormatWindows fmtWindows
  rw [impl_WindowsOk_eq (le_big hl)]
  simp only [Option.bind_some]
  cases h : windowsOk l with
  | false => simp
  | true =>
    simp only [if_true]
    by_cases h0 : l = []
    · subst h0; rfl
    · have e : ((l.length : Int) == 0) = false := by simpa using h0
      simp only [e, Bool.false_eq_true, if_false, h0]
      rw [build_loop (L := f_impl_FormatWindows_1 l) l.length (fun i => ((l.map winText)[i]?).getD []) (fun acc => (f_impl_Join acc [32]).bind fun r => some r) (le_big hl) (fun n i acc hi ha => ?_) (fun n acc ha => ?_), range_map _ _ _ (by simp)]
      · rw [impl_join_eq (by rw [List.length_map]; omega) (by have := win_join_len h hl; omega)]
        rfl
      · obtain ⟨a, b⟩ := win_facts h l[i] (List.getElem_mem hi)
        have := itoa_len a; have := itoa_len b
        simp only [f_impl_FormatWindows_1, dec_nn, hi, decide_true, if_true, ix_at hi, Option.bind_some, impl_fmt_eq a, impl_fmt_eq b, List.getElem?_map, List.getElem?_eq_getElem hi, Option.map_some, Option.getD_some]
        rw [ifc (by simp; omega), ifc (by simp; omega), ifa (by simp; omega) (by omega)]
        rfl
      · simp only [f_impl_FormatWindows_1, Int.lt_irrefl, decide_false, Bool.false_eq_true, if_false]
def spl (c : UInt8) : List UInt8 → List UInt8 → List (List UInt8)
  | cur, [] => [cur]
  | cur, b :: r => if b = c then cur :: spl c [] r else spl c (cur ++ [b]) r
def split (c : UInt8) (s : List UInt8) : List (List UInt8) := spl c [] s
theorem spl_len (c : UInt8) : ∀ (s cur : List UInt8), (spl c cur s).length ≤ s.length + 1
  | [], cur => by simp [spl]
  | b :: r, cur => by
    unfold spl
    split
    · have := spl_len c r []; simp; omega
    · have := spl_len c r (cur ++ [b]); simp; omega
theorem spl_mem (c : UInt8) : ∀ (s cur x : List UInt8), x ∈ spl c cur s → x.length ≤ cur.length + s.length
  | [], cur, x, h => by simp [spl] at h; subst h; simp
  | b :: r, cur, x, h => by
    unfold spl at h
    split at h
    · rcases List.mem_cons.1 h with rfl | h
      · simp
      · have := spl_mem c r [] x h; simp at *; omega
    · have := spl_mem c r (cur ++ [b]) x h; simp at *; omega
theorem spl_ne (c : UInt8) (s cur : List UInt8) : spl c cur s ≠ [] := by
  cases s with
  | nil => simp [spl]
  | cons b r =>
    unfold spl
    split
    · simp
    · exact spl_ne c r _
termination_by s.length
theorem spl_word (c : UInt8) : ∀ (w cur r : List UInt8), (∀ b ∈ w, b ≠ c) → spl c cur (w ++ c :: r) = (cur ++ w) :: spl c [] r
  | [], cur, r, _ => by simp [spl]
  | b :: w, cur, r, h => by
    rw [List.cons_append, spl, if_neg (h b (by simp)), spl_word c w (cur ++ [b]) r fun x hx => h x (by simp [hx])]
    simp
theorem spl_end (c : UInt8) : ∀ (w cur : List UInt8), (∀ b ∈ w, b ≠ c) → spl c cur w = [cur ++ w]
  | [], cur, _ => by simp [spl]
  | b :: w, cur, h => by
    rw [spl, if_neg (h b (by simp)), spl_end c w (cur ++ [b]) fun x hx => h x (by simp [hx])]
    simp
theorem split_join (c : UInt8) : ∀ (l : List (List UInt8)), l ≠ [] → (∀ w ∈ l, ∀ b ∈ w, b ≠ c) → split c (join l [c]) = l
  | [], h, _ => absurd rfl h
  | [w], _, h => by rw [join_one, split, spl_end c w [] (h w (by simp))]; simp
  | w :: v :: r, _, h => by
    have e : join (w :: v :: r) [c] = w ++ c :: join (v :: r) [c] := by rw [join_cons, join_cons]; simp [joinTail]
    rw [e, split, spl_word c w [] _ (h w (by simp))]
    have := split_join c (v :: r) (by simp) fun x hx => h x (by simp only [List.mem_cons] at hx ⊢; exact .inr hx)
    rw [split] at this
    rw [this]
    simp
theorem bnd_ok {n a b : Nat} (h1 : a ≤ b) (h2 : b ≤ n) : bnd (n : Int) (b : Int) (a : Int) n = some (a, b) := by
  unfold bnd
  rw [if_pos ⟨by omega, by omega, by omega, by omega⟩]
  simp
theorem piece_snoc {s : List UInt8} {a i : Nat} (h1 : a ≤ i) (h2 : i < s.length) : (s.drop a).take (i + 1 - a) = (s.drop a).take (i - a) ++ [s[i]] := by
  rw [show i + 1 - a = (i - a) + 1 by omega, List.take_succ_eq_append_getElem (by simp; omega)]
  simp [show a + (i - a) = i by omega]
theorem split_loop (L : Nat → Int → Int → List (List UInt8) → Option (List (List UInt8))) (s : List UInt8) (c : UInt8) (hl : s.length ≤ 1048576)
    (hs : ∀ (n i a : Nat) (acc : List (List UInt8)) (hi : i < s.length), a ≤ i → acc.length ≤ i → L (n + 1) (a : Int) (i : Int) acc = if s[i] = c then L n (IntKind.i64.wrap ((i : Int) + 1)) (IntKind.i64.wrap ((i : Int) + 1)) (acc ++ [(s.drop a).take (i - a)]) else L n (a : Int) (IntKind.i64.wrap ((i : Int) + 1)) acc)
    (he : ∀ (n a : Nat) acc, a ≤ s.length → acc.length ≤ s.length → L (n + 1) (a : Int) (s.length : Int) acc = some (acc ++ [(s.drop a).take (s.length - a)])) : L bigN 0 0 [] = some (split c s) := by
  have key : ∀ (k i a n : Nat) (acc : List (List UInt8)), i + k = s.length → k < n → a ≤ i → acc.length ≤ i → L n (a : Int) (i : Int) acc = some (acc ++ spl c ((s.drop a).take (i - a)) (s.drop i)) := by
    intro k
    induction k with
    | zero =>
      intro i a n acc hi hn ha hc
      obtain ⟨m, rfl⟩ : ∃ m, n = m + 1 := ⟨n - 1, by omega⟩
      have : i = s.length := by omega
      subst this
      rw [he m a acc ha hc, List.drop_length, spl]
    | succ k ih =>
      intro i a n acc hi hn ha hc
      obtain ⟨m, rfl⟩ : ∃ m, n = m + 1 := ⟨n - 1, by omega⟩
      have hlt : i < s.length := by omega
      rw [hs m i a acc hlt ha hc, List.drop_eq_getElem_cons hlt, spl, wrapS hlt (le_max hl)]
      by_cases e : s[i] = c
      · rw [if_pos e, if_pos e, ih (i + 1) (i + 1) m _ (by omega) (by omega) (Nat.le_refl _) (by simp; omega)]
        simp
      · rw [if_neg e, if_neg e, ih (i + 1) a m _ (by omega) (by omega) (by omega) (by omega), piece_snoc ha hlt]
  have := key s.length 0 0 bigN [] (by omega) (lt_bigN (le_max hl)) (Nat.le_refl _) (Nat.le_refl _)
  simpa [split] using this
theorem indexByte1 (c b : UInt8) : decide ((0 : Int) ≤ indexByte [c] b) = decide (c = b) := by
  by_cases h : c = b
  · subst h; simp [indexByte]
  · have h' : (c == b) = false := by simpa using h
    simp [indexByte, h, h']
theorem back8 (b : UInt8) : ((b.toNat : Int)).toNat.toUInt8 = b := by simp
theorem impl_SplitAny_eq {s : List UInt8} {c : UInt8} (hl : s.length ≤ 1048576) : f_impl_SplitAny s [c] = some (split c s) := by
  unfold f_impl_SplitAny
  refine split_loop (f_impl_SplitAny_1 s [c]) s c hl (fun n i a acc hi ha hc => ?_) (fun n a acc ha hc => ?_)
  · have hb : bnd (s.length : Int) (i : Int) (a : Int) s.length = some (a, i) := bnd_ok ha (by omega)
    rw [f_impl_SplitAny_1]
    simp only [dec_nn, hi, decide_true, if_true, ix_at hi, Option.bind_some, f_strings_IndexByte, back8, indexByte1, f_impl_SplitAny_2]
    by_cases e : s[i] = c
    · rw [if_pos (decide_eq_true e.symm), if_pos e, hb]
      simp only [Option.bind_some]
      rw [ifa (by simp; omega) (by omega)]
    · have e' : ¬ decide (c = s[i]) = true := by simpa using fun h => e h.symm
      rw [if_neg e', if_neg e]
  · have hb : bnd (s.length : Int) (s.length : Int) (a : Int) s.length = some (a, s.length) := bnd_ok ha (Nat.le_refl _)
    rw [f_impl_SplitAny_1]
    simp only [Int.lt_irrefl, decide_false, Bool.false_eq_true, if_false, hb, Option.bind_some]
    rw [ifa (by simp; omega) (by omega)]
def digs (t : List UInt8) : Bool := t.all isDig && decide (0 < t.length)
theorem digs_dec (u : Nat) : digs (decDigits u) = true := by
  simp only [digs, Bool.and_eq_true, List.all_eq_true, decide_eq_true_eq]
  exact ⟨decDigits_dig u, List.length_pos_iff.2 (decDigits_ne u)⟩
theorem impl_ParseInt_eq {s : List UInt8} (hl : s.length ≤ 1048576) : f_impl_ParseInt s = some (parseN s) := by
  unfold f_impl_ParseInt
  rw [if_pos (by omega)]
def numOk (x : List UInt8) : Bool := (parseN x).2
def numOf (x : List UInt8) : Int := (parseN x).1
theorem num_loop {R : Type} {L : Nat → Int → List Int → Option R} (l : List (List UInt8)) (K : List Int → Option R) (bad : Option R) (hl : l.length ≤ 1100000)
    (hs : ∀ (n i : Nat) (acc : List Int) (hi : i < l.length), acc.length = i → L (n + 1) (i : Int) acc = if numOk l[i] = true then L n (IntKind.i64.wrap ((i : Int) + 1)) (acc ++ [numOf l[i]]) else bad) (he : ∀ n acc, L (n + 1) (l.length : Int) acc = K acc) :
    L bigN 0 [] = if l.all numOk = true then K (l.map numOf) else bad := by
  have key : ∀ (k i n : Nat) (acc : List Int), i + k = l.length → k < n → acc.length = i → L n (i : Int) acc = if (l.drop i).all numOk = true then K (acc ++ (l.drop i).map numOf) else bad := by
    intro k
    induction k with
    | zero =>
      intro i n acc hi hn ha
      obtain ⟨m, rfl⟩ : ∃ m, n = m + 1 := ⟨n - 1, by omega⟩
      have : i = l.length := by omega
      subst this
      rw [he]; simp
    | succ k ih =>
      intro i n acc hi hn ha
      obtain ⟨m, rfl⟩ : ∃ m, n = m + 1 := ⟨n - 1, by omega⟩
      have hlt : i < l.length := by omega
      rw [hs m i acc hlt ha, wrapS hlt (le_big hl), ih (i + 1) m _ (by omega) (by omega) (by simp [ha]), List.drop_eq_getElem_cons hlt, List.all_cons, List.map_cons]
      cases numOk l[i] <;> simp
  have := key l.length 0 bigN [] (by omega) (lt_bigN (le_big hl)) rfl
  simpa using this
theorem impl_parseNumbers_eq {l : List (List UInt8)} (hl : l.length ≤ 1100000) (hx : ∀ x ∈ l, x.length ≤ 1048576) : f_impl_parseNumbers l = some (if l.all numOk = true then (l.map numOf, true) else ([], false)) := by
  unfold f_impl_parseNumbers
  rw [num_loop (L := f_impl_parseNumbers_1 l) l (fun acc => some (acc, true)) (some ([], false)) hl (fun n i acc hi ha => ?_) (fun n acc => by simp [f_impl_parseNumbers_1])]
  · split <;> rfl
  · simp only [f_impl_parseNumbers_1, dec_nn, hi, decide_true, if_true, ix_at hi, Option.bind_some, impl_ParseInt_eq (hx _ (List.getElem_mem hi)), numOk, numOf]
    rw [ifa (by simp; omega) (by omega)]
    rfl
theorem read_loop {α β R : Type} {L : Nat → Int → List β → Option R} (l : List α) (p : α → Bool) (g : α → β) (K : List β → Option R) (bad : Option R) (hl : l.length ≤ 1100000)
    (hs : ∀ (n i : Nat) (acc : List β) (hi : i < l.length), acc.length = i → L (n + 1) (i : Int) acc = if p l[i] = true then L n (IntKind.i64.wrap ((i : Int) + 1)) (acc ++ [g l[i]]) else bad) (he : ∀ n acc, L (n + 1) (l.length : Int) acc = K acc) :
    L bigN 0 [] = if l.all p = true then K (l.map g) else bad := by
  have key : ∀ (k i n : Nat) (acc : List β), i + k = l.length → k < n → acc.length = i → L n (i : Int) acc = if (l.drop i).all p = true then K (acc ++ (l.drop i).map g) else bad := by
    intro k
    induction k with
    | zero =>
      intro i n acc hi hn ha
      obtain ⟨m, rfl⟩ : ∃ m, n = m + 1 := ⟨n - 1, by omega⟩
      have : i = l.length := by omega
      subst this
      rw [he]; simp
    | succ k ih =>
      intro i n acc hi hn ha
      obtain ⟨m, rfl⟩ : ∃ m, n = m + 1 := ⟨n - 1, by omega⟩
      have hlt : i < l.length := by omega
      rw [hs m i acc hlt ha, wrapS hlt (le_big hl), ih (i + 1) m _ (by omega) (by omega) (by simp [ha]), List.drop_eq_getElem_cons hlt, List.all_cons, List.map_cons]
      cases p l[i] <;> simp
  have := key l.length 0 bigN [] (by omega) (lt_bigN (le_big hl)) rfl
  simpa using this
def pairOk (w : List UInt8) : Bool := ((split 45 w).length == 2) && (split 45 w).all numOk
def pairOf (w : List UInt8) : XWindow := ⟨numOf ((split 45 w).getD 0 []), numOf ((split 45 w).getD 1 [])⟩
def readWindows (s : List UInt8) : List XWindow × Bool :=
  if s = [110, 111, 110, 101] then ([], true)
  else if (split 32 s).all pairOk = true ∧ windowsOk ((split 32 s).map pairOf) = true ∧ fmtWindows ((split 32 s).map pairOf) = s then ((split 32 s).map pairOf, true) else ([], false)
theorem piece_len {c : UInt8} {s : List UInt8} (hl : s.length ≤ 1048576) : (split c s).length ≤ 1100000 ∧ ∀ x ∈ split c s, x.length ≤ 1048576 := by
  refine ⟨?_, fun x hx => ?_⟩
  · have := spl_len c s []
    unfold split
    omega
  · have := spl_mem c s [] x hx
    simp at this
    omega
theorem len2 {α : Type} {l : List α} (h : l.length = 2) : ∃ a b, l = [a, b] := by
  match l, h with
  | [a, b], _ => exact ⟨a, b, rfl⟩
theorem impl_ParseWindows_eq {s : List UInt8} (hl : s.length ≤ 1048576) : f_impl_ParseWindows s = some (readWindows s) := by
  unfold f_impl_ParseWindows readWindows
  by_cases h0 : s = [110, 111, 110, 101]
  · subst h0; rfl
  have h0' : ¬ (s == [110, 111, 110, 101]) = true := by simpa using h0
  rw [if_neg h0', if_neg h0, impl_SplitAny_eq hl]
  simp only [Option.bind_some]
  obtain ⟨hn, hx⟩ := piece_len (c := 32) hl
  generalize split 32 s = q at hn hx
  rw [read_loop (L := f_impl_ParseWindows_1 s q) q pairOk pairOf (fun acc => (f_impl_WindowsOk acc).bind fun r17 => if r17 = true then (f_impl_FormatWindows acc).bind fun r19 => f_impl_ParseWindows_3 acc (!(r19 == s)) else f_impl_ParseWindows_3 acc true) (some ([], false)) hn (fun n i acc hi ha => ?_) (fun n acc => by simp [f_impl_ParseWindows_1])]
  · by_cases h : q.all pairOk = true
    · have hm : (q.map pairOf).length ≤ 1100000 := by rw [List.length_map]; exact hn
      simp only [h, if_true, true_and]
      rw [impl_WindowsOk_eq (le_big hm)]
      simp only [Option.bind_some]
      by_cases hw : windowsOk (q.map pairOf) = true
      · simp only [hw, if_true, true_and, impl_FormatWindows_eq hm, Option.bind_some, f_impl_ParseWindows_3]
        by_cases hf : fmtWindows (q.map pairOf) = s <;> simp [hf]
      · simp [hw, f_impl_ParseWindows_3]
    · simp [h]
  · have hxi := hx _ (List.getElem_mem hi)
    simp only [f_impl_ParseWindows_1, dec_nn, hi, decide_true, if_true, ix_at hi, Option.bind_some, impl_SplitAny_eq hxi, pairOk, pairOf]
    obtain ⟨hpn, hp⟩ := piece_len (c := 45) hxi
    obtain ⟨w, hw⟩ : ∃ w, split 45 q[i] = w := ⟨_, rfl⟩
    rw [hw] at hp hpn
    simp only [hw]
    rw [impl_parseNumbers_eq hpn hp]
    simp only [Option.bind_some]
    by_cases hok : w.all numOk = true
    · simp only [hok, if_true, Bool.and_true, List.length_map]
      by_cases h2 : w.length = 2
      · obtain ⟨a, b, rfl⟩ := len2 h2
        simp only [show ((([a, b] : List (List UInt8)).length : Int) != 2) = false from rfl, f_impl_ParseWindows_2, Bool.false_eq_true, if_false, List.map_cons, List.map_nil, show ix [numOf a, numOf b] 0 = some (numOf a) from rfl, show ix [numOf a, numOf b] 1 = some (numOf b) from rfl, Option.bind_some, List.getD_cons_zero, List.getD_cons_succ, show (([a, b] : List (List UInt8)).length == 2) = true from rfl, if_true]
        rw [ifa (by simp; omega) (by omega)]
      · have : ((w.length : Int) != 2) = true := by simp; omega
        simp [this, h2, f_impl_ParseWindows_2]
    · simp [hok, f_impl_ParseWindows_2]
theorem split_lines : ∀ (l : List (List UInt8)), (∀ w ∈ l, ∀ b ∈ w, b ≠ 10) → split 10 (l.map (· ++ [10])).flatten = l ++ [[]]
  | [], _ => rfl
  | w :: l, h => by
    have e : ((w :: l).map (· ++ [10])).flatten = w ++ 10 :: (l.map (· ++ [10])).flatten := by simp
    rw [e, split, spl_word 10 w [] _ (h w (by simp))]
    have := split_lines l fun x hx => h x (by simp [hx])
    rw [split] at this
    rw [this]
    simp
def lines (s : List UInt8) : List (List UInt8) := if (split 10 s).getD ((split 10 s).length - 1) [] = [] then (split 10 s).take ((split 10 s).length - 1) else split 10 s
theorem lines_flat {l : List (List UInt8)} (h : ∀ w ∈ l, ∀ b ∈ w, b ≠ 10) : lines (l.map (· ++ [10])).flatten = l := by
  unfold lines
  rw [split_lines l h]
  simp
theorem lines_all {q : List (List UInt8)} (hq : q ≠ []) (hn : q.length ≤ 1100000) : ((ix q (IntKind.i64.wrap ((q.length : Int) - (1 : Int)))).bind fun x2 =>
    if (x2 == ([] : List UInt8)) = true then ((bnd (q.length : Int) (IntKind.i64.wrap ((q.length : Int) - (1 : Int))) (0 : Int) q.length).bind fun p4 => some ((q.drop p4.1).take (p4.2 - p4.1))) else some q) =
    some (if q.getD (q.length - 1) [] = [] then q.take (q.length - 1) else q) := by
  have h0 : 0 < q.length := List.length_pos_iff.2 hq
  have hw : IntKind.i64.wrap ((q.length : Int) - 1) = ((q.length - 1 : Nat) : Int) := by
    rw [wrap64 (by omega) (by omega)]; omega
  have hlt : q.length - 1 < q.length := by omega
  have hb : bnd (q.length : Int) ((q.length - 1 : Nat) : Int) (0 : Int) q.length = some (0, q.length - 1) := bnd_ok (a := 0) (Nat.zero_le _) (by omega)
  rw [hw, ix_at hlt, hb]
  simp only [Option.bind_some, List.getD_eq_getElem?_getD, List.getElem?_eq_getElem hlt, Option.getD_some, beq_iff_eq, List.drop_zero, Nat.sub_zero]
  split <;> rfl
theorem impl_SplitLines_eq {s : List UInt8} (hl : s.length ≤ 1048576) : f_impl_SplitLines s = some (lines s) := by
  unfold f_impl_SplitLines lines
  rw [impl_SplitAny_eq hl]
  exact lines_all (spl_ne 10 s []) (piece_len hl).1
def rd {α σ : Type} (step : α → σ → Option σ) : List α → σ → Option σ
  | [], s => some s
  | x :: r, s => (step x s).bind (rd step r)
theorem rd_append {α σ : Type} (step : α → σ → Option σ) : ∀ (a b : List α) (s : σ), rd step (a ++ b) s = (rd step a s).bind (rd step b)
  | [], b, s => rfl
  | x :: a, b, s => by
    simp only [List.cons_append, rd]
    cases step x s with
    | none => rfl
    | some t => exact rd_append step a b t
theorem rd_loop {α β γ R : Type} {L : Nat → Int → β → γ → Option R} (l : List α) (step : α → β × γ → Option (β × γ)) (K : β × γ → Option R) (bad : Option R) (I : β → γ → Prop) (hl : l.length ≤ 1100000)
    (hs : ∀ (n i : Nat) (b : β) (g : γ) (hi : i < l.length), I b g → L (n + 1) (i : Int) b g = match step l[i] (b, g) with | some p => L n (IntKind.i64.wrap ((i : Int) + 1)) p.1 p.2 | none => bad)
    (hI : ∀ x ∈ l, ∀ b g p, I b g → step x (b, g) = some p → I p.1 p.2) (he : ∀ n b g, I b g → L (n + 1) (l.length : Int) b g = K (b, g)) (b0 : β) (g0 : γ) (h0 : I b0 g0) :
    L bigN 0 b0 g0 = match rd step l (b0, g0) with | some p => K p | none => bad := by
  have key : ∀ (k i n : Nat) (b : β) (g : γ), i + k = l.length → k < n → I b g → L n (i : Int) b g = match rd step (l.drop i) (b, g) with | some p => K p | none => bad := by
    intro k
    induction k with
    | zero =>
      intro i n b g hi hn hI0
      obtain ⟨m, rfl⟩ : ∃ m, n = m + 1 := ⟨n - 1, by omega⟩
      have : i = l.length := by omega
      subst this
      rw [he m b g hI0, List.drop_length, rd]
    | succ k ih =>
      intro i n b g hi hn hI0
      obtain ⟨m, rfl⟩ : ∃ m, n = m + 1 := ⟨n - 1, by omega⟩
      have hlt : i < l.length := by omega
      rw [hs m i b g hlt hI0, List.drop_eq_getElem_cons hlt, rd, wrapS hlt (le_big hl)]
      cases hst : step l[i] (b, g) with
      | none => rfl
      | some p =>
        simp only [Option.bind_some]
        exact ih (i + 1) m p.1 p.2 (by omega) (by omega) (hI _ (List.getElem_mem hlt) b g p hI0 hst)
  have := key l.length 0 bigN b0 g0 (by omega) (lt_bigN (le_big hl)) h0
  simpa using this
theorem foldr_first {R : Type} (p : Nat → Bool) (f : Nat → R) (z : R) : ∀ (k i : Nat), (List.range' i k).foldr (fun i r => if p i = true then some (f i) else r) (some z) = some ((List.range' i k).foldr (fun i r => if p i = true then f i else r) z)
  | 0, i => by simp
  | k + 1, i => by
    rw [List.range'_succ, List.foldr_cons, foldr_first p f z k (i + 1), List.foldr_cons]
    cases p i <;> simp
def ptIs (xs : List XPoint) (s : List UInt8) (i : Nat) : Bool := match xs[i]? with
  | some x => decide (x.Name = s)
  | none => false
def ptNamed (xs : List XPoint) (s : List UInt8) : Int := (List.range' 0 xs.length).foldr (fun i r => if ptIs xs s i = true then (i : Int) else r) (-1)
theorem impl_PointNamed_eq {c : XChart} {s : List UInt8} (h : c.Points.length ≤ maxLen) : f_impl_PointNamed c s = some (ptNamed c.Points s) := by
  unfold f_impl_PointNamed
  exact (range_loop (f_impl_PointNamed_1 s c) c.Points.length h (fun i r => if ptIs c.Points s i = true then some (i : Int) else r) (some (-1)) (fun n i hi => by simp [f_impl_PointNamed_1, ix_nn, hi, ptIs]) (fun n => by simp [f_impl_PointNamed_1]) c.Points.length 0 bigN (by omega) (lt_bigN h)).trans (foldr_first _ _ _ _ _)
def pW : List UInt8 := [112, 111, 105, 110, 116]
def cW : List UInt8 := [99, 104, 97, 110, 110, 101, 108]
def segOf (w : List (List UInt8)) (ps : List XPoint) : XSegment := ⟨ptNamed ps (w.getD 1 []), ptNamed ps (w.getD 2 []), numOf (w.getD 3 []), numOf (w.getD 4 []), w.length == 6⟩
theorem ix_getD {w : List (List UInt8)} {i : Nat} (h : i < w.length) : ix w (i : Int) = some (w.getD i []) := by
  rw [ix_at h]; simp [List.getD_eq_getElem?_getD, h]
theorem lines_mem {s x : List UInt8} (hl : s.length ≤ 1048576) (h : x ∈ lines s) : x.length ≤ 1048576 := by
  refine (piece_len (c := 10) hl).2 x ?_
  unfold lines at h
  split at h
  · exact List.mem_of_mem_take h
  · exact h
theorem lines_len {s : List UInt8} (hl : s.length ≤ 1048576) : (lines s).length ≤ 1100000 := by
  have := (piece_len (c := 10) hl).1
  unfold lines
  split
  · simp; omega
  · exact this
theorem int_len (w : List (List UInt8)) (n : Nat) : ((w.length : Int) == (n : Int)) = (w.length == n) := by rw [Bool.eq_iff_iff]; simp; omega
def waitW : List UInt8 := [119, 97, 105, 116]
def meetW : List UInt8 := [109, 101, 101, 116]
def isPt (w : List (List UInt8)) : Bool := (w.getD 0 [] == pW) && (w.length == 2 || (w.length == 3 && w.getD 2 [] == waitW))
def isSeg (w : List (List UInt8)) : Bool := (w.getD 0 [] == cW) && ((w.length == 5 || (w.length == 6 && w.getD 5 [] == meetW)) && (numOk (w.getD 3 []) && numOk (w.getD 4 [])))
theorem pointOf_eq (w : List (List UInt8)) : f_impl_pointOf w = some (if isPt w = true then (⟨w.getD 1 [], w.length == 3⟩, true) else (⟨[], false⟩, false)) := by
  have e3 : ((w.length : Int) == 3) = (w.length == 3) := int_len w 3
  unfold f_impl_pointOf isPt pW waitW
  by_cases h2 : w.length < 2
  · have : (w.length : Int) < 2 := by omega
    have l2 : (w.length == 2) = false := by simp; omega
    have l3 : (w.length == 3) = false := by simp; omega
    simp [this, f_impl_pointOf_1, l2, l3]
  · have h2' : ¬ (w.length : Int) < 2 := by omega
    by_cases h3 : 3 < w.length
    · have : (3 : Int) < (w.length : Int) := by omega
      have l2 : (w.length == 2) = false := by simp; omega
      have l3 : (w.length == 3) = false := by simp; omega
      simp [h2', this, f_impl_pointOf_1, l2, l3]
    · have h3' : ¬ (3 : Int) < (w.length : Int) := by omega
      have i0 : ix w 0 = some (w.getD 0 []) := ix_getD (i := 0) (by omega)
      have i1 : ix w 1 = some (w.getD 1 []) := ix_getD (i := 1) (by omega)
      simp only [h2', h3', decide_false, Bool.false_eq_true, if_false, i0, Option.bind_some, e3, f_impl_pointOf_1, i1]
      by_cases l3 : w.length = 3
      · have i2 : ix w 2 = some (w.getD 2 []) := ix_getD (i := 2) (by omega)
        simp only [i2, Option.bind_some]
        generalize w.getD 0 [] = w0
        generalize w.getD 1 [] = w1
        generalize w.getD 2 [] = w2
        by_cases c0 : w0 = [112, 111, 105, 110, 116] <;> by_cases c2 : w2 = [119, 97, 105, 116] <;> simp [c0, c2, l3]
      · have l2 : w.length = 2 := by omega
        generalize w.getD 0 [] = w0
        generalize w.getD 1 [] = w1
        by_cases c0 : w0 = [112, 111, 105, 110, 116] <;> simp [c0, l2]
theorem segmentOf_eq {w : List (List UInt8)} {ps : List XPoint} {ss : List XSegment} (hp : ∀ x ∈ w, x.length ≤ 1048576) (hl : ps.length ≤ 8) :
    ∃ z, f_impl_segmentOf ⟨ps, ss⟩ w = some (if isSeg w = true then (segOf w ps, true) else (z, false)) := by
  have e6 : ((w.length : Int) == 6) = (w.length == 6) := int_len w 6
  refine ⟨⟨0, 0, 0, 0, false⟩, ?_⟩
  unfold f_impl_segmentOf isSeg cW meetW
  by_cases h5 : w.length < 5
  · have : (w.length : Int) < 5 := by omega
    have l5 : (w.length == 5) = false := by simp; omega
    have l6 : (w.length == 6) = false := by simp; omega
    simp [this, f_impl_segmentOf_1, l5, l6]
  · have h5' : ¬ (w.length : Int) < 5 := by omega
    by_cases h6 : 6 < w.length
    · have : (6 : Int) < (w.length : Int) := by omega
      have l5 : (w.length == 5) = false := by simp; omega
      have l6 : (w.length == 6) = false := by simp; omega
      simp [h5', this, f_impl_segmentOf_1, l5, l6]
    · have h6' : ¬ (6 : Int) < (w.length : Int) := by omega
      have g : ∀ i, i < w.length → (w.getD i []).length ≤ 1048576 := fun i hi => hp _ (by simp [List.getD_eq_getElem?_getD, hi])
      have i0 : ix w 0 = some (w.getD 0 []) := ix_getD (i := 0) (by omega)
      have i1 : ix w 1 = some (w.getD 1 []) := ix_getD (i := 1) (by omega)
      have i2 : ix w 2 = some (w.getD 2 []) := ix_getD (i := 2) (by omega)
      have hb : bnd (5 : Int) (5 : Int) (3 : Int) w.length = some (3, 5) := by
        unfold bnd
        rw [if_pos ⟨by omega, by omega, by omega, by omega⟩]
        rfl
      have hd : (w.drop 3).take (5 - 3) = [w.getD 3 [], w.getD 4 []] := by
        match w, h5 with
        | [], h => simp at h
        | [_], h => simp at h
        | [_, _], h => simp at h
        | [_, _, _], h => simp at h
        | [_, _, _, _], h => simp at h
        | a :: b :: c :: d :: e :: r, _ => rfl
      have hm : ps.length ≤ maxLen := le_max (by omega)
      have hn := impl_parseNumbers_eq (l := [w.getD 3 [], w.getD 4 []]) (by simp) (fun x hx => by simp at hx; rcases hx with rfl | rfl; exact g 3 (by omega); exact g 4 (by omega))
      simp only [h5', h6', decide_false, Bool.false_eq_true, if_false, i0, Option.bind_some, e6, f_impl_segmentOf_1, hb, hd, hn, i1, i2, impl_PointNamed_eq (c := ⟨ps, ss⟩) hm, segOf, List.all_cons, List.all_nil, Bool.and_true, List.map_cons, List.map_nil]
      by_cases l6 : w.length = 6
      · have i5 : ix w 5 = some (w.getD 5 []) := ix_getD (i := 5) (by omega)
        simp only [i5, Option.bind_some]
        generalize w.getD 0 [] = w0
        generalize w.getD 3 [] = w3
        generalize w.getD 4 [] = w4
        generalize w.getD 5 [] = w5
        by_cases c0 : w0 = [99, 104, 97, 110, 110, 101, 108] <;> by_cases c5 : w5 = [109, 101, 101, 116] <;> cases c3 : numOk w3 <;> cases c4 : numOk w4 <;> simp [c0, c5, l6, ix]
      · have l5 : w.length = 5 := by omega
        generalize w.getD 0 [] = w0
        generalize w.getD 3 [] = w3
        generalize w.getD 4 [] = w4
        by_cases c0 : w0 = [99, 104, 97, 110, 110, 101, 108] <;> cases c3 : numOk w3 <;> cases c4 : numOk w4 <;> simp [c0, l5, ix]
def stepJ (w : List (List UInt8)) (c : List XPoint × List XSegment) : Option (List XPoint × List XSegment) :=
  if isPt w = true then (if c.1.length < 8 then some (c.1 ++ [⟨w.getD 1 [], w.length == 3⟩], c.2) else none)
  else if isSeg w = true then (if c.2.length < 10 then some (c.1, c.2 ++ [segOf w c.1]) else none) else none
theorem impl_step {s : List UInt8} {L : List (List UInt8)} {n i : Nat} {b : List XPoint} {g : List XSegment} (hi : i < L.length) (hx : L[i].length ≤ 1048576) (hb : b.length ≤ 8) (hg : g.length ≤ 10) :
    f_impl_ParseChart_1 s L (n + 1) (i : Int) b g = match stepJ (split 32 L[i]) (b, g) with | some p => f_impl_ParseChart_1 s L n (IntKind.i64.wrap ((i : Int) + 1)) p.1 p.2 | none => some (⟨[], []⟩, false) := by
  rw [f_impl_ParseChart_1]
  simp only [dec_nn, hi, decide_true, if_true, ix_at hi, Option.bind_some, impl_SplitAny_eq hx]
  obtain ⟨w, hw⟩ : ∃ w, split 32 L[i] = w := ⟨_, rfl⟩
  have hp := (piece_len (c := 32) hx).2
  rw [hw] at hp
  simp only [hw]
  obtain ⟨z, hz⟩ := segmentOf_eq (ss := g) (ps := b) hp hb
  have a1 : ∀ y : XPoint, appB b.length ([y] : List XPoint).length 24 = true := fun y => appB_of (by simp; omega) (by omega)
  have a2 : ∀ y : XSegment, appB g.length ([y] : List XSegment).length 40 = true := fun y => appB_of (by simp; omega) (by omega)
  have d1 : ¬ (8 : Int) < (b.length : Int) := by omega
  have d2 : ¬ (10 : Int) < (g.length : Int) := by omega
  simp only [pointOf_eq, hz, Option.bind_some, stepJ]
  cases hpt : isPt w with
  | true =>
    simp only [if_true, a1, f_impl_ParseChart_2, f_impl_ParseChart_3]
    by_cases h8 : b.length < 8
    · have e : ¬ (8 : Int) < ((b ++ [(⟨w.getD 1 [], w.length == 3⟩ : XPoint)]).length : Int) := by simp; omega
      simp only [e, d2, decide_false, Bool.false_eq_true, if_false, h8, if_true]
    · have e : (8 : Int) < ((b ++ [(⟨w.getD 1 [], w.length == 3⟩ : XPoint)]).length : Int) := by simp; omega
      simp only [e, decide_true, if_true, h8, if_false]
  | false =>
    simp only [Bool.false_eq_true, if_false]
    cases hsg : isSeg w with
    | true =>
      simp only [if_true, a2, f_impl_ParseChart_2, f_impl_ParseChart_3, d1, decide_false, Bool.false_eq_true, if_false]
      by_cases h10 : g.length < 10
      · have e : ¬ (10 : Int) < ((g ++ [segOf w b]).length : Int) := by simp; omega
        simp only [segOf] at e
        simp only [segOf, e, decide_false, Bool.false_eq_true, if_false, h10, if_true]
      · have e : (10 : Int) < ((g ++ [segOf w b]).length : Int) := by simp; omega
        simp only [segOf] at e
        simp only [segOf, e, decide_true, if_true, h10, if_false]
    | false => simp only [Bool.false_eq_true, if_false]
theorem within_eq (n lo hi : Int) : f_impl_within n lo hi = some (decide (lo ≤ n) && decide (n ≤ hi)) := by
  unfold f_impl_within
  by_cases h : lo ≤ n <;> simp [h]
theorem foldr_any {len : Nat} (p : Nat → Bool) (K : Option Bool) : ∀ (k i : Nat), (List.range' i k).foldr (fun i r => if p i = true then some false else r) K = if (List.range' i k).any p = true then some false else K
  | 0, i => by simp
  | k + 1, i => by
    rw [List.range'_succ, List.foldr_cons, foldr_any (len := len) p K k (i + 1), List.any_cons]
    cases p i <;> rfl
theorem any_loopK {L : Nat → Int → Option Bool} (len : Nat) (p : Nat → Bool) (K : Option Bool) (hl : len ≤ maxLen)
    (hs : ∀ (n i : Nat), i < len → L (n + 1) (i : Int) = if p i = true then some false else L n (IntKind.i64.wrap ((i : Int) + 1))) (he : ∀ n, L (n + 1) (len : Int) = K) : L bigN 0 = if (List.range len).any p = true then some false else K := by
  have := range_loop L len hl (fun i r => if p i = true then some false else r) K hs he len 0 bigN (by omega) (lt_bigN hl)
  rw [foldr_any (len := len), ← List.range_eq_range'] at this
  exact this
def nmOk (s : List UInt8) (i : Nat) : Bool := match s[i]? with
  | some b => (decide (97 ≤ (b.toNat : Int)) && decide ((b.toNat : Int) ≤ 122)) || (!(decide (i = 0)) && (decide (48 ≤ (b.toNat : Int)) && decide ((b.toNat : Int) ≤ 57)))
  | none => false
def nmLen (s : List UInt8) : Bool := decide (1 ≤ (s.length : Int)) && decide ((s.length : Int) ≤ 8)
def isName (s : List UInt8) : Bool := nmLen s && (List.range s.length).all (nmOk s)
theorem nm_step (c : Int) (K : Option Bool) (z' : Bool) (z : Int) (i : Nat) (hz : z = (i : Int)) :
    (if decide (97 ≤ c) = true then (if decide (c ≤ 122) = true then K else if (z == 0) = true then some false else if decide (c < 48) = true then some false else if decide (57 < c) = true then some false else K)
      else if false = true then K else if (z == 0) = true then some false else if decide (c < 48) = true then some false else if decide (57 < c) = true then some false else K) =
    if ((decide (97 ≤ c) && decide (c ≤ 122)) || (!(decide (i = 0)) && (decide (48 ≤ c) && decide (c ≤ 57)))) = true then K else some false := by
  subst hz
  have e0 : (((i : Nat) : Int) == 0) = decide (i = 0) := by rw [Bool.eq_iff_iff]; simp
  have e1 : decide (c < 48) = !decide (48 ≤ c) := by rw [Bool.eq_iff_iff]; simp
  have e2 : decide (57 < c) = !decide (c ≤ 57) := by rw [Bool.eq_iff_iff]; simp
  rw [e0, e1, e2]
  cases decide (i = 0) <;> cases decide (97 ≤ c) <;> cases decide (c ≤ 122) <;> cases decide (48 ≤ c) <;> cases decide (c ≤ 57) <;> rfl
theorem impl_IsName_eq {s : List UInt8} (h : s.length ≤ maxLen) : f_impl_IsName s = some (isName s) := by
  unfold f_impl_IsName
  rw [within_eq]
  rw [all_loopK (L := f_impl_IsName_1 s) s.length (nmOk s) (some true) h (fun n i hi => ?_) (fun n => by simp [f_impl_IsName_1])]
  · unfold isName nmLen
    simp only [Option.bind_some]
    cases (List.range s.length).all (nmOk s) <;> cases (decide (1 ≤ (s.length : Int)) && decide ((s.length : Int) ≤ 8)) <;> simp
  · simp only [f_impl_IsName_1, f_impl_IsName_2, f_impl_IsName_3, ix_nn, nmOk, List.getElem?_eq_getElem hi, Option.bind_some, dec_nn, hi, decide_true, if_true]
    exact nm_step _ _ true (i : Int) i rfl
theorem isIndex_eq (i n : Int) : f_impl_isIndex i n = some (decide (0 ≤ i) && decide (i < n)) := by
  unfold f_impl_isIndex
  by_cases h : 0 ≤ i <;> simp [h]
def idx (i : Int) (n : Nat) : Bool := decide (0 ≤ i) && decide (i < (n : Int))
theorem name_len {s : List UInt8} (h : isName s = true) : 1 ≤ s.length ∧ s.length ≤ 8 := by
  simp only [isName, nmLen, Bool.and_eq_true, decide_eq_true_eq] at h
  omega
theorem join5 (a b c d e sep : List UInt8) : join [a, b, c, d, e] sep = a ++ sep ++ b ++ sep ++ c ++ sep ++ d ++ sep ++ e := by
  rw [join_cons]; simp [joinTail]
theorem if_and (a b : Bool) : (if a = true then some b else some false) = some (a && b) := by cases a <;> rfl
theorem impl_marked_eq {a b : List UInt8} {m : Bool} (h : a.length + b.length ≤ 1000) : f_impl_marked a m b = some (a ++ (if m = true then 32 :: b else [])) := by
  unfold f_impl_marked
  cases m with
  | true =>
    simp only [if_true]
    rw [ifc (by simp; omega), ifc (by simp; omega)]
    simp
  | false => simp
theorem name_sp {s : List UInt8} (h : isName s = true) : ∀ b ∈ s, b ≠ 32 := by
  intro b hb e
  subst e
  obtain ⟨i, hi, hb⟩ := List.getElem_of_mem hb
  simp only [isName, Bool.and_eq_true, List.all_eq_true, List.mem_range] at h
  have := h.2 i hi
  simp only [nmOk, List.getElem?_eq_getElem hi, hb, Bool.or_eq_true, Bool.and_eq_true, decide_eq_true_eq] at this
  have e : (((32 : UInt8).toNat : Nat) : Int) = 32 := rfl
  rw [e] at this
  omega
theorem itoa_sp (n : Int) : ∀ b ∈ itoa n, b ≠ 32 := by
  have hd : ∀ u, ∀ b ∈ decDigits u, b ≠ 32 := fun u b hb e => by
    have := decDigits_dig u b hb
    subst e
    simp [isDig] at this
  intro b hb
  unfold itoa at hb
  split at hb
  · rcases List.mem_cons.1 hb with rfl | hb
    · decide
    · exact hd _ b hb
  · exact hd _ b hb
def jn (y : XSegment) (a b : Int) : Bool := (decide (y.A = a) && decide (y.B = b)) || (decide (y.A = b) && decide (y.B = a))
theorem impl_joins_eq (y : XSegment) (a b : Int) : f_impl_Segment_joins y a b = some (jn y a b) := by
  unfold f_impl_Segment_joins jn
  by_cases h1 : y.A = a <;> by_cases h2 : y.B = b <;> by_cases h3 : y.A = b <;> by_cases h4 : y.B = a <;> simp_all
def segOk (c : XChart) (i : Nat) : Bool := match c.Segments[i]? with
  | some x => idx x.A c.Points.length && (idx x.B c.Points.length && (!(decide (x.A = x.B)) && ((decide (0 ≤ x.Depth) && decide (x.Depth ≤ 3000)) && ((decide (1 ≤ x.Minutes) && decide (x.Minutes ≤ 240)) && !((List.range i).any fun j => match c.Segments[j]? with | some y => jn y x.A x.B | none => false)))))
  | none => false
def ptOk (c : XChart) (i : Nat) : Bool := match c.Points[i]? with
  | some x => isName x.Name && decide (ptNamed c.Points x.Name = (i : Int))
  | none => false
def chartOk (c : XChart) : Bool := decide (c.Points.length ≤ 8) && (decide (c.Segments.length ≤ 10) && ((List.range c.Points.length).all (ptOk c) && (List.range c.Segments.length).all (segOk c)))
theorem bnd_take {n i : Nat} (h : i ≤ n) : bnd (n : Int) (i : Int) (0 : Int) n = some (0, i) := by
  unfold bnd
  rw [if_pos ⟨by omega, by omega, by omega, by omega⟩]
  simp
theorem take_at {α : Type} {l : List α} {i j : Nat} (hj : j < i) : (l.take i)[j]? = l[j]? := by simp [List.getElem?_take, hj]
theorem impl_ChartOk_eq {c : XChart} (hn : ∀ x ∈ c.Points, x.Name.length ≤ maxLen) : f_impl_ChartOk c = some (chartOk c) := by
  unfold f_impl_ChartOk chartOk
  by_cases h1 : c.Points.length ≤ 8
  · have h1' : ¬ (8 : Int) < c.Points.length := by omega
    by_cases h2 : c.Segments.length ≤ 10
    · have h2' : ¬ (10 : Int) < c.Segments.length := by omega
      have hp : c.Points.length ≤ maxLen := by rw [maxLen_val]; omega
      have hs : c.Segments.length ≤ maxLen := by rw [maxLen_val]; omega
      have inner : f_impl_ChartOk_2 c bigN 0 = some ((List.range c.Segments.length).all (segOk c)) := by
        rw [all_loopK (L := f_impl_ChartOk_2 c) c.Segments.length (segOk c) (some true) hs (fun n i hi => ?_) (fun n => by simp [f_impl_ChartOk_2])]
        · cases (List.range c.Segments.length).all (segOk c) <;> rfl
        · simp only [f_impl_ChartOk_2, ix_nn, List.getElem?_eq_getElem hi, Option.bind_some, dec_nn, hi, decide_true, if_true, within_eq, isIndex_eq, show ∀ (a : Int) (n : Nat), (decide (0 ≤ a) && decide (a < (n : Int))) = idx a n from fun _ _ => rfl, bnd_take (Nat.le_of_lt hi), segOk, List.drop_zero, Nat.sub_zero]
          have hl : (c.Segments.take i).length = i := by simp; omega
          rw [hl]
          rw [any_loopK (L := f_impl_ChartOk_3 c i c.Segments[i] (c.Segments.take i) (i : Int) (f_impl_ChartOk_2 c n)) i (fun j => match c.Segments[j]? with | some y => jn y c.Segments[i].A c.Segments[i].B | none => false)
            (f_impl_ChartOk_2 c n (IntKind.i64.wrap ((i : Int) + 1))) (by omega) (fun m j hj => by
              have hj2 : j < c.Segments.length := by omega
              simp only [f_impl_ChartOk_3, ix_nn, take_at hj, List.getElem?_eq_getElem hj2, Option.bind_some, dec_nn, hj, decide_true, if_true, impl_joins_eq]) (fun m => by simp [f_impl_ChartOk_3])]
          have e : (c.Segments[i].A == c.Segments[i].B) = decide (c.Segments[i].A = c.Segments[i].B) := rfl
          rw [e]
          cases idx c.Segments[i].A c.Points.length <;> cases idx c.Segments[i].B c.Points.length <;> cases decide (c.Segments[i].A = c.Segments[i].B) <;> cases (decide (0 ≤ c.Segments[i].Depth) && decide (c.Segments[i].Depth ≤ 3000)) <;>
            cases (decide (1 ≤ c.Segments[i].Minutes) && decide (c.Segments[i].Minutes ≤ 240)) <;> cases ((List.range i).any fun j => match c.Segments[j]? with | some y => jn y c.Segments[i].A c.Segments[i].B | none => false) <;> rfl
      rw [all_loopK (L := f_impl_ChartOk_1 c) c.Points.length (ptOk c) _ hp (fun n i hi => ?_) (fun n => by simp only [f_impl_ChartOk_1, Int.lt_irrefl, decide_false, Bool.false_eq_true, if_false]; exact inner)]
      · simp only [h1, h2, h1', h2', decide_true, decide_false, Bool.true_and, Bool.false_eq_true, if_false]
        cases (List.range c.Points.length).all (ptOk c) <;> rfl
      · simp only [f_impl_ChartOk_1, ix_nn, List.getElem?_eq_getElem hi, Option.bind_some, dec_nn, hi, decide_true, if_true, impl_IsName_eq (hn _ (List.getElem_mem hi)), impl_PointNamed_eq hp, ptOk]
        by_cases e : ptNamed c.Points c.Points[i].Name = (i : Int) <;> cases isName c.Points[i].Name <;> simp [e]
    · have h2' : (10 : Int) < c.Segments.length := by omega
      simp [h1, h1', h2, h2']
  · have h1' : (8 : Int) < c.Points.length := by omega
    simp [h1, h1']
theorem cat_loopK {L : Nat → List UInt8 → Int → Option (List UInt8)} (len : Nat) (piece : Nat → List UInt8) (B : Nat) (K : List UInt8 → Option (List UInt8)) (hl : len ≤ maxLen) (hp : ∀ i, i < len → (piece i).length ≤ B) (s0 : List UInt8) (hB : s0.length + len * B ≤ 100000000000000)
    (hs : ∀ (n i : Nat) (s : List UInt8), i < len → s.length + B ≤ 100000000000000 → L (n + 1) s (i : Int) = L n (s ++ piece i) (IntKind.i64.wrap ((i : Int) + 1))) (he : ∀ n s, L (n + 1) s (len : Int) = K s) :
    L bigN s0 0 = K (s0 ++ ((List.range len).map piece).flatten) := by
  have key : ∀ (k i n : Nat) (s : List UInt8), i + k = len → k < n → s.length + k * B ≤ 100000000000000 → L n s (i : Int) = K (s ++ ((List.range' i k).map piece).flatten) := by
    intro k
    induction k with
    | zero =>
      intro i n s hi hn hb
      obtain ⟨m, rfl⟩ : ∃ m, n = m + 1 := ⟨n - 1, by omega⟩
      have : i = len := by omega
      subst this
      rw [he]; simp
    | succ k ih =>
      intro i n s hi hn hb
      obtain ⟨m, rfl⟩ : ∃ m, n = m + 1 := ⟨n - 1, by omega⟩
      have hlt : i < len := by omega
      have h1 := hp i hlt
      rw [Nat.add_mul, Nat.one_mul] at hb
      rw [hs m i s hlt (by omega), wrapS hlt hl, ih (i + 1) m _ (by omega) (by omega) (by simp only [List.length_append]; omega), List.range'_succ]
      simp
  have := key len 0 bigN s0 (by omega) (lt_bigN hl) hB
  rw [List.range_eq_range']
  exact this
theorem flat_len {n B : Nat} {piece : Nat → List UInt8} (h : ∀ i, i < n → (piece i).length ≤ B) : ((List.range n).map piece).flatten.length ≤ n * B := by
  induction n with
  | zero => simp
  | succ n ih =>
    have h1 := ih fun i hi => h i (by omega)
    have h2 := h n (by omega)
    rw [List.range_succ, List.map_append, List.flatten_append, List.length_append, Nat.add_mul, Nat.one_mul]
    simp only [List.map_cons, List.map_nil, List.flatten_cons, List.flatten_nil, List.append_nil]
    omega
def ptText (x : XPoint) : List UInt8 := [112, 111, 105, 110, 116, 32] ++ x.Name ++ (if x.Wait = true then [32, 119, 97, 105, 116] else []) ++ [10]
def ptName (c : XChart) (i : Int) : List UInt8 := (c.Points[i.toNat]?.map XPoint.Name).getD []
def segText (c : XChart) (x : XSegment) : List UInt8 := [99, 104, 97, 110, 110, 101, 108, 32] ++ ptName c x.A ++ [32] ++ ptName c x.B ++ [32] ++ itoa x.Depth ++ [32] ++ itoa x.Minutes ++ (if x.Meet = true then [32, 109, 101, 101, 116] else []) ++ [10]
def ptPiece (c : XChart) (i : Nat) : List UInt8 := (c.Points[i]?.map ptText).getD []
def segPiece (c : XChart) (i : Nat) : List UInt8 := (c.Segments[i]?.map (segText c)).getD []
def fmtChart (c : XChart) : List UInt8 := if chartOk c = true then ((List.range c.Points.length).map (ptPiece c)).flatten ++ ((List.range c.Segments.length).map (segPiece c)).flatten else []
theorem chart_facts {c : XChart} (h : chartOk c = true) : c.Points.length ≤ 8 ∧ c.Segments.length ≤ 10 ∧ (∀ x ∈ c.Points, x.Name.length ≤ 8) ∧ ∀ x ∈ c.Segments, idx x.A c.Points.length = true ∧ idx x.B c.Points.length = true ∧ i64 x.Depth ∧ i64 x.Minutes := by
  simp only [chartOk, Bool.and_eq_true, decide_eq_true_eq, List.all_eq_true, List.mem_range] at h
  obtain ⟨h1, h2, h3, h4⟩ := h
  refine ⟨h1, h2, fun x hx => ?_, fun x hx => ?_⟩
  · obtain ⟨i, hi, rfl⟩ := List.getElem_of_mem hx
    have := h3 i hi
    simp only [ptOk, List.getElem?_eq_getElem hi, Bool.and_eq_true] at this
    exact (name_len this.1).2
  · obtain ⟨i, hi, rfl⟩ := List.getElem_of_mem hx
    have := h4 i hi
    simp only [segOk, List.getElem?_eq_getElem hi, Bool.and_eq_true, decide_eq_true_eq] at this
    exact ⟨this.1, this.2.1, ⟨by omega, by omega⟩, ⟨by omega, by omega⟩⟩
theorem ix_name {c : XChart} {i : Int} (h : idx i c.Points.length = true) (hn : ∀ x ∈ c.Points, x.Name.length ≤ 8) : ∃ x, ix c.Points i = some x ∧ x.Name = ptName c i ∧ (ptName c i).length ≤ 8 := by
  simp only [idx, Bool.and_eq_true, decide_eq_true_eq] at h
  obtain ⟨k, rfl⟩ : ∃ k : Nat, i = (k : Int) := ⟨i.toNat, by omega⟩
  have hk : k < c.Points.length := by omega
  refine ⟨c.Points[k], ix_at hk, by simp [ptName, hk], ?_⟩
  simp only [ptName, Int.toNat_natCast, List.getElem?_eq_getElem hk, Option.map_some, Option.getD_some]
  exact hn _ (List.getElem_mem hk)
theorem ptPiece_len {c : XChart} (h : chartOk c = true) (i : Nat) (hi : i < c.Points.length) : (ptPiece c i).length ≤ 100 := by
  obtain ⟨_, _, hn, _⟩ := chart_facts h
  have := hn _ (List.getElem_mem hi)
  simp only [ptPiece, List.getElem?_eq_getElem hi, Option.map_some, Option.getD_some, ptText]
  split <;> (simp; omega)
theorem segPiece_len {c : XChart} (h : chartOk c = true) (i : Nat) (hi : i < c.Segments.length) : (segPiece c i).length ≤ 100 := by
  obtain ⟨_, _, hn, hs⟩ := chart_facts h
  obtain ⟨a, b, d, m⟩ := hs _ (List.getElem_mem hi)
  obtain ⟨_, _, _, na⟩ := ix_name a hn
  obtain ⟨_, _, _, nb⟩ := ix_name b hn
  have := itoa_len d; have := itoa_len m
  simp only [segPiece, List.getElem?_eq_getElem hi, Option.map_some, Option.getD_some, segText]
  split <;> (simp; omega)
theorem pts_len {c : XChart} (h : chartOk c = true) : (((List.range c.Points.length).map (ptPiece c)).flatten).length ≤ 10000 := by
  have h1 := flat_len (ptPiece_len h)
  have := (chart_facts h).1
  omega
theorem impl_FormatChart_eq {c : XChart} (hn0 : ∀ x ∈ c.Points, x.Name.length ≤ maxLen) : f_impl_FormatChart c = some (fmtChart c) := by
  unfold f_impl_FormatChart fmtChart
  rw [impl_ChartOk_eq hn0]
  simp only [Option.bind_some]
  cases h : chartOk c with
  | false => simp
  | true =>
    obtain ⟨h1, h2, hn, hsg⟩ := chart_facts h
    simp only [if_true]
    rw [cat_loopK (L := f_impl_FormatChart_1 c) c.Points.length (ptPiece c) 100 (fun s => f_impl_FormatChart_2 c bigN s 0) (by rw [maxLen_val]; omega) (ptPiece_len h) [] (by simp; omega) (fun n i s hi hs => ?_) (fun n s => by simp [f_impl_FormatChart_1])]
    · have hp := pts_len h
      rw [List.nil_append]
      refine cat_loopK (L := f_impl_FormatChart_2 c) c.Segments.length (segPiece c) 100 some (by rw [maxLen_val]; omega) (segPiece_len h) _ (by omega) (fun n i s hi hs => ?_) (fun n s => by simp [f_impl_FormatChart_2])
      obtain ⟨a, b, d, m⟩ := hsg _ (List.getElem_mem hi)
      obtain ⟨xa, ea, na, la⟩ := ix_name a hn
      obtain ⟨xb, eb, nb, lb⟩ := ix_name b hn
      have ld := itoa_len d; have lm := itoa_len m
      simp only [f_impl_FormatChart_2, dec_nn, hi, decide_true, if_true, ix_at hi, Option.bind_some, ea, eb, na, nb, impl_fmt_eq d, impl_fmt_eq m, segPiece, List.getElem?_eq_getElem hi, Option.map_some, Option.getD_some, segText]
      rw [impl_join_eq (by simp) (by rw [join5]; simp; omega), join5]
      simp only [Option.bind_some]
      rw [impl_marked_eq (by simp; omega)]
      simp only [Option.bind_some]
      cases c.Segments[i].Meet with
      | true =>
        simp only [if_true]
        rw [ifc (by simp; omega), ifc (by simp; omega)]
        simp
      | false =>
        simp only [Bool.false_eq_true, if_false]
        rw [ifc (by simp; omega), ifc (by simp; omega)]
        simp
    · have hx := hn _ (List.getElem_mem hi)
      simp only [f_impl_FormatChart_1, dec_nn, hi, decide_true, if_true, ix_at hi, Option.bind_some, ptPiece, List.getElem?_eq_getElem hi, Option.map_some, Option.getD_some, ptText]
      rw [ifc (by simp; omega), impl_marked_eq (by simp; omega)]
      simp only [Option.bind_some]
      cases c.Points[i].Wait with
      | true =>
        simp only [if_true]
        rw [ifc (by simp; omega), ifc (by simp; omega)]
      | false =>
        simp only [Bool.false_eq_true, if_false]
        rw [ifc (by simp; omega), ifc (by simp; omega)]
def finC (s : List UInt8) (c : List XPoint × List XSegment) : XChart × Bool := if chartOk ⟨c.1, c.2⟩ = true ∧ fmtChart ⟨c.1, c.2⟩ = s then (⟨c.1, c.2⟩, true) else (⟨[], []⟩, false)
def InvC (b : List XPoint) (g : List XSegment) : Prop := b.length ≤ 8 ∧ g.length ≤ 10 ∧ ∀ x ∈ b, x.Name.length ≤ 1048576
theorem word_len {line : List UInt8} (hl : line.length ≤ 1048576) (i : Nat) : ((split 32 line).getD i []).length ≤ 1048576 := by
  by_cases hi : i < (split 32 line).length
  · exact (piece_len (c := 32) hl).2 _ (by simp [List.getD_eq_getElem?_getD, hi])
  · simp [List.getD_eq_getElem?_getD, List.getElem?_eq_none (Nat.le_of_not_lt hi)]
theorem inv_pt {b : List XPoint} {g : List XSegment} {y : XPoint} (h : InvC b g) (h8 : b.length < 8) (hy : y.Name.length ≤ 1048576) : InvC (b ++ [y]) g := by
  refine ⟨by simp; omega, h.2.1, fun x hx => ?_⟩
  rcases List.mem_append.1 hx with hx | hx
  · exact h.2.2 x hx
  · simp only [List.mem_singleton] at hx; subst hx; exact hy
theorem inv_seg {b : List XPoint} {g : List XSegment} {y : XSegment} (h : InvC b g) (h10 : g.length < 10) : InvC b (g ++ [y]) := ⟨h.1, by simp; omega, h.2.2⟩
theorem stepJ_inv {line : List UInt8} (hl : line.length ≤ 1048576) {b : List XPoint} {g : List XSegment} {p : List XPoint × List XSegment} (h : InvC b g) (hs : stepJ (split 32 line) (b, g) = some p) : InvC p.1 p.2 := by
  unfold stepJ at hs
  split at hs
  · split at hs
    · rename_i c; cases hs; exact inv_pt h c (word_len hl 1)
    · cases hs
  · split at hs
    · split at hs
      · rename_i c; cases hs; exact inv_seg h c
      · cases hs
    · cases hs
theorem impl_read {s : List UInt8} (hl : s.length ≤ 1048576) : f_impl_ParseChart s = some (match rd (fun x => stepJ (split 32 x)) (lines s) ([], []) with | some c => finC s c | none => (⟨[], []⟩, false)) := by
  unfold f_impl_ParseChart
  rw [impl_SplitLines_eq hl]
  simp only [Option.bind_some]
  have hm := fun x (h : x ∈ lines s) => lines_mem hl h
  rw [rd_loop (L := f_impl_ParseChart_1 s (lines s)) (lines s) (fun x => stepJ (split 32 x)) (fun c => some (finC s c)) (some (⟨[], []⟩, false)) InvC (lines_len hl) (fun n i b g hi h => by
    rw [impl_step hi (hm _ (List.getElem_mem hi)) h.1 h.2.1]
    cases stepJ (split 32 (lines s)[i]) (b, g) <;> rfl)
    (fun x hx b g p h hs => stepJ_inv (hm x hx) h hs) (fun n b g h => ?_) [] [] ⟨by simp, by simp, by simp⟩]
  · cases rd (fun x => stepJ (split 32 x)) (lines s) ([], []) <;> rfl
  · have hn : ∀ x ∈ (⟨b, g⟩ : XChart).Points, x.Name.length ≤ maxLen := fun x hx => le_max (h.2.2 x hx)
    rw [f_impl_ParseChart_1]
    simp only [Int.lt_irrefl, decide_false, Bool.false_eq_true, if_false, impl_ChartOk_eq hn, Option.bind_some, finC, impl_FormatChart_eq hn, f_impl_ParseChart_4]
    by_cases c1 : chartOk ⟨b, g⟩ = true <;> by_cases c2 : fmtChart ⟨b, g⟩ = s <;> simp [c1, c2]
def ptWords (x : XPoint) : List (List UInt8) := [pW, x.Name] ++ (if x.Wait = true then [waitW] else [])
def ptLine (x : XPoint) : List UInt8 := join (ptWords x) [32]
theorem ptText_eq (x : XPoint) : ptText x = ptLine x ++ [10] := by
  unfold ptText ptLine ptWords
  cases x.Wait <;> simp [join_cons, joinTail, pW, waitW]
theorem pt_split {x : XPoint} (h : isName x.Name = true) : split 32 (ptLine x) = ptWords x := by
  refine split_join 32 _ (by simp [ptWords]) fun w hw => ?_
  unfold ptWords at hw
  rcases List.mem_append.1 hw with hw | hw
  · simp only [List.mem_cons, List.not_mem_nil, or_false] at hw
    rcases hw with rfl | rfl
    · decide
    · exact name_sp h
  · split at hw
    · simp only [List.mem_singleton] at hw; subst hw; decide
    · simp at hw
theorem pt_stepJ {x : XPoint} (h : isName x.Name = true) {b : List XPoint} {g : List XSegment} (h8 : b.length < 8) : stepJ (split 32 (ptLine x)) (b, g) = some (b ++ [x], g) := by
  rw [pt_split h]
  obtain ⟨nm, wt⟩ := x
  cases wt <;> simp [stepJ, isPt, ptWords, h8]
def segWords (c : XChart) (x : XSegment) : List (List UInt8) := [cW, ptName c x.A, ptName c x.B, itoa x.Depth, itoa x.Minutes] ++ (if x.Meet = true then [meetW] else [])
def segLine (c : XChart) (x : XSegment) : List UInt8 := join (segWords c x) [32]
theorem segText_eq (c : XChart) (x : XSegment) : segText c x = segLine c x ++ [10] := by
  unfold segText segLine segWords
  cases x.Meet <;> simp [join_cons, joinTail, cW, meetW]
theorem pt_at {c : XChart} (hc : chartOk c = true) {a : Int} (ha : idx a c.Points.length = true) : isName (ptName c a) = true ∧ ptNamed c.Points (ptName c a) = a := by
  simp only [idx, Bool.and_eq_true, decide_eq_true_eq] at ha
  obtain ⟨k, rfl⟩ : ∃ k : Nat, a = (k : Int) := ⟨a.toNat, by omega⟩
  have hk : k < c.Points.length := by omega
  simp only [chartOk, Bool.and_eq_true, List.all_eq_true, List.mem_range] at hc
  have := hc.2.2.1 k hk
  simp only [ptOk, List.getElem?_eq_getElem hk, Bool.and_eq_true, decide_eq_true_eq] at this
  simpa [ptName, hk] using this
theorem seg_split {c : XChart} {x : XSegment} (ha : isName (ptName c x.A) = true) (hb : isName (ptName c x.B) = true) : split 32 (segLine c x) = segWords c x := by
  refine split_join 32 _ (by simp [segWords]) fun w hw => ?_
  unfold segWords at hw
  rcases List.mem_append.1 hw with hw | hw
  · simp only [List.mem_cons, List.not_mem_nil, or_false] at hw
    rcases hw with rfl | rfl | rfl | rfl | rfl
    · decide
    · exact name_sp ha
    · exact name_sp hb
    · exact itoa_sp _
    · exact itoa_sp _
  · split at hw
    · simp only [List.mem_singleton] at hw; subst hw; decide
    · simp at hw
theorem seg_stepJ {c : XChart} (hc : chartOk c = true) {x : XSegment} (hx : x ∈ c.Segments) {g : List XSegment} (h10 : g.length < 10) : stepJ (split 32 (segLine c x)) (c.Points, g) = some (c.Points, g ++ [x]) := by
  obtain ⟨_, _, _, hs⟩ := chart_facts hc
  obtain ⟨fa, fb, fd, fm⟩ := hs x hx
  obtain ⟨na, ea⟩ := pt_at hc fa
  obtain ⟨nb, eb⟩ := pt_at hc fb
  rw [seg_split na nb]
  have hne : ¬ cW = pW := by decide
  cases hm : x.Meet <;> simp [stepJ, isPt, isSeg, segWords, segOf, hm, hne, h10, ea, eb, numOk, numOf, parseN_itoa fd, parseN_itoa fm] <;> rw [← hm]
theorem name_nl {s : List UInt8} (h : isName s = true) : ∀ b ∈ s, b ≠ 10 := by
  intro b hb e
  subst e
  obtain ⟨i, hi, hb⟩ := List.getElem_of_mem hb
  simp only [isName, Bool.and_eq_true, List.all_eq_true, List.mem_range] at h
  have := h.2 i hi
  simp only [nmOk, List.getElem?_eq_getElem hi, hb, Bool.or_eq_true, Bool.and_eq_true, decide_eq_true_eq] at this
  have e : (((10 : UInt8).toNat : Nat) : Int) = 10 := rfl
  rw [e] at this
  omega
theorem itoa_nl (n : Int) : ∀ b ∈ itoa n, b ≠ 10 := by
  have hd : ∀ u, ∀ b ∈ decDigits u, b ≠ 10 := fun u b hb e => by
    have := decDigits_dig u b hb
    subst e
    simp [isDig] at this
  intro b hb
  unfold itoa at hb
  split at hb
  · rcases List.mem_cons.1 hb with rfl | hb
    · decide
    · exact hd _ b hb
  · exact hd _ b hb
theorem join_mem : ∀ {ws : List (List UInt8)} {b : UInt8}, b ∈ join ws [32] → b = 32 ∨ ∃ w ∈ ws, b ∈ w
  | [], b, h => by simp [join, List.intercalate] at h
  | w :: r, b, h => by
    rw [join_cons] at h
    rcases List.mem_append.1 h with h | h
    · exact .inr ⟨w, by simp, h⟩
    · unfold joinTail at h
      simp only [List.mem_flatten, List.mem_map] at h
      obtain ⟨l, ⟨v, hv, rfl⟩, hb⟩ := h
      rcases List.mem_append.1 hb with hb | hb
      · simp at hb; exact .inl hb
      · exact .inr ⟨v, by simp [hv], hb⟩
theorem const_nl {w : List UInt8} (h : w.all (fun b => b != 10) = true) {b : UInt8} (hb : b ∈ w) : b ≠ 10 := by
  simpa using List.all_eq_true.1 h b hb
theorem pt_nl {x : XPoint} (h : isName x.Name = true) : ∀ b ∈ ptLine x, b ≠ 10 := by
  intro b hb
  rcases join_mem hb with rfl | ⟨w, hw, hb⟩
  · decide
  · unfold ptWords at hw
    rcases List.mem_append.1 hw with hw | hw
    · simp only [List.mem_cons, List.not_mem_nil, or_false] at hw
      rcases hw with rfl | rfl
      · exact const_nl (w := pW) (by decide) hb
      · exact name_nl h b hb
    · split at hw
      · simp only [List.mem_singleton] at hw; subst hw; exact const_nl (w := waitW) (by decide) hb
      · simp at hw
theorem seg_nl {c : XChart} {x : XSegment} (ha : isName (ptName c x.A) = true) (hb : isName (ptName c x.B) = true) : ∀ b ∈ segLine c x, b ≠ 10 := by
  intro b hb2
  rcases join_mem hb2 with rfl | ⟨w, hw, hb2⟩
  · decide
  · unfold segWords at hw
    rcases List.mem_append.1 hw with hw | hw
    · simp only [List.mem_cons, List.not_mem_nil, or_false] at hw
      rcases hw with rfl | rfl | rfl | rfl | rfl
      · exact const_nl (w := cW) (by decide) hb2
      · exact name_nl ha b hb2
      · exact name_nl hb b hb2
      · exact itoa_nl _ b hb2
      · exact itoa_nl _ b hb2
    · split at hw
      · simp only [List.mem_singleton] at hw; subst hw; exact const_nl (w := meetW) (by decide) hb2
      · simp at hw
theorem fmt_lines {c : XChart} (hc : chartOk c = true) : lines (fmtChart c) = c.Points.map ptLine ++ c.Segments.map (segLine c) := by
  have hp : (List.range c.Points.length).map (ptPiece c) = c.Points.map ptText := by
    have := range_map (c.Points.map ptText) [] c.Points.length (by simp)
    rw [← this]
    exact List.map_congr_left fun i _ => by simp [ptPiece]
  have hs : (List.range c.Segments.length).map (segPiece c) = c.Segments.map (segText c) := by
    have := range_map (c.Segments.map (segText c)) [] c.Segments.length (by simp)
    rw [← this]
    exact List.map_congr_left fun i _ => by simp [segPiece]
  have e : fmtChart c = ((c.Points.map ptLine ++ c.Segments.map (segLine c)).map (· ++ [10])).flatten := by
    rw [fmtChart, if_pos hc, hp, hs, List.map_append, List.flatten_append, List.map_map, List.map_map]
    congr 2
    · exact List.map_congr_left fun x _ => ptText_eq x
    · exact List.map_congr_left fun x _ => segText_eq c x
  rw [e]
  refine lines_flat fun w hw => ?_
  rcases List.mem_append.1 hw with hw | hw
  · obtain ⟨x, hx, rfl⟩ := List.mem_map.1 hw
    obtain ⟨i, hi, rfl⟩ := List.getElem_of_mem hx
    simp only [chartOk, Bool.and_eq_true, List.all_eq_true, List.mem_range] at hc
    have := hc.2.2.1 i hi
    simp only [ptOk, List.getElem?_eq_getElem hi, Bool.and_eq_true] at this
    exact pt_nl this.1
  · obtain ⟨x, hx, rfl⟩ := List.mem_map.1 hw
    obtain ⟨_, _, _, hs⟩ := chart_facts hc
    obtain ⟨fa, fb, _, _⟩ := hs x hx
    exact seg_nl (pt_at hc fa).1 (pt_at hc fb).1
theorem rd_pts {step : List UInt8 → List XPoint × List XSegment → Option (List XPoint × List XSegment)} (hs : ∀ x : XPoint, isName x.Name = true → ∀ b g, b.length < 8 → step (ptLine x) (b, g) = some (b ++ [x], g)) :
    ∀ (ys xs : List XPoint) (g : List XSegment), (∀ x ∈ ys, isName x.Name = true) → xs.length + ys.length ≤ 8 → rd step (ys.map ptLine) (xs, g) = some (xs ++ ys, g)
  | [], xs, g, _, _ => by simp [rd]
  | y :: ys, xs, g, h, hl => by
    simp at hl
    rw [List.map_cons, rd, hs y (h y (by simp)) xs g (by omega), Option.bind_some, rd_pts hs ys (xs ++ [y]) g (fun x hx => h x (by simp [hx])) (by simp; omega)]
    simp
theorem rd_segs {step : List UInt8 → List XPoint × List XSegment → Option (List XPoint × List XSegment)} {c : XChart} (hs : ∀ x ∈ c.Segments, ∀ g, g.length < 10 → step (segLine c x) (c.Points, g) = some (c.Points, g ++ [x])) :
    ∀ (ys gs : List XSegment), (∀ x ∈ ys, x ∈ c.Segments) → gs.length + ys.length ≤ 10 → rd step (ys.map (segLine c)) (c.Points, gs) = some (c.Points, gs ++ ys)
  | [], gs, _, _ => by simp [rd]
  | y :: ys, gs, h, hl => by
    simp at hl
    rw [List.map_cons, rd, hs y (h y (by simp)) gs (by omega), Option.bind_some, rd_segs hs ys (gs ++ [y]) (fun x hx => h x (by simp [hx])) (by simp; omega)]
    simp
theorem round_trip {step : List UInt8 → List XPoint × List XSegment → Option (List XPoint × List XSegment)} {c : XChart} (hc : chartOk c = true) (hp : ∀ x : XPoint, isName x.Name = true → ∀ b g, b.length < 8 → step (ptLine x) (b, g) = some (b ++ [x], g))
    (hs : ∀ x ∈ c.Segments, ∀ g, g.length < 10 → step (segLine c x) (c.Points, g) = some (c.Points, g ++ [x])) : rd step (lines (fmtChart c)) ([], []) = some (c.Points, c.Segments) := by
  have hc' := hc
  simp only [chartOk, Bool.and_eq_true, decide_eq_true_eq, List.all_eq_true, List.mem_range] at hc'
  obtain ⟨h1, h2, h3, _⟩ := hc'
  have hn : ∀ x ∈ c.Points, isName x.Name = true := fun x hx => by
    obtain ⟨i, hi, rfl⟩ := List.getElem_of_mem hx
    have := h3 i hi
    simp only [ptOk, List.getElem?_eq_getElem hi, Bool.and_eq_true] at this
    exact this.1
  rw [fmt_lines hc, rd_append, rd_pts hp c.Points [] [] hn (by simpa using h1)]
  simp only [List.nil_append, Option.bind_some]
  rw [rd_segs hs c.Segments [] (fun _ h => h) (by simpa using h2)]
  simp
theorem small_max {n : Nat} (h : n ≤ 1000) : n ≤ maxLen := by rw [maxLen_val]; omega
def shipOk (s : XShip) : Bool := isName s.Name && ((decide (10 ≤ s.Length) && decide (s.Length ≤ 400)) && ((decide (100 ≤ s.Draught) && decide (s.Draught ≤ 2000)) && ((decide (0 ≤ s.Line) && decide (s.Line ≤ 3)) && (decide (0 ≤ s.Tugs) && decide (s.Tugs ≤ 4)))))
theorem impl_ShipOk_eq {s : XShip} (h : s.Name.length ≤ maxLen) : f_impl_ShipOk s = some (shipOk s) := by
  have e : (decide (0 ≤ s.Line) && decide (s.Line < 4)) = (decide (0 ≤ s.Line) && decide (s.Line ≤ 3)) := by
    congr 1
    rw [Bool.eq_iff_iff]; simp; omega
  simp only [f_impl_ShipOk, impl_IsName_eq h, within_eq, isIndex_eq, Option.bind_some, if_and, shipOk, e]
def shipWords (s : XShip) : List (List UInt8) := [s.Name, itoa s.Length, itoa s.Draught, itoa s.Line, itoa s.Tugs]
def slowW : List UInt8 := [32, 115, 108, 111, 119]
def fmtShip (s : XShip) : List UInt8 := if shipOk s = true then join (shipWords s) [32] ++ (if s.Slow = true then slowW else []) else []
theorem ship_facts {s : XShip} (h : shipOk s = true) : isName s.Name = true ∧ i64 s.Length ∧ i64 s.Draught ∧ i64 s.Line ∧ i64 s.Tugs := by
  simp only [shipOk, Bool.and_eq_true, decide_eq_true_eq] at h
  unfold i64
  exact ⟨h.1, by omega, by omega, by omega, by omega⟩
theorem ship_join_len {s : XShip} (h : shipOk s = true) : (join (shipWords s) [32]).length ≤ 100 := by
  obtain ⟨h0, h1, h2, h3, h4⟩ := ship_facts h
  have := name_len h0
  have := itoa_len h1; have := itoa_len h2; have := itoa_len h3; have := itoa_len h4
  rw [shipWords, join5]
  simp only [List.length_append, List.length_cons, List.length_nil]
  omega
theorem impl_FormatShip_eq {s : XShip} (hn : s.Name.length ≤ maxLen) : f_impl_FormatShip s = some (fmtShip s) := by
  unfold f_impl_FormatShip fmtShip
  rw [impl_ShipOk_eq hn]
  simp only [Option.bind_some]
  cases h : shipOk s with
  | false => simp
  | true =>
    obtain ⟨h0, h1, h2, h3, h4⟩ := ship_facts h
    have hj := ship_join_len h
    simp only [if_true, impl_fmt_eq h1, impl_fmt_eq h2, impl_fmt_eq h3, impl_fmt_eq h4, Option.bind_some]
    rw [show ([s.Name, itoa s.Length, itoa s.Draught, itoa s.Line, itoa s.Tugs] : List (List UInt8)) = shipWords s from rfl, impl_join_eq (by simp [shipWords]) (by omega)]
    simp only [Option.bind_some]
    rw [impl_marked_eq (by simp; omega)]
    rfl
theorem part_len {s : List UInt8} (hl : s.length ≤ 1048576) : ∀ x ∈ split 32 s, x.length ≤ 1048576 := fun x hx => by
  have := spl_mem 32 s [] x hx
  simp at this
  omega
def nilShip : XShip := ⟨[], 0, 0, 0, 0, false⟩
def shipOf (w : List (List UInt8)) : XShip := ⟨w.getD 0 [], numOf (w.getD 1 []), numOf (w.getD 2 []), numOf (w.getD 3 []), numOf (w.getD 4 []), decide (w.length = 6)⟩
def readShip (s : List UInt8) : XShip × Bool :=
  if ((split 32 s).length = 5 ∨ (split 32 s).length = 6) ∧ (((split 32 s).drop 1).take 4).all numOk = true ∧ shipOk (shipOf (split 32 s)) = true ∧ fmtShip (shipOf (split 32 s)) = s then (shipOf (split 32 s), true) else (nilShip, false)
theorem ship_parts {x : XShip} (h : shipOk x = true) : split 32 (fmtShip x) = shipWords x ++ (if x.Slow = true then [[115, 108, 111, 119]] else []) := by
  obtain ⟨h0, h1, h2, h3, h4⟩ := ship_facts h
  have e : fmtShip x = join (shipWords x ++ (if x.Slow = true then [[115, 108, 111, 119]] else [])) [32] := by
    rw [fmtShip, if_pos h]
    split
    · rw [join_snoc _ _ _ (by simp [shipWords])]; simp [slowW]
    · simp
  rw [e]
  refine split_join 32 _ (by simp [shipWords]) fun w hw => ?_
  rcases List.mem_append.1 hw with hw | hw
  · simp only [shipWords, List.mem_cons, List.not_mem_nil, or_false] at hw
    rcases hw with rfl | rfl | rfl | rfl | rfl
    · exact name_sp h0
    all_goals exact itoa_sp _
  · split at hw
    · simp only [List.mem_singleton] at hw; subst hw; decide
    · simp at hw
theorem take4 {w : List (List UInt8)} (h : 5 ≤ w.length) : (w.drop 1).take 4 = [w.getD 1 [], w.getD 2 [], w.getD 3 [], w.getD 4 []] := by
  match w, h with
  | a :: b :: c :: d :: e :: r, _ => rfl
theorem impl_ParseShip_eq {s : List UInt8} (hl : s.length ≤ 1048576) : f_impl_ParseShip s = some (readShip s) := by
  unfold f_impl_ParseShip readShip
  rw [impl_SplitAny_eq hl]
  simp only [Option.bind_some]
  have hp := part_len hl
  have hparts : ∀ x, shipOk x = true → fmtShip x = s → split 32 s = shipWords x ++ (if x.Slow = true then [[115, 108, 111, 119]] else []) := fun x h e => by rw [← e]; exact ship_parts h
  generalize split 32 s = w at hp hparts
  by_cases h5 : 5 ≤ w.length
  rotate_left
  · have : (w.length : Int) < 5 := by omega
    simp only [this, decide_true, if_true]
    rw [if_neg (fun h => by rcases h.1 with h | h <;> omega)]
    rfl
  have h5' : ¬ (w.length : Int) < 5 := by omega
  simp only [h5', decide_false, Bool.false_eq_true, if_false]
  rw [show bnd (5 : Int) 5 1 w.length = some (1, 5) by unfold bnd; rw [if_pos ⟨by omega, by omega, by omega, by omega⟩]; rfl]
  simp only [Option.bind_some, show (5 : Nat) - 1 = 4 from rfl]
  have e4 := take4 h5
  have hm4 : ∀ x ∈ (w.drop 1).take 4, x.length ≤ 1048576 := fun x hx => hp x (List.mem_of_mem_drop (List.mem_of_mem_take hx))
  rw [impl_parseNumbers_eq (by rw [e4]; simp) hm4]
  simp only [Option.bind_some]
  by_cases hn : ((w.drop 1).take 4).all numOk = true
  rotate_left
  · rw [if_neg hn]
    simp only [Bool.false_eq_true, if_false]
    rw [if_neg (fun h => hn h.2.1)]
    rfl
  rw [if_pos hn]
  have e : ((w.drop 1).take 4).map numOf = [numOf (w.getD 1 []), numOf (w.getD 2 []), numOf (w.getD 3 []), numOf (w.getD 4 [])] := by rw [e4]; rfl
  have hg0 : ix w 0 = some (w.getD 0 []) := by
    have : ix w ((0 : Nat) : Int) = some w[0] := ix_at (by omega)
    rw [show ((0 : Nat) : Int) = 0 from rfl] at this
    rw [this]; simp [List.getD, show 0 < w.length by omega]
  have hname : (w.getD 0 []).length ≤ maxLen := by
    refine le_max (hp _ ?_)
    have : w.getD 0 [] = w[0]'(by omega) := by simp [List.getD, show 0 < w.length by omega]
    rw [this]; exact List.getElem_mem _
  simp only [if_true, e, hg0, Option.bind_some, show ix [numOf (w.getD 1 []), numOf (w.getD 2 []), numOf (w.getD 3 []), numOf (w.getD 4 [])] 0 = some (numOf (w.getD 1 [])) from rfl,
    show ix [numOf (w.getD 1 []), numOf (w.getD 2 []), numOf (w.getD 3 []), numOf (w.getD 4 [])] 1 = some (numOf (w.getD 2 [])) from rfl, show ix [numOf (w.getD 1 []), numOf (w.getD 2 []), numOf (w.getD 3 []), numOf (w.getD 4 [])] 2 = some (numOf (w.getD 3 [])) from rfl,
    show ix [numOf (w.getD 1 []), numOf (w.getD 2 []), numOf (w.getD 3 []), numOf (w.getD 4 [])] 3 = some (numOf (w.getD 4 [])) from rfl]
  by_cases h7 : w.length ≤ 6
  · have hs6 : decide ((5 : Int) < (w.length : Int)) = decide (w.length = 6) := by rw [Bool.eq_iff_iff]; simp; omega
    rw [hs6, show (⟨w.getD 0 [], numOf (w.getD 1 []), numOf (w.getD 2 []), numOf (w.getD 3 []), numOf (w.getD 4 []), decide (w.length = 6)⟩ : XShip) = shipOf w from rfl, impl_ShipOk_eq (s := shipOf w) hname, impl_FormatShip_eq (s := shipOf w) hname]
    have hw : w.length = 5 ∨ w.length = 6 := by omega
    simp only [Option.bind_some, f_impl_ParseShip_1, hw, hn, true_and]
    cases shipOk (shipOf w) with
    | false => rfl
    | true =>
      by_cases hf : fmtShip (shipOf w) = s
      · simp only [hf, beq_self_eq_true, Bool.not_true, Bool.false_eq_true, if_false, if_true, true_and]; rfl
      · have : (fmtShip (shipOf w) == s) = false := by simpa using hf
        simp only [this, Bool.not_false, if_true, hf, and_false, if_false]; rfl
  · have hs6 : decide ((5 : Int) < (w.length : Int)) = true := by simp; omega
    rw [hs6, if_neg (fun h => by rcases h.1 with h | h <;> omega)]
    generalize hx : (⟨w.getD 0 [], numOf (w.getD 1 []), numOf (w.getD 2 []), numOf (w.getD 3 []), numOf (w.getD 4 []), true⟩ : XShip) = x
    have hxn : x.Name.length ≤ maxLen := by rw [← hx]; exact hname
    rw [impl_ShipOk_eq hxn, impl_FormatShip_eq hxn]
    simp only [Option.bind_some, f_impl_ParseShip_1]
    cases hok : shipOk x with
    | false => rfl
    | true =>
      have hf : ¬ fmtShip x = s := fun e => by
        have := congrArg List.length (hparts x hok e)
        rw [← hx] at this
        simp [shipWords] at this
        omega
      have : (fmtShip x == s) = false := by simpa using hf
      simp only [this, Bool.not_false, if_true]; rfl
structure CurOk (c : Xl01Cur) : Prop where
  i0 : 0 ≤ c.i
  i1 : c.i ≤ (c.b.length : Int)
  len : c.b.length ≤ maxLen
theorem and255 (x : Int) : 0 ≤ bitsV .and .i64 x 255 ∧ bitsV .and .i64 x 255 ≤ 255 := by
  have h : (BitVec.ofInt IntKind.i64.bits x &&& BitVec.ofInt IntKind.i64.bits 255).toNat ≤ 255 := by
    rw [BitVec.toNat_and]
    exact Nat.le_trans Nat.and_le_right (by decide)
  have e : bitsV .and .i64 x 255 = ((BitVec.ofInt IntKind.i64.bits x &&& BitVec.ofInt IntKind.i64.bits 255).toNat : Int) := by
    unfold bitsV
    exact wrap64 (by omega) (by omega)
  rw [e]
  omega
theorem byte_ok {c : Xl01Cur} (h : CurOk c) : ∃ v c', f_spec_l01Byte c = some (v, c') ∧ CurOk c' ∧ 0 ≤ v ∧ v ≤ 255 := by
  unfold f_spec_l01Byte
  have hl := h.len
  rw [maxLen_val] at hl
  by_cases hlt : c.i < (c.b.length : Int)
  · obtain ⟨i, hi⟩ : ∃ i : Nat, c.i = (i : Int) := ⟨c.i.toNat, by have := h.i0; omega⟩
    have h2 : i < c.b.length := by omega
    simp only [hlt, decide_true, if_true]
    rw [hi, ix_at h2]
    simp only [Option.bind_some]
    refine ⟨_, _, rfl, ⟨?_, ?_, h.len⟩, (and255 _).1, (and255 _).2⟩
    · show 0 ≤ IntKind.i64.wrap ((i : Int) + 1)
      rw [wrap64 (by omega) (by omega)]; omega
    · show IntKind.i64.wrap ((i : Int) + 1) ≤ (c.b.length : Int)
      rw [wrap64 (by omega) (by omega)]; omega
  · simp only [hlt, decide_false, Bool.false_eq_true, if_false]
    exact ⟨_, _, rfl, ⟨h.i0, h.i1, h.len⟩, (and255 _).1, (and255 _).2⟩
theorem below_ok {c : Xl01Cur} {n : Int} (h : CurOk c) (hn : n ≤ 1000000) : ∃ v c', f_spec_l01Below c n = some (v, c') ∧ CurOk c' ∧ 0 ≤ v ∧ (0 < n → v < n) ∧ (n ≤ 0 → v = 0) := by
  unfold f_spec_l01Below
  by_cases h0 : n ≤ 0
  · simp only [h0, decide_true, if_true]
    exact ⟨0, c, rfl, h, by omega, fun h => by omega, fun _ => rfl⟩
  simp only [h0, decide_false, Bool.false_eq_true, if_false]
  have hne : (n == 0) = false := by simpa using fun e : n = 0 => h0 (by omega)
  by_cases h1 : n ≤ 256
  · obtain ⟨v, c', e, k1, k2, k3⟩ := byte_ok h
    simp only [h1, decide_true, if_true, e, Option.bind_some, hne, Bool.false_eq_true, if_false]
    have hm := Int.emod_nonneg v (b := n) (by omega)
    have hm2 := Int.emod_lt_of_pos v (b := n) (by omega)
    refine ⟨_, _, rfl, k1, ?_, ?_, fun h => by first | exact h.elim | exact absurd h h0⟩
    · rw [Int.tmod_eq_emod_of_nonneg k2, wrap64 (by omega) (by omega)]; exact hm
    · intro _; rw [Int.tmod_eq_emod_of_nonneg k2, wrap64 (by omega) (by omega)]; exact hm2
  · obtain ⟨v1, c1, e1, a1, a2, a3⟩ := byte_ok h
    obtain ⟨v2, c2, e2, b1, b2, b3⟩ := byte_ok a1
    obtain ⟨v3, c3, e3, d1, d2, d3⟩ := byte_ok b1
    obtain ⟨v4, c4, e4, g1, g2, g3⟩ := byte_ok d1
    simp only [h1, decide_false, Bool.false_eq_true, if_false, e1, e2, e3, e4, Option.bind_some, hne]
    rw [wrap64 (n := v1 * 16777216) (by omega) (by omega), wrap64 (n := v2 * 65536) (by omega) (by omega), wrap64 (n := v3 * 256) (by omega) (by omega), wrap64 (n := v1 * 16777216 + v2 * 65536) (by omega) (by omega),
      wrap64 (n := v1 * 16777216 + v2 * 65536 + v3 * 256) (by omega) (by omega), wrap64 (n := v1 * 16777216 + v2 * 65536 + v3 * 256 + v4) (by omega) (by omega)]
    have k2 : 0 ≤ v1 * 16777216 + v2 * 65536 + v3 * 256 + v4 := by omega
    have hm := Int.emod_nonneg (v1 * 16777216 + v2 * 65536 + v3 * 256 + v4) (b := n) (by omega)
    have hm2 := Int.emod_lt_of_pos (v1 * 16777216 + v2 * 65536 + v3 * 256 + v4) (b := n) (by omega)
    refine ⟨_, _, rfl, g1, ?_, ?_, fun h => by first | exact h.elim | exact absurd h h0⟩
    · rw [Int.tmod_eq_emod_of_nonneg k2, wrap64 (by omega) (by omega)]; exact hm
    · intro _; rw [Int.tmod_eq_emod_of_nonneg k2, wrap64 (by omega) (by omega)]; exact hm2
theorem new_ok {a : List Int} (ha : a.length ≤ maxLen) : ∃ c, f_spec_l01New a = some c ∧ CurOk c := by
  unfold f_spec_l01New
  have key : ∀ (k i n : Nat) (v : Int), i + k = a.length → k < n → ∃ c, f_spec_l01New_1 a n v (i : Int) = some c ∧ CurOk c := by
    intro k
    induction k with
    | zero =>
      intro i n v hi hn
      obtain ⟨m, rfl⟩ : ∃ m, n = m + 1 := ⟨n - 1, by omega⟩
      have : i = a.length := by omega
      subst this
      exact ⟨_, by simp [f_spec_l01New_1, f_spec_l01New_2]; rfl, ⟨by simp, by simp, ha⟩⟩
    | succ k ih =>
      intro i n v hi hn
      obtain ⟨m, rfl⟩ : ∃ m, n = m + 1 := ⟨n - 1, by omega⟩
      have hlt : i < a.length := by omega
      simp only [f_spec_l01New_1, dec_nn, hlt, decide_true, if_true, ix_at hlt, Option.bind_some, wrapS hlt ha]
      by_cases h4 : (i : Int) < 4000
      · simp only [h4, decide_true, if_true]
        exact ih (i + 1) m _ (by omega) (by omega)
      · simp only [h4, decide_false, Bool.false_eq_true, if_false, f_spec_l01New_2]
        exact ⟨_, rfl, ⟨by simp, by simp, ha⟩⟩
  exact key a.length 0 bigN _ (by omega) (lt_bigN ha)
theorem skip_loop {k : Nat} (hk : k ≤ 1000) : ∀ (j i n : Nat) (c : Xl01Cur), i + j = k → j < n → CurOk c → ∃ c', f_spec_l28New_1 (k : Int) n (i : Int) c.b c.i c.h = some c' ∧ CurOk c' := by
  intro j
  induction j with
  | zero =>
    intro i n c hi hn hc
    obtain ⟨m, rfl⟩ : ∃ m, n = m + 1 := ⟨n - 1, by omega⟩
    have : i = k := by omega
    subst this
    refine ⟨c, ?_, hc⟩
    rw [f_spec_l28New_1]
    simp only [Int.lt_irrefl, decide_false, Bool.false_eq_true, if_false]
  | succ j ih =>
    intro i n c hi hn hc
    obtain ⟨m, rfl⟩ : ∃ m, n = m + 1 := ⟨n - 1, by omega⟩
    have hlt : i < k := by omega
    obtain ⟨v, c', e, h1, _, _⟩ := byte_ok hc
    have e' : f_spec_l01Byte ⟨c.b, c.i, c.h⟩ = some (v, c') := e
    rw [f_spec_l28New_1]
    simp only [dec_nn, hlt, decide_true, if_true, e', Option.bind_some]
    rw [wrapS hlt (small_max hk)]
    exact ih (i + 1) m c' (by omega) (by omega) h1
theorem skip_ok {a : List Int} {k : Nat} (hk : k ≤ 1000) (ha : a.length ≤ maxLen) : ∃ c, f_spec_l28New a (k : Int) = some c ∧ CurOk c := by
  unfold f_spec_l28New
  obtain ⟨c, e, hc⟩ := new_ok ha
  have H := skip_loop hk k 0 bigN c (by omega) (lt_bigN (small_max hk)) hc
  rw [show ((0 : Nat) : Int) = 0 from rfl] at H
  rw [e]
  simpa only [Option.bind_some] using H
end Go.Vi
