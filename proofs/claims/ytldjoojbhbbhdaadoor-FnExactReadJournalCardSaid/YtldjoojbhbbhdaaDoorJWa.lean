/-
  Plain law: windows read from texts (ParseWindows). No condition.
-/
import Derived.Test.YtldjoojbhbbhdaaDoorJRa
import Derived.Test.YtldjoojbhbbhdaaDoorJMa
namespace Go.Vi
open Go.Lib
set_option linter.unusedSimpArgs false
set_option linter.unusedVariables false

theorem le_big {n : Nat} (h : n ≤ 1100000) : n ≤ maxLen := by rw [maxLen_val]; omega
theorem l01In_eq (n lo hi : Int) : f_spec_l01In n lo hi = some (decide (lo ≤ n) && decide (n ≤ hi)) := by
  unfold f_spec_l01In
  by_cases h : lo ≤ n <;> simp [h]
theorem le_max {n : Nat} (h : n ≤ 1048576) : n ≤ maxLen := by rw [maxLen_val]; omega
theorem foldr_all {len : Nat} (p : Nat → Bool) (K : Option Bool) : ∀ (k i : Nat), (List.range' i k).foldr (fun i r => if p i = true then r else some false) K = if (List.range' i k).all p = true then K else some false
  | 0, i => by simp
  | k + 1, i => by
    rw [List.range'_succ, List.foldr_cons, foldr_all (len := len) p K k (i + 1), List.all_cons]
    cases p i <;> rfl
theorem all_loopK {L : Nat → Int → Option Bool} (len : Nat) (p : Nat → Bool) (K : Option Bool) (hl : len ≤ maxLen)
    (hs : ∀ (n i : Nat), i < len → L (n + 1) (i : Int) = if p i = true then L n (IntKind.i64.wrap ((i : Int) + 1)) else some false) (he : ∀ n, L (n + 1) (len : Int) = K) : L bigN 0 = if (List.range len).all p = true then K else some false := by
  have := range_loop L len hl (fun i r => if p i = true then r else some false) K hs he len 0 bigN (by omega) (lt_bigN hl)
  rw [foldr_all (len := len), ← List.range_eq_range'] at this
  exact this
theorem appB_of {m n b : Nat} (h : m + n ≤ 2000000) (hb : b ≤ 1000) : appB m n b = true := by
  unfold appB
  rw [decide_eq_true_eq]
  have : (m + n) * b ≤ 2000000 * 1000 := Nat.mul_le_mul h hb
  omega
theorem ifa {α : Type} {m n b : Nat} (h : m + n ≤ 2000000) (hb : b ≤ 1000) (x y : α) : (if appB m n b = true then x else y) = x := by rw [if_pos (appB_of h hb)]
def winAt (l : List XWindow) (i : Nat) : Bool := match l[i]? with
  | some x => decide (0 ≤ x.From) && (decide (x.From ≤ x.To) && (decide (x.To ≤ 2880) && (match l[i - 1]? with | some y => decide (i = 0) || !(decide (x.From ≤ IntKind.i64.wrap (y.To + 1))) | none => true)))
  | none => false
def windowsOk (l : List XWindow) : Bool := (List.range l.length).all (winAt l)
theorem pred_ix {α : Type} {l : List α} {i : Nat} (h0 : 0 < i) (hi : i < l.length) (hl : l.length ≤ maxLen) : ix l (IntKind.i64.wrap ((i : Int) - 1)) = some (l[i - 1]'(by omega)) := by
  rw [maxLen_val] at hl
  rw [wrap64 (by omega) (by omega), show (i : Int) - 1 = ((i - 1 : Nat) : Int) by omega, ix_at (by omega)]
theorem spec_WindowsOk_eq {l : List XWindow} (hl : l.length ≤ maxLen) : f_spec_WindowsOk l = some (windowsOk l) := by
  unfold f_spec_WindowsOk windowsOk
  refine all_loopI (L := f_spec_WindowsOk_1 l) l.length (winAt l) hl (fun n i hi => ?_) (fun n => by simp [f_spec_WindowsOk_1])
  have hp : i - 1 < l.length := by omega
  simp only [f_spec_WindowsOk_1, dec_nn, hi, decide_true, if_true, ix_at hi, Option.bind_some, l01In_eq, winAt, List.getElem?_eq_getElem hi, List.getElem?_eq_getElem hp]
  generalize f_spec_WindowsOk_1 l n (IntKind.i64.wrap ((i : Int) + 1)) = K
  by_cases h0 : i = 0
  · subst h0
    have hz : ¬ (0 : Int) < ((0 : Nat) : Int) := by omega
    simp only [hz, decide_false, Bool.false_eq_true, if_false, decide_true, Bool.true_or]
    by_cases a1 : 0 ≤ l[0].From <;> by_cases a2 : l[0].From ≤ l[0].To <;> by_cases a3 : l[0].To ≤ 2880 <;> by_cases a4 : l[0].From ≤ 2880 <;> simp [a1, a2, a3, a4] <;> omega
  · have hz : (0 : Int) < (i : Int) := by omega
    simp only [hz, decide_true, if_true, pred_ix (by omega) hi hl, Option.bind_some, h0, decide_false, Bool.false_or]
    by_cases a1 : 0 ≤ l[i].From <;> by_cases a2 : l[i].From ≤ l[i].To <;> by_cases a3 : l[i].To ≤ 2880 <;> by_cases a4 : l[i].From ≤ 2880 <;> by_cases a5 : l[i].From ≤ IntKind.i64.wrap (l[i - 1].To + 1) <;> simp [a1, a2, a3, a4, a5] <;> omega
theorem impl_WindowsOk_eq {l : List XWindow} (hl : l.length ≤ maxLen) : f_impl_WindowsOk l = some (windowsOk l) := by
  unfold f_impl_WindowsOk windowsOk
  refine all_loopI (L := f_impl_WindowsOk_1 l) l.length (winAt l) hl (fun n i hi => ?_) (fun n => by simp [f_impl_WindowsOk_1])
  have hp : i - 1 < l.length := by omega
  simp only [f_impl_WindowsOk_1, dec_nn, hi, decide_true, if_true, ix_at hi, Option.bind_some, winAt, List.getElem?_eq_getElem hi, List.getElem?_eq_getElem hp]
  generalize f_impl_WindowsOk_1 l n (IntKind.i64.wrap ((i : Int) + 1)) = K
  have b1 : decide (l[i].From < 0) = !decide (0 ≤ l[i].From) := by rw [Bool.eq_iff_iff]; simp
  have b2 : decide (l[i].To < l[i].From) = !decide (l[i].From ≤ l[i].To) := by rw [Bool.eq_iff_iff]; simp
  have b3 : decide (2880 < l[i].To) = !decide (l[i].To ≤ 2880) := by rw [Bool.eq_iff_iff]; simp
  rw [b1, b2, b3]
  by_cases h0 : i = 0
  · subst h0
    have hz : ¬ (0 : Int) < ((0 : Nat) : Int) := by omega
    simp only [hz, decide_false, Bool.false_eq_true, if_false, decide_true, Bool.true_or]
    cases decide (0 ≤ l[0].From) <;> cases decide (l[0].From ≤ l[0].To) <;> cases decide (l[0].To ≤ 2880) <;> rfl
  · have hz : (0 : Int) < (i : Int) := by omega
    simp only [hz, decide_true, if_true, pred_ix (by omega) hi hl, Option.bind_some, h0, decide_false, Bool.false_or]
    cases decide (0 ≤ l[i].From) <;> cases decide (l[i].From ≤ l[i].To) <;> cases decide (l[i].To ≤ 2880) <;> cases decide (l[i].From ≤ IntKind.i64.wrap (l[i - 1].To + 1)) <;> rfl
theorem win_facts {l : List XWindow} (h : windowsOk l = true) : ∀ x ∈ l, i64 x.From ∧ i64 x.To := by
  intro x hx
  obtain ⟨i, hi, rfl⟩ := List.getElem_of_mem hx
  have := List.all_eq_true.1 h i (List.mem_range.2 hi)
  simp only [winAt, List.getElem?_eq_getElem hi, Bool.and_eq_true, decide_eq_true_eq] at this
  exact ⟨⟨by omega, by omega⟩, ⟨by omega, by omega⟩⟩
theorem build_loop {β R : Type} {L : Nat → Int → List β → Option R} (len : Nat) (g : Nat → β) (K : List β → Option R) (hl : len ≤ maxLen)
    (hs : ∀ (n i : Nat) (acc : List β), i < len → acc.length = i → L (n + 1) (i : Int) acc = L n (IntKind.i64.wrap ((i : Int) + 1)) (acc ++ [g i])) (he : ∀ n acc, acc.length = len → L (n + 1) (len : Int) acc = K acc) : L bigN 0 [] = K ((List.range len).map g) := by
  have key : ∀ (k i n : Nat) (acc : List β), i + k = len → k < n → acc.length = i → L n (i : Int) acc = K (acc ++ (List.range' i k).map g) := by
    intro k
    induction k with
    | zero =>
      intro i n acc hi hn ha
      obtain ⟨m, rfl⟩ : ∃ m, n = m + 1 := ⟨n - 1, by omega⟩
      have : i = len := by omega
      subst this
      rw [he _ _ ha]; simp
    | succ k ih =>
      intro i n acc hi hn ha
      obtain ⟨m, rfl⟩ : ∃ m, n = m + 1 := ⟨n - 1, by omega⟩
      rw [hs m i acc (by omega) ha, wrapS (show i < len by omega) hl, ih (i + 1) m _ (by omega) (by omega) (by simp [ha]), List.range'_succ]
      simp
  have := key len 0 bigN [] (by omega) (lt_bigN hl) rfl
  rw [List.range_eq_range']
  simpa using this
theorem range_map {β : Type} (l : List β) (d : β) (n : Nat) (h : n = l.length) : ((List.range n).map fun i => (l[i]?).getD d) = l := by
  subst h
  apply List.ext_getElem
  · simp
  · intro i h1 h2
    simp [h2]
def winText (x : XWindow) : List UInt8 := itoa x.From ++ [45] ++ itoa x.To
def fmtWindows (l : List XWindow) : List UInt8 := if windowsOk l = true then (if l = [] then [110, 111, 110, 101] else join (l.map winText) [32]) else []
theorem join_len_le {l : List (List UInt8)} {sep : List UInt8} {B : Nat} (h : ∀ x ∈ l, x.length ≤ B) : (join l sep).length ≤ l.length * (B + sep.length) := by
  have key : ∀ r : List (List UInt8), (∀ x ∈ r, x.length ≤ B) → (joinTail sep r).length ≤ r.length * (B + sep.length) := by
    intro r
    induction r with
    | nil => simp [joinTail]
    | cons x r ih =>
      intro hr
      have h1 := ih fun y hy => hr y (by simp [hy])
      have h2 := hr x (by simp)
      simp only [joinTail, List.map_cons, List.flatten_cons, List.length_append, List.length_cons, Nat.add_mul, Nat.one_mul] at h1 ⊢
      omega
  cases l with
  | nil => simp [join, List.intercalate]
  | cons x r =>
    rw [join_cons]
    have h1 := key r fun y hy => h y (by simp [hy])
    have h2 := h x (by simp)
    simp only [List.length_append, List.length_cons, Nat.add_mul, Nat.one_mul] at h1 ⊢
    omega
theorem winText_len {l : List XWindow} (h : windowsOk l = true) : ∀ x ∈ l.map winText, x.length ≤ 50 := by
  intro x hx
  obtain ⟨y, hy, rfl⟩ := List.mem_map.1 hx
  obtain ⟨a, b⟩ := win_facts h y hy
  have := itoa_len a; have := itoa_len b
  simp only [winText, List.length_append, List.length_cons, List.length_nil]
  omega
theorem win_join_len {l : List XWindow} (h : windowsOk l = true) (hl : l.length ≤ 1100000) : (join (l.map winText) [32]).length ≤ 100000000 := by
  have := join_len_le (sep := [32]) (winText_len h)
  simp only [List.length_map, List.length_cons, List.length_nil] at this
  omega
theorem spec_FormatWindows_eq {l : List XWindow} (hl : l.length ≤ 1100000) : f_spec_FormatWindows l = some (fmtWindows l) := by
  unfold f_spec_FormatWindows fmtWindows
  rw [spec_WindowsOk_eq (le_big hl)]
  simp only [Option.bind_some]
  cases h : windowsOk l with
  | false => simp
  | true =>
    simp only [if_true]
    rw [build_loop (L := f_spec_FormatWindows_1 l) l.length (fun i => ((l.map winText)[i]?).getD []) (fun acc => if l = [] then some [110, 111, 110, 101] else (f_spec_Join acc [32]).bind fun r => some r) (le_big hl) (fun n i acc hi ha => ?_) (fun n acc ha => ?_), range_map _ _ _ (by simp)]
    · by_cases h0 : l = []
      · simp [h0]
      · simp only [h0, if_false]
        rw [join_eq (by rw [List.length_map]; exact le_big hl) (by have := win_join_len h hl; omega)]
        rfl
    · obtain ⟨a, b⟩ := win_facts h l[i] (List.getElem_mem hi)
      have := itoa_len a; have := itoa_len b
      simp only [f_spec_FormatWindows_1, dec_nn, hi, decide_true, if_true, ix_at hi, Option.bind_some, fmt_eq a, fmt_eq b, List.getElem?_map, List.getElem?_eq_getElem hi, Option.map_some, Option.getD_some]
      rw [ifc (by simp; omega), ifc (by simp; omega), ifa (by simp; omega) (by omega)]
      rfl
    · simp only [f_spec_FormatWindows_1, Int.lt_irrefl, decide_false, Bool.false_eq_true, if_false]
      by_cases h0 : l = []
      · subst h0
        simp at ha
        subst ha
        rfl
      · have : ¬ l.length = 0 := fun e => h0 (List.length_eq_zero_iff.1 e)
        have e : ((acc.length : Int) == 0) = false := by rw [ha]; simpa using h0
        simp [e, h0]
theorem impl_FormatWindows_eq {l : List XWindow} (hl : l.length ≤ 1100000) : f_impl_FormatWindows l = some (fmtWindows l) := by
  unfold f_impl_FormatWindows fmtWindows
  rw [impl_WindowsOk_eq (le_big hl)]
  simp only [Option.bind_some]
  cases h : windowsOk l with
  | false => simp
  | true =>
    simp only [if_true]
    by_cases h0 : l = []
    · subst h0; rfl
    · have e : ((l.length : Int) == 0) = false := by simpa using h0
      simp only [e, Bool.false_eq_true, if_false, h0]
      rw [build_loop (L := f_impl_FormatWindows_1 l) l.length (fun i => ((l.map winText)[i]?).getD []) (fun acc => (f_impl_Join acc [32]).bind fun r => some r) (le_big hl) (fun n i acc hi ha => ?_) (fun n acc ha => ?_), range_map _ _ _ (by simp)]
      · rw [impl_join_eq (by rw [List.length_map]; omega) (by have := win_join_len h hl; omega)]
        rfl
      · obtain ⟨a, b⟩ := win_facts h l[i] (List.getElem_mem hi)
        have := itoa_len a; have := itoa_len b
        simp only [f_impl_FormatWindows_1, dec_nn, hi, decide_true, if_true, ix_at hi, Option.bind_some, impl_fmt_eq a, impl_fmt_eq b, List.getElem?_map, List.getElem?_eq_getElem hi, Option.map_some, Option.getD_some]
        rw [ifc (by simp; omega), ifc (by simp; omega), ifa (by simp; omega) (by omega)]
        rfl
      · simp only [f_impl_FormatWindows_1, Int.lt_irrefl, decide_false, Bool.false_eq_true, if_false]
theorem eqWindow_eq (x y : XWindow) : f_laws_eqWindow x y = some (decide (x = y)) := by
  unfold f_laws_eqWindow
  cases x; cases y
  simp only [XWindow.mk.injEq]
  repeat' split
  all_goals simp_all
theorem eqWindowS_eq {xs ys : List XWindow} (h : xs.length ≤ maxLen) : f_laws_eqWindowS xs ys = some (decide (xs = ys)) := by
  unfold f_laws_eqWindowS
  by_cases hl : xs.length = ys.length
  · have := eq_loop (L := f_laws_eqWindowS_1 xs ys) xs ys h hl (fun n i h1 h2 => by simp [f_laws_eqWindowS_1, ix_nn, h1, h2, eqWindow_eq]) (fun n => by simp [f_laws_eqWindowS_1])
    simp [hl, this]
  · have : ¬ (xs.length : Int) = ys.length := by omega
    have : xs ≠ ys := fun e => hl (by rw [e])
    simp_all
/-! Parts of a text -/
def spl (c : UInt8) : List UInt8 → List UInt8 → List (List UInt8)
  | cur, [] => [cur]
  | cur, b :: r => if b = c then cur :: spl c [] r else spl c (cur ++ [b]) r
def split (c : UInt8) (s : List UInt8) : List (List UInt8) := spl c [] s
theorem spl_len (c : UInt8) : ∀ (s cur : List UInt8), (spl c cur s).length ≤ s.length + 1
  | [], cur => by simp [spl]
  | b :: r, cur => by
    unfold spl
    split
    · have := spl_len c r []; simp; omega
    · have := spl_len c r (cur ++ [b]); simp; omega
theorem spl_mem (c : UInt8) : ∀ (s cur x : List UInt8), x ∈ spl c cur s → x.length ≤ cur.length + s.length
  | [], cur, x, h => by simp [spl] at h; subst h; simp
  | b :: r, cur, x, h => by
    unfold spl at h
    split at h
    · rcases List.mem_cons.1 h with rfl | h
      · simp
      · have := spl_mem c r [] x h; simp at *; omega
    · have := spl_mem c r (cur ++ [b]) x h; simp at *; omega
theorem spl_ne (c : UInt8) (s cur : List UInt8) : spl c cur s ≠ [] := by
  cases s with
  | nil => simp [spl]
  | cons b r =>
    unfold spl
    split
    · simp
    · exact spl_ne c r _
termination_by s.length
theorem spl_word (c : UInt8) : ∀ (w cur r : List UInt8), (∀ b ∈ w, b ≠ c) → spl c cur (w ++ c :: r) = (cur ++ w) :: spl c [] r
  | [], cur, r, _ => by simp [spl]
  | b :: w, cur, r, h => by
    rw [List.cons_append, spl, if_neg (h b (by simp)), spl_word c w (cur ++ [b]) r fun x hx => h x (by simp [hx])]
    simp
theorem spl_end (c : UInt8) : ∀ (w cur : List UInt8), (∀ b ∈ w, b ≠ c) → spl c cur w = [cur ++ w]
  | [], cur, _ => by simp [spl]
  | b :: w, cur, h => by
    rw [spl, if_neg (h b (by simp)), spl_end c w (cur ++ [b]) fun x hx => h x (by simp [hx])]
    simp
/-- What was joined comes apart again. -/
theorem split_join (c : UInt8) : ∀ (l : List (List UInt8)), l ≠ [] → (∀ w ∈ l, ∀ b ∈ w, b ≠ c) → split c (join l [c]) = l
  | [], h, _ => absurd rfl h
  | [w], _, h => by rw [join_one, split, spl_end c w [] (h w (by simp))]; simp
  | w :: v :: r, _, h => by
    have e : join (w :: v :: r) [c] = w ++ c :: join (v :: r) [c] := by rw [join_cons, join_cons]; simp [joinTail]
    rw [e, split, spl_word c w [] _ (h w (by simp))]
    have := split_join c (v :: r) (by simp) fun x hx => h x (by simp only [List.mem_cons] at hx ⊢; exact .inr hx)
    rw [split] at this
    rw [this]
    simp
theorem bnd_ok {n a b : Nat} (h1 : a ≤ b) (h2 : b ≤ n) : bnd (n : Int) (b : Int) (a : Int) n = some (a, b) := by
  unfold bnd
  rw [if_pos ⟨by omega, by omega, by omega, by omega⟩]
  simp
theorem piece_snoc {s : List UInt8} {a i : Nat} (h1 : a ≤ i) (h2 : i < s.length) : (s.drop a).take (i + 1 - a) = (s.drop a).take (i - a) ++ [s[i]] := by
  rw [show i + 1 - a = (i - a) + 1 by omega, List.take_succ_eq_append_getElem (by simp; omega)]
  simp [show a + (i - a) = i by omega]
theorem toNat_eq {a b : UInt8} : (((a.toNat : Int) == (b.toNat : Int)) = true) ↔ a = b := by
  rw [beq_iff_eq, Int.natCast_inj, UInt8.toNat_inj]
theorem split_loop (L : Nat → Int → Int → List (List UInt8) → Option (List (List UInt8))) (s : List UInt8) (c : UInt8) (hl : s.length ≤ 1048576)
    (hs : ∀ (n i a : Nat) (acc : List (List UInt8)) (hi : i < s.length), a ≤ i → acc.length ≤ i → L (n + 1) (a : Int) (i : Int) acc = if s[i] = c then L n (IntKind.i64.wrap ((i : Int) + 1)) (IntKind.i64.wrap ((i : Int) + 1)) (acc ++ [(s.drop a).take (i - a)]) else L n (a : Int) (IntKind.i64.wrap ((i : Int) + 1)) acc)
    (he : ∀ (n a : Nat) acc, a ≤ s.length → acc.length ≤ s.length → L (n + 1) (a : Int) (s.length : Int) acc = some (acc ++ [(s.drop a).take (s.length - a)])) : L bigN 0 0 [] = some (split c s) := by
  have key : ∀ (k i a n : Nat) (acc : List (List UInt8)), i + k = s.length → k < n → a ≤ i → acc.length ≤ i → L n (a : Int) (i : Int) acc = some (acc ++ spl c ((s.drop a).take (i - a)) (s.drop i)) := by
    intro k
    induction k with
    | zero =>
      intro i a n acc hi hn ha hc
      obtain ⟨m, rfl⟩ : ∃ m, n = m + 1 := ⟨n - 1, by omega⟩
      have : i = s.length := by omega
      subst this
      rw [he m a acc ha hc, List.drop_length, spl]
    | succ k ih =>
      intro i a n acc hi hn ha hc
      obtain ⟨m, rfl⟩ : ∃ m, n = m + 1 := ⟨n - 1, by omega⟩
      have hlt : i < s.length := by omega
      rw [hs m i a acc hlt ha hc, List.drop_eq_getElem_cons hlt, spl, wrapS hlt (le_max hl)]
      by_cases e : s[i] = c
      · rw [if_pos e, if_pos e, ih (i + 1) (i + 1) m _ (by omega) (by omega) (Nat.le_refl _) (by simp; omega)]
        simp
      · rw [if_neg e, if_neg e, ih (i + 1) a m _ (by omega) (by omega) (by omega) (by omega), piece_snoc ha hlt]
  have := key s.length 0 0 bigN [] (by omega) (lt_bigN (le_max hl)) (Nat.le_refl _) (Nat.le_refl _)
  simpa [split] using this
theorem spec_SplitAny_eq {s : List UInt8} {c : UInt8} (hl : s.length ≤ 1048576) : f_spec_SplitAny s [c] = some (split c s) := by
  unfold f_spec_SplitAny
  refine split_loop (f_spec_SplitAny_1 s [c]) s c hl (fun n i a acc hi ha hc => ?_) (fun n a acc ha hc => ?_)
  · obtain ⟨m, hm⟩ : ∃ m, bigN = m + 2 := ⟨bigN - 2, by rw [bigN_val]⟩
    have hb : bnd (s.length : Int) (i : Int) (a : Int) s.length = some (a, i) := bnd_ok ha (by omega)
    rw [f_spec_SplitAny_1]
    simp only [dec_nn, hi, decide_true, if_true]
    rw [hm, f_spec_SplitAny_2]
    simp only [show decide ((0 : Int) < (([c] : List UInt8).length : Int)) = true from rfl, if_true, ix_at hi, Option.bind_some, show ix [c] 0 = some c from rfl]
    by_cases e : s[i] = c
    · rw [if_pos (toNat_eq.2 e), if_pos e, hb]
      simp only [Option.bind_some, f_spec_SplitAny_3]
      rw [ifa (by simp; omega) (by omega)]
    · have e' : ¬ ((s[i].toNat : Int) == (c.toNat : Int)) = true := fun h => e (toNat_eq.1 h)
      rw [if_neg e', if_neg e, f_spec_SplitAny_2]
      rw [show IntKind.i64.wrap ((0 : Int) + 1) = 1 from rfl]
      simp only [show decide ((1 : Int) < (([c] : List UInt8).length : Int)) = false from rfl, Bool.false_eq_true, if_false, f_spec_SplitAny_3]
  · have hb : bnd (s.length : Int) (s.length : Int) (a : Int) s.length = some (a, s.length) := bnd_ok ha (Nat.le_refl _)
    rw [f_spec_SplitAny_1]
    simp only [Int.lt_irrefl, decide_false, Bool.false_eq_true, if_false, hb, Option.bind_some]
    rw [ifa (by simp; omega) (by omega)]
theorem indexByte1 (c b : UInt8) : decide ((0 : Int) ≤ indexByte [c] b) = decide (c = b) := by
  by_cases h : c = b
  · subst h; simp [indexByte]
  · have h' : (c == b) = false := by simpa using h
    simp [indexByte, h, h']
theorem back8 (b : UInt8) : ((b.toNat : Int)).toNat.toUInt8 = b := by simp
theorem impl_SplitAny_eq {s : List UInt8} {c : UInt8} (hl : s.length ≤ 1048576) : f_impl_SplitAny s [c] = some (split c s) := by
  unfold f_impl_SplitAny
  refine split_loop (f_impl_SplitAny_1 s [c]) s c hl (fun n i a acc hi ha hc => ?_) (fun n a acc ha hc => ?_)
  · have hb : bnd (s.length : Int) (i : Int) (a : Int) s.length = some (a, i) := bnd_ok ha (by omega)
    rw [f_impl_SplitAny_1]
    simp only [dec_nn, hi, decide_true, if_true, ix_at hi, Option.bind_some, f_strings_IndexByte, back8, indexByte1, f_impl_SplitAny_2]
    by_cases e : s[i] = c
    · rw [if_pos (decide_eq_true e.symm), if_pos e, hb]
      simp only [Option.bind_some]
      rw [ifa (by simp; omega) (by omega)]
    · have e' : ¬ decide (c = s[i]) = true := by simpa using fun h => e h.symm
      rw [if_neg e', if_neg e]
  · have hb : bnd (s.length : Int) (s.length : Int) (a : Int) s.length = some (a, s.length) := bnd_ok ha (Nat.le_refl _)
    rw [f_impl_SplitAny_1]
    simp only [Int.lt_irrefl, decide_false, Bool.false_eq_true, if_false, hb, Option.bind_some]
    rw [ifa (by simp; omega) (by omega)]

/-! Numbers -/
def digs (t : List UInt8) : Bool := t.all isDig && decide (0 < t.length)
theorem isDig_dec (b : UInt8) : isDig b = (!decide ((b.toNat : Int) < 48) && !decide ((57 : Int) < (b.toNat : Int))) := by
  unfold isDig
  rw [Bool.eq_iff_iff]
  simp only [Bool.and_eq_true, Bool.not_eq_true', decide_eq_false_iff_not, decide_eq_true_eq]
  omega
theorem spec_IsDigits_eq {t : List UInt8} (h : t.length ≤ maxLen) : f_spec_IsDigits t = some (digs t) := by
  unfold f_spec_IsDigits digs
  rw [all_loopK (L := f_spec_IsDigits_1 t) t.length (fun i => (t[i]?.map isDig).getD true) (some (decide (0 < t.length))) h (fun n i hi => ?_) (fun n => ?_)]
  · have e : (List.range t.length).all (fun i => (t[i]?.map isDig).getD true) = t.all isDig := by
      rw [Bool.eq_iff_iff]
      simp only [List.all_eq_true, List.mem_range]
      constructor
      · intro H x hx
        obtain ⟨i, hi, rfl⟩ := List.getElem_of_mem hx
        simpa [hi] using H i hi
      · intro H i hi
        simpa [hi] using H _ (List.getElem_mem hi)
    rw [e]
    cases t.all isDig <;> simp
  · simp only [f_spec_IsDigits_1, dec_nn, hi, decide_true, if_true, ix_at hi, Option.bind_some, List.getElem?_eq_getElem hi, Option.map_some, Option.getD_some, isDig_dec]
    cases decide ((t[i].toNat : Int) < 48) <;> cases decide ((57 : Int) < (t[i].toNat : Int)) <;> simp
  · simp [f_spec_IsDigits_1]
def endN (s : List UInt8) (neg : Bool) (v : Int) : Int × Bool := if neg = true then (if itoa v = s then (v, true) else (0, false)) else if v = -9223372036854775808 then (0, false) else (if itoa (-v) = s then (-v, true) else (0, false))
theorem parse5_eq {s : List UInt8} {v : Int} (h : i64 v) : f_spec_ParseInt_5 s v = some (if itoa v = s then (v, true) else (0, false)) := by
  unfold f_spec_ParseInt_5
  rw [fmt_eq h]
  simp only [Option.bind_some, beq_iff_eq]
  split <;> rfl
theorem val_take_le (t : List UInt8) (i : Nat) : val (t.take i) ≤ val t := by
  conv => rhs; rw [← List.take_append_drop i t]
  exact val_mono _ _
theorem parse_loop (s : List UInt8) (neg : Bool) (t : List UInt8) (hd : ∀ b ∈ t, isDig b = true) (hl : t.length ≤ maxLen) : ∀ (k i n : Nat), i + k = t.length → k < n → val (t.take i) ≤ 9223372036854775808 →
    f_spec_ParseInt_4 s neg t n (-(val (t.take i) : Int)) (i : Int) = some (if val t ≤ 9223372036854775808 then endN s neg (-(val t : Int)) else (0, false)) := by
  intro k
  induction k with
  | zero =>
    intro i n hi hn hv
    obtain ⟨m, rfl⟩ : ∃ m, n = m + 1 := ⟨n - 1, by omega⟩
    have : i = t.length := by omega
    subst this
    rw [List.take_length] at hv ⊢
    rw [f_spec_ParseInt_4, if_pos hv]
    simp only [Int.lt_irrefl, decide_false, Bool.false_eq_true, if_false, endN]
    cases neg with
    | true =>
      simp only [if_true]
      rw [parse5_eq ⟨by omega, by omega⟩]
    | false =>
      simp only [Bool.false_eq_true, if_false, beq_iff_eq]
      by_cases e : (-(val t : Int)) = -9223372036854775808
      · simp only [e, if_true]
      · simp only [e, if_false]
        rw [show (0 : Int) - -(val t : Int) = -(-(val t : Int)) by omega, wrap64 (by omega) (by omega), parse5_eq ⟨by omega, by omega⟩]
  | succ k ih =>
    intro i n hi hn hv
    obtain ⟨m, rfl⟩ : ∃ m, n = m + 1 := ⟨n - 1, by omega⟩
    have hlt : i < t.length := by omega
    have hb := hd _ (List.getElem_mem hlt)
    simp only [isDig, decide_eq_true_eq] at hb
    have hnext : val (t.take (i + 1)) = val (t.take i) * 10 + (t[i].toNat - 48) := by rw [List.take_succ_eq_append_getElem hlt, val_snoc]
    rw [f_spec_ParseInt_4]
    simp only [dec_nn, hlt, decide_true, if_true, ix_at hlt, Option.bind_some]
    obtain ⟨d, hdd, hd9⟩ : ∃ d : Nat, t[i].toNat = 48 + d ∧ d ≤ 9 := ⟨t[i].toNat - 48, by omega, by omega⟩
    rw [hdd] at hnext ⊢
    have hnext' : val (t.take (i + 1)) = val (t.take i) * 10 + d := by omega
    rw [show IntKind.i64.wrap (((48 + d : Nat) : Int)) = 48 + (d : Int) by rw [wrap64 (by omega) (by omega)]; rfl, show (48 : Int) + (d : Int) - 48 = (d : Int) by omega, wrap64 (show -9223372036854775808 ≤ (d : Int) by omega) (by omega),
      wrap64 (show -9223372036854775808 ≤ -9223372036854775808 + (d : Int) by omega) (by omega), show (-9223372036854775808 : Int) + (d : Int) = -((9223372036854775808 - d : Nat) : Int) by omega, tdiv_neg,
      wrap64 (show -9223372036854775808 ≤ -((( 9223372036854775808 - d) / 10 : Nat) : Int) by omega) (by omega)]
    by_cases hc : val (t.take i) * 10 + d ≤ 9223372036854775808
    · have hnot : ¬ (-(val (t.take i) : Int)) < -(((9223372036854775808 - d) / 10 : Nat) : Int) := by omega
      simp only [hnot, decide_false, Bool.false_eq_true, if_false]
      rw [wrap64 (show -9223372036854775808 ≤ (-(val (t.take i) : Int)) * 10 by omega) (by omega), wrap64 (by omega) (by omega), wrapS hlt hl]
      have := ih (i + 1) m (by omega) (by omega) (by omega)
      rw [hnext'] at this
      rw [← this]
      congr 1
      omega
    · have hyes : (-(val (t.take i) : Int)) < -(((9223372036854775808 - d) / 10 : Nat) : Int) := by omega
      have := val_take_le t (i + 1)
      simp only [hyes, decide_true, if_true]
      rw [if_neg (by omega)]
theorem parse2_eq {s t : List UInt8} {neg : Bool} (hl : t.length ≤ maxLen) : f_spec_ParseInt_2 s neg t = some (if digs t = true ∧ t.length ≤ 19 ∧ val t ≤ 9223372036854775808 then endN s neg (-(val t : Int)) else (0, false)) := by
  unfold f_spec_ParseInt_2
  rw [spec_IsDigits_eq hl]
  simp only [Option.bind_some]
  by_cases hd : digs t = true
  · simp only [hd, if_true, true_and]
    by_cases h19 : t.length ≤ 19
    · have : ¬ (19 : Int) < (t.length : Int) := by omega
      simp only [this, decide_false, f_spec_ParseInt_3, Bool.false_eq_true, if_false, h19, true_and]
      have hall : ∀ b ∈ t, isDig b = true := by
        simp only [digs, Bool.and_eq_true, List.all_eq_true] at hd
        exact hd.1
      have := parse_loop s neg t hall hl t.length 0 bigN (by omega) (lt_bigN hl) (by simp [val])
      simpa [val] using this
    · have : (19 : Int) < (t.length : Int) := by omega
      simp only [this, decide_true, f_spec_ParseInt_3, if_true, h19, false_and, if_false]
  · simp only [hd, if_false, false_and, f_spec_ParseInt_3, if_true]
    rfl
theorem digs_dec (u : Nat) : digs (decDigits u) = true := by
  simp only [digs, Bool.and_eq_true, List.all_eq_true, decide_eq_true_eq]
  exact ⟨decDigits_dig u, List.length_pos_iff.2 (decDigits_ne u)⟩
theorem endN_none {s : List UInt8} (h : ∀ n, i64 n → itoa n ≠ s) {neg : Bool} {v : Int} (hv : -9223372036854775808 ≤ v ∧ v ≤ 0) : endN s neg v = (0, false) := by
  unfold endN
  cases neg with
  | true => rw [if_pos rfl, if_neg (h v ⟨hv.1, by omega⟩)]
  | false =>
    rw [if_neg (by decide)]
    split
    · rfl
    · rw [if_neg (h (-v) ⟨by omega, by omega⟩)]
def signed (s : List UInt8) : Option (Int × Bool) := match s with
  | [] => f_spec_ParseInt_2 [] false []
  | b :: r => if b = 45 then f_spec_ParseInt_2 (b :: r) true r else f_spec_ParseInt_2 (b :: r) false (b :: r)
theorem signed_eq (s : List UInt8) : f_spec_ParseInt s = signed s := by
  cases s with
  | nil => rfl
  | cons b r =>
    have h0 : (0 : Int) < ((b :: r).length : Int) := by simp
    unfold f_spec_ParseInt signed
    simp only [h0, decide_true, if_true, show ix (b :: r) 0 = some b from rfl, Option.bind_some, f_spec_ParseInt_1]
    by_cases e : b = 45
    · subst e
      have hb : bnd ((45 :: r : List UInt8).length : Int) ((45 :: r : List UInt8).length : Int) 1 (45 :: r : List UInt8).length = some (1, (45 :: r : List UInt8).length) := bnd_ok (a := 1) (by simp) (Nat.le_refl _)
      rw [if_pos (show ((((45 : UInt8).toNat : Int)) == 45) = true from rfl), hb]
      simp
    · have e' : ¬ ((b.toNat : Int) == 45) = true := fun h => e ((toNat_eq (a := b) (b := 45)).1 h)
      rw [if_neg e', if_neg e]
theorem spec_ParseInt_eq {s : List UInt8} (hl : s.length ≤ 1048576) : f_spec_ParseInt s = some (parseN s) := by
  have hm := le_max hl
  rw [signed_eq]
  rcases parseN_cases s with ⟨n, hn, hs, e⟩ | ⟨hno, e⟩
  · rw [e]
    obtain ⟨h1, h2⟩ := hn
    by_cases hneg : n < 0
    · obtain ⟨u, rfl⟩ : ∃ u : Nat, n = -(u : Int) := ⟨n.natAbs, by omega⟩
      have hs' := hs
      rw [itoa_ng (by omega)] at hs'
      subst hs'
      have hl2 := dec_len u (by omega)
      simp only [signed, if_true]
      rw [parse2_eq (by rw [maxLen_val]; omega), if_pos ⟨digs_dec u, hl2, by rw [val_decDigits]; omega⟩, val_decDigits, endN, if_pos rfl, if_pos hs]
    · obtain ⟨u, rfl⟩ : ∃ u : Nat, n = (u : Int) := ⟨n.toNat, by omega⟩
      have hs' := hs
      rw [itoa_nn] at hs'
      obtain ⟨c, r, hc, hdg⟩ := decDigits_head u
      have hl2 := dec_len u (by omega)
      have hv := val_decDigits u
      have hdd := digs_dec u
      have hsc : s = c :: r := by rw [← hs', hc]
      rw [hs'] at hl2 hv hdd
      rw [hsc] at hl2 hv hdd hs hm ⊢
      simp only [signed, dig_ne_minus hdg, if_false]
      rw [parse2_eq hm, if_pos ⟨hdd, hl2, by rw [hv]; omega⟩, hv, endN, if_neg (by decide), if_neg (by omega), if_pos (by rw [Int.neg_neg]; exact hs), Int.neg_neg]
  · rw [e]
    have key : ∀ (neg : Bool) (t : List UInt8), t.length ≤ maxLen → f_spec_ParseInt_2 s neg t = some (0, false) := by
      intro neg t ht
      rw [parse2_eq ht]
      split
      · rename_i h; rw [endN_none hno ⟨by omega, by omega⟩]
      · rfl
    cases s with
    | nil => exact key false [] (by simp)
    | cons b r =>
      simp only [signed]
      split
      · exact key true r (by rw [maxLen_val] at hm ⊢; simp at hm; omega)
      · exact key false _ hm
theorem impl_ParseInt_eq {s : List UInt8} (hl : s.length ≤ 1048576) : f_impl_ParseInt s = some (parseN s) := by
  unfold f_impl_ParseInt
  rw [if_pos (by omega)]
def numOk (x : List UInt8) : Bool := (parseN x).2
def numOf (x : List UInt8) : Int := (parseN x).1
theorem num_loop {R : Type} {L : Nat → Int → List Int → Option R} (l : List (List UInt8)) (K : List Int → Option R) (bad : Option R) (hl : l.length ≤ 1100000)
    (hs : ∀ (n i : Nat) (acc : List Int) (hi : i < l.length), acc.length = i → L (n + 1) (i : Int) acc = if numOk l[i] = true then L n (IntKind.i64.wrap ((i : Int) + 1)) (acc ++ [numOf l[i]]) else bad) (he : ∀ n acc, L (n + 1) (l.length : Int) acc = K acc) :
    L bigN 0 [] = if l.all numOk = true then K (l.map numOf) else bad := by
  have key : ∀ (k i n : Nat) (acc : List Int), i + k = l.length → k < n → acc.length = i → L n (i : Int) acc = if (l.drop i).all numOk = true then K (acc ++ (l.drop i).map numOf) else bad := by
    intro k
    induction k with
    | zero =>
      intro i n acc hi hn ha
      obtain ⟨m, rfl⟩ : ∃ m, n = m + 1 := ⟨n - 1, by omega⟩
      have : i = l.length := by omega
      subst this
      rw [he]; simp
    | succ k ih =>
      intro i n acc hi hn ha
      obtain ⟨m, rfl⟩ : ∃ m, n = m + 1 := ⟨n - 1, by omega⟩
      have hlt : i < l.length := by omega
      rw [hs m i acc hlt ha, wrapS hlt (le_big hl), ih (i + 1) m _ (by omega) (by omega) (by simp [ha]), List.drop_eq_getElem_cons hlt, List.all_cons, List.map_cons]
      cases numOk l[i] <;> simp
  have := key l.length 0 bigN [] (by omega) (lt_bigN (le_big hl)) rfl
  simpa using this
theorem impl_parseNumbers_eq {l : List (List UInt8)} (hl : l.length ≤ 1100000) (hx : ∀ x ∈ l, x.length ≤ 1048576) : f_impl_parseNumbers l = some (if l.all numOk = true then (l.map numOf, true) else ([], false)) := by
  unfold f_impl_parseNumbers
  rw [num_loop (L := f_impl_parseNumbers_1 l) l (fun acc => some (acc, true)) (some ([], false)) hl (fun n i acc hi ha => ?_) (fun n acc => by simp [f_impl_parseNumbers_1])]
  · split <;> rfl
  · simp only [f_impl_parseNumbers_1, dec_nn, hi, decide_true, if_true, ix_at hi, Option.bind_some, impl_ParseInt_eq (hx _ (List.getElem_mem hi)), numOk, numOf]
    rw [ifa (by simp; omega) (by omega)]
    rfl

/-! Windows -/
/-- A list that is read element by element. -/
theorem read_loop {α β R : Type} {L : Nat → Int → List β → Option R} (l : List α) (p : α → Bool) (g : α → β) (K : List β → Option R) (bad : Option R) (hl : l.length ≤ 1100000)
    (hs : ∀ (n i : Nat) (acc : List β) (hi : i < l.length), acc.length = i → L (n + 1) (i : Int) acc = if p l[i] = true then L n (IntKind.i64.wrap ((i : Int) + 1)) (acc ++ [g l[i]]) else bad) (he : ∀ n acc, L (n + 1) (l.length : Int) acc = K acc) :
    L bigN 0 [] = if l.all p = true then K (l.map g) else bad := by
  have key : ∀ (k i n : Nat) (acc : List β), i + k = l.length → k < n → acc.length = i → L n (i : Int) acc = if (l.drop i).all p = true then K (acc ++ (l.drop i).map g) else bad := by
    intro k
    induction k with
    | zero =>
      intro i n acc hi hn ha
      obtain ⟨m, rfl⟩ : ∃ m, n = m + 1 := ⟨n - 1, by omega⟩
      have : i = l.length := by omega
      subst this
      rw [he]; simp
    | succ k ih =>
      intro i n acc hi hn ha
      obtain ⟨m, rfl⟩ : ∃ m, n = m + 1 := ⟨n - 1, by omega⟩
      have hlt : i < l.length := by omega
      rw [hs m i acc hlt ha, wrapS hlt (le_big hl), ih (i + 1) m _ (by omega) (by omega) (by simp [ha]), List.drop_eq_getElem_cons hlt, List.all_cons, List.map_cons]
      cases p l[i] <;> simp
  have := key l.length 0 bigN [] (by omega) (lt_bigN (le_big hl)) rfl
  simpa using this
def pairOk (w : List UInt8) : Bool := ((split 45 w).length == 2) && (split 45 w).all numOk
def pairOf (w : List UInt8) : XWindow := ⟨numOf ((split 45 w).getD 0 []), numOf ((split 45 w).getD 1 [])⟩
def readWindows (s : List UInt8) : List XWindow × Bool :=
  if s = [110, 111, 110, 101] then ([], true)
  else if (split 32 s).all pairOk = true ∧ windowsOk ((split 32 s).map pairOf) = true ∧ fmtWindows ((split 32 s).map pairOf) = s then ((split 32 s).map pairOf, true) else ([], false)
theorem piece_len {c : UInt8} {s : List UInt8} (hl : s.length ≤ 1048576) : (split c s).length ≤ 1100000 ∧ ∀ x ∈ split c s, x.length ≤ 1048576 := by
  refine ⟨?_, fun x hx => ?_⟩
  · have := spl_len c s []
    unfold split
    omega
  · have := spl_mem c s [] x hx
    simp at this
    omega
theorem len2 {α : Type} {l : List α} (h : l.length = 2) : ∃ a b, l = [a, b] := by
  match l, h with
  | [a, b], _ => exact ⟨a, b, rfl⟩
theorem spec_ParseWindows_eq {s : List UInt8} (hl : s.length ≤ 1048576) : f_spec_ParseWindows s = some (readWindows s) := by
  unfold f_spec_ParseWindows readWindows
  by_cases h0 : s = [110, 111, 110, 101]
  · subst h0; rfl
  have h0' : ¬ (s == [110, 111, 110, 101]) = true := by simpa using h0
  rw [if_neg h0', if_neg h0, spec_SplitAny_eq hl]
  simp only [Option.bind_some]
  obtain ⟨hn, hx⟩ := piece_len (c := 32) hl
  generalize split 32 s = q at hn hx
  rw [read_loop (L := f_spec_ParseWindows_1 s q) q pairOk pairOf (fun acc => (f_spec_WindowsOk acc).bind fun r17 => if r17 = true then (f_spec_FormatWindows acc).bind fun r19 => f_spec_ParseWindows_3 acc (!(r19 == s)) else f_spec_ParseWindows_3 acc true) (some ([], false)) hn (fun n i acc hi ha => ?_) (fun n acc => by simp [f_spec_ParseWindows_1])]
  · by_cases h : q.all pairOk = true
    · have hm : (q.map pairOf).length ≤ 1100000 := by rw [List.length_map]; exact hn
      simp only [h, if_true, true_and]
      rw [spec_WindowsOk_eq (le_big hm)]
      simp only [Option.bind_some]
      by_cases hw : windowsOk (q.map pairOf) = true
      · simp only [hw, if_true, true_and, spec_FormatWindows_eq hm, Option.bind_some, f_spec_ParseWindows_3]
        by_cases hf : fmtWindows (q.map pairOf) = s <;> simp [hf]
      · simp [hw, f_spec_ParseWindows_3]
    · simp [h]
  · have hxi := hx _ (List.getElem_mem hi)
    simp only [f_spec_ParseWindows_1, dec_nn, hi, decide_true, if_true, ix_at hi, Option.bind_some, spec_SplitAny_eq hxi, pairOk, pairOf]
    obtain ⟨_, hp⟩ := piece_len (c := 45) hxi
    obtain ⟨w, hw⟩ : ∃ w, split 45 q[i] = w := ⟨_, rfl⟩
    rw [hw] at hp
    simp only [hw]
    by_cases h2 : w.length = 2
    · obtain ⟨a, b, rfl⟩ := len2 h2
      simp only [show ((([a, b] : List (List UInt8)).length : Int) != 2) = false from rfl, Bool.false_eq_true, if_false, show ix [a, b] 0 = some a from rfl, show ix [a, b] 1 = some b from rfl, Option.bind_some, spec_ParseInt_eq (hp a (by simp)), spec_ParseInt_eq (hp b (by simp)), f_spec_ParseWindows_2, List.all_cons, List.all_nil, Bool.and_true, numOk, numOf, List.getD_cons_zero, List.getD_cons_succ, show (([a, b] : List (List UInt8)).length == 2) = true from rfl, Bool.true_and]
      cases (parseN a).2 <;> cases (parseN b).2 <;> simp
      exact fun h => absurd h (by rw [appB_of (by omega) (by omega)]; decide)
    · have : ((w.length : Int) != 2) = true := by simp; omega
      simp [this, h2]
theorem impl_ParseWindows_eq {s : List UInt8} (hl : s.length ≤ 1048576) : f_impl_ParseWindows s = some (readWindows s) := by
  unfold f_impl_ParseWindows readWindows
  by_cases h0 : s = [110, 111, 110, 101]
  · subst h0; rfl
  have h0' : ¬ (s == [110, 111, 110, 101]) = true := by simpa using h0
  rw [if_neg h0', if_neg h0, impl_SplitAny_eq hl]
  simp only [Option.bind_some]
  obtain ⟨hn, hx⟩ := piece_len (c := 32) hl
  generalize split 32 s = q at hn hx
  rw [read_loop (L := f_impl_ParseWindows_1 s q) q pairOk pairOf (fun acc => (f_impl_WindowsOk acc).bind fun r17 => if r17 = true then (f_impl_FormatWindows acc).bind fun r19 => f_impl_ParseWindows_3 acc (!(r19 == s)) else f_impl_ParseWindows_3 acc true) (some ([], false)) hn (fun n i acc hi ha => ?_) (fun n acc => by simp [f_impl_ParseWindows_1])]
  · by_cases h : q.all pairOk = true
    · have hm : (q.map pairOf).length ≤ 1100000 := by rw [List.length_map]; exact hn
      simp only [h, if_true, true_and]
      rw [impl_WindowsOk_eq (le_big hm)]
      simp only [Option.bind_some]
      by_cases hw : windowsOk (q.map pairOf) = true
      · simp only [hw, if_true, true_and, impl_FormatWindows_eq hm, Option.bind_some, f_impl_ParseWindows_3]
        by_cases hf : fmtWindows (q.map pairOf) = s <;> simp [hf]
      · simp [hw, f_impl_ParseWindows_3]
    · simp [h]
  · have hxi := hx _ (List.getElem_mem hi)
    simp only [f_impl_ParseWindows_1, dec_nn, hi, decide_true, if_true, ix_at hi, Option.bind_some, impl_SplitAny_eq hxi, pairOk, pairOf]
    obtain ⟨hpn, hp⟩ := piece_len (c := 45) hxi
    obtain ⟨w, hw⟩ : ∃ w, split 45 q[i] = w := ⟨_, rfl⟩
    rw [hw] at hp hpn
    simp only [hw]
    rw [impl_parseNumbers_eq hpn hp]
    simp only [Option.bind_some]
    by_cases hok : w.all numOk = true
    · simp only [hok, if_true, Bool.and_true, List.length_map]
      by_cases h2 : w.length = 2
      · obtain ⟨a, b, rfl⟩ := len2 h2
        simp only [show ((([a, b] : List (List UInt8)).length : Int) != 2) = false from rfl, f_impl_ParseWindows_2, Bool.false_eq_true, if_false, List.map_cons, List.map_nil, show ix [numOf a, numOf b] 0 = some (numOf a) from rfl, show ix [numOf a, numOf b] 1 = some (numOf b) from rfl, Option.bind_some, List.getD_cons_zero, List.getD_cons_succ, show (([a, b] : List (List UInt8)).length == 2) = true from rfl, if_true]
        rw [ifa (by simp; omega) (by omega)]
      · have : ((w.length : Int) != 2) = true := by simp; omega
        simp [this, h2, f_impl_ParseWindows_2]
    · simp [hok, f_impl_ParseWindows_2]
theorem ix_set {α : Type} {l : List α} {i : Nat} {v : α} (h : i < l.length) : ix (l.set i v) (i : Int) = some v := by
  rw [ix_at (by simpa using h)]; simp
theorem markWindowS_of (xs : List XWindow) (k : Int) (h0 : 0 ≤ k) (hk : k ≤ 10000000000) (hl : xs.length ≤ 1048576) : ∃ ys, f_laws_markWindowS xs k = some (k + 2 * (xs.length : Int), ys) ∧ ys.length = xs.length ∧ f_laws_heldWindowS ys k = some (k + 2 * (xs.length : Int)) := by
  unfold f_laws_markWindowS f_laws_heldWindowS
  refine mark_loop (Lm := f_laws_markWindowS_1) (Lh := f_laws_heldWindowS_1) xs 2 (fun k => ⟨k, k + 1⟩) k h0 (by omega) hl hk (fun n i k acc hi ha k0 k1 => ?_) (fun n k acc => by simp [f_laws_markWindowS_1]) (fun n i k ys hi hy k0 k1 he => ?_) (fun n k ys => by simp [f_laws_heldWindowS_1])
  · simp only [f_laws_markWindowS_1, dec_nn, hi, decide_true, if_true, ix_at hi, Option.bind_some, wrapS hi (le_max ha), wrapk k0 (show k ≤ 1000000000000 by omega), Int.toNat_natCast, ix_set hi, List.set_set]
    rw [wrapk (by omega) (by omega), show k + 1 + 1 = k + 2 by omega]
    rfl
  · simp only [f_laws_heldWindowS_1, dec_nn, hi, decide_true, if_true, ix_at hi, Option.bind_some, wrapS hi (le_max hy), wrapk k0 (show k ≤ 1000000000000 by omega), he, bne_self_eq_false, Bool.false_eq_true, if_false]
    rw [wrapk (by omega) (by omega), show k + 1 + 1 = k + 2 by omega]
    rfl
theorem spl_full (c : UInt8) : ∀ (s cur : List UInt8), (∀ x ∈ spl c cur s, x ≠ []) → 2 * (spl c cur s).length ≤ s.length + 1 + cur.length
  | [], cur, h => by
    have := List.length_pos_iff.2 (h cur (by simp [spl]))
    simp [spl]; omega
  | b :: r, cur, h => by
    unfold spl at h ⊢
    split at h
    · rename_i e
      rw [if_pos e]
      have h1 := spl_full c r [] fun x hx => h x (by simp [hx])
      have h2 := List.length_pos_iff.2 (h cur (by simp))
      simp at h1 ⊢
      omega
    · rename_i e
      rw [if_neg e]
      have h1 := spl_full c r (cur ++ [b]) h
      simp at h1 ⊢
      omega
theorem windows_len {s : List UInt8} (hl : s.length ≤ 1048576) : (readWindows s).1.length ≤ 1048576 := by
  unfold readWindows
  split
  · simp
  · split
    · rename_i h
      have := spl_full 32 s [] fun x hx e => by
        subst e
        have := List.all_eq_true.1 h.1 [] hx
        cases this
      simp only [List.length_map, split, List.length_nil] at this ⊢
      omega
    · simp
theorem law_FnExactParseWindows (s : List UInt8) (ok : DsOk [.sc (.str s)]) : f_laws_FnExactParseWindows s = some true := by
  unfold f_laws_FnExactParseWindows
  by_cases h : (1048576 : Int) < (s.length : Int)
  · simp [h]
  · have hl : s.length ≤ 1048576 := by omega
    have hw := windows_len hl
    obtain ⟨ys, m1, m2, m3⟩ := markWindowS_of (readWindows s).1 1 (by omega) (by omega) hw
    have hq : ¬ (1 + 2 * ((readWindows s).1.length : Int)) < 0 := by omega
    simp only [h, decide_false, Bool.false_eq_true, if_false, spec_ParseWindows_eq hl, impl_ParseWindows_eq hl, Option.bind_some, eqWindowS_eq (le_max hw), decide_true, if_true, beq_self_eq_true, m1, m3, hq, bne_self_eq_false]
end Go.Vi
