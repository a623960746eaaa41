/-
  Plain laws: ships and windows as texts (FormatShip, FormatWindows). No condition.
-/
import Derived.Test.YtlnbbhaclhpjjaaDoorPRc
namespace Go.Vi
open Go.Lib
set_option linter.unusedSimpArgs false
set_option linter.unusedVariables false

theorem foldr_all {len : Nat} (p : Nat → Bool) (K : Option Bool) : ∀ (k i : Nat), (List.range' i k).foldr (fun i r => if p i = true then r else some false) K = if (List.range' i k).all p = true then K else some false
  | 0, i => by simp
  | k + 1, i => by
    rw [List.range'_succ, List.foldr_cons, foldr_all (len := len) p K k (i + 1), List.all_cons]
    cases p i <;> rfl
theorem foldr_any {len : Nat} (p : Nat → Bool) (K : Option Bool) : ∀ (k i : Nat), (List.range' i k).foldr (fun i r => if p i = true then some false else r) K = if (List.range' i k).any p = true then some false else K
  | 0, i => by simp
  | k + 1, i => by
    rw [List.range'_succ, List.foldr_cons, foldr_any (len := len) p K k (i + 1), List.any_cons]
    cases p i <;> rfl
theorem all_loopK {L : Nat → Int → Option Bool} (len : Nat) (p : Nat → Bool) (K : Option Bool) (hl : len ≤ maxLen)
    (hs : ∀ (n i : Nat), i < len → L (n + 1) (i : Int) = if p i = true then L n (IntKind.i64.wrap ((i : Int) + 1)) else some false) (he : ∀ n, L (n + 1) (len : Int) = K) : L bigN 0 = if (List.range len).all p = true then K else some false := by
  have := range_loop L len hl (fun i r => if p i = true then r else some false) K hs he len 0 bigN (by omega) (lt_bigN hl)
  rw [foldr_all (len := len), ← List.range_eq_range'] at this
  exact this
theorem any_loopK {L : Nat → Int → Option Bool} (len : Nat) (p : Nat → Bool) (K : Option Bool) (hl : len ≤ maxLen)
    (hs : ∀ (n i : Nat), i < len → L (n + 1) (i : Int) = if p i = true then some false else L n (IntKind.i64.wrap ((i : Int) + 1))) (he : ∀ n, L (n + 1) (len : Int) = K) : L bigN 0 = if (List.range len).any p = true then some false else K := by
  have := range_loop L len hl (fun i r => if p i = true then some false else r) K hs he len 0 bigN (by omega) (lt_bigN hl)
  rw [foldr_any (len := len), ← List.range_eq_range'] at this
  exact this
def nmOk (s : List UInt8) (i : Nat) : Bool := match s[i]? with
  | some b => (decide (97 ≤ (b.toNat : Int)) && decide ((b.toNat : Int) ≤ 122)) || (!(decide (i = 0)) && (decide (48 ≤ (b.toNat : Int)) && decide ((b.toNat : Int) ≤ 57)))
  | none => false
def nmLen (s : List UInt8) : Bool := decide (1 ≤ (s.length : Int)) && decide ((s.length : Int) ≤ 8)
def isName (s : List UInt8) : Bool := nmLen s && (List.range s.length).all (nmOk s)
theorem nm_step (c : Int) (K : Option Bool) (z' : Bool) (z : Int) (i : Nat) (hz : z = (i : Int)) :
    (if decide (97 ≤ c) = true then (if decide (c ≤ 122) = true then K else if (z == 0) = true then some false else if decide (c < 48) = true then some false else if decide (57 < c) = true then some false else K)
      else if false = true then K else if (z == 0) = true then some false else if decide (c < 48) = true then some false else if decide (57 < c) = true then some false else K) =
    if ((decide (97 ≤ c) && decide (c ≤ 122)) || (!(decide (i = 0)) && (decide (48 ≤ c) && decide (c ≤ 57)))) = true then K else some false := by
  subst hz
  have e0 : (((i : Nat) : Int) == 0) = decide (i = 0) := by rw [Bool.eq_iff_iff]; simp
  have e1 : decide (c < 48) = !decide (48 ≤ c) := by rw [Bool.eq_iff_iff]; simp
  have e2 : decide (57 < c) = !decide (c ≤ 57) := by rw [Bool.eq_iff_iff]; simp
  rw [e0, e1, e2]
  cases decide (i = 0) <;> cases decide (97 ≤ c) <;> cases decide (c ≤ 122) <;> cases decide (48 ≤ c) <;> cases decide (c ≤ 57) <;> rfl
theorem spec_IsName_eq {s : List UInt8} (h : s.length ≤ maxLen) : f_spec_IsName s = some (isName s) := by
  unfold f_spec_IsName
  rw [all_loopK (L := f_spec_IsName_1 s) s.length (nmOk s) (some (nmLen s)) h (fun n i hi => ?_) (fun n => by simp [f_spec_IsName_1, l01In_eq, nmLen])]
  · unfold isName
    cases (List.range s.length).all (nmOk s) <;> simp
  · simp only [f_spec_IsName_1, f_spec_IsName_2, f_spec_IsName_3, ix_nn, nmOk, List.getElem?_eq_getElem hi, Option.bind_some, dec_nn, hi, decide_true, if_true]
    exact nm_step _ _ true (i : Int) i rfl
theorem impl_IsName_eq {s : List UInt8} (h : s.length ≤ maxLen) : f_impl_IsName s = some (isName s) := by
  unfold f_impl_IsName
  rw [within_eq]
  rw [all_loopK (L := f_impl_IsName_1 s) s.length (nmOk s) (some true) h (fun n i hi => ?_) (fun n => by simp [f_impl_IsName_1])]
  · unfold isName nmLen
    simp only [Option.bind_some]
    cases (List.range s.length).all (nmOk s) <;> cases (decide (1 ≤ (s.length : Int)) && decide ((s.length : Int) ≤ 8)) <;> simp
  · simp only [f_impl_IsName_1, f_impl_IsName_2, f_impl_IsName_3, ix_nn, nmOk, List.getElem?_eq_getElem hi, Option.bind_some, dec_nn, hi, decide_true, if_true]
    exact nm_step _ _ true (i : Int) i rfl
theorem isIndex_eq (i n : Int) : f_impl_isIndex i n = some (decide (0 ≤ i) && decide (i < n)) := by
  unfold f_impl_isIndex
  by_cases h : 0 ≤ i <;> simp [h]
def idx (i : Int) (n : Nat) : Bool := decide (0 ≤ i) && decide (i < (n : Int))
theorem in_idx (i : Int) {n : Nat} (h : n ≤ 1000) : (decide (0 ≤ i) && decide (i ≤ IntKind.i64.wrap ((n : Int) - 1))) = idx i n := by
  rw [wrap64 (by omega) (by omega)]
  unfold idx
  congr 1
  rw [Bool.eq_iff_iff]
  simp
  omega
theorem name_len {s : List UInt8} (h : isName s = true) : 1 ≤ s.length ∧ s.length ≤ 8 := by
  simp only [isName, nmLen, Bool.and_eq_true, decide_eq_true_eq] at h
  omega

/-! Ships -/
def shipOk (s : XShip) : Bool := isName s.Name && ((decide (10 ≤ s.Length) && decide (s.Length ≤ 400)) && ((decide (100 ≤ s.Draught) && decide (s.Draught ≤ 2000)) && ((decide (0 ≤ s.Line) && decide (s.Line ≤ 3)) && (decide (0 ≤ s.Tugs) && decide (s.Tugs ≤ 4)))))
theorem if_and (a b : Bool) : (if a = true then some b else some false) = some (a && b) := by cases a <;> rfl
theorem spec_ShipOk_eq {s : XShip} (h : s.Name.length ≤ maxLen) : f_spec_ShipOk s = some (shipOk s) := by
  simp only [f_spec_ShipOk, spec_IsName_eq h, l01In_eq, Option.bind_some, if_and, shipOk]
theorem impl_ShipOk_eq {s : XShip} (h : s.Name.length ≤ maxLen) : f_impl_ShipOk s = some (shipOk s) := by
  have e : (decide (0 ≤ s.Line) && decide (s.Line < 4)) = (decide (0 ≤ s.Line) && decide (s.Line ≤ 3)) := by
    congr 1
    rw [Bool.eq_iff_iff]; simp; omega
  simp only [f_impl_ShipOk, impl_IsName_eq h, within_eq, isIndex_eq, Option.bind_some, if_and, shipOk, e]
def shipWords (s : XShip) : List (List UInt8) := [s.Name, itoa s.Length, itoa s.Draught, itoa s.Line, itoa s.Tugs]
def slowW : List UInt8 := [32, 115, 108, 111, 119]
def fmtShip (s : XShip) : List UInt8 := if shipOk s = true then join (shipWords s) [32] ++ (if s.Slow = true then slowW else []) else []
theorem ship_facts {s : XShip} (h : shipOk s = true) : isName s.Name = true ∧ i64 s.Length ∧ i64 s.Draught ∧ i64 s.Line ∧ i64 s.Tugs := by
  simp only [shipOk, Bool.and_eq_true, decide_eq_true_eq] at h
  unfold i64
  exact ⟨h.1, by omega, by omega, by omega, by omega⟩
theorem join5 (a b c d e sep : List UInt8) : join [a, b, c, d, e] sep = a ++ sep ++ b ++ sep ++ c ++ sep ++ d ++ sep ++ e := by
  rw [join_cons]; simp [joinTail]
theorem ship_join_len {s : XShip} (h : shipOk s = true) : (join (shipWords s) [32]).length ≤ 100 := by
  obtain ⟨h0, h1, h2, h3, h4⟩ := ship_facts h
  have := name_len h0
  have := itoa_len h1; have := itoa_len h2; have := itoa_len h3; have := itoa_len h4
  rw [shipWords, join5]
  simp only [List.length_append, List.length_cons, List.length_nil]
  omega
theorem appB_of {m n b : Nat} (h : m + n ≤ 2000000) (hb : b ≤ 1000) : appB m n b = true := by
  unfold appB
  rw [decide_eq_true_eq]
  have : (m + n) * b ≤ 2000000 * 1000 := Nat.mul_le_mul h hb
  omega
theorem ifa {α : Type} {m n b : Nat} (h : m + n ≤ 2000000) (hb : b ≤ 1000) (x y : α) : (if appB m n b = true then x else y) = x := by rw [if_pos (appB_of h hb)]
theorem spec_FormatShip_eq {s : XShip} (hn : s.Name.length ≤ maxLen) : f_spec_FormatShip s = some (fmtShip s) := by
  unfold f_spec_FormatShip fmtShip
  rw [spec_ShipOk_eq hn]
  simp only [Option.bind_some]
  cases h : shipOk s with
  | false => simp
  | true =>
    obtain ⟨h0, h1, h2, h3, h4⟩ := ship_facts h
    have hj := ship_join_len h
    simp only [if_true, fmt_eq h1, fmt_eq h2, fmt_eq h3, fmt_eq h4, Option.bind_some, f_spec_FormatShip_1]
    rw [show ([s.Name, itoa s.Length, itoa s.Draught, itoa s.Line, itoa s.Tugs] : List (List UInt8)) = shipWords s from rfl]
    cases s.Slow with
    | true =>
      simp only [if_true]
      have e : join (shipWords s ++ [[115, 108, 111, 119]]) [32] = join (shipWords s) [32] ++ slowW := by
        rw [join_snoc _ _ _ (by simp [shipWords])]; simp [slowW]
      rw [ifa (by simp [shipWords]) (by omega), join_eq (by rw [maxLen_val]; simp [shipWords]) (by rw [e]; simp [slowW]; omega), e]
      rfl
    | false =>
      simp only [Bool.false_eq_true, if_false, List.append_nil]
      rw [join_eq (by rw [maxLen_val]; simp [shipWords]) (by omega)]
      rfl
theorem impl_marked_eq {a b : List UInt8} {m : Bool} (h : a.length + b.length ≤ 1000) : f_impl_marked a m b = some (a ++ (if m = true then 32 :: b else [])) := by
  unfold f_impl_marked
  cases m with
  | true =>
    simp only [if_true]
    rw [ifc (by simp; omega), ifc (by simp; omega)]
    simp
  | false => simp
theorem impl_FormatShip_eq {s : XShip} (hn : s.Name.length ≤ maxLen) : f_impl_FormatShip s = some (fmtShip s) := by
  unfold f_impl_FormatShip fmtShip
  rw [impl_ShipOk_eq hn]
  simp only [Option.bind_some]
  cases h : shipOk s with
  | false => simp
  | true =>
    obtain ⟨h0, h1, h2, h3, h4⟩ := ship_facts h
    have hj := ship_join_len h
    simp only [if_true, impl_fmt_eq h1, impl_fmt_eq h2, impl_fmt_eq h3, impl_fmt_eq h4, Option.bind_some]
    rw [show ([s.Name, itoa s.Length, itoa s.Draught, itoa s.Line, itoa s.Tugs] : List (List UInt8)) = shipWords s from rfl, impl_join_eq (by simp [shipWords]) (by omega)]
    simp only [Option.bind_some]
    rw [impl_marked_eq (by simp; omega)]
    rfl
theorem law_FnExactFormatShip (s : XShip) (ok : DsOk [.ag (XShip.row s)]) : f_laws_FnExactFormatShip s = some true := by
  have hn : s.Name.length ≤ maxLen := (ok.ag.1 (.str s.Name) (by simp [XShip.row_eq])).str
  have hm := hn
  rw [maxLen_val] at hm
  unfold f_laws_FnExactFormatShip f_laws_szShip
  rw [wrap64 (by omega) (by omega)]
  by_cases hr : (1048576 : Int) - s.Name.length < 0
  · simp [hr]
  · simp [hr, f_laws_toShip, spec_FormatShip_eq hn, impl_FormatShip_eq hn]

/-! Windows -/
def winAt (l : List XWindow) (i : Nat) : Bool := match l[i]? with
  | some x => decide (0 ≤ x.From) && (decide (x.From ≤ x.To) && (decide (x.To ≤ 2880) && (match l[i - 1]? with | some y => decide (i = 0) || !(decide (x.From ≤ IntKind.i64.wrap (y.To + 1))) | none => true)))
  | none => false
def windowsOk (l : List XWindow) : Bool := (List.range l.length).all (winAt l)
theorem pred_ix {α : Type} {l : List α} {i : Nat} (h0 : 0 < i) (hi : i < l.length) (hl : l.length ≤ maxLen) : ix l (IntKind.i64.wrap ((i : Int) - 1)) = some (l[i - 1]'(by omega)) := by
  rw [maxLen_val] at hl
  rw [wrap64 (by omega) (by omega), show (i : Int) - 1 = ((i - 1 : Nat) : Int) by omega, ix_at (by omega)]
theorem spec_WindowsOk_eq {l : List XWindow} (hl : l.length ≤ maxLen) : f_spec_WindowsOk l = some (windowsOk l) := by
  unfold f_spec_WindowsOk windowsOk
  refine all_loopI (L := f_spec_WindowsOk_1 l) l.length (winAt l) hl (fun n i hi => ?_) (fun n => by simp [f_spec_WindowsOk_1])
  have hp : i - 1 < l.length := by omega
  simp only [f_spec_WindowsOk_1, dec_nn, hi, decide_true, if_true, ix_at hi, Option.bind_some, l01In_eq, winAt, List.getElem?_eq_getElem hi, List.getElem?_eq_getElem hp]
  generalize f_spec_WindowsOk_1 l n (IntKind.i64.wrap ((i : Int) + 1)) = K
  by_cases h0 : i = 0
  · subst h0
    have hz : ¬ (0 : Int) < ((0 : Nat) : Int) := by omega
    simp only [hz, decide_false, Bool.false_eq_true, if_false, decide_true, Bool.true_or]
    by_cases a1 : 0 ≤ l[0].From <;> by_cases a2 : l[0].From ≤ l[0].To <;> by_cases a3 : l[0].To ≤ 2880 <;> by_cases a4 : l[0].From ≤ 2880 <;> simp [a1, a2, a3, a4] <;> omega
  · have hz : (0 : Int) < (i : Int) := by omega
    simp only [hz, decide_true, if_true, pred_ix (by omega) hi hl, Option.bind_some, h0, decide_false, Bool.false_or]
    by_cases a1 : 0 ≤ l[i].From <;> by_cases a2 : l[i].From ≤ l[i].To <;> by_cases a3 : l[i].To ≤ 2880 <;> by_cases a4 : l[i].From ≤ 2880 <;> by_cases a5 : l[i].From ≤ IntKind.i64.wrap (l[i - 1].To + 1) <;> simp [a1, a2, a3, a4, a5] <;> omega
theorem impl_WindowsOk_eq {l : List XWindow} (hl : l.length ≤ maxLen) : f_impl_WindowsOk l = some (windowsOk l) := by
  unfold f_impl_WindowsOk windowsOk
  refine all_loopI (L := f_impl_WindowsOk_1 l) l.length (winAt l) hl (fun n i hi => ?_) (fun n => by simp [f_impl_WindowsOk_1])
  have hp : i - 1 < l.length := by omega
  simp only [f_impl_WindowsOk_1, dec_nn, hi, decide_true, if_true, ix_at hi, Option.bind_some, winAt, List.getElem?_eq_getElem hi, List.getElem?_eq_getElem hp]
  generalize f_impl_WindowsOk_1 l n (IntKind.i64.wrap ((i : Int) + 1)) = K
  have b1 : decide (l[i].From < 0) = !decide (0 ≤ l[i].From) := by rw [Bool.eq_iff_iff]; simp
  have b2 : decide (l[i].To < l[i].From) = !decide (l[i].From ≤ l[i].To) := by rw [Bool.eq_iff_iff]; simp
  have b3 : decide (2880 < l[i].To) = !decide (l[i].To ≤ 2880) := by rw [Bool.eq_iff_iff]; simp
  rw [b1, b2, b3]
  by_cases h0 : i = 0
  · subst h0
    have hz : ¬ (0 : Int) < ((0 : Nat) : Int) := by omega
    simp only [hz, decide_false, Bool.false_eq_true, if_false, decide_true, Bool.true_or]
    cases decide (0 ≤ l[0].From) <;> cases decide (l[0].From ≤ l[0].To) <;> cases decide (l[0].To ≤ 2880) <;> rfl
  · have hz : (0 : Int) < (i : Int) := by omega
    simp only [hz, decide_true, if_true, pred_ix (by omega) hi hl, Option.bind_some, h0, decide_false, Bool.false_or]
    cases decide (0 ≤ l[i].From) <;> cases decide (l[i].From ≤ l[i].To) <;> cases decide (l[i].To ≤ 2880) <;> cases decide (l[i].From ≤ IntKind.i64.wrap (l[i - 1].To + 1)) <;> rfl
theorem win_facts {l : List XWindow} (h : windowsOk l = true) : ∀ x ∈ l, i64 x.From ∧ i64 x.To := by
  intro x hx
  obtain ⟨i, hi, rfl⟩ := List.getElem_of_mem hx
  have := List.all_eq_true.1 h i (List.mem_range.2 hi)
  simp only [winAt, List.getElem?_eq_getElem hi, Bool.and_eq_true, decide_eq_true_eq] at this
  exact ⟨⟨by omega, by omega⟩, ⟨by omega, by omega⟩⟩
/-- A list that is built element by element. -/
theorem build_loop {β R : Type} {L : Nat → Int → List β → Option R} (len : Nat) (g : Nat → β) (K : List β → Option R) (hl : len ≤ maxLen)
    (hs : ∀ (n i : Nat) (acc : List β), i < len → acc.length = i → L (n + 1) (i : Int) acc = L n (IntKind.i64.wrap ((i : Int) + 1)) (acc ++ [g i])) (he : ∀ n acc, acc.length = len → L (n + 1) (len : Int) acc = K acc) : L bigN 0 [] = K ((List.range len).map g) := by
  have key : ∀ (k i n : Nat) (acc : List β), i + k = len → k < n → acc.length = i → L n (i : Int) acc = K (acc ++ (List.range' i k).map g) := by
    intro k
    induction k with
    | zero =>
      intro i n acc hi hn ha
      obtain ⟨m, rfl⟩ : ∃ m, n = m + 1 := ⟨n - 1, by omega⟩
      have : i = len := by omega
      subst this
      rw [he _ _ ha]; simp
    | succ k ih =>
      intro i n acc hi hn ha
      obtain ⟨m, rfl⟩ : ∃ m, n = m + 1 := ⟨n - 1, by omega⟩
      rw [hs m i acc (by omega) ha, wrapS (show i < len by omega) hl, ih (i + 1) m _ (by omega) (by omega) (by simp [ha]), List.range'_succ]
      simp
  have := key len 0 bigN [] (by omega) (lt_bigN hl) rfl
  rw [List.range_eq_range']
  simpa using this
theorem range_map {β : Type} (l : List β) (d : β) (n : Nat) (h : n = l.length) : ((List.range n).map fun i => (l[i]?).getD d) = l := by
  subst h
  apply List.ext_getElem
  · simp
  · intro i h1 h2
    simp [h2]
def winText (x : XWindow) : List UInt8 := itoa x.From ++ [45] ++ itoa x.To
def fmtWindows (l : List XWindow) : List UInt8 := if windowsOk l = true then (if l = [] then [110, 111, 110, 101] else join (l.map winText) [32]) else []
theorem join_len_le {l : List (List UInt8)} {sep : List UInt8} {B : Nat} (h : ∀ x ∈ l, x.length ≤ B) : (join l sep).length ≤ l.length * (B + sep.length) := by
  have key : ∀ r : List (List UInt8), (∀ x ∈ r, x.length ≤ B) → (joinTail sep r).length ≤ r.length * (B + sep.length) := by
    intro r
    induction r with
    | nil => simp [joinTail]
    | cons x r ih =>
      intro hr
      have h1 := ih fun y hy => hr y (by simp [hy])
      have h2 := hr x (by simp)
      simp only [joinTail, List.map_cons, List.flatten_cons, List.length_append, List.length_cons, Nat.add_mul, Nat.one_mul] at h1 ⊢
      omega
  cases l with
  | nil => simp [join, List.intercalate]
  | cons x r =>
    rw [join_cons]
    have h1 := key r fun y hy => h y (by simp [hy])
    have h2 := h x (by simp)
    simp only [List.length_append, List.length_cons, Nat.add_mul, Nat.one_mul] at h1 ⊢
    omega
theorem winText_len {l : List XWindow} (h : windowsOk l = true) : ∀ x ∈ l.map winText, x.length ≤ 50 := by
  intro x hx
  obtain ⟨y, hy, rfl⟩ := List.mem_map.1 hx
  obtain ⟨a, b⟩ := win_facts h y hy
  have := itoa_len a; have := itoa_len b
  simp only [winText, List.length_append, List.length_cons, List.length_nil]
  omega
theorem win_join_len {l : List XWindow} (h : windowsOk l = true) (hl : l.length ≤ 1048576) : (join (l.map winText) [32]).length ≤ 100000000 := by
  have := join_len_le (sep := [32]) (winText_len h)
  simp only [List.length_map, List.length_cons, List.length_nil] at this
  omega
theorem spec_FormatWindows_eq {l : List XWindow} (hl : l.length ≤ 1048576) : f_spec_FormatWindows l = some (fmtWindows l) := by
  unfold f_spec_FormatWindows fmtWindows
  rw [spec_WindowsOk_eq (le_max hl)]
  simp only [Option.bind_some]
  cases h : windowsOk l with
  | false => simp
  | true =>
    simp only [if_true]
    rw [build_loop (L := f_spec_FormatWindows_1 l) l.length (fun i => ((l.map winText)[i]?).getD []) (fun acc => if l = [] then some [110, 111, 110, 101] else (f_spec_Join acc [32]).bind fun r => some r) (le_max hl) (fun n i acc hi ha => ?_) (fun n acc ha => ?_), range_map _ _ _ (by simp)]
    · by_cases h0 : l = []
      · simp [h0]
      · simp only [h0, if_false]
        rw [join_eq (by rw [List.length_map]; exact le_max hl) (by have := win_join_len h hl; omega)]
        rfl
    · obtain ⟨a, b⟩ := win_facts h l[i] (List.getElem_mem hi)
      have := itoa_len a; have := itoa_len b
      simp only [f_spec_FormatWindows_1, dec_nn, hi, decide_true, if_true, ix_at hi, Option.bind_some, fmt_eq a, fmt_eq b, List.getElem?_map, List.getElem?_eq_getElem hi, Option.map_some, Option.getD_some]
      rw [ifc (by simp; omega), ifc (by simp; omega), ifa (by simp; omega) (by omega)]
      rfl
    · simp only [f_spec_FormatWindows_1, Int.lt_irrefl, decide_false, Bool.false_eq_true, if_false]
      by_cases h0 : l = []
      · subst h0
        simp at ha
        subst ha
        rfl
      · have : ¬ l.length = 0 := fun e => h0 (List.length_eq_zero_iff.1 e)
        have e : ((acc.length : Int) == 0) = false := by rw [ha]; simpa using h0
        simp [e, h0]
theorem impl_FormatWindows_eq {l : List XWindow} (hl : l.length ≤ 1048576) : f_impl_FormatWindows l = some (fmtWindows l) := by
  unfold f_impl_FormatWindows fmtWindows
  rw [impl_WindowsOk_eq (le_max hl)]
  simp only [Option.bind_some]
  cases h : windowsOk l with
  | false => simp
  | true =>
    simp only [if_true]
    by_cases h0 : l = []
    · subst h0; rfl
    · have e : ((l.length : Int) == 0) = false := by simpa using h0
      simp only [e, Bool.false_eq_true, if_false, h0]
      rw [build_loop (L := f_impl_FormatWindows_1 l) l.length (fun i => ((l.map winText)[i]?).getD []) (fun acc => (f_impl_Join acc [32]).bind fun r => some r) (le_max hl) (fun n i acc hi ha => ?_) (fun n acc ha => ?_), range_map _ _ _ (by simp)]
      · rw [impl_join_eq (by rw [List.length_map]; omega) (by have := win_join_len h hl; omega)]
        rfl
      · obtain ⟨a, b⟩ := win_facts h l[i] (List.getElem_mem hi)
        have := itoa_len a; have := itoa_len b
        simp only [f_impl_FormatWindows_1, dec_nn, hi, decide_true, if_true, ix_at hi, Option.bind_some, impl_fmt_eq a, impl_fmt_eq b, List.getElem?_map, List.getElem?_eq_getElem hi, Option.map_some, Option.getD_some]
        rw [ifc (by simp; omega), ifc (by simp; omega), ifa (by simp; omega) (by omega)]
        rfl
      · simp only [f_impl_FormatWindows_1, Int.lt_irrefl, decide_false, Bool.false_eq_true, if_false]
theorem toWindowS_eq {xs : List XWindow} (h : xs.length ≤ 1048576) : f_laws_toWindowS xs = some xs := by
  unfold f_laws_toWindowS
  rw [mkS_len h (by omega)]
  have := copy_loop (L := f_laws_toWindowS_1 xs) xs id (le_max h) (fun n i acc hi ha => by simp [f_laws_toWindowS_1, ix_nn, hi, ha, f_laws_toWindow]) (fun n acc => by simp [f_laws_toWindowS_1]) (List.replicate xs.length ⟨0, 0⟩) (by simp)
  simpa using this
theorem eqWindow_eq (x y : XWindow) : f_laws_eqWindow x y = some (decide (x = y)) := by
  unfold f_laws_eqWindow
  cases x; cases y
  simp only [XWindow.mk.injEq]
  repeat' split
  all_goals simp_all
theorem eqWindowS_eq {xs ys : List XWindow} (h : xs.length ≤ maxLen) : f_laws_eqWindowS xs ys = some (decide (xs = ys)) := by
  unfold f_laws_eqWindowS
  by_cases hl : xs.length = ys.length
  · have := eq_loop (L := f_laws_eqWindowS_1 xs ys) xs ys h hl (fun n i h1 h2 => by simp [f_laws_eqWindowS_1, ix_nn, h1, h2, eqWindow_eq]) (fun n => by simp [f_laws_eqWindowS_1])
    simp [hl, this]
  · have : ¬ (xs.length : Int) = ys.length := by omega
    have : xs ≠ ys := fun e => hl (by rw [e])
    simp_all
theorem szWindowS_of {xs : List XWindow} {l : Int} (h0 : 0 ≤ l) (h1 : l ≤ 1048576) (hx : xs.length ≤ maxLen) : ∃ r, f_laws_szWindowS xs l = some r ∧ (0 ≤ r → r ≤ l ∧ xs.length ≤ 1048576) := by
  unfold f_laws_szWindowS
  rw [maxLen_val] at hx
  rw [wrap64 (by omega) (by omega)]
  by_cases h : l - (xs.length : Int) < 0
  · exact ⟨-1, by simp [h], by omega⟩
  · exact ⟨l - xs.length, by simp [h], by omega⟩
theorem law_FnExactFormatWindows (l : List XWindow) (ok : DsOk [.sc (.sl (List.map XWindow.row l))]) : f_laws_FnExactFormatWindows l = some true := by
  unfold f_laws_FnExactFormatWindows
  have m1 := len_ok (row := XWindow.row) ok.sc.1
  obtain ⟨r, e, h⟩ := szWindowS_of (l := 1048576) (by omega) (by omega) m1
  by_cases hr : r < 0
  · simp [e, hr]
  · obtain ⟨_, k1⟩ := h (by omega)
    simp [e, hr, toWindowS_eq k1, spec_FormatWindows_eq k1, impl_FormatWindows_eq k1, eqWindowS_eq m1]
end Go.Vi
