/-
  Plain laws: entries and ships read from texts (ParseEntry, ParseShip). No condition.
-/
import Derived.Test.YtlnbbhaclhpjjaaDoorPRg
namespace Go.Vi
open Go.Lib
set_option linter.unusedSimpArgs false
set_option linter.unusedVariables false

def numOk (x : List UInt8) : Bool := (parseN x).2
def numOf (x : List UInt8) : Int := (parseN x).1
theorem num_loop {R : Type} {L : Nat → Int → List Int → Option R} (l : List (List UInt8)) (K : List Int → Option R) (bad : Option R) (hl : l.length ≤ 1048576)
    (hs : ∀ (n i : Nat) (acc : List Int) (hi : i < l.length), acc.length = i → L (n + 1) (i : Int) acc = if numOk l[i] = true then L n (IntKind.i64.wrap ((i : Int) + 1)) (acc ++ [numOf l[i]]) else bad) (he : ∀ n acc, L (n + 1) (l.length : Int) acc = K acc) :
    L bigN 0 [] = if l.all numOk = true then K (l.map numOf) else bad := by
  have key : ∀ (k i n : Nat) (acc : List Int), i + k = l.length → k < n → acc.length = i → L n (i : Int) acc = if (l.drop i).all numOk = true then K (acc ++ (l.drop i).map numOf) else bad := by
    intro k
    induction k with
    | zero =>
      intro i n acc hi hn ha
      obtain ⟨m, rfl⟩ : ∃ m, n = m + 1 := ⟨n - 1, by omega⟩
      have : i = l.length := by omega
      subst this
      rw [he]; simp
    | succ k ih =>
      intro i n acc hi hn ha
      obtain ⟨m, rfl⟩ : ∃ m, n = m + 1 := ⟨n - 1, by omega⟩
      have hlt : i < l.length := by omega
      rw [hs m i acc hlt ha, wrapS hlt (le_max hl), ih (i + 1) m _ (by omega) (by omega) (by simp [ha]), List.drop_eq_getElem_cons hlt, List.all_cons, List.map_cons]
      cases numOk l[i] <;> simp
  have := key l.length 0 bigN [] (by omega) (lt_bigN (le_max hl)) rfl
  simpa using this
theorem impl_parseNumbers_eq {l : List (List UInt8)} (hl : l.length ≤ 1048576) (hx : ∀ x ∈ l, x.length ≤ 1048576) : f_impl_parseNumbers l = some (if l.all numOk = true then (l.map numOf, true) else ([], false)) := by
  unfold f_impl_parseNumbers
  rw [num_loop (L := f_impl_parseNumbers_1 l) l (fun acc => some (acc, true)) (some ([], false)) hl (fun n i acc hi ha => ?_) (fun n acc => by simp [f_impl_parseNumbers_1])]
  · split <;> rfl
  · simp only [f_impl_parseNumbers_1, dec_nn, hi, decide_true, if_true, ix_at hi, Option.bind_some, impl_ParseInt_eq (hx _ (List.getElem_mem hi)), numOk, numOf]
    rw [ifa (by simp; omega) (by omega)]
    rfl
theorem len5 {α : Type} {l : List α} (h : l.length = 5) : ∃ a b c d e, l = [a, b, c, d, e] := by
  match l, h with
  | [a, b, c, d, e], _ => exact ⟨a, b, c, d, e, rfl⟩

/-! Entries -/
def kindOf (w : List UInt8) : Int := if w = [116, 105, 99, 107] then 4 else if w = [99, 97, 110, 99, 101, 108] then 3 else if w = [99, 108, 101, 97, 114] then 2 else if w = [97, 110, 110, 111, 117, 110, 99, 101] then 1 else 0
def entOf (w : List (List UInt8)) (k : Int) : XEntry := ⟨k, numOf (w.getD 1 []), numOf (w.getD 2 []), numOf (w.getD 3 [])⟩
def nilEnt : XEntry := ⟨0, 0, 0, 0⟩
def readEntry (s : List UInt8) : XEntry × Bool :=
  if (split 32 s).length = 5 ∧ numOk ((split 32 s).getD 1 []) = true ∧ numOk ((split 32 s).getD 2 []) = true ∧ numOk ((split 32 s).getD 3 []) = true ∧ kindOf ((split 32 s).getD 0 []) ≠ 0 ∧ fmtEntry (entOf (split 32 s) (kindOf ((split 32 s).getD 0 []))) = s then (entOf (split 32 s) (kindOf ((split 32 s).getD 0 [])), true) else (nilEnt, false)
theorem part_len {s : List UInt8} (hl : s.length ≤ 1048576) : ∀ x ∈ split 32 s, x.length ≤ 1048576 := fun x hx => by
  have := spl_mem 32 s [] x hx
  simp at this
  omega
theorem spec_ParseEntry_eq {s : List UInt8} (hl : s.length ≤ 1048576) : f_spec_ParseEntry s = some (readEntry s) := by
  unfold f_spec_ParseEntry readEntry
  rw [spec_SplitAny_eq hl]
  simp only [Option.bind_some]
  have hp := part_len hl
  generalize split 32 s = w at hp
  by_cases h5 : w.length = 5
  rotate_left
  · have : (((w.length : Int) != 5) = true) := by simp; omega
    rw [if_pos this, if_neg (fun h => h5 h.1)]
    rfl
  have : ¬ (((w.length : Int) != 5) = true) := by simp; omega
  rw [if_neg this]
  obtain ⟨w0, w1, w2, w3, w4, rfl⟩ := len5 h5
  have l1 := hp w1 (by simp); have l2 := hp w2 (by simp); have l3 := hp w3 (by simp)
  obtain ⟨m, hm⟩ : ∃ m, bigN = m + 5 := ⟨bigN - 5, by rw [bigN_val]⟩
  rw [hm]
  -- the loop over the four words
  have loop : ∀ (k : Int), f_spec_ParseEntry_1 s [w0, w1, w2, w3, w4] (4 : Int) words4 (m + 1) 4 k = some (if numOk w1 = true ∧ numOk w2 = true ∧ numOk w3 = true ∧ k ≠ 0 ∧ fmtEntry ⟨k, numOf w1, numOf w2, numOf w3⟩ = s then (⟨k, numOf w1, numOf w2, numOf w3⟩, true) else (nilEnt, false)) := by
    intro k
    rw [f_spec_ParseEntry_1]
    simp only [show decide ((4 : Int) < 4) = false from rfl, Bool.false_eq_true, if_false, show ix [w0, w1, w2, w3, w4] 1 = some w1 from rfl, show ix [w0, w1, w2, w3, w4] 2 = some w2 from rfl, show ix [w0, w1, w2, w3, w4] 3 = some w3 from rfl,
      Option.bind_some, spec_ParseInt_eq l1, spec_ParseInt_eq l2, spec_ParseInt_eq l3, spec_FormatEntry_eq, f_spec_ParseEntry_2, numOk, numOf]
    by_cases a1 : (parseN w1).2 = true <;> by_cases a2 : (parseN w2).2 = true <;> by_cases a3 : (parseN w3).2 = true <;> simp [a1, a2, a3, nilEnt]
    by_cases hk : k = 0
    · simp [hk]
    · simp only [hk, if_false, not_false_iff, true_and]
      by_cases hf : fmtEntry ⟨k, (parseN w1).1, (parseN w2).1, (parseN w3).1⟩ = s <;> simp [hf]
  have step : ∀ (n : Nat) (i : Int) (k : Int) (x : List UInt8), i < 4 → ix words4 i = some x → f_spec_ParseEntry_1 s [w0, w1, w2, w3, w4] (4 : Int) words4 (n + 1) i k = f_spec_ParseEntry_1 s [w0, w1, w2, w3, w4] (4 : Int) words4 n (IntKind.i64.wrap (i + 1)) (if w0 = x then IntKind.i64.wrap (i + 1) else k) := by
    intro n i k x hi hx
    rw [f_spec_ParseEntry_1]
    simp only [hi, decide_true, if_true, hx, Option.bind_some, show ix [w0, w1, w2, w3, w4] 0 = some w0 from rfl, beq_iff_eq]
    split <;> rfl
  have e4 : f_spec_ParseEntry_1 s [w0, w1, w2, w3, w4] (4 : Int) words4 (m + 5) 0 0 = f_spec_ParseEntry_1 s [w0, w1, w2, w3, w4] (4 : Int) words4 (m + 1) 4 (kindOf w0) := by
    rw [step (m + 4) 0 _ [97, 110, 110, 111, 117, 110, 99, 101] (by omega) rfl, show IntKind.i64.wrap ((0 : Int) + 1) = 1 from rfl, step (m + 3) 1 _ [99, 108, 101, 97, 114] (by omega) rfl, show IntKind.i64.wrap ((1 : Int) + 1) = 2 from rfl,
      step (m + 2) 2 _ [99, 97, 110, 99, 101, 108] (by omega) rfl, show IntKind.i64.wrap ((2 : Int) + 1) = 3 from rfl, step (m + 1) 3 _ [116, 105, 99, 107] (by omega) rfl, show IntKind.i64.wrap ((3 : Int) + 1) = 4 from rfl]
    rfl
  refine (show _ = f_spec_ParseEntry_1 s [w0, w1, w2, w3, w4] (4 : Int) words4 (m + 5) 0 0 from rfl).trans ?_
  rw [e4, loop]
  simp only [List.length_cons, List.length_nil, List.getD_cons_zero, List.getD_cons_succ, entOf, true_and]
theorem kind_cases {k : Int} (h : kindOk k = true) : kindOf (word4 k) = k ∧ ∀ b ∈ word4 k, b ≠ 32 := by
  simp only [kindOk, Bool.and_eq_true, decide_eq_true_eq] at h
  have : k = 1 ∨ k = 2 ∨ k = 3 ∨ k = 4 := by omega
  rcases this with rfl | rfl | rfl | rfl <;> exact ⟨by decide, by decide⟩
/-- The first word of an entry's text tells its kind. -/
theorem fmt_kind {e : XEntry} {s : List UInt8} (h : fmtEntry e = s) (hs : (split 32 s).length = 5) : kindOf ((split 32 s).getD 0 []) = e.Kind ∧ kindOk e.Kind = true := by
  unfold fmtEntry at h
  by_cases ok : entOk e = true
  · rw [if_pos ok] at h
    have hk : kindOk e.Kind = true := by simp only [entOk, Bool.and_eq_true] at ok; exact ok.1
    obtain ⟨k1, k2⟩ := kind_cases hk
    have : split 32 s = word4 e.Kind :: spl 32 [] (itoa e.At ++ [32] ++ itoa e.Call ++ [32] ++ itoa e.Value ++ [32, 35] ++ itoa (sumT (entBody e))) := by
      rw [← h, split, entBody]
      have := spl_word 32 (word4 e.Kind) [] (itoa e.At ++ [32] ++ itoa e.Call ++ [32] ++ itoa e.Value ++ [32, 35] ++ itoa (sumT (entBody e))) k2
      simp only [entBody, List.append_assoc, List.cons_append, List.nil_append] at this ⊢
      exact this
    rw [this]
    exact ⟨k1, hk⟩
  · rw [if_neg ok] at h
    subst h
    simp [split, spl] at hs
theorem impl_ParseEntry_eq {s : List UInt8} (hl : s.length ≤ 1048576) : f_impl_ParseEntry s = some (readEntry s) := by
  unfold f_impl_ParseEntry readEntry
  rw [impl_SplitAny_eq hl]
  simp only [Option.bind_some]
  have hp := part_len hl
  have hfk : ∀ e, fmtEntry e = s → (split 32 s).length = 5 → kindOf ((split 32 s).getD 0 []) = e.Kind ∧ kindOk e.Kind = true := fun e => fmt_kind
  generalize split 32 s = w at hp hfk
  by_cases h5 : w.length = 5
  rotate_left
  · have : (((w.length : Int) != 5) = true) := by simp; omega
    rw [if_pos this, if_neg (fun h => h5 h.1)]
    rfl
  have : ¬ (((w.length : Int) != 5) = true) := by simp; omega
  rw [if_neg this]
  obtain ⟨w0, w1, w2, w3, w4, rfl⟩ := len5 h5
  rw [show bnd ((([w0, w1, w2, w3, w4] : List (List UInt8)).length : Nat) : Int) 4 1 ([w0, w1, w2, w3, w4] : List (List UInt8)).length = some (1, 4) from rfl]
  simp only [Option.bind_some]
  rw [show (([w0, w1, w2, w3, w4] : List (List UInt8)).drop 1).take (4 - 1) = [w1, w2, w3] from rfl, impl_parseNumbers_eq (by simp) (fun x hx => hp x (by simp at hx ⊢; rcases hx with h | h | h <;> simp [h]))]
  simp only [Option.bind_some, List.all_cons, List.all_nil, Bool.and_true, List.map_cons, List.map_nil]
  by_cases hn : (numOk w1 && (numOk w2 && numOk w3)) = true
  rotate_left
  · rw [if_neg hn]
    simp only [Bool.false_eq_true, if_false, List.getD_cons_succ, List.getD_cons_zero]
    rw [if_neg]
    · rfl
    · rintro ⟨_, a, b, c, _⟩
      exact hn (by simp [a, b, c])
  rw [if_pos hn]
  simp only [if_true]
  obtain ⟨m, hm⟩ : ∃ m, bigN = m + 5 := ⟨bigN - 5, by rw [bigN_val]⟩
  rw [hm]
  have step : ∀ (n : Nat) (k : Int), k ≤ 4 → f_impl_ParseEntry_1 s ([numOf w1, numOf w2, numOf w3], true) (n + 1) k = if fmtEntry ⟨k, numOf w1, numOf w2, numOf w3⟩ = s then some (⟨k, numOf w1, numOf w2, numOf w3⟩, true) else f_impl_ParseEntry_1 s ([numOf w1, numOf w2, numOf w3], true) n (IntKind.i64.wrap (k + 1)) := by
    intro n k hk
    rw [f_impl_ParseEntry_1]
    simp only [hk, decide_true, if_true, show ix [numOf w1, numOf w2, numOf w3] 0 = some (numOf w1) from rfl, show ix [numOf w1, numOf w2, numOf w3] 1 = some (numOf w2) from rfl, show ix [numOf w1, numOf w2, numOf w3] 2 = some (numOf w3) from rfl, Option.bind_some, impl_FormatEntry_eq, beq_iff_eq]
  have last : f_impl_ParseEntry_1 s ([numOf w1, numOf w2, numOf w3], true) (m + 1) 5 = some (nilEnt, false) := by
    rw [f_impl_ParseEntry_1]
    rfl
  rw [step (m + 4) 1 (by omega), show IntKind.i64.wrap ((1 : Int) + 1) = 2 from rfl, step (m + 3) 2 (by omega), show IntKind.i64.wrap ((2 : Int) + 1) = 3 from rfl, step (m + 2) 3 (by omega), show IntKind.i64.wrap ((3 : Int) + 1) = 4 from rfl,
    step (m + 1) 4 (by omega), show IntKind.i64.wrap ((4 : Int) + 1) = 5 from rfl, last]
  have hkd : ∀ k, fmtEntry ⟨k, numOf w1, numOf w2, numOf w3⟩ = s → kindOf w0 = k ∧ kindOk k = true := fun k h => hfk _ h rfl
  simp only [Bool.and_eq_true] at hn
  simp only [List.length_cons, List.length_nil, List.getD_cons_zero, List.getD_cons_succ, entOf, true_and, hn.1, hn.2.1, hn.2.2]
  by_cases f : fmtEntry ⟨kindOf w0, numOf w1, numOf w2, numOf w3⟩ = s
  · obtain ⟨_, hk⟩ := hkd _ f
    have hne : kindOf w0 ≠ 0 := fun e => by rw [e] at hk; cases hk
    rw [if_pos (show kindOf w0 ≠ 0 ∧ fmtEntry ⟨kindOf w0, numOf w1, numOf w2, numOf w3⟩ = s from ⟨hne, f⟩)]
    simp only [kindOk, Bool.and_eq_true, decide_eq_true_eq] at hk
    have hno : ∀ k, k ≠ kindOf w0 → ¬ fmtEntry ⟨k, numOf w1, numOf w2, numOf w3⟩ = s := fun k h e => h (hkd k e).1.symm
    have : kindOf w0 = 1 ∨ kindOf w0 = 2 ∨ kindOf w0 = 3 ∨ kindOf w0 = 4 := by omega
    rcases this with e | e | e | e <;> rw [e] at f hno ⊢
    · rw [if_pos f]
    · rw [if_neg (hno 1 (by omega)), if_pos f]
    · rw [if_neg (hno 1 (by omega)), if_neg (hno 2 (by omega)), if_pos f]
    · rw [if_neg (hno 1 (by omega)), if_neg (hno 2 (by omega)), if_neg (hno 3 (by omega)), if_pos f]
  · have hno : ∀ k, ¬ fmtEntry ⟨k, numOf w1, numOf w2, numOf w3⟩ = s := fun k e => f ((hkd k e).1.symm ▸ e)
    rw [if_neg (show ¬ (kindOf w0 ≠ 0 ∧ fmtEntry ⟨kindOf w0, numOf w1, numOf w2, numOf w3⟩ = s) from fun h => f h.2), if_neg (hno 1), if_neg (hno 2), if_neg (hno 3), if_neg (hno 4)]
theorem law_FnExactParseEntry (s : List UInt8) (ok : DsOk [.sc (.str s)]) : f_laws_FnExactParseEntry s = some true := by
  unfold f_laws_FnExactParseEntry
  by_cases h : (1048576 : Int) < (s.length : Int)
  · simp [h]
  · have hl : s.length ≤ 1048576 := by omega
    simp only [h, decide_false, Bool.false_eq_true, if_false, spec_ParseEntry_eq hl, impl_ParseEntry_eq hl, Option.bind_some, eqEntry_eq, decide_true, if_true, beq_self_eq_true]

/-! Ships -/
def nilShip : XShip := ⟨[], 0, 0, 0, 0, false⟩
def shipOf (w : List (List UInt8)) : XShip := ⟨w.getD 0 [], numOf (w.getD 1 []), numOf (w.getD 2 []), numOf (w.getD 3 []), numOf (w.getD 4 []), decide (w.length = 6)⟩
def readShip (s : List UInt8) : XShip × Bool :=
  if ((split 32 s).length = 5 ∨ (split 32 s).length = 6) ∧ (((split 32 s).drop 1).take 4).all numOk = true ∧ shipOk (shipOf (split 32 s)) = true ∧ fmtShip (shipOf (split 32 s)) = s then (shipOf (split 32 s), true) else (nilShip, false)
theorem name_sp {s : List UInt8} (h : isName s = true) : ∀ b ∈ s, b ≠ 32 := by
  intro b hb e
  subst e
  obtain ⟨i, hi, hb⟩ := List.getElem_of_mem hb
  simp only [isName, Bool.and_eq_true, List.all_eq_true, List.mem_range] at h
  have := h.2 i hi
  simp only [nmOk, List.getElem?_eq_getElem hi, hb, Bool.or_eq_true, Bool.and_eq_true, decide_eq_true_eq] at this
  have e : (((32 : UInt8).toNat : Nat) : Int) = 32 := rfl
  rw [e] at this
  omega
theorem itoa_sp (n : Int) : ∀ b ∈ itoa n, b ≠ 32 := by
  have hd : ∀ u, ∀ b ∈ decDigits u, b ≠ 32 := fun u b hb e => by
    have := decDigits_dig u b hb
    subst e
    simp [isDig] at this
  intro b hb
  unfold itoa at hb
  split at hb
  · rcases List.mem_cons.1 hb with rfl | hb
    · decide
    · exact hd _ b hb
  · exact hd _ b hb
theorem ship_parts {x : XShip} (h : shipOk x = true) : split 32 (fmtShip x) = shipWords x ++ (if x.Slow = true then [[115, 108, 111, 119]] else []) := by
  obtain ⟨h0, h1, h2, h3, h4⟩ := ship_facts h
  have e : fmtShip x = join (shipWords x ++ (if x.Slow = true then [[115, 108, 111, 119]] else [])) [32] := by
    rw [fmtShip, if_pos h]
    split
    · rw [join_snoc _ _ _ (by simp [shipWords])]; simp [slowW]
    · simp
  rw [e]
  refine split_join 32 _ (by simp [shipWords]) fun w hw => ?_
  rcases List.mem_append.1 hw with hw | hw
  · simp only [shipWords, List.mem_cons, List.not_mem_nil, or_false] at hw
    rcases hw with rfl | rfl | rfl | rfl | rfl
    · exact name_sp h0
    all_goals exact itoa_sp _
  · split at hw
    · simp only [List.mem_singleton] at hw; subst hw; decide
    · simp at hw
theorem take4 {w : List (List UInt8)} (h : 5 ≤ w.length) : (w.drop 1).take 4 = [w.getD 1 [], w.getD 2 [], w.getD 3 [], w.getD 4 []] := by
  match w, h with
  | a :: b :: c :: d :: e :: r, _ => rfl
theorem spec_ParseShip_eq {s : List UInt8} (hl : s.length ≤ 1048576) : f_spec_ParseShip s = some (readShip s) := by
  unfold f_spec_ParseShip readShip
  rw [spec_SplitAny_eq hl]
  simp only [Option.bind_some]
  have hp := part_len hl
  generalize split 32 s = w at hp
  have main : (w.length = 5 ∨ w.length = 6) → f_spec_ParseShip_1 s w false = some (if ((w.drop 1).take 4).all numOk = true ∧ shipOk (shipOf w) = true ∧ fmtShip (shipOf w) = s then (shipOf w, true) else (nilShip, false)) := by
    intro hw
    have h5 : 5 ≤ w.length := by omega
    unfold f_spec_ParseShip_1
    simp only [Bool.false_eq_true, if_false]
    rw [show bnd (w.length : Int) 5 1 w.length = some (1, 5) from bnd_ok (a := 1) (b := 5) (by omega) h5]
    simp only [Option.bind_some, show (5 : Nat) - 1 = 4 from rfl]
    have e4 := take4 h5
    have hm4 : ∀ x ∈ (w.drop 1).take 4, x.length ≤ 1048576 := fun x hx => hp x (List.mem_of_mem_drop (List.mem_of_mem_take hx))
    have hw6 : ((w.length : Int) == 6) = decide (w.length = 6) := by rw [Bool.eq_iff_iff]; simp; omega
    have hg0 : ix w 0 = some (w.getD 0 []) := by
      have : ix w ((0 : Nat) : Int) = some w[0] := ix_at (by omega)
      rw [show ((0 : Nat) : Int) = 0 from rfl] at this
      rw [this]; simp [List.getD, show 0 < w.length by omega]
    have hname : (w.getD 0 []).length ≤ maxLen := by
      refine le_max (hp _ ?_)
      have : w.getD 0 [] = w[0]'(by omega) := by simp [List.getD, show 0 < w.length by omega]
      rw [this]; exact List.getElem_mem _
    rw [num_loop (L := f_spec_ParseShip_2 s w ((w.drop 1).take 4) (((w.drop 1).take 4).length : Int)) ((w.drop 1).take 4) (fun acc => f_spec_ParseShip_2 s w ((w.drop 1).take 4) (((w.drop 1).take 4).length : Int) 1 (((w.drop 1).take 4).length : Int) acc) (some (nilShip, false)) (by rw [e4]; simp) (fun n i acc hi ha => ?_) (fun n acc => by simp only [f_spec_ParseShip_2, Int.lt_irrefl, decide_false, Bool.false_eq_true, if_false])]
    · by_cases hn : ((w.drop 1).take 4).all numOk = true
      · rw [if_pos hn]
        simp only [hn, true_and]
        have e : ((w.drop 1).take 4).map numOf = [numOf (w.getD 1 []), numOf (w.getD 2 []), numOf (w.getD 3 []), numOf (w.getD 4 [])] := by rw [e4]; rfl
        rw [e, f_spec_ParseShip_2]
        simp only [Int.lt_irrefl, decide_false, Bool.false_eq_true, if_false, hg0, Option.bind_some, show ix [numOf (w.getD 1 []), numOf (w.getD 2 []), numOf (w.getD 3 []), numOf (w.getD 4 [])] 0 = some (numOf (w.getD 1 [])) from rfl,
          show ix [numOf (w.getD 1 []), numOf (w.getD 2 []), numOf (w.getD 3 []), numOf (w.getD 4 [])] 1 = some (numOf (w.getD 2 [])) from rfl, show ix [numOf (w.getD 1 []), numOf (w.getD 2 []), numOf (w.getD 3 []), numOf (w.getD 4 [])] 2 = some (numOf (w.getD 3 [])) from rfl,
          show ix [numOf (w.getD 1 []), numOf (w.getD 2 []), numOf (w.getD 3 []), numOf (w.getD 4 [])] 3 = some (numOf (w.getD 4 [])) from rfl, hw6]
        rw [show (⟨w.getD 0 [], numOf (w.getD 1 []), numOf (w.getD 2 []), numOf (w.getD 3 []), numOf (w.getD 4 []), decide (w.length = 6)⟩ : XShip) = shipOf w from rfl, spec_ShipOk_eq (s := shipOf w) hname, spec_FormatShip_eq (s := shipOf w) hname]
        simp only [Option.bind_some, f_spec_ParseShip_3]
        cases shipOk (shipOf w) with
        | false => rfl
        | true =>
          by_cases hf : fmtShip (shipOf w) = s
          · simp only [hf, beq_self_eq_true, Bool.not_true, Bool.false_eq_true, if_false, if_true, true_and]; rfl
          · have : (fmtShip (shipOf w) == s) = false := by simpa using hf
            simp only [this, Bool.not_false, if_true, hf, and_false, if_false]; rfl
      · rw [if_neg hn, if_neg (fun h => hn h.1)]
    · have hq : ((w.drop 1).take 4)[i].length ≤ 1048576 := hm4 _ (List.getElem_mem hi)
      simp only [f_spec_ParseShip_2, dec_nn, hi, decide_true, if_true, ix_at hi, Option.bind_some, spec_ParseInt_eq hq, numOk, numOf]
      have : acc.length < 4 := by rw [ha]; rw [e4] at hi; simpa using hi
      rw [ifa (by simp; omega) (by omega)]
      rfl
  by_cases h5 : w.length = 5
  · have : ¬ (((w.length : Int) != 5) = true) := by simp; omega
    rw [if_neg this, main (.inl h5)]
    simp only [h5, true_or, true_and]
  · have : (((w.length : Int) != 5) = true) := by simp; omega
    rw [if_pos this]
    by_cases h6 : w.length = 6
    · have : ((w.length : Int) != 6) = false := by simp; omega
      rw [this, main (.inr h6)]
      simp only [h6, or_true, true_and]
    · have : ((w.length : Int) != 6) = true := by simp; omega
      rw [this, if_neg (fun h => by rcases h.1 with h | h <;> omega)]
      rfl
theorem impl_ParseShip_eq {s : List UInt8} (hl : s.length ≤ 1048576) : f_impl_ParseShip s = some (readShip s) := by
  unfold f_impl_ParseShip readShip
  rw [impl_SplitAny_eq hl]
  simp only [Option.bind_some]
  have hp := part_len hl
  have hparts : ∀ x, shipOk x = true → fmtShip x = s → split 32 s = shipWords x ++ (if x.Slow = true then [[115, 108, 111, 119]] else []) := fun x h e => by rw [← e]; exact ship_parts h
  generalize split 32 s = w at hp hparts
  by_cases h5 : 5 ≤ w.length
  rotate_left
  · have : (w.length : Int) < 5 := by omega
    simp only [this, decide_true, if_true]
    rw [if_neg (fun h => by rcases h.1 with h | h <;> omega)]
    rfl
  have h5' : ¬ (w.length : Int) < 5 := by omega
  simp only [h5', decide_false, Bool.false_eq_true, if_false]
  rw [show bnd (5 : Int) 5 1 w.length = some (1, 5) by unfold bnd; rw [if_pos ⟨by omega, by omega, by omega, by omega⟩]; rfl]
  simp only [Option.bind_some, show (5 : Nat) - 1 = 4 from rfl]
  have e4 := take4 h5
  have hm4 : ∀ x ∈ (w.drop 1).take 4, x.length ≤ 1048576 := fun x hx => hp x (List.mem_of_mem_drop (List.mem_of_mem_take hx))
  rw [impl_parseNumbers_eq (by rw [e4]; simp) hm4]
  simp only [Option.bind_some]
  by_cases hn : ((w.drop 1).take 4).all numOk = true
  rotate_left
  · rw [if_neg hn]
    simp only [Bool.false_eq_true, if_false]
    rw [if_neg (fun h => hn h.2.1)]
    rfl
  rw [if_pos hn]
  have e : ((w.drop 1).take 4).map numOf = [numOf (w.getD 1 []), numOf (w.getD 2 []), numOf (w.getD 3 []), numOf (w.getD 4 [])] := by rw [e4]; rfl
  have hg0 : ix w 0 = some (w.getD 0 []) := by
    have : ix w ((0 : Nat) : Int) = some w[0] := ix_at (by omega)
    rw [show ((0 : Nat) : Int) = 0 from rfl] at this
    rw [this]; simp [List.getD, show 0 < w.length by omega]
  have hname : (w.getD 0 []).length ≤ maxLen := by
    refine le_max (hp _ ?_)
    have : w.getD 0 [] = w[0]'(by omega) := by simp [List.getD, show 0 < w.length by omega]
    rw [this]; exact List.getElem_mem _
  simp only [if_true, e, hg0, Option.bind_some, show ix [numOf (w.getD 1 []), numOf (w.getD 2 []), numOf (w.getD 3 []), numOf (w.getD 4 [])] 0 = some (numOf (w.getD 1 [])) from rfl,
    show ix [numOf (w.getD 1 []), numOf (w.getD 2 []), numOf (w.getD 3 []), numOf (w.getD 4 [])] 1 = some (numOf (w.getD 2 [])) from rfl, show ix [numOf (w.getD 1 []), numOf (w.getD 2 []), numOf (w.getD 3 []), numOf (w.getD 4 [])] 2 = some (numOf (w.getD 3 [])) from rfl,
    show ix [numOf (w.getD 1 []), numOf (w.getD 2 []), numOf (w.getD 3 []), numOf (w.getD 4 [])] 3 = some (numOf (w.getD 4 [])) from rfl]
  by_cases h7 : w.length ≤ 6
  · have hs6 : decide ((5 : Int) < (w.length : Int)) = decide (w.length = 6) := by rw [Bool.eq_iff_iff]; simp; omega
    rw [hs6, show (⟨w.getD 0 [], numOf (w.getD 1 []), numOf (w.getD 2 []), numOf (w.getD 3 []), numOf (w.getD 4 []), decide (w.length = 6)⟩ : XShip) = shipOf w from rfl, impl_ShipOk_eq (s := shipOf w) hname, impl_FormatShip_eq (s := shipOf w) hname]
    have hw : w.length = 5 ∨ w.length = 6 := by omega
    simp only [Option.bind_some, f_impl_ParseShip_1, hw, hn, true_and]
    cases shipOk (shipOf w) with
    | false => rfl
    | true =>
      by_cases hf : fmtShip (shipOf w) = s
      · simp only [hf, beq_self_eq_true, Bool.not_true, Bool.false_eq_true, if_false, if_true, true_and]; rfl
      · have : (fmtShip (shipOf w) == s) = false := by simpa using hf
        simp only [this, Bool.not_false, if_true, hf, and_false, if_false]; rfl
  · have hs6 : decide ((5 : Int) < (w.length : Int)) = true := by simp; omega
    rw [hs6, if_neg (fun h => by rcases h.1 with h | h <;> omega)]
    generalize hx : (⟨w.getD 0 [], numOf (w.getD 1 []), numOf (w.getD 2 []), numOf (w.getD 3 []), numOf (w.getD 4 []), true⟩ : XShip) = x
    have hxn : x.Name.length ≤ maxLen := by rw [← hx]; exact hname
    rw [impl_ShipOk_eq hxn, impl_FormatShip_eq hxn]
    simp only [Option.bind_some, f_impl_ParseShip_1]
    cases hok : shipOk x with
    | false => rfl
    | true =>
      have hf : ¬ fmtShip x = s := fun e => by
        have := congrArg List.length (hparts x hok e)
        rw [← hx] at this
        simp [shipWords] at this
        omega
      have : (fmtShip x == s) = false := by simpa using hf
      simp only [this, Bool.not_false, if_true]; rfl
theorem eqShip_self (x : XShip) : f_laws_eqShip x x = some true := by rw [eqShip_eq]; simp
theorem law_FnExactParseShip (s : List UInt8) (ok : DsOk [.sc (.str s)]) : f_laws_FnExactParseShip s = some true := by
  unfold f_laws_FnExactParseShip
  by_cases h : (1048576 : Int) < (s.length : Int)
  · simp [h]
  · have hl : s.length ≤ 1048576 := by omega
    simp only [h, decide_false, Bool.false_eq_true, if_false, spec_ParseShip_eq hl, impl_ParseShip_eq hl, Option.bind_some, eqShip_self, if_true, beq_self_eq_true]
end Go.Vi
