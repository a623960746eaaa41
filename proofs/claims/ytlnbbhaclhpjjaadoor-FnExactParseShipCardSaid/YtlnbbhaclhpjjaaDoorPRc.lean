/-
  Plain laws: desks and logs as texts (DeskLine, JournalText). No condition.
-/
import Derived.Test.YtlnbbhaclhpjjaaDoorPRb
namespace Go.Vi
open Go.Lib
set_option linter.unusedSimpArgs false
set_option linter.unusedVariables false

theorem mkS_len {n bytes : Nat} (h : n ≤ 1048576) (hb : bytes ≤ 1000) : mkS (n : Int) (n : Int) bytes = some n := by
  unfold mkS
  have : (n : Int) * (bytes : Int) ≤ 140737488355328 := by
    have : n * bytes ≤ 1048576 * 1000 := Nat.mul_le_mul h hb
    have e : ((n * bytes : Nat) : Int) = (n : Int) * (bytes : Int) := by simp
    omega
  rw [if_pos ⟨by omega, by omega, this, by omega⟩]
  simp
theorem le_max {n : Nat} (h : n ≤ 1048576) : n ≤ maxLen := by rw [maxLen_val]; omega
theorem toIntS_eq {xs : List Int} (h : xs.length ≤ 1048576) : f_laws_toIntS xs = some xs := by
  unfold f_laws_toIntS
  rw [mkS_len h (by omega)]
  have := copy_loop (L := f_laws_toIntS_1 xs) xs id (le_max h) (fun n i acc hi ha => by simp [f_laws_toIntS_1, ix_nn, hi, ha]) (fun n acc => by simp [f_laws_toIntS_1]) (List.replicate xs.length 0) (by simp)
  simpa using this
theorem toBoolS_eq {xs : List Bool} (h : xs.length ≤ 1048576) : f_laws_toBoolS xs = some xs := by
  unfold f_laws_toBoolS
  rw [mkS_len h (by omega)]
  have := copy_loop (L := f_laws_toBoolS_1 xs) xs id (le_max h) (fun n i acc hi ha => by simp [f_laws_toBoolS_1, ix_nn, hi, ha]) (fun n acc => by simp [f_laws_toBoolS_1]) (List.replicate xs.length false) (by simp)
  simpa using this
theorem eqIntS_eq {xs ys : List Int} (h : xs.length ≤ maxLen) : f_laws_eqIntS xs ys = some (decide (xs = ys)) := by
  unfold f_laws_eqIntS
  by_cases hl : xs.length = ys.length
  · have := eq_loop (L := f_laws_eqIntS_1 xs ys) xs ys h hl (fun n i h1 h2 => by simp [f_laws_eqIntS_1, ix_nn, h1, h2]) (fun n => by simp [f_laws_eqIntS_1])
    simp [hl, this]
  · have : ¬ (xs.length : Int) = ys.length := by omega
    have : xs ≠ ys := fun e => hl (by rw [e])
    simp_all
theorem eqBoolS_eq {xs ys : List Bool} (h : xs.length ≤ maxLen) : f_laws_eqBoolS xs ys = some (decide (xs = ys)) := by
  unfold f_laws_eqBoolS
  by_cases hl : xs.length = ys.length
  · have := eq_loop (L := f_laws_eqBoolS_1 xs ys) xs ys h hl (fun n i h1 h2 => by simp [f_laws_eqBoolS_1, ix_nn, h1, h2]) (fun n => by simp [f_laws_eqBoolS_1])
    simp [hl, this]
  · have : ¬ (xs.length : Int) = ys.length := by omega
    have : xs ≠ ys := fun e => hl (by rw [e])
    simp_all
theorem szIntS_of {xs : List Int} {l : Int} (h0 : 0 ≤ l) (h1 : l ≤ 1048576) (hx : xs.length ≤ maxLen) : ∃ r, f_laws_szIntS xs l = some r ∧ (0 ≤ r → r ≤ l ∧ xs.length ≤ 1048576) := by
  unfold f_laws_szIntS
  rw [maxLen_val] at hx
  rw [wrap64 (by omega) (by omega)]
  by_cases h : l - (xs.length : Int) < 0
  · exact ⟨-1, by simp [h], by omega⟩
  · exact ⟨l - xs.length, by simp [h], by omega⟩
theorem szBoolS_of {xs : List Bool} {l : Int} (h0 : 0 ≤ l) (h1 : l ≤ 1048576) (hx : xs.length ≤ maxLen) : ∃ r, f_laws_szBoolS xs l = some r ∧ (0 ≤ r → r ≤ l ∧ xs.length ≤ 1048576) := by
  unfold f_laws_szBoolS
  rw [maxLen_val] at hx
  rw [wrap64 (by omega) (by omega)]
  by_cases h : l - (xs.length : Int) < 0
  · exact ⟨-1, by simp [h], by omega⟩
  · exact ⟨l - xs.length, by simp [h], by omega⟩
theorem szDesk_of {a : XDesk} {l : Int} (h0 : 0 ≤ l) (h1 : l ≤ 1048576) (hw : a.Starts.length ≤ maxLen) (hc : a.Cleared.length ≤ maxLen) : ∃ r, f_laws_szDesk a l = some r ∧ (0 ≤ r → r ≤ l ∧ a.Starts.length ≤ 1048576 ∧ a.Cleared.length ≤ 1048576) := by
  unfold f_laws_szDesk
  obtain ⟨r, e, h⟩ := szIntS_of h0 h1 hw
  by_cases hr : r < 0
  · exact ⟨-1, by simp [e, hr], by omega⟩
  · obtain ⟨k1, k2⟩ := h (by omega)
    obtain ⟨r', e', h'⟩ := szBoolS_of (xs := a.Cleared) (l := r) (by omega) (by omega) hc
    by_cases hr' : r' < 0
    · exact ⟨-1, by simp [e, hr, e', hr'], by omega⟩
    · obtain ⟨k3, k4⟩ := h' (by omega)
      exact ⟨r', by simp [e, hr, e', hr'], fun _ => ⟨by omega, k2, k4⟩⟩
theorem toDesk_eq {a : XDesk} (hw : a.Starts.length ≤ 1048576) (hc : a.Cleared.length ≤ 1048576) : f_laws_toDesk a = some a := by
  simp [f_laws_toDesk, toIntS_eq hw, toBoolS_eq hc]
theorem eqDesk_eq {a b : XDesk} (hw : a.Starts.length ≤ maxLen) (hc : a.Cleared.length ≤ maxLen) : f_laws_eqDesk a b = some (decide (a = b)) := by
  cases a; cases b
  simp only [f_laws_eqDesk, eqIntS_eq hw, eqBoolS_eq hc, Option.bind_some, XDesk.mk.injEq, decide_eq_true_eq, Bool.decide_and]
  split
  · simp_all
  · split
    · split <;> simp_all
    · simp_all
theorem desk_ok {a : XDesk} (ok : ∀ d ∈ XDesk.row a, d.Ok) : a.Starts.length ≤ maxLen ∧ a.Cleared.length ≤ maxLen :=
  ⟨len_ok (row := rI) (ok _ (by simp [XDesk.row_eq])), len_ok (row := rB) (ok _ (by simp [XDesk.row_eq]))⟩
def deskOkAt (a : XDesk) (i : Nat) : Bool := match a.Starts[i]?, a.Cleared[i]? with
  | some x, some c => (decide (-1 ≤ x) && decide (x ≤ 2880)) && !(c && decide (x < 0))
  | _, _ => false
def deskOk (a : XDesk) : Bool := (decide (0 ≤ a.Now) && decide (a.Now ≤ 2880)) && (decide (a.Starts.length ≤ 6) && (decide (a.Cleared.length = a.Starts.length) && (List.range a.Starts.length).all (deskOkAt a)))
theorem spec_DeskOk_eq (a : XDesk) : f_spec_DeskOk a = some (deskOk a) := by
  simp only [f_spec_DeskOk, l01In_eq, Option.bind_some, deskOk]
  cases (decide (0 ≤ a.Now) && decide (a.Now ≤ 2880)) with
  | false => simp
  | true =>
    by_cases h1 : a.Starts.length ≤ 6
    · have h1' : ¬ (6 : Int) < a.Starts.length := by omega
      by_cases h2 : a.Cleared.length = a.Starts.length
      · have := all_loopI (L := f_spec_DeskOk_1 a) a.Starts.length (deskOkAt a) (by rw [maxLen_val]; omega) (fun n i hi => by
          have e2 : i < a.Cleared.length := by omega
          simp only [f_spec_DeskOk_1, ix_at hi, ix_at e2, l01In_eq, Option.bind_some, deskOkAt, List.getElem?_eq_getElem hi, List.getElem?_eq_getElem e2, dec_nn, hi, decide_true, if_true]
          cases (decide (-1 ≤ a.Starts[i]) && decide (a.Starts[i] ≤ 2880)) <;> cases a.Cleared[i] <;> cases hd : decide (a.Starts[i] < 0) <;> simp) (fun n => by simp [f_spec_DeskOk_1])
        simp [h1, h1', h2, this]
      · have : ¬ (a.Cleared.length : Int) = a.Starts.length := by omega
        simp [h1, h1', h2, this]
    · have h1' : (6 : Int) < a.Starts.length := by omega
      simp [h1, h1']
theorem impl_DeskOk_eq (a : XDesk) : f_impl_DeskOk a = some (deskOk a) := by
  simp only [f_impl_DeskOk, isMinute_eq, Option.bind_some, deskOk]
  cases (decide (0 ≤ a.Now) && decide (a.Now ≤ 2880)) with
  | false => simp
  | true =>
    by_cases h1 : a.Starts.length ≤ 6
    · have h1' : ¬ (6 : Int) < a.Starts.length := by omega
      by_cases h2 : a.Cleared.length = a.Starts.length
      · have := all_loopI (L := f_impl_DeskOk_1 a) a.Starts.length (deskOkAt a) (by rw [maxLen_val]; omega) (fun n i hi => by
          have e2 : i < a.Cleared.length := by omega
          simp only [f_impl_DeskOk_1, ix_at hi, ix_at e2, within_eq, Option.bind_some, deskOkAt, List.getElem?_eq_getElem hi, List.getElem?_eq_getElem e2, dec_nn, hi, decide_true, if_true]
          cases (decide (-1 ≤ a.Starts[i]) && decide (a.Starts[i] ≤ 2880)) <;> cases a.Cleared[i] <;> cases hd : decide (a.Starts[i] < 0) <;> simp) (fun n => by simp [f_impl_DeskOk_1])
        simp [h1, h1', h2, this]
      · have : ¬ (a.Cleared.length : Int) = a.Starts.length := by omega
        simp [h1, h1', h2, this]
    · have h1' : (6 : Int) < a.Starts.length := by omega
      simp [h1, h1']

/-! A text that grows, piece by piece -/
theorem cat_loop {L : Nat → List UInt8 → Int → Option (List UInt8)} (len : Nat) (piece : Nat → List UInt8) (B : Nat) (hl : len ≤ maxLen) (hp : ∀ i, i < len → (piece i).length ≤ B) (s0 : List UInt8) (hB : s0.length + len * B ≤ 100000000000000)
    (hs : ∀ (n i : Nat) (s : List UInt8), i < len → s.length + B ≤ 100000000000000 → L (n + 1) s (i : Int) = L n (s ++ piece i) (IntKind.i64.wrap ((i : Int) + 1))) (he : ∀ n s, L (n + 1) s (len : Int) = some s) :
    L bigN s0 0 = some (s0 ++ ((List.range len).map piece).flatten) := by
  have key : ∀ (k i n : Nat) (s : List UInt8), i + k = len → k < n → s.length + k * B ≤ 100000000000000 → L n s (i : Int) = some (s ++ ((List.range' i k).map piece).flatten) := by
    intro k
    induction k with
    | zero =>
      intro i n s hi hn hb
      obtain ⟨m, rfl⟩ : ∃ m, n = m + 1 := ⟨n - 1, by omega⟩
      have : i = len := by omega
      subst this
      rw [he]; simp
    | succ k ih =>
      intro i n s hi hn hb
      obtain ⟨m, rfl⟩ : ∃ m, n = m + 1 := ⟨n - 1, by omega⟩
      have hlt : i < len := by omega
      have h1 := hp i hlt
      rw [Nat.add_mul, Nat.one_mul] at hb
      rw [hs m i s hlt (by omega), wrapS hlt hl, ih (i + 1) m _ (by omega) (by omega) (by simp only [List.length_append]; omega), List.range'_succ]
      simp
  have := key len 0 bigN s0 (by omega) (lt_bigN hl) hB
  rw [List.range_eq_range']
  exact this

/-! Logs -/
def journal (l : List XEntry) : List UInt8 := ((List.range l.length).map fun i => match l[i]? with | some e => fmtEntry e ++ [10] | none => []).flatten
theorem ent_piece {l : List XEntry} (i : Nat) (h : i < l.length) : (match l[i]? with | some e => fmtEntry e ++ [10] | none => []).length ≤ 200 := by
  rw [List.getElem?_eq_getElem h]
  have := fmtEntry_len l[i]
  simp only [List.length_append, List.length_cons, List.length_nil]
  omega
theorem spec_JournalText_eq {l : List XEntry} (h : l.length ≤ 1048576) : f_spec_JournalText l = some (journal l) := by
  unfold f_spec_JournalText
  have := cat_loop (L := f_spec_JournalText_1 l) l.length (fun i => match l[i]? with | some e => fmtEntry e ++ [10] | none => []) 200 (le_max h) ent_piece [] (by simp; omega) (fun n i s hi hs => by
    have := fmtEntry_len l[i]
    simp only [f_spec_JournalText_1, dec_nn, hi, decide_true, if_true, ix_at hi, Option.bind_some, spec_FormatEntry_eq, List.getElem?_eq_getElem hi]
    rw [ifc (by omega), ifc (by simp; omega), List.append_assoc]) (fun n s => by simp [f_spec_JournalText_1])
  simpa [journal] using this
theorem impl_JournalText_eq {l : List XEntry} (h : l.length ≤ 1048576) : f_impl_JournalText l = some (journal l) := by
  unfold f_impl_JournalText
  have := cat_loop (L := f_impl_JournalText_1 l) l.length (fun i => match l[i]? with | some e => fmtEntry e ++ [10] | none => []) 200 (le_max h) ent_piece [] (by simp; omega) (fun n i s hi hs => by
    have := fmtEntry_len l[i]
    simp only [f_impl_JournalText_1, dec_nn, hi, decide_true, if_true, ix_at hi, Option.bind_some, impl_FormatEntry_eq, List.getElem?_eq_getElem hi]
    rw [ifc (by simp; omega), ifc (by simp; omega)]) (fun n s => by simp [f_impl_JournalText_1])
  simpa [journal] using this
theorem toEntryS_eq {xs : List XEntry} (h : xs.length ≤ 1048576) : f_laws_toEntryS xs = some xs := by
  unfold f_laws_toEntryS
  rw [mkS_len h (by omega)]
  have := copy_loop (L := f_laws_toEntryS_1 xs) xs id (le_max h) (fun n i acc hi ha => by simp [f_laws_toEntryS_1, ix_nn, hi, ha, f_laws_toEntry]) (fun n acc => by simp [f_laws_toEntryS_1]) (List.replicate xs.length ⟨0, 0, 0, 0⟩) (by simp)
  simpa using this
theorem eqEntry_eq (x y : XEntry) : f_laws_eqEntry x y = some (decide (x = y)) := by
  unfold f_laws_eqEntry
  cases x; cases y
  simp only [XEntry.mk.injEq]
  repeat' split
  all_goals simp_all
theorem eqEntryS_eq {xs ys : List XEntry} (h : xs.length ≤ maxLen) : f_laws_eqEntryS xs ys = some (decide (xs = ys)) := by
  unfold f_laws_eqEntryS
  by_cases hl : xs.length = ys.length
  · have := eq_loop (L := f_laws_eqEntryS_1 xs ys) xs ys h hl (fun n i h1 h2 => by simp [f_laws_eqEntryS_1, ix_nn, h1, h2, eqEntry_eq]) (fun n => by simp [f_laws_eqEntryS_1])
    simp [hl, this]
  · have : ¬ (xs.length : Int) = ys.length := by omega
    have : xs ≠ ys := fun e => hl (by rw [e])
    simp_all
theorem szEntryS_of {xs : List XEntry} {l : Int} (h0 : 0 ≤ l) (h1 : l ≤ 1048576) (hx : xs.length ≤ maxLen) : ∃ r, f_laws_szEntryS xs l = some r ∧ (0 ≤ r → r ≤ l ∧ xs.length ≤ 1048576) := by
  unfold f_laws_szEntryS
  rw [maxLen_val] at hx
  rw [wrap64 (by omega) (by omega)]
  by_cases h : l - (xs.length : Int) < 0
  · exact ⟨-1, by simp [h], by omega⟩
  · exact ⟨l - xs.length, by simp [h], by omega⟩
theorem law_FnExactJournalText (l : List XEntry) (ok : DsOk [.sc (.sl (List.map XEntry.row l))]) : f_laws_FnExactJournalText l = some true := by
  unfold f_laws_FnExactJournalText
  have m1 := len_ok (row := XEntry.row) ok.sc.1
  obtain ⟨r, e, h⟩ := szEntryS_of (l := 1048576) (by omega) (by omega) m1
  by_cases hr : r < 0
  · simp [e, hr]
  · obtain ⟨_, k1⟩ := h (by omega)
    simp [e, hr, toEntryS_eq k1, spec_JournalText_eq k1, impl_JournalText_eq k1, eqEntryS_eq m1]

/-! Desks -/
def deskWord (a : XDesk) (i : Nat) : List UInt8 := match a.Starts[i]?, a.Cleared[i]? with
  | some x, some c => if x < 0 then [32, 45] else [32] ++ itoa x ++ (if c = true then [33] else [])
  | _, _ => []
def deskLine (a : XDesk) : List UInt8 := if deskOk a = true then itoa a.Now ++ ((List.range a.Starts.length).map (deskWord a)).flatten else []
theorem desk_facts {a : XDesk} (h : deskOk a = true) : i64 a.Now ∧ a.Starts.length ≤ 6 ∧ a.Cleared.length = a.Starts.length ∧ ∀ i, i < a.Starts.length → deskOkAt a i = true := by
  simp only [deskOk, Bool.and_eq_true, decide_eq_true_eq, List.all_eq_true, List.mem_range] at h
  obtain ⟨⟨h1, h2⟩, h3, h4, h5⟩ := h
  exact ⟨⟨by omega, by omega⟩, h3, h4, h5⟩
theorem at_facts {a : XDesk} {i : Nat} (h1 : i < a.Starts.length) (h2 : i < a.Cleared.length) (h : deskOkAt a i = true) : -1 ≤ a.Starts[i] ∧ a.Starts[i] ≤ 2880 ∧ (a.Cleared[i] = true → ¬ a.Starts[i] < 0) := by
  simp only [deskOkAt, List.getElem?_eq_getElem h1, List.getElem?_eq_getElem h2, Bool.and_eq_true, decide_eq_true_eq, Bool.not_eq_true', Bool.and_eq_false_iff, decide_eq_false_iff_not] at h
  obtain ⟨⟨a1, a2⟩, a3⟩ := h
  exact ⟨a1, a2, fun e => a3.resolve_left (by rw [e]; decide)⟩
theorem deskWord_len {a : XDesk} (h : deskOk a = true) (i : Nat) (hi : i < a.Starts.length) : (deskWord a i).length ≤ 40 := by
  obtain ⟨_, _, h3, h4⟩ := desk_facts h
  have h2 : i < a.Cleared.length := by omega
  obtain ⟨b1, b2, b3⟩ := at_facts hi h2 (h4 i hi)
  simp only [deskWord, List.getElem?_eq_getElem hi, List.getElem?_eq_getElem h2]
  have := itoa_len (n := a.Starts[i]) ⟨by omega, by omega⟩
  split
  · simp
  · split <;> (simp; omega)
theorem spec_DeskLine_eq (a : XDesk) : f_spec_DeskLine a = some (deskLine a) := by
  unfold f_spec_DeskLine deskLine
  rw [spec_DeskOk_eq]
  simp only [Option.bind_some]
  cases h : deskOk a with
  | false => simp
  | true =>
    obtain ⟨h1, h2, h3, h4⟩ := desk_facts h
    have hn := itoa_len h1
    simp only [if_true, fmt_eq h1, Option.bind_some]
    refine cat_loop (L := f_spec_DeskLine_1 a) a.Starts.length (deskWord a) 40 (by rw [maxLen_val]; omega) (deskWord_len h) _ (by omega) (fun n i s hi hs => ?_) (fun n s => by simp [f_spec_DeskLine_1])
    have hc : i < a.Cleared.length := by omega
    obtain ⟨b1, b2, b3⟩ := at_facts hi hc (h4 i hi)
    have hx : i64 a.Starts[i] := ⟨by omega, by omega⟩
    have hl := itoa_len hx
    simp only [f_spec_DeskLine_1, dec_nn, hi, decide_true, if_true, ix_at hi, Option.bind_some, deskWord, List.getElem?_eq_getElem hi, List.getElem?_eq_getElem hc, f_spec_DeskLine_2, ix_at hc, f_spec_DeskLine_3, fmt_eq hx]
    by_cases hneg : a.Starts[i] < 0
    · have hc2 : a.Cleared[i] = false := by
        cases hcc : a.Cleared[i] with
        | false => rfl
        | true => exact absurd hneg (b3 hcc)
      have : ¬ 0 ≤ a.Starts[i] := by omega
      simp only [this, decide_false, Bool.false_eq_true, if_false, hc2, hneg, if_true]
      rw [ifc (by simp; omega), ifc (by simp; omega)]
      simp
    · have : 0 ≤ a.Starts[i] := by omega
      simp only [this, decide_true, if_true, hneg, if_false]
      cases a.Cleared[i] with
      | true =>
        simp only [if_true]
        rw [ifc (by simp; omega), ifc (by simp; omega), ifc (by simp; omega)]
        simp
      | false =>
        simp only [Bool.false_eq_true, if_false]
        rw [ifc (by simp; omega), ifc (by simp; omega)]
        simp
theorem impl_DeskLine_eq (a : XDesk) : f_impl_DeskLine a = some (deskLine a) := by
  unfold f_impl_DeskLine deskLine
  rw [impl_DeskOk_eq]
  simp only [Option.bind_some]
  cases h : deskOk a with
  | false => simp
  | true =>
    obtain ⟨h1, h2, h3, h4⟩ := desk_facts h
    have hn := itoa_len h1
    simp only [if_true, impl_fmt_eq h1, Option.bind_some]
    refine cat_loop (L := f_impl_DeskLine_1 a) a.Starts.length (deskWord a) 40 (by rw [maxLen_val]; omega) (deskWord_len h) _ (by omega) (fun n i s hi hs => ?_) (fun n s => by simp [f_impl_DeskLine_1])
    have hc : i < a.Cleared.length := by omega
    obtain ⟨b1, b2, b3⟩ := at_facts hi hc (h4 i hi)
    have hx : i64 a.Starts[i] := ⟨by omega, by omega⟩
    have hl := itoa_len hx
    simp only [f_impl_DeskLine_1, dec_nn, hi, decide_true, if_true, ix_at hi, Option.bind_some, deskWord, List.getElem?_eq_getElem hi, List.getElem?_eq_getElem hc, ix_at hc, impl_fmt_eq hx]
    by_cases hneg : a.Starts[i] < 0
    · simp only [hneg, decide_true, if_true]
      rw [ifc (by simp; omega)]
    · simp only [hneg, decide_false, Bool.false_eq_true, if_false]
      cases a.Cleared[i] with
      | true =>
        simp only [if_true]
        rw [ifc (by simp; omega), ifc (by simp; omega), ifc (by simp; omega)]
      | false =>
        simp only [Bool.false_eq_true, if_false]
        rw [ifc (by simp; omega), ifc (by simp; omega)]
        simp
theorem law_FnExactDeskLine (a : XDesk) (ok : DsOk [.ag (XDesk.row a)]) : f_laws_FnExactDeskLine a = some true := by
  unfold f_laws_FnExactDeskLine
  obtain ⟨m1, m2⟩ := desk_ok ok.ag.1
  obtain ⟨r, e, h⟩ := szDesk_of (l := 1048576) (by omega) (by omega) m1 m2
  by_cases hr : r < 0
  · simp [e, hr]
  · obtain ⟨_, k1, k2⟩ := h (by omega)
    simp [e, hr, toDesk_eq k1 k2, spec_DeskLine_eq, impl_DeskLine_eq, eqDesk_eq m1 m2]
end Go.Vi
