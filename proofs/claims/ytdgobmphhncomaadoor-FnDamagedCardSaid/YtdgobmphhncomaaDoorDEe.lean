/-
  Plain law: FnDamaged. No condition.
-/
import Derived.Test.YtdgobmphhncomaaDoorDEc
namespace Go.Vi
open Go.Lib
set_option linter.unusedSimpArgs false
set_option linter.unusedVariables false

theorem journal_map (l : List XEntry) : journal l = (l.map fun e => fmtEntry e ++ [10]).flatten := by
  unfold journal
  congr 1
  apply List.ext_getElem?
  intro i
  by_cases h : i < l.length
  · simp [h]
  · simp [h]
theorem journal_len {l : List XEntry} (h : l.length ≤ 7) : (journal l).length ≤ 1000 := by
  rw [journal_map]
  have : ∀ l : List XEntry, (l.map fun e => fmtEntry e ++ [10]).flatten.length ≤ l.length * 131 := by
    intro l
    induction l with
    | nil => simp
    | cons e l ih =>
      have := fmtEntry_len e
      simp only [List.map_cons, List.flatten_cons, List.length_append, List.length_cons, List.length_nil]
      omega
  have := this l
  omega
theorem goodPre_len : ∀ l, (goodPre l).length ≤ l.length
  | [] => by simp [goodPre]
  | x :: l => by
    have := goodPre_len l
    unfold goodPre
    split <;> simp <;> omega
theorem nls_append (s t : List UInt8) : nls (s ++ t) = nls s + nls t := List.countP_append
theorem nls_take {t : List UInt8} {k : Nat} (h : k < t.length) : nls (t.take (k + 1)) = nls (t.take k) + if t[k] = 10 then 1 else 0 := by
  rw [List.take_succ_eq_append_getElem h]
  unfold nls
  rw [List.countP_append]
  by_cases h2 : t[k] = 10 <;> simp [h2]
/-- The law's own loop counts the lines ahead of the damage. -/
theorem count_loop {t : List UInt8} {k : Nat} (hk : k < t.length) (hl : t.length ≤ 1000) : ∀ (j i n : Nat), i + j = k → j < n → f_laws_FnDamaged_1 t (k : Int) n ((nls (t.take i) : Nat) : Int) (i : Int) =
    (f_impl_ReadJournal (damaged t k)).bind fun r => some (r.2 == ((nls (t.take k) : Nat) : Int)) := by
  intro j
  induction j with
  | zero =>
    intro i n hi hn
    obtain ⟨m, rfl⟩ : ∃ m, n = m + 1 := ⟨n - 1, by omega⟩
    have : i = k := by omega
    subst this
    rw [f_laws_FnDamaged_1]
    simp only [Int.lt_irrefl, decide_false, Bool.false_eq_true, if_false]
    rw [show (0 : Int) = ((0 : Nat) : Int) from rfl, bnd_ok (Nat.zero_le _) (Nat.le_of_lt hk)]
    simp only [Option.bind_some, List.drop_zero, Nat.sub_zero]
    rw [wrap64 (n := (i : Int) + 1) (by omega) (by omega), show (i : Int) + 1 = ((i + 1 : Nat) : Int) by omega, bnd_ok (by omega) (Nat.le_refl _)]
    simp only [Option.bind_some]
    rw [ifc (by simp; omega), ifc (by simp; omega), List.take_of_length_le (l := t.drop (i + 1)) (by simp)]
    rfl
  | succ j ih =>
    intro i n hi hn
    obtain ⟨m, rfl⟩ : ∃ m, n = m + 1 := ⟨n - 1, by omega⟩
    have hlt : i < k := by omega
    have hlt2 : i < t.length := by omega
    have hnl : nls (t.take i) ≤ 1000 := Nat.le_trans (List.countP_le_length) (by rw [List.length_take]; omega)
    have hw : IntKind.i64.wrap ((i : Int) + 1) = ((i + 1 : Nat) : Int) := by rw [wrap64 (by omega) (by omega)]; omega
    have hw2 : IntKind.i64.wrap (((nls (t.take i) : Nat) : Int) + 1) = ((nls (t.take i) + 1 : Nat) : Int) := by rw [wrap64 (by omega) (by omega)]; omega
    rw [f_laws_FnDamaged_1]
    simp only [dec_nn, hlt, decide_true, if_true, ix_at hlt2, Option.bind_some, f_laws_FnDamaged_2, hw, hw2]
    have ih' := ih (i + 1) m (by omega) (by omega)
    rw [nls_take hlt2] at ih'
    by_cases h10 : t[i] = 10
    · have e : (((t[i].toNat : Int) == 10)) = true := by rw [h10]; rfl
      rw [if_pos e]
      rw [if_pos h10] at ih'
      exact ih'
    · have e : ¬ ((((t[i].toNat : Int) == 10)) = true) := fun h => h10 (by
        have h' : (t[i].toNat : Int) = 10 := by simpa using h
        exact UInt8.toNat_inj.1 (by show t[i].toNat = 10; omega))
      rw [if_neg e]
      rw [if_neg h10, Nat.add_zero] at ih'
      exact ih'
theorem law_FnDamaged (a : List Int) (ok : DsOk [.sc (.sl (List.map r8 a))]) : f_laws_FnDamaged a = some true := by
  unfold f_laws_FnDamaged
  by_cases h0 : (1048576 : Int) < a.length
  · simp [h0]
  have ha : a.length ≤ maxLen := le_max (by omega)
  obtain ⟨n, l, e1, hn, hl, h7⟩ := journal_ok ha
  have hj := journal_len h7
  obtain ⟨d, hd, hok, hlen⟩ : ∃ d, f_impl_DeskNew n = some d ∧ f_impl_DeskOk d = some true ∧ (d.Starts.length : Int) = n := by
    obtain ⟨n1, n2, n3⟩ := new2
    rcases hn with rfl | rfl | rfl
    · exact ⟨_, n1, by rw [impl_DeskOk_eq]; rfl, rfl⟩
    · exact ⟨_, n2, by rw [impl_DeskOk_eq]; rfl, rfl⟩
    · exact ⟨_, n3, by rw [impl_DeskOk_eq]; rfl, rfl⟩
  simp only [h0, decide_false, Bool.false_eq_true, if_false, e1, Option.bind_some, impl_JournalText_eq (l := l) (by omega), hd, hok, if_true, hlen, bne_self_eq_false]
  by_cases ht : (journal l).length = 0
  · have ht' : (((journal l).length : Int) == 0) = true := by simp [ht]
    rw [if_pos ht']
    have hnil : journal l = [] := List.length_eq_zero_iff.1 ht
    have hl0 : l = [] := by
      cases l with
      | nil => rfl
      | cons e r => rw [journal_map] at hnil; simp at hnil
    subst hl0
    rw [hnil, impl_ReadJournal_eq (by simp)]
    rfl
  · have ht' : ¬ ((((journal l).length : Int) == 0) = true) := by simpa using ht
    obtain ⟨v, e2, v1, v2⟩ := num_ok (a := a) (k := 60) (by omega) ha
    have e2' : f_spec_MakeNum a (60 : Int) = some v := e2
    simp only [ht', Bool.false_eq_true, if_false, e2', Option.bind_some]
    obtain ⟨k, hk⟩ : ∃ k : Nat, IntKind.i64.wrap (Int.tmod v ((journal l).length : Int)) = (k : Int) ∧ k < (journal l).length := by
      have hm := Int.emod_nonneg v (b := ((journal l).length : Int)) (by omega)
      have hm2 := Int.emod_lt_of_pos v (b := ((journal l).length : Int)) (by omega)
      rw [Int.tmod_eq_emod_of_nonneg v1, wrap64 (by omega) (by omega)]
      exact ⟨(v % ((journal l).length : Int)).toNat, by omega, by omega⟩
    obtain ⟨hk, hkl⟩ := hk
    rw [hk]
    have H := count_loop hkl hj k 0 bigN (by omega) (by rw [bigN_val]; omega)
    have h00 : ((nls ((journal l).take 0) : Nat) : Int) = 0 := rfl
    rw [h00, show ((0 : Nat) : Int) = 0 from rfl] at H
    rw [H, impl_ReadJournal_eq (by simp only [damaged, List.length_append, List.length_take, List.length_drop, List.length_cons, List.length_nil]; omega)]
    simp only [Option.bind_some]
    have hr := damaged_read l k hl (by rw [← journal_map]; exact hkl)
    rw [← journal_map] at hr
    have h60 : (goodPre (lines (damaged (journal l) k))).length ≤ 60 := by
      rw [hr]
      have : ∀ l : List XEntry, nls ((l.map fun e => fmtEntry e ++ [10]).flatten) ≤ l.length := by
        intro l
        induction l with
        | nil => simp [nls]
        | cons e l ih =>
          have h0 : nls (fmtEntry e) = 0 := List.countP_eq_zero.2 fun b hb => by simpa using (fmt_ne e b hb).1
          have h1 : nls ((List.map (fun e => fmtEntry e ++ [10]) (e :: l)).flatten) = nls (fmtEntry e) + nls [10] + nls ((l.map fun e => fmtEntry e ++ [10]).flatten) := by
            rw [List.map_cons, List.flatten_cons, nls_append, nls_append]
          have h2 : nls [10] = 1 := rfl
          rw [h1, h0, h2, List.length_cons]
          omega
      have h1 := this l
      rw [← journal_map] at h1
      have h2 : nls ((journal l).take k) ≤ nls (journal l) := List.Sublist.countP_le (List.take_sublist _ _)
      omega
    rw [List.take_of_length_le h60, hr]
    simp
end Go.Vi
