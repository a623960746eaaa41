/-
  Plain law: FnDesks. No condition.
-/
import Derived.Test.YtdgobmphhncomaaGreatDoorKHc
namespace Go.Vi
open Go.Lib
set_option linter.unusedSimpArgs false
set_option linter.unusedVariables false

theorem deskLine_ne {d : XDesk} (h : deskOk d = true) : deskLine d ≠ [] := by
  unfold deskLine
  rw [if_pos h]
  intro e
  have := congrArg List.length e
  rw [List.length_append] at this
  have h0 : 0 < (itoa d.Now).length := by
    obtain ⟨h1, _⟩ := deskOk_at h
    obtain ⟨u, hu⟩ : ∃ u : Nat, d.Now = (u : Int) := ⟨d.Now.toNat, by omega⟩
    rw [hu, itoa_nn]
    exact List.length_pos_iff.2 (decDigits_ne u)
  simp only [List.length_nil] at this
  omega
theorem same_self {d : XDesk} (h : deskOk d = true) : f_impl_SameDesks d d = some true := by
  obtain ⟨_, _, h1, h2, _⟩ := deskOk_at h
  rw [impl_SameDesks_eq (small_max (by omega)) (small_max (by omega))]
  simp
theorem desks_2 (r25 : XDesk × Int) (x : XDesk) (hx : r25.1 = x) (ox : deskOk x = true) (l : List XEntry) (hl : l.length ≤ 1000) : ∀ (k i n : Nat) (d : XDesk), i + k = l.length → k < n → runs d (l.drop i) x →
    f_laws_FnDesks_2 r25 l (l.length : Int) n (i : Int) d.Now d.Starts d.Cleared = some true := by
  intro k
  induction k with
  | zero =>
    intro i n d hi hn hr
    obtain ⟨m, rfl⟩ : ∃ m, n = m + 1 := ⟨n - 1, by omega⟩
    have : i = l.length := by omega
    subst this
    rw [List.drop_length] at hr
    have : d = x := hr
    subst this
    have e1 : f_impl_SameDesks r25.1 ⟨d.Now, d.Starts, d.Cleared⟩ = some true := by rw [hx]; exact same_self ox
    have e2 : (deskLine d == []) = false := by simpa using deskLine_ne ox
    rw [f_laws_FnDesks_2]
    simp only [Int.lt_irrefl, decide_false, Bool.false_eq_true, if_false, e1, Option.bind_some, if_true]
    rw [hx, impl_DeskLine_eq]
    simp only [Option.bind_some, e2, Bool.not_false]
  | succ k ih =>
    intro i n d hi hn hr
    obtain ⟨m, rfl⟩ : ∃ m, n = m + 1 := ⟨n - 1, by omega⟩
    have hlt : i < l.length := by omega
    rw [List.drop_eq_getElem_cons hlt] at hr
    obtain ⟨q, g1, g2, g3, g4, g5⟩ := hr
    have g1' : f_impl_ApplyEntry ⟨d.Now, d.Starts, d.Cleared⟩ l[i] = some (q, true) := g1
    rw [f_laws_FnDesks_2]
    simp only [dec_nn, hlt, decide_true, if_true, ix_at hlt, g1', Option.bind_some]
    rw [wrapS hlt (small_max hl)]
    exact ih (i + 1) m q (by omega) (by omega) g5
theorem desks_1 (r2 : Int × List XEntry) (t : List UInt8) (y : Nat) (d0 x : XDesk) (h0 : f_impl_DeskNew r2.1 = some d0) (o0 : deskOk d0 = true) (ht : t = journal r2.2) (hy : y ≤ t.length) (hl : r2.2.length ≤ 7) (ha : runs d0 r2.2 x) :
    ∀ (k i n : Nat) (d : XDesk), i + k = r2.2.length → k < n → runs d (r2.2.drop i) x → deskOk d = true →
    f_laws_FnDesks_1 r2 t (y : Int) n (i : Int) d.Now d.Starts d.Cleared = some true := by
  intro k
  induction k with
  | zero =>
    intro i n d hi hn hr od
    obtain ⟨m, rfl⟩ : ∃ m, n = m + 1 := ⟨n - 1, by omega⟩
    have : i = r2.2.length := by omega
    subst this
    rw [List.drop_length] at hr
    have : d = x := hr
    subst this
    have hE := runs_ent _ _ _ ha
    have htl : t.length ≤ 1400 := by rw [ht]; exact journal_len hl
    have f1 : f_impl_RebuildDesk r2.1 t = some (d, (r2.2.length : Int)) := rebuild_runs (by omega) h0 (by rw [ht, journal_map]; exact full_good hE) (by omega) ha
    obtain ⟨j, j1, j2⟩ := cut_good r2.2 hE y
    obtain ⟨p, hp⟩ := runs_take j _ _ _ ha
    have op := runs_ok _ _ _ o0 hp
    have jl : (r2.2.take j).length = j := by rw [List.length_take]; omega
    have f2 : f_impl_RebuildDesk r2.1 (t.take y) = some (p, (j : Int)) := by
      have := rebuild_runs (t := t.take y) (by rw [List.length_take]; omega) h0 (by rw [ht, journal_map]; exact j2) (by omega) hp
      rw [jl] at this
      exact this
    have b1 : bnd (t.length : Int) (y : Int) (0 : Int) t.length = some (0, y) := bnd_ok (a := 0) (Nat.zero_le _) hy
    have b2 : bnd (r2.2.length : Int) (j : Int) (0 : Int) r2.2.length = some (0, j) := bnd_ok (a := 0) (Nat.zero_le _) j1
    have e1 : f_impl_SameDesks d ⟨d.Now, d.Starts, d.Cleared⟩ = some true := same_self od
    have e2 : f_impl_DeskOk ⟨d.Now, d.Starts, d.Cleared⟩ = some true := by rw [impl_DeskOk_eq]; exact congrArg some od
    have e3 : ¬ ((j : Int) < 0) := by omega
    have e4 : ¬ ((r2.2.length : Int) < (j : Int)) := by omega
    have hb : j < bigN := lt_bigN (small_max (by omega))
    have H : ∀ N, j < N → f_laws_FnDesks_2 (p, (j : Int)) (r2.2.take j) ((r2.2.take j).length : Int) N ((0 : Nat) : Int) d0.Now d0.Starts d0.Cleared = some true := fun N h =>
      desks_2 (p, (j : Int)) p rfl op (r2.2.take j) (by rw [jl]; omega) j 0 N d0 (by rw [jl]; omega) h (by simpa using hp)
    rw [show ((0 : Nat) : Int) = 0 from rfl] at H
    rw [f_laws_FnDesks_1]
    obtain ⟨N, hN⟩ : ∃ N, bigN = N := ⟨_, rfl⟩
    rw [hN] at hb ⊢
    simp only [Int.lt_irrefl, decide_false, Bool.false_eq_true, if_false, f1, b1, Option.bind_some, List.drop_zero, Nat.sub_zero, f2, bne_self_eq_false, e1, if_true, e3, e4, e2, h0, b2]
    exact H N hb
  | succ k ih =>
    intro i n d hi hn hr od
    obtain ⟨m, rfl⟩ : ∃ m, n = m + 1 := ⟨n - 1, by omega⟩
    have hlt : i < r2.2.length := by omega
    rw [List.drop_eq_getElem_cons hlt] at hr
    obtain ⟨q, g1, g2, g3, g4, g5⟩ := hr
    have g1' : f_impl_ApplyEntry ⟨d.Now, d.Starts, d.Cleared⟩ r2.2[i] = some (q, true) := g1
    have e1 : f_impl_ParseEntry (fmtEntry r2.2[i]) = some (r2.2[i], true) := by
      rw [impl_ParseEntry_eq (by have := fmtEntry_len r2.2[i]; omega), read_fmt g4]
    have e2 : f_impl_DeskOk q = some true := by rw [impl_DeskOk_eq, g2]
    rw [f_laws_FnDesks_1]
    simp only [dec_nn, hlt, decide_true, if_true, ix_at hlt, g1', Option.bind_some, impl_FormatEntry_eq, e1, beq_self_eq_true, Bool.and_self, e2, g3, bne_self_eq_false, Bool.false_eq_true, if_false]
    rw [wrapS hlt (small_max (by omega)), ← g3]
    exact ih (i + 1) m q (by omega) (by omega) g5 g2
theorem law_FnDesks (a : List Int) (ok : DsOk [.sc (.sl (List.map r8 a))]) : f_laws_FnDesks a = some true := by
  unfold f_laws_FnDesks
  by_cases hc : (1048576 : Int) < (a.length : Int)
  · rw [if_pos (by simpa using hc)]
  rw [if_neg (by simpa using hc)]
  have ha : a.length ≤ maxLen := le_max (by omega)
  obtain ⟨n, l, d, x, j1, j2, j3, j4, j5, j6⟩ := journal_runs ha
  obtain ⟨v, w1, w2, w3⟩ := num_ok (k := 60) (by omega) ha
  have hT := journal_len j6
  have hw : IntKind.i64.wrap (((journal l).length : Int) + 1) = ((journal l).length : Int) + 1 := wrap64 (by omega) (by omega)
  have hz : ((((journal l).length : Int) + 1) == 0) = false := by simp; omega
  obtain ⟨y, hy, hy2⟩ : ∃ y : Nat, IntKind.i64.wrap (Int.tmod v (((journal l).length : Int) + 1)) = (y : Int) ∧ y ≤ (journal l).length := by
    have hm := Int.emod_nonneg v (b := ((journal l).length : Int) + 1) (by omega)
    have hm2 := Int.emod_lt_of_pos v (b := ((journal l).length : Int) + 1) (by omega)
    refine ⟨(v % (((journal l).length : Int) + 1)).toNat, ?_, by omega⟩
    rw [Int.tmod_eq_emod_of_nonneg w2, wrap64 (by omega) (by omega)]
    omega
  have w1' : f_spec_MakeNum a (60 : Int) = some v := w1
  have hb : l.length < bigN := lt_bigN (small_max (by omega))
  have H : ∀ N, l.length < N → f_laws_FnDesks_1 (n, l) (journal l) (y : Int) N ((0 : Nat) : Int) d.Now d.Starts d.Cleared = some true := fun N h =>
    desks_1 (n, l) (journal l) y d x j3 j4 rfl hy2 j6 j5 l.length 0 N d (by simp) h (by simpa using j5) j4
  rw [show ((0 : Nat) : Int) = 0 from rfl] at H
  obtain ⟨N, hN⟩ : ∃ N, bigN = N := ⟨_, rfl⟩
  rw [hN] at hb ⊢
  have e3 : f_impl_JournalText l = some (journal l) := impl_JournalText_eq (by omega)
  simp only [j1, e3, w1', Option.bind_some, hw, hz, Bool.false_eq_true, if_false, j3, hy]
  exact H N hb
end Go.Vi
