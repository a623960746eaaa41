/-
  Plain law: AddAccounts. No condition.
-/
import Derived.Test.YtnklncheopbfbaaPb
import Derived.Test.YtnklncheopbfbaaPd
namespace Go.Vi
set_option linter.unusedSimpArgs false
set_option linter.unusedVariables false

theorem clone_eq {xs : List Int} (h : xs.length ≤ 1048576) : f_impl_clone_int xs = some xs := by
  unfold f_impl_clone_int mkS
  have h8 : (xs.length : Int) * ((8 : Nat) : Int) ≤ 140737488355328 := by omega
  rw [if_pos ⟨by omega, by omega, h8, by omega⟩]
  have : appB (List.replicate (Int.toNat 0) (0 : Int)).length xs.length 8 = true := by unfold appB; simp; omega
  simp only [Option.bind_some, this, if_true]
  simp
theorem add_same (a b : XAccount) : ∃ r, f_spec_AddAccounts a b = some r ∧ f_impl_AddAccounts a b = some r ∧ r.1.Waits.length ≤ 4 ∧ r.1.Calls.length ≤ 4 := by
  unfold f_spec_AddAccounts f_impl_AddAccounts
  rw [spec_AccountOk_eq, spec_AccountOk_eq, impl_AccountOk_eq, impl_AccountOk_eq]
  simp only [Option.bind_some]
  cases ha : accOk a with
  | false => exact ⟨_, by simp [f_spec_AddAccounts_1]; rfl, by simp [f_impl_AddAccounts_1], by simp, by simp⟩
  | true =>
    cases hb : accOk b with
    | false => exact ⟨_, by simp [f_spec_AddAccounts_1]; rfl, by simp [f_impl_AddAccounts_1], by simp, by simp⟩
    | true =>
      obtain ⟨w0, w1, w2, w3, c0, c1, c2, c3, rfl, _⟩ := acc_four ha
      obtain ⟨u0, u1, u2, u3, e0, e1, e2, e3, rfl, _⟩ := acc_four hb
      obtain ⟨m, hm⟩ := big5
      cases hs : accOk ⟨[IntKind.i64.wrap (w0 + u0), IntKind.i64.wrap (w1 + u1), IntKind.i64.wrap (w2 + u2), IntKind.i64.wrap (w3 + u3)], [IntKind.i64.wrap (c0 + e0), IntKind.i64.wrap (c1 + e1), IntKind.i64.wrap (c2 + e2), IntKind.i64.wrap (c3 + e3)]⟩ with
      | false =>
        refine ⟨(⟨[], []⟩, false), ?_, ?_, by simp, by simp⟩
        · simp [f_spec_AddAccounts_1, hm, f_spec_AddAccounts_2, ix0, ix1, ix2, ix3, wr1, wr2, wr3, wr4, appB, spec_AccountOk_eq, hs]
        · simp [f_impl_AddAccounts_1, hm, f_impl_AddAccounts_2, clone_eq, ix0, ix1, ix2, ix3, wr1, wr2, wr3, wr4, appB, impl_AccountOk_eq, hs]
      | true =>
        refine ⟨(⟨[IntKind.i64.wrap (w0 + u0), IntKind.i64.wrap (w1 + u1), IntKind.i64.wrap (w2 + u2), IntKind.i64.wrap (w3 + u3)], [IntKind.i64.wrap (c0 + e0), IntKind.i64.wrap (c1 + e1), IntKind.i64.wrap (c2 + e2), IntKind.i64.wrap (c3 + e3)]⟩, true), ?_, ?_, by simp, by simp⟩
        · simp [f_spec_AddAccounts_1, hm, f_spec_AddAccounts_2, ix0, ix1, ix2, ix3, wr1, wr2, wr3, wr4, appB, spec_AccountOk_eq, hs]
        · simp [f_impl_AddAccounts_1, hm, f_impl_AddAccounts_2, clone_eq, ix0, ix1, ix2, ix3, wr1, wr2, wr3, wr4, appB, impl_AccountOk_eq, hs]
theorem markAccount_of (a : XAccount) (k : Int) (h0 : 0 ≤ k) (hk : k ≤ 1000000000) (h1 : a.Waits.length ≤ 1048576) (h2 : a.Calls.length ≤ 1048576) : ∃ q w c, f_laws_markAccount a k = some (q, w, c) ∧ 0 ≤ q ∧ q ≤ k + 2097152 ∧ f_laws_heldAccount ⟨w, c⟩ k = some q := by
  obtain ⟨s, e1, e2, e3⟩ := markIntS_of a.Waits k h0 (by omega) h1
  obtain ⟨c, e4, e5, e6⟩ := markIntS_of a.Calls (k + 1 * (a.Waits.length : Int)) (by omega) (by omega) h2
  refine ⟨k + 1 * (a.Waits.length : Int) + 1 * (a.Calls.length : Int), s, c, ?_, by omega, by omega, ?_⟩
  · simp only [f_laws_markAccount, e1, Option.bind_some, e4]
  · have g1 : ¬ k + 1 * (a.Waits.length : Int) < 0 := by omega
    have g2 : ¬ k + 1 * (a.Waits.length : Int) + 1 * (a.Calls.length : Int) < 0 := by omega
    simp only [f_laws_heldAccount, e3, Option.bind_some, g1, decide_false, Bool.false_eq_true, if_false, e6, g2]
theorem law_FnExactAddAccounts (a b : XAccount) (ok : DsOk [.ag (XAccount.row a), .ag (XAccount.row b)]) : f_laws_FnExactAddAccounts a b = some true := by
  unfold f_laws_FnExactAddAccounts
  obtain ⟨ha, ok2⟩ := ok.ag
  have hb := ok2.ag.1
  have m1 : a.Waits.length ≤ maxLen := len_ok (row := rI) (ha _ (by simp [XAccount.row_eq]))
  have m2 : a.Calls.length ≤ maxLen := len_ok (row := rI) (ha _ (by simp [XAccount.row_eq]))
  have n1 : b.Waits.length ≤ maxLen := len_ok (row := rI) (hb _ (by simp [XAccount.row_eq]))
  have n2 : b.Calls.length ≤ maxLen := len_ok (row := rI) (hb _ (by simp [XAccount.row_eq]))
  obtain ⟨r, e, h⟩ := szAccount_of (l := 1048576) (by omega) (by omega) m1 m2
  by_cases hr : r < 0
  · simp [e, hr]
  · obtain ⟨hr1, k1, k2⟩ := h (by omega)
    obtain ⟨q, e', h'⟩ := szAccount_of (l := r) (by omega) hr1 n1 n2
    by_cases hq : q < 0
    · simp [e, hr, e', hq]
    · obtain ⟨_, k3, k4⟩ := h' (by omega)
      obtain ⟨s, s1, s2, l1, l2⟩ := add_same a b
      obtain ⟨q1, x1, y1, p1, p2, p3, _⟩ := markAccount_of a 1 (by omega) (by omega) k1 k2
      obtain ⟨q2, x2, y2, p4, p5, p6, _⟩ := markAccount_of b q1 (by omega) (by omega) k3 k4
      obtain ⟨q3, x3, y3, p7, p8, p9, p10⟩ := markAccount_of ⟨s.1.Waits, s.1.Calls⟩ 1 (by omega) (by omega) (show s.1.Waits.length ≤ 1048576 by omega) (show s.1.Calls.length ≤ 1048576 by omega)
      have g2 : ¬ q2 < 0 := by omega
      have g3 : ¬ q3 < 0 := by omega
      have i1 : s.1.Waits.length ≤ maxLen := le_max (by omega)
      have i2 : s.1.Calls.length ≤ maxLen := le_max (by omega)
      simp [e, hr, e', hq, toAccount_eq k1 k2, toAccount_eq k3 k4, s1, s2, eqAccount_eq m1 m2, eqAccount_eq n1 n2, eqAccount_eq (a := ⟨s.1.Waits, s.1.Calls⟩) i1 i2, p1, p4, p7, p10, g2, g3]
end Go.Vi
