/-
  Plain law: DeskNew. No condition.
-/
import Derived.Test.YtnklncheopbfbaaPa
import Derived.Test.YtnklncheopbfbaaMa
namespace Go.Vi
set_option linter.unusedSimpArgs false
set_option linter.unusedVariables false

theorem markIntS_of (xs : List Int) (k : Int) (h0 : 0 ≤ k) (hk : k ≤ 10000000000) (hl : xs.length ≤ 1048576) : ∃ ys, f_laws_markIntS xs k = some (k + 1 * (xs.length : Int), ys) ∧ ys.length = xs.length ∧ f_laws_heldIntS ys k = some (k + 1 * (xs.length : Int)) := by
  unfold f_laws_markIntS f_laws_heldIntS
  refine mark_loop (Lm := f_laws_markIntS_1) (Lh := f_laws_heldIntS_1) xs 1 (fun k => k) k h0 (by omega) hl hk (fun n i k acc hi ha k0 k1 => ?_) (fun n k acc => by simp [f_laws_markIntS_1]) (fun n i k ys hi hy k0 k1 he => ?_) (fun n k ys => by simp [f_laws_heldIntS_1])
  · simp only [f_laws_markIntS_1, dec_nn, hi, decide_true, if_true, ix_at hi, Option.bind_some, wrapS hi (le_max ha), wrapk k0 (show k ≤ 1000000000000 by omega), Int.toNat_natCast]
    rfl
  · simp only [f_laws_heldIntS_1, dec_nn, hi, decide_true, if_true, ix_at hi, Option.bind_some, wrapS hi (le_max hy), wrapk k0 (show k ≤ 1000000000000 by omega), he, bne_self_eq_false, Bool.false_eq_true, if_false]
    rfl
theorem markBoolS_of (xs : List Bool) (k : Int) (h0 : 0 ≤ k) (hk : k ≤ 10000000000) (hl : xs.length ≤ 1048576) : ∃ ys, f_laws_markBoolS xs k = some (k + 1 * (xs.length : Int), ys) ∧ ys.length = xs.length ∧ f_laws_heldBoolS ys k = some (k + 1 * (xs.length : Int)) := by
  unfold f_laws_markBoolS f_laws_heldBoolS
  refine mark_loop (Lm := f_laws_markBoolS_1) (Lh := f_laws_heldBoolS_1) xs 1 (fun k => IntKind.i64.wrap (Int.tmod k 3) == 0) k h0 (by omega) hl hk (fun n i k acc hi ha k0 k1 => ?_) (fun n k acc => by simp [f_laws_markBoolS_1]) (fun n i k ys hi hy k0 k1 he => ?_) (fun n k ys => by simp [f_laws_heldBoolS_1])
  · simp only [f_laws_markBoolS_1, dec_nn, hi, decide_true, if_true, ix_at hi, Option.bind_some, wrapS hi (le_max ha), wrapk k0 (show k ≤ 1000000000000 by omega), Int.toNat_natCast]
    rfl
  · simp only [f_laws_heldBoolS_1, dec_nn, hi, decide_true, if_true, ix_at hi, Option.bind_some, wrapS hi (le_max hy), wrapk k0 (show k ≤ 1000000000000 by omega), he, beq_self_eq_true]
    rfl
theorem markDesk_of (d : XDesk) (k : Int) (h0 : 0 ≤ k) (hk : k ≤ 1000000000) (h1 : d.Starts.length ≤ 1048576) (h2 : d.Cleared.length ≤ 1048576) : ∃ q s c, f_laws_markDesk d k = some (q, s, c) ∧ 0 ≤ q ∧ q ≤ k + 10000000 ∧ ∀ n, f_laws_heldDesk ⟨n, s, c⟩ k = some q := by
  obtain ⟨s, e1, e2, e3⟩ := markIntS_of d.Starts k h0 (by omega) h1
  obtain ⟨c, e4, e5, e6⟩ := markBoolS_of d.Cleared (k + 1 * (d.Starts.length : Int)) (by omega) (by omega) h2
  refine ⟨k + 1 * (d.Starts.length : Int) + 1 * (d.Cleared.length : Int), s, c, ?_, by omega, by omega, fun n => ?_⟩
  · simp only [f_laws_markDesk, e1, Option.bind_some, e4]
  · have g1 : ¬ k + 1 * (d.Starts.length : Int) < 0 := by omega
    have g2 : ¬ k + 1 * (d.Starts.length : Int) + 1 * (d.Cleared.length : Int) < 0 := by omega
    simp only [f_laws_heldDesk, e3, Option.bind_some, g1, decide_false, Bool.false_eq_true, if_false, e6, g2]
theorem DeskNew_same (a : Int) : ∃ d, f_spec_DeskNew a = some d ∧ f_impl_DeskNew a = some d ∧ d.Starts.length ≤ 6 ∧ d.Cleared.length ≤ 6 := by
  unfold f_spec_DeskNew f_impl_DeskNew
  rw [l01In_eq, within_eq]
  simp only [Option.bind_some]
  by_cases h : (decide (0 ≤ a) && decide (a ≤ 6)) = true
  · have h' := h
    simp only [Bool.and_eq_true, decide_eq_true_eq] at h'
    obtain ⟨m, rfl⟩ : ∃ m : Nat, a = (m : Int) := ⟨a.toNat, by omega⟩
    have key : ∀ (k i n : Nat) (v : List Int) (b : List Bool), i + k = m → k < n → v.length = i → b.length = i → ∃ d, f_spec_DeskNew_1 m n (i : Int) v b = some d ∧ f_impl_DeskNew_1 m n (i : Int) v b = some d ∧ d.Starts.length ≤ 6 ∧ d.Cleared.length ≤ 6 := by
      intro k
      induction k with
      | zero =>
        intro i n v b hi hn hv hb
        obtain ⟨q, rfl⟩ : ∃ q, n = q + 1 := ⟨n - 1, by omega⟩
        have : i = m := by omega
        subst this
        exact ⟨⟨0, v, b⟩, by simp [f_spec_DeskNew_1], by simp [f_impl_DeskNew_1], by simp; omega, by simp; omega⟩
      | succ k ih =>
        intro i n v b hi hn hv hb
        obtain ⟨q, rfl⟩ : ∃ q, n = q + 1 := ⟨n - 1, by omega⟩
        have hlt : i < m := by omega
        have a1 : appB v.length ([(-1 : Int)] : List Int).length 8 = true := by unfold appB; simp; omega
        have a2 : appB b.length ([false] : List Bool).length 1 = true := by unfold appB; simp; omega
        obtain ⟨d, e1, e2, e3⟩ := ih (i + 1) q (v ++ [-1]) (b ++ [false]) (by omega) (by omega) (by simp [hv]) (by simp [hb])
        rw [← wrapS hlt (by rw [maxLen_val]; omega)] at e1 e2
        refine ⟨d, ?_, ?_, e3⟩
        · simp only [f_spec_DeskNew_1, dec_nn, hlt, decide_true, if_true, a1, a2]
          exact e1
        · simp only [f_impl_DeskNew_1, dec_nn, hlt, decide_true, if_true, a1, a2]
          exact e2
    simp only [h, if_true]
    exact key m 0 bigN [] [] (by omega) (lt_bigN (by rw [maxLen_val]; omega)) rfl rfl
  · exact ⟨⟨0, [], []⟩, by simp [h], by simp [h], by simp, by simp⟩
theorem law_FnExactDeskNew (a : Int) (ok : DsOk [.sc (.int .i64 a)]) : f_laws_FnExactDeskNew a = some true := by
  obtain ⟨d, e1, e2, l1, l2⟩ := DeskNew_same a
  obtain ⟨q, s, c, m1, m2, _, m3⟩ := markDesk_of d 1 (by omega) (by omega) (by omega) (by omega)
  have hq : ¬ q < 0 := by omega
  unfold f_laws_FnExactDeskNew
  simp [e1, e2, eqDesk_eq (a := d) (b := d) (le_max (by omega)) (le_max (by omega)), m1, m3, hq]
end Go.Vi
