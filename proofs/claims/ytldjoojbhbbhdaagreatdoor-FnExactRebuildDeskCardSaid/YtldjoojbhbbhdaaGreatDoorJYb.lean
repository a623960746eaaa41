/-
  Plain law: RebuildDesk. No condition.
-/
import Derived.Test.YtldjoojbhbbhdaaGreatDoorJYa
namespace Go.Vi
open Go.Lib
set_option linter.unusedSimpArgs false
set_option linter.unusedVariables false

theorem mkS_len {n bytes : Nat} (h : n ≤ 1048576) (hb : bytes ≤ 1000) : mkS (n : Int) (n : Int) bytes = some n := by
  unfold mkS
  have : (n : Int) * (bytes : Int) ≤ 140737488355328 := by
    have : n * bytes ≤ 1048576 * 1000 := Nat.mul_le_mul h hb
    have e : ((n * bytes : Nat) : Int) = (n : Int) * (bytes : Int) := by simp
    omega
  rw [if_pos ⟨by omega, by omega, this, by omega⟩]
  simp
theorem eqIntS_eq {xs ys : List Int} (h : xs.length ≤ maxLen) : f_laws_eqIntS xs ys = some (decide (xs = ys)) := by
  unfold f_laws_eqIntS
  by_cases hl : xs.length = ys.length
  · have := eq_loop (L := f_laws_eqIntS_1 xs ys) xs ys h hl (fun n i h1 h2 => by simp [f_laws_eqIntS_1, ix_nn, h1, h2]) (fun n => by simp [f_laws_eqIntS_1])
    simp [hl, this]
  · have : ¬ (xs.length : Int) = ys.length := by omega
    have : xs ≠ ys := fun e => hl (by rw [e])
    simp_all
theorem eqBoolS_eq {xs ys : List Bool} (h : xs.length ≤ maxLen) : f_laws_eqBoolS xs ys = some (decide (xs = ys)) := by
  unfold f_laws_eqBoolS
  by_cases hl : xs.length = ys.length
  · have := eq_loop (L := f_laws_eqBoolS_1 xs ys) xs ys h hl (fun n i h1 h2 => by simp [f_laws_eqBoolS_1, ix_nn, h1, h2]) (fun n => by simp [f_laws_eqBoolS_1])
    simp [hl, this]
  · have : ¬ (xs.length : Int) = ys.length := by omega
    have : xs ≠ ys := fun e => hl (by rw [e])
    simp_all
theorem eqDesk_eq {a b : XDesk} (hw : a.Starts.length ≤ maxLen) (hc : a.Cleared.length ≤ maxLen) : f_laws_eqDesk a b = some (decide (a = b)) := by
  cases a; cases b
  simp only [f_laws_eqDesk, eqIntS_eq hw, eqBoolS_eq hc, Option.bind_some, XDesk.mk.injEq, decide_eq_true_eq, Bool.decide_and]
  split
  · simp_all
  · split
    · split <;> simp_all
    · simp_all
def deskOkAt (a : XDesk) (i : Nat) : Bool := match a.Starts[i]?, a.Cleared[i]? with
  | some x, some c => (decide (-1 ≤ x) && decide (x ≤ 2880)) && !(c && decide (x < 0))
  | _, _ => false
def deskOk (a : XDesk) : Bool := (decide (0 ≤ a.Now) && decide (a.Now ≤ 2880)) && (decide (a.Starts.length ≤ 6) && (decide (a.Cleared.length = a.Starts.length) && (List.range a.Starts.length).all (deskOkAt a)))
theorem spec_DeskOk_eq (a : XDesk) : f_spec_DeskOk a = some (deskOk a) := by
  simp only [f_spec_DeskOk, l01In_eq, Option.bind_some, deskOk]
  cases (decide (0 ≤ a.Now) && decide (a.Now ≤ 2880)) with
  | false => simp
  | true =>
    by_cases h1 : a.Starts.length ≤ 6
    · have h1' : ¬ (6 : Int) < a.Starts.length := by omega
      by_cases h2 : a.Cleared.length = a.Starts.length
      · have := all_loopI (L := f_spec_DeskOk_1 a) a.Starts.length (deskOkAt a) (by rw [maxLen_val]; omega) (fun n i hi => by
          have e2 : i < a.Cleared.length := by omega
          simp only [f_spec_DeskOk_1, ix_at hi, ix_at e2, l01In_eq, Option.bind_some, deskOkAt, List.getElem?_eq_getElem hi, List.getElem?_eq_getElem e2, dec_nn, hi, decide_true, if_true]
          cases (decide (-1 ≤ a.Starts[i]) && decide (a.Starts[i] ≤ 2880)) <;> cases a.Cleared[i] <;> cases hd : decide (a.Starts[i] < 0) <;> simp) (fun n => by simp [f_spec_DeskOk_1])
        simp [h1, h1', h2, this]
      · have : ¬ (a.Cleared.length : Int) = a.Starts.length := by omega
        simp [h1, h1', h2, this]
    · have h1' : (6 : Int) < a.Starts.length := by omega
      simp [h1, h1']
theorem impl_DeskOk_eq (a : XDesk) : f_impl_DeskOk a = some (deskOk a) := by
  simp only [f_impl_DeskOk, isMinute_eq, Option.bind_some, deskOk]
  cases (decide (0 ≤ a.Now) && decide (a.Now ≤ 2880)) with
  | false => simp
  | true =>
    by_cases h1 : a.Starts.length ≤ 6
    · have h1' : ¬ (6 : Int) < a.Starts.length := by omega
      by_cases h2 : a.Cleared.length = a.Starts.length
      · have := all_loopI (L := f_impl_DeskOk_1 a) a.Starts.length (deskOkAt a) (by rw [maxLen_val]; omega) (fun n i hi => by
          have e2 : i < a.Cleared.length := by omega
          simp only [f_impl_DeskOk_1, ix_at hi, ix_at e2, within_eq, Option.bind_some, deskOkAt, List.getElem?_eq_getElem hi, List.getElem?_eq_getElem e2, dec_nn, hi, decide_true, if_true]
          cases (decide (-1 ≤ a.Starts[i]) && decide (a.Starts[i] ≤ 2880)) <;> cases a.Cleared[i] <;> cases hd : decide (a.Starts[i] < 0) <;> simp) (fun n => by simp [f_impl_DeskOk_1])
        simp [h1, h1', h2, this]
      · have : ¬ (a.Cleared.length : Int) = a.Starts.length := by omega
        simp [h1, h1', h2, this]
    · have h1' : (6 : Int) < a.Starts.length := by omega
      simp [h1, h1']
theorem markIntS_of (xs : List Int) (k : Int) (h0 : 0 ≤ k) (hk : k ≤ 10000000000) (hl : xs.length ≤ 1048576) : ∃ ys, f_laws_markIntS xs k = some (k + 1 * (xs.length : Int), ys) ∧ ys.length = xs.length ∧ f_laws_heldIntS ys k = some (k + 1 * (xs.length : Int)) := by
  unfold f_laws_markIntS f_laws_heldIntS
  refine mark_loop (Lm := f_laws_markIntS_1) (Lh := f_laws_heldIntS_1) xs 1 (fun k => k) k h0 (by omega) hl hk (fun n i k acc hi ha k0 k1 => ?_) (fun n k acc => by simp [f_laws_markIntS_1]) (fun n i k ys hi hy k0 k1 he => ?_) (fun n k ys => by simp [f_laws_heldIntS_1])
  · simp only [f_laws_markIntS_1, dec_nn, hi, decide_true, if_true, ix_at hi, Option.bind_some, wrapS hi (le_max ha), wrapk k0 (show k ≤ 1000000000000 by omega), Int.toNat_natCast]
    rfl
  · simp only [f_laws_heldIntS_1, dec_nn, hi, decide_true, if_true, ix_at hi, Option.bind_some, wrapS hi (le_max hy), wrapk k0 (show k ≤ 1000000000000 by omega), he, bne_self_eq_false, Bool.false_eq_true, if_false]
    rfl
theorem markBoolS_of (xs : List Bool) (k : Int) (h0 : 0 ≤ k) (hk : k ≤ 10000000000) (hl : xs.length ≤ 1048576) : ∃ ys, f_laws_markBoolS xs k = some (k + 1 * (xs.length : Int), ys) ∧ ys.length = xs.length ∧ f_laws_heldBoolS ys k = some (k + 1 * (xs.length : Int)) := by
  unfold f_laws_markBoolS f_laws_heldBoolS
  refine mark_loop (Lm := f_laws_markBoolS_1) (Lh := f_laws_heldBoolS_1) xs 1 (fun k => IntKind.i64.wrap (Int.tmod k 3) == 0) k h0 (by omega) hl hk (fun n i k acc hi ha k0 k1 => ?_) (fun n k acc => by simp [f_laws_markBoolS_1]) (fun n i k ys hi hy k0 k1 he => ?_) (fun n k ys => by simp [f_laws_heldBoolS_1])
  · simp only [f_laws_markBoolS_1, dec_nn, hi, decide_true, if_true, ix_at hi, Option.bind_some, wrapS hi (le_max ha), wrapk k0 (show k ≤ 1000000000000 by omega), Int.toNat_natCast]
    rfl
  · simp only [f_laws_heldBoolS_1, dec_nn, hi, decide_true, if_true, ix_at hi, Option.bind_some, wrapS hi (le_max hy), wrapk k0 (show k ≤ 1000000000000 by omega), he, beq_self_eq_true]
    rfl
theorem markDesk_of (d : XDesk) (k : Int) (h0 : 0 ≤ k) (hk : k ≤ 1000000000) (h1 : d.Starts.length ≤ 1048576) (h2 : d.Cleared.length ≤ 1048576) : ∃ q s c, f_laws_markDesk d k = some (q, s, c) ∧ 0 ≤ q ∧ q ≤ k + 10000000 ∧ ∀ n, f_laws_heldDesk ⟨n, s, c⟩ k = some q := by
  obtain ⟨s, e1, e2, e3⟩ := markIntS_of d.Starts k h0 (by omega) h1
  obtain ⟨c, e4, e5, e6⟩ := markBoolS_of d.Cleared (k + 1 * (d.Starts.length : Int)) (by omega) (by omega) h2
  refine ⟨k + 1 * (d.Starts.length : Int) + 1 * (d.Cleared.length : Int), s, c, ?_, by omega, by omega, fun n => ?_⟩
  · simp only [f_laws_markDesk, e1, Option.bind_some, e4]
  · have g1 : ¬ k + 1 * (d.Starts.length : Int) < 0 := by omega
    have g2 : ¬ k + 1 * (d.Starts.length : Int) + 1 * (d.Cleared.length : Int) < 0 := by omega
    simp only [f_laws_heldDesk, e3, Option.bind_some, g1, decide_false, Bool.false_eq_true, if_false, e6, g2]
theorem clone_eq {xs : List Int} (h : xs.length ≤ 1048576) : f_impl_clone_int xs = some xs := by
  unfold f_impl_clone_int mkS
  have h8 : (xs.length : Int) * ((8 : Nat) : Int) ≤ 140737488355328 := by omega
  rw [if_pos ⟨by omega, by omega, h8, by omega⟩]
  have : appB (List.replicate (Int.toNat 0) (0 : Int)).length xs.length 8 = true := by unfold appB; simp; omega
  simp only [Option.bind_some, this, if_true]
  simp
theorem cloneB_eq {xs : List Bool} (h : xs.length ≤ 1048576) : f_impl_clone_bool xs = some xs := by
  unfold f_impl_clone_bool mkS
  have h8 : (xs.length : Int) * ((1 : Nat) : Int) ≤ 140737488355328 := by omega
  rw [if_pos ⟨by omega, by omega, h8, by omega⟩]
  have : appB (List.replicate (Int.toNat 0) false).length xs.length 1 = true := by unfold appB; simp; omega
  simp only [Option.bind_some, this, if_true]
  simp
theorem copyDesk_eq {a : XDesk} (h1 : a.Starts.length ≤ 1048576) (h2 : a.Cleared.length ≤ 1048576) : f_impl_copyDesk a = some a := by
  simp only [f_impl_copyDesk, clone_eq h1, cloneB_eq h2, Option.bind_some]
theorem l23Copy_eq {a : XDesk} (h1 : a.Starts.length ≤ 1048576) (h2 : a.Cleared.length ≤ 1048576) : f_spec_l23Copy a = some a := by
  have e1 : appB 0 a.Starts.length 8 = true := by unfold appB; simp; omega
  have e2 : appB 0 a.Cleared.length 1 = true := by unfold appB; simp; omega
  simp only [f_spec_l23Copy, e1, e2, if_true]
theorem isIndex_eq (i n : Int) : f_impl_isIndex i n = some (decide (0 ≤ i) && decide (i < n)) := by
  unfold f_impl_isIndex
  by_cases h : 0 ≤ i <;> simp [h]
theorem allowed_same (a : XDesk) (e : XEntry) (h : deskOk a = true) : ∃ v, f_spec_l23Allowed a e = some v ∧ f_impl_applicable a e = some v ∧ (v = true → e.Kind ≠ 4 → (0 ≤ e.Call ∧ e.Call < (a.Starts.length : Int))) := by
  simp only [deskOk, Bool.and_eq_true, decide_eq_true_eq] at h
  obtain ⟨⟨hn, _⟩, hl, hc, _⟩ := h
  have hw : IntKind.i64.wrap ((a.Starts.length : Int) - 1) = (a.Starts.length : Int) - 1 := wrap64 (by omega) (by omega)
  simp only [f_spec_l23Allowed, f_impl_applicable, l01In_eq, within_eq, isIndex_eq, Option.bind_some, hw]
  by_cases hA : a.Now ≤ e.At ∧ e.At ≤ 2880
  rotate_left
  · refine ⟨false, ?_, ?_, by simp⟩
    · by_cases h1 : a.Now ≤ e.At <;> by_cases h2 : e.At ≤ 2880 <;> simp [h1, h2] <;> exact (hA ⟨h1, h2⟩).elim
    · by_cases h1 : a.Now ≤ e.At <;> by_cases h2 : e.At ≤ 2880 <;> simp [h1, h2] <;> exact (hA ⟨h1, h2⟩).elim
  obtain ⟨hA1, hA2⟩ := hA
  simp only [hA1, hA2, decide_true, Bool.and_self, if_true]
  by_cases h4 : e.Kind = 4
  · simp only [h4]
    by_cases c0 : e.Call = 0 <;> by_cases v0 : e.Value = 0 <;> exact ⟨_, by simp [c0, v0]; rfl, by simp [c0, v0], by simp⟩
  have h4' : (e.Kind == 4) = false := by simpa using h4
  by_cases hi : 0 ≤ e.Call ∧ e.Call < (a.Starts.length : Int)
  rotate_left
  · refine ⟨false, ?_, ?_, by simp⟩
    · have : (decide (0 ≤ e.Call) && decide (e.Call ≤ (a.Starts.length : Int) - 1)) = false := by
        by_cases h1 : 0 ≤ e.Call <;> by_cases h2 : e.Call ≤ (a.Starts.length : Int) - 1 <;> simp [h1, h2] <;> exact (hi ⟨h1, by omega⟩).elim
      simp only [this, h4', Bool.false_eq_true, if_false]
      cases (decide (1 ≤ e.Kind) && decide (e.Kind ≤ 4)) <;> simp
    · have : (decide (0 ≤ e.Call) && decide (e.Call < (a.Starts.length : Int))) = false := by
        by_cases h1 : 0 ≤ e.Call <;> by_cases h2 : e.Call < (a.Starts.length : Int) <;> simp [h1, h2] <;> exact (hi ⟨h1, h2⟩).elim
      simp only [this, h4', Bool.false_eq_true, if_false]
  obtain ⟨i, hie⟩ : ∃ i : Nat, e.Call = (i : Int) := ⟨e.Call.toNat, by omega⟩
  rw [hie] at hi ⊢
  have i1 : i < a.Starts.length := by omega
  have i2 : i < a.Cleared.length := by omega
  have g1 : (decide ((0 : Int) ≤ (i : Int)) && decide ((i : Int) ≤ (a.Starts.length : Int) - 1)) = true := by simp; omega
  have g2 : (decide ((0 : Int) ≤ (i : Int)) && decide ((i : Int) < (a.Starts.length : Int))) = true := by simp; omega
  simp only [g1, g2, h4', Bool.false_eq_true, if_false, if_true, ix_at i1, ix_at i2, Option.bind_some]
  generalize a.Starts[i] = s
  generalize a.Cleared[i] = c
  cases c with
  | true =>
    refine ⟨false, ?_, by simp, by simp⟩
    cases (decide (1 ≤ e.Kind) && decide (e.Kind ≤ 4)) <;> simp
  | false =>
    simp only [Bool.false_eq_true, if_false]
    by_cases k1 : e.Kind = 1
    · simp only [k1]
      exact ⟨_, by simp; rfl, by simp, fun _ _ => hi⟩
    by_cases k2 : e.Kind = 2
    · simp only [k2]
      by_cases v0 : e.Value = 0
      · by_cases s1 : e.At ≤ s
        · have s0 : 0 ≤ s := by omega
          exact ⟨true, by simp [v0, s1, s0], by simp [v0, s1], fun _ _ => hi⟩
        · refine ⟨false, ?_, by simp [v0, s1], by simp⟩
          by_cases s0 : 0 ≤ s <;> simp [v0, s1, s0]
      · exact ⟨false, by simp [v0], by simp [v0], by simp⟩
    by_cases k3 : e.Kind = 3
    · simp only [k3]
      by_cases v0 : e.Value = 0 <;> by_cases s0 : 0 ≤ s <;> exact ⟨_, by simp [v0, s0]; rfl, by simp [v0, s0], fun _ _ => hi⟩
    · have : (decide (1 ≤ e.Kind) && decide (e.Kind ≤ 4)) = false := by
        by_cases q1 : 1 ≤ e.Kind <;> by_cases q2 : e.Kind ≤ 4 <;> simp [q1, q2] <;> omega
      have k1' : (e.Kind == 1) = false := by simpa using k1
      have k2' : (e.Kind == 2) = false := by simpa using k2
      have k3' : (e.Kind == 3) = false := by simpa using k3
      exact ⟨false, by simp [this], by simp [k1', k2', k3'], by simp⟩
theorem apply_same (a : XDesk) (e : XEntry) (h1 : a.Starts.length ≤ 1048576) (h2 : a.Cleared.length ≤ 1048576) : ∃ r, f_spec_ApplyEntry a e = some r ∧ f_impl_ApplyEntry a e = some r ∧ r.1.Starts.length = a.Starts.length ∧ r.1.Cleared.length = a.Cleared.length := by
  unfold f_spec_ApplyEntry f_impl_ApplyEntry
  rw [l23Copy_eq h1 h2, copyDesk_eq h1 h2, spec_DeskOk_eq, impl_DeskOk_eq]
  simp only [Option.bind_some]
  cases hd : deskOk a with
  | false => exact ⟨_, by simp [f_spec_ApplyEntry_1]; rfl, by simp [f_impl_ApplyEntry_1], rfl, rfl⟩
  | true =>
    obtain ⟨v, e1, e2, e3⟩ := allowed_same a e hd
    simp only [if_true, e1, e2, Option.bind_some]
    cases v with
    | false => exact ⟨_, by simp [f_spec_ApplyEntry_1]; rfl, by simp [f_impl_ApplyEntry_1], rfl, rfl⟩
    | true =>
      simp only [deskOk, Bool.and_eq_true, decide_eq_true_eq] at hd
      have hc := hd.2.2.1
      by_cases k1 : e.Kind = 1
      · obtain ⟨c0, c1⟩ := e3 rfl (by omega)
        obtain ⟨i, hie⟩ : ∃ i : Nat, e.Call = (i : Int) := ⟨e.Call.toNat, by omega⟩
        have i1 : i < a.Starts.length := by omega
        exact ⟨_, by simp [f_spec_ApplyEntry_1, f_spec_ApplyEntry_2, k1, hie, ix_at i1]; rfl, by simp [f_impl_ApplyEntry_1, f_impl_ApplyEntry_2, k1, hie, ix_at i1], by simp, rfl⟩
      by_cases k2 : e.Kind = 2
      · obtain ⟨c0, c1⟩ := e3 rfl (by omega)
        obtain ⟨i, hie⟩ : ∃ i : Nat, e.Call = (i : Int) := ⟨e.Call.toNat, by omega⟩
        have i2 : i < a.Cleared.length := by omega
        exact ⟨_, by simp [f_spec_ApplyEntry_1, f_spec_ApplyEntry_2, k2, hie, ix_at i2]; rfl, by simp [f_impl_ApplyEntry_1, f_impl_ApplyEntry_2, k2, hie, ix_at i2], rfl, by simp⟩
      by_cases k3 : e.Kind = 3
      · obtain ⟨c0, c1⟩ := e3 rfl (by omega)
        obtain ⟨i, hie⟩ : ∃ i : Nat, e.Call = (i : Int) := ⟨e.Call.toNat, by omega⟩
        have i1 : i < a.Starts.length := by omega
        exact ⟨_, by simp [f_spec_ApplyEntry_1, f_spec_ApplyEntry_2, k3, hie, ix_at i1]; rfl, by simp [f_impl_ApplyEntry_1, f_impl_ApplyEntry_2, k3, hie, ix_at i1], by simp, rfl⟩
      · exact ⟨_, by simp [f_spec_ApplyEntry_1, f_spec_ApplyEntry_2, k1, k2, k3]; rfl, by simp [f_impl_ApplyEntry_1, f_impl_ApplyEntry_2, k1, k2, k3], rfl, rfl⟩
theorem DeskNew_same (a : Int) : ∃ d, f_spec_DeskNew a = some d ∧ f_impl_DeskNew a = some d ∧ d.Starts.length ≤ 6 ∧ d.Cleared.length ≤ 6 := by
  unfold f_spec_DeskNew f_impl_DeskNew
  rw [l01In_eq, within_eq]
  simp only [Option.bind_some]
  by_cases h : (decide (0 ≤ a) && decide (a ≤ 6)) = true
  · have h' := h
    simp only [Bool.and_eq_true, decide_eq_true_eq] at h'
    obtain ⟨m, rfl⟩ : ∃ m : Nat, a = (m : Int) := ⟨a.toNat, by omega⟩
    have key : ∀ (k i n : Nat) (v : List Int) (b : List Bool), i + k = m → k < n → v.length = i → b.length = i → ∃ d, f_spec_DeskNew_1 m n (i : Int) v b = some d ∧ f_impl_DeskNew_1 m n (i : Int) v b = some d ∧ d.Starts.length ≤ 6 ∧ d.Cleared.length ≤ 6 := by
      intro k
      induction k with
      | zero =>
        intro i n v b hi hn hv hb
        obtain ⟨q, rfl⟩ : ∃ q, n = q + 1 := ⟨n - 1, by omega⟩
        have : i = m := by omega
        subst this
        exact ⟨⟨0, v, b⟩, by simp [f_spec_DeskNew_1], by simp [f_impl_DeskNew_1], by simp; omega, by simp; omega⟩
      | succ k ih =>
        intro i n v b hi hn hv hb
        obtain ⟨q, rfl⟩ : ∃ q, n = q + 1 := ⟨n - 1, by omega⟩
        have hlt : i < m := by omega
        have a1 : appB v.length ([(-1 : Int)] : List Int).length 8 = true := by unfold appB; simp; omega
        have a2 : appB b.length ([false] : List Bool).length 1 = true := by unfold appB; simp; omega
        obtain ⟨d, e1, e2, e3⟩ := ih (i + 1) q (v ++ [-1]) (b ++ [false]) (by omega) (by omega) (by simp [hv]) (by simp [hb])
        rw [← wrapS hlt (by rw [maxLen_val]; omega)] at e1 e2
        refine ⟨d, ?_, ?_, e3⟩
        · simp only [f_spec_DeskNew_1, dec_nn, hlt, decide_true, if_true, a1, a2]
          exact e1
        · simp only [f_impl_DeskNew_1, dec_nn, hlt, decide_true, if_true, a1, a2]
          exact e2
    simp only [h, if_true]
    exact key m 0 bigN [] [] (by omega) (lt_bigN (by rw [maxLen_val]; omega)) rfl rfl
  · exact ⟨⟨0, [], []⟩, by simp [h], by simp [h], by simp, by simp⟩
theorem rebuild_same (a : Int) {s : List UInt8} (hl : s.length ≤ 1048576) : ∃ r, f_spec_RebuildDesk a s = some r ∧ f_impl_RebuildDesk a s = some r ∧ r.1.Starts.length ≤ 6 ∧ r.1.Cleared.length ≤ 6 := by
  obtain ⟨d, e1, e2, l1, l2⟩ := DeskNew_same a
  unfold f_spec_RebuildDesk f_impl_RebuildDesk
  rw [e1, e2, spec_ReadJournal_eq hl, impl_ReadJournal_eq hl]
  simp only [Option.bind_some]
  have hE : ((goodPre (lines s)).take 60).length ≤ 60 := by rw [List.length_take]; omega
  generalize (goodPre (lines s)).take 60 = E at hE
  have key : ∀ (k i n : Nat) (t : Int) (u : List Int) (v : List Bool), i + k = E.length → k < n → u.length ≤ 6 → v.length ≤ 6 →
      ∃ r, f_spec_RebuildDesk_1 (E, (E.length : Int)) n (i : Int) t u v = some r ∧ f_impl_RebuildDesk_1 (E, (E.length : Int)) n (i : Int) t u v = some r ∧ r.1.Starts.length ≤ 6 ∧ r.1.Cleared.length ≤ 6 := by
    intro k
    induction k with
    | zero =>
      intro i n t u v hi hn hu hv
      obtain ⟨m, rfl⟩ : ∃ m, n = m + 1 := ⟨n - 1, by omega⟩
      have : i = E.length := by omega
      subst this
      exact ⟨(⟨t, u, v⟩, (E.length : Int)), by simp [f_spec_RebuildDesk_1], by simp [f_impl_RebuildDesk_1], hu, hv⟩
    | succ k ih =>
      intro i n t u v hi hn hu hv
      obtain ⟨m, rfl⟩ : ∃ m, n = m + 1 := ⟨n - 1, by omega⟩
      have hlt : i < E.length := by omega
      obtain ⟨r, a1, a2, a3, a4⟩ := apply_same ⟨t, u, v⟩ E[i] (by simp only; omega) (by simp only; omega)
      simp only at a3 a4
      simp only [f_spec_RebuildDesk_1, f_impl_RebuildDesk_1, dec_nn, hlt, decide_true, if_true, ix_at hlt, Option.bind_some, a1, a2]
      by_cases hr : r.2 = true
      · simp only [hr, if_true]
        rw [wrapS hlt (le_big (by omega))]
        exact ih (i + 1) m r.1.Now r.1.Starts r.1.Cleared (by omega) (by omega) (by omega) (by omega)
      · simp only [hr, if_false]
        exact ⟨_, rfl, rfl, hu, hv⟩
  have := key E.length 0 bigN d.Now d.Starts d.Cleared (by omega) (lt_bigN (le_big (by omega))) l1 l2
  simpa using this
theorem law_FnExactRebuildDesk (a : Int) (s : List UInt8) (ok : DsOk [.sc (.int .i64 a), .sc (.str s)]) : f_laws_FnExactRebuildDesk a s = some true := by
  unfold f_laws_FnExactRebuildDesk
  by_cases h : (1048576 : Int) < (s.length : Int)
  · simp [h]
  · have hl : s.length ≤ 1048576 := by omega
    obtain ⟨r, e1, e2, l1, l2⟩ := rebuild_same a hl
    obtain ⟨q, u, v, m1, m2, _, m3⟩ := markDesk_of r.1 1 (by omega) (by omega) (by omega) (by omega)
    have hq : ¬ q < 0 := by omega
    have he : f_laws_eqDesk ⟨r.1.Now, r.1.Starts, r.1.Cleared⟩ ⟨r.1.Now, r.1.Starts, r.1.Cleared⟩ = some true := by
      have := eqDesk_eq (a := r.1) (b := r.1) (le_max (by omega)) (le_max (by omega))
      simpa using this
    have m1' : f_laws_markDesk ⟨r.1.Now, r.1.Starts, r.1.Cleared⟩ 1 = some (q, u, v) := m1
    simp only [h, decide_false, Bool.false_eq_true, if_false, e1, e2, Option.bind_some, he, if_true, m1', m3, hq, bne_self_eq_false]
end Go.Vi
