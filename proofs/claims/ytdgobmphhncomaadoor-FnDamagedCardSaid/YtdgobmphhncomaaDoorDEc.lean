/-
  Plain laws: draws (the cursor), desks and entries that are drawn. No condition.
-/
import Derived.Test.YtdgobmphhncomaaDoorDEd
import Derived.KernelRfl
namespace Go.Vi
open Go.Lib
set_option linter.unusedSimpArgs false
set_option linter.unusedVariables false

/-- A cursor in its bounds. -/
structure CurOk (c : Xl01Cur) : Prop where
  i0 : 0 ≤ c.i
  i1 : c.i ≤ (c.b.length : Int)
  len : c.b.length ≤ maxLen
theorem and255 (x : Int) : 0 ≤ bitsV .and .i64 x 255 ∧ bitsV .and .i64 x 255 ≤ 255 := by
  have h : (BitVec.ofInt IntKind.i64.bits x &&& BitVec.ofInt IntKind.i64.bits 255).toNat ≤ 255 := by
    rw [BitVec.toNat_and]
    exact Nat.le_trans Nat.and_le_right (by decide)
  have e : bitsV .and .i64 x 255 = ((BitVec.ofInt IntKind.i64.bits x &&& BitVec.ofInt IntKind.i64.bits 255).toNat : Int) := by
    unfold bitsV
    exact wrap64 (by omega) (by omega)
  rw [e]
  omega
theorem byte_ok {c : Xl01Cur} (h : CurOk c) : ∃ v c', f_spec_l01Byte c = some (v, c') ∧ CurOk c' ∧ 0 ≤ v ∧ v ≤ 255 := by
  unfold f_spec_l01Byte
  have hl := h.len
  rw [maxLen_val] at hl
  by_cases hlt : c.i < (c.b.length : Int)
  · obtain ⟨i, hi⟩ : ∃ i : Nat, c.i = (i : Int) := ⟨c.i.toNat, by have := h.i0; omega⟩
    have h2 : i < c.b.length := by omega
    simp only [hlt, decide_true, if_true]
    rw [hi, ix_at h2]
    simp only [Option.bind_some]
    refine ⟨_, _, rfl, ⟨?_, ?_, h.len⟩, (and255 _).1, (and255 _).2⟩
    · show 0 ≤ IntKind.i64.wrap ((i : Int) + 1)
      rw [wrap64 (by omega) (by omega)]; omega
    · show IntKind.i64.wrap ((i : Int) + 1) ≤ (c.b.length : Int)
      rw [wrap64 (by omega) (by omega)]; omega
  · simp only [hlt, decide_false, Bool.false_eq_true, if_false]
    exact ⟨_, _, rfl, ⟨h.i0, h.i1, h.len⟩, (and255 _).1, (and255 _).2⟩
theorem below_ok {c : Xl01Cur} {n : Int} (h : CurOk c) (hn : n ≤ 1000000) : ∃ v c', f_spec_l01Below c n = some (v, c') ∧ CurOk c' ∧ 0 ≤ v ∧ (0 < n → v < n) ∧ (n ≤ 0 → v = 0) := by
  unfold f_spec_l01Below
  by_cases h0 : n ≤ 0
  · simp only [h0, decide_true, if_true]
    exact ⟨0, c, rfl, h, by omega, fun h => by omega, fun _ => rfl⟩
  simp only [h0, decide_false, Bool.false_eq_true, if_false]
  have hne : (n == 0) = false := by simpa using fun e : n = 0 => h0 (by omega)
  by_cases h1 : n ≤ 256
  · obtain ⟨v, c', e, k1, k2, k3⟩ := byte_ok h
    simp only [h1, decide_true, if_true, e, Option.bind_some, hne, Bool.false_eq_true, if_false]
    have hm := Int.emod_nonneg v (b := n) (by omega)
    have hm2 := Int.emod_lt_of_pos v (b := n) (by omega)
    refine ⟨_, _, rfl, k1, ?_, ?_, fun h => by first | exact h.elim | exact absurd h h0⟩
    · rw [Int.tmod_eq_emod_of_nonneg k2, wrap64 (by omega) (by omega)]; exact hm
    · intro _; rw [Int.tmod_eq_emod_of_nonneg k2, wrap64 (by omega) (by omega)]; exact hm2
  · obtain ⟨v1, c1, e1, a1, a2, a3⟩ := byte_ok h
    obtain ⟨v2, c2, e2, b1, b2, b3⟩ := byte_ok a1
    obtain ⟨v3, c3, e3, d1, d2, d3⟩ := byte_ok b1
    obtain ⟨v4, c4, e4, g1, g2, g3⟩ := byte_ok d1
    simp only [h1, decide_false, Bool.false_eq_true, if_false, e1, e2, e3, e4, Option.bind_some, hne]
    rw [wrap64 (n := v1 * 16777216) (by omega) (by omega), wrap64 (n := v2 * 65536) (by omega) (by omega), wrap64 (n := v3 * 256) (by omega) (by omega), wrap64 (n := v1 * 16777216 + v2 * 65536) (by omega) (by omega),
      wrap64 (n := v1 * 16777216 + v2 * 65536 + v3 * 256) (by omega) (by omega), wrap64 (n := v1 * 16777216 + v2 * 65536 + v3 * 256 + v4) (by omega) (by omega)]
    have k2 : 0 ≤ v1 * 16777216 + v2 * 65536 + v3 * 256 + v4 := by omega
    have hm := Int.emod_nonneg (v1 * 16777216 + v2 * 65536 + v3 * 256 + v4) (b := n) (by omega)
    have hm2 := Int.emod_lt_of_pos (v1 * 16777216 + v2 * 65536 + v3 * 256 + v4) (b := n) (by omega)
    refine ⟨_, _, rfl, g1, ?_, ?_, fun h => by first | exact h.elim | exact absurd h h0⟩
    · rw [Int.tmod_eq_emod_of_nonneg k2, wrap64 (by omega) (by omega)]; exact hm
    · intro _; rw [Int.tmod_eq_emod_of_nonneg k2, wrap64 (by omega) (by omega)]; exact hm2
theorem new_ok {a : List Int} (ha : a.length ≤ maxLen) : ∃ c, f_spec_l01New a = some c ∧ CurOk c := by
  unfold f_spec_l01New
  have key : ∀ (k i n : Nat) (v : Int), i + k = a.length → k < n → ∃ c, f_spec_l01New_1 a n v (i : Int) = some c ∧ CurOk c := by
    intro k
    induction k with
    | zero =>
      intro i n v hi hn
      obtain ⟨m, rfl⟩ : ∃ m, n = m + 1 := ⟨n - 1, by omega⟩
      have : i = a.length := by omega
      subst this
      exact ⟨_, by simp [f_spec_l01New_1, f_spec_l01New_2]; rfl, ⟨by simp, by simp, ha⟩⟩
    | succ k ih =>
      intro i n v hi hn
      obtain ⟨m, rfl⟩ : ∃ m, n = m + 1 := ⟨n - 1, by omega⟩
      have hlt : i < a.length := by omega
      simp only [f_spec_l01New_1, dec_nn, hlt, decide_true, if_true, ix_at hlt, Option.bind_some, wrapS hlt ha]
      by_cases h4 : (i : Int) < 4000
      · simp only [h4, decide_true, if_true]
        exact ih (i + 1) m _ (by omega) (by omega)
      · simp only [h4, decide_false, Bool.false_eq_true, if_false, f_spec_l01New_2]
        exact ⟨_, rfl, ⟨by simp, by simp, ha⟩⟩
  exact key a.length 0 bigN _ (by omega) (lt_bigN ha)
theorem skip_loop {k : Nat} (hk : k ≤ 1000) : ∀ (j i n : Nat) (c : Xl01Cur), i + j = k → j < n → CurOk c → ∃ c', f_spec_l28New_1 (k : Int) n (i : Int) c.b c.i c.h = some c' ∧ CurOk c' := by
  intro j
  induction j with
  | zero =>
    intro i n c hi hn hc
    obtain ⟨m, rfl⟩ : ∃ m, n = m + 1 := ⟨n - 1, by omega⟩
    have : i = k := by omega
    subst this
    refine ⟨c, ?_, hc⟩
    rw [f_spec_l28New_1]
    simp only [Int.lt_irrefl, decide_false, Bool.false_eq_true, if_false]
  | succ j ih =>
    intro i n c hi hn hc
    obtain ⟨m, rfl⟩ : ∃ m, n = m + 1 := ⟨n - 1, by omega⟩
    have hlt : i < k := by omega
    obtain ⟨v, c', e, h1, _, _⟩ := byte_ok hc
    have e' : f_spec_l01Byte ⟨c.b, c.i, c.h⟩ = some (v, c') := e
    rw [f_spec_l28New_1]
    simp only [dec_nn, hlt, decide_true, if_true, e', Option.bind_some]
    rw [wrapS hlt (small_max hk)]
    exact ih (i + 1) m c' (by omega) (by omega) h1
theorem skip_ok {a : List Int} {k : Nat} (hk : k ≤ 1000) (ha : a.length ≤ maxLen) : ∃ c, f_spec_l28New a (k : Int) = some c ∧ CurOk c := by
  unfold f_spec_l28New
  obtain ⟨c, e, hc⟩ := new_ok ha
  have H := skip_loop hk k 0 bigN c (by omega) (lt_bigN (small_max hk)) hc
  rw [show ((0 : Nat) : Int) = 0 from rfl] at H
  rw [e]
  simpa only [Option.bind_some] using H
theorem num_ok {a : List Int} {k : Nat} (hk : k ≤ 1000) (ha : a.length ≤ maxLen) : ∃ v, f_spec_MakeNum a (k : Int) = some v ∧ 0 ≤ v ∧ v ≤ 65535 := by
  unfold f_spec_MakeNum
  obtain ⟨c, e, hc⟩ := skip_ok hk ha
  obtain ⟨v1, c1, e1, a1, a2, a3⟩ := byte_ok hc
  obtain ⟨v2, c2, e2, b1, b2, b3⟩ := byte_ok a1
  simp only [e, e1, e2, Option.bind_some]
  rw [wrap64 (n := v1 * 256) (by omega) (by omega), wrap64 (by omega) (by omega)]
  exact ⟨_, rfl, by omega, by omega⟩

/-! Desks -/
theorem entry_ok {c : Xl01Cur} {d : XDesk} (hc : CurOk c) (hd : d.Starts.length ≤ 6) : ∃ e c', f_spec_l23Entry c d = some (e, c') ∧ CurOk c' := by
  unfold f_spec_l23Entry
  obtain ⟨v1, c1, e1, a1, _⟩ := below_ok (n := 4) hc (by omega)
  obtain ⟨v2, c2, e2, b1, _⟩ := below_ok (n := 20) a1 (by omega)
  obtain ⟨v3, c3, e3, d1, _⟩ := below_ok (n := if (1 : Int) < (d.Starts.length : Int) then (d.Starts.length : Int) else (1 : Int)) b1 (by split <;> omega)
  obtain ⟨v4, c4, e4, g1, _⟩ := below_ok (n := 100) d1 (by omega)
  simp only [e1, e2, e3, Option.bind_some]
  split
  · simp only [e4, Option.bind_some]
    exact ⟨_, _, rfl, g1⟩
  · split
    · exact ⟨_, _, rfl, d1⟩
    · exact ⟨_, _, rfl, d1⟩
theorem allowed_ok (a : XDesk) (e : XEntry) (h : deskOk a = true) : ∃ v, f_spec_l23Allowed a e = some v ∧ (v = true → entOk e = true ∧ (e.Kind ≠ 4 → (0 ≤ e.Call ∧ e.Call < (a.Starts.length : Int)))) := by
  simp only [deskOk, Bool.and_eq_true, decide_eq_true_eq] at h
  obtain ⟨⟨hn, _⟩, hl, hc, _⟩ := h
  have hw : IntKind.i64.wrap ((a.Starts.length : Int) - 1) = (a.Starts.length : Int) - 1 := wrap64 (by omega) (by omega)
  simp only [f_spec_l23Allowed, l01In_eq, Option.bind_some, hw]
  by_cases hA : a.Now ≤ e.At ∧ e.At ≤ 2880
  rotate_left
  · refine ⟨false, ?_, by simp⟩
    by_cases h1 : a.Now ≤ e.At <;> by_cases h2 : e.At ≤ 2880 <;> simp [h1, h2] <;> exact (hA ⟨h1, h2⟩).elim
  obtain ⟨hA1, hA2⟩ := hA
  simp only [hA1, hA2, decide_true, Bool.and_self, if_true]
  by_cases hK : 1 ≤ e.Kind ∧ e.Kind ≤ 4
  rotate_left
  · refine ⟨false, ?_, by simp⟩
    by_cases h1 : 1 ≤ e.Kind <;> by_cases h2 : e.Kind ≤ 4 <;> simp [h1, h2] <;> exact (hK ⟨h1, h2⟩).elim
  obtain ⟨hK1, hK2⟩ := hK
  simp only [hK1, hK2, decide_true, Bool.and_self, if_true]
  have hent : minOk e.Call = true → minOk e.Value = true → entOk e = true := fun g1 g2 => by
    have g3 : minOk e.At = true := by simp only [minOk, Bool.and_eq_true, decide_eq_true_eq]; omega
    have g4 : kindOk e.Kind = true := by simp only [kindOk, Bool.and_eq_true, decide_eq_true_eq]; omega
    simp only [entOk, g1, g2, g3, g4, Bool.and_self]
  by_cases h4 : e.Kind = 4
  · simp only [h4, beq_self_eq_true, if_true]
    by_cases c0 : e.Call = 0
    · simp only [c0, beq_self_eq_true, if_true]
      refine ⟨_, rfl, fun hv => ⟨?_, fun h => absurd rfl h⟩⟩
      have v0 : e.Value = 0 := by simpa using hv
      exact hent (by rw [c0]; rfl) (by rw [v0]; rfl)
    · have : (e.Call == 0) = false := by simpa using c0
      simp only [this, Bool.false_eq_true, if_false]
      exact ⟨false, rfl, by simp⟩
  have h4' : (e.Kind == 4) = false := by simpa using h4
  simp only [h4', Bool.false_eq_true, if_false]
  by_cases hi : 0 ≤ e.Call ∧ e.Call ≤ (a.Starts.length : Int) - 1
  rotate_left
  · refine ⟨false, ?_, by simp⟩
    by_cases h1 : 0 ≤ e.Call <;> by_cases h2 : e.Call ≤ (a.Starts.length : Int) - 1 <;> simp [h1, h2] <;> exact (hi ⟨h1, h2⟩).elim
  obtain ⟨hi1, hi2⟩ := hi
  simp only [hi1, hi2, decide_true, Bool.and_self, if_true]
  have hcall : minOk e.Call = true := by simp only [minOk, Bool.and_eq_true, decide_eq_true_eq]; omega
  have hrange : e.Kind ≠ 4 → (0 ≤ e.Call ∧ e.Call < (a.Starts.length : Int)) := fun _ => ⟨hi1, by omega⟩
  obtain ⟨i, hie⟩ : ∃ i : Nat, e.Call = (i : Int) := ⟨e.Call.toNat, by omega⟩
  have i1 : i < a.Starts.length := by omega
  have i2 : i < a.Cleared.length := by omega
  rw [hie] at *
  simp only [ix_at i1, ix_at i2, Option.bind_some]
  generalize a.Starts[i] = s
  generalize a.Cleared[i] = cl
  cases cl with
  | true => exact ⟨false, rfl, by simp⟩
  | false =>
    simp only [Bool.false_eq_true, if_false]
    by_cases k1 : e.Kind = 1
    · simp only [k1, beq_self_eq_true, if_true]
      refine ⟨_, rfl, fun hv => ⟨?_, fun _ => ⟨by first | trivial | omega, by omega⟩⟩⟩
      simp only [Bool.and_eq_true, decide_eq_true_eq] at hv
      exact hent hcall (by simp only [minOk, Bool.and_eq_true, decide_eq_true_eq]; omega)
    · have k1' : (e.Kind == 1) = false := by simpa using k1
      simp only [k1', Bool.false_eq_true, if_false]
      by_cases v0 : e.Value = 0
      · have hE : entOk e = true := hent hcall (by rw [v0]; rfl)
        simp only [v0, beq_self_eq_true, if_true]
        by_cases s0 : 0 ≤ s
        · simp only [s0, decide_true, if_true]
          split
          · exact ⟨_, rfl, fun _ => ⟨hE, fun _ => ⟨by first | trivial | omega, by omega⟩⟩⟩
          · exact ⟨_, rfl, fun _ => ⟨hE, fun _ => ⟨by first | trivial | omega, by omega⟩⟩⟩
        · simp only [s0, decide_false, Bool.false_eq_true, if_false]
          exact ⟨false, rfl, by simp⟩
      · have : (e.Value == 0) = false := by simpa using v0
        simp only [this, Bool.false_eq_true, if_false]
        exact ⟨false, rfl, by simp⟩
theorem apply_ok (a : XDesk) (e : XEntry) (h1 : a.Starts.length ≤ 6) (h2 : a.Cleared.length ≤ 6) : ∃ r, f_spec_ApplyEntry a e = some r ∧ r.1.Starts.length = a.Starts.length ∧ r.1.Cleared.length = a.Cleared.length ∧ (r.2 = true → entOk e = true) := by
  unfold f_spec_ApplyEntry
  rw [l23Copy_eq (by omega) (by omega), spec_DeskOk_eq]
  simp only [Option.bind_some]
  cases hd : deskOk a with
  | false => exact ⟨_, by simp [f_spec_ApplyEntry_1]; rfl, rfl, rfl, by simp⟩
  | true =>
    obtain ⟨v, e1, e3⟩ := allowed_ok a e hd
    simp only [if_true, e1, Option.bind_some]
    cases v with
    | false => exact ⟨_, by simp [f_spec_ApplyEntry_1]; rfl, rfl, rfl, by simp⟩
    | true =>
      obtain ⟨hE, hr⟩ := e3 rfl
      simp only [deskOk, Bool.and_eq_true, decide_eq_true_eq] at hd
      have hc := hd.2.2.1
      by_cases k1 : e.Kind = 1
      · obtain ⟨c0, c1⟩ := hr (by omega)
        obtain ⟨i, hie⟩ : ∃ i : Nat, e.Call = (i : Int) := ⟨e.Call.toNat, by omega⟩
        have i1 : i < a.Starts.length := by omega
        exact ⟨_, by simp [f_spec_ApplyEntry_1, f_spec_ApplyEntry_2, k1, hie, ix_at i1]; rfl, by simp, rfl, fun _ => hE⟩
      by_cases k2 : e.Kind = 2
      · obtain ⟨c0, c1⟩ := hr (by omega)
        obtain ⟨i, hie⟩ : ∃ i : Nat, e.Call = (i : Int) := ⟨e.Call.toNat, by omega⟩
        have i2 : i < a.Cleared.length := by omega
        exact ⟨_, by simp [f_spec_ApplyEntry_1, f_spec_ApplyEntry_2, k2, hie, ix_at i2]; rfl, rfl, by simp, fun _ => hE⟩
      by_cases k3 : e.Kind = 3
      · obtain ⟨c0, c1⟩ := hr (by omega)
        obtain ⟨i, hie⟩ : ∃ i : Nat, e.Call = (i : Int) := ⟨e.Call.toNat, by omega⟩
        have i1 : i < a.Starts.length := by omega
        exact ⟨_, by simp [f_spec_ApplyEntry_1, f_spec_ApplyEntry_2, k3, hie, ix_at i1]; rfl, by simp, rfl, fun _ => hE⟩
      · exact ⟨_, by simp [f_spec_ApplyEntry_1, f_spec_ApplyEntry_2, k1, k2, k3]; rfl, rfl, rfl, fun _ => hE⟩
theorem draw_loop : ∀ (k n : Nat) (c : Xl01Cur) (d : XDesk) (l : List XEntry), k < n → k ≤ 7 → CurOk c → d.Starts.length ≤ 6 → d.Cleared.length ≤ 6 → (∀ e ∈ l, entOk e = true) → l.length + k ≤ 7 →
    ∃ d' l' c', f_spec_l23Draw_1 n (k : Int) c.b c.i c.h d.Now d.Starts d.Cleared l = some (d', l', c') ∧ d'.Starts.length = d.Starts.length ∧ (∀ e ∈ l', entOk e = true) ∧ l'.length ≤ 7 := by
  intro k
  induction k with
  | zero =>
    intro n c d l hn _ hc h1 h2 hl hlen
    obtain ⟨m, rfl⟩ : ∃ m, n = m + 1 := ⟨n - 1, by omega⟩
    exact ⟨d, l, c, by rw [f_spec_l23Draw_1]; rfl, rfl, hl, by omega⟩
  | succ k ih =>
    intro n c d l hn hk hc h1 h2 hl hlen
    obtain ⟨m, rfl⟩ : ∃ m, n = m + 1 := ⟨n - 1, by omega⟩
    obtain ⟨e, c', e1, hc'⟩ := entry_ok (d := d) hc h1
    obtain ⟨r, e2, r1, r2, r3⟩ := apply_ok d e h1 h2
    have e1' : f_spec_l23Entry ⟨c.b, c.i, c.h⟩ ⟨d.Now, d.Starts, d.Cleared⟩ = some (e, c') := e1
    have e2' : f_spec_ApplyEntry ⟨d.Now, d.Starts, d.Cleared⟩ e = some r := e2
    have hpos : (0 : Int) < ((k + 1 : Nat) : Int) := by omega
    have hw : IntKind.i64.wrap (((k + 1 : Nat) : Int) - 1) = (k : Int) := by rw [wrap64 (by omega) (by omega)]; omega
    simp only [f_spec_l23Draw_1, hpos, decide_true, if_true, e1', e2', Option.bind_some, f_spec_l23Draw_2, hw]
    cases hr : r.2 with
    | true =>
      simp only [if_true]
      rw [ifa (by simp; omega) (by omega)]
      obtain ⟨d', l', c2, q1, q2, q3, q4⟩ := ih m c' r.1 (l ++ [e]) (by omega) (by omega) hc' (by omega) (by omega) (fun x hx => by
        rcases List.mem_append.1 hx with hx | hx
        · exact hl x hx
        · simp at hx; subst hx; exact r3 hr) (by simp; omega)
      exact ⟨d', l', c2, q1, by omega, q3, q4⟩
    | false =>
      simp only [Bool.false_eq_true, if_false]
      exact ih m c' d l (by omega) (by omega) hc' h1 h2 hl (by omega)
theorem new1 : f_spec_DeskNew 1 = some ⟨0, [-1], [false]⟩ ∧ f_spec_DeskNew 2 = some ⟨0, [-1, -1], [false, false]⟩ ∧ f_spec_DeskNew 3 = some ⟨0, [-1, -1, -1], [false, false, false]⟩ := ⟨by kernel_rfl, by kernel_rfl, by kernel_rfl⟩
theorem new2 : f_impl_DeskNew 1 = some ⟨0, [-1], [false]⟩ ∧ f_impl_DeskNew 2 = some ⟨0, [-1, -1], [false, false]⟩ ∧ f_impl_DeskNew 3 = some ⟨0, [-1, -1, -1], [false, false, false]⟩ := ⟨by kernel_rfl, by kernel_rfl, by kernel_rfl⟩
theorem journal_ok {a : List Int} (ha : a.length ≤ maxLen) : ∃ n l, f_spec_MakeJournal a = some (n, l) ∧ (n = 1 ∨ n = 2 ∨ n = 3) ∧ (∀ e ∈ l, entOk e = true) ∧ l.length ≤ 7 := by
  unfold f_spec_MakeJournal f_spec_l23Draw
  obtain ⟨c, e, hc⟩ := new_ok ha
  obtain ⟨v1, c1, e1, a1, a2, a3, _⟩ := below_ok (n := 3) hc (by omega)
  obtain ⟨v2, c2, e2, b1, b2, b3, _⟩ := below_ok (n := 8) a1 (by omega)
  have a3' := a3 (by omega)
  have b3' := b3 (by omega)
  obtain ⟨k, rfl⟩ : ∃ k : Nat, v2 = (k : Int) := ⟨v2.toNat, by omega⟩
  obtain ⟨n1, n2, n3⟩ := new1
  have hn : ∃ m : Int, IntKind.i64.wrap (1 + v1) = m ∧ (m = 1 ∨ m = 2 ∨ m = 3) := ⟨1 + v1, wrap64 (by omega) (by omega), by omega⟩
  obtain ⟨m, hm, hm3⟩ := hn
  have hd : ∃ d, f_spec_DeskNew m = some d ∧ (d.Starts.length : Int) = m ∧ d.Starts.length ≤ 6 ∧ d.Cleared.length ≤ 6 := by
    rcases hm3 with rfl | rfl | rfl
    · exact ⟨_, n1, rfl, by decide, by decide⟩
    · exact ⟨_, n2, rfl, by decide, by decide⟩
    · exact ⟨_, n3, rfl, by decide, by decide⟩
  obtain ⟨d, hd1, hd2, hd3, hd4⟩ := hd
  obtain ⟨d', l', c', q1, q2, q3, q4⟩ := draw_loop k bigN c2 d [] (by rw [bigN_val]; omega) (by omega) b1 hd3 hd4 (by simp) (by simp; omega)
  simp only [e, e1, e2, hm, hd1, q1, Option.bind_some]
  exact ⟨_, _, rfl, by rw [q2, hd2]; exact hm3, q3, q4⟩
end Go.Vi
