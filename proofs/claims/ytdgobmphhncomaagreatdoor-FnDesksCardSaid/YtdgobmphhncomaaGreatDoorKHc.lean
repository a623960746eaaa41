/-
  Plain law of FnDesks, second part: what is read of a journal's text that is cut. No condition.
-/
import Derived.Test.YtdgobmphhncomaaGreatDoorKHb
namespace Go.Vi
open Go.Lib
set_option linter.unusedSimpArgs false
set_option linter.unusedVariables false

theorem spl_app (c : UInt8) : ∀ (p cur : List UInt8), ∃ init w, spl c cur p = init ++ [w] ∧ ∀ q, spl c cur (p ++ q) = init ++ spl c w q
  | [], cur => ⟨[], cur, by simp [spl], by simp⟩
  | b :: r, cur => by
    by_cases e : b = c
    · obtain ⟨i, w, h1, h2⟩ := spl_app c r []
      exact ⟨cur :: i, w, by rw [spl, if_pos e, h1]; simp, fun q => by rw [List.cons_append, spl, if_pos e, h2]; simp⟩
    · obtain ⟨i, w, h1, h2⟩ := spl_app c r (cur ++ [b])
      exact ⟨i, w, by rw [spl, if_neg e, h1], fun q => by rw [List.cons_append, spl, if_neg e, h2]⟩
theorem cut_read {e : XEntry} {p q : List UInt8} (ok : entOk e = true) (hp : p ++ q = fmtEntry e) (hr : (readEntry p).2 = true) : p = fmtEntry e := by
  obtain ⟨e', he'⟩ := read_true hr
  by_cases ok' : entOk e' = true
  rotate_left
  · have : p = [] := by rw [← he', fmtEntry, if_neg ok']
    subst this
    have : (readEntry []).2 = false := by decide
    rw [this] at hr
    cases hr
  have s1 := fmt_split ok'
  have s2 := fmt_split ok
  rw [he'] at s1
  rw [← hp] at s2
  obtain ⟨i, w, h1, h2⟩ := spl_app 32 p []
  have h1' : split 32 p = i ++ [w] := h1
  have h2' : split 32 (p ++ q) = i ++ spl 32 w q := h2 q
  rw [h1'] at s1
  rw [h2'] at s2
  have hi : i = [word4 e'.Kind, itoa e'.At, itoa e'.Call, itoa e'.Value] := by
    have := congrArg List.dropLast s1
    simpa using this
  rw [hi] at s2
  simp only [List.cons_append, List.nil_append, List.cons.injEq] at s2
  obtain ⟨a1, a2, a3, a4, _⟩ := s2
  have hb : entBody e' = entBody e := by rw [entBody, entBody, a1, a2, a3, a4]
  rw [← he', fmtEntry, fmtEntry, if_pos ok, if_pos ok', hb]
theorem lines_nil : lines [] = [] := by decide
theorem lines_one {p : List UInt8} (h : ∀ b ∈ p, b ≠ 10) (hn : p ≠ []) : lines p = [p] := by
  unfold lines
  have : split 10 p = [p] := by rw [split, spl_end 10 p [] h]; simp
  rw [this]
  simp [hn]
theorem lines_end {w : List UInt8} (h : ∀ b ∈ w, b ≠ 10) : lines (w ++ [10]) = [w] := by
  have := lines_flat (l := [w]) (fun x hx => by simp at hx; subst hx; exact h)
  simpa using this
theorem cut_good : ∀ (l : List XEntry), (∀ e ∈ l, entOk e = true) → ∀ k, ∃ m, m ≤ l.length ∧ goodPre (lines ((l.map fun e => fmtEntry e ++ [10]).flatten.take k)) = l.take m
  | [], _, k => ⟨0, by simp, by simp [lines_nil, goodPre]⟩
  | e :: l, h, k => by
    have ok := h e (by simp)
    have hne : ∀ b ∈ fmtEntry e, b ≠ 10 := fun b hb => (fmt_ne e b hb).1
    have hT : ((e :: l).map fun e => fmtEntry e ++ [10]).flatten = fmtEntry e ++ 10 :: (l.map fun e => fmtEntry e ++ [10]).flatten := by simp
    rw [hT]
    by_cases hk : k ≤ (fmtEntry e).length
    · rw [List.take_append_of_le_length hk]
      by_cases hp : (fmtEntry e).take k = []
      · exact ⟨0, by simp, by rw [hp, lines_nil]; rfl⟩
      rw [lines_one (fun b hb => hne b (List.mem_of_mem_take hb)) hp]
      by_cases hr : (readEntry ((fmtEntry e).take k)).2 = true
      · have := cut_read ok (List.take_append_drop k (fmtEntry e)) hr
        rw [this]
        exact ⟨1, by simp, by simp [goodPre, read_fmt ok]⟩
      · exact ⟨0, by simp, by simp [goodPre, hr]⟩
    · obtain ⟨j, rfl⟩ : ∃ j, k = (fmtEntry e).length + (j + 1) := ⟨k - (fmtEntry e).length - 1, by omega⟩
      rw [List.take_length_add_append, List.take_succ_cons]
      by_cases hj : (l.map fun e => fmtEntry e ++ [10]).flatten.take j = []
      · rw [hj, lines_end hne]
        exact ⟨1, by simp, by simp [goodPre, read_fmt ok]⟩
      · rw [lines_cons hne hj]
        obtain ⟨m, h1, h2⟩ := cut_good l (fun x hx => h x (by simp [hx])) j
        exact ⟨m + 1, by simp; omega, by simp [goodPre, read_fmt ok, h2]⟩
theorem full_good {l : List XEntry} (h : ∀ e ∈ l, entOk e = true) : goodPre (lines (l.map fun e => fmtEntry e ++ [10]).flatten) = l := by
  have e : (l.map fun e => fmtEntry e ++ [10]) = (l.map fmtEntry).map (· ++ [10]) := by simp
  rw [e, lines_flat (fun w hw b hb => by
    obtain ⟨x, _, rfl⟩ := List.mem_map.1 hw
    exact (fmt_ne x b hb).1)]
  clear e
  induction l with
  | nil => rfl
  | cons x l ih =>
    rw [List.map_cons, goodPre, read_fmt (h x (by simp)), ih fun y hy => h y (by simp [hy])]
    simp
theorem journal_len {l : List XEntry} (h : l.length ≤ 7) : (journal l).length ≤ 1400 := by
  rw [journal_map]
  have : ∀ l : List XEntry, (l.map fun e => fmtEntry e ++ [10]).flatten.length ≤ 200 * l.length
  := fun l => by
    induction l with
    | nil => simp
    | cons x l ih =>
      have := fmtEntry_len x
      simp only [List.map_cons, List.flatten_cons, List.length_append, List.length_cons, List.length_nil] at *
      omega
  have := this l
  omega
theorem rebuild_loop (r2 : List XEntry × Int) (x : XDesk) (hl : r2.1.length ≤ 1000) : ∀ (k i n : Nat) (d : XDesk), i + k = r2.1.length → k < n → runs d (r2.1.drop i) x → f_impl_RebuildDesk_1 r2 n (i : Int) d.Now d.Starts d.Cleared = some (x, (r2.1.length : Int)) := by
  intro k
  induction k with
  | zero =>
    intro i n d hi hn hr
    obtain ⟨m, rfl⟩ : ∃ m, n = m + 1 := ⟨n - 1, by omega⟩
    have : i = r2.1.length := by omega
    subst this
    rw [List.drop_length] at hr
    have : d = x := hr
    subst this
    rw [f_impl_RebuildDesk_1]
    simp only [Int.lt_irrefl, decide_false, Bool.false_eq_true, if_false]
  | succ k ih =>
    intro i n d hi hn hr
    obtain ⟨m, rfl⟩ : ∃ m, n = m + 1 := ⟨n - 1, by omega⟩
    have hlt : i < r2.1.length := by omega
    rw [List.drop_eq_getElem_cons hlt] at hr
    obtain ⟨q, g1, g2, g3, g4, g5⟩ := hr
    have g1' : f_impl_ApplyEntry ⟨d.Now, d.Starts, d.Cleared⟩ r2.1[i] = some (q, true) := g1
    rw [f_impl_RebuildDesk_1]
    simp only [dec_nn, hlt, decide_true, if_true, ix_at hlt, g1', Option.bind_some]
    rw [wrapS hlt (small_max hl)]
    exact ih (i + 1) m q (by omega) (by omega) g5
theorem rebuild_runs {n : Int} {t : List UInt8} {d x : XDesk} {l : List XEntry} (ht : t.length ≤ 1048576) (hd : f_impl_DeskNew n = some d) (hg : goodPre (lines t) = l) (hl : l.length ≤ 60) (hr : runs d l x) : f_impl_RebuildDesk n t = some (x, (l.length : Int)) := by
  unfold f_impl_RebuildDesk
  rw [impl_ReadJournal_eq ht, hg, List.take_of_length_le hl, hd]
  simp only [Option.bind_some]
  have hb : l.length < bigN := lt_bigN (small_max (by omega))
  have H : ∀ N, l.length < N → f_impl_RebuildDesk_1 (l, (l.length : Int)) N ((0 : Nat) : Int) d.Now d.Starts d.Cleared = some (x, (l.length : Int)) := fun N h =>
    rebuild_loop (l, (l.length : Int)) x (by show l.length ≤ 1000; omega) l.length 0 N d (by simp) h (by simpa using hr)
  rw [show ((0 : Nat) : Int) = 0 from rfl] at H
  obtain ⟨N, hN⟩ : ∃ N, bigN = N := ⟨_, rfl⟩
  rw [hN] at hb ⊢
  exact H N hb
end Go.Vi
