/-
  Plain laws: lines of a text (SplitLines); what is made of lines comes apart into them. No condition.
-/
import Derived.Test.YtldjoojbhbbhdaaDoorJWa
namespace Go.Vi
open Go.Lib
set_option linter.unusedSimpArgs false
set_option linter.unusedVariables false

theorem split_lines : ∀ (l : List (List UInt8)), (∀ w ∈ l, ∀ b ∈ w, b ≠ 10) → split 10 (l.map (· ++ [10])).flatten = l ++ [[]]
  | [], _ => rfl
  | w :: l, h => by
    have e : ((w :: l).map (· ++ [10])).flatten = w ++ 10 :: (l.map (· ++ [10])).flatten := by simp
    rw [e, split, spl_word 10 w [] _ (h w (by simp))]
    have := split_lines l fun x hx => h x (by simp [hx])
    rw [split] at this
    rw [this]
    simp
def lines (s : List UInt8) : List (List UInt8) := if (split 10 s).getD ((split 10 s).length - 1) [] = [] then (split 10 s).take ((split 10 s).length - 1) else split 10 s
theorem lines_flat {l : List (List UInt8)} (h : ∀ w ∈ l, ∀ b ∈ w, b ≠ 10) : lines (l.map (· ++ [10])).flatten = l := by
  unfold lines
  rw [split_lines l h]
  simp
theorem lines_all {q : List (List UInt8)} (hq : q ≠ []) (hn : q.length ≤ 1100000) : ((ix q (IntKind.i64.wrap ((q.length : Int) - (1 : Int)))).bind fun x2 =>
    if (x2 == ([] : List UInt8)) = true then ((bnd (q.length : Int) (IntKind.i64.wrap ((q.length : Int) - (1 : Int))) (0 : Int) q.length).bind fun p4 => some ((q.drop p4.1).take (p4.2 - p4.1))) else some q) =
    some (if q.getD (q.length - 1) [] = [] then q.take (q.length - 1) else q) := by
  have h0 : 0 < q.length := List.length_pos_iff.2 hq
  have hw : IntKind.i64.wrap ((q.length : Int) - 1) = ((q.length - 1 : Nat) : Int) := by
    rw [wrap64 (by omega) (by omega)]; omega
  have hlt : q.length - 1 < q.length := by omega
  have hb : bnd (q.length : Int) ((q.length - 1 : Nat) : Int) (0 : Int) q.length = some (0, q.length - 1) := bnd_ok (a := 0) (Nat.zero_le _) (by omega)
  rw [hw, ix_at hlt, hb]
  simp only [Option.bind_some, List.getD_eq_getElem?_getD, List.getElem?_eq_getElem hlt, Option.getD_some, beq_iff_eq, List.drop_zero, Nat.sub_zero]
  split <;> rfl
theorem spec_SplitLines_eq {s : List UInt8} (hl : s.length ≤ 1048576) : f_spec_SplitLines s = some (lines s) := by
  unfold f_spec_SplitLines lines
  rw [spec_SplitAny_eq hl]
  exact lines_all (spl_ne 10 s []) (piece_len hl).1
theorem impl_SplitLines_eq {s : List UInt8} (hl : s.length ≤ 1048576) : f_impl_SplitLines s = some (lines s) := by
  unfold f_impl_SplitLines lines
  rw [impl_SplitAny_eq hl]
  exact lines_all (spl_ne 10 s []) (piece_len hl).1

/-! Reading line by line -/
def rd {α σ : Type} (step : α → σ → Option σ) : List α → σ → Option σ
  | [], s => some s
  | x :: r, s => (step x s).bind (rd step r)
theorem rd_append {α σ : Type} (step : α → σ → Option σ) : ∀ (a b : List α) (s : σ), rd step (a ++ b) s = (rd step a s).bind (rd step b)
  | [], b, s => rfl
  | x :: a, b, s => by
    simp only [List.cons_append, rd]
    cases step x s with
    | none => rfl
    | some t => exact rd_append step a b t
theorem rd_loop {α β γ R : Type} {L : Nat → Int → β → γ → Option R} (l : List α) (step : α → β × γ → Option (β × γ)) (K : β × γ → Option R) (bad : Option R) (I : β → γ → Prop) (hl : l.length ≤ 1100000)
    (hs : ∀ (n i : Nat) (b : β) (g : γ) (hi : i < l.length), I b g → L (n + 1) (i : Int) b g = match step l[i] (b, g) with | some p => L n (IntKind.i64.wrap ((i : Int) + 1)) p.1 p.2 | none => bad)
    (hI : ∀ x ∈ l, ∀ b g p, I b g → step x (b, g) = some p → I p.1 p.2) (he : ∀ n b g, I b g → L (n + 1) (l.length : Int) b g = K (b, g)) (b0 : β) (g0 : γ) (h0 : I b0 g0) :
    L bigN 0 b0 g0 = match rd step l (b0, g0) with | some p => K p | none => bad := by
  have key : ∀ (k i n : Nat) (b : β) (g : γ), i + k = l.length → k < n → I b g → L n (i : Int) b g = match rd step (l.drop i) (b, g) with | some p => K p | none => bad := by
    intro k
    induction k with
    | zero =>
      intro i n b g hi hn hI0
      obtain ⟨m, rfl⟩ : ∃ m, n = m + 1 := ⟨n - 1, by omega⟩
      have : i = l.length := by omega
      subst this
      rw [he m b g hI0, List.drop_length, rd]
    | succ k ih =>
      intro i n b g hi hn hI0
      obtain ⟨m, rfl⟩ : ∃ m, n = m + 1 := ⟨n - 1, by omega⟩
      have hlt : i < l.length := by omega
      rw [hs m i b g hlt hI0, List.drop_eq_getElem_cons hlt, rd, wrapS hlt (le_big hl)]
      cases hst : step l[i] (b, g) with
      | none => rfl
      | some p =>
        simp only [Option.bind_some]
        exact ih (i + 1) m p.1 p.2 (by omega) (by omega) (hI _ (List.getElem_mem hlt) b g p hI0 hst)
  have := key l.length 0 bigN b0 g0 (by omega) (lt_bigN (le_big hl)) h0
  simpa using this
end Go.Vi
