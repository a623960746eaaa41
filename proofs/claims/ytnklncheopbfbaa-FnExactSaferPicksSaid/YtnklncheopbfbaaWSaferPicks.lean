/-
  Walks: what the plain definitions compute is what the functions return. By program. No condition.
-/
import Derived.Test.YtnklncheopbfbaaNf
import Derived.Test.YtnklncheopbfbaaChecked
import Derived.KernelRfl
namespace Go.Vi
open Go.Proofs
set_option linter.unusedSimpArgs false
set_option linter.unusedVariables false
attribute [local irreducible] go AWP
theorem mixed : Try.prog.follows .mixedOrders = true := by kernel_rfl
/- 18: laws_toIntS -/
def c_laws_toIntS_1 : ACode := .seq (.reg [(none, .keep [0, 3, 4] [] [448])]) (.seq (.seq (.reg [(none, .mv 8 (S 4)), (none, .mv 9 (S 0)), (none, .len 10 (S 9)), (none, .bin 11 .lss (S 8) (S 10))]) (.cond (S 11) .skip (.exit 0))) (.seq (.block 1 (.reg [(none, .mv 14 (S 3)), (none, .mv 15 (S 4)), (none, .mv 16 (S 0)), (none, .mv 17 (S 4)), (none, .iaddr 18 (S 16) (S 17) 1), (none, .load 19 (S 18) false 1), (none, .iaddr 20 (S 14) (S 15) 1), (none, .store (S 20) (S 19) 1)])) (.reg [(none, .mv 12 (S 4)), (none, .bin 13 .add (S 12) (K 1)), (none, .mv 4 (S 13))])))
def c_laws_toIntS_n1 : ACode := (.seq (.reg [(none, .mv 21 (S 3)), (none, .mv 2 (S 21))]) .ret)
def c_laws_toIntS : ACode := (.seq (.reg [(none, .mv 2 KN)]) (.seq (.reg [(none, .mv 5 (S 0)), (none, .len 6 (S 5)), (none, .mksl 7 1 8 [.int .i64 0] (S 6) (S 6)), (none, .mv 3 (S 7))]) (.seq (.seq (.reg [(none, .mv 4 (K 0))]) (.block 0 (.loop c_laws_toIntS_1))) c_laws_toIntS_n1)))
theorem w_laws_toIntS_1 (a0 : List Int) : ∀ (n : Nat) (v2 : Int) (v3 : List Int) (r : (List Int)), f_laws_toIntS_1 a0 n v2 v3 = some r → ∀ σ : St, σ.kept [0, 3, 4] [] [448] = ⟨[(0, vc (aL (List.map rI a0))), (3, vc (.own 448)), (4, vc (aI v2))], [], [(448, 1, List.map rI v3)]⟩ → go Try.prog (.code (.loop c_laws_toIntS_1) :: [.blk 0, .code c_laws_toIntS_n1]) (Ret [2] [.sc (.o 1 (List.map rI r))]) .normal (some σ) := by
  intro n
  induction n with
  | zero => intro _ _ r h; cases h
  | succ n ih =>
    intro v2 v3 r h σ hσ
    rw [f_laws_toIntS_1] at h
    refine go_round ?_
    rcases Bool.eq_false_or_eq_true (decide (v2 < (a0.length : Int))) with hb4 | hb4
    · rw [ite_t hb4] at h
      obtain ⟨x5, hx5, h⟩ := ob h
      obtain ⟨x6, hx6, h⟩ := ob h
      have hx6n := ix_get hx6
      try simp only [hσ, hb4, hx5, hx6, c_laws_toIntS_1, Nat.reduceBEq, Nat.reduceMul, Nat.reduceAdd, Nat.reduceDiv, Int.reduceBEq, rules2, rowsX]
      refine go_stp (y := x5) rfl rfl hx6n rfl rfl rfl ?_
      try simp only [hb4, hx5, hx6, Nat.reduceBEq, Nat.reduceMul, Nat.reduceAdd, Nat.reduceDiv, Int.reduceBEq, rules2, rowsX]
      refine ih _ _ _ h _ ?_
      try simp only [hb4, hx5, hx6, Nat.reduceBEq, Nat.reduceMul, Nat.reduceAdd, Nat.reduceDiv, Int.reduceBEq, rules2, rowsX, List.map_nil]
    · rw [ite_f hb4] at h
      try simp only [hσ, hb4, c_laws_toIntS_1, c_laws_toIntS_n1, Nat.reduceBEq, Nat.reduceMul, Nat.reduceAdd, Nat.reduceDiv, Int.reduceBEq, rules2, rowsX]
      cases h
      exact ⟨⟨rfl, trivial⟩, rfl⟩
theorem e_laws_toIntS : entry Try.prog 18 = some (c_laws_toIntS.strip, [2], 22) := by kernel_rfl
theorem w_laws_toIntS (a0 : List Int) (r : (List Int)) (h : f_laws_toIntS a0 = some r) : FC Try.prog 18 [.sc (.sl (List.map rI a0))] [.sc (.o 1 (List.map rI r))] := by
  unfold f_laws_toIntS at h
  refine FC_go (σ := ⟨[(0, vc (aL (List.map rI a0)))], [], []⟩) mixed e_laws_toIntS rfl rfl ?_
  simp only [c_laws_toIntS]
  obtain ⟨n1, hn1, h⟩ := ob h
  try simp only [Nat.reduceBEq, Nat.reduceMul, Nat.reduceAdd, Nat.reduceDiv, Int.reduceBEq, rules2, rowsX]
  refine go_mks (es := List.map rI (List.replicate n1 (0 : Int))) rfl rfl hn1 rfl (rep_map rfl) rfl ?_
  try simp only [Nat.reduceBEq, Nat.reduceMul, Nat.reduceAdd, Nat.reduceDiv, Int.reduceBEq, rules2, rowsX]
  refine w_laws_toIntS_1 _ _ _ _ _ h _ ?_
  try simp only [Nat.reduceBEq, Nat.reduceMul, Nat.reduceAdd, Nat.reduceDiv, Int.reduceBEq, rules2, rowsX, List.map_nil]
/- 58: spec_l01In -/
def c_spec_l01In : ACode := (.seq (.reg [(none, .mv 6 (KB false))]) (.seq (.reg [(none, .mv 7 (S 0)), (none, .mv 8 (S 1)), (none, .bin 9 .geq (S 7) (S 8)), (none, .mv 10 (S 9)), (some (10, true), .mv 11 (S 0)), (some (10, true), .mv 12 (S 2)), (some (10, true), .bin 13 .leq (S 11) (S 12)), (none, .pick 14 (S 10) (S 13) (KB false)), (none, .mv 6 (S 14))]) .ret))
theorem e_spec_l01In : entry Try.prog 58 = some (c_spec_l01In.strip, [6], 15) := by kernel_rfl
theorem w_spec_l01In (a0 : Int) (a1 : Int) (a2 : Int) (r : Bool) (h : f_spec_l01In a0 a1 a2 = some r) : FC Try.prog 58 [.sc (.int .i64 a0), .sc (.int .i64 a1), .sc (.int .i64 a2)] [.sc (.v (.bool r))] := by
  unfold f_spec_l01In at h
  refine FC_go (σ := ⟨[(0, vc (aI a0)), (1, vc (aI a1)), (2, vc (aI a2))], [], []⟩) mixed e_spec_l01In rfl rfl ?_
  simp only [c_spec_l01In]
  rcases Bool.eq_false_or_eq_true (decide (a1 ≤ a0)) with hb1 | hb1
  · rw [ite_t hb1] at h
    try simp only [hb1, Nat.reduceBEq, Nat.reduceMul, Nat.reduceAdd, Nat.reduceDiv, Int.reduceBEq, rules2, rowsX]
    cases h
    exact ⟨⟨rfl, trivial⟩, rfl⟩
  · rw [ite_f hb1] at h
    try simp only [hb1, Nat.reduceBEq, Nat.reduceMul, Nat.reduceAdd, Nat.reduceDiv, Int.reduceBEq, rules2, rowsX]
    cases h
    exact ⟨⟨rfl, trivial⟩, rfl⟩
/- 17: spec_PicksOk -/
def c_spec_PicksOk_1 : ACode := .seq (.reg [(none, .keep [9, 10, 11] [] [])]) (.seq (.reg [(none, .bin 12 .lss (S 11) (S 10))]) (.seq (.cond (S 12) .skip (.exit 0)) (.seq (.block 1 (.seq (.reg [(none, .iaddr 13 (S 9) (S 11) 1), (none, .load 14 (S 13) false 1), (none, .mv 4 (S 14))]) (.seq (.reg [(none, .mv 15 (S 4)), (none, .call 16 58 [(S 15), (K 0), (K 1000)]), (none, .un 17 .not (S 16))]) (.cond (S 17) (.seq (.reg [(none, .mv 2 (KB false))]) .ret) .skip)))) (.reg [(none, .bin 18 .add (S 11) (K 1)), (none, .mv 11 (S 18))]))))
def c_spec_PicksOk_n1 : ACode := (.seq (.reg [(none, .mv 2 (KB true))]) .ret)
def c_spec_PicksOk : ACode := (.seq (.reg [(none, .mv 2 (KB false))]) (.seq (.seq (.reg [(none, .mv 5 (S 0)), (none, .len 6 (S 5)), (none, .call 7 58 [(S 6), (K 1), (K 48)]), (none, .un 8 .not (S 7))]) (.cond (S 8) (.seq (.reg [(none, .mv 2 (KB false))]) .ret) .skip)) (.seq (.seq (.reg [(none, .mv 9 (S 0)), (none, .len 10 (S 9)), (none, .mv 11 (K 0))]) (.block 0 (.loop c_spec_PicksOk_1))) c_spec_PicksOk_n1)))
theorem w_spec_PicksOk_1 (a0 : List Int) : ∀ (n : Nat) (v3 : Int) (r : Bool), f_spec_PicksOk_1 a0 n v3 = some r → ∀ σ : St, σ.kept [9, 10, 11] [] [] = ⟨[(9, vc (aL (List.map rI a0))), (10, vc (aI (a0.length : Int))), (11, vc (aI v3))], [], []⟩ → go Try.prog (.code (.loop c_spec_PicksOk_1) :: [.blk 0, .code c_spec_PicksOk_n1]) (Ret [2] [.sc (.v (.bool r))]) .normal (some σ) := by
  intro n
  induction n with
  | zero => intro _ r h; cases h
  | succ n ih =>
    intro v3 r h σ hσ
    rw [f_spec_PicksOk_1] at h
    refine go_round ?_
    rcases Bool.eq_false_or_eq_true (decide (v3 < (a0.length : Int))) with hb4 | hb4
    · rw [ite_t hb4] at h
      obtain ⟨x5, hx5, h⟩ := ob h
      obtain ⟨r6, hr6, h⟩ := ob h
      try simp only [hσ, hb4, hx5, c_spec_PicksOk_1, Nat.reduceBEq, Nat.reduceMul, Nat.reduceAdd, Nat.reduceDiv, Int.reduceBEq, rules2, rowsX]
      refine go_callI (w_spec_l01In _ _ _ _ hr6) rfl rfl (Nat.le_of_ble_eq_true rfl) ?_
      rcases Bool.eq_false_or_eq_true r6 with hb7 | hb7
      · rw [ite_t hb7] at h
        try simp only [hb4, hx5, hb7, Nat.reduceBEq, Nat.reduceMul, Nat.reduceAdd, Nat.reduceDiv, Int.reduceBEq, rules2, rowsX]
        refine ih _ _ h _ ?_
        try simp only [hb4, hx5, hb7, Nat.reduceBEq, Nat.reduceMul, Nat.reduceAdd, Nat.reduceDiv, Int.reduceBEq, rules2, rowsX, List.map_nil]
      · rw [ite_f hb7] at h
        try simp only [hb4, hx5, hb7, Nat.reduceBEq, Nat.reduceMul, Nat.reduceAdd, Nat.reduceDiv, Int.reduceBEq, rules2, rowsX]
        cases h
        exact ⟨⟨rfl, trivial⟩, rfl⟩
    · rw [ite_f hb4] at h
      try simp only [hσ, hb4, c_spec_PicksOk_1, c_spec_PicksOk_n1, Nat.reduceBEq, Nat.reduceMul, Nat.reduceAdd, Nat.reduceDiv, Int.reduceBEq, rules2, rowsX]
      cases h
      exact ⟨⟨rfl, trivial⟩, rfl⟩
theorem e_spec_PicksOk : entry Try.prog 17 = some (c_spec_PicksOk.strip, [2], 19) := by kernel_rfl
theorem w_spec_PicksOk (a0 : List Int) (r : Bool) (h : f_spec_PicksOk a0 = some r) : FC Try.prog 17 [.sc (.sl (List.map rI a0))] [.sc (.v (.bool r))] := by
  unfold f_spec_PicksOk at h
  refine FC_go (σ := ⟨[(0, vc (aL (List.map rI a0)))], [], []⟩) mixed e_spec_PicksOk rfl rfl ?_
  simp only [c_spec_PicksOk]
  obtain ⟨r1, hr1, h⟩ := ob h
  try simp only [Nat.reduceBEq, Nat.reduceMul, Nat.reduceAdd, Nat.reduceDiv, Int.reduceBEq, rules2, rowsX]
  refine go_callI (w_spec_l01In _ _ _ _ hr1) rfl rfl (Nat.le_of_ble_eq_true rfl) ?_
  rcases Bool.eq_false_or_eq_true r1 with hb2 | hb2
  · rw [ite_t hb2] at h
    try simp only [hb2, Nat.reduceBEq, Nat.reduceMul, Nat.reduceAdd, Nat.reduceDiv, Int.reduceBEq, rules2, rowsX]
    refine w_spec_PicksOk_1 _ _ _ _ h _ ?_
    try simp only [hb2, Nat.reduceBEq, Nat.reduceMul, Nat.reduceAdd, Nat.reduceDiv, Int.reduceBEq, rules2, rowsX, List.map_nil]
  · rw [ite_f hb2] at h
    try simp only [hb2, Nat.reduceBEq, Nat.reduceMul, Nat.reduceAdd, Nat.reduceDiv, Int.reduceBEq, rules2, rowsX]
    cases h
    exact ⟨⟨rfl, trivial⟩, rfl⟩
/- 21: spec_SaferPicks -/
def c_spec_SaferPicks_1 : ACode := .seq (.reg [(none, .keep [0, 1, 5] [] [])]) (.seq (.seq (.reg [(none, .mv 14 (S 5)), (none, .bin 15 .lss (S 14) (K 48))]) (.cond (S 15) .skip (.exit 0))) (.seq (.block 1 (.seq (.drw [(some [], (none, .mv 18 (S 0))), (some [], (none, .mv 19 (S 5))), (some [], (none, .mv 20 (S 0))), (some [], (none, .len 21 (S 20))), (some [], (none, .bin 22 .sub (S 21) (K 1))), (some [], (none, .mm 23 false (S 19) (S 22))), (some [], (none, .iaddr 24 (S 18) (S 23) 1)), (some [], (none, .load 25 (S 24) false 1)), (some [], (none, .mv 26 (S 1))), (some [], (none, .mv 27 (S 5))), (some [], (none, .mv 28 (S 1))), (some [], (none, .len 29 (S 28))), (some [], (none, .bin 30 .sub (S 29) (K 1))), (some [], (none, .mm 31 false (S 27) (S 30))), (some [], (none, .iaddr 32 (S 26) (S 31) 1)), (some [], (none, .load 33 (S 32) false 1)), (some [], (none, .bin 34 .lss (S 25) (S 33)))]) (.cond (S 34) (.seq (.reg [(none, .mv 4 (KB false))]) .ret) .skip))) (.reg [(none, .mv 16 (S 5)), (none, .bin 17 .add (S 16) (K 1)), (none, .mv 5 (S 17))])))
def c_spec_SaferPicks_n1 : ACode := (.seq (.reg [(none, .mv 4 (KB true))]) .ret)
def c_spec_SaferPicks : ACode := (.seq (.reg [(none, .mv 4 (KB false))]) (.seq (.seq (.reg [(none, .mv 6 (S 0)), (none, .call 7 17 [(S 6)]), (none, .un 8 .not (S 7)), (none, .mv 9 (S 8)), (some (9, false), .mv 10 (S 1)), (some (9, false), .call 11 17 [(S 10)]), (some (9, false), .un 12 .not (S 11)), (none, .pick 13 (S 9) (KB true) (S 12))]) (.cond (S 13) (.seq (.reg [(none, .mv 4 (KB false))]) .ret) .skip)) (.seq (.seq (.reg [(none, .mv 5 (K 0))]) (.block 0 (.loop c_spec_SaferPicks_1))) c_spec_SaferPicks_n1)))
theorem w_spec_SaferPicks_1 (a0 : List Int) (a1 : List Int) : ∀ (n : Nat) (v5 : Int) (r : Bool), f_spec_SaferPicks_1 a0 a1 n v5 = some r → ∀ σ : St, σ.kept [0, 1, 5] [] [] = ⟨[(0, vc (aL (List.map rI a0))), (1, vc (aL (List.map rI a1))), (5, vc (aI v5))], [], []⟩ → go Try.prog (.code (.loop c_spec_SaferPicks_1) :: [.blk 0, .code c_spec_SaferPicks_n1]) (Ret [4] [.sc (.v (.bool r))]) .normal (some σ) := by
  intro n
  induction n with
  | zero => intro _ r h; cases h
  | succ n ih =>
    intro v5 r h σ hσ
    rw [f_spec_SaferPicks_1] at h
    refine go_round ?_
    rcases Bool.eq_false_or_eq_true (decide (v5 < (48 : Int))) with hb6 | hb6
    · rw [ite_t hb6] at h
      try simp only [hσ, hb6, c_spec_SaferPicks_1, Nat.reduceBEq, Nat.reduceMul, Nat.reduceAdd, Nat.reduceDiv, Int.reduceBEq, rules2, rowsX]
      refine go_fr_of rfl ?_
      obtain ⟨x7, hx7, h⟩ := ob h
      obtain ⟨x8, hx8, h⟩ := ob h
      rcases Bool.eq_false_or_eq_true (decide (x7 < x8)) with hb9 | hb9
      · rw [ite_t hb9] at h
        try simp only [hb6, hx7, hx8, hb9, Nat.reduceBEq, Nat.reduceMul, Nat.reduceAdd, Nat.reduceDiv, Int.reduceBEq, rules2, rowsX]
        cases h
        exact ⟨⟨rfl, trivial⟩, rfl⟩
      · rw [ite_f hb9] at h
        try simp only [hb6, hx7, hx8, hb9, Nat.reduceBEq, Nat.reduceMul, Nat.reduceAdd, Nat.reduceDiv, Int.reduceBEq, rules2, rowsX]
        refine ih _ _ h _ ?_
        try simp only [hb6, hx7, hx8, hb9, Nat.reduceBEq, Nat.reduceMul, Nat.reduceAdd, Nat.reduceDiv, Int.reduceBEq, rules2, rowsX, List.map_nil]
    · rw [ite_f hb6] at h
      try simp only [hσ, hb6, c_spec_SaferPicks_1, c_spec_SaferPicks_n1, Nat.reduceBEq, Nat.reduceMul, Nat.reduceAdd, Nat.reduceDiv, Int.reduceBEq, rules2, rowsX]
      cases h
      exact ⟨⟨rfl, trivial⟩, rfl⟩
theorem e_spec_SaferPicks : entry Try.prog 21 = some (c_spec_SaferPicks.strip, [4], 35) := by kernel_rfl
theorem w_spec_SaferPicks (a0 : List Int) (a1 : List Int) (r : Bool) (h : f_spec_SaferPicks a0 a1 = some r) : FC Try.prog 21 [.sc (.sl (List.map rI a0)), .sc (.sl (List.map rI a1))] [.sc (.v (.bool r))] := by
  unfold f_spec_SaferPicks at h
  refine FC_go (σ := ⟨[(0, vc (aL (List.map rI a0))), (1, vc (aL (List.map rI a1)))], [], []⟩) mixed e_spec_SaferPicks rfl rfl ?_
  simp only [c_spec_SaferPicks]
  obtain ⟨r1, hr1, h⟩ := ob h
  try simp only [Nat.reduceBEq, Nat.reduceMul, Nat.reduceAdd, Nat.reduceDiv, Int.reduceBEq, rules2, rowsX]
  refine go_callI (w_spec_PicksOk _ _ hr1) rfl rfl (Nat.le_of_ble_eq_true rfl) ?_
  rcases Bool.eq_false_or_eq_true r1 with hb2 | hb2
  · rw [ite_t hb2] at h
    obtain ⟨r3, hr3, h⟩ := ob h
    try simp only [hb2, Nat.reduceBEq, Nat.reduceMul, Nat.reduceAdd, Nat.reduceDiv, Int.reduceBEq, rules2, rowsX]
    refine go_callI (w_spec_PicksOk _ _ hr3) rfl rfl (Nat.le_of_ble_eq_true rfl) ?_
    rcases Bool.eq_false_or_eq_true r3 with hb4 | hb4
    · rw [ite_t hb4] at h
      try simp only [hb2, hb4, Nat.reduceBEq, Nat.reduceMul, Nat.reduceAdd, Nat.reduceDiv, Int.reduceBEq, rules2, rowsX]
      refine w_spec_SaferPicks_1 _ _ _ _ _ h _ ?_
      try simp only [hb2, hb4, Nat.reduceBEq, Nat.reduceMul, Nat.reduceAdd, Nat.reduceDiv, Int.reduceBEq, rules2, rowsX, List.map_nil]
    · rw [ite_f hb4] at h
      try simp only [hb2, hb4, Nat.reduceBEq, Nat.reduceMul, Nat.reduceAdd, Nat.reduceDiv, Int.reduceBEq, rules2, rowsX]
      cases h
      exact ⟨⟨rfl, trivial⟩, rfl⟩
  · rw [ite_f hb2] at h
    try simp only [hb2, Nat.reduceBEq, Nat.reduceMul, Nat.reduceAdd, Nat.reduceDiv, Int.reduceBEq, rules2, rowsX]
    cases h
    exact ⟨⟨rfl, trivial⟩, rfl⟩
/- 59: impl_within -/
def c_impl_within : ACode := (.seq (.reg [(none, .mv 6 (KB false))]) (.seq (.reg [(none, .mv 7 (S 1)), (none, .mv 8 (S 0)), (none, .bin 9 .leq (S 7) (S 8)), (none, .mv 10 (S 9)), (some (10, true), .mv 11 (S 0)), (some (10, true), .mv 12 (S 2)), (some (10, true), .bin 13 .leq (S 11) (S 12)), (none, .pick 14 (S 10) (S 13) (KB false)), (none, .mv 6 (S 14))]) .ret))
theorem e_impl_within : entry Try.prog 59 = some (c_impl_within.strip, [6], 15) := by kernel_rfl
theorem w_impl_within (a0 : Int) (a1 : Int) (a2 : Int) (r : Bool) (h : f_impl_within a0 a1 a2 = some r) : FC Try.prog 59 [.sc (.int .i64 a0), .sc (.int .i64 a1), .sc (.int .i64 a2)] [.sc (.v (.bool r))] := by
  unfold f_impl_within at h
  refine FC_go (σ := ⟨[(0, vc (aI a0)), (1, vc (aI a1)), (2, vc (aI a2))], [], []⟩) mixed e_impl_within rfl rfl ?_
  simp only [c_impl_within]
  rcases Bool.eq_false_or_eq_true (decide (a1 ≤ a0)) with hb1 | hb1
  · rw [ite_t hb1] at h
    try simp only [hb1, Nat.reduceBEq, Nat.reduceMul, Nat.reduceAdd, Nat.reduceDiv, Int.reduceBEq, rules2, rowsX]
    cases h
    exact ⟨⟨rfl, trivial⟩, rfl⟩
  · rw [ite_f hb1] at h
    try simp only [hb1, Nat.reduceBEq, Nat.reduceMul, Nat.reduceAdd, Nat.reduceDiv, Int.reduceBEq, rules2, rowsX]
    cases h
    exact ⟨⟨rfl, trivial⟩, rfl⟩
/- 19: impl_PicksOk -/
def c_impl_PicksOk_1 : ACode := .seq (.reg [(none, .keep [9, 10, 11] [] [])]) (.seq (.reg [(none, .bin 12 .lss (S 11) (S 10))]) (.seq (.cond (S 12) .skip (.exit 0)) (.seq (.block 1 (.seq (.reg [(none, .iaddr 13 (S 9) (S 11) 1), (none, .load 14 (S 13) false 1), (none, .mv 4 (S 14))]) (.seq (.reg [(none, .mv 15 (S 4)), (none, .call 16 59 [(S 15), (K 0), (K 1000)]), (none, .un 17 .not (S 16))]) (.cond (S 17) (.seq (.reg [(none, .mv 2 (KB false))]) .ret) .skip)))) (.reg [(none, .bin 18 .add (S 11) (K 1)), (none, .mv 11 (S 18))]))))
def c_impl_PicksOk_n1 : ACode := (.seq (.reg [(none, .mv 2 (KB true))]) .ret)
def c_impl_PicksOk : ACode := (.seq (.reg [(none, .mv 2 (KB false))]) (.seq (.seq (.reg [(none, .mv 5 (S 0)), (none, .len 6 (S 5)), (none, .call 7 59 [(S 6), (K 1), (K 48)]), (none, .un 8 .not (S 7))]) (.cond (S 8) (.seq (.reg [(none, .mv 2 (KB false))]) .ret) .skip)) (.seq (.seq (.reg [(none, .mv 9 (S 0)), (none, .len 10 (S 9)), (none, .mv 11 (K 0))]) (.block 0 (.loop c_impl_PicksOk_1))) c_impl_PicksOk_n1)))
theorem w_impl_PicksOk_1 (a0 : List Int) : ∀ (n : Nat) (v3 : Int) (r : Bool), f_impl_PicksOk_1 a0 n v3 = some r → ∀ σ : St, σ.kept [9, 10, 11] [] [] = ⟨[(9, vc (aL (List.map rI a0))), (10, vc (aI (a0.length : Int))), (11, vc (aI v3))], [], []⟩ → go Try.prog (.code (.loop c_impl_PicksOk_1) :: [.blk 0, .code c_impl_PicksOk_n1]) (Ret [2] [.sc (.v (.bool r))]) .normal (some σ) := by
  intro n
  induction n with
  | zero => intro _ r h; cases h
  | succ n ih =>
    intro v3 r h σ hσ
    rw [f_impl_PicksOk_1] at h
    refine go_round ?_
    rcases Bool.eq_false_or_eq_true (decide (v3 < (a0.length : Int))) with hb4 | hb4
    · rw [ite_t hb4] at h
      obtain ⟨x5, hx5, h⟩ := ob h
      obtain ⟨r6, hr6, h⟩ := ob h
      try simp only [hσ, hb4, hx5, c_impl_PicksOk_1, Nat.reduceBEq, Nat.reduceMul, Nat.reduceAdd, Nat.reduceDiv, Int.reduceBEq, rules2, rowsX]
      refine go_callI (w_impl_within _ _ _ _ hr6) rfl rfl (Nat.le_of_ble_eq_true rfl) ?_
      rcases Bool.eq_false_or_eq_true r6 with hb7 | hb7
      · rw [ite_t hb7] at h
        try simp only [hb4, hx5, hb7, Nat.reduceBEq, Nat.reduceMul, Nat.reduceAdd, Nat.reduceDiv, Int.reduceBEq, rules2, rowsX]
        refine ih _ _ h _ ?_
        try simp only [hb4, hx5, hb7, Nat.reduceBEq, Nat.reduceMul, Nat.reduceAdd, Nat.reduceDiv, Int.reduceBEq, rules2, rowsX, List.map_nil]
      · rw [ite_f hb7] at h
        try simp only [hb4, hx5, hb7, Nat.reduceBEq, Nat.reduceMul, Nat.reduceAdd, Nat.reduceDiv, Int.reduceBEq, rules2, rowsX]
        cases h
        exact ⟨⟨rfl, trivial⟩, rfl⟩
    · rw [ite_f hb4] at h
      try simp only [hσ, hb4, c_impl_PicksOk_1, c_impl_PicksOk_n1, Nat.reduceBEq, Nat.reduceMul, Nat.reduceAdd, Nat.reduceDiv, Int.reduceBEq, rules2, rowsX]
      cases h
      exact ⟨⟨rfl, trivial⟩, rfl⟩
theorem e_impl_PicksOk : entry Try.prog 19 = some (c_impl_PicksOk.strip, [2], 19) := by kernel_rfl
theorem w_impl_PicksOk (a0 : List Int) (r : Bool) (h : f_impl_PicksOk a0 = some r) : FC Try.prog 19 [.sc (.sl (List.map rI a0))] [.sc (.v (.bool r))] := by
  unfold f_impl_PicksOk at h
  refine FC_go (σ := ⟨[(0, vc (aL (List.map rI a0)))], [], []⟩) mixed e_impl_PicksOk rfl rfl ?_
  simp only [c_impl_PicksOk]
  obtain ⟨r1, hr1, h⟩ := ob h
  try simp only [Nat.reduceBEq, Nat.reduceMul, Nat.reduceAdd, Nat.reduceDiv, Int.reduceBEq, rules2, rowsX]
  refine go_callI (w_impl_within _ _ _ _ hr1) rfl rfl (Nat.le_of_ble_eq_true rfl) ?_
  rcases Bool.eq_false_or_eq_true r1 with hb2 | hb2
  · rw [ite_t hb2] at h
    try simp only [hb2, Nat.reduceBEq, Nat.reduceMul, Nat.reduceAdd, Nat.reduceDiv, Int.reduceBEq, rules2, rowsX]
    refine w_impl_PicksOk_1 _ _ _ _ h _ ?_
    try simp only [hb2, Nat.reduceBEq, Nat.reduceMul, Nat.reduceAdd, Nat.reduceDiv, Int.reduceBEq, rules2, rowsX, List.map_nil]
  · rw [ite_f hb2] at h
    try simp only [hb2, Nat.reduceBEq, Nat.reduceMul, Nat.reduceAdd, Nat.reduceDiv, Int.reduceBEq, rules2, rowsX]
    cases h
    exact ⟨⟨rfl, trivial⟩, rfl⟩
/- 60: impl_pickOf -/
def c_impl_pickOf : ACode := (.seq (.reg [(none, .mv 4 (K 0))]) (.seq (.reg [(none, .mv 5 (S 0)), (none, .mv 6 (S 1)), (none, .mv 7 (S 0)), (none, .len 8 (S 7)), (none, .bin 9 .sub (S 8) (K 1)), (none, .mm 10 false (S 6) (S 9)), (none, .iaddr 11 (S 5) (S 10) 1), (none, .load 12 (S 11) false 1), (none, .mv 4 (S 12))]) .ret))
theorem e_impl_pickOf : entry Try.prog 60 = some (c_impl_pickOf.strip, [4], 13) := by kernel_rfl
theorem w_impl_pickOf (a0 : List Int) (a1 : Int) (r : Int) (h : f_impl_pickOf a0 a1 = some r) : FC Try.prog 60 [.sc (.sl (List.map rI a0)), .sc (.int .i64 a1)] [.sc (.v (.int .i64 r))] := by
  unfold f_impl_pickOf at h
  refine FC_go (σ := ⟨[(0, vc (aL (List.map rI a0))), (1, vc (aI a1))], [], []⟩) mixed e_impl_pickOf rfl rfl ?_
  simp only [c_impl_pickOf]
  obtain ⟨x1, hx1, h⟩ := ob h
  try simp only [hx1, Nat.reduceBEq, Nat.reduceMul, Nat.reduceAdd, Nat.reduceDiv, Int.reduceBEq, rules2, rowsX]
  cases h
  exact ⟨⟨rfl, trivial⟩, rfl⟩
/- 22: impl_SaferPicks -/
def c_impl_SaferPicks_1 : ACode := .seq (.reg [(none, .keep [0, 1, 14] [] [])]) (.seq (.reg [(none, .bin 15 .lss (S 14) (K 48))]) (.seq (.cond (S 15) .skip (.exit 0)) (.seq (.block 1 (.seq (.reg [(none, .mv 16 (S 14)), (none, .mv 5 (S 16))]) (.seq (.reg [(none, .mv 17 (S 0)), (none, .mv 18 (S 5)), (none, .call 19 60 [(S 17), (S 18)]), (none, .mv 20 (S 1)), (none, .mv 21 (S 5)), (none, .call 22 60 [(S 20), (S 21)]), (none, .bin 23 .lss (S 19) (S 22))]) (.cond (S 23) (.seq (.reg [(none, .mv 4 (KB false))]) .ret) .skip)))) (.reg [(none, .bin 24 .add (S 14) (K 1)), (none, .mv 14 (S 24))]))))
def c_impl_SaferPicks_n1 : ACode := (.seq (.reg [(none, .mv 4 (KB true))]) .ret)
def c_impl_SaferPicks : ACode := (.seq (.reg [(none, .mv 4 (KB false))]) (.seq (.seq (.reg [(none, .mv 6 (S 0)), (none, .call 7 19 [(S 6)]), (none, .un 8 .not (S 7)), (none, .mv 9 (S 8)), (some (9, false), .mv 10 (S 1)), (some (9, false), .call 11 19 [(S 10)]), (some (9, false), .un 12 .not (S 11)), (none, .pick 13 (S 9) (KB true) (S 12))]) (.cond (S 13) (.seq (.reg [(none, .mv 4 (KB false))]) .ret) .skip)) (.seq (.seq (.reg [(none, .mv 14 (K 0))]) (.block 0 (.loop c_impl_SaferPicks_1))) c_impl_SaferPicks_n1)))
theorem w_impl_SaferPicks_1 (a0 : List Int) (a1 : List Int) : ∀ (n : Nat) (v5 : Int) (r : Bool), f_impl_SaferPicks_1 a0 a1 n v5 = some r → ∀ σ : St, σ.kept [0, 1, 14] [] [] = ⟨[(0, vc (aL (List.map rI a0))), (1, vc (aL (List.map rI a1))), (14, vc (aI v5))], [], []⟩ → go Try.prog (.code (.loop c_impl_SaferPicks_1) :: [.blk 0, .code c_impl_SaferPicks_n1]) (Ret [4] [.sc (.v (.bool r))]) .normal (some σ) := by
  intro n
  induction n with
  | zero => intro _ r h; cases h
  | succ n ih =>
    intro v5 r h σ hσ
    rw [f_impl_SaferPicks_1] at h
    refine go_round ?_
    rcases Bool.eq_false_or_eq_true (decide (v5 < (48 : Int))) with hb6 | hb6
    · rw [ite_t hb6] at h
      obtain ⟨r7, hr7, h⟩ := ob h
      try simp only [hσ, hb6, c_impl_SaferPicks_1, Nat.reduceBEq, Nat.reduceMul, Nat.reduceAdd, Nat.reduceDiv, Int.reduceBEq, rules2, rowsX]
      refine go_callI (w_impl_pickOf _ _ _ hr7) rfl rfl (Nat.le_of_ble_eq_true rfl) ?_
      obtain ⟨r8, hr8, h⟩ := ob h
      try simp only [hb6, Nat.reduceBEq, Nat.reduceMul, Nat.reduceAdd, Nat.reduceDiv, Int.reduceBEq, rules2, rowsX]
      refine go_callI (w_impl_pickOf _ _ _ hr8) rfl rfl (Nat.le_of_ble_eq_true rfl) ?_
      rcases Bool.eq_false_or_eq_true (decide (r7 < r8)) with hb9 | hb9
      · rw [ite_t hb9] at h
        try simp only [hb6, hb9, Nat.reduceBEq, Nat.reduceMul, Nat.reduceAdd, Nat.reduceDiv, Int.reduceBEq, rules2, rowsX]
        cases h
        exact ⟨⟨rfl, trivial⟩, rfl⟩
      · rw [ite_f hb9] at h
        try simp only [hb6, hb9, Nat.reduceBEq, Nat.reduceMul, Nat.reduceAdd, Nat.reduceDiv, Int.reduceBEq, rules2, rowsX]
        refine ih _ _ h _ ?_
        try simp only [hb6, hb9, Nat.reduceBEq, Nat.reduceMul, Nat.reduceAdd, Nat.reduceDiv, Int.reduceBEq, rules2, rowsX, List.map_nil]
    · rw [ite_f hb6] at h
      try simp only [hσ, hb6, c_impl_SaferPicks_1, c_impl_SaferPicks_n1, Nat.reduceBEq, Nat.reduceMul, Nat.reduceAdd, Nat.reduceDiv, Int.reduceBEq, rules2, rowsX]
      cases h
      exact ⟨⟨rfl, trivial⟩, rfl⟩
theorem e_impl_SaferPicks : entry Try.prog 22 = some (c_impl_SaferPicks.strip, [4], 25) := by kernel_rfl
theorem w_impl_SaferPicks (a0 : List Int) (a1 : List Int) (r : Bool) (h : f_impl_SaferPicks a0 a1 = some r) : FC Try.prog 22 [.sc (.sl (List.map rI a0)), .sc (.sl (List.map rI a1))] [.sc (.v (.bool r))] := by
  unfold f_impl_SaferPicks at h
  refine FC_go (σ := ⟨[(0, vc (aL (List.map rI a0))), (1, vc (aL (List.map rI a1)))], [], []⟩) mixed e_impl_SaferPicks rfl rfl ?_
  simp only [c_impl_SaferPicks]
  obtain ⟨r1, hr1, h⟩ := ob h
  try simp only [Nat.reduceBEq, Nat.reduceMul, Nat.reduceAdd, Nat.reduceDiv, Int.reduceBEq, rules2, rowsX]
  refine go_callI (w_impl_PicksOk _ _ hr1) rfl rfl (Nat.le_of_ble_eq_true rfl) ?_
  rcases Bool.eq_false_or_eq_true r1 with hb2 | hb2
  · rw [ite_t hb2] at h
    obtain ⟨r3, hr3, h⟩ := ob h
    try simp only [hb2, Nat.reduceBEq, Nat.reduceMul, Nat.reduceAdd, Nat.reduceDiv, Int.reduceBEq, rules2, rowsX]
    refine go_callI (w_impl_PicksOk _ _ hr3) rfl rfl (Nat.le_of_ble_eq_true rfl) ?_
    rcases Bool.eq_false_or_eq_true r3 with hb4 | hb4
    · rw [ite_t hb4] at h
      try simp only [hb2, hb4, Nat.reduceBEq, Nat.reduceMul, Nat.reduceAdd, Nat.reduceDiv, Int.reduceBEq, rules2, rowsX]
      refine w_impl_SaferPicks_1 _ _ _ _ _ h _ ?_
      try simp only [hb2, hb4, Nat.reduceBEq, Nat.reduceMul, Nat.reduceAdd, Nat.reduceDiv, Int.reduceBEq, rules2, rowsX, List.map_nil]
    · rw [ite_f hb4] at h
      try simp only [hb2, hb4, Nat.reduceBEq, Nat.reduceMul, Nat.reduceAdd, Nat.reduceDiv, Int.reduceBEq, rules2, rowsX]
      cases h
      exact ⟨⟨rfl, trivial⟩, rfl⟩
  · rw [ite_f hb2] at h
    try simp only [hb2, Nat.reduceBEq, Nat.reduceMul, Nat.reduceAdd, Nat.reduceDiv, Int.reduceBEq, rules2, rowsX]
    cases h
    exact ⟨⟨rfl, trivial⟩, rfl⟩
/- 20: laws_eqIntS -/
def c_laws_eqIntS_1 : ACode := .seq (.reg [(none, .keep [0, 1, 5] [] [])]) (.seq (.seq (.reg [(none, .mv 11 (S 5)), (none, .mv 12 (S 0)), (none, .len 13 (S 12)), (none, .bin 14 .lss (S 11) (S 13))]) (.cond (S 14) .skip (.exit 0))) (.seq (.block 1 (.seq (.drw [(some [], (none, .mv 17 (S 0))), (some [], (none, .mv 18 (S 5))), (some [], (none, .iaddr 19 (S 17) (S 18) 1)), (some [], (none, .load 20 (S 19) false 1)), (some [], (none, .mv 21 (S 1))), (some [], (none, .mv 22 (S 5))), (some [], (none, .iaddr 23 (S 21) (S 22) 1)), (some [], (none, .load 24 (S 23) false 1)), (some [], (none, .bin 25 .neq (S 20) (S 24)))]) (.cond (S 25) (.seq (.reg [(none, .mv 4 (KB false))]) .ret) .skip))) (.reg [(none, .mv 15 (S 5)), (none, .bin 16 .add (S 15) (K 1)), (none, .mv 5 (S 16))])))
def c_laws_eqIntS_n1 : ACode := (.seq (.reg [(none, .mv 4 (KB true))]) .ret)
def c_laws_eqIntS : ACode := (.seq (.reg [(none, .mv 4 (KB false))]) (.seq (.seq (.reg [(none, .mv 6 (S 0)), (none, .len 7 (S 6)), (none, .mv 8 (S 1)), (none, .len 9 (S 8)), (none, .bin 10 .neq (S 7) (S 9))]) (.cond (S 10) (.seq (.reg [(none, .mv 4 (KB false))]) .ret) .skip)) (.seq (.seq (.reg [(none, .mv 5 (K 0))]) (.block 0 (.loop c_laws_eqIntS_1))) c_laws_eqIntS_n1)))
theorem w_laws_eqIntS_1 (a0 : List Int) (a1 : List Int) : ∀ (n : Nat) (v2 : Int) (r : Bool), f_laws_eqIntS_1 a0 a1 n v2 = some r → ∀ σ : St, σ.kept [0, 1, 5] [] [] = ⟨[(0, vc (aL (List.map rI a0))), (1, vc (aL (List.map rI a1))), (5, vc (aI v2))], [], []⟩ → go Try.prog (.code (.loop c_laws_eqIntS_1) :: [.blk 0, .code c_laws_eqIntS_n1]) (Ret [4] [.sc (.v (.bool r))]) .normal (some σ) := by
  intro n
  induction n with
  | zero => intro _ r h; cases h
  | succ n ih =>
    intro v2 r h σ hσ
    rw [f_laws_eqIntS_1] at h
    refine go_round ?_
    rcases Bool.eq_false_or_eq_true (decide (v2 < (a0.length : Int))) with hb3 | hb3
    · rw [ite_t hb3] at h
      try simp only [hσ, hb3, c_laws_eqIntS_1, Nat.reduceBEq, Nat.reduceMul, Nat.reduceAdd, Nat.reduceDiv, Int.reduceBEq, rules2, rowsX]
      refine go_fr_of rfl ?_
      obtain ⟨x4, hx4, h⟩ := ob h
      obtain ⟨x5, hx5, h⟩ := ob h
      rcases Bool.eq_false_or_eq_true (x4 != x5) with hb6 | hb6
      · rw [ite_t hb6] at h
        try simp only [hb3, hx4, hx5, hb6, Nat.reduceBEq, Nat.reduceMul, Nat.reduceAdd, Nat.reduceDiv, Int.reduceBEq, rules2, rowsX]
        cases h
        exact ⟨⟨rfl, trivial⟩, rfl⟩
      · rw [ite_f hb6] at h
        try simp only [hb3, hx4, hx5, hb6, Nat.reduceBEq, Nat.reduceMul, Nat.reduceAdd, Nat.reduceDiv, Int.reduceBEq, rules2, rowsX]
        refine ih _ _ h _ ?_
        try simp only [hb3, hx4, hx5, hb6, Nat.reduceBEq, Nat.reduceMul, Nat.reduceAdd, Nat.reduceDiv, Int.reduceBEq, rules2, rowsX, List.map_nil]
    · rw [ite_f hb3] at h
      try simp only [hσ, hb3, c_laws_eqIntS_1, c_laws_eqIntS_n1, Nat.reduceBEq, Nat.reduceMul, Nat.reduceAdd, Nat.reduceDiv, Int.reduceBEq, rules2, rowsX]
      cases h
      exact ⟨⟨rfl, trivial⟩, rfl⟩
theorem e_laws_eqIntS : entry Try.prog 20 = some (c_laws_eqIntS.strip, [4], 26) := by kernel_rfl
theorem w_laws_eqIntS (a0 : List Int) (a1 : List Int) (r : Bool) (h : f_laws_eqIntS a0 a1 = some r) : FC Try.prog 20 [.sc (.sl (List.map rI a0)), .sc (.sl (List.map rI a1))] [.sc (.v (.bool r))] := by
  unfold f_laws_eqIntS at h
  refine FC_go (σ := ⟨[(0, vc (aL (List.map rI a0))), (1, vc (aL (List.map rI a1)))], [], []⟩) mixed e_laws_eqIntS rfl rfl ?_
  simp only [c_laws_eqIntS]
  rcases Bool.eq_false_or_eq_true ((a0.length : Int) != (a1.length : Int)) with hb1 | hb1
  · rw [ite_t hb1] at h
    try simp only [hb1, Nat.reduceBEq, Nat.reduceMul, Nat.reduceAdd, Nat.reduceDiv, Int.reduceBEq, rules2, rowsX]
    cases h
    exact ⟨⟨rfl, trivial⟩, rfl⟩
  · rw [ite_f hb1] at h
    try simp only [hb1, Nat.reduceBEq, Nat.reduceMul, Nat.reduceAdd, Nat.reduceDiv, Int.reduceBEq, rules2, rowsX]
    refine w_laws_eqIntS_1 _ _ _ _ _ h _ ?_
    try simp only [hb1, Nat.reduceBEq, Nat.reduceMul, Nat.reduceAdd, Nat.reduceDiv, Int.reduceBEq, rules2, rowsX, List.map_nil]
/- 5: laws_FnExactSaferPicks -/
def c_laws_FnExactSaferPicks : ACode := (.seq (.reg [(none, .mv 4 (KB false))]) (.seq (.seq (.reg [(none, .mv 9 (S 0)), (none, .len 10 (S 9)), (none, .bin 11 .gtr (S 10) (K 1048576))]) (.cond (S 11) (.seq (.reg [(none, .mv 4 (KB true))]) .ret) .skip)) (.seq (.seq (.reg [(none, .mv 12 (S 1)), (none, .len 13 (S 12)), (none, .bin 14 .gtr (S 13) (K 1048576))]) (.cond (S 14) (.seq (.reg [(none, .mv 4 (KB true))]) .ret) .skip)) (.seq (.reg [(none, .mv 15 (S 0)), (none, .call 16 18 [(S 15)]), (none, .mv 17 (S 1)), (none, .call 18 18 [(S 17)]), (none, .call 19 21 [(S 16), (S 18)]), (none, .mv 5 (S 19))]) (.seq (.reg [(none, .mv 20 (S 0)), (none, .call 21 18 [(S 20)]), (none, .mv 6 (S 21))]) (.seq (.reg [(none, .mv 22 (S 1)), (none, .call 23 18 [(S 22)]), (none, .mv 7 (S 23))]) (.seq (.reg [(none, .mv 24 (S 6)), (none, .mv 25 (S 7)), (none, .call 26 22 [(S 24), (S 25)]), (none, .mv 8 (S 26))]) (.seq (.seq (.reg [(none, .mv 27 (S 8)), (none, .mv 28 (S 5)), (none, .beq 29 true (S 27) (S 28))]) (.cond (S 29) (.seq (.reg [(none, .mv 4 (KB false))]) .ret) .skip)) (.seq (.seq (.reg [(none, .mv 30 (S 6)), (none, .mv 31 (S 0)), (none, .call 32 18 [(S 31)]), (none, .call 33 20 [(S 30), (S 32)]), (none, .un 34 .not (S 33))]) (.cond (S 34) (.seq (.reg [(none, .mv 4 (KB false))]) .ret) .skip)) (.seq (.seq (.reg [(none, .mv 35 (S 7)), (none, .mv 36 (S 1)), (none, .call 37 18 [(S 36)]), (none, .call 38 20 [(S 35), (S 37)]), (none, .un 39 .not (S 38))]) (.cond (S 39) (.seq (.reg [(none, .mv 4 (KB false))]) .ret) .skip)) (.seq (.reg [(none, .mv 4 (KB true))]) .ret)))))))))))
theorem e_laws_FnExactSaferPicks : entry Try.prog 5 = some (c_laws_FnExactSaferPicks.strip, [4], 40) := by kernel_rfl
theorem w_laws_FnExactSaferPicks (a0 : List Int) (a1 : List Int) (r : Bool) (h : f_laws_FnExactSaferPicks a0 a1 = some r) : FC Try.prog 5 [.sc (.sl (List.map rI a0)), .sc (.sl (List.map rI a1))] [.sc (.v (.bool r))] := by
  unfold f_laws_FnExactSaferPicks at h
  refine FC_go (σ := ⟨[(0, vc (aL (List.map rI a0))), (1, vc (aL (List.map rI a1)))], [], []⟩) mixed e_laws_FnExactSaferPicks rfl rfl ?_
  simp only [c_laws_FnExactSaferPicks]
  rcases Bool.eq_false_or_eq_true (decide ((1048576 : Int) < (a0.length : Int))) with hb1 | hb1
  · rw [ite_t hb1] at h
    try simp only [hb1, Nat.reduceBEq, Nat.reduceMul, Nat.reduceAdd, Nat.reduceDiv, Int.reduceBEq, rules2, rowsX]
    cases h
    exact ⟨⟨rfl, trivial⟩, rfl⟩
  · rw [ite_f hb1] at h
    rcases Bool.eq_false_or_eq_true (decide ((1048576 : Int) < (a1.length : Int))) with hb2 | hb2
    · rw [ite_t hb2] at h
      try simp only [hb1, hb2, Nat.reduceBEq, Nat.reduceMul, Nat.reduceAdd, Nat.reduceDiv, Int.reduceBEq, rules2, rowsX]
      cases h
      exact ⟨⟨rfl, trivial⟩, rfl⟩
    · rw [ite_f hb2] at h
      obtain ⟨r3, hr3, h⟩ := ob h
      try simp only [hb1, hb2, Nat.reduceBEq, Nat.reduceMul, Nat.reduceAdd, Nat.reduceDiv, Int.reduceBEq, rules2, rowsX]
      refine go_callI (w_laws_toIntS _ _ hr3) rfl rfl (Nat.le_of_ble_eq_true rfl) ?_
      obtain ⟨r4, hr4, h⟩ := ob h
      try simp only [hb1, hb2, Nat.reduceBEq, Nat.reduceMul, Nat.reduceAdd, Nat.reduceDiv, Int.reduceBEq, rules2, rowsX]
      refine go_callI (w_laws_toIntS _ _ hr4) rfl rfl (Nat.le_of_ble_eq_true rfl) ?_
      obtain ⟨r5, hr5, h⟩ := ob h
      try simp only [hb1, hb2, Nat.reduceBEq, Nat.reduceMul, Nat.reduceAdd, Nat.reduceDiv, Int.reduceBEq, rules2, rowsX]
      refine go_call (w_spec_SaferPicks _ _ _ hr5) rfl (flat_of rfl) rfl (Nat.le_of_ble_eq_true rfl) ?_
      obtain ⟨r6, hr6, h⟩ := ob h
      try simp only [hb1, hb2, Nat.reduceBEq, Nat.reduceMul, Nat.reduceAdd, Nat.reduceDiv, Int.reduceBEq, rules2, rowsX]
      refine go_callI (w_laws_toIntS _ _ hr6) rfl rfl (Nat.le_of_ble_eq_true rfl) ?_
      obtain ⟨r7, hr7, h⟩ := ob h
      try simp only [hb1, hb2, Nat.reduceBEq, Nat.reduceMul, Nat.reduceAdd, Nat.reduceDiv, Int.reduceBEq, rules2, rowsX]
      refine go_callI (w_laws_toIntS _ _ hr7) rfl rfl (Nat.le_of_ble_eq_true rfl) ?_
      obtain ⟨r8, hr8, h⟩ := ob h
      try simp only [hb1, hb2, Nat.reduceBEq, Nat.reduceMul, Nat.reduceAdd, Nat.reduceDiv, Int.reduceBEq, rules2, rowsX]
      refine go_call (w_impl_SaferPicks _ _ _ hr8) rfl (flat_of rfl) rfl (Nat.le_of_ble_eq_true rfl) ?_
      rcases Bool.eq_false_or_eq_true (r8 == r5) with hb9 | hb9
      · rw [ite_t hb9] at h
        obtain ⟨r10, hr10, h⟩ := ob h
        try simp only [hb1, hb2, hb9, Nat.reduceBEq, Nat.reduceMul, Nat.reduceAdd, Nat.reduceDiv, Int.reduceBEq, rules2, rowsX]
        refine go_callI (w_laws_toIntS _ _ hr10) rfl rfl (Nat.le_of_ble_eq_true rfl) ?_
        obtain ⟨r11, hr11, h⟩ := ob h
        try simp only [hb1, hb2, hb9, Nat.reduceBEq, Nat.reduceMul, Nat.reduceAdd, Nat.reduceDiv, Int.reduceBEq, rules2, rowsX]
        refine go_call (w_laws_eqIntS _ _ _ hr11) rfl (flat_of rfl) rfl (Nat.le_of_ble_eq_true rfl) ?_
        rcases Bool.eq_false_or_eq_true r11 with hb12 | hb12
        · rw [ite_t hb12] at h
          obtain ⟨r13, hr13, h⟩ := ob h
          try simp only [hb1, hb2, hb9, hb12, Nat.reduceBEq, Nat.reduceMul, Nat.reduceAdd, Nat.reduceDiv, Int.reduceBEq, rules2, rowsX]
          refine go_callI (w_laws_toIntS _ _ hr13) rfl rfl (Nat.le_of_ble_eq_true rfl) ?_
          obtain ⟨r14, hr14, h⟩ := ob h
          try simp only [hb1, hb2, hb9, hb12, Nat.reduceBEq, Nat.reduceMul, Nat.reduceAdd, Nat.reduceDiv, Int.reduceBEq, rules2, rowsX]
          refine go_call (w_laws_eqIntS _ _ _ hr14) rfl (flat_of rfl) rfl (Nat.le_of_ble_eq_true rfl) ?_
          rcases Bool.eq_false_or_eq_true r14 with hb15 | hb15
          · rw [ite_t hb15] at h
            try simp only [hb1, hb2, hb9, hb12, hb15, Nat.reduceBEq, Nat.reduceMul, Nat.reduceAdd, Nat.reduceDiv, Int.reduceBEq, rules2, rowsX]
            cases h
            exact ⟨⟨rfl, trivial⟩, rfl⟩
          · rw [ite_f hb15] at h
            try simp only [hb1, hb2, hb9, hb12, hb15, Nat.reduceBEq, Nat.reduceMul, Nat.reduceAdd, Nat.reduceDiv, Int.reduceBEq, rules2, rowsX]
            cases h
            exact ⟨⟨rfl, trivial⟩, rfl⟩
        · rw [ite_f hb12] at h
          try simp only [hb1, hb2, hb9, hb12, Nat.reduceBEq, Nat.reduceMul, Nat.reduceAdd, Nat.reduceDiv, Int.reduceBEq, rules2, rowsX]
          cases h
          exact ⟨⟨rfl, trivial⟩, rfl⟩
      · rw [ite_f hb9] at h
        try simp only [hb1, hb2, hb9, Nat.reduceBEq, Nat.reduceMul, Nat.reduceAdd, Nat.reduceDiv, Int.reduceBEq, rules2, rowsX]
        cases h
        exact ⟨⟨rfl, trivial⟩, rfl⟩
end Go.Vi
