/-
  Walks: what the plain definitions compute is what the functions return. By program. No condition.
-/
import Derived.Test.YtnklncheopbfbaaNf
import Derived.Test.YtnklncheopbfbaaChecked
import Derived.KernelRfl
namespace Go.Vi
open Go.Proofs
set_option linter.unusedSimpArgs false
set_option linter.unusedVariables false
attribute [local irreducible] go AWP
theorem mixed : Try.prog.follows .mixedOrders = true := by kernel_rfl
/- 58: spec_l01In -/
def c_spec_l01In : ACode := (.seq (.reg [(none, .mv 6 (KB false))]) (.seq (.reg [(none, .mv 7 (S 0)), (none, .mv 8 (S 1)), (none, .bin 9 .geq (S 7) (S 8)), (none, .mv 10 (S 9)), (some (10, true), .mv 11 (S 0)), (some (10, true), .mv 12 (S 2)), (some (10, true), .bin 13 .leq (S 11) (S 12)), (none, .pick 14 (S 10) (S 13) (KB false)), (none, .mv 6 (S 14))]) .ret))
theorem e_spec_l01In : entry Try.prog 58 = some (c_spec_l01In.strip, [6], 15) := by kernel_rfl
theorem w_spec_l01In (a0 : Int) (a1 : Int) (a2 : Int) (r : Bool) (h : f_spec_l01In a0 a1 a2 = some r) : FC Try.prog 58 [.sc (.int .i64 a0), .sc (.int .i64 a1), .sc (.int .i64 a2)] [.sc (.v (.bool r))] := by
  unfold f_spec_l01In at h
  refine FC_go (σ := ⟨[(0, vc (aI a0)), (1, vc (aI a1)), (2, vc (aI a2))], [], []⟩) mixed e_spec_l01In rfl rfl ?_
  simp only [c_spec_l01In]
  rcases Bool.eq_false_or_eq_true (decide (a1 ≤ a0)) with hb1 | hb1
  · rw [ite_t hb1] at h
    try simp only [hb1, Nat.reduceBEq, Nat.reduceMul, Nat.reduceAdd, Nat.reduceDiv, Int.reduceBEq, rules2, rulesX, rowsX]
    cases h
    exact ⟨⟨rfl, trivial⟩, rfl⟩
  · rw [ite_f hb1] at h
    try simp only [hb1, Nat.reduceBEq, Nat.reduceMul, Nat.reduceAdd, Nat.reduceDiv, Int.reduceBEq, rules2, rulesX, rowsX]
    cases h
    exact ⟨⟨rfl, trivial⟩, rfl⟩
/- 39: spec_DeskNew -/
def c_spec_DeskNew_1 : ACode := .seq (.reg [(none, .keep [0, 2, 3, 4] [2, 3] [131136, 131200])]) (.seq (.seq (.reg [(none, .mv 10 (S 4)), (none, .mv 11 (S 0)), (none, .bin 12 .lss (S 10) (S 11))]) (.cond (S 12) .skip (.exit 0))) (.seq (.block 1 (.seq (.reg [(none, .faddr 15 (S 3) 1), (none, .load 16 (S 15) false 1), (none, .bslice 17 1 [.int .i64 0] 1 [(0, (K (-1)))]), (none, .app 18 1 8 (S 16) (S 17)), (none, .faddr 19 (S 3) 1), (none, .store (S 19) (S 18) 1)]) (.reg [(none, .faddr 20 (S 3) 2), (none, .load 21 (S 20) false 1), (none, .bslice 22 1 [.bool false] 1 [(0, (KB false))]), (none, .app 23 1 1 (S 21) (S 22)), (none, .faddr 24 (S 3) 2), (none, .store (S 24) (S 23) 1)]))) (.reg [(none, .mv 13 (S 4)), (none, .bin 14 .add (S 13) (K 1)), (none, .mv 4 (S 14))])))
def c_spec_DeskNew_n1 : ACode := (.seq (.reg [(none, .load 25 (S 3) true 3), (none, .store (S 2) (S 25) 3)]) .ret)
def c_spec_DeskNew : ACode := (.seq (.reg [(none, .alloc 2 [aI 0, .nil, .nil])]) (.seq (.reg [(none, .build 5 [aI 0, .nil, .nil] []), (none, .alloc 3 [aI 0, .nil, .nil]), (none, .store (S 3) (S 5) 3), (none, .ownb 3 1 131136 1), (none, .ownb 3 2 131200 1)]) (.seq (.seq (.reg [(none, .mv 6 (S 0)), (none, .call 7 58 [(S 6), (K 0), (K 6)]), (none, .un 8 .not (S 7))]) (.cond (S 8) (.seq (.reg [(none, .load 9 (S 3) true 3), (none, .store (S 2) (S 9) 3)]) .ret) .skip)) (.seq (.seq (.reg [(none, .mv 4 (K 0))]) (.block 0 (.loop c_spec_DeskNew_1))) c_spec_DeskNew_n1))))
theorem w_spec_DeskNew_1 (a0 : Int) : ∀ (n : Nat) (v3 : Int) (v4 : List Int) (v5 : List Bool) (r : XDesk), f_spec_DeskNew_1 a0 n v3 v4 v5 = some r → ∀ σ : St, σ.kept [0, 2, 3, 4] [2, 3] [131136, 131200] = ⟨[(0, vc (aI a0)), (2, vc (.pb 2 0)), (3, vc (.pb 3 0)), (4, vc (aI v3))], [(2, [aI (0 : Int), .nil, .nil]), (3, [aI (0 : Int), .own 131136, .own 131200])], [(131136, 1, List.map rI v4), (131200, 1, List.map rB v5)]⟩ → go Try.prog (.code (.loop c_spec_DeskNew_1) :: [.blk 0, .code c_spec_DeskNew_n1]) (Ret [.c 2 true 3] [.ag [.v (.int .i64 r.Now), .o 1 (List.map rI r.Starts), .o 1 (List.map rB r.Cleared)]]) .normal (some σ) := by
  intro n
  induction n with
  | zero => intro _ _ _ r h; cases h
  | succ n ih =>
    intro v3 v4 v5 r h σ hσ
    rw [f_spec_DeskNew_1] at h
    refine go_round ?_
    rcases Bool.eq_false_or_eq_true (decide (v3 < a0)) with hb6 | hb6
    · rw [ite_t hb6] at h
      try simp only [hσ, hb6, c_spec_DeskNew_1, Nat.reduceBEq, Nat.reduceMul, Nat.reduceAdd, Nat.reduceDiv, Int.reduceBEq, rules2, rulesX, rowsX]
      refine go_bsl (es := List.map rI ([(-1 : Int)] : List Int)) rfl rfl ?_
      obtain ⟨hg7, h⟩ := of_guard h
      try simp only [hb6, hg7, Nat.reduceBEq, Nat.reduceMul, Nat.reduceAdd, Nat.reduceDiv, Int.reduceBEq, rules2, rulesX, rowsX]
      refine go_bsl (es := List.map rB ([false] : List Bool)) rfl rfl ?_
      obtain ⟨hg8, h⟩ := of_guard h
      try simp only [hb6, hg7, hg8, Nat.reduceBEq, Nat.reduceMul, Nat.reduceAdd, Nat.reduceDiv, Int.reduceBEq, rules2, rulesX, rowsX]
      refine ih _ _ _ _ h _ ?_
      try simp only [hb6, hg7, hg8, Nat.reduceBEq, Nat.reduceMul, Nat.reduceAdd, Nat.reduceDiv, Int.reduceBEq, rules2, rulesX, rowsX, List.map_nil]
    · rw [ite_f hb6] at h
      try simp only [hσ, hb6, c_spec_DeskNew_1, c_spec_DeskNew_n1, Nat.reduceBEq, Nat.reduceMul, Nat.reduceAdd, Nat.reduceDiv, Int.reduceBEq, rules2, rulesX, rowsX]
      cases h
      try simp only [rulesR, Nat.reduceBEq, Nat.reduceMul, Nat.reduceAdd, Nat.reduceDiv, Int.reduceBEq, rules2, rulesX, rowsX]
      exact ⟨⟨⟨rfl, rfl, rfl, trivial⟩, trivial⟩, rfl⟩
theorem e_spec_DeskNew : entry Try.prog 39 = some (c_spec_DeskNew.strip, [.c 2 true 3], 26) := by kernel_rfl
theorem w_spec_DeskNew (a0 : Int) (r : XDesk) (h : f_spec_DeskNew a0 = some r) : FC Try.prog 39 [.sc (.int .i64 a0)] [.ag [.v (.int .i64 r.Now), .o 1 (List.map rI r.Starts), .o 1 (List.map rB r.Cleared)]] := by
  unfold f_spec_DeskNew at h
  refine FC_go (σ := ⟨[(0, vc (aI a0))], [], []⟩) mixed e_spec_DeskNew rfl rfl ?_
  simp only [c_spec_DeskNew]
  try simp only [Nat.reduceBEq, Nat.reduceMul, Nat.reduceAdd, Nat.reduceDiv, Int.reduceBEq, rules2, rulesX, rowsX]
  refine go_al rfl rfl ?_
  try simp only [Nat.reduceBEq, Nat.reduceMul, Nat.reduceAdd, Nat.reduceDiv, Int.reduceBEq, rules2, rulesX, rowsX]
  refine go_al rfl rfl ?_
  try simp only [Nat.reduceBEq, Nat.reduceMul, Nat.reduceAdd, Nat.reduceDiv, Int.reduceBEq, rules2, rulesX, rowsX]
  refine go_ownb' (cs' := [aI (0 : Int), .own 131136, .nil]) rfl rfl rfl rfl ?_
  try simp only [Nat.reduceBEq, Nat.reduceMul, Nat.reduceAdd, Nat.reduceDiv, Int.reduceBEq, rules2, rulesX, rowsX]
  refine go_ownb' (cs' := [aI (0 : Int), .own 131136, .own 131200]) rfl rfl rfl rfl ?_
  obtain ⟨r1, hr1, h⟩ := ob h
  try simp only [Nat.reduceBEq, Nat.reduceMul, Nat.reduceAdd, Nat.reduceDiv, Int.reduceBEq, rules2, rulesX, rowsX]
  refine go_callI (w_spec_l01In _ _ _ _ hr1) rfl rfl (Nat.le_of_ble_eq_true rfl) ?_
  rcases Bool.eq_false_or_eq_true r1 with hb2 | hb2
  · rw [ite_t hb2] at h
    try simp only [hb2, Nat.reduceBEq, Nat.reduceMul, Nat.reduceAdd, Nat.reduceDiv, Int.reduceBEq, rules2, rulesX, rowsX]
    refine w_spec_DeskNew_1 _ _ _ _ _ _ h _ ?_
    try simp only [hb2, Nat.reduceBEq, Nat.reduceMul, Nat.reduceAdd, Nat.reduceDiv, Int.reduceBEq, rules2, rulesX, rowsX, List.map_nil]
  · rw [ite_f hb2] at h
    try simp only [hb2, Nat.reduceBEq, Nat.reduceMul, Nat.reduceAdd, Nat.reduceDiv, Int.reduceBEq, rules2, rulesX, rowsX]
    cases h
    try simp only [rulesR, Nat.reduceBEq, Nat.reduceMul, Nat.reduceAdd, Nat.reduceDiv, Int.reduceBEq, rules2, rulesX, rowsX]
    exact ⟨⟨⟨rfl, rfl, rfl, trivial⟩, trivial⟩, rfl⟩
/- 59: impl_within -/
def c_impl_within : ACode := (.seq (.reg [(none, .mv 6 (KB false))]) (.seq (.reg [(none, .mv 7 (S 1)), (none, .mv 8 (S 0)), (none, .bin 9 .leq (S 7) (S 8)), (none, .mv 10 (S 9)), (some (10, true), .mv 11 (S 0)), (some (10, true), .mv 12 (S 2)), (some (10, true), .bin 13 .leq (S 11) (S 12)), (none, .pick 14 (S 10) (S 13) (KB false)), (none, .mv 6 (S 14))]) .ret))
theorem e_impl_within : entry Try.prog 59 = some (c_impl_within.strip, [6], 15) := by kernel_rfl
theorem w_impl_within (a0 : Int) (a1 : Int) (a2 : Int) (r : Bool) (h : f_impl_within a0 a1 a2 = some r) : FC Try.prog 59 [.sc (.int .i64 a0), .sc (.int .i64 a1), .sc (.int .i64 a2)] [.sc (.v (.bool r))] := by
  unfold f_impl_within at h
  refine FC_go (σ := ⟨[(0, vc (aI a0)), (1, vc (aI a1)), (2, vc (aI a2))], [], []⟩) mixed e_impl_within rfl rfl ?_
  simp only [c_impl_within]
  rcases Bool.eq_false_or_eq_true (decide (a1 ≤ a0)) with hb1 | hb1
  · rw [ite_t hb1] at h
    try simp only [hb1, Nat.reduceBEq, Nat.reduceMul, Nat.reduceAdd, Nat.reduceDiv, Int.reduceBEq, rules2, rulesX, rowsX]
    cases h
    exact ⟨⟨rfl, trivial⟩, rfl⟩
  · rw [ite_f hb1] at h
    try simp only [hb1, Nat.reduceBEq, Nat.reduceMul, Nat.reduceAdd, Nat.reduceDiv, Int.reduceBEq, rules2, rulesX, rowsX]
    cases h
    exact ⟨⟨rfl, trivial⟩, rfl⟩
/- 40: impl_DeskNew -/
def c_impl_DeskNew_1 : ACode := .seq (.reg [(none, .keep [2, 3, 9, 10] [2, 3] [131136, 131200])]) (.seq (.reg [(none, .bin 11 .lss (S 10) (S 9))]) (.seq (.cond (S 11) .skip (.exit 0)) (.seq (.block 1 (.seq (.reg [(none, .faddr 12 (S 3) 1), (none, .load 13 (S 12) false 1), (none, .bslice 14 1 [.int .i64 0] 1 [(0, (K (-1)))]), (none, .app 15 1 8 (S 13) (S 14)), (none, .faddr 16 (S 3) 1), (none, .store (S 16) (S 15) 1)]) (.reg [(none, .faddr 17 (S 3) 2), (none, .load 18 (S 17) false 1), (none, .bslice 19 1 [.bool false] 1 [(0, (KB false))]), (none, .app 20 1 1 (S 18) (S 19)), (none, .faddr 21 (S 3) 2), (none, .store (S 21) (S 20) 1)]))) (.reg [(none, .bin 22 .add (S 10) (K 1)), (none, .mv 10 (S 22))]))))
def c_impl_DeskNew_n1 : ACode := (.seq (.reg [(none, .load 23 (S 3) true 3), (none, .store (S 2) (S 23) 3)]) .ret)
def c_impl_DeskNew : ACode := (.seq (.reg [(none, .alloc 2 [aI 0, .nil, .nil])]) (.seq (.seq (.reg [(none, .mv 4 (S 0)), (none, .call 5 59 [(S 4), (K 0), (K 6)]), (none, .un 6 .not (S 5))]) (.cond (S 6) (.seq (.reg [(none, .build 7 [aI 0, .nil, .nil] []), (none, .store (S 2) (S 7) 3)]) .ret) .skip)) (.seq (.reg [(none, .build 8 [aI 0, .nil, .nil] []), (none, .alloc 3 [aI 0, .nil, .nil]), (none, .store (S 3) (S 8) 3), (none, .ownb 3 1 131136 1), (none, .ownb 3 2 131200 1)]) (.seq (.seq (.reg [(none, .mv 9 (S 0)), (none, .mv 10 (K 0))]) (.block 0 (.loop c_impl_DeskNew_1))) c_impl_DeskNew_n1))))
theorem w_impl_DeskNew_1 (a0 : Int) : ∀ (n : Nat) (v3 : Int) (v4 : List Int) (v5 : List Bool) (r : XDesk), f_impl_DeskNew_1 a0 n v3 v4 v5 = some r → ∀ σ : St, σ.kept [2, 3, 9, 10] [2, 3] [131136, 131200] = ⟨[(2, vc (.pb 2 0)), (3, vc (.pb 3 0)), (9, vc (aI a0)), (10, vc (aI v3))], [(2, [aI (0 : Int), .nil, .nil]), (3, [aI (0 : Int), .own 131136, .own 131200])], [(131136, 1, List.map rI v4), (131200, 1, List.map rB v5)]⟩ → go Try.prog (.code (.loop c_impl_DeskNew_1) :: [.blk 0, .code c_impl_DeskNew_n1]) (Ret [.c 2 true 3] [.ag [.v (.int .i64 r.Now), .o 1 (List.map rI r.Starts), .o 1 (List.map rB r.Cleared)]]) .normal (some σ) := by
  intro n
  induction n with
  | zero => intro _ _ _ r h; cases h
  | succ n ih =>
    intro v3 v4 v5 r h σ hσ
    rw [f_impl_DeskNew_1] at h
    refine go_round ?_
    rcases Bool.eq_false_or_eq_true (decide (v3 < a0)) with hb6 | hb6
    · rw [ite_t hb6] at h
      try simp only [hσ, hb6, c_impl_DeskNew_1, Nat.reduceBEq, Nat.reduceMul, Nat.reduceAdd, Nat.reduceDiv, Int.reduceBEq, rules2, rulesX, rowsX]
      refine go_bsl (es := List.map rI ([(-1 : Int)] : List Int)) rfl rfl ?_
      obtain ⟨hg7, h⟩ := of_guard h
      try simp only [hb6, hg7, Nat.reduceBEq, Nat.reduceMul, Nat.reduceAdd, Nat.reduceDiv, Int.reduceBEq, rules2, rulesX, rowsX]
      refine go_bsl (es := List.map rB ([false] : List Bool)) rfl rfl ?_
      obtain ⟨hg8, h⟩ := of_guard h
      try simp only [hb6, hg7, hg8, Nat.reduceBEq, Nat.reduceMul, Nat.reduceAdd, Nat.reduceDiv, Int.reduceBEq, rules2, rulesX, rowsX]
      refine ih _ _ _ _ h _ ?_
      try simp only [hb6, hg7, hg8, Nat.reduceBEq, Nat.reduceMul, Nat.reduceAdd, Nat.reduceDiv, Int.reduceBEq, rules2, rulesX, rowsX, List.map_nil]
    · rw [ite_f hb6] at h
      try simp only [hσ, hb6, c_impl_DeskNew_1, c_impl_DeskNew_n1, Nat.reduceBEq, Nat.reduceMul, Nat.reduceAdd, Nat.reduceDiv, Int.reduceBEq, rules2, rulesX, rowsX]
      cases h
      try simp only [rulesR, Nat.reduceBEq, Nat.reduceMul, Nat.reduceAdd, Nat.reduceDiv, Int.reduceBEq, rules2, rulesX, rowsX]
      exact ⟨⟨⟨rfl, rfl, rfl, trivial⟩, trivial⟩, rfl⟩
theorem e_impl_DeskNew : entry Try.prog 40 = some (c_impl_DeskNew.strip, [.c 2 true 3], 24) := by kernel_rfl
theorem w_impl_DeskNew (a0 : Int) (r : XDesk) (h : f_impl_DeskNew a0 = some r) : FC Try.prog 40 [.sc (.int .i64 a0)] [.ag [.v (.int .i64 r.Now), .o 1 (List.map rI r.Starts), .o 1 (List.map rB r.Cleared)]] := by
  unfold f_impl_DeskNew at h
  refine FC_go (σ := ⟨[(0, vc (aI a0))], [], []⟩) mixed e_impl_DeskNew rfl rfl ?_
  simp only [c_impl_DeskNew]
  try simp only [Nat.reduceBEq, Nat.reduceMul, Nat.reduceAdd, Nat.reduceDiv, Int.reduceBEq, rules2, rulesX, rowsX]
  refine go_al rfl rfl ?_
  obtain ⟨r1, hr1, h⟩ := ob h
  try simp only [Nat.reduceBEq, Nat.reduceMul, Nat.reduceAdd, Nat.reduceDiv, Int.reduceBEq, rules2, rulesX, rowsX]
  refine go_callI (w_impl_within _ _ _ _ hr1) rfl rfl (Nat.le_of_ble_eq_true rfl) ?_
  rcases Bool.eq_false_or_eq_true r1 with hb2 | hb2
  · rw [ite_t hb2] at h
    try simp only [hb2, Nat.reduceBEq, Nat.reduceMul, Nat.reduceAdd, Nat.reduceDiv, Int.reduceBEq, rules2, rulesX, rowsX]
    refine go_al rfl rfl ?_
    try simp only [hb2, Nat.reduceBEq, Nat.reduceMul, Nat.reduceAdd, Nat.reduceDiv, Int.reduceBEq, rules2, rulesX, rowsX]
    refine go_ownb' (cs' := [aI (0 : Int), .own 131136, .nil]) rfl rfl rfl rfl ?_
    try simp only [hb2, Nat.reduceBEq, Nat.reduceMul, Nat.reduceAdd, Nat.reduceDiv, Int.reduceBEq, rules2, rulesX, rowsX]
    refine go_ownb' (cs' := [aI (0 : Int), .own 131136, .own 131200]) rfl rfl rfl rfl ?_
    try simp only [hb2, Nat.reduceBEq, Nat.reduceMul, Nat.reduceAdd, Nat.reduceDiv, Int.reduceBEq, rules2, rulesX, rowsX]
    refine w_impl_DeskNew_1 _ _ _ _ _ _ h _ ?_
    try simp only [hb2, Nat.reduceBEq, Nat.reduceMul, Nat.reduceAdd, Nat.reduceDiv, Int.reduceBEq, rules2, rulesX, rowsX, List.map_nil]
  · rw [ite_f hb2] at h
    try simp only [hb2, Nat.reduceBEq, Nat.reduceMul, Nat.reduceAdd, Nat.reduceDiv, Int.reduceBEq, rules2, rulesX, rowsX]
    cases h
    try simp only [rulesR, Nat.reduceBEq, Nat.reduceMul, Nat.reduceAdd, Nat.reduceDiv, Int.reduceBEq, rules2, rulesX, rowsX]
    exact ⟨⟨⟨rfl, rfl, rfl, trivial⟩, trivial⟩, rfl⟩
/- 20: laws_eqIntS -/
def c_laws_eqIntS_1 : ACode := .seq (.reg [(none, .keep [0, 1, 5] [] [])]) (.seq (.seq (.reg [(none, .mv 11 (S 5)), (none, .mv 12 (S 0)), (none, .len 13 (S 12)), (none, .bin 14 .lss (S 11) (S 13))]) (.cond (S 14) .skip (.exit 0))) (.seq (.block 1 (.seq (.drw [(some [], (none, .mv 17 (S 0))), (some [], (none, .mv 18 (S 5))), (some [], (none, .iaddr 19 (S 17) (S 18) 1)), (some [], (none, .load 20 (S 19) false 1)), (some [], (none, .mv 21 (S 1))), (some [], (none, .mv 22 (S 5))), (some [], (none, .iaddr 23 (S 21) (S 22) 1)), (some [], (none, .load 24 (S 23) false 1)), (some [], (none, .bin 25 .neq (S 20) (S 24)))]) (.cond (S 25) (.seq (.reg [(none, .mv 4 (KB false))]) .ret) .skip))) (.reg [(none, .mv 15 (S 5)), (none, .bin 16 .add (S 15) (K 1)), (none, .mv 5 (S 16))])))
def c_laws_eqIntS_n1 : ACode := (.seq (.reg [(none, .mv 4 (KB true))]) .ret)
def c_laws_eqIntS : ACode := (.seq (.reg [(none, .mv 4 (KB false))]) (.seq (.seq (.reg [(none, .mv 6 (S 0)), (none, .len 7 (S 6)), (none, .mv 8 (S 1)), (none, .len 9 (S 8)), (none, .bin 10 .neq (S 7) (S 9))]) (.cond (S 10) (.seq (.reg [(none, .mv 4 (KB false))]) .ret) .skip)) (.seq (.seq (.reg [(none, .mv 5 (K 0))]) (.block 0 (.loop c_laws_eqIntS_1))) c_laws_eqIntS_n1)))
theorem w_laws_eqIntS_1 (a0 : List Int) (a1 : List Int) : ∀ (n : Nat) (v2 : Int) (r : Bool), f_laws_eqIntS_1 a0 a1 n v2 = some r → ∀ σ : St, σ.kept [0, 1, 5] [] [] = ⟨[(0, vc (aL (List.map rI a0))), (1, vc (aL (List.map rI a1))), (5, vc (aI v2))], [], []⟩ → go Try.prog (.code (.loop c_laws_eqIntS_1) :: [.blk 0, .code c_laws_eqIntS_n1]) (Ret [4] [.sc (.v (.bool r))]) .normal (some σ) := by
  intro n
  induction n with
  | zero => intro _ r h; cases h
  | succ n ih =>
    intro v2 r h σ hσ
    rw [f_laws_eqIntS_1] at h
    refine go_round ?_
    rcases Bool.eq_false_or_eq_true (decide (v2 < (a0.length : Int))) with hb3 | hb3
    · rw [ite_t hb3] at h
      try simp only [hσ, hb3, c_laws_eqIntS_1, Nat.reduceBEq, Nat.reduceMul, Nat.reduceAdd, Nat.reduceDiv, Int.reduceBEq, rules2, rulesX, rowsX]
      refine go_fr_of rfl ?_
      obtain ⟨x4, hx4, h⟩ := ob h
      obtain ⟨x5, hx5, h⟩ := ob h
      rcases Bool.eq_false_or_eq_true (x4 != x5) with hb6 | hb6
      · rw [ite_t hb6] at h
        try simp only [hb3, hx4, hx5, hb6, Nat.reduceBEq, Nat.reduceMul, Nat.reduceAdd, Nat.reduceDiv, Int.reduceBEq, rules2, rulesX, rowsX]
        cases h
        exact ⟨⟨rfl, trivial⟩, rfl⟩
      · rw [ite_f hb6] at h
        try simp only [hb3, hx4, hx5, hb6, Nat.reduceBEq, Nat.reduceMul, Nat.reduceAdd, Nat.reduceDiv, Int.reduceBEq, rules2, rulesX, rowsX]
        refine ih _ _ h _ ?_
        try simp only [hb3, hx4, hx5, hb6, Nat.reduceBEq, Nat.reduceMul, Nat.reduceAdd, Nat.reduceDiv, Int.reduceBEq, rules2, rulesX, rowsX, List.map_nil]
    · rw [ite_f hb3] at h
      try simp only [hσ, hb3, c_laws_eqIntS_1, c_laws_eqIntS_n1, Nat.reduceBEq, Nat.reduceMul, Nat.reduceAdd, Nat.reduceDiv, Int.reduceBEq, rules2, rulesX, rowsX]
      cases h
      exact ⟨⟨rfl, trivial⟩, rfl⟩
theorem e_laws_eqIntS : entry Try.prog 20 = some (c_laws_eqIntS.strip, [4], 26) := by kernel_rfl
theorem w_laws_eqIntS (a0 : List Int) (a1 : List Int) (r : Bool) (h : f_laws_eqIntS a0 a1 = some r) : FC Try.prog 20 [.sc (.sl (List.map rI a0)), .sc (.sl (List.map rI a1))] [.sc (.v (.bool r))] := by
  unfold f_laws_eqIntS at h
  refine FC_go (σ := ⟨[(0, vc (aL (List.map rI a0))), (1, vc (aL (List.map rI a1)))], [], []⟩) mixed e_laws_eqIntS rfl rfl ?_
  simp only [c_laws_eqIntS]
  rcases Bool.eq_false_or_eq_true ((a0.length : Int) != (a1.length : Int)) with hb1 | hb1
  · rw [ite_t hb1] at h
    try simp only [hb1, Nat.reduceBEq, Nat.reduceMul, Nat.reduceAdd, Nat.reduceDiv, Int.reduceBEq, rules2, rulesX, rowsX]
    cases h
    exact ⟨⟨rfl, trivial⟩, rfl⟩
  · rw [ite_f hb1] at h
    try simp only [hb1, Nat.reduceBEq, Nat.reduceMul, Nat.reduceAdd, Nat.reduceDiv, Int.reduceBEq, rules2, rulesX, rowsX]
    refine w_laws_eqIntS_1 _ _ _ _ _ h _ ?_
    try simp only [hb1, Nat.reduceBEq, Nat.reduceMul, Nat.reduceAdd, Nat.reduceDiv, Int.reduceBEq, rules2, rulesX, rowsX, List.map_nil]
/- 69: laws_eqBoolS -/
def c_laws_eqBoolS_1 : ACode := .seq (.reg [(none, .keep [0, 1, 5] [] [])]) (.seq (.seq (.reg [(none, .mv 11 (S 5)), (none, .mv 12 (S 0)), (none, .len 13 (S 12)), (none, .bin 14 .lss (S 11) (S 13))]) (.cond (S 14) .skip (.exit 0))) (.seq (.block 1 (.seq (.drw [(some [], (none, .mv 17 (S 0))), (some [], (none, .mv 18 (S 5))), (some [], (none, .iaddr 19 (S 17) (S 18) 1)), (some [], (none, .load 20 (S 19) false 1)), (some [], (none, .mv 21 (S 1))), (some [], (none, .mv 22 (S 5))), (some [], (none, .iaddr 23 (S 21) (S 22) 1)), (some [], (none, .load 24 (S 23) false 1)), (some [], (none, .beq 25 true (S 20) (S 24)))]) (.cond (S 25) (.seq (.reg [(none, .mv 4 (KB false))]) .ret) .skip))) (.reg [(none, .mv 15 (S 5)), (none, .bin 16 .add (S 15) (K 1)), (none, .mv 5 (S 16))])))
def c_laws_eqBoolS_n1 : ACode := (.seq (.reg [(none, .mv 4 (KB true))]) .ret)
def c_laws_eqBoolS : ACode := (.seq (.reg [(none, .mv 4 (KB false))]) (.seq (.seq (.reg [(none, .mv 6 (S 0)), (none, .len 7 (S 6)), (none, .mv 8 (S 1)), (none, .len 9 (S 8)), (none, .bin 10 .neq (S 7) (S 9))]) (.cond (S 10) (.seq (.reg [(none, .mv 4 (KB false))]) .ret) .skip)) (.seq (.seq (.reg [(none, .mv 5 (K 0))]) (.block 0 (.loop c_laws_eqBoolS_1))) c_laws_eqBoolS_n1)))
theorem w_laws_eqBoolS_1 (a0 : List Bool) (a1 : List Bool) : ∀ (n : Nat) (v2 : Int) (r : Bool), f_laws_eqBoolS_1 a0 a1 n v2 = some r → ∀ σ : St, σ.kept [0, 1, 5] [] [] = ⟨[(0, vc (aL (List.map rB a0))), (1, vc (aL (List.map rB a1))), (5, vc (aI v2))], [], []⟩ → go Try.prog (.code (.loop c_laws_eqBoolS_1) :: [.blk 0, .code c_laws_eqBoolS_n1]) (Ret [4] [.sc (.v (.bool r))]) .normal (some σ) := by
  intro n
  induction n with
  | zero => intro _ r h; cases h
  | succ n ih =>
    intro v2 r h σ hσ
    rw [f_laws_eqBoolS_1] at h
    refine go_round ?_
    rcases Bool.eq_false_or_eq_true (decide (v2 < (a0.length : Int))) with hb3 | hb3
    · rw [ite_t hb3] at h
      try simp only [hσ, hb3, c_laws_eqBoolS_1, Nat.reduceBEq, Nat.reduceMul, Nat.reduceAdd, Nat.reduceDiv, Int.reduceBEq, rules2, rulesX, rowsX]
      refine go_fr_of rfl ?_
      obtain ⟨x4, hx4, h⟩ := ob h
      obtain ⟨x5, hx5, h⟩ := ob h
      rcases Bool.eq_false_or_eq_true (x4 == x5) with hb6 | hb6
      · rw [ite_t hb6] at h
        try simp only [hb3, hx4, hx5, hb6, Nat.reduceBEq, Nat.reduceMul, Nat.reduceAdd, Nat.reduceDiv, Int.reduceBEq, rules2, rulesX, rowsX]
        refine ih _ _ h _ ?_
        try simp only [hb3, hx4, hx5, hb6, Nat.reduceBEq, Nat.reduceMul, Nat.reduceAdd, Nat.reduceDiv, Int.reduceBEq, rules2, rulesX, rowsX, List.map_nil]
      · rw [ite_f hb6] at h
        try simp only [hb3, hx4, hx5, hb6, Nat.reduceBEq, Nat.reduceMul, Nat.reduceAdd, Nat.reduceDiv, Int.reduceBEq, rules2, rulesX, rowsX]
        cases h
        exact ⟨⟨rfl, trivial⟩, rfl⟩
    · rw [ite_f hb3] at h
      try simp only [hσ, hb3, c_laws_eqBoolS_1, c_laws_eqBoolS_n1, Nat.reduceBEq, Nat.reduceMul, Nat.reduceAdd, Nat.reduceDiv, Int.reduceBEq, rules2, rulesX, rowsX]
      cases h
      exact ⟨⟨rfl, trivial⟩, rfl⟩
theorem e_laws_eqBoolS : entry Try.prog 69 = some (c_laws_eqBoolS.strip, [4], 26) := by kernel_rfl
theorem w_laws_eqBoolS (a0 : List Bool) (a1 : List Bool) (r : Bool) (h : f_laws_eqBoolS a0 a1 = some r) : FC Try.prog 69 [.sc (.sl (List.map rB a0)), .sc (.sl (List.map rB a1))] [.sc (.v (.bool r))] := by
  unfold f_laws_eqBoolS at h
  refine FC_go (σ := ⟨[(0, vc (aL (List.map rB a0))), (1, vc (aL (List.map rB a1)))], [], []⟩) mixed e_laws_eqBoolS rfl rfl ?_
  simp only [c_laws_eqBoolS]
  rcases Bool.eq_false_or_eq_true ((a0.length : Int) != (a1.length : Int)) with hb1 | hb1
  · rw [ite_t hb1] at h
    try simp only [hb1, Nat.reduceBEq, Nat.reduceMul, Nat.reduceAdd, Nat.reduceDiv, Int.reduceBEq, rules2, rulesX, rowsX]
    cases h
    exact ⟨⟨rfl, trivial⟩, rfl⟩
  · rw [ite_f hb1] at h
    try simp only [hb1, Nat.reduceBEq, Nat.reduceMul, Nat.reduceAdd, Nat.reduceDiv, Int.reduceBEq, rules2, rulesX, rowsX]
    refine w_laws_eqBoolS_1 _ _ _ _ _ h _ ?_
    try simp only [hb1, Nat.reduceBEq, Nat.reduceMul, Nat.reduceAdd, Nat.reduceDiv, Int.reduceBEq, rules2, rulesX, rowsX, List.map_nil]
/- 38: laws_eqDesk -/
def c_laws_eqDesk : ACode := (.seq (.reg [(none, .box 2 (S 0)), (none, .box 3 (S 1)), (none, .mv 4 (KB false))]) (.seq (.seq (.reg [(none, .faddr 5 (S 2) 0), (none, .load 6 (S 5) false 1), (none, .faddr 7 (S 3) 0), (none, .load 8 (S 7) false 1), (none, .bin 9 .neq (S 6) (S 8))]) (.cond (S 9) (.seq (.reg [(none, .mv 4 (KB false))]) .ret) .skip)) (.seq (.seq (.reg [(none, .faddr 10 (S 2) 1), (none, .load 11 (S 10) false 1), (none, .faddr 12 (S 3) 1), (none, .load 13 (S 12) false 1), (none, .call 14 20 [(S 11), (S 13)]), (none, .un 15 .not (S 14))]) (.cond (S 15) (.seq (.reg [(none, .mv 4 (KB false))]) .ret) .skip)) (.seq (.seq (.reg [(none, .faddr 16 (S 2) 2), (none, .load 17 (S 16) false 1), (none, .faddr 18 (S 3) 2), (none, .load 19 (S 18) false 1), (none, .call 20 69 [(S 17), (S 19)]), (none, .un 21 .not (S 20))]) (.cond (S 21) (.seq (.reg [(none, .mv 4 (KB false))]) .ret) .skip)) (.seq (.reg [(none, .mv 4 (KB true))]) .ret)))))
theorem e_laws_eqDesk : entry Try.prog 38 = some (c_laws_eqDesk.strip, [4], 22) := by kernel_rfl
theorem w_laws_eqDesk (a0 : XDesk) (a1 : XDesk) (r : Bool) (h : f_laws_eqDesk a0 a1 = some r) : FC Try.prog 38 [.ag (XDesk.row a0), .ag (XDesk.row a1)] [.sc (.v (.bool r))] := by
  unfold f_laws_eqDesk at h
  refine FC_go (σ := ⟨[(0, va [aI a0.Now, aL (List.map rI a0.Starts), aL (List.map rB a0.Cleared)]), (1, va [aI a1.Now, aL (List.map rI a1.Starts), aL (List.map rB a1.Cleared)])], [], []⟩) mixed e_laws_eqDesk rfl rfl ?_
  simp only [c_laws_eqDesk]
  try simp only [Nat.reduceBEq, Nat.reduceMul, Nat.reduceAdd, Nat.reduceDiv, Int.reduceBEq, rules2, rulesX, rowsX]
  refine go_bx rfl rfl rfl ?_
  try simp only [Nat.reduceBEq, Nat.reduceMul, Nat.reduceAdd, Nat.reduceDiv, Int.reduceBEq, rules2, rulesX, rowsX]
  refine go_bx rfl rfl rfl ?_
  rcases Bool.eq_false_or_eq_true (a0.Now != a1.Now) with hb1 | hb1
  · rw [ite_t hb1] at h
    try simp only [hb1, Nat.reduceBEq, Nat.reduceMul, Nat.reduceAdd, Nat.reduceDiv, Int.reduceBEq, rules2, rulesX, rowsX]
    cases h
    exact ⟨⟨rfl, trivial⟩, rfl⟩
  · rw [ite_f hb1] at h
    obtain ⟨r2, hr2, h⟩ := ob h
    try simp only [hb1, Nat.reduceBEq, Nat.reduceMul, Nat.reduceAdd, Nat.reduceDiv, Int.reduceBEq, rules2, rulesX, rowsX]
    refine go_callI (w_laws_eqIntS _ _ _ hr2) rfl rfl (Nat.le_of_ble_eq_true rfl) ?_
    rcases Bool.eq_false_or_eq_true r2 with hb3 | hb3
    · rw [ite_t hb3] at h
      obtain ⟨r4, hr4, h⟩ := ob h
      try simp only [hb1, hb3, Nat.reduceBEq, Nat.reduceMul, Nat.reduceAdd, Nat.reduceDiv, Int.reduceBEq, rules2, rulesX, rowsX]
      refine go_callI (w_laws_eqBoolS _ _ _ hr4) rfl rfl (Nat.le_of_ble_eq_true rfl) ?_
      rcases Bool.eq_false_or_eq_true r4 with hb5 | hb5
      · rw [ite_t hb5] at h
        try simp only [hb1, hb3, hb5, Nat.reduceBEq, Nat.reduceMul, Nat.reduceAdd, Nat.reduceDiv, Int.reduceBEq, rules2, rulesX, rowsX]
        cases h
        exact ⟨⟨rfl, trivial⟩, rfl⟩
      · rw [ite_f hb5] at h
        try simp only [hb1, hb3, hb5, Nat.reduceBEq, Nat.reduceMul, Nat.reduceAdd, Nat.reduceDiv, Int.reduceBEq, rules2, rulesX, rowsX]
        cases h
        exact ⟨⟨rfl, trivial⟩, rfl⟩
    · rw [ite_f hb3] at h
      try simp only [hb1, hb3, Nat.reduceBEq, Nat.reduceMul, Nat.reduceAdd, Nat.reduceDiv, Int.reduceBEq, rules2, rulesX, rowsX]
      cases h
      exact ⟨⟨rfl, trivial⟩, rfl⟩
/- 70: laws_markIntS -/
def c_laws_markIntS_1 : ACode := .seq (.reg [(none, .keep [0, 1, 5] [] [1099511627776])]) (.seq (.seq (.reg [(none, .mv 6 (S 5)), (none, .mv 7 (S 0)), (none, .len 8 (S 7)), (none, .bin 9 .lss (S 6) (S 8))]) (.cond (S 9) .skip (.exit 0))) (.seq (.block 1 (.seq (.reg [(none, .mv 12 (S 0)), (none, .mv 13 (S 5)), (none, .mv 14 (S 1)), (none, .iaddr 15 (S 12) (S 13) 1), (none, .store (S 15) (S 14) 1)]) (.reg [(none, .mv 16 (S 1)), (none, .bin 17 .add (S 16) (K 1)), (none, .mv 1 (S 17))]))) (.reg [(none, .mv 10 (S 5)), (none, .bin 11 .add (S 10) (K 1)), (none, .mv 5 (S 11))])))
def c_laws_markIntS_n1 : ACode := (.seq (.reg [(none, .mv 18 (S 1)), (none, .mv 4 (S 18))]) .ret)
def c_laws_markIntS : ACode := (.seq (.reg [(none, .mv 4 (K 0))]) (.seq (.seq (.reg [(none, .mv 5 (K 0))]) (.block 0 (.loop c_laws_markIntS_1))) c_laws_markIntS_n1))
theorem w_laws_markIntS_1 : ∀ (n : Nat) (v1 : Int) (v2 : Int) (v3 : List Int) (r : Int × List Int), f_laws_markIntS_1 n v1 v2 v3 = some r → ∀ σ : St, σ.kept [0, 1, 5] [] [1099511627776] = ⟨[(0, vc (.own 1099511627776)), (1, vc (aI v1)), (5, vc (aI v2))], [], [(1099511627776, 1, List.map rI v3)]⟩ → go Try.prog (.code (.loop c_laws_markIntS_1) :: [.blk 0, .code c_laws_markIntS_n1]) (RetX [4] (.int .i64 r.1) [(1, List.map rI r.2)] [(0, 0)]) .normal (some σ) := by
  intro n
  induction n with
  | zero => intro _ _ _ r h; cases h
  | succ n ih =>
    intro v1 v2 v3 r h σ hσ
    rw [f_laws_markIntS_1] at h
    refine go_round ?_
    rcases Bool.eq_false_or_eq_true (decide (v2 < (v3.length : Int))) with hb4 | hb4
    · rw [ite_t hb4] at h
      obtain ⟨x5, hx5, h⟩ := ob h
      have hx5n := ix_get hx5
      try simp only [hσ, hb4, hx5, c_laws_markIntS_1, Nat.reduceBEq, Nat.reduceMul, Nat.reduceAdd, Nat.reduceDiv, Int.reduceBEq, rules2, rulesX, rowsX]
      refine go_stp (y := v1) rfl rfl hx5n rfl rfl rfl ?_
      try simp only [hb4, hx5, Nat.reduceBEq, Nat.reduceMul, Nat.reduceAdd, Nat.reduceDiv, Int.reduceBEq, rules2, rulesX, rowsX]
      refine ih _ _ _ _ h _ ?_
      try simp only [hb4, hx5, Nat.reduceBEq, Nat.reduceMul, Nat.reduceAdd, Nat.reduceDiv, Int.reduceBEq, rules2, rulesX, rowsX, List.map_nil]
    · rw [ite_f hb4] at h
      try simp only [hσ, hb4, c_laws_markIntS_1, c_laws_markIntS_n1, Nat.reduceBEq, Nat.reduceMul, Nat.reduceAdd, Nat.reduceDiv, Int.reduceBEq, rules2, rulesX, rowsX]
      cases h
      exact ⟨⟨rfl, trivial⟩, ⟨⟨⟨_, rfl, rfl⟩, rfl⟩, trivial⟩⟩
theorem e_laws_markIntS : entry Try.prog 70 = some (c_laws_markIntS.strip, [4], 19) := by kernel_rfl
theorem l_laws_markIntS_1 : ∀ (n : Nat) (v1 : Int) (v2 : Int) (v3 : List Int) (r : Int × List Int), f_laws_markIntS_1 n v1 v2 v3 = some r → r.2.length = v3.length := by
  intro n
  induction n with
  | zero => intro _ _ _ r h; cases h
  | succ n ih =>
    intro v1 v2 v3 r h
    rw [f_laws_markIntS_1] at h
    rcases Bool.eq_false_or_eq_true (decide (v2 < (v3.length : Int))) with hb4 | hb4
    · rw [ite_t hb4] at h
      obtain ⟨x5, hx5, h⟩ := ob h
      have hl := ih _ _ _ _ h
      try simp only [List.length_set] at hl
      omega
    · rw [ite_f hb4] at h
      cases h
      all_goals (try dsimp only); first | done | omega | (simp only [List.length_set] at *; omega) | simp_all
theorem l_laws_markIntS (a0 : List Int) (a1 : Int) (r : Int × List Int) (h : f_laws_markIntS a0 a1 = some r) : r.2.length = a0.length := by
  unfold f_laws_markIntS at h
  have hl := l_laws_markIntS_1 _ _ _ _ _ h
  try simp only [List.length_set] at hl
  omega
theorem w_laws_markIntS (a0 : List Int) (a1 : Int) (r : Int × List Int) (h : f_laws_markIntS a0 a1 = some r) : FCx Try.prog 70 [.sc (.r 0), .sc (.d (.int .i64 a1))] [(1, List.map rI a0)] [(1, List.map rI r.2)] (.int .i64 r.1) := by
  unfold f_laws_markIntS at h
  refine FCx_go (ps := [(0, 0)]) (σ := ⟨[(0, vc (.own 1099511627776)), (1, vc (aI a1))], [], [(1099511627776, 1, List.map rI a0)]⟩) mixed e_laws_markIntS rfl rfl rfl (flatR_cons flatR_nil) rfl ?_
  simp only [c_laws_markIntS]
  try simp only [Nat.reduceBEq, Nat.reduceMul, Nat.reduceAdd, Nat.reduceDiv, Int.reduceBEq, rules2, rulesX, rowsX]
  refine w_laws_markIntS_1 _ _ _ _ _ h _ ?_
  try simp only [Nat.reduceBEq, Nat.reduceMul, Nat.reduceAdd, Nat.reduceDiv, Int.reduceBEq, rules2, rulesX, rowsX, List.map_nil]
/- 71: laws_markBoolS -/
def c_laws_markBoolS_1 : ACode := .seq (.reg [(none, .keep [0, 1, 5] [] [1099511627776])]) (.seq (.seq (.reg [(none, .mv 6 (S 5)), (none, .mv 7 (S 0)), (none, .len 8 (S 7)), (none, .bin 9 .lss (S 6) (S 8))]) (.cond (S 9) .skip (.exit 0))) (.seq (.block 1 (.seq (.reg [(none, .mv 12 (S 0)), (none, .mv 13 (S 5)), (none, .mv 14 (S 1)), (none, .bin 15 .rem (S 14) (K 3)), (none, .bin 16 .eql (S 15) (K 0)), (none, .iaddr 17 (S 12) (S 13) 1), (none, .store (S 17) (S 16) 1)]) (.reg [(none, .mv 18 (S 1)), (none, .bin 19 .add (S 18) (K 1)), (none, .mv 1 (S 19))]))) (.reg [(none, .mv 10 (S 5)), (none, .bin 11 .add (S 10) (K 1)), (none, .mv 5 (S 11))])))
def c_laws_markBoolS_n1 : ACode := (.seq (.reg [(none, .mv 20 (S 1)), (none, .mv 4 (S 20))]) .ret)
def c_laws_markBoolS : ACode := (.seq (.reg [(none, .mv 4 (K 0))]) (.seq (.seq (.reg [(none, .mv 5 (K 0))]) (.block 0 (.loop c_laws_markBoolS_1))) c_laws_markBoolS_n1))
theorem w_laws_markBoolS_1 : ∀ (n : Nat) (v1 : Int) (v2 : Int) (v3 : List Bool) (r : Int × List Bool), f_laws_markBoolS_1 n v1 v2 v3 = some r → ∀ σ : St, σ.kept [0, 1, 5] [] [1099511627776] = ⟨[(0, vc (.own 1099511627776)), (1, vc (aI v1)), (5, vc (aI v2))], [], [(1099511627776, 1, List.map rB v3)]⟩ → go Try.prog (.code (.loop c_laws_markBoolS_1) :: [.blk 0, .code c_laws_markBoolS_n1]) (RetX [4] (.int .i64 r.1) [(1, List.map rB r.2)] [(0, 0)]) .normal (some σ) := by
  intro n
  induction n with
  | zero => intro _ _ _ r h; cases h
  | succ n ih =>
    intro v1 v2 v3 r h σ hσ
    rw [f_laws_markBoolS_1] at h
    refine go_round ?_
    rcases Bool.eq_false_or_eq_true (decide (v2 < (v3.length : Int))) with hb4 | hb4
    · rw [ite_t hb4] at h
      obtain ⟨x5, hx5, h⟩ := ob h
      have hx5n := ix_get hx5
      try simp only [hσ, hb4, hx5, c_laws_markBoolS_1, Nat.reduceBEq, Nat.reduceMul, Nat.reduceAdd, Nat.reduceDiv, Int.reduceBEq, rules2, rulesX, rowsX]
      refine go_stp (y := ((IntKind.i64.wrap (Int.tmod v1 (3 : Int))) == (0 : Int))) rfl rfl hx5n rfl rfl rfl ?_
      try simp only [hb4, hx5, Nat.reduceBEq, Nat.reduceMul, Nat.reduceAdd, Nat.reduceDiv, Int.reduceBEq, rules2, rulesX, rowsX]
      refine ih _ _ _ _ h _ ?_
      try simp only [hb4, hx5, Nat.reduceBEq, Nat.reduceMul, Nat.reduceAdd, Nat.reduceDiv, Int.reduceBEq, rules2, rulesX, rowsX, List.map_nil]
    · rw [ite_f hb4] at h
      try simp only [hσ, hb4, c_laws_markBoolS_1, c_laws_markBoolS_n1, Nat.reduceBEq, Nat.reduceMul, Nat.reduceAdd, Nat.reduceDiv, Int.reduceBEq, rules2, rulesX, rowsX]
      cases h
      exact ⟨⟨rfl, trivial⟩, ⟨⟨⟨_, rfl, rfl⟩, rfl⟩, trivial⟩⟩
theorem e_laws_markBoolS : entry Try.prog 71 = some (c_laws_markBoolS.strip, [4], 21) := by kernel_rfl
theorem l_laws_markBoolS_1 : ∀ (n : Nat) (v1 : Int) (v2 : Int) (v3 : List Bool) (r : Int × List Bool), f_laws_markBoolS_1 n v1 v2 v3 = some r → r.2.length = v3.length := by
  intro n
  induction n with
  | zero => intro _ _ _ r h; cases h
  | succ n ih =>
    intro v1 v2 v3 r h
    rw [f_laws_markBoolS_1] at h
    rcases Bool.eq_false_or_eq_true (decide (v2 < (v3.length : Int))) with hb4 | hb4
    · rw [ite_t hb4] at h
      obtain ⟨x5, hx5, h⟩ := ob h
      have hl := ih _ _ _ _ h
      try simp only [List.length_set] at hl
      omega
    · rw [ite_f hb4] at h
      cases h
      all_goals (try dsimp only); first | done | omega | (simp only [List.length_set] at *; omega) | simp_all
theorem l_laws_markBoolS (a0 : List Bool) (a1 : Int) (r : Int × List Bool) (h : f_laws_markBoolS a0 a1 = some r) : r.2.length = a0.length := by
  unfold f_laws_markBoolS at h
  have hl := l_laws_markBoolS_1 _ _ _ _ _ h
  try simp only [List.length_set] at hl
  omega
theorem w_laws_markBoolS (a0 : List Bool) (a1 : Int) (r : Int × List Bool) (h : f_laws_markBoolS a0 a1 = some r) : FCx Try.prog 71 [.sc (.r 0), .sc (.d (.int .i64 a1))] [(1, List.map rB a0)] [(1, List.map rB r.2)] (.int .i64 r.1) := by
  unfold f_laws_markBoolS at h
  refine FCx_go (ps := [(0, 0)]) (σ := ⟨[(0, vc (.own 1099511627776)), (1, vc (aI a1))], [], [(1099511627776, 1, List.map rB a0)]⟩) mixed e_laws_markBoolS rfl rfl rfl (flatR_cons flatR_nil) rfl ?_
  simp only [c_laws_markBoolS]
  try simp only [Nat.reduceBEq, Nat.reduceMul, Nat.reduceAdd, Nat.reduceDiv, Int.reduceBEq, rules2, rulesX, rowsX]
  refine w_laws_markBoolS_1 _ _ _ _ _ h _ ?_
  try simp only [Nat.reduceBEq, Nat.reduceMul, Nat.reduceAdd, Nat.reduceDiv, Int.reduceBEq, rules2, rulesX, rowsX, List.map_nil]
/- 41: laws_markDesk -/
def c_laws_markDesk : ACode := (.seq (.reg [(none, .box 2 (S 0)), (none, .mv 4 (K 0))]) (.seq (.reg [(none, .faddr 5 (S 2) 1), (none, .load 6 (S 5) false 1), (none, .mv 7 (S 1)), (none, .call 8 70 [(S 6), (S 7)]), (none, .mv 1 (S 8))]) (.seq (.reg [(none, .faddr 9 (S 2) 2), (none, .load 10 (S 9) false 1), (none, .mv 11 (S 1)), (none, .call 12 71 [(S 10), (S 11)]), (none, .mv 1 (S 12))]) (.seq (.reg [(none, .mv 13 (S 1)), (none, .mv 4 (S 13))]) .ret))))
theorem e_laws_markDesk : entry Try.prog 41 = some (c_laws_markDesk.strip, [4], 14) := by kernel_rfl
theorem l_laws_markDesk (a0 : XDesk) (a1 : Int) (r : Int × List Int × List Bool) (h : f_laws_markDesk a0 a1 = some r) : r.2.1.length = a0.Starts.length ∧ r.2.2.length = a0.Cleared.length := by
  unfold f_laws_markDesk at h
  obtain ⟨r1, hr1, h⟩ := ob h
  have lrr1 := (l_laws_markIntS _ _ _ hr1)
  obtain ⟨r2, hr2, h⟩ := ob h
  have lrr2 := (l_laws_markBoolS _ _ _ hr2)
  cases h
  all_goals (try dsimp only); first | done | omega | (simp only [List.length_set] at *; omega) | simp_all
theorem w_laws_markDesk (a0 : XDesk) (a1 : Int) (r : Int × List Int × List Bool) (h : f_laws_markDesk a0 a1 = some r) : FCx Try.prog 41 [.ag [.d (.int .i64 a0.Now), .r 0, .r 1], .sc (.d (.int .i64 a1))] [(1, List.map rI a0.Starts), (1, List.map rB a0.Cleared)] [(1, List.map rI r.2.1), (1, List.map rB r.2.2)] (.int .i64 r.1) := by
  unfold f_laws_markDesk at h
  refine FCx_go (ps := [(0, 1), (0, 2)]) (σ := ⟨[(0, va [aI a0.Now, .own 1099511627776, .own 1099511627777]), (1, vc (aI a1))], [], [(1099511627776, 1, List.map rI a0.Starts), (1099511627777, 1, List.map rB a0.Cleared)]⟩) mixed e_laws_markDesk rfl rfl rfl (flatR_cons (flatR_cons flatR_nil)) rfl ?_
  simp only [c_laws_markDesk]
  try simp only [Nat.reduceBEq, Nat.reduceMul, Nat.reduceAdd, Nat.reduceDiv, Int.reduceBEq, rules2, rulesX, rowsX]
  refine go_bx rfl rfl rfl ?_
  obtain ⟨r1, hr1, h⟩ := ob h
  try simp only [Nat.reduceBEq, Nat.reduceMul, Nat.reduceAdd, Nat.reduceDiv, Int.reduceBEq, rules2, rulesX, rowsX]
  have lrr1 := (l_laws_markIntS _ _ _ hr1)
  refine go_callx (ids := [1099511627776]) (w_laws_markIntS _ _ _ hr1) rfl rfl rfl (flatR_cons flatR_nil) (sameLen_cons (l_laws_markIntS _ _ _ hr1) sameLen_nil) ?_
  obtain ⟨r2, hr2, h⟩ := ob h
  try simp only [Nat.reduceBEq, Nat.reduceMul, Nat.reduceAdd, Nat.reduceDiv, Int.reduceBEq, rules2, rulesX, rowsX]
  have lrr2 := (l_laws_markBoolS _ _ _ hr2)
  refine go_callx (ids := [1099511627777]) (w_laws_markBoolS _ _ _ hr2) rfl rfl rfl (flatR_cons flatR_nil) (sameLen_cons (l_laws_markBoolS _ _ _ hr2) sameLen_nil) ?_
  try simp only [Nat.reduceBEq, Nat.reduceMul, Nat.reduceAdd, Nat.reduceDiv, Int.reduceBEq, rules2, rulesX, rowsX]
  cases h
  exact ⟨⟨rfl, trivial⟩, ⟨⟨⟨_, rfl, rfl⟩, rfl⟩, ⟨⟨⟨_, rfl, rfl⟩, rfl⟩, trivial⟩⟩⟩
/- 72: laws_heldIntS -/
def c_laws_heldIntS_1 : ACode := .seq (.reg [(none, .keep [0, 1, 5] [] [])]) (.seq (.seq (.reg [(none, .mv 6 (S 5)), (none, .mv 7 (S 0)), (none, .len 8 (S 7)), (none, .bin 9 .lss (S 6) (S 8))]) (.cond (S 9) .skip (.exit 0))) (.seq (.block 1 (.seq (.seq (.reg [(none, .mv 12 (S 0)), (none, .mv 13 (S 5)), (none, .iaddr 14 (S 12) (S 13) 1), (none, .load 15 (S 14) false 1), (none, .mv 16 (S 1)), (none, .bin 17 .neq (S 15) (S 16))]) (.cond (S 17) (.seq (.reg [(none, .mv 4 (K (-1)))]) .ret) .skip)) (.reg [(none, .mv 18 (S 1)), (none, .bin 19 .add (S 18) (K 1)), (none, .mv 1 (S 19))]))) (.reg [(none, .mv 10 (S 5)), (none, .bin 11 .add (S 10) (K 1)), (none, .mv 5 (S 11))])))
def c_laws_heldIntS_n1 : ACode := (.seq (.reg [(none, .mv 20 (S 1)), (none, .mv 4 (S 20))]) .ret)
def c_laws_heldIntS : ACode := (.seq (.reg [(none, .mv 4 (K 0))]) (.seq (.seq (.reg [(none, .mv 5 (K 0))]) (.block 0 (.loop c_laws_heldIntS_1))) c_laws_heldIntS_n1))
theorem w_laws_heldIntS_1 (a0 : List Int) : ∀ (n : Nat) (v1 : Int) (v2 : Int) (r : Int), f_laws_heldIntS_1 a0 n v1 v2 = some r → ∀ σ : St, σ.kept [0, 1, 5] [] [] = ⟨[(0, vc (aL (List.map rI a0))), (1, vc (aI v1)), (5, vc (aI v2))], [], []⟩ → go Try.prog (.code (.loop c_laws_heldIntS_1) :: [.blk 0, .code c_laws_heldIntS_n1]) (Ret [4] [.sc (.v (.int .i64 r))]) .normal (some σ) := by
  intro n
  induction n with
  | zero => intro _ _ r h; cases h
  | succ n ih =>
    intro v1 v2 r h σ hσ
    rw [f_laws_heldIntS_1] at h
    refine go_round ?_
    rcases Bool.eq_false_or_eq_true (decide (v2 < (a0.length : Int))) with hb3 | hb3
    · rw [ite_t hb3] at h
      obtain ⟨x4, hx4, h⟩ := ob h
      rcases Bool.eq_false_or_eq_true (x4 != v1) with hb5 | hb5
      · rw [ite_t hb5] at h
        try simp only [hσ, hb3, hx4, hb5, c_laws_heldIntS_1, Nat.reduceBEq, Nat.reduceMul, Nat.reduceAdd, Nat.reduceDiv, Int.reduceBEq, rules2, rulesX, rowsX]
        cases h
        exact ⟨⟨rfl, trivial⟩, rfl⟩
      · rw [ite_f hb5] at h
        try simp only [hσ, hb3, hx4, hb5, c_laws_heldIntS_1, Nat.reduceBEq, Nat.reduceMul, Nat.reduceAdd, Nat.reduceDiv, Int.reduceBEq, rules2, rulesX, rowsX]
        refine ih _ _ _ h _ ?_
        try simp only [hb3, hx4, hb5, Nat.reduceBEq, Nat.reduceMul, Nat.reduceAdd, Nat.reduceDiv, Int.reduceBEq, rules2, rulesX, rowsX, List.map_nil]
    · rw [ite_f hb3] at h
      try simp only [hσ, hb3, c_laws_heldIntS_1, c_laws_heldIntS_n1, Nat.reduceBEq, Nat.reduceMul, Nat.reduceAdd, Nat.reduceDiv, Int.reduceBEq, rules2, rulesX, rowsX]
      cases h
      exact ⟨⟨rfl, trivial⟩, rfl⟩
theorem e_laws_heldIntS : entry Try.prog 72 = some (c_laws_heldIntS.strip, [4], 21) := by kernel_rfl
theorem w_laws_heldIntS (a0 : List Int) (a1 : Int) (r : Int) (h : f_laws_heldIntS a0 a1 = some r) : FC Try.prog 72 [.sc (.sl (List.map rI a0)), .sc (.int .i64 a1)] [.sc (.v (.int .i64 r))] := by
  unfold f_laws_heldIntS at h
  refine FC_go (σ := ⟨[(0, vc (aL (List.map rI a0))), (1, vc (aI a1))], [], []⟩) mixed e_laws_heldIntS rfl rfl ?_
  simp only [c_laws_heldIntS]
  try simp only [Nat.reduceBEq, Nat.reduceMul, Nat.reduceAdd, Nat.reduceDiv, Int.reduceBEq, rules2, rulesX, rowsX]
  refine w_laws_heldIntS_1 _ _ _ _ _ h _ ?_
  try simp only [Nat.reduceBEq, Nat.reduceMul, Nat.reduceAdd, Nat.reduceDiv, Int.reduceBEq, rules2, rulesX, rowsX, List.map_nil]
/- 73: laws_heldBoolS -/
def c_laws_heldBoolS_1 : ACode := .seq (.reg [(none, .keep [0, 1, 5] [] [])]) (.seq (.seq (.reg [(none, .mv 6 (S 5)), (none, .mv 7 (S 0)), (none, .len 8 (S 7)), (none, .bin 9 .lss (S 6) (S 8))]) (.cond (S 9) .skip (.exit 0))) (.seq (.block 1 (.seq (.seq (.reg [(none, .mv 12 (S 0)), (none, .mv 13 (S 5)), (none, .iaddr 14 (S 12) (S 13) 1), (none, .load 15 (S 14) false 1), (none, .mv 16 (S 1)), (none, .bin 17 .rem (S 16) (K 3)), (none, .bin 18 .eql (S 17) (K 0)), (none, .beq 19 true (S 15) (S 18))]) (.cond (S 19) (.seq (.reg [(none, .mv 4 (K (-1)))]) .ret) .skip)) (.reg [(none, .mv 20 (S 1)), (none, .bin 21 .add (S 20) (K 1)), (none, .mv 1 (S 21))]))) (.reg [(none, .mv 10 (S 5)), (none, .bin 11 .add (S 10) (K 1)), (none, .mv 5 (S 11))])))
def c_laws_heldBoolS_n1 : ACode := (.seq (.reg [(none, .mv 22 (S 1)), (none, .mv 4 (S 22))]) .ret)
def c_laws_heldBoolS : ACode := (.seq (.reg [(none, .mv 4 (K 0))]) (.seq (.seq (.reg [(none, .mv 5 (K 0))]) (.block 0 (.loop c_laws_heldBoolS_1))) c_laws_heldBoolS_n1))
theorem w_laws_heldBoolS_1 (a0 : List Bool) : ∀ (n : Nat) (v1 : Int) (v2 : Int) (r : Int), f_laws_heldBoolS_1 a0 n v1 v2 = some r → ∀ σ : St, σ.kept [0, 1, 5] [] [] = ⟨[(0, vc (aL (List.map rB a0))), (1, vc (aI v1)), (5, vc (aI v2))], [], []⟩ → go Try.prog (.code (.loop c_laws_heldBoolS_1) :: [.blk 0, .code c_laws_heldBoolS_n1]) (Ret [4] [.sc (.v (.int .i64 r))]) .normal (some σ) := by
  intro n
  induction n with
  | zero => intro _ _ r h; cases h
  | succ n ih =>
    intro v1 v2 r h σ hσ
    rw [f_laws_heldBoolS_1] at h
    refine go_round ?_
    rcases Bool.eq_false_or_eq_true (decide (v2 < (a0.length : Int))) with hb3 | hb3
    · rw [ite_t hb3] at h
      obtain ⟨x4, hx4, h⟩ := ob h
      rcases Bool.eq_false_or_eq_true (x4 == ((IntKind.i64.wrap (Int.tmod v1 (3 : Int))) == (0 : Int))) with hb5 | hb5
      · rw [ite_t hb5] at h
        try simp only [hσ, hb3, hx4, hb5, c_laws_heldBoolS_1, Nat.reduceBEq, Nat.reduceMul, Nat.reduceAdd, Nat.reduceDiv, Int.reduceBEq, rules2, rulesX, rowsX]
        refine ih _ _ _ h _ ?_
        try simp only [hb3, hx4, hb5, Nat.reduceBEq, Nat.reduceMul, Nat.reduceAdd, Nat.reduceDiv, Int.reduceBEq, rules2, rulesX, rowsX, List.map_nil]
      · rw [ite_f hb5] at h
        try simp only [hσ, hb3, hx4, hb5, c_laws_heldBoolS_1, Nat.reduceBEq, Nat.reduceMul, Nat.reduceAdd, Nat.reduceDiv, Int.reduceBEq, rules2, rulesX, rowsX]
        cases h
        exact ⟨⟨rfl, trivial⟩, rfl⟩
    · rw [ite_f hb3] at h
      try simp only [hσ, hb3, c_laws_heldBoolS_1, c_laws_heldBoolS_n1, Nat.reduceBEq, Nat.reduceMul, Nat.reduceAdd, Nat.reduceDiv, Int.reduceBEq, rules2, rulesX, rowsX]
      cases h
      exact ⟨⟨rfl, trivial⟩, rfl⟩
theorem e_laws_heldBoolS : entry Try.prog 73 = some (c_laws_heldBoolS.strip, [4], 23) := by kernel_rfl
theorem w_laws_heldBoolS (a0 : List Bool) (a1 : Int) (r : Int) (h : f_laws_heldBoolS a0 a1 = some r) : FC Try.prog 73 [.sc (.sl (List.map rB a0)), .sc (.int .i64 a1)] [.sc (.v (.int .i64 r))] := by
  unfold f_laws_heldBoolS at h
  refine FC_go (σ := ⟨[(0, vc (aL (List.map rB a0))), (1, vc (aI a1))], [], []⟩) mixed e_laws_heldBoolS rfl rfl ?_
  simp only [c_laws_heldBoolS]
  try simp only [Nat.reduceBEq, Nat.reduceMul, Nat.reduceAdd, Nat.reduceDiv, Int.reduceBEq, rules2, rulesX, rowsX]
  refine w_laws_heldBoolS_1 _ _ _ _ _ h _ ?_
  try simp only [Nat.reduceBEq, Nat.reduceMul, Nat.reduceAdd, Nat.reduceDiv, Int.reduceBEq, rules2, rulesX, rowsX, List.map_nil]
/- 42: laws_heldDesk -/
def c_laws_heldDesk : ACode := (.seq (.reg [(none, .box 2 (S 0)), (none, .mv 4 (K 0))]) (.seq (.reg [(none, .faddr 5 (S 2) 1), (none, .load 6 (S 5) false 1), (none, .mv 7 (S 1)), (none, .call 8 72 [(S 6), (S 7)]), (none, .mv 1 (S 8))]) (.seq (.seq (.reg [(none, .mv 9 (S 1)), (none, .bin 10 .lss (S 9) (K 0))]) (.cond (S 10) (.seq (.reg [(none, .mv 4 (K (-1)))]) .ret) .skip)) (.seq (.reg [(none, .faddr 11 (S 2) 2), (none, .load 12 (S 11) false 1), (none, .mv 13 (S 1)), (none, .call 14 73 [(S 12), (S 13)]), (none, .mv 1 (S 14))]) (.seq (.seq (.reg [(none, .mv 15 (S 1)), (none, .bin 16 .lss (S 15) (K 0))]) (.cond (S 16) (.seq (.reg [(none, .mv 4 (K (-1)))]) .ret) .skip)) (.seq (.reg [(none, .mv 17 (S 1)), (none, .mv 4 (S 17))]) .ret))))))
theorem e_laws_heldDesk : entry Try.prog 42 = some (c_laws_heldDesk.strip, [4], 18) := by kernel_rfl
theorem w_laws_heldDesk (a0 : XDesk) (a1 : Int) (r : Int) (h : f_laws_heldDesk a0 a1 = some r) : FC Try.prog 42 [.ag (XDesk.row a0), .sc (.int .i64 a1)] [.sc (.v (.int .i64 r))] := by
  unfold f_laws_heldDesk at h
  refine FC_go (σ := ⟨[(0, va [aI a0.Now, aL (List.map rI a0.Starts), aL (List.map rB a0.Cleared)]), (1, vc (aI a1))], [], []⟩) mixed e_laws_heldDesk rfl rfl ?_
  simp only [c_laws_heldDesk]
  try simp only [Nat.reduceBEq, Nat.reduceMul, Nat.reduceAdd, Nat.reduceDiv, Int.reduceBEq, rules2, rulesX, rowsX]
  refine go_bx rfl rfl rfl ?_
  obtain ⟨r1, hr1, h⟩ := ob h
  try simp only [Nat.reduceBEq, Nat.reduceMul, Nat.reduceAdd, Nat.reduceDiv, Int.reduceBEq, rules2, rulesX, rowsX]
  refine go_callI (w_laws_heldIntS _ _ _ hr1) rfl rfl (Nat.le_of_ble_eq_true rfl) ?_
  rcases Bool.eq_false_or_eq_true (decide (r1 < (0 : Int))) with hb2 | hb2
  · rw [ite_t hb2] at h
    try simp only [hb2, Nat.reduceBEq, Nat.reduceMul, Nat.reduceAdd, Nat.reduceDiv, Int.reduceBEq, rules2, rulesX, rowsX]
    cases h
    exact ⟨⟨rfl, trivial⟩, rfl⟩
  · rw [ite_f hb2] at h
    obtain ⟨r3, hr3, h⟩ := ob h
    try simp only [hb2, Nat.reduceBEq, Nat.reduceMul, Nat.reduceAdd, Nat.reduceDiv, Int.reduceBEq, rules2, rulesX, rowsX]
    refine go_callI (w_laws_heldBoolS _ _ _ hr3) rfl rfl (Nat.le_of_ble_eq_true rfl) ?_
    rcases Bool.eq_false_or_eq_true (decide (r3 < (0 : Int))) with hb4 | hb4
    · rw [ite_t hb4] at h
      try simp only [hb2, hb4, Nat.reduceBEq, Nat.reduceMul, Nat.reduceAdd, Nat.reduceDiv, Int.reduceBEq, rules2, rulesX, rowsX]
      cases h
      exact ⟨⟨rfl, trivial⟩, rfl⟩
    · rw [ite_f hb4] at h
      try simp only [hb2, hb4, Nat.reduceBEq, Nat.reduceMul, Nat.reduceAdd, Nat.reduceDiv, Int.reduceBEq, rules2, rulesX, rowsX]
      cases h
      exact ⟨⟨rfl, trivial⟩, rfl⟩
/- 9: laws_FnExactDeskNew -/
def c_laws_FnExactDeskNew : ACode := (.seq (.reg [(none, .mv 2 (KB false))]) (.seq (.reg [(none, .mv 8 (S 0)), (none, .call 9 39 [(S 8)]), (none, .alloc 3 [aI 0, .nil, .nil]), (none, .store (S 3) (S 9) 3)]) (.seq (.reg [(none, .mv 10 (S 0)), (none, .call 11 40 [(S 10)]), (none, .alloc 4 [aI 0, .nil, .nil]), (none, .store (S 4) (S 11) 3)]) (.seq (.seq (.reg [(none, .load 12 (S 4) true 3), (none, .load 13 (S 3) true 3), (none, .call 14 38 [(S 12), (S 13)]), (none, .un 15 .not (S 14))]) (.cond (S 15) (.seq (.reg [(none, .mv 2 (KB false))]) .ret) .skip)) (.seq (.reg [(none, .mv 5 (K 1))]) (.seq (.reg [(none, .load 16 (S 4) true 3), (none, .mv 17 (S 5)), (none, .call 18 41 [(S 16), (S 17)]), (none, .mv 5 (S 18))]) (.seq (.reg [(none, .mv 6 (K 1))]) (.seq (.reg [(none, .load 19 (S 4) true 3), (none, .mv 20 (S 6)), (none, .call 21 42 [(S 19), (S 20)]), (none, .mv 6 (S 21))]) (.seq (.seq (.reg [(none, .mv 22 (S 6)), (none, .bin 23 .lss (S 22) (K 0))]) (.cond (S 23) (.seq (.reg [(none, .mv 2 (KB false))]) .ret) .skip)) (.seq (.seq (.reg [(none, .mv 24 (S 6)), (none, .mv 25 (S 5)), (none, .bin 26 .neq (S 24) (S 25))]) (.cond (S 26) (.seq (.reg [(none, .mv 2 (KB false))]) .ret) .skip)) (.seq (.reg [(none, .mv 27 (S 0)), (none, .call 28 40 [(S 27)]), (none, .alloc 7 [aI 0, .nil, .nil]), (none, .store (S 7) (S 28) 3)]) (.seq (.seq (.reg [(none, .load 29 (S 7) true 3), (none, .load 30 (S 3) true 3), (none, .call 31 38 [(S 29), (S 30)]), (none, .un 32 .not (S 31))]) (.cond (S 32) (.seq (.reg [(none, .mv 2 (KB false))]) .ret) .skip)) (.seq (.reg [(none, .mv 6 (K 1))]) (.seq (.reg [(none, .load 33 (S 4) true 3), (none, .mv 34 (S 6)), (none, .call 35 42 [(S 33), (S 34)]), (none, .mv 6 (S 35))]) (.seq (.seq (.reg [(none, .mv 36 (S 6)), (none, .bin 37 .lss (S 36) (K 0))]) (.cond (S 37) (.seq (.reg [(none, .mv 2 (KB false))]) .ret) .skip)) (.seq (.seq (.reg [(none, .mv 38 (S 6)), (none, .mv 39 (S 5)), (none, .bin 40 .neq (S 38) (S 39))]) (.cond (S 40) (.seq (.reg [(none, .mv 2 (KB false))]) .ret) .skip)) (.seq (.reg [(none, .mv 2 (KB true))]) .ret)))))))))))))))))
theorem e_laws_FnExactDeskNew : entry Try.prog 9 = some (c_laws_FnExactDeskNew.strip, [2], 41) := by kernel_rfl
theorem w_laws_FnExactDeskNew (a0 : Int) (r : Bool) (h : f_laws_FnExactDeskNew a0 = some r) : FC Try.prog 9 [.sc (.int .i64 a0)] [.sc (.v (.bool r))] := by
  unfold f_laws_FnExactDeskNew at h
  refine FC_go (σ := ⟨[(0, vc (aI a0))], [], []⟩) mixed e_laws_FnExactDeskNew rfl rfl ?_
  simp only [c_laws_FnExactDeskNew]
  obtain ⟨r1, hr1, h⟩ := ob h
  try simp only [Nat.reduceBEq, Nat.reduceMul, Nat.reduceAdd, Nat.reduceDiv, Int.reduceBEq, rules2, rulesX, rowsX]
  refine go_callI (w_spec_DeskNew _ _ hr1) rfl rfl (Nat.le_of_ble_eq_true rfl) ?_
  try simp only [Nat.reduceBEq, Nat.reduceMul, Nat.reduceAdd, Nat.reduceDiv, Int.reduceBEq, rules2, rulesX, rowsX]
  refine go_al rfl rfl ?_
  obtain ⟨r2, hr2, h⟩ := ob h
  try simp only [Nat.reduceBEq, Nat.reduceMul, Nat.reduceAdd, Nat.reduceDiv, Int.reduceBEq, rules2, rulesX, rowsX]
  refine go_callI (w_impl_DeskNew _ _ hr2) rfl rfl (Nat.le_of_ble_eq_true rfl) ?_
  try simp only [Nat.reduceBEq, Nat.reduceMul, Nat.reduceAdd, Nat.reduceDiv, Int.reduceBEq, rules2, rulesX, rowsX]
  refine go_al rfl rfl ?_
  obtain ⟨r3, hr3, h⟩ := ob h
  try simp only [Nat.reduceBEq, Nat.reduceMul, Nat.reduceAdd, Nat.reduceDiv, Int.reduceBEq, rules2, rulesX, rowsX]
  refine go_call (w_laws_eqDesk _ _ _ hr3) rfl (flat_of rfl) rfl (Nat.le_of_ble_eq_true rfl) ?_
  rcases Bool.eq_false_or_eq_true r3 with hb4 | hb4
  · rw [ite_t hb4] at h
    obtain ⟨r5, hr5, h⟩ := ob h
    try simp only [hb4, Nat.reduceBEq, Nat.reduceMul, Nat.reduceAdd, Nat.reduceDiv, Int.reduceBEq, rules2, rulesX, rowsX]
    have lrr5 := (l_laws_markDesk _ _ _ hr5)
    refine go_callx (ids := [705, 706]) (w_laws_markDesk _ _ _ hr5) rfl rfl rfl (flatR_cons (flatR_cons flatR_nil)) (sameLen_cons (l_laws_markDesk _ _ _ hr5).1 (sameLen_cons (l_laws_markDesk _ _ _ hr5).2 sameLen_nil)) ?_
    obtain ⟨r6, hr6, h⟩ := ob h
    try simp only [hb4, Nat.reduceBEq, Nat.reduceMul, Nat.reduceAdd, Nat.reduceDiv, Int.reduceBEq, rules2, rulesX, rowsX]
    refine go_call (w_laws_heldDesk _ _ _ hr6) rfl (flat_of rfl) rfl (Nat.le_of_ble_eq_true rfl) ?_
    rcases Bool.eq_false_or_eq_true (decide (r6 < (0 : Int))) with hb7 | hb7
    · rw [ite_t hb7] at h
      try simp only [hb4, hb7, Nat.reduceBEq, Nat.reduceMul, Nat.reduceAdd, Nat.reduceDiv, Int.reduceBEq, rules2, rulesX, rowsX]
      cases h
      exact ⟨⟨rfl, trivial⟩, rfl⟩
    · rw [ite_f hb7] at h
      rcases Bool.eq_false_or_eq_true (r6 != r5.1) with hb8 | hb8
      · rw [ite_t hb8] at h
        try simp only [hb4, hb7, hb8, Nat.reduceBEq, Nat.reduceMul, Nat.reduceAdd, Nat.reduceDiv, Int.reduceBEq, rules2, rulesX, rowsX]
        cases h
        exact ⟨⟨rfl, trivial⟩, rfl⟩
      · rw [ite_f hb8] at h
        obtain ⟨r9, hr9, h⟩ := ob h
        try simp only [hb4, hb7, hb8, Nat.reduceBEq, Nat.reduceMul, Nat.reduceAdd, Nat.reduceDiv, Int.reduceBEq, rules2, rulesX, rowsX]
        refine go_callI (w_impl_DeskNew _ _ hr9) rfl rfl (Nat.le_of_ble_eq_true rfl) ?_
        try simp only [hb4, hb7, hb8, Nat.reduceBEq, Nat.reduceMul, Nat.reduceAdd, Nat.reduceDiv, Int.reduceBEq, rules2, rulesX, rowsX]
        refine go_al rfl rfl ?_
        obtain ⟨r10, hr10, h⟩ := ob h
        try simp only [hb4, hb7, hb8, Nat.reduceBEq, Nat.reduceMul, Nat.reduceAdd, Nat.reduceDiv, Int.reduceBEq, rules2, rulesX, rowsX]
        refine go_call (w_laws_eqDesk _ _ _ hr10) rfl (flat_of rfl) rfl (Nat.le_of_ble_eq_true rfl) ?_
        rcases Bool.eq_false_or_eq_true r10 with hb11 | hb11
        · rw [ite_t hb11] at h
          obtain ⟨r12, hr12, h⟩ := ob h
          try simp only [hb4, hb7, hb8, hb11, Nat.reduceBEq, Nat.reduceMul, Nat.reduceAdd, Nat.reduceDiv, Int.reduceBEq, rules2, rulesX, rowsX]
          refine go_call (w_laws_heldDesk _ _ _ hr12) rfl (flat_of rfl) rfl (Nat.le_of_ble_eq_true rfl) ?_
          rcases Bool.eq_false_or_eq_true (decide (r12 < (0 : Int))) with hb13 | hb13
          · rw [ite_t hb13] at h
            try simp only [hb4, hb7, hb8, hb11, hb13, Nat.reduceBEq, Nat.reduceMul, Nat.reduceAdd, Nat.reduceDiv, Int.reduceBEq, rules2, rulesX, rowsX]
            cases h
            exact ⟨⟨rfl, trivial⟩, rfl⟩
          · rw [ite_f hb13] at h
            rcases Bool.eq_false_or_eq_true (r12 != r5.1) with hb14 | hb14
            · rw [ite_t hb14] at h
              try simp only [hb4, hb7, hb8, hb11, hb13, hb14, Nat.reduceBEq, Nat.reduceMul, Nat.reduceAdd, Nat.reduceDiv, Int.reduceBEq, rules2, rulesX, rowsX]
              cases h
              exact ⟨⟨rfl, trivial⟩, rfl⟩
            · rw [ite_f hb14] at h
              try simp only [hb4, hb7, hb8, hb11, hb13, hb14, Nat.reduceBEq, Nat.reduceMul, Nat.reduceAdd, Nat.reduceDiv, Int.reduceBEq, rules2, rulesX, rowsX]
              cases h
              exact ⟨⟨rfl, trivial⟩, rfl⟩
        · rw [ite_f hb11] at h
          try simp only [hb4, hb7, hb8, hb11, Nat.reduceBEq, Nat.reduceMul, Nat.reduceAdd, Nat.reduceDiv, Int.reduceBEq, rules2, rulesX, rowsX]
          cases h
          exact ⟨⟨rfl, trivial⟩, rfl⟩
  · rw [ite_f hb4] at h
    try simp only [hb4, Nat.reduceBEq, Nat.reduceMul, Nat.reduceAdd, Nat.reduceDiv, Int.reduceBEq, rules2, rulesX, rowsX]
    cases h
    exact ⟨⟨rfl, trivial⟩, rfl⟩
end Go.Vi
