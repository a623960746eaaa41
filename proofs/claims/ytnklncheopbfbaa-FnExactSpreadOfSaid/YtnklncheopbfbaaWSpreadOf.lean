/-
  Walks: what the plain definitions compute is what the functions return. By program. No condition.
-/
import Derived.Test.YtnklncheopbfbaaNf
import Derived.Test.YtnklncheopbfbaaChecked
import Derived.KernelRfl
namespace Go.Vi
open Go.Proofs
set_option linter.unusedSimpArgs false
set_option linter.unusedVariables false
attribute [local irreducible] go AWP
theorem mixed : Try.prog.follows .mixedOrders = true := by kernel_rfl
/- 61: laws_szIntS -/
def c_laws_szIntS : ACode := (.seq (.reg [(none, .mv 4 (K 0))]) (.seq (.reg [(none, .mv 5 (S 1)), (none, .mv 6 (S 0)), (none, .len 7 (S 6)), (none, .bin 8 .sub (S 5) (S 7)), (none, .mv 1 (S 8))]) (.seq (.seq (.reg [(none, .mv 9 (S 1)), (none, .bin 10 .lss (S 9) (K 0))]) (.cond (S 10) (.seq (.reg [(none, .mv 4 (K (-1)))]) .ret) .skip)) (.seq (.reg [(none, .mv 11 (S 1)), (none, .mv 4 (S 11))]) .ret))))
theorem e_laws_szIntS : entry Try.prog 61 = some (c_laws_szIntS.strip, [4], 12) := by kernel_rfl
theorem w_laws_szIntS (a0 : List Int) (a1 : Int) (r : Int) (h : f_laws_szIntS a0 a1 = some r) : FC Try.prog 61 [.sc (.sl (List.map rI a0)), .sc (.int .i64 a1)] [.sc (.v (.int .i64 r))] := by
  unfold f_laws_szIntS at h
  refine FC_go (σ := ⟨[(0, vc (aL (List.map rI a0))), (1, vc (aI a1))], [], []⟩) mixed e_laws_szIntS rfl rfl ?_
  simp only [c_laws_szIntS]
  rcases Bool.eq_false_or_eq_true (decide ((IntKind.i64.wrap (a1 - (a0.length : Int))) < (0 : Int))) with hb1 | hb1
  · rw [ite_t hb1] at h
    try simp only [hb1, Nat.reduceBEq, Nat.reduceMul, Nat.reduceAdd, Nat.reduceDiv, Int.reduceBEq, rules2, rowsX]
    cases h
    exact ⟨⟨rfl, trivial⟩, rfl⟩
  · rw [ite_f hb1] at h
    try simp only [hb1, Nat.reduceBEq, Nat.reduceMul, Nat.reduceAdd, Nat.reduceDiv, Int.reduceBEq, rules2, rowsX]
    cases h
    exact ⟨⟨rfl, trivial⟩, rfl⟩
/- 23: laws_szAccount -/
def c_laws_szAccount : ACode := (.seq (.reg [(none, .box 2 (S 0)), (none, .mv 4 (K 0))]) (.seq (.reg [(none, .faddr 5 (S 2) 0), (none, .load 6 (S 5) false 1), (none, .mv 7 (S 1)), (none, .call 8 61 [(S 6), (S 7)]), (none, .mv 1 (S 8))]) (.seq (.seq (.reg [(none, .mv 9 (S 1)), (none, .bin 10 .lss (S 9) (K 0))]) (.cond (S 10) (.seq (.reg [(none, .mv 4 (K (-1)))]) .ret) .skip)) (.seq (.reg [(none, .faddr 11 (S 2) 1), (none, .load 12 (S 11) false 1), (none, .mv 13 (S 1)), (none, .call 14 61 [(S 12), (S 13)]), (none, .mv 1 (S 14))]) (.seq (.seq (.reg [(none, .mv 15 (S 1)), (none, .bin 16 .lss (S 15) (K 0))]) (.cond (S 16) (.seq (.reg [(none, .mv 4 (K (-1)))]) .ret) .skip)) (.seq (.reg [(none, .mv 17 (S 1)), (none, .mv 4 (S 17))]) .ret))))))
theorem e_laws_szAccount : entry Try.prog 23 = some (c_laws_szAccount.strip, [4], 18) := by kernel_rfl
theorem w_laws_szAccount (a0 : XAccount) (a1 : Int) (r : Int) (h : f_laws_szAccount a0 a1 = some r) : FC Try.prog 23 [.ag (XAccount.row a0), .sc (.int .i64 a1)] [.sc (.v (.int .i64 r))] := by
  unfold f_laws_szAccount at h
  refine FC_go (σ := ⟨[(0, va [aL (List.map rI a0.Waits), aL (List.map rI a0.Calls)]), (1, vc (aI a1))], [], []⟩) mixed e_laws_szAccount rfl rfl ?_
  simp only [c_laws_szAccount]
  try simp only [Nat.reduceBEq, Nat.reduceMul, Nat.reduceAdd, Nat.reduceDiv, Int.reduceBEq, rules2, rowsX]
  refine go_bx rfl rfl rfl ?_
  obtain ⟨r1, hr1, h⟩ := ob h
  try simp only [Nat.reduceBEq, Nat.reduceMul, Nat.reduceAdd, Nat.reduceDiv, Int.reduceBEq, rules2, rowsX]
  refine go_callI (w_laws_szIntS _ _ _ hr1) rfl rfl (Nat.le_of_ble_eq_true rfl) ?_
  rcases Bool.eq_false_or_eq_true (decide (r1 < (0 : Int))) with hb2 | hb2
  · rw [ite_t hb2] at h
    try simp only [hb2, Nat.reduceBEq, Nat.reduceMul, Nat.reduceAdd, Nat.reduceDiv, Int.reduceBEq, rules2, rowsX]
    cases h
    exact ⟨⟨rfl, trivial⟩, rfl⟩
  · rw [ite_f hb2] at h
    obtain ⟨r3, hr3, h⟩ := ob h
    try simp only [hb2, Nat.reduceBEq, Nat.reduceMul, Nat.reduceAdd, Nat.reduceDiv, Int.reduceBEq, rules2, rowsX]
    refine go_callI (w_laws_szIntS _ _ _ hr3) rfl rfl (Nat.le_of_ble_eq_true rfl) ?_
    rcases Bool.eq_false_or_eq_true (decide (r3 < (0 : Int))) with hb4 | hb4
    · rw [ite_t hb4] at h
      try simp only [hb2, hb4, Nat.reduceBEq, Nat.reduceMul, Nat.reduceAdd, Nat.reduceDiv, Int.reduceBEq, rules2, rowsX]
      cases h
      exact ⟨⟨rfl, trivial⟩, rfl⟩
    · rw [ite_f hb4] at h
      try simp only [hb2, hb4, Nat.reduceBEq, Nat.reduceMul, Nat.reduceAdd, Nat.reduceDiv, Int.reduceBEq, rules2, rowsX]
      cases h
      exact ⟨⟨rfl, trivial⟩, rfl⟩
/- 18: laws_toIntS -/
def c_laws_toIntS_1 : ACode := .seq (.reg [(none, .keep [0, 3, 4] [] [448])]) (.seq (.seq (.reg [(none, .mv 8 (S 4)), (none, .mv 9 (S 0)), (none, .len 10 (S 9)), (none, .bin 11 .lss (S 8) (S 10))]) (.cond (S 11) .skip (.exit 0))) (.seq (.block 1 (.reg [(none, .mv 14 (S 3)), (none, .mv 15 (S 4)), (none, .mv 16 (S 0)), (none, .mv 17 (S 4)), (none, .iaddr 18 (S 16) (S 17) 1), (none, .load 19 (S 18) false 1), (none, .iaddr 20 (S 14) (S 15) 1), (none, .store (S 20) (S 19) 1)])) (.reg [(none, .mv 12 (S 4)), (none, .bin 13 .add (S 12) (K 1)), (none, .mv 4 (S 13))])))
def c_laws_toIntS_n1 : ACode := (.seq (.reg [(none, .mv 21 (S 3)), (none, .mv 2 (S 21))]) .ret)
def c_laws_toIntS : ACode := (.seq (.reg [(none, .mv 2 KN)]) (.seq (.reg [(none, .mv 5 (S 0)), (none, .len 6 (S 5)), (none, .mksl 7 1 8 [.int .i64 0] (S 6) (S 6)), (none, .mv 3 (S 7))]) (.seq (.seq (.reg [(none, .mv 4 (K 0))]) (.block 0 (.loop c_laws_toIntS_1))) c_laws_toIntS_n1)))
theorem w_laws_toIntS_1 (a0 : List Int) : ∀ (n : Nat) (v2 : Int) (v3 : List Int) (r : (List Int)), f_laws_toIntS_1 a0 n v2 v3 = some r → ∀ σ : St, σ.kept [0, 3, 4] [] [448] = ⟨[(0, vc (aL (List.map rI a0))), (3, vc (.own 448)), (4, vc (aI v2))], [], [(448, 1, List.map rI v3)]⟩ → go Try.prog (.code (.loop c_laws_toIntS_1) :: [.blk 0, .code c_laws_toIntS_n1]) (Ret [2] [.sc (.o 1 (List.map rI r))]) .normal (some σ) := by
  intro n
  induction n with
  | zero => intro _ _ r h; cases h
  | succ n ih =>
    intro v2 v3 r h σ hσ
    rw [f_laws_toIntS_1] at h
    refine go_round ?_
    rcases Bool.eq_false_or_eq_true (decide (v2 < (a0.length : Int))) with hb4 | hb4
    · rw [ite_t hb4] at h
      obtain ⟨x5, hx5, h⟩ := ob h
      obtain ⟨x6, hx6, h⟩ := ob h
      have hx6n := ix_get hx6
      try simp only [hσ, hb4, hx5, hx6, c_laws_toIntS_1, Nat.reduceBEq, Nat.reduceMul, Nat.reduceAdd, Nat.reduceDiv, Int.reduceBEq, rules2, rowsX]
      refine go_stp (y := x5) rfl rfl hx6n rfl rfl rfl ?_
      try simp only [hb4, hx5, hx6, Nat.reduceBEq, Nat.reduceMul, Nat.reduceAdd, Nat.reduceDiv, Int.reduceBEq, rules2, rowsX]
      refine ih _ _ _ h _ ?_
      try simp only [hb4, hx5, hx6, Nat.reduceBEq, Nat.reduceMul, Nat.reduceAdd, Nat.reduceDiv, Int.reduceBEq, rules2, rowsX, List.map_nil]
    · rw [ite_f hb4] at h
      try simp only [hσ, hb4, c_laws_toIntS_1, c_laws_toIntS_n1, Nat.reduceBEq, Nat.reduceMul, Nat.reduceAdd, Nat.reduceDiv, Int.reduceBEq, rules2, rowsX]
      cases h
      exact ⟨⟨rfl, trivial⟩, rfl⟩
theorem e_laws_toIntS : entry Try.prog 18 = some (c_laws_toIntS.strip, [2], 22) := by kernel_rfl
theorem w_laws_toIntS (a0 : List Int) (r : (List Int)) (h : f_laws_toIntS a0 = some r) : FC Try.prog 18 [.sc (.sl (List.map rI a0))] [.sc (.o 1 (List.map rI r))] := by
  unfold f_laws_toIntS at h
  refine FC_go (σ := ⟨[(0, vc (aL (List.map rI a0)))], [], []⟩) mixed e_laws_toIntS rfl rfl ?_
  simp only [c_laws_toIntS]
  obtain ⟨n1, hn1, h⟩ := ob h
  try simp only [Nat.reduceBEq, Nat.reduceMul, Nat.reduceAdd, Nat.reduceDiv, Int.reduceBEq, rules2, rowsX]
  refine go_mks (es := List.map rI (List.replicate n1 (0 : Int))) rfl rfl hn1 rfl (rep_map rfl) rfl ?_
  try simp only [Nat.reduceBEq, Nat.reduceMul, Nat.reduceAdd, Nat.reduceDiv, Int.reduceBEq, rules2, rowsX]
  refine w_laws_toIntS_1 _ _ _ _ _ h _ ?_
  try simp only [Nat.reduceBEq, Nat.reduceMul, Nat.reduceAdd, Nat.reduceDiv, Int.reduceBEq, rules2, rowsX, List.map_nil]
/- 25: laws_toAccount -/
def c_laws_toAccount : ACode := (.seq (.reg [(none, .box 1 (S 0)), (none, .alloc 2 [.nil, .nil])]) (.seq (.reg [(none, .alloc 3 [.nil, .nil])]) (.seq (.reg [(none, .faddr 4 (S 1) 0), (none, .load 5 (S 4) false 1), (none, .call 6 18 [(S 5)]), (none, .faddr 7 (S 3) 0), (none, .store (S 7) (S 6) 1)]) (.seq (.reg [(none, .faddr 8 (S 1) 1), (none, .load 9 (S 8) false 1), (none, .call 10 18 [(S 9)]), (none, .faddr 11 (S 3) 1), (none, .store (S 11) (S 10) 1)]) (.seq (.reg [(none, .load 12 (S 3) true 2), (none, .store (S 2) (S 12) 2)]) .ret)))))
theorem e_laws_toAccount : entry Try.prog 25 = some (c_laws_toAccount.strip, [.c 2 true 2], 13) := by kernel_rfl
theorem w_laws_toAccount (a0 : XAccount) (r : XAccount) (h : f_laws_toAccount a0 = some r) : FC Try.prog 25 [.ag (XAccount.row a0)] [.ag [.o 1 (List.map rI r.Waits), .o 1 (List.map rI r.Calls)]] := by
  unfold f_laws_toAccount at h
  refine FC_go (σ := ⟨[(0, va [aL (List.map rI a0.Waits), aL (List.map rI a0.Calls)])], [], []⟩) mixed e_laws_toAccount rfl rfl ?_
  simp only [c_laws_toAccount]
  try simp only [Nat.reduceBEq, Nat.reduceMul, Nat.reduceAdd, Nat.reduceDiv, Int.reduceBEq, rules2, rowsX]
  refine go_bx rfl rfl rfl ?_
  try simp only [Nat.reduceBEq, Nat.reduceMul, Nat.reduceAdd, Nat.reduceDiv, Int.reduceBEq, rules2, rowsX]
  refine go_al rfl rfl ?_
  try simp only [Nat.reduceBEq, Nat.reduceMul, Nat.reduceAdd, Nat.reduceDiv, Int.reduceBEq, rules2, rowsX]
  refine go_al rfl rfl ?_
  obtain ⟨r1, hr1, h⟩ := ob h
  try simp only [Nat.reduceBEq, Nat.reduceMul, Nat.reduceAdd, Nat.reduceDiv, Int.reduceBEq, rules2, rowsX]
  refine go_callI (w_laws_toIntS _ _ hr1) rfl rfl (Nat.le_of_ble_eq_true rfl) ?_
  obtain ⟨r2, hr2, h⟩ := ob h
  try simp only [Nat.reduceBEq, Nat.reduceMul, Nat.reduceAdd, Nat.reduceDiv, Int.reduceBEq, rules2, rowsX]
  refine go_callI (w_laws_toIntS _ _ hr2) rfl rfl (Nat.le_of_ble_eq_true rfl) ?_
  try simp only [Nat.reduceBEq, Nat.reduceMul, Nat.reduceAdd, Nat.reduceDiv, Int.reduceBEq, rules2, rowsX]
  cases h
  try simp only [rulesR, Nat.reduceBEq, Nat.reduceMul, Nat.reduceAdd, Nat.reduceDiv, Int.reduceBEq, rules2, rowsX]
  exact ⟨⟨⟨rfl, rfl, trivial⟩, trivial⟩, rfl⟩
/- 58: spec_l01In -/
def c_spec_l01In : ACode := (.seq (.reg [(none, .mv 6 (KB false))]) (.seq (.reg [(none, .mv 7 (S 0)), (none, .mv 8 (S 1)), (none, .bin 9 .geq (S 7) (S 8)), (none, .mv 10 (S 9)), (some (10, true), .mv 11 (S 0)), (some (10, true), .mv 12 (S 2)), (some (10, true), .bin 13 .leq (S 11) (S 12)), (none, .pick 14 (S 10) (S 13) (KB false)), (none, .mv 6 (S 14))]) .ret))
theorem e_spec_l01In : entry Try.prog 58 = some (c_spec_l01In.strip, [6], 15) := by kernel_rfl
theorem w_spec_l01In (a0 : Int) (a1 : Int) (a2 : Int) (r : Bool) (h : f_spec_l01In a0 a1 a2 = some r) : FC Try.prog 58 [.sc (.int .i64 a0), .sc (.int .i64 a1), .sc (.int .i64 a2)] [.sc (.v (.bool r))] := by
  unfold f_spec_l01In at h
  refine FC_go (σ := ⟨[(0, vc (aI a0)), (1, vc (aI a1)), (2, vc (aI a2))], [], []⟩) mixed e_spec_l01In rfl rfl ?_
  simp only [c_spec_l01In]
  rcases Bool.eq_false_or_eq_true (decide (a1 ≤ a0)) with hb1 | hb1
  · rw [ite_t hb1] at h
    try simp only [hb1, Nat.reduceBEq, Nat.reduceMul, Nat.reduceAdd, Nat.reduceDiv, Int.reduceBEq, rules2, rowsX]
    cases h
    exact ⟨⟨rfl, trivial⟩, rfl⟩
  · rw [ite_f hb1] at h
    try simp only [hb1, Nat.reduceBEq, Nat.reduceMul, Nat.reduceAdd, Nat.reduceDiv, Int.reduceBEq, rules2, rowsX]
    cases h
    exact ⟨⟨rfl, trivial⟩, rfl⟩
/- 24: spec_AccountOk -/
def c_spec_AccountOk_1 : ACode := .seq (.reg [(none, .keep [1, 16, 17] [1] [])]) (.seq (.reg [(none, .bin 18 .lss (S 17) (S 16))]) (.seq (.cond (S 18) .skip (.exit 0)) (.seq (.block 1 (.seq (.reg [(none, .mv 19 (S 17)), (none, .mv 3 (S 19))]) (.seq (.reg [(none, .faddr 20 (S 1) 0), (none, .load 21 (S 20) false 1), (none, .mv 22 (S 3)), (none, .iaddr 23 (S 21) (S 22) 1), (none, .load 24 (S 23) false 1), (none, .call 25 58 [(S 24), (K 0), (K 1000000)]), (none, .un 26 .not (S 25)), (none, .mv 27 (S 26)), (some (27, false), .faddr 28 (S 1) 1), (some (27, false), .load 29 (S 28) false 1), (some (27, false), .mv 30 (S 3)), (some (27, false), .iaddr 31 (S 29) (S 30) 1), (some (27, false), .load 32 (S 31) false 1), (some (27, false), .call 33 58 [(S 32), (K 0), (K 1000000)]), (some (27, false), .un 34 .not (S 33)), (none, .pick 35 (S 27) (KB true) (S 34))]) (.cond (S 35) (.seq (.reg [(none, .mv 2 (KB false))]) .ret) .skip)))) (.reg [(none, .bin 36 .add (S 17) (K 1)), (none, .mv 17 (S 36))]))))
def c_spec_AccountOk_n1 : ACode := (.seq (.reg [(none, .mv 2 (KB true))]) .ret)
def c_spec_AccountOk : ACode := (.seq (.reg [(none, .box 1 (S 0)), (none, .mv 2 (KB false))]) (.seq (.seq (.reg [(none, .faddr 4 (S 1) 0), (none, .load 5 (S 4) false 1), (none, .len 6 (S 5)), (none, .bin 7 .neq (S 6) (K 4)), (none, .mv 8 (S 7)), (some (8, false), .faddr 9 (S 1) 1), (some (8, false), .load 10 (S 9) false 1), (some (8, false), .len 11 (S 10)), (some (8, false), .bin 12 .neq (S 11) (K 4)), (none, .pick 13 (S 8) (KB true) (S 12))]) (.cond (S 13) (.seq (.reg [(none, .mv 2 (KB false))]) .ret) .skip)) (.seq (.seq (.reg [(none, .faddr 14 (S 1) 0), (none, .load 15 (S 14) false 1), (none, .len 16 (S 15)), (none, .mv 17 (K 0))]) (.block 0 (.loop c_spec_AccountOk_1))) c_spec_AccountOk_n1)))
theorem w_spec_AccountOk_1 (a0 : XAccount) : ∀ (n : Nat) (v3 : Int) (r : Bool), f_spec_AccountOk_1 a0 n v3 = some r → ∀ σ : St, σ.kept [1, 16, 17] [1] [] = ⟨[(1, vc (.pb 1 0)), (16, vc (aI (a0.Waits.length : Int))), (17, vc (aI v3))], [(1, [aL (List.map rI a0.Waits), aL (List.map rI a0.Calls)])], []⟩ → go Try.prog (.code (.loop c_spec_AccountOk_1) :: [.blk 0, .code c_spec_AccountOk_n1]) (Ret [2] [.sc (.v (.bool r))]) .normal (some σ) := by
  intro n
  induction n with
  | zero => intro _ r h; cases h
  | succ n ih =>
    intro v3 r h σ hσ
    rw [f_spec_AccountOk_1] at h
    refine go_round ?_
    rcases Bool.eq_false_or_eq_true (decide (v3 < (a0.Waits.length : Int))) with hb4 | hb4
    · rw [ite_t hb4] at h
      obtain ⟨x5, hx5, h⟩ := ob h
      obtain ⟨r6, hr6, h⟩ := ob h
      try simp only [hσ, hb4, hx5, c_spec_AccountOk_1, Nat.reduceBEq, Nat.reduceMul, Nat.reduceAdd, Nat.reduceDiv, Int.reduceBEq, rules2, rowsX]
      refine go_callI (w_spec_l01In _ _ _ _ hr6) rfl rfl (Nat.le_of_ble_eq_true rfl) ?_
      rcases Bool.eq_false_or_eq_true r6 with hb7 | hb7
      · rw [ite_t hb7] at h
        obtain ⟨x8, hx8, h⟩ := ob h
        obtain ⟨r9, hr9, h⟩ := ob h
        try simp only [hb4, hx5, hb7, hx8, Nat.reduceBEq, Nat.reduceMul, Nat.reduceAdd, Nat.reduceDiv, Int.reduceBEq, rules2, rowsX]
        refine go_callI (w_spec_l01In _ _ _ _ hr9) rfl rfl (Nat.le_of_ble_eq_true rfl) ?_
        rcases Bool.eq_false_or_eq_true r9 with hb10 | hb10
        · rw [ite_t hb10] at h
          try simp only [hb4, hx5, hb7, hx8, hb10, Nat.reduceBEq, Nat.reduceMul, Nat.reduceAdd, Nat.reduceDiv, Int.reduceBEq, rules2, rowsX]
          refine ih _ _ h _ ?_
          try simp only [hb4, hx5, hb7, hx8, hb10, Nat.reduceBEq, Nat.reduceMul, Nat.reduceAdd, Nat.reduceDiv, Int.reduceBEq, rules2, rowsX, List.map_nil]
        · rw [ite_f hb10] at h
          try simp only [hb4, hx5, hb7, hx8, hb10, Nat.reduceBEq, Nat.reduceMul, Nat.reduceAdd, Nat.reduceDiv, Int.reduceBEq, rules2, rowsX]
          cases h
          exact ⟨⟨rfl, trivial⟩, rfl⟩
      · rw [ite_f hb7] at h
        try simp only [hb4, hx5, hb7, Nat.reduceBEq, Nat.reduceMul, Nat.reduceAdd, Nat.reduceDiv, Int.reduceBEq, rules2, rowsX]
        cases h
        exact ⟨⟨rfl, trivial⟩, rfl⟩
    · rw [ite_f hb4] at h
      try simp only [hσ, hb4, c_spec_AccountOk_1, c_spec_AccountOk_n1, Nat.reduceBEq, Nat.reduceMul, Nat.reduceAdd, Nat.reduceDiv, Int.reduceBEq, rules2, rowsX]
      cases h
      exact ⟨⟨rfl, trivial⟩, rfl⟩
theorem e_spec_AccountOk : entry Try.prog 24 = some (c_spec_AccountOk.strip, [2], 37) := by kernel_rfl
theorem w_spec_AccountOk (a0 : XAccount) (r : Bool) (h : f_spec_AccountOk a0 = some r) : FC Try.prog 24 [.ag (XAccount.row a0)] [.sc (.v (.bool r))] := by
  unfold f_spec_AccountOk at h
  refine FC_go (σ := ⟨[(0, va [aL (List.map rI a0.Waits), aL (List.map rI a0.Calls)])], [], []⟩) mixed e_spec_AccountOk rfl rfl ?_
  simp only [c_spec_AccountOk]
  try simp only [Nat.reduceBEq, Nat.reduceMul, Nat.reduceAdd, Nat.reduceDiv, Int.reduceBEq, rules2, rowsX]
  refine go_bx rfl rfl rfl ?_
  rcases Bool.eq_false_or_eq_true ((a0.Waits.length : Int) != (4 : Int)) with hb1 | hb1
  · rw [ite_t hb1] at h
    try simp only [hb1, Nat.reduceBEq, Nat.reduceMul, Nat.reduceAdd, Nat.reduceDiv, Int.reduceBEq, rules2, rowsX]
    cases h
    exact ⟨⟨rfl, trivial⟩, rfl⟩
  · rw [ite_f hb1] at h
    rcases Bool.eq_false_or_eq_true ((a0.Calls.length : Int) != (4 : Int)) with hb2 | hb2
    · rw [ite_t hb2] at h
      try simp only [hb1, hb2, Nat.reduceBEq, Nat.reduceMul, Nat.reduceAdd, Nat.reduceDiv, Int.reduceBEq, rules2, rowsX]
      cases h
      exact ⟨⟨rfl, trivial⟩, rfl⟩
    · rw [ite_f hb2] at h
      try simp only [hb1, hb2, Nat.reduceBEq, Nat.reduceMul, Nat.reduceAdd, Nat.reduceDiv, Int.reduceBEq, rules2, rowsX]
      refine w_spec_AccountOk_1 _ _ _ _ h _ ?_
      try simp only [hb1, hb2, Nat.reduceBEq, Nat.reduceMul, Nat.reduceAdd, Nat.reduceDiv, Int.reduceBEq, rules2, rowsX, List.map_nil]
/- 45: spec_WorstLine -/
def c_spec_WorstLine_2 : ACode := .seq (.reg [(none, .keep [1, 3, 4, 10, 11, 12, 43] [1] [])]) (.cond (S 43) (.reg [(none, .mv 44 (S 4)), (none, .mv 3 (S 44))]) .skip)
def c_spec_WorstLine_n2 : ACode := (.reg [(none, .bin 45 .add (S 12) (K 1)), (none, .mv 12 (S 45))])
def c_spec_WorstLine_1 : ACode := .seq (.reg [(none, .keep [1, 3, 10, 11, 12] [1] [])]) (.seq (.reg [(none, .bin 13 .lss (S 12) (S 11))]) (.seq (.cond (S 13) .skip (.exit 0)) (.seq (.block 1 (.seq (.reg [(none, .mv 14 (S 12)), (none, .iaddr 15 (S 10) (S 12) 1), (none, .load 16 (S 15) false 1), (none, .mv 4 (S 14)), (none, .mv 5 (S 16))]) (.seq (.drw [(some [], (none, .mv 17 (S 5))), (some [], (none, .bin 18 .gtr (S 17) (K 0))), (some [], (none, .mv 19 (S 18))), (some [], (some (19, true), .mv 20 (S 3))), (some [], (some (19, true), .bin 21 .lss (S 20) (K 0))), (some [], (some (19, true), .mv 22 (S 21))), (some [], (some (22, false), .faddr 23 (S 1) 0)), (some [], (some (22, false), .load 24 (S 23) false 1)), (some [], (some (22, false), .mv 25 (S 4))), (some [], (some (22, false), .iaddr 26 (S 24) (S 25) 1)), (some [], (some (22, false), .load 27 (S 26) false 1)), (some [], (some (22, false), .mv 28 (S 5))), (some [], (some (22, false), .bin 29 .quo (S 27) (S 28))), (some [], (some (22, false), .faddr 30 (S 1) 0)), (some [], (some (22, false), .load 31 (S 30) false 1)), (some [], (some (22, false), .mv 32 (S 3))), (some [], (some (22, false), .iaddr 33 (S 31) (S 32) 1)), (some [], (some (22, false), .load 34 (S 33) false 1)), (some [], (some (22, false), .faddr 35 (S 1) 1)), (some [], (some (22, false), .load 36 (S 35) false 1)), (some [], (some (22, false), .mv 37 (S 3))), (some [], (some (22, false), .iaddr 38 (S 36) (S 37) 1)), (some [], (some (22, false), .load 39 (S 38) false 1)), (some [], (some (22, false), .bin 40 .quo (S 34) (S 39))), (some [], (some (22, false), .bin 41 .gtr (S 29) (S 40))), (some [], (some (19, true), .pick 42 (S 22) (KB true) (S 41))), (some [], (none, .pick 43 (S 19) (S 42) (KB false)))]) c_spec_WorstLine_2))) c_spec_WorstLine_n2)))
def c_spec_WorstLine_n1 : ACode := (.seq (.reg [(none, .mv 46 (S 3)), (none, .mv 2 (S 46))]) .ret)
def c_spec_WorstLine : ACode := (.seq (.reg [(none, .box 1 (S 0)), (none, .mv 2 (K 0))]) (.seq (.reg [(none, .mv 3 (K (-1)))]) (.seq (.seq (.reg [(none, .load 6 (S 1) true 2), (none, .call 7 24 [(S 6)]), (none, .un 8 .not (S 7))]) (.cond (S 8) (.seq (.reg [(none, .mv 2 (K (-1)))]) .ret) .skip)) (.seq (.seq (.reg [(none, .faddr 9 (S 1) 1), (none, .load 10 (S 9) false 1), (none, .len 11 (S 10)), (none, .mv 12 (K 0))]) (.block 0 (.loop c_spec_WorstLine_1))) c_spec_WorstLine_n1))))
theorem w_spec_WorstLine_2 (v3 : Int) (v4 : Int) (a0 : XAccount) (k_spec_WorstLine_1 : Int → Int → Option Int) (hk_spec_WorstLine_1 : ∀ (v3 : Int) (v4 : Int) zr, k_spec_WorstLine_1 v3 v4 = some zr → ∀ σ : St, σ.kept [1, 3, 10, 11, 12] [1] [] = ⟨[(1, vc (.pb 1 0)), (3, vc (aI v3)), (10, vc (aL (List.map rI a0.Calls))), (11, vc (aI (a0.Calls.length : Int))), (12, vc (aI v4))], [(1, [aL (List.map rI a0.Waits), aL (List.map rI a0.Calls)])], []⟩ → go Try.prog (.code (.loop c_spec_WorstLine_1) :: [.blk 0, .code c_spec_WorstLine_n1]) (Ret [2] [.sc (.v (.int .i64 zr))]) .normal (some σ)) (v14 : Bool) (r : Int) (h : f_spec_WorstLine_2 v3 v4 a0 k_spec_WorstLine_1 v14 = some r) (σ : St) (hσ : σ.kept [1, 3, 4, 10, 11, 12, 43] [1] [] = ⟨[(1, vc (.pb 1 0)), (3, vc (aI v3)), (4, vc (aI v4)), (10, vc (aL (List.map rI a0.Calls))), (11, vc (aI (a0.Calls.length : Int))), (12, vc (aI v4)), (43, vc (aB v14))], [(1, [aL (List.map rI a0.Waits), aL (List.map rI a0.Calls)])], []⟩) : go Try.prog (.code c_spec_WorstLine_2 :: [.blk 1, .code c_spec_WorstLine_n2, .code (.loop c_spec_WorstLine_1), .blk 0, .code c_spec_WorstLine_n1]) (Ret [2] [.sc (.v (.int .i64 r))]) .normal (some σ) := by
  unfold f_spec_WorstLine_2 at h
  rcases Bool.eq_false_or_eq_true v14 with hb15 | hb15
  · rw [ite_t hb15] at h
    try simp only [hσ, hb15, c_spec_WorstLine_2, c_spec_WorstLine_n2, Nat.reduceBEq, Nat.reduceMul, Nat.reduceAdd, Nat.reduceDiv, Int.reduceBEq, rules2, rowsX]
    refine hk_spec_WorstLine_1 _ _ _ h _ ?_
    try simp only [hb15, Nat.reduceBEq, Nat.reduceMul, Nat.reduceAdd, Nat.reduceDiv, Int.reduceBEq, rules2, rowsX, List.map_nil]
  · rw [ite_f hb15] at h
    try simp only [hσ, hb15, c_spec_WorstLine_2, c_spec_WorstLine_n2, Nat.reduceBEq, Nat.reduceMul, Nat.reduceAdd, Nat.reduceDiv, Int.reduceBEq, rules2, rowsX]
    refine hk_spec_WorstLine_1 _ _ _ h _ ?_
    try simp only [hb15, Nat.reduceBEq, Nat.reduceMul, Nat.reduceAdd, Nat.reduceDiv, Int.reduceBEq, rules2, rowsX, List.map_nil]
theorem w_spec_WorstLine_1 (a0 : XAccount) : ∀ (n : Nat) (v3 : Int) (v4 : Int) (r : Int), f_spec_WorstLine_1 a0 n v3 v4 = some r → ∀ σ : St, σ.kept [1, 3, 10, 11, 12] [1] [] = ⟨[(1, vc (.pb 1 0)), (3, vc (aI v3)), (10, vc (aL (List.map rI a0.Calls))), (11, vc (aI (a0.Calls.length : Int))), (12, vc (aI v4))], [(1, [aL (List.map rI a0.Waits), aL (List.map rI a0.Calls)])], []⟩ → go Try.prog (.code (.loop c_spec_WorstLine_1) :: [.blk 0, .code c_spec_WorstLine_n1]) (Ret [2] [.sc (.v (.int .i64 r))]) .normal (some σ) := by
  intro n
  induction n with
  | zero => intro _ _ r h; cases h
  | succ n ih =>
    intro v3 v4 r h σ hσ
    rw [f_spec_WorstLine_1] at h
    refine go_round ?_
    rcases Bool.eq_false_or_eq_true (decide (v4 < (a0.Calls.length : Int))) with hb5 | hb5
    · rw [ite_t hb5] at h
      obtain ⟨x6, hx6, h⟩ := ob h
      try simp only [hσ, hb5, hx6, c_spec_WorstLine_1, Nat.reduceBEq, Nat.reduceMul, Nat.reduceAdd, Nat.reduceDiv, Int.reduceBEq, rules2, rowsX]
      refine go_fr_of rfl ?_
      rcases Bool.eq_false_or_eq_true (decide ((0 : Int) < x6)) with hb7 | hb7
      · rw [ite_t hb7] at h
        rcases Bool.eq_false_or_eq_true (decide (v3 < (0 : Int))) with hb8 | hb8
        · rw [ite_t hb8] at h
          try simp only [hb5, hx6, hb7, hb8, Nat.reduceBEq, Nat.reduceMul, Nat.reduceAdd, Nat.reduceDiv, Int.reduceBEq, rules2, rowsX]
          refine w_spec_WorstLine_2 _ _ _ (f_spec_WorstLine_1 a0 n) ih _ _ h _ ?_
          try simp only [hb5, hx6, hb7, hb8, Nat.reduceBEq, Nat.reduceMul, Nat.reduceAdd, Nat.reduceDiv, Int.reduceBEq, rules2, rowsX, List.map_nil]
        · rw [ite_f hb8] at h
          obtain ⟨x9, hx9, h⟩ := ob h
          obtain ⟨hg10, h⟩ := of_guardn h
          obtain ⟨x11, hx11, h⟩ := ob h
          obtain ⟨x12, hx12, h⟩ := ob h
          obtain ⟨hg13, h⟩ := of_guardn h
          try simp only [hb5, hx6, hb7, hb8, hx9, hg10, hx11, hx12, hg13, Nat.reduceBEq, Nat.reduceMul, Nat.reduceAdd, Nat.reduceDiv, Int.reduceBEq, rules2, rowsX]
          refine w_spec_WorstLine_2 _ _ _ (f_spec_WorstLine_1 a0 n) ih _ _ h _ ?_
          try simp only [hb5, hx6, hb7, hb8, hx9, hg10, hx11, hx12, hg13, Nat.reduceBEq, Nat.reduceMul, Nat.reduceAdd, Nat.reduceDiv, Int.reduceBEq, rules2, rowsX, List.map_nil]
      · rw [ite_f hb7] at h
        try simp only [hb5, hx6, hb7, Nat.reduceBEq, Nat.reduceMul, Nat.reduceAdd, Nat.reduceDiv, Int.reduceBEq, rules2, rowsX]
        refine w_spec_WorstLine_2 _ _ _ (f_spec_WorstLine_1 a0 n) ih _ _ h _ ?_
        try simp only [hb5, hx6, hb7, Nat.reduceBEq, Nat.reduceMul, Nat.reduceAdd, Nat.reduceDiv, Int.reduceBEq, rules2, rowsX, List.map_nil]
    · rw [ite_f hb5] at h
      try simp only [hσ, hb5, c_spec_WorstLine_1, c_spec_WorstLine_n1, Nat.reduceBEq, Nat.reduceMul, Nat.reduceAdd, Nat.reduceDiv, Int.reduceBEq, rules2, rowsX]
      cases h
      exact ⟨⟨rfl, trivial⟩, rfl⟩
theorem e_spec_WorstLine : entry Try.prog 45 = some (c_spec_WorstLine.strip, [2], 47) := by kernel_rfl
theorem w_spec_WorstLine (a0 : XAccount) (r : Int) (h : f_spec_WorstLine a0 = some r) : FC Try.prog 45 [.ag (XAccount.row a0)] [.sc (.v (.int .i64 r))] := by
  unfold f_spec_WorstLine at h
  refine FC_go (σ := ⟨[(0, va [aL (List.map rI a0.Waits), aL (List.map rI a0.Calls)])], [], []⟩) mixed e_spec_WorstLine rfl rfl ?_
  simp only [c_spec_WorstLine]
  try simp only [Nat.reduceBEq, Nat.reduceMul, Nat.reduceAdd, Nat.reduceDiv, Int.reduceBEq, rules2, rowsX]
  refine go_bx rfl rfl rfl ?_
  obtain ⟨r1, hr1, h⟩ := ob h
  try simp only [Nat.reduceBEq, Nat.reduceMul, Nat.reduceAdd, Nat.reduceDiv, Int.reduceBEq, rules2, rowsX]
  refine go_callI (w_spec_AccountOk _ _ hr1) rfl rfl (Nat.le_of_ble_eq_true rfl) ?_
  rcases Bool.eq_false_or_eq_true r1 with hb2 | hb2
  · rw [ite_t hb2] at h
    try simp only [hb2, Nat.reduceBEq, Nat.reduceMul, Nat.reduceAdd, Nat.reduceDiv, Int.reduceBEq, rules2, rowsX]
    refine w_spec_WorstLine_1 _ _ _ _ _ h _ ?_
    try simp only [hb2, Nat.reduceBEq, Nat.reduceMul, Nat.reduceAdd, Nat.reduceDiv, Int.reduceBEq, rules2, rowsX, List.map_nil]
  · rw [ite_f hb2] at h
    try simp only [hb2, Nat.reduceBEq, Nat.reduceMul, Nat.reduceAdd, Nat.reduceDiv, Int.reduceBEq, rules2, rowsX]
    cases h
    exact ⟨⟨rfl, trivial⟩, rfl⟩
/- 47: spec_SpreadOf -/
def c_spec_SpreadOf_1 : ACode := .seq (.reg [(none, .keep [1, 4, 5, 25, 26, 27] [1] [])]) (.seq (.reg [(none, .bin 28 .lss (S 27) (S 26))]) (.seq (.cond (S 28) .skip (.exit 0)) (.seq (.block 1 (.seq (.reg [(none, .mv 29 (S 27)), (none, .iaddr 30 (S 25) (S 27) 1), (none, .load 31 (S 30) false 1), (none, .mv 6 (S 29)), (none, .mv 7 (S 31))]) (.seq (.reg [(none, .mv 32 (S 7)), (none, .bin 33 .gtr (S 32) (K 0))]) (.cond (S 33) (.reg [(none, .mv 34 (S 5)), (none, .faddr 35 (S 1) 0), (none, .load 36 (S 35) false 1), (none, .mv 37 (S 6)), (none, .iaddr 38 (S 36) (S 37) 1), (none, .load 39 (S 38) false 1), (none, .mv 40 (S 7)), (none, .bin 41 .quo (S 39) (S 40)), (none, .mm 42 false (S 34) (S 41)), (none, .mv 5 (S 42))]) .skip)))) (.reg [(none, .bin 43 .add (S 27) (K 1)), (none, .mv 27 (S 43))]))))
def c_spec_SpreadOf_n1 : ACode := (.seq (.reg [(none, .mv 44 (S 4)), (none, .mv 45 (S 5)), (none, .bin 46 .sub (S 44) (S 45)), (none, .mv 2 (S 46))]) .ret)
def c_spec_SpreadOf : ACode := (.seq (.reg [(none, .box 1 (S 0)), (none, .mv 2 (K 0))]) (.seq (.reg [(none, .load 8 (S 1) true 2), (none, .call 9 45 [(S 8)]), (none, .mv 3 (S 9))]) (.seq (.seq (.reg [(none, .mv 10 (S 3)), (none, .bin 11 .lss (S 10) (K 0))]) (.cond (S 11) (.seq (.reg [(none, .mv 2 (K 0))]) .ret) .skip)) (.seq (.drw [(some [], (none, .faddr 12 (S 1) 0)), (some [], (none, .load 13 (S 12) false 1)), (some [], (none, .mv 14 (S 3))), (some [], (none, .iaddr 15 (S 13) (S 14) 1)), (some [], (none, .load 16 (S 15) false 1)), (some [], (none, .faddr 17 (S 1) 1)), (some [], (none, .load 18 (S 17) false 1)), (some [], (none, .mv 19 (S 3))), (some [], (none, .iaddr 20 (S 18) (S 19) 1)), (some [], (none, .load 21 (S 20) false 1)), (some [], (none, .bin 22 .quo (S 16) (S 21))), (some [], (none, .mv 4 (S 22)))]) (.seq (.reg [(none, .mv 23 (S 4)), (none, .mv 5 (S 23))]) (.seq (.seq (.reg [(none, .faddr 24 (S 1) 1), (none, .load 25 (S 24) false 1), (none, .len 26 (S 25)), (none, .mv 27 (K 0))]) (.block 0 (.loop c_spec_SpreadOf_1))) c_spec_SpreadOf_n1))))))
theorem w_spec_SpreadOf_1 (a0 : XAccount) (y6 : Int) : ∀ (n : Nat) (v7 : Int) (v8 : Int) (r : Int), f_spec_SpreadOf_1 a0 y6 n v7 v8 = some r → ∀ σ : St, σ.kept [1, 4, 5, 25, 26, 27] [1] [] = ⟨[(1, vc (.pb 1 0)), (4, vc (aI y6)), (5, vc (aI v7)), (25, vc (aL (List.map rI a0.Calls))), (26, vc (aI (a0.Calls.length : Int))), (27, vc (aI v8))], [(1, [aL (List.map rI a0.Waits), aL (List.map rI a0.Calls)])], []⟩ → go Try.prog (.code (.loop c_spec_SpreadOf_1) :: [.blk 0, .code c_spec_SpreadOf_n1]) (Ret [2] [.sc (.v (.int .i64 r))]) .normal (some σ) := by
  intro n
  induction n with
  | zero => intro _ _ r h; cases h
  | succ n ih =>
    intro v7 v8 r h σ hσ
    rw [f_spec_SpreadOf_1] at h
    refine go_round ?_
    rcases Bool.eq_false_or_eq_true (decide (v8 < (a0.Calls.length : Int))) with hb9 | hb9
    · rw [ite_t hb9] at h
      obtain ⟨x10, hx10, h⟩ := ob h
      rcases Bool.eq_false_or_eq_true (decide ((0 : Int) < x10)) with hb11 | hb11
      · rw [ite_t hb11] at h
        obtain ⟨x12, hx12, h⟩ := ob h
        obtain ⟨hg13, h⟩ := of_guardn h
        try simp only [hσ, hb9, hx10, hb11, hx12, hg13, c_spec_SpreadOf_1, Nat.reduceBEq, Nat.reduceMul, Nat.reduceAdd, Nat.reduceDiv, Int.reduceBEq, rules2, rowsX]
        refine ih _ _ _ h _ ?_
        try simp only [hb9, hx10, hb11, hx12, hg13, Nat.reduceBEq, Nat.reduceMul, Nat.reduceAdd, Nat.reduceDiv, Int.reduceBEq, rules2, rowsX, List.map_nil]
      · rw [ite_f hb11] at h
        try simp only [hσ, hb9, hx10, hb11, c_spec_SpreadOf_1, Nat.reduceBEq, Nat.reduceMul, Nat.reduceAdd, Nat.reduceDiv, Int.reduceBEq, rules2, rowsX]
        refine ih _ _ _ h _ ?_
        try simp only [hb9, hx10, hb11, Nat.reduceBEq, Nat.reduceMul, Nat.reduceAdd, Nat.reduceDiv, Int.reduceBEq, rules2, rowsX, List.map_nil]
    · rw [ite_f hb9] at h
      try simp only [hσ, hb9, c_spec_SpreadOf_1, c_spec_SpreadOf_n1, Nat.reduceBEq, Nat.reduceMul, Nat.reduceAdd, Nat.reduceDiv, Int.reduceBEq, rules2, rowsX]
      cases h
      exact ⟨⟨rfl, trivial⟩, rfl⟩
theorem e_spec_SpreadOf : entry Try.prog 47 = some (c_spec_SpreadOf.strip, [2], 47) := by kernel_rfl
theorem w_spec_SpreadOf (a0 : XAccount) (r : Int) (h : f_spec_SpreadOf a0 = some r) : FC Try.prog 47 [.ag (XAccount.row a0)] [.sc (.v (.int .i64 r))] := by
  unfold f_spec_SpreadOf at h
  refine FC_go (σ := ⟨[(0, va [aL (List.map rI a0.Waits), aL (List.map rI a0.Calls)])], [], []⟩) mixed e_spec_SpreadOf rfl rfl ?_
  simp only [c_spec_SpreadOf]
  try simp only [Nat.reduceBEq, Nat.reduceMul, Nat.reduceAdd, Nat.reduceDiv, Int.reduceBEq, rules2, rowsX]
  refine go_bx rfl rfl rfl ?_
  obtain ⟨r1, hr1, h⟩ := ob h
  try simp only [Nat.reduceBEq, Nat.reduceMul, Nat.reduceAdd, Nat.reduceDiv, Int.reduceBEq, rules2, rowsX]
  refine go_callI (w_spec_WorstLine _ _ hr1) rfl rfl (Nat.le_of_ble_eq_true rfl) ?_
  rcases Bool.eq_false_or_eq_true (decide (r1 < (0 : Int))) with hb2 | hb2
  · rw [ite_t hb2] at h
    try simp only [hb2, Nat.reduceBEq, Nat.reduceMul, Nat.reduceAdd, Nat.reduceDiv, Int.reduceBEq, rules2, rowsX]
    cases h
    exact ⟨⟨rfl, trivial⟩, rfl⟩
  · rw [ite_f hb2] at h
    try simp only [hb2, Nat.reduceBEq, Nat.reduceMul, Nat.reduceAdd, Nat.reduceDiv, Int.reduceBEq, rules2, rowsX]
    refine go_fr_of rfl ?_
    obtain ⟨x3, hx3, h⟩ := ob h
    obtain ⟨x4, hx4, h⟩ := ob h
    obtain ⟨hg5, h⟩ := of_guardn h
    try simp only [hb2, hx3, hx4, hg5, Nat.reduceBEq, Nat.reduceMul, Nat.reduceAdd, Nat.reduceDiv, Int.reduceBEq, rules2, rowsX]
    refine w_spec_SpreadOf_1 _ _ _ _ _ _ h _ ?_
    try simp only [hb2, hx3, hx4, hg5, Nat.reduceBEq, Nat.reduceMul, Nat.reduceAdd, Nat.reduceDiv, Int.reduceBEq, rules2, rowsX, List.map_nil]
/- 59: impl_within -/
def c_impl_within : ACode := (.seq (.reg [(none, .mv 6 (KB false))]) (.seq (.reg [(none, .mv 7 (S 1)), (none, .mv 8 (S 0)), (none, .bin 9 .leq (S 7) (S 8)), (none, .mv 10 (S 9)), (some (10, true), .mv 11 (S 0)), (some (10, true), .mv 12 (S 2)), (some (10, true), .bin 13 .leq (S 11) (S 12)), (none, .pick 14 (S 10) (S 13) (KB false)), (none, .mv 6 (S 14))]) .ret))
theorem e_impl_within : entry Try.prog 59 = some (c_impl_within.strip, [6], 15) := by kernel_rfl
theorem w_impl_within (a0 : Int) (a1 : Int) (a2 : Int) (r : Bool) (h : f_impl_within a0 a1 a2 = some r) : FC Try.prog 59 [.sc (.int .i64 a0), .sc (.int .i64 a1), .sc (.int .i64 a2)] [.sc (.v (.bool r))] := by
  unfold f_impl_within at h
  refine FC_go (σ := ⟨[(0, vc (aI a0)), (1, vc (aI a1)), (2, vc (aI a2))], [], []⟩) mixed e_impl_within rfl rfl ?_
  simp only [c_impl_within]
  rcases Bool.eq_false_or_eq_true (decide (a1 ≤ a0)) with hb1 | hb1
  · rw [ite_t hb1] at h
    try simp only [hb1, Nat.reduceBEq, Nat.reduceMul, Nat.reduceAdd, Nat.reduceDiv, Int.reduceBEq, rules2, rowsX]
    cases h
    exact ⟨⟨rfl, trivial⟩, rfl⟩
  · rw [ite_f hb1] at h
    try simp only [hb1, Nat.reduceBEq, Nat.reduceMul, Nat.reduceAdd, Nat.reduceDiv, Int.reduceBEq, rules2, rowsX]
    cases h
    exact ⟨⟨rfl, trivial⟩, rfl⟩
/- 26: impl_AccountOk -/
def c_impl_AccountOk_1 : ACode := .seq (.reg [(none, .keep [1, 14] [1] [])]) (.seq (.reg [(none, .bin 15 .lss (S 14) (K 4))]) (.seq (.cond (S 15) .skip (.exit 0)) (.seq (.block 1 (.seq (.reg [(none, .mv 16 (S 14)), (none, .mv 3 (S 16))]) (.seq (.reg [(none, .faddr 17 (S 1) 0), (none, .load 18 (S 17) false 1), (none, .mv 19 (S 3)), (none, .iaddr 20 (S 18) (S 19) 1), (none, .load 21 (S 20) false 1), (none, .call 22 59 [(S 21), (K 0), (K 1000000)]), (none, .un 23 .not (S 22)), (none, .mv 24 (S 23)), (some (24, false), .faddr 25 (S 1) 1), (some (24, false), .load 26 (S 25) false 1), (some (24, false), .mv 27 (S 3)), (some (24, false), .iaddr 28 (S 26) (S 27) 1), (some (24, false), .load 29 (S 28) false 1), (some (24, false), .call 30 59 [(S 29), (K 0), (K 1000000)]), (some (24, false), .un 31 .not (S 30)), (none, .pick 32 (S 24) (KB true) (S 31))]) (.cond (S 32) (.seq (.reg [(none, .mv 2 (KB false))]) .ret) .skip)))) (.reg [(none, .bin 33 .add (S 14) (K 1)), (none, .mv 14 (S 33))]))))
def c_impl_AccountOk_n1 : ACode := (.seq (.reg [(none, .mv 2 (KB true))]) .ret)
def c_impl_AccountOk : ACode := (.seq (.reg [(none, .box 1 (S 0)), (none, .mv 2 (KB false))]) (.seq (.seq (.reg [(none, .faddr 4 (S 1) 0), (none, .load 5 (S 4) false 1), (none, .len 6 (S 5)), (none, .bin 7 .neq (S 6) (K 4)), (none, .mv 8 (S 7)), (some (8, false), .faddr 9 (S 1) 1), (some (8, false), .load 10 (S 9) false 1), (some (8, false), .len 11 (S 10)), (some (8, false), .bin 12 .neq (S 11) (K 4)), (none, .pick 13 (S 8) (KB true) (S 12))]) (.cond (S 13) (.seq (.reg [(none, .mv 2 (KB false))]) .ret) .skip)) (.seq (.seq (.reg [(none, .mv 14 (K 0))]) (.block 0 (.loop c_impl_AccountOk_1))) c_impl_AccountOk_n1)))
theorem w_impl_AccountOk_1 (a0 : XAccount) : ∀ (n : Nat) (v3 : Int) (r : Bool), f_impl_AccountOk_1 a0 n v3 = some r → ∀ σ : St, σ.kept [1, 14] [1] [] = ⟨[(1, vc (.pb 1 0)), (14, vc (aI v3))], [(1, [aL (List.map rI a0.Waits), aL (List.map rI a0.Calls)])], []⟩ → go Try.prog (.code (.loop c_impl_AccountOk_1) :: [.blk 0, .code c_impl_AccountOk_n1]) (Ret [2] [.sc (.v (.bool r))]) .normal (some σ) := by
  intro n
  induction n with
  | zero => intro _ r h; cases h
  | succ n ih =>
    intro v3 r h σ hσ
    rw [f_impl_AccountOk_1] at h
    refine go_round ?_
    rcases Bool.eq_false_or_eq_true (decide (v3 < (4 : Int))) with hb4 | hb4
    · rw [ite_t hb4] at h
      obtain ⟨x5, hx5, h⟩ := ob h
      obtain ⟨r6, hr6, h⟩ := ob h
      try simp only [hσ, hb4, hx5, c_impl_AccountOk_1, Nat.reduceBEq, Nat.reduceMul, Nat.reduceAdd, Nat.reduceDiv, Int.reduceBEq, rules2, rowsX]
      refine go_callI (w_impl_within _ _ _ _ hr6) rfl rfl (Nat.le_of_ble_eq_true rfl) ?_
      rcases Bool.eq_false_or_eq_true r6 with hb7 | hb7
      · rw [ite_t hb7] at h
        obtain ⟨x8, hx8, h⟩ := ob h
        obtain ⟨r9, hr9, h⟩ := ob h
        try simp only [hb4, hx5, hb7, hx8, Nat.reduceBEq, Nat.reduceMul, Nat.reduceAdd, Nat.reduceDiv, Int.reduceBEq, rules2, rowsX]
        refine go_callI (w_impl_within _ _ _ _ hr9) rfl rfl (Nat.le_of_ble_eq_true rfl) ?_
        rcases Bool.eq_false_or_eq_true r9 with hb10 | hb10
        · rw [ite_t hb10] at h
          try simp only [hb4, hx5, hb7, hx8, hb10, Nat.reduceBEq, Nat.reduceMul, Nat.reduceAdd, Nat.reduceDiv, Int.reduceBEq, rules2, rowsX]
          refine ih _ _ h _ ?_
          try simp only [hb4, hx5, hb7, hx8, hb10, Nat.reduceBEq, Nat.reduceMul, Nat.reduceAdd, Nat.reduceDiv, Int.reduceBEq, rules2, rowsX, List.map_nil]
        · rw [ite_f hb10] at h
          try simp only [hb4, hx5, hb7, hx8, hb10, Nat.reduceBEq, Nat.reduceMul, Nat.reduceAdd, Nat.reduceDiv, Int.reduceBEq, rules2, rowsX]
          cases h
          exact ⟨⟨rfl, trivial⟩, rfl⟩
      · rw [ite_f hb7] at h
        try simp only [hb4, hx5, hb7, Nat.reduceBEq, Nat.reduceMul, Nat.reduceAdd, Nat.reduceDiv, Int.reduceBEq, rules2, rowsX]
        cases h
        exact ⟨⟨rfl, trivial⟩, rfl⟩
    · rw [ite_f hb4] at h
      try simp only [hσ, hb4, c_impl_AccountOk_1, c_impl_AccountOk_n1, Nat.reduceBEq, Nat.reduceMul, Nat.reduceAdd, Nat.reduceDiv, Int.reduceBEq, rules2, rowsX]
      cases h
      exact ⟨⟨rfl, trivial⟩, rfl⟩
theorem e_impl_AccountOk : entry Try.prog 26 = some (c_impl_AccountOk.strip, [2], 34) := by kernel_rfl
theorem w_impl_AccountOk (a0 : XAccount) (r : Bool) (h : f_impl_AccountOk a0 = some r) : FC Try.prog 26 [.ag (XAccount.row a0)] [.sc (.v (.bool r))] := by
  unfold f_impl_AccountOk at h
  refine FC_go (σ := ⟨[(0, va [aL (List.map rI a0.Waits), aL (List.map rI a0.Calls)])], [], []⟩) mixed e_impl_AccountOk rfl rfl ?_
  simp only [c_impl_AccountOk]
  try simp only [Nat.reduceBEq, Nat.reduceMul, Nat.reduceAdd, Nat.reduceDiv, Int.reduceBEq, rules2, rowsX]
  refine go_bx rfl rfl rfl ?_
  rcases Bool.eq_false_or_eq_true ((a0.Waits.length : Int) != (4 : Int)) with hb1 | hb1
  · rw [ite_t hb1] at h
    try simp only [hb1, Nat.reduceBEq, Nat.reduceMul, Nat.reduceAdd, Nat.reduceDiv, Int.reduceBEq, rules2, rowsX]
    cases h
    exact ⟨⟨rfl, trivial⟩, rfl⟩
  · rw [ite_f hb1] at h
    rcases Bool.eq_false_or_eq_true ((a0.Calls.length : Int) != (4 : Int)) with hb2 | hb2
    · rw [ite_t hb2] at h
      try simp only [hb1, hb2, Nat.reduceBEq, Nat.reduceMul, Nat.reduceAdd, Nat.reduceDiv, Int.reduceBEq, rules2, rowsX]
      cases h
      exact ⟨⟨rfl, trivial⟩, rfl⟩
    · rw [ite_f hb2] at h
      try simp only [hb1, hb2, Nat.reduceBEq, Nat.reduceMul, Nat.reduceAdd, Nat.reduceDiv, Int.reduceBEq, rules2, rowsX]
      refine w_impl_AccountOk_1 _ _ _ _ h _ ?_
      try simp only [hb1, hb2, Nat.reduceBEq, Nat.reduceMul, Nat.reduceAdd, Nat.reduceDiv, Int.reduceBEq, rules2, rowsX, List.map_nil]
/- 76: impl_means -/
def c_impl_means_1 : ACode := .seq (.reg [(none, .keep [1, 4, 5, 14] [1] [448, 512])]) (.seq (.reg [(none, .bin 15 .lss (S 14) (K 4))]) (.seq (.cond (S 15) .skip (.exit 0)) (.seq (.block 1 (.seq (.reg [(none, .mv 16 (S 14)), (none, .mv 6 (S 16))]) (.seq (.reg [(none, .faddr 17 (S 1) 1), (none, .load 18 (S 17) false 1), (none, .mv 19 (S 6)), (none, .iaddr 20 (S 18) (S 19) 1), (none, .load 21 (S 20) false 1), (none, .bin 22 .gtr (S 21) (K 0))]) (.cond (S 22) (.seq (.drw [(some [35], (none, .mv 23 (S 4))), (some [], (none, .faddr 24 (S 1) 0)), (some [], (none, .load 25 (S 24) false 1)), (some [], (none, .mv 26 (S 6))), (some [], (none, .iaddr 27 (S 25) (S 26) 1)), (some [], (none, .load 28 (S 27) false 1)), (some [], (none, .faddr 29 (S 1) 1)), (some [], (none, .load 30 (S 29) false 1)), (some [], (none, .mv 31 (S 6))), (some [], (none, .iaddr 32 (S 30) (S 31) 1)), (some [], (none, .load 33 (S 32) false 1)), (some [], (none, .bin 34 .quo (S 28) (S 33))), (some [], (none, .bslice 35 1 [.int .i64 0] 1 [(0, (S 34))])), (none, (none, .app 36 1 8 (S 23) (S 35))), (some [], (none, .mv 4 (S 36)))]) (.reg [(none, .mv 37 (S 5)), (none, .mv 38 (S 6)), (none, .bslice 39 1 [.int .i64 0] 1 [(0, (S 38))]), (none, .app 40 1 8 (S 37) (S 39)), (none, .mv 5 (S 40))])) .skip)))) (.reg [(none, .bin 41 .add (S 14) (K 1)), (none, .mv 14 (S 41))]))))
def c_impl_means_n1 : ACode := (.seq (.reg [(none, .mv 42 (S 4)), (none, .mv 43 (S 5)), (none, .mv 2 (S 42)), (none, .mv 3 (S 43))]) .ret)
def c_impl_means : ACode := (.seq (.reg [(none, .box 1 (S 0)), (none, .mv 2 KN), (none, .mv 3 KN)]) (.seq (.reg [(none, .bslice 7 1 [.int .i64 0] 0 []), (none, .bslice 8 1 [.int .i64 0] 0 []), (none, .mv 4 (S 7)), (none, .mv 5 (S 8))]) (.seq (.seq (.reg [(none, .load 9 (S 1) true 2), (none, .call 10 26 [(S 9)]), (none, .un 11 .not (S 10))]) (.cond (S 11) (.seq (.reg [(none, .mv 12 (S 4)), (none, .mv 13 (S 5)), (none, .mv 2 (S 12)), (none, .mv 3 (S 13))]) .ret) .skip)) (.seq (.seq (.reg [(none, .mv 14 (K 0))]) (.block 0 (.loop c_impl_means_1))) c_impl_means_n1))))
theorem w_impl_means_1 (a0 : XAccount) : ∀ (n : Nat) (v3 : Int) (v4 : List Int) (v5 : List Int) (r : (List Int) × (List Int)), f_impl_means_1 a0 n v3 v4 v5 = some r → ∀ σ : St, σ.kept [1, 4, 5, 14] [1] [448, 512] = ⟨[(1, vc (.pb 1 0)), (4, vc (.own 448)), (5, vc (.own 512)), (14, vc (aI v3))], [(1, [aL (List.map rI a0.Waits), aL (List.map rI a0.Calls)])], [(448, 1, List.map rI v4), (512, 1, List.map rI v5)]⟩ → go Try.prog (.code (.loop c_impl_means_1) :: [.blk 0, .code c_impl_means_n1]) (Ret [2, 3] [.sc (.o 1 (List.map rI r.1)), .sc (.o 1 (List.map rI r.2))]) .normal (some σ) := by
  intro n
  induction n with
  | zero => intro _ _ _ r h; cases h
  | succ n ih =>
    intro v3 v4 v5 r h σ hσ
    rw [f_impl_means_1] at h
    refine go_round ?_
    rcases Bool.eq_false_or_eq_true (decide (v3 < (4 : Int))) with hb6 | hb6
    · rw [ite_t hb6] at h
      obtain ⟨x7, hx7, h⟩ := ob h
      rcases Bool.eq_false_or_eq_true (decide ((0 : Int) < x7)) with hb8 | hb8
      · rw [ite_t hb8] at h
        try simp only [hσ, hb6, hx7, hb8, c_impl_means_1, Nat.reduceBEq, Nat.reduceMul, Nat.reduceAdd, Nat.reduceDiv, Int.reduceBEq, rules2, rowsX]
        refine go_fr_of rfl ?_
        obtain ⟨x9, hx9, h⟩ := ob h
        obtain ⟨hg10, h⟩ := of_guardn h
        try simp only [hb6, hx7, hb8, hx9, hg10, Nat.reduceBEq, Nat.reduceMul, Nat.reduceAdd, Nat.reduceDiv, Int.reduceBEq, rules2, rowsX]
        refine go_bsl (es := List.map rI ([(IntKind.i64.wrap (Int.tdiv x9 x7))] : List Int)) rfl rfl ?_
        obtain ⟨hg11, h⟩ := of_guard h
        try simp only [hb6, hx7, hb8, hx9, hg10, hg11, Nat.reduceBEq, Nat.reduceMul, Nat.reduceAdd, Nat.reduceDiv, Int.reduceBEq, rules2, rowsX]
        refine go_fr_of rfl ?_
        try simp only [hb6, hx7, hb8, hx9, hg10, hg11, Nat.reduceBEq, Nat.reduceMul, Nat.reduceAdd, Nat.reduceDiv, Int.reduceBEq, rules2, rowsX]
        refine go_bsl (es := List.map rI ([v3] : List Int)) rfl rfl ?_
        obtain ⟨hg12, h⟩ := of_guard h
        try simp only [hb6, hx7, hb8, hx9, hg10, hg11, hg12, Nat.reduceBEq, Nat.reduceMul, Nat.reduceAdd, Nat.reduceDiv, Int.reduceBEq, rules2, rowsX]
        refine ih _ _ _ _ h _ ?_
        try simp only [hb6, hx7, hb8, hx9, hg10, hg11, hg12, Nat.reduceBEq, Nat.reduceMul, Nat.reduceAdd, Nat.reduceDiv, Int.reduceBEq, rules2, rowsX, List.map_nil]
      · rw [ite_f hb8] at h
        try simp only [hσ, hb6, hx7, hb8, c_impl_means_1, Nat.reduceBEq, Nat.reduceMul, Nat.reduceAdd, Nat.reduceDiv, Int.reduceBEq, rules2, rowsX]
        refine ih _ _ _ _ h _ ?_
        try simp only [hb6, hx7, hb8, Nat.reduceBEq, Nat.reduceMul, Nat.reduceAdd, Nat.reduceDiv, Int.reduceBEq, rules2, rowsX, List.map_nil]
    · rw [ite_f hb6] at h
      try simp only [hσ, hb6, c_impl_means_1, c_impl_means_n1, Nat.reduceBEq, Nat.reduceMul, Nat.reduceAdd, Nat.reduceDiv, Int.reduceBEq, rules2, rowsX]
      cases h
      exact ⟨⟨rfl, rfl, trivial⟩, rfl⟩
theorem e_impl_means : entry Try.prog 76 = some (c_impl_means.strip, [2, 3], 44) := by kernel_rfl
theorem w_impl_means (a0 : XAccount) (r : (List Int) × (List Int)) (h : f_impl_means a0 = some r) : FC Try.prog 76 [.ag (XAccount.row a0)] [.sc (.o 1 (List.map rI r.1)), .sc (.o 1 (List.map rI r.2))] := by
  unfold f_impl_means at h
  refine FC_go (σ := ⟨[(0, va [aL (List.map rI a0.Waits), aL (List.map rI a0.Calls)])], [], []⟩) mixed e_impl_means rfl rfl ?_
  simp only [c_impl_means]
  try simp only [Nat.reduceBEq, Nat.reduceMul, Nat.reduceAdd, Nat.reduceDiv, Int.reduceBEq, rules2, rowsX]
  refine go_bx rfl rfl rfl ?_
  try simp only [Nat.reduceBEq, Nat.reduceMul, Nat.reduceAdd, Nat.reduceDiv, Int.reduceBEq, rules2, rowsX]
  refine go_bsl (es := List.map rI ([] : List Int)) rfl rfl ?_
  try simp only [Nat.reduceBEq, Nat.reduceMul, Nat.reduceAdd, Nat.reduceDiv, Int.reduceBEq, rules2, rowsX]
  refine go_bsl (es := List.map rI ([] : List Int)) rfl rfl ?_
  obtain ⟨r1, hr1, h⟩ := ob h
  try simp only [Nat.reduceBEq, Nat.reduceMul, Nat.reduceAdd, Nat.reduceDiv, Int.reduceBEq, rules2, rowsX]
  refine go_callI (w_impl_AccountOk _ _ hr1) rfl rfl (Nat.le_of_ble_eq_true rfl) ?_
  rcases Bool.eq_false_or_eq_true r1 with hb2 | hb2
  · rw [ite_t hb2] at h
    try simp only [hb2, Nat.reduceBEq, Nat.reduceMul, Nat.reduceAdd, Nat.reduceDiv, Int.reduceBEq, rules2, rowsX]
    refine w_impl_means_1 _ _ _ _ _ _ h _ ?_
    try simp only [hb2, Nat.reduceBEq, Nat.reduceMul, Nat.reduceAdd, Nat.reduceDiv, Int.reduceBEq, rules2, rowsX, List.map_nil]
  · rw [ite_f hb2] at h
    try simp only [hb2, Nat.reduceBEq, Nat.reduceMul, Nat.reduceAdd, Nat.reduceDiv, Int.reduceBEq, rules2, rowsX]
    cases h
    exact ⟨⟨rfl, rfl, trivial⟩, rfl⟩
/- 48: impl_SpreadOf -/
def c_impl_SpreadOf_1 : ACode := .seq (.reg [(none, .keep [5, 6, 23, 24, 25] [] [704])]) (.seq (.reg [(none, .bin 26 .lss (S 25) (S 24))]) (.seq (.cond (S 26) .skip (.exit 0)) (.seq (.block 1 (.seq (.reg [(none, .iaddr 27 (S 23) (S 25) 1), (none, .load 28 (S 27) false 1), (none, .mv 8 (S 28))]) (.reg [(none, .mv 29 (S 5)), (none, .mv 30 (S 8)), (none, .mm 31 false (S 29) (S 30)), (none, .mv 32 (S 6)), (none, .mv 33 (S 8)), (none, .mm 34 true (S 32) (S 33)), (none, .mv 5 (S 31)), (none, .mv 6 (S 34))]))) (.reg [(none, .bin 35 .add (S 25) (K 1)), (none, .mv 25 (S 35))]))))
def c_impl_SpreadOf_n1 : ACode := (.seq (.reg [(none, .mv 36 (S 6)), (none, .mv 37 (S 5)), (none, .bin 38 .sub (S 36) (S 37)), (none, .mv 2 (S 38))]) .ret)
def c_impl_SpreadOf : ACode := (.seq (.reg [(none, .box 1 (S 0)), (none, .mv 2 (K 0))]) (.seq (.reg [(none, .load 10 (S 1) true 2), (none, .call 11 76 [(S 10)]), (none, .mv 9 (S 11)), (none, .extr 12 (S 9) 0), (none, .extr 13 (S 9) 1), (none, .mv 3 (S 12)), (none, .mv 4 (S 13))]) (.seq (.seq (.reg [(none, .mv 14 (S 3)), (none, .len 15 (S 14)), (none, .bin 16 .eql (S 15) (K 0))]) (.cond (S 16) (.seq (.reg [(none, .mv 2 (K 0))]) .ret) .skip)) (.seq (.drw [(some [], (none, .mv 17 (S 3))), (some [], (none, .iaddr 18 (S 17) (K 0) 1)), (some [], (none, .load 19 (S 18) false 1)), (some [], (none, .mv 20 (S 3))), (some [], (none, .iaddr 21 (S 20) (K 0) 1)), (some [], (none, .load 22 (S 21) false 1)), (some [], (none, .mv 5 (S 19))), (some [], (none, .mv 6 (S 22)))]) (.seq (.seq (.reg [(none, .mv 23 (S 3)), (none, .len 24 (S 23)), (none, .mv 25 (K 0))]) (.block 0 (.loop c_impl_SpreadOf_1))) c_impl_SpreadOf_n1)))))
theorem w_impl_SpreadOf_1 (r1 : (List Int) × (List Int)) : ∀ (n : Nat) (v4 : Int) (v5 : Int) (v6 : Int) (r : Int), f_impl_SpreadOf_1 r1 n v4 v5 v6 = some r → ∀ σ : St, σ.kept [5, 6, 23, 24, 25] [] [704] = ⟨[(5, vc (aI v4)), (6, vc (aI v5)), (23, vc (.own 704)), (24, vc (aI (r1.1.length : Int))), (25, vc (aI v6))], [], [(704, 1, List.map rI r1.1)]⟩ → go Try.prog (.code (.loop c_impl_SpreadOf_1) :: [.blk 0, .code c_impl_SpreadOf_n1]) (Ret [2] [.sc (.v (.int .i64 r))]) .normal (some σ) := by
  intro n
  induction n with
  | zero => intro _ _ _ r h; cases h
  | succ n ih =>
    intro v4 v5 v6 r h σ hσ
    rw [f_impl_SpreadOf_1] at h
    refine go_round ?_
    rcases Bool.eq_false_or_eq_true (decide (v6 < (r1.1.length : Int))) with hb7 | hb7
    · rw [ite_t hb7] at h
      obtain ⟨x8, hx8, h⟩ := ob h
      have hx8n := ix_get hx8
      try simp only [hσ, hb7, hx8, hx8n, c_impl_SpreadOf_1, Nat.reduceBEq, Nat.reduceMul, Nat.reduceAdd, Nat.reduceDiv, Int.reduceBEq, rules2, rowsX]
      refine ih _ _ _ _ h _ ?_
      try simp only [hb7, hx8, hx8n, Nat.reduceBEq, Nat.reduceMul, Nat.reduceAdd, Nat.reduceDiv, Int.reduceBEq, rules2, rowsX, List.map_nil]
    · rw [ite_f hb7] at h
      try simp only [hσ, hb7, c_impl_SpreadOf_1, c_impl_SpreadOf_n1, Nat.reduceBEq, Nat.reduceMul, Nat.reduceAdd, Nat.reduceDiv, Int.reduceBEq, rules2, rowsX]
      cases h
      exact ⟨⟨rfl, trivial⟩, rfl⟩
theorem e_impl_SpreadOf : entry Try.prog 48 = some (c_impl_SpreadOf.strip, [2], 39) := by kernel_rfl
theorem w_impl_SpreadOf (a0 : XAccount) (r : Int) (h : f_impl_SpreadOf a0 = some r) : FC Try.prog 48 [.ag (XAccount.row a0)] [.sc (.v (.int .i64 r))] := by
  unfold f_impl_SpreadOf at h
  refine FC_go (σ := ⟨[(0, va [aL (List.map rI a0.Waits), aL (List.map rI a0.Calls)])], [], []⟩) mixed e_impl_SpreadOf rfl rfl ?_
  simp only [c_impl_SpreadOf]
  try simp only [Nat.reduceBEq, Nat.reduceMul, Nat.reduceAdd, Nat.reduceDiv, Int.reduceBEq, rules2, rowsX]
  refine go_bx rfl rfl rfl ?_
  obtain ⟨r1, hr1, h⟩ := ob h
  try simp only [Nat.reduceBEq, Nat.reduceMul, Nat.reduceAdd, Nat.reduceDiv, Int.reduceBEq, rules2, rowsX]
  refine go_callI (w_impl_means _ _ hr1) rfl rfl (Nat.le_of_ble_eq_true rfl) ?_
  rcases Bool.eq_false_or_eq_true ((r1.1.length : Int) == (0 : Int)) with hb2 | hb2
  · rw [ite_t hb2] at h
    try simp only [hb2, Nat.reduceBEq, Nat.reduceMul, Nat.reduceAdd, Nat.reduceDiv, Int.reduceBEq, rules2, rowsX]
    cases h
    exact ⟨⟨rfl, trivial⟩, rfl⟩
  · rw [ite_f hb2] at h
    try simp only [hb2, Nat.reduceBEq, Nat.reduceMul, Nat.reduceAdd, Nat.reduceDiv, Int.reduceBEq, rules2, rowsX]
    refine go_fr_of rfl ?_
    obtain ⟨x3, hx3, h⟩ := ob h
    have hx3n := ix_get hx3
    try simp only [hb2, hx3, hx3n, Nat.reduceBEq, Nat.reduceMul, Nat.reduceAdd, Nat.reduceDiv, Int.reduceBEq, rules2, rowsX]
    refine w_impl_SpreadOf_1 _ _ _ _ _ _ h _ ?_
    try simp only [hb2, hx3, hx3n, Nat.reduceBEq, Nat.reduceMul, Nat.reduceAdd, Nat.reduceDiv, Int.reduceBEq, rules2, rowsX, List.map_nil]
/- 20: laws_eqIntS -/
def c_laws_eqIntS_1 : ACode := .seq (.reg [(none, .keep [0, 1, 5] [] [])]) (.seq (.seq (.reg [(none, .mv 11 (S 5)), (none, .mv 12 (S 0)), (none, .len 13 (S 12)), (none, .bin 14 .lss (S 11) (S 13))]) (.cond (S 14) .skip (.exit 0))) (.seq (.block 1 (.seq (.drw [(some [], (none, .mv 17 (S 0))), (some [], (none, .mv 18 (S 5))), (some [], (none, .iaddr 19 (S 17) (S 18) 1)), (some [], (none, .load 20 (S 19) false 1)), (some [], (none, .mv 21 (S 1))), (some [], (none, .mv 22 (S 5))), (some [], (none, .iaddr 23 (S 21) (S 22) 1)), (some [], (none, .load 24 (S 23) false 1)), (some [], (none, .bin 25 .neq (S 20) (S 24)))]) (.cond (S 25) (.seq (.reg [(none, .mv 4 (KB false))]) .ret) .skip))) (.reg [(none, .mv 15 (S 5)), (none, .bin 16 .add (S 15) (K 1)), (none, .mv 5 (S 16))])))
def c_laws_eqIntS_n1 : ACode := (.seq (.reg [(none, .mv 4 (KB true))]) .ret)
def c_laws_eqIntS : ACode := (.seq (.reg [(none, .mv 4 (KB false))]) (.seq (.seq (.reg [(none, .mv 6 (S 0)), (none, .len 7 (S 6)), (none, .mv 8 (S 1)), (none, .len 9 (S 8)), (none, .bin 10 .neq (S 7) (S 9))]) (.cond (S 10) (.seq (.reg [(none, .mv 4 (KB false))]) .ret) .skip)) (.seq (.seq (.reg [(none, .mv 5 (K 0))]) (.block 0 (.loop c_laws_eqIntS_1))) c_laws_eqIntS_n1)))
theorem w_laws_eqIntS_1 (a0 : List Int) (a1 : List Int) : ∀ (n : Nat) (v2 : Int) (r : Bool), f_laws_eqIntS_1 a0 a1 n v2 = some r → ∀ σ : St, σ.kept [0, 1, 5] [] [] = ⟨[(0, vc (aL (List.map rI a0))), (1, vc (aL (List.map rI a1))), (5, vc (aI v2))], [], []⟩ → go Try.prog (.code (.loop c_laws_eqIntS_1) :: [.blk 0, .code c_laws_eqIntS_n1]) (Ret [4] [.sc (.v (.bool r))]) .normal (some σ) := by
  intro n
  induction n with
  | zero => intro _ r h; cases h
  | succ n ih =>
    intro v2 r h σ hσ
    rw [f_laws_eqIntS_1] at h
    refine go_round ?_
    rcases Bool.eq_false_or_eq_true (decide (v2 < (a0.length : Int))) with hb3 | hb3
    · rw [ite_t hb3] at h
      try simp only [hσ, hb3, c_laws_eqIntS_1, Nat.reduceBEq, Nat.reduceMul, Nat.reduceAdd, Nat.reduceDiv, Int.reduceBEq, rules2, rowsX]
      refine go_fr_of rfl ?_
      obtain ⟨x4, hx4, h⟩ := ob h
      obtain ⟨x5, hx5, h⟩ := ob h
      rcases Bool.eq_false_or_eq_true (x4 != x5) with hb6 | hb6
      · rw [ite_t hb6] at h
        try simp only [hb3, hx4, hx5, hb6, Nat.reduceBEq, Nat.reduceMul, Nat.reduceAdd, Nat.reduceDiv, Int.reduceBEq, rules2, rowsX]
        cases h
        exact ⟨⟨rfl, trivial⟩, rfl⟩
      · rw [ite_f hb6] at h
        try simp only [hb3, hx4, hx5, hb6, Nat.reduceBEq, Nat.reduceMul, Nat.reduceAdd, Nat.reduceDiv, Int.reduceBEq, rules2, rowsX]
        refine ih _ _ h _ ?_
        try simp only [hb3, hx4, hx5, hb6, Nat.reduceBEq, Nat.reduceMul, Nat.reduceAdd, Nat.reduceDiv, Int.reduceBEq, rules2, rowsX, List.map_nil]
    · rw [ite_f hb3] at h
      try simp only [hσ, hb3, c_laws_eqIntS_1, c_laws_eqIntS_n1, Nat.reduceBEq, Nat.reduceMul, Nat.reduceAdd, Nat.reduceDiv, Int.reduceBEq, rules2, rowsX]
      cases h
      exact ⟨⟨rfl, trivial⟩, rfl⟩
theorem e_laws_eqIntS : entry Try.prog 20 = some (c_laws_eqIntS.strip, [4], 26) := by kernel_rfl
theorem w_laws_eqIntS (a0 : List Int) (a1 : List Int) (r : Bool) (h : f_laws_eqIntS a0 a1 = some r) : FC Try.prog 20 [.sc (.sl (List.map rI a0)), .sc (.sl (List.map rI a1))] [.sc (.v (.bool r))] := by
  unfold f_laws_eqIntS at h
  refine FC_go (σ := ⟨[(0, vc (aL (List.map rI a0))), (1, vc (aL (List.map rI a1)))], [], []⟩) mixed e_laws_eqIntS rfl rfl ?_
  simp only [c_laws_eqIntS]
  rcases Bool.eq_false_or_eq_true ((a0.length : Int) != (a1.length : Int)) with hb1 | hb1
  · rw [ite_t hb1] at h
    try simp only [hb1, Nat.reduceBEq, Nat.reduceMul, Nat.reduceAdd, Nat.reduceDiv, Int.reduceBEq, rules2, rowsX]
    cases h
    exact ⟨⟨rfl, trivial⟩, rfl⟩
  · rw [ite_f hb1] at h
    try simp only [hb1, Nat.reduceBEq, Nat.reduceMul, Nat.reduceAdd, Nat.reduceDiv, Int.reduceBEq, rules2, rowsX]
    refine w_laws_eqIntS_1 _ _ _ _ _ h _ ?_
    try simp only [hb1, Nat.reduceBEq, Nat.reduceMul, Nat.reduceAdd, Nat.reduceDiv, Int.reduceBEq, rules2, rowsX, List.map_nil]
/- 27: laws_eqAccount -/
def c_laws_eqAccount : ACode := (.seq (.reg [(none, .box 2 (S 0)), (none, .box 3 (S 1)), (none, .mv 4 (KB false))]) (.seq (.seq (.reg [(none, .faddr 5 (S 2) 0), (none, .load 6 (S 5) false 1), (none, .faddr 7 (S 3) 0), (none, .load 8 (S 7) false 1), (none, .call 9 20 [(S 6), (S 8)]), (none, .un 10 .not (S 9))]) (.cond (S 10) (.seq (.reg [(none, .mv 4 (KB false))]) .ret) .skip)) (.seq (.seq (.reg [(none, .faddr 11 (S 2) 1), (none, .load 12 (S 11) false 1), (none, .faddr 13 (S 3) 1), (none, .load 14 (S 13) false 1), (none, .call 15 20 [(S 12), (S 14)]), (none, .un 16 .not (S 15))]) (.cond (S 16) (.seq (.reg [(none, .mv 4 (KB false))]) .ret) .skip)) (.seq (.reg [(none, .mv 4 (KB true))]) .ret))))
theorem e_laws_eqAccount : entry Try.prog 27 = some (c_laws_eqAccount.strip, [4], 17) := by kernel_rfl
theorem w_laws_eqAccount (a0 : XAccount) (a1 : XAccount) (r : Bool) (h : f_laws_eqAccount a0 a1 = some r) : FC Try.prog 27 [.ag (XAccount.row a0), .ag (XAccount.row a1)] [.sc (.v (.bool r))] := by
  unfold f_laws_eqAccount at h
  refine FC_go (σ := ⟨[(0, va [aL (List.map rI a0.Waits), aL (List.map rI a0.Calls)]), (1, va [aL (List.map rI a1.Waits), aL (List.map rI a1.Calls)])], [], []⟩) mixed e_laws_eqAccount rfl rfl ?_
  simp only [c_laws_eqAccount]
  try simp only [Nat.reduceBEq, Nat.reduceMul, Nat.reduceAdd, Nat.reduceDiv, Int.reduceBEq, rules2, rowsX]
  refine go_bx rfl rfl rfl ?_
  try simp only [Nat.reduceBEq, Nat.reduceMul, Nat.reduceAdd, Nat.reduceDiv, Int.reduceBEq, rules2, rowsX]
  refine go_bx rfl rfl rfl ?_
  obtain ⟨r1, hr1, h⟩ := ob h
  try simp only [Nat.reduceBEq, Nat.reduceMul, Nat.reduceAdd, Nat.reduceDiv, Int.reduceBEq, rules2, rowsX]
  refine go_callI (w_laws_eqIntS _ _ _ hr1) rfl rfl (Nat.le_of_ble_eq_true rfl) ?_
  rcases Bool.eq_false_or_eq_true r1 with hb2 | hb2
  · rw [ite_t hb2] at h
    obtain ⟨r3, hr3, h⟩ := ob h
    try simp only [hb2, Nat.reduceBEq, Nat.reduceMul, Nat.reduceAdd, Nat.reduceDiv, Int.reduceBEq, rules2, rowsX]
    refine go_callI (w_laws_eqIntS _ _ _ hr3) rfl rfl (Nat.le_of_ble_eq_true rfl) ?_
    rcases Bool.eq_false_or_eq_true r3 with hb4 | hb4
    · rw [ite_t hb4] at h
      try simp only [hb2, hb4, Nat.reduceBEq, Nat.reduceMul, Nat.reduceAdd, Nat.reduceDiv, Int.reduceBEq, rules2, rowsX]
      cases h
      exact ⟨⟨rfl, trivial⟩, rfl⟩
    · rw [ite_f hb4] at h
      try simp only [hb2, hb4, Nat.reduceBEq, Nat.reduceMul, Nat.reduceAdd, Nat.reduceDiv, Int.reduceBEq, rules2, rowsX]
      cases h
      exact ⟨⟨rfl, trivial⟩, rfl⟩
  · rw [ite_f hb2] at h
    try simp only [hb2, Nat.reduceBEq, Nat.reduceMul, Nat.reduceAdd, Nat.reduceDiv, Int.reduceBEq, rules2, rowsX]
    cases h
    exact ⟨⟨rfl, trivial⟩, rfl⟩
/- 12: laws_FnExactSpreadOf -/
def c_laws_FnExactSpreadOf : ACode := (.seq (.reg [(none, .box 1 (S 0)), (none, .mv 2 (KB false))]) (.seq (.reg [(none, .mv 3 (K 1048576))]) (.seq (.reg [(none, .load 7 (S 1) true 2), (none, .mv 8 (S 3)), (none, .call 9 23 [(S 7), (S 8)]), (none, .mv 3 (S 9))]) (.seq (.seq (.reg [(none, .mv 10 (S 3)), (none, .bin 11 .lss (S 10) (K 0))]) (.cond (S 11) (.seq (.reg [(none, .mv 2 (KB true))]) .ret) .skip)) (.seq (.reg [(none, .load 12 (S 1) true 2), (none, .call 13 25 [(S 12)]), (none, .call 14 47 [(S 13)]), (none, .mv 4 (S 14))]) (.seq (.reg [(none, .load 15 (S 1) true 2), (none, .call 16 25 [(S 15)]), (none, .alloc 5 [.nil, .nil]), (none, .store (S 5) (S 16) 2)]) (.seq (.reg [(none, .load 17 (S 5) true 2), (none, .call 18 48 [(S 17)]), (none, .mv 6 (S 18))]) (.seq (.seq (.reg [(none, .mv 19 (S 6)), (none, .mv 20 (S 4)), (none, .bin 21 .neq (S 19) (S 20))]) (.cond (S 21) (.seq (.reg [(none, .mv 2 (KB false))]) .ret) .skip)) (.seq (.seq (.drw [(some [24], (none, .load 22 (S 5) true 2)), (some [], (none, .load 23 (S 1) true 2)), (some [], (none, .call 24 25 [(S 23)])), (some [], (none, .call 25 27 [(S 22), (S 24)])), (some [], (none, .un 26 .not (S 25)))]) (.cond (S 26) (.seq (.reg [(none, .mv 2 (KB false))]) .ret) .skip)) (.seq (.reg [(none, .mv 2 (KB true))]) .ret))))))))))
theorem e_laws_FnExactSpreadOf : entry Try.prog 12 = some (c_laws_FnExactSpreadOf.strip, [2], 27) := by kernel_rfl
theorem w_laws_FnExactSpreadOf (a0 : XAccount) (r : Bool) (h : f_laws_FnExactSpreadOf a0 = some r) : FC Try.prog 12 [.ag (XAccount.row a0)] [.sc (.v (.bool r))] := by
  unfold f_laws_FnExactSpreadOf at h
  refine FC_go (σ := ⟨[(0, va [aL (List.map rI a0.Waits), aL (List.map rI a0.Calls)])], [], []⟩) mixed e_laws_FnExactSpreadOf rfl rfl ?_
  simp only [c_laws_FnExactSpreadOf]
  try simp only [Nat.reduceBEq, Nat.reduceMul, Nat.reduceAdd, Nat.reduceDiv, Int.reduceBEq, rules2, rowsX]
  refine go_bx rfl rfl rfl ?_
  obtain ⟨r1, hr1, h⟩ := ob h
  try simp only [Nat.reduceBEq, Nat.reduceMul, Nat.reduceAdd, Nat.reduceDiv, Int.reduceBEq, rules2, rowsX]
  refine go_callI (w_laws_szAccount _ _ _ hr1) rfl rfl (Nat.le_of_ble_eq_true rfl) ?_
  rcases Bool.eq_false_or_eq_true (decide (r1 < (0 : Int))) with hb2 | hb2
  · rw [ite_t hb2] at h
    try simp only [hb2, Nat.reduceBEq, Nat.reduceMul, Nat.reduceAdd, Nat.reduceDiv, Int.reduceBEq, rules2, rowsX]
    cases h
    exact ⟨⟨rfl, trivial⟩, rfl⟩
  · rw [ite_f hb2] at h
    obtain ⟨r3, hr3, h⟩ := ob h
    try simp only [hb2, Nat.reduceBEq, Nat.reduceMul, Nat.reduceAdd, Nat.reduceDiv, Int.reduceBEq, rules2, rowsX]
    refine go_callI (w_laws_toAccount _ _ hr3) rfl rfl (Nat.le_of_ble_eq_true rfl) ?_
    obtain ⟨r4, hr4, h⟩ := ob h
    try simp only [hb2, Nat.reduceBEq, Nat.reduceMul, Nat.reduceAdd, Nat.reduceDiv, Int.reduceBEq, rules2, rowsX]
    refine go_call (w_spec_SpreadOf _ _ hr4) rfl (flat_of rfl) rfl (Nat.le_of_ble_eq_true rfl) ?_
    obtain ⟨r5, hr5, h⟩ := ob h
    try simp only [hb2, Nat.reduceBEq, Nat.reduceMul, Nat.reduceAdd, Nat.reduceDiv, Int.reduceBEq, rules2, rowsX]
    refine go_callI (w_laws_toAccount _ _ hr5) rfl rfl (Nat.le_of_ble_eq_true rfl) ?_
    try simp only [hb2, Nat.reduceBEq, Nat.reduceMul, Nat.reduceAdd, Nat.reduceDiv, Int.reduceBEq, rules2, rowsX]
    refine go_al rfl rfl ?_
    obtain ⟨r6, hr6, h⟩ := ob h
    try simp only [hb2, Nat.reduceBEq, Nat.reduceMul, Nat.reduceAdd, Nat.reduceDiv, Int.reduceBEq, rules2, rowsX]
    refine go_call (w_impl_SpreadOf _ _ hr6) rfl (flat_of rfl) rfl (Nat.le_of_ble_eq_true rfl) ?_
    rcases Bool.eq_false_or_eq_true (r6 != r4) with hb7 | hb7
    · rw [ite_t hb7] at h
      try simp only [hb2, hb7, Nat.reduceBEq, Nat.reduceMul, Nat.reduceAdd, Nat.reduceDiv, Int.reduceBEq, rules2, rowsX]
      cases h
      exact ⟨⟨rfl, trivial⟩, rfl⟩
    · rw [ite_f hb7] at h
      try simp only [hb2, hb7, Nat.reduceBEq, Nat.reduceMul, Nat.reduceAdd, Nat.reduceDiv, Int.reduceBEq, rules2, rowsX]
      refine go_fr_of rfl ?_
      obtain ⟨r8, hr8, h⟩ := ob h
      try simp only [hb2, hb7, Nat.reduceBEq, Nat.reduceMul, Nat.reduceAdd, Nat.reduceDiv, Int.reduceBEq, rules2, rowsX]
      refine go_callI (w_laws_toAccount _ _ hr8) rfl rfl (Nat.le_of_ble_eq_true rfl) ?_
      obtain ⟨r9, hr9, h⟩ := ob h
      try simp only [hb2, hb7, Nat.reduceBEq, Nat.reduceMul, Nat.reduceAdd, Nat.reduceDiv, Int.reduceBEq, rules2, rowsX]
      refine go_call (w_laws_eqAccount _ _ _ hr9) rfl (flat_of rfl) rfl (Nat.le_of_ble_eq_true rfl) ?_
      rcases Bool.eq_false_or_eq_true r9 with hb10 | hb10
      · rw [ite_t hb10] at h
        try simp only [hb2, hb7, hb10, Nat.reduceBEq, Nat.reduceMul, Nat.reduceAdd, Nat.reduceDiv, Int.reduceBEq, rules2, rowsX]
        cases h
        exact ⟨⟨rfl, trivial⟩, rfl⟩
      · rw [ite_f hb10] at h
        try simp only [hb2, hb7, hb10, Nat.reduceBEq, Nat.reduceMul, Nat.reduceAdd, Nat.reduceDiv, Int.reduceBEq, rules2, rowsX]
        cases h
        exact ⟨⟨rfl, trivial⟩, rfl⟩
end Go.Vi
