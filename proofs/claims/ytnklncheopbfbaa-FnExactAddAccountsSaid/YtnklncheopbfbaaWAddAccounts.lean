/-
  Walks: what the plain definitions compute is what the functions return. By program. No condition.
-/
import Derived.Test.YtnklncheopbfbaaNf
import Derived.Test.YtnklncheopbfbaaChecked
import Derived.KernelRfl
namespace Go.Vi
open Go.Proofs
set_option linter.unusedSimpArgs false
set_option linter.unusedVariables false
set_option maxRecDepth 4000
set_option maxHeartbeats 2000000
attribute [local irreducible] go AWP
theorem mixed : Try.prog.follows .mixedOrders = true := by kernel_rfl
/- 61: laws_szIntS -/
def c_laws_szIntS : ACode := (.seq (.reg [(none, .mv 4 (K 0))]) (.seq (.reg [(none, .mv 5 (S 1)), (none, .mv 6 (S 0)), (none, .len 7 (S 6)), (none, .bin 8 .sub (S 5) (S 7)), (none, .mv 1 (S 8))]) (.seq (.seq (.reg [(none, .mv 9 (S 1)), (none, .bin 10 .lss (S 9) (K 0))]) (.cond (S 10) (.seq (.reg [(none, .mv 4 (K (-1)))]) .ret) .skip)) (.seq (.reg [(none, .mv 11 (S 1)), (none, .mv 4 (S 11))]) .ret))))
theorem e_laws_szIntS : entry Try.prog 61 = some (c_laws_szIntS.strip, [4], 12) := by kernel_rfl
theorem w_laws_szIntS (a0 : List Int) (a1 : Int) (r : Int) (h : f_laws_szIntS a0 a1 = some r) : FC Try.prog 61 [.sc (.sl (List.map rI a0)), .sc (.int .i64 a1)] [.sc (.v (.int .i64 r))] := by
  unfold f_laws_szIntS at h
  refine FC_go (σ := ⟨[(0, vc (aL (List.map rI a0))), (1, vc (aI a1))], [], []⟩) mixed e_laws_szIntS rfl rfl ?_
  simp only [c_laws_szIntS]
  rcases Bool.eq_false_or_eq_true (decide ((IntKind.i64.wrap (a1 - (a0.length : Int))) < (0 : Int))) with hb1 | hb1
  · rw [ite_t hb1] at h
    try simp only [hb1, Nat.reduceBEq, Nat.reduceMul, Nat.reduceAdd, Nat.reduceDiv, Int.reduceBEq, rules2, rulesX, rowsX]
    cases h
    exact ⟨⟨rfl, trivial⟩, rfl⟩
  · rw [ite_f hb1] at h
    try simp only [hb1, Nat.reduceBEq, Nat.reduceMul, Nat.reduceAdd, Nat.reduceDiv, Int.reduceBEq, rules2, rulesX, rowsX]
    cases h
    exact ⟨⟨rfl, trivial⟩, rfl⟩
/- 23: laws_szAccount -/
def c_laws_szAccount : ACode := (.seq (.reg [(none, .box 2 (S 0)), (none, .mv 4 (K 0))]) (.seq (.reg [(none, .faddr 5 (S 2) 0), (none, .load 6 (S 5) false 1), (none, .mv 7 (S 1)), (none, .call 8 61 [(S 6), (S 7)]), (none, .mv 1 (S 8))]) (.seq (.seq (.reg [(none, .mv 9 (S 1)), (none, .bin 10 .lss (S 9) (K 0))]) (.cond (S 10) (.seq (.reg [(none, .mv 4 (K (-1)))]) .ret) .skip)) (.seq (.reg [(none, .faddr 11 (S 2) 1), (none, .load 12 (S 11) false 1), (none, .mv 13 (S 1)), (none, .call 14 61 [(S 12), (S 13)]), (none, .mv 1 (S 14))]) (.seq (.seq (.reg [(none, .mv 15 (S 1)), (none, .bin 16 .lss (S 15) (K 0))]) (.cond (S 16) (.seq (.reg [(none, .mv 4 (K (-1)))]) .ret) .skip)) (.seq (.reg [(none, .mv 17 (S 1)), (none, .mv 4 (S 17))]) .ret))))))
theorem e_laws_szAccount : entry Try.prog 23 = some (c_laws_szAccount.strip, [4], 18) := by kernel_rfl
theorem w_laws_szAccount (a0 : XAccount) (a1 : Int) (r : Int) (h : f_laws_szAccount a0 a1 = some r) : FC Try.prog 23 [.ag (XAccount.row a0), .sc (.int .i64 a1)] [.sc (.v (.int .i64 r))] := by
  unfold f_laws_szAccount at h
  refine FC_go (σ := ⟨[(0, va [aL (List.map rI a0.Waits), aL (List.map rI a0.Calls)]), (1, vc (aI a1))], [], []⟩) mixed e_laws_szAccount rfl rfl ?_
  simp only [c_laws_szAccount]
  try simp only [Nat.reduceBEq, Nat.reduceMul, Nat.reduceAdd, Nat.reduceDiv, Int.reduceBEq, rules2, rulesX, rowsX]
  refine go_bx rfl rfl rfl ?_
  obtain ⟨r1, hr1, h⟩ := ob h
  try simp only [Nat.reduceBEq, Nat.reduceMul, Nat.reduceAdd, Nat.reduceDiv, Int.reduceBEq, rules2, rulesX, rowsX]
  refine go_callI (w_laws_szIntS _ _ _ hr1) rfl rfl (Nat.le_of_ble_eq_true rfl) ?_
  rcases Bool.eq_false_or_eq_true (decide (r1 < (0 : Int))) with hb2 | hb2
  · rw [ite_t hb2] at h
    try simp only [hb2, Nat.reduceBEq, Nat.reduceMul, Nat.reduceAdd, Nat.reduceDiv, Int.reduceBEq, rules2, rulesX, rowsX]
    cases h
    exact ⟨⟨rfl, trivial⟩, rfl⟩
  · rw [ite_f hb2] at h
    obtain ⟨r3, hr3, h⟩ := ob h
    try simp only [hb2, Nat.reduceBEq, Nat.reduceMul, Nat.reduceAdd, Nat.reduceDiv, Int.reduceBEq, rules2, rulesX, rowsX]
    refine go_callI (w_laws_szIntS _ _ _ hr3) rfl rfl (Nat.le_of_ble_eq_true rfl) ?_
    rcases Bool.eq_false_or_eq_true (decide (r3 < (0 : Int))) with hb4 | hb4
    · rw [ite_t hb4] at h
      try simp only [hb2, hb4, Nat.reduceBEq, Nat.reduceMul, Nat.reduceAdd, Nat.reduceDiv, Int.reduceBEq, rules2, rulesX, rowsX]
      cases h
      exact ⟨⟨rfl, trivial⟩, rfl⟩
    · rw [ite_f hb4] at h
      try simp only [hb2, hb4, Nat.reduceBEq, Nat.reduceMul, Nat.reduceAdd, Nat.reduceDiv, Int.reduceBEq, rules2, rulesX, rowsX]
      cases h
      exact ⟨⟨rfl, trivial⟩, rfl⟩
/- 18: laws_toIntS -/
def c_laws_toIntS_1 : ACode := .seq (.reg [(none, .keep [0, 3, 4] [] [448])]) (.seq (.seq (.reg [(none, .mv 8 (S 4)), (none, .mv 9 (S 0)), (none, .len 10 (S 9)), (none, .bin 11 .lss (S 8) (S 10))]) (.cond (S 11) .skip (.exit 0))) (.seq (.block 1 (.reg [(none, .mv 14 (S 3)), (none, .mv 15 (S 4)), (none, .mv 16 (S 0)), (none, .mv 17 (S 4)), (none, .iaddr 18 (S 16) (S 17) 1), (none, .load 19 (S 18) false 1), (none, .iaddr 20 (S 14) (S 15) 1), (none, .store (S 20) (S 19) 1)])) (.reg [(none, .mv 12 (S 4)), (none, .bin 13 .add (S 12) (K 1)), (none, .mv 4 (S 13))])))
def c_laws_toIntS_n1 : ACode := (.seq (.reg [(none, .mv 21 (S 3)), (none, .mv 2 (S 21))]) .ret)
def c_laws_toIntS : ACode := (.seq (.reg [(none, .mv 2 KN)]) (.seq (.reg [(none, .mv 5 (S 0)), (none, .len 6 (S 5)), (none, .mksl 7 1 8 [.int .i64 0] (S 6) (S 6)), (none, .mv 3 (S 7))]) (.seq (.seq (.reg [(none, .mv 4 (K 0))]) (.block 0 (.loop c_laws_toIntS_1))) c_laws_toIntS_n1)))
theorem w_laws_toIntS_1 (a0 : List Int) : ∀ (n : Nat) (v2 : Int) (v3 : List Int) (r : (List Int)), f_laws_toIntS_1 a0 n v2 v3 = some r → ∀ σ : St, σ.kept [0, 3, 4] [] [448] = ⟨[(0, vc (aL (List.map rI a0))), (3, vc (.own 448)), (4, vc (aI v2))], [], [(448, 1, List.map rI v3)]⟩ → go Try.prog (.code (.loop c_laws_toIntS_1) :: [.blk 0, .code c_laws_toIntS_n1]) (Ret [2] [.sc (.o 1 (List.map rI r))]) .normal (some σ) := by
  intro n
  induction n with
  | zero => intro _ _ r h; cases h
  | succ n ih =>
    intro v2 v3 r h σ hσ
    rw [f_laws_toIntS_1] at h
    refine go_round ?_
    rcases Bool.eq_false_or_eq_true (decide (v2 < (a0.length : Int))) with hb4 | hb4
    · rw [ite_t hb4] at h
      obtain ⟨x5, hx5, h⟩ := ob h
      obtain ⟨x6, hx6, h⟩ := ob h
      have hx6n := ix_get hx6
      try simp only [hσ, hb4, hx5, hx6, c_laws_toIntS_1, Nat.reduceBEq, Nat.reduceMul, Nat.reduceAdd, Nat.reduceDiv, Int.reduceBEq, rules2, rulesX, rowsX]
      refine go_stp (y := x5) rfl rfl hx6n rfl rfl rfl ?_
      try simp only [hb4, hx5, hx6, Nat.reduceBEq, Nat.reduceMul, Nat.reduceAdd, Nat.reduceDiv, Int.reduceBEq, rules2, rulesX, rowsX]
      refine ih _ _ _ h _ ?_
      try simp only [hb4, hx5, hx6, Nat.reduceBEq, Nat.reduceMul, Nat.reduceAdd, Nat.reduceDiv, Int.reduceBEq, rules2, rulesX, rowsX, List.map_nil]
    · rw [ite_f hb4] at h
      try simp only [hσ, hb4, c_laws_toIntS_1, c_laws_toIntS_n1, Nat.reduceBEq, Nat.reduceMul, Nat.reduceAdd, Nat.reduceDiv, Int.reduceBEq, rules2, rulesX, rowsX]
      cases h
      exact ⟨⟨rfl, trivial⟩, rfl⟩
theorem e_laws_toIntS : entry Try.prog 18 = some (c_laws_toIntS.strip, [2], 22) := by kernel_rfl
theorem w_laws_toIntS (a0 : List Int) (r : (List Int)) (h : f_laws_toIntS a0 = some r) : FC Try.prog 18 [.sc (.sl (List.map rI a0))] [.sc (.o 1 (List.map rI r))] := by
  unfold f_laws_toIntS at h
  refine FC_go (σ := ⟨[(0, vc (aL (List.map rI a0)))], [], []⟩) mixed e_laws_toIntS rfl rfl ?_
  simp only [c_laws_toIntS]
  obtain ⟨n1, hn1, h⟩ := ob h
  try simp only [Nat.reduceBEq, Nat.reduceMul, Nat.reduceAdd, Nat.reduceDiv, Int.reduceBEq, rules2, rulesX, rowsX]
  refine go_mks (es := List.map rI (List.replicate n1 (0 : Int))) rfl rfl hn1 rfl (rep_map rfl) rfl ?_
  try simp only [Nat.reduceBEq, Nat.reduceMul, Nat.reduceAdd, Nat.reduceDiv, Int.reduceBEq, rules2, rulesX, rowsX]
  refine w_laws_toIntS_1 _ _ _ _ _ h _ ?_
  try simp only [Nat.reduceBEq, Nat.reduceMul, Nat.reduceAdd, Nat.reduceDiv, Int.reduceBEq, rules2, rulesX, rowsX, List.map_nil]
/- 25: laws_toAccount -/
def c_laws_toAccount : ACode := (.seq (.reg [(none, .box 1 (S 0)), (none, .alloc 2 [.nil, .nil])]) (.seq (.reg [(none, .alloc 3 [.nil, .nil])]) (.seq (.reg [(none, .faddr 4 (S 1) 0), (none, .load 5 (S 4) false 1), (none, .call 6 18 [(S 5)]), (none, .faddr 7 (S 3) 0), (none, .store (S 7) (S 6) 1)]) (.seq (.reg [(none, .faddr 8 (S 1) 1), (none, .load 9 (S 8) false 1), (none, .call 10 18 [(S 9)]), (none, .faddr 11 (S 3) 1), (none, .store (S 11) (S 10) 1)]) (.seq (.reg [(none, .load 12 (S 3) true 2), (none, .store (S 2) (S 12) 2)]) .ret)))))
theorem e_laws_toAccount : entry Try.prog 25 = some (c_laws_toAccount.strip, [.c 2 true 2], 13) := by kernel_rfl
theorem w_laws_toAccount (a0 : XAccount) (r : XAccount) (h : f_laws_toAccount a0 = some r) : FC Try.prog 25 [.ag (XAccount.row a0)] [.ag [.o 1 (List.map rI r.Waits), .o 1 (List.map rI r.Calls)]] := by
  unfold f_laws_toAccount at h
  refine FC_go (σ := ⟨[(0, va [aL (List.map rI a0.Waits), aL (List.map rI a0.Calls)])], [], []⟩) mixed e_laws_toAccount rfl rfl ?_
  simp only [c_laws_toAccount]
  try simp only [Nat.reduceBEq, Nat.reduceMul, Nat.reduceAdd, Nat.reduceDiv, Int.reduceBEq, rules2, rulesX, rowsX]
  refine go_bx rfl rfl rfl ?_
  try simp only [Nat.reduceBEq, Nat.reduceMul, Nat.reduceAdd, Nat.reduceDiv, Int.reduceBEq, rules2, rulesX, rowsX]
  refine go_al rfl rfl ?_
  try simp only [Nat.reduceBEq, Nat.reduceMul, Nat.reduceAdd, Nat.reduceDiv, Int.reduceBEq, rules2, rulesX, rowsX]
  refine go_al rfl rfl ?_
  obtain ⟨r1, hr1, h⟩ := ob h
  try simp only [Nat.reduceBEq, Nat.reduceMul, Nat.reduceAdd, Nat.reduceDiv, Int.reduceBEq, rules2, rulesX, rowsX]
  refine go_callI (w_laws_toIntS _ _ hr1) rfl rfl (Nat.le_of_ble_eq_true rfl) ?_
  obtain ⟨r2, hr2, h⟩ := ob h
  try simp only [Nat.reduceBEq, Nat.reduceMul, Nat.reduceAdd, Nat.reduceDiv, Int.reduceBEq, rules2, rulesX, rowsX]
  refine go_callI (w_laws_toIntS _ _ hr2) rfl rfl (Nat.le_of_ble_eq_true rfl) ?_
  try simp only [Nat.reduceBEq, Nat.reduceMul, Nat.reduceAdd, Nat.reduceDiv, Int.reduceBEq, rules2, rulesX, rowsX]
  cases h
  try simp only [rulesR, Nat.reduceBEq, Nat.reduceMul, Nat.reduceAdd, Nat.reduceDiv, Int.reduceBEq, rules2, rulesX, rowsX]
  exact ⟨⟨⟨rfl, rfl, trivial⟩, trivial⟩, rfl⟩
/- 58: spec_l01In -/
def c_spec_l01In : ACode := (.seq (.reg [(none, .mv 6 (KB false))]) (.seq (.reg [(none, .mv 7 (S 0)), (none, .mv 8 (S 1)), (none, .bin 9 .geq (S 7) (S 8)), (none, .mv 10 (S 9)), (some (10, true), .mv 11 (S 0)), (some (10, true), .mv 12 (S 2)), (some (10, true), .bin 13 .leq (S 11) (S 12)), (none, .pick 14 (S 10) (S 13) (KB false)), (none, .mv 6 (S 14))]) .ret))
theorem e_spec_l01In : entry Try.prog 58 = some (c_spec_l01In.strip, [6], 15) := by kernel_rfl
theorem w_spec_l01In (a0 : Int) (a1 : Int) (a2 : Int) (r : Bool) (h : f_spec_l01In a0 a1 a2 = some r) : FC Try.prog 58 [.sc (.int .i64 a0), .sc (.int .i64 a1), .sc (.int .i64 a2)] [.sc (.v (.bool r))] := by
  unfold f_spec_l01In at h
  refine FC_go (σ := ⟨[(0, vc (aI a0)), (1, vc (aI a1)), (2, vc (aI a2))], [], []⟩) mixed e_spec_l01In rfl rfl ?_
  simp only [c_spec_l01In]
  rcases Bool.eq_false_or_eq_true (decide (a1 ≤ a0)) with hb1 | hb1
  · rw [ite_t hb1] at h
    try simp only [hb1, Nat.reduceBEq, Nat.reduceMul, Nat.reduceAdd, Nat.reduceDiv, Int.reduceBEq, rules2, rulesX, rowsX]
    cases h
    exact ⟨⟨rfl, trivial⟩, rfl⟩
  · rw [ite_f hb1] at h
    try simp only [hb1, Nat.reduceBEq, Nat.reduceMul, Nat.reduceAdd, Nat.reduceDiv, Int.reduceBEq, rules2, rulesX, rowsX]
    cases h
    exact ⟨⟨rfl, trivial⟩, rfl⟩
/- 24: spec_AccountOk -/
def c_spec_AccountOk_1 : ACode := .seq (.reg [(none, .keep [1, 16, 17] [1] [])]) (.seq (.reg [(none, .bin 18 .lss (S 17) (S 16))]) (.seq (.cond (S 18) .skip (.exit 0)) (.seq (.block 1 (.seq (.reg [(none, .mv 19 (S 17)), (none, .mv 3 (S 19))]) (.seq (.reg [(none, .faddr 20 (S 1) 0), (none, .load 21 (S 20) false 1), (none, .mv 22 (S 3)), (none, .iaddr 23 (S 21) (S 22) 1), (none, .load 24 (S 23) false 1), (none, .call 25 58 [(S 24), (K 0), (K 1000000)]), (none, .un 26 .not (S 25)), (none, .mv 27 (S 26)), (some (27, false), .faddr 28 (S 1) 1), (some (27, false), .load 29 (S 28) false 1), (some (27, false), .mv 30 (S 3)), (some (27, false), .iaddr 31 (S 29) (S 30) 1), (some (27, false), .load 32 (S 31) false 1), (some (27, false), .call 33 58 [(S 32), (K 0), (K 1000000)]), (some (27, false), .un 34 .not (S 33)), (none, .pick 35 (S 27) (KB true) (S 34))]) (.cond (S 35) (.seq (.reg [(none, .mv 2 (KB false))]) .ret) .skip)))) (.reg [(none, .bin 36 .add (S 17) (K 1)), (none, .mv 17 (S 36))]))))
def c_spec_AccountOk_n1 : ACode := (.seq (.reg [(none, .mv 2 (KB true))]) .ret)
def c_spec_AccountOk : ACode := (.seq (.reg [(none, .box 1 (S 0)), (none, .mv 2 (KB false))]) (.seq (.seq (.reg [(none, .faddr 4 (S 1) 0), (none, .load 5 (S 4) false 1), (none, .len 6 (S 5)), (none, .bin 7 .neq (S 6) (K 4)), (none, .mv 8 (S 7)), (some (8, false), .faddr 9 (S 1) 1), (some (8, false), .load 10 (S 9) false 1), (some (8, false), .len 11 (S 10)), (some (8, false), .bin 12 .neq (S 11) (K 4)), (none, .pick 13 (S 8) (KB true) (S 12))]) (.cond (S 13) (.seq (.reg [(none, .mv 2 (KB false))]) .ret) .skip)) (.seq (.seq (.reg [(none, .faddr 14 (S 1) 0), (none, .load 15 (S 14) false 1), (none, .len 16 (S 15)), (none, .mv 17 (K 0))]) (.block 0 (.loop c_spec_AccountOk_1))) c_spec_AccountOk_n1)))
theorem w_spec_AccountOk_1 (a0 : XAccount) : ∀ (n : Nat) (v3 : Int) (r : Bool), f_spec_AccountOk_1 a0 n v3 = some r → ∀ σ : St, σ.kept [1, 16, 17] [1] [] = ⟨[(1, vc (.pb 1 0)), (16, vc (aI (a0.Waits.length : Int))), (17, vc (aI v3))], [(1, [aL (List.map rI a0.Waits), aL (List.map rI a0.Calls)])], []⟩ → go Try.prog (.code (.loop c_spec_AccountOk_1) :: [.blk 0, .code c_spec_AccountOk_n1]) (Ret [2] [.sc (.v (.bool r))]) .normal (some σ) := by
  intro n
  induction n with
  | zero => intro _ r h; cases h
  | succ n ih =>
    intro v3 r h σ hσ
    rw [f_spec_AccountOk_1] at h
    refine go_round ?_
    rcases Bool.eq_false_or_eq_true (decide (v3 < (a0.Waits.length : Int))) with hb4 | hb4
    · rw [ite_t hb4] at h
      obtain ⟨x5, hx5, h⟩ := ob h
      obtain ⟨r6, hr6, h⟩ := ob h
      try simp only [hσ, hb4, hx5, c_spec_AccountOk_1, Nat.reduceBEq, Nat.reduceMul, Nat.reduceAdd, Nat.reduceDiv, Int.reduceBEq, rules2, rulesX, rowsX]
      refine go_callI (w_spec_l01In _ _ _ _ hr6) rfl rfl (Nat.le_of_ble_eq_true rfl) ?_
      rcases Bool.eq_false_or_eq_true r6 with hb7 | hb7
      · rw [ite_t hb7] at h
        obtain ⟨x8, hx8, h⟩ := ob h
        obtain ⟨r9, hr9, h⟩ := ob h
        try simp only [hb4, hx5, hb7, hx8, Nat.reduceBEq, Nat.reduceMul, Nat.reduceAdd, Nat.reduceDiv, Int.reduceBEq, rules2, rulesX, rowsX]
        refine go_callI (w_spec_l01In _ _ _ _ hr9) rfl rfl (Nat.le_of_ble_eq_true rfl) ?_
        rcases Bool.eq_false_or_eq_true r9 with hb10 | hb10
        · rw [ite_t hb10] at h
          try simp only [hb4, hx5, hb7, hx8, hb10, Nat.reduceBEq, Nat.reduceMul, Nat.reduceAdd, Nat.reduceDiv, Int.reduceBEq, rules2, rulesX, rowsX]
          refine ih _ _ h _ ?_
          try simp only [hb4, hx5, hb7, hx8, hb10, Nat.reduceBEq, Nat.reduceMul, Nat.reduceAdd, Nat.reduceDiv, Int.reduceBEq, rules2, rulesX, rowsX, List.map_nil]
        · rw [ite_f hb10] at h
          try simp only [hb4, hx5, hb7, hx8, hb10, Nat.reduceBEq, Nat.reduceMul, Nat.reduceAdd, Nat.reduceDiv, Int.reduceBEq, rules2, rulesX, rowsX]
          cases h
          exact ⟨⟨rfl, trivial⟩, rfl⟩
      · rw [ite_f hb7] at h
        try simp only [hb4, hx5, hb7, Nat.reduceBEq, Nat.reduceMul, Nat.reduceAdd, Nat.reduceDiv, Int.reduceBEq, rules2, rulesX, rowsX]
        cases h
        exact ⟨⟨rfl, trivial⟩, rfl⟩
    · rw [ite_f hb4] at h
      try simp only [hσ, hb4, c_spec_AccountOk_1, c_spec_AccountOk_n1, Nat.reduceBEq, Nat.reduceMul, Nat.reduceAdd, Nat.reduceDiv, Int.reduceBEq, rules2, rulesX, rowsX]
      cases h
      exact ⟨⟨rfl, trivial⟩, rfl⟩
theorem e_spec_AccountOk : entry Try.prog 24 = some (c_spec_AccountOk.strip, [2], 37) := by kernel_rfl
theorem w_spec_AccountOk (a0 : XAccount) (r : Bool) (h : f_spec_AccountOk a0 = some r) : FC Try.prog 24 [.ag (XAccount.row a0)] [.sc (.v (.bool r))] := by
  unfold f_spec_AccountOk at h
  refine FC_go (σ := ⟨[(0, va [aL (List.map rI a0.Waits), aL (List.map rI a0.Calls)])], [], []⟩) mixed e_spec_AccountOk rfl rfl ?_
  simp only [c_spec_AccountOk]
  try simp only [Nat.reduceBEq, Nat.reduceMul, Nat.reduceAdd, Nat.reduceDiv, Int.reduceBEq, rules2, rulesX, rowsX]
  refine go_bx rfl rfl rfl ?_
  rcases Bool.eq_false_or_eq_true ((a0.Waits.length : Int) != (4 : Int)) with hb1 | hb1
  · rw [ite_t hb1] at h
    try simp only [hb1, Nat.reduceBEq, Nat.reduceMul, Nat.reduceAdd, Nat.reduceDiv, Int.reduceBEq, rules2, rulesX, rowsX]
    cases h
    exact ⟨⟨rfl, trivial⟩, rfl⟩
  · rw [ite_f hb1] at h
    rcases Bool.eq_false_or_eq_true ((a0.Calls.length : Int) != (4 : Int)) with hb2 | hb2
    · rw [ite_t hb2] at h
      try simp only [hb1, hb2, Nat.reduceBEq, Nat.reduceMul, Nat.reduceAdd, Nat.reduceDiv, Int.reduceBEq, rules2, rulesX, rowsX]
      cases h
      exact ⟨⟨rfl, trivial⟩, rfl⟩
    · rw [ite_f hb2] at h
      try simp only [hb1, hb2, Nat.reduceBEq, Nat.reduceMul, Nat.reduceAdd, Nat.reduceDiv, Int.reduceBEq, rules2, rulesX, rowsX]
      refine w_spec_AccountOk_1 _ _ _ _ h _ ?_
      try simp only [hb1, hb2, Nat.reduceBEq, Nat.reduceMul, Nat.reduceAdd, Nat.reduceDiv, Int.reduceBEq, rules2, rulesX, rowsX, List.map_nil]
/- 49: spec_AddAccounts -/
def c_spec_AddAccounts_1 : ACode := .seq (.reg [(none, .keep [2, 3, 4, 15] [2, 3, 4] [])]) (.cond (S 15) (.seq (.reg [(none, .build 16 [.nil, .nil] []), (none, .store (S 4) (S 16) 2), (none, .mv 5 (KB false))]) .ret) .skip)
def c_spec_AddAccounts_2 : ACode := .seq (.reg [(none, .keep [2, 3, 4, 6, 20, 21] [2, 3, 4, 6] [134144, 134208])]) (.seq (.reg [(none, .bin 22 .lss (S 21) (S 20))]) (.seq (.cond (S 22) .skip (.exit 0)) (.seq (.block 1 (.seq (.reg [(none, .mv 23 (S 21)), (none, .mv 7 (S 23))]) (.seq (.drw [(some [37], (none, .faddr 24 (S 6) 0)), (some [37], (none, .load 25 (S 24) false 1)), (some [], (none, .faddr 26 (S 2) 0)), (some [], (none, .load 27 (S 26) false 1)), (some [], (none, .mv 28 (S 7))), (some [], (none, .iaddr 29 (S 27) (S 28) 1)), (some [], (none, .load 30 (S 29) false 1)), (some [], (none, .faddr 31 (S 3) 0)), (some [], (none, .load 32 (S 31) false 1)), (some [], (none, .mv 33 (S 7))), (some [], (none, .iaddr 34 (S 32) (S 33) 1)), (some [], (none, .load 35 (S 34) false 1)), (some [], (none, .bin 36 .add (S 30) (S 35))), (some [], (none, .bslice 37 1 [.int .i64 0] 1 [(0, (S 36))])), (none, (none, .app 38 1 8 (S 25) (S 37))), (some [], (none, .faddr 39 (S 6) 0)), (none, (none, .store (S 39) (S 38) 1))]) (.drw [(some [53], (none, .faddr 40 (S 6) 1)), (some [53], (none, .load 41 (S 40) false 1)), (some [], (none, .faddr 42 (S 2) 1)), (some [], (none, .load 43 (S 42) false 1)), (some [], (none, .mv 44 (S 7))), (some [], (none, .iaddr 45 (S 43) (S 44) 1)), (some [], (none, .load 46 (S 45) false 1)), (some [], (none, .faddr 47 (S 3) 1)), (some [], (none, .load 48 (S 47) false 1)), (some [], (none, .mv 49 (S 7))), (some [], (none, .iaddr 50 (S 48) (S 49) 1)), (some [], (none, .load 51 (S 50) false 1)), (some [], (none, .bin 52 .add (S 46) (S 51))), (some [], (none, .bslice 53 1 [.int .i64 0] 1 [(0, (S 52))])), (none, (none, .app 54 1 8 (S 41) (S 53))), (some [], (none, .faddr 55 (S 6) 1)), (none, (none, .store (S 55) (S 54) 1))])))) (.reg [(none, .bin 56 .add (S 21) (K 1)), (none, .mv 21 (S 56))]))))
def c_spec_AddAccounts_n2 : ACode := (.seq (.seq (.reg [(none, .load 57 (S 6) true 2), (none, .call 58 24 [(S 57)]), (none, .un 59 .not (S 58))]) (.cond (S 59) (.seq (.reg [(none, .build 60 [.nil, .nil] []), (none, .store (S 4) (S 60) 2), (none, .mv 5 (KB false))]) .ret) .skip)) (.seq (.reg [(none, .load 61 (S 6) true 2), (none, .store (S 4) (S 61) 2), (none, .mv 5 (KB true))]) .ret))
def c_spec_AddAccounts_n1 : ACode := (.seq (.reg [(none, .build 17 [.nil, .nil] []), (none, .alloc 6 [.nil, .nil]), (none, .store (S 6) (S 17) 2), (none, .ownb 6 0 134144 1), (none, .ownb 6 1 134208 1)]) (.seq (.seq (.reg [(none, .faddr 18 (S 2) 0), (none, .load 19 (S 18) false 1), (none, .len 20 (S 19)), (none, .mv 21 (K 0))]) (.block 0 (.loop c_spec_AddAccounts_2))) c_spec_AddAccounts_n2))
def c_spec_AddAccounts : ACode := (.seq (.reg [(none, .box 2 (S 0)), (none, .box 3 (S 1)), (none, .alloc 4 [.nil, .nil]), (none, .mv 5 (KB false))]) (.seq (.seq (.reg [(none, .load 8 (S 2) true 2), (none, .call 9 24 [(S 8)]), (none, .un 10 .not (S 9)), (none, .mv 11 (S 10)), (some (11, false), .load 12 (S 3) true 2), (some (11, false), .call 13 24 [(S 12)]), (some (11, false), .un 14 .not (S 13)), (none, .pick 15 (S 11) (KB true) (S 14))]) c_spec_AddAccounts_1) c_spec_AddAccounts_n1))
theorem w_spec_AddAccounts_2 (a0 : XAccount) (a1 : XAccount) : ∀ (n : Nat) (v6 : Int) (v7 : List Int) (v8 : List Int) (r : XAccount × Bool), f_spec_AddAccounts_2 a0 a1 n v6 v7 v8 = some r → ∀ σ : St, σ.kept [2, 3, 4, 6, 20, 21] [2, 3, 4, 6] [134144, 134208] = ⟨[(2, vc (.pb 2 0)), (3, vc (.pb 3 0)), (4, vc (.pb 4 0)), (6, vc (.pb 6 0)), (20, vc (aI (a0.Waits.length : Int))), (21, vc (aI v6))], [(2, [aL (List.map rI a0.Waits), aL (List.map rI a0.Calls)]), (3, [aL (List.map rI a1.Waits), aL (List.map rI a1.Calls)]), (4, [.nil, .nil]), (6, [.own 134144, .own 134208])], [(134144, 1, List.map rI v7), (134208, 1, List.map rI v8)]⟩ → go Try.prog (.code (.loop c_spec_AddAccounts_2) :: [.blk 0, .code c_spec_AddAccounts_n2]) (Ret [.c 4 true 2, 5] [.ag [.o 1 (List.map rI r.1.Waits), .o 1 (List.map rI r.1.Calls)], .sc (.v (.bool r.2))]) .normal (some σ) := by
  intro n
  induction n with
  | zero => intro _ _ _ r h; cases h
  | succ n ih =>
    intro v6 v7 v8 r h σ hσ
    rw [f_spec_AddAccounts_2] at h
    refine go_round ?_
    rcases Bool.eq_false_or_eq_true (decide (v6 < (a0.Waits.length : Int))) with hb9 | hb9
    · rw [ite_t hb9] at h
      try simp only [hσ, hb9, c_spec_AddAccounts_2, Nat.reduceBEq, Nat.reduceMul, Nat.reduceAdd, Nat.reduceDiv, Int.reduceBEq, rules2, rulesX, rowsX]
      refine go_fr_of rfl ?_
      obtain ⟨x10, hx10, h⟩ := ob h
      obtain ⟨x11, hx11, h⟩ := ob h
      try simp only [hb9, hx10, hx11, Nat.reduceBEq, Nat.reduceMul, Nat.reduceAdd, Nat.reduceDiv, Int.reduceBEq, rules2, rulesX, rowsX]
      refine go_bsl (es := List.map rI ([(IntKind.i64.wrap (x10 + x11))] : List Int)) rfl rfl ?_
      obtain ⟨hg12, h⟩ := of_guard h
      try simp only [hb9, hx10, hx11, hg12, Nat.reduceBEq, Nat.reduceMul, Nat.reduceAdd, Nat.reduceDiv, Int.reduceBEq, rules2, rulesX, rowsX]
      refine go_fr_of rfl ?_
      try simp only [hb9, hx10, hx11, hg12, Nat.reduceBEq, Nat.reduceMul, Nat.reduceAdd, Nat.reduceDiv, Int.reduceBEq, rules2, rulesX, rowsX]
      refine go_fr_of rfl ?_
      try simp only [hb9, hx10, hx11, hg12, Nat.reduceBEq, Nat.reduceMul, Nat.reduceAdd, Nat.reduceDiv, Int.reduceBEq, rules2, rulesX, rowsX]
      refine go_fr_of rfl ?_
      obtain ⟨x13, hx13, h⟩ := ob h
      obtain ⟨x14, hx14, h⟩ := ob h
      try simp only [hb9, hx10, hx11, hg12, hx13, hx14, Nat.reduceBEq, Nat.reduceMul, Nat.reduceAdd, Nat.reduceDiv, Int.reduceBEq, rules2, rulesX, rowsX]
      refine go_bsl (es := List.map rI ([(IntKind.i64.wrap (x13 + x14))] : List Int)) rfl rfl ?_
      obtain ⟨hg15, h⟩ := of_guard h
      try simp only [hb9, hx10, hx11, hg12, hx13, hx14, hg15, Nat.reduceBEq, Nat.reduceMul, Nat.reduceAdd, Nat.reduceDiv, Int.reduceBEq, rules2, rulesX, rowsX]
      refine go_fr_of rfl ?_
      try simp only [hb9, hx10, hx11, hg12, hx13, hx14, hg15, Nat.reduceBEq, Nat.reduceMul, Nat.reduceAdd, Nat.reduceDiv, Int.reduceBEq, rules2, rulesX, rowsX]
      refine go_fr_of rfl ?_
      try simp only [hb9, hx10, hx11, hg12, hx13, hx14, hg15, Nat.reduceBEq, Nat.reduceMul, Nat.reduceAdd, Nat.reduceDiv, Int.reduceBEq, rules2, rulesX, rowsX]
      refine ih _ _ _ _ h _ ?_
      try simp only [hb9, hx10, hx11, hg12, hx13, hx14, hg15, Nat.reduceBEq, Nat.reduceMul, Nat.reduceAdd, Nat.reduceDiv, Int.reduceBEq, rules2, rulesX, rowsX, List.map_nil]
    · rw [ite_f hb9] at h
      obtain ⟨r16, hr16, h⟩ := ob h
      try simp only [hσ, hb9, c_spec_AddAccounts_2, c_spec_AddAccounts_n2, Nat.reduceBEq, Nat.reduceMul, Nat.reduceAdd, Nat.reduceDiv, Int.reduceBEq, rules2, rulesX, rowsX]
      refine go_call (w_spec_AccountOk _ _ hr16) rfl (flat_of rfl) rfl (Nat.le_of_ble_eq_true rfl) ?_
      rcases Bool.eq_false_or_eq_true r16 with hb17 | hb17
      · rw [ite_t hb17] at h
        try simp only [hb9, hb17, Nat.reduceBEq, Nat.reduceMul, Nat.reduceAdd, Nat.reduceDiv, Int.reduceBEq, rules2, rulesX, rowsX]
        cases h
        try simp only [rulesR, Nat.reduceBEq, Nat.reduceMul, Nat.reduceAdd, Nat.reduceDiv, Int.reduceBEq, rules2, rulesX, rowsX]
        exact ⟨⟨⟨rfl, rfl, trivial⟩, rfl, trivial⟩, rfl⟩
      · rw [ite_f hb17] at h
        try simp only [hb9, hb17, Nat.reduceBEq, Nat.reduceMul, Nat.reduceAdd, Nat.reduceDiv, Int.reduceBEq, rules2, rulesX, rowsX]
        cases h
        try simp only [rulesR, Nat.reduceBEq, Nat.reduceMul, Nat.reduceAdd, Nat.reduceDiv, Int.reduceBEq, rules2, rulesX, rowsX]
        exact ⟨⟨⟨rfl, rfl, trivial⟩, rfl, trivial⟩, rfl⟩
theorem w_spec_AddAccounts_1 (a0 : XAccount) (a1 : XAccount) (v4 : Bool) (r : XAccount × Bool) (h : f_spec_AddAccounts_1 a0 a1 v4 = some r) (σ : St) (hσ : σ.kept [2, 3, 4, 15] [2, 3, 4] [] = ⟨[(2, vc (.pb 2 0)), (3, vc (.pb 3 0)), (4, vc (.pb 4 0)), (15, vc (aB v4))], [(2, [aL (List.map rI a0.Waits), aL (List.map rI a0.Calls)]), (3, [aL (List.map rI a1.Waits), aL (List.map rI a1.Calls)]), (4, [.nil, .nil])], []⟩) : go Try.prog (.code c_spec_AddAccounts_1 :: [.code c_spec_AddAccounts_n1]) (Ret [.c 4 true 2, 5] [.ag [.o 1 (List.map rI r.1.Waits), .o 1 (List.map rI r.1.Calls)], .sc (.v (.bool r.2))]) .normal (some σ) := by
  unfold f_spec_AddAccounts_1 at h
  rcases Bool.eq_false_or_eq_true v4 with hb5 | hb5
  · rw [ite_t hb5] at h
    try simp only [hσ, hb5, c_spec_AddAccounts_1, Nat.reduceBEq, Nat.reduceMul, Nat.reduceAdd, Nat.reduceDiv, Int.reduceBEq, rules2, rulesX, rowsX]
    cases h
    try simp only [rulesR, Nat.reduceBEq, Nat.reduceMul, Nat.reduceAdd, Nat.reduceDiv, Int.reduceBEq, rules2, rulesX, rowsX]
    exact ⟨⟨⟨rfl, rfl, trivial⟩, rfl, trivial⟩, rfl⟩
  · rw [ite_f hb5] at h
    try simp only [hσ, hb5, c_spec_AddAccounts_1, c_spec_AddAccounts_n1, Nat.reduceBEq, Nat.reduceMul, Nat.reduceAdd, Nat.reduceDiv, Int.reduceBEq, rules2, rulesX, rowsX]
    refine go_al rfl rfl ?_
    try simp only [hb5, Nat.reduceBEq, Nat.reduceMul, Nat.reduceAdd, Nat.reduceDiv, Int.reduceBEq, rules2, rulesX, rowsX]
    refine go_ownb' (cs' := [.own 134144, .nil]) rfl rfl rfl rfl ?_
    try simp only [hb5, Nat.reduceBEq, Nat.reduceMul, Nat.reduceAdd, Nat.reduceDiv, Int.reduceBEq, rules2, rulesX, rowsX]
    refine go_ownb' (cs' := [.own 134144, .own 134208]) rfl rfl rfl rfl ?_
    try simp only [hb5, Nat.reduceBEq, Nat.reduceMul, Nat.reduceAdd, Nat.reduceDiv, Int.reduceBEq, rules2, rulesX, rowsX]
    refine w_spec_AddAccounts_2 _ _ _ _ _ _ _ h _ ?_
    try simp only [hb5, Nat.reduceBEq, Nat.reduceMul, Nat.reduceAdd, Nat.reduceDiv, Int.reduceBEq, rules2, rulesX, rowsX, List.map_nil]
theorem e_spec_AddAccounts : entry Try.prog 49 = some (c_spec_AddAccounts.strip, [.c 4 true 2, 5], 62) := by kernel_rfl
theorem w_spec_AddAccounts (a0 : XAccount) (a1 : XAccount) (r : XAccount × Bool) (h : f_spec_AddAccounts a0 a1 = some r) : FC Try.prog 49 [.ag (XAccount.row a0), .ag (XAccount.row a1)] [.ag [.o 1 (List.map rI r.1.Waits), .o 1 (List.map rI r.1.Calls)], .sc (.v (.bool r.2))] := by
  unfold f_spec_AddAccounts at h
  refine FC_go (σ := ⟨[(0, va [aL (List.map rI a0.Waits), aL (List.map rI a0.Calls)]), (1, va [aL (List.map rI a1.Waits), aL (List.map rI a1.Calls)])], [], []⟩) mixed e_spec_AddAccounts rfl rfl ?_
  simp only [c_spec_AddAccounts]
  try simp only [Nat.reduceBEq, Nat.reduceMul, Nat.reduceAdd, Nat.reduceDiv, Int.reduceBEq, rules2, rulesX, rowsX]
  refine go_bx rfl rfl rfl ?_
  try simp only [Nat.reduceBEq, Nat.reduceMul, Nat.reduceAdd, Nat.reduceDiv, Int.reduceBEq, rules2, rulesX, rowsX]
  refine go_bx rfl rfl rfl ?_
  try simp only [Nat.reduceBEq, Nat.reduceMul, Nat.reduceAdd, Nat.reduceDiv, Int.reduceBEq, rules2, rulesX, rowsX]
  refine go_al rfl rfl ?_
  obtain ⟨r1, hr1, h⟩ := ob h
  try simp only [Nat.reduceBEq, Nat.reduceMul, Nat.reduceAdd, Nat.reduceDiv, Int.reduceBEq, rules2, rulesX, rowsX]
  refine go_callI (w_spec_AccountOk _ _ hr1) rfl rfl (Nat.le_of_ble_eq_true rfl) ?_
  rcases Bool.eq_false_or_eq_true r1 with hb2 | hb2
  · rw [ite_t hb2] at h
    obtain ⟨r3, hr3, h⟩ := ob h
    try simp only [hb2, Nat.reduceBEq, Nat.reduceMul, Nat.reduceAdd, Nat.reduceDiv, Int.reduceBEq, rules2, rulesX, rowsX]
    refine go_callI (w_spec_AccountOk _ _ hr3) rfl rfl (Nat.le_of_ble_eq_true rfl) ?_
    try simp only [hb2, Nat.reduceBEq, Nat.reduceMul, Nat.reduceAdd, Nat.reduceDiv, Int.reduceBEq, rules2, rulesX, rowsX]
    refine w_spec_AddAccounts_1 _ _ _ _ h _ ?_
    try simp only [hb2, Nat.reduceBEq, Nat.reduceMul, Nat.reduceAdd, Nat.reduceDiv, Int.reduceBEq, rules2, rulesX, rowsX, List.map_nil]
  · rw [ite_f hb2] at h
    try simp only [hb2, Nat.reduceBEq, Nat.reduceMul, Nat.reduceAdd, Nat.reduceDiv, Int.reduceBEq, rules2, rulesX, rowsX]
    refine w_spec_AddAccounts_1 _ _ _ _ h _ ?_
    try simp only [hb2, Nat.reduceBEq, Nat.reduceMul, Nat.reduceAdd, Nat.reduceDiv, Int.reduceBEq, rules2, rulesX, rowsX, List.map_nil]
/- 59: impl_within -/
def c_impl_within : ACode := (.seq (.reg [(none, .mv 6 (KB false))]) (.seq (.reg [(none, .mv 7 (S 1)), (none, .mv 8 (S 0)), (none, .bin 9 .leq (S 7) (S 8)), (none, .mv 10 (S 9)), (some (10, true), .mv 11 (S 0)), (some (10, true), .mv 12 (S 2)), (some (10, true), .bin 13 .leq (S 11) (S 12)), (none, .pick 14 (S 10) (S 13) (KB false)), (none, .mv 6 (S 14))]) .ret))
theorem e_impl_within : entry Try.prog 59 = some (c_impl_within.strip, [6], 15) := by kernel_rfl
theorem w_impl_within (a0 : Int) (a1 : Int) (a2 : Int) (r : Bool) (h : f_impl_within a0 a1 a2 = some r) : FC Try.prog 59 [.sc (.int .i64 a0), .sc (.int .i64 a1), .sc (.int .i64 a2)] [.sc (.v (.bool r))] := by
  unfold f_impl_within at h
  refine FC_go (σ := ⟨[(0, vc (aI a0)), (1, vc (aI a1)), (2, vc (aI a2))], [], []⟩) mixed e_impl_within rfl rfl ?_
  simp only [c_impl_within]
  rcases Bool.eq_false_or_eq_true (decide (a1 ≤ a0)) with hb1 | hb1
  · rw [ite_t hb1] at h
    try simp only [hb1, Nat.reduceBEq, Nat.reduceMul, Nat.reduceAdd, Nat.reduceDiv, Int.reduceBEq, rules2, rulesX, rowsX]
    cases h
    exact ⟨⟨rfl, trivial⟩, rfl⟩
  · rw [ite_f hb1] at h
    try simp only [hb1, Nat.reduceBEq, Nat.reduceMul, Nat.reduceAdd, Nat.reduceDiv, Int.reduceBEq, rules2, rulesX, rowsX]
    cases h
    exact ⟨⟨rfl, trivial⟩, rfl⟩
/- 26: impl_AccountOk -/
def c_impl_AccountOk_1 : ACode := .seq (.reg [(none, .keep [1, 14] [1] [])]) (.seq (.reg [(none, .bin 15 .lss (S 14) (K 4))]) (.seq (.cond (S 15) .skip (.exit 0)) (.seq (.block 1 (.seq (.reg [(none, .mv 16 (S 14)), (none, .mv 3 (S 16))]) (.seq (.reg [(none, .faddr 17 (S 1) 0), (none, .load 18 (S 17) false 1), (none, .mv 19 (S 3)), (none, .iaddr 20 (S 18) (S 19) 1), (none, .load 21 (S 20) false 1), (none, .call 22 59 [(S 21), (K 0), (K 1000000)]), (none, .un 23 .not (S 22)), (none, .mv 24 (S 23)), (some (24, false), .faddr 25 (S 1) 1), (some (24, false), .load 26 (S 25) false 1), (some (24, false), .mv 27 (S 3)), (some (24, false), .iaddr 28 (S 26) (S 27) 1), (some (24, false), .load 29 (S 28) false 1), (some (24, false), .call 30 59 [(S 29), (K 0), (K 1000000)]), (some (24, false), .un 31 .not (S 30)), (none, .pick 32 (S 24) (KB true) (S 31))]) (.cond (S 32) (.seq (.reg [(none, .mv 2 (KB false))]) .ret) .skip)))) (.reg [(none, .bin 33 .add (S 14) (K 1)), (none, .mv 14 (S 33))]))))
def c_impl_AccountOk_n1 : ACode := (.seq (.reg [(none, .mv 2 (KB true))]) .ret)
def c_impl_AccountOk : ACode := (.seq (.reg [(none, .box 1 (S 0)), (none, .mv 2 (KB false))]) (.seq (.seq (.reg [(none, .faddr 4 (S 1) 0), (none, .load 5 (S 4) false 1), (none, .len 6 (S 5)), (none, .bin 7 .neq (S 6) (K 4)), (none, .mv 8 (S 7)), (some (8, false), .faddr 9 (S 1) 1), (some (8, false), .load 10 (S 9) false 1), (some (8, false), .len 11 (S 10)), (some (8, false), .bin 12 .neq (S 11) (K 4)), (none, .pick 13 (S 8) (KB true) (S 12))]) (.cond (S 13) (.seq (.reg [(none, .mv 2 (KB false))]) .ret) .skip)) (.seq (.seq (.reg [(none, .mv 14 (K 0))]) (.block 0 (.loop c_impl_AccountOk_1))) c_impl_AccountOk_n1)))
theorem w_impl_AccountOk_1 (a0 : XAccount) : ∀ (n : Nat) (v3 : Int) (r : Bool), f_impl_AccountOk_1 a0 n v3 = some r → ∀ σ : St, σ.kept [1, 14] [1] [] = ⟨[(1, vc (.pb 1 0)), (14, vc (aI v3))], [(1, [aL (List.map rI a0.Waits), aL (List.map rI a0.Calls)])], []⟩ → go Try.prog (.code (.loop c_impl_AccountOk_1) :: [.blk 0, .code c_impl_AccountOk_n1]) (Ret [2] [.sc (.v (.bool r))]) .normal (some σ) := by
  intro n
  induction n with
  | zero => intro _ r h; cases h
  | succ n ih =>
    intro v3 r h σ hσ
    rw [f_impl_AccountOk_1] at h
    refine go_round ?_
    rcases Bool.eq_false_or_eq_true (decide (v3 < (4 : Int))) with hb4 | hb4
    · rw [ite_t hb4] at h
      obtain ⟨x5, hx5, h⟩ := ob h
      obtain ⟨r6, hr6, h⟩ := ob h
      try simp only [hσ, hb4, hx5, c_impl_AccountOk_1, Nat.reduceBEq, Nat.reduceMul, Nat.reduceAdd, Nat.reduceDiv, Int.reduceBEq, rules2, rulesX, rowsX]
      refine go_callI (w_impl_within _ _ _ _ hr6) rfl rfl (Nat.le_of_ble_eq_true rfl) ?_
      rcases Bool.eq_false_or_eq_true r6 with hb7 | hb7
      · rw [ite_t hb7] at h
        obtain ⟨x8, hx8, h⟩ := ob h
        obtain ⟨r9, hr9, h⟩ := ob h
        try simp only [hb4, hx5, hb7, hx8, Nat.reduceBEq, Nat.reduceMul, Nat.reduceAdd, Nat.reduceDiv, Int.reduceBEq, rules2, rulesX, rowsX]
        refine go_callI (w_impl_within _ _ _ _ hr9) rfl rfl (Nat.le_of_ble_eq_true rfl) ?_
        rcases Bool.eq_false_or_eq_true r9 with hb10 | hb10
        · rw [ite_t hb10] at h
          try simp only [hb4, hx5, hb7, hx8, hb10, Nat.reduceBEq, Nat.reduceMul, Nat.reduceAdd, Nat.reduceDiv, Int.reduceBEq, rules2, rulesX, rowsX]
          refine ih _ _ h _ ?_
          try simp only [hb4, hx5, hb7, hx8, hb10, Nat.reduceBEq, Nat.reduceMul, Nat.reduceAdd, Nat.reduceDiv, Int.reduceBEq, rules2, rulesX, rowsX, List.map_nil]
        · rw [ite_f hb10] at h
          try simp only [hb4, hx5, hb7, hx8, hb10, Nat.reduceBEq, Nat.reduceMul, Nat.reduceAdd, Nat.reduceDiv, Int.reduceBEq, rules2, rulesX, rowsX]
          cases h
          exact ⟨⟨rfl, trivial⟩, rfl⟩
      · rw [ite_f hb7] at h
        try simp only [hb4, hx5, hb7, Nat.reduceBEq, Nat.reduceMul, Nat.reduceAdd, Nat.reduceDiv, Int.reduceBEq, rules2, rulesX, rowsX]
        cases h
        exact ⟨⟨rfl, trivial⟩, rfl⟩
    · rw [ite_f hb4] at h
      try simp only [hσ, hb4, c_impl_AccountOk_1, c_impl_AccountOk_n1, Nat.reduceBEq, Nat.reduceMul, Nat.reduceAdd, Nat.reduceDiv, Int.reduceBEq, rules2, rulesX, rowsX]
      cases h
      exact ⟨⟨rfl, trivial⟩, rfl⟩
theorem e_impl_AccountOk : entry Try.prog 26 = some (c_impl_AccountOk.strip, [2], 34) := by kernel_rfl
theorem w_impl_AccountOk (a0 : XAccount) (r : Bool) (h : f_impl_AccountOk a0 = some r) : FC Try.prog 26 [.ag (XAccount.row a0)] [.sc (.v (.bool r))] := by
  unfold f_impl_AccountOk at h
  refine FC_go (σ := ⟨[(0, va [aL (List.map rI a0.Waits), aL (List.map rI a0.Calls)])], [], []⟩) mixed e_impl_AccountOk rfl rfl ?_
  simp only [c_impl_AccountOk]
  try simp only [Nat.reduceBEq, Nat.reduceMul, Nat.reduceAdd, Nat.reduceDiv, Int.reduceBEq, rules2, rulesX, rowsX]
  refine go_bx rfl rfl rfl ?_
  rcases Bool.eq_false_or_eq_true ((a0.Waits.length : Int) != (4 : Int)) with hb1 | hb1
  · rw [ite_t hb1] at h
    try simp only [hb1, Nat.reduceBEq, Nat.reduceMul, Nat.reduceAdd, Nat.reduceDiv, Int.reduceBEq, rules2, rulesX, rowsX]
    cases h
    exact ⟨⟨rfl, trivial⟩, rfl⟩
  · rw [ite_f hb1] at h
    rcases Bool.eq_false_or_eq_true ((a0.Calls.length : Int) != (4 : Int)) with hb2 | hb2
    · rw [ite_t hb2] at h
      try simp only [hb1, hb2, Nat.reduceBEq, Nat.reduceMul, Nat.reduceAdd, Nat.reduceDiv, Int.reduceBEq, rules2, rulesX, rowsX]
      cases h
      exact ⟨⟨rfl, trivial⟩, rfl⟩
    · rw [ite_f hb2] at h
      try simp only [hb1, hb2, Nat.reduceBEq, Nat.reduceMul, Nat.reduceAdd, Nat.reduceDiv, Int.reduceBEq, rules2, rulesX, rowsX]
      refine w_impl_AccountOk_1 _ _ _ _ h _ ?_
      try simp only [hb1, hb2, Nat.reduceBEq, Nat.reduceMul, Nat.reduceAdd, Nat.reduceDiv, Int.reduceBEq, rules2, rulesX, rowsX, List.map_nil]
/- 77: impl_clone_int -/
def c_impl_clone_int : ACode := (.seq (.reg [(none, .mv 2 KN)]) (.seq (.reg [(none, .mv 3 (S 0)), (none, .len 4 (S 3)), (none, .mksl 5 1 8 [.int .i64 0] (K 0) (S 4)), (none, .mv 6 (S 0)), (none, .app 7 1 8 (S 5) (S 6)), (none, .mv 2 (S 7))]) .ret))
theorem e_impl_clone_int : entry Try.prog 77 = some (c_impl_clone_int.strip, [2], 8) := by kernel_rfl
theorem w_impl_clone_int (a0 : List Int) (r : (List Int)) (h : f_impl_clone_int a0 = some r) : FC Try.prog 77 [.sc (.sl (List.map rI a0))] [.sc (.o 1 (List.map rI r))] := by
  unfold f_impl_clone_int at h
  refine FC_go (σ := ⟨[(0, vc (aL (List.map rI a0)))], [], []⟩) mixed e_impl_clone_int rfl rfl ?_
  simp only [c_impl_clone_int]
  obtain ⟨n1, hn1, h⟩ := ob h
  try simp only [Nat.reduceBEq, Nat.reduceMul, Nat.reduceAdd, Nat.reduceDiv, Int.reduceBEq, rules2, rulesX, rowsX]
  refine go_mks (es := List.map rI (List.replicate n1 (0 : Int))) rfl rfl hn1 rfl (rep_map rfl) rfl ?_
  obtain ⟨hg2, h⟩ := of_guard h
  try simp only [hg2, Nat.reduceBEq, Nat.reduceMul, Nat.reduceAdd, Nat.reduceDiv, Int.reduceBEq, rules2, rulesX, rowsX]
  cases h
  exact ⟨⟨rfl, trivial⟩, rfl⟩
/- 50: impl_AddAccounts -/
def c_impl_AddAccounts_1 : ACode := .seq (.reg [(none, .keep [2, 3, 4, 15] [2, 3, 4] [])]) (.cond (S 15) (.seq (.reg [(none, .build 16 [.nil, .nil] []), (none, .store (S 4) (S 16) 2), (none, .mv 5 (KB false))]) .ret) .skip)
def c_impl_AddAccounts_2 : ACode := .seq (.reg [(none, .keep [3, 4, 6, 24] [3, 4, 6] [1216, 1408])]) (.seq (.reg [(none, .bin 25 .lss (S 24) (K 4))]) (.seq (.cond (S 25) .skip (.exit 0)) (.seq (.block 1 (.seq (.reg [(none, .mv 26 (S 24)), (none, .mv 7 (S 26))]) (.seq (.drw [(some [], (none, .faddr 27 (S 6) 0)), (some [], (none, .load 28 (S 27) false 1)), (some [], (none, .mv 29 (S 7))), (some [], (none, .iaddr 30 (S 28) (S 29) 1)), (some [], (none, .load 31 (S 30) false 1)), (some [], (none, .faddr 32 (S 3) 0)), (some [], (none, .load 33 (S 32) false 1)), (some [], (none, .mv 34 (S 7))), (some [], (none, .iaddr 35 (S 33) (S 34) 1)), (some [], (none, .load 36 (S 35) false 1)), (some [], (none, .bin 37 .add (S 31) (S 36))), (some [], (none, .iaddr 38 (S 28) (S 29) 1)), (none, (none, .store (S 38) (S 37) 1))]) (.drw [(some [], (none, .faddr 39 (S 6) 1)), (some [], (none, .load 40 (S 39) false 1)), (some [], (none, .mv 41 (S 7))), (some [], (none, .iaddr 42 (S 40) (S 41) 1)), (some [], (none, .load 43 (S 42) false 1)), (some [], (none, .faddr 44 (S 3) 1)), (some [], (none, .load 45 (S 44) false 1)), (some [], (none, .mv 46 (S 7))), (some [], (none, .iaddr 47 (S 45) (S 46) 1)), (some [], (none, .load 48 (S 47) false 1)), (some [], (none, .bin 49 .add (S 43) (S 48))), (some [], (none, .iaddr 50 (S 40) (S 41) 1)), (none, (none, .store (S 50) (S 49) 1))])))) (.reg [(none, .bin 51 .add (S 24) (K 1)), (none, .mv 24 (S 51))]))))
def c_impl_AddAccounts_n2 : ACode := (.seq (.seq (.reg [(none, .load 52 (S 6) true 2), (none, .call 53 26 [(S 52)]), (none, .un 54 .not (S 53))]) (.cond (S 54) (.seq (.reg [(none, .build 55 [.nil, .nil] []), (none, .store (S 4) (S 55) 2), (none, .mv 5 (KB false))]) .ret) .skip)) (.seq (.reg [(none, .load 56 (S 6) true 2), (none, .store (S 4) (S 56) 2), (none, .mv 5 (KB true))]) .ret))
def c_impl_AddAccounts_n1 : ACode := (.seq (.drw [(some [6], (none, .faddr 17 (S 2) 0)), (some [6], (none, .load 18 (S 17) false 1)), (some [6], (none, .call 19 77 [(S 18)])), (some [19, 6], (none, .faddr 20 (S 2) 1)), (some [19, 6], (none, .load 21 (S 20) false 1)), (some [6], (none, .call 22 77 [(S 21)])), (some [6], (none, .build 23 [.nil, .nil] [(0, 1, (S 19)), (1, 1, (S 22))])), (some [19, 22], (none, .alloc 6 [.nil, .nil])), (none, (none, .store (S 6) (S 23) 2))]) (.seq (.seq (.reg [(none, .mv 24 (K 0))]) (.block 0 (.loop c_impl_AddAccounts_2))) c_impl_AddAccounts_n2))
def c_impl_AddAccounts : ACode := (.seq (.reg [(none, .box 2 (S 0)), (none, .box 3 (S 1)), (none, .alloc 4 [.nil, .nil]), (none, .mv 5 (KB false))]) (.seq (.seq (.reg [(none, .load 8 (S 2) true 2), (none, .call 9 26 [(S 8)]), (none, .un 10 .not (S 9)), (none, .mv 11 (S 10)), (some (11, false), .load 12 (S 3) true 2), (some (11, false), .call 13 26 [(S 12)]), (some (11, false), .un 14 .not (S 13)), (none, .pick 15 (S 11) (KB true) (S 14))]) c_impl_AddAccounts_1) c_impl_AddAccounts_n1))
theorem w_impl_AddAccounts_2 (a1 : XAccount) : ∀ (n : Nat) (v8 : Int) (v9 : List Int) (v10 : List Int) (r : XAccount × Bool), f_impl_AddAccounts_2 a1 n v8 v9 v10 = some r → ∀ σ : St, σ.kept [3, 4, 6, 24] [3, 4, 6] [1216, 1408] = ⟨[(3, vc (.pb 3 0)), (4, vc (.pb 4 0)), (6, vc (.pb 6 0)), (24, vc (aI v8))], [(3, [aL (List.map rI a1.Waits), aL (List.map rI a1.Calls)]), (4, [.nil, .nil]), (6, [.own 1216, .own 1408])], [(1216, 1, List.map rI v9), (1408, 1, List.map rI v10)]⟩ → go Try.prog (.code (.loop c_impl_AddAccounts_2) :: [.blk 0, .code c_impl_AddAccounts_n2]) (Ret [.c 4 true 2, 5] [.ag [.o 1 (List.map rI r.1.Waits), .o 1 (List.map rI r.1.Calls)], .sc (.v (.bool r.2))]) .normal (some σ) := by
  intro n
  induction n with
  | zero => intro _ _ _ r h; cases h
  | succ n ih =>
    intro v8 v9 v10 r h σ hσ
    rw [f_impl_AddAccounts_2] at h
    refine go_round ?_
    rcases Bool.eq_false_or_eq_true (decide (v8 < (4 : Int))) with hb11 | hb11
    · rw [ite_t hb11] at h
      try simp only [hσ, hb11, c_impl_AddAccounts_2, Nat.reduceBEq, Nat.reduceMul, Nat.reduceAdd, Nat.reduceDiv, Int.reduceBEq, rules2, rulesX, rowsX]
      refine go_fr_of rfl ?_
      obtain ⟨x12, hx12, h⟩ := ob h
      have hx12n := ix_get hx12
      obtain ⟨x13, hx13, h⟩ := ob h
      try simp only [hb11, hx12, hx12n, hx13, Nat.reduceBEq, Nat.reduceMul, Nat.reduceAdd, Nat.reduceDiv, Int.reduceBEq, rules2, rulesX, rowsX]
      refine go_stp (y := (IntKind.i64.wrap (x12 + x13))) rfl rfl hx12n rfl rfl rfl ?_
      try simp only [hb11, hx12, hx12n, hx13, Nat.reduceBEq, Nat.reduceMul, Nat.reduceAdd, Nat.reduceDiv, Int.reduceBEq, rules2, rulesX, rowsX]
      refine go_fr_of rfl ?_
      try simp only [hb11, hx12, hx12n, hx13, Nat.reduceBEq, Nat.reduceMul, Nat.reduceAdd, Nat.reduceDiv, Int.reduceBEq, rules2, rulesX, rowsX]
      refine go_fr_of rfl ?_
      obtain ⟨x14, hx14, h⟩ := ob h
      have hx14n := ix_get hx14
      obtain ⟨x15, hx15, h⟩ := ob h
      try simp only [hb11, hx12, hx12n, hx13, hx14, hx14n, hx15, Nat.reduceBEq, Nat.reduceMul, Nat.reduceAdd, Nat.reduceDiv, Int.reduceBEq, rules2, rulesX, rowsX]
      refine go_stp (y := (IntKind.i64.wrap (x14 + x15))) rfl rfl hx14n rfl rfl rfl ?_
      try simp only [hb11, hx12, hx12n, hx13, hx14, hx14n, hx15, Nat.reduceBEq, Nat.reduceMul, Nat.reduceAdd, Nat.reduceDiv, Int.reduceBEq, rules2, rulesX, rowsX]
      refine go_fr_of rfl ?_
      try simp only [hb11, hx12, hx12n, hx13, hx14, hx14n, hx15, Nat.reduceBEq, Nat.reduceMul, Nat.reduceAdd, Nat.reduceDiv, Int.reduceBEq, rules2, rulesX, rowsX]
      refine ih _ _ _ _ h _ ?_
      try simp only [hb11, hx12, hx12n, hx13, hx14, hx14n, hx15, Nat.reduceBEq, Nat.reduceMul, Nat.reduceAdd, Nat.reduceDiv, Int.reduceBEq, rules2, rulesX, rowsX, List.map_nil]
    · rw [ite_f hb11] at h
      obtain ⟨r16, hr16, h⟩ := ob h
      try simp only [hσ, hb11, c_impl_AddAccounts_2, c_impl_AddAccounts_n2, Nat.reduceBEq, Nat.reduceMul, Nat.reduceAdd, Nat.reduceDiv, Int.reduceBEq, rules2, rulesX, rowsX]
      refine go_call (w_impl_AccountOk _ _ hr16) rfl (flat_of rfl) rfl (Nat.le_of_ble_eq_true rfl) ?_
      rcases Bool.eq_false_or_eq_true r16 with hb17 | hb17
      · rw [ite_t hb17] at h
        try simp only [hb11, hb17, Nat.reduceBEq, Nat.reduceMul, Nat.reduceAdd, Nat.reduceDiv, Int.reduceBEq, rules2, rulesX, rowsX]
        cases h
        try simp only [rulesR, Nat.reduceBEq, Nat.reduceMul, Nat.reduceAdd, Nat.reduceDiv, Int.reduceBEq, rules2, rulesX, rowsX]
        exact ⟨⟨⟨rfl, rfl, trivial⟩, rfl, trivial⟩, rfl⟩
      · rw [ite_f hb17] at h
        try simp only [hb11, hb17, Nat.reduceBEq, Nat.reduceMul, Nat.reduceAdd, Nat.reduceDiv, Int.reduceBEq, rules2, rulesX, rowsX]
        cases h
        try simp only [rulesR, Nat.reduceBEq, Nat.reduceMul, Nat.reduceAdd, Nat.reduceDiv, Int.reduceBEq, rules2, rulesX, rowsX]
        exact ⟨⟨⟨rfl, rfl, trivial⟩, rfl, trivial⟩, rfl⟩
theorem w_impl_AddAccounts_1 (a0 : XAccount) (a1 : XAccount) (v4 : Bool) (r : XAccount × Bool) (h : f_impl_AddAccounts_1 a0 a1 v4 = some r) (σ : St) (hσ : σ.kept [2, 3, 4, 15] [2, 3, 4] [] = ⟨[(2, vc (.pb 2 0)), (3, vc (.pb 3 0)), (4, vc (.pb 4 0)), (15, vc (aB v4))], [(2, [aL (List.map rI a0.Waits), aL (List.map rI a0.Calls)]), (3, [aL (List.map rI a1.Waits), aL (List.map rI a1.Calls)]), (4, [.nil, .nil])], []⟩) : go Try.prog (.code c_impl_AddAccounts_1 :: [.code c_impl_AddAccounts_n1]) (Ret [.c 4 true 2, 5] [.ag [.o 1 (List.map rI r.1.Waits), .o 1 (List.map rI r.1.Calls)], .sc (.v (.bool r.2))]) .normal (some σ) := by
  unfold f_impl_AddAccounts_1 at h
  rcases Bool.eq_false_or_eq_true v4 with hb5 | hb5
  · rw [ite_t hb5] at h
    try simp only [hσ, hb5, c_impl_AddAccounts_1, Nat.reduceBEq, Nat.reduceMul, Nat.reduceAdd, Nat.reduceDiv, Int.reduceBEq, rules2, rulesX, rowsX]
    cases h
    try simp only [rulesR, Nat.reduceBEq, Nat.reduceMul, Nat.reduceAdd, Nat.reduceDiv, Int.reduceBEq, rules2, rulesX, rowsX]
    exact ⟨⟨⟨rfl, rfl, trivial⟩, rfl, trivial⟩, rfl⟩
  · rw [ite_f hb5] at h
    try simp only [hσ, hb5, c_impl_AddAccounts_1, c_impl_AddAccounts_n1, Nat.reduceBEq, Nat.reduceMul, Nat.reduceAdd, Nat.reduceDiv, Int.reduceBEq, rules2, rulesX, rowsX]
    refine go_fr_of rfl ?_
    obtain ⟨r6, hr6, h⟩ := ob h
    try simp only [hb5, Nat.reduceBEq, Nat.reduceMul, Nat.reduceAdd, Nat.reduceDiv, Int.reduceBEq, rules2, rulesX, rowsX]
    refine go_dcallI (w_impl_clone_int _ _ hr6) rfl rfl (Nat.le_of_ble_eq_true rfl) ?_
    obtain ⟨r7, hr7, h⟩ := ob h
    try simp only [hb5, Nat.reduceBEq, Nat.reduceMul, Nat.reduceAdd, Nat.reduceDiv, Int.reduceBEq, rules2, rulesX, rowsX]
    refine go_dcallI (w_impl_clone_int _ _ hr7) rfl rfl (Nat.le_of_ble_eq_true rfl) ?_
    try simp only [hb5, Nat.reduceBEq, Nat.reduceMul, Nat.reduceAdd, Nat.reduceDiv, Int.reduceBEq, rules2, rulesX, rowsX]
    refine go_mkN (m := .box 6 [.nil, .nil]) rfl rfl (make_box rfl rfl) ?_
    try simp only [hb5, Nat.reduceBEq, Nat.reduceMul, Nat.reduceAdd, Nat.reduceDiv, Int.reduceBEq, rules2, rulesX, rowsX]
    refine go_fr_of rfl ?_
    try simp only [hb5, Nat.reduceBEq, Nat.reduceMul, Nat.reduceAdd, Nat.reduceDiv, Int.reduceBEq, rules2, rulesX, rowsX]
    refine w_impl_AddAccounts_2 _ _ _ _ _ _ h _ ?_
    try simp only [hb5, Nat.reduceBEq, Nat.reduceMul, Nat.reduceAdd, Nat.reduceDiv, Int.reduceBEq, rules2, rulesX, rowsX, List.map_nil]
theorem e_impl_AddAccounts : entry Try.prog 50 = some (c_impl_AddAccounts.strip, [.c 4 true 2, 5], 57) := by kernel_rfl
theorem w_impl_AddAccounts (a0 : XAccount) (a1 : XAccount) (r : XAccount × Bool) (h : f_impl_AddAccounts a0 a1 = some r) : FC Try.prog 50 [.ag (XAccount.row a0), .ag (XAccount.row a1)] [.ag [.o 1 (List.map rI r.1.Waits), .o 1 (List.map rI r.1.Calls)], .sc (.v (.bool r.2))] := by
  unfold f_impl_AddAccounts at h
  refine FC_go (σ := ⟨[(0, va [aL (List.map rI a0.Waits), aL (List.map rI a0.Calls)]), (1, va [aL (List.map rI a1.Waits), aL (List.map rI a1.Calls)])], [], []⟩) mixed e_impl_AddAccounts rfl rfl ?_
  simp only [c_impl_AddAccounts]
  try simp only [Nat.reduceBEq, Nat.reduceMul, Nat.reduceAdd, Nat.reduceDiv, Int.reduceBEq, rules2, rulesX, rowsX]
  refine go_bx rfl rfl rfl ?_
  try simp only [Nat.reduceBEq, Nat.reduceMul, Nat.reduceAdd, Nat.reduceDiv, Int.reduceBEq, rules2, rulesX, rowsX]
  refine go_bx rfl rfl rfl ?_
  try simp only [Nat.reduceBEq, Nat.reduceMul, Nat.reduceAdd, Nat.reduceDiv, Int.reduceBEq, rules2, rulesX, rowsX]
  refine go_al rfl rfl ?_
  obtain ⟨r1, hr1, h⟩ := ob h
  try simp only [Nat.reduceBEq, Nat.reduceMul, Nat.reduceAdd, Nat.reduceDiv, Int.reduceBEq, rules2, rulesX, rowsX]
  refine go_callI (w_impl_AccountOk _ _ hr1) rfl rfl (Nat.le_of_ble_eq_true rfl) ?_
  rcases Bool.eq_false_or_eq_true r1 with hb2 | hb2
  · rw [ite_t hb2] at h
    obtain ⟨r3, hr3, h⟩ := ob h
    try simp only [hb2, Nat.reduceBEq, Nat.reduceMul, Nat.reduceAdd, Nat.reduceDiv, Int.reduceBEq, rules2, rulesX, rowsX]
    refine go_callI (w_impl_AccountOk _ _ hr3) rfl rfl (Nat.le_of_ble_eq_true rfl) ?_
    try simp only [hb2, Nat.reduceBEq, Nat.reduceMul, Nat.reduceAdd, Nat.reduceDiv, Int.reduceBEq, rules2, rulesX, rowsX]
    refine w_impl_AddAccounts_1 _ _ _ _ h _ ?_
    try simp only [hb2, Nat.reduceBEq, Nat.reduceMul, Nat.reduceAdd, Nat.reduceDiv, Int.reduceBEq, rules2, rulesX, rowsX, List.map_nil]
  · rw [ite_f hb2] at h
    try simp only [hb2, Nat.reduceBEq, Nat.reduceMul, Nat.reduceAdd, Nat.reduceDiv, Int.reduceBEq, rules2, rulesX, rowsX]
    refine w_impl_AddAccounts_1 _ _ _ _ h _ ?_
    try simp only [hb2, Nat.reduceBEq, Nat.reduceMul, Nat.reduceAdd, Nat.reduceDiv, Int.reduceBEq, rules2, rulesX, rowsX, List.map_nil]
/- 20: laws_eqIntS -/
def c_laws_eqIntS_1 : ACode := .seq (.reg [(none, .keep [0, 1, 5] [] [])]) (.seq (.seq (.reg [(none, .mv 11 (S 5)), (none, .mv 12 (S 0)), (none, .len 13 (S 12)), (none, .bin 14 .lss (S 11) (S 13))]) (.cond (S 14) .skip (.exit 0))) (.seq (.block 1 (.seq (.drw [(some [], (none, .mv 17 (S 0))), (some [], (none, .mv 18 (S 5))), (some [], (none, .iaddr 19 (S 17) (S 18) 1)), (some [], (none, .load 20 (S 19) false 1)), (some [], (none, .mv 21 (S 1))), (some [], (none, .mv 22 (S 5))), (some [], (none, .iaddr 23 (S 21) (S 22) 1)), (some [], (none, .load 24 (S 23) false 1)), (some [], (none, .bin 25 .neq (S 20) (S 24)))]) (.cond (S 25) (.seq (.reg [(none, .mv 4 (KB false))]) .ret) .skip))) (.reg [(none, .mv 15 (S 5)), (none, .bin 16 .add (S 15) (K 1)), (none, .mv 5 (S 16))])))
def c_laws_eqIntS_n1 : ACode := (.seq (.reg [(none, .mv 4 (KB true))]) .ret)
def c_laws_eqIntS : ACode := (.seq (.reg [(none, .mv 4 (KB false))]) (.seq (.seq (.reg [(none, .mv 6 (S 0)), (none, .len 7 (S 6)), (none, .mv 8 (S 1)), (none, .len 9 (S 8)), (none, .bin 10 .neq (S 7) (S 9))]) (.cond (S 10) (.seq (.reg [(none, .mv 4 (KB false))]) .ret) .skip)) (.seq (.seq (.reg [(none, .mv 5 (K 0))]) (.block 0 (.loop c_laws_eqIntS_1))) c_laws_eqIntS_n1)))
theorem w_laws_eqIntS_1 (a0 : List Int) (a1 : List Int) : ∀ (n : Nat) (v2 : Int) (r : Bool), f_laws_eqIntS_1 a0 a1 n v2 = some r → ∀ σ : St, σ.kept [0, 1, 5] [] [] = ⟨[(0, vc (aL (List.map rI a0))), (1, vc (aL (List.map rI a1))), (5, vc (aI v2))], [], []⟩ → go Try.prog (.code (.loop c_laws_eqIntS_1) :: [.blk 0, .code c_laws_eqIntS_n1]) (Ret [4] [.sc (.v (.bool r))]) .normal (some σ) := by
  intro n
  induction n with
  | zero => intro _ r h; cases h
  | succ n ih =>
    intro v2 r h σ hσ
    rw [f_laws_eqIntS_1] at h
    refine go_round ?_
    rcases Bool.eq_false_or_eq_true (decide (v2 < (a0.length : Int))) with hb3 | hb3
    · rw [ite_t hb3] at h
      try simp only [hσ, hb3, c_laws_eqIntS_1, Nat.reduceBEq, Nat.reduceMul, Nat.reduceAdd, Nat.reduceDiv, Int.reduceBEq, rules2, rulesX, rowsX]
      refine go_fr_of rfl ?_
      obtain ⟨x4, hx4, h⟩ := ob h
      obtain ⟨x5, hx5, h⟩ := ob h
      rcases Bool.eq_false_or_eq_true (x4 != x5) with hb6 | hb6
      · rw [ite_t hb6] at h
        try simp only [hb3, hx4, hx5, hb6, Nat.reduceBEq, Nat.reduceMul, Nat.reduceAdd, Nat.reduceDiv, Int.reduceBEq, rules2, rulesX, rowsX]
        cases h
        exact ⟨⟨rfl, trivial⟩, rfl⟩
      · rw [ite_f hb6] at h
        try simp only [hb3, hx4, hx5, hb6, Nat.reduceBEq, Nat.reduceMul, Nat.reduceAdd, Nat.reduceDiv, Int.reduceBEq, rules2, rulesX, rowsX]
        refine ih _ _ h _ ?_
        try simp only [hb3, hx4, hx5, hb6, Nat.reduceBEq, Nat.reduceMul, Nat.reduceAdd, Nat.reduceDiv, Int.reduceBEq, rules2, rulesX, rowsX, List.map_nil]
    · rw [ite_f hb3] at h
      try simp only [hσ, hb3, c_laws_eqIntS_1, c_laws_eqIntS_n1, Nat.reduceBEq, Nat.reduceMul, Nat.reduceAdd, Nat.reduceDiv, Int.reduceBEq, rules2, rulesX, rowsX]
      cases h
      exact ⟨⟨rfl, trivial⟩, rfl⟩
theorem e_laws_eqIntS : entry Try.prog 20 = some (c_laws_eqIntS.strip, [4], 26) := by kernel_rfl
theorem w_laws_eqIntS (a0 : List Int) (a1 : List Int) (r : Bool) (h : f_laws_eqIntS a0 a1 = some r) : FC Try.prog 20 [.sc (.sl (List.map rI a0)), .sc (.sl (List.map rI a1))] [.sc (.v (.bool r))] := by
  unfold f_laws_eqIntS at h
  refine FC_go (σ := ⟨[(0, vc (aL (List.map rI a0))), (1, vc (aL (List.map rI a1)))], [], []⟩) mixed e_laws_eqIntS rfl rfl ?_
  simp only [c_laws_eqIntS]
  rcases Bool.eq_false_or_eq_true ((a0.length : Int) != (a1.length : Int)) with hb1 | hb1
  · rw [ite_t hb1] at h
    try simp only [hb1, Nat.reduceBEq, Nat.reduceMul, Nat.reduceAdd, Nat.reduceDiv, Int.reduceBEq, rules2, rulesX, rowsX]
    cases h
    exact ⟨⟨rfl, trivial⟩, rfl⟩
  · rw [ite_f hb1] at h
    try simp only [hb1, Nat.reduceBEq, Nat.reduceMul, Nat.reduceAdd, Nat.reduceDiv, Int.reduceBEq, rules2, rulesX, rowsX]
    refine w_laws_eqIntS_1 _ _ _ _ _ h _ ?_
    try simp only [hb1, Nat.reduceBEq, Nat.reduceMul, Nat.reduceAdd, Nat.reduceDiv, Int.reduceBEq, rules2, rulesX, rowsX, List.map_nil]
/- 27: laws_eqAccount -/
def c_laws_eqAccount : ACode := (.seq (.reg [(none, .box 2 (S 0)), (none, .box 3 (S 1)), (none, .mv 4 (KB false))]) (.seq (.seq (.reg [(none, .faddr 5 (S 2) 0), (none, .load 6 (S 5) false 1), (none, .faddr 7 (S 3) 0), (none, .load 8 (S 7) false 1), (none, .call 9 20 [(S 6), (S 8)]), (none, .un 10 .not (S 9))]) (.cond (S 10) (.seq (.reg [(none, .mv 4 (KB false))]) .ret) .skip)) (.seq (.seq (.reg [(none, .faddr 11 (S 2) 1), (none, .load 12 (S 11) false 1), (none, .faddr 13 (S 3) 1), (none, .load 14 (S 13) false 1), (none, .call 15 20 [(S 12), (S 14)]), (none, .un 16 .not (S 15))]) (.cond (S 16) (.seq (.reg [(none, .mv 4 (KB false))]) .ret) .skip)) (.seq (.reg [(none, .mv 4 (KB true))]) .ret))))
theorem e_laws_eqAccount : entry Try.prog 27 = some (c_laws_eqAccount.strip, [4], 17) := by kernel_rfl
theorem w_laws_eqAccount (a0 : XAccount) (a1 : XAccount) (r : Bool) (h : f_laws_eqAccount a0 a1 = some r) : FC Try.prog 27 [.ag (XAccount.row a0), .ag (XAccount.row a1)] [.sc (.v (.bool r))] := by
  unfold f_laws_eqAccount at h
  refine FC_go (σ := ⟨[(0, va [aL (List.map rI a0.Waits), aL (List.map rI a0.Calls)]), (1, va [aL (List.map rI a1.Waits), aL (List.map rI a1.Calls)])], [], []⟩) mixed e_laws_eqAccount rfl rfl ?_
  simp only [c_laws_eqAccount]
  try simp only [Nat.reduceBEq, Nat.reduceMul, Nat.reduceAdd, Nat.reduceDiv, Int.reduceBEq, rules2, rulesX, rowsX]
  refine go_bx rfl rfl rfl ?_
  try simp only [Nat.reduceBEq, Nat.reduceMul, Nat.reduceAdd, Nat.reduceDiv, Int.reduceBEq, rules2, rulesX, rowsX]
  refine go_bx rfl rfl rfl ?_
  obtain ⟨r1, hr1, h⟩ := ob h
  try simp only [Nat.reduceBEq, Nat.reduceMul, Nat.reduceAdd, Nat.reduceDiv, Int.reduceBEq, rules2, rulesX, rowsX]
  refine go_callI (w_laws_eqIntS _ _ _ hr1) rfl rfl (Nat.le_of_ble_eq_true rfl) ?_
  rcases Bool.eq_false_or_eq_true r1 with hb2 | hb2
  · rw [ite_t hb2] at h
    obtain ⟨r3, hr3, h⟩ := ob h
    try simp only [hb2, Nat.reduceBEq, Nat.reduceMul, Nat.reduceAdd, Nat.reduceDiv, Int.reduceBEq, rules2, rulesX, rowsX]
    refine go_callI (w_laws_eqIntS _ _ _ hr3) rfl rfl (Nat.le_of_ble_eq_true rfl) ?_
    rcases Bool.eq_false_or_eq_true r3 with hb4 | hb4
    · rw [ite_t hb4] at h
      try simp only [hb2, hb4, Nat.reduceBEq, Nat.reduceMul, Nat.reduceAdd, Nat.reduceDiv, Int.reduceBEq, rules2, rulesX, rowsX]
      cases h
      exact ⟨⟨rfl, trivial⟩, rfl⟩
    · rw [ite_f hb4] at h
      try simp only [hb2, hb4, Nat.reduceBEq, Nat.reduceMul, Nat.reduceAdd, Nat.reduceDiv, Int.reduceBEq, rules2, rulesX, rowsX]
      cases h
      exact ⟨⟨rfl, trivial⟩, rfl⟩
  · rw [ite_f hb2] at h
    try simp only [hb2, Nat.reduceBEq, Nat.reduceMul, Nat.reduceAdd, Nat.reduceDiv, Int.reduceBEq, rules2, rulesX, rowsX]
    cases h
    exact ⟨⟨rfl, trivial⟩, rfl⟩
/- 70: laws_markIntS -/
def c_laws_markIntS_1 : ACode := .seq (.reg [(none, .keep [0, 1, 5] [] [1099511627776])]) (.seq (.seq (.reg [(none, .mv 6 (S 5)), (none, .mv 7 (S 0)), (none, .len 8 (S 7)), (none, .bin 9 .lss (S 6) (S 8))]) (.cond (S 9) .skip (.exit 0))) (.seq (.block 1 (.seq (.reg [(none, .mv 12 (S 0)), (none, .mv 13 (S 5)), (none, .mv 14 (S 1)), (none, .iaddr 15 (S 12) (S 13) 1), (none, .store (S 15) (S 14) 1)]) (.reg [(none, .mv 16 (S 1)), (none, .bin 17 .add (S 16) (K 1)), (none, .mv 1 (S 17))]))) (.reg [(none, .mv 10 (S 5)), (none, .bin 11 .add (S 10) (K 1)), (none, .mv 5 (S 11))])))
def c_laws_markIntS_n1 : ACode := (.seq (.reg [(none, .mv 18 (S 1)), (none, .mv 4 (S 18))]) .ret)
def c_laws_markIntS : ACode := (.seq (.reg [(none, .mv 4 (K 0))]) (.seq (.seq (.reg [(none, .mv 5 (K 0))]) (.block 0 (.loop c_laws_markIntS_1))) c_laws_markIntS_n1))
theorem w_laws_markIntS_1 : ∀ (n : Nat) (v1 : Int) (v2 : Int) (v3 : List Int) (r : Int × List Int), f_laws_markIntS_1 n v1 v2 v3 = some r → ∀ σ : St, σ.kept [0, 1, 5] [] [1099511627776] = ⟨[(0, vc (.own 1099511627776)), (1, vc (aI v1)), (5, vc (aI v2))], [], [(1099511627776, 1, List.map rI v3)]⟩ → go Try.prog (.code (.loop c_laws_markIntS_1) :: [.blk 0, .code c_laws_markIntS_n1]) (RetX [4] (.int .i64 r.1) [(1, List.map rI r.2)] [(0, 0)]) .normal (some σ) := by
  intro n
  induction n with
  | zero => intro _ _ _ r h; cases h
  | succ n ih =>
    intro v1 v2 v3 r h σ hσ
    rw [f_laws_markIntS_1] at h
    refine go_round ?_
    rcases Bool.eq_false_or_eq_true (decide (v2 < (v3.length : Int))) with hb4 | hb4
    · rw [ite_t hb4] at h
      obtain ⟨x5, hx5, h⟩ := ob h
      have hx5n := ix_get hx5
      try simp only [hσ, hb4, hx5, c_laws_markIntS_1, Nat.reduceBEq, Nat.reduceMul, Nat.reduceAdd, Nat.reduceDiv, Int.reduceBEq, rules2, rulesX, rowsX]
      refine go_stp (y := v1) rfl rfl hx5n rfl rfl rfl ?_
      try simp only [hb4, hx5, Nat.reduceBEq, Nat.reduceMul, Nat.reduceAdd, Nat.reduceDiv, Int.reduceBEq, rules2, rulesX, rowsX]
      refine ih _ _ _ _ h _ ?_
      try simp only [hb4, hx5, Nat.reduceBEq, Nat.reduceMul, Nat.reduceAdd, Nat.reduceDiv, Int.reduceBEq, rules2, rulesX, rowsX, List.map_nil]
    · rw [ite_f hb4] at h
      try simp only [hσ, hb4, c_laws_markIntS_1, c_laws_markIntS_n1, Nat.reduceBEq, Nat.reduceMul, Nat.reduceAdd, Nat.reduceDiv, Int.reduceBEq, rules2, rulesX, rowsX]
      cases h
      exact ⟨⟨rfl, trivial⟩, ⟨⟨⟨_, rfl, rfl⟩, rfl⟩, trivial⟩⟩
theorem e_laws_markIntS : entry Try.prog 70 = some (c_laws_markIntS.strip, [4], 19) := by kernel_rfl
theorem l_laws_markIntS_1 : ∀ (n : Nat) (v1 : Int) (v2 : Int) (v3 : List Int) (r : Int × List Int), f_laws_markIntS_1 n v1 v2 v3 = some r → r.2.length = v3.length := by
  intro n
  induction n with
  | zero => intro _ _ _ r h; cases h
  | succ n ih =>
    intro v1 v2 v3 r h
    rw [f_laws_markIntS_1] at h
    rcases Bool.eq_false_or_eq_true (decide (v2 < (v3.length : Int))) with hb4 | hb4
    · rw [ite_t hb4] at h
      obtain ⟨x5, hx5, h⟩ := ob h
      have hl := ih _ _ _ _ h
      try simp only [List.length_set] at hl
      omega
    · rw [ite_f hb4] at h
      cases h
      all_goals (try dsimp only); first | done | omega | (simp only [List.length_set] at *; omega) | simp_all
theorem l_laws_markIntS (a0 : List Int) (a1 : Int) (r : Int × List Int) (h : f_laws_markIntS a0 a1 = some r) : r.2.length = a0.length := by
  unfold f_laws_markIntS at h
  have hl := l_laws_markIntS_1 _ _ _ _ _ h
  try simp only [List.length_set] at hl
  omega
theorem w_laws_markIntS (a0 : List Int) (a1 : Int) (r : Int × List Int) (h : f_laws_markIntS a0 a1 = some r) : FCx Try.prog 70 [.sc (.r 0), .sc (.d (.int .i64 a1))] [(1, List.map rI a0)] [(1, List.map rI r.2)] (.int .i64 r.1) := by
  unfold f_laws_markIntS at h
  refine FCx_go (ps := [(0, 0)]) (σ := ⟨[(0, vc (.own 1099511627776)), (1, vc (aI a1))], [], [(1099511627776, 1, List.map rI a0)]⟩) mixed e_laws_markIntS rfl rfl rfl (flatR_cons flatR_nil) rfl ?_
  simp only [c_laws_markIntS]
  try simp only [Nat.reduceBEq, Nat.reduceMul, Nat.reduceAdd, Nat.reduceDiv, Int.reduceBEq, rules2, rulesX, rowsX]
  refine w_laws_markIntS_1 _ _ _ _ _ h _ ?_
  try simp only [Nat.reduceBEq, Nat.reduceMul, Nat.reduceAdd, Nat.reduceDiv, Int.reduceBEq, rules2, rulesX, rowsX, List.map_nil]
/- 51: laws_markAccount -/
def c_laws_markAccount : ACode := (.seq (.reg [(none, .box 2 (S 0)), (none, .mv 4 (K 0))]) (.seq (.reg [(none, .faddr 5 (S 2) 0), (none, .load 6 (S 5) false 1), (none, .mv 7 (S 1)), (none, .call 8 70 [(S 6), (S 7)]), (none, .mv 1 (S 8))]) (.seq (.reg [(none, .faddr 9 (S 2) 1), (none, .load 10 (S 9) false 1), (none, .mv 11 (S 1)), (none, .call 12 70 [(S 10), (S 11)]), (none, .mv 1 (S 12))]) (.seq (.reg [(none, .mv 13 (S 1)), (none, .mv 4 (S 13))]) .ret))))
theorem e_laws_markAccount : entry Try.prog 51 = some (c_laws_markAccount.strip, [4], 14) := by kernel_rfl
theorem l_laws_markAccount (a0 : XAccount) (a1 : Int) (r : Int × List Int × List Int) (h : f_laws_markAccount a0 a1 = some r) : r.2.1.length = a0.Waits.length ∧ r.2.2.length = a0.Calls.length := by
  unfold f_laws_markAccount at h
  obtain ⟨r1, hr1, h⟩ := ob h
  have lrr1 := (l_laws_markIntS _ _ _ hr1)
  obtain ⟨r2, hr2, h⟩ := ob h
  have lrr2 := (l_laws_markIntS _ _ _ hr2)
  cases h
  all_goals (try dsimp only); first | done | omega | (simp only [List.length_set] at *; omega) | simp_all
theorem w_laws_markAccount (a0 : XAccount) (a1 : Int) (r : Int × List Int × List Int) (h : f_laws_markAccount a0 a1 = some r) : FCx Try.prog 51 [.ag [.r 0, .r 1], .sc (.d (.int .i64 a1))] [(1, List.map rI a0.Waits), (1, List.map rI a0.Calls)] [(1, List.map rI r.2.1), (1, List.map rI r.2.2)] (.int .i64 r.1) := by
  unfold f_laws_markAccount at h
  refine FCx_go (ps := [(0, 0), (0, 1)]) (σ := ⟨[(0, va [.own 1099511627776, .own 1099511627777]), (1, vc (aI a1))], [], [(1099511627776, 1, List.map rI a0.Waits), (1099511627777, 1, List.map rI a0.Calls)]⟩) mixed e_laws_markAccount rfl rfl rfl (flatR_cons (flatR_cons flatR_nil)) rfl ?_
  simp only [c_laws_markAccount]
  try simp only [Nat.reduceBEq, Nat.reduceMul, Nat.reduceAdd, Nat.reduceDiv, Int.reduceBEq, rules2, rulesX, rowsX]
  refine go_bx rfl rfl rfl ?_
  obtain ⟨r1, hr1, h⟩ := ob h
  try simp only [Nat.reduceBEq, Nat.reduceMul, Nat.reduceAdd, Nat.reduceDiv, Int.reduceBEq, rules2, rulesX, rowsX]
  have lrr1 := (l_laws_markIntS _ _ _ hr1)
  refine go_callx (ids := [1099511627776]) (w_laws_markIntS _ _ _ hr1) rfl rfl rfl (flatR_cons flatR_nil) (sameLen_cons (l_laws_markIntS _ _ _ hr1) sameLen_nil) ?_
  obtain ⟨r2, hr2, h⟩ := ob h
  try simp only [Nat.reduceBEq, Nat.reduceMul, Nat.reduceAdd, Nat.reduceDiv, Int.reduceBEq, rules2, rulesX, rowsX]
  have lrr2 := (l_laws_markIntS _ _ _ hr2)
  refine go_callx (ids := [1099511627777]) (w_laws_markIntS _ _ _ hr2) rfl rfl rfl (flatR_cons flatR_nil) (sameLen_cons (l_laws_markIntS _ _ _ hr2) sameLen_nil) ?_
  try simp only [Nat.reduceBEq, Nat.reduceMul, Nat.reduceAdd, Nat.reduceDiv, Int.reduceBEq, rules2, rulesX, rowsX]
  cases h
  exact ⟨⟨rfl, trivial⟩, ⟨⟨⟨_, rfl, rfl⟩, rfl⟩, ⟨⟨⟨_, rfl, rfl⟩, rfl⟩, trivial⟩⟩⟩
/- 72: laws_heldIntS -/
def c_laws_heldIntS_1 : ACode := .seq (.reg [(none, .keep [0, 1, 5] [] [])]) (.seq (.seq (.reg [(none, .mv 6 (S 5)), (none, .mv 7 (S 0)), (none, .len 8 (S 7)), (none, .bin 9 .lss (S 6) (S 8))]) (.cond (S 9) .skip (.exit 0))) (.seq (.block 1 (.seq (.seq (.reg [(none, .mv 12 (S 0)), (none, .mv 13 (S 5)), (none, .iaddr 14 (S 12) (S 13) 1), (none, .load 15 (S 14) false 1), (none, .mv 16 (S 1)), (none, .bin 17 .neq (S 15) (S 16))]) (.cond (S 17) (.seq (.reg [(none, .mv 4 (K (-1)))]) .ret) .skip)) (.reg [(none, .mv 18 (S 1)), (none, .bin 19 .add (S 18) (K 1)), (none, .mv 1 (S 19))]))) (.reg [(none, .mv 10 (S 5)), (none, .bin 11 .add (S 10) (K 1)), (none, .mv 5 (S 11))])))
def c_laws_heldIntS_n1 : ACode := (.seq (.reg [(none, .mv 20 (S 1)), (none, .mv 4 (S 20))]) .ret)
def c_laws_heldIntS : ACode := (.seq (.reg [(none, .mv 4 (K 0))]) (.seq (.seq (.reg [(none, .mv 5 (K 0))]) (.block 0 (.loop c_laws_heldIntS_1))) c_laws_heldIntS_n1))
theorem w_laws_heldIntS_1 (a0 : List Int) : ∀ (n : Nat) (v1 : Int) (v2 : Int) (r : Int), f_laws_heldIntS_1 a0 n v1 v2 = some r → ∀ σ : St, σ.kept [0, 1, 5] [] [] = ⟨[(0, vc (aL (List.map rI a0))), (1, vc (aI v1)), (5, vc (aI v2))], [], []⟩ → go Try.prog (.code (.loop c_laws_heldIntS_1) :: [.blk 0, .code c_laws_heldIntS_n1]) (Ret [4] [.sc (.v (.int .i64 r))]) .normal (some σ) := by
  intro n
  induction n with
  | zero => intro _ _ r h; cases h
  | succ n ih =>
    intro v1 v2 r h σ hσ
    rw [f_laws_heldIntS_1] at h
    refine go_round ?_
    rcases Bool.eq_false_or_eq_true (decide (v2 < (a0.length : Int))) with hb3 | hb3
    · rw [ite_t hb3] at h
      obtain ⟨x4, hx4, h⟩ := ob h
      rcases Bool.eq_false_or_eq_true (x4 != v1) with hb5 | hb5
      · rw [ite_t hb5] at h
        try simp only [hσ, hb3, hx4, hb5, c_laws_heldIntS_1, Nat.reduceBEq, Nat.reduceMul, Nat.reduceAdd, Nat.reduceDiv, Int.reduceBEq, rules2, rulesX, rowsX]
        cases h
        exact ⟨⟨rfl, trivial⟩, rfl⟩
      · rw [ite_f hb5] at h
        try simp only [hσ, hb3, hx4, hb5, c_laws_heldIntS_1, Nat.reduceBEq, Nat.reduceMul, Nat.reduceAdd, Nat.reduceDiv, Int.reduceBEq, rules2, rulesX, rowsX]
        refine ih _ _ _ h _ ?_
        try simp only [hb3, hx4, hb5, Nat.reduceBEq, Nat.reduceMul, Nat.reduceAdd, Nat.reduceDiv, Int.reduceBEq, rules2, rulesX, rowsX, List.map_nil]
    · rw [ite_f hb3] at h
      try simp only [hσ, hb3, c_laws_heldIntS_1, c_laws_heldIntS_n1, Nat.reduceBEq, Nat.reduceMul, Nat.reduceAdd, Nat.reduceDiv, Int.reduceBEq, rules2, rulesX, rowsX]
      cases h
      exact ⟨⟨rfl, trivial⟩, rfl⟩
theorem e_laws_heldIntS : entry Try.prog 72 = some (c_laws_heldIntS.strip, [4], 21) := by kernel_rfl
theorem w_laws_heldIntS (a0 : List Int) (a1 : Int) (r : Int) (h : f_laws_heldIntS a0 a1 = some r) : FC Try.prog 72 [.sc (.sl (List.map rI a0)), .sc (.int .i64 a1)] [.sc (.v (.int .i64 r))] := by
  unfold f_laws_heldIntS at h
  refine FC_go (σ := ⟨[(0, vc (aL (List.map rI a0))), (1, vc (aI a1))], [], []⟩) mixed e_laws_heldIntS rfl rfl ?_
  simp only [c_laws_heldIntS]
  try simp only [Nat.reduceBEq, Nat.reduceMul, Nat.reduceAdd, Nat.reduceDiv, Int.reduceBEq, rules2, rulesX, rowsX]
  refine w_laws_heldIntS_1 _ _ _ _ _ h _ ?_
  try simp only [Nat.reduceBEq, Nat.reduceMul, Nat.reduceAdd, Nat.reduceDiv, Int.reduceBEq, rules2, rulesX, rowsX, List.map_nil]
/- 52: laws_heldAccount -/
def c_laws_heldAccount : ACode := (.seq (.reg [(none, .box 2 (S 0)), (none, .mv 4 (K 0))]) (.seq (.reg [(none, .faddr 5 (S 2) 0), (none, .load 6 (S 5) false 1), (none, .mv 7 (S 1)), (none, .call 8 72 [(S 6), (S 7)]), (none, .mv 1 (S 8))]) (.seq (.seq (.reg [(none, .mv 9 (S 1)), (none, .bin 10 .lss (S 9) (K 0))]) (.cond (S 10) (.seq (.reg [(none, .mv 4 (K (-1)))]) .ret) .skip)) (.seq (.reg [(none, .faddr 11 (S 2) 1), (none, .load 12 (S 11) false 1), (none, .mv 13 (S 1)), (none, .call 14 72 [(S 12), (S 13)]), (none, .mv 1 (S 14))]) (.seq (.seq (.reg [(none, .mv 15 (S 1)), (none, .bin 16 .lss (S 15) (K 0))]) (.cond (S 16) (.seq (.reg [(none, .mv 4 (K (-1)))]) .ret) .skip)) (.seq (.reg [(none, .mv 17 (S 1)), (none, .mv 4 (S 17))]) .ret))))))
theorem e_laws_heldAccount : entry Try.prog 52 = some (c_laws_heldAccount.strip, [4], 18) := by kernel_rfl
theorem w_laws_heldAccount (a0 : XAccount) (a1 : Int) (r : Int) (h : f_laws_heldAccount a0 a1 = some r) : FC Try.prog 52 [.ag (XAccount.row a0), .sc (.int .i64 a1)] [.sc (.v (.int .i64 r))] := by
  unfold f_laws_heldAccount at h
  refine FC_go (σ := ⟨[(0, va [aL (List.map rI a0.Waits), aL (List.map rI a0.Calls)]), (1, vc (aI a1))], [], []⟩) mixed e_laws_heldAccount rfl rfl ?_
  simp only [c_laws_heldAccount]
  try simp only [Nat.reduceBEq, Nat.reduceMul, Nat.reduceAdd, Nat.reduceDiv, Int.reduceBEq, rules2, rulesX, rowsX]
  refine go_bx rfl rfl rfl ?_
  obtain ⟨r1, hr1, h⟩ := ob h
  try simp only [Nat.reduceBEq, Nat.reduceMul, Nat.reduceAdd, Nat.reduceDiv, Int.reduceBEq, rules2, rulesX, rowsX]
  refine go_callI (w_laws_heldIntS _ _ _ hr1) rfl rfl (Nat.le_of_ble_eq_true rfl) ?_
  rcases Bool.eq_false_or_eq_true (decide (r1 < (0 : Int))) with hb2 | hb2
  · rw [ite_t hb2] at h
    try simp only [hb2, Nat.reduceBEq, Nat.reduceMul, Nat.reduceAdd, Nat.reduceDiv, Int.reduceBEq, rules2, rulesX, rowsX]
    cases h
    exact ⟨⟨rfl, trivial⟩, rfl⟩
  · rw [ite_f hb2] at h
    obtain ⟨r3, hr3, h⟩ := ob h
    try simp only [hb2, Nat.reduceBEq, Nat.reduceMul, Nat.reduceAdd, Nat.reduceDiv, Int.reduceBEq, rules2, rulesX, rowsX]
    refine go_callI (w_laws_heldIntS _ _ _ hr3) rfl rfl (Nat.le_of_ble_eq_true rfl) ?_
    rcases Bool.eq_false_or_eq_true (decide (r3 < (0 : Int))) with hb4 | hb4
    · rw [ite_t hb4] at h
      try simp only [hb2, hb4, Nat.reduceBEq, Nat.reduceMul, Nat.reduceAdd, Nat.reduceDiv, Int.reduceBEq, rules2, rulesX, rowsX]
      cases h
      exact ⟨⟨rfl, trivial⟩, rfl⟩
    · rw [ite_f hb4] at h
      try simp only [hb2, hb4, Nat.reduceBEq, Nat.reduceMul, Nat.reduceAdd, Nat.reduceDiv, Int.reduceBEq, rules2, rulesX, rowsX]
      cases h
      exact ⟨⟨rfl, trivial⟩, rfl⟩
/- 13: laws_FnExactAddAccounts -/
def c_laws_FnExactAddAccounts : ACode := (.seq (.reg [(none, .box 2 (S 0)), (none, .box 3 (S 1)), (none, .mv 4 (KB false))]) (.seq (.reg [(none, .mv 5 (K 1048576))]) (.seq (.reg [(none, .load 17 (S 2) true 2), (none, .mv 18 (S 5)), (none, .call 19 23 [(S 17), (S 18)]), (none, .mv 5 (S 19))]) (.seq (.seq (.reg [(none, .mv 20 (S 5)), (none, .bin 21 .lss (S 20) (K 0))]) (.cond (S 21) (.seq (.reg [(none, .mv 4 (KB true))]) .ret) .skip)) (.seq (.reg [(none, .load 22 (S 3) true 2), (none, .mv 23 (S 5)), (none, .call 24 23 [(S 22), (S 23)]), (none, .mv 5 (S 24))]) (.seq (.seq (.reg [(none, .mv 25 (S 5)), (none, .bin 26 .lss (S 25) (K 0))]) (.cond (S 26) (.seq (.reg [(none, .mv 4 (KB true))]) .ret) .skip)) (.seq (.drw [(some [6], (none, .load 28 (S 2) true 2)), (some [6], (none, .call 29 25 [(S 28)])), (some [29, 6], (none, .load 30 (S 3) true 2)), (some [6], (none, .call 31 25 [(S 30)])), (some [6], (none, .call 32 49 [(S 29), (S 31)])), (some [6], (none, .mv 27 (S 32))), (some [6], (none, .extr 33 (S 27) 0)), (some [6], (none, .extr 34 (S 27) 1)), (some [29, 31, 32], (none, .alloc 6 [.nil, .nil])), (none, (none, .store (S 6) (S 33) 2)), (some [], (none, .mv 7 (S 34)))]) (.seq (.reg [(none, .load 35 (S 2) true 2), (none, .call 36 25 [(S 35)]), (none, .alloc 8 [.nil, .nil]), (none, .store (S 8) (S 36) 2)]) (.seq (.reg [(none, .load 37 (S 3) true 2), (none, .call 38 25 [(S 37)]), (none, .alloc 9 [.nil, .nil]), (none, .store (S 9) (S 38) 2)]) (.seq (.reg [(none, .load 40 (S 8) true 2), (none, .load 41 (S 9) true 2), (none, .call 42 50 [(S 40), (S 41)]), (none, .mv 39 (S 42)), (none, .extr 43 (S 39) 0), (none, .extr 44 (S 39) 1), (none, .alloc 10 [.nil, .nil]), (none, .store (S 10) (S 43) 2), (none, .mv 11 (S 44))]) (.seq (.seq (.reg [(none, .load 45 (S 10) true 2), (none, .load 46 (S 6) true 2), (none, .call 47 27 [(S 45), (S 46)]), (none, .un 48 .not (S 47)), (none, .mv 49 (S 48)), (some (49, false), .mv 50 (S 11)), (some (49, false), .mv 51 (S 7)), (some (49, false), .beq 52 true (S 50) (S 51)), (none, .pick 53 (S 49) (KB true) (S 52))]) (.cond (S 53) (.seq (.reg [(none, .mv 4 (KB false))]) .ret) .skip)) (.seq (.seq (.drw [(some [56], (none, .load 54 (S 8) true 2)), (some [], (none, .load 55 (S 2) true 2)), (some [], (none, .call 56 25 [(S 55)])), (some [], (none, .call 57 27 [(S 54), (S 56)])), (some [], (none, .un 58 .not (S 57)))]) (.cond (S 58) (.seq (.reg [(none, .mv 4 (KB false))]) .ret) .skip)) (.seq (.seq (.drw [(some [61], (none, .load 59 (S 9) true 2)), (some [], (none, .load 60 (S 3) true 2)), (some [], (none, .call 61 25 [(S 60)])), (some [], (none, .call 62 27 [(S 59), (S 61)])), (some [], (none, .un 63 .not (S 62)))]) (.cond (S 63) (.seq (.reg [(none, .mv 4 (KB false))]) .ret) .skip)) (.seq (.reg [(none, .mv 12 (K 1))]) (.seq (.reg [(none, .load 64 (S 8) true 2), (none, .mv 65 (S 12)), (none, .call 66 51 [(S 64), (S 65)]), (none, .mv 12 (S 66))]) (.seq (.reg [(none, .load 67 (S 9) true 2), (none, .mv 68 (S 12)), (none, .call 69 51 [(S 67), (S 68)]), (none, .mv 12 (S 69))]) (.seq (.seq (.reg [(none, .mv 70 (S 12)), (none, .bin 71 .lss (S 70) (K 0)), (none, .mv 72 (S 71)), (some (72, false), .load 73 (S 10) true 2), (some (72, false), .load 74 (S 6) true 2), (some (72, false), .call 75 27 [(S 73), (S 74)]), (some (72, false), .un 76 .not (S 75)), (none, .pick 77 (S 72) (KB true) (S 76)), (none, .mv 78 (S 77)), (some (78, false), .mv 79 (S 11)), (some (78, false), .mv 80 (S 7)), (some (78, false), .beq 81 true (S 79) (S 80)), (none, .pick 82 (S 78) (KB true) (S 81))]) (.cond (S 82) (.seq (.reg [(none, .mv 4 (KB false))]) .ret) .skip)) (.seq (.reg [(none, .mv 13 (K 1))]) (.seq (.reg [(none, .load 83 (S 10) true 2), (none, .mv 84 (S 13)), (none, .call 85 51 [(S 83), (S 84)]), (none, .mv 13 (S 85))]) (.seq (.reg [(none, .mv 14 (K 1))]) (.seq (.reg [(none, .load 86 (S 10) true 2), (none, .mv 87 (S 14)), (none, .call 88 52 [(S 86), (S 87)]), (none, .mv 14 (S 88))]) (.seq (.seq (.reg [(none, .mv 89 (S 14)), (none, .bin 90 .lss (S 89) (K 0))]) (.cond (S 90) (.seq (.reg [(none, .mv 4 (KB false))]) .ret) .skip)) (.seq (.seq (.reg [(none, .mv 91 (S 14)), (none, .mv 92 (S 13)), (none, .bin 93 .neq (S 91) (S 92))]) (.cond (S 93) (.seq (.reg [(none, .mv 4 (KB false))]) .ret) .skip)) (.seq (.drw [(some [15], (none, .load 95 (S 2) true 2)), (some [15], (none, .call 96 25 [(S 95)])), (some [96, 15], (none, .load 97 (S 3) true 2)), (some [15], (none, .call 98 25 [(S 97)])), (some [15], (none, .call 99 50 [(S 96), (S 98)])), (some [15], (none, .mv 94 (S 99))), (some [15], (none, .extr 100 (S 94) 0)), (some [15], (none, .extr 101 (S 94) 1)), (some [96, 98, 99], (none, .alloc 15 [.nil, .nil])), (none, (none, .store (S 15) (S 100) 2)), (some [], (none, .mv 16 (S 101)))]) (.seq (.seq (.reg [(none, .load 102 (S 15) true 2), (none, .load 103 (S 6) true 2), (none, .call 104 27 [(S 102), (S 103)]), (none, .un 105 .not (S 104)), (none, .mv 106 (S 105)), (some (106, false), .mv 107 (S 16)), (some (106, false), .mv 108 (S 7)), (some (106, false), .beq 109 true (S 107) (S 108)), (none, .pick 110 (S 106) (KB true) (S 109))]) (.cond (S 110) (.seq (.reg [(none, .mv 4 (KB false))]) .ret) .skip)) (.seq (.reg [(none, .mv 14 (K 1))]) (.seq (.reg [(none, .load 111 (S 10) true 2), (none, .mv 112 (S 14)), (none, .call 113 52 [(S 111), (S 112)]), (none, .mv 14 (S 113))]) (.seq (.seq (.reg [(none, .mv 114 (S 14)), (none, .bin 115 .lss (S 114) (K 0))]) (.cond (S 115) (.seq (.reg [(none, .mv 4 (KB false))]) .ret) .skip)) (.seq (.seq (.reg [(none, .mv 116 (S 14)), (none, .mv 117 (S 13)), (none, .bin 118 .neq (S 116) (S 117))]) (.cond (S 118) (.seq (.reg [(none, .mv 4 (KB false))]) .ret) .skip)) (.seq (.reg [(none, .mv 4 (KB true))]) .ret))))))))))))))))))))))))))))))
theorem e_laws_FnExactAddAccounts : entry Try.prog 13 = some (c_laws_FnExactAddAccounts.strip, [4], 119) := by kernel_rfl
theorem w_laws_FnExactAddAccounts (a0 : XAccount) (a1 : XAccount) (r : Bool) (h : f_laws_FnExactAddAccounts a0 a1 = some r) : FC Try.prog 13 [.ag (XAccount.row a0), .ag (XAccount.row a1)] [.sc (.v (.bool r))] := by
  unfold f_laws_FnExactAddAccounts at h
  refine FC_go (σ := ⟨[(0, va [aL (List.map rI a0.Waits), aL (List.map rI a0.Calls)]), (1, va [aL (List.map rI a1.Waits), aL (List.map rI a1.Calls)])], [], []⟩) mixed e_laws_FnExactAddAccounts rfl rfl ?_
  simp only [c_laws_FnExactAddAccounts]
  try simp only [Nat.reduceBEq, Nat.reduceMul, Nat.reduceAdd, Nat.reduceDiv, Int.reduceBEq, rules2, rulesX, rowsX]
  refine go_bx rfl rfl rfl ?_
  try simp only [Nat.reduceBEq, Nat.reduceMul, Nat.reduceAdd, Nat.reduceDiv, Int.reduceBEq, rules2, rulesX, rowsX]
  refine go_bx rfl rfl rfl ?_
  obtain ⟨r1, hr1, h⟩ := ob h
  try simp only [Nat.reduceBEq, Nat.reduceMul, Nat.reduceAdd, Nat.reduceDiv, Int.reduceBEq, rules2, rulesX, rowsX]
  refine go_callI (w_laws_szAccount _ _ _ hr1) rfl rfl (Nat.le_of_ble_eq_true rfl) ?_
  rcases Bool.eq_false_or_eq_true (decide (r1 < (0 : Int))) with hb2 | hb2
  · rw [ite_t hb2] at h
    try simp only [hb2, Nat.reduceBEq, Nat.reduceMul, Nat.reduceAdd, Nat.reduceDiv, Int.reduceBEq, rules2, rulesX, rowsX]
    cases h
    exact ⟨⟨rfl, trivial⟩, rfl⟩
  · rw [ite_f hb2] at h
    obtain ⟨r3, hr3, h⟩ := ob h
    try simp only [hb2, Nat.reduceBEq, Nat.reduceMul, Nat.reduceAdd, Nat.reduceDiv, Int.reduceBEq, rules2, rulesX, rowsX]
    refine go_callI (w_laws_szAccount _ _ _ hr3) rfl rfl (Nat.le_of_ble_eq_true rfl) ?_
    rcases Bool.eq_false_or_eq_true (decide (r3 < (0 : Int))) with hb4 | hb4
    · rw [ite_t hb4] at h
      try simp only [hb2, hb4, Nat.reduceBEq, Nat.reduceMul, Nat.reduceAdd, Nat.reduceDiv, Int.reduceBEq, rules2, rulesX, rowsX]
      cases h
      exact ⟨⟨rfl, trivial⟩, rfl⟩
    · rw [ite_f hb4] at h
      try simp only [hb2, hb4, Nat.reduceBEq, Nat.reduceMul, Nat.reduceAdd, Nat.reduceDiv, Int.reduceBEq, rules2, rulesX, rowsX]
      refine go_fr_of rfl ?_
      obtain ⟨r5, hr5, h⟩ := ob h
      try simp only [hb2, hb4, Nat.reduceBEq, Nat.reduceMul, Nat.reduceAdd, Nat.reduceDiv, Int.reduceBEq, rules2, rulesX, rowsX]
      refine go_dcallI (w_laws_toAccount _ _ hr5) rfl rfl (Nat.le_of_ble_eq_true rfl) ?_
      obtain ⟨r6, hr6, h⟩ := ob h
      try simp only [hb2, hb4, Nat.reduceBEq, Nat.reduceMul, Nat.reduceAdd, Nat.reduceDiv, Int.reduceBEq, rules2, rulesX, rowsX]
      refine go_dcallI (w_laws_toAccount _ _ hr6) rfl rfl (Nat.le_of_ble_eq_true rfl) ?_
      obtain ⟨r7, hr7, h⟩ := ob h
      try simp only [hb2, hb4, Nat.reduceBEq, Nat.reduceMul, Nat.reduceAdd, Nat.reduceDiv, Int.reduceBEq, rules2, rulesX, rowsX]
      refine go_dcall (w_spec_AddAccounts _ _ _ hr7) (by first | rfl | kernel_rfl) (flat_l rfl ⟨flat_o, flat_o, rfl, trivial⟩) rfl (Nat.le_of_ble_eq_true rfl) ?_
      try simp only [hb2, hb4, Nat.reduceBEq, Nat.reduceMul, Nat.reduceAdd, Nat.reduceDiv, Int.reduceBEq, rules2, rulesX, rowsX]
      refine go_mkN (m := .box 6 [.nil, .nil]) rfl rfl (make_box rfl rfl) ?_
      try simp only [hb2, hb4, Nat.reduceBEq, Nat.reduceMul, Nat.reduceAdd, Nat.reduceDiv, Int.reduceBEq, rules2, rulesX, rowsX]
      refine go_fr_of rfl ?_
      obtain ⟨r8, hr8, h⟩ := ob h
      try simp only [hb2, hb4, Nat.reduceBEq, Nat.reduceMul, Nat.reduceAdd, Nat.reduceDiv, Int.reduceBEq, rules2, rulesX, rowsX]
      refine go_callI (w_laws_toAccount _ _ hr8) rfl rfl (Nat.le_of_ble_eq_true rfl) ?_
      try simp only [hb2, hb4, Nat.reduceBEq, Nat.reduceMul, Nat.reduceAdd, Nat.reduceDiv, Int.reduceBEq, rules2, rulesX, rowsX]
      refine go_al rfl rfl ?_
      obtain ⟨r9, hr9, h⟩ := ob h
      try simp only [hb2, hb4, Nat.reduceBEq, Nat.reduceMul, Nat.reduceAdd, Nat.reduceDiv, Int.reduceBEq, rules2, rulesX, rowsX]
      refine go_callI (w_laws_toAccount _ _ hr9) rfl rfl (Nat.le_of_ble_eq_true rfl) ?_
      try simp only [hb2, hb4, Nat.reduceBEq, Nat.reduceMul, Nat.reduceAdd, Nat.reduceDiv, Int.reduceBEq, rules2, rulesX, rowsX]
      refine go_al rfl rfl ?_
      obtain ⟨r10, hr10, h⟩ := ob h
      try simp only [hb2, hb4, Nat.reduceBEq, Nat.reduceMul, Nat.reduceAdd, Nat.reduceDiv, Int.reduceBEq, rules2, rulesX, rowsX]
      refine go_call (w_impl_AddAccounts _ _ _ hr10) rfl (flat_l rfl ⟨flat_o, flat_o, rfl, trivial⟩) rfl (Nat.le_of_ble_eq_true rfl) ?_
      try simp only [hb2, hb4, Nat.reduceBEq, Nat.reduceMul, Nat.reduceAdd, Nat.reduceDiv, Int.reduceBEq, rules2, rulesX, rowsX]
      refine go_al rfl rfl ?_
      obtain ⟨r11, hr11, h⟩ := ob h
      try simp only [hb2, hb4, Nat.reduceBEq, Nat.reduceMul, Nat.reduceAdd, Nat.reduceDiv, Int.reduceBEq, rules2, rulesX, rowsX]
      refine go_call (w_laws_eqAccount _ _ _ hr11) rfl (flat_of rfl) rfl (Nat.le_of_ble_eq_true rfl) ?_
      rcases Bool.eq_false_or_eq_true r11 with hb12 | hb12
      · rw [ite_t hb12] at h
        rcases Bool.eq_false_or_eq_true (r10.2 == r7.2) with hb13 | hb13
        · rw [ite_t hb13] at h
          try simp only [hb2, hb4, hb12, hb13, Nat.reduceBEq, Nat.reduceMul, Nat.reduceAdd, Nat.reduceDiv, Int.reduceBEq, rules2, rulesX, rowsX]
          refine go_fr_of rfl ?_
          obtain ⟨r14, hr14, h⟩ := ob h
          try simp only [hb2, hb4, hb12, hb13, Nat.reduceBEq, Nat.reduceMul, Nat.reduceAdd, Nat.reduceDiv, Int.reduceBEq, rules2, rulesX, rowsX]
          refine go_dcallI (w_laws_toAccount _ _ hr14) rfl rfl (Nat.le_of_ble_eq_true rfl) ?_
          obtain ⟨r15, hr15, h⟩ := ob h
          try simp only [hb2, hb4, hb12, hb13, Nat.reduceBEq, Nat.reduceMul, Nat.reduceAdd, Nat.reduceDiv, Int.reduceBEq, rules2, rulesX, rowsX]
          refine go_dcall (w_laws_eqAccount _ _ _ hr15) (by first | rfl | kernel_rfl) (flat_of rfl) rfl (Nat.le_of_ble_eq_true rfl) ?_
          rcases Bool.eq_false_or_eq_true r15 with hb16 | hb16
          · rw [ite_t hb16] at h
            try simp only [hb2, hb4, hb12, hb13, hb16, Nat.reduceBEq, Nat.reduceMul, Nat.reduceAdd, Nat.reduceDiv, Int.reduceBEq, rules2, rulesX, rowsX]
            refine go_fr_of rfl ?_
            obtain ⟨r17, hr17, h⟩ := ob h
            try simp only [hb2, hb4, hb12, hb13, hb16, Nat.reduceBEq, Nat.reduceMul, Nat.reduceAdd, Nat.reduceDiv, Int.reduceBEq, rules2, rulesX, rowsX]
            refine go_dcallI (w_laws_toAccount _ _ hr17) rfl rfl (Nat.le_of_ble_eq_true rfl) ?_
            obtain ⟨r18, hr18, h⟩ := ob h
            try simp only [hb2, hb4, hb12, hb13, hb16, Nat.reduceBEq, Nat.reduceMul, Nat.reduceAdd, Nat.reduceDiv, Int.reduceBEq, rules2, rulesX, rowsX]
            refine go_dcall (w_laws_eqAccount _ _ _ hr18) (by first | rfl | kernel_rfl) (flat_of rfl) rfl (Nat.le_of_ble_eq_true rfl) ?_
            rcases Bool.eq_false_or_eq_true r18 with hb19 | hb19
            · rw [ite_t hb19] at h
              obtain ⟨r20, hr20, h⟩ := ob h
              try simp only [hb2, hb4, hb12, hb13, hb16, hb19, Nat.reduceBEq, Nat.reduceMul, Nat.reduceAdd, Nat.reduceDiv, Int.reduceBEq, rules2, rulesX, rowsX]
              have lrr20 := (l_laws_markAccount _ _ _ hr20)
              refine go_callx (ids := [2304, 2305]) (w_laws_markAccount _ _ _ hr20) rfl rfl rfl (flatR_cons (flatR_cons flatR_nil)) (sameLen_cons (l_laws_markAccount _ _ _ hr20).1 (sameLen_cons (l_laws_markAccount _ _ _ hr20).2 sameLen_nil)) ?_
              obtain ⟨r21, hr21, h⟩ := ob h
              try simp only [hb2, hb4, hb12, hb13, hb16, hb19, Nat.reduceBEq, Nat.reduceMul, Nat.reduceAdd, Nat.reduceDiv, Int.reduceBEq, rules2, rulesX, rowsX]
              have lrr21 := (l_laws_markAccount _ _ _ hr21)
              refine go_callx (ids := [2432, 2433]) (w_laws_markAccount _ _ _ hr21) rfl rfl rfl (flatR_cons (flatR_cons flatR_nil)) (sameLen_cons (l_laws_markAccount _ _ _ hr21).1 (sameLen_cons (l_laws_markAccount _ _ _ hr21).2 sameLen_nil)) ?_
              rcases Bool.eq_false_or_eq_true (decide (r21.1 < (0 : Int))) with hb22 | hb22
              · rw [ite_t hb22] at h
                try simp only [hb2, hb4, hb12, hb13, hb16, hb19, hb22, Nat.reduceBEq, Nat.reduceMul, Nat.reduceAdd, Nat.reduceDiv, Int.reduceBEq, rules2, rulesX, rowsX]
                cases h
                exact ⟨⟨rfl, trivial⟩, rfl⟩
              · rw [ite_f hb22] at h
                obtain ⟨r23, hr23, h⟩ := ob h
                try simp only [hb2, hb4, hb12, hb13, hb16, hb19, hb22, Nat.reduceBEq, Nat.reduceMul, Nat.reduceAdd, Nat.reduceDiv, Int.reduceBEq, rules2, rulesX, rowsX]
                refine go_call (w_laws_eqAccount _ _ _ hr23) rfl (flat_of rfl) rfl (Nat.le_of_ble_eq_true rfl) ?_
                rcases Bool.eq_false_or_eq_true r23 with hb24 | hb24
                · rw [ite_t hb24] at h
                  obtain ⟨r25, hr25, h⟩ := ob h
                  try simp only [hb2, hb4, hb12, hb13, hb16, hb19, hb22, hb24, Nat.reduceBEq, Nat.reduceMul, Nat.reduceAdd, Nat.reduceDiv, Int.reduceBEq, rules2, rulesX, rowsX]
                  have lrr25 := (l_laws_markAccount _ _ _ hr25)
                  refine go_callx (ids := [2688, 2689]) (w_laws_markAccount _ _ _ hr25) rfl rfl rfl (flatR_cons (flatR_cons flatR_nil)) (sameLen_cons (l_laws_markAccount _ _ _ hr25).1 (sameLen_cons (l_laws_markAccount _ _ _ hr25).2 sameLen_nil)) ?_
                  obtain ⟨r26, hr26, h⟩ := ob h
                  try simp only [hb2, hb4, hb12, hb13, hb16, hb19, hb22, hb24, Nat.reduceBEq, Nat.reduceMul, Nat.reduceAdd, Nat.reduceDiv, Int.reduceBEq, rules2, rulesX, rowsX]
                  refine go_call (w_laws_heldAccount _ _ _ hr26) rfl (flat_of rfl) rfl (Nat.le_of_ble_eq_true rfl) ?_
                  rcases Bool.eq_false_or_eq_true (decide (r26 < (0 : Int))) with hb27 | hb27
                  · rw [ite_t hb27] at h
                    try simp only [hb2, hb4, hb12, hb13, hb16, hb19, hb22, hb24, hb27, Nat.reduceBEq, Nat.reduceMul, Nat.reduceAdd, Nat.reduceDiv, Int.reduceBEq, rules2, rulesX, rowsX]
                    cases h
                    exact ⟨⟨rfl, trivial⟩, rfl⟩
                  · rw [ite_f hb27] at h
                    rcases Bool.eq_false_or_eq_true (r26 != r25.1) with hb28 | hb28
                    · rw [ite_t hb28] at h
                      try simp only [hb2, hb4, hb12, hb13, hb16, hb19, hb22, hb24, hb27, hb28, Nat.reduceBEq, Nat.reduceMul, Nat.reduceAdd, Nat.reduceDiv, Int.reduceBEq, rules2, rulesX, rowsX]
                      cases h
                      exact ⟨⟨rfl, trivial⟩, rfl⟩
                    · rw [ite_f hb28] at h
                      try simp only [hb2, hb4, hb12, hb13, hb16, hb19, hb22, hb24, hb27, hb28, Nat.reduceBEq, Nat.reduceMul, Nat.reduceAdd, Nat.reduceDiv, Int.reduceBEq, rules2, rulesX, rowsX]
                      refine go_fr_of rfl ?_
                      obtain ⟨r29, hr29, h⟩ := ob h
                      try simp only [hb2, hb4, hb12, hb13, hb16, hb19, hb22, hb24, hb27, hb28, Nat.reduceBEq, Nat.reduceMul, Nat.reduceAdd, Nat.reduceDiv, Int.reduceBEq, rules2, rulesX, rowsX]
                      refine go_dcallI (w_laws_toAccount _ _ hr29) rfl rfl (Nat.le_of_ble_eq_true rfl) ?_
                      obtain ⟨r30, hr30, h⟩ := ob h
                      try simp only [hb2, hb4, hb12, hb13, hb16, hb19, hb22, hb24, hb27, hb28, Nat.reduceBEq, Nat.reduceMul, Nat.reduceAdd, Nat.reduceDiv, Int.reduceBEq, rules2, rulesX, rowsX]
                      refine go_dcallI (w_laws_toAccount _ _ hr30) rfl rfl (Nat.le_of_ble_eq_true rfl) ?_
                      obtain ⟨r31, hr31, h⟩ := ob h
                      try simp only [hb2, hb4, hb12, hb13, hb16, hb19, hb22, hb24, hb27, hb28, Nat.reduceBEq, Nat.reduceMul, Nat.reduceAdd, Nat.reduceDiv, Int.reduceBEq, rules2, rulesX, rowsX]
                      refine go_dcall (w_impl_AddAccounts _ _ _ hr31) (by first | rfl | kernel_rfl) (flat_l rfl ⟨flat_o, flat_o, rfl, trivial⟩) rfl (Nat.le_of_ble_eq_true rfl) ?_
                      try simp only [hb2, hb4, hb12, hb13, hb16, hb19, hb22, hb24, hb27, hb28, Nat.reduceBEq, Nat.reduceMul, Nat.reduceAdd, Nat.reduceDiv, Int.reduceBEq, rules2, rulesX, rowsX]
                      refine go_mkN (m := .box 15 [.nil, .nil]) rfl rfl (make_box rfl rfl) ?_
                      try simp only [hb2, hb4, hb12, hb13, hb16, hb19, hb22, hb24, hb27, hb28, Nat.reduceBEq, Nat.reduceMul, Nat.reduceAdd, Nat.reduceDiv, Int.reduceBEq, rules2, rulesX, rowsX]
                      refine go_fr_of rfl ?_
                      obtain ⟨r32, hr32, h⟩ := ob h
                      try simp only [hb2, hb4, hb12, hb13, hb16, hb19, hb22, hb24, hb27, hb28, Nat.reduceBEq, Nat.reduceMul, Nat.reduceAdd, Nat.reduceDiv, Int.reduceBEq, rules2, rulesX, rowsX]
                      refine go_call (w_laws_eqAccount _ _ _ hr32) rfl (flat_of rfl) rfl (Nat.le_of_ble_eq_true rfl) ?_
                      rcases Bool.eq_false_or_eq_true r32 with hb33 | hb33
                      · rw [ite_t hb33] at h
                        rcases Bool.eq_false_or_eq_true (r31.2 == r7.2) with hb34 | hb34
                        · rw [ite_t hb34] at h
                          obtain ⟨r35, hr35, h⟩ := ob h
                          try simp only [hb2, hb4, hb12, hb13, hb16, hb19, hb22, hb24, hb27, hb28, hb33, hb34, Nat.reduceBEq, Nat.reduceMul, Nat.reduceAdd, Nat.reduceDiv, Int.reduceBEq, rules2, rulesX, rowsX]
                          refine go_call (w_laws_heldAccount _ _ _ hr35) rfl (flat_of rfl) rfl (Nat.le_of_ble_eq_true rfl) ?_
                          rcases Bool.eq_false_or_eq_true (decide (r35 < (0 : Int))) with hb36 | hb36
                          · rw [ite_t hb36] at h
                            try simp only [hb2, hb4, hb12, hb13, hb16, hb19, hb22, hb24, hb27, hb28, hb33, hb34, hb36, Nat.reduceBEq, Nat.reduceMul, Nat.reduceAdd, Nat.reduceDiv, Int.reduceBEq, rules2, rulesX, rowsX]
                            cases h
                            exact ⟨⟨rfl, trivial⟩, rfl⟩
                          · rw [ite_f hb36] at h
                            rcases Bool.eq_false_or_eq_true (r35 != r25.1) with hb37 | hb37
                            · rw [ite_t hb37] at h
                              try simp only [hb2, hb4, hb12, hb13, hb16, hb19, hb22, hb24, hb27, hb28, hb33, hb34, hb36, hb37, Nat.reduceBEq, Nat.reduceMul, Nat.reduceAdd, Nat.reduceDiv, Int.reduceBEq, rules2, rulesX, rowsX]
                              cases h
                              exact ⟨⟨rfl, trivial⟩, rfl⟩
                            · rw [ite_f hb37] at h
                              try simp only [hb2, hb4, hb12, hb13, hb16, hb19, hb22, hb24, hb27, hb28, hb33, hb34, hb36, hb37, Nat.reduceBEq, Nat.reduceMul, Nat.reduceAdd, Nat.reduceDiv, Int.reduceBEq, rules2, rulesX, rowsX]
                              cases h
                              exact ⟨⟨rfl, trivial⟩, rfl⟩
                        · rw [ite_f hb34] at h
                          try simp only [hb2, hb4, hb12, hb13, hb16, hb19, hb22, hb24, hb27, hb28, hb33, hb34, Nat.reduceBEq, Nat.reduceMul, Nat.reduceAdd, Nat.reduceDiv, Int.reduceBEq, rules2, rulesX, rowsX]
                          cases h
                          exact ⟨⟨rfl, trivial⟩, rfl⟩
                      · rw [ite_f hb33] at h
                        try simp only [hb2, hb4, hb12, hb13, hb16, hb19, hb22, hb24, hb27, hb28, hb33, Nat.reduceBEq, Nat.reduceMul, Nat.reduceAdd, Nat.reduceDiv, Int.reduceBEq, rules2, rulesX, rowsX]
                        cases h
                        exact ⟨⟨rfl, trivial⟩, rfl⟩
                · rw [ite_f hb24] at h
                  try simp only [hb2, hb4, hb12, hb13, hb16, hb19, hb22, hb24, Nat.reduceBEq, Nat.reduceMul, Nat.reduceAdd, Nat.reduceDiv, Int.reduceBEq, rules2, rulesX, rowsX]
                  cases h
                  exact ⟨⟨rfl, trivial⟩, rfl⟩
            · rw [ite_f hb19] at h
              try simp only [hb2, hb4, hb12, hb13, hb16, hb19, Nat.reduceBEq, Nat.reduceMul, Nat.reduceAdd, Nat.reduceDiv, Int.reduceBEq, rules2, rulesX, rowsX]
              cases h
              exact ⟨⟨rfl, trivial⟩, rfl⟩
          · rw [ite_f hb16] at h
            try simp only [hb2, hb4, hb12, hb13, hb16, Nat.reduceBEq, Nat.reduceMul, Nat.reduceAdd, Nat.reduceDiv, Int.reduceBEq, rules2, rulesX, rowsX]
            cases h
            exact ⟨⟨rfl, trivial⟩, rfl⟩
        · rw [ite_f hb13] at h
          try simp only [hb2, hb4, hb12, hb13, Nat.reduceBEq, Nat.reduceMul, Nat.reduceAdd, Nat.reduceDiv, Int.reduceBEq, rules2, rulesX, rowsX]
          cases h
          exact ⟨⟨rfl, trivial⟩, rfl⟩
      · rw [ite_f hb12] at h
        try simp only [hb2, hb4, hb12, Nat.reduceBEq, Nat.reduceMul, Nat.reduceAdd, Nat.reduceDiv, Int.reduceBEq, rules2, rulesX, rowsX]
        cases h
        exact ⟨⟨rfl, trivial⟩, rfl⟩
end Go.Vi
