/-
  Walks: what the plain definitions compute is what the functions return. By program. No condition.
-/
import Derived.Test.YtldjoojbhbbhdaaNf
import Derived.Test.YtldjoojbhbbhdaaChecked
import Derived.KernelRfl
namespace Go.Vi
open Go.Proofs
set_option linter.unusedSimpArgs false
set_option linter.unusedVariables false
set_option maxRecDepth 4000
set_option maxHeartbeats 2000000
attribute [local irreducible] go AWP
theorem mixed : Try.prog.follows .mixedOrders = true := by kernel_rfl
/- 18: laws_szIntS -/
def c_laws_szIntS : ACode := (.seq (.reg [(none, .mv 4 (K 0))]) (.seq (.reg [(none, .mv 5 (S 1)), (none, .mv 6 (S 0)), (none, .len 7 (S 6)), (none, .bin 8 .sub (S 5) (S 7)), (none, .mv 1 (S 8))]) (.seq (.seq (.reg [(none, .mv 9 (S 1)), (none, .bin 10 .lss (S 9) (K 0))]) (.cond (S 10) (.seq (.reg [(none, .mv 4 (K (-1)))]) .ret) .skip)) (.seq (.reg [(none, .mv 11 (S 1)), (none, .mv 4 (S 11))]) .ret))))
theorem e_laws_szIntS : entry Try.prog 18 = some (c_laws_szIntS.strip, [4], 12) := by kernel_rfl
theorem w_laws_szIntS (a0 : List Int) (a1 : Int) (r : Int) (h : f_laws_szIntS a0 a1 = some r) : FC Try.prog 18 [.sc (.sl (List.map rI a0)), .sc (.int .i64 a1)] [.sc (.v (.int .i64 r))] := by
  unfold f_laws_szIntS at h
  refine FC_go (σ := ⟨[(0, vc (aL (List.map rI a0))), (1, vc (aI a1))], [], []⟩) mixed e_laws_szIntS rfl rfl ?_
  simp only [c_laws_szIntS]
  rcases Bool.eq_false_or_eq_true (decide ((IntKind.i64.wrap (a1 - (a0.length : Int))) < (0 : Int))) with hb1 | hb1
  · rw [ite_t hb1] at h
    try simp only [hb1, Nat.reduceBEq, Nat.reduceMul, Nat.reduceAdd, Nat.reduceDiv, Int.reduceBEq, rules2, rulesX, rowsX]
    cases h
    exact ⟨⟨rfl, trivial⟩, rfl⟩
  · rw [ite_f hb1] at h
    try simp only [hb1, Nat.reduceBEq, Nat.reduceMul, Nat.reduceAdd, Nat.reduceDiv, Int.reduceBEq, rules2, rulesX, rowsX]
    cases h
    exact ⟨⟨rfl, trivial⟩, rfl⟩
/- 19: laws_szBoolS -/
def c_laws_szBoolS : ACode := (.seq (.reg [(none, .mv 4 (K 0))]) (.seq (.reg [(none, .mv 5 (S 1)), (none, .mv 6 (S 0)), (none, .len 7 (S 6)), (none, .bin 8 .sub (S 5) (S 7)), (none, .mv 1 (S 8))]) (.seq (.seq (.reg [(none, .mv 9 (S 1)), (none, .bin 10 .lss (S 9) (K 0))]) (.cond (S 10) (.seq (.reg [(none, .mv 4 (K (-1)))]) .ret) .skip)) (.seq (.reg [(none, .mv 11 (S 1)), (none, .mv 4 (S 11))]) .ret))))
theorem e_laws_szBoolS : entry Try.prog 19 = some (c_laws_szBoolS.strip, [4], 12) := by kernel_rfl
theorem w_laws_szBoolS (a0 : List Bool) (a1 : Int) (r : Int) (h : f_laws_szBoolS a0 a1 = some r) : FC Try.prog 19 [.sc (.sl (List.map rB a0)), .sc (.int .i64 a1)] [.sc (.v (.int .i64 r))] := by
  unfold f_laws_szBoolS at h
  refine FC_go (σ := ⟨[(0, vc (aL (List.map rB a0))), (1, vc (aI a1))], [], []⟩) mixed e_laws_szBoolS rfl rfl ?_
  simp only [c_laws_szBoolS]
  rcases Bool.eq_false_or_eq_true (decide ((IntKind.i64.wrap (a1 - (a0.length : Int))) < (0 : Int))) with hb1 | hb1
  · rw [ite_t hb1] at h
    try simp only [hb1, Nat.reduceBEq, Nat.reduceMul, Nat.reduceAdd, Nat.reduceDiv, Int.reduceBEq, rules2, rulesX, rowsX]
    cases h
    exact ⟨⟨rfl, trivial⟩, rfl⟩
  · rw [ite_f hb1] at h
    try simp only [hb1, Nat.reduceBEq, Nat.reduceMul, Nat.reduceAdd, Nat.reduceDiv, Int.reduceBEq, rules2, rulesX, rowsX]
    cases h
    exact ⟨⟨rfl, trivial⟩, rfl⟩
/- 5: laws_szDesk -/
def c_laws_szDesk : ACode := (.seq (.reg [(none, .box 2 (S 0)), (none, .mv 4 (K 0))]) (.seq (.reg [(none, .faddr 5 (S 2) 1), (none, .load 6 (S 5) false 1), (none, .mv 7 (S 1)), (none, .call 8 18 [(S 6), (S 7)]), (none, .mv 1 (S 8))]) (.seq (.seq (.reg [(none, .mv 9 (S 1)), (none, .bin 10 .lss (S 9) (K 0))]) (.cond (S 10) (.seq (.reg [(none, .mv 4 (K (-1)))]) .ret) .skip)) (.seq (.reg [(none, .faddr 11 (S 2) 2), (none, .load 12 (S 11) false 1), (none, .mv 13 (S 1)), (none, .call 14 19 [(S 12), (S 13)]), (none, .mv 1 (S 14))]) (.seq (.seq (.reg [(none, .mv 15 (S 1)), (none, .bin 16 .lss (S 15) (K 0))]) (.cond (S 16) (.seq (.reg [(none, .mv 4 (K (-1)))]) .ret) .skip)) (.seq (.reg [(none, .mv 17 (S 1)), (none, .mv 4 (S 17))]) .ret))))))
theorem e_laws_szDesk : entry Try.prog 5 = some (c_laws_szDesk.strip, [4], 18) := by kernel_rfl
theorem w_laws_szDesk (a0 : XDesk) (a1 : Int) (r : Int) (h : f_laws_szDesk a0 a1 = some r) : FC Try.prog 5 [.ag (XDesk.row a0), .sc (.int .i64 a1)] [.sc (.v (.int .i64 r))] := by
  unfold f_laws_szDesk at h
  refine FC_go (σ := ⟨[(0, va [aI a0.Now, aL (List.map rI a0.Starts), aL (List.map rB a0.Cleared)]), (1, vc (aI a1))], [], []⟩) mixed e_laws_szDesk rfl rfl ?_
  simp only [c_laws_szDesk]
  try simp only [Nat.reduceBEq, Nat.reduceMul, Nat.reduceAdd, Nat.reduceDiv, Int.reduceBEq, rules2, rulesX, rowsX]
  refine go_bx rfl rfl rfl ?_
  obtain ⟨r1, hr1, h⟩ := ob h
  try simp only [Nat.reduceBEq, Nat.reduceMul, Nat.reduceAdd, Nat.reduceDiv, Int.reduceBEq, rules2, rulesX, rowsX]
  refine go_callI (w_laws_szIntS _ _ _ hr1) rfl rfl (Nat.le_of_ble_eq_true rfl) ?_
  rcases Bool.eq_false_or_eq_true (decide (r1 < (0 : Int))) with hb2 | hb2
  · rw [ite_t hb2] at h
    try simp only [hb2, Nat.reduceBEq, Nat.reduceMul, Nat.reduceAdd, Nat.reduceDiv, Int.reduceBEq, rules2, rulesX, rowsX]
    cases h
    exact ⟨⟨rfl, trivial⟩, rfl⟩
  · rw [ite_f hb2] at h
    obtain ⟨r3, hr3, h⟩ := ob h
    try simp only [hb2, Nat.reduceBEq, Nat.reduceMul, Nat.reduceAdd, Nat.reduceDiv, Int.reduceBEq, rules2, rulesX, rowsX]
    refine go_callI (w_laws_szBoolS _ _ _ hr3) rfl rfl (Nat.le_of_ble_eq_true rfl) ?_
    rcases Bool.eq_false_or_eq_true (decide (r3 < (0 : Int))) with hb4 | hb4
    · rw [ite_t hb4] at h
      try simp only [hb2, hb4, Nat.reduceBEq, Nat.reduceMul, Nat.reduceAdd, Nat.reduceDiv, Int.reduceBEq, rules2, rulesX, rowsX]
      cases h
      exact ⟨⟨rfl, trivial⟩, rfl⟩
    · rw [ite_f hb4] at h
      try simp only [hb2, hb4, Nat.reduceBEq, Nat.reduceMul, Nat.reduceAdd, Nat.reduceDiv, Int.reduceBEq, rules2, rulesX, rowsX]
      cases h
      exact ⟨⟨rfl, trivial⟩, rfl⟩
/- 23: laws_toIntS -/
def c_laws_toIntS_1 : ACode := .seq (.reg [(none, .keep [0, 3, 4] [] [448])]) (.seq (.seq (.reg [(none, .mv 8 (S 4)), (none, .mv 9 (S 0)), (none, .len 10 (S 9)), (none, .bin 11 .lss (S 8) (S 10))]) (.cond (S 11) .skip (.exit 0))) (.seq (.block 1 (.reg [(none, .mv 14 (S 3)), (none, .mv 15 (S 4)), (none, .mv 16 (S 0)), (none, .mv 17 (S 4)), (none, .iaddr 18 (S 16) (S 17) 1), (none, .load 19 (S 18) false 1), (none, .iaddr 20 (S 14) (S 15) 1), (none, .store (S 20) (S 19) 1)])) (.reg [(none, .mv 12 (S 4)), (none, .bin 13 .add (S 12) (K 1)), (none, .mv 4 (S 13))])))
def c_laws_toIntS_n1 : ACode := (.seq (.reg [(none, .mv 21 (S 3)), (none, .mv 2 (S 21))]) .ret)
def c_laws_toIntS : ACode := (.seq (.reg [(none, .mv 2 KN)]) (.seq (.reg [(none, .mv 5 (S 0)), (none, .len 6 (S 5)), (none, .mksl 7 1 8 [.int .i64 0] (S 6) (S 6)), (none, .mv 3 (S 7))]) (.seq (.seq (.reg [(none, .mv 4 (K 0))]) (.block 0 (.loop c_laws_toIntS_1))) c_laws_toIntS_n1)))
theorem w_laws_toIntS_1 (a0 : List Int) : ∀ (n : Nat) (v2 : Int) (v3 : List Int) (r : (List Int)), f_laws_toIntS_1 a0 n v2 v3 = some r → ∀ σ : St, σ.kept [0, 3, 4] [] [448] = ⟨[(0, vc (aL (List.map rI a0))), (3, vc (.own 448)), (4, vc (aI v2))], [], [(448, 1, List.map rI v3)]⟩ → go Try.prog (.code (.loop c_laws_toIntS_1) :: [.blk 0, .code c_laws_toIntS_n1]) (Ret [2] [.sc (.o 1 (List.map rI r))]) .normal (some σ) := by
  intro n
  induction n with
  | zero => intro _ _ r h; cases h
  | succ n ih =>
    intro v2 v3 r h σ hσ
    rw [f_laws_toIntS_1] at h
    refine go_round ?_
    rcases Bool.eq_false_or_eq_true (decide (v2 < (a0.length : Int))) with hb4 | hb4
    · rw [ite_t hb4] at h
      obtain ⟨x5, hx5, h⟩ := ob h
      obtain ⟨x6, hx6, h⟩ := ob h
      have hx6n := ix_get hx6
      try simp only [hσ, hb4, hx5, hx6, c_laws_toIntS_1, Nat.reduceBEq, Nat.reduceMul, Nat.reduceAdd, Nat.reduceDiv, Int.reduceBEq, rules2, rulesX, rowsX]
      refine go_stp (y := x5) rfl rfl hx6n rfl rfl rfl ?_
      try simp only [hb4, hx5, hx6, Nat.reduceBEq, Nat.reduceMul, Nat.reduceAdd, Nat.reduceDiv, Int.reduceBEq, rules2, rulesX, rowsX]
      refine ih _ _ _ h _ ?_
      try simp only [hb4, hx5, hx6, Nat.reduceBEq, Nat.reduceMul, Nat.reduceAdd, Nat.reduceDiv, Int.reduceBEq, rules2, rulesX, rowsX, List.map_nil]
    · rw [ite_f hb4] at h
      try simp only [hσ, hb4, c_laws_toIntS_1, c_laws_toIntS_n1, Nat.reduceBEq, Nat.reduceMul, Nat.reduceAdd, Nat.reduceDiv, Int.reduceBEq, rules2, rulesX, rowsX]
      cases h
      exact ⟨⟨rfl, trivial⟩, rfl⟩
theorem e_laws_toIntS : entry Try.prog 23 = some (c_laws_toIntS.strip, [2], 22) := by kernel_rfl
theorem w_laws_toIntS (a0 : List Int) (r : (List Int)) (h : f_laws_toIntS a0 = some r) : FC Try.prog 23 [.sc (.sl (List.map rI a0))] [.sc (.o 1 (List.map rI r))] := by
  unfold f_laws_toIntS at h
  refine FC_go (σ := ⟨[(0, vc (aL (List.map rI a0)))], [], []⟩) mixed e_laws_toIntS rfl rfl ?_
  simp only [c_laws_toIntS]
  obtain ⟨n1, hn1, h⟩ := ob h
  try simp only [Nat.reduceBEq, Nat.reduceMul, Nat.reduceAdd, Nat.reduceDiv, Int.reduceBEq, rules2, rulesX, rowsX]
  refine go_mks (es := List.map rI (List.replicate n1 (0 : Int))) rfl rfl hn1 rfl (rep_map rfl) rfl ?_
  try simp only [Nat.reduceBEq, Nat.reduceMul, Nat.reduceAdd, Nat.reduceDiv, Int.reduceBEq, rules2, rulesX, rowsX]
  refine w_laws_toIntS_1 _ _ _ _ _ h _ ?_
  try simp only [Nat.reduceBEq, Nat.reduceMul, Nat.reduceAdd, Nat.reduceDiv, Int.reduceBEq, rules2, rulesX, rowsX, List.map_nil]
/- 24: laws_toBoolS -/
def c_laws_toBoolS_1 : ACode := .seq (.reg [(none, .keep [0, 3, 4] [] [448])]) (.seq (.seq (.reg [(none, .mv 8 (S 4)), (none, .mv 9 (S 0)), (none, .len 10 (S 9)), (none, .bin 11 .lss (S 8) (S 10))]) (.cond (S 11) .skip (.exit 0))) (.seq (.block 1 (.reg [(none, .mv 14 (S 3)), (none, .mv 15 (S 4)), (none, .mv 16 (S 0)), (none, .mv 17 (S 4)), (none, .iaddr 18 (S 16) (S 17) 1), (none, .load 19 (S 18) false 1), (none, .iaddr 20 (S 14) (S 15) 1), (none, .store (S 20) (S 19) 1)])) (.reg [(none, .mv 12 (S 4)), (none, .bin 13 .add (S 12) (K 1)), (none, .mv 4 (S 13))])))
def c_laws_toBoolS_n1 : ACode := (.seq (.reg [(none, .mv 21 (S 3)), (none, .mv 2 (S 21))]) .ret)
def c_laws_toBoolS : ACode := (.seq (.reg [(none, .mv 2 KN)]) (.seq (.reg [(none, .mv 5 (S 0)), (none, .len 6 (S 5)), (none, .mksl 7 1 1 [.bool false] (S 6) (S 6)), (none, .mv 3 (S 7))]) (.seq (.seq (.reg [(none, .mv 4 (K 0))]) (.block 0 (.loop c_laws_toBoolS_1))) c_laws_toBoolS_n1)))
theorem w_laws_toBoolS_1 (a0 : List Bool) : ∀ (n : Nat) (v2 : Int) (v3 : List Bool) (r : (List Bool)), f_laws_toBoolS_1 a0 n v2 v3 = some r → ∀ σ : St, σ.kept [0, 3, 4] [] [448] = ⟨[(0, vc (aL (List.map rB a0))), (3, vc (.own 448)), (4, vc (aI v2))], [], [(448, 1, List.map rB v3)]⟩ → go Try.prog (.code (.loop c_laws_toBoolS_1) :: [.blk 0, .code c_laws_toBoolS_n1]) (Ret [2] [.sc (.o 1 (List.map rB r))]) .normal (some σ) := by
  intro n
  induction n with
  | zero => intro _ _ r h; cases h
  | succ n ih =>
    intro v2 v3 r h σ hσ
    rw [f_laws_toBoolS_1] at h
    refine go_round ?_
    rcases Bool.eq_false_or_eq_true (decide (v2 < (a0.length : Int))) with hb4 | hb4
    · rw [ite_t hb4] at h
      obtain ⟨x5, hx5, h⟩ := ob h
      obtain ⟨x6, hx6, h⟩ := ob h
      have hx6n := ix_get hx6
      try simp only [hσ, hb4, hx5, hx6, c_laws_toBoolS_1, Nat.reduceBEq, Nat.reduceMul, Nat.reduceAdd, Nat.reduceDiv, Int.reduceBEq, rules2, rulesX, rowsX]
      refine go_stp (y := x5) rfl rfl hx6n rfl rfl rfl ?_
      try simp only [hb4, hx5, hx6, Nat.reduceBEq, Nat.reduceMul, Nat.reduceAdd, Nat.reduceDiv, Int.reduceBEq, rules2, rulesX, rowsX]
      refine ih _ _ _ h _ ?_
      try simp only [hb4, hx5, hx6, Nat.reduceBEq, Nat.reduceMul, Nat.reduceAdd, Nat.reduceDiv, Int.reduceBEq, rules2, rulesX, rowsX, List.map_nil]
    · rw [ite_f hb4] at h
      try simp only [hσ, hb4, c_laws_toBoolS_1, c_laws_toBoolS_n1, Nat.reduceBEq, Nat.reduceMul, Nat.reduceAdd, Nat.reduceDiv, Int.reduceBEq, rules2, rulesX, rowsX]
      cases h
      exact ⟨⟨rfl, trivial⟩, rfl⟩
theorem e_laws_toBoolS : entry Try.prog 24 = some (c_laws_toBoolS.strip, [2], 22) := by kernel_rfl
theorem w_laws_toBoolS (a0 : List Bool) (r : (List Bool)) (h : f_laws_toBoolS a0 = some r) : FC Try.prog 24 [.sc (.sl (List.map rB a0))] [.sc (.o 1 (List.map rB r))] := by
  unfold f_laws_toBoolS at h
  refine FC_go (σ := ⟨[(0, vc (aL (List.map rB a0)))], [], []⟩) mixed e_laws_toBoolS rfl rfl ?_
  simp only [c_laws_toBoolS]
  obtain ⟨n1, hn1, h⟩ := ob h
  try simp only [Nat.reduceBEq, Nat.reduceMul, Nat.reduceAdd, Nat.reduceDiv, Int.reduceBEq, rules2, rulesX, rowsX]
  refine go_mks (es := List.map rB (List.replicate n1 false)) rfl rfl hn1 rfl (rep_map rfl) rfl ?_
  try simp only [Nat.reduceBEq, Nat.reduceMul, Nat.reduceAdd, Nat.reduceDiv, Int.reduceBEq, rules2, rulesX, rowsX]
  refine w_laws_toBoolS_1 _ _ _ _ _ h _ ?_
  try simp only [Nat.reduceBEq, Nat.reduceMul, Nat.reduceAdd, Nat.reduceDiv, Int.reduceBEq, rules2, rulesX, rowsX, List.map_nil]
/- 7: laws_toDesk -/
def c_laws_toDesk : ACode := (.seq (.reg [(none, .box 1 (S 0)), (none, .alloc 2 [aI 0, .nil, .nil])]) (.seq (.reg [(none, .alloc 3 [aI 0, .nil, .nil])]) (.seq (.reg [(none, .faddr 4 (S 1) 0), (none, .load 5 (S 4) false 1), (none, .faddr 6 (S 3) 0), (none, .store (S 6) (S 5) 1)]) (.seq (.reg [(none, .faddr 7 (S 1) 1), (none, .load 8 (S 7) false 1), (none, .call 9 23 [(S 8)]), (none, .faddr 10 (S 3) 1), (none, .store (S 10) (S 9) 1)]) (.seq (.reg [(none, .faddr 11 (S 1) 2), (none, .load 12 (S 11) false 1), (none, .call 13 24 [(S 12)]), (none, .faddr 14 (S 3) 2), (none, .store (S 14) (S 13) 1)]) (.seq (.reg [(none, .load 15 (S 3) true 3), (none, .store (S 2) (S 15) 3)]) .ret))))))
theorem e_laws_toDesk : entry Try.prog 7 = some (c_laws_toDesk.strip, [.c 2 true 3], 16) := by kernel_rfl
theorem w_laws_toDesk (a0 : XDesk) (r : XDesk) (h : f_laws_toDesk a0 = some r) : FC Try.prog 7 [.ag (XDesk.row a0)] [.ag [.v (.int .i64 r.Now), .o 1 (List.map rI r.Starts), .o 1 (List.map rB r.Cleared)]] := by
  unfold f_laws_toDesk at h
  refine FC_go (σ := ⟨[(0, va [aI a0.Now, aL (List.map rI a0.Starts), aL (List.map rB a0.Cleared)])], [], []⟩) mixed e_laws_toDesk rfl rfl ?_
  simp only [c_laws_toDesk]
  try simp only [Nat.reduceBEq, Nat.reduceMul, Nat.reduceAdd, Nat.reduceDiv, Int.reduceBEq, rules2, rulesX, rowsX]
  refine go_bx rfl rfl rfl ?_
  try simp only [Nat.reduceBEq, Nat.reduceMul, Nat.reduceAdd, Nat.reduceDiv, Int.reduceBEq, rules2, rulesX, rowsX]
  refine go_al rfl rfl ?_
  try simp only [Nat.reduceBEq, Nat.reduceMul, Nat.reduceAdd, Nat.reduceDiv, Int.reduceBEq, rules2, rulesX, rowsX]
  refine go_al rfl rfl ?_
  obtain ⟨r1, hr1, h⟩ := ob h
  try simp only [Nat.reduceBEq, Nat.reduceMul, Nat.reduceAdd, Nat.reduceDiv, Int.reduceBEq, rules2, rulesX, rowsX]
  refine go_callI (w_laws_toIntS _ _ hr1) rfl rfl (Nat.le_of_ble_eq_true rfl) ?_
  obtain ⟨r2, hr2, h⟩ := ob h
  try simp only [Nat.reduceBEq, Nat.reduceMul, Nat.reduceAdd, Nat.reduceDiv, Int.reduceBEq, rules2, rulesX, rowsX]
  refine go_callI (w_laws_toBoolS _ _ hr2) rfl rfl (Nat.le_of_ble_eq_true rfl) ?_
  try simp only [Nat.reduceBEq, Nat.reduceMul, Nat.reduceAdd, Nat.reduceDiv, Int.reduceBEq, rules2, rulesX, rowsX]
  cases h
  try simp only [rulesR, Nat.reduceBEq, Nat.reduceMul, Nat.reduceAdd, Nat.reduceDiv, Int.reduceBEq, rules2, rulesX, rowsX]
  exact ⟨⟨⟨rfl, rfl, rfl, trivial⟩, trivial⟩, rfl⟩
/- 8: laws_toEntry -/
def c_laws_toEntry : ACode := (.seq (.reg [(none, .box 1 (S 0)), (none, .alloc 2 [aI 0, aI 0, aI 0, aI 0])]) (.seq (.reg [(none, .alloc 3 [aI 0, aI 0, aI 0, aI 0])]) (.seq (.reg [(none, .faddr 4 (S 1) 0), (none, .load 5 (S 4) false 1), (none, .faddr 6 (S 3) 0), (none, .store (S 6) (S 5) 1)]) (.seq (.reg [(none, .faddr 7 (S 1) 1), (none, .load 8 (S 7) false 1), (none, .faddr 9 (S 3) 1), (none, .store (S 9) (S 8) 1)]) (.seq (.reg [(none, .faddr 10 (S 1) 2), (none, .load 11 (S 10) false 1), (none, .faddr 12 (S 3) 2), (none, .store (S 12) (S 11) 1)]) (.seq (.reg [(none, .faddr 13 (S 1) 3), (none, .load 14 (S 13) false 1), (none, .faddr 15 (S 3) 3), (none, .store (S 15) (S 14) 1)]) (.seq (.reg [(none, .load 16 (S 3) true 4), (none, .store (S 2) (S 16) 4)]) .ret)))))))
theorem e_laws_toEntry : entry Try.prog 8 = some (c_laws_toEntry.strip, [.c 2 true 4], 17) := by kernel_rfl
theorem w_laws_toEntry (a0 : XEntry) (r : XEntry) (h : f_laws_toEntry a0 = some r) : FC Try.prog 8 [.ag (XEntry.row a0)] [.ag [.v (.int .i64 r.Kind), .v (.int .i64 r.At), .v (.int .i64 r.Call), .v (.int .i64 r.Value)]] := by
  unfold f_laws_toEntry at h
  refine FC_go (σ := ⟨[(0, va [aI a0.Kind, aI a0.At, aI a0.Call, aI a0.Value])], [], []⟩) mixed e_laws_toEntry rfl rfl ?_
  simp only [c_laws_toEntry]
  try simp only [Nat.reduceBEq, Nat.reduceMul, Nat.reduceAdd, Nat.reduceDiv, Int.reduceBEq, rules2, rulesX, rowsX]
  refine go_bx rfl rfl rfl ?_
  try simp only [Nat.reduceBEq, Nat.reduceMul, Nat.reduceAdd, Nat.reduceDiv, Int.reduceBEq, rules2, rulesX, rowsX]
  refine go_al rfl rfl ?_
  try simp only [Nat.reduceBEq, Nat.reduceMul, Nat.reduceAdd, Nat.reduceDiv, Int.reduceBEq, rules2, rulesX, rowsX]
  refine go_al rfl rfl ?_
  try simp only [Nat.reduceBEq, Nat.reduceMul, Nat.reduceAdd, Nat.reduceDiv, Int.reduceBEq, rules2, rulesX, rowsX]
  cases h
  try simp only [rulesR, Nat.reduceBEq, Nat.reduceMul, Nat.reduceAdd, Nat.reduceDiv, Int.reduceBEq, rules2, rulesX, rowsX]
  exact ⟨⟨⟨rfl, rfl, rfl, rfl, trivial⟩, trivial⟩, rfl⟩
/- 20: spec_l23Copy -/
def c_spec_l23Copy : ACode := (.seq (.reg [(none, .box 1 (S 0)), (none, .alloc 2 [aI 0, .nil, .nil])]) (.seq (.drw [(some [8, 12], (none, .faddr 3 (S 1) 0)), (some [8, 12], (none, .load 4 (S 3) false 1)), (some [], (none, .zsl 5)), (some [], (none, .faddr 6 (S 1) 1)), (some [], (none, .load 7 (S 6) false 1)), (some [], (none, .zap 8 1 8 (S 5) (S 7))), (some [8], (none, .zsl 9)), (some [8], (none, .faddr 10 (S 1) 2)), (some [8], (none, .load 11 (S 10) false 1)), (some [], (none, .zap 12 1 1 (S 9) (S 11))), (some [], (none, .build 13 [aI 0, .nil, .nil] [(0, 1, (S 4)), (1, 1, (S 8)), (2, 1, (S 12))])), (none, (none, .store (S 2) (S 13) 3))]) .ret))
theorem e_spec_l23Copy : entry Try.prog 20 = some (c_spec_l23Copy.strip, [.c 2 true 3], 14) := by kernel_rfl
theorem w_spec_l23Copy (a0 : XDesk) (r : XDesk) (h : f_spec_l23Copy a0 = some r) : FC Try.prog 20 [.ag (XDesk.row a0)] [.ag [.v (.int .i64 r.Now), .o 1 (List.map rI r.Starts), .o 1 (List.map rB r.Cleared)]] := by
  unfold f_spec_l23Copy at h
  refine FC_go (σ := ⟨[(0, va [aI a0.Now, aL (List.map rI a0.Starts), aL (List.map rB a0.Cleared)])], [], []⟩) mixed e_spec_l23Copy rfl rfl ?_
  simp only [c_spec_l23Copy]
  try simp only [Nat.reduceBEq, Nat.reduceMul, Nat.reduceAdd, Nat.reduceDiv, Int.reduceBEq, rules2, rulesX, rowsX]
  refine go_bx rfl rfl rfl ?_
  try simp only [Nat.reduceBEq, Nat.reduceMul, Nat.reduceAdd, Nat.reduceDiv, Int.reduceBEq, rules2, rulesX, rowsX]
  refine go_al rfl rfl ?_
  try simp only [Nat.reduceBEq, Nat.reduceMul, Nat.reduceAdd, Nat.reduceDiv, Int.reduceBEq, rules2, rulesX, rowsX]
  refine go_fr_of rfl ?_
  obtain ⟨hg1, h⟩ := of_guard h
  try simp only [hg1, Nat.reduceBEq, Nat.reduceMul, Nat.reduceAdd, Nat.reduceDiv, Int.reduceBEq, rules2, rulesX, rowsX]
  refine go_zap (row := rI) (xs := a0.Starts) (by first | rfl | kernel_rfl) (by first | rfl | kernel_rfl) hg1 (by rfl) ?_
  obtain ⟨hg2, h⟩ := of_guard h
  try simp only [hg1, hg2, Nat.reduceBEq, Nat.reduceMul, Nat.reduceAdd, Nat.reduceDiv, Int.reduceBEq, rules2, rulesX, rowsX]
  refine go_zap (row := rB) (xs := a0.Cleared) (by first | rfl | kernel_rfl) (by first | rfl | kernel_rfl) hg2 (by rfl) ?_
  try simp only [hg1, hg2, Nat.reduceBEq, Nat.reduceMul, Nat.reduceAdd, Nat.reduceDiv, Int.reduceBEq, rules2, rulesX, rowsX]
  refine go_fr_of rfl ?_
  try simp only [hg1, hg2, Nat.reduceBEq, Nat.reduceMul, Nat.reduceAdd, Nat.reduceDiv, Int.reduceBEq, rules2, rulesX, rowsX]
  cases h
  try simp only [rulesR, Nat.reduceBEq, Nat.reduceMul, Nat.reduceAdd, Nat.reduceDiv, Int.reduceBEq, rules2, rulesX, rowsX]
  exact ⟨⟨⟨rfl, rfl, rfl, trivial⟩, trivial⟩, rfl⟩
/- 43: spec_l01In -/
def c_spec_l01In : ACode := (.seq (.reg [(none, .mv 6 (KB false))]) (.seq (.reg [(none, .mv 7 (S 0)), (none, .mv 8 (S 1)), (none, .bin 9 .geq (S 7) (S 8)), (none, .mv 10 (S 9)), (some (10, true), .mv 11 (S 0)), (some (10, true), .mv 12 (S 2)), (some (10, true), .bin 13 .leq (S 11) (S 12)), (none, .pick 14 (S 10) (S 13) (KB false)), (none, .mv 6 (S 14))]) .ret))
theorem e_spec_l01In : entry Try.prog 43 = some (c_spec_l01In.strip, [6], 15) := by kernel_rfl
theorem w_spec_l01In (a0 : Int) (a1 : Int) (a2 : Int) (r : Bool) (h : f_spec_l01In a0 a1 a2 = some r) : FC Try.prog 43 [.sc (.int .i64 a0), .sc (.int .i64 a1), .sc (.int .i64 a2)] [.sc (.v (.bool r))] := by
  unfold f_spec_l01In at h
  refine FC_go (σ := ⟨[(0, vc (aI a0)), (1, vc (aI a1)), (2, vc (aI a2))], [], []⟩) mixed e_spec_l01In rfl rfl ?_
  simp only [c_spec_l01In]
  rcases Bool.eq_false_or_eq_true (decide (a1 ≤ a0)) with hb1 | hb1
  · rw [ite_t hb1] at h
    try simp only [hb1, Nat.reduceBEq, Nat.reduceMul, Nat.reduceAdd, Nat.reduceDiv, Int.reduceBEq, rules2, rulesX, rowsX]
    cases h
    exact ⟨⟨rfl, trivial⟩, rfl⟩
  · rw [ite_f hb1] at h
    try simp only [hb1, Nat.reduceBEq, Nat.reduceMul, Nat.reduceAdd, Nat.reduceDiv, Int.reduceBEq, rules2, rulesX, rowsX]
    cases h
    exact ⟨⟨rfl, trivial⟩, rfl⟩
/- 21: spec_DeskOk -/
def c_spec_DeskOk_1 : ACode := .seq (.reg [(none, .keep [1, 25, 26, 27] [1] [])]) (.seq (.reg [(none, .bin 28 .lss (S 27) (S 26))]) (.seq (.cond (S 28) .skip (.exit 0)) (.seq (.block 1 (.seq (.reg [(none, .mv 29 (S 27)), (none, .iaddr 30 (S 25) (S 27) 1), (none, .load 31 (S 30) false 1), (none, .mv 3 (S 29)), (none, .mv 4 (S 31))]) (.seq (.reg [(none, .mv 32 (S 4)), (none, .call 33 43 [(S 32), (K (-1)), (K 2880)]), (none, .un 34 .not (S 33)), (none, .mv 35 (S 34)), (some (35, false), .faddr 36 (S 1) 2), (some (35, false), .load 37 (S 36) false 1), (some (35, false), .mv 38 (S 3)), (some (35, false), .iaddr 39 (S 37) (S 38) 1), (some (35, false), .load 40 (S 39) false 1), (some (35, false), .mv 41 (S 40)), (some (41, true), .mv 42 (S 4)), (some (41, true), .bin 43 .lss (S 42) (K 0)), (some (35, false), .pick 44 (S 41) (S 43) (KB false)), (none, .pick 45 (S 35) (KB true) (S 44))]) (.cond (S 45) (.seq (.reg [(none, .mv 2 (KB false))]) .ret) .skip)))) (.reg [(none, .bin 46 .add (S 27) (K 1)), (none, .mv 27 (S 46))]))))
def c_spec_DeskOk_n1 : ACode := (.seq (.reg [(none, .mv 2 (KB true))]) .ret)
def c_spec_DeskOk : ACode := (.seq (.reg [(none, .box 1 (S 0)), (none, .mv 2 (KB false))]) (.seq (.seq (.reg [(none, .faddr 5 (S 1) 0), (none, .load 6 (S 5) false 1), (none, .call 7 43 [(S 6), (K 0), (K 2880)]), (none, .un 8 .not (S 7)), (none, .mv 9 (S 8)), (some (9, false), .faddr 10 (S 1) 1), (some (9, false), .load 11 (S 10) false 1), (some (9, false), .len 12 (S 11)), (some (9, false), .bin 13 .gtr (S 12) (K 6)), (none, .pick 14 (S 9) (KB true) (S 13)), (none, .mv 15 (S 14)), (some (15, false), .faddr 16 (S 1) 2), (some (15, false), .load 17 (S 16) false 1), (some (15, false), .len 18 (S 17)), (some (15, false), .faddr 19 (S 1) 1), (some (15, false), .load 20 (S 19) false 1), (some (15, false), .len 21 (S 20)), (some (15, false), .bin 22 .neq (S 18) (S 21)), (none, .pick 23 (S 15) (KB true) (S 22))]) (.cond (S 23) (.seq (.reg [(none, .mv 2 (KB false))]) .ret) .skip)) (.seq (.seq (.reg [(none, .faddr 24 (S 1) 1), (none, .load 25 (S 24) false 1), (none, .len 26 (S 25)), (none, .mv 27 (K 0))]) (.block 0 (.loop c_spec_DeskOk_1))) c_spec_DeskOk_n1)))
theorem w_spec_DeskOk_1 (a0 : XDesk) : ∀ (n : Nat) (v5 : Int) (r : Bool), f_spec_DeskOk_1 a0 n v5 = some r → ∀ σ : St, σ.kept [1, 25, 26, 27] [1] [] = ⟨[(1, vc (.pb 1 0)), (25, vc (aL (List.map rI a0.Starts))), (26, vc (aI (a0.Starts.length : Int))), (27, vc (aI v5))], [(1, [aI a0.Now, aL (List.map rI a0.Starts), aL (List.map rB a0.Cleared)])], []⟩ → go Try.prog (.code (.loop c_spec_DeskOk_1) :: [.blk 0, .code c_spec_DeskOk_n1]) (Ret [2] [.sc (.v (.bool r))]) .normal (some σ) := by
  intro n
  induction n with
  | zero => intro _ r h; cases h
  | succ n ih =>
    intro v5 r h σ hσ
    rw [f_spec_DeskOk_1] at h
    refine go_round ?_
    rcases Bool.eq_false_or_eq_true (decide (v5 < (a0.Starts.length : Int))) with hb6 | hb6
    · rw [ite_t hb6] at h
      obtain ⟨x7, hx7, h⟩ := ob h
      obtain ⟨r8, hr8, h⟩ := ob h
      try simp only [hσ, hb6, hx7, c_spec_DeskOk_1, Nat.reduceBEq, Nat.reduceMul, Nat.reduceAdd, Nat.reduceDiv, Int.reduceBEq, rules2, rulesX, rowsX]
      refine go_callI (w_spec_l01In _ _ _ _ hr8) rfl rfl (Nat.le_of_ble_eq_true rfl) ?_
      rcases Bool.eq_false_or_eq_true r8 with hb9 | hb9
      · rw [ite_t hb9] at h
        obtain ⟨x10, hx10, h⟩ := ob h
        rcases Bool.eq_false_or_eq_true x10 with hb11 | hb11
        · rw [ite_t hb11] at h
          rcases Bool.eq_false_or_eq_true (decide (x7 < (0 : Int))) with hb12 | hb12
          · rw [ite_t hb12] at h
            try simp only [hb6, hx7, hb9, hx10, hb11, hb12, Nat.reduceBEq, Nat.reduceMul, Nat.reduceAdd, Nat.reduceDiv, Int.reduceBEq, rules2, rulesX, rowsX]
            cases h
            exact ⟨⟨rfl, trivial⟩, rfl⟩
          · rw [ite_f hb12] at h
            try simp only [hb6, hx7, hb9, hx10, hb11, hb12, Nat.reduceBEq, Nat.reduceMul, Nat.reduceAdd, Nat.reduceDiv, Int.reduceBEq, rules2, rulesX, rowsX]
            refine ih _ _ h _ ?_
            try simp only [hb6, hx7, hb9, hx10, hb11, hb12, Nat.reduceBEq, Nat.reduceMul, Nat.reduceAdd, Nat.reduceDiv, Int.reduceBEq, rules2, rulesX, rowsX, List.map_nil]
        · rw [ite_f hb11] at h
          try simp only [hb6, hx7, hb9, hx10, hb11, Nat.reduceBEq, Nat.reduceMul, Nat.reduceAdd, Nat.reduceDiv, Int.reduceBEq, rules2, rulesX, rowsX]
          refine ih _ _ h _ ?_
          try simp only [hb6, hx7, hb9, hx10, hb11, Nat.reduceBEq, Nat.reduceMul, Nat.reduceAdd, Nat.reduceDiv, Int.reduceBEq, rules2, rulesX, rowsX, List.map_nil]
      · rw [ite_f hb9] at h
        try simp only [hb6, hx7, hb9, Nat.reduceBEq, Nat.reduceMul, Nat.reduceAdd, Nat.reduceDiv, Int.reduceBEq, rules2, rulesX, rowsX]
        cases h
        exact ⟨⟨rfl, trivial⟩, rfl⟩
    · rw [ite_f hb6] at h
      try simp only [hσ, hb6, c_spec_DeskOk_1, c_spec_DeskOk_n1, Nat.reduceBEq, Nat.reduceMul, Nat.reduceAdd, Nat.reduceDiv, Int.reduceBEq, rules2, rulesX, rowsX]
      cases h
      exact ⟨⟨rfl, trivial⟩, rfl⟩
theorem e_spec_DeskOk : entry Try.prog 21 = some (c_spec_DeskOk.strip, [2], 47) := by kernel_rfl
theorem w_spec_DeskOk (a0 : XDesk) (r : Bool) (h : f_spec_DeskOk a0 = some r) : FC Try.prog 21 [.ag (XDesk.row a0)] [.sc (.v (.bool r))] := by
  unfold f_spec_DeskOk at h
  refine FC_go (σ := ⟨[(0, va [aI a0.Now, aL (List.map rI a0.Starts), aL (List.map rB a0.Cleared)])], [], []⟩) mixed e_spec_DeskOk rfl rfl ?_
  simp only [c_spec_DeskOk]
  try simp only [Nat.reduceBEq, Nat.reduceMul, Nat.reduceAdd, Nat.reduceDiv, Int.reduceBEq, rules2, rulesX, rowsX]
  refine go_bx rfl rfl rfl ?_
  obtain ⟨r1, hr1, h⟩ := ob h
  try simp only [Nat.reduceBEq, Nat.reduceMul, Nat.reduceAdd, Nat.reduceDiv, Int.reduceBEq, rules2, rulesX, rowsX]
  refine go_callI (w_spec_l01In _ _ _ _ hr1) rfl rfl (Nat.le_of_ble_eq_true rfl) ?_
  rcases Bool.eq_false_or_eq_true r1 with hb2 | hb2
  · rw [ite_t hb2] at h
    rcases Bool.eq_false_or_eq_true (decide ((6 : Int) < (a0.Starts.length : Int))) with hb3 | hb3
    · rw [ite_t hb3] at h
      try simp only [hb2, hb3, Nat.reduceBEq, Nat.reduceMul, Nat.reduceAdd, Nat.reduceDiv, Int.reduceBEq, rules2, rulesX, rowsX]
      cases h
      exact ⟨⟨rfl, trivial⟩, rfl⟩
    · rw [ite_f hb3] at h
      rcases Bool.eq_false_or_eq_true ((a0.Cleared.length : Int) != (a0.Starts.length : Int)) with hb4 | hb4
      · rw [ite_t hb4] at h
        try simp only [hb2, hb3, hb4, Nat.reduceBEq, Nat.reduceMul, Nat.reduceAdd, Nat.reduceDiv, Int.reduceBEq, rules2, rulesX, rowsX]
        cases h
        exact ⟨⟨rfl, trivial⟩, rfl⟩
      · rw [ite_f hb4] at h
        try simp only [hb2, hb3, hb4, Nat.reduceBEq, Nat.reduceMul, Nat.reduceAdd, Nat.reduceDiv, Int.reduceBEq, rules2, rulesX, rowsX]
        refine w_spec_DeskOk_1 _ _ _ _ h _ ?_
        try simp only [hb2, hb3, hb4, Nat.reduceBEq, Nat.reduceMul, Nat.reduceAdd, Nat.reduceDiv, Int.reduceBEq, rules2, rulesX, rowsX, List.map_nil]
  · rw [ite_f hb2] at h
    try simp only [hb2, Nat.reduceBEq, Nat.reduceMul, Nat.reduceAdd, Nat.reduceDiv, Int.reduceBEq, rules2, rulesX, rowsX]
    cases h
    exact ⟨⟨rfl, trivial⟩, rfl⟩
/- 22: spec_l23Allowed -/
def c_spec_l23Allowed : ACode := (.seq (.reg [(none, .box 2 (S 0)), (none, .box 3 (S 1)), (none, .mv 4 (KB false))]) (.seq (.seq (.reg [(none, .faddr 5 (S 3) 1), (none, .load 6 (S 5) false 1), (none, .faddr 7 (S 2) 0), (none, .load 8 (S 7) false 1), (none, .call 9 43 [(S 6), (S 8), (K 2880)]), (none, .un 10 .not (S 9)), (none, .mv 11 (S 10)), (some (11, false), .faddr 12 (S 3) 0), (some (11, false), .load 13 (S 12) false 1), (some (11, false), .call 14 43 [(S 13), (K 1), (K 4)]), (some (11, false), .un 15 .not (S 14)), (none, .pick 16 (S 11) (KB true) (S 15))]) (.cond (S 16) (.seq (.reg [(none, .mv 4 (KB false))]) .ret) .skip)) (.seq (.seq (.reg [(none, .faddr 17 (S 3) 0), (none, .load 18 (S 17) false 1), (none, .bin 19 .eql (S 18) (K 4))]) (.cond (S 19) (.seq (.reg [(none, .faddr 20 (S 3) 2), (none, .load 21 (S 20) false 1), (none, .bin 22 .eql (S 21) (K 0)), (none, .mv 23 (S 22)), (some (23, true), .faddr 24 (S 3) 3), (some (23, true), .load 25 (S 24) false 1), (some (23, true), .bin 26 .eql (S 25) (K 0)), (none, .pick 27 (S 23) (S 26) (KB false)), (none, .mv 4 (S 27))]) .ret) .skip)) (.seq (.seq (.reg [(none, .faddr 28 (S 3) 2), (none, .load 29 (S 28) false 1), (none, .faddr 30 (S 2) 1), (none, .load 31 (S 30) false 1), (none, .len 32 (S 31)), (none, .bin 33 .sub (S 32) (K 1)), (none, .call 34 43 [(S 29), (K 0), (S 33)]), (none, .un 35 .not (S 34)), (none, .mv 36 (S 35)), (some (36, false), .faddr 37 (S 2) 2), (some (36, false), .load 38 (S 37) false 1), (some (36, false), .faddr 39 (S 3) 2), (some (36, false), .load 40 (S 39) false 1), (some (36, false), .iaddr 41 (S 38) (S 40) 1), (some (36, false), .load 42 (S 41) false 1), (none, .pick 43 (S 36) (KB true) (S 42))]) (.cond (S 43) (.seq (.reg [(none, .mv 4 (KB false))]) .ret) .skip)) (.seq (.seq (.reg [(none, .faddr 44 (S 3) 0), (none, .load 45 (S 44) false 1), (none, .bin 46 .eql (S 45) (K 1))]) (.cond (S 46) (.seq (.reg [(none, .faddr 47 (S 3) 3), (none, .load 48 (S 47) false 1), (none, .faddr 49 (S 3) 1), (none, .load 50 (S 49) false 1), (none, .call 51 43 [(S 48), (S 50), (K 2880)]), (none, .mv 4 (S 51))]) .ret) .skip)) (.seq (.drw [(some [], (none, .faddr 52 (S 3) 3)), (some [], (none, .load 53 (S 52) false 1)), (some [], (none, .bin 54 .eql (S 53) (K 0))), (some [], (none, .mv 55 (S 54))), (some [], (some (55, true), .faddr 56 (S 2) 1)), (some [], (some (55, true), .load 57 (S 56) false 1)), (some [], (some (55, true), .faddr 58 (S 3) 2)), (some [], (some (55, true), .load 59 (S 58) false 1)), (some [], (some (55, true), .iaddr 60 (S 57) (S 59) 1)), (some [], (some (55, true), .load 61 (S 60) false 1)), (some [], (some (55, true), .bin 62 .geq (S 61) (K 0))), (some [], (none, .pick 63 (S 55) (S 62) (KB false))), (some [], (none, .mv 64 (S 63))), (some [], (some (64, true), .faddr 65 (S 3) 0)), (some [], (some (64, true), .load 66 (S 65) false 1)), (some [], (some (64, true), .bin 67 .eql (S 66) (K 3))), (some [], (some (64, true), .mv 68 (S 67))), (some [], (some (68, false), .faddr 69 (S 2) 1)), (some [], (some (68, false), .load 70 (S 69) false 1)), (some [], (some (68, false), .faddr 71 (S 3) 2)), (some [], (some (68, false), .load 72 (S 71) false 1)), (some [], (some (68, false), .iaddr 73 (S 70) (S 72) 1)), (some [], (some (68, false), .load 74 (S 73) false 1)), (some [], (some (68, false), .faddr 75 (S 3) 1)), (some [], (some (68, false), .load 76 (S 75) false 1)), (some [], (some (68, false), .bin 77 .geq (S 74) (S 76))), (some [], (some (64, true), .pick 78 (S 68) (KB true) (S 77))), (some [], (none, .pick 79 (S 64) (S 78) (KB false))), (some [], (none, .mv 4 (S 79)))]) .ret))))))
theorem e_spec_l23Allowed : entry Try.prog 22 = some (c_spec_l23Allowed.strip, [4], 80) := by kernel_rfl
theorem w_spec_l23Allowed (a0 : XDesk) (a1 : XEntry) (r : Bool) (h : f_spec_l23Allowed a0 a1 = some r) : FC Try.prog 22 [.ag (XDesk.row a0), .ag (XEntry.row a1)] [.sc (.v (.bool r))] := by
  unfold f_spec_l23Allowed at h
  refine FC_go (σ := ⟨[(0, va [aI a0.Now, aL (List.map rI a0.Starts), aL (List.map rB a0.Cleared)]), (1, va [aI a1.Kind, aI a1.At, aI a1.Call, aI a1.Value])], [], []⟩) mixed e_spec_l23Allowed rfl rfl ?_
  simp only [c_spec_l23Allowed]
  try simp only [Nat.reduceBEq, Nat.reduceMul, Nat.reduceAdd, Nat.reduceDiv, Int.reduceBEq, rules2, rulesX, rowsX]
  refine go_bx rfl rfl rfl ?_
  try simp only [Nat.reduceBEq, Nat.reduceMul, Nat.reduceAdd, Nat.reduceDiv, Int.reduceBEq, rules2, rulesX, rowsX]
  refine go_bx rfl rfl rfl ?_
  obtain ⟨r1, hr1, h⟩ := ob h
  try simp only [Nat.reduceBEq, Nat.reduceMul, Nat.reduceAdd, Nat.reduceDiv, Int.reduceBEq, rules2, rulesX, rowsX]
  refine go_callI (w_spec_l01In _ _ _ _ hr1) rfl rfl (Nat.le_of_ble_eq_true rfl) ?_
  rcases Bool.eq_false_or_eq_true r1 with hb2 | hb2
  · rw [ite_t hb2] at h
    obtain ⟨r3, hr3, h⟩ := ob h
    try simp only [hb2, Nat.reduceBEq, Nat.reduceMul, Nat.reduceAdd, Nat.reduceDiv, Int.reduceBEq, rules2, rulesX, rowsX]
    refine go_callI (w_spec_l01In _ _ _ _ hr3) rfl rfl (Nat.le_of_ble_eq_true rfl) ?_
    rcases Bool.eq_false_or_eq_true r3 with hb4 | hb4
    · rw [ite_t hb4] at h
      rcases Bool.eq_false_or_eq_true (a1.Kind == (4 : Int)) with hb5 | hb5
      · rw [ite_t hb5] at h
        rcases Bool.eq_false_or_eq_true (a1.Call == (0 : Int)) with hb6 | hb6
        · rw [ite_t hb6] at h
          try simp only [hb2, hb4, hb5, hb6, Nat.reduceBEq, Nat.reduceMul, Nat.reduceAdd, Nat.reduceDiv, Int.reduceBEq, rules2, rulesX, rowsX]
          cases h
          exact ⟨⟨rfl, trivial⟩, rfl⟩
        · rw [ite_f hb6] at h
          try simp only [hb2, hb4, hb5, hb6, Nat.reduceBEq, Nat.reduceMul, Nat.reduceAdd, Nat.reduceDiv, Int.reduceBEq, rules2, rulesX, rowsX]
          cases h
          exact ⟨⟨rfl, trivial⟩, rfl⟩
      · rw [ite_f hb5] at h
        obtain ⟨r7, hr7, h⟩ := ob h
        try simp only [hb2, hb4, hb5, Nat.reduceBEq, Nat.reduceMul, Nat.reduceAdd, Nat.reduceDiv, Int.reduceBEq, rules2, rulesX, rowsX]
        refine go_callI (w_spec_l01In _ _ _ _ hr7) rfl rfl (Nat.le_of_ble_eq_true rfl) ?_
        rcases Bool.eq_false_or_eq_true r7 with hb8 | hb8
        · rw [ite_t hb8] at h
          obtain ⟨x9, hx9, h⟩ := ob h
          rcases Bool.eq_false_or_eq_true x9 with hb10 | hb10
          · rw [ite_t hb10] at h
            try simp only [hb2, hb4, hb5, hb8, hx9, hb10, Nat.reduceBEq, Nat.reduceMul, Nat.reduceAdd, Nat.reduceDiv, Int.reduceBEq, rules2, rulesX, rowsX]
            cases h
            exact ⟨⟨rfl, trivial⟩, rfl⟩
          · rw [ite_f hb10] at h
            rcases Bool.eq_false_or_eq_true (a1.Kind == (1 : Int)) with hb11 | hb11
            · rw [ite_t hb11] at h
              obtain ⟨r12, hr12, h⟩ := ob h
              try simp only [hb2, hb4, hb5, hb8, hx9, hb10, hb11, Nat.reduceBEq, Nat.reduceMul, Nat.reduceAdd, Nat.reduceDiv, Int.reduceBEq, rules2, rulesX, rowsX]
              refine go_callI (w_spec_l01In _ _ _ _ hr12) rfl rfl (Nat.le_of_ble_eq_true rfl) ?_
              try simp only [hb2, hb4, hb5, hb8, hx9, hb10, hb11, Nat.reduceBEq, Nat.reduceMul, Nat.reduceAdd, Nat.reduceDiv, Int.reduceBEq, rules2, rulesX, rowsX]
              cases h
              exact ⟨⟨rfl, trivial⟩, rfl⟩
            · rw [ite_f hb11] at h
              try simp only [hb2, hb4, hb5, hb8, hx9, hb10, hb11, Nat.reduceBEq, Nat.reduceMul, Nat.reduceAdd, Nat.reduceDiv, Int.reduceBEq, rules2, rulesX, rowsX]
              refine go_fr_of rfl ?_
              rcases Bool.eq_false_or_eq_true (a1.Value == (0 : Int)) with hb13 | hb13
              · rw [ite_t hb13] at h
                obtain ⟨x14, hx14, h⟩ := ob h
                rcases Bool.eq_false_or_eq_true (decide ((0 : Int) ≤ x14)) with hb15 | hb15
                · rw [ite_t hb15] at h
                  rcases Bool.eq_false_or_eq_true (a1.Kind == (3 : Int)) with hb16 | hb16
                  · rw [ite_t hb16] at h
                    try simp only [hb2, hb4, hb5, hb8, hx9, hb10, hb11, hb13, hx14, hb15, hb16, Nat.reduceBEq, Nat.reduceMul, Nat.reduceAdd, Nat.reduceDiv, Int.reduceBEq, rules2, rulesX, rowsX]
                    cases h
                    exact ⟨⟨rfl, trivial⟩, rfl⟩
                  · rw [ite_f hb16] at h
                    try simp only [hb2, hb4, hb5, hb8, hx9, hb10, hb11, hb13, hx14, hb15, hb16, Nat.reduceBEq, Nat.reduceMul, Nat.reduceAdd, Nat.reduceDiv, Int.reduceBEq, rules2, rulesX, rowsX]
                    cases h
                    exact ⟨⟨rfl, trivial⟩, rfl⟩
                · rw [ite_f hb15] at h
                  try simp only [hb2, hb4, hb5, hb8, hx9, hb10, hb11, hb13, hx14, hb15, Nat.reduceBEq, Nat.reduceMul, Nat.reduceAdd, Nat.reduceDiv, Int.reduceBEq, rules2, rulesX, rowsX]
                  cases h
                  exact ⟨⟨rfl, trivial⟩, rfl⟩
              · rw [ite_f hb13] at h
                try simp only [hb2, hb4, hb5, hb8, hx9, hb10, hb11, hb13, Nat.reduceBEq, Nat.reduceMul, Nat.reduceAdd, Nat.reduceDiv, Int.reduceBEq, rules2, rulesX, rowsX]
                cases h
                exact ⟨⟨rfl, trivial⟩, rfl⟩
        · rw [ite_f hb8] at h
          try simp only [hb2, hb4, hb5, hb8, Nat.reduceBEq, Nat.reduceMul, Nat.reduceAdd, Nat.reduceDiv, Int.reduceBEq, rules2, rulesX, rowsX]
          cases h
          exact ⟨⟨rfl, trivial⟩, rfl⟩
    · rw [ite_f hb4] at h
      try simp only [hb2, hb4, Nat.reduceBEq, Nat.reduceMul, Nat.reduceAdd, Nat.reduceDiv, Int.reduceBEq, rules2, rulesX, rowsX]
      cases h
      exact ⟨⟨rfl, trivial⟩, rfl⟩
  · rw [ite_f hb2] at h
    try simp only [hb2, Nat.reduceBEq, Nat.reduceMul, Nat.reduceAdd, Nat.reduceDiv, Int.reduceBEq, rules2, rulesX, rowsX]
    cases h
    exact ⟨⟨rfl, trivial⟩, rfl⟩
/- 6: spec_ApplyEntry -/
def c_spec_ApplyEntry_1 : ACode := .seq (.reg [(none, .keep [3, 4, 6, 17] [3, 4, 6] [513, 514])]) (.cond (S 17) (.seq (.reg [(none, .load 18 (S 6) true 3), (none, .store (S 4) (S 18) 3), (none, .mv 5 (KB false))]) .ret) .skip)
def c_spec_ApplyEntry_2 : ACode := .seq (.reg [(none, .keep [4, 6] [4, 6] [513, 514])]) (.seq (.reg [(none, .load 47 (S 6) true 3), (none, .store (S 4) (S 47) 3), (none, .mv 5 (KB true))]) .ret)
def c_spec_ApplyEntry_n1 : ACode := (.seq (.reg [(none, .faddr 19 (S 3) 1), (none, .load 20 (S 19) false 1), (none, .faddr 21 (S 6) 0), (none, .store (S 21) (S 20) 1)]) (.seq (.seq (.reg [(none, .faddr 22 (S 3) 0), (none, .load 23 (S 22) false 1)]) (.block 0 (.seq (.reg [(none, .bin 25 .eql (S 23) (K 1)), (none, .mv 24 (S 25))]) (.cond (S 24) (.reg [(none, .faddr 26 (S 6) 1), (none, .load 27 (S 26) false 1), (none, .faddr 28 (S 3) 2), (none, .load 29 (S 28) false 1), (none, .faddr 30 (S 3) 3), (none, .load 31 (S 30) false 1), (none, .iaddr 32 (S 27) (S 29) 1), (none, .store (S 32) (S 31) 1)]) (.seq (.reg [(none, .bin 34 .eql (S 23) (K 2)), (none, .mv 33 (S 34))]) (.cond (S 33) (.reg [(none, .faddr 35 (S 6) 2), (none, .load 36 (S 35) false 1), (none, .faddr 37 (S 3) 2), (none, .load 38 (S 37) false 1), (none, .iaddr 39 (S 36) (S 38) 1), (none, .store (S 39) (KB true) 1)]) (.seq (.reg [(none, .bin 41 .eql (S 23) (K 3)), (none, .mv 40 (S 41))]) (.cond (S 40) (.reg [(none, .faddr 42 (S 6) 1), (none, .load 43 (S 42) false 1), (none, .faddr 44 (S 3) 2), (none, .load 45 (S 44) false 1), (none, .iaddr 46 (S 43) (S 45) 1), (none, .store (S 46) (K (-1)) 1)]) .skip)))))))) c_spec_ApplyEntry_2))
def c_spec_ApplyEntry : ACode := (.seq (.reg [(none, .box 2 (S 0)), (none, .box 3 (S 1)), (none, .alloc 4 [aI 0, .nil, .nil]), (none, .mv 5 (KB false))]) (.seq (.reg [(none, .load 7 (S 2) true 3), (none, .call 8 20 [(S 7)]), (none, .alloc 6 [aI 0, .nil, .nil]), (none, .store (S 6) (S 8) 3)]) (.seq (.seq (.reg [(none, .load 9 (S 2) true 3), (none, .call 10 21 [(S 9)]), (none, .un 11 .not (S 10)), (none, .mv 12 (S 11)), (some (12, false), .load 13 (S 2) true 3), (some (12, false), .load 14 (S 3) true 4), (some (12, false), .call 15 22 [(S 13), (S 14)]), (some (12, false), .un 16 .not (S 15)), (none, .pick 17 (S 12) (KB true) (S 16))]) c_spec_ApplyEntry_1) c_spec_ApplyEntry_n1)))
theorem w_spec_ApplyEntry_2 (a1 : XEntry) (v13 : List Int) (v14 : List Bool) (r : XDesk × Bool) (h : f_spec_ApplyEntry_2 a1 v13 v14 = some r) (σ : St) (hσ : σ.kept [4, 6] [4, 6] [513, 514] = ⟨[(4, vc (.pb 4 0)), (6, vc (.pb 6 0))], [(4, [aI (0 : Int), .nil, .nil]), (6, [aI a1.At, .own 513, .own 514])], [(513, 1, List.map rI v13), (514, 1, List.map rB v14)]⟩) : go Try.prog (.code c_spec_ApplyEntry_2 :: []) (Ret [.c 4 true 3, 5] [.ag [.v (.int .i64 r.1.Now), .o 1 (List.map rI r.1.Starts), .o 1 (List.map rB r.1.Cleared)], .sc (.v (.bool r.2))]) .normal (some σ) := by
  unfold f_spec_ApplyEntry_2 at h
  try simp only [hσ, c_spec_ApplyEntry_2, Nat.reduceBEq, Nat.reduceMul, Nat.reduceAdd, Nat.reduceDiv, Int.reduceBEq, rules2, rulesX, rowsX]
  cases h
  try simp only [rulesR, Nat.reduceBEq, Nat.reduceMul, Nat.reduceAdd, Nat.reduceDiv, Int.reduceBEq, rules2, rulesX, rowsX]
  exact ⟨⟨⟨rfl, rfl, rfl, trivial⟩, rfl, trivial⟩, rfl⟩
theorem w_spec_ApplyEntry_1 (a1 : XEntry) (r1 : XDesk) (v5 : Bool) (r : XDesk × Bool) (h : f_spec_ApplyEntry_1 a1 r1 v5 = some r) (σ : St) (hσ : σ.kept [3, 4, 6, 17] [3, 4, 6] [513, 514] = ⟨[(3, vc (.pb 3 0)), (4, vc (.pb 4 0)), (6, vc (.pb 6 0)), (17, vc (aB v5))], [(3, [aI a1.Kind, aI a1.At, aI a1.Call, aI a1.Value]), (4, [aI (0 : Int), .nil, .nil]), (6, [aI r1.Now, .own 513, .own 514])], [(513, 1, List.map rI r1.Starts), (514, 1, List.map rB r1.Cleared)]⟩) : go Try.prog (.code c_spec_ApplyEntry_1 :: [.code c_spec_ApplyEntry_n1]) (Ret [.c 4 true 3, 5] [.ag [.v (.int .i64 r.1.Now), .o 1 (List.map rI r.1.Starts), .o 1 (List.map rB r.1.Cleared)], .sc (.v (.bool r.2))]) .normal (some σ) := by
  unfold f_spec_ApplyEntry_1 at h
  rcases Bool.eq_false_or_eq_true v5 with hb6 | hb6
  · rw [ite_t hb6] at h
    try simp only [hσ, hb6, c_spec_ApplyEntry_1, Nat.reduceBEq, Nat.reduceMul, Nat.reduceAdd, Nat.reduceDiv, Int.reduceBEq, rules2, rulesX, rowsX]
    cases h
    try simp only [rulesR, Nat.reduceBEq, Nat.reduceMul, Nat.reduceAdd, Nat.reduceDiv, Int.reduceBEq, rules2, rulesX, rowsX]
    exact ⟨⟨⟨rfl, rfl, rfl, trivial⟩, rfl, trivial⟩, rfl⟩
  · rw [ite_f hb6] at h
    rcases Bool.eq_false_or_eq_true (a1.Kind == (1 : Int)) with hb7 | hb7
    · rw [ite_t hb7] at h
      obtain ⟨x8, hx8, h⟩ := ob h
      have hx8n := ix_get hx8
      try simp only [hσ, hb6, hb7, hx8, c_spec_ApplyEntry_1, c_spec_ApplyEntry_n1, Nat.reduceBEq, Nat.reduceMul, Nat.reduceAdd, Nat.reduceDiv, Int.reduceBEq, rules2, rulesX, rowsX]
      refine go_stp (y := a1.Value) rfl rfl hx8n rfl rfl rfl ?_
      try simp only [hb6, hb7, hx8, Nat.reduceBEq, Nat.reduceMul, Nat.reduceAdd, Nat.reduceDiv, Int.reduceBEq, rules2, rulesX, rowsX]
      refine w_spec_ApplyEntry_2 _ _ _ _ h _ ?_
      try simp only [hb6, hb7, hx8, Nat.reduceBEq, Nat.reduceMul, Nat.reduceAdd, Nat.reduceDiv, Int.reduceBEq, rules2, rulesX, rowsX, List.map_nil]
    · rw [ite_f hb7] at h
      rcases Bool.eq_false_or_eq_true (a1.Kind == (2 : Int)) with hb9 | hb9
      · rw [ite_t hb9] at h
        obtain ⟨x10, hx10, h⟩ := ob h
        have hx10n := ix_get hx10
        try simp only [hσ, hb6, hb7, hb9, hx10, c_spec_ApplyEntry_1, c_spec_ApplyEntry_n1, Nat.reduceBEq, Nat.reduceMul, Nat.reduceAdd, Nat.reduceDiv, Int.reduceBEq, rules2, rulesX, rowsX]
        refine go_stp (y := true) rfl rfl hx10n rfl rfl rfl ?_
        try simp only [hb6, hb7, hb9, hx10, Nat.reduceBEq, Nat.reduceMul, Nat.reduceAdd, Nat.reduceDiv, Int.reduceBEq, rules2, rulesX, rowsX]
        refine w_spec_ApplyEntry_2 _ _ _ _ h _ ?_
        try simp only [hb6, hb7, hb9, hx10, Nat.reduceBEq, Nat.reduceMul, Nat.reduceAdd, Nat.reduceDiv, Int.reduceBEq, rules2, rulesX, rowsX, List.map_nil]
      · rw [ite_f hb9] at h
        rcases Bool.eq_false_or_eq_true (a1.Kind == (3 : Int)) with hb11 | hb11
        · rw [ite_t hb11] at h
          obtain ⟨x12, hx12, h⟩ := ob h
          have hx12n := ix_get hx12
          try simp only [hσ, hb6, hb7, hb9, hb11, hx12, c_spec_ApplyEntry_1, c_spec_ApplyEntry_n1, Nat.reduceBEq, Nat.reduceMul, Nat.reduceAdd, Nat.reduceDiv, Int.reduceBEq, rules2, rulesX, rowsX]
          refine go_stp (y := (-1 : Int)) rfl rfl hx12n rfl rfl rfl ?_
          try simp only [hb6, hb7, hb9, hb11, hx12, Nat.reduceBEq, Nat.reduceMul, Nat.reduceAdd, Nat.reduceDiv, Int.reduceBEq, rules2, rulesX, rowsX]
          refine w_spec_ApplyEntry_2 _ _ _ _ h _ ?_
          try simp only [hb6, hb7, hb9, hb11, hx12, Nat.reduceBEq, Nat.reduceMul, Nat.reduceAdd, Nat.reduceDiv, Int.reduceBEq, rules2, rulesX, rowsX, List.map_nil]
        · rw [ite_f hb11] at h
          try simp only [hσ, hb6, hb7, hb9, hb11, c_spec_ApplyEntry_1, c_spec_ApplyEntry_n1, Nat.reduceBEq, Nat.reduceMul, Nat.reduceAdd, Nat.reduceDiv, Int.reduceBEq, rules2, rulesX, rowsX]
          refine w_spec_ApplyEntry_2 _ _ _ _ h _ ?_
          try simp only [hb6, hb7, hb9, hb11, Nat.reduceBEq, Nat.reduceMul, Nat.reduceAdd, Nat.reduceDiv, Int.reduceBEq, rules2, rulesX, rowsX, List.map_nil]
theorem e_spec_ApplyEntry : entry Try.prog 6 = some (c_spec_ApplyEntry.strip, [.c 4 true 3, 5], 48) := by kernel_rfl
theorem w_spec_ApplyEntry (a0 : XDesk) (a1 : XEntry) (r : XDesk × Bool) (h : f_spec_ApplyEntry a0 a1 = some r) : FC Try.prog 6 [.ag (XDesk.row a0), .ag (XEntry.row a1)] [.ag [.v (.int .i64 r.1.Now), .o 1 (List.map rI r.1.Starts), .o 1 (List.map rB r.1.Cleared)], .sc (.v (.bool r.2))] := by
  unfold f_spec_ApplyEntry at h
  refine FC_go (σ := ⟨[(0, va [aI a0.Now, aL (List.map rI a0.Starts), aL (List.map rB a0.Cleared)]), (1, va [aI a1.Kind, aI a1.At, aI a1.Call, aI a1.Value])], [], []⟩) mixed e_spec_ApplyEntry rfl rfl ?_
  simp only [c_spec_ApplyEntry]
  try simp only [Nat.reduceBEq, Nat.reduceMul, Nat.reduceAdd, Nat.reduceDiv, Int.reduceBEq, rules2, rulesX, rowsX]
  refine go_bx rfl rfl rfl ?_
  try simp only [Nat.reduceBEq, Nat.reduceMul, Nat.reduceAdd, Nat.reduceDiv, Int.reduceBEq, rules2, rulesX, rowsX]
  refine go_bx rfl rfl rfl ?_
  try simp only [Nat.reduceBEq, Nat.reduceMul, Nat.reduceAdd, Nat.reduceDiv, Int.reduceBEq, rules2, rulesX, rowsX]
  refine go_al rfl rfl ?_
  obtain ⟨r1, hr1, h⟩ := ob h
  try simp only [Nat.reduceBEq, Nat.reduceMul, Nat.reduceAdd, Nat.reduceDiv, Int.reduceBEq, rules2, rulesX, rowsX]
  refine go_callI (w_spec_l23Copy _ _ hr1) rfl rfl (Nat.le_of_ble_eq_true rfl) ?_
  try simp only [Nat.reduceBEq, Nat.reduceMul, Nat.reduceAdd, Nat.reduceDiv, Int.reduceBEq, rules2, rulesX, rowsX]
  refine go_al rfl rfl ?_
  obtain ⟨r2, hr2, h⟩ := ob h
  try simp only [Nat.reduceBEq, Nat.reduceMul, Nat.reduceAdd, Nat.reduceDiv, Int.reduceBEq, rules2, rulesX, rowsX]
  refine go_callI (w_spec_DeskOk _ _ hr2) rfl rfl (Nat.le_of_ble_eq_true rfl) ?_
  rcases Bool.eq_false_or_eq_true r2 with hb3 | hb3
  · rw [ite_t hb3] at h
    obtain ⟨r4, hr4, h⟩ := ob h
    try simp only [hb3, Nat.reduceBEq, Nat.reduceMul, Nat.reduceAdd, Nat.reduceDiv, Int.reduceBEq, rules2, rulesX, rowsX]
    refine go_callI (w_spec_l23Allowed _ _ _ hr4) rfl rfl (Nat.le_of_ble_eq_true rfl) ?_
    try simp only [hb3, Nat.reduceBEq, Nat.reduceMul, Nat.reduceAdd, Nat.reduceDiv, Int.reduceBEq, rules2, rulesX, rowsX]
    refine w_spec_ApplyEntry_1 _ _ _ _ h _ ?_
    try simp only [hb3, Nat.reduceBEq, Nat.reduceMul, Nat.reduceAdd, Nat.reduceDiv, Int.reduceBEq, rules2, rulesX, rowsX, List.map_nil]
  · rw [ite_f hb3] at h
    try simp only [hb3, Nat.reduceBEq, Nat.reduceMul, Nat.reduceAdd, Nat.reduceDiv, Int.reduceBEq, rules2, rulesX, rowsX]
    refine w_spec_ApplyEntry_1 _ _ _ _ h _ ?_
    try simp only [hb3, Nat.reduceBEq, Nat.reduceMul, Nat.reduceAdd, Nat.reduceDiv, Int.reduceBEq, rules2, rulesX, rowsX, List.map_nil]
/- 44: impl_clone_int -/
def c_impl_clone_int : ACode := (.seq (.reg [(none, .mv 2 KN)]) (.seq (.reg [(none, .mv 3 (S 0)), (none, .len 4 (S 3)), (none, .mksl 5 1 8 [.int .i64 0] (K 0) (S 4)), (none, .mv 6 (S 0)), (none, .app 7 1 8 (S 5) (S 6)), (none, .mv 2 (S 7))]) .ret))
theorem e_impl_clone_int : entry Try.prog 44 = some (c_impl_clone_int.strip, [2], 8) := by kernel_rfl
theorem w_impl_clone_int (a0 : List Int) (r : (List Int)) (h : f_impl_clone_int a0 = some r) : FC Try.prog 44 [.sc (.sl (List.map rI a0))] [.sc (.o 1 (List.map rI r))] := by
  unfold f_impl_clone_int at h
  refine FC_go (σ := ⟨[(0, vc (aL (List.map rI a0)))], [], []⟩) mixed e_impl_clone_int rfl rfl ?_
  simp only [c_impl_clone_int]
  obtain ⟨n1, hn1, h⟩ := ob h
  try simp only [Nat.reduceBEq, Nat.reduceMul, Nat.reduceAdd, Nat.reduceDiv, Int.reduceBEq, rules2, rulesX, rowsX]
  refine go_mks (es := List.map rI (List.replicate n1 (0 : Int))) rfl rfl hn1 rfl (rep_map rfl) rfl ?_
  obtain ⟨hg2, h⟩ := of_guard h
  try simp only [hg2, Nat.reduceBEq, Nat.reduceMul, Nat.reduceAdd, Nat.reduceDiv, Int.reduceBEq, rules2, rulesX, rowsX]
  cases h
  exact ⟨⟨rfl, trivial⟩, rfl⟩
/- 45: impl_clone_bool -/
def c_impl_clone_bool : ACode := (.seq (.reg [(none, .mv 2 KN)]) (.seq (.reg [(none, .mv 3 (S 0)), (none, .len 4 (S 3)), (none, .mksl 5 1 1 [.bool false] (K 0) (S 4)), (none, .mv 6 (S 0)), (none, .app 7 1 1 (S 5) (S 6)), (none, .mv 2 (S 7))]) .ret))
theorem e_impl_clone_bool : entry Try.prog 45 = some (c_impl_clone_bool.strip, [2], 8) := by kernel_rfl
theorem w_impl_clone_bool (a0 : List Bool) (r : (List Bool)) (h : f_impl_clone_bool a0 = some r) : FC Try.prog 45 [.sc (.sl (List.map rB a0))] [.sc (.o 1 (List.map rB r))] := by
  unfold f_impl_clone_bool at h
  refine FC_go (σ := ⟨[(0, vc (aL (List.map rB a0)))], [], []⟩) mixed e_impl_clone_bool rfl rfl ?_
  simp only [c_impl_clone_bool]
  obtain ⟨n1, hn1, h⟩ := ob h
  try simp only [Nat.reduceBEq, Nat.reduceMul, Nat.reduceAdd, Nat.reduceDiv, Int.reduceBEq, rules2, rulesX, rowsX]
  refine go_mks (es := List.map rB (List.replicate n1 false)) rfl rfl hn1 rfl (rep_map rfl) rfl ?_
  obtain ⟨hg2, h⟩ := of_guard h
  try simp only [hg2, Nat.reduceBEq, Nat.reduceMul, Nat.reduceAdd, Nat.reduceDiv, Int.reduceBEq, rules2, rulesX, rowsX]
  cases h
  exact ⟨⟨rfl, trivial⟩, rfl⟩
/- 25: impl_copyDesk -/
def c_impl_copyDesk : ACode := (.seq (.reg [(none, .box 1 (S 0)), (none, .alloc 2 [aI 0, .nil, .nil])]) (.seq (.drw [(some [7, 10], (none, .faddr 3 (S 1) 0)), (some [7, 10], (none, .load 4 (S 3) false 1)), (some [], (none, .faddr 5 (S 1) 1)), (some [], (none, .load 6 (S 5) false 1)), (some [], (none, .call 7 44 [(S 6)])), (some [7], (none, .faddr 8 (S 1) 2)), (some [7], (none, .load 9 (S 8) false 1)), (some [], (none, .call 10 45 [(S 9)])), (some [], (none, .build 11 [aI 0, .nil, .nil] [(0, 1, (S 4)), (1, 1, (S 7)), (2, 1, (S 10))])), (none, (none, .store (S 2) (S 11) 3))]) .ret))
theorem e_impl_copyDesk : entry Try.prog 25 = some (c_impl_copyDesk.strip, [.c 2 true 3], 12) := by kernel_rfl
theorem w_impl_copyDesk (a0 : XDesk) (r : XDesk) (h : f_impl_copyDesk a0 = some r) : FC Try.prog 25 [.ag (XDesk.row a0)] [.ag [.v (.int .i64 r.Now), .o 1 (List.map rI r.Starts), .o 1 (List.map rB r.Cleared)]] := by
  unfold f_impl_copyDesk at h
  refine FC_go (σ := ⟨[(0, va [aI a0.Now, aL (List.map rI a0.Starts), aL (List.map rB a0.Cleared)])], [], []⟩) mixed e_impl_copyDesk rfl rfl ?_
  simp only [c_impl_copyDesk]
  try simp only [Nat.reduceBEq, Nat.reduceMul, Nat.reduceAdd, Nat.reduceDiv, Int.reduceBEq, rules2, rulesX, rowsX]
  refine go_bx rfl rfl rfl ?_
  try simp only [Nat.reduceBEq, Nat.reduceMul, Nat.reduceAdd, Nat.reduceDiv, Int.reduceBEq, rules2, rulesX, rowsX]
  refine go_al rfl rfl ?_
  try simp only [Nat.reduceBEq, Nat.reduceMul, Nat.reduceAdd, Nat.reduceDiv, Int.reduceBEq, rules2, rulesX, rowsX]
  refine go_fr_of rfl ?_
  obtain ⟨r1, hr1, h⟩ := ob h
  try simp only [Nat.reduceBEq, Nat.reduceMul, Nat.reduceAdd, Nat.reduceDiv, Int.reduceBEq, rules2, rulesX, rowsX]
  refine go_dcallI (w_impl_clone_int _ _ hr1) rfl rfl (Nat.le_of_ble_eq_true rfl) ?_
  obtain ⟨r2, hr2, h⟩ := ob h
  try simp only [Nat.reduceBEq, Nat.reduceMul, Nat.reduceAdd, Nat.reduceDiv, Int.reduceBEq, rules2, rulesX, rowsX]
  refine go_dcallI (w_impl_clone_bool _ _ hr2) rfl rfl (Nat.le_of_ble_eq_true rfl) ?_
  try simp only [Nat.reduceBEq, Nat.reduceMul, Nat.reduceAdd, Nat.reduceDiv, Int.reduceBEq, rules2, rulesX, rowsX]
  refine go_fr_of rfl ?_
  try simp only [Nat.reduceBEq, Nat.reduceMul, Nat.reduceAdd, Nat.reduceDiv, Int.reduceBEq, rules2, rulesX, rowsX]
  cases h
  try simp only [rulesR, Nat.reduceBEq, Nat.reduceMul, Nat.reduceAdd, Nat.reduceDiv, Int.reduceBEq, rules2, rulesX, rowsX]
  exact ⟨⟨⟨rfl, rfl, rfl, trivial⟩, trivial⟩, rfl⟩
/- 47: impl_within -/
def c_impl_within : ACode := (.seq (.reg [(none, .mv 6 (KB false))]) (.seq (.reg [(none, .mv 7 (S 1)), (none, .mv 8 (S 0)), (none, .bin 9 .leq (S 7) (S 8)), (none, .mv 10 (S 9)), (some (10, true), .mv 11 (S 0)), (some (10, true), .mv 12 (S 2)), (some (10, true), .bin 13 .leq (S 11) (S 12)), (none, .pick 14 (S 10) (S 13) (KB false)), (none, .mv 6 (S 14))]) .ret))
theorem e_impl_within : entry Try.prog 47 = some (c_impl_within.strip, [6], 15) := by kernel_rfl
theorem w_impl_within (a0 : Int) (a1 : Int) (a2 : Int) (r : Bool) (h : f_impl_within a0 a1 a2 = some r) : FC Try.prog 47 [.sc (.int .i64 a0), .sc (.int .i64 a1), .sc (.int .i64 a2)] [.sc (.v (.bool r))] := by
  unfold f_impl_within at h
  refine FC_go (σ := ⟨[(0, vc (aI a0)), (1, vc (aI a1)), (2, vc (aI a2))], [], []⟩) mixed e_impl_within rfl rfl ?_
  simp only [c_impl_within]
  rcases Bool.eq_false_or_eq_true (decide (a1 ≤ a0)) with hb1 | hb1
  · rw [ite_t hb1] at h
    try simp only [hb1, Nat.reduceBEq, Nat.reduceMul, Nat.reduceAdd, Nat.reduceDiv, Int.reduceBEq, rules2, rulesX, rowsX]
    cases h
    exact ⟨⟨rfl, trivial⟩, rfl⟩
  · rw [ite_f hb1] at h
    try simp only [hb1, Nat.reduceBEq, Nat.reduceMul, Nat.reduceAdd, Nat.reduceDiv, Int.reduceBEq, rules2, rulesX, rowsX]
    cases h
    exact ⟨⟨rfl, trivial⟩, rfl⟩
/- 46: impl_isMinute -/
def c_impl_isMinute : ACode := (.seq (.reg [(none, .mv 2 (KB false))]) (.seq (.reg [(none, .mv 3 (S 0)), (none, .call 4 47 [(S 3), (K 0), (K 2880)]), (none, .mv 2 (S 4))]) .ret))
theorem e_impl_isMinute : entry Try.prog 46 = some (c_impl_isMinute.strip, [2], 5) := by kernel_rfl
theorem w_impl_isMinute (a0 : Int) (r : Bool) (h : f_impl_isMinute a0 = some r) : FC Try.prog 46 [.sc (.int .i64 a0)] [.sc (.v (.bool r))] := by
  unfold f_impl_isMinute at h
  refine FC_go (σ := ⟨[(0, vc (aI a0))], [], []⟩) mixed e_impl_isMinute rfl rfl ?_
  simp only [c_impl_isMinute]
  obtain ⟨r1, hr1, h⟩ := ob h
  try simp only [Nat.reduceBEq, Nat.reduceMul, Nat.reduceAdd, Nat.reduceDiv, Int.reduceBEq, rules2, rulesX, rowsX]
  refine go_callI (w_impl_within _ _ _ _ hr1) rfl rfl (Nat.le_of_ble_eq_true rfl) ?_
  try simp only [Nat.reduceBEq, Nat.reduceMul, Nat.reduceAdd, Nat.reduceDiv, Int.reduceBEq, rules2, rulesX, rowsX]
  cases h
  exact ⟨⟨rfl, trivial⟩, rfl⟩
/- 26: impl_DeskOk -/
def c_impl_DeskOk_1 : ACode := .seq (.reg [(none, .keep [1, 25, 26, 27] [1] [])]) (.seq (.reg [(none, .bin 28 .lss (S 27) (S 26))]) (.seq (.cond (S 28) .skip (.exit 0)) (.seq (.block 1 (.seq (.reg [(none, .mv 29 (S 27)), (none, .iaddr 30 (S 25) (S 27) 1), (none, .load 31 (S 30) false 1), (none, .mv 3 (S 29)), (none, .mv 4 (S 31))]) (.seq (.reg [(none, .mv 32 (S 4)), (none, .call 33 47 [(S 32), (K (-1)), (K 2880)]), (none, .un 34 .not (S 33)), (none, .mv 35 (S 34)), (some (35, false), .faddr 36 (S 1) 2), (some (35, false), .load 37 (S 36) false 1), (some (35, false), .mv 38 (S 3)), (some (35, false), .iaddr 39 (S 37) (S 38) 1), (some (35, false), .load 40 (S 39) false 1), (some (35, false), .mv 41 (S 40)), (some (41, true), .mv 42 (S 4)), (some (41, true), .bin 43 .lss (S 42) (K 0)), (some (35, false), .pick 44 (S 41) (S 43) (KB false)), (none, .pick 45 (S 35) (KB true) (S 44))]) (.cond (S 45) (.seq (.reg [(none, .mv 2 (KB false))]) .ret) .skip)))) (.reg [(none, .bin 46 .add (S 27) (K 1)), (none, .mv 27 (S 46))]))))
def c_impl_DeskOk_n1 : ACode := (.seq (.reg [(none, .mv 2 (KB true))]) .ret)
def c_impl_DeskOk : ACode := (.seq (.reg [(none, .box 1 (S 0)), (none, .mv 2 (KB false))]) (.seq (.seq (.reg [(none, .faddr 5 (S 1) 0), (none, .load 6 (S 5) false 1), (none, .call 7 46 [(S 6)]), (none, .un 8 .not (S 7)), (none, .mv 9 (S 8)), (some (9, false), .faddr 10 (S 1) 1), (some (9, false), .load 11 (S 10) false 1), (some (9, false), .len 12 (S 11)), (some (9, false), .bin 13 .gtr (S 12) (K 6)), (none, .pick 14 (S 9) (KB true) (S 13)), (none, .mv 15 (S 14)), (some (15, false), .faddr 16 (S 1) 2), (some (15, false), .load 17 (S 16) false 1), (some (15, false), .len 18 (S 17)), (some (15, false), .faddr 19 (S 1) 1), (some (15, false), .load 20 (S 19) false 1), (some (15, false), .len 21 (S 20)), (some (15, false), .bin 22 .neq (S 18) (S 21)), (none, .pick 23 (S 15) (KB true) (S 22))]) (.cond (S 23) (.seq (.reg [(none, .mv 2 (KB false))]) .ret) .skip)) (.seq (.seq (.reg [(none, .faddr 24 (S 1) 1), (none, .load 25 (S 24) false 1), (none, .len 26 (S 25)), (none, .mv 27 (K 0))]) (.block 0 (.loop c_impl_DeskOk_1))) c_impl_DeskOk_n1)))
theorem w_impl_DeskOk_1 (a0 : XDesk) : ∀ (n : Nat) (v5 : Int) (r : Bool), f_impl_DeskOk_1 a0 n v5 = some r → ∀ σ : St, σ.kept [1, 25, 26, 27] [1] [] = ⟨[(1, vc (.pb 1 0)), (25, vc (aL (List.map rI a0.Starts))), (26, vc (aI (a0.Starts.length : Int))), (27, vc (aI v5))], [(1, [aI a0.Now, aL (List.map rI a0.Starts), aL (List.map rB a0.Cleared)])], []⟩ → go Try.prog (.code (.loop c_impl_DeskOk_1) :: [.blk 0, .code c_impl_DeskOk_n1]) (Ret [2] [.sc (.v (.bool r))]) .normal (some σ) := by
  intro n
  induction n with
  | zero => intro _ r h; cases h
  | succ n ih =>
    intro v5 r h σ hσ
    rw [f_impl_DeskOk_1] at h
    refine go_round ?_
    rcases Bool.eq_false_or_eq_true (decide (v5 < (a0.Starts.length : Int))) with hb6 | hb6
    · rw [ite_t hb6] at h
      obtain ⟨x7, hx7, h⟩ := ob h
      obtain ⟨r8, hr8, h⟩ := ob h
      try simp only [hσ, hb6, hx7, c_impl_DeskOk_1, Nat.reduceBEq, Nat.reduceMul, Nat.reduceAdd, Nat.reduceDiv, Int.reduceBEq, rules2, rulesX, rowsX]
      refine go_callI (w_impl_within _ _ _ _ hr8) rfl rfl (Nat.le_of_ble_eq_true rfl) ?_
      rcases Bool.eq_false_or_eq_true r8 with hb9 | hb9
      · rw [ite_t hb9] at h
        obtain ⟨x10, hx10, h⟩ := ob h
        rcases Bool.eq_false_or_eq_true x10 with hb11 | hb11
        · rw [ite_t hb11] at h
          rcases Bool.eq_false_or_eq_true (decide (x7 < (0 : Int))) with hb12 | hb12
          · rw [ite_t hb12] at h
            try simp only [hb6, hx7, hb9, hx10, hb11, hb12, Nat.reduceBEq, Nat.reduceMul, Nat.reduceAdd, Nat.reduceDiv, Int.reduceBEq, rules2, rulesX, rowsX]
            cases h
            exact ⟨⟨rfl, trivial⟩, rfl⟩
          · rw [ite_f hb12] at h
            try simp only [hb6, hx7, hb9, hx10, hb11, hb12, Nat.reduceBEq, Nat.reduceMul, Nat.reduceAdd, Nat.reduceDiv, Int.reduceBEq, rules2, rulesX, rowsX]
            refine ih _ _ h _ ?_
            try simp only [hb6, hx7, hb9, hx10, hb11, hb12, Nat.reduceBEq, Nat.reduceMul, Nat.reduceAdd, Nat.reduceDiv, Int.reduceBEq, rules2, rulesX, rowsX, List.map_nil]
        · rw [ite_f hb11] at h
          try simp only [hb6, hx7, hb9, hx10, hb11, Nat.reduceBEq, Nat.reduceMul, Nat.reduceAdd, Nat.reduceDiv, Int.reduceBEq, rules2, rulesX, rowsX]
          refine ih _ _ h _ ?_
          try simp only [hb6, hx7, hb9, hx10, hb11, Nat.reduceBEq, Nat.reduceMul, Nat.reduceAdd, Nat.reduceDiv, Int.reduceBEq, rules2, rulesX, rowsX, List.map_nil]
      · rw [ite_f hb9] at h
        try simp only [hb6, hx7, hb9, Nat.reduceBEq, Nat.reduceMul, Nat.reduceAdd, Nat.reduceDiv, Int.reduceBEq, rules2, rulesX, rowsX]
        cases h
        exact ⟨⟨rfl, trivial⟩, rfl⟩
    · rw [ite_f hb6] at h
      try simp only [hσ, hb6, c_impl_DeskOk_1, c_impl_DeskOk_n1, Nat.reduceBEq, Nat.reduceMul, Nat.reduceAdd, Nat.reduceDiv, Int.reduceBEq, rules2, rulesX, rowsX]
      cases h
      exact ⟨⟨rfl, trivial⟩, rfl⟩
theorem e_impl_DeskOk : entry Try.prog 26 = some (c_impl_DeskOk.strip, [2], 47) := by kernel_rfl
theorem w_impl_DeskOk (a0 : XDesk) (r : Bool) (h : f_impl_DeskOk a0 = some r) : FC Try.prog 26 [.ag (XDesk.row a0)] [.sc (.v (.bool r))] := by
  unfold f_impl_DeskOk at h
  refine FC_go (σ := ⟨[(0, va [aI a0.Now, aL (List.map rI a0.Starts), aL (List.map rB a0.Cleared)])], [], []⟩) mixed e_impl_DeskOk rfl rfl ?_
  simp only [c_impl_DeskOk]
  try simp only [Nat.reduceBEq, Nat.reduceMul, Nat.reduceAdd, Nat.reduceDiv, Int.reduceBEq, rules2, rulesX, rowsX]
  refine go_bx rfl rfl rfl ?_
  obtain ⟨r1, hr1, h⟩ := ob h
  try simp only [Nat.reduceBEq, Nat.reduceMul, Nat.reduceAdd, Nat.reduceDiv, Int.reduceBEq, rules2, rulesX, rowsX]
  refine go_callI (w_impl_isMinute _ _ hr1) rfl rfl (Nat.le_of_ble_eq_true rfl) ?_
  rcases Bool.eq_false_or_eq_true r1 with hb2 | hb2
  · rw [ite_t hb2] at h
    rcases Bool.eq_false_or_eq_true (decide ((6 : Int) < (a0.Starts.length : Int))) with hb3 | hb3
    · rw [ite_t hb3] at h
      try simp only [hb2, hb3, Nat.reduceBEq, Nat.reduceMul, Nat.reduceAdd, Nat.reduceDiv, Int.reduceBEq, rules2, rulesX, rowsX]
      cases h
      exact ⟨⟨rfl, trivial⟩, rfl⟩
    · rw [ite_f hb3] at h
      rcases Bool.eq_false_or_eq_true ((a0.Cleared.length : Int) != (a0.Starts.length : Int)) with hb4 | hb4
      · rw [ite_t hb4] at h
        try simp only [hb2, hb3, hb4, Nat.reduceBEq, Nat.reduceMul, Nat.reduceAdd, Nat.reduceDiv, Int.reduceBEq, rules2, rulesX, rowsX]
        cases h
        exact ⟨⟨rfl, trivial⟩, rfl⟩
      · rw [ite_f hb4] at h
        try simp only [hb2, hb3, hb4, Nat.reduceBEq, Nat.reduceMul, Nat.reduceAdd, Nat.reduceDiv, Int.reduceBEq, rules2, rulesX, rowsX]
        refine w_impl_DeskOk_1 _ _ _ _ h _ ?_
        try simp only [hb2, hb3, hb4, Nat.reduceBEq, Nat.reduceMul, Nat.reduceAdd, Nat.reduceDiv, Int.reduceBEq, rules2, rulesX, rowsX, List.map_nil]
  · rw [ite_f hb2] at h
    try simp only [hb2, Nat.reduceBEq, Nat.reduceMul, Nat.reduceAdd, Nat.reduceDiv, Int.reduceBEq, rules2, rulesX, rowsX]
    cases h
    exact ⟨⟨rfl, trivial⟩, rfl⟩
/- 48: impl_isIndex -/
def c_impl_isIndex : ACode := (.seq (.reg [(none, .mv 4 (KB false))]) (.seq (.reg [(none, .mv 5 (S 0)), (none, .bin 6 .geq (S 5) (K 0)), (none, .mv 7 (S 6)), (some (7, true), .mv 8 (S 0)), (some (7, true), .mv 9 (S 1)), (some (7, true), .bin 10 .lss (S 8) (S 9)), (none, .pick 11 (S 7) (S 10) (KB false)), (none, .mv 4 (S 11))]) .ret))
theorem e_impl_isIndex : entry Try.prog 48 = some (c_impl_isIndex.strip, [4], 12) := by kernel_rfl
theorem w_impl_isIndex (a0 : Int) (a1 : Int) (r : Bool) (h : f_impl_isIndex a0 a1 = some r) : FC Try.prog 48 [.sc (.int .i64 a0), .sc (.int .i64 a1)] [.sc (.v (.bool r))] := by
  unfold f_impl_isIndex at h
  refine FC_go (σ := ⟨[(0, vc (aI a0)), (1, vc (aI a1))], [], []⟩) mixed e_impl_isIndex rfl rfl ?_
  simp only [c_impl_isIndex]
  rcases Bool.eq_false_or_eq_true (decide ((0 : Int) ≤ a0)) with hb1 | hb1
  · rw [ite_t hb1] at h
    try simp only [hb1, Nat.reduceBEq, Nat.reduceMul, Nat.reduceAdd, Nat.reduceDiv, Int.reduceBEq, rules2, rulesX, rowsX]
    cases h
    exact ⟨⟨rfl, trivial⟩, rfl⟩
  · rw [ite_f hb1] at h
    try simp only [hb1, Nat.reduceBEq, Nat.reduceMul, Nat.reduceAdd, Nat.reduceDiv, Int.reduceBEq, rules2, rulesX, rowsX]
    cases h
    exact ⟨⟨rfl, trivial⟩, rfl⟩
/- 27: impl_applicable -/
def c_impl_applicable : ACode := (.seq (.reg [(none, .box 2 (S 0)), (none, .box 3 (S 1)), (none, .mv 4 (KB false))]) (.seq (.seq (.reg [(none, .faddr 6 (S 3) 1), (none, .load 7 (S 6) false 1), (none, .faddr 8 (S 2) 0), (none, .load 9 (S 8) false 1), (none, .call 10 47 [(S 7), (S 9), (K 2880)]), (none, .un 11 .not (S 10))]) (.cond (S 11) (.seq (.reg [(none, .mv 4 (KB false))]) .ret) .skip)) (.seq (.seq (.reg [(none, .faddr 12 (S 3) 0), (none, .load 13 (S 12) false 1), (none, .bin 14 .eql (S 13) (K 4))]) (.cond (S 14) (.seq (.reg [(none, .faddr 15 (S 3) 2), (none, .load 16 (S 15) false 1), (none, .bin 17 .eql (S 16) (K 0)), (none, .mv 18 (S 17)), (some (18, true), .faddr 19 (S 3) 3), (some (18, true), .load 20 (S 19) false 1), (some (18, true), .bin 21 .eql (S 20) (K 0)), (none, .pick 22 (S 18) (S 21) (KB false)), (none, .mv 4 (S 22))]) .ret) .skip)) (.seq (.seq (.reg [(none, .faddr 23 (S 3) 2), (none, .load 24 (S 23) false 1), (none, .faddr 25 (S 2) 1), (none, .load 26 (S 25) false 1), (none, .len 27 (S 26)), (none, .call 28 48 [(S 24), (S 27)]), (none, .un 29 .not (S 28)), (none, .mv 30 (S 29)), (some (30, false), .faddr 31 (S 2) 2), (some (30, false), .load 32 (S 31) false 1), (some (30, false), .faddr 33 (S 3) 2), (some (30, false), .load 34 (S 33) false 1), (some (30, false), .iaddr 35 (S 32) (S 34) 1), (some (30, false), .load 36 (S 35) false 1), (none, .pick 37 (S 30) (KB true) (S 36))]) (.cond (S 37) (.seq (.reg [(none, .mv 4 (KB false))]) .ret) .skip)) (.seq (.reg [(none, .faddr 38 (S 2) 1), (none, .load 39 (S 38) false 1), (none, .faddr 40 (S 3) 2), (none, .load 41 (S 40) false 1), (none, .iaddr 42 (S 39) (S 41) 1), (none, .load 43 (S 42) false 1), (none, .mv 5 (S 43))]) (.seq (.seq (.reg [(none, .faddr 44 (S 3) 0), (none, .load 45 (S 44) false 1)]) (.block 0 (.seq (.reg [(none, .bin 47 .eql (S 45) (K 1)), (none, .mv 46 (S 47))]) (.cond (S 46) (.seq (.reg [(none, .faddr 48 (S 3) 3), (none, .load 49 (S 48) false 1), (none, .faddr 50 (S 3) 1), (none, .load 51 (S 50) false 1), (none, .call 52 47 [(S 49), (S 51), (K 2880)]), (none, .mv 4 (S 52))]) .ret) (.seq (.reg [(none, .bin 54 .eql (S 45) (K 2)), (none, .mv 53 (S 54))]) (.cond (S 53) (.seq (.reg [(none, .faddr 55 (S 3) 3), (none, .load 56 (S 55) false 1), (none, .bin 57 .eql (S 56) (K 0)), (none, .mv 58 (S 57)), (some (58, true), .mv 59 (S 5)), (some (58, true), .faddr 60 (S 3) 1), (some (58, true), .load 61 (S 60) false 1), (some (58, true), .bin 62 .geq (S 59) (S 61)), (none, .pick 63 (S 58) (S 62) (KB false)), (none, .mv 4 (S 63))]) .ret) (.seq (.reg [(none, .bin 65 .eql (S 45) (K 3)), (none, .mv 64 (S 65))]) (.cond (S 64) (.seq (.reg [(none, .faddr 66 (S 3) 3), (none, .load 67 (S 66) false 1), (none, .bin 68 .eql (S 67) (K 0)), (none, .mv 69 (S 68)), (some (69, true), .mv 70 (S 5)), (some (69, true), .bin 71 .geq (S 70) (K 0)), (none, .pick 72 (S 69) (S 71) (KB false)), (none, .mv 4 (S 72))]) .ret) .skip)))))))) (.seq (.reg [(none, .mv 4 (KB false))]) .ret)))))))
theorem e_impl_applicable : entry Try.prog 27 = some (c_impl_applicable.strip, [4], 73) := by kernel_rfl
theorem w_impl_applicable (a0 : XDesk) (a1 : XEntry) (r : Bool) (h : f_impl_applicable a0 a1 = some r) : FC Try.prog 27 [.ag (XDesk.row a0), .ag (XEntry.row a1)] [.sc (.v (.bool r))] := by
  unfold f_impl_applicable at h
  refine FC_go (σ := ⟨[(0, va [aI a0.Now, aL (List.map rI a0.Starts), aL (List.map rB a0.Cleared)]), (1, va [aI a1.Kind, aI a1.At, aI a1.Call, aI a1.Value])], [], []⟩) mixed e_impl_applicable rfl rfl ?_
  simp only [c_impl_applicable]
  try simp only [Nat.reduceBEq, Nat.reduceMul, Nat.reduceAdd, Nat.reduceDiv, Int.reduceBEq, rules2, rulesX, rowsX]
  refine go_bx rfl rfl rfl ?_
  try simp only [Nat.reduceBEq, Nat.reduceMul, Nat.reduceAdd, Nat.reduceDiv, Int.reduceBEq, rules2, rulesX, rowsX]
  refine go_bx rfl rfl rfl ?_
  obtain ⟨r1, hr1, h⟩ := ob h
  try simp only [Nat.reduceBEq, Nat.reduceMul, Nat.reduceAdd, Nat.reduceDiv, Int.reduceBEq, rules2, rulesX, rowsX]
  refine go_callI (w_impl_within _ _ _ _ hr1) rfl rfl (Nat.le_of_ble_eq_true rfl) ?_
  rcases Bool.eq_false_or_eq_true r1 with hb2 | hb2
  · rw [ite_t hb2] at h
    rcases Bool.eq_false_or_eq_true (a1.Kind == (4 : Int)) with hb3 | hb3
    · rw [ite_t hb3] at h
      rcases Bool.eq_false_or_eq_true (a1.Call == (0 : Int)) with hb4 | hb4
      · rw [ite_t hb4] at h
        try simp only [hb2, hb3, hb4, Nat.reduceBEq, Nat.reduceMul, Nat.reduceAdd, Nat.reduceDiv, Int.reduceBEq, rules2, rulesX, rowsX]
        cases h
        exact ⟨⟨rfl, trivial⟩, rfl⟩
      · rw [ite_f hb4] at h
        try simp only [hb2, hb3, hb4, Nat.reduceBEq, Nat.reduceMul, Nat.reduceAdd, Nat.reduceDiv, Int.reduceBEq, rules2, rulesX, rowsX]
        cases h
        exact ⟨⟨rfl, trivial⟩, rfl⟩
    · rw [ite_f hb3] at h
      obtain ⟨r5, hr5, h⟩ := ob h
      try simp only [hb2, hb3, Nat.reduceBEq, Nat.reduceMul, Nat.reduceAdd, Nat.reduceDiv, Int.reduceBEq, rules2, rulesX, rowsX]
      refine go_callI (w_impl_isIndex _ _ _ hr5) rfl rfl (Nat.le_of_ble_eq_true rfl) ?_
      rcases Bool.eq_false_or_eq_true r5 with hb6 | hb6
      · rw [ite_t hb6] at h
        obtain ⟨x7, hx7, h⟩ := ob h
        rcases Bool.eq_false_or_eq_true x7 with hb8 | hb8
        · rw [ite_t hb8] at h
          try simp only [hb2, hb3, hb6, hx7, hb8, Nat.reduceBEq, Nat.reduceMul, Nat.reduceAdd, Nat.reduceDiv, Int.reduceBEq, rules2, rulesX, rowsX]
          cases h
          exact ⟨⟨rfl, trivial⟩, rfl⟩
        · rw [ite_f hb8] at h
          obtain ⟨x9, hx9, h⟩ := ob h
          rcases Bool.eq_false_or_eq_true (a1.Kind == (1 : Int)) with hb10 | hb10
          · rw [ite_t hb10] at h
            obtain ⟨r11, hr11, h⟩ := ob h
            try simp only [hb2, hb3, hb6, hx7, hb8, hx9, hb10, Nat.reduceBEq, Nat.reduceMul, Nat.reduceAdd, Nat.reduceDiv, Int.reduceBEq, rules2, rulesX, rowsX]
            refine go_callI (w_impl_within _ _ _ _ hr11) rfl rfl (Nat.le_of_ble_eq_true rfl) ?_
            try simp only [hb2, hb3, hb6, hx7, hb8, hx9, hb10, Nat.reduceBEq, Nat.reduceMul, Nat.reduceAdd, Nat.reduceDiv, Int.reduceBEq, rules2, rulesX, rowsX]
            cases h
            exact ⟨⟨rfl, trivial⟩, rfl⟩
          · rw [ite_f hb10] at h
            rcases Bool.eq_false_or_eq_true (a1.Kind == (2 : Int)) with hb12 | hb12
            · rw [ite_t hb12] at h
              rcases Bool.eq_false_or_eq_true (a1.Value == (0 : Int)) with hb13 | hb13
              · rw [ite_t hb13] at h
                try simp only [hb2, hb3, hb6, hx7, hb8, hx9, hb10, hb12, hb13, Nat.reduceBEq, Nat.reduceMul, Nat.reduceAdd, Nat.reduceDiv, Int.reduceBEq, rules2, rulesX, rowsX]
                cases h
                exact ⟨⟨rfl, trivial⟩, rfl⟩
              · rw [ite_f hb13] at h
                try simp only [hb2, hb3, hb6, hx7, hb8, hx9, hb10, hb12, hb13, Nat.reduceBEq, Nat.reduceMul, Nat.reduceAdd, Nat.reduceDiv, Int.reduceBEq, rules2, rulesX, rowsX]
                cases h
                exact ⟨⟨rfl, trivial⟩, rfl⟩
            · rw [ite_f hb12] at h
              rcases Bool.eq_false_or_eq_true (a1.Kind == (3 : Int)) with hb14 | hb14
              · rw [ite_t hb14] at h
                rcases Bool.eq_false_or_eq_true (a1.Value == (0 : Int)) with hb15 | hb15
                · rw [ite_t hb15] at h
                  try simp only [hb2, hb3, hb6, hx7, hb8, hx9, hb10, hb12, hb14, hb15, Nat.reduceBEq, Nat.reduceMul, Nat.reduceAdd, Nat.reduceDiv, Int.reduceBEq, rules2, rulesX, rowsX]
                  cases h
                  exact ⟨⟨rfl, trivial⟩, rfl⟩
                · rw [ite_f hb15] at h
                  try simp only [hb2, hb3, hb6, hx7, hb8, hx9, hb10, hb12, hb14, hb15, Nat.reduceBEq, Nat.reduceMul, Nat.reduceAdd, Nat.reduceDiv, Int.reduceBEq, rules2, rulesX, rowsX]
                  cases h
                  exact ⟨⟨rfl, trivial⟩, rfl⟩
              · rw [ite_f hb14] at h
                try simp only [hb2, hb3, hb6, hx7, hb8, hx9, hb10, hb12, hb14, Nat.reduceBEq, Nat.reduceMul, Nat.reduceAdd, Nat.reduceDiv, Int.reduceBEq, rules2, rulesX, rowsX]
                cases h
                exact ⟨⟨rfl, trivial⟩, rfl⟩
      · rw [ite_f hb6] at h
        try simp only [hb2, hb3, hb6, Nat.reduceBEq, Nat.reduceMul, Nat.reduceAdd, Nat.reduceDiv, Int.reduceBEq, rules2, rulesX, rowsX]
        cases h
        exact ⟨⟨rfl, trivial⟩, rfl⟩
  · rw [ite_f hb2] at h
    try simp only [hb2, Nat.reduceBEq, Nat.reduceMul, Nat.reduceAdd, Nat.reduceDiv, Int.reduceBEq, rules2, rulesX, rowsX]
    cases h
    exact ⟨⟨rfl, trivial⟩, rfl⟩
/- 9: impl_ApplyEntry -/
def c_impl_ApplyEntry_1 : ACode := .seq (.reg [(none, .keep [3, 4, 6, 17] [3, 4, 6] [513, 514])]) (.cond (S 17) (.seq (.reg [(none, .load 18 (S 6) true 3), (none, .store (S 4) (S 18) 3), (none, .mv 5 (KB false))]) .ret) .skip)
def c_impl_ApplyEntry_2 : ACode := .seq (.reg [(none, .keep [4, 6] [4, 6] [513, 514])]) (.seq (.reg [(none, .load 47 (S 6) true 3), (none, .store (S 4) (S 47) 3), (none, .mv 5 (KB true))]) .ret)
def c_impl_ApplyEntry_n1 : ACode := (.seq (.reg [(none, .faddr 19 (S 3) 1), (none, .load 20 (S 19) false 1), (none, .faddr 21 (S 6) 0), (none, .store (S 21) (S 20) 1)]) (.seq (.seq (.reg [(none, .faddr 22 (S 3) 0), (none, .load 23 (S 22) false 1)]) (.block 0 (.seq (.reg [(none, .bin 25 .eql (S 23) (K 1)), (none, .mv 24 (S 25))]) (.cond (S 24) (.reg [(none, .faddr 26 (S 6) 1), (none, .load 27 (S 26) false 1), (none, .faddr 28 (S 3) 2), (none, .load 29 (S 28) false 1), (none, .faddr 30 (S 3) 3), (none, .load 31 (S 30) false 1), (none, .iaddr 32 (S 27) (S 29) 1), (none, .store (S 32) (S 31) 1)]) (.seq (.reg [(none, .bin 34 .eql (S 23) (K 2)), (none, .mv 33 (S 34))]) (.cond (S 33) (.reg [(none, .faddr 35 (S 6) 2), (none, .load 36 (S 35) false 1), (none, .faddr 37 (S 3) 2), (none, .load 38 (S 37) false 1), (none, .iaddr 39 (S 36) (S 38) 1), (none, .store (S 39) (KB true) 1)]) (.seq (.reg [(none, .bin 41 .eql (S 23) (K 3)), (none, .mv 40 (S 41))]) (.cond (S 40) (.reg [(none, .faddr 42 (S 6) 1), (none, .load 43 (S 42) false 1), (none, .faddr 44 (S 3) 2), (none, .load 45 (S 44) false 1), (none, .iaddr 46 (S 43) (S 45) 1), (none, .store (S 46) (K (-1)) 1)]) .skip)))))))) c_impl_ApplyEntry_2))
def c_impl_ApplyEntry : ACode := (.seq (.reg [(none, .box 2 (S 0)), (none, .box 3 (S 1)), (none, .alloc 4 [aI 0, .nil, .nil]), (none, .mv 5 (KB false))]) (.seq (.reg [(none, .load 7 (S 2) true 3), (none, .call 8 25 [(S 7)]), (none, .alloc 6 [aI 0, .nil, .nil]), (none, .store (S 6) (S 8) 3)]) (.seq (.seq (.reg [(none, .load 9 (S 2) true 3), (none, .call 10 26 [(S 9)]), (none, .un 11 .not (S 10)), (none, .mv 12 (S 11)), (some (12, false), .load 13 (S 2) true 3), (some (12, false), .load 14 (S 3) true 4), (some (12, false), .call 15 27 [(S 13), (S 14)]), (some (12, false), .un 16 .not (S 15)), (none, .pick 17 (S 12) (KB true) (S 16))]) c_impl_ApplyEntry_1) c_impl_ApplyEntry_n1)))
theorem w_impl_ApplyEntry_2 (a1 : XEntry) (v13 : List Int) (v14 : List Bool) (r : XDesk × Bool) (h : f_impl_ApplyEntry_2 a1 v13 v14 = some r) (σ : St) (hσ : σ.kept [4, 6] [4, 6] [513, 514] = ⟨[(4, vc (.pb 4 0)), (6, vc (.pb 6 0))], [(4, [aI (0 : Int), .nil, .nil]), (6, [aI a1.At, .own 513, .own 514])], [(513, 1, List.map rI v13), (514, 1, List.map rB v14)]⟩) : go Try.prog (.code c_impl_ApplyEntry_2 :: []) (Ret [.c 4 true 3, 5] [.ag [.v (.int .i64 r.1.Now), .o 1 (List.map rI r.1.Starts), .o 1 (List.map rB r.1.Cleared)], .sc (.v (.bool r.2))]) .normal (some σ) := by
  unfold f_impl_ApplyEntry_2 at h
  try simp only [hσ, c_impl_ApplyEntry_2, Nat.reduceBEq, Nat.reduceMul, Nat.reduceAdd, Nat.reduceDiv, Int.reduceBEq, rules2, rulesX, rowsX]
  cases h
  try simp only [rulesR, Nat.reduceBEq, Nat.reduceMul, Nat.reduceAdd, Nat.reduceDiv, Int.reduceBEq, rules2, rulesX, rowsX]
  exact ⟨⟨⟨rfl, rfl, rfl, trivial⟩, rfl, trivial⟩, rfl⟩
theorem w_impl_ApplyEntry_1 (a1 : XEntry) (r1 : XDesk) (v5 : Bool) (r : XDesk × Bool) (h : f_impl_ApplyEntry_1 a1 r1 v5 = some r) (σ : St) (hσ : σ.kept [3, 4, 6, 17] [3, 4, 6] [513, 514] = ⟨[(3, vc (.pb 3 0)), (4, vc (.pb 4 0)), (6, vc (.pb 6 0)), (17, vc (aB v5))], [(3, [aI a1.Kind, aI a1.At, aI a1.Call, aI a1.Value]), (4, [aI (0 : Int), .nil, .nil]), (6, [aI r1.Now, .own 513, .own 514])], [(513, 1, List.map rI r1.Starts), (514, 1, List.map rB r1.Cleared)]⟩) : go Try.prog (.code c_impl_ApplyEntry_1 :: [.code c_impl_ApplyEntry_n1]) (Ret [.c 4 true 3, 5] [.ag [.v (.int .i64 r.1.Now), .o 1 (List.map rI r.1.Starts), .o 1 (List.map rB r.1.Cleared)], .sc (.v (.bool r.2))]) .normal (some σ) := by
  unfold f_impl_ApplyEntry_1 at h
  rcases Bool.eq_false_or_eq_true v5 with hb6 | hb6
  · rw [ite_t hb6] at h
    try simp only [hσ, hb6, c_impl_ApplyEntry_1, Nat.reduceBEq, Nat.reduceMul, Nat.reduceAdd, Nat.reduceDiv, Int.reduceBEq, rules2, rulesX, rowsX]
    cases h
    try simp only [rulesR, Nat.reduceBEq, Nat.reduceMul, Nat.reduceAdd, Nat.reduceDiv, Int.reduceBEq, rules2, rulesX, rowsX]
    exact ⟨⟨⟨rfl, rfl, rfl, trivial⟩, rfl, trivial⟩, rfl⟩
  · rw [ite_f hb6] at h
    rcases Bool.eq_false_or_eq_true (a1.Kind == (1 : Int)) with hb7 | hb7
    · rw [ite_t hb7] at h
      obtain ⟨x8, hx8, h⟩ := ob h
      have hx8n := ix_get hx8
      try simp only [hσ, hb6, hb7, hx8, c_impl_ApplyEntry_1, c_impl_ApplyEntry_n1, Nat.reduceBEq, Nat.reduceMul, Nat.reduceAdd, Nat.reduceDiv, Int.reduceBEq, rules2, rulesX, rowsX]
      refine go_stp (y := a1.Value) rfl rfl hx8n rfl rfl rfl ?_
      try simp only [hb6, hb7, hx8, Nat.reduceBEq, Nat.reduceMul, Nat.reduceAdd, Nat.reduceDiv, Int.reduceBEq, rules2, rulesX, rowsX]
      refine w_impl_ApplyEntry_2 _ _ _ _ h _ ?_
      try simp only [hb6, hb7, hx8, Nat.reduceBEq, Nat.reduceMul, Nat.reduceAdd, Nat.reduceDiv, Int.reduceBEq, rules2, rulesX, rowsX, List.map_nil]
    · rw [ite_f hb7] at h
      rcases Bool.eq_false_or_eq_true (a1.Kind == (2 : Int)) with hb9 | hb9
      · rw [ite_t hb9] at h
        obtain ⟨x10, hx10, h⟩ := ob h
        have hx10n := ix_get hx10
        try simp only [hσ, hb6, hb7, hb9, hx10, c_impl_ApplyEntry_1, c_impl_ApplyEntry_n1, Nat.reduceBEq, Nat.reduceMul, Nat.reduceAdd, Nat.reduceDiv, Int.reduceBEq, rules2, rulesX, rowsX]
        refine go_stp (y := true) rfl rfl hx10n rfl rfl rfl ?_
        try simp only [hb6, hb7, hb9, hx10, Nat.reduceBEq, Nat.reduceMul, Nat.reduceAdd, Nat.reduceDiv, Int.reduceBEq, rules2, rulesX, rowsX]
        refine w_impl_ApplyEntry_2 _ _ _ _ h _ ?_
        try simp only [hb6, hb7, hb9, hx10, Nat.reduceBEq, Nat.reduceMul, Nat.reduceAdd, Nat.reduceDiv, Int.reduceBEq, rules2, rulesX, rowsX, List.map_nil]
      · rw [ite_f hb9] at h
        rcases Bool.eq_false_or_eq_true (a1.Kind == (3 : Int)) with hb11 | hb11
        · rw [ite_t hb11] at h
          obtain ⟨x12, hx12, h⟩ := ob h
          have hx12n := ix_get hx12
          try simp only [hσ, hb6, hb7, hb9, hb11, hx12, c_impl_ApplyEntry_1, c_impl_ApplyEntry_n1, Nat.reduceBEq, Nat.reduceMul, Nat.reduceAdd, Nat.reduceDiv, Int.reduceBEq, rules2, rulesX, rowsX]
          refine go_stp (y := (-1 : Int)) rfl rfl hx12n rfl rfl rfl ?_
          try simp only [hb6, hb7, hb9, hb11, hx12, Nat.reduceBEq, Nat.reduceMul, Nat.reduceAdd, Nat.reduceDiv, Int.reduceBEq, rules2, rulesX, rowsX]
          refine w_impl_ApplyEntry_2 _ _ _ _ h _ ?_
          try simp only [hb6, hb7, hb9, hb11, hx12, Nat.reduceBEq, Nat.reduceMul, Nat.reduceAdd, Nat.reduceDiv, Int.reduceBEq, rules2, rulesX, rowsX, List.map_nil]
        · rw [ite_f hb11] at h
          try simp only [hσ, hb6, hb7, hb9, hb11, c_impl_ApplyEntry_1, c_impl_ApplyEntry_n1, Nat.reduceBEq, Nat.reduceMul, Nat.reduceAdd, Nat.reduceDiv, Int.reduceBEq, rules2, rulesX, rowsX]
          refine w_impl_ApplyEntry_2 _ _ _ _ h _ ?_
          try simp only [hb6, hb7, hb9, hb11, Nat.reduceBEq, Nat.reduceMul, Nat.reduceAdd, Nat.reduceDiv, Int.reduceBEq, rules2, rulesX, rowsX, List.map_nil]
theorem e_impl_ApplyEntry : entry Try.prog 9 = some (c_impl_ApplyEntry.strip, [.c 4 true 3, 5], 48) := by kernel_rfl
theorem w_impl_ApplyEntry (a0 : XDesk) (a1 : XEntry) (r : XDesk × Bool) (h : f_impl_ApplyEntry a0 a1 = some r) : FC Try.prog 9 [.ag (XDesk.row a0), .ag (XEntry.row a1)] [.ag [.v (.int .i64 r.1.Now), .o 1 (List.map rI r.1.Starts), .o 1 (List.map rB r.1.Cleared)], .sc (.v (.bool r.2))] := by
  unfold f_impl_ApplyEntry at h
  refine FC_go (σ := ⟨[(0, va [aI a0.Now, aL (List.map rI a0.Starts), aL (List.map rB a0.Cleared)]), (1, va [aI a1.Kind, aI a1.At, aI a1.Call, aI a1.Value])], [], []⟩) mixed e_impl_ApplyEntry rfl rfl ?_
  simp only [c_impl_ApplyEntry]
  try simp only [Nat.reduceBEq, Nat.reduceMul, Nat.reduceAdd, Nat.reduceDiv, Int.reduceBEq, rules2, rulesX, rowsX]
  refine go_bx rfl rfl rfl ?_
  try simp only [Nat.reduceBEq, Nat.reduceMul, Nat.reduceAdd, Nat.reduceDiv, Int.reduceBEq, rules2, rulesX, rowsX]
  refine go_bx rfl rfl rfl ?_
  try simp only [Nat.reduceBEq, Nat.reduceMul, Nat.reduceAdd, Nat.reduceDiv, Int.reduceBEq, rules2, rulesX, rowsX]
  refine go_al rfl rfl ?_
  obtain ⟨r1, hr1, h⟩ := ob h
  try simp only [Nat.reduceBEq, Nat.reduceMul, Nat.reduceAdd, Nat.reduceDiv, Int.reduceBEq, rules2, rulesX, rowsX]
  refine go_callI (w_impl_copyDesk _ _ hr1) rfl rfl (Nat.le_of_ble_eq_true rfl) ?_
  try simp only [Nat.reduceBEq, Nat.reduceMul, Nat.reduceAdd, Nat.reduceDiv, Int.reduceBEq, rules2, rulesX, rowsX]
  refine go_al rfl rfl ?_
  obtain ⟨r2, hr2, h⟩ := ob h
  try simp only [Nat.reduceBEq, Nat.reduceMul, Nat.reduceAdd, Nat.reduceDiv, Int.reduceBEq, rules2, rulesX, rowsX]
  refine go_callI (w_impl_DeskOk _ _ hr2) rfl rfl (Nat.le_of_ble_eq_true rfl) ?_
  rcases Bool.eq_false_or_eq_true r2 with hb3 | hb3
  · rw [ite_t hb3] at h
    obtain ⟨r4, hr4, h⟩ := ob h
    try simp only [hb3, Nat.reduceBEq, Nat.reduceMul, Nat.reduceAdd, Nat.reduceDiv, Int.reduceBEq, rules2, rulesX, rowsX]
    refine go_callI (w_impl_applicable _ _ _ hr4) rfl rfl (Nat.le_of_ble_eq_true rfl) ?_
    try simp only [hb3, Nat.reduceBEq, Nat.reduceMul, Nat.reduceAdd, Nat.reduceDiv, Int.reduceBEq, rules2, rulesX, rowsX]
    refine w_impl_ApplyEntry_1 _ _ _ _ h _ ?_
    try simp only [hb3, Nat.reduceBEq, Nat.reduceMul, Nat.reduceAdd, Nat.reduceDiv, Int.reduceBEq, rules2, rulesX, rowsX, List.map_nil]
  · rw [ite_f hb3] at h
    try simp only [hb3, Nat.reduceBEq, Nat.reduceMul, Nat.reduceAdd, Nat.reduceDiv, Int.reduceBEq, rules2, rulesX, rowsX]
    refine w_impl_ApplyEntry_1 _ _ _ _ h _ ?_
    try simp only [hb3, Nat.reduceBEq, Nat.reduceMul, Nat.reduceAdd, Nat.reduceDiv, Int.reduceBEq, rules2, rulesX, rowsX, List.map_nil]
/- 28: laws_eqIntS -/
def c_laws_eqIntS_1 : ACode := .seq (.reg [(none, .keep [0, 1, 5] [] [])]) (.seq (.seq (.reg [(none, .mv 11 (S 5)), (none, .mv 12 (S 0)), (none, .len 13 (S 12)), (none, .bin 14 .lss (S 11) (S 13))]) (.cond (S 14) .skip (.exit 0))) (.seq (.block 1 (.seq (.drw [(some [], (none, .mv 17 (S 0))), (some [], (none, .mv 18 (S 5))), (some [], (none, .iaddr 19 (S 17) (S 18) 1)), (some [], (none, .load 20 (S 19) false 1)), (some [], (none, .mv 21 (S 1))), (some [], (none, .mv 22 (S 5))), (some [], (none, .iaddr 23 (S 21) (S 22) 1)), (some [], (none, .load 24 (S 23) false 1)), (some [], (none, .bin 25 .neq (S 20) (S 24)))]) (.cond (S 25) (.seq (.reg [(none, .mv 4 (KB false))]) .ret) .skip))) (.reg [(none, .mv 15 (S 5)), (none, .bin 16 .add (S 15) (K 1)), (none, .mv 5 (S 16))])))
def c_laws_eqIntS_n1 : ACode := (.seq (.reg [(none, .mv 4 (KB true))]) .ret)
def c_laws_eqIntS : ACode := (.seq (.reg [(none, .mv 4 (KB false))]) (.seq (.seq (.reg [(none, .mv 6 (S 0)), (none, .len 7 (S 6)), (none, .mv 8 (S 1)), (none, .len 9 (S 8)), (none, .bin 10 .neq (S 7) (S 9))]) (.cond (S 10) (.seq (.reg [(none, .mv 4 (KB false))]) .ret) .skip)) (.seq (.seq (.reg [(none, .mv 5 (K 0))]) (.block 0 (.loop c_laws_eqIntS_1))) c_laws_eqIntS_n1)))
theorem w_laws_eqIntS_1 (a0 : List Int) (a1 : List Int) : ∀ (n : Nat) (v2 : Int) (r : Bool), f_laws_eqIntS_1 a0 a1 n v2 = some r → ∀ σ : St, σ.kept [0, 1, 5] [] [] = ⟨[(0, vc (aL (List.map rI a0))), (1, vc (aL (List.map rI a1))), (5, vc (aI v2))], [], []⟩ → go Try.prog (.code (.loop c_laws_eqIntS_1) :: [.blk 0, .code c_laws_eqIntS_n1]) (Ret [4] [.sc (.v (.bool r))]) .normal (some σ) := by
  intro n
  induction n with
  | zero => intro _ r h; cases h
  | succ n ih =>
    intro v2 r h σ hσ
    rw [f_laws_eqIntS_1] at h
    refine go_round ?_
    rcases Bool.eq_false_or_eq_true (decide (v2 < (a0.length : Int))) with hb3 | hb3
    · rw [ite_t hb3] at h
      try simp only [hσ, hb3, c_laws_eqIntS_1, Nat.reduceBEq, Nat.reduceMul, Nat.reduceAdd, Nat.reduceDiv, Int.reduceBEq, rules2, rulesX, rowsX]
      refine go_fr_of rfl ?_
      obtain ⟨x4, hx4, h⟩ := ob h
      obtain ⟨x5, hx5, h⟩ := ob h
      rcases Bool.eq_false_or_eq_true (x4 != x5) with hb6 | hb6
      · rw [ite_t hb6] at h
        try simp only [hb3, hx4, hx5, hb6, Nat.reduceBEq, Nat.reduceMul, Nat.reduceAdd, Nat.reduceDiv, Int.reduceBEq, rules2, rulesX, rowsX]
        cases h
        exact ⟨⟨rfl, trivial⟩, rfl⟩
      · rw [ite_f hb6] at h
        try simp only [hb3, hx4, hx5, hb6, Nat.reduceBEq, Nat.reduceMul, Nat.reduceAdd, Nat.reduceDiv, Int.reduceBEq, rules2, rulesX, rowsX]
        refine ih _ _ h _ ?_
        try simp only [hb3, hx4, hx5, hb6, Nat.reduceBEq, Nat.reduceMul, Nat.reduceAdd, Nat.reduceDiv, Int.reduceBEq, rules2, rulesX, rowsX, List.map_nil]
    · rw [ite_f hb3] at h
      try simp only [hσ, hb3, c_laws_eqIntS_1, c_laws_eqIntS_n1, Nat.reduceBEq, Nat.reduceMul, Nat.reduceAdd, Nat.reduceDiv, Int.reduceBEq, rules2, rulesX, rowsX]
      cases h
      exact ⟨⟨rfl, trivial⟩, rfl⟩
theorem e_laws_eqIntS : entry Try.prog 28 = some (c_laws_eqIntS.strip, [4], 26) := by kernel_rfl
theorem w_laws_eqIntS (a0 : List Int) (a1 : List Int) (r : Bool) (h : f_laws_eqIntS a0 a1 = some r) : FC Try.prog 28 [.sc (.sl (List.map rI a0)), .sc (.sl (List.map rI a1))] [.sc (.v (.bool r))] := by
  unfold f_laws_eqIntS at h
  refine FC_go (σ := ⟨[(0, vc (aL (List.map rI a0))), (1, vc (aL (List.map rI a1)))], [], []⟩) mixed e_laws_eqIntS rfl rfl ?_
  simp only [c_laws_eqIntS]
  rcases Bool.eq_false_or_eq_true ((a0.length : Int) != (a1.length : Int)) with hb1 | hb1
  · rw [ite_t hb1] at h
    try simp only [hb1, Nat.reduceBEq, Nat.reduceMul, Nat.reduceAdd, Nat.reduceDiv, Int.reduceBEq, rules2, rulesX, rowsX]
    cases h
    exact ⟨⟨rfl, trivial⟩, rfl⟩
  · rw [ite_f hb1] at h
    try simp only [hb1, Nat.reduceBEq, Nat.reduceMul, Nat.reduceAdd, Nat.reduceDiv, Int.reduceBEq, rules2, rulesX, rowsX]
    refine w_laws_eqIntS_1 _ _ _ _ _ h _ ?_
    try simp only [hb1, Nat.reduceBEq, Nat.reduceMul, Nat.reduceAdd, Nat.reduceDiv, Int.reduceBEq, rules2, rulesX, rowsX, List.map_nil]
/- 29: laws_eqBoolS -/
def c_laws_eqBoolS_1 : ACode := .seq (.reg [(none, .keep [0, 1, 5] [] [])]) (.seq (.seq (.reg [(none, .mv 11 (S 5)), (none, .mv 12 (S 0)), (none, .len 13 (S 12)), (none, .bin 14 .lss (S 11) (S 13))]) (.cond (S 14) .skip (.exit 0))) (.seq (.block 1 (.seq (.drw [(some [], (none, .mv 17 (S 0))), (some [], (none, .mv 18 (S 5))), (some [], (none, .iaddr 19 (S 17) (S 18) 1)), (some [], (none, .load 20 (S 19) false 1)), (some [], (none, .mv 21 (S 1))), (some [], (none, .mv 22 (S 5))), (some [], (none, .iaddr 23 (S 21) (S 22) 1)), (some [], (none, .load 24 (S 23) false 1)), (some [], (none, .beq 25 true (S 20) (S 24)))]) (.cond (S 25) (.seq (.reg [(none, .mv 4 (KB false))]) .ret) .skip))) (.reg [(none, .mv 15 (S 5)), (none, .bin 16 .add (S 15) (K 1)), (none, .mv 5 (S 16))])))
def c_laws_eqBoolS_n1 : ACode := (.seq (.reg [(none, .mv 4 (KB true))]) .ret)
def c_laws_eqBoolS : ACode := (.seq (.reg [(none, .mv 4 (KB false))]) (.seq (.seq (.reg [(none, .mv 6 (S 0)), (none, .len 7 (S 6)), (none, .mv 8 (S 1)), (none, .len 9 (S 8)), (none, .bin 10 .neq (S 7) (S 9))]) (.cond (S 10) (.seq (.reg [(none, .mv 4 (KB false))]) .ret) .skip)) (.seq (.seq (.reg [(none, .mv 5 (K 0))]) (.block 0 (.loop c_laws_eqBoolS_1))) c_laws_eqBoolS_n1)))
theorem w_laws_eqBoolS_1 (a0 : List Bool) (a1 : List Bool) : ∀ (n : Nat) (v2 : Int) (r : Bool), f_laws_eqBoolS_1 a0 a1 n v2 = some r → ∀ σ : St, σ.kept [0, 1, 5] [] [] = ⟨[(0, vc (aL (List.map rB a0))), (1, vc (aL (List.map rB a1))), (5, vc (aI v2))], [], []⟩ → go Try.prog (.code (.loop c_laws_eqBoolS_1) :: [.blk 0, .code c_laws_eqBoolS_n1]) (Ret [4] [.sc (.v (.bool r))]) .normal (some σ) := by
  intro n
  induction n with
  | zero => intro _ r h; cases h
  | succ n ih =>
    intro v2 r h σ hσ
    rw [f_laws_eqBoolS_1] at h
    refine go_round ?_
    rcases Bool.eq_false_or_eq_true (decide (v2 < (a0.length : Int))) with hb3 | hb3
    · rw [ite_t hb3] at h
      try simp only [hσ, hb3, c_laws_eqBoolS_1, Nat.reduceBEq, Nat.reduceMul, Nat.reduceAdd, Nat.reduceDiv, Int.reduceBEq, rules2, rulesX, rowsX]
      refine go_fr_of rfl ?_
      obtain ⟨x4, hx4, h⟩ := ob h
      obtain ⟨x5, hx5, h⟩ := ob h
      rcases Bool.eq_false_or_eq_true (x4 == x5) with hb6 | hb6
      · rw [ite_t hb6] at h
        try simp only [hb3, hx4, hx5, hb6, Nat.reduceBEq, Nat.reduceMul, Nat.reduceAdd, Nat.reduceDiv, Int.reduceBEq, rules2, rulesX, rowsX]
        refine ih _ _ h _ ?_
        try simp only [hb3, hx4, hx5, hb6, Nat.reduceBEq, Nat.reduceMul, Nat.reduceAdd, Nat.reduceDiv, Int.reduceBEq, rules2, rulesX, rowsX, List.map_nil]
      · rw [ite_f hb6] at h
        try simp only [hb3, hx4, hx5, hb6, Nat.reduceBEq, Nat.reduceMul, Nat.reduceAdd, Nat.reduceDiv, Int.reduceBEq, rules2, rulesX, rowsX]
        cases h
        exact ⟨⟨rfl, trivial⟩, rfl⟩
    · rw [ite_f hb3] at h
      try simp only [hσ, hb3, c_laws_eqBoolS_1, c_laws_eqBoolS_n1, Nat.reduceBEq, Nat.reduceMul, Nat.reduceAdd, Nat.reduceDiv, Int.reduceBEq, rules2, rulesX, rowsX]
      cases h
      exact ⟨⟨rfl, trivial⟩, rfl⟩
theorem e_laws_eqBoolS : entry Try.prog 29 = some (c_laws_eqBoolS.strip, [4], 26) := by kernel_rfl
theorem w_laws_eqBoolS (a0 : List Bool) (a1 : List Bool) (r : Bool) (h : f_laws_eqBoolS a0 a1 = some r) : FC Try.prog 29 [.sc (.sl (List.map rB a0)), .sc (.sl (List.map rB a1))] [.sc (.v (.bool r))] := by
  unfold f_laws_eqBoolS at h
  refine FC_go (σ := ⟨[(0, vc (aL (List.map rB a0))), (1, vc (aL (List.map rB a1)))], [], []⟩) mixed e_laws_eqBoolS rfl rfl ?_
  simp only [c_laws_eqBoolS]
  rcases Bool.eq_false_or_eq_true ((a0.length : Int) != (a1.length : Int)) with hb1 | hb1
  · rw [ite_t hb1] at h
    try simp only [hb1, Nat.reduceBEq, Nat.reduceMul, Nat.reduceAdd, Nat.reduceDiv, Int.reduceBEq, rules2, rulesX, rowsX]
    cases h
    exact ⟨⟨rfl, trivial⟩, rfl⟩
  · rw [ite_f hb1] at h
    try simp only [hb1, Nat.reduceBEq, Nat.reduceMul, Nat.reduceAdd, Nat.reduceDiv, Int.reduceBEq, rules2, rulesX, rowsX]
    refine w_laws_eqBoolS_1 _ _ _ _ _ h _ ?_
    try simp only [hb1, Nat.reduceBEq, Nat.reduceMul, Nat.reduceAdd, Nat.reduceDiv, Int.reduceBEq, rules2, rulesX, rowsX, List.map_nil]
/- 10: laws_eqDesk -/
def c_laws_eqDesk : ACode := (.seq (.reg [(none, .box 2 (S 0)), (none, .box 3 (S 1)), (none, .mv 4 (KB false))]) (.seq (.seq (.reg [(none, .faddr 5 (S 2) 0), (none, .load 6 (S 5) false 1), (none, .faddr 7 (S 3) 0), (none, .load 8 (S 7) false 1), (none, .bin 9 .neq (S 6) (S 8))]) (.cond (S 9) (.seq (.reg [(none, .mv 4 (KB false))]) .ret) .skip)) (.seq (.seq (.reg [(none, .faddr 10 (S 2) 1), (none, .load 11 (S 10) false 1), (none, .faddr 12 (S 3) 1), (none, .load 13 (S 12) false 1), (none, .call 14 28 [(S 11), (S 13)]), (none, .un 15 .not (S 14))]) (.cond (S 15) (.seq (.reg [(none, .mv 4 (KB false))]) .ret) .skip)) (.seq (.seq (.reg [(none, .faddr 16 (S 2) 2), (none, .load 17 (S 16) false 1), (none, .faddr 18 (S 3) 2), (none, .load 19 (S 18) false 1), (none, .call 20 29 [(S 17), (S 19)]), (none, .un 21 .not (S 20))]) (.cond (S 21) (.seq (.reg [(none, .mv 4 (KB false))]) .ret) .skip)) (.seq (.reg [(none, .mv 4 (KB true))]) .ret)))))
theorem e_laws_eqDesk : entry Try.prog 10 = some (c_laws_eqDesk.strip, [4], 22) := by kernel_rfl
theorem w_laws_eqDesk (a0 : XDesk) (a1 : XDesk) (r : Bool) (h : f_laws_eqDesk a0 a1 = some r) : FC Try.prog 10 [.ag (XDesk.row a0), .ag (XDesk.row a1)] [.sc (.v (.bool r))] := by
  unfold f_laws_eqDesk at h
  refine FC_go (σ := ⟨[(0, va [aI a0.Now, aL (List.map rI a0.Starts), aL (List.map rB a0.Cleared)]), (1, va [aI a1.Now, aL (List.map rI a1.Starts), aL (List.map rB a1.Cleared)])], [], []⟩) mixed e_laws_eqDesk rfl rfl ?_
  simp only [c_laws_eqDesk]
  try simp only [Nat.reduceBEq, Nat.reduceMul, Nat.reduceAdd, Nat.reduceDiv, Int.reduceBEq, rules2, rulesX, rowsX]
  refine go_bx rfl rfl rfl ?_
  try simp only [Nat.reduceBEq, Nat.reduceMul, Nat.reduceAdd, Nat.reduceDiv, Int.reduceBEq, rules2, rulesX, rowsX]
  refine go_bx rfl rfl rfl ?_
  rcases Bool.eq_false_or_eq_true (a0.Now != a1.Now) with hb1 | hb1
  · rw [ite_t hb1] at h
    try simp only [hb1, Nat.reduceBEq, Nat.reduceMul, Nat.reduceAdd, Nat.reduceDiv, Int.reduceBEq, rules2, rulesX, rowsX]
    cases h
    exact ⟨⟨rfl, trivial⟩, rfl⟩
  · rw [ite_f hb1] at h
    obtain ⟨r2, hr2, h⟩ := ob h
    try simp only [hb1, Nat.reduceBEq, Nat.reduceMul, Nat.reduceAdd, Nat.reduceDiv, Int.reduceBEq, rules2, rulesX, rowsX]
    refine go_callI (w_laws_eqIntS _ _ _ hr2) rfl rfl (Nat.le_of_ble_eq_true rfl) ?_
    rcases Bool.eq_false_or_eq_true r2 with hb3 | hb3
    · rw [ite_t hb3] at h
      obtain ⟨r4, hr4, h⟩ := ob h
      try simp only [hb1, hb3, Nat.reduceBEq, Nat.reduceMul, Nat.reduceAdd, Nat.reduceDiv, Int.reduceBEq, rules2, rulesX, rowsX]
      refine go_callI (w_laws_eqBoolS _ _ _ hr4) rfl rfl (Nat.le_of_ble_eq_true rfl) ?_
      rcases Bool.eq_false_or_eq_true r4 with hb5 | hb5
      · rw [ite_t hb5] at h
        try simp only [hb1, hb3, hb5, Nat.reduceBEq, Nat.reduceMul, Nat.reduceAdd, Nat.reduceDiv, Int.reduceBEq, rules2, rulesX, rowsX]
        cases h
        exact ⟨⟨rfl, trivial⟩, rfl⟩
      · rw [ite_f hb5] at h
        try simp only [hb1, hb3, hb5, Nat.reduceBEq, Nat.reduceMul, Nat.reduceAdd, Nat.reduceDiv, Int.reduceBEq, rules2, rulesX, rowsX]
        cases h
        exact ⟨⟨rfl, trivial⟩, rfl⟩
    · rw [ite_f hb3] at h
      try simp only [hb1, hb3, Nat.reduceBEq, Nat.reduceMul, Nat.reduceAdd, Nat.reduceDiv, Int.reduceBEq, rules2, rulesX, rowsX]
      cases h
      exact ⟨⟨rfl, trivial⟩, rfl⟩
/- 30: laws_markIntS -/
def c_laws_markIntS_1 : ACode := .seq (.reg [(none, .keep [0, 1, 5] [] [1099511627776])]) (.seq (.seq (.reg [(none, .mv 6 (S 5)), (none, .mv 7 (S 0)), (none, .len 8 (S 7)), (none, .bin 9 .lss (S 6) (S 8))]) (.cond (S 9) .skip (.exit 0))) (.seq (.block 1 (.seq (.reg [(none, .mv 12 (S 0)), (none, .mv 13 (S 5)), (none, .mv 14 (S 1)), (none, .iaddr 15 (S 12) (S 13) 1), (none, .store (S 15) (S 14) 1)]) (.reg [(none, .mv 16 (S 1)), (none, .bin 17 .add (S 16) (K 1)), (none, .mv 1 (S 17))]))) (.reg [(none, .mv 10 (S 5)), (none, .bin 11 .add (S 10) (K 1)), (none, .mv 5 (S 11))])))
def c_laws_markIntS_n1 : ACode := (.seq (.reg [(none, .mv 18 (S 1)), (none, .mv 4 (S 18))]) .ret)
def c_laws_markIntS : ACode := (.seq (.reg [(none, .mv 4 (K 0))]) (.seq (.seq (.reg [(none, .mv 5 (K 0))]) (.block 0 (.loop c_laws_markIntS_1))) c_laws_markIntS_n1))
theorem w_laws_markIntS_1 : ∀ (n : Nat) (v1 : Int) (v2 : Int) (v3 : List Int) (r : Int × List Int), f_laws_markIntS_1 n v1 v2 v3 = some r → ∀ σ : St, σ.kept [0, 1, 5] [] [1099511627776] = ⟨[(0, vc (.own 1099511627776)), (1, vc (aI v1)), (5, vc (aI v2))], [], [(1099511627776, 1, List.map rI v3)]⟩ → go Try.prog (.code (.loop c_laws_markIntS_1) :: [.blk 0, .code c_laws_markIntS_n1]) (RetX [4] (.int .i64 r.1) [(1, List.map rI r.2)] [(0, 0)]) .normal (some σ) := by
  intro n
  induction n with
  | zero => intro _ _ _ r h; cases h
  | succ n ih =>
    intro v1 v2 v3 r h σ hσ
    rw [f_laws_markIntS_1] at h
    refine go_round ?_
    rcases Bool.eq_false_or_eq_true (decide (v2 < (v3.length : Int))) with hb4 | hb4
    · rw [ite_t hb4] at h
      obtain ⟨x5, hx5, h⟩ := ob h
      have hx5n := ix_get hx5
      try simp only [hσ, hb4, hx5, c_laws_markIntS_1, Nat.reduceBEq, Nat.reduceMul, Nat.reduceAdd, Nat.reduceDiv, Int.reduceBEq, rules2, rulesX, rowsX]
      refine go_stp (y := v1) rfl rfl hx5n rfl rfl rfl ?_
      try simp only [hb4, hx5, Nat.reduceBEq, Nat.reduceMul, Nat.reduceAdd, Nat.reduceDiv, Int.reduceBEq, rules2, rulesX, rowsX]
      refine ih _ _ _ _ h _ ?_
      try simp only [hb4, hx5, Nat.reduceBEq, Nat.reduceMul, Nat.reduceAdd, Nat.reduceDiv, Int.reduceBEq, rules2, rulesX, rowsX, List.map_nil]
    · rw [ite_f hb4] at h
      try simp only [hσ, hb4, c_laws_markIntS_1, c_laws_markIntS_n1, Nat.reduceBEq, Nat.reduceMul, Nat.reduceAdd, Nat.reduceDiv, Int.reduceBEq, rules2, rulesX, rowsX]
      cases h
      exact ⟨⟨rfl, trivial⟩, ⟨⟨⟨_, rfl, rfl⟩, rfl⟩, trivial⟩⟩
theorem e_laws_markIntS : entry Try.prog 30 = some (c_laws_markIntS.strip, [4], 19) := by kernel_rfl
theorem l_laws_markIntS_1 : ∀ (n : Nat) (v1 : Int) (v2 : Int) (v3 : List Int) (r : Int × List Int), f_laws_markIntS_1 n v1 v2 v3 = some r → r.2.length = v3.length := by
  intro n
  induction n with
  | zero => intro _ _ _ r h; cases h
  | succ n ih =>
    intro v1 v2 v3 r h
    rw [f_laws_markIntS_1] at h
    rcases Bool.eq_false_or_eq_true (decide (v2 < (v3.length : Int))) with hb4 | hb4
    · rw [ite_t hb4] at h
      obtain ⟨x5, hx5, h⟩ := ob h
      have hl := ih _ _ _ _ h
      try simp only [List.length_set] at hl
      omega
    · rw [ite_f hb4] at h
      cases h
      all_goals (try dsimp only); first | done | omega | (simp only [List.length_set] at *; omega) | simp_all
theorem l_laws_markIntS (a0 : List Int) (a1 : Int) (r : Int × List Int) (h : f_laws_markIntS a0 a1 = some r) : r.2.length = a0.length := by
  unfold f_laws_markIntS at h
  have hl := l_laws_markIntS_1 _ _ _ _ _ h
  try simp only [List.length_set] at hl
  omega
theorem w_laws_markIntS (a0 : List Int) (a1 : Int) (r : Int × List Int) (h : f_laws_markIntS a0 a1 = some r) : FCx Try.prog 30 [.sc (.r 0), .sc (.d (.int .i64 a1))] [(1, List.map rI a0)] [(1, List.map rI r.2)] (.int .i64 r.1) := by
  unfold f_laws_markIntS at h
  refine FCx_go (ps := [(0, 0)]) (σ := ⟨[(0, vc (.own 1099511627776)), (1, vc (aI a1))], [], [(1099511627776, 1, List.map rI a0)]⟩) mixed e_laws_markIntS rfl rfl rfl (flatR_cons flatR_nil) rfl ?_
  simp only [c_laws_markIntS]
  try simp only [Nat.reduceBEq, Nat.reduceMul, Nat.reduceAdd, Nat.reduceDiv, Int.reduceBEq, rules2, rulesX, rowsX]
  refine w_laws_markIntS_1 _ _ _ _ _ h _ ?_
  try simp only [Nat.reduceBEq, Nat.reduceMul, Nat.reduceAdd, Nat.reduceDiv, Int.reduceBEq, rules2, rulesX, rowsX, List.map_nil]
/- 31: laws_markBoolS -/
def c_laws_markBoolS_1 : ACode := .seq (.reg [(none, .keep [0, 1, 5] [] [1099511627776])]) (.seq (.seq (.reg [(none, .mv 6 (S 5)), (none, .mv 7 (S 0)), (none, .len 8 (S 7)), (none, .bin 9 .lss (S 6) (S 8))]) (.cond (S 9) .skip (.exit 0))) (.seq (.block 1 (.seq (.reg [(none, .mv 12 (S 0)), (none, .mv 13 (S 5)), (none, .mv 14 (S 1)), (none, .bin 15 .rem (S 14) (K 3)), (none, .bin 16 .eql (S 15) (K 0)), (none, .iaddr 17 (S 12) (S 13) 1), (none, .store (S 17) (S 16) 1)]) (.reg [(none, .mv 18 (S 1)), (none, .bin 19 .add (S 18) (K 1)), (none, .mv 1 (S 19))]))) (.reg [(none, .mv 10 (S 5)), (none, .bin 11 .add (S 10) (K 1)), (none, .mv 5 (S 11))])))
def c_laws_markBoolS_n1 : ACode := (.seq (.reg [(none, .mv 20 (S 1)), (none, .mv 4 (S 20))]) .ret)
def c_laws_markBoolS : ACode := (.seq (.reg [(none, .mv 4 (K 0))]) (.seq (.seq (.reg [(none, .mv 5 (K 0))]) (.block 0 (.loop c_laws_markBoolS_1))) c_laws_markBoolS_n1))
theorem w_laws_markBoolS_1 : ∀ (n : Nat) (v1 : Int) (v2 : Int) (v3 : List Bool) (r : Int × List Bool), f_laws_markBoolS_1 n v1 v2 v3 = some r → ∀ σ : St, σ.kept [0, 1, 5] [] [1099511627776] = ⟨[(0, vc (.own 1099511627776)), (1, vc (aI v1)), (5, vc (aI v2))], [], [(1099511627776, 1, List.map rB v3)]⟩ → go Try.prog (.code (.loop c_laws_markBoolS_1) :: [.blk 0, .code c_laws_markBoolS_n1]) (RetX [4] (.int .i64 r.1) [(1, List.map rB r.2)] [(0, 0)]) .normal (some σ) := by
  intro n
  induction n with
  | zero => intro _ _ _ r h; cases h
  | succ n ih =>
    intro v1 v2 v3 r h σ hσ
    rw [f_laws_markBoolS_1] at h
    refine go_round ?_
    rcases Bool.eq_false_or_eq_true (decide (v2 < (v3.length : Int))) with hb4 | hb4
    · rw [ite_t hb4] at h
      obtain ⟨x5, hx5, h⟩ := ob h
      have hx5n := ix_get hx5
      try simp only [hσ, hb4, hx5, c_laws_markBoolS_1, Nat.reduceBEq, Nat.reduceMul, Nat.reduceAdd, Nat.reduceDiv, Int.reduceBEq, rules2, rulesX, rowsX]
      refine go_stp (y := ((IntKind.i64.wrap (Int.tmod v1 (3 : Int))) == (0 : Int))) rfl rfl hx5n rfl rfl rfl ?_
      try simp only [hb4, hx5, Nat.reduceBEq, Nat.reduceMul, Nat.reduceAdd, Nat.reduceDiv, Int.reduceBEq, rules2, rulesX, rowsX]
      refine ih _ _ _ _ h _ ?_
      try simp only [hb4, hx5, Nat.reduceBEq, Nat.reduceMul, Nat.reduceAdd, Nat.reduceDiv, Int.reduceBEq, rules2, rulesX, rowsX, List.map_nil]
    · rw [ite_f hb4] at h
      try simp only [hσ, hb4, c_laws_markBoolS_1, c_laws_markBoolS_n1, Nat.reduceBEq, Nat.reduceMul, Nat.reduceAdd, Nat.reduceDiv, Int.reduceBEq, rules2, rulesX, rowsX]
      cases h
      exact ⟨⟨rfl, trivial⟩, ⟨⟨⟨_, rfl, rfl⟩, rfl⟩, trivial⟩⟩
theorem e_laws_markBoolS : entry Try.prog 31 = some (c_laws_markBoolS.strip, [4], 21) := by kernel_rfl
theorem l_laws_markBoolS_1 : ∀ (n : Nat) (v1 : Int) (v2 : Int) (v3 : List Bool) (r : Int × List Bool), f_laws_markBoolS_1 n v1 v2 v3 = some r → r.2.length = v3.length := by
  intro n
  induction n with
  | zero => intro _ _ _ r h; cases h
  | succ n ih =>
    intro v1 v2 v3 r h
    rw [f_laws_markBoolS_1] at h
    rcases Bool.eq_false_or_eq_true (decide (v2 < (v3.length : Int))) with hb4 | hb4
    · rw [ite_t hb4] at h
      obtain ⟨x5, hx5, h⟩ := ob h
      have hl := ih _ _ _ _ h
      try simp only [List.length_set] at hl
      omega
    · rw [ite_f hb4] at h
      cases h
      all_goals (try dsimp only); first | done | omega | (simp only [List.length_set] at *; omega) | simp_all
theorem l_laws_markBoolS (a0 : List Bool) (a1 : Int) (r : Int × List Bool) (h : f_laws_markBoolS a0 a1 = some r) : r.2.length = a0.length := by
  unfold f_laws_markBoolS at h
  have hl := l_laws_markBoolS_1 _ _ _ _ _ h
  try simp only [List.length_set] at hl
  omega
theorem w_laws_markBoolS (a0 : List Bool) (a1 : Int) (r : Int × List Bool) (h : f_laws_markBoolS a0 a1 = some r) : FCx Try.prog 31 [.sc (.r 0), .sc (.d (.int .i64 a1))] [(1, List.map rB a0)] [(1, List.map rB r.2)] (.int .i64 r.1) := by
  unfold f_laws_markBoolS at h
  refine FCx_go (ps := [(0, 0)]) (σ := ⟨[(0, vc (.own 1099511627776)), (1, vc (aI a1))], [], [(1099511627776, 1, List.map rB a0)]⟩) mixed e_laws_markBoolS rfl rfl rfl (flatR_cons flatR_nil) rfl ?_
  simp only [c_laws_markBoolS]
  try simp only [Nat.reduceBEq, Nat.reduceMul, Nat.reduceAdd, Nat.reduceDiv, Int.reduceBEq, rules2, rulesX, rowsX]
  refine w_laws_markBoolS_1 _ _ _ _ _ h _ ?_
  try simp only [Nat.reduceBEq, Nat.reduceMul, Nat.reduceAdd, Nat.reduceDiv, Int.reduceBEq, rules2, rulesX, rowsX, List.map_nil]
/- 11: laws_markDesk -/
def c_laws_markDesk : ACode := (.seq (.reg [(none, .box 2 (S 0)), (none, .mv 4 (K 0))]) (.seq (.reg [(none, .faddr 5 (S 2) 1), (none, .load 6 (S 5) false 1), (none, .mv 7 (S 1)), (none, .call 8 30 [(S 6), (S 7)]), (none, .mv 1 (S 8))]) (.seq (.reg [(none, .faddr 9 (S 2) 2), (none, .load 10 (S 9) false 1), (none, .mv 11 (S 1)), (none, .call 12 31 [(S 10), (S 11)]), (none, .mv 1 (S 12))]) (.seq (.reg [(none, .mv 13 (S 1)), (none, .mv 4 (S 13))]) .ret))))
theorem e_laws_markDesk : entry Try.prog 11 = some (c_laws_markDesk.strip, [4], 14) := by kernel_rfl
theorem l_laws_markDesk (a0 : XDesk) (a1 : Int) (r : Int × List Int × List Bool) (h : f_laws_markDesk a0 a1 = some r) : r.2.1.length = a0.Starts.length ∧ r.2.2.length = a0.Cleared.length := by
  unfold f_laws_markDesk at h
  obtain ⟨r1, hr1, h⟩ := ob h
  have lrr1 := (l_laws_markIntS _ _ _ hr1)
  obtain ⟨r2, hr2, h⟩ := ob h
  have lrr2 := (l_laws_markBoolS _ _ _ hr2)
  cases h
  all_goals (try dsimp only); first | done | omega | (simp only [List.length_set] at *; omega) | simp_all
theorem w_laws_markDesk (a0 : XDesk) (a1 : Int) (r : Int × List Int × List Bool) (h : f_laws_markDesk a0 a1 = some r) : FCx Try.prog 11 [.ag [.d (.int .i64 a0.Now), .r 0, .r 1], .sc (.d (.int .i64 a1))] [(1, List.map rI a0.Starts), (1, List.map rB a0.Cleared)] [(1, List.map rI r.2.1), (1, List.map rB r.2.2)] (.int .i64 r.1) := by
  unfold f_laws_markDesk at h
  refine FCx_go (ps := [(0, 1), (0, 2)]) (σ := ⟨[(0, va [aI a0.Now, .own 1099511627776, .own 1099511627777]), (1, vc (aI a1))], [], [(1099511627776, 1, List.map rI a0.Starts), (1099511627777, 1, List.map rB a0.Cleared)]⟩) mixed e_laws_markDesk rfl rfl rfl (flatR_cons (flatR_cons flatR_nil)) rfl ?_
  simp only [c_laws_markDesk]
  try simp only [Nat.reduceBEq, Nat.reduceMul, Nat.reduceAdd, Nat.reduceDiv, Int.reduceBEq, rules2, rulesX, rowsX]
  refine go_bx rfl rfl rfl ?_
  obtain ⟨r1, hr1, h⟩ := ob h
  try simp only [Nat.reduceBEq, Nat.reduceMul, Nat.reduceAdd, Nat.reduceDiv, Int.reduceBEq, rules2, rulesX, rowsX]
  have lrr1 := (l_laws_markIntS _ _ _ hr1)
  refine go_callx (ids := [1099511627776]) (w_laws_markIntS _ _ _ hr1) rfl rfl rfl (flatR_cons flatR_nil) (sameLen_cons (l_laws_markIntS _ _ _ hr1) sameLen_nil) ?_
  obtain ⟨r2, hr2, h⟩ := ob h
  try simp only [Nat.reduceBEq, Nat.reduceMul, Nat.reduceAdd, Nat.reduceDiv, Int.reduceBEq, rules2, rulesX, rowsX]
  have lrr2 := (l_laws_markBoolS _ _ _ hr2)
  refine go_callx (ids := [1099511627777]) (w_laws_markBoolS _ _ _ hr2) rfl rfl rfl (flatR_cons flatR_nil) (sameLen_cons (l_laws_markBoolS _ _ _ hr2) sameLen_nil) ?_
  try simp only [Nat.reduceBEq, Nat.reduceMul, Nat.reduceAdd, Nat.reduceDiv, Int.reduceBEq, rules2, rulesX, rowsX]
  cases h
  exact ⟨⟨rfl, trivial⟩, ⟨⟨⟨_, rfl, rfl⟩, rfl⟩, ⟨⟨⟨_, rfl, rfl⟩, rfl⟩, trivial⟩⟩⟩
/- 32: laws_heldIntS -/
def c_laws_heldIntS_1 : ACode := .seq (.reg [(none, .keep [0, 1, 5] [] [])]) (.seq (.seq (.reg [(none, .mv 6 (S 5)), (none, .mv 7 (S 0)), (none, .len 8 (S 7)), (none, .bin 9 .lss (S 6) (S 8))]) (.cond (S 9) .skip (.exit 0))) (.seq (.block 1 (.seq (.seq (.reg [(none, .mv 12 (S 0)), (none, .mv 13 (S 5)), (none, .iaddr 14 (S 12) (S 13) 1), (none, .load 15 (S 14) false 1), (none, .mv 16 (S 1)), (none, .bin 17 .neq (S 15) (S 16))]) (.cond (S 17) (.seq (.reg [(none, .mv 4 (K (-1)))]) .ret) .skip)) (.reg [(none, .mv 18 (S 1)), (none, .bin 19 .add (S 18) (K 1)), (none, .mv 1 (S 19))]))) (.reg [(none, .mv 10 (S 5)), (none, .bin 11 .add (S 10) (K 1)), (none, .mv 5 (S 11))])))
def c_laws_heldIntS_n1 : ACode := (.seq (.reg [(none, .mv 20 (S 1)), (none, .mv 4 (S 20))]) .ret)
def c_laws_heldIntS : ACode := (.seq (.reg [(none, .mv 4 (K 0))]) (.seq (.seq (.reg [(none, .mv 5 (K 0))]) (.block 0 (.loop c_laws_heldIntS_1))) c_laws_heldIntS_n1))
theorem w_laws_heldIntS_1 (a0 : List Int) : ∀ (n : Nat) (v1 : Int) (v2 : Int) (r : Int), f_laws_heldIntS_1 a0 n v1 v2 = some r → ∀ σ : St, σ.kept [0, 1, 5] [] [] = ⟨[(0, vc (aL (List.map rI a0))), (1, vc (aI v1)), (5, vc (aI v2))], [], []⟩ → go Try.prog (.code (.loop c_laws_heldIntS_1) :: [.blk 0, .code c_laws_heldIntS_n1]) (Ret [4] [.sc (.v (.int .i64 r))]) .normal (some σ) := by
  intro n
  induction n with
  | zero => intro _ _ r h; cases h
  | succ n ih =>
    intro v1 v2 r h σ hσ
    rw [f_laws_heldIntS_1] at h
    refine go_round ?_
    rcases Bool.eq_false_or_eq_true (decide (v2 < (a0.length : Int))) with hb3 | hb3
    · rw [ite_t hb3] at h
      obtain ⟨x4, hx4, h⟩ := ob h
      rcases Bool.eq_false_or_eq_true (x4 != v1) with hb5 | hb5
      · rw [ite_t hb5] at h
        try simp only [hσ, hb3, hx4, hb5, c_laws_heldIntS_1, Nat.reduceBEq, Nat.reduceMul, Nat.reduceAdd, Nat.reduceDiv, Int.reduceBEq, rules2, rulesX, rowsX]
        cases h
        exact ⟨⟨rfl, trivial⟩, rfl⟩
      · rw [ite_f hb5] at h
        try simp only [hσ, hb3, hx4, hb5, c_laws_heldIntS_1, Nat.reduceBEq, Nat.reduceMul, Nat.reduceAdd, Nat.reduceDiv, Int.reduceBEq, rules2, rulesX, rowsX]
        refine ih _ _ _ h _ ?_
        try simp only [hb3, hx4, hb5, Nat.reduceBEq, Nat.reduceMul, Nat.reduceAdd, Nat.reduceDiv, Int.reduceBEq, rules2, rulesX, rowsX, List.map_nil]
    · rw [ite_f hb3] at h
      try simp only [hσ, hb3, c_laws_heldIntS_1, c_laws_heldIntS_n1, Nat.reduceBEq, Nat.reduceMul, Nat.reduceAdd, Nat.reduceDiv, Int.reduceBEq, rules2, rulesX, rowsX]
      cases h
      exact ⟨⟨rfl, trivial⟩, rfl⟩
theorem e_laws_heldIntS : entry Try.prog 32 = some (c_laws_heldIntS.strip, [4], 21) := by kernel_rfl
theorem w_laws_heldIntS (a0 : List Int) (a1 : Int) (r : Int) (h : f_laws_heldIntS a0 a1 = some r) : FC Try.prog 32 [.sc (.sl (List.map rI a0)), .sc (.int .i64 a1)] [.sc (.v (.int .i64 r))] := by
  unfold f_laws_heldIntS at h
  refine FC_go (σ := ⟨[(0, vc (aL (List.map rI a0))), (1, vc (aI a1))], [], []⟩) mixed e_laws_heldIntS rfl rfl ?_
  simp only [c_laws_heldIntS]
  try simp only [Nat.reduceBEq, Nat.reduceMul, Nat.reduceAdd, Nat.reduceDiv, Int.reduceBEq, rules2, rulesX, rowsX]
  refine w_laws_heldIntS_1 _ _ _ _ _ h _ ?_
  try simp only [Nat.reduceBEq, Nat.reduceMul, Nat.reduceAdd, Nat.reduceDiv, Int.reduceBEq, rules2, rulesX, rowsX, List.map_nil]
/- 33: laws_heldBoolS -/
def c_laws_heldBoolS_1 : ACode := .seq (.reg [(none, .keep [0, 1, 5] [] [])]) (.seq (.seq (.reg [(none, .mv 6 (S 5)), (none, .mv 7 (S 0)), (none, .len 8 (S 7)), (none, .bin 9 .lss (S 6) (S 8))]) (.cond (S 9) .skip (.exit 0))) (.seq (.block 1 (.seq (.seq (.reg [(none, .mv 12 (S 0)), (none, .mv 13 (S 5)), (none, .iaddr 14 (S 12) (S 13) 1), (none, .load 15 (S 14) false 1), (none, .mv 16 (S 1)), (none, .bin 17 .rem (S 16) (K 3)), (none, .bin 18 .eql (S 17) (K 0)), (none, .beq 19 true (S 15) (S 18))]) (.cond (S 19) (.seq (.reg [(none, .mv 4 (K (-1)))]) .ret) .skip)) (.reg [(none, .mv 20 (S 1)), (none, .bin 21 .add (S 20) (K 1)), (none, .mv 1 (S 21))]))) (.reg [(none, .mv 10 (S 5)), (none, .bin 11 .add (S 10) (K 1)), (none, .mv 5 (S 11))])))
def c_laws_heldBoolS_n1 : ACode := (.seq (.reg [(none, .mv 22 (S 1)), (none, .mv 4 (S 22))]) .ret)
def c_laws_heldBoolS : ACode := (.seq (.reg [(none, .mv 4 (K 0))]) (.seq (.seq (.reg [(none, .mv 5 (K 0))]) (.block 0 (.loop c_laws_heldBoolS_1))) c_laws_heldBoolS_n1))
theorem w_laws_heldBoolS_1 (a0 : List Bool) : ∀ (n : Nat) (v1 : Int) (v2 : Int) (r : Int), f_laws_heldBoolS_1 a0 n v1 v2 = some r → ∀ σ : St, σ.kept [0, 1, 5] [] [] = ⟨[(0, vc (aL (List.map rB a0))), (1, vc (aI v1)), (5, vc (aI v2))], [], []⟩ → go Try.prog (.code (.loop c_laws_heldBoolS_1) :: [.blk 0, .code c_laws_heldBoolS_n1]) (Ret [4] [.sc (.v (.int .i64 r))]) .normal (some σ) := by
  intro n
  induction n with
  | zero => intro _ _ r h; cases h
  | succ n ih =>
    intro v1 v2 r h σ hσ
    rw [f_laws_heldBoolS_1] at h
    refine go_round ?_
    rcases Bool.eq_false_or_eq_true (decide (v2 < (a0.length : Int))) with hb3 | hb3
    · rw [ite_t hb3] at h
      obtain ⟨x4, hx4, h⟩ := ob h
      rcases Bool.eq_false_or_eq_true (x4 == ((IntKind.i64.wrap (Int.tmod v1 (3 : Int))) == (0 : Int))) with hb5 | hb5
      · rw [ite_t hb5] at h
        try simp only [hσ, hb3, hx4, hb5, c_laws_heldBoolS_1, Nat.reduceBEq, Nat.reduceMul, Nat.reduceAdd, Nat.reduceDiv, Int.reduceBEq, rules2, rulesX, rowsX]
        refine ih _ _ _ h _ ?_
        try simp only [hb3, hx4, hb5, Nat.reduceBEq, Nat.reduceMul, Nat.reduceAdd, Nat.reduceDiv, Int.reduceBEq, rules2, rulesX, rowsX, List.map_nil]
      · rw [ite_f hb5] at h
        try simp only [hσ, hb3, hx4, hb5, c_laws_heldBoolS_1, Nat.reduceBEq, Nat.reduceMul, Nat.reduceAdd, Nat.reduceDiv, Int.reduceBEq, rules2, rulesX, rowsX]
        cases h
        exact ⟨⟨rfl, trivial⟩, rfl⟩
    · rw [ite_f hb3] at h
      try simp only [hσ, hb3, c_laws_heldBoolS_1, c_laws_heldBoolS_n1, Nat.reduceBEq, Nat.reduceMul, Nat.reduceAdd, Nat.reduceDiv, Int.reduceBEq, rules2, rulesX, rowsX]
      cases h
      exact ⟨⟨rfl, trivial⟩, rfl⟩
theorem e_laws_heldBoolS : entry Try.prog 33 = some (c_laws_heldBoolS.strip, [4], 23) := by kernel_rfl
theorem w_laws_heldBoolS (a0 : List Bool) (a1 : Int) (r : Int) (h : f_laws_heldBoolS a0 a1 = some r) : FC Try.prog 33 [.sc (.sl (List.map rB a0)), .sc (.int .i64 a1)] [.sc (.v (.int .i64 r))] := by
  unfold f_laws_heldBoolS at h
  refine FC_go (σ := ⟨[(0, vc (aL (List.map rB a0))), (1, vc (aI a1))], [], []⟩) mixed e_laws_heldBoolS rfl rfl ?_
  simp only [c_laws_heldBoolS]
  try simp only [Nat.reduceBEq, Nat.reduceMul, Nat.reduceAdd, Nat.reduceDiv, Int.reduceBEq, rules2, rulesX, rowsX]
  refine w_laws_heldBoolS_1 _ _ _ _ _ h _ ?_
  try simp only [Nat.reduceBEq, Nat.reduceMul, Nat.reduceAdd, Nat.reduceDiv, Int.reduceBEq, rules2, rulesX, rowsX, List.map_nil]
/- 12: laws_heldDesk -/
def c_laws_heldDesk : ACode := (.seq (.reg [(none, .box 2 (S 0)), (none, .mv 4 (K 0))]) (.seq (.reg [(none, .faddr 5 (S 2) 1), (none, .load 6 (S 5) false 1), (none, .mv 7 (S 1)), (none, .call 8 32 [(S 6), (S 7)]), (none, .mv 1 (S 8))]) (.seq (.seq (.reg [(none, .mv 9 (S 1)), (none, .bin 10 .lss (S 9) (K 0))]) (.cond (S 10) (.seq (.reg [(none, .mv 4 (K (-1)))]) .ret) .skip)) (.seq (.reg [(none, .faddr 11 (S 2) 2), (none, .load 12 (S 11) false 1), (none, .mv 13 (S 1)), (none, .call 14 33 [(S 12), (S 13)]), (none, .mv 1 (S 14))]) (.seq (.seq (.reg [(none, .mv 15 (S 1)), (none, .bin 16 .lss (S 15) (K 0))]) (.cond (S 16) (.seq (.reg [(none, .mv 4 (K (-1)))]) .ret) .skip)) (.seq (.reg [(none, .mv 17 (S 1)), (none, .mv 4 (S 17))]) .ret))))))
theorem e_laws_heldDesk : entry Try.prog 12 = some (c_laws_heldDesk.strip, [4], 18) := by kernel_rfl
theorem w_laws_heldDesk (a0 : XDesk) (a1 : Int) (r : Int) (h : f_laws_heldDesk a0 a1 = some r) : FC Try.prog 12 [.ag (XDesk.row a0), .sc (.int .i64 a1)] [.sc (.v (.int .i64 r))] := by
  unfold f_laws_heldDesk at h
  refine FC_go (σ := ⟨[(0, va [aI a0.Now, aL (List.map rI a0.Starts), aL (List.map rB a0.Cleared)]), (1, vc (aI a1))], [], []⟩) mixed e_laws_heldDesk rfl rfl ?_
  simp only [c_laws_heldDesk]
  try simp only [Nat.reduceBEq, Nat.reduceMul, Nat.reduceAdd, Nat.reduceDiv, Int.reduceBEq, rules2, rulesX, rowsX]
  refine go_bx rfl rfl rfl ?_
  obtain ⟨r1, hr1, h⟩ := ob h
  try simp only [Nat.reduceBEq, Nat.reduceMul, Nat.reduceAdd, Nat.reduceDiv, Int.reduceBEq, rules2, rulesX, rowsX]
  refine go_callI (w_laws_heldIntS _ _ _ hr1) rfl rfl (Nat.le_of_ble_eq_true rfl) ?_
  rcases Bool.eq_false_or_eq_true (decide (r1 < (0 : Int))) with hb2 | hb2
  · rw [ite_t hb2] at h
    try simp only [hb2, Nat.reduceBEq, Nat.reduceMul, Nat.reduceAdd, Nat.reduceDiv, Int.reduceBEq, rules2, rulesX, rowsX]
    cases h
    exact ⟨⟨rfl, trivial⟩, rfl⟩
  · rw [ite_f hb2] at h
    obtain ⟨r3, hr3, h⟩ := ob h
    try simp only [hb2, Nat.reduceBEq, Nat.reduceMul, Nat.reduceAdd, Nat.reduceDiv, Int.reduceBEq, rules2, rulesX, rowsX]
    refine go_callI (w_laws_heldBoolS _ _ _ hr3) rfl rfl (Nat.le_of_ble_eq_true rfl) ?_
    rcases Bool.eq_false_or_eq_true (decide (r3 < (0 : Int))) with hb4 | hb4
    · rw [ite_t hb4] at h
      try simp only [hb2, hb4, Nat.reduceBEq, Nat.reduceMul, Nat.reduceAdd, Nat.reduceDiv, Int.reduceBEq, rules2, rulesX, rowsX]
      cases h
      exact ⟨⟨rfl, trivial⟩, rfl⟩
    · rw [ite_f hb4] at h
      try simp only [hb2, hb4, Nat.reduceBEq, Nat.reduceMul, Nat.reduceAdd, Nat.reduceDiv, Int.reduceBEq, rules2, rulesX, rowsX]
      cases h
      exact ⟨⟨rfl, trivial⟩, rfl⟩
/- 3: laws_FnExactApplyEntry -/
def c_laws_FnExactApplyEntry : ACode := (.seq (.reg [(none, .box 2 (S 0)), (none, .box 3 (S 1)), (none, .mv 4 (KB false))]) (.seq (.reg [(none, .mv 5 (K 1048576))]) (.seq (.reg [(none, .load 16 (S 2) true 3), (none, .mv 17 (S 5)), (none, .call 18 5 [(S 16), (S 17)]), (none, .mv 5 (S 18))]) (.seq (.seq (.reg [(none, .mv 19 (S 5)), (none, .bin 20 .lss (S 19) (K 0))]) (.cond (S 20) (.seq (.reg [(none, .mv 4 (KB true))]) .ret) .skip)) (.seq (.drw [(some [6], (none, .load 22 (S 2) true 3)), (some [6], (none, .call 23 7 [(S 22)])), (some [23, 6], (none, .load 24 (S 3) true 4)), (some [6], (none, .call 25 8 [(S 24)])), (some [6], (none, .call 26 6 [(S 23), (S 25)])), (some [6], (none, .mv 21 (S 26))), (some [6], (none, .extr 27 (S 21) 0)), (some [6], (none, .extr 28 (S 21) 1)), (some [23, 25, 26], (none, .alloc 6 [aI 0, .nil, .nil])), (none, (none, .store (S 6) (S 27) 3)), (some [], (none, .mv 7 (S 28)))]) (.seq (.reg [(none, .load 29 (S 2) true 3), (none, .call 30 7 [(S 29)]), (none, .alloc 8 [aI 0, .nil, .nil]), (none, .store (S 8) (S 30) 3)]) (.seq (.drw [(some [34, 9], (none, .load 32 (S 8) true 3)), (some [9], (none, .load 33 (S 3) true 4)), (some [9], (none, .call 34 8 [(S 33)])), (some [9], (none, .call 35 9 [(S 32), (S 34)])), (some [9], (none, .mv 31 (S 35))), (some [9], (none, .extr 36 (S 31) 0)), (some [9], (none, .extr 37 (S 31) 1)), (some [34, 35], (none, .alloc 9 [aI 0, .nil, .nil])), (none, (none, .store (S 9) (S 36) 3)), (some [], (none, .mv 10 (S 37)))]) (.seq (.seq (.reg [(none, .load 38 (S 9) true 3), (none, .load 39 (S 6) true 3), (none, .call 40 10 [(S 38), (S 39)]), (none, .un 41 .not (S 40)), (none, .mv 42 (S 41)), (some (42, false), .mv 43 (S 10)), (some (42, false), .mv 44 (S 7)), (some (42, false), .beq 45 true (S 43) (S 44)), (none, .pick 46 (S 42) (KB true) (S 45))]) (.cond (S 46) (.seq (.reg [(none, .mv 4 (KB false))]) .ret) .skip)) (.seq (.seq (.drw [(some [49], (none, .load 47 (S 8) true 3)), (some [], (none, .load 48 (S 2) true 3)), (some [], (none, .call 49 7 [(S 48)])), (some [], (none, .call 50 10 [(S 47), (S 49)])), (some [], (none, .un 51 .not (S 50)))]) (.cond (S 51) (.seq (.reg [(none, .mv 4 (KB false))]) .ret) .skip)) (.seq (.reg [(none, .mv 11 (K 1))]) (.seq (.reg [(none, .load 52 (S 8) true 3), (none, .mv 53 (S 11)), (none, .call 54 11 [(S 52), (S 53)]), (none, .mv 11 (S 54))]) (.seq (.seq (.reg [(none, .mv 55 (S 11)), (none, .bin 56 .lss (S 55) (K 0)), (none, .mv 57 (S 56)), (some (57, false), .load 58 (S 9) true 3), (some (57, false), .load 59 (S 6) true 3), (some (57, false), .call 60 10 [(S 58), (S 59)]), (some (57, false), .un 61 .not (S 60)), (none, .pick 62 (S 57) (KB true) (S 61)), (none, .mv 63 (S 62)), (some (63, false), .mv 64 (S 10)), (some (63, false), .mv 65 (S 7)), (some (63, false), .beq 66 true (S 64) (S 65)), (none, .pick 67 (S 63) (KB true) (S 66))]) (.cond (S 67) (.seq (.reg [(none, .mv 4 (KB false))]) .ret) .skip)) (.seq (.reg [(none, .mv 12 (K 1))]) (.seq (.reg [(none, .load 68 (S 9) true 3), (none, .mv 69 (S 12)), (none, .call 70 11 [(S 68), (S 69)]), (none, .mv 12 (S 70))]) (.seq (.reg [(none, .mv 13 (K 1))]) (.seq (.reg [(none, .load 71 (S 9) true 3), (none, .mv 72 (S 13)), (none, .call 73 12 [(S 71), (S 72)]), (none, .mv 13 (S 73))]) (.seq (.seq (.reg [(none, .mv 74 (S 13)), (none, .bin 75 .lss (S 74) (K 0))]) (.cond (S 75) (.seq (.reg [(none, .mv 4 (KB false))]) .ret) .skip)) (.seq (.seq (.reg [(none, .mv 76 (S 13)), (none, .mv 77 (S 12)), (none, .bin 78 .neq (S 76) (S 77))]) (.cond (S 78) (.seq (.reg [(none, .mv 4 (KB false))]) .ret) .skip)) (.seq (.drw [(some [14], (none, .load 80 (S 2) true 3)), (some [14], (none, .call 81 7 [(S 80)])), (some [81, 14], (none, .load 82 (S 3) true 4)), (some [14], (none, .call 83 8 [(S 82)])), (some [14], (none, .call 84 9 [(S 81), (S 83)])), (some [14], (none, .mv 79 (S 84))), (some [14], (none, .extr 85 (S 79) 0)), (some [14], (none, .extr 86 (S 79) 1)), (some [81, 83, 84], (none, .alloc 14 [aI 0, .nil, .nil])), (none, (none, .store (S 14) (S 85) 3)), (some [], (none, .mv 15 (S 86)))]) (.seq (.seq (.reg [(none, .load 87 (S 14) true 3), (none, .load 88 (S 6) true 3), (none, .call 89 10 [(S 87), (S 88)]), (none, .un 90 .not (S 89)), (none, .mv 91 (S 90)), (some (91, false), .mv 92 (S 15)), (some (91, false), .mv 93 (S 7)), (some (91, false), .beq 94 true (S 92) (S 93)), (none, .pick 95 (S 91) (KB true) (S 94))]) (.cond (S 95) (.seq (.reg [(none, .mv 4 (KB false))]) .ret) .skip)) (.seq (.reg [(none, .mv 13 (K 1))]) (.seq (.reg [(none, .load 96 (S 9) true 3), (none, .mv 97 (S 13)), (none, .call 98 12 [(S 96), (S 97)]), (none, .mv 13 (S 98))]) (.seq (.seq (.reg [(none, .mv 99 (S 13)), (none, .bin 100 .lss (S 99) (K 0))]) (.cond (S 100) (.seq (.reg [(none, .mv 4 (KB false))]) .ret) .skip)) (.seq (.seq (.reg [(none, .mv 101 (S 13)), (none, .mv 102 (S 12)), (none, .bin 103 .neq (S 101) (S 102))]) (.cond (S 103) (.seq (.reg [(none, .mv 4 (KB false))]) .ret) .skip)) (.seq (.reg [(none, .mv 4 (KB true))]) .ret)))))))))))))))))))))))))
theorem e_laws_FnExactApplyEntry : entry Try.prog 3 = some (c_laws_FnExactApplyEntry.strip, [4], 104) := by kernel_rfl
theorem w_laws_FnExactApplyEntry (a0 : XDesk) (a1 : XEntry) (r : Bool) (h : f_laws_FnExactApplyEntry a0 a1 = some r) : FC Try.prog 3 [.ag (XDesk.row a0), .ag (XEntry.row a1)] [.sc (.v (.bool r))] := by
  unfold f_laws_FnExactApplyEntry at h
  refine FC_go (σ := ⟨[(0, va [aI a0.Now, aL (List.map rI a0.Starts), aL (List.map rB a0.Cleared)]), (1, va [aI a1.Kind, aI a1.At, aI a1.Call, aI a1.Value])], [], []⟩) mixed e_laws_FnExactApplyEntry rfl rfl ?_
  simp only [c_laws_FnExactApplyEntry]
  try simp only [Nat.reduceBEq, Nat.reduceMul, Nat.reduceAdd, Nat.reduceDiv, Int.reduceBEq, rules2, rulesX, rowsX]
  refine go_bx rfl rfl rfl ?_
  try simp only [Nat.reduceBEq, Nat.reduceMul, Nat.reduceAdd, Nat.reduceDiv, Int.reduceBEq, rules2, rulesX, rowsX]
  refine go_bx rfl rfl rfl ?_
  obtain ⟨r1, hr1, h⟩ := ob h
  try simp only [Nat.reduceBEq, Nat.reduceMul, Nat.reduceAdd, Nat.reduceDiv, Int.reduceBEq, rules2, rulesX, rowsX]
  refine go_callI (w_laws_szDesk _ _ _ hr1) rfl rfl (Nat.le_of_ble_eq_true rfl) ?_
  rcases Bool.eq_false_or_eq_true (decide (r1 < (0 : Int))) with hb2 | hb2
  · rw [ite_t hb2] at h
    try simp only [hb2, Nat.reduceBEq, Nat.reduceMul, Nat.reduceAdd, Nat.reduceDiv, Int.reduceBEq, rules2, rulesX, rowsX]
    cases h
    exact ⟨⟨rfl, trivial⟩, rfl⟩
  · rw [ite_f hb2] at h
    try simp only [hb2, Nat.reduceBEq, Nat.reduceMul, Nat.reduceAdd, Nat.reduceDiv, Int.reduceBEq, rules2, rulesX, rowsX]
    refine go_fr_of rfl ?_
    obtain ⟨r3, hr3, h⟩ := ob h
    try simp only [hb2, Nat.reduceBEq, Nat.reduceMul, Nat.reduceAdd, Nat.reduceDiv, Int.reduceBEq, rules2, rulesX, rowsX]
    refine go_dcallI (w_laws_toDesk _ _ hr3) rfl rfl (Nat.le_of_ble_eq_true rfl) ?_
    obtain ⟨r4, hr4, h⟩ := ob h
    try simp only [hb2, Nat.reduceBEq, Nat.reduceMul, Nat.reduceAdd, Nat.reduceDiv, Int.reduceBEq, rules2, rulesX, rowsX]
    refine go_dcallI (w_laws_toEntry _ _ hr4) rfl rfl (Nat.le_of_ble_eq_true rfl) ?_
    obtain ⟨r5, hr5, h⟩ := ob h
    try simp only [hb2, Nat.reduceBEq, Nat.reduceMul, Nat.reduceAdd, Nat.reduceDiv, Int.reduceBEq, rules2, rulesX, rowsX]
    refine go_dcall (w_spec_ApplyEntry _ _ _ hr5) (by first | rfl | kernel_rfl) (flat_l rfl ⟨rfl, flat_o, flat_o, rfl, trivial⟩) rfl (Nat.le_of_ble_eq_true rfl) ?_
    try simp only [hb2, Nat.reduceBEq, Nat.reduceMul, Nat.reduceAdd, Nat.reduceDiv, Int.reduceBEq, rules2, rulesX, rowsX]
    refine go_mkN (m := .box 6 [aI (0 : Int), .nil, .nil]) rfl rfl (make_box rfl rfl) ?_
    try simp only [hb2, Nat.reduceBEq, Nat.reduceMul, Nat.reduceAdd, Nat.reduceDiv, Int.reduceBEq, rules2, rulesX, rowsX]
    refine go_fr_of rfl ?_
    obtain ⟨r6, hr6, h⟩ := ob h
    try simp only [hb2, Nat.reduceBEq, Nat.reduceMul, Nat.reduceAdd, Nat.reduceDiv, Int.reduceBEq, rules2, rulesX, rowsX]
    refine go_callI (w_laws_toDesk _ _ hr6) rfl rfl (Nat.le_of_ble_eq_true rfl) ?_
    try simp only [hb2, Nat.reduceBEq, Nat.reduceMul, Nat.reduceAdd, Nat.reduceDiv, Int.reduceBEq, rules2, rulesX, rowsX]
    refine go_al rfl rfl ?_
    try simp only [hb2, Nat.reduceBEq, Nat.reduceMul, Nat.reduceAdd, Nat.reduceDiv, Int.reduceBEq, rules2, rulesX, rowsX]
    refine go_fr_of rfl ?_
    obtain ⟨r7, hr7, h⟩ := ob h
    try simp only [hb2, Nat.reduceBEq, Nat.reduceMul, Nat.reduceAdd, Nat.reduceDiv, Int.reduceBEq, rules2, rulesX, rowsX]
    refine go_dcallI (w_laws_toEntry _ _ hr7) rfl rfl (Nat.le_of_ble_eq_true rfl) ?_
    obtain ⟨r8, hr8, h⟩ := ob h
    try simp only [hb2, Nat.reduceBEq, Nat.reduceMul, Nat.reduceAdd, Nat.reduceDiv, Int.reduceBEq, rules2, rulesX, rowsX]
    refine go_dcall (w_impl_ApplyEntry _ _ _ hr8) (by first | rfl | kernel_rfl) (flat_l rfl ⟨rfl, flat_o, flat_o, rfl, trivial⟩) rfl (Nat.le_of_ble_eq_true rfl) ?_
    try simp only [hb2, Nat.reduceBEq, Nat.reduceMul, Nat.reduceAdd, Nat.reduceDiv, Int.reduceBEq, rules2, rulesX, rowsX]
    refine go_mkN (m := .box 9 [aI (0 : Int), .nil, .nil]) rfl rfl (make_box rfl rfl) ?_
    try simp only [hb2, Nat.reduceBEq, Nat.reduceMul, Nat.reduceAdd, Nat.reduceDiv, Int.reduceBEq, rules2, rulesX, rowsX]
    refine go_fr_of rfl ?_
    obtain ⟨r9, hr9, h⟩ := ob h
    try simp only [hb2, Nat.reduceBEq, Nat.reduceMul, Nat.reduceAdd, Nat.reduceDiv, Int.reduceBEq, rules2, rulesX, rowsX]
    refine go_call (w_laws_eqDesk _ _ _ hr9) rfl (flat_of rfl) rfl (Nat.le_of_ble_eq_true rfl) ?_
    rcases Bool.eq_false_or_eq_true r9 with hb10 | hb10
    · rw [ite_t hb10] at h
      rcases Bool.eq_false_or_eq_true (r8.2 == r5.2) with hb11 | hb11
      · rw [ite_t hb11] at h
        try simp only [hb2, hb10, hb11, Nat.reduceBEq, Nat.reduceMul, Nat.reduceAdd, Nat.reduceDiv, Int.reduceBEq, rules2, rulesX, rowsX]
        refine go_fr_of rfl ?_
        obtain ⟨r12, hr12, h⟩ := ob h
        try simp only [hb2, hb10, hb11, Nat.reduceBEq, Nat.reduceMul, Nat.reduceAdd, Nat.reduceDiv, Int.reduceBEq, rules2, rulesX, rowsX]
        refine go_dcallI (w_laws_toDesk _ _ hr12) rfl rfl (Nat.le_of_ble_eq_true rfl) ?_
        obtain ⟨r13, hr13, h⟩ := ob h
        try simp only [hb2, hb10, hb11, Nat.reduceBEq, Nat.reduceMul, Nat.reduceAdd, Nat.reduceDiv, Int.reduceBEq, rules2, rulesX, rowsX]
        refine go_dcall (w_laws_eqDesk _ _ _ hr13) (by first | rfl | kernel_rfl) (flat_of rfl) rfl (Nat.le_of_ble_eq_true rfl) ?_
        rcases Bool.eq_false_or_eq_true r13 with hb14 | hb14
        · rw [ite_t hb14] at h
          obtain ⟨r15, hr15, h⟩ := ob h
          try simp only [hb2, hb10, hb11, hb14, Nat.reduceBEq, Nat.reduceMul, Nat.reduceAdd, Nat.reduceDiv, Int.reduceBEq, rules2, rulesX, rowsX]
          have lrr15 := (l_laws_markDesk _ _ _ hr15)
          refine go_callx (ids := [1921, 1922]) (w_laws_markDesk _ _ _ hr15) rfl rfl rfl (flatR_cons (flatR_cons flatR_nil)) (sameLen_cons (l_laws_markDesk _ _ _ hr15).1 (sameLen_cons (l_laws_markDesk _ _ _ hr15).2 sameLen_nil)) ?_
          rcases Bool.eq_false_or_eq_true (decide (r15.1 < (0 : Int))) with hb16 | hb16
          · rw [ite_t hb16] at h
            try simp only [hb2, hb10, hb11, hb14, hb16, Nat.reduceBEq, Nat.reduceMul, Nat.reduceAdd, Nat.reduceDiv, Int.reduceBEq, rules2, rulesX, rowsX]
            cases h
            exact ⟨⟨rfl, trivial⟩, rfl⟩
          · rw [ite_f hb16] at h
            obtain ⟨r17, hr17, h⟩ := ob h
            try simp only [hb2, hb10, hb11, hb14, hb16, Nat.reduceBEq, Nat.reduceMul, Nat.reduceAdd, Nat.reduceDiv, Int.reduceBEq, rules2, rulesX, rowsX]
            refine go_call (w_laws_eqDesk _ _ _ hr17) rfl (flat_of rfl) rfl (Nat.le_of_ble_eq_true rfl) ?_
            rcases Bool.eq_false_or_eq_true r17 with hb18 | hb18
            · rw [ite_t hb18] at h
              obtain ⟨r19, hr19, h⟩ := ob h
              try simp only [hb2, hb10, hb11, hb14, hb16, hb18, Nat.reduceBEq, Nat.reduceMul, Nat.reduceAdd, Nat.reduceDiv, Int.reduceBEq, rules2, rulesX, rowsX]
              have lrr19 := (l_laws_markDesk _ _ _ hr19)
              refine go_callx (ids := [2241, 2242]) (w_laws_markDesk _ _ _ hr19) rfl rfl rfl (flatR_cons (flatR_cons flatR_nil)) (sameLen_cons (l_laws_markDesk _ _ _ hr19).1 (sameLen_cons (l_laws_markDesk _ _ _ hr19).2 sameLen_nil)) ?_
              obtain ⟨r20, hr20, h⟩ := ob h
              try simp only [hb2, hb10, hb11, hb14, hb16, hb18, Nat.reduceBEq, Nat.reduceMul, Nat.reduceAdd, Nat.reduceDiv, Int.reduceBEq, rules2, rulesX, rowsX]
              refine go_call (w_laws_heldDesk _ _ _ hr20) rfl (flat_of rfl) rfl (Nat.le_of_ble_eq_true rfl) ?_
              rcases Bool.eq_false_or_eq_true (decide (r20 < (0 : Int))) with hb21 | hb21
              · rw [ite_t hb21] at h
                try simp only [hb2, hb10, hb11, hb14, hb16, hb18, hb21, Nat.reduceBEq, Nat.reduceMul, Nat.reduceAdd, Nat.reduceDiv, Int.reduceBEq, rules2, rulesX, rowsX]
                cases h
                exact ⟨⟨rfl, trivial⟩, rfl⟩
              · rw [ite_f hb21] at h
                rcases Bool.eq_false_or_eq_true (r20 != r19.1) with hb22 | hb22
                · rw [ite_t hb22] at h
                  try simp only [hb2, hb10, hb11, hb14, hb16, hb18, hb21, hb22, Nat.reduceBEq, Nat.reduceMul, Nat.reduceAdd, Nat.reduceDiv, Int.reduceBEq, rules2, rulesX, rowsX]
                  cases h
                  exact ⟨⟨rfl, trivial⟩, rfl⟩
                · rw [ite_f hb22] at h
                  try simp only [hb2, hb10, hb11, hb14, hb16, hb18, hb21, hb22, Nat.reduceBEq, Nat.reduceMul, Nat.reduceAdd, Nat.reduceDiv, Int.reduceBEq, rules2, rulesX, rowsX]
                  refine go_fr_of rfl ?_
                  obtain ⟨r23, hr23, h⟩ := ob h
                  try simp only [hb2, hb10, hb11, hb14, hb16, hb18, hb21, hb22, Nat.reduceBEq, Nat.reduceMul, Nat.reduceAdd, Nat.reduceDiv, Int.reduceBEq, rules2, rulesX, rowsX]
                  refine go_dcallI (w_laws_toDesk _ _ hr23) rfl rfl (Nat.le_of_ble_eq_true rfl) ?_
                  obtain ⟨r24, hr24, h⟩ := ob h
                  try simp only [hb2, hb10, hb11, hb14, hb16, hb18, hb21, hb22, Nat.reduceBEq, Nat.reduceMul, Nat.reduceAdd, Nat.reduceDiv, Int.reduceBEq, rules2, rulesX, rowsX]
                  refine go_dcallI (w_laws_toEntry _ _ hr24) rfl rfl (Nat.le_of_ble_eq_true rfl) ?_
                  obtain ⟨r25, hr25, h⟩ := ob h
                  try simp only [hb2, hb10, hb11, hb14, hb16, hb18, hb21, hb22, Nat.reduceBEq, Nat.reduceMul, Nat.reduceAdd, Nat.reduceDiv, Int.reduceBEq, rules2, rulesX, rowsX]
                  refine go_dcall (w_impl_ApplyEntry _ _ _ hr25) (by first | rfl | kernel_rfl) (flat_l rfl ⟨rfl, flat_o, flat_o, rfl, trivial⟩) rfl (Nat.le_of_ble_eq_true rfl) ?_
                  try simp only [hb2, hb10, hb11, hb14, hb16, hb18, hb21, hb22, Nat.reduceBEq, Nat.reduceMul, Nat.reduceAdd, Nat.reduceDiv, Int.reduceBEq, rules2, rulesX, rowsX]
                  refine go_mkN (m := .box 14 [aI (0 : Int), .nil, .nil]) rfl rfl (make_box rfl rfl) ?_
                  try simp only [hb2, hb10, hb11, hb14, hb16, hb18, hb21, hb22, Nat.reduceBEq, Nat.reduceMul, Nat.reduceAdd, Nat.reduceDiv, Int.reduceBEq, rules2, rulesX, rowsX]
                  refine go_fr_of rfl ?_
                  obtain ⟨r26, hr26, h⟩ := ob h
                  try simp only [hb2, hb10, hb11, hb14, hb16, hb18, hb21, hb22, Nat.reduceBEq, Nat.reduceMul, Nat.reduceAdd, Nat.reduceDiv, Int.reduceBEq, rules2, rulesX, rowsX]
                  refine go_call (w_laws_eqDesk _ _ _ hr26) rfl (flat_of rfl) rfl (Nat.le_of_ble_eq_true rfl) ?_
                  rcases Bool.eq_false_or_eq_true r26 with hb27 | hb27
                  · rw [ite_t hb27] at h
                    rcases Bool.eq_false_or_eq_true (r25.2 == r5.2) with hb28 | hb28
                    · rw [ite_t hb28] at h
                      obtain ⟨r29, hr29, h⟩ := ob h
                      try simp only [hb2, hb10, hb11, hb14, hb16, hb18, hb21, hb22, hb27, hb28, Nat.reduceBEq, Nat.reduceMul, Nat.reduceAdd, Nat.reduceDiv, Int.reduceBEq, rules2, rulesX, rowsX]
                      refine go_call (w_laws_heldDesk _ _ _ hr29) rfl (flat_of rfl) rfl (Nat.le_of_ble_eq_true rfl) ?_
                      rcases Bool.eq_false_or_eq_true (decide (r29 < (0 : Int))) with hb30 | hb30
                      · rw [ite_t hb30] at h
                        try simp only [hb2, hb10, hb11, hb14, hb16, hb18, hb21, hb22, hb27, hb28, hb30, Nat.reduceBEq, Nat.reduceMul, Nat.reduceAdd, Nat.reduceDiv, Int.reduceBEq, rules2, rulesX, rowsX]
                        cases h
                        exact ⟨⟨rfl, trivial⟩, rfl⟩
                      · rw [ite_f hb30] at h
                        rcases Bool.eq_false_or_eq_true (r29 != r19.1) with hb31 | hb31
                        · rw [ite_t hb31] at h
                          try simp only [hb2, hb10, hb11, hb14, hb16, hb18, hb21, hb22, hb27, hb28, hb30, hb31, Nat.reduceBEq, Nat.reduceMul, Nat.reduceAdd, Nat.reduceDiv, Int.reduceBEq, rules2, rulesX, rowsX]
                          cases h
                          exact ⟨⟨rfl, trivial⟩, rfl⟩
                        · rw [ite_f hb31] at h
                          try simp only [hb2, hb10, hb11, hb14, hb16, hb18, hb21, hb22, hb27, hb28, hb30, hb31, Nat.reduceBEq, Nat.reduceMul, Nat.reduceAdd, Nat.reduceDiv, Int.reduceBEq, rules2, rulesX, rowsX]
                          cases h
                          exact ⟨⟨rfl, trivial⟩, rfl⟩
                    · rw [ite_f hb28] at h
                      try simp only [hb2, hb10, hb11, hb14, hb16, hb18, hb21, hb22, hb27, hb28, Nat.reduceBEq, Nat.reduceMul, Nat.reduceAdd, Nat.reduceDiv, Int.reduceBEq, rules2, rulesX, rowsX]
                      cases h
                      exact ⟨⟨rfl, trivial⟩, rfl⟩
                  · rw [ite_f hb27] at h
                    try simp only [hb2, hb10, hb11, hb14, hb16, hb18, hb21, hb22, hb27, Nat.reduceBEq, Nat.reduceMul, Nat.reduceAdd, Nat.reduceDiv, Int.reduceBEq, rules2, rulesX, rowsX]
                    cases h
                    exact ⟨⟨rfl, trivial⟩, rfl⟩
            · rw [ite_f hb18] at h
              try simp only [hb2, hb10, hb11, hb14, hb16, hb18, Nat.reduceBEq, Nat.reduceMul, Nat.reduceAdd, Nat.reduceDiv, Int.reduceBEq, rules2, rulesX, rowsX]
              cases h
              exact ⟨⟨rfl, trivial⟩, rfl⟩
        · rw [ite_f hb14] at h
          try simp only [hb2, hb10, hb11, hb14, Nat.reduceBEq, Nat.reduceMul, Nat.reduceAdd, Nat.reduceDiv, Int.reduceBEq, rules2, rulesX, rowsX]
          cases h
          exact ⟨⟨rfl, trivial⟩, rfl⟩
      · rw [ite_f hb11] at h
        try simp only [hb2, hb10, hb11, Nat.reduceBEq, Nat.reduceMul, Nat.reduceAdd, Nat.reduceDiv, Int.reduceBEq, rules2, rulesX, rowsX]
        cases h
        exact ⟨⟨rfl, trivial⟩, rfl⟩
    · rw [ite_f hb10] at h
      try simp only [hb2, hb10, Nat.reduceBEq, Nat.reduceMul, Nat.reduceAdd, Nat.reduceDiv, Int.reduceBEq, rules2, rulesX, rowsX]
      cases h
      exact ⟨⟨rfl, trivial⟩, rfl⟩
end Go.Vi
