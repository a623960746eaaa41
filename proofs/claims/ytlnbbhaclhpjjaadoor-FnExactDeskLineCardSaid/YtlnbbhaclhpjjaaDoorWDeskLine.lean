/-
  Walks: what the plain definitions compute is what the functions return. By program. No condition.
-/
import Derived.Test.YtlnbbhaclhpjjaaDoorNf
import Derived.Test.YtlnbbhaclhpjjaaDoorChecked
import Derived.Test.YtlnbbhaclhpjjaaDoorSh
import Derived.KernelRfl
namespace Go.Vi
open Go.Proofs
set_option linter.unusedSimpArgs false
set_option linter.unusedVariables false
attribute [local irreducible] go AWP
theorem mixed : Tryd.prog.follows .mixedOrders = true := by kernel_rfl
/- 59: laws_szIntS -/
def c_laws_szIntS : ACode := (.seq (.reg [(none, .mv 4 (K 0))]) (.seq (.reg [(none, .mv 5 (S 1)), (none, .mv 6 (S 0)), (none, .len 7 (S 6)), (none, .bin 8 .sub (S 5) (S 7)), (none, .mv 1 (S 8))]) (.seq (.seq (.reg [(none, .mv 9 (S 1)), (none, .bin 10 .lss (S 9) (K 0))]) (.cond (S 10) (.seq (.reg [(none, .mv 4 (K (-1)))]) .ret) .skip)) (.seq (.reg [(none, .mv 11 (S 1)), (none, .mv 4 (S 11))]) .ret))))
theorem e_laws_szIntS : entry Tryd.prog 59 = some (c_laws_szIntS.strip, [4], 12) := by kernel_rfl
theorem w_laws_szIntS (a0 : List Int) (a1 : Int) (r : Int) (h : f_laws_szIntS a0 a1 = some r) : FC Tryd.prog 59 [.sc (.sl (List.map rI a0)), .sc (.int .i64 a1)] [.sc (.v (.int .i64 r))] := by
  unfold f_laws_szIntS at h
  refine FC_go (σ := ⟨[(0, vc (aL (List.map rI a0))), (1, vc (aI a1))], [], []⟩) mixed e_laws_szIntS rfl rfl ?_
  simp only [c_laws_szIntS]
  rcases Bool.eq_false_or_eq_true (decide ((IntKind.i64.wrap (a1 - (a0.length : Int))) < (0 : Int))) with hb1 | hb1
  · rw [ite_t hb1] at h
    try simp only [hb1, Nat.reduceBEq, Nat.reduceMul, Nat.reduceAdd, Nat.reduceDiv, Int.reduceBEq, rules2, rowsX]
    cases h
    exact ⟨⟨rfl, trivial⟩, rfl⟩
  · rw [ite_f hb1] at h
    try simp only [hb1, Nat.reduceBEq, Nat.reduceMul, Nat.reduceAdd, Nat.reduceDiv, Int.reduceBEq, rules2, rowsX]
    cases h
    exact ⟨⟨rfl, trivial⟩, rfl⟩
/- 60: laws_szBoolS -/
def c_laws_szBoolS : ACode := (.seq (.reg [(none, .mv 4 (K 0))]) (.seq (.reg [(none, .mv 5 (S 1)), (none, .mv 6 (S 0)), (none, .len 7 (S 6)), (none, .bin 8 .sub (S 5) (S 7)), (none, .mv 1 (S 8))]) (.seq (.seq (.reg [(none, .mv 9 (S 1)), (none, .bin 10 .lss (S 9) (K 0))]) (.cond (S 10) (.seq (.reg [(none, .mv 4 (K (-1)))]) .ret) .skip)) (.seq (.reg [(none, .mv 11 (S 1)), (none, .mv 4 (S 11))]) .ret))))
theorem e_laws_szBoolS : entry Tryd.prog 60 = some (c_laws_szBoolS.strip, [4], 12) := by kernel_rfl
theorem w_laws_szBoolS (a0 : List Bool) (a1 : Int) (r : Int) (h : f_laws_szBoolS a0 a1 = some r) : FC Tryd.prog 60 [.sc (.sl (List.map rB a0)), .sc (.int .i64 a1)] [.sc (.v (.int .i64 r))] := by
  unfold f_laws_szBoolS at h
  refine FC_go (σ := ⟨[(0, vc (aL (List.map rB a0))), (1, vc (aI a1))], [], []⟩) mixed e_laws_szBoolS rfl rfl ?_
  simp only [c_laws_szBoolS]
  rcases Bool.eq_false_or_eq_true (decide ((IntKind.i64.wrap (a1 - (a0.length : Int))) < (0 : Int))) with hb1 | hb1
  · rw [ite_t hb1] at h
    try simp only [hb1, Nat.reduceBEq, Nat.reduceMul, Nat.reduceAdd, Nat.reduceDiv, Int.reduceBEq, rules2, rowsX]
    cases h
    exact ⟨⟨rfl, trivial⟩, rfl⟩
  · rw [ite_f hb1] at h
    try simp only [hb1, Nat.reduceBEq, Nat.reduceMul, Nat.reduceAdd, Nat.reduceDiv, Int.reduceBEq, rules2, rowsX]
    cases h
    exact ⟨⟨rfl, trivial⟩, rfl⟩
/- 15: laws_szDesk -/
def c_laws_szDesk : ACode := (.seq (.reg [(none, .box 2 (S 0)), (none, .mv 4 (K 0))]) (.seq (.reg [(none, .faddr 5 (S 2) 1), (none, .load 6 (S 5) false 1), (none, .mv 7 (S 1)), (none, .call 8 59 [(S 6), (S 7)]), (none, .mv 1 (S 8))]) (.seq (.seq (.reg [(none, .mv 9 (S 1)), (none, .bin 10 .lss (S 9) (K 0))]) (.cond (S 10) (.seq (.reg [(none, .mv 4 (K (-1)))]) .ret) .skip)) (.seq (.reg [(none, .faddr 11 (S 2) 2), (none, .load 12 (S 11) false 1), (none, .mv 13 (S 1)), (none, .call 14 60 [(S 12), (S 13)]), (none, .mv 1 (S 14))]) (.seq (.seq (.reg [(none, .mv 15 (S 1)), (none, .bin 16 .lss (S 15) (K 0))]) (.cond (S 16) (.seq (.reg [(none, .mv 4 (K (-1)))]) .ret) .skip)) (.seq (.reg [(none, .mv 17 (S 1)), (none, .mv 4 (S 17))]) .ret))))))
theorem e_laws_szDesk : entry Tryd.prog 15 = some (c_laws_szDesk.strip, [4], 18) := by kernel_rfl
theorem w_laws_szDesk (a0 : XDesk) (a1 : Int) (r : Int) (h : f_laws_szDesk a0 a1 = some r) : FC Tryd.prog 15 [.ag (XDesk.row a0), .sc (.int .i64 a1)] [.sc (.v (.int .i64 r))] := by
  unfold f_laws_szDesk at h
  refine FC_go (σ := ⟨[(0, va [aI a0.Now, aL (List.map rI a0.Starts), aL (List.map rB a0.Cleared)]), (1, vc (aI a1))], [], []⟩) mixed e_laws_szDesk rfl rfl ?_
  simp only [c_laws_szDesk]
  try simp only [Nat.reduceBEq, Nat.reduceMul, Nat.reduceAdd, Nat.reduceDiv, Int.reduceBEq, rules2, rowsX]
  refine go_bx rfl rfl rfl ?_
  obtain ⟨r1, hr1, h⟩ := ob h
  try simp only [Nat.reduceBEq, Nat.reduceMul, Nat.reduceAdd, Nat.reduceDiv, Int.reduceBEq, rules2, rowsX]
  refine go_callI (w_laws_szIntS _ _ _ hr1) rfl rfl (Nat.le_of_ble_eq_true rfl) ?_
  rcases Bool.eq_false_or_eq_true (decide (r1 < (0 : Int))) with hb2 | hb2
  · rw [ite_t hb2] at h
    try simp only [hb2, Nat.reduceBEq, Nat.reduceMul, Nat.reduceAdd, Nat.reduceDiv, Int.reduceBEq, rules2, rowsX]
    cases h
    exact ⟨⟨rfl, trivial⟩, rfl⟩
  · rw [ite_f hb2] at h
    obtain ⟨r3, hr3, h⟩ := ob h
    try simp only [hb2, Nat.reduceBEq, Nat.reduceMul, Nat.reduceAdd, Nat.reduceDiv, Int.reduceBEq, rules2, rowsX]
    refine go_callI (w_laws_szBoolS _ _ _ hr3) rfl rfl (Nat.le_of_ble_eq_true rfl) ?_
    rcases Bool.eq_false_or_eq_true (decide (r3 < (0 : Int))) with hb4 | hb4
    · rw [ite_t hb4] at h
      try simp only [hb2, hb4, Nat.reduceBEq, Nat.reduceMul, Nat.reduceAdd, Nat.reduceDiv, Int.reduceBEq, rules2, rowsX]
      cases h
      exact ⟨⟨rfl, trivial⟩, rfl⟩
    · rw [ite_f hb4] at h
      try simp only [hb2, hb4, Nat.reduceBEq, Nat.reduceMul, Nat.reduceAdd, Nat.reduceDiv, Int.reduceBEq, rules2, rowsX]
      cases h
      exact ⟨⟨rfl, trivial⟩, rfl⟩
/- 62: laws_toIntS -/
def c_laws_toIntS_1 : ACode := .seq (.reg [(none, .keep [0, 3, 4] [] [448])]) (.seq (.seq (.reg [(none, .mv 8 (S 4)), (none, .mv 9 (S 0)), (none, .len 10 (S 9)), (none, .bin 11 .lss (S 8) (S 10))]) (.cond (S 11) .skip (.exit 0))) (.seq (.block 1 (.reg [(none, .mv 14 (S 3)), (none, .mv 15 (S 4)), (none, .mv 16 (S 0)), (none, .mv 17 (S 4)), (none, .iaddr 18 (S 16) (S 17) 1), (none, .load 19 (S 18) false 1), (none, .iaddr 20 (S 14) (S 15) 1), (none, .store (S 20) (S 19) 1)])) (.reg [(none, .mv 12 (S 4)), (none, .bin 13 .add (S 12) (K 1)), (none, .mv 4 (S 13))])))
def c_laws_toIntS_n1 : ACode := (.seq (.reg [(none, .mv 21 (S 3)), (none, .mv 2 (S 21))]) .ret)
def c_laws_toIntS : ACode := (.seq (.reg [(none, .mv 2 KN)]) (.seq (.reg [(none, .mv 5 (S 0)), (none, .len 6 (S 5)), (none, .mksl 7 1 8 [.int .i64 0] (S 6) (S 6)), (none, .mv 3 (S 7))]) (.seq (.seq (.reg [(none, .mv 4 (K 0))]) (.block 0 (.loop c_laws_toIntS_1))) c_laws_toIntS_n1)))
theorem w_laws_toIntS_1 (a0 : List Int) : ∀ (n : Nat) (v2 : Int) (v3 : List Int) (r : (List Int)), f_laws_toIntS_1 a0 n v2 v3 = some r → ∀ σ : St, σ.kept [0, 3, 4] [] [448] = ⟨[(0, vc (aL (List.map rI a0))), (3, vc (.own 448)), (4, vc (aI v2))], [], [(448, 1, List.map rI v3)]⟩ → go Tryd.prog (.code (.loop c_laws_toIntS_1) :: [.blk 0, .code c_laws_toIntS_n1]) (Ret [2] [.sc (.o 1 (List.map rI r))]) .normal (some σ) := by
  intro n
  induction n with
  | zero => intro _ _ r h; cases h
  | succ n ih =>
    intro v2 v3 r h σ hσ
    rw [f_laws_toIntS_1] at h
    refine go_round ?_
    rcases Bool.eq_false_or_eq_true (decide (v2 < (a0.length : Int))) with hb4 | hb4
    · rw [ite_t hb4] at h
      obtain ⟨x5, hx5, h⟩ := ob h
      obtain ⟨x6, hx6, h⟩ := ob h
      have hx6n := ix_get hx6
      try simp only [hσ, hb4, hx5, hx6, c_laws_toIntS_1, Nat.reduceBEq, Nat.reduceMul, Nat.reduceAdd, Nat.reduceDiv, Int.reduceBEq, rules2, rowsX]
      refine go_stp (y := x5) rfl rfl hx6n rfl rfl rfl ?_
      try simp only [hb4, hx5, hx6, Nat.reduceBEq, Nat.reduceMul, Nat.reduceAdd, Nat.reduceDiv, Int.reduceBEq, rules2, rowsX]
      refine ih _ _ _ h _ ?_
      try simp only [hb4, hx5, hx6, Nat.reduceBEq, Nat.reduceMul, Nat.reduceAdd, Nat.reduceDiv, Int.reduceBEq, rules2, rowsX, List.map_nil]
    · rw [ite_f hb4] at h
      try simp only [hσ, hb4, c_laws_toIntS_1, c_laws_toIntS_n1, Nat.reduceBEq, Nat.reduceMul, Nat.reduceAdd, Nat.reduceDiv, Int.reduceBEq, rules2, rowsX]
      cases h
      exact ⟨⟨rfl, trivial⟩, rfl⟩
theorem e_laws_toIntS : entry Tryd.prog 62 = some (c_laws_toIntS.strip, [2], 22) := by kernel_rfl
theorem w_laws_toIntS (a0 : List Int) (r : (List Int)) (h : f_laws_toIntS a0 = some r) : FC Tryd.prog 62 [.sc (.sl (List.map rI a0))] [.sc (.o 1 (List.map rI r))] := by
  unfold f_laws_toIntS at h
  refine FC_go (σ := ⟨[(0, vc (aL (List.map rI a0)))], [], []⟩) mixed e_laws_toIntS rfl rfl ?_
  simp only [c_laws_toIntS]
  obtain ⟨n1, hn1, h⟩ := ob h
  try simp only [Nat.reduceBEq, Nat.reduceMul, Nat.reduceAdd, Nat.reduceDiv, Int.reduceBEq, rules2, rowsX]
  refine go_mks (es := List.map rI (List.replicate n1 (0 : Int))) rfl rfl hn1 rfl (rep_map rfl) rfl ?_
  try simp only [Nat.reduceBEq, Nat.reduceMul, Nat.reduceAdd, Nat.reduceDiv, Int.reduceBEq, rules2, rowsX]
  refine w_laws_toIntS_1 _ _ _ _ _ h _ ?_
  try simp only [Nat.reduceBEq, Nat.reduceMul, Nat.reduceAdd, Nat.reduceDiv, Int.reduceBEq, rules2, rowsX, List.map_nil]
/- 63: laws_toBoolS -/
def c_laws_toBoolS_1 : ACode := .seq (.reg [(none, .keep [0, 3, 4] [] [448])]) (.seq (.seq (.reg [(none, .mv 8 (S 4)), (none, .mv 9 (S 0)), (none, .len 10 (S 9)), (none, .bin 11 .lss (S 8) (S 10))]) (.cond (S 11) .skip (.exit 0))) (.seq (.block 1 (.reg [(none, .mv 14 (S 3)), (none, .mv 15 (S 4)), (none, .mv 16 (S 0)), (none, .mv 17 (S 4)), (none, .iaddr 18 (S 16) (S 17) 1), (none, .load 19 (S 18) false 1), (none, .iaddr 20 (S 14) (S 15) 1), (none, .store (S 20) (S 19) 1)])) (.reg [(none, .mv 12 (S 4)), (none, .bin 13 .add (S 12) (K 1)), (none, .mv 4 (S 13))])))
def c_laws_toBoolS_n1 : ACode := (.seq (.reg [(none, .mv 21 (S 3)), (none, .mv 2 (S 21))]) .ret)
def c_laws_toBoolS : ACode := (.seq (.reg [(none, .mv 2 KN)]) (.seq (.reg [(none, .mv 5 (S 0)), (none, .len 6 (S 5)), (none, .mksl 7 1 1 [.bool false] (S 6) (S 6)), (none, .mv 3 (S 7))]) (.seq (.seq (.reg [(none, .mv 4 (K 0))]) (.block 0 (.loop c_laws_toBoolS_1))) c_laws_toBoolS_n1)))
theorem w_laws_toBoolS_1 (a0 : List Bool) : ∀ (n : Nat) (v2 : Int) (v3 : List Bool) (r : (List Bool)), f_laws_toBoolS_1 a0 n v2 v3 = some r → ∀ σ : St, σ.kept [0, 3, 4] [] [448] = ⟨[(0, vc (aL (List.map rB a0))), (3, vc (.own 448)), (4, vc (aI v2))], [], [(448, 1, List.map rB v3)]⟩ → go Tryd.prog (.code (.loop c_laws_toBoolS_1) :: [.blk 0, .code c_laws_toBoolS_n1]) (Ret [2] [.sc (.o 1 (List.map rB r))]) .normal (some σ) := by
  intro n
  induction n with
  | zero => intro _ _ r h; cases h
  | succ n ih =>
    intro v2 v3 r h σ hσ
    rw [f_laws_toBoolS_1] at h
    refine go_round ?_
    rcases Bool.eq_false_or_eq_true (decide (v2 < (a0.length : Int))) with hb4 | hb4
    · rw [ite_t hb4] at h
      obtain ⟨x5, hx5, h⟩ := ob h
      obtain ⟨x6, hx6, h⟩ := ob h
      have hx6n := ix_get hx6
      try simp only [hσ, hb4, hx5, hx6, c_laws_toBoolS_1, Nat.reduceBEq, Nat.reduceMul, Nat.reduceAdd, Nat.reduceDiv, Int.reduceBEq, rules2, rowsX]
      refine go_stp (y := x5) rfl rfl hx6n rfl rfl rfl ?_
      try simp only [hb4, hx5, hx6, Nat.reduceBEq, Nat.reduceMul, Nat.reduceAdd, Nat.reduceDiv, Int.reduceBEq, rules2, rowsX]
      refine ih _ _ _ h _ ?_
      try simp only [hb4, hx5, hx6, Nat.reduceBEq, Nat.reduceMul, Nat.reduceAdd, Nat.reduceDiv, Int.reduceBEq, rules2, rowsX, List.map_nil]
    · rw [ite_f hb4] at h
      try simp only [hσ, hb4, c_laws_toBoolS_1, c_laws_toBoolS_n1, Nat.reduceBEq, Nat.reduceMul, Nat.reduceAdd, Nat.reduceDiv, Int.reduceBEq, rules2, rowsX]
      cases h
      exact ⟨⟨rfl, trivial⟩, rfl⟩
theorem e_laws_toBoolS : entry Tryd.prog 63 = some (c_laws_toBoolS.strip, [2], 22) := by kernel_rfl
theorem w_laws_toBoolS (a0 : List Bool) (r : (List Bool)) (h : f_laws_toBoolS a0 = some r) : FC Tryd.prog 63 [.sc (.sl (List.map rB a0))] [.sc (.o 1 (List.map rB r))] := by
  unfold f_laws_toBoolS at h
  refine FC_go (σ := ⟨[(0, vc (aL (List.map rB a0)))], [], []⟩) mixed e_laws_toBoolS rfl rfl ?_
  simp only [c_laws_toBoolS]
  obtain ⟨n1, hn1, h⟩ := ob h
  try simp only [Nat.reduceBEq, Nat.reduceMul, Nat.reduceAdd, Nat.reduceDiv, Int.reduceBEq, rules2, rowsX]
  refine go_mks (es := List.map rB (List.replicate n1 false)) rfl rfl hn1 rfl (rep_map rfl) rfl ?_
  try simp only [Nat.reduceBEq, Nat.reduceMul, Nat.reduceAdd, Nat.reduceDiv, Int.reduceBEq, rules2, rowsX]
  refine w_laws_toBoolS_1 _ _ _ _ _ h _ ?_
  try simp only [Nat.reduceBEq, Nat.reduceMul, Nat.reduceAdd, Nat.reduceDiv, Int.reduceBEq, rules2, rowsX, List.map_nil]
/- 17: laws_toDesk -/
def c_laws_toDesk : ACode := (.seq (.reg [(none, .box 1 (S 0)), (none, .alloc 2 [aI 0, .nil, .nil])]) (.seq (.reg [(none, .alloc 3 [aI 0, .nil, .nil])]) (.seq (.reg [(none, .faddr 4 (S 1) 0), (none, .load 5 (S 4) false 1), (none, .faddr 6 (S 3) 0), (none, .store (S 6) (S 5) 1)]) (.seq (.reg [(none, .faddr 7 (S 1) 1), (none, .load 8 (S 7) false 1), (none, .call 9 62 [(S 8)]), (none, .faddr 10 (S 3) 1), (none, .store (S 10) (S 9) 1)]) (.seq (.reg [(none, .faddr 11 (S 1) 2), (none, .load 12 (S 11) false 1), (none, .call 13 63 [(S 12)]), (none, .faddr 14 (S 3) 2), (none, .store (S 14) (S 13) 1)]) (.seq (.reg [(none, .load 15 (S 3) true 3), (none, .store (S 2) (S 15) 3)]) .ret))))))
theorem e_laws_toDesk : entry Tryd.prog 17 = some (c_laws_toDesk.strip, [.c 2 true 3], 16) := by kernel_rfl
theorem w_laws_toDesk (a0 : XDesk) (r : XDesk) (h : f_laws_toDesk a0 = some r) : FC Tryd.prog 17 [.ag (XDesk.row a0)] [.ag [.v (.int .i64 r.Now), .o 1 (List.map rI r.Starts), .o 1 (List.map rB r.Cleared)]] := by
  unfold f_laws_toDesk at h
  refine FC_go (σ := ⟨[(0, va [aI a0.Now, aL (List.map rI a0.Starts), aL (List.map rB a0.Cleared)])], [], []⟩) mixed e_laws_toDesk rfl rfl ?_
  simp only [c_laws_toDesk]
  try simp only [Nat.reduceBEq, Nat.reduceMul, Nat.reduceAdd, Nat.reduceDiv, Int.reduceBEq, rules2, rowsX]
  refine go_bx rfl rfl rfl ?_
  try simp only [Nat.reduceBEq, Nat.reduceMul, Nat.reduceAdd, Nat.reduceDiv, Int.reduceBEq, rules2, rowsX]
  refine go_al rfl rfl ?_
  try simp only [Nat.reduceBEq, Nat.reduceMul, Nat.reduceAdd, Nat.reduceDiv, Int.reduceBEq, rules2, rowsX]
  refine go_al rfl rfl ?_
  obtain ⟨r1, hr1, h⟩ := ob h
  try simp only [Nat.reduceBEq, Nat.reduceMul, Nat.reduceAdd, Nat.reduceDiv, Int.reduceBEq, rules2, rowsX]
  refine go_callI (w_laws_toIntS _ _ hr1) rfl rfl (Nat.le_of_ble_eq_true rfl) ?_
  obtain ⟨r2, hr2, h⟩ := ob h
  try simp only [Nat.reduceBEq, Nat.reduceMul, Nat.reduceAdd, Nat.reduceDiv, Int.reduceBEq, rules2, rowsX]
  refine go_callI (w_laws_toBoolS _ _ hr2) rfl rfl (Nat.le_of_ble_eq_true rfl) ?_
  try simp only [Nat.reduceBEq, Nat.reduceMul, Nat.reduceAdd, Nat.reduceDiv, Int.reduceBEq, rules2, rowsX]
  cases h
  try simp only [rulesR, Nat.reduceBEq, Nat.reduceMul, Nat.reduceAdd, Nat.reduceDiv, Int.reduceBEq, rules2, rowsX]
  exact ⟨⟨⟨rfl, rfl, rfl, trivial⟩, trivial⟩, rfl⟩
/- 51: spec_l01In -/
def c_spec_l01In : ACode := (.seq (.reg [(none, .mv 6 (KB false))]) (.seq (.reg [(none, .mv 7 (S 0)), (none, .mv 8 (S 1)), (none, .bin 9 .geq (S 7) (S 8)), (none, .mv 10 (S 9)), (some (10, true), .mv 11 (S 0)), (some (10, true), .mv 12 (S 2)), (some (10, true), .bin 13 .leq (S 11) (S 12)), (none, .pick 14 (S 10) (S 13) (KB false)), (none, .mv 6 (S 14))]) .ret))
theorem e_spec_l01In : entry Tryd.prog 51 = some (c_spec_l01In.strip, [6], 15) := by kernel_rfl
theorem w_spec_l01In (a0 : Int) (a1 : Int) (a2 : Int) (r : Bool) (h : f_spec_l01In a0 a1 a2 = some r) : FC Tryd.prog 51 [.sc (.int .i64 a0), .sc (.int .i64 a1), .sc (.int .i64 a2)] [.sc (.v (.bool r))] := by
  unfold f_spec_l01In at h
  refine FC_go (σ := ⟨[(0, vc (aI a0)), (1, vc (aI a1)), (2, vc (aI a2))], [], []⟩) mixed e_spec_l01In rfl rfl ?_
  simp only [c_spec_l01In]
  rcases Bool.eq_false_or_eq_true (decide (a1 ≤ a0)) with hb1 | hb1
  · rw [ite_t hb1] at h
    try simp only [hb1, Nat.reduceBEq, Nat.reduceMul, Nat.reduceAdd, Nat.reduceDiv, Int.reduceBEq, rules2, rowsX]
    cases h
    exact ⟨⟨rfl, trivial⟩, rfl⟩
  · rw [ite_f hb1] at h
    try simp only [hb1, Nat.reduceBEq, Nat.reduceMul, Nat.reduceAdd, Nat.reduceDiv, Int.reduceBEq, rules2, rowsX]
    cases h
    exact ⟨⟨rfl, trivial⟩, rfl⟩
/- 61: spec_DeskOk -/
def c_spec_DeskOk_1 : ACode := .seq (.reg [(none, .keep [1, 25, 26, 27] [1] [])]) (.seq (.reg [(none, .bin 28 .lss (S 27) (S 26))]) (.seq (.cond (S 28) .skip (.exit 0)) (.seq (.block 1 (.seq (.reg [(none, .mv 29 (S 27)), (none, .iaddr 30 (S 25) (S 27) 1), (none, .load 31 (S 30) false 1), (none, .mv 3 (S 29)), (none, .mv 4 (S 31))]) (.seq (.reg [(none, .mv 32 (S 4)), (none, .call 33 51 [(S 32), (K (-1)), (K 2880)]), (none, .un 34 .not (S 33)), (none, .mv 35 (S 34)), (some (35, false), .faddr 36 (S 1) 2), (some (35, false), .load 37 (S 36) false 1), (some (35, false), .mv 38 (S 3)), (some (35, false), .iaddr 39 (S 37) (S 38) 1), (some (35, false), .load 40 (S 39) false 1), (some (35, false), .mv 41 (S 40)), (some (41, true), .mv 42 (S 4)), (some (41, true), .bin 43 .lss (S 42) (K 0)), (some (35, false), .pick 44 (S 41) (S 43) (KB false)), (none, .pick 45 (S 35) (KB true) (S 44))]) (.cond (S 45) (.seq (.reg [(none, .mv 2 (KB false))]) .ret) .skip)))) (.reg [(none, .bin 46 .add (S 27) (K 1)), (none, .mv 27 (S 46))]))))
def c_spec_DeskOk_n1 : ACode := (.seq (.reg [(none, .mv 2 (KB true))]) .ret)
def c_spec_DeskOk : ACode := (.seq (.reg [(none, .box 1 (S 0)), (none, .mv 2 (KB false))]) (.seq (.seq (.reg [(none, .faddr 5 (S 1) 0), (none, .load 6 (S 5) false 1), (none, .call 7 51 [(S 6), (K 0), (K 2880)]), (none, .un 8 .not (S 7)), (none, .mv 9 (S 8)), (some (9, false), .faddr 10 (S 1) 1), (some (9, false), .load 11 (S 10) false 1), (some (9, false), .len 12 (S 11)), (some (9, false), .bin 13 .gtr (S 12) (K 6)), (none, .pick 14 (S 9) (KB true) (S 13)), (none, .mv 15 (S 14)), (some (15, false), .faddr 16 (S 1) 2), (some (15, false), .load 17 (S 16) false 1), (some (15, false), .len 18 (S 17)), (some (15, false), .faddr 19 (S 1) 1), (some (15, false), .load 20 (S 19) false 1), (some (15, false), .len 21 (S 20)), (some (15, false), .bin 22 .neq (S 18) (S 21)), (none, .pick 23 (S 15) (KB true) (S 22))]) (.cond (S 23) (.seq (.reg [(none, .mv 2 (KB false))]) .ret) .skip)) (.seq (.seq (.reg [(none, .faddr 24 (S 1) 1), (none, .load 25 (S 24) false 1), (none, .len 26 (S 25)), (none, .mv 27 (K 0))]) (.block 0 (.loop c_spec_DeskOk_1))) c_spec_DeskOk_n1)))
theorem w_spec_DeskOk_1 (a0 : XDesk) : ∀ (n : Nat) (v5 : Int) (r : Bool), f_spec_DeskOk_1 a0 n v5 = some r → ∀ σ : St, σ.kept [1, 25, 26, 27] [1] [] = ⟨[(1, vc (.pb 1 0)), (25, vc (aL (List.map rI a0.Starts))), (26, vc (aI (a0.Starts.length : Int))), (27, vc (aI v5))], [(1, [aI a0.Now, aL (List.map rI a0.Starts), aL (List.map rB a0.Cleared)])], []⟩ → go Tryd.prog (.code (.loop c_spec_DeskOk_1) :: [.blk 0, .code c_spec_DeskOk_n1]) (Ret [2] [.sc (.v (.bool r))]) .normal (some σ) := by
  intro n
  induction n with
  | zero => intro _ r h; cases h
  | succ n ih =>
    intro v5 r h σ hσ
    rw [f_spec_DeskOk_1] at h
    refine go_round ?_
    rcases Bool.eq_false_or_eq_true (decide (v5 < (a0.Starts.length : Int))) with hb6 | hb6
    · rw [ite_t hb6] at h
      obtain ⟨x7, hx7, h⟩ := ob h
      obtain ⟨r8, hr8, h⟩ := ob h
      try simp only [hσ, hb6, hx7, c_spec_DeskOk_1, Nat.reduceBEq, Nat.reduceMul, Nat.reduceAdd, Nat.reduceDiv, Int.reduceBEq, rules2, rowsX]
      refine go_callI (w_spec_l01In _ _ _ _ hr8) rfl rfl (Nat.le_of_ble_eq_true rfl) ?_
      rcases Bool.eq_false_or_eq_true r8 with hb9 | hb9
      · rw [ite_t hb9] at h
        obtain ⟨x10, hx10, h⟩ := ob h
        rcases Bool.eq_false_or_eq_true x10 with hb11 | hb11
        · rw [ite_t hb11] at h
          rcases Bool.eq_false_or_eq_true (decide (x7 < (0 : Int))) with hb12 | hb12
          · rw [ite_t hb12] at h
            try simp only [hb6, hx7, hb9, hx10, hb11, hb12, Nat.reduceBEq, Nat.reduceMul, Nat.reduceAdd, Nat.reduceDiv, Int.reduceBEq, rules2, rowsX]
            cases h
            exact ⟨⟨rfl, trivial⟩, rfl⟩
          · rw [ite_f hb12] at h
            try simp only [hb6, hx7, hb9, hx10, hb11, hb12, Nat.reduceBEq, Nat.reduceMul, Nat.reduceAdd, Nat.reduceDiv, Int.reduceBEq, rules2, rowsX]
            refine ih _ _ h _ ?_
            try simp only [hb6, hx7, hb9, hx10, hb11, hb12, Nat.reduceBEq, Nat.reduceMul, Nat.reduceAdd, Nat.reduceDiv, Int.reduceBEq, rules2, rowsX, List.map_nil]
        · rw [ite_f hb11] at h
          try simp only [hb6, hx7, hb9, hx10, hb11, Nat.reduceBEq, Nat.reduceMul, Nat.reduceAdd, Nat.reduceDiv, Int.reduceBEq, rules2, rowsX]
          refine ih _ _ h _ ?_
          try simp only [hb6, hx7, hb9, hx10, hb11, Nat.reduceBEq, Nat.reduceMul, Nat.reduceAdd, Nat.reduceDiv, Int.reduceBEq, rules2, rowsX, List.map_nil]
      · rw [ite_f hb9] at h
        try simp only [hb6, hx7, hb9, Nat.reduceBEq, Nat.reduceMul, Nat.reduceAdd, Nat.reduceDiv, Int.reduceBEq, rules2, rowsX]
        cases h
        exact ⟨⟨rfl, trivial⟩, rfl⟩
    · rw [ite_f hb6] at h
      try simp only [hσ, hb6, c_spec_DeskOk_1, c_spec_DeskOk_n1, Nat.reduceBEq, Nat.reduceMul, Nat.reduceAdd, Nat.reduceDiv, Int.reduceBEq, rules2, rowsX]
      cases h
      exact ⟨⟨rfl, trivial⟩, rfl⟩
theorem e_spec_DeskOk : entry Tryd.prog 61 = some (c_spec_DeskOk.strip, [2], 47) := by kernel_rfl
theorem w_spec_DeskOk (a0 : XDesk) (r : Bool) (h : f_spec_DeskOk a0 = some r) : FC Tryd.prog 61 [.ag (XDesk.row a0)] [.sc (.v (.bool r))] := by
  unfold f_spec_DeskOk at h
  refine FC_go (σ := ⟨[(0, va [aI a0.Now, aL (List.map rI a0.Starts), aL (List.map rB a0.Cleared)])], [], []⟩) mixed e_spec_DeskOk rfl rfl ?_
  simp only [c_spec_DeskOk]
  try simp only [Nat.reduceBEq, Nat.reduceMul, Nat.reduceAdd, Nat.reduceDiv, Int.reduceBEq, rules2, rowsX]
  refine go_bx rfl rfl rfl ?_
  obtain ⟨r1, hr1, h⟩ := ob h
  try simp only [Nat.reduceBEq, Nat.reduceMul, Nat.reduceAdd, Nat.reduceDiv, Int.reduceBEq, rules2, rowsX]
  refine go_callI (w_spec_l01In _ _ _ _ hr1) rfl rfl (Nat.le_of_ble_eq_true rfl) ?_
  rcases Bool.eq_false_or_eq_true r1 with hb2 | hb2
  · rw [ite_t hb2] at h
    rcases Bool.eq_false_or_eq_true (decide ((6 : Int) < (a0.Starts.length : Int))) with hb3 | hb3
    · rw [ite_t hb3] at h
      try simp only [hb2, hb3, Nat.reduceBEq, Nat.reduceMul, Nat.reduceAdd, Nat.reduceDiv, Int.reduceBEq, rules2, rowsX]
      cases h
      exact ⟨⟨rfl, trivial⟩, rfl⟩
    · rw [ite_f hb3] at h
      rcases Bool.eq_false_or_eq_true ((a0.Cleared.length : Int) != (a0.Starts.length : Int)) with hb4 | hb4
      · rw [ite_t hb4] at h
        try simp only [hb2, hb3, hb4, Nat.reduceBEq, Nat.reduceMul, Nat.reduceAdd, Nat.reduceDiv, Int.reduceBEq, rules2, rowsX]
        cases h
        exact ⟨⟨rfl, trivial⟩, rfl⟩
      · rw [ite_f hb4] at h
        try simp only [hb2, hb3, hb4, Nat.reduceBEq, Nat.reduceMul, Nat.reduceAdd, Nat.reduceDiv, Int.reduceBEq, rules2, rowsX]
        refine w_spec_DeskOk_1 _ _ _ _ h _ ?_
        try simp only [hb2, hb3, hb4, Nat.reduceBEq, Nat.reduceMul, Nat.reduceAdd, Nat.reduceDiv, Int.reduceBEq, rules2, rowsX, List.map_nil]
  · rw [ite_f hb2] at h
    try simp only [hb2, Nat.reduceBEq, Nat.reduceMul, Nat.reduceAdd, Nat.reduceDiv, Int.reduceBEq, rules2, rowsX]
    cases h
    exact ⟨⟨rfl, trivial⟩, rfl⟩
/- 52: spec_FormatInt -/
def c_spec_FormatInt_1 : ACode := .seq (.reg [(none, .keep [0, 3] [] [])]) (.seq (.seq (.reg [(none, .mv 25 (S 0)), (none, .bin 26 .gtr (S 25) (K 9))]) (.cond (S 26) .skip (.exit 0))) (.block 1 (.seq (.reg [(none, .mv 27 (S 0)), (none, .bin 28 .rem (S 27) (K 10)), (none, .bin 29 .add (K 48) (S 28)), (none, .conv 30 .u8 (S 29)), (none, .bslice 31 1 [.int .u8 0] 1 [(0, (S 30))]), (none, .sconv 32 (S 31)), (none, .mv 33 (S 3)), (none, .bin 34 .add (S 32) (S 33)), (none, .mv 3 (S 34))]) (.reg [(none, .mv 35 (S 0)), (none, .bin 36 .quo (S 35) (K 10)), (none, .mv 0 (S 36))]))))
def c_spec_FormatInt_n1 : ACode := (.seq (.reg [(none, .mv 37 (S 0)), (none, .bin 38 .add (K 48) (S 37)), (none, .conv 39 .u8 (S 38)), (none, .bslice 40 1 [.int .u8 0] 1 [(0, (S 39))]), (none, .sconv 41 (S 40)), (none, .mv 42 (S 3)), (none, .bin 43 .add (S 41) (S 42)), (none, .mv 2 (S 43))]) .ret)
def c_spec_FormatInt : ACode := (.seq (.reg [(none, .mv 2 (KS []))]) (.seq (.seq (.reg [(none, .mv 4 (S 0)), (none, .bin 5 .lss (S 4) (K 0))]) (.cond (S 5) (.seq (.seq (.reg [(none, .mv 6 (S 0)), (none, .bin 7 .quo (S 6) (K 10)), (none, .bin 8 .eql (S 7) (K 0))]) (.cond (S 8) (.seq (.reg [(none, .mv 9 (S 0)), (none, .bin 10 .sub (K 48) (S 9)), (none, .conv 11 .u8 (S 10)), (none, .bslice 12 1 [.int .u8 0] 1 [(0, (S 11))]), (none, .sconv 13 (S 12)), (none, .bin 14 .add (KS [45]) (S 13)), (none, .mv 2 (S 14))]) .ret) .skip)) (.seq (.drw [(some [22], (none, .mv 15 (S 0))), (some [22], (none, .bin 16 .quo (S 15) (K 10))), (some [22], (none, .call 17 52 [(S 16)])), (some [17], (none, .mv 18 (S 0))), (some [17], (none, .bin 19 .rem (S 18) (K 10))), (some [17], (none, .bin 20 .sub (K 48) (S 19))), (some [17], (none, .conv 21 .u8 (S 20))), (some [17], (none, .bslice 22 1 [.int .u8 0] 1 [(0, (S 21))])), (some [17], (none, .sconv 23 (S 22))), (some [], (none, .bin 24 .add (S 17) (S 23))), (some [], (none, .mv 2 (S 24)))]) .ret)) .skip)) (.seq (.reg [(none, .mv 3 (KS []))]) (.seq (.block 0 (.loop c_spec_FormatInt_1)) c_spec_FormatInt_n1))))
theorem w_spec_FormatInt_1 (rec_ : Int → Option (List UInt8)) (h_rec : ∀ (a0 : Int) zr, rec_ a0 = some zr → FC Tryd.prog 52 [.sc (.int .i64 a0)] [.sc (.v (.str zr))]) : ∀ (n : Nat) (v6 : Int) (v7 : List UInt8) (r : (List UInt8)), f_spec_FormatInt_1 rec_ n v6 v7 = some r → ∀ σ : St, σ.kept [0, 3] [] [] = ⟨[(0, vc (aI v6)), (3, vc (aS v7))], [], []⟩ → go Tryd.prog (.code (.loop c_spec_FormatInt_1) :: [.blk 0, .code c_spec_FormatInt_n1]) (Ret [2] [.sc (.v (.str r))]) .normal (some σ) := by
  intro n
  induction n with
  | zero => intro _ _ r h; cases h
  | succ n ih =>
    intro v6 v7 r h σ hσ
    rw [f_spec_FormatInt_1] at h
    refine go_round ?_
    rcases Bool.eq_false_or_eq_true (decide ((9 : Int) < v6)) with hb8 | hb8
    · rw [ite_t hb8] at h
      try simp only [hσ, hb8, c_spec_FormatInt_1, Nat.reduceBEq, Nat.reduceMul, Nat.reduceAdd, Nat.reduceDiv, Int.reduceBEq, rules2, rowsX]
      refine go_bsl (es := List.map r8 ([(IntKind.u8.wrap (IntKind.i64.wrap ((48 : Int) + (IntKind.i64.wrap (Int.tmod v6 (10 : Int))))))] : List Int)) rfl rfl ?_
      obtain ⟨hg9, h⟩ := of_guard h
      try simp only [hb8, hg9, Nat.reduceBEq, Nat.reduceMul, Nat.reduceAdd, Nat.reduceDiv, Int.reduceBEq, rules2, rowsX]
      refine ih _ _ _ h _ ?_
      try simp only [hb8, hg9, Nat.reduceBEq, Nat.reduceMul, Nat.reduceAdd, Nat.reduceDiv, Int.reduceBEq, rules2, rowsX, List.map_nil]
    · rw [ite_f hb8] at h
      try simp only [hσ, hb8, c_spec_FormatInt_1, c_spec_FormatInt_n1, Nat.reduceBEq, Nat.reduceMul, Nat.reduceAdd, Nat.reduceDiv, Int.reduceBEq, rules2, rowsX]
      refine go_bsl (es := List.map r8 ([(IntKind.u8.wrap (IntKind.i64.wrap ((48 : Int) + v6)))] : List Int)) rfl rfl ?_
      obtain ⟨hg10, h⟩ := of_guard h
      try simp only [hb8, hg10, Nat.reduceBEq, Nat.reduceMul, Nat.reduceAdd, Nat.reduceDiv, Int.reduceBEq, rules2, rowsX]
      cases h
      exact ⟨⟨rfl, trivial⟩, rfl⟩
theorem e_spec_FormatInt : entry Tryd.prog 52 = some (c_spec_FormatInt.strip, [2], 44) := by kernel_rfl
theorem w_spec_FormatInt_b (rec_ : Int → Option (List UInt8)) (a0 : Int) (r : (List UInt8)) (h_rec : ∀ (a0 : Int) zr, rec_ a0 = some zr → FC Tryd.prog 52 [.sc (.int .i64 a0)] [.sc (.v (.str zr))]) (h : f_spec_FormatInt_b rec_ a0 = some r) : FC Tryd.prog 52 [.sc (.int .i64 a0)] [.sc (.v (.str r))] := by
  unfold f_spec_FormatInt_b at h
  refine FC_go (σ := ⟨[(0, vc (aI a0))], [], []⟩) mixed e_spec_FormatInt rfl rfl ?_
  simp only [c_spec_FormatInt]
  rcases Bool.eq_false_or_eq_true (decide (a0 < (0 : Int))) with hb1 | hb1
  · rw [ite_t hb1] at h
    rcases Bool.eq_false_or_eq_true ((IntKind.i64.wrap (Int.tdiv a0 (10 : Int))) == (0 : Int)) with hb2 | hb2
    · rw [ite_t hb2] at h
      try simp only [hb1, hb2, Nat.reduceBEq, Nat.reduceMul, Nat.reduceAdd, Nat.reduceDiv, Int.reduceBEq, rules2, rowsX]
      refine go_bsl (es := List.map r8 ([(IntKind.u8.wrap (IntKind.i64.wrap ((48 : Int) - a0)))] : List Int)) rfl rfl ?_
      obtain ⟨hg3, h⟩ := of_guard h
      try simp only [hb1, hb2, hg3, Nat.reduceBEq, Nat.reduceMul, Nat.reduceAdd, Nat.reduceDiv, Int.reduceBEq, rules2, rowsX]
      cases h
      exact ⟨⟨rfl, trivial⟩, rfl⟩
    · rw [ite_f hb2] at h
      try simp only [hb1, hb2, Nat.reduceBEq, Nat.reduceMul, Nat.reduceAdd, Nat.reduceDiv, Int.reduceBEq, rules2, rowsX]
      refine go_fr_of rfl ?_
      obtain ⟨r4, hr4, h⟩ := ob h
      try simp only [hb1, hb2, Nat.reduceBEq, Nat.reduceMul, Nat.reduceAdd, Nat.reduceDiv, Int.reduceBEq, rules2, rowsX]
      refine go_dcallI (h_rec _ _ hr4) rfl rfl (Nat.le_of_ble_eq_true rfl) ?_
      try simp only [hb1, hb2, Nat.reduceBEq, Nat.reduceMul, Nat.reduceAdd, Nat.reduceDiv, Int.reduceBEq, rules2, rowsX]
      refine go_mkN (m := .row 22 1 (List.map r8 ([(IntKind.u8.wrap (IntKind.i64.wrap ((48 : Int) - (IntKind.i64.wrap (Int.tmod a0 (10 : Int))))))] : List Int))) rfl rfl (make_row rfl) ?_
      obtain ⟨hg5, h⟩ := of_guard h
      try simp only [hb1, hb2, hg5, Nat.reduceBEq, Nat.reduceMul, Nat.reduceAdd, Nat.reduceDiv, Int.reduceBEq, rules2, rowsX]
      cases h
      exact ⟨⟨rfl, trivial⟩, rfl⟩
  · rw [ite_f hb1] at h
    try simp only [hb1, Nat.reduceBEq, Nat.reduceMul, Nat.reduceAdd, Nat.reduceDiv, Int.reduceBEq, rules2, rowsX]
    refine w_spec_FormatInt_1 rec_ h_rec _ _ _ _ h _ ?_
    try simp only [hb1, Nat.reduceBEq, Nat.reduceMul, Nat.reduceAdd, Nat.reduceDiv, Int.reduceBEq, rules2, rowsX, List.map_nil]
theorem w_spec_FormatInt_r : ∀ (n : Nat) (a0 : Int) (r : (List UInt8)), f_spec_FormatInt_r n a0 = some r → FC Tryd.prog 52 [.sc (.int .i64 a0)] [.sc (.v (.str r))] := by
  intro n
  induction n with
  | zero => intro _ r h; cases h
  | succ n ih => intro a0 r h; rw [f_spec_FormatInt_r] at h; exact w_spec_FormatInt_b (f_spec_FormatInt_r n) a0 r ih h
theorem w_spec_FormatInt (a0 : Int) (r : (List UInt8)) (h : f_spec_FormatInt a0 = some r) : FC Tryd.prog 52 [.sc (.int .i64 a0)] [.sc (.v (.str r))] := w_spec_FormatInt_r bigN a0 r h
/- 16: spec_DeskLine -/
def c_spec_DeskLine_3 : ACode := .seq (.reg [(none, .keep [1, 3, 6, 14, 15, 16] [1] [])]) (.reg [(none, .mv 32 (S 3)), (none, .bin 33 .add (S 32) (KS [32])), (none, .mv 34 (S 6)), (none, .bin 35 .add (S 33) (S 34)), (none, .mv 3 (S 35))])
def c_spec_DeskLine_2 : ACode := .seq (.reg [(none, .keep [1, 3, 4, 6, 14, 15, 16] [1] [])]) (.seq (.seq (.reg [(none, .faddr 25 (S 1) 2), (none, .load 26 (S 25) false 1), (none, .mv 27 (S 4)), (none, .iaddr 28 (S 26) (S 27) 1), (none, .load 29 (S 28) false 1)]) (.cond (S 29) (.reg [(none, .mv 30 (S 6)), (none, .bin 31 .add (S 30) (KS [33])), (none, .mv 6 (S 31))]) .skip)) c_spec_DeskLine_3)
def c_spec_DeskLine_n2 : ACode := (.reg [(none, .bin 36 .add (S 16) (K 1)), (none, .mv 16 (S 36))])
def c_spec_DeskLine_1 : ACode := .seq (.reg [(none, .keep [1, 3, 14, 15, 16] [1] [])]) (.seq (.reg [(none, .bin 17 .lss (S 16) (S 15))]) (.seq (.cond (S 17) .skip (.exit 0)) (.seq (.block 1 (.seq (.reg [(none, .mv 18 (S 16)), (none, .iaddr 19 (S 14) (S 16) 1), (none, .load 20 (S 19) false 1), (none, .mv 4 (S 18)), (none, .mv 5 (S 20))]) (.seq (.reg [(none, .mv 6 (KS [45]))]) (.seq (.seq (.reg [(none, .mv 21 (S 5)), (none, .bin 22 .geq (S 21) (K 0))]) (.cond (S 22) (.reg [(none, .mv 23 (S 5)), (none, .call 24 52 [(S 23)]), (none, .mv 6 (S 24))]) .skip)) c_spec_DeskLine_2)))) c_spec_DeskLine_n2)))
def c_spec_DeskLine_n1 : ACode := (.seq (.reg [(none, .mv 37 (S 3)), (none, .mv 2 (S 37))]) .ret)
def c_spec_DeskLine : ACode := (.seq (.reg [(none, .box 1 (S 0)), (none, .mv 2 (KS []))]) (.seq (.seq (.reg [(none, .load 7 (S 1) true 3), (none, .call 8 61 [(S 7)]), (none, .un 9 .not (S 8))]) (.cond (S 9) (.seq (.reg [(none, .mv 2 (KS []))]) .ret) .skip)) (.seq (.reg [(none, .faddr 10 (S 1) 0), (none, .load 11 (S 10) false 1), (none, .call 12 52 [(S 11)]), (none, .mv 3 (S 12))]) (.seq (.seq (.reg [(none, .faddr 13 (S 1) 1), (none, .load 14 (S 13) false 1), (none, .len 15 (S 14)), (none, .mv 16 (K 0))]) (.block 0 (.loop c_spec_DeskLine_1))) c_spec_DeskLine_n1))))
theorem w_spec_DeskLine_3 (v4 : List UInt8) (a0 : XDesk) (v5 : Int) (k_spec_DeskLine_1 : (List UInt8) → Int → Option (List UInt8)) (hk_spec_DeskLine_1 : ∀ (v4 : List UInt8) (v5 : Int) zr, k_spec_DeskLine_1 v4 v5 = some zr → ∀ σ : St, σ.kept [1, 3, 14, 15, 16] [1] [] = ⟨[(1, vc (.pb 1 0)), (3, vc (aS v4)), (14, vc (aL (List.map rI a0.Starts))), (15, vc (aI (a0.Starts.length : Int))), (16, vc (aI v5))], [(1, [aI a0.Now, aL (List.map rI a0.Starts), aL (List.map rB a0.Cleared)])], []⟩ → go Tryd.prog (.code (.loop c_spec_DeskLine_1) :: [.blk 0, .code c_spec_DeskLine_n1]) (Ret [2] [.sc (.v (.str zr))]) .normal (some σ)) (v14 : List UInt8) (r : (List UInt8)) (h : f_spec_DeskLine_3 v4 a0 v5 k_spec_DeskLine_1 v14 = some r) (σ : St) (hσ : σ.kept [1, 3, 6, 14, 15, 16] [1] [] = ⟨[(1, vc (.pb 1 0)), (3, vc (aS v4)), (6, vc (aS v14)), (14, vc (aL (List.map rI a0.Starts))), (15, vc (aI (a0.Starts.length : Int))), (16, vc (aI v5))], [(1, [aI a0.Now, aL (List.map rI a0.Starts), aL (List.map rB a0.Cleared)])], []⟩) : go Tryd.prog (.code c_spec_DeskLine_3 :: [.blk 1, .code c_spec_DeskLine_n2, .code (.loop c_spec_DeskLine_1), .blk 0, .code c_spec_DeskLine_n1]) (Ret [2] [.sc (.v (.str r))]) .normal (some σ) := by
  unfold f_spec_DeskLine_3 at h
  obtain ⟨hg15, h⟩ := of_guard h
  obtain ⟨hg16, h⟩ := of_guard h
  try simp only [hσ, hg15, hg16, c_spec_DeskLine_3, c_spec_DeskLine_n2, Nat.reduceBEq, Nat.reduceMul, Nat.reduceAdd, Nat.reduceDiv, Int.reduceBEq, rules2, rowsX]
  refine hk_spec_DeskLine_1 _ _ _ h _ ?_
  try simp only [hg15, hg16, Nat.reduceBEq, Nat.reduceMul, Nat.reduceAdd, Nat.reduceDiv, Int.reduceBEq, rules2, rowsX, List.map_nil]
theorem w_spec_DeskLine_2 (v4 : List UInt8) (v5 : Int) (a0 : XDesk) (k_spec_DeskLine_1 : (List UInt8) → Int → Option (List UInt8)) (hk_spec_DeskLine_1 : ∀ (v4 : List UInt8) (v5 : Int) zr, k_spec_DeskLine_1 v4 v5 = some zr → ∀ σ : St, σ.kept [1, 3, 14, 15, 16] [1] [] = ⟨[(1, vc (.pb 1 0)), (3, vc (aS v4)), (14, vc (aL (List.map rI a0.Starts))), (15, vc (aI (a0.Starts.length : Int))), (16, vc (aI v5))], [(1, [aI a0.Now, aL (List.map rI a0.Starts), aL (List.map rB a0.Cleared)])], []⟩ → go Tryd.prog (.code (.loop c_spec_DeskLine_1) :: [.blk 0, .code c_spec_DeskLine_n1]) (Ret [2] [.sc (.v (.str zr))]) .normal (some σ)) (v10 : List UInt8) (r : (List UInt8)) (h : f_spec_DeskLine_2 v4 v5 a0 k_spec_DeskLine_1 v10 = some r) (σ : St) (hσ : σ.kept [1, 3, 4, 6, 14, 15, 16] [1] [] = ⟨[(1, vc (.pb 1 0)), (3, vc (aS v4)), (4, vc (aI v5)), (6, vc (aS v10)), (14, vc (aL (List.map rI a0.Starts))), (15, vc (aI (a0.Starts.length : Int))), (16, vc (aI v5))], [(1, [aI a0.Now, aL (List.map rI a0.Starts), aL (List.map rB a0.Cleared)])], []⟩) : go Tryd.prog (.code c_spec_DeskLine_2 :: [.blk 1, .code c_spec_DeskLine_n2, .code (.loop c_spec_DeskLine_1), .blk 0, .code c_spec_DeskLine_n1]) (Ret [2] [.sc (.v (.str r))]) .normal (some σ) := by
  unfold f_spec_DeskLine_2 at h
  obtain ⟨x11, hx11, h⟩ := ob h
  rcases Bool.eq_false_or_eq_true x11 with hb12 | hb12
  · rw [ite_t hb12] at h
    obtain ⟨hg13, h⟩ := of_guard h
    try simp only [hσ, hx11, hb12, hg13, c_spec_DeskLine_2, Nat.reduceBEq, Nat.reduceMul, Nat.reduceAdd, Nat.reduceDiv, Int.reduceBEq, rules2, rowsX]
    refine w_spec_DeskLine_3 _ _ _ k_spec_DeskLine_1 hk_spec_DeskLine_1 _ _ h _ ?_
    try simp only [hx11, hb12, hg13, Nat.reduceBEq, Nat.reduceMul, Nat.reduceAdd, Nat.reduceDiv, Int.reduceBEq, rules2, rowsX, List.map_nil]
  · rw [ite_f hb12] at h
    try simp only [hσ, hx11, hb12, c_spec_DeskLine_2, Nat.reduceBEq, Nat.reduceMul, Nat.reduceAdd, Nat.reduceDiv, Int.reduceBEq, rules2, rowsX]
    refine w_spec_DeskLine_3 _ _ _ k_spec_DeskLine_1 hk_spec_DeskLine_1 _ _ h _ ?_
    try simp only [hx11, hb12, Nat.reduceBEq, Nat.reduceMul, Nat.reduceAdd, Nat.reduceDiv, Int.reduceBEq, rules2, rowsX, List.map_nil]
theorem w_spec_DeskLine_1 (a0 : XDesk) : ∀ (n : Nat) (v4 : List UInt8) (v5 : Int) (r : (List UInt8)), f_spec_DeskLine_1 a0 n v4 v5 = some r → ∀ σ : St, σ.kept [1, 3, 14, 15, 16] [1] [] = ⟨[(1, vc (.pb 1 0)), (3, vc (aS v4)), (14, vc (aL (List.map rI a0.Starts))), (15, vc (aI (a0.Starts.length : Int))), (16, vc (aI v5))], [(1, [aI a0.Now, aL (List.map rI a0.Starts), aL (List.map rB a0.Cleared)])], []⟩ → go Tryd.prog (.code (.loop c_spec_DeskLine_1) :: [.blk 0, .code c_spec_DeskLine_n1]) (Ret [2] [.sc (.v (.str r))]) .normal (some σ) := by
  intro n
  induction n with
  | zero => intro _ _ r h; cases h
  | succ n ih =>
    intro v4 v5 r h σ hσ
    rw [f_spec_DeskLine_1] at h
    refine go_round ?_
    rcases Bool.eq_false_or_eq_true (decide (v5 < (a0.Starts.length : Int))) with hb6 | hb6
    · rw [ite_t hb6] at h
      obtain ⟨x7, hx7, h⟩ := ob h
      rcases Bool.eq_false_or_eq_true (decide ((0 : Int) ≤ x7)) with hb8 | hb8
      · rw [ite_t hb8] at h
        obtain ⟨r9, hr9, h⟩ := ob h
        try simp only [hσ, hb6, hx7, hb8, c_spec_DeskLine_1, Nat.reduceBEq, Nat.reduceMul, Nat.reduceAdd, Nat.reduceDiv, Int.reduceBEq, rules2, rowsX]
        refine go_callI (w_spec_FormatInt _ _ hr9) rfl rfl (Nat.le_of_ble_eq_true rfl) ?_
        try simp only [hb6, hx7, hb8, Nat.reduceBEq, Nat.reduceMul, Nat.reduceAdd, Nat.reduceDiv, Int.reduceBEq, rules2, rowsX]
        refine w_spec_DeskLine_2 _ _ _ (f_spec_DeskLine_1 a0 n) ih _ _ h _ ?_
        try simp only [hb6, hx7, hb8, Nat.reduceBEq, Nat.reduceMul, Nat.reduceAdd, Nat.reduceDiv, Int.reduceBEq, rules2, rowsX, List.map_nil]
      · rw [ite_f hb8] at h
        try simp only [hσ, hb6, hx7, hb8, c_spec_DeskLine_1, Nat.reduceBEq, Nat.reduceMul, Nat.reduceAdd, Nat.reduceDiv, Int.reduceBEq, rules2, rowsX]
        refine w_spec_DeskLine_2 _ _ _ (f_spec_DeskLine_1 a0 n) ih _ _ h _ ?_
        try simp only [hb6, hx7, hb8, Nat.reduceBEq, Nat.reduceMul, Nat.reduceAdd, Nat.reduceDiv, Int.reduceBEq, rules2, rowsX, List.map_nil]
    · rw [ite_f hb6] at h
      try simp only [hσ, hb6, c_spec_DeskLine_1, c_spec_DeskLine_n1, Nat.reduceBEq, Nat.reduceMul, Nat.reduceAdd, Nat.reduceDiv, Int.reduceBEq, rules2, rowsX]
      cases h
      exact ⟨⟨rfl, trivial⟩, rfl⟩
theorem e_spec_DeskLine : entry Tryd.prog 16 = some (c_spec_DeskLine.strip, [2], 38) := by kernel_rfl
theorem w_spec_DeskLine (a0 : XDesk) (r : (List UInt8)) (h : f_spec_DeskLine a0 = some r) : FC Tryd.prog 16 [.ag (XDesk.row a0)] [.sc (.v (.str r))] := by
  unfold f_spec_DeskLine at h
  refine FC_go (σ := ⟨[(0, va [aI a0.Now, aL (List.map rI a0.Starts), aL (List.map rB a0.Cleared)])], [], []⟩) mixed e_spec_DeskLine rfl rfl ?_
  simp only [c_spec_DeskLine]
  try simp only [Nat.reduceBEq, Nat.reduceMul, Nat.reduceAdd, Nat.reduceDiv, Int.reduceBEq, rules2, rowsX]
  refine go_bx rfl rfl rfl ?_
  obtain ⟨r1, hr1, h⟩ := ob h
  try simp only [Nat.reduceBEq, Nat.reduceMul, Nat.reduceAdd, Nat.reduceDiv, Int.reduceBEq, rules2, rowsX]
  refine go_callI (w_spec_DeskOk _ _ hr1) rfl rfl (Nat.le_of_ble_eq_true rfl) ?_
  rcases Bool.eq_false_or_eq_true r1 with hb2 | hb2
  · rw [ite_t hb2] at h
    obtain ⟨r3, hr3, h⟩ := ob h
    try simp only [hb2, Nat.reduceBEq, Nat.reduceMul, Nat.reduceAdd, Nat.reduceDiv, Int.reduceBEq, rules2, rowsX]
    refine go_callI (w_spec_FormatInt _ _ hr3) rfl rfl (Nat.le_of_ble_eq_true rfl) ?_
    try simp only [hb2, Nat.reduceBEq, Nat.reduceMul, Nat.reduceAdd, Nat.reduceDiv, Int.reduceBEq, rules2, rowsX]
    refine w_spec_DeskLine_1 _ _ _ _ _ h _ ?_
    try simp only [hb2, Nat.reduceBEq, Nat.reduceMul, Nat.reduceAdd, Nat.reduceDiv, Int.reduceBEq, rules2, rowsX, List.map_nil]
  · rw [ite_f hb2] at h
    try simp only [hb2, Nat.reduceBEq, Nat.reduceMul, Nat.reduceAdd, Nat.reduceDiv, Int.reduceBEq, rules2, rowsX]
    cases h
    exact ⟨⟨rfl, trivial⟩, rfl⟩
/- 91: impl_within -/
def c_impl_within : ACode := (.seq (.reg [(none, .mv 6 (KB false))]) (.seq (.reg [(none, .mv 7 (S 1)), (none, .mv 8 (S 0)), (none, .bin 9 .leq (S 7) (S 8)), (none, .mv 10 (S 9)), (some (10, true), .mv 11 (S 0)), (some (10, true), .mv 12 (S 2)), (some (10, true), .bin 13 .leq (S 11) (S 12)), (none, .pick 14 (S 10) (S 13) (KB false)), (none, .mv 6 (S 14))]) .ret))
theorem e_impl_within : entry Tryd.prog 91 = some (c_impl_within.strip, [6], 15) := by kernel_rfl
theorem w_impl_within (a0 : Int) (a1 : Int) (a2 : Int) (r : Bool) (h : f_impl_within a0 a1 a2 = some r) : FC Tryd.prog 91 [.sc (.int .i64 a0), .sc (.int .i64 a1), .sc (.int .i64 a2)] [.sc (.v (.bool r))] := by
  unfold f_impl_within at h
  refine FC_go (σ := ⟨[(0, vc (aI a0)), (1, vc (aI a1)), (2, vc (aI a2))], [], []⟩) mixed e_impl_within rfl rfl ?_
  simp only [c_impl_within]
  rcases Bool.eq_false_or_eq_true (decide (a1 ≤ a0)) with hb1 | hb1
  · rw [ite_t hb1] at h
    try simp only [hb1, Nat.reduceBEq, Nat.reduceMul, Nat.reduceAdd, Nat.reduceDiv, Int.reduceBEq, rules2, rowsX]
    cases h
    exact ⟨⟨rfl, trivial⟩, rfl⟩
  · rw [ite_f hb1] at h
    try simp only [hb1, Nat.reduceBEq, Nat.reduceMul, Nat.reduceAdd, Nat.reduceDiv, Int.reduceBEq, rules2, rowsX]
    cases h
    exact ⟨⟨rfl, trivial⟩, rfl⟩
/- 55: impl_isMinute -/
def c_impl_isMinute : ACode := (.seq (.reg [(none, .mv 2 (KB false))]) (.seq (.reg [(none, .mv 3 (S 0)), (none, .call 4 91 [(S 3), (K 0), (K 2880)]), (none, .mv 2 (S 4))]) .ret))
theorem e_impl_isMinute : entry Tryd.prog 55 = some (c_impl_isMinute.strip, [2], 5) := by kernel_rfl
theorem w_impl_isMinute (a0 : Int) (r : Bool) (h : f_impl_isMinute a0 = some r) : FC Tryd.prog 55 [.sc (.int .i64 a0)] [.sc (.v (.bool r))] := by
  unfold f_impl_isMinute at h
  refine FC_go (σ := ⟨[(0, vc (aI a0))], [], []⟩) mixed e_impl_isMinute rfl rfl ?_
  simp only [c_impl_isMinute]
  obtain ⟨r1, hr1, h⟩ := ob h
  try simp only [Nat.reduceBEq, Nat.reduceMul, Nat.reduceAdd, Nat.reduceDiv, Int.reduceBEq, rules2, rowsX]
  refine go_callI (w_impl_within _ _ _ _ hr1) rfl rfl (Nat.le_of_ble_eq_true rfl) ?_
  try simp only [Nat.reduceBEq, Nat.reduceMul, Nat.reduceAdd, Nat.reduceDiv, Int.reduceBEq, rules2, rowsX]
  cases h
  exact ⟨⟨rfl, trivial⟩, rfl⟩
/- 64: impl_DeskOk -/
def c_impl_DeskOk_1 : ACode := .seq (.reg [(none, .keep [1, 25, 26, 27] [1] [])]) (.seq (.reg [(none, .bin 28 .lss (S 27) (S 26))]) (.seq (.cond (S 28) .skip (.exit 0)) (.seq (.block 1 (.seq (.reg [(none, .mv 29 (S 27)), (none, .iaddr 30 (S 25) (S 27) 1), (none, .load 31 (S 30) false 1), (none, .mv 3 (S 29)), (none, .mv 4 (S 31))]) (.seq (.reg [(none, .mv 32 (S 4)), (none, .call 33 91 [(S 32), (K (-1)), (K 2880)]), (none, .un 34 .not (S 33)), (none, .mv 35 (S 34)), (some (35, false), .faddr 36 (S 1) 2), (some (35, false), .load 37 (S 36) false 1), (some (35, false), .mv 38 (S 3)), (some (35, false), .iaddr 39 (S 37) (S 38) 1), (some (35, false), .load 40 (S 39) false 1), (some (35, false), .mv 41 (S 40)), (some (41, true), .mv 42 (S 4)), (some (41, true), .bin 43 .lss (S 42) (K 0)), (some (35, false), .pick 44 (S 41) (S 43) (KB false)), (none, .pick 45 (S 35) (KB true) (S 44))]) (.cond (S 45) (.seq (.reg [(none, .mv 2 (KB false))]) .ret) .skip)))) (.reg [(none, .bin 46 .add (S 27) (K 1)), (none, .mv 27 (S 46))]))))
def c_impl_DeskOk_n1 : ACode := (.seq (.reg [(none, .mv 2 (KB true))]) .ret)
def c_impl_DeskOk : ACode := (.seq (.reg [(none, .box 1 (S 0)), (none, .mv 2 (KB false))]) (.seq (.seq (.reg [(none, .faddr 5 (S 1) 0), (none, .load 6 (S 5) false 1), (none, .call 7 55 [(S 6)]), (none, .un 8 .not (S 7)), (none, .mv 9 (S 8)), (some (9, false), .faddr 10 (S 1) 1), (some (9, false), .load 11 (S 10) false 1), (some (9, false), .len 12 (S 11)), (some (9, false), .bin 13 .gtr (S 12) (K 6)), (none, .pick 14 (S 9) (KB true) (S 13)), (none, .mv 15 (S 14)), (some (15, false), .faddr 16 (S 1) 2), (some (15, false), .load 17 (S 16) false 1), (some (15, false), .len 18 (S 17)), (some (15, false), .faddr 19 (S 1) 1), (some (15, false), .load 20 (S 19) false 1), (some (15, false), .len 21 (S 20)), (some (15, false), .bin 22 .neq (S 18) (S 21)), (none, .pick 23 (S 15) (KB true) (S 22))]) (.cond (S 23) (.seq (.reg [(none, .mv 2 (KB false))]) .ret) .skip)) (.seq (.seq (.reg [(none, .faddr 24 (S 1) 1), (none, .load 25 (S 24) false 1), (none, .len 26 (S 25)), (none, .mv 27 (K 0))]) (.block 0 (.loop c_impl_DeskOk_1))) c_impl_DeskOk_n1)))
theorem w_impl_DeskOk_1 (a0 : XDesk) : ∀ (n : Nat) (v5 : Int) (r : Bool), f_impl_DeskOk_1 a0 n v5 = some r → ∀ σ : St, σ.kept [1, 25, 26, 27] [1] [] = ⟨[(1, vc (.pb 1 0)), (25, vc (aL (List.map rI a0.Starts))), (26, vc (aI (a0.Starts.length : Int))), (27, vc (aI v5))], [(1, [aI a0.Now, aL (List.map rI a0.Starts), aL (List.map rB a0.Cleared)])], []⟩ → go Tryd.prog (.code (.loop c_impl_DeskOk_1) :: [.blk 0, .code c_impl_DeskOk_n1]) (Ret [2] [.sc (.v (.bool r))]) .normal (some σ) := by
  intro n
  induction n with
  | zero => intro _ r h; cases h
  | succ n ih =>
    intro v5 r h σ hσ
    rw [f_impl_DeskOk_1] at h
    refine go_round ?_
    rcases Bool.eq_false_or_eq_true (decide (v5 < (a0.Starts.length : Int))) with hb6 | hb6
    · rw [ite_t hb6] at h
      obtain ⟨x7, hx7, h⟩ := ob h
      obtain ⟨r8, hr8, h⟩ := ob h
      try simp only [hσ, hb6, hx7, c_impl_DeskOk_1, Nat.reduceBEq, Nat.reduceMul, Nat.reduceAdd, Nat.reduceDiv, Int.reduceBEq, rules2, rowsX]
      refine go_callI (w_impl_within _ _ _ _ hr8) rfl rfl (Nat.le_of_ble_eq_true rfl) ?_
      rcases Bool.eq_false_or_eq_true r8 with hb9 | hb9
      · rw [ite_t hb9] at h
        obtain ⟨x10, hx10, h⟩ := ob h
        rcases Bool.eq_false_or_eq_true x10 with hb11 | hb11
        · rw [ite_t hb11] at h
          rcases Bool.eq_false_or_eq_true (decide (x7 < (0 : Int))) with hb12 | hb12
          · rw [ite_t hb12] at h
            try simp only [hb6, hx7, hb9, hx10, hb11, hb12, Nat.reduceBEq, Nat.reduceMul, Nat.reduceAdd, Nat.reduceDiv, Int.reduceBEq, rules2, rowsX]
            cases h
            exact ⟨⟨rfl, trivial⟩, rfl⟩
          · rw [ite_f hb12] at h
            try simp only [hb6, hx7, hb9, hx10, hb11, hb12, Nat.reduceBEq, Nat.reduceMul, Nat.reduceAdd, Nat.reduceDiv, Int.reduceBEq, rules2, rowsX]
            refine ih _ _ h _ ?_
            try simp only [hb6, hx7, hb9, hx10, hb11, hb12, Nat.reduceBEq, Nat.reduceMul, Nat.reduceAdd, Nat.reduceDiv, Int.reduceBEq, rules2, rowsX, List.map_nil]
        · rw [ite_f hb11] at h
          try simp only [hb6, hx7, hb9, hx10, hb11, Nat.reduceBEq, Nat.reduceMul, Nat.reduceAdd, Nat.reduceDiv, Int.reduceBEq, rules2, rowsX]
          refine ih _ _ h _ ?_
          try simp only [hb6, hx7, hb9, hx10, hb11, Nat.reduceBEq, Nat.reduceMul, Nat.reduceAdd, Nat.reduceDiv, Int.reduceBEq, rules2, rowsX, List.map_nil]
      · rw [ite_f hb9] at h
        try simp only [hb6, hx7, hb9, Nat.reduceBEq, Nat.reduceMul, Nat.reduceAdd, Nat.reduceDiv, Int.reduceBEq, rules2, rowsX]
        cases h
        exact ⟨⟨rfl, trivial⟩, rfl⟩
    · rw [ite_f hb6] at h
      try simp only [hσ, hb6, c_impl_DeskOk_1, c_impl_DeskOk_n1, Nat.reduceBEq, Nat.reduceMul, Nat.reduceAdd, Nat.reduceDiv, Int.reduceBEq, rules2, rowsX]
      cases h
      exact ⟨⟨rfl, trivial⟩, rfl⟩
theorem e_impl_DeskOk : entry Tryd.prog 64 = some (c_impl_DeskOk.strip, [2], 47) := by kernel_rfl
theorem w_impl_DeskOk (a0 : XDesk) (r : Bool) (h : f_impl_DeskOk a0 = some r) : FC Tryd.prog 64 [.ag (XDesk.row a0)] [.sc (.v (.bool r))] := by
  unfold f_impl_DeskOk at h
  refine FC_go (σ := ⟨[(0, va [aI a0.Now, aL (List.map rI a0.Starts), aL (List.map rB a0.Cleared)])], [], []⟩) mixed e_impl_DeskOk rfl rfl ?_
  simp only [c_impl_DeskOk]
  try simp only [Nat.reduceBEq, Nat.reduceMul, Nat.reduceAdd, Nat.reduceDiv, Int.reduceBEq, rules2, rowsX]
  refine go_bx rfl rfl rfl ?_
  obtain ⟨r1, hr1, h⟩ := ob h
  try simp only [Nat.reduceBEq, Nat.reduceMul, Nat.reduceAdd, Nat.reduceDiv, Int.reduceBEq, rules2, rowsX]
  refine go_callI (w_impl_isMinute _ _ hr1) rfl rfl (Nat.le_of_ble_eq_true rfl) ?_
  rcases Bool.eq_false_or_eq_true r1 with hb2 | hb2
  · rw [ite_t hb2] at h
    rcases Bool.eq_false_or_eq_true (decide ((6 : Int) < (a0.Starts.length : Int))) with hb3 | hb3
    · rw [ite_t hb3] at h
      try simp only [hb2, hb3, Nat.reduceBEq, Nat.reduceMul, Nat.reduceAdd, Nat.reduceDiv, Int.reduceBEq, rules2, rowsX]
      cases h
      exact ⟨⟨rfl, trivial⟩, rfl⟩
    · rw [ite_f hb3] at h
      rcases Bool.eq_false_or_eq_true ((a0.Cleared.length : Int) != (a0.Starts.length : Int)) with hb4 | hb4
      · rw [ite_t hb4] at h
        try simp only [hb2, hb3, hb4, Nat.reduceBEq, Nat.reduceMul, Nat.reduceAdd, Nat.reduceDiv, Int.reduceBEq, rules2, rowsX]
        cases h
        exact ⟨⟨rfl, trivial⟩, rfl⟩
      · rw [ite_f hb4] at h
        try simp only [hb2, hb3, hb4, Nat.reduceBEq, Nat.reduceMul, Nat.reduceAdd, Nat.reduceDiv, Int.reduceBEq, rules2, rowsX]
        refine w_impl_DeskOk_1 _ _ _ _ h _ ?_
        try simp only [hb2, hb3, hb4, Nat.reduceBEq, Nat.reduceMul, Nat.reduceAdd, Nat.reduceDiv, Int.reduceBEq, rules2, rowsX, List.map_nil]
  · rw [ite_f hb2] at h
    try simp only [hb2, Nat.reduceBEq, Nat.reduceMul, Nat.reduceAdd, Nat.reduceDiv, Int.reduceBEq, rules2, rowsX]
    cases h
    exact ⟨⟨rfl, trivial⟩, rfl⟩
/- 57: impl_FormatInt -/
def c_impl_FormatInt : ACode := (.seq (.reg [(none, .mv 2 (KS []))]) (.seq (.reg [(none, .mv 3 (S 0)), (none, .call 4 93 [(S 3)]), (none, .mv 2 (S 4))]) .ret))
theorem e_impl_FormatInt : entry Tryd.prog 57 = some (c_impl_FormatInt.strip, [2], 5) := by kernel_rfl
theorem w_impl_FormatInt (a0 : Int) (r : (List UInt8)) (h : f_impl_FormatInt a0 = some r) : FC Tryd.prog 57 [.sc (.int .i64 a0)] [.sc (.v (.str r))] := by
  unfold f_impl_FormatInt at h
  refine FC_go (σ := ⟨[(0, vc (aI a0))], [], []⟩) mixed e_impl_FormatInt rfl rfl ?_
  simp only [c_impl_FormatInt]
  obtain ⟨r1, hr1, h⟩ := ob h
  try simp only [Nat.reduceBEq, Nat.reduceMul, Nat.reduceAdd, Nat.reduceDiv, Int.reduceBEq, rules2, rowsX]
  refine go_callI (w_strconv_Itoa _ _ hr1) rfl rfl (Nat.le_of_ble_eq_true rfl) ?_
  try simp only [Nat.reduceBEq, Nat.reduceMul, Nat.reduceAdd, Nat.reduceDiv, Int.reduceBEq, rules2, rowsX]
  cases h
  exact ⟨⟨rfl, trivial⟩, rfl⟩
/- 18: impl_DeskLine -/
def c_impl_DeskLine_1 : ACode := .seq (.reg [(none, .keep [1, 3, 13, 14, 15] [1] [])]) (.seq (.reg [(none, .bin 16 .lss (S 15) (S 14))]) (.seq (.cond (S 16) .skip (.exit 0)) (.seq (.block 1 (.seq (.reg [(none, .mv 17 (S 15)), (none, .iaddr 18 (S 13) (S 15) 1), (none, .load 19 (S 18) false 1), (none, .mv 4 (S 17)), (none, .mv 5 (S 19))]) (.block 2 (.seq (.reg [(none, .mv 26 (S 5)), (none, .bin 27 .lss (S 26) (K 0)), (none, .mv 25 (S 27))]) (.cond (S 25) (.reg [(none, .mv 28 (S 3)), (none, .bin 29 .add (S 28) (KS [32, 45])), (none, .mv 3 (S 29))]) (.seq (.reg [(none, .faddr 31 (S 1) 2), (none, .load 32 (S 31) false 1), (none, .mv 33 (S 4)), (none, .iaddr 34 (S 32) (S 33) 1), (none, .load 35 (S 34) false 1), (none, .mv 30 (S 35))]) (.cond (S 30) (.reg [(none, .mv 36 (S 3)), (none, .mv 37 (S 5)), (none, .call 38 57 [(S 37)]), (none, .bin 39 .add (KS [32]) (S 38)), (none, .bin 40 .add (S 39) (KS [33])), (none, .bin 41 .add (S 36) (S 40)), (none, .mv 3 (S 41))]) (.reg [(none, .mv 20 (S 3)), (none, .mv 21 (S 5)), (none, .call 22 57 [(S 21)]), (none, .bin 23 .add (KS [32]) (S 22)), (none, .bin 24 .add (S 20) (S 23)), (none, .mv 3 (S 24))])))))))) (.reg [(none, .bin 42 .add (S 15) (K 1)), (none, .mv 15 (S 42))]))))
def c_impl_DeskLine_n1 : ACode := (.seq (.reg [(none, .mv 43 (S 3)), (none, .mv 2 (S 43))]) .ret)
def c_impl_DeskLine : ACode := (.seq (.reg [(none, .box 1 (S 0)), (none, .mv 2 (KS []))]) (.seq (.seq (.reg [(none, .load 6 (S 1) true 3), (none, .call 7 64 [(S 6)]), (none, .un 8 .not (S 7))]) (.cond (S 8) (.seq (.reg [(none, .mv 2 (KS []))]) .ret) .skip)) (.seq (.reg [(none, .faddr 9 (S 1) 0), (none, .load 10 (S 9) false 1), (none, .call 11 57 [(S 10)]), (none, .mv 3 (S 11))]) (.seq (.seq (.reg [(none, .faddr 12 (S 1) 1), (none, .load 13 (S 12) false 1), (none, .len 14 (S 13)), (none, .mv 15 (K 0))]) (.block 0 (.loop c_impl_DeskLine_1))) c_impl_DeskLine_n1))))
theorem w_impl_DeskLine_1 (a0 : XDesk) : ∀ (n : Nat) (v4 : List UInt8) (v5 : Int) (r : (List UInt8)), f_impl_DeskLine_1 a0 n v4 v5 = some r → ∀ σ : St, σ.kept [1, 3, 13, 14, 15] [1] [] = ⟨[(1, vc (.pb 1 0)), (3, vc (aS v4)), (13, vc (aL (List.map rI a0.Starts))), (14, vc (aI (a0.Starts.length : Int))), (15, vc (aI v5))], [(1, [aI a0.Now, aL (List.map rI a0.Starts), aL (List.map rB a0.Cleared)])], []⟩ → go Tryd.prog (.code (.loop c_impl_DeskLine_1) :: [.blk 0, .code c_impl_DeskLine_n1]) (Ret [2] [.sc (.v (.str r))]) .normal (some σ) := by
  intro n
  induction n with
  | zero => intro _ _ r h; cases h
  | succ n ih =>
    intro v4 v5 r h σ hσ
    rw [f_impl_DeskLine_1] at h
    refine go_round ?_
    rcases Bool.eq_false_or_eq_true (decide (v5 < (a0.Starts.length : Int))) with hb6 | hb6
    · rw [ite_t hb6] at h
      obtain ⟨x7, hx7, h⟩ := ob h
      rcases Bool.eq_false_or_eq_true (decide (x7 < (0 : Int))) with hb8 | hb8
      · rw [ite_t hb8] at h
        obtain ⟨hg9, h⟩ := of_guard h
        try simp only [hσ, hb6, hx7, hb8, hg9, c_impl_DeskLine_1, Nat.reduceBEq, Nat.reduceMul, Nat.reduceAdd, Nat.reduceDiv, Int.reduceBEq, rules2, rowsX]
        refine ih _ _ _ h _ ?_
        try simp only [hb6, hx7, hb8, hg9, Nat.reduceBEq, Nat.reduceMul, Nat.reduceAdd, Nat.reduceDiv, Int.reduceBEq, rules2, rowsX, List.map_nil]
      · rw [ite_f hb8] at h
        obtain ⟨x10, hx10, h⟩ := ob h
        rcases Bool.eq_false_or_eq_true x10 with hb11 | hb11
        · rw [ite_t hb11] at h
          obtain ⟨r12, hr12, h⟩ := ob h
          try simp only [hσ, hb6, hx7, hb8, hx10, hb11, c_impl_DeskLine_1, Nat.reduceBEq, Nat.reduceMul, Nat.reduceAdd, Nat.reduceDiv, Int.reduceBEq, rules2, rowsX]
          refine go_callI (w_impl_FormatInt _ _ hr12) rfl rfl (Nat.le_of_ble_eq_true rfl) ?_
          obtain ⟨hg13, h⟩ := of_guard h
          obtain ⟨hg14, h⟩ := of_guard h
          try simp only [List.cons_append, List.nil_append] at hg14
          obtain ⟨hg15, h⟩ := of_guard h
          try simp only [List.cons_append, List.nil_append] at hg15
          try simp only [hb6, hx7, hb8, hx10, hb11, hg13, hg14, hg15, Nat.reduceBEq, Nat.reduceMul, Nat.reduceAdd, Nat.reduceDiv, Int.reduceBEq, rules2, rowsX]
          refine ih _ _ _ h _ ?_
          try simp only [hb6, hx7, hb8, hx10, hb11, hg13, hg14, hg15, Nat.reduceBEq, Nat.reduceMul, Nat.reduceAdd, Nat.reduceDiv, Int.reduceBEq, rules2, rowsX, List.map_nil]
        · rw [ite_f hb11] at h
          obtain ⟨r16, hr16, h⟩ := ob h
          try simp only [hσ, hb6, hx7, hb8, hx10, hb11, c_impl_DeskLine_1, Nat.reduceBEq, Nat.reduceMul, Nat.reduceAdd, Nat.reduceDiv, Int.reduceBEq, rules2, rowsX]
          refine go_callI (w_impl_FormatInt _ _ hr16) rfl rfl (Nat.le_of_ble_eq_true rfl) ?_
          obtain ⟨hg17, h⟩ := of_guard h
          obtain ⟨hg18, h⟩ := of_guard h
          try simp only [List.cons_append, List.nil_append] at hg18
          try simp only [hb6, hx7, hb8, hx10, hb11, hg17, hg18, Nat.reduceBEq, Nat.reduceMul, Nat.reduceAdd, Nat.reduceDiv, Int.reduceBEq, rules2, rowsX]
          refine ih _ _ _ h _ ?_
          try simp only [hb6, hx7, hb8, hx10, hb11, hg17, hg18, Nat.reduceBEq, Nat.reduceMul, Nat.reduceAdd, Nat.reduceDiv, Int.reduceBEq, rules2, rowsX, List.map_nil]
    · rw [ite_f hb6] at h
      try simp only [hσ, hb6, c_impl_DeskLine_1, c_impl_DeskLine_n1, Nat.reduceBEq, Nat.reduceMul, Nat.reduceAdd, Nat.reduceDiv, Int.reduceBEq, rules2, rowsX]
      cases h
      exact ⟨⟨rfl, trivial⟩, rfl⟩
theorem e_impl_DeskLine : entry Tryd.prog 18 = some (c_impl_DeskLine.strip, [2], 44) := by kernel_rfl
theorem w_impl_DeskLine (a0 : XDesk) (r : (List UInt8)) (h : f_impl_DeskLine a0 = some r) : FC Tryd.prog 18 [.ag (XDesk.row a0)] [.sc (.v (.str r))] := by
  unfold f_impl_DeskLine at h
  refine FC_go (σ := ⟨[(0, va [aI a0.Now, aL (List.map rI a0.Starts), aL (List.map rB a0.Cleared)])], [], []⟩) mixed e_impl_DeskLine rfl rfl ?_
  simp only [c_impl_DeskLine]
  try simp only [Nat.reduceBEq, Nat.reduceMul, Nat.reduceAdd, Nat.reduceDiv, Int.reduceBEq, rules2, rowsX]
  refine go_bx rfl rfl rfl ?_
  obtain ⟨r1, hr1, h⟩ := ob h
  try simp only [Nat.reduceBEq, Nat.reduceMul, Nat.reduceAdd, Nat.reduceDiv, Int.reduceBEq, rules2, rowsX]
  refine go_callI (w_impl_DeskOk _ _ hr1) rfl rfl (Nat.le_of_ble_eq_true rfl) ?_
  rcases Bool.eq_false_or_eq_true r1 with hb2 | hb2
  · rw [ite_t hb2] at h
    obtain ⟨r3, hr3, h⟩ := ob h
    try simp only [hb2, Nat.reduceBEq, Nat.reduceMul, Nat.reduceAdd, Nat.reduceDiv, Int.reduceBEq, rules2, rowsX]
    refine go_callI (w_impl_FormatInt _ _ hr3) rfl rfl (Nat.le_of_ble_eq_true rfl) ?_
    try simp only [hb2, Nat.reduceBEq, Nat.reduceMul, Nat.reduceAdd, Nat.reduceDiv, Int.reduceBEq, rules2, rowsX]
    refine w_impl_DeskLine_1 _ _ _ _ _ h _ ?_
    try simp only [hb2, Nat.reduceBEq, Nat.reduceMul, Nat.reduceAdd, Nat.reduceDiv, Int.reduceBEq, rules2, rowsX, List.map_nil]
  · rw [ite_f hb2] at h
    try simp only [hb2, Nat.reduceBEq, Nat.reduceMul, Nat.reduceAdd, Nat.reduceDiv, Int.reduceBEq, rules2, rowsX]
    cases h
    exact ⟨⟨rfl, trivial⟩, rfl⟩
/- 65: laws_eqIntS -/
def c_laws_eqIntS_1 : ACode := .seq (.reg [(none, .keep [0, 1, 5] [] [])]) (.seq (.seq (.reg [(none, .mv 11 (S 5)), (none, .mv 12 (S 0)), (none, .len 13 (S 12)), (none, .bin 14 .lss (S 11) (S 13))]) (.cond (S 14) .skip (.exit 0))) (.seq (.block 1 (.seq (.drw [(some [], (none, .mv 17 (S 0))), (some [], (none, .mv 18 (S 5))), (some [], (none, .iaddr 19 (S 17) (S 18) 1)), (some [], (none, .load 20 (S 19) false 1)), (some [], (none, .mv 21 (S 1))), (some [], (none, .mv 22 (S 5))), (some [], (none, .iaddr 23 (S 21) (S 22) 1)), (some [], (none, .load 24 (S 23) false 1)), (some [], (none, .bin 25 .neq (S 20) (S 24)))]) (.cond (S 25) (.seq (.reg [(none, .mv 4 (KB false))]) .ret) .skip))) (.reg [(none, .mv 15 (S 5)), (none, .bin 16 .add (S 15) (K 1)), (none, .mv 5 (S 16))])))
def c_laws_eqIntS_n1 : ACode := (.seq (.reg [(none, .mv 4 (KB true))]) .ret)
def c_laws_eqIntS : ACode := (.seq (.reg [(none, .mv 4 (KB false))]) (.seq (.seq (.reg [(none, .mv 6 (S 0)), (none, .len 7 (S 6)), (none, .mv 8 (S 1)), (none, .len 9 (S 8)), (none, .bin 10 .neq (S 7) (S 9))]) (.cond (S 10) (.seq (.reg [(none, .mv 4 (KB false))]) .ret) .skip)) (.seq (.seq (.reg [(none, .mv 5 (K 0))]) (.block 0 (.loop c_laws_eqIntS_1))) c_laws_eqIntS_n1)))
theorem w_laws_eqIntS_1 (a0 : List Int) (a1 : List Int) : ∀ (n : Nat) (v2 : Int) (r : Bool), f_laws_eqIntS_1 a0 a1 n v2 = some r → ∀ σ : St, σ.kept [0, 1, 5] [] [] = ⟨[(0, vc (aL (List.map rI a0))), (1, vc (aL (List.map rI a1))), (5, vc (aI v2))], [], []⟩ → go Tryd.prog (.code (.loop c_laws_eqIntS_1) :: [.blk 0, .code c_laws_eqIntS_n1]) (Ret [4] [.sc (.v (.bool r))]) .normal (some σ) := by
  intro n
  induction n with
  | zero => intro _ r h; cases h
  | succ n ih =>
    intro v2 r h σ hσ
    rw [f_laws_eqIntS_1] at h
    refine go_round ?_
    rcases Bool.eq_false_or_eq_true (decide (v2 < (a0.length : Int))) with hb3 | hb3
    · rw [ite_t hb3] at h
      try simp only [hσ, hb3, c_laws_eqIntS_1, Nat.reduceBEq, Nat.reduceMul, Nat.reduceAdd, Nat.reduceDiv, Int.reduceBEq, rules2, rowsX]
      refine go_fr_of rfl ?_
      obtain ⟨x4, hx4, h⟩ := ob h
      obtain ⟨x5, hx5, h⟩ := ob h
      rcases Bool.eq_false_or_eq_true (x4 != x5) with hb6 | hb6
      · rw [ite_t hb6] at h
        try simp only [hb3, hx4, hx5, hb6, Nat.reduceBEq, Nat.reduceMul, Nat.reduceAdd, Nat.reduceDiv, Int.reduceBEq, rules2, rowsX]
        cases h
        exact ⟨⟨rfl, trivial⟩, rfl⟩
      · rw [ite_f hb6] at h
        try simp only [hb3, hx4, hx5, hb6, Nat.reduceBEq, Nat.reduceMul, Nat.reduceAdd, Nat.reduceDiv, Int.reduceBEq, rules2, rowsX]
        refine ih _ _ h _ ?_
        try simp only [hb3, hx4, hx5, hb6, Nat.reduceBEq, Nat.reduceMul, Nat.reduceAdd, Nat.reduceDiv, Int.reduceBEq, rules2, rowsX, List.map_nil]
    · rw [ite_f hb3] at h
      try simp only [hσ, hb3, c_laws_eqIntS_1, c_laws_eqIntS_n1, Nat.reduceBEq, Nat.reduceMul, Nat.reduceAdd, Nat.reduceDiv, Int.reduceBEq, rules2, rowsX]
      cases h
      exact ⟨⟨rfl, trivial⟩, rfl⟩
theorem e_laws_eqIntS : entry Tryd.prog 65 = some (c_laws_eqIntS.strip, [4], 26) := by kernel_rfl
theorem w_laws_eqIntS (a0 : List Int) (a1 : List Int) (r : Bool) (h : f_laws_eqIntS a0 a1 = some r) : FC Tryd.prog 65 [.sc (.sl (List.map rI a0)), .sc (.sl (List.map rI a1))] [.sc (.v (.bool r))] := by
  unfold f_laws_eqIntS at h
  refine FC_go (σ := ⟨[(0, vc (aL (List.map rI a0))), (1, vc (aL (List.map rI a1)))], [], []⟩) mixed e_laws_eqIntS rfl rfl ?_
  simp only [c_laws_eqIntS]
  rcases Bool.eq_false_or_eq_true ((a0.length : Int) != (a1.length : Int)) with hb1 | hb1
  · rw [ite_t hb1] at h
    try simp only [hb1, Nat.reduceBEq, Nat.reduceMul, Nat.reduceAdd, Nat.reduceDiv, Int.reduceBEq, rules2, rowsX]
    cases h
    exact ⟨⟨rfl, trivial⟩, rfl⟩
  · rw [ite_f hb1] at h
    try simp only [hb1, Nat.reduceBEq, Nat.reduceMul, Nat.reduceAdd, Nat.reduceDiv, Int.reduceBEq, rules2, rowsX]
    refine w_laws_eqIntS_1 _ _ _ _ _ h _ ?_
    try simp only [hb1, Nat.reduceBEq, Nat.reduceMul, Nat.reduceAdd, Nat.reduceDiv, Int.reduceBEq, rules2, rowsX, List.map_nil]
/- 66: laws_eqBoolS -/
def c_laws_eqBoolS_1 : ACode := .seq (.reg [(none, .keep [0, 1, 5] [] [])]) (.seq (.seq (.reg [(none, .mv 11 (S 5)), (none, .mv 12 (S 0)), (none, .len 13 (S 12)), (none, .bin 14 .lss (S 11) (S 13))]) (.cond (S 14) .skip (.exit 0))) (.seq (.block 1 (.seq (.drw [(some [], (none, .mv 17 (S 0))), (some [], (none, .mv 18 (S 5))), (some [], (none, .iaddr 19 (S 17) (S 18) 1)), (some [], (none, .load 20 (S 19) false 1)), (some [], (none, .mv 21 (S 1))), (some [], (none, .mv 22 (S 5))), (some [], (none, .iaddr 23 (S 21) (S 22) 1)), (some [], (none, .load 24 (S 23) false 1)), (some [], (none, .beq 25 true (S 20) (S 24)))]) (.cond (S 25) (.seq (.reg [(none, .mv 4 (KB false))]) .ret) .skip))) (.reg [(none, .mv 15 (S 5)), (none, .bin 16 .add (S 15) (K 1)), (none, .mv 5 (S 16))])))
def c_laws_eqBoolS_n1 : ACode := (.seq (.reg [(none, .mv 4 (KB true))]) .ret)
def c_laws_eqBoolS : ACode := (.seq (.reg [(none, .mv 4 (KB false))]) (.seq (.seq (.reg [(none, .mv 6 (S 0)), (none, .len 7 (S 6)), (none, .mv 8 (S 1)), (none, .len 9 (S 8)), (none, .bin 10 .neq (S 7) (S 9))]) (.cond (S 10) (.seq (.reg [(none, .mv 4 (KB false))]) .ret) .skip)) (.seq (.seq (.reg [(none, .mv 5 (K 0))]) (.block 0 (.loop c_laws_eqBoolS_1))) c_laws_eqBoolS_n1)))
theorem w_laws_eqBoolS_1 (a0 : List Bool) (a1 : List Bool) : ∀ (n : Nat) (v2 : Int) (r : Bool), f_laws_eqBoolS_1 a0 a1 n v2 = some r → ∀ σ : St, σ.kept [0, 1, 5] [] [] = ⟨[(0, vc (aL (List.map rB a0))), (1, vc (aL (List.map rB a1))), (5, vc (aI v2))], [], []⟩ → go Tryd.prog (.code (.loop c_laws_eqBoolS_1) :: [.blk 0, .code c_laws_eqBoolS_n1]) (Ret [4] [.sc (.v (.bool r))]) .normal (some σ) := by
  intro n
  induction n with
  | zero => intro _ r h; cases h
  | succ n ih =>
    intro v2 r h σ hσ
    rw [f_laws_eqBoolS_1] at h
    refine go_round ?_
    rcases Bool.eq_false_or_eq_true (decide (v2 < (a0.length : Int))) with hb3 | hb3
    · rw [ite_t hb3] at h
      try simp only [hσ, hb3, c_laws_eqBoolS_1, Nat.reduceBEq, Nat.reduceMul, Nat.reduceAdd, Nat.reduceDiv, Int.reduceBEq, rules2, rowsX]
      refine go_fr_of rfl ?_
      obtain ⟨x4, hx4, h⟩ := ob h
      obtain ⟨x5, hx5, h⟩ := ob h
      rcases Bool.eq_false_or_eq_true (x4 == x5) with hb6 | hb6
      · rw [ite_t hb6] at h
        try simp only [hb3, hx4, hx5, hb6, Nat.reduceBEq, Nat.reduceMul, Nat.reduceAdd, Nat.reduceDiv, Int.reduceBEq, rules2, rowsX]
        refine ih _ _ h _ ?_
        try simp only [hb3, hx4, hx5, hb6, Nat.reduceBEq, Nat.reduceMul, Nat.reduceAdd, Nat.reduceDiv, Int.reduceBEq, rules2, rowsX, List.map_nil]
      · rw [ite_f hb6] at h
        try simp only [hb3, hx4, hx5, hb6, Nat.reduceBEq, Nat.reduceMul, Nat.reduceAdd, Nat.reduceDiv, Int.reduceBEq, rules2, rowsX]
        cases h
        exact ⟨⟨rfl, trivial⟩, rfl⟩
    · rw [ite_f hb3] at h
      try simp only [hσ, hb3, c_laws_eqBoolS_1, c_laws_eqBoolS_n1, Nat.reduceBEq, Nat.reduceMul, Nat.reduceAdd, Nat.reduceDiv, Int.reduceBEq, rules2, rowsX]
      cases h
      exact ⟨⟨rfl, trivial⟩, rfl⟩
theorem e_laws_eqBoolS : entry Tryd.prog 66 = some (c_laws_eqBoolS.strip, [4], 26) := by kernel_rfl
theorem w_laws_eqBoolS (a0 : List Bool) (a1 : List Bool) (r : Bool) (h : f_laws_eqBoolS a0 a1 = some r) : FC Tryd.prog 66 [.sc (.sl (List.map rB a0)), .sc (.sl (List.map rB a1))] [.sc (.v (.bool r))] := by
  unfold f_laws_eqBoolS at h
  refine FC_go (σ := ⟨[(0, vc (aL (List.map rB a0))), (1, vc (aL (List.map rB a1)))], [], []⟩) mixed e_laws_eqBoolS rfl rfl ?_
  simp only [c_laws_eqBoolS]
  rcases Bool.eq_false_or_eq_true ((a0.length : Int) != (a1.length : Int)) with hb1 | hb1
  · rw [ite_t hb1] at h
    try simp only [hb1, Nat.reduceBEq, Nat.reduceMul, Nat.reduceAdd, Nat.reduceDiv, Int.reduceBEq, rules2, rowsX]
    cases h
    exact ⟨⟨rfl, trivial⟩, rfl⟩
  · rw [ite_f hb1] at h
    try simp only [hb1, Nat.reduceBEq, Nat.reduceMul, Nat.reduceAdd, Nat.reduceDiv, Int.reduceBEq, rules2, rowsX]
    refine w_laws_eqBoolS_1 _ _ _ _ _ h _ ?_
    try simp only [hb1, Nat.reduceBEq, Nat.reduceMul, Nat.reduceAdd, Nat.reduceDiv, Int.reduceBEq, rules2, rowsX, List.map_nil]
/- 19: laws_eqDesk -/
def c_laws_eqDesk : ACode := (.seq (.reg [(none, .box 2 (S 0)), (none, .box 3 (S 1)), (none, .mv 4 (KB false))]) (.seq (.seq (.reg [(none, .faddr 5 (S 2) 0), (none, .load 6 (S 5) false 1), (none, .faddr 7 (S 3) 0), (none, .load 8 (S 7) false 1), (none, .bin 9 .neq (S 6) (S 8))]) (.cond (S 9) (.seq (.reg [(none, .mv 4 (KB false))]) .ret) .skip)) (.seq (.seq (.reg [(none, .faddr 10 (S 2) 1), (none, .load 11 (S 10) false 1), (none, .faddr 12 (S 3) 1), (none, .load 13 (S 12) false 1), (none, .call 14 65 [(S 11), (S 13)]), (none, .un 15 .not (S 14))]) (.cond (S 15) (.seq (.reg [(none, .mv 4 (KB false))]) .ret) .skip)) (.seq (.seq (.reg [(none, .faddr 16 (S 2) 2), (none, .load 17 (S 16) false 1), (none, .faddr 18 (S 3) 2), (none, .load 19 (S 18) false 1), (none, .call 20 66 [(S 17), (S 19)]), (none, .un 21 .not (S 20))]) (.cond (S 21) (.seq (.reg [(none, .mv 4 (KB false))]) .ret) .skip)) (.seq (.reg [(none, .mv 4 (KB true))]) .ret)))))
theorem e_laws_eqDesk : entry Tryd.prog 19 = some (c_laws_eqDesk.strip, [4], 22) := by kernel_rfl
theorem w_laws_eqDesk (a0 : XDesk) (a1 : XDesk) (r : Bool) (h : f_laws_eqDesk a0 a1 = some r) : FC Tryd.prog 19 [.ag (XDesk.row a0), .ag (XDesk.row a1)] [.sc (.v (.bool r))] := by
  unfold f_laws_eqDesk at h
  refine FC_go (σ := ⟨[(0, va [aI a0.Now, aL (List.map rI a0.Starts), aL (List.map rB a0.Cleared)]), (1, va [aI a1.Now, aL (List.map rI a1.Starts), aL (List.map rB a1.Cleared)])], [], []⟩) mixed e_laws_eqDesk rfl rfl ?_
  simp only [c_laws_eqDesk]
  try simp only [Nat.reduceBEq, Nat.reduceMul, Nat.reduceAdd, Nat.reduceDiv, Int.reduceBEq, rules2, rowsX]
  refine go_bx rfl rfl rfl ?_
  try simp only [Nat.reduceBEq, Nat.reduceMul, Nat.reduceAdd, Nat.reduceDiv, Int.reduceBEq, rules2, rowsX]
  refine go_bx rfl rfl rfl ?_
  rcases Bool.eq_false_or_eq_true (a0.Now != a1.Now) with hb1 | hb1
  · rw [ite_t hb1] at h
    try simp only [hb1, Nat.reduceBEq, Nat.reduceMul, Nat.reduceAdd, Nat.reduceDiv, Int.reduceBEq, rules2, rowsX]
    cases h
    exact ⟨⟨rfl, trivial⟩, rfl⟩
  · rw [ite_f hb1] at h
    obtain ⟨r2, hr2, h⟩ := ob h
    try simp only [hb1, Nat.reduceBEq, Nat.reduceMul, Nat.reduceAdd, Nat.reduceDiv, Int.reduceBEq, rules2, rowsX]
    refine go_callI (w_laws_eqIntS _ _ _ hr2) rfl rfl (Nat.le_of_ble_eq_true rfl) ?_
    rcases Bool.eq_false_or_eq_true r2 with hb3 | hb3
    · rw [ite_t hb3] at h
      obtain ⟨r4, hr4, h⟩ := ob h
      try simp only [hb1, hb3, Nat.reduceBEq, Nat.reduceMul, Nat.reduceAdd, Nat.reduceDiv, Int.reduceBEq, rules2, rowsX]
      refine go_callI (w_laws_eqBoolS _ _ _ hr4) rfl rfl (Nat.le_of_ble_eq_true rfl) ?_
      rcases Bool.eq_false_or_eq_true r4 with hb5 | hb5
      · rw [ite_t hb5] at h
        try simp only [hb1, hb3, hb5, Nat.reduceBEq, Nat.reduceMul, Nat.reduceAdd, Nat.reduceDiv, Int.reduceBEq, rules2, rowsX]
        cases h
        exact ⟨⟨rfl, trivial⟩, rfl⟩
      · rw [ite_f hb5] at h
        try simp only [hb1, hb3, hb5, Nat.reduceBEq, Nat.reduceMul, Nat.reduceAdd, Nat.reduceDiv, Int.reduceBEq, rules2, rowsX]
        cases h
        exact ⟨⟨rfl, trivial⟩, rfl⟩
    · rw [ite_f hb3] at h
      try simp only [hb1, hb3, Nat.reduceBEq, Nat.reduceMul, Nat.reduceAdd, Nat.reduceDiv, Int.reduceBEq, rules2, rowsX]
      cases h
      exact ⟨⟨rfl, trivial⟩, rfl⟩
/- 4: laws_FnExactDeskLine -/
def c_laws_FnExactDeskLine : ACode := (.seq (.reg [(none, .box 1 (S 0)), (none, .mv 2 (KB false))]) (.seq (.reg [(none, .mv 3 (K 1048576))]) (.seq (.reg [(none, .load 7 (S 1) true 3), (none, .mv 8 (S 3)), (none, .call 9 15 [(S 7), (S 8)]), (none, .mv 3 (S 9))]) (.seq (.seq (.reg [(none, .mv 10 (S 3)), (none, .bin 11 .lss (S 10) (K 0))]) (.cond (S 11) (.seq (.reg [(none, .mv 2 (KB true))]) .ret) .skip)) (.seq (.reg [(none, .load 12 (S 1) true 3), (none, .call 13 17 [(S 12)]), (none, .call 14 16 [(S 13)]), (none, .mv 4 (S 14))]) (.seq (.reg [(none, .load 15 (S 1) true 3), (none, .call 16 17 [(S 15)]), (none, .alloc 5 [aI 0, .nil, .nil]), (none, .store (S 5) (S 16) 3)]) (.seq (.reg [(none, .load 17 (S 5) true 3), (none, .call 18 18 [(S 17)]), (none, .mv 6 (S 18))]) (.seq (.seq (.reg [(none, .mv 19 (S 6)), (none, .mv 20 (S 4)), (none, .bin 21 .neq (S 19) (S 20))]) (.cond (S 21) (.seq (.reg [(none, .mv 2 (KB false))]) .ret) .skip)) (.seq (.seq (.drw [(some [24], (none, .load 22 (S 5) true 3)), (some [], (none, .load 23 (S 1) true 3)), (some [], (none, .call 24 17 [(S 23)])), (some [], (none, .call 25 19 [(S 22), (S 24)])), (some [], (none, .un 26 .not (S 25)))]) (.cond (S 26) (.seq (.reg [(none, .mv 2 (KB false))]) .ret) .skip)) (.seq (.reg [(none, .mv 2 (KB true))]) .ret))))))))))
theorem e_laws_FnExactDeskLine : entry Tryd.prog 4 = some (c_laws_FnExactDeskLine.strip, [2], 27) := by kernel_rfl
theorem w_laws_FnExactDeskLine (a0 : XDesk) (r : Bool) (h : f_laws_FnExactDeskLine a0 = some r) : FC Tryd.prog 4 [.ag (XDesk.row a0)] [.sc (.v (.bool r))] := by
  unfold f_laws_FnExactDeskLine at h
  refine FC_go (σ := ⟨[(0, va [aI a0.Now, aL (List.map rI a0.Starts), aL (List.map rB a0.Cleared)])], [], []⟩) mixed e_laws_FnExactDeskLine rfl rfl ?_
  simp only [c_laws_FnExactDeskLine]
  try simp only [Nat.reduceBEq, Nat.reduceMul, Nat.reduceAdd, Nat.reduceDiv, Int.reduceBEq, rules2, rowsX]
  refine go_bx rfl rfl rfl ?_
  obtain ⟨r1, hr1, h⟩ := ob h
  try simp only [Nat.reduceBEq, Nat.reduceMul, Nat.reduceAdd, Nat.reduceDiv, Int.reduceBEq, rules2, rowsX]
  refine go_callI (w_laws_szDesk _ _ _ hr1) rfl rfl (Nat.le_of_ble_eq_true rfl) ?_
  rcases Bool.eq_false_or_eq_true (decide (r1 < (0 : Int))) with hb2 | hb2
  · rw [ite_t hb2] at h
    try simp only [hb2, Nat.reduceBEq, Nat.reduceMul, Nat.reduceAdd, Nat.reduceDiv, Int.reduceBEq, rules2, rowsX]
    cases h
    exact ⟨⟨rfl, trivial⟩, rfl⟩
  · rw [ite_f hb2] at h
    obtain ⟨r3, hr3, h⟩ := ob h
    try simp only [hb2, Nat.reduceBEq, Nat.reduceMul, Nat.reduceAdd, Nat.reduceDiv, Int.reduceBEq, rules2, rowsX]
    refine go_callI (w_laws_toDesk _ _ hr3) rfl rfl (Nat.le_of_ble_eq_true rfl) ?_
    obtain ⟨r4, hr4, h⟩ := ob h
    try simp only [hb2, Nat.reduceBEq, Nat.reduceMul, Nat.reduceAdd, Nat.reduceDiv, Int.reduceBEq, rules2, rowsX]
    refine go_call (w_spec_DeskLine _ _ hr4) rfl (flat_of rfl) rfl (Nat.le_of_ble_eq_true rfl) ?_
    obtain ⟨r5, hr5, h⟩ := ob h
    try simp only [hb2, Nat.reduceBEq, Nat.reduceMul, Nat.reduceAdd, Nat.reduceDiv, Int.reduceBEq, rules2, rowsX]
    refine go_callI (w_laws_toDesk _ _ hr5) rfl rfl (Nat.le_of_ble_eq_true rfl) ?_
    try simp only [hb2, Nat.reduceBEq, Nat.reduceMul, Nat.reduceAdd, Nat.reduceDiv, Int.reduceBEq, rules2, rowsX]
    refine go_al rfl rfl ?_
    obtain ⟨r6, hr6, h⟩ := ob h
    try simp only [hb2, Nat.reduceBEq, Nat.reduceMul, Nat.reduceAdd, Nat.reduceDiv, Int.reduceBEq, rules2, rowsX]
    refine go_call (w_impl_DeskLine _ _ hr6) rfl (flat_of rfl) rfl (Nat.le_of_ble_eq_true rfl) ?_
    rcases Bool.eq_false_or_eq_true (r6 == r4) with hb7 | hb7
    · rw [ite_t hb7] at h
      try simp only [hb2, hb7, Nat.reduceBEq, Nat.reduceMul, Nat.reduceAdd, Nat.reduceDiv, Int.reduceBEq, rules2, rowsX]
      refine go_fr_of rfl ?_
      obtain ⟨r8, hr8, h⟩ := ob h
      try simp only [hb2, hb7, Nat.reduceBEq, Nat.reduceMul, Nat.reduceAdd, Nat.reduceDiv, Int.reduceBEq, rules2, rowsX]
      refine go_dcallI (w_laws_toDesk _ _ hr8) rfl rfl (Nat.le_of_ble_eq_true rfl) ?_
      obtain ⟨r9, hr9, h⟩ := ob h
      try simp only [hb2, hb7, Nat.reduceBEq, Nat.reduceMul, Nat.reduceAdd, Nat.reduceDiv, Int.reduceBEq, rules2, rowsX]
      refine go_dcall (w_laws_eqDesk _ _ _ hr9) rfl (flat_of rfl) rfl (Nat.le_of_ble_eq_true rfl) ?_
      rcases Bool.eq_false_or_eq_true r9 with hb10 | hb10
      · rw [ite_t hb10] at h
        try simp only [hb2, hb7, hb10, Nat.reduceBEq, Nat.reduceMul, Nat.reduceAdd, Nat.reduceDiv, Int.reduceBEq, rules2, rowsX]
        cases h
        exact ⟨⟨rfl, trivial⟩, rfl⟩
      · rw [ite_f hb10] at h
        try simp only [hb2, hb7, hb10, Nat.reduceBEq, Nat.reduceMul, Nat.reduceAdd, Nat.reduceDiv, Int.reduceBEq, rules2, rowsX]
        cases h
        exact ⟨⟨rfl, trivial⟩, rfl⟩
    · rw [ite_f hb7] at h
      try simp only [hb2, hb7, Nat.reduceBEq, Nat.reduceMul, Nat.reduceAdd, Nat.reduceDiv, Int.reduceBEq, rules2, rowsX]
      cases h
      exact ⟨⟨rfl, trivial⟩, rfl⟩
end Go.Vi
