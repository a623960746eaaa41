/-
  Walks: what the plain definitions compute is what the functions return. By program. No condition.
-/
import Derived.Test.YtlnbbhaclhpjjaaNf
import Derived.Test.YtlnbbhaclhpjjaaChecked
import Derived.KernelRfl
namespace Go.Vi
open Go.Proofs
set_option linter.unusedSimpArgs false
set_option linter.unusedVariables false
attribute [local irreducible] go AWP
theorem mixed : Try.prog.follows .mixedOrders = true := by kernel_rfl
/- 45: laws_szPoint -/
def c_laws_szPoint : ACode := (.seq (.reg [(none, .box 2 (S 0)), (none, .mv 4 (K 0))]) (.seq (.reg [(none, .mv 5 (S 1)), (none, .faddr 6 (S 2) 0), (none, .load 7 (S 6) false 1), (none, .slen 8 (S 7)), (none, .bin 9 .sub (S 5) (S 8)), (none, .mv 1 (S 9))]) (.seq (.seq (.reg [(none, .mv 10 (S 1)), (none, .bin 11 .lss (S 10) (K 0))]) (.cond (S 11) (.seq (.reg [(none, .mv 4 (K (-1)))]) .ret) .skip)) (.seq (.reg [(none, .mv 12 (S 1)), (none, .mv 4 (S 12))]) .ret))))
theorem e_laws_szPoint : entry Try.prog 45 = some (c_laws_szPoint.strip, [4], 13) := by kernel_rfl
theorem w_laws_szPoint (a0 : XPoint) (a1 : Int) (r : Int) (h : f_laws_szPoint a0 a1 = some r) : FC Try.prog 45 [.ag (XPoint.row a0), .sc (.int .i64 a1)] [.sc (.v (.int .i64 r))] := by
  unfold f_laws_szPoint at h
  refine FC_go (σ := ⟨[(0, va [aS a0.Name, aB a0.Wait]), (1, vc (aI a1))], [], []⟩) mixed e_laws_szPoint rfl rfl ?_
  simp only [c_laws_szPoint]
  try simp only [Nat.reduceBEq, Nat.reduceMul, Nat.reduceAdd, Nat.reduceDiv, Int.reduceBEq, rules2, rowsX]
  refine go_bx rfl rfl rfl ?_
  rcases Bool.eq_false_or_eq_true (decide ((IntKind.i64.wrap (a1 - (a0.Name.length : Int))) < (0 : Int))) with hb1 | hb1
  · rw [ite_t hb1] at h
    try simp only [hb1, Nat.reduceBEq, Nat.reduceMul, Nat.reduceAdd, Nat.reduceDiv, Int.reduceBEq, rules2, rowsX]
    cases h
    exact ⟨⟨rfl, trivial⟩, rfl⟩
  · rw [ite_f hb1] at h
    try simp only [hb1, Nat.reduceBEq, Nat.reduceMul, Nat.reduceAdd, Nat.reduceDiv, Int.reduceBEq, rules2, rowsX]
    cases h
    exact ⟨⟨rfl, trivial⟩, rfl⟩
/- 20: laws_szPointS -/
def c_laws_szPointS_1 : ACode := .seq (.reg [(none, .keep [0, 1, 5] [] [])]) (.seq (.seq (.reg [(none, .mv 12 (S 5)), (none, .mv 13 (S 0)), (none, .len 14 (S 13)), (none, .bin 15 .lss (S 12) (S 14))]) (.cond (S 15) .skip (.exit 0))) (.seq (.block 1 (.seq (.reg [(none, .mv 18 (S 0)), (none, .mv 19 (S 5)), (none, .iaddr 20 (S 18) (S 19) 2), (none, .load 21 (S 20) true 2), (none, .mv 22 (S 1)), (none, .call 23 45 [(S 21), (S 22)]), (none, .mv 1 (S 23))]) (.seq (.reg [(none, .mv 24 (S 1)), (none, .bin 25 .lss (S 24) (K 0))]) (.cond (S 25) (.seq (.reg [(none, .mv 4 (K (-1)))]) .ret) .skip)))) (.reg [(none, .mv 16 (S 5)), (none, .bin 17 .add (S 16) (K 1)), (none, .mv 5 (S 17))])))
def c_laws_szPointS_n1 : ACode := (.seq (.reg [(none, .mv 26 (S 1)), (none, .mv 4 (S 26))]) .ret)
def c_laws_szPointS : ACode := (.seq (.reg [(none, .mv 4 (K 0))]) (.seq (.reg [(none, .mv 6 (S 1)), (none, .mv 7 (S 0)), (none, .len 8 (S 7)), (none, .bin 9 .sub (S 6) (S 8)), (none, .mv 1 (S 9))]) (.seq (.seq (.reg [(none, .mv 10 (S 1)), (none, .bin 11 .lss (S 10) (K 0))]) (.cond (S 11) (.seq (.reg [(none, .mv 4 (K (-1)))]) .ret) .skip)) (.seq (.seq (.reg [(none, .mv 5 (K 0))]) (.block 0 (.loop c_laws_szPointS_1))) c_laws_szPointS_n1))))
theorem w_laws_szPointS_1 (a0 : List XPoint) : ∀ (n : Nat) (v2 : Int) (v3 : Int) (r : Int), f_laws_szPointS_1 a0 n v2 v3 = some r → ∀ σ : St, σ.kept [0, 1, 5] [] [] = ⟨[(0, vc (aL (List.map XPoint.row a0))), (1, vc (aI v2)), (5, vc (aI v3))], [], []⟩ → go Try.prog (.code (.loop c_laws_szPointS_1) :: [.blk 0, .code c_laws_szPointS_n1]) (Ret [4] [.sc (.v (.int .i64 r))]) .normal (some σ) := by
  intro n
  induction n with
  | zero => intro _ _ r h; cases h
  | succ n ih =>
    intro v2 v3 r h σ hσ
    rw [f_laws_szPointS_1] at h
    refine go_round ?_
    rcases Bool.eq_false_or_eq_true (decide (v3 < (a0.length : Int))) with hb4 | hb4
    · rw [ite_t hb4] at h
      obtain ⟨x5, hx5, h⟩ := ob h
      obtain ⟨r6, hr6, h⟩ := ob h
      try simp only [hσ, hb4, hx5, c_laws_szPointS_1, Nat.reduceBEq, Nat.reduceMul, Nat.reduceAdd, Nat.reduceDiv, Int.reduceBEq, rules2, rowsX]
      refine go_callI (w_laws_szPoint _ _ _ hr6) rfl rfl (Nat.le_of_ble_eq_true rfl) ?_
      rcases Bool.eq_false_or_eq_true (decide (r6 < (0 : Int))) with hb7 | hb7
      · rw [ite_t hb7] at h
        try simp only [hb4, hx5, hb7, Nat.reduceBEq, Nat.reduceMul, Nat.reduceAdd, Nat.reduceDiv, Int.reduceBEq, rules2, rowsX]
        cases h
        exact ⟨⟨rfl, trivial⟩, rfl⟩
      · rw [ite_f hb7] at h
        try simp only [hb4, hx5, hb7, Nat.reduceBEq, Nat.reduceMul, Nat.reduceAdd, Nat.reduceDiv, Int.reduceBEq, rules2, rowsX]
        refine ih _ _ _ h _ ?_
        try simp only [hb4, hx5, hb7, Nat.reduceBEq, Nat.reduceMul, Nat.reduceAdd, Nat.reduceDiv, Int.reduceBEq, rules2, rowsX, List.map_nil]
    · rw [ite_f hb4] at h
      try simp only [hσ, hb4, c_laws_szPointS_1, c_laws_szPointS_n1, Nat.reduceBEq, Nat.reduceMul, Nat.reduceAdd, Nat.reduceDiv, Int.reduceBEq, rules2, rowsX]
      cases h
      exact ⟨⟨rfl, trivial⟩, rfl⟩
theorem e_laws_szPointS : entry Try.prog 20 = some (c_laws_szPointS.strip, [4], 27) := by kernel_rfl
theorem w_laws_szPointS (a0 : List XPoint) (a1 : Int) (r : Int) (h : f_laws_szPointS a0 a1 = some r) : FC Try.prog 20 [.sc (.sl (List.map XPoint.row a0)), .sc (.int .i64 a1)] [.sc (.v (.int .i64 r))] := by
  unfold f_laws_szPointS at h
  refine FC_go (σ := ⟨[(0, vc (aL (List.map XPoint.row a0))), (1, vc (aI a1))], [], []⟩) mixed e_laws_szPointS rfl rfl ?_
  simp only [c_laws_szPointS]
  rcases Bool.eq_false_or_eq_true (decide ((IntKind.i64.wrap (a1 - (a0.length : Int))) < (0 : Int))) with hb1 | hb1
  · rw [ite_t hb1] at h
    try simp only [hb1, Nat.reduceBEq, Nat.reduceMul, Nat.reduceAdd, Nat.reduceDiv, Int.reduceBEq, rules2, rowsX]
    cases h
    exact ⟨⟨rfl, trivial⟩, rfl⟩
  · rw [ite_f hb1] at h
    try simp only [hb1, Nat.reduceBEq, Nat.reduceMul, Nat.reduceAdd, Nat.reduceDiv, Int.reduceBEq, rules2, rowsX]
    refine w_laws_szPointS_1 _ _ _ _ _ h _ ?_
    try simp only [hb1, Nat.reduceBEq, Nat.reduceMul, Nat.reduceAdd, Nat.reduceDiv, Int.reduceBEq, rules2, rowsX, List.map_nil]
/- 21: laws_szSegmentS -/
def c_laws_szSegmentS : ACode := (.seq (.reg [(none, .mv 4 (K 0))]) (.seq (.reg [(none, .mv 5 (S 1)), (none, .mv 6 (S 0)), (none, .len 7 (S 6)), (none, .bin 8 .sub (S 5) (S 7)), (none, .mv 1 (S 8))]) (.seq (.seq (.reg [(none, .mv 9 (S 1)), (none, .bin 10 .lss (S 9) (K 0))]) (.cond (S 10) (.seq (.reg [(none, .mv 4 (K (-1)))]) .ret) .skip)) (.seq (.reg [(none, .mv 11 (S 1)), (none, .mv 4 (S 11))]) .ret))))
theorem e_laws_szSegmentS : entry Try.prog 21 = some (c_laws_szSegmentS.strip, [4], 12) := by kernel_rfl
theorem w_laws_szSegmentS (a0 : List XSegment) (a1 : Int) (r : Int) (h : f_laws_szSegmentS a0 a1 = some r) : FC Try.prog 21 [.sc (.sl (List.map XSegment.row a0)), .sc (.int .i64 a1)] [.sc (.v (.int .i64 r))] := by
  unfold f_laws_szSegmentS at h
  refine FC_go (σ := ⟨[(0, vc (aL (List.map XSegment.row a0))), (1, vc (aI a1))], [], []⟩) mixed e_laws_szSegmentS rfl rfl ?_
  simp only [c_laws_szSegmentS]
  rcases Bool.eq_false_or_eq_true (decide ((IntKind.i64.wrap (a1 - (a0.length : Int))) < (0 : Int))) with hb1 | hb1
  · rw [ite_t hb1] at h
    try simp only [hb1, Nat.reduceBEq, Nat.reduceMul, Nat.reduceAdd, Nat.reduceDiv, Int.reduceBEq, rules2, rowsX]
    cases h
    exact ⟨⟨rfl, trivial⟩, rfl⟩
  · rw [ite_f hb1] at h
    try simp only [hb1, Nat.reduceBEq, Nat.reduceMul, Nat.reduceAdd, Nat.reduceDiv, Int.reduceBEq, rules2, rowsX]
    cases h
    exact ⟨⟨rfl, trivial⟩, rfl⟩
/- 5: laws_szChart -/
def c_laws_szChart : ACode := (.seq (.reg [(none, .box 2 (S 0)), (none, .mv 4 (K 0))]) (.seq (.reg [(none, .faddr 5 (S 2) 0), (none, .load 6 (S 5) false 1), (none, .mv 7 (S 1)), (none, .call 8 20 [(S 6), (S 7)]), (none, .mv 1 (S 8))]) (.seq (.seq (.reg [(none, .mv 9 (S 1)), (none, .bin 10 .lss (S 9) (K 0))]) (.cond (S 10) (.seq (.reg [(none, .mv 4 (K (-1)))]) .ret) .skip)) (.seq (.reg [(none, .faddr 11 (S 2) 1), (none, .load 12 (S 11) false 1), (none, .mv 13 (S 1)), (none, .call 14 21 [(S 12), (S 13)]), (none, .mv 1 (S 14))]) (.seq (.seq (.reg [(none, .mv 15 (S 1)), (none, .bin 16 .lss (S 15) (K 0))]) (.cond (S 16) (.seq (.reg [(none, .mv 4 (K (-1)))]) .ret) .skip)) (.seq (.reg [(none, .mv 17 (S 1)), (none, .mv 4 (S 17))]) .ret))))))
theorem e_laws_szChart : entry Try.prog 5 = some (c_laws_szChart.strip, [4], 18) := by kernel_rfl
theorem w_laws_szChart (a0 : XChart) (a1 : Int) (r : Int) (h : f_laws_szChart a0 a1 = some r) : FC Try.prog 5 [.ag (XChart.row a0), .sc (.int .i64 a1)] [.sc (.v (.int .i64 r))] := by
  unfold f_laws_szChart at h
  refine FC_go (σ := ⟨[(0, va [aL (List.map XPoint.row a0.Points), aL (List.map XSegment.row a0.Segments)]), (1, vc (aI a1))], [], []⟩) mixed e_laws_szChart rfl rfl ?_
  simp only [c_laws_szChart]
  try simp only [Nat.reduceBEq, Nat.reduceMul, Nat.reduceAdd, Nat.reduceDiv, Int.reduceBEq, rules2, rowsX]
  refine go_bx rfl rfl rfl ?_
  obtain ⟨r1, hr1, h⟩ := ob h
  try simp only [Nat.reduceBEq, Nat.reduceMul, Nat.reduceAdd, Nat.reduceDiv, Int.reduceBEq, rules2, rowsX]
  refine go_callI (w_laws_szPointS _ _ _ hr1) rfl rfl (Nat.le_of_ble_eq_true rfl) ?_
  rcases Bool.eq_false_or_eq_true (decide (r1 < (0 : Int))) with hb2 | hb2
  · rw [ite_t hb2] at h
    try simp only [hb2, Nat.reduceBEq, Nat.reduceMul, Nat.reduceAdd, Nat.reduceDiv, Int.reduceBEq, rules2, rowsX]
    cases h
    exact ⟨⟨rfl, trivial⟩, rfl⟩
  · rw [ite_f hb2] at h
    obtain ⟨r3, hr3, h⟩ := ob h
    try simp only [hb2, Nat.reduceBEq, Nat.reduceMul, Nat.reduceAdd, Nat.reduceDiv, Int.reduceBEq, rules2, rowsX]
    refine go_callI (w_laws_szSegmentS _ _ _ hr3) rfl rfl (Nat.le_of_ble_eq_true rfl) ?_
    rcases Bool.eq_false_or_eq_true (decide (r3 < (0 : Int))) with hb4 | hb4
    · rw [ite_t hb4] at h
      try simp only [hb2, hb4, Nat.reduceBEq, Nat.reduceMul, Nat.reduceAdd, Nat.reduceDiv, Int.reduceBEq, rules2, rowsX]
      cases h
      exact ⟨⟨rfl, trivial⟩, rfl⟩
    · rw [ite_f hb4] at h
      try simp only [hb2, hb4, Nat.reduceBEq, Nat.reduceMul, Nat.reduceAdd, Nat.reduceDiv, Int.reduceBEq, rules2, rowsX]
      cases h
      exact ⟨⟨rfl, trivial⟩, rfl⟩
/- 6: laws_szClosureS -/
def c_laws_szClosureS : ACode := (.seq (.reg [(none, .mv 4 (K 0))]) (.seq (.reg [(none, .mv 5 (S 1)), (none, .mv 6 (S 0)), (none, .len 7 (S 6)), (none, .bin 8 .sub (S 5) (S 7)), (none, .mv 1 (S 8))]) (.seq (.seq (.reg [(none, .mv 9 (S 1)), (none, .bin 10 .lss (S 9) (K 0))]) (.cond (S 10) (.seq (.reg [(none, .mv 4 (K (-1)))]) .ret) .skip)) (.seq (.reg [(none, .mv 11 (S 1)), (none, .mv 4 (S 11))]) .ret))))
theorem e_laws_szClosureS : entry Try.prog 6 = some (c_laws_szClosureS.strip, [4], 12) := by kernel_rfl
theorem w_laws_szClosureS (a0 : List XClosure) (a1 : Int) (r : Int) (h : f_laws_szClosureS a0 a1 = some r) : FC Try.prog 6 [.sc (.sl (List.map XClosure.row a0)), .sc (.int .i64 a1)] [.sc (.v (.int .i64 r))] := by
  unfold f_laws_szClosureS at h
  refine FC_go (σ := ⟨[(0, vc (aL (List.map XClosure.row a0))), (1, vc (aI a1))], [], []⟩) mixed e_laws_szClosureS rfl rfl ?_
  simp only [c_laws_szClosureS]
  rcases Bool.eq_false_or_eq_true (decide ((IntKind.i64.wrap (a1 - (a0.length : Int))) < (0 : Int))) with hb1 | hb1
  · rw [ite_t hb1] at h
    try simp only [hb1, Nat.reduceBEq, Nat.reduceMul, Nat.reduceAdd, Nat.reduceDiv, Int.reduceBEq, rules2, rowsX]
    cases h
    exact ⟨⟨rfl, trivial⟩, rfl⟩
  · rw [ite_f hb1] at h
    try simp only [hb1, Nat.reduceBEq, Nat.reduceMul, Nat.reduceAdd, Nat.reduceDiv, Int.reduceBEq, rules2, rowsX]
    cases h
    exact ⟨⟨rfl, trivial⟩, rfl⟩
/- 49: laws_toPoint -/
def c_laws_toPoint : ACode := (.seq (.reg [(none, .box 1 (S 0)), (none, .alloc 2 [aS [], aB false])]) (.seq (.reg [(none, .alloc 3 [aS [], aB false])]) (.seq (.reg [(none, .faddr 4 (S 1) 0), (none, .load 5 (S 4) false 1), (none, .faddr 6 (S 3) 0), (none, .store (S 6) (S 5) 1)]) (.seq (.reg [(none, .faddr 7 (S 1) 1), (none, .load 8 (S 7) false 1), (none, .faddr 9 (S 3) 1), (none, .store (S 9) (S 8) 1)]) (.seq (.reg [(none, .load 10 (S 3) true 2), (none, .store (S 2) (S 10) 2)]) .ret)))))
theorem e_laws_toPoint : entry Try.prog 49 = some (c_laws_toPoint.strip, [.c 2 true 2], 11) := by kernel_rfl
theorem w_laws_toPoint (a0 : XPoint) (r : XPoint) (h : f_laws_toPoint a0 = some r) : FC Try.prog 49 [.ag (XPoint.row a0)] [.ag [.v (.str r.Name), .v (.bool r.Wait)]] := by
  unfold f_laws_toPoint at h
  refine FC_go (σ := ⟨[(0, va [aS a0.Name, aB a0.Wait])], [], []⟩) mixed e_laws_toPoint rfl rfl ?_
  simp only [c_laws_toPoint]
  try simp only [Nat.reduceBEq, Nat.reduceMul, Nat.reduceAdd, Nat.reduceDiv, Int.reduceBEq, rules2, rowsX]
  refine go_bx rfl rfl rfl ?_
  try simp only [Nat.reduceBEq, Nat.reduceMul, Nat.reduceAdd, Nat.reduceDiv, Int.reduceBEq, rules2, rowsX]
  refine go_al rfl rfl ?_
  try simp only [Nat.reduceBEq, Nat.reduceMul, Nat.reduceAdd, Nat.reduceDiv, Int.reduceBEq, rules2, rowsX]
  refine go_al rfl rfl ?_
  try simp only [Nat.reduceBEq, Nat.reduceMul, Nat.reduceAdd, Nat.reduceDiv, Int.reduceBEq, rules2, rowsX]
  cases h
  try simp only [rulesR, Nat.reduceBEq, Nat.reduceMul, Nat.reduceAdd, Nat.reduceDiv, Int.reduceBEq, rules2, rowsX]
  exact ⟨⟨⟨rfl, rfl, trivial⟩, trivial⟩, rfl⟩
/- 24: laws_toPointS -/
def c_laws_toPointS_1 : ACode := .seq (.reg [(none, .keep [0, 3, 4] [] [448])]) (.seq (.seq (.reg [(none, .mv 8 (S 4)), (none, .mv 9 (S 0)), (none, .len 10 (S 9)), (none, .bin 11 .lss (S 8) (S 10))]) (.cond (S 11) .skip (.exit 0))) (.seq (.block 1 (.reg [(none, .mv 14 (S 3)), (none, .mv 15 (S 4)), (none, .mv 16 (S 0)), (none, .mv 17 (S 4)), (none, .iaddr 18 (S 16) (S 17) 2), (none, .load 19 (S 18) true 2), (none, .call 20 49 [(S 19)]), (none, .iaddr 21 (S 14) (S 15) 2), (none, .store (S 21) (S 20) 2)])) (.reg [(none, .mv 12 (S 4)), (none, .bin 13 .add (S 12) (K 1)), (none, .mv 4 (S 13))])))
def c_laws_toPointS_n1 : ACode := (.seq (.reg [(none, .mv 22 (S 3)), (none, .mv 2 (S 22))]) .ret)
def c_laws_toPointS : ACode := (.seq (.reg [(none, .mv 2 KN)]) (.seq (.reg [(none, .mv 5 (S 0)), (none, .len 6 (S 5)), (none, .mksl 7 2 24 [.str [], .bool false] (S 6) (S 6)), (none, .mv 3 (S 7))]) (.seq (.seq (.reg [(none, .mv 4 (K 0))]) (.block 0 (.loop c_laws_toPointS_1))) c_laws_toPointS_n1)))
theorem w_laws_toPointS_1 (a0 : List XPoint) : ∀ (n : Nat) (v2 : Int) (v3 : List XPoint) (r : (List XPoint)), f_laws_toPointS_1 a0 n v2 v3 = some r → ∀ σ : St, σ.kept [0, 3, 4] [] [448] = ⟨[(0, vc (aL (List.map XPoint.row a0))), (3, vc (.own 448)), (4, vc (aI v2))], [], [(448, 2, List.map XPoint.row v3)]⟩ → go Try.prog (.code (.loop c_laws_toPointS_1) :: [.blk 0, .code c_laws_toPointS_n1]) (Ret [2] [.sc (.o 2 (List.map XPoint.row r))]) .normal (some σ) := by
  intro n
  induction n with
  | zero => intro _ _ r h; cases h
  | succ n ih =>
    intro v2 v3 r h σ hσ
    rw [f_laws_toPointS_1] at h
    refine go_round ?_
    rcases Bool.eq_false_or_eq_true (decide (v2 < (a0.length : Int))) with hb4 | hb4
    · rw [ite_t hb4] at h
      obtain ⟨x5, hx5, h⟩ := ob h
      obtain ⟨r6, hr6, h⟩ := ob h
      try simp only [hσ, hb4, hx5, c_laws_toPointS_1, Nat.reduceBEq, Nat.reduceMul, Nat.reduceAdd, Nat.reduceDiv, Int.reduceBEq, rules2, rowsX]
      refine go_callI (w_laws_toPoint _ _ hr6) rfl rfl (Nat.le_of_ble_eq_true rfl) ?_
      obtain ⟨x7, hx7, h⟩ := ob h
      have hx7n := ix_get hx7
      try simp only [hb4, hx5, hx7, Nat.reduceBEq, Nat.reduceMul, Nat.reduceAdd, Nat.reduceDiv, Int.reduceBEq, rules2, rowsX]
      refine go_stp (y := r6) rfl rfl hx7n rfl rfl rfl ?_
      try simp only [hb4, hx5, hx7, Nat.reduceBEq, Nat.reduceMul, Nat.reduceAdd, Nat.reduceDiv, Int.reduceBEq, rules2, rowsX]
      refine ih _ _ _ h _ ?_
      try simp only [hb4, hx5, hx7, Nat.reduceBEq, Nat.reduceMul, Nat.reduceAdd, Nat.reduceDiv, Int.reduceBEq, rules2, rowsX, List.map_nil]
    · rw [ite_f hb4] at h
      try simp only [hσ, hb4, c_laws_toPointS_1, c_laws_toPointS_n1, Nat.reduceBEq, Nat.reduceMul, Nat.reduceAdd, Nat.reduceDiv, Int.reduceBEq, rules2, rowsX]
      cases h
      exact ⟨⟨rfl, trivial⟩, rfl⟩
theorem e_laws_toPointS : entry Try.prog 24 = some (c_laws_toPointS.strip, [2], 23) := by kernel_rfl
theorem w_laws_toPointS (a0 : List XPoint) (r : (List XPoint)) (h : f_laws_toPointS a0 = some r) : FC Try.prog 24 [.sc (.sl (List.map XPoint.row a0))] [.sc (.o 2 (List.map XPoint.row r))] := by
  unfold f_laws_toPointS at h
  refine FC_go (σ := ⟨[(0, vc (aL (List.map XPoint.row a0)))], [], []⟩) mixed e_laws_toPointS rfl rfl ?_
  simp only [c_laws_toPointS]
  obtain ⟨n1, hn1, h⟩ := ob h
  try simp only [Nat.reduceBEq, Nat.reduceMul, Nat.reduceAdd, Nat.reduceDiv, Int.reduceBEq, rules2, rowsX]
  refine go_mks (es := List.map XPoint.row (List.replicate n1 (⟨([] : List UInt8), false⟩ : XPoint))) rfl rfl hn1 rfl (rep_map rfl) rfl ?_
  try simp only [Nat.reduceBEq, Nat.reduceMul, Nat.reduceAdd, Nat.reduceDiv, Int.reduceBEq, rules2, rowsX]
  refine w_laws_toPointS_1 _ _ _ _ _ h _ ?_
  try simp only [Nat.reduceBEq, Nat.reduceMul, Nat.reduceAdd, Nat.reduceDiv, Int.reduceBEq, rules2, rowsX, List.map_nil]
/- 50: laws_toSegment -/
def c_laws_toSegment : ACode := (.seq (.reg [(none, .box 1 (S 0)), (none, .alloc 2 [aI 0, aI 0, aI 0, aI 0, aB false])]) (.seq (.reg [(none, .alloc 3 [aI 0, aI 0, aI 0, aI 0, aB false])]) (.seq (.reg [(none, .faddr 4 (S 1) 0), (none, .load 5 (S 4) false 1), (none, .faddr 6 (S 3) 0), (none, .store (S 6) (S 5) 1)]) (.seq (.reg [(none, .faddr 7 (S 1) 1), (none, .load 8 (S 7) false 1), (none, .faddr 9 (S 3) 1), (none, .store (S 9) (S 8) 1)]) (.seq (.reg [(none, .faddr 10 (S 1) 2), (none, .load 11 (S 10) false 1), (none, .faddr 12 (S 3) 2), (none, .store (S 12) (S 11) 1)]) (.seq (.reg [(none, .faddr 13 (S 1) 3), (none, .load 14 (S 13) false 1), (none, .faddr 15 (S 3) 3), (none, .store (S 15) (S 14) 1)]) (.seq (.reg [(none, .faddr 16 (S 1) 4), (none, .load 17 (S 16) false 1), (none, .faddr 18 (S 3) 4), (none, .store (S 18) (S 17) 1)]) (.seq (.reg [(none, .load 19 (S 3) true 5), (none, .store (S 2) (S 19) 5)]) .ret))))))))
theorem e_laws_toSegment : entry Try.prog 50 = some (c_laws_toSegment.strip, [.c 2 true 5], 20) := by kernel_rfl
theorem w_laws_toSegment (a0 : XSegment) (r : XSegment) (h : f_laws_toSegment a0 = some r) : FC Try.prog 50 [.ag (XSegment.row a0)] [.ag [.v (.int .i64 r.A), .v (.int .i64 r.B), .v (.int .i64 r.Depth), .v (.int .i64 r.Minutes), .v (.bool r.Meet)]] := by
  unfold f_laws_toSegment at h
  refine FC_go (σ := ⟨[(0, va [aI a0.A, aI a0.B, aI a0.Depth, aI a0.Minutes, aB a0.Meet])], [], []⟩) mixed e_laws_toSegment rfl rfl ?_
  simp only [c_laws_toSegment]
  try simp only [Nat.reduceBEq, Nat.reduceMul, Nat.reduceAdd, Nat.reduceDiv, Int.reduceBEq, rules2, rowsX]
  refine go_bx rfl rfl rfl ?_
  try simp only [Nat.reduceBEq, Nat.reduceMul, Nat.reduceAdd, Nat.reduceDiv, Int.reduceBEq, rules2, rowsX]
  refine go_al rfl rfl ?_
  try simp only [Nat.reduceBEq, Nat.reduceMul, Nat.reduceAdd, Nat.reduceDiv, Int.reduceBEq, rules2, rowsX]
  refine go_al rfl rfl ?_
  try simp only [Nat.reduceBEq, Nat.reduceMul, Nat.reduceAdd, Nat.reduceDiv, Int.reduceBEq, rules2, rowsX]
  cases h
  try simp only [rulesR, Nat.reduceBEq, Nat.reduceMul, Nat.reduceAdd, Nat.reduceDiv, Int.reduceBEq, rules2, rowsX]
  exact ⟨⟨⟨rfl, rfl, rfl, rfl, rfl, trivial⟩, trivial⟩, rfl⟩
/- 25: laws_toSegmentS -/
def c_laws_toSegmentS_1 : ACode := .seq (.reg [(none, .keep [0, 3, 4] [] [448])]) (.seq (.seq (.reg [(none, .mv 8 (S 4)), (none, .mv 9 (S 0)), (none, .len 10 (S 9)), (none, .bin 11 .lss (S 8) (S 10))]) (.cond (S 11) .skip (.exit 0))) (.seq (.block 1 (.reg [(none, .mv 14 (S 3)), (none, .mv 15 (S 4)), (none, .mv 16 (S 0)), (none, .mv 17 (S 4)), (none, .iaddr 18 (S 16) (S 17) 5), (none, .load 19 (S 18) true 5), (none, .call 20 50 [(S 19)]), (none, .iaddr 21 (S 14) (S 15) 5), (none, .store (S 21) (S 20) 5)])) (.reg [(none, .mv 12 (S 4)), (none, .bin 13 .add (S 12) (K 1)), (none, .mv 4 (S 13))])))
def c_laws_toSegmentS_n1 : ACode := (.seq (.reg [(none, .mv 22 (S 3)), (none, .mv 2 (S 22))]) .ret)
def c_laws_toSegmentS : ACode := (.seq (.reg [(none, .mv 2 KN)]) (.seq (.reg [(none, .mv 5 (S 0)), (none, .len 6 (S 5)), (none, .mksl 7 5 40 [.int .i64 0, .int .i64 0, .int .i64 0, .int .i64 0, .bool false] (S 6) (S 6)), (none, .mv 3 (S 7))]) (.seq (.seq (.reg [(none, .mv 4 (K 0))]) (.block 0 (.loop c_laws_toSegmentS_1))) c_laws_toSegmentS_n1)))
theorem w_laws_toSegmentS_1 (a0 : List XSegment) : ∀ (n : Nat) (v2 : Int) (v3 : List XSegment) (r : (List XSegment)), f_laws_toSegmentS_1 a0 n v2 v3 = some r → ∀ σ : St, σ.kept [0, 3, 4] [] [448] = ⟨[(0, vc (aL (List.map XSegment.row a0))), (3, vc (.own 448)), (4, vc (aI v2))], [], [(448, 5, List.map XSegment.row v3)]⟩ → go Try.prog (.code (.loop c_laws_toSegmentS_1) :: [.blk 0, .code c_laws_toSegmentS_n1]) (Ret [2] [.sc (.o 5 (List.map XSegment.row r))]) .normal (some σ) := by
  intro n
  induction n with
  | zero => intro _ _ r h; cases h
  | succ n ih =>
    intro v2 v3 r h σ hσ
    rw [f_laws_toSegmentS_1] at h
    refine go_round ?_
    rcases Bool.eq_false_or_eq_true (decide (v2 < (a0.length : Int))) with hb4 | hb4
    · rw [ite_t hb4] at h
      obtain ⟨x5, hx5, h⟩ := ob h
      obtain ⟨r6, hr6, h⟩ := ob h
      try simp only [hσ, hb4, hx5, c_laws_toSegmentS_1, Nat.reduceBEq, Nat.reduceMul, Nat.reduceAdd, Nat.reduceDiv, Int.reduceBEq, rules2, rowsX]
      refine go_callI (w_laws_toSegment _ _ hr6) rfl rfl (Nat.le_of_ble_eq_true rfl) ?_
      obtain ⟨x7, hx7, h⟩ := ob h
      have hx7n := ix_get hx7
      try simp only [hb4, hx5, hx7, Nat.reduceBEq, Nat.reduceMul, Nat.reduceAdd, Nat.reduceDiv, Int.reduceBEq, rules2, rowsX]
      refine go_stp (y := r6) rfl rfl hx7n rfl rfl rfl ?_
      try simp only [hb4, hx5, hx7, Nat.reduceBEq, Nat.reduceMul, Nat.reduceAdd, Nat.reduceDiv, Int.reduceBEq, rules2, rowsX]
      refine ih _ _ _ h _ ?_
      try simp only [hb4, hx5, hx7, Nat.reduceBEq, Nat.reduceMul, Nat.reduceAdd, Nat.reduceDiv, Int.reduceBEq, rules2, rowsX, List.map_nil]
    · rw [ite_f hb4] at h
      try simp only [hσ, hb4, c_laws_toSegmentS_1, c_laws_toSegmentS_n1, Nat.reduceBEq, Nat.reduceMul, Nat.reduceAdd, Nat.reduceDiv, Int.reduceBEq, rules2, rowsX]
      cases h
      exact ⟨⟨rfl, trivial⟩, rfl⟩
theorem e_laws_toSegmentS : entry Try.prog 25 = some (c_laws_toSegmentS.strip, [2], 23) := by kernel_rfl
theorem w_laws_toSegmentS (a0 : List XSegment) (r : (List XSegment)) (h : f_laws_toSegmentS a0 = some r) : FC Try.prog 25 [.sc (.sl (List.map XSegment.row a0))] [.sc (.o 5 (List.map XSegment.row r))] := by
  unfold f_laws_toSegmentS at h
  refine FC_go (σ := ⟨[(0, vc (aL (List.map XSegment.row a0)))], [], []⟩) mixed e_laws_toSegmentS rfl rfl ?_
  simp only [c_laws_toSegmentS]
  obtain ⟨n1, hn1, h⟩ := ob h
  try simp only [Nat.reduceBEq, Nat.reduceMul, Nat.reduceAdd, Nat.reduceDiv, Int.reduceBEq, rules2, rowsX]
  refine go_mks (es := List.map XSegment.row (List.replicate n1 (⟨(0 : Int), (0 : Int), (0 : Int), (0 : Int), false⟩ : XSegment))) rfl rfl hn1 rfl (rep_map rfl) rfl ?_
  try simp only [Nat.reduceBEq, Nat.reduceMul, Nat.reduceAdd, Nat.reduceDiv, Int.reduceBEq, rules2, rowsX]
  refine w_laws_toSegmentS_1 _ _ _ _ _ h _ ?_
  try simp only [Nat.reduceBEq, Nat.reduceMul, Nat.reduceAdd, Nat.reduceDiv, Int.reduceBEq, rules2, rowsX, List.map_nil]
/- 8: laws_toChart -/
def c_laws_toChart : ACode := (.seq (.reg [(none, .box 1 (S 0)), (none, .alloc 2 [.nil, .nil])]) (.seq (.reg [(none, .alloc 3 [.nil, .nil])]) (.seq (.reg [(none, .faddr 4 (S 1) 0), (none, .load 5 (S 4) false 1), (none, .call 6 24 [(S 5)]), (none, .faddr 7 (S 3) 0), (none, .store (S 7) (S 6) 1)]) (.seq (.reg [(none, .faddr 8 (S 1) 1), (none, .load 9 (S 8) false 1), (none, .call 10 25 [(S 9)]), (none, .faddr 11 (S 3) 1), (none, .store (S 11) (S 10) 1)]) (.seq (.reg [(none, .load 12 (S 3) true 2), (none, .store (S 2) (S 12) 2)]) .ret)))))
theorem e_laws_toChart : entry Try.prog 8 = some (c_laws_toChart.strip, [.c 2 true 2], 13) := by kernel_rfl
theorem w_laws_toChart (a0 : XChart) (r : XChart) (h : f_laws_toChart a0 = some r) : FC Try.prog 8 [.ag (XChart.row a0)] [.ag [.o 2 (List.map XPoint.row r.Points), .o 5 (List.map XSegment.row r.Segments)]] := by
  unfold f_laws_toChart at h
  refine FC_go (σ := ⟨[(0, va [aL (List.map XPoint.row a0.Points), aL (List.map XSegment.row a0.Segments)])], [], []⟩) mixed e_laws_toChart rfl rfl ?_
  simp only [c_laws_toChart]
  try simp only [Nat.reduceBEq, Nat.reduceMul, Nat.reduceAdd, Nat.reduceDiv, Int.reduceBEq, rules2, rowsX]
  refine go_bx rfl rfl rfl ?_
  try simp only [Nat.reduceBEq, Nat.reduceMul, Nat.reduceAdd, Nat.reduceDiv, Int.reduceBEq, rules2, rowsX]
  refine go_al rfl rfl ?_
  try simp only [Nat.reduceBEq, Nat.reduceMul, Nat.reduceAdd, Nat.reduceDiv, Int.reduceBEq, rules2, rowsX]
  refine go_al rfl rfl ?_
  obtain ⟨r1, hr1, h⟩ := ob h
  try simp only [Nat.reduceBEq, Nat.reduceMul, Nat.reduceAdd, Nat.reduceDiv, Int.reduceBEq, rules2, rowsX]
  refine go_callI (w_laws_toPointS _ _ hr1) rfl rfl (Nat.le_of_ble_eq_true rfl) ?_
  obtain ⟨r2, hr2, h⟩ := ob h
  try simp only [Nat.reduceBEq, Nat.reduceMul, Nat.reduceAdd, Nat.reduceDiv, Int.reduceBEq, rules2, rowsX]
  refine go_callI (w_laws_toSegmentS _ _ hr2) rfl rfl (Nat.le_of_ble_eq_true rfl) ?_
  try simp only [Nat.reduceBEq, Nat.reduceMul, Nat.reduceAdd, Nat.reduceDiv, Int.reduceBEq, rules2, rowsX]
  cases h
  try simp only [rulesR, Nat.reduceBEq, Nat.reduceMul, Nat.reduceAdd, Nat.reduceDiv, Int.reduceBEq, rules2, rowsX]
  exact ⟨⟨⟨rfl, rfl, trivial⟩, trivial⟩, rfl⟩
/- 26: laws_toClosure -/
def c_laws_toClosure : ACode := (.seq (.reg [(none, .box 1 (S 0)), (none, .alloc 2 [aI 0, aI 0, aI 0])]) (.seq (.reg [(none, .alloc 3 [aI 0, aI 0, aI 0])]) (.seq (.reg [(none, .faddr 4 (S 1) 0), (none, .load 5 (S 4) false 1), (none, .faddr 6 (S 3) 0), (none, .store (S 6) (S 5) 1)]) (.seq (.reg [(none, .faddr 7 (S 1) 1), (none, .load 8 (S 7) false 1), (none, .faddr 9 (S 3) 1), (none, .store (S 9) (S 8) 1)]) (.seq (.reg [(none, .faddr 10 (S 1) 2), (none, .load 11 (S 10) false 1), (none, .faddr 12 (S 3) 2), (none, .store (S 12) (S 11) 1)]) (.seq (.reg [(none, .load 13 (S 3) true 3), (none, .store (S 2) (S 13) 3)]) .ret))))))
theorem e_laws_toClosure : entry Try.prog 26 = some (c_laws_toClosure.strip, [.c 2 true 3], 14) := by kernel_rfl
theorem w_laws_toClosure (a0 : XClosure) (r : XClosure) (h : f_laws_toClosure a0 = some r) : FC Try.prog 26 [.ag (XClosure.row a0)] [.ag [.v (.int .i64 r.Segment), .v (.int .i64 r.From), .v (.int .i64 r.To)]] := by
  unfold f_laws_toClosure at h
  refine FC_go (σ := ⟨[(0, va [aI a0.Segment, aI a0.From, aI a0.To])], [], []⟩) mixed e_laws_toClosure rfl rfl ?_
  simp only [c_laws_toClosure]
  try simp only [Nat.reduceBEq, Nat.reduceMul, Nat.reduceAdd, Nat.reduceDiv, Int.reduceBEq, rules2, rowsX]
  refine go_bx rfl rfl rfl ?_
  try simp only [Nat.reduceBEq, Nat.reduceMul, Nat.reduceAdd, Nat.reduceDiv, Int.reduceBEq, rules2, rowsX]
  refine go_al rfl rfl ?_
  try simp only [Nat.reduceBEq, Nat.reduceMul, Nat.reduceAdd, Nat.reduceDiv, Int.reduceBEq, rules2, rowsX]
  refine go_al rfl rfl ?_
  try simp only [Nat.reduceBEq, Nat.reduceMul, Nat.reduceAdd, Nat.reduceDiv, Int.reduceBEq, rules2, rowsX]
  cases h
  try simp only [rulesR, Nat.reduceBEq, Nat.reduceMul, Nat.reduceAdd, Nat.reduceDiv, Int.reduceBEq, rules2, rowsX]
  exact ⟨⟨⟨rfl, rfl, rfl, trivial⟩, trivial⟩, rfl⟩
/- 9: laws_toClosureS -/
def c_laws_toClosureS_1 : ACode := .seq (.reg [(none, .keep [0, 3, 4] [] [448])]) (.seq (.seq (.reg [(none, .mv 8 (S 4)), (none, .mv 9 (S 0)), (none, .len 10 (S 9)), (none, .bin 11 .lss (S 8) (S 10))]) (.cond (S 11) .skip (.exit 0))) (.seq (.block 1 (.reg [(none, .mv 14 (S 3)), (none, .mv 15 (S 4)), (none, .mv 16 (S 0)), (none, .mv 17 (S 4)), (none, .iaddr 18 (S 16) (S 17) 3), (none, .load 19 (S 18) true 3), (none, .call 20 26 [(S 19)]), (none, .iaddr 21 (S 14) (S 15) 3), (none, .store (S 21) (S 20) 3)])) (.reg [(none, .mv 12 (S 4)), (none, .bin 13 .add (S 12) (K 1)), (none, .mv 4 (S 13))])))
def c_laws_toClosureS_n1 : ACode := (.seq (.reg [(none, .mv 22 (S 3)), (none, .mv 2 (S 22))]) .ret)
def c_laws_toClosureS : ACode := (.seq (.reg [(none, .mv 2 KN)]) (.seq (.reg [(none, .mv 5 (S 0)), (none, .len 6 (S 5)), (none, .mksl 7 3 24 [.int .i64 0, .int .i64 0, .int .i64 0] (S 6) (S 6)), (none, .mv 3 (S 7))]) (.seq (.seq (.reg [(none, .mv 4 (K 0))]) (.block 0 (.loop c_laws_toClosureS_1))) c_laws_toClosureS_n1)))
theorem w_laws_toClosureS_1 (a0 : List XClosure) : ∀ (n : Nat) (v2 : Int) (v3 : List XClosure) (r : (List XClosure)), f_laws_toClosureS_1 a0 n v2 v3 = some r → ∀ σ : St, σ.kept [0, 3, 4] [] [448] = ⟨[(0, vc (aL (List.map XClosure.row a0))), (3, vc (.own 448)), (4, vc (aI v2))], [], [(448, 3, List.map XClosure.row v3)]⟩ → go Try.prog (.code (.loop c_laws_toClosureS_1) :: [.blk 0, .code c_laws_toClosureS_n1]) (Ret [2] [.sc (.o 3 (List.map XClosure.row r))]) .normal (some σ) := by
  intro n
  induction n with
  | zero => intro _ _ r h; cases h
  | succ n ih =>
    intro v2 v3 r h σ hσ
    rw [f_laws_toClosureS_1] at h
    refine go_round ?_
    rcases Bool.eq_false_or_eq_true (decide (v2 < (a0.length : Int))) with hb4 | hb4
    · rw [ite_t hb4] at h
      obtain ⟨x5, hx5, h⟩ := ob h
      obtain ⟨r6, hr6, h⟩ := ob h
      try simp only [hσ, hb4, hx5, c_laws_toClosureS_1, Nat.reduceBEq, Nat.reduceMul, Nat.reduceAdd, Nat.reduceDiv, Int.reduceBEq, rules2, rowsX]
      refine go_callI (w_laws_toClosure _ _ hr6) rfl rfl (Nat.le_of_ble_eq_true rfl) ?_
      obtain ⟨x7, hx7, h⟩ := ob h
      have hx7n := ix_get hx7
      try simp only [hb4, hx5, hx7, Nat.reduceBEq, Nat.reduceMul, Nat.reduceAdd, Nat.reduceDiv, Int.reduceBEq, rules2, rowsX]
      refine go_stp (y := r6) rfl rfl hx7n rfl rfl rfl ?_
      try simp only [hb4, hx5, hx7, Nat.reduceBEq, Nat.reduceMul, Nat.reduceAdd, Nat.reduceDiv, Int.reduceBEq, rules2, rowsX]
      refine ih _ _ _ h _ ?_
      try simp only [hb4, hx5, hx7, Nat.reduceBEq, Nat.reduceMul, Nat.reduceAdd, Nat.reduceDiv, Int.reduceBEq, rules2, rowsX, List.map_nil]
    · rw [ite_f hb4] at h
      try simp only [hσ, hb4, c_laws_toClosureS_1, c_laws_toClosureS_n1, Nat.reduceBEq, Nat.reduceMul, Nat.reduceAdd, Nat.reduceDiv, Int.reduceBEq, rules2, rowsX]
      cases h
      exact ⟨⟨rfl, trivial⟩, rfl⟩
theorem e_laws_toClosureS : entry Try.prog 9 = some (c_laws_toClosureS.strip, [2], 23) := by kernel_rfl
theorem w_laws_toClosureS (a0 : List XClosure) (r : (List XClosure)) (h : f_laws_toClosureS a0 = some r) : FC Try.prog 9 [.sc (.sl (List.map XClosure.row a0))] [.sc (.o 3 (List.map XClosure.row r))] := by
  unfold f_laws_toClosureS at h
  refine FC_go (σ := ⟨[(0, vc (aL (List.map XClosure.row a0)))], [], []⟩) mixed e_laws_toClosureS rfl rfl ?_
  simp only [c_laws_toClosureS]
  obtain ⟨n1, hn1, h⟩ := ob h
  try simp only [Nat.reduceBEq, Nat.reduceMul, Nat.reduceAdd, Nat.reduceDiv, Int.reduceBEq, rules2, rowsX]
  refine go_mks (es := List.map XClosure.row (List.replicate n1 (⟨(0 : Int), (0 : Int), (0 : Int)⟩ : XClosure))) rfl rfl hn1 rfl (rep_map rfl) rfl ?_
  try simp only [Nat.reduceBEq, Nat.reduceMul, Nat.reduceAdd, Nat.reduceDiv, Int.reduceBEq, rules2, rowsX]
  refine w_laws_toClosureS_1 _ _ _ _ _ h _ ?_
  try simp only [Nat.reduceBEq, Nat.reduceMul, Nat.reduceAdd, Nat.reduceDiv, Int.reduceBEq, rules2, rowsX, List.map_nil]
/- 23: spec_l01In -/
def c_spec_l01In : ACode := (.seq (.reg [(none, .mv 6 (KB false))]) (.seq (.reg [(none, .mv 7 (S 0)), (none, .mv 8 (S 1)), (none, .bin 9 .geq (S 7) (S 8)), (none, .mv 10 (S 9)), (some (10, true), .mv 11 (S 0)), (some (10, true), .mv 12 (S 2)), (some (10, true), .bin 13 .leq (S 11) (S 12)), (none, .pick 14 (S 10) (S 13) (KB false)), (none, .mv 6 (S 14))]) .ret))
theorem e_spec_l01In : entry Try.prog 23 = some (c_spec_l01In.strip, [6], 15) := by kernel_rfl
theorem w_spec_l01In (a0 : Int) (a1 : Int) (a2 : Int) (r : Bool) (h : f_spec_l01In a0 a1 a2 = some r) : FC Try.prog 23 [.sc (.int .i64 a0), .sc (.int .i64 a1), .sc (.int .i64 a2)] [.sc (.v (.bool r))] := by
  unfold f_spec_l01In at h
  refine FC_go (σ := ⟨[(0, vc (aI a0)), (1, vc (aI a1)), (2, vc (aI a2))], [], []⟩) mixed e_spec_l01In rfl rfl ?_
  simp only [c_spec_l01In]
  rcases Bool.eq_false_or_eq_true (decide (a1 ≤ a0)) with hb1 | hb1
  · rw [ite_t hb1] at h
    try simp only [hb1, Nat.reduceBEq, Nat.reduceMul, Nat.reduceAdd, Nat.reduceDiv, Int.reduceBEq, rules2, rowsX]
    cases h
    exact ⟨⟨rfl, trivial⟩, rfl⟩
  · rw [ite_f hb1] at h
    try simp only [hb1, Nat.reduceBEq, Nat.reduceMul, Nat.reduceAdd, Nat.reduceDiv, Int.reduceBEq, rules2, rowsX]
    cases h
    exact ⟨⟨rfl, trivial⟩, rfl⟩
/- 46: spec_IsName -/
def c_spec_IsName_2 : ACode := .seq (.reg [(none, .keep [0, 3, 4] [] [])]) (.seq (.reg [(none, .mv 21 (S 4)), (none, .un 22 .not (S 21)), (none, .mv 23 (S 22)), (some (23, true), .mv 24 (S 3)), (some (23, true), .bin 25 .eql (S 24) (K 0)), (some (23, true), .mv 26 (S 25)), (some (26, false), .mv 27 (S 0)), (some (26, false), .mv 28 (S 3)), (some (26, false), .idx 29 (S 27) (S 28)), (some (26, false), .bin 30 .lss (S 29) (K8 48)), (some (23, true), .pick 31 (S 26) (KB true) (S 30)), (some (23, true), .mv 32 (S 31)), (some (32, false), .mv 33 (S 0)), (some (32, false), .mv 34 (S 3)), (some (32, false), .idx 35 (S 33) (S 34)), (some (32, false), .bin 36 .gtr (S 35) (K8 57)), (some (23, true), .pick 37 (S 32) (KB true) (S 36)), (none, .pick 38 (S 23) (S 37) (KB false))]) (.cond (S 38) (.seq (.reg [(none, .mv 2 (KB false))]) .ret) .skip))
def c_spec_IsName_3 : ACode := .seq (.reg [(none, .keep [0, 3] [] [])]) (.reg [(none, .mv 9 (S 3)), (none, .bin 10 .add (S 9) (K 1)), (none, .mv 3 (S 10))])
def c_spec_IsName_1 : ACode := .seq (.reg [(none, .keep [0, 3] [] [])]) (.seq (.seq (.reg [(none, .mv 5 (S 3)), (none, .mv 6 (S 0)), (none, .slen 7 (S 6)), (none, .bin 8 .lss (S 5) (S 7))]) (.cond (S 8) .skip (.exit 0))) (.seq (.block 1 (.seq (.reg [(none, .mv 11 (S 0)), (none, .mv 12 (S 3)), (none, .idx 13 (S 11) (S 12)), (none, .bin 14 .geq (S 13) (K8 97)), (none, .mv 15 (S 14)), (some (15, true), .mv 16 (S 0)), (some (15, true), .mv 17 (S 3)), (some (15, true), .idx 18 (S 16) (S 17)), (some (15, true), .bin 19 .leq (S 18) (K8 122)), (none, .pick 20 (S 15) (S 19) (KB false)), (none, .mv 4 (S 20))]) c_spec_IsName_2)) c_spec_IsName_3))
def c_spec_IsName_n1 : ACode := (.seq (.reg [(none, .mv 39 (S 0)), (none, .slen 40 (S 39)), (none, .call 41 23 [(S 40), (K 1), (K 8)]), (none, .mv 2 (S 41))]) .ret)
def c_spec_IsName : ACode := (.seq (.reg [(none, .mv 2 (KB false))]) (.seq (.seq (.reg [(none, .mv 3 (K 0))]) (.block 0 (.loop c_spec_IsName_1))) c_spec_IsName_n1))
theorem w_spec_IsName_3 (a0 : List UInt8) (v1 : Int) (k_spec_IsName_1 : Int → Option Bool) (hk_spec_IsName_1 : ∀ (v1 : Int) zr, k_spec_IsName_1 v1 = some zr → ∀ σ : St, σ.kept [0, 3] [] [] = ⟨[(0, vc (aS a0)), (3, vc (aI v1))], [], []⟩ → go Try.prog (.code (.loop c_spec_IsName_1) :: [.blk 0, .code c_spec_IsName_n1]) (Ret [2] [.sc (.v (.bool zr))]) .normal (some σ)) (r : Bool) (h : f_spec_IsName_3 a0 v1 k_spec_IsName_1 = some r) (σ : St) (hσ : σ.kept [0, 3] [] [] = ⟨[(0, vc (aS a0)), (3, vc (aI v1))], [], []⟩) : go Try.prog (.code c_spec_IsName_3 :: [.code (.loop c_spec_IsName_1), .blk 0, .code c_spec_IsName_n1]) (Ret [2] [.sc (.v (.bool r))]) .normal (some σ) := by
  unfold f_spec_IsName_3 at h
  try simp only [hσ, c_spec_IsName_3, Nat.reduceBEq, Nat.reduceMul, Nat.reduceAdd, Nat.reduceDiv, Int.reduceBEq, rules2, rowsX]
  refine hk_spec_IsName_1 _ _ h _ ?_
  try simp only [Nat.reduceBEq, Nat.reduceMul, Nat.reduceAdd, Nat.reduceDiv, Int.reduceBEq, rules2, rowsX, List.map_nil]
theorem w_spec_IsName_2 (a0 : List UInt8) (v1 : Int) (k_spec_IsName_1 : Int → Option Bool) (hk_spec_IsName_1 : ∀ (v1 : Int) zr, k_spec_IsName_1 v1 = some zr → ∀ σ : St, σ.kept [0, 3] [] [] = ⟨[(0, vc (aS a0)), (3, vc (aI v1))], [], []⟩ → go Try.prog (.code (.loop c_spec_IsName_1) :: [.blk 0, .code c_spec_IsName_n1]) (Ret [2] [.sc (.v (.bool zr))]) .normal (some σ)) (v5 : Bool) (r : Bool) (h : f_spec_IsName_2 a0 v1 k_spec_IsName_1 v5 = some r) (σ : St) (hσ : σ.kept [0, 3, 4] [] [] = ⟨[(0, vc (aS a0)), (3, vc (aI v1)), (4, vc (aB v5))], [], []⟩) : go Try.prog (.code c_spec_IsName_2 :: [.blk 1, .code c_spec_IsName_3, .code (.loop c_spec_IsName_1), .blk 0, .code c_spec_IsName_n1]) (Ret [2] [.sc (.v (.bool r))]) .normal (some σ) := by
  unfold f_spec_IsName_2 at h
  rcases Bool.eq_false_or_eq_true v5 with hb6 | hb6
  · rw [ite_t hb6] at h
    try simp only [hσ, hb6, c_spec_IsName_2, Nat.reduceBEq, Nat.reduceMul, Nat.reduceAdd, Nat.reduceDiv, Int.reduceBEq, rules2, rowsX]
    refine w_spec_IsName_3 _ _ k_spec_IsName_1 hk_spec_IsName_1 _ h _ ?_
    try simp only [hb6, Nat.reduceBEq, Nat.reduceMul, Nat.reduceAdd, Nat.reduceDiv, Int.reduceBEq, rules2, rowsX, List.map_nil]
  · rw [ite_f hb6] at h
    rcases Bool.eq_false_or_eq_true (v1 == (0 : Int)) with hb7 | hb7
    · rw [ite_t hb7] at h
      try simp only [hσ, hb6, hb7, c_spec_IsName_2, Nat.reduceBEq, Nat.reduceMul, Nat.reduceAdd, Nat.reduceDiv, Int.reduceBEq, rules2, rowsX]
      cases h
      exact ⟨⟨rfl, trivial⟩, rfl⟩
    · rw [ite_f hb7] at h
      obtain ⟨b8, hb8, h⟩ := ob h
      rcases Bool.eq_false_or_eq_true (decide ((b8.toNat : Int) < (48 : Int))) with hb9 | hb9
      · rw [ite_t hb9] at h
        try simp only [hσ, hb6, hb7, hb8, hb9, c_spec_IsName_2, Nat.reduceBEq, Nat.reduceMul, Nat.reduceAdd, Nat.reduceDiv, Int.reduceBEq, rules2, rowsX]
        cases h
        exact ⟨⟨rfl, trivial⟩, rfl⟩
      · rw [ite_f hb9] at h
        rcases Bool.eq_false_or_eq_true (decide ((57 : Int) < (b8.toNat : Int))) with hb10 | hb10
        · rw [ite_t hb10] at h
          try simp only [hσ, hb6, hb7, hb8, hb9, hb10, c_spec_IsName_2, Nat.reduceBEq, Nat.reduceMul, Nat.reduceAdd, Nat.reduceDiv, Int.reduceBEq, rules2, rowsX]
          cases h
          exact ⟨⟨rfl, trivial⟩, rfl⟩
        · rw [ite_f hb10] at h
          try simp only [hσ, hb6, hb7, hb8, hb9, hb10, c_spec_IsName_2, Nat.reduceBEq, Nat.reduceMul, Nat.reduceAdd, Nat.reduceDiv, Int.reduceBEq, rules2, rowsX]
          refine w_spec_IsName_3 _ _ k_spec_IsName_1 hk_spec_IsName_1 _ h _ ?_
          try simp only [hb6, hb7, hb8, hb9, hb10, Nat.reduceBEq, Nat.reduceMul, Nat.reduceAdd, Nat.reduceDiv, Int.reduceBEq, rules2, rowsX, List.map_nil]
theorem w_spec_IsName_1 (a0 : List UInt8) : ∀ (n : Nat) (v1 : Int) (r : Bool), f_spec_IsName_1 a0 n v1 = some r → ∀ σ : St, σ.kept [0, 3] [] [] = ⟨[(0, vc (aS a0)), (3, vc (aI v1))], [], []⟩ → go Try.prog (.code (.loop c_spec_IsName_1) :: [.blk 0, .code c_spec_IsName_n1]) (Ret [2] [.sc (.v (.bool r))]) .normal (some σ) := by
  intro n
  induction n with
  | zero => intro _ r h; cases h
  | succ n ih =>
    intro v1 r h σ hσ
    rw [f_spec_IsName_1] at h
    refine go_round ?_
    rcases Bool.eq_false_or_eq_true (decide (v1 < (a0.length : Int))) with hb2 | hb2
    · rw [ite_t hb2] at h
      obtain ⟨b3, hb3, h⟩ := ob h
      rcases Bool.eq_false_or_eq_true (decide ((97 : Int) ≤ (b3.toNat : Int))) with hb4 | hb4
      · rw [ite_t hb4] at h
        try simp only [hσ, hb2, hb3, hb4, c_spec_IsName_1, Nat.reduceBEq, Nat.reduceMul, Nat.reduceAdd, Nat.reduceDiv, Int.reduceBEq, rules2, rowsX]
        refine w_spec_IsName_2 _ _ (f_spec_IsName_1 a0 n) ih _ _ h _ ?_
        try simp only [hb2, hb3, hb4, Nat.reduceBEq, Nat.reduceMul, Nat.reduceAdd, Nat.reduceDiv, Int.reduceBEq, rules2, rowsX, List.map_nil]
      · rw [ite_f hb4] at h
        try simp only [hσ, hb2, hb3, hb4, c_spec_IsName_1, Nat.reduceBEq, Nat.reduceMul, Nat.reduceAdd, Nat.reduceDiv, Int.reduceBEq, rules2, rowsX]
        refine w_spec_IsName_2 _ _ (f_spec_IsName_1 a0 n) ih _ _ h _ ?_
        try simp only [hb2, hb3, hb4, Nat.reduceBEq, Nat.reduceMul, Nat.reduceAdd, Nat.reduceDiv, Int.reduceBEq, rules2, rowsX, List.map_nil]
    · rw [ite_f hb2] at h
      obtain ⟨r11, hr11, h⟩ := ob h
      try simp only [hσ, hb2, c_spec_IsName_1, c_spec_IsName_n1, Nat.reduceBEq, Nat.reduceMul, Nat.reduceAdd, Nat.reduceDiv, Int.reduceBEq, rules2, rowsX]
      refine go_callI (w_spec_l01In _ _ _ _ hr11) rfl rfl (Nat.le_of_ble_eq_true rfl) ?_
      try simp only [hb2, Nat.reduceBEq, Nat.reduceMul, Nat.reduceAdd, Nat.reduceDiv, Int.reduceBEq, rules2, rowsX]
      cases h
      exact ⟨⟨rfl, trivial⟩, rfl⟩
theorem e_spec_IsName : entry Try.prog 46 = some (c_spec_IsName.strip, [2], 42) := by kernel_rfl
theorem w_spec_IsName (a0 : List UInt8) (r : Bool) (h : f_spec_IsName a0 = some r) : FC Try.prog 46 [.sc (.str a0)] [.sc (.v (.bool r))] := by
  unfold f_spec_IsName at h
  refine FC_go (σ := ⟨[(0, vc (aS a0))], [], []⟩) mixed e_spec_IsName rfl rfl ?_
  simp only [c_spec_IsName]
  try simp only [Nat.reduceBEq, Nat.reduceMul, Nat.reduceAdd, Nat.reduceDiv, Int.reduceBEq, rules2, rowsX]
  refine w_spec_IsName_1 _ _ _ _ h _ ?_
  try simp only [Nat.reduceBEq, Nat.reduceMul, Nat.reduceAdd, Nat.reduceDiv, Int.reduceBEq, rules2, rowsX, List.map_nil]
/- 47: spec_PointNamed -/
def c_spec_PointNamed_1 : ACode := .seq (.reg [(none, .keep [1, 8, 9, 10] [] [])]) (.seq (.reg [(none, .bin 11 .lss (S 10) (S 9))]) (.seq (.cond (S 11) .skip (.exit 0)) (.seq (.block 1 (.seq (.reg [(none, .mv 12 (S 10)), (none, .iaddr 13 (S 8) (S 10) 2), (none, .load 14 (S 13) true 2), (none, .alloc 6 [aS [], aB false]), (none, .mv 5 (S 12)), (none, .store (S 6) (S 14) 2)]) (.seq (.reg [(none, .faddr 15 (S 6) 0), (none, .load 16 (S 15) false 1), (none, .mv 17 (S 1)), (none, .bin 18 .eql (S 16) (S 17))]) (.cond (S 18) (.seq (.reg [(none, .mv 19 (S 5)), (none, .mv 4 (S 19))]) .ret) .skip)))) (.reg [(none, .bin 20 .add (S 10) (K 1)), (none, .mv 10 (S 20))]))))
def c_spec_PointNamed_n1 : ACode := (.seq (.reg [(none, .mv 4 (K (-1)))]) .ret)
def c_spec_PointNamed : ACode := (.seq (.reg [(none, .box 2 (S 0)), (none, .mv 4 (K 0))]) (.seq (.seq (.reg [(none, .faddr 7 (S 2) 0), (none, .load 8 (S 7) false 1), (none, .len 9 (S 8)), (none, .mv 10 (K 0))]) (.block 0 (.loop c_spec_PointNamed_1))) c_spec_PointNamed_n1))
theorem w_spec_PointNamed_1 (a1 : List UInt8) (a0 : XChart) : ∀ (n : Nat) (v1 : Int) (r : Int), f_spec_PointNamed_1 a1 a0 n v1 = some r → ∀ σ : St, σ.kept [1, 8, 9, 10] [] [] = ⟨[(1, vc (aS a1)), (8, vc (aL (List.map XPoint.row a0.Points))), (9, vc (aI (a0.Points.length : Int))), (10, vc (aI v1))], [], []⟩ → go Try.prog (.code (.loop c_spec_PointNamed_1) :: [.blk 0, .code c_spec_PointNamed_n1]) (Ret [4] [.sc (.v (.int .i64 r))]) .normal (some σ) := by
  intro n
  induction n with
  | zero => intro _ r h; cases h
  | succ n ih =>
    intro v1 r h σ hσ
    rw [f_spec_PointNamed_1] at h
    refine go_round ?_
    rcases Bool.eq_false_or_eq_true (decide (v1 < (a0.Points.length : Int))) with hb2 | hb2
    · rw [ite_t hb2] at h
      obtain ⟨x3, hx3, h⟩ := ob h
      try simp only [hσ, hb2, hx3, c_spec_PointNamed_1, Nat.reduceBEq, Nat.reduceMul, Nat.reduceAdd, Nat.reduceDiv, Int.reduceBEq, rules2, rowsX]
      refine go_al rfl rfl ?_
      rcases Bool.eq_false_or_eq_true (x3.Name == a1) with hb4 | hb4
      · rw [ite_t hb4] at h
        try simp only [hb2, hx3, hb4, Nat.reduceBEq, Nat.reduceMul, Nat.reduceAdd, Nat.reduceDiv, Int.reduceBEq, rules2, rowsX]
        cases h
        exact ⟨⟨rfl, trivial⟩, rfl⟩
      · rw [ite_f hb4] at h
        try simp only [hb2, hx3, hb4, Nat.reduceBEq, Nat.reduceMul, Nat.reduceAdd, Nat.reduceDiv, Int.reduceBEq, rules2, rowsX]
        refine ih _ _ h _ ?_
        try simp only [hb2, hx3, hb4, Nat.reduceBEq, Nat.reduceMul, Nat.reduceAdd, Nat.reduceDiv, Int.reduceBEq, rules2, rowsX, List.map_nil]
    · rw [ite_f hb2] at h
      try simp only [hσ, hb2, c_spec_PointNamed_1, c_spec_PointNamed_n1, Nat.reduceBEq, Nat.reduceMul, Nat.reduceAdd, Nat.reduceDiv, Int.reduceBEq, rules2, rowsX]
      cases h
      exact ⟨⟨rfl, trivial⟩, rfl⟩
theorem e_spec_PointNamed : entry Try.prog 47 = some (c_spec_PointNamed.strip, [4], 21) := by kernel_rfl
theorem w_spec_PointNamed (a0 : XChart) (a1 : List UInt8) (r : Int) (h : f_spec_PointNamed a0 a1 = some r) : FC Try.prog 47 [.ag (XChart.row a0), .sc (.str a1)] [.sc (.v (.int .i64 r))] := by
  unfold f_spec_PointNamed at h
  refine FC_go (σ := ⟨[(0, va [aL (List.map XPoint.row a0.Points), aL (List.map XSegment.row a0.Segments)]), (1, vc (aS a1))], [], []⟩) mixed e_spec_PointNamed rfl rfl ?_
  simp only [c_spec_PointNamed]
  try simp only [Nat.reduceBEq, Nat.reduceMul, Nat.reduceAdd, Nat.reduceDiv, Int.reduceBEq, rules2, rowsX]
  refine go_bx rfl rfl rfl ?_
  try simp only [Nat.reduceBEq, Nat.reduceMul, Nat.reduceAdd, Nat.reduceDiv, Int.reduceBEq, rules2, rowsX]
  refine w_spec_PointNamed_1 _ _ _ _ _ h _ ?_
  try simp only [Nat.reduceBEq, Nat.reduceMul, Nat.reduceAdd, Nat.reduceDiv, Int.reduceBEq, rules2, rowsX, List.map_nil]
/- 48: spec_l05Joins -/
def c_spec_l05Joins : ACode := (.seq (.reg [(none, .box 3 (S 0)), (none, .mv 6 (KB false))]) (.seq (.reg [(none, .faddr 7 (S 3) 0), (none, .load 8 (S 7) false 1), (none, .mv 9 (S 1)), (none, .bin 10 .eql (S 8) (S 9)), (none, .mv 11 (S 10)), (some (11, true), .faddr 12 (S 3) 1), (some (11, true), .load 13 (S 12) false 1), (some (11, true), .mv 14 (S 2)), (some (11, true), .bin 15 .eql (S 13) (S 14)), (none, .pick 16 (S 11) (S 15) (KB false)), (none, .mv 17 (S 16)), (some (17, false), .faddr 18 (S 3) 0), (some (17, false), .load 19 (S 18) false 1), (some (17, false), .mv 20 (S 2)), (some (17, false), .bin 21 .eql (S 19) (S 20)), (some (17, false), .mv 22 (S 21)), (some (22, true), .faddr 23 (S 3) 1), (some (22, true), .load 24 (S 23) false 1), (some (22, true), .mv 25 (S 1)), (some (22, true), .bin 26 .eql (S 24) (S 25)), (some (17, false), .pick 27 (S 22) (S 26) (KB false)), (none, .pick 28 (S 17) (KB true) (S 27)), (none, .mv 6 (S 28))]) .ret))
theorem e_spec_l05Joins : entry Try.prog 48 = some (c_spec_l05Joins.strip, [6], 29) := by kernel_rfl
theorem w_spec_l05Joins (a0 : XSegment) (a1 : Int) (a2 : Int) (r : Bool) (h : f_spec_l05Joins a0 a1 a2 = some r) : FC Try.prog 48 [.ag (XSegment.row a0), .sc (.int .i64 a1), .sc (.int .i64 a2)] [.sc (.v (.bool r))] := by
  unfold f_spec_l05Joins at h
  refine FC_go (σ := ⟨[(0, va [aI a0.A, aI a0.B, aI a0.Depth, aI a0.Minutes, aB a0.Meet]), (1, vc (aI a1)), (2, vc (aI a2))], [], []⟩) mixed e_spec_l05Joins rfl rfl ?_
  simp only [c_spec_l05Joins]
  try simp only [Nat.reduceBEq, Nat.reduceMul, Nat.reduceAdd, Nat.reduceDiv, Int.reduceBEq, rules2, rowsX]
  refine go_bx rfl rfl rfl ?_
  rcases Bool.eq_false_or_eq_true (a0.A == a1) with hb1 | hb1
  · rw [ite_t hb1] at h
    rcases Bool.eq_false_or_eq_true (a0.B == a2) with hb2 | hb2
    · rw [ite_t hb2] at h
      try simp only [hb1, hb2, Nat.reduceBEq, Nat.reduceMul, Nat.reduceAdd, Nat.reduceDiv, Int.reduceBEq, rules2, rowsX]
      cases h
      exact ⟨⟨rfl, trivial⟩, rfl⟩
    · rw [ite_f hb2] at h
      rcases Bool.eq_false_or_eq_true (a0.A == a2) with hb3 | hb3
      · rw [ite_t hb3] at h
        try simp only [hb1, hb2, hb3, Nat.reduceBEq, Nat.reduceMul, Nat.reduceAdd, Nat.reduceDiv, Int.reduceBEq, rules2, rowsX]
        cases h
        exact ⟨⟨rfl, trivial⟩, rfl⟩
      · rw [ite_f hb3] at h
        try simp only [hb1, hb2, hb3, Nat.reduceBEq, Nat.reduceMul, Nat.reduceAdd, Nat.reduceDiv, Int.reduceBEq, rules2, rowsX]
        cases h
        exact ⟨⟨rfl, trivial⟩, rfl⟩
  · rw [ite_f hb1] at h
    rcases Bool.eq_false_or_eq_true (a0.A == a2) with hb4 | hb4
    · rw [ite_t hb4] at h
      try simp only [hb1, hb4, Nat.reduceBEq, Nat.reduceMul, Nat.reduceAdd, Nat.reduceDiv, Int.reduceBEq, rules2, rowsX]
      cases h
      exact ⟨⟨rfl, trivial⟩, rfl⟩
    · rw [ite_f hb4] at h
      try simp only [hb1, hb4, Nat.reduceBEq, Nat.reduceMul, Nat.reduceAdd, Nat.reduceDiv, Int.reduceBEq, rules2, rowsX]
      cases h
      exact ⟨⟨rfl, trivial⟩, rfl⟩
/- 22: spec_ChartOk -/
def c_spec_ChartOk_1 : ACode := .seq (.reg [(none, .keep [1, 20, 21, 22] [1] [])]) (.seq (.reg [(none, .bin 23 .lss (S 22) (S 21))]) (.seq (.cond (S 23) .skip (.exit 0)) (.seq (.block 1 (.seq (.reg [(none, .mv 24 (S 22)), (none, .iaddr 25 (S 20) (S 22) 2), (none, .load 26 (S 25) true 2), (none, .alloc 4 [aS [], aB false]), (none, .mv 3 (S 24)), (none, .store (S 4) (S 26) 2)]) (.seq (.reg [(none, .faddr 27 (S 4) 0), (none, .load 28 (S 27) false 1), (none, .call 29 46 [(S 28)]), (none, .un 30 .not (S 29)), (none, .mv 31 (S 30)), (some (31, false), .load 32 (S 1) true 2), (some (31, false), .faddr 33 (S 4) 0), (some (31, false), .load 34 (S 33) false 1), (some (31, false), .call 35 47 [(S 32), (S 34)]), (some (31, false), .mv 36 (S 3)), (some (31, false), .bin 37 .neq (S 35) (S 36)), (none, .pick 38 (S 31) (KB true) (S 37))]) (.cond (S 38) (.seq (.reg [(none, .mv 2 (KB false))]) .ret) .skip)))) (.reg [(none, .bin 39 .add (S 22) (K 1)), (none, .mv 22 (S 39))]))))
def c_spec_ChartOk_3 : ACode := .seq (.reg [(none, .keep [1, 6, 41, 42, 43, 88, 89, 90] [1, 6] [])]) (.seq (.reg [(none, .bin 91 .lss (S 90) (S 89))]) (.seq (.cond (S 91) .skip (.exit 4)) (.seq (.block 5 (.seq (.reg [(none, .iaddr 92 (S 88) (S 90) 5), (none, .load 93 (S 92) true 5), (none, .alloc 8 [aI 0, aI 0, aI 0, aI 0, aB false]), (none, .store (S 8) (S 93) 5)]) (.seq (.reg [(none, .load 94 (S 8) true 5), (none, .faddr 95 (S 6) 0), (none, .load 96 (S 95) false 1), (none, .faddr 97 (S 6) 1), (none, .load 98 (S 97) false 1), (none, .call 99 48 [(S 94), (S 96), (S 98)])]) (.cond (S 99) (.seq (.reg [(none, .mv 2 (KB false))]) .ret) .skip)))) (.reg [(none, .bin 100 .add (S 90) (K 1)), (none, .mv 90 (S 100))]))))
def c_spec_ChartOk_n3 : ACode := (.reg [(none, .bin 101 .add (S 43) (K 1)), (none, .mv 43 (S 101))])
def c_spec_ChartOk_2 : ACode := .seq (.reg [(none, .keep [1, 41, 42, 43] [1] [])]) (.seq (.reg [(none, .bin 44 .lss (S 43) (S 42))]) (.seq (.cond (S 44) .skip (.exit 2)) (.seq (.block 3 (.seq (.reg [(none, .mv 45 (S 43)), (none, .iaddr 46 (S 41) (S 43) 5), (none, .load 47 (S 46) true 5), (none, .alloc 6 [aI 0, aI 0, aI 0, aI 0, aB false]), (none, .mv 5 (S 45)), (none, .store (S 6) (S 47) 5)]) (.seq (.seq (.reg [(none, .faddr 48 (S 6) 0), (none, .load 49 (S 48) false 1), (none, .faddr 50 (S 1) 0), (none, .load 51 (S 50) false 1), (none, .len 52 (S 51)), (none, .bin 53 .sub (S 52) (K 1)), (none, .call 54 23 [(S 49), (K 0), (S 53)]), (none, .un 55 .not (S 54)), (none, .mv 56 (S 55)), (some (56, false), .faddr 57 (S 6) 1), (some (56, false), .load 58 (S 57) false 1), (some (56, false), .faddr 59 (S 1) 0), (some (56, false), .load 60 (S 59) false 1), (some (56, false), .len 61 (S 60)), (some (56, false), .bin 62 .sub (S 61) (K 1)), (some (56, false), .call 63 23 [(S 58), (K 0), (S 62)]), (some (56, false), .un 64 .not (S 63)), (none, .pick 65 (S 56) (KB true) (S 64)), (none, .mv 66 (S 65)), (some (66, false), .faddr 67 (S 6) 0), (some (66, false), .load 68 (S 67) false 1), (some (66, false), .faddr 69 (S 6) 1), (some (66, false), .load 70 (S 69) false 1), (some (66, false), .bin 71 .eql (S 68) (S 70)), (none, .pick 72 (S 66) (KB true) (S 71)), (none, .mv 73 (S 72)), (some (73, false), .faddr 74 (S 6) 2), (some (73, false), .load 75 (S 74) false 1), (some (73, false), .call 76 23 [(S 75), (K 0), (K 3000)]), (some (73, false), .un 77 .not (S 76)), (none, .pick 78 (S 73) (KB true) (S 77)), (none, .mv 79 (S 78)), (some (79, false), .faddr 80 (S 6) 3), (some (79, false), .load 81 (S 80) false 1), (some (79, false), .call 82 23 [(S 81), (K 1), (K 240)]), (some (79, false), .un 83 .not (S 82)), (none, .pick 84 (S 79) (KB true) (S 83))]) (.cond (S 84) (.seq (.reg [(none, .mv 2 (KB false))]) .ret) .skip)) (.seq (.reg [(none, .faddr 85 (S 1) 1), (none, .load 86 (S 85) false 1), (none, .mv 87 (S 5)), (none, .slc 88 5 (S 86) none (some (S 87)) none), (none, .len 89 (S 88)), (none, .mv 90 (K 0))]) (.block 4 (.loop c_spec_ChartOk_3)))))) c_spec_ChartOk_n3)))
def c_spec_ChartOk_n2 : ACode := (.seq (.reg [(none, .mv 2 (KB true))]) .ret)
def c_spec_ChartOk_n1 : ACode := (.seq (.seq (.reg [(none, .faddr 40 (S 1) 1), (none, .load 41 (S 40) false 1), (none, .len 42 (S 41)), (none, .mv 43 (K 0))]) (.block 2 (.loop c_spec_ChartOk_2))) c_spec_ChartOk_n2)
def c_spec_ChartOk : ACode := (.seq (.reg [(none, .box 1 (S 0)), (none, .mv 2 (KB false))]) (.seq (.seq (.reg [(none, .faddr 9 (S 1) 0), (none, .load 10 (S 9) false 1), (none, .len 11 (S 10)), (none, .bin 12 .gtr (S 11) (K 8)), (none, .mv 13 (S 12)), (some (13, false), .faddr 14 (S 1) 1), (some (13, false), .load 15 (S 14) false 1), (some (13, false), .len 16 (S 15)), (some (13, false), .bin 17 .gtr (S 16) (K 10)), (none, .pick 18 (S 13) (KB true) (S 17))]) (.cond (S 18) (.seq (.reg [(none, .mv 2 (KB false))]) .ret) .skip)) (.seq (.seq (.reg [(none, .faddr 19 (S 1) 0), (none, .load 20 (S 19) false 1), (none, .len 21 (S 20)), (none, .mv 22 (K 0))]) (.block 0 (.loop c_spec_ChartOk_1))) c_spec_ChartOk_n1)))
theorem w_spec_ChartOk_3 (a0 : XChart) (v10 : Int) (x12 : XSegment) (y23 : List XSegment) (y24 : Int) (k_spec_ChartOk_2 : Int → Option Bool) (hk_spec_ChartOk_2 : ∀ (v10 : Int) zr, k_spec_ChartOk_2 v10 = some zr → ∀ σ : St, σ.kept [1, 41, 42, 43] [1] [] = ⟨[(1, vc (.pb 1 0)), (41, vc (aL (List.map XSegment.row a0.Segments))), (42, vc (aI (a0.Segments.length : Int))), (43, vc (aI v10))], [(1, [aL (List.map XPoint.row a0.Points), aL (List.map XSegment.row a0.Segments)])], []⟩ → go Try.prog (.code (.loop c_spec_ChartOk_2) :: [.blk 2, .code c_spec_ChartOk_n2]) (Ret [2] [.sc (.v (.bool zr))]) .normal (some σ)) : ∀ (n : Nat) (v25 : Int) (r : Bool), f_spec_ChartOk_3 a0 v10 x12 y23 y24 k_spec_ChartOk_2 n v25 = some r → ∀ σ : St, σ.kept [1, 6, 41, 42, 43, 88, 89, 90] [1, 6] [] = ⟨[(1, vc (.pb 1 0)), (6, vc (.pb 6 0)), (41, vc (aL (List.map XSegment.row a0.Segments))), (42, vc (aI (a0.Segments.length : Int))), (43, vc (aI v10)), (88, vc (aL (List.map XSegment.row y23))), (89, vc (aI y24)), (90, vc (aI v25))], [(1, [aL (List.map XPoint.row a0.Points), aL (List.map XSegment.row a0.Segments)]), (6, [aI x12.A, aI x12.B, aI x12.Depth, aI x12.Minutes, aB x12.Meet])], []⟩ → go Try.prog (.code (.loop c_spec_ChartOk_3) :: [.blk 4, .blk 3, .code c_spec_ChartOk_n3, .code (.loop c_spec_ChartOk_2), .blk 2, .code c_spec_ChartOk_n2]) (Ret [2] [.sc (.v (.bool r))]) .normal (some σ) := by
  intro n
  induction n with
  | zero => intro _ r h; cases h
  | succ n ih =>
    intro v25 r h σ hσ
    rw [f_spec_ChartOk_3] at h
    refine go_round ?_
    rcases Bool.eq_false_or_eq_true (decide (v25 < y24)) with hb26 | hb26
    · rw [ite_t hb26] at h
      obtain ⟨x27, hx27, h⟩ := ob h
      try simp only [hσ, hb26, hx27, c_spec_ChartOk_3, Nat.reduceBEq, Nat.reduceMul, Nat.reduceAdd, Nat.reduceDiv, Int.reduceBEq, rules2, rowsX]
      refine go_al rfl rfl ?_
      obtain ⟨r28, hr28, h⟩ := ob h
      try simp only [hb26, hx27, Nat.reduceBEq, Nat.reduceMul, Nat.reduceAdd, Nat.reduceDiv, Int.reduceBEq, rules2, rowsX]
      refine go_callI (w_spec_l05Joins _ _ _ _ hr28) rfl rfl (Nat.le_of_ble_eq_true rfl) ?_
      rcases Bool.eq_false_or_eq_true r28 with hb29 | hb29
      · rw [ite_t hb29] at h
        try simp only [hb26, hx27, hb29, Nat.reduceBEq, Nat.reduceMul, Nat.reduceAdd, Nat.reduceDiv, Int.reduceBEq, rules2, rowsX]
        cases h
        exact ⟨⟨rfl, trivial⟩, rfl⟩
      · rw [ite_f hb29] at h
        try simp only [hb26, hx27, hb29, Nat.reduceBEq, Nat.reduceMul, Nat.reduceAdd, Nat.reduceDiv, Int.reduceBEq, rules2, rowsX]
        refine ih _ _ h _ ?_
        try simp only [hb26, hx27, hb29, Nat.reduceBEq, Nat.reduceMul, Nat.reduceAdd, Nat.reduceDiv, Int.reduceBEq, rules2, rowsX, List.map_nil]
    · rw [ite_f hb26] at h
      try simp only [hσ, hb26, c_spec_ChartOk_3, c_spec_ChartOk_n3, Nat.reduceBEq, Nat.reduceMul, Nat.reduceAdd, Nat.reduceDiv, Int.reduceBEq, rules2, rowsX]
      refine hk_spec_ChartOk_2 _ _ h _ ?_
      try simp only [hb26, Nat.reduceBEq, Nat.reduceMul, Nat.reduceAdd, Nat.reduceDiv, Int.reduceBEq, rules2, rowsX, List.map_nil]
theorem w_spec_ChartOk_2 (a0 : XChart) : ∀ (n : Nat) (v10 : Int) (r : Bool), f_spec_ChartOk_2 a0 n v10 = some r → ∀ σ : St, σ.kept [1, 41, 42, 43] [1] [] = ⟨[(1, vc (.pb 1 0)), (41, vc (aL (List.map XSegment.row a0.Segments))), (42, vc (aI (a0.Segments.length : Int))), (43, vc (aI v10))], [(1, [aL (List.map XPoint.row a0.Points), aL (List.map XSegment.row a0.Segments)])], []⟩ → go Try.prog (.code (.loop c_spec_ChartOk_2) :: [.blk 2, .code c_spec_ChartOk_n2]) (Ret [2] [.sc (.v (.bool r))]) .normal (some σ) := by
  intro n
  induction n with
  | zero => intro _ r h; cases h
  | succ n ih =>
    intro v10 r h σ hσ
    rw [f_spec_ChartOk_2] at h
    refine go_round ?_
    rcases Bool.eq_false_or_eq_true (decide (v10 < (a0.Segments.length : Int))) with hb11 | hb11
    · rw [ite_t hb11] at h
      obtain ⟨x12, hx12, h⟩ := ob h
      try simp only [hσ, hb11, hx12, c_spec_ChartOk_2, Nat.reduceBEq, Nat.reduceMul, Nat.reduceAdd, Nat.reduceDiv, Int.reduceBEq, rules2, rowsX]
      refine go_al rfl rfl ?_
      obtain ⟨r13, hr13, h⟩ := ob h
      try simp only [hb11, hx12, Nat.reduceBEq, Nat.reduceMul, Nat.reduceAdd, Nat.reduceDiv, Int.reduceBEq, rules2, rowsX]
      refine go_callI (w_spec_l01In _ _ _ _ hr13) rfl rfl (Nat.le_of_ble_eq_true rfl) ?_
      rcases Bool.eq_false_or_eq_true r13 with hb14 | hb14
      · rw [ite_t hb14] at h
        obtain ⟨r15, hr15, h⟩ := ob h
        try simp only [hb11, hx12, hb14, Nat.reduceBEq, Nat.reduceMul, Nat.reduceAdd, Nat.reduceDiv, Int.reduceBEq, rules2, rowsX]
        refine go_callI (w_spec_l01In _ _ _ _ hr15) rfl rfl (Nat.le_of_ble_eq_true rfl) ?_
        rcases Bool.eq_false_or_eq_true r15 with hb16 | hb16
        · rw [ite_t hb16] at h
          rcases Bool.eq_false_or_eq_true (x12.A == x12.B) with hb17 | hb17
          · rw [ite_t hb17] at h
            try simp only [hb11, hx12, hb14, hb16, hb17, Nat.reduceBEq, Nat.reduceMul, Nat.reduceAdd, Nat.reduceDiv, Int.reduceBEq, rules2, rowsX]
            cases h
            exact ⟨⟨rfl, trivial⟩, rfl⟩
          · rw [ite_f hb17] at h
            obtain ⟨r18, hr18, h⟩ := ob h
            try simp only [hb11, hx12, hb14, hb16, hb17, Nat.reduceBEq, Nat.reduceMul, Nat.reduceAdd, Nat.reduceDiv, Int.reduceBEq, rules2, rowsX]
            refine go_callI (w_spec_l01In _ _ _ _ hr18) rfl rfl (Nat.le_of_ble_eq_true rfl) ?_
            rcases Bool.eq_false_or_eq_true r18 with hb19 | hb19
            · rw [ite_t hb19] at h
              obtain ⟨r20, hr20, h⟩ := ob h
              try simp only [hb11, hx12, hb14, hb16, hb17, hb19, Nat.reduceBEq, Nat.reduceMul, Nat.reduceAdd, Nat.reduceDiv, Int.reduceBEq, rules2, rowsX]
              refine go_callI (w_spec_l01In _ _ _ _ hr20) rfl rfl (Nat.le_of_ble_eq_true rfl) ?_
              rcases Bool.eq_false_or_eq_true r20 with hb21 | hb21
              · rw [ite_t hb21] at h
                obtain ⟨p22, hp22, h⟩ := ob h
                try simp only [hb11, hx12, hb14, hb16, hb17, hb19, hb21, hp22, Nat.reduceBEq, Nat.reduceMul, Nat.reduceAdd, Nat.reduceDiv, Int.reduceBEq, rules2, rowsX]
                refine w_spec_ChartOk_3 _ _ _ _ _ (f_spec_ChartOk_2 a0 n) ih _ _ _ h _ ?_
                try simp only [hb11, hx12, hb14, hb16, hb17, hb19, hb21, hp22, Nat.reduceBEq, Nat.reduceMul, Nat.reduceAdd, Nat.reduceDiv, Int.reduceBEq, rules2, rowsX, List.map_nil]
              · rw [ite_f hb21] at h
                try simp only [hb11, hx12, hb14, hb16, hb17, hb19, hb21, Nat.reduceBEq, Nat.reduceMul, Nat.reduceAdd, Nat.reduceDiv, Int.reduceBEq, rules2, rowsX]
                cases h
                exact ⟨⟨rfl, trivial⟩, rfl⟩
            · rw [ite_f hb19] at h
              try simp only [hb11, hx12, hb14, hb16, hb17, hb19, Nat.reduceBEq, Nat.reduceMul, Nat.reduceAdd, Nat.reduceDiv, Int.reduceBEq, rules2, rowsX]
              cases h
              exact ⟨⟨rfl, trivial⟩, rfl⟩
        · rw [ite_f hb16] at h
          try simp only [hb11, hx12, hb14, hb16, Nat.reduceBEq, Nat.reduceMul, Nat.reduceAdd, Nat.reduceDiv, Int.reduceBEq, rules2, rowsX]
          cases h
          exact ⟨⟨rfl, trivial⟩, rfl⟩
      · rw [ite_f hb14] at h
        try simp only [hb11, hx12, hb14, Nat.reduceBEq, Nat.reduceMul, Nat.reduceAdd, Nat.reduceDiv, Int.reduceBEq, rules2, rowsX]
        cases h
        exact ⟨⟨rfl, trivial⟩, rfl⟩
    · rw [ite_f hb11] at h
      try simp only [hσ, hb11, c_spec_ChartOk_2, c_spec_ChartOk_n2, Nat.reduceBEq, Nat.reduceMul, Nat.reduceAdd, Nat.reduceDiv, Int.reduceBEq, rules2, rowsX]
      cases h
      exact ⟨⟨rfl, trivial⟩, rfl⟩
theorem w_spec_ChartOk_1 (a0 : XChart) : ∀ (n : Nat) (v3 : Int) (r : Bool), f_spec_ChartOk_1 a0 n v3 = some r → ∀ σ : St, σ.kept [1, 20, 21, 22] [1] [] = ⟨[(1, vc (.pb 1 0)), (20, vc (aL (List.map XPoint.row a0.Points))), (21, vc (aI (a0.Points.length : Int))), (22, vc (aI v3))], [(1, [aL (List.map XPoint.row a0.Points), aL (List.map XSegment.row a0.Segments)])], []⟩ → go Try.prog (.code (.loop c_spec_ChartOk_1) :: [.blk 0, .code c_spec_ChartOk_n1]) (Ret [2] [.sc (.v (.bool r))]) .normal (some σ) := by
  intro n
  induction n with
  | zero => intro _ r h; cases h
  | succ n ih =>
    intro v3 r h σ hσ
    rw [f_spec_ChartOk_1] at h
    refine go_round ?_
    rcases Bool.eq_false_or_eq_true (decide (v3 < (a0.Points.length : Int))) with hb4 | hb4
    · rw [ite_t hb4] at h
      obtain ⟨x5, hx5, h⟩ := ob h
      try simp only [hσ, hb4, hx5, c_spec_ChartOk_1, Nat.reduceBEq, Nat.reduceMul, Nat.reduceAdd, Nat.reduceDiv, Int.reduceBEq, rules2, rowsX]
      refine go_al rfl rfl ?_
      obtain ⟨r6, hr6, h⟩ := ob h
      try simp only [hb4, hx5, Nat.reduceBEq, Nat.reduceMul, Nat.reduceAdd, Nat.reduceDiv, Int.reduceBEq, rules2, rowsX]
      refine go_callI (w_spec_IsName _ _ hr6) rfl rfl (Nat.le_of_ble_eq_true rfl) ?_
      rcases Bool.eq_false_or_eq_true r6 with hb7 | hb7
      · rw [ite_t hb7] at h
        obtain ⟨r8, hr8, h⟩ := ob h
        try simp only [hb4, hx5, hb7, Nat.reduceBEq, Nat.reduceMul, Nat.reduceAdd, Nat.reduceDiv, Int.reduceBEq, rules2, rowsX]
        refine go_callI (w_spec_PointNamed _ _ _ hr8) rfl rfl (Nat.le_of_ble_eq_true rfl) ?_
        rcases Bool.eq_false_or_eq_true (r8 != v3) with hb9 | hb9
        · rw [ite_t hb9] at h
          try simp only [hb4, hx5, hb7, hb9, Nat.reduceBEq, Nat.reduceMul, Nat.reduceAdd, Nat.reduceDiv, Int.reduceBEq, rules2, rowsX]
          cases h
          exact ⟨⟨rfl, trivial⟩, rfl⟩
        · rw [ite_f hb9] at h
          try simp only [hb4, hx5, hb7, hb9, Nat.reduceBEq, Nat.reduceMul, Nat.reduceAdd, Nat.reduceDiv, Int.reduceBEq, rules2, rowsX]
          refine ih _ _ h _ ?_
          try simp only [hb4, hx5, hb7, hb9, Nat.reduceBEq, Nat.reduceMul, Nat.reduceAdd, Nat.reduceDiv, Int.reduceBEq, rules2, rowsX, List.map_nil]
      · rw [ite_f hb7] at h
        try simp only [hb4, hx5, hb7, Nat.reduceBEq, Nat.reduceMul, Nat.reduceAdd, Nat.reduceDiv, Int.reduceBEq, rules2, rowsX]
        cases h
        exact ⟨⟨rfl, trivial⟩, rfl⟩
    · rw [ite_f hb4] at h
      try simp only [hσ, hb4, c_spec_ChartOk_1, c_spec_ChartOk_n1, Nat.reduceBEq, Nat.reduceMul, Nat.reduceAdd, Nat.reduceDiv, Int.reduceBEq, rules2, rowsX]
      refine w_spec_ChartOk_2 _ _ _ _ h _ ?_
      try simp only [hb4, Nat.reduceBEq, Nat.reduceMul, Nat.reduceAdd, Nat.reduceDiv, Int.reduceBEq, rules2, rowsX, List.map_nil]
theorem e_spec_ChartOk : entry Try.prog 22 = some (c_spec_ChartOk.strip, [2], 102) := by kernel_rfl
theorem w_spec_ChartOk (a0 : XChart) (r : Bool) (h : f_spec_ChartOk a0 = some r) : FC Try.prog 22 [.ag (XChart.row a0)] [.sc (.v (.bool r))] := by
  unfold f_spec_ChartOk at h
  refine FC_go (σ := ⟨[(0, va [aL (List.map XPoint.row a0.Points), aL (List.map XSegment.row a0.Segments)])], [], []⟩) mixed e_spec_ChartOk rfl rfl ?_
  simp only [c_spec_ChartOk]
  try simp only [Nat.reduceBEq, Nat.reduceMul, Nat.reduceAdd, Nat.reduceDiv, Int.reduceBEq, rules2, rowsX]
  refine go_bx rfl rfl rfl ?_
  rcases Bool.eq_false_or_eq_true (decide ((8 : Int) < (a0.Points.length : Int))) with hb1 | hb1
  · rw [ite_t hb1] at h
    try simp only [hb1, Nat.reduceBEq, Nat.reduceMul, Nat.reduceAdd, Nat.reduceDiv, Int.reduceBEq, rules2, rowsX]
    cases h
    exact ⟨⟨rfl, trivial⟩, rfl⟩
  · rw [ite_f hb1] at h
    rcases Bool.eq_false_or_eq_true (decide ((10 : Int) < (a0.Segments.length : Int))) with hb2 | hb2
    · rw [ite_t hb2] at h
      try simp only [hb1, hb2, Nat.reduceBEq, Nat.reduceMul, Nat.reduceAdd, Nat.reduceDiv, Int.reduceBEq, rules2, rowsX]
      cases h
      exact ⟨⟨rfl, trivial⟩, rfl⟩
    · rw [ite_f hb2] at h
      try simp only [hb1, hb2, Nat.reduceBEq, Nat.reduceMul, Nat.reduceAdd, Nat.reduceDiv, Int.reduceBEq, rules2, rowsX]
      refine w_spec_ChartOk_1 _ _ _ _ h _ ?_
      try simp only [hb1, hb2, Nat.reduceBEq, Nat.reduceMul, Nat.reduceAdd, Nat.reduceDiv, Int.reduceBEq, rules2, rowsX, List.map_nil]
/- 7: spec_ClosuresOk -/
def c_spec_ClosuresOk_1 : ACode := .seq (.reg [(none, .keep [2, 15, 16, 17] [2] [])]) (.seq (.reg [(none, .bin 18 .lss (S 17) (S 16))]) (.seq (.cond (S 18) .skip (.exit 0)) (.seq (.block 1 (.seq (.reg [(none, .iaddr 19 (S 15) (S 17) 3), (none, .load 20 (S 19) true 3), (none, .alloc 6 [aI 0, aI 0, aI 0]), (none, .store (S 6) (S 20) 3)]) (.seq (.reg [(none, .faddr 21 (S 6) 0), (none, .load 22 (S 21) false 1), (none, .faddr 23 (S 2) 1), (none, .load 24 (S 23) false 1), (none, .len 25 (S 24)), (none, .bin 26 .sub (S 25) (K 1)), (none, .call 27 23 [(S 22), (K 0), (S 26)]), (none, .un 28 .not (S 27)), (none, .mv 29 (S 28)), (some (29, false), .faddr 30 (S 6) 1), (some (29, false), .load 31 (S 30) false 1), (some (29, false), .call 32 23 [(S 31), (K 0), (K 2880)]), (some (29, false), .un 33 .not (S 32)), (none, .pick 34 (S 29) (KB true) (S 33)), (none, .mv 35 (S 34)), (some (35, false), .faddr 36 (S 6) 2), (some (35, false), .load 37 (S 36) false 1), (some (35, false), .faddr 38 (S 6) 1), (some (35, false), .load 39 (S 38) false 1), (some (35, false), .bin 40 .leq (S 37) (S 39)), (none, .pick 41 (S 35) (KB true) (S 40)), (none, .mv 42 (S 41)), (some (42, false), .faddr 43 (S 6) 2), (some (42, false), .load 44 (S 43) false 1), (some (42, false), .bin 45 .gtr (S 44) (K 2880)), (none, .pick 46 (S 42) (KB true) (S 45))]) (.cond (S 46) (.seq (.reg [(none, .mv 4 (KB false))]) .ret) .skip)))) (.reg [(none, .bin 47 .add (S 17) (K 1)), (none, .mv 17 (S 47))]))))
def c_spec_ClosuresOk_n1 : ACode := (.seq (.reg [(none, .mv 4 (KB true))]) .ret)
def c_spec_ClosuresOk : ACode := (.seq (.reg [(none, .box 2 (S 0)), (none, .mv 4 (KB false))]) (.seq (.seq (.reg [(none, .load 7 (S 2) true 2), (none, .call 8 22 [(S 7)]), (none, .un 9 .not (S 8)), (none, .mv 10 (S 9)), (some (10, false), .mv 11 (S 1)), (some (10, false), .len 12 (S 11)), (some (10, false), .bin 13 .gtr (S 12) (K 4)), (none, .pick 14 (S 10) (KB true) (S 13))]) (.cond (S 14) (.seq (.reg [(none, .mv 4 (KB false))]) .ret) .skip)) (.seq (.seq (.reg [(none, .mv 15 (S 1)), (none, .len 16 (S 15)), (none, .mv 17 (K 0))]) (.block 0 (.loop c_spec_ClosuresOk_1))) c_spec_ClosuresOk_n1)))
theorem w_spec_ClosuresOk_1 (a1 : List XClosure) (a0 : XChart) : ∀ (n : Nat) (v4 : Int) (r : Bool), f_spec_ClosuresOk_1 a1 a0 n v4 = some r → ∀ σ : St, σ.kept [2, 15, 16, 17] [2] [] = ⟨[(2, vc (.pb 2 0)), (15, vc (aL (List.map XClosure.row a1))), (16, vc (aI (a1.length : Int))), (17, vc (aI v4))], [(2, [aL (List.map XPoint.row a0.Points), aL (List.map XSegment.row a0.Segments)])], []⟩ → go Try.prog (.code (.loop c_spec_ClosuresOk_1) :: [.blk 0, .code c_spec_ClosuresOk_n1]) (Ret [4] [.sc (.v (.bool r))]) .normal (some σ) := by
  intro n
  induction n with
  | zero => intro _ r h; cases h
  | succ n ih =>
    intro v4 r h σ hσ
    rw [f_spec_ClosuresOk_1] at h
    refine go_round ?_
    rcases Bool.eq_false_or_eq_true (decide (v4 < (a1.length : Int))) with hb5 | hb5
    · rw [ite_t hb5] at h
      obtain ⟨x6, hx6, h⟩ := ob h
      try simp only [hσ, hb5, hx6, c_spec_ClosuresOk_1, Nat.reduceBEq, Nat.reduceMul, Nat.reduceAdd, Nat.reduceDiv, Int.reduceBEq, rules2, rowsX]
      refine go_al rfl rfl ?_
      obtain ⟨r7, hr7, h⟩ := ob h
      try simp only [hb5, hx6, Nat.reduceBEq, Nat.reduceMul, Nat.reduceAdd, Nat.reduceDiv, Int.reduceBEq, rules2, rowsX]
      refine go_callI (w_spec_l01In _ _ _ _ hr7) rfl rfl (Nat.le_of_ble_eq_true rfl) ?_
      rcases Bool.eq_false_or_eq_true r7 with hb8 | hb8
      · rw [ite_t hb8] at h
        obtain ⟨r9, hr9, h⟩ := ob h
        try simp only [hb5, hx6, hb8, Nat.reduceBEq, Nat.reduceMul, Nat.reduceAdd, Nat.reduceDiv, Int.reduceBEq, rules2, rowsX]
        refine go_callI (w_spec_l01In _ _ _ _ hr9) rfl rfl (Nat.le_of_ble_eq_true rfl) ?_
        rcases Bool.eq_false_or_eq_true r9 with hb10 | hb10
        · rw [ite_t hb10] at h
          rcases Bool.eq_false_or_eq_true (decide (x6.To ≤ x6.From)) with hb11 | hb11
          · rw [ite_t hb11] at h
            try simp only [hb5, hx6, hb8, hb10, hb11, Nat.reduceBEq, Nat.reduceMul, Nat.reduceAdd, Nat.reduceDiv, Int.reduceBEq, rules2, rowsX]
            cases h
            exact ⟨⟨rfl, trivial⟩, rfl⟩
          · rw [ite_f hb11] at h
            rcases Bool.eq_false_or_eq_true (decide ((2880 : Int) < x6.To)) with hb12 | hb12
            · rw [ite_t hb12] at h
              try simp only [hb5, hx6, hb8, hb10, hb11, hb12, Nat.reduceBEq, Nat.reduceMul, Nat.reduceAdd, Nat.reduceDiv, Int.reduceBEq, rules2, rowsX]
              cases h
              exact ⟨⟨rfl, trivial⟩, rfl⟩
            · rw [ite_f hb12] at h
              try simp only [hb5, hx6, hb8, hb10, hb11, hb12, Nat.reduceBEq, Nat.reduceMul, Nat.reduceAdd, Nat.reduceDiv, Int.reduceBEq, rules2, rowsX]
              refine ih _ _ h _ ?_
              try simp only [hb5, hx6, hb8, hb10, hb11, hb12, Nat.reduceBEq, Nat.reduceMul, Nat.reduceAdd, Nat.reduceDiv, Int.reduceBEq, rules2, rowsX, List.map_nil]
        · rw [ite_f hb10] at h
          try simp only [hb5, hx6, hb8, hb10, Nat.reduceBEq, Nat.reduceMul, Nat.reduceAdd, Nat.reduceDiv, Int.reduceBEq, rules2, rowsX]
          cases h
          exact ⟨⟨rfl, trivial⟩, rfl⟩
      · rw [ite_f hb8] at h
        try simp only [hb5, hx6, hb8, Nat.reduceBEq, Nat.reduceMul, Nat.reduceAdd, Nat.reduceDiv, Int.reduceBEq, rules2, rowsX]
        cases h
        exact ⟨⟨rfl, trivial⟩, rfl⟩
    · rw [ite_f hb5] at h
      try simp only [hσ, hb5, c_spec_ClosuresOk_1, c_spec_ClosuresOk_n1, Nat.reduceBEq, Nat.reduceMul, Nat.reduceAdd, Nat.reduceDiv, Int.reduceBEq, rules2, rowsX]
      cases h
      exact ⟨⟨rfl, trivial⟩, rfl⟩
theorem e_spec_ClosuresOk : entry Try.prog 7 = some (c_spec_ClosuresOk.strip, [4], 48) := by kernel_rfl
theorem w_spec_ClosuresOk (a0 : XChart) (a1 : List XClosure) (r : Bool) (h : f_spec_ClosuresOk a0 a1 = some r) : FC Try.prog 7 [.ag (XChart.row a0), .sc (.sl (List.map XClosure.row a1))] [.sc (.v (.bool r))] := by
  unfold f_spec_ClosuresOk at h
  refine FC_go (σ := ⟨[(0, va [aL (List.map XPoint.row a0.Points), aL (List.map XSegment.row a0.Segments)]), (1, vc (aL (List.map XClosure.row a1)))], [], []⟩) mixed e_spec_ClosuresOk rfl rfl ?_
  simp only [c_spec_ClosuresOk]
  try simp only [Nat.reduceBEq, Nat.reduceMul, Nat.reduceAdd, Nat.reduceDiv, Int.reduceBEq, rules2, rowsX]
  refine go_bx rfl rfl rfl ?_
  obtain ⟨r1, hr1, h⟩ := ob h
  try simp only [Nat.reduceBEq, Nat.reduceMul, Nat.reduceAdd, Nat.reduceDiv, Int.reduceBEq, rules2, rowsX]
  refine go_callI (w_spec_ChartOk _ _ hr1) rfl rfl (Nat.le_of_ble_eq_true rfl) ?_
  rcases Bool.eq_false_or_eq_true r1 with hb2 | hb2
  · rw [ite_t hb2] at h
    rcases Bool.eq_false_or_eq_true (decide ((4 : Int) < (a1.length : Int))) with hb3 | hb3
    · rw [ite_t hb3] at h
      try simp only [hb2, hb3, Nat.reduceBEq, Nat.reduceMul, Nat.reduceAdd, Nat.reduceDiv, Int.reduceBEq, rules2, rowsX]
      cases h
      exact ⟨⟨rfl, trivial⟩, rfl⟩
    · rw [ite_f hb3] at h
      try simp only [hb2, hb3, Nat.reduceBEq, Nat.reduceMul, Nat.reduceAdd, Nat.reduceDiv, Int.reduceBEq, rules2, rowsX]
      refine w_spec_ClosuresOk_1 _ _ _ _ _ h _ ?_
      try simp only [hb2, hb3, Nat.reduceBEq, Nat.reduceMul, Nat.reduceAdd, Nat.reduceDiv, Int.reduceBEq, rules2, rowsX, List.map_nil]
  · rw [ite_f hb2] at h
    try simp only [hb2, Nat.reduceBEq, Nat.reduceMul, Nat.reduceAdd, Nat.reduceDiv, Int.reduceBEq, rules2, rowsX]
    cases h
    exact ⟨⟨rfl, trivial⟩, rfl⟩
/- 53: impl_within -/
def c_impl_within : ACode := (.seq (.reg [(none, .mv 6 (KB false))]) (.seq (.reg [(none, .mv 7 (S 1)), (none, .mv 8 (S 0)), (none, .bin 9 .leq (S 7) (S 8)), (none, .mv 10 (S 9)), (some (10, true), .mv 11 (S 0)), (some (10, true), .mv 12 (S 2)), (some (10, true), .bin 13 .leq (S 11) (S 12)), (none, .pick 14 (S 10) (S 13) (KB false)), (none, .mv 6 (S 14))]) .ret))
theorem e_impl_within : entry Try.prog 53 = some (c_impl_within.strip, [6], 15) := by kernel_rfl
theorem w_impl_within (a0 : Int) (a1 : Int) (a2 : Int) (r : Bool) (h : f_impl_within a0 a1 a2 = some r) : FC Try.prog 53 [.sc (.int .i64 a0), .sc (.int .i64 a1), .sc (.int .i64 a2)] [.sc (.v (.bool r))] := by
  unfold f_impl_within at h
  refine FC_go (σ := ⟨[(0, vc (aI a0)), (1, vc (aI a1)), (2, vc (aI a2))], [], []⟩) mixed e_impl_within rfl rfl ?_
  simp only [c_impl_within]
  rcases Bool.eq_false_or_eq_true (decide (a1 ≤ a0)) with hb1 | hb1
  · rw [ite_t hb1] at h
    try simp only [hb1, Nat.reduceBEq, Nat.reduceMul, Nat.reduceAdd, Nat.reduceDiv, Int.reduceBEq, rules2, rowsX]
    cases h
    exact ⟨⟨rfl, trivial⟩, rfl⟩
  · rw [ite_f hb1] at h
    try simp only [hb1, Nat.reduceBEq, Nat.reduceMul, Nat.reduceAdd, Nat.reduceDiv, Int.reduceBEq, rules2, rowsX]
    cases h
    exact ⟨⟨rfl, trivial⟩, rfl⟩
/- 51: impl_IsName -/
def c_impl_IsName_2 : ACode := .seq (.reg [(none, .keep [0, 3, 4] [] [])]) (.seq (.reg [(none, .mv 25 (S 4)), (none, .un 26 .not (S 25)), (none, .mv 27 (S 26)), (some (27, true), .mv 28 (S 3)), (some (27, true), .bin 29 .eql (S 28) (K 0)), (some (27, true), .mv 30 (S 29)), (some (30, false), .mv 31 (S 0)), (some (30, false), .mv 32 (S 3)), (some (30, false), .idx 33 (S 31) (S 32)), (some (30, false), .bin 34 .lss (S 33) (K8 48)), (some (27, true), .pick 35 (S 30) (KB true) (S 34)), (some (27, true), .mv 36 (S 35)), (some (36, false), .mv 37 (S 0)), (some (36, false), .mv 38 (S 3)), (some (36, false), .idx 39 (S 37) (S 38)), (some (36, false), .bin 40 .gtr (S 39) (K8 57)), (some (27, true), .pick 41 (S 36) (KB true) (S 40)), (none, .pick 42 (S 27) (S 41) (KB false))]) (.cond (S 42) (.seq (.reg [(none, .mv 2 (KB false))]) .ret) .skip))
def c_impl_IsName_3 : ACode := .seq (.reg [(none, .keep [0, 3] [] [])]) (.reg [(none, .mv 13 (S 3)), (none, .bin 14 .add (S 13) (K 1)), (none, .mv 3 (S 14))])
def c_impl_IsName_1 : ACode := .seq (.reg [(none, .keep [0, 3] [] [])]) (.seq (.seq (.reg [(none, .mv 9 (S 3)), (none, .mv 10 (S 0)), (none, .slen 11 (S 10)), (none, .bin 12 .lss (S 9) (S 11))]) (.cond (S 12) .skip (.exit 0))) (.seq (.block 1 (.seq (.reg [(none, .mv 15 (S 0)), (none, .mv 16 (S 3)), (none, .idx 17 (S 15) (S 16)), (none, .bin 18 .geq (S 17) (K8 97)), (none, .mv 19 (S 18)), (some (19, true), .mv 20 (S 0)), (some (19, true), .mv 21 (S 3)), (some (19, true), .idx 22 (S 20) (S 21)), (some (19, true), .bin 23 .leq (S 22) (K8 122)), (none, .pick 24 (S 19) (S 23) (KB false)), (none, .mv 4 (S 24))]) c_impl_IsName_2)) c_impl_IsName_3))
def c_impl_IsName_n1 : ACode := (.seq (.reg [(none, .mv 2 (KB true))]) .ret)
def c_impl_IsName : ACode := (.seq (.reg [(none, .mv 2 (KB false))]) (.seq (.seq (.reg [(none, .mv 5 (S 0)), (none, .slen 6 (S 5)), (none, .call 7 53 [(S 6), (K 1), (K 8)]), (none, .un 8 .not (S 7))]) (.cond (S 8) (.seq (.reg [(none, .mv 2 (KB false))]) .ret) .skip)) (.seq (.seq (.reg [(none, .mv 3 (K 0))]) (.block 0 (.loop c_impl_IsName_1))) c_impl_IsName_n1)))
theorem w_impl_IsName_3 (a0 : List UInt8) (v3 : Int) (k_impl_IsName_1 : Int → Option Bool) (hk_impl_IsName_1 : ∀ (v3 : Int) zr, k_impl_IsName_1 v3 = some zr → ∀ σ : St, σ.kept [0, 3] [] [] = ⟨[(0, vc (aS a0)), (3, vc (aI v3))], [], []⟩ → go Try.prog (.code (.loop c_impl_IsName_1) :: [.blk 0, .code c_impl_IsName_n1]) (Ret [2] [.sc (.v (.bool zr))]) .normal (some σ)) (r : Bool) (h : f_impl_IsName_3 a0 v3 k_impl_IsName_1 = some r) (σ : St) (hσ : σ.kept [0, 3] [] [] = ⟨[(0, vc (aS a0)), (3, vc (aI v3))], [], []⟩) : go Try.prog (.code c_impl_IsName_3 :: [.code (.loop c_impl_IsName_1), .blk 0, .code c_impl_IsName_n1]) (Ret [2] [.sc (.v (.bool r))]) .normal (some σ) := by
  unfold f_impl_IsName_3 at h
  try simp only [hσ, c_impl_IsName_3, Nat.reduceBEq, Nat.reduceMul, Nat.reduceAdd, Nat.reduceDiv, Int.reduceBEq, rules2, rowsX]
  refine hk_impl_IsName_1 _ _ h _ ?_
  try simp only [Nat.reduceBEq, Nat.reduceMul, Nat.reduceAdd, Nat.reduceDiv, Int.reduceBEq, rules2, rowsX, List.map_nil]
theorem w_impl_IsName_2 (a0 : List UInt8) (v3 : Int) (k_impl_IsName_1 : Int → Option Bool) (hk_impl_IsName_1 : ∀ (v3 : Int) zr, k_impl_IsName_1 v3 = some zr → ∀ σ : St, σ.kept [0, 3] [] [] = ⟨[(0, vc (aS a0)), (3, vc (aI v3))], [], []⟩ → go Try.prog (.code (.loop c_impl_IsName_1) :: [.blk 0, .code c_impl_IsName_n1]) (Ret [2] [.sc (.v (.bool zr))]) .normal (some σ)) (v7 : Bool) (r : Bool) (h : f_impl_IsName_2 a0 v3 k_impl_IsName_1 v7 = some r) (σ : St) (hσ : σ.kept [0, 3, 4] [] [] = ⟨[(0, vc (aS a0)), (3, vc (aI v3)), (4, vc (aB v7))], [], []⟩) : go Try.prog (.code c_impl_IsName_2 :: [.blk 1, .code c_impl_IsName_3, .code (.loop c_impl_IsName_1), .blk 0, .code c_impl_IsName_n1]) (Ret [2] [.sc (.v (.bool r))]) .normal (some σ) := by
  unfold f_impl_IsName_2 at h
  rcases Bool.eq_false_or_eq_true v7 with hb8 | hb8
  · rw [ite_t hb8] at h
    try simp only [hσ, hb8, c_impl_IsName_2, Nat.reduceBEq, Nat.reduceMul, Nat.reduceAdd, Nat.reduceDiv, Int.reduceBEq, rules2, rowsX]
    refine w_impl_IsName_3 _ _ k_impl_IsName_1 hk_impl_IsName_1 _ h _ ?_
    try simp only [hb8, Nat.reduceBEq, Nat.reduceMul, Nat.reduceAdd, Nat.reduceDiv, Int.reduceBEq, rules2, rowsX, List.map_nil]
  · rw [ite_f hb8] at h
    rcases Bool.eq_false_or_eq_true (v3 == (0 : Int)) with hb9 | hb9
    · rw [ite_t hb9] at h
      try simp only [hσ, hb8, hb9, c_impl_IsName_2, Nat.reduceBEq, Nat.reduceMul, Nat.reduceAdd, Nat.reduceDiv, Int.reduceBEq, rules2, rowsX]
      cases h
      exact ⟨⟨rfl, trivial⟩, rfl⟩
    · rw [ite_f hb9] at h
      obtain ⟨b10, hb10, h⟩ := ob h
      rcases Bool.eq_false_or_eq_true (decide ((b10.toNat : Int) < (48 : Int))) with hb11 | hb11
      · rw [ite_t hb11] at h
        try simp only [hσ, hb8, hb9, hb10, hb11, c_impl_IsName_2, Nat.reduceBEq, Nat.reduceMul, Nat.reduceAdd, Nat.reduceDiv, Int.reduceBEq, rules2, rowsX]
        cases h
        exact ⟨⟨rfl, trivial⟩, rfl⟩
      · rw [ite_f hb11] at h
        rcases Bool.eq_false_or_eq_true (decide ((57 : Int) < (b10.toNat : Int))) with hb12 | hb12
        · rw [ite_t hb12] at h
          try simp only [hσ, hb8, hb9, hb10, hb11, hb12, c_impl_IsName_2, Nat.reduceBEq, Nat.reduceMul, Nat.reduceAdd, Nat.reduceDiv, Int.reduceBEq, rules2, rowsX]
          cases h
          exact ⟨⟨rfl, trivial⟩, rfl⟩
        · rw [ite_f hb12] at h
          try simp only [hσ, hb8, hb9, hb10, hb11, hb12, c_impl_IsName_2, Nat.reduceBEq, Nat.reduceMul, Nat.reduceAdd, Nat.reduceDiv, Int.reduceBEq, rules2, rowsX]
          refine w_impl_IsName_3 _ _ k_impl_IsName_1 hk_impl_IsName_1 _ h _ ?_
          try simp only [hb8, hb9, hb10, hb11, hb12, Nat.reduceBEq, Nat.reduceMul, Nat.reduceAdd, Nat.reduceDiv, Int.reduceBEq, rules2, rowsX, List.map_nil]
theorem w_impl_IsName_1 (a0 : List UInt8) : ∀ (n : Nat) (v3 : Int) (r : Bool), f_impl_IsName_1 a0 n v3 = some r → ∀ σ : St, σ.kept [0, 3] [] [] = ⟨[(0, vc (aS a0)), (3, vc (aI v3))], [], []⟩ → go Try.prog (.code (.loop c_impl_IsName_1) :: [.blk 0, .code c_impl_IsName_n1]) (Ret [2] [.sc (.v (.bool r))]) .normal (some σ) := by
  intro n
  induction n with
  | zero => intro _ r h; cases h
  | succ n ih =>
    intro v3 r h σ hσ
    rw [f_impl_IsName_1] at h
    refine go_round ?_
    rcases Bool.eq_false_or_eq_true (decide (v3 < (a0.length : Int))) with hb4 | hb4
    · rw [ite_t hb4] at h
      obtain ⟨b5, hb5, h⟩ := ob h
      rcases Bool.eq_false_or_eq_true (decide ((97 : Int) ≤ (b5.toNat : Int))) with hb6 | hb6
      · rw [ite_t hb6] at h
        try simp only [hσ, hb4, hb5, hb6, c_impl_IsName_1, Nat.reduceBEq, Nat.reduceMul, Nat.reduceAdd, Nat.reduceDiv, Int.reduceBEq, rules2, rowsX]
        refine w_impl_IsName_2 _ _ (f_impl_IsName_1 a0 n) ih _ _ h _ ?_
        try simp only [hb4, hb5, hb6, Nat.reduceBEq, Nat.reduceMul, Nat.reduceAdd, Nat.reduceDiv, Int.reduceBEq, rules2, rowsX, List.map_nil]
      · rw [ite_f hb6] at h
        try simp only [hσ, hb4, hb5, hb6, c_impl_IsName_1, Nat.reduceBEq, Nat.reduceMul, Nat.reduceAdd, Nat.reduceDiv, Int.reduceBEq, rules2, rowsX]
        refine w_impl_IsName_2 _ _ (f_impl_IsName_1 a0 n) ih _ _ h _ ?_
        try simp only [hb4, hb5, hb6, Nat.reduceBEq, Nat.reduceMul, Nat.reduceAdd, Nat.reduceDiv, Int.reduceBEq, rules2, rowsX, List.map_nil]
    · rw [ite_f hb4] at h
      try simp only [hσ, hb4, c_impl_IsName_1, c_impl_IsName_n1, Nat.reduceBEq, Nat.reduceMul, Nat.reduceAdd, Nat.reduceDiv, Int.reduceBEq, rules2, rowsX]
      cases h
      exact ⟨⟨rfl, trivial⟩, rfl⟩
theorem e_impl_IsName : entry Try.prog 51 = some (c_impl_IsName.strip, [2], 43) := by kernel_rfl
theorem w_impl_IsName (a0 : List UInt8) (r : Bool) (h : f_impl_IsName a0 = some r) : FC Try.prog 51 [.sc (.str a0)] [.sc (.v (.bool r))] := by
  unfold f_impl_IsName at h
  refine FC_go (σ := ⟨[(0, vc (aS a0))], [], []⟩) mixed e_impl_IsName rfl rfl ?_
  simp only [c_impl_IsName]
  obtain ⟨r1, hr1, h⟩ := ob h
  try simp only [Nat.reduceBEq, Nat.reduceMul, Nat.reduceAdd, Nat.reduceDiv, Int.reduceBEq, rules2, rowsX]
  refine go_callI (w_impl_within _ _ _ _ hr1) rfl rfl (Nat.le_of_ble_eq_true rfl) ?_
  rcases Bool.eq_false_or_eq_true r1 with hb2 | hb2
  · rw [ite_t hb2] at h
    try simp only [hb2, Nat.reduceBEq, Nat.reduceMul, Nat.reduceAdd, Nat.reduceDiv, Int.reduceBEq, rules2, rowsX]
    refine w_impl_IsName_1 _ _ _ _ h _ ?_
    try simp only [hb2, Nat.reduceBEq, Nat.reduceMul, Nat.reduceAdd, Nat.reduceDiv, Int.reduceBEq, rules2, rowsX, List.map_nil]
  · rw [ite_f hb2] at h
    try simp only [hb2, Nat.reduceBEq, Nat.reduceMul, Nat.reduceAdd, Nat.reduceDiv, Int.reduceBEq, rules2, rowsX]
    cases h
    exact ⟨⟨rfl, trivial⟩, rfl⟩
/- 52: impl_PointNamed -/
def c_impl_PointNamed_1 : ACode := .seq (.reg [(none, .keep [1, 8, 9, 10] [] [])]) (.seq (.reg [(none, .bin 11 .lss (S 10) (S 9))]) (.seq (.cond (S 11) .skip (.exit 0)) (.seq (.block 1 (.seq (.reg [(none, .mv 12 (S 10)), (none, .iaddr 13 (S 8) (S 10) 2), (none, .load 14 (S 13) true 2), (none, .alloc 6 [aS [], aB false]), (none, .mv 5 (S 12)), (none, .store (S 6) (S 14) 2)]) (.seq (.reg [(none, .faddr 15 (S 6) 0), (none, .load 16 (S 15) false 1), (none, .mv 17 (S 1)), (none, .bin 18 .eql (S 16) (S 17))]) (.cond (S 18) (.seq (.reg [(none, .mv 19 (S 5)), (none, .mv 4 (S 19))]) .ret) .skip)))) (.reg [(none, .bin 20 .add (S 10) (K 1)), (none, .mv 10 (S 20))]))))
def c_impl_PointNamed_n1 : ACode := (.seq (.reg [(none, .mv 4 (K (-1)))]) .ret)
def c_impl_PointNamed : ACode := (.seq (.reg [(none, .box 2 (S 0)), (none, .mv 4 (K 0))]) (.seq (.seq (.reg [(none, .faddr 7 (S 2) 0), (none, .load 8 (S 7) false 1), (none, .len 9 (S 8)), (none, .mv 10 (K 0))]) (.block 0 (.loop c_impl_PointNamed_1))) c_impl_PointNamed_n1))
theorem w_impl_PointNamed_1 (a1 : List UInt8) (a0 : XChart) : ∀ (n : Nat) (v1 : Int) (r : Int), f_impl_PointNamed_1 a1 a0 n v1 = some r → ∀ σ : St, σ.kept [1, 8, 9, 10] [] [] = ⟨[(1, vc (aS a1)), (8, vc (aL (List.map XPoint.row a0.Points))), (9, vc (aI (a0.Points.length : Int))), (10, vc (aI v1))], [], []⟩ → go Try.prog (.code (.loop c_impl_PointNamed_1) :: [.blk 0, .code c_impl_PointNamed_n1]) (Ret [4] [.sc (.v (.int .i64 r))]) .normal (some σ) := by
  intro n
  induction n with
  | zero => intro _ r h; cases h
  | succ n ih =>
    intro v1 r h σ hσ
    rw [f_impl_PointNamed_1] at h
    refine go_round ?_
    rcases Bool.eq_false_or_eq_true (decide (v1 < (a0.Points.length : Int))) with hb2 | hb2
    · rw [ite_t hb2] at h
      obtain ⟨x3, hx3, h⟩ := ob h
      try simp only [hσ, hb2, hx3, c_impl_PointNamed_1, Nat.reduceBEq, Nat.reduceMul, Nat.reduceAdd, Nat.reduceDiv, Int.reduceBEq, rules2, rowsX]
      refine go_al rfl rfl ?_
      rcases Bool.eq_false_or_eq_true (x3.Name == a1) with hb4 | hb4
      · rw [ite_t hb4] at h
        try simp only [hb2, hx3, hb4, Nat.reduceBEq, Nat.reduceMul, Nat.reduceAdd, Nat.reduceDiv, Int.reduceBEq, rules2, rowsX]
        cases h
        exact ⟨⟨rfl, trivial⟩, rfl⟩
      · rw [ite_f hb4] at h
        try simp only [hb2, hx3, hb4, Nat.reduceBEq, Nat.reduceMul, Nat.reduceAdd, Nat.reduceDiv, Int.reduceBEq, rules2, rowsX]
        refine ih _ _ h _ ?_
        try simp only [hb2, hx3, hb4, Nat.reduceBEq, Nat.reduceMul, Nat.reduceAdd, Nat.reduceDiv, Int.reduceBEq, rules2, rowsX, List.map_nil]
    · rw [ite_f hb2] at h
      try simp only [hσ, hb2, c_impl_PointNamed_1, c_impl_PointNamed_n1, Nat.reduceBEq, Nat.reduceMul, Nat.reduceAdd, Nat.reduceDiv, Int.reduceBEq, rules2, rowsX]
      cases h
      exact ⟨⟨rfl, trivial⟩, rfl⟩
theorem e_impl_PointNamed : entry Try.prog 52 = some (c_impl_PointNamed.strip, [4], 21) := by kernel_rfl
theorem w_impl_PointNamed (a0 : XChart) (a1 : List UInt8) (r : Int) (h : f_impl_PointNamed a0 a1 = some r) : FC Try.prog 52 [.ag (XChart.row a0), .sc (.str a1)] [.sc (.v (.int .i64 r))] := by
  unfold f_impl_PointNamed at h
  refine FC_go (σ := ⟨[(0, va [aL (List.map XPoint.row a0.Points), aL (List.map XSegment.row a0.Segments)]), (1, vc (aS a1))], [], []⟩) mixed e_impl_PointNamed rfl rfl ?_
  simp only [c_impl_PointNamed]
  try simp only [Nat.reduceBEq, Nat.reduceMul, Nat.reduceAdd, Nat.reduceDiv, Int.reduceBEq, rules2, rowsX]
  refine go_bx rfl rfl rfl ?_
  try simp only [Nat.reduceBEq, Nat.reduceMul, Nat.reduceAdd, Nat.reduceDiv, Int.reduceBEq, rules2, rowsX]
  refine w_impl_PointNamed_1 _ _ _ _ _ h _ ?_
  try simp only [Nat.reduceBEq, Nat.reduceMul, Nat.reduceAdd, Nat.reduceDiv, Int.reduceBEq, rules2, rowsX, List.map_nil]
/- 28: impl_isIndex -/
def c_impl_isIndex : ACode := (.seq (.reg [(none, .mv 4 (KB false))]) (.seq (.reg [(none, .mv 5 (S 0)), (none, .bin 6 .geq (S 5) (K 0)), (none, .mv 7 (S 6)), (some (7, true), .mv 8 (S 0)), (some (7, true), .mv 9 (S 1)), (some (7, true), .bin 10 .lss (S 8) (S 9)), (none, .pick 11 (S 7) (S 10) (KB false)), (none, .mv 4 (S 11))]) .ret))
theorem e_impl_isIndex : entry Try.prog 28 = some (c_impl_isIndex.strip, [4], 12) := by kernel_rfl
theorem w_impl_isIndex (a0 : Int) (a1 : Int) (r : Bool) (h : f_impl_isIndex a0 a1 = some r) : FC Try.prog 28 [.sc (.int .i64 a0), .sc (.int .i64 a1)] [.sc (.v (.bool r))] := by
  unfold f_impl_isIndex at h
  refine FC_go (σ := ⟨[(0, vc (aI a0)), (1, vc (aI a1))], [], []⟩) mixed e_impl_isIndex rfl rfl ?_
  simp only [c_impl_isIndex]
  rcases Bool.eq_false_or_eq_true (decide ((0 : Int) ≤ a0)) with hb1 | hb1
  · rw [ite_t hb1] at h
    try simp only [hb1, Nat.reduceBEq, Nat.reduceMul, Nat.reduceAdd, Nat.reduceDiv, Int.reduceBEq, rules2, rowsX]
    cases h
    exact ⟨⟨rfl, trivial⟩, rfl⟩
  · rw [ite_f hb1] at h
    try simp only [hb1, Nat.reduceBEq, Nat.reduceMul, Nat.reduceAdd, Nat.reduceDiv, Int.reduceBEq, rules2, rowsX]
    cases h
    exact ⟨⟨rfl, trivial⟩, rfl⟩
/- 54: impl_Segment_joins -/
def c_impl_Segment_joins : ACode := (.seq (.reg [(none, .box 3 (S 0)), (none, .mv 6 (KB false))]) (.seq (.reg [(none, .faddr 7 (S 3) 0), (none, .load 8 (S 7) false 1), (none, .mv 9 (S 1)), (none, .bin 10 .eql (S 8) (S 9)), (none, .mv 11 (S 10)), (some (11, true), .faddr 12 (S 3) 1), (some (11, true), .load 13 (S 12) false 1), (some (11, true), .mv 14 (S 2)), (some (11, true), .bin 15 .eql (S 13) (S 14)), (none, .pick 16 (S 11) (S 15) (KB false)), (none, .mv 17 (S 16)), (some (17, false), .faddr 18 (S 3) 0), (some (17, false), .load 19 (S 18) false 1), (some (17, false), .mv 20 (S 2)), (some (17, false), .bin 21 .eql (S 19) (S 20)), (some (17, false), .mv 22 (S 21)), (some (22, true), .faddr 23 (S 3) 1), (some (22, true), .load 24 (S 23) false 1), (some (22, true), .mv 25 (S 1)), (some (22, true), .bin 26 .eql (S 24) (S 25)), (some (17, false), .pick 27 (S 22) (S 26) (KB false)), (none, .pick 28 (S 17) (KB true) (S 27)), (none, .mv 6 (S 28))]) .ret))
theorem e_impl_Segment_joins : entry Try.prog 54 = some (c_impl_Segment_joins.strip, [6], 29) := by kernel_rfl
theorem w_impl_Segment_joins (a0 : XSegment) (a1 : Int) (a2 : Int) (r : Bool) (h : f_impl_Segment_joins a0 a1 a2 = some r) : FC Try.prog 54 [.ag (XSegment.row a0), .sc (.int .i64 a1), .sc (.int .i64 a2)] [.sc (.v (.bool r))] := by
  unfold f_impl_Segment_joins at h
  refine FC_go (σ := ⟨[(0, va [aI a0.A, aI a0.B, aI a0.Depth, aI a0.Minutes, aB a0.Meet]), (1, vc (aI a1)), (2, vc (aI a2))], [], []⟩) mixed e_impl_Segment_joins rfl rfl ?_
  simp only [c_impl_Segment_joins]
  try simp only [Nat.reduceBEq, Nat.reduceMul, Nat.reduceAdd, Nat.reduceDiv, Int.reduceBEq, rules2, rowsX]
  refine go_bx rfl rfl rfl ?_
  rcases Bool.eq_false_or_eq_true (a0.A == a1) with hb1 | hb1
  · rw [ite_t hb1] at h
    rcases Bool.eq_false_or_eq_true (a0.B == a2) with hb2 | hb2
    · rw [ite_t hb2] at h
      try simp only [hb1, hb2, Nat.reduceBEq, Nat.reduceMul, Nat.reduceAdd, Nat.reduceDiv, Int.reduceBEq, rules2, rowsX]
      cases h
      exact ⟨⟨rfl, trivial⟩, rfl⟩
    · rw [ite_f hb2] at h
      rcases Bool.eq_false_or_eq_true (a0.A == a2) with hb3 | hb3
      · rw [ite_t hb3] at h
        try simp only [hb1, hb2, hb3, Nat.reduceBEq, Nat.reduceMul, Nat.reduceAdd, Nat.reduceDiv, Int.reduceBEq, rules2, rowsX]
        cases h
        exact ⟨⟨rfl, trivial⟩, rfl⟩
      · rw [ite_f hb3] at h
        try simp only [hb1, hb2, hb3, Nat.reduceBEq, Nat.reduceMul, Nat.reduceAdd, Nat.reduceDiv, Int.reduceBEq, rules2, rowsX]
        cases h
        exact ⟨⟨rfl, trivial⟩, rfl⟩
  · rw [ite_f hb1] at h
    rcases Bool.eq_false_or_eq_true (a0.A == a2) with hb4 | hb4
    · rw [ite_t hb4] at h
      try simp only [hb1, hb4, Nat.reduceBEq, Nat.reduceMul, Nat.reduceAdd, Nat.reduceDiv, Int.reduceBEq, rules2, rowsX]
      cases h
      exact ⟨⟨rfl, trivial⟩, rfl⟩
    · rw [ite_f hb4] at h
      try simp only [hb1, hb4, Nat.reduceBEq, Nat.reduceMul, Nat.reduceAdd, Nat.reduceDiv, Int.reduceBEq, rules2, rowsX]
      cases h
      exact ⟨⟨rfl, trivial⟩, rfl⟩
/- 27: impl_ChartOk -/
def c_impl_ChartOk_1 : ACode := .seq (.reg [(none, .keep [1, 20, 21, 22] [1] [])]) (.seq (.reg [(none, .bin 23 .lss (S 22) (S 21))]) (.seq (.cond (S 23) .skip (.exit 0)) (.seq (.block 1 (.seq (.reg [(none, .mv 24 (S 22)), (none, .iaddr 25 (S 20) (S 22) 2), (none, .load 26 (S 25) true 2), (none, .alloc 4 [aS [], aB false]), (none, .mv 3 (S 24)), (none, .store (S 4) (S 26) 2)]) (.seq (.reg [(none, .faddr 27 (S 4) 0), (none, .load 28 (S 27) false 1), (none, .call 29 51 [(S 28)]), (none, .un 30 .not (S 29)), (none, .mv 31 (S 30)), (some (31, false), .load 32 (S 1) true 2), (some (31, false), .faddr 33 (S 4) 0), (some (31, false), .load 34 (S 33) false 1), (some (31, false), .call 35 52 [(S 32), (S 34)]), (some (31, false), .mv 36 (S 3)), (some (31, false), .bin 37 .neq (S 35) (S 36)), (none, .pick 38 (S 31) (KB true) (S 37))]) (.cond (S 38) (.seq (.reg [(none, .mv 2 (KB false))]) .ret) .skip)))) (.reg [(none, .bin 39 .add (S 22) (K 1)), (none, .mv 22 (S 39))]))))
def c_impl_ChartOk_3 : ACode := .seq (.reg [(none, .keep [1, 6, 41, 42, 43, 86, 87, 88] [1, 6] [])]) (.seq (.reg [(none, .bin 89 .lss (S 88) (S 87))]) (.seq (.cond (S 89) .skip (.exit 4)) (.seq (.block 5 (.seq (.reg [(none, .iaddr 90 (S 86) (S 88) 5), (none, .load 91 (S 90) true 5), (none, .alloc 8 [aI 0, aI 0, aI 0, aI 0, aB false]), (none, .store (S 8) (S 91) 5)]) (.seq (.reg [(none, .load 92 (S 8) true 5), (none, .faddr 93 (S 6) 0), (none, .load 94 (S 93) false 1), (none, .faddr 95 (S 6) 1), (none, .load 96 (S 95) false 1), (none, .call 97 54 [(S 92), (S 94), (S 96)])]) (.cond (S 97) (.seq (.reg [(none, .mv 2 (KB false))]) .ret) .skip)))) (.reg [(none, .bin 98 .add (S 88) (K 1)), (none, .mv 88 (S 98))]))))
def c_impl_ChartOk_n3 : ACode := (.reg [(none, .bin 99 .add (S 43) (K 1)), (none, .mv 43 (S 99))])
def c_impl_ChartOk_2 : ACode := .seq (.reg [(none, .keep [1, 41, 42, 43] [1] [])]) (.seq (.reg [(none, .bin 44 .lss (S 43) (S 42))]) (.seq (.cond (S 44) .skip (.exit 2)) (.seq (.block 3 (.seq (.reg [(none, .mv 45 (S 43)), (none, .iaddr 46 (S 41) (S 43) 5), (none, .load 47 (S 46) true 5), (none, .alloc 6 [aI 0, aI 0, aI 0, aI 0, aB false]), (none, .mv 5 (S 45)), (none, .store (S 6) (S 47) 5)]) (.seq (.seq (.reg [(none, .faddr 48 (S 6) 0), (none, .load 49 (S 48) false 1), (none, .faddr 50 (S 1) 0), (none, .load 51 (S 50) false 1), (none, .len 52 (S 51)), (none, .call 53 28 [(S 49), (S 52)]), (none, .un 54 .not (S 53)), (none, .mv 55 (S 54)), (some (55, false), .faddr 56 (S 6) 1), (some (55, false), .load 57 (S 56) false 1), (some (55, false), .faddr 58 (S 1) 0), (some (55, false), .load 59 (S 58) false 1), (some (55, false), .len 60 (S 59)), (some (55, false), .call 61 28 [(S 57), (S 60)]), (some (55, false), .un 62 .not (S 61)), (none, .pick 63 (S 55) (KB true) (S 62)), (none, .mv 64 (S 63)), (some (64, false), .faddr 65 (S 6) 0), (some (64, false), .load 66 (S 65) false 1), (some (64, false), .faddr 67 (S 6) 1), (some (64, false), .load 68 (S 67) false 1), (some (64, false), .bin 69 .eql (S 66) (S 68)), (none, .pick 70 (S 64) (KB true) (S 69)), (none, .mv 71 (S 70)), (some (71, false), .faddr 72 (S 6) 2), (some (71, false), .load 73 (S 72) false 1), (some (71, false), .call 74 53 [(S 73), (K 0), (K 3000)]), (some (71, false), .un 75 .not (S 74)), (none, .pick 76 (S 71) (KB true) (S 75)), (none, .mv 77 (S 76)), (some (77, false), .faddr 78 (S 6) 3), (some (77, false), .load 79 (S 78) false 1), (some (77, false), .call 80 53 [(S 79), (K 1), (K 240)]), (some (77, false), .un 81 .not (S 80)), (none, .pick 82 (S 77) (KB true) (S 81))]) (.cond (S 82) (.seq (.reg [(none, .mv 2 (KB false))]) .ret) .skip)) (.seq (.reg [(none, .faddr 83 (S 1) 1), (none, .load 84 (S 83) false 1), (none, .mv 85 (S 5)), (none, .slc 86 5 (S 84) none (some (S 85)) none), (none, .len 87 (S 86)), (none, .mv 88 (K 0))]) (.block 4 (.loop c_impl_ChartOk_3)))))) c_impl_ChartOk_n3)))
def c_impl_ChartOk_n2 : ACode := (.seq (.reg [(none, .mv 2 (KB true))]) .ret)
def c_impl_ChartOk_n1 : ACode := (.seq (.seq (.reg [(none, .faddr 40 (S 1) 1), (none, .load 41 (S 40) false 1), (none, .len 42 (S 41)), (none, .mv 43 (K 0))]) (.block 2 (.loop c_impl_ChartOk_2))) c_impl_ChartOk_n2)
def c_impl_ChartOk : ACode := (.seq (.reg [(none, .box 1 (S 0)), (none, .mv 2 (KB false))]) (.seq (.seq (.reg [(none, .faddr 9 (S 1) 0), (none, .load 10 (S 9) false 1), (none, .len 11 (S 10)), (none, .bin 12 .gtr (S 11) (K 8)), (none, .mv 13 (S 12)), (some (13, false), .faddr 14 (S 1) 1), (some (13, false), .load 15 (S 14) false 1), (some (13, false), .len 16 (S 15)), (some (13, false), .bin 17 .gtr (S 16) (K 10)), (none, .pick 18 (S 13) (KB true) (S 17))]) (.cond (S 18) (.seq (.reg [(none, .mv 2 (KB false))]) .ret) .skip)) (.seq (.seq (.reg [(none, .faddr 19 (S 1) 0), (none, .load 20 (S 19) false 1), (none, .len 21 (S 20)), (none, .mv 22 (K 0))]) (.block 0 (.loop c_impl_ChartOk_1))) c_impl_ChartOk_n1)))
theorem w_impl_ChartOk_3 (a0 : XChart) (v10 : Int) (x12 : XSegment) (y23 : List XSegment) (y24 : Int) (k_impl_ChartOk_2 : Int → Option Bool) (hk_impl_ChartOk_2 : ∀ (v10 : Int) zr, k_impl_ChartOk_2 v10 = some zr → ∀ σ : St, σ.kept [1, 41, 42, 43] [1] [] = ⟨[(1, vc (.pb 1 0)), (41, vc (aL (List.map XSegment.row a0.Segments))), (42, vc (aI (a0.Segments.length : Int))), (43, vc (aI v10))], [(1, [aL (List.map XPoint.row a0.Points), aL (List.map XSegment.row a0.Segments)])], []⟩ → go Try.prog (.code (.loop c_impl_ChartOk_2) :: [.blk 2, .code c_impl_ChartOk_n2]) (Ret [2] [.sc (.v (.bool zr))]) .normal (some σ)) : ∀ (n : Nat) (v25 : Int) (r : Bool), f_impl_ChartOk_3 a0 v10 x12 y23 y24 k_impl_ChartOk_2 n v25 = some r → ∀ σ : St, σ.kept [1, 6, 41, 42, 43, 86, 87, 88] [1, 6] [] = ⟨[(1, vc (.pb 1 0)), (6, vc (.pb 6 0)), (41, vc (aL (List.map XSegment.row a0.Segments))), (42, vc (aI (a0.Segments.length : Int))), (43, vc (aI v10)), (86, vc (aL (List.map XSegment.row y23))), (87, vc (aI y24)), (88, vc (aI v25))], [(1, [aL (List.map XPoint.row a0.Points), aL (List.map XSegment.row a0.Segments)]), (6, [aI x12.A, aI x12.B, aI x12.Depth, aI x12.Minutes, aB x12.Meet])], []⟩ → go Try.prog (.code (.loop c_impl_ChartOk_3) :: [.blk 4, .blk 3, .code c_impl_ChartOk_n3, .code (.loop c_impl_ChartOk_2), .blk 2, .code c_impl_ChartOk_n2]) (Ret [2] [.sc (.v (.bool r))]) .normal (some σ) := by
  intro n
  induction n with
  | zero => intro _ r h; cases h
  | succ n ih =>
    intro v25 r h σ hσ
    rw [f_impl_ChartOk_3] at h
    refine go_round ?_
    rcases Bool.eq_false_or_eq_true (decide (v25 < y24)) with hb26 | hb26
    · rw [ite_t hb26] at h
      obtain ⟨x27, hx27, h⟩ := ob h
      try simp only [hσ, hb26, hx27, c_impl_ChartOk_3, Nat.reduceBEq, Nat.reduceMul, Nat.reduceAdd, Nat.reduceDiv, Int.reduceBEq, rules2, rowsX]
      refine go_al rfl rfl ?_
      obtain ⟨r28, hr28, h⟩ := ob h
      try simp only [hb26, hx27, Nat.reduceBEq, Nat.reduceMul, Nat.reduceAdd, Nat.reduceDiv, Int.reduceBEq, rules2, rowsX]
      refine go_callI (w_impl_Segment_joins _ _ _ _ hr28) rfl rfl (Nat.le_of_ble_eq_true rfl) ?_
      rcases Bool.eq_false_or_eq_true r28 with hb29 | hb29
      · rw [ite_t hb29] at h
        try simp only [hb26, hx27, hb29, Nat.reduceBEq, Nat.reduceMul, Nat.reduceAdd, Nat.reduceDiv, Int.reduceBEq, rules2, rowsX]
        cases h
        exact ⟨⟨rfl, trivial⟩, rfl⟩
      · rw [ite_f hb29] at h
        try simp only [hb26, hx27, hb29, Nat.reduceBEq, Nat.reduceMul, Nat.reduceAdd, Nat.reduceDiv, Int.reduceBEq, rules2, rowsX]
        refine ih _ _ h _ ?_
        try simp only [hb26, hx27, hb29, Nat.reduceBEq, Nat.reduceMul, Nat.reduceAdd, Nat.reduceDiv, Int.reduceBEq, rules2, rowsX, List.map_nil]
    · rw [ite_f hb26] at h
      try simp only [hσ, hb26, c_impl_ChartOk_3, c_impl_ChartOk_n3, Nat.reduceBEq, Nat.reduceMul, Nat.reduceAdd, Nat.reduceDiv, Int.reduceBEq, rules2, rowsX]
      refine hk_impl_ChartOk_2 _ _ h _ ?_
      try simp only [hb26, Nat.reduceBEq, Nat.reduceMul, Nat.reduceAdd, Nat.reduceDiv, Int.reduceBEq, rules2, rowsX, List.map_nil]
theorem w_impl_ChartOk_2 (a0 : XChart) : ∀ (n : Nat) (v10 : Int) (r : Bool), f_impl_ChartOk_2 a0 n v10 = some r → ∀ σ : St, σ.kept [1, 41, 42, 43] [1] [] = ⟨[(1, vc (.pb 1 0)), (41, vc (aL (List.map XSegment.row a0.Segments))), (42, vc (aI (a0.Segments.length : Int))), (43, vc (aI v10))], [(1, [aL (List.map XPoint.row a0.Points), aL (List.map XSegment.row a0.Segments)])], []⟩ → go Try.prog (.code (.loop c_impl_ChartOk_2) :: [.blk 2, .code c_impl_ChartOk_n2]) (Ret [2] [.sc (.v (.bool r))]) .normal (some σ) := by
  intro n
  induction n with
  | zero => intro _ r h; cases h
  | succ n ih =>
    intro v10 r h σ hσ
    rw [f_impl_ChartOk_2] at h
    refine go_round ?_
    rcases Bool.eq_false_or_eq_true (decide (v10 < (a0.Segments.length : Int))) with hb11 | hb11
    · rw [ite_t hb11] at h
      obtain ⟨x12, hx12, h⟩ := ob h
      try simp only [hσ, hb11, hx12, c_impl_ChartOk_2, Nat.reduceBEq, Nat.reduceMul, Nat.reduceAdd, Nat.reduceDiv, Int.reduceBEq, rules2, rowsX]
      refine go_al rfl rfl ?_
      obtain ⟨r13, hr13, h⟩ := ob h
      try simp only [hb11, hx12, Nat.reduceBEq, Nat.reduceMul, Nat.reduceAdd, Nat.reduceDiv, Int.reduceBEq, rules2, rowsX]
      refine go_callI (w_impl_isIndex _ _ _ hr13) rfl rfl (Nat.le_of_ble_eq_true rfl) ?_
      rcases Bool.eq_false_or_eq_true r13 with hb14 | hb14
      · rw [ite_t hb14] at h
        obtain ⟨r15, hr15, h⟩ := ob h
        try simp only [hb11, hx12, hb14, Nat.reduceBEq, Nat.reduceMul, Nat.reduceAdd, Nat.reduceDiv, Int.reduceBEq, rules2, rowsX]
        refine go_callI (w_impl_isIndex _ _ _ hr15) rfl rfl (Nat.le_of_ble_eq_true rfl) ?_
        rcases Bool.eq_false_or_eq_true r15 with hb16 | hb16
        · rw [ite_t hb16] at h
          rcases Bool.eq_false_or_eq_true (x12.A == x12.B) with hb17 | hb17
          · rw [ite_t hb17] at h
            try simp only [hb11, hx12, hb14, hb16, hb17, Nat.reduceBEq, Nat.reduceMul, Nat.reduceAdd, Nat.reduceDiv, Int.reduceBEq, rules2, rowsX]
            cases h
            exact ⟨⟨rfl, trivial⟩, rfl⟩
          · rw [ite_f hb17] at h
            obtain ⟨r18, hr18, h⟩ := ob h
            try simp only [hb11, hx12, hb14, hb16, hb17, Nat.reduceBEq, Nat.reduceMul, Nat.reduceAdd, Nat.reduceDiv, Int.reduceBEq, rules2, rowsX]
            refine go_callI (w_impl_within _ _ _ _ hr18) rfl rfl (Nat.le_of_ble_eq_true rfl) ?_
            rcases Bool.eq_false_or_eq_true r18 with hb19 | hb19
            · rw [ite_t hb19] at h
              obtain ⟨r20, hr20, h⟩ := ob h
              try simp only [hb11, hx12, hb14, hb16, hb17, hb19, Nat.reduceBEq, Nat.reduceMul, Nat.reduceAdd, Nat.reduceDiv, Int.reduceBEq, rules2, rowsX]
              refine go_callI (w_impl_within _ _ _ _ hr20) rfl rfl (Nat.le_of_ble_eq_true rfl) ?_
              rcases Bool.eq_false_or_eq_true r20 with hb21 | hb21
              · rw [ite_t hb21] at h
                obtain ⟨p22, hp22, h⟩ := ob h
                try simp only [hb11, hx12, hb14, hb16, hb17, hb19, hb21, hp22, Nat.reduceBEq, Nat.reduceMul, Nat.reduceAdd, Nat.reduceDiv, Int.reduceBEq, rules2, rowsX]
                refine w_impl_ChartOk_3 _ _ _ _ _ (f_impl_ChartOk_2 a0 n) ih _ _ _ h _ ?_
                try simp only [hb11, hx12, hb14, hb16, hb17, hb19, hb21, hp22, Nat.reduceBEq, Nat.reduceMul, Nat.reduceAdd, Nat.reduceDiv, Int.reduceBEq, rules2, rowsX, List.map_nil]
              · rw [ite_f hb21] at h
                try simp only [hb11, hx12, hb14, hb16, hb17, hb19, hb21, Nat.reduceBEq, Nat.reduceMul, Nat.reduceAdd, Nat.reduceDiv, Int.reduceBEq, rules2, rowsX]
                cases h
                exact ⟨⟨rfl, trivial⟩, rfl⟩
            · rw [ite_f hb19] at h
              try simp only [hb11, hx12, hb14, hb16, hb17, hb19, Nat.reduceBEq, Nat.reduceMul, Nat.reduceAdd, Nat.reduceDiv, Int.reduceBEq, rules2, rowsX]
              cases h
              exact ⟨⟨rfl, trivial⟩, rfl⟩
        · rw [ite_f hb16] at h
          try simp only [hb11, hx12, hb14, hb16, Nat.reduceBEq, Nat.reduceMul, Nat.reduceAdd, Nat.reduceDiv, Int.reduceBEq, rules2, rowsX]
          cases h
          exact ⟨⟨rfl, trivial⟩, rfl⟩
      · rw [ite_f hb14] at h
        try simp only [hb11, hx12, hb14, Nat.reduceBEq, Nat.reduceMul, Nat.reduceAdd, Nat.reduceDiv, Int.reduceBEq, rules2, rowsX]
        cases h
        exact ⟨⟨rfl, trivial⟩, rfl⟩
    · rw [ite_f hb11] at h
      try simp only [hσ, hb11, c_impl_ChartOk_2, c_impl_ChartOk_n2, Nat.reduceBEq, Nat.reduceMul, Nat.reduceAdd, Nat.reduceDiv, Int.reduceBEq, rules2, rowsX]
      cases h
      exact ⟨⟨rfl, trivial⟩, rfl⟩
theorem w_impl_ChartOk_1 (a0 : XChart) : ∀ (n : Nat) (v3 : Int) (r : Bool), f_impl_ChartOk_1 a0 n v3 = some r → ∀ σ : St, σ.kept [1, 20, 21, 22] [1] [] = ⟨[(1, vc (.pb 1 0)), (20, vc (aL (List.map XPoint.row a0.Points))), (21, vc (aI (a0.Points.length : Int))), (22, vc (aI v3))], [(1, [aL (List.map XPoint.row a0.Points), aL (List.map XSegment.row a0.Segments)])], []⟩ → go Try.prog (.code (.loop c_impl_ChartOk_1) :: [.blk 0, .code c_impl_ChartOk_n1]) (Ret [2] [.sc (.v (.bool r))]) .normal (some σ) := by
  intro n
  induction n with
  | zero => intro _ r h; cases h
  | succ n ih =>
    intro v3 r h σ hσ
    rw [f_impl_ChartOk_1] at h
    refine go_round ?_
    rcases Bool.eq_false_or_eq_true (decide (v3 < (a0.Points.length : Int))) with hb4 | hb4
    · rw [ite_t hb4] at h
      obtain ⟨x5, hx5, h⟩ := ob h
      try simp only [hσ, hb4, hx5, c_impl_ChartOk_1, Nat.reduceBEq, Nat.reduceMul, Nat.reduceAdd, Nat.reduceDiv, Int.reduceBEq, rules2, rowsX]
      refine go_al rfl rfl ?_
      obtain ⟨r6, hr6, h⟩ := ob h
      try simp only [hb4, hx5, Nat.reduceBEq, Nat.reduceMul, Nat.reduceAdd, Nat.reduceDiv, Int.reduceBEq, rules2, rowsX]
      refine go_callI (w_impl_IsName _ _ hr6) rfl rfl (Nat.le_of_ble_eq_true rfl) ?_
      rcases Bool.eq_false_or_eq_true r6 with hb7 | hb7
      · rw [ite_t hb7] at h
        obtain ⟨r8, hr8, h⟩ := ob h
        try simp only [hb4, hx5, hb7, Nat.reduceBEq, Nat.reduceMul, Nat.reduceAdd, Nat.reduceDiv, Int.reduceBEq, rules2, rowsX]
        refine go_callI (w_impl_PointNamed _ _ _ hr8) rfl rfl (Nat.le_of_ble_eq_true rfl) ?_
        rcases Bool.eq_false_or_eq_true (r8 != v3) with hb9 | hb9
        · rw [ite_t hb9] at h
          try simp only [hb4, hx5, hb7, hb9, Nat.reduceBEq, Nat.reduceMul, Nat.reduceAdd, Nat.reduceDiv, Int.reduceBEq, rules2, rowsX]
          cases h
          exact ⟨⟨rfl, trivial⟩, rfl⟩
        · rw [ite_f hb9] at h
          try simp only [hb4, hx5, hb7, hb9, Nat.reduceBEq, Nat.reduceMul, Nat.reduceAdd, Nat.reduceDiv, Int.reduceBEq, rules2, rowsX]
          refine ih _ _ h _ ?_
          try simp only [hb4, hx5, hb7, hb9, Nat.reduceBEq, Nat.reduceMul, Nat.reduceAdd, Nat.reduceDiv, Int.reduceBEq, rules2, rowsX, List.map_nil]
      · rw [ite_f hb7] at h
        try simp only [hb4, hx5, hb7, Nat.reduceBEq, Nat.reduceMul, Nat.reduceAdd, Nat.reduceDiv, Int.reduceBEq, rules2, rowsX]
        cases h
        exact ⟨⟨rfl, trivial⟩, rfl⟩
    · rw [ite_f hb4] at h
      try simp only [hσ, hb4, c_impl_ChartOk_1, c_impl_ChartOk_n1, Nat.reduceBEq, Nat.reduceMul, Nat.reduceAdd, Nat.reduceDiv, Int.reduceBEq, rules2, rowsX]
      refine w_impl_ChartOk_2 _ _ _ _ h _ ?_
      try simp only [hb4, Nat.reduceBEq, Nat.reduceMul, Nat.reduceAdd, Nat.reduceDiv, Int.reduceBEq, rules2, rowsX, List.map_nil]
theorem e_impl_ChartOk : entry Try.prog 27 = some (c_impl_ChartOk.strip, [2], 100) := by kernel_rfl
theorem w_impl_ChartOk (a0 : XChart) (r : Bool) (h : f_impl_ChartOk a0 = some r) : FC Try.prog 27 [.ag (XChart.row a0)] [.sc (.v (.bool r))] := by
  unfold f_impl_ChartOk at h
  refine FC_go (σ := ⟨[(0, va [aL (List.map XPoint.row a0.Points), aL (List.map XSegment.row a0.Segments)])], [], []⟩) mixed e_impl_ChartOk rfl rfl ?_
  simp only [c_impl_ChartOk]
  try simp only [Nat.reduceBEq, Nat.reduceMul, Nat.reduceAdd, Nat.reduceDiv, Int.reduceBEq, rules2, rowsX]
  refine go_bx rfl rfl rfl ?_
  rcases Bool.eq_false_or_eq_true (decide ((8 : Int) < (a0.Points.length : Int))) with hb1 | hb1
  · rw [ite_t hb1] at h
    try simp only [hb1, Nat.reduceBEq, Nat.reduceMul, Nat.reduceAdd, Nat.reduceDiv, Int.reduceBEq, rules2, rowsX]
    cases h
    exact ⟨⟨rfl, trivial⟩, rfl⟩
  · rw [ite_f hb1] at h
    rcases Bool.eq_false_or_eq_true (decide ((10 : Int) < (a0.Segments.length : Int))) with hb2 | hb2
    · rw [ite_t hb2] at h
      try simp only [hb1, hb2, Nat.reduceBEq, Nat.reduceMul, Nat.reduceAdd, Nat.reduceDiv, Int.reduceBEq, rules2, rowsX]
      cases h
      exact ⟨⟨rfl, trivial⟩, rfl⟩
    · rw [ite_f hb2] at h
      try simp only [hb1, hb2, Nat.reduceBEq, Nat.reduceMul, Nat.reduceAdd, Nat.reduceDiv, Int.reduceBEq, rules2, rowsX]
      refine w_impl_ChartOk_1 _ _ _ _ h _ ?_
      try simp only [hb1, hb2, Nat.reduceBEq, Nat.reduceMul, Nat.reduceAdd, Nat.reduceDiv, Int.reduceBEq, rules2, rowsX, List.map_nil]
/- 10: impl_ClosuresOk -/
def c_impl_ClosuresOk_1 : ACode := .seq (.reg [(none, .keep [2, 15, 16, 17] [2] [])]) (.seq (.reg [(none, .bin 18 .lss (S 17) (S 16))]) (.seq (.cond (S 18) .skip (.exit 0)) (.seq (.block 1 (.seq (.reg [(none, .iaddr 19 (S 15) (S 17) 3), (none, .load 20 (S 19) true 3), (none, .alloc 6 [aI 0, aI 0, aI 0]), (none, .store (S 6) (S 20) 3)]) (.seq (.reg [(none, .faddr 21 (S 6) 0), (none, .load 22 (S 21) false 1), (none, .faddr 23 (S 2) 1), (none, .load 24 (S 23) false 1), (none, .len 25 (S 24)), (none, .call 26 28 [(S 22), (S 25)]), (none, .un 27 .not (S 26)), (none, .mv 28 (S 27)), (some (28, false), .faddr 29 (S 6) 1), (some (28, false), .load 30 (S 29) false 1), (some (28, false), .bin 31 .lss (S 30) (K 0)), (none, .pick 32 (S 28) (KB true) (S 31)), (none, .mv 33 (S 32)), (some (33, false), .faddr 34 (S 6) 1), (some (33, false), .load 35 (S 34) false 1), (some (33, false), .faddr 36 (S 6) 2), (some (33, false), .load 37 (S 36) false 1), (some (33, false), .bin 38 .geq (S 35) (S 37)), (none, .pick 39 (S 33) (KB true) (S 38)), (none, .mv 40 (S 39)), (some (40, false), .faddr 41 (S 6) 2), (some (40, false), .load 42 (S 41) false 1), (some (40, false), .bin 43 .gtr (S 42) (K 2880)), (none, .pick 44 (S 40) (KB true) (S 43))]) (.cond (S 44) (.seq (.reg [(none, .mv 4 (KB false))]) .ret) .skip)))) (.reg [(none, .bin 45 .add (S 17) (K 1)), (none, .mv 17 (S 45))]))))
def c_impl_ClosuresOk_n1 : ACode := (.seq (.reg [(none, .mv 4 (KB true))]) .ret)
def c_impl_ClosuresOk : ACode := (.seq (.reg [(none, .box 2 (S 0)), (none, .mv 4 (KB false))]) (.seq (.seq (.reg [(none, .load 7 (S 2) true 2), (none, .call 8 27 [(S 7)]), (none, .un 9 .not (S 8)), (none, .mv 10 (S 9)), (some (10, false), .mv 11 (S 1)), (some (10, false), .len 12 (S 11)), (some (10, false), .bin 13 .gtr (S 12) (K 4)), (none, .pick 14 (S 10) (KB true) (S 13))]) (.cond (S 14) (.seq (.reg [(none, .mv 4 (KB false))]) .ret) .skip)) (.seq (.seq (.reg [(none, .mv 15 (S 1)), (none, .len 16 (S 15)), (none, .mv 17 (K 0))]) (.block 0 (.loop c_impl_ClosuresOk_1))) c_impl_ClosuresOk_n1)))
theorem w_impl_ClosuresOk_1 (a1 : List XClosure) (a0 : XChart) : ∀ (n : Nat) (v4 : Int) (r : Bool), f_impl_ClosuresOk_1 a1 a0 n v4 = some r → ∀ σ : St, σ.kept [2, 15, 16, 17] [2] [] = ⟨[(2, vc (.pb 2 0)), (15, vc (aL (List.map XClosure.row a1))), (16, vc (aI (a1.length : Int))), (17, vc (aI v4))], [(2, [aL (List.map XPoint.row a0.Points), aL (List.map XSegment.row a0.Segments)])], []⟩ → go Try.prog (.code (.loop c_impl_ClosuresOk_1) :: [.blk 0, .code c_impl_ClosuresOk_n1]) (Ret [4] [.sc (.v (.bool r))]) .normal (some σ) := by
  intro n
  induction n with
  | zero => intro _ r h; cases h
  | succ n ih =>
    intro v4 r h σ hσ
    rw [f_impl_ClosuresOk_1] at h
    refine go_round ?_
    rcases Bool.eq_false_or_eq_true (decide (v4 < (a1.length : Int))) with hb5 | hb5
    · rw [ite_t hb5] at h
      obtain ⟨x6, hx6, h⟩ := ob h
      try simp only [hσ, hb5, hx6, c_impl_ClosuresOk_1, Nat.reduceBEq, Nat.reduceMul, Nat.reduceAdd, Nat.reduceDiv, Int.reduceBEq, rules2, rowsX]
      refine go_al rfl rfl ?_
      obtain ⟨r7, hr7, h⟩ := ob h
      try simp only [hb5, hx6, Nat.reduceBEq, Nat.reduceMul, Nat.reduceAdd, Nat.reduceDiv, Int.reduceBEq, rules2, rowsX]
      refine go_callI (w_impl_isIndex _ _ _ hr7) rfl rfl (Nat.le_of_ble_eq_true rfl) ?_
      rcases Bool.eq_false_or_eq_true r7 with hb8 | hb8
      · rw [ite_t hb8] at h
        rcases Bool.eq_false_or_eq_true (decide (x6.From < (0 : Int))) with hb9 | hb9
        · rw [ite_t hb9] at h
          try simp only [hb5, hx6, hb8, hb9, Nat.reduceBEq, Nat.reduceMul, Nat.reduceAdd, Nat.reduceDiv, Int.reduceBEq, rules2, rowsX]
          cases h
          exact ⟨⟨rfl, trivial⟩, rfl⟩
        · rw [ite_f hb9] at h
          rcases Bool.eq_false_or_eq_true (decide (x6.To ≤ x6.From)) with hb10 | hb10
          · rw [ite_t hb10] at h
            try simp only [hb5, hx6, hb8, hb9, hb10, Nat.reduceBEq, Nat.reduceMul, Nat.reduceAdd, Nat.reduceDiv, Int.reduceBEq, rules2, rowsX]
            cases h
            exact ⟨⟨rfl, trivial⟩, rfl⟩
          · rw [ite_f hb10] at h
            rcases Bool.eq_false_or_eq_true (decide ((2880 : Int) < x6.To)) with hb11 | hb11
            · rw [ite_t hb11] at h
              try simp only [hb5, hx6, hb8, hb9, hb10, hb11, Nat.reduceBEq, Nat.reduceMul, Nat.reduceAdd, Nat.reduceDiv, Int.reduceBEq, rules2, rowsX]
              cases h
              exact ⟨⟨rfl, trivial⟩, rfl⟩
            · rw [ite_f hb11] at h
              try simp only [hb5, hx6, hb8, hb9, hb10, hb11, Nat.reduceBEq, Nat.reduceMul, Nat.reduceAdd, Nat.reduceDiv, Int.reduceBEq, rules2, rowsX]
              refine ih _ _ h _ ?_
              try simp only [hb5, hx6, hb8, hb9, hb10, hb11, Nat.reduceBEq, Nat.reduceMul, Nat.reduceAdd, Nat.reduceDiv, Int.reduceBEq, rules2, rowsX, List.map_nil]
      · rw [ite_f hb8] at h
        try simp only [hb5, hx6, hb8, Nat.reduceBEq, Nat.reduceMul, Nat.reduceAdd, Nat.reduceDiv, Int.reduceBEq, rules2, rowsX]
        cases h
        exact ⟨⟨rfl, trivial⟩, rfl⟩
    · rw [ite_f hb5] at h
      try simp only [hσ, hb5, c_impl_ClosuresOk_1, c_impl_ClosuresOk_n1, Nat.reduceBEq, Nat.reduceMul, Nat.reduceAdd, Nat.reduceDiv, Int.reduceBEq, rules2, rowsX]
      cases h
      exact ⟨⟨rfl, trivial⟩, rfl⟩
theorem e_impl_ClosuresOk : entry Try.prog 10 = some (c_impl_ClosuresOk.strip, [4], 46) := by kernel_rfl
theorem w_impl_ClosuresOk (a0 : XChart) (a1 : List XClosure) (r : Bool) (h : f_impl_ClosuresOk a0 a1 = some r) : FC Try.prog 10 [.ag (XChart.row a0), .sc (.sl (List.map XClosure.row a1))] [.sc (.v (.bool r))] := by
  unfold f_impl_ClosuresOk at h
  refine FC_go (σ := ⟨[(0, va [aL (List.map XPoint.row a0.Points), aL (List.map XSegment.row a0.Segments)]), (1, vc (aL (List.map XClosure.row a1)))], [], []⟩) mixed e_impl_ClosuresOk rfl rfl ?_
  simp only [c_impl_ClosuresOk]
  try simp only [Nat.reduceBEq, Nat.reduceMul, Nat.reduceAdd, Nat.reduceDiv, Int.reduceBEq, rules2, rowsX]
  refine go_bx rfl rfl rfl ?_
  obtain ⟨r1, hr1, h⟩ := ob h
  try simp only [Nat.reduceBEq, Nat.reduceMul, Nat.reduceAdd, Nat.reduceDiv, Int.reduceBEq, rules2, rowsX]
  refine go_callI (w_impl_ChartOk _ _ hr1) rfl rfl (Nat.le_of_ble_eq_true rfl) ?_
  rcases Bool.eq_false_or_eq_true r1 with hb2 | hb2
  · rw [ite_t hb2] at h
    rcases Bool.eq_false_or_eq_true (decide ((4 : Int) < (a1.length : Int))) with hb3 | hb3
    · rw [ite_t hb3] at h
      try simp only [hb2, hb3, Nat.reduceBEq, Nat.reduceMul, Nat.reduceAdd, Nat.reduceDiv, Int.reduceBEq, rules2, rowsX]
      cases h
      exact ⟨⟨rfl, trivial⟩, rfl⟩
    · rw [ite_f hb3] at h
      try simp only [hb2, hb3, Nat.reduceBEq, Nat.reduceMul, Nat.reduceAdd, Nat.reduceDiv, Int.reduceBEq, rules2, rowsX]
      refine w_impl_ClosuresOk_1 _ _ _ _ _ h _ ?_
      try simp only [hb2, hb3, Nat.reduceBEq, Nat.reduceMul, Nat.reduceAdd, Nat.reduceDiv, Int.reduceBEq, rules2, rowsX, List.map_nil]
  · rw [ite_f hb2] at h
    try simp only [hb2, Nat.reduceBEq, Nat.reduceMul, Nat.reduceAdd, Nat.reduceDiv, Int.reduceBEq, rules2, rowsX]
    cases h
    exact ⟨⟨rfl, trivial⟩, rfl⟩
/- 55: laws_eqPoint -/
def c_laws_eqPoint : ACode := (.seq (.reg [(none, .box 2 (S 0)), (none, .box 3 (S 1)), (none, .mv 4 (KB false))]) (.seq (.seq (.reg [(none, .faddr 5 (S 2) 0), (none, .load 6 (S 5) false 1), (none, .faddr 7 (S 3) 0), (none, .load 8 (S 7) false 1), (none, .bin 9 .neq (S 6) (S 8))]) (.cond (S 9) (.seq (.reg [(none, .mv 4 (KB false))]) .ret) .skip)) (.seq (.seq (.reg [(none, .faddr 10 (S 2) 1), (none, .load 11 (S 10) false 1), (none, .faddr 12 (S 3) 1), (none, .load 13 (S 12) false 1), (none, .beq 14 true (S 11) (S 13))]) (.cond (S 14) (.seq (.reg [(none, .mv 4 (KB false))]) .ret) .skip)) (.seq (.reg [(none, .mv 4 (KB true))]) .ret))))
theorem e_laws_eqPoint : entry Try.prog 55 = some (c_laws_eqPoint.strip, [4], 15) := by kernel_rfl
theorem w_laws_eqPoint (a0 : XPoint) (a1 : XPoint) (r : Bool) (h : f_laws_eqPoint a0 a1 = some r) : FC Try.prog 55 [.ag (XPoint.row a0), .ag (XPoint.row a1)] [.sc (.v (.bool r))] := by
  unfold f_laws_eqPoint at h
  refine FC_go (σ := ⟨[(0, va [aS a0.Name, aB a0.Wait]), (1, va [aS a1.Name, aB a1.Wait])], [], []⟩) mixed e_laws_eqPoint rfl rfl ?_
  simp only [c_laws_eqPoint]
  try simp only [Nat.reduceBEq, Nat.reduceMul, Nat.reduceAdd, Nat.reduceDiv, Int.reduceBEq, rules2, rowsX]
  refine go_bx rfl rfl rfl ?_
  try simp only [Nat.reduceBEq, Nat.reduceMul, Nat.reduceAdd, Nat.reduceDiv, Int.reduceBEq, rules2, rowsX]
  refine go_bx rfl rfl rfl ?_
  rcases Bool.eq_false_or_eq_true (a0.Name == a1.Name) with hb1 | hb1
  · rw [ite_t hb1] at h
    rcases Bool.eq_false_or_eq_true (a0.Wait == a1.Wait) with hb2 | hb2
    · rw [ite_t hb2] at h
      try simp only [hb1, hb2, Nat.reduceBEq, Nat.reduceMul, Nat.reduceAdd, Nat.reduceDiv, Int.reduceBEq, rules2, rowsX]
      cases h
      exact ⟨⟨rfl, trivial⟩, rfl⟩
    · rw [ite_f hb2] at h
      try simp only [hb1, hb2, Nat.reduceBEq, Nat.reduceMul, Nat.reduceAdd, Nat.reduceDiv, Int.reduceBEq, rules2, rowsX]
      cases h
      exact ⟨⟨rfl, trivial⟩, rfl⟩
  · rw [ite_f hb1] at h
    try simp only [hb1, Nat.reduceBEq, Nat.reduceMul, Nat.reduceAdd, Nat.reduceDiv, Int.reduceBEq, rules2, rowsX]
    cases h
    exact ⟨⟨rfl, trivial⟩, rfl⟩
/- 29: laws_eqPointS -/
def c_laws_eqPointS_1 : ACode := .seq (.reg [(none, .keep [0, 1, 5] [] [])]) (.seq (.seq (.reg [(none, .mv 11 (S 5)), (none, .mv 12 (S 0)), (none, .len 13 (S 12)), (none, .bin 14 .lss (S 11) (S 13))]) (.cond (S 14) .skip (.exit 0))) (.seq (.block 1 (.seq (.drw [(some [], (none, .mv 17 (S 0))), (some [], (none, .mv 18 (S 5))), (some [], (none, .iaddr 19 (S 17) (S 18) 2)), (some [], (none, .load 20 (S 19) true 2)), (some [], (none, .mv 21 (S 1))), (some [], (none, .mv 22 (S 5))), (some [], (none, .iaddr 23 (S 21) (S 22) 2)), (some [], (none, .load 24 (S 23) true 2)), (some [], (none, .call 25 55 [(S 20), (S 24)])), (some [], (none, .un 26 .not (S 25)))]) (.cond (S 26) (.seq (.reg [(none, .mv 4 (KB false))]) .ret) .skip))) (.reg [(none, .mv 15 (S 5)), (none, .bin 16 .add (S 15) (K 1)), (none, .mv 5 (S 16))])))
def c_laws_eqPointS_n1 : ACode := (.seq (.reg [(none, .mv 4 (KB true))]) .ret)
def c_laws_eqPointS : ACode := (.seq (.reg [(none, .mv 4 (KB false))]) (.seq (.seq (.reg [(none, .mv 6 (S 0)), (none, .len 7 (S 6)), (none, .mv 8 (S 1)), (none, .len 9 (S 8)), (none, .bin 10 .neq (S 7) (S 9))]) (.cond (S 10) (.seq (.reg [(none, .mv 4 (KB false))]) .ret) .skip)) (.seq (.seq (.reg [(none, .mv 5 (K 0))]) (.block 0 (.loop c_laws_eqPointS_1))) c_laws_eqPointS_n1)))
theorem w_laws_eqPointS_1 (a0 : List XPoint) (a1 : List XPoint) : ∀ (n : Nat) (v2 : Int) (r : Bool), f_laws_eqPointS_1 a0 a1 n v2 = some r → ∀ σ : St, σ.kept [0, 1, 5] [] [] = ⟨[(0, vc (aL (List.map XPoint.row a0))), (1, vc (aL (List.map XPoint.row a1))), (5, vc (aI v2))], [], []⟩ → go Try.prog (.code (.loop c_laws_eqPointS_1) :: [.blk 0, .code c_laws_eqPointS_n1]) (Ret [4] [.sc (.v (.bool r))]) .normal (some σ) := by
  intro n
  induction n with
  | zero => intro _ r h; cases h
  | succ n ih =>
    intro v2 r h σ hσ
    rw [f_laws_eqPointS_1] at h
    refine go_round ?_
    rcases Bool.eq_false_or_eq_true (decide (v2 < (a0.length : Int))) with hb3 | hb3
    · rw [ite_t hb3] at h
      try simp only [hσ, hb3, c_laws_eqPointS_1, Nat.reduceBEq, Nat.reduceMul, Nat.reduceAdd, Nat.reduceDiv, Int.reduceBEq, rules2, rowsX]
      refine go_fr_of rfl ?_
      obtain ⟨x4, hx4, h⟩ := ob h
      obtain ⟨x5, hx5, h⟩ := ob h
      obtain ⟨r6, hr6, h⟩ := ob h
      try simp only [hb3, hx4, hx5, Nat.reduceBEq, Nat.reduceMul, Nat.reduceAdd, Nat.reduceDiv, Int.reduceBEq, rules2, rowsX]
      refine go_callI (w_laws_eqPoint _ _ _ hr6) rfl rfl (Nat.le_of_ble_eq_true rfl) ?_
      rcases Bool.eq_false_or_eq_true r6 with hb7 | hb7
      · rw [ite_t hb7] at h
        try simp only [hb3, hx4, hx5, hb7, Nat.reduceBEq, Nat.reduceMul, Nat.reduceAdd, Nat.reduceDiv, Int.reduceBEq, rules2, rowsX]
        refine ih _ _ h _ ?_
        try simp only [hb3, hx4, hx5, hb7, Nat.reduceBEq, Nat.reduceMul, Nat.reduceAdd, Nat.reduceDiv, Int.reduceBEq, rules2, rowsX, List.map_nil]
      · rw [ite_f hb7] at h
        try simp only [hb3, hx4, hx5, hb7, Nat.reduceBEq, Nat.reduceMul, Nat.reduceAdd, Nat.reduceDiv, Int.reduceBEq, rules2, rowsX]
        cases h
        exact ⟨⟨rfl, trivial⟩, rfl⟩
    · rw [ite_f hb3] at h
      try simp only [hσ, hb3, c_laws_eqPointS_1, c_laws_eqPointS_n1, Nat.reduceBEq, Nat.reduceMul, Nat.reduceAdd, Nat.reduceDiv, Int.reduceBEq, rules2, rowsX]
      cases h
      exact ⟨⟨rfl, trivial⟩, rfl⟩
theorem e_laws_eqPointS : entry Try.prog 29 = some (c_laws_eqPointS.strip, [4], 27) := by kernel_rfl
theorem w_laws_eqPointS (a0 : List XPoint) (a1 : List XPoint) (r : Bool) (h : f_laws_eqPointS a0 a1 = some r) : FC Try.prog 29 [.sc (.sl (List.map XPoint.row a0)), .sc (.sl (List.map XPoint.row a1))] [.sc (.v (.bool r))] := by
  unfold f_laws_eqPointS at h
  refine FC_go (σ := ⟨[(0, vc (aL (List.map XPoint.row a0))), (1, vc (aL (List.map XPoint.row a1)))], [], []⟩) mixed e_laws_eqPointS rfl rfl ?_
  simp only [c_laws_eqPointS]
  rcases Bool.eq_false_or_eq_true ((a0.length : Int) != (a1.length : Int)) with hb1 | hb1
  · rw [ite_t hb1] at h
    try simp only [hb1, Nat.reduceBEq, Nat.reduceMul, Nat.reduceAdd, Nat.reduceDiv, Int.reduceBEq, rules2, rowsX]
    cases h
    exact ⟨⟨rfl, trivial⟩, rfl⟩
  · rw [ite_f hb1] at h
    try simp only [hb1, Nat.reduceBEq, Nat.reduceMul, Nat.reduceAdd, Nat.reduceDiv, Int.reduceBEq, rules2, rowsX]
    refine w_laws_eqPointS_1 _ _ _ _ _ h _ ?_
    try simp only [hb1, Nat.reduceBEq, Nat.reduceMul, Nat.reduceAdd, Nat.reduceDiv, Int.reduceBEq, rules2, rowsX, List.map_nil]
/- 56: laws_eqSegment -/
def c_laws_eqSegment : ACode := (.seq (.reg [(none, .box 2 (S 0)), (none, .box 3 (S 1)), (none, .mv 4 (KB false))]) (.seq (.seq (.reg [(none, .faddr 5 (S 2) 0), (none, .load 6 (S 5) false 1), (none, .faddr 7 (S 3) 0), (none, .load 8 (S 7) false 1), (none, .bin 9 .neq (S 6) (S 8))]) (.cond (S 9) (.seq (.reg [(none, .mv 4 (KB false))]) .ret) .skip)) (.seq (.seq (.reg [(none, .faddr 10 (S 2) 1), (none, .load 11 (S 10) false 1), (none, .faddr 12 (S 3) 1), (none, .load 13 (S 12) false 1), (none, .bin 14 .neq (S 11) (S 13))]) (.cond (S 14) (.seq (.reg [(none, .mv 4 (KB false))]) .ret) .skip)) (.seq (.seq (.reg [(none, .faddr 15 (S 2) 2), (none, .load 16 (S 15) false 1), (none, .faddr 17 (S 3) 2), (none, .load 18 (S 17) false 1), (none, .bin 19 .neq (S 16) (S 18))]) (.cond (S 19) (.seq (.reg [(none, .mv 4 (KB false))]) .ret) .skip)) (.seq (.seq (.reg [(none, .faddr 20 (S 2) 3), (none, .load 21 (S 20) false 1), (none, .faddr 22 (S 3) 3), (none, .load 23 (S 22) false 1), (none, .bin 24 .neq (S 21) (S 23))]) (.cond (S 24) (.seq (.reg [(none, .mv 4 (KB false))]) .ret) .skip)) (.seq (.seq (.reg [(none, .faddr 25 (S 2) 4), (none, .load 26 (S 25) false 1), (none, .faddr 27 (S 3) 4), (none, .load 28 (S 27) false 1), (none, .beq 29 true (S 26) (S 28))]) (.cond (S 29) (.seq (.reg [(none, .mv 4 (KB false))]) .ret) .skip)) (.seq (.reg [(none, .mv 4 (KB true))]) .ret)))))))
theorem e_laws_eqSegment : entry Try.prog 56 = some (c_laws_eqSegment.strip, [4], 30) := by kernel_rfl
theorem w_laws_eqSegment (a0 : XSegment) (a1 : XSegment) (r : Bool) (h : f_laws_eqSegment a0 a1 = some r) : FC Try.prog 56 [.ag (XSegment.row a0), .ag (XSegment.row a1)] [.sc (.v (.bool r))] := by
  unfold f_laws_eqSegment at h
  refine FC_go (σ := ⟨[(0, va [aI a0.A, aI a0.B, aI a0.Depth, aI a0.Minutes, aB a0.Meet]), (1, va [aI a1.A, aI a1.B, aI a1.Depth, aI a1.Minutes, aB a1.Meet])], [], []⟩) mixed e_laws_eqSegment rfl rfl ?_
  simp only [c_laws_eqSegment]
  try simp only [Nat.reduceBEq, Nat.reduceMul, Nat.reduceAdd, Nat.reduceDiv, Int.reduceBEq, rules2, rowsX]
  refine go_bx rfl rfl rfl ?_
  try simp only [Nat.reduceBEq, Nat.reduceMul, Nat.reduceAdd, Nat.reduceDiv, Int.reduceBEq, rules2, rowsX]
  refine go_bx rfl rfl rfl ?_
  rcases Bool.eq_false_or_eq_true (a0.A != a1.A) with hb1 | hb1
  · rw [ite_t hb1] at h
    try simp only [hb1, Nat.reduceBEq, Nat.reduceMul, Nat.reduceAdd, Nat.reduceDiv, Int.reduceBEq, rules2, rowsX]
    cases h
    exact ⟨⟨rfl, trivial⟩, rfl⟩
  · rw [ite_f hb1] at h
    rcases Bool.eq_false_or_eq_true (a0.B != a1.B) with hb2 | hb2
    · rw [ite_t hb2] at h
      try simp only [hb1, hb2, Nat.reduceBEq, Nat.reduceMul, Nat.reduceAdd, Nat.reduceDiv, Int.reduceBEq, rules2, rowsX]
      cases h
      exact ⟨⟨rfl, trivial⟩, rfl⟩
    · rw [ite_f hb2] at h
      rcases Bool.eq_false_or_eq_true (a0.Depth != a1.Depth) with hb3 | hb3
      · rw [ite_t hb3] at h
        try simp only [hb1, hb2, hb3, Nat.reduceBEq, Nat.reduceMul, Nat.reduceAdd, Nat.reduceDiv, Int.reduceBEq, rules2, rowsX]
        cases h
        exact ⟨⟨rfl, trivial⟩, rfl⟩
      · rw [ite_f hb3] at h
        rcases Bool.eq_false_or_eq_true (a0.Minutes != a1.Minutes) with hb4 | hb4
        · rw [ite_t hb4] at h
          try simp only [hb1, hb2, hb3, hb4, Nat.reduceBEq, Nat.reduceMul, Nat.reduceAdd, Nat.reduceDiv, Int.reduceBEq, rules2, rowsX]
          cases h
          exact ⟨⟨rfl, trivial⟩, rfl⟩
        · rw [ite_f hb4] at h
          rcases Bool.eq_false_or_eq_true (a0.Meet == a1.Meet) with hb5 | hb5
          · rw [ite_t hb5] at h
            try simp only [hb1, hb2, hb3, hb4, hb5, Nat.reduceBEq, Nat.reduceMul, Nat.reduceAdd, Nat.reduceDiv, Int.reduceBEq, rules2, rowsX]
            cases h
            exact ⟨⟨rfl, trivial⟩, rfl⟩
          · rw [ite_f hb5] at h
            try simp only [hb1, hb2, hb3, hb4, hb5, Nat.reduceBEq, Nat.reduceMul, Nat.reduceAdd, Nat.reduceDiv, Int.reduceBEq, rules2, rowsX]
            cases h
            exact ⟨⟨rfl, trivial⟩, rfl⟩
/- 30: laws_eqSegmentS -/
def c_laws_eqSegmentS_1 : ACode := .seq (.reg [(none, .keep [0, 1, 5] [] [])]) (.seq (.seq (.reg [(none, .mv 11 (S 5)), (none, .mv 12 (S 0)), (none, .len 13 (S 12)), (none, .bin 14 .lss (S 11) (S 13))]) (.cond (S 14) .skip (.exit 0))) (.seq (.block 1 (.seq (.drw [(some [], (none, .mv 17 (S 0))), (some [], (none, .mv 18 (S 5))), (some [], (none, .iaddr 19 (S 17) (S 18) 5)), (some [], (none, .load 20 (S 19) true 5)), (some [], (none, .mv 21 (S 1))), (some [], (none, .mv 22 (S 5))), (some [], (none, .iaddr 23 (S 21) (S 22) 5)), (some [], (none, .load 24 (S 23) true 5)), (some [], (none, .call 25 56 [(S 20), (S 24)])), (some [], (none, .un 26 .not (S 25)))]) (.cond (S 26) (.seq (.reg [(none, .mv 4 (KB false))]) .ret) .skip))) (.reg [(none, .mv 15 (S 5)), (none, .bin 16 .add (S 15) (K 1)), (none, .mv 5 (S 16))])))
def c_laws_eqSegmentS_n1 : ACode := (.seq (.reg [(none, .mv 4 (KB true))]) .ret)
def c_laws_eqSegmentS : ACode := (.seq (.reg [(none, .mv 4 (KB false))]) (.seq (.seq (.reg [(none, .mv 6 (S 0)), (none, .len 7 (S 6)), (none, .mv 8 (S 1)), (none, .len 9 (S 8)), (none, .bin 10 .neq (S 7) (S 9))]) (.cond (S 10) (.seq (.reg [(none, .mv 4 (KB false))]) .ret) .skip)) (.seq (.seq (.reg [(none, .mv 5 (K 0))]) (.block 0 (.loop c_laws_eqSegmentS_1))) c_laws_eqSegmentS_n1)))
theorem w_laws_eqSegmentS_1 (a0 : List XSegment) (a1 : List XSegment) : ∀ (n : Nat) (v2 : Int) (r : Bool), f_laws_eqSegmentS_1 a0 a1 n v2 = some r → ∀ σ : St, σ.kept [0, 1, 5] [] [] = ⟨[(0, vc (aL (List.map XSegment.row a0))), (1, vc (aL (List.map XSegment.row a1))), (5, vc (aI v2))], [], []⟩ → go Try.prog (.code (.loop c_laws_eqSegmentS_1) :: [.blk 0, .code c_laws_eqSegmentS_n1]) (Ret [4] [.sc (.v (.bool r))]) .normal (some σ) := by
  intro n
  induction n with
  | zero => intro _ r h; cases h
  | succ n ih =>
    intro v2 r h σ hσ
    rw [f_laws_eqSegmentS_1] at h
    refine go_round ?_
    rcases Bool.eq_false_or_eq_true (decide (v2 < (a0.length : Int))) with hb3 | hb3
    · rw [ite_t hb3] at h
      try simp only [hσ, hb3, c_laws_eqSegmentS_1, Nat.reduceBEq, Nat.reduceMul, Nat.reduceAdd, Nat.reduceDiv, Int.reduceBEq, rules2, rowsX]
      refine go_fr_of rfl ?_
      obtain ⟨x4, hx4, h⟩ := ob h
      obtain ⟨x5, hx5, h⟩ := ob h
      obtain ⟨r6, hr6, h⟩ := ob h
      try simp only [hb3, hx4, hx5, Nat.reduceBEq, Nat.reduceMul, Nat.reduceAdd, Nat.reduceDiv, Int.reduceBEq, rules2, rowsX]
      refine go_callI (w_laws_eqSegment _ _ _ hr6) rfl rfl (Nat.le_of_ble_eq_true rfl) ?_
      rcases Bool.eq_false_or_eq_true r6 with hb7 | hb7
      · rw [ite_t hb7] at h
        try simp only [hb3, hx4, hx5, hb7, Nat.reduceBEq, Nat.reduceMul, Nat.reduceAdd, Nat.reduceDiv, Int.reduceBEq, rules2, rowsX]
        refine ih _ _ h _ ?_
        try simp only [hb3, hx4, hx5, hb7, Nat.reduceBEq, Nat.reduceMul, Nat.reduceAdd, Nat.reduceDiv, Int.reduceBEq, rules2, rowsX, List.map_nil]
      · rw [ite_f hb7] at h
        try simp only [hb3, hx4, hx5, hb7, Nat.reduceBEq, Nat.reduceMul, Nat.reduceAdd, Nat.reduceDiv, Int.reduceBEq, rules2, rowsX]
        cases h
        exact ⟨⟨rfl, trivial⟩, rfl⟩
    · rw [ite_f hb3] at h
      try simp only [hσ, hb3, c_laws_eqSegmentS_1, c_laws_eqSegmentS_n1, Nat.reduceBEq, Nat.reduceMul, Nat.reduceAdd, Nat.reduceDiv, Int.reduceBEq, rules2, rowsX]
      cases h
      exact ⟨⟨rfl, trivial⟩, rfl⟩
theorem e_laws_eqSegmentS : entry Try.prog 30 = some (c_laws_eqSegmentS.strip, [4], 27) := by kernel_rfl
theorem w_laws_eqSegmentS (a0 : List XSegment) (a1 : List XSegment) (r : Bool) (h : f_laws_eqSegmentS a0 a1 = some r) : FC Try.prog 30 [.sc (.sl (List.map XSegment.row a0)), .sc (.sl (List.map XSegment.row a1))] [.sc (.v (.bool r))] := by
  unfold f_laws_eqSegmentS at h
  refine FC_go (σ := ⟨[(0, vc (aL (List.map XSegment.row a0))), (1, vc (aL (List.map XSegment.row a1)))], [], []⟩) mixed e_laws_eqSegmentS rfl rfl ?_
  simp only [c_laws_eqSegmentS]
  rcases Bool.eq_false_or_eq_true ((a0.length : Int) != (a1.length : Int)) with hb1 | hb1
  · rw [ite_t hb1] at h
    try simp only [hb1, Nat.reduceBEq, Nat.reduceMul, Nat.reduceAdd, Nat.reduceDiv, Int.reduceBEq, rules2, rowsX]
    cases h
    exact ⟨⟨rfl, trivial⟩, rfl⟩
  · rw [ite_f hb1] at h
    try simp only [hb1, Nat.reduceBEq, Nat.reduceMul, Nat.reduceAdd, Nat.reduceDiv, Int.reduceBEq, rules2, rowsX]
    refine w_laws_eqSegmentS_1 _ _ _ _ _ h _ ?_
    try simp only [hb1, Nat.reduceBEq, Nat.reduceMul, Nat.reduceAdd, Nat.reduceDiv, Int.reduceBEq, rules2, rowsX, List.map_nil]
/- 11: laws_eqChart -/
def c_laws_eqChart : ACode := (.seq (.reg [(none, .box 2 (S 0)), (none, .box 3 (S 1)), (none, .mv 4 (KB false))]) (.seq (.seq (.reg [(none, .faddr 5 (S 2) 0), (none, .load 6 (S 5) false 1), (none, .faddr 7 (S 3) 0), (none, .load 8 (S 7) false 1), (none, .call 9 29 [(S 6), (S 8)]), (none, .un 10 .not (S 9))]) (.cond (S 10) (.seq (.reg [(none, .mv 4 (KB false))]) .ret) .skip)) (.seq (.seq (.reg [(none, .faddr 11 (S 2) 1), (none, .load 12 (S 11) false 1), (none, .faddr 13 (S 3) 1), (none, .load 14 (S 13) false 1), (none, .call 15 30 [(S 12), (S 14)]), (none, .un 16 .not (S 15))]) (.cond (S 16) (.seq (.reg [(none, .mv 4 (KB false))]) .ret) .skip)) (.seq (.reg [(none, .mv 4 (KB true))]) .ret))))
theorem e_laws_eqChart : entry Try.prog 11 = some (c_laws_eqChart.strip, [4], 17) := by kernel_rfl
theorem w_laws_eqChart (a0 : XChart) (a1 : XChart) (r : Bool) (h : f_laws_eqChart a0 a1 = some r) : FC Try.prog 11 [.ag (XChart.row a0), .ag (XChart.row a1)] [.sc (.v (.bool r))] := by
  unfold f_laws_eqChart at h
  refine FC_go (σ := ⟨[(0, va [aL (List.map XPoint.row a0.Points), aL (List.map XSegment.row a0.Segments)]), (1, va [aL (List.map XPoint.row a1.Points), aL (List.map XSegment.row a1.Segments)])], [], []⟩) mixed e_laws_eqChart rfl rfl ?_
  simp only [c_laws_eqChart]
  try simp only [Nat.reduceBEq, Nat.reduceMul, Nat.reduceAdd, Nat.reduceDiv, Int.reduceBEq, rules2, rowsX]
  refine go_bx rfl rfl rfl ?_
  try simp only [Nat.reduceBEq, Nat.reduceMul, Nat.reduceAdd, Nat.reduceDiv, Int.reduceBEq, rules2, rowsX]
  refine go_bx rfl rfl rfl ?_
  obtain ⟨r1, hr1, h⟩ := ob h
  try simp only [Nat.reduceBEq, Nat.reduceMul, Nat.reduceAdd, Nat.reduceDiv, Int.reduceBEq, rules2, rowsX]
  refine go_callI (w_laws_eqPointS _ _ _ hr1) rfl rfl (Nat.le_of_ble_eq_true rfl) ?_
  rcases Bool.eq_false_or_eq_true r1 with hb2 | hb2
  · rw [ite_t hb2] at h
    obtain ⟨r3, hr3, h⟩ := ob h
    try simp only [hb2, Nat.reduceBEq, Nat.reduceMul, Nat.reduceAdd, Nat.reduceDiv, Int.reduceBEq, rules2, rowsX]
    refine go_callI (w_laws_eqSegmentS _ _ _ hr3) rfl rfl (Nat.le_of_ble_eq_true rfl) ?_
    rcases Bool.eq_false_or_eq_true r3 with hb4 | hb4
    · rw [ite_t hb4] at h
      try simp only [hb2, hb4, Nat.reduceBEq, Nat.reduceMul, Nat.reduceAdd, Nat.reduceDiv, Int.reduceBEq, rules2, rowsX]
      cases h
      exact ⟨⟨rfl, trivial⟩, rfl⟩
    · rw [ite_f hb4] at h
      try simp only [hb2, hb4, Nat.reduceBEq, Nat.reduceMul, Nat.reduceAdd, Nat.reduceDiv, Int.reduceBEq, rules2, rowsX]
      cases h
      exact ⟨⟨rfl, trivial⟩, rfl⟩
  · rw [ite_f hb2] at h
    try simp only [hb2, Nat.reduceBEq, Nat.reduceMul, Nat.reduceAdd, Nat.reduceDiv, Int.reduceBEq, rules2, rowsX]
    cases h
    exact ⟨⟨rfl, trivial⟩, rfl⟩
/- 31: laws_eqClosure -/
def c_laws_eqClosure : ACode := (.seq (.reg [(none, .box 2 (S 0)), (none, .box 3 (S 1)), (none, .mv 4 (KB false))]) (.seq (.seq (.reg [(none, .faddr 5 (S 2) 0), (none, .load 6 (S 5) false 1), (none, .faddr 7 (S 3) 0), (none, .load 8 (S 7) false 1), (none, .bin 9 .neq (S 6) (S 8))]) (.cond (S 9) (.seq (.reg [(none, .mv 4 (KB false))]) .ret) .skip)) (.seq (.seq (.reg [(none, .faddr 10 (S 2) 1), (none, .load 11 (S 10) false 1), (none, .faddr 12 (S 3) 1), (none, .load 13 (S 12) false 1), (none, .bin 14 .neq (S 11) (S 13))]) (.cond (S 14) (.seq (.reg [(none, .mv 4 (KB false))]) .ret) .skip)) (.seq (.seq (.reg [(none, .faddr 15 (S 2) 2), (none, .load 16 (S 15) false 1), (none, .faddr 17 (S 3) 2), (none, .load 18 (S 17) false 1), (none, .bin 19 .neq (S 16) (S 18))]) (.cond (S 19) (.seq (.reg [(none, .mv 4 (KB false))]) .ret) .skip)) (.seq (.reg [(none, .mv 4 (KB true))]) .ret)))))
theorem e_laws_eqClosure : entry Try.prog 31 = some (c_laws_eqClosure.strip, [4], 20) := by kernel_rfl
theorem w_laws_eqClosure (a0 : XClosure) (a1 : XClosure) (r : Bool) (h : f_laws_eqClosure a0 a1 = some r) : FC Try.prog 31 [.ag (XClosure.row a0), .ag (XClosure.row a1)] [.sc (.v (.bool r))] := by
  unfold f_laws_eqClosure at h
  refine FC_go (σ := ⟨[(0, va [aI a0.Segment, aI a0.From, aI a0.To]), (1, va [aI a1.Segment, aI a1.From, aI a1.To])], [], []⟩) mixed e_laws_eqClosure rfl rfl ?_
  simp only [c_laws_eqClosure]
  try simp only [Nat.reduceBEq, Nat.reduceMul, Nat.reduceAdd, Nat.reduceDiv, Int.reduceBEq, rules2, rowsX]
  refine go_bx rfl rfl rfl ?_
  try simp only [Nat.reduceBEq, Nat.reduceMul, Nat.reduceAdd, Nat.reduceDiv, Int.reduceBEq, rules2, rowsX]
  refine go_bx rfl rfl rfl ?_
  rcases Bool.eq_false_or_eq_true (a0.Segment != a1.Segment) with hb1 | hb1
  · rw [ite_t hb1] at h
    try simp only [hb1, Nat.reduceBEq, Nat.reduceMul, Nat.reduceAdd, Nat.reduceDiv, Int.reduceBEq, rules2, rowsX]
    cases h
    exact ⟨⟨rfl, trivial⟩, rfl⟩
  · rw [ite_f hb1] at h
    rcases Bool.eq_false_or_eq_true (a0.From != a1.From) with hb2 | hb2
    · rw [ite_t hb2] at h
      try simp only [hb1, hb2, Nat.reduceBEq, Nat.reduceMul, Nat.reduceAdd, Nat.reduceDiv, Int.reduceBEq, rules2, rowsX]
      cases h
      exact ⟨⟨rfl, trivial⟩, rfl⟩
    · rw [ite_f hb2] at h
      rcases Bool.eq_false_or_eq_true (a0.To != a1.To) with hb3 | hb3
      · rw [ite_t hb3] at h
        try simp only [hb1, hb2, hb3, Nat.reduceBEq, Nat.reduceMul, Nat.reduceAdd, Nat.reduceDiv, Int.reduceBEq, rules2, rowsX]
        cases h
        exact ⟨⟨rfl, trivial⟩, rfl⟩
      · rw [ite_f hb3] at h
        try simp only [hb1, hb2, hb3, Nat.reduceBEq, Nat.reduceMul, Nat.reduceAdd, Nat.reduceDiv, Int.reduceBEq, rules2, rowsX]
        cases h
        exact ⟨⟨rfl, trivial⟩, rfl⟩
/- 12: laws_eqClosureS -/
def c_laws_eqClosureS_1 : ACode := .seq (.reg [(none, .keep [0, 1, 5] [] [])]) (.seq (.seq (.reg [(none, .mv 11 (S 5)), (none, .mv 12 (S 0)), (none, .len 13 (S 12)), (none, .bin 14 .lss (S 11) (S 13))]) (.cond (S 14) .skip (.exit 0))) (.seq (.block 1 (.seq (.drw [(some [], (none, .mv 17 (S 0))), (some [], (none, .mv 18 (S 5))), (some [], (none, .iaddr 19 (S 17) (S 18) 3)), (some [], (none, .load 20 (S 19) true 3)), (some [], (none, .mv 21 (S 1))), (some [], (none, .mv 22 (S 5))), (some [], (none, .iaddr 23 (S 21) (S 22) 3)), (some [], (none, .load 24 (S 23) true 3)), (some [], (none, .call 25 31 [(S 20), (S 24)])), (some [], (none, .un 26 .not (S 25)))]) (.cond (S 26) (.seq (.reg [(none, .mv 4 (KB false))]) .ret) .skip))) (.reg [(none, .mv 15 (S 5)), (none, .bin 16 .add (S 15) (K 1)), (none, .mv 5 (S 16))])))
def c_laws_eqClosureS_n1 : ACode := (.seq (.reg [(none, .mv 4 (KB true))]) .ret)
def c_laws_eqClosureS : ACode := (.seq (.reg [(none, .mv 4 (KB false))]) (.seq (.seq (.reg [(none, .mv 6 (S 0)), (none, .len 7 (S 6)), (none, .mv 8 (S 1)), (none, .len 9 (S 8)), (none, .bin 10 .neq (S 7) (S 9))]) (.cond (S 10) (.seq (.reg [(none, .mv 4 (KB false))]) .ret) .skip)) (.seq (.seq (.reg [(none, .mv 5 (K 0))]) (.block 0 (.loop c_laws_eqClosureS_1))) c_laws_eqClosureS_n1)))
theorem w_laws_eqClosureS_1 (a0 : List XClosure) (a1 : List XClosure) : ∀ (n : Nat) (v2 : Int) (r : Bool), f_laws_eqClosureS_1 a0 a1 n v2 = some r → ∀ σ : St, σ.kept [0, 1, 5] [] [] = ⟨[(0, vc (aL (List.map XClosure.row a0))), (1, vc (aL (List.map XClosure.row a1))), (5, vc (aI v2))], [], []⟩ → go Try.prog (.code (.loop c_laws_eqClosureS_1) :: [.blk 0, .code c_laws_eqClosureS_n1]) (Ret [4] [.sc (.v (.bool r))]) .normal (some σ) := by
  intro n
  induction n with
  | zero => intro _ r h; cases h
  | succ n ih =>
    intro v2 r h σ hσ
    rw [f_laws_eqClosureS_1] at h
    refine go_round ?_
    rcases Bool.eq_false_or_eq_true (decide (v2 < (a0.length : Int))) with hb3 | hb3
    · rw [ite_t hb3] at h
      try simp only [hσ, hb3, c_laws_eqClosureS_1, Nat.reduceBEq, Nat.reduceMul, Nat.reduceAdd, Nat.reduceDiv, Int.reduceBEq, rules2, rowsX]
      refine go_fr_of rfl ?_
      obtain ⟨x4, hx4, h⟩ := ob h
      obtain ⟨x5, hx5, h⟩ := ob h
      obtain ⟨r6, hr6, h⟩ := ob h
      try simp only [hb3, hx4, hx5, Nat.reduceBEq, Nat.reduceMul, Nat.reduceAdd, Nat.reduceDiv, Int.reduceBEq, rules2, rowsX]
      refine go_callI (w_laws_eqClosure _ _ _ hr6) rfl rfl (Nat.le_of_ble_eq_true rfl) ?_
      rcases Bool.eq_false_or_eq_true r6 with hb7 | hb7
      · rw [ite_t hb7] at h
        try simp only [hb3, hx4, hx5, hb7, Nat.reduceBEq, Nat.reduceMul, Nat.reduceAdd, Nat.reduceDiv, Int.reduceBEq, rules2, rowsX]
        refine ih _ _ h _ ?_
        try simp only [hb3, hx4, hx5, hb7, Nat.reduceBEq, Nat.reduceMul, Nat.reduceAdd, Nat.reduceDiv, Int.reduceBEq, rules2, rowsX, List.map_nil]
      · rw [ite_f hb7] at h
        try simp only [hb3, hx4, hx5, hb7, Nat.reduceBEq, Nat.reduceMul, Nat.reduceAdd, Nat.reduceDiv, Int.reduceBEq, rules2, rowsX]
        cases h
        exact ⟨⟨rfl, trivial⟩, rfl⟩
    · rw [ite_f hb3] at h
      try simp only [hσ, hb3, c_laws_eqClosureS_1, c_laws_eqClosureS_n1, Nat.reduceBEq, Nat.reduceMul, Nat.reduceAdd, Nat.reduceDiv, Int.reduceBEq, rules2, rowsX]
      cases h
      exact ⟨⟨rfl, trivial⟩, rfl⟩
theorem e_laws_eqClosureS : entry Try.prog 12 = some (c_laws_eqClosureS.strip, [4], 27) := by kernel_rfl
theorem w_laws_eqClosureS (a0 : List XClosure) (a1 : List XClosure) (r : Bool) (h : f_laws_eqClosureS a0 a1 = some r) : FC Try.prog 12 [.sc (.sl (List.map XClosure.row a0)), .sc (.sl (List.map XClosure.row a1))] [.sc (.v (.bool r))] := by
  unfold f_laws_eqClosureS at h
  refine FC_go (σ := ⟨[(0, vc (aL (List.map XClosure.row a0))), (1, vc (aL (List.map XClosure.row a1)))], [], []⟩) mixed e_laws_eqClosureS rfl rfl ?_
  simp only [c_laws_eqClosureS]
  rcases Bool.eq_false_or_eq_true ((a0.length : Int) != (a1.length : Int)) with hb1 | hb1
  · rw [ite_t hb1] at h
    try simp only [hb1, Nat.reduceBEq, Nat.reduceMul, Nat.reduceAdd, Nat.reduceDiv, Int.reduceBEq, rules2, rowsX]
    cases h
    exact ⟨⟨rfl, trivial⟩, rfl⟩
  · rw [ite_f hb1] at h
    try simp only [hb1, Nat.reduceBEq, Nat.reduceMul, Nat.reduceAdd, Nat.reduceDiv, Int.reduceBEq, rules2, rowsX]
    refine w_laws_eqClosureS_1 _ _ _ _ _ h _ ?_
    try simp only [hb1, Nat.reduceBEq, Nat.reduceMul, Nat.reduceAdd, Nat.reduceDiv, Int.reduceBEq, rules2, rowsX, List.map_nil]
/- 3: laws_FnExactClosuresOk -/
def c_laws_FnExactClosuresOk : ACode := (.seq (.reg [(none, .box 2 (S 0)), (none, .mv 4 (KB false))]) (.seq (.reg [(none, .mv 5 (K 1048576))]) (.seq (.reg [(none, .load 10 (S 2) true 2), (none, .mv 11 (S 5)), (none, .call 12 5 [(S 10), (S 11)]), (none, .mv 5 (S 12))]) (.seq (.seq (.reg [(none, .mv 13 (S 5)), (none, .bin 14 .lss (S 13) (K 0))]) (.cond (S 14) (.seq (.reg [(none, .mv 4 (KB true))]) .ret) .skip)) (.seq (.reg [(none, .mv 15 (S 1)), (none, .mv 16 (S 5)), (none, .call 17 6 [(S 15), (S 16)]), (none, .mv 5 (S 17))]) (.seq (.seq (.reg [(none, .mv 18 (S 5)), (none, .bin 19 .lss (S 18) (K 0))]) (.cond (S 19) (.seq (.reg [(none, .mv 4 (KB true))]) .ret) .skip)) (.seq (.reg [(none, .load 20 (S 2) true 2), (none, .call 21 8 [(S 20)]), (none, .mv 22 (S 1)), (none, .call 23 9 [(S 22)]), (none, .call 24 7 [(S 21), (S 23)]), (none, .mv 6 (S 24))]) (.seq (.reg [(none, .load 25 (S 2) true 2), (none, .call 26 8 [(S 25)]), (none, .alloc 7 [.nil, .nil]), (none, .store (S 7) (S 26) 2)]) (.seq (.reg [(none, .mv 27 (S 1)), (none, .call 28 9 [(S 27)]), (none, .mv 8 (S 28))]) (.seq (.reg [(none, .load 29 (S 7) true 2), (none, .mv 30 (S 8)), (none, .call 31 10 [(S 29), (S 30)]), (none, .mv 9 (S 31))]) (.seq (.seq (.reg [(none, .mv 32 (S 9)), (none, .mv 33 (S 6)), (none, .beq 34 true (S 32) (S 33))]) (.cond (S 34) (.seq (.reg [(none, .mv 4 (KB false))]) .ret) .skip)) (.seq (.seq (.drw [(some [37], (none, .load 35 (S 7) true 2)), (some [], (none, .load 36 (S 2) true 2)), (some [], (none, .call 37 8 [(S 36)])), (some [], (none, .call 38 11 [(S 35), (S 37)])), (some [], (none, .un 39 .not (S 38)))]) (.cond (S 39) (.seq (.reg [(none, .mv 4 (KB false))]) .ret) .skip)) (.seq (.seq (.reg [(none, .mv 40 (S 8)), (none, .mv 41 (S 1)), (none, .call 42 9 [(S 41)]), (none, .call 43 12 [(S 40), (S 42)]), (none, .un 44 .not (S 43))]) (.cond (S 44) (.seq (.reg [(none, .mv 4 (KB false))]) .ret) .skip)) (.seq (.reg [(none, .mv 4 (KB true))]) .ret))))))))))))))
theorem e_laws_FnExactClosuresOk : entry Try.prog 3 = some (c_laws_FnExactClosuresOk.strip, [4], 45) := by kernel_rfl
theorem w_laws_FnExactClosuresOk (a0 : XChart) (a1 : List XClosure) (r : Bool) (h : f_laws_FnExactClosuresOk a0 a1 = some r) : FC Try.prog 3 [.ag (XChart.row a0), .sc (.sl (List.map XClosure.row a1))] [.sc (.v (.bool r))] := by
  unfold f_laws_FnExactClosuresOk at h
  refine FC_go (σ := ⟨[(0, va [aL (List.map XPoint.row a0.Points), aL (List.map XSegment.row a0.Segments)]), (1, vc (aL (List.map XClosure.row a1)))], [], []⟩) mixed e_laws_FnExactClosuresOk rfl rfl ?_
  simp only [c_laws_FnExactClosuresOk]
  try simp only [Nat.reduceBEq, Nat.reduceMul, Nat.reduceAdd, Nat.reduceDiv, Int.reduceBEq, rules2, rowsX]
  refine go_bx rfl rfl rfl ?_
  obtain ⟨r1, hr1, h⟩ := ob h
  try simp only [Nat.reduceBEq, Nat.reduceMul, Nat.reduceAdd, Nat.reduceDiv, Int.reduceBEq, rules2, rowsX]
  refine go_callI (w_laws_szChart _ _ _ hr1) rfl rfl (Nat.le_of_ble_eq_true rfl) ?_
  rcases Bool.eq_false_or_eq_true (decide (r1 < (0 : Int))) with hb2 | hb2
  · rw [ite_t hb2] at h
    try simp only [hb2, Nat.reduceBEq, Nat.reduceMul, Nat.reduceAdd, Nat.reduceDiv, Int.reduceBEq, rules2, rowsX]
    cases h
    exact ⟨⟨rfl, trivial⟩, rfl⟩
  · rw [ite_f hb2] at h
    obtain ⟨r3, hr3, h⟩ := ob h
    try simp only [hb2, Nat.reduceBEq, Nat.reduceMul, Nat.reduceAdd, Nat.reduceDiv, Int.reduceBEq, rules2, rowsX]
    refine go_callI (w_laws_szClosureS _ _ _ hr3) rfl rfl (Nat.le_of_ble_eq_true rfl) ?_
    rcases Bool.eq_false_or_eq_true (decide (r3 < (0 : Int))) with hb4 | hb4
    · rw [ite_t hb4] at h
      try simp only [hb2, hb4, Nat.reduceBEq, Nat.reduceMul, Nat.reduceAdd, Nat.reduceDiv, Int.reduceBEq, rules2, rowsX]
      cases h
      exact ⟨⟨rfl, trivial⟩, rfl⟩
    · rw [ite_f hb4] at h
      obtain ⟨r5, hr5, h⟩ := ob h
      try simp only [hb2, hb4, Nat.reduceBEq, Nat.reduceMul, Nat.reduceAdd, Nat.reduceDiv, Int.reduceBEq, rules2, rowsX]
      refine go_callI (w_laws_toChart _ _ hr5) rfl rfl (Nat.le_of_ble_eq_true rfl) ?_
      obtain ⟨r6, hr6, h⟩ := ob h
      try simp only [hb2, hb4, Nat.reduceBEq, Nat.reduceMul, Nat.reduceAdd, Nat.reduceDiv, Int.reduceBEq, rules2, rowsX]
      refine go_callI (w_laws_toClosureS _ _ hr6) rfl rfl (Nat.le_of_ble_eq_true rfl) ?_
      obtain ⟨r7, hr7, h⟩ := ob h
      try simp only [hb2, hb4, Nat.reduceBEq, Nat.reduceMul, Nat.reduceAdd, Nat.reduceDiv, Int.reduceBEq, rules2, rowsX]
      refine go_call (w_spec_ClosuresOk _ _ _ hr7) rfl (flat_of rfl) rfl (Nat.le_of_ble_eq_true rfl) ?_
      obtain ⟨r8, hr8, h⟩ := ob h
      try simp only [hb2, hb4, Nat.reduceBEq, Nat.reduceMul, Nat.reduceAdd, Nat.reduceDiv, Int.reduceBEq, rules2, rowsX]
      refine go_callI (w_laws_toChart _ _ hr8) rfl rfl (Nat.le_of_ble_eq_true rfl) ?_
      try simp only [hb2, hb4, Nat.reduceBEq, Nat.reduceMul, Nat.reduceAdd, Nat.reduceDiv, Int.reduceBEq, rules2, rowsX]
      refine go_al rfl rfl ?_
      obtain ⟨r9, hr9, h⟩ := ob h
      try simp only [hb2, hb4, Nat.reduceBEq, Nat.reduceMul, Nat.reduceAdd, Nat.reduceDiv, Int.reduceBEq, rules2, rowsX]
      refine go_callI (w_laws_toClosureS _ _ hr9) rfl rfl (Nat.le_of_ble_eq_true rfl) ?_
      obtain ⟨r10, hr10, h⟩ := ob h
      try simp only [hb2, hb4, Nat.reduceBEq, Nat.reduceMul, Nat.reduceAdd, Nat.reduceDiv, Int.reduceBEq, rules2, rowsX]
      refine go_call (w_impl_ClosuresOk _ _ _ hr10) rfl (flat_of rfl) rfl (Nat.le_of_ble_eq_true rfl) ?_
      rcases Bool.eq_false_or_eq_true (r10 == r7) with hb11 | hb11
      · rw [ite_t hb11] at h
        try simp only [hb2, hb4, hb11, Nat.reduceBEq, Nat.reduceMul, Nat.reduceAdd, Nat.reduceDiv, Int.reduceBEq, rules2, rowsX]
        refine go_fr_of rfl ?_
        obtain ⟨r12, hr12, h⟩ := ob h
        try simp only [hb2, hb4, hb11, Nat.reduceBEq, Nat.reduceMul, Nat.reduceAdd, Nat.reduceDiv, Int.reduceBEq, rules2, rowsX]
        refine go_callI (w_laws_toChart _ _ hr12) rfl rfl (Nat.le_of_ble_eq_true rfl) ?_
        obtain ⟨r13, hr13, h⟩ := ob h
        try simp only [hb2, hb4, hb11, Nat.reduceBEq, Nat.reduceMul, Nat.reduceAdd, Nat.reduceDiv, Int.reduceBEq, rules2, rowsX]
        refine go_call (w_laws_eqChart _ _ _ hr13) rfl (flat_of rfl) rfl (Nat.le_of_ble_eq_true rfl) ?_
        rcases Bool.eq_false_or_eq_true r13 with hb14 | hb14
        · rw [ite_t hb14] at h
          obtain ⟨r15, hr15, h⟩ := ob h
          try simp only [hb2, hb4, hb11, hb14, Nat.reduceBEq, Nat.reduceMul, Nat.reduceAdd, Nat.reduceDiv, Int.reduceBEq, rules2, rowsX]
          refine go_callI (w_laws_toClosureS _ _ hr15) rfl rfl (Nat.le_of_ble_eq_true rfl) ?_
          obtain ⟨r16, hr16, h⟩ := ob h
          try simp only [hb2, hb4, hb11, hb14, Nat.reduceBEq, Nat.reduceMul, Nat.reduceAdd, Nat.reduceDiv, Int.reduceBEq, rules2, rowsX]
          refine go_call (w_laws_eqClosureS _ _ _ hr16) rfl (flat_of rfl) rfl (Nat.le_of_ble_eq_true rfl) ?_
          rcases Bool.eq_false_or_eq_true r16 with hb17 | hb17
          · rw [ite_t hb17] at h
            try simp only [hb2, hb4, hb11, hb14, hb17, Nat.reduceBEq, Nat.reduceMul, Nat.reduceAdd, Nat.reduceDiv, Int.reduceBEq, rules2, rowsX]
            cases h
            exact ⟨⟨rfl, trivial⟩, rfl⟩
          · rw [ite_f hb17] at h
            try simp only [hb2, hb4, hb11, hb14, hb17, Nat.reduceBEq, Nat.reduceMul, Nat.reduceAdd, Nat.reduceDiv, Int.reduceBEq, rules2, rowsX]
            cases h
            exact ⟨⟨rfl, trivial⟩, rfl⟩
        · rw [ite_f hb14] at h
          try simp only [hb2, hb4, hb11, hb14, Nat.reduceBEq, Nat.reduceMul, Nat.reduceAdd, Nat.reduceDiv, Int.reduceBEq, rules2, rowsX]
          cases h
          exact ⟨⟨rfl, trivial⟩, rfl⟩
      · rw [ite_f hb11] at h
        try simp only [hb2, hb4, hb11, Nat.reduceBEq, Nat.reduceMul, Nat.reduceAdd, Nat.reduceDiv, Int.reduceBEq, rules2, rowsX]
        cases h
        exact ⟨⟨rfl, trivial⟩, rfl⟩
end Go.Vi
