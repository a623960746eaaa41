/-
  Walks: what the plain definitions compute is what the functions return. By program. No condition.
-/
import Derived.Test.YtdgobmphhncomaaDoorTNf
import Derived.Test.YtdgobmphhncomaaDoorChecked
import Derived.Test.YtdgobmphhncomaaDoorTSh
import Derived.KernelRfl
import Derived.Test.YtdgobmphhncomaaDoorTWTextsa
namespace Go.Vi
open Go.Proofs
set_option linter.unusedSimpArgs false
set_option linter.unusedVariables false
set_option maxRecDepth 4000
set_option maxHeartbeats 2000000
attribute [local irreducible] go AWP
/- 3: laws_FnTexts -/
def c_laws_FnTexts_1 : ACode := .seq (.reg [(none, .keep [3, 4, 5, 6, 10, 83, 84] [3, 4, 6] [1728, 1729, 2496])]) (.seq (.reg [(none, .bin 85 .lss (S 84) (S 83))]) (.seq (.cond (S 85) .skip (.exit 0)) (.seq (.block 1 (.seq (.reg [(none, .mv 86 (S 84)), (none, .mv 12 (S 86))]) (.seq (.drw [(some [], (none, .mv 87 (S 10))), (some [], (none, .mv 88 (S 12))), (some [], (none, .iaddr 89 (S 87) (S 88) 2)), (some [], (none, .load 90 (S 89) true 2)), (some [], (none, .mv 91 (S 5))), (some [], (none, .mv 92 (S 12))), (some [], (none, .iaddr 93 (S 91) (S 92) 2)), (some [], (none, .load 94 (S 93) true 2)), (some [], (none, .geq 95 true [.i, .i] (S 90) (S 94)))]) (.cond (S 95) (.seq (.reg [(none, .mv 2 (KB false))]) .ret) .skip)))) (.reg [(none, .bin 96 .add (S 84) (K 1)), (none, .mv 84 (S 96))]))))
def c_laws_FnTexts_2 : ACode := .seq (.reg [(none, .keep [3, 4, 6, 99, 100] [3, 4, 6] [1728, 1729])]) (.seq (.reg [(none, .bin 101 .lss (S 100) (S 99))]) (.seq (.cond (S 101) .skip (.exit 2)) (.seq (.block 3 (.seq (.reg [(none, .mv 102 (S 100)), (none, .mv 13 (S 102))]) (.seq (.drw [(some [], (none, .faddr 103 (S 6) 0)), (some [], (none, .load 104 (S 103) false 1)), (some [], (none, .mv 105 (S 13))), (some [], (none, .iaddr 106 (S 104) (S 105) 2)), (some [], (none, .load 107 (S 106) true 2)), (some [], (none, .faddr 108 (S 3) 0)), (some [], (none, .load 109 (S 108) false 1)), (some [], (none, .mv 110 (S 13))), (some [], (none, .iaddr 111 (S 109) (S 110) 2)), (some [], (none, .load 112 (S 111) true 2)), (some [], (none, .geq 113 true [.s, .b] (S 107) (S 112)))]) (.cond (S 113) (.seq (.reg [(none, .mv 2 (KB false))]) .ret) .skip)))) (.reg [(none, .bin 114 .add (S 100) (K 1)), (none, .mv 100 (S 114))]))))
def c_laws_FnTexts_3 : ACode := .seq (.reg [(none, .keep [3, 4, 6, 117, 118] [3, 4, 6] [1728, 1729])]) (.seq (.reg [(none, .bin 119 .lss (S 118) (S 117))]) (.seq (.cond (S 119) .skip (.exit 4)) (.seq (.block 5 (.seq (.reg [(none, .mv 120 (S 118)), (none, .mv 14 (S 120))]) (.seq (.drw [(some [], (none, .faddr 121 (S 6) 1)), (some [], (none, .load 122 (S 121) false 1)), (some [], (none, .mv 123 (S 14))), (some [], (none, .iaddr 124 (S 122) (S 123) 5)), (some [], (none, .load 125 (S 124) true 5)), (some [], (none, .faddr 126 (S 3) 1)), (some [], (none, .load 127 (S 126) false 1)), (some [], (none, .mv 128 (S 14))), (some [], (none, .iaddr 129 (S 127) (S 128) 5)), (some [], (none, .load 130 (S 129) true 5)), (some [], (none, .geq 131 true [.i, .i, .i, .i, .b] (S 125) (S 130)))]) (.cond (S 131) (.seq (.reg [(none, .mv 2 (KB false))]) .ret) .skip)))) (.reg [(none, .bin 132 .add (S 118) (K 1)), (none, .mv 118 (S 132))]))))
def c_laws_FnTexts_n3 : ACode := (.seq (.reg [(none, .load 133 (S 3) true 2), (none, .call 134 15 [(S 133)]), (none, .mv 135 (S 134)), (some (135, true), .load 136 (S 4) true 6), (some (135, true), .call 137 16 [(S 136)]), (none, .pick 138 (S 135) (S 137) (KB false)), (none, .mv 2 (S 138))]) .ret)
def c_laws_FnTexts_n2 : ACode := (.seq (.seq (.reg [(none, .faddr 115 (S 3) 1), (none, .load 116 (S 115) false 1), (none, .len 117 (S 116)), (none, .mv 118 (K 0))]) (.block 4 (.loop c_laws_FnTexts_3))) c_laws_FnTexts_n3)
def c_laws_FnTexts_n1 : ACode := (.seq (.seq (.reg [(none, .faddr 97 (S 3) 0), (none, .load 98 (S 97) false 1), (none, .len 99 (S 98)), (none, .mv 100 (K 0))]) (.block 2 (.loop c_laws_FnTexts_2))) c_laws_FnTexts_n2)
def c_laws_FnTexts : ACode := (.seq (.reg [(none, .mv 2 (KB false))]) (.seq (.seq (.reg [(none, .mv 15 (S 0)), (none, .len 16 (S 15)), (none, .bin 17 .gtr (S 16) (K 1048576))]) (.cond (S 17) (.seq (.reg [(none, .mv 2 (KB true))]) .ret) .skip)) (.seq (.reg [(none, .mv 18 (S 0)), (none, .call 19 6 [(S 18), (K 1)]), (none, .alloc 3 [.nil, .nil]), (none, .store (S 3) (S 19) 2)]) (.seq (.reg [(none, .mv 20 (S 0)), (none, .call 21 7 [(S 20), (K 60)]), (none, .alloc 4 [aS [], aI 0, aI 0, aI 0, aI 0, aB false]), (none, .store (S 4) (S 21) 6)]) (.seq (.reg [(none, .mv 22 (S 0)), (none, .call 23 8 [(S 22), (K 80)]), (none, .mv 5 (S 23))]) (.seq (.reg [(none, .load 25 (S 3) true 2), (none, .call 26 10 [(S 25)]), (none, .call 27 9 [(S 26)]), (none, .mv 24 (S 27)), (none, .extr 28 (S 24) 0), (none, .extr 29 (S 24) 1), (none, .alloc 6 [.nil, .nil]), (none, .store (S 6) (S 28) 2), (none, .mv 7 (S 29))]) (.seq (.reg [(none, .load 31 (S 4) true 6), (none, .call 32 12 [(S 31)]), (none, .call 33 11 [(S 32)]), (none, .mv 30 (S 33)), (none, .extr 34 (S 30) 0), (none, .extr 35 (S 30) 1), (none, .alloc 8 [aS [], aI 0, aI 0, aI 0, aI 0, aB false]), (none, .store (S 8) (S 34) 6), (none, .mv 9 (S 35))]) (.seq (.reg [(none, .mv 37 (S 5)), (none, .call 38 14 [(S 37)]), (none, .call 39 13 [(S 38)]), (none, .mv 36 (S 39)), (none, .extr 40 (S 36) 0), (none, .extr 41 (S 36) 1), (none, .mv 10 (S 40)), (none, .mv 11 (S 41))]) (.seq (.seq (.reg [(none, .mv 42 (S 7)), (none, .un 43 .not (S 42)), (none, .mv 44 (S 43)), (some (44, false), .mv 45 (S 9)), (some (44, false), .un 46 .not (S 45)), (none, .pick 47 (S 44) (KB true) (S 46)), (none, .mv 48 (S 47)), (some (48, false), .mv 49 (S 11)), (some (48, false), .un 50 .not (S 49)), (none, .pick 51 (S 48) (KB true) (S 50)), (none, .mv 52 (S 51)), (some (52, false), .load 53 (S 8) true 6), (some (52, false), .load 54 (S 4) true 6), (some (52, false), .geq 55 true [.s, .i, .i, .i, .i, .b] (S 53) (S 54)), (none, .pick 56 (S 52) (KB true) (S 55)), (none, .mv 57 (S 56)), (some (57, false), .mv 58 (S 10)), (some (57, false), .len 59 (S 58)), (some (57, false), .mv 60 (S 5)), (some (57, false), .len 61 (S 60)), (some (57, false), .bin 62 .neq (S 59) (S 61)), (none, .pick 63 (S 57) (KB true) (S 62)), (none, .mv 64 (S 63)), (some (64, false), .faddr 65 (S 6) 0), (some (64, false), .load 66 (S 65) false 1), (some (64, false), .len 67 (S 66)), (some (64, false), .faddr 68 (S 3) 0), (some (64, false), .load 69 (S 68) false 1), (some (64, false), .len 70 (S 69)), (some (64, false), .bin 71 .neq (S 67) (S 70)), (none, .pick 72 (S 64) (KB true) (S 71)), (none, .mv 73 (S 72)), (some (73, false), .faddr 74 (S 6) 1), (some (73, false), .load 75 (S 74) false 1), (some (73, false), .len 76 (S 75)), (some (73, false), .faddr 77 (S 3) 1), (some (73, false), .load 78 (S 77) false 1), (some (73, false), .len 79 (S 78)), (some (73, false), .bin 80 .neq (S 76) (S 79)), (none, .pick 81 (S 73) (KB true) (S 80))]) (.cond (S 81) (.seq (.reg [(none, .mv 2 (KB false))]) .ret) .skip)) (.seq (.seq (.reg [(none, .mv 82 (S 5)), (none, .len 83 (S 82)), (none, .mv 84 (K 0))]) (.block 0 (.loop c_laws_FnTexts_1))) c_laws_FnTexts_n1))))))))))
theorem w_laws_FnTexts_3 (r2 : XChart) (r3 : XShip) (r6 : XChart × Bool) : ∀ (n : Nat) (v29 : Int) (r : Bool), f_laws_FnTexts_3 r2 r3 r6 n v29 = some r → ∀ σ : St, σ.kept [3, 4, 6, 117, 118] [3, 4, 6] [1728, 1729] = ⟨[(3, vc (.pb 3 0)), (4, vc (.pb 4 0)), (6, vc (.pb 6 0)), (117, vc (aI (r2.Segments.length : Int))), (118, vc (aI v29))], [(3, [aL (List.map XPoint.row r2.Points), aL (List.map XSegment.row r2.Segments)]), (4, [aS r3.Name, aI r3.Length, aI r3.Draught, aI r3.Line, aI r3.Tugs, aB r3.Slow]), (6, [.own 1728, .own 1729])], [(1728, 2, List.map XPoint.row r6.1.Points), (1729, 5, List.map XSegment.row r6.1.Segments)]⟩ → go Tryd.prog (.code (.loop c_laws_FnTexts_3) :: [.blk 4, .code c_laws_FnTexts_n3]) (Ret [2] [.sc (.v (.bool r))]) .normal (some σ) := by
  intro n
  induction n with
  | zero => intro _ r h; cases h
  | succ n ih =>
    intro v29 r h σ hσ
    rw [f_laws_FnTexts_3] at h
    refine go_round ?_
    rcases Bool.eq_false_or_eq_true (decide (v29 < (r2.Segments.length : Int))) with hb30 | hb30
    · rw [ite_t hb30] at h
      try simp only [hσ, hb30, c_laws_FnTexts_3, Nat.reduceBEq, Nat.reduceMul, Nat.reduceAdd, Nat.reduceDiv, Int.reduceBEq, rules2, rulesX, rowsX]
      refine go_fr_of rfl ?_
      obtain ⟨x31, hx31, h⟩ := ob h
      have hx31n := ix_get hx31
      obtain ⟨x32, hx32, h⟩ := ob h
      rcases Bool.eq_false_or_eq_true ((x31.A == x32.A) && ((x31.B == x32.B) && ((x31.Depth == x32.Depth) && ((x31.Minutes == x32.Minutes) && ((x31.Meet == x32.Meet) && true))))) with hb33 | hb33
      · rw [ite_t hb33] at h
        try simp only [hb30, hx31, hx31n, hx32, hb33, Nat.reduceBEq, Nat.reduceMul, Nat.reduceAdd, Nat.reduceDiv, Int.reduceBEq, rules2, rulesX, rowsX]
        refine ih _ _ h _ ?_
        try simp only [hb30, hx31, hx31n, hx32, hb33, Nat.reduceBEq, Nat.reduceMul, Nat.reduceAdd, Nat.reduceDiv, Int.reduceBEq, rules2, rulesX, rowsX, List.map_nil]
      · rw [ite_f hb33] at h
        try simp only [hb30, hx31, hx31n, hx32, hb33, Nat.reduceBEq, Nat.reduceMul, Nat.reduceAdd, Nat.reduceDiv, Int.reduceBEq, rules2, rulesX, rowsX]
        cases h
        exact ⟨⟨rfl, trivial⟩, rfl⟩
    · rw [ite_f hb30] at h
      obtain ⟨r34, hr34, h⟩ := ob h
      try simp only [hσ, hb30, c_laws_FnTexts_3, c_laws_FnTexts_n3, Nat.reduceBEq, Nat.reduceMul, Nat.reduceAdd, Nat.reduceDiv, Int.reduceBEq, rules2, rulesX, rowsX]
      refine go_callI (w_impl_ChartOk _ _ hr34) rfl rfl (Nat.le_of_ble_eq_true rfl) ?_
      rcases Bool.eq_false_or_eq_true r34 with hb35 | hb35
      · rw [ite_t hb35] at h
        obtain ⟨r36, hr36, h⟩ := ob h
        try simp only [hb30, hb35, Nat.reduceBEq, Nat.reduceMul, Nat.reduceAdd, Nat.reduceDiv, Int.reduceBEq, rules2, rulesX, rowsX]
        refine go_callI (w_impl_ShipOk _ _ hr36) rfl rfl (Nat.le_of_ble_eq_true rfl) ?_
        try simp only [hb30, hb35, Nat.reduceBEq, Nat.reduceMul, Nat.reduceAdd, Nat.reduceDiv, Int.reduceBEq, rules2, rulesX, rowsX]
        cases h
        exact ⟨⟨rfl, trivial⟩, rfl⟩
      · rw [ite_f hb35] at h
        try simp only [hb30, hb35, Nat.reduceBEq, Nat.reduceMul, Nat.reduceAdd, Nat.reduceDiv, Int.reduceBEq, rules2, rulesX, rowsX]
        cases h
        exact ⟨⟨rfl, trivial⟩, rfl⟩
theorem w_laws_FnTexts_2 (r2 : XChart) (r3 : XShip) (r6 : XChart × Bool) : ∀ (n : Nat) (v24 : Int) (r : Bool), f_laws_FnTexts_2 r2 r3 r6 n v24 = some r → ∀ σ : St, σ.kept [3, 4, 6, 99, 100] [3, 4, 6] [1728, 1729] = ⟨[(3, vc (.pb 3 0)), (4, vc (.pb 4 0)), (6, vc (.pb 6 0)), (99, vc (aI (r2.Points.length : Int))), (100, vc (aI v24))], [(3, [aL (List.map XPoint.row r2.Points), aL (List.map XSegment.row r2.Segments)]), (4, [aS r3.Name, aI r3.Length, aI r3.Draught, aI r3.Line, aI r3.Tugs, aB r3.Slow]), (6, [.own 1728, .own 1729])], [(1728, 2, List.map XPoint.row r6.1.Points), (1729, 5, List.map XSegment.row r6.1.Segments)]⟩ → go Tryd.prog (.code (.loop c_laws_FnTexts_2) :: [.blk 2, .code c_laws_FnTexts_n2]) (Ret [2] [.sc (.v (.bool r))]) .normal (some σ) := by
  intro n
  induction n with
  | zero => intro _ r h; cases h
  | succ n ih =>
    intro v24 r h σ hσ
    rw [f_laws_FnTexts_2] at h
    refine go_round ?_
    rcases Bool.eq_false_or_eq_true (decide (v24 < (r2.Points.length : Int))) with hb25 | hb25
    · rw [ite_t hb25] at h
      try simp only [hσ, hb25, c_laws_FnTexts_2, Nat.reduceBEq, Nat.reduceMul, Nat.reduceAdd, Nat.reduceDiv, Int.reduceBEq, rules2, rulesX, rowsX]
      refine go_fr_of rfl ?_
      obtain ⟨x26, hx26, h⟩ := ob h
      have hx26n := ix_get hx26
      obtain ⟨x27, hx27, h⟩ := ob h
      rcases Bool.eq_false_or_eq_true ((x26.Name == x27.Name) && ((x26.Wait == x27.Wait) && true)) with hb28 | hb28
      · rw [ite_t hb28] at h
        try simp only [hb25, hx26, hx26n, hx27, hb28, Nat.reduceBEq, Nat.reduceMul, Nat.reduceAdd, Nat.reduceDiv, Int.reduceBEq, rules2, rulesX, rowsX]
        refine ih _ _ h _ ?_
        try simp only [hb25, hx26, hx26n, hx27, hb28, Nat.reduceBEq, Nat.reduceMul, Nat.reduceAdd, Nat.reduceDiv, Int.reduceBEq, rules2, rulesX, rowsX, List.map_nil]
      · rw [ite_f hb28] at h
        try simp only [hb25, hx26, hx26n, hx27, hb28, Nat.reduceBEq, Nat.reduceMul, Nat.reduceAdd, Nat.reduceDiv, Int.reduceBEq, rules2, rulesX, rowsX]
        cases h
        exact ⟨⟨rfl, trivial⟩, rfl⟩
    · rw [ite_f hb25] at h
      try simp only [hσ, hb25, c_laws_FnTexts_2, c_laws_FnTexts_n2, Nat.reduceBEq, Nat.reduceMul, Nat.reduceAdd, Nat.reduceDiv, Int.reduceBEq, rules2, rulesX, rowsX]
      refine w_laws_FnTexts_3 _ _ _ _ _ _ h _ ?_
      try simp only [hb25, Nat.reduceBEq, Nat.reduceMul, Nat.reduceAdd, Nat.reduceDiv, Int.reduceBEq, rules2, rulesX, rowsX, List.map_nil]
theorem w_laws_FnTexts_1 (r4 : (List XWindow)) (r2 : XChart) (r3 : XShip) (r6 : XChart × Bool) (r11 : (List XWindow) × Bool) : ∀ (n : Nat) (v19 : Int) (r : Bool), f_laws_FnTexts_1 r4 r2 r3 r6 r11 n v19 = some r → ∀ σ : St, σ.kept [3, 4, 5, 6, 10, 83, 84] [3, 4, 6] [1728, 1729, 2496] = ⟨[(3, vc (.pb 3 0)), (4, vc (.pb 4 0)), (5, vc (aL (List.map XWindow.row r4))), (6, vc (.pb 6 0)), (10, vc (.own 2496)), (83, vc (aI (r4.length : Int))), (84, vc (aI v19))], [(3, [aL (List.map XPoint.row r2.Points), aL (List.map XSegment.row r2.Segments)]), (4, [aS r3.Name, aI r3.Length, aI r3.Draught, aI r3.Line, aI r3.Tugs, aB r3.Slow]), (6, [.own 1728, .own 1729])], [(1728, 2, List.map XPoint.row r6.1.Points), (1729, 5, List.map XSegment.row r6.1.Segments), (2496, 2, List.map XWindow.row r11.1)]⟩ → go Tryd.prog (.code (.loop c_laws_FnTexts_1) :: [.blk 0, .code c_laws_FnTexts_n1]) (Ret [2] [.sc (.v (.bool r))]) .normal (some σ) := by
  intro n
  induction n with
  | zero => intro _ r h; cases h
  | succ n ih =>
    intro v19 r h σ hσ
    rw [f_laws_FnTexts_1] at h
    refine go_round ?_
    rcases Bool.eq_false_or_eq_true (decide (v19 < (r4.length : Int))) with hb20 | hb20
    · rw [ite_t hb20] at h
      try simp only [hσ, hb20, c_laws_FnTexts_1, Nat.reduceBEq, Nat.reduceMul, Nat.reduceAdd, Nat.reduceDiv, Int.reduceBEq, rules2, rulesX, rowsX]
      refine go_fr_of rfl ?_
      obtain ⟨x21, hx21, h⟩ := ob h
      have hx21n := ix_get hx21
      obtain ⟨x22, hx22, h⟩ := ob h
      rcases Bool.eq_false_or_eq_true ((x21.From == x22.From) && ((x21.To == x22.To) && true)) with hb23 | hb23
      · rw [ite_t hb23] at h
        try simp only [hb20, hx21, hx21n, hx22, hb23, Nat.reduceBEq, Nat.reduceMul, Nat.reduceAdd, Nat.reduceDiv, Int.reduceBEq, rules2, rulesX, rowsX]
        refine ih _ _ h _ ?_
        try simp only [hb20, hx21, hx21n, hx22, hb23, Nat.reduceBEq, Nat.reduceMul, Nat.reduceAdd, Nat.reduceDiv, Int.reduceBEq, rules2, rulesX, rowsX, List.map_nil]
      · rw [ite_f hb23] at h
        try simp only [hb20, hx21, hx21n, hx22, hb23, Nat.reduceBEq, Nat.reduceMul, Nat.reduceAdd, Nat.reduceDiv, Int.reduceBEq, rules2, rulesX, rowsX]
        cases h
        exact ⟨⟨rfl, trivial⟩, rfl⟩
    · rw [ite_f hb20] at h
      try simp only [hσ, hb20, c_laws_FnTexts_1, c_laws_FnTexts_n1, Nat.reduceBEq, Nat.reduceMul, Nat.reduceAdd, Nat.reduceDiv, Int.reduceBEq, rules2, rulesX, rowsX]
      refine w_laws_FnTexts_2 _ _ _ _ _ _ h _ ?_
      try simp only [hb20, Nat.reduceBEq, Nat.reduceMul, Nat.reduceAdd, Nat.reduceDiv, Int.reduceBEq, rules2, rulesX, rowsX, List.map_nil]
theorem e_laws_FnTexts : entry Tryd.prog 3 = some (c_laws_FnTexts.strip, [2], 139) := by kernel_rfl
theorem w_laws_FnTexts (a0 : List Int) (r : Bool) (h : f_laws_FnTexts a0 = some r) : FC Tryd.prog 3 [.sc (.sl (List.map r8 a0))] [.sc (.v (.bool r))] := by
  unfold f_laws_FnTexts at h
  refine FC_go (σ := ⟨[(0, vc (aL (List.map r8 a0)))], [], []⟩) mixed e_laws_FnTexts rfl rfl ?_
  simp only [c_laws_FnTexts]
  rcases Bool.eq_false_or_eq_true (decide ((1048576 : Int) < (a0.length : Int))) with hb1 | hb1
  · rw [ite_t hb1] at h
    try simp only [hb1, Nat.reduceBEq, Nat.reduceMul, Nat.reduceAdd, Nat.reduceDiv, Int.reduceBEq, rules2, rulesX, rowsX]
    cases h
    exact ⟨⟨rfl, trivial⟩, rfl⟩
  · rw [ite_f hb1] at h
    obtain ⟨r2, hr2, h⟩ := ob h
    try simp only [hb1, Nat.reduceBEq, Nat.reduceMul, Nat.reduceAdd, Nat.reduceDiv, Int.reduceBEq, rules2, rulesX, rowsX]
    refine go_callI (w_spec_MakeChart _ _ _ hr2) rfl rfl (Nat.le_of_ble_eq_true rfl) ?_
    try simp only [hb1, Nat.reduceBEq, Nat.reduceMul, Nat.reduceAdd, Nat.reduceDiv, Int.reduceBEq, rules2, rulesX, rowsX]
    refine go_al rfl rfl ?_
    obtain ⟨r3, hr3, h⟩ := ob h
    try simp only [hb1, Nat.reduceBEq, Nat.reduceMul, Nat.reduceAdd, Nat.reduceDiv, Int.reduceBEq, rules2, rulesX, rowsX]
    refine go_callI (w_spec_MakeShip _ _ _ hr3) rfl rfl (Nat.le_of_ble_eq_true rfl) ?_
    try simp only [hb1, Nat.reduceBEq, Nat.reduceMul, Nat.reduceAdd, Nat.reduceDiv, Int.reduceBEq, rules2, rulesX, rowsX]
    refine go_al rfl rfl ?_
    obtain ⟨r4, hr4, h⟩ := ob h
    try simp only [hb1, Nat.reduceBEq, Nat.reduceMul, Nat.reduceAdd, Nat.reduceDiv, Int.reduceBEq, rules2, rulesX, rowsX]
    refine go_callI (w_spec_MakeWindows _ _ _ hr4) rfl rfl (Nat.le_of_ble_eq_true rfl) ?_
    obtain ⟨r5, hr5, h⟩ := ob h
    try simp only [hb1, Nat.reduceBEq, Nat.reduceMul, Nat.reduceAdd, Nat.reduceDiv, Int.reduceBEq, rules2, rulesX, rowsX]
    refine go_callI (w_impl_FormatChart _ _ hr5) rfl rfl (Nat.le_of_ble_eq_true rfl) ?_
    obtain ⟨r6, hr6, h⟩ := ob h
    try simp only [hb1, Nat.reduceBEq, Nat.reduceMul, Nat.reduceAdd, Nat.reduceDiv, Int.reduceBEq, rules2, rulesX, rowsX]
    refine go_callI (w_impl_ParseChart _ _ hr6) rfl rfl (Nat.le_of_ble_eq_true rfl) ?_
    try simp only [hb1, Nat.reduceBEq, Nat.reduceMul, Nat.reduceAdd, Nat.reduceDiv, Int.reduceBEq, rules2, rulesX, rowsX]
    refine go_al rfl rfl ?_
    obtain ⟨r7, hr7, h⟩ := ob h
    try simp only [hb1, Nat.reduceBEq, Nat.reduceMul, Nat.reduceAdd, Nat.reduceDiv, Int.reduceBEq, rules2, rulesX, rowsX]
    refine go_callI (w_impl_FormatShip _ _ hr7) rfl rfl (Nat.le_of_ble_eq_true rfl) ?_
    obtain ⟨r9, hr9, h⟩ := ob h
    try simp only [hb1, Nat.reduceBEq, Nat.reduceMul, Nat.reduceAdd, Nat.reduceDiv, Int.reduceBEq, rules2, rulesX, rowsX]
    refine go_callI (w_impl_ParseShip _ _ hr9) rfl rfl (Nat.le_of_ble_eq_true rfl) ?_
    try simp only [hb1, Nat.reduceBEq, Nat.reduceMul, Nat.reduceAdd, Nat.reduceDiv, Int.reduceBEq, rules2, rulesX, rowsX]
    refine go_al rfl rfl ?_
    obtain ⟨r10, hr10, h⟩ := ob h
    try simp only [hb1, Nat.reduceBEq, Nat.reduceMul, Nat.reduceAdd, Nat.reduceDiv, Int.reduceBEq, rules2, rulesX, rowsX]
    refine go_callI (w_impl_FormatWindows _ _ hr10) rfl rfl (Nat.le_of_ble_eq_true rfl) ?_
    obtain ⟨r11, hr11, h⟩ := ob h
    try simp only [hb1, Nat.reduceBEq, Nat.reduceMul, Nat.reduceAdd, Nat.reduceDiv, Int.reduceBEq, rules2, rulesX, rowsX]
    refine go_callI (w_impl_ParseWindows _ _ hr11) rfl rfl (Nat.le_of_ble_eq_true rfl) ?_
    rcases Bool.eq_false_or_eq_true r6.2 with hb12 | hb12
    · rw [ite_t hb12] at h
      rcases Bool.eq_false_or_eq_true r9.2 with hb13 | hb13
      · rw [ite_t hb13] at h
        rcases Bool.eq_false_or_eq_true r11.2 with hb14 | hb14
        · rw [ite_t hb14] at h
          rcases Bool.eq_false_or_eq_true ((r9.1.Name == r3.Name) && ((r9.1.Length == r3.Length) && ((r9.1.Draught == r3.Draught) && ((r9.1.Line == r3.Line) && ((r9.1.Tugs == r3.Tugs) && ((r9.1.Slow == r3.Slow) && true)))))) with hb15 | hb15
          · rw [ite_t hb15] at h
            rcases Bool.eq_false_or_eq_true ((r11.1.length : Int) != (r4.length : Int)) with hb16 | hb16
            · rw [ite_t hb16] at h
              try simp only [hb1, hb12, hb13, hb14, hb15, hb16, Nat.reduceBEq, Nat.reduceMul, Nat.reduceAdd, Nat.reduceDiv, Int.reduceBEq, rules2, rulesX, rowsX]
              cases h
              exact ⟨⟨rfl, trivial⟩, rfl⟩
            · rw [ite_f hb16] at h
              rcases Bool.eq_false_or_eq_true ((r6.1.Points.length : Int) != (r2.Points.length : Int)) with hb17 | hb17
              · rw [ite_t hb17] at h
                try simp only [hb1, hb12, hb13, hb14, hb15, hb16, hb17, Nat.reduceBEq, Nat.reduceMul, Nat.reduceAdd, Nat.reduceDiv, Int.reduceBEq, rules2, rulesX, rowsX]
                cases h
                exact ⟨⟨rfl, trivial⟩, rfl⟩
              · rw [ite_f hb17] at h
                rcases Bool.eq_false_or_eq_true ((r6.1.Segments.length : Int) != (r2.Segments.length : Int)) with hb18 | hb18
                · rw [ite_t hb18] at h
                  try simp only [hb1, hb12, hb13, hb14, hb15, hb16, hb17, hb18, Nat.reduceBEq, Nat.reduceMul, Nat.reduceAdd, Nat.reduceDiv, Int.reduceBEq, rules2, rulesX, rowsX]
                  cases h
                  exact ⟨⟨rfl, trivial⟩, rfl⟩
                · rw [ite_f hb18] at h
                  try simp only [hb1, hb12, hb13, hb14, hb15, hb16, hb17, hb18, Nat.reduceBEq, Nat.reduceMul, Nat.reduceAdd, Nat.reduceDiv, Int.reduceBEq, rules2, rulesX, rowsX]
                  refine w_laws_FnTexts_1 _ _ _ _ _ _ _ _ h _ ?_
                  try simp only [hb1, hb12, hb13, hb14, hb15, hb16, hb17, hb18, Nat.reduceBEq, Nat.reduceMul, Nat.reduceAdd, Nat.reduceDiv, Int.reduceBEq, rules2, rulesX, rowsX, List.map_nil]
          · rw [ite_f hb15] at h
            try simp only [hb1, hb12, hb13, hb14, hb15, Nat.reduceBEq, Nat.reduceMul, Nat.reduceAdd, Nat.reduceDiv, Int.reduceBEq, rules2, rulesX, rowsX]
            cases h
            exact ⟨⟨rfl, trivial⟩, rfl⟩
        · rw [ite_f hb14] at h
          try simp only [hb1, hb12, hb13, hb14, Nat.reduceBEq, Nat.reduceMul, Nat.reduceAdd, Nat.reduceDiv, Int.reduceBEq, rules2, rulesX, rowsX]
          cases h
          exact ⟨⟨rfl, trivial⟩, rfl⟩
      · rw [ite_f hb13] at h
        try simp only [hb1, hb12, hb13, Nat.reduceBEq, Nat.reduceMul, Nat.reduceAdd, Nat.reduceDiv, Int.reduceBEq, rules2, rulesX, rowsX]
        cases h
        exact ⟨⟨rfl, trivial⟩, rfl⟩
    · rw [ite_f hb12] at h
      try simp only [hb1, hb12, Nat.reduceBEq, Nat.reduceMul, Nat.reduceAdd, Nat.reduceDiv, Int.reduceBEq, rules2, rulesX, rowsX]
      cases h
      exact ⟨⟨rfl, trivial⟩, rfl⟩
end Go.Vi
