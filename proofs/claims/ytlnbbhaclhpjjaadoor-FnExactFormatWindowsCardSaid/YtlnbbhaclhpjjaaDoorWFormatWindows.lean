/-
  Walks: what the plain definitions compute is what the functions return. By program. No condition.
-/
import Derived.Test.YtlnbbhaclhpjjaaDoorNf
import Derived.Test.YtlnbbhaclhpjjaaDoorChecked
import Derived.Test.YtlnbbhaclhpjjaaDoorSh
import Derived.KernelRfl
namespace Go.Vi
open Go.Proofs
set_option linter.unusedSimpArgs false
set_option linter.unusedVariables false
attribute [local irreducible] go AWP
theorem mixed : Tryd.prog.follows .mixedOrders = true := by kernel_rfl
/- 24: laws_szWindowS -/
def c_laws_szWindowS : ACode := (.seq (.reg [(none, .mv 4 (K 0))]) (.seq (.reg [(none, .mv 5 (S 1)), (none, .mv 6 (S 0)), (none, .len 7 (S 6)), (none, .bin 8 .sub (S 5) (S 7)), (none, .mv 1 (S 8))]) (.seq (.seq (.reg [(none, .mv 9 (S 1)), (none, .bin 10 .lss (S 9) (K 0))]) (.cond (S 10) (.seq (.reg [(none, .mv 4 (K (-1)))]) .ret) .skip)) (.seq (.reg [(none, .mv 11 (S 1)), (none, .mv 4 (S 11))]) .ret))))
theorem e_laws_szWindowS : entry Tryd.prog 24 = some (c_laws_szWindowS.strip, [4], 12) := by kernel_rfl
theorem w_laws_szWindowS (a0 : List XWindow) (a1 : Int) (r : Int) (h : f_laws_szWindowS a0 a1 = some r) : FC Tryd.prog 24 [.sc (.sl (List.map XWindow.row a0)), .sc (.int .i64 a1)] [.sc (.v (.int .i64 r))] := by
  unfold f_laws_szWindowS at h
  refine FC_go (σ := ⟨[(0, vc (aL (List.map XWindow.row a0))), (1, vc (aI a1))], [], []⟩) mixed e_laws_szWindowS rfl rfl ?_
  simp only [c_laws_szWindowS]
  rcases Bool.eq_false_or_eq_true (decide ((IntKind.i64.wrap (a1 - (a0.length : Int))) < (0 : Int))) with hb1 | hb1
  · rw [ite_t hb1] at h
    try simp only [hb1, Nat.reduceBEq, Nat.reduceMul, Nat.reduceAdd, Nat.reduceDiv, Int.reduceBEq, rules2, rowsX]
    cases h
    exact ⟨⟨rfl, trivial⟩, rfl⟩
  · rw [ite_f hb1] at h
    try simp only [hb1, Nat.reduceBEq, Nat.reduceMul, Nat.reduceAdd, Nat.reduceDiv, Int.reduceBEq, rules2, rowsX]
    cases h
    exact ⟨⟨rfl, trivial⟩, rfl⟩
/- 72: laws_toWindow -/
def c_laws_toWindow : ACode := (.seq (.reg [(none, .box 1 (S 0)), (none, .alloc 2 [aI 0, aI 0])]) (.seq (.reg [(none, .alloc 3 [aI 0, aI 0])]) (.seq (.reg [(none, .faddr 4 (S 1) 0), (none, .load 5 (S 4) false 1), (none, .faddr 6 (S 3) 0), (none, .store (S 6) (S 5) 1)]) (.seq (.reg [(none, .faddr 7 (S 1) 1), (none, .load 8 (S 7) false 1), (none, .faddr 9 (S 3) 1), (none, .store (S 9) (S 8) 1)]) (.seq (.reg [(none, .load 10 (S 3) true 2), (none, .store (S 2) (S 10) 2)]) .ret)))))
theorem e_laws_toWindow : entry Tryd.prog 72 = some (c_laws_toWindow.strip, [.c 2 true 2], 11) := by kernel_rfl
theorem w_laws_toWindow (a0 : XWindow) (r : XWindow) (h : f_laws_toWindow a0 = some r) : FC Tryd.prog 72 [.ag (XWindow.row a0)] [.ag [.v (.int .i64 r.From), .v (.int .i64 r.To)]] := by
  unfold f_laws_toWindow at h
  refine FC_go (σ := ⟨[(0, va [aI a0.From, aI a0.To])], [], []⟩) mixed e_laws_toWindow rfl rfl ?_
  simp only [c_laws_toWindow]
  try simp only [Nat.reduceBEq, Nat.reduceMul, Nat.reduceAdd, Nat.reduceDiv, Int.reduceBEq, rules2, rowsX]
  refine go_bx rfl rfl rfl ?_
  try simp only [Nat.reduceBEq, Nat.reduceMul, Nat.reduceAdd, Nat.reduceDiv, Int.reduceBEq, rules2, rowsX]
  refine go_al rfl rfl ?_
  try simp only [Nat.reduceBEq, Nat.reduceMul, Nat.reduceAdd, Nat.reduceDiv, Int.reduceBEq, rules2, rowsX]
  refine go_al rfl rfl ?_
  try simp only [Nat.reduceBEq, Nat.reduceMul, Nat.reduceAdd, Nat.reduceDiv, Int.reduceBEq, rules2, rowsX]
  cases h
  try simp only [rulesR, Nat.reduceBEq, Nat.reduceMul, Nat.reduceAdd, Nat.reduceDiv, Int.reduceBEq, rules2, rowsX]
  exact ⟨⟨⟨rfl, rfl, trivial⟩, trivial⟩, rfl⟩
/- 26: laws_toWindowS -/
def c_laws_toWindowS_1 : ACode := .seq (.reg [(none, .keep [0, 3, 4] [] [448])]) (.seq (.seq (.reg [(none, .mv 8 (S 4)), (none, .mv 9 (S 0)), (none, .len 10 (S 9)), (none, .bin 11 .lss (S 8) (S 10))]) (.cond (S 11) .skip (.exit 0))) (.seq (.block 1 (.reg [(none, .mv 14 (S 3)), (none, .mv 15 (S 4)), (none, .mv 16 (S 0)), (none, .mv 17 (S 4)), (none, .iaddr 18 (S 16) (S 17) 2), (none, .load 19 (S 18) true 2), (none, .call 20 72 [(S 19)]), (none, .iaddr 21 (S 14) (S 15) 2), (none, .store (S 21) (S 20) 2)])) (.reg [(none, .mv 12 (S 4)), (none, .bin 13 .add (S 12) (K 1)), (none, .mv 4 (S 13))])))
def c_laws_toWindowS_n1 : ACode := (.seq (.reg [(none, .mv 22 (S 3)), (none, .mv 2 (S 22))]) .ret)
def c_laws_toWindowS : ACode := (.seq (.reg [(none, .mv 2 KN)]) (.seq (.reg [(none, .mv 5 (S 0)), (none, .len 6 (S 5)), (none, .mksl 7 2 16 [.int .i64 0, .int .i64 0] (S 6) (S 6)), (none, .mv 3 (S 7))]) (.seq (.seq (.reg [(none, .mv 4 (K 0))]) (.block 0 (.loop c_laws_toWindowS_1))) c_laws_toWindowS_n1)))
theorem w_laws_toWindowS_1 (a0 : List XWindow) : ∀ (n : Nat) (v2 : Int) (v3 : List XWindow) (r : (List XWindow)), f_laws_toWindowS_1 a0 n v2 v3 = some r → ∀ σ : St, σ.kept [0, 3, 4] [] [448] = ⟨[(0, vc (aL (List.map XWindow.row a0))), (3, vc (.own 448)), (4, vc (aI v2))], [], [(448, 2, List.map XWindow.row v3)]⟩ → go Tryd.prog (.code (.loop c_laws_toWindowS_1) :: [.blk 0, .code c_laws_toWindowS_n1]) (Ret [2] [.sc (.o 2 (List.map XWindow.row r))]) .normal (some σ) := by
  intro n
  induction n with
  | zero => intro _ _ r h; cases h
  | succ n ih =>
    intro v2 v3 r h σ hσ
    rw [f_laws_toWindowS_1] at h
    refine go_round ?_
    rcases Bool.eq_false_or_eq_true (decide (v2 < (a0.length : Int))) with hb4 | hb4
    · rw [ite_t hb4] at h
      obtain ⟨x5, hx5, h⟩ := ob h
      obtain ⟨r6, hr6, h⟩ := ob h
      try simp only [hσ, hb4, hx5, c_laws_toWindowS_1, Nat.reduceBEq, Nat.reduceMul, Nat.reduceAdd, Nat.reduceDiv, Int.reduceBEq, rules2, rowsX]
      refine go_callI (w_laws_toWindow _ _ hr6) rfl rfl (Nat.le_of_ble_eq_true rfl) ?_
      obtain ⟨x7, hx7, h⟩ := ob h
      have hx7n := ix_get hx7
      try simp only [hb4, hx5, hx7, Nat.reduceBEq, Nat.reduceMul, Nat.reduceAdd, Nat.reduceDiv, Int.reduceBEq, rules2, rowsX]
      refine go_stp (y := r6) rfl rfl hx7n rfl rfl rfl ?_
      try simp only [hb4, hx5, hx7, Nat.reduceBEq, Nat.reduceMul, Nat.reduceAdd, Nat.reduceDiv, Int.reduceBEq, rules2, rowsX]
      refine ih _ _ _ h _ ?_
      try simp only [hb4, hx5, hx7, Nat.reduceBEq, Nat.reduceMul, Nat.reduceAdd, Nat.reduceDiv, Int.reduceBEq, rules2, rowsX, List.map_nil]
    · rw [ite_f hb4] at h
      try simp only [hσ, hb4, c_laws_toWindowS_1, c_laws_toWindowS_n1, Nat.reduceBEq, Nat.reduceMul, Nat.reduceAdd, Nat.reduceDiv, Int.reduceBEq, rules2, rowsX]
      cases h
      exact ⟨⟨rfl, trivial⟩, rfl⟩
theorem e_laws_toWindowS : entry Tryd.prog 26 = some (c_laws_toWindowS.strip, [2], 23) := by kernel_rfl
theorem w_laws_toWindowS (a0 : List XWindow) (r : (List XWindow)) (h : f_laws_toWindowS a0 = some r) : FC Tryd.prog 26 [.sc (.sl (List.map XWindow.row a0))] [.sc (.o 2 (List.map XWindow.row r))] := by
  unfold f_laws_toWindowS at h
  refine FC_go (σ := ⟨[(0, vc (aL (List.map XWindow.row a0)))], [], []⟩) mixed e_laws_toWindowS rfl rfl ?_
  simp only [c_laws_toWindowS]
  obtain ⟨n1, hn1, h⟩ := ob h
  try simp only [Nat.reduceBEq, Nat.reduceMul, Nat.reduceAdd, Nat.reduceDiv, Int.reduceBEq, rules2, rowsX]
  refine go_mks (es := List.map XWindow.row (List.replicate n1 (⟨(0 : Int), (0 : Int)⟩ : XWindow))) rfl rfl hn1 rfl (rep_map rfl) rfl ?_
  try simp only [Nat.reduceBEq, Nat.reduceMul, Nat.reduceAdd, Nat.reduceDiv, Int.reduceBEq, rules2, rowsX]
  refine w_laws_toWindowS_1 _ _ _ _ _ h _ ?_
  try simp only [Nat.reduceBEq, Nat.reduceMul, Nat.reduceAdd, Nat.reduceDiv, Int.reduceBEq, rules2, rowsX, List.map_nil]
/- 51: spec_l01In -/
def c_spec_l01In : ACode := (.seq (.reg [(none, .mv 6 (KB false))]) (.seq (.reg [(none, .mv 7 (S 0)), (none, .mv 8 (S 1)), (none, .bin 9 .geq (S 7) (S 8)), (none, .mv 10 (S 9)), (some (10, true), .mv 11 (S 0)), (some (10, true), .mv 12 (S 2)), (some (10, true), .bin 13 .leq (S 11) (S 12)), (none, .pick 14 (S 10) (S 13) (KB false)), (none, .mv 6 (S 14))]) .ret))
theorem e_spec_l01In : entry Tryd.prog 51 = some (c_spec_l01In.strip, [6], 15) := by kernel_rfl
theorem w_spec_l01In (a0 : Int) (a1 : Int) (a2 : Int) (r : Bool) (h : f_spec_l01In a0 a1 a2 = some r) : FC Tryd.prog 51 [.sc (.int .i64 a0), .sc (.int .i64 a1), .sc (.int .i64 a2)] [.sc (.v (.bool r))] := by
  unfold f_spec_l01In at h
  refine FC_go (σ := ⟨[(0, vc (aI a0)), (1, vc (aI a1)), (2, vc (aI a2))], [], []⟩) mixed e_spec_l01In rfl rfl ?_
  simp only [c_spec_l01In]
  rcases Bool.eq_false_or_eq_true (decide (a1 ≤ a0)) with hb1 | hb1
  · rw [ite_t hb1] at h
    try simp only [hb1, Nat.reduceBEq, Nat.reduceMul, Nat.reduceAdd, Nat.reduceDiv, Int.reduceBEq, rules2, rowsX]
    cases h
    exact ⟨⟨rfl, trivial⟩, rfl⟩
  · rw [ite_f hb1] at h
    try simp only [hb1, Nat.reduceBEq, Nat.reduceMul, Nat.reduceAdd, Nat.reduceDiv, Int.reduceBEq, rules2, rowsX]
    cases h
    exact ⟨⟨rfl, trivial⟩, rfl⟩
/- 71: spec_WindowsOk -/
def c_spec_WindowsOk_1 : ACode := .seq (.reg [(none, .keep [0, 5, 6, 7] [] [])]) (.seq (.reg [(none, .bin 8 .lss (S 7) (S 6))]) (.seq (.cond (S 8) .skip (.exit 0)) (.seq (.block 1 (.seq (.reg [(none, .mv 9 (S 7)), (none, .iaddr 10 (S 5) (S 7) 2), (none, .load 11 (S 10) true 2), (none, .alloc 4 [aI 0, aI 0]), (none, .mv 3 (S 9)), (none, .store (S 4) (S 11) 2)]) (.seq (.drw [(some [], (none, .faddr 12 (S 4) 0)), (some [], (none, .load 13 (S 12) false 1)), (some [], (none, .call 14 51 [(S 13), (K 0), (K 2880)])), (some [], (none, .un 15 .not (S 14))), (some [], (none, .mv 16 (S 15))), (some [], (some (16, false), .faddr 17 (S 4) 1)), (some [], (some (16, false), .load 18 (S 17) false 1)), (some [], (some (16, false), .faddr 19 (S 4) 0)), (some [], (some (16, false), .load 20 (S 19) false 1)), (some [], (some (16, false), .call 21 51 [(S 18), (S 20), (K 2880)])), (some [], (some (16, false), .un 22 .not (S 21))), (some [], (none, .pick 23 (S 16) (KB true) (S 22))), (some [], (none, .mv 24 (S 23))), (some [], (some (24, false), .mv 25 (S 3))), (some [], (some (24, false), .bin 26 .gtr (S 25) (K 0))), (some [], (some (24, false), .mv 27 (S 26))), (some [], (some (27, true), .faddr 28 (S 4) 0)), (some [], (some (27, true), .load 29 (S 28) false 1)), (some [], (some (27, true), .mv 30 (S 0))), (some [], (some (27, true), .mv 31 (S 3))), (some [], (some (27, true), .bin 32 .sub (S 31) (K 1))), (some [], (some (27, true), .iaddr 33 (S 30) (S 32) 2)), (some [], (some (27, true), .faddr 34 (S 33) 1)), (some [], (some (27, true), .load 35 (S 34) false 1)), (some [], (some (27, true), .bin 36 .add (S 35) (K 1))), (some [], (some (27, true), .bin 37 .leq (S 29) (S 36))), (some [], (some (24, false), .pick 38 (S 27) (S 37) (KB false))), (some [], (none, .pick 39 (S 24) (KB true) (S 38)))]) (.cond (S 39) (.seq (.reg [(none, .mv 2 (KB false))]) .ret) .skip)))) (.reg [(none, .bin 40 .add (S 7) (K 1)), (none, .mv 7 (S 40))]))))
def c_spec_WindowsOk_n1 : ACode := (.seq (.reg [(none, .mv 2 (KB true))]) .ret)
def c_spec_WindowsOk : ACode := (.seq (.reg [(none, .mv 2 (KB false))]) (.seq (.seq (.reg [(none, .mv 5 (S 0)), (none, .len 6 (S 5)), (none, .mv 7 (K 0))]) (.block 0 (.loop c_spec_WindowsOk_1))) c_spec_WindowsOk_n1))
theorem w_spec_WindowsOk_1 (a0 : List XWindow) : ∀ (n : Nat) (v1 : Int) (r : Bool), f_spec_WindowsOk_1 a0 n v1 = some r → ∀ σ : St, σ.kept [0, 5, 6, 7] [] [] = ⟨[(0, vc (aL (List.map XWindow.row a0))), (5, vc (aL (List.map XWindow.row a0))), (6, vc (aI (a0.length : Int))), (7, vc (aI v1))], [], []⟩ → go Tryd.prog (.code (.loop c_spec_WindowsOk_1) :: [.blk 0, .code c_spec_WindowsOk_n1]) (Ret [2] [.sc (.v (.bool r))]) .normal (some σ) := by
  intro n
  induction n with
  | zero => intro _ r h; cases h
  | succ n ih =>
    intro v1 r h σ hσ
    rw [f_spec_WindowsOk_1] at h
    refine go_round ?_
    rcases Bool.eq_false_or_eq_true (decide (v1 < (a0.length : Int))) with hb2 | hb2
    · rw [ite_t hb2] at h
      obtain ⟨x3, hx3, h⟩ := ob h
      try simp only [hσ, hb2, hx3, c_spec_WindowsOk_1, Nat.reduceBEq, Nat.reduceMul, Nat.reduceAdd, Nat.reduceDiv, Int.reduceBEq, rules2, rowsX]
      refine go_al rfl rfl ?_
      try simp only [hb2, hx3, Nat.reduceBEq, Nat.reduceMul, Nat.reduceAdd, Nat.reduceDiv, Int.reduceBEq, rules2, rowsX]
      refine go_fr_of rfl ?_
      obtain ⟨r4, hr4, h⟩ := ob h
      try simp only [hb2, hx3, Nat.reduceBEq, Nat.reduceMul, Nat.reduceAdd, Nat.reduceDiv, Int.reduceBEq, rules2, rowsX]
      refine go_dcallI (w_spec_l01In _ _ _ _ hr4) rfl rfl (Nat.le_of_ble_eq_true rfl) ?_
      rcases Bool.eq_false_or_eq_true r4 with hb5 | hb5
      · rw [ite_t hb5] at h
        obtain ⟨r6, hr6, h⟩ := ob h
        try simp only [hb2, hx3, hb5, Nat.reduceBEq, Nat.reduceMul, Nat.reduceAdd, Nat.reduceDiv, Int.reduceBEq, rules2, rowsX]
        refine go_dcallI (w_spec_l01In _ _ _ _ hr6) rfl rfl (Nat.le_of_ble_eq_true rfl) ?_
        rcases Bool.eq_false_or_eq_true r6 with hb7 | hb7
        · rw [ite_t hb7] at h
          rcases Bool.eq_false_or_eq_true (decide ((0 : Int) < v1)) with hb8 | hb8
          · rw [ite_t hb8] at h
            obtain ⟨x9, hx9, h⟩ := ob h
            rcases Bool.eq_false_or_eq_true (decide (x3.From ≤ (IntKind.i64.wrap (x9.To + (1 : Int))))) with hb10 | hb10
            · rw [ite_t hb10] at h
              try simp only [hb2, hx3, hb5, hb7, hb8, hx9, hb10, Nat.reduceBEq, Nat.reduceMul, Nat.reduceAdd, Nat.reduceDiv, Int.reduceBEq, rules2, rowsX]
              cases h
              exact ⟨⟨rfl, trivial⟩, rfl⟩
            · rw [ite_f hb10] at h
              try simp only [hb2, hx3, hb5, hb7, hb8, hx9, hb10, Nat.reduceBEq, Nat.reduceMul, Nat.reduceAdd, Nat.reduceDiv, Int.reduceBEq, rules2, rowsX]
              refine ih _ _ h _ ?_
              try simp only [hb2, hx3, hb5, hb7, hb8, hx9, hb10, Nat.reduceBEq, Nat.reduceMul, Nat.reduceAdd, Nat.reduceDiv, Int.reduceBEq, rules2, rowsX, List.map_nil]
          · rw [ite_f hb8] at h
            try simp only [hb2, hx3, hb5, hb7, hb8, Nat.reduceBEq, Nat.reduceMul, Nat.reduceAdd, Nat.reduceDiv, Int.reduceBEq, rules2, rowsX]
            refine ih _ _ h _ ?_
            try simp only [hb2, hx3, hb5, hb7, hb8, Nat.reduceBEq, Nat.reduceMul, Nat.reduceAdd, Nat.reduceDiv, Int.reduceBEq, rules2, rowsX, List.map_nil]
        · rw [ite_f hb7] at h
          try simp only [hb2, hx3, hb5, hb7, Nat.reduceBEq, Nat.reduceMul, Nat.reduceAdd, Nat.reduceDiv, Int.reduceBEq, rules2, rowsX]
          cases h
          exact ⟨⟨rfl, trivial⟩, rfl⟩
      · rw [ite_f hb5] at h
        try simp only [hb2, hx3, hb5, Nat.reduceBEq, Nat.reduceMul, Nat.reduceAdd, Nat.reduceDiv, Int.reduceBEq, rules2, rowsX]
        cases h
        exact ⟨⟨rfl, trivial⟩, rfl⟩
    · rw [ite_f hb2] at h
      try simp only [hσ, hb2, c_spec_WindowsOk_1, c_spec_WindowsOk_n1, Nat.reduceBEq, Nat.reduceMul, Nat.reduceAdd, Nat.reduceDiv, Int.reduceBEq, rules2, rowsX]
      cases h
      exact ⟨⟨rfl, trivial⟩, rfl⟩
theorem e_spec_WindowsOk : entry Tryd.prog 71 = some (c_spec_WindowsOk.strip, [2], 41) := by kernel_rfl
theorem w_spec_WindowsOk (a0 : List XWindow) (r : Bool) (h : f_spec_WindowsOk a0 = some r) : FC Tryd.prog 71 [.sc (.sl (List.map XWindow.row a0))] [.sc (.v (.bool r))] := by
  unfold f_spec_WindowsOk at h
  refine FC_go (σ := ⟨[(0, vc (aL (List.map XWindow.row a0)))], [], []⟩) mixed e_spec_WindowsOk rfl rfl ?_
  simp only [c_spec_WindowsOk]
  try simp only [Nat.reduceBEq, Nat.reduceMul, Nat.reduceAdd, Nat.reduceDiv, Int.reduceBEq, rules2, rowsX]
  refine w_spec_WindowsOk_1 _ _ _ _ h _ ?_
  try simp only [Nat.reduceBEq, Nat.reduceMul, Nat.reduceAdd, Nat.reduceDiv, Int.reduceBEq, rules2, rowsX, List.map_nil]
/- 52: spec_FormatInt -/
def c_spec_FormatInt_1 : ACode := .seq (.reg [(none, .keep [0, 3] [] [])]) (.seq (.seq (.reg [(none, .mv 25 (S 0)), (none, .bin 26 .gtr (S 25) (K 9))]) (.cond (S 26) .skip (.exit 0))) (.block 1 (.seq (.reg [(none, .mv 27 (S 0)), (none, .bin 28 .rem (S 27) (K 10)), (none, .bin 29 .add (K 48) (S 28)), (none, .conv 30 .u8 (S 29)), (none, .bslice 31 1 [.int .u8 0] 1 [(0, (S 30))]), (none, .sconv 32 (S 31)), (none, .mv 33 (S 3)), (none, .bin 34 .add (S 32) (S 33)), (none, .mv 3 (S 34))]) (.reg [(none, .mv 35 (S 0)), (none, .bin 36 .quo (S 35) (K 10)), (none, .mv 0 (S 36))]))))
def c_spec_FormatInt_n1 : ACode := (.seq (.reg [(none, .mv 37 (S 0)), (none, .bin 38 .add (K 48) (S 37)), (none, .conv 39 .u8 (S 38)), (none, .bslice 40 1 [.int .u8 0] 1 [(0, (S 39))]), (none, .sconv 41 (S 40)), (none, .mv 42 (S 3)), (none, .bin 43 .add (S 41) (S 42)), (none, .mv 2 (S 43))]) .ret)
def c_spec_FormatInt : ACode := (.seq (.reg [(none, .mv 2 (KS []))]) (.seq (.seq (.reg [(none, .mv 4 (S 0)), (none, .bin 5 .lss (S 4) (K 0))]) (.cond (S 5) (.seq (.seq (.reg [(none, .mv 6 (S 0)), (none, .bin 7 .quo (S 6) (K 10)), (none, .bin 8 .eql (S 7) (K 0))]) (.cond (S 8) (.seq (.reg [(none, .mv 9 (S 0)), (none, .bin 10 .sub (K 48) (S 9)), (none, .conv 11 .u8 (S 10)), (none, .bslice 12 1 [.int .u8 0] 1 [(0, (S 11))]), (none, .sconv 13 (S 12)), (none, .bin 14 .add (KS [45]) (S 13)), (none, .mv 2 (S 14))]) .ret) .skip)) (.seq (.drw [(some [22], (none, .mv 15 (S 0))), (some [22], (none, .bin 16 .quo (S 15) (K 10))), (some [22], (none, .call 17 52 [(S 16)])), (some [17], (none, .mv 18 (S 0))), (some [17], (none, .bin 19 .rem (S 18) (K 10))), (some [17], (none, .bin 20 .sub (K 48) (S 19))), (some [17], (none, .conv 21 .u8 (S 20))), (some [17], (none, .bslice 22 1 [.int .u8 0] 1 [(0, (S 21))])), (some [17], (none, .sconv 23 (S 22))), (some [], (none, .bin 24 .add (S 17) (S 23))), (some [], (none, .mv 2 (S 24)))]) .ret)) .skip)) (.seq (.reg [(none, .mv 3 (KS []))]) (.seq (.block 0 (.loop c_spec_FormatInt_1)) c_spec_FormatInt_n1))))
theorem w_spec_FormatInt_1 (rec_ : Int → Option (List UInt8)) (h_rec : ∀ (a0 : Int) zr, rec_ a0 = some zr → FC Tryd.prog 52 [.sc (.int .i64 a0)] [.sc (.v (.str zr))]) : ∀ (n : Nat) (v6 : Int) (v7 : List UInt8) (r : (List UInt8)), f_spec_FormatInt_1 rec_ n v6 v7 = some r → ∀ σ : St, σ.kept [0, 3] [] [] = ⟨[(0, vc (aI v6)), (3, vc (aS v7))], [], []⟩ → go Tryd.prog (.code (.loop c_spec_FormatInt_1) :: [.blk 0, .code c_spec_FormatInt_n1]) (Ret [2] [.sc (.v (.str r))]) .normal (some σ) := by
  intro n
  induction n with
  | zero => intro _ _ r h; cases h
  | succ n ih =>
    intro v6 v7 r h σ hσ
    rw [f_spec_FormatInt_1] at h
    refine go_round ?_
    rcases Bool.eq_false_or_eq_true (decide ((9 : Int) < v6)) with hb8 | hb8
    · rw [ite_t hb8] at h
      try simp only [hσ, hb8, c_spec_FormatInt_1, Nat.reduceBEq, Nat.reduceMul, Nat.reduceAdd, Nat.reduceDiv, Int.reduceBEq, rules2, rowsX]
      refine go_bsl (es := List.map r8 ([(IntKind.u8.wrap (IntKind.i64.wrap ((48 : Int) + (IntKind.i64.wrap (Int.tmod v6 (10 : Int))))))] : List Int)) rfl rfl ?_
      obtain ⟨hg9, h⟩ := of_guard h
      try simp only [hb8, hg9, Nat.reduceBEq, Nat.reduceMul, Nat.reduceAdd, Nat.reduceDiv, Int.reduceBEq, rules2, rowsX]
      refine ih _ _ _ h _ ?_
      try simp only [hb8, hg9, Nat.reduceBEq, Nat.reduceMul, Nat.reduceAdd, Nat.reduceDiv, Int.reduceBEq, rules2, rowsX, List.map_nil]
    · rw [ite_f hb8] at h
      try simp only [hσ, hb8, c_spec_FormatInt_1, c_spec_FormatInt_n1, Nat.reduceBEq, Nat.reduceMul, Nat.reduceAdd, Nat.reduceDiv, Int.reduceBEq, rules2, rowsX]
      refine go_bsl (es := List.map r8 ([(IntKind.u8.wrap (IntKind.i64.wrap ((48 : Int) + v6)))] : List Int)) rfl rfl ?_
      obtain ⟨hg10, h⟩ := of_guard h
      try simp only [hb8, hg10, Nat.reduceBEq, Nat.reduceMul, Nat.reduceAdd, Nat.reduceDiv, Int.reduceBEq, rules2, rowsX]
      cases h
      exact ⟨⟨rfl, trivial⟩, rfl⟩
theorem e_spec_FormatInt : entry Tryd.prog 52 = some (c_spec_FormatInt.strip, [2], 44) := by kernel_rfl
theorem w_spec_FormatInt_b (rec_ : Int → Option (List UInt8)) (a0 : Int) (r : (List UInt8)) (h_rec : ∀ (a0 : Int) zr, rec_ a0 = some zr → FC Tryd.prog 52 [.sc (.int .i64 a0)] [.sc (.v (.str zr))]) (h : f_spec_FormatInt_b rec_ a0 = some r) : FC Tryd.prog 52 [.sc (.int .i64 a0)] [.sc (.v (.str r))] := by
  unfold f_spec_FormatInt_b at h
  refine FC_go (σ := ⟨[(0, vc (aI a0))], [], []⟩) mixed e_spec_FormatInt rfl rfl ?_
  simp only [c_spec_FormatInt]
  rcases Bool.eq_false_or_eq_true (decide (a0 < (0 : Int))) with hb1 | hb1
  · rw [ite_t hb1] at h
    rcases Bool.eq_false_or_eq_true ((IntKind.i64.wrap (Int.tdiv a0 (10 : Int))) == (0 : Int)) with hb2 | hb2
    · rw [ite_t hb2] at h
      try simp only [hb1, hb2, Nat.reduceBEq, Nat.reduceMul, Nat.reduceAdd, Nat.reduceDiv, Int.reduceBEq, rules2, rowsX]
      refine go_bsl (es := List.map r8 ([(IntKind.u8.wrap (IntKind.i64.wrap ((48 : Int) - a0)))] : List Int)) rfl rfl ?_
      obtain ⟨hg3, h⟩ := of_guard h
      try simp only [hb1, hb2, hg3, Nat.reduceBEq, Nat.reduceMul, Nat.reduceAdd, Nat.reduceDiv, Int.reduceBEq, rules2, rowsX]
      cases h
      exact ⟨⟨rfl, trivial⟩, rfl⟩
    · rw [ite_f hb2] at h
      try simp only [hb1, hb2, Nat.reduceBEq, Nat.reduceMul, Nat.reduceAdd, Nat.reduceDiv, Int.reduceBEq, rules2, rowsX]
      refine go_fr_of rfl ?_
      obtain ⟨r4, hr4, h⟩ := ob h
      try simp only [hb1, hb2, Nat.reduceBEq, Nat.reduceMul, Nat.reduceAdd, Nat.reduceDiv, Int.reduceBEq, rules2, rowsX]
      refine go_dcallI (h_rec _ _ hr4) rfl rfl (Nat.le_of_ble_eq_true rfl) ?_
      try simp only [hb1, hb2, Nat.reduceBEq, Nat.reduceMul, Nat.reduceAdd, Nat.reduceDiv, Int.reduceBEq, rules2, rowsX]
      refine go_mkN (m := .row 22 1 (List.map r8 ([(IntKind.u8.wrap (IntKind.i64.wrap ((48 : Int) - (IntKind.i64.wrap (Int.tmod a0 (10 : Int))))))] : List Int))) rfl rfl (make_row rfl) ?_
      obtain ⟨hg5, h⟩ := of_guard h
      try simp only [hb1, hb2, hg5, Nat.reduceBEq, Nat.reduceMul, Nat.reduceAdd, Nat.reduceDiv, Int.reduceBEq, rules2, rowsX]
      cases h
      exact ⟨⟨rfl, trivial⟩, rfl⟩
  · rw [ite_f hb1] at h
    try simp only [hb1, Nat.reduceBEq, Nat.reduceMul, Nat.reduceAdd, Nat.reduceDiv, Int.reduceBEq, rules2, rowsX]
    refine w_spec_FormatInt_1 rec_ h_rec _ _ _ _ h _ ?_
    try simp only [hb1, Nat.reduceBEq, Nat.reduceMul, Nat.reduceAdd, Nat.reduceDiv, Int.reduceBEq, rules2, rowsX, List.map_nil]
theorem w_spec_FormatInt_r : ∀ (n : Nat) (a0 : Int) (r : (List UInt8)), f_spec_FormatInt_r n a0 = some r → FC Tryd.prog 52 [.sc (.int .i64 a0)] [.sc (.v (.str r))] := by
  intro n
  induction n with
  | zero => intro _ r h; cases h
  | succ n ih => intro a0 r h; rw [f_spec_FormatInt_r] at h; exact w_spec_FormatInt_b (f_spec_FormatInt_r n) a0 r ih h
theorem w_spec_FormatInt (a0 : Int) (r : (List UInt8)) (h : f_spec_FormatInt a0 = some r) : FC Tryd.prog 52 [.sc (.int .i64 a0)] [.sc (.v (.str r))] := w_spec_FormatInt_r bigN a0 r h
/- 68: spec_Join -/
def c_spec_Join_2 : ACode := .seq (.reg [(none, .keep [1, 5, 7, 8, 9, 10] [] [])]) (.reg [(none, .mv 20 (S 5)), (none, .mv 21 (S 7)), (none, .bin 22 .add (S 20) (S 21)), (none, .mv 5 (S 22))])
def c_spec_Join_n2 : ACode := (.reg [(none, .bin 23 .add (S 10) (K 1)), (none, .mv 10 (S 23))])
def c_spec_Join_1 : ACode := .seq (.reg [(none, .keep [1, 5, 8, 9, 10] [] [])]) (.seq (.reg [(none, .bin 11 .lss (S 10) (S 9))]) (.seq (.cond (S 11) .skip (.exit 0)) (.seq (.block 1 (.seq (.reg [(none, .mv 12 (S 10)), (none, .iaddr 13 (S 8) (S 10) 1), (none, .load 14 (S 13) false 1), (none, .mv 6 (S 12)), (none, .mv 7 (S 14))]) (.seq (.seq (.reg [(none, .mv 15 (S 6)), (none, .bin 16 .gtr (S 15) (K 0))]) (.cond (S 16) (.reg [(none, .mv 17 (S 5)), (none, .mv 18 (S 1)), (none, .bin 19 .add (S 17) (S 18)), (none, .mv 5 (S 19))]) .skip)) c_spec_Join_2))) c_spec_Join_n2)))
def c_spec_Join_n1 : ACode := (.seq (.reg [(none, .mv 24 (S 5)), (none, .mv 4 (S 24))]) .ret)
def c_spec_Join : ACode := (.seq (.reg [(none, .mv 4 (KS []))]) (.seq (.reg [(none, .mv 5 (KS []))]) (.seq (.seq (.reg [(none, .mv 8 (S 0)), (none, .len 9 (S 8)), (none, .mv 10 (K 0))]) (.block 0 (.loop c_spec_Join_1))) c_spec_Join_n1)))
theorem w_spec_Join_2 (a1 : List UInt8) (x4 : List UInt8) (a0 : List (List UInt8)) (v2 : Int) (k_spec_Join_1 : (List UInt8) → Int → Option (List UInt8)) (hk_spec_Join_1 : ∀ (v1 : List UInt8) (v2 : Int) zr, k_spec_Join_1 v1 v2 = some zr → ∀ σ : St, σ.kept [1, 5, 8, 9, 10] [] [] = ⟨[(1, vc (aS a1)), (5, vc (aS v1)), (8, vc (aL (List.map rS a0))), (9, vc (aI (a0.length : Int))), (10, vc (aI v2))], [], []⟩ → go Tryd.prog (.code (.loop c_spec_Join_1) :: [.blk 0, .code c_spec_Join_n1]) (Ret [4] [.sc (.v (.str zr))]) .normal (some σ)) (v7 : List UInt8) (r : (List UInt8)) (h : f_spec_Join_2 a1 x4 a0 v2 k_spec_Join_1 v7 = some r) (σ : St) (hσ : σ.kept [1, 5, 7, 8, 9, 10] [] [] = ⟨[(1, vc (aS a1)), (5, vc (aS v7)), (7, vc (aS x4)), (8, vc (aL (List.map rS a0))), (9, vc (aI (a0.length : Int))), (10, vc (aI v2))], [], []⟩) : go Tryd.prog (.code c_spec_Join_2 :: [.blk 1, .code c_spec_Join_n2, .code (.loop c_spec_Join_1), .blk 0, .code c_spec_Join_n1]) (Ret [4] [.sc (.v (.str r))]) .normal (some σ) := by
  unfold f_spec_Join_2 at h
  obtain ⟨hg8, h⟩ := of_guard h
  try simp only [hσ, hg8, c_spec_Join_2, c_spec_Join_n2, Nat.reduceBEq, Nat.reduceMul, Nat.reduceAdd, Nat.reduceDiv, Int.reduceBEq, rules2, rowsX]
  refine hk_spec_Join_1 _ _ _ h _ ?_
  try simp only [hg8, Nat.reduceBEq, Nat.reduceMul, Nat.reduceAdd, Nat.reduceDiv, Int.reduceBEq, rules2, rowsX, List.map_nil]
theorem w_spec_Join_1 (a1 : List UInt8) (a0 : List (List UInt8)) : ∀ (n : Nat) (v1 : List UInt8) (v2 : Int) (r : (List UInt8)), f_spec_Join_1 a1 a0 n v1 v2 = some r → ∀ σ : St, σ.kept [1, 5, 8, 9, 10] [] [] = ⟨[(1, vc (aS a1)), (5, vc (aS v1)), (8, vc (aL (List.map rS a0))), (9, vc (aI (a0.length : Int))), (10, vc (aI v2))], [], []⟩ → go Tryd.prog (.code (.loop c_spec_Join_1) :: [.blk 0, .code c_spec_Join_n1]) (Ret [4] [.sc (.v (.str r))]) .normal (some σ) := by
  intro n
  induction n with
  | zero => intro _ _ r h; cases h
  | succ n ih =>
    intro v1 v2 r h σ hσ
    rw [f_spec_Join_1] at h
    refine go_round ?_
    rcases Bool.eq_false_or_eq_true (decide (v2 < (a0.length : Int))) with hb3 | hb3
    · rw [ite_t hb3] at h
      obtain ⟨x4, hx4, h⟩ := ob h
      rcases Bool.eq_false_or_eq_true (decide ((0 : Int) < v2)) with hb5 | hb5
      · rw [ite_t hb5] at h
        obtain ⟨hg6, h⟩ := of_guard h
        try simp only [hσ, hb3, hx4, hb5, hg6, c_spec_Join_1, Nat.reduceBEq, Nat.reduceMul, Nat.reduceAdd, Nat.reduceDiv, Int.reduceBEq, rules2, rowsX]
        refine w_spec_Join_2 _ _ _ _ (f_spec_Join_1 a1 a0 n) ih _ _ h _ ?_
        try simp only [hb3, hx4, hb5, hg6, Nat.reduceBEq, Nat.reduceMul, Nat.reduceAdd, Nat.reduceDiv, Int.reduceBEq, rules2, rowsX, List.map_nil]
      · rw [ite_f hb5] at h
        try simp only [hσ, hb3, hx4, hb5, c_spec_Join_1, Nat.reduceBEq, Nat.reduceMul, Nat.reduceAdd, Nat.reduceDiv, Int.reduceBEq, rules2, rowsX]
        refine w_spec_Join_2 _ _ _ _ (f_spec_Join_1 a1 a0 n) ih _ _ h _ ?_
        try simp only [hb3, hx4, hb5, Nat.reduceBEq, Nat.reduceMul, Nat.reduceAdd, Nat.reduceDiv, Int.reduceBEq, rules2, rowsX, List.map_nil]
    · rw [ite_f hb3] at h
      try simp only [hσ, hb3, c_spec_Join_1, c_spec_Join_n1, Nat.reduceBEq, Nat.reduceMul, Nat.reduceAdd, Nat.reduceDiv, Int.reduceBEq, rules2, rowsX]
      cases h
      exact ⟨⟨rfl, trivial⟩, rfl⟩
theorem e_spec_Join : entry Tryd.prog 68 = some (c_spec_Join.strip, [4], 25) := by kernel_rfl
theorem w_spec_Join (a0 : List (List UInt8)) (a1 : List UInt8) (r : (List UInt8)) (h : f_spec_Join a0 a1 = some r) : FC Tryd.prog 68 [.sc (.sl (List.map rS a0)), .sc (.str a1)] [.sc (.v (.str r))] := by
  unfold f_spec_Join at h
  refine FC_go (σ := ⟨[(0, vc (aL (List.map rS a0))), (1, vc (aS a1))], [], []⟩) mixed e_spec_Join rfl rfl ?_
  simp only [c_spec_Join]
  try simp only [Nat.reduceBEq, Nat.reduceMul, Nat.reduceAdd, Nat.reduceDiv, Int.reduceBEq, rules2, rowsX]
  refine w_spec_Join_1 _ _ _ _ _ _ h _ ?_
  try simp only [Nat.reduceBEq, Nat.reduceMul, Nat.reduceAdd, Nat.reduceDiv, Int.reduceBEq, rules2, rowsX, List.map_nil]
/- 25: spec_FormatWindows -/
def c_spec_FormatWindows_1 : ACode := .seq (.reg [(none, .keep [3, 10, 11, 12] [] [576])]) (.seq (.reg [(none, .bin 13 .lss (S 12) (S 11))]) (.seq (.cond (S 13) .skip (.exit 0)) (.seq (.block 1 (.seq (.reg [(none, .iaddr 14 (S 10) (S 12) 2), (none, .load 15 (S 14) true 2), (none, .alloc 5 [aI 0, aI 0]), (none, .store (S 5) (S 15) 2)]) (.drw [(some [19, 23, 25], (none, .mv 16 (S 3))), (some [], (none, .faddr 17 (S 5) 0)), (some [], (none, .load 18 (S 17) false 1)), (some [], (none, .call 19 52 [(S 18)])), (some [23], (none, .bin 20 .add (S 19) (KS [45]))), (some [19], (none, .faddr 21 (S 5) 1)), (some [19], (none, .load 22 (S 21) false 1)), (some [], (none, .call 23 52 [(S 22)])), (some [], (none, .bin 24 .add (S 20) (S 23))), (some [], (none, .bslice 25 1 [.str []] 1 [(0, (S 24))])), (none, (none, .app 26 1 16 (S 16) (S 25))), (some [], (none, .mv 3 (S 26)))]))) (.reg [(none, .bin 27 .add (S 12) (K 1)), (none, .mv 12 (S 27))]))))
def c_spec_FormatWindows_n1 : ACode := (.seq (.seq (.reg [(none, .mv 28 (S 3)), (none, .len 29 (S 28)), (none, .bin 30 .eql (S 29) (K 0))]) (.cond (S 30) (.seq (.reg [(none, .mv 2 (KS [110, 111, 110, 101]))]) .ret) .skip)) (.seq (.reg [(none, .mv 31 (S 3)), (none, .call 32 68 [(S 31), (KS [32])]), (none, .mv 2 (S 32))]) .ret))
def c_spec_FormatWindows : ACode := (.seq (.reg [(none, .mv 2 (KS []))]) (.seq (.seq (.reg [(none, .mv 6 (S 0)), (none, .call 7 71 [(S 6)]), (none, .un 8 .not (S 7))]) (.cond (S 8) (.seq (.reg [(none, .mv 2 (KS []))]) .ret) .skip)) (.seq (.reg [(none, .bslice 9 1 [.str []] 0 []), (none, .mv 3 (S 9))]) (.seq (.seq (.reg [(none, .mv 10 (S 0)), (none, .len 11 (S 10)), (none, .mv 12 (K 0))]) (.block 0 (.loop c_spec_FormatWindows_1))) c_spec_FormatWindows_n1))))
theorem w_spec_FormatWindows_1 (a0 : List XWindow) : ∀ (n : Nat) (v3 : Int) (v4 : List (List UInt8)) (r : (List UInt8)), f_spec_FormatWindows_1 a0 n v3 v4 = some r → ∀ σ : St, σ.kept [3, 10, 11, 12] [] [576] = ⟨[(3, vc (.own 576)), (10, vc (aL (List.map XWindow.row a0))), (11, vc (aI (a0.length : Int))), (12, vc (aI v3))], [], [(576, 1, List.map rS v4)]⟩ → go Tryd.prog (.code (.loop c_spec_FormatWindows_1) :: [.blk 0, .code c_spec_FormatWindows_n1]) (Ret [2] [.sc (.v (.str r))]) .normal (some σ) := by
  intro n
  induction n with
  | zero => intro _ _ r h; cases h
  | succ n ih =>
    intro v3 v4 r h σ hσ
    rw [f_spec_FormatWindows_1] at h
    refine go_round ?_
    rcases Bool.eq_false_or_eq_true (decide (v3 < (a0.length : Int))) with hb5 | hb5
    · rw [ite_t hb5] at h
      obtain ⟨x6, hx6, h⟩ := ob h
      try simp only [hσ, hb5, hx6, c_spec_FormatWindows_1, Nat.reduceBEq, Nat.reduceMul, Nat.reduceAdd, Nat.reduceDiv, Int.reduceBEq, rules2, rowsX]
      refine go_al rfl rfl ?_
      try simp only [hb5, hx6, Nat.reduceBEq, Nat.reduceMul, Nat.reduceAdd, Nat.reduceDiv, Int.reduceBEq, rules2, rowsX]
      refine go_fr_of rfl ?_
      obtain ⟨r7, hr7, h⟩ := ob h
      try simp only [hb5, hx6, Nat.reduceBEq, Nat.reduceMul, Nat.reduceAdd, Nat.reduceDiv, Int.reduceBEq, rules2, rowsX]
      refine go_dcallI (w_spec_FormatInt _ _ hr7) rfl rfl (Nat.le_of_ble_eq_true rfl) ?_
      obtain ⟨hg8, h⟩ := of_guard h
      obtain ⟨r9, hr9, h⟩ := ob h
      try simp only [hb5, hx6, hg8, Nat.reduceBEq, Nat.reduceMul, Nat.reduceAdd, Nat.reduceDiv, Int.reduceBEq, rules2, rowsX]
      refine go_dcallI (w_spec_FormatInt _ _ hr9) rfl rfl (Nat.le_of_ble_eq_true rfl) ?_
      obtain ⟨hg10, h⟩ := of_guard h
      try simp only [hb5, hx6, hg8, hg10, Nat.reduceBEq, Nat.reduceMul, Nat.reduceAdd, Nat.reduceDiv, Int.reduceBEq, rules2, rowsX]
      refine go_bsl (es := List.map rS ([((r7 ++ ([45] : List UInt8)) ++ r9)] : List (List UInt8))) rfl rfl ?_
      obtain ⟨hg11, h⟩ := of_guard h
      try simp only [List.cons_append, List.nil_append] at hg11
      try simp only [hb5, hx6, hg8, hg10, hg11, Nat.reduceBEq, Nat.reduceMul, Nat.reduceAdd, Nat.reduceDiv, Int.reduceBEq, rules2, rowsX]
      refine go_fr_of rfl ?_
      try simp only [hb5, hx6, hg8, hg10, hg11, Nat.reduceBEq, Nat.reduceMul, Nat.reduceAdd, Nat.reduceDiv, Int.reduceBEq, rules2, rowsX]
      refine ih _ _ _ h _ ?_
      try simp only [hb5, hx6, hg8, hg10, hg11, Nat.reduceBEq, Nat.reduceMul, Nat.reduceAdd, Nat.reduceDiv, Int.reduceBEq, rules2, rowsX, List.map_nil]
    · rw [ite_f hb5] at h
      rcases Bool.eq_false_or_eq_true ((v4.length : Int) == (0 : Int)) with hb12 | hb12
      · rw [ite_t hb12] at h
        try simp only [hσ, hb5, hb12, c_spec_FormatWindows_1, c_spec_FormatWindows_n1, Nat.reduceBEq, Nat.reduceMul, Nat.reduceAdd, Nat.reduceDiv, Int.reduceBEq, rules2, rowsX]
        cases h
        exact ⟨⟨rfl, trivial⟩, rfl⟩
      · rw [ite_f hb12] at h
        obtain ⟨r13, hr13, h⟩ := ob h
        try simp only [hσ, hb5, hb12, c_spec_FormatWindows_1, c_spec_FormatWindows_n1, Nat.reduceBEq, Nat.reduceMul, Nat.reduceAdd, Nat.reduceDiv, Int.reduceBEq, rules2, rowsX]
        refine go_call (w_spec_Join _ _ _ hr13) rfl (flat_of rfl) rfl (Nat.le_of_ble_eq_true rfl) ?_
        try simp only [hb5, hb12, Nat.reduceBEq, Nat.reduceMul, Nat.reduceAdd, Nat.reduceDiv, Int.reduceBEq, rules2, rowsX]
        cases h
        exact ⟨⟨rfl, trivial⟩, rfl⟩
theorem e_spec_FormatWindows : entry Tryd.prog 25 = some (c_spec_FormatWindows.strip, [2], 33) := by kernel_rfl
theorem w_spec_FormatWindows (a0 : List XWindow) (r : (List UInt8)) (h : f_spec_FormatWindows a0 = some r) : FC Tryd.prog 25 [.sc (.sl (List.map XWindow.row a0))] [.sc (.v (.str r))] := by
  unfold f_spec_FormatWindows at h
  refine FC_go (σ := ⟨[(0, vc (aL (List.map XWindow.row a0)))], [], []⟩) mixed e_spec_FormatWindows rfl rfl ?_
  simp only [c_spec_FormatWindows]
  obtain ⟨r1, hr1, h⟩ := ob h
  try simp only [Nat.reduceBEq, Nat.reduceMul, Nat.reduceAdd, Nat.reduceDiv, Int.reduceBEq, rules2, rowsX]
  refine go_callI (w_spec_WindowsOk _ _ hr1) rfl rfl (Nat.le_of_ble_eq_true rfl) ?_
  rcases Bool.eq_false_or_eq_true r1 with hb2 | hb2
  · rw [ite_t hb2] at h
    try simp only [hb2, Nat.reduceBEq, Nat.reduceMul, Nat.reduceAdd, Nat.reduceDiv, Int.reduceBEq, rules2, rowsX]
    refine go_bsl (es := List.map rS ([] : List (List UInt8))) rfl rfl ?_
    try simp only [hb2, Nat.reduceBEq, Nat.reduceMul, Nat.reduceAdd, Nat.reduceDiv, Int.reduceBEq, rules2, rowsX]
    refine w_spec_FormatWindows_1 _ _ _ _ _ h _ ?_
    try simp only [hb2, Nat.reduceBEq, Nat.reduceMul, Nat.reduceAdd, Nat.reduceDiv, Int.reduceBEq, rules2, rowsX, List.map_nil]
  · rw [ite_f hb2] at h
    try simp only [hb2, Nat.reduceBEq, Nat.reduceMul, Nat.reduceAdd, Nat.reduceDiv, Int.reduceBEq, rules2, rowsX]
    cases h
    exact ⟨⟨rfl, trivial⟩, rfl⟩
/- 73: impl_WindowsOk -/
def c_impl_WindowsOk_1 : ACode := .seq (.reg [(none, .keep [0, 5, 6, 7] [] [])]) (.seq (.reg [(none, .bin 8 .lss (S 7) (S 6))]) (.seq (.cond (S 8) .skip (.exit 0)) (.seq (.block 1 (.seq (.reg [(none, .mv 9 (S 7)), (none, .iaddr 10 (S 5) (S 7) 2), (none, .load 11 (S 10) true 2), (none, .alloc 4 [aI 0, aI 0]), (none, .mv 3 (S 9)), (none, .store (S 4) (S 11) 2)]) (.seq (.drw [(some [], (none, .faddr 12 (S 4) 0)), (some [], (none, .load 13 (S 12) false 1)), (some [], (none, .bin 14 .lss (S 13) (K 0))), (some [], (none, .mv 15 (S 14))), (some [], (some (15, false), .faddr 16 (S 4) 0)), (some [], (some (15, false), .load 17 (S 16) false 1)), (some [], (some (15, false), .faddr 18 (S 4) 1)), (some [], (some (15, false), .load 19 (S 18) false 1)), (some [], (some (15, false), .bin 20 .gtr (S 17) (S 19))), (some [], (none, .pick 21 (S 15) (KB true) (S 20))), (some [], (none, .mv 22 (S 21))), (some [], (some (22, false), .faddr 23 (S 4) 1)), (some [], (some (22, false), .load 24 (S 23) false 1)), (some [], (some (22, false), .bin 25 .gtr (S 24) (K 2880))), (some [], (none, .pick 26 (S 22) (KB true) (S 25))), (some [], (none, .mv 27 (S 26))), (some [], (some (27, false), .mv 28 (S 3))), (some [], (some (27, false), .bin 29 .gtr (S 28) (K 0))), (some [], (some (27, false), .mv 30 (S 29))), (some [], (some (30, true), .mv 31 (S 0))), (some [], (some (30, true), .mv 32 (S 3))), (some [], (some (30, true), .bin 33 .sub (S 32) (K 1))), (some [], (some (30, true), .iaddr 34 (S 31) (S 33) 2)), (some [], (some (30, true), .faddr 35 (S 34) 1)), (some [], (some (30, true), .load 36 (S 35) false 1)), (some [], (some (30, true), .bin 37 .add (S 36) (K 1))), (some [], (some (30, true), .faddr 38 (S 4) 0)), (some [], (some (30, true), .load 39 (S 38) false 1)), (some [], (some (30, true), .bin 40 .geq (S 37) (S 39))), (some [], (some (27, false), .pick 41 (S 30) (S 40) (KB false))), (some [], (none, .pick 42 (S 27) (KB true) (S 41)))]) (.cond (S 42) (.seq (.reg [(none, .mv 2 (KB false))]) .ret) .skip)))) (.reg [(none, .bin 43 .add (S 7) (K 1)), (none, .mv 7 (S 43))]))))
def c_impl_WindowsOk_n1 : ACode := (.seq (.reg [(none, .mv 2 (KB true))]) .ret)
def c_impl_WindowsOk : ACode := (.seq (.reg [(none, .mv 2 (KB false))]) (.seq (.seq (.reg [(none, .mv 5 (S 0)), (none, .len 6 (S 5)), (none, .mv 7 (K 0))]) (.block 0 (.loop c_impl_WindowsOk_1))) c_impl_WindowsOk_n1))
theorem w_impl_WindowsOk_1 (a0 : List XWindow) : ∀ (n : Nat) (v1 : Int) (r : Bool), f_impl_WindowsOk_1 a0 n v1 = some r → ∀ σ : St, σ.kept [0, 5, 6, 7] [] [] = ⟨[(0, vc (aL (List.map XWindow.row a0))), (5, vc (aL (List.map XWindow.row a0))), (6, vc (aI (a0.length : Int))), (7, vc (aI v1))], [], []⟩ → go Tryd.prog (.code (.loop c_impl_WindowsOk_1) :: [.blk 0, .code c_impl_WindowsOk_n1]) (Ret [2] [.sc (.v (.bool r))]) .normal (some σ) := by
  intro n
  induction n with
  | zero => intro _ r h; cases h
  | succ n ih =>
    intro v1 r h σ hσ
    rw [f_impl_WindowsOk_1] at h
    refine go_round ?_
    rcases Bool.eq_false_or_eq_true (decide (v1 < (a0.length : Int))) with hb2 | hb2
    · rw [ite_t hb2] at h
      obtain ⟨x3, hx3, h⟩ := ob h
      try simp only [hσ, hb2, hx3, c_impl_WindowsOk_1, Nat.reduceBEq, Nat.reduceMul, Nat.reduceAdd, Nat.reduceDiv, Int.reduceBEq, rules2, rowsX]
      refine go_al rfl rfl ?_
      try simp only [hb2, hx3, Nat.reduceBEq, Nat.reduceMul, Nat.reduceAdd, Nat.reduceDiv, Int.reduceBEq, rules2, rowsX]
      refine go_fr_of rfl ?_
      rcases Bool.eq_false_or_eq_true (decide (x3.From < (0 : Int))) with hb4 | hb4
      · rw [ite_t hb4] at h
        try simp only [hb2, hx3, hb4, Nat.reduceBEq, Nat.reduceMul, Nat.reduceAdd, Nat.reduceDiv, Int.reduceBEq, rules2, rowsX]
        cases h
        exact ⟨⟨rfl, trivial⟩, rfl⟩
      · rw [ite_f hb4] at h
        rcases Bool.eq_false_or_eq_true (decide (x3.To < x3.From)) with hb5 | hb5
        · rw [ite_t hb5] at h
          try simp only [hb2, hx3, hb4, hb5, Nat.reduceBEq, Nat.reduceMul, Nat.reduceAdd, Nat.reduceDiv, Int.reduceBEq, rules2, rowsX]
          cases h
          exact ⟨⟨rfl, trivial⟩, rfl⟩
        · rw [ite_f hb5] at h
          rcases Bool.eq_false_or_eq_true (decide ((2880 : Int) < x3.To)) with hb6 | hb6
          · rw [ite_t hb6] at h
            try simp only [hb2, hx3, hb4, hb5, hb6, Nat.reduceBEq, Nat.reduceMul, Nat.reduceAdd, Nat.reduceDiv, Int.reduceBEq, rules2, rowsX]
            cases h
            exact ⟨⟨rfl, trivial⟩, rfl⟩
          · rw [ite_f hb6] at h
            rcases Bool.eq_false_or_eq_true (decide ((0 : Int) < v1)) with hb7 | hb7
            · rw [ite_t hb7] at h
              obtain ⟨x8, hx8, h⟩ := ob h
              rcases Bool.eq_false_or_eq_true (decide (x3.From ≤ (IntKind.i64.wrap (x8.To + (1 : Int))))) with hb9 | hb9
              · rw [ite_t hb9] at h
                try simp only [hb2, hx3, hb4, hb5, hb6, hb7, hx8, hb9, Nat.reduceBEq, Nat.reduceMul, Nat.reduceAdd, Nat.reduceDiv, Int.reduceBEq, rules2, rowsX]
                cases h
                exact ⟨⟨rfl, trivial⟩, rfl⟩
              · rw [ite_f hb9] at h
                try simp only [hb2, hx3, hb4, hb5, hb6, hb7, hx8, hb9, Nat.reduceBEq, Nat.reduceMul, Nat.reduceAdd, Nat.reduceDiv, Int.reduceBEq, rules2, rowsX]
                refine ih _ _ h _ ?_
                try simp only [hb2, hx3, hb4, hb5, hb6, hb7, hx8, hb9, Nat.reduceBEq, Nat.reduceMul, Nat.reduceAdd, Nat.reduceDiv, Int.reduceBEq, rules2, rowsX, List.map_nil]
            · rw [ite_f hb7] at h
              try simp only [hb2, hx3, hb4, hb5, hb6, hb7, Nat.reduceBEq, Nat.reduceMul, Nat.reduceAdd, Nat.reduceDiv, Int.reduceBEq, rules2, rowsX]
              refine ih _ _ h _ ?_
              try simp only [hb2, hx3, hb4, hb5, hb6, hb7, Nat.reduceBEq, Nat.reduceMul, Nat.reduceAdd, Nat.reduceDiv, Int.reduceBEq, rules2, rowsX, List.map_nil]
    · rw [ite_f hb2] at h
      try simp only [hσ, hb2, c_impl_WindowsOk_1, c_impl_WindowsOk_n1, Nat.reduceBEq, Nat.reduceMul, Nat.reduceAdd, Nat.reduceDiv, Int.reduceBEq, rules2, rowsX]
      cases h
      exact ⟨⟨rfl, trivial⟩, rfl⟩
theorem e_impl_WindowsOk : entry Tryd.prog 73 = some (c_impl_WindowsOk.strip, [2], 44) := by kernel_rfl
theorem w_impl_WindowsOk (a0 : List XWindow) (r : Bool) (h : f_impl_WindowsOk a0 = some r) : FC Tryd.prog 73 [.sc (.sl (List.map XWindow.row a0))] [.sc (.v (.bool r))] := by
  unfold f_impl_WindowsOk at h
  refine FC_go (σ := ⟨[(0, vc (aL (List.map XWindow.row a0)))], [], []⟩) mixed e_impl_WindowsOk rfl rfl ?_
  simp only [c_impl_WindowsOk]
  try simp only [Nat.reduceBEq, Nat.reduceMul, Nat.reduceAdd, Nat.reduceDiv, Int.reduceBEq, rules2, rowsX]
  refine w_impl_WindowsOk_1 _ _ _ _ h _ ?_
  try simp only [Nat.reduceBEq, Nat.reduceMul, Nat.reduceAdd, Nat.reduceDiv, Int.reduceBEq, rules2, rowsX, List.map_nil]
/- 57: impl_FormatInt -/
def c_impl_FormatInt : ACode := (.seq (.reg [(none, .mv 2 (KS []))]) (.seq (.reg [(none, .mv 3 (S 0)), (none, .call 4 93 [(S 3)]), (none, .mv 2 (S 4))]) .ret))
theorem e_impl_FormatInt : entry Tryd.prog 57 = some (c_impl_FormatInt.strip, [2], 5) := by kernel_rfl
theorem w_impl_FormatInt (a0 : Int) (r : (List UInt8)) (h : f_impl_FormatInt a0 = some r) : FC Tryd.prog 57 [.sc (.int .i64 a0)] [.sc (.v (.str r))] := by
  unfold f_impl_FormatInt at h
  refine FC_go (σ := ⟨[(0, vc (aI a0))], [], []⟩) mixed e_impl_FormatInt rfl rfl ?_
  simp only [c_impl_FormatInt]
  obtain ⟨r1, hr1, h⟩ := ob h
  try simp only [Nat.reduceBEq, Nat.reduceMul, Nat.reduceAdd, Nat.reduceDiv, Int.reduceBEq, rules2, rowsX]
  refine go_callI (w_strconv_Itoa _ _ hr1) rfl rfl (Nat.le_of_ble_eq_true rfl) ?_
  try simp only [Nat.reduceBEq, Nat.reduceMul, Nat.reduceAdd, Nat.reduceDiv, Int.reduceBEq, rules2, rowsX]
  cases h
  exact ⟨⟨rfl, trivial⟩, rfl⟩
/- 56: impl_Join -/
def c_impl_Join : ACode := (.seq (.reg [(none, .mv 4 (KS []))]) (.seq (.reg [(none, .mv 5 (S 0)), (none, .mv 6 (S 1)), (none, .call 7 92 [(S 5), (S 6)]), (none, .mv 4 (S 7))]) .ret))
theorem e_impl_Join : entry Tryd.prog 56 = some (c_impl_Join.strip, [4], 8) := by kernel_rfl
theorem w_impl_Join (a0 : List (List UInt8)) (a1 : List UInt8) (r : (List UInt8)) (h : f_impl_Join a0 a1 = some r) : FC Tryd.prog 56 [.sc (.sl (List.map rS a0)), .sc (.str a1)] [.sc (.v (.str r))] := by
  unfold f_impl_Join at h
  refine FC_go (σ := ⟨[(0, vc (aL (List.map rS a0))), (1, vc (aS a1))], [], []⟩) mixed e_impl_Join rfl rfl ?_
  simp only [c_impl_Join]
  obtain ⟨r1, hr1, h⟩ := ob h
  try simp only [Nat.reduceBEq, Nat.reduceMul, Nat.reduceAdd, Nat.reduceDiv, Int.reduceBEq, rules2, rowsX]
  refine go_callI (w_strings_Join _ _ _ hr1) rfl rfl (Nat.le_of_ble_eq_true rfl) ?_
  try simp only [Nat.reduceBEq, Nat.reduceMul, Nat.reduceAdd, Nat.reduceDiv, Int.reduceBEq, rules2, rowsX]
  cases h
  exact ⟨⟨rfl, trivial⟩, rfl⟩
/- 27: impl_FormatWindows -/
def c_impl_FormatWindows_1 : ACode := .seq (.reg [(none, .keep [3, 13, 14, 15] [] [768])]) (.seq (.reg [(none, .bin 16 .lss (S 15) (S 14))]) (.seq (.cond (S 16) .skip (.exit 0)) (.seq (.block 1 (.seq (.reg [(none, .iaddr 17 (S 13) (S 15) 2), (none, .load 18 (S 17) true 2), (none, .alloc 5 [aI 0, aI 0]), (none, .store (S 5) (S 18) 2)]) (.drw [(some [22, 26, 28], (none, .mv 19 (S 3))), (some [], (none, .faddr 20 (S 5) 0)), (some [], (none, .load 21 (S 20) false 1)), (some [], (none, .call 22 57 [(S 21)])), (some [26], (none, .bin 23 .add (S 22) (KS [45]))), (some [22], (none, .faddr 24 (S 5) 1)), (some [22], (none, .load 25 (S 24) false 1)), (some [], (none, .call 26 57 [(S 25)])), (some [], (none, .bin 27 .add (S 23) (S 26))), (some [], (none, .bslice 28 1 [.str []] 1 [(0, (S 27))])), (none, (none, .app 29 1 16 (S 19) (S 28))), (some [], (none, .mv 3 (S 29)))]))) (.reg [(none, .bin 30 .add (S 15) (K 1)), (none, .mv 15 (S 30))]))))
def c_impl_FormatWindows_n1 : ACode := (.seq (.reg [(none, .mv 31 (S 3)), (none, .call 32 56 [(S 31), (KS [32])]), (none, .mv 2 (S 32))]) .ret)
def c_impl_FormatWindows : ACode := (.seq (.reg [(none, .mv 2 (KS []))]) (.seq (.seq (.reg [(none, .mv 6 (S 0)), (none, .call 7 73 [(S 6)]), (none, .un 8 .not (S 7))]) (.cond (S 8) (.seq (.reg [(none, .mv 2 (KS []))]) .ret) .skip)) (.seq (.seq (.reg [(none, .mv 9 (S 0)), (none, .len 10 (S 9)), (none, .bin 11 .eql (S 10) (K 0))]) (.cond (S 11) (.seq (.reg [(none, .mv 2 (KS [110, 111, 110, 101]))]) .ret) .skip)) (.seq (.reg [(none, .bslice 12 1 [.str []] 0 []), (none, .mv 3 (S 12))]) (.seq (.seq (.reg [(none, .mv 13 (S 0)), (none, .len 14 (S 13)), (none, .mv 15 (K 0))]) (.block 0 (.loop c_impl_FormatWindows_1))) c_impl_FormatWindows_n1)))))
theorem w_impl_FormatWindows_1 (a0 : List XWindow) : ∀ (n : Nat) (v4 : Int) (v5 : List (List UInt8)) (r : (List UInt8)), f_impl_FormatWindows_1 a0 n v4 v5 = some r → ∀ σ : St, σ.kept [3, 13, 14, 15] [] [768] = ⟨[(3, vc (.own 768)), (13, vc (aL (List.map XWindow.row a0))), (14, vc (aI (a0.length : Int))), (15, vc (aI v4))], [], [(768, 1, List.map rS v5)]⟩ → go Tryd.prog (.code (.loop c_impl_FormatWindows_1) :: [.blk 0, .code c_impl_FormatWindows_n1]) (Ret [2] [.sc (.v (.str r))]) .normal (some σ) := by
  intro n
  induction n with
  | zero => intro _ _ r h; cases h
  | succ n ih =>
    intro v4 v5 r h σ hσ
    rw [f_impl_FormatWindows_1] at h
    refine go_round ?_
    rcases Bool.eq_false_or_eq_true (decide (v4 < (a0.length : Int))) with hb6 | hb6
    · rw [ite_t hb6] at h
      obtain ⟨x7, hx7, h⟩ := ob h
      try simp only [hσ, hb6, hx7, c_impl_FormatWindows_1, Nat.reduceBEq, Nat.reduceMul, Nat.reduceAdd, Nat.reduceDiv, Int.reduceBEq, rules2, rowsX]
      refine go_al rfl rfl ?_
      try simp only [hb6, hx7, Nat.reduceBEq, Nat.reduceMul, Nat.reduceAdd, Nat.reduceDiv, Int.reduceBEq, rules2, rowsX]
      refine go_fr_of rfl ?_
      obtain ⟨r8, hr8, h⟩ := ob h
      try simp only [hb6, hx7, Nat.reduceBEq, Nat.reduceMul, Nat.reduceAdd, Nat.reduceDiv, Int.reduceBEq, rules2, rowsX]
      refine go_dcallI (w_impl_FormatInt _ _ hr8) rfl rfl (Nat.le_of_ble_eq_true rfl) ?_
      obtain ⟨hg9, h⟩ := of_guard h
      obtain ⟨r10, hr10, h⟩ := ob h
      try simp only [hb6, hx7, hg9, Nat.reduceBEq, Nat.reduceMul, Nat.reduceAdd, Nat.reduceDiv, Int.reduceBEq, rules2, rowsX]
      refine go_dcallI (w_impl_FormatInt _ _ hr10) rfl rfl (Nat.le_of_ble_eq_true rfl) ?_
      obtain ⟨hg11, h⟩ := of_guard h
      try simp only [hb6, hx7, hg9, hg11, Nat.reduceBEq, Nat.reduceMul, Nat.reduceAdd, Nat.reduceDiv, Int.reduceBEq, rules2, rowsX]
      refine go_bsl (es := List.map rS ([((r8 ++ ([45] : List UInt8)) ++ r10)] : List (List UInt8))) rfl rfl ?_
      obtain ⟨hg12, h⟩ := of_guard h
      try simp only [List.cons_append, List.nil_append] at hg12
      try simp only [hb6, hx7, hg9, hg11, hg12, Nat.reduceBEq, Nat.reduceMul, Nat.reduceAdd, Nat.reduceDiv, Int.reduceBEq, rules2, rowsX]
      refine go_fr_of rfl ?_
      try simp only [hb6, hx7, hg9, hg11, hg12, Nat.reduceBEq, Nat.reduceMul, Nat.reduceAdd, Nat.reduceDiv, Int.reduceBEq, rules2, rowsX]
      refine ih _ _ _ h _ ?_
      try simp only [hb6, hx7, hg9, hg11, hg12, Nat.reduceBEq, Nat.reduceMul, Nat.reduceAdd, Nat.reduceDiv, Int.reduceBEq, rules2, rowsX, List.map_nil]
    · rw [ite_f hb6] at h
      obtain ⟨r13, hr13, h⟩ := ob h
      try simp only [hσ, hb6, c_impl_FormatWindows_1, c_impl_FormatWindows_n1, Nat.reduceBEq, Nat.reduceMul, Nat.reduceAdd, Nat.reduceDiv, Int.reduceBEq, rules2, rowsX]
      refine go_call (w_impl_Join _ _ _ hr13) rfl (flat_of rfl) rfl (Nat.le_of_ble_eq_true rfl) ?_
      try simp only [hb6, Nat.reduceBEq, Nat.reduceMul, Nat.reduceAdd, Nat.reduceDiv, Int.reduceBEq, rules2, rowsX]
      cases h
      exact ⟨⟨rfl, trivial⟩, rfl⟩
theorem e_impl_FormatWindows : entry Tryd.prog 27 = some (c_impl_FormatWindows.strip, [2], 33) := by kernel_rfl
theorem w_impl_FormatWindows (a0 : List XWindow) (r : (List UInt8)) (h : f_impl_FormatWindows a0 = some r) : FC Tryd.prog 27 [.sc (.sl (List.map XWindow.row a0))] [.sc (.v (.str r))] := by
  unfold f_impl_FormatWindows at h
  refine FC_go (σ := ⟨[(0, vc (aL (List.map XWindow.row a0)))], [], []⟩) mixed e_impl_FormatWindows rfl rfl ?_
  simp only [c_impl_FormatWindows]
  obtain ⟨r1, hr1, h⟩ := ob h
  try simp only [Nat.reduceBEq, Nat.reduceMul, Nat.reduceAdd, Nat.reduceDiv, Int.reduceBEq, rules2, rowsX]
  refine go_callI (w_impl_WindowsOk _ _ hr1) rfl rfl (Nat.le_of_ble_eq_true rfl) ?_
  rcases Bool.eq_false_or_eq_true r1 with hb2 | hb2
  · rw [ite_t hb2] at h
    rcases Bool.eq_false_or_eq_true ((a0.length : Int) == (0 : Int)) with hb3 | hb3
    · rw [ite_t hb3] at h
      try simp only [hb2, hb3, Nat.reduceBEq, Nat.reduceMul, Nat.reduceAdd, Nat.reduceDiv, Int.reduceBEq, rules2, rowsX]
      cases h
      exact ⟨⟨rfl, trivial⟩, rfl⟩
    · rw [ite_f hb3] at h
      try simp only [hb2, hb3, Nat.reduceBEq, Nat.reduceMul, Nat.reduceAdd, Nat.reduceDiv, Int.reduceBEq, rules2, rowsX]
      refine go_bsl (es := List.map rS ([] : List (List UInt8))) rfl rfl ?_
      try simp only [hb2, hb3, Nat.reduceBEq, Nat.reduceMul, Nat.reduceAdd, Nat.reduceDiv, Int.reduceBEq, rules2, rowsX]
      refine w_impl_FormatWindows_1 _ _ _ _ _ h _ ?_
      try simp only [hb2, hb3, Nat.reduceBEq, Nat.reduceMul, Nat.reduceAdd, Nat.reduceDiv, Int.reduceBEq, rules2, rowsX, List.map_nil]
  · rw [ite_f hb2] at h
    try simp only [hb2, Nat.reduceBEq, Nat.reduceMul, Nat.reduceAdd, Nat.reduceDiv, Int.reduceBEq, rules2, rowsX]
    cases h
    exact ⟨⟨rfl, trivial⟩, rfl⟩
/- 74: laws_eqWindow -/
def c_laws_eqWindow : ACode := (.seq (.reg [(none, .box 2 (S 0)), (none, .box 3 (S 1)), (none, .mv 4 (KB false))]) (.seq (.seq (.reg [(none, .faddr 5 (S 2) 0), (none, .load 6 (S 5) false 1), (none, .faddr 7 (S 3) 0), (none, .load 8 (S 7) false 1), (none, .bin 9 .neq (S 6) (S 8))]) (.cond (S 9) (.seq (.reg [(none, .mv 4 (KB false))]) .ret) .skip)) (.seq (.seq (.reg [(none, .faddr 10 (S 2) 1), (none, .load 11 (S 10) false 1), (none, .faddr 12 (S 3) 1), (none, .load 13 (S 12) false 1), (none, .bin 14 .neq (S 11) (S 13))]) (.cond (S 14) (.seq (.reg [(none, .mv 4 (KB false))]) .ret) .skip)) (.seq (.reg [(none, .mv 4 (KB true))]) .ret))))
theorem e_laws_eqWindow : entry Tryd.prog 74 = some (c_laws_eqWindow.strip, [4], 15) := by kernel_rfl
theorem w_laws_eqWindow (a0 : XWindow) (a1 : XWindow) (r : Bool) (h : f_laws_eqWindow a0 a1 = some r) : FC Tryd.prog 74 [.ag (XWindow.row a0), .ag (XWindow.row a1)] [.sc (.v (.bool r))] := by
  unfold f_laws_eqWindow at h
  refine FC_go (σ := ⟨[(0, va [aI a0.From, aI a0.To]), (1, va [aI a1.From, aI a1.To])], [], []⟩) mixed e_laws_eqWindow rfl rfl ?_
  simp only [c_laws_eqWindow]
  try simp only [Nat.reduceBEq, Nat.reduceMul, Nat.reduceAdd, Nat.reduceDiv, Int.reduceBEq, rules2, rowsX]
  refine go_bx rfl rfl rfl ?_
  try simp only [Nat.reduceBEq, Nat.reduceMul, Nat.reduceAdd, Nat.reduceDiv, Int.reduceBEq, rules2, rowsX]
  refine go_bx rfl rfl rfl ?_
  rcases Bool.eq_false_or_eq_true (a0.From != a1.From) with hb1 | hb1
  · rw [ite_t hb1] at h
    try simp only [hb1, Nat.reduceBEq, Nat.reduceMul, Nat.reduceAdd, Nat.reduceDiv, Int.reduceBEq, rules2, rowsX]
    cases h
    exact ⟨⟨rfl, trivial⟩, rfl⟩
  · rw [ite_f hb1] at h
    rcases Bool.eq_false_or_eq_true (a0.To != a1.To) with hb2 | hb2
    · rw [ite_t hb2] at h
      try simp only [hb1, hb2, Nat.reduceBEq, Nat.reduceMul, Nat.reduceAdd, Nat.reduceDiv, Int.reduceBEq, rules2, rowsX]
      cases h
      exact ⟨⟨rfl, trivial⟩, rfl⟩
    · rw [ite_f hb2] at h
      try simp only [hb1, hb2, Nat.reduceBEq, Nat.reduceMul, Nat.reduceAdd, Nat.reduceDiv, Int.reduceBEq, rules2, rowsX]
      cases h
      exact ⟨⟨rfl, trivial⟩, rfl⟩
/- 28: laws_eqWindowS -/
def c_laws_eqWindowS_1 : ACode := .seq (.reg [(none, .keep [0, 1, 5] [] [])]) (.seq (.seq (.reg [(none, .mv 11 (S 5)), (none, .mv 12 (S 0)), (none, .len 13 (S 12)), (none, .bin 14 .lss (S 11) (S 13))]) (.cond (S 14) .skip (.exit 0))) (.seq (.block 1 (.seq (.drw [(some [], (none, .mv 17 (S 0))), (some [], (none, .mv 18 (S 5))), (some [], (none, .iaddr 19 (S 17) (S 18) 2)), (some [], (none, .load 20 (S 19) true 2)), (some [], (none, .mv 21 (S 1))), (some [], (none, .mv 22 (S 5))), (some [], (none, .iaddr 23 (S 21) (S 22) 2)), (some [], (none, .load 24 (S 23) true 2)), (some [], (none, .call 25 74 [(S 20), (S 24)])), (some [], (none, .un 26 .not (S 25)))]) (.cond (S 26) (.seq (.reg [(none, .mv 4 (KB false))]) .ret) .skip))) (.reg [(none, .mv 15 (S 5)), (none, .bin 16 .add (S 15) (K 1)), (none, .mv 5 (S 16))])))
def c_laws_eqWindowS_n1 : ACode := (.seq (.reg [(none, .mv 4 (KB true))]) .ret)
def c_laws_eqWindowS : ACode := (.seq (.reg [(none, .mv 4 (KB false))]) (.seq (.seq (.reg [(none, .mv 6 (S 0)), (none, .len 7 (S 6)), (none, .mv 8 (S 1)), (none, .len 9 (S 8)), (none, .bin 10 .neq (S 7) (S 9))]) (.cond (S 10) (.seq (.reg [(none, .mv 4 (KB false))]) .ret) .skip)) (.seq (.seq (.reg [(none, .mv 5 (K 0))]) (.block 0 (.loop c_laws_eqWindowS_1))) c_laws_eqWindowS_n1)))
theorem w_laws_eqWindowS_1 (a0 : List XWindow) (a1 : List XWindow) : ∀ (n : Nat) (v2 : Int) (r : Bool), f_laws_eqWindowS_1 a0 a1 n v2 = some r → ∀ σ : St, σ.kept [0, 1, 5] [] [] = ⟨[(0, vc (aL (List.map XWindow.row a0))), (1, vc (aL (List.map XWindow.row a1))), (5, vc (aI v2))], [], []⟩ → go Tryd.prog (.code (.loop c_laws_eqWindowS_1) :: [.blk 0, .code c_laws_eqWindowS_n1]) (Ret [4] [.sc (.v (.bool r))]) .normal (some σ) := by
  intro n
  induction n with
  | zero => intro _ r h; cases h
  | succ n ih =>
    intro v2 r h σ hσ
    rw [f_laws_eqWindowS_1] at h
    refine go_round ?_
    rcases Bool.eq_false_or_eq_true (decide (v2 < (a0.length : Int))) with hb3 | hb3
    · rw [ite_t hb3] at h
      try simp only [hσ, hb3, c_laws_eqWindowS_1, Nat.reduceBEq, Nat.reduceMul, Nat.reduceAdd, Nat.reduceDiv, Int.reduceBEq, rules2, rowsX]
      refine go_fr_of rfl ?_
      obtain ⟨x4, hx4, h⟩ := ob h
      obtain ⟨x5, hx5, h⟩ := ob h
      obtain ⟨r6, hr6, h⟩ := ob h
      try simp only [hb3, hx4, hx5, Nat.reduceBEq, Nat.reduceMul, Nat.reduceAdd, Nat.reduceDiv, Int.reduceBEq, rules2, rowsX]
      refine go_dcallI (w_laws_eqWindow _ _ _ hr6) rfl rfl (Nat.le_of_ble_eq_true rfl) ?_
      rcases Bool.eq_false_or_eq_true r6 with hb7 | hb7
      · rw [ite_t hb7] at h
        try simp only [hb3, hx4, hx5, hb7, Nat.reduceBEq, Nat.reduceMul, Nat.reduceAdd, Nat.reduceDiv, Int.reduceBEq, rules2, rowsX]
        refine ih _ _ h _ ?_
        try simp only [hb3, hx4, hx5, hb7, Nat.reduceBEq, Nat.reduceMul, Nat.reduceAdd, Nat.reduceDiv, Int.reduceBEq, rules2, rowsX, List.map_nil]
      · rw [ite_f hb7] at h
        try simp only [hb3, hx4, hx5, hb7, Nat.reduceBEq, Nat.reduceMul, Nat.reduceAdd, Nat.reduceDiv, Int.reduceBEq, rules2, rowsX]
        cases h
        exact ⟨⟨rfl, trivial⟩, rfl⟩
    · rw [ite_f hb3] at h
      try simp only [hσ, hb3, c_laws_eqWindowS_1, c_laws_eqWindowS_n1, Nat.reduceBEq, Nat.reduceMul, Nat.reduceAdd, Nat.reduceDiv, Int.reduceBEq, rules2, rowsX]
      cases h
      exact ⟨⟨rfl, trivial⟩, rfl⟩
theorem e_laws_eqWindowS : entry Tryd.prog 28 = some (c_laws_eqWindowS.strip, [4], 27) := by kernel_rfl
theorem w_laws_eqWindowS (a0 : List XWindow) (a1 : List XWindow) (r : Bool) (h : f_laws_eqWindowS a0 a1 = some r) : FC Tryd.prog 28 [.sc (.sl (List.map XWindow.row a0)), .sc (.sl (List.map XWindow.row a1))] [.sc (.v (.bool r))] := by
  unfold f_laws_eqWindowS at h
  refine FC_go (σ := ⟨[(0, vc (aL (List.map XWindow.row a0))), (1, vc (aL (List.map XWindow.row a1)))], [], []⟩) mixed e_laws_eqWindowS rfl rfl ?_
  simp only [c_laws_eqWindowS]
  rcases Bool.eq_false_or_eq_true ((a0.length : Int) != (a1.length : Int)) with hb1 | hb1
  · rw [ite_t hb1] at h
    try simp only [hb1, Nat.reduceBEq, Nat.reduceMul, Nat.reduceAdd, Nat.reduceDiv, Int.reduceBEq, rules2, rowsX]
    cases h
    exact ⟨⟨rfl, trivial⟩, rfl⟩
  · rw [ite_f hb1] at h
    try simp only [hb1, Nat.reduceBEq, Nat.reduceMul, Nat.reduceAdd, Nat.reduceDiv, Int.reduceBEq, rules2, rowsX]
    refine w_laws_eqWindowS_1 _ _ _ _ _ h _ ?_
    try simp only [hb1, Nat.reduceBEq, Nat.reduceMul, Nat.reduceAdd, Nat.reduceDiv, Int.reduceBEq, rules2, rowsX, List.map_nil]
/- 6: laws_FnExactFormatWindows -/
def c_laws_FnExactFormatWindows : ACode := (.seq (.reg [(none, .mv 2 (KB false))]) (.seq (.reg [(none, .mv 3 (K 1048576))]) (.seq (.reg [(none, .mv 7 (S 0)), (none, .mv 8 (S 3)), (none, .call 9 24 [(S 7), (S 8)]), (none, .mv 3 (S 9))]) (.seq (.seq (.reg [(none, .mv 10 (S 3)), (none, .bin 11 .lss (S 10) (K 0))]) (.cond (S 11) (.seq (.reg [(none, .mv 2 (KB true))]) .ret) .skip)) (.seq (.reg [(none, .mv 12 (S 0)), (none, .call 13 26 [(S 12)]), (none, .call 14 25 [(S 13)]), (none, .mv 4 (S 14))]) (.seq (.reg [(none, .mv 15 (S 0)), (none, .call 16 26 [(S 15)]), (none, .mv 5 (S 16))]) (.seq (.reg [(none, .mv 17 (S 5)), (none, .call 18 27 [(S 17)]), (none, .mv 6 (S 18))]) (.seq (.seq (.reg [(none, .mv 19 (S 6)), (none, .mv 20 (S 4)), (none, .bin 21 .neq (S 19) (S 20))]) (.cond (S 21) (.seq (.reg [(none, .mv 2 (KB false))]) .ret) .skip)) (.seq (.seq (.reg [(none, .mv 22 (S 5)), (none, .mv 23 (S 0)), (none, .call 24 26 [(S 23)]), (none, .call 25 28 [(S 22), (S 24)]), (none, .un 26 .not (S 25))]) (.cond (S 26) (.seq (.reg [(none, .mv 2 (KB false))]) .ret) .skip)) (.seq (.reg [(none, .mv 2 (KB true))]) .ret))))))))))
theorem e_laws_FnExactFormatWindows : entry Tryd.prog 6 = some (c_laws_FnExactFormatWindows.strip, [2], 27) := by kernel_rfl
theorem w_laws_FnExactFormatWindows (a0 : List XWindow) (r : Bool) (h : f_laws_FnExactFormatWindows a0 = some r) : FC Tryd.prog 6 [.sc (.sl (List.map XWindow.row a0))] [.sc (.v (.bool r))] := by
  unfold f_laws_FnExactFormatWindows at h
  refine FC_go (σ := ⟨[(0, vc (aL (List.map XWindow.row a0)))], [], []⟩) mixed e_laws_FnExactFormatWindows rfl rfl ?_
  simp only [c_laws_FnExactFormatWindows]
  obtain ⟨r1, hr1, h⟩ := ob h
  try simp only [Nat.reduceBEq, Nat.reduceMul, Nat.reduceAdd, Nat.reduceDiv, Int.reduceBEq, rules2, rowsX]
  refine go_callI (w_laws_szWindowS _ _ _ hr1) rfl rfl (Nat.le_of_ble_eq_true rfl) ?_
  rcases Bool.eq_false_or_eq_true (decide (r1 < (0 : Int))) with hb2 | hb2
  · rw [ite_t hb2] at h
    try simp only [hb2, Nat.reduceBEq, Nat.reduceMul, Nat.reduceAdd, Nat.reduceDiv, Int.reduceBEq, rules2, rowsX]
    cases h
    exact ⟨⟨rfl, trivial⟩, rfl⟩
  · rw [ite_f hb2] at h
    obtain ⟨r3, hr3, h⟩ := ob h
    try simp only [hb2, Nat.reduceBEq, Nat.reduceMul, Nat.reduceAdd, Nat.reduceDiv, Int.reduceBEq, rules2, rowsX]
    refine go_callI (w_laws_toWindowS _ _ hr3) rfl rfl (Nat.le_of_ble_eq_true rfl) ?_
    obtain ⟨r4, hr4, h⟩ := ob h
    try simp only [hb2, Nat.reduceBEq, Nat.reduceMul, Nat.reduceAdd, Nat.reduceDiv, Int.reduceBEq, rules2, rowsX]
    refine go_call (w_spec_FormatWindows _ _ hr4) rfl (flat_of rfl) rfl (Nat.le_of_ble_eq_true rfl) ?_
    obtain ⟨r5, hr5, h⟩ := ob h
    try simp only [hb2, Nat.reduceBEq, Nat.reduceMul, Nat.reduceAdd, Nat.reduceDiv, Int.reduceBEq, rules2, rowsX]
    refine go_callI (w_laws_toWindowS _ _ hr5) rfl rfl (Nat.le_of_ble_eq_true rfl) ?_
    obtain ⟨r6, hr6, h⟩ := ob h
    try simp only [hb2, Nat.reduceBEq, Nat.reduceMul, Nat.reduceAdd, Nat.reduceDiv, Int.reduceBEq, rules2, rowsX]
    refine go_call (w_impl_FormatWindows _ _ hr6) rfl (flat_of rfl) rfl (Nat.le_of_ble_eq_true rfl) ?_
    rcases Bool.eq_false_or_eq_true (r6 == r4) with hb7 | hb7
    · rw [ite_t hb7] at h
      obtain ⟨r8, hr8, h⟩ := ob h
      try simp only [hb2, hb7, Nat.reduceBEq, Nat.reduceMul, Nat.reduceAdd, Nat.reduceDiv, Int.reduceBEq, rules2, rowsX]
      refine go_callI (w_laws_toWindowS _ _ hr8) rfl rfl (Nat.le_of_ble_eq_true rfl) ?_
      obtain ⟨r9, hr9, h⟩ := ob h
      try simp only [hb2, hb7, Nat.reduceBEq, Nat.reduceMul, Nat.reduceAdd, Nat.reduceDiv, Int.reduceBEq, rules2, rowsX]
      refine go_call (w_laws_eqWindowS _ _ _ hr9) rfl (flat_of rfl) rfl (Nat.le_of_ble_eq_true rfl) ?_
      rcases Bool.eq_false_or_eq_true r9 with hb10 | hb10
      · rw [ite_t hb10] at h
        try simp only [hb2, hb7, hb10, Nat.reduceBEq, Nat.reduceMul, Nat.reduceAdd, Nat.reduceDiv, Int.reduceBEq, rules2, rowsX]
        cases h
        exact ⟨⟨rfl, trivial⟩, rfl⟩
      · rw [ite_f hb10] at h
        try simp only [hb2, hb7, hb10, Nat.reduceBEq, Nat.reduceMul, Nat.reduceAdd, Nat.reduceDiv, Int.reduceBEq, rules2, rowsX]
        cases h
        exact ⟨⟨rfl, trivial⟩, rfl⟩
    · rw [ite_f hb7] at h
      try simp only [hb2, hb7, Nat.reduceBEq, Nat.reduceMul, Nat.reduceAdd, Nat.reduceDiv, Int.reduceBEq, rules2, rowsX]
      cases h
      exact ⟨⟨rfl, trivial⟩, rfl⟩
end Go.Vi
