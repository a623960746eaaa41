/-
  Walks: what the plain definitions compute is what the functions return. By program. No condition.
-/
import Derived.Test.YtldjoojbhbbhdaaGreatGNf
import Derived.Test.YtldjoojbhbbhdaaGreatChecked
import Derived.Test.YtldjoojbhbbhdaaGreatGFc
import Derived.KernelRfl
import Derived.Test.YtldjoojbhbbhdaaGreatGWFirstGroundinga
namespace Go.Vi
open Go.Proofs
set_option linter.unusedSimpArgs false
set_option linter.unusedVariables false
set_option maxRecDepth 4000
set_option maxHeartbeats 2000000
attribute [local irreducible] go AWP
/- 121: impl_SurgeOk -/
def c_impl_SurgeOk : ACode := (.seq (.reg [(none, .box 1 (S 0)), (none, .mv 2 (KB false))]) (.seq (.reg [(none, .faddr 3 (S 1) 0), (none, .load 4 (S 3) false 1), (none, .call 5 96 [(S 4)]), (none, .mv 6 (S 5)), (some (6, true), .faddr 7 (S 1) 1), (some (6, true), .load 8 (S 7) false 1), (some (6, true), .bin 9 .leq (K (-500)) (S 8)), (none, .pick 10 (S 6) (S 9) (KB false)), (none, .mv 11 (S 10)), (some (11, true), .faddr 12 (S 1) 1), (some (11, true), .load 13 (S 12) false 1), (some (11, true), .faddr 14 (S 1) 2), (some (11, true), .load 15 (S 14) false 1), (some (11, true), .bin 16 .leq (S 13) (S 15)), (none, .pick 17 (S 11) (S 16) (KB false)), (none, .mv 18 (S 17)), (some (18, true), .faddr 19 (S 1) 2), (some (18, true), .load 20 (S 19) false 1), (some (18, true), .bin 21 .leq (S 20) (K 500)), (none, .pick 22 (S 18) (S 21) (KB false)), (none, .mv 2 (S 22))]) .ret))
theorem e_impl_SurgeOk : entry Tryz.prog 121 = some (c_impl_SurgeOk.strip, [2], 23) := by kernel_rfl
theorem w_impl_SurgeOk (a0 : XSurge) (r : Bool) (h : f_impl_SurgeOk a0 = some r) : FC Tryz.prog 121 [.ag (XSurge.row a0)] [.sc (.v (.bool r))] := by
  unfold f_impl_SurgeOk at h
  refine FC_go (σ := ⟨[(0, va [aI a0.From, aI a0.Low, aI a0.High])], [], []⟩) mixed e_impl_SurgeOk rfl rfl ?_
  simp only [c_impl_SurgeOk]
  try simp only [Nat.reduceBEq, Nat.reduceMul, Nat.reduceAdd, Nat.reduceDiv, Int.reduceBEq, rules2, rulesX, rowsX]
  refine go_bx rfl rfl rfl ?_
  obtain ⟨r1, hr1, h⟩ := ob h
  try simp only [Nat.reduceBEq, Nat.reduceMul, Nat.reduceAdd, Nat.reduceDiv, Int.reduceBEq, rules2, rulesX, rowsX]
  refine go_callI (w_impl_isMinute _ _ hr1) rfl rfl (Nat.le_of_ble_eq_true rfl) ?_
  rcases Bool.eq_false_or_eq_true r1 with hb2 | hb2
  · rw [ite_t hb2] at h
    rcases Bool.eq_false_or_eq_true (decide ((-500 : Int) ≤ a0.Low)) with hb3 | hb3
    · rw [ite_t hb3] at h
      rcases Bool.eq_false_or_eq_true (decide (a0.Low ≤ a0.High)) with hb4 | hb4
      · rw [ite_t hb4] at h
        try simp only [hb2, hb3, hb4, Nat.reduceBEq, Nat.reduceMul, Nat.reduceAdd, Nat.reduceDiv, Int.reduceBEq, rules2, rulesX, rowsX]
        cases h
        exact ⟨⟨rfl, trivial⟩, rfl⟩
      · rw [ite_f hb4] at h
        try simp only [hb2, hb3, hb4, Nat.reduceBEq, Nat.reduceMul, Nat.reduceAdd, Nat.reduceDiv, Int.reduceBEq, rules2, rulesX, rowsX]
        cases h
        exact ⟨⟨rfl, trivial⟩, rfl⟩
    · rw [ite_f hb3] at h
      try simp only [hb2, hb3, Nat.reduceBEq, Nat.reduceMul, Nat.reduceAdd, Nat.reduceDiv, Int.reduceBEq, rules2, rulesX, rowsX]
      cases h
      exact ⟨⟨rfl, trivial⟩, rfl⟩
  · rw [ite_f hb2] at h
    try simp only [hb2, Nat.reduceBEq, Nat.reduceMul, Nat.reduceAdd, Nat.reduceDiv, Int.reduceBEq, rules2, rulesX, rowsX]
    cases h
    exact ⟨⟨rfl, trivial⟩, rfl⟩
/- 89: impl_ForecastOk -/
def c_impl_ForecastOk_1 : ACode := .seq (.reg [(none, .keep [1, 25, 26, 27] [1] [])]) (.seq (.reg [(none, .bin 28 .lss (S 27) (S 26))]) (.seq (.cond (S 28) .skip (.exit 0)) (.seq (.block 1 (.seq (.reg [(none, .mv 29 (S 27)), (none, .iaddr 30 (S 25) (S 27) 3), (none, .load 31 (S 30) true 3), (none, .alloc 4 [aI 0, aI 0, aI 0]), (none, .mv 3 (S 29)), (none, .store (S 4) (S 31) 3)]) (.seq (.drw [(some [], (none, .load 32 (S 4) true 3)), (some [], (none, .call 33 121 [(S 32)])), (some [], (none, .un 34 .not (S 33))), (some [], (none, .mv 35 (S 34))), (some [], (some (35, false), .mv 36 (S 3))), (some [], (some (35, false), .bin 37 .gtr (S 36) (K 0))), (some [], (some (35, false), .mv 38 (S 37))), (some [], (some (38, true), .faddr 39 (S 1) 2)), (some [], (some (38, true), .load 40 (S 39) false 1)), (some [], (some (38, true), .mv 41 (S 3))), (some [], (some (38, true), .bin 42 .sub (S 41) (K 1))), (some [], (some (38, true), .iaddr 43 (S 40) (S 42) 3)), (some [], (some (38, true), .faddr 44 (S 43) 0)), (some [], (some (38, true), .load 45 (S 44) false 1)), (some [], (some (38, true), .faddr 46 (S 4) 0)), (some [], (some (38, true), .load 47 (S 46) false 1)), (some [], (some (38, true), .bin 48 .geq (S 45) (S 47))), (some [], (some (35, false), .pick 49 (S 38) (S 48) (KB false))), (some [], (none, .pick 50 (S 35) (KB true) (S 49)))]) (.cond (S 50) (.seq (.reg [(none, .mv 2 (KB false))]) .ret) .skip)))) (.reg [(none, .bin 51 .add (S 27) (K 1)), (none, .mv 27 (S 51))]))))
def c_impl_ForecastOk_n1 : ACode := (.seq (.reg [(none, .mv 2 (KB true))]) .ret)
def c_impl_ForecastOk : ACode := (.seq (.reg [(none, .box 1 (S 0)), (none, .mv 2 (KB false))]) (.seq (.seq (.reg [(none, .faddr 5 (S 1) 0), (none, .load 6 (S 5) true 2), (none, .call 7 120 [(S 6)]), (none, .un 8 .not (S 7)), (none, .mv 9 (S 8)), (some (9, false), .faddr 10 (S 1) 2), (some (9, false), .load 11 (S 10) false 1), (some (9, false), .len 12 (S 11)), (some (9, false), .call 13 94 [(S 12), (K 1), (K 6)]), (some (9, false), .un 14 .not (S 13)), (none, .pick 15 (S 9) (KB true) (S 14)), (none, .mv 16 (S 15)), (some (16, false), .faddr 17 (S 1) 2), (some (16, false), .load 18 (S 17) false 1), (some (16, false), .iaddr 19 (S 18) (K 0) 3), (some (16, false), .faddr 20 (S 19) 0), (some (16, false), .load 21 (S 20) false 1), (some (16, false), .bin 22 .neq (S 21) (K 0)), (none, .pick 23 (S 16) (KB true) (S 22))]) (.cond (S 23) (.seq (.reg [(none, .mv 2 (KB false))]) .ret) .skip)) (.seq (.seq (.reg [(none, .faddr 24 (S 1) 2), (none, .load 25 (S 24) false 1), (none, .len 26 (S 25)), (none, .mv 27 (K 0))]) (.block 0 (.loop c_impl_ForecastOk_1))) c_impl_ForecastOk_n1)))
theorem w_impl_ForecastOk_1 (a0 : XForecast) : ∀ (n : Nat) (v7 : Int) (r : Bool), f_impl_ForecastOk_1 a0 n v7 = some r → ∀ σ : St, σ.kept [1, 25, 26, 27] [1] [] = ⟨[(1, vc (.pb 1 0)), (25, vc (aL (List.map XSurge.row a0.Surges))), (26, vc (aI (a0.Surges.length : Int))), (27, vc (aI v7))], [(1, [aI a0.Tide.Mean, aL (List.map XPart.row a0.Tide.Parts), aL (List.map XSurge.row a0.Surges)])], []⟩ → go Tryz.prog (.code (.loop c_impl_ForecastOk_1) :: [.blk 0, .code c_impl_ForecastOk_n1]) (Ret [2] [.sc (.v (.bool r))]) .normal (some σ) := by
  intro n
  induction n with
  | zero => intro _ r h; cases h
  | succ n ih =>
    intro v7 r h σ hσ
    rw [f_impl_ForecastOk_1] at h
    refine go_round ?_
    rcases Bool.eq_false_or_eq_true (decide (v7 < (a0.Surges.length : Int))) with hb8 | hb8
    · rw [ite_t hb8] at h
      obtain ⟨x9, hx9, h⟩ := ob h
      try simp only [hσ, hb8, hx9, c_impl_ForecastOk_1, Nat.reduceBEq, Nat.reduceMul, Nat.reduceAdd, Nat.reduceDiv, Int.reduceBEq, rules2, rulesX, rowsX]
      refine go_al rfl rfl ?_
      try simp only [hb8, hx9, Nat.reduceBEq, Nat.reduceMul, Nat.reduceAdd, Nat.reduceDiv, Int.reduceBEq, rules2, rulesX, rowsX]
      refine go_fr_of rfl ?_
      obtain ⟨r10, hr10, h⟩ := ob h
      try simp only [hb8, hx9, Nat.reduceBEq, Nat.reduceMul, Nat.reduceAdd, Nat.reduceDiv, Int.reduceBEq, rules2, rulesX, rowsX]
      refine go_dcallI (w_impl_SurgeOk _ _ hr10) rfl rfl (Nat.le_of_ble_eq_true rfl) ?_
      rcases Bool.eq_false_or_eq_true r10 with hb11 | hb11
      · rw [ite_t hb11] at h
        rcases Bool.eq_false_or_eq_true (decide ((0 : Int) < v7)) with hb12 | hb12
        · rw [ite_t hb12] at h
          obtain ⟨x13, hx13, h⟩ := ob h
          rcases Bool.eq_false_or_eq_true (decide (x9.From ≤ x13.From)) with hb14 | hb14
          · rw [ite_t hb14] at h
            try simp only [hb8, hx9, hb11, hb12, hx13, hb14, Nat.reduceBEq, Nat.reduceMul, Nat.reduceAdd, Nat.reduceDiv, Int.reduceBEq, rules2, rulesX, rowsX]
            cases h
            exact ⟨⟨rfl, trivial⟩, rfl⟩
          · rw [ite_f hb14] at h
            try simp only [hb8, hx9, hb11, hb12, hx13, hb14, Nat.reduceBEq, Nat.reduceMul, Nat.reduceAdd, Nat.reduceDiv, Int.reduceBEq, rules2, rulesX, rowsX]
            refine ih _ _ h _ ?_
            try simp only [hb8, hx9, hb11, hb12, hx13, hb14, Nat.reduceBEq, Nat.reduceMul, Nat.reduceAdd, Nat.reduceDiv, Int.reduceBEq, rules2, rulesX, rowsX, List.map_nil]
        · rw [ite_f hb12] at h
          try simp only [hb8, hx9, hb11, hb12, Nat.reduceBEq, Nat.reduceMul, Nat.reduceAdd, Nat.reduceDiv, Int.reduceBEq, rules2, rulesX, rowsX]
          refine ih _ _ h _ ?_
          try simp only [hb8, hx9, hb11, hb12, Nat.reduceBEq, Nat.reduceMul, Nat.reduceAdd, Nat.reduceDiv, Int.reduceBEq, rules2, rulesX, rowsX, List.map_nil]
      · rw [ite_f hb11] at h
        try simp only [hb8, hx9, hb11, Nat.reduceBEq, Nat.reduceMul, Nat.reduceAdd, Nat.reduceDiv, Int.reduceBEq, rules2, rulesX, rowsX]
        cases h
        exact ⟨⟨rfl, trivial⟩, rfl⟩
    · rw [ite_f hb8] at h
      try simp only [hσ, hb8, c_impl_ForecastOk_1, c_impl_ForecastOk_n1, Nat.reduceBEq, Nat.reduceMul, Nat.reduceAdd, Nat.reduceDiv, Int.reduceBEq, rules2, rulesX, rowsX]
      cases h
      exact ⟨⟨rfl, trivial⟩, rfl⟩
theorem e_impl_ForecastOk : entry Tryz.prog 89 = some (c_impl_ForecastOk.strip, [2], 52) := by kernel_rfl
theorem w_impl_ForecastOk (a0 : XForecast) (r : Bool) (h : f_impl_ForecastOk a0 = some r) : FC Tryz.prog 89 [.ag (XForecast.row a0)] [.sc (.v (.bool r))] := by
  unfold f_impl_ForecastOk at h
  refine FC_go (σ := ⟨[(0, va [aI a0.Tide.Mean, aL (List.map XPart.row a0.Tide.Parts), aL (List.map XSurge.row a0.Surges)])], [], []⟩) mixed e_impl_ForecastOk rfl rfl ?_
  simp only [c_impl_ForecastOk]
  try simp only [Nat.reduceBEq, Nat.reduceMul, Nat.reduceAdd, Nat.reduceDiv, Int.reduceBEq, rules2, rulesX, rowsX]
  refine go_bx rfl rfl rfl ?_
  obtain ⟨r1, hr1, h⟩ := ob h
  try simp only [Nat.reduceBEq, Nat.reduceMul, Nat.reduceAdd, Nat.reduceDiv, Int.reduceBEq, rules2, rulesX, rowsX]
  refine go_callI (w_impl_TideOk _ _ hr1) rfl rfl (Nat.le_of_ble_eq_true rfl) ?_
  rcases Bool.eq_false_or_eq_true r1 with hb2 | hb2
  · rw [ite_t hb2] at h
    obtain ⟨r3, hr3, h⟩ := ob h
    try simp only [hb2, Nat.reduceBEq, Nat.reduceMul, Nat.reduceAdd, Nat.reduceDiv, Int.reduceBEq, rules2, rulesX, rowsX]
    refine go_callI (w_impl_within _ _ _ _ hr3) rfl rfl (Nat.le_of_ble_eq_true rfl) ?_
    rcases Bool.eq_false_or_eq_true r3 with hb4 | hb4
    · rw [ite_t hb4] at h
      obtain ⟨x5, hx5, h⟩ := ob h
      rcases Bool.eq_false_or_eq_true (x5.From != (0 : Int)) with hb6 | hb6
      · rw [ite_t hb6] at h
        try simp only [hb2, hb4, hx5, hb6, Nat.reduceBEq, Nat.reduceMul, Nat.reduceAdd, Nat.reduceDiv, Int.reduceBEq, rules2, rulesX, rowsX]
        cases h
        exact ⟨⟨rfl, trivial⟩, rfl⟩
      · rw [ite_f hb6] at h
        try simp only [hb2, hb4, hx5, hb6, Nat.reduceBEq, Nat.reduceMul, Nat.reduceAdd, Nat.reduceDiv, Int.reduceBEq, rules2, rulesX, rowsX]
        refine w_impl_ForecastOk_1 _ _ _ _ h _ ?_
        try simp only [hb2, hb4, hx5, hb6, Nat.reduceBEq, Nat.reduceMul, Nat.reduceAdd, Nat.reduceDiv, Int.reduceBEq, rules2, rulesX, rowsX, List.map_nil]
    · rw [ite_f hb4] at h
      try simp only [hb2, hb4, Nat.reduceBEq, Nat.reduceMul, Nat.reduceAdd, Nat.reduceDiv, Int.reduceBEq, rules2, rulesX, rowsX]
      cases h
      exact ⟨⟨rfl, trivial⟩, rfl⟩
  · rw [ite_f hb2] at h
    try simp only [hb2, Nat.reduceBEq, Nat.reduceMul, Nat.reduceAdd, Nat.reduceDiv, Int.reduceBEq, rules2, rulesX, rowsX]
    cases h
    exact ⟨⟨rfl, trivial⟩, rfl⟩
/- 122: impl_IsName -/
def c_impl_IsName_2 : ACode := .seq (.reg [(none, .keep [0, 3, 4] [] [])]) (.seq (.reg [(none, .mv 25 (S 4)), (none, .un 26 .not (S 25)), (none, .mv 27 (S 26)), (some (27, true), .mv 28 (S 3)), (some (27, true), .bin 29 .eql (S 28) (K 0)), (some (27, true), .mv 30 (S 29)), (some (30, false), .mv 31 (S 0)), (some (30, false), .mv 32 (S 3)), (some (30, false), .idx 33 (S 31) (S 32)), (some (30, false), .bin 34 .lss (S 33) (K8 48)), (some (27, true), .pick 35 (S 30) (KB true) (S 34)), (some (27, true), .mv 36 (S 35)), (some (36, false), .mv 37 (S 0)), (some (36, false), .mv 38 (S 3)), (some (36, false), .idx 39 (S 37) (S 38)), (some (36, false), .bin 40 .gtr (S 39) (K8 57)), (some (27, true), .pick 41 (S 36) (KB true) (S 40)), (none, .pick 42 (S 27) (S 41) (KB false))]) (.cond (S 42) (.seq (.reg [(none, .mv 2 (KB false))]) .ret) .skip))
def c_impl_IsName_3 : ACode := .seq (.reg [(none, .keep [0, 3] [] [])]) (.reg [(none, .mv 13 (S 3)), (none, .bin 14 .add (S 13) (K 1)), (none, .mv 3 (S 14))])
def c_impl_IsName_1 : ACode := .seq (.reg [(none, .keep [0, 3] [] [])]) (.seq (.seq (.reg [(none, .mv 9 (S 3)), (none, .mv 10 (S 0)), (none, .slen 11 (S 10)), (none, .bin 12 .lss (S 9) (S 11))]) (.cond (S 12) .skip (.exit 0))) (.seq (.block 1 (.seq (.reg [(none, .mv 15 (S 0)), (none, .mv 16 (S 3)), (none, .idx 17 (S 15) (S 16)), (none, .bin 18 .geq (S 17) (K8 97)), (none, .mv 19 (S 18)), (some (19, true), .mv 20 (S 0)), (some (19, true), .mv 21 (S 3)), (some (19, true), .idx 22 (S 20) (S 21)), (some (19, true), .bin 23 .leq (S 22) (K8 122)), (none, .pick 24 (S 19) (S 23) (KB false)), (none, .mv 4 (S 24))]) c_impl_IsName_2)) c_impl_IsName_3))
def c_impl_IsName_n1 : ACode := (.seq (.reg [(none, .mv 2 (KB true))]) .ret)
def c_impl_IsName : ACode := (.seq (.reg [(none, .mv 2 (KB false))]) (.seq (.seq (.reg [(none, .mv 5 (S 0)), (none, .slen 6 (S 5)), (none, .call 7 94 [(S 6), (K 1), (K 8)]), (none, .un 8 .not (S 7))]) (.cond (S 8) (.seq (.reg [(none, .mv 2 (KB false))]) .ret) .skip)) (.seq (.seq (.reg [(none, .mv 3 (K 0))]) (.block 0 (.loop c_impl_IsName_1))) c_impl_IsName_n1)))
theorem w_impl_IsName_3 (a0 : List UInt8) (v3 : Int) (k_impl_IsName_1 : Int → Option Bool) (hk_impl_IsName_1 : ∀ (v3 : Int) zr, k_impl_IsName_1 v3 = some zr → ∀ σ : St, σ.kept [0, 3] [] [] = ⟨[(0, vc (aS a0)), (3, vc (aI v3))], [], []⟩ → go Tryz.prog (.code (.loop c_impl_IsName_1) :: [.blk 0, .code c_impl_IsName_n1]) (Ret [2] [.sc (.v (.bool zr))]) .normal (some σ)) (r : Bool) (h : f_impl_IsName_3 a0 v3 k_impl_IsName_1 = some r) (σ : St) (hσ : σ.kept [0, 3] [] [] = ⟨[(0, vc (aS a0)), (3, vc (aI v3))], [], []⟩) : go Tryz.prog (.code c_impl_IsName_3 :: [.code (.loop c_impl_IsName_1), .blk 0, .code c_impl_IsName_n1]) (Ret [2] [.sc (.v (.bool r))]) .normal (some σ) := by
  unfold f_impl_IsName_3 at h
  try simp only [hσ, c_impl_IsName_3, Nat.reduceBEq, Nat.reduceMul, Nat.reduceAdd, Nat.reduceDiv, Int.reduceBEq, rules2, rulesX, rowsX]
  refine hk_impl_IsName_1 _ _ h _ ?_
  try simp only [Nat.reduceBEq, Nat.reduceMul, Nat.reduceAdd, Nat.reduceDiv, Int.reduceBEq, rules2, rulesX, rowsX, List.map_nil]
theorem w_impl_IsName_2 (a0 : List UInt8) (v3 : Int) (k_impl_IsName_1 : Int → Option Bool) (hk_impl_IsName_1 : ∀ (v3 : Int) zr, k_impl_IsName_1 v3 = some zr → ∀ σ : St, σ.kept [0, 3] [] [] = ⟨[(0, vc (aS a0)), (3, vc (aI v3))], [], []⟩ → go Tryz.prog (.code (.loop c_impl_IsName_1) :: [.blk 0, .code c_impl_IsName_n1]) (Ret [2] [.sc (.v (.bool zr))]) .normal (some σ)) (v7 : Bool) (r : Bool) (h : f_impl_IsName_2 a0 v3 k_impl_IsName_1 v7 = some r) (σ : St) (hσ : σ.kept [0, 3, 4] [] [] = ⟨[(0, vc (aS a0)), (3, vc (aI v3)), (4, vc (aB v7))], [], []⟩) : go Tryz.prog (.code c_impl_IsName_2 :: [.blk 1, .code c_impl_IsName_3, .code (.loop c_impl_IsName_1), .blk 0, .code c_impl_IsName_n1]) (Ret [2] [.sc (.v (.bool r))]) .normal (some σ) := by
  unfold f_impl_IsName_2 at h
  rcases Bool.eq_false_or_eq_true v7 with hb8 | hb8
  · rw [ite_t hb8] at h
    try simp only [hσ, hb8, c_impl_IsName_2, Nat.reduceBEq, Nat.reduceMul, Nat.reduceAdd, Nat.reduceDiv, Int.reduceBEq, rules2, rulesX, rowsX]
    refine w_impl_IsName_3 _ _ k_impl_IsName_1 hk_impl_IsName_1 _ h _ ?_
    try simp only [hb8, Nat.reduceBEq, Nat.reduceMul, Nat.reduceAdd, Nat.reduceDiv, Int.reduceBEq, rules2, rulesX, rowsX, List.map_nil]
  · rw [ite_f hb8] at h
    rcases Bool.eq_false_or_eq_true (v3 == (0 : Int)) with hb9 | hb9
    · rw [ite_t hb9] at h
      try simp only [hσ, hb8, hb9, c_impl_IsName_2, Nat.reduceBEq, Nat.reduceMul, Nat.reduceAdd, Nat.reduceDiv, Int.reduceBEq, rules2, rulesX, rowsX]
      cases h
      exact ⟨⟨rfl, trivial⟩, rfl⟩
    · rw [ite_f hb9] at h
      obtain ⟨b10, hb10, h⟩ := ob h
      rcases Bool.eq_false_or_eq_true (decide ((b10.toNat : Int) < (48 : Int))) with hb11 | hb11
      · rw [ite_t hb11] at h
        try simp only [hσ, hb8, hb9, hb10, hb11, c_impl_IsName_2, Nat.reduceBEq, Nat.reduceMul, Nat.reduceAdd, Nat.reduceDiv, Int.reduceBEq, rules2, rulesX, rowsX]
        cases h
        exact ⟨⟨rfl, trivial⟩, rfl⟩
      · rw [ite_f hb11] at h
        rcases Bool.eq_false_or_eq_true (decide ((57 : Int) < (b10.toNat : Int))) with hb12 | hb12
        · rw [ite_t hb12] at h
          try simp only [hσ, hb8, hb9, hb10, hb11, hb12, c_impl_IsName_2, Nat.reduceBEq, Nat.reduceMul, Nat.reduceAdd, Nat.reduceDiv, Int.reduceBEq, rules2, rulesX, rowsX]
          cases h
          exact ⟨⟨rfl, trivial⟩, rfl⟩
        · rw [ite_f hb12] at h
          try simp only [hσ, hb8, hb9, hb10, hb11, hb12, c_impl_IsName_2, Nat.reduceBEq, Nat.reduceMul, Nat.reduceAdd, Nat.reduceDiv, Int.reduceBEq, rules2, rulesX, rowsX]
          refine w_impl_IsName_3 _ _ k_impl_IsName_1 hk_impl_IsName_1 _ h _ ?_
          try simp only [hb8, hb9, hb10, hb11, hb12, Nat.reduceBEq, Nat.reduceMul, Nat.reduceAdd, Nat.reduceDiv, Int.reduceBEq, rules2, rulesX, rowsX, List.map_nil]
theorem w_impl_IsName_1 (a0 : List UInt8) : ∀ (n : Nat) (v3 : Int) (r : Bool), f_impl_IsName_1 a0 n v3 = some r → ∀ σ : St, σ.kept [0, 3] [] [] = ⟨[(0, vc (aS a0)), (3, vc (aI v3))], [], []⟩ → go Tryz.prog (.code (.loop c_impl_IsName_1) :: [.blk 0, .code c_impl_IsName_n1]) (Ret [2] [.sc (.v (.bool r))]) .normal (some σ) := by
  intro n
  induction n with
  | zero => intro _ r h; cases h
  | succ n ih =>
    intro v3 r h σ hσ
    rw [f_impl_IsName_1] at h
    refine go_round ?_
    rcases Bool.eq_false_or_eq_true (decide (v3 < (a0.length : Int))) with hb4 | hb4
    · rw [ite_t hb4] at h
      obtain ⟨b5, hb5, h⟩ := ob h
      rcases Bool.eq_false_or_eq_true (decide ((97 : Int) ≤ (b5.toNat : Int))) with hb6 | hb6
      · rw [ite_t hb6] at h
        try simp only [hσ, hb4, hb5, hb6, c_impl_IsName_1, Nat.reduceBEq, Nat.reduceMul, Nat.reduceAdd, Nat.reduceDiv, Int.reduceBEq, rules2, rulesX, rowsX]
        refine w_impl_IsName_2 _ _ (f_impl_IsName_1 a0 n) ih _ _ h _ ?_
        try simp only [hb4, hb5, hb6, Nat.reduceBEq, Nat.reduceMul, Nat.reduceAdd, Nat.reduceDiv, Int.reduceBEq, rules2, rulesX, rowsX, List.map_nil]
      · rw [ite_f hb6] at h
        try simp only [hσ, hb4, hb5, hb6, c_impl_IsName_1, Nat.reduceBEq, Nat.reduceMul, Nat.reduceAdd, Nat.reduceDiv, Int.reduceBEq, rules2, rulesX, rowsX]
        refine w_impl_IsName_2 _ _ (f_impl_IsName_1 a0 n) ih _ _ h _ ?_
        try simp only [hb4, hb5, hb6, Nat.reduceBEq, Nat.reduceMul, Nat.reduceAdd, Nat.reduceDiv, Int.reduceBEq, rules2, rulesX, rowsX, List.map_nil]
    · rw [ite_f hb4] at h
      try simp only [hσ, hb4, c_impl_IsName_1, c_impl_IsName_n1, Nat.reduceBEq, Nat.reduceMul, Nat.reduceAdd, Nat.reduceDiv, Int.reduceBEq, rules2, rulesX, rowsX]
      cases h
      exact ⟨⟨rfl, trivial⟩, rfl⟩
theorem e_impl_IsName : entry Tryz.prog 122 = some (c_impl_IsName.strip, [2], 43) := by kernel_rfl
theorem w_impl_IsName (a0 : List UInt8) (r : Bool) (h : f_impl_IsName a0 = some r) : FC Tryz.prog 122 [.sc (.str a0)] [.sc (.v (.bool r))] := by
  unfold f_impl_IsName at h
  refine FC_go (σ := ⟨[(0, vc (aS a0))], [], []⟩) mixed e_impl_IsName rfl rfl ?_
  simp only [c_impl_IsName]
  obtain ⟨r1, hr1, h⟩ := ob h
  try simp only [Nat.reduceBEq, Nat.reduceMul, Nat.reduceAdd, Nat.reduceDiv, Int.reduceBEq, rules2, rulesX, rowsX]
  refine go_callI (w_impl_within _ _ _ _ hr1) rfl rfl (Nat.le_of_ble_eq_true rfl) ?_
  rcases Bool.eq_false_or_eq_true r1 with hb2 | hb2
  · rw [ite_t hb2] at h
    try simp only [hb2, Nat.reduceBEq, Nat.reduceMul, Nat.reduceAdd, Nat.reduceDiv, Int.reduceBEq, rules2, rulesX, rowsX]
    refine w_impl_IsName_1 _ _ _ _ h _ ?_
    try simp only [hb2, Nat.reduceBEq, Nat.reduceMul, Nat.reduceAdd, Nat.reduceDiv, Int.reduceBEq, rules2, rulesX, rowsX, List.map_nil]
  · rw [ite_f hb2] at h
    try simp only [hb2, Nat.reduceBEq, Nat.reduceMul, Nat.reduceAdd, Nat.reduceDiv, Int.reduceBEq, rules2, rulesX, rowsX]
    cases h
    exact ⟨⟨rfl, trivial⟩, rfl⟩
/- 123: impl_PointNamed -/
def c_impl_PointNamed_1 : ACode := .seq (.reg [(none, .keep [1, 8, 9, 10] [] [])]) (.seq (.reg [(none, .bin 11 .lss (S 10) (S 9))]) (.seq (.cond (S 11) .skip (.exit 0)) (.seq (.block 1 (.seq (.reg [(none, .mv 12 (S 10)), (none, .iaddr 13 (S 8) (S 10) 2), (none, .load 14 (S 13) true 2), (none, .alloc 6 [aS [], aB false]), (none, .mv 5 (S 12)), (none, .store (S 6) (S 14) 2)]) (.seq (.reg [(none, .faddr 15 (S 6) 0), (none, .load 16 (S 15) false 1), (none, .mv 17 (S 1)), (none, .bin 18 .eql (S 16) (S 17))]) (.cond (S 18) (.seq (.reg [(none, .mv 19 (S 5)), (none, .mv 4 (S 19))]) .ret) .skip)))) (.reg [(none, .bin 20 .add (S 10) (K 1)), (none, .mv 10 (S 20))]))))
def c_impl_PointNamed_n1 : ACode := (.seq (.reg [(none, .mv 4 (K (-1)))]) .ret)
def c_impl_PointNamed : ACode := (.seq (.reg [(none, .box 2 (S 0)), (none, .mv 4 (K 0))]) (.seq (.seq (.reg [(none, .faddr 7 (S 2) 0), (none, .load 8 (S 7) false 1), (none, .len 9 (S 8)), (none, .mv 10 (K 0))]) (.block 0 (.loop c_impl_PointNamed_1))) c_impl_PointNamed_n1))
theorem w_impl_PointNamed_1 (a1 : List UInt8) (a0 : XChart) : ∀ (n : Nat) (v1 : Int) (r : Int), f_impl_PointNamed_1 a1 a0 n v1 = some r → ∀ σ : St, σ.kept [1, 8, 9, 10] [] [] = ⟨[(1, vc (aS a1)), (8, vc (aL (List.map XPoint.row a0.Points))), (9, vc (aI (a0.Points.length : Int))), (10, vc (aI v1))], [], []⟩ → go Tryz.prog (.code (.loop c_impl_PointNamed_1) :: [.blk 0, .code c_impl_PointNamed_n1]) (Ret [4] [.sc (.v (.int .i64 r))]) .normal (some σ) := by
  intro n
  induction n with
  | zero => intro _ r h; cases h
  | succ n ih =>
    intro v1 r h σ hσ
    rw [f_impl_PointNamed_1] at h
    refine go_round ?_
    rcases Bool.eq_false_or_eq_true (decide (v1 < (a0.Points.length : Int))) with hb2 | hb2
    · rw [ite_t hb2] at h
      obtain ⟨x3, hx3, h⟩ := ob h
      try simp only [hσ, hb2, hx3, c_impl_PointNamed_1, Nat.reduceBEq, Nat.reduceMul, Nat.reduceAdd, Nat.reduceDiv, Int.reduceBEq, rules2, rulesX, rowsX]
      refine go_al rfl rfl ?_
      rcases Bool.eq_false_or_eq_true (x3.Name == a1) with hb4 | hb4
      · rw [ite_t hb4] at h
        try simp only [hb2, hx3, hb4, Nat.reduceBEq, Nat.reduceMul, Nat.reduceAdd, Nat.reduceDiv, Int.reduceBEq, rules2, rulesX, rowsX]
        cases h
        exact ⟨⟨rfl, trivial⟩, rfl⟩
      · rw [ite_f hb4] at h
        try simp only [hb2, hx3, hb4, Nat.reduceBEq, Nat.reduceMul, Nat.reduceAdd, Nat.reduceDiv, Int.reduceBEq, rules2, rulesX, rowsX]
        refine ih _ _ h _ ?_
        try simp only [hb2, hx3, hb4, Nat.reduceBEq, Nat.reduceMul, Nat.reduceAdd, Nat.reduceDiv, Int.reduceBEq, rules2, rulesX, rowsX, List.map_nil]
    · rw [ite_f hb2] at h
      try simp only [hσ, hb2, c_impl_PointNamed_1, c_impl_PointNamed_n1, Nat.reduceBEq, Nat.reduceMul, Nat.reduceAdd, Nat.reduceDiv, Int.reduceBEq, rules2, rulesX, rowsX]
      cases h
      exact ⟨⟨rfl, trivial⟩, rfl⟩
theorem e_impl_PointNamed : entry Tryz.prog 123 = some (c_impl_PointNamed.strip, [4], 21) := by kernel_rfl
theorem w_impl_PointNamed (a0 : XChart) (a1 : List UInt8) (r : Int) (h : f_impl_PointNamed a0 a1 = some r) : FC Tryz.prog 123 [.ag (XChart.row a0), .sc (.str a1)] [.sc (.v (.int .i64 r))] := by
  unfold f_impl_PointNamed at h
  refine FC_go (σ := ⟨[(0, va [aL (List.map XPoint.row a0.Points), aL (List.map XSegment.row a0.Segments)]), (1, vc (aS a1))], [], []⟩) mixed e_impl_PointNamed rfl rfl ?_
  simp only [c_impl_PointNamed]
  try simp only [Nat.reduceBEq, Nat.reduceMul, Nat.reduceAdd, Nat.reduceDiv, Int.reduceBEq, rules2, rulesX, rowsX]
  refine go_bx rfl rfl rfl ?_
  try simp only [Nat.reduceBEq, Nat.reduceMul, Nat.reduceAdd, Nat.reduceDiv, Int.reduceBEq, rules2, rulesX, rowsX]
  refine w_impl_PointNamed_1 _ _ _ _ _ h _ ?_
  try simp only [Nat.reduceBEq, Nat.reduceMul, Nat.reduceAdd, Nat.reduceDiv, Int.reduceBEq, rules2, rulesX, rowsX, List.map_nil]
/- 95: impl_isIndex -/
def c_impl_isIndex : ACode := (.seq (.reg [(none, .mv 4 (KB false))]) (.seq (.reg [(none, .mv 5 (S 0)), (none, .bin 6 .geq (S 5) (K 0)), (none, .mv 7 (S 6)), (some (7, true), .mv 8 (S 0)), (some (7, true), .mv 9 (S 1)), (some (7, true), .bin 10 .lss (S 8) (S 9)), (none, .pick 11 (S 7) (S 10) (KB false)), (none, .mv 4 (S 11))]) .ret))
theorem e_impl_isIndex : entry Tryz.prog 95 = some (c_impl_isIndex.strip, [4], 12) := by kernel_rfl
theorem w_impl_isIndex (a0 : Int) (a1 : Int) (r : Bool) (h : f_impl_isIndex a0 a1 = some r) : FC Tryz.prog 95 [.sc (.int .i64 a0), .sc (.int .i64 a1)] [.sc (.v (.bool r))] := by
  unfold f_impl_isIndex at h
  refine FC_go (σ := ⟨[(0, vc (aI a0)), (1, vc (aI a1))], [], []⟩) mixed e_impl_isIndex rfl rfl ?_
  simp only [c_impl_isIndex]
  rcases Bool.eq_false_or_eq_true (decide ((0 : Int) ≤ a0)) with hb1 | hb1
  · rw [ite_t hb1] at h
    try simp only [hb1, Nat.reduceBEq, Nat.reduceMul, Nat.reduceAdd, Nat.reduceDiv, Int.reduceBEq, rules2, rulesX, rowsX]
    cases h
    exact ⟨⟨rfl, trivial⟩, rfl⟩
  · rw [ite_f hb1] at h
    try simp only [hb1, Nat.reduceBEq, Nat.reduceMul, Nat.reduceAdd, Nat.reduceDiv, Int.reduceBEq, rules2, rulesX, rowsX]
    cases h
    exact ⟨⟨rfl, trivial⟩, rfl⟩
/- 124: impl_Segment_joins -/
def c_impl_Segment_joins : ACode := (.seq (.reg [(none, .box 3 (S 0)), (none, .mv 6 (KB false))]) (.seq (.reg [(none, .faddr 7 (S 3) 0), (none, .load 8 (S 7) false 1), (none, .mv 9 (S 1)), (none, .bin 10 .eql (S 8) (S 9)), (none, .mv 11 (S 10)), (some (11, true), .faddr 12 (S 3) 1), (some (11, true), .load 13 (S 12) false 1), (some (11, true), .mv 14 (S 2)), (some (11, true), .bin 15 .eql (S 13) (S 14)), (none, .pick 16 (S 11) (S 15) (KB false)), (none, .mv 17 (S 16)), (some (17, false), .faddr 18 (S 3) 0), (some (17, false), .load 19 (S 18) false 1), (some (17, false), .mv 20 (S 2)), (some (17, false), .bin 21 .eql (S 19) (S 20)), (some (17, false), .mv 22 (S 21)), (some (22, true), .faddr 23 (S 3) 1), (some (22, true), .load 24 (S 23) false 1), (some (22, true), .mv 25 (S 1)), (some (22, true), .bin 26 .eql (S 24) (S 25)), (some (17, false), .pick 27 (S 22) (S 26) (KB false)), (none, .pick 28 (S 17) (KB true) (S 27)), (none, .mv 6 (S 28))]) .ret))
theorem e_impl_Segment_joins : entry Tryz.prog 124 = some (c_impl_Segment_joins.strip, [6], 29) := by kernel_rfl
theorem w_impl_Segment_joins (a0 : XSegment) (a1 : Int) (a2 : Int) (r : Bool) (h : f_impl_Segment_joins a0 a1 a2 = some r) : FC Tryz.prog 124 [.ag (XSegment.row a0), .sc (.int .i64 a1), .sc (.int .i64 a2)] [.sc (.v (.bool r))] := by
  unfold f_impl_Segment_joins at h
  refine FC_go (σ := ⟨[(0, va [aI a0.A, aI a0.B, aI a0.Depth, aI a0.Minutes, aB a0.Meet]), (1, vc (aI a1)), (2, vc (aI a2))], [], []⟩) mixed e_impl_Segment_joins rfl rfl ?_
  simp only [c_impl_Segment_joins]
  try simp only [Nat.reduceBEq, Nat.reduceMul, Nat.reduceAdd, Nat.reduceDiv, Int.reduceBEq, rules2, rulesX, rowsX]
  refine go_bx rfl rfl rfl ?_
  rcases Bool.eq_false_or_eq_true (a0.A == a1) with hb1 | hb1
  · rw [ite_t hb1] at h
    rcases Bool.eq_false_or_eq_true (a0.B == a2) with hb2 | hb2
    · rw [ite_t hb2] at h
      try simp only [hb1, hb2, Nat.reduceBEq, Nat.reduceMul, Nat.reduceAdd, Nat.reduceDiv, Int.reduceBEq, rules2, rulesX, rowsX]
      cases h
      exact ⟨⟨rfl, trivial⟩, rfl⟩
    · rw [ite_f hb2] at h
      rcases Bool.eq_false_or_eq_true (a0.A == a2) with hb3 | hb3
      · rw [ite_t hb3] at h
        try simp only [hb1, hb2, hb3, Nat.reduceBEq, Nat.reduceMul, Nat.reduceAdd, Nat.reduceDiv, Int.reduceBEq, rules2, rulesX, rowsX]
        cases h
        exact ⟨⟨rfl, trivial⟩, rfl⟩
      · rw [ite_f hb3] at h
        try simp only [hb1, hb2, hb3, Nat.reduceBEq, Nat.reduceMul, Nat.reduceAdd, Nat.reduceDiv, Int.reduceBEq, rules2, rulesX, rowsX]
        cases h
        exact ⟨⟨rfl, trivial⟩, rfl⟩
  · rw [ite_f hb1] at h
    rcases Bool.eq_false_or_eq_true (a0.A == a2) with hb4 | hb4
    · rw [ite_t hb4] at h
      try simp only [hb1, hb4, Nat.reduceBEq, Nat.reduceMul, Nat.reduceAdd, Nat.reduceDiv, Int.reduceBEq, rules2, rulesX, rowsX]
      cases h
      exact ⟨⟨rfl, trivial⟩, rfl⟩
    · rw [ite_f hb4] at h
      try simp only [hb1, hb4, Nat.reduceBEq, Nat.reduceMul, Nat.reduceAdd, Nat.reduceDiv, Int.reduceBEq, rules2, rulesX, rowsX]
      cases h
      exact ⟨⟨rfl, trivial⟩, rfl⟩
/- 90: impl_ChartOk -/
def c_impl_ChartOk_1 : ACode := .seq (.reg [(none, .keep [1, 20, 21, 22] [1] [])]) (.seq (.reg [(none, .bin 23 .lss (S 22) (S 21))]) (.seq (.cond (S 23) .skip (.exit 0)) (.seq (.block 1 (.seq (.reg [(none, .mv 24 (S 22)), (none, .iaddr 25 (S 20) (S 22) 2), (none, .load 26 (S 25) true 2), (none, .alloc 4 [aS [], aB false]), (none, .mv 3 (S 24)), (none, .store (S 4) (S 26) 2)]) (.seq (.reg [(none, .faddr 27 (S 4) 0), (none, .load 28 (S 27) false 1), (none, .call 29 122 [(S 28)]), (none, .un 30 .not (S 29)), (none, .mv 31 (S 30)), (some (31, false), .load 32 (S 1) true 2), (some (31, false), .faddr 33 (S 4) 0), (some (31, false), .load 34 (S 33) false 1), (some (31, false), .call 35 123 [(S 32), (S 34)]), (some (31, false), .mv 36 (S 3)), (some (31, false), .bin 37 .neq (S 35) (S 36)), (none, .pick 38 (S 31) (KB true) (S 37))]) (.cond (S 38) (.seq (.reg [(none, .mv 2 (KB false))]) .ret) .skip)))) (.reg [(none, .bin 39 .add (S 22) (K 1)), (none, .mv 22 (S 39))]))))
def c_impl_ChartOk_3 : ACode := .seq (.reg [(none, .keep [1, 6, 41, 42, 43, 86, 87, 88] [1, 6] [])]) (.seq (.reg [(none, .bin 89 .lss (S 88) (S 87))]) (.seq (.cond (S 89) .skip (.exit 4)) (.seq (.block 5 (.seq (.reg [(none, .iaddr 90 (S 86) (S 88) 5), (none, .load 91 (S 90) true 5), (none, .alloc 8 [aI 0, aI 0, aI 0, aI 0, aB false]), (none, .store (S 8) (S 91) 5)]) (.seq (.reg [(none, .load 92 (S 8) true 5), (none, .faddr 93 (S 6) 0), (none, .load 94 (S 93) false 1), (none, .faddr 95 (S 6) 1), (none, .load 96 (S 95) false 1), (none, .call 97 124 [(S 92), (S 94), (S 96)])]) (.cond (S 97) (.seq (.reg [(none, .mv 2 (KB false))]) .ret) .skip)))) (.reg [(none, .bin 98 .add (S 88) (K 1)), (none, .mv 88 (S 98))]))))
def c_impl_ChartOk_n3 : ACode := (.reg [(none, .bin 99 .add (S 43) (K 1)), (none, .mv 43 (S 99))])
def c_impl_ChartOk_2 : ACode := .seq (.reg [(none, .keep [1, 41, 42, 43] [1] [])]) (.seq (.reg [(none, .bin 44 .lss (S 43) (S 42))]) (.seq (.cond (S 44) .skip (.exit 2)) (.seq (.block 3 (.seq (.reg [(none, .mv 45 (S 43)), (none, .iaddr 46 (S 41) (S 43) 5), (none, .load 47 (S 46) true 5), (none, .alloc 6 [aI 0, aI 0, aI 0, aI 0, aB false]), (none, .mv 5 (S 45)), (none, .store (S 6) (S 47) 5)]) (.seq (.seq (.reg [(none, .faddr 48 (S 6) 0), (none, .load 49 (S 48) false 1), (none, .faddr 50 (S 1) 0), (none, .load 51 (S 50) false 1), (none, .len 52 (S 51)), (none, .call 53 95 [(S 49), (S 52)]), (none, .un 54 .not (S 53)), (none, .mv 55 (S 54)), (some (55, false), .faddr 56 (S 6) 1), (some (55, false), .load 57 (S 56) false 1), (some (55, false), .faddr 58 (S 1) 0), (some (55, false), .load 59 (S 58) false 1), (some (55, false), .len 60 (S 59)), (some (55, false), .call 61 95 [(S 57), (S 60)]), (some (55, false), .un 62 .not (S 61)), (none, .pick 63 (S 55) (KB true) (S 62)), (none, .mv 64 (S 63)), (some (64, false), .faddr 65 (S 6) 0), (some (64, false), .load 66 (S 65) false 1), (some (64, false), .faddr 67 (S 6) 1), (some (64, false), .load 68 (S 67) false 1), (some (64, false), .bin 69 .eql (S 66) (S 68)), (none, .pick 70 (S 64) (KB true) (S 69)), (none, .mv 71 (S 70)), (some (71, false), .faddr 72 (S 6) 2), (some (71, false), .load 73 (S 72) false 1), (some (71, false), .call 74 94 [(S 73), (K 0), (K 3000)]), (some (71, false), .un 75 .not (S 74)), (none, .pick 76 (S 71) (KB true) (S 75)), (none, .mv 77 (S 76)), (some (77, false), .faddr 78 (S 6) 3), (some (77, false), .load 79 (S 78) false 1), (some (77, false), .call 80 94 [(S 79), (K 1), (K 240)]), (some (77, false), .un 81 .not (S 80)), (none, .pick 82 (S 77) (KB true) (S 81))]) (.cond (S 82) (.seq (.reg [(none, .mv 2 (KB false))]) .ret) .skip)) (.seq (.reg [(none, .faddr 83 (S 1) 1), (none, .load 84 (S 83) false 1), (none, .mv 85 (S 5)), (none, .slc 86 5 (S 84) none (some (S 85)) none), (none, .len 87 (S 86)), (none, .mv 88 (K 0))]) (.block 4 (.loop c_impl_ChartOk_3)))))) c_impl_ChartOk_n3)))
def c_impl_ChartOk_n2 : ACode := (.seq (.reg [(none, .mv 2 (KB true))]) .ret)
def c_impl_ChartOk_n1 : ACode := (.seq (.seq (.reg [(none, .faddr 40 (S 1) 1), (none, .load 41 (S 40) false 1), (none, .len 42 (S 41)), (none, .mv 43 (K 0))]) (.block 2 (.loop c_impl_ChartOk_2))) c_impl_ChartOk_n2)
def c_impl_ChartOk : ACode := (.seq (.reg [(none, .box 1 (S 0)), (none, .mv 2 (KB false))]) (.seq (.seq (.reg [(none, .faddr 9 (S 1) 0), (none, .load 10 (S 9) false 1), (none, .len 11 (S 10)), (none, .bin 12 .gtr (S 11) (K 8)), (none, .mv 13 (S 12)), (some (13, false), .faddr 14 (S 1) 1), (some (13, false), .load 15 (S 14) false 1), (some (13, false), .len 16 (S 15)), (some (13, false), .bin 17 .gtr (S 16) (K 10)), (none, .pick 18 (S 13) (KB true) (S 17))]) (.cond (S 18) (.seq (.reg [(none, .mv 2 (KB false))]) .ret) .skip)) (.seq (.seq (.reg [(none, .faddr 19 (S 1) 0), (none, .load 20 (S 19) false 1), (none, .len 21 (S 20)), (none, .mv 22 (K 0))]) (.block 0 (.loop c_impl_ChartOk_1))) c_impl_ChartOk_n1)))
theorem w_impl_ChartOk_3 (a0 : XChart) (v10 : Int) (x12 : XSegment) (y23 : List XSegment) (y24 : Int) (k_impl_ChartOk_2 : Int → Option Bool) (hk_impl_ChartOk_2 : ∀ (v10 : Int) zr, k_impl_ChartOk_2 v10 = some zr → ∀ σ : St, σ.kept [1, 41, 42, 43] [1] [] = ⟨[(1, vc (.pb 1 0)), (41, vc (aL (List.map XSegment.row a0.Segments))), (42, vc (aI (a0.Segments.length : Int))), (43, vc (aI v10))], [(1, [aL (List.map XPoint.row a0.Points), aL (List.map XSegment.row a0.Segments)])], []⟩ → go Tryz.prog (.code (.loop c_impl_ChartOk_2) :: [.blk 2, .code c_impl_ChartOk_n2]) (Ret [2] [.sc (.v (.bool zr))]) .normal (some σ)) : ∀ (n : Nat) (v25 : Int) (r : Bool), f_impl_ChartOk_3 a0 v10 x12 y23 y24 k_impl_ChartOk_2 n v25 = some r → ∀ σ : St, σ.kept [1, 6, 41, 42, 43, 86, 87, 88] [1, 6] [] = ⟨[(1, vc (.pb 1 0)), (6, vc (.pb 6 0)), (41, vc (aL (List.map XSegment.row a0.Segments))), (42, vc (aI (a0.Segments.length : Int))), (43, vc (aI v10)), (86, vc (aL (List.map XSegment.row y23))), (87, vc (aI y24)), (88, vc (aI v25))], [(1, [aL (List.map XPoint.row a0.Points), aL (List.map XSegment.row a0.Segments)]), (6, [aI x12.A, aI x12.B, aI x12.Depth, aI x12.Minutes, aB x12.Meet])], []⟩ → go Tryz.prog (.code (.loop c_impl_ChartOk_3) :: [.blk 4, .blk 3, .code c_impl_ChartOk_n3, .code (.loop c_impl_ChartOk_2), .blk 2, .code c_impl_ChartOk_n2]) (Ret [2] [.sc (.v (.bool r))]) .normal (some σ) := by
  intro n
  induction n with
  | zero => intro _ r h; cases h
  | succ n ih =>
    intro v25 r h σ hσ
    rw [f_impl_ChartOk_3] at h
    refine go_round ?_
    rcases Bool.eq_false_or_eq_true (decide (v25 < y24)) with hb26 | hb26
    · rw [ite_t hb26] at h
      obtain ⟨x27, hx27, h⟩ := ob h
      try simp only [hσ, hb26, hx27, c_impl_ChartOk_3, Nat.reduceBEq, Nat.reduceMul, Nat.reduceAdd, Nat.reduceDiv, Int.reduceBEq, rules2, rulesX, rowsX]
      refine go_al rfl rfl ?_
      obtain ⟨r28, hr28, h⟩ := ob h
      try simp only [hb26, hx27, Nat.reduceBEq, Nat.reduceMul, Nat.reduceAdd, Nat.reduceDiv, Int.reduceBEq, rules2, rulesX, rowsX]
      refine go_callI (w_impl_Segment_joins _ _ _ _ hr28) rfl rfl (Nat.le_of_ble_eq_true rfl) ?_
      rcases Bool.eq_false_or_eq_true r28 with hb29 | hb29
      · rw [ite_t hb29] at h
        try simp only [hb26, hx27, hb29, Nat.reduceBEq, Nat.reduceMul, Nat.reduceAdd, Nat.reduceDiv, Int.reduceBEq, rules2, rulesX, rowsX]
        cases h
        exact ⟨⟨rfl, trivial⟩, rfl⟩
      · rw [ite_f hb29] at h
        try simp only [hb26, hx27, hb29, Nat.reduceBEq, Nat.reduceMul, Nat.reduceAdd, Nat.reduceDiv, Int.reduceBEq, rules2, rulesX, rowsX]
        refine ih _ _ h _ ?_
        try simp only [hb26, hx27, hb29, Nat.reduceBEq, Nat.reduceMul, Nat.reduceAdd, Nat.reduceDiv, Int.reduceBEq, rules2, rulesX, rowsX, List.map_nil]
    · rw [ite_f hb26] at h
      try simp only [hσ, hb26, c_impl_ChartOk_3, c_impl_ChartOk_n3, Nat.reduceBEq, Nat.reduceMul, Nat.reduceAdd, Nat.reduceDiv, Int.reduceBEq, rules2, rulesX, rowsX]
      refine hk_impl_ChartOk_2 _ _ h _ ?_
      try simp only [hb26, Nat.reduceBEq, Nat.reduceMul, Nat.reduceAdd, Nat.reduceDiv, Int.reduceBEq, rules2, rulesX, rowsX, List.map_nil]
theorem w_impl_ChartOk_2 (a0 : XChart) : ∀ (n : Nat) (v10 : Int) (r : Bool), f_impl_ChartOk_2 a0 n v10 = some r → ∀ σ : St, σ.kept [1, 41, 42, 43] [1] [] = ⟨[(1, vc (.pb 1 0)), (41, vc (aL (List.map XSegment.row a0.Segments))), (42, vc (aI (a0.Segments.length : Int))), (43, vc (aI v10))], [(1, [aL (List.map XPoint.row a0.Points), aL (List.map XSegment.row a0.Segments)])], []⟩ → go Tryz.prog (.code (.loop c_impl_ChartOk_2) :: [.blk 2, .code c_impl_ChartOk_n2]) (Ret [2] [.sc (.v (.bool r))]) .normal (some σ) := by
  intro n
  induction n with
  | zero => intro _ r h; cases h
  | succ n ih =>
    intro v10 r h σ hσ
    rw [f_impl_ChartOk_2] at h
    refine go_round ?_
    rcases Bool.eq_false_or_eq_true (decide (v10 < (a0.Segments.length : Int))) with hb11 | hb11
    · rw [ite_t hb11] at h
      obtain ⟨x12, hx12, h⟩ := ob h
      try simp only [hσ, hb11, hx12, c_impl_ChartOk_2, Nat.reduceBEq, Nat.reduceMul, Nat.reduceAdd, Nat.reduceDiv, Int.reduceBEq, rules2, rulesX, rowsX]
      refine go_al rfl rfl ?_
      obtain ⟨r13, hr13, h⟩ := ob h
      try simp only [hb11, hx12, Nat.reduceBEq, Nat.reduceMul, Nat.reduceAdd, Nat.reduceDiv, Int.reduceBEq, rules2, rulesX, rowsX]
      refine go_callI (w_impl_isIndex _ _ _ hr13) rfl rfl (Nat.le_of_ble_eq_true rfl) ?_
      rcases Bool.eq_false_or_eq_true r13 with hb14 | hb14
      · rw [ite_t hb14] at h
        obtain ⟨r15, hr15, h⟩ := ob h
        try simp only [hb11, hx12, hb14, Nat.reduceBEq, Nat.reduceMul, Nat.reduceAdd, Nat.reduceDiv, Int.reduceBEq, rules2, rulesX, rowsX]
        refine go_callI (w_impl_isIndex _ _ _ hr15) rfl rfl (Nat.le_of_ble_eq_true rfl) ?_
        rcases Bool.eq_false_or_eq_true r15 with hb16 | hb16
        · rw [ite_t hb16] at h
          rcases Bool.eq_false_or_eq_true (x12.A == x12.B) with hb17 | hb17
          · rw [ite_t hb17] at h
            try simp only [hb11, hx12, hb14, hb16, hb17, Nat.reduceBEq, Nat.reduceMul, Nat.reduceAdd, Nat.reduceDiv, Int.reduceBEq, rules2, rulesX, rowsX]
            cases h
            exact ⟨⟨rfl, trivial⟩, rfl⟩
          · rw [ite_f hb17] at h
            obtain ⟨r18, hr18, h⟩ := ob h
            try simp only [hb11, hx12, hb14, hb16, hb17, Nat.reduceBEq, Nat.reduceMul, Nat.reduceAdd, Nat.reduceDiv, Int.reduceBEq, rules2, rulesX, rowsX]
            refine go_callI (w_impl_within _ _ _ _ hr18) rfl rfl (Nat.le_of_ble_eq_true rfl) ?_
            rcases Bool.eq_false_or_eq_true r18 with hb19 | hb19
            · rw [ite_t hb19] at h
              obtain ⟨r20, hr20, h⟩ := ob h
              try simp only [hb11, hx12, hb14, hb16, hb17, hb19, Nat.reduceBEq, Nat.reduceMul, Nat.reduceAdd, Nat.reduceDiv, Int.reduceBEq, rules2, rulesX, rowsX]
              refine go_callI (w_impl_within _ _ _ _ hr20) rfl rfl (Nat.le_of_ble_eq_true rfl) ?_
              rcases Bool.eq_false_or_eq_true r20 with hb21 | hb21
              · rw [ite_t hb21] at h
                obtain ⟨p22, hp22, h⟩ := ob h
                try simp only [hb11, hx12, hb14, hb16, hb17, hb19, hb21, hp22, Nat.reduceBEq, Nat.reduceMul, Nat.reduceAdd, Nat.reduceDiv, Int.reduceBEq, rules2, rulesX, rowsX]
                refine w_impl_ChartOk_3 _ _ _ _ _ (f_impl_ChartOk_2 a0 n) ih _ _ _ h _ ?_
                try simp only [hb11, hx12, hb14, hb16, hb17, hb19, hb21, hp22, Nat.reduceBEq, Nat.reduceMul, Nat.reduceAdd, Nat.reduceDiv, Int.reduceBEq, rules2, rulesX, rowsX, List.map_nil]
              · rw [ite_f hb21] at h
                try simp only [hb11, hx12, hb14, hb16, hb17, hb19, hb21, Nat.reduceBEq, Nat.reduceMul, Nat.reduceAdd, Nat.reduceDiv, Int.reduceBEq, rules2, rulesX, rowsX]
                cases h
                exact ⟨⟨rfl, trivial⟩, rfl⟩
            · rw [ite_f hb19] at h
              try simp only [hb11, hx12, hb14, hb16, hb17, hb19, Nat.reduceBEq, Nat.reduceMul, Nat.reduceAdd, Nat.reduceDiv, Int.reduceBEq, rules2, rulesX, rowsX]
              cases h
              exact ⟨⟨rfl, trivial⟩, rfl⟩
        · rw [ite_f hb16] at h
          try simp only [hb11, hx12, hb14, hb16, Nat.reduceBEq, Nat.reduceMul, Nat.reduceAdd, Nat.reduceDiv, Int.reduceBEq, rules2, rulesX, rowsX]
          cases h
          exact ⟨⟨rfl, trivial⟩, rfl⟩
      · rw [ite_f hb14] at h
        try simp only [hb11, hx12, hb14, Nat.reduceBEq, Nat.reduceMul, Nat.reduceAdd, Nat.reduceDiv, Int.reduceBEq, rules2, rulesX, rowsX]
        cases h
        exact ⟨⟨rfl, trivial⟩, rfl⟩
    · rw [ite_f hb11] at h
      try simp only [hσ, hb11, c_impl_ChartOk_2, c_impl_ChartOk_n2, Nat.reduceBEq, Nat.reduceMul, Nat.reduceAdd, Nat.reduceDiv, Int.reduceBEq, rules2, rulesX, rowsX]
      cases h
      exact ⟨⟨rfl, trivial⟩, rfl⟩
theorem w_impl_ChartOk_1 (a0 : XChart) : ∀ (n : Nat) (v3 : Int) (r : Bool), f_impl_ChartOk_1 a0 n v3 = some r → ∀ σ : St, σ.kept [1, 20, 21, 22] [1] [] = ⟨[(1, vc (.pb 1 0)), (20, vc (aL (List.map XPoint.row a0.Points))), (21, vc (aI (a0.Points.length : Int))), (22, vc (aI v3))], [(1, [aL (List.map XPoint.row a0.Points), aL (List.map XSegment.row a0.Segments)])], []⟩ → go Tryz.prog (.code (.loop c_impl_ChartOk_1) :: [.blk 0, .code c_impl_ChartOk_n1]) (Ret [2] [.sc (.v (.bool r))]) .normal (some σ) := by
  intro n
  induction n with
  | zero => intro _ r h; cases h
  | succ n ih =>
    intro v3 r h σ hσ
    rw [f_impl_ChartOk_1] at h
    refine go_round ?_
    rcases Bool.eq_false_or_eq_true (decide (v3 < (a0.Points.length : Int))) with hb4 | hb4
    · rw [ite_t hb4] at h
      obtain ⟨x5, hx5, h⟩ := ob h
      try simp only [hσ, hb4, hx5, c_impl_ChartOk_1, Nat.reduceBEq, Nat.reduceMul, Nat.reduceAdd, Nat.reduceDiv, Int.reduceBEq, rules2, rulesX, rowsX]
      refine go_al rfl rfl ?_
      obtain ⟨r6, hr6, h⟩ := ob h
      try simp only [hb4, hx5, Nat.reduceBEq, Nat.reduceMul, Nat.reduceAdd, Nat.reduceDiv, Int.reduceBEq, rules2, rulesX, rowsX]
      refine go_callI (w_impl_IsName _ _ hr6) rfl rfl (Nat.le_of_ble_eq_true rfl) ?_
      rcases Bool.eq_false_or_eq_true r6 with hb7 | hb7
      · rw [ite_t hb7] at h
        obtain ⟨r8, hr8, h⟩ := ob h
        try simp only [hb4, hx5, hb7, Nat.reduceBEq, Nat.reduceMul, Nat.reduceAdd, Nat.reduceDiv, Int.reduceBEq, rules2, rulesX, rowsX]
        refine go_callI (w_impl_PointNamed _ _ _ hr8) rfl rfl (Nat.le_of_ble_eq_true rfl) ?_
        rcases Bool.eq_false_or_eq_true (r8 != v3) with hb9 | hb9
        · rw [ite_t hb9] at h
          try simp only [hb4, hx5, hb7, hb9, Nat.reduceBEq, Nat.reduceMul, Nat.reduceAdd, Nat.reduceDiv, Int.reduceBEq, rules2, rulesX, rowsX]
          cases h
          exact ⟨⟨rfl, trivial⟩, rfl⟩
        · rw [ite_f hb9] at h
          try simp only [hb4, hx5, hb7, hb9, Nat.reduceBEq, Nat.reduceMul, Nat.reduceAdd, Nat.reduceDiv, Int.reduceBEq, rules2, rulesX, rowsX]
          refine ih _ _ h _ ?_
          try simp only [hb4, hx5, hb7, hb9, Nat.reduceBEq, Nat.reduceMul, Nat.reduceAdd, Nat.reduceDiv, Int.reduceBEq, rules2, rulesX, rowsX, List.map_nil]
      · rw [ite_f hb7] at h
        try simp only [hb4, hx5, hb7, Nat.reduceBEq, Nat.reduceMul, Nat.reduceAdd, Nat.reduceDiv, Int.reduceBEq, rules2, rulesX, rowsX]
        cases h
        exact ⟨⟨rfl, trivial⟩, rfl⟩
    · rw [ite_f hb4] at h
      try simp only [hσ, hb4, c_impl_ChartOk_1, c_impl_ChartOk_n1, Nat.reduceBEq, Nat.reduceMul, Nat.reduceAdd, Nat.reduceDiv, Int.reduceBEq, rules2, rulesX, rowsX]
      refine w_impl_ChartOk_2 _ _ _ _ h _ ?_
      try simp only [hb4, Nat.reduceBEq, Nat.reduceMul, Nat.reduceAdd, Nat.reduceDiv, Int.reduceBEq, rules2, rulesX, rowsX, List.map_nil]
theorem e_impl_ChartOk : entry Tryz.prog 90 = some (c_impl_ChartOk.strip, [2], 100) := by kernel_rfl
theorem w_impl_ChartOk (a0 : XChart) (r : Bool) (h : f_impl_ChartOk a0 = some r) : FC Tryz.prog 90 [.ag (XChart.row a0)] [.sc (.v (.bool r))] := by
  unfold f_impl_ChartOk at h
  refine FC_go (σ := ⟨[(0, va [aL (List.map XPoint.row a0.Points), aL (List.map XSegment.row a0.Segments)])], [], []⟩) mixed e_impl_ChartOk rfl rfl ?_
  simp only [c_impl_ChartOk]
  try simp only [Nat.reduceBEq, Nat.reduceMul, Nat.reduceAdd, Nat.reduceDiv, Int.reduceBEq, rules2, rulesX, rowsX]
  refine go_bx rfl rfl rfl ?_
  rcases Bool.eq_false_or_eq_true (decide ((8 : Int) < (a0.Points.length : Int))) with hb1 | hb1
  · rw [ite_t hb1] at h
    try simp only [hb1, Nat.reduceBEq, Nat.reduceMul, Nat.reduceAdd, Nat.reduceDiv, Int.reduceBEq, rules2, rulesX, rowsX]
    cases h
    exact ⟨⟨rfl, trivial⟩, rfl⟩
  · rw [ite_f hb1] at h
    rcases Bool.eq_false_or_eq_true (decide ((10 : Int) < (a0.Segments.length : Int))) with hb2 | hb2
    · rw [ite_t hb2] at h
      try simp only [hb1, hb2, Nat.reduceBEq, Nat.reduceMul, Nat.reduceAdd, Nat.reduceDiv, Int.reduceBEq, rules2, rulesX, rowsX]
      cases h
      exact ⟨⟨rfl, trivial⟩, rfl⟩
    · rw [ite_f hb2] at h
      try simp only [hb1, hb2, Nat.reduceBEq, Nat.reduceMul, Nat.reduceAdd, Nat.reduceDiv, Int.reduceBEq, rules2, rulesX, rowsX]
      refine w_impl_ChartOk_1 _ _ _ _ h _ ?_
      try simp only [hb1, hb2, Nat.reduceBEq, Nat.reduceMul, Nat.reduceAdd, Nat.reduceDiv, Int.reduceBEq, rules2, rulesX, rowsX, List.map_nil]
/- 125: impl_ShipOk -/
def c_impl_ShipOk : ACode := (.seq (.reg [(none, .box 1 (S 0)), (none, .mv 2 (KB false))]) (.seq (.reg [(none, .faddr 3 (S 1) 0), (none, .load 4 (S 3) false 1), (none, .call 5 122 [(S 4)]), (none, .mv 6 (S 5)), (some (6, true), .faddr 7 (S 1) 1), (some (6, true), .load 8 (S 7) false 1), (some (6, true), .call 9 94 [(S 8), (K 10), (K 400)]), (none, .pick 10 (S 6) (S 9) (KB false)), (none, .mv 11 (S 10)), (some (11, true), .faddr 12 (S 1) 2), (some (11, true), .load 13 (S 12) false 1), (some (11, true), .call 14 94 [(S 13), (K 100), (K 2000)]), (none, .pick 15 (S 11) (S 14) (KB false)), (none, .mv 16 (S 15)), (some (16, true), .faddr 17 (S 1) 3), (some (16, true), .load 18 (S 17) false 1), (some (16, true), .call 19 95 [(S 18), (K 4)]), (none, .pick 20 (S 16) (S 19) (KB false)), (none, .mv 21 (S 20)), (some (21, true), .faddr 22 (S 1) 4), (some (21, true), .load 23 (S 22) false 1), (some (21, true), .call 24 94 [(S 23), (K 0), (K 4)]), (none, .pick 25 (S 21) (S 24) (KB false)), (none, .mv 2 (S 25))]) .ret))
theorem e_impl_ShipOk : entry Tryz.prog 125 = some (c_impl_ShipOk.strip, [2], 26) := by kernel_rfl
theorem w_impl_ShipOk (a0 : XShip) (r : Bool) (h : f_impl_ShipOk a0 = some r) : FC Tryz.prog 125 [.ag (XShip.row a0)] [.sc (.v (.bool r))] := by
  unfold f_impl_ShipOk at h
  refine FC_go (σ := ⟨[(0, va [aS a0.Name, aI a0.Length, aI a0.Draught, aI a0.Line, aI a0.Tugs, aB a0.Slow])], [], []⟩) mixed e_impl_ShipOk rfl rfl ?_
  simp only [c_impl_ShipOk]
  try simp only [Nat.reduceBEq, Nat.reduceMul, Nat.reduceAdd, Nat.reduceDiv, Int.reduceBEq, rules2, rulesX, rowsX]
  refine go_bx rfl rfl rfl ?_
  obtain ⟨r1, hr1, h⟩ := ob h
  try simp only [Nat.reduceBEq, Nat.reduceMul, Nat.reduceAdd, Nat.reduceDiv, Int.reduceBEq, rules2, rulesX, rowsX]
  refine go_callI (w_impl_IsName _ _ hr1) rfl rfl (Nat.le_of_ble_eq_true rfl) ?_
  rcases Bool.eq_false_or_eq_true r1 with hb2 | hb2
  · rw [ite_t hb2] at h
    obtain ⟨r3, hr3, h⟩ := ob h
    try simp only [hb2, Nat.reduceBEq, Nat.reduceMul, Nat.reduceAdd, Nat.reduceDiv, Int.reduceBEq, rules2, rulesX, rowsX]
    refine go_callI (w_impl_within _ _ _ _ hr3) rfl rfl (Nat.le_of_ble_eq_true rfl) ?_
    rcases Bool.eq_false_or_eq_true r3 with hb4 | hb4
    · rw [ite_t hb4] at h
      obtain ⟨r5, hr5, h⟩ := ob h
      try simp only [hb2, hb4, Nat.reduceBEq, Nat.reduceMul, Nat.reduceAdd, Nat.reduceDiv, Int.reduceBEq, rules2, rulesX, rowsX]
      refine go_callI (w_impl_within _ _ _ _ hr5) rfl rfl (Nat.le_of_ble_eq_true rfl) ?_
      rcases Bool.eq_false_or_eq_true r5 with hb6 | hb6
      · rw [ite_t hb6] at h
        obtain ⟨r7, hr7, h⟩ := ob h
        try simp only [hb2, hb4, hb6, Nat.reduceBEq, Nat.reduceMul, Nat.reduceAdd, Nat.reduceDiv, Int.reduceBEq, rules2, rulesX, rowsX]
        refine go_callI (w_impl_isIndex _ _ _ hr7) rfl rfl (Nat.le_of_ble_eq_true rfl) ?_
        rcases Bool.eq_false_or_eq_true r7 with hb8 | hb8
        · rw [ite_t hb8] at h
          obtain ⟨r9, hr9, h⟩ := ob h
          try simp only [hb2, hb4, hb6, hb8, Nat.reduceBEq, Nat.reduceMul, Nat.reduceAdd, Nat.reduceDiv, Int.reduceBEq, rules2, rulesX, rowsX]
          refine go_callI (w_impl_within _ _ _ _ hr9) rfl rfl (Nat.le_of_ble_eq_true rfl) ?_
          try simp only [hb2, hb4, hb6, hb8, Nat.reduceBEq, Nat.reduceMul, Nat.reduceAdd, Nat.reduceDiv, Int.reduceBEq, rules2, rulesX, rowsX]
          cases h
          exact ⟨⟨rfl, trivial⟩, rfl⟩
        · rw [ite_f hb8] at h
          try simp only [hb2, hb4, hb6, hb8, Nat.reduceBEq, Nat.reduceMul, Nat.reduceAdd, Nat.reduceDiv, Int.reduceBEq, rules2, rulesX, rowsX]
          cases h
          exact ⟨⟨rfl, trivial⟩, rfl⟩
      · rw [ite_f hb6] at h
        try simp only [hb2, hb4, hb6, Nat.reduceBEq, Nat.reduceMul, Nat.reduceAdd, Nat.reduceDiv, Int.reduceBEq, rules2, rulesX, rowsX]
        cases h
        exact ⟨⟨rfl, trivial⟩, rfl⟩
    · rw [ite_f hb4] at h
      try simp only [hb2, hb4, Nat.reduceBEq, Nat.reduceMul, Nat.reduceAdd, Nat.reduceDiv, Int.reduceBEq, rules2, rulesX, rowsX]
      cases h
      exact ⟨⟨rfl, trivial⟩, rfl⟩
  · rw [ite_f hb2] at h
    try simp only [hb2, Nat.reduceBEq, Nat.reduceMul, Nat.reduceAdd, Nat.reduceDiv, Int.reduceBEq, rules2, rulesX, rowsX]
    cases h
    exact ⟨⟨rfl, trivial⟩, rfl⟩
/- 126: impl_ShipNamed -/
def c_impl_ShipNamed_1 : ACode := .seq (.reg [(none, .keep [1, 7, 8, 9] [] [])]) (.seq (.reg [(none, .bin 10 .lss (S 9) (S 8))]) (.seq (.cond (S 10) .skip (.exit 0)) (.seq (.block 1 (.seq (.reg [(none, .mv 11 (S 9)), (none, .iaddr 12 (S 7) (S 9) 6), (none, .load 13 (S 12) true 6), (none, .alloc 6 [aS [], aI 0, aI 0, aI 0, aI 0, aB false]), (none, .mv 5 (S 11)), (none, .store (S 6) (S 13) 6)]) (.seq (.reg [(none, .faddr 14 (S 6) 0), (none, .load 15 (S 14) false 1), (none, .mv 16 (S 1)), (none, .bin 17 .eql (S 15) (S 16))]) (.cond (S 17) (.seq (.reg [(none, .mv 18 (S 5)), (none, .mv 4 (S 18))]) .ret) .skip)))) (.reg [(none, .bin 19 .add (S 9) (K 1)), (none, .mv 9 (S 19))]))))
def c_impl_ShipNamed_n1 : ACode := (.seq (.reg [(none, .mv 4 (K (-1)))]) .ret)
def c_impl_ShipNamed : ACode := (.seq (.reg [(none, .mv 4 (K 0))]) (.seq (.seq (.reg [(none, .mv 7 (S 0)), (none, .len 8 (S 7)), (none, .mv 9 (K 0))]) (.block 0 (.loop c_impl_ShipNamed_1))) c_impl_ShipNamed_n1))
theorem w_impl_ShipNamed_1 (a1 : List UInt8) (a0 : List XShip) : ∀ (n : Nat) (v1 : Int) (r : Int), f_impl_ShipNamed_1 a1 a0 n v1 = some r → ∀ σ : St, σ.kept [1, 7, 8, 9] [] [] = ⟨[(1, vc (aS a1)), (7, vc (aL (List.map XShip.row a0))), (8, vc (aI (a0.length : Int))), (9, vc (aI v1))], [], []⟩ → go Tryz.prog (.code (.loop c_impl_ShipNamed_1) :: [.blk 0, .code c_impl_ShipNamed_n1]) (Ret [4] [.sc (.v (.int .i64 r))]) .normal (some σ) := by
  intro n
  induction n with
  | zero => intro _ r h; cases h
  | succ n ih =>
    intro v1 r h σ hσ
    rw [f_impl_ShipNamed_1] at h
    refine go_round ?_
    rcases Bool.eq_false_or_eq_true (decide (v1 < (a0.length : Int))) with hb2 | hb2
    · rw [ite_t hb2] at h
      obtain ⟨x3, hx3, h⟩ := ob h
      try simp only [hσ, hb2, hx3, c_impl_ShipNamed_1, Nat.reduceBEq, Nat.reduceMul, Nat.reduceAdd, Nat.reduceDiv, Int.reduceBEq, rules2, rulesX, rowsX]
      refine go_al rfl rfl ?_
      rcases Bool.eq_false_or_eq_true (x3.Name == a1) with hb4 | hb4
      · rw [ite_t hb4] at h
        try simp only [hb2, hx3, hb4, Nat.reduceBEq, Nat.reduceMul, Nat.reduceAdd, Nat.reduceDiv, Int.reduceBEq, rules2, rulesX, rowsX]
        cases h
        exact ⟨⟨rfl, trivial⟩, rfl⟩
      · rw [ite_f hb4] at h
        try simp only [hb2, hx3, hb4, Nat.reduceBEq, Nat.reduceMul, Nat.reduceAdd, Nat.reduceDiv, Int.reduceBEq, rules2, rulesX, rowsX]
        refine ih _ _ h _ ?_
        try simp only [hb2, hx3, hb4, Nat.reduceBEq, Nat.reduceMul, Nat.reduceAdd, Nat.reduceDiv, Int.reduceBEq, rules2, rulesX, rowsX, List.map_nil]
    · rw [ite_f hb2] at h
      try simp only [hσ, hb2, c_impl_ShipNamed_1, c_impl_ShipNamed_n1, Nat.reduceBEq, Nat.reduceMul, Nat.reduceAdd, Nat.reduceDiv, Int.reduceBEq, rules2, rulesX, rowsX]
      cases h
      exact ⟨⟨rfl, trivial⟩, rfl⟩
theorem e_impl_ShipNamed : entry Tryz.prog 126 = some (c_impl_ShipNamed.strip, [4], 20) := by kernel_rfl
theorem w_impl_ShipNamed (a0 : List XShip) (a1 : List UInt8) (r : Int) (h : f_impl_ShipNamed a0 a1 = some r) : FC Tryz.prog 126 [.sc (.sl (List.map XShip.row a0)), .sc (.str a1)] [.sc (.v (.int .i64 r))] := by
  unfold f_impl_ShipNamed at h
  refine FC_go (σ := ⟨[(0, vc (aL (List.map XShip.row a0))), (1, vc (aS a1))], [], []⟩) mixed e_impl_ShipNamed rfl rfl ?_
  simp only [c_impl_ShipNamed]
  try simp only [Nat.reduceBEq, Nat.reduceMul, Nat.reduceAdd, Nat.reduceDiv, Int.reduceBEq, rules2, rulesX, rowsX]
  refine w_impl_ShipNamed_1 _ _ _ _ _ h _ ?_
  try simp only [Nat.reduceBEq, Nat.reduceMul, Nat.reduceAdd, Nat.reduceDiv, Int.reduceBEq, rules2, rulesX, rowsX, List.map_nil]
/- 91: impl_FleetOk -/
def c_impl_FleetOk_1 : ACode := .seq (.reg [(none, .keep [0, 8, 9, 10] [] [])]) (.seq (.reg [(none, .bin 11 .lss (S 10) (S 9))]) (.seq (.cond (S 11) .skip (.exit 0)) (.seq (.block 1 (.seq (.reg [(none, .mv 12 (S 10)), (none, .iaddr 13 (S 8) (S 10) 6), (none, .load 14 (S 13) true 6), (none, .alloc 4 [aS [], aI 0, aI 0, aI 0, aI 0, aB false]), (none, .mv 3 (S 12)), (none, .store (S 4) (S 14) 6)]) (.seq (.reg [(none, .load 15 (S 4) true 6), (none, .call 16 125 [(S 15)]), (none, .un 17 .not (S 16)), (none, .mv 18 (S 17)), (some (18, false), .mv 19 (S 0)), (some (18, false), .faddr 20 (S 4) 0), (some (18, false), .load 21 (S 20) false 1), (some (18, false), .call 22 126 [(S 19), (S 21)]), (some (18, false), .mv 23 (S 3)), (some (18, false), .bin 24 .neq (S 22) (S 23)), (none, .pick 25 (S 18) (KB true) (S 24))]) (.cond (S 25) (.seq (.reg [(none, .mv 2 (KB false))]) .ret) .skip)))) (.reg [(none, .bin 26 .add (S 10) (K 1)), (none, .mv 10 (S 26))]))))
def c_impl_FleetOk_n1 : ACode := (.seq (.reg [(none, .mv 2 (KB true))]) .ret)
def c_impl_FleetOk : ACode := (.seq (.reg [(none, .mv 2 (KB false))]) (.seq (.seq (.reg [(none, .mv 5 (S 0)), (none, .len 6 (S 5)), (none, .bin 7 .gtr (S 6) (K 6))]) (.cond (S 7) (.seq (.reg [(none, .mv 2 (KB false))]) .ret) .skip)) (.seq (.seq (.reg [(none, .mv 8 (S 0)), (none, .len 9 (S 8)), (none, .mv 10 (K 0))]) (.block 0 (.loop c_impl_FleetOk_1))) c_impl_FleetOk_n1)))
theorem w_impl_FleetOk_1 (a0 : List XShip) : ∀ (n : Nat) (v2 : Int) (r : Bool), f_impl_FleetOk_1 a0 n v2 = some r → ∀ σ : St, σ.kept [0, 8, 9, 10] [] [] = ⟨[(0, vc (aL (List.map XShip.row a0))), (8, vc (aL (List.map XShip.row a0))), (9, vc (aI (a0.length : Int))), (10, vc (aI v2))], [], []⟩ → go Tryz.prog (.code (.loop c_impl_FleetOk_1) :: [.blk 0, .code c_impl_FleetOk_n1]) (Ret [2] [.sc (.v (.bool r))]) .normal (some σ) := by
  intro n
  induction n with
  | zero => intro _ r h; cases h
  | succ n ih =>
    intro v2 r h σ hσ
    rw [f_impl_FleetOk_1] at h
    refine go_round ?_
    rcases Bool.eq_false_or_eq_true (decide (v2 < (a0.length : Int))) with hb3 | hb3
    · rw [ite_t hb3] at h
      obtain ⟨x4, hx4, h⟩ := ob h
      try simp only [hσ, hb3, hx4, c_impl_FleetOk_1, Nat.reduceBEq, Nat.reduceMul, Nat.reduceAdd, Nat.reduceDiv, Int.reduceBEq, rules2, rulesX, rowsX]
      refine go_al rfl rfl ?_
      obtain ⟨r5, hr5, h⟩ := ob h
      try simp only [hb3, hx4, Nat.reduceBEq, Nat.reduceMul, Nat.reduceAdd, Nat.reduceDiv, Int.reduceBEq, rules2, rulesX, rowsX]
      refine go_callI (w_impl_ShipOk _ _ hr5) rfl rfl (Nat.le_of_ble_eq_true rfl) ?_
      rcases Bool.eq_false_or_eq_true r5 with hb6 | hb6
      · rw [ite_t hb6] at h
        obtain ⟨r7, hr7, h⟩ := ob h
        try simp only [hb3, hx4, hb6, Nat.reduceBEq, Nat.reduceMul, Nat.reduceAdd, Nat.reduceDiv, Int.reduceBEq, rules2, rulesX, rowsX]
        refine go_callI (w_impl_ShipNamed _ _ _ hr7) rfl rfl (Nat.le_of_ble_eq_true rfl) ?_
        rcases Bool.eq_false_or_eq_true (r7 != v2) with hb8 | hb8
        · rw [ite_t hb8] at h
          try simp only [hb3, hx4, hb6, hb8, Nat.reduceBEq, Nat.reduceMul, Nat.reduceAdd, Nat.reduceDiv, Int.reduceBEq, rules2, rulesX, rowsX]
          cases h
          exact ⟨⟨rfl, trivial⟩, rfl⟩
        · rw [ite_f hb8] at h
          try simp only [hb3, hx4, hb6, hb8, Nat.reduceBEq, Nat.reduceMul, Nat.reduceAdd, Nat.reduceDiv, Int.reduceBEq, rules2, rulesX, rowsX]
          refine ih _ _ h _ ?_
          try simp only [hb3, hx4, hb6, hb8, Nat.reduceBEq, Nat.reduceMul, Nat.reduceAdd, Nat.reduceDiv, Int.reduceBEq, rules2, rulesX, rowsX, List.map_nil]
      · rw [ite_f hb6] at h
        try simp only [hb3, hx4, hb6, Nat.reduceBEq, Nat.reduceMul, Nat.reduceAdd, Nat.reduceDiv, Int.reduceBEq, rules2, rulesX, rowsX]
        cases h
        exact ⟨⟨rfl, trivial⟩, rfl⟩
    · rw [ite_f hb3] at h
      try simp only [hσ, hb3, c_impl_FleetOk_1, c_impl_FleetOk_n1, Nat.reduceBEq, Nat.reduceMul, Nat.reduceAdd, Nat.reduceDiv, Int.reduceBEq, rules2, rulesX, rowsX]
      cases h
      exact ⟨⟨rfl, trivial⟩, rfl⟩
theorem e_impl_FleetOk : entry Tryz.prog 91 = some (c_impl_FleetOk.strip, [2], 27) := by kernel_rfl
theorem w_impl_FleetOk (a0 : List XShip) (r : Bool) (h : f_impl_FleetOk a0 = some r) : FC Tryz.prog 91 [.sc (.sl (List.map XShip.row a0))] [.sc (.v (.bool r))] := by
  unfold f_impl_FleetOk at h
  refine FC_go (σ := ⟨[(0, vc (aL (List.map XShip.row a0)))], [], []⟩) mixed e_impl_FleetOk rfl rfl ?_
  simp only [c_impl_FleetOk]
  rcases Bool.eq_false_or_eq_true (decide ((6 : Int) < (a0.length : Int))) with hb1 | hb1
  · rw [ite_t hb1] at h
    try simp only [hb1, Nat.reduceBEq, Nat.reduceMul, Nat.reduceAdd, Nat.reduceDiv, Int.reduceBEq, rules2, rulesX, rowsX]
    cases h
    exact ⟨⟨rfl, trivial⟩, rfl⟩
  · rw [ite_f hb1] at h
    try simp only [hb1, Nat.reduceBEq, Nat.reduceMul, Nat.reduceAdd, Nat.reduceDiv, Int.reduceBEq, rules2, rulesX, rowsX]
    refine w_impl_FleetOk_1 _ _ _ _ h _ ?_
    try simp only [hb1, Nat.reduceBEq, Nat.reduceMul, Nat.reduceAdd, Nat.reduceDiv, Int.reduceBEq, rules2, rulesX, rowsX, List.map_nil]
/- 92: impl_RegimeOk -/
def c_impl_RegimeOk : ACode := (.seq (.reg [(none, .box 1 (S 0)), (none, .mv 2 (KB false))]) (.seq (.reg [(none, .faddr 3 (S 1) 0), (none, .load 4 (S 3) false 1), (none, .call 5 94 [(S 4), (K 0), (K 60)]), (none, .mv 2 (S 5))]) .ret))
theorem e_impl_RegimeOk : entry Tryz.prog 92 = some (c_impl_RegimeOk.strip, [2], 6) := by kernel_rfl
theorem w_impl_RegimeOk (a0 : XRegime) (r : Bool) (h : f_impl_RegimeOk a0 = some r) : FC Tryz.prog 92 [.ag (XRegime.row a0)] [.sc (.v (.bool r))] := by
  unfold f_impl_RegimeOk at h
  refine FC_go (σ := ⟨[(0, va [aI a0.Gap, aB a0.NoMeet])], [], []⟩) mixed e_impl_RegimeOk rfl rfl ?_
  simp only [c_impl_RegimeOk]
  try simp only [Nat.reduceBEq, Nat.reduceMul, Nat.reduceAdd, Nat.reduceDiv, Int.reduceBEq, rules2, rulesX, rowsX]
  refine go_bx rfl rfl rfl ?_
  obtain ⟨r1, hr1, h⟩ := ob h
  try simp only [Nat.reduceBEq, Nat.reduceMul, Nat.reduceAdd, Nat.reduceDiv, Int.reduceBEq, rules2, rulesX, rowsX]
  refine go_callI (w_impl_within _ _ _ _ hr1) rfl rfl (Nat.le_of_ble_eq_true rfl) ?_
  try simp only [Nat.reduceBEq, Nat.reduceMul, Nat.reduceAdd, Nat.reduceDiv, Int.reduceBEq, rules2, rulesX, rowsX]
  cases h
  exact ⟨⟨rfl, trivial⟩, rfl⟩
/- 127: impl_movesOk -/
def c_impl_movesOk_1 : ACode := .seq (.reg [(none, .keep [8, 9, 10] [] [])]) (.seq (.reg [(none, .bin 11 .lss (S 10) (S 9))]) (.seq (.cond (S 11) .skip (.exit 0)) (.seq (.block 1 (.seq (.reg [(none, .iaddr 12 (S 8) (S 10) 1), (none, .load 13 (S 12) false 1), (none, .mv 4 (S 13))]) (.seq (.reg [(none, .mv 14 (S 4)), (none, .call 15 94 [(S 14), (K 0), (K 240)]), (none, .un 16 .not (S 15))]) (.cond (S 16) (.seq (.reg [(none, .mv 2 (KB false))]) .ret) .skip)))) (.reg [(none, .bin 17 .add (S 10) (K 1)), (none, .mv 10 (S 17))]))))
def c_impl_movesOk_n1 : ACode := (.seq (.reg [(none, .mv 2 (KB true))]) .ret)
def c_impl_movesOk : ACode := (.seq (.reg [(none, .mv 2 (KB false))]) (.seq (.seq (.reg [(none, .mv 5 (S 0)), (none, .len 6 (S 5)), (none, .bin 7 .neq (S 6) (K 64))]) (.cond (S 7) (.seq (.reg [(none, .mv 2 (KB false))]) .ret) .skip)) (.seq (.seq (.reg [(none, .mv 8 (S 0)), (none, .len 9 (S 8)), (none, .mv 10 (K 0))]) (.block 0 (.loop c_impl_movesOk_1))) c_impl_movesOk_n1)))
theorem w_impl_movesOk_1 (a0 : List Int) : ∀ (n : Nat) (v2 : Int) (r : Bool), f_impl_movesOk_1 a0 n v2 = some r → ∀ σ : St, σ.kept [8, 9, 10] [] [] = ⟨[(8, vc (aL (List.map rI a0))), (9, vc (aI (a0.length : Int))), (10, vc (aI v2))], [], []⟩ → go Tryz.prog (.code (.loop c_impl_movesOk_1) :: [.blk 0, .code c_impl_movesOk_n1]) (Ret [2] [.sc (.v (.bool r))]) .normal (some σ) := by
  intro n
  induction n with
  | zero => intro _ r h; cases h
  | succ n ih =>
    intro v2 r h σ hσ
    rw [f_impl_movesOk_1] at h
    refine go_round ?_
    rcases Bool.eq_false_or_eq_true (decide (v2 < (a0.length : Int))) with hb3 | hb3
    · rw [ite_t hb3] at h
      obtain ⟨x4, hx4, h⟩ := ob h
      obtain ⟨r5, hr5, h⟩ := ob h
      try simp only [hσ, hb3, hx4, c_impl_movesOk_1, Nat.reduceBEq, Nat.reduceMul, Nat.reduceAdd, Nat.reduceDiv, Int.reduceBEq, rules2, rulesX, rowsX]
      refine go_callI (w_impl_within _ _ _ _ hr5) rfl rfl (Nat.le_of_ble_eq_true rfl) ?_
      rcases Bool.eq_false_or_eq_true r5 with hb6 | hb6
      · rw [ite_t hb6] at h
        try simp only [hb3, hx4, hb6, Nat.reduceBEq, Nat.reduceMul, Nat.reduceAdd, Nat.reduceDiv, Int.reduceBEq, rules2, rulesX, rowsX]
        refine ih _ _ h _ ?_
        try simp only [hb3, hx4, hb6, Nat.reduceBEq, Nat.reduceMul, Nat.reduceAdd, Nat.reduceDiv, Int.reduceBEq, rules2, rulesX, rowsX, List.map_nil]
      · rw [ite_f hb6] at h
        try simp only [hb3, hx4, hb6, Nat.reduceBEq, Nat.reduceMul, Nat.reduceAdd, Nat.reduceDiv, Int.reduceBEq, rules2, rulesX, rowsX]
        cases h
        exact ⟨⟨rfl, trivial⟩, rfl⟩
    · rw [ite_f hb3] at h
      try simp only [hσ, hb3, c_impl_movesOk_1, c_impl_movesOk_n1, Nat.reduceBEq, Nat.reduceMul, Nat.reduceAdd, Nat.reduceDiv, Int.reduceBEq, rules2, rulesX, rowsX]
      cases h
      exact ⟨⟨rfl, trivial⟩, rfl⟩
theorem e_impl_movesOk : entry Tryz.prog 127 = some (c_impl_movesOk.strip, [2], 18) := by kernel_rfl
theorem w_impl_movesOk (a0 : List Int) (r : Bool) (h : f_impl_movesOk a0 = some r) : FC Tryz.prog 127 [.sc (.sl (List.map rI a0))] [.sc (.v (.bool r))] := by
  unfold f_impl_movesOk at h
  refine FC_go (σ := ⟨[(0, vc (aL (List.map rI a0)))], [], []⟩) mixed e_impl_movesOk rfl rfl ?_
  simp only [c_impl_movesOk]
  rcases Bool.eq_false_or_eq_true ((a0.length : Int) != (64 : Int)) with hb1 | hb1
  · rw [ite_t hb1] at h
    try simp only [hb1, Nat.reduceBEq, Nat.reduceMul, Nat.reduceAdd, Nat.reduceDiv, Int.reduceBEq, rules2, rulesX, rowsX]
    cases h
    exact ⟨⟨rfl, trivial⟩, rfl⟩
  · rw [ite_f hb1] at h
    try simp only [hb1, Nat.reduceBEq, Nat.reduceMul, Nat.reduceAdd, Nat.reduceDiv, Int.reduceBEq, rules2, rulesX, rowsX]
    refine w_impl_movesOk_1 _ _ _ _ h _ ?_
    try simp only [hb1, Nat.reduceBEq, Nat.reduceMul, Nat.reduceAdd, Nat.reduceDiv, Int.reduceBEq, rules2, rulesX, rowsX, List.map_nil]
/- 93: impl_CrewOk -/
def c_impl_CrewOk : ACode := (.seq (.reg [(none, .box 1 (S 0)), (none, .mv 2 (KB false))]) (.seq (.reg [(none, .faddr 3 (S 1) 0), (none, .load 4 (S 3) false 1), (none, .call 5 94 [(S 4), (K 0), (K 12)]), (none, .mv 6 (S 5)), (some (6, true), .faddr 7 (S 1) 1), (some (6, true), .load 8 (S 7) false 1), (some (6, true), .call 9 94 [(S 8), (K 0), (K 12)]), (none, .pick 10 (S 6) (S 9) (KB false)), (none, .mv 11 (S 10)), (some (11, true), .faddr 12 (S 1) 2), (some (11, true), .load 13 (S 12) false 1), (some (11, true), .call 14 96 [(S 13)]), (none, .pick 15 (S 11) (S 14) (KB false)), (none, .mv 16 (S 15)), (some (16, true), .faddr 17 (S 1) 3), (some (16, true), .load 18 (S 17) false 1), (some (16, true), .call 19 127 [(S 18)]), (none, .pick 20 (S 16) (S 19) (KB false)), (none, .mv 2 (S 20))]) .ret))
theorem e_impl_CrewOk : entry Tryz.prog 93 = some (c_impl_CrewOk.strip, [2], 21) := by kernel_rfl
theorem w_impl_CrewOk (a0 : XCrew) (r : Bool) (h : f_impl_CrewOk a0 = some r) : FC Tryz.prog 93 [.ag (XCrew.row a0)] [.sc (.v (.bool r))] := by
  unfold f_impl_CrewOk at h
  refine FC_go (σ := ⟨[(0, va [aI a0.Tugs, aI a0.Pilots, aI a0.Rest, aL (List.map rI a0.Moves)])], [], []⟩) mixed e_impl_CrewOk rfl rfl ?_
  simp only [c_impl_CrewOk]
  try simp only [Nat.reduceBEq, Nat.reduceMul, Nat.reduceAdd, Nat.reduceDiv, Int.reduceBEq, rules2, rulesX, rowsX]
  refine go_bx rfl rfl rfl ?_
  obtain ⟨r1, hr1, h⟩ := ob h
  try simp only [Nat.reduceBEq, Nat.reduceMul, Nat.reduceAdd, Nat.reduceDiv, Int.reduceBEq, rules2, rulesX, rowsX]
  refine go_callI (w_impl_within _ _ _ _ hr1) rfl rfl (Nat.le_of_ble_eq_true rfl) ?_
  rcases Bool.eq_false_or_eq_true r1 with hb2 | hb2
  · rw [ite_t hb2] at h
    obtain ⟨r3, hr3, h⟩ := ob h
    try simp only [hb2, Nat.reduceBEq, Nat.reduceMul, Nat.reduceAdd, Nat.reduceDiv, Int.reduceBEq, rules2, rulesX, rowsX]
    refine go_callI (w_impl_within _ _ _ _ hr3) rfl rfl (Nat.le_of_ble_eq_true rfl) ?_
    rcases Bool.eq_false_or_eq_true r3 with hb4 | hb4
    · rw [ite_t hb4] at h
      obtain ⟨r5, hr5, h⟩ := ob h
      try simp only [hb2, hb4, Nat.reduceBEq, Nat.reduceMul, Nat.reduceAdd, Nat.reduceDiv, Int.reduceBEq, rules2, rulesX, rowsX]
      refine go_callI (w_impl_isMinute _ _ hr5) rfl rfl (Nat.le_of_ble_eq_true rfl) ?_
      rcases Bool.eq_false_or_eq_true r5 with hb6 | hb6
      · rw [ite_t hb6] at h
        obtain ⟨r7, hr7, h⟩ := ob h
        try simp only [hb2, hb4, hb6, Nat.reduceBEq, Nat.reduceMul, Nat.reduceAdd, Nat.reduceDiv, Int.reduceBEq, rules2, rulesX, rowsX]
        refine go_callI (w_impl_movesOk _ _ hr7) rfl rfl (Nat.le_of_ble_eq_true rfl) ?_
        try simp only [hb2, hb4, hb6, Nat.reduceBEq, Nat.reduceMul, Nat.reduceAdd, Nat.reduceDiv, Int.reduceBEq, rules2, rulesX, rowsX]
        cases h
        exact ⟨⟨rfl, trivial⟩, rfl⟩
      · rw [ite_f hb6] at h
        try simp only [hb2, hb4, hb6, Nat.reduceBEq, Nat.reduceMul, Nat.reduceAdd, Nat.reduceDiv, Int.reduceBEq, rules2, rulesX, rowsX]
        cases h
        exact ⟨⟨rfl, trivial⟩, rfl⟩
    · rw [ite_f hb4] at h
      try simp only [hb2, hb4, Nat.reduceBEq, Nat.reduceMul, Nat.reduceAdd, Nat.reduceDiv, Int.reduceBEq, rules2, rulesX, rowsX]
      cases h
      exact ⟨⟨rfl, trivial⟩, rfl⟩
  · rw [ite_f hb2] at h
    try simp only [hb2, Nat.reduceBEq, Nat.reduceMul, Nat.reduceAdd, Nat.reduceDiv, Int.reduceBEq, rules2, rulesX, rowsX]
    cases h
    exact ⟨⟨rfl, trivial⟩, rfl⟩
/- 60: impl_HarbourOk -/
def c_impl_HarbourOk : ACode := (.seq (.reg [(none, .box 1 (S 0)), (none, .mv 2 (KB false))]) (.seq (.reg [(none, .faddr 3 (S 1) 0), (none, .load 4 (S 3) true 3), (none, .call 5 89 [(S 4)]), (none, .mv 6 (S 5)), (some (6, true), .faddr 7 (S 1) 3), (some (6, true), .load 8 (S 7) true 2), (some (6, true), .call 9 90 [(S 8)]), (none, .pick 10 (S 6) (S 9) (KB false)), (none, .mv 11 (S 10)), (some (11, true), .faddr 12 (S 1) 5), (some (11, true), .load 13 (S 12) false 1), (some (11, true), .call 14 91 [(S 13)]), (none, .pick 15 (S 11) (S 14) (KB false)), (none, .mv 16 (S 15)), (some (16, true), .faddr 17 (S 1) 6), (some (16, true), .load 18 (S 17) true 2), (some (16, true), .call 19 92 [(S 18)]), (none, .pick 20 (S 16) (S 19) (KB false)), (none, .mv 21 (S 20)), (some (21, true), .faddr 22 (S 1) 8), (some (21, true), .load 23 (S 22) true 4), (some (21, true), .call 24 93 [(S 23)]), (none, .pick 25 (S 21) (S 24) (KB false)), (none, .mv 2 (S 25))]) .ret))
theorem e_impl_HarbourOk : entry Tryz.prog 60 = some (c_impl_HarbourOk.strip, [2], 26) := by kernel_rfl
theorem w_impl_HarbourOk (a0 : XHarbour) (r : Bool) (h : f_impl_HarbourOk a0 = some r) : FC Tryz.prog 60 [.ag (XHarbour.row a0)] [.sc (.v (.bool r))] := by
  unfold f_impl_HarbourOk at h
  refine FC_go (σ := ⟨[(0, va [aI a0.Forecast.Tide.Mean, aL (List.map XPart.row a0.Forecast.Tide.Parts), aL (List.map XSurge.row a0.Forecast.Surges), aL (List.map XPoint.row a0.Chart.Points), aL (List.map XSegment.row a0.Chart.Segments), aL (List.map XShip.row a0.Fleet), aI a0.Regime.Gap, aB a0.Regime.NoMeet, aI a0.Crew.Tugs, aI a0.Crew.Pilots, aI a0.Crew.Rest, aL (List.map rI a0.Crew.Moves)])], [], []⟩) mixed e_impl_HarbourOk rfl rfl ?_
  simp only [c_impl_HarbourOk]
  try simp only [Nat.reduceBEq, Nat.reduceMul, Nat.reduceAdd, Nat.reduceDiv, Int.reduceBEq, rules2, rulesX, rowsX]
  refine go_bx rfl rfl rfl ?_
  obtain ⟨r1, hr1, h⟩ := ob h
  try simp only [Nat.reduceBEq, Nat.reduceMul, Nat.reduceAdd, Nat.reduceDiv, Int.reduceBEq, rules2, rulesX, rowsX]
  refine go_callI (w_impl_ForecastOk _ _ hr1) rfl rfl (Nat.le_of_ble_eq_true rfl) ?_
  rcases Bool.eq_false_or_eq_true r1 with hb2 | hb2
  · rw [ite_t hb2] at h
    obtain ⟨r3, hr3, h⟩ := ob h
    try simp only [hb2, Nat.reduceBEq, Nat.reduceMul, Nat.reduceAdd, Nat.reduceDiv, Int.reduceBEq, rules2, rulesX, rowsX]
    refine go_callI (w_impl_ChartOk _ _ hr3) rfl rfl (Nat.le_of_ble_eq_true rfl) ?_
    rcases Bool.eq_false_or_eq_true r3 with hb4 | hb4
    · rw [ite_t hb4] at h
      obtain ⟨r5, hr5, h⟩ := ob h
      try simp only [hb2, hb4, Nat.reduceBEq, Nat.reduceMul, Nat.reduceAdd, Nat.reduceDiv, Int.reduceBEq, rules2, rulesX, rowsX]
      refine go_callI (w_impl_FleetOk _ _ hr5) rfl rfl (Nat.le_of_ble_eq_true rfl) ?_
      rcases Bool.eq_false_or_eq_true r5 with hb6 | hb6
      · rw [ite_t hb6] at h
        obtain ⟨r7, hr7, h⟩ := ob h
        try simp only [hb2, hb4, hb6, Nat.reduceBEq, Nat.reduceMul, Nat.reduceAdd, Nat.reduceDiv, Int.reduceBEq, rules2, rulesX, rowsX]
        refine go_callI (w_impl_RegimeOk _ _ hr7) rfl rfl (Nat.le_of_ble_eq_true rfl) ?_
        rcases Bool.eq_false_or_eq_true r7 with hb8 | hb8
        · rw [ite_t hb8] at h
          obtain ⟨r9, hr9, h⟩ := ob h
          try simp only [hb2, hb4, hb6, hb8, Nat.reduceBEq, Nat.reduceMul, Nat.reduceAdd, Nat.reduceDiv, Int.reduceBEq, rules2, rulesX, rowsX]
          refine go_callI (w_impl_CrewOk _ _ hr9) rfl rfl (Nat.le_of_ble_eq_true rfl) ?_
          try simp only [hb2, hb4, hb6, hb8, Nat.reduceBEq, Nat.reduceMul, Nat.reduceAdd, Nat.reduceDiv, Int.reduceBEq, rules2, rulesX, rowsX]
          cases h
          exact ⟨⟨rfl, trivial⟩, rfl⟩
        · rw [ite_f hb8] at h
          try simp only [hb2, hb4, hb6, hb8, Nat.reduceBEq, Nat.reduceMul, Nat.reduceAdd, Nat.reduceDiv, Int.reduceBEq, rules2, rulesX, rowsX]
          cases h
          exact ⟨⟨rfl, trivial⟩, rfl⟩
      · rw [ite_f hb6] at h
        try simp only [hb2, hb4, hb6, Nat.reduceBEq, Nat.reduceMul, Nat.reduceAdd, Nat.reduceDiv, Int.reduceBEq, rules2, rulesX, rowsX]
        cases h
        exact ⟨⟨rfl, trivial⟩, rfl⟩
    · rw [ite_f hb4] at h
      try simp only [hb2, hb4, Nat.reduceBEq, Nat.reduceMul, Nat.reduceAdd, Nat.reduceDiv, Int.reduceBEq, rules2, rulesX, rowsX]
      cases h
      exact ⟨⟨rfl, trivial⟩, rfl⟩
  · rw [ite_f hb2] at h
    try simp only [hb2, Nat.reduceBEq, Nat.reduceMul, Nat.reduceAdd, Nat.reduceDiv, Int.reduceBEq, rules2, rulesX, rowsX]
    cases h
    exact ⟨⟨rfl, trivial⟩, rfl⟩
/- 61: impl_PicksOk -/
def c_impl_PicksOk_1 : ACode := .seq (.reg [(none, .keep [9, 10, 11] [] [])]) (.seq (.reg [(none, .bin 12 .lss (S 11) (S 10))]) (.seq (.cond (S 12) .skip (.exit 0)) (.seq (.block 1 (.seq (.reg [(none, .iaddr 13 (S 9) (S 11) 1), (none, .load 14 (S 13) false 1), (none, .mv 4 (S 14))]) (.seq (.reg [(none, .mv 15 (S 4)), (none, .call 16 94 [(S 15), (K 0), (K 1000)]), (none, .un 17 .not (S 16))]) (.cond (S 17) (.seq (.reg [(none, .mv 2 (KB false))]) .ret) .skip)))) (.reg [(none, .bin 18 .add (S 11) (K 1)), (none, .mv 11 (S 18))]))))
def c_impl_PicksOk_n1 : ACode := (.seq (.reg [(none, .mv 2 (KB true))]) .ret)
def c_impl_PicksOk : ACode := (.seq (.reg [(none, .mv 2 (KB false))]) (.seq (.seq (.reg [(none, .mv 5 (S 0)), (none, .len 6 (S 5)), (none, .call 7 94 [(S 6), (K 1), (K 48)]), (none, .un 8 .not (S 7))]) (.cond (S 8) (.seq (.reg [(none, .mv 2 (KB false))]) .ret) .skip)) (.seq (.seq (.reg [(none, .mv 9 (S 0)), (none, .len 10 (S 9)), (none, .mv 11 (K 0))]) (.block 0 (.loop c_impl_PicksOk_1))) c_impl_PicksOk_n1)))
theorem w_impl_PicksOk_1 (a0 : List Int) : ∀ (n : Nat) (v3 : Int) (r : Bool), f_impl_PicksOk_1 a0 n v3 = some r → ∀ σ : St, σ.kept [9, 10, 11] [] [] = ⟨[(9, vc (aL (List.map rI a0))), (10, vc (aI (a0.length : Int))), (11, vc (aI v3))], [], []⟩ → go Tryz.prog (.code (.loop c_impl_PicksOk_1) :: [.blk 0, .code c_impl_PicksOk_n1]) (Ret [2] [.sc (.v (.bool r))]) .normal (some σ) := by
  intro n
  induction n with
  | zero => intro _ r h; cases h
  | succ n ih =>
    intro v3 r h σ hσ
    rw [f_impl_PicksOk_1] at h
    refine go_round ?_
    rcases Bool.eq_false_or_eq_true (decide (v3 < (a0.length : Int))) with hb4 | hb4
    · rw [ite_t hb4] at h
      obtain ⟨x5, hx5, h⟩ := ob h
      obtain ⟨r6, hr6, h⟩ := ob h
      try simp only [hσ, hb4, hx5, c_impl_PicksOk_1, Nat.reduceBEq, Nat.reduceMul, Nat.reduceAdd, Nat.reduceDiv, Int.reduceBEq, rules2, rulesX, rowsX]
      refine go_callI (w_impl_within _ _ _ _ hr6) rfl rfl (Nat.le_of_ble_eq_true rfl) ?_
      rcases Bool.eq_false_or_eq_true r6 with hb7 | hb7
      · rw [ite_t hb7] at h
        try simp only [hb4, hx5, hb7, Nat.reduceBEq, Nat.reduceMul, Nat.reduceAdd, Nat.reduceDiv, Int.reduceBEq, rules2, rulesX, rowsX]
        refine ih _ _ h _ ?_
        try simp only [hb4, hx5, hb7, Nat.reduceBEq, Nat.reduceMul, Nat.reduceAdd, Nat.reduceDiv, Int.reduceBEq, rules2, rulesX, rowsX, List.map_nil]
      · rw [ite_f hb7] at h
        try simp only [hb4, hx5, hb7, Nat.reduceBEq, Nat.reduceMul, Nat.reduceAdd, Nat.reduceDiv, Int.reduceBEq, rules2, rulesX, rowsX]
        cases h
        exact ⟨⟨rfl, trivial⟩, rfl⟩
    · rw [ite_f hb4] at h
      try simp only [hσ, hb4, c_impl_PicksOk_1, c_impl_PicksOk_n1, Nat.reduceBEq, Nat.reduceMul, Nat.reduceAdd, Nat.reduceDiv, Int.reduceBEq, rules2, rulesX, rowsX]
      cases h
      exact ⟨⟨rfl, trivial⟩, rfl⟩
theorem e_impl_PicksOk : entry Tryz.prog 61 = some (c_impl_PicksOk.strip, [2], 19) := by kernel_rfl
theorem w_impl_PicksOk (a0 : List Int) (r : Bool) (h : f_impl_PicksOk a0 = some r) : FC Tryz.prog 61 [.sc (.sl (List.map rI a0))] [.sc (.v (.bool r))] := by
  unfold f_impl_PicksOk at h
  refine FC_go (σ := ⟨[(0, vc (aL (List.map rI a0)))], [], []⟩) mixed e_impl_PicksOk rfl rfl ?_
  simp only [c_impl_PicksOk]
  obtain ⟨r1, hr1, h⟩ := ob h
  try simp only [Nat.reduceBEq, Nat.reduceMul, Nat.reduceAdd, Nat.reduceDiv, Int.reduceBEq, rules2, rulesX, rowsX]
  refine go_callI (w_impl_within _ _ _ _ hr1) rfl rfl (Nat.le_of_ble_eq_true rfl) ?_
  rcases Bool.eq_false_or_eq_true r1 with hb2 | hb2
  · rw [ite_t hb2] at h
    try simp only [hb2, Nat.reduceBEq, Nat.reduceMul, Nat.reduceAdd, Nat.reduceDiv, Int.reduceBEq, rules2, rulesX, rowsX]
    refine w_impl_PicksOk_1 _ _ _ _ h _ ?_
    try simp only [hb2, Nat.reduceBEq, Nat.reduceMul, Nat.reduceAdd, Nat.reduceDiv, Int.reduceBEq, rules2, rulesX, rowsX, List.map_nil]
  · rw [ite_f hb2] at h
    try simp only [hb2, Nat.reduceBEq, Nat.reduceMul, Nat.reduceAdd, Nat.reduceDiv, Int.reduceBEq, rules2, rulesX, rowsX]
    cases h
    exact ⟨⟨rfl, trivial⟩, rfl⟩
/- 97: impl_Ship_minutes -/
def c_impl_Ship_minutes : ACode := (.seq (.reg [(none, .box 2 (S 0)), (none, .box 3 (S 1)), (none, .mv 4 (K 0))]) (.seq (.seq (.reg [(none, .faddr 5 (S 2) 5), (none, .load 6 (S 5) false 1)]) (.cond (S 6) (.seq (.reg [(none, .faddr 7 (S 3) 3), (none, .load 8 (S 7) false 1), (none, .bin 9 .mul (K 2) (S 8)), (none, .mv 4 (S 9))]) .ret) .skip)) (.seq (.reg [(none, .faddr 10 (S 3) 3), (none, .load 11 (S 10) false 1), (none, .mv 4 (S 11))]) .ret)))
theorem e_impl_Ship_minutes : entry Tryz.prog 97 = some (c_impl_Ship_minutes.strip, [4], 12) := by kernel_rfl
theorem w_impl_Ship_minutes (a0 : XShip) (a1 : XSegment) (r : Int) (h : f_impl_Ship_minutes a0 a1 = some r) : FC Tryz.prog 97 [.ag (XShip.row a0), .ag (XSegment.row a1)] [.sc (.v (.int .i64 r))] := by
  unfold f_impl_Ship_minutes at h
  refine FC_go (σ := ⟨[(0, va [aS a0.Name, aI a0.Length, aI a0.Draught, aI a0.Line, aI a0.Tugs, aB a0.Slow]), (1, va [aI a1.A, aI a1.B, aI a1.Depth, aI a1.Minutes, aB a1.Meet])], [], []⟩) mixed e_impl_Ship_minutes rfl rfl ?_
  simp only [c_impl_Ship_minutes]
  try simp only [Nat.reduceBEq, Nat.reduceMul, Nat.reduceAdd, Nat.reduceDiv, Int.reduceBEq, rules2, rulesX, rowsX]
  refine go_bx rfl rfl rfl ?_
  try simp only [Nat.reduceBEq, Nat.reduceMul, Nat.reduceAdd, Nat.reduceDiv, Int.reduceBEq, rules2, rulesX, rowsX]
  refine go_bx rfl rfl rfl ?_
  rcases Bool.eq_false_or_eq_true a0.Slow with hb1 | hb1
  · rw [ite_t hb1] at h
    try simp only [hb1, Nat.reduceBEq, Nat.reduceMul, Nat.reduceAdd, Nat.reduceDiv, Int.reduceBEq, rules2, rulesX, rowsX]
    cases h
    exact ⟨⟨rfl, trivial⟩, rfl⟩
  · rw [ite_f hb1] at h
    try simp only [hb1, Nat.reduceBEq, Nat.reduceMul, Nat.reduceAdd, Nat.reduceDiv, Int.reduceBEq, rules2, rulesX, rowsX]
    cases h
    exact ⟨⟨rfl, trivial⟩, rfl⟩
/- 62: impl_passageOk -/
def c_impl_passageOk : ACode := (.seq (.reg [(none, .box 3 (S 0)), (none, .box 5 (S 2)), (none, .mv 6 (KB false))]) (.seq (.seq (.reg [(none, .faddr 7 (S 5) 0), (none, .load 8 (S 7) false 1), (none, .mv 9 (S 1)), (none, .len 10 (S 9)), (none, .call 11 95 [(S 8), (S 10)]), (none, .un 12 .not (S 11)), (none, .mv 13 (S 12)), (some (13, false), .faddr 14 (S 5) 1), (some (13, false), .load 15 (S 14) false 1), (some (13, false), .faddr 16 (S 3) 1), (some (13, false), .load 17 (S 16) false 1), (some (13, false), .len 18 (S 17)), (some (13, false), .call 19 95 [(S 15), (S 18)]), (some (13, false), .un 20 .not (S 19)), (none, .pick 21 (S 13) (KB true) (S 20)), (none, .mv 22 (S 21)), (some (22, false), .faddr 23 (S 5) 3), (some (22, false), .load 24 (S 23) false 1), (some (22, false), .call 25 96 [(S 24)]), (some (22, false), .un 26 .not (S 25)), (none, .pick 27 (S 22) (KB true) (S 26)), (none, .mv 28 (S 27)), (some (28, false), .faddr 29 (S 5) 4), (some (28, false), .load 30 (S 29) false 1), (some (28, false), .bin 31 .gtr (S 30) (K 2880)), (none, .pick 32 (S 28) (KB true) (S 31))]) (.cond (S 32) (.seq (.reg [(none, .mv 6 (KB false))]) .ret) .skip)) (.seq (.drw [(some [48], (none, .faddr 33 (S 5) 4)), (some [48], (none, .load 34 (S 33) false 1)), (some [48], (none, .faddr 35 (S 5) 3)), (some [48], (none, .load 36 (S 35) false 1)), (some [], (none, .mv 37 (S 1))), (some [], (none, .faddr 38 (S 5) 0)), (some [], (none, .load 39 (S 38) false 1)), (some [], (none, .iaddr 40 (S 37) (S 39) 6)), (some [], (none, .load 41 (S 40) true 6)), (some [], (none, .faddr 42 (S 3) 1)), (some [], (none, .load 43 (S 42) false 1)), (some [], (none, .faddr 44 (S 5) 1)), (some [], (none, .load 45 (S 44) false 1)), (some [], (none, .iaddr 46 (S 43) (S 45) 5)), (some [], (none, .load 47 (S 46) true 5)), (some [], (none, .call 48 97 [(S 41), (S 47)])), (some [], (none, .bin 49 .add (S 36) (S 48))), (some [], (none, .bin 50 .eql (S 34) (S 49))), (some [], (none, .mv 6 (S 50)))]) .ret)))
theorem e_impl_passageOk : entry Tryz.prog 62 = some (c_impl_passageOk.strip, [6], 51) := by kernel_rfl
theorem w_impl_passageOk (a0 : XChart) (a1 : List XShip) (a2 : XPassage) (r : Bool) (h : f_impl_passageOk a0 a1 a2 = some r) : FC Tryz.prog 62 [.ag (XChart.row a0), .sc (.sl (List.map XShip.row a1)), .ag (XPassage.row a2)] [.sc (.v (.bool r))] := by
  unfold f_impl_passageOk at h
  refine FC_go (σ := ⟨[(0, va [aL (List.map XPoint.row a0.Points), aL (List.map XSegment.row a0.Segments)]), (1, vc (aL (List.map XShip.row a1))), (2, va [aI a2.Ship, aI a2.Segment, aB a2.Toward, aI a2.Start, aI a2.End])], [], []⟩) mixed e_impl_passageOk rfl rfl ?_
  simp only [c_impl_passageOk]
  try simp only [Nat.reduceBEq, Nat.reduceMul, Nat.reduceAdd, Nat.reduceDiv, Int.reduceBEq, rules2, rulesX, rowsX]
  refine go_bx rfl rfl rfl ?_
  try simp only [Nat.reduceBEq, Nat.reduceMul, Nat.reduceAdd, Nat.reduceDiv, Int.reduceBEq, rules2, rulesX, rowsX]
  refine go_bx rfl rfl rfl ?_
  obtain ⟨r1, hr1, h⟩ := ob h
  try simp only [Nat.reduceBEq, Nat.reduceMul, Nat.reduceAdd, Nat.reduceDiv, Int.reduceBEq, rules2, rulesX, rowsX]
  refine go_callI (w_impl_isIndex _ _ _ hr1) rfl rfl (Nat.le_of_ble_eq_true rfl) ?_
  rcases Bool.eq_false_or_eq_true r1 with hb2 | hb2
  · rw [ite_t hb2] at h
    obtain ⟨r3, hr3, h⟩ := ob h
    try simp only [hb2, Nat.reduceBEq, Nat.reduceMul, Nat.reduceAdd, Nat.reduceDiv, Int.reduceBEq, rules2, rulesX, rowsX]
    refine go_callI (w_impl_isIndex _ _ _ hr3) rfl rfl (Nat.le_of_ble_eq_true rfl) ?_
    rcases Bool.eq_false_or_eq_true r3 with hb4 | hb4
    · rw [ite_t hb4] at h
      obtain ⟨r5, hr5, h⟩ := ob h
      try simp only [hb2, hb4, Nat.reduceBEq, Nat.reduceMul, Nat.reduceAdd, Nat.reduceDiv, Int.reduceBEq, rules2, rulesX, rowsX]
      refine go_callI (w_impl_isMinute _ _ hr5) rfl rfl (Nat.le_of_ble_eq_true rfl) ?_
      rcases Bool.eq_false_or_eq_true r5 with hb6 | hb6
      · rw [ite_t hb6] at h
        rcases Bool.eq_false_or_eq_true (decide ((2880 : Int) < a2.End)) with hb7 | hb7
        · rw [ite_t hb7] at h
          try simp only [hb2, hb4, hb6, hb7, Nat.reduceBEq, Nat.reduceMul, Nat.reduceAdd, Nat.reduceDiv, Int.reduceBEq, rules2, rulesX, rowsX]
          cases h
          exact ⟨⟨rfl, trivial⟩, rfl⟩
        · rw [ite_f hb7] at h
          try simp only [hb2, hb4, hb6, hb7, Nat.reduceBEq, Nat.reduceMul, Nat.reduceAdd, Nat.reduceDiv, Int.reduceBEq, rules2, rulesX, rowsX]
          refine go_fr_of rfl ?_
          obtain ⟨x8, hx8, h⟩ := ob h
          obtain ⟨x9, hx9, h⟩ := ob h
          obtain ⟨r10, hr10, h⟩ := ob h
          try simp only [hb2, hb4, hb6, hb7, hx8, hx9, Nat.reduceBEq, Nat.reduceMul, Nat.reduceAdd, Nat.reduceDiv, Int.reduceBEq, rules2, rulesX, rowsX]
          refine go_dcallI (w_impl_Ship_minutes _ _ _ hr10) rfl rfl (Nat.le_of_ble_eq_true rfl) ?_
          try simp only [hb2, hb4, hb6, hb7, hx8, hx9, Nat.reduceBEq, Nat.reduceMul, Nat.reduceAdd, Nat.reduceDiv, Int.reduceBEq, rules2, rulesX, rowsX]
          cases h
          exact ⟨⟨rfl, trivial⟩, rfl⟩
      · rw [ite_f hb6] at h
        try simp only [hb2, hb4, hb6, Nat.reduceBEq, Nat.reduceMul, Nat.reduceAdd, Nat.reduceDiv, Int.reduceBEq, rules2, rulesX, rowsX]
        cases h
        exact ⟨⟨rfl, trivial⟩, rfl⟩
    · rw [ite_f hb4] at h
      try simp only [hb2, hb4, Nat.reduceBEq, Nat.reduceMul, Nat.reduceAdd, Nat.reduceDiv, Int.reduceBEq, rules2, rulesX, rowsX]
      cases h
      exact ⟨⟨rfl, trivial⟩, rfl⟩
  · rw [ite_f hb2] at h
    try simp only [hb2, Nat.reduceBEq, Nat.reduceMul, Nat.reduceAdd, Nat.reduceDiv, Int.reduceBEq, rules2, rulesX, rowsX]
    cases h
    exact ⟨⟨rfl, trivial⟩, rfl⟩
/- 134: impl_Wave -/
def c_impl_Wave : ACode := (.seq (.reg [(none, .mv 4 (K 0))]) (.seq (.seq (.reg [(none, .mv 7 (S 1)), (none, .call 8 135 [(S 7)]), (none, .un 9 .not (S 8))]) (.cond (S 9) (.seq (.reg [(none, .mv 4 (K 0))]) .ret) .skip)) (.seq (.reg [(none, .mv 10 (S 0)), (none, .mv 11 (S 1)), (none, .bin 12 .rem (S 10) (S 11)), (none, .mv 13 (S 1)), (none, .bin 14 .add (S 12) (S 13)), (none, .mv 15 (S 1)), (none, .bin 16 .rem (S 14) (S 15)), (none, .mv 5 (S 16))]) (.seq (.reg [(none, .mv 17 (S 1)), (none, .bin 18 .quo (S 17) (K 2)), (none, .mv 6 (S 18))]) (.seq (.seq (.reg [(none, .mv 19 (S 5)), (none, .mv 20 (S 6)), (none, .bin 21 .geq (S 19) (S 20))]) (.cond (S 21) (.seq (.reg [(none, .mv 22 (S 5)), (none, .mv 23 (S 6)), (none, .bin 24 .sub (S 22) (S 23)), (none, .mv 5 (S 24))]) (.seq (.reg [(none, .mv 25 (S 5)), (none, .bin 26 .mul (K 40000) (S 25)), (none, .mv 27 (S 6)), (none, .mv 28 (S 5)), (none, .bin 29 .sub (S 27) (S 28)), (none, .bin 30 .mul (S 26) (S 29)), (none, .mv 31 (S 6)), (none, .mv 32 (S 6)), (none, .bin 33 .mul (S 31) (S 32)), (none, .bin 34 .quo (S 30) (S 33)), (none, .un 35 .neg (S 34)), (none, .mv 4 (S 35))]) .ret)) .skip)) (.seq (.reg [(none, .mv 36 (S 5)), (none, .bin 37 .mul (K 40000) (S 36)), (none, .mv 38 (S 6)), (none, .mv 39 (S 5)), (none, .bin 40 .sub (S 38) (S 39)), (none, .bin 41 .mul (S 37) (S 40)), (none, .mv 42 (S 6)), (none, .mv 43 (S 6)), (none, .bin 44 .mul (S 42) (S 43)), (none, .bin 45 .quo (S 41) (S 44)), (none, .mv 4 (S 45))]) .ret))))))
theorem e_impl_Wave : entry Tryz.prog 134 = some (c_impl_Wave.strip, [4], 46) := by kernel_rfl
theorem w_impl_Wave (a0 : Int) (a1 : Int) (r : Int) (h : f_impl_Wave a0 a1 = some r) : FC Tryz.prog 134 [.sc (.int .i64 a0), .sc (.int .i64 a1)] [.sc (.v (.int .i64 r))] := by
  unfold f_impl_Wave at h
  refine FC_go (σ := ⟨[(0, vc (aI a0)), (1, vc (aI a1))], [], []⟩) mixed e_impl_Wave rfl rfl ?_
  simp only [c_impl_Wave]
  obtain ⟨r1, hr1, h⟩ := ob h
  try simp only [Nat.reduceBEq, Nat.reduceMul, Nat.reduceAdd, Nat.reduceDiv, Int.reduceBEq, rules2, rulesX, rowsX]
  refine go_callI (w_impl_isPeriod _ _ hr1) rfl rfl (Nat.le_of_ble_eq_true rfl) ?_
  rcases Bool.eq_false_or_eq_true r1 with hb2 | hb2
  · rw [ite_t hb2] at h
    obtain ⟨hg3, h⟩ := of_guardn h
    obtain ⟨hg4, h⟩ := of_guardn h
    rcases Bool.eq_false_or_eq_true (decide ((IntKind.i64.wrap (Int.tdiv a1 (2 : Int))) ≤ (IntKind.i64.wrap (Int.tmod (IntKind.i64.wrap ((IntKind.i64.wrap (Int.tmod a0 a1)) + a1)) a1)))) with hb5 | hb5
    · rw [ite_t hb5] at h
      obtain ⟨hg6, h⟩ := of_guardn h
      try simp only [hb2, hg3, hg4, hb5, hg6, Nat.reduceBEq, Nat.reduceMul, Nat.reduceAdd, Nat.reduceDiv, Int.reduceBEq, rules2, rulesX, rowsX]
      cases h
      exact ⟨⟨rfl, trivial⟩, rfl⟩
    · rw [ite_f hb5] at h
      obtain ⟨hg7, h⟩ := of_guardn h
      try simp only [hb2, hg3, hg4, hb5, hg7, Nat.reduceBEq, Nat.reduceMul, Nat.reduceAdd, Nat.reduceDiv, Int.reduceBEq, rules2, rulesX, rowsX]
      cases h
      exact ⟨⟨rfl, trivial⟩, rfl⟩
  · rw [ite_f hb2] at h
    try simp only [hb2, Nat.reduceBEq, Nat.reduceMul, Nat.reduceAdd, Nat.reduceDiv, Int.reduceBEq, rules2, rulesX, rowsX]
    cases h
    exact ⟨⟨rfl, trivial⟩, rfl⟩
/- 128: impl_Tide_level -/
def c_impl_Tide_level_1 : ACode := .seq (.reg [(none, .keep [1, 5, 11, 12, 13] [] [])]) (.seq (.reg [(none, .bin 14 .lss (S 13) (S 12))]) (.seq (.cond (S 14) .skip (.exit 0)) (.seq (.block 1 (.seq (.reg [(none, .iaddr 15 (S 11) (S 13) 3), (none, .load 16 (S 15) true 3), (none, .alloc 7 [aI 0, aI 0, aI 0]), (none, .store (S 7) (S 16) 3)]) (.drw [(some [26], (none, .mv 17 (S 5))), (some [26], (none, .faddr 18 (S 7) 0)), (some [26], (none, .load 19 (S 18) false 1)), (some [], (none, .mv 20 (S 1))), (some [], (none, .faddr 21 (S 7) 2)), (some [], (none, .load 22 (S 21) false 1)), (some [], (none, .bin 23 .add (S 20) (S 22))), (some [], (none, .faddr 24 (S 7) 1)), (some [], (none, .load 25 (S 24) false 1)), (some [], (none, .call 26 134 [(S 23), (S 25)])), (some [], (none, .bin 27 .mul (S 19) (S 26))), (some [], (none, .bin 28 .quo (S 27) (K 10000))), (some [], (none, .bin 29 .add (S 17) (S 28))), (some [], (none, .mv 5 (S 29)))]))) (.reg [(none, .bin 30 .add (S 13) (K 1)), (none, .mv 13 (S 30))]))))
def c_impl_Tide_level_n1 : ACode := (.seq (.reg [(none, .mv 31 (S 5)), (none, .mv 4 (S 31))]) .ret)
def c_impl_Tide_level : ACode := (.seq (.reg [(none, .box 2 (S 0)), (none, .mv 4 (K 0))]) (.seq (.reg [(none, .faddr 8 (S 2) 0), (none, .load 9 (S 8) false 1), (none, .mv 5 (S 9))]) (.seq (.seq (.reg [(none, .faddr 10 (S 2) 1), (none, .load 11 (S 10) false 1), (none, .len 12 (S 11)), (none, .mv 13 (K 0))]) (.block 0 (.loop c_impl_Tide_level_1))) c_impl_Tide_level_n1)))
theorem w_impl_Tide_level_1 (a1 : Int) (a0 : XTide) : ∀ (n : Nat) (v1 : Int) (v2 : Int) (r : Int), f_impl_Tide_level_1 a1 a0 n v1 v2 = some r → ∀ σ : St, σ.kept [1, 5, 11, 12, 13] [] [] = ⟨[(1, vc (aI a1)), (5, vc (aI v1)), (11, vc (aL (List.map XPart.row a0.Parts))), (12, vc (aI (a0.Parts.length : Int))), (13, vc (aI v2))], [], []⟩ → go Tryz.prog (.code (.loop c_impl_Tide_level_1) :: [.blk 0, .code c_impl_Tide_level_n1]) (Ret [4] [.sc (.v (.int .i64 r))]) .normal (some σ) := by
  intro n
  induction n with
  | zero => intro _ _ r h; cases h
  | succ n ih =>
    intro v1 v2 r h σ hσ
    rw [f_impl_Tide_level_1] at h
    refine go_round ?_
    rcases Bool.eq_false_or_eq_true (decide (v2 < (a0.Parts.length : Int))) with hb3 | hb3
    · rw [ite_t hb3] at h
      obtain ⟨x4, hx4, h⟩ := ob h
      try simp only [hσ, hb3, hx4, c_impl_Tide_level_1, Nat.reduceBEq, Nat.reduceMul, Nat.reduceAdd, Nat.reduceDiv, Int.reduceBEq, rules2, rulesX, rowsX]
      refine go_al rfl rfl ?_
      try simp only [hb3, hx4, Nat.reduceBEq, Nat.reduceMul, Nat.reduceAdd, Nat.reduceDiv, Int.reduceBEq, rules2, rulesX, rowsX]
      refine go_fr_of rfl ?_
      obtain ⟨r5, hr5, h⟩ := ob h
      try simp only [hb3, hx4, Nat.reduceBEq, Nat.reduceMul, Nat.reduceAdd, Nat.reduceDiv, Int.reduceBEq, rules2, rulesX, rowsX]
      refine go_dcallI (w_impl_Wave _ _ _ hr5) rfl rfl (Nat.le_of_ble_eq_true rfl) ?_
      try simp only [hb3, hx4, Nat.reduceBEq, Nat.reduceMul, Nat.reduceAdd, Nat.reduceDiv, Int.reduceBEq, rules2, rulesX, rowsX]
      refine ih _ _ _ h _ ?_
      try simp only [hb3, hx4, Nat.reduceBEq, Nat.reduceMul, Nat.reduceAdd, Nat.reduceDiv, Int.reduceBEq, rules2, rulesX, rowsX, List.map_nil]
    · rw [ite_f hb3] at h
      try simp only [hσ, hb3, c_impl_Tide_level_1, c_impl_Tide_level_n1, Nat.reduceBEq, Nat.reduceMul, Nat.reduceAdd, Nat.reduceDiv, Int.reduceBEq, rules2, rulesX, rowsX]
      cases h
      exact ⟨⟨rfl, trivial⟩, rfl⟩
theorem e_impl_Tide_level : entry Tryz.prog 128 = some (c_impl_Tide_level.strip, [4], 32) := by kernel_rfl
theorem w_impl_Tide_level (a0 : XTide) (a1 : Int) (r : Int) (h : f_impl_Tide_level a0 a1 = some r) : FC Tryz.prog 128 [.ag (XTide.row a0), .sc (.int .i64 a1)] [.sc (.v (.int .i64 r))] := by
  unfold f_impl_Tide_level at h
  refine FC_go (σ := ⟨[(0, va [aI a0.Mean, aL (List.map XPart.row a0.Parts)]), (1, vc (aI a1))], [], []⟩) mixed e_impl_Tide_level rfl rfl ?_
  simp only [c_impl_Tide_level]
  try simp only [Nat.reduceBEq, Nat.reduceMul, Nat.reduceAdd, Nat.reduceDiv, Int.reduceBEq, rules2, rulesX, rowsX]
  refine go_bx rfl rfl rfl ?_
  try simp only [Nat.reduceBEq, Nat.reduceMul, Nat.reduceAdd, Nat.reduceDiv, Int.reduceBEq, rules2, rulesX, rowsX]
  refine w_impl_Tide_level_1 _ _ _ _ _ _ h _ ?_
  try simp only [Nat.reduceBEq, Nat.reduceMul, Nat.reduceAdd, Nat.reduceDiv, Int.reduceBEq, rules2, rulesX, rowsX, List.map_nil]
/- 129: impl_Forecast_surge -/
def c_impl_Forecast_surge_1 : ACode := .seq (.reg [(none, .keep [1, 5, 9, 10, 11] [] [])]) (.seq (.reg [(none, .bin 12 .lss (S 11) (S 10))]) (.seq (.cond (S 12) .skip (.exit 0)) (.seq (.block 1 (.seq (.reg [(none, .mv 13 (S 11)), (none, .iaddr 14 (S 9) (S 11) 3), (none, .load 15 (S 14) true 3), (none, .alloc 7 [aI 0, aI 0, aI 0]), (none, .mv 6 (S 13)), (none, .store (S 7) (S 15) 3)]) (.seq (.reg [(none, .faddr 16 (S 7) 0), (none, .load 17 (S 16) false 1), (none, .mv 18 (S 1)), (none, .bin 19 .leq (S 17) (S 18))]) (.cond (S 19) (.reg [(none, .mv 20 (S 6)), (none, .mv 5 (S 20))]) .skip)))) (.reg [(none, .bin 21 .add (S 11) (K 1)), (none, .mv 11 (S 21))]))))
def c_impl_Forecast_surge_n1 : ACode := (.seq (.reg [(none, .mv 22 (S 5)), (none, .mv 4 (S 22))]) .ret)
def c_impl_Forecast_surge : ACode := (.seq (.reg [(none, .box 2 (S 0)), (none, .mv 4 (K 0))]) (.seq (.reg [(none, .mv 5 (K 0))]) (.seq (.seq (.reg [(none, .faddr 8 (S 2) 2), (none, .load 9 (S 8) false 1), (none, .len 10 (S 9)), (none, .mv 11 (K 0))]) (.block 0 (.loop c_impl_Forecast_surge_1))) c_impl_Forecast_surge_n1)))
theorem w_impl_Forecast_surge_1 (a1 : Int) (a0 : XForecast) : ∀ (n : Nat) (v1 : Int) (v2 : Int) (r : Int), f_impl_Forecast_surge_1 a1 a0 n v1 v2 = some r → ∀ σ : St, σ.kept [1, 5, 9, 10, 11] [] [] = ⟨[(1, vc (aI a1)), (5, vc (aI v1)), (9, vc (aL (List.map XSurge.row a0.Surges))), (10, vc (aI (a0.Surges.length : Int))), (11, vc (aI v2))], [], []⟩ → go Tryz.prog (.code (.loop c_impl_Forecast_surge_1) :: [.blk 0, .code c_impl_Forecast_surge_n1]) (Ret [4] [.sc (.v (.int .i64 r))]) .normal (some σ) := by
  intro n
  induction n with
  | zero => intro _ _ r h; cases h
  | succ n ih =>
    intro v1 v2 r h σ hσ
    rw [f_impl_Forecast_surge_1] at h
    refine go_round ?_
    rcases Bool.eq_false_or_eq_true (decide (v2 < (a0.Surges.length : Int))) with hb3 | hb3
    · rw [ite_t hb3] at h
      obtain ⟨x4, hx4, h⟩ := ob h
      try simp only [hσ, hb3, hx4, c_impl_Forecast_surge_1, Nat.reduceBEq, Nat.reduceMul, Nat.reduceAdd, Nat.reduceDiv, Int.reduceBEq, rules2, rulesX, rowsX]
      refine go_al rfl rfl ?_
      rcases Bool.eq_false_or_eq_true (decide (x4.From ≤ a1)) with hb5 | hb5
      · rw [ite_t hb5] at h
        try simp only [hb3, hx4, hb5, Nat.reduceBEq, Nat.reduceMul, Nat.reduceAdd, Nat.reduceDiv, Int.reduceBEq, rules2, rulesX, rowsX]
        refine ih _ _ _ h _ ?_
        try simp only [hb3, hx4, hb5, Nat.reduceBEq, Nat.reduceMul, Nat.reduceAdd, Nat.reduceDiv, Int.reduceBEq, rules2, rulesX, rowsX, List.map_nil]
      · rw [ite_f hb5] at h
        try simp only [hb3, hx4, hb5, Nat.reduceBEq, Nat.reduceMul, Nat.reduceAdd, Nat.reduceDiv, Int.reduceBEq, rules2, rulesX, rowsX]
        refine ih _ _ _ h _ ?_
        try simp only [hb3, hx4, hb5, Nat.reduceBEq, Nat.reduceMul, Nat.reduceAdd, Nat.reduceDiv, Int.reduceBEq, rules2, rulesX, rowsX, List.map_nil]
    · rw [ite_f hb3] at h
      try simp only [hσ, hb3, c_impl_Forecast_surge_1, c_impl_Forecast_surge_n1, Nat.reduceBEq, Nat.reduceMul, Nat.reduceAdd, Nat.reduceDiv, Int.reduceBEq, rules2, rulesX, rowsX]
      cases h
      exact ⟨⟨rfl, trivial⟩, rfl⟩
theorem e_impl_Forecast_surge : entry Tryz.prog 129 = some (c_impl_Forecast_surge.strip, [4], 23) := by kernel_rfl
theorem w_impl_Forecast_surge (a0 : XForecast) (a1 : Int) (r : Int) (h : f_impl_Forecast_surge a0 a1 = some r) : FC Tryz.prog 129 [.ag (XForecast.row a0), .sc (.int .i64 a1)] [.sc (.v (.int .i64 r))] := by
  unfold f_impl_Forecast_surge at h
  refine FC_go (σ := ⟨[(0, va [aI a0.Tide.Mean, aL (List.map XPart.row a0.Tide.Parts), aL (List.map XSurge.row a0.Surges)]), (1, vc (aI a1))], [], []⟩) mixed e_impl_Forecast_surge rfl rfl ?_
  simp only [c_impl_Forecast_surge]
  try simp only [Nat.reduceBEq, Nat.reduceMul, Nat.reduceAdd, Nat.reduceDiv, Int.reduceBEq, rules2, rulesX, rowsX]
  refine go_bx rfl rfl rfl ?_
  try simp only [Nat.reduceBEq, Nat.reduceMul, Nat.reduceAdd, Nat.reduceDiv, Int.reduceBEq, rules2, rulesX, rowsX]
  refine w_impl_Forecast_surge_1 _ _ _ _ _ _ h _ ?_
  try simp only [Nat.reduceBEq, Nat.reduceMul, Nat.reduceAdd, Nat.reduceDiv, Int.reduceBEq, rules2, rulesX, rowsX, List.map_nil]
/- 98: impl_Forecast_low -/
def c_impl_Forecast_low : ACode := (.seq (.reg [(none, .box 2 (S 0)), (none, .mv 4 (K 0))]) (.seq (.drw [(some [], (none, .faddr 5 (S 2) 0)), (some [], (none, .load 6 (S 5) true 2)), (some [], (none, .mv 7 (S 1))), (some [], (none, .call 8 128 [(S 6), (S 7)])), (some [8, 13], (none, .faddr 9 (S 2) 2)), (some [8, 13], (none, .load 10 (S 9) false 1)), (some [8], (none, .load 11 (S 2) true 3)), (some [8], (none, .mv 12 (S 1))), (some [], (none, .call 13 129 [(S 11), (S 12)])), (some [], (none, .iaddr 14 (S 10) (S 13) 3)), (some [], (none, .faddr 15 (S 14) 1)), (some [], (none, .load 16 (S 15) false 1)), (some [], (none, .bin 17 .add (S 8) (S 16))), (some [], (none, .mv 4 (S 17)))]) .ret))
theorem e_impl_Forecast_low : entry Tryz.prog 98 = some (c_impl_Forecast_low.strip, [4], 18) := by kernel_rfl
theorem w_impl_Forecast_low (a0 : XForecast) (a1 : Int) (r : Int) (h : f_impl_Forecast_low a0 a1 = some r) : FC Tryz.prog 98 [.ag (XForecast.row a0), .sc (.int .i64 a1)] [.sc (.v (.int .i64 r))] := by
  unfold f_impl_Forecast_low at h
  refine FC_go (σ := ⟨[(0, va [aI a0.Tide.Mean, aL (List.map XPart.row a0.Tide.Parts), aL (List.map XSurge.row a0.Surges)]), (1, vc (aI a1))], [], []⟩) mixed e_impl_Forecast_low rfl rfl ?_
  simp only [c_impl_Forecast_low]
  try simp only [Nat.reduceBEq, Nat.reduceMul, Nat.reduceAdd, Nat.reduceDiv, Int.reduceBEq, rules2, rulesX, rowsX]
  refine go_bx rfl rfl rfl ?_
  try simp only [Nat.reduceBEq, Nat.reduceMul, Nat.reduceAdd, Nat.reduceDiv, Int.reduceBEq, rules2, rulesX, rowsX]
  refine go_fr_of rfl ?_
  obtain ⟨r1, hr1, h⟩ := ob h
  try simp only [Nat.reduceBEq, Nat.reduceMul, Nat.reduceAdd, Nat.reduceDiv, Int.reduceBEq, rules2, rulesX, rowsX]
  refine go_dcallI (w_impl_Tide_level _ _ _ hr1) rfl rfl (Nat.le_of_ble_eq_true rfl) ?_
  obtain ⟨r2, hr2, h⟩ := ob h
  try simp only [Nat.reduceBEq, Nat.reduceMul, Nat.reduceAdd, Nat.reduceDiv, Int.reduceBEq, rules2, rulesX, rowsX]
  refine go_dcallI (w_impl_Forecast_surge _ _ _ hr2) rfl rfl (Nat.le_of_ble_eq_true rfl) ?_
  obtain ⟨x3, hx3, h⟩ := ob h
  try simp only [hx3, Nat.reduceBEq, Nat.reduceMul, Nat.reduceAdd, Nat.reduceDiv, Int.reduceBEq, rules2, rulesX, rowsX]
  cases h
  exact ⟨⟨rfl, trivial⟩, rfl⟩
/- 99: impl_Forecast_high -/
def c_impl_Forecast_high : ACode := (.seq (.reg [(none, .box 2 (S 0)), (none, .mv 4 (K 0))]) (.seq (.drw [(some [], (none, .faddr 5 (S 2) 0)), (some [], (none, .load 6 (S 5) true 2)), (some [], (none, .mv 7 (S 1))), (some [], (none, .call 8 128 [(S 6), (S 7)])), (some [8, 13], (none, .faddr 9 (S 2) 2)), (some [8, 13], (none, .load 10 (S 9) false 1)), (some [8], (none, .load 11 (S 2) true 3)), (some [8], (none, .mv 12 (S 1))), (some [], (none, .call 13 129 [(S 11), (S 12)])), (some [], (none, .iaddr 14 (S 10) (S 13) 3)), (some [], (none, .faddr 15 (S 14) 2)), (some [], (none, .load 16 (S 15) false 1)), (some [], (none, .bin 17 .add (S 8) (S 16))), (some [], (none, .mv 4 (S 17)))]) .ret))
theorem e_impl_Forecast_high : entry Tryz.prog 99 = some (c_impl_Forecast_high.strip, [4], 18) := by kernel_rfl
theorem w_impl_Forecast_high (a0 : XForecast) (a1 : Int) (r : Int) (h : f_impl_Forecast_high a0 a1 = some r) : FC Tryz.prog 99 [.ag (XForecast.row a0), .sc (.int .i64 a1)] [.sc (.v (.int .i64 r))] := by
  unfold f_impl_Forecast_high at h
  refine FC_go (σ := ⟨[(0, va [aI a0.Tide.Mean, aL (List.map XPart.row a0.Tide.Parts), aL (List.map XSurge.row a0.Surges)]), (1, vc (aI a1))], [], []⟩) mixed e_impl_Forecast_high rfl rfl ?_
  simp only [c_impl_Forecast_high]
  try simp only [Nat.reduceBEq, Nat.reduceMul, Nat.reduceAdd, Nat.reduceDiv, Int.reduceBEq, rules2, rulesX, rowsX]
  refine go_bx rfl rfl rfl ?_
  try simp only [Nat.reduceBEq, Nat.reduceMul, Nat.reduceAdd, Nat.reduceDiv, Int.reduceBEq, rules2, rulesX, rowsX]
  refine go_fr_of rfl ?_
  obtain ⟨r1, hr1, h⟩ := ob h
  try simp only [Nat.reduceBEq, Nat.reduceMul, Nat.reduceAdd, Nat.reduceDiv, Int.reduceBEq, rules2, rulesX, rowsX]
  refine go_dcallI (w_impl_Tide_level _ _ _ hr1) rfl rfl (Nat.le_of_ble_eq_true rfl) ?_
  obtain ⟨r2, hr2, h⟩ := ob h
  try simp only [Nat.reduceBEq, Nat.reduceMul, Nat.reduceAdd, Nat.reduceDiv, Int.reduceBEq, rules2, rulesX, rowsX]
  refine go_dcallI (w_impl_Forecast_surge _ _ _ hr2) rfl rfl (Nat.le_of_ble_eq_true rfl) ?_
  obtain ⟨x3, hx3, h⟩ := ob h
  try simp only [hx3, Nat.reduceBEq, Nat.reduceMul, Nat.reduceAdd, Nat.reduceDiv, Int.reduceBEq, rules2, rulesX, rowsX]
  cases h
  exact ⟨⟨rfl, trivial⟩, rfl⟩
/- 100: impl_pickOf -/
def c_impl_pickOf : ACode := (.seq (.reg [(none, .mv 4 (K 0))]) (.seq (.reg [(none, .mv 5 (S 0)), (none, .mv 6 (S 1)), (none, .mv 7 (S 0)), (none, .len 8 (S 7)), (none, .bin 9 .sub (S 8) (K 1)), (none, .mm 10 false (S 6) (S 9)), (none, .iaddr 11 (S 5) (S 10) 1), (none, .load 12 (S 11) false 1), (none, .mv 4 (S 12))]) .ret))
theorem e_impl_pickOf : entry Tryz.prog 100 = some (c_impl_pickOf.strip, [4], 13) := by kernel_rfl
theorem w_impl_pickOf (a0 : List Int) (a1 : Int) (r : Int) (h : f_impl_pickOf a0 a1 = some r) : FC Tryz.prog 100 [.sc (.sl (List.map rI a0)), .sc (.int .i64 a1)] [.sc (.v (.int .i64 r))] := by
  unfold f_impl_pickOf at h
  refine FC_go (σ := ⟨[(0, vc (aL (List.map rI a0))), (1, vc (aI a1))], [], []⟩) mixed e_impl_pickOf rfl rfl ?_
  simp only [c_impl_pickOf]
  obtain ⟨x1, hx1, h⟩ := ob h
  try simp only [hx1, Nat.reduceBEq, Nat.reduceMul, Nat.reduceAdd, Nat.reduceDiv, Int.reduceBEq, rules2, rulesX, rowsX]
  cases h
  exact ⟨⟨rfl, trivial⟩, rfl⟩
/- 63: impl_levelOn -/
def c_impl_levelOn : ACode := (.seq (.reg [(none, .box 3 (S 0)), (none, .mv 6 (K 0))]) (.seq (.drw [(some [], (none, .load 9 (S 3) true 3)), (some [], (none, .mv 10 (S 2))), (some [], (none, .call 11 98 [(S 9), (S 10)])), (some [11], (none, .load 12 (S 3) true 3)), (some [11], (none, .mv 13 (S 2))), (some [], (none, .call 14 99 [(S 12), (S 13)])), (some [], (none, .mv 7 (S 11))), (some [], (none, .mv 8 (S 14)))]) (.seq (.reg [(none, .mv 15 (S 7)), (none, .mv 16 (S 8)), (none, .mv 17 (S 7)), (none, .bin 18 .sub (S 16) (S 17)), (none, .mv 19 (S 1)), (none, .mv 20 (S 2)), (none, .bin 21 .quo (S 20) (K 60)), (none, .call 22 100 [(S 19), (S 21)]), (none, .bin 23 .mul (S 18) (S 22)), (none, .bin 24 .quo (S 23) (K 1000)), (none, .bin 25 .add (S 15) (S 24)), (none, .mv 6 (S 25))]) .ret)))
theorem e_impl_levelOn : entry Tryz.prog 63 = some (c_impl_levelOn.strip, [6], 26) := by kernel_rfl
theorem w_impl_levelOn (a0 : XForecast) (a1 : List Int) (a2 : Int) (r : Int) (h : f_impl_levelOn a0 a1 a2 = some r) : FC Tryz.prog 63 [.ag (XForecast.row a0), .sc (.sl (List.map rI a1)), .sc (.int .i64 a2)] [.sc (.v (.int .i64 r))] := by
  unfold f_impl_levelOn at h
  refine FC_go (σ := ⟨[(0, va [aI a0.Tide.Mean, aL (List.map XPart.row a0.Tide.Parts), aL (List.map XSurge.row a0.Surges)]), (1, vc (aL (List.map rI a1))), (2, vc (aI a2))], [], []⟩) mixed e_impl_levelOn rfl rfl ?_
  simp only [c_impl_levelOn]
  try simp only [Nat.reduceBEq, Nat.reduceMul, Nat.reduceAdd, Nat.reduceDiv, Int.reduceBEq, rules2, rulesX, rowsX]
  refine go_bx rfl rfl rfl ?_
  try simp only [Nat.reduceBEq, Nat.reduceMul, Nat.reduceAdd, Nat.reduceDiv, Int.reduceBEq, rules2, rulesX, rowsX]
  refine go_fr_of rfl ?_
  obtain ⟨r1, hr1, h⟩ := ob h
  try simp only [Nat.reduceBEq, Nat.reduceMul, Nat.reduceAdd, Nat.reduceDiv, Int.reduceBEq, rules2, rulesX, rowsX]
  refine go_dcallI (w_impl_Forecast_low _ _ _ hr1) rfl rfl (Nat.le_of_ble_eq_true rfl) ?_
  obtain ⟨r2, hr2, h⟩ := ob h
  try simp only [Nat.reduceBEq, Nat.reduceMul, Nat.reduceAdd, Nat.reduceDiv, Int.reduceBEq, rules2, rulesX, rowsX]
  refine go_dcallI (w_impl_Forecast_high _ _ _ hr2) rfl rfl (Nat.le_of_ble_eq_true rfl) ?_
  obtain ⟨r3, hr3, h⟩ := ob h
  try simp only [Nat.reduceBEq, Nat.reduceMul, Nat.reduceAdd, Nat.reduceDiv, Int.reduceBEq, rules2, rulesX, rowsX]
  refine go_callI (w_impl_pickOf _ _ _ hr3) rfl rfl (Nat.le_of_ble_eq_true rfl) ?_
  try simp only [Nat.reduceBEq, Nat.reduceMul, Nat.reduceAdd, Nat.reduceDiv, Int.reduceBEq, rules2, rulesX, rowsX]
  cases h
  exact ⟨⟨rfl, trivial⟩, rfl⟩
/- 101: impl_onSegment -/
def c_impl_onSegment : ACode := (.seq (.reg [(none, .box 3 (S 0)), (none, .box 5 (S 2)), (none, .mv 6 (KB false))]) (.seq (.reg [(none, .load 7 (S 3) true 2), (none, .call 8 90 [(S 7)]), (none, .mv 9 (S 8)), (some (9, true), .load 10 (S 5) true 6), (some (9, true), .call 11 125 [(S 10)]), (none, .pick 12 (S 9) (S 11) (KB false)), (none, .mv 13 (S 12)), (some (13, true), .mv 14 (S 1)), (some (13, true), .faddr 15 (S 3) 1), (some (13, true), .load 16 (S 15) false 1), (some (13, true), .len 17 (S 16)), (some (13, true), .call 18 95 [(S 14), (S 17)]), (none, .pick 19 (S 13) (S 18) (KB false)), (none, .mv 6 (S 19))]) .ret))
theorem e_impl_onSegment : entry Tryz.prog 101 = some (c_impl_onSegment.strip, [6], 20) := by kernel_rfl
theorem w_impl_onSegment (a0 : XChart) (a1 : Int) (a2 : XShip) (r : Bool) (h : f_impl_onSegment a0 a1 a2 = some r) : FC Tryz.prog 101 [.ag (XChart.row a0), .sc (.int .i64 a1), .ag (XShip.row a2)] [.sc (.v (.bool r))] := by
  unfold f_impl_onSegment at h
  refine FC_go (σ := ⟨[(0, va [aL (List.map XPoint.row a0.Points), aL (List.map XSegment.row a0.Segments)]), (1, vc (aI a1)), (2, va [aS a2.Name, aI a2.Length, aI a2.Draught, aI a2.Line, aI a2.Tugs, aB a2.Slow])], [], []⟩) mixed e_impl_onSegment rfl rfl ?_
  simp only [c_impl_onSegment]
  try simp only [Nat.reduceBEq, Nat.reduceMul, Nat.reduceAdd, Nat.reduceDiv, Int.reduceBEq, rules2, rulesX, rowsX]
  refine go_bx rfl rfl rfl ?_
  try simp only [Nat.reduceBEq, Nat.reduceMul, Nat.reduceAdd, Nat.reduceDiv, Int.reduceBEq, rules2, rulesX, rowsX]
  refine go_bx rfl rfl rfl ?_
  obtain ⟨r1, hr1, h⟩ := ob h
  try simp only [Nat.reduceBEq, Nat.reduceMul, Nat.reduceAdd, Nat.reduceDiv, Int.reduceBEq, rules2, rulesX, rowsX]
  refine go_callI (w_impl_ChartOk _ _ hr1) rfl rfl (Nat.le_of_ble_eq_true rfl) ?_
  rcases Bool.eq_false_or_eq_true r1 with hb2 | hb2
  · rw [ite_t hb2] at h
    obtain ⟨r3, hr3, h⟩ := ob h
    try simp only [hb2, Nat.reduceBEq, Nat.reduceMul, Nat.reduceAdd, Nat.reduceDiv, Int.reduceBEq, rules2, rulesX, rowsX]
    refine go_callI (w_impl_ShipOk _ _ hr3) rfl rfl (Nat.le_of_ble_eq_true rfl) ?_
    rcases Bool.eq_false_or_eq_true r3 with hb4 | hb4
    · rw [ite_t hb4] at h
      obtain ⟨r5, hr5, h⟩ := ob h
      try simp only [hb2, hb4, Nat.reduceBEq, Nat.reduceMul, Nat.reduceAdd, Nat.reduceDiv, Int.reduceBEq, rules2, rulesX, rowsX]
      refine go_callI (w_impl_isIndex _ _ _ hr5) rfl rfl (Nat.le_of_ble_eq_true rfl) ?_
      try simp only [hb2, hb4, Nat.reduceBEq, Nat.reduceMul, Nat.reduceAdd, Nat.reduceDiv, Int.reduceBEq, rules2, rulesX, rowsX]
      cases h
      exact ⟨⟨rfl, trivial⟩, rfl⟩
    · rw [ite_f hb4] at h
      try simp only [hb2, hb4, Nat.reduceBEq, Nat.reduceMul, Nat.reduceAdd, Nat.reduceDiv, Int.reduceBEq, rules2, rulesX, rowsX]
      cases h
      exact ⟨⟨rfl, trivial⟩, rfl⟩
  · rw [ite_f hb2] at h
    try simp only [hb2, Nat.reduceBEq, Nat.reduceMul, Nat.reduceAdd, Nat.reduceDiv, Int.reduceBEq, rules2, rulesX, rowsX]
    cases h
    exact ⟨⟨rfl, trivial⟩, rfl⟩
/- 130: impl_Ship_squat -/
def c_impl_Ship_squat : ACode := (.seq (.reg [(none, .box 1 (S 0)), (none, .mv 2 (K 0))]) (.seq (.seq (.reg [(none, .faddr 3 (S 1) 5), (none, .load 4 (S 3) false 1)]) (.cond (S 4) (.seq (.reg [(none, .faddr 5 (S 1) 2), (none, .load 6 (S 5) false 1), (none, .bin 7 .quo (S 6) (K 50)), (none, .mv 2 (S 7))]) .ret) .skip)) (.seq (.reg [(none, .faddr 8 (S 1) 2), (none, .load 9 (S 8) false 1), (none, .bin 10 .quo (S 9) (K 20)), (none, .mv 2 (S 10))]) .ret)))
theorem e_impl_Ship_squat : entry Tryz.prog 130 = some (c_impl_Ship_squat.strip, [2], 11) := by kernel_rfl
theorem w_impl_Ship_squat (a0 : XShip) (r : Int) (h : f_impl_Ship_squat a0 = some r) : FC Tryz.prog 130 [.ag (XShip.row a0)] [.sc (.v (.int .i64 r))] := by
  unfold f_impl_Ship_squat at h
  refine FC_go (σ := ⟨[(0, va [aS a0.Name, aI a0.Length, aI a0.Draught, aI a0.Line, aI a0.Tugs, aB a0.Slow])], [], []⟩) mixed e_impl_Ship_squat rfl rfl ?_
  simp only [c_impl_Ship_squat]
  try simp only [Nat.reduceBEq, Nat.reduceMul, Nat.reduceAdd, Nat.reduceDiv, Int.reduceBEq, rules2, rulesX, rowsX]
  refine go_bx rfl rfl rfl ?_
  rcases Bool.eq_false_or_eq_true a0.Slow with hb1 | hb1
  · rw [ite_t hb1] at h
    try simp only [hb1, Nat.reduceBEq, Nat.reduceMul, Nat.reduceAdd, Nat.reduceDiv, Int.reduceBEq, rules2, rulesX, rowsX]
    cases h
    exact ⟨⟨rfl, trivial⟩, rfl⟩
  · rw [ite_f hb1] at h
    try simp only [hb1, Nat.reduceBEq, Nat.reduceMul, Nat.reduceAdd, Nat.reduceDiv, Int.reduceBEq, rules2, rulesX, rowsX]
    cases h
    exact ⟨⟨rfl, trivial⟩, rfl⟩
/- 102: impl_Ship_need -/
def c_impl_Ship_need : ACode := (.seq (.reg [(none, .box 1 (S 0)), (none, .mv 2 (K 0))]) (.seq (.drw [(some [6], (none, .faddr 3 (S 1) 2)), (some [6], (none, .load 4 (S 3) false 1)), (some [], (none, .load 5 (S 1) true 6)), (some [], (none, .call 6 130 [(S 5)])), (some [], (none, .bin 7 .add (S 4) (S 6))), (some [], (none, .bin 8 .add (S 7) (K 50))), (some [], (none, .mv 2 (S 8)))]) .ret))
theorem e_impl_Ship_need : entry Tryz.prog 102 = some (c_impl_Ship_need.strip, [2], 9) := by kernel_rfl
theorem w_impl_Ship_need (a0 : XShip) (r : Int) (h : f_impl_Ship_need a0 = some r) : FC Tryz.prog 102 [.ag (XShip.row a0)] [.sc (.v (.int .i64 r))] := by
  unfold f_impl_Ship_need at h
  refine FC_go (σ := ⟨[(0, va [aS a0.Name, aI a0.Length, aI a0.Draught, aI a0.Line, aI a0.Tugs, aB a0.Slow])], [], []⟩) mixed e_impl_Ship_need rfl rfl ?_
  simp only [c_impl_Ship_need]
  try simp only [Nat.reduceBEq, Nat.reduceMul, Nat.reduceAdd, Nat.reduceDiv, Int.reduceBEq, rules2, rulesX, rowsX]
  refine go_bx rfl rfl rfl ?_
  try simp only [Nat.reduceBEq, Nat.reduceMul, Nat.reduceAdd, Nat.reduceDiv, Int.reduceBEq, rules2, rulesX, rowsX]
  refine go_fr_of rfl ?_
  obtain ⟨r1, hr1, h⟩ := ob h
  try simp only [Nat.reduceBEq, Nat.reduceMul, Nat.reduceAdd, Nat.reduceDiv, Int.reduceBEq, rules2, rulesX, rowsX]
  refine go_dcallI (w_impl_Ship_squat _ _ hr1) rfl rfl (Nat.le_of_ble_eq_true rfl) ?_
  try simp only [Nat.reduceBEq, Nat.reduceMul, Nat.reduceAdd, Nat.reduceDiv, Int.reduceBEq, rules2, rulesX, rowsX]
  cases h
  exact ⟨⟨rfl, trivial⟩, rfl⟩
/- 64: impl_LevelFor -/
def c_impl_LevelFor : ACode := (.seq (.reg [(none, .box 3 (S 0)), (none, .box 5 (S 2)), (none, .mv 6 (K 0))]) (.seq (.seq (.reg [(none, .load 7 (S 3) true 2), (none, .mv 8 (S 1)), (none, .load 9 (S 5) true 6), (none, .call 10 101 [(S 7), (S 8), (S 9)]), (none, .un 11 .not (S 10))]) (.cond (S 11) (.seq (.reg [(none, .mv 6 (K 0))]) .ret) .skip)) (.seq (.drw [(some [], (none, .load 12 (S 5) true 6)), (some [], (none, .call 13 102 [(S 12)])), (some [13], (none, .faddr 14 (S 3) 1)), (some [13], (none, .load 15 (S 14) false 1)), (some [13], (none, .mv 16 (S 1))), (some [13], (none, .iaddr 17 (S 15) (S 16) 5)), (some [13], (none, .faddr 18 (S 17) 2)), (some [13], (none, .load 19 (S 18) false 1)), (some [], (none, .bin 20 .sub (S 13) (S 19))), (some [], (none, .mv 6 (S 20)))]) .ret)))
theorem e_impl_LevelFor : entry Tryz.prog 64 = some (c_impl_LevelFor.strip, [6], 21) := by kernel_rfl
theorem w_impl_LevelFor (a0 : XChart) (a1 : Int) (a2 : XShip) (r : Int) (h : f_impl_LevelFor a0 a1 a2 = some r) : FC Tryz.prog 64 [.ag (XChart.row a0), .sc (.int .i64 a1), .ag (XShip.row a2)] [.sc (.v (.int .i64 r))] := by
  unfold f_impl_LevelFor at h
  refine FC_go (σ := ⟨[(0, va [aL (List.map XPoint.row a0.Points), aL (List.map XSegment.row a0.Segments)]), (1, vc (aI a1)), (2, va [aS a2.Name, aI a2.Length, aI a2.Draught, aI a2.Line, aI a2.Tugs, aB a2.Slow])], [], []⟩) mixed e_impl_LevelFor rfl rfl ?_
  simp only [c_impl_LevelFor]
  try simp only [Nat.reduceBEq, Nat.reduceMul, Nat.reduceAdd, Nat.reduceDiv, Int.reduceBEq, rules2, rulesX, rowsX]
  refine go_bx rfl rfl rfl ?_
  try simp only [Nat.reduceBEq, Nat.reduceMul, Nat.reduceAdd, Nat.reduceDiv, Int.reduceBEq, rules2, rulesX, rowsX]
  refine go_bx rfl rfl rfl ?_
  obtain ⟨r1, hr1, h⟩ := ob h
  try simp only [Nat.reduceBEq, Nat.reduceMul, Nat.reduceAdd, Nat.reduceDiv, Int.reduceBEq, rules2, rulesX, rowsX]
  refine go_callI (w_impl_onSegment _ _ _ _ hr1) rfl rfl (Nat.le_of_ble_eq_true rfl) ?_
  rcases Bool.eq_false_or_eq_true r1 with hb2 | hb2
  · rw [ite_t hb2] at h
    try simp only [hb2, Nat.reduceBEq, Nat.reduceMul, Nat.reduceAdd, Nat.reduceDiv, Int.reduceBEq, rules2, rulesX, rowsX]
    refine go_fr_of rfl ?_
    obtain ⟨r3, hr3, h⟩ := ob h
    try simp only [hb2, Nat.reduceBEq, Nat.reduceMul, Nat.reduceAdd, Nat.reduceDiv, Int.reduceBEq, rules2, rulesX, rowsX]
    refine go_dcallI (w_impl_Ship_need _ _ hr3) rfl rfl (Nat.le_of_ble_eq_true rfl) ?_
    obtain ⟨x4, hx4, h⟩ := ob h
    try simp only [hb2, hx4, Nat.reduceBEq, Nat.reduceMul, Nat.reduceAdd, Nat.reduceDiv, Int.reduceBEq, rules2, rulesX, rowsX]
    cases h
    exact ⟨⟨rfl, trivial⟩, rfl⟩
  · rw [ite_f hb2] at h
    try simp only [hb2, Nat.reduceBEq, Nat.reduceMul, Nat.reduceAdd, Nat.reduceDiv, Int.reduceBEq, rules2, rulesX, rowsX]
    cases h
    exact ⟨⟨rfl, trivial⟩, rfl⟩
/- 32: impl_ClearanceOn -/
def c_impl_ClearanceOn_1 : ACode := .seq (.reg [(none, .keep [2, 3, 4, 26] [3, 4] [])]) (.cond (S 26) (.seq (.reg [(none, .mv 6 (K 0)), (none, .mv 7 (KB false))]) .ret) .skip)
def c_impl_ClearanceOn_2 : ACode := .seq (.reg [(none, .keep [2, 3, 4, 8, 9] [3, 4] [])]) (.seq (.seq (.reg [(none, .mv 35 (S 9)), (none, .faddr 36 (S 4) 4), (none, .load 37 (S 36) false 1), (none, .bin 38 .leq (S 35) (S 37))]) (.cond (S 38) .skip (.exit 0))) (.seq (.block 1 (.reg [(none, .mv 41 (S 8)), (none, .faddr 42 (S 3) 0), (none, .load 43 (S 42) true 3), (none, .mv 44 (S 2)), (none, .mv 45 (S 9)), (none, .call 46 63 [(S 43), (S 44), (S 45)]), (none, .mm 47 false (S 41) (S 46)), (none, .mv 8 (S 47))])) (.reg [(none, .mv 39 (S 9)), (none, .bin 40 .add (S 39) (K 1)), (none, .mv 9 (S 40))])))
def c_impl_ClearanceOn_n2 : ACode := (.seq (.drw [(some [59], (none, .mv 48 (S 8))), (some [], (none, .faddr 49 (S 3) 3)), (some [], (none, .load 50 (S 49) true 2)), (some [], (none, .faddr 51 (S 4) 1)), (some [], (none, .load 52 (S 51) false 1)), (some [], (none, .faddr 53 (S 3) 5)), (some [], (none, .load 54 (S 53) false 1)), (some [], (none, .faddr 55 (S 4) 0)), (some [], (none, .load 56 (S 55) false 1)), (some [], (none, .iaddr 57 (S 54) (S 56) 6)), (some [], (none, .load 58 (S 57) true 6)), (some [], (none, .call 59 64 [(S 50), (S 52), (S 58)])), (some [], (none, .bin 60 .sub (S 48) (S 59))), (some [], (none, .mv 6 (S 60))), (some [], (none, .mv 7 (KB true)))]) .ret)
def c_impl_ClearanceOn_n1 : ACode := (.seq (.reg [(none, .faddr 27 (S 3) 0), (none, .load 28 (S 27) true 3), (none, .mv 29 (S 2)), (none, .faddr 30 (S 4) 3), (none, .load 31 (S 30) false 1), (none, .call 32 63 [(S 28), (S 29), (S 31)]), (none, .mv 8 (S 32))]) (.seq (.seq (.reg [(none, .faddr 33 (S 4) 3), (none, .load 34 (S 33) false 1), (none, .mv 9 (S 34))]) (.block 0 (.loop c_impl_ClearanceOn_2))) c_impl_ClearanceOn_n2))
def c_impl_ClearanceOn : ACode := (.seq (.reg [(none, .box 3 (S 0)), (none, .box 4 (S 1)), (none, .mv 6 (K 0)), (none, .mv 7 (KB false))]) (.seq (.seq (.reg [(none, .load 10 (S 3) true 12), (none, .call 11 60 [(S 10)]), (none, .un 12 .not (S 11)), (none, .mv 13 (S 12)), (some (13, false), .mv 14 (S 2)), (some (13, false), .call 15 61 [(S 14)]), (some (13, false), .un 16 .not (S 15)), (none, .pick 17 (S 13) (KB true) (S 16)), (none, .mv 18 (S 17)), (some (18, false), .faddr 19 (S 3) 3), (some (18, false), .load 20 (S 19) true 2), (some (18, false), .faddr 21 (S 3) 5), (some (18, false), .load 22 (S 21) false 1), (some (18, false), .load 23 (S 4) true 5), (some (18, false), .call 24 62 [(S 20), (S 22), (S 23)]), (some (18, false), .un 25 .not (S 24)), (none, .pick 26 (S 18) (KB true) (S 25))]) c_impl_ClearanceOn_1) c_impl_ClearanceOn_n1))
theorem w_impl_ClearanceOn_2 (a2 : List Int) (a0 : XHarbour) (a1 : XPassage) : ∀ (n : Nat) (v9 : Int) (v10 : Int) (r : Int × Bool), f_impl_ClearanceOn_2 a2 a0 a1 n v9 v10 = some r → ∀ σ : St, σ.kept [2, 3, 4, 8, 9] [3, 4] [] = ⟨[(2, vc (aL (List.map rI a2))), (3, vc (.pb 3 0)), (4, vc (.pb 4 0)), (8, vc (aI v9)), (9, vc (aI v10))], [(3, [aI a0.Forecast.Tide.Mean, aL (List.map XPart.row a0.Forecast.Tide.Parts), aL (List.map XSurge.row a0.Forecast.Surges), aL (List.map XPoint.row a0.Chart.Points), aL (List.map XSegment.row a0.Chart.Segments), aL (List.map XShip.row a0.Fleet), aI a0.Regime.Gap, aB a0.Regime.NoMeet, aI a0.Crew.Tugs, aI a0.Crew.Pilots, aI a0.Crew.Rest, aL (List.map rI a0.Crew.Moves)]), (4, [aI a1.Ship, aI a1.Segment, aB a1.Toward, aI a1.Start, aI a1.End])], []⟩ → go Tryz.prog (.code (.loop c_impl_ClearanceOn_2) :: [.blk 0, .code c_impl_ClearanceOn_n2]) (Ret [6, 7] [.sc (.v (.int .i64 r.1)), .sc (.v (.bool r.2))]) .normal (some σ) := by
  intro n
  induction n with
  | zero => intro _ _ r h; cases h
  | succ n ih =>
    intro v9 v10 r h σ hσ
    rw [f_impl_ClearanceOn_2] at h
    refine go_round ?_
    rcases Bool.eq_false_or_eq_true (decide (v10 ≤ a1.End)) with hb11 | hb11
    · rw [ite_t hb11] at h
      obtain ⟨r12, hr12, h⟩ := ob h
      try simp only [hσ, hb11, c_impl_ClearanceOn_2, Nat.reduceBEq, Nat.reduceMul, Nat.reduceAdd, Nat.reduceDiv, Int.reduceBEq, rules2, rulesX, rowsX]
      refine go_callI (w_impl_levelOn _ _ _ _ hr12) rfl rfl (Nat.le_of_ble_eq_true rfl) ?_
      try simp only [hb11, Nat.reduceBEq, Nat.reduceMul, Nat.reduceAdd, Nat.reduceDiv, Int.reduceBEq, rules2, rulesX, rowsX]
      refine ih _ _ _ h _ ?_
      try simp only [hb11, Nat.reduceBEq, Nat.reduceMul, Nat.reduceAdd, Nat.reduceDiv, Int.reduceBEq, rules2, rulesX, rowsX, List.map_nil]
    · rw [ite_f hb11] at h
      try simp only [hσ, hb11, c_impl_ClearanceOn_2, c_impl_ClearanceOn_n2, Nat.reduceBEq, Nat.reduceMul, Nat.reduceAdd, Nat.reduceDiv, Int.reduceBEq, rules2, rulesX, rowsX]
      refine go_fr_of rfl ?_
      obtain ⟨x13, hx13, h⟩ := ob h
      obtain ⟨r14, hr14, h⟩ := ob h
      try simp only [hb11, hx13, Nat.reduceBEq, Nat.reduceMul, Nat.reduceAdd, Nat.reduceDiv, Int.reduceBEq, rules2, rulesX, rowsX]
      refine go_dcallI (w_impl_LevelFor _ _ _ _ hr14) rfl rfl (Nat.le_of_ble_eq_true rfl) ?_
      try simp only [hb11, hx13, Nat.reduceBEq, Nat.reduceMul, Nat.reduceAdd, Nat.reduceDiv, Int.reduceBEq, rules2, rulesX, rowsX]
      cases h
      exact ⟨⟨rfl, rfl, trivial⟩, rfl⟩
theorem w_impl_ClearanceOn_1 (a2 : List Int) (a0 : XHarbour) (a1 : XPassage) (v6 : Bool) (r : Int × Bool) (h : f_impl_ClearanceOn_1 a2 a0 a1 v6 = some r) (σ : St) (hσ : σ.kept [2, 3, 4, 26] [3, 4] [] = ⟨[(2, vc (aL (List.map rI a2))), (3, vc (.pb 3 0)), (4, vc (.pb 4 0)), (26, vc (aB v6))], [(3, [aI a0.Forecast.Tide.Mean, aL (List.map XPart.row a0.Forecast.Tide.Parts), aL (List.map XSurge.row a0.Forecast.Surges), aL (List.map XPoint.row a0.Chart.Points), aL (List.map XSegment.row a0.Chart.Segments), aL (List.map XShip.row a0.Fleet), aI a0.Regime.Gap, aB a0.Regime.NoMeet, aI a0.Crew.Tugs, aI a0.Crew.Pilots, aI a0.Crew.Rest, aL (List.map rI a0.Crew.Moves)]), (4, [aI a1.Ship, aI a1.Segment, aB a1.Toward, aI a1.Start, aI a1.End])], []⟩) : go Tryz.prog (.code c_impl_ClearanceOn_1 :: [.code c_impl_ClearanceOn_n1]) (Ret [6, 7] [.sc (.v (.int .i64 r.1)), .sc (.v (.bool r.2))]) .normal (some σ) := by
  unfold f_impl_ClearanceOn_1 at h
  rcases Bool.eq_false_or_eq_true v6 with hb7 | hb7
  · rw [ite_t hb7] at h
    try simp only [hσ, hb7, c_impl_ClearanceOn_1, Nat.reduceBEq, Nat.reduceMul, Nat.reduceAdd, Nat.reduceDiv, Int.reduceBEq, rules2, rulesX, rowsX]
    cases h
    exact ⟨⟨rfl, rfl, trivial⟩, rfl⟩
  · rw [ite_f hb7] at h
    obtain ⟨r8, hr8, h⟩ := ob h
    try simp only [hσ, hb7, c_impl_ClearanceOn_1, c_impl_ClearanceOn_n1, Nat.reduceBEq, Nat.reduceMul, Nat.reduceAdd, Nat.reduceDiv, Int.reduceBEq, rules2, rulesX, rowsX]
    refine go_callI (w_impl_levelOn _ _ _ _ hr8) rfl rfl (Nat.le_of_ble_eq_true rfl) ?_
    try simp only [hb7, Nat.reduceBEq, Nat.reduceMul, Nat.reduceAdd, Nat.reduceDiv, Int.reduceBEq, rules2, rulesX, rowsX]
    refine w_impl_ClearanceOn_2 _ _ _ _ _ _ _ h _ ?_
    try simp only [hb7, Nat.reduceBEq, Nat.reduceMul, Nat.reduceAdd, Nat.reduceDiv, Int.reduceBEq, rules2, rulesX, rowsX, List.map_nil]
theorem e_impl_ClearanceOn : entry Tryz.prog 32 = some (c_impl_ClearanceOn.strip, [6, 7], 61) := by kernel_rfl
theorem w_impl_ClearanceOn (a0 : XHarbour) (a1 : XPassage) (a2 : List Int) (r : Int × Bool) (h : f_impl_ClearanceOn a0 a1 a2 = some r) : FC Tryz.prog 32 [.ag (XHarbour.row a0), .ag (XPassage.row a1), .sc (.sl (List.map rI a2))] [.sc (.v (.int .i64 r.1)), .sc (.v (.bool r.2))] := by
  unfold f_impl_ClearanceOn at h
  refine FC_go (σ := ⟨[(0, va [aI a0.Forecast.Tide.Mean, aL (List.map XPart.row a0.Forecast.Tide.Parts), aL (List.map XSurge.row a0.Forecast.Surges), aL (List.map XPoint.row a0.Chart.Points), aL (List.map XSegment.row a0.Chart.Segments), aL (List.map XShip.row a0.Fleet), aI a0.Regime.Gap, aB a0.Regime.NoMeet, aI a0.Crew.Tugs, aI a0.Crew.Pilots, aI a0.Crew.Rest, aL (List.map rI a0.Crew.Moves)]), (1, va [aI a1.Ship, aI a1.Segment, aB a1.Toward, aI a1.Start, aI a1.End]), (2, vc (aL (List.map rI a2)))], [], []⟩) mixed e_impl_ClearanceOn rfl rfl ?_
  simp only [c_impl_ClearanceOn]
  try simp only [Nat.reduceBEq, Nat.reduceMul, Nat.reduceAdd, Nat.reduceDiv, Int.reduceBEq, rules2, rulesX, rowsX]
  refine go_bx rfl rfl rfl ?_
  try simp only [Nat.reduceBEq, Nat.reduceMul, Nat.reduceAdd, Nat.reduceDiv, Int.reduceBEq, rules2, rulesX, rowsX]
  refine go_bx rfl rfl rfl ?_
  obtain ⟨r1, hr1, h⟩ := ob h
  try simp only [Nat.reduceBEq, Nat.reduceMul, Nat.reduceAdd, Nat.reduceDiv, Int.reduceBEq, rules2, rulesX, rowsX]
  refine go_callI (w_impl_HarbourOk _ _ hr1) rfl rfl (Nat.le_of_ble_eq_true rfl) ?_
  rcases Bool.eq_false_or_eq_true r1 with hb2 | hb2
  · rw [ite_t hb2] at h
    obtain ⟨r3, hr3, h⟩ := ob h
    try simp only [hb2, Nat.reduceBEq, Nat.reduceMul, Nat.reduceAdd, Nat.reduceDiv, Int.reduceBEq, rules2, rulesX, rowsX]
    refine go_callI (w_impl_PicksOk _ _ hr3) rfl rfl (Nat.le_of_ble_eq_true rfl) ?_
    rcases Bool.eq_false_or_eq_true r3 with hb4 | hb4
    · rw [ite_t hb4] at h
      obtain ⟨r5, hr5, h⟩ := ob h
      try simp only [hb2, hb4, Nat.reduceBEq, Nat.reduceMul, Nat.reduceAdd, Nat.reduceDiv, Int.reduceBEq, rules2, rulesX, rowsX]
      refine go_callI (w_impl_passageOk _ _ _ _ hr5) rfl rfl (Nat.le_of_ble_eq_true rfl) ?_
      try simp only [hb2, hb4, Nat.reduceBEq, Nat.reduceMul, Nat.reduceAdd, Nat.reduceDiv, Int.reduceBEq, rules2, rulesX, rowsX]
      refine w_impl_ClearanceOn_1 _ _ _ _ _ h _ ?_
      try simp only [hb2, hb4, Nat.reduceBEq, Nat.reduceMul, Nat.reduceAdd, Nat.reduceDiv, Int.reduceBEq, rules2, rulesX, rowsX, List.map_nil]
    · rw [ite_f hb4] at h
      try simp only [hb2, hb4, Nat.reduceBEq, Nat.reduceMul, Nat.reduceAdd, Nat.reduceDiv, Int.reduceBEq, rules2, rulesX, rowsX]
      refine w_impl_ClearanceOn_1 _ _ _ _ _ h _ ?_
      try simp only [hb2, hb4, Nat.reduceBEq, Nat.reduceMul, Nat.reduceAdd, Nat.reduceDiv, Int.reduceBEq, rules2, rulesX, rowsX, List.map_nil]
  · rw [ite_f hb2] at h
    try simp only [hb2, Nat.reduceBEq, Nat.reduceMul, Nat.reduceAdd, Nat.reduceDiv, Int.reduceBEq, rules2, rulesX, rowsX]
    refine w_impl_ClearanceOn_1 _ _ _ _ _ h _ ?_
    try simp only [hb2, Nat.reduceBEq, Nat.reduceMul, Nat.reduceAdd, Nat.reduceDiv, Int.reduceBEq, rules2, rulesX, rowsX, List.map_nil]
/- 42: impl_sailOn -/
def c_impl_sailOn_1 : ACode := .seq (.reg [(none, .keep [1, 3, 4, 6, 10] [4, 6] [])]) (.seq (.seq (.reg [(none, .mv 26 (S 10)), (none, .faddr 27 (S 6) 4), (none, .load 28 (S 27) false 1), (none, .bin 29 .leq (S 26) (S 28))]) (.cond (S 29) .skip (.exit 0))) (.seq (.block 1 (.seq (.drw [(some [], (none, .faddr 32 (S 4) 0)), (some [], (none, .load 33 (S 32) true 3)), (some [], (none, .mv 34 (S 3))), (some [], (none, .mv 35 (S 10))), (some [], (none, .call 36 63 [(S 33), (S 34), (S 35)])), (some [36], (none, .faddr 37 (S 4) 3)), (some [36], (none, .load 38 (S 37) true 2)), (some [36], (none, .faddr 39 (S 6) 1)), (some [36], (none, .load 40 (S 39) false 1)), (some [36], (none, .faddr 41 (S 4) 5)), (some [36], (none, .load 42 (S 41) false 1)), (some [36], (none, .faddr 43 (S 6) 0)), (some [36], (none, .load 44 (S 43) false 1)), (some [36], (none, .iaddr 45 (S 42) (S 44) 6)), (some [36], (none, .load 46 (S 45) true 6)), (some [], (none, .call 47 64 [(S 38), (S 40), (S 46)])), (some [], (none, .bin 48 .lss (S 36) (S 47)))]) (.cond (S 48) (.pan [(none, .mv 49 (S 1)), (none, .mv 50 (S 10)), (none, .build 51 [aI 0, aI 0] [(0, 1, (S 49)), (1, 1, (S 50))]), (none, .mkif 52 102 (S 51))] (S 52)) .skip))) (.reg [(none, .mv 30 (S 10)), (none, .bin 31 .add (S 30) (K 1)), (none, .mv 10 (S 31))])))
def c_impl_sailOn : ACode := (.seq (.reg [(none, .box 4 (S 0)), (none, .box 6 (S 2))]) (.seq (.seq (.reg [(none, .load 12 (S 4) true 12), (none, .load 13 (S 6) true 5), (none, .mv 14 (S 3)), (none, .call 15 32 [(S 12), (S 13), (S 14)]), (none, .mv 11 (S 15)), (none, .extr 16 (S 11) 0), (none, .extr 17 (S 11) 1), (none, .mv 8 (S 16)), (none, .mv 9 (S 17))]) (.seq (.reg [(none, .mv 18 (S 9)), (none, .un 19 .not (S 18)), (none, .mv 20 (S 19)), (some (20, false), .mv 21 (S 8)), (some (20, false), .bin 22 .geq (S 21) (K 0)), (none, .pick 23 (S 20) (KB true) (S 22))]) (.cond (S 23) .ret .skip))) (.seq (.reg [(none, .faddr 24 (S 6) 3), (none, .load 25 (S 24) false 1), (none, .mv 10 (S 25))]) (.block 0 (.loop c_impl_sailOn_1)))))
theorem w_impl_sailOn_1 (a1 : Int) (a3 : List Int) (a0 : XHarbour) (a2 : XPassage) : ∀ (n : Nat) (v4 : Int) (r : Option Xgrounded), f_impl_sailOn_1 a1 a3 a0 a2 n v4 = some r → ∀ σ : St, σ.kept [1, 3, 4, 6, 10] [4, 6] [] = ⟨[(1, vc (aI a1)), (3, vc (aL (List.map rI a3))), (4, vc (.pb 4 0)), (6, vc (.pb 6 0)), (10, vc (aI v4))], [(4, [aI a0.Forecast.Tide.Mean, aL (List.map XPart.row a0.Forecast.Tide.Parts), aL (List.map XSurge.row a0.Forecast.Surges), aL (List.map XPoint.row a0.Chart.Points), aL (List.map XSegment.row a0.Chart.Segments), aL (List.map XShip.row a0.Fleet), aI a0.Regime.Gap, aB a0.Regime.NoMeet, aI a0.Crew.Tugs, aI a0.Crew.Pilots, aI a0.Crew.Rest, aL (List.map rI a0.Crew.Moves)]), (6, [aI a2.Ship, aI a2.Segment, aB a2.Toward, aI a2.Start, aI a2.End])], []⟩ → go Tryz.prog (.code (.loop c_impl_sailOn_1) :: [.blk 0]) (RetP [] [] (r.map pd_Xgrounded)) .normal (some σ) := by
  intro n
  induction n with
  | zero => intro _ r h; cases h
  | succ n ih =>
    intro v4 r h σ hσ
    rw [f_impl_sailOn_1] at h
    refine go_round ?_
    rcases Bool.eq_false_or_eq_true (decide (v4 ≤ a2.End)) with hb5 | hb5
    · rw [ite_t hb5] at h
      try simp only [hσ, hb5, c_impl_sailOn_1, Nat.reduceBEq, Nat.reduceMul, Nat.reduceAdd, Nat.reduceDiv, Int.reduceBEq, rules2, rulesX, rowsX]
      refine go_fr_of rfl ?_
      obtain ⟨r6, hr6, h⟩ := ob h
      try simp only [hb5, Nat.reduceBEq, Nat.reduceMul, Nat.reduceAdd, Nat.reduceDiv, Int.reduceBEq, rules2, rulesX, rowsX]
      refine go_dcallI (w_impl_levelOn _ _ _ _ hr6) rfl rfl (Nat.le_of_ble_eq_true rfl) ?_
      obtain ⟨x7, hx7, h⟩ := ob h
      obtain ⟨r8, hr8, h⟩ := ob h
      try simp only [hb5, hx7, Nat.reduceBEq, Nat.reduceMul, Nat.reduceAdd, Nat.reduceDiv, Int.reduceBEq, rules2, rulesX, rowsX]
      refine go_dcallI (w_impl_LevelFor _ _ _ _ hr8) rfl rfl (Nat.le_of_ble_eq_true rfl) ?_
      rcases Bool.eq_false_or_eq_true (decide (r6 < r8)) with hb9 | hb9
      · rw [ite_t hb9] at h
        try simp only [hb5, hx7, hb9, Nat.reduceBEq, Nat.reduceMul, Nat.reduceAdd, Nat.reduceDiv, Int.reduceBEq, rules2, rulesX, rowsX]
        refine go_panF rfl rfl rfl ?_
        try simp only [hb5, hx7, hb9, Nat.reduceBEq, Nat.reduceMul, Nat.reduceAdd, Nat.reduceDiv, Int.reduceBEq, rules2, rulesX, rowsX]
        cases h
        exact rfl
      · rw [ite_f hb9] at h
        try simp only [hb5, hx7, hb9, Nat.reduceBEq, Nat.reduceMul, Nat.reduceAdd, Nat.reduceDiv, Int.reduceBEq, rules2, rulesX, rowsX]
        refine ih _ _ h _ ?_
        try simp only [hb5, hx7, hb9, Nat.reduceBEq, Nat.reduceMul, Nat.reduceAdd, Nat.reduceDiv, Int.reduceBEq, rules2, rulesX, rowsX, List.map_nil]
    · rw [ite_f hb5] at h
      try simp only [hσ, hb5, c_impl_sailOn_1, Nat.reduceBEq, Nat.reduceMul, Nat.reduceAdd, Nat.reduceDiv, Int.reduceBEq, rules2, rulesX, rowsX]
      cases h
      exact ⟨trivial, rfl⟩
theorem e_impl_sailOn : entry Tryz.prog 42 = some (c_impl_sailOn.strip, [], 53) := by kernel_rfl
theorem w_impl_sailOn (a0 : XHarbour) (a1 : Int) (a2 : XPassage) (a3 : List Int) (r : Option Xgrounded) (h : f_impl_sailOn a0 a1 a2 a3 = some r) : FCq Tryz.prog 42 [.ag (XHarbour.row a0), .sc (.int .i64 a1), .ag (XPassage.row a2), .sc (.sl (List.map rI a3))] [] (r.map pd_Xgrounded) := by
  unfold f_impl_sailOn at h
  refine FCq_go (σ := ⟨[(0, va [aI a0.Forecast.Tide.Mean, aL (List.map XPart.row a0.Forecast.Tide.Parts), aL (List.map XSurge.row a0.Forecast.Surges), aL (List.map XPoint.row a0.Chart.Points), aL (List.map XSegment.row a0.Chart.Segments), aL (List.map XShip.row a0.Fleet), aI a0.Regime.Gap, aB a0.Regime.NoMeet, aI a0.Crew.Tugs, aI a0.Crew.Pilots, aI a0.Crew.Rest, aL (List.map rI a0.Crew.Moves)]), (1, vc (aI a1)), (2, va [aI a2.Ship, aI a2.Segment, aB a2.Toward, aI a2.Start, aI a2.End]), (3, vc (aL (List.map rI a3)))], [], []⟩) mixed e_impl_sailOn rfl rfl ?_
  simp only [c_impl_sailOn]
  try simp only [Nat.reduceBEq, Nat.reduceMul, Nat.reduceAdd, Nat.reduceDiv, Int.reduceBEq, rules2, rulesX, rowsX]
  refine go_bx rfl rfl rfl ?_
  try simp only [Nat.reduceBEq, Nat.reduceMul, Nat.reduceAdd, Nat.reduceDiv, Int.reduceBEq, rules2, rulesX, rowsX]
  refine go_bx rfl rfl rfl ?_
  obtain ⟨r1, hr1, h⟩ := ob h
  try simp only [Nat.reduceBEq, Nat.reduceMul, Nat.reduceAdd, Nat.reduceDiv, Int.reduceBEq, rules2, rulesX, rowsX]
  refine go_callI (w_impl_ClearanceOn _ _ _ _ hr1) rfl rfl (Nat.le_of_ble_eq_true rfl) ?_
  rcases Bool.eq_false_or_eq_true r1.2 with hb2 | hb2
  · rw [ite_t hb2] at h
    rcases Bool.eq_false_or_eq_true (decide ((0 : Int) ≤ r1.1)) with hb3 | hb3
    · rw [ite_t hb3] at h
      try simp only [hb2, hb3, Nat.reduceBEq, Nat.reduceMul, Nat.reduceAdd, Nat.reduceDiv, Int.reduceBEq, rules2, rulesX, rowsX]
      cases h
      exact ⟨trivial, rfl⟩
    · rw [ite_f hb3] at h
      try simp only [hb2, hb3, Nat.reduceBEq, Nat.reduceMul, Nat.reduceAdd, Nat.reduceDiv, Int.reduceBEq, rules2, rulesX, rowsX]
      refine w_impl_sailOn_1 _ _ _ _ _ _ _ h _ ?_
      try simp only [hb2, hb3, Nat.reduceBEq, Nat.reduceMul, Nat.reduceAdd, Nat.reduceDiv, Int.reduceBEq, rules2, rulesX, rowsX, List.map_nil]
  · rw [ite_f hb2] at h
    try simp only [hb2, Nat.reduceBEq, Nat.reduceMul, Nat.reduceAdd, Nat.reduceDiv, Int.reduceBEq, rules2, rulesX, rowsX]
    cases h
    exact ⟨trivial, rfl⟩
/- 19: impl_FirstGrounding -/
def c_impl_FirstGrounding_2 : ACode := .seq (.reg [(none, .keep [2, 3, 6, 7, 8, 13, 14, 15, 21, 22, 23] [1099511627776, 1099511627777] [])]) (.seq (.reg [(none, .bin 24 .lss (S 23) (S 22))]) (.seq (.cond (S 24) .skip (.exit 2)) (.seq (.block 3 (.seq (.reg [(none, .iaddr 25 (S 21) (S 23) 5), (none, .load 26 (S 25) true 5), (none, .alloc 11 [aI 0, aI 0, aB false, aI 0, aI 0]), (none, .store (S 11) (S 26) 5)]) (.cal [(none, .load 27 (S 3) true 12), (none, .mv 28 (S 8)), (none, .load 29 (S 11) true 5), (none, .mv 30 (S 2))] 31 42 [(S 27), (S 28), (S 29), (S 30)]))) (.reg [(none, .bin 32 .add (S 23) (K 1)), (none, .mv 23 (S 32))]))))
def c_impl_FirstGrounding_n2 : ACode := (.reg [(none, .bin 33 .add (S 15) (K 1)), (none, .mv 15 (S 33))])
def c_impl_FirstGrounding_1 : ACode := .seq (.reg [(none, .keep [2, 3, 6, 7, 13, 14, 15] [1099511627776, 1099511627777] [])]) (.seq (.reg [(none, .bin 16 .lss (S 15) (S 14))]) (.seq (.cond (S 16) .skip (.exit 0)) (.seq (.block 1 (.seq (.reg [(none, .mv 17 (S 15)), (none, .iaddr 18 (S 13) (S 15) 4), (none, .load 19 (S 18) true 4), (none, .alloc 9 [aI 0, aI 0, aI 0, .nil]), (none, .mv 8 (S 17)), (none, .store (S 9) (S 19) 4)]) (.seq (.reg [(none, .faddr 20 (S 9) 3), (none, .load 21 (S 20) false 1), (none, .len 22 (S 21)), (none, .mv 23 (K 0))]) (.block 2 (.loop c_impl_FirstGrounding_2))))) c_impl_FirstGrounding_n2)))
def c_impl_FirstGrounding_n1 : ACode := (.seq (.reg [(none, .store (S 6) (K (-1)) 1), (none, .store (S 7) (K (-1)) 1)]) .ret)
def c_impl_FirstGrounding : ACode := (.seq (.seq (.reg [(none, .mv 13 (S 1)), (none, .len 14 (S 13)), (none, .mv 15 (K 0))]) (.block 0 (.loop c_impl_FirstGrounding_1))) c_impl_FirstGrounding_n1)
def c_impl_FirstGrounding_a : ACode := (.reg [(none, .box 3 (S 0)), (none, .alloc 6 [aI 0]), (none, .alloc 7 [aI 0]), (none, .frzb 3), (none, .keep [1, 2, 3, 6, 7] [6, 7] [])])
theorem w_impl_FirstGrounding_2 (a2 : List Int) (a0 : XHarbour) (v1 : Int) (a1 : List XOption) (x3 : XOption) (k_impl_FirstGrounding_1 : Int → Option (Int × Int)) (hk_impl_FirstGrounding_1 : ∀ (v1 : Int) zr, k_impl_FirstGrounding_1 v1 = some zr → ∀ σ : St, σ.kept [2, 3, 6, 7, 13, 14, 15] [1099511627776, 1099511627777] [] = ⟨[(2, vc (aL (List.map rI a2))), (3, vc (.dat (.pd [.int .i64 a0.Forecast.Tide.Mean, .sl (List.map XPart.row a0.Forecast.Tide.Parts), .sl (List.map XSurge.row a0.Forecast.Surges), .sl (List.map XPoint.row a0.Chart.Points), .sl (List.map XSegment.row a0.Chart.Segments), .sl (List.map XShip.row a0.Fleet), .int .i64 a0.Regime.Gap, .bool a0.Regime.NoMeet, .int .i64 a0.Crew.Tugs, .int .i64 a0.Crew.Pilots, .int .i64 a0.Crew.Rest, .sl (List.map rI a0.Crew.Moves)]))), (6, vc (.pb 1099511627776 0)), (7, vc (.pb 1099511627777 0)), (13, vc (aL (List.map XOption.row a1))), (14, vc (aI (a1.length : Int))), (15, vc (aI v1))], [(1099511627776, [aI (0 : Int)]), (1099511627777, [aI (0 : Int)])], []⟩ → go Tryz.prog (.code (.loop c_impl_FirstGrounding_1) :: [.blk 0, .code c_impl_FirstGrounding_n1]) (RetF 6 7 102 zr) .normal (some σ)) : ∀ (n : Nat) (v4 : Int) (r : Int × Int), f_impl_FirstGrounding_2 a2 a0 v1 a1 x3 k_impl_FirstGrounding_1 n v4 = some r → ∀ σ : St, σ.kept [2, 3, 6, 7, 8, 13, 14, 15, 21, 22, 23] [1099511627776, 1099511627777] [] = ⟨[(2, vc (aL (List.map rI a2))), (3, vc (.dat (.pd [.int .i64 a0.Forecast.Tide.Mean, .sl (List.map XPart.row a0.Forecast.Tide.Parts), .sl (List.map XSurge.row a0.Forecast.Surges), .sl (List.map XPoint.row a0.Chart.Points), .sl (List.map XSegment.row a0.Chart.Segments), .sl (List.map XShip.row a0.Fleet), .int .i64 a0.Regime.Gap, .bool a0.Regime.NoMeet, .int .i64 a0.Crew.Tugs, .int .i64 a0.Crew.Pilots, .int .i64 a0.Crew.Rest, .sl (List.map rI a0.Crew.Moves)]))), (6, vc (.pb 1099511627776 0)), (7, vc (.pb 1099511627777 0)), (8, vc (aI v1)), (13, vc (aL (List.map XOption.row a1))), (14, vc (aI (a1.length : Int))), (15, vc (aI v1)), (21, vc (aL (List.map XPassage.row x3.Passages))), (22, vc (aI (x3.Passages.length : Int))), (23, vc (aI v4))], [(1099511627776, [aI (0 : Int)]), (1099511627777, [aI (0 : Int)])], []⟩ → go Tryz.prog (.code (.loop c_impl_FirstGrounding_2) :: [.blk 2, .blk 1, .code c_impl_FirstGrounding_n2, .code (.loop c_impl_FirstGrounding_1), .blk 0, .code c_impl_FirstGrounding_n1]) (RetF 6 7 102 r) .normal (some σ) := by
  intro n
  induction n with
  | zero => intro _ r h; cases h
  | succ n ih =>
    intro v4 r h σ hσ
    rw [f_impl_FirstGrounding_2] at h
    refine go_round ?_
    rcases Bool.eq_false_or_eq_true (decide (v4 < (x3.Passages.length : Int))) with hb5 | hb5
    · rw [ite_t hb5] at h
      obtain ⟨x6, hx6, h⟩ := ob h
      try simp only [hσ, hb5, hx6, c_impl_FirstGrounding_2, Nat.reduceBEq, Nat.reduceMul, Nat.reduceAdd, Nat.reduceDiv, Int.reduceBEq, rules2, rulesX, rowsX]
      refine go_al rfl rfl ?_
      obtain ⟨r7, hr7, h⟩ := ob h
      rcases Bool.eq_false_or_eq_true r7.isSome with hb8 | hb8
      · rw [ite_t hb8] at h
        obtain ⟨y9, hy9, h⟩ := ob h
        try simp only [hx6, Nat.reduceBEq, Nat.reduceMul, Nat.reduceAdd, Nat.reduceDiv, Int.reduceBEq, rules2, rulesX, rowsX]
        refine go_calP (pd := .ifs 102 [.int .i64 y9.option, .int .i64 y9.minute]) (FCq.some (w_impl_sailOn _ _ _ _ _ hr7) (by rw [hy9]; rfl)) rfl ?_
        try simp only [hx6, Nat.reduceBEq, Nat.reduceMul, Nat.reduceAdd, Nat.reduceDiv, Int.reduceBEq, rules2, rulesX, rowsX]
        cases h
        exact ⟨rfl, rfl, _, _, rfl, rfl, rfl⟩
      · rw [ite_f hb8] at h
        have hn10 := of_notSome hb8
        try simp only [hb5, hx6, Nat.reduceBEq, Nat.reduceMul, Nat.reduceAdd, Nat.reduceDiv, Int.reduceBEq, rules2, rulesX, rowsX]
        refine go_calF ?_
        try simp only [hb5, hx6, Nat.reduceBEq, Nat.reduceMul, Nat.reduceAdd, Nat.reduceDiv, Int.reduceBEq, rules2, rulesX, rowsX]
        refine go_callI (FCq.none (w_impl_sailOn _ _ _ _ _ hr7) (by rw [hn10]; rfl)) rfl rfl (Nat.le_of_ble_eq_true rfl) ?_
        try simp only [hb5, hx6, Nat.reduceBEq, Nat.reduceMul, Nat.reduceAdd, Nat.reduceDiv, Int.reduceBEq, rules2, rulesX, rowsX]
        refine ih _ _ h _ ?_
        try simp only [hb5, hx6, Nat.reduceBEq, Nat.reduceMul, Nat.reduceAdd, Nat.reduceDiv, Int.reduceBEq, rules2, rulesX, rowsX, List.map_nil]
    · rw [ite_f hb5] at h
      try simp only [hσ, hb5, c_impl_FirstGrounding_2, c_impl_FirstGrounding_n2, Nat.reduceBEq, Nat.reduceMul, Nat.reduceAdd, Nat.reduceDiv, Int.reduceBEq, rules2, rulesX, rowsX]
      refine hk_impl_FirstGrounding_1 _ _ h _ ?_
      try simp only [hb5, Nat.reduceBEq, Nat.reduceMul, Nat.reduceAdd, Nat.reduceDiv, Int.reduceBEq, rules2, rulesX, rowsX, List.map_nil]
theorem w_impl_FirstGrounding_1 (a2 : List Int) (a0 : XHarbour) (a1 : List XOption) : ∀ (n : Nat) (v1 : Int) (r : Int × Int), f_impl_FirstGrounding_1 a2 a0 a1 n v1 = some r → ∀ σ : St, σ.kept [2, 3, 6, 7, 13, 14, 15] [1099511627776, 1099511627777] [] = ⟨[(2, vc (aL (List.map rI a2))), (3, vc (.dat (.pd [.int .i64 a0.Forecast.Tide.Mean, .sl (List.map XPart.row a0.Forecast.Tide.Parts), .sl (List.map XSurge.row a0.Forecast.Surges), .sl (List.map XPoint.row a0.Chart.Points), .sl (List.map XSegment.row a0.Chart.Segments), .sl (List.map XShip.row a0.Fleet), .int .i64 a0.Regime.Gap, .bool a0.Regime.NoMeet, .int .i64 a0.Crew.Tugs, .int .i64 a0.Crew.Pilots, .int .i64 a0.Crew.Rest, .sl (List.map rI a0.Crew.Moves)]))), (6, vc (.pb 1099511627776 0)), (7, vc (.pb 1099511627777 0)), (13, vc (aL (List.map XOption.row a1))), (14, vc (aI (a1.length : Int))), (15, vc (aI v1))], [(1099511627776, [aI (0 : Int)]), (1099511627777, [aI (0 : Int)])], []⟩ → go Tryz.prog (.code (.loop c_impl_FirstGrounding_1) :: [.blk 0, .code c_impl_FirstGrounding_n1]) (RetF 6 7 102 r) .normal (some σ) := by
  intro n
  induction n with
  | zero => intro _ r h; cases h
  | succ n ih =>
    intro v1 r h σ hσ
    rw [f_impl_FirstGrounding_1] at h
    refine go_round ?_
    rcases Bool.eq_false_or_eq_true (decide (v1 < (a1.length : Int))) with hb2 | hb2
    · rw [ite_t hb2] at h
      obtain ⟨x3, hx3, h⟩ := ob h
      try simp only [hσ, hb2, hx3, c_impl_FirstGrounding_1, Nat.reduceBEq, Nat.reduceMul, Nat.reduceAdd, Nat.reduceDiv, Int.reduceBEq, rules2, rulesX, rowsX]
      refine go_al rfl rfl ?_
      try simp only [hb2, hx3, Nat.reduceBEq, Nat.reduceMul, Nat.reduceAdd, Nat.reduceDiv, Int.reduceBEq, rules2, rulesX, rowsX]
      refine w_impl_FirstGrounding_2 _ _ _ _ _ (f_impl_FirstGrounding_1 a2 a0 a1 n) ih _ _ _ h _ ?_
      try simp only [hb2, hx3, Nat.reduceBEq, Nat.reduceMul, Nat.reduceAdd, Nat.reduceDiv, Int.reduceBEq, rules2, rulesX, rowsX, List.map_nil]
    · rw [ite_f hb2] at h
      try simp only [hσ, hb2, c_impl_FirstGrounding_1, c_impl_FirstGrounding_n1, Nat.reduceBEq, Nat.reduceMul, Nat.reduceAdd, Nat.reduceDiv, Int.reduceBEq, rules2, rulesX, rowsX]
      cases h
      exact ⟨rfl, rfl, _, _, rfl, rfl, rfl, rfl⟩
theorem e_impl_FirstGrounding : entryF Tryz.prog 19 41 12 6 7 = some (c_impl_FirstGrounding_a.strip, c_impl_FirstGrounding.strip, 34) := by kernel_rfl
theorem w_impl_FirstGrounding (a0 : XHarbour) (a1 : List XOption) (a2 : List Int) (r : Int × Int) (h : f_impl_FirstGrounding a0 a1 a2 = some r) : FC Tryz.prog 19 [.ag (XHarbour.row a0), .sc (.sl (List.map XOption.row a1)), .sc (.sl (List.map rI a2))] [.sc (.v (.int .i64 r.1)), .sc (.v (.int .i64 r.2))] := by
  unfold f_impl_FirstGrounding at h
  refine FD_go (ti := 3) (T := 102) (σ := ⟨[(0, va [aI a0.Forecast.Tide.Mean, aL (List.map XPart.row a0.Forecast.Tide.Parts), aL (List.map XSurge.row a0.Forecast.Surges), aL (List.map XPoint.row a0.Chart.Points), aL (List.map XSegment.row a0.Chart.Segments), aL (List.map XShip.row a0.Fleet), aI a0.Regime.Gap, aB a0.Regime.NoMeet, aI a0.Crew.Tugs, aI a0.Crew.Pilots, aI a0.Crew.Rest, aL (List.map rI a0.Crew.Moves)]), (1, vc (aL (List.map XOption.row a1))), (2, vc (aL (List.map rI a2)))], [], []⟩) mixed (by kernel_rfl) e_impl_FirstGrounding rfl rfl (by kernel_rfl) (by decide) rfl rfl ground_idle ground_catch rfl ?_
  simp only [c_impl_FirstGrounding_a]
  try simp only [Nat.reduceBEq, Nat.reduceMul, Nat.reduceAdd, Nat.reduceDiv, Int.reduceBEq, rules2, rulesX, rowsX]
  refine go_bx rfl rfl rfl ?_
  try simp only [Nat.reduceBEq, Nat.reduceMul, Nat.reduceAdd, Nat.reduceDiv, Int.reduceBEq, rules2, rulesX, rowsX]
  refine go_al rfl rfl ?_
  try simp only [Nat.reduceBEq, Nat.reduceMul, Nat.reduceAdd, Nat.reduceDiv, Int.reduceBEq, rules2, rulesX, rowsX]
  refine go_al rfl rfl ?_
  try simp only [Nat.reduceBEq, Nat.reduceMul, Nat.reduceAdd, Nat.reduceDiv, Int.reduceBEq, rules2, rulesX, rowsX]
  refine go_frzb' rfl rfl ?_
  try simp only [Nat.reduceBEq, Nat.reduceMul, Nat.reduceAdd, Nat.reduceDiv, Int.reduceBEq, rules2, rulesX, rowsX]
  refine ⟨rfl, rfl, rfl, rfl, rfl, rfl, ?_⟩
  show go Tryz.prog [.code c_impl_FirstGrounding] _ .normal (some ⟨[(1, vc (aL (List.map XOption.row a1))), (2, vc (aL (List.map rI a2))), (3, vc (.dat (.pd [.int .i64 a0.Forecast.Tide.Mean, .sl (List.map XPart.row a0.Forecast.Tide.Parts), .sl (List.map XSurge.row a0.Forecast.Surges), .sl (List.map XPoint.row a0.Chart.Points), .sl (List.map XSegment.row a0.Chart.Segments), .sl (List.map XShip.row a0.Fleet), .int .i64 a0.Regime.Gap, .bool a0.Regime.NoMeet, .int .i64 a0.Crew.Tugs, .int .i64 a0.Crew.Pilots, .int .i64 a0.Crew.Rest, .sl (List.map rI a0.Crew.Moves)]))), (6, vc (.pb 1099511627776 0)), (7, vc (.pb 1099511627777 0))], [(1099511627776, [aI (0 : Int)]), (1099511627777, [aI (0 : Int)])], []⟩)
  simp only [c_impl_FirstGrounding]
  try simp only [Nat.reduceBEq, Nat.reduceMul, Nat.reduceAdd, Nat.reduceDiv, Int.reduceBEq, rules2, rulesX, rowsX]
  refine w_impl_FirstGrounding_1 _ _ _ _ _ _ h _ ?_
  try simp only [Nat.reduceBEq, Nat.reduceMul, Nat.reduceAdd, Nat.reduceDiv, Int.reduceBEq, rules2, rulesX, rowsX, List.map_nil]
/- 131: laws_eqPart -/
def c_laws_eqPart : ACode := (.seq (.reg [(none, .box 2 (S 0)), (none, .box 3 (S 1)), (none, .mv 4 (KB false))]) (.seq (.seq (.reg [(none, .faddr 5 (S 2) 0), (none, .load 6 (S 5) false 1), (none, .faddr 7 (S 3) 0), (none, .load 8 (S 7) false 1), (none, .bin 9 .neq (S 6) (S 8))]) (.cond (S 9) (.seq (.reg [(none, .mv 4 (KB false))]) .ret) .skip)) (.seq (.seq (.reg [(none, .faddr 10 (S 2) 1), (none, .load 11 (S 10) false 1), (none, .faddr 12 (S 3) 1), (none, .load 13 (S 12) false 1), (none, .bin 14 .neq (S 11) (S 13))]) (.cond (S 14) (.seq (.reg [(none, .mv 4 (KB false))]) .ret) .skip)) (.seq (.seq (.reg [(none, .faddr 15 (S 2) 2), (none, .load 16 (S 15) false 1), (none, .faddr 17 (S 3) 2), (none, .load 18 (S 17) false 1), (none, .bin 19 .neq (S 16) (S 18))]) (.cond (S 19) (.seq (.reg [(none, .mv 4 (KB false))]) .ret) .skip)) (.seq (.reg [(none, .mv 4 (KB true))]) .ret)))))
theorem e_laws_eqPart : entry Tryz.prog 131 = some (c_laws_eqPart.strip, [4], 20) := by kernel_rfl
theorem w_laws_eqPart (a0 : XPart) (a1 : XPart) (r : Bool) (h : f_laws_eqPart a0 a1 = some r) : FC Tryz.prog 131 [.ag (XPart.row a0), .ag (XPart.row a1)] [.sc (.v (.bool r))] := by
  unfold f_laws_eqPart at h
  refine FC_go (σ := ⟨[(0, va [aI a0.Amp, aI a0.Period, aI a0.Phase]), (1, va [aI a1.Amp, aI a1.Period, aI a1.Phase])], [], []⟩) mixed e_laws_eqPart rfl rfl ?_
  simp only [c_laws_eqPart]
  try simp only [Nat.reduceBEq, Nat.reduceMul, Nat.reduceAdd, Nat.reduceDiv, Int.reduceBEq, rules2, rulesX, rowsX]
  refine go_bx rfl rfl rfl ?_
  try simp only [Nat.reduceBEq, Nat.reduceMul, Nat.reduceAdd, Nat.reduceDiv, Int.reduceBEq, rules2, rulesX, rowsX]
  refine go_bx rfl rfl rfl ?_
  rcases Bool.eq_false_or_eq_true (a0.Amp != a1.Amp) with hb1 | hb1
  · rw [ite_t hb1] at h
    try simp only [hb1, Nat.reduceBEq, Nat.reduceMul, Nat.reduceAdd, Nat.reduceDiv, Int.reduceBEq, rules2, rulesX, rowsX]
    cases h
    exact ⟨⟨rfl, trivial⟩, rfl⟩
  · rw [ite_f hb1] at h
    rcases Bool.eq_false_or_eq_true (a0.Period != a1.Period) with hb2 | hb2
    · rw [ite_t hb2] at h
      try simp only [hb1, hb2, Nat.reduceBEq, Nat.reduceMul, Nat.reduceAdd, Nat.reduceDiv, Int.reduceBEq, rules2, rulesX, rowsX]
      cases h
      exact ⟨⟨rfl, trivial⟩, rfl⟩
    · rw [ite_f hb2] at h
      rcases Bool.eq_false_or_eq_true (a0.Phase != a1.Phase) with hb3 | hb3
      · rw [ite_t hb3] at h
        try simp only [hb1, hb2, hb3, Nat.reduceBEq, Nat.reduceMul, Nat.reduceAdd, Nat.reduceDiv, Int.reduceBEq, rules2, rulesX, rowsX]
        cases h
        exact ⟨⟨rfl, trivial⟩, rfl⟩
      · rw [ite_f hb3] at h
        try simp only [hb1, hb2, hb3, Nat.reduceBEq, Nat.reduceMul, Nat.reduceAdd, Nat.reduceDiv, Int.reduceBEq, rules2, rulesX, rowsX]
        cases h
        exact ⟨⟨rfl, trivial⟩, rfl⟩
/- 103: laws_eqPartS -/
def c_laws_eqPartS_1 : ACode := .seq (.reg [(none, .keep [0, 1, 5] [] [])]) (.seq (.seq (.reg [(none, .mv 11 (S 5)), (none, .mv 12 (S 0)), (none, .len 13 (S 12)), (none, .bin 14 .lss (S 11) (S 13))]) (.cond (S 14) .skip (.exit 0))) (.seq (.block 1 (.seq (.drw [(some [], (none, .mv 17 (S 0))), (some [], (none, .mv 18 (S 5))), (some [], (none, .iaddr 19 (S 17) (S 18) 3)), (some [], (none, .load 20 (S 19) true 3)), (some [], (none, .mv 21 (S 1))), (some [], (none, .mv 22 (S 5))), (some [], (none, .iaddr 23 (S 21) (S 22) 3)), (some [], (none, .load 24 (S 23) true 3)), (some [], (none, .call 25 131 [(S 20), (S 24)])), (some [], (none, .un 26 .not (S 25)))]) (.cond (S 26) (.seq (.reg [(none, .mv 4 (KB false))]) .ret) .skip))) (.reg [(none, .mv 15 (S 5)), (none, .bin 16 .add (S 15) (K 1)), (none, .mv 5 (S 16))])))
def c_laws_eqPartS_n1 : ACode := (.seq (.reg [(none, .mv 4 (KB true))]) .ret)
def c_laws_eqPartS : ACode := (.seq (.reg [(none, .mv 4 (KB false))]) (.seq (.seq (.reg [(none, .mv 6 (S 0)), (none, .len 7 (S 6)), (none, .mv 8 (S 1)), (none, .len 9 (S 8)), (none, .bin 10 .neq (S 7) (S 9))]) (.cond (S 10) (.seq (.reg [(none, .mv 4 (KB false))]) .ret) .skip)) (.seq (.seq (.reg [(none, .mv 5 (K 0))]) (.block 0 (.loop c_laws_eqPartS_1))) c_laws_eqPartS_n1)))
theorem w_laws_eqPartS_1 (a0 : List XPart) (a1 : List XPart) : ∀ (n : Nat) (v2 : Int) (r : Bool), f_laws_eqPartS_1 a0 a1 n v2 = some r → ∀ σ : St, σ.kept [0, 1, 5] [] [] = ⟨[(0, vc (aL (List.map XPart.row a0))), (1, vc (aL (List.map XPart.row a1))), (5, vc (aI v2))], [], []⟩ → go Tryz.prog (.code (.loop c_laws_eqPartS_1) :: [.blk 0, .code c_laws_eqPartS_n1]) (Ret [4] [.sc (.v (.bool r))]) .normal (some σ) := by
  intro n
  induction n with
  | zero => intro _ r h; cases h
  | succ n ih =>
    intro v2 r h σ hσ
    rw [f_laws_eqPartS_1] at h
    refine go_round ?_
    rcases Bool.eq_false_or_eq_true (decide (v2 < (a0.length : Int))) with hb3 | hb3
    · rw [ite_t hb3] at h
      try simp only [hσ, hb3, c_laws_eqPartS_1, Nat.reduceBEq, Nat.reduceMul, Nat.reduceAdd, Nat.reduceDiv, Int.reduceBEq, rules2, rulesX, rowsX]
      refine go_fr_of rfl ?_
      obtain ⟨x4, hx4, h⟩ := ob h
      obtain ⟨x5, hx5, h⟩ := ob h
      obtain ⟨r6, hr6, h⟩ := ob h
      try simp only [hb3, hx4, hx5, Nat.reduceBEq, Nat.reduceMul, Nat.reduceAdd, Nat.reduceDiv, Int.reduceBEq, rules2, rulesX, rowsX]
      refine go_dcallI (w_laws_eqPart _ _ _ hr6) rfl rfl (Nat.le_of_ble_eq_true rfl) ?_
      rcases Bool.eq_false_or_eq_true r6 with hb7 | hb7
      · rw [ite_t hb7] at h
        try simp only [hb3, hx4, hx5, hb7, Nat.reduceBEq, Nat.reduceMul, Nat.reduceAdd, Nat.reduceDiv, Int.reduceBEq, rules2, rulesX, rowsX]
        refine ih _ _ h _ ?_
        try simp only [hb3, hx4, hx5, hb7, Nat.reduceBEq, Nat.reduceMul, Nat.reduceAdd, Nat.reduceDiv, Int.reduceBEq, rules2, rulesX, rowsX, List.map_nil]
      · rw [ite_f hb7] at h
        try simp only [hb3, hx4, hx5, hb7, Nat.reduceBEq, Nat.reduceMul, Nat.reduceAdd, Nat.reduceDiv, Int.reduceBEq, rules2, rulesX, rowsX]
        cases h
        exact ⟨⟨rfl, trivial⟩, rfl⟩
    · rw [ite_f hb3] at h
      try simp only [hσ, hb3, c_laws_eqPartS_1, c_laws_eqPartS_n1, Nat.reduceBEq, Nat.reduceMul, Nat.reduceAdd, Nat.reduceDiv, Int.reduceBEq, rules2, rulesX, rowsX]
      cases h
      exact ⟨⟨rfl, trivial⟩, rfl⟩
theorem e_laws_eqPartS : entry Tryz.prog 103 = some (c_laws_eqPartS.strip, [4], 27) := by kernel_rfl
theorem w_laws_eqPartS (a0 : List XPart) (a1 : List XPart) (r : Bool) (h : f_laws_eqPartS a0 a1 = some r) : FC Tryz.prog 103 [.sc (.sl (List.map XPart.row a0)), .sc (.sl (List.map XPart.row a1))] [.sc (.v (.bool r))] := by
  unfold f_laws_eqPartS at h
  refine FC_go (σ := ⟨[(0, vc (aL (List.map XPart.row a0))), (1, vc (aL (List.map XPart.row a1)))], [], []⟩) mixed e_laws_eqPartS rfl rfl ?_
  simp only [c_laws_eqPartS]
  rcases Bool.eq_false_or_eq_true ((a0.length : Int) != (a1.length : Int)) with hb1 | hb1
  · rw [ite_t hb1] at h
    try simp only [hb1, Nat.reduceBEq, Nat.reduceMul, Nat.reduceAdd, Nat.reduceDiv, Int.reduceBEq, rules2, rulesX, rowsX]
    cases h
    exact ⟨⟨rfl, trivial⟩, rfl⟩
  · rw [ite_f hb1] at h
    try simp only [hb1, Nat.reduceBEq, Nat.reduceMul, Nat.reduceAdd, Nat.reduceDiv, Int.reduceBEq, rules2, rulesX, rowsX]
    refine w_laws_eqPartS_1 _ _ _ _ _ h _ ?_
    try simp only [hb1, Nat.reduceBEq, Nat.reduceMul, Nat.reduceAdd, Nat.reduceDiv, Int.reduceBEq, rules2, rulesX, rowsX, List.map_nil]
/- 65: laws_eqTide -/
def c_laws_eqTide : ACode := (.seq (.reg [(none, .box 2 (S 0)), (none, .box 3 (S 1)), (none, .mv 4 (KB false))]) (.seq (.seq (.reg [(none, .faddr 5 (S 2) 0), (none, .load 6 (S 5) false 1), (none, .faddr 7 (S 3) 0), (none, .load 8 (S 7) false 1), (none, .bin 9 .neq (S 6) (S 8))]) (.cond (S 9) (.seq (.reg [(none, .mv 4 (KB false))]) .ret) .skip)) (.seq (.seq (.reg [(none, .faddr 10 (S 2) 1), (none, .load 11 (S 10) false 1), (none, .faddr 12 (S 3) 1), (none, .load 13 (S 12) false 1), (none, .call 14 103 [(S 11), (S 13)]), (none, .un 15 .not (S 14))]) (.cond (S 15) (.seq (.reg [(none, .mv 4 (KB false))]) .ret) .skip)) (.seq (.reg [(none, .mv 4 (KB true))]) .ret))))
theorem e_laws_eqTide : entry Tryz.prog 65 = some (c_laws_eqTide.strip, [4], 16) := by kernel_rfl
theorem w_laws_eqTide (a0 : XTide) (a1 : XTide) (r : Bool) (h : f_laws_eqTide a0 a1 = some r) : FC Tryz.prog 65 [.ag (XTide.row a0), .ag (XTide.row a1)] [.sc (.v (.bool r))] := by
  unfold f_laws_eqTide at h
  refine FC_go (σ := ⟨[(0, va [aI a0.Mean, aL (List.map XPart.row a0.Parts)]), (1, va [aI a1.Mean, aL (List.map XPart.row a1.Parts)])], [], []⟩) mixed e_laws_eqTide rfl rfl ?_
  simp only [c_laws_eqTide]
  try simp only [Nat.reduceBEq, Nat.reduceMul, Nat.reduceAdd, Nat.reduceDiv, Int.reduceBEq, rules2, rulesX, rowsX]
  refine go_bx rfl rfl rfl ?_
  try simp only [Nat.reduceBEq, Nat.reduceMul, Nat.reduceAdd, Nat.reduceDiv, Int.reduceBEq, rules2, rulesX, rowsX]
  refine go_bx rfl rfl rfl ?_
  rcases Bool.eq_false_or_eq_true (a0.Mean != a1.Mean) with hb1 | hb1
  · rw [ite_t hb1] at h
    try simp only [hb1, Nat.reduceBEq, Nat.reduceMul, Nat.reduceAdd, Nat.reduceDiv, Int.reduceBEq, rules2, rulesX, rowsX]
    cases h
    exact ⟨⟨rfl, trivial⟩, rfl⟩
  · rw [ite_f hb1] at h
    obtain ⟨r2, hr2, h⟩ := ob h
    try simp only [hb1, Nat.reduceBEq, Nat.reduceMul, Nat.reduceAdd, Nat.reduceDiv, Int.reduceBEq, rules2, rulesX, rowsX]
    refine go_callI (w_laws_eqPartS _ _ _ hr2) rfl rfl (Nat.le_of_ble_eq_true rfl) ?_
    rcases Bool.eq_false_or_eq_true r2 with hb3 | hb3
    · rw [ite_t hb3] at h
      try simp only [hb1, hb3, Nat.reduceBEq, Nat.reduceMul, Nat.reduceAdd, Nat.reduceDiv, Int.reduceBEq, rules2, rulesX, rowsX]
      cases h
      exact ⟨⟨rfl, trivial⟩, rfl⟩
    · rw [ite_f hb3] at h
      try simp only [hb1, hb3, Nat.reduceBEq, Nat.reduceMul, Nat.reduceAdd, Nat.reduceDiv, Int.reduceBEq, rules2, rulesX, rowsX]
      cases h
      exact ⟨⟨rfl, trivial⟩, rfl⟩
/- 104: laws_eqSurge -/
def c_laws_eqSurge : ACode := (.seq (.reg [(none, .box 2 (S 0)), (none, .box 3 (S 1)), (none, .mv 4 (KB false))]) (.seq (.seq (.reg [(none, .faddr 5 (S 2) 0), (none, .load 6 (S 5) false 1), (none, .faddr 7 (S 3) 0), (none, .load 8 (S 7) false 1), (none, .bin 9 .neq (S 6) (S 8))]) (.cond (S 9) (.seq (.reg [(none, .mv 4 (KB false))]) .ret) .skip)) (.seq (.seq (.reg [(none, .faddr 10 (S 2) 1), (none, .load 11 (S 10) false 1), (none, .faddr 12 (S 3) 1), (none, .load 13 (S 12) false 1), (none, .bin 14 .neq (S 11) (S 13))]) (.cond (S 14) (.seq (.reg [(none, .mv 4 (KB false))]) .ret) .skip)) (.seq (.seq (.reg [(none, .faddr 15 (S 2) 2), (none, .load 16 (S 15) false 1), (none, .faddr 17 (S 3) 2), (none, .load 18 (S 17) false 1), (none, .bin 19 .neq (S 16) (S 18))]) (.cond (S 19) (.seq (.reg [(none, .mv 4 (KB false))]) .ret) .skip)) (.seq (.reg [(none, .mv 4 (KB true))]) .ret)))))
theorem e_laws_eqSurge : entry Tryz.prog 104 = some (c_laws_eqSurge.strip, [4], 20) := by kernel_rfl
theorem w_laws_eqSurge (a0 : XSurge) (a1 : XSurge) (r : Bool) (h : f_laws_eqSurge a0 a1 = some r) : FC Tryz.prog 104 [.ag (XSurge.row a0), .ag (XSurge.row a1)] [.sc (.v (.bool r))] := by
  unfold f_laws_eqSurge at h
  refine FC_go (σ := ⟨[(0, va [aI a0.From, aI a0.Low, aI a0.High]), (1, va [aI a1.From, aI a1.Low, aI a1.High])], [], []⟩) mixed e_laws_eqSurge rfl rfl ?_
  simp only [c_laws_eqSurge]
  try simp only [Nat.reduceBEq, Nat.reduceMul, Nat.reduceAdd, Nat.reduceDiv, Int.reduceBEq, rules2, rulesX, rowsX]
  refine go_bx rfl rfl rfl ?_
  try simp only [Nat.reduceBEq, Nat.reduceMul, Nat.reduceAdd, Nat.reduceDiv, Int.reduceBEq, rules2, rulesX, rowsX]
  refine go_bx rfl rfl rfl ?_
  rcases Bool.eq_false_or_eq_true (a0.From != a1.From) with hb1 | hb1
  · rw [ite_t hb1] at h
    try simp only [hb1, Nat.reduceBEq, Nat.reduceMul, Nat.reduceAdd, Nat.reduceDiv, Int.reduceBEq, rules2, rulesX, rowsX]
    cases h
    exact ⟨⟨rfl, trivial⟩, rfl⟩
  · rw [ite_f hb1] at h
    rcases Bool.eq_false_or_eq_true (a0.Low != a1.Low) with hb2 | hb2
    · rw [ite_t hb2] at h
      try simp only [hb1, hb2, Nat.reduceBEq, Nat.reduceMul, Nat.reduceAdd, Nat.reduceDiv, Int.reduceBEq, rules2, rulesX, rowsX]
      cases h
      exact ⟨⟨rfl, trivial⟩, rfl⟩
    · rw [ite_f hb2] at h
      rcases Bool.eq_false_or_eq_true (a0.High != a1.High) with hb3 | hb3
      · rw [ite_t hb3] at h
        try simp only [hb1, hb2, hb3, Nat.reduceBEq, Nat.reduceMul, Nat.reduceAdd, Nat.reduceDiv, Int.reduceBEq, rules2, rulesX, rowsX]
        cases h
        exact ⟨⟨rfl, trivial⟩, rfl⟩
      · rw [ite_f hb3] at h
        try simp only [hb1, hb2, hb3, Nat.reduceBEq, Nat.reduceMul, Nat.reduceAdd, Nat.reduceDiv, Int.reduceBEq, rules2, rulesX, rowsX]
        cases h
        exact ⟨⟨rfl, trivial⟩, rfl⟩
/- 66: laws_eqSurgeS -/
def c_laws_eqSurgeS_1 : ACode := .seq (.reg [(none, .keep [0, 1, 5] [] [])]) (.seq (.seq (.reg [(none, .mv 11 (S 5)), (none, .mv 12 (S 0)), (none, .len 13 (S 12)), (none, .bin 14 .lss (S 11) (S 13))]) (.cond (S 14) .skip (.exit 0))) (.seq (.block 1 (.seq (.drw [(some [], (none, .mv 17 (S 0))), (some [], (none, .mv 18 (S 5))), (some [], (none, .iaddr 19 (S 17) (S 18) 3)), (some [], (none, .load 20 (S 19) true 3)), (some [], (none, .mv 21 (S 1))), (some [], (none, .mv 22 (S 5))), (some [], (none, .iaddr 23 (S 21) (S 22) 3)), (some [], (none, .load 24 (S 23) true 3)), (some [], (none, .call 25 104 [(S 20), (S 24)])), (some [], (none, .un 26 .not (S 25)))]) (.cond (S 26) (.seq (.reg [(none, .mv 4 (KB false))]) .ret) .skip))) (.reg [(none, .mv 15 (S 5)), (none, .bin 16 .add (S 15) (K 1)), (none, .mv 5 (S 16))])))
def c_laws_eqSurgeS_n1 : ACode := (.seq (.reg [(none, .mv 4 (KB true))]) .ret)
def c_laws_eqSurgeS : ACode := (.seq (.reg [(none, .mv 4 (KB false))]) (.seq (.seq (.reg [(none, .mv 6 (S 0)), (none, .len 7 (S 6)), (none, .mv 8 (S 1)), (none, .len 9 (S 8)), (none, .bin 10 .neq (S 7) (S 9))]) (.cond (S 10) (.seq (.reg [(none, .mv 4 (KB false))]) .ret) .skip)) (.seq (.seq (.reg [(none, .mv 5 (K 0))]) (.block 0 (.loop c_laws_eqSurgeS_1))) c_laws_eqSurgeS_n1)))
theorem w_laws_eqSurgeS_1 (a0 : List XSurge) (a1 : List XSurge) : ∀ (n : Nat) (v2 : Int) (r : Bool), f_laws_eqSurgeS_1 a0 a1 n v2 = some r → ∀ σ : St, σ.kept [0, 1, 5] [] [] = ⟨[(0, vc (aL (List.map XSurge.row a0))), (1, vc (aL (List.map XSurge.row a1))), (5, vc (aI v2))], [], []⟩ → go Tryz.prog (.code (.loop c_laws_eqSurgeS_1) :: [.blk 0, .code c_laws_eqSurgeS_n1]) (Ret [4] [.sc (.v (.bool r))]) .normal (some σ) := by
  intro n
  induction n with
  | zero => intro _ r h; cases h
  | succ n ih =>
    intro v2 r h σ hσ
    rw [f_laws_eqSurgeS_1] at h
    refine go_round ?_
    rcases Bool.eq_false_or_eq_true (decide (v2 < (a0.length : Int))) with hb3 | hb3
    · rw [ite_t hb3] at h
      try simp only [hσ, hb3, c_laws_eqSurgeS_1, Nat.reduceBEq, Nat.reduceMul, Nat.reduceAdd, Nat.reduceDiv, Int.reduceBEq, rules2, rulesX, rowsX]
      refine go_fr_of rfl ?_
      obtain ⟨x4, hx4, h⟩ := ob h
      obtain ⟨x5, hx5, h⟩ := ob h
      obtain ⟨r6, hr6, h⟩ := ob h
      try simp only [hb3, hx4, hx5, Nat.reduceBEq, Nat.reduceMul, Nat.reduceAdd, Nat.reduceDiv, Int.reduceBEq, rules2, rulesX, rowsX]
      refine go_dcallI (w_laws_eqSurge _ _ _ hr6) rfl rfl (Nat.le_of_ble_eq_true rfl) ?_
      rcases Bool.eq_false_or_eq_true r6 with hb7 | hb7
      · rw [ite_t hb7] at h
        try simp only [hb3, hx4, hx5, hb7, Nat.reduceBEq, Nat.reduceMul, Nat.reduceAdd, Nat.reduceDiv, Int.reduceBEq, rules2, rulesX, rowsX]
        refine ih _ _ h _ ?_
        try simp only [hb3, hx4, hx5, hb7, Nat.reduceBEq, Nat.reduceMul, Nat.reduceAdd, Nat.reduceDiv, Int.reduceBEq, rules2, rulesX, rowsX, List.map_nil]
      · rw [ite_f hb7] at h
        try simp only [hb3, hx4, hx5, hb7, Nat.reduceBEq, Nat.reduceMul, Nat.reduceAdd, Nat.reduceDiv, Int.reduceBEq, rules2, rulesX, rowsX]
        cases h
        exact ⟨⟨rfl, trivial⟩, rfl⟩
    · rw [ite_f hb3] at h
      try simp only [hσ, hb3, c_laws_eqSurgeS_1, c_laws_eqSurgeS_n1, Nat.reduceBEq, Nat.reduceMul, Nat.reduceAdd, Nat.reduceDiv, Int.reduceBEq, rules2, rulesX, rowsX]
      cases h
      exact ⟨⟨rfl, trivial⟩, rfl⟩
theorem e_laws_eqSurgeS : entry Tryz.prog 66 = some (c_laws_eqSurgeS.strip, [4], 27) := by kernel_rfl
theorem w_laws_eqSurgeS (a0 : List XSurge) (a1 : List XSurge) (r : Bool) (h : f_laws_eqSurgeS a0 a1 = some r) : FC Tryz.prog 66 [.sc (.sl (List.map XSurge.row a0)), .sc (.sl (List.map XSurge.row a1))] [.sc (.v (.bool r))] := by
  unfold f_laws_eqSurgeS at h
  refine FC_go (σ := ⟨[(0, vc (aL (List.map XSurge.row a0))), (1, vc (aL (List.map XSurge.row a1)))], [], []⟩) mixed e_laws_eqSurgeS rfl rfl ?_
  simp only [c_laws_eqSurgeS]
  rcases Bool.eq_false_or_eq_true ((a0.length : Int) != (a1.length : Int)) with hb1 | hb1
  · rw [ite_t hb1] at h
    try simp only [hb1, Nat.reduceBEq, Nat.reduceMul, Nat.reduceAdd, Nat.reduceDiv, Int.reduceBEq, rules2, rulesX, rowsX]
    cases h
    exact ⟨⟨rfl, trivial⟩, rfl⟩
  · rw [ite_f hb1] at h
    try simp only [hb1, Nat.reduceBEq, Nat.reduceMul, Nat.reduceAdd, Nat.reduceDiv, Int.reduceBEq, rules2, rulesX, rowsX]
    refine w_laws_eqSurgeS_1 _ _ _ _ _ h _ ?_
    try simp only [hb1, Nat.reduceBEq, Nat.reduceMul, Nat.reduceAdd, Nat.reduceDiv, Int.reduceBEq, rules2, rulesX, rowsX, List.map_nil]
/- 33: laws_eqForecast -/
def c_laws_eqForecast : ACode := (.seq (.reg [(none, .box 2 (S 0)), (none, .box 3 (S 1)), (none, .mv 4 (KB false))]) (.seq (.seq (.reg [(none, .faddr 5 (S 2) 0), (none, .load 6 (S 5) true 2), (none, .faddr 7 (S 3) 0), (none, .load 8 (S 7) true 2), (none, .call 9 65 [(S 6), (S 8)]), (none, .un 10 .not (S 9))]) (.cond (S 10) (.seq (.reg [(none, .mv 4 (KB false))]) .ret) .skip)) (.seq (.seq (.reg [(none, .faddr 11 (S 2) 2), (none, .load 12 (S 11) false 1), (none, .faddr 13 (S 3) 2), (none, .load 14 (S 13) false 1), (none, .call 15 66 [(S 12), (S 14)]), (none, .un 16 .not (S 15))]) (.cond (S 16) (.seq (.reg [(none, .mv 4 (KB false))]) .ret) .skip)) (.seq (.reg [(none, .mv 4 (KB true))]) .ret))))
theorem e_laws_eqForecast : entry Tryz.prog 33 = some (c_laws_eqForecast.strip, [4], 17) := by kernel_rfl
theorem w_laws_eqForecast (a0 : XForecast) (a1 : XForecast) (r : Bool) (h : f_laws_eqForecast a0 a1 = some r) : FC Tryz.prog 33 [.ag (XForecast.row a0), .ag (XForecast.row a1)] [.sc (.v (.bool r))] := by
  unfold f_laws_eqForecast at h
  refine FC_go (σ := ⟨[(0, va [aI a0.Tide.Mean, aL (List.map XPart.row a0.Tide.Parts), aL (List.map XSurge.row a0.Surges)]), (1, va [aI a1.Tide.Mean, aL (List.map XPart.row a1.Tide.Parts), aL (List.map XSurge.row a1.Surges)])], [], []⟩) mixed e_laws_eqForecast rfl rfl ?_
  simp only [c_laws_eqForecast]
  try simp only [Nat.reduceBEq, Nat.reduceMul, Nat.reduceAdd, Nat.reduceDiv, Int.reduceBEq, rules2, rulesX, rowsX]
  refine go_bx rfl rfl rfl ?_
  try simp only [Nat.reduceBEq, Nat.reduceMul, Nat.reduceAdd, Nat.reduceDiv, Int.reduceBEq, rules2, rulesX, rowsX]
  refine go_bx rfl rfl rfl ?_
  obtain ⟨r1, hr1, h⟩ := ob h
  try simp only [Nat.reduceBEq, Nat.reduceMul, Nat.reduceAdd, Nat.reduceDiv, Int.reduceBEq, rules2, rulesX, rowsX]
  refine go_callI (w_laws_eqTide _ _ _ hr1) rfl rfl (Nat.le_of_ble_eq_true rfl) ?_
  rcases Bool.eq_false_or_eq_true r1 with hb2 | hb2
  · rw [ite_t hb2] at h
    obtain ⟨r3, hr3, h⟩ := ob h
    try simp only [hb2, Nat.reduceBEq, Nat.reduceMul, Nat.reduceAdd, Nat.reduceDiv, Int.reduceBEq, rules2, rulesX, rowsX]
    refine go_callI (w_laws_eqSurgeS _ _ _ hr3) rfl rfl (Nat.le_of_ble_eq_true rfl) ?_
    rcases Bool.eq_false_or_eq_true r3 with hb4 | hb4
    · rw [ite_t hb4] at h
      try simp only [hb2, hb4, Nat.reduceBEq, Nat.reduceMul, Nat.reduceAdd, Nat.reduceDiv, Int.reduceBEq, rules2, rulesX, rowsX]
      cases h
      exact ⟨⟨rfl, trivial⟩, rfl⟩
    · rw [ite_f hb4] at h
      try simp only [hb2, hb4, Nat.reduceBEq, Nat.reduceMul, Nat.reduceAdd, Nat.reduceDiv, Int.reduceBEq, rules2, rulesX, rowsX]
      cases h
      exact ⟨⟨rfl, trivial⟩, rfl⟩
  · rw [ite_f hb2] at h
    try simp only [hb2, Nat.reduceBEq, Nat.reduceMul, Nat.reduceAdd, Nat.reduceDiv, Int.reduceBEq, rules2, rulesX, rowsX]
    cases h
    exact ⟨⟨rfl, trivial⟩, rfl⟩
/- 105: laws_eqPoint -/
def c_laws_eqPoint : ACode := (.seq (.reg [(none, .box 2 (S 0)), (none, .box 3 (S 1)), (none, .mv 4 (KB false))]) (.seq (.seq (.reg [(none, .faddr 5 (S 2) 0), (none, .load 6 (S 5) false 1), (none, .faddr 7 (S 3) 0), (none, .load 8 (S 7) false 1), (none, .bin 9 .neq (S 6) (S 8))]) (.cond (S 9) (.seq (.reg [(none, .mv 4 (KB false))]) .ret) .skip)) (.seq (.seq (.reg [(none, .faddr 10 (S 2) 1), (none, .load 11 (S 10) false 1), (none, .faddr 12 (S 3) 1), (none, .load 13 (S 12) false 1), (none, .beq 14 true (S 11) (S 13))]) (.cond (S 14) (.seq (.reg [(none, .mv 4 (KB false))]) .ret) .skip)) (.seq (.reg [(none, .mv 4 (KB true))]) .ret))))
theorem e_laws_eqPoint : entry Tryz.prog 105 = some (c_laws_eqPoint.strip, [4], 15) := by kernel_rfl
theorem w_laws_eqPoint (a0 : XPoint) (a1 : XPoint) (r : Bool) (h : f_laws_eqPoint a0 a1 = some r) : FC Tryz.prog 105 [.ag (XPoint.row a0), .ag (XPoint.row a1)] [.sc (.v (.bool r))] := by
  unfold f_laws_eqPoint at h
  refine FC_go (σ := ⟨[(0, va [aS a0.Name, aB a0.Wait]), (1, va [aS a1.Name, aB a1.Wait])], [], []⟩) mixed e_laws_eqPoint rfl rfl ?_
  simp only [c_laws_eqPoint]
  try simp only [Nat.reduceBEq, Nat.reduceMul, Nat.reduceAdd, Nat.reduceDiv, Int.reduceBEq, rules2, rulesX, rowsX]
  refine go_bx rfl rfl rfl ?_
  try simp only [Nat.reduceBEq, Nat.reduceMul, Nat.reduceAdd, Nat.reduceDiv, Int.reduceBEq, rules2, rulesX, rowsX]
  refine go_bx rfl rfl rfl ?_
  rcases Bool.eq_false_or_eq_true (a0.Name == a1.Name) with hb1 | hb1
  · rw [ite_t hb1] at h
    rcases Bool.eq_false_or_eq_true (a0.Wait == a1.Wait) with hb2 | hb2
    · rw [ite_t hb2] at h
      try simp only [hb1, hb2, Nat.reduceBEq, Nat.reduceMul, Nat.reduceAdd, Nat.reduceDiv, Int.reduceBEq, rules2, rulesX, rowsX]
      cases h
      exact ⟨⟨rfl, trivial⟩, rfl⟩
    · rw [ite_f hb2] at h
      try simp only [hb1, hb2, Nat.reduceBEq, Nat.reduceMul, Nat.reduceAdd, Nat.reduceDiv, Int.reduceBEq, rules2, rulesX, rowsX]
      cases h
      exact ⟨⟨rfl, trivial⟩, rfl⟩
  · rw [ite_f hb1] at h
    try simp only [hb1, Nat.reduceBEq, Nat.reduceMul, Nat.reduceAdd, Nat.reduceDiv, Int.reduceBEq, rules2, rulesX, rowsX]
    cases h
    exact ⟨⟨rfl, trivial⟩, rfl⟩
/- 67: laws_eqPointS -/
def c_laws_eqPointS_1 : ACode := .seq (.reg [(none, .keep [0, 1, 5] [] [])]) (.seq (.seq (.reg [(none, .mv 11 (S 5)), (none, .mv 12 (S 0)), (none, .len 13 (S 12)), (none, .bin 14 .lss (S 11) (S 13))]) (.cond (S 14) .skip (.exit 0))) (.seq (.block 1 (.seq (.drw [(some [], (none, .mv 17 (S 0))), (some [], (none, .mv 18 (S 5))), (some [], (none, .iaddr 19 (S 17) (S 18) 2)), (some [], (none, .load 20 (S 19) true 2)), (some [], (none, .mv 21 (S 1))), (some [], (none, .mv 22 (S 5))), (some [], (none, .iaddr 23 (S 21) (S 22) 2)), (some [], (none, .load 24 (S 23) true 2)), (some [], (none, .call 25 105 [(S 20), (S 24)])), (some [], (none, .un 26 .not (S 25)))]) (.cond (S 26) (.seq (.reg [(none, .mv 4 (KB false))]) .ret) .skip))) (.reg [(none, .mv 15 (S 5)), (none, .bin 16 .add (S 15) (K 1)), (none, .mv 5 (S 16))])))
def c_laws_eqPointS_n1 : ACode := (.seq (.reg [(none, .mv 4 (KB true))]) .ret)
def c_laws_eqPointS : ACode := (.seq (.reg [(none, .mv 4 (KB false))]) (.seq (.seq (.reg [(none, .mv 6 (S 0)), (none, .len 7 (S 6)), (none, .mv 8 (S 1)), (none, .len 9 (S 8)), (none, .bin 10 .neq (S 7) (S 9))]) (.cond (S 10) (.seq (.reg [(none, .mv 4 (KB false))]) .ret) .skip)) (.seq (.seq (.reg [(none, .mv 5 (K 0))]) (.block 0 (.loop c_laws_eqPointS_1))) c_laws_eqPointS_n1)))
theorem w_laws_eqPointS_1 (a0 : List XPoint) (a1 : List XPoint) : ∀ (n : Nat) (v2 : Int) (r : Bool), f_laws_eqPointS_1 a0 a1 n v2 = some r → ∀ σ : St, σ.kept [0, 1, 5] [] [] = ⟨[(0, vc (aL (List.map XPoint.row a0))), (1, vc (aL (List.map XPoint.row a1))), (5, vc (aI v2))], [], []⟩ → go Tryz.prog (.code (.loop c_laws_eqPointS_1) :: [.blk 0, .code c_laws_eqPointS_n1]) (Ret [4] [.sc (.v (.bool r))]) .normal (some σ) := by
  intro n
  induction n with
  | zero => intro _ r h; cases h
  | succ n ih =>
    intro v2 r h σ hσ
    rw [f_laws_eqPointS_1] at h
    refine go_round ?_
    rcases Bool.eq_false_or_eq_true (decide (v2 < (a0.length : Int))) with hb3 | hb3
    · rw [ite_t hb3] at h
      try simp only [hσ, hb3, c_laws_eqPointS_1, Nat.reduceBEq, Nat.reduceMul, Nat.reduceAdd, Nat.reduceDiv, Int.reduceBEq, rules2, rulesX, rowsX]
      refine go_fr_of rfl ?_
      obtain ⟨x4, hx4, h⟩ := ob h
      obtain ⟨x5, hx5, h⟩ := ob h
      obtain ⟨r6, hr6, h⟩ := ob h
      try simp only [hb3, hx4, hx5, Nat.reduceBEq, Nat.reduceMul, Nat.reduceAdd, Nat.reduceDiv, Int.reduceBEq, rules2, rulesX, rowsX]
      refine go_dcallI (w_laws_eqPoint _ _ _ hr6) rfl rfl (Nat.le_of_ble_eq_true rfl) ?_
      rcases Bool.eq_false_or_eq_true r6 with hb7 | hb7
      · rw [ite_t hb7] at h
        try simp only [hb3, hx4, hx5, hb7, Nat.reduceBEq, Nat.reduceMul, Nat.reduceAdd, Nat.reduceDiv, Int.reduceBEq, rules2, rulesX, rowsX]
        refine ih _ _ h _ ?_
        try simp only [hb3, hx4, hx5, hb7, Nat.reduceBEq, Nat.reduceMul, Nat.reduceAdd, Nat.reduceDiv, Int.reduceBEq, rules2, rulesX, rowsX, List.map_nil]
      · rw [ite_f hb7] at h
        try simp only [hb3, hx4, hx5, hb7, Nat.reduceBEq, Nat.reduceMul, Nat.reduceAdd, Nat.reduceDiv, Int.reduceBEq, rules2, rulesX, rowsX]
        cases h
        exact ⟨⟨rfl, trivial⟩, rfl⟩
    · rw [ite_f hb3] at h
      try simp only [hσ, hb3, c_laws_eqPointS_1, c_laws_eqPointS_n1, Nat.reduceBEq, Nat.reduceMul, Nat.reduceAdd, Nat.reduceDiv, Int.reduceBEq, rules2, rulesX, rowsX]
      cases h
      exact ⟨⟨rfl, trivial⟩, rfl⟩
theorem e_laws_eqPointS : entry Tryz.prog 67 = some (c_laws_eqPointS.strip, [4], 27) := by kernel_rfl
theorem w_laws_eqPointS (a0 : List XPoint) (a1 : List XPoint) (r : Bool) (h : f_laws_eqPointS a0 a1 = some r) : FC Tryz.prog 67 [.sc (.sl (List.map XPoint.row a0)), .sc (.sl (List.map XPoint.row a1))] [.sc (.v (.bool r))] := by
  unfold f_laws_eqPointS at h
  refine FC_go (σ := ⟨[(0, vc (aL (List.map XPoint.row a0))), (1, vc (aL (List.map XPoint.row a1)))], [], []⟩) mixed e_laws_eqPointS rfl rfl ?_
  simp only [c_laws_eqPointS]
  rcases Bool.eq_false_or_eq_true ((a0.length : Int) != (a1.length : Int)) with hb1 | hb1
  · rw [ite_t hb1] at h
    try simp only [hb1, Nat.reduceBEq, Nat.reduceMul, Nat.reduceAdd, Nat.reduceDiv, Int.reduceBEq, rules2, rulesX, rowsX]
    cases h
    exact ⟨⟨rfl, trivial⟩, rfl⟩
  · rw [ite_f hb1] at h
    try simp only [hb1, Nat.reduceBEq, Nat.reduceMul, Nat.reduceAdd, Nat.reduceDiv, Int.reduceBEq, rules2, rulesX, rowsX]
    refine w_laws_eqPointS_1 _ _ _ _ _ h _ ?_
    try simp only [hb1, Nat.reduceBEq, Nat.reduceMul, Nat.reduceAdd, Nat.reduceDiv, Int.reduceBEq, rules2, rulesX, rowsX, List.map_nil]
/- 106: laws_eqSegment -/
def c_laws_eqSegment : ACode := (.seq (.reg [(none, .box 2 (S 0)), (none, .box 3 (S 1)), (none, .mv 4 (KB false))]) (.seq (.seq (.reg [(none, .faddr 5 (S 2) 0), (none, .load 6 (S 5) false 1), (none, .faddr 7 (S 3) 0), (none, .load 8 (S 7) false 1), (none, .bin 9 .neq (S 6) (S 8))]) (.cond (S 9) (.seq (.reg [(none, .mv 4 (KB false))]) .ret) .skip)) (.seq (.seq (.reg [(none, .faddr 10 (S 2) 1), (none, .load 11 (S 10) false 1), (none, .faddr 12 (S 3) 1), (none, .load 13 (S 12) false 1), (none, .bin 14 .neq (S 11) (S 13))]) (.cond (S 14) (.seq (.reg [(none, .mv 4 (KB false))]) .ret) .skip)) (.seq (.seq (.reg [(none, .faddr 15 (S 2) 2), (none, .load 16 (S 15) false 1), (none, .faddr 17 (S 3) 2), (none, .load 18 (S 17) false 1), (none, .bin 19 .neq (S 16) (S 18))]) (.cond (S 19) (.seq (.reg [(none, .mv 4 (KB false))]) .ret) .skip)) (.seq (.seq (.reg [(none, .faddr 20 (S 2) 3), (none, .load 21 (S 20) false 1), (none, .faddr 22 (S 3) 3), (none, .load 23 (S 22) false 1), (none, .bin 24 .neq (S 21) (S 23))]) (.cond (S 24) (.seq (.reg [(none, .mv 4 (KB false))]) .ret) .skip)) (.seq (.seq (.reg [(none, .faddr 25 (S 2) 4), (none, .load 26 (S 25) false 1), (none, .faddr 27 (S 3) 4), (none, .load 28 (S 27) false 1), (none, .beq 29 true (S 26) (S 28))]) (.cond (S 29) (.seq (.reg [(none, .mv 4 (KB false))]) .ret) .skip)) (.seq (.reg [(none, .mv 4 (KB true))]) .ret)))))))
theorem e_laws_eqSegment : entry Tryz.prog 106 = some (c_laws_eqSegment.strip, [4], 30) := by kernel_rfl
theorem w_laws_eqSegment (a0 : XSegment) (a1 : XSegment) (r : Bool) (h : f_laws_eqSegment a0 a1 = some r) : FC Tryz.prog 106 [.ag (XSegment.row a0), .ag (XSegment.row a1)] [.sc (.v (.bool r))] := by
  unfold f_laws_eqSegment at h
  refine FC_go (σ := ⟨[(0, va [aI a0.A, aI a0.B, aI a0.Depth, aI a0.Minutes, aB a0.Meet]), (1, va [aI a1.A, aI a1.B, aI a1.Depth, aI a1.Minutes, aB a1.Meet])], [], []⟩) mixed e_laws_eqSegment rfl rfl ?_
  simp only [c_laws_eqSegment]
  try simp only [Nat.reduceBEq, Nat.reduceMul, Nat.reduceAdd, Nat.reduceDiv, Int.reduceBEq, rules2, rulesX, rowsX]
  refine go_bx rfl rfl rfl ?_
  try simp only [Nat.reduceBEq, Nat.reduceMul, Nat.reduceAdd, Nat.reduceDiv, Int.reduceBEq, rules2, rulesX, rowsX]
  refine go_bx rfl rfl rfl ?_
  rcases Bool.eq_false_or_eq_true (a0.A != a1.A) with hb1 | hb1
  · rw [ite_t hb1] at h
    try simp only [hb1, Nat.reduceBEq, Nat.reduceMul, Nat.reduceAdd, Nat.reduceDiv, Int.reduceBEq, rules2, rulesX, rowsX]
    cases h
    exact ⟨⟨rfl, trivial⟩, rfl⟩
  · rw [ite_f hb1] at h
    rcases Bool.eq_false_or_eq_true (a0.B != a1.B) with hb2 | hb2
    · rw [ite_t hb2] at h
      try simp only [hb1, hb2, Nat.reduceBEq, Nat.reduceMul, Nat.reduceAdd, Nat.reduceDiv, Int.reduceBEq, rules2, rulesX, rowsX]
      cases h
      exact ⟨⟨rfl, trivial⟩, rfl⟩
    · rw [ite_f hb2] at h
      rcases Bool.eq_false_or_eq_true (a0.Depth != a1.Depth) with hb3 | hb3
      · rw [ite_t hb3] at h
        try simp only [hb1, hb2, hb3, Nat.reduceBEq, Nat.reduceMul, Nat.reduceAdd, Nat.reduceDiv, Int.reduceBEq, rules2, rulesX, rowsX]
        cases h
        exact ⟨⟨rfl, trivial⟩, rfl⟩
      · rw [ite_f hb3] at h
        rcases Bool.eq_false_or_eq_true (a0.Minutes != a1.Minutes) with hb4 | hb4
        · rw [ite_t hb4] at h
          try simp only [hb1, hb2, hb3, hb4, Nat.reduceBEq, Nat.reduceMul, Nat.reduceAdd, Nat.reduceDiv, Int.reduceBEq, rules2, rulesX, rowsX]
          cases h
          exact ⟨⟨rfl, trivial⟩, rfl⟩
        · rw [ite_f hb4] at h
          rcases Bool.eq_false_or_eq_true (a0.Meet == a1.Meet) with hb5 | hb5
          · rw [ite_t hb5] at h
            try simp only [hb1, hb2, hb3, hb4, hb5, Nat.reduceBEq, Nat.reduceMul, Nat.reduceAdd, Nat.reduceDiv, Int.reduceBEq, rules2, rulesX, rowsX]
            cases h
            exact ⟨⟨rfl, trivial⟩, rfl⟩
          · rw [ite_f hb5] at h
            try simp only [hb1, hb2, hb3, hb4, hb5, Nat.reduceBEq, Nat.reduceMul, Nat.reduceAdd, Nat.reduceDiv, Int.reduceBEq, rules2, rulesX, rowsX]
            cases h
            exact ⟨⟨rfl, trivial⟩, rfl⟩
/- 68: laws_eqSegmentS -/
def c_laws_eqSegmentS_1 : ACode := .seq (.reg [(none, .keep [0, 1, 5] [] [])]) (.seq (.seq (.reg [(none, .mv 11 (S 5)), (none, .mv 12 (S 0)), (none, .len 13 (S 12)), (none, .bin 14 .lss (S 11) (S 13))]) (.cond (S 14) .skip (.exit 0))) (.seq (.block 1 (.seq (.drw [(some [], (none, .mv 17 (S 0))), (some [], (none, .mv 18 (S 5))), (some [], (none, .iaddr 19 (S 17) (S 18) 5)), (some [], (none, .load 20 (S 19) true 5)), (some [], (none, .mv 21 (S 1))), (some [], (none, .mv 22 (S 5))), (some [], (none, .iaddr 23 (S 21) (S 22) 5)), (some [], (none, .load 24 (S 23) true 5)), (some [], (none, .call 25 106 [(S 20), (S 24)])), (some [], (none, .un 26 .not (S 25)))]) (.cond (S 26) (.seq (.reg [(none, .mv 4 (KB false))]) .ret) .skip))) (.reg [(none, .mv 15 (S 5)), (none, .bin 16 .add (S 15) (K 1)), (none, .mv 5 (S 16))])))
def c_laws_eqSegmentS_n1 : ACode := (.seq (.reg [(none, .mv 4 (KB true))]) .ret)
def c_laws_eqSegmentS : ACode := (.seq (.reg [(none, .mv 4 (KB false))]) (.seq (.seq (.reg [(none, .mv 6 (S 0)), (none, .len 7 (S 6)), (none, .mv 8 (S 1)), (none, .len 9 (S 8)), (none, .bin 10 .neq (S 7) (S 9))]) (.cond (S 10) (.seq (.reg [(none, .mv 4 (KB false))]) .ret) .skip)) (.seq (.seq (.reg [(none, .mv 5 (K 0))]) (.block 0 (.loop c_laws_eqSegmentS_1))) c_laws_eqSegmentS_n1)))
theorem w_laws_eqSegmentS_1 (a0 : List XSegment) (a1 : List XSegment) : ∀ (n : Nat) (v2 : Int) (r : Bool), f_laws_eqSegmentS_1 a0 a1 n v2 = some r → ∀ σ : St, σ.kept [0, 1, 5] [] [] = ⟨[(0, vc (aL (List.map XSegment.row a0))), (1, vc (aL (List.map XSegment.row a1))), (5, vc (aI v2))], [], []⟩ → go Tryz.prog (.code (.loop c_laws_eqSegmentS_1) :: [.blk 0, .code c_laws_eqSegmentS_n1]) (Ret [4] [.sc (.v (.bool r))]) .normal (some σ) := by
  intro n
  induction n with
  | zero => intro _ r h; cases h
  | succ n ih =>
    intro v2 r h σ hσ
    rw [f_laws_eqSegmentS_1] at h
    refine go_round ?_
    rcases Bool.eq_false_or_eq_true (decide (v2 < (a0.length : Int))) with hb3 | hb3
    · rw [ite_t hb3] at h
      try simp only [hσ, hb3, c_laws_eqSegmentS_1, Nat.reduceBEq, Nat.reduceMul, Nat.reduceAdd, Nat.reduceDiv, Int.reduceBEq, rules2, rulesX, rowsX]
      refine go_fr_of rfl ?_
      obtain ⟨x4, hx4, h⟩ := ob h
      obtain ⟨x5, hx5, h⟩ := ob h
      obtain ⟨r6, hr6, h⟩ := ob h
      try simp only [hb3, hx4, hx5, Nat.reduceBEq, Nat.reduceMul, Nat.reduceAdd, Nat.reduceDiv, Int.reduceBEq, rules2, rulesX, rowsX]
      refine go_dcallI (w_laws_eqSegment _ _ _ hr6) rfl rfl (Nat.le_of_ble_eq_true rfl) ?_
      rcases Bool.eq_false_or_eq_true r6 with hb7 | hb7
      · rw [ite_t hb7] at h
        try simp only [hb3, hx4, hx5, hb7, Nat.reduceBEq, Nat.reduceMul, Nat.reduceAdd, Nat.reduceDiv, Int.reduceBEq, rules2, rulesX, rowsX]
        refine ih _ _ h _ ?_
        try simp only [hb3, hx4, hx5, hb7, Nat.reduceBEq, Nat.reduceMul, Nat.reduceAdd, Nat.reduceDiv, Int.reduceBEq, rules2, rulesX, rowsX, List.map_nil]
      · rw [ite_f hb7] at h
        try simp only [hb3, hx4, hx5, hb7, Nat.reduceBEq, Nat.reduceMul, Nat.reduceAdd, Nat.reduceDiv, Int.reduceBEq, rules2, rulesX, rowsX]
        cases h
        exact ⟨⟨rfl, trivial⟩, rfl⟩
    · rw [ite_f hb3] at h
      try simp only [hσ, hb3, c_laws_eqSegmentS_1, c_laws_eqSegmentS_n1, Nat.reduceBEq, Nat.reduceMul, Nat.reduceAdd, Nat.reduceDiv, Int.reduceBEq, rules2, rulesX, rowsX]
      cases h
      exact ⟨⟨rfl, trivial⟩, rfl⟩
theorem e_laws_eqSegmentS : entry Tryz.prog 68 = some (c_laws_eqSegmentS.strip, [4], 27) := by kernel_rfl
theorem w_laws_eqSegmentS (a0 : List XSegment) (a1 : List XSegment) (r : Bool) (h : f_laws_eqSegmentS a0 a1 = some r) : FC Tryz.prog 68 [.sc (.sl (List.map XSegment.row a0)), .sc (.sl (List.map XSegment.row a1))] [.sc (.v (.bool r))] := by
  unfold f_laws_eqSegmentS at h
  refine FC_go (σ := ⟨[(0, vc (aL (List.map XSegment.row a0))), (1, vc (aL (List.map XSegment.row a1)))], [], []⟩) mixed e_laws_eqSegmentS rfl rfl ?_
  simp only [c_laws_eqSegmentS]
  rcases Bool.eq_false_or_eq_true ((a0.length : Int) != (a1.length : Int)) with hb1 | hb1
  · rw [ite_t hb1] at h
    try simp only [hb1, Nat.reduceBEq, Nat.reduceMul, Nat.reduceAdd, Nat.reduceDiv, Int.reduceBEq, rules2, rulesX, rowsX]
    cases h
    exact ⟨⟨rfl, trivial⟩, rfl⟩
  · rw [ite_f hb1] at h
    try simp only [hb1, Nat.reduceBEq, Nat.reduceMul, Nat.reduceAdd, Nat.reduceDiv, Int.reduceBEq, rules2, rulesX, rowsX]
    refine w_laws_eqSegmentS_1 _ _ _ _ _ h _ ?_
    try simp only [hb1, Nat.reduceBEq, Nat.reduceMul, Nat.reduceAdd, Nat.reduceDiv, Int.reduceBEq, rules2, rulesX, rowsX, List.map_nil]
/- 34: laws_eqChart -/
def c_laws_eqChart : ACode := (.seq (.reg [(none, .box 2 (S 0)), (none, .box 3 (S 1)), (none, .mv 4 (KB false))]) (.seq (.seq (.reg [(none, .faddr 5 (S 2) 0), (none, .load 6 (S 5) false 1), (none, .faddr 7 (S 3) 0), (none, .load 8 (S 7) false 1), (none, .call 9 67 [(S 6), (S 8)]), (none, .un 10 .not (S 9))]) (.cond (S 10) (.seq (.reg [(none, .mv 4 (KB false))]) .ret) .skip)) (.seq (.seq (.reg [(none, .faddr 11 (S 2) 1), (none, .load 12 (S 11) false 1), (none, .faddr 13 (S 3) 1), (none, .load 14 (S 13) false 1), (none, .call 15 68 [(S 12), (S 14)]), (none, .un 16 .not (S 15))]) (.cond (S 16) (.seq (.reg [(none, .mv 4 (KB false))]) .ret) .skip)) (.seq (.reg [(none, .mv 4 (KB true))]) .ret))))
theorem e_laws_eqChart : entry Tryz.prog 34 = some (c_laws_eqChart.strip, [4], 17) := by kernel_rfl
theorem w_laws_eqChart (a0 : XChart) (a1 : XChart) (r : Bool) (h : f_laws_eqChart a0 a1 = some r) : FC Tryz.prog 34 [.ag (XChart.row a0), .ag (XChart.row a1)] [.sc (.v (.bool r))] := by
  unfold f_laws_eqChart at h
  refine FC_go (σ := ⟨[(0, va [aL (List.map XPoint.row a0.Points), aL (List.map XSegment.row a0.Segments)]), (1, va [aL (List.map XPoint.row a1.Points), aL (List.map XSegment.row a1.Segments)])], [], []⟩) mixed e_laws_eqChart rfl rfl ?_
  simp only [c_laws_eqChart]
  try simp only [Nat.reduceBEq, Nat.reduceMul, Nat.reduceAdd, Nat.reduceDiv, Int.reduceBEq, rules2, rulesX, rowsX]
  refine go_bx rfl rfl rfl ?_
  try simp only [Nat.reduceBEq, Nat.reduceMul, Nat.reduceAdd, Nat.reduceDiv, Int.reduceBEq, rules2, rulesX, rowsX]
  refine go_bx rfl rfl rfl ?_
  obtain ⟨r1, hr1, h⟩ := ob h
  try simp only [Nat.reduceBEq, Nat.reduceMul, Nat.reduceAdd, Nat.reduceDiv, Int.reduceBEq, rules2, rulesX, rowsX]
  refine go_callI (w_laws_eqPointS _ _ _ hr1) rfl rfl (Nat.le_of_ble_eq_true rfl) ?_
  rcases Bool.eq_false_or_eq_true r1 with hb2 | hb2
  · rw [ite_t hb2] at h
    obtain ⟨r3, hr3, h⟩ := ob h
    try simp only [hb2, Nat.reduceBEq, Nat.reduceMul, Nat.reduceAdd, Nat.reduceDiv, Int.reduceBEq, rules2, rulesX, rowsX]
    refine go_callI (w_laws_eqSegmentS _ _ _ hr3) rfl rfl (Nat.le_of_ble_eq_true rfl) ?_
    rcases Bool.eq_false_or_eq_true r3 with hb4 | hb4
    · rw [ite_t hb4] at h
      try simp only [hb2, hb4, Nat.reduceBEq, Nat.reduceMul, Nat.reduceAdd, Nat.reduceDiv, Int.reduceBEq, rules2, rulesX, rowsX]
      cases h
      exact ⟨⟨rfl, trivial⟩, rfl⟩
    · rw [ite_f hb4] at h
      try simp only [hb2, hb4, Nat.reduceBEq, Nat.reduceMul, Nat.reduceAdd, Nat.reduceDiv, Int.reduceBEq, rules2, rulesX, rowsX]
      cases h
      exact ⟨⟨rfl, trivial⟩, rfl⟩
  · rw [ite_f hb2] at h
    try simp only [hb2, Nat.reduceBEq, Nat.reduceMul, Nat.reduceAdd, Nat.reduceDiv, Int.reduceBEq, rules2, rulesX, rowsX]
    cases h
    exact ⟨⟨rfl, trivial⟩, rfl⟩
/- 69: laws_eqShip -/
def c_laws_eqShip : ACode := (.seq (.reg [(none, .box 2 (S 0)), (none, .box 3 (S 1)), (none, .mv 4 (KB false))]) (.seq (.seq (.reg [(none, .faddr 5 (S 2) 0), (none, .load 6 (S 5) false 1), (none, .faddr 7 (S 3) 0), (none, .load 8 (S 7) false 1), (none, .bin 9 .neq (S 6) (S 8))]) (.cond (S 9) (.seq (.reg [(none, .mv 4 (KB false))]) .ret) .skip)) (.seq (.seq (.reg [(none, .faddr 10 (S 2) 1), (none, .load 11 (S 10) false 1), (none, .faddr 12 (S 3) 1), (none, .load 13 (S 12) false 1), (none, .bin 14 .neq (S 11) (S 13))]) (.cond (S 14) (.seq (.reg [(none, .mv 4 (KB false))]) .ret) .skip)) (.seq (.seq (.reg [(none, .faddr 15 (S 2) 2), (none, .load 16 (S 15) false 1), (none, .faddr 17 (S 3) 2), (none, .load 18 (S 17) false 1), (none, .bin 19 .neq (S 16) (S 18))]) (.cond (S 19) (.seq (.reg [(none, .mv 4 (KB false))]) .ret) .skip)) (.seq (.seq (.reg [(none, .faddr 20 (S 2) 3), (none, .load 21 (S 20) false 1), (none, .faddr 22 (S 3) 3), (none, .load 23 (S 22) false 1), (none, .bin 24 .neq (S 21) (S 23))]) (.cond (S 24) (.seq (.reg [(none, .mv 4 (KB false))]) .ret) .skip)) (.seq (.seq (.reg [(none, .faddr 25 (S 2) 4), (none, .load 26 (S 25) false 1), (none, .faddr 27 (S 3) 4), (none, .load 28 (S 27) false 1), (none, .bin 29 .neq (S 26) (S 28))]) (.cond (S 29) (.seq (.reg [(none, .mv 4 (KB false))]) .ret) .skip)) (.seq (.seq (.reg [(none, .faddr 30 (S 2) 5), (none, .load 31 (S 30) false 1), (none, .faddr 32 (S 3) 5), (none, .load 33 (S 32) false 1), (none, .beq 34 true (S 31) (S 33))]) (.cond (S 34) (.seq (.reg [(none, .mv 4 (KB false))]) .ret) .skip)) (.seq (.reg [(none, .mv 4 (KB true))]) .ret))))))))
theorem e_laws_eqShip : entry Tryz.prog 69 = some (c_laws_eqShip.strip, [4], 35) := by kernel_rfl
theorem w_laws_eqShip (a0 : XShip) (a1 : XShip) (r : Bool) (h : f_laws_eqShip a0 a1 = some r) : FC Tryz.prog 69 [.ag (XShip.row a0), .ag (XShip.row a1)] [.sc (.v (.bool r))] := by
  unfold f_laws_eqShip at h
  refine FC_go (σ := ⟨[(0, va [aS a0.Name, aI a0.Length, aI a0.Draught, aI a0.Line, aI a0.Tugs, aB a0.Slow]), (1, va [aS a1.Name, aI a1.Length, aI a1.Draught, aI a1.Line, aI a1.Tugs, aB a1.Slow])], [], []⟩) mixed e_laws_eqShip rfl rfl ?_
  simp only [c_laws_eqShip]
  try simp only [Nat.reduceBEq, Nat.reduceMul, Nat.reduceAdd, Nat.reduceDiv, Int.reduceBEq, rules2, rulesX, rowsX]
  refine go_bx rfl rfl rfl ?_
  try simp only [Nat.reduceBEq, Nat.reduceMul, Nat.reduceAdd, Nat.reduceDiv, Int.reduceBEq, rules2, rulesX, rowsX]
  refine go_bx rfl rfl rfl ?_
  rcases Bool.eq_false_or_eq_true (a0.Name == a1.Name) with hb1 | hb1
  · rw [ite_t hb1] at h
    rcases Bool.eq_false_or_eq_true (a0.Length != a1.Length) with hb2 | hb2
    · rw [ite_t hb2] at h
      try simp only [hb1, hb2, Nat.reduceBEq, Nat.reduceMul, Nat.reduceAdd, Nat.reduceDiv, Int.reduceBEq, rules2, rulesX, rowsX]
      cases h
      exact ⟨⟨rfl, trivial⟩, rfl⟩
    · rw [ite_f hb2] at h
      rcases Bool.eq_false_or_eq_true (a0.Draught != a1.Draught) with hb3 | hb3
      · rw [ite_t hb3] at h
        try simp only [hb1, hb2, hb3, Nat.reduceBEq, Nat.reduceMul, Nat.reduceAdd, Nat.reduceDiv, Int.reduceBEq, rules2, rulesX, rowsX]
        cases h
        exact ⟨⟨rfl, trivial⟩, rfl⟩
      · rw [ite_f hb3] at h
        rcases Bool.eq_false_or_eq_true (a0.Line != a1.Line) with hb4 | hb4
        · rw [ite_t hb4] at h
          try simp only [hb1, hb2, hb3, hb4, Nat.reduceBEq, Nat.reduceMul, Nat.reduceAdd, Nat.reduceDiv, Int.reduceBEq, rules2, rulesX, rowsX]
          cases h
          exact ⟨⟨rfl, trivial⟩, rfl⟩
        · rw [ite_f hb4] at h
          rcases Bool.eq_false_or_eq_true (a0.Tugs != a1.Tugs) with hb5 | hb5
          · rw [ite_t hb5] at h
            try simp only [hb1, hb2, hb3, hb4, hb5, Nat.reduceBEq, Nat.reduceMul, Nat.reduceAdd, Nat.reduceDiv, Int.reduceBEq, rules2, rulesX, rowsX]
            cases h
            exact ⟨⟨rfl, trivial⟩, rfl⟩
          · rw [ite_f hb5] at h
            rcases Bool.eq_false_or_eq_true (a0.Slow == a1.Slow) with hb6 | hb6
            · rw [ite_t hb6] at h
              try simp only [hb1, hb2, hb3, hb4, hb5, hb6, Nat.reduceBEq, Nat.reduceMul, Nat.reduceAdd, Nat.reduceDiv, Int.reduceBEq, rules2, rulesX, rowsX]
              cases h
              exact ⟨⟨rfl, trivial⟩, rfl⟩
            · rw [ite_f hb6] at h
              try simp only [hb1, hb2, hb3, hb4, hb5, hb6, Nat.reduceBEq, Nat.reduceMul, Nat.reduceAdd, Nat.reduceDiv, Int.reduceBEq, rules2, rulesX, rowsX]
              cases h
              exact ⟨⟨rfl, trivial⟩, rfl⟩
  · rw [ite_f hb1] at h
    try simp only [hb1, Nat.reduceBEq, Nat.reduceMul, Nat.reduceAdd, Nat.reduceDiv, Int.reduceBEq, rules2, rulesX, rowsX]
    cases h
    exact ⟨⟨rfl, trivial⟩, rfl⟩
/- 35: laws_eqShipS -/
def c_laws_eqShipS_1 : ACode := .seq (.reg [(none, .keep [0, 1, 5] [] [])]) (.seq (.seq (.reg [(none, .mv 11 (S 5)), (none, .mv 12 (S 0)), (none, .len 13 (S 12)), (none, .bin 14 .lss (S 11) (S 13))]) (.cond (S 14) .skip (.exit 0))) (.seq (.block 1 (.seq (.drw [(some [], (none, .mv 17 (S 0))), (some [], (none, .mv 18 (S 5))), (some [], (none, .iaddr 19 (S 17) (S 18) 6)), (some [], (none, .load 20 (S 19) true 6)), (some [], (none, .mv 21 (S 1))), (some [], (none, .mv 22 (S 5))), (some [], (none, .iaddr 23 (S 21) (S 22) 6)), (some [], (none, .load 24 (S 23) true 6)), (some [], (none, .call 25 69 [(S 20), (S 24)])), (some [], (none, .un 26 .not (S 25)))]) (.cond (S 26) (.seq (.reg [(none, .mv 4 (KB false))]) .ret) .skip))) (.reg [(none, .mv 15 (S 5)), (none, .bin 16 .add (S 15) (K 1)), (none, .mv 5 (S 16))])))
def c_laws_eqShipS_n1 : ACode := (.seq (.reg [(none, .mv 4 (KB true))]) .ret)
def c_laws_eqShipS : ACode := (.seq (.reg [(none, .mv 4 (KB false))]) (.seq (.seq (.reg [(none, .mv 6 (S 0)), (none, .len 7 (S 6)), (none, .mv 8 (S 1)), (none, .len 9 (S 8)), (none, .bin 10 .neq (S 7) (S 9))]) (.cond (S 10) (.seq (.reg [(none, .mv 4 (KB false))]) .ret) .skip)) (.seq (.seq (.reg [(none, .mv 5 (K 0))]) (.block 0 (.loop c_laws_eqShipS_1))) c_laws_eqShipS_n1)))
theorem w_laws_eqShipS_1 (a0 : List XShip) (a1 : List XShip) : ∀ (n : Nat) (v2 : Int) (r : Bool), f_laws_eqShipS_1 a0 a1 n v2 = some r → ∀ σ : St, σ.kept [0, 1, 5] [] [] = ⟨[(0, vc (aL (List.map XShip.row a0))), (1, vc (aL (List.map XShip.row a1))), (5, vc (aI v2))], [], []⟩ → go Tryz.prog (.code (.loop c_laws_eqShipS_1) :: [.blk 0, .code c_laws_eqShipS_n1]) (Ret [4] [.sc (.v (.bool r))]) .normal (some σ) := by
  intro n
  induction n with
  | zero => intro _ r h; cases h
  | succ n ih =>
    intro v2 r h σ hσ
    rw [f_laws_eqShipS_1] at h
    refine go_round ?_
    rcases Bool.eq_false_or_eq_true (decide (v2 < (a0.length : Int))) with hb3 | hb3
    · rw [ite_t hb3] at h
      try simp only [hσ, hb3, c_laws_eqShipS_1, Nat.reduceBEq, Nat.reduceMul, Nat.reduceAdd, Nat.reduceDiv, Int.reduceBEq, rules2, rulesX, rowsX]
      refine go_fr_of rfl ?_
      obtain ⟨x4, hx4, h⟩ := ob h
      obtain ⟨x5, hx5, h⟩ := ob h
      obtain ⟨r6, hr6, h⟩ := ob h
      try simp only [hb3, hx4, hx5, Nat.reduceBEq, Nat.reduceMul, Nat.reduceAdd, Nat.reduceDiv, Int.reduceBEq, rules2, rulesX, rowsX]
      refine go_dcallI (w_laws_eqShip _ _ _ hr6) rfl rfl (Nat.le_of_ble_eq_true rfl) ?_
      rcases Bool.eq_false_or_eq_true r6 with hb7 | hb7
      · rw [ite_t hb7] at h
        try simp only [hb3, hx4, hx5, hb7, Nat.reduceBEq, Nat.reduceMul, Nat.reduceAdd, Nat.reduceDiv, Int.reduceBEq, rules2, rulesX, rowsX]
        refine ih _ _ h _ ?_
        try simp only [hb3, hx4, hx5, hb7, Nat.reduceBEq, Nat.reduceMul, Nat.reduceAdd, Nat.reduceDiv, Int.reduceBEq, rules2, rulesX, rowsX, List.map_nil]
      · rw [ite_f hb7] at h
        try simp only [hb3, hx4, hx5, hb7, Nat.reduceBEq, Nat.reduceMul, Nat.reduceAdd, Nat.reduceDiv, Int.reduceBEq, rules2, rulesX, rowsX]
        cases h
        exact ⟨⟨rfl, trivial⟩, rfl⟩
    · rw [ite_f hb3] at h
      try simp only [hσ, hb3, c_laws_eqShipS_1, c_laws_eqShipS_n1, Nat.reduceBEq, Nat.reduceMul, Nat.reduceAdd, Nat.reduceDiv, Int.reduceBEq, rules2, rulesX, rowsX]
      cases h
      exact ⟨⟨rfl, trivial⟩, rfl⟩
theorem e_laws_eqShipS : entry Tryz.prog 35 = some (c_laws_eqShipS.strip, [4], 27) := by kernel_rfl
theorem w_laws_eqShipS (a0 : List XShip) (a1 : List XShip) (r : Bool) (h : f_laws_eqShipS a0 a1 = some r) : FC Tryz.prog 35 [.sc (.sl (List.map XShip.row a0)), .sc (.sl (List.map XShip.row a1))] [.sc (.v (.bool r))] := by
  unfold f_laws_eqShipS at h
  refine FC_go (σ := ⟨[(0, vc (aL (List.map XShip.row a0))), (1, vc (aL (List.map XShip.row a1)))], [], []⟩) mixed e_laws_eqShipS rfl rfl ?_
  simp only [c_laws_eqShipS]
  rcases Bool.eq_false_or_eq_true ((a0.length : Int) != (a1.length : Int)) with hb1 | hb1
  · rw [ite_t hb1] at h
    try simp only [hb1, Nat.reduceBEq, Nat.reduceMul, Nat.reduceAdd, Nat.reduceDiv, Int.reduceBEq, rules2, rulesX, rowsX]
    cases h
    exact ⟨⟨rfl, trivial⟩, rfl⟩
  · rw [ite_f hb1] at h
    try simp only [hb1, Nat.reduceBEq, Nat.reduceMul, Nat.reduceAdd, Nat.reduceDiv, Int.reduceBEq, rules2, rulesX, rowsX]
    refine w_laws_eqShipS_1 _ _ _ _ _ h _ ?_
    try simp only [hb1, Nat.reduceBEq, Nat.reduceMul, Nat.reduceAdd, Nat.reduceDiv, Int.reduceBEq, rules2, rulesX, rowsX, List.map_nil]
/- 36: laws_eqRegime -/
def c_laws_eqRegime : ACode := (.seq (.reg [(none, .box 2 (S 0)), (none, .box 3 (S 1)), (none, .mv 4 (KB false))]) (.seq (.seq (.reg [(none, .faddr 5 (S 2) 0), (none, .load 6 (S 5) false 1), (none, .faddr 7 (S 3) 0), (none, .load 8 (S 7) false 1), (none, .bin 9 .neq (S 6) (S 8))]) (.cond (S 9) (.seq (.reg [(none, .mv 4 (KB false))]) .ret) .skip)) (.seq (.seq (.reg [(none, .faddr 10 (S 2) 1), (none, .load 11 (S 10) false 1), (none, .faddr 12 (S 3) 1), (none, .load 13 (S 12) false 1), (none, .beq 14 true (S 11) (S 13))]) (.cond (S 14) (.seq (.reg [(none, .mv 4 (KB false))]) .ret) .skip)) (.seq (.reg [(none, .mv 4 (KB true))]) .ret))))
theorem e_laws_eqRegime : entry Tryz.prog 36 = some (c_laws_eqRegime.strip, [4], 15) := by kernel_rfl
theorem w_laws_eqRegime (a0 : XRegime) (a1 : XRegime) (r : Bool) (h : f_laws_eqRegime a0 a1 = some r) : FC Tryz.prog 36 [.ag (XRegime.row a0), .ag (XRegime.row a1)] [.sc (.v (.bool r))] := by
  unfold f_laws_eqRegime at h
  refine FC_go (σ := ⟨[(0, va [aI a0.Gap, aB a0.NoMeet]), (1, va [aI a1.Gap, aB a1.NoMeet])], [], []⟩) mixed e_laws_eqRegime rfl rfl ?_
  simp only [c_laws_eqRegime]
  try simp only [Nat.reduceBEq, Nat.reduceMul, Nat.reduceAdd, Nat.reduceDiv, Int.reduceBEq, rules2, rulesX, rowsX]
  refine go_bx rfl rfl rfl ?_
  try simp only [Nat.reduceBEq, Nat.reduceMul, Nat.reduceAdd, Nat.reduceDiv, Int.reduceBEq, rules2, rulesX, rowsX]
  refine go_bx rfl rfl rfl ?_
  rcases Bool.eq_false_or_eq_true (a0.Gap != a1.Gap) with hb1 | hb1
  · rw [ite_t hb1] at h
    try simp only [hb1, Nat.reduceBEq, Nat.reduceMul, Nat.reduceAdd, Nat.reduceDiv, Int.reduceBEq, rules2, rulesX, rowsX]
    cases h
    exact ⟨⟨rfl, trivial⟩, rfl⟩
  · rw [ite_f hb1] at h
    rcases Bool.eq_false_or_eq_true (a0.NoMeet == a1.NoMeet) with hb2 | hb2
    · rw [ite_t hb2] at h
      try simp only [hb1, hb2, Nat.reduceBEq, Nat.reduceMul, Nat.reduceAdd, Nat.reduceDiv, Int.reduceBEq, rules2, rulesX, rowsX]
      cases h
      exact ⟨⟨rfl, trivial⟩, rfl⟩
    · rw [ite_f hb2] at h
      try simp only [hb1, hb2, Nat.reduceBEq, Nat.reduceMul, Nat.reduceAdd, Nat.reduceDiv, Int.reduceBEq, rules2, rulesX, rowsX]
      cases h
      exact ⟨⟨rfl, trivial⟩, rfl⟩
/- 15: laws_eqIntS -/
def c_laws_eqIntS_1 : ACode := .seq (.reg [(none, .keep [0, 1, 5] [] [])]) (.seq (.seq (.reg [(none, .mv 11 (S 5)), (none, .mv 12 (S 0)), (none, .len 13 (S 12)), (none, .bin 14 .lss (S 11) (S 13))]) (.cond (S 14) .skip (.exit 0))) (.seq (.block 1 (.seq (.drw [(some [], (none, .mv 17 (S 0))), (some [], (none, .mv 18 (S 5))), (some [], (none, .iaddr 19 (S 17) (S 18) 1)), (some [], (none, .load 20 (S 19) false 1)), (some [], (none, .mv 21 (S 1))), (some [], (none, .mv 22 (S 5))), (some [], (none, .iaddr 23 (S 21) (S 22) 1)), (some [], (none, .load 24 (S 23) false 1)), (some [], (none, .bin 25 .neq (S 20) (S 24)))]) (.cond (S 25) (.seq (.reg [(none, .mv 4 (KB false))]) .ret) .skip))) (.reg [(none, .mv 15 (S 5)), (none, .bin 16 .add (S 15) (K 1)), (none, .mv 5 (S 16))])))
def c_laws_eqIntS_n1 : ACode := (.seq (.reg [(none, .mv 4 (KB true))]) .ret)
def c_laws_eqIntS : ACode := (.seq (.reg [(none, .mv 4 (KB false))]) (.seq (.seq (.reg [(none, .mv 6 (S 0)), (none, .len 7 (S 6)), (none, .mv 8 (S 1)), (none, .len 9 (S 8)), (none, .bin 10 .neq (S 7) (S 9))]) (.cond (S 10) (.seq (.reg [(none, .mv 4 (KB false))]) .ret) .skip)) (.seq (.seq (.reg [(none, .mv 5 (K 0))]) (.block 0 (.loop c_laws_eqIntS_1))) c_laws_eqIntS_n1)))
theorem w_laws_eqIntS_1 (a0 : List Int) (a1 : List Int) : ∀ (n : Nat) (v2 : Int) (r : Bool), f_laws_eqIntS_1 a0 a1 n v2 = some r → ∀ σ : St, σ.kept [0, 1, 5] [] [] = ⟨[(0, vc (aL (List.map rI a0))), (1, vc (aL (List.map rI a1))), (5, vc (aI v2))], [], []⟩ → go Tryz.prog (.code (.loop c_laws_eqIntS_1) :: [.blk 0, .code c_laws_eqIntS_n1]) (Ret [4] [.sc (.v (.bool r))]) .normal (some σ) := by
  intro n
  induction n with
  | zero => intro _ r h; cases h
  | succ n ih =>
    intro v2 r h σ hσ
    rw [f_laws_eqIntS_1] at h
    refine go_round ?_
    rcases Bool.eq_false_or_eq_true (decide (v2 < (a0.length : Int))) with hb3 | hb3
    · rw [ite_t hb3] at h
      try simp only [hσ, hb3, c_laws_eqIntS_1, Nat.reduceBEq, Nat.reduceMul, Nat.reduceAdd, Nat.reduceDiv, Int.reduceBEq, rules2, rulesX, rowsX]
      refine go_fr_of rfl ?_
      obtain ⟨x4, hx4, h⟩ := ob h
      obtain ⟨x5, hx5, h⟩ := ob h
      rcases Bool.eq_false_or_eq_true (x4 != x5) with hb6 | hb6
      · rw [ite_t hb6] at h
        try simp only [hb3, hx4, hx5, hb6, Nat.reduceBEq, Nat.reduceMul, Nat.reduceAdd, Nat.reduceDiv, Int.reduceBEq, rules2, rulesX, rowsX]
        cases h
        exact ⟨⟨rfl, trivial⟩, rfl⟩
      · rw [ite_f hb6] at h
        try simp only [hb3, hx4, hx5, hb6, Nat.reduceBEq, Nat.reduceMul, Nat.reduceAdd, Nat.reduceDiv, Int.reduceBEq, rules2, rulesX, rowsX]
        refine ih _ _ h _ ?_
        try simp only [hb3, hx4, hx5, hb6, Nat.reduceBEq, Nat.reduceMul, Nat.reduceAdd, Nat.reduceDiv, Int.reduceBEq, rules2, rulesX, rowsX, List.map_nil]
    · rw [ite_f hb3] at h
      try simp only [hσ, hb3, c_laws_eqIntS_1, c_laws_eqIntS_n1, Nat.reduceBEq, Nat.reduceMul, Nat.reduceAdd, Nat.reduceDiv, Int.reduceBEq, rules2, rulesX, rowsX]
      cases h
      exact ⟨⟨rfl, trivial⟩, rfl⟩
theorem e_laws_eqIntS : entry Tryz.prog 15 = some (c_laws_eqIntS.strip, [4], 26) := by kernel_rfl
theorem w_laws_eqIntS (a0 : List Int) (a1 : List Int) (r : Bool) (h : f_laws_eqIntS a0 a1 = some r) : FC Tryz.prog 15 [.sc (.sl (List.map rI a0)), .sc (.sl (List.map rI a1))] [.sc (.v (.bool r))] := by
  unfold f_laws_eqIntS at h
  refine FC_go (σ := ⟨[(0, vc (aL (List.map rI a0))), (1, vc (aL (List.map rI a1)))], [], []⟩) mixed e_laws_eqIntS rfl rfl ?_
  simp only [c_laws_eqIntS]
  rcases Bool.eq_false_or_eq_true ((a0.length : Int) != (a1.length : Int)) with hb1 | hb1
  · rw [ite_t hb1] at h
    try simp only [hb1, Nat.reduceBEq, Nat.reduceMul, Nat.reduceAdd, Nat.reduceDiv, Int.reduceBEq, rules2, rulesX, rowsX]
    cases h
    exact ⟨⟨rfl, trivial⟩, rfl⟩
  · rw [ite_f hb1] at h
    try simp only [hb1, Nat.reduceBEq, Nat.reduceMul, Nat.reduceAdd, Nat.reduceDiv, Int.reduceBEq, rules2, rulesX, rowsX]
    refine w_laws_eqIntS_1 _ _ _ _ _ h _ ?_
    try simp only [hb1, Nat.reduceBEq, Nat.reduceMul, Nat.reduceAdd, Nat.reduceDiv, Int.reduceBEq, rules2, rulesX, rowsX, List.map_nil]
/- 37: laws_eqCrew -/
def c_laws_eqCrew : ACode := (.seq (.reg [(none, .box 2 (S 0)), (none, .box 3 (S 1)), (none, .mv 4 (KB false))]) (.seq (.seq (.reg [(none, .faddr 5 (S 2) 0), (none, .load 6 (S 5) false 1), (none, .faddr 7 (S 3) 0), (none, .load 8 (S 7) false 1), (none, .bin 9 .neq (S 6) (S 8))]) (.cond (S 9) (.seq (.reg [(none, .mv 4 (KB false))]) .ret) .skip)) (.seq (.seq (.reg [(none, .faddr 10 (S 2) 1), (none, .load 11 (S 10) false 1), (none, .faddr 12 (S 3) 1), (none, .load 13 (S 12) false 1), (none, .bin 14 .neq (S 11) (S 13))]) (.cond (S 14) (.seq (.reg [(none, .mv 4 (KB false))]) .ret) .skip)) (.seq (.seq (.reg [(none, .faddr 15 (S 2) 2), (none, .load 16 (S 15) false 1), (none, .faddr 17 (S 3) 2), (none, .load 18 (S 17) false 1), (none, .bin 19 .neq (S 16) (S 18))]) (.cond (S 19) (.seq (.reg [(none, .mv 4 (KB false))]) .ret) .skip)) (.seq (.seq (.reg [(none, .faddr 20 (S 2) 3), (none, .load 21 (S 20) false 1), (none, .faddr 22 (S 3) 3), (none, .load 23 (S 22) false 1), (none, .call 24 15 [(S 21), (S 23)]), (none, .un 25 .not (S 24))]) (.cond (S 25) (.seq (.reg [(none, .mv 4 (KB false))]) .ret) .skip)) (.seq (.reg [(none, .mv 4 (KB true))]) .ret))))))
theorem e_laws_eqCrew : entry Tryz.prog 37 = some (c_laws_eqCrew.strip, [4], 26) := by kernel_rfl
theorem w_laws_eqCrew (a0 : XCrew) (a1 : XCrew) (r : Bool) (h : f_laws_eqCrew a0 a1 = some r) : FC Tryz.prog 37 [.ag (XCrew.row a0), .ag (XCrew.row a1)] [.sc (.v (.bool r))] := by
  unfold f_laws_eqCrew at h
  refine FC_go (σ := ⟨[(0, va [aI a0.Tugs, aI a0.Pilots, aI a0.Rest, aL (List.map rI a0.Moves)]), (1, va [aI a1.Tugs, aI a1.Pilots, aI a1.Rest, aL (List.map rI a1.Moves)])], [], []⟩) mixed e_laws_eqCrew rfl rfl ?_
  simp only [c_laws_eqCrew]
  try simp only [Nat.reduceBEq, Nat.reduceMul, Nat.reduceAdd, Nat.reduceDiv, Int.reduceBEq, rules2, rulesX, rowsX]
  refine go_bx rfl rfl rfl ?_
  try simp only [Nat.reduceBEq, Nat.reduceMul, Nat.reduceAdd, Nat.reduceDiv, Int.reduceBEq, rules2, rulesX, rowsX]
  refine go_bx rfl rfl rfl ?_
  rcases Bool.eq_false_or_eq_true (a0.Tugs != a1.Tugs) with hb1 | hb1
  · rw [ite_t hb1] at h
    try simp only [hb1, Nat.reduceBEq, Nat.reduceMul, Nat.reduceAdd, Nat.reduceDiv, Int.reduceBEq, rules2, rulesX, rowsX]
    cases h
    exact ⟨⟨rfl, trivial⟩, rfl⟩
  · rw [ite_f hb1] at h
    rcases Bool.eq_false_or_eq_true (a0.Pilots != a1.Pilots) with hb2 | hb2
    · rw [ite_t hb2] at h
      try simp only [hb1, hb2, Nat.reduceBEq, Nat.reduceMul, Nat.reduceAdd, Nat.reduceDiv, Int.reduceBEq, rules2, rulesX, rowsX]
      cases h
      exact ⟨⟨rfl, trivial⟩, rfl⟩
    · rw [ite_f hb2] at h
      rcases Bool.eq_false_or_eq_true (a0.Rest != a1.Rest) with hb3 | hb3
      · rw [ite_t hb3] at h
        try simp only [hb1, hb2, hb3, Nat.reduceBEq, Nat.reduceMul, Nat.reduceAdd, Nat.reduceDiv, Int.reduceBEq, rules2, rulesX, rowsX]
        cases h
        exact ⟨⟨rfl, trivial⟩, rfl⟩
      · rw [ite_f hb3] at h
        obtain ⟨r4, hr4, h⟩ := ob h
        try simp only [hb1, hb2, hb3, Nat.reduceBEq, Nat.reduceMul, Nat.reduceAdd, Nat.reduceDiv, Int.reduceBEq, rules2, rulesX, rowsX]
        refine go_callI (w_laws_eqIntS _ _ _ hr4) rfl rfl (Nat.le_of_ble_eq_true rfl) ?_
        rcases Bool.eq_false_or_eq_true r4 with hb5 | hb5
        · rw [ite_t hb5] at h
          try simp only [hb1, hb2, hb3, hb5, Nat.reduceBEq, Nat.reduceMul, Nat.reduceAdd, Nat.reduceDiv, Int.reduceBEq, rules2, rulesX, rowsX]
          cases h
          exact ⟨⟨rfl, trivial⟩, rfl⟩
        · rw [ite_f hb5] at h
          try simp only [hb1, hb2, hb3, hb5, Nat.reduceBEq, Nat.reduceMul, Nat.reduceAdd, Nat.reduceDiv, Int.reduceBEq, rules2, rulesX, rowsX]
          cases h
          exact ⟨⟨rfl, trivial⟩, rfl⟩
/- 13: laws_eqHarbour -/
def c_laws_eqHarbour : ACode := (.seq (.reg [(none, .box 2 (S 0)), (none, .box 3 (S 1)), (none, .mv 4 (KB false))]) (.seq (.seq (.reg [(none, .faddr 5 (S 2) 0), (none, .load 6 (S 5) true 3), (none, .faddr 7 (S 3) 0), (none, .load 8 (S 7) true 3), (none, .call 9 33 [(S 6), (S 8)]), (none, .un 10 .not (S 9))]) (.cond (S 10) (.seq (.reg [(none, .mv 4 (KB false))]) .ret) .skip)) (.seq (.seq (.reg [(none, .faddr 11 (S 2) 3), (none, .load 12 (S 11) true 2), (none, .faddr 13 (S 3) 3), (none, .load 14 (S 13) true 2), (none, .call 15 34 [(S 12), (S 14)]), (none, .un 16 .not (S 15))]) (.cond (S 16) (.seq (.reg [(none, .mv 4 (KB false))]) .ret) .skip)) (.seq (.seq (.reg [(none, .faddr 17 (S 2) 5), (none, .load 18 (S 17) false 1), (none, .faddr 19 (S 3) 5), (none, .load 20 (S 19) false 1), (none, .call 21 35 [(S 18), (S 20)]), (none, .un 22 .not (S 21))]) (.cond (S 22) (.seq (.reg [(none, .mv 4 (KB false))]) .ret) .skip)) (.seq (.seq (.reg [(none, .faddr 23 (S 2) 6), (none, .load 24 (S 23) true 2), (none, .faddr 25 (S 3) 6), (none, .load 26 (S 25) true 2), (none, .call 27 36 [(S 24), (S 26)]), (none, .un 28 .not (S 27))]) (.cond (S 28) (.seq (.reg [(none, .mv 4 (KB false))]) .ret) .skip)) (.seq (.seq (.reg [(none, .faddr 29 (S 2) 8), (none, .load 30 (S 29) true 4), (none, .faddr 31 (S 3) 8), (none, .load 32 (S 31) true 4), (none, .call 33 37 [(S 30), (S 32)]), (none, .un 34 .not (S 33))]) (.cond (S 34) (.seq (.reg [(none, .mv 4 (KB false))]) .ret) .skip)) (.seq (.reg [(none, .mv 4 (KB true))]) .ret)))))))
theorem e_laws_eqHarbour : entry Tryz.prog 13 = some (c_laws_eqHarbour.strip, [4], 35) := by kernel_rfl
theorem w_laws_eqHarbour (a0 : XHarbour) (a1 : XHarbour) (r : Bool) (h : f_laws_eqHarbour a0 a1 = some r) : FC Tryz.prog 13 [.ag (XHarbour.row a0), .ag (XHarbour.row a1)] [.sc (.v (.bool r))] := by
  unfold f_laws_eqHarbour at h
  refine FC_go (σ := ⟨[(0, va [aI a0.Forecast.Tide.Mean, aL (List.map XPart.row a0.Forecast.Tide.Parts), aL (List.map XSurge.row a0.Forecast.Surges), aL (List.map XPoint.row a0.Chart.Points), aL (List.map XSegment.row a0.Chart.Segments), aL (List.map XShip.row a0.Fleet), aI a0.Regime.Gap, aB a0.Regime.NoMeet, aI a0.Crew.Tugs, aI a0.Crew.Pilots, aI a0.Crew.Rest, aL (List.map rI a0.Crew.Moves)]), (1, va [aI a1.Forecast.Tide.Mean, aL (List.map XPart.row a1.Forecast.Tide.Parts), aL (List.map XSurge.row a1.Forecast.Surges), aL (List.map XPoint.row a1.Chart.Points), aL (List.map XSegment.row a1.Chart.Segments), aL (List.map XShip.row a1.Fleet), aI a1.Regime.Gap, aB a1.Regime.NoMeet, aI a1.Crew.Tugs, aI a1.Crew.Pilots, aI a1.Crew.Rest, aL (List.map rI a1.Crew.Moves)])], [], []⟩) mixed e_laws_eqHarbour rfl rfl ?_
  simp only [c_laws_eqHarbour]
  try simp only [Nat.reduceBEq, Nat.reduceMul, Nat.reduceAdd, Nat.reduceDiv, Int.reduceBEq, rules2, rulesX, rowsX]
  refine go_bx rfl rfl rfl ?_
  try simp only [Nat.reduceBEq, Nat.reduceMul, Nat.reduceAdd, Nat.reduceDiv, Int.reduceBEq, rules2, rulesX, rowsX]
  refine go_bx rfl rfl rfl ?_
  obtain ⟨r1, hr1, h⟩ := ob h
  try simp only [Nat.reduceBEq, Nat.reduceMul, Nat.reduceAdd, Nat.reduceDiv, Int.reduceBEq, rules2, rulesX, rowsX]
  refine go_callI (w_laws_eqForecast _ _ _ hr1) rfl rfl (Nat.le_of_ble_eq_true rfl) ?_
  rcases Bool.eq_false_or_eq_true r1 with hb2 | hb2
  · rw [ite_t hb2] at h
    obtain ⟨r3, hr3, h⟩ := ob h
    try simp only [hb2, Nat.reduceBEq, Nat.reduceMul, Nat.reduceAdd, Nat.reduceDiv, Int.reduceBEq, rules2, rulesX, rowsX]
    refine go_callI (w_laws_eqChart _ _ _ hr3) rfl rfl (Nat.le_of_ble_eq_true rfl) ?_
    rcases Bool.eq_false_or_eq_true r3 with hb4 | hb4
    · rw [ite_t hb4] at h
      obtain ⟨r5, hr5, h⟩ := ob h
      try simp only [hb2, hb4, Nat.reduceBEq, Nat.reduceMul, Nat.reduceAdd, Nat.reduceDiv, Int.reduceBEq, rules2, rulesX, rowsX]
      refine go_callI (w_laws_eqShipS _ _ _ hr5) rfl rfl (Nat.le_of_ble_eq_true rfl) ?_
      rcases Bool.eq_false_or_eq_true r5 with hb6 | hb6
      · rw [ite_t hb6] at h
        obtain ⟨r7, hr7, h⟩ := ob h
        try simp only [hb2, hb4, hb6, Nat.reduceBEq, Nat.reduceMul, Nat.reduceAdd, Nat.reduceDiv, Int.reduceBEq, rules2, rulesX, rowsX]
        refine go_callI (w_laws_eqRegime _ _ _ hr7) rfl rfl (Nat.le_of_ble_eq_true rfl) ?_
        rcases Bool.eq_false_or_eq_true r7 with hb8 | hb8
        · rw [ite_t hb8] at h
          obtain ⟨r9, hr9, h⟩ := ob h
          try simp only [hb2, hb4, hb6, hb8, Nat.reduceBEq, Nat.reduceMul, Nat.reduceAdd, Nat.reduceDiv, Int.reduceBEq, rules2, rulesX, rowsX]
          refine go_callI (w_laws_eqCrew _ _ _ hr9) rfl rfl (Nat.le_of_ble_eq_true rfl) ?_
          rcases Bool.eq_false_or_eq_true r9 with hb10 | hb10
          · rw [ite_t hb10] at h
            try simp only [hb2, hb4, hb6, hb8, hb10, Nat.reduceBEq, Nat.reduceMul, Nat.reduceAdd, Nat.reduceDiv, Int.reduceBEq, rules2, rulesX, rowsX]
            cases h
            exact ⟨⟨rfl, trivial⟩, rfl⟩
          · rw [ite_f hb10] at h
            try simp only [hb2, hb4, hb6, hb8, hb10, Nat.reduceBEq, Nat.reduceMul, Nat.reduceAdd, Nat.reduceDiv, Int.reduceBEq, rules2, rulesX, rowsX]
            cases h
            exact ⟨⟨rfl, trivial⟩, rfl⟩
        · rw [ite_f hb8] at h
          try simp only [hb2, hb4, hb6, hb8, Nat.reduceBEq, Nat.reduceMul, Nat.reduceAdd, Nat.reduceDiv, Int.reduceBEq, rules2, rulesX, rowsX]
          cases h
          exact ⟨⟨rfl, trivial⟩, rfl⟩
      · rw [ite_f hb6] at h
        try simp only [hb2, hb4, hb6, Nat.reduceBEq, Nat.reduceMul, Nat.reduceAdd, Nat.reduceDiv, Int.reduceBEq, rules2, rulesX, rowsX]
        cases h
        exact ⟨⟨rfl, trivial⟩, rfl⟩
    · rw [ite_f hb4] at h
      try simp only [hb2, hb4, Nat.reduceBEq, Nat.reduceMul, Nat.reduceAdd, Nat.reduceDiv, Int.reduceBEq, rules2, rulesX, rowsX]
      cases h
      exact ⟨⟨rfl, trivial⟩, rfl⟩
  · rw [ite_f hb2] at h
    try simp only [hb2, Nat.reduceBEq, Nat.reduceMul, Nat.reduceAdd, Nat.reduceDiv, Int.reduceBEq, rules2, rulesX, rowsX]
    cases h
    exact ⟨⟨rfl, trivial⟩, rfl⟩
/- 107: laws_eqPassage -/
def c_laws_eqPassage : ACode := (.seq (.reg [(none, .box 2 (S 0)), (none, .box 3 (S 1)), (none, .mv 4 (KB false))]) (.seq (.seq (.reg [(none, .faddr 5 (S 2) 0), (none, .load 6 (S 5) false 1), (none, .faddr 7 (S 3) 0), (none, .load 8 (S 7) false 1), (none, .bin 9 .neq (S 6) (S 8))]) (.cond (S 9) (.seq (.reg [(none, .mv 4 (KB false))]) .ret) .skip)) (.seq (.seq (.reg [(none, .faddr 10 (S 2) 1), (none, .load 11 (S 10) false 1), (none, .faddr 12 (S 3) 1), (none, .load 13 (S 12) false 1), (none, .bin 14 .neq (S 11) (S 13))]) (.cond (S 14) (.seq (.reg [(none, .mv 4 (KB false))]) .ret) .skip)) (.seq (.seq (.reg [(none, .faddr 15 (S 2) 2), (none, .load 16 (S 15) false 1), (none, .faddr 17 (S 3) 2), (none, .load 18 (S 17) false 1), (none, .beq 19 true (S 16) (S 18))]) (.cond (S 19) (.seq (.reg [(none, .mv 4 (KB false))]) .ret) .skip)) (.seq (.seq (.reg [(none, .faddr 20 (S 2) 3), (none, .load 21 (S 20) false 1), (none, .faddr 22 (S 3) 3), (none, .load 23 (S 22) false 1), (none, .bin 24 .neq (S 21) (S 23))]) (.cond (S 24) (.seq (.reg [(none, .mv 4 (KB false))]) .ret) .skip)) (.seq (.seq (.reg [(none, .faddr 25 (S 2) 4), (none, .load 26 (S 25) false 1), (none, .faddr 27 (S 3) 4), (none, .load 28 (S 27) false 1), (none, .bin 29 .neq (S 26) (S 28))]) (.cond (S 29) (.seq (.reg [(none, .mv 4 (KB false))]) .ret) .skip)) (.seq (.reg [(none, .mv 4 (KB true))]) .ret)))))))
theorem e_laws_eqPassage : entry Tryz.prog 107 = some (c_laws_eqPassage.strip, [4], 30) := by kernel_rfl
theorem w_laws_eqPassage (a0 : XPassage) (a1 : XPassage) (r : Bool) (h : f_laws_eqPassage a0 a1 = some r) : FC Tryz.prog 107 [.ag (XPassage.row a0), .ag (XPassage.row a1)] [.sc (.v (.bool r))] := by
  unfold f_laws_eqPassage at h
  refine FC_go (σ := ⟨[(0, va [aI a0.Ship, aI a0.Segment, aB a0.Toward, aI a0.Start, aI a0.End]), (1, va [aI a1.Ship, aI a1.Segment, aB a1.Toward, aI a1.Start, aI a1.End])], [], []⟩) mixed e_laws_eqPassage rfl rfl ?_
  simp only [c_laws_eqPassage]
  try simp only [Nat.reduceBEq, Nat.reduceMul, Nat.reduceAdd, Nat.reduceDiv, Int.reduceBEq, rules2, rulesX, rowsX]
  refine go_bx rfl rfl rfl ?_
  try simp only [Nat.reduceBEq, Nat.reduceMul, Nat.reduceAdd, Nat.reduceDiv, Int.reduceBEq, rules2, rulesX, rowsX]
  refine go_bx rfl rfl rfl ?_
  rcases Bool.eq_false_or_eq_true (a0.Ship != a1.Ship) with hb1 | hb1
  · rw [ite_t hb1] at h
    try simp only [hb1, Nat.reduceBEq, Nat.reduceMul, Nat.reduceAdd, Nat.reduceDiv, Int.reduceBEq, rules2, rulesX, rowsX]
    cases h
    exact ⟨⟨rfl, trivial⟩, rfl⟩
  · rw [ite_f hb1] at h
    rcases Bool.eq_false_or_eq_true (a0.Segment != a1.Segment) with hb2 | hb2
    · rw [ite_t hb2] at h
      try simp only [hb1, hb2, Nat.reduceBEq, Nat.reduceMul, Nat.reduceAdd, Nat.reduceDiv, Int.reduceBEq, rules2, rulesX, rowsX]
      cases h
      exact ⟨⟨rfl, trivial⟩, rfl⟩
    · rw [ite_f hb2] at h
      rcases Bool.eq_false_or_eq_true (a0.Toward == a1.Toward) with hb3 | hb3
      · rw [ite_t hb3] at h
        rcases Bool.eq_false_or_eq_true (a0.Start != a1.Start) with hb4 | hb4
        · rw [ite_t hb4] at h
          try simp only [hb1, hb2, hb3, hb4, Nat.reduceBEq, Nat.reduceMul, Nat.reduceAdd, Nat.reduceDiv, Int.reduceBEq, rules2, rulesX, rowsX]
          cases h
          exact ⟨⟨rfl, trivial⟩, rfl⟩
        · rw [ite_f hb4] at h
          rcases Bool.eq_false_or_eq_true (a0.End != a1.End) with hb5 | hb5
          · rw [ite_t hb5] at h
            try simp only [hb1, hb2, hb3, hb4, hb5, Nat.reduceBEq, Nat.reduceMul, Nat.reduceAdd, Nat.reduceDiv, Int.reduceBEq, rules2, rulesX, rowsX]
            cases h
            exact ⟨⟨rfl, trivial⟩, rfl⟩
          · rw [ite_f hb5] at h
            try simp only [hb1, hb2, hb3, hb4, hb5, Nat.reduceBEq, Nat.reduceMul, Nat.reduceAdd, Nat.reduceDiv, Int.reduceBEq, rules2, rulesX, rowsX]
            cases h
            exact ⟨⟨rfl, trivial⟩, rfl⟩
      · rw [ite_f hb3] at h
        try simp only [hb1, hb2, hb3, Nat.reduceBEq, Nat.reduceMul, Nat.reduceAdd, Nat.reduceDiv, Int.reduceBEq, rules2, rulesX, rowsX]
        cases h
        exact ⟨⟨rfl, trivial⟩, rfl⟩
/- 70: laws_eqPassageS -/
def c_laws_eqPassageS_1 : ACode := .seq (.reg [(none, .keep [0, 1, 5] [] [])]) (.seq (.seq (.reg [(none, .mv 11 (S 5)), (none, .mv 12 (S 0)), (none, .len 13 (S 12)), (none, .bin 14 .lss (S 11) (S 13))]) (.cond (S 14) .skip (.exit 0))) (.seq (.block 1 (.seq (.drw [(some [], (none, .mv 17 (S 0))), (some [], (none, .mv 18 (S 5))), (some [], (none, .iaddr 19 (S 17) (S 18) 5)), (some [], (none, .load 20 (S 19) true 5)), (some [], (none, .mv 21 (S 1))), (some [], (none, .mv 22 (S 5))), (some [], (none, .iaddr 23 (S 21) (S 22) 5)), (some [], (none, .load 24 (S 23) true 5)), (some [], (none, .call 25 107 [(S 20), (S 24)])), (some [], (none, .un 26 .not (S 25)))]) (.cond (S 26) (.seq (.reg [(none, .mv 4 (KB false))]) .ret) .skip))) (.reg [(none, .mv 15 (S 5)), (none, .bin 16 .add (S 15) (K 1)), (none, .mv 5 (S 16))])))
def c_laws_eqPassageS_n1 : ACode := (.seq (.reg [(none, .mv 4 (KB true))]) .ret)
def c_laws_eqPassageS : ACode := (.seq (.reg [(none, .mv 4 (KB false))]) (.seq (.seq (.reg [(none, .mv 6 (S 0)), (none, .len 7 (S 6)), (none, .mv 8 (S 1)), (none, .len 9 (S 8)), (none, .bin 10 .neq (S 7) (S 9))]) (.cond (S 10) (.seq (.reg [(none, .mv 4 (KB false))]) .ret) .skip)) (.seq (.seq (.reg [(none, .mv 5 (K 0))]) (.block 0 (.loop c_laws_eqPassageS_1))) c_laws_eqPassageS_n1)))
theorem w_laws_eqPassageS_1 (a0 : List XPassage) (a1 : List XPassage) : ∀ (n : Nat) (v2 : Int) (r : Bool), f_laws_eqPassageS_1 a0 a1 n v2 = some r → ∀ σ : St, σ.kept [0, 1, 5] [] [] = ⟨[(0, vc (aL (List.map XPassage.row a0))), (1, vc (aL (List.map XPassage.row a1))), (5, vc (aI v2))], [], []⟩ → go Tryz.prog (.code (.loop c_laws_eqPassageS_1) :: [.blk 0, .code c_laws_eqPassageS_n1]) (Ret [4] [.sc (.v (.bool r))]) .normal (some σ) := by
  intro n
  induction n with
  | zero => intro _ r h; cases h
  | succ n ih =>
    intro v2 r h σ hσ
    rw [f_laws_eqPassageS_1] at h
    refine go_round ?_
    rcases Bool.eq_false_or_eq_true (decide (v2 < (a0.length : Int))) with hb3 | hb3
    · rw [ite_t hb3] at h
      try simp only [hσ, hb3, c_laws_eqPassageS_1, Nat.reduceBEq, Nat.reduceMul, Nat.reduceAdd, Nat.reduceDiv, Int.reduceBEq, rules2, rulesX, rowsX]
      refine go_fr_of rfl ?_
      obtain ⟨x4, hx4, h⟩ := ob h
      obtain ⟨x5, hx5, h⟩ := ob h
      obtain ⟨r6, hr6, h⟩ := ob h
      try simp only [hb3, hx4, hx5, Nat.reduceBEq, Nat.reduceMul, Nat.reduceAdd, Nat.reduceDiv, Int.reduceBEq, rules2, rulesX, rowsX]
      refine go_dcallI (w_laws_eqPassage _ _ _ hr6) rfl rfl (Nat.le_of_ble_eq_true rfl) ?_
      rcases Bool.eq_false_or_eq_true r6 with hb7 | hb7
      · rw [ite_t hb7] at h
        try simp only [hb3, hx4, hx5, hb7, Nat.reduceBEq, Nat.reduceMul, Nat.reduceAdd, Nat.reduceDiv, Int.reduceBEq, rules2, rulesX, rowsX]
        refine ih _ _ h _ ?_
        try simp only [hb3, hx4, hx5, hb7, Nat.reduceBEq, Nat.reduceMul, Nat.reduceAdd, Nat.reduceDiv, Int.reduceBEq, rules2, rulesX, rowsX, List.map_nil]
      · rw [ite_f hb7] at h
        try simp only [hb3, hx4, hx5, hb7, Nat.reduceBEq, Nat.reduceMul, Nat.reduceAdd, Nat.reduceDiv, Int.reduceBEq, rules2, rulesX, rowsX]
        cases h
        exact ⟨⟨rfl, trivial⟩, rfl⟩
    · rw [ite_f hb3] at h
      try simp only [hσ, hb3, c_laws_eqPassageS_1, c_laws_eqPassageS_n1, Nat.reduceBEq, Nat.reduceMul, Nat.reduceAdd, Nat.reduceDiv, Int.reduceBEq, rules2, rulesX, rowsX]
      cases h
      exact ⟨⟨rfl, trivial⟩, rfl⟩
theorem e_laws_eqPassageS : entry Tryz.prog 70 = some (c_laws_eqPassageS.strip, [4], 27) := by kernel_rfl
theorem w_laws_eqPassageS (a0 : List XPassage) (a1 : List XPassage) (r : Bool) (h : f_laws_eqPassageS a0 a1 = some r) : FC Tryz.prog 70 [.sc (.sl (List.map XPassage.row a0)), .sc (.sl (List.map XPassage.row a1))] [.sc (.v (.bool r))] := by
  unfold f_laws_eqPassageS at h
  refine FC_go (σ := ⟨[(0, vc (aL (List.map XPassage.row a0))), (1, vc (aL (List.map XPassage.row a1)))], [], []⟩) mixed e_laws_eqPassageS rfl rfl ?_
  simp only [c_laws_eqPassageS]
  rcases Bool.eq_false_or_eq_true ((a0.length : Int) != (a1.length : Int)) with hb1 | hb1
  · rw [ite_t hb1] at h
    try simp only [hb1, Nat.reduceBEq, Nat.reduceMul, Nat.reduceAdd, Nat.reduceDiv, Int.reduceBEq, rules2, rulesX, rowsX]
    cases h
    exact ⟨⟨rfl, trivial⟩, rfl⟩
  · rw [ite_f hb1] at h
    try simp only [hb1, Nat.reduceBEq, Nat.reduceMul, Nat.reduceAdd, Nat.reduceDiv, Int.reduceBEq, rules2, rulesX, rowsX]
    refine w_laws_eqPassageS_1 _ _ _ _ _ h _ ?_
    try simp only [hb1, Nat.reduceBEq, Nat.reduceMul, Nat.reduceAdd, Nat.reduceDiv, Int.reduceBEq, rules2, rulesX, rowsX, List.map_nil]
/- 38: laws_eqOption -/
def c_laws_eqOption : ACode := (.seq (.reg [(none, .box 2 (S 0)), (none, .box 3 (S 1)), (none, .mv 4 (KB false))]) (.seq (.seq (.reg [(none, .faddr 5 (S 2) 0), (none, .load 6 (S 5) false 1), (none, .faddr 7 (S 3) 0), (none, .load 8 (S 7) false 1), (none, .bin 9 .neq (S 6) (S 8))]) (.cond (S 9) (.seq (.reg [(none, .mv 4 (KB false))]) .ret) .skip)) (.seq (.seq (.reg [(none, .faddr 10 (S 2) 1), (none, .load 11 (S 10) false 1), (none, .faddr 12 (S 3) 1), (none, .load 13 (S 12) false 1), (none, .bin 14 .neq (S 11) (S 13))]) (.cond (S 14) (.seq (.reg [(none, .mv 4 (KB false))]) .ret) .skip)) (.seq (.seq (.reg [(none, .faddr 15 (S 2) 2), (none, .load 16 (S 15) false 1), (none, .faddr 17 (S 3) 2), (none, .load 18 (S 17) false 1), (none, .bin 19 .neq (S 16) (S 18))]) (.cond (S 19) (.seq (.reg [(none, .mv 4 (KB false))]) .ret) .skip)) (.seq (.seq (.reg [(none, .faddr 20 (S 2) 3), (none, .load 21 (S 20) false 1), (none, .faddr 22 (S 3) 3), (none, .load 23 (S 22) false 1), (none, .call 24 70 [(S 21), (S 23)]), (none, .un 25 .not (S 24))]) (.cond (S 25) (.seq (.reg [(none, .mv 4 (KB false))]) .ret) .skip)) (.seq (.reg [(none, .mv 4 (KB true))]) .ret))))))
theorem e_laws_eqOption : entry Tryz.prog 38 = some (c_laws_eqOption.strip, [4], 26) := by kernel_rfl
theorem w_laws_eqOption (a0 : XOption) (a1 : XOption) (r : Bool) (h : f_laws_eqOption a0 a1 = some r) : FC Tryz.prog 38 [.ag (XOption.row a0), .ag (XOption.row a1)] [.sc (.v (.bool r))] := by
  unfold f_laws_eqOption at h
  refine FC_go (σ := ⟨[(0, va [aI a0.Start, aI a0.Arrival, aI a0.Cost, aL (List.map XPassage.row a0.Passages)]), (1, va [aI a1.Start, aI a1.Arrival, aI a1.Cost, aL (List.map XPassage.row a1.Passages)])], [], []⟩) mixed e_laws_eqOption rfl rfl ?_
  simp only [c_laws_eqOption]
  try simp only [Nat.reduceBEq, Nat.reduceMul, Nat.reduceAdd, Nat.reduceDiv, Int.reduceBEq, rules2, rulesX, rowsX]
  refine go_bx rfl rfl rfl ?_
  try simp only [Nat.reduceBEq, Nat.reduceMul, Nat.reduceAdd, Nat.reduceDiv, Int.reduceBEq, rules2, rulesX, rowsX]
  refine go_bx rfl rfl rfl ?_
  rcases Bool.eq_false_or_eq_true (a0.Start != a1.Start) with hb1 | hb1
  · rw [ite_t hb1] at h
    try simp only [hb1, Nat.reduceBEq, Nat.reduceMul, Nat.reduceAdd, Nat.reduceDiv, Int.reduceBEq, rules2, rulesX, rowsX]
    cases h
    exact ⟨⟨rfl, trivial⟩, rfl⟩
  · rw [ite_f hb1] at h
    rcases Bool.eq_false_or_eq_true (a0.Arrival != a1.Arrival) with hb2 | hb2
    · rw [ite_t hb2] at h
      try simp only [hb1, hb2, Nat.reduceBEq, Nat.reduceMul, Nat.reduceAdd, Nat.reduceDiv, Int.reduceBEq, rules2, rulesX, rowsX]
      cases h
      exact ⟨⟨rfl, trivial⟩, rfl⟩
    · rw [ite_f hb2] at h
      rcases Bool.eq_false_or_eq_true (a0.Cost != a1.Cost) with hb3 | hb3
      · rw [ite_t hb3] at h
        try simp only [hb1, hb2, hb3, Nat.reduceBEq, Nat.reduceMul, Nat.reduceAdd, Nat.reduceDiv, Int.reduceBEq, rules2, rulesX, rowsX]
        cases h
        exact ⟨⟨rfl, trivial⟩, rfl⟩
      · rw [ite_f hb3] at h
        obtain ⟨r4, hr4, h⟩ := ob h
        try simp only [hb1, hb2, hb3, Nat.reduceBEq, Nat.reduceMul, Nat.reduceAdd, Nat.reduceDiv, Int.reduceBEq, rules2, rulesX, rowsX]
        refine go_callI (w_laws_eqPassageS _ _ _ hr4) rfl rfl (Nat.le_of_ble_eq_true rfl) ?_
        rcases Bool.eq_false_or_eq_true r4 with hb5 | hb5
        · rw [ite_t hb5] at h
          try simp only [hb1, hb2, hb3, hb5, Nat.reduceBEq, Nat.reduceMul, Nat.reduceAdd, Nat.reduceDiv, Int.reduceBEq, rules2, rulesX, rowsX]
          cases h
          exact ⟨⟨rfl, trivial⟩, rfl⟩
        · rw [ite_f hb5] at h
          try simp only [hb1, hb2, hb3, hb5, Nat.reduceBEq, Nat.reduceMul, Nat.reduceAdd, Nat.reduceDiv, Int.reduceBEq, rules2, rulesX, rowsX]
          cases h
          exact ⟨⟨rfl, trivial⟩, rfl⟩
/- 14: laws_eqOptionS -/
def c_laws_eqOptionS_1 : ACode := .seq (.reg [(none, .keep [0, 1, 5] [] [])]) (.seq (.seq (.reg [(none, .mv 11 (S 5)), (none, .mv 12 (S 0)), (none, .len 13 (S 12)), (none, .bin 14 .lss (S 11) (S 13))]) (.cond (S 14) .skip (.exit 0))) (.seq (.block 1 (.seq (.drw [(some [], (none, .mv 17 (S 0))), (some [], (none, .mv 18 (S 5))), (some [], (none, .iaddr 19 (S 17) (S 18) 4)), (some [], (none, .load 20 (S 19) true 4)), (some [], (none, .mv 21 (S 1))), (some [], (none, .mv 22 (S 5))), (some [], (none, .iaddr 23 (S 21) (S 22) 4)), (some [], (none, .load 24 (S 23) true 4)), (some [], (none, .call 25 38 [(S 20), (S 24)])), (some [], (none, .un 26 .not (S 25)))]) (.cond (S 26) (.seq (.reg [(none, .mv 4 (KB false))]) .ret) .skip))) (.reg [(none, .mv 15 (S 5)), (none, .bin 16 .add (S 15) (K 1)), (none, .mv 5 (S 16))])))
def c_laws_eqOptionS_n1 : ACode := (.seq (.reg [(none, .mv 4 (KB true))]) .ret)
def c_laws_eqOptionS : ACode := (.seq (.reg [(none, .mv 4 (KB false))]) (.seq (.seq (.reg [(none, .mv 6 (S 0)), (none, .len 7 (S 6)), (none, .mv 8 (S 1)), (none, .len 9 (S 8)), (none, .bin 10 .neq (S 7) (S 9))]) (.cond (S 10) (.seq (.reg [(none, .mv 4 (KB false))]) .ret) .skip)) (.seq (.seq (.reg [(none, .mv 5 (K 0))]) (.block 0 (.loop c_laws_eqOptionS_1))) c_laws_eqOptionS_n1)))
theorem w_laws_eqOptionS_1 (a0 : List XOption) (a1 : List XOption) : ∀ (n : Nat) (v2 : Int) (r : Bool), f_laws_eqOptionS_1 a0 a1 n v2 = some r → ∀ σ : St, σ.kept [0, 1, 5] [] [] = ⟨[(0, vc (aL (List.map XOption.row a0))), (1, vc (aL (List.map XOption.row a1))), (5, vc (aI v2))], [], []⟩ → go Tryz.prog (.code (.loop c_laws_eqOptionS_1) :: [.blk 0, .code c_laws_eqOptionS_n1]) (Ret [4] [.sc (.v (.bool r))]) .normal (some σ) := by
  intro n
  induction n with
  | zero => intro _ r h; cases h
  | succ n ih =>
    intro v2 r h σ hσ
    rw [f_laws_eqOptionS_1] at h
    refine go_round ?_
    rcases Bool.eq_false_or_eq_true (decide (v2 < (a0.length : Int))) with hb3 | hb3
    · rw [ite_t hb3] at h
      try simp only [hσ, hb3, c_laws_eqOptionS_1, Nat.reduceBEq, Nat.reduceMul, Nat.reduceAdd, Nat.reduceDiv, Int.reduceBEq, rules2, rulesX, rowsX]
      refine go_fr_of rfl ?_
      obtain ⟨x4, hx4, h⟩ := ob h
      obtain ⟨x5, hx5, h⟩ := ob h
      obtain ⟨r6, hr6, h⟩ := ob h
      try simp only [hb3, hx4, hx5, Nat.reduceBEq, Nat.reduceMul, Nat.reduceAdd, Nat.reduceDiv, Int.reduceBEq, rules2, rulesX, rowsX]
      refine go_dcallI (w_laws_eqOption _ _ _ hr6) rfl rfl (Nat.le_of_ble_eq_true rfl) ?_
      rcases Bool.eq_false_or_eq_true r6 with hb7 | hb7
      · rw [ite_t hb7] at h
        try simp only [hb3, hx4, hx5, hb7, Nat.reduceBEq, Nat.reduceMul, Nat.reduceAdd, Nat.reduceDiv, Int.reduceBEq, rules2, rulesX, rowsX]
        refine ih _ _ h _ ?_
        try simp only [hb3, hx4, hx5, hb7, Nat.reduceBEq, Nat.reduceMul, Nat.reduceAdd, Nat.reduceDiv, Int.reduceBEq, rules2, rulesX, rowsX, List.map_nil]
      · rw [ite_f hb7] at h
        try simp only [hb3, hx4, hx5, hb7, Nat.reduceBEq, Nat.reduceMul, Nat.reduceAdd, Nat.reduceDiv, Int.reduceBEq, rules2, rulesX, rowsX]
        cases h
        exact ⟨⟨rfl, trivial⟩, rfl⟩
    · rw [ite_f hb3] at h
      try simp only [hσ, hb3, c_laws_eqOptionS_1, c_laws_eqOptionS_n1, Nat.reduceBEq, Nat.reduceMul, Nat.reduceAdd, Nat.reduceDiv, Int.reduceBEq, rules2, rulesX, rowsX]
      cases h
      exact ⟨⟨rfl, trivial⟩, rfl⟩
theorem e_laws_eqOptionS : entry Tryz.prog 14 = some (c_laws_eqOptionS.strip, [4], 27) := by kernel_rfl
theorem w_laws_eqOptionS (a0 : List XOption) (a1 : List XOption) (r : Bool) (h : f_laws_eqOptionS a0 a1 = some r) : FC Tryz.prog 14 [.sc (.sl (List.map XOption.row a0)), .sc (.sl (List.map XOption.row a1))] [.sc (.v (.bool r))] := by
  unfold f_laws_eqOptionS at h
  refine FC_go (σ := ⟨[(0, vc (aL (List.map XOption.row a0))), (1, vc (aL (List.map XOption.row a1)))], [], []⟩) mixed e_laws_eqOptionS rfl rfl ?_
  simp only [c_laws_eqOptionS]
  rcases Bool.eq_false_or_eq_true ((a0.length : Int) != (a1.length : Int)) with hb1 | hb1
  · rw [ite_t hb1] at h
    try simp only [hb1, Nat.reduceBEq, Nat.reduceMul, Nat.reduceAdd, Nat.reduceDiv, Int.reduceBEq, rules2, rulesX, rowsX]
    cases h
    exact ⟨⟨rfl, trivial⟩, rfl⟩
  · rw [ite_f hb1] at h
    try simp only [hb1, Nat.reduceBEq, Nat.reduceMul, Nat.reduceAdd, Nat.reduceDiv, Int.reduceBEq, rules2, rulesX, rowsX]
    refine w_laws_eqOptionS_1 _ _ _ _ _ h _ ?_
    try simp only [hb1, Nat.reduceBEq, Nat.reduceMul, Nat.reduceAdd, Nat.reduceDiv, Int.reduceBEq, rules2, rulesX, rowsX, List.map_nil]
/- 5: laws_FnExactFirstGrounding -/
def c_laws_FnExactFirstGrounding : ACode := (.seq (.reg [(none, .box 3 (S 0)), (none, .mv 6 (KB false))]) (.seq (.seq (.reg [(none, .mv 15 (S 2)), (none, .len 16 (S 15)), (none, .bin 17 .gtr (S 16) (K 1048576))]) (.cond (S 17) (.seq (.reg [(none, .mv 6 (KB true))]) .ret) .skip)) (.seq (.reg [(none, .mv 7 (K 1048576))]) (.seq (.reg [(none, .load 18 (S 3) true 12), (none, .mv 19 (S 7)), (none, .call 20 6 [(S 18), (S 19)]), (none, .mv 7 (S 20))]) (.seq (.seq (.reg [(none, .mv 21 (S 7)), (none, .bin 22 .lss (S 21) (K 0))]) (.cond (S 22) (.seq (.reg [(none, .mv 6 (KB true))]) .ret) .skip)) (.seq (.reg [(none, .mv 23 (S 1)), (none, .mv 24 (S 7)), (none, .call 25 7 [(S 23), (S 24)]), (none, .mv 7 (S 25))]) (.seq (.seq (.reg [(none, .mv 26 (S 7)), (none, .bin 27 .lss (S 26) (K 0))]) (.cond (S 27) (.seq (.reg [(none, .mv 6 (KB true))]) .ret) .skip)) (.seq (.reg [(none, .load 29 (S 3) true 12), (none, .call 30 9 [(S 29)]), (none, .mv 31 (S 1)), (none, .call 32 10 [(S 31)]), (none, .mv 33 (S 2)), (none, .call 34 11 [(S 33)]), (none, .call 35 18 [(S 30), (S 32), (S 34)]), (none, .mv 28 (S 35)), (none, .extr 36 (S 28) 0), (none, .extr 37 (S 28) 1), (none, .mv 8 (S 36)), (none, .mv 9 (S 37))]) (.seq (.reg [(none, .load 38 (S 3) true 12), (none, .call 39 9 [(S 38)]), (none, .alloc 10 [aI 0, .nil, .nil, .nil, .nil, .nil, aI 0, aB false, aI 0, aI 0, aI 0, .nil]), (none, .store (S 10) (S 39) 12)]) (.seq (.reg [(none, .mv 40 (S 1)), (none, .call 41 10 [(S 40)]), (none, .mv 11 (S 41))]) (.seq (.reg [(none, .mv 42 (S 2)), (none, .call 43 11 [(S 42)]), (none, .mv 12 (S 43))]) (.seq (.reg [(none, .load 45 (S 10) true 12), (none, .mv 46 (S 11)), (none, .mv 47 (S 12)), (none, .call 48 19 [(S 45), (S 46), (S 47)]), (none, .mv 44 (S 48)), (none, .extr 49 (S 44) 0), (none, .extr 50 (S 44) 1), (none, .mv 13 (S 49)), (none, .mv 14 (S 50))]) (.seq (.seq (.reg [(none, .mv 51 (S 13)), (none, .mv 52 (S 8)), (none, .bin 53 .neq (S 51) (S 52)), (none, .mv 54 (S 53)), (some (54, false), .mv 55 (S 14)), (some (54, false), .mv 56 (S 9)), (some (54, false), .bin 57 .neq (S 55) (S 56)), (none, .pick 58 (S 54) (KB true) (S 57))]) (.cond (S 58) (.seq (.reg [(none, .mv 6 (KB false))]) .ret) .skip)) (.seq (.seq (.drw [(some [61], (none, .load 59 (S 10) true 12)), (some [], (none, .load 60 (S 3) true 12)), (some [], (none, .call 61 9 [(S 60)])), (some [], (none, .call 62 13 [(S 59), (S 61)])), (some [], (none, .un 63 .not (S 62)))]) (.cond (S 63) (.seq (.reg [(none, .mv 6 (KB false))]) .ret) .skip)) (.seq (.seq (.reg [(none, .mv 64 (S 11)), (none, .mv 65 (S 1)), (none, .call 66 10 [(S 65)]), (none, .call 67 14 [(S 64), (S 66)]), (none, .un 68 .not (S 67))]) (.cond (S 68) (.seq (.reg [(none, .mv 6 (KB false))]) .ret) .skip)) (.seq (.seq (.reg [(none, .mv 69 (S 12)), (none, .mv 70 (S 2)), (none, .call 71 11 [(S 70)]), (none, .call 72 15 [(S 69), (S 71)]), (none, .un 73 .not (S 72))]) (.cond (S 73) (.seq (.reg [(none, .mv 6 (KB false))]) .ret) .skip)) (.seq (.reg [(none, .mv 6 (KB true))]) .ret)))))))))))))))))
theorem e_laws_FnExactFirstGrounding : entry Tryz.prog 5 = some (c_laws_FnExactFirstGrounding.strip, [6], 74) := by kernel_rfl
theorem w_laws_FnExactFirstGrounding (a0 : XHarbour) (a1 : List XOption) (a2 : List Int) (r : Bool) (h : f_laws_FnExactFirstGrounding a0 a1 a2 = some r) : FC Tryz.prog 5 [.ag (XHarbour.row a0), .sc (.sl (List.map XOption.row a1)), .sc (.sl (List.map rI a2))] [.sc (.v (.bool r))] := by
  unfold f_laws_FnExactFirstGrounding at h
  refine FC_go (σ := ⟨[(0, va [aI a0.Forecast.Tide.Mean, aL (List.map XPart.row a0.Forecast.Tide.Parts), aL (List.map XSurge.row a0.Forecast.Surges), aL (List.map XPoint.row a0.Chart.Points), aL (List.map XSegment.row a0.Chart.Segments), aL (List.map XShip.row a0.Fleet), aI a0.Regime.Gap, aB a0.Regime.NoMeet, aI a0.Crew.Tugs, aI a0.Crew.Pilots, aI a0.Crew.Rest, aL (List.map rI a0.Crew.Moves)]), (1, vc (aL (List.map XOption.row a1))), (2, vc (aL (List.map rI a2)))], [], []⟩) mixed e_laws_FnExactFirstGrounding rfl rfl ?_
  simp only [c_laws_FnExactFirstGrounding]
  try simp only [Nat.reduceBEq, Nat.reduceMul, Nat.reduceAdd, Nat.reduceDiv, Int.reduceBEq, rules2, rulesX, rowsX]
  refine go_bx rfl rfl rfl ?_
  rcases Bool.eq_false_or_eq_true (decide ((1048576 : Int) < (a2.length : Int))) with hb1 | hb1
  · rw [ite_t hb1] at h
    try simp only [hb1, Nat.reduceBEq, Nat.reduceMul, Nat.reduceAdd, Nat.reduceDiv, Int.reduceBEq, rules2, rulesX, rowsX]
    cases h
    exact ⟨⟨rfl, trivial⟩, rfl⟩
  · rw [ite_f hb1] at h
    obtain ⟨r2, hr2, h⟩ := ob h
    try simp only [hb1, Nat.reduceBEq, Nat.reduceMul, Nat.reduceAdd, Nat.reduceDiv, Int.reduceBEq, rules2, rulesX, rowsX]
    refine go_callI (w_laws_szHarbour _ _ _ hr2) rfl rfl (Nat.le_of_ble_eq_true rfl) ?_
    rcases Bool.eq_false_or_eq_true (decide (r2 < (0 : Int))) with hb3 | hb3
    · rw [ite_t hb3] at h
      try simp only [hb1, hb3, Nat.reduceBEq, Nat.reduceMul, Nat.reduceAdd, Nat.reduceDiv, Int.reduceBEq, rules2, rulesX, rowsX]
      cases h
      exact ⟨⟨rfl, trivial⟩, rfl⟩
    · rw [ite_f hb3] at h
      obtain ⟨r4, hr4, h⟩ := ob h
      try simp only [hb1, hb3, Nat.reduceBEq, Nat.reduceMul, Nat.reduceAdd, Nat.reduceDiv, Int.reduceBEq, rules2, rulesX, rowsX]
      refine go_callI (w_laws_szOptionS _ _ _ hr4) rfl rfl (Nat.le_of_ble_eq_true rfl) ?_
      rcases Bool.eq_false_or_eq_true (decide (r4 < (0 : Int))) with hb5 | hb5
      · rw [ite_t hb5] at h
        try simp only [hb1, hb3, hb5, Nat.reduceBEq, Nat.reduceMul, Nat.reduceAdd, Nat.reduceDiv, Int.reduceBEq, rules2, rulesX, rowsX]
        cases h
        exact ⟨⟨rfl, trivial⟩, rfl⟩
      · rw [ite_f hb5] at h
        obtain ⟨r6, hr6, h⟩ := ob h
        try simp only [hb1, hb3, hb5, Nat.reduceBEq, Nat.reduceMul, Nat.reduceAdd, Nat.reduceDiv, Int.reduceBEq, rules2, rulesX, rowsX]
        refine go_callI (w_laws_toHarbour _ _ hr6) rfl rfl (Nat.le_of_ble_eq_true rfl) ?_
        obtain ⟨r7, hr7, h⟩ := ob h
        try simp only [hb1, hb3, hb5, Nat.reduceBEq, Nat.reduceMul, Nat.reduceAdd, Nat.reduceDiv, Int.reduceBEq, rules2, rulesX, rowsX]
        refine go_callI (w_laws_toOptionS _ _ hr7) rfl rfl (Nat.le_of_ble_eq_true rfl) ?_
        obtain ⟨r8, hr8, h⟩ := ob h
        try simp only [hb1, hb3, hb5, Nat.reduceBEq, Nat.reduceMul, Nat.reduceAdd, Nat.reduceDiv, Int.reduceBEq, rules2, rulesX, rowsX]
        refine go_callI (w_laws_toIntS _ _ hr8) rfl rfl (Nat.le_of_ble_eq_true rfl) ?_
        obtain ⟨r9, hr9, h⟩ := ob h
        try simp only [hb1, hb3, hb5, Nat.reduceBEq, Nat.reduceMul, Nat.reduceAdd, Nat.reduceDiv, Int.reduceBEq, rules2, rulesX, rowsX]
        refine go_call (w_spec_FirstGrounding _ _ _ _ hr9) rfl (flat_of rfl) rfl (Nat.le_of_ble_eq_true rfl) ?_
        obtain ⟨r10, hr10, h⟩ := ob h
        try simp only [hb1, hb3, hb5, Nat.reduceBEq, Nat.reduceMul, Nat.reduceAdd, Nat.reduceDiv, Int.reduceBEq, rules2, rulesX, rowsX]
        refine go_callI (w_laws_toHarbour _ _ hr10) rfl rfl (Nat.le_of_ble_eq_true rfl) ?_
        try simp only [hb1, hb3, hb5, Nat.reduceBEq, Nat.reduceMul, Nat.reduceAdd, Nat.reduceDiv, Int.reduceBEq, rules2, rulesX, rowsX]
        refine go_al rfl rfl ?_
        obtain ⟨r11, hr11, h⟩ := ob h
        try simp only [hb1, hb3, hb5, Nat.reduceBEq, Nat.reduceMul, Nat.reduceAdd, Nat.reduceDiv, Int.reduceBEq, rules2, rulesX, rowsX]
        refine go_callI (w_laws_toOptionS _ _ hr11) rfl rfl (Nat.le_of_ble_eq_true rfl) ?_
        obtain ⟨r12, hr12, h⟩ := ob h
        try simp only [hb1, hb3, hb5, Nat.reduceBEq, Nat.reduceMul, Nat.reduceAdd, Nat.reduceDiv, Int.reduceBEq, rules2, rulesX, rowsX]
        refine go_callI (w_laws_toIntS _ _ hr12) rfl rfl (Nat.le_of_ble_eq_true rfl) ?_
        obtain ⟨r13, hr13, h⟩ := ob h
        try simp only [hb1, hb3, hb5, Nat.reduceBEq, Nat.reduceMul, Nat.reduceAdd, Nat.reduceDiv, Int.reduceBEq, rules2, rulesX, rowsX]
        refine go_call (w_impl_FirstGrounding _ _ _ _ hr13) rfl (flat_of rfl) rfl (Nat.le_of_ble_eq_true rfl) ?_
        rcases Bool.eq_false_or_eq_true (r13.1 != r9.1) with hb14 | hb14
        · rw [ite_t hb14] at h
          try simp only [hb1, hb3, hb5, hb14, Nat.reduceBEq, Nat.reduceMul, Nat.reduceAdd, Nat.reduceDiv, Int.reduceBEq, rules2, rulesX, rowsX]
          cases h
          exact ⟨⟨rfl, trivial⟩, rfl⟩
        · rw [ite_f hb14] at h
          rcases Bool.eq_false_or_eq_true (r13.2 != r9.2) with hb15 | hb15
          · rw [ite_t hb15] at h
            try simp only [hb1, hb3, hb5, hb14, hb15, Nat.reduceBEq, Nat.reduceMul, Nat.reduceAdd, Nat.reduceDiv, Int.reduceBEq, rules2, rulesX, rowsX]
            cases h
            exact ⟨⟨rfl, trivial⟩, rfl⟩
          · rw [ite_f hb15] at h
            try simp only [hb1, hb3, hb5, hb14, hb15, Nat.reduceBEq, Nat.reduceMul, Nat.reduceAdd, Nat.reduceDiv, Int.reduceBEq, rules2, rulesX, rowsX]
            refine go_fr_of rfl ?_
            obtain ⟨r16, hr16, h⟩ := ob h
            try simp only [hb1, hb3, hb5, hb14, hb15, Nat.reduceBEq, Nat.reduceMul, Nat.reduceAdd, Nat.reduceDiv, Int.reduceBEq, rules2, rulesX, rowsX]
            refine go_dcallI (w_laws_toHarbour _ _ hr16) rfl rfl (Nat.le_of_ble_eq_true rfl) ?_
            obtain ⟨r17, hr17, h⟩ := ob h
            try simp only [hb1, hb3, hb5, hb14, hb15, Nat.reduceBEq, Nat.reduceMul, Nat.reduceAdd, Nat.reduceDiv, Int.reduceBEq, rules2, rulesX, rowsX]
            refine go_dcall (w_laws_eqHarbour _ _ _ hr17) (by first | rfl | kernel_rfl) (flat_of rfl) rfl (Nat.le_of_ble_eq_true rfl) ?_
            rcases Bool.eq_false_or_eq_true r17 with hb18 | hb18
            · rw [ite_t hb18] at h
              obtain ⟨r19, hr19, h⟩ := ob h
              try simp only [hb1, hb3, hb5, hb14, hb15, hb18, Nat.reduceBEq, Nat.reduceMul, Nat.reduceAdd, Nat.reduceDiv, Int.reduceBEq, rules2, rulesX, rowsX]
              refine go_callI (w_laws_toOptionS _ _ hr19) rfl rfl (Nat.le_of_ble_eq_true rfl) ?_
              obtain ⟨r20, hr20, h⟩ := ob h
              try simp only [hb1, hb3, hb5, hb14, hb15, hb18, Nat.reduceBEq, Nat.reduceMul, Nat.reduceAdd, Nat.reduceDiv, Int.reduceBEq, rules2, rulesX, rowsX]
              refine go_call (w_laws_eqOptionS _ _ _ hr20) rfl (flat_of rfl) rfl (Nat.le_of_ble_eq_true rfl) ?_
              rcases Bool.eq_false_or_eq_true r20 with hb21 | hb21
              · rw [ite_t hb21] at h
                obtain ⟨r22, hr22, h⟩ := ob h
                try simp only [hb1, hb3, hb5, hb14, hb15, hb18, hb21, Nat.reduceBEq, Nat.reduceMul, Nat.reduceAdd, Nat.reduceDiv, Int.reduceBEq, rules2, rulesX, rowsX]
                refine go_callI (w_laws_toIntS _ _ hr22) rfl rfl (Nat.le_of_ble_eq_true rfl) ?_
                obtain ⟨r23, hr23, h⟩ := ob h
                try simp only [hb1, hb3, hb5, hb14, hb15, hb18, hb21, Nat.reduceBEq, Nat.reduceMul, Nat.reduceAdd, Nat.reduceDiv, Int.reduceBEq, rules2, rulesX, rowsX]
                refine go_call (w_laws_eqIntS _ _ _ hr23) rfl (flat_of rfl) rfl (Nat.le_of_ble_eq_true rfl) ?_
                rcases Bool.eq_false_or_eq_true r23 with hb24 | hb24
                · rw [ite_t hb24] at h
                  try simp only [hb1, hb3, hb5, hb14, hb15, hb18, hb21, hb24, Nat.reduceBEq, Nat.reduceMul, Nat.reduceAdd, Nat.reduceDiv, Int.reduceBEq, rules2, rulesX, rowsX]
                  cases h
                  exact ⟨⟨rfl, trivial⟩, rfl⟩
                · rw [ite_f hb24] at h
                  try simp only [hb1, hb3, hb5, hb14, hb15, hb18, hb21, hb24, Nat.reduceBEq, Nat.reduceMul, Nat.reduceAdd, Nat.reduceDiv, Int.reduceBEq, rules2, rulesX, rowsX]
                  cases h
                  exact ⟨⟨rfl, trivial⟩, rfl⟩
              · rw [ite_f hb21] at h
                try simp only [hb1, hb3, hb5, hb14, hb15, hb18, hb21, Nat.reduceBEq, Nat.reduceMul, Nat.reduceAdd, Nat.reduceDiv, Int.reduceBEq, rules2, rulesX, rowsX]
                cases h
                exact ⟨⟨rfl, trivial⟩, rfl⟩
            · rw [ite_f hb18] at h
              try simp only [hb1, hb3, hb5, hb14, hb15, hb18, Nat.reduceBEq, Nat.reduceMul, Nat.reduceAdd, Nat.reduceDiv, Int.reduceBEq, rules2, rulesX, rowsX]
              cases h
              exact ⟨⟨rfl, trivial⟩, rfl⟩
end Go.Vi
