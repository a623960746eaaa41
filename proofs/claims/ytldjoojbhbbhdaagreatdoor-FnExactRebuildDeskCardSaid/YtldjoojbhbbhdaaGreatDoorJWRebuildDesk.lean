/-
  Walks: what the plain definitions compute is what the functions return. By program. No condition.
-/
import Derived.Test.YtldjoojbhbbhdaaGreatDoorJNf
import Derived.Test.YtldjoojbhbbhdaaGreatDoorChecked
import Derived.Test.YtldjoojbhbbhdaaGreatDoorJSh
import Derived.Test.YtldjoojbhbbhdaaGreatDoorJAc
import Derived.KernelRfl
namespace Go.Vi
open Go.Proofs
set_option linter.unusedSimpArgs false
set_option linter.unusedVariables false
set_option maxRecDepth 4000
set_option maxHeartbeats 2000000
attribute [local irreducible] go AWP
theorem mixed : Tryz.prog.follows .mixedOrders = true := by kernel_rfl
/- 65: spec_l01In -/
def c_spec_l01In : ACode := (.seq (.reg [(none, .mv 6 (KB false))]) (.seq (.reg [(none, .mv 7 (S 0)), (none, .mv 8 (S 1)), (none, .bin 9 .geq (S 7) (S 8)), (none, .mv 10 (S 9)), (some (10, true), .mv 11 (S 0)), (some (10, true), .mv 12 (S 2)), (some (10, true), .bin 13 .leq (S 11) (S 12)), (none, .pick 14 (S 10) (S 13) (KB false)), (none, .mv 6 (S 14))]) .ret))
theorem e_spec_l01In : entry Tryz.prog 65 = some (c_spec_l01In.strip, [6], 15) := by kernel_rfl
theorem w_spec_l01In (a0 : Int) (a1 : Int) (a2 : Int) (r : Bool) (h : f_spec_l01In a0 a1 a2 = some r) : FC Tryz.prog 65 [.sc (.int .i64 a0), .sc (.int .i64 a1), .sc (.int .i64 a2)] [.sc (.v (.bool r))] := by
  unfold f_spec_l01In at h
  refine FC_go (σ := ⟨[(0, vc (aI a0)), (1, vc (aI a1)), (2, vc (aI a2))], [], []⟩) mixed e_spec_l01In rfl rfl ?_
  simp only [c_spec_l01In]
  rcases Bool.eq_false_or_eq_true (decide (a1 ≤ a0)) with hb1 | hb1
  · rw [ite_t hb1] at h
    try simp only [hb1, Nat.reduceBEq, Nat.reduceMul, Nat.reduceAdd, Nat.reduceDiv, Int.reduceBEq, rules2, rulesX, rowsX]
    cases h
    exact ⟨⟨rfl, trivial⟩, rfl⟩
  · rw [ite_f hb1] at h
    try simp only [hb1, Nat.reduceBEq, Nat.reduceMul, Nat.reduceAdd, Nat.reduceDiv, Int.reduceBEq, rules2, rulesX, rowsX]
    cases h
    exact ⟨⟨rfl, trivial⟩, rfl⟩
/- 25: spec_DeskNew -/
def c_spec_DeskNew_1 : ACode := .seq (.reg [(none, .keep [0, 2, 3, 4] [2, 3] [131136, 131200])]) (.seq (.seq (.reg [(none, .mv 10 (S 4)), (none, .mv 11 (S 0)), (none, .bin 12 .lss (S 10) (S 11))]) (.cond (S 12) .skip (.exit 0))) (.seq (.block 1 (.seq (.reg [(none, .faddr 15 (S 3) 1), (none, .load 16 (S 15) false 1), (none, .bslice 17 1 [.int .i64 0] 1 [(0, (K (-1)))]), (none, .app 18 1 8 (S 16) (S 17)), (none, .faddr 19 (S 3) 1), (none, .store (S 19) (S 18) 1)]) (.reg [(none, .faddr 20 (S 3) 2), (none, .load 21 (S 20) false 1), (none, .bslice 22 1 [.bool false] 1 [(0, (KB false))]), (none, .app 23 1 1 (S 21) (S 22)), (none, .faddr 24 (S 3) 2), (none, .store (S 24) (S 23) 1)]))) (.reg [(none, .mv 13 (S 4)), (none, .bin 14 .add (S 13) (K 1)), (none, .mv 4 (S 14))])))
def c_spec_DeskNew_n1 : ACode := (.seq (.reg [(none, .load 25 (S 3) true 3), (none, .store (S 2) (S 25) 3)]) .ret)
def c_spec_DeskNew : ACode := (.seq (.reg [(none, .alloc 2 [aI 0, .nil, .nil])]) (.seq (.reg [(none, .build 5 [aI 0, .nil, .nil] []), (none, .alloc 3 [aI 0, .nil, .nil]), (none, .store (S 3) (S 5) 3), (none, .ownb 3 1 131136 1), (none, .ownb 3 2 131200 1)]) (.seq (.seq (.reg [(none, .mv 6 (S 0)), (none, .call 7 65 [(S 6), (K 0), (K 6)]), (none, .un 8 .not (S 7))]) (.cond (S 8) (.seq (.reg [(none, .load 9 (S 3) true 3), (none, .store (S 2) (S 9) 3)]) .ret) .skip)) (.seq (.seq (.reg [(none, .mv 4 (K 0))]) (.block 0 (.loop c_spec_DeskNew_1))) c_spec_DeskNew_n1))))
theorem w_spec_DeskNew_1 (a0 : Int) : ∀ (n : Nat) (v3 : Int) (v4 : List Int) (v5 : List Bool) (r : XDesk), f_spec_DeskNew_1 a0 n v3 v4 v5 = some r → ∀ σ : St, σ.kept [0, 2, 3, 4] [2, 3] [131136, 131200] = ⟨[(0, vc (aI a0)), (2, vc (.pb 2 0)), (3, vc (.pb 3 0)), (4, vc (aI v3))], [(2, [aI (0 : Int), .nil, .nil]), (3, [aI (0 : Int), .own 131136, .own 131200])], [(131136, 1, List.map rI v4), (131200, 1, List.map rB v5)]⟩ → go Tryz.prog (.code (.loop c_spec_DeskNew_1) :: [.blk 0, .code c_spec_DeskNew_n1]) (Ret [.c 2 true 3] [.ag [.v (.int .i64 r.Now), .o 1 (List.map rI r.Starts), .o 1 (List.map rB r.Cleared)]]) .normal (some σ) := by
  intro n
  induction n with
  | zero => intro _ _ _ r h; cases h
  | succ n ih =>
    intro v3 v4 v5 r h σ hσ
    rw [f_spec_DeskNew_1] at h
    refine go_round ?_
    rcases Bool.eq_false_or_eq_true (decide (v3 < a0)) with hb6 | hb6
    · rw [ite_t hb6] at h
      try simp only [hσ, hb6, c_spec_DeskNew_1, Nat.reduceBEq, Nat.reduceMul, Nat.reduceAdd, Nat.reduceDiv, Int.reduceBEq, rules2, rulesX, rowsX]
      refine go_bsl (es := List.map rI ([(-1 : Int)] : List Int)) rfl rfl ?_
      obtain ⟨hg7, h⟩ := of_guard h
      try simp only [hb6, hg7, Nat.reduceBEq, Nat.reduceMul, Nat.reduceAdd, Nat.reduceDiv, Int.reduceBEq, rules2, rulesX, rowsX]
      refine go_bsl (es := List.map rB ([false] : List Bool)) rfl rfl ?_
      obtain ⟨hg8, h⟩ := of_guard h
      try simp only [hb6, hg7, hg8, Nat.reduceBEq, Nat.reduceMul, Nat.reduceAdd, Nat.reduceDiv, Int.reduceBEq, rules2, rulesX, rowsX]
      refine ih _ _ _ _ h _ ?_
      try simp only [hb6, hg7, hg8, Nat.reduceBEq, Nat.reduceMul, Nat.reduceAdd, Nat.reduceDiv, Int.reduceBEq, rules2, rulesX, rowsX, List.map_nil]
    · rw [ite_f hb6] at h
      try simp only [hσ, hb6, c_spec_DeskNew_1, c_spec_DeskNew_n1, Nat.reduceBEq, Nat.reduceMul, Nat.reduceAdd, Nat.reduceDiv, Int.reduceBEq, rules2, rulesX, rowsX]
      cases h
      try simp only [rulesR, Nat.reduceBEq, Nat.reduceMul, Nat.reduceAdd, Nat.reduceDiv, Int.reduceBEq, rules2, rulesX, rowsX]
      exact ⟨⟨⟨rfl, rfl, rfl, trivial⟩, trivial⟩, rfl⟩
theorem e_spec_DeskNew : entry Tryz.prog 25 = some (c_spec_DeskNew.strip, [.c 2 true 3], 26) := by kernel_rfl
theorem w_spec_DeskNew (a0 : Int) (r : XDesk) (h : f_spec_DeskNew a0 = some r) : FC Tryz.prog 25 [.sc (.int .i64 a0)] [.ag [.v (.int .i64 r.Now), .o 1 (List.map rI r.Starts), .o 1 (List.map rB r.Cleared)]] := by
  unfold f_spec_DeskNew at h
  refine FC_go (σ := ⟨[(0, vc (aI a0))], [], []⟩) mixed e_spec_DeskNew rfl rfl ?_
  simp only [c_spec_DeskNew]
  try simp only [Nat.reduceBEq, Nat.reduceMul, Nat.reduceAdd, Nat.reduceDiv, Int.reduceBEq, rules2, rulesX, rowsX]
  refine go_al rfl rfl ?_
  try simp only [Nat.reduceBEq, Nat.reduceMul, Nat.reduceAdd, Nat.reduceDiv, Int.reduceBEq, rules2, rulesX, rowsX]
  refine go_al rfl rfl ?_
  try simp only [Nat.reduceBEq, Nat.reduceMul, Nat.reduceAdd, Nat.reduceDiv, Int.reduceBEq, rules2, rulesX, rowsX]
  refine go_ownb' (cs' := [aI (0 : Int), .own 131136, .nil]) rfl rfl rfl rfl ?_
  try simp only [Nat.reduceBEq, Nat.reduceMul, Nat.reduceAdd, Nat.reduceDiv, Int.reduceBEq, rules2, rulesX, rowsX]
  refine go_ownb' (cs' := [aI (0 : Int), .own 131136, .own 131200]) rfl rfl rfl rfl ?_
  obtain ⟨r1, hr1, h⟩ := ob h
  try simp only [Nat.reduceBEq, Nat.reduceMul, Nat.reduceAdd, Nat.reduceDiv, Int.reduceBEq, rules2, rulesX, rowsX]
  refine go_callI (w_spec_l01In _ _ _ _ hr1) rfl rfl (Nat.le_of_ble_eq_true rfl) ?_
  rcases Bool.eq_false_or_eq_true r1 with hb2 | hb2
  · rw [ite_t hb2] at h
    try simp only [hb2, Nat.reduceBEq, Nat.reduceMul, Nat.reduceAdd, Nat.reduceDiv, Int.reduceBEq, rules2, rulesX, rowsX]
    refine w_spec_DeskNew_1 _ _ _ _ _ _ h _ ?_
    try simp only [hb2, Nat.reduceBEq, Nat.reduceMul, Nat.reduceAdd, Nat.reduceDiv, Int.reduceBEq, rules2, rulesX, rowsX, List.map_nil]
  · rw [ite_f hb2] at h
    try simp only [hb2, Nat.reduceBEq, Nat.reduceMul, Nat.reduceAdd, Nat.reduceDiv, Int.reduceBEq, rules2, rulesX, rowsX]
    cases h
    try simp only [rulesR, Nat.reduceBEq, Nat.reduceMul, Nat.reduceAdd, Nat.reduceDiv, Int.reduceBEq, rules2, rulesX, rowsX]
    exact ⟨⟨⟨rfl, rfl, rfl, trivial⟩, trivial⟩, rfl⟩
/- 113: spec_SplitAny -/
def c_spec_SplitAny_2 : ACode := .seq (.reg [(none, .keep [0, 1, 5, 6, 7, 8] [] [576])]) (.seq (.seq (.reg [(none, .mv 16 (S 8)), (none, .mv 17 (S 1)), (none, .slen 18 (S 17)), (none, .bin 19 .lss (S 16) (S 18))]) (.cond (S 19) .skip (.exit 2))) (.seq (.block 3 (.seq (.drw [(some [], (none, .mv 22 (S 0))), (some [], (none, .mv 23 (S 7))), (some [], (none, .idx 24 (S 22) (S 23))), (some [], (none, .mv 25 (S 1))), (some [], (none, .mv 26 (S 8))), (some [], (none, .idx 27 (S 25) (S 26))), (some [], (none, .bin 28 .eql (S 24) (S 27)))]) (.cond (S 28) (.seq (.reg [(none, .mv 29 (S 5)), (none, .mv 30 (S 0)), (none, .mv 31 (S 6)), (none, .mv 32 (S 7)), (none, .sslc 33 (S 30) (some (S 31)) (some (S 32))), (none, .bslice 34 1 [.str []] 1 [(0, (S 33))]), (none, .app 35 1 16 (S 29) (S 34)), (none, .mv 5 (S 35))]) (.seq (.reg [(none, .mv 36 (S 7)), (none, .bin 37 .add (S 36) (K 1)), (none, .mv 6 (S 37))]) (.exit 2))) .skip))) (.reg [(none, .mv 20 (S 8)), (none, .bin 21 .add (S 20) (K 1)), (none, .mv 8 (S 21))])))
def c_spec_SplitAny_3 : ACode := .seq (.reg [(none, .keep [0, 1, 5, 6, 7] [] [576])]) (.reg [(none, .mv 14 (S 7)), (none, .bin 15 .add (S 14) (K 1)), (none, .mv 7 (S 15))])
def c_spec_SplitAny_1 : ACode := .seq (.reg [(none, .keep [0, 1, 5, 6, 7] [] [576])]) (.seq (.seq (.reg [(none, .mv 10 (S 7)), (none, .mv 11 (S 0)), (none, .slen 12 (S 11)), (none, .bin 13 .lss (S 10) (S 12))]) (.cond (S 13) .skip (.exit 0))) (.seq (.block 1 (.seq (.reg [(none, .mv 8 (K 0))]) (.block 2 (.loop c_spec_SplitAny_2)))) c_spec_SplitAny_3))
def c_spec_SplitAny_n1 : ACode := (.seq (.reg [(none, .mv 38 (S 5)), (none, .mv 39 (S 0)), (none, .mv 40 (S 6)), (none, .sslc 41 (S 39) (some (S 40)) none), (none, .bslice 42 1 [.str []] 1 [(0, (S 41))]), (none, .app 43 1 16 (S 38) (S 42)), (none, .mv 4 (S 43))]) .ret)
def c_spec_SplitAny : ACode := (.seq (.reg [(none, .mv 4 KN)]) (.seq (.reg [(none, .bslice 9 1 [.str []] 0 []), (none, .mv 5 (S 9))]) (.seq (.reg [(none, .mv 6 (K 0))]) (.seq (.seq (.reg [(none, .mv 7 (K 0))]) (.block 0 (.loop c_spec_SplitAny_1))) c_spec_SplitAny_n1))))
theorem w_spec_SplitAny_3 (a0 : List UInt8) (a1 : List UInt8) (v2 : Int) (k_spec_SplitAny_1 : Int → Int → (List (List UInt8)) → Option (List (List UInt8))) (hk_spec_SplitAny_1 : ∀ (v1 : Int) (v2 : Int) (v3 : List (List UInt8)) zr, k_spec_SplitAny_1 v1 v2 v3 = some zr → ∀ σ : St, σ.kept [0, 1, 5, 6, 7] [] [576] = ⟨[(0, vc (aS a0)), (1, vc (aS a1)), (5, vc (.own 576)), (6, vc (aI v1)), (7, vc (aI v2))], [], [(576, 1, List.map rS v3)]⟩ → go Tryz.prog (.code (.loop c_spec_SplitAny_1) :: [.blk 0, .code c_spec_SplitAny_n1]) (Ret [4] [.sc (.o 1 (List.map rS zr))]) .normal (some σ)) (v12 : Int) (v13 : List (List UInt8)) (r : (List (List UInt8))) (h : f_spec_SplitAny_3 a0 a1 v2 k_spec_SplitAny_1 v12 v13 = some r) (σ : St) (hσ : σ.kept [0, 1, 5, 6, 7] [] [576] = ⟨[(0, vc (aS a0)), (1, vc (aS a1)), (5, vc (.own 576)), (6, vc (aI v12)), (7, vc (aI v2))], [], [(576, 1, List.map rS v13)]⟩) : go Tryz.prog (.code c_spec_SplitAny_3 :: [.code (.loop c_spec_SplitAny_1), .blk 0, .code c_spec_SplitAny_n1]) (Ret [4] [.sc (.o 1 (List.map rS r))]) .normal (some σ) := by
  unfold f_spec_SplitAny_3 at h
  try simp only [hσ, c_spec_SplitAny_3, Nat.reduceBEq, Nat.reduceMul, Nat.reduceAdd, Nat.reduceDiv, Int.reduceBEq, rules2, rulesX, rowsX]
  refine hk_spec_SplitAny_1 _ _ _ _ h _ ?_
  try simp only [Nat.reduceBEq, Nat.reduceMul, Nat.reduceAdd, Nat.reduceDiv, Int.reduceBEq, rules2, rulesX, rowsX, List.map_nil]
theorem w_spec_SplitAny_2 (a0 : List UInt8) (a1 : List UInt8) (v1 : Int) (v2 : Int) (v3 : List (List UInt8)) (k_spec_SplitAny_1 : Int → Int → (List (List UInt8)) → Option (List (List UInt8))) (hk_spec_SplitAny_1 : ∀ (v1 : Int) (v2 : Int) (v3 : List (List UInt8)) zr, k_spec_SplitAny_1 v1 v2 v3 = some zr → ∀ σ : St, σ.kept [0, 1, 5, 6, 7] [] [576] = ⟨[(0, vc (aS a0)), (1, vc (aS a1)), (5, vc (.own 576)), (6, vc (aI v1)), (7, vc (aI v2))], [], [(576, 1, List.map rS v3)]⟩ → go Tryz.prog (.code (.loop c_spec_SplitAny_1) :: [.blk 0, .code c_spec_SplitAny_n1]) (Ret [4] [.sc (.o 1 (List.map rS zr))]) .normal (some σ)) : ∀ (n : Nat) (v5 : Int) (r : (List (List UInt8))), f_spec_SplitAny_2 a0 a1 v1 v2 v3 k_spec_SplitAny_1 n v5 = some r → ∀ σ : St, σ.kept [0, 1, 5, 6, 7, 8] [] [576] = ⟨[(0, vc (aS a0)), (1, vc (aS a1)), (5, vc (.own 576)), (6, vc (aI v1)), (7, vc (aI v2)), (8, vc (aI v5))], [], [(576, 1, List.map rS v3)]⟩ → go Tryz.prog (.code (.loop c_spec_SplitAny_2) :: [.blk 2, .blk 1, .code c_spec_SplitAny_3, .code (.loop c_spec_SplitAny_1), .blk 0, .code c_spec_SplitAny_n1]) (Ret [4] [.sc (.o 1 (List.map rS r))]) .normal (some σ) := by
  intro n
  induction n with
  | zero => intro _ r h; cases h
  | succ n ih =>
    intro v5 r h σ hσ
    rw [f_spec_SplitAny_2] at h
    refine go_round ?_
    rcases Bool.eq_false_or_eq_true (decide (v5 < (a1.length : Int))) with hb6 | hb6
    · rw [ite_t hb6] at h
      try simp only [hσ, hb6, c_spec_SplitAny_2, Nat.reduceBEq, Nat.reduceMul, Nat.reduceAdd, Nat.reduceDiv, Int.reduceBEq, rules2, rulesX, rowsX]
      refine go_fr_of rfl ?_
      obtain ⟨b7, hb7, h⟩ := ob h
      obtain ⟨b8, hb8, h⟩ := ob h
      rcases Bool.eq_false_or_eq_true ((b7.toNat : Int) == (b8.toNat : Int)) with hb9 | hb9
      · rw [ite_t hb9] at h
        obtain ⟨p10, hp10, h⟩ := ob h
        try simp only [hb6, hb7, hb8, hb9, hp10, Nat.reduceBEq, Nat.reduceMul, Nat.reduceAdd, Nat.reduceDiv, Int.reduceBEq, rules2, rulesX, rowsX]
        refine go_bsl (es := List.map rS ([((a0.drop p10.1).take (p10.2 - p10.1))] : List (List UInt8))) rfl rfl ?_
        obtain ⟨hg11, h⟩ := of_guard h
        try simp only [hb6, hb7, hb8, hb9, hp10, hg11, Nat.reduceBEq, Nat.reduceMul, Nat.reduceAdd, Nat.reduceDiv, Int.reduceBEq, rules2, rulesX, rowsX]
        refine w_spec_SplitAny_3 _ _ _ k_spec_SplitAny_1 hk_spec_SplitAny_1 _ _ _ h _ ?_
        try simp only [hb6, hb7, hb8, hb9, hp10, hg11, Nat.reduceBEq, Nat.reduceMul, Nat.reduceAdd, Nat.reduceDiv, Int.reduceBEq, rules2, rulesX, rowsX, List.map_nil]
      · rw [ite_f hb9] at h
        try simp only [hb6, hb7, hb8, hb9, Nat.reduceBEq, Nat.reduceMul, Nat.reduceAdd, Nat.reduceDiv, Int.reduceBEq, rules2, rulesX, rowsX]
        refine ih _ _ h _ ?_
        try simp only [hb6, hb7, hb8, hb9, Nat.reduceBEq, Nat.reduceMul, Nat.reduceAdd, Nat.reduceDiv, Int.reduceBEq, rules2, rulesX, rowsX, List.map_nil]
    · rw [ite_f hb6] at h
      try simp only [hσ, hb6, c_spec_SplitAny_2, Nat.reduceBEq, Nat.reduceMul, Nat.reduceAdd, Nat.reduceDiv, Int.reduceBEq, rules2, rulesX, rowsX]
      refine w_spec_SplitAny_3 _ _ _ k_spec_SplitAny_1 hk_spec_SplitAny_1 _ _ _ h _ ?_
      try simp only [hb6, Nat.reduceBEq, Nat.reduceMul, Nat.reduceAdd, Nat.reduceDiv, Int.reduceBEq, rules2, rulesX, rowsX, List.map_nil]
theorem w_spec_SplitAny_1 (a0 : List UInt8) (a1 : List UInt8) : ∀ (n : Nat) (v1 : Int) (v2 : Int) (v3 : List (List UInt8)) (r : (List (List UInt8))), f_spec_SplitAny_1 a0 a1 n v1 v2 v3 = some r → ∀ σ : St, σ.kept [0, 1, 5, 6, 7] [] [576] = ⟨[(0, vc (aS a0)), (1, vc (aS a1)), (5, vc (.own 576)), (6, vc (aI v1)), (7, vc (aI v2))], [], [(576, 1, List.map rS v3)]⟩ → go Tryz.prog (.code (.loop c_spec_SplitAny_1) :: [.blk 0, .code c_spec_SplitAny_n1]) (Ret [4] [.sc (.o 1 (List.map rS r))]) .normal (some σ) := by
  intro n
  induction n with
  | zero => intro _ _ _ r h; cases h
  | succ n ih =>
    intro v1 v2 v3 r h σ hσ
    rw [f_spec_SplitAny_1] at h
    refine go_round ?_
    rcases Bool.eq_false_or_eq_true (decide (v2 < (a0.length : Int))) with hb4 | hb4
    · rw [ite_t hb4] at h
      try simp only [hσ, hb4, c_spec_SplitAny_1, Nat.reduceBEq, Nat.reduceMul, Nat.reduceAdd, Nat.reduceDiv, Int.reduceBEq, rules2, rulesX, rowsX]
      refine w_spec_SplitAny_2 _ _ _ _ _ (f_spec_SplitAny_1 a0 a1 n) ih _ _ _ h _ ?_
      try simp only [hb4, Nat.reduceBEq, Nat.reduceMul, Nat.reduceAdd, Nat.reduceDiv, Int.reduceBEq, rules2, rulesX, rowsX, List.map_nil]
    · rw [ite_f hb4] at h
      obtain ⟨p14, hp14, h⟩ := ob h
      try simp only [hσ, hb4, hp14, c_spec_SplitAny_1, c_spec_SplitAny_n1, Nat.reduceBEq, Nat.reduceMul, Nat.reduceAdd, Nat.reduceDiv, Int.reduceBEq, rules2, rulesX, rowsX]
      refine go_bsl (es := List.map rS ([((a0.drop p14.1).take (p14.2 - p14.1))] : List (List UInt8))) rfl rfl ?_
      obtain ⟨hg15, h⟩ := of_guard h
      try simp only [hb4, hp14, hg15, Nat.reduceBEq, Nat.reduceMul, Nat.reduceAdd, Nat.reduceDiv, Int.reduceBEq, rules2, rulesX, rowsX]
      cases h
      exact ⟨⟨rfl, trivial⟩, rfl⟩
theorem e_spec_SplitAny : entry Tryz.prog 113 = some (c_spec_SplitAny.strip, [4], 44) := by kernel_rfl
theorem w_spec_SplitAny (a0 : List UInt8) (a1 : List UInt8) (r : (List (List UInt8))) (h : f_spec_SplitAny a0 a1 = some r) : FC Tryz.prog 113 [.sc (.str a0), .sc (.str a1)] [.sc (.o 1 (List.map rS r))] := by
  unfold f_spec_SplitAny at h
  refine FC_go (σ := ⟨[(0, vc (aS a0)), (1, vc (aS a1))], [], []⟩) mixed e_spec_SplitAny rfl rfl ?_
  simp only [c_spec_SplitAny]
  try simp only [Nat.reduceBEq, Nat.reduceMul, Nat.reduceAdd, Nat.reduceDiv, Int.reduceBEq, rules2, rulesX, rowsX]
  refine go_bsl (es := List.map rS ([] : List (List UInt8))) rfl rfl ?_
  try simp only [Nat.reduceBEq, Nat.reduceMul, Nat.reduceAdd, Nat.reduceDiv, Int.reduceBEq, rules2, rulesX, rowsX]
  refine w_spec_SplitAny_1 _ _ _ _ _ _ _ h _ ?_
  try simp only [Nat.reduceBEq, Nat.reduceMul, Nat.reduceAdd, Nat.reduceDiv, Int.reduceBEq, rules2, rulesX, rowsX, List.map_nil]
/- 66: spec_SplitLines -/
def c_spec_SplitLines : ACode := (.seq (.reg [(none, .mv 2 KN)]) (.seq (.reg [(none, .mv 4 (S 0)), (none, .call 5 113 [(S 4), (KS [10])]), (none, .frz 320), (none, .mv 3 (S 5))]) (.seq (.seq (.reg [(none, .mv 6 (S 3)), (none, .mv 7 (S 3)), (none, .len 8 (S 7)), (none, .bin 9 .sub (S 8) (K 1)), (none, .iaddr 10 (S 6) (S 9) 1), (none, .load 11 (S 10) false 1), (none, .bin 12 .eql (S 11) (KS []))]) (.cond (S 12) (.reg [(none, .mv 13 (S 3)), (none, .mv 14 (S 3)), (none, .len 15 (S 14)), (none, .bin 16 .sub (S 15) (K 1)), (none, .slc 17 1 (S 13) none (some (S 16)) none), (none, .mv 3 (S 17))]) .skip)) (.seq (.reg [(none, .mv 18 (S 3)), (none, .mv 2 (S 18))]) .ret))))
theorem e_spec_SplitLines : entry Tryz.prog 66 = some (c_spec_SplitLines.strip, [2], 19) := by kernel_rfl
theorem w_spec_SplitLines (a0 : List UInt8) (r : (List (List UInt8))) (h : f_spec_SplitLines a0 = some r) : FC Tryz.prog 66 [.sc (.str a0)] [.sc (.v (.sl (List.map rS r)))] := by
  unfold f_spec_SplitLines at h
  refine FC_go (σ := ⟨[(0, vc (aS a0))], [], []⟩) mixed e_spec_SplitLines rfl rfl ?_
  simp only [c_spec_SplitLines]
  obtain ⟨r1, hr1, h⟩ := ob h
  try simp only [Nat.reduceBEq, Nat.reduceMul, Nat.reduceAdd, Nat.reduceDiv, Int.reduceBEq, rules2, rulesX, rowsX]
  refine go_callI (w_spec_SplitAny _ _ _ hr1) rfl rfl (Nat.le_of_ble_eq_true rfl) ?_
  try simp only [Nat.reduceBEq, Nat.reduceMul, Nat.reduceAdd, Nat.reduceDiv, Int.reduceBEq, rules2, rulesX, rowsX]
  refine go_frz' rfl ?_
  obtain ⟨x2, hx2, h⟩ := ob h
  rcases Bool.eq_false_or_eq_true (x2 == ([] : List UInt8)) with hb3 | hb3
  · rw [ite_t hb3] at h
    obtain ⟨p4, hp4, h⟩ := ob h
    try simp only [hx2, hb3, hp4, Nat.reduceBEq, Nat.reduceMul, Nat.reduceAdd, Nat.reduceDiv, Int.reduceBEq, rules2, rulesX, rowsX]
    cases h
    exact ⟨⟨rfl, trivial⟩, rfl⟩
  · rw [ite_f hb3] at h
    try simp only [hx2, hb3, Nat.reduceBEq, Nat.reduceMul, Nat.reduceAdd, Nat.reduceDiv, Int.reduceBEq, rules2, rulesX, rowsX]
    cases h
    exact ⟨⟨rfl, trivial⟩, rfl⟩
/- 141: spec_IsDigits -/
def c_spec_IsDigits_1 : ACode := .seq (.reg [(none, .keep [0, 3] [] [])]) (.seq (.seq (.reg [(none, .mv 4 (S 3)), (none, .mv 5 (S 0)), (none, .slen 6 (S 5)), (none, .bin 7 .lss (S 4) (S 6))]) (.cond (S 7) .skip (.exit 0))) (.seq (.block 1 (.seq (.reg [(none, .mv 10 (S 0)), (none, .mv 11 (S 3)), (none, .idx 12 (S 10) (S 11)), (none, .bin 13 .lss (S 12) (K8 48)), (none, .mv 14 (S 13)), (some (14, false), .mv 15 (S 0)), (some (14, false), .mv 16 (S 3)), (some (14, false), .idx 17 (S 15) (S 16)), (some (14, false), .bin 18 .gtr (S 17) (K8 57)), (none, .pick 19 (S 14) (KB true) (S 18))]) (.cond (S 19) (.seq (.reg [(none, .mv 2 (KB false))]) .ret) .skip))) (.reg [(none, .mv 8 (S 3)), (none, .bin 9 .add (S 8) (K 1)), (none, .mv 3 (S 9))])))
def c_spec_IsDigits_n1 : ACode := (.seq (.reg [(none, .mv 20 (S 0)), (none, .slen 21 (S 20)), (none, .bin 22 .gtr (S 21) (K 0)), (none, .mv 2 (S 22))]) .ret)
def c_spec_IsDigits : ACode := (.seq (.reg [(none, .mv 2 (KB false))]) (.seq (.seq (.reg [(none, .mv 3 (K 0))]) (.block 0 (.loop c_spec_IsDigits_1))) c_spec_IsDigits_n1))
theorem w_spec_IsDigits_1 (a0 : List UInt8) : ∀ (n : Nat) (v1 : Int) (r : Bool), f_spec_IsDigits_1 a0 n v1 = some r → ∀ σ : St, σ.kept [0, 3] [] [] = ⟨[(0, vc (aS a0)), (3, vc (aI v1))], [], []⟩ → go Tryz.prog (.code (.loop c_spec_IsDigits_1) :: [.blk 0, .code c_spec_IsDigits_n1]) (Ret [2] [.sc (.v (.bool r))]) .normal (some σ) := by
  intro n
  induction n with
  | zero => intro _ r h; cases h
  | succ n ih =>
    intro v1 r h σ hσ
    rw [f_spec_IsDigits_1] at h
    refine go_round ?_
    rcases Bool.eq_false_or_eq_true (decide (v1 < (a0.length : Int))) with hb2 | hb2
    · rw [ite_t hb2] at h
      obtain ⟨b3, hb3, h⟩ := ob h
      rcases Bool.eq_false_or_eq_true (decide ((b3.toNat : Int) < (48 : Int))) with hb4 | hb4
      · rw [ite_t hb4] at h
        try simp only [hσ, hb2, hb3, hb4, c_spec_IsDigits_1, Nat.reduceBEq, Nat.reduceMul, Nat.reduceAdd, Nat.reduceDiv, Int.reduceBEq, rules2, rulesX, rowsX]
        cases h
        exact ⟨⟨rfl, trivial⟩, rfl⟩
      · rw [ite_f hb4] at h
        rcases Bool.eq_false_or_eq_true (decide ((57 : Int) < (b3.toNat : Int))) with hb5 | hb5
        · rw [ite_t hb5] at h
          try simp only [hσ, hb2, hb3, hb4, hb5, c_spec_IsDigits_1, Nat.reduceBEq, Nat.reduceMul, Nat.reduceAdd, Nat.reduceDiv, Int.reduceBEq, rules2, rulesX, rowsX]
          cases h
          exact ⟨⟨rfl, trivial⟩, rfl⟩
        · rw [ite_f hb5] at h
          try simp only [hσ, hb2, hb3, hb4, hb5, c_spec_IsDigits_1, Nat.reduceBEq, Nat.reduceMul, Nat.reduceAdd, Nat.reduceDiv, Int.reduceBEq, rules2, rulesX, rowsX]
          refine ih _ _ h _ ?_
          try simp only [hb2, hb3, hb4, hb5, Nat.reduceBEq, Nat.reduceMul, Nat.reduceAdd, Nat.reduceDiv, Int.reduceBEq, rules2, rulesX, rowsX, List.map_nil]
    · rw [ite_f hb2] at h
      try simp only [hσ, hb2, c_spec_IsDigits_1, c_spec_IsDigits_n1, Nat.reduceBEq, Nat.reduceMul, Nat.reduceAdd, Nat.reduceDiv, Int.reduceBEq, rules2, rulesX, rowsX]
      cases h
      exact ⟨⟨rfl, trivial⟩, rfl⟩
theorem e_spec_IsDigits : entry Tryz.prog 141 = some (c_spec_IsDigits.strip, [2], 23) := by kernel_rfl
theorem w_spec_IsDigits (a0 : List UInt8) (r : Bool) (h : f_spec_IsDigits a0 = some r) : FC Tryz.prog 141 [.sc (.str a0)] [.sc (.v (.bool r))] := by
  unfold f_spec_IsDigits at h
  refine FC_go (σ := ⟨[(0, vc (aS a0))], [], []⟩) mixed e_spec_IsDigits rfl rfl ?_
  simp only [c_spec_IsDigits]
  try simp only [Nat.reduceBEq, Nat.reduceMul, Nat.reduceAdd, Nat.reduceDiv, Int.reduceBEq, rules2, rulesX, rowsX]
  refine w_spec_IsDigits_1 _ _ _ _ h _ ?_
  try simp only [Nat.reduceBEq, Nat.reduceMul, Nat.reduceAdd, Nat.reduceDiv, Int.reduceBEq, rules2, rulesX, rowsX, List.map_nil]
/- 86: spec_FormatInt -/
def c_spec_FormatInt_1 : ACode := .seq (.reg [(none, .keep [0, 3] [] [])]) (.seq (.seq (.reg [(none, .mv 25 (S 0)), (none, .bin 26 .gtr (S 25) (K 9))]) (.cond (S 26) .skip (.exit 0))) (.block 1 (.seq (.reg [(none, .mv 27 (S 0)), (none, .bin 28 .rem (S 27) (K 10)), (none, .bin 29 .add (K 48) (S 28)), (none, .conv 30 .u8 (S 29)), (none, .bslice 31 1 [.int .u8 0] 1 [(0, (S 30))]), (none, .sconv 32 (S 31)), (none, .mv 33 (S 3)), (none, .bin 34 .add (S 32) (S 33)), (none, .mv 3 (S 34))]) (.reg [(none, .mv 35 (S 0)), (none, .bin 36 .quo (S 35) (K 10)), (none, .mv 0 (S 36))]))))
def c_spec_FormatInt_n1 : ACode := (.seq (.reg [(none, .mv 37 (S 0)), (none, .bin 38 .add (K 48) (S 37)), (none, .conv 39 .u8 (S 38)), (none, .bslice 40 1 [.int .u8 0] 1 [(0, (S 39))]), (none, .sconv 41 (S 40)), (none, .mv 42 (S 3)), (none, .bin 43 .add (S 41) (S 42)), (none, .mv 2 (S 43))]) .ret)
def c_spec_FormatInt : ACode := (.seq (.reg [(none, .mv 2 (KS []))]) (.seq (.seq (.reg [(none, .mv 4 (S 0)), (none, .bin 5 .lss (S 4) (K 0))]) (.cond (S 5) (.seq (.seq (.reg [(none, .mv 6 (S 0)), (none, .bin 7 .quo (S 6) (K 10)), (none, .bin 8 .eql (S 7) (K 0))]) (.cond (S 8) (.seq (.reg [(none, .mv 9 (S 0)), (none, .bin 10 .sub (K 48) (S 9)), (none, .conv 11 .u8 (S 10)), (none, .bslice 12 1 [.int .u8 0] 1 [(0, (S 11))]), (none, .sconv 13 (S 12)), (none, .bin 14 .add (KS [45]) (S 13)), (none, .mv 2 (S 14))]) .ret) .skip)) (.seq (.drw [(some [22], (none, .mv 15 (S 0))), (some [22], (none, .bin 16 .quo (S 15) (K 10))), (some [22], (none, .call 17 86 [(S 16)])), (some [17], (none, .mv 18 (S 0))), (some [17], (none, .bin 19 .rem (S 18) (K 10))), (some [17], (none, .bin 20 .sub (K 48) (S 19))), (some [17], (none, .conv 21 .u8 (S 20))), (some [17], (none, .bslice 22 1 [.int .u8 0] 1 [(0, (S 21))])), (some [17], (none, .sconv 23 (S 22))), (some [], (none, .bin 24 .add (S 17) (S 23))), (some [], (none, .mv 2 (S 24)))]) .ret)) .skip)) (.seq (.reg [(none, .mv 3 (KS []))]) (.seq (.block 0 (.loop c_spec_FormatInt_1)) c_spec_FormatInt_n1))))
theorem w_spec_FormatInt_1 (rec_ : Int → Option (List UInt8)) (h_rec : ∀ (a0 : Int) zr, rec_ a0 = some zr → FC Tryz.prog 86 [.sc (.int .i64 a0)] [.sc (.v (.str zr))]) : ∀ (n : Nat) (v6 : Int) (v7 : List UInt8) (r : (List UInt8)), f_spec_FormatInt_1 rec_ n v6 v7 = some r → ∀ σ : St, σ.kept [0, 3] [] [] = ⟨[(0, vc (aI v6)), (3, vc (aS v7))], [], []⟩ → go Tryz.prog (.code (.loop c_spec_FormatInt_1) :: [.blk 0, .code c_spec_FormatInt_n1]) (Ret [2] [.sc (.v (.str r))]) .normal (some σ) := by
  intro n
  induction n with
  | zero => intro _ _ r h; cases h
  | succ n ih =>
    intro v6 v7 r h σ hσ
    rw [f_spec_FormatInt_1] at h
    refine go_round ?_
    rcases Bool.eq_false_or_eq_true (decide ((9 : Int) < v6)) with hb8 | hb8
    · rw [ite_t hb8] at h
      try simp only [hσ, hb8, c_spec_FormatInt_1, Nat.reduceBEq, Nat.reduceMul, Nat.reduceAdd, Nat.reduceDiv, Int.reduceBEq, rules2, rulesX, rowsX]
      refine go_bsl (es := List.map r8 ([(IntKind.u8.wrap (IntKind.i64.wrap ((48 : Int) + (IntKind.i64.wrap (Int.tmod v6 (10 : Int))))))] : List Int)) rfl rfl ?_
      obtain ⟨hg9, h⟩ := of_guard h
      try simp only [hb8, hg9, Nat.reduceBEq, Nat.reduceMul, Nat.reduceAdd, Nat.reduceDiv, Int.reduceBEq, rules2, rulesX, rowsX]
      refine ih _ _ _ h _ ?_
      try simp only [hb8, hg9, Nat.reduceBEq, Nat.reduceMul, Nat.reduceAdd, Nat.reduceDiv, Int.reduceBEq, rules2, rulesX, rowsX, List.map_nil]
    · rw [ite_f hb8] at h
      try simp only [hσ, hb8, c_spec_FormatInt_1, c_spec_FormatInt_n1, Nat.reduceBEq, Nat.reduceMul, Nat.reduceAdd, Nat.reduceDiv, Int.reduceBEq, rules2, rulesX, rowsX]
      refine go_bsl (es := List.map r8 ([(IntKind.u8.wrap (IntKind.i64.wrap ((48 : Int) + v6)))] : List Int)) rfl rfl ?_
      obtain ⟨hg10, h⟩ := of_guard h
      try simp only [hb8, hg10, Nat.reduceBEq, Nat.reduceMul, Nat.reduceAdd, Nat.reduceDiv, Int.reduceBEq, rules2, rulesX, rowsX]
      cases h
      exact ⟨⟨rfl, trivial⟩, rfl⟩
theorem e_spec_FormatInt : entry Tryz.prog 86 = some (c_spec_FormatInt.strip, [2], 44) := by kernel_rfl
theorem w_spec_FormatInt_b (rec_ : Int → Option (List UInt8)) (a0 : Int) (r : (List UInt8)) (h_rec : ∀ (a0 : Int) zr, rec_ a0 = some zr → FC Tryz.prog 86 [.sc (.int .i64 a0)] [.sc (.v (.str zr))]) (h : f_spec_FormatInt_b rec_ a0 = some r) : FC Tryz.prog 86 [.sc (.int .i64 a0)] [.sc (.v (.str r))] := by
  unfold f_spec_FormatInt_b at h
  refine FC_go (σ := ⟨[(0, vc (aI a0))], [], []⟩) mixed e_spec_FormatInt rfl rfl ?_
  simp only [c_spec_FormatInt]
  rcases Bool.eq_false_or_eq_true (decide (a0 < (0 : Int))) with hb1 | hb1
  · rw [ite_t hb1] at h
    rcases Bool.eq_false_or_eq_true ((IntKind.i64.wrap (Int.tdiv a0 (10 : Int))) == (0 : Int)) with hb2 | hb2
    · rw [ite_t hb2] at h
      try simp only [hb1, hb2, Nat.reduceBEq, Nat.reduceMul, Nat.reduceAdd, Nat.reduceDiv, Int.reduceBEq, rules2, rulesX, rowsX]
      refine go_bsl (es := List.map r8 ([(IntKind.u8.wrap (IntKind.i64.wrap ((48 : Int) - a0)))] : List Int)) rfl rfl ?_
      obtain ⟨hg3, h⟩ := of_guard h
      try simp only [hb1, hb2, hg3, Nat.reduceBEq, Nat.reduceMul, Nat.reduceAdd, Nat.reduceDiv, Int.reduceBEq, rules2, rulesX, rowsX]
      cases h
      exact ⟨⟨rfl, trivial⟩, rfl⟩
    · rw [ite_f hb2] at h
      try simp only [hb1, hb2, Nat.reduceBEq, Nat.reduceMul, Nat.reduceAdd, Nat.reduceDiv, Int.reduceBEq, rules2, rulesX, rowsX]
      refine go_fr_of rfl ?_
      obtain ⟨r4, hr4, h⟩ := ob h
      try simp only [hb1, hb2, Nat.reduceBEq, Nat.reduceMul, Nat.reduceAdd, Nat.reduceDiv, Int.reduceBEq, rules2, rulesX, rowsX]
      refine go_dcallI (h_rec _ _ hr4) rfl rfl (Nat.le_of_ble_eq_true rfl) ?_
      try simp only [hb1, hb2, Nat.reduceBEq, Nat.reduceMul, Nat.reduceAdd, Nat.reduceDiv, Int.reduceBEq, rules2, rulesX, rowsX]
      refine go_mkN (m := .row 22 1 (List.map r8 ([(IntKind.u8.wrap (IntKind.i64.wrap ((48 : Int) - (IntKind.i64.wrap (Int.tmod a0 (10 : Int))))))] : List Int))) rfl rfl (make_row rfl) ?_
      obtain ⟨hg5, h⟩ := of_guard h
      try simp only [hb1, hb2, hg5, Nat.reduceBEq, Nat.reduceMul, Nat.reduceAdd, Nat.reduceDiv, Int.reduceBEq, rules2, rulesX, rowsX]
      cases h
      exact ⟨⟨rfl, trivial⟩, rfl⟩
  · rw [ite_f hb1] at h
    try simp only [hb1, Nat.reduceBEq, Nat.reduceMul, Nat.reduceAdd, Nat.reduceDiv, Int.reduceBEq, rules2, rulesX, rowsX]
    refine w_spec_FormatInt_1 rec_ h_rec _ _ _ _ h _ ?_
    try simp only [hb1, Nat.reduceBEq, Nat.reduceMul, Nat.reduceAdd, Nat.reduceDiv, Int.reduceBEq, rules2, rulesX, rowsX, List.map_nil]
theorem w_spec_FormatInt_r : ∀ (n : Nat) (a0 : Int) (r : (List UInt8)), f_spec_FormatInt_r n a0 = some r → FC Tryz.prog 86 [.sc (.int .i64 a0)] [.sc (.v (.str r))] := by
  intro n
  induction n with
  | zero => intro _ r h; cases h
  | succ n ih => intro a0 r h; rw [f_spec_FormatInt_r] at h; exact w_spec_FormatInt_b (f_spec_FormatInt_r n) a0 r ih h
theorem w_spec_FormatInt (a0 : Int) (r : (List UInt8)) (h : f_spec_FormatInt a0 = some r) : FC Tryz.prog 86 [.sc (.int .i64 a0)] [.sc (.v (.str r))] := w_spec_FormatInt_r bigN a0 r h
/- 114: spec_ParseInt -/
def c_spec_ParseInt_3 : ACode := .seq (.reg [(none, .keep [0, 4, 5, 28] [] [])]) (.cond (S 28) (.seq (.reg [(none, .mv 2 (K 0)), (none, .mv 3 (KB false))]) .ret) .skip)
def c_spec_ParseInt_4 : ACode := .seq (.reg [(none, .keep [0, 4, 5, 6, 7] [] [])]) (.seq (.seq (.reg [(none, .mv 29 (S 7)), (none, .mv 30 (S 5)), (none, .slen 31 (S 30)), (none, .bin 32 .lss (S 29) (S 31))]) (.cond (S 32) .skip (.exit 0))) (.seq (.block 1 (.seq (.reg [(none, .mv 35 (S 5)), (none, .mv 36 (S 7)), (none, .idx 37 (S 35) (S 36)), (none, .conv 38 .i64 (S 37)), (none, .bin 39 .sub (S 38) (K 48)), (none, .mv 8 (S 39))]) (.seq (.seq (.reg [(none, .mv 40 (S 6)), (none, .mv 41 (S 8)), (none, .bin 42 .add (K (-9223372036854775808)) (S 41)), (none, .bin 43 .quo (S 42) (K 10)), (none, .bin 44 .lss (S 40) (S 43))]) (.cond (S 44) (.seq (.reg [(none, .mv 2 (K 0)), (none, .mv 3 (KB false))]) .ret) .skip)) (.reg [(none, .mv 45 (S 6)), (none, .bin 46 .mul (S 45) (K 10)), (none, .mv 47 (S 8)), (none, .bin 48 .sub (S 46) (S 47)), (none, .mv 6 (S 48))])))) (.reg [(none, .mv 33 (S 7)), (none, .bin 34 .add (S 33) (K 1)), (none, .mv 7 (S 34))])))
def c_spec_ParseInt_5 : ACode := .seq (.reg [(none, .keep [0, 6] [] [])]) (.seq (.seq (.reg [(none, .mv 55 (S 6)), (none, .call 56 86 [(S 55)]), (none, .mv 57 (S 0)), (none, .bin 58 .neq (S 56) (S 57))]) (.cond (S 58) (.seq (.reg [(none, .mv 2 (K 0)), (none, .mv 3 (KB false))]) .ret) .skip)) (.seq (.reg [(none, .mv 59 (S 6)), (none, .mv 2 (S 59)), (none, .mv 3 (KB true))]) .ret))
def c_spec_ParseInt_n2 : ACode := (.seq (.seq (.reg [(none, .mv 49 (S 4)), (none, .un 50 .not (S 49))]) (.cond (S 50) (.seq (.seq (.reg [(none, .mv 51 (S 6)), (none, .bin 52 .eql (S 51) (K (-9223372036854775808)))]) (.cond (S 52) (.seq (.reg [(none, .mv 2 (K 0)), (none, .mv 3 (KB false))]) .ret) .skip)) (.reg [(none, .mv 53 (S 6)), (none, .un 54 .neg (S 53)), (none, .mv 6 (S 54))])) .skip)) c_spec_ParseInt_5)
def c_spec_ParseInt_n1 : ACode := (.seq (.reg [(none, .mv 6 (K 0))]) (.seq (.seq (.reg [(none, .mv 7 (K 0))]) (.block 0 (.loop c_spec_ParseInt_4))) c_spec_ParseInt_n2))
def c_spec_ParseInt_2 : ACode := .seq (.reg [(none, .keep [0, 4, 5] [] [])]) (.seq (.seq (.reg [(none, .mv 21 (S 5)), (none, .call 22 141 [(S 21)]), (none, .un 23 .not (S 22)), (none, .mv 24 (S 23)), (some (24, false), .mv 25 (S 5)), (some (24, false), .slen 26 (S 25)), (some (24, false), .bin 27 .gtr (S 26) (K 19)), (none, .pick 28 (S 24) (KB true) (S 27))]) c_spec_ParseInt_3) c_spec_ParseInt_n1)
def c_spec_ParseInt_1 : ACode := .seq (.reg [(none, .keep [0, 4] [] [])]) (.seq (.reg [(none, .mv 17 (S 0)), (none, .mv 5 (S 17))]) (.seq (.seq (.reg [(none, .mv 18 (S 4))]) (.cond (S 18) (.reg [(none, .mv 19 (S 0)), (none, .sslc 20 (S 19) (some (K 1)) none), (none, .mv 5 (S 20))]) .skip)) c_spec_ParseInt_2))
def c_spec_ParseInt : ACode := (.seq (.reg [(none, .mv 2 (K 0)), (none, .mv 3 (KB false))]) (.seq (.reg [(none, .mv 9 (S 0)), (none, .slen 10 (S 9)), (none, .bin 11 .gtr (S 10) (K 0)), (none, .mv 12 (S 11)), (some (12, true), .mv 13 (S 0)), (some (12, true), .idx 14 (S 13) (K 0)), (some (12, true), .bin 15 .eql (S 14) (K8 45)), (none, .pick 16 (S 12) (S 15) (KB false)), (none, .mv 4 (S 16))]) c_spec_ParseInt_1))
theorem w_spec_ParseInt_5 (a0 : List UInt8) (v19 : Int) (r : Int × Bool) (h : f_spec_ParseInt_5 a0 v19 = some r) (σ : St) (hσ : σ.kept [0, 6] [] [] = ⟨[(0, vc (aS a0)), (6, vc (aI v19))], [], []⟩) : go Tryz.prog (.code c_spec_ParseInt_5 :: []) (Ret [2, 3] [.sc (.v (.int .i64 r.1)), .sc (.v (.bool r.2))]) .normal (some σ) := by
  unfold f_spec_ParseInt_5 at h
  obtain ⟨r20, hr20, h⟩ := ob h
  try simp only [hσ, c_spec_ParseInt_5, Nat.reduceBEq, Nat.reduceMul, Nat.reduceAdd, Nat.reduceDiv, Int.reduceBEq, rules2, rulesX, rowsX]
  refine go_callI (w_spec_FormatInt _ _ hr20) rfl rfl (Nat.le_of_ble_eq_true rfl) ?_
  rcases Bool.eq_false_or_eq_true (r20 == a0) with hb21 | hb21
  · rw [ite_t hb21] at h
    try simp only [hb21, Nat.reduceBEq, Nat.reduceMul, Nat.reduceAdd, Nat.reduceDiv, Int.reduceBEq, rules2, rulesX, rowsX]
    cases h
    exact ⟨⟨rfl, rfl, trivial⟩, rfl⟩
  · rw [ite_f hb21] at h
    try simp only [hb21, Nat.reduceBEq, Nat.reduceMul, Nat.reduceAdd, Nat.reduceDiv, Int.reduceBEq, rules2, rulesX, rowsX]
    cases h
    exact ⟨⟨rfl, rfl, trivial⟩, rfl⟩
theorem w_spec_ParseInt_4 (a0 : List UInt8) (v6 : Bool) (v7 : List UInt8) : ∀ (n : Nat) (v12 : Int) (v13 : Int) (r : Int × Bool), f_spec_ParseInt_4 a0 v6 v7 n v12 v13 = some r → ∀ σ : St, σ.kept [0, 4, 5, 6, 7] [] [] = ⟨[(0, vc (aS a0)), (4, vc (aB v6)), (5, vc (aS v7)), (6, vc (aI v12)), (7, vc (aI v13))], [], []⟩ → go Tryz.prog (.code (.loop c_spec_ParseInt_4) :: [.blk 0, .code c_spec_ParseInt_n2]) (Ret [2, 3] [.sc (.v (.int .i64 r.1)), .sc (.v (.bool r.2))]) .normal (some σ) := by
  intro n
  induction n with
  | zero => intro _ _ r h; cases h
  | succ n ih =>
    intro v12 v13 r h σ hσ
    rw [f_spec_ParseInt_4] at h
    refine go_round ?_
    rcases Bool.eq_false_or_eq_true (decide (v13 < (v7.length : Int))) with hb14 | hb14
    · rw [ite_t hb14] at h
      obtain ⟨b15, hb15, h⟩ := ob h
      rcases Bool.eq_false_or_eq_true (decide (v12 < (IntKind.i64.wrap (Int.tdiv (IntKind.i64.wrap ((-9223372036854775808 : Int) + (IntKind.i64.wrap ((IntKind.i64.wrap (b15.toNat : Int)) - (48 : Int))))) (10 : Int))))) with hb16 | hb16
      · rw [ite_t hb16] at h
        try simp only [hσ, hb14, hb15, hb16, c_spec_ParseInt_4, Nat.reduceBEq, Nat.reduceMul, Nat.reduceAdd, Nat.reduceDiv, Int.reduceBEq, rules2, rulesX, rowsX]
        cases h
        exact ⟨⟨rfl, rfl, trivial⟩, rfl⟩
      · rw [ite_f hb16] at h
        try simp only [hσ, hb14, hb15, hb16, c_spec_ParseInt_4, Nat.reduceBEq, Nat.reduceMul, Nat.reduceAdd, Nat.reduceDiv, Int.reduceBEq, rules2, rulesX, rowsX]
        refine ih _ _ _ h _ ?_
        try simp only [hb14, hb15, hb16, Nat.reduceBEq, Nat.reduceMul, Nat.reduceAdd, Nat.reduceDiv, Int.reduceBEq, rules2, rulesX, rowsX, List.map_nil]
    · rw [ite_f hb14] at h
      rcases Bool.eq_false_or_eq_true v6 with hb17 | hb17
      · rw [ite_t hb17] at h
        try simp only [hσ, hb14, hb17, c_spec_ParseInt_4, c_spec_ParseInt_n2, Nat.reduceBEq, Nat.reduceMul, Nat.reduceAdd, Nat.reduceDiv, Int.reduceBEq, rules2, rulesX, rowsX]
        refine w_spec_ParseInt_5 _ _ _ h _ ?_
        try simp only [hb14, hb17, Nat.reduceBEq, Nat.reduceMul, Nat.reduceAdd, Nat.reduceDiv, Int.reduceBEq, rules2, rulesX, rowsX, List.map_nil]
      · rw [ite_f hb17] at h
        rcases Bool.eq_false_or_eq_true (v12 == (-9223372036854775808 : Int)) with hb18 | hb18
        · rw [ite_t hb18] at h
          try simp only [hσ, hb14, hb17, hb18, c_spec_ParseInt_4, c_spec_ParseInt_n2, Nat.reduceBEq, Nat.reduceMul, Nat.reduceAdd, Nat.reduceDiv, Int.reduceBEq, rules2, rulesX, rowsX]
          cases h
          exact ⟨⟨rfl, rfl, trivial⟩, rfl⟩
        · rw [ite_f hb18] at h
          try simp only [hσ, hb14, hb17, hb18, c_spec_ParseInt_4, c_spec_ParseInt_n2, Nat.reduceBEq, Nat.reduceMul, Nat.reduceAdd, Nat.reduceDiv, Int.reduceBEq, rules2, rulesX, rowsX]
          refine w_spec_ParseInt_5 _ _ _ h _ ?_
          try simp only [hb14, hb17, hb18, Nat.reduceBEq, Nat.reduceMul, Nat.reduceAdd, Nat.reduceDiv, Int.reduceBEq, rules2, rulesX, rowsX, List.map_nil]
theorem w_spec_ParseInt_3 (a0 : List UInt8) (v6 : Bool) (v7 : List UInt8) (v10 : Bool) (r : Int × Bool) (h : f_spec_ParseInt_3 a0 v6 v7 v10 = some r) (σ : St) (hσ : σ.kept [0, 4, 5, 28] [] [] = ⟨[(0, vc (aS a0)), (4, vc (aB v6)), (5, vc (aS v7)), (28, vc (aB v10))], [], []⟩) : go Tryz.prog (.code c_spec_ParseInt_3 :: [.code c_spec_ParseInt_n1]) (Ret [2, 3] [.sc (.v (.int .i64 r.1)), .sc (.v (.bool r.2))]) .normal (some σ) := by
  unfold f_spec_ParseInt_3 at h
  rcases Bool.eq_false_or_eq_true v10 with hb11 | hb11
  · rw [ite_t hb11] at h
    try simp only [hσ, hb11, c_spec_ParseInt_3, Nat.reduceBEq, Nat.reduceMul, Nat.reduceAdd, Nat.reduceDiv, Int.reduceBEq, rules2, rulesX, rowsX]
    cases h
    exact ⟨⟨rfl, rfl, trivial⟩, rfl⟩
  · rw [ite_f hb11] at h
    try simp only [hσ, hb11, c_spec_ParseInt_3, c_spec_ParseInt_n1, Nat.reduceBEq, Nat.reduceMul, Nat.reduceAdd, Nat.reduceDiv, Int.reduceBEq, rules2, rulesX, rowsX]
    refine w_spec_ParseInt_4 _ _ _ _ _ _ _ h _ ?_
    try simp only [hb11, Nat.reduceBEq, Nat.reduceMul, Nat.reduceAdd, Nat.reduceDiv, Int.reduceBEq, rules2, rulesX, rowsX, List.map_nil]
theorem w_spec_ParseInt_2 (a0 : List UInt8) (v6 : Bool) (v7 : List UInt8) (r : Int × Bool) (h : f_spec_ParseInt_2 a0 v6 v7 = some r) (σ : St) (hσ : σ.kept [0, 4, 5] [] [] = ⟨[(0, vc (aS a0)), (4, vc (aB v6)), (5, vc (aS v7))], [], []⟩) : go Tryz.prog (.code c_spec_ParseInt_2 :: []) (Ret [2, 3] [.sc (.v (.int .i64 r.1)), .sc (.v (.bool r.2))]) .normal (some σ) := by
  unfold f_spec_ParseInt_2 at h
  obtain ⟨r8, hr8, h⟩ := ob h
  try simp only [hσ, c_spec_ParseInt_2, Nat.reduceBEq, Nat.reduceMul, Nat.reduceAdd, Nat.reduceDiv, Int.reduceBEq, rules2, rulesX, rowsX]
  refine go_callI (w_spec_IsDigits _ _ hr8) rfl rfl (Nat.le_of_ble_eq_true rfl) ?_
  rcases Bool.eq_false_or_eq_true r8 with hb9 | hb9
  · rw [ite_t hb9] at h
    try simp only [hb9, Nat.reduceBEq, Nat.reduceMul, Nat.reduceAdd, Nat.reduceDiv, Int.reduceBEq, rules2, rulesX, rowsX]
    refine w_spec_ParseInt_3 _ _ _ _ _ h _ ?_
    try simp only [hb9, Nat.reduceBEq, Nat.reduceMul, Nat.reduceAdd, Nat.reduceDiv, Int.reduceBEq, rules2, rulesX, rowsX, List.map_nil]
  · rw [ite_f hb9] at h
    try simp only [hb9, Nat.reduceBEq, Nat.reduceMul, Nat.reduceAdd, Nat.reduceDiv, Int.reduceBEq, rules2, rulesX, rowsX]
    refine w_spec_ParseInt_3 _ _ _ _ _ h _ ?_
    try simp only [hb9, Nat.reduceBEq, Nat.reduceMul, Nat.reduceAdd, Nat.reduceDiv, Int.reduceBEq, rules2, rulesX, rowsX, List.map_nil]
theorem w_spec_ParseInt_1 (a0 : List UInt8) (v3 : Bool) (r : Int × Bool) (h : f_spec_ParseInt_1 a0 v3 = some r) (σ : St) (hσ : σ.kept [0, 4] [] [] = ⟨[(0, vc (aS a0)), (4, vc (aB v3))], [], []⟩) : go Tryz.prog (.code c_spec_ParseInt_1 :: []) (Ret [2, 3] [.sc (.v (.int .i64 r.1)), .sc (.v (.bool r.2))]) .normal (some σ) := by
  unfold f_spec_ParseInt_1 at h
  rcases Bool.eq_false_or_eq_true v3 with hb4 | hb4
  · rw [ite_t hb4] at h
    obtain ⟨p5, hp5, h⟩ := ob h
    try simp only [hσ, hb4, hp5, c_spec_ParseInt_1, Nat.reduceBEq, Nat.reduceMul, Nat.reduceAdd, Nat.reduceDiv, Int.reduceBEq, rules2, rulesX, rowsX]
    refine w_spec_ParseInt_2 _ _ _ _ h _ ?_
    try simp only [hb4, hp5, Nat.reduceBEq, Nat.reduceMul, Nat.reduceAdd, Nat.reduceDiv, Int.reduceBEq, rules2, rulesX, rowsX, List.map_nil]
  · rw [ite_f hb4] at h
    try simp only [hσ, hb4, c_spec_ParseInt_1, Nat.reduceBEq, Nat.reduceMul, Nat.reduceAdd, Nat.reduceDiv, Int.reduceBEq, rules2, rulesX, rowsX]
    refine w_spec_ParseInt_2 _ _ _ _ h _ ?_
    try simp only [hb4, Nat.reduceBEq, Nat.reduceMul, Nat.reduceAdd, Nat.reduceDiv, Int.reduceBEq, rules2, rulesX, rowsX, List.map_nil]
theorem e_spec_ParseInt : entry Tryz.prog 114 = some (c_spec_ParseInt.strip, [2, 3], 60) := by kernel_rfl
theorem w_spec_ParseInt (a0 : List UInt8) (r : Int × Bool) (h : f_spec_ParseInt a0 = some r) : FC Tryz.prog 114 [.sc (.str a0)] [.sc (.v (.int .i64 r.1)), .sc (.v (.bool r.2))] := by
  unfold f_spec_ParseInt at h
  refine FC_go (σ := ⟨[(0, vc (aS a0))], [], []⟩) mixed e_spec_ParseInt rfl rfl ?_
  simp only [c_spec_ParseInt]
  rcases Bool.eq_false_or_eq_true (decide ((0 : Int) < (a0.length : Int))) with hb1 | hb1
  · rw [ite_t hb1] at h
    obtain ⟨b2, hb2, h⟩ := ob h
    try simp only [hb1, hb2, Nat.reduceBEq, Nat.reduceMul, Nat.reduceAdd, Nat.reduceDiv, Int.reduceBEq, rules2, rulesX, rowsX]
    refine w_spec_ParseInt_1 _ _ _ h _ ?_
    try simp only [hb1, hb2, Nat.reduceBEq, Nat.reduceMul, Nat.reduceAdd, Nat.reduceDiv, Int.reduceBEq, rules2, rulesX, rowsX, List.map_nil]
  · rw [ite_f hb1] at h
    try simp only [hb1, Nat.reduceBEq, Nat.reduceMul, Nat.reduceAdd, Nat.reduceDiv, Int.reduceBEq, rules2, rulesX, rowsX]
    refine w_spec_ParseInt_1 _ _ _ h _ ?_
    try simp only [hb1, Nat.reduceBEq, Nat.reduceMul, Nat.reduceAdd, Nat.reduceDiv, Int.reduceBEq, rules2, rulesX, rowsX, List.map_nil]
/- 142: spec_SumOfText -/
def c_spec_SumOfText_1 : ACode := .seq (.reg [(none, .keep [0, 3, 4] [] [])]) (.seq (.seq (.reg [(none, .mv 5 (S 4)), (none, .mv 6 (S 0)), (none, .slen 7 (S 6)), (none, .bin 8 .lss (S 5) (S 7))]) (.cond (S 8) .skip (.exit 0))) (.seq (.block 1 (.reg [(none, .mv 11 (S 3)), (none, .bin 12 .mul (K 31) (S 11)), (none, .mv 13 (S 0)), (none, .mv 14 (S 4)), (none, .idx 15 (S 13) (S 14)), (none, .conv 16 .i64 (S 15)), (none, .bin 17 .add (S 12) (S 16)), (none, .bin 18 .rem (S 17) (K 65521)), (none, .mv 3 (S 18))])) (.reg [(none, .mv 9 (S 4)), (none, .bin 10 .add (S 9) (K 1)), (none, .mv 4 (S 10))])))
def c_spec_SumOfText_n1 : ACode := (.seq (.reg [(none, .mv 19 (S 3)), (none, .mv 2 (S 19))]) .ret)
def c_spec_SumOfText : ACode := (.seq (.reg [(none, .mv 2 (K 0))]) (.seq (.reg [(none, .mv 3 (K 7))]) (.seq (.seq (.reg [(none, .mv 4 (K 0))]) (.block 0 (.loop c_spec_SumOfText_1))) c_spec_SumOfText_n1)))
theorem w_spec_SumOfText_1 (a0 : List UInt8) : ∀ (n : Nat) (v1 : Int) (v2 : Int) (r : Int), f_spec_SumOfText_1 a0 n v1 v2 = some r → ∀ σ : St, σ.kept [0, 3, 4] [] [] = ⟨[(0, vc (aS a0)), (3, vc (aI v1)), (4, vc (aI v2))], [], []⟩ → go Tryz.prog (.code (.loop c_spec_SumOfText_1) :: [.blk 0, .code c_spec_SumOfText_n1]) (Ret [2] [.sc (.v (.int .i64 r))]) .normal (some σ) := by
  intro n
  induction n with
  | zero => intro _ _ r h; cases h
  | succ n ih =>
    intro v1 v2 r h σ hσ
    rw [f_spec_SumOfText_1] at h
    refine go_round ?_
    rcases Bool.eq_false_or_eq_true (decide (v2 < (a0.length : Int))) with hb3 | hb3
    · rw [ite_t hb3] at h
      obtain ⟨b4, hb4, h⟩ := ob h
      try simp only [hσ, hb3, hb4, c_spec_SumOfText_1, Nat.reduceBEq, Nat.reduceMul, Nat.reduceAdd, Nat.reduceDiv, Int.reduceBEq, rules2, rulesX, rowsX]
      refine ih _ _ _ h _ ?_
      try simp only [hb3, hb4, Nat.reduceBEq, Nat.reduceMul, Nat.reduceAdd, Nat.reduceDiv, Int.reduceBEq, rules2, rulesX, rowsX, List.map_nil]
    · rw [ite_f hb3] at h
      try simp only [hσ, hb3, c_spec_SumOfText_1, c_spec_SumOfText_n1, Nat.reduceBEq, Nat.reduceMul, Nat.reduceAdd, Nat.reduceDiv, Int.reduceBEq, rules2, rulesX, rowsX]
      cases h
      exact ⟨⟨rfl, trivial⟩, rfl⟩
theorem e_spec_SumOfText : entry Tryz.prog 142 = some (c_spec_SumOfText.strip, [2], 20) := by kernel_rfl
theorem w_spec_SumOfText (a0 : List UInt8) (r : Int) (h : f_spec_SumOfText a0 = some r) : FC Tryz.prog 142 [.sc (.str a0)] [.sc (.v (.int .i64 r))] := by
  unfold f_spec_SumOfText at h
  refine FC_go (σ := ⟨[(0, vc (aS a0))], [], []⟩) mixed e_spec_SumOfText rfl rfl ?_
  simp only [c_spec_SumOfText]
  try simp only [Nat.reduceBEq, Nat.reduceMul, Nat.reduceAdd, Nat.reduceDiv, Int.reduceBEq, rules2, rulesX, rowsX]
  refine w_spec_SumOfText_1 _ _ _ _ _ h _ ?_
  try simp only [Nat.reduceBEq, Nat.reduceMul, Nat.reduceAdd, Nat.reduceDiv, Int.reduceBEq, rules2, rulesX, rowsX, List.map_nil]
/- 115: spec_FormatEntry -/
def c_spec_FormatEntry : ACode := (.seq (.reg [(none, .box 1 (S 0)), (none, .mv 2 (KS []))]) (.seq (.seq (.reg [(none, .faddr 5 (S 1) 0), (none, .load 6 (S 5) false 1), (none, .call 7 65 [(S 6), (K 1), (K 4)]), (none, .un 8 .not (S 7)), (none, .mv 9 (S 8)), (some (9, false), .faddr 10 (S 1) 1), (some (9, false), .load 11 (S 10) false 1), (some (9, false), .call 12 65 [(S 11), (K 0), (K 2880)]), (some (9, false), .un 13 .not (S 12)), (none, .pick 14 (S 9) (KB true) (S 13)), (none, .mv 15 (S 14)), (some (15, false), .faddr 16 (S 1) 2), (some (15, false), .load 17 (S 16) false 1), (some (15, false), .call 18 65 [(S 17), (K 0), (K 2880)]), (some (15, false), .un 19 .not (S 18)), (none, .pick 20 (S 15) (KB true) (S 19)), (none, .mv 21 (S 20)), (some (21, false), .faddr 22 (S 1) 3), (some (21, false), .load 23 (S 22) false 1), (some (21, false), .call 24 65 [(S 23), (K 0), (K 2880)]), (some (21, false), .un 25 .not (S 24)), (none, .pick 26 (S 21) (KB true) (S 25))]) (.cond (S 26) (.seq (.reg [(none, .mv 2 (KS []))]) .ret) .skip)) (.seq (.reg [(none, .bslice 27 1 [.str []] 4 [(0, (KS [97, 110, 110, 111, 117, 110, 99, 101])), (1, (KS [99, 108, 101, 97, 114])), (2, (KS [99, 97, 110, 99, 101, 108])), (3, (KS [116, 105, 99, 107]))]), (none, .faddr 28 (S 1) 0), (none, .load 29 (S 28) false 1), (none, .bin 30 .sub (S 29) (K 1)), (none, .iaddr 31 (S 27) (S 30) 1), (none, .load 32 (S 31) false 1), (none, .mv 3 (S 32))]) (.seq (.drw [(some [37, 42, 47], (none, .mv 33 (S 3))), (some [37, 42, 47], (none, .bin 34 .add (S 33) (KS [32]))), (some [], (none, .faddr 35 (S 1) 1)), (some [], (none, .load 36 (S 35) false 1)), (some [], (none, .call 37 86 [(S 36)])), (some [42, 47], (none, .bin 38 .add (S 34) (S 37))), (some [42, 47], (none, .bin 39 .add (S 38) (KS [32]))), (some [37], (none, .faddr 40 (S 1) 2)), (some [37], (none, .load 41 (S 40) false 1)), (some [], (none, .call 42 86 [(S 41)])), (some [47], (none, .bin 43 .add (S 39) (S 42))), (some [47], (none, .bin 44 .add (S 43) (KS [32]))), (some [37, 42], (none, .faddr 45 (S 1) 3)), (some [37, 42], (none, .load 46 (S 45) false 1)), (some [], (none, .call 47 86 [(S 46)])), (some [], (none, .bin 48 .add (S 44) (S 47))), (some [], (none, .mv 4 (S 48)))]) (.seq (.reg [(none, .mv 49 (S 4)), (none, .bin 50 .add (S 49) (KS [32, 35])), (none, .mv 51 (S 4)), (none, .call 52 142 [(S 51)]), (none, .call 53 86 [(S 52)]), (none, .bin 54 .add (S 50) (S 53)), (none, .mv 2 (S 54))]) .ret)))))
theorem e_spec_FormatEntry : entry Tryz.prog 115 = some (c_spec_FormatEntry.strip, [2], 55) := by kernel_rfl
theorem w_spec_FormatEntry (a0 : XEntry) (r : (List UInt8)) (h : f_spec_FormatEntry a0 = some r) : FC Tryz.prog 115 [.ag (XEntry.row a0)] [.sc (.v (.str r))] := by
  unfold f_spec_FormatEntry at h
  refine FC_go (σ := ⟨[(0, va [aI a0.Kind, aI a0.At, aI a0.Call, aI a0.Value])], [], []⟩) mixed e_spec_FormatEntry rfl rfl ?_
  simp only [c_spec_FormatEntry]
  try simp only [Nat.reduceBEq, Nat.reduceMul, Nat.reduceAdd, Nat.reduceDiv, Int.reduceBEq, rules2, rulesX, rowsX]
  refine go_bx rfl rfl rfl ?_
  obtain ⟨r1, hr1, h⟩ := ob h
  try simp only [Nat.reduceBEq, Nat.reduceMul, Nat.reduceAdd, Nat.reduceDiv, Int.reduceBEq, rules2, rulesX, rowsX]
  refine go_callI (w_spec_l01In _ _ _ _ hr1) rfl rfl (Nat.le_of_ble_eq_true rfl) ?_
  rcases Bool.eq_false_or_eq_true r1 with hb2 | hb2
  · rw [ite_t hb2] at h
    obtain ⟨r3, hr3, h⟩ := ob h
    try simp only [hb2, Nat.reduceBEq, Nat.reduceMul, Nat.reduceAdd, Nat.reduceDiv, Int.reduceBEq, rules2, rulesX, rowsX]
    refine go_callI (w_spec_l01In _ _ _ _ hr3) rfl rfl (Nat.le_of_ble_eq_true rfl) ?_
    rcases Bool.eq_false_or_eq_true r3 with hb4 | hb4
    · rw [ite_t hb4] at h
      obtain ⟨r5, hr5, h⟩ := ob h
      try simp only [hb2, hb4, Nat.reduceBEq, Nat.reduceMul, Nat.reduceAdd, Nat.reduceDiv, Int.reduceBEq, rules2, rulesX, rowsX]
      refine go_callI (w_spec_l01In _ _ _ _ hr5) rfl rfl (Nat.le_of_ble_eq_true rfl) ?_
      rcases Bool.eq_false_or_eq_true r5 with hb6 | hb6
      · rw [ite_t hb6] at h
        obtain ⟨r7, hr7, h⟩ := ob h
        try simp only [hb2, hb4, hb6, Nat.reduceBEq, Nat.reduceMul, Nat.reduceAdd, Nat.reduceDiv, Int.reduceBEq, rules2, rulesX, rowsX]
        refine go_callI (w_spec_l01In _ _ _ _ hr7) rfl rfl (Nat.le_of_ble_eq_true rfl) ?_
        rcases Bool.eq_false_or_eq_true r7 with hb8 | hb8
        · rw [ite_t hb8] at h
          try simp only [hb2, hb4, hb6, hb8, Nat.reduceBEq, Nat.reduceMul, Nat.reduceAdd, Nat.reduceDiv, Int.reduceBEq, rules2, rulesX, rowsX]
          refine go_bsl (es := List.map rS ([([97, 110, 110, 111, 117, 110, 99, 101] : List UInt8), ([99, 108, 101, 97, 114] : List UInt8), ([99, 97, 110, 99, 101, 108] : List UInt8), ([116, 105, 99, 107] : List UInt8)] : List (List UInt8))) rfl rfl ?_
          obtain ⟨x9, hx9, h⟩ := ob h
          have hx9n := ix_get hx9
          try simp only [hb2, hb4, hb6, hb8, hx9, hx9n, Nat.reduceBEq, Nat.reduceMul, Nat.reduceAdd, Nat.reduceDiv, Int.reduceBEq, rules2, rulesX, rowsX]
          refine go_fr_of rfl ?_
          obtain ⟨hg10, h⟩ := of_guard h
          obtain ⟨r11, hr11, h⟩ := ob h
          try simp only [hb2, hb4, hb6, hb8, hx9, hx9n, hg10, Nat.reduceBEq, Nat.reduceMul, Nat.reduceAdd, Nat.reduceDiv, Int.reduceBEq, rules2, rulesX, rowsX]
          refine go_dcallI (w_spec_FormatInt _ _ hr11) rfl rfl (Nat.le_of_ble_eq_true rfl) ?_
          obtain ⟨hg12, h⟩ := of_guard h
          obtain ⟨hg13, h⟩ := of_guard h
          try simp only [List.cons_append, List.nil_append] at hg13
          obtain ⟨r14, hr14, h⟩ := ob h
          try simp only [hb2, hb4, hb6, hb8, hx9, hx9n, hg10, hg12, hg13, Nat.reduceBEq, Nat.reduceMul, Nat.reduceAdd, Nat.reduceDiv, Int.reduceBEq, rules2, rulesX, rowsX]
          refine go_dcallI (w_spec_FormatInt _ _ hr14) rfl rfl (Nat.le_of_ble_eq_true rfl) ?_
          obtain ⟨hg15, h⟩ := of_guard h
          try simp only [List.cons_append, List.nil_append] at hg15
          obtain ⟨hg16, h⟩ := of_guard h
          try simp only [List.cons_append, List.nil_append] at hg16
          obtain ⟨r17, hr17, h⟩ := ob h
          try simp only [hb2, hb4, hb6, hb8, hx9, hx9n, hg10, hg12, hg13, hg15, hg16, Nat.reduceBEq, Nat.reduceMul, Nat.reduceAdd, Nat.reduceDiv, Int.reduceBEq, rules2, rulesX, rowsX]
          refine go_dcallI (w_spec_FormatInt _ _ hr17) rfl rfl (Nat.le_of_ble_eq_true rfl) ?_
          obtain ⟨hg18, h⟩ := of_guard h
          try simp only [List.cons_append, List.nil_append] at hg18
          obtain ⟨hg19, h⟩ := of_guard h
          try simp only [List.cons_append, List.nil_append] at hg19
          obtain ⟨r20, hr20, h⟩ := ob h
          try simp only [hb2, hb4, hb6, hb8, hx9, hx9n, hg10, hg12, hg13, hg15, hg16, hg18, hg19, Nat.reduceBEq, Nat.reduceMul, Nat.reduceAdd, Nat.reduceDiv, Int.reduceBEq, rules2, rulesX, rowsX]
          refine go_callI (w_spec_SumOfText _ _ hr20) rfl rfl (Nat.le_of_ble_eq_true rfl) ?_
          obtain ⟨r21, hr21, h⟩ := ob h
          try simp only [hb2, hb4, hb6, hb8, hx9, hx9n, hg10, hg12, hg13, hg15, hg16, hg18, hg19, Nat.reduceBEq, Nat.reduceMul, Nat.reduceAdd, Nat.reduceDiv, Int.reduceBEq, rules2, rulesX, rowsX]
          refine go_callI (w_spec_FormatInt _ _ hr21) rfl rfl (Nat.le_of_ble_eq_true rfl) ?_
          obtain ⟨hg22, h⟩ := of_guard h
          try simp only [List.cons_append, List.nil_append] at hg22
          try simp only [hb2, hb4, hb6, hb8, hx9, hx9n, hg10, hg12, hg13, hg15, hg16, hg18, hg19, hg22, Nat.reduceBEq, Nat.reduceMul, Nat.reduceAdd, Nat.reduceDiv, Int.reduceBEq, rules2, rulesX, rowsX]
          cases h
          exact ⟨⟨rfl, trivial⟩, rfl⟩
        · rw [ite_f hb8] at h
          try simp only [hb2, hb4, hb6, hb8, Nat.reduceBEq, Nat.reduceMul, Nat.reduceAdd, Nat.reduceDiv, Int.reduceBEq, rules2, rulesX, rowsX]
          cases h
          exact ⟨⟨rfl, trivial⟩, rfl⟩
      · rw [ite_f hb6] at h
        try simp only [hb2, hb4, hb6, Nat.reduceBEq, Nat.reduceMul, Nat.reduceAdd, Nat.reduceDiv, Int.reduceBEq, rules2, rulesX, rowsX]
        cases h
        exact ⟨⟨rfl, trivial⟩, rfl⟩
    · rw [ite_f hb4] at h
      try simp only [hb2, hb4, Nat.reduceBEq, Nat.reduceMul, Nat.reduceAdd, Nat.reduceDiv, Int.reduceBEq, rules2, rulesX, rowsX]
      cases h
      exact ⟨⟨rfl, trivial⟩, rfl⟩
  · rw [ite_f hb2] at h
    try simp only [hb2, Nat.reduceBEq, Nat.reduceMul, Nat.reduceAdd, Nat.reduceDiv, Int.reduceBEq, rules2, rulesX, rowsX]
    cases h
    exact ⟨⟨rfl, trivial⟩, rfl⟩
/- 67: spec_ParseEntry -/
def c_spec_ParseEntry_1 : ACode := .seq (.reg [(none, .keep [0, 2, 4, 5, 21, 22, 23] [2, 5] [960, 1344])]) (.seq (.reg [(none, .bin 24 .lss (S 23) (S 22))]) (.seq (.cond (S 24) .skip (.exit 0)) (.seq (.block 1 (.seq (.reg [(none, .mv 25 (S 23)), (none, .iaddr 26 (S 21) (S 23) 1), (none, .load 27 (S 26) false 1), (none, .mv 6 (S 25)), (none, .mv 7 (S 27))]) (.seq (.reg [(none, .mv 28 (S 4)), (none, .iaddr 29 (S 28) (K 0) 1), (none, .load 30 (S 29) false 1), (none, .mv 31 (S 7)), (none, .bin 32 .eql (S 30) (S 31))]) (.cond (S 32) (.reg [(none, .mv 33 (S 6)), (none, .bin 34 .add (S 33) (K 1)), (none, .faddr 35 (S 5) 0), (none, .store (S 35) (S 34) 1)]) .skip)))) (.reg [(none, .bin 36 .add (S 23) (K 1)), (none, .mv 23 (S 36))]))))
def c_spec_ParseEntry_2 : ACode := .seq (.reg [(none, .keep [2, 5, 84] [2, 5] [])]) (.cond (S 84) (.seq (.reg [(none, .build 85 [aI 0, aI 0, aI 0, aI 0] []), (none, .store (S 2) (S 85) 4), (none, .mv 3 (KB false))]) .ret) .skip)
def c_spec_ParseEntry_n2 : ACode := (.seq (.reg [(none, .load 86 (S 5) true 4), (none, .store (S 2) (S 86) 4), (none, .mv 3 (KB true))]) .ret)
def c_spec_ParseEntry_n1 : ACode := (.seq (.reg [(none, .mv 38 (S 4)), (none, .iaddr 39 (S 38) (K 1) 1), (none, .load 40 (S 39) false 1), (none, .call 41 114 [(S 40)]), (none, .mv 37 (S 41)), (none, .extr 42 (S 37) 0), (none, .extr 43 (S 37) 1), (none, .mv 8 (S 42)), (none, .mv 9 (S 43))]) (.seq (.reg [(none, .mv 45 (S 4)), (none, .iaddr 46 (S 45) (K 2) 1), (none, .load 47 (S 46) false 1), (none, .call 48 114 [(S 47)]), (none, .mv 44 (S 48)), (none, .extr 49 (S 44) 0), (none, .extr 50 (S 44) 1), (none, .mv 10 (S 49)), (none, .mv 11 (S 50))]) (.seq (.reg [(none, .mv 52 (S 4)), (none, .iaddr 53 (S 52) (K 3) 1), (none, .load 54 (S 53) false 1), (none, .call 55 114 [(S 54)]), (none, .mv 51 (S 55)), (none, .extr 56 (S 51) 0), (none, .extr 57 (S 51) 1), (none, .mv 12 (S 56)), (none, .mv 13 (S 57))]) (.seq (.reg [(none, .mv 58 (S 8)), (none, .faddr 59 (S 5) 1), (none, .store (S 59) (S 58) 1)]) (.seq (.reg [(none, .mv 60 (S 10)), (none, .faddr 61 (S 5) 2), (none, .store (S 61) (S 60) 1)]) (.seq (.reg [(none, .mv 62 (S 12)), (none, .faddr 63 (S 5) 3), (none, .store (S 63) (S 62) 1)]) (.seq (.seq (.reg [(none, .mv 64 (S 9)), (none, .un 65 .not (S 64)), (none, .mv 66 (S 65)), (some (66, false), .mv 67 (S 11)), (some (66, false), .un 68 .not (S 67)), (none, .pick 69 (S 66) (KB true) (S 68)), (none, .mv 70 (S 69)), (some (70, false), .mv 71 (S 13)), (some (70, false), .un 72 .not (S 71)), (none, .pick 73 (S 70) (KB true) (S 72)), (none, .mv 74 (S 73)), (some (74, false), .faddr 75 (S 5) 0), (some (74, false), .load 76 (S 75) false 1), (some (74, false), .bin 77 .eql (S 76) (K 0)), (none, .pick 78 (S 74) (KB true) (S 77)), (none, .mv 79 (S 78)), (some (79, false), .load 80 (S 5) true 4), (some (79, false), .call 81 115 [(S 80)]), (some (79, false), .mv 82 (S 0)), (some (79, false), .bin 83 .neq (S 81) (S 82)), (none, .pick 84 (S 79) (KB true) (S 83))]) c_spec_ParseEntry_2) c_spec_ParseEntry_n2)))))))
def c_spec_ParseEntry : ACode := (.seq (.reg [(none, .alloc 2 [aI 0, aI 0, aI 0, aI 0]), (none, .mv 3 (KB false))]) (.seq (.reg [(none, .mv 14 (S 0)), (none, .call 15 113 [(S 14), (KS [32])]), (none, .mv 4 (S 15))]) (.seq (.seq (.reg [(none, .mv 16 (S 4)), (none, .len 17 (S 16)), (none, .bin 18 .neq (S 17) (K 5))]) (.cond (S 18) (.seq (.reg [(none, .build 19 [aI 0, aI 0, aI 0, aI 0] []), (none, .store (S 2) (S 19) 4), (none, .mv 3 (KB false))]) .ret) .skip)) (.seq (.reg [(none, .build 20 [aI 0, aI 0, aI 0, aI 0] []), (none, .alloc 5 [aI 0, aI 0, aI 0, aI 0]), (none, .store (S 5) (S 20) 4)]) (.seq (.seq (.reg [(none, .bslice 21 1 [.str []] 4 [(0, (KS [97, 110, 110, 111, 117, 110, 99, 101])), (1, (KS [99, 108, 101, 97, 114])), (2, (KS [99, 97, 110, 99, 101, 108])), (3, (KS [116, 105, 99, 107]))]), (none, .len 22 (S 21)), (none, .mv 23 (K 0))]) (.block 0 (.loop c_spec_ParseEntry_1))) c_spec_ParseEntry_n1)))))
theorem w_spec_ParseEntry_2 (v5 : Int) (r12 : Int × Bool) (r14 : Int × Bool) (r16 : Int × Bool) (v22 : Bool) (r : XEntry × Bool) (h : f_spec_ParseEntry_2 v5 r12 r14 r16 v22 = some r) (σ : St) (hσ : σ.kept [2, 5, 84] [2, 5] [] = ⟨[(2, vc (.pb 2 0)), (5, vc (.pb 5 0)), (84, vc (aB v22))], [(2, [aI (0 : Int), aI (0 : Int), aI (0 : Int), aI (0 : Int)]), (5, [aI v5, aI r12.1, aI r14.1, aI r16.1])], []⟩) : go Tryz.prog (.code c_spec_ParseEntry_2 :: [.code c_spec_ParseEntry_n2]) (Ret [.c 2 true 4, 3] [.ag [.v (.int .i64 r.1.Kind), .v (.int .i64 r.1.At), .v (.int .i64 r.1.Call), .v (.int .i64 r.1.Value)], .sc (.v (.bool r.2))]) .normal (some σ) := by
  unfold f_spec_ParseEntry_2 at h
  rcases Bool.eq_false_or_eq_true v22 with hb23 | hb23
  · rw [ite_t hb23] at h
    try simp only [hσ, hb23, c_spec_ParseEntry_2, Nat.reduceBEq, Nat.reduceMul, Nat.reduceAdd, Nat.reduceDiv, Int.reduceBEq, rules2, rulesX, rowsX]
    cases h
    try simp only [rulesR, Nat.reduceBEq, Nat.reduceMul, Nat.reduceAdd, Nat.reduceDiv, Int.reduceBEq, rules2, rulesX, rowsX]
    exact ⟨⟨⟨rfl, rfl, rfl, rfl, trivial⟩, rfl, trivial⟩, rfl⟩
  · rw [ite_f hb23] at h
    try simp only [hσ, hb23, c_spec_ParseEntry_2, c_spec_ParseEntry_n2, Nat.reduceBEq, Nat.reduceMul, Nat.reduceAdd, Nat.reduceDiv, Int.reduceBEq, rules2, rulesX, rowsX]
    cases h
    try simp only [rulesR, Nat.reduceBEq, Nat.reduceMul, Nat.reduceAdd, Nat.reduceDiv, Int.reduceBEq, rules2, rulesX, rowsX]
    exact ⟨⟨⟨rfl, rfl, rfl, rfl, trivial⟩, rfl, trivial⟩, rfl⟩
theorem w_spec_ParseEntry_1 (a0 : List UInt8) (r1 : (List (List UInt8))) (y3 : Int) (y6 : List (List UInt8)) : ∀ (n : Nat) (v4 : Int) (v5 : Int) (r : XEntry × Bool), f_spec_ParseEntry_1 a0 r1 y3 y6 n v4 v5 = some r → ∀ σ : St, σ.kept [0, 2, 4, 5, 21, 22, 23] [2, 5] [960, 1344] = ⟨[(0, vc (aS a0)), (2, vc (.pb 2 0)), (4, vc (.own 960)), (5, vc (.pb 5 0)), (21, vc (.own 1344)), (22, vc (aI y3)), (23, vc (aI v4))], [(2, [aI (0 : Int), aI (0 : Int), aI (0 : Int), aI (0 : Int)]), (5, [aI v5, aI (0 : Int), aI (0 : Int), aI (0 : Int)])], [(960, 1, List.map rS r1), (1344, 1, List.map rS y6)]⟩ → go Tryz.prog (.code (.loop c_spec_ParseEntry_1) :: [.blk 0, .code c_spec_ParseEntry_n1]) (Ret [.c 2 true 4, 3] [.ag [.v (.int .i64 r.1.Kind), .v (.int .i64 r.1.At), .v (.int .i64 r.1.Call), .v (.int .i64 r.1.Value)], .sc (.v (.bool r.2))]) .normal (some σ) := by
  intro n
  induction n with
  | zero => intro _ _ r h; cases h
  | succ n ih =>
    intro v4 v5 r h σ hσ
    rw [f_spec_ParseEntry_1] at h
    refine go_round ?_
    rcases Bool.eq_false_or_eq_true (decide (v4 < y3)) with hb7 | hb7
    · rw [ite_t hb7] at h
      obtain ⟨x8, hx8, h⟩ := ob h
      have hx8n := ix_get hx8
      obtain ⟨x9, hx9, h⟩ := ob h
      have hx9n := ix_get hx9
      rcases Bool.eq_false_or_eq_true (x9 == x8) with hb10 | hb10
      · rw [ite_t hb10] at h
        try simp only [hσ, hb7, hx8, hx8n, hx9, hx9n, hb10, c_spec_ParseEntry_1, Nat.reduceBEq, Nat.reduceMul, Nat.reduceAdd, Nat.reduceDiv, Int.reduceBEq, rules2, rulesX, rowsX]
        refine ih _ _ _ h _ ?_
        try simp only [hb7, hx8, hx8n, hx9, hx9n, hb10, Nat.reduceBEq, Nat.reduceMul, Nat.reduceAdd, Nat.reduceDiv, Int.reduceBEq, rules2, rulesX, rowsX, List.map_nil]
      · rw [ite_f hb10] at h
        try simp only [hσ, hb7, hx8, hx8n, hx9, hx9n, hb10, c_spec_ParseEntry_1, Nat.reduceBEq, Nat.reduceMul, Nat.reduceAdd, Nat.reduceDiv, Int.reduceBEq, rules2, rulesX, rowsX]
        refine ih _ _ _ h _ ?_
        try simp only [hb7, hx8, hx8n, hx9, hx9n, hb10, Nat.reduceBEq, Nat.reduceMul, Nat.reduceAdd, Nat.reduceDiv, Int.reduceBEq, rules2, rulesX, rowsX, List.map_nil]
    · rw [ite_f hb7] at h
      obtain ⟨x11, hx11, h⟩ := ob h
      have hx11n := ix_get hx11
      obtain ⟨r12, hr12, h⟩ := ob h
      try simp only [hσ, hb7, hx11, hx11n, c_spec_ParseEntry_1, c_spec_ParseEntry_n1, Nat.reduceBEq, Nat.reduceMul, Nat.reduceAdd, Nat.reduceDiv, Int.reduceBEq, rules2, rulesX, rowsX]
      refine go_callI (w_spec_ParseInt _ _ hr12) rfl rfl (Nat.le_of_ble_eq_true rfl) ?_
      obtain ⟨x13, hx13, h⟩ := ob h
      have hx13n := ix_get hx13
      obtain ⟨r14, hr14, h⟩ := ob h
      try simp only [hb7, hx11, hx11n, hx13, hx13n, Nat.reduceBEq, Nat.reduceMul, Nat.reduceAdd, Nat.reduceDiv, Int.reduceBEq, rules2, rulesX, rowsX]
      refine go_callI (w_spec_ParseInt _ _ hr14) rfl rfl (Nat.le_of_ble_eq_true rfl) ?_
      obtain ⟨x15, hx15, h⟩ := ob h
      have hx15n := ix_get hx15
      obtain ⟨r16, hr16, h⟩ := ob h
      try simp only [hb7, hx11, hx11n, hx13, hx13n, hx15, hx15n, Nat.reduceBEq, Nat.reduceMul, Nat.reduceAdd, Nat.reduceDiv, Int.reduceBEq, rules2, rulesX, rowsX]
      refine go_callI (w_spec_ParseInt _ _ hr16) rfl rfl (Nat.le_of_ble_eq_true rfl) ?_
      rcases Bool.eq_false_or_eq_true r12.2 with hb17 | hb17
      · rw [ite_t hb17] at h
        rcases Bool.eq_false_or_eq_true r14.2 with hb18 | hb18
        · rw [ite_t hb18] at h
          rcases Bool.eq_false_or_eq_true r16.2 with hb19 | hb19
          · rw [ite_t hb19] at h
            rcases Bool.eq_false_or_eq_true (v5 == (0 : Int)) with hb20 | hb20
            · rw [ite_t hb20] at h
              try simp only [hb7, hx11, hx11n, hx13, hx13n, hx15, hx15n, hb17, hb18, hb19, hb20, Nat.reduceBEq, Nat.reduceMul, Nat.reduceAdd, Nat.reduceDiv, Int.reduceBEq, rules2, rulesX, rowsX]
              refine w_spec_ParseEntry_2 _ _ _ _ _ _ h _ ?_
              try simp only [hb7, hx11, hx11n, hx13, hx13n, hx15, hx15n, hb17, hb18, hb19, hb20, Nat.reduceBEq, Nat.reduceMul, Nat.reduceAdd, Nat.reduceDiv, Int.reduceBEq, rules2, rulesX, rowsX, List.map_nil]
            · rw [ite_f hb20] at h
              obtain ⟨r21, hr21, h⟩ := ob h
              try simp only [hb7, hx11, hx11n, hx13, hx13n, hx15, hx15n, hb17, hb18, hb19, hb20, Nat.reduceBEq, Nat.reduceMul, Nat.reduceAdd, Nat.reduceDiv, Int.reduceBEq, rules2, rulesX, rowsX]
              refine go_callI (w_spec_FormatEntry _ _ hr21) rfl rfl (Nat.le_of_ble_eq_true rfl) ?_
              try simp only [hb7, hx11, hx11n, hx13, hx13n, hx15, hx15n, hb17, hb18, hb19, hb20, Nat.reduceBEq, Nat.reduceMul, Nat.reduceAdd, Nat.reduceDiv, Int.reduceBEq, rules2, rulesX, rowsX]
              refine w_spec_ParseEntry_2 _ _ _ _ _ _ h _ ?_
              try simp only [hb7, hx11, hx11n, hx13, hx13n, hx15, hx15n, hb17, hb18, hb19, hb20, Nat.reduceBEq, Nat.reduceMul, Nat.reduceAdd, Nat.reduceDiv, Int.reduceBEq, rules2, rulesX, rowsX, List.map_nil]
          · rw [ite_f hb19] at h
            try simp only [hb7, hx11, hx11n, hx13, hx13n, hx15, hx15n, hb17, hb18, hb19, Nat.reduceBEq, Nat.reduceMul, Nat.reduceAdd, Nat.reduceDiv, Int.reduceBEq, rules2, rulesX, rowsX]
            refine w_spec_ParseEntry_2 _ _ _ _ _ _ h _ ?_
            try simp only [hb7, hx11, hx11n, hx13, hx13n, hx15, hx15n, hb17, hb18, hb19, Nat.reduceBEq, Nat.reduceMul, Nat.reduceAdd, Nat.reduceDiv, Int.reduceBEq, rules2, rulesX, rowsX, List.map_nil]
        · rw [ite_f hb18] at h
          try simp only [hb7, hx11, hx11n, hx13, hx13n, hx15, hx15n, hb17, hb18, Nat.reduceBEq, Nat.reduceMul, Nat.reduceAdd, Nat.reduceDiv, Int.reduceBEq, rules2, rulesX, rowsX]
          refine w_spec_ParseEntry_2 _ _ _ _ _ _ h _ ?_
          try simp only [hb7, hx11, hx11n, hx13, hx13n, hx15, hx15n, hb17, hb18, Nat.reduceBEq, Nat.reduceMul, Nat.reduceAdd, Nat.reduceDiv, Int.reduceBEq, rules2, rulesX, rowsX, List.map_nil]
      · rw [ite_f hb17] at h
        try simp only [hb7, hx11, hx11n, hx13, hx13n, hx15, hx15n, hb17, Nat.reduceBEq, Nat.reduceMul, Nat.reduceAdd, Nat.reduceDiv, Int.reduceBEq, rules2, rulesX, rowsX]
        refine w_spec_ParseEntry_2 _ _ _ _ _ _ h _ ?_
        try simp only [hb7, hx11, hx11n, hx13, hx13n, hx15, hx15n, hb17, Nat.reduceBEq, Nat.reduceMul, Nat.reduceAdd, Nat.reduceDiv, Int.reduceBEq, rules2, rulesX, rowsX, List.map_nil]
theorem e_spec_ParseEntry : entry Tryz.prog 67 = some (c_spec_ParseEntry.strip, [.c 2 true 4, 3], 87) := by kernel_rfl
theorem w_spec_ParseEntry (a0 : List UInt8) (r : XEntry × Bool) (h : f_spec_ParseEntry a0 = some r) : FC Tryz.prog 67 [.sc (.str a0)] [.ag [.v (.int .i64 r.1.Kind), .v (.int .i64 r.1.At), .v (.int .i64 r.1.Call), .v (.int .i64 r.1.Value)], .sc (.v (.bool r.2))] := by
  unfold f_spec_ParseEntry at h
  refine FC_go (σ := ⟨[(0, vc (aS a0))], [], []⟩) mixed e_spec_ParseEntry rfl rfl ?_
  simp only [c_spec_ParseEntry]
  try simp only [Nat.reduceBEq, Nat.reduceMul, Nat.reduceAdd, Nat.reduceDiv, Int.reduceBEq, rules2, rulesX, rowsX]
  refine go_al rfl rfl ?_
  obtain ⟨r1, hr1, h⟩ := ob h
  try simp only [Nat.reduceBEq, Nat.reduceMul, Nat.reduceAdd, Nat.reduceDiv, Int.reduceBEq, rules2, rulesX, rowsX]
  refine go_callI (w_spec_SplitAny _ _ _ hr1) rfl rfl (Nat.le_of_ble_eq_true rfl) ?_
  rcases Bool.eq_false_or_eq_true ((r1.length : Int) != (5 : Int)) with hb2 | hb2
  · rw [ite_t hb2] at h
    try simp only [hb2, Nat.reduceBEq, Nat.reduceMul, Nat.reduceAdd, Nat.reduceDiv, Int.reduceBEq, rules2, rulesX, rowsX]
    cases h
    try simp only [rulesR, Nat.reduceBEq, Nat.reduceMul, Nat.reduceAdd, Nat.reduceDiv, Int.reduceBEq, rules2, rulesX, rowsX]
    exact ⟨⟨⟨rfl, rfl, rfl, rfl, trivial⟩, rfl, trivial⟩, rfl⟩
  · rw [ite_f hb2] at h
    try simp only [hb2, Nat.reduceBEq, Nat.reduceMul, Nat.reduceAdd, Nat.reduceDiv, Int.reduceBEq, rules2, rulesX, rowsX]
    refine go_al rfl rfl ?_
    try simp only [hb2, Nat.reduceBEq, Nat.reduceMul, Nat.reduceAdd, Nat.reduceDiv, Int.reduceBEq, rules2, rulesX, rowsX]
    refine go_bsl (es := List.map rS ([([97, 110, 110, 111, 117, 110, 99, 101] : List UInt8), ([99, 108, 101, 97, 114] : List UInt8), ([99, 97, 110, 99, 101, 108] : List UInt8), ([116, 105, 99, 107] : List UInt8)] : List (List UInt8))) rfl rfl ?_
    try simp only [hb2, Nat.reduceBEq, Nat.reduceMul, Nat.reduceAdd, Nat.reduceDiv, Int.reduceBEq, rules2, rulesX, rowsX]
    refine w_spec_ParseEntry_1 _ _ _ _ _ _ _ _ h _ ?_
    try simp only [hb2, Nat.reduceBEq, Nat.reduceMul, Nat.reduceAdd, Nat.reduceDiv, Int.reduceBEq, rules2, rulesX, rowsX, List.map_nil]
/- 26: spec_ReadJournal -/
def c_spec_ReadJournal_1 : ACode := .seq (.reg [(none, .keep [4, 11, 12, 13] [] [576])]) (.seq (.reg [(none, .bin 14 .lss (S 13) (S 12))]) (.seq (.cond (S 14) .skip (.exit 0)) (.seq (.block 1 (.seq (.reg [(none, .iaddr 15 (S 11) (S 13) 1), (none, .load 16 (S 15) false 1), (none, .mv 6 (S 16))]) (.seq (.reg [(none, .mv 18 (S 6)), (none, .call 19 67 [(S 18)]), (none, .mv 17 (S 19)), (none, .extr 20 (S 17) 0), (none, .extr 21 (S 17) 1), (none, .alloc 7 [aI 0, aI 0, aI 0, aI 0]), (none, .store (S 7) (S 20) 4), (none, .mv 8 (S 21))]) (.seq (.seq (.reg [(none, .mv 22 (S 8)), (none, .un 23 .not (S 22)), (none, .mv 24 (S 23)), (some (24, false), .mv 25 (S 4)), (some (24, false), .len 26 (S 25)), (some (24, false), .bin 27 .eql (S 26) (K 60)), (none, .pick 28 (S 24) (KB true) (S 27))]) (.cond (S 28) (.exit 0) .skip)) (.reg [(none, .mv 29 (S 4)), (none, .load 30 (S 7) true 4), (none, .bslice 31 4 [.int .i64 0, .int .i64 0, .int .i64 0, .int .i64 0] 1 [(0, (S 30))]), (none, .app 32 4 32 (S 29) (S 31)), (none, .mv 4 (S 32))]))))) (.reg [(none, .bin 33 .add (S 13) (K 1)), (none, .mv 13 (S 33))]))))
def c_spec_ReadJournal_2 : ACode := .seq (.reg [(none, .keep [4] [] [576])]) (.seq (.reg [(none, .mv 34 (S 4)), (none, .mv 35 (S 4)), (none, .len 36 (S 35)), (none, .mv 2 (S 34)), (none, .mv 3 (S 36))]) .ret)
def c_spec_ReadJournal : ACode := (.seq (.reg [(none, .mv 2 KN), (none, .mv 3 (K 0))]) (.seq (.reg [(none, .bslice 9 4 [.int .i64 0, .int .i64 0, .int .i64 0, .int .i64 0] 0 []), (none, .mv 4 (S 9))]) (.seq (.seq (.reg [(none, .mv 10 (S 0)), (none, .call 11 66 [(S 10)]), (none, .len 12 (S 11)), (none, .mv 13 (K 0))]) (.block 0 (.loop c_spec_ReadJournal_1))) c_spec_ReadJournal_2)))
theorem w_spec_ReadJournal_2 (v3 : List XEntry) (r : (List XEntry) × Int) (h : f_spec_ReadJournal_2 v3 = some r) (σ : St) (hσ : σ.kept [4] [] [576] = ⟨[(4, vc (.own 576))], [], [(576, 4, List.map XEntry.row v3)]⟩) : go Tryz.prog (.code c_spec_ReadJournal_2 :: []) (Ret [2, 3] [.sc (.o 4 (List.map XEntry.row r.1)), .sc (.v (.int .i64 r.2))]) .normal (some σ) := by
  unfold f_spec_ReadJournal_2 at h
  try simp only [hσ, c_spec_ReadJournal_2, Nat.reduceBEq, Nat.reduceMul, Nat.reduceAdd, Nat.reduceDiv, Int.reduceBEq, rules2, rulesX, rowsX]
  cases h
  exact ⟨⟨rfl, rfl, trivial⟩, rfl⟩
theorem w_spec_ReadJournal_1 (r1 : (List (List UInt8))) : ∀ (n : Nat) (v2 : Int) (v3 : List XEntry) (r : (List XEntry) × Int), f_spec_ReadJournal_1 r1 n v2 v3 = some r → ∀ σ : St, σ.kept [4, 11, 12, 13] [] [576] = ⟨[(4, vc (.own 576)), (11, vc (aL (List.map rS r1))), (12, vc (aI (r1.length : Int))), (13, vc (aI v2))], [], [(576, 4, List.map XEntry.row v3)]⟩ → go Tryz.prog (.code (.loop c_spec_ReadJournal_1) :: [.blk 0, .code c_spec_ReadJournal_2]) (Ret [2, 3] [.sc (.o 4 (List.map XEntry.row r.1)), .sc (.v (.int .i64 r.2))]) .normal (some σ) := by
  intro n
  induction n with
  | zero => intro _ _ r h; cases h
  | succ n ih =>
    intro v2 v3 r h σ hσ
    rw [f_spec_ReadJournal_1] at h
    refine go_round ?_
    rcases Bool.eq_false_or_eq_true (decide (v2 < (r1.length : Int))) with hb4 | hb4
    · rw [ite_t hb4] at h
      obtain ⟨x5, hx5, h⟩ := ob h
      obtain ⟨r6, hr6, h⟩ := ob h
      try simp only [hσ, hb4, hx5, c_spec_ReadJournal_1, Nat.reduceBEq, Nat.reduceMul, Nat.reduceAdd, Nat.reduceDiv, Int.reduceBEq, rules2, rulesX, rowsX]
      refine go_callI (w_spec_ParseEntry _ _ hr6) rfl rfl (Nat.le_of_ble_eq_true rfl) ?_
      try simp only [hb4, hx5, Nat.reduceBEq, Nat.reduceMul, Nat.reduceAdd, Nat.reduceDiv, Int.reduceBEq, rules2, rulesX, rowsX]
      refine go_al rfl rfl ?_
      rcases Bool.eq_false_or_eq_true r6.2 with hb7 | hb7
      · rw [ite_t hb7] at h
        rcases Bool.eq_false_or_eq_true ((v3.length : Int) == (60 : Int)) with hb8 | hb8
        · rw [ite_t hb8] at h
          try simp only [hb4, hx5, hb7, hb8, Nat.reduceBEq, Nat.reduceMul, Nat.reduceAdd, Nat.reduceDiv, Int.reduceBEq, rules2, rulesX, rowsX]
          refine w_spec_ReadJournal_2 _ _ h _ ?_
          try simp only [hb4, hx5, hb7, hb8, Nat.reduceBEq, Nat.reduceMul, Nat.reduceAdd, Nat.reduceDiv, Int.reduceBEq, rules2, rulesX, rowsX, List.map_nil]
        · rw [ite_f hb8] at h
          try simp only [hb4, hx5, hb7, hb8, Nat.reduceBEq, Nat.reduceMul, Nat.reduceAdd, Nat.reduceDiv, Int.reduceBEq, rules2, rulesX, rowsX]
          refine go_bsl (es := List.map XEntry.row ([(⟨r6.1.Kind, r6.1.At, r6.1.Call, r6.1.Value⟩ : XEntry)] : List XEntry)) rfl rfl ?_
          obtain ⟨hg9, h⟩ := of_guard h
          try simp only [hb4, hx5, hb7, hb8, hg9, Nat.reduceBEq, Nat.reduceMul, Nat.reduceAdd, Nat.reduceDiv, Int.reduceBEq, rules2, rulesX, rowsX]
          refine ih _ _ _ h _ ?_
          try simp only [hb4, hx5, hb7, hb8, hg9, Nat.reduceBEq, Nat.reduceMul, Nat.reduceAdd, Nat.reduceDiv, Int.reduceBEq, rules2, rulesX, rowsX, List.map_nil]
      · rw [ite_f hb7] at h
        try simp only [hb4, hx5, hb7, Nat.reduceBEq, Nat.reduceMul, Nat.reduceAdd, Nat.reduceDiv, Int.reduceBEq, rules2, rulesX, rowsX]
        refine w_spec_ReadJournal_2 _ _ h _ ?_
        try simp only [hb4, hx5, hb7, Nat.reduceBEq, Nat.reduceMul, Nat.reduceAdd, Nat.reduceDiv, Int.reduceBEq, rules2, rulesX, rowsX, List.map_nil]
    · rw [ite_f hb4] at h
      try simp only [hσ, hb4, c_spec_ReadJournal_1, Nat.reduceBEq, Nat.reduceMul, Nat.reduceAdd, Nat.reduceDiv, Int.reduceBEq, rules2, rulesX, rowsX]
      refine w_spec_ReadJournal_2 _ _ h _ ?_
      try simp only [hb4, Nat.reduceBEq, Nat.reduceMul, Nat.reduceAdd, Nat.reduceDiv, Int.reduceBEq, rules2, rulesX, rowsX, List.map_nil]
theorem e_spec_ReadJournal : entry Tryz.prog 26 = some (c_spec_ReadJournal.strip, [2, 3], 37) := by kernel_rfl
theorem w_spec_ReadJournal (a0 : List UInt8) (r : (List XEntry) × Int) (h : f_spec_ReadJournal a0 = some r) : FC Tryz.prog 26 [.sc (.str a0)] [.sc (.o 4 (List.map XEntry.row r.1)), .sc (.v (.int .i64 r.2))] := by
  unfold f_spec_ReadJournal at h
  refine FC_go (σ := ⟨[(0, vc (aS a0))], [], []⟩) mixed e_spec_ReadJournal rfl rfl ?_
  simp only [c_spec_ReadJournal]
  try simp only [Nat.reduceBEq, Nat.reduceMul, Nat.reduceAdd, Nat.reduceDiv, Int.reduceBEq, rules2, rulesX, rowsX]
  refine go_bsl (es := List.map XEntry.row ([] : List XEntry)) rfl rfl ?_
  obtain ⟨r1, hr1, h⟩ := ob h
  try simp only [Nat.reduceBEq, Nat.reduceMul, Nat.reduceAdd, Nat.reduceDiv, Int.reduceBEq, rules2, rulesX, rowsX]
  refine go_callI (w_spec_SplitLines _ _ hr1) rfl rfl (Nat.le_of_ble_eq_true rfl) ?_
  try simp only [Nat.reduceBEq, Nat.reduceMul, Nat.reduceAdd, Nat.reduceDiv, Int.reduceBEq, rules2, rulesX, rowsX]
  refine w_spec_ReadJournal_1 _ _ _ _ _ h _ ?_
  try simp only [Nat.reduceBEq, Nat.reduceMul, Nat.reduceAdd, Nat.reduceDiv, Int.reduceBEq, rules2, rulesX, rowsX, List.map_nil]
/- 68: spec_l23Copy -/
def c_spec_l23Copy : ACode := (.seq (.reg [(none, .box 1 (S 0)), (none, .alloc 2 [aI 0, .nil, .nil])]) (.seq (.drw [(some [8, 12], (none, .faddr 3 (S 1) 0)), (some [8, 12], (none, .load 4 (S 3) false 1)), (some [], (none, .zsl 5)), (some [], (none, .faddr 6 (S 1) 1)), (some [], (none, .load 7 (S 6) false 1)), (some [], (none, .zap 8 1 8 (S 5) (S 7))), (some [8], (none, .zsl 9)), (some [8], (none, .faddr 10 (S 1) 2)), (some [8], (none, .load 11 (S 10) false 1)), (some [], (none, .zap 12 1 1 (S 9) (S 11))), (some [], (none, .build 13 [aI 0, .nil, .nil] [(0, 1, (S 4)), (1, 1, (S 8)), (2, 1, (S 12))])), (none, (none, .store (S 2) (S 13) 3))]) .ret))
theorem e_spec_l23Copy : entry Tryz.prog 68 = some (c_spec_l23Copy.strip, [.c 2 true 3], 14) := by kernel_rfl
theorem w_spec_l23Copy (a0 : XDesk) (r : XDesk) (h : f_spec_l23Copy a0 = some r) : FC Tryz.prog 68 [.ag (XDesk.row a0)] [.ag [.v (.int .i64 r.Now), .o 1 (List.map rI r.Starts), .o 1 (List.map rB r.Cleared)]] := by
  unfold f_spec_l23Copy at h
  refine FC_go (σ := ⟨[(0, va [aI a0.Now, aL (List.map rI a0.Starts), aL (List.map rB a0.Cleared)])], [], []⟩) mixed e_spec_l23Copy rfl rfl ?_
  simp only [c_spec_l23Copy]
  try simp only [Nat.reduceBEq, Nat.reduceMul, Nat.reduceAdd, Nat.reduceDiv, Int.reduceBEq, rules2, rulesX, rowsX]
  refine go_bx rfl rfl rfl ?_
  try simp only [Nat.reduceBEq, Nat.reduceMul, Nat.reduceAdd, Nat.reduceDiv, Int.reduceBEq, rules2, rulesX, rowsX]
  refine go_al rfl rfl ?_
  try simp only [Nat.reduceBEq, Nat.reduceMul, Nat.reduceAdd, Nat.reduceDiv, Int.reduceBEq, rules2, rulesX, rowsX]
  refine go_fr_of rfl ?_
  obtain ⟨hg1, h⟩ := of_guard h
  try simp only [hg1, Nat.reduceBEq, Nat.reduceMul, Nat.reduceAdd, Nat.reduceDiv, Int.reduceBEq, rules2, rulesX, rowsX]
  refine go_zap (row := rI) (xs := a0.Starts) (by first | rfl | kernel_rfl) (by first | rfl | kernel_rfl) hg1 (by rfl) ?_
  obtain ⟨hg2, h⟩ := of_guard h
  try simp only [hg1, hg2, Nat.reduceBEq, Nat.reduceMul, Nat.reduceAdd, Nat.reduceDiv, Int.reduceBEq, rules2, rulesX, rowsX]
  refine go_zap (row := rB) (xs := a0.Cleared) (by first | rfl | kernel_rfl) (by first | rfl | kernel_rfl) hg2 (by rfl) ?_
  try simp only [hg1, hg2, Nat.reduceBEq, Nat.reduceMul, Nat.reduceAdd, Nat.reduceDiv, Int.reduceBEq, rules2, rulesX, rowsX]
  refine go_fr_of rfl ?_
  try simp only [hg1, hg2, Nat.reduceBEq, Nat.reduceMul, Nat.reduceAdd, Nat.reduceDiv, Int.reduceBEq, rules2, rulesX, rowsX]
  cases h
  try simp only [rulesR, Nat.reduceBEq, Nat.reduceMul, Nat.reduceAdd, Nat.reduceDiv, Int.reduceBEq, rules2, rulesX, rowsX]
  exact ⟨⟨⟨rfl, rfl, rfl, trivial⟩, trivial⟩, rfl⟩
/- 69: spec_DeskOk -/
def c_spec_DeskOk_1 : ACode := .seq (.reg [(none, .keep [1, 25, 26, 27] [1] [])]) (.seq (.reg [(none, .bin 28 .lss (S 27) (S 26))]) (.seq (.cond (S 28) .skip (.exit 0)) (.seq (.block 1 (.seq (.reg [(none, .mv 29 (S 27)), (none, .iaddr 30 (S 25) (S 27) 1), (none, .load 31 (S 30) false 1), (none, .mv 3 (S 29)), (none, .mv 4 (S 31))]) (.seq (.reg [(none, .mv 32 (S 4)), (none, .call 33 65 [(S 32), (K (-1)), (K 2880)]), (none, .un 34 .not (S 33)), (none, .mv 35 (S 34)), (some (35, false), .faddr 36 (S 1) 2), (some (35, false), .load 37 (S 36) false 1), (some (35, false), .mv 38 (S 3)), (some (35, false), .iaddr 39 (S 37) (S 38) 1), (some (35, false), .load 40 (S 39) false 1), (some (35, false), .mv 41 (S 40)), (some (41, true), .mv 42 (S 4)), (some (41, true), .bin 43 .lss (S 42) (K 0)), (some (35, false), .pick 44 (S 41) (S 43) (KB false)), (none, .pick 45 (S 35) (KB true) (S 44))]) (.cond (S 45) (.seq (.reg [(none, .mv 2 (KB false))]) .ret) .skip)))) (.reg [(none, .bin 46 .add (S 27) (K 1)), (none, .mv 27 (S 46))]))))
def c_spec_DeskOk_n1 : ACode := (.seq (.reg [(none, .mv 2 (KB true))]) .ret)
def c_spec_DeskOk : ACode := (.seq (.reg [(none, .box 1 (S 0)), (none, .mv 2 (KB false))]) (.seq (.seq (.reg [(none, .faddr 5 (S 1) 0), (none, .load 6 (S 5) false 1), (none, .call 7 65 [(S 6), (K 0), (K 2880)]), (none, .un 8 .not (S 7)), (none, .mv 9 (S 8)), (some (9, false), .faddr 10 (S 1) 1), (some (9, false), .load 11 (S 10) false 1), (some (9, false), .len 12 (S 11)), (some (9, false), .bin 13 .gtr (S 12) (K 6)), (none, .pick 14 (S 9) (KB true) (S 13)), (none, .mv 15 (S 14)), (some (15, false), .faddr 16 (S 1) 2), (some (15, false), .load 17 (S 16) false 1), (some (15, false), .len 18 (S 17)), (some (15, false), .faddr 19 (S 1) 1), (some (15, false), .load 20 (S 19) false 1), (some (15, false), .len 21 (S 20)), (some (15, false), .bin 22 .neq (S 18) (S 21)), (none, .pick 23 (S 15) (KB true) (S 22))]) (.cond (S 23) (.seq (.reg [(none, .mv 2 (KB false))]) .ret) .skip)) (.seq (.seq (.reg [(none, .faddr 24 (S 1) 1), (none, .load 25 (S 24) false 1), (none, .len 26 (S 25)), (none, .mv 27 (K 0))]) (.block 0 (.loop c_spec_DeskOk_1))) c_spec_DeskOk_n1)))
theorem w_spec_DeskOk_1 (a0 : XDesk) : ∀ (n : Nat) (v5 : Int) (r : Bool), f_spec_DeskOk_1 a0 n v5 = some r → ∀ σ : St, σ.kept [1, 25, 26, 27] [1] [] = ⟨[(1, vc (.pb 1 0)), (25, vc (aL (List.map rI a0.Starts))), (26, vc (aI (a0.Starts.length : Int))), (27, vc (aI v5))], [(1, [aI a0.Now, aL (List.map rI a0.Starts), aL (List.map rB a0.Cleared)])], []⟩ → go Tryz.prog (.code (.loop c_spec_DeskOk_1) :: [.blk 0, .code c_spec_DeskOk_n1]) (Ret [2] [.sc (.v (.bool r))]) .normal (some σ) := by
  intro n
  induction n with
  | zero => intro _ r h; cases h
  | succ n ih =>
    intro v5 r h σ hσ
    rw [f_spec_DeskOk_1] at h
    refine go_round ?_
    rcases Bool.eq_false_or_eq_true (decide (v5 < (a0.Starts.length : Int))) with hb6 | hb6
    · rw [ite_t hb6] at h
      obtain ⟨x7, hx7, h⟩ := ob h
      obtain ⟨r8, hr8, h⟩ := ob h
      try simp only [hσ, hb6, hx7, c_spec_DeskOk_1, Nat.reduceBEq, Nat.reduceMul, Nat.reduceAdd, Nat.reduceDiv, Int.reduceBEq, rules2, rulesX, rowsX]
      refine go_callI (w_spec_l01In _ _ _ _ hr8) rfl rfl (Nat.le_of_ble_eq_true rfl) ?_
      rcases Bool.eq_false_or_eq_true r8 with hb9 | hb9
      · rw [ite_t hb9] at h
        obtain ⟨x10, hx10, h⟩ := ob h
        rcases Bool.eq_false_or_eq_true x10 with hb11 | hb11
        · rw [ite_t hb11] at h
          rcases Bool.eq_false_or_eq_true (decide (x7 < (0 : Int))) with hb12 | hb12
          · rw [ite_t hb12] at h
            try simp only [hb6, hx7, hb9, hx10, hb11, hb12, Nat.reduceBEq, Nat.reduceMul, Nat.reduceAdd, Nat.reduceDiv, Int.reduceBEq, rules2, rulesX, rowsX]
            cases h
            exact ⟨⟨rfl, trivial⟩, rfl⟩
          · rw [ite_f hb12] at h
            try simp only [hb6, hx7, hb9, hx10, hb11, hb12, Nat.reduceBEq, Nat.reduceMul, Nat.reduceAdd, Nat.reduceDiv, Int.reduceBEq, rules2, rulesX, rowsX]
            refine ih _ _ h _ ?_
            try simp only [hb6, hx7, hb9, hx10, hb11, hb12, Nat.reduceBEq, Nat.reduceMul, Nat.reduceAdd, Nat.reduceDiv, Int.reduceBEq, rules2, rulesX, rowsX, List.map_nil]
        · rw [ite_f hb11] at h
          try simp only [hb6, hx7, hb9, hx10, hb11, Nat.reduceBEq, Nat.reduceMul, Nat.reduceAdd, Nat.reduceDiv, Int.reduceBEq, rules2, rulesX, rowsX]
          refine ih _ _ h _ ?_
          try simp only [hb6, hx7, hb9, hx10, hb11, Nat.reduceBEq, Nat.reduceMul, Nat.reduceAdd, Nat.reduceDiv, Int.reduceBEq, rules2, rulesX, rowsX, List.map_nil]
      · rw [ite_f hb9] at h
        try simp only [hb6, hx7, hb9, Nat.reduceBEq, Nat.reduceMul, Nat.reduceAdd, Nat.reduceDiv, Int.reduceBEq, rules2, rulesX, rowsX]
        cases h
        exact ⟨⟨rfl, trivial⟩, rfl⟩
    · rw [ite_f hb6] at h
      try simp only [hσ, hb6, c_spec_DeskOk_1, c_spec_DeskOk_n1, Nat.reduceBEq, Nat.reduceMul, Nat.reduceAdd, Nat.reduceDiv, Int.reduceBEq, rules2, rulesX, rowsX]
      cases h
      exact ⟨⟨rfl, trivial⟩, rfl⟩
theorem e_spec_DeskOk : entry Tryz.prog 69 = some (c_spec_DeskOk.strip, [2], 47) := by kernel_rfl
theorem w_spec_DeskOk (a0 : XDesk) (r : Bool) (h : f_spec_DeskOk a0 = some r) : FC Tryz.prog 69 [.ag (XDesk.row a0)] [.sc (.v (.bool r))] := by
  unfold f_spec_DeskOk at h
  refine FC_go (σ := ⟨[(0, va [aI a0.Now, aL (List.map rI a0.Starts), aL (List.map rB a0.Cleared)])], [], []⟩) mixed e_spec_DeskOk rfl rfl ?_
  simp only [c_spec_DeskOk]
  try simp only [Nat.reduceBEq, Nat.reduceMul, Nat.reduceAdd, Nat.reduceDiv, Int.reduceBEq, rules2, rulesX, rowsX]
  refine go_bx rfl rfl rfl ?_
  obtain ⟨r1, hr1, h⟩ := ob h
  try simp only [Nat.reduceBEq, Nat.reduceMul, Nat.reduceAdd, Nat.reduceDiv, Int.reduceBEq, rules2, rulesX, rowsX]
  refine go_callI (w_spec_l01In _ _ _ _ hr1) rfl rfl (Nat.le_of_ble_eq_true rfl) ?_
  rcases Bool.eq_false_or_eq_true r1 with hb2 | hb2
  · rw [ite_t hb2] at h
    rcases Bool.eq_false_or_eq_true (decide ((6 : Int) < (a0.Starts.length : Int))) with hb3 | hb3
    · rw [ite_t hb3] at h
      try simp only [hb2, hb3, Nat.reduceBEq, Nat.reduceMul, Nat.reduceAdd, Nat.reduceDiv, Int.reduceBEq, rules2, rulesX, rowsX]
      cases h
      exact ⟨⟨rfl, trivial⟩, rfl⟩
    · rw [ite_f hb3] at h
      rcases Bool.eq_false_or_eq_true ((a0.Cleared.length : Int) != (a0.Starts.length : Int)) with hb4 | hb4
      · rw [ite_t hb4] at h
        try simp only [hb2, hb3, hb4, Nat.reduceBEq, Nat.reduceMul, Nat.reduceAdd, Nat.reduceDiv, Int.reduceBEq, rules2, rulesX, rowsX]
        cases h
        exact ⟨⟨rfl, trivial⟩, rfl⟩
      · rw [ite_f hb4] at h
        try simp only [hb2, hb3, hb4, Nat.reduceBEq, Nat.reduceMul, Nat.reduceAdd, Nat.reduceDiv, Int.reduceBEq, rules2, rulesX, rowsX]
        refine w_spec_DeskOk_1 _ _ _ _ h _ ?_
        try simp only [hb2, hb3, hb4, Nat.reduceBEq, Nat.reduceMul, Nat.reduceAdd, Nat.reduceDiv, Int.reduceBEq, rules2, rulesX, rowsX, List.map_nil]
  · rw [ite_f hb2] at h
    try simp only [hb2, Nat.reduceBEq, Nat.reduceMul, Nat.reduceAdd, Nat.reduceDiv, Int.reduceBEq, rules2, rulesX, rowsX]
    cases h
    exact ⟨⟨rfl, trivial⟩, rfl⟩
/- 70: spec_l23Allowed -/
def c_spec_l23Allowed : ACode := (.seq (.reg [(none, .box 2 (S 0)), (none, .box 3 (S 1)), (none, .mv 4 (KB false))]) (.seq (.seq (.reg [(none, .faddr 5 (S 3) 1), (none, .load 6 (S 5) false 1), (none, .faddr 7 (S 2) 0), (none, .load 8 (S 7) false 1), (none, .call 9 65 [(S 6), (S 8), (K 2880)]), (none, .un 10 .not (S 9)), (none, .mv 11 (S 10)), (some (11, false), .faddr 12 (S 3) 0), (some (11, false), .load 13 (S 12) false 1), (some (11, false), .call 14 65 [(S 13), (K 1), (K 4)]), (some (11, false), .un 15 .not (S 14)), (none, .pick 16 (S 11) (KB true) (S 15))]) (.cond (S 16) (.seq (.reg [(none, .mv 4 (KB false))]) .ret) .skip)) (.seq (.seq (.reg [(none, .faddr 17 (S 3) 0), (none, .load 18 (S 17) false 1), (none, .bin 19 .eql (S 18) (K 4))]) (.cond (S 19) (.seq (.reg [(none, .faddr 20 (S 3) 2), (none, .load 21 (S 20) false 1), (none, .bin 22 .eql (S 21) (K 0)), (none, .mv 23 (S 22)), (some (23, true), .faddr 24 (S 3) 3), (some (23, true), .load 25 (S 24) false 1), (some (23, true), .bin 26 .eql (S 25) (K 0)), (none, .pick 27 (S 23) (S 26) (KB false)), (none, .mv 4 (S 27))]) .ret) .skip)) (.seq (.seq (.reg [(none, .faddr 28 (S 3) 2), (none, .load 29 (S 28) false 1), (none, .faddr 30 (S 2) 1), (none, .load 31 (S 30) false 1), (none, .len 32 (S 31)), (none, .bin 33 .sub (S 32) (K 1)), (none, .call 34 65 [(S 29), (K 0), (S 33)]), (none, .un 35 .not (S 34)), (none, .mv 36 (S 35)), (some (36, false), .faddr 37 (S 2) 2), (some (36, false), .load 38 (S 37) false 1), (some (36, false), .faddr 39 (S 3) 2), (some (36, false), .load 40 (S 39) false 1), (some (36, false), .iaddr 41 (S 38) (S 40) 1), (some (36, false), .load 42 (S 41) false 1), (none, .pick 43 (S 36) (KB true) (S 42))]) (.cond (S 43) (.seq (.reg [(none, .mv 4 (KB false))]) .ret) .skip)) (.seq (.seq (.reg [(none, .faddr 44 (S 3) 0), (none, .load 45 (S 44) false 1), (none, .bin 46 .eql (S 45) (K 1))]) (.cond (S 46) (.seq (.reg [(none, .faddr 47 (S 3) 3), (none, .load 48 (S 47) false 1), (none, .faddr 49 (S 3) 1), (none, .load 50 (S 49) false 1), (none, .call 51 65 [(S 48), (S 50), (K 2880)]), (none, .mv 4 (S 51))]) .ret) .skip)) (.seq (.drw [(some [], (none, .faddr 52 (S 3) 3)), (some [], (none, .load 53 (S 52) false 1)), (some [], (none, .bin 54 .eql (S 53) (K 0))), (some [], (none, .mv 55 (S 54))), (some [], (some (55, true), .faddr 56 (S 2) 1)), (some [], (some (55, true), .load 57 (S 56) false 1)), (some [], (some (55, true), .faddr 58 (S 3) 2)), (some [], (some (55, true), .load 59 (S 58) false 1)), (some [], (some (55, true), .iaddr 60 (S 57) (S 59) 1)), (some [], (some (55, true), .load 61 (S 60) false 1)), (some [], (some (55, true), .bin 62 .geq (S 61) (K 0))), (some [], (none, .pick 63 (S 55) (S 62) (KB false))), (some [], (none, .mv 64 (S 63))), (some [], (some (64, true), .faddr 65 (S 3) 0)), (some [], (some (64, true), .load 66 (S 65) false 1)), (some [], (some (64, true), .bin 67 .eql (S 66) (K 3))), (some [], (some (64, true), .mv 68 (S 67))), (some [], (some (68, false), .faddr 69 (S 2) 1)), (some [], (some (68, false), .load 70 (S 69) false 1)), (some [], (some (68, false), .faddr 71 (S 3) 2)), (some [], (some (68, false), .load 72 (S 71) false 1)), (some [], (some (68, false), .iaddr 73 (S 70) (S 72) 1)), (some [], (some (68, false), .load 74 (S 73) false 1)), (some [], (some (68, false), .faddr 75 (S 3) 1)), (some [], (some (68, false), .load 76 (S 75) false 1)), (some [], (some (68, false), .bin 77 .geq (S 74) (S 76))), (some [], (some (64, true), .pick 78 (S 68) (KB true) (S 77))), (some [], (none, .pick 79 (S 64) (S 78) (KB false))), (some [], (none, .mv 4 (S 79)))]) .ret))))))
theorem e_spec_l23Allowed : entry Tryz.prog 70 = some (c_spec_l23Allowed.strip, [4], 80) := by kernel_rfl
theorem w_spec_l23Allowed (a0 : XDesk) (a1 : XEntry) (r : Bool) (h : f_spec_l23Allowed a0 a1 = some r) : FC Tryz.prog 70 [.ag (XDesk.row a0), .ag (XEntry.row a1)] [.sc (.v (.bool r))] := by
  unfold f_spec_l23Allowed at h
  refine FC_go (σ := ⟨[(0, va [aI a0.Now, aL (List.map rI a0.Starts), aL (List.map rB a0.Cleared)]), (1, va [aI a1.Kind, aI a1.At, aI a1.Call, aI a1.Value])], [], []⟩) mixed e_spec_l23Allowed rfl rfl ?_
  simp only [c_spec_l23Allowed]
  try simp only [Nat.reduceBEq, Nat.reduceMul, Nat.reduceAdd, Nat.reduceDiv, Int.reduceBEq, rules2, rulesX, rowsX]
  refine go_bx rfl rfl rfl ?_
  try simp only [Nat.reduceBEq, Nat.reduceMul, Nat.reduceAdd, Nat.reduceDiv, Int.reduceBEq, rules2, rulesX, rowsX]
  refine go_bx rfl rfl rfl ?_
  obtain ⟨r1, hr1, h⟩ := ob h
  try simp only [Nat.reduceBEq, Nat.reduceMul, Nat.reduceAdd, Nat.reduceDiv, Int.reduceBEq, rules2, rulesX, rowsX]
  refine go_callI (w_spec_l01In _ _ _ _ hr1) rfl rfl (Nat.le_of_ble_eq_true rfl) ?_
  rcases Bool.eq_false_or_eq_true r1 with hb2 | hb2
  · rw [ite_t hb2] at h
    obtain ⟨r3, hr3, h⟩ := ob h
    try simp only [hb2, Nat.reduceBEq, Nat.reduceMul, Nat.reduceAdd, Nat.reduceDiv, Int.reduceBEq, rules2, rulesX, rowsX]
    refine go_callI (w_spec_l01In _ _ _ _ hr3) rfl rfl (Nat.le_of_ble_eq_true rfl) ?_
    rcases Bool.eq_false_or_eq_true r3 with hb4 | hb4
    · rw [ite_t hb4] at h
      rcases Bool.eq_false_or_eq_true (a1.Kind == (4 : Int)) with hb5 | hb5
      · rw [ite_t hb5] at h
        rcases Bool.eq_false_or_eq_true (a1.Call == (0 : Int)) with hb6 | hb6
        · rw [ite_t hb6] at h
          try simp only [hb2, hb4, hb5, hb6, Nat.reduceBEq, Nat.reduceMul, Nat.reduceAdd, Nat.reduceDiv, Int.reduceBEq, rules2, rulesX, rowsX]
          cases h
          exact ⟨⟨rfl, trivial⟩, rfl⟩
        · rw [ite_f hb6] at h
          try simp only [hb2, hb4, hb5, hb6, Nat.reduceBEq, Nat.reduceMul, Nat.reduceAdd, Nat.reduceDiv, Int.reduceBEq, rules2, rulesX, rowsX]
          cases h
          exact ⟨⟨rfl, trivial⟩, rfl⟩
      · rw [ite_f hb5] at h
        obtain ⟨r7, hr7, h⟩ := ob h
        try simp only [hb2, hb4, hb5, Nat.reduceBEq, Nat.reduceMul, Nat.reduceAdd, Nat.reduceDiv, Int.reduceBEq, rules2, rulesX, rowsX]
        refine go_callI (w_spec_l01In _ _ _ _ hr7) rfl rfl (Nat.le_of_ble_eq_true rfl) ?_
        rcases Bool.eq_false_or_eq_true r7 with hb8 | hb8
        · rw [ite_t hb8] at h
          obtain ⟨x9, hx9, h⟩ := ob h
          rcases Bool.eq_false_or_eq_true x9 with hb10 | hb10
          · rw [ite_t hb10] at h
            try simp only [hb2, hb4, hb5, hb8, hx9, hb10, Nat.reduceBEq, Nat.reduceMul, Nat.reduceAdd, Nat.reduceDiv, Int.reduceBEq, rules2, rulesX, rowsX]
            cases h
            exact ⟨⟨rfl, trivial⟩, rfl⟩
          · rw [ite_f hb10] at h
            rcases Bool.eq_false_or_eq_true (a1.Kind == (1 : Int)) with hb11 | hb11
            · rw [ite_t hb11] at h
              obtain ⟨r12, hr12, h⟩ := ob h
              try simp only [hb2, hb4, hb5, hb8, hx9, hb10, hb11, Nat.reduceBEq, Nat.reduceMul, Nat.reduceAdd, Nat.reduceDiv, Int.reduceBEq, rules2, rulesX, rowsX]
              refine go_callI (w_spec_l01In _ _ _ _ hr12) rfl rfl (Nat.le_of_ble_eq_true rfl) ?_
              try simp only [hb2, hb4, hb5, hb8, hx9, hb10, hb11, Nat.reduceBEq, Nat.reduceMul, Nat.reduceAdd, Nat.reduceDiv, Int.reduceBEq, rules2, rulesX, rowsX]
              cases h
              exact ⟨⟨rfl, trivial⟩, rfl⟩
            · rw [ite_f hb11] at h
              try simp only [hb2, hb4, hb5, hb8, hx9, hb10, hb11, Nat.reduceBEq, Nat.reduceMul, Nat.reduceAdd, Nat.reduceDiv, Int.reduceBEq, rules2, rulesX, rowsX]
              refine go_fr_of rfl ?_
              rcases Bool.eq_false_or_eq_true (a1.Value == (0 : Int)) with hb13 | hb13
              · rw [ite_t hb13] at h
                obtain ⟨x14, hx14, h⟩ := ob h
                rcases Bool.eq_false_or_eq_true (decide ((0 : Int) ≤ x14)) with hb15 | hb15
                · rw [ite_t hb15] at h
                  rcases Bool.eq_false_or_eq_true (a1.Kind == (3 : Int)) with hb16 | hb16
                  · rw [ite_t hb16] at h
                    try simp only [hb2, hb4, hb5, hb8, hx9, hb10, hb11, hb13, hx14, hb15, hb16, Nat.reduceBEq, Nat.reduceMul, Nat.reduceAdd, Nat.reduceDiv, Int.reduceBEq, rules2, rulesX, rowsX]
                    cases h
                    exact ⟨⟨rfl, trivial⟩, rfl⟩
                  · rw [ite_f hb16] at h
                    try simp only [hb2, hb4, hb5, hb8, hx9, hb10, hb11, hb13, hx14, hb15, hb16, Nat.reduceBEq, Nat.reduceMul, Nat.reduceAdd, Nat.reduceDiv, Int.reduceBEq, rules2, rulesX, rowsX]
                    cases h
                    exact ⟨⟨rfl, trivial⟩, rfl⟩
                · rw [ite_f hb15] at h
                  try simp only [hb2, hb4, hb5, hb8, hx9, hb10, hb11, hb13, hx14, hb15, Nat.reduceBEq, Nat.reduceMul, Nat.reduceAdd, Nat.reduceDiv, Int.reduceBEq, rules2, rulesX, rowsX]
                  cases h
                  exact ⟨⟨rfl, trivial⟩, rfl⟩
              · rw [ite_f hb13] at h
                try simp only [hb2, hb4, hb5, hb8, hx9, hb10, hb11, hb13, Nat.reduceBEq, Nat.reduceMul, Nat.reduceAdd, Nat.reduceDiv, Int.reduceBEq, rules2, rulesX, rowsX]
                cases h
                exact ⟨⟨rfl, trivial⟩, rfl⟩
        · rw [ite_f hb8] at h
          try simp only [hb2, hb4, hb5, hb8, Nat.reduceBEq, Nat.reduceMul, Nat.reduceAdd, Nat.reduceDiv, Int.reduceBEq, rules2, rulesX, rowsX]
          cases h
          exact ⟨⟨rfl, trivial⟩, rfl⟩
    · rw [ite_f hb4] at h
      try simp only [hb2, hb4, Nat.reduceBEq, Nat.reduceMul, Nat.reduceAdd, Nat.reduceDiv, Int.reduceBEq, rules2, rulesX, rowsX]
      cases h
      exact ⟨⟨rfl, trivial⟩, rfl⟩
  · rw [ite_f hb2] at h
    try simp only [hb2, Nat.reduceBEq, Nat.reduceMul, Nat.reduceAdd, Nat.reduceDiv, Int.reduceBEq, rules2, rulesX, rowsX]
    cases h
    exact ⟨⟨rfl, trivial⟩, rfl⟩
/- 27: spec_ApplyEntry -/
def c_spec_ApplyEntry_1 : ACode := .seq (.reg [(none, .keep [3, 4, 6, 17] [3, 4, 6] [513, 514])]) (.cond (S 17) (.seq (.reg [(none, .load 18 (S 6) true 3), (none, .store (S 4) (S 18) 3), (none, .mv 5 (KB false))]) .ret) .skip)
def c_spec_ApplyEntry_2 : ACode := .seq (.reg [(none, .keep [4, 6] [4, 6] [513, 514])]) (.seq (.reg [(none, .load 47 (S 6) true 3), (none, .store (S 4) (S 47) 3), (none, .mv 5 (KB true))]) .ret)
def c_spec_ApplyEntry_n1 : ACode := (.seq (.reg [(none, .faddr 19 (S 3) 1), (none, .load 20 (S 19) false 1), (none, .faddr 21 (S 6) 0), (none, .store (S 21) (S 20) 1)]) (.seq (.seq (.reg [(none, .faddr 22 (S 3) 0), (none, .load 23 (S 22) false 1)]) (.block 0 (.seq (.reg [(none, .bin 25 .eql (S 23) (K 1)), (none, .mv 24 (S 25))]) (.cond (S 24) (.reg [(none, .faddr 26 (S 6) 1), (none, .load 27 (S 26) false 1), (none, .faddr 28 (S 3) 2), (none, .load 29 (S 28) false 1), (none, .faddr 30 (S 3) 3), (none, .load 31 (S 30) false 1), (none, .iaddr 32 (S 27) (S 29) 1), (none, .store (S 32) (S 31) 1)]) (.seq (.reg [(none, .bin 34 .eql (S 23) (K 2)), (none, .mv 33 (S 34))]) (.cond (S 33) (.reg [(none, .faddr 35 (S 6) 2), (none, .load 36 (S 35) false 1), (none, .faddr 37 (S 3) 2), (none, .load 38 (S 37) false 1), (none, .iaddr 39 (S 36) (S 38) 1), (none, .store (S 39) (KB true) 1)]) (.seq (.reg [(none, .bin 41 .eql (S 23) (K 3)), (none, .mv 40 (S 41))]) (.cond (S 40) (.reg [(none, .faddr 42 (S 6) 1), (none, .load 43 (S 42) false 1), (none, .faddr 44 (S 3) 2), (none, .load 45 (S 44) false 1), (none, .iaddr 46 (S 43) (S 45) 1), (none, .store (S 46) (K (-1)) 1)]) .skip)))))))) c_spec_ApplyEntry_2))
def c_spec_ApplyEntry : ACode := (.seq (.reg [(none, .box 2 (S 0)), (none, .box 3 (S 1)), (none, .alloc 4 [aI 0, .nil, .nil]), (none, .mv 5 (KB false))]) (.seq (.reg [(none, .load 7 (S 2) true 3), (none, .call 8 68 [(S 7)]), (none, .alloc 6 [aI 0, .nil, .nil]), (none, .store (S 6) (S 8) 3)]) (.seq (.seq (.reg [(none, .load 9 (S 2) true 3), (none, .call 10 69 [(S 9)]), (none, .un 11 .not (S 10)), (none, .mv 12 (S 11)), (some (12, false), .load 13 (S 2) true 3), (some (12, false), .load 14 (S 3) true 4), (some (12, false), .call 15 70 [(S 13), (S 14)]), (some (12, false), .un 16 .not (S 15)), (none, .pick 17 (S 12) (KB true) (S 16))]) c_spec_ApplyEntry_1) c_spec_ApplyEntry_n1)))
theorem w_spec_ApplyEntry_2 (a1 : XEntry) (v13 : List Int) (v14 : List Bool) (r : XDesk × Bool) (h : f_spec_ApplyEntry_2 a1 v13 v14 = some r) (σ : St) (hσ : σ.kept [4, 6] [4, 6] [513, 514] = ⟨[(4, vc (.pb 4 0)), (6, vc (.pb 6 0))], [(4, [aI (0 : Int), .nil, .nil]), (6, [aI a1.At, .own 513, .own 514])], [(513, 1, List.map rI v13), (514, 1, List.map rB v14)]⟩) : go Tryz.prog (.code c_spec_ApplyEntry_2 :: []) (Ret [.c 4 true 3, 5] [.ag [.v (.int .i64 r.1.Now), .o 1 (List.map rI r.1.Starts), .o 1 (List.map rB r.1.Cleared)], .sc (.v (.bool r.2))]) .normal (some σ) := by
  unfold f_spec_ApplyEntry_2 at h
  try simp only [hσ, c_spec_ApplyEntry_2, Nat.reduceBEq, Nat.reduceMul, Nat.reduceAdd, Nat.reduceDiv, Int.reduceBEq, rules2, rulesX, rowsX]
  cases h
  try simp only [rulesR, Nat.reduceBEq, Nat.reduceMul, Nat.reduceAdd, Nat.reduceDiv, Int.reduceBEq, rules2, rulesX, rowsX]
  exact ⟨⟨⟨rfl, rfl, rfl, trivial⟩, rfl, trivial⟩, rfl⟩
theorem w_spec_ApplyEntry_1 (a1 : XEntry) (r1 : XDesk) (v5 : Bool) (r : XDesk × Bool) (h : f_spec_ApplyEntry_1 a1 r1 v5 = some r) (σ : St) (hσ : σ.kept [3, 4, 6, 17] [3, 4, 6] [513, 514] = ⟨[(3, vc (.pb 3 0)), (4, vc (.pb 4 0)), (6, vc (.pb 6 0)), (17, vc (aB v5))], [(3, [aI a1.Kind, aI a1.At, aI a1.Call, aI a1.Value]), (4, [aI (0 : Int), .nil, .nil]), (6, [aI r1.Now, .own 513, .own 514])], [(513, 1, List.map rI r1.Starts), (514, 1, List.map rB r1.Cleared)]⟩) : go Tryz.prog (.code c_spec_ApplyEntry_1 :: [.code c_spec_ApplyEntry_n1]) (Ret [.c 4 true 3, 5] [.ag [.v (.int .i64 r.1.Now), .o 1 (List.map rI r.1.Starts), .o 1 (List.map rB r.1.Cleared)], .sc (.v (.bool r.2))]) .normal (some σ) := by
  unfold f_spec_ApplyEntry_1 at h
  rcases Bool.eq_false_or_eq_true v5 with hb6 | hb6
  · rw [ite_t hb6] at h
    try simp only [hσ, hb6, c_spec_ApplyEntry_1, Nat.reduceBEq, Nat.reduceMul, Nat.reduceAdd, Nat.reduceDiv, Int.reduceBEq, rules2, rulesX, rowsX]
    cases h
    try simp only [rulesR, Nat.reduceBEq, Nat.reduceMul, Nat.reduceAdd, Nat.reduceDiv, Int.reduceBEq, rules2, rulesX, rowsX]
    exact ⟨⟨⟨rfl, rfl, rfl, trivial⟩, rfl, trivial⟩, rfl⟩
  · rw [ite_f hb6] at h
    rcases Bool.eq_false_or_eq_true (a1.Kind == (1 : Int)) with hb7 | hb7
    · rw [ite_t hb7] at h
      obtain ⟨x8, hx8, h⟩ := ob h
      have hx8n := ix_get hx8
      try simp only [hσ, hb6, hb7, hx8, c_spec_ApplyEntry_1, c_spec_ApplyEntry_n1, Nat.reduceBEq, Nat.reduceMul, Nat.reduceAdd, Nat.reduceDiv, Int.reduceBEq, rules2, rulesX, rowsX]
      refine go_stp (y := a1.Value) rfl rfl hx8n rfl rfl rfl ?_
      try simp only [hb6, hb7, hx8, Nat.reduceBEq, Nat.reduceMul, Nat.reduceAdd, Nat.reduceDiv, Int.reduceBEq, rules2, rulesX, rowsX]
      refine w_spec_ApplyEntry_2 _ _ _ _ h _ ?_
      try simp only [hb6, hb7, hx8, Nat.reduceBEq, Nat.reduceMul, Nat.reduceAdd, Nat.reduceDiv, Int.reduceBEq, rules2, rulesX, rowsX, List.map_nil]
    · rw [ite_f hb7] at h
      rcases Bool.eq_false_or_eq_true (a1.Kind == (2 : Int)) with hb9 | hb9
      · rw [ite_t hb9] at h
        obtain ⟨x10, hx10, h⟩ := ob h
        have hx10n := ix_get hx10
        try simp only [hσ, hb6, hb7, hb9, hx10, c_spec_ApplyEntry_1, c_spec_ApplyEntry_n1, Nat.reduceBEq, Nat.reduceMul, Nat.reduceAdd, Nat.reduceDiv, Int.reduceBEq, rules2, rulesX, rowsX]
        refine go_stp (y := true) rfl rfl hx10n rfl rfl rfl ?_
        try simp only [hb6, hb7, hb9, hx10, Nat.reduceBEq, Nat.reduceMul, Nat.reduceAdd, Nat.reduceDiv, Int.reduceBEq, rules2, rulesX, rowsX]
        refine w_spec_ApplyEntry_2 _ _ _ _ h _ ?_
        try simp only [hb6, hb7, hb9, hx10, Nat.reduceBEq, Nat.reduceMul, Nat.reduceAdd, Nat.reduceDiv, Int.reduceBEq, rules2, rulesX, rowsX, List.map_nil]
      · rw [ite_f hb9] at h
        rcases Bool.eq_false_or_eq_true (a1.Kind == (3 : Int)) with hb11 | hb11
        · rw [ite_t hb11] at h
          obtain ⟨x12, hx12, h⟩ := ob h
          have hx12n := ix_get hx12
          try simp only [hσ, hb6, hb7, hb9, hb11, hx12, c_spec_ApplyEntry_1, c_spec_ApplyEntry_n1, Nat.reduceBEq, Nat.reduceMul, Nat.reduceAdd, Nat.reduceDiv, Int.reduceBEq, rules2, rulesX, rowsX]
          refine go_stp (y := (-1 : Int)) rfl rfl hx12n rfl rfl rfl ?_
          try simp only [hb6, hb7, hb9, hb11, hx12, Nat.reduceBEq, Nat.reduceMul, Nat.reduceAdd, Nat.reduceDiv, Int.reduceBEq, rules2, rulesX, rowsX]
          refine w_spec_ApplyEntry_2 _ _ _ _ h _ ?_
          try simp only [hb6, hb7, hb9, hb11, hx12, Nat.reduceBEq, Nat.reduceMul, Nat.reduceAdd, Nat.reduceDiv, Int.reduceBEq, rules2, rulesX, rowsX, List.map_nil]
        · rw [ite_f hb11] at h
          try simp only [hσ, hb6, hb7, hb9, hb11, c_spec_ApplyEntry_1, c_spec_ApplyEntry_n1, Nat.reduceBEq, Nat.reduceMul, Nat.reduceAdd, Nat.reduceDiv, Int.reduceBEq, rules2, rulesX, rowsX]
          refine w_spec_ApplyEntry_2 _ _ _ _ h _ ?_
          try simp only [hb6, hb7, hb9, hb11, Nat.reduceBEq, Nat.reduceMul, Nat.reduceAdd, Nat.reduceDiv, Int.reduceBEq, rules2, rulesX, rowsX, List.map_nil]
theorem e_spec_ApplyEntry : entry Tryz.prog 27 = some (c_spec_ApplyEntry.strip, [.c 4 true 3, 5], 48) := by kernel_rfl
theorem w_spec_ApplyEntry (a0 : XDesk) (a1 : XEntry) (r : XDesk × Bool) (h : f_spec_ApplyEntry a0 a1 = some r) : FC Tryz.prog 27 [.ag (XDesk.row a0), .ag (XEntry.row a1)] [.ag [.v (.int .i64 r.1.Now), .o 1 (List.map rI r.1.Starts), .o 1 (List.map rB r.1.Cleared)], .sc (.v (.bool r.2))] := by
  unfold f_spec_ApplyEntry at h
  refine FC_go (σ := ⟨[(0, va [aI a0.Now, aL (List.map rI a0.Starts), aL (List.map rB a0.Cleared)]), (1, va [aI a1.Kind, aI a1.At, aI a1.Call, aI a1.Value])], [], []⟩) mixed e_spec_ApplyEntry rfl rfl ?_
  simp only [c_spec_ApplyEntry]
  try simp only [Nat.reduceBEq, Nat.reduceMul, Nat.reduceAdd, Nat.reduceDiv, Int.reduceBEq, rules2, rulesX, rowsX]
  refine go_bx rfl rfl rfl ?_
  try simp only [Nat.reduceBEq, Nat.reduceMul, Nat.reduceAdd, Nat.reduceDiv, Int.reduceBEq, rules2, rulesX, rowsX]
  refine go_bx rfl rfl rfl ?_
  try simp only [Nat.reduceBEq, Nat.reduceMul, Nat.reduceAdd, Nat.reduceDiv, Int.reduceBEq, rules2, rulesX, rowsX]
  refine go_al rfl rfl ?_
  obtain ⟨r1, hr1, h⟩ := ob h
  try simp only [Nat.reduceBEq, Nat.reduceMul, Nat.reduceAdd, Nat.reduceDiv, Int.reduceBEq, rules2, rulesX, rowsX]
  refine go_callI (w_spec_l23Copy _ _ hr1) rfl rfl (Nat.le_of_ble_eq_true rfl) ?_
  try simp only [Nat.reduceBEq, Nat.reduceMul, Nat.reduceAdd, Nat.reduceDiv, Int.reduceBEq, rules2, rulesX, rowsX]
  refine go_al rfl rfl ?_
  obtain ⟨r2, hr2, h⟩ := ob h
  try simp only [Nat.reduceBEq, Nat.reduceMul, Nat.reduceAdd, Nat.reduceDiv, Int.reduceBEq, rules2, rulesX, rowsX]
  refine go_callI (w_spec_DeskOk _ _ hr2) rfl rfl (Nat.le_of_ble_eq_true rfl) ?_
  rcases Bool.eq_false_or_eq_true r2 with hb3 | hb3
  · rw [ite_t hb3] at h
    obtain ⟨r4, hr4, h⟩ := ob h
    try simp only [hb3, Nat.reduceBEq, Nat.reduceMul, Nat.reduceAdd, Nat.reduceDiv, Int.reduceBEq, rules2, rulesX, rowsX]
    refine go_callI (w_spec_l23Allowed _ _ _ hr4) rfl rfl (Nat.le_of_ble_eq_true rfl) ?_
    try simp only [hb3, Nat.reduceBEq, Nat.reduceMul, Nat.reduceAdd, Nat.reduceDiv, Int.reduceBEq, rules2, rulesX, rowsX]
    refine w_spec_ApplyEntry_1 _ _ _ _ h _ ?_
    try simp only [hb3, Nat.reduceBEq, Nat.reduceMul, Nat.reduceAdd, Nat.reduceDiv, Int.reduceBEq, rules2, rulesX, rowsX, List.map_nil]
  · rw [ite_f hb3] at h
    try simp only [hb3, Nat.reduceBEq, Nat.reduceMul, Nat.reduceAdd, Nat.reduceDiv, Int.reduceBEq, rules2, rulesX, rowsX]
    refine w_spec_ApplyEntry_1 _ _ _ _ h _ ?_
    try simp only [hb3, Nat.reduceBEq, Nat.reduceMul, Nat.reduceAdd, Nat.reduceDiv, Int.reduceBEq, rules2, rulesX, rowsX, List.map_nil]
/- 5: spec_RebuildDesk -/
def c_spec_RebuildDesk_1 : ACode := .seq (.reg [(none, .keep [4, 6, 7, 20, 21, 22] [4, 6] [897, 898, 1088])]) (.seq (.reg [(none, .bin 23 .lss (S 22) (S 21))]) (.seq (.cond (S 23) .skip (.exit 0)) (.seq (.block 1 (.seq (.reg [(none, .mv 24 (S 22)), (none, .iaddr 25 (S 20) (S 22) 4), (none, .load 26 (S 25) true 4), (none, .alloc 10 [aI 0, aI 0, aI 0, aI 0]), (none, .mv 9 (S 24)), (none, .store (S 10) (S 26) 4)]) (.seq (.reg [(none, .load 28 (S 6) true 3), (none, .load 29 (S 10) true 4), (none, .call 30 27 [(S 28), (S 29)]), (none, .mv 27 (S 30)), (none, .extr 31 (S 27) 0), (none, .extr 32 (S 27) 1), (none, .alloc 11 [aI 0, .nil, .nil]), (none, .store (S 11) (S 31) 3), (none, .mv 12 (S 32))]) (.seq (.seq (.reg [(none, .mv 33 (S 12)), (none, .un 34 .not (S 33))]) (.cond (S 34) (.seq (.reg [(none, .load 35 (S 6) true 3), (none, .mv 36 (S 9)), (none, .store (S 4) (S 35) 3), (none, .mv 5 (S 36))]) .ret) .skip)) (.reg [(none, .load 37 (S 11) true 3), (none, .store (S 6) (S 37) 3)]))))) (.reg [(none, .bin 38 .add (S 22) (K 1)), (none, .mv 22 (S 38)), (none, .keep [4, 6, 7, 20, 21, 22] [4, 6] [1921, 1922, 1088]), (none, .ren 1921 897), (none, .ren 1922 898)]))))
def c_spec_RebuildDesk_n1 : ACode := (.seq (.reg [(none, .load 39 (S 6) true 3), (none, .mv 40 (S 7)), (none, .len 41 (S 40)), (none, .store (S 4) (S 39) 3), (none, .mv 5 (S 41))]) .ret)
def c_spec_RebuildDesk : ACode := (.seq (.reg [(none, .alloc 4 [aI 0, .nil, .nil]), (none, .mv 5 (K 0))]) (.seq (.reg [(none, .mv 13 (S 0)), (none, .call 14 25 [(S 13)]), (none, .alloc 6 [aI 0, .nil, .nil]), (none, .store (S 6) (S 14) 3)]) (.seq (.reg [(none, .mv 16 (S 1)), (none, .call 17 26 [(S 16)]), (none, .mv 15 (S 17)), (none, .extr 18 (S 15) 0), (none, .extr 19 (S 15) 1), (none, .mv 7 (S 18)), (none, .mv 8 (S 19))]) (.seq (.seq (.reg [(none, .mv 20 (S 7)), (none, .len 21 (S 20)), (none, .mv 22 (K 0))]) (.block 0 (.loop c_spec_RebuildDesk_1))) c_spec_RebuildDesk_n1))))
theorem w_spec_RebuildDesk_1 (r2 : (List XEntry) × Int) : ∀ (n : Nat) (v3 : Int) (v4 : Int) (v5 : List Int) (v6 : List Bool) (r : XDesk × Int), f_spec_RebuildDesk_1 r2 n v3 v4 v5 v6 = some r → ∀ σ : St, σ.kept [4, 6, 7, 20, 21, 22] [4, 6] [897, 898, 1088] = ⟨[(4, vc (.pb 4 0)), (6, vc (.pb 6 0)), (7, vc (.own 1088)), (20, vc (.own 1088)), (21, vc (aI (r2.1.length : Int))), (22, vc (aI v3))], [(4, [aI (0 : Int), .nil, .nil]), (6, [aI v4, .own 897, .own 898])], [(897, 1, List.map rI v5), (898, 1, List.map rB v6), (1088, 4, List.map XEntry.row r2.1)]⟩ → go Tryz.prog (.code (.loop c_spec_RebuildDesk_1) :: [.blk 0, .code c_spec_RebuildDesk_n1]) (Ret [.c 4 true 3, 5] [.ag [.v (.int .i64 r.1.Now), .o 1 (List.map rI r.1.Starts), .o 1 (List.map rB r.1.Cleared)], .sc (.v (.int .i64 r.2))]) .normal (some σ) := by
  intro n
  induction n with
  | zero => intro _ _ _ _ r h; cases h
  | succ n ih =>
    intro v3 v4 v5 v6 r h σ hσ
    rw [f_spec_RebuildDesk_1] at h
    refine go_round ?_
    rcases Bool.eq_false_or_eq_true (decide (v3 < (r2.1.length : Int))) with hb7 | hb7
    · rw [ite_t hb7] at h
      obtain ⟨x8, hx8, h⟩ := ob h
      have hx8n := ix_get hx8
      try simp only [hσ, hb7, hx8, hx8n, c_spec_RebuildDesk_1, Nat.reduceBEq, Nat.reduceMul, Nat.reduceAdd, Nat.reduceDiv, Int.reduceBEq, rules2, rulesX, rowsX]
      refine go_al rfl rfl ?_
      obtain ⟨r9, hr9, h⟩ := ob h
      try simp only [hb7, hx8, hx8n, Nat.reduceBEq, Nat.reduceMul, Nat.reduceAdd, Nat.reduceDiv, Int.reduceBEq, rules2, rulesX, rowsX]
      refine go_call (w_spec_ApplyEntry _ _ _ hr9) rfl (flat_l rfl ⟨rfl, flat_o, flat_o, rfl, trivial⟩) rfl (Nat.le_of_ble_eq_true rfl) ?_
      try simp only [hb7, hx8, hx8n, Nat.reduceBEq, Nat.reduceMul, Nat.reduceAdd, Nat.reduceDiv, Int.reduceBEq, rules2, rulesX, rowsX]
      refine go_al rfl rfl ?_
      rcases Bool.eq_false_or_eq_true r9.2 with hb10 | hb10
      · rw [ite_t hb10] at h
        try simp only [hb7, hx8, hx8n, hb10, Nat.reduceBEq, Nat.reduceMul, Nat.reduceAdd, Nat.reduceDiv, Int.reduceBEq, rules2, rulesX, rowsX]
        refine go_ren' rfl rfl ?_
        try simp only [hb7, hx8, hx8n, hb10, Nat.reduceBEq, Nat.reduceMul, Nat.reduceAdd, Nat.reduceDiv, Int.reduceBEq, rules2, rulesX, rowsX]
        refine go_ren' rfl rfl ?_
        try simp only [hb7, hx8, hx8n, hb10, Nat.reduceBEq, Nat.reduceMul, Nat.reduceAdd, Nat.reduceDiv, Int.reduceBEq, rules2, rulesX, rowsX]
        refine ih _ _ _ _ _ h _ ?_
        try simp only [hb7, hx8, hx8n, hb10, Nat.reduceBEq, Nat.reduceMul, Nat.reduceAdd, Nat.reduceDiv, Int.reduceBEq, rules2, rulesX, rowsX, List.map_nil]
      · rw [ite_f hb10] at h
        try simp only [hb7, hx8, hx8n, hb10, Nat.reduceBEq, Nat.reduceMul, Nat.reduceAdd, Nat.reduceDiv, Int.reduceBEq, rules2, rulesX, rowsX]
        cases h
        try simp only [rulesR, Nat.reduceBEq, Nat.reduceMul, Nat.reduceAdd, Nat.reduceDiv, Int.reduceBEq, rules2, rulesX, rowsX]
        exact ⟨⟨⟨rfl, rfl, rfl, trivial⟩, rfl, trivial⟩, rfl⟩
    · rw [ite_f hb7] at h
      try simp only [hσ, hb7, c_spec_RebuildDesk_1, c_spec_RebuildDesk_n1, Nat.reduceBEq, Nat.reduceMul, Nat.reduceAdd, Nat.reduceDiv, Int.reduceBEq, rules2, rulesX, rowsX]
      cases h
      try simp only [rulesR, Nat.reduceBEq, Nat.reduceMul, Nat.reduceAdd, Nat.reduceDiv, Int.reduceBEq, rules2, rulesX, rowsX]
      exact ⟨⟨⟨rfl, rfl, rfl, trivial⟩, rfl, trivial⟩, rfl⟩
theorem e_spec_RebuildDesk : entry Tryz.prog 5 = some (c_spec_RebuildDesk.strip, [.c 4 true 3, 5], 42) := by kernel_rfl
theorem w_spec_RebuildDesk (a0 : Int) (a1 : List UInt8) (r : XDesk × Int) (h : f_spec_RebuildDesk a0 a1 = some r) : FC Tryz.prog 5 [.sc (.int .i64 a0), .sc (.str a1)] [.ag [.v (.int .i64 r.1.Now), .o 1 (List.map rI r.1.Starts), .o 1 (List.map rB r.1.Cleared)], .sc (.v (.int .i64 r.2))] := by
  unfold f_spec_RebuildDesk at h
  refine FC_go (σ := ⟨[(0, vc (aI a0)), (1, vc (aS a1))], [], []⟩) mixed e_spec_RebuildDesk rfl rfl ?_
  simp only [c_spec_RebuildDesk]
  try simp only [Nat.reduceBEq, Nat.reduceMul, Nat.reduceAdd, Nat.reduceDiv, Int.reduceBEq, rules2, rulesX, rowsX]
  refine go_al rfl rfl ?_
  obtain ⟨r1, hr1, h⟩ := ob h
  try simp only [Nat.reduceBEq, Nat.reduceMul, Nat.reduceAdd, Nat.reduceDiv, Int.reduceBEq, rules2, rulesX, rowsX]
  refine go_callI (w_spec_DeskNew _ _ hr1) rfl rfl (Nat.le_of_ble_eq_true rfl) ?_
  try simp only [Nat.reduceBEq, Nat.reduceMul, Nat.reduceAdd, Nat.reduceDiv, Int.reduceBEq, rules2, rulesX, rowsX]
  refine go_al rfl rfl ?_
  obtain ⟨r2, hr2, h⟩ := ob h
  try simp only [Nat.reduceBEq, Nat.reduceMul, Nat.reduceAdd, Nat.reduceDiv, Int.reduceBEq, rules2, rulesX, rowsX]
  refine go_callI (w_spec_ReadJournal _ _ hr2) rfl rfl (Nat.le_of_ble_eq_true rfl) ?_
  try simp only [Nat.reduceBEq, Nat.reduceMul, Nat.reduceAdd, Nat.reduceDiv, Int.reduceBEq, rules2, rulesX, rowsX]
  refine w_spec_RebuildDesk_1 _ _ _ _ _ _ _ h _ ?_
  try simp only [Nat.reduceBEq, Nat.reduceMul, Nat.reduceAdd, Nat.reduceDiv, Int.reduceBEq, rules2, rulesX, rowsX, List.map_nil]
/- 71: impl_within -/
def c_impl_within : ACode := (.seq (.reg [(none, .mv 6 (KB false))]) (.seq (.reg [(none, .mv 7 (S 1)), (none, .mv 8 (S 0)), (none, .bin 9 .leq (S 7) (S 8)), (none, .mv 10 (S 9)), (some (10, true), .mv 11 (S 0)), (some (10, true), .mv 12 (S 2)), (some (10, true), .bin 13 .leq (S 11) (S 12)), (none, .pick 14 (S 10) (S 13) (KB false)), (none, .mv 6 (S 14))]) .ret))
theorem e_impl_within : entry Tryz.prog 71 = some (c_impl_within.strip, [6], 15) := by kernel_rfl
theorem w_impl_within (a0 : Int) (a1 : Int) (a2 : Int) (r : Bool) (h : f_impl_within a0 a1 a2 = some r) : FC Tryz.prog 71 [.sc (.int .i64 a0), .sc (.int .i64 a1), .sc (.int .i64 a2)] [.sc (.v (.bool r))] := by
  unfold f_impl_within at h
  refine FC_go (σ := ⟨[(0, vc (aI a0)), (1, vc (aI a1)), (2, vc (aI a2))], [], []⟩) mixed e_impl_within rfl rfl ?_
  simp only [c_impl_within]
  rcases Bool.eq_false_or_eq_true (decide (a1 ≤ a0)) with hb1 | hb1
  · rw [ite_t hb1] at h
    try simp only [hb1, Nat.reduceBEq, Nat.reduceMul, Nat.reduceAdd, Nat.reduceDiv, Int.reduceBEq, rules2, rulesX, rowsX]
    cases h
    exact ⟨⟨rfl, trivial⟩, rfl⟩
  · rw [ite_f hb1] at h
    try simp only [hb1, Nat.reduceBEq, Nat.reduceMul, Nat.reduceAdd, Nat.reduceDiv, Int.reduceBEq, rules2, rulesX, rowsX]
    cases h
    exact ⟨⟨rfl, trivial⟩, rfl⟩
/- 28: impl_DeskNew -/
def c_impl_DeskNew_1 : ACode := .seq (.reg [(none, .keep [2, 3, 9, 10] [2, 3] [131136, 131200])]) (.seq (.reg [(none, .bin 11 .lss (S 10) (S 9))]) (.seq (.cond (S 11) .skip (.exit 0)) (.seq (.block 1 (.seq (.reg [(none, .faddr 12 (S 3) 1), (none, .load 13 (S 12) false 1), (none, .bslice 14 1 [.int .i64 0] 1 [(0, (K (-1)))]), (none, .app 15 1 8 (S 13) (S 14)), (none, .faddr 16 (S 3) 1), (none, .store (S 16) (S 15) 1)]) (.reg [(none, .faddr 17 (S 3) 2), (none, .load 18 (S 17) false 1), (none, .bslice 19 1 [.bool false] 1 [(0, (KB false))]), (none, .app 20 1 1 (S 18) (S 19)), (none, .faddr 21 (S 3) 2), (none, .store (S 21) (S 20) 1)]))) (.reg [(none, .bin 22 .add (S 10) (K 1)), (none, .mv 10 (S 22))]))))
def c_impl_DeskNew_n1 : ACode := (.seq (.reg [(none, .load 23 (S 3) true 3), (none, .store (S 2) (S 23) 3)]) .ret)
def c_impl_DeskNew : ACode := (.seq (.reg [(none, .alloc 2 [aI 0, .nil, .nil])]) (.seq (.seq (.reg [(none, .mv 4 (S 0)), (none, .call 5 71 [(S 4), (K 0), (K 6)]), (none, .un 6 .not (S 5))]) (.cond (S 6) (.seq (.reg [(none, .build 7 [aI 0, .nil, .nil] []), (none, .store (S 2) (S 7) 3)]) .ret) .skip)) (.seq (.reg [(none, .build 8 [aI 0, .nil, .nil] []), (none, .alloc 3 [aI 0, .nil, .nil]), (none, .store (S 3) (S 8) 3), (none, .ownb 3 1 131136 1), (none, .ownb 3 2 131200 1)]) (.seq (.seq (.reg [(none, .mv 9 (S 0)), (none, .mv 10 (K 0))]) (.block 0 (.loop c_impl_DeskNew_1))) c_impl_DeskNew_n1))))
theorem w_impl_DeskNew_1 (a0 : Int) : ∀ (n : Nat) (v3 : Int) (v4 : List Int) (v5 : List Bool) (r : XDesk), f_impl_DeskNew_1 a0 n v3 v4 v5 = some r → ∀ σ : St, σ.kept [2, 3, 9, 10] [2, 3] [131136, 131200] = ⟨[(2, vc (.pb 2 0)), (3, vc (.pb 3 0)), (9, vc (aI a0)), (10, vc (aI v3))], [(2, [aI (0 : Int), .nil, .nil]), (3, [aI (0 : Int), .own 131136, .own 131200])], [(131136, 1, List.map rI v4), (131200, 1, List.map rB v5)]⟩ → go Tryz.prog (.code (.loop c_impl_DeskNew_1) :: [.blk 0, .code c_impl_DeskNew_n1]) (Ret [.c 2 true 3] [.ag [.v (.int .i64 r.Now), .o 1 (List.map rI r.Starts), .o 1 (List.map rB r.Cleared)]]) .normal (some σ) := by
  intro n
  induction n with
  | zero => intro _ _ _ r h; cases h
  | succ n ih =>
    intro v3 v4 v5 r h σ hσ
    rw [f_impl_DeskNew_1] at h
    refine go_round ?_
    rcases Bool.eq_false_or_eq_true (decide (v3 < a0)) with hb6 | hb6
    · rw [ite_t hb6] at h
      try simp only [hσ, hb6, c_impl_DeskNew_1, Nat.reduceBEq, Nat.reduceMul, Nat.reduceAdd, Nat.reduceDiv, Int.reduceBEq, rules2, rulesX, rowsX]
      refine go_bsl (es := List.map rI ([(-1 : Int)] : List Int)) rfl rfl ?_
      obtain ⟨hg7, h⟩ := of_guard h
      try simp only [hb6, hg7, Nat.reduceBEq, Nat.reduceMul, Nat.reduceAdd, Nat.reduceDiv, Int.reduceBEq, rules2, rulesX, rowsX]
      refine go_bsl (es := List.map rB ([false] : List Bool)) rfl rfl ?_
      obtain ⟨hg8, h⟩ := of_guard h
      try simp only [hb6, hg7, hg8, Nat.reduceBEq, Nat.reduceMul, Nat.reduceAdd, Nat.reduceDiv, Int.reduceBEq, rules2, rulesX, rowsX]
      refine ih _ _ _ _ h _ ?_
      try simp only [hb6, hg7, hg8, Nat.reduceBEq, Nat.reduceMul, Nat.reduceAdd, Nat.reduceDiv, Int.reduceBEq, rules2, rulesX, rowsX, List.map_nil]
    · rw [ite_f hb6] at h
      try simp only [hσ, hb6, c_impl_DeskNew_1, c_impl_DeskNew_n1, Nat.reduceBEq, Nat.reduceMul, Nat.reduceAdd, Nat.reduceDiv, Int.reduceBEq, rules2, rulesX, rowsX]
      cases h
      try simp only [rulesR, Nat.reduceBEq, Nat.reduceMul, Nat.reduceAdd, Nat.reduceDiv, Int.reduceBEq, rules2, rulesX, rowsX]
      exact ⟨⟨⟨rfl, rfl, rfl, trivial⟩, trivial⟩, rfl⟩
theorem e_impl_DeskNew : entry Tryz.prog 28 = some (c_impl_DeskNew.strip, [.c 2 true 3], 24) := by kernel_rfl
theorem w_impl_DeskNew (a0 : Int) (r : XDesk) (h : f_impl_DeskNew a0 = some r) : FC Tryz.prog 28 [.sc (.int .i64 a0)] [.ag [.v (.int .i64 r.Now), .o 1 (List.map rI r.Starts), .o 1 (List.map rB r.Cleared)]] := by
  unfold f_impl_DeskNew at h
  refine FC_go (σ := ⟨[(0, vc (aI a0))], [], []⟩) mixed e_impl_DeskNew rfl rfl ?_
  simp only [c_impl_DeskNew]
  try simp only [Nat.reduceBEq, Nat.reduceMul, Nat.reduceAdd, Nat.reduceDiv, Int.reduceBEq, rules2, rulesX, rowsX]
  refine go_al rfl rfl ?_
  obtain ⟨r1, hr1, h⟩ := ob h
  try simp only [Nat.reduceBEq, Nat.reduceMul, Nat.reduceAdd, Nat.reduceDiv, Int.reduceBEq, rules2, rulesX, rowsX]
  refine go_callI (w_impl_within _ _ _ _ hr1) rfl rfl (Nat.le_of_ble_eq_true rfl) ?_
  rcases Bool.eq_false_or_eq_true r1 with hb2 | hb2
  · rw [ite_t hb2] at h
    try simp only [hb2, Nat.reduceBEq, Nat.reduceMul, Nat.reduceAdd, Nat.reduceDiv, Int.reduceBEq, rules2, rulesX, rowsX]
    refine go_al rfl rfl ?_
    try simp only [hb2, Nat.reduceBEq, Nat.reduceMul, Nat.reduceAdd, Nat.reduceDiv, Int.reduceBEq, rules2, rulesX, rowsX]
    refine go_ownb' (cs' := [aI (0 : Int), .own 131136, .nil]) rfl rfl rfl rfl ?_
    try simp only [hb2, Nat.reduceBEq, Nat.reduceMul, Nat.reduceAdd, Nat.reduceDiv, Int.reduceBEq, rules2, rulesX, rowsX]
    refine go_ownb' (cs' := [aI (0 : Int), .own 131136, .own 131200]) rfl rfl rfl rfl ?_
    try simp only [hb2, Nat.reduceBEq, Nat.reduceMul, Nat.reduceAdd, Nat.reduceDiv, Int.reduceBEq, rules2, rulesX, rowsX]
    refine w_impl_DeskNew_1 _ _ _ _ _ _ h _ ?_
    try simp only [hb2, Nat.reduceBEq, Nat.reduceMul, Nat.reduceAdd, Nat.reduceDiv, Int.reduceBEq, rules2, rulesX, rowsX, List.map_nil]
  · rw [ite_f hb2] at h
    try simp only [hb2, Nat.reduceBEq, Nat.reduceMul, Nat.reduceAdd, Nat.reduceDiv, Int.reduceBEq, rules2, rulesX, rowsX]
    cases h
    try simp only [rulesR, Nat.reduceBEq, Nat.reduceMul, Nat.reduceAdd, Nat.reduceDiv, Int.reduceBEq, rules2, rulesX, rowsX]
    exact ⟨⟨⟨rfl, rfl, rfl, trivial⟩, trivial⟩, rfl⟩
/- 116: impl_SplitAny -/
def c_impl_SplitAny_2 : ACode := .seq (.reg [(none, .keep [0, 1, 5, 6, 7] [] [512])]) (.reg [(none, .mv 13 (S 7)), (none, .bin 14 .add (S 13) (K 1)), (none, .mv 7 (S 14))])
def c_impl_SplitAny_1 : ACode := .seq (.reg [(none, .keep [0, 1, 5, 6, 7] [] [512])]) (.seq (.seq (.reg [(none, .mv 9 (S 7)), (none, .mv 10 (S 0)), (none, .slen 11 (S 10)), (none, .bin 12 .lss (S 9) (S 11))]) (.cond (S 12) .skip (.exit 0))) (.seq (.block 1 (.seq (.reg [(none, .mv 15 (S 1)), (none, .mv 16 (S 0)), (none, .mv 17 (S 7)), (none, .idx 18 (S 16) (S 17)), (none, .call 19 143 [(S 15), (S 18)]), (none, .bin 20 .geq (S 19) (K 0))]) (.cond (S 20) (.seq (.reg [(none, .mv 21 (S 5)), (none, .mv 22 (S 0)), (none, .mv 23 (S 6)), (none, .mv 24 (S 7)), (none, .sslc 25 (S 22) (some (S 23)) (some (S 24))), (none, .bslice 26 1 [.str []] 1 [(0, (S 25))]), (none, .app 27 1 16 (S 21) (S 26)), (none, .mv 5 (S 27))]) (.reg [(none, .mv 28 (S 7)), (none, .bin 29 .add (S 28) (K 1)), (none, .mv 6 (S 29))])) .skip))) c_impl_SplitAny_2))
def c_impl_SplitAny_n1 : ACode := (.seq (.reg [(none, .mv 30 (S 5)), (none, .mv 31 (S 0)), (none, .mv 32 (S 6)), (none, .sslc 33 (S 31) (some (S 32)) none), (none, .bslice 34 1 [.str []] 1 [(0, (S 33))]), (none, .app 35 1 16 (S 30) (S 34)), (none, .mv 4 (S 35))]) .ret)
def c_impl_SplitAny : ACode := (.seq (.reg [(none, .mv 4 KN)]) (.seq (.reg [(none, .bslice 8 1 [.str []] 0 []), (none, .mv 5 (S 8))]) (.seq (.reg [(none, .mv 6 (K 0))]) (.seq (.seq (.reg [(none, .mv 7 (K 0))]) (.block 0 (.loop c_impl_SplitAny_1))) c_impl_SplitAny_n1))))
theorem w_impl_SplitAny_2 (a0 : List UInt8) (a1 : List UInt8) (v2 : Int) (k_impl_SplitAny_1 : Int → Int → (List (List UInt8)) → Option (List (List UInt8))) (hk_impl_SplitAny_1 : ∀ (v1 : Int) (v2 : Int) (v3 : List (List UInt8)) zr, k_impl_SplitAny_1 v1 v2 v3 = some zr → ∀ σ : St, σ.kept [0, 1, 5, 6, 7] [] [512] = ⟨[(0, vc (aS a0)), (1, vc (aS a1)), (5, vc (.own 512)), (6, vc (aI v1)), (7, vc (aI v2))], [], [(512, 1, List.map rS v3)]⟩ → go Tryz.prog (.code (.loop c_impl_SplitAny_1) :: [.blk 0, .code c_impl_SplitAny_n1]) (Ret [4] [.sc (.o 1 (List.map rS zr))]) .normal (some σ)) (v10 : Int) (v11 : List (List UInt8)) (r : (List (List UInt8))) (h : f_impl_SplitAny_2 a0 a1 v2 k_impl_SplitAny_1 v10 v11 = some r) (σ : St) (hσ : σ.kept [0, 1, 5, 6, 7] [] [512] = ⟨[(0, vc (aS a0)), (1, vc (aS a1)), (5, vc (.own 512)), (6, vc (aI v10)), (7, vc (aI v2))], [], [(512, 1, List.map rS v11)]⟩) : go Tryz.prog (.code c_impl_SplitAny_2 :: [.code (.loop c_impl_SplitAny_1), .blk 0, .code c_impl_SplitAny_n1]) (Ret [4] [.sc (.o 1 (List.map rS r))]) .normal (some σ) := by
  unfold f_impl_SplitAny_2 at h
  try simp only [hσ, c_impl_SplitAny_2, Nat.reduceBEq, Nat.reduceMul, Nat.reduceAdd, Nat.reduceDiv, Int.reduceBEq, rules2, rulesX, rowsX]
  refine hk_impl_SplitAny_1 _ _ _ _ h _ ?_
  try simp only [Nat.reduceBEq, Nat.reduceMul, Nat.reduceAdd, Nat.reduceDiv, Int.reduceBEq, rules2, rulesX, rowsX, List.map_nil]
theorem w_impl_SplitAny_1 (a0 : List UInt8) (a1 : List UInt8) : ∀ (n : Nat) (v1 : Int) (v2 : Int) (v3 : List (List UInt8)) (r : (List (List UInt8))), f_impl_SplitAny_1 a0 a1 n v1 v2 v3 = some r → ∀ σ : St, σ.kept [0, 1, 5, 6, 7] [] [512] = ⟨[(0, vc (aS a0)), (1, vc (aS a1)), (5, vc (.own 512)), (6, vc (aI v1)), (7, vc (aI v2))], [], [(512, 1, List.map rS v3)]⟩ → go Tryz.prog (.code (.loop c_impl_SplitAny_1) :: [.blk 0, .code c_impl_SplitAny_n1]) (Ret [4] [.sc (.o 1 (List.map rS r))]) .normal (some σ) := by
  intro n
  induction n with
  | zero => intro _ _ _ r h; cases h
  | succ n ih =>
    intro v1 v2 v3 r h σ hσ
    rw [f_impl_SplitAny_1] at h
    refine go_round ?_
    rcases Bool.eq_false_or_eq_true (decide (v2 < (a0.length : Int))) with hb4 | hb4
    · rw [ite_t hb4] at h
      obtain ⟨b5, hb5, h⟩ := ob h
      obtain ⟨r6, hr6, h⟩ := ob h
      try simp only [hσ, hb4, hb5, c_impl_SplitAny_1, Nat.reduceBEq, Nat.reduceMul, Nat.reduceAdd, Nat.reduceDiv, Int.reduceBEq, rules2, rulesX, rowsX]
      refine go_callI (w_strings_IndexByte _ _ _ hr6) rfl rfl (Nat.le_of_ble_eq_true rfl) ?_
      rcases Bool.eq_false_or_eq_true (decide ((0 : Int) ≤ r6)) with hb7 | hb7
      · rw [ite_t hb7] at h
        obtain ⟨p8, hp8, h⟩ := ob h
        try simp only [hb4, hb5, hb7, hp8, Nat.reduceBEq, Nat.reduceMul, Nat.reduceAdd, Nat.reduceDiv, Int.reduceBEq, rules2, rulesX, rowsX]
        refine go_bsl (es := List.map rS ([((a0.drop p8.1).take (p8.2 - p8.1))] : List (List UInt8))) rfl rfl ?_
        obtain ⟨hg9, h⟩ := of_guard h
        try simp only [hb4, hb5, hb7, hp8, hg9, Nat.reduceBEq, Nat.reduceMul, Nat.reduceAdd, Nat.reduceDiv, Int.reduceBEq, rules2, rulesX, rowsX]
        refine w_impl_SplitAny_2 _ _ _ (f_impl_SplitAny_1 a0 a1 n) ih _ _ _ h _ ?_
        try simp only [hb4, hb5, hb7, hp8, hg9, Nat.reduceBEq, Nat.reduceMul, Nat.reduceAdd, Nat.reduceDiv, Int.reduceBEq, rules2, rulesX, rowsX, List.map_nil]
      · rw [ite_f hb7] at h
        try simp only [hb4, hb5, hb7, Nat.reduceBEq, Nat.reduceMul, Nat.reduceAdd, Nat.reduceDiv, Int.reduceBEq, rules2, rulesX, rowsX]
        refine w_impl_SplitAny_2 _ _ _ (f_impl_SplitAny_1 a0 a1 n) ih _ _ _ h _ ?_
        try simp only [hb4, hb5, hb7, Nat.reduceBEq, Nat.reduceMul, Nat.reduceAdd, Nat.reduceDiv, Int.reduceBEq, rules2, rulesX, rowsX, List.map_nil]
    · rw [ite_f hb4] at h
      obtain ⟨p12, hp12, h⟩ := ob h
      try simp only [hσ, hb4, hp12, c_impl_SplitAny_1, c_impl_SplitAny_n1, Nat.reduceBEq, Nat.reduceMul, Nat.reduceAdd, Nat.reduceDiv, Int.reduceBEq, rules2, rulesX, rowsX]
      refine go_bsl (es := List.map rS ([((a0.drop p12.1).take (p12.2 - p12.1))] : List (List UInt8))) rfl rfl ?_
      obtain ⟨hg13, h⟩ := of_guard h
      try simp only [hb4, hp12, hg13, Nat.reduceBEq, Nat.reduceMul, Nat.reduceAdd, Nat.reduceDiv, Int.reduceBEq, rules2, rulesX, rowsX]
      cases h
      exact ⟨⟨rfl, trivial⟩, rfl⟩
theorem e_impl_SplitAny : entry Tryz.prog 116 = some (c_impl_SplitAny.strip, [4], 36) := by kernel_rfl
theorem w_impl_SplitAny (a0 : List UInt8) (a1 : List UInt8) (r : (List (List UInt8))) (h : f_impl_SplitAny a0 a1 = some r) : FC Tryz.prog 116 [.sc (.str a0), .sc (.str a1)] [.sc (.o 1 (List.map rS r))] := by
  unfold f_impl_SplitAny at h
  refine FC_go (σ := ⟨[(0, vc (aS a0)), (1, vc (aS a1))], [], []⟩) mixed e_impl_SplitAny rfl rfl ?_
  simp only [c_impl_SplitAny]
  try simp only [Nat.reduceBEq, Nat.reduceMul, Nat.reduceAdd, Nat.reduceDiv, Int.reduceBEq, rules2, rulesX, rowsX]
  refine go_bsl (es := List.map rS ([] : List (List UInt8))) rfl rfl ?_
  try simp only [Nat.reduceBEq, Nat.reduceMul, Nat.reduceAdd, Nat.reduceDiv, Int.reduceBEq, rules2, rulesX, rowsX]
  refine w_impl_SplitAny_1 _ _ _ _ _ _ _ h _ ?_
  try simp only [Nat.reduceBEq, Nat.reduceMul, Nat.reduceAdd, Nat.reduceDiv, Int.reduceBEq, rules2, rulesX, rowsX, List.map_nil]
/- 72: impl_SplitLines -/
def c_impl_SplitLines : ACode := (.seq (.reg [(none, .mv 2 KN)]) (.seq (.reg [(none, .mv 4 (S 0)), (none, .call 5 116 [(S 4), (KS [10])]), (none, .frz 320), (none, .mv 3 (S 5))]) (.seq (.seq (.reg [(none, .mv 6 (S 3)), (none, .mv 7 (S 3)), (none, .len 8 (S 7)), (none, .bin 9 .sub (S 8) (K 1)), (none, .iaddr 10 (S 6) (S 9) 1), (none, .load 11 (S 10) false 1), (none, .bin 12 .eql (S 11) (KS []))]) (.cond (S 12) (.reg [(none, .mv 13 (S 3)), (none, .mv 14 (S 3)), (none, .len 15 (S 14)), (none, .bin 16 .sub (S 15) (K 1)), (none, .slc 17 1 (S 13) none (some (S 16)) none), (none, .mv 3 (S 17))]) .skip)) (.seq (.reg [(none, .mv 18 (S 3)), (none, .mv 2 (S 18))]) .ret))))
theorem e_impl_SplitLines : entry Tryz.prog 72 = some (c_impl_SplitLines.strip, [2], 19) := by kernel_rfl
theorem w_impl_SplitLines (a0 : List UInt8) (r : (List (List UInt8))) (h : f_impl_SplitLines a0 = some r) : FC Tryz.prog 72 [.sc (.str a0)] [.sc (.v (.sl (List.map rS r)))] := by
  unfold f_impl_SplitLines at h
  refine FC_go (σ := ⟨[(0, vc (aS a0))], [], []⟩) mixed e_impl_SplitLines rfl rfl ?_
  simp only [c_impl_SplitLines]
  obtain ⟨r1, hr1, h⟩ := ob h
  try simp only [Nat.reduceBEq, Nat.reduceMul, Nat.reduceAdd, Nat.reduceDiv, Int.reduceBEq, rules2, rulesX, rowsX]
  refine go_callI (w_impl_SplitAny _ _ _ hr1) rfl rfl (Nat.le_of_ble_eq_true rfl) ?_
  try simp only [Nat.reduceBEq, Nat.reduceMul, Nat.reduceAdd, Nat.reduceDiv, Int.reduceBEq, rules2, rulesX, rowsX]
  refine go_frz' rfl ?_
  obtain ⟨x2, hx2, h⟩ := ob h
  rcases Bool.eq_false_or_eq_true (x2 == ([] : List UInt8)) with hb3 | hb3
  · rw [ite_t hb3] at h
    obtain ⟨p4, hp4, h⟩ := ob h
    try simp only [hx2, hb3, hp4, Nat.reduceBEq, Nat.reduceMul, Nat.reduceAdd, Nat.reduceDiv, Int.reduceBEq, rules2, rulesX, rowsX]
    cases h
    exact ⟨⟨rfl, trivial⟩, rfl⟩
  · rw [ite_f hb3] at h
    try simp only [hx2, hb3, Nat.reduceBEq, Nat.reduceMul, Nat.reduceAdd, Nat.reduceDiv, Int.reduceBEq, rules2, rulesX, rowsX]
    cases h
    exact ⟨⟨rfl, trivial⟩, rfl⟩
/- 144: impl_parseNumbers -/
def c_impl_parseNumbers_1 : ACode := .seq (.reg [(none, .keep [4, 10, 11, 12] [] [576])]) (.seq (.reg [(none, .bin 13 .lss (S 12) (S 11))]) (.seq (.cond (S 13) .skip (.exit 0)) (.seq (.block 1 (.seq (.reg [(none, .iaddr 14 (S 10) (S 12) 1), (none, .load 15 (S 14) false 1), (none, .mv 6 (S 15))]) (.seq (.reg [(none, .mv 17 (S 6)), (none, .call 18 163 [(S 17)]), (none, .mv 16 (S 18)), (none, .extr 19 (S 16) 0), (none, .extr 20 (S 16) 1), (none, .mv 7 (S 19)), (none, .mv 8 (S 20))]) (.seq (.seq (.reg [(none, .mv 21 (S 8)), (none, .un 22 .not (S 21))]) (.cond (S 22) (.seq (.reg [(none, .mv 2 KN), (none, .mv 3 (KB false))]) .ret) .skip)) (.reg [(none, .mv 23 (S 4)), (none, .mv 24 (S 7)), (none, .bslice 25 1 [.int .i64 0] 1 [(0, (S 24))]), (none, .app 26 1 8 (S 23) (S 25)), (none, .mv 4 (S 26))]))))) (.reg [(none, .bin 27 .add (S 12) (K 1)), (none, .mv 12 (S 27))]))))
def c_impl_parseNumbers_n1 : ACode := (.seq (.reg [(none, .mv 28 (S 4)), (none, .mv 2 (S 28)), (none, .mv 3 (KB true))]) .ret)
def c_impl_parseNumbers : ACode := (.seq (.reg [(none, .mv 2 KN), (none, .mv 3 (KB false))]) (.seq (.reg [(none, .bslice 9 1 [.int .i64 0] 0 []), (none, .mv 4 (S 9))]) (.seq (.seq (.reg [(none, .mv 10 (S 0)), (none, .len 11 (S 10)), (none, .mv 12 (K 0))]) (.block 0 (.loop c_impl_parseNumbers_1))) c_impl_parseNumbers_n1)))
theorem w_impl_parseNumbers_1 (a0 : List (List UInt8)) : ∀ (n : Nat) (v1 : Int) (v2 : List Int) (r : (List Int) × Bool), f_impl_parseNumbers_1 a0 n v1 v2 = some r → ∀ σ : St, σ.kept [4, 10, 11, 12] [] [576] = ⟨[(4, vc (.own 576)), (10, vc (aL (List.map rS a0))), (11, vc (aI (a0.length : Int))), (12, vc (aI v1))], [], [(576, 1, List.map rI v2)]⟩ → go Tryz.prog (.code (.loop c_impl_parseNumbers_1) :: [.blk 0, .code c_impl_parseNumbers_n1]) (Ret [2, 3] [.sc (.o 1 (List.map rI r.1)), .sc (.v (.bool r.2))]) .normal (some σ) := by
  intro n
  induction n with
  | zero => intro _ _ r h; cases h
  | succ n ih =>
    intro v1 v2 r h σ hσ
    rw [f_impl_parseNumbers_1] at h
    refine go_round ?_
    rcases Bool.eq_false_or_eq_true (decide (v1 < (a0.length : Int))) with hb3 | hb3
    · rw [ite_t hb3] at h
      obtain ⟨x4, hx4, h⟩ := ob h
      obtain ⟨r5, hr5, h⟩ := ob h
      try simp only [hσ, hb3, hx4, c_impl_parseNumbers_1, Nat.reduceBEq, Nat.reduceMul, Nat.reduceAdd, Nat.reduceDiv, Int.reduceBEq, rules2, rulesX, rowsX]
      refine go_callI (w_impl_ParseInt _ _ hr5) rfl rfl (Nat.le_of_ble_eq_true rfl) ?_
      rcases Bool.eq_false_or_eq_true r5.2 with hb6 | hb6
      · rw [ite_t hb6] at h
        try simp only [hb3, hx4, hb6, Nat.reduceBEq, Nat.reduceMul, Nat.reduceAdd, Nat.reduceDiv, Int.reduceBEq, rules2, rulesX, rowsX]
        refine go_bsl (es := List.map rI ([r5.1] : List Int)) rfl rfl ?_
        obtain ⟨hg7, h⟩ := of_guard h
        try simp only [hb3, hx4, hb6, hg7, Nat.reduceBEq, Nat.reduceMul, Nat.reduceAdd, Nat.reduceDiv, Int.reduceBEq, rules2, rulesX, rowsX]
        refine ih _ _ _ h _ ?_
        try simp only [hb3, hx4, hb6, hg7, Nat.reduceBEq, Nat.reduceMul, Nat.reduceAdd, Nat.reduceDiv, Int.reduceBEq, rules2, rulesX, rowsX, List.map_nil]
      · rw [ite_f hb6] at h
        try simp only [hb3, hx4, hb6, Nat.reduceBEq, Nat.reduceMul, Nat.reduceAdd, Nat.reduceDiv, Int.reduceBEq, rules2, rulesX, rowsX]
        cases h
        exact ⟨⟨rfl, rfl, trivial⟩, rfl⟩
    · rw [ite_f hb3] at h
      try simp only [hσ, hb3, c_impl_parseNumbers_1, c_impl_parseNumbers_n1, Nat.reduceBEq, Nat.reduceMul, Nat.reduceAdd, Nat.reduceDiv, Int.reduceBEq, rules2, rulesX, rowsX]
      cases h
      exact ⟨⟨rfl, rfl, trivial⟩, rfl⟩
theorem e_impl_parseNumbers : entry Tryz.prog 144 = some (c_impl_parseNumbers.strip, [2, 3], 29) := by kernel_rfl
theorem w_impl_parseNumbers (a0 : List (List UInt8)) (r : (List Int) × Bool) (h : f_impl_parseNumbers a0 = some r) : FC Tryz.prog 144 [.sc (.sl (List.map rS a0))] [.sc (.o 1 (List.map rI r.1)), .sc (.v (.bool r.2))] := by
  unfold f_impl_parseNumbers at h
  refine FC_go (σ := ⟨[(0, vc (aL (List.map rS a0)))], [], []⟩) mixed e_impl_parseNumbers rfl rfl ?_
  simp only [c_impl_parseNumbers]
  try simp only [Nat.reduceBEq, Nat.reduceMul, Nat.reduceAdd, Nat.reduceDiv, Int.reduceBEq, rules2, rulesX, rowsX]
  refine go_bsl (es := List.map rI ([] : List Int)) rfl rfl ?_
  try simp only [Nat.reduceBEq, Nat.reduceMul, Nat.reduceAdd, Nat.reduceDiv, Int.reduceBEq, rules2, rulesX, rowsX]
  refine w_impl_parseNumbers_1 _ _ _ _ _ h _ ?_
  try simp only [Nat.reduceBEq, Nat.reduceMul, Nat.reduceAdd, Nat.reduceDiv, Int.reduceBEq, rules2, rulesX, rowsX, List.map_nil]
/- 164: impl_entryName -/
def c_impl_entryName : ACode := (.seq (.reg [(none, .mv 2 (KS []))]) (.seq (.seq (.reg [(none, .mv 3 (S 0)), (none, .call 4 71 [(S 3), (K 1), (K 4)]), (none, .un 5 .not (S 4))]) (.cond (S 5) (.seq (.reg [(none, .mv 2 (KS []))]) .ret) .skip)) (.seq (.reg [(none, .bslice 6 1 [.str []] 4 [(0, (KS [97, 110, 110, 111, 117, 110, 99, 101])), (1, (KS [99, 108, 101, 97, 114])), (2, (KS [99, 97, 110, 99, 101, 108])), (3, (KS [116, 105, 99, 107]))]), (none, .mv 7 (S 0)), (none, .bin 8 .sub (S 7) (K 1)), (none, .iaddr 9 (S 6) (S 8) 1), (none, .load 10 (S 9) false 1), (none, .mv 2 (S 10))]) .ret)))
theorem e_impl_entryName : entry Tryz.prog 164 = some (c_impl_entryName.strip, [2], 11) := by kernel_rfl
theorem w_impl_entryName (a0 : Int) (r : (List UInt8)) (h : f_impl_entryName a0 = some r) : FC Tryz.prog 164 [.sc (.int .i64 a0)] [.sc (.v (.str r))] := by
  unfold f_impl_entryName at h
  refine FC_go (σ := ⟨[(0, vc (aI a0))], [], []⟩) mixed e_impl_entryName rfl rfl ?_
  simp only [c_impl_entryName]
  obtain ⟨r1, hr1, h⟩ := ob h
  try simp only [Nat.reduceBEq, Nat.reduceMul, Nat.reduceAdd, Nat.reduceDiv, Int.reduceBEq, rules2, rulesX, rowsX]
  refine go_callI (w_impl_within _ _ _ _ hr1) rfl rfl (Nat.le_of_ble_eq_true rfl) ?_
  rcases Bool.eq_false_or_eq_true r1 with hb2 | hb2
  · rw [ite_t hb2] at h
    try simp only [hb2, Nat.reduceBEq, Nat.reduceMul, Nat.reduceAdd, Nat.reduceDiv, Int.reduceBEq, rules2, rulesX, rowsX]
    refine go_bsl (es := List.map rS ([([97, 110, 110, 111, 117, 110, 99, 101] : List UInt8), ([99, 108, 101, 97, 114] : List UInt8), ([99, 97, 110, 99, 101, 108] : List UInt8), ([116, 105, 99, 107] : List UInt8)] : List (List UInt8))) rfl rfl ?_
    obtain ⟨x3, hx3, h⟩ := ob h
    have hx3n := ix_get hx3
    try simp only [hb2, hx3, hx3n, Nat.reduceBEq, Nat.reduceMul, Nat.reduceAdd, Nat.reduceDiv, Int.reduceBEq, rules2, rulesX, rowsX]
    cases h
    exact ⟨⟨rfl, trivial⟩, rfl⟩
  · rw [ite_f hb2] at h
    try simp only [hb2, Nat.reduceBEq, Nat.reduceMul, Nat.reduceAdd, Nat.reduceDiv, Int.reduceBEq, rules2, rulesX, rowsX]
    cases h
    exact ⟨⟨rfl, trivial⟩, rfl⟩
/- 124: impl_isMinute -/
def c_impl_isMinute : ACode := (.seq (.reg [(none, .mv 2 (KB false))]) (.seq (.reg [(none, .mv 3 (S 0)), (none, .call 4 71 [(S 3), (K 0), (K 2880)]), (none, .mv 2 (S 4))]) .ret))
theorem e_impl_isMinute : entry Tryz.prog 124 = some (c_impl_isMinute.strip, [2], 5) := by kernel_rfl
theorem w_impl_isMinute (a0 : Int) (r : Bool) (h : f_impl_isMinute a0 = some r) : FC Tryz.prog 124 [.sc (.int .i64 a0)] [.sc (.v (.bool r))] := by
  unfold f_impl_isMinute at h
  refine FC_go (σ := ⟨[(0, vc (aI a0))], [], []⟩) mixed e_impl_isMinute rfl rfl ?_
  simp only [c_impl_isMinute]
  obtain ⟨r1, hr1, h⟩ := ob h
  try simp only [Nat.reduceBEq, Nat.reduceMul, Nat.reduceAdd, Nat.reduceDiv, Int.reduceBEq, rules2, rulesX, rowsX]
  refine go_callI (w_impl_within _ _ _ _ hr1) rfl rfl (Nat.le_of_ble_eq_true rfl) ?_
  try simp only [Nat.reduceBEq, Nat.reduceMul, Nat.reduceAdd, Nat.reduceDiv, Int.reduceBEq, rules2, rulesX, rowsX]
  cases h
  exact ⟨⟨rfl, trivial⟩, rfl⟩
/- 102: impl_FormatInt -/
def c_impl_FormatInt : ACode := (.seq (.reg [(none, .mv 2 (KS []))]) (.seq (.reg [(none, .mv 3 (S 0)), (none, .call 4 134 [(S 3)]), (none, .mv 2 (S 4))]) .ret))
theorem e_impl_FormatInt : entry Tryz.prog 102 = some (c_impl_FormatInt.strip, [2], 5) := by kernel_rfl
theorem w_impl_FormatInt (a0 : Int) (r : (List UInt8)) (h : f_impl_FormatInt a0 = some r) : FC Tryz.prog 102 [.sc (.int .i64 a0)] [.sc (.v (.str r))] := by
  unfold f_impl_FormatInt at h
  refine FC_go (σ := ⟨[(0, vc (aI a0))], [], []⟩) mixed e_impl_FormatInt rfl rfl ?_
  simp only [c_impl_FormatInt]
  obtain ⟨r1, hr1, h⟩ := ob h
  try simp only [Nat.reduceBEq, Nat.reduceMul, Nat.reduceAdd, Nat.reduceDiv, Int.reduceBEq, rules2, rulesX, rowsX]
  refine go_callI (w_strconv_Itoa _ _ hr1) rfl rfl (Nat.le_of_ble_eq_true rfl) ?_
  try simp only [Nat.reduceBEq, Nat.reduceMul, Nat.reduceAdd, Nat.reduceDiv, Int.reduceBEq, rules2, rulesX, rowsX]
  cases h
  exact ⟨⟨rfl, trivial⟩, rfl⟩
/- 100: impl_Join -/
def c_impl_Join : ACode := (.seq (.reg [(none, .mv 4 (KS []))]) (.seq (.reg [(none, .mv 5 (S 0)), (none, .mv 6 (S 1)), (none, .call 7 133 [(S 5), (S 6)]), (none, .mv 4 (S 7))]) .ret))
theorem e_impl_Join : entry Tryz.prog 100 = some (c_impl_Join.strip, [4], 8) := by kernel_rfl
theorem w_impl_Join (a0 : List (List UInt8)) (a1 : List UInt8) (r : (List UInt8)) (h : f_impl_Join a0 a1 = some r) : FC Tryz.prog 100 [.sc (.sl (List.map rS a0)), .sc (.str a1)] [.sc (.v (.str r))] := by
  unfold f_impl_Join at h
  refine FC_go (σ := ⟨[(0, vc (aL (List.map rS a0))), (1, vc (aS a1))], [], []⟩) mixed e_impl_Join rfl rfl ?_
  simp only [c_impl_Join]
  obtain ⟨r1, hr1, h⟩ := ob h
  try simp only [Nat.reduceBEq, Nat.reduceMul, Nat.reduceAdd, Nat.reduceDiv, Int.reduceBEq, rules2, rulesX, rowsX]
  refine go_callI (w_strings_Join _ _ _ hr1) rfl rfl (Nat.le_of_ble_eq_true rfl) ?_
  try simp only [Nat.reduceBEq, Nat.reduceMul, Nat.reduceAdd, Nat.reduceDiv, Int.reduceBEq, rules2, rulesX, rowsX]
  cases h
  exact ⟨⟨rfl, trivial⟩, rfl⟩
/- 165: impl_SumOfText -/
def c_impl_SumOfText_1 : ACode := .seq (.reg [(none, .keep [0, 3, 4] [] [])]) (.seq (.seq (.reg [(none, .mv 5 (S 4)), (none, .mv 6 (S 0)), (none, .slen 7 (S 6)), (none, .bin 8 .lss (S 5) (S 7))]) (.cond (S 8) .skip (.exit 0))) (.seq (.block 1 (.reg [(none, .mv 11 (S 3)), (none, .bin 12 .mul (K 31) (S 11)), (none, .mv 13 (S 0)), (none, .mv 14 (S 4)), (none, .idx 15 (S 13) (S 14)), (none, .conv 16 .i64 (S 15)), (none, .bin 17 .add (S 12) (S 16)), (none, .bin 18 .rem (S 17) (K 65521)), (none, .mv 3 (S 18))])) (.reg [(none, .mv 9 (S 4)), (none, .bin 10 .add (S 9) (K 1)), (none, .mv 4 (S 10))])))
def c_impl_SumOfText_n1 : ACode := (.seq (.reg [(none, .mv 19 (S 3)), (none, .mv 2 (S 19))]) .ret)
def c_impl_SumOfText : ACode := (.seq (.reg [(none, .mv 2 (K 0))]) (.seq (.reg [(none, .mv 3 (K 7))]) (.seq (.seq (.reg [(none, .mv 4 (K 0))]) (.block 0 (.loop c_impl_SumOfText_1))) c_impl_SumOfText_n1)))
theorem w_impl_SumOfText_1 (a0 : List UInt8) : ∀ (n : Nat) (v1 : Int) (v2 : Int) (r : Int), f_impl_SumOfText_1 a0 n v1 v2 = some r → ∀ σ : St, σ.kept [0, 3, 4] [] [] = ⟨[(0, vc (aS a0)), (3, vc (aI v1)), (4, vc (aI v2))], [], []⟩ → go Tryz.prog (.code (.loop c_impl_SumOfText_1) :: [.blk 0, .code c_impl_SumOfText_n1]) (Ret [2] [.sc (.v (.int .i64 r))]) .normal (some σ) := by
  intro n
  induction n with
  | zero => intro _ _ r h; cases h
  | succ n ih =>
    intro v1 v2 r h σ hσ
    rw [f_impl_SumOfText_1] at h
    refine go_round ?_
    rcases Bool.eq_false_or_eq_true (decide (v2 < (a0.length : Int))) with hb3 | hb3
    · rw [ite_t hb3] at h
      obtain ⟨b4, hb4, h⟩ := ob h
      try simp only [hσ, hb3, hb4, c_impl_SumOfText_1, Nat.reduceBEq, Nat.reduceMul, Nat.reduceAdd, Nat.reduceDiv, Int.reduceBEq, rules2, rulesX, rowsX]
      refine ih _ _ _ h _ ?_
      try simp only [hb3, hb4, Nat.reduceBEq, Nat.reduceMul, Nat.reduceAdd, Nat.reduceDiv, Int.reduceBEq, rules2, rulesX, rowsX, List.map_nil]
    · rw [ite_f hb3] at h
      try simp only [hσ, hb3, c_impl_SumOfText_1, c_impl_SumOfText_n1, Nat.reduceBEq, Nat.reduceMul, Nat.reduceAdd, Nat.reduceDiv, Int.reduceBEq, rules2, rulesX, rowsX]
      cases h
      exact ⟨⟨rfl, trivial⟩, rfl⟩
theorem e_impl_SumOfText : entry Tryz.prog 165 = some (c_impl_SumOfText.strip, [2], 20) := by kernel_rfl
theorem w_impl_SumOfText (a0 : List UInt8) (r : Int) (h : f_impl_SumOfText a0 = some r) : FC Tryz.prog 165 [.sc (.str a0)] [.sc (.v (.int .i64 r))] := by
  unfold f_impl_SumOfText at h
  refine FC_go (σ := ⟨[(0, vc (aS a0))], [], []⟩) mixed e_impl_SumOfText rfl rfl ?_
  simp only [c_impl_SumOfText]
  try simp only [Nat.reduceBEq, Nat.reduceMul, Nat.reduceAdd, Nat.reduceDiv, Int.reduceBEq, rules2, rulesX, rowsX]
  refine w_impl_SumOfText_1 _ _ _ _ _ h _ ?_
  try simp only [Nat.reduceBEq, Nat.reduceMul, Nat.reduceAdd, Nat.reduceDiv, Int.reduceBEq, rules2, rulesX, rowsX, List.map_nil]
/- 145: impl_FormatEntry -/
def c_impl_FormatEntry : ACode := (.seq (.reg [(none, .box 1 (S 0)), (none, .mv 2 (KS []))]) (.seq (.reg [(none, .faddr 5 (S 1) 0), (none, .load 6 (S 5) false 1), (none, .call 7 164 [(S 6)]), (none, .mv 3 (S 7))]) (.seq (.seq (.reg [(none, .mv 8 (S 3)), (none, .bin 9 .eql (S 8) (KS [])), (none, .mv 10 (S 9)), (some (10, false), .faddr 11 (S 1) 1), (some (10, false), .load 12 (S 11) false 1), (some (10, false), .call 13 124 [(S 12)]), (some (10, false), .un 14 .not (S 13)), (none, .pick 15 (S 10) (KB true) (S 14)), (none, .mv 16 (S 15)), (some (16, false), .faddr 17 (S 1) 2), (some (16, false), .load 18 (S 17) false 1), (some (16, false), .call 19 124 [(S 18)]), (some (16, false), .un 20 .not (S 19)), (none, .pick 21 (S 16) (KB true) (S 20)), (none, .mv 22 (S 21)), (some (22, false), .faddr 23 (S 1) 3), (some (22, false), .load 24 (S 23) false 1), (some (22, false), .call 25 124 [(S 24)]), (some (22, false), .un 26 .not (S 25)), (none, .pick 27 (S 22) (KB true) (S 26))]) (.cond (S 27) (.seq (.reg [(none, .mv 2 (KS []))]) .ret) .skip)) (.seq (.drw [(some [31, 34, 37], (none, .mv 28 (S 3))), (some [], (none, .faddr 29 (S 1) 1)), (some [], (none, .load 30 (S 29) false 1)), (some [], (none, .call 31 102 [(S 30)])), (some [31], (none, .faddr 32 (S 1) 2)), (some [31], (none, .load 33 (S 32) false 1)), (some [], (none, .call 34 102 [(S 33)])), (some [31, 34], (none, .faddr 35 (S 1) 3)), (some [31, 34], (none, .load 36 (S 35) false 1)), (some [], (none, .call 37 102 [(S 36)])), (some [], (none, .bslice 38 1 [.str []] 4 [(0, (S 28)), (1, (S 31)), (2, (S 34)), (3, (S 37))])), (some [], (none, .call 39 100 [(S 38), (KS [32])])), (some [], (none, .mv 4 (S 39)))]) (.seq (.reg [(none, .mv 40 (S 4)), (none, .bin 41 .add (S 40) (KS [32, 35])), (none, .mv 42 (S 4)), (none, .call 43 165 [(S 42)]), (none, .call 44 102 [(S 43)]), (none, .bin 45 .add (S 41) (S 44)), (none, .mv 2 (S 45))]) .ret)))))
theorem e_impl_FormatEntry : entry Tryz.prog 145 = some (c_impl_FormatEntry.strip, [2], 46) := by kernel_rfl
theorem w_impl_FormatEntry (a0 : XEntry) (r : (List UInt8)) (h : f_impl_FormatEntry a0 = some r) : FC Tryz.prog 145 [.ag (XEntry.row a0)] [.sc (.v (.str r))] := by
  unfold f_impl_FormatEntry at h
  refine FC_go (σ := ⟨[(0, va [aI a0.Kind, aI a0.At, aI a0.Call, aI a0.Value])], [], []⟩) mixed e_impl_FormatEntry rfl rfl ?_
  simp only [c_impl_FormatEntry]
  try simp only [Nat.reduceBEq, Nat.reduceMul, Nat.reduceAdd, Nat.reduceDiv, Int.reduceBEq, rules2, rulesX, rowsX]
  refine go_bx rfl rfl rfl ?_
  obtain ⟨r1, hr1, h⟩ := ob h
  try simp only [Nat.reduceBEq, Nat.reduceMul, Nat.reduceAdd, Nat.reduceDiv, Int.reduceBEq, rules2, rulesX, rowsX]
  refine go_callI (w_impl_entryName _ _ hr1) rfl rfl (Nat.le_of_ble_eq_true rfl) ?_
  rcases Bool.eq_false_or_eq_true (r1 == ([] : List UInt8)) with hb2 | hb2
  · rw [ite_t hb2] at h
    try simp only [hb2, Nat.reduceBEq, Nat.reduceMul, Nat.reduceAdd, Nat.reduceDiv, Int.reduceBEq, rules2, rulesX, rowsX]
    cases h
    exact ⟨⟨rfl, trivial⟩, rfl⟩
  · rw [ite_f hb2] at h
    obtain ⟨r3, hr3, h⟩ := ob h
    try simp only [hb2, Nat.reduceBEq, Nat.reduceMul, Nat.reduceAdd, Nat.reduceDiv, Int.reduceBEq, rules2, rulesX, rowsX]
    refine go_callI (w_impl_isMinute _ _ hr3) rfl rfl (Nat.le_of_ble_eq_true rfl) ?_
    rcases Bool.eq_false_or_eq_true r3 with hb4 | hb4
    · rw [ite_t hb4] at h
      obtain ⟨r5, hr5, h⟩ := ob h
      try simp only [hb2, hb4, Nat.reduceBEq, Nat.reduceMul, Nat.reduceAdd, Nat.reduceDiv, Int.reduceBEq, rules2, rulesX, rowsX]
      refine go_callI (w_impl_isMinute _ _ hr5) rfl rfl (Nat.le_of_ble_eq_true rfl) ?_
      rcases Bool.eq_false_or_eq_true r5 with hb6 | hb6
      · rw [ite_t hb6] at h
        obtain ⟨r7, hr7, h⟩ := ob h
        try simp only [hb2, hb4, hb6, Nat.reduceBEq, Nat.reduceMul, Nat.reduceAdd, Nat.reduceDiv, Int.reduceBEq, rules2, rulesX, rowsX]
        refine go_callI (w_impl_isMinute _ _ hr7) rfl rfl (Nat.le_of_ble_eq_true rfl) ?_
        rcases Bool.eq_false_or_eq_true r7 with hb8 | hb8
        · rw [ite_t hb8] at h
          try simp only [hb2, hb4, hb6, hb8, Nat.reduceBEq, Nat.reduceMul, Nat.reduceAdd, Nat.reduceDiv, Int.reduceBEq, rules2, rulesX, rowsX]
          refine go_fr_of rfl ?_
          obtain ⟨r9, hr9, h⟩ := ob h
          try simp only [hb2, hb4, hb6, hb8, Nat.reduceBEq, Nat.reduceMul, Nat.reduceAdd, Nat.reduceDiv, Int.reduceBEq, rules2, rulesX, rowsX]
          refine go_dcallI (w_impl_FormatInt _ _ hr9) rfl rfl (Nat.le_of_ble_eq_true rfl) ?_
          obtain ⟨r10, hr10, h⟩ := ob h
          try simp only [hb2, hb4, hb6, hb8, Nat.reduceBEq, Nat.reduceMul, Nat.reduceAdd, Nat.reduceDiv, Int.reduceBEq, rules2, rulesX, rowsX]
          refine go_dcallI (w_impl_FormatInt _ _ hr10) rfl rfl (Nat.le_of_ble_eq_true rfl) ?_
          obtain ⟨r11, hr11, h⟩ := ob h
          try simp only [hb2, hb4, hb6, hb8, Nat.reduceBEq, Nat.reduceMul, Nat.reduceAdd, Nat.reduceDiv, Int.reduceBEq, rules2, rulesX, rowsX]
          refine go_dcallI (w_impl_FormatInt _ _ hr11) rfl rfl (Nat.le_of_ble_eq_true rfl) ?_
          try simp only [hb2, hb4, hb6, hb8, Nat.reduceBEq, Nat.reduceMul, Nat.reduceAdd, Nat.reduceDiv, Int.reduceBEq, rules2, rulesX, rowsX]
          refine go_bsl (es := List.map rS ([r1, r9, r10, r11] : List (List UInt8))) rfl rfl ?_
          obtain ⟨r12, hr12, h⟩ := ob h
          try simp only [hb2, hb4, hb6, hb8, Nat.reduceBEq, Nat.reduceMul, Nat.reduceAdd, Nat.reduceDiv, Int.reduceBEq, rules2, rulesX, rowsX]
          refine go_dcall (w_impl_Join _ _ _ hr12) (by first | rfl | kernel_rfl) (flat_of rfl) rfl (Nat.le_of_ble_eq_true rfl) ?_
          obtain ⟨hg13, h⟩ := of_guard h
          obtain ⟨r14, hr14, h⟩ := ob h
          try simp only [hb2, hb4, hb6, hb8, hg13, Nat.reduceBEq, Nat.reduceMul, Nat.reduceAdd, Nat.reduceDiv, Int.reduceBEq, rules2, rulesX, rowsX]
          refine go_callI (w_impl_SumOfText _ _ hr14) rfl rfl (Nat.le_of_ble_eq_true rfl) ?_
          obtain ⟨r15, hr15, h⟩ := ob h
          try simp only [hb2, hb4, hb6, hb8, hg13, Nat.reduceBEq, Nat.reduceMul, Nat.reduceAdd, Nat.reduceDiv, Int.reduceBEq, rules2, rulesX, rowsX]
          refine go_callI (w_impl_FormatInt _ _ hr15) rfl rfl (Nat.le_of_ble_eq_true rfl) ?_
          obtain ⟨hg16, h⟩ := of_guard h
          try simp only [hb2, hb4, hb6, hb8, hg13, hg16, Nat.reduceBEq, Nat.reduceMul, Nat.reduceAdd, Nat.reduceDiv, Int.reduceBEq, rules2, rulesX, rowsX]
          cases h
          exact ⟨⟨rfl, trivial⟩, rfl⟩
        · rw [ite_f hb8] at h
          try simp only [hb2, hb4, hb6, hb8, Nat.reduceBEq, Nat.reduceMul, Nat.reduceAdd, Nat.reduceDiv, Int.reduceBEq, rules2, rulesX, rowsX]
          cases h
          exact ⟨⟨rfl, trivial⟩, rfl⟩
      · rw [ite_f hb6] at h
        try simp only [hb2, hb4, hb6, Nat.reduceBEq, Nat.reduceMul, Nat.reduceAdd, Nat.reduceDiv, Int.reduceBEq, rules2, rulesX, rowsX]
        cases h
        exact ⟨⟨rfl, trivial⟩, rfl⟩
    · rw [ite_f hb4] at h
      try simp only [hb2, hb4, Nat.reduceBEq, Nat.reduceMul, Nat.reduceAdd, Nat.reduceDiv, Int.reduceBEq, rules2, rulesX, rowsX]
      cases h
      exact ⟨⟨rfl, trivial⟩, rfl⟩
/- 117: impl_ParseEntry -/
def c_impl_ParseEntry_1 : ACode := .seq (.reg [(none, .keep [0, 2, 5, 7] [2] [1152])]) (.seq (.seq (.reg [(none, .mv 24 (S 7)), (none, .bin 25 .leq (S 24) (K 4))]) (.cond (S 25) .skip (.exit 0))) (.seq (.block 1 (.seq (.drw [(some [8], (none, .mv 28 (S 7))), (some [8], (none, .mv 29 (S 5))), (some [8], (none, .iaddr 30 (S 29) (K 0) 1)), (some [8], (none, .load 31 (S 30) false 1)), (some [8], (none, .mv 32 (S 5))), (some [8], (none, .iaddr 33 (S 32) (K 1) 1)), (some [8], (none, .load 34 (S 33) false 1)), (some [8], (none, .mv 35 (S 5))), (some [8], (none, .iaddr 36 (S 35) (K 2) 1)), (some [8], (none, .load 37 (S 36) false 1)), (some [8], (none, .build 38 [aI 0, aI 0, aI 0, aI 0] [(0, 1, (S 28)), (1, 1, (S 31)), (2, 1, (S 34)), (3, 1, (S 37))])), (some [], (none, .alloc 8 [aI 0, aI 0, aI 0, aI 0])), (none, (none, .store (S 8) (S 38) 4))]) (.seq (.reg [(none, .load 39 (S 8) true 4), (none, .call 40 145 [(S 39)]), (none, .mv 41 (S 0)), (none, .bin 42 .eql (S 40) (S 41))]) (.cond (S 42) (.seq (.reg [(none, .load 43 (S 8) true 4), (none, .store (S 2) (S 43) 4), (none, .mv 3 (KB true))]) .ret) .skip)))) (.reg [(none, .mv 26 (S 7)), (none, .bin 27 .add (S 26) (K 1)), (none, .mv 7 (S 27))])))
def c_impl_ParseEntry_n1 : ACode := (.seq (.reg [(none, .build 44 [aI 0, aI 0, aI 0, aI 0] []), (none, .store (S 2) (S 44) 4), (none, .mv 3 (KB false))]) .ret)
def c_impl_ParseEntry : ACode := (.seq (.reg [(none, .alloc 2 [aI 0, aI 0, aI 0, aI 0]), (none, .mv 3 (KB false))]) (.seq (.reg [(none, .mv 9 (S 0)), (none, .call 10 116 [(S 9), (KS [32])]), (none, .mv 4 (S 10))]) (.seq (.seq (.reg [(none, .mv 11 (S 4)), (none, .len 12 (S 11)), (none, .bin 13 .neq (S 12) (K 5))]) (.cond (S 13) (.seq (.reg [(none, .build 14 [aI 0, aI 0, aI 0, aI 0] []), (none, .store (S 2) (S 14) 4), (none, .mv 3 (KB false))]) .ret) .skip)) (.seq (.reg [(none, .mv 16 (S 4)), (none, .frz 640), (none, .slc 17 1 (S 16) (some (K 1)) (some (K 4)) none), (none, .call 18 144 [(S 17)]), (none, .mv 15 (S 18)), (none, .extr 19 (S 15) 0), (none, .extr 20 (S 15) 1), (none, .mv 5 (S 19)), (none, .mv 6 (S 20))]) (.seq (.seq (.reg [(none, .mv 21 (S 6)), (none, .un 22 .not (S 21))]) (.cond (S 22) (.seq (.reg [(none, .build 23 [aI 0, aI 0, aI 0, aI 0] []), (none, .store (S 2) (S 23) 4), (none, .mv 3 (KB false))]) .ret) .skip)) (.seq (.seq (.reg [(none, .mv 7 (K 1))]) (.block 0 (.loop c_impl_ParseEntry_1))) c_impl_ParseEntry_n1))))))
theorem w_impl_ParseEntry_1 (a0 : List UInt8) (r4 : (List Int) × Bool) : ∀ (n : Nat) (v6 : Int) (r : XEntry × Bool), f_impl_ParseEntry_1 a0 r4 n v6 = some r → ∀ σ : St, σ.kept [0, 2, 5, 7] [2] [1152] = ⟨[(0, vc (aS a0)), (2, vc (.pb 2 0)), (5, vc (.own 1152)), (7, vc (aI v6))], [(2, [aI (0 : Int), aI (0 : Int), aI (0 : Int), aI (0 : Int)])], [(1152, 1, List.map rI r4.1)]⟩ → go Tryz.prog (.code (.loop c_impl_ParseEntry_1) :: [.blk 0, .code c_impl_ParseEntry_n1]) (Ret [.c 2 true 4, 3] [.ag [.v (.int .i64 r.1.Kind), .v (.int .i64 r.1.At), .v (.int .i64 r.1.Call), .v (.int .i64 r.1.Value)], .sc (.v (.bool r.2))]) .normal (some σ) := by
  intro n
  induction n with
  | zero => intro _ r h; cases h
  | succ n ih =>
    intro v6 r h σ hσ
    rw [f_impl_ParseEntry_1] at h
    refine go_round ?_
    rcases Bool.eq_false_or_eq_true (decide (v6 ≤ (4 : Int))) with hb7 | hb7
    · rw [ite_t hb7] at h
      try simp only [hσ, hb7, c_impl_ParseEntry_1, Nat.reduceBEq, Nat.reduceMul, Nat.reduceAdd, Nat.reduceDiv, Int.reduceBEq, rules2, rulesX, rowsX]
      refine go_fr_of rfl ?_
      obtain ⟨x8, hx8, h⟩ := ob h
      have hx8n := ix_get hx8
      obtain ⟨x9, hx9, h⟩ := ob h
      have hx9n := ix_get hx9
      obtain ⟨x10, hx10, h⟩ := ob h
      have hx10n := ix_get hx10
      try simp only [hb7, hx8, hx8n, hx9, hx9n, hx10, hx10n, Nat.reduceBEq, Nat.reduceMul, Nat.reduceAdd, Nat.reduceDiv, Int.reduceBEq, rules2, rulesX, rowsX]
      refine go_al rfl rfl ?_
      try simp only [hb7, hx8, hx8n, hx9, hx9n, hx10, hx10n, Nat.reduceBEq, Nat.reduceMul, Nat.reduceAdd, Nat.reduceDiv, Int.reduceBEq, rules2, rulesX, rowsX]
      refine go_fr_of rfl ?_
      obtain ⟨r11, hr11, h⟩ := ob h
      try simp only [hb7, hx8, hx8n, hx9, hx9n, hx10, hx10n, Nat.reduceBEq, Nat.reduceMul, Nat.reduceAdd, Nat.reduceDiv, Int.reduceBEq, rules2, rulesX, rowsX]
      refine go_callI (w_impl_FormatEntry _ _ hr11) rfl rfl (Nat.le_of_ble_eq_true rfl) ?_
      rcases Bool.eq_false_or_eq_true (r11 == a0) with hb12 | hb12
      · rw [ite_t hb12] at h
        try simp only [hb7, hx8, hx8n, hx9, hx9n, hx10, hx10n, hb12, Nat.reduceBEq, Nat.reduceMul, Nat.reduceAdd, Nat.reduceDiv, Int.reduceBEq, rules2, rulesX, rowsX]
        cases h
        try simp only [rulesR, Nat.reduceBEq, Nat.reduceMul, Nat.reduceAdd, Nat.reduceDiv, Int.reduceBEq, rules2, rulesX, rowsX]
        exact ⟨⟨⟨rfl, rfl, rfl, rfl, trivial⟩, rfl, trivial⟩, rfl⟩
      · rw [ite_f hb12] at h
        try simp only [hb7, hx8, hx8n, hx9, hx9n, hx10, hx10n, hb12, Nat.reduceBEq, Nat.reduceMul, Nat.reduceAdd, Nat.reduceDiv, Int.reduceBEq, rules2, rulesX, rowsX]
        refine ih _ _ h _ ?_
        try simp only [hb7, hx8, hx8n, hx9, hx9n, hx10, hx10n, hb12, Nat.reduceBEq, Nat.reduceMul, Nat.reduceAdd, Nat.reduceDiv, Int.reduceBEq, rules2, rulesX, rowsX, List.map_nil]
    · rw [ite_f hb7] at h
      try simp only [hσ, hb7, c_impl_ParseEntry_1, c_impl_ParseEntry_n1, Nat.reduceBEq, Nat.reduceMul, Nat.reduceAdd, Nat.reduceDiv, Int.reduceBEq, rules2, rulesX, rowsX]
      cases h
      try simp only [rulesR, Nat.reduceBEq, Nat.reduceMul, Nat.reduceAdd, Nat.reduceDiv, Int.reduceBEq, rules2, rulesX, rowsX]
      exact ⟨⟨⟨rfl, rfl, rfl, rfl, trivial⟩, rfl, trivial⟩, rfl⟩
theorem e_impl_ParseEntry : entry Tryz.prog 117 = some (c_impl_ParseEntry.strip, [.c 2 true 4, 3], 45) := by kernel_rfl
theorem w_impl_ParseEntry (a0 : List UInt8) (r : XEntry × Bool) (h : f_impl_ParseEntry a0 = some r) : FC Tryz.prog 117 [.sc (.str a0)] [.ag [.v (.int .i64 r.1.Kind), .v (.int .i64 r.1.At), .v (.int .i64 r.1.Call), .v (.int .i64 r.1.Value)], .sc (.v (.bool r.2))] := by
  unfold f_impl_ParseEntry at h
  refine FC_go (σ := ⟨[(0, vc (aS a0))], [], []⟩) mixed e_impl_ParseEntry rfl rfl ?_
  simp only [c_impl_ParseEntry]
  try simp only [Nat.reduceBEq, Nat.reduceMul, Nat.reduceAdd, Nat.reduceDiv, Int.reduceBEq, rules2, rulesX, rowsX]
  refine go_al rfl rfl ?_
  obtain ⟨r1, hr1, h⟩ := ob h
  try simp only [Nat.reduceBEq, Nat.reduceMul, Nat.reduceAdd, Nat.reduceDiv, Int.reduceBEq, rules2, rulesX, rowsX]
  refine go_callI (w_impl_SplitAny _ _ _ hr1) rfl rfl (Nat.le_of_ble_eq_true rfl) ?_
  rcases Bool.eq_false_or_eq_true ((r1.length : Int) != (5 : Int)) with hb2 | hb2
  · rw [ite_t hb2] at h
    try simp only [hb2, Nat.reduceBEq, Nat.reduceMul, Nat.reduceAdd, Nat.reduceDiv, Int.reduceBEq, rules2, rulesX, rowsX]
    cases h
    try simp only [rulesR, Nat.reduceBEq, Nat.reduceMul, Nat.reduceAdd, Nat.reduceDiv, Int.reduceBEq, rules2, rulesX, rowsX]
    exact ⟨⟨⟨rfl, rfl, rfl, rfl, trivial⟩, rfl, trivial⟩, rfl⟩
  · rw [ite_f hb2] at h
    try simp only [hb2, Nat.reduceBEq, Nat.reduceMul, Nat.reduceAdd, Nat.reduceDiv, Int.reduceBEq, rules2, rulesX, rowsX]
    refine go_frz' rfl ?_
    obtain ⟨p3, hp3, h⟩ := ob h
    obtain ⟨r4, hr4, h⟩ := ob h
    try simp only [hb2, hp3, Nat.reduceBEq, Nat.reduceMul, Nat.reduceAdd, Nat.reduceDiv, Int.reduceBEq, rules2, rulesX, rowsX]
    refine go_callI (w_impl_parseNumbers _ _ hr4) rfl rfl (Nat.le_of_ble_eq_true rfl) ?_
    rcases Bool.eq_false_or_eq_true r4.2 with hb5 | hb5
    · rw [ite_t hb5] at h
      try simp only [hb2, hp3, hb5, Nat.reduceBEq, Nat.reduceMul, Nat.reduceAdd, Nat.reduceDiv, Int.reduceBEq, rules2, rulesX, rowsX]
      refine w_impl_ParseEntry_1 _ _ _ _ _ h _ ?_
      try simp only [hb2, hp3, hb5, Nat.reduceBEq, Nat.reduceMul, Nat.reduceAdd, Nat.reduceDiv, Int.reduceBEq, rules2, rulesX, rowsX, List.map_nil]
    · rw [ite_f hb5] at h
      try simp only [hb2, hp3, hb5, Nat.reduceBEq, Nat.reduceMul, Nat.reduceAdd, Nat.reduceDiv, Int.reduceBEq, rules2, rulesX, rowsX]
      cases h
      try simp only [rulesR, Nat.reduceBEq, Nat.reduceMul, Nat.reduceAdd, Nat.reduceDiv, Int.reduceBEq, rules2, rulesX, rowsX]
      exact ⟨⟨⟨rfl, rfl, rfl, rfl, trivial⟩, rfl, trivial⟩, rfl⟩
/- 73: impl_readEntries -/
def c_impl_readEntries_1 : ACode := .seq (.reg [(none, .keep [4, 10, 11, 12] [] [576])]) (.seq (.reg [(none, .bin 13 .lss (S 12) (S 11))]) (.seq (.cond (S 13) .skip (.exit 0)) (.seq (.block 1 (.seq (.reg [(none, .mv 14 (S 12)), (none, .iaddr 15 (S 10) (S 12) 1), (none, .load 16 (S 15) false 1), (none, .mv 5 (S 14)), (none, .mv 6 (S 16))]) (.seq (.reg [(none, .mv 18 (S 6)), (none, .call 19 117 [(S 18)]), (none, .mv 17 (S 19)), (none, .extr 20 (S 17) 0), (none, .extr 21 (S 17) 1), (none, .alloc 7 [aI 0, aI 0, aI 0, aI 0]), (none, .store (S 7) (S 20) 4), (none, .mv 8 (S 21))]) (.seq (.seq (.reg [(none, .mv 22 (S 8)), (none, .un 23 .not (S 22))]) (.cond (S 23) (.seq (.reg [(none, .mv 24 (S 4)), (none, .mv 25 (S 5)), (none, .build 26 [aI 0] [(0, 1, (S 25))]), (none, .box 27 (S 26)), (none, .frzb 27), (none, .mkif 28 120 (S 27)), (none, .mv 2 (S 24)), (none, .mv 3 (S 28))]) .ret) .skip)) (.reg [(none, .mv 29 (S 4)), (none, .load 30 (S 7) true 4), (none, .bslice 31 4 [.int .i64 0, .int .i64 0, .int .i64 0, .int .i64 0] 1 [(0, (S 30))]), (none, .app 32 4 32 (S 29) (S 31)), (none, .mv 4 (S 32))]))))) (.reg [(none, .bin 33 .add (S 12) (K 1)), (none, .mv 12 (S 33))]))))
def c_impl_readEntries_n1 : ACode := (.seq (.reg [(none, .mv 34 (S 4)), (none, .mv 2 (S 34)), (none, .mv 3 (.c (.v (.sc (.dat .noi)))))]) .ret)
def c_impl_readEntries : ACode := (.seq (.reg [(none, .mv 2 KN), (none, .mv 3 (.c (.v (.sc (.dat .noi)))))]) (.seq (.reg [(none, .bslice 9 4 [.int .i64 0, .int .i64 0, .int .i64 0, .int .i64 0] 0 []), (none, .mv 4 (S 9))]) (.seq (.seq (.reg [(none, .mv 10 (S 0)), (none, .len 11 (S 10)), (none, .mv 12 (K 0))]) (.block 0 (.loop c_impl_readEntries_1))) c_impl_readEntries_n1)))
theorem w_impl_readEntries_1 (a0 : List (List UInt8)) : ∀ (n : Nat) (v1 : Int) (v2 : List XEntry) (r : (List XEntry) × (Option Int)), f_impl_readEntries_1 a0 n v1 v2 = some r → ∀ σ : St, σ.kept [4, 10, 11, 12] [] [576] = ⟨[(4, vc (.own 576)), (10, vc (aL (List.map rS a0))), (11, vc (aI (a0.length : Int))), (12, vc (aI v1))], [], [(576, 4, List.map XEntry.row v2)]⟩ → go Tryz.prog (.code (.loop c_impl_readEntries_1) :: [.blk 0, .code c_impl_readEntries_n1]) (Ret [2, 3] [.sc (.o 4 (List.map XEntry.row r.1)), .sc (.v (errD r.2))]) .normal (some σ) := by
  intro n
  induction n with
  | zero => intro _ _ r h; cases h
  | succ n ih =>
    intro v1 v2 r h σ hσ
    rw [f_impl_readEntries_1] at h
    refine go_round ?_
    rcases Bool.eq_false_or_eq_true (decide (v1 < (a0.length : Int))) with hb3 | hb3
    · rw [ite_t hb3] at h
      obtain ⟨x4, hx4, h⟩ := ob h
      obtain ⟨r5, hr5, h⟩ := ob h
      try simp only [hσ, hb3, hx4, c_impl_readEntries_1, Nat.reduceBEq, Nat.reduceMul, Nat.reduceAdd, Nat.reduceDiv, Int.reduceBEq, rules2, rulesX, rowsX]
      refine go_callI (w_impl_ParseEntry _ _ hr5) rfl rfl (Nat.le_of_ble_eq_true rfl) ?_
      try simp only [hb3, hx4, Nat.reduceBEq, Nat.reduceMul, Nat.reduceAdd, Nat.reduceDiv, Int.reduceBEq, rules2, rulesX, rowsX]
      refine go_al rfl rfl ?_
      rcases Bool.eq_false_or_eq_true r5.2 with hb6 | hb6
      · rw [ite_t hb6] at h
        try simp only [hb3, hx4, hb6, Nat.reduceBEq, Nat.reduceMul, Nat.reduceAdd, Nat.reduceDiv, Int.reduceBEq, rules2, rulesX, rowsX]
        refine go_bsl (es := List.map XEntry.row ([(⟨r5.1.Kind, r5.1.At, r5.1.Call, r5.1.Value⟩ : XEntry)] : List XEntry)) rfl rfl ?_
        obtain ⟨hg7, h⟩ := of_guard h
        try simp only [hb3, hx4, hb6, hg7, Nat.reduceBEq, Nat.reduceMul, Nat.reduceAdd, Nat.reduceDiv, Int.reduceBEq, rules2, rulesX, rowsX]
        refine ih _ _ _ h _ ?_
        try simp only [hb3, hx4, hb6, hg7, Nat.reduceBEq, Nat.reduceMul, Nat.reduceAdd, Nat.reduceDiv, Int.reduceBEq, rules2, rulesX, rowsX, List.map_nil]
      · rw [ite_f hb6] at h
        try simp only [hb3, hx4, hb6, Nat.reduceBEq, Nat.reduceMul, Nat.reduceAdd, Nat.reduceDiv, Int.reduceBEq, rules2, rulesX, rowsX]
        refine go_bx rfl rfl rfl ?_
        try simp only [hb3, hx4, hb6, Nat.reduceBEq, Nat.reduceMul, Nat.reduceAdd, Nat.reduceDiv, Int.reduceBEq, rules2, rulesX, rowsX]
        refine go_frzb' rfl rfl ?_
        try simp only [hb3, hx4, hb6, Nat.reduceBEq, Nat.reduceMul, Nat.reduceAdd, Nat.reduceDiv, Int.reduceBEq, rules2, rulesX, rowsX]
        cases h
        exact ⟨⟨rfl, rfl, trivial⟩, rfl⟩
    · rw [ite_f hb3] at h
      try simp only [hσ, hb3, c_impl_readEntries_1, c_impl_readEntries_n1, Nat.reduceBEq, Nat.reduceMul, Nat.reduceAdd, Nat.reduceDiv, Int.reduceBEq, rules2, rulesX, rowsX]
      cases h
      exact ⟨⟨rfl, rfl, trivial⟩, rfl⟩
theorem e_impl_readEntries : entry Tryz.prog 73 = some (c_impl_readEntries.strip, [2, 3], 35) := by kernel_rfl
theorem w_impl_readEntries (a0 : List (List UInt8)) (r : (List XEntry) × (Option Int)) (h : f_impl_readEntries a0 = some r) : FC Tryz.prog 73 [.sc (.sl (List.map rS a0))] [.sc (.o 4 (List.map XEntry.row r.1)), .sc (.v (errD r.2))] := by
  unfold f_impl_readEntries at h
  refine FC_go (σ := ⟨[(0, vc (aL (List.map rS a0)))], [], []⟩) mixed e_impl_readEntries rfl rfl ?_
  simp only [c_impl_readEntries]
  try simp only [Nat.reduceBEq, Nat.reduceMul, Nat.reduceAdd, Nat.reduceDiv, Int.reduceBEq, rules2, rulesX, rowsX]
  refine go_bsl (es := List.map XEntry.row ([] : List XEntry)) rfl rfl ?_
  try simp only [Nat.reduceBEq, Nat.reduceMul, Nat.reduceAdd, Nat.reduceDiv, Int.reduceBEq, rules2, rulesX, rowsX]
  refine w_impl_readEntries_1 _ _ _ _ _ h _ ?_
  try simp only [Nat.reduceBEq, Nat.reduceMul, Nat.reduceAdd, Nat.reduceDiv, Int.reduceBEq, rules2, rulesX, rowsX, List.map_nil]
/- 29: impl_ReadJournal -/
def c_impl_ReadJournal : ACode := (.seq (.reg [(none, .mv 2 KN), (none, .mv 3 (K 0))]) (.seq (.reg [(none, .mv 8 (S 0)), (none, .call 9 72 [(S 8)]), (none, .mv 4 (S 9))]) (.seq (.reg [(none, .mv 11 (S 4)), (none, .mv 12 (S 4)), (none, .len 13 (S 12)), (none, .mm 14 false (S 13) (K 60)), (none, .slc 15 1 (S 11) none (some (S 14)) none), (none, .call 16 73 [(S 15)]), (none, .mv 10 (S 16)), (none, .extr 17 (S 10) 0), (none, .extr 18 (S 10) 1), (none, .mv 5 (S 17)), (none, .mv 6 (S 18))]) (.seq (.reg [(none, .alloc 7 [.undef])]) (.seq (.seq (.reg [(none, .mv 19 (S 6)), (none, .mkif 20 122 (S 7)), (none, .call 21 74 [(S 19), (S 20)])]) (.cond (S 21) (.seq (.drw [(some [], (none, .mv 22 (S 5))), (some [], (none, .load 23 (S 7) false 1)), (some [], (none, .nilc 24 (S 23))), (some [], (none, .faddr 25 (S 24) 0)), (some [], (none, .load 26 (S 25) false 1)), (some [], (none, .mv 2 (S 22))), (some [], (none, .mv 3 (S 26)))]) .ret) .skip)) (.seq (.reg [(none, .mv 27 (S 5)), (none, .mv 28 (S 5)), (none, .len 29 (S 28)), (none, .mv 2 (S 27)), (none, .mv 3 (S 29))]) .ret))))))
theorem e_impl_ReadJournal : entry Tryz.prog 29 = some (c_impl_ReadJournal.strip, [2, 3], 30) := by kernel_rfl
theorem w_impl_ReadJournal (a0 : List UInt8) (r : (List XEntry) × Int) (h : f_impl_ReadJournal a0 = some r) : FC Tryz.prog 29 [.sc (.str a0)] [.sc (.o 4 (List.map XEntry.row r.1)), .sc (.v (.int .i64 r.2))] := by
  unfold f_impl_ReadJournal at h
  refine FC_go (σ := ⟨[(0, vc (aS a0))], [], []⟩) mixed e_impl_ReadJournal rfl rfl ?_
  simp only [c_impl_ReadJournal]
  obtain ⟨r1, hr1, h⟩ := ob h
  try simp only [Nat.reduceBEq, Nat.reduceMul, Nat.reduceAdd, Nat.reduceDiv, Int.reduceBEq, rules2, rulesX, rowsX]
  refine go_callI (w_impl_SplitLines _ _ hr1) rfl rfl (Nat.le_of_ble_eq_true rfl) ?_
  obtain ⟨p2, hp2, h⟩ := ob h
  obtain ⟨r3, hr3, h⟩ := ob h
  try simp only [hp2, Nat.reduceBEq, Nat.reduceMul, Nat.reduceAdd, Nat.reduceDiv, Int.reduceBEq, rules2, rulesX, rowsX]
  refine go_callI (w_impl_readEntries _ _ hr3) rfl rfl (Nat.le_of_ble_eq_true rfl) ?_
  try simp only [hp2, Nat.reduceBEq, Nat.reduceMul, Nat.reduceAdd, Nat.reduceDiv, Int.reduceBEq, rules2, rulesX, rowsX]
  refine go_al rfl rfl ?_
  rcases Bool.eq_false_or_eq_true r3.2.isSome with hb4 | hb4
  · rw [ite_t hb4] at h
    obtain ⟨k5, hk5, h⟩ := ob h
    try simp only [hp2, hb4, hk5, Nat.reduceBEq, Nat.reduceMul, Nat.reduceAdd, Nat.reduceDiv, Int.reduceBEq, rules2, rulesX, rowsX]
    refine go_asH rfl rfl rfl ?_
    try simp only [hp2, hb4, hk5, Nat.reduceBEq, Nat.reduceMul, Nat.reduceAdd, Nat.reduceDiv, Int.reduceBEq, rules2, rulesX, rowsX]
    refine go_fr_of rfl ?_
    try simp only [hp2, hb4, hk5, Nat.reduceBEq, Nat.reduceMul, Nat.reduceAdd, Nat.reduceDiv, Int.reduceBEq, rules2, rulesX, rowsX]
    cases h
    exact ⟨⟨rfl, rfl, trivial⟩, rfl⟩
  · rw [ite_f hb4] at h
    have hn6 := of_noerr (by assumption : r3.2.isSome = false)
    try simp only [hp2, hb4, hn6, Nat.reduceBEq, Nat.reduceMul, Nat.reduceAdd, Nat.reduceDiv, Int.reduceBEq, rules2, rulesX, rowsX]
    refine go_asN rfl ?_
    try simp only [hp2, hb4, hn6, Nat.reduceBEq, Nat.reduceMul, Nat.reduceAdd, Nat.reduceDiv, Int.reduceBEq, rules2, rulesX, rowsX]
    cases h
    exact ⟨⟨rfl, rfl, trivial⟩, rfl⟩
/- 122: impl_clone_int -/
def c_impl_clone_int : ACode := (.seq (.reg [(none, .mv 2 KN)]) (.seq (.reg [(none, .mv 3 (S 0)), (none, .len 4 (S 3)), (none, .mksl 5 1 8 [.int .i64 0] (K 0) (S 4)), (none, .mv 6 (S 0)), (none, .app 7 1 8 (S 5) (S 6)), (none, .mv 2 (S 7))]) .ret))
theorem e_impl_clone_int : entry Tryz.prog 122 = some (c_impl_clone_int.strip, [2], 8) := by kernel_rfl
theorem w_impl_clone_int (a0 : List Int) (r : (List Int)) (h : f_impl_clone_int a0 = some r) : FC Tryz.prog 122 [.sc (.sl (List.map rI a0))] [.sc (.o 1 (List.map rI r))] := by
  unfold f_impl_clone_int at h
  refine FC_go (σ := ⟨[(0, vc (aL (List.map rI a0)))], [], []⟩) mixed e_impl_clone_int rfl rfl ?_
  simp only [c_impl_clone_int]
  obtain ⟨n1, hn1, h⟩ := ob h
  try simp only [Nat.reduceBEq, Nat.reduceMul, Nat.reduceAdd, Nat.reduceDiv, Int.reduceBEq, rules2, rulesX, rowsX]
  refine go_mks (es := List.map rI (List.replicate n1 (0 : Int))) rfl rfl hn1 rfl (rep_map rfl) rfl ?_
  obtain ⟨hg2, h⟩ := of_guard h
  try simp only [hg2, Nat.reduceBEq, Nat.reduceMul, Nat.reduceAdd, Nat.reduceDiv, Int.reduceBEq, rules2, rulesX, rowsX]
  cases h
  exact ⟨⟨rfl, trivial⟩, rfl⟩
/- 123: impl_clone_bool -/
def c_impl_clone_bool : ACode := (.seq (.reg [(none, .mv 2 KN)]) (.seq (.reg [(none, .mv 3 (S 0)), (none, .len 4 (S 3)), (none, .mksl 5 1 1 [.bool false] (K 0) (S 4)), (none, .mv 6 (S 0)), (none, .app 7 1 1 (S 5) (S 6)), (none, .mv 2 (S 7))]) .ret))
theorem e_impl_clone_bool : entry Tryz.prog 123 = some (c_impl_clone_bool.strip, [2], 8) := by kernel_rfl
theorem w_impl_clone_bool (a0 : List Bool) (r : (List Bool)) (h : f_impl_clone_bool a0 = some r) : FC Tryz.prog 123 [.sc (.sl (List.map rB a0))] [.sc (.o 1 (List.map rB r))] := by
  unfold f_impl_clone_bool at h
  refine FC_go (σ := ⟨[(0, vc (aL (List.map rB a0)))], [], []⟩) mixed e_impl_clone_bool rfl rfl ?_
  simp only [c_impl_clone_bool]
  obtain ⟨n1, hn1, h⟩ := ob h
  try simp only [Nat.reduceBEq, Nat.reduceMul, Nat.reduceAdd, Nat.reduceDiv, Int.reduceBEq, rules2, rulesX, rowsX]
  refine go_mks (es := List.map rB (List.replicate n1 false)) rfl rfl hn1 rfl (rep_map rfl) rfl ?_
  obtain ⟨hg2, h⟩ := of_guard h
  try simp only [hg2, Nat.reduceBEq, Nat.reduceMul, Nat.reduceAdd, Nat.reduceDiv, Int.reduceBEq, rules2, rulesX, rowsX]
  cases h
  exact ⟨⟨rfl, trivial⟩, rfl⟩
/- 75: impl_copyDesk -/
def c_impl_copyDesk : ACode := (.seq (.reg [(none, .box 1 (S 0)), (none, .alloc 2 [aI 0, .nil, .nil])]) (.seq (.drw [(some [7, 10], (none, .faddr 3 (S 1) 0)), (some [7, 10], (none, .load 4 (S 3) false 1)), (some [], (none, .faddr 5 (S 1) 1)), (some [], (none, .load 6 (S 5) false 1)), (some [], (none, .call 7 122 [(S 6)])), (some [7], (none, .faddr 8 (S 1) 2)), (some [7], (none, .load 9 (S 8) false 1)), (some [], (none, .call 10 123 [(S 9)])), (some [], (none, .build 11 [aI 0, .nil, .nil] [(0, 1, (S 4)), (1, 1, (S 7)), (2, 1, (S 10))])), (none, (none, .store (S 2) (S 11) 3))]) .ret))
theorem e_impl_copyDesk : entry Tryz.prog 75 = some (c_impl_copyDesk.strip, [.c 2 true 3], 12) := by kernel_rfl
theorem w_impl_copyDesk (a0 : XDesk) (r : XDesk) (h : f_impl_copyDesk a0 = some r) : FC Tryz.prog 75 [.ag (XDesk.row a0)] [.ag [.v (.int .i64 r.Now), .o 1 (List.map rI r.Starts), .o 1 (List.map rB r.Cleared)]] := by
  unfold f_impl_copyDesk at h
  refine FC_go (σ := ⟨[(0, va [aI a0.Now, aL (List.map rI a0.Starts), aL (List.map rB a0.Cleared)])], [], []⟩) mixed e_impl_copyDesk rfl rfl ?_
  simp only [c_impl_copyDesk]
  try simp only [Nat.reduceBEq, Nat.reduceMul, Nat.reduceAdd, Nat.reduceDiv, Int.reduceBEq, rules2, rulesX, rowsX]
  refine go_bx rfl rfl rfl ?_
  try simp only [Nat.reduceBEq, Nat.reduceMul, Nat.reduceAdd, Nat.reduceDiv, Int.reduceBEq, rules2, rulesX, rowsX]
  refine go_al rfl rfl ?_
  try simp only [Nat.reduceBEq, Nat.reduceMul, Nat.reduceAdd, Nat.reduceDiv, Int.reduceBEq, rules2, rulesX, rowsX]
  refine go_fr_of rfl ?_
  obtain ⟨r1, hr1, h⟩ := ob h
  try simp only [Nat.reduceBEq, Nat.reduceMul, Nat.reduceAdd, Nat.reduceDiv, Int.reduceBEq, rules2, rulesX, rowsX]
  refine go_dcallI (w_impl_clone_int _ _ hr1) rfl rfl (Nat.le_of_ble_eq_true rfl) ?_
  obtain ⟨r2, hr2, h⟩ := ob h
  try simp only [Nat.reduceBEq, Nat.reduceMul, Nat.reduceAdd, Nat.reduceDiv, Int.reduceBEq, rules2, rulesX, rowsX]
  refine go_dcallI (w_impl_clone_bool _ _ hr2) rfl rfl (Nat.le_of_ble_eq_true rfl) ?_
  try simp only [Nat.reduceBEq, Nat.reduceMul, Nat.reduceAdd, Nat.reduceDiv, Int.reduceBEq, rules2, rulesX, rowsX]
  refine go_fr_of rfl ?_
  try simp only [Nat.reduceBEq, Nat.reduceMul, Nat.reduceAdd, Nat.reduceDiv, Int.reduceBEq, rules2, rulesX, rowsX]
  cases h
  try simp only [rulesR, Nat.reduceBEq, Nat.reduceMul, Nat.reduceAdd, Nat.reduceDiv, Int.reduceBEq, rules2, rulesX, rowsX]
  exact ⟨⟨⟨rfl, rfl, rfl, trivial⟩, trivial⟩, rfl⟩
/- 76: impl_DeskOk -/
def c_impl_DeskOk_1 : ACode := .seq (.reg [(none, .keep [1, 25, 26, 27] [1] [])]) (.seq (.reg [(none, .bin 28 .lss (S 27) (S 26))]) (.seq (.cond (S 28) .skip (.exit 0)) (.seq (.block 1 (.seq (.reg [(none, .mv 29 (S 27)), (none, .iaddr 30 (S 25) (S 27) 1), (none, .load 31 (S 30) false 1), (none, .mv 3 (S 29)), (none, .mv 4 (S 31))]) (.seq (.reg [(none, .mv 32 (S 4)), (none, .call 33 71 [(S 32), (K (-1)), (K 2880)]), (none, .un 34 .not (S 33)), (none, .mv 35 (S 34)), (some (35, false), .faddr 36 (S 1) 2), (some (35, false), .load 37 (S 36) false 1), (some (35, false), .mv 38 (S 3)), (some (35, false), .iaddr 39 (S 37) (S 38) 1), (some (35, false), .load 40 (S 39) false 1), (some (35, false), .mv 41 (S 40)), (some (41, true), .mv 42 (S 4)), (some (41, true), .bin 43 .lss (S 42) (K 0)), (some (35, false), .pick 44 (S 41) (S 43) (KB false)), (none, .pick 45 (S 35) (KB true) (S 44))]) (.cond (S 45) (.seq (.reg [(none, .mv 2 (KB false))]) .ret) .skip)))) (.reg [(none, .bin 46 .add (S 27) (K 1)), (none, .mv 27 (S 46))]))))
def c_impl_DeskOk_n1 : ACode := (.seq (.reg [(none, .mv 2 (KB true))]) .ret)
def c_impl_DeskOk : ACode := (.seq (.reg [(none, .box 1 (S 0)), (none, .mv 2 (KB false))]) (.seq (.seq (.reg [(none, .faddr 5 (S 1) 0), (none, .load 6 (S 5) false 1), (none, .call 7 124 [(S 6)]), (none, .un 8 .not (S 7)), (none, .mv 9 (S 8)), (some (9, false), .faddr 10 (S 1) 1), (some (9, false), .load 11 (S 10) false 1), (some (9, false), .len 12 (S 11)), (some (9, false), .bin 13 .gtr (S 12) (K 6)), (none, .pick 14 (S 9) (KB true) (S 13)), (none, .mv 15 (S 14)), (some (15, false), .faddr 16 (S 1) 2), (some (15, false), .load 17 (S 16) false 1), (some (15, false), .len 18 (S 17)), (some (15, false), .faddr 19 (S 1) 1), (some (15, false), .load 20 (S 19) false 1), (some (15, false), .len 21 (S 20)), (some (15, false), .bin 22 .neq (S 18) (S 21)), (none, .pick 23 (S 15) (KB true) (S 22))]) (.cond (S 23) (.seq (.reg [(none, .mv 2 (KB false))]) .ret) .skip)) (.seq (.seq (.reg [(none, .faddr 24 (S 1) 1), (none, .load 25 (S 24) false 1), (none, .len 26 (S 25)), (none, .mv 27 (K 0))]) (.block 0 (.loop c_impl_DeskOk_1))) c_impl_DeskOk_n1)))
theorem w_impl_DeskOk_1 (a0 : XDesk) : ∀ (n : Nat) (v5 : Int) (r : Bool), f_impl_DeskOk_1 a0 n v5 = some r → ∀ σ : St, σ.kept [1, 25, 26, 27] [1] [] = ⟨[(1, vc (.pb 1 0)), (25, vc (aL (List.map rI a0.Starts))), (26, vc (aI (a0.Starts.length : Int))), (27, vc (aI v5))], [(1, [aI a0.Now, aL (List.map rI a0.Starts), aL (List.map rB a0.Cleared)])], []⟩ → go Tryz.prog (.code (.loop c_impl_DeskOk_1) :: [.blk 0, .code c_impl_DeskOk_n1]) (Ret [2] [.sc (.v (.bool r))]) .normal (some σ) := by
  intro n
  induction n with
  | zero => intro _ r h; cases h
  | succ n ih =>
    intro v5 r h σ hσ
    rw [f_impl_DeskOk_1] at h
    refine go_round ?_
    rcases Bool.eq_false_or_eq_true (decide (v5 < (a0.Starts.length : Int))) with hb6 | hb6
    · rw [ite_t hb6] at h
      obtain ⟨x7, hx7, h⟩ := ob h
      obtain ⟨r8, hr8, h⟩ := ob h
      try simp only [hσ, hb6, hx7, c_impl_DeskOk_1, Nat.reduceBEq, Nat.reduceMul, Nat.reduceAdd, Nat.reduceDiv, Int.reduceBEq, rules2, rulesX, rowsX]
      refine go_callI (w_impl_within _ _ _ _ hr8) rfl rfl (Nat.le_of_ble_eq_true rfl) ?_
      rcases Bool.eq_false_or_eq_true r8 with hb9 | hb9
      · rw [ite_t hb9] at h
        obtain ⟨x10, hx10, h⟩ := ob h
        rcases Bool.eq_false_or_eq_true x10 with hb11 | hb11
        · rw [ite_t hb11] at h
          rcases Bool.eq_false_or_eq_true (decide (x7 < (0 : Int))) with hb12 | hb12
          · rw [ite_t hb12] at h
            try simp only [hb6, hx7, hb9, hx10, hb11, hb12, Nat.reduceBEq, Nat.reduceMul, Nat.reduceAdd, Nat.reduceDiv, Int.reduceBEq, rules2, rulesX, rowsX]
            cases h
            exact ⟨⟨rfl, trivial⟩, rfl⟩
          · rw [ite_f hb12] at h
            try simp only [hb6, hx7, hb9, hx10, hb11, hb12, Nat.reduceBEq, Nat.reduceMul, Nat.reduceAdd, Nat.reduceDiv, Int.reduceBEq, rules2, rulesX, rowsX]
            refine ih _ _ h _ ?_
            try simp only [hb6, hx7, hb9, hx10, hb11, hb12, Nat.reduceBEq, Nat.reduceMul, Nat.reduceAdd, Nat.reduceDiv, Int.reduceBEq, rules2, rulesX, rowsX, List.map_nil]
        · rw [ite_f hb11] at h
          try simp only [hb6, hx7, hb9, hx10, hb11, Nat.reduceBEq, Nat.reduceMul, Nat.reduceAdd, Nat.reduceDiv, Int.reduceBEq, rules2, rulesX, rowsX]
          refine ih _ _ h _ ?_
          try simp only [hb6, hx7, hb9, hx10, hb11, Nat.reduceBEq, Nat.reduceMul, Nat.reduceAdd, Nat.reduceDiv, Int.reduceBEq, rules2, rulesX, rowsX, List.map_nil]
      · rw [ite_f hb9] at h
        try simp only [hb6, hx7, hb9, Nat.reduceBEq, Nat.reduceMul, Nat.reduceAdd, Nat.reduceDiv, Int.reduceBEq, rules2, rulesX, rowsX]
        cases h
        exact ⟨⟨rfl, trivial⟩, rfl⟩
    · rw [ite_f hb6] at h
      try simp only [hσ, hb6, c_impl_DeskOk_1, c_impl_DeskOk_n1, Nat.reduceBEq, Nat.reduceMul, Nat.reduceAdd, Nat.reduceDiv, Int.reduceBEq, rules2, rulesX, rowsX]
      cases h
      exact ⟨⟨rfl, trivial⟩, rfl⟩
theorem e_impl_DeskOk : entry Tryz.prog 76 = some (c_impl_DeskOk.strip, [2], 47) := by kernel_rfl
theorem w_impl_DeskOk (a0 : XDesk) (r : Bool) (h : f_impl_DeskOk a0 = some r) : FC Tryz.prog 76 [.ag (XDesk.row a0)] [.sc (.v (.bool r))] := by
  unfold f_impl_DeskOk at h
  refine FC_go (σ := ⟨[(0, va [aI a0.Now, aL (List.map rI a0.Starts), aL (List.map rB a0.Cleared)])], [], []⟩) mixed e_impl_DeskOk rfl rfl ?_
  simp only [c_impl_DeskOk]
  try simp only [Nat.reduceBEq, Nat.reduceMul, Nat.reduceAdd, Nat.reduceDiv, Int.reduceBEq, rules2, rulesX, rowsX]
  refine go_bx rfl rfl rfl ?_
  obtain ⟨r1, hr1, h⟩ := ob h
  try simp only [Nat.reduceBEq, Nat.reduceMul, Nat.reduceAdd, Nat.reduceDiv, Int.reduceBEq, rules2, rulesX, rowsX]
  refine go_callI (w_impl_isMinute _ _ hr1) rfl rfl (Nat.le_of_ble_eq_true rfl) ?_
  rcases Bool.eq_false_or_eq_true r1 with hb2 | hb2
  · rw [ite_t hb2] at h
    rcases Bool.eq_false_or_eq_true (decide ((6 : Int) < (a0.Starts.length : Int))) with hb3 | hb3
    · rw [ite_t hb3] at h
      try simp only [hb2, hb3, Nat.reduceBEq, Nat.reduceMul, Nat.reduceAdd, Nat.reduceDiv, Int.reduceBEq, rules2, rulesX, rowsX]
      cases h
      exact ⟨⟨rfl, trivial⟩, rfl⟩
    · rw [ite_f hb3] at h
      rcases Bool.eq_false_or_eq_true ((a0.Cleared.length : Int) != (a0.Starts.length : Int)) with hb4 | hb4
      · rw [ite_t hb4] at h
        try simp only [hb2, hb3, hb4, Nat.reduceBEq, Nat.reduceMul, Nat.reduceAdd, Nat.reduceDiv, Int.reduceBEq, rules2, rulesX, rowsX]
        cases h
        exact ⟨⟨rfl, trivial⟩, rfl⟩
      · rw [ite_f hb4] at h
        try simp only [hb2, hb3, hb4, Nat.reduceBEq, Nat.reduceMul, Nat.reduceAdd, Nat.reduceDiv, Int.reduceBEq, rules2, rulesX, rowsX]
        refine w_impl_DeskOk_1 _ _ _ _ h _ ?_
        try simp only [hb2, hb3, hb4, Nat.reduceBEq, Nat.reduceMul, Nat.reduceAdd, Nat.reduceDiv, Int.reduceBEq, rules2, rulesX, rowsX, List.map_nil]
  · rw [ite_f hb2] at h
    try simp only [hb2, Nat.reduceBEq, Nat.reduceMul, Nat.reduceAdd, Nat.reduceDiv, Int.reduceBEq, rules2, rulesX, rowsX]
    cases h
    exact ⟨⟨rfl, trivial⟩, rfl⟩
/- 97: impl_isIndex -/
def c_impl_isIndex : ACode := (.seq (.reg [(none, .mv 4 (KB false))]) (.seq (.reg [(none, .mv 5 (S 0)), (none, .bin 6 .geq (S 5) (K 0)), (none, .mv 7 (S 6)), (some (7, true), .mv 8 (S 0)), (some (7, true), .mv 9 (S 1)), (some (7, true), .bin 10 .lss (S 8) (S 9)), (none, .pick 11 (S 7) (S 10) (KB false)), (none, .mv 4 (S 11))]) .ret))
theorem e_impl_isIndex : entry Tryz.prog 97 = some (c_impl_isIndex.strip, [4], 12) := by kernel_rfl
theorem w_impl_isIndex (a0 : Int) (a1 : Int) (r : Bool) (h : f_impl_isIndex a0 a1 = some r) : FC Tryz.prog 97 [.sc (.int .i64 a0), .sc (.int .i64 a1)] [.sc (.v (.bool r))] := by
  unfold f_impl_isIndex at h
  refine FC_go (σ := ⟨[(0, vc (aI a0)), (1, vc (aI a1))], [], []⟩) mixed e_impl_isIndex rfl rfl ?_
  simp only [c_impl_isIndex]
  rcases Bool.eq_false_or_eq_true (decide ((0 : Int) ≤ a0)) with hb1 | hb1
  · rw [ite_t hb1] at h
    try simp only [hb1, Nat.reduceBEq, Nat.reduceMul, Nat.reduceAdd, Nat.reduceDiv, Int.reduceBEq, rules2, rulesX, rowsX]
    cases h
    exact ⟨⟨rfl, trivial⟩, rfl⟩
  · rw [ite_f hb1] at h
    try simp only [hb1, Nat.reduceBEq, Nat.reduceMul, Nat.reduceAdd, Nat.reduceDiv, Int.reduceBEq, rules2, rulesX, rowsX]
    cases h
    exact ⟨⟨rfl, trivial⟩, rfl⟩
/- 77: impl_applicable -/
def c_impl_applicable : ACode := (.seq (.reg [(none, .box 2 (S 0)), (none, .box 3 (S 1)), (none, .mv 4 (KB false))]) (.seq (.seq (.reg [(none, .faddr 6 (S 3) 1), (none, .load 7 (S 6) false 1), (none, .faddr 8 (S 2) 0), (none, .load 9 (S 8) false 1), (none, .call 10 71 [(S 7), (S 9), (K 2880)]), (none, .un 11 .not (S 10))]) (.cond (S 11) (.seq (.reg [(none, .mv 4 (KB false))]) .ret) .skip)) (.seq (.seq (.reg [(none, .faddr 12 (S 3) 0), (none, .load 13 (S 12) false 1), (none, .bin 14 .eql (S 13) (K 4))]) (.cond (S 14) (.seq (.reg [(none, .faddr 15 (S 3) 2), (none, .load 16 (S 15) false 1), (none, .bin 17 .eql (S 16) (K 0)), (none, .mv 18 (S 17)), (some (18, true), .faddr 19 (S 3) 3), (some (18, true), .load 20 (S 19) false 1), (some (18, true), .bin 21 .eql (S 20) (K 0)), (none, .pick 22 (S 18) (S 21) (KB false)), (none, .mv 4 (S 22))]) .ret) .skip)) (.seq (.seq (.reg [(none, .faddr 23 (S 3) 2), (none, .load 24 (S 23) false 1), (none, .faddr 25 (S 2) 1), (none, .load 26 (S 25) false 1), (none, .len 27 (S 26)), (none, .call 28 97 [(S 24), (S 27)]), (none, .un 29 .not (S 28)), (none, .mv 30 (S 29)), (some (30, false), .faddr 31 (S 2) 2), (some (30, false), .load 32 (S 31) false 1), (some (30, false), .faddr 33 (S 3) 2), (some (30, false), .load 34 (S 33) false 1), (some (30, false), .iaddr 35 (S 32) (S 34) 1), (some (30, false), .load 36 (S 35) false 1), (none, .pick 37 (S 30) (KB true) (S 36))]) (.cond (S 37) (.seq (.reg [(none, .mv 4 (KB false))]) .ret) .skip)) (.seq (.reg [(none, .faddr 38 (S 2) 1), (none, .load 39 (S 38) false 1), (none, .faddr 40 (S 3) 2), (none, .load 41 (S 40) false 1), (none, .iaddr 42 (S 39) (S 41) 1), (none, .load 43 (S 42) false 1), (none, .mv 5 (S 43))]) (.seq (.seq (.reg [(none, .faddr 44 (S 3) 0), (none, .load 45 (S 44) false 1)]) (.block 0 (.seq (.reg [(none, .bin 47 .eql (S 45) (K 1)), (none, .mv 46 (S 47))]) (.cond (S 46) (.seq (.reg [(none, .faddr 48 (S 3) 3), (none, .load 49 (S 48) false 1), (none, .faddr 50 (S 3) 1), (none, .load 51 (S 50) false 1), (none, .call 52 71 [(S 49), (S 51), (K 2880)]), (none, .mv 4 (S 52))]) .ret) (.seq (.reg [(none, .bin 54 .eql (S 45) (K 2)), (none, .mv 53 (S 54))]) (.cond (S 53) (.seq (.reg [(none, .faddr 55 (S 3) 3), (none, .load 56 (S 55) false 1), (none, .bin 57 .eql (S 56) (K 0)), (none, .mv 58 (S 57)), (some (58, true), .mv 59 (S 5)), (some (58, true), .faddr 60 (S 3) 1), (some (58, true), .load 61 (S 60) false 1), (some (58, true), .bin 62 .geq (S 59) (S 61)), (none, .pick 63 (S 58) (S 62) (KB false)), (none, .mv 4 (S 63))]) .ret) (.seq (.reg [(none, .bin 65 .eql (S 45) (K 3)), (none, .mv 64 (S 65))]) (.cond (S 64) (.seq (.reg [(none, .faddr 66 (S 3) 3), (none, .load 67 (S 66) false 1), (none, .bin 68 .eql (S 67) (K 0)), (none, .mv 69 (S 68)), (some (69, true), .mv 70 (S 5)), (some (69, true), .bin 71 .geq (S 70) (K 0)), (none, .pick 72 (S 69) (S 71) (KB false)), (none, .mv 4 (S 72))]) .ret) .skip)))))))) (.seq (.reg [(none, .mv 4 (KB false))]) .ret)))))))
theorem e_impl_applicable : entry Tryz.prog 77 = some (c_impl_applicable.strip, [4], 73) := by kernel_rfl
theorem w_impl_applicable (a0 : XDesk) (a1 : XEntry) (r : Bool) (h : f_impl_applicable a0 a1 = some r) : FC Tryz.prog 77 [.ag (XDesk.row a0), .ag (XEntry.row a1)] [.sc (.v (.bool r))] := by
  unfold f_impl_applicable at h
  refine FC_go (σ := ⟨[(0, va [aI a0.Now, aL (List.map rI a0.Starts), aL (List.map rB a0.Cleared)]), (1, va [aI a1.Kind, aI a1.At, aI a1.Call, aI a1.Value])], [], []⟩) mixed e_impl_applicable rfl rfl ?_
  simp only [c_impl_applicable]
  try simp only [Nat.reduceBEq, Nat.reduceMul, Nat.reduceAdd, Nat.reduceDiv, Int.reduceBEq, rules2, rulesX, rowsX]
  refine go_bx rfl rfl rfl ?_
  try simp only [Nat.reduceBEq, Nat.reduceMul, Nat.reduceAdd, Nat.reduceDiv, Int.reduceBEq, rules2, rulesX, rowsX]
  refine go_bx rfl rfl rfl ?_
  obtain ⟨r1, hr1, h⟩ := ob h
  try simp only [Nat.reduceBEq, Nat.reduceMul, Nat.reduceAdd, Nat.reduceDiv, Int.reduceBEq, rules2, rulesX, rowsX]
  refine go_callI (w_impl_within _ _ _ _ hr1) rfl rfl (Nat.le_of_ble_eq_true rfl) ?_
  rcases Bool.eq_false_or_eq_true r1 with hb2 | hb2
  · rw [ite_t hb2] at h
    rcases Bool.eq_false_or_eq_true (a1.Kind == (4 : Int)) with hb3 | hb3
    · rw [ite_t hb3] at h
      rcases Bool.eq_false_or_eq_true (a1.Call == (0 : Int)) with hb4 | hb4
      · rw [ite_t hb4] at h
        try simp only [hb2, hb3, hb4, Nat.reduceBEq, Nat.reduceMul, Nat.reduceAdd, Nat.reduceDiv, Int.reduceBEq, rules2, rulesX, rowsX]
        cases h
        exact ⟨⟨rfl, trivial⟩, rfl⟩
      · rw [ite_f hb4] at h
        try simp only [hb2, hb3, hb4, Nat.reduceBEq, Nat.reduceMul, Nat.reduceAdd, Nat.reduceDiv, Int.reduceBEq, rules2, rulesX, rowsX]
        cases h
        exact ⟨⟨rfl, trivial⟩, rfl⟩
    · rw [ite_f hb3] at h
      obtain ⟨r5, hr5, h⟩ := ob h
      try simp only [hb2, hb3, Nat.reduceBEq, Nat.reduceMul, Nat.reduceAdd, Nat.reduceDiv, Int.reduceBEq, rules2, rulesX, rowsX]
      refine go_callI (w_impl_isIndex _ _ _ hr5) rfl rfl (Nat.le_of_ble_eq_true rfl) ?_
      rcases Bool.eq_false_or_eq_true r5 with hb6 | hb6
      · rw [ite_t hb6] at h
        obtain ⟨x7, hx7, h⟩ := ob h
        rcases Bool.eq_false_or_eq_true x7 with hb8 | hb8
        · rw [ite_t hb8] at h
          try simp only [hb2, hb3, hb6, hx7, hb8, Nat.reduceBEq, Nat.reduceMul, Nat.reduceAdd, Nat.reduceDiv, Int.reduceBEq, rules2, rulesX, rowsX]
          cases h
          exact ⟨⟨rfl, trivial⟩, rfl⟩
        · rw [ite_f hb8] at h
          obtain ⟨x9, hx9, h⟩ := ob h
          rcases Bool.eq_false_or_eq_true (a1.Kind == (1 : Int)) with hb10 | hb10
          · rw [ite_t hb10] at h
            obtain ⟨r11, hr11, h⟩ := ob h
            try simp only [hb2, hb3, hb6, hx7, hb8, hx9, hb10, Nat.reduceBEq, Nat.reduceMul, Nat.reduceAdd, Nat.reduceDiv, Int.reduceBEq, rules2, rulesX, rowsX]
            refine go_callI (w_impl_within _ _ _ _ hr11) rfl rfl (Nat.le_of_ble_eq_true rfl) ?_
            try simp only [hb2, hb3, hb6, hx7, hb8, hx9, hb10, Nat.reduceBEq, Nat.reduceMul, Nat.reduceAdd, Nat.reduceDiv, Int.reduceBEq, rules2, rulesX, rowsX]
            cases h
            exact ⟨⟨rfl, trivial⟩, rfl⟩
          · rw [ite_f hb10] at h
            rcases Bool.eq_false_or_eq_true (a1.Kind == (2 : Int)) with hb12 | hb12
            · rw [ite_t hb12] at h
              rcases Bool.eq_false_or_eq_true (a1.Value == (0 : Int)) with hb13 | hb13
              · rw [ite_t hb13] at h
                try simp only [hb2, hb3, hb6, hx7, hb8, hx9, hb10, hb12, hb13, Nat.reduceBEq, Nat.reduceMul, Nat.reduceAdd, Nat.reduceDiv, Int.reduceBEq, rules2, rulesX, rowsX]
                cases h
                exact ⟨⟨rfl, trivial⟩, rfl⟩
              · rw [ite_f hb13] at h
                try simp only [hb2, hb3, hb6, hx7, hb8, hx9, hb10, hb12, hb13, Nat.reduceBEq, Nat.reduceMul, Nat.reduceAdd, Nat.reduceDiv, Int.reduceBEq, rules2, rulesX, rowsX]
                cases h
                exact ⟨⟨rfl, trivial⟩, rfl⟩
            · rw [ite_f hb12] at h
              rcases Bool.eq_false_or_eq_true (a1.Kind == (3 : Int)) with hb14 | hb14
              · rw [ite_t hb14] at h
                rcases Bool.eq_false_or_eq_true (a1.Value == (0 : Int)) with hb15 | hb15
                · rw [ite_t hb15] at h
                  try simp only [hb2, hb3, hb6, hx7, hb8, hx9, hb10, hb12, hb14, hb15, Nat.reduceBEq, Nat.reduceMul, Nat.reduceAdd, Nat.reduceDiv, Int.reduceBEq, rules2, rulesX, rowsX]
                  cases h
                  exact ⟨⟨rfl, trivial⟩, rfl⟩
                · rw [ite_f hb15] at h
                  try simp only [hb2, hb3, hb6, hx7, hb8, hx9, hb10, hb12, hb14, hb15, Nat.reduceBEq, Nat.reduceMul, Nat.reduceAdd, Nat.reduceDiv, Int.reduceBEq, rules2, rulesX, rowsX]
                  cases h
                  exact ⟨⟨rfl, trivial⟩, rfl⟩
              · rw [ite_f hb14] at h
                try simp only [hb2, hb3, hb6, hx7, hb8, hx9, hb10, hb12, hb14, Nat.reduceBEq, Nat.reduceMul, Nat.reduceAdd, Nat.reduceDiv, Int.reduceBEq, rules2, rulesX, rowsX]
                cases h
                exact ⟨⟨rfl, trivial⟩, rfl⟩
      · rw [ite_f hb6] at h
        try simp only [hb2, hb3, hb6, Nat.reduceBEq, Nat.reduceMul, Nat.reduceAdd, Nat.reduceDiv, Int.reduceBEq, rules2, rulesX, rowsX]
        cases h
        exact ⟨⟨rfl, trivial⟩, rfl⟩
  · rw [ite_f hb2] at h
    try simp only [hb2, Nat.reduceBEq, Nat.reduceMul, Nat.reduceAdd, Nat.reduceDiv, Int.reduceBEq, rules2, rulesX, rowsX]
    cases h
    exact ⟨⟨rfl, trivial⟩, rfl⟩
/- 30: impl_ApplyEntry -/
def c_impl_ApplyEntry_1 : ACode := .seq (.reg [(none, .keep [3, 4, 6, 17] [3, 4, 6] [513, 514])]) (.cond (S 17) (.seq (.reg [(none, .load 18 (S 6) true 3), (none, .store (S 4) (S 18) 3), (none, .mv 5 (KB false))]) .ret) .skip)
def c_impl_ApplyEntry_2 : ACode := .seq (.reg [(none, .keep [4, 6] [4, 6] [513, 514])]) (.seq (.reg [(none, .load 47 (S 6) true 3), (none, .store (S 4) (S 47) 3), (none, .mv 5 (KB true))]) .ret)
def c_impl_ApplyEntry_n1 : ACode := (.seq (.reg [(none, .faddr 19 (S 3) 1), (none, .load 20 (S 19) false 1), (none, .faddr 21 (S 6) 0), (none, .store (S 21) (S 20) 1)]) (.seq (.seq (.reg [(none, .faddr 22 (S 3) 0), (none, .load 23 (S 22) false 1)]) (.block 0 (.seq (.reg [(none, .bin 25 .eql (S 23) (K 1)), (none, .mv 24 (S 25))]) (.cond (S 24) (.reg [(none, .faddr 26 (S 6) 1), (none, .load 27 (S 26) false 1), (none, .faddr 28 (S 3) 2), (none, .load 29 (S 28) false 1), (none, .faddr 30 (S 3) 3), (none, .load 31 (S 30) false 1), (none, .iaddr 32 (S 27) (S 29) 1), (none, .store (S 32) (S 31) 1)]) (.seq (.reg [(none, .bin 34 .eql (S 23) (K 2)), (none, .mv 33 (S 34))]) (.cond (S 33) (.reg [(none, .faddr 35 (S 6) 2), (none, .load 36 (S 35) false 1), (none, .faddr 37 (S 3) 2), (none, .load 38 (S 37) false 1), (none, .iaddr 39 (S 36) (S 38) 1), (none, .store (S 39) (KB true) 1)]) (.seq (.reg [(none, .bin 41 .eql (S 23) (K 3)), (none, .mv 40 (S 41))]) (.cond (S 40) (.reg [(none, .faddr 42 (S 6) 1), (none, .load 43 (S 42) false 1), (none, .faddr 44 (S 3) 2), (none, .load 45 (S 44) false 1), (none, .iaddr 46 (S 43) (S 45) 1), (none, .store (S 46) (K (-1)) 1)]) .skip)))))))) c_impl_ApplyEntry_2))
def c_impl_ApplyEntry : ACode := (.seq (.reg [(none, .box 2 (S 0)), (none, .box 3 (S 1)), (none, .alloc 4 [aI 0, .nil, .nil]), (none, .mv 5 (KB false))]) (.seq (.reg [(none, .load 7 (S 2) true 3), (none, .call 8 75 [(S 7)]), (none, .alloc 6 [aI 0, .nil, .nil]), (none, .store (S 6) (S 8) 3)]) (.seq (.seq (.reg [(none, .load 9 (S 2) true 3), (none, .call 10 76 [(S 9)]), (none, .un 11 .not (S 10)), (none, .mv 12 (S 11)), (some (12, false), .load 13 (S 2) true 3), (some (12, false), .load 14 (S 3) true 4), (some (12, false), .call 15 77 [(S 13), (S 14)]), (some (12, false), .un 16 .not (S 15)), (none, .pick 17 (S 12) (KB true) (S 16))]) c_impl_ApplyEntry_1) c_impl_ApplyEntry_n1)))
theorem w_impl_ApplyEntry_2 (a1 : XEntry) (v13 : List Int) (v14 : List Bool) (r : XDesk × Bool) (h : f_impl_ApplyEntry_2 a1 v13 v14 = some r) (σ : St) (hσ : σ.kept [4, 6] [4, 6] [513, 514] = ⟨[(4, vc (.pb 4 0)), (6, vc (.pb 6 0))], [(4, [aI (0 : Int), .nil, .nil]), (6, [aI a1.At, .own 513, .own 514])], [(513, 1, List.map rI v13), (514, 1, List.map rB v14)]⟩) : go Tryz.prog (.code c_impl_ApplyEntry_2 :: []) (Ret [.c 4 true 3, 5] [.ag [.v (.int .i64 r.1.Now), .o 1 (List.map rI r.1.Starts), .o 1 (List.map rB r.1.Cleared)], .sc (.v (.bool r.2))]) .normal (some σ) := by
  unfold f_impl_ApplyEntry_2 at h
  try simp only [hσ, c_impl_ApplyEntry_2, Nat.reduceBEq, Nat.reduceMul, Nat.reduceAdd, Nat.reduceDiv, Int.reduceBEq, rules2, rulesX, rowsX]
  cases h
  try simp only [rulesR, Nat.reduceBEq, Nat.reduceMul, Nat.reduceAdd, Nat.reduceDiv, Int.reduceBEq, rules2, rulesX, rowsX]
  exact ⟨⟨⟨rfl, rfl, rfl, trivial⟩, rfl, trivial⟩, rfl⟩
theorem w_impl_ApplyEntry_1 (a1 : XEntry) (r1 : XDesk) (v5 : Bool) (r : XDesk × Bool) (h : f_impl_ApplyEntry_1 a1 r1 v5 = some r) (σ : St) (hσ : σ.kept [3, 4, 6, 17] [3, 4, 6] [513, 514] = ⟨[(3, vc (.pb 3 0)), (4, vc (.pb 4 0)), (6, vc (.pb 6 0)), (17, vc (aB v5))], [(3, [aI a1.Kind, aI a1.At, aI a1.Call, aI a1.Value]), (4, [aI (0 : Int), .nil, .nil]), (6, [aI r1.Now, .own 513, .own 514])], [(513, 1, List.map rI r1.Starts), (514, 1, List.map rB r1.Cleared)]⟩) : go Tryz.prog (.code c_impl_ApplyEntry_1 :: [.code c_impl_ApplyEntry_n1]) (Ret [.c 4 true 3, 5] [.ag [.v (.int .i64 r.1.Now), .o 1 (List.map rI r.1.Starts), .o 1 (List.map rB r.1.Cleared)], .sc (.v (.bool r.2))]) .normal (some σ) := by
  unfold f_impl_ApplyEntry_1 at h
  rcases Bool.eq_false_or_eq_true v5 with hb6 | hb6
  · rw [ite_t hb6] at h
    try simp only [hσ, hb6, c_impl_ApplyEntry_1, Nat.reduceBEq, Nat.reduceMul, Nat.reduceAdd, Nat.reduceDiv, Int.reduceBEq, rules2, rulesX, rowsX]
    cases h
    try simp only [rulesR, Nat.reduceBEq, Nat.reduceMul, Nat.reduceAdd, Nat.reduceDiv, Int.reduceBEq, rules2, rulesX, rowsX]
    exact ⟨⟨⟨rfl, rfl, rfl, trivial⟩, rfl, trivial⟩, rfl⟩
  · rw [ite_f hb6] at h
    rcases Bool.eq_false_or_eq_true (a1.Kind == (1 : Int)) with hb7 | hb7
    · rw [ite_t hb7] at h
      obtain ⟨x8, hx8, h⟩ := ob h
      have hx8n := ix_get hx8
      try simp only [hσ, hb6, hb7, hx8, c_impl_ApplyEntry_1, c_impl_ApplyEntry_n1, Nat.reduceBEq, Nat.reduceMul, Nat.reduceAdd, Nat.reduceDiv, Int.reduceBEq, rules2, rulesX, rowsX]
      refine go_stp (y := a1.Value) rfl rfl hx8n rfl rfl rfl ?_
      try simp only [hb6, hb7, hx8, Nat.reduceBEq, Nat.reduceMul, Nat.reduceAdd, Nat.reduceDiv, Int.reduceBEq, rules2, rulesX, rowsX]
      refine w_impl_ApplyEntry_2 _ _ _ _ h _ ?_
      try simp only [hb6, hb7, hx8, Nat.reduceBEq, Nat.reduceMul, Nat.reduceAdd, Nat.reduceDiv, Int.reduceBEq, rules2, rulesX, rowsX, List.map_nil]
    · rw [ite_f hb7] at h
      rcases Bool.eq_false_or_eq_true (a1.Kind == (2 : Int)) with hb9 | hb9
      · rw [ite_t hb9] at h
        obtain ⟨x10, hx10, h⟩ := ob h
        have hx10n := ix_get hx10
        try simp only [hσ, hb6, hb7, hb9, hx10, c_impl_ApplyEntry_1, c_impl_ApplyEntry_n1, Nat.reduceBEq, Nat.reduceMul, Nat.reduceAdd, Nat.reduceDiv, Int.reduceBEq, rules2, rulesX, rowsX]
        refine go_stp (y := true) rfl rfl hx10n rfl rfl rfl ?_
        try simp only [hb6, hb7, hb9, hx10, Nat.reduceBEq, Nat.reduceMul, Nat.reduceAdd, Nat.reduceDiv, Int.reduceBEq, rules2, rulesX, rowsX]
        refine w_impl_ApplyEntry_2 _ _ _ _ h _ ?_
        try simp only [hb6, hb7, hb9, hx10, Nat.reduceBEq, Nat.reduceMul, Nat.reduceAdd, Nat.reduceDiv, Int.reduceBEq, rules2, rulesX, rowsX, List.map_nil]
      · rw [ite_f hb9] at h
        rcases Bool.eq_false_or_eq_true (a1.Kind == (3 : Int)) with hb11 | hb11
        · rw [ite_t hb11] at h
          obtain ⟨x12, hx12, h⟩ := ob h
          have hx12n := ix_get hx12
          try simp only [hσ, hb6, hb7, hb9, hb11, hx12, c_impl_ApplyEntry_1, c_impl_ApplyEntry_n1, Nat.reduceBEq, Nat.reduceMul, Nat.reduceAdd, Nat.reduceDiv, Int.reduceBEq, rules2, rulesX, rowsX]
          refine go_stp (y := (-1 : Int)) rfl rfl hx12n rfl rfl rfl ?_
          try simp only [hb6, hb7, hb9, hb11, hx12, Nat.reduceBEq, Nat.reduceMul, Nat.reduceAdd, Nat.reduceDiv, Int.reduceBEq, rules2, rulesX, rowsX]
          refine w_impl_ApplyEntry_2 _ _ _ _ h _ ?_
          try simp only [hb6, hb7, hb9, hb11, hx12, Nat.reduceBEq, Nat.reduceMul, Nat.reduceAdd, Nat.reduceDiv, Int.reduceBEq, rules2, rulesX, rowsX, List.map_nil]
        · rw [ite_f hb11] at h
          try simp only [hσ, hb6, hb7, hb9, hb11, c_impl_ApplyEntry_1, c_impl_ApplyEntry_n1, Nat.reduceBEq, Nat.reduceMul, Nat.reduceAdd, Nat.reduceDiv, Int.reduceBEq, rules2, rulesX, rowsX]
          refine w_impl_ApplyEntry_2 _ _ _ _ h _ ?_
          try simp only [hb6, hb7, hb9, hb11, Nat.reduceBEq, Nat.reduceMul, Nat.reduceAdd, Nat.reduceDiv, Int.reduceBEq, rules2, rulesX, rowsX, List.map_nil]
theorem e_impl_ApplyEntry : entry Tryz.prog 30 = some (c_impl_ApplyEntry.strip, [.c 4 true 3, 5], 48) := by kernel_rfl
theorem w_impl_ApplyEntry (a0 : XDesk) (a1 : XEntry) (r : XDesk × Bool) (h : f_impl_ApplyEntry a0 a1 = some r) : FC Tryz.prog 30 [.ag (XDesk.row a0), .ag (XEntry.row a1)] [.ag [.v (.int .i64 r.1.Now), .o 1 (List.map rI r.1.Starts), .o 1 (List.map rB r.1.Cleared)], .sc (.v (.bool r.2))] := by
  unfold f_impl_ApplyEntry at h
  refine FC_go (σ := ⟨[(0, va [aI a0.Now, aL (List.map rI a0.Starts), aL (List.map rB a0.Cleared)]), (1, va [aI a1.Kind, aI a1.At, aI a1.Call, aI a1.Value])], [], []⟩) mixed e_impl_ApplyEntry rfl rfl ?_
  simp only [c_impl_ApplyEntry]
  try simp only [Nat.reduceBEq, Nat.reduceMul, Nat.reduceAdd, Nat.reduceDiv, Int.reduceBEq, rules2, rulesX, rowsX]
  refine go_bx rfl rfl rfl ?_
  try simp only [Nat.reduceBEq, Nat.reduceMul, Nat.reduceAdd, Nat.reduceDiv, Int.reduceBEq, rules2, rulesX, rowsX]
  refine go_bx rfl rfl rfl ?_
  try simp only [Nat.reduceBEq, Nat.reduceMul, Nat.reduceAdd, Nat.reduceDiv, Int.reduceBEq, rules2, rulesX, rowsX]
  refine go_al rfl rfl ?_
  obtain ⟨r1, hr1, h⟩ := ob h
  try simp only [Nat.reduceBEq, Nat.reduceMul, Nat.reduceAdd, Nat.reduceDiv, Int.reduceBEq, rules2, rulesX, rowsX]
  refine go_callI (w_impl_copyDesk _ _ hr1) rfl rfl (Nat.le_of_ble_eq_true rfl) ?_
  try simp only [Nat.reduceBEq, Nat.reduceMul, Nat.reduceAdd, Nat.reduceDiv, Int.reduceBEq, rules2, rulesX, rowsX]
  refine go_al rfl rfl ?_
  obtain ⟨r2, hr2, h⟩ := ob h
  try simp only [Nat.reduceBEq, Nat.reduceMul, Nat.reduceAdd, Nat.reduceDiv, Int.reduceBEq, rules2, rulesX, rowsX]
  refine go_callI (w_impl_DeskOk _ _ hr2) rfl rfl (Nat.le_of_ble_eq_true rfl) ?_
  rcases Bool.eq_false_or_eq_true r2 with hb3 | hb3
  · rw [ite_t hb3] at h
    obtain ⟨r4, hr4, h⟩ := ob h
    try simp only [hb3, Nat.reduceBEq, Nat.reduceMul, Nat.reduceAdd, Nat.reduceDiv, Int.reduceBEq, rules2, rulesX, rowsX]
    refine go_callI (w_impl_applicable _ _ _ hr4) rfl rfl (Nat.le_of_ble_eq_true rfl) ?_
    try simp only [hb3, Nat.reduceBEq, Nat.reduceMul, Nat.reduceAdd, Nat.reduceDiv, Int.reduceBEq, rules2, rulesX, rowsX]
    refine w_impl_ApplyEntry_1 _ _ _ _ h _ ?_
    try simp only [hb3, Nat.reduceBEq, Nat.reduceMul, Nat.reduceAdd, Nat.reduceDiv, Int.reduceBEq, rules2, rulesX, rowsX, List.map_nil]
  · rw [ite_f hb3] at h
    try simp only [hb3, Nat.reduceBEq, Nat.reduceMul, Nat.reduceAdd, Nat.reduceDiv, Int.reduceBEq, rules2, rulesX, rowsX]
    refine w_impl_ApplyEntry_1 _ _ _ _ h _ ?_
    try simp only [hb3, Nat.reduceBEq, Nat.reduceMul, Nat.reduceAdd, Nat.reduceDiv, Int.reduceBEq, rules2, rulesX, rowsX, List.map_nil]
/- 6: impl_RebuildDesk -/
def c_impl_RebuildDesk_1 : ACode := .seq (.reg [(none, .keep [4, 6, 7, 20, 21, 22] [4, 6] [897, 898, 1088])]) (.seq (.reg [(none, .bin 23 .lss (S 22) (S 21))]) (.seq (.cond (S 23) .skip (.exit 0)) (.seq (.block 1 (.seq (.reg [(none, .mv 24 (S 22)), (none, .iaddr 25 (S 20) (S 22) 4), (none, .load 26 (S 25) true 4), (none, .alloc 10 [aI 0, aI 0, aI 0, aI 0]), (none, .mv 9 (S 24)), (none, .store (S 10) (S 26) 4)]) (.seq (.reg [(none, .load 28 (S 6) true 3), (none, .load 29 (S 10) true 4), (none, .call 30 30 [(S 28), (S 29)]), (none, .mv 27 (S 30)), (none, .extr 31 (S 27) 0), (none, .extr 32 (S 27) 1), (none, .alloc 11 [aI 0, .nil, .nil]), (none, .store (S 11) (S 31) 3), (none, .mv 12 (S 32))]) (.seq (.seq (.reg [(none, .mv 33 (S 12)), (none, .un 34 .not (S 33))]) (.cond (S 34) (.seq (.reg [(none, .load 35 (S 6) true 3), (none, .mv 36 (S 9)), (none, .store (S 4) (S 35) 3), (none, .mv 5 (S 36))]) .ret) .skip)) (.reg [(none, .load 37 (S 11) true 3), (none, .store (S 6) (S 37) 3)]))))) (.reg [(none, .bin 38 .add (S 22) (K 1)), (none, .mv 22 (S 38)), (none, .keep [4, 6, 7, 20, 21, 22] [4, 6] [1921, 1922, 1088]), (none, .ren 1921 897), (none, .ren 1922 898)]))))
def c_impl_RebuildDesk_n1 : ACode := (.seq (.reg [(none, .load 39 (S 6) true 3), (none, .mv 40 (S 7)), (none, .len 41 (S 40)), (none, .store (S 4) (S 39) 3), (none, .mv 5 (S 41))]) .ret)
def c_impl_RebuildDesk : ACode := (.seq (.reg [(none, .alloc 4 [aI 0, .nil, .nil]), (none, .mv 5 (K 0))]) (.seq (.reg [(none, .mv 13 (S 0)), (none, .call 14 28 [(S 13)]), (none, .alloc 6 [aI 0, .nil, .nil]), (none, .store (S 6) (S 14) 3)]) (.seq (.reg [(none, .mv 16 (S 1)), (none, .call 17 29 [(S 16)]), (none, .mv 15 (S 17)), (none, .extr 18 (S 15) 0), (none, .extr 19 (S 15) 1), (none, .mv 7 (S 18)), (none, .mv 8 (S 19))]) (.seq (.seq (.reg [(none, .mv 20 (S 7)), (none, .len 21 (S 20)), (none, .mv 22 (K 0))]) (.block 0 (.loop c_impl_RebuildDesk_1))) c_impl_RebuildDesk_n1))))
theorem w_impl_RebuildDesk_1 (r2 : (List XEntry) × Int) : ∀ (n : Nat) (v3 : Int) (v4 : Int) (v5 : List Int) (v6 : List Bool) (r : XDesk × Int), f_impl_RebuildDesk_1 r2 n v3 v4 v5 v6 = some r → ∀ σ : St, σ.kept [4, 6, 7, 20, 21, 22] [4, 6] [897, 898, 1088] = ⟨[(4, vc (.pb 4 0)), (6, vc (.pb 6 0)), (7, vc (.own 1088)), (20, vc (.own 1088)), (21, vc (aI (r2.1.length : Int))), (22, vc (aI v3))], [(4, [aI (0 : Int), .nil, .nil]), (6, [aI v4, .own 897, .own 898])], [(897, 1, List.map rI v5), (898, 1, List.map rB v6), (1088, 4, List.map XEntry.row r2.1)]⟩ → go Tryz.prog (.code (.loop c_impl_RebuildDesk_1) :: [.blk 0, .code c_impl_RebuildDesk_n1]) (Ret [.c 4 true 3, 5] [.ag [.v (.int .i64 r.1.Now), .o 1 (List.map rI r.1.Starts), .o 1 (List.map rB r.1.Cleared)], .sc (.v (.int .i64 r.2))]) .normal (some σ) := by
  intro n
  induction n with
  | zero => intro _ _ _ _ r h; cases h
  | succ n ih =>
    intro v3 v4 v5 v6 r h σ hσ
    rw [f_impl_RebuildDesk_1] at h
    refine go_round ?_
    rcases Bool.eq_false_or_eq_true (decide (v3 < (r2.1.length : Int))) with hb7 | hb7
    · rw [ite_t hb7] at h
      obtain ⟨x8, hx8, h⟩ := ob h
      have hx8n := ix_get hx8
      try simp only [hσ, hb7, hx8, hx8n, c_impl_RebuildDesk_1, Nat.reduceBEq, Nat.reduceMul, Nat.reduceAdd, Nat.reduceDiv, Int.reduceBEq, rules2, rulesX, rowsX]
      refine go_al rfl rfl ?_
      obtain ⟨r9, hr9, h⟩ := ob h
      try simp only [hb7, hx8, hx8n, Nat.reduceBEq, Nat.reduceMul, Nat.reduceAdd, Nat.reduceDiv, Int.reduceBEq, rules2, rulesX, rowsX]
      refine go_call (w_impl_ApplyEntry _ _ _ hr9) rfl (flat_l rfl ⟨rfl, flat_o, flat_o, rfl, trivial⟩) rfl (Nat.le_of_ble_eq_true rfl) ?_
      try simp only [hb7, hx8, hx8n, Nat.reduceBEq, Nat.reduceMul, Nat.reduceAdd, Nat.reduceDiv, Int.reduceBEq, rules2, rulesX, rowsX]
      refine go_al rfl rfl ?_
      rcases Bool.eq_false_or_eq_true r9.2 with hb10 | hb10
      · rw [ite_t hb10] at h
        try simp only [hb7, hx8, hx8n, hb10, Nat.reduceBEq, Nat.reduceMul, Nat.reduceAdd, Nat.reduceDiv, Int.reduceBEq, rules2, rulesX, rowsX]
        refine go_ren' rfl rfl ?_
        try simp only [hb7, hx8, hx8n, hb10, Nat.reduceBEq, Nat.reduceMul, Nat.reduceAdd, Nat.reduceDiv, Int.reduceBEq, rules2, rulesX, rowsX]
        refine go_ren' rfl rfl ?_
        try simp only [hb7, hx8, hx8n, hb10, Nat.reduceBEq, Nat.reduceMul, Nat.reduceAdd, Nat.reduceDiv, Int.reduceBEq, rules2, rulesX, rowsX]
        refine ih _ _ _ _ _ h _ ?_
        try simp only [hb7, hx8, hx8n, hb10, Nat.reduceBEq, Nat.reduceMul, Nat.reduceAdd, Nat.reduceDiv, Int.reduceBEq, rules2, rulesX, rowsX, List.map_nil]
      · rw [ite_f hb10] at h
        try simp only [hb7, hx8, hx8n, hb10, Nat.reduceBEq, Nat.reduceMul, Nat.reduceAdd, Nat.reduceDiv, Int.reduceBEq, rules2, rulesX, rowsX]
        cases h
        try simp only [rulesR, Nat.reduceBEq, Nat.reduceMul, Nat.reduceAdd, Nat.reduceDiv, Int.reduceBEq, rules2, rulesX, rowsX]
        exact ⟨⟨⟨rfl, rfl, rfl, trivial⟩, rfl, trivial⟩, rfl⟩
    · rw [ite_f hb7] at h
      try simp only [hσ, hb7, c_impl_RebuildDesk_1, c_impl_RebuildDesk_n1, Nat.reduceBEq, Nat.reduceMul, Nat.reduceAdd, Nat.reduceDiv, Int.reduceBEq, rules2, rulesX, rowsX]
      cases h
      try simp only [rulesR, Nat.reduceBEq, Nat.reduceMul, Nat.reduceAdd, Nat.reduceDiv, Int.reduceBEq, rules2, rulesX, rowsX]
      exact ⟨⟨⟨rfl, rfl, rfl, trivial⟩, rfl, trivial⟩, rfl⟩
theorem e_impl_RebuildDesk : entry Tryz.prog 6 = some (c_impl_RebuildDesk.strip, [.c 4 true 3, 5], 42) := by kernel_rfl
theorem w_impl_RebuildDesk (a0 : Int) (a1 : List UInt8) (r : XDesk × Int) (h : f_impl_RebuildDesk a0 a1 = some r) : FC Tryz.prog 6 [.sc (.int .i64 a0), .sc (.str a1)] [.ag [.v (.int .i64 r.1.Now), .o 1 (List.map rI r.1.Starts), .o 1 (List.map rB r.1.Cleared)], .sc (.v (.int .i64 r.2))] := by
  unfold f_impl_RebuildDesk at h
  refine FC_go (σ := ⟨[(0, vc (aI a0)), (1, vc (aS a1))], [], []⟩) mixed e_impl_RebuildDesk rfl rfl ?_
  simp only [c_impl_RebuildDesk]
  try simp only [Nat.reduceBEq, Nat.reduceMul, Nat.reduceAdd, Nat.reduceDiv, Int.reduceBEq, rules2, rulesX, rowsX]
  refine go_al rfl rfl ?_
  obtain ⟨r1, hr1, h⟩ := ob h
  try simp only [Nat.reduceBEq, Nat.reduceMul, Nat.reduceAdd, Nat.reduceDiv, Int.reduceBEq, rules2, rulesX, rowsX]
  refine go_callI (w_impl_DeskNew _ _ hr1) rfl rfl (Nat.le_of_ble_eq_true rfl) ?_
  try simp only [Nat.reduceBEq, Nat.reduceMul, Nat.reduceAdd, Nat.reduceDiv, Int.reduceBEq, rules2, rulesX, rowsX]
  refine go_al rfl rfl ?_
  obtain ⟨r2, hr2, h⟩ := ob h
  try simp only [Nat.reduceBEq, Nat.reduceMul, Nat.reduceAdd, Nat.reduceDiv, Int.reduceBEq, rules2, rulesX, rowsX]
  refine go_callI (w_impl_ReadJournal _ _ hr2) rfl rfl (Nat.le_of_ble_eq_true rfl) ?_
  try simp only [Nat.reduceBEq, Nat.reduceMul, Nat.reduceAdd, Nat.reduceDiv, Int.reduceBEq, rules2, rulesX, rowsX]
  refine w_impl_RebuildDesk_1 _ _ _ _ _ _ _ h _ ?_
  try simp only [Nat.reduceBEq, Nat.reduceMul, Nat.reduceAdd, Nat.reduceDiv, Int.reduceBEq, rules2, rulesX, rowsX, List.map_nil]
/- 31: laws_eqIntS -/
def c_laws_eqIntS_1 : ACode := .seq (.reg [(none, .keep [0, 1, 5] [] [])]) (.seq (.seq (.reg [(none, .mv 11 (S 5)), (none, .mv 12 (S 0)), (none, .len 13 (S 12)), (none, .bin 14 .lss (S 11) (S 13))]) (.cond (S 14) .skip (.exit 0))) (.seq (.block 1 (.seq (.drw [(some [], (none, .mv 17 (S 0))), (some [], (none, .mv 18 (S 5))), (some [], (none, .iaddr 19 (S 17) (S 18) 1)), (some [], (none, .load 20 (S 19) false 1)), (some [], (none, .mv 21 (S 1))), (some [], (none, .mv 22 (S 5))), (some [], (none, .iaddr 23 (S 21) (S 22) 1)), (some [], (none, .load 24 (S 23) false 1)), (some [], (none, .bin 25 .neq (S 20) (S 24)))]) (.cond (S 25) (.seq (.reg [(none, .mv 4 (KB false))]) .ret) .skip))) (.reg [(none, .mv 15 (S 5)), (none, .bin 16 .add (S 15) (K 1)), (none, .mv 5 (S 16))])))
def c_laws_eqIntS_n1 : ACode := (.seq (.reg [(none, .mv 4 (KB true))]) .ret)
def c_laws_eqIntS : ACode := (.seq (.reg [(none, .mv 4 (KB false))]) (.seq (.seq (.reg [(none, .mv 6 (S 0)), (none, .len 7 (S 6)), (none, .mv 8 (S 1)), (none, .len 9 (S 8)), (none, .bin 10 .neq (S 7) (S 9))]) (.cond (S 10) (.seq (.reg [(none, .mv 4 (KB false))]) .ret) .skip)) (.seq (.seq (.reg [(none, .mv 5 (K 0))]) (.block 0 (.loop c_laws_eqIntS_1))) c_laws_eqIntS_n1)))
theorem w_laws_eqIntS_1 (a0 : List Int) (a1 : List Int) : ∀ (n : Nat) (v2 : Int) (r : Bool), f_laws_eqIntS_1 a0 a1 n v2 = some r → ∀ σ : St, σ.kept [0, 1, 5] [] [] = ⟨[(0, vc (aL (List.map rI a0))), (1, vc (aL (List.map rI a1))), (5, vc (aI v2))], [], []⟩ → go Tryz.prog (.code (.loop c_laws_eqIntS_1) :: [.blk 0, .code c_laws_eqIntS_n1]) (Ret [4] [.sc (.v (.bool r))]) .normal (some σ) := by
  intro n
  induction n with
  | zero => intro _ r h; cases h
  | succ n ih =>
    intro v2 r h σ hσ
    rw [f_laws_eqIntS_1] at h
    refine go_round ?_
    rcases Bool.eq_false_or_eq_true (decide (v2 < (a0.length : Int))) with hb3 | hb3
    · rw [ite_t hb3] at h
      try simp only [hσ, hb3, c_laws_eqIntS_1, Nat.reduceBEq, Nat.reduceMul, Nat.reduceAdd, Nat.reduceDiv, Int.reduceBEq, rules2, rulesX, rowsX]
      refine go_fr_of rfl ?_
      obtain ⟨x4, hx4, h⟩ := ob h
      obtain ⟨x5, hx5, h⟩ := ob h
      rcases Bool.eq_false_or_eq_true (x4 != x5) with hb6 | hb6
      · rw [ite_t hb6] at h
        try simp only [hb3, hx4, hx5, hb6, Nat.reduceBEq, Nat.reduceMul, Nat.reduceAdd, Nat.reduceDiv, Int.reduceBEq, rules2, rulesX, rowsX]
        cases h
        exact ⟨⟨rfl, trivial⟩, rfl⟩
      · rw [ite_f hb6] at h
        try simp only [hb3, hx4, hx5, hb6, Nat.reduceBEq, Nat.reduceMul, Nat.reduceAdd, Nat.reduceDiv, Int.reduceBEq, rules2, rulesX, rowsX]
        refine ih _ _ h _ ?_
        try simp only [hb3, hx4, hx5, hb6, Nat.reduceBEq, Nat.reduceMul, Nat.reduceAdd, Nat.reduceDiv, Int.reduceBEq, rules2, rulesX, rowsX, List.map_nil]
    · rw [ite_f hb3] at h
      try simp only [hσ, hb3, c_laws_eqIntS_1, c_laws_eqIntS_n1, Nat.reduceBEq, Nat.reduceMul, Nat.reduceAdd, Nat.reduceDiv, Int.reduceBEq, rules2, rulesX, rowsX]
      cases h
      exact ⟨⟨rfl, trivial⟩, rfl⟩
theorem e_laws_eqIntS : entry Tryz.prog 31 = some (c_laws_eqIntS.strip, [4], 26) := by kernel_rfl
theorem w_laws_eqIntS (a0 : List Int) (a1 : List Int) (r : Bool) (h : f_laws_eqIntS a0 a1 = some r) : FC Tryz.prog 31 [.sc (.sl (List.map rI a0)), .sc (.sl (List.map rI a1))] [.sc (.v (.bool r))] := by
  unfold f_laws_eqIntS at h
  refine FC_go (σ := ⟨[(0, vc (aL (List.map rI a0))), (1, vc (aL (List.map rI a1)))], [], []⟩) mixed e_laws_eqIntS rfl rfl ?_
  simp only [c_laws_eqIntS]
  rcases Bool.eq_false_or_eq_true ((a0.length : Int) != (a1.length : Int)) with hb1 | hb1
  · rw [ite_t hb1] at h
    try simp only [hb1, Nat.reduceBEq, Nat.reduceMul, Nat.reduceAdd, Nat.reduceDiv, Int.reduceBEq, rules2, rulesX, rowsX]
    cases h
    exact ⟨⟨rfl, trivial⟩, rfl⟩
  · rw [ite_f hb1] at h
    try simp only [hb1, Nat.reduceBEq, Nat.reduceMul, Nat.reduceAdd, Nat.reduceDiv, Int.reduceBEq, rules2, rulesX, rowsX]
    refine w_laws_eqIntS_1 _ _ _ _ _ h _ ?_
    try simp only [hb1, Nat.reduceBEq, Nat.reduceMul, Nat.reduceAdd, Nat.reduceDiv, Int.reduceBEq, rules2, rulesX, rowsX, List.map_nil]
/- 32: laws_eqBoolS -/
def c_laws_eqBoolS_1 : ACode := .seq (.reg [(none, .keep [0, 1, 5] [] [])]) (.seq (.seq (.reg [(none, .mv 11 (S 5)), (none, .mv 12 (S 0)), (none, .len 13 (S 12)), (none, .bin 14 .lss (S 11) (S 13))]) (.cond (S 14) .skip (.exit 0))) (.seq (.block 1 (.seq (.drw [(some [], (none, .mv 17 (S 0))), (some [], (none, .mv 18 (S 5))), (some [], (none, .iaddr 19 (S 17) (S 18) 1)), (some [], (none, .load 20 (S 19) false 1)), (some [], (none, .mv 21 (S 1))), (some [], (none, .mv 22 (S 5))), (some [], (none, .iaddr 23 (S 21) (S 22) 1)), (some [], (none, .load 24 (S 23) false 1)), (some [], (none, .beq 25 true (S 20) (S 24)))]) (.cond (S 25) (.seq (.reg [(none, .mv 4 (KB false))]) .ret) .skip))) (.reg [(none, .mv 15 (S 5)), (none, .bin 16 .add (S 15) (K 1)), (none, .mv 5 (S 16))])))
def c_laws_eqBoolS_n1 : ACode := (.seq (.reg [(none, .mv 4 (KB true))]) .ret)
def c_laws_eqBoolS : ACode := (.seq (.reg [(none, .mv 4 (KB false))]) (.seq (.seq (.reg [(none, .mv 6 (S 0)), (none, .len 7 (S 6)), (none, .mv 8 (S 1)), (none, .len 9 (S 8)), (none, .bin 10 .neq (S 7) (S 9))]) (.cond (S 10) (.seq (.reg [(none, .mv 4 (KB false))]) .ret) .skip)) (.seq (.seq (.reg [(none, .mv 5 (K 0))]) (.block 0 (.loop c_laws_eqBoolS_1))) c_laws_eqBoolS_n1)))
theorem w_laws_eqBoolS_1 (a0 : List Bool) (a1 : List Bool) : ∀ (n : Nat) (v2 : Int) (r : Bool), f_laws_eqBoolS_1 a0 a1 n v2 = some r → ∀ σ : St, σ.kept [0, 1, 5] [] [] = ⟨[(0, vc (aL (List.map rB a0))), (1, vc (aL (List.map rB a1))), (5, vc (aI v2))], [], []⟩ → go Tryz.prog (.code (.loop c_laws_eqBoolS_1) :: [.blk 0, .code c_laws_eqBoolS_n1]) (Ret [4] [.sc (.v (.bool r))]) .normal (some σ) := by
  intro n
  induction n with
  | zero => intro _ r h; cases h
  | succ n ih =>
    intro v2 r h σ hσ
    rw [f_laws_eqBoolS_1] at h
    refine go_round ?_
    rcases Bool.eq_false_or_eq_true (decide (v2 < (a0.length : Int))) with hb3 | hb3
    · rw [ite_t hb3] at h
      try simp only [hσ, hb3, c_laws_eqBoolS_1, Nat.reduceBEq, Nat.reduceMul, Nat.reduceAdd, Nat.reduceDiv, Int.reduceBEq, rules2, rulesX, rowsX]
      refine go_fr_of rfl ?_
      obtain ⟨x4, hx4, h⟩ := ob h
      obtain ⟨x5, hx5, h⟩ := ob h
      rcases Bool.eq_false_or_eq_true (x4 == x5) with hb6 | hb6
      · rw [ite_t hb6] at h
        try simp only [hb3, hx4, hx5, hb6, Nat.reduceBEq, Nat.reduceMul, Nat.reduceAdd, Nat.reduceDiv, Int.reduceBEq, rules2, rulesX, rowsX]
        refine ih _ _ h _ ?_
        try simp only [hb3, hx4, hx5, hb6, Nat.reduceBEq, Nat.reduceMul, Nat.reduceAdd, Nat.reduceDiv, Int.reduceBEq, rules2, rulesX, rowsX, List.map_nil]
      · rw [ite_f hb6] at h
        try simp only [hb3, hx4, hx5, hb6, Nat.reduceBEq, Nat.reduceMul, Nat.reduceAdd, Nat.reduceDiv, Int.reduceBEq, rules2, rulesX, rowsX]
        cases h
        exact ⟨⟨rfl, trivial⟩, rfl⟩
    · rw [ite_f hb3] at h
      try simp only [hσ, hb3, c_laws_eqBoolS_1, c_laws_eqBoolS_n1, Nat.reduceBEq, Nat.reduceMul, Nat.reduceAdd, Nat.reduceDiv, Int.reduceBEq, rules2, rulesX, rowsX]
      cases h
      exact ⟨⟨rfl, trivial⟩, rfl⟩
theorem e_laws_eqBoolS : entry Tryz.prog 32 = some (c_laws_eqBoolS.strip, [4], 26) := by kernel_rfl
theorem w_laws_eqBoolS (a0 : List Bool) (a1 : List Bool) (r : Bool) (h : f_laws_eqBoolS a0 a1 = some r) : FC Tryz.prog 32 [.sc (.sl (List.map rB a0)), .sc (.sl (List.map rB a1))] [.sc (.v (.bool r))] := by
  unfold f_laws_eqBoolS at h
  refine FC_go (σ := ⟨[(0, vc (aL (List.map rB a0))), (1, vc (aL (List.map rB a1)))], [], []⟩) mixed e_laws_eqBoolS rfl rfl ?_
  simp only [c_laws_eqBoolS]
  rcases Bool.eq_false_or_eq_true ((a0.length : Int) != (a1.length : Int)) with hb1 | hb1
  · rw [ite_t hb1] at h
    try simp only [hb1, Nat.reduceBEq, Nat.reduceMul, Nat.reduceAdd, Nat.reduceDiv, Int.reduceBEq, rules2, rulesX, rowsX]
    cases h
    exact ⟨⟨rfl, trivial⟩, rfl⟩
  · rw [ite_f hb1] at h
    try simp only [hb1, Nat.reduceBEq, Nat.reduceMul, Nat.reduceAdd, Nat.reduceDiv, Int.reduceBEq, rules2, rulesX, rowsX]
    refine w_laws_eqBoolS_1 _ _ _ _ _ h _ ?_
    try simp only [hb1, Nat.reduceBEq, Nat.reduceMul, Nat.reduceAdd, Nat.reduceDiv, Int.reduceBEq, rules2, rulesX, rowsX, List.map_nil]
/- 7: laws_eqDesk -/
def c_laws_eqDesk : ACode := (.seq (.reg [(none, .box 2 (S 0)), (none, .box 3 (S 1)), (none, .mv 4 (KB false))]) (.seq (.seq (.reg [(none, .faddr 5 (S 2) 0), (none, .load 6 (S 5) false 1), (none, .faddr 7 (S 3) 0), (none, .load 8 (S 7) false 1), (none, .bin 9 .neq (S 6) (S 8))]) (.cond (S 9) (.seq (.reg [(none, .mv 4 (KB false))]) .ret) .skip)) (.seq (.seq (.reg [(none, .faddr 10 (S 2) 1), (none, .load 11 (S 10) false 1), (none, .faddr 12 (S 3) 1), (none, .load 13 (S 12) false 1), (none, .call 14 31 [(S 11), (S 13)]), (none, .un 15 .not (S 14))]) (.cond (S 15) (.seq (.reg [(none, .mv 4 (KB false))]) .ret) .skip)) (.seq (.seq (.reg [(none, .faddr 16 (S 2) 2), (none, .load 17 (S 16) false 1), (none, .faddr 18 (S 3) 2), (none, .load 19 (S 18) false 1), (none, .call 20 32 [(S 17), (S 19)]), (none, .un 21 .not (S 20))]) (.cond (S 21) (.seq (.reg [(none, .mv 4 (KB false))]) .ret) .skip)) (.seq (.reg [(none, .mv 4 (KB true))]) .ret)))))
theorem e_laws_eqDesk : entry Tryz.prog 7 = some (c_laws_eqDesk.strip, [4], 22) := by kernel_rfl
theorem w_laws_eqDesk (a0 : XDesk) (a1 : XDesk) (r : Bool) (h : f_laws_eqDesk a0 a1 = some r) : FC Tryz.prog 7 [.ag (XDesk.row a0), .ag (XDesk.row a1)] [.sc (.v (.bool r))] := by
  unfold f_laws_eqDesk at h
  refine FC_go (σ := ⟨[(0, va [aI a0.Now, aL (List.map rI a0.Starts), aL (List.map rB a0.Cleared)]), (1, va [aI a1.Now, aL (List.map rI a1.Starts), aL (List.map rB a1.Cleared)])], [], []⟩) mixed e_laws_eqDesk rfl rfl ?_
  simp only [c_laws_eqDesk]
  try simp only [Nat.reduceBEq, Nat.reduceMul, Nat.reduceAdd, Nat.reduceDiv, Int.reduceBEq, rules2, rulesX, rowsX]
  refine go_bx rfl rfl rfl ?_
  try simp only [Nat.reduceBEq, Nat.reduceMul, Nat.reduceAdd, Nat.reduceDiv, Int.reduceBEq, rules2, rulesX, rowsX]
  refine go_bx rfl rfl rfl ?_
  rcases Bool.eq_false_or_eq_true (a0.Now != a1.Now) with hb1 | hb1
  · rw [ite_t hb1] at h
    try simp only [hb1, Nat.reduceBEq, Nat.reduceMul, Nat.reduceAdd, Nat.reduceDiv, Int.reduceBEq, rules2, rulesX, rowsX]
    cases h
    exact ⟨⟨rfl, trivial⟩, rfl⟩
  · rw [ite_f hb1] at h
    obtain ⟨r2, hr2, h⟩ := ob h
    try simp only [hb1, Nat.reduceBEq, Nat.reduceMul, Nat.reduceAdd, Nat.reduceDiv, Int.reduceBEq, rules2, rulesX, rowsX]
    refine go_callI (w_laws_eqIntS _ _ _ hr2) rfl rfl (Nat.le_of_ble_eq_true rfl) ?_
    rcases Bool.eq_false_or_eq_true r2 with hb3 | hb3
    · rw [ite_t hb3] at h
      obtain ⟨r4, hr4, h⟩ := ob h
      try simp only [hb1, hb3, Nat.reduceBEq, Nat.reduceMul, Nat.reduceAdd, Nat.reduceDiv, Int.reduceBEq, rules2, rulesX, rowsX]
      refine go_callI (w_laws_eqBoolS _ _ _ hr4) rfl rfl (Nat.le_of_ble_eq_true rfl) ?_
      rcases Bool.eq_false_or_eq_true r4 with hb5 | hb5
      · rw [ite_t hb5] at h
        try simp only [hb1, hb3, hb5, Nat.reduceBEq, Nat.reduceMul, Nat.reduceAdd, Nat.reduceDiv, Int.reduceBEq, rules2, rulesX, rowsX]
        cases h
        exact ⟨⟨rfl, trivial⟩, rfl⟩
      · rw [ite_f hb5] at h
        try simp only [hb1, hb3, hb5, Nat.reduceBEq, Nat.reduceMul, Nat.reduceAdd, Nat.reduceDiv, Int.reduceBEq, rules2, rulesX, rowsX]
        cases h
        exact ⟨⟨rfl, trivial⟩, rfl⟩
    · rw [ite_f hb3] at h
      try simp only [hb1, hb3, Nat.reduceBEq, Nat.reduceMul, Nat.reduceAdd, Nat.reduceDiv, Int.reduceBEq, rules2, rulesX, rowsX]
      cases h
      exact ⟨⟨rfl, trivial⟩, rfl⟩
/- 33: laws_markIntS -/
def c_laws_markIntS_1 : ACode := .seq (.reg [(none, .keep [0, 1, 5] [] [1099511627776])]) (.seq (.seq (.reg [(none, .mv 6 (S 5)), (none, .mv 7 (S 0)), (none, .len 8 (S 7)), (none, .bin 9 .lss (S 6) (S 8))]) (.cond (S 9) .skip (.exit 0))) (.seq (.block 1 (.seq (.reg [(none, .mv 12 (S 0)), (none, .mv 13 (S 5)), (none, .mv 14 (S 1)), (none, .iaddr 15 (S 12) (S 13) 1), (none, .store (S 15) (S 14) 1)]) (.reg [(none, .mv 16 (S 1)), (none, .bin 17 .add (S 16) (K 1)), (none, .mv 1 (S 17))]))) (.reg [(none, .mv 10 (S 5)), (none, .bin 11 .add (S 10) (K 1)), (none, .mv 5 (S 11))])))
def c_laws_markIntS_n1 : ACode := (.seq (.reg [(none, .mv 18 (S 1)), (none, .mv 4 (S 18))]) .ret)
def c_laws_markIntS : ACode := (.seq (.reg [(none, .mv 4 (K 0))]) (.seq (.seq (.reg [(none, .mv 5 (K 0))]) (.block 0 (.loop c_laws_markIntS_1))) c_laws_markIntS_n1))
theorem w_laws_markIntS_1 : ∀ (n : Nat) (v1 : Int) (v2 : Int) (v3 : List Int) (r : Int × List Int), f_laws_markIntS_1 n v1 v2 v3 = some r → ∀ σ : St, σ.kept [0, 1, 5] [] [1099511627776] = ⟨[(0, vc (.own 1099511627776)), (1, vc (aI v1)), (5, vc (aI v2))], [], [(1099511627776, 1, List.map rI v3)]⟩ → go Tryz.prog (.code (.loop c_laws_markIntS_1) :: [.blk 0, .code c_laws_markIntS_n1]) (RetX [4] (.int .i64 r.1) [(1, List.map rI r.2)] [(0, 0)]) .normal (some σ) := by
  intro n
  induction n with
  | zero => intro _ _ _ r h; cases h
  | succ n ih =>
    intro v1 v2 v3 r h σ hσ
    rw [f_laws_markIntS_1] at h
    refine go_round ?_
    rcases Bool.eq_false_or_eq_true (decide (v2 < (v3.length : Int))) with hb4 | hb4
    · rw [ite_t hb4] at h
      obtain ⟨x5, hx5, h⟩ := ob h
      have hx5n := ix_get hx5
      try simp only [hσ, hb4, hx5, c_laws_markIntS_1, Nat.reduceBEq, Nat.reduceMul, Nat.reduceAdd, Nat.reduceDiv, Int.reduceBEq, rules2, rulesX, rowsX]
      refine go_stp (y := v1) rfl rfl hx5n rfl rfl rfl ?_
      try simp only [hb4, hx5, Nat.reduceBEq, Nat.reduceMul, Nat.reduceAdd, Nat.reduceDiv, Int.reduceBEq, rules2, rulesX, rowsX]
      refine ih _ _ _ _ h _ ?_
      try simp only [hb4, hx5, Nat.reduceBEq, Nat.reduceMul, Nat.reduceAdd, Nat.reduceDiv, Int.reduceBEq, rules2, rulesX, rowsX, List.map_nil]
    · rw [ite_f hb4] at h
      try simp only [hσ, hb4, c_laws_markIntS_1, c_laws_markIntS_n1, Nat.reduceBEq, Nat.reduceMul, Nat.reduceAdd, Nat.reduceDiv, Int.reduceBEq, rules2, rulesX, rowsX]
      cases h
      exact ⟨⟨rfl, trivial⟩, ⟨⟨⟨_, rfl, rfl⟩, rfl⟩, trivial⟩⟩
theorem e_laws_markIntS : entry Tryz.prog 33 = some (c_laws_markIntS.strip, [4], 19) := by kernel_rfl
theorem l_laws_markIntS_1 : ∀ (n : Nat) (v1 : Int) (v2 : Int) (v3 : List Int) (r : Int × List Int), f_laws_markIntS_1 n v1 v2 v3 = some r → r.2.length = v3.length := by
  intro n
  induction n with
  | zero => intro _ _ _ r h; cases h
  | succ n ih =>
    intro v1 v2 v3 r h
    rw [f_laws_markIntS_1] at h
    rcases Bool.eq_false_or_eq_true (decide (v2 < (v3.length : Int))) with hb4 | hb4
    · rw [ite_t hb4] at h
      obtain ⟨x5, hx5, h⟩ := ob h
      have hl := ih _ _ _ _ h
      try simp only [List.length_set] at hl
      omega
    · rw [ite_f hb4] at h
      cases h
      all_goals (try dsimp only); first | done | omega | (simp only [List.length_set] at *; omega) | simp_all
theorem l_laws_markIntS (a0 : List Int) (a1 : Int) (r : Int × List Int) (h : f_laws_markIntS a0 a1 = some r) : r.2.length = a0.length := by
  unfold f_laws_markIntS at h
  have hl := l_laws_markIntS_1 _ _ _ _ _ h
  try simp only [List.length_set] at hl
  omega
theorem w_laws_markIntS (a0 : List Int) (a1 : Int) (r : Int × List Int) (h : f_laws_markIntS a0 a1 = some r) : FCx Tryz.prog 33 [.sc (.r 0), .sc (.d (.int .i64 a1))] [(1, List.map rI a0)] [(1, List.map rI r.2)] (.int .i64 r.1) := by
  unfold f_laws_markIntS at h
  refine FCx_go (ps := [(0, 0)]) (σ := ⟨[(0, vc (.own 1099511627776)), (1, vc (aI a1))], [], [(1099511627776, 1, List.map rI a0)]⟩) mixed e_laws_markIntS rfl rfl rfl (flatR_cons flatR_nil) rfl ?_
  simp only [c_laws_markIntS]
  try simp only [Nat.reduceBEq, Nat.reduceMul, Nat.reduceAdd, Nat.reduceDiv, Int.reduceBEq, rules2, rulesX, rowsX]
  refine w_laws_markIntS_1 _ _ _ _ _ h _ ?_
  try simp only [Nat.reduceBEq, Nat.reduceMul, Nat.reduceAdd, Nat.reduceDiv, Int.reduceBEq, rules2, rulesX, rowsX, List.map_nil]
/- 34: laws_markBoolS -/
def c_laws_markBoolS_1 : ACode := .seq (.reg [(none, .keep [0, 1, 5] [] [1099511627776])]) (.seq (.seq (.reg [(none, .mv 6 (S 5)), (none, .mv 7 (S 0)), (none, .len 8 (S 7)), (none, .bin 9 .lss (S 6) (S 8))]) (.cond (S 9) .skip (.exit 0))) (.seq (.block 1 (.seq (.reg [(none, .mv 12 (S 0)), (none, .mv 13 (S 5)), (none, .mv 14 (S 1)), (none, .bin 15 .rem (S 14) (K 3)), (none, .bin 16 .eql (S 15) (K 0)), (none, .iaddr 17 (S 12) (S 13) 1), (none, .store (S 17) (S 16) 1)]) (.reg [(none, .mv 18 (S 1)), (none, .bin 19 .add (S 18) (K 1)), (none, .mv 1 (S 19))]))) (.reg [(none, .mv 10 (S 5)), (none, .bin 11 .add (S 10) (K 1)), (none, .mv 5 (S 11))])))
def c_laws_markBoolS_n1 : ACode := (.seq (.reg [(none, .mv 20 (S 1)), (none, .mv 4 (S 20))]) .ret)
def c_laws_markBoolS : ACode := (.seq (.reg [(none, .mv 4 (K 0))]) (.seq (.seq (.reg [(none, .mv 5 (K 0))]) (.block 0 (.loop c_laws_markBoolS_1))) c_laws_markBoolS_n1))
theorem w_laws_markBoolS_1 : ∀ (n : Nat) (v1 : Int) (v2 : Int) (v3 : List Bool) (r : Int × List Bool), f_laws_markBoolS_1 n v1 v2 v3 = some r → ∀ σ : St, σ.kept [0, 1, 5] [] [1099511627776] = ⟨[(0, vc (.own 1099511627776)), (1, vc (aI v1)), (5, vc (aI v2))], [], [(1099511627776, 1, List.map rB v3)]⟩ → go Tryz.prog (.code (.loop c_laws_markBoolS_1) :: [.blk 0, .code c_laws_markBoolS_n1]) (RetX [4] (.int .i64 r.1) [(1, List.map rB r.2)] [(0, 0)]) .normal (some σ) := by
  intro n
  induction n with
  | zero => intro _ _ _ r h; cases h
  | succ n ih =>
    intro v1 v2 v3 r h σ hσ
    rw [f_laws_markBoolS_1] at h
    refine go_round ?_
    rcases Bool.eq_false_or_eq_true (decide (v2 < (v3.length : Int))) with hb4 | hb4
    · rw [ite_t hb4] at h
      obtain ⟨x5, hx5, h⟩ := ob h
      have hx5n := ix_get hx5
      try simp only [hσ, hb4, hx5, c_laws_markBoolS_1, Nat.reduceBEq, Nat.reduceMul, Nat.reduceAdd, Nat.reduceDiv, Int.reduceBEq, rules2, rulesX, rowsX]
      refine go_stp (y := ((IntKind.i64.wrap (Int.tmod v1 (3 : Int))) == (0 : Int))) rfl rfl hx5n rfl rfl rfl ?_
      try simp only [hb4, hx5, Nat.reduceBEq, Nat.reduceMul, Nat.reduceAdd, Nat.reduceDiv, Int.reduceBEq, rules2, rulesX, rowsX]
      refine ih _ _ _ _ h _ ?_
      try simp only [hb4, hx5, Nat.reduceBEq, Nat.reduceMul, Nat.reduceAdd, Nat.reduceDiv, Int.reduceBEq, rules2, rulesX, rowsX, List.map_nil]
    · rw [ite_f hb4] at h
      try simp only [hσ, hb4, c_laws_markBoolS_1, c_laws_markBoolS_n1, Nat.reduceBEq, Nat.reduceMul, Nat.reduceAdd, Nat.reduceDiv, Int.reduceBEq, rules2, rulesX, rowsX]
      cases h
      exact ⟨⟨rfl, trivial⟩, ⟨⟨⟨_, rfl, rfl⟩, rfl⟩, trivial⟩⟩
theorem e_laws_markBoolS : entry Tryz.prog 34 = some (c_laws_markBoolS.strip, [4], 21) := by kernel_rfl
theorem l_laws_markBoolS_1 : ∀ (n : Nat) (v1 : Int) (v2 : Int) (v3 : List Bool) (r : Int × List Bool), f_laws_markBoolS_1 n v1 v2 v3 = some r → r.2.length = v3.length := by
  intro n
  induction n with
  | zero => intro _ _ _ r h; cases h
  | succ n ih =>
    intro v1 v2 v3 r h
    rw [f_laws_markBoolS_1] at h
    rcases Bool.eq_false_or_eq_true (decide (v2 < (v3.length : Int))) with hb4 | hb4
    · rw [ite_t hb4] at h
      obtain ⟨x5, hx5, h⟩ := ob h
      have hl := ih _ _ _ _ h
      try simp only [List.length_set] at hl
      omega
    · rw [ite_f hb4] at h
      cases h
      all_goals (try dsimp only); first | done | omega | (simp only [List.length_set] at *; omega) | simp_all
theorem l_laws_markBoolS (a0 : List Bool) (a1 : Int) (r : Int × List Bool) (h : f_laws_markBoolS a0 a1 = some r) : r.2.length = a0.length := by
  unfold f_laws_markBoolS at h
  have hl := l_laws_markBoolS_1 _ _ _ _ _ h
  try simp only [List.length_set] at hl
  omega
theorem w_laws_markBoolS (a0 : List Bool) (a1 : Int) (r : Int × List Bool) (h : f_laws_markBoolS a0 a1 = some r) : FCx Tryz.prog 34 [.sc (.r 0), .sc (.d (.int .i64 a1))] [(1, List.map rB a0)] [(1, List.map rB r.2)] (.int .i64 r.1) := by
  unfold f_laws_markBoolS at h
  refine FCx_go (ps := [(0, 0)]) (σ := ⟨[(0, vc (.own 1099511627776)), (1, vc (aI a1))], [], [(1099511627776, 1, List.map rB a0)]⟩) mixed e_laws_markBoolS rfl rfl rfl (flatR_cons flatR_nil) rfl ?_
  simp only [c_laws_markBoolS]
  try simp only [Nat.reduceBEq, Nat.reduceMul, Nat.reduceAdd, Nat.reduceDiv, Int.reduceBEq, rules2, rulesX, rowsX]
  refine w_laws_markBoolS_1 _ _ _ _ _ h _ ?_
  try simp only [Nat.reduceBEq, Nat.reduceMul, Nat.reduceAdd, Nat.reduceDiv, Int.reduceBEq, rules2, rulesX, rowsX, List.map_nil]
/- 8: laws_markDesk -/
def c_laws_markDesk : ACode := (.seq (.reg [(none, .box 2 (S 0)), (none, .mv 4 (K 0))]) (.seq (.reg [(none, .faddr 5 (S 2) 1), (none, .load 6 (S 5) false 1), (none, .mv 7 (S 1)), (none, .call 8 33 [(S 6), (S 7)]), (none, .mv 1 (S 8))]) (.seq (.reg [(none, .faddr 9 (S 2) 2), (none, .load 10 (S 9) false 1), (none, .mv 11 (S 1)), (none, .call 12 34 [(S 10), (S 11)]), (none, .mv 1 (S 12))]) (.seq (.reg [(none, .mv 13 (S 1)), (none, .mv 4 (S 13))]) .ret))))
theorem e_laws_markDesk : entry Tryz.prog 8 = some (c_laws_markDesk.strip, [4], 14) := by kernel_rfl
theorem l_laws_markDesk (a0 : XDesk) (a1 : Int) (r : Int × List Int × List Bool) (h : f_laws_markDesk a0 a1 = some r) : r.2.1.length = a0.Starts.length ∧ r.2.2.length = a0.Cleared.length := by
  unfold f_laws_markDesk at h
  obtain ⟨r1, hr1, h⟩ := ob h
  have lrr1 := (l_laws_markIntS _ _ _ hr1)
  obtain ⟨r2, hr2, h⟩ := ob h
  have lrr2 := (l_laws_markBoolS _ _ _ hr2)
  cases h
  all_goals (try dsimp only); first | done | omega | (simp only [List.length_set] at *; omega) | simp_all
theorem w_laws_markDesk (a0 : XDesk) (a1 : Int) (r : Int × List Int × List Bool) (h : f_laws_markDesk a0 a1 = some r) : FCx Tryz.prog 8 [.ag [.d (.int .i64 a0.Now), .r 0, .r 1], .sc (.d (.int .i64 a1))] [(1, List.map rI a0.Starts), (1, List.map rB a0.Cleared)] [(1, List.map rI r.2.1), (1, List.map rB r.2.2)] (.int .i64 r.1) := by
  unfold f_laws_markDesk at h
  refine FCx_go (ps := [(0, 1), (0, 2)]) (σ := ⟨[(0, va [aI a0.Now, .own 1099511627776, .own 1099511627777]), (1, vc (aI a1))], [], [(1099511627776, 1, List.map rI a0.Starts), (1099511627777, 1, List.map rB a0.Cleared)]⟩) mixed e_laws_markDesk rfl rfl rfl (flatR_cons (flatR_cons flatR_nil)) rfl ?_
  simp only [c_laws_markDesk]
  try simp only [Nat.reduceBEq, Nat.reduceMul, Nat.reduceAdd, Nat.reduceDiv, Int.reduceBEq, rules2, rulesX, rowsX]
  refine go_bx rfl rfl rfl ?_
  obtain ⟨r1, hr1, h⟩ := ob h
  try simp only [Nat.reduceBEq, Nat.reduceMul, Nat.reduceAdd, Nat.reduceDiv, Int.reduceBEq, rules2, rulesX, rowsX]
  have lrr1 := (l_laws_markIntS _ _ _ hr1)
  refine go_callx (ids := [1099511627776]) (w_laws_markIntS _ _ _ hr1) rfl rfl rfl (flatR_cons flatR_nil) (sameLen_cons (l_laws_markIntS _ _ _ hr1) sameLen_nil) ?_
  obtain ⟨r2, hr2, h⟩ := ob h
  try simp only [Nat.reduceBEq, Nat.reduceMul, Nat.reduceAdd, Nat.reduceDiv, Int.reduceBEq, rules2, rulesX, rowsX]
  have lrr2 := (l_laws_markBoolS _ _ _ hr2)
  refine go_callx (ids := [1099511627777]) (w_laws_markBoolS _ _ _ hr2) rfl rfl rfl (flatR_cons flatR_nil) (sameLen_cons (l_laws_markBoolS _ _ _ hr2) sameLen_nil) ?_
  try simp only [Nat.reduceBEq, Nat.reduceMul, Nat.reduceAdd, Nat.reduceDiv, Int.reduceBEq, rules2, rulesX, rowsX]
  cases h
  exact ⟨⟨rfl, trivial⟩, ⟨⟨⟨_, rfl, rfl⟩, rfl⟩, ⟨⟨⟨_, rfl, rfl⟩, rfl⟩, trivial⟩⟩⟩
/- 35: laws_heldIntS -/
def c_laws_heldIntS_1 : ACode := .seq (.reg [(none, .keep [0, 1, 5] [] [])]) (.seq (.seq (.reg [(none, .mv 6 (S 5)), (none, .mv 7 (S 0)), (none, .len 8 (S 7)), (none, .bin 9 .lss (S 6) (S 8))]) (.cond (S 9) .skip (.exit 0))) (.seq (.block 1 (.seq (.seq (.reg [(none, .mv 12 (S 0)), (none, .mv 13 (S 5)), (none, .iaddr 14 (S 12) (S 13) 1), (none, .load 15 (S 14) false 1), (none, .mv 16 (S 1)), (none, .bin 17 .neq (S 15) (S 16))]) (.cond (S 17) (.seq (.reg [(none, .mv 4 (K (-1)))]) .ret) .skip)) (.reg [(none, .mv 18 (S 1)), (none, .bin 19 .add (S 18) (K 1)), (none, .mv 1 (S 19))]))) (.reg [(none, .mv 10 (S 5)), (none, .bin 11 .add (S 10) (K 1)), (none, .mv 5 (S 11))])))
def c_laws_heldIntS_n1 : ACode := (.seq (.reg [(none, .mv 20 (S 1)), (none, .mv 4 (S 20))]) .ret)
def c_laws_heldIntS : ACode := (.seq (.reg [(none, .mv 4 (K 0))]) (.seq (.seq (.reg [(none, .mv 5 (K 0))]) (.block 0 (.loop c_laws_heldIntS_1))) c_laws_heldIntS_n1))
theorem w_laws_heldIntS_1 (a0 : List Int) : ∀ (n : Nat) (v1 : Int) (v2 : Int) (r : Int), f_laws_heldIntS_1 a0 n v1 v2 = some r → ∀ σ : St, σ.kept [0, 1, 5] [] [] = ⟨[(0, vc (aL (List.map rI a0))), (1, vc (aI v1)), (5, vc (aI v2))], [], []⟩ → go Tryz.prog (.code (.loop c_laws_heldIntS_1) :: [.blk 0, .code c_laws_heldIntS_n1]) (Ret [4] [.sc (.v (.int .i64 r))]) .normal (some σ) := by
  intro n
  induction n with
  | zero => intro _ _ r h; cases h
  | succ n ih =>
    intro v1 v2 r h σ hσ
    rw [f_laws_heldIntS_1] at h
    refine go_round ?_
    rcases Bool.eq_false_or_eq_true (decide (v2 < (a0.length : Int))) with hb3 | hb3
    · rw [ite_t hb3] at h
      obtain ⟨x4, hx4, h⟩ := ob h
      rcases Bool.eq_false_or_eq_true (x4 != v1) with hb5 | hb5
      · rw [ite_t hb5] at h
        try simp only [hσ, hb3, hx4, hb5, c_laws_heldIntS_1, Nat.reduceBEq, Nat.reduceMul, Nat.reduceAdd, Nat.reduceDiv, Int.reduceBEq, rules2, rulesX, rowsX]
        cases h
        exact ⟨⟨rfl, trivial⟩, rfl⟩
      · rw [ite_f hb5] at h
        try simp only [hσ, hb3, hx4, hb5, c_laws_heldIntS_1, Nat.reduceBEq, Nat.reduceMul, Nat.reduceAdd, Nat.reduceDiv, Int.reduceBEq, rules2, rulesX, rowsX]
        refine ih _ _ _ h _ ?_
        try simp only [hb3, hx4, hb5, Nat.reduceBEq, Nat.reduceMul, Nat.reduceAdd, Nat.reduceDiv, Int.reduceBEq, rules2, rulesX, rowsX, List.map_nil]
    · rw [ite_f hb3] at h
      try simp only [hσ, hb3, c_laws_heldIntS_1, c_laws_heldIntS_n1, Nat.reduceBEq, Nat.reduceMul, Nat.reduceAdd, Nat.reduceDiv, Int.reduceBEq, rules2, rulesX, rowsX]
      cases h
      exact ⟨⟨rfl, trivial⟩, rfl⟩
theorem e_laws_heldIntS : entry Tryz.prog 35 = some (c_laws_heldIntS.strip, [4], 21) := by kernel_rfl
theorem w_laws_heldIntS (a0 : List Int) (a1 : Int) (r : Int) (h : f_laws_heldIntS a0 a1 = some r) : FC Tryz.prog 35 [.sc (.sl (List.map rI a0)), .sc (.int .i64 a1)] [.sc (.v (.int .i64 r))] := by
  unfold f_laws_heldIntS at h
  refine FC_go (σ := ⟨[(0, vc (aL (List.map rI a0))), (1, vc (aI a1))], [], []⟩) mixed e_laws_heldIntS rfl rfl ?_
  simp only [c_laws_heldIntS]
  try simp only [Nat.reduceBEq, Nat.reduceMul, Nat.reduceAdd, Nat.reduceDiv, Int.reduceBEq, rules2, rulesX, rowsX]
  refine w_laws_heldIntS_1 _ _ _ _ _ h _ ?_
  try simp only [Nat.reduceBEq, Nat.reduceMul, Nat.reduceAdd, Nat.reduceDiv, Int.reduceBEq, rules2, rulesX, rowsX, List.map_nil]
/- 36: laws_heldBoolS -/
def c_laws_heldBoolS_1 : ACode := .seq (.reg [(none, .keep [0, 1, 5] [] [])]) (.seq (.seq (.reg [(none, .mv 6 (S 5)), (none, .mv 7 (S 0)), (none, .len 8 (S 7)), (none, .bin 9 .lss (S 6) (S 8))]) (.cond (S 9) .skip (.exit 0))) (.seq (.block 1 (.seq (.seq (.reg [(none, .mv 12 (S 0)), (none, .mv 13 (S 5)), (none, .iaddr 14 (S 12) (S 13) 1), (none, .load 15 (S 14) false 1), (none, .mv 16 (S 1)), (none, .bin 17 .rem (S 16) (K 3)), (none, .bin 18 .eql (S 17) (K 0)), (none, .beq 19 true (S 15) (S 18))]) (.cond (S 19) (.seq (.reg [(none, .mv 4 (K (-1)))]) .ret) .skip)) (.reg [(none, .mv 20 (S 1)), (none, .bin 21 .add (S 20) (K 1)), (none, .mv 1 (S 21))]))) (.reg [(none, .mv 10 (S 5)), (none, .bin 11 .add (S 10) (K 1)), (none, .mv 5 (S 11))])))
def c_laws_heldBoolS_n1 : ACode := (.seq (.reg [(none, .mv 22 (S 1)), (none, .mv 4 (S 22))]) .ret)
def c_laws_heldBoolS : ACode := (.seq (.reg [(none, .mv 4 (K 0))]) (.seq (.seq (.reg [(none, .mv 5 (K 0))]) (.block 0 (.loop c_laws_heldBoolS_1))) c_laws_heldBoolS_n1))
theorem w_laws_heldBoolS_1 (a0 : List Bool) : ∀ (n : Nat) (v1 : Int) (v2 : Int) (r : Int), f_laws_heldBoolS_1 a0 n v1 v2 = some r → ∀ σ : St, σ.kept [0, 1, 5] [] [] = ⟨[(0, vc (aL (List.map rB a0))), (1, vc (aI v1)), (5, vc (aI v2))], [], []⟩ → go Tryz.prog (.code (.loop c_laws_heldBoolS_1) :: [.blk 0, .code c_laws_heldBoolS_n1]) (Ret [4] [.sc (.v (.int .i64 r))]) .normal (some σ) := by
  intro n
  induction n with
  | zero => intro _ _ r h; cases h
  | succ n ih =>
    intro v1 v2 r h σ hσ
    rw [f_laws_heldBoolS_1] at h
    refine go_round ?_
    rcases Bool.eq_false_or_eq_true (decide (v2 < (a0.length : Int))) with hb3 | hb3
    · rw [ite_t hb3] at h
      obtain ⟨x4, hx4, h⟩ := ob h
      rcases Bool.eq_false_or_eq_true (x4 == ((IntKind.i64.wrap (Int.tmod v1 (3 : Int))) == (0 : Int))) with hb5 | hb5
      · rw [ite_t hb5] at h
        try simp only [hσ, hb3, hx4, hb5, c_laws_heldBoolS_1, Nat.reduceBEq, Nat.reduceMul, Nat.reduceAdd, Nat.reduceDiv, Int.reduceBEq, rules2, rulesX, rowsX]
        refine ih _ _ _ h _ ?_
        try simp only [hb3, hx4, hb5, Nat.reduceBEq, Nat.reduceMul, Nat.reduceAdd, Nat.reduceDiv, Int.reduceBEq, rules2, rulesX, rowsX, List.map_nil]
      · rw [ite_f hb5] at h
        try simp only [hσ, hb3, hx4, hb5, c_laws_heldBoolS_1, Nat.reduceBEq, Nat.reduceMul, Nat.reduceAdd, Nat.reduceDiv, Int.reduceBEq, rules2, rulesX, rowsX]
        cases h
        exact ⟨⟨rfl, trivial⟩, rfl⟩
    · rw [ite_f hb3] at h
      try simp only [hσ, hb3, c_laws_heldBoolS_1, c_laws_heldBoolS_n1, Nat.reduceBEq, Nat.reduceMul, Nat.reduceAdd, Nat.reduceDiv, Int.reduceBEq, rules2, rulesX, rowsX]
      cases h
      exact ⟨⟨rfl, trivial⟩, rfl⟩
theorem e_laws_heldBoolS : entry Tryz.prog 36 = some (c_laws_heldBoolS.strip, [4], 23) := by kernel_rfl
theorem w_laws_heldBoolS (a0 : List Bool) (a1 : Int) (r : Int) (h : f_laws_heldBoolS a0 a1 = some r) : FC Tryz.prog 36 [.sc (.sl (List.map rB a0)), .sc (.int .i64 a1)] [.sc (.v (.int .i64 r))] := by
  unfold f_laws_heldBoolS at h
  refine FC_go (σ := ⟨[(0, vc (aL (List.map rB a0))), (1, vc (aI a1))], [], []⟩) mixed e_laws_heldBoolS rfl rfl ?_
  simp only [c_laws_heldBoolS]
  try simp only [Nat.reduceBEq, Nat.reduceMul, Nat.reduceAdd, Nat.reduceDiv, Int.reduceBEq, rules2, rulesX, rowsX]
  refine w_laws_heldBoolS_1 _ _ _ _ _ h _ ?_
  try simp only [Nat.reduceBEq, Nat.reduceMul, Nat.reduceAdd, Nat.reduceDiv, Int.reduceBEq, rules2, rulesX, rowsX, List.map_nil]
/- 9: laws_heldDesk -/
def c_laws_heldDesk : ACode := (.seq (.reg [(none, .box 2 (S 0)), (none, .mv 4 (K 0))]) (.seq (.reg [(none, .faddr 5 (S 2) 1), (none, .load 6 (S 5) false 1), (none, .mv 7 (S 1)), (none, .call 8 35 [(S 6), (S 7)]), (none, .mv 1 (S 8))]) (.seq (.seq (.reg [(none, .mv 9 (S 1)), (none, .bin 10 .lss (S 9) (K 0))]) (.cond (S 10) (.seq (.reg [(none, .mv 4 (K (-1)))]) .ret) .skip)) (.seq (.reg [(none, .faddr 11 (S 2) 2), (none, .load 12 (S 11) false 1), (none, .mv 13 (S 1)), (none, .call 14 36 [(S 12), (S 13)]), (none, .mv 1 (S 14))]) (.seq (.seq (.reg [(none, .mv 15 (S 1)), (none, .bin 16 .lss (S 15) (K 0))]) (.cond (S 16) (.seq (.reg [(none, .mv 4 (K (-1)))]) .ret) .skip)) (.seq (.reg [(none, .mv 17 (S 1)), (none, .mv 4 (S 17))]) .ret))))))
theorem e_laws_heldDesk : entry Tryz.prog 9 = some (c_laws_heldDesk.strip, [4], 18) := by kernel_rfl
theorem w_laws_heldDesk (a0 : XDesk) (a1 : Int) (r : Int) (h : f_laws_heldDesk a0 a1 = some r) : FC Tryz.prog 9 [.ag (XDesk.row a0), .sc (.int .i64 a1)] [.sc (.v (.int .i64 r))] := by
  unfold f_laws_heldDesk at h
  refine FC_go (σ := ⟨[(0, va [aI a0.Now, aL (List.map rI a0.Starts), aL (List.map rB a0.Cleared)]), (1, vc (aI a1))], [], []⟩) mixed e_laws_heldDesk rfl rfl ?_
  simp only [c_laws_heldDesk]
  try simp only [Nat.reduceBEq, Nat.reduceMul, Nat.reduceAdd, Nat.reduceDiv, Int.reduceBEq, rules2, rulesX, rowsX]
  refine go_bx rfl rfl rfl ?_
  obtain ⟨r1, hr1, h⟩ := ob h
  try simp only [Nat.reduceBEq, Nat.reduceMul, Nat.reduceAdd, Nat.reduceDiv, Int.reduceBEq, rules2, rulesX, rowsX]
  refine go_callI (w_laws_heldIntS _ _ _ hr1) rfl rfl (Nat.le_of_ble_eq_true rfl) ?_
  rcases Bool.eq_false_or_eq_true (decide (r1 < (0 : Int))) with hb2 | hb2
  · rw [ite_t hb2] at h
    try simp only [hb2, Nat.reduceBEq, Nat.reduceMul, Nat.reduceAdd, Nat.reduceDiv, Int.reduceBEq, rules2, rulesX, rowsX]
    cases h
    exact ⟨⟨rfl, trivial⟩, rfl⟩
  · rw [ite_f hb2] at h
    obtain ⟨r3, hr3, h⟩ := ob h
    try simp only [hb2, Nat.reduceBEq, Nat.reduceMul, Nat.reduceAdd, Nat.reduceDiv, Int.reduceBEq, rules2, rulesX, rowsX]
    refine go_callI (w_laws_heldBoolS _ _ _ hr3) rfl rfl (Nat.le_of_ble_eq_true rfl) ?_
    rcases Bool.eq_false_or_eq_true (decide (r3 < (0 : Int))) with hb4 | hb4
    · rw [ite_t hb4] at h
      try simp only [hb2, hb4, Nat.reduceBEq, Nat.reduceMul, Nat.reduceAdd, Nat.reduceDiv, Int.reduceBEq, rules2, rulesX, rowsX]
      cases h
      exact ⟨⟨rfl, trivial⟩, rfl⟩
    · rw [ite_f hb4] at h
      try simp only [hb2, hb4, Nat.reduceBEq, Nat.reduceMul, Nat.reduceAdd, Nat.reduceDiv, Int.reduceBEq, rules2, rulesX, rowsX]
      cases h
      exact ⟨⟨rfl, trivial⟩, rfl⟩
/- 3: laws_FnExactRebuildDesk -/
def c_laws_FnExactRebuildDesk : ACode := (.seq (.reg [(none, .mv 4 (KB false))]) (.seq (.seq (.reg [(none, .mv 13 (S 1)), (none, .slen 14 (S 13)), (none, .bin 15 .gtr (S 14) (K 1048576))]) (.cond (S 15) (.seq (.reg [(none, .mv 4 (KB true))]) .ret) .skip)) (.seq (.reg [(none, .mv 17 (S 0)), (none, .mv 18 (S 1)), (none, .call 19 5 [(S 17), (S 18)]), (none, .mv 16 (S 19)), (none, .extr 20 (S 16) 0), (none, .extr 21 (S 16) 1), (none, .alloc 5 [aI 0, .nil, .nil]), (none, .store (S 5) (S 20) 3), (none, .mv 6 (S 21))]) (.seq (.reg [(none, .mv 23 (S 0)), (none, .mv 24 (S 1)), (none, .call 25 6 [(S 23), (S 24)]), (none, .mv 22 (S 25)), (none, .extr 26 (S 22) 0), (none, .extr 27 (S 22) 1), (none, .alloc 7 [aI 0, .nil, .nil]), (none, .store (S 7) (S 26) 3), (none, .mv 8 (S 27))]) (.seq (.seq (.reg [(none, .load 28 (S 7) true 3), (none, .load 29 (S 5) true 3), (none, .call 30 7 [(S 28), (S 29)]), (none, .un 31 .not (S 30)), (none, .mv 32 (S 31)), (some (32, false), .mv 33 (S 8)), (some (32, false), .mv 34 (S 6)), (some (32, false), .bin 35 .neq (S 33) (S 34)), (none, .pick 36 (S 32) (KB true) (S 35))]) (.cond (S 36) (.seq (.reg [(none, .mv 4 (KB false))]) .ret) .skip)) (.seq (.reg [(none, .mv 9 (K 1))]) (.seq (.reg [(none, .load 37 (S 7) true 3), (none, .mv 38 (S 9)), (none, .call 39 8 [(S 37), (S 38)]), (none, .mv 9 (S 39))]) (.seq (.reg [(none, .mv 10 (K 1))]) (.seq (.reg [(none, .load 40 (S 7) true 3), (none, .mv 41 (S 10)), (none, .call 42 9 [(S 40), (S 41)]), (none, .mv 10 (S 42))]) (.seq (.seq (.reg [(none, .mv 43 (S 10)), (none, .bin 44 .lss (S 43) (K 0))]) (.cond (S 44) (.seq (.reg [(none, .mv 4 (KB false))]) .ret) .skip)) (.seq (.seq (.reg [(none, .mv 45 (S 10)), (none, .mv 46 (S 9)), (none, .bin 47 .neq (S 45) (S 46))]) (.cond (S 47) (.seq (.reg [(none, .mv 4 (KB false))]) .ret) .skip)) (.seq (.reg [(none, .mv 49 (S 0)), (none, .mv 50 (S 1)), (none, .call 51 6 [(S 49), (S 50)]), (none, .mv 48 (S 51)), (none, .extr 52 (S 48) 0), (none, .extr 53 (S 48) 1), (none, .alloc 11 [aI 0, .nil, .nil]), (none, .store (S 11) (S 52) 3), (none, .mv 12 (S 53))]) (.seq (.seq (.reg [(none, .load 54 (S 11) true 3), (none, .load 55 (S 5) true 3), (none, .call 56 7 [(S 54), (S 55)]), (none, .un 57 .not (S 56)), (none, .mv 58 (S 57)), (some (58, false), .mv 59 (S 12)), (some (58, false), .mv 60 (S 6)), (some (58, false), .bin 61 .neq (S 59) (S 60)), (none, .pick 62 (S 58) (KB true) (S 61))]) (.cond (S 62) (.seq (.reg [(none, .mv 4 (KB false))]) .ret) .skip)) (.seq (.reg [(none, .mv 10 (K 1))]) (.seq (.reg [(none, .load 63 (S 7) true 3), (none, .mv 64 (S 10)), (none, .call 65 9 [(S 63), (S 64)]), (none, .mv 10 (S 65))]) (.seq (.seq (.reg [(none, .mv 66 (S 10)), (none, .bin 67 .lss (S 66) (K 0))]) (.cond (S 67) (.seq (.reg [(none, .mv 4 (KB false))]) .ret) .skip)) (.seq (.seq (.reg [(none, .mv 68 (S 10)), (none, .mv 69 (S 9)), (none, .bin 70 .neq (S 68) (S 69))]) (.cond (S 70) (.seq (.reg [(none, .mv 4 (KB false))]) .ret) .skip)) (.seq (.reg [(none, .mv 4 (KB true))]) .ret))))))))))))))))))
theorem e_laws_FnExactRebuildDesk : entry Tryz.prog 3 = some (c_laws_FnExactRebuildDesk.strip, [4], 71) := by kernel_rfl
theorem w_laws_FnExactRebuildDesk (a0 : Int) (a1 : List UInt8) (r : Bool) (h : f_laws_FnExactRebuildDesk a0 a1 = some r) : FC Tryz.prog 3 [.sc (.int .i64 a0), .sc (.str a1)] [.sc (.v (.bool r))] := by
  unfold f_laws_FnExactRebuildDesk at h
  refine FC_go (σ := ⟨[(0, vc (aI a0)), (1, vc (aS a1))], [], []⟩) mixed e_laws_FnExactRebuildDesk rfl rfl ?_
  simp only [c_laws_FnExactRebuildDesk]
  rcases Bool.eq_false_or_eq_true (decide ((1048576 : Int) < (a1.length : Int))) with hb1 | hb1
  · rw [ite_t hb1] at h
    try simp only [hb1, Nat.reduceBEq, Nat.reduceMul, Nat.reduceAdd, Nat.reduceDiv, Int.reduceBEq, rules2, rulesX, rowsX]
    cases h
    exact ⟨⟨rfl, trivial⟩, rfl⟩
  · rw [ite_f hb1] at h
    obtain ⟨r2, hr2, h⟩ := ob h
    try simp only [hb1, Nat.reduceBEq, Nat.reduceMul, Nat.reduceAdd, Nat.reduceDiv, Int.reduceBEq, rules2, rulesX, rowsX]
    refine go_callI (w_spec_RebuildDesk _ _ _ hr2) rfl rfl (Nat.le_of_ble_eq_true rfl) ?_
    try simp only [hb1, Nat.reduceBEq, Nat.reduceMul, Nat.reduceAdd, Nat.reduceDiv, Int.reduceBEq, rules2, rulesX, rowsX]
    refine go_al rfl rfl ?_
    obtain ⟨r3, hr3, h⟩ := ob h
    try simp only [hb1, Nat.reduceBEq, Nat.reduceMul, Nat.reduceAdd, Nat.reduceDiv, Int.reduceBEq, rules2, rulesX, rowsX]
    refine go_callI (w_impl_RebuildDesk _ _ _ hr3) rfl rfl (Nat.le_of_ble_eq_true rfl) ?_
    try simp only [hb1, Nat.reduceBEq, Nat.reduceMul, Nat.reduceAdd, Nat.reduceDiv, Int.reduceBEq, rules2, rulesX, rowsX]
    refine go_al rfl rfl ?_
    obtain ⟨r4, hr4, h⟩ := ob h
    try simp only [hb1, Nat.reduceBEq, Nat.reduceMul, Nat.reduceAdd, Nat.reduceDiv, Int.reduceBEq, rules2, rulesX, rowsX]
    refine go_call (w_laws_eqDesk _ _ _ hr4) rfl (flat_of rfl) rfl (Nat.le_of_ble_eq_true rfl) ?_
    rcases Bool.eq_false_or_eq_true r4 with hb5 | hb5
    · rw [ite_t hb5] at h
      rcases Bool.eq_false_or_eq_true (r3.2 != r2.2) with hb6 | hb6
      · rw [ite_t hb6] at h
        try simp only [hb1, hb5, hb6, Nat.reduceBEq, Nat.reduceMul, Nat.reduceAdd, Nat.reduceDiv, Int.reduceBEq, rules2, rulesX, rowsX]
        cases h
        exact ⟨⟨rfl, trivial⟩, rfl⟩
      · rw [ite_f hb6] at h
        obtain ⟨r7, hr7, h⟩ := ob h
        try simp only [hb1, hb5, hb6, Nat.reduceBEq, Nat.reduceMul, Nat.reduceAdd, Nat.reduceDiv, Int.reduceBEq, rules2, rulesX, rowsX]
        have lrr7 := (l_laws_markDesk _ _ _ hr7)
        refine go_callx (ids := [1601, 1602]) (w_laws_markDesk _ _ _ hr7) rfl rfl rfl (flatR_cons (flatR_cons flatR_nil)) (sameLen_cons (l_laws_markDesk _ _ _ hr7).1 (sameLen_cons (l_laws_markDesk _ _ _ hr7).2 sameLen_nil)) ?_
        obtain ⟨r8, hr8, h⟩ := ob h
        try simp only [hb1, hb5, hb6, Nat.reduceBEq, Nat.reduceMul, Nat.reduceAdd, Nat.reduceDiv, Int.reduceBEq, rules2, rulesX, rowsX]
        refine go_call (w_laws_heldDesk _ _ _ hr8) rfl (flat_of rfl) rfl (Nat.le_of_ble_eq_true rfl) ?_
        rcases Bool.eq_false_or_eq_true (decide (r8 < (0 : Int))) with hb9 | hb9
        · rw [ite_t hb9] at h
          try simp only [hb1, hb5, hb6, hb9, Nat.reduceBEq, Nat.reduceMul, Nat.reduceAdd, Nat.reduceDiv, Int.reduceBEq, rules2, rulesX, rowsX]
          cases h
          exact ⟨⟨rfl, trivial⟩, rfl⟩
        · rw [ite_f hb9] at h
          rcases Bool.eq_false_or_eq_true (r8 != r7.1) with hb10 | hb10
          · rw [ite_t hb10] at h
            try simp only [hb1, hb5, hb6, hb9, hb10, Nat.reduceBEq, Nat.reduceMul, Nat.reduceAdd, Nat.reduceDiv, Int.reduceBEq, rules2, rulesX, rowsX]
            cases h
            exact ⟨⟨rfl, trivial⟩, rfl⟩
          · rw [ite_f hb10] at h
            obtain ⟨r11, hr11, h⟩ := ob h
            try simp only [hb1, hb5, hb6, hb9, hb10, Nat.reduceBEq, Nat.reduceMul, Nat.reduceAdd, Nat.reduceDiv, Int.reduceBEq, rules2, rulesX, rowsX]
            refine go_callI (w_impl_RebuildDesk _ _ _ hr11) rfl rfl (Nat.le_of_ble_eq_true rfl) ?_
            try simp only [hb1, hb5, hb6, hb9, hb10, Nat.reduceBEq, Nat.reduceMul, Nat.reduceAdd, Nat.reduceDiv, Int.reduceBEq, rules2, rulesX, rowsX]
            refine go_al rfl rfl ?_
            obtain ⟨r12, hr12, h⟩ := ob h
            try simp only [hb1, hb5, hb6, hb9, hb10, Nat.reduceBEq, Nat.reduceMul, Nat.reduceAdd, Nat.reduceDiv, Int.reduceBEq, rules2, rulesX, rowsX]
            refine go_call (w_laws_eqDesk _ _ _ hr12) rfl (flat_of rfl) rfl (Nat.le_of_ble_eq_true rfl) ?_
            rcases Bool.eq_false_or_eq_true r12 with hb13 | hb13
            · rw [ite_t hb13] at h
              rcases Bool.eq_false_or_eq_true (r11.2 != r2.2) with hb14 | hb14
              · rw [ite_t hb14] at h
                try simp only [hb1, hb5, hb6, hb9, hb10, hb13, hb14, Nat.reduceBEq, Nat.reduceMul, Nat.reduceAdd, Nat.reduceDiv, Int.reduceBEq, rules2, rulesX, rowsX]
                cases h
                exact ⟨⟨rfl, trivial⟩, rfl⟩
              · rw [ite_f hb14] at h
                obtain ⟨r15, hr15, h⟩ := ob h
                try simp only [hb1, hb5, hb6, hb9, hb10, hb13, hb14, Nat.reduceBEq, Nat.reduceMul, Nat.reduceAdd, Nat.reduceDiv, Int.reduceBEq, rules2, rulesX, rowsX]
                refine go_call (w_laws_heldDesk _ _ _ hr15) rfl (flat_of rfl) rfl (Nat.le_of_ble_eq_true rfl) ?_
                rcases Bool.eq_false_or_eq_true (decide (r15 < (0 : Int))) with hb16 | hb16
                · rw [ite_t hb16] at h
                  try simp only [hb1, hb5, hb6, hb9, hb10, hb13, hb14, hb16, Nat.reduceBEq, Nat.reduceMul, Nat.reduceAdd, Nat.reduceDiv, Int.reduceBEq, rules2, rulesX, rowsX]
                  cases h
                  exact ⟨⟨rfl, trivial⟩, rfl⟩
                · rw [ite_f hb16] at h
                  rcases Bool.eq_false_or_eq_true (r15 != r7.1) with hb17 | hb17
                  · rw [ite_t hb17] at h
                    try simp only [hb1, hb5, hb6, hb9, hb10, hb13, hb14, hb16, hb17, Nat.reduceBEq, Nat.reduceMul, Nat.reduceAdd, Nat.reduceDiv, Int.reduceBEq, rules2, rulesX, rowsX]
                    cases h
                    exact ⟨⟨rfl, trivial⟩, rfl⟩
                  · rw [ite_f hb17] at h
                    try simp only [hb1, hb5, hb6, hb9, hb10, hb13, hb14, hb16, hb17, Nat.reduceBEq, Nat.reduceMul, Nat.reduceAdd, Nat.reduceDiv, Int.reduceBEq, rules2, rulesX, rowsX]
                    cases h
                    exact ⟨⟨rfl, trivial⟩, rfl⟩
            · rw [ite_f hb13] at h
              try simp only [hb1, hb5, hb6, hb9, hb10, hb13, Nat.reduceBEq, Nat.reduceMul, Nat.reduceAdd, Nat.reduceDiv, Int.reduceBEq, rules2, rulesX, rowsX]
              cases h
              exact ⟨⟨rfl, trivial⟩, rfl⟩
    · rw [ite_f hb5] at h
      try simp only [hb1, hb5, Nat.reduceBEq, Nat.reduceMul, Nat.reduceAdd, Nat.reduceDiv, Int.reduceBEq, rules2, rulesX, rowsX]
      cases h
      exact ⟨⟨rfl, trivial⟩, rfl⟩
end Go.Vi
