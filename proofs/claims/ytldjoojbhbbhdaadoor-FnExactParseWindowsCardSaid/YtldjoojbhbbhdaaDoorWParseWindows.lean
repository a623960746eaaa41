/-
  Walks: what the plain definitions compute is what the functions return. By program. No condition.
-/
import Derived.Test.YtldjoojbhbbhdaaDoorNf
import Derived.Test.YtldjoojbhbbhdaaDoorChecked
import Derived.Test.YtldjoojbhbbhdaaDoorSh
import Derived.KernelRfl
namespace Go.Vi
open Go.Proofs
set_option linter.unusedSimpArgs false
set_option linter.unusedVariables false
attribute [local irreducible] go AWP
theorem mixed : Tryd.prog.follows .mixedOrders = true := by kernel_rfl
/- 21: spec_SplitAny -/
def c_spec_SplitAny_2 : ACode := .seq (.reg [(none, .keep [0, 1, 5, 6, 7, 8] [] [576])]) (.seq (.seq (.reg [(none, .mv 16 (S 8)), (none, .mv 17 (S 1)), (none, .slen 18 (S 17)), (none, .bin 19 .lss (S 16) (S 18))]) (.cond (S 19) .skip (.exit 2))) (.seq (.block 3 (.seq (.drw [(some [], (none, .mv 22 (S 0))), (some [], (none, .mv 23 (S 7))), (some [], (none, .idx 24 (S 22) (S 23))), (some [], (none, .mv 25 (S 1))), (some [], (none, .mv 26 (S 8))), (some [], (none, .idx 27 (S 25) (S 26))), (some [], (none, .bin 28 .eql (S 24) (S 27)))]) (.cond (S 28) (.seq (.reg [(none, .mv 29 (S 5)), (none, .mv 30 (S 0)), (none, .mv 31 (S 6)), (none, .mv 32 (S 7)), (none, .sslc 33 (S 30) (some (S 31)) (some (S 32))), (none, .bslice 34 1 [.str []] 1 [(0, (S 33))]), (none, .app 35 1 16 (S 29) (S 34)), (none, .mv 5 (S 35))]) (.seq (.reg [(none, .mv 36 (S 7)), (none, .bin 37 .add (S 36) (K 1)), (none, .mv 6 (S 37))]) (.exit 2))) .skip))) (.reg [(none, .mv 20 (S 8)), (none, .bin 21 .add (S 20) (K 1)), (none, .mv 8 (S 21))])))
def c_spec_SplitAny_3 : ACode := .seq (.reg [(none, .keep [0, 1, 5, 6, 7] [] [576])]) (.reg [(none, .mv 14 (S 7)), (none, .bin 15 .add (S 14) (K 1)), (none, .mv 7 (S 15))])
def c_spec_SplitAny_1 : ACode := .seq (.reg [(none, .keep [0, 1, 5, 6, 7] [] [576])]) (.seq (.seq (.reg [(none, .mv 10 (S 7)), (none, .mv 11 (S 0)), (none, .slen 12 (S 11)), (none, .bin 13 .lss (S 10) (S 12))]) (.cond (S 13) .skip (.exit 0))) (.seq (.block 1 (.seq (.reg [(none, .mv 8 (K 0))]) (.block 2 (.loop c_spec_SplitAny_2)))) c_spec_SplitAny_3))
def c_spec_SplitAny_n1 : ACode := (.seq (.reg [(none, .mv 38 (S 5)), (none, .mv 39 (S 0)), (none, .mv 40 (S 6)), (none, .sslc 41 (S 39) (some (S 40)) none), (none, .bslice 42 1 [.str []] 1 [(0, (S 41))]), (none, .app 43 1 16 (S 38) (S 42)), (none, .mv 4 (S 43))]) .ret)
def c_spec_SplitAny : ACode := (.seq (.reg [(none, .mv 4 KN)]) (.seq (.reg [(none, .bslice 9 1 [.str []] 0 []), (none, .mv 5 (S 9))]) (.seq (.reg [(none, .mv 6 (K 0))]) (.seq (.seq (.reg [(none, .mv 7 (K 0))]) (.block 0 (.loop c_spec_SplitAny_1))) c_spec_SplitAny_n1))))
theorem w_spec_SplitAny_3 (a0 : List UInt8) (a1 : List UInt8) (v2 : Int) (k_spec_SplitAny_1 : Int → Int → (List (List UInt8)) → Option (List (List UInt8))) (hk_spec_SplitAny_1 : ∀ (v1 : Int) (v2 : Int) (v3 : List (List UInt8)) zr, k_spec_SplitAny_1 v1 v2 v3 = some zr → ∀ σ : St, σ.kept [0, 1, 5, 6, 7] [] [576] = ⟨[(0, vc (aS a0)), (1, vc (aS a1)), (5, vc (.own 576)), (6, vc (aI v1)), (7, vc (aI v2))], [], [(576, 1, List.map rS v3)]⟩ → go Tryd.prog (.code (.loop c_spec_SplitAny_1) :: [.blk 0, .code c_spec_SplitAny_n1]) (Ret [4] [.sc (.o 1 (List.map rS zr))]) .normal (some σ)) (v12 : Int) (v13 : List (List UInt8)) (r : (List (List UInt8))) (h : f_spec_SplitAny_3 a0 a1 v2 k_spec_SplitAny_1 v12 v13 = some r) (σ : St) (hσ : σ.kept [0, 1, 5, 6, 7] [] [576] = ⟨[(0, vc (aS a0)), (1, vc (aS a1)), (5, vc (.own 576)), (6, vc (aI v12)), (7, vc (aI v2))], [], [(576, 1, List.map rS v13)]⟩) : go Tryd.prog (.code c_spec_SplitAny_3 :: [.code (.loop c_spec_SplitAny_1), .blk 0, .code c_spec_SplitAny_n1]) (Ret [4] [.sc (.o 1 (List.map rS r))]) .normal (some σ) := by
  unfold f_spec_SplitAny_3 at h
  try simp only [hσ, c_spec_SplitAny_3, Nat.reduceBEq, Nat.reduceMul, Nat.reduceAdd, Nat.reduceDiv, Int.reduceBEq, rules2, rulesX, rowsX]
  refine hk_spec_SplitAny_1 _ _ _ _ h _ ?_
  try simp only [Nat.reduceBEq, Nat.reduceMul, Nat.reduceAdd, Nat.reduceDiv, Int.reduceBEq, rules2, rulesX, rowsX, List.map_nil]
theorem w_spec_SplitAny_2 (a0 : List UInt8) (a1 : List UInt8) (v1 : Int) (v2 : Int) (v3 : List (List UInt8)) (k_spec_SplitAny_1 : Int → Int → (List (List UInt8)) → Option (List (List UInt8))) (hk_spec_SplitAny_1 : ∀ (v1 : Int) (v2 : Int) (v3 : List (List UInt8)) zr, k_spec_SplitAny_1 v1 v2 v3 = some zr → ∀ σ : St, σ.kept [0, 1, 5, 6, 7] [] [576] = ⟨[(0, vc (aS a0)), (1, vc (aS a1)), (5, vc (.own 576)), (6, vc (aI v1)), (7, vc (aI v2))], [], [(576, 1, List.map rS v3)]⟩ → go Tryd.prog (.code (.loop c_spec_SplitAny_1) :: [.blk 0, .code c_spec_SplitAny_n1]) (Ret [4] [.sc (.o 1 (List.map rS zr))]) .normal (some σ)) : ∀ (n : Nat) (v5 : Int) (r : (List (List UInt8))), f_spec_SplitAny_2 a0 a1 v1 v2 v3 k_spec_SplitAny_1 n v5 = some r → ∀ σ : St, σ.kept [0, 1, 5, 6, 7, 8] [] [576] = ⟨[(0, vc (aS a0)), (1, vc (aS a1)), (5, vc (.own 576)), (6, vc (aI v1)), (7, vc (aI v2)), (8, vc (aI v5))], [], [(576, 1, List.map rS v3)]⟩ → go Tryd.prog (.code (.loop c_spec_SplitAny_2) :: [.blk 2, .blk 1, .code c_spec_SplitAny_3, .code (.loop c_spec_SplitAny_1), .blk 0, .code c_spec_SplitAny_n1]) (Ret [4] [.sc (.o 1 (List.map rS r))]) .normal (some σ) := by
  intro n
  induction n with
  | zero => intro _ r h; cases h
  | succ n ih =>
    intro v5 r h σ hσ
    rw [f_spec_SplitAny_2] at h
    refine go_round ?_
    rcases Bool.eq_false_or_eq_true (decide (v5 < (a1.length : Int))) with hb6 | hb6
    · rw [ite_t hb6] at h
      try simp only [hσ, hb6, c_spec_SplitAny_2, Nat.reduceBEq, Nat.reduceMul, Nat.reduceAdd, Nat.reduceDiv, Int.reduceBEq, rules2, rulesX, rowsX]
      refine go_fr_of rfl ?_
      obtain ⟨b7, hb7, h⟩ := ob h
      obtain ⟨b8, hb8, h⟩ := ob h
      rcases Bool.eq_false_or_eq_true ((b7.toNat : Int) == (b8.toNat : Int)) with hb9 | hb9
      · rw [ite_t hb9] at h
        obtain ⟨p10, hp10, h⟩ := ob h
        try simp only [hb6, hb7, hb8, hb9, hp10, Nat.reduceBEq, Nat.reduceMul, Nat.reduceAdd, Nat.reduceDiv, Int.reduceBEq, rules2, rulesX, rowsX]
        refine go_bsl (es := List.map rS ([((a0.drop p10.1).take (p10.2 - p10.1))] : List (List UInt8))) rfl rfl ?_
        obtain ⟨hg11, h⟩ := of_guard h
        try simp only [hb6, hb7, hb8, hb9, hp10, hg11, Nat.reduceBEq, Nat.reduceMul, Nat.reduceAdd, Nat.reduceDiv, Int.reduceBEq, rules2, rulesX, rowsX]
        refine w_spec_SplitAny_3 _ _ _ k_spec_SplitAny_1 hk_spec_SplitAny_1 _ _ _ h _ ?_
        try simp only [hb6, hb7, hb8, hb9, hp10, hg11, Nat.reduceBEq, Nat.reduceMul, Nat.reduceAdd, Nat.reduceDiv, Int.reduceBEq, rules2, rulesX, rowsX, List.map_nil]
      · rw [ite_f hb9] at h
        try simp only [hb6, hb7, hb8, hb9, Nat.reduceBEq, Nat.reduceMul, Nat.reduceAdd, Nat.reduceDiv, Int.reduceBEq, rules2, rulesX, rowsX]
        refine ih _ _ h _ ?_
        try simp only [hb6, hb7, hb8, hb9, Nat.reduceBEq, Nat.reduceMul, Nat.reduceAdd, Nat.reduceDiv, Int.reduceBEq, rules2, rulesX, rowsX, List.map_nil]
    · rw [ite_f hb6] at h
      try simp only [hσ, hb6, c_spec_SplitAny_2, Nat.reduceBEq, Nat.reduceMul, Nat.reduceAdd, Nat.reduceDiv, Int.reduceBEq, rules2, rulesX, rowsX]
      refine w_spec_SplitAny_3 _ _ _ k_spec_SplitAny_1 hk_spec_SplitAny_1 _ _ _ h _ ?_
      try simp only [hb6, Nat.reduceBEq, Nat.reduceMul, Nat.reduceAdd, Nat.reduceDiv, Int.reduceBEq, rules2, rulesX, rowsX, List.map_nil]
theorem w_spec_SplitAny_1 (a0 : List UInt8) (a1 : List UInt8) : ∀ (n : Nat) (v1 : Int) (v2 : Int) (v3 : List (List UInt8)) (r : (List (List UInt8))), f_spec_SplitAny_1 a0 a1 n v1 v2 v3 = some r → ∀ σ : St, σ.kept [0, 1, 5, 6, 7] [] [576] = ⟨[(0, vc (aS a0)), (1, vc (aS a1)), (5, vc (.own 576)), (6, vc (aI v1)), (7, vc (aI v2))], [], [(576, 1, List.map rS v3)]⟩ → go Tryd.prog (.code (.loop c_spec_SplitAny_1) :: [.blk 0, .code c_spec_SplitAny_n1]) (Ret [4] [.sc (.o 1 (List.map rS r))]) .normal (some σ) := by
  intro n
  induction n with
  | zero => intro _ _ _ r h; cases h
  | succ n ih =>
    intro v1 v2 v3 r h σ hσ
    rw [f_spec_SplitAny_1] at h
    refine go_round ?_
    rcases Bool.eq_false_or_eq_true (decide (v2 < (a0.length : Int))) with hb4 | hb4
    · rw [ite_t hb4] at h
      try simp only [hσ, hb4, c_spec_SplitAny_1, Nat.reduceBEq, Nat.reduceMul, Nat.reduceAdd, Nat.reduceDiv, Int.reduceBEq, rules2, rulesX, rowsX]
      refine w_spec_SplitAny_2 _ _ _ _ _ (f_spec_SplitAny_1 a0 a1 n) ih _ _ _ h _ ?_
      try simp only [hb4, Nat.reduceBEq, Nat.reduceMul, Nat.reduceAdd, Nat.reduceDiv, Int.reduceBEq, rules2, rulesX, rowsX, List.map_nil]
    · rw [ite_f hb4] at h
      obtain ⟨p14, hp14, h⟩ := ob h
      try simp only [hσ, hb4, hp14, c_spec_SplitAny_1, c_spec_SplitAny_n1, Nat.reduceBEq, Nat.reduceMul, Nat.reduceAdd, Nat.reduceDiv, Int.reduceBEq, rules2, rulesX, rowsX]
      refine go_bsl (es := List.map rS ([((a0.drop p14.1).take (p14.2 - p14.1))] : List (List UInt8))) rfl rfl ?_
      obtain ⟨hg15, h⟩ := of_guard h
      try simp only [hb4, hp14, hg15, Nat.reduceBEq, Nat.reduceMul, Nat.reduceAdd, Nat.reduceDiv, Int.reduceBEq, rules2, rulesX, rowsX]
      cases h
      exact ⟨⟨rfl, trivial⟩, rfl⟩
theorem e_spec_SplitAny : entry Tryd.prog 21 = some (c_spec_SplitAny.strip, [4], 44) := by kernel_rfl
theorem w_spec_SplitAny (a0 : List UInt8) (a1 : List UInt8) (r : (List (List UInt8))) (h : f_spec_SplitAny a0 a1 = some r) : FC Tryd.prog 21 [.sc (.str a0), .sc (.str a1)] [.sc (.o 1 (List.map rS r))] := by
  unfold f_spec_SplitAny at h
  refine FC_go (σ := ⟨[(0, vc (aS a0)), (1, vc (aS a1))], [], []⟩) mixed e_spec_SplitAny rfl rfl ?_
  simp only [c_spec_SplitAny]
  try simp only [Nat.reduceBEq, Nat.reduceMul, Nat.reduceAdd, Nat.reduceDiv, Int.reduceBEq, rules2, rulesX, rowsX]
  refine go_bsl (es := List.map rS ([] : List (List UInt8))) rfl rfl ?_
  try simp only [Nat.reduceBEq, Nat.reduceMul, Nat.reduceAdd, Nat.reduceDiv, Int.reduceBEq, rules2, rulesX, rowsX]
  refine w_spec_SplitAny_1 _ _ _ _ _ _ _ h _ ?_
  try simp only [Nat.reduceBEq, Nat.reduceMul, Nat.reduceAdd, Nat.reduceDiv, Int.reduceBEq, rules2, rulesX, rowsX, List.map_nil]
/- 49: spec_IsDigits -/
def c_spec_IsDigits_1 : ACode := .seq (.reg [(none, .keep [0, 3] [] [])]) (.seq (.seq (.reg [(none, .mv 4 (S 3)), (none, .mv 5 (S 0)), (none, .slen 6 (S 5)), (none, .bin 7 .lss (S 4) (S 6))]) (.cond (S 7) .skip (.exit 0))) (.seq (.block 1 (.seq (.reg [(none, .mv 10 (S 0)), (none, .mv 11 (S 3)), (none, .idx 12 (S 10) (S 11)), (none, .bin 13 .lss (S 12) (K8 48)), (none, .mv 14 (S 13)), (some (14, false), .mv 15 (S 0)), (some (14, false), .mv 16 (S 3)), (some (14, false), .idx 17 (S 15) (S 16)), (some (14, false), .bin 18 .gtr (S 17) (K8 57)), (none, .pick 19 (S 14) (KB true) (S 18))]) (.cond (S 19) (.seq (.reg [(none, .mv 2 (KB false))]) .ret) .skip))) (.reg [(none, .mv 8 (S 3)), (none, .bin 9 .add (S 8) (K 1)), (none, .mv 3 (S 9))])))
def c_spec_IsDigits_n1 : ACode := (.seq (.reg [(none, .mv 20 (S 0)), (none, .slen 21 (S 20)), (none, .bin 22 .gtr (S 21) (K 0)), (none, .mv 2 (S 22))]) .ret)
def c_spec_IsDigits : ACode := (.seq (.reg [(none, .mv 2 (KB false))]) (.seq (.seq (.reg [(none, .mv 3 (K 0))]) (.block 0 (.loop c_spec_IsDigits_1))) c_spec_IsDigits_n1))
theorem w_spec_IsDigits_1 (a0 : List UInt8) : ∀ (n : Nat) (v1 : Int) (r : Bool), f_spec_IsDigits_1 a0 n v1 = some r → ∀ σ : St, σ.kept [0, 3] [] [] = ⟨[(0, vc (aS a0)), (3, vc (aI v1))], [], []⟩ → go Tryd.prog (.code (.loop c_spec_IsDigits_1) :: [.blk 0, .code c_spec_IsDigits_n1]) (Ret [2] [.sc (.v (.bool r))]) .normal (some σ) := by
  intro n
  induction n with
  | zero => intro _ r h; cases h
  | succ n ih =>
    intro v1 r h σ hσ
    rw [f_spec_IsDigits_1] at h
    refine go_round ?_
    rcases Bool.eq_false_or_eq_true (decide (v1 < (a0.length : Int))) with hb2 | hb2
    · rw [ite_t hb2] at h
      obtain ⟨b3, hb3, h⟩ := ob h
      rcases Bool.eq_false_or_eq_true (decide ((b3.toNat : Int) < (48 : Int))) with hb4 | hb4
      · rw [ite_t hb4] at h
        try simp only [hσ, hb2, hb3, hb4, c_spec_IsDigits_1, Nat.reduceBEq, Nat.reduceMul, Nat.reduceAdd, Nat.reduceDiv, Int.reduceBEq, rules2, rulesX, rowsX]
        cases h
        exact ⟨⟨rfl, trivial⟩, rfl⟩
      · rw [ite_f hb4] at h
        rcases Bool.eq_false_or_eq_true (decide ((57 : Int) < (b3.toNat : Int))) with hb5 | hb5
        · rw [ite_t hb5] at h
          try simp only [hσ, hb2, hb3, hb4, hb5, c_spec_IsDigits_1, Nat.reduceBEq, Nat.reduceMul, Nat.reduceAdd, Nat.reduceDiv, Int.reduceBEq, rules2, rulesX, rowsX]
          cases h
          exact ⟨⟨rfl, trivial⟩, rfl⟩
        · rw [ite_f hb5] at h
          try simp only [hσ, hb2, hb3, hb4, hb5, c_spec_IsDigits_1, Nat.reduceBEq, Nat.reduceMul, Nat.reduceAdd, Nat.reduceDiv, Int.reduceBEq, rules2, rulesX, rowsX]
          refine ih _ _ h _ ?_
          try simp only [hb2, hb3, hb4, hb5, Nat.reduceBEq, Nat.reduceMul, Nat.reduceAdd, Nat.reduceDiv, Int.reduceBEq, rules2, rulesX, rowsX, List.map_nil]
    · rw [ite_f hb2] at h
      try simp only [hσ, hb2, c_spec_IsDigits_1, c_spec_IsDigits_n1, Nat.reduceBEq, Nat.reduceMul, Nat.reduceAdd, Nat.reduceDiv, Int.reduceBEq, rules2, rulesX, rowsX]
      cases h
      exact ⟨⟨rfl, trivial⟩, rfl⟩
theorem e_spec_IsDigits : entry Tryd.prog 49 = some (c_spec_IsDigits.strip, [2], 23) := by kernel_rfl
theorem w_spec_IsDigits (a0 : List UInt8) (r : Bool) (h : f_spec_IsDigits a0 = some r) : FC Tryd.prog 49 [.sc (.str a0)] [.sc (.v (.bool r))] := by
  unfold f_spec_IsDigits at h
  refine FC_go (σ := ⟨[(0, vc (aS a0))], [], []⟩) mixed e_spec_IsDigits rfl rfl ?_
  simp only [c_spec_IsDigits]
  try simp only [Nat.reduceBEq, Nat.reduceMul, Nat.reduceAdd, Nat.reduceDiv, Int.reduceBEq, rules2, rulesX, rowsX]
  refine w_spec_IsDigits_1 _ _ _ _ h _ ?_
  try simp only [Nat.reduceBEq, Nat.reduceMul, Nat.reduceAdd, Nat.reduceDiv, Int.reduceBEq, rules2, rulesX, rowsX, List.map_nil]
/- 50: spec_FormatInt -/
def c_spec_FormatInt_1 : ACode := .seq (.reg [(none, .keep [0, 3] [] [])]) (.seq (.seq (.reg [(none, .mv 25 (S 0)), (none, .bin 26 .gtr (S 25) (K 9))]) (.cond (S 26) .skip (.exit 0))) (.block 1 (.seq (.reg [(none, .mv 27 (S 0)), (none, .bin 28 .rem (S 27) (K 10)), (none, .bin 29 .add (K 48) (S 28)), (none, .conv 30 .u8 (S 29)), (none, .bslice 31 1 [.int .u8 0] 1 [(0, (S 30))]), (none, .sconv 32 (S 31)), (none, .mv 33 (S 3)), (none, .bin 34 .add (S 32) (S 33)), (none, .mv 3 (S 34))]) (.reg [(none, .mv 35 (S 0)), (none, .bin 36 .quo (S 35) (K 10)), (none, .mv 0 (S 36))]))))
def c_spec_FormatInt_n1 : ACode := (.seq (.reg [(none, .mv 37 (S 0)), (none, .bin 38 .add (K 48) (S 37)), (none, .conv 39 .u8 (S 38)), (none, .bslice 40 1 [.int .u8 0] 1 [(0, (S 39))]), (none, .sconv 41 (S 40)), (none, .mv 42 (S 3)), (none, .bin 43 .add (S 41) (S 42)), (none, .mv 2 (S 43))]) .ret)
def c_spec_FormatInt : ACode := (.seq (.reg [(none, .mv 2 (KS []))]) (.seq (.seq (.reg [(none, .mv 4 (S 0)), (none, .bin 5 .lss (S 4) (K 0))]) (.cond (S 5) (.seq (.seq (.reg [(none, .mv 6 (S 0)), (none, .bin 7 .quo (S 6) (K 10)), (none, .bin 8 .eql (S 7) (K 0))]) (.cond (S 8) (.seq (.reg [(none, .mv 9 (S 0)), (none, .bin 10 .sub (K 48) (S 9)), (none, .conv 11 .u8 (S 10)), (none, .bslice 12 1 [.int .u8 0] 1 [(0, (S 11))]), (none, .sconv 13 (S 12)), (none, .bin 14 .add (KS [45]) (S 13)), (none, .mv 2 (S 14))]) .ret) .skip)) (.seq (.drw [(some [22], (none, .mv 15 (S 0))), (some [22], (none, .bin 16 .quo (S 15) (K 10))), (some [22], (none, .call 17 50 [(S 16)])), (some [17], (none, .mv 18 (S 0))), (some [17], (none, .bin 19 .rem (S 18) (K 10))), (some [17], (none, .bin 20 .sub (K 48) (S 19))), (some [17], (none, .conv 21 .u8 (S 20))), (some [17], (none, .bslice 22 1 [.int .u8 0] 1 [(0, (S 21))])), (some [17], (none, .sconv 23 (S 22))), (some [], (none, .bin 24 .add (S 17) (S 23))), (some [], (none, .mv 2 (S 24)))]) .ret)) .skip)) (.seq (.reg [(none, .mv 3 (KS []))]) (.seq (.block 0 (.loop c_spec_FormatInt_1)) c_spec_FormatInt_n1))))
theorem w_spec_FormatInt_1 (rec_ : Int → Option (List UInt8)) (h_rec : ∀ (a0 : Int) zr, rec_ a0 = some zr → FC Tryd.prog 50 [.sc (.int .i64 a0)] [.sc (.v (.str zr))]) : ∀ (n : Nat) (v6 : Int) (v7 : List UInt8) (r : (List UInt8)), f_spec_FormatInt_1 rec_ n v6 v7 = some r → ∀ σ : St, σ.kept [0, 3] [] [] = ⟨[(0, vc (aI v6)), (3, vc (aS v7))], [], []⟩ → go Tryd.prog (.code (.loop c_spec_FormatInt_1) :: [.blk 0, .code c_spec_FormatInt_n1]) (Ret [2] [.sc (.v (.str r))]) .normal (some σ) := by
  intro n
  induction n with
  | zero => intro _ _ r h; cases h
  | succ n ih =>
    intro v6 v7 r h σ hσ
    rw [f_spec_FormatInt_1] at h
    refine go_round ?_
    rcases Bool.eq_false_or_eq_true (decide ((9 : Int) < v6)) with hb8 | hb8
    · rw [ite_t hb8] at h
      try simp only [hσ, hb8, c_spec_FormatInt_1, Nat.reduceBEq, Nat.reduceMul, Nat.reduceAdd, Nat.reduceDiv, Int.reduceBEq, rules2, rulesX, rowsX]
      refine go_bsl (es := List.map r8 ([(IntKind.u8.wrap (IntKind.i64.wrap ((48 : Int) + (IntKind.i64.wrap (Int.tmod v6 (10 : Int))))))] : List Int)) rfl rfl ?_
      obtain ⟨hg9, h⟩ := of_guard h
      try simp only [hb8, hg9, Nat.reduceBEq, Nat.reduceMul, Nat.reduceAdd, Nat.reduceDiv, Int.reduceBEq, rules2, rulesX, rowsX]
      refine ih _ _ _ h _ ?_
      try simp only [hb8, hg9, Nat.reduceBEq, Nat.reduceMul, Nat.reduceAdd, Nat.reduceDiv, Int.reduceBEq, rules2, rulesX, rowsX, List.map_nil]
    · rw [ite_f hb8] at h
      try simp only [hσ, hb8, c_spec_FormatInt_1, c_spec_FormatInt_n1, Nat.reduceBEq, Nat.reduceMul, Nat.reduceAdd, Nat.reduceDiv, Int.reduceBEq, rules2, rulesX, rowsX]
      refine go_bsl (es := List.map r8 ([(IntKind.u8.wrap (IntKind.i64.wrap ((48 : Int) + v6)))] : List Int)) rfl rfl ?_
      obtain ⟨hg10, h⟩ := of_guard h
      try simp only [hb8, hg10, Nat.reduceBEq, Nat.reduceMul, Nat.reduceAdd, Nat.reduceDiv, Int.reduceBEq, rules2, rulesX, rowsX]
      cases h
      exact ⟨⟨rfl, trivial⟩, rfl⟩
theorem e_spec_FormatInt : entry Tryd.prog 50 = some (c_spec_FormatInt.strip, [2], 44) := by kernel_rfl
theorem w_spec_FormatInt_b (rec_ : Int → Option (List UInt8)) (a0 : Int) (r : (List UInt8)) (h_rec : ∀ (a0 : Int) zr, rec_ a0 = some zr → FC Tryd.prog 50 [.sc (.int .i64 a0)] [.sc (.v (.str zr))]) (h : f_spec_FormatInt_b rec_ a0 = some r) : FC Tryd.prog 50 [.sc (.int .i64 a0)] [.sc (.v (.str r))] := by
  unfold f_spec_FormatInt_b at h
  refine FC_go (σ := ⟨[(0, vc (aI a0))], [], []⟩) mixed e_spec_FormatInt rfl rfl ?_
  simp only [c_spec_FormatInt]
  rcases Bool.eq_false_or_eq_true (decide (a0 < (0 : Int))) with hb1 | hb1
  · rw [ite_t hb1] at h
    rcases Bool.eq_false_or_eq_true ((IntKind.i64.wrap (Int.tdiv a0 (10 : Int))) == (0 : Int)) with hb2 | hb2
    · rw [ite_t hb2] at h
      try simp only [hb1, hb2, Nat.reduceBEq, Nat.reduceMul, Nat.reduceAdd, Nat.reduceDiv, Int.reduceBEq, rules2, rulesX, rowsX]
      refine go_bsl (es := List.map r8 ([(IntKind.u8.wrap (IntKind.i64.wrap ((48 : Int) - a0)))] : List Int)) rfl rfl ?_
      obtain ⟨hg3, h⟩ := of_guard h
      try simp only [hb1, hb2, hg3, Nat.reduceBEq, Nat.reduceMul, Nat.reduceAdd, Nat.reduceDiv, Int.reduceBEq, rules2, rulesX, rowsX]
      cases h
      exact ⟨⟨rfl, trivial⟩, rfl⟩
    · rw [ite_f hb2] at h
      try simp only [hb1, hb2, Nat.reduceBEq, Nat.reduceMul, Nat.reduceAdd, Nat.reduceDiv, Int.reduceBEq, rules2, rulesX, rowsX]
      refine go_fr_of rfl ?_
      obtain ⟨r4, hr4, h⟩ := ob h
      try simp only [hb1, hb2, Nat.reduceBEq, Nat.reduceMul, Nat.reduceAdd, Nat.reduceDiv, Int.reduceBEq, rules2, rulesX, rowsX]
      refine go_dcallI (h_rec _ _ hr4) rfl rfl (Nat.le_of_ble_eq_true rfl) ?_
      try simp only [hb1, hb2, Nat.reduceBEq, Nat.reduceMul, Nat.reduceAdd, Nat.reduceDiv, Int.reduceBEq, rules2, rulesX, rowsX]
      refine go_mkN (m := .row 22 1 (List.map r8 ([(IntKind.u8.wrap (IntKind.i64.wrap ((48 : Int) - (IntKind.i64.wrap (Int.tmod a0 (10 : Int))))))] : List Int))) rfl rfl (make_row rfl) ?_
      obtain ⟨hg5, h⟩ := of_guard h
      try simp only [hb1, hb2, hg5, Nat.reduceBEq, Nat.reduceMul, Nat.reduceAdd, Nat.reduceDiv, Int.reduceBEq, rules2, rulesX, rowsX]
      cases h
      exact ⟨⟨rfl, trivial⟩, rfl⟩
  · rw [ite_f hb1] at h
    try simp only [hb1, Nat.reduceBEq, Nat.reduceMul, Nat.reduceAdd, Nat.reduceDiv, Int.reduceBEq, rules2, rulesX, rowsX]
    refine w_spec_FormatInt_1 rec_ h_rec _ _ _ _ h _ ?_
    try simp only [hb1, Nat.reduceBEq, Nat.reduceMul, Nat.reduceAdd, Nat.reduceDiv, Int.reduceBEq, rules2, rulesX, rowsX, List.map_nil]
theorem w_spec_FormatInt_r : ∀ (n : Nat) (a0 : Int) (r : (List UInt8)), f_spec_FormatInt_r n a0 = some r → FC Tryd.prog 50 [.sc (.int .i64 a0)] [.sc (.v (.str r))] := by
  intro n
  induction n with
  | zero => intro _ r h; cases h
  | succ n ih => intro a0 r h; rw [f_spec_FormatInt_r] at h; exact w_spec_FormatInt_b (f_spec_FormatInt_r n) a0 r ih h
theorem w_spec_FormatInt (a0 : Int) (r : (List UInt8)) (h : f_spec_FormatInt a0 = some r) : FC Tryd.prog 50 [.sc (.int .i64 a0)] [.sc (.v (.str r))] := w_spec_FormatInt_r bigN a0 r h
/- 22: spec_ParseInt -/
def c_spec_ParseInt_3 : ACode := .seq (.reg [(none, .keep [0, 4, 5, 28] [] [])]) (.cond (S 28) (.seq (.reg [(none, .mv 2 (K 0)), (none, .mv 3 (KB false))]) .ret) .skip)
def c_spec_ParseInt_4 : ACode := .seq (.reg [(none, .keep [0, 4, 5, 6, 7] [] [])]) (.seq (.seq (.reg [(none, .mv 29 (S 7)), (none, .mv 30 (S 5)), (none, .slen 31 (S 30)), (none, .bin 32 .lss (S 29) (S 31))]) (.cond (S 32) .skip (.exit 0))) (.seq (.block 1 (.seq (.reg [(none, .mv 35 (S 5)), (none, .mv 36 (S 7)), (none, .idx 37 (S 35) (S 36)), (none, .conv 38 .i64 (S 37)), (none, .bin 39 .sub (S 38) (K 48)), (none, .mv 8 (S 39))]) (.seq (.seq (.reg [(none, .mv 40 (S 6)), (none, .mv 41 (S 8)), (none, .bin 42 .add (K (-9223372036854775808)) (S 41)), (none, .bin 43 .quo (S 42) (K 10)), (none, .bin 44 .lss (S 40) (S 43))]) (.cond (S 44) (.seq (.reg [(none, .mv 2 (K 0)), (none, .mv 3 (KB false))]) .ret) .skip)) (.reg [(none, .mv 45 (S 6)), (none, .bin 46 .mul (S 45) (K 10)), (none, .mv 47 (S 8)), (none, .bin 48 .sub (S 46) (S 47)), (none, .mv 6 (S 48))])))) (.reg [(none, .mv 33 (S 7)), (none, .bin 34 .add (S 33) (K 1)), (none, .mv 7 (S 34))])))
def c_spec_ParseInt_5 : ACode := .seq (.reg [(none, .keep [0, 6] [] [])]) (.seq (.seq (.reg [(none, .mv 55 (S 6)), (none, .call 56 50 [(S 55)]), (none, .mv 57 (S 0)), (none, .bin 58 .neq (S 56) (S 57))]) (.cond (S 58) (.seq (.reg [(none, .mv 2 (K 0)), (none, .mv 3 (KB false))]) .ret) .skip)) (.seq (.reg [(none, .mv 59 (S 6)), (none, .mv 2 (S 59)), (none, .mv 3 (KB true))]) .ret))
def c_spec_ParseInt_n2 : ACode := (.seq (.seq (.reg [(none, .mv 49 (S 4)), (none, .un 50 .not (S 49))]) (.cond (S 50) (.seq (.seq (.reg [(none, .mv 51 (S 6)), (none, .bin 52 .eql (S 51) (K (-9223372036854775808)))]) (.cond (S 52) (.seq (.reg [(none, .mv 2 (K 0)), (none, .mv 3 (KB false))]) .ret) .skip)) (.reg [(none, .mv 53 (S 6)), (none, .un 54 .neg (S 53)), (none, .mv 6 (S 54))])) .skip)) c_spec_ParseInt_5)
def c_spec_ParseInt_n1 : ACode := (.seq (.reg [(none, .mv 6 (K 0))]) (.seq (.seq (.reg [(none, .mv 7 (K 0))]) (.block 0 (.loop c_spec_ParseInt_4))) c_spec_ParseInt_n2))
def c_spec_ParseInt_2 : ACode := .seq (.reg [(none, .keep [0, 4, 5] [] [])]) (.seq (.seq (.reg [(none, .mv 21 (S 5)), (none, .call 22 49 [(S 21)]), (none, .un 23 .not (S 22)), (none, .mv 24 (S 23)), (some (24, false), .mv 25 (S 5)), (some (24, false), .slen 26 (S 25)), (some (24, false), .bin 27 .gtr (S 26) (K 19)), (none, .pick 28 (S 24) (KB true) (S 27))]) c_spec_ParseInt_3) c_spec_ParseInt_n1)
def c_spec_ParseInt_1 : ACode := .seq (.reg [(none, .keep [0, 4] [] [])]) (.seq (.reg [(none, .mv 17 (S 0)), (none, .mv 5 (S 17))]) (.seq (.seq (.reg [(none, .mv 18 (S 4))]) (.cond (S 18) (.reg [(none, .mv 19 (S 0)), (none, .sslc 20 (S 19) (some (K 1)) none), (none, .mv 5 (S 20))]) .skip)) c_spec_ParseInt_2))
def c_spec_ParseInt : ACode := (.seq (.reg [(none, .mv 2 (K 0)), (none, .mv 3 (KB false))]) (.seq (.reg [(none, .mv 9 (S 0)), (none, .slen 10 (S 9)), (none, .bin 11 .gtr (S 10) (K 0)), (none, .mv 12 (S 11)), (some (12, true), .mv 13 (S 0)), (some (12, true), .idx 14 (S 13) (K 0)), (some (12, true), .bin 15 .eql (S 14) (K8 45)), (none, .pick 16 (S 12) (S 15) (KB false)), (none, .mv 4 (S 16))]) c_spec_ParseInt_1))
theorem w_spec_ParseInt_5 (a0 : List UInt8) (v19 : Int) (r : Int × Bool) (h : f_spec_ParseInt_5 a0 v19 = some r) (σ : St) (hσ : σ.kept [0, 6] [] [] = ⟨[(0, vc (aS a0)), (6, vc (aI v19))], [], []⟩) : go Tryd.prog (.code c_spec_ParseInt_5 :: []) (Ret [2, 3] [.sc (.v (.int .i64 r.1)), .sc (.v (.bool r.2))]) .normal (some σ) := by
  unfold f_spec_ParseInt_5 at h
  obtain ⟨r20, hr20, h⟩ := ob h
  try simp only [hσ, c_spec_ParseInt_5, Nat.reduceBEq, Nat.reduceMul, Nat.reduceAdd, Nat.reduceDiv, Int.reduceBEq, rules2, rulesX, rowsX]
  refine go_callI (w_spec_FormatInt _ _ hr20) rfl rfl (Nat.le_of_ble_eq_true rfl) ?_
  rcases Bool.eq_false_or_eq_true (r20 == a0) with hb21 | hb21
  · rw [ite_t hb21] at h
    try simp only [hb21, Nat.reduceBEq, Nat.reduceMul, Nat.reduceAdd, Nat.reduceDiv, Int.reduceBEq, rules2, rulesX, rowsX]
    cases h
    exact ⟨⟨rfl, rfl, trivial⟩, rfl⟩
  · rw [ite_f hb21] at h
    try simp only [hb21, Nat.reduceBEq, Nat.reduceMul, Nat.reduceAdd, Nat.reduceDiv, Int.reduceBEq, rules2, rulesX, rowsX]
    cases h
    exact ⟨⟨rfl, rfl, trivial⟩, rfl⟩
theorem w_spec_ParseInt_4 (a0 : List UInt8) (v6 : Bool) (v7 : List UInt8) : ∀ (n : Nat) (v12 : Int) (v13 : Int) (r : Int × Bool), f_spec_ParseInt_4 a0 v6 v7 n v12 v13 = some r → ∀ σ : St, σ.kept [0, 4, 5, 6, 7] [] [] = ⟨[(0, vc (aS a0)), (4, vc (aB v6)), (5, vc (aS v7)), (6, vc (aI v12)), (7, vc (aI v13))], [], []⟩ → go Tryd.prog (.code (.loop c_spec_ParseInt_4) :: [.blk 0, .code c_spec_ParseInt_n2]) (Ret [2, 3] [.sc (.v (.int .i64 r.1)), .sc (.v (.bool r.2))]) .normal (some σ) := by
  intro n
  induction n with
  | zero => intro _ _ r h; cases h
  | succ n ih =>
    intro v12 v13 r h σ hσ
    rw [f_spec_ParseInt_4] at h
    refine go_round ?_
    rcases Bool.eq_false_or_eq_true (decide (v13 < (v7.length : Int))) with hb14 | hb14
    · rw [ite_t hb14] at h
      obtain ⟨b15, hb15, h⟩ := ob h
      rcases Bool.eq_false_or_eq_true (decide (v12 < (IntKind.i64.wrap (Int.tdiv (IntKind.i64.wrap ((-9223372036854775808 : Int) + (IntKind.i64.wrap ((IntKind.i64.wrap (b15.toNat : Int)) - (48 : Int))))) (10 : Int))))) with hb16 | hb16
      · rw [ite_t hb16] at h
        try simp only [hσ, hb14, hb15, hb16, c_spec_ParseInt_4, Nat.reduceBEq, Nat.reduceMul, Nat.reduceAdd, Nat.reduceDiv, Int.reduceBEq, rules2, rulesX, rowsX]
        cases h
        exact ⟨⟨rfl, rfl, trivial⟩, rfl⟩
      · rw [ite_f hb16] at h
        try simp only [hσ, hb14, hb15, hb16, c_spec_ParseInt_4, Nat.reduceBEq, Nat.reduceMul, Nat.reduceAdd, Nat.reduceDiv, Int.reduceBEq, rules2, rulesX, rowsX]
        refine ih _ _ _ h _ ?_
        try simp only [hb14, hb15, hb16, Nat.reduceBEq, Nat.reduceMul, Nat.reduceAdd, Nat.reduceDiv, Int.reduceBEq, rules2, rulesX, rowsX, List.map_nil]
    · rw [ite_f hb14] at h
      rcases Bool.eq_false_or_eq_true v6 with hb17 | hb17
      · rw [ite_t hb17] at h
        try simp only [hσ, hb14, hb17, c_spec_ParseInt_4, c_spec_ParseInt_n2, Nat.reduceBEq, Nat.reduceMul, Nat.reduceAdd, Nat.reduceDiv, Int.reduceBEq, rules2, rulesX, rowsX]
        refine w_spec_ParseInt_5 _ _ _ h _ ?_
        try simp only [hb14, hb17, Nat.reduceBEq, Nat.reduceMul, Nat.reduceAdd, Nat.reduceDiv, Int.reduceBEq, rules2, rulesX, rowsX, List.map_nil]
      · rw [ite_f hb17] at h
        rcases Bool.eq_false_or_eq_true (v12 == (-9223372036854775808 : Int)) with hb18 | hb18
        · rw [ite_t hb18] at h
          try simp only [hσ, hb14, hb17, hb18, c_spec_ParseInt_4, c_spec_ParseInt_n2, Nat.reduceBEq, Nat.reduceMul, Nat.reduceAdd, Nat.reduceDiv, Int.reduceBEq, rules2, rulesX, rowsX]
          cases h
          exact ⟨⟨rfl, rfl, trivial⟩, rfl⟩
        · rw [ite_f hb18] at h
          try simp only [hσ, hb14, hb17, hb18, c_spec_ParseInt_4, c_spec_ParseInt_n2, Nat.reduceBEq, Nat.reduceMul, Nat.reduceAdd, Nat.reduceDiv, Int.reduceBEq, rules2, rulesX, rowsX]
          refine w_spec_ParseInt_5 _ _ _ h _ ?_
          try simp only [hb14, hb17, hb18, Nat.reduceBEq, Nat.reduceMul, Nat.reduceAdd, Nat.reduceDiv, Int.reduceBEq, rules2, rulesX, rowsX, List.map_nil]
theorem w_spec_ParseInt_3 (a0 : List UInt8) (v6 : Bool) (v7 : List UInt8) (v10 : Bool) (r : Int × Bool) (h : f_spec_ParseInt_3 a0 v6 v7 v10 = some r) (σ : St) (hσ : σ.kept [0, 4, 5, 28] [] [] = ⟨[(0, vc (aS a0)), (4, vc (aB v6)), (5, vc (aS v7)), (28, vc (aB v10))], [], []⟩) : go Tryd.prog (.code c_spec_ParseInt_3 :: [.code c_spec_ParseInt_n1]) (Ret [2, 3] [.sc (.v (.int .i64 r.1)), .sc (.v (.bool r.2))]) .normal (some σ) := by
  unfold f_spec_ParseInt_3 at h
  rcases Bool.eq_false_or_eq_true v10 with hb11 | hb11
  · rw [ite_t hb11] at h
    try simp only [hσ, hb11, c_spec_ParseInt_3, Nat.reduceBEq, Nat.reduceMul, Nat.reduceAdd, Nat.reduceDiv, Int.reduceBEq, rules2, rulesX, rowsX]
    cases h
    exact ⟨⟨rfl, rfl, trivial⟩, rfl⟩
  · rw [ite_f hb11] at h
    try simp only [hσ, hb11, c_spec_ParseInt_3, c_spec_ParseInt_n1, Nat.reduceBEq, Nat.reduceMul, Nat.reduceAdd, Nat.reduceDiv, Int.reduceBEq, rules2, rulesX, rowsX]
    refine w_spec_ParseInt_4 _ _ _ _ _ _ _ h _ ?_
    try simp only [hb11, Nat.reduceBEq, Nat.reduceMul, Nat.reduceAdd, Nat.reduceDiv, Int.reduceBEq, rules2, rulesX, rowsX, List.map_nil]
theorem w_spec_ParseInt_2 (a0 : List UInt8) (v6 : Bool) (v7 : List UInt8) (r : Int × Bool) (h : f_spec_ParseInt_2 a0 v6 v7 = some r) (σ : St) (hσ : σ.kept [0, 4, 5] [] [] = ⟨[(0, vc (aS a0)), (4, vc (aB v6)), (5, vc (aS v7))], [], []⟩) : go Tryd.prog (.code c_spec_ParseInt_2 :: []) (Ret [2, 3] [.sc (.v (.int .i64 r.1)), .sc (.v (.bool r.2))]) .normal (some σ) := by
  unfold f_spec_ParseInt_2 at h
  obtain ⟨r8, hr8, h⟩ := ob h
  try simp only [hσ, c_spec_ParseInt_2, Nat.reduceBEq, Nat.reduceMul, Nat.reduceAdd, Nat.reduceDiv, Int.reduceBEq, rules2, rulesX, rowsX]
  refine go_callI (w_spec_IsDigits _ _ hr8) rfl rfl (Nat.le_of_ble_eq_true rfl) ?_
  rcases Bool.eq_false_or_eq_true r8 with hb9 | hb9
  · rw [ite_t hb9] at h
    try simp only [hb9, Nat.reduceBEq, Nat.reduceMul, Nat.reduceAdd, Nat.reduceDiv, Int.reduceBEq, rules2, rulesX, rowsX]
    refine w_spec_ParseInt_3 _ _ _ _ _ h _ ?_
    try simp only [hb9, Nat.reduceBEq, Nat.reduceMul, Nat.reduceAdd, Nat.reduceDiv, Int.reduceBEq, rules2, rulesX, rowsX, List.map_nil]
  · rw [ite_f hb9] at h
    try simp only [hb9, Nat.reduceBEq, Nat.reduceMul, Nat.reduceAdd, Nat.reduceDiv, Int.reduceBEq, rules2, rulesX, rowsX]
    refine w_spec_ParseInt_3 _ _ _ _ _ h _ ?_
    try simp only [hb9, Nat.reduceBEq, Nat.reduceMul, Nat.reduceAdd, Nat.reduceDiv, Int.reduceBEq, rules2, rulesX, rowsX, List.map_nil]
theorem w_spec_ParseInt_1 (a0 : List UInt8) (v3 : Bool) (r : Int × Bool) (h : f_spec_ParseInt_1 a0 v3 = some r) (σ : St) (hσ : σ.kept [0, 4] [] [] = ⟨[(0, vc (aS a0)), (4, vc (aB v3))], [], []⟩) : go Tryd.prog (.code c_spec_ParseInt_1 :: []) (Ret [2, 3] [.sc (.v (.int .i64 r.1)), .sc (.v (.bool r.2))]) .normal (some σ) := by
  unfold f_spec_ParseInt_1 at h
  rcases Bool.eq_false_or_eq_true v3 with hb4 | hb4
  · rw [ite_t hb4] at h
    obtain ⟨p5, hp5, h⟩ := ob h
    try simp only [hσ, hb4, hp5, c_spec_ParseInt_1, Nat.reduceBEq, Nat.reduceMul, Nat.reduceAdd, Nat.reduceDiv, Int.reduceBEq, rules2, rulesX, rowsX]
    refine w_spec_ParseInt_2 _ _ _ _ h _ ?_
    try simp only [hb4, hp5, Nat.reduceBEq, Nat.reduceMul, Nat.reduceAdd, Nat.reduceDiv, Int.reduceBEq, rules2, rulesX, rowsX, List.map_nil]
  · rw [ite_f hb4] at h
    try simp only [hσ, hb4, c_spec_ParseInt_1, Nat.reduceBEq, Nat.reduceMul, Nat.reduceAdd, Nat.reduceDiv, Int.reduceBEq, rules2, rulesX, rowsX]
    refine w_spec_ParseInt_2 _ _ _ _ h _ ?_
    try simp only [hb4, Nat.reduceBEq, Nat.reduceMul, Nat.reduceAdd, Nat.reduceDiv, Int.reduceBEq, rules2, rulesX, rowsX, List.map_nil]
theorem e_spec_ParseInt : entry Tryd.prog 22 = some (c_spec_ParseInt.strip, [2, 3], 60) := by kernel_rfl
theorem w_spec_ParseInt (a0 : List UInt8) (r : Int × Bool) (h : f_spec_ParseInt a0 = some r) : FC Tryd.prog 22 [.sc (.str a0)] [.sc (.v (.int .i64 r.1)), .sc (.v (.bool r.2))] := by
  unfold f_spec_ParseInt at h
  refine FC_go (σ := ⟨[(0, vc (aS a0))], [], []⟩) mixed e_spec_ParseInt rfl rfl ?_
  simp only [c_spec_ParseInt]
  rcases Bool.eq_false_or_eq_true (decide ((0 : Int) < (a0.length : Int))) with hb1 | hb1
  · rw [ite_t hb1] at h
    obtain ⟨b2, hb2, h⟩ := ob h
    try simp only [hb1, hb2, Nat.reduceBEq, Nat.reduceMul, Nat.reduceAdd, Nat.reduceDiv, Int.reduceBEq, rules2, rulesX, rowsX]
    refine w_spec_ParseInt_1 _ _ _ h _ ?_
    try simp only [hb1, hb2, Nat.reduceBEq, Nat.reduceMul, Nat.reduceAdd, Nat.reduceDiv, Int.reduceBEq, rules2, rulesX, rowsX, List.map_nil]
  · rw [ite_f hb1] at h
    try simp only [hb1, Nat.reduceBEq, Nat.reduceMul, Nat.reduceAdd, Nat.reduceDiv, Int.reduceBEq, rules2, rulesX, rowsX]
    refine w_spec_ParseInt_1 _ _ _ h _ ?_
    try simp only [hb1, Nat.reduceBEq, Nat.reduceMul, Nat.reduceAdd, Nat.reduceDiv, Int.reduceBEq, rules2, rulesX, rowsX, List.map_nil]
/- 51: spec_l01In -/
def c_spec_l01In : ACode := (.seq (.reg [(none, .mv 6 (KB false))]) (.seq (.reg [(none, .mv 7 (S 0)), (none, .mv 8 (S 1)), (none, .bin 9 .geq (S 7) (S 8)), (none, .mv 10 (S 9)), (some (10, true), .mv 11 (S 0)), (some (10, true), .mv 12 (S 2)), (some (10, true), .bin 13 .leq (S 11) (S 12)), (none, .pick 14 (S 10) (S 13) (KB false)), (none, .mv 6 (S 14))]) .ret))
theorem e_spec_l01In : entry Tryd.prog 51 = some (c_spec_l01In.strip, [6], 15) := by kernel_rfl
theorem w_spec_l01In (a0 : Int) (a1 : Int) (a2 : Int) (r : Bool) (h : f_spec_l01In a0 a1 a2 = some r) : FC Tryd.prog 51 [.sc (.int .i64 a0), .sc (.int .i64 a1), .sc (.int .i64 a2)] [.sc (.v (.bool r))] := by
  unfold f_spec_l01In at h
  refine FC_go (σ := ⟨[(0, vc (aI a0)), (1, vc (aI a1)), (2, vc (aI a2))], [], []⟩) mixed e_spec_l01In rfl rfl ?_
  simp only [c_spec_l01In]
  rcases Bool.eq_false_or_eq_true (decide (a1 ≤ a0)) with hb1 | hb1
  · rw [ite_t hb1] at h
    try simp only [hb1, Nat.reduceBEq, Nat.reduceMul, Nat.reduceAdd, Nat.reduceDiv, Int.reduceBEq, rules2, rulesX, rowsX]
    cases h
    exact ⟨⟨rfl, trivial⟩, rfl⟩
  · rw [ite_f hb1] at h
    try simp only [hb1, Nat.reduceBEq, Nat.reduceMul, Nat.reduceAdd, Nat.reduceDiv, Int.reduceBEq, rules2, rulesX, rowsX]
    cases h
    exact ⟨⟨rfl, trivial⟩, rfl⟩
/- 23: spec_WindowsOk -/
def c_spec_WindowsOk_1 : ACode := .seq (.reg [(none, .keep [0, 5, 6, 7] [] [])]) (.seq (.reg [(none, .bin 8 .lss (S 7) (S 6))]) (.seq (.cond (S 8) .skip (.exit 0)) (.seq (.block 1 (.seq (.reg [(none, .mv 9 (S 7)), (none, .iaddr 10 (S 5) (S 7) 2), (none, .load 11 (S 10) true 2), (none, .alloc 4 [aI 0, aI 0]), (none, .mv 3 (S 9)), (none, .store (S 4) (S 11) 2)]) (.seq (.drw [(some [], (none, .faddr 12 (S 4) 0)), (some [], (none, .load 13 (S 12) false 1)), (some [], (none, .call 14 51 [(S 13), (K 0), (K 2880)])), (some [], (none, .un 15 .not (S 14))), (some [], (none, .mv 16 (S 15))), (some [], (some (16, false), .faddr 17 (S 4) 1)), (some [], (some (16, false), .load 18 (S 17) false 1)), (some [], (some (16, false), .faddr 19 (S 4) 0)), (some [], (some (16, false), .load 20 (S 19) false 1)), (some [], (some (16, false), .call 21 51 [(S 18), (S 20), (K 2880)])), (some [], (some (16, false), .un 22 .not (S 21))), (some [], (none, .pick 23 (S 16) (KB true) (S 22))), (some [], (none, .mv 24 (S 23))), (some [], (some (24, false), .mv 25 (S 3))), (some [], (some (24, false), .bin 26 .gtr (S 25) (K 0))), (some [], (some (24, false), .mv 27 (S 26))), (some [], (some (27, true), .faddr 28 (S 4) 0)), (some [], (some (27, true), .load 29 (S 28) false 1)), (some [], (some (27, true), .mv 30 (S 0))), (some [], (some (27, true), .mv 31 (S 3))), (some [], (some (27, true), .bin 32 .sub (S 31) (K 1))), (some [], (some (27, true), .iaddr 33 (S 30) (S 32) 2)), (some [], (some (27, true), .faddr 34 (S 33) 1)), (some [], (some (27, true), .load 35 (S 34) false 1)), (some [], (some (27, true), .bin 36 .add (S 35) (K 1))), (some [], (some (27, true), .bin 37 .leq (S 29) (S 36))), (some [], (some (24, false), .pick 38 (S 27) (S 37) (KB false))), (some [], (none, .pick 39 (S 24) (KB true) (S 38)))]) (.cond (S 39) (.seq (.reg [(none, .mv 2 (KB false))]) .ret) .skip)))) (.reg [(none, .bin 40 .add (S 7) (K 1)), (none, .mv 7 (S 40))]))))
def c_spec_WindowsOk_n1 : ACode := (.seq (.reg [(none, .mv 2 (KB true))]) .ret)
def c_spec_WindowsOk : ACode := (.seq (.reg [(none, .mv 2 (KB false))]) (.seq (.seq (.reg [(none, .mv 5 (S 0)), (none, .len 6 (S 5)), (none, .mv 7 (K 0))]) (.block 0 (.loop c_spec_WindowsOk_1))) c_spec_WindowsOk_n1))
theorem w_spec_WindowsOk_1 (a0 : List XWindow) : ∀ (n : Nat) (v1 : Int) (r : Bool), f_spec_WindowsOk_1 a0 n v1 = some r → ∀ σ : St, σ.kept [0, 5, 6, 7] [] [] = ⟨[(0, vc (aL (List.map XWindow.row a0))), (5, vc (aL (List.map XWindow.row a0))), (6, vc (aI (a0.length : Int))), (7, vc (aI v1))], [], []⟩ → go Tryd.prog (.code (.loop c_spec_WindowsOk_1) :: [.blk 0, .code c_spec_WindowsOk_n1]) (Ret [2] [.sc (.v (.bool r))]) .normal (some σ) := by
  intro n
  induction n with
  | zero => intro _ r h; cases h
  | succ n ih =>
    intro v1 r h σ hσ
    rw [f_spec_WindowsOk_1] at h
    refine go_round ?_
    rcases Bool.eq_false_or_eq_true (decide (v1 < (a0.length : Int))) with hb2 | hb2
    · rw [ite_t hb2] at h
      obtain ⟨x3, hx3, h⟩ := ob h
      try simp only [hσ, hb2, hx3, c_spec_WindowsOk_1, Nat.reduceBEq, Nat.reduceMul, Nat.reduceAdd, Nat.reduceDiv, Int.reduceBEq, rules2, rulesX, rowsX]
      refine go_al rfl rfl ?_
      try simp only [hb2, hx3, Nat.reduceBEq, Nat.reduceMul, Nat.reduceAdd, Nat.reduceDiv, Int.reduceBEq, rules2, rulesX, rowsX]
      refine go_fr_of rfl ?_
      obtain ⟨r4, hr4, h⟩ := ob h
      try simp only [hb2, hx3, Nat.reduceBEq, Nat.reduceMul, Nat.reduceAdd, Nat.reduceDiv, Int.reduceBEq, rules2, rulesX, rowsX]
      refine go_dcallI (w_spec_l01In _ _ _ _ hr4) rfl rfl (Nat.le_of_ble_eq_true rfl) ?_
      rcases Bool.eq_false_or_eq_true r4 with hb5 | hb5
      · rw [ite_t hb5] at h
        obtain ⟨r6, hr6, h⟩ := ob h
        try simp only [hb2, hx3, hb5, Nat.reduceBEq, Nat.reduceMul, Nat.reduceAdd, Nat.reduceDiv, Int.reduceBEq, rules2, rulesX, rowsX]
        refine go_dcallI (w_spec_l01In _ _ _ _ hr6) rfl rfl (Nat.le_of_ble_eq_true rfl) ?_
        rcases Bool.eq_false_or_eq_true r6 with hb7 | hb7
        · rw [ite_t hb7] at h
          rcases Bool.eq_false_or_eq_true (decide ((0 : Int) < v1)) with hb8 | hb8
          · rw [ite_t hb8] at h
            obtain ⟨x9, hx9, h⟩ := ob h
            rcases Bool.eq_false_or_eq_true (decide (x3.From ≤ (IntKind.i64.wrap (x9.To + (1 : Int))))) with hb10 | hb10
            · rw [ite_t hb10] at h
              try simp only [hb2, hx3, hb5, hb7, hb8, hx9, hb10, Nat.reduceBEq, Nat.reduceMul, Nat.reduceAdd, Nat.reduceDiv, Int.reduceBEq, rules2, rulesX, rowsX]
              cases h
              exact ⟨⟨rfl, trivial⟩, rfl⟩
            · rw [ite_f hb10] at h
              try simp only [hb2, hx3, hb5, hb7, hb8, hx9, hb10, Nat.reduceBEq, Nat.reduceMul, Nat.reduceAdd, Nat.reduceDiv, Int.reduceBEq, rules2, rulesX, rowsX]
              refine ih _ _ h _ ?_
              try simp only [hb2, hx3, hb5, hb7, hb8, hx9, hb10, Nat.reduceBEq, Nat.reduceMul, Nat.reduceAdd, Nat.reduceDiv, Int.reduceBEq, rules2, rulesX, rowsX, List.map_nil]
          · rw [ite_f hb8] at h
            try simp only [hb2, hx3, hb5, hb7, hb8, Nat.reduceBEq, Nat.reduceMul, Nat.reduceAdd, Nat.reduceDiv, Int.reduceBEq, rules2, rulesX, rowsX]
            refine ih _ _ h _ ?_
            try simp only [hb2, hx3, hb5, hb7, hb8, Nat.reduceBEq, Nat.reduceMul, Nat.reduceAdd, Nat.reduceDiv, Int.reduceBEq, rules2, rulesX, rowsX, List.map_nil]
        · rw [ite_f hb7] at h
          try simp only [hb2, hx3, hb5, hb7, Nat.reduceBEq, Nat.reduceMul, Nat.reduceAdd, Nat.reduceDiv, Int.reduceBEq, rules2, rulesX, rowsX]
          cases h
          exact ⟨⟨rfl, trivial⟩, rfl⟩
      · rw [ite_f hb5] at h
        try simp only [hb2, hx3, hb5, Nat.reduceBEq, Nat.reduceMul, Nat.reduceAdd, Nat.reduceDiv, Int.reduceBEq, rules2, rulesX, rowsX]
        cases h
        exact ⟨⟨rfl, trivial⟩, rfl⟩
    · rw [ite_f hb2] at h
      try simp only [hσ, hb2, c_spec_WindowsOk_1, c_spec_WindowsOk_n1, Nat.reduceBEq, Nat.reduceMul, Nat.reduceAdd, Nat.reduceDiv, Int.reduceBEq, rules2, rulesX, rowsX]
      cases h
      exact ⟨⟨rfl, trivial⟩, rfl⟩
theorem e_spec_WindowsOk : entry Tryd.prog 23 = some (c_spec_WindowsOk.strip, [2], 41) := by kernel_rfl
theorem w_spec_WindowsOk (a0 : List XWindow) (r : Bool) (h : f_spec_WindowsOk a0 = some r) : FC Tryd.prog 23 [.sc (.sl (List.map XWindow.row a0))] [.sc (.v (.bool r))] := by
  unfold f_spec_WindowsOk at h
  refine FC_go (σ := ⟨[(0, vc (aL (List.map XWindow.row a0)))], [], []⟩) mixed e_spec_WindowsOk rfl rfl ?_
  simp only [c_spec_WindowsOk]
  try simp only [Nat.reduceBEq, Nat.reduceMul, Nat.reduceAdd, Nat.reduceDiv, Int.reduceBEq, rules2, rulesX, rowsX]
  refine w_spec_WindowsOk_1 _ _ _ _ h _ ?_
  try simp only [Nat.reduceBEq, Nat.reduceMul, Nat.reduceAdd, Nat.reduceDiv, Int.reduceBEq, rules2, rulesX, rowsX, List.map_nil]
/- 52: spec_Join -/
def c_spec_Join_2 : ACode := .seq (.reg [(none, .keep [1, 5, 7, 8, 9, 10] [] [])]) (.reg [(none, .mv 20 (S 5)), (none, .mv 21 (S 7)), (none, .bin 22 .add (S 20) (S 21)), (none, .mv 5 (S 22))])
def c_spec_Join_n2 : ACode := (.reg [(none, .bin 23 .add (S 10) (K 1)), (none, .mv 10 (S 23))])
def c_spec_Join_1 : ACode := .seq (.reg [(none, .keep [1, 5, 8, 9, 10] [] [])]) (.seq (.reg [(none, .bin 11 .lss (S 10) (S 9))]) (.seq (.cond (S 11) .skip (.exit 0)) (.seq (.block 1 (.seq (.reg [(none, .mv 12 (S 10)), (none, .iaddr 13 (S 8) (S 10) 1), (none, .load 14 (S 13) false 1), (none, .mv 6 (S 12)), (none, .mv 7 (S 14))]) (.seq (.seq (.reg [(none, .mv 15 (S 6)), (none, .bin 16 .gtr (S 15) (K 0))]) (.cond (S 16) (.reg [(none, .mv 17 (S 5)), (none, .mv 18 (S 1)), (none, .bin 19 .add (S 17) (S 18)), (none, .mv 5 (S 19))]) .skip)) c_spec_Join_2))) c_spec_Join_n2)))
def c_spec_Join_n1 : ACode := (.seq (.reg [(none, .mv 24 (S 5)), (none, .mv 4 (S 24))]) .ret)
def c_spec_Join : ACode := (.seq (.reg [(none, .mv 4 (KS []))]) (.seq (.reg [(none, .mv 5 (KS []))]) (.seq (.seq (.reg [(none, .mv 8 (S 0)), (none, .len 9 (S 8)), (none, .mv 10 (K 0))]) (.block 0 (.loop c_spec_Join_1))) c_spec_Join_n1)))
theorem w_spec_Join_2 (a1 : List UInt8) (x4 : List UInt8) (a0 : List (List UInt8)) (v2 : Int) (k_spec_Join_1 : (List UInt8) → Int → Option (List UInt8)) (hk_spec_Join_1 : ∀ (v1 : List UInt8) (v2 : Int) zr, k_spec_Join_1 v1 v2 = some zr → ∀ σ : St, σ.kept [1, 5, 8, 9, 10] [] [] = ⟨[(1, vc (aS a1)), (5, vc (aS v1)), (8, vc (aL (List.map rS a0))), (9, vc (aI (a0.length : Int))), (10, vc (aI v2))], [], []⟩ → go Tryd.prog (.code (.loop c_spec_Join_1) :: [.blk 0, .code c_spec_Join_n1]) (Ret [4] [.sc (.v (.str zr))]) .normal (some σ)) (v7 : List UInt8) (r : (List UInt8)) (h : f_spec_Join_2 a1 x4 a0 v2 k_spec_Join_1 v7 = some r) (σ : St) (hσ : σ.kept [1, 5, 7, 8, 9, 10] [] [] = ⟨[(1, vc (aS a1)), (5, vc (aS v7)), (7, vc (aS x4)), (8, vc (aL (List.map rS a0))), (9, vc (aI (a0.length : Int))), (10, vc (aI v2))], [], []⟩) : go Tryd.prog (.code c_spec_Join_2 :: [.blk 1, .code c_spec_Join_n2, .code (.loop c_spec_Join_1), .blk 0, .code c_spec_Join_n1]) (Ret [4] [.sc (.v (.str r))]) .normal (some σ) := by
  unfold f_spec_Join_2 at h
  obtain ⟨hg8, h⟩ := of_guard h
  try simp only [hσ, hg8, c_spec_Join_2, c_spec_Join_n2, Nat.reduceBEq, Nat.reduceMul, Nat.reduceAdd, Nat.reduceDiv, Int.reduceBEq, rules2, rulesX, rowsX]
  refine hk_spec_Join_1 _ _ _ h _ ?_
  try simp only [hg8, Nat.reduceBEq, Nat.reduceMul, Nat.reduceAdd, Nat.reduceDiv, Int.reduceBEq, rules2, rulesX, rowsX, List.map_nil]
theorem w_spec_Join_1 (a1 : List UInt8) (a0 : List (List UInt8)) : ∀ (n : Nat) (v1 : List UInt8) (v2 : Int) (r : (List UInt8)), f_spec_Join_1 a1 a0 n v1 v2 = some r → ∀ σ : St, σ.kept [1, 5, 8, 9, 10] [] [] = ⟨[(1, vc (aS a1)), (5, vc (aS v1)), (8, vc (aL (List.map rS a0))), (9, vc (aI (a0.length : Int))), (10, vc (aI v2))], [], []⟩ → go Tryd.prog (.code (.loop c_spec_Join_1) :: [.blk 0, .code c_spec_Join_n1]) (Ret [4] [.sc (.v (.str r))]) .normal (some σ) := by
  intro n
  induction n with
  | zero => intro _ _ r h; cases h
  | succ n ih =>
    intro v1 v2 r h σ hσ
    rw [f_spec_Join_1] at h
    refine go_round ?_
    rcases Bool.eq_false_or_eq_true (decide (v2 < (a0.length : Int))) with hb3 | hb3
    · rw [ite_t hb3] at h
      obtain ⟨x4, hx4, h⟩ := ob h
      rcases Bool.eq_false_or_eq_true (decide ((0 : Int) < v2)) with hb5 | hb5
      · rw [ite_t hb5] at h
        obtain ⟨hg6, h⟩ := of_guard h
        try simp only [hσ, hb3, hx4, hb5, hg6, c_spec_Join_1, Nat.reduceBEq, Nat.reduceMul, Nat.reduceAdd, Nat.reduceDiv, Int.reduceBEq, rules2, rulesX, rowsX]
        refine w_spec_Join_2 _ _ _ _ (f_spec_Join_1 a1 a0 n) ih _ _ h _ ?_
        try simp only [hb3, hx4, hb5, hg6, Nat.reduceBEq, Nat.reduceMul, Nat.reduceAdd, Nat.reduceDiv, Int.reduceBEq, rules2, rulesX, rowsX, List.map_nil]
      · rw [ite_f hb5] at h
        try simp only [hσ, hb3, hx4, hb5, c_spec_Join_1, Nat.reduceBEq, Nat.reduceMul, Nat.reduceAdd, Nat.reduceDiv, Int.reduceBEq, rules2, rulesX, rowsX]
        refine w_spec_Join_2 _ _ _ _ (f_spec_Join_1 a1 a0 n) ih _ _ h _ ?_
        try simp only [hb3, hx4, hb5, Nat.reduceBEq, Nat.reduceMul, Nat.reduceAdd, Nat.reduceDiv, Int.reduceBEq, rules2, rulesX, rowsX, List.map_nil]
    · rw [ite_f hb3] at h
      try simp only [hσ, hb3, c_spec_Join_1, c_spec_Join_n1, Nat.reduceBEq, Nat.reduceMul, Nat.reduceAdd, Nat.reduceDiv, Int.reduceBEq, rules2, rulesX, rowsX]
      cases h
      exact ⟨⟨rfl, trivial⟩, rfl⟩
theorem e_spec_Join : entry Tryd.prog 52 = some (c_spec_Join.strip, [4], 25) := by kernel_rfl
theorem w_spec_Join (a0 : List (List UInt8)) (a1 : List UInt8) (r : (List UInt8)) (h : f_spec_Join a0 a1 = some r) : FC Tryd.prog 52 [.sc (.sl (List.map rS a0)), .sc (.str a1)] [.sc (.v (.str r))] := by
  unfold f_spec_Join at h
  refine FC_go (σ := ⟨[(0, vc (aL (List.map rS a0))), (1, vc (aS a1))], [], []⟩) mixed e_spec_Join rfl rfl ?_
  simp only [c_spec_Join]
  try simp only [Nat.reduceBEq, Nat.reduceMul, Nat.reduceAdd, Nat.reduceDiv, Int.reduceBEq, rules2, rulesX, rowsX]
  refine w_spec_Join_1 _ _ _ _ _ _ h _ ?_
  try simp only [Nat.reduceBEq, Nat.reduceMul, Nat.reduceAdd, Nat.reduceDiv, Int.reduceBEq, rules2, rulesX, rowsX, List.map_nil]
/- 24: spec_FormatWindows -/
def c_spec_FormatWindows_1 : ACode := .seq (.reg [(none, .keep [3, 10, 11, 12] [] [576])]) (.seq (.reg [(none, .bin 13 .lss (S 12) (S 11))]) (.seq (.cond (S 13) .skip (.exit 0)) (.seq (.block 1 (.seq (.reg [(none, .iaddr 14 (S 10) (S 12) 2), (none, .load 15 (S 14) true 2), (none, .alloc 5 [aI 0, aI 0]), (none, .store (S 5) (S 15) 2)]) (.drw [(some [19, 23, 25], (none, .mv 16 (S 3))), (some [], (none, .faddr 17 (S 5) 0)), (some [], (none, .load 18 (S 17) false 1)), (some [], (none, .call 19 50 [(S 18)])), (some [23], (none, .bin 20 .add (S 19) (KS [45]))), (some [19], (none, .faddr 21 (S 5) 1)), (some [19], (none, .load 22 (S 21) false 1)), (some [], (none, .call 23 50 [(S 22)])), (some [], (none, .bin 24 .add (S 20) (S 23))), (some [], (none, .bslice 25 1 [.str []] 1 [(0, (S 24))])), (none, (none, .app 26 1 16 (S 16) (S 25))), (some [], (none, .mv 3 (S 26)))]))) (.reg [(none, .bin 27 .add (S 12) (K 1)), (none, .mv 12 (S 27))]))))
def c_spec_FormatWindows_n1 : ACode := (.seq (.seq (.reg [(none, .mv 28 (S 3)), (none, .len 29 (S 28)), (none, .bin 30 .eql (S 29) (K 0))]) (.cond (S 30) (.seq (.reg [(none, .mv 2 (KS [110, 111, 110, 101]))]) .ret) .skip)) (.seq (.reg [(none, .mv 31 (S 3)), (none, .call 32 52 [(S 31), (KS [32])]), (none, .mv 2 (S 32))]) .ret))
def c_spec_FormatWindows : ACode := (.seq (.reg [(none, .mv 2 (KS []))]) (.seq (.seq (.reg [(none, .mv 6 (S 0)), (none, .call 7 23 [(S 6)]), (none, .un 8 .not (S 7))]) (.cond (S 8) (.seq (.reg [(none, .mv 2 (KS []))]) .ret) .skip)) (.seq (.reg [(none, .bslice 9 1 [.str []] 0 []), (none, .mv 3 (S 9))]) (.seq (.seq (.reg [(none, .mv 10 (S 0)), (none, .len 11 (S 10)), (none, .mv 12 (K 0))]) (.block 0 (.loop c_spec_FormatWindows_1))) c_spec_FormatWindows_n1))))
theorem w_spec_FormatWindows_1 (a0 : List XWindow) : ∀ (n : Nat) (v3 : Int) (v4 : List (List UInt8)) (r : (List UInt8)), f_spec_FormatWindows_1 a0 n v3 v4 = some r → ∀ σ : St, σ.kept [3, 10, 11, 12] [] [576] = ⟨[(3, vc (.own 576)), (10, vc (aL (List.map XWindow.row a0))), (11, vc (aI (a0.length : Int))), (12, vc (aI v3))], [], [(576, 1, List.map rS v4)]⟩ → go Tryd.prog (.code (.loop c_spec_FormatWindows_1) :: [.blk 0, .code c_spec_FormatWindows_n1]) (Ret [2] [.sc (.v (.str r))]) .normal (some σ) := by
  intro n
  induction n with
  | zero => intro _ _ r h; cases h
  | succ n ih =>
    intro v3 v4 r h σ hσ
    rw [f_spec_FormatWindows_1] at h
    refine go_round ?_
    rcases Bool.eq_false_or_eq_true (decide (v3 < (a0.length : Int))) with hb5 | hb5
    · rw [ite_t hb5] at h
      obtain ⟨x6, hx6, h⟩ := ob h
      try simp only [hσ, hb5, hx6, c_spec_FormatWindows_1, Nat.reduceBEq, Nat.reduceMul, Nat.reduceAdd, Nat.reduceDiv, Int.reduceBEq, rules2, rulesX, rowsX]
      refine go_al rfl rfl ?_
      try simp only [hb5, hx6, Nat.reduceBEq, Nat.reduceMul, Nat.reduceAdd, Nat.reduceDiv, Int.reduceBEq, rules2, rulesX, rowsX]
      refine go_fr_of rfl ?_
      obtain ⟨r7, hr7, h⟩ := ob h
      try simp only [hb5, hx6, Nat.reduceBEq, Nat.reduceMul, Nat.reduceAdd, Nat.reduceDiv, Int.reduceBEq, rules2, rulesX, rowsX]
      refine go_dcallI (w_spec_FormatInt _ _ hr7) rfl rfl (Nat.le_of_ble_eq_true rfl) ?_
      obtain ⟨hg8, h⟩ := of_guard h
      obtain ⟨r9, hr9, h⟩ := ob h
      try simp only [hb5, hx6, hg8, Nat.reduceBEq, Nat.reduceMul, Nat.reduceAdd, Nat.reduceDiv, Int.reduceBEq, rules2, rulesX, rowsX]
      refine go_dcallI (w_spec_FormatInt _ _ hr9) rfl rfl (Nat.le_of_ble_eq_true rfl) ?_
      obtain ⟨hg10, h⟩ := of_guard h
      try simp only [hb5, hx6, hg8, hg10, Nat.reduceBEq, Nat.reduceMul, Nat.reduceAdd, Nat.reduceDiv, Int.reduceBEq, rules2, rulesX, rowsX]
      refine go_bsl (es := List.map rS ([((r7 ++ ([45] : List UInt8)) ++ r9)] : List (List UInt8))) rfl rfl ?_
      obtain ⟨hg11, h⟩ := of_guard h
      try simp only [List.cons_append, List.nil_append] at hg11
      try simp only [hb5, hx6, hg8, hg10, hg11, Nat.reduceBEq, Nat.reduceMul, Nat.reduceAdd, Nat.reduceDiv, Int.reduceBEq, rules2, rulesX, rowsX]
      refine go_fr_of rfl ?_
      try simp only [hb5, hx6, hg8, hg10, hg11, Nat.reduceBEq, Nat.reduceMul, Nat.reduceAdd, Nat.reduceDiv, Int.reduceBEq, rules2, rulesX, rowsX]
      refine ih _ _ _ h _ ?_
      try simp only [hb5, hx6, hg8, hg10, hg11, Nat.reduceBEq, Nat.reduceMul, Nat.reduceAdd, Nat.reduceDiv, Int.reduceBEq, rules2, rulesX, rowsX, List.map_nil]
    · rw [ite_f hb5] at h
      rcases Bool.eq_false_or_eq_true ((v4.length : Int) == (0 : Int)) with hb12 | hb12
      · rw [ite_t hb12] at h
        try simp only [hσ, hb5, hb12, c_spec_FormatWindows_1, c_spec_FormatWindows_n1, Nat.reduceBEq, Nat.reduceMul, Nat.reduceAdd, Nat.reduceDiv, Int.reduceBEq, rules2, rulesX, rowsX]
        cases h
        exact ⟨⟨rfl, trivial⟩, rfl⟩
      · rw [ite_f hb12] at h
        obtain ⟨r13, hr13, h⟩ := ob h
        try simp only [hσ, hb5, hb12, c_spec_FormatWindows_1, c_spec_FormatWindows_n1, Nat.reduceBEq, Nat.reduceMul, Nat.reduceAdd, Nat.reduceDiv, Int.reduceBEq, rules2, rulesX, rowsX]
        refine go_call (w_spec_Join _ _ _ hr13) rfl (flat_of rfl) rfl (Nat.le_of_ble_eq_true rfl) ?_
        try simp only [hb5, hb12, Nat.reduceBEq, Nat.reduceMul, Nat.reduceAdd, Nat.reduceDiv, Int.reduceBEq, rules2, rulesX, rowsX]
        cases h
        exact ⟨⟨rfl, trivial⟩, rfl⟩
theorem e_spec_FormatWindows : entry Tryd.prog 24 = some (c_spec_FormatWindows.strip, [2], 33) := by kernel_rfl
theorem w_spec_FormatWindows (a0 : List XWindow) (r : (List UInt8)) (h : f_spec_FormatWindows a0 = some r) : FC Tryd.prog 24 [.sc (.sl (List.map XWindow.row a0))] [.sc (.v (.str r))] := by
  unfold f_spec_FormatWindows at h
  refine FC_go (σ := ⟨[(0, vc (aL (List.map XWindow.row a0)))], [], []⟩) mixed e_spec_FormatWindows rfl rfl ?_
  simp only [c_spec_FormatWindows]
  obtain ⟨r1, hr1, h⟩ := ob h
  try simp only [Nat.reduceBEq, Nat.reduceMul, Nat.reduceAdd, Nat.reduceDiv, Int.reduceBEq, rules2, rulesX, rowsX]
  refine go_callI (w_spec_WindowsOk _ _ hr1) rfl rfl (Nat.le_of_ble_eq_true rfl) ?_
  rcases Bool.eq_false_or_eq_true r1 with hb2 | hb2
  · rw [ite_t hb2] at h
    try simp only [hb2, Nat.reduceBEq, Nat.reduceMul, Nat.reduceAdd, Nat.reduceDiv, Int.reduceBEq, rules2, rulesX, rowsX]
    refine go_bsl (es := List.map rS ([] : List (List UInt8))) rfl rfl ?_
    try simp only [hb2, Nat.reduceBEq, Nat.reduceMul, Nat.reduceAdd, Nat.reduceDiv, Int.reduceBEq, rules2, rulesX, rowsX]
    refine w_spec_FormatWindows_1 _ _ _ _ _ h _ ?_
    try simp only [hb2, Nat.reduceBEq, Nat.reduceMul, Nat.reduceAdd, Nat.reduceDiv, Int.reduceBEq, rules2, rulesX, rowsX, List.map_nil]
  · rw [ite_f hb2] at h
    try simp only [hb2, Nat.reduceBEq, Nat.reduceMul, Nat.reduceAdd, Nat.reduceDiv, Int.reduceBEq, rules2, rulesX, rowsX]
    cases h
    exact ⟨⟨rfl, trivial⟩, rfl⟩
/- 6: spec_ParseWindows -/
def c_spec_ParseWindows_2 : ACode := .seq (.reg [(none, .keep [0, 4, 8, 10, 17, 18, 19, 47] [] [768, 1088])]) (.cond (S 47) (.seq (.reg [(none, .mv 2 KN), (none, .mv 3 (KB false))]) .ret) .skip)
def c_spec_ParseWindows_n2 : ACode := (.reg [(none, .mv 48 (S 4)), (none, .mv 49 (S 8)), (none, .mv 50 (S 10)), (none, .build 51 [aI 0, aI 0] [(0, 1, (S 49)), (1, 1, (S 50))]), (none, .bslice 52 2 [.int .i64 0, .int .i64 0] 1 [(0, (S 51))]), (none, .app 53 2 16 (S 48) (S 52)), (none, .mv 4 (S 53))])
def c_spec_ParseWindows_n3 : ACode := (.reg [(none, .bin 54 .add (S 19) (K 1)), (none, .mv 19 (S 54))])
def c_spec_ParseWindows_1 : ACode := .seq (.reg [(none, .keep [0, 4, 17, 18, 19] [] [768, 1088])]) (.seq (.reg [(none, .bin 20 .lss (S 19) (S 18))]) (.seq (.cond (S 20) .skip (.exit 0)) (.seq (.block 1 (.seq (.reg [(none, .iaddr 21 (S 17) (S 19) 1), (none, .load 22 (S 21) false 1), (none, .mv 6 (S 22))]) (.seq (.reg [(none, .mv 23 (S 6)), (none, .call 24 21 [(S 23), (KS [45])]), (none, .mv 7 (S 24))]) (.seq (.seq (.reg [(none, .mv 25 (S 7)), (none, .len 26 (S 25)), (none, .bin 27 .neq (S 26) (K 2))]) (.cond (S 27) (.seq (.reg [(none, .mv 2 KN), (none, .mv 3 (KB false))]) .ret) .skip)) (.seq (.reg [(none, .mv 29 (S 7)), (none, .iaddr 30 (S 29) (K 0) 1), (none, .load 31 (S 30) false 1), (none, .call 32 22 [(S 31)]), (none, .mv 28 (S 32)), (none, .extr 33 (S 28) 0), (none, .extr 34 (S 28) 1), (none, .mv 8 (S 33)), (none, .mv 9 (S 34))]) (.seq (.reg [(none, .mv 36 (S 7)), (none, .iaddr 37 (S 36) (K 1) 1), (none, .load 38 (S 37) false 1), (none, .call 39 22 [(S 38)]), (none, .mv 35 (S 39)), (none, .extr 40 (S 35) 0), (none, .extr 41 (S 35) 1), (none, .mv 10 (S 40)), (none, .mv 11 (S 41))]) (.seq (.seq (.reg [(none, .mv 42 (S 9)), (none, .un 43 .not (S 42)), (none, .mv 44 (S 43)), (some (44, false), .mv 45 (S 11)), (some (44, false), .un 46 .not (S 45)), (none, .pick 47 (S 44) (KB true) (S 46))]) c_spec_ParseWindows_2) c_spec_ParseWindows_n2))))))) c_spec_ParseWindows_n3)))
def c_spec_ParseWindows_3 : ACode := .seq (.reg [(none, .keep [4, 63] [] [768])]) (.cond (S 63) (.seq (.reg [(none, .mv 2 KN), (none, .mv 3 (KB false))]) .ret) .skip)
def c_spec_ParseWindows_n4 : ACode := (.seq (.reg [(none, .mv 64 (S 4)), (none, .mv 2 (S 64)), (none, .mv 3 (KB true))]) .ret)
def c_spec_ParseWindows_n1 : ACode := (.seq (.seq (.reg [(none, .mv 55 (S 4)), (none, .call 56 23 [(S 55)]), (none, .un 57 .not (S 56)), (none, .mv 58 (S 57)), (some (58, false), .mv 59 (S 4)), (some (58, false), .call 60 24 [(S 59)]), (some (58, false), .mv 61 (S 0)), (some (58, false), .bin 62 .neq (S 60) (S 61)), (none, .pick 63 (S 58) (KB true) (S 62))]) c_spec_ParseWindows_3) c_spec_ParseWindows_n4)
def c_spec_ParseWindows : ACode := (.seq (.reg [(none, .mv 2 KN), (none, .mv 3 (KB false))]) (.seq (.reg [(none, .bslice 12 2 [.int .i64 0, .int .i64 0] 0 []), (none, .mv 4 (S 12))]) (.seq (.seq (.reg [(none, .mv 13 (S 0)), (none, .bin 14 .eql (S 13) (KS [110, 111, 110, 101]))]) (.cond (S 14) (.seq (.reg [(none, .mv 15 (S 4)), (none, .mv 2 (S 15)), (none, .mv 3 (KB true))]) .ret) .skip)) (.seq (.seq (.reg [(none, .mv 16 (S 0)), (none, .call 17 21 [(S 16), (KS [32])]), (none, .len 18 (S 17)), (none, .mv 19 (K 0))]) (.block 0 (.loop c_spec_ParseWindows_1))) c_spec_ParseWindows_n1))))
theorem w_spec_ParseWindows_2 (a0 : List UInt8) (r10 : Int × Bool) (r12 : Int × Bool) (r2 : (List (List UInt8))) (v3 : Int) (v4 : List XWindow) (k_spec_ParseWindows_1 : Int → (List XWindow) → Option ((List XWindow) × Bool)) (hk_spec_ParseWindows_1 : ∀ (v3 : Int) (v4 : List XWindow) zr, k_spec_ParseWindows_1 v3 v4 = some zr → ∀ σ : St, σ.kept [0, 4, 17, 18, 19] [] [768, 1088] = ⟨[(0, vc (aS a0)), (4, vc (.own 768)), (17, vc (.own 1088)), (18, vc (aI (r2.length : Int))), (19, vc (aI v3))], [], [(768, 2, List.map XWindow.row v4), (1088, 1, List.map rS r2)]⟩ → go Tryd.prog (.code (.loop c_spec_ParseWindows_1) :: [.blk 0, .code c_spec_ParseWindows_n1]) (Ret [2, 3] [.sc (.o 2 (List.map XWindow.row zr.1)), .sc (.v (.bool zr.2))]) .normal (some σ)) (v14 : Bool) (r : (List XWindow) × Bool) (h : f_spec_ParseWindows_2 a0 r10 r12 r2 v3 v4 k_spec_ParseWindows_1 v14 = some r) (σ : St) (hσ : σ.kept [0, 4, 8, 10, 17, 18, 19, 47] [] [768, 1088] = ⟨[(0, vc (aS a0)), (4, vc (.own 768)), (8, vc (aI r10.1)), (10, vc (aI r12.1)), (17, vc (.own 1088)), (18, vc (aI (r2.length : Int))), (19, vc (aI v3)), (47, vc (aB v14))], [], [(768, 2, List.map XWindow.row v4), (1088, 1, List.map rS r2)]⟩) : go Tryd.prog (.code c_spec_ParseWindows_2 :: [.code c_spec_ParseWindows_n2, .blk 1, .code c_spec_ParseWindows_n3, .code (.loop c_spec_ParseWindows_1), .blk 0, .code c_spec_ParseWindows_n1]) (Ret [2, 3] [.sc (.o 2 (List.map XWindow.row r.1)), .sc (.v (.bool r.2))]) .normal (some σ) := by
  unfold f_spec_ParseWindows_2 at h
  rcases Bool.eq_false_or_eq_true v14 with hb15 | hb15
  · rw [ite_t hb15] at h
    try simp only [hσ, hb15, c_spec_ParseWindows_2, Nat.reduceBEq, Nat.reduceMul, Nat.reduceAdd, Nat.reduceDiv, Int.reduceBEq, rules2, rulesX, rowsX]
    cases h
    exact ⟨⟨rfl, rfl, trivial⟩, rfl⟩
  · rw [ite_f hb15] at h
    try simp only [hσ, hb15, c_spec_ParseWindows_2, c_spec_ParseWindows_n2, Nat.reduceBEq, Nat.reduceMul, Nat.reduceAdd, Nat.reduceDiv, Int.reduceBEq, rules2, rulesX, rowsX]
    refine go_bsl (es := List.map XWindow.row ([(⟨r10.1, r12.1⟩ : XWindow)] : List XWindow)) rfl rfl ?_
    obtain ⟨hg16, h⟩ := of_guard h
    try simp only [hb15, hg16, c_spec_ParseWindows_n3, Nat.reduceBEq, Nat.reduceMul, Nat.reduceAdd, Nat.reduceDiv, Int.reduceBEq, rules2, rulesX, rowsX]
    refine hk_spec_ParseWindows_1 _ _ _ h _ ?_
    try simp only [hb15, hg16, Nat.reduceBEq, Nat.reduceMul, Nat.reduceAdd, Nat.reduceDiv, Int.reduceBEq, rules2, rulesX, rowsX, List.map_nil]
theorem w_spec_ParseWindows_3 (v4 : List XWindow) (v20 : Bool) (r : (List XWindow) × Bool) (h : f_spec_ParseWindows_3 v4 v20 = some r) (σ : St) (hσ : σ.kept [4, 63] [] [768] = ⟨[(4, vc (.own 768)), (63, vc (aB v20))], [], [(768, 2, List.map XWindow.row v4)]⟩) : go Tryd.prog (.code c_spec_ParseWindows_3 :: [.code c_spec_ParseWindows_n4]) (Ret [2, 3] [.sc (.o 2 (List.map XWindow.row r.1)), .sc (.v (.bool r.2))]) .normal (some σ) := by
  unfold f_spec_ParseWindows_3 at h
  rcases Bool.eq_false_or_eq_true v20 with hb21 | hb21
  · rw [ite_t hb21] at h
    try simp only [hσ, hb21, c_spec_ParseWindows_3, Nat.reduceBEq, Nat.reduceMul, Nat.reduceAdd, Nat.reduceDiv, Int.reduceBEq, rules2, rulesX, rowsX]
    cases h
    exact ⟨⟨rfl, rfl, trivial⟩, rfl⟩
  · rw [ite_f hb21] at h
    try simp only [hσ, hb21, c_spec_ParseWindows_3, c_spec_ParseWindows_n4, Nat.reduceBEq, Nat.reduceMul, Nat.reduceAdd, Nat.reduceDiv, Int.reduceBEq, rules2, rulesX, rowsX]
    cases h
    exact ⟨⟨rfl, rfl, trivial⟩, rfl⟩
theorem w_spec_ParseWindows_1 (a0 : List UInt8) (r2 : (List (List UInt8))) : ∀ (n : Nat) (v3 : Int) (v4 : List XWindow) (r : (List XWindow) × Bool), f_spec_ParseWindows_1 a0 r2 n v3 v4 = some r → ∀ σ : St, σ.kept [0, 4, 17, 18, 19] [] [768, 1088] = ⟨[(0, vc (aS a0)), (4, vc (.own 768)), (17, vc (.own 1088)), (18, vc (aI (r2.length : Int))), (19, vc (aI v3))], [], [(768, 2, List.map XWindow.row v4), (1088, 1, List.map rS r2)]⟩ → go Tryd.prog (.code (.loop c_spec_ParseWindows_1) :: [.blk 0, .code c_spec_ParseWindows_n1]) (Ret [2, 3] [.sc (.o 2 (List.map XWindow.row r.1)), .sc (.v (.bool r.2))]) .normal (some σ) := by
  intro n
  induction n with
  | zero => intro _ _ r h; cases h
  | succ n ih =>
    intro v3 v4 r h σ hσ
    rw [f_spec_ParseWindows_1] at h
    refine go_round ?_
    rcases Bool.eq_false_or_eq_true (decide (v3 < (r2.length : Int))) with hb5 | hb5
    · rw [ite_t hb5] at h
      obtain ⟨x6, hx6, h⟩ := ob h
      have hx6n := ix_get hx6
      obtain ⟨r7, hr7, h⟩ := ob h
      try simp only [hσ, hb5, hx6, hx6n, c_spec_ParseWindows_1, Nat.reduceBEq, Nat.reduceMul, Nat.reduceAdd, Nat.reduceDiv, Int.reduceBEq, rules2, rulesX, rowsX]
      refine go_callI (w_spec_SplitAny _ _ _ hr7) rfl rfl (Nat.le_of_ble_eq_true rfl) ?_
      rcases Bool.eq_false_or_eq_true ((r7.length : Int) != (2 : Int)) with hb8 | hb8
      · rw [ite_t hb8] at h
        try simp only [hb5, hx6, hx6n, hb8, Nat.reduceBEq, Nat.reduceMul, Nat.reduceAdd, Nat.reduceDiv, Int.reduceBEq, rules2, rulesX, rowsX]
        cases h
        exact ⟨⟨rfl, rfl, trivial⟩, rfl⟩
      · rw [ite_f hb8] at h
        obtain ⟨x9, hx9, h⟩ := ob h
        have hx9n := ix_get hx9
        obtain ⟨r10, hr10, h⟩ := ob h
        try simp only [hb5, hx6, hx6n, hb8, hx9, hx9n, Nat.reduceBEq, Nat.reduceMul, Nat.reduceAdd, Nat.reduceDiv, Int.reduceBEq, rules2, rulesX, rowsX]
        refine go_callI (w_spec_ParseInt _ _ hr10) rfl rfl (Nat.le_of_ble_eq_true rfl) ?_
        obtain ⟨x11, hx11, h⟩ := ob h
        have hx11n := ix_get hx11
        obtain ⟨r12, hr12, h⟩ := ob h
        try simp only [hb5, hx6, hx6n, hb8, hx9, hx9n, hx11, hx11n, Nat.reduceBEq, Nat.reduceMul, Nat.reduceAdd, Nat.reduceDiv, Int.reduceBEq, rules2, rulesX, rowsX]
        refine go_callI (w_spec_ParseInt _ _ hr12) rfl rfl (Nat.le_of_ble_eq_true rfl) ?_
        rcases Bool.eq_false_or_eq_true r10.2 with hb13 | hb13
        · rw [ite_t hb13] at h
          try simp only [hb5, hx6, hx6n, hb8, hx9, hx9n, hx11, hx11n, hb13, Nat.reduceBEq, Nat.reduceMul, Nat.reduceAdd, Nat.reduceDiv, Int.reduceBEq, rules2, rulesX, rowsX]
          refine w_spec_ParseWindows_2 _ _ _ _ _ _ (f_spec_ParseWindows_1 a0 r2 n) ih _ _ h _ ?_
          try simp only [hb5, hx6, hx6n, hb8, hx9, hx9n, hx11, hx11n, hb13, Nat.reduceBEq, Nat.reduceMul, Nat.reduceAdd, Nat.reduceDiv, Int.reduceBEq, rules2, rulesX, rowsX, List.map_nil]
        · rw [ite_f hb13] at h
          try simp only [hb5, hx6, hx6n, hb8, hx9, hx9n, hx11, hx11n, hb13, Nat.reduceBEq, Nat.reduceMul, Nat.reduceAdd, Nat.reduceDiv, Int.reduceBEq, rules2, rulesX, rowsX]
          refine w_spec_ParseWindows_2 _ _ _ _ _ _ (f_spec_ParseWindows_1 a0 r2 n) ih _ _ h _ ?_
          try simp only [hb5, hx6, hx6n, hb8, hx9, hx9n, hx11, hx11n, hb13, Nat.reduceBEq, Nat.reduceMul, Nat.reduceAdd, Nat.reduceDiv, Int.reduceBEq, rules2, rulesX, rowsX, List.map_nil]
    · rw [ite_f hb5] at h
      obtain ⟨r17, hr17, h⟩ := ob h
      try simp only [hσ, hb5, c_spec_ParseWindows_1, c_spec_ParseWindows_n1, Nat.reduceBEq, Nat.reduceMul, Nat.reduceAdd, Nat.reduceDiv, Int.reduceBEq, rules2, rulesX, rowsX]
      refine go_call (w_spec_WindowsOk _ _ hr17) rfl (flat_of rfl) rfl (Nat.le_of_ble_eq_true rfl) ?_
      rcases Bool.eq_false_or_eq_true r17 with hb18 | hb18
      · rw [ite_t hb18] at h
        obtain ⟨r19, hr19, h⟩ := ob h
        try simp only [hb5, hb18, Nat.reduceBEq, Nat.reduceMul, Nat.reduceAdd, Nat.reduceDiv, Int.reduceBEq, rules2, rulesX, rowsX]
        refine go_call (w_spec_FormatWindows _ _ hr19) rfl (flat_of rfl) rfl (Nat.le_of_ble_eq_true rfl) ?_
        try simp only [hb5, hb18, Nat.reduceBEq, Nat.reduceMul, Nat.reduceAdd, Nat.reduceDiv, Int.reduceBEq, rules2, rulesX, rowsX]
        refine w_spec_ParseWindows_3 _ _ _ h _ ?_
        try simp only [hb5, hb18, Nat.reduceBEq, Nat.reduceMul, Nat.reduceAdd, Nat.reduceDiv, Int.reduceBEq, rules2, rulesX, rowsX, List.map_nil]
      · rw [ite_f hb18] at h
        try simp only [hb5, hb18, Nat.reduceBEq, Nat.reduceMul, Nat.reduceAdd, Nat.reduceDiv, Int.reduceBEq, rules2, rulesX, rowsX]
        refine w_spec_ParseWindows_3 _ _ _ h _ ?_
        try simp only [hb5, hb18, Nat.reduceBEq, Nat.reduceMul, Nat.reduceAdd, Nat.reduceDiv, Int.reduceBEq, rules2, rulesX, rowsX, List.map_nil]
theorem e_spec_ParseWindows : entry Tryd.prog 6 = some (c_spec_ParseWindows.strip, [2, 3], 65) := by kernel_rfl
theorem w_spec_ParseWindows (a0 : List UInt8) (r : (List XWindow) × Bool) (h : f_spec_ParseWindows a0 = some r) : FC Tryd.prog 6 [.sc (.str a0)] [.sc (.o 2 (List.map XWindow.row r.1)), .sc (.v (.bool r.2))] := by
  unfold f_spec_ParseWindows at h
  refine FC_go (σ := ⟨[(0, vc (aS a0))], [], []⟩) mixed e_spec_ParseWindows rfl rfl ?_
  simp only [c_spec_ParseWindows]
  try simp only [Nat.reduceBEq, Nat.reduceMul, Nat.reduceAdd, Nat.reduceDiv, Int.reduceBEq, rules2, rulesX, rowsX]
  refine go_bsl (es := List.map XWindow.row ([] : List XWindow)) rfl rfl ?_
  rcases Bool.eq_false_or_eq_true (a0 == ([110, 111, 110, 101] : List UInt8)) with hb1 | hb1
  · rw [ite_t hb1] at h
    try simp only [hb1, Nat.reduceBEq, Nat.reduceMul, Nat.reduceAdd, Nat.reduceDiv, Int.reduceBEq, rules2, rulesX, rowsX]
    cases h
    exact ⟨⟨rfl, rfl, trivial⟩, rfl⟩
  · rw [ite_f hb1] at h
    obtain ⟨r2, hr2, h⟩ := ob h
    try simp only [hb1, Nat.reduceBEq, Nat.reduceMul, Nat.reduceAdd, Nat.reduceDiv, Int.reduceBEq, rules2, rulesX, rowsX]
    refine go_callI (w_spec_SplitAny _ _ _ hr2) rfl rfl (Nat.le_of_ble_eq_true rfl) ?_
    try simp only [hb1, Nat.reduceBEq, Nat.reduceMul, Nat.reduceAdd, Nat.reduceDiv, Int.reduceBEq, rules2, rulesX, rowsX]
    refine w_spec_ParseWindows_1 _ _ _ _ _ _ h _ ?_
    try simp only [hb1, Nat.reduceBEq, Nat.reduceMul, Nat.reduceAdd, Nat.reduceDiv, Int.reduceBEq, rules2, rulesX, rowsX, List.map_nil]
/- 25: impl_SplitAny -/
def c_impl_SplitAny_2 : ACode := .seq (.reg [(none, .keep [0, 1, 5, 6, 7] [] [512])]) (.reg [(none, .mv 13 (S 7)), (none, .bin 14 .add (S 13) (K 1)), (none, .mv 7 (S 14))])
def c_impl_SplitAny_1 : ACode := .seq (.reg [(none, .keep [0, 1, 5, 6, 7] [] [512])]) (.seq (.seq (.reg [(none, .mv 9 (S 7)), (none, .mv 10 (S 0)), (none, .slen 11 (S 10)), (none, .bin 12 .lss (S 9) (S 11))]) (.cond (S 12) .skip (.exit 0))) (.seq (.block 1 (.seq (.reg [(none, .mv 15 (S 1)), (none, .mv 16 (S 0)), (none, .mv 17 (S 7)), (none, .idx 18 (S 16) (S 17)), (none, .call 19 53 [(S 15), (S 18)]), (none, .bin 20 .geq (S 19) (K 0))]) (.cond (S 20) (.seq (.reg [(none, .mv 21 (S 5)), (none, .mv 22 (S 0)), (none, .mv 23 (S 6)), (none, .mv 24 (S 7)), (none, .sslc 25 (S 22) (some (S 23)) (some (S 24))), (none, .bslice 26 1 [.str []] 1 [(0, (S 25))]), (none, .app 27 1 16 (S 21) (S 26)), (none, .mv 5 (S 27))]) (.reg [(none, .mv 28 (S 7)), (none, .bin 29 .add (S 28) (K 1)), (none, .mv 6 (S 29))])) .skip))) c_impl_SplitAny_2))
def c_impl_SplitAny_n1 : ACode := (.seq (.reg [(none, .mv 30 (S 5)), (none, .mv 31 (S 0)), (none, .mv 32 (S 6)), (none, .sslc 33 (S 31) (some (S 32)) none), (none, .bslice 34 1 [.str []] 1 [(0, (S 33))]), (none, .app 35 1 16 (S 30) (S 34)), (none, .mv 4 (S 35))]) .ret)
def c_impl_SplitAny : ACode := (.seq (.reg [(none, .mv 4 KN)]) (.seq (.reg [(none, .bslice 8 1 [.str []] 0 []), (none, .mv 5 (S 8))]) (.seq (.reg [(none, .mv 6 (K 0))]) (.seq (.seq (.reg [(none, .mv 7 (K 0))]) (.block 0 (.loop c_impl_SplitAny_1))) c_impl_SplitAny_n1))))
theorem w_impl_SplitAny_2 (a0 : List UInt8) (a1 : List UInt8) (v2 : Int) (k_impl_SplitAny_1 : Int → Int → (List (List UInt8)) → Option (List (List UInt8))) (hk_impl_SplitAny_1 : ∀ (v1 : Int) (v2 : Int) (v3 : List (List UInt8)) zr, k_impl_SplitAny_1 v1 v2 v3 = some zr → ∀ σ : St, σ.kept [0, 1, 5, 6, 7] [] [512] = ⟨[(0, vc (aS a0)), (1, vc (aS a1)), (5, vc (.own 512)), (6, vc (aI v1)), (7, vc (aI v2))], [], [(512, 1, List.map rS v3)]⟩ → go Tryd.prog (.code (.loop c_impl_SplitAny_1) :: [.blk 0, .code c_impl_SplitAny_n1]) (Ret [4] [.sc (.o 1 (List.map rS zr))]) .normal (some σ)) (v10 : Int) (v11 : List (List UInt8)) (r : (List (List UInt8))) (h : f_impl_SplitAny_2 a0 a1 v2 k_impl_SplitAny_1 v10 v11 = some r) (σ : St) (hσ : σ.kept [0, 1, 5, 6, 7] [] [512] = ⟨[(0, vc (aS a0)), (1, vc (aS a1)), (5, vc (.own 512)), (6, vc (aI v10)), (7, vc (aI v2))], [], [(512, 1, List.map rS v11)]⟩) : go Tryd.prog (.code c_impl_SplitAny_2 :: [.code (.loop c_impl_SplitAny_1), .blk 0, .code c_impl_SplitAny_n1]) (Ret [4] [.sc (.o 1 (List.map rS r))]) .normal (some σ) := by
  unfold f_impl_SplitAny_2 at h
  try simp only [hσ, c_impl_SplitAny_2, Nat.reduceBEq, Nat.reduceMul, Nat.reduceAdd, Nat.reduceDiv, Int.reduceBEq, rules2, rulesX, rowsX]
  refine hk_impl_SplitAny_1 _ _ _ _ h _ ?_
  try simp only [Nat.reduceBEq, Nat.reduceMul, Nat.reduceAdd, Nat.reduceDiv, Int.reduceBEq, rules2, rulesX, rowsX, List.map_nil]
theorem w_impl_SplitAny_1 (a0 : List UInt8) (a1 : List UInt8) : ∀ (n : Nat) (v1 : Int) (v2 : Int) (v3 : List (List UInt8)) (r : (List (List UInt8))), f_impl_SplitAny_1 a0 a1 n v1 v2 v3 = some r → ∀ σ : St, σ.kept [0, 1, 5, 6, 7] [] [512] = ⟨[(0, vc (aS a0)), (1, vc (aS a1)), (5, vc (.own 512)), (6, vc (aI v1)), (7, vc (aI v2))], [], [(512, 1, List.map rS v3)]⟩ → go Tryd.prog (.code (.loop c_impl_SplitAny_1) :: [.blk 0, .code c_impl_SplitAny_n1]) (Ret [4] [.sc (.o 1 (List.map rS r))]) .normal (some σ) := by
  intro n
  induction n with
  | zero => intro _ _ _ r h; cases h
  | succ n ih =>
    intro v1 v2 v3 r h σ hσ
    rw [f_impl_SplitAny_1] at h
    refine go_round ?_
    rcases Bool.eq_false_or_eq_true (decide (v2 < (a0.length : Int))) with hb4 | hb4
    · rw [ite_t hb4] at h
      obtain ⟨b5, hb5, h⟩ := ob h
      obtain ⟨r6, hr6, h⟩ := ob h
      try simp only [hσ, hb4, hb5, c_impl_SplitAny_1, Nat.reduceBEq, Nat.reduceMul, Nat.reduceAdd, Nat.reduceDiv, Int.reduceBEq, rules2, rulesX, rowsX]
      refine go_callI (w_strings_IndexByte _ _ _ hr6) rfl rfl (Nat.le_of_ble_eq_true rfl) ?_
      rcases Bool.eq_false_or_eq_true (decide ((0 : Int) ≤ r6)) with hb7 | hb7
      · rw [ite_t hb7] at h
        obtain ⟨p8, hp8, h⟩ := ob h
        try simp only [hb4, hb5, hb7, hp8, Nat.reduceBEq, Nat.reduceMul, Nat.reduceAdd, Nat.reduceDiv, Int.reduceBEq, rules2, rulesX, rowsX]
        refine go_bsl (es := List.map rS ([((a0.drop p8.1).take (p8.2 - p8.1))] : List (List UInt8))) rfl rfl ?_
        obtain ⟨hg9, h⟩ := of_guard h
        try simp only [hb4, hb5, hb7, hp8, hg9, Nat.reduceBEq, Nat.reduceMul, Nat.reduceAdd, Nat.reduceDiv, Int.reduceBEq, rules2, rulesX, rowsX]
        refine w_impl_SplitAny_2 _ _ _ (f_impl_SplitAny_1 a0 a1 n) ih _ _ _ h _ ?_
        try simp only [hb4, hb5, hb7, hp8, hg9, Nat.reduceBEq, Nat.reduceMul, Nat.reduceAdd, Nat.reduceDiv, Int.reduceBEq, rules2, rulesX, rowsX, List.map_nil]
      · rw [ite_f hb7] at h
        try simp only [hb4, hb5, hb7, Nat.reduceBEq, Nat.reduceMul, Nat.reduceAdd, Nat.reduceDiv, Int.reduceBEq, rules2, rulesX, rowsX]
        refine w_impl_SplitAny_2 _ _ _ (f_impl_SplitAny_1 a0 a1 n) ih _ _ _ h _ ?_
        try simp only [hb4, hb5, hb7, Nat.reduceBEq, Nat.reduceMul, Nat.reduceAdd, Nat.reduceDiv, Int.reduceBEq, rules2, rulesX, rowsX, List.map_nil]
    · rw [ite_f hb4] at h
      obtain ⟨p12, hp12, h⟩ := ob h
      try simp only [hσ, hb4, hp12, c_impl_SplitAny_1, c_impl_SplitAny_n1, Nat.reduceBEq, Nat.reduceMul, Nat.reduceAdd, Nat.reduceDiv, Int.reduceBEq, rules2, rulesX, rowsX]
      refine go_bsl (es := List.map rS ([((a0.drop p12.1).take (p12.2 - p12.1))] : List (List UInt8))) rfl rfl ?_
      obtain ⟨hg13, h⟩ := of_guard h
      try simp only [hb4, hp12, hg13, Nat.reduceBEq, Nat.reduceMul, Nat.reduceAdd, Nat.reduceDiv, Int.reduceBEq, rules2, rulesX, rowsX]
      cases h
      exact ⟨⟨rfl, trivial⟩, rfl⟩
theorem e_impl_SplitAny : entry Tryd.prog 25 = some (c_impl_SplitAny.strip, [4], 36) := by kernel_rfl
theorem w_impl_SplitAny (a0 : List UInt8) (a1 : List UInt8) (r : (List (List UInt8))) (h : f_impl_SplitAny a0 a1 = some r) : FC Tryd.prog 25 [.sc (.str a0), .sc (.str a1)] [.sc (.o 1 (List.map rS r))] := by
  unfold f_impl_SplitAny at h
  refine FC_go (σ := ⟨[(0, vc (aS a0)), (1, vc (aS a1))], [], []⟩) mixed e_impl_SplitAny rfl rfl ?_
  simp only [c_impl_SplitAny]
  try simp only [Nat.reduceBEq, Nat.reduceMul, Nat.reduceAdd, Nat.reduceDiv, Int.reduceBEq, rules2, rulesX, rowsX]
  refine go_bsl (es := List.map rS ([] : List (List UInt8))) rfl rfl ?_
  try simp only [Nat.reduceBEq, Nat.reduceMul, Nat.reduceAdd, Nat.reduceDiv, Int.reduceBEq, rules2, rulesX, rowsX]
  refine w_impl_SplitAny_1 _ _ _ _ _ _ _ h _ ?_
  try simp only [Nat.reduceBEq, Nat.reduceMul, Nat.reduceAdd, Nat.reduceDiv, Int.reduceBEq, rules2, rulesX, rowsX, List.map_nil]
/- 26: impl_parseNumbers -/
def c_impl_parseNumbers_1 : ACode := .seq (.reg [(none, .keep [4, 10, 11, 12] [] [576])]) (.seq (.reg [(none, .bin 13 .lss (S 12) (S 11))]) (.seq (.cond (S 13) .skip (.exit 0)) (.seq (.block 1 (.seq (.reg [(none, .iaddr 14 (S 10) (S 12) 1), (none, .load 15 (S 14) false 1), (none, .mv 6 (S 15))]) (.seq (.reg [(none, .mv 17 (S 6)), (none, .call 18 54 [(S 17)]), (none, .mv 16 (S 18)), (none, .extr 19 (S 16) 0), (none, .extr 20 (S 16) 1), (none, .mv 7 (S 19)), (none, .mv 8 (S 20))]) (.seq (.seq (.reg [(none, .mv 21 (S 8)), (none, .un 22 .not (S 21))]) (.cond (S 22) (.seq (.reg [(none, .mv 2 KN), (none, .mv 3 (KB false))]) .ret) .skip)) (.reg [(none, .mv 23 (S 4)), (none, .mv 24 (S 7)), (none, .bslice 25 1 [.int .i64 0] 1 [(0, (S 24))]), (none, .app 26 1 8 (S 23) (S 25)), (none, .mv 4 (S 26))]))))) (.reg [(none, .bin 27 .add (S 12) (K 1)), (none, .mv 12 (S 27))]))))
def c_impl_parseNumbers_n1 : ACode := (.seq (.reg [(none, .mv 28 (S 4)), (none, .mv 2 (S 28)), (none, .mv 3 (KB true))]) .ret)
def c_impl_parseNumbers : ACode := (.seq (.reg [(none, .mv 2 KN), (none, .mv 3 (KB false))]) (.seq (.reg [(none, .bslice 9 1 [.int .i64 0] 0 []), (none, .mv 4 (S 9))]) (.seq (.seq (.reg [(none, .mv 10 (S 0)), (none, .len 11 (S 10)), (none, .mv 12 (K 0))]) (.block 0 (.loop c_impl_parseNumbers_1))) c_impl_parseNumbers_n1)))
theorem w_impl_parseNumbers_1 (a0 : List (List UInt8)) : ∀ (n : Nat) (v1 : Int) (v2 : List Int) (r : (List Int) × Bool), f_impl_parseNumbers_1 a0 n v1 v2 = some r → ∀ σ : St, σ.kept [4, 10, 11, 12] [] [576] = ⟨[(4, vc (.own 576)), (10, vc (aL (List.map rS a0))), (11, vc (aI (a0.length : Int))), (12, vc (aI v1))], [], [(576, 1, List.map rI v2)]⟩ → go Tryd.prog (.code (.loop c_impl_parseNumbers_1) :: [.blk 0, .code c_impl_parseNumbers_n1]) (Ret [2, 3] [.sc (.o 1 (List.map rI r.1)), .sc (.v (.bool r.2))]) .normal (some σ) := by
  intro n
  induction n with
  | zero => intro _ _ r h; cases h
  | succ n ih =>
    intro v1 v2 r h σ hσ
    rw [f_impl_parseNumbers_1] at h
    refine go_round ?_
    rcases Bool.eq_false_or_eq_true (decide (v1 < (a0.length : Int))) with hb3 | hb3
    · rw [ite_t hb3] at h
      obtain ⟨x4, hx4, h⟩ := ob h
      obtain ⟨r5, hr5, h⟩ := ob h
      try simp only [hσ, hb3, hx4, c_impl_parseNumbers_1, Nat.reduceBEq, Nat.reduceMul, Nat.reduceAdd, Nat.reduceDiv, Int.reduceBEq, rules2, rulesX, rowsX]
      refine go_callI (w_impl_ParseInt _ _ hr5) rfl rfl (Nat.le_of_ble_eq_true rfl) ?_
      rcases Bool.eq_false_or_eq_true r5.2 with hb6 | hb6
      · rw [ite_t hb6] at h
        try simp only [hb3, hx4, hb6, Nat.reduceBEq, Nat.reduceMul, Nat.reduceAdd, Nat.reduceDiv, Int.reduceBEq, rules2, rulesX, rowsX]
        refine go_bsl (es := List.map rI ([r5.1] : List Int)) rfl rfl ?_
        obtain ⟨hg7, h⟩ := of_guard h
        try simp only [hb3, hx4, hb6, hg7, Nat.reduceBEq, Nat.reduceMul, Nat.reduceAdd, Nat.reduceDiv, Int.reduceBEq, rules2, rulesX, rowsX]
        refine ih _ _ _ h _ ?_
        try simp only [hb3, hx4, hb6, hg7, Nat.reduceBEq, Nat.reduceMul, Nat.reduceAdd, Nat.reduceDiv, Int.reduceBEq, rules2, rulesX, rowsX, List.map_nil]
      · rw [ite_f hb6] at h
        try simp only [hb3, hx4, hb6, Nat.reduceBEq, Nat.reduceMul, Nat.reduceAdd, Nat.reduceDiv, Int.reduceBEq, rules2, rulesX, rowsX]
        cases h
        exact ⟨⟨rfl, rfl, trivial⟩, rfl⟩
    · rw [ite_f hb3] at h
      try simp only [hσ, hb3, c_impl_parseNumbers_1, c_impl_parseNumbers_n1, Nat.reduceBEq, Nat.reduceMul, Nat.reduceAdd, Nat.reduceDiv, Int.reduceBEq, rules2, rulesX, rowsX]
      cases h
      exact ⟨⟨rfl, rfl, trivial⟩, rfl⟩
theorem e_impl_parseNumbers : entry Tryd.prog 26 = some (c_impl_parseNumbers.strip, [2, 3], 29) := by kernel_rfl
theorem w_impl_parseNumbers (a0 : List (List UInt8)) (r : (List Int) × Bool) (h : f_impl_parseNumbers a0 = some r) : FC Tryd.prog 26 [.sc (.sl (List.map rS a0))] [.sc (.o 1 (List.map rI r.1)), .sc (.v (.bool r.2))] := by
  unfold f_impl_parseNumbers at h
  refine FC_go (σ := ⟨[(0, vc (aL (List.map rS a0)))], [], []⟩) mixed e_impl_parseNumbers rfl rfl ?_
  simp only [c_impl_parseNumbers]
  try simp only [Nat.reduceBEq, Nat.reduceMul, Nat.reduceAdd, Nat.reduceDiv, Int.reduceBEq, rules2, rulesX, rowsX]
  refine go_bsl (es := List.map rI ([] : List Int)) rfl rfl ?_
  try simp only [Nat.reduceBEq, Nat.reduceMul, Nat.reduceAdd, Nat.reduceDiv, Int.reduceBEq, rules2, rulesX, rowsX]
  refine w_impl_parseNumbers_1 _ _ _ _ _ h _ ?_
  try simp only [Nat.reduceBEq, Nat.reduceMul, Nat.reduceAdd, Nat.reduceDiv, Int.reduceBEq, rules2, rulesX, rowsX, List.map_nil]
/- 27: impl_WindowsOk -/
def c_impl_WindowsOk_1 : ACode := .seq (.reg [(none, .keep [0, 5, 6, 7] [] [])]) (.seq (.reg [(none, .bin 8 .lss (S 7) (S 6))]) (.seq (.cond (S 8) .skip (.exit 0)) (.seq (.block 1 (.seq (.reg [(none, .mv 9 (S 7)), (none, .iaddr 10 (S 5) (S 7) 2), (none, .load 11 (S 10) true 2), (none, .alloc 4 [aI 0, aI 0]), (none, .mv 3 (S 9)), (none, .store (S 4) (S 11) 2)]) (.seq (.drw [(some [], (none, .faddr 12 (S 4) 0)), (some [], (none, .load 13 (S 12) false 1)), (some [], (none, .bin 14 .lss (S 13) (K 0))), (some [], (none, .mv 15 (S 14))), (some [], (some (15, false), .faddr 16 (S 4) 0)), (some [], (some (15, false), .load 17 (S 16) false 1)), (some [], (some (15, false), .faddr 18 (S 4) 1)), (some [], (some (15, false), .load 19 (S 18) false 1)), (some [], (some (15, false), .bin 20 .gtr (S 17) (S 19))), (some [], (none, .pick 21 (S 15) (KB true) (S 20))), (some [], (none, .mv 22 (S 21))), (some [], (some (22, false), .faddr 23 (S 4) 1)), (some [], (some (22, false), .load 24 (S 23) false 1)), (some [], (some (22, false), .bin 25 .gtr (S 24) (K 2880))), (some [], (none, .pick 26 (S 22) (KB true) (S 25))), (some [], (none, .mv 27 (S 26))), (some [], (some (27, false), .mv 28 (S 3))), (some [], (some (27, false), .bin 29 .gtr (S 28) (K 0))), (some [], (some (27, false), .mv 30 (S 29))), (some [], (some (30, true), .mv 31 (S 0))), (some [], (some (30, true), .mv 32 (S 3))), (some [], (some (30, true), .bin 33 .sub (S 32) (K 1))), (some [], (some (30, true), .iaddr 34 (S 31) (S 33) 2)), (some [], (some (30, true), .faddr 35 (S 34) 1)), (some [], (some (30, true), .load 36 (S 35) false 1)), (some [], (some (30, true), .bin 37 .add (S 36) (K 1))), (some [], (some (30, true), .faddr 38 (S 4) 0)), (some [], (some (30, true), .load 39 (S 38) false 1)), (some [], (some (30, true), .bin 40 .geq (S 37) (S 39))), (some [], (some (27, false), .pick 41 (S 30) (S 40) (KB false))), (some [], (none, .pick 42 (S 27) (KB true) (S 41)))]) (.cond (S 42) (.seq (.reg [(none, .mv 2 (KB false))]) .ret) .skip)))) (.reg [(none, .bin 43 .add (S 7) (K 1)), (none, .mv 7 (S 43))]))))
def c_impl_WindowsOk_n1 : ACode := (.seq (.reg [(none, .mv 2 (KB true))]) .ret)
def c_impl_WindowsOk : ACode := (.seq (.reg [(none, .mv 2 (KB false))]) (.seq (.seq (.reg [(none, .mv 5 (S 0)), (none, .len 6 (S 5)), (none, .mv 7 (K 0))]) (.block 0 (.loop c_impl_WindowsOk_1))) c_impl_WindowsOk_n1))
theorem w_impl_WindowsOk_1 (a0 : List XWindow) : ∀ (n : Nat) (v1 : Int) (r : Bool), f_impl_WindowsOk_1 a0 n v1 = some r → ∀ σ : St, σ.kept [0, 5, 6, 7] [] [] = ⟨[(0, vc (aL (List.map XWindow.row a0))), (5, vc (aL (List.map XWindow.row a0))), (6, vc (aI (a0.length : Int))), (7, vc (aI v1))], [], []⟩ → go Tryd.prog (.code (.loop c_impl_WindowsOk_1) :: [.blk 0, .code c_impl_WindowsOk_n1]) (Ret [2] [.sc (.v (.bool r))]) .normal (some σ) := by
  intro n
  induction n with
  | zero => intro _ r h; cases h
  | succ n ih =>
    intro v1 r h σ hσ
    rw [f_impl_WindowsOk_1] at h
    refine go_round ?_
    rcases Bool.eq_false_or_eq_true (decide (v1 < (a0.length : Int))) with hb2 | hb2
    · rw [ite_t hb2] at h
      obtain ⟨x3, hx3, h⟩ := ob h
      try simp only [hσ, hb2, hx3, c_impl_WindowsOk_1, Nat.reduceBEq, Nat.reduceMul, Nat.reduceAdd, Nat.reduceDiv, Int.reduceBEq, rules2, rulesX, rowsX]
      refine go_al rfl rfl ?_
      try simp only [hb2, hx3, Nat.reduceBEq, Nat.reduceMul, Nat.reduceAdd, Nat.reduceDiv, Int.reduceBEq, rules2, rulesX, rowsX]
      refine go_fr_of rfl ?_
      rcases Bool.eq_false_or_eq_true (decide (x3.From < (0 : Int))) with hb4 | hb4
      · rw [ite_t hb4] at h
        try simp only [hb2, hx3, hb4, Nat.reduceBEq, Nat.reduceMul, Nat.reduceAdd, Nat.reduceDiv, Int.reduceBEq, rules2, rulesX, rowsX]
        cases h
        exact ⟨⟨rfl, trivial⟩, rfl⟩
      · rw [ite_f hb4] at h
        rcases Bool.eq_false_or_eq_true (decide (x3.To < x3.From)) with hb5 | hb5
        · rw [ite_t hb5] at h
          try simp only [hb2, hx3, hb4, hb5, Nat.reduceBEq, Nat.reduceMul, Nat.reduceAdd, Nat.reduceDiv, Int.reduceBEq, rules2, rulesX, rowsX]
          cases h
          exact ⟨⟨rfl, trivial⟩, rfl⟩
        · rw [ite_f hb5] at h
          rcases Bool.eq_false_or_eq_true (decide ((2880 : Int) < x3.To)) with hb6 | hb6
          · rw [ite_t hb6] at h
            try simp only [hb2, hx3, hb4, hb5, hb6, Nat.reduceBEq, Nat.reduceMul, Nat.reduceAdd, Nat.reduceDiv, Int.reduceBEq, rules2, rulesX, rowsX]
            cases h
            exact ⟨⟨rfl, trivial⟩, rfl⟩
          · rw [ite_f hb6] at h
            rcases Bool.eq_false_or_eq_true (decide ((0 : Int) < v1)) with hb7 | hb7
            · rw [ite_t hb7] at h
              obtain ⟨x8, hx8, h⟩ := ob h
              rcases Bool.eq_false_or_eq_true (decide (x3.From ≤ (IntKind.i64.wrap (x8.To + (1 : Int))))) with hb9 | hb9
              · rw [ite_t hb9] at h
                try simp only [hb2, hx3, hb4, hb5, hb6, hb7, hx8, hb9, Nat.reduceBEq, Nat.reduceMul, Nat.reduceAdd, Nat.reduceDiv, Int.reduceBEq, rules2, rulesX, rowsX]
                cases h
                exact ⟨⟨rfl, trivial⟩, rfl⟩
              · rw [ite_f hb9] at h
                try simp only [hb2, hx3, hb4, hb5, hb6, hb7, hx8, hb9, Nat.reduceBEq, Nat.reduceMul, Nat.reduceAdd, Nat.reduceDiv, Int.reduceBEq, rules2, rulesX, rowsX]
                refine ih _ _ h _ ?_
                try simp only [hb2, hx3, hb4, hb5, hb6, hb7, hx8, hb9, Nat.reduceBEq, Nat.reduceMul, Nat.reduceAdd, Nat.reduceDiv, Int.reduceBEq, rules2, rulesX, rowsX, List.map_nil]
            · rw [ite_f hb7] at h
              try simp only [hb2, hx3, hb4, hb5, hb6, hb7, Nat.reduceBEq, Nat.reduceMul, Nat.reduceAdd, Nat.reduceDiv, Int.reduceBEq, rules2, rulesX, rowsX]
              refine ih _ _ h _ ?_
              try simp only [hb2, hx3, hb4, hb5, hb6, hb7, Nat.reduceBEq, Nat.reduceMul, Nat.reduceAdd, Nat.reduceDiv, Int.reduceBEq, rules2, rulesX, rowsX, List.map_nil]
    · rw [ite_f hb2] at h
      try simp only [hσ, hb2, c_impl_WindowsOk_1, c_impl_WindowsOk_n1, Nat.reduceBEq, Nat.reduceMul, Nat.reduceAdd, Nat.reduceDiv, Int.reduceBEq, rules2, rulesX, rowsX]
      cases h
      exact ⟨⟨rfl, trivial⟩, rfl⟩
theorem e_impl_WindowsOk : entry Tryd.prog 27 = some (c_impl_WindowsOk.strip, [2], 44) := by kernel_rfl
theorem w_impl_WindowsOk (a0 : List XWindow) (r : Bool) (h : f_impl_WindowsOk a0 = some r) : FC Tryd.prog 27 [.sc (.sl (List.map XWindow.row a0))] [.sc (.v (.bool r))] := by
  unfold f_impl_WindowsOk at h
  refine FC_go (σ := ⟨[(0, vc (aL (List.map XWindow.row a0)))], [], []⟩) mixed e_impl_WindowsOk rfl rfl ?_
  simp only [c_impl_WindowsOk]
  try simp only [Nat.reduceBEq, Nat.reduceMul, Nat.reduceAdd, Nat.reduceDiv, Int.reduceBEq, rules2, rulesX, rowsX]
  refine w_impl_WindowsOk_1 _ _ _ _ h _ ?_
  try simp only [Nat.reduceBEq, Nat.reduceMul, Nat.reduceAdd, Nat.reduceDiv, Int.reduceBEq, rules2, rulesX, rowsX, List.map_nil]
/- 55: impl_FormatInt -/
def c_impl_FormatInt : ACode := (.seq (.reg [(none, .mv 2 (KS []))]) (.seq (.reg [(none, .mv 3 (S 0)), (none, .call 4 77 [(S 3)]), (none, .mv 2 (S 4))]) .ret))
theorem e_impl_FormatInt : entry Tryd.prog 55 = some (c_impl_FormatInt.strip, [2], 5) := by kernel_rfl
theorem w_impl_FormatInt (a0 : Int) (r : (List UInt8)) (h : f_impl_FormatInt a0 = some r) : FC Tryd.prog 55 [.sc (.int .i64 a0)] [.sc (.v (.str r))] := by
  unfold f_impl_FormatInt at h
  refine FC_go (σ := ⟨[(0, vc (aI a0))], [], []⟩) mixed e_impl_FormatInt rfl rfl ?_
  simp only [c_impl_FormatInt]
  obtain ⟨r1, hr1, h⟩ := ob h
  try simp only [Nat.reduceBEq, Nat.reduceMul, Nat.reduceAdd, Nat.reduceDiv, Int.reduceBEq, rules2, rulesX, rowsX]
  refine go_callI (w_strconv_Itoa _ _ hr1) rfl rfl (Nat.le_of_ble_eq_true rfl) ?_
  try simp only [Nat.reduceBEq, Nat.reduceMul, Nat.reduceAdd, Nat.reduceDiv, Int.reduceBEq, rules2, rulesX, rowsX]
  cases h
  exact ⟨⟨rfl, trivial⟩, rfl⟩
/- 56: impl_Join -/
def c_impl_Join : ACode := (.seq (.reg [(none, .mv 4 (KS []))]) (.seq (.reg [(none, .mv 5 (S 0)), (none, .mv 6 (S 1)), (none, .call 7 78 [(S 5), (S 6)]), (none, .mv 4 (S 7))]) .ret))
theorem e_impl_Join : entry Tryd.prog 56 = some (c_impl_Join.strip, [4], 8) := by kernel_rfl
theorem w_impl_Join (a0 : List (List UInt8)) (a1 : List UInt8) (r : (List UInt8)) (h : f_impl_Join a0 a1 = some r) : FC Tryd.prog 56 [.sc (.sl (List.map rS a0)), .sc (.str a1)] [.sc (.v (.str r))] := by
  unfold f_impl_Join at h
  refine FC_go (σ := ⟨[(0, vc (aL (List.map rS a0))), (1, vc (aS a1))], [], []⟩) mixed e_impl_Join rfl rfl ?_
  simp only [c_impl_Join]
  obtain ⟨r1, hr1, h⟩ := ob h
  try simp only [Nat.reduceBEq, Nat.reduceMul, Nat.reduceAdd, Nat.reduceDiv, Int.reduceBEq, rules2, rulesX, rowsX]
  refine go_callI (w_strings_Join _ _ _ hr1) rfl rfl (Nat.le_of_ble_eq_true rfl) ?_
  try simp only [Nat.reduceBEq, Nat.reduceMul, Nat.reduceAdd, Nat.reduceDiv, Int.reduceBEq, rules2, rulesX, rowsX]
  cases h
  exact ⟨⟨rfl, trivial⟩, rfl⟩
/- 28: impl_FormatWindows -/
def c_impl_FormatWindows_1 : ACode := .seq (.reg [(none, .keep [3, 13, 14, 15] [] [768])]) (.seq (.reg [(none, .bin 16 .lss (S 15) (S 14))]) (.seq (.cond (S 16) .skip (.exit 0)) (.seq (.block 1 (.seq (.reg [(none, .iaddr 17 (S 13) (S 15) 2), (none, .load 18 (S 17) true 2), (none, .alloc 5 [aI 0, aI 0]), (none, .store (S 5) (S 18) 2)]) (.drw [(some [22, 26, 28], (none, .mv 19 (S 3))), (some [], (none, .faddr 20 (S 5) 0)), (some [], (none, .load 21 (S 20) false 1)), (some [], (none, .call 22 55 [(S 21)])), (some [26], (none, .bin 23 .add (S 22) (KS [45]))), (some [22], (none, .faddr 24 (S 5) 1)), (some [22], (none, .load 25 (S 24) false 1)), (some [], (none, .call 26 55 [(S 25)])), (some [], (none, .bin 27 .add (S 23) (S 26))), (some [], (none, .bslice 28 1 [.str []] 1 [(0, (S 27))])), (none, (none, .app 29 1 16 (S 19) (S 28))), (some [], (none, .mv 3 (S 29)))]))) (.reg [(none, .bin 30 .add (S 15) (K 1)), (none, .mv 15 (S 30))]))))
def c_impl_FormatWindows_n1 : ACode := (.seq (.reg [(none, .mv 31 (S 3)), (none, .call 32 56 [(S 31), (KS [32])]), (none, .mv 2 (S 32))]) .ret)
def c_impl_FormatWindows : ACode := (.seq (.reg [(none, .mv 2 (KS []))]) (.seq (.seq (.reg [(none, .mv 6 (S 0)), (none, .call 7 27 [(S 6)]), (none, .un 8 .not (S 7))]) (.cond (S 8) (.seq (.reg [(none, .mv 2 (KS []))]) .ret) .skip)) (.seq (.seq (.reg [(none, .mv 9 (S 0)), (none, .len 10 (S 9)), (none, .bin 11 .eql (S 10) (K 0))]) (.cond (S 11) (.seq (.reg [(none, .mv 2 (KS [110, 111, 110, 101]))]) .ret) .skip)) (.seq (.reg [(none, .bslice 12 1 [.str []] 0 []), (none, .mv 3 (S 12))]) (.seq (.seq (.reg [(none, .mv 13 (S 0)), (none, .len 14 (S 13)), (none, .mv 15 (K 0))]) (.block 0 (.loop c_impl_FormatWindows_1))) c_impl_FormatWindows_n1)))))
theorem w_impl_FormatWindows_1 (a0 : List XWindow) : ∀ (n : Nat) (v4 : Int) (v5 : List (List UInt8)) (r : (List UInt8)), f_impl_FormatWindows_1 a0 n v4 v5 = some r → ∀ σ : St, σ.kept [3, 13, 14, 15] [] [768] = ⟨[(3, vc (.own 768)), (13, vc (aL (List.map XWindow.row a0))), (14, vc (aI (a0.length : Int))), (15, vc (aI v4))], [], [(768, 1, List.map rS v5)]⟩ → go Tryd.prog (.code (.loop c_impl_FormatWindows_1) :: [.blk 0, .code c_impl_FormatWindows_n1]) (Ret [2] [.sc (.v (.str r))]) .normal (some σ) := by
  intro n
  induction n with
  | zero => intro _ _ r h; cases h
  | succ n ih =>
    intro v4 v5 r h σ hσ
    rw [f_impl_FormatWindows_1] at h
    refine go_round ?_
    rcases Bool.eq_false_or_eq_true (decide (v4 < (a0.length : Int))) with hb6 | hb6
    · rw [ite_t hb6] at h
      obtain ⟨x7, hx7, h⟩ := ob h
      try simp only [hσ, hb6, hx7, c_impl_FormatWindows_1, Nat.reduceBEq, Nat.reduceMul, Nat.reduceAdd, Nat.reduceDiv, Int.reduceBEq, rules2, rulesX, rowsX]
      refine go_al rfl rfl ?_
      try simp only [hb6, hx7, Nat.reduceBEq, Nat.reduceMul, Nat.reduceAdd, Nat.reduceDiv, Int.reduceBEq, rules2, rulesX, rowsX]
      refine go_fr_of rfl ?_
      obtain ⟨r8, hr8, h⟩ := ob h
      try simp only [hb6, hx7, Nat.reduceBEq, Nat.reduceMul, Nat.reduceAdd, Nat.reduceDiv, Int.reduceBEq, rules2, rulesX, rowsX]
      refine go_dcallI (w_impl_FormatInt _ _ hr8) rfl rfl (Nat.le_of_ble_eq_true rfl) ?_
      obtain ⟨hg9, h⟩ := of_guard h
      obtain ⟨r10, hr10, h⟩ := ob h
      try simp only [hb6, hx7, hg9, Nat.reduceBEq, Nat.reduceMul, Nat.reduceAdd, Nat.reduceDiv, Int.reduceBEq, rules2, rulesX, rowsX]
      refine go_dcallI (w_impl_FormatInt _ _ hr10) rfl rfl (Nat.le_of_ble_eq_true rfl) ?_
      obtain ⟨hg11, h⟩ := of_guard h
      try simp only [hb6, hx7, hg9, hg11, Nat.reduceBEq, Nat.reduceMul, Nat.reduceAdd, Nat.reduceDiv, Int.reduceBEq, rules2, rulesX, rowsX]
      refine go_bsl (es := List.map rS ([((r8 ++ ([45] : List UInt8)) ++ r10)] : List (List UInt8))) rfl rfl ?_
      obtain ⟨hg12, h⟩ := of_guard h
      try simp only [List.cons_append, List.nil_append] at hg12
      try simp only [hb6, hx7, hg9, hg11, hg12, Nat.reduceBEq, Nat.reduceMul, Nat.reduceAdd, Nat.reduceDiv, Int.reduceBEq, rules2, rulesX, rowsX]
      refine go_fr_of rfl ?_
      try simp only [hb6, hx7, hg9, hg11, hg12, Nat.reduceBEq, Nat.reduceMul, Nat.reduceAdd, Nat.reduceDiv, Int.reduceBEq, rules2, rulesX, rowsX]
      refine ih _ _ _ h _ ?_
      try simp only [hb6, hx7, hg9, hg11, hg12, Nat.reduceBEq, Nat.reduceMul, Nat.reduceAdd, Nat.reduceDiv, Int.reduceBEq, rules2, rulesX, rowsX, List.map_nil]
    · rw [ite_f hb6] at h
      obtain ⟨r13, hr13, h⟩ := ob h
      try simp only [hσ, hb6, c_impl_FormatWindows_1, c_impl_FormatWindows_n1, Nat.reduceBEq, Nat.reduceMul, Nat.reduceAdd, Nat.reduceDiv, Int.reduceBEq, rules2, rulesX, rowsX]
      refine go_call (w_impl_Join _ _ _ hr13) rfl (flat_of rfl) rfl (Nat.le_of_ble_eq_true rfl) ?_
      try simp only [hb6, Nat.reduceBEq, Nat.reduceMul, Nat.reduceAdd, Nat.reduceDiv, Int.reduceBEq, rules2, rulesX, rowsX]
      cases h
      exact ⟨⟨rfl, trivial⟩, rfl⟩
theorem e_impl_FormatWindows : entry Tryd.prog 28 = some (c_impl_FormatWindows.strip, [2], 33) := by kernel_rfl
theorem w_impl_FormatWindows (a0 : List XWindow) (r : (List UInt8)) (h : f_impl_FormatWindows a0 = some r) : FC Tryd.prog 28 [.sc (.sl (List.map XWindow.row a0))] [.sc (.v (.str r))] := by
  unfold f_impl_FormatWindows at h
  refine FC_go (σ := ⟨[(0, vc (aL (List.map XWindow.row a0)))], [], []⟩) mixed e_impl_FormatWindows rfl rfl ?_
  simp only [c_impl_FormatWindows]
  obtain ⟨r1, hr1, h⟩ := ob h
  try simp only [Nat.reduceBEq, Nat.reduceMul, Nat.reduceAdd, Nat.reduceDiv, Int.reduceBEq, rules2, rulesX, rowsX]
  refine go_callI (w_impl_WindowsOk _ _ hr1) rfl rfl (Nat.le_of_ble_eq_true rfl) ?_
  rcases Bool.eq_false_or_eq_true r1 with hb2 | hb2
  · rw [ite_t hb2] at h
    rcases Bool.eq_false_or_eq_true ((a0.length : Int) == (0 : Int)) with hb3 | hb3
    · rw [ite_t hb3] at h
      try simp only [hb2, hb3, Nat.reduceBEq, Nat.reduceMul, Nat.reduceAdd, Nat.reduceDiv, Int.reduceBEq, rules2, rulesX, rowsX]
      cases h
      exact ⟨⟨rfl, trivial⟩, rfl⟩
    · rw [ite_f hb3] at h
      try simp only [hb2, hb3, Nat.reduceBEq, Nat.reduceMul, Nat.reduceAdd, Nat.reduceDiv, Int.reduceBEq, rules2, rulesX, rowsX]
      refine go_bsl (es := List.map rS ([] : List (List UInt8))) rfl rfl ?_
      try simp only [hb2, hb3, Nat.reduceBEq, Nat.reduceMul, Nat.reduceAdd, Nat.reduceDiv, Int.reduceBEq, rules2, rulesX, rowsX]
      refine w_impl_FormatWindows_1 _ _ _ _ _ h _ ?_
      try simp only [hb2, hb3, Nat.reduceBEq, Nat.reduceMul, Nat.reduceAdd, Nat.reduceDiv, Int.reduceBEq, rules2, rulesX, rowsX, List.map_nil]
  · rw [ite_f hb2] at h
    try simp only [hb2, Nat.reduceBEq, Nat.reduceMul, Nat.reduceAdd, Nat.reduceDiv, Int.reduceBEq, rules2, rulesX, rowsX]
    cases h
    exact ⟨⟨rfl, trivial⟩, rfl⟩
/- 7: impl_ParseWindows -/
def c_impl_ParseWindows_2 : ACode := .seq (.reg [(none, .keep [0, 4, 7, 14, 15, 16, 32] [] [576, 1472, 896])]) (.cond (S 32) (.seq (.reg [(none, .mv 2 KN), (none, .mv 3 (KB false))]) .ret) .skip)
def c_impl_ParseWindows_n2 : ACode := (.drw [(some [41], (none, .mv 33 (S 4))), (some [], (none, .mv 34 (S 7))), (some [], (none, .iaddr 35 (S 34) (K 0) 1)), (some [], (none, .load 36 (S 35) false 1)), (some [], (none, .mv 37 (S 7))), (some [], (none, .iaddr 38 (S 37) (K 1) 1)), (some [], (none, .load 39 (S 38) false 1)), (some [], (none, .build 40 [aI 0, aI 0] [(0, 1, (S 36)), (1, 1, (S 39))])), (some [], (none, .bslice 41 2 [.int .i64 0, .int .i64 0] 1 [(0, (S 40))])), (none, (none, .app 42 2 16 (S 33) (S 41))), (some [], (none, .mv 4 (S 42)))])
def c_impl_ParseWindows_n3 : ACode := (.reg [(none, .bin 43 .add (S 16) (K 1)), (none, .mv 16 (S 43))])
def c_impl_ParseWindows_1 : ACode := .seq (.reg [(none, .keep [0, 4, 14, 15, 16] [] [576, 896])]) (.seq (.reg [(none, .bin 17 .lss (S 16) (S 15))]) (.seq (.cond (S 17) .skip (.exit 0)) (.seq (.block 1 (.seq (.reg [(none, .iaddr 18 (S 14) (S 16) 1), (none, .load 19 (S 18) false 1), (none, .mv 6 (S 19))]) (.seq (.reg [(none, .mv 21 (S 6)), (none, .call 22 25 [(S 21), (KS [45])]), (none, .call 23 26 [(S 22)]), (none, .mv 20 (S 23)), (none, .extr 24 (S 20) 0), (none, .extr 25 (S 20) 1), (none, .mv 7 (S 24)), (none, .mv 8 (S 25))]) (.seq (.seq (.reg [(none, .mv 26 (S 8)), (none, .un 27 .not (S 26)), (none, .mv 28 (S 27)), (some (28, false), .mv 29 (S 7)), (some (28, false), .len 30 (S 29)), (some (28, false), .bin 31 .neq (S 30) (K 2)), (none, .pick 32 (S 28) (KB true) (S 31))]) c_impl_ParseWindows_2) c_impl_ParseWindows_n2)))) c_impl_ParseWindows_n3)))
def c_impl_ParseWindows_3 : ACode := .seq (.reg [(none, .keep [4, 52] [] [576])]) (.cond (S 52) (.seq (.reg [(none, .mv 2 KN), (none, .mv 3 (KB false))]) .ret) .skip)
def c_impl_ParseWindows_n4 : ACode := (.seq (.reg [(none, .mv 53 (S 4)), (none, .mv 2 (S 53)), (none, .mv 3 (KB true))]) .ret)
def c_impl_ParseWindows_n1 : ACode := (.seq (.seq (.reg [(none, .mv 44 (S 4)), (none, .call 45 27 [(S 44)]), (none, .un 46 .not (S 45)), (none, .mv 47 (S 46)), (some (47, false), .mv 48 (S 4)), (some (47, false), .call 49 28 [(S 48)]), (some (47, false), .mv 50 (S 0)), (some (47, false), .bin 51 .neq (S 49) (S 50)), (none, .pick 52 (S 47) (KB true) (S 51))]) c_impl_ParseWindows_3) c_impl_ParseWindows_n4)
def c_impl_ParseWindows : ACode := (.seq (.reg [(none, .mv 2 KN), (none, .mv 3 (KB false))]) (.seq (.reg [(none, .bslice 9 2 [.int .i64 0, .int .i64 0] 0 []), (none, .mv 4 (S 9))]) (.seq (.seq (.reg [(none, .mv 10 (S 0)), (none, .bin 11 .eql (S 10) (KS [110, 111, 110, 101]))]) (.cond (S 11) (.seq (.reg [(none, .mv 12 (S 4)), (none, .mv 2 (S 12)), (none, .mv 3 (KB true))]) .ret) .skip)) (.seq (.seq (.reg [(none, .mv 13 (S 0)), (none, .call 14 25 [(S 13), (KS [32])]), (none, .len 15 (S 14)), (none, .mv 16 (K 0))]) (.block 0 (.loop c_impl_ParseWindows_1))) c_impl_ParseWindows_n1))))
theorem w_impl_ParseWindows_2 (a0 : List UInt8) (r2 : (List (List UInt8))) (v3 : Int) (v4 : List XWindow) (r8 : (List Int) × Bool) (k_impl_ParseWindows_1 : Int → (List XWindow) → Option ((List XWindow) × Bool)) (hk_impl_ParseWindows_1 : ∀ (v3 : Int) (v4 : List XWindow) zr, k_impl_ParseWindows_1 v3 v4 = some zr → ∀ σ : St, σ.kept [0, 4, 14, 15, 16] [] [576, 896] = ⟨[(0, vc (aS a0)), (4, vc (.own 576)), (14, vc (.own 896)), (15, vc (aI (r2.length : Int))), (16, vc (aI v3))], [], [(576, 2, List.map XWindow.row v4), (896, 1, List.map rS r2)]⟩ → go Tryd.prog (.code (.loop c_impl_ParseWindows_1) :: [.blk 0, .code c_impl_ParseWindows_n1]) (Ret [2, 3] [.sc (.o 2 (List.map XWindow.row zr.1)), .sc (.v (.bool zr.2))]) .normal (some σ)) (v10 : Bool) (r : (List XWindow) × Bool) (h : f_impl_ParseWindows_2 a0 r2 v3 v4 r8 k_impl_ParseWindows_1 v10 = some r) (σ : St) (hσ : σ.kept [0, 4, 7, 14, 15, 16, 32] [] [576, 1472, 896] = ⟨[(0, vc (aS a0)), (4, vc (.own 576)), (7, vc (.own 1472)), (14, vc (.own 896)), (15, vc (aI (r2.length : Int))), (16, vc (aI v3)), (32, vc (aB v10))], [], [(576, 2, List.map XWindow.row v4), (1472, 1, List.map rI r8.1), (896, 1, List.map rS r2)]⟩) : go Tryd.prog (.code c_impl_ParseWindows_2 :: [.code c_impl_ParseWindows_n2, .blk 1, .code c_impl_ParseWindows_n3, .code (.loop c_impl_ParseWindows_1), .blk 0, .code c_impl_ParseWindows_n1]) (Ret [2, 3] [.sc (.o 2 (List.map XWindow.row r.1)), .sc (.v (.bool r.2))]) .normal (some σ) := by
  unfold f_impl_ParseWindows_2 at h
  rcases Bool.eq_false_or_eq_true v10 with hb11 | hb11
  · rw [ite_t hb11] at h
    try simp only [hσ, hb11, c_impl_ParseWindows_2, Nat.reduceBEq, Nat.reduceMul, Nat.reduceAdd, Nat.reduceDiv, Int.reduceBEq, rules2, rulesX, rowsX]
    cases h
    exact ⟨⟨rfl, rfl, trivial⟩, rfl⟩
  · rw [ite_f hb11] at h
    try simp only [hσ, hb11, c_impl_ParseWindows_2, c_impl_ParseWindows_n2, Nat.reduceBEq, Nat.reduceMul, Nat.reduceAdd, Nat.reduceDiv, Int.reduceBEq, rules2, rulesX, rowsX]
    refine go_fr_of rfl ?_
    obtain ⟨x12, hx12, h⟩ := ob h
    have hx12n := ix_get hx12
    obtain ⟨x13, hx13, h⟩ := ob h
    have hx13n := ix_get hx13
    try simp only [hb11, hx12, hx12n, hx13, hx13n, Nat.reduceBEq, Nat.reduceMul, Nat.reduceAdd, Nat.reduceDiv, Int.reduceBEq, rules2, rulesX, rowsX]
    refine go_bsl (es := List.map XWindow.row ([(⟨x12, x13⟩ : XWindow)] : List XWindow)) rfl rfl ?_
    obtain ⟨hg14, h⟩ := of_guard h
    try simp only [hb11, hx12, hx12n, hx13, hx13n, hg14, Nat.reduceBEq, Nat.reduceMul, Nat.reduceAdd, Nat.reduceDiv, Int.reduceBEq, rules2, rulesX, rowsX]
    refine go_fr_of rfl ?_
    try simp only [hb11, hx12, hx12n, hx13, hx13n, hg14, c_impl_ParseWindows_n3, Nat.reduceBEq, Nat.reduceMul, Nat.reduceAdd, Nat.reduceDiv, Int.reduceBEq, rules2, rulesX, rowsX]
    refine hk_impl_ParseWindows_1 _ _ _ h _ ?_
    try simp only [hb11, hx12, hx12n, hx13, hx13n, hg14, Nat.reduceBEq, Nat.reduceMul, Nat.reduceAdd, Nat.reduceDiv, Int.reduceBEq, rules2, rulesX, rowsX, List.map_nil]
theorem w_impl_ParseWindows_3 (v4 : List XWindow) (v18 : Bool) (r : (List XWindow) × Bool) (h : f_impl_ParseWindows_3 v4 v18 = some r) (σ : St) (hσ : σ.kept [4, 52] [] [576] = ⟨[(4, vc (.own 576)), (52, vc (aB v18))], [], [(576, 2, List.map XWindow.row v4)]⟩) : go Tryd.prog (.code c_impl_ParseWindows_3 :: [.code c_impl_ParseWindows_n4]) (Ret [2, 3] [.sc (.o 2 (List.map XWindow.row r.1)), .sc (.v (.bool r.2))]) .normal (some σ) := by
  unfold f_impl_ParseWindows_3 at h
  rcases Bool.eq_false_or_eq_true v18 with hb19 | hb19
  · rw [ite_t hb19] at h
    try simp only [hσ, hb19, c_impl_ParseWindows_3, Nat.reduceBEq, Nat.reduceMul, Nat.reduceAdd, Nat.reduceDiv, Int.reduceBEq, rules2, rulesX, rowsX]
    cases h
    exact ⟨⟨rfl, rfl, trivial⟩, rfl⟩
  · rw [ite_f hb19] at h
    try simp only [hσ, hb19, c_impl_ParseWindows_3, c_impl_ParseWindows_n4, Nat.reduceBEq, Nat.reduceMul, Nat.reduceAdd, Nat.reduceDiv, Int.reduceBEq, rules2, rulesX, rowsX]
    cases h
    exact ⟨⟨rfl, rfl, trivial⟩, rfl⟩
theorem w_impl_ParseWindows_1 (a0 : List UInt8) (r2 : (List (List UInt8))) : ∀ (n : Nat) (v3 : Int) (v4 : List XWindow) (r : (List XWindow) × Bool), f_impl_ParseWindows_1 a0 r2 n v3 v4 = some r → ∀ σ : St, σ.kept [0, 4, 14, 15, 16] [] [576, 896] = ⟨[(0, vc (aS a0)), (4, vc (.own 576)), (14, vc (.own 896)), (15, vc (aI (r2.length : Int))), (16, vc (aI v3))], [], [(576, 2, List.map XWindow.row v4), (896, 1, List.map rS r2)]⟩ → go Tryd.prog (.code (.loop c_impl_ParseWindows_1) :: [.blk 0, .code c_impl_ParseWindows_n1]) (Ret [2, 3] [.sc (.o 2 (List.map XWindow.row r.1)), .sc (.v (.bool r.2))]) .normal (some σ) := by
  intro n
  induction n with
  | zero => intro _ _ r h; cases h
  | succ n ih =>
    intro v3 v4 r h σ hσ
    rw [f_impl_ParseWindows_1] at h
    refine go_round ?_
    rcases Bool.eq_false_or_eq_true (decide (v3 < (r2.length : Int))) with hb5 | hb5
    · rw [ite_t hb5] at h
      obtain ⟨x6, hx6, h⟩ := ob h
      have hx6n := ix_get hx6
      obtain ⟨r7, hr7, h⟩ := ob h
      try simp only [hσ, hb5, hx6, hx6n, c_impl_ParseWindows_1, Nat.reduceBEq, Nat.reduceMul, Nat.reduceAdd, Nat.reduceDiv, Int.reduceBEq, rules2, rulesX, rowsX]
      refine go_callI (w_impl_SplitAny _ _ _ hr7) rfl rfl (Nat.le_of_ble_eq_true rfl) ?_
      obtain ⟨r8, hr8, h⟩ := ob h
      try simp only [hb5, hx6, hx6n, Nat.reduceBEq, Nat.reduceMul, Nat.reduceAdd, Nat.reduceDiv, Int.reduceBEq, rules2, rulesX, rowsX]
      refine go_call (w_impl_parseNumbers _ _ hr8) rfl (flat_l rfl ⟨flat_o, rfl, trivial⟩) rfl (Nat.le_of_ble_eq_true rfl) ?_
      rcases Bool.eq_false_or_eq_true r8.2 with hb9 | hb9
      · rw [ite_t hb9] at h
        try simp only [hb5, hx6, hx6n, hb9, Nat.reduceBEq, Nat.reduceMul, Nat.reduceAdd, Nat.reduceDiv, Int.reduceBEq, rules2, rulesX, rowsX]
        refine w_impl_ParseWindows_2 _ _ _ _ _ (f_impl_ParseWindows_1 a0 r2 n) ih _ _ h _ ?_
        try simp only [hb5, hx6, hx6n, hb9, Nat.reduceBEq, Nat.reduceMul, Nat.reduceAdd, Nat.reduceDiv, Int.reduceBEq, rules2, rulesX, rowsX, List.map_nil]
      · rw [ite_f hb9] at h
        try simp only [hb5, hx6, hx6n, hb9, Nat.reduceBEq, Nat.reduceMul, Nat.reduceAdd, Nat.reduceDiv, Int.reduceBEq, rules2, rulesX, rowsX]
        refine w_impl_ParseWindows_2 _ _ _ _ _ (f_impl_ParseWindows_1 a0 r2 n) ih _ _ h _ ?_
        try simp only [hb5, hx6, hx6n, hb9, Nat.reduceBEq, Nat.reduceMul, Nat.reduceAdd, Nat.reduceDiv, Int.reduceBEq, rules2, rulesX, rowsX, List.map_nil]
    · rw [ite_f hb5] at h
      obtain ⟨r15, hr15, h⟩ := ob h
      try simp only [hσ, hb5, c_impl_ParseWindows_1, c_impl_ParseWindows_n1, Nat.reduceBEq, Nat.reduceMul, Nat.reduceAdd, Nat.reduceDiv, Int.reduceBEq, rules2, rulesX, rowsX]
      refine go_call (w_impl_WindowsOk _ _ hr15) rfl (flat_of rfl) rfl (Nat.le_of_ble_eq_true rfl) ?_
      rcases Bool.eq_false_or_eq_true r15 with hb16 | hb16
      · rw [ite_t hb16] at h
        obtain ⟨r17, hr17, h⟩ := ob h
        try simp only [hb5, hb16, Nat.reduceBEq, Nat.reduceMul, Nat.reduceAdd, Nat.reduceDiv, Int.reduceBEq, rules2, rulesX, rowsX]
        refine go_call (w_impl_FormatWindows _ _ hr17) rfl (flat_of rfl) rfl (Nat.le_of_ble_eq_true rfl) ?_
        try simp only [hb5, hb16, Nat.reduceBEq, Nat.reduceMul, Nat.reduceAdd, Nat.reduceDiv, Int.reduceBEq, rules2, rulesX, rowsX]
        refine w_impl_ParseWindows_3 _ _ _ h _ ?_
        try simp only [hb5, hb16, Nat.reduceBEq, Nat.reduceMul, Nat.reduceAdd, Nat.reduceDiv, Int.reduceBEq, rules2, rulesX, rowsX, List.map_nil]
      · rw [ite_f hb16] at h
        try simp only [hb5, hb16, Nat.reduceBEq, Nat.reduceMul, Nat.reduceAdd, Nat.reduceDiv, Int.reduceBEq, rules2, rulesX, rowsX]
        refine w_impl_ParseWindows_3 _ _ _ h _ ?_
        try simp only [hb5, hb16, Nat.reduceBEq, Nat.reduceMul, Nat.reduceAdd, Nat.reduceDiv, Int.reduceBEq, rules2, rulesX, rowsX, List.map_nil]
theorem e_impl_ParseWindows : entry Tryd.prog 7 = some (c_impl_ParseWindows.strip, [2, 3], 54) := by kernel_rfl
theorem w_impl_ParseWindows (a0 : List UInt8) (r : (List XWindow) × Bool) (h : f_impl_ParseWindows a0 = some r) : FC Tryd.prog 7 [.sc (.str a0)] [.sc (.o 2 (List.map XWindow.row r.1)), .sc (.v (.bool r.2))] := by
  unfold f_impl_ParseWindows at h
  refine FC_go (σ := ⟨[(0, vc (aS a0))], [], []⟩) mixed e_impl_ParseWindows rfl rfl ?_
  simp only [c_impl_ParseWindows]
  try simp only [Nat.reduceBEq, Nat.reduceMul, Nat.reduceAdd, Nat.reduceDiv, Int.reduceBEq, rules2, rulesX, rowsX]
  refine go_bsl (es := List.map XWindow.row ([] : List XWindow)) rfl rfl ?_
  rcases Bool.eq_false_or_eq_true (a0 == ([110, 111, 110, 101] : List UInt8)) with hb1 | hb1
  · rw [ite_t hb1] at h
    try simp only [hb1, Nat.reduceBEq, Nat.reduceMul, Nat.reduceAdd, Nat.reduceDiv, Int.reduceBEq, rules2, rulesX, rowsX]
    cases h
    exact ⟨⟨rfl, rfl, trivial⟩, rfl⟩
  · rw [ite_f hb1] at h
    obtain ⟨r2, hr2, h⟩ := ob h
    try simp only [hb1, Nat.reduceBEq, Nat.reduceMul, Nat.reduceAdd, Nat.reduceDiv, Int.reduceBEq, rules2, rulesX, rowsX]
    refine go_callI (w_impl_SplitAny _ _ _ hr2) rfl rfl (Nat.le_of_ble_eq_true rfl) ?_
    try simp only [hb1, Nat.reduceBEq, Nat.reduceMul, Nat.reduceAdd, Nat.reduceDiv, Int.reduceBEq, rules2, rulesX, rowsX]
    refine w_impl_ParseWindows_1 _ _ _ _ _ _ h _ ?_
    try simp only [hb1, Nat.reduceBEq, Nat.reduceMul, Nat.reduceAdd, Nat.reduceDiv, Int.reduceBEq, rules2, rulesX, rowsX, List.map_nil]
/- 29: laws_eqWindow -/
def c_laws_eqWindow : ACode := (.seq (.reg [(none, .box 2 (S 0)), (none, .box 3 (S 1)), (none, .mv 4 (KB false))]) (.seq (.seq (.reg [(none, .faddr 5 (S 2) 0), (none, .load 6 (S 5) false 1), (none, .faddr 7 (S 3) 0), (none, .load 8 (S 7) false 1), (none, .bin 9 .neq (S 6) (S 8))]) (.cond (S 9) (.seq (.reg [(none, .mv 4 (KB false))]) .ret) .skip)) (.seq (.seq (.reg [(none, .faddr 10 (S 2) 1), (none, .load 11 (S 10) false 1), (none, .faddr 12 (S 3) 1), (none, .load 13 (S 12) false 1), (none, .bin 14 .neq (S 11) (S 13))]) (.cond (S 14) (.seq (.reg [(none, .mv 4 (KB false))]) .ret) .skip)) (.seq (.reg [(none, .mv 4 (KB true))]) .ret))))
theorem e_laws_eqWindow : entry Tryd.prog 29 = some (c_laws_eqWindow.strip, [4], 15) := by kernel_rfl
theorem w_laws_eqWindow (a0 : XWindow) (a1 : XWindow) (r : Bool) (h : f_laws_eqWindow a0 a1 = some r) : FC Tryd.prog 29 [.ag (XWindow.row a0), .ag (XWindow.row a1)] [.sc (.v (.bool r))] := by
  unfold f_laws_eqWindow at h
  refine FC_go (σ := ⟨[(0, va [aI a0.From, aI a0.To]), (1, va [aI a1.From, aI a1.To])], [], []⟩) mixed e_laws_eqWindow rfl rfl ?_
  simp only [c_laws_eqWindow]
  try simp only [Nat.reduceBEq, Nat.reduceMul, Nat.reduceAdd, Nat.reduceDiv, Int.reduceBEq, rules2, rulesX, rowsX]
  refine go_bx rfl rfl rfl ?_
  try simp only [Nat.reduceBEq, Nat.reduceMul, Nat.reduceAdd, Nat.reduceDiv, Int.reduceBEq, rules2, rulesX, rowsX]
  refine go_bx rfl rfl rfl ?_
  rcases Bool.eq_false_or_eq_true (a0.From != a1.From) with hb1 | hb1
  · rw [ite_t hb1] at h
    try simp only [hb1, Nat.reduceBEq, Nat.reduceMul, Nat.reduceAdd, Nat.reduceDiv, Int.reduceBEq, rules2, rulesX, rowsX]
    cases h
    exact ⟨⟨rfl, trivial⟩, rfl⟩
  · rw [ite_f hb1] at h
    rcases Bool.eq_false_or_eq_true (a0.To != a1.To) with hb2 | hb2
    · rw [ite_t hb2] at h
      try simp only [hb1, hb2, Nat.reduceBEq, Nat.reduceMul, Nat.reduceAdd, Nat.reduceDiv, Int.reduceBEq, rules2, rulesX, rowsX]
      cases h
      exact ⟨⟨rfl, trivial⟩, rfl⟩
    · rw [ite_f hb2] at h
      try simp only [hb1, hb2, Nat.reduceBEq, Nat.reduceMul, Nat.reduceAdd, Nat.reduceDiv, Int.reduceBEq, rules2, rulesX, rowsX]
      cases h
      exact ⟨⟨rfl, trivial⟩, rfl⟩
/- 8: laws_eqWindowS -/
def c_laws_eqWindowS_1 : ACode := .seq (.reg [(none, .keep [0, 1, 5] [] [])]) (.seq (.seq (.reg [(none, .mv 11 (S 5)), (none, .mv 12 (S 0)), (none, .len 13 (S 12)), (none, .bin 14 .lss (S 11) (S 13))]) (.cond (S 14) .skip (.exit 0))) (.seq (.block 1 (.seq (.drw [(some [], (none, .mv 17 (S 0))), (some [], (none, .mv 18 (S 5))), (some [], (none, .iaddr 19 (S 17) (S 18) 2)), (some [], (none, .load 20 (S 19) true 2)), (some [], (none, .mv 21 (S 1))), (some [], (none, .mv 22 (S 5))), (some [], (none, .iaddr 23 (S 21) (S 22) 2)), (some [], (none, .load 24 (S 23) true 2)), (some [], (none, .call 25 29 [(S 20), (S 24)])), (some [], (none, .un 26 .not (S 25)))]) (.cond (S 26) (.seq (.reg [(none, .mv 4 (KB false))]) .ret) .skip))) (.reg [(none, .mv 15 (S 5)), (none, .bin 16 .add (S 15) (K 1)), (none, .mv 5 (S 16))])))
def c_laws_eqWindowS_n1 : ACode := (.seq (.reg [(none, .mv 4 (KB true))]) .ret)
def c_laws_eqWindowS : ACode := (.seq (.reg [(none, .mv 4 (KB false))]) (.seq (.seq (.reg [(none, .mv 6 (S 0)), (none, .len 7 (S 6)), (none, .mv 8 (S 1)), (none, .len 9 (S 8)), (none, .bin 10 .neq (S 7) (S 9))]) (.cond (S 10) (.seq (.reg [(none, .mv 4 (KB false))]) .ret) .skip)) (.seq (.seq (.reg [(none, .mv 5 (K 0))]) (.block 0 (.loop c_laws_eqWindowS_1))) c_laws_eqWindowS_n1)))
theorem w_laws_eqWindowS_1 (a0 : List XWindow) (a1 : List XWindow) : ∀ (n : Nat) (v2 : Int) (r : Bool), f_laws_eqWindowS_1 a0 a1 n v2 = some r → ∀ σ : St, σ.kept [0, 1, 5] [] [] = ⟨[(0, vc (aL (List.map XWindow.row a0))), (1, vc (aL (List.map XWindow.row a1))), (5, vc (aI v2))], [], []⟩ → go Tryd.prog (.code (.loop c_laws_eqWindowS_1) :: [.blk 0, .code c_laws_eqWindowS_n1]) (Ret [4] [.sc (.v (.bool r))]) .normal (some σ) := by
  intro n
  induction n with
  | zero => intro _ r h; cases h
  | succ n ih =>
    intro v2 r h σ hσ
    rw [f_laws_eqWindowS_1] at h
    refine go_round ?_
    rcases Bool.eq_false_or_eq_true (decide (v2 < (a0.length : Int))) with hb3 | hb3
    · rw [ite_t hb3] at h
      try simp only [hσ, hb3, c_laws_eqWindowS_1, Nat.reduceBEq, Nat.reduceMul, Nat.reduceAdd, Nat.reduceDiv, Int.reduceBEq, rules2, rulesX, rowsX]
      refine go_fr_of rfl ?_
      obtain ⟨x4, hx4, h⟩ := ob h
      obtain ⟨x5, hx5, h⟩ := ob h
      obtain ⟨r6, hr6, h⟩ := ob h
      try simp only [hb3, hx4, hx5, Nat.reduceBEq, Nat.reduceMul, Nat.reduceAdd, Nat.reduceDiv, Int.reduceBEq, rules2, rulesX, rowsX]
      refine go_dcallI (w_laws_eqWindow _ _ _ hr6) rfl rfl (Nat.le_of_ble_eq_true rfl) ?_
      rcases Bool.eq_false_or_eq_true r6 with hb7 | hb7
      · rw [ite_t hb7] at h
        try simp only [hb3, hx4, hx5, hb7, Nat.reduceBEq, Nat.reduceMul, Nat.reduceAdd, Nat.reduceDiv, Int.reduceBEq, rules2, rulesX, rowsX]
        refine ih _ _ h _ ?_
        try simp only [hb3, hx4, hx5, hb7, Nat.reduceBEq, Nat.reduceMul, Nat.reduceAdd, Nat.reduceDiv, Int.reduceBEq, rules2, rulesX, rowsX, List.map_nil]
      · rw [ite_f hb7] at h
        try simp only [hb3, hx4, hx5, hb7, Nat.reduceBEq, Nat.reduceMul, Nat.reduceAdd, Nat.reduceDiv, Int.reduceBEq, rules2, rulesX, rowsX]
        cases h
        exact ⟨⟨rfl, trivial⟩, rfl⟩
    · rw [ite_f hb3] at h
      try simp only [hσ, hb3, c_laws_eqWindowS_1, c_laws_eqWindowS_n1, Nat.reduceBEq, Nat.reduceMul, Nat.reduceAdd, Nat.reduceDiv, Int.reduceBEq, rules2, rulesX, rowsX]
      cases h
      exact ⟨⟨rfl, trivial⟩, rfl⟩
theorem e_laws_eqWindowS : entry Tryd.prog 8 = some (c_laws_eqWindowS.strip, [4], 27) := by kernel_rfl
theorem w_laws_eqWindowS (a0 : List XWindow) (a1 : List XWindow) (r : Bool) (h : f_laws_eqWindowS a0 a1 = some r) : FC Tryd.prog 8 [.sc (.sl (List.map XWindow.row a0)), .sc (.sl (List.map XWindow.row a1))] [.sc (.v (.bool r))] := by
  unfold f_laws_eqWindowS at h
  refine FC_go (σ := ⟨[(0, vc (aL (List.map XWindow.row a0))), (1, vc (aL (List.map XWindow.row a1)))], [], []⟩) mixed e_laws_eqWindowS rfl rfl ?_
  simp only [c_laws_eqWindowS]
  rcases Bool.eq_false_or_eq_true ((a0.length : Int) != (a1.length : Int)) with hb1 | hb1
  · rw [ite_t hb1] at h
    try simp only [hb1, Nat.reduceBEq, Nat.reduceMul, Nat.reduceAdd, Nat.reduceDiv, Int.reduceBEq, rules2, rulesX, rowsX]
    cases h
    exact ⟨⟨rfl, trivial⟩, rfl⟩
  · rw [ite_f hb1] at h
    try simp only [hb1, Nat.reduceBEq, Nat.reduceMul, Nat.reduceAdd, Nat.reduceDiv, Int.reduceBEq, rules2, rulesX, rowsX]
    refine w_laws_eqWindowS_1 _ _ _ _ _ h _ ?_
    try simp only [hb1, Nat.reduceBEq, Nat.reduceMul, Nat.reduceAdd, Nat.reduceDiv, Int.reduceBEq, rules2, rulesX, rowsX, List.map_nil]
/- 9: laws_markWindowS -/
def c_laws_markWindowS_1 : ACode := .seq (.reg [(none, .keep [0, 1, 5] [] [1099511627776])]) (.seq (.seq (.reg [(none, .mv 6 (S 5)), (none, .mv 7 (S 0)), (none, .len 8 (S 7)), (none, .bin 9 .lss (S 6) (S 8))]) (.cond (S 9) .skip (.exit 0))) (.seq (.block 1 (.seq (.reg [(none, .mv 12 (S 0)), (none, .mv 13 (S 5)), (none, .mv 14 (S 1)), (none, .iaddr 15 (S 12) (S 13) 2), (none, .faddr 16 (S 15) 0), (none, .store (S 16) (S 14) 1)]) (.seq (.reg [(none, .mv 17 (S 1)), (none, .bin 18 .add (S 17) (K 1)), (none, .mv 1 (S 18))]) (.seq (.reg [(none, .mv 19 (S 0)), (none, .mv 20 (S 5)), (none, .mv 21 (S 1)), (none, .iaddr 22 (S 19) (S 20) 2), (none, .faddr 23 (S 22) 1), (none, .store (S 23) (S 21) 1)]) (.reg [(none, .mv 24 (S 1)), (none, .bin 25 .add (S 24) (K 1)), (none, .mv 1 (S 25))]))))) (.reg [(none, .mv 10 (S 5)), (none, .bin 11 .add (S 10) (K 1)), (none, .mv 5 (S 11))])))
def c_laws_markWindowS_n1 : ACode := (.seq (.reg [(none, .mv 26 (S 1)), (none, .mv 4 (S 26))]) .ret)
def c_laws_markWindowS : ACode := (.seq (.reg [(none, .mv 4 (K 0))]) (.seq (.seq (.reg [(none, .mv 5 (K 0))]) (.block 0 (.loop c_laws_markWindowS_1))) c_laws_markWindowS_n1))
theorem w_laws_markWindowS_1 : ∀ (n : Nat) (v1 : Int) (v2 : Int) (v3 : List XWindow) (r : Int × List XWindow), f_laws_markWindowS_1 n v1 v2 v3 = some r → ∀ σ : St, σ.kept [0, 1, 5] [] [1099511627776] = ⟨[(0, vc (.own 1099511627776)), (1, vc (aI v1)), (5, vc (aI v2))], [], [(1099511627776, 2, List.map XWindow.row v3)]⟩ → go Tryd.prog (.code (.loop c_laws_markWindowS_1) :: [.blk 0, .code c_laws_markWindowS_n1]) (RetX [4] (.int .i64 r.1) [(2, List.map XWindow.row r.2)] [(0, 0)]) .normal (some σ) := by
  intro n
  induction n with
  | zero => intro _ _ _ r h; cases h
  | succ n ih =>
    intro v1 v2 v3 r h σ hσ
    rw [f_laws_markWindowS_1] at h
    refine go_round ?_
    rcases Bool.eq_false_or_eq_true (decide (v2 < (v3.length : Int))) with hb4 | hb4
    · rw [ite_t hb4] at h
      obtain ⟨x5, hx5, h⟩ := ob h
      have hx5n := ix_get hx5
      try simp only [hσ, hb4, hx5, c_laws_markWindowS_1, Nat.reduceBEq, Nat.reduceMul, Nat.reduceAdd, Nat.reduceDiv, Int.reduceBEq, rules2, rulesX, rowsX]
      refine go_stp (y := (⟨v1, x5.To⟩ : XWindow)) rfl rfl hx5n rfl rfl rfl ?_
      obtain ⟨x6, hx6, h⟩ := ob h
      have hx6n := ix_get hx6
      try simp only [hb4, hx5, hx6, Nat.reduceBEq, Nat.reduceMul, Nat.reduceAdd, Nat.reduceDiv, Int.reduceBEq, rules2, rulesX, rowsX]
      refine go_stp (y := (⟨x6.From, (IntKind.i64.wrap (v1 + (1 : Int)))⟩ : XWindow)) rfl rfl hx6n rfl rfl rfl ?_
      try simp only [hb4, hx5, hx6, Nat.reduceBEq, Nat.reduceMul, Nat.reduceAdd, Nat.reduceDiv, Int.reduceBEq, rules2, rulesX, rowsX]
      refine ih _ _ _ _ h _ ?_
      try simp only [hb4, hx5, hx6, Nat.reduceBEq, Nat.reduceMul, Nat.reduceAdd, Nat.reduceDiv, Int.reduceBEq, rules2, rulesX, rowsX, List.map_nil]
    · rw [ite_f hb4] at h
      try simp only [hσ, hb4, c_laws_markWindowS_1, c_laws_markWindowS_n1, Nat.reduceBEq, Nat.reduceMul, Nat.reduceAdd, Nat.reduceDiv, Int.reduceBEq, rules2, rulesX, rowsX]
      cases h
      exact ⟨⟨rfl, trivial⟩, ⟨⟨⟨_, rfl, rfl⟩, rfl⟩, trivial⟩⟩
theorem e_laws_markWindowS : entry Tryd.prog 9 = some (c_laws_markWindowS.strip, [4], 27) := by kernel_rfl
theorem l_laws_markWindowS_1 : ∀ (n : Nat) (v1 : Int) (v2 : Int) (v3 : List XWindow) (r : Int × List XWindow), f_laws_markWindowS_1 n v1 v2 v3 = some r → r.2.length = v3.length := by
  intro n
  induction n with
  | zero => intro _ _ _ r h; cases h
  | succ n ih =>
    intro v1 v2 v3 r h
    rw [f_laws_markWindowS_1] at h
    rcases Bool.eq_false_or_eq_true (decide (v2 < (v3.length : Int))) with hb4 | hb4
    · rw [ite_t hb4] at h
      obtain ⟨x5, hx5, h⟩ := ob h
      obtain ⟨x6, hx6, h⟩ := ob h
      have hl := ih _ _ _ _ h
      try simp only [List.length_set] at hl
      omega
    · rw [ite_f hb4] at h
      cases h
      all_goals (try dsimp only); first | done | omega | (simp only [List.length_set] at *; omega) | simp_all
theorem l_laws_markWindowS (a0 : List XWindow) (a1 : Int) (r : Int × List XWindow) (h : f_laws_markWindowS a0 a1 = some r) : r.2.length = a0.length := by
  unfold f_laws_markWindowS at h
  have hl := l_laws_markWindowS_1 _ _ _ _ _ h
  try simp only [List.length_set] at hl
  omega
theorem w_laws_markWindowS (a0 : List XWindow) (a1 : Int) (r : Int × List XWindow) (h : f_laws_markWindowS a0 a1 = some r) : FCx Tryd.prog 9 [.sc (.r 0), .sc (.d (.int .i64 a1))] [(2, List.map XWindow.row a0)] [(2, List.map XWindow.row r.2)] (.int .i64 r.1) := by
  unfold f_laws_markWindowS at h
  refine FCx_go (ps := [(0, 0)]) (σ := ⟨[(0, vc (.own 1099511627776)), (1, vc (aI a1))], [], [(1099511627776, 2, List.map XWindow.row a0)]⟩) mixed e_laws_markWindowS rfl rfl rfl (flatR_cons flatR_nil) rfl ?_
  simp only [c_laws_markWindowS]
  try simp only [Nat.reduceBEq, Nat.reduceMul, Nat.reduceAdd, Nat.reduceDiv, Int.reduceBEq, rules2, rulesX, rowsX]
  refine w_laws_markWindowS_1 _ _ _ _ _ h _ ?_
  try simp only [Nat.reduceBEq, Nat.reduceMul, Nat.reduceAdd, Nat.reduceDiv, Int.reduceBEq, rules2, rulesX, rowsX, List.map_nil]
/- 10: laws_heldWindowS -/
def c_laws_heldWindowS_1 : ACode := .seq (.reg [(none, .keep [0, 1, 5] [] [])]) (.seq (.seq (.reg [(none, .mv 6 (S 5)), (none, .mv 7 (S 0)), (none, .len 8 (S 7)), (none, .bin 9 .lss (S 6) (S 8))]) (.cond (S 9) .skip (.exit 0))) (.seq (.block 1 (.seq (.seq (.reg [(none, .mv 12 (S 0)), (none, .mv 13 (S 5)), (none, .iaddr 14 (S 12) (S 13) 2), (none, .faddr 15 (S 14) 0), (none, .load 16 (S 15) false 1), (none, .mv 17 (S 1)), (none, .bin 18 .neq (S 16) (S 17))]) (.cond (S 18) (.seq (.reg [(none, .mv 4 (K (-1)))]) .ret) .skip)) (.seq (.reg [(none, .mv 19 (S 1)), (none, .bin 20 .add (S 19) (K 1)), (none, .mv 1 (S 20))]) (.seq (.seq (.reg [(none, .mv 21 (S 0)), (none, .mv 22 (S 5)), (none, .iaddr 23 (S 21) (S 22) 2), (none, .faddr 24 (S 23) 1), (none, .load 25 (S 24) false 1), (none, .mv 26 (S 1)), (none, .bin 27 .neq (S 25) (S 26))]) (.cond (S 27) (.seq (.reg [(none, .mv 4 (K (-1)))]) .ret) .skip)) (.reg [(none, .mv 28 (S 1)), (none, .bin 29 .add (S 28) (K 1)), (none, .mv 1 (S 29))]))))) (.reg [(none, .mv 10 (S 5)), (none, .bin 11 .add (S 10) (K 1)), (none, .mv 5 (S 11))])))
def c_laws_heldWindowS_n1 : ACode := (.seq (.reg [(none, .mv 30 (S 1)), (none, .mv 4 (S 30))]) .ret)
def c_laws_heldWindowS : ACode := (.seq (.reg [(none, .mv 4 (K 0))]) (.seq (.seq (.reg [(none, .mv 5 (K 0))]) (.block 0 (.loop c_laws_heldWindowS_1))) c_laws_heldWindowS_n1))
theorem w_laws_heldWindowS_1 (a0 : List XWindow) : ∀ (n : Nat) (v1 : Int) (v2 : Int) (r : Int), f_laws_heldWindowS_1 a0 n v1 v2 = some r → ∀ σ : St, σ.kept [0, 1, 5] [] [] = ⟨[(0, vc (aL (List.map XWindow.row a0))), (1, vc (aI v1)), (5, vc (aI v2))], [], []⟩ → go Tryd.prog (.code (.loop c_laws_heldWindowS_1) :: [.blk 0, .code c_laws_heldWindowS_n1]) (Ret [4] [.sc (.v (.int .i64 r))]) .normal (some σ) := by
  intro n
  induction n with
  | zero => intro _ _ r h; cases h
  | succ n ih =>
    intro v1 v2 r h σ hσ
    rw [f_laws_heldWindowS_1] at h
    refine go_round ?_
    rcases Bool.eq_false_or_eq_true (decide (v2 < (a0.length : Int))) with hb3 | hb3
    · rw [ite_t hb3] at h
      obtain ⟨x4, hx4, h⟩ := ob h
      rcases Bool.eq_false_or_eq_true (x4.From != v1) with hb5 | hb5
      · rw [ite_t hb5] at h
        try simp only [hσ, hb3, hx4, hb5, c_laws_heldWindowS_1, Nat.reduceBEq, Nat.reduceMul, Nat.reduceAdd, Nat.reduceDiv, Int.reduceBEq, rules2, rulesX, rowsX]
        cases h
        exact ⟨⟨rfl, trivial⟩, rfl⟩
      · rw [ite_f hb5] at h
        rcases Bool.eq_false_or_eq_true (x4.To != (IntKind.i64.wrap (v1 + (1 : Int)))) with hb6 | hb6
        · rw [ite_t hb6] at h
          try simp only [hσ, hb3, hx4, hb5, hb6, c_laws_heldWindowS_1, Nat.reduceBEq, Nat.reduceMul, Nat.reduceAdd, Nat.reduceDiv, Int.reduceBEq, rules2, rulesX, rowsX]
          cases h
          exact ⟨⟨rfl, trivial⟩, rfl⟩
        · rw [ite_f hb6] at h
          try simp only [hσ, hb3, hx4, hb5, hb6, c_laws_heldWindowS_1, Nat.reduceBEq, Nat.reduceMul, Nat.reduceAdd, Nat.reduceDiv, Int.reduceBEq, rules2, rulesX, rowsX]
          refine ih _ _ _ h _ ?_
          try simp only [hb3, hx4, hb5, hb6, Nat.reduceBEq, Nat.reduceMul, Nat.reduceAdd, Nat.reduceDiv, Int.reduceBEq, rules2, rulesX, rowsX, List.map_nil]
    · rw [ite_f hb3] at h
      try simp only [hσ, hb3, c_laws_heldWindowS_1, c_laws_heldWindowS_n1, Nat.reduceBEq, Nat.reduceMul, Nat.reduceAdd, Nat.reduceDiv, Int.reduceBEq, rules2, rulesX, rowsX]
      cases h
      exact ⟨⟨rfl, trivial⟩, rfl⟩
theorem e_laws_heldWindowS : entry Tryd.prog 10 = some (c_laws_heldWindowS.strip, [4], 31) := by kernel_rfl
theorem w_laws_heldWindowS (a0 : List XWindow) (a1 : Int) (r : Int) (h : f_laws_heldWindowS a0 a1 = some r) : FC Tryd.prog 10 [.sc (.sl (List.map XWindow.row a0)), .sc (.int .i64 a1)] [.sc (.v (.int .i64 r))] := by
  unfold f_laws_heldWindowS at h
  refine FC_go (σ := ⟨[(0, vc (aL (List.map XWindow.row a0))), (1, vc (aI a1))], [], []⟩) mixed e_laws_heldWindowS rfl rfl ?_
  simp only [c_laws_heldWindowS]
  try simp only [Nat.reduceBEq, Nat.reduceMul, Nat.reduceAdd, Nat.reduceDiv, Int.reduceBEq, rules2, rulesX, rowsX]
  refine w_laws_heldWindowS_1 _ _ _ _ _ h _ ?_
  try simp only [Nat.reduceBEq, Nat.reduceMul, Nat.reduceAdd, Nat.reduceDiv, Int.reduceBEq, rules2, rulesX, rowsX, List.map_nil]
/- 3: laws_FnExactParseWindows -/
def c_laws_FnExactParseWindows : ACode := (.seq (.reg [(none, .mv 2 (KB false))]) (.seq (.seq (.reg [(none, .mv 11 (S 0)), (none, .slen 12 (S 11)), (none, .bin 13 .gtr (S 12) (K 1048576))]) (.cond (S 13) (.seq (.reg [(none, .mv 2 (KB true))]) .ret) .skip)) (.seq (.reg [(none, .mv 15 (S 0)), (none, .call 16 6 [(S 15)]), (none, .mv 14 (S 16)), (none, .extr 17 (S 14) 0), (none, .extr 18 (S 14) 1), (none, .mv 3 (S 17)), (none, .mv 4 (S 18))]) (.seq (.reg [(none, .mv 20 (S 0)), (none, .call 21 7 [(S 20)]), (none, .mv 19 (S 21)), (none, .extr 22 (S 19) 0), (none, .extr 23 (S 19) 1), (none, .mv 5 (S 22)), (none, .mv 6 (S 23))]) (.seq (.seq (.reg [(none, .mv 24 (S 5)), (none, .mv 25 (S 3)), (none, .call 26 8 [(S 24), (S 25)]), (none, .un 27 .not (S 26)), (none, .mv 28 (S 27)), (some (28, false), .mv 29 (S 6)), (some (28, false), .mv 30 (S 4)), (some (28, false), .beq 31 true (S 29) (S 30)), (none, .pick 32 (S 28) (KB true) (S 31))]) (.cond (S 32) (.seq (.reg [(none, .mv 2 (KB false))]) .ret) .skip)) (.seq (.reg [(none, .mv 7 (K 1))]) (.seq (.reg [(none, .mv 33 (S 5)), (none, .mv 34 (S 7)), (none, .call 35 9 [(S 33), (S 34)]), (none, .mv 7 (S 35))]) (.seq (.reg [(none, .mv 8 (K 1))]) (.seq (.reg [(none, .mv 36 (S 5)), (none, .mv 37 (S 8)), (none, .call 38 10 [(S 36), (S 37)]), (none, .mv 8 (S 38))]) (.seq (.seq (.reg [(none, .mv 39 (S 8)), (none, .bin 40 .lss (S 39) (K 0))]) (.cond (S 40) (.seq (.reg [(none, .mv 2 (KB false))]) .ret) .skip)) (.seq (.seq (.reg [(none, .mv 41 (S 8)), (none, .mv 42 (S 7)), (none, .bin 43 .neq (S 41) (S 42))]) (.cond (S 43) (.seq (.reg [(none, .mv 2 (KB false))]) .ret) .skip)) (.seq (.reg [(none, .mv 45 (S 0)), (none, .call 46 7 [(S 45)]), (none, .mv 44 (S 46)), (none, .extr 47 (S 44) 0), (none, .extr 48 (S 44) 1), (none, .mv 9 (S 47)), (none, .mv 10 (S 48))]) (.seq (.seq (.reg [(none, .mv 49 (S 9)), (none, .mv 50 (S 3)), (none, .call 51 8 [(S 49), (S 50)]), (none, .un 52 .not (S 51)), (none, .mv 53 (S 52)), (some (53, false), .mv 54 (S 10)), (some (53, false), .mv 55 (S 4)), (some (53, false), .beq 56 true (S 54) (S 55)), (none, .pick 57 (S 53) (KB true) (S 56))]) (.cond (S 57) (.seq (.reg [(none, .mv 2 (KB false))]) .ret) .skip)) (.seq (.reg [(none, .mv 8 (K 1))]) (.seq (.reg [(none, .mv 58 (S 5)), (none, .mv 59 (S 8)), (none, .call 60 10 [(S 58), (S 59)]), (none, .mv 8 (S 60))]) (.seq (.seq (.reg [(none, .mv 61 (S 8)), (none, .bin 62 .lss (S 61) (K 0))]) (.cond (S 62) (.seq (.reg [(none, .mv 2 (KB false))]) .ret) .skip)) (.seq (.seq (.reg [(none, .mv 63 (S 8)), (none, .mv 64 (S 7)), (none, .bin 65 .neq (S 63) (S 64))]) (.cond (S 65) (.seq (.reg [(none, .mv 2 (KB false))]) .ret) .skip)) (.seq (.reg [(none, .mv 2 (KB true))]) .ret))))))))))))))))))
theorem e_laws_FnExactParseWindows : entry Tryd.prog 3 = some (c_laws_FnExactParseWindows.strip, [2], 66) := by kernel_rfl
theorem w_laws_FnExactParseWindows (a0 : List UInt8) (r : Bool) (h : f_laws_FnExactParseWindows a0 = some r) : FC Tryd.prog 3 [.sc (.str a0)] [.sc (.v (.bool r))] := by
  unfold f_laws_FnExactParseWindows at h
  refine FC_go (σ := ⟨[(0, vc (aS a0))], [], []⟩) mixed e_laws_FnExactParseWindows rfl rfl ?_
  simp only [c_laws_FnExactParseWindows]
  rcases Bool.eq_false_or_eq_true (decide ((1048576 : Int) < (a0.length : Int))) with hb1 | hb1
  · rw [ite_t hb1] at h
    try simp only [hb1, Nat.reduceBEq, Nat.reduceMul, Nat.reduceAdd, Nat.reduceDiv, Int.reduceBEq, rules2, rulesX, rowsX]
    cases h
    exact ⟨⟨rfl, trivial⟩, rfl⟩
  · rw [ite_f hb1] at h
    obtain ⟨r2, hr2, h⟩ := ob h
    try simp only [hb1, Nat.reduceBEq, Nat.reduceMul, Nat.reduceAdd, Nat.reduceDiv, Int.reduceBEq, rules2, rulesX, rowsX]
    refine go_callI (w_spec_ParseWindows _ _ hr2) rfl rfl (Nat.le_of_ble_eq_true rfl) ?_
    obtain ⟨r3, hr3, h⟩ := ob h
    try simp only [hb1, Nat.reduceBEq, Nat.reduceMul, Nat.reduceAdd, Nat.reduceDiv, Int.reduceBEq, rules2, rulesX, rowsX]
    refine go_callI (w_impl_ParseWindows _ _ hr3) rfl rfl (Nat.le_of_ble_eq_true rfl) ?_
    obtain ⟨r4, hr4, h⟩ := ob h
    try simp only [hb1, Nat.reduceBEq, Nat.reduceMul, Nat.reduceAdd, Nat.reduceDiv, Int.reduceBEq, rules2, rulesX, rowsX]
    refine go_call (w_laws_eqWindowS _ _ _ hr4) rfl (flat_of rfl) rfl (Nat.le_of_ble_eq_true rfl) ?_
    rcases Bool.eq_false_or_eq_true r4 with hb5 | hb5
    · rw [ite_t hb5] at h
      rcases Bool.eq_false_or_eq_true (r3.2 == r2.2) with hb6 | hb6
      · rw [ite_t hb6] at h
        obtain ⟨r7, hr7, h⟩ := ob h
        try simp only [hb1, hb5, hb6, Nat.reduceBEq, Nat.reduceMul, Nat.reduceAdd, Nat.reduceDiv, Int.reduceBEq, rules2, rulesX, rowsX]
        have lrr7 := (l_laws_markWindowS _ _ _ hr7)
        refine go_callx (ids := [1344]) (w_laws_markWindowS _ _ _ hr7) rfl rfl rfl (flatR_cons flatR_nil) (sameLen_cons (l_laws_markWindowS _ _ _ hr7) sameLen_nil) ?_
        obtain ⟨r8, hr8, h⟩ := ob h
        try simp only [hb1, hb5, hb6, Nat.reduceBEq, Nat.reduceMul, Nat.reduceAdd, Nat.reduceDiv, Int.reduceBEq, rules2, rulesX, rowsX]
        refine go_call (w_laws_heldWindowS _ _ _ hr8) rfl (flat_of rfl) rfl (Nat.le_of_ble_eq_true rfl) ?_
        rcases Bool.eq_false_or_eq_true (decide (r8 < (0 : Int))) with hb9 | hb9
        · rw [ite_t hb9] at h
          try simp only [hb1, hb5, hb6, hb9, Nat.reduceBEq, Nat.reduceMul, Nat.reduceAdd, Nat.reduceDiv, Int.reduceBEq, rules2, rulesX, rowsX]
          cases h
          exact ⟨⟨rfl, trivial⟩, rfl⟩
        · rw [ite_f hb9] at h
          rcases Bool.eq_false_or_eq_true (r8 != r7.1) with hb10 | hb10
          · rw [ite_t hb10] at h
            try simp only [hb1, hb5, hb6, hb9, hb10, Nat.reduceBEq, Nat.reduceMul, Nat.reduceAdd, Nat.reduceDiv, Int.reduceBEq, rules2, rulesX, rowsX]
            cases h
            exact ⟨⟨rfl, trivial⟩, rfl⟩
          · rw [ite_f hb10] at h
            obtain ⟨r11, hr11, h⟩ := ob h
            try simp only [hb1, hb5, hb6, hb9, hb10, Nat.reduceBEq, Nat.reduceMul, Nat.reduceAdd, Nat.reduceDiv, Int.reduceBEq, rules2, rulesX, rowsX]
            refine go_callI (w_impl_ParseWindows _ _ hr11) rfl rfl (Nat.le_of_ble_eq_true rfl) ?_
            obtain ⟨r12, hr12, h⟩ := ob h
            try simp only [hb1, hb5, hb6, hb9, hb10, Nat.reduceBEq, Nat.reduceMul, Nat.reduceAdd, Nat.reduceDiv, Int.reduceBEq, rules2, rulesX, rowsX]
            refine go_call (w_laws_eqWindowS _ _ _ hr12) rfl (flat_of rfl) rfl (Nat.le_of_ble_eq_true rfl) ?_
            rcases Bool.eq_false_or_eq_true r12 with hb13 | hb13
            · rw [ite_t hb13] at h
              rcases Bool.eq_false_or_eq_true (r11.2 == r2.2) with hb14 | hb14
              · rw [ite_t hb14] at h
                obtain ⟨r15, hr15, h⟩ := ob h
                try simp only [hb1, hb5, hb6, hb9, hb10, hb13, hb14, Nat.reduceBEq, Nat.reduceMul, Nat.reduceAdd, Nat.reduceDiv, Int.reduceBEq, rules2, rulesX, rowsX]
                refine go_call (w_laws_heldWindowS _ _ _ hr15) rfl (flat_of rfl) rfl (Nat.le_of_ble_eq_true rfl) ?_
                rcases Bool.eq_false_or_eq_true (decide (r15 < (0 : Int))) with hb16 | hb16
                · rw [ite_t hb16] at h
                  try simp only [hb1, hb5, hb6, hb9, hb10, hb13, hb14, hb16, Nat.reduceBEq, Nat.reduceMul, Nat.reduceAdd, Nat.reduceDiv, Int.reduceBEq, rules2, rulesX, rowsX]
                  cases h
                  exact ⟨⟨rfl, trivial⟩, rfl⟩
                · rw [ite_f hb16] at h
                  rcases Bool.eq_false_or_eq_true (r15 != r7.1) with hb17 | hb17
                  · rw [ite_t hb17] at h
                    try simp only [hb1, hb5, hb6, hb9, hb10, hb13, hb14, hb16, hb17, Nat.reduceBEq, Nat.reduceMul, Nat.reduceAdd, Nat.reduceDiv, Int.reduceBEq, rules2, rulesX, rowsX]
                    cases h
                    exact ⟨⟨rfl, trivial⟩, rfl⟩
                  · rw [ite_f hb17] at h
                    try simp only [hb1, hb5, hb6, hb9, hb10, hb13, hb14, hb16, hb17, Nat.reduceBEq, Nat.reduceMul, Nat.reduceAdd, Nat.reduceDiv, Int.reduceBEq, rules2, rulesX, rowsX]
                    cases h
                    exact ⟨⟨rfl, trivial⟩, rfl⟩
              · rw [ite_f hb14] at h
                try simp only [hb1, hb5, hb6, hb9, hb10, hb13, hb14, Nat.reduceBEq, Nat.reduceMul, Nat.reduceAdd, Nat.reduceDiv, Int.reduceBEq, rules2, rulesX, rowsX]
                cases h
                exact ⟨⟨rfl, trivial⟩, rfl⟩
            · rw [ite_f hb13] at h
              try simp only [hb1, hb5, hb6, hb9, hb10, hb13, Nat.reduceBEq, Nat.reduceMul, Nat.reduceAdd, Nat.reduceDiv, Int.reduceBEq, rules2, rulesX, rowsX]
              cases h
              exact ⟨⟨rfl, trivial⟩, rfl⟩
      · rw [ite_f hb6] at h
        try simp only [hb1, hb5, hb6, Nat.reduceBEq, Nat.reduceMul, Nat.reduceAdd, Nat.reduceDiv, Int.reduceBEq, rules2, rulesX, rowsX]
        cases h
        exact ⟨⟨rfl, trivial⟩, rfl⟩
    · rw [ite_f hb5] at h
      try simp only [hb1, hb5, Nat.reduceBEq, Nat.reduceMul, Nat.reduceAdd, Nat.reduceDiv, Int.reduceBEq, rules2, rulesX, rowsX]
      cases h
      exact ⟨⟨rfl, trivial⟩, rfl⟩
end Go.Vi
