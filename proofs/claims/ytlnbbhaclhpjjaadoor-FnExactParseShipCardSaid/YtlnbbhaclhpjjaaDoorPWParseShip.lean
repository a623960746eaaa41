/-
  Walks: what the plain definitions compute is what the functions return. By program. No condition.
-/
import Derived.Test.YtlnbbhaclhpjjaaDoorPNf
import Derived.Test.YtlnbbhaclhpjjaaDoorChecked
import Derived.Test.YtlnbbhaclhpjjaaDoorPSh
import Derived.KernelRfl
namespace Go.Vi
open Go.Proofs
set_option linter.unusedSimpArgs false
set_option linter.unusedVariables false
attribute [local irreducible] go AWP
theorem mixed : Tryd.prog.follows .mixedOrders = true := by kernel_rfl
/- 87: spec_SplitAny -/
def c_spec_SplitAny_2 : ACode := .seq (.reg [(none, .keep [0, 1, 5, 6, 7, 8] [] [576])]) (.seq (.seq (.reg [(none, .mv 16 (S 8)), (none, .mv 17 (S 1)), (none, .slen 18 (S 17)), (none, .bin 19 .lss (S 16) (S 18))]) (.cond (S 19) .skip (.exit 2))) (.seq (.block 3 (.seq (.drw [(some [], (none, .mv 22 (S 0))), (some [], (none, .mv 23 (S 7))), (some [], (none, .idx 24 (S 22) (S 23))), (some [], (none, .mv 25 (S 1))), (some [], (none, .mv 26 (S 8))), (some [], (none, .idx 27 (S 25) (S 26))), (some [], (none, .bin 28 .eql (S 24) (S 27)))]) (.cond (S 28) (.seq (.reg [(none, .mv 29 (S 5)), (none, .mv 30 (S 0)), (none, .mv 31 (S 6)), (none, .mv 32 (S 7)), (none, .sslc 33 (S 30) (some (S 31)) (some (S 32))), (none, .bslice 34 1 [.str []] 1 [(0, (S 33))]), (none, .app 35 1 16 (S 29) (S 34)), (none, .mv 5 (S 35))]) (.seq (.reg [(none, .mv 36 (S 7)), (none, .bin 37 .add (S 36) (K 1)), (none, .mv 6 (S 37))]) (.exit 2))) .skip))) (.reg [(none, .mv 20 (S 8)), (none, .bin 21 .add (S 20) (K 1)), (none, .mv 8 (S 21))])))
def c_spec_SplitAny_3 : ACode := .seq (.reg [(none, .keep [0, 1, 5, 6, 7] [] [576])]) (.reg [(none, .mv 14 (S 7)), (none, .bin 15 .add (S 14) (K 1)), (none, .mv 7 (S 15))])
def c_spec_SplitAny_1 : ACode := .seq (.reg [(none, .keep [0, 1, 5, 6, 7] [] [576])]) (.seq (.seq (.reg [(none, .mv 10 (S 7)), (none, .mv 11 (S 0)), (none, .slen 12 (S 11)), (none, .bin 13 .lss (S 10) (S 12))]) (.cond (S 13) .skip (.exit 0))) (.seq (.block 1 (.seq (.reg [(none, .mv 8 (K 0))]) (.block 2 (.loop c_spec_SplitAny_2)))) c_spec_SplitAny_3))
def c_spec_SplitAny_n1 : ACode := (.seq (.reg [(none, .mv 38 (S 5)), (none, .mv 39 (S 0)), (none, .mv 40 (S 6)), (none, .sslc 41 (S 39) (some (S 40)) none), (none, .bslice 42 1 [.str []] 1 [(0, (S 41))]), (none, .app 43 1 16 (S 38) (S 42)), (none, .mv 4 (S 43))]) .ret)
def c_spec_SplitAny : ACode := (.seq (.reg [(none, .mv 4 KN)]) (.seq (.reg [(none, .bslice 9 1 [.str []] 0 []), (none, .mv 5 (S 9))]) (.seq (.reg [(none, .mv 6 (K 0))]) (.seq (.seq (.reg [(none, .mv 7 (K 0))]) (.block 0 (.loop c_spec_SplitAny_1))) c_spec_SplitAny_n1))))
theorem w_spec_SplitAny_3 (a0 : List UInt8) (a1 : List UInt8) (v2 : Int) (k_spec_SplitAny_1 : Int → Int → (List (List UInt8)) → Option (List (List UInt8))) (hk_spec_SplitAny_1 : ∀ (v1 : Int) (v2 : Int) (v3 : List (List UInt8)) zr, k_spec_SplitAny_1 v1 v2 v3 = some zr → ∀ σ : St, σ.kept [0, 1, 5, 6, 7] [] [576] = ⟨[(0, vc (aS a0)), (1, vc (aS a1)), (5, vc (.own 576)), (6, vc (aI v1)), (7, vc (aI v2))], [], [(576, 1, List.map rS v3)]⟩ → go Tryd.prog (.code (.loop c_spec_SplitAny_1) :: [.blk 0, .code c_spec_SplitAny_n1]) (Ret [4] [.sc (.o 1 (List.map rS zr))]) .normal (some σ)) (v12 : Int) (v13 : List (List UInt8)) (r : (List (List UInt8))) (h : f_spec_SplitAny_3 a0 a1 v2 k_spec_SplitAny_1 v12 v13 = some r) (σ : St) (hσ : σ.kept [0, 1, 5, 6, 7] [] [576] = ⟨[(0, vc (aS a0)), (1, vc (aS a1)), (5, vc (.own 576)), (6, vc (aI v12)), (7, vc (aI v2))], [], [(576, 1, List.map rS v13)]⟩) : go Tryd.prog (.code c_spec_SplitAny_3 :: [.code (.loop c_spec_SplitAny_1), .blk 0, .code c_spec_SplitAny_n1]) (Ret [4] [.sc (.o 1 (List.map rS r))]) .normal (some σ) := by
  unfold f_spec_SplitAny_3 at h
  try simp only [hσ, c_spec_SplitAny_3, Nat.reduceBEq, Nat.reduceMul, Nat.reduceAdd, Nat.reduceDiv, Int.reduceBEq, rules2, rowsX]
  refine hk_spec_SplitAny_1 _ _ _ _ h _ ?_
  try simp only [Nat.reduceBEq, Nat.reduceMul, Nat.reduceAdd, Nat.reduceDiv, Int.reduceBEq, rules2, rowsX, List.map_nil]
theorem w_spec_SplitAny_2 (a0 : List UInt8) (a1 : List UInt8) (v1 : Int) (v2 : Int) (v3 : List (List UInt8)) (k_spec_SplitAny_1 : Int → Int → (List (List UInt8)) → Option (List (List UInt8))) (hk_spec_SplitAny_1 : ∀ (v1 : Int) (v2 : Int) (v3 : List (List UInt8)) zr, k_spec_SplitAny_1 v1 v2 v3 = some zr → ∀ σ : St, σ.kept [0, 1, 5, 6, 7] [] [576] = ⟨[(0, vc (aS a0)), (1, vc (aS a1)), (5, vc (.own 576)), (6, vc (aI v1)), (7, vc (aI v2))], [], [(576, 1, List.map rS v3)]⟩ → go Tryd.prog (.code (.loop c_spec_SplitAny_1) :: [.blk 0, .code c_spec_SplitAny_n1]) (Ret [4] [.sc (.o 1 (List.map rS zr))]) .normal (some σ)) : ∀ (n : Nat) (v5 : Int) (r : (List (List UInt8))), f_spec_SplitAny_2 a0 a1 v1 v2 v3 k_spec_SplitAny_1 n v5 = some r → ∀ σ : St, σ.kept [0, 1, 5, 6, 7, 8] [] [576] = ⟨[(0, vc (aS a0)), (1, vc (aS a1)), (5, vc (.own 576)), (6, vc (aI v1)), (7, vc (aI v2)), (8, vc (aI v5))], [], [(576, 1, List.map rS v3)]⟩ → go Tryd.prog (.code (.loop c_spec_SplitAny_2) :: [.blk 2, .blk 1, .code c_spec_SplitAny_3, .code (.loop c_spec_SplitAny_1), .blk 0, .code c_spec_SplitAny_n1]) (Ret [4] [.sc (.o 1 (List.map rS r))]) .normal (some σ) := by
  intro n
  induction n with
  | zero => intro _ r h; cases h
  | succ n ih =>
    intro v5 r h σ hσ
    rw [f_spec_SplitAny_2] at h
    refine go_round ?_
    rcases Bool.eq_false_or_eq_true (decide (v5 < (a1.length : Int))) with hb6 | hb6
    · rw [ite_t hb6] at h
      try simp only [hσ, hb6, c_spec_SplitAny_2, Nat.reduceBEq, Nat.reduceMul, Nat.reduceAdd, Nat.reduceDiv, Int.reduceBEq, rules2, rowsX]
      refine go_fr_of rfl ?_
      obtain ⟨b7, hb7, h⟩ := ob h
      obtain ⟨b8, hb8, h⟩ := ob h
      rcases Bool.eq_false_or_eq_true ((b7.toNat : Int) == (b8.toNat : Int)) with hb9 | hb9
      · rw [ite_t hb9] at h
        obtain ⟨p10, hp10, h⟩ := ob h
        try simp only [hb6, hb7, hb8, hb9, hp10, Nat.reduceBEq, Nat.reduceMul, Nat.reduceAdd, Nat.reduceDiv, Int.reduceBEq, rules2, rowsX]
        refine go_bsl (es := List.map rS ([((a0.drop p10.1).take (p10.2 - p10.1))] : List (List UInt8))) rfl rfl ?_
        obtain ⟨hg11, h⟩ := of_guard h
        try simp only [hb6, hb7, hb8, hb9, hp10, hg11, Nat.reduceBEq, Nat.reduceMul, Nat.reduceAdd, Nat.reduceDiv, Int.reduceBEq, rules2, rowsX]
        refine w_spec_SplitAny_3 _ _ _ k_spec_SplitAny_1 hk_spec_SplitAny_1 _ _ _ h _ ?_
        try simp only [hb6, hb7, hb8, hb9, hp10, hg11, Nat.reduceBEq, Nat.reduceMul, Nat.reduceAdd, Nat.reduceDiv, Int.reduceBEq, rules2, rowsX, List.map_nil]
      · rw [ite_f hb9] at h
        try simp only [hb6, hb7, hb8, hb9, Nat.reduceBEq, Nat.reduceMul, Nat.reduceAdd, Nat.reduceDiv, Int.reduceBEq, rules2, rowsX]
        refine ih _ _ h _ ?_
        try simp only [hb6, hb7, hb8, hb9, Nat.reduceBEq, Nat.reduceMul, Nat.reduceAdd, Nat.reduceDiv, Int.reduceBEq, rules2, rowsX, List.map_nil]
    · rw [ite_f hb6] at h
      try simp only [hσ, hb6, c_spec_SplitAny_2, Nat.reduceBEq, Nat.reduceMul, Nat.reduceAdd, Nat.reduceDiv, Int.reduceBEq, rules2, rowsX]
      refine w_spec_SplitAny_3 _ _ _ k_spec_SplitAny_1 hk_spec_SplitAny_1 _ _ _ h _ ?_
      try simp only [hb6, Nat.reduceBEq, Nat.reduceMul, Nat.reduceAdd, Nat.reduceDiv, Int.reduceBEq, rules2, rowsX, List.map_nil]
theorem w_spec_SplitAny_1 (a0 : List UInt8) (a1 : List UInt8) : ∀ (n : Nat) (v1 : Int) (v2 : Int) (v3 : List (List UInt8)) (r : (List (List UInt8))), f_spec_SplitAny_1 a0 a1 n v1 v2 v3 = some r → ∀ σ : St, σ.kept [0, 1, 5, 6, 7] [] [576] = ⟨[(0, vc (aS a0)), (1, vc (aS a1)), (5, vc (.own 576)), (6, vc (aI v1)), (7, vc (aI v2))], [], [(576, 1, List.map rS v3)]⟩ → go Tryd.prog (.code (.loop c_spec_SplitAny_1) :: [.blk 0, .code c_spec_SplitAny_n1]) (Ret [4] [.sc (.o 1 (List.map rS r))]) .normal (some σ) := by
  intro n
  induction n with
  | zero => intro _ _ _ r h; cases h
  | succ n ih =>
    intro v1 v2 v3 r h σ hσ
    rw [f_spec_SplitAny_1] at h
    refine go_round ?_
    rcases Bool.eq_false_or_eq_true (decide (v2 < (a0.length : Int))) with hb4 | hb4
    · rw [ite_t hb4] at h
      try simp only [hσ, hb4, c_spec_SplitAny_1, Nat.reduceBEq, Nat.reduceMul, Nat.reduceAdd, Nat.reduceDiv, Int.reduceBEq, rules2, rowsX]
      refine w_spec_SplitAny_2 _ _ _ _ _ (f_spec_SplitAny_1 a0 a1 n) ih _ _ _ h _ ?_
      try simp only [hb4, Nat.reduceBEq, Nat.reduceMul, Nat.reduceAdd, Nat.reduceDiv, Int.reduceBEq, rules2, rowsX, List.map_nil]
    · rw [ite_f hb4] at h
      obtain ⟨p14, hp14, h⟩ := ob h
      try simp only [hσ, hb4, hp14, c_spec_SplitAny_1, c_spec_SplitAny_n1, Nat.reduceBEq, Nat.reduceMul, Nat.reduceAdd, Nat.reduceDiv, Int.reduceBEq, rules2, rowsX]
      refine go_bsl (es := List.map rS ([((a0.drop p14.1).take (p14.2 - p14.1))] : List (List UInt8))) rfl rfl ?_
      obtain ⟨hg15, h⟩ := of_guard h
      try simp only [hb4, hp14, hg15, Nat.reduceBEq, Nat.reduceMul, Nat.reduceAdd, Nat.reduceDiv, Int.reduceBEq, rules2, rowsX]
      cases h
      exact ⟨⟨rfl, trivial⟩, rfl⟩
theorem e_spec_SplitAny : entry Tryd.prog 87 = some (c_spec_SplitAny.strip, [4], 44) := by kernel_rfl
theorem w_spec_SplitAny (a0 : List UInt8) (a1 : List UInt8) (r : (List (List UInt8))) (h : f_spec_SplitAny a0 a1 = some r) : FC Tryd.prog 87 [.sc (.str a0), .sc (.str a1)] [.sc (.o 1 (List.map rS r))] := by
  unfold f_spec_SplitAny at h
  refine FC_go (σ := ⟨[(0, vc (aS a0)), (1, vc (aS a1))], [], []⟩) mixed e_spec_SplitAny rfl rfl ?_
  simp only [c_spec_SplitAny]
  try simp only [Nat.reduceBEq, Nat.reduceMul, Nat.reduceAdd, Nat.reduceDiv, Int.reduceBEq, rules2, rowsX]
  refine go_bsl (es := List.map rS ([] : List (List UInt8))) rfl rfl ?_
  try simp only [Nat.reduceBEq, Nat.reduceMul, Nat.reduceAdd, Nat.reduceDiv, Int.reduceBEq, rules2, rowsX]
  refine w_spec_SplitAny_1 _ _ _ _ _ _ _ h _ ?_
  try simp only [Nat.reduceBEq, Nat.reduceMul, Nat.reduceAdd, Nat.reduceDiv, Int.reduceBEq, rules2, rowsX, List.map_nil]
/- 110: spec_IsDigits -/
def c_spec_IsDigits_1 : ACode := .seq (.reg [(none, .keep [0, 3] [] [])]) (.seq (.seq (.reg [(none, .mv 4 (S 3)), (none, .mv 5 (S 0)), (none, .slen 6 (S 5)), (none, .bin 7 .lss (S 4) (S 6))]) (.cond (S 7) .skip (.exit 0))) (.seq (.block 1 (.seq (.reg [(none, .mv 10 (S 0)), (none, .mv 11 (S 3)), (none, .idx 12 (S 10) (S 11)), (none, .bin 13 .lss (S 12) (K8 48)), (none, .mv 14 (S 13)), (some (14, false), .mv 15 (S 0)), (some (14, false), .mv 16 (S 3)), (some (14, false), .idx 17 (S 15) (S 16)), (some (14, false), .bin 18 .gtr (S 17) (K8 57)), (none, .pick 19 (S 14) (KB true) (S 18))]) (.cond (S 19) (.seq (.reg [(none, .mv 2 (KB false))]) .ret) .skip))) (.reg [(none, .mv 8 (S 3)), (none, .bin 9 .add (S 8) (K 1)), (none, .mv 3 (S 9))])))
def c_spec_IsDigits_n1 : ACode := (.seq (.reg [(none, .mv 20 (S 0)), (none, .slen 21 (S 20)), (none, .bin 22 .gtr (S 21) (K 0)), (none, .mv 2 (S 22))]) .ret)
def c_spec_IsDigits : ACode := (.seq (.reg [(none, .mv 2 (KB false))]) (.seq (.seq (.reg [(none, .mv 3 (K 0))]) (.block 0 (.loop c_spec_IsDigits_1))) c_spec_IsDigits_n1))
theorem w_spec_IsDigits_1 (a0 : List UInt8) : ∀ (n : Nat) (v1 : Int) (r : Bool), f_spec_IsDigits_1 a0 n v1 = some r → ∀ σ : St, σ.kept [0, 3] [] [] = ⟨[(0, vc (aS a0)), (3, vc (aI v1))], [], []⟩ → go Tryd.prog (.code (.loop c_spec_IsDigits_1) :: [.blk 0, .code c_spec_IsDigits_n1]) (Ret [2] [.sc (.v (.bool r))]) .normal (some σ) := by
  intro n
  induction n with
  | zero => intro _ r h; cases h
  | succ n ih =>
    intro v1 r h σ hσ
    rw [f_spec_IsDigits_1] at h
    refine go_round ?_
    rcases Bool.eq_false_or_eq_true (decide (v1 < (a0.length : Int))) with hb2 | hb2
    · rw [ite_t hb2] at h
      obtain ⟨b3, hb3, h⟩ := ob h
      rcases Bool.eq_false_or_eq_true (decide ((b3.toNat : Int) < (48 : Int))) with hb4 | hb4
      · rw [ite_t hb4] at h
        try simp only [hσ, hb2, hb3, hb4, c_spec_IsDigits_1, Nat.reduceBEq, Nat.reduceMul, Nat.reduceAdd, Nat.reduceDiv, Int.reduceBEq, rules2, rowsX]
        cases h
        exact ⟨⟨rfl, trivial⟩, rfl⟩
      · rw [ite_f hb4] at h
        rcases Bool.eq_false_or_eq_true (decide ((57 : Int) < (b3.toNat : Int))) with hb5 | hb5
        · rw [ite_t hb5] at h
          try simp only [hσ, hb2, hb3, hb4, hb5, c_spec_IsDigits_1, Nat.reduceBEq, Nat.reduceMul, Nat.reduceAdd, Nat.reduceDiv, Int.reduceBEq, rules2, rowsX]
          cases h
          exact ⟨⟨rfl, trivial⟩, rfl⟩
        · rw [ite_f hb5] at h
          try simp only [hσ, hb2, hb3, hb4, hb5, c_spec_IsDigits_1, Nat.reduceBEq, Nat.reduceMul, Nat.reduceAdd, Nat.reduceDiv, Int.reduceBEq, rules2, rowsX]
          refine ih _ _ h _ ?_
          try simp only [hb2, hb3, hb4, hb5, Nat.reduceBEq, Nat.reduceMul, Nat.reduceAdd, Nat.reduceDiv, Int.reduceBEq, rules2, rowsX, List.map_nil]
    · rw [ite_f hb2] at h
      try simp only [hσ, hb2, c_spec_IsDigits_1, c_spec_IsDigits_n1, Nat.reduceBEq, Nat.reduceMul, Nat.reduceAdd, Nat.reduceDiv, Int.reduceBEq, rules2, rowsX]
      cases h
      exact ⟨⟨rfl, trivial⟩, rfl⟩
theorem e_spec_IsDigits : entry Tryd.prog 110 = some (c_spec_IsDigits.strip, [2], 23) := by kernel_rfl
theorem w_spec_IsDigits (a0 : List UInt8) (r : Bool) (h : f_spec_IsDigits a0 = some r) : FC Tryd.prog 110 [.sc (.str a0)] [.sc (.v (.bool r))] := by
  unfold f_spec_IsDigits at h
  refine FC_go (σ := ⟨[(0, vc (aS a0))], [], []⟩) mixed e_spec_IsDigits rfl rfl ?_
  simp only [c_spec_IsDigits]
  try simp only [Nat.reduceBEq, Nat.reduceMul, Nat.reduceAdd, Nat.reduceDiv, Int.reduceBEq, rules2, rowsX]
  refine w_spec_IsDigits_1 _ _ _ _ h _ ?_
  try simp only [Nat.reduceBEq, Nat.reduceMul, Nat.reduceAdd, Nat.reduceDiv, Int.reduceBEq, rules2, rowsX, List.map_nil]
/- 52: spec_FormatInt -/
def c_spec_FormatInt_1 : ACode := .seq (.reg [(none, .keep [0, 3] [] [])]) (.seq (.seq (.reg [(none, .mv 25 (S 0)), (none, .bin 26 .gtr (S 25) (K 9))]) (.cond (S 26) .skip (.exit 0))) (.block 1 (.seq (.reg [(none, .mv 27 (S 0)), (none, .bin 28 .rem (S 27) (K 10)), (none, .bin 29 .add (K 48) (S 28)), (none, .conv 30 .u8 (S 29)), (none, .bslice 31 1 [.int .u8 0] 1 [(0, (S 30))]), (none, .sconv 32 (S 31)), (none, .mv 33 (S 3)), (none, .bin 34 .add (S 32) (S 33)), (none, .mv 3 (S 34))]) (.reg [(none, .mv 35 (S 0)), (none, .bin 36 .quo (S 35) (K 10)), (none, .mv 0 (S 36))]))))
def c_spec_FormatInt_n1 : ACode := (.seq (.reg [(none, .mv 37 (S 0)), (none, .bin 38 .add (K 48) (S 37)), (none, .conv 39 .u8 (S 38)), (none, .bslice 40 1 [.int .u8 0] 1 [(0, (S 39))]), (none, .sconv 41 (S 40)), (none, .mv 42 (S 3)), (none, .bin 43 .add (S 41) (S 42)), (none, .mv 2 (S 43))]) .ret)
def c_spec_FormatInt : ACode := (.seq (.reg [(none, .mv 2 (KS []))]) (.seq (.seq (.reg [(none, .mv 4 (S 0)), (none, .bin 5 .lss (S 4) (K 0))]) (.cond (S 5) (.seq (.seq (.reg [(none, .mv 6 (S 0)), (none, .bin 7 .quo (S 6) (K 10)), (none, .bin 8 .eql (S 7) (K 0))]) (.cond (S 8) (.seq (.reg [(none, .mv 9 (S 0)), (none, .bin 10 .sub (K 48) (S 9)), (none, .conv 11 .u8 (S 10)), (none, .bslice 12 1 [.int .u8 0] 1 [(0, (S 11))]), (none, .sconv 13 (S 12)), (none, .bin 14 .add (KS [45]) (S 13)), (none, .mv 2 (S 14))]) .ret) .skip)) (.seq (.drw [(some [22], (none, .mv 15 (S 0))), (some [22], (none, .bin 16 .quo (S 15) (K 10))), (some [22], (none, .call 17 52 [(S 16)])), (some [17], (none, .mv 18 (S 0))), (some [17], (none, .bin 19 .rem (S 18) (K 10))), (some [17], (none, .bin 20 .sub (K 48) (S 19))), (some [17], (none, .conv 21 .u8 (S 20))), (some [17], (none, .bslice 22 1 [.int .u8 0] 1 [(0, (S 21))])), (some [17], (none, .sconv 23 (S 22))), (some [], (none, .bin 24 .add (S 17) (S 23))), (some [], (none, .mv 2 (S 24)))]) .ret)) .skip)) (.seq (.reg [(none, .mv 3 (KS []))]) (.seq (.block 0 (.loop c_spec_FormatInt_1)) c_spec_FormatInt_n1))))
theorem w_spec_FormatInt_1 (rec_ : Int → Option (List UInt8)) (h_rec : ∀ (a0 : Int) zr, rec_ a0 = some zr → FC Tryd.prog 52 [.sc (.int .i64 a0)] [.sc (.v (.str zr))]) : ∀ (n : Nat) (v6 : Int) (v7 : List UInt8) (r : (List UInt8)), f_spec_FormatInt_1 rec_ n v6 v7 = some r → ∀ σ : St, σ.kept [0, 3] [] [] = ⟨[(0, vc (aI v6)), (3, vc (aS v7))], [], []⟩ → go Tryd.prog (.code (.loop c_spec_FormatInt_1) :: [.blk 0, .code c_spec_FormatInt_n1]) (Ret [2] [.sc (.v (.str r))]) .normal (some σ) := by
  intro n
  induction n with
  | zero => intro _ _ r h; cases h
  | succ n ih =>
    intro v6 v7 r h σ hσ
    rw [f_spec_FormatInt_1] at h
    refine go_round ?_
    rcases Bool.eq_false_or_eq_true (decide ((9 : Int) < v6)) with hb8 | hb8
    · rw [ite_t hb8] at h
      try simp only [hσ, hb8, c_spec_FormatInt_1, Nat.reduceBEq, Nat.reduceMul, Nat.reduceAdd, Nat.reduceDiv, Int.reduceBEq, rules2, rowsX]
      refine go_bsl (es := List.map r8 ([(IntKind.u8.wrap (IntKind.i64.wrap ((48 : Int) + (IntKind.i64.wrap (Int.tmod v6 (10 : Int))))))] : List Int)) rfl rfl ?_
      obtain ⟨hg9, h⟩ := of_guard h
      try simp only [hb8, hg9, Nat.reduceBEq, Nat.reduceMul, Nat.reduceAdd, Nat.reduceDiv, Int.reduceBEq, rules2, rowsX]
      refine ih _ _ _ h _ ?_
      try simp only [hb8, hg9, Nat.reduceBEq, Nat.reduceMul, Nat.reduceAdd, Nat.reduceDiv, Int.reduceBEq, rules2, rowsX, List.map_nil]
    · rw [ite_f hb8] at h
      try simp only [hσ, hb8, c_spec_FormatInt_1, c_spec_FormatInt_n1, Nat.reduceBEq, Nat.reduceMul, Nat.reduceAdd, Nat.reduceDiv, Int.reduceBEq, rules2, rowsX]
      refine go_bsl (es := List.map r8 ([(IntKind.u8.wrap (IntKind.i64.wrap ((48 : Int) + v6)))] : List Int)) rfl rfl ?_
      obtain ⟨hg10, h⟩ := of_guard h
      try simp only [hb8, hg10, Nat.reduceBEq, Nat.reduceMul, Nat.reduceAdd, Nat.reduceDiv, Int.reduceBEq, rules2, rowsX]
      cases h
      exact ⟨⟨rfl, trivial⟩, rfl⟩
theorem e_spec_FormatInt : entry Tryd.prog 52 = some (c_spec_FormatInt.strip, [2], 44) := by kernel_rfl
theorem w_spec_FormatInt_b (rec_ : Int → Option (List UInt8)) (a0 : Int) (r : (List UInt8)) (h_rec : ∀ (a0 : Int) zr, rec_ a0 = some zr → FC Tryd.prog 52 [.sc (.int .i64 a0)] [.sc (.v (.str zr))]) (h : f_spec_FormatInt_b rec_ a0 = some r) : FC Tryd.prog 52 [.sc (.int .i64 a0)] [.sc (.v (.str r))] := by
  unfold f_spec_FormatInt_b at h
  refine FC_go (σ := ⟨[(0, vc (aI a0))], [], []⟩) mixed e_spec_FormatInt rfl rfl ?_
  simp only [c_spec_FormatInt]
  rcases Bool.eq_false_or_eq_true (decide (a0 < (0 : Int))) with hb1 | hb1
  · rw [ite_t hb1] at h
    rcases Bool.eq_false_or_eq_true ((IntKind.i64.wrap (Int.tdiv a0 (10 : Int))) == (0 : Int)) with hb2 | hb2
    · rw [ite_t hb2] at h
      try simp only [hb1, hb2, Nat.reduceBEq, Nat.reduceMul, Nat.reduceAdd, Nat.reduceDiv, Int.reduceBEq, rules2, rowsX]
      refine go_bsl (es := List.map r8 ([(IntKind.u8.wrap (IntKind.i64.wrap ((48 : Int) - a0)))] : List Int)) rfl rfl ?_
      obtain ⟨hg3, h⟩ := of_guard h
      try simp only [hb1, hb2, hg3, Nat.reduceBEq, Nat.reduceMul, Nat.reduceAdd, Nat.reduceDiv, Int.reduceBEq, rules2, rowsX]
      cases h
      exact ⟨⟨rfl, trivial⟩, rfl⟩
    · rw [ite_f hb2] at h
      try simp only [hb1, hb2, Nat.reduceBEq, Nat.reduceMul, Nat.reduceAdd, Nat.reduceDiv, Int.reduceBEq, rules2, rowsX]
      refine go_fr_of rfl ?_
      obtain ⟨r4, hr4, h⟩ := ob h
      try simp only [hb1, hb2, Nat.reduceBEq, Nat.reduceMul, Nat.reduceAdd, Nat.reduceDiv, Int.reduceBEq, rules2, rowsX]
      refine go_dcallI (h_rec _ _ hr4) rfl rfl (Nat.le_of_ble_eq_true rfl) ?_
      try simp only [hb1, hb2, Nat.reduceBEq, Nat.reduceMul, Nat.reduceAdd, Nat.reduceDiv, Int.reduceBEq, rules2, rowsX]
      refine go_mkN (m := .row 22 1 (List.map r8 ([(IntKind.u8.wrap (IntKind.i64.wrap ((48 : Int) - (IntKind.i64.wrap (Int.tmod a0 (10 : Int))))))] : List Int))) rfl rfl (make_row rfl) ?_
      obtain ⟨hg5, h⟩ := of_guard h
      try simp only [hb1, hb2, hg5, Nat.reduceBEq, Nat.reduceMul, Nat.reduceAdd, Nat.reduceDiv, Int.reduceBEq, rules2, rowsX]
      cases h
      exact ⟨⟨rfl, trivial⟩, rfl⟩
  · rw [ite_f hb1] at h
    try simp only [hb1, Nat.reduceBEq, Nat.reduceMul, Nat.reduceAdd, Nat.reduceDiv, Int.reduceBEq, rules2, rowsX]
    refine w_spec_FormatInt_1 rec_ h_rec _ _ _ _ h _ ?_
    try simp only [hb1, Nat.reduceBEq, Nat.reduceMul, Nat.reduceAdd, Nat.reduceDiv, Int.reduceBEq, rules2, rowsX, List.map_nil]
theorem w_spec_FormatInt_r : ∀ (n : Nat) (a0 : Int) (r : (List UInt8)), f_spec_FormatInt_r n a0 = some r → FC Tryd.prog 52 [.sc (.int .i64 a0)] [.sc (.v (.str r))] := by
  intro n
  induction n with
  | zero => intro _ r h; cases h
  | succ n ih => intro a0 r h; rw [f_spec_FormatInt_r] at h; exact w_spec_FormatInt_b (f_spec_FormatInt_r n) a0 r ih h
theorem w_spec_FormatInt (a0 : Int) (r : (List UInt8)) (h : f_spec_FormatInt a0 = some r) : FC Tryd.prog 52 [.sc (.int .i64 a0)] [.sc (.v (.str r))] := w_spec_FormatInt_r bigN a0 r h
/- 88: spec_ParseInt -/
def c_spec_ParseInt_3 : ACode := .seq (.reg [(none, .keep [0, 4, 5, 28] [] [])]) (.cond (S 28) (.seq (.reg [(none, .mv 2 (K 0)), (none, .mv 3 (KB false))]) .ret) .skip)
def c_spec_ParseInt_4 : ACode := .seq (.reg [(none, .keep [0, 4, 5, 6, 7] [] [])]) (.seq (.seq (.reg [(none, .mv 29 (S 7)), (none, .mv 30 (S 5)), (none, .slen 31 (S 30)), (none, .bin 32 .lss (S 29) (S 31))]) (.cond (S 32) .skip (.exit 0))) (.seq (.block 1 (.seq (.reg [(none, .mv 35 (S 5)), (none, .mv 36 (S 7)), (none, .idx 37 (S 35) (S 36)), (none, .conv 38 .i64 (S 37)), (none, .bin 39 .sub (S 38) (K 48)), (none, .mv 8 (S 39))]) (.seq (.seq (.reg [(none, .mv 40 (S 6)), (none, .mv 41 (S 8)), (none, .bin 42 .add (K (-9223372036854775808)) (S 41)), (none, .bin 43 .quo (S 42) (K 10)), (none, .bin 44 .lss (S 40) (S 43))]) (.cond (S 44) (.seq (.reg [(none, .mv 2 (K 0)), (none, .mv 3 (KB false))]) .ret) .skip)) (.reg [(none, .mv 45 (S 6)), (none, .bin 46 .mul (S 45) (K 10)), (none, .mv 47 (S 8)), (none, .bin 48 .sub (S 46) (S 47)), (none, .mv 6 (S 48))])))) (.reg [(none, .mv 33 (S 7)), (none, .bin 34 .add (S 33) (K 1)), (none, .mv 7 (S 34))])))
def c_spec_ParseInt_5 : ACode := .seq (.reg [(none, .keep [0, 6] [] [])]) (.seq (.seq (.reg [(none, .mv 55 (S 6)), (none, .call 56 52 [(S 55)]), (none, .mv 57 (S 0)), (none, .bin 58 .neq (S 56) (S 57))]) (.cond (S 58) (.seq (.reg [(none, .mv 2 (K 0)), (none, .mv 3 (KB false))]) .ret) .skip)) (.seq (.reg [(none, .mv 59 (S 6)), (none, .mv 2 (S 59)), (none, .mv 3 (KB true))]) .ret))
def c_spec_ParseInt_n2 : ACode := (.seq (.seq (.reg [(none, .mv 49 (S 4)), (none, .un 50 .not (S 49))]) (.cond (S 50) (.seq (.seq (.reg [(none, .mv 51 (S 6)), (none, .bin 52 .eql (S 51) (K (-9223372036854775808)))]) (.cond (S 52) (.seq (.reg [(none, .mv 2 (K 0)), (none, .mv 3 (KB false))]) .ret) .skip)) (.reg [(none, .mv 53 (S 6)), (none, .un 54 .neg (S 53)), (none, .mv 6 (S 54))])) .skip)) c_spec_ParseInt_5)
def c_spec_ParseInt_n1 : ACode := (.seq (.reg [(none, .mv 6 (K 0))]) (.seq (.seq (.reg [(none, .mv 7 (K 0))]) (.block 0 (.loop c_spec_ParseInt_4))) c_spec_ParseInt_n2))
def c_spec_ParseInt_2 : ACode := .seq (.reg [(none, .keep [0, 4, 5] [] [])]) (.seq (.seq (.reg [(none, .mv 21 (S 5)), (none, .call 22 110 [(S 21)]), (none, .un 23 .not (S 22)), (none, .mv 24 (S 23)), (some (24, false), .mv 25 (S 5)), (some (24, false), .slen 26 (S 25)), (some (24, false), .bin 27 .gtr (S 26) (K 19)), (none, .pick 28 (S 24) (KB true) (S 27))]) c_spec_ParseInt_3) c_spec_ParseInt_n1)
def c_spec_ParseInt_1 : ACode := .seq (.reg [(none, .keep [0, 4] [] [])]) (.seq (.reg [(none, .mv 17 (S 0)), (none, .mv 5 (S 17))]) (.seq (.seq (.reg [(none, .mv 18 (S 4))]) (.cond (S 18) (.reg [(none, .mv 19 (S 0)), (none, .sslc 20 (S 19) (some (K 1)) none), (none, .mv 5 (S 20))]) .skip)) c_spec_ParseInt_2))
def c_spec_ParseInt : ACode := (.seq (.reg [(none, .mv 2 (K 0)), (none, .mv 3 (KB false))]) (.seq (.reg [(none, .mv 9 (S 0)), (none, .slen 10 (S 9)), (none, .bin 11 .gtr (S 10) (K 0)), (none, .mv 12 (S 11)), (some (12, true), .mv 13 (S 0)), (some (12, true), .idx 14 (S 13) (K 0)), (some (12, true), .bin 15 .eql (S 14) (K8 45)), (none, .pick 16 (S 12) (S 15) (KB false)), (none, .mv 4 (S 16))]) c_spec_ParseInt_1))
theorem w_spec_ParseInt_5 (a0 : List UInt8) (v19 : Int) (r : Int × Bool) (h : f_spec_ParseInt_5 a0 v19 = some r) (σ : St) (hσ : σ.kept [0, 6] [] [] = ⟨[(0, vc (aS a0)), (6, vc (aI v19))], [], []⟩) : go Tryd.prog (.code c_spec_ParseInt_5 :: []) (Ret [2, 3] [.sc (.v (.int .i64 r.1)), .sc (.v (.bool r.2))]) .normal (some σ) := by
  unfold f_spec_ParseInt_5 at h
  obtain ⟨r20, hr20, h⟩ := ob h
  try simp only [hσ, c_spec_ParseInt_5, Nat.reduceBEq, Nat.reduceMul, Nat.reduceAdd, Nat.reduceDiv, Int.reduceBEq, rules2, rowsX]
  refine go_callI (w_spec_FormatInt _ _ hr20) rfl rfl (Nat.le_of_ble_eq_true rfl) ?_
  rcases Bool.eq_false_or_eq_true (r20 == a0) with hb21 | hb21
  · rw [ite_t hb21] at h
    try simp only [hb21, Nat.reduceBEq, Nat.reduceMul, Nat.reduceAdd, Nat.reduceDiv, Int.reduceBEq, rules2, rowsX]
    cases h
    exact ⟨⟨rfl, rfl, trivial⟩, rfl⟩
  · rw [ite_f hb21] at h
    try simp only [hb21, Nat.reduceBEq, Nat.reduceMul, Nat.reduceAdd, Nat.reduceDiv, Int.reduceBEq, rules2, rowsX]
    cases h
    exact ⟨⟨rfl, rfl, trivial⟩, rfl⟩
theorem w_spec_ParseInt_4 (a0 : List UInt8) (v6 : Bool) (v7 : List UInt8) : ∀ (n : Nat) (v12 : Int) (v13 : Int) (r : Int × Bool), f_spec_ParseInt_4 a0 v6 v7 n v12 v13 = some r → ∀ σ : St, σ.kept [0, 4, 5, 6, 7] [] [] = ⟨[(0, vc (aS a0)), (4, vc (aB v6)), (5, vc (aS v7)), (6, vc (aI v12)), (7, vc (aI v13))], [], []⟩ → go Tryd.prog (.code (.loop c_spec_ParseInt_4) :: [.blk 0, .code c_spec_ParseInt_n2]) (Ret [2, 3] [.sc (.v (.int .i64 r.1)), .sc (.v (.bool r.2))]) .normal (some σ) := by
  intro n
  induction n with
  | zero => intro _ _ r h; cases h
  | succ n ih =>
    intro v12 v13 r h σ hσ
    rw [f_spec_ParseInt_4] at h
    refine go_round ?_
    rcases Bool.eq_false_or_eq_true (decide (v13 < (v7.length : Int))) with hb14 | hb14
    · rw [ite_t hb14] at h
      obtain ⟨b15, hb15, h⟩ := ob h
      rcases Bool.eq_false_or_eq_true (decide (v12 < (IntKind.i64.wrap (Int.tdiv (IntKind.i64.wrap ((-9223372036854775808 : Int) + (IntKind.i64.wrap ((IntKind.i64.wrap (b15.toNat : Int)) - (48 : Int))))) (10 : Int))))) with hb16 | hb16
      · rw [ite_t hb16] at h
        try simp only [hσ, hb14, hb15, hb16, c_spec_ParseInt_4, Nat.reduceBEq, Nat.reduceMul, Nat.reduceAdd, Nat.reduceDiv, Int.reduceBEq, rules2, rowsX]
        cases h
        exact ⟨⟨rfl, rfl, trivial⟩, rfl⟩
      · rw [ite_f hb16] at h
        try simp only [hσ, hb14, hb15, hb16, c_spec_ParseInt_4, Nat.reduceBEq, Nat.reduceMul, Nat.reduceAdd, Nat.reduceDiv, Int.reduceBEq, rules2, rowsX]
        refine ih _ _ _ h _ ?_
        try simp only [hb14, hb15, hb16, Nat.reduceBEq, Nat.reduceMul, Nat.reduceAdd, Nat.reduceDiv, Int.reduceBEq, rules2, rowsX, List.map_nil]
    · rw [ite_f hb14] at h
      rcases Bool.eq_false_or_eq_true v6 with hb17 | hb17
      · rw [ite_t hb17] at h
        try simp only [hσ, hb14, hb17, c_spec_ParseInt_4, c_spec_ParseInt_n2, Nat.reduceBEq, Nat.reduceMul, Nat.reduceAdd, Nat.reduceDiv, Int.reduceBEq, rules2, rowsX]
        refine w_spec_ParseInt_5 _ _ _ h _ ?_
        try simp only [hb14, hb17, Nat.reduceBEq, Nat.reduceMul, Nat.reduceAdd, Nat.reduceDiv, Int.reduceBEq, rules2, rowsX, List.map_nil]
      · rw [ite_f hb17] at h
        rcases Bool.eq_false_or_eq_true (v12 == (-9223372036854775808 : Int)) with hb18 | hb18
        · rw [ite_t hb18] at h
          try simp only [hσ, hb14, hb17, hb18, c_spec_ParseInt_4, c_spec_ParseInt_n2, Nat.reduceBEq, Nat.reduceMul, Nat.reduceAdd, Nat.reduceDiv, Int.reduceBEq, rules2, rowsX]
          cases h
          exact ⟨⟨rfl, rfl, trivial⟩, rfl⟩
        · rw [ite_f hb18] at h
          try simp only [hσ, hb14, hb17, hb18, c_spec_ParseInt_4, c_spec_ParseInt_n2, Nat.reduceBEq, Nat.reduceMul, Nat.reduceAdd, Nat.reduceDiv, Int.reduceBEq, rules2, rowsX]
          refine w_spec_ParseInt_5 _ _ _ h _ ?_
          try simp only [hb14, hb17, hb18, Nat.reduceBEq, Nat.reduceMul, Nat.reduceAdd, Nat.reduceDiv, Int.reduceBEq, rules2, rowsX, List.map_nil]
theorem w_spec_ParseInt_3 (a0 : List UInt8) (v6 : Bool) (v7 : List UInt8) (v10 : Bool) (r : Int × Bool) (h : f_spec_ParseInt_3 a0 v6 v7 v10 = some r) (σ : St) (hσ : σ.kept [0, 4, 5, 28] [] [] = ⟨[(0, vc (aS a0)), (4, vc (aB v6)), (5, vc (aS v7)), (28, vc (aB v10))], [], []⟩) : go Tryd.prog (.code c_spec_ParseInt_3 :: [.code c_spec_ParseInt_n1]) (Ret [2, 3] [.sc (.v (.int .i64 r.1)), .sc (.v (.bool r.2))]) .normal (some σ) := by
  unfold f_spec_ParseInt_3 at h
  rcases Bool.eq_false_or_eq_true v10 with hb11 | hb11
  · rw [ite_t hb11] at h
    try simp only [hσ, hb11, c_spec_ParseInt_3, Nat.reduceBEq, Nat.reduceMul, Nat.reduceAdd, Nat.reduceDiv, Int.reduceBEq, rules2, rowsX]
    cases h
    exact ⟨⟨rfl, rfl, trivial⟩, rfl⟩
  · rw [ite_f hb11] at h
    try simp only [hσ, hb11, c_spec_ParseInt_3, c_spec_ParseInt_n1, Nat.reduceBEq, Nat.reduceMul, Nat.reduceAdd, Nat.reduceDiv, Int.reduceBEq, rules2, rowsX]
    refine w_spec_ParseInt_4 _ _ _ _ _ _ _ h _ ?_
    try simp only [hb11, Nat.reduceBEq, Nat.reduceMul, Nat.reduceAdd, Nat.reduceDiv, Int.reduceBEq, rules2, rowsX, List.map_nil]
theorem w_spec_ParseInt_2 (a0 : List UInt8) (v6 : Bool) (v7 : List UInt8) (r : Int × Bool) (h : f_spec_ParseInt_2 a0 v6 v7 = some r) (σ : St) (hσ : σ.kept [0, 4, 5] [] [] = ⟨[(0, vc (aS a0)), (4, vc (aB v6)), (5, vc (aS v7))], [], []⟩) : go Tryd.prog (.code c_spec_ParseInt_2 :: []) (Ret [2, 3] [.sc (.v (.int .i64 r.1)), .sc (.v (.bool r.2))]) .normal (some σ) := by
  unfold f_spec_ParseInt_2 at h
  obtain ⟨r8, hr8, h⟩ := ob h
  try simp only [hσ, c_spec_ParseInt_2, Nat.reduceBEq, Nat.reduceMul, Nat.reduceAdd, Nat.reduceDiv, Int.reduceBEq, rules2, rowsX]
  refine go_callI (w_spec_IsDigits _ _ hr8) rfl rfl (Nat.le_of_ble_eq_true rfl) ?_
  rcases Bool.eq_false_or_eq_true r8 with hb9 | hb9
  · rw [ite_t hb9] at h
    try simp only [hb9, Nat.reduceBEq, Nat.reduceMul, Nat.reduceAdd, Nat.reduceDiv, Int.reduceBEq, rules2, rowsX]
    refine w_spec_ParseInt_3 _ _ _ _ _ h _ ?_
    try simp only [hb9, Nat.reduceBEq, Nat.reduceMul, Nat.reduceAdd, Nat.reduceDiv, Int.reduceBEq, rules2, rowsX, List.map_nil]
  · rw [ite_f hb9] at h
    try simp only [hb9, Nat.reduceBEq, Nat.reduceMul, Nat.reduceAdd, Nat.reduceDiv, Int.reduceBEq, rules2, rowsX]
    refine w_spec_ParseInt_3 _ _ _ _ _ h _ ?_
    try simp only [hb9, Nat.reduceBEq, Nat.reduceMul, Nat.reduceAdd, Nat.reduceDiv, Int.reduceBEq, rules2, rowsX, List.map_nil]
theorem w_spec_ParseInt_1 (a0 : List UInt8) (v3 : Bool) (r : Int × Bool) (h : f_spec_ParseInt_1 a0 v3 = some r) (σ : St) (hσ : σ.kept [0, 4] [] [] = ⟨[(0, vc (aS a0)), (4, vc (aB v3))], [], []⟩) : go Tryd.prog (.code c_spec_ParseInt_1 :: []) (Ret [2, 3] [.sc (.v (.int .i64 r.1)), .sc (.v (.bool r.2))]) .normal (some σ) := by
  unfold f_spec_ParseInt_1 at h
  rcases Bool.eq_false_or_eq_true v3 with hb4 | hb4
  · rw [ite_t hb4] at h
    obtain ⟨p5, hp5, h⟩ := ob h
    try simp only [hσ, hb4, hp5, c_spec_ParseInt_1, Nat.reduceBEq, Nat.reduceMul, Nat.reduceAdd, Nat.reduceDiv, Int.reduceBEq, rules2, rowsX]
    refine w_spec_ParseInt_2 _ _ _ _ h _ ?_
    try simp only [hb4, hp5, Nat.reduceBEq, Nat.reduceMul, Nat.reduceAdd, Nat.reduceDiv, Int.reduceBEq, rules2, rowsX, List.map_nil]
  · rw [ite_f hb4] at h
    try simp only [hσ, hb4, c_spec_ParseInt_1, Nat.reduceBEq, Nat.reduceMul, Nat.reduceAdd, Nat.reduceDiv, Int.reduceBEq, rules2, rowsX]
    refine w_spec_ParseInt_2 _ _ _ _ h _ ?_
    try simp only [hb4, Nat.reduceBEq, Nat.reduceMul, Nat.reduceAdd, Nat.reduceDiv, Int.reduceBEq, rules2, rowsX, List.map_nil]
theorem e_spec_ParseInt : entry Tryd.prog 88 = some (c_spec_ParseInt.strip, [2, 3], 60) := by kernel_rfl
theorem w_spec_ParseInt (a0 : List UInt8) (r : Int × Bool) (h : f_spec_ParseInt a0 = some r) : FC Tryd.prog 88 [.sc (.str a0)] [.sc (.v (.int .i64 r.1)), .sc (.v (.bool r.2))] := by
  unfold f_spec_ParseInt at h
  refine FC_go (σ := ⟨[(0, vc (aS a0))], [], []⟩) mixed e_spec_ParseInt rfl rfl ?_
  simp only [c_spec_ParseInt]
  rcases Bool.eq_false_or_eq_true (decide ((0 : Int) < (a0.length : Int))) with hb1 | hb1
  · rw [ite_t hb1] at h
    obtain ⟨b2, hb2, h⟩ := ob h
    try simp only [hb1, hb2, Nat.reduceBEq, Nat.reduceMul, Nat.reduceAdd, Nat.reduceDiv, Int.reduceBEq, rules2, rowsX]
    refine w_spec_ParseInt_1 _ _ _ h _ ?_
    try simp only [hb1, hb2, Nat.reduceBEq, Nat.reduceMul, Nat.reduceAdd, Nat.reduceDiv, Int.reduceBEq, rules2, rowsX, List.map_nil]
  · rw [ite_f hb1] at h
    try simp only [hb1, Nat.reduceBEq, Nat.reduceMul, Nat.reduceAdd, Nat.reduceDiv, Int.reduceBEq, rules2, rowsX]
    refine w_spec_ParseInt_1 _ _ _ h _ ?_
    try simp only [hb1, Nat.reduceBEq, Nat.reduceMul, Nat.reduceAdd, Nat.reduceDiv, Int.reduceBEq, rules2, rowsX, List.map_nil]
/- 51: spec_l01In -/
def c_spec_l01In : ACode := (.seq (.reg [(none, .mv 6 (KB false))]) (.seq (.reg [(none, .mv 7 (S 0)), (none, .mv 8 (S 1)), (none, .bin 9 .geq (S 7) (S 8)), (none, .mv 10 (S 9)), (some (10, true), .mv 11 (S 0)), (some (10, true), .mv 12 (S 2)), (some (10, true), .bin 13 .leq (S 11) (S 12)), (none, .pick 14 (S 10) (S 13) (KB false)), (none, .mv 6 (S 14))]) .ret))
theorem e_spec_l01In : entry Tryd.prog 51 = some (c_spec_l01In.strip, [6], 15) := by kernel_rfl
theorem w_spec_l01In (a0 : Int) (a1 : Int) (a2 : Int) (r : Bool) (h : f_spec_l01In a0 a1 a2 = some r) : FC Tryd.prog 51 [.sc (.int .i64 a0), .sc (.int .i64 a1), .sc (.int .i64 a2)] [.sc (.v (.bool r))] := by
  unfold f_spec_l01In at h
  refine FC_go (σ := ⟨[(0, vc (aI a0)), (1, vc (aI a1)), (2, vc (aI a2))], [], []⟩) mixed e_spec_l01In rfl rfl ?_
  simp only [c_spec_l01In]
  rcases Bool.eq_false_or_eq_true (decide (a1 ≤ a0)) with hb1 | hb1
  · rw [ite_t hb1] at h
    try simp only [hb1, Nat.reduceBEq, Nat.reduceMul, Nat.reduceAdd, Nat.reduceDiv, Int.reduceBEq, rules2, rowsX]
    cases h
    exact ⟨⟨rfl, trivial⟩, rfl⟩
  · rw [ite_f hb1] at h
    try simp only [hb1, Nat.reduceBEq, Nat.reduceMul, Nat.reduceAdd, Nat.reduceDiv, Int.reduceBEq, rules2, rowsX]
    cases h
    exact ⟨⟨rfl, trivial⟩, rfl⟩
/- 94: spec_IsName -/
def c_spec_IsName_2 : ACode := .seq (.reg [(none, .keep [0, 3, 4] [] [])]) (.seq (.reg [(none, .mv 21 (S 4)), (none, .un 22 .not (S 21)), (none, .mv 23 (S 22)), (some (23, true), .mv 24 (S 3)), (some (23, true), .bin 25 .eql (S 24) (K 0)), (some (23, true), .mv 26 (S 25)), (some (26, false), .mv 27 (S 0)), (some (26, false), .mv 28 (S 3)), (some (26, false), .idx 29 (S 27) (S 28)), (some (26, false), .bin 30 .lss (S 29) (K8 48)), (some (23, true), .pick 31 (S 26) (KB true) (S 30)), (some (23, true), .mv 32 (S 31)), (some (32, false), .mv 33 (S 0)), (some (32, false), .mv 34 (S 3)), (some (32, false), .idx 35 (S 33) (S 34)), (some (32, false), .bin 36 .gtr (S 35) (K8 57)), (some (23, true), .pick 37 (S 32) (KB true) (S 36)), (none, .pick 38 (S 23) (S 37) (KB false))]) (.cond (S 38) (.seq (.reg [(none, .mv 2 (KB false))]) .ret) .skip))
def c_spec_IsName_3 : ACode := .seq (.reg [(none, .keep [0, 3] [] [])]) (.reg [(none, .mv 9 (S 3)), (none, .bin 10 .add (S 9) (K 1)), (none, .mv 3 (S 10))])
def c_spec_IsName_1 : ACode := .seq (.reg [(none, .keep [0, 3] [] [])]) (.seq (.seq (.reg [(none, .mv 5 (S 3)), (none, .mv 6 (S 0)), (none, .slen 7 (S 6)), (none, .bin 8 .lss (S 5) (S 7))]) (.cond (S 8) .skip (.exit 0))) (.seq (.block 1 (.seq (.reg [(none, .mv 11 (S 0)), (none, .mv 12 (S 3)), (none, .idx 13 (S 11) (S 12)), (none, .bin 14 .geq (S 13) (K8 97)), (none, .mv 15 (S 14)), (some (15, true), .mv 16 (S 0)), (some (15, true), .mv 17 (S 3)), (some (15, true), .idx 18 (S 16) (S 17)), (some (15, true), .bin 19 .leq (S 18) (K8 122)), (none, .pick 20 (S 15) (S 19) (KB false)), (none, .mv 4 (S 20))]) c_spec_IsName_2)) c_spec_IsName_3))
def c_spec_IsName_n1 : ACode := (.seq (.reg [(none, .mv 39 (S 0)), (none, .slen 40 (S 39)), (none, .call 41 51 [(S 40), (K 1), (K 8)]), (none, .mv 2 (S 41))]) .ret)
def c_spec_IsName : ACode := (.seq (.reg [(none, .mv 2 (KB false))]) (.seq (.seq (.reg [(none, .mv 3 (K 0))]) (.block 0 (.loop c_spec_IsName_1))) c_spec_IsName_n1))
theorem w_spec_IsName_3 (a0 : List UInt8) (v1 : Int) (k_spec_IsName_1 : Int → Option Bool) (hk_spec_IsName_1 : ∀ (v1 : Int) zr, k_spec_IsName_1 v1 = some zr → ∀ σ : St, σ.kept [0, 3] [] [] = ⟨[(0, vc (aS a0)), (3, vc (aI v1))], [], []⟩ → go Tryd.prog (.code (.loop c_spec_IsName_1) :: [.blk 0, .code c_spec_IsName_n1]) (Ret [2] [.sc (.v (.bool zr))]) .normal (some σ)) (r : Bool) (h : f_spec_IsName_3 a0 v1 k_spec_IsName_1 = some r) (σ : St) (hσ : σ.kept [0, 3] [] [] = ⟨[(0, vc (aS a0)), (3, vc (aI v1))], [], []⟩) : go Tryd.prog (.code c_spec_IsName_3 :: [.code (.loop c_spec_IsName_1), .blk 0, .code c_spec_IsName_n1]) (Ret [2] [.sc (.v (.bool r))]) .normal (some σ) := by
  unfold f_spec_IsName_3 at h
  try simp only [hσ, c_spec_IsName_3, Nat.reduceBEq, Nat.reduceMul, Nat.reduceAdd, Nat.reduceDiv, Int.reduceBEq, rules2, rowsX]
  refine hk_spec_IsName_1 _ _ h _ ?_
  try simp only [Nat.reduceBEq, Nat.reduceMul, Nat.reduceAdd, Nat.reduceDiv, Int.reduceBEq, rules2, rowsX, List.map_nil]
theorem w_spec_IsName_2 (a0 : List UInt8) (v1 : Int) (k_spec_IsName_1 : Int → Option Bool) (hk_spec_IsName_1 : ∀ (v1 : Int) zr, k_spec_IsName_1 v1 = some zr → ∀ σ : St, σ.kept [0, 3] [] [] = ⟨[(0, vc (aS a0)), (3, vc (aI v1))], [], []⟩ → go Tryd.prog (.code (.loop c_spec_IsName_1) :: [.blk 0, .code c_spec_IsName_n1]) (Ret [2] [.sc (.v (.bool zr))]) .normal (some σ)) (v5 : Bool) (r : Bool) (h : f_spec_IsName_2 a0 v1 k_spec_IsName_1 v5 = some r) (σ : St) (hσ : σ.kept [0, 3, 4] [] [] = ⟨[(0, vc (aS a0)), (3, vc (aI v1)), (4, vc (aB v5))], [], []⟩) : go Tryd.prog (.code c_spec_IsName_2 :: [.blk 1, .code c_spec_IsName_3, .code (.loop c_spec_IsName_1), .blk 0, .code c_spec_IsName_n1]) (Ret [2] [.sc (.v (.bool r))]) .normal (some σ) := by
  unfold f_spec_IsName_2 at h
  rcases Bool.eq_false_or_eq_true v5 with hb6 | hb6
  · rw [ite_t hb6] at h
    try simp only [hσ, hb6, c_spec_IsName_2, Nat.reduceBEq, Nat.reduceMul, Nat.reduceAdd, Nat.reduceDiv, Int.reduceBEq, rules2, rowsX]
    refine w_spec_IsName_3 _ _ k_spec_IsName_1 hk_spec_IsName_1 _ h _ ?_
    try simp only [hb6, Nat.reduceBEq, Nat.reduceMul, Nat.reduceAdd, Nat.reduceDiv, Int.reduceBEq, rules2, rowsX, List.map_nil]
  · rw [ite_f hb6] at h
    rcases Bool.eq_false_or_eq_true (v1 == (0 : Int)) with hb7 | hb7
    · rw [ite_t hb7] at h
      try simp only [hσ, hb6, hb7, c_spec_IsName_2, Nat.reduceBEq, Nat.reduceMul, Nat.reduceAdd, Nat.reduceDiv, Int.reduceBEq, rules2, rowsX]
      cases h
      exact ⟨⟨rfl, trivial⟩, rfl⟩
    · rw [ite_f hb7] at h
      obtain ⟨b8, hb8, h⟩ := ob h
      rcases Bool.eq_false_or_eq_true (decide ((b8.toNat : Int) < (48 : Int))) with hb9 | hb9
      · rw [ite_t hb9] at h
        try simp only [hσ, hb6, hb7, hb8, hb9, c_spec_IsName_2, Nat.reduceBEq, Nat.reduceMul, Nat.reduceAdd, Nat.reduceDiv, Int.reduceBEq, rules2, rowsX]
        cases h
        exact ⟨⟨rfl, trivial⟩, rfl⟩
      · rw [ite_f hb9] at h
        rcases Bool.eq_false_or_eq_true (decide ((57 : Int) < (b8.toNat : Int))) with hb10 | hb10
        · rw [ite_t hb10] at h
          try simp only [hσ, hb6, hb7, hb8, hb9, hb10, c_spec_IsName_2, Nat.reduceBEq, Nat.reduceMul, Nat.reduceAdd, Nat.reduceDiv, Int.reduceBEq, rules2, rowsX]
          cases h
          exact ⟨⟨rfl, trivial⟩, rfl⟩
        · rw [ite_f hb10] at h
          try simp only [hσ, hb6, hb7, hb8, hb9, hb10, c_spec_IsName_2, Nat.reduceBEq, Nat.reduceMul, Nat.reduceAdd, Nat.reduceDiv, Int.reduceBEq, rules2, rowsX]
          refine w_spec_IsName_3 _ _ k_spec_IsName_1 hk_spec_IsName_1 _ h _ ?_
          try simp only [hb6, hb7, hb8, hb9, hb10, Nat.reduceBEq, Nat.reduceMul, Nat.reduceAdd, Nat.reduceDiv, Int.reduceBEq, rules2, rowsX, List.map_nil]
theorem w_spec_IsName_1 (a0 : List UInt8) : ∀ (n : Nat) (v1 : Int) (r : Bool), f_spec_IsName_1 a0 n v1 = some r → ∀ σ : St, σ.kept [0, 3] [] [] = ⟨[(0, vc (aS a0)), (3, vc (aI v1))], [], []⟩ → go Tryd.prog (.code (.loop c_spec_IsName_1) :: [.blk 0, .code c_spec_IsName_n1]) (Ret [2] [.sc (.v (.bool r))]) .normal (some σ) := by
  intro n
  induction n with
  | zero => intro _ r h; cases h
  | succ n ih =>
    intro v1 r h σ hσ
    rw [f_spec_IsName_1] at h
    refine go_round ?_
    rcases Bool.eq_false_or_eq_true (decide (v1 < (a0.length : Int))) with hb2 | hb2
    · rw [ite_t hb2] at h
      obtain ⟨b3, hb3, h⟩ := ob h
      rcases Bool.eq_false_or_eq_true (decide ((97 : Int) ≤ (b3.toNat : Int))) with hb4 | hb4
      · rw [ite_t hb4] at h
        try simp only [hσ, hb2, hb3, hb4, c_spec_IsName_1, Nat.reduceBEq, Nat.reduceMul, Nat.reduceAdd, Nat.reduceDiv, Int.reduceBEq, rules2, rowsX]
        refine w_spec_IsName_2 _ _ (f_spec_IsName_1 a0 n) ih _ _ h _ ?_
        try simp only [hb2, hb3, hb4, Nat.reduceBEq, Nat.reduceMul, Nat.reduceAdd, Nat.reduceDiv, Int.reduceBEq, rules2, rowsX, List.map_nil]
      · rw [ite_f hb4] at h
        try simp only [hσ, hb2, hb3, hb4, c_spec_IsName_1, Nat.reduceBEq, Nat.reduceMul, Nat.reduceAdd, Nat.reduceDiv, Int.reduceBEq, rules2, rowsX]
        refine w_spec_IsName_2 _ _ (f_spec_IsName_1 a0 n) ih _ _ h _ ?_
        try simp only [hb2, hb3, hb4, Nat.reduceBEq, Nat.reduceMul, Nat.reduceAdd, Nat.reduceDiv, Int.reduceBEq, rules2, rowsX, List.map_nil]
    · rw [ite_f hb2] at h
      obtain ⟨r11, hr11, h⟩ := ob h
      try simp only [hσ, hb2, c_spec_IsName_1, c_spec_IsName_n1, Nat.reduceBEq, Nat.reduceMul, Nat.reduceAdd, Nat.reduceDiv, Int.reduceBEq, rules2, rowsX]
      refine go_callI (w_spec_l01In _ _ _ _ hr11) rfl rfl (Nat.le_of_ble_eq_true rfl) ?_
      try simp only [hb2, Nat.reduceBEq, Nat.reduceMul, Nat.reduceAdd, Nat.reduceDiv, Int.reduceBEq, rules2, rowsX]
      cases h
      exact ⟨⟨rfl, trivial⟩, rfl⟩
theorem e_spec_IsName : entry Tryd.prog 94 = some (c_spec_IsName.strip, [2], 42) := by kernel_rfl
theorem w_spec_IsName (a0 : List UInt8) (r : Bool) (h : f_spec_IsName a0 = some r) : FC Tryd.prog 94 [.sc (.str a0)] [.sc (.v (.bool r))] := by
  unfold f_spec_IsName at h
  refine FC_go (σ := ⟨[(0, vc (aS a0))], [], []⟩) mixed e_spec_IsName rfl rfl ?_
  simp only [c_spec_IsName]
  try simp only [Nat.reduceBEq, Nat.reduceMul, Nat.reduceAdd, Nat.reduceDiv, Int.reduceBEq, rules2, rowsX]
  refine w_spec_IsName_1 _ _ _ _ h _ ?_
  try simp only [Nat.reduceBEq, Nat.reduceMul, Nat.reduceAdd, Nat.reduceDiv, Int.reduceBEq, rules2, rowsX, List.map_nil]
/- 67: spec_ShipOk -/
def c_spec_ShipOk : ACode := (.seq (.reg [(none, .box 1 (S 0)), (none, .mv 2 (KB false))]) (.seq (.reg [(none, .faddr 3 (S 1) 0), (none, .load 4 (S 3) false 1), (none, .call 5 94 [(S 4)]), (none, .mv 6 (S 5)), (some (6, true), .faddr 7 (S 1) 1), (some (6, true), .load 8 (S 7) false 1), (some (6, true), .call 9 51 [(S 8), (K 10), (K 400)]), (none, .pick 10 (S 6) (S 9) (KB false)), (none, .mv 11 (S 10)), (some (11, true), .faddr 12 (S 1) 2), (some (11, true), .load 13 (S 12) false 1), (some (11, true), .call 14 51 [(S 13), (K 100), (K 2000)]), (none, .pick 15 (S 11) (S 14) (KB false)), (none, .mv 16 (S 15)), (some (16, true), .faddr 17 (S 1) 3), (some (16, true), .load 18 (S 17) false 1), (some (16, true), .call 19 51 [(S 18), (K 0), (K 3)]), (none, .pick 20 (S 16) (S 19) (KB false)), (none, .mv 21 (S 20)), (some (21, true), .faddr 22 (S 1) 4), (some (21, true), .load 23 (S 22) false 1), (some (21, true), .call 24 51 [(S 23), (K 0), (K 4)]), (none, .pick 25 (S 21) (S 24) (KB false)), (none, .mv 2 (S 25))]) .ret))
theorem e_spec_ShipOk : entry Tryd.prog 67 = some (c_spec_ShipOk.strip, [2], 26) := by kernel_rfl
theorem w_spec_ShipOk (a0 : XShip) (r : Bool) (h : f_spec_ShipOk a0 = some r) : FC Tryd.prog 67 [.ag (XShip.row a0)] [.sc (.v (.bool r))] := by
  unfold f_spec_ShipOk at h
  refine FC_go (σ := ⟨[(0, va [aS a0.Name, aI a0.Length, aI a0.Draught, aI a0.Line, aI a0.Tugs, aB a0.Slow])], [], []⟩) mixed e_spec_ShipOk rfl rfl ?_
  simp only [c_spec_ShipOk]
  try simp only [Nat.reduceBEq, Nat.reduceMul, Nat.reduceAdd, Nat.reduceDiv, Int.reduceBEq, rules2, rowsX]
  refine go_bx rfl rfl rfl ?_
  obtain ⟨r1, hr1, h⟩ := ob h
  try simp only [Nat.reduceBEq, Nat.reduceMul, Nat.reduceAdd, Nat.reduceDiv, Int.reduceBEq, rules2, rowsX]
  refine go_callI (w_spec_IsName _ _ hr1) rfl rfl (Nat.le_of_ble_eq_true rfl) ?_
  rcases Bool.eq_false_or_eq_true r1 with hb2 | hb2
  · rw [ite_t hb2] at h
    obtain ⟨r3, hr3, h⟩ := ob h
    try simp only [hb2, Nat.reduceBEq, Nat.reduceMul, Nat.reduceAdd, Nat.reduceDiv, Int.reduceBEq, rules2, rowsX]
    refine go_callI (w_spec_l01In _ _ _ _ hr3) rfl rfl (Nat.le_of_ble_eq_true rfl) ?_
    rcases Bool.eq_false_or_eq_true r3 with hb4 | hb4
    · rw [ite_t hb4] at h
      obtain ⟨r5, hr5, h⟩ := ob h
      try simp only [hb2, hb4, Nat.reduceBEq, Nat.reduceMul, Nat.reduceAdd, Nat.reduceDiv, Int.reduceBEq, rules2, rowsX]
      refine go_callI (w_spec_l01In _ _ _ _ hr5) rfl rfl (Nat.le_of_ble_eq_true rfl) ?_
      rcases Bool.eq_false_or_eq_true r5 with hb6 | hb6
      · rw [ite_t hb6] at h
        obtain ⟨r7, hr7, h⟩ := ob h
        try simp only [hb2, hb4, hb6, Nat.reduceBEq, Nat.reduceMul, Nat.reduceAdd, Nat.reduceDiv, Int.reduceBEq, rules2, rowsX]
        refine go_callI (w_spec_l01In _ _ _ _ hr7) rfl rfl (Nat.le_of_ble_eq_true rfl) ?_
        rcases Bool.eq_false_or_eq_true r7 with hb8 | hb8
        · rw [ite_t hb8] at h
          obtain ⟨r9, hr9, h⟩ := ob h
          try simp only [hb2, hb4, hb6, hb8, Nat.reduceBEq, Nat.reduceMul, Nat.reduceAdd, Nat.reduceDiv, Int.reduceBEq, rules2, rowsX]
          refine go_callI (w_spec_l01In _ _ _ _ hr9) rfl rfl (Nat.le_of_ble_eq_true rfl) ?_
          try simp only [hb2, hb4, hb6, hb8, Nat.reduceBEq, Nat.reduceMul, Nat.reduceAdd, Nat.reduceDiv, Int.reduceBEq, rules2, rowsX]
          cases h
          exact ⟨⟨rfl, trivial⟩, rfl⟩
        · rw [ite_f hb8] at h
          try simp only [hb2, hb4, hb6, hb8, Nat.reduceBEq, Nat.reduceMul, Nat.reduceAdd, Nat.reduceDiv, Int.reduceBEq, rules2, rowsX]
          cases h
          exact ⟨⟨rfl, trivial⟩, rfl⟩
      · rw [ite_f hb6] at h
        try simp only [hb2, hb4, hb6, Nat.reduceBEq, Nat.reduceMul, Nat.reduceAdd, Nat.reduceDiv, Int.reduceBEq, rules2, rowsX]
        cases h
        exact ⟨⟨rfl, trivial⟩, rfl⟩
    · rw [ite_f hb4] at h
      try simp only [hb2, hb4, Nat.reduceBEq, Nat.reduceMul, Nat.reduceAdd, Nat.reduceDiv, Int.reduceBEq, rules2, rowsX]
      cases h
      exact ⟨⟨rfl, trivial⟩, rfl⟩
  · rw [ite_f hb2] at h
    try simp only [hb2, Nat.reduceBEq, Nat.reduceMul, Nat.reduceAdd, Nat.reduceDiv, Int.reduceBEq, rules2, rowsX]
    cases h
    exact ⟨⟨rfl, trivial⟩, rfl⟩
/- 68: spec_Join -/
def c_spec_Join_2 : ACode := .seq (.reg [(none, .keep [1, 5, 7, 8, 9, 10] [] [])]) (.reg [(none, .mv 20 (S 5)), (none, .mv 21 (S 7)), (none, .bin 22 .add (S 20) (S 21)), (none, .mv 5 (S 22))])
def c_spec_Join_n2 : ACode := (.reg [(none, .bin 23 .add (S 10) (K 1)), (none, .mv 10 (S 23))])
def c_spec_Join_1 : ACode := .seq (.reg [(none, .keep [1, 5, 8, 9, 10] [] [])]) (.seq (.reg [(none, .bin 11 .lss (S 10) (S 9))]) (.seq (.cond (S 11) .skip (.exit 0)) (.seq (.block 1 (.seq (.reg [(none, .mv 12 (S 10)), (none, .iaddr 13 (S 8) (S 10) 1), (none, .load 14 (S 13) false 1), (none, .mv 6 (S 12)), (none, .mv 7 (S 14))]) (.seq (.seq (.reg [(none, .mv 15 (S 6)), (none, .bin 16 .gtr (S 15) (K 0))]) (.cond (S 16) (.reg [(none, .mv 17 (S 5)), (none, .mv 18 (S 1)), (none, .bin 19 .add (S 17) (S 18)), (none, .mv 5 (S 19))]) .skip)) c_spec_Join_2))) c_spec_Join_n2)))
def c_spec_Join_n1 : ACode := (.seq (.reg [(none, .mv 24 (S 5)), (none, .mv 4 (S 24))]) .ret)
def c_spec_Join : ACode := (.seq (.reg [(none, .mv 4 (KS []))]) (.seq (.reg [(none, .mv 5 (KS []))]) (.seq (.seq (.reg [(none, .mv 8 (S 0)), (none, .len 9 (S 8)), (none, .mv 10 (K 0))]) (.block 0 (.loop c_spec_Join_1))) c_spec_Join_n1)))
theorem w_spec_Join_2 (a1 : List UInt8) (x4 : List UInt8) (a0 : List (List UInt8)) (v2 : Int) (k_spec_Join_1 : (List UInt8) → Int → Option (List UInt8)) (hk_spec_Join_1 : ∀ (v1 : List UInt8) (v2 : Int) zr, k_spec_Join_1 v1 v2 = some zr → ∀ σ : St, σ.kept [1, 5, 8, 9, 10] [] [] = ⟨[(1, vc (aS a1)), (5, vc (aS v1)), (8, vc (aL (List.map rS a0))), (9, vc (aI (a0.length : Int))), (10, vc (aI v2))], [], []⟩ → go Tryd.prog (.code (.loop c_spec_Join_1) :: [.blk 0, .code c_spec_Join_n1]) (Ret [4] [.sc (.v (.str zr))]) .normal (some σ)) (v7 : List UInt8) (r : (List UInt8)) (h : f_spec_Join_2 a1 x4 a0 v2 k_spec_Join_1 v7 = some r) (σ : St) (hσ : σ.kept [1, 5, 7, 8, 9, 10] [] [] = ⟨[(1, vc (aS a1)), (5, vc (aS v7)), (7, vc (aS x4)), (8, vc (aL (List.map rS a0))), (9, vc (aI (a0.length : Int))), (10, vc (aI v2))], [], []⟩) : go Tryd.prog (.code c_spec_Join_2 :: [.blk 1, .code c_spec_Join_n2, .code (.loop c_spec_Join_1), .blk 0, .code c_spec_Join_n1]) (Ret [4] [.sc (.v (.str r))]) .normal (some σ) := by
  unfold f_spec_Join_2 at h
  obtain ⟨hg8, h⟩ := of_guard h
  try simp only [hσ, hg8, c_spec_Join_2, c_spec_Join_n2, Nat.reduceBEq, Nat.reduceMul, Nat.reduceAdd, Nat.reduceDiv, Int.reduceBEq, rules2, rowsX]
  refine hk_spec_Join_1 _ _ _ h _ ?_
  try simp only [hg8, Nat.reduceBEq, Nat.reduceMul, Nat.reduceAdd, Nat.reduceDiv, Int.reduceBEq, rules2, rowsX, List.map_nil]
theorem w_spec_Join_1 (a1 : List UInt8) (a0 : List (List UInt8)) : ∀ (n : Nat) (v1 : List UInt8) (v2 : Int) (r : (List UInt8)), f_spec_Join_1 a1 a0 n v1 v2 = some r → ∀ σ : St, σ.kept [1, 5, 8, 9, 10] [] [] = ⟨[(1, vc (aS a1)), (5, vc (aS v1)), (8, vc (aL (List.map rS a0))), (9, vc (aI (a0.length : Int))), (10, vc (aI v2))], [], []⟩ → go Tryd.prog (.code (.loop c_spec_Join_1) :: [.blk 0, .code c_spec_Join_n1]) (Ret [4] [.sc (.v (.str r))]) .normal (some σ) := by
  intro n
  induction n with
  | zero => intro _ _ r h; cases h
  | succ n ih =>
    intro v1 v2 r h σ hσ
    rw [f_spec_Join_1] at h
    refine go_round ?_
    rcases Bool.eq_false_or_eq_true (decide (v2 < (a0.length : Int))) with hb3 | hb3
    · rw [ite_t hb3] at h
      obtain ⟨x4, hx4, h⟩ := ob h
      rcases Bool.eq_false_or_eq_true (decide ((0 : Int) < v2)) with hb5 | hb5
      · rw [ite_t hb5] at h
        obtain ⟨hg6, h⟩ := of_guard h
        try simp only [hσ, hb3, hx4, hb5, hg6, c_spec_Join_1, Nat.reduceBEq, Nat.reduceMul, Nat.reduceAdd, Nat.reduceDiv, Int.reduceBEq, rules2, rowsX]
        refine w_spec_Join_2 _ _ _ _ (f_spec_Join_1 a1 a0 n) ih _ _ h _ ?_
        try simp only [hb3, hx4, hb5, hg6, Nat.reduceBEq, Nat.reduceMul, Nat.reduceAdd, Nat.reduceDiv, Int.reduceBEq, rules2, rowsX, List.map_nil]
      · rw [ite_f hb5] at h
        try simp only [hσ, hb3, hx4, hb5, c_spec_Join_1, Nat.reduceBEq, Nat.reduceMul, Nat.reduceAdd, Nat.reduceDiv, Int.reduceBEq, rules2, rowsX]
        refine w_spec_Join_2 _ _ _ _ (f_spec_Join_1 a1 a0 n) ih _ _ h _ ?_
        try simp only [hb3, hx4, hb5, Nat.reduceBEq, Nat.reduceMul, Nat.reduceAdd, Nat.reduceDiv, Int.reduceBEq, rules2, rowsX, List.map_nil]
    · rw [ite_f hb3] at h
      try simp only [hσ, hb3, c_spec_Join_1, c_spec_Join_n1, Nat.reduceBEq, Nat.reduceMul, Nat.reduceAdd, Nat.reduceDiv, Int.reduceBEq, rules2, rowsX]
      cases h
      exact ⟨⟨rfl, trivial⟩, rfl⟩
theorem e_spec_Join : entry Tryd.prog 68 = some (c_spec_Join.strip, [4], 25) := by kernel_rfl
theorem w_spec_Join (a0 : List (List UInt8)) (a1 : List UInt8) (r : (List UInt8)) (h : f_spec_Join a0 a1 = some r) : FC Tryd.prog 68 [.sc (.sl (List.map rS a0)), .sc (.str a1)] [.sc (.v (.str r))] := by
  unfold f_spec_Join at h
  refine FC_go (σ := ⟨[(0, vc (aL (List.map rS a0))), (1, vc (aS a1))], [], []⟩) mixed e_spec_Join rfl rfl ?_
  simp only [c_spec_Join]
  try simp only [Nat.reduceBEq, Nat.reduceMul, Nat.reduceAdd, Nat.reduceDiv, Int.reduceBEq, rules2, rowsX]
  refine w_spec_Join_1 _ _ _ _ _ _ h _ ?_
  try simp only [Nat.reduceBEq, Nat.reduceMul, Nat.reduceAdd, Nat.reduceDiv, Int.reduceBEq, rules2, rowsX, List.map_nil]
/- 21: spec_FormatShip -/
def c_spec_FormatShip_1 : ACode := .seq (.reg [(none, .keep [3] [] [1344])]) (.seq (.reg [(none, .mv 27 (S 3)), (none, .call 28 68 [(S 27), (KS [32])]), (none, .mv 2 (S 28))]) .ret)
def c_spec_FormatShip : ACode := (.seq (.reg [(none, .box 1 (S 0)), (none, .mv 2 (KS []))]) (.seq (.seq (.reg [(none, .load 4 (S 1) true 6), (none, .call 5 67 [(S 4)]), (none, .un 6 .not (S 5))]) (.cond (S 6) (.seq (.reg [(none, .mv 2 (KS []))]) .ret) .skip)) (.seq (.drw [(some [11, 14, 17, 20], (none, .faddr 7 (S 1) 0)), (some [11, 14, 17, 20], (none, .load 8 (S 7) false 1)), (some [], (none, .faddr 9 (S 1) 1)), (some [], (none, .load 10 (S 9) false 1)), (some [], (none, .call 11 52 [(S 10)])), (some [11], (none, .faddr 12 (S 1) 2)), (some [11], (none, .load 13 (S 12) false 1)), (some [], (none, .call 14 52 [(S 13)])), (some [11, 14], (none, .faddr 15 (S 1) 3)), (some [11, 14], (none, .load 16 (S 15) false 1)), (some [], (none, .call 17 52 [(S 16)])), (some [11, 14, 17], (none, .faddr 18 (S 1) 4)), (some [11, 14, 17], (none, .load 19 (S 18) false 1)), (some [], (none, .call 20 52 [(S 19)])), (some [], (none, .bslice 21 1 [.str []] 5 [(0, (S 8)), (1, (S 11)), (2, (S 14)), (3, (S 17)), (4, (S 20))])), (some [], (none, .mv 3 (S 21)))]) (.seq (.seq (.reg [(none, .faddr 22 (S 1) 5), (none, .load 23 (S 22) false 1)]) (.cond (S 23) (.reg [(none, .mv 24 (S 3)), (none, .bslice 25 1 [.str []] 1 [(0, (KS [115, 108, 111, 119]))]), (none, .app 26 1 16 (S 24) (S 25)), (none, .mv 3 (S 26))]) .skip)) c_spec_FormatShip_1))))
theorem w_spec_FormatShip_1 (v9 : List (List UInt8)) (r : (List UInt8)) (h : f_spec_FormatShip_1 v9 = some r) (σ : St) (hσ : σ.kept [3] [] [1344] = ⟨[(3, vc (.own 1344))], [], [(1344, 1, List.map rS v9)]⟩) : go Tryd.prog (.code c_spec_FormatShip_1 :: []) (Ret [2] [.sc (.v (.str r))]) .normal (some σ) := by
  unfold f_spec_FormatShip_1 at h
  obtain ⟨r10, hr10, h⟩ := ob h
  try simp only [hσ, c_spec_FormatShip_1, Nat.reduceBEq, Nat.reduceMul, Nat.reduceAdd, Nat.reduceDiv, Int.reduceBEq, rules2, rowsX]
  refine go_call (w_spec_Join _ _ _ hr10) rfl (flat_of rfl) rfl (Nat.le_of_ble_eq_true rfl) ?_
  try simp only [Nat.reduceBEq, Nat.reduceMul, Nat.reduceAdd, Nat.reduceDiv, Int.reduceBEq, rules2, rowsX]
  cases h
  exact ⟨⟨rfl, trivial⟩, rfl⟩
theorem e_spec_FormatShip : entry Tryd.prog 21 = some (c_spec_FormatShip.strip, [2], 29) := by kernel_rfl
theorem w_spec_FormatShip (a0 : XShip) (r : (List UInt8)) (h : f_spec_FormatShip a0 = some r) : FC Tryd.prog 21 [.ag (XShip.row a0)] [.sc (.v (.str r))] := by
  unfold f_spec_FormatShip at h
  refine FC_go (σ := ⟨[(0, va [aS a0.Name, aI a0.Length, aI a0.Draught, aI a0.Line, aI a0.Tugs, aB a0.Slow])], [], []⟩) mixed e_spec_FormatShip rfl rfl ?_
  simp only [c_spec_FormatShip]
  try simp only [Nat.reduceBEq, Nat.reduceMul, Nat.reduceAdd, Nat.reduceDiv, Int.reduceBEq, rules2, rowsX]
  refine go_bx rfl rfl rfl ?_
  obtain ⟨r1, hr1, h⟩ := ob h
  try simp only [Nat.reduceBEq, Nat.reduceMul, Nat.reduceAdd, Nat.reduceDiv, Int.reduceBEq, rules2, rowsX]
  refine go_callI (w_spec_ShipOk _ _ hr1) rfl rfl (Nat.le_of_ble_eq_true rfl) ?_
  rcases Bool.eq_false_or_eq_true r1 with hb2 | hb2
  · rw [ite_t hb2] at h
    try simp only [hb2, Nat.reduceBEq, Nat.reduceMul, Nat.reduceAdd, Nat.reduceDiv, Int.reduceBEq, rules2, rowsX]
    refine go_fr_of rfl ?_
    obtain ⟨r3, hr3, h⟩ := ob h
    try simp only [hb2, Nat.reduceBEq, Nat.reduceMul, Nat.reduceAdd, Nat.reduceDiv, Int.reduceBEq, rules2, rowsX]
    refine go_dcallI (w_spec_FormatInt _ _ hr3) rfl rfl (Nat.le_of_ble_eq_true rfl) ?_
    obtain ⟨r4, hr4, h⟩ := ob h
    try simp only [hb2, Nat.reduceBEq, Nat.reduceMul, Nat.reduceAdd, Nat.reduceDiv, Int.reduceBEq, rules2, rowsX]
    refine go_dcallI (w_spec_FormatInt _ _ hr4) rfl rfl (Nat.le_of_ble_eq_true rfl) ?_
    obtain ⟨r5, hr5, h⟩ := ob h
    try simp only [hb2, Nat.reduceBEq, Nat.reduceMul, Nat.reduceAdd, Nat.reduceDiv, Int.reduceBEq, rules2, rowsX]
    refine go_dcallI (w_spec_FormatInt _ _ hr5) rfl rfl (Nat.le_of_ble_eq_true rfl) ?_
    obtain ⟨r6, hr6, h⟩ := ob h
    try simp only [hb2, Nat.reduceBEq, Nat.reduceMul, Nat.reduceAdd, Nat.reduceDiv, Int.reduceBEq, rules2, rowsX]
    refine go_dcallI (w_spec_FormatInt _ _ hr6) rfl rfl (Nat.le_of_ble_eq_true rfl) ?_
    try simp only [hb2, Nat.reduceBEq, Nat.reduceMul, Nat.reduceAdd, Nat.reduceDiv, Int.reduceBEq, rules2, rowsX]
    refine go_bsl (es := List.map rS ([a0.Name, r3, r4, r5, r6] : List (List UInt8))) rfl rfl ?_
    rcases Bool.eq_false_or_eq_true a0.Slow with hb7 | hb7
    · rw [ite_t hb7] at h
      try simp only [hb2, hb7, Nat.reduceBEq, Nat.reduceMul, Nat.reduceAdd, Nat.reduceDiv, Int.reduceBEq, rules2, rowsX]
      refine go_bsl (es := List.map rS ([([115, 108, 111, 119] : List UInt8)] : List (List UInt8))) rfl rfl ?_
      obtain ⟨hg8, h⟩ := of_guard h
      try simp only [hb2, hb7, hg8, Nat.reduceBEq, Nat.reduceMul, Nat.reduceAdd, Nat.reduceDiv, Int.reduceBEq, rules2, rowsX]
      refine w_spec_FormatShip_1 _ _ h _ ?_
      try simp only [hb2, hb7, hg8, Nat.reduceBEq, Nat.reduceMul, Nat.reduceAdd, Nat.reduceDiv, Int.reduceBEq, rules2, rowsX, List.map_nil]
    · rw [ite_f hb7] at h
      try simp only [hb2, hb7, Nat.reduceBEq, Nat.reduceMul, Nat.reduceAdd, Nat.reduceDiv, Int.reduceBEq, rules2, rowsX]
      refine w_spec_FormatShip_1 _ _ h _ ?_
      try simp only [hb2, hb7, Nat.reduceBEq, Nat.reduceMul, Nat.reduceAdd, Nat.reduceDiv, Int.reduceBEq, rules2, rowsX, List.map_nil]
  · rw [ite_f hb2] at h
    try simp only [hb2, Nat.reduceBEq, Nat.reduceMul, Nat.reduceAdd, Nat.reduceDiv, Int.reduceBEq, rules2, rowsX]
    cases h
    exact ⟨⟨rfl, trivial⟩, rfl⟩
/- 48: spec_ParseShip -/
def c_spec_ParseShip_1 : ACode := .seq (.reg [(none, .keep [0, 2, 4, 20] [2] [768])]) (.cond (S 20) (.seq (.reg [(none, .build 21 [aS [], aI 0, aI 0, aI 0, aI 0, aB false] []), (none, .store (S 2) (S 21) 6), (none, .mv 3 (KB false))]) .ret) .skip)
def c_spec_ParseShip_2 : ACode := .seq (.reg [(none, .keep [0, 2, 4, 5, 24, 25, 26] [2] [1408])]) (.seq (.reg [(none, .bin 27 .lss (S 26) (S 25))]) (.seq (.cond (S 27) .skip (.exit 0)) (.seq (.block 1 (.seq (.reg [(none, .iaddr 28 (S 24) (S 26) 1), (none, .load 29 (S 28) false 1), (none, .mv 7 (S 29))]) (.seq (.reg [(none, .mv 31 (S 7)), (none, .call 32 88 [(S 31)]), (none, .mv 30 (S 32)), (none, .extr 33 (S 30) 0), (none, .extr 34 (S 30) 1), (none, .mv 8 (S 33)), (none, .mv 9 (S 34))]) (.seq (.seq (.reg [(none, .mv 35 (S 9)), (none, .un 36 .not (S 35))]) (.cond (S 36) (.seq (.reg [(none, .build 37 [aS [], aI 0, aI 0, aI 0, aI 0, aB false] []), (none, .store (S 2) (S 37) 6), (none, .mv 3 (KB false))]) .ret) .skip)) (.reg [(none, .mv 38 (S 5)), (none, .mv 39 (S 8)), (none, .bslice 40 1 [.int .i64 0] 1 [(0, (S 39))]), (none, .app 41 1 8 (S 38) (S 40)), (none, .mv 5 (S 41))]))))) (.reg [(none, .bin 42 .add (S 26) (K 1)), (none, .mv 26 (S 42))]))))
def c_spec_ParseShip_3 : ACode := .seq (.reg [(none, .keep [2, 10, 70] [2, 10] [])]) (.cond (S 70) (.seq (.reg [(none, .build 71 [aS [], aI 0, aI 0, aI 0, aI 0, aB false] []), (none, .store (S 2) (S 71) 6), (none, .mv 3 (KB false))]) .ret) .skip)
def c_spec_ParseShip_n3 : ACode := (.seq (.reg [(none, .load 72 (S 10) true 6), (none, .store (S 2) (S 72) 6), (none, .mv 3 (KB true))]) .ret)
def c_spec_ParseShip_n2 : ACode := (.seq (.drw [(some [10], (none, .mv 43 (S 4))), (some [10], (none, .iaddr 44 (S 43) (K 0) 1)), (some [10], (none, .load 45 (S 44) false 1)), (some [10], (none, .mv 46 (S 5))), (some [10], (none, .iaddr 47 (S 46) (K 0) 1)), (some [10], (none, .load 48 (S 47) false 1)), (some [10], (none, .mv 49 (S 5))), (some [10], (none, .iaddr 50 (S 49) (K 1) 1)), (some [10], (none, .load 51 (S 50) false 1)), (some [10], (none, .mv 52 (S 5))), (some [10], (none, .iaddr 53 (S 52) (K 2) 1)), (some [10], (none, .load 54 (S 53) false 1)), (some [10], (none, .mv 55 (S 5))), (some [10], (none, .iaddr 56 (S 55) (K 3) 1)), (some [10], (none, .load 57 (S 56) false 1)), (some [10], (none, .mv 58 (S 4))), (some [10], (none, .len 59 (S 58))), (some [10], (none, .bin 60 .eql (S 59) (K 6))), (some [10], (none, .build 61 [aS [], aI 0, aI 0, aI 0, aI 0, aB false] [(0, 1, (S 45)), (1, 1, (S 48)), (2, 1, (S 51)), (3, 1, (S 54)), (4, 1, (S 57)), (5, 1, (S 60))])), (some [], (none, .alloc 10 [aS [], aI 0, aI 0, aI 0, aI 0, aB false])), (none, (none, .store (S 10) (S 61) 6))]) (.seq (.seq (.reg [(none, .load 62 (S 10) true 6), (none, .call 63 67 [(S 62)]), (none, .un 64 .not (S 63)), (none, .mv 65 (S 64)), (some (65, false), .load 66 (S 10) true 6), (some (65, false), .call 67 21 [(S 66)]), (some (65, false), .mv 68 (S 0)), (some (65, false), .bin 69 .neq (S 67) (S 68)), (none, .pick 70 (S 65) (KB true) (S 69))]) c_spec_ParseShip_3) c_spec_ParseShip_n3))
def c_spec_ParseShip_n1 : ACode := (.seq (.reg [(none, .bslice 22 1 [.int .i64 0] 0 []), (none, .mv 5 (S 22))]) (.seq (.seq (.reg [(none, .mv 23 (S 4)), (none, .frz 768), (none, .slc 24 1 (S 23) (some (K 1)) (some (K 5)) none), (none, .len 25 (S 24)), (none, .mv 26 (K 0))]) (.block 0 (.loop c_spec_ParseShip_2))) c_spec_ParseShip_n2))
def c_spec_ParseShip : ACode := (.seq (.reg [(none, .alloc 2 [aS [], aI 0, aI 0, aI 0, aI 0, aB false]), (none, .mv 3 (KB false))]) (.seq (.reg [(none, .mv 11 (S 0)), (none, .call 12 87 [(S 11), (KS [32])]), (none, .mv 4 (S 12))]) (.seq (.seq (.reg [(none, .mv 13 (S 4)), (none, .len 14 (S 13)), (none, .bin 15 .neq (S 14) (K 5)), (none, .mv 16 (S 15)), (some (16, true), .mv 17 (S 4)), (some (16, true), .len 18 (S 17)), (some (16, true), .bin 19 .neq (S 18) (K 6)), (none, .pick 20 (S 16) (S 19) (KB false))]) c_spec_ParseShip_1) c_spec_ParseShip_n1)))
theorem w_spec_ParseShip_3 (x15 : List UInt8) (x16 : Int) (x17 : Int) (x18 : Int) (x19 : Int) (v23 : Bool) (v24 : Bool) (r : XShip × Bool) (h : f_spec_ParseShip_3 x15 x16 x17 x18 x19 v23 v24 = some r) (σ : St) (hσ : σ.kept [2, 10, 70] [2, 10] [] = ⟨[(2, vc (.pb 2 0)), (10, vc (.pb 10 0)), (70, vc (aB v23))], [(2, [aS ([] : List UInt8), aI (0 : Int), aI (0 : Int), aI (0 : Int), aI (0 : Int), aB false]), (10, [aS x15, aI x16, aI x17, aI x18, aI x19, aB v24])], []⟩) : go Tryd.prog (.code c_spec_ParseShip_3 :: [.code c_spec_ParseShip_n3]) (Ret [.c 2 true 6, 3] [.ag [.v (.str r.1.Name), .v (.int .i64 r.1.Length), .v (.int .i64 r.1.Draught), .v (.int .i64 r.1.Line), .v (.int .i64 r.1.Tugs), .v (.bool r.1.Slow)], .sc (.v (.bool r.2))]) .normal (some σ) := by
  unfold f_spec_ParseShip_3 at h
  rcases Bool.eq_false_or_eq_true v23 with hb25 | hb25
  · rw [ite_t hb25] at h
    try simp only [hσ, hb25, c_spec_ParseShip_3, Nat.reduceBEq, Nat.reduceMul, Nat.reduceAdd, Nat.reduceDiv, Int.reduceBEq, rules2, rowsX]
    cases h
    try simp only [rulesR, Nat.reduceBEq, Nat.reduceMul, Nat.reduceAdd, Nat.reduceDiv, Int.reduceBEq, rules2, rowsX]
    exact ⟨⟨⟨rfl, rfl, rfl, rfl, rfl, rfl, trivial⟩, rfl, trivial⟩, rfl⟩
  · rw [ite_f hb25] at h
    try simp only [hσ, hb25, c_spec_ParseShip_3, c_spec_ParseShip_n3, Nat.reduceBEq, Nat.reduceMul, Nat.reduceAdd, Nat.reduceDiv, Int.reduceBEq, rules2, rowsX]
    cases h
    try simp only [rulesR, Nat.reduceBEq, Nat.reduceMul, Nat.reduceAdd, Nat.reduceDiv, Int.reduceBEq, rules2, rowsX]
    exact ⟨⟨⟨rfl, rfl, rfl, rfl, rfl, rfl, trivial⟩, rfl, trivial⟩, rfl⟩
theorem w_spec_ParseShip_2 (a0 : List UInt8) (r1 : (List (List UInt8))) (y6 : List (List UInt8)) (y7 : Int) : ∀ (n : Nat) (v8 : Int) (v9 : List Int) (r : XShip × Bool), f_spec_ParseShip_2 a0 r1 y6 y7 n v8 v9 = some r → ∀ σ : St, σ.kept [0, 2, 4, 5, 24, 25, 26] [2] [1408] = ⟨[(0, vc (aS a0)), (2, vc (.pb 2 0)), (4, vc (aL (List.map rS r1))), (5, vc (.own 1408)), (24, vc (aL (List.map rS y6))), (25, vc (aI y7)), (26, vc (aI v8))], [(2, [aS ([] : List UInt8), aI (0 : Int), aI (0 : Int), aI (0 : Int), aI (0 : Int), aB false])], [(1408, 1, List.map rI v9)]⟩ → go Tryd.prog (.code (.loop c_spec_ParseShip_2) :: [.blk 0, .code c_spec_ParseShip_n2]) (Ret [.c 2 true 6, 3] [.ag [.v (.str r.1.Name), .v (.int .i64 r.1.Length), .v (.int .i64 r.1.Draught), .v (.int .i64 r.1.Line), .v (.int .i64 r.1.Tugs), .v (.bool r.1.Slow)], .sc (.v (.bool r.2))]) .normal (some σ) := by
  intro n
  induction n with
  | zero => intro _ _ r h; cases h
  | succ n ih =>
    intro v8 v9 r h σ hσ
    rw [f_spec_ParseShip_2] at h
    refine go_round ?_
    rcases Bool.eq_false_or_eq_true (decide (v8 < y7)) with hb10 | hb10
    · rw [ite_t hb10] at h
      obtain ⟨x11, hx11, h⟩ := ob h
      obtain ⟨r12, hr12, h⟩ := ob h
      try simp only [hσ, hb10, hx11, c_spec_ParseShip_2, Nat.reduceBEq, Nat.reduceMul, Nat.reduceAdd, Nat.reduceDiv, Int.reduceBEq, rules2, rowsX]
      refine go_callI (w_spec_ParseInt _ _ hr12) rfl rfl (Nat.le_of_ble_eq_true rfl) ?_
      rcases Bool.eq_false_or_eq_true r12.2 with hb13 | hb13
      · rw [ite_t hb13] at h
        try simp only [hb10, hx11, hb13, Nat.reduceBEq, Nat.reduceMul, Nat.reduceAdd, Nat.reduceDiv, Int.reduceBEq, rules2, rowsX]
        refine go_bsl (es := List.map rI ([r12.1] : List Int)) rfl rfl ?_
        obtain ⟨hg14, h⟩ := of_guard h
        try simp only [hb10, hx11, hb13, hg14, Nat.reduceBEq, Nat.reduceMul, Nat.reduceAdd, Nat.reduceDiv, Int.reduceBEq, rules2, rowsX]
        refine ih _ _ _ h _ ?_
        try simp only [hb10, hx11, hb13, hg14, Nat.reduceBEq, Nat.reduceMul, Nat.reduceAdd, Nat.reduceDiv, Int.reduceBEq, rules2, rowsX, List.map_nil]
      · rw [ite_f hb13] at h
        try simp only [hb10, hx11, hb13, Nat.reduceBEq, Nat.reduceMul, Nat.reduceAdd, Nat.reduceDiv, Int.reduceBEq, rules2, rowsX]
        cases h
        try simp only [rulesR, Nat.reduceBEq, Nat.reduceMul, Nat.reduceAdd, Nat.reduceDiv, Int.reduceBEq, rules2, rowsX]
        exact ⟨⟨⟨rfl, rfl, rfl, rfl, rfl, rfl, trivial⟩, rfl, trivial⟩, rfl⟩
    · rw [ite_f hb10] at h
      try simp only [hσ, hb10, c_spec_ParseShip_2, c_spec_ParseShip_n2, Nat.reduceBEq, Nat.reduceMul, Nat.reduceAdd, Nat.reduceDiv, Int.reduceBEq, rules2, rowsX]
      refine go_fr_of rfl ?_
      obtain ⟨x15, hx15, h⟩ := ob h
      obtain ⟨x16, hx16, h⟩ := ob h
      have hx16n := ix_get hx16
      obtain ⟨x17, hx17, h⟩ := ob h
      have hx17n := ix_get hx17
      obtain ⟨x18, hx18, h⟩ := ob h
      have hx18n := ix_get hx18
      obtain ⟨x19, hx19, h⟩ := ob h
      have hx19n := ix_get hx19
      try simp only [hb10, hx15, hx16, hx16n, hx17, hx17n, hx18, hx18n, hx19, hx19n, Nat.reduceBEq, Nat.reduceMul, Nat.reduceAdd, Nat.reduceDiv, Int.reduceBEq, rules2, rowsX]
      refine go_al rfl rfl ?_
      try simp only [hb10, hx15, hx16, hx16n, hx17, hx17n, hx18, hx18n, hx19, hx19n, Nat.reduceBEq, Nat.reduceMul, Nat.reduceAdd, Nat.reduceDiv, Int.reduceBEq, rules2, rowsX]
      refine go_fr_of rfl ?_
      obtain ⟨r20, hr20, h⟩ := ob h
      try simp only [hb10, hx15, hx16, hx16n, hx17, hx17n, hx18, hx18n, hx19, hx19n, Nat.reduceBEq, Nat.reduceMul, Nat.reduceAdd, Nat.reduceDiv, Int.reduceBEq, rules2, rowsX]
      refine go_callI (w_spec_ShipOk _ _ hr20) rfl rfl (Nat.le_of_ble_eq_true rfl) ?_
      rcases Bool.eq_false_or_eq_true r20 with hb21 | hb21
      · rw [ite_t hb21] at h
        obtain ⟨r22, hr22, h⟩ := ob h
        try simp only [hb10, hx15, hx16, hx16n, hx17, hx17n, hx18, hx18n, hx19, hx19n, hb21, Nat.reduceBEq, Nat.reduceMul, Nat.reduceAdd, Nat.reduceDiv, Int.reduceBEq, rules2, rowsX]
        refine go_callI (w_spec_FormatShip _ _ hr22) rfl rfl (Nat.le_of_ble_eq_true rfl) ?_
        try simp only [hb10, hx15, hx16, hx16n, hx17, hx17n, hx18, hx18n, hx19, hx19n, hb21, Nat.reduceBEq, Nat.reduceMul, Nat.reduceAdd, Nat.reduceDiv, Int.reduceBEq, rules2, rowsX]
        refine w_spec_ParseShip_3 _ _ _ _ _ _ _ _ h _ ?_
        try simp only [hb10, hx15, hx16, hx16n, hx17, hx17n, hx18, hx18n, hx19, hx19n, hb21, Nat.reduceBEq, Nat.reduceMul, Nat.reduceAdd, Nat.reduceDiv, Int.reduceBEq, rules2, rowsX, List.map_nil]
      · rw [ite_f hb21] at h
        try simp only [hb10, hx15, hx16, hx16n, hx17, hx17n, hx18, hx18n, hx19, hx19n, hb21, Nat.reduceBEq, Nat.reduceMul, Nat.reduceAdd, Nat.reduceDiv, Int.reduceBEq, rules2, rowsX]
        refine w_spec_ParseShip_3 _ _ _ _ _ _ _ _ h _ ?_
        try simp only [hb10, hx15, hx16, hx16n, hx17, hx17n, hx18, hx18n, hx19, hx19n, hb21, Nat.reduceBEq, Nat.reduceMul, Nat.reduceAdd, Nat.reduceDiv, Int.reduceBEq, rules2, rowsX, List.map_nil]
theorem w_spec_ParseShip_1 (a0 : List UInt8) (r1 : (List (List UInt8))) (v3 : Bool) (r : XShip × Bool) (h : f_spec_ParseShip_1 a0 r1 v3 = some r) (σ : St) (hσ : σ.kept [0, 2, 4, 20] [2] [768] = ⟨[(0, vc (aS a0)), (2, vc (.pb 2 0)), (4, vc (.own 768)), (20, vc (aB v3))], [(2, [aS ([] : List UInt8), aI (0 : Int), aI (0 : Int), aI (0 : Int), aI (0 : Int), aB false])], [(768, 1, List.map rS r1)]⟩) : go Tryd.prog (.code c_spec_ParseShip_1 :: [.code c_spec_ParseShip_n1]) (Ret [.c 2 true 6, 3] [.ag [.v (.str r.1.Name), .v (.int .i64 r.1.Length), .v (.int .i64 r.1.Draught), .v (.int .i64 r.1.Line), .v (.int .i64 r.1.Tugs), .v (.bool r.1.Slow)], .sc (.v (.bool r.2))]) .normal (some σ) := by
  unfold f_spec_ParseShip_1 at h
  rcases Bool.eq_false_or_eq_true v3 with hb4 | hb4
  · rw [ite_t hb4] at h
    try simp only [hσ, hb4, c_spec_ParseShip_1, Nat.reduceBEq, Nat.reduceMul, Nat.reduceAdd, Nat.reduceDiv, Int.reduceBEq, rules2, rowsX]
    cases h
    try simp only [rulesR, Nat.reduceBEq, Nat.reduceMul, Nat.reduceAdd, Nat.reduceDiv, Int.reduceBEq, rules2, rowsX]
    exact ⟨⟨⟨rfl, rfl, rfl, rfl, rfl, rfl, trivial⟩, rfl, trivial⟩, rfl⟩
  · rw [ite_f hb4] at h
    try simp only [hσ, hb4, c_spec_ParseShip_1, c_spec_ParseShip_n1, Nat.reduceBEq, Nat.reduceMul, Nat.reduceAdd, Nat.reduceDiv, Int.reduceBEq, rules2, rowsX]
    refine go_bsl (es := List.map rI ([] : List Int)) rfl rfl ?_
    try simp only [hb4, Nat.reduceBEq, Nat.reduceMul, Nat.reduceAdd, Nat.reduceDiv, Int.reduceBEq, rules2, rowsX]
    refine go_frz' rfl ?_
    obtain ⟨p5, hp5, h⟩ := ob h
    try simp only [hb4, hp5, Nat.reduceBEq, Nat.reduceMul, Nat.reduceAdd, Nat.reduceDiv, Int.reduceBEq, rules2, rowsX]
    refine w_spec_ParseShip_2 _ _ _ _ _ _ _ _ h _ ?_
    try simp only [hb4, hp5, Nat.reduceBEq, Nat.reduceMul, Nat.reduceAdd, Nat.reduceDiv, Int.reduceBEq, rules2, rowsX, List.map_nil]
theorem e_spec_ParseShip : entry Tryd.prog 48 = some (c_spec_ParseShip.strip, [.c 2 true 6, 3], 73) := by kernel_rfl
theorem w_spec_ParseShip (a0 : List UInt8) (r : XShip × Bool) (h : f_spec_ParseShip a0 = some r) : FC Tryd.prog 48 [.sc (.str a0)] [.ag [.v (.str r.1.Name), .v (.int .i64 r.1.Length), .v (.int .i64 r.1.Draught), .v (.int .i64 r.1.Line), .v (.int .i64 r.1.Tugs), .v (.bool r.1.Slow)], .sc (.v (.bool r.2))] := by
  unfold f_spec_ParseShip at h
  refine FC_go (σ := ⟨[(0, vc (aS a0))], [], []⟩) mixed e_spec_ParseShip rfl rfl ?_
  simp only [c_spec_ParseShip]
  try simp only [Nat.reduceBEq, Nat.reduceMul, Nat.reduceAdd, Nat.reduceDiv, Int.reduceBEq, rules2, rowsX]
  refine go_al rfl rfl ?_
  obtain ⟨r1, hr1, h⟩ := ob h
  try simp only [Nat.reduceBEq, Nat.reduceMul, Nat.reduceAdd, Nat.reduceDiv, Int.reduceBEq, rules2, rowsX]
  refine go_callI (w_spec_SplitAny _ _ _ hr1) rfl rfl (Nat.le_of_ble_eq_true rfl) ?_
  rcases Bool.eq_false_or_eq_true ((r1.length : Int) != (5 : Int)) with hb2 | hb2
  · rw [ite_t hb2] at h
    try simp only [hb2, Nat.reduceBEq, Nat.reduceMul, Nat.reduceAdd, Nat.reduceDiv, Int.reduceBEq, rules2, rowsX]
    refine w_spec_ParseShip_1 _ _ _ _ h _ ?_
    try simp only [hb2, Nat.reduceBEq, Nat.reduceMul, Nat.reduceAdd, Nat.reduceDiv, Int.reduceBEq, rules2, rowsX, List.map_nil]
  · rw [ite_f hb2] at h
    try simp only [hb2, Nat.reduceBEq, Nat.reduceMul, Nat.reduceAdd, Nat.reduceDiv, Int.reduceBEq, rules2, rowsX]
    refine w_spec_ParseShip_1 _ _ _ _ h _ ?_
    try simp only [hb2, Nat.reduceBEq, Nat.reduceMul, Nat.reduceAdd, Nat.reduceDiv, Int.reduceBEq, rules2, rowsX, List.map_nil]
/- 89: impl_SplitAny -/
def c_impl_SplitAny_2 : ACode := .seq (.reg [(none, .keep [0, 1, 5, 6, 7] [] [512])]) (.reg [(none, .mv 13 (S 7)), (none, .bin 14 .add (S 13) (K 1)), (none, .mv 7 (S 14))])
def c_impl_SplitAny_1 : ACode := .seq (.reg [(none, .keep [0, 1, 5, 6, 7] [] [512])]) (.seq (.seq (.reg [(none, .mv 9 (S 7)), (none, .mv 10 (S 0)), (none, .slen 11 (S 10)), (none, .bin 12 .lss (S 9) (S 11))]) (.cond (S 12) .skip (.exit 0))) (.seq (.block 1 (.seq (.reg [(none, .mv 15 (S 1)), (none, .mv 16 (S 0)), (none, .mv 17 (S 7)), (none, .idx 18 (S 16) (S 17)), (none, .call 19 111 [(S 15), (S 18)]), (none, .bin 20 .geq (S 19) (K 0))]) (.cond (S 20) (.seq (.reg [(none, .mv 21 (S 5)), (none, .mv 22 (S 0)), (none, .mv 23 (S 6)), (none, .mv 24 (S 7)), (none, .sslc 25 (S 22) (some (S 23)) (some (S 24))), (none, .bslice 26 1 [.str []] 1 [(0, (S 25))]), (none, .app 27 1 16 (S 21) (S 26)), (none, .mv 5 (S 27))]) (.reg [(none, .mv 28 (S 7)), (none, .bin 29 .add (S 28) (K 1)), (none, .mv 6 (S 29))])) .skip))) c_impl_SplitAny_2))
def c_impl_SplitAny_n1 : ACode := (.seq (.reg [(none, .mv 30 (S 5)), (none, .mv 31 (S 0)), (none, .mv 32 (S 6)), (none, .sslc 33 (S 31) (some (S 32)) none), (none, .bslice 34 1 [.str []] 1 [(0, (S 33))]), (none, .app 35 1 16 (S 30) (S 34)), (none, .mv 4 (S 35))]) .ret)
def c_impl_SplitAny : ACode := (.seq (.reg [(none, .mv 4 KN)]) (.seq (.reg [(none, .bslice 8 1 [.str []] 0 []), (none, .mv 5 (S 8))]) (.seq (.reg [(none, .mv 6 (K 0))]) (.seq (.seq (.reg [(none, .mv 7 (K 0))]) (.block 0 (.loop c_impl_SplitAny_1))) c_impl_SplitAny_n1))))
theorem w_impl_SplitAny_2 (a0 : List UInt8) (a1 : List UInt8) (v2 : Int) (k_impl_SplitAny_1 : Int → Int → (List (List UInt8)) → Option (List (List UInt8))) (hk_impl_SplitAny_1 : ∀ (v1 : Int) (v2 : Int) (v3 : List (List UInt8)) zr, k_impl_SplitAny_1 v1 v2 v3 = some zr → ∀ σ : St, σ.kept [0, 1, 5, 6, 7] [] [512] = ⟨[(0, vc (aS a0)), (1, vc (aS a1)), (5, vc (.own 512)), (6, vc (aI v1)), (7, vc (aI v2))], [], [(512, 1, List.map rS v3)]⟩ → go Tryd.prog (.code (.loop c_impl_SplitAny_1) :: [.blk 0, .code c_impl_SplitAny_n1]) (Ret [4] [.sc (.o 1 (List.map rS zr))]) .normal (some σ)) (v10 : Int) (v11 : List (List UInt8)) (r : (List (List UInt8))) (h : f_impl_SplitAny_2 a0 a1 v2 k_impl_SplitAny_1 v10 v11 = some r) (σ : St) (hσ : σ.kept [0, 1, 5, 6, 7] [] [512] = ⟨[(0, vc (aS a0)), (1, vc (aS a1)), (5, vc (.own 512)), (6, vc (aI v10)), (7, vc (aI v2))], [], [(512, 1, List.map rS v11)]⟩) : go Tryd.prog (.code c_impl_SplitAny_2 :: [.code (.loop c_impl_SplitAny_1), .blk 0, .code c_impl_SplitAny_n1]) (Ret [4] [.sc (.o 1 (List.map rS r))]) .normal (some σ) := by
  unfold f_impl_SplitAny_2 at h
  try simp only [hσ, c_impl_SplitAny_2, Nat.reduceBEq, Nat.reduceMul, Nat.reduceAdd, Nat.reduceDiv, Int.reduceBEq, rules2, rowsX]
  refine hk_impl_SplitAny_1 _ _ _ _ h _ ?_
  try simp only [Nat.reduceBEq, Nat.reduceMul, Nat.reduceAdd, Nat.reduceDiv, Int.reduceBEq, rules2, rowsX, List.map_nil]
theorem w_impl_SplitAny_1 (a0 : List UInt8) (a1 : List UInt8) : ∀ (n : Nat) (v1 : Int) (v2 : Int) (v3 : List (List UInt8)) (r : (List (List UInt8))), f_impl_SplitAny_1 a0 a1 n v1 v2 v3 = some r → ∀ σ : St, σ.kept [0, 1, 5, 6, 7] [] [512] = ⟨[(0, vc (aS a0)), (1, vc (aS a1)), (5, vc (.own 512)), (6, vc (aI v1)), (7, vc (aI v2))], [], [(512, 1, List.map rS v3)]⟩ → go Tryd.prog (.code (.loop c_impl_SplitAny_1) :: [.blk 0, .code c_impl_SplitAny_n1]) (Ret [4] [.sc (.o 1 (List.map rS r))]) .normal (some σ) := by
  intro n
  induction n with
  | zero => intro _ _ _ r h; cases h
  | succ n ih =>
    intro v1 v2 v3 r h σ hσ
    rw [f_impl_SplitAny_1] at h
    refine go_round ?_
    rcases Bool.eq_false_or_eq_true (decide (v2 < (a0.length : Int))) with hb4 | hb4
    · rw [ite_t hb4] at h
      obtain ⟨b5, hb5, h⟩ := ob h
      obtain ⟨r6, hr6, h⟩ := ob h
      try simp only [hσ, hb4, hb5, c_impl_SplitAny_1, Nat.reduceBEq, Nat.reduceMul, Nat.reduceAdd, Nat.reduceDiv, Int.reduceBEq, rules2, rowsX]
      refine go_callI (w_strings_IndexByte _ _ _ hr6) rfl rfl (Nat.le_of_ble_eq_true rfl) ?_
      rcases Bool.eq_false_or_eq_true (decide ((0 : Int) ≤ r6)) with hb7 | hb7
      · rw [ite_t hb7] at h
        obtain ⟨p8, hp8, h⟩ := ob h
        try simp only [hb4, hb5, hb7, hp8, Nat.reduceBEq, Nat.reduceMul, Nat.reduceAdd, Nat.reduceDiv, Int.reduceBEq, rules2, rowsX]
        refine go_bsl (es := List.map rS ([((a0.drop p8.1).take (p8.2 - p8.1))] : List (List UInt8))) rfl rfl ?_
        obtain ⟨hg9, h⟩ := of_guard h
        try simp only [hb4, hb5, hb7, hp8, hg9, Nat.reduceBEq, Nat.reduceMul, Nat.reduceAdd, Nat.reduceDiv, Int.reduceBEq, rules2, rowsX]
        refine w_impl_SplitAny_2 _ _ _ (f_impl_SplitAny_1 a0 a1 n) ih _ _ _ h _ ?_
        try simp only [hb4, hb5, hb7, hp8, hg9, Nat.reduceBEq, Nat.reduceMul, Nat.reduceAdd, Nat.reduceDiv, Int.reduceBEq, rules2, rowsX, List.map_nil]
      · rw [ite_f hb7] at h
        try simp only [hb4, hb5, hb7, Nat.reduceBEq, Nat.reduceMul, Nat.reduceAdd, Nat.reduceDiv, Int.reduceBEq, rules2, rowsX]
        refine w_impl_SplitAny_2 _ _ _ (f_impl_SplitAny_1 a0 a1 n) ih _ _ _ h _ ?_
        try simp only [hb4, hb5, hb7, Nat.reduceBEq, Nat.reduceMul, Nat.reduceAdd, Nat.reduceDiv, Int.reduceBEq, rules2, rowsX, List.map_nil]
    · rw [ite_f hb4] at h
      obtain ⟨p12, hp12, h⟩ := ob h
      try simp only [hσ, hb4, hp12, c_impl_SplitAny_1, c_impl_SplitAny_n1, Nat.reduceBEq, Nat.reduceMul, Nat.reduceAdd, Nat.reduceDiv, Int.reduceBEq, rules2, rowsX]
      refine go_bsl (es := List.map rS ([((a0.drop p12.1).take (p12.2 - p12.1))] : List (List UInt8))) rfl rfl ?_
      obtain ⟨hg13, h⟩ := of_guard h
      try simp only [hb4, hp12, hg13, Nat.reduceBEq, Nat.reduceMul, Nat.reduceAdd, Nat.reduceDiv, Int.reduceBEq, rules2, rowsX]
      cases h
      exact ⟨⟨rfl, trivial⟩, rfl⟩
theorem e_impl_SplitAny : entry Tryd.prog 89 = some (c_impl_SplitAny.strip, [4], 36) := by kernel_rfl
theorem w_impl_SplitAny (a0 : List UInt8) (a1 : List UInt8) (r : (List (List UInt8))) (h : f_impl_SplitAny a0 a1 = some r) : FC Tryd.prog 89 [.sc (.str a0), .sc (.str a1)] [.sc (.o 1 (List.map rS r))] := by
  unfold f_impl_SplitAny at h
  refine FC_go (σ := ⟨[(0, vc (aS a0)), (1, vc (aS a1))], [], []⟩) mixed e_impl_SplitAny rfl rfl ?_
  simp only [c_impl_SplitAny]
  try simp only [Nat.reduceBEq, Nat.reduceMul, Nat.reduceAdd, Nat.reduceDiv, Int.reduceBEq, rules2, rowsX]
  refine go_bsl (es := List.map rS ([] : List (List UInt8))) rfl rfl ?_
  try simp only [Nat.reduceBEq, Nat.reduceMul, Nat.reduceAdd, Nat.reduceDiv, Int.reduceBEq, rules2, rowsX]
  refine w_impl_SplitAny_1 _ _ _ _ _ _ _ h _ ?_
  try simp only [Nat.reduceBEq, Nat.reduceMul, Nat.reduceAdd, Nat.reduceDiv, Int.reduceBEq, rules2, rowsX, List.map_nil]
/- 90: impl_parseNumbers -/
def c_impl_parseNumbers_1 : ACode := .seq (.reg [(none, .keep [4, 10, 11, 12] [] [576])]) (.seq (.reg [(none, .bin 13 .lss (S 12) (S 11))]) (.seq (.cond (S 13) .skip (.exit 0)) (.seq (.block 1 (.seq (.reg [(none, .iaddr 14 (S 10) (S 12) 1), (none, .load 15 (S 14) false 1), (none, .mv 6 (S 15))]) (.seq (.reg [(none, .mv 17 (S 6)), (none, .call 18 112 [(S 17)]), (none, .mv 16 (S 18)), (none, .extr 19 (S 16) 0), (none, .extr 20 (S 16) 1), (none, .mv 7 (S 19)), (none, .mv 8 (S 20))]) (.seq (.seq (.reg [(none, .mv 21 (S 8)), (none, .un 22 .not (S 21))]) (.cond (S 22) (.seq (.reg [(none, .mv 2 KN), (none, .mv 3 (KB false))]) .ret) .skip)) (.reg [(none, .mv 23 (S 4)), (none, .mv 24 (S 7)), (none, .bslice 25 1 [.int .i64 0] 1 [(0, (S 24))]), (none, .app 26 1 8 (S 23) (S 25)), (none, .mv 4 (S 26))]))))) (.reg [(none, .bin 27 .add (S 12) (K 1)), (none, .mv 12 (S 27))]))))
def c_impl_parseNumbers_n1 : ACode := (.seq (.reg [(none, .mv 28 (S 4)), (none, .mv 2 (S 28)), (none, .mv 3 (KB true))]) .ret)
def c_impl_parseNumbers : ACode := (.seq (.reg [(none, .mv 2 KN), (none, .mv 3 (KB false))]) (.seq (.reg [(none, .bslice 9 1 [.int .i64 0] 0 []), (none, .mv 4 (S 9))]) (.seq (.seq (.reg [(none, .mv 10 (S 0)), (none, .len 11 (S 10)), (none, .mv 12 (K 0))]) (.block 0 (.loop c_impl_parseNumbers_1))) c_impl_parseNumbers_n1)))
theorem w_impl_parseNumbers_1 (a0 : List (List UInt8)) : ∀ (n : Nat) (v1 : Int) (v2 : List Int) (r : (List Int) × Bool), f_impl_parseNumbers_1 a0 n v1 v2 = some r → ∀ σ : St, σ.kept [4, 10, 11, 12] [] [576] = ⟨[(4, vc (.own 576)), (10, vc (aL (List.map rS a0))), (11, vc (aI (a0.length : Int))), (12, vc (aI v1))], [], [(576, 1, List.map rI v2)]⟩ → go Tryd.prog (.code (.loop c_impl_parseNumbers_1) :: [.blk 0, .code c_impl_parseNumbers_n1]) (Ret [2, 3] [.sc (.o 1 (List.map rI r.1)), .sc (.v (.bool r.2))]) .normal (some σ) := by
  intro n
  induction n with
  | zero => intro _ _ r h; cases h
  | succ n ih =>
    intro v1 v2 r h σ hσ
    rw [f_impl_parseNumbers_1] at h
    refine go_round ?_
    rcases Bool.eq_false_or_eq_true (decide (v1 < (a0.length : Int))) with hb3 | hb3
    · rw [ite_t hb3] at h
      obtain ⟨x4, hx4, h⟩ := ob h
      obtain ⟨r5, hr5, h⟩ := ob h
      try simp only [hσ, hb3, hx4, c_impl_parseNumbers_1, Nat.reduceBEq, Nat.reduceMul, Nat.reduceAdd, Nat.reduceDiv, Int.reduceBEq, rules2, rowsX]
      refine go_callI (w_impl_ParseInt _ _ hr5) rfl rfl (Nat.le_of_ble_eq_true rfl) ?_
      rcases Bool.eq_false_or_eq_true r5.2 with hb6 | hb6
      · rw [ite_t hb6] at h
        try simp only [hb3, hx4, hb6, Nat.reduceBEq, Nat.reduceMul, Nat.reduceAdd, Nat.reduceDiv, Int.reduceBEq, rules2, rowsX]
        refine go_bsl (es := List.map rI ([r5.1] : List Int)) rfl rfl ?_
        obtain ⟨hg7, h⟩ := of_guard h
        try simp only [hb3, hx4, hb6, hg7, Nat.reduceBEq, Nat.reduceMul, Nat.reduceAdd, Nat.reduceDiv, Int.reduceBEq, rules2, rowsX]
        refine ih _ _ _ h _ ?_
        try simp only [hb3, hx4, hb6, hg7, Nat.reduceBEq, Nat.reduceMul, Nat.reduceAdd, Nat.reduceDiv, Int.reduceBEq, rules2, rowsX, List.map_nil]
      · rw [ite_f hb6] at h
        try simp only [hb3, hx4, hb6, Nat.reduceBEq, Nat.reduceMul, Nat.reduceAdd, Nat.reduceDiv, Int.reduceBEq, rules2, rowsX]
        cases h
        exact ⟨⟨rfl, rfl, trivial⟩, rfl⟩
    · rw [ite_f hb3] at h
      try simp only [hσ, hb3, c_impl_parseNumbers_1, c_impl_parseNumbers_n1, Nat.reduceBEq, Nat.reduceMul, Nat.reduceAdd, Nat.reduceDiv, Int.reduceBEq, rules2, rowsX]
      cases h
      exact ⟨⟨rfl, rfl, trivial⟩, rfl⟩
theorem e_impl_parseNumbers : entry Tryd.prog 90 = some (c_impl_parseNumbers.strip, [2, 3], 29) := by kernel_rfl
theorem w_impl_parseNumbers (a0 : List (List UInt8)) (r : (List Int) × Bool) (h : f_impl_parseNumbers a0 = some r) : FC Tryd.prog 90 [.sc (.sl (List.map rS a0))] [.sc (.o 1 (List.map rI r.1)), .sc (.v (.bool r.2))] := by
  unfold f_impl_parseNumbers at h
  refine FC_go (σ := ⟨[(0, vc (aL (List.map rS a0)))], [], []⟩) mixed e_impl_parseNumbers rfl rfl ?_
  simp only [c_impl_parseNumbers]
  try simp only [Nat.reduceBEq, Nat.reduceMul, Nat.reduceAdd, Nat.reduceDiv, Int.reduceBEq, rules2, rowsX]
  refine go_bsl (es := List.map rI ([] : List Int)) rfl rfl ?_
  try simp only [Nat.reduceBEq, Nat.reduceMul, Nat.reduceAdd, Nat.reduceDiv, Int.reduceBEq, rules2, rowsX]
  refine w_impl_parseNumbers_1 _ _ _ _ _ h _ ?_
  try simp only [Nat.reduceBEq, Nat.reduceMul, Nat.reduceAdd, Nat.reduceDiv, Int.reduceBEq, rules2, rowsX, List.map_nil]
/- 91: impl_within -/
def c_impl_within : ACode := (.seq (.reg [(none, .mv 6 (KB false))]) (.seq (.reg [(none, .mv 7 (S 1)), (none, .mv 8 (S 0)), (none, .bin 9 .leq (S 7) (S 8)), (none, .mv 10 (S 9)), (some (10, true), .mv 11 (S 0)), (some (10, true), .mv 12 (S 2)), (some (10, true), .bin 13 .leq (S 11) (S 12)), (none, .pick 14 (S 10) (S 13) (KB false)), (none, .mv 6 (S 14))]) .ret))
theorem e_impl_within : entry Tryd.prog 91 = some (c_impl_within.strip, [6], 15) := by kernel_rfl
theorem w_impl_within (a0 : Int) (a1 : Int) (a2 : Int) (r : Bool) (h : f_impl_within a0 a1 a2 = some r) : FC Tryd.prog 91 [.sc (.int .i64 a0), .sc (.int .i64 a1), .sc (.int .i64 a2)] [.sc (.v (.bool r))] := by
  unfold f_impl_within at h
  refine FC_go (σ := ⟨[(0, vc (aI a0)), (1, vc (aI a1)), (2, vc (aI a2))], [], []⟩) mixed e_impl_within rfl rfl ?_
  simp only [c_impl_within]
  rcases Bool.eq_false_or_eq_true (decide (a1 ≤ a0)) with hb1 | hb1
  · rw [ite_t hb1] at h
    try simp only [hb1, Nat.reduceBEq, Nat.reduceMul, Nat.reduceAdd, Nat.reduceDiv, Int.reduceBEq, rules2, rowsX]
    cases h
    exact ⟨⟨rfl, trivial⟩, rfl⟩
  · rw [ite_f hb1] at h
    try simp only [hb1, Nat.reduceBEq, Nat.reduceMul, Nat.reduceAdd, Nat.reduceDiv, Int.reduceBEq, rules2, rowsX]
    cases h
    exact ⟨⟨rfl, trivial⟩, rfl⟩
/- 95: impl_IsName -/
def c_impl_IsName_2 : ACode := .seq (.reg [(none, .keep [0, 3, 4] [] [])]) (.seq (.reg [(none, .mv 25 (S 4)), (none, .un 26 .not (S 25)), (none, .mv 27 (S 26)), (some (27, true), .mv 28 (S 3)), (some (27, true), .bin 29 .eql (S 28) (K 0)), (some (27, true), .mv 30 (S 29)), (some (30, false), .mv 31 (S 0)), (some (30, false), .mv 32 (S 3)), (some (30, false), .idx 33 (S 31) (S 32)), (some (30, false), .bin 34 .lss (S 33) (K8 48)), (some (27, true), .pick 35 (S 30) (KB true) (S 34)), (some (27, true), .mv 36 (S 35)), (some (36, false), .mv 37 (S 0)), (some (36, false), .mv 38 (S 3)), (some (36, false), .idx 39 (S 37) (S 38)), (some (36, false), .bin 40 .gtr (S 39) (K8 57)), (some (27, true), .pick 41 (S 36) (KB true) (S 40)), (none, .pick 42 (S 27) (S 41) (KB false))]) (.cond (S 42) (.seq (.reg [(none, .mv 2 (KB false))]) .ret) .skip))
def c_impl_IsName_3 : ACode := .seq (.reg [(none, .keep [0, 3] [] [])]) (.reg [(none, .mv 13 (S 3)), (none, .bin 14 .add (S 13) (K 1)), (none, .mv 3 (S 14))])
def c_impl_IsName_1 : ACode := .seq (.reg [(none, .keep [0, 3] [] [])]) (.seq (.seq (.reg [(none, .mv 9 (S 3)), (none, .mv 10 (S 0)), (none, .slen 11 (S 10)), (none, .bin 12 .lss (S 9) (S 11))]) (.cond (S 12) .skip (.exit 0))) (.seq (.block 1 (.seq (.reg [(none, .mv 15 (S 0)), (none, .mv 16 (S 3)), (none, .idx 17 (S 15) (S 16)), (none, .bin 18 .geq (S 17) (K8 97)), (none, .mv 19 (S 18)), (some (19, true), .mv 20 (S 0)), (some (19, true), .mv 21 (S 3)), (some (19, true), .idx 22 (S 20) (S 21)), (some (19, true), .bin 23 .leq (S 22) (K8 122)), (none, .pick 24 (S 19) (S 23) (KB false)), (none, .mv 4 (S 24))]) c_impl_IsName_2)) c_impl_IsName_3))
def c_impl_IsName_n1 : ACode := (.seq (.reg [(none, .mv 2 (KB true))]) .ret)
def c_impl_IsName : ACode := (.seq (.reg [(none, .mv 2 (KB false))]) (.seq (.seq (.reg [(none, .mv 5 (S 0)), (none, .slen 6 (S 5)), (none, .call 7 91 [(S 6), (K 1), (K 8)]), (none, .un 8 .not (S 7))]) (.cond (S 8) (.seq (.reg [(none, .mv 2 (KB false))]) .ret) .skip)) (.seq (.seq (.reg [(none, .mv 3 (K 0))]) (.block 0 (.loop c_impl_IsName_1))) c_impl_IsName_n1)))
theorem w_impl_IsName_3 (a0 : List UInt8) (v3 : Int) (k_impl_IsName_1 : Int → Option Bool) (hk_impl_IsName_1 : ∀ (v3 : Int) zr, k_impl_IsName_1 v3 = some zr → ∀ σ : St, σ.kept [0, 3] [] [] = ⟨[(0, vc (aS a0)), (3, vc (aI v3))], [], []⟩ → go Tryd.prog (.code (.loop c_impl_IsName_1) :: [.blk 0, .code c_impl_IsName_n1]) (Ret [2] [.sc (.v (.bool zr))]) .normal (some σ)) (r : Bool) (h : f_impl_IsName_3 a0 v3 k_impl_IsName_1 = some r) (σ : St) (hσ : σ.kept [0, 3] [] [] = ⟨[(0, vc (aS a0)), (3, vc (aI v3))], [], []⟩) : go Tryd.prog (.code c_impl_IsName_3 :: [.code (.loop c_impl_IsName_1), .blk 0, .code c_impl_IsName_n1]) (Ret [2] [.sc (.v (.bool r))]) .normal (some σ) := by
  unfold f_impl_IsName_3 at h
  try simp only [hσ, c_impl_IsName_3, Nat.reduceBEq, Nat.reduceMul, Nat.reduceAdd, Nat.reduceDiv, Int.reduceBEq, rules2, rowsX]
  refine hk_impl_IsName_1 _ _ h _ ?_
  try simp only [Nat.reduceBEq, Nat.reduceMul, Nat.reduceAdd, Nat.reduceDiv, Int.reduceBEq, rules2, rowsX, List.map_nil]
theorem w_impl_IsName_2 (a0 : List UInt8) (v3 : Int) (k_impl_IsName_1 : Int → Option Bool) (hk_impl_IsName_1 : ∀ (v3 : Int) zr, k_impl_IsName_1 v3 = some zr → ∀ σ : St, σ.kept [0, 3] [] [] = ⟨[(0, vc (aS a0)), (3, vc (aI v3))], [], []⟩ → go Tryd.prog (.code (.loop c_impl_IsName_1) :: [.blk 0, .code c_impl_IsName_n1]) (Ret [2] [.sc (.v (.bool zr))]) .normal (some σ)) (v7 : Bool) (r : Bool) (h : f_impl_IsName_2 a0 v3 k_impl_IsName_1 v7 = some r) (σ : St) (hσ : σ.kept [0, 3, 4] [] [] = ⟨[(0, vc (aS a0)), (3, vc (aI v3)), (4, vc (aB v7))], [], []⟩) : go Tryd.prog (.code c_impl_IsName_2 :: [.blk 1, .code c_impl_IsName_3, .code (.loop c_impl_IsName_1), .blk 0, .code c_impl_IsName_n1]) (Ret [2] [.sc (.v (.bool r))]) .normal (some σ) := by
  unfold f_impl_IsName_2 at h
  rcases Bool.eq_false_or_eq_true v7 with hb8 | hb8
  · rw [ite_t hb8] at h
    try simp only [hσ, hb8, c_impl_IsName_2, Nat.reduceBEq, Nat.reduceMul, Nat.reduceAdd, Nat.reduceDiv, Int.reduceBEq, rules2, rowsX]
    refine w_impl_IsName_3 _ _ k_impl_IsName_1 hk_impl_IsName_1 _ h _ ?_
    try simp only [hb8, Nat.reduceBEq, Nat.reduceMul, Nat.reduceAdd, Nat.reduceDiv, Int.reduceBEq, rules2, rowsX, List.map_nil]
  · rw [ite_f hb8] at h
    rcases Bool.eq_false_or_eq_true (v3 == (0 : Int)) with hb9 | hb9
    · rw [ite_t hb9] at h
      try simp only [hσ, hb8, hb9, c_impl_IsName_2, Nat.reduceBEq, Nat.reduceMul, Nat.reduceAdd, Nat.reduceDiv, Int.reduceBEq, rules2, rowsX]
      cases h
      exact ⟨⟨rfl, trivial⟩, rfl⟩
    · rw [ite_f hb9] at h
      obtain ⟨b10, hb10, h⟩ := ob h
      rcases Bool.eq_false_or_eq_true (decide ((b10.toNat : Int) < (48 : Int))) with hb11 | hb11
      · rw [ite_t hb11] at h
        try simp only [hσ, hb8, hb9, hb10, hb11, c_impl_IsName_2, Nat.reduceBEq, Nat.reduceMul, Nat.reduceAdd, Nat.reduceDiv, Int.reduceBEq, rules2, rowsX]
        cases h
        exact ⟨⟨rfl, trivial⟩, rfl⟩
      · rw [ite_f hb11] at h
        rcases Bool.eq_false_or_eq_true (decide ((57 : Int) < (b10.toNat : Int))) with hb12 | hb12
        · rw [ite_t hb12] at h
          try simp only [hσ, hb8, hb9, hb10, hb11, hb12, c_impl_IsName_2, Nat.reduceBEq, Nat.reduceMul, Nat.reduceAdd, Nat.reduceDiv, Int.reduceBEq, rules2, rowsX]
          cases h
          exact ⟨⟨rfl, trivial⟩, rfl⟩
        · rw [ite_f hb12] at h
          try simp only [hσ, hb8, hb9, hb10, hb11, hb12, c_impl_IsName_2, Nat.reduceBEq, Nat.reduceMul, Nat.reduceAdd, Nat.reduceDiv, Int.reduceBEq, rules2, rowsX]
          refine w_impl_IsName_3 _ _ k_impl_IsName_1 hk_impl_IsName_1 _ h _ ?_
          try simp only [hb8, hb9, hb10, hb11, hb12, Nat.reduceBEq, Nat.reduceMul, Nat.reduceAdd, Nat.reduceDiv, Int.reduceBEq, rules2, rowsX, List.map_nil]
theorem w_impl_IsName_1 (a0 : List UInt8) : ∀ (n : Nat) (v3 : Int) (r : Bool), f_impl_IsName_1 a0 n v3 = some r → ∀ σ : St, σ.kept [0, 3] [] [] = ⟨[(0, vc (aS a0)), (3, vc (aI v3))], [], []⟩ → go Tryd.prog (.code (.loop c_impl_IsName_1) :: [.blk 0, .code c_impl_IsName_n1]) (Ret [2] [.sc (.v (.bool r))]) .normal (some σ) := by
  intro n
  induction n with
  | zero => intro _ r h; cases h
  | succ n ih =>
    intro v3 r h σ hσ
    rw [f_impl_IsName_1] at h
    refine go_round ?_
    rcases Bool.eq_false_or_eq_true (decide (v3 < (a0.length : Int))) with hb4 | hb4
    · rw [ite_t hb4] at h
      obtain ⟨b5, hb5, h⟩ := ob h
      rcases Bool.eq_false_or_eq_true (decide ((97 : Int) ≤ (b5.toNat : Int))) with hb6 | hb6
      · rw [ite_t hb6] at h
        try simp only [hσ, hb4, hb5, hb6, c_impl_IsName_1, Nat.reduceBEq, Nat.reduceMul, Nat.reduceAdd, Nat.reduceDiv, Int.reduceBEq, rules2, rowsX]
        refine w_impl_IsName_2 _ _ (f_impl_IsName_1 a0 n) ih _ _ h _ ?_
        try simp only [hb4, hb5, hb6, Nat.reduceBEq, Nat.reduceMul, Nat.reduceAdd, Nat.reduceDiv, Int.reduceBEq, rules2, rowsX, List.map_nil]
      · rw [ite_f hb6] at h
        try simp only [hσ, hb4, hb5, hb6, c_impl_IsName_1, Nat.reduceBEq, Nat.reduceMul, Nat.reduceAdd, Nat.reduceDiv, Int.reduceBEq, rules2, rowsX]
        refine w_impl_IsName_2 _ _ (f_impl_IsName_1 a0 n) ih _ _ h _ ?_
        try simp only [hb4, hb5, hb6, Nat.reduceBEq, Nat.reduceMul, Nat.reduceAdd, Nat.reduceDiv, Int.reduceBEq, rules2, rowsX, List.map_nil]
    · rw [ite_f hb4] at h
      try simp only [hσ, hb4, c_impl_IsName_1, c_impl_IsName_n1, Nat.reduceBEq, Nat.reduceMul, Nat.reduceAdd, Nat.reduceDiv, Int.reduceBEq, rules2, rowsX]
      cases h
      exact ⟨⟨rfl, trivial⟩, rfl⟩
theorem e_impl_IsName : entry Tryd.prog 95 = some (c_impl_IsName.strip, [2], 43) := by kernel_rfl
theorem w_impl_IsName (a0 : List UInt8) (r : Bool) (h : f_impl_IsName a0 = some r) : FC Tryd.prog 95 [.sc (.str a0)] [.sc (.v (.bool r))] := by
  unfold f_impl_IsName at h
  refine FC_go (σ := ⟨[(0, vc (aS a0))], [], []⟩) mixed e_impl_IsName rfl rfl ?_
  simp only [c_impl_IsName]
  obtain ⟨r1, hr1, h⟩ := ob h
  try simp only [Nat.reduceBEq, Nat.reduceMul, Nat.reduceAdd, Nat.reduceDiv, Int.reduceBEq, rules2, rowsX]
  refine go_callI (w_impl_within _ _ _ _ hr1) rfl rfl (Nat.le_of_ble_eq_true rfl) ?_
  rcases Bool.eq_false_or_eq_true r1 with hb2 | hb2
  · rw [ite_t hb2] at h
    try simp only [hb2, Nat.reduceBEq, Nat.reduceMul, Nat.reduceAdd, Nat.reduceDiv, Int.reduceBEq, rules2, rowsX]
    refine w_impl_IsName_1 _ _ _ _ h _ ?_
    try simp only [hb2, Nat.reduceBEq, Nat.reduceMul, Nat.reduceAdd, Nat.reduceDiv, Int.reduceBEq, rules2, rowsX, List.map_nil]
  · rw [ite_f hb2] at h
    try simp only [hb2, Nat.reduceBEq, Nat.reduceMul, Nat.reduceAdd, Nat.reduceDiv, Int.reduceBEq, rules2, rowsX]
    cases h
    exact ⟨⟨rfl, trivial⟩, rfl⟩
/- 96: impl_isIndex -/
def c_impl_isIndex : ACode := (.seq (.reg [(none, .mv 4 (KB false))]) (.seq (.reg [(none, .mv 5 (S 0)), (none, .bin 6 .geq (S 5) (K 0)), (none, .mv 7 (S 6)), (some (7, true), .mv 8 (S 0)), (some (7, true), .mv 9 (S 1)), (some (7, true), .bin 10 .lss (S 8) (S 9)), (none, .pick 11 (S 7) (S 10) (KB false)), (none, .mv 4 (S 11))]) .ret))
theorem e_impl_isIndex : entry Tryd.prog 96 = some (c_impl_isIndex.strip, [4], 12) := by kernel_rfl
theorem w_impl_isIndex (a0 : Int) (a1 : Int) (r : Bool) (h : f_impl_isIndex a0 a1 = some r) : FC Tryd.prog 96 [.sc (.int .i64 a0), .sc (.int .i64 a1)] [.sc (.v (.bool r))] := by
  unfold f_impl_isIndex at h
  refine FC_go (σ := ⟨[(0, vc (aI a0)), (1, vc (aI a1))], [], []⟩) mixed e_impl_isIndex rfl rfl ?_
  simp only [c_impl_isIndex]
  rcases Bool.eq_false_or_eq_true (decide ((0 : Int) ≤ a0)) with hb1 | hb1
  · rw [ite_t hb1] at h
    try simp only [hb1, Nat.reduceBEq, Nat.reduceMul, Nat.reduceAdd, Nat.reduceDiv, Int.reduceBEq, rules2, rowsX]
    cases h
    exact ⟨⟨rfl, trivial⟩, rfl⟩
  · rw [ite_f hb1] at h
    try simp only [hb1, Nat.reduceBEq, Nat.reduceMul, Nat.reduceAdd, Nat.reduceDiv, Int.reduceBEq, rules2, rowsX]
    cases h
    exact ⟨⟨rfl, trivial⟩, rfl⟩
/- 69: impl_ShipOk -/
def c_impl_ShipOk : ACode := (.seq (.reg [(none, .box 1 (S 0)), (none, .mv 2 (KB false))]) (.seq (.reg [(none, .faddr 3 (S 1) 0), (none, .load 4 (S 3) false 1), (none, .call 5 95 [(S 4)]), (none, .mv 6 (S 5)), (some (6, true), .faddr 7 (S 1) 1), (some (6, true), .load 8 (S 7) false 1), (some (6, true), .call 9 91 [(S 8), (K 10), (K 400)]), (none, .pick 10 (S 6) (S 9) (KB false)), (none, .mv 11 (S 10)), (some (11, true), .faddr 12 (S 1) 2), (some (11, true), .load 13 (S 12) false 1), (some (11, true), .call 14 91 [(S 13), (K 100), (K 2000)]), (none, .pick 15 (S 11) (S 14) (KB false)), (none, .mv 16 (S 15)), (some (16, true), .faddr 17 (S 1) 3), (some (16, true), .load 18 (S 17) false 1), (some (16, true), .call 19 96 [(S 18), (K 4)]), (none, .pick 20 (S 16) (S 19) (KB false)), (none, .mv 21 (S 20)), (some (21, true), .faddr 22 (S 1) 4), (some (21, true), .load 23 (S 22) false 1), (some (21, true), .call 24 91 [(S 23), (K 0), (K 4)]), (none, .pick 25 (S 21) (S 24) (KB false)), (none, .mv 2 (S 25))]) .ret))
theorem e_impl_ShipOk : entry Tryd.prog 69 = some (c_impl_ShipOk.strip, [2], 26) := by kernel_rfl
theorem w_impl_ShipOk (a0 : XShip) (r : Bool) (h : f_impl_ShipOk a0 = some r) : FC Tryd.prog 69 [.ag (XShip.row a0)] [.sc (.v (.bool r))] := by
  unfold f_impl_ShipOk at h
  refine FC_go (σ := ⟨[(0, va [aS a0.Name, aI a0.Length, aI a0.Draught, aI a0.Line, aI a0.Tugs, aB a0.Slow])], [], []⟩) mixed e_impl_ShipOk rfl rfl ?_
  simp only [c_impl_ShipOk]
  try simp only [Nat.reduceBEq, Nat.reduceMul, Nat.reduceAdd, Nat.reduceDiv, Int.reduceBEq, rules2, rowsX]
  refine go_bx rfl rfl rfl ?_
  obtain ⟨r1, hr1, h⟩ := ob h
  try simp only [Nat.reduceBEq, Nat.reduceMul, Nat.reduceAdd, Nat.reduceDiv, Int.reduceBEq, rules2, rowsX]
  refine go_callI (w_impl_IsName _ _ hr1) rfl rfl (Nat.le_of_ble_eq_true rfl) ?_
  rcases Bool.eq_false_or_eq_true r1 with hb2 | hb2
  · rw [ite_t hb2] at h
    obtain ⟨r3, hr3, h⟩ := ob h
    try simp only [hb2, Nat.reduceBEq, Nat.reduceMul, Nat.reduceAdd, Nat.reduceDiv, Int.reduceBEq, rules2, rowsX]
    refine go_callI (w_impl_within _ _ _ _ hr3) rfl rfl (Nat.le_of_ble_eq_true rfl) ?_
    rcases Bool.eq_false_or_eq_true r3 with hb4 | hb4
    · rw [ite_t hb4] at h
      obtain ⟨r5, hr5, h⟩ := ob h
      try simp only [hb2, hb4, Nat.reduceBEq, Nat.reduceMul, Nat.reduceAdd, Nat.reduceDiv, Int.reduceBEq, rules2, rowsX]
      refine go_callI (w_impl_within _ _ _ _ hr5) rfl rfl (Nat.le_of_ble_eq_true rfl) ?_
      rcases Bool.eq_false_or_eq_true r5 with hb6 | hb6
      · rw [ite_t hb6] at h
        obtain ⟨r7, hr7, h⟩ := ob h
        try simp only [hb2, hb4, hb6, Nat.reduceBEq, Nat.reduceMul, Nat.reduceAdd, Nat.reduceDiv, Int.reduceBEq, rules2, rowsX]
        refine go_callI (w_impl_isIndex _ _ _ hr7) rfl rfl (Nat.le_of_ble_eq_true rfl) ?_
        rcases Bool.eq_false_or_eq_true r7 with hb8 | hb8
        · rw [ite_t hb8] at h
          obtain ⟨r9, hr9, h⟩ := ob h
          try simp only [hb2, hb4, hb6, hb8, Nat.reduceBEq, Nat.reduceMul, Nat.reduceAdd, Nat.reduceDiv, Int.reduceBEq, rules2, rowsX]
          refine go_callI (w_impl_within _ _ _ _ hr9) rfl rfl (Nat.le_of_ble_eq_true rfl) ?_
          try simp only [hb2, hb4, hb6, hb8, Nat.reduceBEq, Nat.reduceMul, Nat.reduceAdd, Nat.reduceDiv, Int.reduceBEq, rules2, rowsX]
          cases h
          exact ⟨⟨rfl, trivial⟩, rfl⟩
        · rw [ite_f hb8] at h
          try simp only [hb2, hb4, hb6, hb8, Nat.reduceBEq, Nat.reduceMul, Nat.reduceAdd, Nat.reduceDiv, Int.reduceBEq, rules2, rowsX]
          cases h
          exact ⟨⟨rfl, trivial⟩, rfl⟩
      · rw [ite_f hb6] at h
        try simp only [hb2, hb4, hb6, Nat.reduceBEq, Nat.reduceMul, Nat.reduceAdd, Nat.reduceDiv, Int.reduceBEq, rules2, rowsX]
        cases h
        exact ⟨⟨rfl, trivial⟩, rfl⟩
    · rw [ite_f hb4] at h
      try simp only [hb2, hb4, Nat.reduceBEq, Nat.reduceMul, Nat.reduceAdd, Nat.reduceDiv, Int.reduceBEq, rules2, rowsX]
      cases h
      exact ⟨⟨rfl, trivial⟩, rfl⟩
  · rw [ite_f hb2] at h
    try simp only [hb2, Nat.reduceBEq, Nat.reduceMul, Nat.reduceAdd, Nat.reduceDiv, Int.reduceBEq, rules2, rowsX]
    cases h
    exact ⟨⟨rfl, trivial⟩, rfl⟩
/- 57: impl_FormatInt -/
def c_impl_FormatInt : ACode := (.seq (.reg [(none, .mv 2 (KS []))]) (.seq (.reg [(none, .mv 3 (S 0)), (none, .call 4 93 [(S 3)]), (none, .mv 2 (S 4))]) .ret))
theorem e_impl_FormatInt : entry Tryd.prog 57 = some (c_impl_FormatInt.strip, [2], 5) := by kernel_rfl
theorem w_impl_FormatInt (a0 : Int) (r : (List UInt8)) (h : f_impl_FormatInt a0 = some r) : FC Tryd.prog 57 [.sc (.int .i64 a0)] [.sc (.v (.str r))] := by
  unfold f_impl_FormatInt at h
  refine FC_go (σ := ⟨[(0, vc (aI a0))], [], []⟩) mixed e_impl_FormatInt rfl rfl ?_
  simp only [c_impl_FormatInt]
  obtain ⟨r1, hr1, h⟩ := ob h
  try simp only [Nat.reduceBEq, Nat.reduceMul, Nat.reduceAdd, Nat.reduceDiv, Int.reduceBEq, rules2, rowsX]
  refine go_callI (w_strconv_Itoa _ _ hr1) rfl rfl (Nat.le_of_ble_eq_true rfl) ?_
  try simp only [Nat.reduceBEq, Nat.reduceMul, Nat.reduceAdd, Nat.reduceDiv, Int.reduceBEq, rules2, rowsX]
  cases h
  exact ⟨⟨rfl, trivial⟩, rfl⟩
/- 56: impl_Join -/
def c_impl_Join : ACode := (.seq (.reg [(none, .mv 4 (KS []))]) (.seq (.reg [(none, .mv 5 (S 0)), (none, .mv 6 (S 1)), (none, .call 7 92 [(S 5), (S 6)]), (none, .mv 4 (S 7))]) .ret))
theorem e_impl_Join : entry Tryd.prog 56 = some (c_impl_Join.strip, [4], 8) := by kernel_rfl
theorem w_impl_Join (a0 : List (List UInt8)) (a1 : List UInt8) (r : (List UInt8)) (h : f_impl_Join a0 a1 = some r) : FC Tryd.prog 56 [.sc (.sl (List.map rS a0)), .sc (.str a1)] [.sc (.v (.str r))] := by
  unfold f_impl_Join at h
  refine FC_go (σ := ⟨[(0, vc (aL (List.map rS a0))), (1, vc (aS a1))], [], []⟩) mixed e_impl_Join rfl rfl ?_
  simp only [c_impl_Join]
  obtain ⟨r1, hr1, h⟩ := ob h
  try simp only [Nat.reduceBEq, Nat.reduceMul, Nat.reduceAdd, Nat.reduceDiv, Int.reduceBEq, rules2, rowsX]
  refine go_callI (w_strings_Join _ _ _ hr1) rfl rfl (Nat.le_of_ble_eq_true rfl) ?_
  try simp only [Nat.reduceBEq, Nat.reduceMul, Nat.reduceAdd, Nat.reduceDiv, Int.reduceBEq, rules2, rowsX]
  cases h
  exact ⟨⟨rfl, trivial⟩, rfl⟩
/- 70: impl_marked -/
def c_impl_marked : ACode := (.seq (.reg [(none, .mv 6 (KS []))]) (.seq (.seq (.reg [(none, .mv 7 (S 1))]) (.cond (S 7) (.seq (.reg [(none, .mv 8 (S 0)), (none, .bin 9 .add (S 8) (KS [32])), (none, .mv 10 (S 2)), (none, .bin 11 .add (S 9) (S 10)), (none, .mv 6 (S 11))]) .ret) .skip)) (.seq (.reg [(none, .mv 12 (S 0)), (none, .mv 6 (S 12))]) .ret)))
theorem e_impl_marked : entry Tryd.prog 70 = some (c_impl_marked.strip, [6], 13) := by kernel_rfl
theorem w_impl_marked (a0 : List UInt8) (a1 : Bool) (a2 : List UInt8) (r : (List UInt8)) (h : f_impl_marked a0 a1 a2 = some r) : FC Tryd.prog 70 [.sc (.str a0), .sc (.bool a1), .sc (.str a2)] [.sc (.v (.str r))] := by
  unfold f_impl_marked at h
  refine FC_go (σ := ⟨[(0, vc (aS a0)), (1, vc (aB a1)), (2, vc (aS a2))], [], []⟩) mixed e_impl_marked rfl rfl ?_
  simp only [c_impl_marked]
  rcases Bool.eq_false_or_eq_true a1 with hb1 | hb1
  · rw [ite_t hb1] at h
    obtain ⟨hg2, h⟩ := of_guard h
    obtain ⟨hg3, h⟩ := of_guard h
    try simp only [hb1, hg2, hg3, Nat.reduceBEq, Nat.reduceMul, Nat.reduceAdd, Nat.reduceDiv, Int.reduceBEq, rules2, rowsX]
    cases h
    exact ⟨⟨rfl, trivial⟩, rfl⟩
  · rw [ite_f hb1] at h
    try simp only [hb1, Nat.reduceBEq, Nat.reduceMul, Nat.reduceAdd, Nat.reduceDiv, Int.reduceBEq, rules2, rowsX]
    cases h
    exact ⟨⟨rfl, trivial⟩, rfl⟩
/- 23: impl_FormatShip -/
def c_impl_FormatShip : ACode := (.seq (.reg [(none, .box 1 (S 0)), (none, .mv 2 (KS []))]) (.seq (.seq (.reg [(none, .load 4 (S 1) true 6), (none, .call 5 69 [(S 4)]), (none, .un 6 .not (S 5))]) (.cond (S 6) (.seq (.reg [(none, .mv 2 (KS []))]) .ret) .skip)) (.seq (.drw [(some [11, 14, 17, 20], (none, .faddr 7 (S 1) 0)), (some [11, 14, 17, 20], (none, .load 8 (S 7) false 1)), (some [], (none, .faddr 9 (S 1) 1)), (some [], (none, .load 10 (S 9) false 1)), (some [], (none, .call 11 57 [(S 10)])), (some [11], (none, .faddr 12 (S 1) 2)), (some [11], (none, .load 13 (S 12) false 1)), (some [], (none, .call 14 57 [(S 13)])), (some [11, 14], (none, .faddr 15 (S 1) 3)), (some [11, 14], (none, .load 16 (S 15) false 1)), (some [], (none, .call 17 57 [(S 16)])), (some [11, 14, 17], (none, .faddr 18 (S 1) 4)), (some [11, 14, 17], (none, .load 19 (S 18) false 1)), (some [], (none, .call 20 57 [(S 19)])), (some [], (none, .bslice 21 1 [.str []] 5 [(0, (S 8)), (1, (S 11)), (2, (S 14)), (3, (S 17)), (4, (S 20))])), (some [], (none, .mv 3 (S 21)))]) (.seq (.drw [(some [], (none, .mv 22 (S 3))), (some [], (none, .call 23 56 [(S 22), (KS [32])])), (some [23], (none, .faddr 24 (S 1) 5)), (some [23], (none, .load 25 (S 24) false 1)), (some [], (none, .call 26 70 [(S 23), (S 25), (KS [115, 108, 111, 119])])), (some [], (none, .mv 2 (S 26)))]) .ret))))
theorem e_impl_FormatShip : entry Tryd.prog 23 = some (c_impl_FormatShip.strip, [2], 27) := by kernel_rfl
theorem w_impl_FormatShip (a0 : XShip) (r : (List UInt8)) (h : f_impl_FormatShip a0 = some r) : FC Tryd.prog 23 [.ag (XShip.row a0)] [.sc (.v (.str r))] := by
  unfold f_impl_FormatShip at h
  refine FC_go (σ := ⟨[(0, va [aS a0.Name, aI a0.Length, aI a0.Draught, aI a0.Line, aI a0.Tugs, aB a0.Slow])], [], []⟩) mixed e_impl_FormatShip rfl rfl ?_
  simp only [c_impl_FormatShip]
  try simp only [Nat.reduceBEq, Nat.reduceMul, Nat.reduceAdd, Nat.reduceDiv, Int.reduceBEq, rules2, rowsX]
  refine go_bx rfl rfl rfl ?_
  obtain ⟨r1, hr1, h⟩ := ob h
  try simp only [Nat.reduceBEq, Nat.reduceMul, Nat.reduceAdd, Nat.reduceDiv, Int.reduceBEq, rules2, rowsX]
  refine go_callI (w_impl_ShipOk _ _ hr1) rfl rfl (Nat.le_of_ble_eq_true rfl) ?_
  rcases Bool.eq_false_or_eq_true r1 with hb2 | hb2
  · rw [ite_t hb2] at h
    try simp only [hb2, Nat.reduceBEq, Nat.reduceMul, Nat.reduceAdd, Nat.reduceDiv, Int.reduceBEq, rules2, rowsX]
    refine go_fr_of rfl ?_
    obtain ⟨r3, hr3, h⟩ := ob h
    try simp only [hb2, Nat.reduceBEq, Nat.reduceMul, Nat.reduceAdd, Nat.reduceDiv, Int.reduceBEq, rules2, rowsX]
    refine go_dcallI (w_impl_FormatInt _ _ hr3) rfl rfl (Nat.le_of_ble_eq_true rfl) ?_
    obtain ⟨r4, hr4, h⟩ := ob h
    try simp only [hb2, Nat.reduceBEq, Nat.reduceMul, Nat.reduceAdd, Nat.reduceDiv, Int.reduceBEq, rules2, rowsX]
    refine go_dcallI (w_impl_FormatInt _ _ hr4) rfl rfl (Nat.le_of_ble_eq_true rfl) ?_
    obtain ⟨r5, hr5, h⟩ := ob h
    try simp only [hb2, Nat.reduceBEq, Nat.reduceMul, Nat.reduceAdd, Nat.reduceDiv, Int.reduceBEq, rules2, rowsX]
    refine go_dcallI (w_impl_FormatInt _ _ hr5) rfl rfl (Nat.le_of_ble_eq_true rfl) ?_
    obtain ⟨r6, hr6, h⟩ := ob h
    try simp only [hb2, Nat.reduceBEq, Nat.reduceMul, Nat.reduceAdd, Nat.reduceDiv, Int.reduceBEq, rules2, rowsX]
    refine go_dcallI (w_impl_FormatInt _ _ hr6) rfl rfl (Nat.le_of_ble_eq_true rfl) ?_
    try simp only [hb2, Nat.reduceBEq, Nat.reduceMul, Nat.reduceAdd, Nat.reduceDiv, Int.reduceBEq, rules2, rowsX]
    refine go_bsl (es := List.map rS ([a0.Name, r3, r4, r5, r6] : List (List UInt8))) rfl rfl ?_
    try simp only [hb2, Nat.reduceBEq, Nat.reduceMul, Nat.reduceAdd, Nat.reduceDiv, Int.reduceBEq, rules2, rowsX]
    refine go_fr_of rfl ?_
    obtain ⟨r7, hr7, h⟩ := ob h
    try simp only [hb2, Nat.reduceBEq, Nat.reduceMul, Nat.reduceAdd, Nat.reduceDiv, Int.reduceBEq, rules2, rowsX]
    refine go_dcall (w_impl_Join _ _ _ hr7) rfl (flat_of rfl) rfl (Nat.le_of_ble_eq_true rfl) ?_
    obtain ⟨r8, hr8, h⟩ := ob h
    try simp only [hb2, Nat.reduceBEq, Nat.reduceMul, Nat.reduceAdd, Nat.reduceDiv, Int.reduceBEq, rules2, rowsX]
    refine go_dcallI (w_impl_marked _ _ _ _ hr8) rfl rfl (Nat.le_of_ble_eq_true rfl) ?_
    try simp only [hb2, Nat.reduceBEq, Nat.reduceMul, Nat.reduceAdd, Nat.reduceDiv, Int.reduceBEq, rules2, rowsX]
    cases h
    exact ⟨⟨rfl, trivial⟩, rfl⟩
  · rw [ite_f hb2] at h
    try simp only [hb2, Nat.reduceBEq, Nat.reduceMul, Nat.reduceAdd, Nat.reduceDiv, Int.reduceBEq, rules2, rowsX]
    cases h
    exact ⟨⟨rfl, trivial⟩, rfl⟩
/- 49: impl_ParseShip -/
def c_impl_ParseShip_1 : ACode := .seq (.reg [(none, .keep [2, 7, 50] [2, 7] [])]) (.cond (S 50) (.seq (.reg [(none, .build 51 [aS [], aI 0, aI 0, aI 0, aI 0, aB false] []), (none, .store (S 2) (S 51) 6), (none, .mv 3 (KB false))]) .ret) .skip)
def c_impl_ParseShip_n1 : ACode := (.seq (.reg [(none, .load 52 (S 7) true 6), (none, .store (S 2) (S 52) 6), (none, .mv 3 (KB true))]) .ret)
def c_impl_ParseShip : ACode := (.seq (.reg [(none, .alloc 2 [aS [], aI 0, aI 0, aI 0, aI 0, aB false]), (none, .mv 3 (KB false))]) (.seq (.reg [(none, .mv 8 (S 0)), (none, .call 9 89 [(S 8), (KS [32])]), (none, .mv 4 (S 9))]) (.seq (.seq (.reg [(none, .mv 10 (S 4)), (none, .len 11 (S 10)), (none, .bin 12 .lss (S 11) (K 5))]) (.cond (S 12) (.seq (.reg [(none, .build 13 [aS [], aI 0, aI 0, aI 0, aI 0, aB false] []), (none, .store (S 2) (S 13) 6), (none, .mv 3 (KB false))]) .ret) .skip)) (.seq (.reg [(none, .mv 15 (S 4)), (none, .frz 576), (none, .slc 16 1 (S 15) (some (K 1)) (some (K 5)) (some (K 5))), (none, .call 17 90 [(S 16)]), (none, .mv 14 (S 17)), (none, .extr 18 (S 14) 0), (none, .extr 19 (S 14) 1), (none, .mv 5 (S 18)), (none, .mv 6 (S 19))]) (.seq (.seq (.reg [(none, .mv 20 (S 6)), (none, .un 21 .not (S 20))]) (.cond (S 21) (.seq (.reg [(none, .build 22 [aS [], aI 0, aI 0, aI 0, aI 0, aB false] []), (none, .store (S 2) (S 22) 6), (none, .mv 3 (KB false))]) .ret) .skip)) (.seq (.drw [(some [7], (none, .mv 23 (S 4))), (some [7], (none, .iaddr 24 (S 23) (K 0) 1)), (some [7], (none, .load 25 (S 24) false 1)), (some [7], (none, .mv 26 (S 5))), (some [7], (none, .iaddr 27 (S 26) (K 0) 1)), (some [7], (none, .load 28 (S 27) false 1)), (some [7], (none, .mv 29 (S 5))), (some [7], (none, .iaddr 30 (S 29) (K 1) 1)), (some [7], (none, .load 31 (S 30) false 1)), (some [7], (none, .mv 32 (S 5))), (some [7], (none, .iaddr 33 (S 32) (K 2) 1)), (some [7], (none, .load 34 (S 33) false 1)), (some [7], (none, .mv 35 (S 5))), (some [7], (none, .iaddr 36 (S 35) (K 3) 1)), (some [7], (none, .load 37 (S 36) false 1)), (some [7], (none, .mv 38 (S 4))), (some [7], (none, .len 39 (S 38))), (some [7], (none, .bin 40 .gtr (S 39) (K 5))), (some [7], (none, .build 41 [aS [], aI 0, aI 0, aI 0, aI 0, aB false] [(0, 1, (S 25)), (1, 1, (S 28)), (2, 1, (S 31)), (3, 1, (S 34)), (4, 1, (S 37)), (5, 1, (S 40))])), (some [], (none, .alloc 7 [aS [], aI 0, aI 0, aI 0, aI 0, aB false])), (none, (none, .store (S 7) (S 41) 6))]) (.seq (.seq (.reg [(none, .load 42 (S 7) true 6), (none, .call 43 69 [(S 42)]), (none, .un 44 .not (S 43)), (none, .mv 45 (S 44)), (some (45, false), .load 46 (S 7) true 6), (some (45, false), .call 47 23 [(S 46)]), (some (45, false), .mv 48 (S 0)), (some (45, false), .bin 49 .neq (S 47) (S 48)), (none, .pick 50 (S 45) (KB true) (S 49))]) c_impl_ParseShip_1) c_impl_ParseShip_n1)))))))
theorem w_impl_ParseShip_1 (x6 : List UInt8) (x7 : Int) (x8 : Int) (x9 : Int) (x10 : Int) (v14 : Bool) (v15 : Bool) (r : XShip × Bool) (h : f_impl_ParseShip_1 x6 x7 x8 x9 x10 v14 v15 = some r) (σ : St) (hσ : σ.kept [2, 7, 50] [2, 7] [] = ⟨[(2, vc (.pb 2 0)), (7, vc (.pb 7 0)), (50, vc (aB v14))], [(2, [aS ([] : List UInt8), aI (0 : Int), aI (0 : Int), aI (0 : Int), aI (0 : Int), aB false]), (7, [aS x6, aI x7, aI x8, aI x9, aI x10, aB v15])], []⟩) : go Tryd.prog (.code c_impl_ParseShip_1 :: [.code c_impl_ParseShip_n1]) (Ret [.c 2 true 6, 3] [.ag [.v (.str r.1.Name), .v (.int .i64 r.1.Length), .v (.int .i64 r.1.Draught), .v (.int .i64 r.1.Line), .v (.int .i64 r.1.Tugs), .v (.bool r.1.Slow)], .sc (.v (.bool r.2))]) .normal (some σ) := by
  unfold f_impl_ParseShip_1 at h
  rcases Bool.eq_false_or_eq_true v14 with hb16 | hb16
  · rw [ite_t hb16] at h
    try simp only [hσ, hb16, c_impl_ParseShip_1, Nat.reduceBEq, Nat.reduceMul, Nat.reduceAdd, Nat.reduceDiv, Int.reduceBEq, rules2, rowsX]
    cases h
    try simp only [rulesR, Nat.reduceBEq, Nat.reduceMul, Nat.reduceAdd, Nat.reduceDiv, Int.reduceBEq, rules2, rowsX]
    exact ⟨⟨⟨rfl, rfl, rfl, rfl, rfl, rfl, trivial⟩, rfl, trivial⟩, rfl⟩
  · rw [ite_f hb16] at h
    try simp only [hσ, hb16, c_impl_ParseShip_1, c_impl_ParseShip_n1, Nat.reduceBEq, Nat.reduceMul, Nat.reduceAdd, Nat.reduceDiv, Int.reduceBEq, rules2, rowsX]
    cases h
    try simp only [rulesR, Nat.reduceBEq, Nat.reduceMul, Nat.reduceAdd, Nat.reduceDiv, Int.reduceBEq, rules2, rowsX]
    exact ⟨⟨⟨rfl, rfl, rfl, rfl, rfl, rfl, trivial⟩, rfl, trivial⟩, rfl⟩
theorem e_impl_ParseShip : entry Tryd.prog 49 = some (c_impl_ParseShip.strip, [.c 2 true 6, 3], 53) := by kernel_rfl
theorem w_impl_ParseShip (a0 : List UInt8) (r : XShip × Bool) (h : f_impl_ParseShip a0 = some r) : FC Tryd.prog 49 [.sc (.str a0)] [.ag [.v (.str r.1.Name), .v (.int .i64 r.1.Length), .v (.int .i64 r.1.Draught), .v (.int .i64 r.1.Line), .v (.int .i64 r.1.Tugs), .v (.bool r.1.Slow)], .sc (.v (.bool r.2))] := by
  unfold f_impl_ParseShip at h
  refine FC_go (σ := ⟨[(0, vc (aS a0))], [], []⟩) mixed e_impl_ParseShip rfl rfl ?_
  simp only [c_impl_ParseShip]
  try simp only [Nat.reduceBEq, Nat.reduceMul, Nat.reduceAdd, Nat.reduceDiv, Int.reduceBEq, rules2, rowsX]
  refine go_al rfl rfl ?_
  obtain ⟨r1, hr1, h⟩ := ob h
  try simp only [Nat.reduceBEq, Nat.reduceMul, Nat.reduceAdd, Nat.reduceDiv, Int.reduceBEq, rules2, rowsX]
  refine go_callI (w_impl_SplitAny _ _ _ hr1) rfl rfl (Nat.le_of_ble_eq_true rfl) ?_
  rcases Bool.eq_false_or_eq_true (decide ((r1.length : Int) < (5 : Int))) with hb2 | hb2
  · rw [ite_t hb2] at h
    try simp only [hb2, Nat.reduceBEq, Nat.reduceMul, Nat.reduceAdd, Nat.reduceDiv, Int.reduceBEq, rules2, rowsX]
    cases h
    try simp only [rulesR, Nat.reduceBEq, Nat.reduceMul, Nat.reduceAdd, Nat.reduceDiv, Int.reduceBEq, rules2, rowsX]
    exact ⟨⟨⟨rfl, rfl, rfl, rfl, rfl, rfl, trivial⟩, rfl, trivial⟩, rfl⟩
  · rw [ite_f hb2] at h
    try simp only [hb2, Nat.reduceBEq, Nat.reduceMul, Nat.reduceAdd, Nat.reduceDiv, Int.reduceBEq, rules2, rowsX]
    refine go_frz' rfl ?_
    obtain ⟨p3, hp3, h⟩ := ob h
    obtain ⟨r4, hr4, h⟩ := ob h
    try simp only [hb2, hp3, Nat.reduceBEq, Nat.reduceMul, Nat.reduceAdd, Nat.reduceDiv, Int.reduceBEq, rules2, rowsX]
    refine go_callI (w_impl_parseNumbers _ _ hr4) rfl rfl (Nat.le_of_ble_eq_true rfl) ?_
    rcases Bool.eq_false_or_eq_true r4.2 with hb5 | hb5
    · rw [ite_t hb5] at h
      try simp only [hb2, hp3, hb5, Nat.reduceBEq, Nat.reduceMul, Nat.reduceAdd, Nat.reduceDiv, Int.reduceBEq, rules2, rowsX]
      refine go_fr_of rfl ?_
      obtain ⟨x6, hx6, h⟩ := ob h
      obtain ⟨x7, hx7, h⟩ := ob h
      have hx7n := ix_get hx7
      obtain ⟨x8, hx8, h⟩ := ob h
      have hx8n := ix_get hx8
      obtain ⟨x9, hx9, h⟩ := ob h
      have hx9n := ix_get hx9
      obtain ⟨x10, hx10, h⟩ := ob h
      have hx10n := ix_get hx10
      try simp only [hb2, hp3, hb5, hx6, hx7, hx7n, hx8, hx8n, hx9, hx9n, hx10, hx10n, Nat.reduceBEq, Nat.reduceMul, Nat.reduceAdd, Nat.reduceDiv, Int.reduceBEq, rules2, rowsX]
      refine go_al rfl rfl ?_
      try simp only [hb2, hp3, hb5, hx6, hx7, hx7n, hx8, hx8n, hx9, hx9n, hx10, hx10n, Nat.reduceBEq, Nat.reduceMul, Nat.reduceAdd, Nat.reduceDiv, Int.reduceBEq, rules2, rowsX]
      refine go_fr_of rfl ?_
      obtain ⟨r11, hr11, h⟩ := ob h
      try simp only [hb2, hp3, hb5, hx6, hx7, hx7n, hx8, hx8n, hx9, hx9n, hx10, hx10n, Nat.reduceBEq, Nat.reduceMul, Nat.reduceAdd, Nat.reduceDiv, Int.reduceBEq, rules2, rowsX]
      refine go_callI (w_impl_ShipOk _ _ hr11) rfl rfl (Nat.le_of_ble_eq_true rfl) ?_
      rcases Bool.eq_false_or_eq_true r11 with hb12 | hb12
      · rw [ite_t hb12] at h
        obtain ⟨r13, hr13, h⟩ := ob h
        try simp only [hb2, hp3, hb5, hx6, hx7, hx7n, hx8, hx8n, hx9, hx9n, hx10, hx10n, hb12, Nat.reduceBEq, Nat.reduceMul, Nat.reduceAdd, Nat.reduceDiv, Int.reduceBEq, rules2, rowsX]
        refine go_callI (w_impl_FormatShip _ _ hr13) rfl rfl (Nat.le_of_ble_eq_true rfl) ?_
        try simp only [hb2, hp3, hb5, hx6, hx7, hx7n, hx8, hx8n, hx9, hx9n, hx10, hx10n, hb12, Nat.reduceBEq, Nat.reduceMul, Nat.reduceAdd, Nat.reduceDiv, Int.reduceBEq, rules2, rowsX]
        refine w_impl_ParseShip_1 _ _ _ _ _ _ _ _ h _ ?_
        try simp only [hb2, hp3, hb5, hx6, hx7, hx7n, hx8, hx8n, hx9, hx9n, hx10, hx10n, hb12, Nat.reduceBEq, Nat.reduceMul, Nat.reduceAdd, Nat.reduceDiv, Int.reduceBEq, rules2, rowsX, List.map_nil]
      · rw [ite_f hb12] at h
        try simp only [hb2, hp3, hb5, hx6, hx7, hx7n, hx8, hx8n, hx9, hx9n, hx10, hx10n, hb12, Nat.reduceBEq, Nat.reduceMul, Nat.reduceAdd, Nat.reduceDiv, Int.reduceBEq, rules2, rowsX]
        refine w_impl_ParseShip_1 _ _ _ _ _ _ _ _ h _ ?_
        try simp only [hb2, hp3, hb5, hx6, hx7, hx7n, hx8, hx8n, hx9, hx9n, hx10, hx10n, hb12, Nat.reduceBEq, Nat.reduceMul, Nat.reduceAdd, Nat.reduceDiv, Int.reduceBEq, rules2, rowsX, List.map_nil]
    · rw [ite_f hb5] at h
      try simp only [hb2, hp3, hb5, Nat.reduceBEq, Nat.reduceMul, Nat.reduceAdd, Nat.reduceDiv, Int.reduceBEq, rules2, rowsX]
      cases h
      try simp only [rulesR, Nat.reduceBEq, Nat.reduceMul, Nat.reduceAdd, Nat.reduceDiv, Int.reduceBEq, rules2, rowsX]
      exact ⟨⟨⟨rfl, rfl, rfl, rfl, rfl, rfl, trivial⟩, rfl, trivial⟩, rfl⟩
/- 50: laws_eqShip -/
def c_laws_eqShip : ACode := (.seq (.reg [(none, .box 2 (S 0)), (none, .box 3 (S 1)), (none, .mv 4 (KB false))]) (.seq (.seq (.reg [(none, .faddr 5 (S 2) 0), (none, .load 6 (S 5) false 1), (none, .faddr 7 (S 3) 0), (none, .load 8 (S 7) false 1), (none, .bin 9 .neq (S 6) (S 8))]) (.cond (S 9) (.seq (.reg [(none, .mv 4 (KB false))]) .ret) .skip)) (.seq (.seq (.reg [(none, .faddr 10 (S 2) 1), (none, .load 11 (S 10) false 1), (none, .faddr 12 (S 3) 1), (none, .load 13 (S 12) false 1), (none, .bin 14 .neq (S 11) (S 13))]) (.cond (S 14) (.seq (.reg [(none, .mv 4 (KB false))]) .ret) .skip)) (.seq (.seq (.reg [(none, .faddr 15 (S 2) 2), (none, .load 16 (S 15) false 1), (none, .faddr 17 (S 3) 2), (none, .load 18 (S 17) false 1), (none, .bin 19 .neq (S 16) (S 18))]) (.cond (S 19) (.seq (.reg [(none, .mv 4 (KB false))]) .ret) .skip)) (.seq (.seq (.reg [(none, .faddr 20 (S 2) 3), (none, .load 21 (S 20) false 1), (none, .faddr 22 (S 3) 3), (none, .load 23 (S 22) false 1), (none, .bin 24 .neq (S 21) (S 23))]) (.cond (S 24) (.seq (.reg [(none, .mv 4 (KB false))]) .ret) .skip)) (.seq (.seq (.reg [(none, .faddr 25 (S 2) 4), (none, .load 26 (S 25) false 1), (none, .faddr 27 (S 3) 4), (none, .load 28 (S 27) false 1), (none, .bin 29 .neq (S 26) (S 28))]) (.cond (S 29) (.seq (.reg [(none, .mv 4 (KB false))]) .ret) .skip)) (.seq (.seq (.reg [(none, .faddr 30 (S 2) 5), (none, .load 31 (S 30) false 1), (none, .faddr 32 (S 3) 5), (none, .load 33 (S 32) false 1), (none, .beq 34 true (S 31) (S 33))]) (.cond (S 34) (.seq (.reg [(none, .mv 4 (KB false))]) .ret) .skip)) (.seq (.reg [(none, .mv 4 (KB true))]) .ret))))))))
theorem e_laws_eqShip : entry Tryd.prog 50 = some (c_laws_eqShip.strip, [4], 35) := by kernel_rfl
theorem w_laws_eqShip (a0 : XShip) (a1 : XShip) (r : Bool) (h : f_laws_eqShip a0 a1 = some r) : FC Tryd.prog 50 [.ag (XShip.row a0), .ag (XShip.row a1)] [.sc (.v (.bool r))] := by
  unfold f_laws_eqShip at h
  refine FC_go (σ := ⟨[(0, va [aS a0.Name, aI a0.Length, aI a0.Draught, aI a0.Line, aI a0.Tugs, aB a0.Slow]), (1, va [aS a1.Name, aI a1.Length, aI a1.Draught, aI a1.Line, aI a1.Tugs, aB a1.Slow])], [], []⟩) mixed e_laws_eqShip rfl rfl ?_
  simp only [c_laws_eqShip]
  try simp only [Nat.reduceBEq, Nat.reduceMul, Nat.reduceAdd, Nat.reduceDiv, Int.reduceBEq, rules2, rowsX]
  refine go_bx rfl rfl rfl ?_
  try simp only [Nat.reduceBEq, Nat.reduceMul, Nat.reduceAdd, Nat.reduceDiv, Int.reduceBEq, rules2, rowsX]
  refine go_bx rfl rfl rfl ?_
  rcases Bool.eq_false_or_eq_true (a0.Name == a1.Name) with hb1 | hb1
  · rw [ite_t hb1] at h
    rcases Bool.eq_false_or_eq_true (a0.Length != a1.Length) with hb2 | hb2
    · rw [ite_t hb2] at h
      try simp only [hb1, hb2, Nat.reduceBEq, Nat.reduceMul, Nat.reduceAdd, Nat.reduceDiv, Int.reduceBEq, rules2, rowsX]
      cases h
      exact ⟨⟨rfl, trivial⟩, rfl⟩
    · rw [ite_f hb2] at h
      rcases Bool.eq_false_or_eq_true (a0.Draught != a1.Draught) with hb3 | hb3
      · rw [ite_t hb3] at h
        try simp only [hb1, hb2, hb3, Nat.reduceBEq, Nat.reduceMul, Nat.reduceAdd, Nat.reduceDiv, Int.reduceBEq, rules2, rowsX]
        cases h
        exact ⟨⟨rfl, trivial⟩, rfl⟩
      · rw [ite_f hb3] at h
        rcases Bool.eq_false_or_eq_true (a0.Line != a1.Line) with hb4 | hb4
        · rw [ite_t hb4] at h
          try simp only [hb1, hb2, hb3, hb4, Nat.reduceBEq, Nat.reduceMul, Nat.reduceAdd, Nat.reduceDiv, Int.reduceBEq, rules2, rowsX]
          cases h
          exact ⟨⟨rfl, trivial⟩, rfl⟩
        · rw [ite_f hb4] at h
          rcases Bool.eq_false_or_eq_true (a0.Tugs != a1.Tugs) with hb5 | hb5
          · rw [ite_t hb5] at h
            try simp only [hb1, hb2, hb3, hb4, hb5, Nat.reduceBEq, Nat.reduceMul, Nat.reduceAdd, Nat.reduceDiv, Int.reduceBEq, rules2, rowsX]
            cases h
            exact ⟨⟨rfl, trivial⟩, rfl⟩
          · rw [ite_f hb5] at h
            rcases Bool.eq_false_or_eq_true (a0.Slow == a1.Slow) with hb6 | hb6
            · rw [ite_t hb6] at h
              try simp only [hb1, hb2, hb3, hb4, hb5, hb6, Nat.reduceBEq, Nat.reduceMul, Nat.reduceAdd, Nat.reduceDiv, Int.reduceBEq, rules2, rowsX]
              cases h
              exact ⟨⟨rfl, trivial⟩, rfl⟩
            · rw [ite_f hb6] at h
              try simp only [hb1, hb2, hb3, hb4, hb5, hb6, Nat.reduceBEq, Nat.reduceMul, Nat.reduceAdd, Nat.reduceDiv, Int.reduceBEq, rules2, rowsX]
              cases h
              exact ⟨⟨rfl, trivial⟩, rfl⟩
  · rw [ite_f hb1] at h
    try simp only [hb1, Nat.reduceBEq, Nat.reduceMul, Nat.reduceAdd, Nat.reduceDiv, Int.reduceBEq, rules2, rowsX]
    cases h
    exact ⟨⟨rfl, trivial⟩, rfl⟩
/- 11: laws_FnExactParseShip -/
def c_laws_FnExactParseShip : ACode := (.seq (.reg [(none, .mv 2 (KB false))]) (.seq (.seq (.reg [(none, .mv 7 (S 0)), (none, .slen 8 (S 7)), (none, .bin 9 .gtr (S 8) (K 1048576))]) (.cond (S 9) (.seq (.reg [(none, .mv 2 (KB true))]) .ret) .skip)) (.seq (.reg [(none, .mv 11 (S 0)), (none, .call 12 48 [(S 11)]), (none, .mv 10 (S 12)), (none, .extr 13 (S 10) 0), (none, .extr 14 (S 10) 1), (none, .alloc 3 [aS [], aI 0, aI 0, aI 0, aI 0, aB false]), (none, .store (S 3) (S 13) 6), (none, .mv 4 (S 14))]) (.seq (.reg [(none, .mv 16 (S 0)), (none, .call 17 49 [(S 16)]), (none, .mv 15 (S 17)), (none, .extr 18 (S 15) 0), (none, .extr 19 (S 15) 1), (none, .alloc 5 [aS [], aI 0, aI 0, aI 0, aI 0, aB false]), (none, .store (S 5) (S 18) 6), (none, .mv 6 (S 19))]) (.seq (.seq (.reg [(none, .load 20 (S 5) true 6), (none, .load 21 (S 3) true 6), (none, .call 22 50 [(S 20), (S 21)]), (none, .un 23 .not (S 22)), (none, .mv 24 (S 23)), (some (24, false), .mv 25 (S 6)), (some (24, false), .mv 26 (S 4)), (some (24, false), .beq 27 true (S 25) (S 26)), (none, .pick 28 (S 24) (KB true) (S 27))]) (.cond (S 28) (.seq (.reg [(none, .mv 2 (KB false))]) .ret) .skip)) (.seq (.reg [(none, .mv 2 (KB true))]) .ret))))))
theorem e_laws_FnExactParseShip : entry Tryd.prog 11 = some (c_laws_FnExactParseShip.strip, [2], 29) := by kernel_rfl
theorem w_laws_FnExactParseShip (a0 : List UInt8) (r : Bool) (h : f_laws_FnExactParseShip a0 = some r) : FC Tryd.prog 11 [.sc (.str a0)] [.sc (.v (.bool r))] := by
  unfold f_laws_FnExactParseShip at h
  refine FC_go (σ := ⟨[(0, vc (aS a0))], [], []⟩) mixed e_laws_FnExactParseShip rfl rfl ?_
  simp only [c_laws_FnExactParseShip]
  rcases Bool.eq_false_or_eq_true (decide ((1048576 : Int) < (a0.length : Int))) with hb1 | hb1
  · rw [ite_t hb1] at h
    try simp only [hb1, Nat.reduceBEq, Nat.reduceMul, Nat.reduceAdd, Nat.reduceDiv, Int.reduceBEq, rules2, rowsX]
    cases h
    exact ⟨⟨rfl, trivial⟩, rfl⟩
  · rw [ite_f hb1] at h
    obtain ⟨r2, hr2, h⟩ := ob h
    try simp only [hb1, Nat.reduceBEq, Nat.reduceMul, Nat.reduceAdd, Nat.reduceDiv, Int.reduceBEq, rules2, rowsX]
    refine go_callI (w_spec_ParseShip _ _ hr2) rfl rfl (Nat.le_of_ble_eq_true rfl) ?_
    try simp only [hb1, Nat.reduceBEq, Nat.reduceMul, Nat.reduceAdd, Nat.reduceDiv, Int.reduceBEq, rules2, rowsX]
    refine go_al rfl rfl ?_
    obtain ⟨r3, hr3, h⟩ := ob h
    try simp only [hb1, Nat.reduceBEq, Nat.reduceMul, Nat.reduceAdd, Nat.reduceDiv, Int.reduceBEq, rules2, rowsX]
    refine go_callI (w_impl_ParseShip _ _ hr3) rfl rfl (Nat.le_of_ble_eq_true rfl) ?_
    try simp only [hb1, Nat.reduceBEq, Nat.reduceMul, Nat.reduceAdd, Nat.reduceDiv, Int.reduceBEq, rules2, rowsX]
    refine go_al rfl rfl ?_
    obtain ⟨r4, hr4, h⟩ := ob h
    try simp only [hb1, Nat.reduceBEq, Nat.reduceMul, Nat.reduceAdd, Nat.reduceDiv, Int.reduceBEq, rules2, rowsX]
    refine go_callI (w_laws_eqShip _ _ _ hr4) rfl rfl (Nat.le_of_ble_eq_true rfl) ?_
    rcases Bool.eq_false_or_eq_true r4 with hb5 | hb5
    · rw [ite_t hb5] at h
      rcases Bool.eq_false_or_eq_true (r3.2 == r2.2) with hb6 | hb6
      · rw [ite_t hb6] at h
        try simp only [hb1, hb5, hb6, Nat.reduceBEq, Nat.reduceMul, Nat.reduceAdd, Nat.reduceDiv, Int.reduceBEq, rules2, rowsX]
        cases h
        exact ⟨⟨rfl, trivial⟩, rfl⟩
      · rw [ite_f hb6] at h
        try simp only [hb1, hb5, hb6, Nat.reduceBEq, Nat.reduceMul, Nat.reduceAdd, Nat.reduceDiv, Int.reduceBEq, rules2, rowsX]
        cases h
        exact ⟨⟨rfl, trivial⟩, rfl⟩
    · rw [ite_f hb5] at h
      try simp only [hb1, hb5, Nat.reduceBEq, Nat.reduceMul, Nat.reduceAdd, Nat.reduceDiv, Int.reduceBEq, rules2, rowsX]
      cases h
      exact ⟨⟨rfl, trivial⟩, rfl⟩
end Go.Vi
