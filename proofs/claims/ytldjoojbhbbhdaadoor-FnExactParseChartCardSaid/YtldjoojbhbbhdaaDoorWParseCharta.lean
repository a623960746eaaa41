/-
  Walks: what the plain definitions compute is what the functions return. By program. No condition.
-/
import Derived.Test.YtldjoojbhbbhdaaDoorNf
import Derived.Test.YtldjoojbhbbhdaaDoorChecked
import Derived.Test.YtldjoojbhbbhdaaDoorSh
import Derived.KernelRfl
namespace Go.Vi
open Go.Proofs
set_option linter.unusedSimpArgs false
set_option linter.unusedVariables false
set_option maxRecDepth 4000
set_option maxHeartbeats 2000000
attribute [local irreducible] go AWP
theorem mixed : Tryd.prog.follows .mixedOrders = true := by kernel_rfl
/- 21: spec_SplitAny -/
def c_spec_SplitAny_2 : ACode := .seq (.reg [(none, .keep [0, 1, 5, 6, 7, 8] [] [576])]) (.seq (.seq (.reg [(none, .mv 16 (S 8)), (none, .mv 17 (S 1)), (none, .slen 18 (S 17)), (none, .bin 19 .lss (S 16) (S 18))]) (.cond (S 19) .skip (.exit 2))) (.seq (.block 3 (.seq (.drw [(some [], (none, .mv 22 (S 0))), (some [], (none, .mv 23 (S 7))), (some [], (none, .idx 24 (S 22) (S 23))), (some [], (none, .mv 25 (S 1))), (some [], (none, .mv 26 (S 8))), (some [], (none, .idx 27 (S 25) (S 26))), (some [], (none, .bin 28 .eql (S 24) (S 27)))]) (.cond (S 28) (.seq (.reg [(none, .mv 29 (S 5)), (none, .mv 30 (S 0)), (none, .mv 31 (S 6)), (none, .mv 32 (S 7)), (none, .sslc 33 (S 30) (some (S 31)) (some (S 32))), (none, .bslice 34 1 [.str []] 1 [(0, (S 33))]), (none, .app 35 1 16 (S 29) (S 34)), (none, .mv 5 (S 35))]) (.seq (.reg [(none, .mv 36 (S 7)), (none, .bin 37 .add (S 36) (K 1)), (none, .mv 6 (S 37))]) (.exit 2))) .skip))) (.reg [(none, .mv 20 (S 8)), (none, .bin 21 .add (S 20) (K 1)), (none, .mv 8 (S 21))])))
def c_spec_SplitAny_3 : ACode := .seq (.reg [(none, .keep [0, 1, 5, 6, 7] [] [576])]) (.reg [(none, .mv 14 (S 7)), (none, .bin 15 .add (S 14) (K 1)), (none, .mv 7 (S 15))])
def c_spec_SplitAny_1 : ACode := .seq (.reg [(none, .keep [0, 1, 5, 6, 7] [] [576])]) (.seq (.seq (.reg [(none, .mv 10 (S 7)), (none, .mv 11 (S 0)), (none, .slen 12 (S 11)), (none, .bin 13 .lss (S 10) (S 12))]) (.cond (S 13) .skip (.exit 0))) (.seq (.block 1 (.seq (.reg [(none, .mv 8 (K 0))]) (.block 2 (.loop c_spec_SplitAny_2)))) c_spec_SplitAny_3))
def c_spec_SplitAny_n1 : ACode := (.seq (.reg [(none, .mv 38 (S 5)), (none, .mv 39 (S 0)), (none, .mv 40 (S 6)), (none, .sslc 41 (S 39) (some (S 40)) none), (none, .bslice 42 1 [.str []] 1 [(0, (S 41))]), (none, .app 43 1 16 (S 38) (S 42)), (none, .mv 4 (S 43))]) .ret)
def c_spec_SplitAny : ACode := (.seq (.reg [(none, .mv 4 KN)]) (.seq (.reg [(none, .bslice 9 1 [.str []] 0 []), (none, .mv 5 (S 9))]) (.seq (.reg [(none, .mv 6 (K 0))]) (.seq (.seq (.reg [(none, .mv 7 (K 0))]) (.block 0 (.loop c_spec_SplitAny_1))) c_spec_SplitAny_n1))))
theorem w_spec_SplitAny_3 (a0 : List UInt8) (a1 : List UInt8) (v2 : Int) (k_spec_SplitAny_1 : Int → Int → (List (List UInt8)) → Option (List (List UInt8))) (hk_spec_SplitAny_1 : ∀ (v1 : Int) (v2 : Int) (v3 : List (List UInt8)) zr, k_spec_SplitAny_1 v1 v2 v3 = some zr → ∀ σ : St, σ.kept [0, 1, 5, 6, 7] [] [576] = ⟨[(0, vc (aS a0)), (1, vc (aS a1)), (5, vc (.own 576)), (6, vc (aI v1)), (7, vc (aI v2))], [], [(576, 1, List.map rS v3)]⟩ → go Tryd.prog (.code (.loop c_spec_SplitAny_1) :: [.blk 0, .code c_spec_SplitAny_n1]) (Ret [4] [.sc (.o 1 (List.map rS zr))]) .normal (some σ)) (v12 : Int) (v13 : List (List UInt8)) (r : (List (List UInt8))) (h : f_spec_SplitAny_3 a0 a1 v2 k_spec_SplitAny_1 v12 v13 = some r) (σ : St) (hσ : σ.kept [0, 1, 5, 6, 7] [] [576] = ⟨[(0, vc (aS a0)), (1, vc (aS a1)), (5, vc (.own 576)), (6, vc (aI v12)), (7, vc (aI v2))], [], [(576, 1, List.map rS v13)]⟩) : go Tryd.prog (.code c_spec_SplitAny_3 :: [.code (.loop c_spec_SplitAny_1), .blk 0, .code c_spec_SplitAny_n1]) (Ret [4] [.sc (.o 1 (List.map rS r))]) .normal (some σ) := by
  unfold f_spec_SplitAny_3 at h
  try simp only [hσ, c_spec_SplitAny_3, Nat.reduceBEq, Nat.reduceMul, Nat.reduceAdd, Nat.reduceDiv, Int.reduceBEq, rules2, rulesX, rowsX]
  refine hk_spec_SplitAny_1 _ _ _ _ h _ ?_
  try simp only [Nat.reduceBEq, Nat.reduceMul, Nat.reduceAdd, Nat.reduceDiv, Int.reduceBEq, rules2, rulesX, rowsX, List.map_nil]
theorem w_spec_SplitAny_2 (a0 : List UInt8) (a1 : List UInt8) (v1 : Int) (v2 : Int) (v3 : List (List UInt8)) (k_spec_SplitAny_1 : Int → Int → (List (List UInt8)) → Option (List (List UInt8))) (hk_spec_SplitAny_1 : ∀ (v1 : Int) (v2 : Int) (v3 : List (List UInt8)) zr, k_spec_SplitAny_1 v1 v2 v3 = some zr → ∀ σ : St, σ.kept [0, 1, 5, 6, 7] [] [576] = ⟨[(0, vc (aS a0)), (1, vc (aS a1)), (5, vc (.own 576)), (6, vc (aI v1)), (7, vc (aI v2))], [], [(576, 1, List.map rS v3)]⟩ → go Tryd.prog (.code (.loop c_spec_SplitAny_1) :: [.blk 0, .code c_spec_SplitAny_n1]) (Ret [4] [.sc (.o 1 (List.map rS zr))]) .normal (some σ)) : ∀ (n : Nat) (v5 : Int) (r : (List (List UInt8))), f_spec_SplitAny_2 a0 a1 v1 v2 v3 k_spec_SplitAny_1 n v5 = some r → ∀ σ : St, σ.kept [0, 1, 5, 6, 7, 8] [] [576] = ⟨[(0, vc (aS a0)), (1, vc (aS a1)), (5, vc (.own 576)), (6, vc (aI v1)), (7, vc (aI v2)), (8, vc (aI v5))], [], [(576, 1, List.map rS v3)]⟩ → go Tryd.prog (.code (.loop c_spec_SplitAny_2) :: [.blk 2, .blk 1, .code c_spec_SplitAny_3, .code (.loop c_spec_SplitAny_1), .blk 0, .code c_spec_SplitAny_n1]) (Ret [4] [.sc (.o 1 (List.map rS r))]) .normal (some σ) := by
  intro n
  induction n with
  | zero => intro _ r h; cases h
  | succ n ih =>
    intro v5 r h σ hσ
    rw [f_spec_SplitAny_2] at h
    refine go_round ?_
    rcases Bool.eq_false_or_eq_true (decide (v5 < (a1.length : Int))) with hb6 | hb6
    · rw [ite_t hb6] at h
      try simp only [hσ, hb6, c_spec_SplitAny_2, Nat.reduceBEq, Nat.reduceMul, Nat.reduceAdd, Nat.reduceDiv, Int.reduceBEq, rules2, rulesX, rowsX]
      refine go_fr_of rfl ?_
      obtain ⟨b7, hb7, h⟩ := ob h
      obtain ⟨b8, hb8, h⟩ := ob h
      rcases Bool.eq_false_or_eq_true ((b7.toNat : Int) == (b8.toNat : Int)) with hb9 | hb9
      · rw [ite_t hb9] at h
        obtain ⟨p10, hp10, h⟩ := ob h
        try simp only [hb6, hb7, hb8, hb9, hp10, Nat.reduceBEq, Nat.reduceMul, Nat.reduceAdd, Nat.reduceDiv, Int.reduceBEq, rules2, rulesX, rowsX]
        refine go_bsl (es := List.map rS ([((a0.drop p10.1).take (p10.2 - p10.1))] : List (List UInt8))) rfl rfl ?_
        obtain ⟨hg11, h⟩ := of_guard h
        try simp only [hb6, hb7, hb8, hb9, hp10, hg11, Nat.reduceBEq, Nat.reduceMul, Nat.reduceAdd, Nat.reduceDiv, Int.reduceBEq, rules2, rulesX, rowsX]
        refine w_spec_SplitAny_3 _ _ _ k_spec_SplitAny_1 hk_spec_SplitAny_1 _ _ _ h _ ?_
        try simp only [hb6, hb7, hb8, hb9, hp10, hg11, Nat.reduceBEq, Nat.reduceMul, Nat.reduceAdd, Nat.reduceDiv, Int.reduceBEq, rules2, rulesX, rowsX, List.map_nil]
      · rw [ite_f hb9] at h
        try simp only [hb6, hb7, hb8, hb9, Nat.reduceBEq, Nat.reduceMul, Nat.reduceAdd, Nat.reduceDiv, Int.reduceBEq, rules2, rulesX, rowsX]
        refine ih _ _ h _ ?_
        try simp only [hb6, hb7, hb8, hb9, Nat.reduceBEq, Nat.reduceMul, Nat.reduceAdd, Nat.reduceDiv, Int.reduceBEq, rules2, rulesX, rowsX, List.map_nil]
    · rw [ite_f hb6] at h
      try simp only [hσ, hb6, c_spec_SplitAny_2, Nat.reduceBEq, Nat.reduceMul, Nat.reduceAdd, Nat.reduceDiv, Int.reduceBEq, rules2, rulesX, rowsX]
      refine w_spec_SplitAny_3 _ _ _ k_spec_SplitAny_1 hk_spec_SplitAny_1 _ _ _ h _ ?_
      try simp only [hb6, Nat.reduceBEq, Nat.reduceMul, Nat.reduceAdd, Nat.reduceDiv, Int.reduceBEq, rules2, rulesX, rowsX, List.map_nil]
theorem w_spec_SplitAny_1 (a0 : List UInt8) (a1 : List UInt8) : ∀ (n : Nat) (v1 : Int) (v2 : Int) (v3 : List (List UInt8)) (r : (List (List UInt8))), f_spec_SplitAny_1 a0 a1 n v1 v2 v3 = some r → ∀ σ : St, σ.kept [0, 1, 5, 6, 7] [] [576] = ⟨[(0, vc (aS a0)), (1, vc (aS a1)), (5, vc (.own 576)), (6, vc (aI v1)), (7, vc (aI v2))], [], [(576, 1, List.map rS v3)]⟩ → go Tryd.prog (.code (.loop c_spec_SplitAny_1) :: [.blk 0, .code c_spec_SplitAny_n1]) (Ret [4] [.sc (.o 1 (List.map rS r))]) .normal (some σ) := by
  intro n
  induction n with
  | zero => intro _ _ _ r h; cases h
  | succ n ih =>
    intro v1 v2 v3 r h σ hσ
    rw [f_spec_SplitAny_1] at h
    refine go_round ?_
    rcases Bool.eq_false_or_eq_true (decide (v2 < (a0.length : Int))) with hb4 | hb4
    · rw [ite_t hb4] at h
      try simp only [hσ, hb4, c_spec_SplitAny_1, Nat.reduceBEq, Nat.reduceMul, Nat.reduceAdd, Nat.reduceDiv, Int.reduceBEq, rules2, rulesX, rowsX]
      refine w_spec_SplitAny_2 _ _ _ _ _ (f_spec_SplitAny_1 a0 a1 n) ih _ _ _ h _ ?_
      try simp only [hb4, Nat.reduceBEq, Nat.reduceMul, Nat.reduceAdd, Nat.reduceDiv, Int.reduceBEq, rules2, rulesX, rowsX, List.map_nil]
    · rw [ite_f hb4] at h
      obtain ⟨p14, hp14, h⟩ := ob h
      try simp only [hσ, hb4, hp14, c_spec_SplitAny_1, c_spec_SplitAny_n1, Nat.reduceBEq, Nat.reduceMul, Nat.reduceAdd, Nat.reduceDiv, Int.reduceBEq, rules2, rulesX, rowsX]
      refine go_bsl (es := List.map rS ([((a0.drop p14.1).take (p14.2 - p14.1))] : List (List UInt8))) rfl rfl ?_
      obtain ⟨hg15, h⟩ := of_guard h
      try simp only [hb4, hp14, hg15, Nat.reduceBEq, Nat.reduceMul, Nat.reduceAdd, Nat.reduceDiv, Int.reduceBEq, rules2, rulesX, rowsX]
      cases h
      exact ⟨⟨rfl, trivial⟩, rfl⟩
theorem e_spec_SplitAny : entry Tryd.prog 21 = some (c_spec_SplitAny.strip, [4], 44) := by kernel_rfl
theorem w_spec_SplitAny (a0 : List UInt8) (a1 : List UInt8) (r : (List (List UInt8))) (h : f_spec_SplitAny a0 a1 = some r) : FC Tryd.prog 21 [.sc (.str a0), .sc (.str a1)] [.sc (.o 1 (List.map rS r))] := by
  unfold f_spec_SplitAny at h
  refine FC_go (σ := ⟨[(0, vc (aS a0)), (1, vc (aS a1))], [], []⟩) mixed e_spec_SplitAny rfl rfl ?_
  simp only [c_spec_SplitAny]
  try simp only [Nat.reduceBEq, Nat.reduceMul, Nat.reduceAdd, Nat.reduceDiv, Int.reduceBEq, rules2, rulesX, rowsX]
  refine go_bsl (es := List.map rS ([] : List (List UInt8))) rfl rfl ?_
  try simp only [Nat.reduceBEq, Nat.reduceMul, Nat.reduceAdd, Nat.reduceDiv, Int.reduceBEq, rules2, rulesX, rowsX]
  refine w_spec_SplitAny_1 _ _ _ _ _ _ _ h _ ?_
  try simp only [Nat.reduceBEq, Nat.reduceMul, Nat.reduceAdd, Nat.reduceDiv, Int.reduceBEq, rules2, rulesX, rowsX, List.map_nil]
/- 30: spec_SplitLines -/
def c_spec_SplitLines : ACode := (.seq (.reg [(none, .mv 2 KN)]) (.seq (.reg [(none, .mv 4 (S 0)), (none, .call 5 21 [(S 4), (KS [10])]), (none, .frz 320), (none, .mv 3 (S 5))]) (.seq (.seq (.reg [(none, .mv 6 (S 3)), (none, .mv 7 (S 3)), (none, .len 8 (S 7)), (none, .bin 9 .sub (S 8) (K 1)), (none, .iaddr 10 (S 6) (S 9) 1), (none, .load 11 (S 10) false 1), (none, .bin 12 .eql (S 11) (KS []))]) (.cond (S 12) (.reg [(none, .mv 13 (S 3)), (none, .mv 14 (S 3)), (none, .len 15 (S 14)), (none, .bin 16 .sub (S 15) (K 1)), (none, .slc 17 1 (S 13) none (some (S 16)) none), (none, .mv 3 (S 17))]) .skip)) (.seq (.reg [(none, .mv 18 (S 3)), (none, .mv 2 (S 18))]) .ret))))
theorem e_spec_SplitLines : entry Tryd.prog 30 = some (c_spec_SplitLines.strip, [2], 19) := by kernel_rfl
theorem w_spec_SplitLines (a0 : List UInt8) (r : (List (List UInt8))) (h : f_spec_SplitLines a0 = some r) : FC Tryd.prog 30 [.sc (.str a0)] [.sc (.v (.sl (List.map rS r)))] := by
  unfold f_spec_SplitLines at h
  refine FC_go (σ := ⟨[(0, vc (aS a0))], [], []⟩) mixed e_spec_SplitLines rfl rfl ?_
  simp only [c_spec_SplitLines]
  obtain ⟨r1, hr1, h⟩ := ob h
  try simp only [Nat.reduceBEq, Nat.reduceMul, Nat.reduceAdd, Nat.reduceDiv, Int.reduceBEq, rules2, rulesX, rowsX]
  refine go_callI (w_spec_SplitAny _ _ _ hr1) rfl rfl (Nat.le_of_ble_eq_true rfl) ?_
  try simp only [Nat.reduceBEq, Nat.reduceMul, Nat.reduceAdd, Nat.reduceDiv, Int.reduceBEq, rules2, rulesX, rowsX]
  refine go_frz' rfl ?_
  obtain ⟨x2, hx2, h⟩ := ob h
  rcases Bool.eq_false_or_eq_true (x2 == ([] : List UInt8)) with hb3 | hb3
  · rw [ite_t hb3] at h
    obtain ⟨p4, hp4, h⟩ := ob h
    try simp only [hx2, hb3, hp4, Nat.reduceBEq, Nat.reduceMul, Nat.reduceAdd, Nat.reduceDiv, Int.reduceBEq, rules2, rulesX, rowsX]
    cases h
    exact ⟨⟨rfl, trivial⟩, rfl⟩
  · rw [ite_f hb3] at h
    try simp only [hx2, hb3, Nat.reduceBEq, Nat.reduceMul, Nat.reduceAdd, Nat.reduceDiv, Int.reduceBEq, rules2, rulesX, rowsX]
    cases h
    exact ⟨⟨rfl, trivial⟩, rfl⟩
/- 49: spec_IsDigits -/
def c_spec_IsDigits_1 : ACode := .seq (.reg [(none, .keep [0, 3] [] [])]) (.seq (.seq (.reg [(none, .mv 4 (S 3)), (none, .mv 5 (S 0)), (none, .slen 6 (S 5)), (none, .bin 7 .lss (S 4) (S 6))]) (.cond (S 7) .skip (.exit 0))) (.seq (.block 1 (.seq (.reg [(none, .mv 10 (S 0)), (none, .mv 11 (S 3)), (none, .idx 12 (S 10) (S 11)), (none, .bin 13 .lss (S 12) (K8 48)), (none, .mv 14 (S 13)), (some (14, false), .mv 15 (S 0)), (some (14, false), .mv 16 (S 3)), (some (14, false), .idx 17 (S 15) (S 16)), (some (14, false), .bin 18 .gtr (S 17) (K8 57)), (none, .pick 19 (S 14) (KB true) (S 18))]) (.cond (S 19) (.seq (.reg [(none, .mv 2 (KB false))]) .ret) .skip))) (.reg [(none, .mv 8 (S 3)), (none, .bin 9 .add (S 8) (K 1)), (none, .mv 3 (S 9))])))
def c_spec_IsDigits_n1 : ACode := (.seq (.reg [(none, .mv 20 (S 0)), (none, .slen 21 (S 20)), (none, .bin 22 .gtr (S 21) (K 0)), (none, .mv 2 (S 22))]) .ret)
def c_spec_IsDigits : ACode := (.seq (.reg [(none, .mv 2 (KB false))]) (.seq (.seq (.reg [(none, .mv 3 (K 0))]) (.block 0 (.loop c_spec_IsDigits_1))) c_spec_IsDigits_n1))
theorem w_spec_IsDigits_1 (a0 : List UInt8) : ∀ (n : Nat) (v1 : Int) (r : Bool), f_spec_IsDigits_1 a0 n v1 = some r → ∀ σ : St, σ.kept [0, 3] [] [] = ⟨[(0, vc (aS a0)), (3, vc (aI v1))], [], []⟩ → go Tryd.prog (.code (.loop c_spec_IsDigits_1) :: [.blk 0, .code c_spec_IsDigits_n1]) (Ret [2] [.sc (.v (.bool r))]) .normal (some σ) := by
  intro n
  induction n with
  | zero => intro _ r h; cases h
  | succ n ih =>
    intro v1 r h σ hσ
    rw [f_spec_IsDigits_1] at h
    refine go_round ?_
    rcases Bool.eq_false_or_eq_true (decide (v1 < (a0.length : Int))) with hb2 | hb2
    · rw [ite_t hb2] at h
      obtain ⟨b3, hb3, h⟩ := ob h
      rcases Bool.eq_false_or_eq_true (decide ((b3.toNat : Int) < (48 : Int))) with hb4 | hb4
      · rw [ite_t hb4] at h
        try simp only [hσ, hb2, hb3, hb4, c_spec_IsDigits_1, Nat.reduceBEq, Nat.reduceMul, Nat.reduceAdd, Nat.reduceDiv, Int.reduceBEq, rules2, rulesX, rowsX]
        cases h
        exact ⟨⟨rfl, trivial⟩, rfl⟩
      · rw [ite_f hb4] at h
        rcases Bool.eq_false_or_eq_true (decide ((57 : Int) < (b3.toNat : Int))) with hb5 | hb5
        · rw [ite_t hb5] at h
          try simp only [hσ, hb2, hb3, hb4, hb5, c_spec_IsDigits_1, Nat.reduceBEq, Nat.reduceMul, Nat.reduceAdd, Nat.reduceDiv, Int.reduceBEq, rules2, rulesX, rowsX]
          cases h
          exact ⟨⟨rfl, trivial⟩, rfl⟩
        · rw [ite_f hb5] at h
          try simp only [hσ, hb2, hb3, hb4, hb5, c_spec_IsDigits_1, Nat.reduceBEq, Nat.reduceMul, Nat.reduceAdd, Nat.reduceDiv, Int.reduceBEq, rules2, rulesX, rowsX]
          refine ih _ _ h _ ?_
          try simp only [hb2, hb3, hb4, hb5, Nat.reduceBEq, Nat.reduceMul, Nat.reduceAdd, Nat.reduceDiv, Int.reduceBEq, rules2, rulesX, rowsX, List.map_nil]
    · rw [ite_f hb2] at h
      try simp only [hσ, hb2, c_spec_IsDigits_1, c_spec_IsDigits_n1, Nat.reduceBEq, Nat.reduceMul, Nat.reduceAdd, Nat.reduceDiv, Int.reduceBEq, rules2, rulesX, rowsX]
      cases h
      exact ⟨⟨rfl, trivial⟩, rfl⟩
theorem e_spec_IsDigits : entry Tryd.prog 49 = some (c_spec_IsDigits.strip, [2], 23) := by kernel_rfl
theorem w_spec_IsDigits (a0 : List UInt8) (r : Bool) (h : f_spec_IsDigits a0 = some r) : FC Tryd.prog 49 [.sc (.str a0)] [.sc (.v (.bool r))] := by
  unfold f_spec_IsDigits at h
  refine FC_go (σ := ⟨[(0, vc (aS a0))], [], []⟩) mixed e_spec_IsDigits rfl rfl ?_
  simp only [c_spec_IsDigits]
  try simp only [Nat.reduceBEq, Nat.reduceMul, Nat.reduceAdd, Nat.reduceDiv, Int.reduceBEq, rules2, rulesX, rowsX]
  refine w_spec_IsDigits_1 _ _ _ _ h _ ?_
  try simp only [Nat.reduceBEq, Nat.reduceMul, Nat.reduceAdd, Nat.reduceDiv, Int.reduceBEq, rules2, rulesX, rowsX, List.map_nil]
/- 50: spec_FormatInt -/
def c_spec_FormatInt_1 : ACode := .seq (.reg [(none, .keep [0, 3] [] [])]) (.seq (.seq (.reg [(none, .mv 25 (S 0)), (none, .bin 26 .gtr (S 25) (K 9))]) (.cond (S 26) .skip (.exit 0))) (.block 1 (.seq (.reg [(none, .mv 27 (S 0)), (none, .bin 28 .rem (S 27) (K 10)), (none, .bin 29 .add (K 48) (S 28)), (none, .conv 30 .u8 (S 29)), (none, .bslice 31 1 [.int .u8 0] 1 [(0, (S 30))]), (none, .sconv 32 (S 31)), (none, .mv 33 (S 3)), (none, .bin 34 .add (S 32) (S 33)), (none, .mv 3 (S 34))]) (.reg [(none, .mv 35 (S 0)), (none, .bin 36 .quo (S 35) (K 10)), (none, .mv 0 (S 36))]))))
def c_spec_FormatInt_n1 : ACode := (.seq (.reg [(none, .mv 37 (S 0)), (none, .bin 38 .add (K 48) (S 37)), (none, .conv 39 .u8 (S 38)), (none, .bslice 40 1 [.int .u8 0] 1 [(0, (S 39))]), (none, .sconv 41 (S 40)), (none, .mv 42 (S 3)), (none, .bin 43 .add (S 41) (S 42)), (none, .mv 2 (S 43))]) .ret)
def c_spec_FormatInt : ACode := (.seq (.reg [(none, .mv 2 (KS []))]) (.seq (.seq (.reg [(none, .mv 4 (S 0)), (none, .bin 5 .lss (S 4) (K 0))]) (.cond (S 5) (.seq (.seq (.reg [(none, .mv 6 (S 0)), (none, .bin 7 .quo (S 6) (K 10)), (none, .bin 8 .eql (S 7) (K 0))]) (.cond (S 8) (.seq (.reg [(none, .mv 9 (S 0)), (none, .bin 10 .sub (K 48) (S 9)), (none, .conv 11 .u8 (S 10)), (none, .bslice 12 1 [.int .u8 0] 1 [(0, (S 11))]), (none, .sconv 13 (S 12)), (none, .bin 14 .add (KS [45]) (S 13)), (none, .mv 2 (S 14))]) .ret) .skip)) (.seq (.drw [(some [22], (none, .mv 15 (S 0))), (some [22], (none, .bin 16 .quo (S 15) (K 10))), (some [22], (none, .call 17 50 [(S 16)])), (some [17], (none, .mv 18 (S 0))), (some [17], (none, .bin 19 .rem (S 18) (K 10))), (some [17], (none, .bin 20 .sub (K 48) (S 19))), (some [17], (none, .conv 21 .u8 (S 20))), (some [17], (none, .bslice 22 1 [.int .u8 0] 1 [(0, (S 21))])), (some [17], (none, .sconv 23 (S 22))), (some [], (none, .bin 24 .add (S 17) (S 23))), (some [], (none, .mv 2 (S 24)))]) .ret)) .skip)) (.seq (.reg [(none, .mv 3 (KS []))]) (.seq (.block 0 (.loop c_spec_FormatInt_1)) c_spec_FormatInt_n1))))
theorem w_spec_FormatInt_1 (rec_ : Int → Option (List UInt8)) (h_rec : ∀ (a0 : Int) zr, rec_ a0 = some zr → FC Tryd.prog 50 [.sc (.int .i64 a0)] [.sc (.v (.str zr))]) : ∀ (n : Nat) (v6 : Int) (v7 : List UInt8) (r : (List UInt8)), f_spec_FormatInt_1 rec_ n v6 v7 = some r → ∀ σ : St, σ.kept [0, 3] [] [] = ⟨[(0, vc (aI v6)), (3, vc (aS v7))], [], []⟩ → go Tryd.prog (.code (.loop c_spec_FormatInt_1) :: [.blk 0, .code c_spec_FormatInt_n1]) (Ret [2] [.sc (.v (.str r))]) .normal (some σ) := by
  intro n
  induction n with
  | zero => intro _ _ r h; cases h
  | succ n ih =>
    intro v6 v7 r h σ hσ
    rw [f_spec_FormatInt_1] at h
    refine go_round ?_
    rcases Bool.eq_false_or_eq_true (decide ((9 : Int) < v6)) with hb8 | hb8
    · rw [ite_t hb8] at h
      try simp only [hσ, hb8, c_spec_FormatInt_1, Nat.reduceBEq, Nat.reduceMul, Nat.reduceAdd, Nat.reduceDiv, Int.reduceBEq, rules2, rulesX, rowsX]
      refine go_bsl (es := List.map r8 ([(IntKind.u8.wrap (IntKind.i64.wrap ((48 : Int) + (IntKind.i64.wrap (Int.tmod v6 (10 : Int))))))] : List Int)) rfl rfl ?_
      obtain ⟨hg9, h⟩ := of_guard h
      try simp only [hb8, hg9, Nat.reduceBEq, Nat.reduceMul, Nat.reduceAdd, Nat.reduceDiv, Int.reduceBEq, rules2, rulesX, rowsX]
      refine ih _ _ _ h _ ?_
      try simp only [hb8, hg9, Nat.reduceBEq, Nat.reduceMul, Nat.reduceAdd, Nat.reduceDiv, Int.reduceBEq, rules2, rulesX, rowsX, List.map_nil]
    · rw [ite_f hb8] at h
      try simp only [hσ, hb8, c_spec_FormatInt_1, c_spec_FormatInt_n1, Nat.reduceBEq, Nat.reduceMul, Nat.reduceAdd, Nat.reduceDiv, Int.reduceBEq, rules2, rulesX, rowsX]
      refine go_bsl (es := List.map r8 ([(IntKind.u8.wrap (IntKind.i64.wrap ((48 : Int) + v6)))] : List Int)) rfl rfl ?_
      obtain ⟨hg10, h⟩ := of_guard h
      try simp only [hb8, hg10, Nat.reduceBEq, Nat.reduceMul, Nat.reduceAdd, Nat.reduceDiv, Int.reduceBEq, rules2, rulesX, rowsX]
      cases h
      exact ⟨⟨rfl, trivial⟩, rfl⟩
theorem e_spec_FormatInt : entry Tryd.prog 50 = some (c_spec_FormatInt.strip, [2], 44) := by kernel_rfl
theorem w_spec_FormatInt_b (rec_ : Int → Option (List UInt8)) (a0 : Int) (r : (List UInt8)) (h_rec : ∀ (a0 : Int) zr, rec_ a0 = some zr → FC Tryd.prog 50 [.sc (.int .i64 a0)] [.sc (.v (.str zr))]) (h : f_spec_FormatInt_b rec_ a0 = some r) : FC Tryd.prog 50 [.sc (.int .i64 a0)] [.sc (.v (.str r))] := by
  unfold f_spec_FormatInt_b at h
  refine FC_go (σ := ⟨[(0, vc (aI a0))], [], []⟩) mixed e_spec_FormatInt rfl rfl ?_
  simp only [c_spec_FormatInt]
  rcases Bool.eq_false_or_eq_true (decide (a0 < (0 : Int))) with hb1 | hb1
  · rw [ite_t hb1] at h
    rcases Bool.eq_false_or_eq_true ((IntKind.i64.wrap (Int.tdiv a0 (10 : Int))) == (0 : Int)) with hb2 | hb2
    · rw [ite_t hb2] at h
      try simp only [hb1, hb2, Nat.reduceBEq, Nat.reduceMul, Nat.reduceAdd, Nat.reduceDiv, Int.reduceBEq, rules2, rulesX, rowsX]
      refine go_bsl (es := List.map r8 ([(IntKind.u8.wrap (IntKind.i64.wrap ((48 : Int) - a0)))] : List Int)) rfl rfl ?_
      obtain ⟨hg3, h⟩ := of_guard h
      try simp only [hb1, hb2, hg3, Nat.reduceBEq, Nat.reduceMul, Nat.reduceAdd, Nat.reduceDiv, Int.reduceBEq, rules2, rulesX, rowsX]
      cases h
      exact ⟨⟨rfl, trivial⟩, rfl⟩
    · rw [ite_f hb2] at h
      try simp only [hb1, hb2, Nat.reduceBEq, Nat.reduceMul, Nat.reduceAdd, Nat.reduceDiv, Int.reduceBEq, rules2, rulesX, rowsX]
      refine go_fr_of rfl ?_
      obtain ⟨r4, hr4, h⟩ := ob h
      try simp only [hb1, hb2, Nat.reduceBEq, Nat.reduceMul, Nat.reduceAdd, Nat.reduceDiv, Int.reduceBEq, rules2, rulesX, rowsX]
      refine go_dcallI (h_rec _ _ hr4) rfl rfl (Nat.le_of_ble_eq_true rfl) ?_
      try simp only [hb1, hb2, Nat.reduceBEq, Nat.reduceMul, Nat.reduceAdd, Nat.reduceDiv, Int.reduceBEq, rules2, rulesX, rowsX]
      refine go_mkN (m := .row 22 1 (List.map r8 ([(IntKind.u8.wrap (IntKind.i64.wrap ((48 : Int) - (IntKind.i64.wrap (Int.tmod a0 (10 : Int))))))] : List Int))) rfl rfl (make_row rfl) ?_
      obtain ⟨hg5, h⟩ := of_guard h
      try simp only [hb1, hb2, hg5, Nat.reduceBEq, Nat.reduceMul, Nat.reduceAdd, Nat.reduceDiv, Int.reduceBEq, rules2, rulesX, rowsX]
      cases h
      exact ⟨⟨rfl, trivial⟩, rfl⟩
  · rw [ite_f hb1] at h
    try simp only [hb1, Nat.reduceBEq, Nat.reduceMul, Nat.reduceAdd, Nat.reduceDiv, Int.reduceBEq, rules2, rulesX, rowsX]
    refine w_spec_FormatInt_1 rec_ h_rec _ _ _ _ h _ ?_
    try simp only [hb1, Nat.reduceBEq, Nat.reduceMul, Nat.reduceAdd, Nat.reduceDiv, Int.reduceBEq, rules2, rulesX, rowsX, List.map_nil]
theorem w_spec_FormatInt_r : ∀ (n : Nat) (a0 : Int) (r : (List UInt8)), f_spec_FormatInt_r n a0 = some r → FC Tryd.prog 50 [.sc (.int .i64 a0)] [.sc (.v (.str r))] := by
  intro n
  induction n with
  | zero => intro _ r h; cases h
  | succ n ih => intro a0 r h; rw [f_spec_FormatInt_r] at h; exact w_spec_FormatInt_b (f_spec_FormatInt_r n) a0 r ih h
theorem w_spec_FormatInt (a0 : Int) (r : (List UInt8)) (h : f_spec_FormatInt a0 = some r) : FC Tryd.prog 50 [.sc (.int .i64 a0)] [.sc (.v (.str r))] := w_spec_FormatInt_r bigN a0 r h
/- 22: spec_ParseInt -/
def c_spec_ParseInt_3 : ACode := .seq (.reg [(none, .keep [0, 4, 5, 28] [] [])]) (.cond (S 28) (.seq (.reg [(none, .mv 2 (K 0)), (none, .mv 3 (KB false))]) .ret) .skip)
def c_spec_ParseInt_4 : ACode := .seq (.reg [(none, .keep [0, 4, 5, 6, 7] [] [])]) (.seq (.seq (.reg [(none, .mv 29 (S 7)), (none, .mv 30 (S 5)), (none, .slen 31 (S 30)), (none, .bin 32 .lss (S 29) (S 31))]) (.cond (S 32) .skip (.exit 0))) (.seq (.block 1 (.seq (.reg [(none, .mv 35 (S 5)), (none, .mv 36 (S 7)), (none, .idx 37 (S 35) (S 36)), (none, .conv 38 .i64 (S 37)), (none, .bin 39 .sub (S 38) (K 48)), (none, .mv 8 (S 39))]) (.seq (.seq (.reg [(none, .mv 40 (S 6)), (none, .mv 41 (S 8)), (none, .bin 42 .add (K (-9223372036854775808)) (S 41)), (none, .bin 43 .quo (S 42) (K 10)), (none, .bin 44 .lss (S 40) (S 43))]) (.cond (S 44) (.seq (.reg [(none, .mv 2 (K 0)), (none, .mv 3 (KB false))]) .ret) .skip)) (.reg [(none, .mv 45 (S 6)), (none, .bin 46 .mul (S 45) (K 10)), (none, .mv 47 (S 8)), (none, .bin 48 .sub (S 46) (S 47)), (none, .mv 6 (S 48))])))) (.reg [(none, .mv 33 (S 7)), (none, .bin 34 .add (S 33) (K 1)), (none, .mv 7 (S 34))])))
def c_spec_ParseInt_5 : ACode := .seq (.reg [(none, .keep [0, 6] [] [])]) (.seq (.seq (.reg [(none, .mv 55 (S 6)), (none, .call 56 50 [(S 55)]), (none, .mv 57 (S 0)), (none, .bin 58 .neq (S 56) (S 57))]) (.cond (S 58) (.seq (.reg [(none, .mv 2 (K 0)), (none, .mv 3 (KB false))]) .ret) .skip)) (.seq (.reg [(none, .mv 59 (S 6)), (none, .mv 2 (S 59)), (none, .mv 3 (KB true))]) .ret))
def c_spec_ParseInt_n2 : ACode := (.seq (.seq (.reg [(none, .mv 49 (S 4)), (none, .un 50 .not (S 49))]) (.cond (S 50) (.seq (.seq (.reg [(none, .mv 51 (S 6)), (none, .bin 52 .eql (S 51) (K (-9223372036854775808)))]) (.cond (S 52) (.seq (.reg [(none, .mv 2 (K 0)), (none, .mv 3 (KB false))]) .ret) .skip)) (.reg [(none, .mv 53 (S 6)), (none, .un 54 .neg (S 53)), (none, .mv 6 (S 54))])) .skip)) c_spec_ParseInt_5)
def c_spec_ParseInt_n1 : ACode := (.seq (.reg [(none, .mv 6 (K 0))]) (.seq (.seq (.reg [(none, .mv 7 (K 0))]) (.block 0 (.loop c_spec_ParseInt_4))) c_spec_ParseInt_n2))
def c_spec_ParseInt_2 : ACode := .seq (.reg [(none, .keep [0, 4, 5] [] [])]) (.seq (.seq (.reg [(none, .mv 21 (S 5)), (none, .call 22 49 [(S 21)]), (none, .un 23 .not (S 22)), (none, .mv 24 (S 23)), (some (24, false), .mv 25 (S 5)), (some (24, false), .slen 26 (S 25)), (some (24, false), .bin 27 .gtr (S 26) (K 19)), (none, .pick 28 (S 24) (KB true) (S 27))]) c_spec_ParseInt_3) c_spec_ParseInt_n1)
def c_spec_ParseInt_1 : ACode := .seq (.reg [(none, .keep [0, 4] [] [])]) (.seq (.reg [(none, .mv 17 (S 0)), (none, .mv 5 (S 17))]) (.seq (.seq (.reg [(none, .mv 18 (S 4))]) (.cond (S 18) (.reg [(none, .mv 19 (S 0)), (none, .sslc 20 (S 19) (some (K 1)) none), (none, .mv 5 (S 20))]) .skip)) c_spec_ParseInt_2))
def c_spec_ParseInt : ACode := (.seq (.reg [(none, .mv 2 (K 0)), (none, .mv 3 (KB false))]) (.seq (.reg [(none, .mv 9 (S 0)), (none, .slen 10 (S 9)), (none, .bin 11 .gtr (S 10) (K 0)), (none, .mv 12 (S 11)), (some (12, true), .mv 13 (S 0)), (some (12, true), .idx 14 (S 13) (K 0)), (some (12, true), .bin 15 .eql (S 14) (K8 45)), (none, .pick 16 (S 12) (S 15) (KB false)), (none, .mv 4 (S 16))]) c_spec_ParseInt_1))
theorem w_spec_ParseInt_5 (a0 : List UInt8) (v19 : Int) (r : Int × Bool) (h : f_spec_ParseInt_5 a0 v19 = some r) (σ : St) (hσ : σ.kept [0, 6] [] [] = ⟨[(0, vc (aS a0)), (6, vc (aI v19))], [], []⟩) : go Tryd.prog (.code c_spec_ParseInt_5 :: []) (Ret [2, 3] [.sc (.v (.int .i64 r.1)), .sc (.v (.bool r.2))]) .normal (some σ) := by
  unfold f_spec_ParseInt_5 at h
  obtain ⟨r20, hr20, h⟩ := ob h
  try simp only [hσ, c_spec_ParseInt_5, Nat.reduceBEq, Nat.reduceMul, Nat.reduceAdd, Nat.reduceDiv, Int.reduceBEq, rules2, rulesX, rowsX]
  refine go_callI (w_spec_FormatInt _ _ hr20) rfl rfl (Nat.le_of_ble_eq_true rfl) ?_
  rcases Bool.eq_false_or_eq_true (r20 == a0) with hb21 | hb21
  · rw [ite_t hb21] at h
    try simp only [hb21, Nat.reduceBEq, Nat.reduceMul, Nat.reduceAdd, Nat.reduceDiv, Int.reduceBEq, rules2, rulesX, rowsX]
    cases h
    exact ⟨⟨rfl, rfl, trivial⟩, rfl⟩
  · rw [ite_f hb21] at h
    try simp only [hb21, Nat.reduceBEq, Nat.reduceMul, Nat.reduceAdd, Nat.reduceDiv, Int.reduceBEq, rules2, rulesX, rowsX]
    cases h
    exact ⟨⟨rfl, rfl, trivial⟩, rfl⟩
theorem w_spec_ParseInt_4 (a0 : List UInt8) (v6 : Bool) (v7 : List UInt8) : ∀ (n : Nat) (v12 : Int) (v13 : Int) (r : Int × Bool), f_spec_ParseInt_4 a0 v6 v7 n v12 v13 = some r → ∀ σ : St, σ.kept [0, 4, 5, 6, 7] [] [] = ⟨[(0, vc (aS a0)), (4, vc (aB v6)), (5, vc (aS v7)), (6, vc (aI v12)), (7, vc (aI v13))], [], []⟩ → go Tryd.prog (.code (.loop c_spec_ParseInt_4) :: [.blk 0, .code c_spec_ParseInt_n2]) (Ret [2, 3] [.sc (.v (.int .i64 r.1)), .sc (.v (.bool r.2))]) .normal (some σ) := by
  intro n
  induction n with
  | zero => intro _ _ r h; cases h
  | succ n ih =>
    intro v12 v13 r h σ hσ
    rw [f_spec_ParseInt_4] at h
    refine go_round ?_
    rcases Bool.eq_false_or_eq_true (decide (v13 < (v7.length : Int))) with hb14 | hb14
    · rw [ite_t hb14] at h
      obtain ⟨b15, hb15, h⟩ := ob h
      rcases Bool.eq_false_or_eq_true (decide (v12 < (IntKind.i64.wrap (Int.tdiv (IntKind.i64.wrap ((-9223372036854775808 : Int) + (IntKind.i64.wrap ((IntKind.i64.wrap (b15.toNat : Int)) - (48 : Int))))) (10 : Int))))) with hb16 | hb16
      · rw [ite_t hb16] at h
        try simp only [hσ, hb14, hb15, hb16, c_spec_ParseInt_4, Nat.reduceBEq, Nat.reduceMul, Nat.reduceAdd, Nat.reduceDiv, Int.reduceBEq, rules2, rulesX, rowsX]
        cases h
        exact ⟨⟨rfl, rfl, trivial⟩, rfl⟩
      · rw [ite_f hb16] at h
        try simp only [hσ, hb14, hb15, hb16, c_spec_ParseInt_4, Nat.reduceBEq, Nat.reduceMul, Nat.reduceAdd, Nat.reduceDiv, Int.reduceBEq, rules2, rulesX, rowsX]
        refine ih _ _ _ h _ ?_
        try simp only [hb14, hb15, hb16, Nat.reduceBEq, Nat.reduceMul, Nat.reduceAdd, Nat.reduceDiv, Int.reduceBEq, rules2, rulesX, rowsX, List.map_nil]
    · rw [ite_f hb14] at h
      rcases Bool.eq_false_or_eq_true v6 with hb17 | hb17
      · rw [ite_t hb17] at h
        try simp only [hσ, hb14, hb17, c_spec_ParseInt_4, c_spec_ParseInt_n2, Nat.reduceBEq, Nat.reduceMul, Nat.reduceAdd, Nat.reduceDiv, Int.reduceBEq, rules2, rulesX, rowsX]
        refine w_spec_ParseInt_5 _ _ _ h _ ?_
        try simp only [hb14, hb17, Nat.reduceBEq, Nat.reduceMul, Nat.reduceAdd, Nat.reduceDiv, Int.reduceBEq, rules2, rulesX, rowsX, List.map_nil]
      · rw [ite_f hb17] at h
        rcases Bool.eq_false_or_eq_true (v12 == (-9223372036854775808 : Int)) with hb18 | hb18
        · rw [ite_t hb18] at h
          try simp only [hσ, hb14, hb17, hb18, c_spec_ParseInt_4, c_spec_ParseInt_n2, Nat.reduceBEq, Nat.reduceMul, Nat.reduceAdd, Nat.reduceDiv, Int.reduceBEq, rules2, rulesX, rowsX]
          cases h
          exact ⟨⟨rfl, rfl, trivial⟩, rfl⟩
        · rw [ite_f hb18] at h
          try simp only [hσ, hb14, hb17, hb18, c_spec_ParseInt_4, c_spec_ParseInt_n2, Nat.reduceBEq, Nat.reduceMul, Nat.reduceAdd, Nat.reduceDiv, Int.reduceBEq, rules2, rulesX, rowsX]
          refine w_spec_ParseInt_5 _ _ _ h _ ?_
          try simp only [hb14, hb17, hb18, Nat.reduceBEq, Nat.reduceMul, Nat.reduceAdd, Nat.reduceDiv, Int.reduceBEq, rules2, rulesX, rowsX, List.map_nil]
theorem w_spec_ParseInt_3 (a0 : List UInt8) (v6 : Bool) (v7 : List UInt8) (v10 : Bool) (r : Int × Bool) (h : f_spec_ParseInt_3 a0 v6 v7 v10 = some r) (σ : St) (hσ : σ.kept [0, 4, 5, 28] [] [] = ⟨[(0, vc (aS a0)), (4, vc (aB v6)), (5, vc (aS v7)), (28, vc (aB v10))], [], []⟩) : go Tryd.prog (.code c_spec_ParseInt_3 :: [.code c_spec_ParseInt_n1]) (Ret [2, 3] [.sc (.v (.int .i64 r.1)), .sc (.v (.bool r.2))]) .normal (some σ) := by
  unfold f_spec_ParseInt_3 at h
  rcases Bool.eq_false_or_eq_true v10 with hb11 | hb11
  · rw [ite_t hb11] at h
    try simp only [hσ, hb11, c_spec_ParseInt_3, Nat.reduceBEq, Nat.reduceMul, Nat.reduceAdd, Nat.reduceDiv, Int.reduceBEq, rules2, rulesX, rowsX]
    cases h
    exact ⟨⟨rfl, rfl, trivial⟩, rfl⟩
  · rw [ite_f hb11] at h
    try simp only [hσ, hb11, c_spec_ParseInt_3, c_spec_ParseInt_n1, Nat.reduceBEq, Nat.reduceMul, Nat.reduceAdd, Nat.reduceDiv, Int.reduceBEq, rules2, rulesX, rowsX]
    refine w_spec_ParseInt_4 _ _ _ _ _ _ _ h _ ?_
    try simp only [hb11, Nat.reduceBEq, Nat.reduceMul, Nat.reduceAdd, Nat.reduceDiv, Int.reduceBEq, rules2, rulesX, rowsX, List.map_nil]
theorem w_spec_ParseInt_2 (a0 : List UInt8) (v6 : Bool) (v7 : List UInt8) (r : Int × Bool) (h : f_spec_ParseInt_2 a0 v6 v7 = some r) (σ : St) (hσ : σ.kept [0, 4, 5] [] [] = ⟨[(0, vc (aS a0)), (4, vc (aB v6)), (5, vc (aS v7))], [], []⟩) : go Tryd.prog (.code c_spec_ParseInt_2 :: []) (Ret [2, 3] [.sc (.v (.int .i64 r.1)), .sc (.v (.bool r.2))]) .normal (some σ) := by
  unfold f_spec_ParseInt_2 at h
  obtain ⟨r8, hr8, h⟩ := ob h
  try simp only [hσ, c_spec_ParseInt_2, Nat.reduceBEq, Nat.reduceMul, Nat.reduceAdd, Nat.reduceDiv, Int.reduceBEq, rules2, rulesX, rowsX]
  refine go_callI (w_spec_IsDigits _ _ hr8) rfl rfl (Nat.le_of_ble_eq_true rfl) ?_
  rcases Bool.eq_false_or_eq_true r8 with hb9 | hb9
  · rw [ite_t hb9] at h
    try simp only [hb9, Nat.reduceBEq, Nat.reduceMul, Nat.reduceAdd, Nat.reduceDiv, Int.reduceBEq, rules2, rulesX, rowsX]
    refine w_spec_ParseInt_3 _ _ _ _ _ h _ ?_
    try simp only [hb9, Nat.reduceBEq, Nat.reduceMul, Nat.reduceAdd, Nat.reduceDiv, Int.reduceBEq, rules2, rulesX, rowsX, List.map_nil]
  · rw [ite_f hb9] at h
    try simp only [hb9, Nat.reduceBEq, Nat.reduceMul, Nat.reduceAdd, Nat.reduceDiv, Int.reduceBEq, rules2, rulesX, rowsX]
    refine w_spec_ParseInt_3 _ _ _ _ _ h _ ?_
    try simp only [hb9, Nat.reduceBEq, Nat.reduceMul, Nat.reduceAdd, Nat.reduceDiv, Int.reduceBEq, rules2, rulesX, rowsX, List.map_nil]
theorem w_spec_ParseInt_1 (a0 : List UInt8) (v3 : Bool) (r : Int × Bool) (h : f_spec_ParseInt_1 a0 v3 = some r) (σ : St) (hσ : σ.kept [0, 4] [] [] = ⟨[(0, vc (aS a0)), (4, vc (aB v3))], [], []⟩) : go Tryd.prog (.code c_spec_ParseInt_1 :: []) (Ret [2, 3] [.sc (.v (.int .i64 r.1)), .sc (.v (.bool r.2))]) .normal (some σ) := by
  unfold f_spec_ParseInt_1 at h
  rcases Bool.eq_false_or_eq_true v3 with hb4 | hb4
  · rw [ite_t hb4] at h
    obtain ⟨p5, hp5, h⟩ := ob h
    try simp only [hσ, hb4, hp5, c_spec_ParseInt_1, Nat.reduceBEq, Nat.reduceMul, Nat.reduceAdd, Nat.reduceDiv, Int.reduceBEq, rules2, rulesX, rowsX]
    refine w_spec_ParseInt_2 _ _ _ _ h _ ?_
    try simp only [hb4, hp5, Nat.reduceBEq, Nat.reduceMul, Nat.reduceAdd, Nat.reduceDiv, Int.reduceBEq, rules2, rulesX, rowsX, List.map_nil]
  · rw [ite_f hb4] at h
    try simp only [hσ, hb4, c_spec_ParseInt_1, Nat.reduceBEq, Nat.reduceMul, Nat.reduceAdd, Nat.reduceDiv, Int.reduceBEq, rules2, rulesX, rowsX]
    refine w_spec_ParseInt_2 _ _ _ _ h _ ?_
    try simp only [hb4, Nat.reduceBEq, Nat.reduceMul, Nat.reduceAdd, Nat.reduceDiv, Int.reduceBEq, rules2, rulesX, rowsX, List.map_nil]
theorem e_spec_ParseInt : entry Tryd.prog 22 = some (c_spec_ParseInt.strip, [2, 3], 60) := by kernel_rfl
theorem w_spec_ParseInt (a0 : List UInt8) (r : Int × Bool) (h : f_spec_ParseInt a0 = some r) : FC Tryd.prog 22 [.sc (.str a0)] [.sc (.v (.int .i64 r.1)), .sc (.v (.bool r.2))] := by
  unfold f_spec_ParseInt at h
  refine FC_go (σ := ⟨[(0, vc (aS a0))], [], []⟩) mixed e_spec_ParseInt rfl rfl ?_
  simp only [c_spec_ParseInt]
  rcases Bool.eq_false_or_eq_true (decide ((0 : Int) < (a0.length : Int))) with hb1 | hb1
  · rw [ite_t hb1] at h
    obtain ⟨b2, hb2, h⟩ := ob h
    try simp only [hb1, hb2, Nat.reduceBEq, Nat.reduceMul, Nat.reduceAdd, Nat.reduceDiv, Int.reduceBEq, rules2, rulesX, rowsX]
    refine w_spec_ParseInt_1 _ _ _ h _ ?_
    try simp only [hb1, hb2, Nat.reduceBEq, Nat.reduceMul, Nat.reduceAdd, Nat.reduceDiv, Int.reduceBEq, rules2, rulesX, rowsX, List.map_nil]
  · rw [ite_f hb1] at h
    try simp only [hb1, Nat.reduceBEq, Nat.reduceMul, Nat.reduceAdd, Nat.reduceDiv, Int.reduceBEq, rules2, rulesX, rowsX]
    refine w_spec_ParseInt_1 _ _ _ h _ ?_
    try simp only [hb1, Nat.reduceBEq, Nat.reduceMul, Nat.reduceAdd, Nat.reduceDiv, Int.reduceBEq, rules2, rulesX, rowsX, List.map_nil]
/- 63: spec_PointNamed -/
def c_spec_PointNamed_1 : ACode := .seq (.reg [(none, .keep [1, 8, 9, 10] [] [])]) (.seq (.reg [(none, .bin 11 .lss (S 10) (S 9))]) (.seq (.cond (S 11) .skip (.exit 0)) (.seq (.block 1 (.seq (.reg [(none, .mv 12 (S 10)), (none, .iaddr 13 (S 8) (S 10) 2), (none, .load 14 (S 13) true 2), (none, .alloc 6 [aS [], aB false]), (none, .mv 5 (S 12)), (none, .store (S 6) (S 14) 2)]) (.seq (.reg [(none, .faddr 15 (S 6) 0), (none, .load 16 (S 15) false 1), (none, .mv 17 (S 1)), (none, .bin 18 .eql (S 16) (S 17))]) (.cond (S 18) (.seq (.reg [(none, .mv 19 (S 5)), (none, .mv 4 (S 19))]) .ret) .skip)))) (.reg [(none, .bin 20 .add (S 10) (K 1)), (none, .mv 10 (S 20))]))))
def c_spec_PointNamed_n1 : ACode := (.seq (.reg [(none, .mv 4 (K (-1)))]) .ret)
def c_spec_PointNamed : ACode := (.seq (.reg [(none, .box 2 (S 0)), (none, .mv 4 (K 0))]) (.seq (.seq (.reg [(none, .faddr 7 (S 2) 0), (none, .load 8 (S 7) false 1), (none, .len 9 (S 8)), (none, .mv 10 (K 0))]) (.block 0 (.loop c_spec_PointNamed_1))) c_spec_PointNamed_n1))
theorem w_spec_PointNamed_1 (a1 : List UInt8) (a0 : XChart) : ∀ (n : Nat) (v1 : Int) (r : Int), f_spec_PointNamed_1 a1 a0 n v1 = some r → ∀ σ : St, σ.kept [1, 8, 9, 10] [] [] = ⟨[(1, vc (aS a1)), (8, vc (aL (List.map XPoint.row a0.Points))), (9, vc (aI (a0.Points.length : Int))), (10, vc (aI v1))], [], []⟩ → go Tryd.prog (.code (.loop c_spec_PointNamed_1) :: [.blk 0, .code c_spec_PointNamed_n1]) (Ret [4] [.sc (.v (.int .i64 r))]) .normal (some σ) := by
  intro n
  induction n with
  | zero => intro _ r h; cases h
  | succ n ih =>
    intro v1 r h σ hσ
    rw [f_spec_PointNamed_1] at h
    refine go_round ?_
    rcases Bool.eq_false_or_eq_true (decide (v1 < (a0.Points.length : Int))) with hb2 | hb2
    · rw [ite_t hb2] at h
      obtain ⟨x3, hx3, h⟩ := ob h
      try simp only [hσ, hb2, hx3, c_spec_PointNamed_1, Nat.reduceBEq, Nat.reduceMul, Nat.reduceAdd, Nat.reduceDiv, Int.reduceBEq, rules2, rulesX, rowsX]
      refine go_al rfl rfl ?_
      rcases Bool.eq_false_or_eq_true (x3.Name == a1) with hb4 | hb4
      · rw [ite_t hb4] at h
        try simp only [hb2, hx3, hb4, Nat.reduceBEq, Nat.reduceMul, Nat.reduceAdd, Nat.reduceDiv, Int.reduceBEq, rules2, rulesX, rowsX]
        cases h
        exact ⟨⟨rfl, trivial⟩, rfl⟩
      · rw [ite_f hb4] at h
        try simp only [hb2, hx3, hb4, Nat.reduceBEq, Nat.reduceMul, Nat.reduceAdd, Nat.reduceDiv, Int.reduceBEq, rules2, rulesX, rowsX]
        refine ih _ _ h _ ?_
        try simp only [hb2, hx3, hb4, Nat.reduceBEq, Nat.reduceMul, Nat.reduceAdd, Nat.reduceDiv, Int.reduceBEq, rules2, rulesX, rowsX, List.map_nil]
    · rw [ite_f hb2] at h
      try simp only [hσ, hb2, c_spec_PointNamed_1, c_spec_PointNamed_n1, Nat.reduceBEq, Nat.reduceMul, Nat.reduceAdd, Nat.reduceDiv, Int.reduceBEq, rules2, rulesX, rowsX]
      cases h
      exact ⟨⟨rfl, trivial⟩, rfl⟩
theorem e_spec_PointNamed : entry Tryd.prog 63 = some (c_spec_PointNamed.strip, [4], 21) := by kernel_rfl
theorem w_spec_PointNamed (a0 : XChart) (a1 : List UInt8) (r : Int) (h : f_spec_PointNamed a0 a1 = some r) : FC Tryd.prog 63 [.ag (XChart.row a0), .sc (.str a1)] [.sc (.v (.int .i64 r))] := by
  unfold f_spec_PointNamed at h
  refine FC_go (σ := ⟨[(0, va [aL (List.map XPoint.row a0.Points), aL (List.map XSegment.row a0.Segments)]), (1, vc (aS a1))], [], []⟩) mixed e_spec_PointNamed rfl rfl ?_
  simp only [c_spec_PointNamed]
  try simp only [Nat.reduceBEq, Nat.reduceMul, Nat.reduceAdd, Nat.reduceDiv, Int.reduceBEq, rules2, rulesX, rowsX]
  refine go_bx rfl rfl rfl ?_
  try simp only [Nat.reduceBEq, Nat.reduceMul, Nat.reduceAdd, Nat.reduceDiv, Int.reduceBEq, rules2, rulesX, rowsX]
  refine w_spec_PointNamed_1 _ _ _ _ _ h _ ?_
  try simp only [Nat.reduceBEq, Nat.reduceMul, Nat.reduceAdd, Nat.reduceDiv, Int.reduceBEq, rules2, rulesX, rowsX, List.map_nil]
/- 36: spec_l25Segment -/
def c_spec_l25Segment : ACode := (.seq (.reg [(none, .box 2 (S 0)), (none, .alloc 4 [aI 0, aI 0, aI 0, aI 0, aB false]), (none, .mv 5 (KB false))]) (.seq (.reg [(none, .mv 11 (S 1)), (none, .iaddr 12 (S 11) (K 3) 1), (none, .load 13 (S 12) false 1), (none, .call 14 22 [(S 13)]), (none, .mv 10 (S 14)), (none, .extr 15 (S 10) 0), (none, .extr 16 (S 10) 1), (none, .mv 6 (S 15)), (none, .mv 7 (S 16))]) (.seq (.reg [(none, .mv 18 (S 1)), (none, .iaddr 19 (S 18) (K 4) 1), (none, .load 20 (S 19) false 1), (none, .call 21 22 [(S 20)]), (none, .mv 17 (S 21)), (none, .extr 22 (S 17) 0), (none, .extr 23 (S 17) 1), (none, .mv 8 (S 22)), (none, .mv 9 (S 23))]) (.seq (.drw [(some [], (none, .load 24 (S 2) true 2)), (some [], (none, .mv 25 (S 1))), (some [], (none, .iaddr 26 (S 25) (K 1) 1)), (some [], (none, .load 27 (S 26) false 1)), (some [], (none, .call 28 63 [(S 24), (S 27)])), (some [28], (none, .load 29 (S 2) true 2)), (some [28], (none, .mv 30 (S 1))), (some [28], (none, .iaddr 31 (S 30) (K 2) 1)), (some [28], (none, .load 32 (S 31) false 1)), (some [], (none, .call 33 63 [(S 29), (S 32)])), (some [28, 33], (none, .mv 34 (S 6))), (some [28, 33], (none, .mv 35 (S 8))), (some [28, 33], (none, .mv 36 (S 1))), (some [28, 33], (none, .len 37 (S 36))), (some [28, 33], (none, .bin 38 .eql (S 37) (K 6))), (some [], (none, .build 39 [aI 0, aI 0, aI 0, aI 0, aB false] [(0, 1, (S 28)), (1, 1, (S 33)), (2, 1, (S 34)), (3, 1, (S 35)), (4, 1, (S 38))])), (some [28, 33], (none, .mv 40 (S 7))), (some [], (none, .mv 41 (S 40))), (some [], (some (41, true), .mv 42 (S 9))), (some [], (none, .pick 43 (S 41) (S 42) (KB false))), (none, (none, .store (S 4) (S 39) 5)), (some [], (none, .mv 5 (S 43)))]) .ret))))
theorem e_spec_l25Segment : entry Tryd.prog 36 = some (c_spec_l25Segment.strip, [.c 4 true 5, 5], 44) := by kernel_rfl
theorem w_spec_l25Segment (a0 : XChart) (a1 : List (List UInt8)) (r : XSegment × Bool) (h : f_spec_l25Segment a0 a1 = some r) : FC Tryd.prog 36 [.ag (XChart.row a0), .sc (.sl (List.map rS a1))] [.ag [.v (.int .i64 r.1.A), .v (.int .i64 r.1.B), .v (.int .i64 r.1.Depth), .v (.int .i64 r.1.Minutes), .v (.bool r.1.Meet)], .sc (.v (.bool r.2))] := by
  unfold f_spec_l25Segment at h
  refine FC_go (σ := ⟨[(0, va [aL (List.map XPoint.row a0.Points), aL (List.map XSegment.row a0.Segments)]), (1, vc (aL (List.map rS a1)))], [], []⟩) mixed e_spec_l25Segment rfl rfl ?_
  simp only [c_spec_l25Segment]
  try simp only [Nat.reduceBEq, Nat.reduceMul, Nat.reduceAdd, Nat.reduceDiv, Int.reduceBEq, rules2, rulesX, rowsX]
  refine go_bx rfl rfl rfl ?_
  try simp only [Nat.reduceBEq, Nat.reduceMul, Nat.reduceAdd, Nat.reduceDiv, Int.reduceBEq, rules2, rulesX, rowsX]
  refine go_al rfl rfl ?_
  obtain ⟨x1, hx1, h⟩ := ob h
  obtain ⟨r2, hr2, h⟩ := ob h
  try simp only [hx1, Nat.reduceBEq, Nat.reduceMul, Nat.reduceAdd, Nat.reduceDiv, Int.reduceBEq, rules2, rulesX, rowsX]
  refine go_callI (w_spec_ParseInt _ _ hr2) rfl rfl (Nat.le_of_ble_eq_true rfl) ?_
  obtain ⟨x3, hx3, h⟩ := ob h
  obtain ⟨r4, hr4, h⟩ := ob h
  try simp only [hx1, hx3, Nat.reduceBEq, Nat.reduceMul, Nat.reduceAdd, Nat.reduceDiv, Int.reduceBEq, rules2, rulesX, rowsX]
  refine go_callI (w_spec_ParseInt _ _ hr4) rfl rfl (Nat.le_of_ble_eq_true rfl) ?_
  try simp only [hx1, hx3, Nat.reduceBEq, Nat.reduceMul, Nat.reduceAdd, Nat.reduceDiv, Int.reduceBEq, rules2, rulesX, rowsX]
  refine go_fr_of rfl ?_
  obtain ⟨x5, hx5, h⟩ := ob h
  obtain ⟨r6, hr6, h⟩ := ob h
  try simp only [hx1, hx3, hx5, Nat.reduceBEq, Nat.reduceMul, Nat.reduceAdd, Nat.reduceDiv, Int.reduceBEq, rules2, rulesX, rowsX]
  refine go_dcallI (w_spec_PointNamed _ _ _ hr6) rfl rfl (Nat.le_of_ble_eq_true rfl) ?_
  obtain ⟨x7, hx7, h⟩ := ob h
  obtain ⟨r8, hr8, h⟩ := ob h
  try simp only [hx1, hx3, hx5, hx7, Nat.reduceBEq, Nat.reduceMul, Nat.reduceAdd, Nat.reduceDiv, Int.reduceBEq, rules2, rulesX, rowsX]
  refine go_dcallI (w_spec_PointNamed _ _ _ hr8) rfl rfl (Nat.le_of_ble_eq_true rfl) ?_
  rcases Bool.eq_false_or_eq_true r2.2 with hb9 | hb9
  · rw [ite_t hb9] at h
    try simp only [hx1, hx3, hx5, hx7, hb9, Nat.reduceBEq, Nat.reduceMul, Nat.reduceAdd, Nat.reduceDiv, Int.reduceBEq, rules2, rulesX, rowsX]
    refine go_fr_of rfl ?_
    try simp only [hx1, hx3, hx5, hx7, hb9, Nat.reduceBEq, Nat.reduceMul, Nat.reduceAdd, Nat.reduceDiv, Int.reduceBEq, rules2, rulesX, rowsX]
    cases h
    try simp only [rulesR, Nat.reduceBEq, Nat.reduceMul, Nat.reduceAdd, Nat.reduceDiv, Int.reduceBEq, rules2, rulesX, rowsX]
    exact ⟨⟨⟨rfl, rfl, rfl, rfl, rfl, trivial⟩, rfl, trivial⟩, rfl⟩
  · rw [ite_f hb9] at h
    try simp only [hx1, hx3, hx5, hx7, hb9, Nat.reduceBEq, Nat.reduceMul, Nat.reduceAdd, Nat.reduceDiv, Int.reduceBEq, rules2, rulesX, rowsX]
    refine go_fr_of rfl ?_
    try simp only [hx1, hx3, hx5, hx7, hb9, Nat.reduceBEq, Nat.reduceMul, Nat.reduceAdd, Nat.reduceDiv, Int.reduceBEq, rules2, rulesX, rowsX]
    cases h
    try simp only [rulesR, Nat.reduceBEq, Nat.reduceMul, Nat.reduceAdd, Nat.reduceDiv, Int.reduceBEq, rules2, rulesX, rowsX]
    exact ⟨⟨⟨rfl, rfl, rfl, rfl, rfl, trivial⟩, rfl, trivial⟩, rfl⟩
/- 51: spec_l01In -/
def c_spec_l01In : ACode := (.seq (.reg [(none, .mv 6 (KB false))]) (.seq (.reg [(none, .mv 7 (S 0)), (none, .mv 8 (S 1)), (none, .bin 9 .geq (S 7) (S 8)), (none, .mv 10 (S 9)), (some (10, true), .mv 11 (S 0)), (some (10, true), .mv 12 (S 2)), (some (10, true), .bin 13 .leq (S 11) (S 12)), (none, .pick 14 (S 10) (S 13) (KB false)), (none, .mv 6 (S 14))]) .ret))
theorem e_spec_l01In : entry Tryd.prog 51 = some (c_spec_l01In.strip, [6], 15) := by kernel_rfl
theorem w_spec_l01In (a0 : Int) (a1 : Int) (a2 : Int) (r : Bool) (h : f_spec_l01In a0 a1 a2 = some r) : FC Tryd.prog 51 [.sc (.int .i64 a0), .sc (.int .i64 a1), .sc (.int .i64 a2)] [.sc (.v (.bool r))] := by
  unfold f_spec_l01In at h
  refine FC_go (σ := ⟨[(0, vc (aI a0)), (1, vc (aI a1)), (2, vc (aI a2))], [], []⟩) mixed e_spec_l01In rfl rfl ?_
  simp only [c_spec_l01In]
  rcases Bool.eq_false_or_eq_true (decide (a1 ≤ a0)) with hb1 | hb1
  · rw [ite_t hb1] at h
    try simp only [hb1, Nat.reduceBEq, Nat.reduceMul, Nat.reduceAdd, Nat.reduceDiv, Int.reduceBEq, rules2, rulesX, rowsX]
    cases h
    exact ⟨⟨rfl, trivial⟩, rfl⟩
  · rw [ite_f hb1] at h
    try simp only [hb1, Nat.reduceBEq, Nat.reduceMul, Nat.reduceAdd, Nat.reduceDiv, Int.reduceBEq, rules2, rulesX, rowsX]
    cases h
    exact ⟨⟨rfl, trivial⟩, rfl⟩
/- 64: spec_IsName -/
def c_spec_IsName_2 : ACode := .seq (.reg [(none, .keep [0, 3, 4] [] [])]) (.seq (.reg [(none, .mv 21 (S 4)), (none, .un 22 .not (S 21)), (none, .mv 23 (S 22)), (some (23, true), .mv 24 (S 3)), (some (23, true), .bin 25 .eql (S 24) (K 0)), (some (23, true), .mv 26 (S 25)), (some (26, false), .mv 27 (S 0)), (some (26, false), .mv 28 (S 3)), (some (26, false), .idx 29 (S 27) (S 28)), (some (26, false), .bin 30 .lss (S 29) (K8 48)), (some (23, true), .pick 31 (S 26) (KB true) (S 30)), (some (23, true), .mv 32 (S 31)), (some (32, false), .mv 33 (S 0)), (some (32, false), .mv 34 (S 3)), (some (32, false), .idx 35 (S 33) (S 34)), (some (32, false), .bin 36 .gtr (S 35) (K8 57)), (some (23, true), .pick 37 (S 32) (KB true) (S 36)), (none, .pick 38 (S 23) (S 37) (KB false))]) (.cond (S 38) (.seq (.reg [(none, .mv 2 (KB false))]) .ret) .skip))
def c_spec_IsName_3 : ACode := .seq (.reg [(none, .keep [0, 3] [] [])]) (.reg [(none, .mv 9 (S 3)), (none, .bin 10 .add (S 9) (K 1)), (none, .mv 3 (S 10))])
def c_spec_IsName_1 : ACode := .seq (.reg [(none, .keep [0, 3] [] [])]) (.seq (.seq (.reg [(none, .mv 5 (S 3)), (none, .mv 6 (S 0)), (none, .slen 7 (S 6)), (none, .bin 8 .lss (S 5) (S 7))]) (.cond (S 8) .skip (.exit 0))) (.seq (.block 1 (.seq (.reg [(none, .mv 11 (S 0)), (none, .mv 12 (S 3)), (none, .idx 13 (S 11) (S 12)), (none, .bin 14 .geq (S 13) (K8 97)), (none, .mv 15 (S 14)), (some (15, true), .mv 16 (S 0)), (some (15, true), .mv 17 (S 3)), (some (15, true), .idx 18 (S 16) (S 17)), (some (15, true), .bin 19 .leq (S 18) (K8 122)), (none, .pick 20 (S 15) (S 19) (KB false)), (none, .mv 4 (S 20))]) c_spec_IsName_2)) c_spec_IsName_3))
def c_spec_IsName_n1 : ACode := (.seq (.reg [(none, .mv 39 (S 0)), (none, .slen 40 (S 39)), (none, .call 41 51 [(S 40), (K 1), (K 8)]), (none, .mv 2 (S 41))]) .ret)
def c_spec_IsName : ACode := (.seq (.reg [(none, .mv 2 (KB false))]) (.seq (.seq (.reg [(none, .mv 3 (K 0))]) (.block 0 (.loop c_spec_IsName_1))) c_spec_IsName_n1))
theorem w_spec_IsName_3 (a0 : List UInt8) (v1 : Int) (k_spec_IsName_1 : Int → Option Bool) (hk_spec_IsName_1 : ∀ (v1 : Int) zr, k_spec_IsName_1 v1 = some zr → ∀ σ : St, σ.kept [0, 3] [] [] = ⟨[(0, vc (aS a0)), (3, vc (aI v1))], [], []⟩ → go Tryd.prog (.code (.loop c_spec_IsName_1) :: [.blk 0, .code c_spec_IsName_n1]) (Ret [2] [.sc (.v (.bool zr))]) .normal (some σ)) (r : Bool) (h : f_spec_IsName_3 a0 v1 k_spec_IsName_1 = some r) (σ : St) (hσ : σ.kept [0, 3] [] [] = ⟨[(0, vc (aS a0)), (3, vc (aI v1))], [], []⟩) : go Tryd.prog (.code c_spec_IsName_3 :: [.code (.loop c_spec_IsName_1), .blk 0, .code c_spec_IsName_n1]) (Ret [2] [.sc (.v (.bool r))]) .normal (some σ) := by
  unfold f_spec_IsName_3 at h
  try simp only [hσ, c_spec_IsName_3, Nat.reduceBEq, Nat.reduceMul, Nat.reduceAdd, Nat.reduceDiv, Int.reduceBEq, rules2, rulesX, rowsX]
  refine hk_spec_IsName_1 _ _ h _ ?_
  try simp only [Nat.reduceBEq, Nat.reduceMul, Nat.reduceAdd, Nat.reduceDiv, Int.reduceBEq, rules2, rulesX, rowsX, List.map_nil]
theorem w_spec_IsName_2 (a0 : List UInt8) (v1 : Int) (k_spec_IsName_1 : Int → Option Bool) (hk_spec_IsName_1 : ∀ (v1 : Int) zr, k_spec_IsName_1 v1 = some zr → ∀ σ : St, σ.kept [0, 3] [] [] = ⟨[(0, vc (aS a0)), (3, vc (aI v1))], [], []⟩ → go Tryd.prog (.code (.loop c_spec_IsName_1) :: [.blk 0, .code c_spec_IsName_n1]) (Ret [2] [.sc (.v (.bool zr))]) .normal (some σ)) (v5 : Bool) (r : Bool) (h : f_spec_IsName_2 a0 v1 k_spec_IsName_1 v5 = some r) (σ : St) (hσ : σ.kept [0, 3, 4] [] [] = ⟨[(0, vc (aS a0)), (3, vc (aI v1)), (4, vc (aB v5))], [], []⟩) : go Tryd.prog (.code c_spec_IsName_2 :: [.blk 1, .code c_spec_IsName_3, .code (.loop c_spec_IsName_1), .blk 0, .code c_spec_IsName_n1]) (Ret [2] [.sc (.v (.bool r))]) .normal (some σ) := by
  unfold f_spec_IsName_2 at h
  rcases Bool.eq_false_or_eq_true v5 with hb6 | hb6
  · rw [ite_t hb6] at h
    try simp only [hσ, hb6, c_spec_IsName_2, Nat.reduceBEq, Nat.reduceMul, Nat.reduceAdd, Nat.reduceDiv, Int.reduceBEq, rules2, rulesX, rowsX]
    refine w_spec_IsName_3 _ _ k_spec_IsName_1 hk_spec_IsName_1 _ h _ ?_
    try simp only [hb6, Nat.reduceBEq, Nat.reduceMul, Nat.reduceAdd, Nat.reduceDiv, Int.reduceBEq, rules2, rulesX, rowsX, List.map_nil]
  · rw [ite_f hb6] at h
    rcases Bool.eq_false_or_eq_true (v1 == (0 : Int)) with hb7 | hb7
    · rw [ite_t hb7] at h
      try simp only [hσ, hb6, hb7, c_spec_IsName_2, Nat.reduceBEq, Nat.reduceMul, Nat.reduceAdd, Nat.reduceDiv, Int.reduceBEq, rules2, rulesX, rowsX]
      cases h
      exact ⟨⟨rfl, trivial⟩, rfl⟩
    · rw [ite_f hb7] at h
      obtain ⟨b8, hb8, h⟩ := ob h
      rcases Bool.eq_false_or_eq_true (decide ((b8.toNat : Int) < (48 : Int))) with hb9 | hb9
      · rw [ite_t hb9] at h
        try simp only [hσ, hb6, hb7, hb8, hb9, c_spec_IsName_2, Nat.reduceBEq, Nat.reduceMul, Nat.reduceAdd, Nat.reduceDiv, Int.reduceBEq, rules2, rulesX, rowsX]
        cases h
        exact ⟨⟨rfl, trivial⟩, rfl⟩
      · rw [ite_f hb9] at h
        rcases Bool.eq_false_or_eq_true (decide ((57 : Int) < (b8.toNat : Int))) with hb10 | hb10
        · rw [ite_t hb10] at h
          try simp only [hσ, hb6, hb7, hb8, hb9, hb10, c_spec_IsName_2, Nat.reduceBEq, Nat.reduceMul, Nat.reduceAdd, Nat.reduceDiv, Int.reduceBEq, rules2, rulesX, rowsX]
          cases h
          exact ⟨⟨rfl, trivial⟩, rfl⟩
        · rw [ite_f hb10] at h
          try simp only [hσ, hb6, hb7, hb8, hb9, hb10, c_spec_IsName_2, Nat.reduceBEq, Nat.reduceMul, Nat.reduceAdd, Nat.reduceDiv, Int.reduceBEq, rules2, rulesX, rowsX]
          refine w_spec_IsName_3 _ _ k_spec_IsName_1 hk_spec_IsName_1 _ h _ ?_
          try simp only [hb6, hb7, hb8, hb9, hb10, Nat.reduceBEq, Nat.reduceMul, Nat.reduceAdd, Nat.reduceDiv, Int.reduceBEq, rules2, rulesX, rowsX, List.map_nil]
theorem w_spec_IsName_1 (a0 : List UInt8) : ∀ (n : Nat) (v1 : Int) (r : Bool), f_spec_IsName_1 a0 n v1 = some r → ∀ σ : St, σ.kept [0, 3] [] [] = ⟨[(0, vc (aS a0)), (3, vc (aI v1))], [], []⟩ → go Tryd.prog (.code (.loop c_spec_IsName_1) :: [.blk 0, .code c_spec_IsName_n1]) (Ret [2] [.sc (.v (.bool r))]) .normal (some σ) := by
  intro n
  induction n with
  | zero => intro _ r h; cases h
  | succ n ih =>
    intro v1 r h σ hσ
    rw [f_spec_IsName_1] at h
    refine go_round ?_
    rcases Bool.eq_false_or_eq_true (decide (v1 < (a0.length : Int))) with hb2 | hb2
    · rw [ite_t hb2] at h
      obtain ⟨b3, hb3, h⟩ := ob h
      rcases Bool.eq_false_or_eq_true (decide ((97 : Int) ≤ (b3.toNat : Int))) with hb4 | hb4
      · rw [ite_t hb4] at h
        try simp only [hσ, hb2, hb3, hb4, c_spec_IsName_1, Nat.reduceBEq, Nat.reduceMul, Nat.reduceAdd, Nat.reduceDiv, Int.reduceBEq, rules2, rulesX, rowsX]
        refine w_spec_IsName_2 _ _ (f_spec_IsName_1 a0 n) ih _ _ h _ ?_
        try simp only [hb2, hb3, hb4, Nat.reduceBEq, Nat.reduceMul, Nat.reduceAdd, Nat.reduceDiv, Int.reduceBEq, rules2, rulesX, rowsX, List.map_nil]
      · rw [ite_f hb4] at h
        try simp only [hσ, hb2, hb3, hb4, c_spec_IsName_1, Nat.reduceBEq, Nat.reduceMul, Nat.reduceAdd, Nat.reduceDiv, Int.reduceBEq, rules2, rulesX, rowsX]
        refine w_spec_IsName_2 _ _ (f_spec_IsName_1 a0 n) ih _ _ h _ ?_
        try simp only [hb2, hb3, hb4, Nat.reduceBEq, Nat.reduceMul, Nat.reduceAdd, Nat.reduceDiv, Int.reduceBEq, rules2, rulesX, rowsX, List.map_nil]
    · rw [ite_f hb2] at h
      obtain ⟨r11, hr11, h⟩ := ob h
      try simp only [hσ, hb2, c_spec_IsName_1, c_spec_IsName_n1, Nat.reduceBEq, Nat.reduceMul, Nat.reduceAdd, Nat.reduceDiv, Int.reduceBEq, rules2, rulesX, rowsX]
      refine go_callI (w_spec_l01In _ _ _ _ hr11) rfl rfl (Nat.le_of_ble_eq_true rfl) ?_
      try simp only [hb2, Nat.reduceBEq, Nat.reduceMul, Nat.reduceAdd, Nat.reduceDiv, Int.reduceBEq, rules2, rulesX, rowsX]
      cases h
      exact ⟨⟨rfl, trivial⟩, rfl⟩
theorem e_spec_IsName : entry Tryd.prog 64 = some (c_spec_IsName.strip, [2], 42) := by kernel_rfl
theorem w_spec_IsName (a0 : List UInt8) (r : Bool) (h : f_spec_IsName a0 = some r) : FC Tryd.prog 64 [.sc (.str a0)] [.sc (.v (.bool r))] := by
  unfold f_spec_IsName at h
  refine FC_go (σ := ⟨[(0, vc (aS a0))], [], []⟩) mixed e_spec_IsName rfl rfl ?_
  simp only [c_spec_IsName]
  try simp only [Nat.reduceBEq, Nat.reduceMul, Nat.reduceAdd, Nat.reduceDiv, Int.reduceBEq, rules2, rulesX, rowsX]
  refine w_spec_IsName_1 _ _ _ _ h _ ?_
  try simp only [Nat.reduceBEq, Nat.reduceMul, Nat.reduceAdd, Nat.reduceDiv, Int.reduceBEq, rules2, rulesX, rowsX, List.map_nil]
/- 65: spec_l05Joins -/
def c_spec_l05Joins : ACode := (.seq (.reg [(none, .box 3 (S 0)), (none, .mv 6 (KB false))]) (.seq (.reg [(none, .faddr 7 (S 3) 0), (none, .load 8 (S 7) false 1), (none, .mv 9 (S 1)), (none, .bin 10 .eql (S 8) (S 9)), (none, .mv 11 (S 10)), (some (11, true), .faddr 12 (S 3) 1), (some (11, true), .load 13 (S 12) false 1), (some (11, true), .mv 14 (S 2)), (some (11, true), .bin 15 .eql (S 13) (S 14)), (none, .pick 16 (S 11) (S 15) (KB false)), (none, .mv 17 (S 16)), (some (17, false), .faddr 18 (S 3) 0), (some (17, false), .load 19 (S 18) false 1), (some (17, false), .mv 20 (S 2)), (some (17, false), .bin 21 .eql (S 19) (S 20)), (some (17, false), .mv 22 (S 21)), (some (22, true), .faddr 23 (S 3) 1), (some (22, true), .load 24 (S 23) false 1), (some (22, true), .mv 25 (S 1)), (some (22, true), .bin 26 .eql (S 24) (S 25)), (some (17, false), .pick 27 (S 22) (S 26) (KB false)), (none, .pick 28 (S 17) (KB true) (S 27)), (none, .mv 6 (S 28))]) .ret))
theorem e_spec_l05Joins : entry Tryd.prog 65 = some (c_spec_l05Joins.strip, [6], 29) := by kernel_rfl
theorem w_spec_l05Joins (a0 : XSegment) (a1 : Int) (a2 : Int) (r : Bool) (h : f_spec_l05Joins a0 a1 a2 = some r) : FC Tryd.prog 65 [.ag (XSegment.row a0), .sc (.int .i64 a1), .sc (.int .i64 a2)] [.sc (.v (.bool r))] := by
  unfold f_spec_l05Joins at h
  refine FC_go (σ := ⟨[(0, va [aI a0.A, aI a0.B, aI a0.Depth, aI a0.Minutes, aB a0.Meet]), (1, vc (aI a1)), (2, vc (aI a2))], [], []⟩) mixed e_spec_l05Joins rfl rfl ?_
  simp only [c_spec_l05Joins]
  try simp only [Nat.reduceBEq, Nat.reduceMul, Nat.reduceAdd, Nat.reduceDiv, Int.reduceBEq, rules2, rulesX, rowsX]
  refine go_bx rfl rfl rfl ?_
  rcases Bool.eq_false_or_eq_true (a0.A == a1) with hb1 | hb1
  · rw [ite_t hb1] at h
    rcases Bool.eq_false_or_eq_true (a0.B == a2) with hb2 | hb2
    · rw [ite_t hb2] at h
      try simp only [hb1, hb2, Nat.reduceBEq, Nat.reduceMul, Nat.reduceAdd, Nat.reduceDiv, Int.reduceBEq, rules2, rulesX, rowsX]
      cases h
      exact ⟨⟨rfl, trivial⟩, rfl⟩
    · rw [ite_f hb2] at h
      rcases Bool.eq_false_or_eq_true (a0.A == a2) with hb3 | hb3
      · rw [ite_t hb3] at h
        try simp only [hb1, hb2, hb3, Nat.reduceBEq, Nat.reduceMul, Nat.reduceAdd, Nat.reduceDiv, Int.reduceBEq, rules2, rulesX, rowsX]
        cases h
        exact ⟨⟨rfl, trivial⟩, rfl⟩
      · rw [ite_f hb3] at h
        try simp only [hb1, hb2, hb3, Nat.reduceBEq, Nat.reduceMul, Nat.reduceAdd, Nat.reduceDiv, Int.reduceBEq, rules2, rulesX, rowsX]
        cases h
        exact ⟨⟨rfl, trivial⟩, rfl⟩
  · rw [ite_f hb1] at h
    rcases Bool.eq_false_or_eq_true (a0.A == a2) with hb4 | hb4
    · rw [ite_t hb4] at h
      try simp only [hb1, hb4, Nat.reduceBEq, Nat.reduceMul, Nat.reduceAdd, Nat.reduceDiv, Int.reduceBEq, rules2, rulesX, rowsX]
      cases h
      exact ⟨⟨rfl, trivial⟩, rfl⟩
    · rw [ite_f hb4] at h
      try simp only [hb1, hb4, Nat.reduceBEq, Nat.reduceMul, Nat.reduceAdd, Nat.reduceDiv, Int.reduceBEq, rules2, rulesX, rowsX]
      cases h
      exact ⟨⟨rfl, trivial⟩, rfl⟩
/- 37: spec_ChartOk -/
def c_spec_ChartOk_1 : ACode := .seq (.reg [(none, .keep [1, 20, 21, 22] [1] [])]) (.seq (.reg [(none, .bin 23 .lss (S 22) (S 21))]) (.seq (.cond (S 23) .skip (.exit 0)) (.seq (.block 1 (.seq (.reg [(none, .mv 24 (S 22)), (none, .iaddr 25 (S 20) (S 22) 2), (none, .load 26 (S 25) true 2), (none, .alloc 4 [aS [], aB false]), (none, .mv 3 (S 24)), (none, .store (S 4) (S 26) 2)]) (.seq (.reg [(none, .faddr 27 (S 4) 0), (none, .load 28 (S 27) false 1), (none, .call 29 64 [(S 28)]), (none, .un 30 .not (S 29)), (none, .mv 31 (S 30)), (some (31, false), .load 32 (S 1) true 2), (some (31, false), .faddr 33 (S 4) 0), (some (31, false), .load 34 (S 33) false 1), (some (31, false), .call 35 63 [(S 32), (S 34)]), (some (31, false), .mv 36 (S 3)), (some (31, false), .bin 37 .neq (S 35) (S 36)), (none, .pick 38 (S 31) (KB true) (S 37))]) (.cond (S 38) (.seq (.reg [(none, .mv 2 (KB false))]) .ret) .skip)))) (.reg [(none, .bin 39 .add (S 22) (K 1)), (none, .mv 22 (S 39))]))))
def c_spec_ChartOk_3 : ACode := .seq (.reg [(none, .keep [1, 6, 41, 42, 43, 88, 89, 90] [1, 6] [])]) (.seq (.reg [(none, .bin 91 .lss (S 90) (S 89))]) (.seq (.cond (S 91) .skip (.exit 4)) (.seq (.block 5 (.seq (.reg [(none, .iaddr 92 (S 88) (S 90) 5), (none, .load 93 (S 92) true 5), (none, .alloc 8 [aI 0, aI 0, aI 0, aI 0, aB false]), (none, .store (S 8) (S 93) 5)]) (.seq (.reg [(none, .load 94 (S 8) true 5), (none, .faddr 95 (S 6) 0), (none, .load 96 (S 95) false 1), (none, .faddr 97 (S 6) 1), (none, .load 98 (S 97) false 1), (none, .call 99 65 [(S 94), (S 96), (S 98)])]) (.cond (S 99) (.seq (.reg [(none, .mv 2 (KB false))]) .ret) .skip)))) (.reg [(none, .bin 100 .add (S 90) (K 1)), (none, .mv 90 (S 100))]))))
def c_spec_ChartOk_n3 : ACode := (.reg [(none, .bin 101 .add (S 43) (K 1)), (none, .mv 43 (S 101))])
def c_spec_ChartOk_2 : ACode := .seq (.reg [(none, .keep [1, 41, 42, 43] [1] [])]) (.seq (.reg [(none, .bin 44 .lss (S 43) (S 42))]) (.seq (.cond (S 44) .skip (.exit 2)) (.seq (.block 3 (.seq (.reg [(none, .mv 45 (S 43)), (none, .iaddr 46 (S 41) (S 43) 5), (none, .load 47 (S 46) true 5), (none, .alloc 6 [aI 0, aI 0, aI 0, aI 0, aB false]), (none, .mv 5 (S 45)), (none, .store (S 6) (S 47) 5)]) (.seq (.seq (.reg [(none, .faddr 48 (S 6) 0), (none, .load 49 (S 48) false 1), (none, .faddr 50 (S 1) 0), (none, .load 51 (S 50) false 1), (none, .len 52 (S 51)), (none, .bin 53 .sub (S 52) (K 1)), (none, .call 54 51 [(S 49), (K 0), (S 53)]), (none, .un 55 .not (S 54)), (none, .mv 56 (S 55)), (some (56, false), .faddr 57 (S 6) 1), (some (56, false), .load 58 (S 57) false 1), (some (56, false), .faddr 59 (S 1) 0), (some (56, false), .load 60 (S 59) false 1), (some (56, false), .len 61 (S 60)), (some (56, false), .bin 62 .sub (S 61) (K 1)), (some (56, false), .call 63 51 [(S 58), (K 0), (S 62)]), (some (56, false), .un 64 .not (S 63)), (none, .pick 65 (S 56) (KB true) (S 64)), (none, .mv 66 (S 65)), (some (66, false), .faddr 67 (S 6) 0), (some (66, false), .load 68 (S 67) false 1), (some (66, false), .faddr 69 (S 6) 1), (some (66, false), .load 70 (S 69) false 1), (some (66, false), .bin 71 .eql (S 68) (S 70)), (none, .pick 72 (S 66) (KB true) (S 71)), (none, .mv 73 (S 72)), (some (73, false), .faddr 74 (S 6) 2), (some (73, false), .load 75 (S 74) false 1), (some (73, false), .call 76 51 [(S 75), (K 0), (K 3000)]), (some (73, false), .un 77 .not (S 76)), (none, .pick 78 (S 73) (KB true) (S 77)), (none, .mv 79 (S 78)), (some (79, false), .faddr 80 (S 6) 3), (some (79, false), .load 81 (S 80) false 1), (some (79, false), .call 82 51 [(S 81), (K 1), (K 240)]), (some (79, false), .un 83 .not (S 82)), (none, .pick 84 (S 79) (KB true) (S 83))]) (.cond (S 84) (.seq (.reg [(none, .mv 2 (KB false))]) .ret) .skip)) (.seq (.reg [(none, .faddr 85 (S 1) 1), (none, .load 86 (S 85) false 1), (none, .mv 87 (S 5)), (none, .slc 88 5 (S 86) none (some (S 87)) none), (none, .len 89 (S 88)), (none, .mv 90 (K 0))]) (.block 4 (.loop c_spec_ChartOk_3)))))) c_spec_ChartOk_n3)))
def c_spec_ChartOk_n2 : ACode := (.seq (.reg [(none, .mv 2 (KB true))]) .ret)
def c_spec_ChartOk_n1 : ACode := (.seq (.seq (.reg [(none, .faddr 40 (S 1) 1), (none, .load 41 (S 40) false 1), (none, .len 42 (S 41)), (none, .mv 43 (K 0))]) (.block 2 (.loop c_spec_ChartOk_2))) c_spec_ChartOk_n2)
def c_spec_ChartOk : ACode := (.seq (.reg [(none, .box 1 (S 0)), (none, .mv 2 (KB false))]) (.seq (.seq (.reg [(none, .faddr 9 (S 1) 0), (none, .load 10 (S 9) false 1), (none, .len 11 (S 10)), (none, .bin 12 .gtr (S 11) (K 8)), (none, .mv 13 (S 12)), (some (13, false), .faddr 14 (S 1) 1), (some (13, false), .load 15 (S 14) false 1), (some (13, false), .len 16 (S 15)), (some (13, false), .bin 17 .gtr (S 16) (K 10)), (none, .pick 18 (S 13) (KB true) (S 17))]) (.cond (S 18) (.seq (.reg [(none, .mv 2 (KB false))]) .ret) .skip)) (.seq (.seq (.reg [(none, .faddr 19 (S 1) 0), (none, .load 20 (S 19) false 1), (none, .len 21 (S 20)), (none, .mv 22 (K 0))]) (.block 0 (.loop c_spec_ChartOk_1))) c_spec_ChartOk_n1)))
theorem w_spec_ChartOk_3 (a0 : XChart) (v10 : Int) (x12 : XSegment) (y23 : List XSegment) (y24 : Int) (k_spec_ChartOk_2 : Int → Option Bool) (hk_spec_ChartOk_2 : ∀ (v10 : Int) zr, k_spec_ChartOk_2 v10 = some zr → ∀ σ : St, σ.kept [1, 41, 42, 43] [1] [] = ⟨[(1, vc (.pb 1 0)), (41, vc (aL (List.map XSegment.row a0.Segments))), (42, vc (aI (a0.Segments.length : Int))), (43, vc (aI v10))], [(1, [aL (List.map XPoint.row a0.Points), aL (List.map XSegment.row a0.Segments)])], []⟩ → go Tryd.prog (.code (.loop c_spec_ChartOk_2) :: [.blk 2, .code c_spec_ChartOk_n2]) (Ret [2] [.sc (.v (.bool zr))]) .normal (some σ)) : ∀ (n : Nat) (v25 : Int) (r : Bool), f_spec_ChartOk_3 a0 v10 x12 y23 y24 k_spec_ChartOk_2 n v25 = some r → ∀ σ : St, σ.kept [1, 6, 41, 42, 43, 88, 89, 90] [1, 6] [] = ⟨[(1, vc (.pb 1 0)), (6, vc (.pb 6 0)), (41, vc (aL (List.map XSegment.row a0.Segments))), (42, vc (aI (a0.Segments.length : Int))), (43, vc (aI v10)), (88, vc (aL (List.map XSegment.row y23))), (89, vc (aI y24)), (90, vc (aI v25))], [(1, [aL (List.map XPoint.row a0.Points), aL (List.map XSegment.row a0.Segments)]), (6, [aI x12.A, aI x12.B, aI x12.Depth, aI x12.Minutes, aB x12.Meet])], []⟩ → go Tryd.prog (.code (.loop c_spec_ChartOk_3) :: [.blk 4, .blk 3, .code c_spec_ChartOk_n3, .code (.loop c_spec_ChartOk_2), .blk 2, .code c_spec_ChartOk_n2]) (Ret [2] [.sc (.v (.bool r))]) .normal (some σ) := by
  intro n
  induction n with
  | zero => intro _ r h; cases h
  | succ n ih =>
    intro v25 r h σ hσ
    rw [f_spec_ChartOk_3] at h
    refine go_round ?_
    rcases Bool.eq_false_or_eq_true (decide (v25 < y24)) with hb26 | hb26
    · rw [ite_t hb26] at h
      obtain ⟨x27, hx27, h⟩ := ob h
      try simp only [hσ, hb26, hx27, c_spec_ChartOk_3, Nat.reduceBEq, Nat.reduceMul, Nat.reduceAdd, Nat.reduceDiv, Int.reduceBEq, rules2, rulesX, rowsX]
      refine go_al rfl rfl ?_
      obtain ⟨r28, hr28, h⟩ := ob h
      try simp only [hb26, hx27, Nat.reduceBEq, Nat.reduceMul, Nat.reduceAdd, Nat.reduceDiv, Int.reduceBEq, rules2, rulesX, rowsX]
      refine go_callI (w_spec_l05Joins _ _ _ _ hr28) rfl rfl (Nat.le_of_ble_eq_true rfl) ?_
      rcases Bool.eq_false_or_eq_true r28 with hb29 | hb29
      · rw [ite_t hb29] at h
        try simp only [hb26, hx27, hb29, Nat.reduceBEq, Nat.reduceMul, Nat.reduceAdd, Nat.reduceDiv, Int.reduceBEq, rules2, rulesX, rowsX]
        cases h
        exact ⟨⟨rfl, trivial⟩, rfl⟩
      · rw [ite_f hb29] at h
        try simp only [hb26, hx27, hb29, Nat.reduceBEq, Nat.reduceMul, Nat.reduceAdd, Nat.reduceDiv, Int.reduceBEq, rules2, rulesX, rowsX]
        refine ih _ _ h _ ?_
        try simp only [hb26, hx27, hb29, Nat.reduceBEq, Nat.reduceMul, Nat.reduceAdd, Nat.reduceDiv, Int.reduceBEq, rules2, rulesX, rowsX, List.map_nil]
    · rw [ite_f hb26] at h
      try simp only [hσ, hb26, c_spec_ChartOk_3, c_spec_ChartOk_n3, Nat.reduceBEq, Nat.reduceMul, Nat.reduceAdd, Nat.reduceDiv, Int.reduceBEq, rules2, rulesX, rowsX]
      refine hk_spec_ChartOk_2 _ _ h _ ?_
      try simp only [hb26, Nat.reduceBEq, Nat.reduceMul, Nat.reduceAdd, Nat.reduceDiv, Int.reduceBEq, rules2, rulesX, rowsX, List.map_nil]
theorem w_spec_ChartOk_2 (a0 : XChart) : ∀ (n : Nat) (v10 : Int) (r : Bool), f_spec_ChartOk_2 a0 n v10 = some r → ∀ σ : St, σ.kept [1, 41, 42, 43] [1] [] = ⟨[(1, vc (.pb 1 0)), (41, vc (aL (List.map XSegment.row a0.Segments))), (42, vc (aI (a0.Segments.length : Int))), (43, vc (aI v10))], [(1, [aL (List.map XPoint.row a0.Points), aL (List.map XSegment.row a0.Segments)])], []⟩ → go Tryd.prog (.code (.loop c_spec_ChartOk_2) :: [.blk 2, .code c_spec_ChartOk_n2]) (Ret [2] [.sc (.v (.bool r))]) .normal (some σ) := by
  intro n
  induction n with
  | zero => intro _ r h; cases h
  | succ n ih =>
    intro v10 r h σ hσ
    rw [f_spec_ChartOk_2] at h
    refine go_round ?_
    rcases Bool.eq_false_or_eq_true (decide (v10 < (a0.Segments.length : Int))) with hb11 | hb11
    · rw [ite_t hb11] at h
      obtain ⟨x12, hx12, h⟩ := ob h
      try simp only [hσ, hb11, hx12, c_spec_ChartOk_2, Nat.reduceBEq, Nat.reduceMul, Nat.reduceAdd, Nat.reduceDiv, Int.reduceBEq, rules2, rulesX, rowsX]
      refine go_al rfl rfl ?_
      obtain ⟨r13, hr13, h⟩ := ob h
      try simp only [hb11, hx12, Nat.reduceBEq, Nat.reduceMul, Nat.reduceAdd, Nat.reduceDiv, Int.reduceBEq, rules2, rulesX, rowsX]
      refine go_callI (w_spec_l01In _ _ _ _ hr13) rfl rfl (Nat.le_of_ble_eq_true rfl) ?_
      rcases Bool.eq_false_or_eq_true r13 with hb14 | hb14
      · rw [ite_t hb14] at h
        obtain ⟨r15, hr15, h⟩ := ob h
        try simp only [hb11, hx12, hb14, Nat.reduceBEq, Nat.reduceMul, Nat.reduceAdd, Nat.reduceDiv, Int.reduceBEq, rules2, rulesX, rowsX]
        refine go_callI (w_spec_l01In _ _ _ _ hr15) rfl rfl (Nat.le_of_ble_eq_true rfl) ?_
        rcases Bool.eq_false_or_eq_true r15 with hb16 | hb16
        · rw [ite_t hb16] at h
          rcases Bool.eq_false_or_eq_true (x12.A == x12.B) with hb17 | hb17
          · rw [ite_t hb17] at h
            try simp only [hb11, hx12, hb14, hb16, hb17, Nat.reduceBEq, Nat.reduceMul, Nat.reduceAdd, Nat.reduceDiv, Int.reduceBEq, rules2, rulesX, rowsX]
            cases h
            exact ⟨⟨rfl, trivial⟩, rfl⟩
          · rw [ite_f hb17] at h
            obtain ⟨r18, hr18, h⟩ := ob h
            try simp only [hb11, hx12, hb14, hb16, hb17, Nat.reduceBEq, Nat.reduceMul, Nat.reduceAdd, Nat.reduceDiv, Int.reduceBEq, rules2, rulesX, rowsX]
            refine go_callI (w_spec_l01In _ _ _ _ hr18) rfl rfl (Nat.le_of_ble_eq_true rfl) ?_
            rcases Bool.eq_false_or_eq_true r18 with hb19 | hb19
            · rw [ite_t hb19] at h
              obtain ⟨r20, hr20, h⟩ := ob h
              try simp only [hb11, hx12, hb14, hb16, hb17, hb19, Nat.reduceBEq, Nat.reduceMul, Nat.reduceAdd, Nat.reduceDiv, Int.reduceBEq, rules2, rulesX, rowsX]
              refine go_callI (w_spec_l01In _ _ _ _ hr20) rfl rfl (Nat.le_of_ble_eq_true rfl) ?_
              rcases Bool.eq_false_or_eq_true r20 with hb21 | hb21
              · rw [ite_t hb21] at h
                obtain ⟨p22, hp22, h⟩ := ob h
                try simp only [hb11, hx12, hb14, hb16, hb17, hb19, hb21, hp22, Nat.reduceBEq, Nat.reduceMul, Nat.reduceAdd, Nat.reduceDiv, Int.reduceBEq, rules2, rulesX, rowsX]
                refine w_spec_ChartOk_3 _ _ _ _ _ (f_spec_ChartOk_2 a0 n) ih _ _ _ h _ ?_
                try simp only [hb11, hx12, hb14, hb16, hb17, hb19, hb21, hp22, Nat.reduceBEq, Nat.reduceMul, Nat.reduceAdd, Nat.reduceDiv, Int.reduceBEq, rules2, rulesX, rowsX, List.map_nil]
              · rw [ite_f hb21] at h
                try simp only [hb11, hx12, hb14, hb16, hb17, hb19, hb21, Nat.reduceBEq, Nat.reduceMul, Nat.reduceAdd, Nat.reduceDiv, Int.reduceBEq, rules2, rulesX, rowsX]
                cases h
                exact ⟨⟨rfl, trivial⟩, rfl⟩
            · rw [ite_f hb19] at h
              try simp only [hb11, hx12, hb14, hb16, hb17, hb19, Nat.reduceBEq, Nat.reduceMul, Nat.reduceAdd, Nat.reduceDiv, Int.reduceBEq, rules2, rulesX, rowsX]
              cases h
              exact ⟨⟨rfl, trivial⟩, rfl⟩
        · rw [ite_f hb16] at h
          try simp only [hb11, hx12, hb14, hb16, Nat.reduceBEq, Nat.reduceMul, Nat.reduceAdd, Nat.reduceDiv, Int.reduceBEq, rules2, rulesX, rowsX]
          cases h
          exact ⟨⟨rfl, trivial⟩, rfl⟩
      · rw [ite_f hb14] at h
        try simp only [hb11, hx12, hb14, Nat.reduceBEq, Nat.reduceMul, Nat.reduceAdd, Nat.reduceDiv, Int.reduceBEq, rules2, rulesX, rowsX]
        cases h
        exact ⟨⟨rfl, trivial⟩, rfl⟩
    · rw [ite_f hb11] at h
      try simp only [hσ, hb11, c_spec_ChartOk_2, c_spec_ChartOk_n2, Nat.reduceBEq, Nat.reduceMul, Nat.reduceAdd, Nat.reduceDiv, Int.reduceBEq, rules2, rulesX, rowsX]
      cases h
      exact ⟨⟨rfl, trivial⟩, rfl⟩
theorem w_spec_ChartOk_1 (a0 : XChart) : ∀ (n : Nat) (v3 : Int) (r : Bool), f_spec_ChartOk_1 a0 n v3 = some r → ∀ σ : St, σ.kept [1, 20, 21, 22] [1] [] = ⟨[(1, vc (.pb 1 0)), (20, vc (aL (List.map XPoint.row a0.Points))), (21, vc (aI (a0.Points.length : Int))), (22, vc (aI v3))], [(1, [aL (List.map XPoint.row a0.Points), aL (List.map XSegment.row a0.Segments)])], []⟩ → go Tryd.prog (.code (.loop c_spec_ChartOk_1) :: [.blk 0, .code c_spec_ChartOk_n1]) (Ret [2] [.sc (.v (.bool r))]) .normal (some σ) := by
  intro n
  induction n with
  | zero => intro _ r h; cases h
  | succ n ih =>
    intro v3 r h σ hσ
    rw [f_spec_ChartOk_1] at h
    refine go_round ?_
    rcases Bool.eq_false_or_eq_true (decide (v3 < (a0.Points.length : Int))) with hb4 | hb4
    · rw [ite_t hb4] at h
      obtain ⟨x5, hx5, h⟩ := ob h
      try simp only [hσ, hb4, hx5, c_spec_ChartOk_1, Nat.reduceBEq, Nat.reduceMul, Nat.reduceAdd, Nat.reduceDiv, Int.reduceBEq, rules2, rulesX, rowsX]
      refine go_al rfl rfl ?_
      obtain ⟨r6, hr6, h⟩ := ob h
      try simp only [hb4, hx5, Nat.reduceBEq, Nat.reduceMul, Nat.reduceAdd, Nat.reduceDiv, Int.reduceBEq, rules2, rulesX, rowsX]
      refine go_callI (w_spec_IsName _ _ hr6) rfl rfl (Nat.le_of_ble_eq_true rfl) ?_
      rcases Bool.eq_false_or_eq_true r6 with hb7 | hb7
      · rw [ite_t hb7] at h
        obtain ⟨r8, hr8, h⟩ := ob h
        try simp only [hb4, hx5, hb7, Nat.reduceBEq, Nat.reduceMul, Nat.reduceAdd, Nat.reduceDiv, Int.reduceBEq, rules2, rulesX, rowsX]
        refine go_callI (w_spec_PointNamed _ _ _ hr8) rfl rfl (Nat.le_of_ble_eq_true rfl) ?_
        rcases Bool.eq_false_or_eq_true (r8 != v3) with hb9 | hb9
        · rw [ite_t hb9] at h
          try simp only [hb4, hx5, hb7, hb9, Nat.reduceBEq, Nat.reduceMul, Nat.reduceAdd, Nat.reduceDiv, Int.reduceBEq, rules2, rulesX, rowsX]
          cases h
          exact ⟨⟨rfl, trivial⟩, rfl⟩
        · rw [ite_f hb9] at h
          try simp only [hb4, hx5, hb7, hb9, Nat.reduceBEq, Nat.reduceMul, Nat.reduceAdd, Nat.reduceDiv, Int.reduceBEq, rules2, rulesX, rowsX]
          refine ih _ _ h _ ?_
          try simp only [hb4, hx5, hb7, hb9, Nat.reduceBEq, Nat.reduceMul, Nat.reduceAdd, Nat.reduceDiv, Int.reduceBEq, rules2, rulesX, rowsX, List.map_nil]
      · rw [ite_f hb7] at h
        try simp only [hb4, hx5, hb7, Nat.reduceBEq, Nat.reduceMul, Nat.reduceAdd, Nat.reduceDiv, Int.reduceBEq, rules2, rulesX, rowsX]
        cases h
        exact ⟨⟨rfl, trivial⟩, rfl⟩
    · rw [ite_f hb4] at h
      try simp only [hσ, hb4, c_spec_ChartOk_1, c_spec_ChartOk_n1, Nat.reduceBEq, Nat.reduceMul, Nat.reduceAdd, Nat.reduceDiv, Int.reduceBEq, rules2, rulesX, rowsX]
      refine w_spec_ChartOk_2 _ _ _ _ h _ ?_
      try simp only [hb4, Nat.reduceBEq, Nat.reduceMul, Nat.reduceAdd, Nat.reduceDiv, Int.reduceBEq, rules2, rulesX, rowsX, List.map_nil]
theorem e_spec_ChartOk : entry Tryd.prog 37 = some (c_spec_ChartOk.strip, [2], 102) := by kernel_rfl
theorem w_spec_ChartOk (a0 : XChart) (r : Bool) (h : f_spec_ChartOk a0 = some r) : FC Tryd.prog 37 [.ag (XChart.row a0)] [.sc (.v (.bool r))] := by
  unfold f_spec_ChartOk at h
  refine FC_go (σ := ⟨[(0, va [aL (List.map XPoint.row a0.Points), aL (List.map XSegment.row a0.Segments)])], [], []⟩) mixed e_spec_ChartOk rfl rfl ?_
  simp only [c_spec_ChartOk]
  try simp only [Nat.reduceBEq, Nat.reduceMul, Nat.reduceAdd, Nat.reduceDiv, Int.reduceBEq, rules2, rulesX, rowsX]
  refine go_bx rfl rfl rfl ?_
  rcases Bool.eq_false_or_eq_true (decide ((8 : Int) < (a0.Points.length : Int))) with hb1 | hb1
  · rw [ite_t hb1] at h
    try simp only [hb1, Nat.reduceBEq, Nat.reduceMul, Nat.reduceAdd, Nat.reduceDiv, Int.reduceBEq, rules2, rulesX, rowsX]
    cases h
    exact ⟨⟨rfl, trivial⟩, rfl⟩
  · rw [ite_f hb1] at h
    rcases Bool.eq_false_or_eq_true (decide ((10 : Int) < (a0.Segments.length : Int))) with hb2 | hb2
    · rw [ite_t hb2] at h
      try simp only [hb1, hb2, Nat.reduceBEq, Nat.reduceMul, Nat.reduceAdd, Nat.reduceDiv, Int.reduceBEq, rules2, rulesX, rowsX]
      cases h
      exact ⟨⟨rfl, trivial⟩, rfl⟩
    · rw [ite_f hb2] at h
      try simp only [hb1, hb2, Nat.reduceBEq, Nat.reduceMul, Nat.reduceAdd, Nat.reduceDiv, Int.reduceBEq, rules2, rulesX, rowsX]
      refine w_spec_ChartOk_1 _ _ _ _ h _ ?_
      try simp only [hb1, hb2, Nat.reduceBEq, Nat.reduceMul, Nat.reduceAdd, Nat.reduceDiv, Int.reduceBEq, rules2, rulesX, rowsX, List.map_nil]
/- 38: spec_FormatChart -/
def c_spec_FormatChart_2 : ACode := .seq (.reg [(none, .keep [1, 3, 12, 13, 14] [1] [])]) (.reg [(none, .mv 27 (S 3)), (none, .bin 28 .add (S 27) (KS [10])), (none, .mv 3 (S 28))])
def c_spec_FormatChart_n2 : ACode := (.reg [(none, .bin 29 .add (S 14) (K 1)), (none, .mv 14 (S 29))])
def c_spec_FormatChart_1 : ACode := .seq (.reg [(none, .keep [1, 3, 12, 13, 14] [1] [])]) (.seq (.reg [(none, .bin 15 .lss (S 14) (S 13))]) (.seq (.cond (S 15) .skip (.exit 0)) (.seq (.block 1 (.seq (.reg [(none, .iaddr 16 (S 12) (S 14) 2), (none, .load 17 (S 16) true 2), (none, .alloc 5 [aS [], aB false]), (none, .store (S 5) (S 17) 2)]) (.seq (.reg [(none, .mv 18 (S 3)), (none, .bin 19 .add (S 18) (KS [112, 111, 105, 110, 116, 32])), (none, .faddr 20 (S 5) 0), (none, .load 21 (S 20) false 1), (none, .bin 22 .add (S 19) (S 21)), (none, .mv 3 (S 22))]) (.seq (.seq (.reg [(none, .faddr 23 (S 5) 1), (none, .load 24 (S 23) false 1)]) (.cond (S 24) (.reg [(none, .mv 25 (S 3)), (none, .bin 26 .add (S 25) (KS [32, 119, 97, 105, 116])), (none, .mv 3 (S 26))]) .skip)) c_spec_FormatChart_2)))) c_spec_FormatChart_n2)))
def c_spec_FormatChart_4 : ACode := .seq (.reg [(none, .keep [1, 3, 31, 32, 33] [1] [])]) (.reg [(none, .mv 70 (S 3)), (none, .bin 71 .add (S 70) (KS [10])), (none, .mv 3 (S 71))])
def c_spec_FormatChart_n4 : ACode := (.reg [(none, .bin 72 .add (S 33) (K 1)), (none, .mv 33 (S 72))])
def c_spec_FormatChart_3 : ACode := .seq (.reg [(none, .keep [1, 3, 31, 32, 33] [1] [])]) (.seq (.reg [(none, .bin 34 .lss (S 33) (S 32))]) (.seq (.cond (S 34) .skip (.exit 2)) (.seq (.block 3 (.seq (.reg [(none, .iaddr 35 (S 31) (S 33) 5), (none, .load 36 (S 35) true 5), (none, .alloc 7 [aI 0, aI 0, aI 0, aI 0, aB false]), (none, .store (S 7) (S 36) 5)]) (.seq (.drw [(some [59, 64], (none, .mv 37 (S 3))), (some [59, 64], (none, .bin 38 .add (S 37) (KS [99, 104, 97, 110, 110, 101, 108, 32]))), (some [59, 64], (none, .faddr 39 (S 1) 0)), (some [59, 64], (none, .load 40 (S 39) false 1)), (some [59, 64], (none, .faddr 41 (S 7) 0)), (some [59, 64], (none, .load 42 (S 41) false 1)), (some [59, 64], (none, .iaddr 43 (S 40) (S 42) 2)), (some [59, 64], (none, .faddr 44 (S 43) 0)), (some [59, 64], (none, .load 45 (S 44) false 1)), (some [59, 64], (none, .bin 46 .add (S 38) (S 45))), (some [59, 64], (none, .bin 47 .add (S 46) (KS [32]))), (some [59, 64], (none, .faddr 48 (S 1) 0)), (some [59, 64], (none, .load 49 (S 48) false 1)), (some [59, 64], (none, .faddr 50 (S 7) 1)), (some [59, 64], (none, .load 51 (S 50) false 1)), (some [59, 64], (none, .iaddr 52 (S 49) (S 51) 2)), (some [59, 64], (none, .faddr 53 (S 52) 0)), (some [59, 64], (none, .load 54 (S 53) false 1)), (some [59, 64], (none, .bin 55 .add (S 47) (S 54))), (some [59, 64], (none, .bin 56 .add (S 55) (KS [32]))), (some [], (none, .faddr 57 (S 7) 2)), (some [], (none, .load 58 (S 57) false 1)), (some [], (none, .call 59 50 [(S 58)])), (some [64], (none, .bin 60 .add (S 56) (S 59))), (some [64], (none, .bin 61 .add (S 60) (KS [32]))), (some [59], (none, .faddr 62 (S 7) 3)), (some [59], (none, .load 63 (S 62) false 1)), (some [], (none, .call 64 50 [(S 63)])), (some [], (none, .bin 65 .add (S 61) (S 64))), (some [], (none, .mv 3 (S 65)))]) (.seq (.seq (.reg [(none, .faddr 66 (S 7) 4), (none, .load 67 (S 66) false 1)]) (.cond (S 67) (.reg [(none, .mv 68 (S 3)), (none, .bin 69 .add (S 68) (KS [32, 109, 101, 101, 116])), (none, .mv 3 (S 69))]) .skip)) c_spec_FormatChart_4)))) c_spec_FormatChart_n4)))
def c_spec_FormatChart_n3 : ACode := (.seq (.reg [(none, .mv 73 (S 3)), (none, .mv 2 (S 73))]) .ret)
def c_spec_FormatChart_n1 : ACode := (.seq (.seq (.reg [(none, .faddr 30 (S 1) 1), (none, .load 31 (S 30) false 1), (none, .len 32 (S 31)), (none, .mv 33 (K 0))]) (.block 2 (.loop c_spec_FormatChart_3))) c_spec_FormatChart_n3)
def c_spec_FormatChart : ACode := (.seq (.reg [(none, .box 1 (S 0)), (none, .mv 2 (KS []))]) (.seq (.seq (.reg [(none, .load 8 (S 1) true 2), (none, .call 9 37 [(S 8)]), (none, .un 10 .not (S 9))]) (.cond (S 10) (.seq (.reg [(none, .mv 2 (KS []))]) .ret) .skip)) (.seq (.reg [(none, .mv 3 (KS []))]) (.seq (.seq (.reg [(none, .faddr 11 (S 1) 0), (none, .load 12 (S 11) false 1), (none, .len 13 (S 12)), (none, .mv 14 (K 0))]) (.block 0 (.loop c_spec_FormatChart_1))) c_spec_FormatChart_n1))))
theorem w_spec_FormatChart_2 (a0 : XChart) (v4 : Int) (k_spec_FormatChart_1 : (List UInt8) → Int → Option (List UInt8)) (hk_spec_FormatChart_1 : ∀ (v3 : List UInt8) (v4 : Int) zr, k_spec_FormatChart_1 v3 v4 = some zr → ∀ σ : St, σ.kept [1, 3, 12, 13, 14] [1] [] = ⟨[(1, vc (.pb 1 0)), (3, vc (aS v3)), (12, vc (aL (List.map XPoint.row a0.Points))), (13, vc (aI (a0.Points.length : Int))), (14, vc (aI v4))], [(1, [aL (List.map XPoint.row a0.Points), aL (List.map XSegment.row a0.Segments)])], []⟩ → go Tryd.prog (.code (.loop c_spec_FormatChart_1) :: [.blk 0, .code c_spec_FormatChart_n1]) (Ret [2] [.sc (.v (.str zr))]) .normal (some σ)) (v11 : List UInt8) (r : (List UInt8)) (h : f_spec_FormatChart_2 a0 v4 k_spec_FormatChart_1 v11 = some r) (σ : St) (hσ : σ.kept [1, 3, 12, 13, 14] [1] [] = ⟨[(1, vc (.pb 1 0)), (3, vc (aS v11)), (12, vc (aL (List.map XPoint.row a0.Points))), (13, vc (aI (a0.Points.length : Int))), (14, vc (aI v4))], [(1, [aL (List.map XPoint.row a0.Points), aL (List.map XSegment.row a0.Segments)])], []⟩) : go Tryd.prog (.code c_spec_FormatChart_2 :: [.blk 1, .code c_spec_FormatChart_n2, .code (.loop c_spec_FormatChart_1), .blk 0, .code c_spec_FormatChart_n1]) (Ret [2] [.sc (.v (.str r))]) .normal (some σ) := by
  unfold f_spec_FormatChart_2 at h
  obtain ⟨hg12, h⟩ := of_guard h
  try simp only [hσ, hg12, c_spec_FormatChart_2, c_spec_FormatChart_n2, Nat.reduceBEq, Nat.reduceMul, Nat.reduceAdd, Nat.reduceDiv, Int.reduceBEq, rules2, rulesX, rowsX]
  refine hk_spec_FormatChart_1 _ _ _ h _ ?_
  try simp only [hg12, Nat.reduceBEq, Nat.reduceMul, Nat.reduceAdd, Nat.reduceDiv, Int.reduceBEq, rules2, rulesX, rowsX, List.map_nil]
theorem w_spec_FormatChart_4 (a0 : XChart) (v14 : Int) (k_spec_FormatChart_3 : (List UInt8) → Int → Option (List UInt8)) (hk_spec_FormatChart_3 : ∀ (v13 : List UInt8) (v14 : Int) zr, k_spec_FormatChart_3 v13 v14 = some zr → ∀ σ : St, σ.kept [1, 3, 31, 32, 33] [1] [] = ⟨[(1, vc (.pb 1 0)), (3, vc (aS v13)), (31, vc (aL (List.map XSegment.row a0.Segments))), (32, vc (aI (a0.Segments.length : Int))), (33, vc (aI v14))], [(1, [aL (List.map XPoint.row a0.Points), aL (List.map XSegment.row a0.Segments)])], []⟩ → go Tryd.prog (.code (.loop c_spec_FormatChart_3) :: [.blk 2, .code c_spec_FormatChart_n3]) (Ret [2] [.sc (.v (.str zr))]) .normal (some σ)) (v31 : List UInt8) (r : (List UInt8)) (h : f_spec_FormatChart_4 a0 v14 k_spec_FormatChart_3 v31 = some r) (σ : St) (hσ : σ.kept [1, 3, 31, 32, 33] [1] [] = ⟨[(1, vc (.pb 1 0)), (3, vc (aS v31)), (31, vc (aL (List.map XSegment.row a0.Segments))), (32, vc (aI (a0.Segments.length : Int))), (33, vc (aI v14))], [(1, [aL (List.map XPoint.row a0.Points), aL (List.map XSegment.row a0.Segments)])], []⟩) : go Tryd.prog (.code c_spec_FormatChart_4 :: [.blk 3, .code c_spec_FormatChart_n4, .code (.loop c_spec_FormatChart_3), .blk 2, .code c_spec_FormatChart_n3]) (Ret [2] [.sc (.v (.str r))]) .normal (some σ) := by
  unfold f_spec_FormatChart_4 at h
  obtain ⟨hg32, h⟩ := of_guard h
  try simp only [hσ, hg32, c_spec_FormatChart_4, c_spec_FormatChart_n4, Nat.reduceBEq, Nat.reduceMul, Nat.reduceAdd, Nat.reduceDiv, Int.reduceBEq, rules2, rulesX, rowsX]
  refine hk_spec_FormatChart_3 _ _ _ h _ ?_
  try simp only [hg32, Nat.reduceBEq, Nat.reduceMul, Nat.reduceAdd, Nat.reduceDiv, Int.reduceBEq, rules2, rulesX, rowsX, List.map_nil]
theorem w_spec_FormatChart_3 (a0 : XChart) : ∀ (n : Nat) (v13 : List UInt8) (v14 : Int) (r : (List UInt8)), f_spec_FormatChart_3 a0 n v13 v14 = some r → ∀ σ : St, σ.kept [1, 3, 31, 32, 33] [1] [] = ⟨[(1, vc (.pb 1 0)), (3, vc (aS v13)), (31, vc (aL (List.map XSegment.row a0.Segments))), (32, vc (aI (a0.Segments.length : Int))), (33, vc (aI v14))], [(1, [aL (List.map XPoint.row a0.Points), aL (List.map XSegment.row a0.Segments)])], []⟩ → go Tryd.prog (.code (.loop c_spec_FormatChart_3) :: [.blk 2, .code c_spec_FormatChart_n3]) (Ret [2] [.sc (.v (.str r))]) .normal (some σ) := by
  intro n
  induction n with
  | zero => intro _ _ r h; cases h
  | succ n ih =>
    intro v13 v14 r h σ hσ
    rw [f_spec_FormatChart_3] at h
    refine go_round ?_
    rcases Bool.eq_false_or_eq_true (decide (v14 < (a0.Segments.length : Int))) with hb15 | hb15
    · rw [ite_t hb15] at h
      obtain ⟨x16, hx16, h⟩ := ob h
      try simp only [hσ, hb15, hx16, c_spec_FormatChart_3, Nat.reduceBEq, Nat.reduceMul, Nat.reduceAdd, Nat.reduceDiv, Int.reduceBEq, rules2, rulesX, rowsX]
      refine go_al rfl rfl ?_
      try simp only [hb15, hx16, Nat.reduceBEq, Nat.reduceMul, Nat.reduceAdd, Nat.reduceDiv, Int.reduceBEq, rules2, rulesX, rowsX]
      refine go_fr_of rfl ?_
      obtain ⟨hg17, h⟩ := of_guard h
      obtain ⟨x18, hx18, h⟩ := ob h
      obtain ⟨hg19, h⟩ := of_guard h
      obtain ⟨hg20, h⟩ := of_guard h
      try simp only [List.cons_append, List.nil_append] at hg20
      obtain ⟨x21, hx21, h⟩ := ob h
      obtain ⟨hg22, h⟩ := of_guard h
      try simp only [List.cons_append, List.nil_append] at hg22
      obtain ⟨hg23, h⟩ := of_guard h
      try simp only [List.cons_append, List.nil_append] at hg23
      obtain ⟨r24, hr24, h⟩ := ob h
      try simp only [hb15, hx16, hg17, hx18, hg19, hg20, hx21, hg22, hg23, Nat.reduceBEq, Nat.reduceMul, Nat.reduceAdd, Nat.reduceDiv, Int.reduceBEq, rules2, rulesX, rowsX]
      refine go_dcallI (w_spec_FormatInt _ _ hr24) rfl rfl (Nat.le_of_ble_eq_true rfl) ?_
      obtain ⟨hg25, h⟩ := of_guard h
      try simp only [List.cons_append, List.nil_append] at hg25
      obtain ⟨hg26, h⟩ := of_guard h
      try simp only [List.cons_append, List.nil_append] at hg26
      obtain ⟨r27, hr27, h⟩ := ob h
      try simp only [hb15, hx16, hg17, hx18, hg19, hg20, hx21, hg22, hg23, hg25, hg26, Nat.reduceBEq, Nat.reduceMul, Nat.reduceAdd, Nat.reduceDiv, Int.reduceBEq, rules2, rulesX, rowsX]
      refine go_dcallI (w_spec_FormatInt _ _ hr27) rfl rfl (Nat.le_of_ble_eq_true rfl) ?_
      obtain ⟨hg28, h⟩ := of_guard h
      try simp only [List.cons_append, List.nil_append] at hg28
      rcases Bool.eq_false_or_eq_true x16.Meet with hb29 | hb29
      · rw [ite_t hb29] at h
        obtain ⟨hg30, h⟩ := of_guard h
        try simp only [List.cons_append, List.nil_append] at hg30
        try simp only [hb15, hx16, hg17, hx18, hg19, hg20, hx21, hg22, hg23, hg25, hg26, hg28, hb29, hg30, Nat.reduceBEq, Nat.reduceMul, Nat.reduceAdd, Nat.reduceDiv, Int.reduceBEq, rules2, rulesX, rowsX]
        refine w_spec_FormatChart_4 _ _ (f_spec_FormatChart_3 a0 n) ih _ _ h _ ?_
        try simp only [hb15, hx16, hg17, hx18, hg19, hg20, hx21, hg22, hg23, hg25, hg26, hg28, hb29, hg30, Nat.reduceBEq, Nat.reduceMul, Nat.reduceAdd, Nat.reduceDiv, Int.reduceBEq, rules2, rulesX, rowsX, List.map_nil]
      · rw [ite_f hb29] at h
        try simp only [hb15, hx16, hg17, hx18, hg19, hg20, hx21, hg22, hg23, hg25, hg26, hg28, hb29, Nat.reduceBEq, Nat.reduceMul, Nat.reduceAdd, Nat.reduceDiv, Int.reduceBEq, rules2, rulesX, rowsX]
        refine w_spec_FormatChart_4 _ _ (f_spec_FormatChart_3 a0 n) ih _ _ h _ ?_
        try simp only [hb15, hx16, hg17, hx18, hg19, hg20, hx21, hg22, hg23, hg25, hg26, hg28, hb29, Nat.reduceBEq, Nat.reduceMul, Nat.reduceAdd, Nat.reduceDiv, Int.reduceBEq, rules2, rulesX, rowsX, List.map_nil]
    · rw [ite_f hb15] at h
      try simp only [hσ, hb15, c_spec_FormatChart_3, c_spec_FormatChart_n3, Nat.reduceBEq, Nat.reduceMul, Nat.reduceAdd, Nat.reduceDiv, Int.reduceBEq, rules2, rulesX, rowsX]
      cases h
      exact ⟨⟨rfl, trivial⟩, rfl⟩
theorem w_spec_FormatChart_1 (a0 : XChart) : ∀ (n : Nat) (v3 : List UInt8) (v4 : Int) (r : (List UInt8)), f_spec_FormatChart_1 a0 n v3 v4 = some r → ∀ σ : St, σ.kept [1, 3, 12, 13, 14] [1] [] = ⟨[(1, vc (.pb 1 0)), (3, vc (aS v3)), (12, vc (aL (List.map XPoint.row a0.Points))), (13, vc (aI (a0.Points.length : Int))), (14, vc (aI v4))], [(1, [aL (List.map XPoint.row a0.Points), aL (List.map XSegment.row a0.Segments)])], []⟩ → go Tryd.prog (.code (.loop c_spec_FormatChart_1) :: [.blk 0, .code c_spec_FormatChart_n1]) (Ret [2] [.sc (.v (.str r))]) .normal (some σ) := by
  intro n
  induction n with
  | zero => intro _ _ r h; cases h
  | succ n ih =>
    intro v3 v4 r h σ hσ
    rw [f_spec_FormatChart_1] at h
    refine go_round ?_
    rcases Bool.eq_false_or_eq_true (decide (v4 < (a0.Points.length : Int))) with hb5 | hb5
    · rw [ite_t hb5] at h
      obtain ⟨x6, hx6, h⟩ := ob h
      try simp only [hσ, hb5, hx6, c_spec_FormatChart_1, Nat.reduceBEq, Nat.reduceMul, Nat.reduceAdd, Nat.reduceDiv, Int.reduceBEq, rules2, rulesX, rowsX]
      refine go_al rfl rfl ?_
      obtain ⟨hg7, h⟩ := of_guard h
      obtain ⟨hg8, h⟩ := of_guard h
      rcases Bool.eq_false_or_eq_true x6.Wait with hb9 | hb9
      · rw [ite_t hb9] at h
        obtain ⟨hg10, h⟩ := of_guard h
        try simp only [List.cons_append, List.nil_append] at hg10
        try simp only [hb5, hx6, hg7, hg8, hb9, hg10, Nat.reduceBEq, Nat.reduceMul, Nat.reduceAdd, Nat.reduceDiv, Int.reduceBEq, rules2, rulesX, rowsX]
        refine w_spec_FormatChart_2 _ _ (f_spec_FormatChart_1 a0 n) ih _ _ h _ ?_
        try simp only [hb5, hx6, hg7, hg8, hb9, hg10, Nat.reduceBEq, Nat.reduceMul, Nat.reduceAdd, Nat.reduceDiv, Int.reduceBEq, rules2, rulesX, rowsX, List.map_nil]
      · rw [ite_f hb9] at h
        try simp only [hb5, hx6, hg7, hg8, hb9, Nat.reduceBEq, Nat.reduceMul, Nat.reduceAdd, Nat.reduceDiv, Int.reduceBEq, rules2, rulesX, rowsX]
        refine w_spec_FormatChart_2 _ _ (f_spec_FormatChart_1 a0 n) ih _ _ h _ ?_
        try simp only [hb5, hx6, hg7, hg8, hb9, Nat.reduceBEq, Nat.reduceMul, Nat.reduceAdd, Nat.reduceDiv, Int.reduceBEq, rules2, rulesX, rowsX, List.map_nil]
    · rw [ite_f hb5] at h
      try simp only [hσ, hb5, c_spec_FormatChart_1, c_spec_FormatChart_n1, Nat.reduceBEq, Nat.reduceMul, Nat.reduceAdd, Nat.reduceDiv, Int.reduceBEq, rules2, rulesX, rowsX]
      refine w_spec_FormatChart_3 _ _ _ _ _ h _ ?_
      try simp only [hb5, Nat.reduceBEq, Nat.reduceMul, Nat.reduceAdd, Nat.reduceDiv, Int.reduceBEq, rules2, rulesX, rowsX, List.map_nil]
theorem e_spec_FormatChart : entry Tryd.prog 38 = some (c_spec_FormatChart.strip, [2], 74) := by kernel_rfl
theorem w_spec_FormatChart (a0 : XChart) (r : (List UInt8)) (h : f_spec_FormatChart a0 = some r) : FC Tryd.prog 38 [.ag (XChart.row a0)] [.sc (.v (.str r))] := by
  unfold f_spec_FormatChart at h
  refine FC_go (σ := ⟨[(0, va [aL (List.map XPoint.row a0.Points), aL (List.map XSegment.row a0.Segments)])], [], []⟩) mixed e_spec_FormatChart rfl rfl ?_
  simp only [c_spec_FormatChart]
  try simp only [Nat.reduceBEq, Nat.reduceMul, Nat.reduceAdd, Nat.reduceDiv, Int.reduceBEq, rules2, rulesX, rowsX]
  refine go_bx rfl rfl rfl ?_
  obtain ⟨r1, hr1, h⟩ := ob h
  try simp only [Nat.reduceBEq, Nat.reduceMul, Nat.reduceAdd, Nat.reduceDiv, Int.reduceBEq, rules2, rulesX, rowsX]
  refine go_callI (w_spec_ChartOk _ _ hr1) rfl rfl (Nat.le_of_ble_eq_true rfl) ?_
  rcases Bool.eq_false_or_eq_true r1 with hb2 | hb2
  · rw [ite_t hb2] at h
    try simp only [hb2, Nat.reduceBEq, Nat.reduceMul, Nat.reduceAdd, Nat.reduceDiv, Int.reduceBEq, rules2, rulesX, rowsX]
    refine w_spec_FormatChart_1 _ _ _ _ _ h _ ?_
    try simp only [hb2, Nat.reduceBEq, Nat.reduceMul, Nat.reduceAdd, Nat.reduceDiv, Int.reduceBEq, rules2, rulesX, rowsX, List.map_nil]
  · rw [ite_f hb2] at h
    try simp only [hb2, Nat.reduceBEq, Nat.reduceMul, Nat.reduceAdd, Nat.reduceDiv, Int.reduceBEq, rules2, rulesX, rowsX]
    cases h
    exact ⟨⟨rfl, trivial⟩, rfl⟩
/- 16: spec_ParseChart -/
def c_spec_ParseChart_3 : ACode := .seq (.reg [(none, .keep [0, 2, 4, 7, 12, 13, 14, 54] [2, 4] [132096, 132160, 1216])]) (.cond (S 54) (.seq (.reg [(none, .load 76 (S 4) true 2), (none, .mv 77 (S 7)), (none, .call 78 36 [(S 76), (S 77)]), (none, .mv 75 (S 78)), (none, .extr 79 (S 75) 0), (none, .extr 80 (S 75) 1), (none, .alloc 8 [aI 0, aI 0, aI 0, aI 0, aB false]), (none, .store (S 8) (S 79) 5), (none, .mv 9 (S 80))]) (.seq (.seq (.reg [(none, .mv 81 (S 9)), (none, .un 82 .not (S 81))]) (.cond (S 82) (.seq (.reg [(none, .build 83 [.nil, .nil] []), (none, .store (S 2) (S 83) 2), (none, .mv 3 (KB false))]) .ret) .skip)) (.reg [(none, .faddr 84 (S 4) 1), (none, .load 85 (S 84) false 1), (none, .load 86 (S 8) true 5), (none, .bslice 87 5 [.int .i64 0, .int .i64 0, .int .i64 0, .int .i64 0, .bool false] 1 [(0, (S 86))]), (none, .app 88 5 40 (S 85) (S 87)), (none, .faddr 89 (S 4) 1), (none, .store (S 89) (S 88) 1)]))) (.seq (.reg [(none, .build 20 [.nil, .nil] []), (none, .store (S 2) (S 20) 2), (none, .mv 3 (KB false))]) .ret))
def c_spec_ParseChart_2 : ACode := .seq (.reg [(none, .keep [0, 2, 4, 7, 12, 13, 14, 21] [2, 4] [132096, 132160, 1216])]) (.cond (S 21) (.drw [(some [51], (none, .faddr 42 (S 4) 0)), (some [51], (none, .load 43 (S 42) false 1)), (some [], (none, .mv 44 (S 7))), (some [], (none, .iaddr 45 (S 44) (K 1) 1)), (some [], (none, .load 46 (S 45) false 1)), (some [], (none, .mv 47 (S 7))), (some [], (none, .len 48 (S 47))), (some [], (none, .bin 49 .eql (S 48) (K 3))), (some [], (none, .build 50 [aS [], aB false] [(0, 1, (S 46)), (1, 1, (S 49))])), (some [], (none, .bslice 51 2 [.str [], .bool false] 1 [(0, (S 50))])), (none, (none, .app 52 2 24 (S 43) (S 51))), (some [], (none, .faddr 53 (S 4) 0)), (none, (none, .store (S 53) (S 52) 1))]) (.seq (.reg [(none, .mv 55 (S 7)), (none, .iaddr 56 (S 55) (K 0) 1), (none, .load 57 (S 56) false 1), (none, .bin 58 .eql (S 57) (KS [99, 104, 97, 110, 110, 101, 108])), (none, .mv 59 (S 58)), (some (59, true), .mv 60 (S 7)), (some (59, true), .len 61 (S 60)), (some (59, true), .bin 62 .eql (S 61) (K 5)), (some (59, true), .mv 63 (S 62)), (some (63, false), .mv 64 (S 7)), (some (63, false), .len 65 (S 64)), (some (63, false), .bin 66 .eql (S 65) (K 6)), (some (59, true), .pick 67 (S 63) (KB true) (S 66)), (none, .pick 68 (S 59) (S 67) (KB false)), (none, .mv 69 (S 68)), (some (69, true), .faddr 70 (S 4) 1), (some (69, true), .load 71 (S 70) false 1), (some (69, true), .len 72 (S 71)), (some (69, true), .bin 73 .lss (S 72) (K 10)), (none, .pick 74 (S 69) (S 73) (KB false)), (none, .mv 54 (S 74))]) c_spec_ParseChart_3))
def c_spec_ParseChart_n2 : ACode := (.reg [(none, .bin 90 .add (S 14) (K 1)), (none, .mv 14 (S 90))])
def c_spec_ParseChart_1 : ACode := .seq (.reg [(none, .keep [0, 2, 4, 12, 13, 14] [2, 4] [132096, 132160])]) (.seq (.reg [(none, .bin 15 .lss (S 14) (S 13))]) (.seq (.cond (S 15) .skip (.exit 0)) (.seq (.block 1 (.seq (.reg [(none, .iaddr 16 (S 12) (S 14) 1), (none, .load 17 (S 16) false 1), (none, .mv 6 (S 17))]) (.seq (.reg [(none, .mv 18 (S 6)), (none, .call 19 21 [(S 18), (KS [32])]), (none, .mv 7 (S 19))]) (.block 2 (.seq (.reg [(none, .mv 22 (S 7)), (none, .iaddr 23 (S 22) (K 0) 1), (none, .load 24 (S 23) false 1), (none, .bin 25 .eql (S 24) (KS [112, 111, 105, 110, 116])), (none, .mv 26 (S 25)), (some (26, true), .mv 27 (S 7)), (some (26, true), .len 28 (S 27)), (some (26, true), .bin 29 .eql (S 28) (K 2)), (some (26, true), .mv 30 (S 29)), (some (30, false), .mv 31 (S 7)), (some (30, false), .len 32 (S 31)), (some (30, false), .bin 33 .eql (S 32) (K 3)), (some (26, true), .pick 34 (S 30) (KB true) (S 33)), (none, .pick 35 (S 26) (S 34) (KB false)), (none, .mv 36 (S 35)), (some (36, true), .faddr 37 (S 4) 0), (some (36, true), .load 38 (S 37) false 1), (some (36, true), .len 39 (S 38)), (some (36, true), .bin 40 .lss (S 39) (K 8)), (none, .pick 41 (S 36) (S 40) (KB false)), (none, .mv 21 (S 41))]) c_spec_ParseChart_2))))) c_spec_ParseChart_n2)))
def c_spec_ParseChart_4 : ACode := .seq (.reg [(none, .keep [2, 4, 99] [2, 4] [132096, 132160])]) (.cond (S 99) (.seq (.reg [(none, .build 100 [.nil, .nil] []), (none, .store (S 2) (S 100) 2), (none, .mv 3 (KB false))]) .ret) .skip)
def c_spec_ParseChart_n3 : ACode := (.seq (.reg [(none, .load 101 (S 4) true 2), (none, .store (S 2) (S 101) 2), (none, .mv 3 (KB true))]) .ret)
def c_spec_ParseChart_n1 : ACode := (.seq (.seq (.reg [(none, .load 91 (S 4) true 2), (none, .call 92 37 [(S 91)]), (none, .un 93 .not (S 92)), (none, .mv 94 (S 93)), (some (94, false), .load 95 (S 4) true 2), (some (94, false), .call 96 38 [(S 95)]), (some (94, false), .mv 97 (S 0)), (some (94, false), .bin 98 .neq (S 96) (S 97)), (none, .pick 99 (S 94) (KB true) (S 98))]) c_spec_ParseChart_4) c_spec_ParseChart_n3)
def c_spec_ParseChart : ACode := (.seq (.reg [(none, .alloc 2 [.nil, .nil]), (none, .mv 3 (KB false))]) (.seq (.reg [(none, .build 10 [.nil, .nil] []), (none, .alloc 4 [.nil, .nil]), (none, .store (S 4) (S 10) 2), (none, .ownb 4 0 132096 2), (none, .ownb 4 1 132160 5)]) (.seq (.seq (.reg [(none, .mv 11 (S 0)), (none, .call 12 30 [(S 11)]), (none, .len 13 (S 12)), (none, .mv 14 (K 0))]) (.block 0 (.loop c_spec_ParseChart_1))) c_spec_ParseChart_n1)))
theorem w_spec_ParseChart_3 (a0 : List UInt8) (r1 : (List (List UInt8))) (v2 : Int) (v3 : List XPoint) (v4 : List XSegment) (r7 : (List (List UInt8))) (k_spec_ParseChart_1 : Int → (List XPoint) → (List XSegment) → Option (XChart × Bool)) (hk_spec_ParseChart_1 : ∀ (v2 : Int) (v3 : List XPoint) (v4 : List XSegment) zr, k_spec_ParseChart_1 v2 v3 v4 = some zr → ∀ σ : St, σ.kept [0, 2, 4, 12, 13, 14] [2, 4] [132096, 132160] = ⟨[(0, vc (aS a0)), (2, vc (.pb 2 0)), (4, vc (.pb 4 0)), (12, vc (aL (List.map rS r1))), (13, vc (aI (r1.length : Int))), (14, vc (aI v2))], [(2, [.nil, .nil]), (4, [.own 132096, .own 132160])], [(132096, 2, List.map XPoint.row v3), (132160, 5, List.map XSegment.row v4)]⟩ → go Tryd.prog (.code (.loop c_spec_ParseChart_1) :: [.blk 0, .code c_spec_ParseChart_n1]) (Ret [.c 2 true 2, 3] [.ag [.o 2 (List.map XPoint.row zr.1.Points), .o 5 (List.map XSegment.row zr.1.Segments)], .sc (.v (.bool zr.2))]) .normal (some σ)) (v20 : Bool) (r : XChart × Bool) (h : f_spec_ParseChart_3 a0 r1 v2 v3 v4 r7 k_spec_ParseChart_1 v20 = some r) (σ : St) (hσ : σ.kept [0, 2, 4, 7, 12, 13, 14, 54] [2, 4] [132096, 132160, 1216] = ⟨[(0, vc (aS a0)), (2, vc (.pb 2 0)), (4, vc (.pb 4 0)), (7, vc (.own 1216)), (12, vc (aL (List.map rS r1))), (13, vc (aI (r1.length : Int))), (14, vc (aI v2)), (54, vc (aB v20))], [(2, [.nil, .nil]), (4, [.own 132096, .own 132160])], [(132096, 2, List.map XPoint.row v3), (132160, 5, List.map XSegment.row v4), (1216, 1, List.map rS r7)]⟩) : go Tryd.prog (.code c_spec_ParseChart_3 :: [.blk 2, .blk 1, .code c_spec_ParseChart_n2, .code (.loop c_spec_ParseChart_1), .blk 0, .code c_spec_ParseChart_n1]) (Ret [.c 2 true 2, 3] [.ag [.o 2 (List.map XPoint.row r.1.Points), .o 5 (List.map XSegment.row r.1.Segments)], .sc (.v (.bool r.2))]) .normal (some σ) := by
  unfold f_spec_ParseChart_3 at h
  rcases Bool.eq_false_or_eq_true v20 with hb21 | hb21
  · rw [ite_t hb21] at h
    obtain ⟨r22, hr22, h⟩ := ob h
    try simp only [hσ, hb21, c_spec_ParseChart_3, Nat.reduceBEq, Nat.reduceMul, Nat.reduceAdd, Nat.reduceDiv, Int.reduceBEq, rules2, rulesX, rowsX]
    refine go_call (w_spec_l25Segment _ _ _ hr22) rfl (flat_of rfl) rfl (Nat.le_of_ble_eq_true rfl) ?_
    try simp only [hb21, Nat.reduceBEq, Nat.reduceMul, Nat.reduceAdd, Nat.reduceDiv, Int.reduceBEq, rules2, rulesX, rowsX]
    refine go_al rfl rfl ?_
    rcases Bool.eq_false_or_eq_true r22.2 with hb23 | hb23
    · rw [ite_t hb23] at h
      try simp only [hb21, hb23, Nat.reduceBEq, Nat.reduceMul, Nat.reduceAdd, Nat.reduceDiv, Int.reduceBEq, rules2, rulesX, rowsX]
      refine go_bsl (es := List.map XSegment.row ([(⟨r22.1.A, r22.1.B, r22.1.Depth, r22.1.Minutes, r22.1.Meet⟩ : XSegment)] : List XSegment)) rfl rfl ?_
      obtain ⟨hg24, h⟩ := of_guard h
      try simp only [hb21, hb23, hg24, c_spec_ParseChart_n2, Nat.reduceBEq, Nat.reduceMul, Nat.reduceAdd, Nat.reduceDiv, Int.reduceBEq, rules2, rulesX, rowsX]
      refine hk_spec_ParseChart_1 _ _ _ _ h _ ?_
      try simp only [hb21, hb23, hg24, Nat.reduceBEq, Nat.reduceMul, Nat.reduceAdd, Nat.reduceDiv, Int.reduceBEq, rules2, rulesX, rowsX, List.map_nil]
    · rw [ite_f hb23] at h
      try simp only [hb21, hb23, Nat.reduceBEq, Nat.reduceMul, Nat.reduceAdd, Nat.reduceDiv, Int.reduceBEq, rules2, rulesX, rowsX]
      cases h
      try simp only [rulesR, Nat.reduceBEq, Nat.reduceMul, Nat.reduceAdd, Nat.reduceDiv, Int.reduceBEq, rules2, rulesX, rowsX]
      exact ⟨⟨⟨rfl, rfl, trivial⟩, rfl, trivial⟩, rfl⟩
  · rw [ite_f hb21] at h
    try simp only [hσ, hb21, c_spec_ParseChart_3, Nat.reduceBEq, Nat.reduceMul, Nat.reduceAdd, Nat.reduceDiv, Int.reduceBEq, rules2, rulesX, rowsX]
    cases h
    try simp only [rulesR, Nat.reduceBEq, Nat.reduceMul, Nat.reduceAdd, Nat.reduceDiv, Int.reduceBEq, rules2, rulesX, rowsX]
    exact ⟨⟨⟨rfl, rfl, trivial⟩, rfl, trivial⟩, rfl⟩
theorem w_spec_ParseChart_2 (a0 : List UInt8) (r1 : (List (List UInt8))) (v2 : Int) (v3 : List XPoint) (v4 : List XSegment) (r7 : (List (List UInt8))) (k_spec_ParseChart_1 : Int → (List XPoint) → (List XSegment) → Option (XChart × Bool)) (hk_spec_ParseChart_1 : ∀ (v2 : Int) (v3 : List XPoint) (v4 : List XSegment) zr, k_spec_ParseChart_1 v2 v3 v4 = some zr → ∀ σ : St, σ.kept [0, 2, 4, 12, 13, 14] [2, 4] [132096, 132160] = ⟨[(0, vc (aS a0)), (2, vc (.pb 2 0)), (4, vc (.pb 4 0)), (12, vc (aL (List.map rS r1))), (13, vc (aI (r1.length : Int))), (14, vc (aI v2))], [(2, [.nil, .nil]), (4, [.own 132096, .own 132160])], [(132096, 2, List.map XPoint.row v3), (132160, 5, List.map XSegment.row v4)]⟩ → go Tryd.prog (.code (.loop c_spec_ParseChart_1) :: [.blk 0, .code c_spec_ParseChart_n1]) (Ret [.c 2 true 2, 3] [.ag [.o 2 (List.map XPoint.row zr.1.Points), .o 5 (List.map XSegment.row zr.1.Segments)], .sc (.v (.bool zr.2))]) .normal (some σ)) (v12 : Bool) (r : XChart × Bool) (h : f_spec_ParseChart_2 a0 r1 v2 v3 v4 r7 k_spec_ParseChart_1 v12 = some r) (σ : St) (hσ : σ.kept [0, 2, 4, 7, 12, 13, 14, 21] [2, 4] [132096, 132160, 1216] = ⟨[(0, vc (aS a0)), (2, vc (.pb 2 0)), (4, vc (.pb 4 0)), (7, vc (.own 1216)), (12, vc (aL (List.map rS r1))), (13, vc (aI (r1.length : Int))), (14, vc (aI v2)), (21, vc (aB v12))], [(2, [.nil, .nil]), (4, [.own 132096, .own 132160])], [(132096, 2, List.map XPoint.row v3), (132160, 5, List.map XSegment.row v4), (1216, 1, List.map rS r7)]⟩) : go Tryd.prog (.code c_spec_ParseChart_2 :: [.blk 2, .blk 1, .code c_spec_ParseChart_n2, .code (.loop c_spec_ParseChart_1), .blk 0, .code c_spec_ParseChart_n1]) (Ret [.c 2 true 2, 3] [.ag [.o 2 (List.map XPoint.row r.1.Points), .o 5 (List.map XSegment.row r.1.Segments)], .sc (.v (.bool r.2))]) .normal (some σ) := by
  unfold f_spec_ParseChart_2 at h
  rcases Bool.eq_false_or_eq_true v12 with hb13 | hb13
  · rw [ite_t hb13] at h
    try simp only [hσ, hb13, c_spec_ParseChart_2, Nat.reduceBEq, Nat.reduceMul, Nat.reduceAdd, Nat.reduceDiv, Int.reduceBEq, rules2, rulesX, rowsX]
    refine go_fr_of rfl ?_
    obtain ⟨x14, hx14, h⟩ := ob h
    have hx14n := ix_get hx14
    try simp only [hb13, hx14, hx14n, Nat.reduceBEq, Nat.reduceMul, Nat.reduceAdd, Nat.reduceDiv, Int.reduceBEq, rules2, rulesX, rowsX]
    refine go_bsl (es := List.map XPoint.row ([(⟨x14, ((r7.length : Int) == (3 : Int))⟩ : XPoint)] : List XPoint)) rfl rfl ?_
    obtain ⟨hg15, h⟩ := of_guard h
    try simp only [hb13, hx14, hx14n, hg15, Nat.reduceBEq, Nat.reduceMul, Nat.reduceAdd, Nat.reduceDiv, Int.reduceBEq, rules2, rulesX, rowsX]
    refine go_fr_of rfl ?_
    try simp only [hb13, hx14, hx14n, hg15, Nat.reduceBEq, Nat.reduceMul, Nat.reduceAdd, Nat.reduceDiv, Int.reduceBEq, rules2, rulesX, rowsX]
    refine go_fr_of rfl ?_
    try simp only [hb13, hx14, hx14n, hg15, c_spec_ParseChart_n2, Nat.reduceBEq, Nat.reduceMul, Nat.reduceAdd, Nat.reduceDiv, Int.reduceBEq, rules2, rulesX, rowsX]
    refine hk_spec_ParseChart_1 _ _ _ _ h _ ?_
    try simp only [hb13, hx14, hx14n, hg15, Nat.reduceBEq, Nat.reduceMul, Nat.reduceAdd, Nat.reduceDiv, Int.reduceBEq, rules2, rulesX, rowsX, List.map_nil]
  · rw [ite_f hb13] at h
    obtain ⟨x16, hx16, h⟩ := ob h
    have hx16n := ix_get hx16
    rcases Bool.eq_false_or_eq_true (x16 == ([99, 104, 97, 110, 110, 101, 108] : List UInt8)) with hb17 | hb17
    · rw [ite_t hb17] at h
      rcases Bool.eq_false_or_eq_true ((r7.length : Int) == (5 : Int)) with hb18 | hb18
      · rw [ite_t hb18] at h
        try simp only [hσ, hb13, hx16, hx16n, hb17, hb18, c_spec_ParseChart_2, Nat.reduceBEq, Nat.reduceMul, Nat.reduceAdd, Nat.reduceDiv, Int.reduceBEq, rules2, rulesX, rowsX]
        refine w_spec_ParseChart_3 _ _ _ _ _ _ k_spec_ParseChart_1 hk_spec_ParseChart_1 _ _ h _ ?_
        try simp only [hb13, hx16, hx16n, hb17, hb18, Nat.reduceBEq, Nat.reduceMul, Nat.reduceAdd, Nat.reduceDiv, Int.reduceBEq, rules2, rulesX, rowsX, List.map_nil]
      · rw [ite_f hb18] at h
        rcases Bool.eq_false_or_eq_true ((r7.length : Int) == (6 : Int)) with hb19 | hb19
        · rw [ite_t hb19] at h
          try simp only [hσ, hb13, hx16, hx16n, hb17, hb18, hb19, c_spec_ParseChart_2, Nat.reduceBEq, Nat.reduceMul, Nat.reduceAdd, Nat.reduceDiv, Int.reduceBEq, rules2, rulesX, rowsX]
          refine w_spec_ParseChart_3 _ _ _ _ _ _ k_spec_ParseChart_1 hk_spec_ParseChart_1 _ _ h _ ?_
          try simp only [hb13, hx16, hx16n, hb17, hb18, hb19, Nat.reduceBEq, Nat.reduceMul, Nat.reduceAdd, Nat.reduceDiv, Int.reduceBEq, rules2, rulesX, rowsX, List.map_nil]
        · rw [ite_f hb19] at h
          try simp only [hσ, hb13, hx16, hx16n, hb17, hb18, hb19, c_spec_ParseChart_2, Nat.reduceBEq, Nat.reduceMul, Nat.reduceAdd, Nat.reduceDiv, Int.reduceBEq, rules2, rulesX, rowsX]
          refine w_spec_ParseChart_3 _ _ _ _ _ _ k_spec_ParseChart_1 hk_spec_ParseChart_1 _ _ h _ ?_
          try simp only [hb13, hx16, hx16n, hb17, hb18, hb19, Nat.reduceBEq, Nat.reduceMul, Nat.reduceAdd, Nat.reduceDiv, Int.reduceBEq, rules2, rulesX, rowsX, List.map_nil]
    · rw [ite_f hb17] at h
      try simp only [hσ, hb13, hx16, hx16n, hb17, c_spec_ParseChart_2, Nat.reduceBEq, Nat.reduceMul, Nat.reduceAdd, Nat.reduceDiv, Int.reduceBEq, rules2, rulesX, rowsX]
      refine w_spec_ParseChart_3 _ _ _ _ _ _ k_spec_ParseChart_1 hk_spec_ParseChart_1 _ _ h _ ?_
      try simp only [hb13, hx16, hx16n, hb17, Nat.reduceBEq, Nat.reduceMul, Nat.reduceAdd, Nat.reduceDiv, Int.reduceBEq, rules2, rulesX, rowsX, List.map_nil]
theorem w_spec_ParseChart_4 (v3 : List XPoint) (v4 : List XSegment) (v28 : Bool) (r : XChart × Bool) (h : f_spec_ParseChart_4 v3 v4 v28 = some r) (σ : St) (hσ : σ.kept [2, 4, 99] [2, 4] [132096, 132160] = ⟨[(2, vc (.pb 2 0)), (4, vc (.pb 4 0)), (99, vc (aB v28))], [(2, [.nil, .nil]), (4, [.own 132096, .own 132160])], [(132096, 2, List.map XPoint.row v3), (132160, 5, List.map XSegment.row v4)]⟩) : go Tryd.prog (.code c_spec_ParseChart_4 :: [.code c_spec_ParseChart_n3]) (Ret [.c 2 true 2, 3] [.ag [.o 2 (List.map XPoint.row r.1.Points), .o 5 (List.map XSegment.row r.1.Segments)], .sc (.v (.bool r.2))]) .normal (some σ) := by
  unfold f_spec_ParseChart_4 at h
  rcases Bool.eq_false_or_eq_true v28 with hb29 | hb29
  · rw [ite_t hb29] at h
    try simp only [hσ, hb29, c_spec_ParseChart_4, Nat.reduceBEq, Nat.reduceMul, Nat.reduceAdd, Nat.reduceDiv, Int.reduceBEq, rules2, rulesX, rowsX]
    cases h
    try simp only [rulesR, Nat.reduceBEq, Nat.reduceMul, Nat.reduceAdd, Nat.reduceDiv, Int.reduceBEq, rules2, rulesX, rowsX]
    exact ⟨⟨⟨rfl, rfl, trivial⟩, rfl, trivial⟩, rfl⟩
  · rw [ite_f hb29] at h
    try simp only [hσ, hb29, c_spec_ParseChart_4, c_spec_ParseChart_n3, Nat.reduceBEq, Nat.reduceMul, Nat.reduceAdd, Nat.reduceDiv, Int.reduceBEq, rules2, rulesX, rowsX]
    cases h
    try simp only [rulesR, Nat.reduceBEq, Nat.reduceMul, Nat.reduceAdd, Nat.reduceDiv, Int.reduceBEq, rules2, rulesX, rowsX]
    exact ⟨⟨⟨rfl, rfl, trivial⟩, rfl, trivial⟩, rfl⟩
theorem w_spec_ParseChart_1 (a0 : List UInt8) (r1 : (List (List UInt8))) : ∀ (n : Nat) (v2 : Int) (v3 : List XPoint) (v4 : List XSegment) (r : XChart × Bool), f_spec_ParseChart_1 a0 r1 n v2 v3 v4 = some r → ∀ σ : St, σ.kept [0, 2, 4, 12, 13, 14] [2, 4] [132096, 132160] = ⟨[(0, vc (aS a0)), (2, vc (.pb 2 0)), (4, vc (.pb 4 0)), (12, vc (aL (List.map rS r1))), (13, vc (aI (r1.length : Int))), (14, vc (aI v2))], [(2, [.nil, .nil]), (4, [.own 132096, .own 132160])], [(132096, 2, List.map XPoint.row v3), (132160, 5, List.map XSegment.row v4)]⟩ → go Tryd.prog (.code (.loop c_spec_ParseChart_1) :: [.blk 0, .code c_spec_ParseChart_n1]) (Ret [.c 2 true 2, 3] [.ag [.o 2 (List.map XPoint.row r.1.Points), .o 5 (List.map XSegment.row r.1.Segments)], .sc (.v (.bool r.2))]) .normal (some σ) := by
  intro n
  induction n with
  | zero => intro _ _ _ r h; cases h
  | succ n ih =>
    intro v2 v3 v4 r h σ hσ
    rw [f_spec_ParseChart_1] at h
    refine go_round ?_
    rcases Bool.eq_false_or_eq_true (decide (v2 < (r1.length : Int))) with hb5 | hb5
    · rw [ite_t hb5] at h
      obtain ⟨x6, hx6, h⟩ := ob h
      obtain ⟨r7, hr7, h⟩ := ob h
      try simp only [hσ, hb5, hx6, c_spec_ParseChart_1, Nat.reduceBEq, Nat.reduceMul, Nat.reduceAdd, Nat.reduceDiv, Int.reduceBEq, rules2, rulesX, rowsX]
      refine go_callI (w_spec_SplitAny _ _ _ hr7) rfl rfl (Nat.le_of_ble_eq_true rfl) ?_
      obtain ⟨x8, hx8, h⟩ := ob h
      have hx8n := ix_get hx8
      rcases Bool.eq_false_or_eq_true (x8 == ([112, 111, 105, 110, 116] : List UInt8)) with hb9 | hb9
      · rw [ite_t hb9] at h
        rcases Bool.eq_false_or_eq_true ((r7.length : Int) == (2 : Int)) with hb10 | hb10
        · rw [ite_t hb10] at h
          try simp only [hb5, hx6, hx8, hx8n, hb9, hb10, Nat.reduceBEq, Nat.reduceMul, Nat.reduceAdd, Nat.reduceDiv, Int.reduceBEq, rules2, rulesX, rowsX]
          refine w_spec_ParseChart_2 _ _ _ _ _ _ (f_spec_ParseChart_1 a0 r1 n) ih _ _ h _ ?_
          try simp only [hb5, hx6, hx8, hx8n, hb9, hb10, Nat.reduceBEq, Nat.reduceMul, Nat.reduceAdd, Nat.reduceDiv, Int.reduceBEq, rules2, rulesX, rowsX, List.map_nil]
        · rw [ite_f hb10] at h
          rcases Bool.eq_false_or_eq_true ((r7.length : Int) == (3 : Int)) with hb11 | hb11
          · rw [ite_t hb11] at h
            try simp only [hb5, hx6, hx8, hx8n, hb9, hb10, hb11, Nat.reduceBEq, Nat.reduceMul, Nat.reduceAdd, Nat.reduceDiv, Int.reduceBEq, rules2, rulesX, rowsX]
            refine w_spec_ParseChart_2 _ _ _ _ _ _ (f_spec_ParseChart_1 a0 r1 n) ih _ _ h _ ?_
            try simp only [hb5, hx6, hx8, hx8n, hb9, hb10, hb11, Nat.reduceBEq, Nat.reduceMul, Nat.reduceAdd, Nat.reduceDiv, Int.reduceBEq, rules2, rulesX, rowsX, List.map_nil]
          · rw [ite_f hb11] at h
            try simp only [hb5, hx6, hx8, hx8n, hb9, hb10, hb11, Nat.reduceBEq, Nat.reduceMul, Nat.reduceAdd, Nat.reduceDiv, Int.reduceBEq, rules2, rulesX, rowsX]
            refine w_spec_ParseChart_2 _ _ _ _ _ _ (f_spec_ParseChart_1 a0 r1 n) ih _ _ h _ ?_
            try simp only [hb5, hx6, hx8, hx8n, hb9, hb10, hb11, Nat.reduceBEq, Nat.reduceMul, Nat.reduceAdd, Nat.reduceDiv, Int.reduceBEq, rules2, rulesX, rowsX, List.map_nil]
      · rw [ite_f hb9] at h
        try simp only [hb5, hx6, hx8, hx8n, hb9, Nat.reduceBEq, Nat.reduceMul, Nat.reduceAdd, Nat.reduceDiv, Int.reduceBEq, rules2, rulesX, rowsX]
        refine w_spec_ParseChart_2 _ _ _ _ _ _ (f_spec_ParseChart_1 a0 r1 n) ih _ _ h _ ?_
        try simp only [hb5, hx6, hx8, hx8n, hb9, Nat.reduceBEq, Nat.reduceMul, Nat.reduceAdd, Nat.reduceDiv, Int.reduceBEq, rules2, rulesX, rowsX, List.map_nil]
    · rw [ite_f hb5] at h
      obtain ⟨r25, hr25, h⟩ := ob h
      try simp only [hσ, hb5, c_spec_ParseChart_1, c_spec_ParseChart_n1, Nat.reduceBEq, Nat.reduceMul, Nat.reduceAdd, Nat.reduceDiv, Int.reduceBEq, rules2, rulesX, rowsX]
      refine go_call (w_spec_ChartOk _ _ hr25) rfl (flat_of rfl) rfl (Nat.le_of_ble_eq_true rfl) ?_
      rcases Bool.eq_false_or_eq_true r25 with hb26 | hb26
      · rw [ite_t hb26] at h
        obtain ⟨r27, hr27, h⟩ := ob h
        try simp only [hb5, hb26, Nat.reduceBEq, Nat.reduceMul, Nat.reduceAdd, Nat.reduceDiv, Int.reduceBEq, rules2, rulesX, rowsX]
        refine go_call (w_spec_FormatChart _ _ hr27) rfl (flat_of rfl) rfl (Nat.le_of_ble_eq_true rfl) ?_
        try simp only [hb5, hb26, Nat.reduceBEq, Nat.reduceMul, Nat.reduceAdd, Nat.reduceDiv, Int.reduceBEq, rules2, rulesX, rowsX]
        refine w_spec_ParseChart_4 _ _ _ _ h _ ?_
        try simp only [hb5, hb26, Nat.reduceBEq, Nat.reduceMul, Nat.reduceAdd, Nat.reduceDiv, Int.reduceBEq, rules2, rulesX, rowsX, List.map_nil]
      · rw [ite_f hb26] at h
        try simp only [hb5, hb26, Nat.reduceBEq, Nat.reduceMul, Nat.reduceAdd, Nat.reduceDiv, Int.reduceBEq, rules2, rulesX, rowsX]
        refine w_spec_ParseChart_4 _ _ _ _ h _ ?_
        try simp only [hb5, hb26, Nat.reduceBEq, Nat.reduceMul, Nat.reduceAdd, Nat.reduceDiv, Int.reduceBEq, rules2, rulesX, rowsX, List.map_nil]
theorem e_spec_ParseChart : entry Tryd.prog 16 = some (c_spec_ParseChart.strip, [.c 2 true 2, 3], 102) := by kernel_rfl
theorem w_spec_ParseChart (a0 : List UInt8) (r : XChart × Bool) (h : f_spec_ParseChart a0 = some r) : FC Tryd.prog 16 [.sc (.str a0)] [.ag [.o 2 (List.map XPoint.row r.1.Points), .o 5 (List.map XSegment.row r.1.Segments)], .sc (.v (.bool r.2))] := by
  unfold f_spec_ParseChart at h
  refine FC_go (σ := ⟨[(0, vc (aS a0))], [], []⟩) mixed e_spec_ParseChart rfl rfl ?_
  simp only [c_spec_ParseChart]
  try simp only [Nat.reduceBEq, Nat.reduceMul, Nat.reduceAdd, Nat.reduceDiv, Int.reduceBEq, rules2, rulesX, rowsX]
  refine go_al rfl rfl ?_
  try simp only [Nat.reduceBEq, Nat.reduceMul, Nat.reduceAdd, Nat.reduceDiv, Int.reduceBEq, rules2, rulesX, rowsX]
  refine go_al rfl rfl ?_
  try simp only [Nat.reduceBEq, Nat.reduceMul, Nat.reduceAdd, Nat.reduceDiv, Int.reduceBEq, rules2, rulesX, rowsX]
  refine go_ownb' (cs' := [.own 132096, .nil]) rfl rfl rfl rfl ?_
  try simp only [Nat.reduceBEq, Nat.reduceMul, Nat.reduceAdd, Nat.reduceDiv, Int.reduceBEq, rules2, rulesX, rowsX]
  refine go_ownb' (cs' := [.own 132096, .own 132160]) rfl rfl rfl rfl ?_
  obtain ⟨r1, hr1, h⟩ := ob h
  try simp only [Nat.reduceBEq, Nat.reduceMul, Nat.reduceAdd, Nat.reduceDiv, Int.reduceBEq, rules2, rulesX, rowsX]
  refine go_callI (w_spec_SplitLines _ _ hr1) rfl rfl (Nat.le_of_ble_eq_true rfl) ?_
  try simp only [Nat.reduceBEq, Nat.reduceMul, Nat.reduceAdd, Nat.reduceDiv, Int.reduceBEq, rules2, rulesX, rowsX]
  refine w_spec_ParseChart_1 _ _ _ _ _ _ _ h _ ?_
  try simp only [Nat.reduceBEq, Nat.reduceMul, Nat.reduceAdd, Nat.reduceDiv, Int.reduceBEq, rules2, rulesX, rowsX, List.map_nil]
/- 25: impl_SplitAny -/
def c_impl_SplitAny_2 : ACode := .seq (.reg [(none, .keep [0, 1, 5, 6, 7] [] [512])]) (.reg [(none, .mv 13 (S 7)), (none, .bin 14 .add (S 13) (K 1)), (none, .mv 7 (S 14))])
def c_impl_SplitAny_1 : ACode := .seq (.reg [(none, .keep [0, 1, 5, 6, 7] [] [512])]) (.seq (.seq (.reg [(none, .mv 9 (S 7)), (none, .mv 10 (S 0)), (none, .slen 11 (S 10)), (none, .bin 12 .lss (S 9) (S 11))]) (.cond (S 12) .skip (.exit 0))) (.seq (.block 1 (.seq (.reg [(none, .mv 15 (S 1)), (none, .mv 16 (S 0)), (none, .mv 17 (S 7)), (none, .idx 18 (S 16) (S 17)), (none, .call 19 53 [(S 15), (S 18)]), (none, .bin 20 .geq (S 19) (K 0))]) (.cond (S 20) (.seq (.reg [(none, .mv 21 (S 5)), (none, .mv 22 (S 0)), (none, .mv 23 (S 6)), (none, .mv 24 (S 7)), (none, .sslc 25 (S 22) (some (S 23)) (some (S 24))), (none, .bslice 26 1 [.str []] 1 [(0, (S 25))]), (none, .app 27 1 16 (S 21) (S 26)), (none, .mv 5 (S 27))]) (.reg [(none, .mv 28 (S 7)), (none, .bin 29 .add (S 28) (K 1)), (none, .mv 6 (S 29))])) .skip))) c_impl_SplitAny_2))
def c_impl_SplitAny_n1 : ACode := (.seq (.reg [(none, .mv 30 (S 5)), (none, .mv 31 (S 0)), (none, .mv 32 (S 6)), (none, .sslc 33 (S 31) (some (S 32)) none), (none, .bslice 34 1 [.str []] 1 [(0, (S 33))]), (none, .app 35 1 16 (S 30) (S 34)), (none, .mv 4 (S 35))]) .ret)
def c_impl_SplitAny : ACode := (.seq (.reg [(none, .mv 4 KN)]) (.seq (.reg [(none, .bslice 8 1 [.str []] 0 []), (none, .mv 5 (S 8))]) (.seq (.reg [(none, .mv 6 (K 0))]) (.seq (.seq (.reg [(none, .mv 7 (K 0))]) (.block 0 (.loop c_impl_SplitAny_1))) c_impl_SplitAny_n1))))
theorem w_impl_SplitAny_2 (a0 : List UInt8) (a1 : List UInt8) (v2 : Int) (k_impl_SplitAny_1 : Int → Int → (List (List UInt8)) → Option (List (List UInt8))) (hk_impl_SplitAny_1 : ∀ (v1 : Int) (v2 : Int) (v3 : List (List UInt8)) zr, k_impl_SplitAny_1 v1 v2 v3 = some zr → ∀ σ : St, σ.kept [0, 1, 5, 6, 7] [] [512] = ⟨[(0, vc (aS a0)), (1, vc (aS a1)), (5, vc (.own 512)), (6, vc (aI v1)), (7, vc (aI v2))], [], [(512, 1, List.map rS v3)]⟩ → go Tryd.prog (.code (.loop c_impl_SplitAny_1) :: [.blk 0, .code c_impl_SplitAny_n1]) (Ret [4] [.sc (.o 1 (List.map rS zr))]) .normal (some σ)) (v10 : Int) (v11 : List (List UInt8)) (r : (List (List UInt8))) (h : f_impl_SplitAny_2 a0 a1 v2 k_impl_SplitAny_1 v10 v11 = some r) (σ : St) (hσ : σ.kept [0, 1, 5, 6, 7] [] [512] = ⟨[(0, vc (aS a0)), (1, vc (aS a1)), (5, vc (.own 512)), (6, vc (aI v10)), (7, vc (aI v2))], [], [(512, 1, List.map rS v11)]⟩) : go Tryd.prog (.code c_impl_SplitAny_2 :: [.code (.loop c_impl_SplitAny_1), .blk 0, .code c_impl_SplitAny_n1]) (Ret [4] [.sc (.o 1 (List.map rS r))]) .normal (some σ) := by
  unfold f_impl_SplitAny_2 at h
  try simp only [hσ, c_impl_SplitAny_2, Nat.reduceBEq, Nat.reduceMul, Nat.reduceAdd, Nat.reduceDiv, Int.reduceBEq, rules2, rulesX, rowsX]
  refine hk_impl_SplitAny_1 _ _ _ _ h _ ?_
  try simp only [Nat.reduceBEq, Nat.reduceMul, Nat.reduceAdd, Nat.reduceDiv, Int.reduceBEq, rules2, rulesX, rowsX, List.map_nil]
theorem w_impl_SplitAny_1 (a0 : List UInt8) (a1 : List UInt8) : ∀ (n : Nat) (v1 : Int) (v2 : Int) (v3 : List (List UInt8)) (r : (List (List UInt8))), f_impl_SplitAny_1 a0 a1 n v1 v2 v3 = some r → ∀ σ : St, σ.kept [0, 1, 5, 6, 7] [] [512] = ⟨[(0, vc (aS a0)), (1, vc (aS a1)), (5, vc (.own 512)), (6, vc (aI v1)), (7, vc (aI v2))], [], [(512, 1, List.map rS v3)]⟩ → go Tryd.prog (.code (.loop c_impl_SplitAny_1) :: [.blk 0, .code c_impl_SplitAny_n1]) (Ret [4] [.sc (.o 1 (List.map rS r))]) .normal (some σ) := by
  intro n
  induction n with
  | zero => intro _ _ _ r h; cases h
  | succ n ih =>
    intro v1 v2 v3 r h σ hσ
    rw [f_impl_SplitAny_1] at h
    refine go_round ?_
    rcases Bool.eq_false_or_eq_true (decide (v2 < (a0.length : Int))) with hb4 | hb4
    · rw [ite_t hb4] at h
      obtain ⟨b5, hb5, h⟩ := ob h
      obtain ⟨r6, hr6, h⟩ := ob h
      try simp only [hσ, hb4, hb5, c_impl_SplitAny_1, Nat.reduceBEq, Nat.reduceMul, Nat.reduceAdd, Nat.reduceDiv, Int.reduceBEq, rules2, rulesX, rowsX]
      refine go_callI (w_strings_IndexByte _ _ _ hr6) rfl rfl (Nat.le_of_ble_eq_true rfl) ?_
      rcases Bool.eq_false_or_eq_true (decide ((0 : Int) ≤ r6)) with hb7 | hb7
      · rw [ite_t hb7] at h
        obtain ⟨p8, hp8, h⟩ := ob h
        try simp only [hb4, hb5, hb7, hp8, Nat.reduceBEq, Nat.reduceMul, Nat.reduceAdd, Nat.reduceDiv, Int.reduceBEq, rules2, rulesX, rowsX]
        refine go_bsl (es := List.map rS ([((a0.drop p8.1).take (p8.2 - p8.1))] : List (List UInt8))) rfl rfl ?_
        obtain ⟨hg9, h⟩ := of_guard h
        try simp only [hb4, hb5, hb7, hp8, hg9, Nat.reduceBEq, Nat.reduceMul, Nat.reduceAdd, Nat.reduceDiv, Int.reduceBEq, rules2, rulesX, rowsX]
        refine w_impl_SplitAny_2 _ _ _ (f_impl_SplitAny_1 a0 a1 n) ih _ _ _ h _ ?_
        try simp only [hb4, hb5, hb7, hp8, hg9, Nat.reduceBEq, Nat.reduceMul, Nat.reduceAdd, Nat.reduceDiv, Int.reduceBEq, rules2, rulesX, rowsX, List.map_nil]
      · rw [ite_f hb7] at h
        try simp only [hb4, hb5, hb7, Nat.reduceBEq, Nat.reduceMul, Nat.reduceAdd, Nat.reduceDiv, Int.reduceBEq, rules2, rulesX, rowsX]
        refine w_impl_SplitAny_2 _ _ _ (f_impl_SplitAny_1 a0 a1 n) ih _ _ _ h _ ?_
        try simp only [hb4, hb5, hb7, Nat.reduceBEq, Nat.reduceMul, Nat.reduceAdd, Nat.reduceDiv, Int.reduceBEq, rules2, rulesX, rowsX, List.map_nil]
    · rw [ite_f hb4] at h
      obtain ⟨p12, hp12, h⟩ := ob h
      try simp only [hσ, hb4, hp12, c_impl_SplitAny_1, c_impl_SplitAny_n1, Nat.reduceBEq, Nat.reduceMul, Nat.reduceAdd, Nat.reduceDiv, Int.reduceBEq, rules2, rulesX, rowsX]
      refine go_bsl (es := List.map rS ([((a0.drop p12.1).take (p12.2 - p12.1))] : List (List UInt8))) rfl rfl ?_
      obtain ⟨hg13, h⟩ := of_guard h
      try simp only [hb4, hp12, hg13, Nat.reduceBEq, Nat.reduceMul, Nat.reduceAdd, Nat.reduceDiv, Int.reduceBEq, rules2, rulesX, rowsX]
      cases h
      exact ⟨⟨rfl, trivial⟩, rfl⟩
theorem e_impl_SplitAny : entry Tryd.prog 25 = some (c_impl_SplitAny.strip, [4], 36) := by kernel_rfl
theorem w_impl_SplitAny (a0 : List UInt8) (a1 : List UInt8) (r : (List (List UInt8))) (h : f_impl_SplitAny a0 a1 = some r) : FC Tryd.prog 25 [.sc (.str a0), .sc (.str a1)] [.sc (.o 1 (List.map rS r))] := by
  unfold f_impl_SplitAny at h
  refine FC_go (σ := ⟨[(0, vc (aS a0)), (1, vc (aS a1))], [], []⟩) mixed e_impl_SplitAny rfl rfl ?_
  simp only [c_impl_SplitAny]
  try simp only [Nat.reduceBEq, Nat.reduceMul, Nat.reduceAdd, Nat.reduceDiv, Int.reduceBEq, rules2, rulesX, rowsX]
  refine go_bsl (es := List.map rS ([] : List (List UInt8))) rfl rfl ?_
  try simp only [Nat.reduceBEq, Nat.reduceMul, Nat.reduceAdd, Nat.reduceDiv, Int.reduceBEq, rules2, rulesX, rowsX]
  refine w_impl_SplitAny_1 _ _ _ _ _ _ _ h _ ?_
  try simp only [Nat.reduceBEq, Nat.reduceMul, Nat.reduceAdd, Nat.reduceDiv, Int.reduceBEq, rules2, rulesX, rowsX, List.map_nil]
/- 32: impl_SplitLines -/
def c_impl_SplitLines : ACode := (.seq (.reg [(none, .mv 2 KN)]) (.seq (.reg [(none, .mv 4 (S 0)), (none, .call 5 25 [(S 4), (KS [10])]), (none, .frz 320), (none, .mv 3 (S 5))]) (.seq (.seq (.reg [(none, .mv 6 (S 3)), (none, .mv 7 (S 3)), (none, .len 8 (S 7)), (none, .bin 9 .sub (S 8) (K 1)), (none, .iaddr 10 (S 6) (S 9) 1), (none, .load 11 (S 10) false 1), (none, .bin 12 .eql (S 11) (KS []))]) (.cond (S 12) (.reg [(none, .mv 13 (S 3)), (none, .mv 14 (S 3)), (none, .len 15 (S 14)), (none, .bin 16 .sub (S 15) (K 1)), (none, .slc 17 1 (S 13) none (some (S 16)) none), (none, .mv 3 (S 17))]) .skip)) (.seq (.reg [(none, .mv 18 (S 3)), (none, .mv 2 (S 18))]) .ret))))
theorem e_impl_SplitLines : entry Tryd.prog 32 = some (c_impl_SplitLines.strip, [2], 19) := by kernel_rfl
theorem w_impl_SplitLines (a0 : List UInt8) (r : (List (List UInt8))) (h : f_impl_SplitLines a0 = some r) : FC Tryd.prog 32 [.sc (.str a0)] [.sc (.v (.sl (List.map rS r)))] := by
  unfold f_impl_SplitLines at h
  refine FC_go (σ := ⟨[(0, vc (aS a0))], [], []⟩) mixed e_impl_SplitLines rfl rfl ?_
  simp only [c_impl_SplitLines]
  obtain ⟨r1, hr1, h⟩ := ob h
  try simp only [Nat.reduceBEq, Nat.reduceMul, Nat.reduceAdd, Nat.reduceDiv, Int.reduceBEq, rules2, rulesX, rowsX]
  refine go_callI (w_impl_SplitAny _ _ _ hr1) rfl rfl (Nat.le_of_ble_eq_true rfl) ?_
  try simp only [Nat.reduceBEq, Nat.reduceMul, Nat.reduceAdd, Nat.reduceDiv, Int.reduceBEq, rules2, rulesX, rowsX]
  refine go_frz' rfl ?_
  obtain ⟨x2, hx2, h⟩ := ob h
  rcases Bool.eq_false_or_eq_true (x2 == ([] : List UInt8)) with hb3 | hb3
  · rw [ite_t hb3] at h
    obtain ⟨p4, hp4, h⟩ := ob h
    try simp only [hx2, hb3, hp4, Nat.reduceBEq, Nat.reduceMul, Nat.reduceAdd, Nat.reduceDiv, Int.reduceBEq, rules2, rulesX, rowsX]
    cases h
    exact ⟨⟨rfl, trivial⟩, rfl⟩
  · rw [ite_f hb3] at h
    try simp only [hx2, hb3, Nat.reduceBEq, Nat.reduceMul, Nat.reduceAdd, Nat.reduceDiv, Int.reduceBEq, rules2, rulesX, rowsX]
    cases h
    exact ⟨⟨rfl, trivial⟩, rfl⟩
/- 39: impl_pointOf -/
def c_impl_pointOf_1 : ACode := .seq (.reg [(none, .keep [0, 2, 4, 28] [2] [])]) (.cond (S 28) (.seq (.reg [(none, .build 29 [aS [], aB false] []), (none, .store (S 2) (S 29) 2), (none, .mv 3 (KB false))]) .ret) .skip)
def c_impl_pointOf_n1 : ACode := (.seq (.reg [(none, .mv 30 (S 0)), (none, .iaddr 31 (S 30) (K 1) 1), (none, .load 32 (S 31) false 1), (none, .mv 33 (S 4)), (none, .bin 34 .eql (S 33) (K 3)), (none, .build 35 [aS [], aB false] [(0, 1, (S 32)), (1, 1, (S 34))]), (none, .store (S 2) (S 35) 2), (none, .mv 3 (KB true))]) .ret)
def c_impl_pointOf : ACode := (.seq (.reg [(none, .alloc 2 [aS [], aB false]), (none, .mv 3 (KB false))]) (.seq (.reg [(none, .mv 5 (S 0)), (none, .len 6 (S 5)), (none, .mv 4 (S 6))]) (.seq (.seq (.reg [(none, .mv 7 (S 4)), (none, .bin 8 .lss (S 7) (K 2)), (none, .mv 9 (S 8)), (some (9, false), .mv 10 (S 4)), (some (9, false), .bin 11 .gtr (S 10) (K 3)), (none, .pick 12 (S 9) (KB true) (S 11)), (none, .mv 13 (S 12)), (some (13, false), .mv 14 (S 0)), (some (13, false), .iaddr 15 (S 14) (K 0) 1), (some (13, false), .load 16 (S 15) false 1), (some (13, false), .bin 17 .neq (S 16) (KS [112, 111, 105, 110, 116])), (none, .pick 18 (S 13) (KB true) (S 17)), (none, .mv 19 (S 18)), (some (19, false), .mv 20 (S 4)), (some (19, false), .bin 21 .eql (S 20) (K 3)), (some (19, false), .mv 22 (S 21)), (some (22, true), .mv 23 (S 0)), (some (22, true), .iaddr 24 (S 23) (K 2) 1), (some (22, true), .load 25 (S 24) false 1), (some (22, true), .bin 26 .neq (S 25) (KS [119, 97, 105, 116])), (some (19, false), .pick 27 (S 22) (S 26) (KB false)), (none, .pick 28 (S 19) (KB true) (S 27))]) c_impl_pointOf_1) c_impl_pointOf_n1)))
theorem w_impl_pointOf_1 (a0 : List (List UInt8)) (v7 : Bool) (r : XPoint × Bool) (h : f_impl_pointOf_1 a0 v7 = some r) (σ : St) (hσ : σ.kept [0, 2, 4, 28] [2] [] = ⟨[(0, vc (aL (List.map rS a0))), (2, vc (.pb 2 0)), (4, vc (aI (a0.length : Int))), (28, vc (aB v7))], [(2, [aS ([] : List UInt8), aB false])], []⟩) : go Tryd.prog (.code c_impl_pointOf_1 :: [.code c_impl_pointOf_n1]) (Ret [.c 2 true 2, 3] [.ag [.v (.str r.1.Name), .v (.bool r.1.Wait)], .sc (.v (.bool r.2))]) .normal (some σ) := by
  unfold f_impl_pointOf_1 at h
  rcases Bool.eq_false_or_eq_true v7 with hb8 | hb8
  · rw [ite_t hb8] at h
    try simp only [hσ, hb8, c_impl_pointOf_1, Nat.reduceBEq, Nat.reduceMul, Nat.reduceAdd, Nat.reduceDiv, Int.reduceBEq, rules2, rulesX, rowsX]
    cases h
    try simp only [rulesR, Nat.reduceBEq, Nat.reduceMul, Nat.reduceAdd, Nat.reduceDiv, Int.reduceBEq, rules2, rulesX, rowsX]
    exact ⟨⟨⟨rfl, rfl, trivial⟩, rfl, trivial⟩, rfl⟩
  · rw [ite_f hb8] at h
    obtain ⟨x9, hx9, h⟩ := ob h
    try simp only [hσ, hb8, hx9, c_impl_pointOf_1, c_impl_pointOf_n1, Nat.reduceBEq, Nat.reduceMul, Nat.reduceAdd, Nat.reduceDiv, Int.reduceBEq, rules2, rulesX, rowsX]
    cases h
    try simp only [rulesR, Nat.reduceBEq, Nat.reduceMul, Nat.reduceAdd, Nat.reduceDiv, Int.reduceBEq, rules2, rulesX, rowsX]
    exact ⟨⟨⟨rfl, rfl, trivial⟩, rfl, trivial⟩, rfl⟩
theorem e_impl_pointOf : entry Tryd.prog 39 = some (c_impl_pointOf.strip, [.c 2 true 2, 3], 36) := by kernel_rfl
theorem w_impl_pointOf (a0 : List (List UInt8)) (r : XPoint × Bool) (h : f_impl_pointOf a0 = some r) : FC Tryd.prog 39 [.sc (.sl (List.map rS a0))] [.ag [.v (.str r.1.Name), .v (.bool r.1.Wait)], .sc (.v (.bool r.2))] := by
  unfold f_impl_pointOf at h
  refine FC_go (σ := ⟨[(0, vc (aL (List.map rS a0)))], [], []⟩) mixed e_impl_pointOf rfl rfl ?_
  simp only [c_impl_pointOf]
  try simp only [Nat.reduceBEq, Nat.reduceMul, Nat.reduceAdd, Nat.reduceDiv, Int.reduceBEq, rules2, rulesX, rowsX]
  refine go_al rfl rfl ?_
  rcases Bool.eq_false_or_eq_true (decide ((a0.length : Int) < (2 : Int))) with hb1 | hb1
  · rw [ite_t hb1] at h
    try simp only [hb1, Nat.reduceBEq, Nat.reduceMul, Nat.reduceAdd, Nat.reduceDiv, Int.reduceBEq, rules2, rulesX, rowsX]
    refine w_impl_pointOf_1 _ _ _ h _ ?_
    try simp only [hb1, Nat.reduceBEq, Nat.reduceMul, Nat.reduceAdd, Nat.reduceDiv, Int.reduceBEq, rules2, rulesX, rowsX, List.map_nil]
  · rw [ite_f hb1] at h
    rcases Bool.eq_false_or_eq_true (decide ((3 : Int) < (a0.length : Int))) with hb2 | hb2
    · rw [ite_t hb2] at h
      try simp only [hb1, hb2, Nat.reduceBEq, Nat.reduceMul, Nat.reduceAdd, Nat.reduceDiv, Int.reduceBEq, rules2, rulesX, rowsX]
      refine w_impl_pointOf_1 _ _ _ h _ ?_
      try simp only [hb1, hb2, Nat.reduceBEq, Nat.reduceMul, Nat.reduceAdd, Nat.reduceDiv, Int.reduceBEq, rules2, rulesX, rowsX, List.map_nil]
    · rw [ite_f hb2] at h
      obtain ⟨x3, hx3, h⟩ := ob h
      rcases Bool.eq_false_or_eq_true (x3 == ([112, 111, 105, 110, 116] : List UInt8)) with hb4 | hb4
      · rw [ite_t hb4] at h
        rcases Bool.eq_false_or_eq_true ((a0.length : Int) == (3 : Int)) with hb5 | hb5
        · rw [ite_t hb5] at h
          obtain ⟨x6, hx6, h⟩ := ob h
          try simp only [hb1, hb2, hx3, hb4, hb5, hx6, Nat.reduceBEq, Nat.reduceMul, Nat.reduceAdd, Nat.reduceDiv, Int.reduceBEq, rules2, rulesX, rowsX]
          refine w_impl_pointOf_1 _ _ _ h _ ?_
          try simp only [hb1, hb2, hx3, hb4, hb5, hx6, Nat.reduceBEq, Nat.reduceMul, Nat.reduceAdd, Nat.reduceDiv, Int.reduceBEq, rules2, rulesX, rowsX, List.map_nil]
        · rw [ite_f hb5] at h
          try simp only [hb1, hb2, hx3, hb4, hb5, Nat.reduceBEq, Nat.reduceMul, Nat.reduceAdd, Nat.reduceDiv, Int.reduceBEq, rules2, rulesX, rowsX]
          refine w_impl_pointOf_1 _ _ _ h _ ?_
          try simp only [hb1, hb2, hx3, hb4, hb5, Nat.reduceBEq, Nat.reduceMul, Nat.reduceAdd, Nat.reduceDiv, Int.reduceBEq, rules2, rulesX, rowsX, List.map_nil]
      · rw [ite_f hb4] at h
        try simp only [hb1, hb2, hx3, hb4, Nat.reduceBEq, Nat.reduceMul, Nat.reduceAdd, Nat.reduceDiv, Int.reduceBEq, rules2, rulesX, rowsX]
        refine w_impl_pointOf_1 _ _ _ h _ ?_
        try simp only [hb1, hb2, hx3, hb4, Nat.reduceBEq, Nat.reduceMul, Nat.reduceAdd, Nat.reduceDiv, Int.reduceBEq, rules2, rulesX, rowsX, List.map_nil]
/- 26: impl_parseNumbers -/
def c_impl_parseNumbers_1 : ACode := .seq (.reg [(none, .keep [4, 10, 11, 12] [] [576])]) (.seq (.reg [(none, .bin 13 .lss (S 12) (S 11))]) (.seq (.cond (S 13) .skip (.exit 0)) (.seq (.block 1 (.seq (.reg [(none, .iaddr 14 (S 10) (S 12) 1), (none, .load 15 (S 14) false 1), (none, .mv 6 (S 15))]) (.seq (.reg [(none, .mv 17 (S 6)), (none, .call 18 54 [(S 17)]), (none, .mv 16 (S 18)), (none, .extr 19 (S 16) 0), (none, .extr 20 (S 16) 1), (none, .mv 7 (S 19)), (none, .mv 8 (S 20))]) (.seq (.seq (.reg [(none, .mv 21 (S 8)), (none, .un 22 .not (S 21))]) (.cond (S 22) (.seq (.reg [(none, .mv 2 KN), (none, .mv 3 (KB false))]) .ret) .skip)) (.reg [(none, .mv 23 (S 4)), (none, .mv 24 (S 7)), (none, .bslice 25 1 [.int .i64 0] 1 [(0, (S 24))]), (none, .app 26 1 8 (S 23) (S 25)), (none, .mv 4 (S 26))]))))) (.reg [(none, .bin 27 .add (S 12) (K 1)), (none, .mv 12 (S 27))]))))
def c_impl_parseNumbers_n1 : ACode := (.seq (.reg [(none, .mv 28 (S 4)), (none, .mv 2 (S 28)), (none, .mv 3 (KB true))]) .ret)
def c_impl_parseNumbers : ACode := (.seq (.reg [(none, .mv 2 KN), (none, .mv 3 (KB false))]) (.seq (.reg [(none, .bslice 9 1 [.int .i64 0] 0 []), (none, .mv 4 (S 9))]) (.seq (.seq (.reg [(none, .mv 10 (S 0)), (none, .len 11 (S 10)), (none, .mv 12 (K 0))]) (.block 0 (.loop c_impl_parseNumbers_1))) c_impl_parseNumbers_n1)))
theorem w_impl_parseNumbers_1 (a0 : List (List UInt8)) : ∀ (n : Nat) (v1 : Int) (v2 : List Int) (r : (List Int) × Bool), f_impl_parseNumbers_1 a0 n v1 v2 = some r → ∀ σ : St, σ.kept [4, 10, 11, 12] [] [576] = ⟨[(4, vc (.own 576)), (10, vc (aL (List.map rS a0))), (11, vc (aI (a0.length : Int))), (12, vc (aI v1))], [], [(576, 1, List.map rI v2)]⟩ → go Tryd.prog (.code (.loop c_impl_parseNumbers_1) :: [.blk 0, .code c_impl_parseNumbers_n1]) (Ret [2, 3] [.sc (.o 1 (List.map rI r.1)), .sc (.v (.bool r.2))]) .normal (some σ) := by
  intro n
  induction n with
  | zero => intro _ _ r h; cases h
  | succ n ih =>
    intro v1 v2 r h σ hσ
    rw [f_impl_parseNumbers_1] at h
    refine go_round ?_
    rcases Bool.eq_false_or_eq_true (decide (v1 < (a0.length : Int))) with hb3 | hb3
    · rw [ite_t hb3] at h
      obtain ⟨x4, hx4, h⟩ := ob h
      obtain ⟨r5, hr5, h⟩ := ob h
      try simp only [hσ, hb3, hx4, c_impl_parseNumbers_1, Nat.reduceBEq, Nat.reduceMul, Nat.reduceAdd, Nat.reduceDiv, Int.reduceBEq, rules2, rulesX, rowsX]
      refine go_callI (w_impl_ParseInt _ _ hr5) rfl rfl (Nat.le_of_ble_eq_true rfl) ?_
      rcases Bool.eq_false_or_eq_true r5.2 with hb6 | hb6
      · rw [ite_t hb6] at h
        try simp only [hb3, hx4, hb6, Nat.reduceBEq, Nat.reduceMul, Nat.reduceAdd, Nat.reduceDiv, Int.reduceBEq, rules2, rulesX, rowsX]
        refine go_bsl (es := List.map rI ([r5.1] : List Int)) rfl rfl ?_
        obtain ⟨hg7, h⟩ := of_guard h
        try simp only [hb3, hx4, hb6, hg7, Nat.reduceBEq, Nat.reduceMul, Nat.reduceAdd, Nat.reduceDiv, Int.reduceBEq, rules2, rulesX, rowsX]
        refine ih _ _ _ h _ ?_
        try simp only [hb3, hx4, hb6, hg7, Nat.reduceBEq, Nat.reduceMul, Nat.reduceAdd, Nat.reduceDiv, Int.reduceBEq, rules2, rulesX, rowsX, List.map_nil]
      · rw [ite_f hb6] at h
        try simp only [hb3, hx4, hb6, Nat.reduceBEq, Nat.reduceMul, Nat.reduceAdd, Nat.reduceDiv, Int.reduceBEq, rules2, rulesX, rowsX]
        cases h
        exact ⟨⟨rfl, rfl, trivial⟩, rfl⟩
    · rw [ite_f hb3] at h
      try simp only [hσ, hb3, c_impl_parseNumbers_1, c_impl_parseNumbers_n1, Nat.reduceBEq, Nat.reduceMul, Nat.reduceAdd, Nat.reduceDiv, Int.reduceBEq, rules2, rulesX, rowsX]
      cases h
      exact ⟨⟨rfl, rfl, trivial⟩, rfl⟩
theorem e_impl_parseNumbers : entry Tryd.prog 26 = some (c_impl_parseNumbers.strip, [2, 3], 29) := by kernel_rfl
theorem w_impl_parseNumbers (a0 : List (List UInt8)) (r : (List Int) × Bool) (h : f_impl_parseNumbers a0 = some r) : FC Tryd.prog 26 [.sc (.sl (List.map rS a0))] [.sc (.o 1 (List.map rI r.1)), .sc (.v (.bool r.2))] := by
  unfold f_impl_parseNumbers at h
  refine FC_go (σ := ⟨[(0, vc (aL (List.map rS a0)))], [], []⟩) mixed e_impl_parseNumbers rfl rfl ?_
  simp only [c_impl_parseNumbers]
  try simp only [Nat.reduceBEq, Nat.reduceMul, Nat.reduceAdd, Nat.reduceDiv, Int.reduceBEq, rules2, rulesX, rowsX]
  refine go_bsl (es := List.map rI ([] : List Int)) rfl rfl ?_
  try simp only [Nat.reduceBEq, Nat.reduceMul, Nat.reduceAdd, Nat.reduceDiv, Int.reduceBEq, rules2, rulesX, rowsX]
  refine w_impl_parseNumbers_1 _ _ _ _ _ h _ ?_
  try simp only [Nat.reduceBEq, Nat.reduceMul, Nat.reduceAdd, Nat.reduceDiv, Int.reduceBEq, rules2, rulesX, rowsX, List.map_nil]
/- 66: impl_PointNamed -/
def c_impl_PointNamed_1 : ACode := .seq (.reg [(none, .keep [1, 8, 9, 10] [] [])]) (.seq (.reg [(none, .bin 11 .lss (S 10) (S 9))]) (.seq (.cond (S 11) .skip (.exit 0)) (.seq (.block 1 (.seq (.reg [(none, .mv 12 (S 10)), (none, .iaddr 13 (S 8) (S 10) 2), (none, .load 14 (S 13) true 2), (none, .alloc 6 [aS [], aB false]), (none, .mv 5 (S 12)), (none, .store (S 6) (S 14) 2)]) (.seq (.reg [(none, .faddr 15 (S 6) 0), (none, .load 16 (S 15) false 1), (none, .mv 17 (S 1)), (none, .bin 18 .eql (S 16) (S 17))]) (.cond (S 18) (.seq (.reg [(none, .mv 19 (S 5)), (none, .mv 4 (S 19))]) .ret) .skip)))) (.reg [(none, .bin 20 .add (S 10) (K 1)), (none, .mv 10 (S 20))]))))
def c_impl_PointNamed_n1 : ACode := (.seq (.reg [(none, .mv 4 (K (-1)))]) .ret)
def c_impl_PointNamed : ACode := (.seq (.reg [(none, .box 2 (S 0)), (none, .mv 4 (K 0))]) (.seq (.seq (.reg [(none, .faddr 7 (S 2) 0), (none, .load 8 (S 7) false 1), (none, .len 9 (S 8)), (none, .mv 10 (K 0))]) (.block 0 (.loop c_impl_PointNamed_1))) c_impl_PointNamed_n1))
theorem w_impl_PointNamed_1 (a1 : List UInt8) (a0 : XChart) : ∀ (n : Nat) (v1 : Int) (r : Int), f_impl_PointNamed_1 a1 a0 n v1 = some r → ∀ σ : St, σ.kept [1, 8, 9, 10] [] [] = ⟨[(1, vc (aS a1)), (8, vc (aL (List.map XPoint.row a0.Points))), (9, vc (aI (a0.Points.length : Int))), (10, vc (aI v1))], [], []⟩ → go Tryd.prog (.code (.loop c_impl_PointNamed_1) :: [.blk 0, .code c_impl_PointNamed_n1]) (Ret [4] [.sc (.v (.int .i64 r))]) .normal (some σ) := by
  intro n
  induction n with
  | zero => intro _ r h; cases h
  | succ n ih =>
    intro v1 r h σ hσ
    rw [f_impl_PointNamed_1] at h
    refine go_round ?_
    rcases Bool.eq_false_or_eq_true (decide (v1 < (a0.Points.length : Int))) with hb2 | hb2
    · rw [ite_t hb2] at h
      obtain ⟨x3, hx3, h⟩ := ob h
      try simp only [hσ, hb2, hx3, c_impl_PointNamed_1, Nat.reduceBEq, Nat.reduceMul, Nat.reduceAdd, Nat.reduceDiv, Int.reduceBEq, rules2, rulesX, rowsX]
      refine go_al rfl rfl ?_
      rcases Bool.eq_false_or_eq_true (x3.Name == a1) with hb4 | hb4
      · rw [ite_t hb4] at h
        try simp only [hb2, hx3, hb4, Nat.reduceBEq, Nat.reduceMul, Nat.reduceAdd, Nat.reduceDiv, Int.reduceBEq, rules2, rulesX, rowsX]
        cases h
        exact ⟨⟨rfl, trivial⟩, rfl⟩
      · rw [ite_f hb4] at h
        try simp only [hb2, hx3, hb4, Nat.reduceBEq, Nat.reduceMul, Nat.reduceAdd, Nat.reduceDiv, Int.reduceBEq, rules2, rulesX, rowsX]
        refine ih _ _ h _ ?_
        try simp only [hb2, hx3, hb4, Nat.reduceBEq, Nat.reduceMul, Nat.reduceAdd, Nat.reduceDiv, Int.reduceBEq, rules2, rulesX, rowsX, List.map_nil]
    · rw [ite_f hb2] at h
      try simp only [hσ, hb2, c_impl_PointNamed_1, c_impl_PointNamed_n1, Nat.reduceBEq, Nat.reduceMul, Nat.reduceAdd, Nat.reduceDiv, Int.reduceBEq, rules2, rulesX, rowsX]
      cases h
      exact ⟨⟨rfl, trivial⟩, rfl⟩
theorem e_impl_PointNamed : entry Tryd.prog 66 = some (c_impl_PointNamed.strip, [4], 21) := by kernel_rfl
theorem w_impl_PointNamed (a0 : XChart) (a1 : List UInt8) (r : Int) (h : f_impl_PointNamed a0 a1 = some r) : FC Tryd.prog 66 [.ag (XChart.row a0), .sc (.str a1)] [.sc (.v (.int .i64 r))] := by
  unfold f_impl_PointNamed at h
  refine FC_go (σ := ⟨[(0, va [aL (List.map XPoint.row a0.Points), aL (List.map XSegment.row a0.Segments)]), (1, vc (aS a1))], [], []⟩) mixed e_impl_PointNamed rfl rfl ?_
  simp only [c_impl_PointNamed]
  try simp only [Nat.reduceBEq, Nat.reduceMul, Nat.reduceAdd, Nat.reduceDiv, Int.reduceBEq, rules2, rulesX, rowsX]
  refine go_bx rfl rfl rfl ?_
  try simp only [Nat.reduceBEq, Nat.reduceMul, Nat.reduceAdd, Nat.reduceDiv, Int.reduceBEq, rules2, rulesX, rowsX]
  refine w_impl_PointNamed_1 _ _ _ _ _ h _ ?_
  try simp only [Nat.reduceBEq, Nat.reduceMul, Nat.reduceAdd, Nat.reduceDiv, Int.reduceBEq, rules2, rulesX, rowsX, List.map_nil]
/- 40: impl_segmentOf -/
def c_impl_segmentOf_1 : ACode := .seq (.reg [(none, .keep [1, 2, 4, 6, 32] [2, 4] [])]) (.cond (S 32) (.seq (.reg [(none, .build 33 [aI 0, aI 0, aI 0, aI 0, aB false] []), (none, .store (S 4) (S 33) 5), (none, .mv 5 (KB false))]) .ret) .skip)
def c_impl_segmentOf_n1 : ACode := (.seq (.reg [(none, .mv 35 (S 1)), (none, .slc 36 1 (S 35) (some (K 3)) (some (K 5)) (some (K 5))), (none, .call 37 26 [(S 36)]), (none, .mv 34 (S 37)), (none, .extr 38 (S 34) 0), (none, .extr 39 (S 34) 1), (none, .mv 7 (S 38)), (none, .mv 8 (S 39))]) (.seq (.seq (.reg [(none, .mv 40 (S 8)), (none, .un 41 .not (S 40))]) (.cond (S 41) (.seq (.reg [(none, .build 42 [aI 0, aI 0, aI 0, aI 0, aB false] []), (none, .store (S 4) (S 42) 5), (none, .mv 5 (KB false))]) .ret) .skip)) (.seq (.drw [(some [], (none, .load 43 (S 2) true 2)), (some [], (none, .mv 44 (S 1))), (some [], (none, .iaddr 45 (S 44) (K 1) 1)), (some [], (none, .load 46 (S 45) false 1)), (some [], (none, .call 47 66 [(S 43), (S 46)])), (some [47], (none, .load 48 (S 2) true 2)), (some [47], (none, .mv 49 (S 1))), (some [47], (none, .iaddr 50 (S 49) (K 2) 1)), (some [47], (none, .load 51 (S 50) false 1)), (some [], (none, .call 52 66 [(S 48), (S 51)])), (some [47, 52], (none, .mv 53 (S 7))), (some [47, 52], (none, .iaddr 54 (S 53) (K 0) 1)), (some [47, 52], (none, .load 55 (S 54) false 1)), (some [47, 52], (none, .mv 56 (S 7))), (some [47, 52], (none, .iaddr 57 (S 56) (K 1) 1)), (some [47, 52], (none, .load 58 (S 57) false 1)), (some [47, 52], (none, .mv 59 (S 6))), (some [47, 52], (none, .bin 60 .eql (S 59) (K 6))), (some [], (none, .build 61 [aI 0, aI 0, aI 0, aI 0, aB false] [(0, 1, (S 47)), (1, 1, (S 52)), (2, 1, (S 55)), (3, 1, (S 58)), (4, 1, (S 60))])), (none, (none, .store (S 4) (S 61) 5)), (some [], (none, .mv 5 (KB true)))]) .ret)))
def c_impl_segmentOf : ACode := (.seq (.reg [(none, .box 2 (S 0)), (none, .alloc 4 [aI 0, aI 0, aI 0, aI 0, aB false]), (none, .mv 5 (KB false))]) (.seq (.reg [(none, .mv 9 (S 1)), (none, .len 10 (S 9)), (none, .mv 6 (S 10))]) (.seq (.seq (.reg [(none, .mv 11 (S 6)), (none, .bin 12 .lss (S 11) (K 5)), (none, .mv 13 (S 12)), (some (13, false), .mv 14 (S 6)), (some (13, false), .bin 15 .gtr (S 14) (K 6)), (none, .pick 16 (S 13) (KB true) (S 15)), (none, .mv 17 (S 16)), (some (17, false), .mv 18 (S 1)), (some (17, false), .iaddr 19 (S 18) (K 0) 1), (some (17, false), .load 20 (S 19) false 1), (some (17, false), .bin 21 .neq (S 20) (KS [99, 104, 97, 110, 110, 101, 108])), (none, .pick 22 (S 17) (KB true) (S 21)), (none, .mv 23 (S 22)), (some (23, false), .mv 24 (S 6)), (some (23, false), .bin 25 .eql (S 24) (K 6)), (some (23, false), .mv 26 (S 25)), (some (26, true), .mv 27 (S 1)), (some (26, true), .iaddr 28 (S 27) (K 5) 1), (some (26, true), .load 29 (S 28) false 1), (some (26, true), .bin 30 .neq (S 29) (KS [109, 101, 101, 116])), (some (23, false), .pick 31 (S 26) (S 30) (KB false)), (none, .pick 32 (S 23) (KB true) (S 31))]) c_impl_segmentOf_1) c_impl_segmentOf_n1)))
theorem w_impl_segmentOf_1 (a1 : List (List UInt8)) (a0 : XChart) (v7 : Bool) (r : XSegment × Bool) (h : f_impl_segmentOf_1 a1 a0 v7 = some r) (σ : St) (hσ : σ.kept [1, 2, 4, 6, 32] [2, 4] [] = ⟨[(1, vc (aL (List.map rS a1))), (2, vc (.pb 2 0)), (4, vc (.pb 4 0)), (6, vc (aI (a1.length : Int))), (32, vc (aB v7))], [(2, [aL (List.map XPoint.row a0.Points), aL (List.map XSegment.row a0.Segments)]), (4, [aI (0 : Int), aI (0 : Int), aI (0 : Int), aI (0 : Int), aB false])], []⟩) : go Tryd.prog (.code c_impl_segmentOf_1 :: [.code c_impl_segmentOf_n1]) (Ret [.c 4 true 5, 5] [.ag [.v (.int .i64 r.1.A), .v (.int .i64 r.1.B), .v (.int .i64 r.1.Depth), .v (.int .i64 r.1.Minutes), .v (.bool r.1.Meet)], .sc (.v (.bool r.2))]) .normal (some σ) := by
  unfold f_impl_segmentOf_1 at h
  rcases Bool.eq_false_or_eq_true v7 with hb8 | hb8
  · rw [ite_t hb8] at h
    try simp only [hσ, hb8, c_impl_segmentOf_1, Nat.reduceBEq, Nat.reduceMul, Nat.reduceAdd, Nat.reduceDiv, Int.reduceBEq, rules2, rulesX, rowsX]
    cases h
    try simp only [rulesR, Nat.reduceBEq, Nat.reduceMul, Nat.reduceAdd, Nat.reduceDiv, Int.reduceBEq, rules2, rulesX, rowsX]
    exact ⟨⟨⟨rfl, rfl, rfl, rfl, rfl, trivial⟩, rfl, trivial⟩, rfl⟩
  · rw [ite_f hb8] at h
    obtain ⟨p9, hp9, h⟩ := ob h
    obtain ⟨r10, hr10, h⟩ := ob h
    try simp only [hσ, hb8, hp9, c_impl_segmentOf_1, c_impl_segmentOf_n1, Nat.reduceBEq, Nat.reduceMul, Nat.reduceAdd, Nat.reduceDiv, Int.reduceBEq, rules2, rulesX, rowsX]
    refine go_callI (w_impl_parseNumbers _ _ hr10) rfl rfl (Nat.le_of_ble_eq_true rfl) ?_
    rcases Bool.eq_false_or_eq_true r10.2 with hb11 | hb11
    · rw [ite_t hb11] at h
      try simp only [hb8, hp9, hb11, Nat.reduceBEq, Nat.reduceMul, Nat.reduceAdd, Nat.reduceDiv, Int.reduceBEq, rules2, rulesX, rowsX]
      refine go_fr_of rfl ?_
      obtain ⟨x12, hx12, h⟩ := ob h
      obtain ⟨r13, hr13, h⟩ := ob h
      try simp only [hb8, hp9, hb11, hx12, Nat.reduceBEq, Nat.reduceMul, Nat.reduceAdd, Nat.reduceDiv, Int.reduceBEq, rules2, rulesX, rowsX]
      refine go_dcallI (w_impl_PointNamed _ _ _ hr13) rfl rfl (Nat.le_of_ble_eq_true rfl) ?_
      obtain ⟨x14, hx14, h⟩ := ob h
      obtain ⟨r15, hr15, h⟩ := ob h
      try simp only [hb8, hp9, hb11, hx12, hx14, Nat.reduceBEq, Nat.reduceMul, Nat.reduceAdd, Nat.reduceDiv, Int.reduceBEq, rules2, rulesX, rowsX]
      refine go_dcallI (w_impl_PointNamed _ _ _ hr15) rfl rfl (Nat.le_of_ble_eq_true rfl) ?_
      obtain ⟨x16, hx16, h⟩ := ob h
      have hx16n := ix_get hx16
      obtain ⟨x17, hx17, h⟩ := ob h
      have hx17n := ix_get hx17
      try simp only [hb8, hp9, hb11, hx12, hx14, hx16, hx16n, hx17, hx17n, Nat.reduceBEq, Nat.reduceMul, Nat.reduceAdd, Nat.reduceDiv, Int.reduceBEq, rules2, rulesX, rowsX]
      refine go_fr_of rfl ?_
      try simp only [hb8, hp9, hb11, hx12, hx14, hx16, hx16n, hx17, hx17n, Nat.reduceBEq, Nat.reduceMul, Nat.reduceAdd, Nat.reduceDiv, Int.reduceBEq, rules2, rulesX, rowsX]
      cases h
      try simp only [rulesR, Nat.reduceBEq, Nat.reduceMul, Nat.reduceAdd, Nat.reduceDiv, Int.reduceBEq, rules2, rulesX, rowsX]
      exact ⟨⟨⟨rfl, rfl, rfl, rfl, rfl, trivial⟩, rfl, trivial⟩, rfl⟩
    · rw [ite_f hb11] at h
      try simp only [hb8, hp9, hb11, Nat.reduceBEq, Nat.reduceMul, Nat.reduceAdd, Nat.reduceDiv, Int.reduceBEq, rules2, rulesX, rowsX]
      cases h
      try simp only [rulesR, Nat.reduceBEq, Nat.reduceMul, Nat.reduceAdd, Nat.reduceDiv, Int.reduceBEq, rules2, rulesX, rowsX]
      exact ⟨⟨⟨rfl, rfl, rfl, rfl, rfl, trivial⟩, rfl, trivial⟩, rfl⟩
theorem e_impl_segmentOf : entry Tryd.prog 40 = some (c_impl_segmentOf.strip, [.c 4 true 5, 5], 62) := by kernel_rfl
theorem w_impl_segmentOf (a0 : XChart) (a1 : List (List UInt8)) (r : XSegment × Bool) (h : f_impl_segmentOf a0 a1 = some r) : FC Tryd.prog 40 [.ag (XChart.row a0), .sc (.sl (List.map rS a1))] [.ag [.v (.int .i64 r.1.A), .v (.int .i64 r.1.B), .v (.int .i64 r.1.Depth), .v (.int .i64 r.1.Minutes), .v (.bool r.1.Meet)], .sc (.v (.bool r.2))] := by
  unfold f_impl_segmentOf at h
  refine FC_go (σ := ⟨[(0, va [aL (List.map XPoint.row a0.Points), aL (List.map XSegment.row a0.Segments)]), (1, vc (aL (List.map rS a1)))], [], []⟩) mixed e_impl_segmentOf rfl rfl ?_
  simp only [c_impl_segmentOf]
  try simp only [Nat.reduceBEq, Nat.reduceMul, Nat.reduceAdd, Nat.reduceDiv, Int.reduceBEq, rules2, rulesX, rowsX]
  refine go_bx rfl rfl rfl ?_
  try simp only [Nat.reduceBEq, Nat.reduceMul, Nat.reduceAdd, Nat.reduceDiv, Int.reduceBEq, rules2, rulesX, rowsX]
  refine go_al rfl rfl ?_
  rcases Bool.eq_false_or_eq_true (decide ((a1.length : Int) < (5 : Int))) with hb1 | hb1
  · rw [ite_t hb1] at h
    try simp only [hb1, Nat.reduceBEq, Nat.reduceMul, Nat.reduceAdd, Nat.reduceDiv, Int.reduceBEq, rules2, rulesX, rowsX]
    refine w_impl_segmentOf_1 _ _ _ _ h _ ?_
    try simp only [hb1, Nat.reduceBEq, Nat.reduceMul, Nat.reduceAdd, Nat.reduceDiv, Int.reduceBEq, rules2, rulesX, rowsX, List.map_nil]
  · rw [ite_f hb1] at h
    rcases Bool.eq_false_or_eq_true (decide ((6 : Int) < (a1.length : Int))) with hb2 | hb2
    · rw [ite_t hb2] at h
      try simp only [hb1, hb2, Nat.reduceBEq, Nat.reduceMul, Nat.reduceAdd, Nat.reduceDiv, Int.reduceBEq, rules2, rulesX, rowsX]
      refine w_impl_segmentOf_1 _ _ _ _ h _ ?_
      try simp only [hb1, hb2, Nat.reduceBEq, Nat.reduceMul, Nat.reduceAdd, Nat.reduceDiv, Int.reduceBEq, rules2, rulesX, rowsX, List.map_nil]
    · rw [ite_f hb2] at h
      obtain ⟨x3, hx3, h⟩ := ob h
      rcases Bool.eq_false_or_eq_true (x3 == ([99, 104, 97, 110, 110, 101, 108] : List UInt8)) with hb4 | hb4
      · rw [ite_t hb4] at h
        rcases Bool.eq_false_or_eq_true ((a1.length : Int) == (6 : Int)) with hb5 | hb5
        · rw [ite_t hb5] at h
          obtain ⟨x6, hx6, h⟩ := ob h
          try simp only [hb1, hb2, hx3, hb4, hb5, hx6, Nat.reduceBEq, Nat.reduceMul, Nat.reduceAdd, Nat.reduceDiv, Int.reduceBEq, rules2, rulesX, rowsX]
          refine w_impl_segmentOf_1 _ _ _ _ h _ ?_
          try simp only [hb1, hb2, hx3, hb4, hb5, hx6, Nat.reduceBEq, Nat.reduceMul, Nat.reduceAdd, Nat.reduceDiv, Int.reduceBEq, rules2, rulesX, rowsX, List.map_nil]
        · rw [ite_f hb5] at h
          try simp only [hb1, hb2, hx3, hb4, hb5, Nat.reduceBEq, Nat.reduceMul, Nat.reduceAdd, Nat.reduceDiv, Int.reduceBEq, rules2, rulesX, rowsX]
          refine w_impl_segmentOf_1 _ _ _ _ h _ ?_
          try simp only [hb1, hb2, hx3, hb4, hb5, Nat.reduceBEq, Nat.reduceMul, Nat.reduceAdd, Nat.reduceDiv, Int.reduceBEq, rules2, rulesX, rowsX, List.map_nil]
      · rw [ite_f hb4] at h
        try simp only [hb1, hb2, hx3, hb4, Nat.reduceBEq, Nat.reduceMul, Nat.reduceAdd, Nat.reduceDiv, Int.reduceBEq, rules2, rulesX, rowsX]
        refine w_impl_segmentOf_1 _ _ _ _ h _ ?_
        try simp only [hb1, hb2, hx3, hb4, Nat.reduceBEq, Nat.reduceMul, Nat.reduceAdd, Nat.reduceDiv, Int.reduceBEq, rules2, rulesX, rowsX, List.map_nil]
/- 69: impl_within -/
def c_impl_within : ACode := (.seq (.reg [(none, .mv 6 (KB false))]) (.seq (.reg [(none, .mv 7 (S 1)), (none, .mv 8 (S 0)), (none, .bin 9 .leq (S 7) (S 8)), (none, .mv 10 (S 9)), (some (10, true), .mv 11 (S 0)), (some (10, true), .mv 12 (S 2)), (some (10, true), .bin 13 .leq (S 11) (S 12)), (none, .pick 14 (S 10) (S 13) (KB false)), (none, .mv 6 (S 14))]) .ret))
theorem e_impl_within : entry Tryd.prog 69 = some (c_impl_within.strip, [6], 15) := by kernel_rfl
theorem w_impl_within (a0 : Int) (a1 : Int) (a2 : Int) (r : Bool) (h : f_impl_within a0 a1 a2 = some r) : FC Tryd.prog 69 [.sc (.int .i64 a0), .sc (.int .i64 a1), .sc (.int .i64 a2)] [.sc (.v (.bool r))] := by
  unfold f_impl_within at h
  refine FC_go (σ := ⟨[(0, vc (aI a0)), (1, vc (aI a1)), (2, vc (aI a2))], [], []⟩) mixed e_impl_within rfl rfl ?_
  simp only [c_impl_within]
  rcases Bool.eq_false_or_eq_true (decide (a1 ≤ a0)) with hb1 | hb1
  · rw [ite_t hb1] at h
    try simp only [hb1, Nat.reduceBEq, Nat.reduceMul, Nat.reduceAdd, Nat.reduceDiv, Int.reduceBEq, rules2, rulesX, rowsX]
    cases h
    exact ⟨⟨rfl, trivial⟩, rfl⟩
  · rw [ite_f hb1] at h
    try simp only [hb1, Nat.reduceBEq, Nat.reduceMul, Nat.reduceAdd, Nat.reduceDiv, Int.reduceBEq, rules2, rulesX, rowsX]
    cases h
    exact ⟨⟨rfl, trivial⟩, rfl⟩
/- 67: impl_IsName -/
def c_impl_IsName_2 : ACode := .seq (.reg [(none, .keep [0, 3, 4] [] [])]) (.seq (.reg [(none, .mv 25 (S 4)), (none, .un 26 .not (S 25)), (none, .mv 27 (S 26)), (some (27, true), .mv 28 (S 3)), (some (27, true), .bin 29 .eql (S 28) (K 0)), (some (27, true), .mv 30 (S 29)), (some (30, false), .mv 31 (S 0)), (some (30, false), .mv 32 (S 3)), (some (30, false), .idx 33 (S 31) (S 32)), (some (30, false), .bin 34 .lss (S 33) (K8 48)), (some (27, true), .pick 35 (S 30) (KB true) (S 34)), (some (27, true), .mv 36 (S 35)), (some (36, false), .mv 37 (S 0)), (some (36, false), .mv 38 (S 3)), (some (36, false), .idx 39 (S 37) (S 38)), (some (36, false), .bin 40 .gtr (S 39) (K8 57)), (some (27, true), .pick 41 (S 36) (KB true) (S 40)), (none, .pick 42 (S 27) (S 41) (KB false))]) (.cond (S 42) (.seq (.reg [(none, .mv 2 (KB false))]) .ret) .skip))
def c_impl_IsName_3 : ACode := .seq (.reg [(none, .keep [0, 3] [] [])]) (.reg [(none, .mv 13 (S 3)), (none, .bin 14 .add (S 13) (K 1)), (none, .mv 3 (S 14))])
def c_impl_IsName_1 : ACode := .seq (.reg [(none, .keep [0, 3] [] [])]) (.seq (.seq (.reg [(none, .mv 9 (S 3)), (none, .mv 10 (S 0)), (none, .slen 11 (S 10)), (none, .bin 12 .lss (S 9) (S 11))]) (.cond (S 12) .skip (.exit 0))) (.seq (.block 1 (.seq (.reg [(none, .mv 15 (S 0)), (none, .mv 16 (S 3)), (none, .idx 17 (S 15) (S 16)), (none, .bin 18 .geq (S 17) (K8 97)), (none, .mv 19 (S 18)), (some (19, true), .mv 20 (S 0)), (some (19, true), .mv 21 (S 3)), (some (19, true), .idx 22 (S 20) (S 21)), (some (19, true), .bin 23 .leq (S 22) (K8 122)), (none, .pick 24 (S 19) (S 23) (KB false)), (none, .mv 4 (S 24))]) c_impl_IsName_2)) c_impl_IsName_3))
def c_impl_IsName_n1 : ACode := (.seq (.reg [(none, .mv 2 (KB true))]) .ret)
def c_impl_IsName : ACode := (.seq (.reg [(none, .mv 2 (KB false))]) (.seq (.seq (.reg [(none, .mv 5 (S 0)), (none, .slen 6 (S 5)), (none, .call 7 69 [(S 6), (K 1), (K 8)]), (none, .un 8 .not (S 7))]) (.cond (S 8) (.seq (.reg [(none, .mv 2 (KB false))]) .ret) .skip)) (.seq (.seq (.reg [(none, .mv 3 (K 0))]) (.block 0 (.loop c_impl_IsName_1))) c_impl_IsName_n1)))
theorem w_impl_IsName_3 (a0 : List UInt8) (v3 : Int) (k_impl_IsName_1 : Int → Option Bool) (hk_impl_IsName_1 : ∀ (v3 : Int) zr, k_impl_IsName_1 v3 = some zr → ∀ σ : St, σ.kept [0, 3] [] [] = ⟨[(0, vc (aS a0)), (3, vc (aI v3))], [], []⟩ → go Tryd.prog (.code (.loop c_impl_IsName_1) :: [.blk 0, .code c_impl_IsName_n1]) (Ret [2] [.sc (.v (.bool zr))]) .normal (some σ)) (r : Bool) (h : f_impl_IsName_3 a0 v3 k_impl_IsName_1 = some r) (σ : St) (hσ : σ.kept [0, 3] [] [] = ⟨[(0, vc (aS a0)), (3, vc (aI v3))], [], []⟩) : go Tryd.prog (.code c_impl_IsName_3 :: [.code (.loop c_impl_IsName_1), .blk 0, .code c_impl_IsName_n1]) (Ret [2] [.sc (.v (.bool r))]) .normal (some σ) := by
  unfold f_impl_IsName_3 at h
  try simp only [hσ, c_impl_IsName_3, Nat.reduceBEq, Nat.reduceMul, Nat.reduceAdd, Nat.reduceDiv, Int.reduceBEq, rules2, rulesX, rowsX]
  refine hk_impl_IsName_1 _ _ h _ ?_
  try simp only [Nat.reduceBEq, Nat.reduceMul, Nat.reduceAdd, Nat.reduceDiv, Int.reduceBEq, rules2, rulesX, rowsX, List.map_nil]
theorem w_impl_IsName_2 (a0 : List UInt8) (v3 : Int) (k_impl_IsName_1 : Int → Option Bool) (hk_impl_IsName_1 : ∀ (v3 : Int) zr, k_impl_IsName_1 v3 = some zr → ∀ σ : St, σ.kept [0, 3] [] [] = ⟨[(0, vc (aS a0)), (3, vc (aI v3))], [], []⟩ → go Tryd.prog (.code (.loop c_impl_IsName_1) :: [.blk 0, .code c_impl_IsName_n1]) (Ret [2] [.sc (.v (.bool zr))]) .normal (some σ)) (v7 : Bool) (r : Bool) (h : f_impl_IsName_2 a0 v3 k_impl_IsName_1 v7 = some r) (σ : St) (hσ : σ.kept [0, 3, 4] [] [] = ⟨[(0, vc (aS a0)), (3, vc (aI v3)), (4, vc (aB v7))], [], []⟩) : go Tryd.prog (.code c_impl_IsName_2 :: [.blk 1, .code c_impl_IsName_3, .code (.loop c_impl_IsName_1), .blk 0, .code c_impl_IsName_n1]) (Ret [2] [.sc (.v (.bool r))]) .normal (some σ) := by
  unfold f_impl_IsName_2 at h
  rcases Bool.eq_false_or_eq_true v7 with hb8 | hb8
  · rw [ite_t hb8] at h
    try simp only [hσ, hb8, c_impl_IsName_2, Nat.reduceBEq, Nat.reduceMul, Nat.reduceAdd, Nat.reduceDiv, Int.reduceBEq, rules2, rulesX, rowsX]
    refine w_impl_IsName_3 _ _ k_impl_IsName_1 hk_impl_IsName_1 _ h _ ?_
    try simp only [hb8, Nat.reduceBEq, Nat.reduceMul, Nat.reduceAdd, Nat.reduceDiv, Int.reduceBEq, rules2, rulesX, rowsX, List.map_nil]
  · rw [ite_f hb8] at h
    rcases Bool.eq_false_or_eq_true (v3 == (0 : Int)) with hb9 | hb9
    · rw [ite_t hb9] at h
      try simp only [hσ, hb8, hb9, c_impl_IsName_2, Nat.reduceBEq, Nat.reduceMul, Nat.reduceAdd, Nat.reduceDiv, Int.reduceBEq, rules2, rulesX, rowsX]
      cases h
      exact ⟨⟨rfl, trivial⟩, rfl⟩
    · rw [ite_f hb9] at h
      obtain ⟨b10, hb10, h⟩ := ob h
      rcases Bool.eq_false_or_eq_true (decide ((b10.toNat : Int) < (48 : Int))) with hb11 | hb11
      · rw [ite_t hb11] at h
        try simp only [hσ, hb8, hb9, hb10, hb11, c_impl_IsName_2, Nat.reduceBEq, Nat.reduceMul, Nat.reduceAdd, Nat.reduceDiv, Int.reduceBEq, rules2, rulesX, rowsX]
        cases h
        exact ⟨⟨rfl, trivial⟩, rfl⟩
      · rw [ite_f hb11] at h
        rcases Bool.eq_false_or_eq_true (decide ((57 : Int) < (b10.toNat : Int))) with hb12 | hb12
        · rw [ite_t hb12] at h
          try simp only [hσ, hb8, hb9, hb10, hb11, hb12, c_impl_IsName_2, Nat.reduceBEq, Nat.reduceMul, Nat.reduceAdd, Nat.reduceDiv, Int.reduceBEq, rules2, rulesX, rowsX]
          cases h
          exact ⟨⟨rfl, trivial⟩, rfl⟩
        · rw [ite_f hb12] at h
          try simp only [hσ, hb8, hb9, hb10, hb11, hb12, c_impl_IsName_2, Nat.reduceBEq, Nat.reduceMul, Nat.reduceAdd, Nat.reduceDiv, Int.reduceBEq, rules2, rulesX, rowsX]
          refine w_impl_IsName_3 _ _ k_impl_IsName_1 hk_impl_IsName_1 _ h _ ?_
          try simp only [hb8, hb9, hb10, hb11, hb12, Nat.reduceBEq, Nat.reduceMul, Nat.reduceAdd, Nat.reduceDiv, Int.reduceBEq, rules2, rulesX, rowsX, List.map_nil]
theorem w_impl_IsName_1 (a0 : List UInt8) : ∀ (n : Nat) (v3 : Int) (r : Bool), f_impl_IsName_1 a0 n v3 = some r → ∀ σ : St, σ.kept [0, 3] [] [] = ⟨[(0, vc (aS a0)), (3, vc (aI v3))], [], []⟩ → go Tryd.prog (.code (.loop c_impl_IsName_1) :: [.blk 0, .code c_impl_IsName_n1]) (Ret [2] [.sc (.v (.bool r))]) .normal (some σ) := by
  intro n
  induction n with
  | zero => intro _ r h; cases h
  | succ n ih =>
    intro v3 r h σ hσ
    rw [f_impl_IsName_1] at h
    refine go_round ?_
    rcases Bool.eq_false_or_eq_true (decide (v3 < (a0.length : Int))) with hb4 | hb4
    · rw [ite_t hb4] at h
      obtain ⟨b5, hb5, h⟩ := ob h
      rcases Bool.eq_false_or_eq_true (decide ((97 : Int) ≤ (b5.toNat : Int))) with hb6 | hb6
      · rw [ite_t hb6] at h
        try simp only [hσ, hb4, hb5, hb6, c_impl_IsName_1, Nat.reduceBEq, Nat.reduceMul, Nat.reduceAdd, Nat.reduceDiv, Int.reduceBEq, rules2, rulesX, rowsX]
        refine w_impl_IsName_2 _ _ (f_impl_IsName_1 a0 n) ih _ _ h _ ?_
        try simp only [hb4, hb5, hb6, Nat.reduceBEq, Nat.reduceMul, Nat.reduceAdd, Nat.reduceDiv, Int.reduceBEq, rules2, rulesX, rowsX, List.map_nil]
      · rw [ite_f hb6] at h
        try simp only [hσ, hb4, hb5, hb6, c_impl_IsName_1, Nat.reduceBEq, Nat.reduceMul, Nat.reduceAdd, Nat.reduceDiv, Int.reduceBEq, rules2, rulesX, rowsX]
        refine w_impl_IsName_2 _ _ (f_impl_IsName_1 a0 n) ih _ _ h _ ?_
        try simp only [hb4, hb5, hb6, Nat.reduceBEq, Nat.reduceMul, Nat.reduceAdd, Nat.reduceDiv, Int.reduceBEq, rules2, rulesX, rowsX, List.map_nil]
    · rw [ite_f hb4] at h
      try simp only [hσ, hb4, c_impl_IsName_1, c_impl_IsName_n1, Nat.reduceBEq, Nat.reduceMul, Nat.reduceAdd, Nat.reduceDiv, Int.reduceBEq, rules2, rulesX, rowsX]
      cases h
      exact ⟨⟨rfl, trivial⟩, rfl⟩
theorem e_impl_IsName : entry Tryd.prog 67 = some (c_impl_IsName.strip, [2], 43) := by kernel_rfl
theorem w_impl_IsName (a0 : List UInt8) (r : Bool) (h : f_impl_IsName a0 = some r) : FC Tryd.prog 67 [.sc (.str a0)] [.sc (.v (.bool r))] := by
  unfold f_impl_IsName at h
  refine FC_go (σ := ⟨[(0, vc (aS a0))], [], []⟩) mixed e_impl_IsName rfl rfl ?_
  simp only [c_impl_IsName]
  obtain ⟨r1, hr1, h⟩ := ob h
  try simp only [Nat.reduceBEq, Nat.reduceMul, Nat.reduceAdd, Nat.reduceDiv, Int.reduceBEq, rules2, rulesX, rowsX]
  refine go_callI (w_impl_within _ _ _ _ hr1) rfl rfl (Nat.le_of_ble_eq_true rfl) ?_
  rcases Bool.eq_false_or_eq_true r1 with hb2 | hb2
  · rw [ite_t hb2] at h
    try simp only [hb2, Nat.reduceBEq, Nat.reduceMul, Nat.reduceAdd, Nat.reduceDiv, Int.reduceBEq, rules2, rulesX, rowsX]
    refine w_impl_IsName_1 _ _ _ _ h _ ?_
    try simp only [hb2, Nat.reduceBEq, Nat.reduceMul, Nat.reduceAdd, Nat.reduceDiv, Int.reduceBEq, rules2, rulesX, rowsX, List.map_nil]
  · rw [ite_f hb2] at h
    try simp only [hb2, Nat.reduceBEq, Nat.reduceMul, Nat.reduceAdd, Nat.reduceDiv, Int.reduceBEq, rules2, rulesX, rowsX]
    cases h
    exact ⟨⟨rfl, trivial⟩, rfl⟩
/- 68: impl_isIndex -/
def c_impl_isIndex : ACode := (.seq (.reg [(none, .mv 4 (KB false))]) (.seq (.reg [(none, .mv 5 (S 0)), (none, .bin 6 .geq (S 5) (K 0)), (none, .mv 7 (S 6)), (some (7, true), .mv 8 (S 0)), (some (7, true), .mv 9 (S 1)), (some (7, true), .bin 10 .lss (S 8) (S 9)), (none, .pick 11 (S 7) (S 10) (KB false)), (none, .mv 4 (S 11))]) .ret))
theorem e_impl_isIndex : entry Tryd.prog 68 = some (c_impl_isIndex.strip, [4], 12) := by kernel_rfl
theorem w_impl_isIndex (a0 : Int) (a1 : Int) (r : Bool) (h : f_impl_isIndex a0 a1 = some r) : FC Tryd.prog 68 [.sc (.int .i64 a0), .sc (.int .i64 a1)] [.sc (.v (.bool r))] := by
  unfold f_impl_isIndex at h
  refine FC_go (σ := ⟨[(0, vc (aI a0)), (1, vc (aI a1))], [], []⟩) mixed e_impl_isIndex rfl rfl ?_
  simp only [c_impl_isIndex]
  rcases Bool.eq_false_or_eq_true (decide ((0 : Int) ≤ a0)) with hb1 | hb1
  · rw [ite_t hb1] at h
    try simp only [hb1, Nat.reduceBEq, Nat.reduceMul, Nat.reduceAdd, Nat.reduceDiv, Int.reduceBEq, rules2, rulesX, rowsX]
    cases h
    exact ⟨⟨rfl, trivial⟩, rfl⟩
  · rw [ite_f hb1] at h
    try simp only [hb1, Nat.reduceBEq, Nat.reduceMul, Nat.reduceAdd, Nat.reduceDiv, Int.reduceBEq, rules2, rulesX, rowsX]
    cases h
    exact ⟨⟨rfl, trivial⟩, rfl⟩
/- 70: impl_Segment_joins -/
def c_impl_Segment_joins : ACode := (.seq (.reg [(none, .box 3 (S 0)), (none, .mv 6 (KB false))]) (.seq (.reg [(none, .faddr 7 (S 3) 0), (none, .load 8 (S 7) false 1), (none, .mv 9 (S 1)), (none, .bin 10 .eql (S 8) (S 9)), (none, .mv 11 (S 10)), (some (11, true), .faddr 12 (S 3) 1), (some (11, true), .load 13 (S 12) false 1), (some (11, true), .mv 14 (S 2)), (some (11, true), .bin 15 .eql (S 13) (S 14)), (none, .pick 16 (S 11) (S 15) (KB false)), (none, .mv 17 (S 16)), (some (17, false), .faddr 18 (S 3) 0), (some (17, false), .load 19 (S 18) false 1), (some (17, false), .mv 20 (S 2)), (some (17, false), .bin 21 .eql (S 19) (S 20)), (some (17, false), .mv 22 (S 21)), (some (22, true), .faddr 23 (S 3) 1), (some (22, true), .load 24 (S 23) false 1), (some (22, true), .mv 25 (S 1)), (some (22, true), .bin 26 .eql (S 24) (S 25)), (some (17, false), .pick 27 (S 22) (S 26) (KB false)), (none, .pick 28 (S 17) (KB true) (S 27)), (none, .mv 6 (S 28))]) .ret))
theorem e_impl_Segment_joins : entry Tryd.prog 70 = some (c_impl_Segment_joins.strip, [6], 29) := by kernel_rfl
theorem w_impl_Segment_joins (a0 : XSegment) (a1 : Int) (a2 : Int) (r : Bool) (h : f_impl_Segment_joins a0 a1 a2 = some r) : FC Tryd.prog 70 [.ag (XSegment.row a0), .sc (.int .i64 a1), .sc (.int .i64 a2)] [.sc (.v (.bool r))] := by
  unfold f_impl_Segment_joins at h
  refine FC_go (σ := ⟨[(0, va [aI a0.A, aI a0.B, aI a0.Depth, aI a0.Minutes, aB a0.Meet]), (1, vc (aI a1)), (2, vc (aI a2))], [], []⟩) mixed e_impl_Segment_joins rfl rfl ?_
  simp only [c_impl_Segment_joins]
  try simp only [Nat.reduceBEq, Nat.reduceMul, Nat.reduceAdd, Nat.reduceDiv, Int.reduceBEq, rules2, rulesX, rowsX]
  refine go_bx rfl rfl rfl ?_
  rcases Bool.eq_false_or_eq_true (a0.A == a1) with hb1 | hb1
  · rw [ite_t hb1] at h
    rcases Bool.eq_false_or_eq_true (a0.B == a2) with hb2 | hb2
    · rw [ite_t hb2] at h
      try simp only [hb1, hb2, Nat.reduceBEq, Nat.reduceMul, Nat.reduceAdd, Nat.reduceDiv, Int.reduceBEq, rules2, rulesX, rowsX]
      cases h
      exact ⟨⟨rfl, trivial⟩, rfl⟩
    · rw [ite_f hb2] at h
      rcases Bool.eq_false_or_eq_true (a0.A == a2) with hb3 | hb3
      · rw [ite_t hb3] at h
        try simp only [hb1, hb2, hb3, Nat.reduceBEq, Nat.reduceMul, Nat.reduceAdd, Nat.reduceDiv, Int.reduceBEq, rules2, rulesX, rowsX]
        cases h
        exact ⟨⟨rfl, trivial⟩, rfl⟩
      · rw [ite_f hb3] at h
        try simp only [hb1, hb2, hb3, Nat.reduceBEq, Nat.reduceMul, Nat.reduceAdd, Nat.reduceDiv, Int.reduceBEq, rules2, rulesX, rowsX]
        cases h
        exact ⟨⟨rfl, trivial⟩, rfl⟩
  · rw [ite_f hb1] at h
    rcases Bool.eq_false_or_eq_true (a0.A == a2) with hb4 | hb4
    · rw [ite_t hb4] at h
      try simp only [hb1, hb4, Nat.reduceBEq, Nat.reduceMul, Nat.reduceAdd, Nat.reduceDiv, Int.reduceBEq, rules2, rulesX, rowsX]
      cases h
      exact ⟨⟨rfl, trivial⟩, rfl⟩
    · rw [ite_f hb4] at h
      try simp only [hb1, hb4, Nat.reduceBEq, Nat.reduceMul, Nat.reduceAdd, Nat.reduceDiv, Int.reduceBEq, rules2, rulesX, rowsX]
      cases h
      exact ⟨⟨rfl, trivial⟩, rfl⟩
/- 41: impl_ChartOk -/
def c_impl_ChartOk_1 : ACode := .seq (.reg [(none, .keep [1, 20, 21, 22] [1] [])]) (.seq (.reg [(none, .bin 23 .lss (S 22) (S 21))]) (.seq (.cond (S 23) .skip (.exit 0)) (.seq (.block 1 (.seq (.reg [(none, .mv 24 (S 22)), (none, .iaddr 25 (S 20) (S 22) 2), (none, .load 26 (S 25) true 2), (none, .alloc 4 [aS [], aB false]), (none, .mv 3 (S 24)), (none, .store (S 4) (S 26) 2)]) (.seq (.reg [(none, .faddr 27 (S 4) 0), (none, .load 28 (S 27) false 1), (none, .call 29 67 [(S 28)]), (none, .un 30 .not (S 29)), (none, .mv 31 (S 30)), (some (31, false), .load 32 (S 1) true 2), (some (31, false), .faddr 33 (S 4) 0), (some (31, false), .load 34 (S 33) false 1), (some (31, false), .call 35 66 [(S 32), (S 34)]), (some (31, false), .mv 36 (S 3)), (some (31, false), .bin 37 .neq (S 35) (S 36)), (none, .pick 38 (S 31) (KB true) (S 37))]) (.cond (S 38) (.seq (.reg [(none, .mv 2 (KB false))]) .ret) .skip)))) (.reg [(none, .bin 39 .add (S 22) (K 1)), (none, .mv 22 (S 39))]))))
def c_impl_ChartOk_3 : ACode := .seq (.reg [(none, .keep [1, 6, 41, 42, 43, 86, 87, 88] [1, 6] [])]) (.seq (.reg [(none, .bin 89 .lss (S 88) (S 87))]) (.seq (.cond (S 89) .skip (.exit 4)) (.seq (.block 5 (.seq (.reg [(none, .iaddr 90 (S 86) (S 88) 5), (none, .load 91 (S 90) true 5), (none, .alloc 8 [aI 0, aI 0, aI 0, aI 0, aB false]), (none, .store (S 8) (S 91) 5)]) (.seq (.reg [(none, .load 92 (S 8) true 5), (none, .faddr 93 (S 6) 0), (none, .load 94 (S 93) false 1), (none, .faddr 95 (S 6) 1), (none, .load 96 (S 95) false 1), (none, .call 97 70 [(S 92), (S 94), (S 96)])]) (.cond (S 97) (.seq (.reg [(none, .mv 2 (KB false))]) .ret) .skip)))) (.reg [(none, .bin 98 .add (S 88) (K 1)), (none, .mv 88 (S 98))]))))
def c_impl_ChartOk_n3 : ACode := (.reg [(none, .bin 99 .add (S 43) (K 1)), (none, .mv 43 (S 99))])
def c_impl_ChartOk_2 : ACode := .seq (.reg [(none, .keep [1, 41, 42, 43] [1] [])]) (.seq (.reg [(none, .bin 44 .lss (S 43) (S 42))]) (.seq (.cond (S 44) .skip (.exit 2)) (.seq (.block 3 (.seq (.reg [(none, .mv 45 (S 43)), (none, .iaddr 46 (S 41) (S 43) 5), (none, .load 47 (S 46) true 5), (none, .alloc 6 [aI 0, aI 0, aI 0, aI 0, aB false]), (none, .mv 5 (S 45)), (none, .store (S 6) (S 47) 5)]) (.seq (.seq (.reg [(none, .faddr 48 (S 6) 0), (none, .load 49 (S 48) false 1), (none, .faddr 50 (S 1) 0), (none, .load 51 (S 50) false 1), (none, .len 52 (S 51)), (none, .call 53 68 [(S 49), (S 52)]), (none, .un 54 .not (S 53)), (none, .mv 55 (S 54)), (some (55, false), .faddr 56 (S 6) 1), (some (55, false), .load 57 (S 56) false 1), (some (55, false), .faddr 58 (S 1) 0), (some (55, false), .load 59 (S 58) false 1), (some (55, false), .len 60 (S 59)), (some (55, false), .call 61 68 [(S 57), (S 60)]), (some (55, false), .un 62 .not (S 61)), (none, .pick 63 (S 55) (KB true) (S 62)), (none, .mv 64 (S 63)), (some (64, false), .faddr 65 (S 6) 0), (some (64, false), .load 66 (S 65) false 1), (some (64, false), .faddr 67 (S 6) 1), (some (64, false), .load 68 (S 67) false 1), (some (64, false), .bin 69 .eql (S 66) (S 68)), (none, .pick 70 (S 64) (KB true) (S 69)), (none, .mv 71 (S 70)), (some (71, false), .faddr 72 (S 6) 2), (some (71, false), .load 73 (S 72) false 1), (some (71, false), .call 74 69 [(S 73), (K 0), (K 3000)]), (some (71, false), .un 75 .not (S 74)), (none, .pick 76 (S 71) (KB true) (S 75)), (none, .mv 77 (S 76)), (some (77, false), .faddr 78 (S 6) 3), (some (77, false), .load 79 (S 78) false 1), (some (77, false), .call 80 69 [(S 79), (K 1), (K 240)]), (some (77, false), .un 81 .not (S 80)), (none, .pick 82 (S 77) (KB true) (S 81))]) (.cond (S 82) (.seq (.reg [(none, .mv 2 (KB false))]) .ret) .skip)) (.seq (.reg [(none, .faddr 83 (S 1) 1), (none, .load 84 (S 83) false 1), (none, .mv 85 (S 5)), (none, .slc 86 5 (S 84) none (some (S 85)) none), (none, .len 87 (S 86)), (none, .mv 88 (K 0))]) (.block 4 (.loop c_impl_ChartOk_3)))))) c_impl_ChartOk_n3)))
def c_impl_ChartOk_n2 : ACode := (.seq (.reg [(none, .mv 2 (KB true))]) .ret)
def c_impl_ChartOk_n1 : ACode := (.seq (.seq (.reg [(none, .faddr 40 (S 1) 1), (none, .load 41 (S 40) false 1), (none, .len 42 (S 41)), (none, .mv 43 (K 0))]) (.block 2 (.loop c_impl_ChartOk_2))) c_impl_ChartOk_n2)
def c_impl_ChartOk : ACode := (.seq (.reg [(none, .box 1 (S 0)), (none, .mv 2 (KB false))]) (.seq (.seq (.reg [(none, .faddr 9 (S 1) 0), (none, .load 10 (S 9) false 1), (none, .len 11 (S 10)), (none, .bin 12 .gtr (S 11) (K 8)), (none, .mv 13 (S 12)), (some (13, false), .faddr 14 (S 1) 1), (some (13, false), .load 15 (S 14) false 1), (some (13, false), .len 16 (S 15)), (some (13, false), .bin 17 .gtr (S 16) (K 10)), (none, .pick 18 (S 13) (KB true) (S 17))]) (.cond (S 18) (.seq (.reg [(none, .mv 2 (KB false))]) .ret) .skip)) (.seq (.seq (.reg [(none, .faddr 19 (S 1) 0), (none, .load 20 (S 19) false 1), (none, .len 21 (S 20)), (none, .mv 22 (K 0))]) (.block 0 (.loop c_impl_ChartOk_1))) c_impl_ChartOk_n1)))
theorem w_impl_ChartOk_3 (a0 : XChart) (v10 : Int) (x12 : XSegment) (y23 : List XSegment) (y24 : Int) (k_impl_ChartOk_2 : Int → Option Bool) (hk_impl_ChartOk_2 : ∀ (v10 : Int) zr, k_impl_ChartOk_2 v10 = some zr → ∀ σ : St, σ.kept [1, 41, 42, 43] [1] [] = ⟨[(1, vc (.pb 1 0)), (41, vc (aL (List.map XSegment.row a0.Segments))), (42, vc (aI (a0.Segments.length : Int))), (43, vc (aI v10))], [(1, [aL (List.map XPoint.row a0.Points), aL (List.map XSegment.row a0.Segments)])], []⟩ → go Tryd.prog (.code (.loop c_impl_ChartOk_2) :: [.blk 2, .code c_impl_ChartOk_n2]) (Ret [2] [.sc (.v (.bool zr))]) .normal (some σ)) : ∀ (n : Nat) (v25 : Int) (r : Bool), f_impl_ChartOk_3 a0 v10 x12 y23 y24 k_impl_ChartOk_2 n v25 = some r → ∀ σ : St, σ.kept [1, 6, 41, 42, 43, 86, 87, 88] [1, 6] [] = ⟨[(1, vc (.pb 1 0)), (6, vc (.pb 6 0)), (41, vc (aL (List.map XSegment.row a0.Segments))), (42, vc (aI (a0.Segments.length : Int))), (43, vc (aI v10)), (86, vc (aL (List.map XSegment.row y23))), (87, vc (aI y24)), (88, vc (aI v25))], [(1, [aL (List.map XPoint.row a0.Points), aL (List.map XSegment.row a0.Segments)]), (6, [aI x12.A, aI x12.B, aI x12.Depth, aI x12.Minutes, aB x12.Meet])], []⟩ → go Tryd.prog (.code (.loop c_impl_ChartOk_3) :: [.blk 4, .blk 3, .code c_impl_ChartOk_n3, .code (.loop c_impl_ChartOk_2), .blk 2, .code c_impl_ChartOk_n2]) (Ret [2] [.sc (.v (.bool r))]) .normal (some σ) := by
  intro n
  induction n with
  | zero => intro _ r h; cases h
  | succ n ih =>
    intro v25 r h σ hσ
    rw [f_impl_ChartOk_3] at h
    refine go_round ?_
    rcases Bool.eq_false_or_eq_true (decide (v25 < y24)) with hb26 | hb26
    · rw [ite_t hb26] at h
      obtain ⟨x27, hx27, h⟩ := ob h
      try simp only [hσ, hb26, hx27, c_impl_ChartOk_3, Nat.reduceBEq, Nat.reduceMul, Nat.reduceAdd, Nat.reduceDiv, Int.reduceBEq, rules2, rulesX, rowsX]
      refine go_al rfl rfl ?_
      obtain ⟨r28, hr28, h⟩ := ob h
      try simp only [hb26, hx27, Nat.reduceBEq, Nat.reduceMul, Nat.reduceAdd, Nat.reduceDiv, Int.reduceBEq, rules2, rulesX, rowsX]
      refine go_callI (w_impl_Segment_joins _ _ _ _ hr28) rfl rfl (Nat.le_of_ble_eq_true rfl) ?_
      rcases Bool.eq_false_or_eq_true r28 with hb29 | hb29
      · rw [ite_t hb29] at h
        try simp only [hb26, hx27, hb29, Nat.reduceBEq, Nat.reduceMul, Nat.reduceAdd, Nat.reduceDiv, Int.reduceBEq, rules2, rulesX, rowsX]
        cases h
        exact ⟨⟨rfl, trivial⟩, rfl⟩
      · rw [ite_f hb29] at h
        try simp only [hb26, hx27, hb29, Nat.reduceBEq, Nat.reduceMul, Nat.reduceAdd, Nat.reduceDiv, Int.reduceBEq, rules2, rulesX, rowsX]
        refine ih _ _ h _ ?_
        try simp only [hb26, hx27, hb29, Nat.reduceBEq, Nat.reduceMul, Nat.reduceAdd, Nat.reduceDiv, Int.reduceBEq, rules2, rulesX, rowsX, List.map_nil]
    · rw [ite_f hb26] at h
      try simp only [hσ, hb26, c_impl_ChartOk_3, c_impl_ChartOk_n3, Nat.reduceBEq, Nat.reduceMul, Nat.reduceAdd, Nat.reduceDiv, Int.reduceBEq, rules2, rulesX, rowsX]
      refine hk_impl_ChartOk_2 _ _ h _ ?_
      try simp only [hb26, Nat.reduceBEq, Nat.reduceMul, Nat.reduceAdd, Nat.reduceDiv, Int.reduceBEq, rules2, rulesX, rowsX, List.map_nil]
theorem w_impl_ChartOk_2 (a0 : XChart) : ∀ (n : Nat) (v10 : Int) (r : Bool), f_impl_ChartOk_2 a0 n v10 = some r → ∀ σ : St, σ.kept [1, 41, 42, 43] [1] [] = ⟨[(1, vc (.pb 1 0)), (41, vc (aL (List.map XSegment.row a0.Segments))), (42, vc (aI (a0.Segments.length : Int))), (43, vc (aI v10))], [(1, [aL (List.map XPoint.row a0.Points), aL (List.map XSegment.row a0.Segments)])], []⟩ → go Tryd.prog (.code (.loop c_impl_ChartOk_2) :: [.blk 2, .code c_impl_ChartOk_n2]) (Ret [2] [.sc (.v (.bool r))]) .normal (some σ) := by
  intro n
  induction n with
  | zero => intro _ r h; cases h
  | succ n ih =>
    intro v10 r h σ hσ
    rw [f_impl_ChartOk_2] at h
    refine go_round ?_
    rcases Bool.eq_false_or_eq_true (decide (v10 < (a0.Segments.length : Int))) with hb11 | hb11
    · rw [ite_t hb11] at h
      obtain ⟨x12, hx12, h⟩ := ob h
      try simp only [hσ, hb11, hx12, c_impl_ChartOk_2, Nat.reduceBEq, Nat.reduceMul, Nat.reduceAdd, Nat.reduceDiv, Int.reduceBEq, rules2, rulesX, rowsX]
      refine go_al rfl rfl ?_
      obtain ⟨r13, hr13, h⟩ := ob h
      try simp only [hb11, hx12, Nat.reduceBEq, Nat.reduceMul, Nat.reduceAdd, Nat.reduceDiv, Int.reduceBEq, rules2, rulesX, rowsX]
      refine go_callI (w_impl_isIndex _ _ _ hr13) rfl rfl (Nat.le_of_ble_eq_true rfl) ?_
      rcases Bool.eq_false_or_eq_true r13 with hb14 | hb14
      · rw [ite_t hb14] at h
        obtain ⟨r15, hr15, h⟩ := ob h
        try simp only [hb11, hx12, hb14, Nat.reduceBEq, Nat.reduceMul, Nat.reduceAdd, Nat.reduceDiv, Int.reduceBEq, rules2, rulesX, rowsX]
        refine go_callI (w_impl_isIndex _ _ _ hr15) rfl rfl (Nat.le_of_ble_eq_true rfl) ?_
        rcases Bool.eq_false_or_eq_true r15 with hb16 | hb16
        · rw [ite_t hb16] at h
          rcases Bool.eq_false_or_eq_true (x12.A == x12.B) with hb17 | hb17
          · rw [ite_t hb17] at h
            try simp only [hb11, hx12, hb14, hb16, hb17, Nat.reduceBEq, Nat.reduceMul, Nat.reduceAdd, Nat.reduceDiv, Int.reduceBEq, rules2, rulesX, rowsX]
            cases h
            exact ⟨⟨rfl, trivial⟩, rfl⟩
          · rw [ite_f hb17] at h
            obtain ⟨r18, hr18, h⟩ := ob h
            try simp only [hb11, hx12, hb14, hb16, hb17, Nat.reduceBEq, Nat.reduceMul, Nat.reduceAdd, Nat.reduceDiv, Int.reduceBEq, rules2, rulesX, rowsX]
            refine go_callI (w_impl_within _ _ _ _ hr18) rfl rfl (Nat.le_of_ble_eq_true rfl) ?_
            rcases Bool.eq_false_or_eq_true r18 with hb19 | hb19
            · rw [ite_t hb19] at h
              obtain ⟨r20, hr20, h⟩ := ob h
              try simp only [hb11, hx12, hb14, hb16, hb17, hb19, Nat.reduceBEq, Nat.reduceMul, Nat.reduceAdd, Nat.reduceDiv, Int.reduceBEq, rules2, rulesX, rowsX]
              refine go_callI (w_impl_within _ _ _ _ hr20) rfl rfl (Nat.le_of_ble_eq_true rfl) ?_
              rcases Bool.eq_false_or_eq_true r20 with hb21 | hb21
              · rw [ite_t hb21] at h
                obtain ⟨p22, hp22, h⟩ := ob h
                try simp only [hb11, hx12, hb14, hb16, hb17, hb19, hb21, hp22, Nat.reduceBEq, Nat.reduceMul, Nat.reduceAdd, Nat.reduceDiv, Int.reduceBEq, rules2, rulesX, rowsX]
                refine w_impl_ChartOk_3 _ _ _ _ _ (f_impl_ChartOk_2 a0 n) ih _ _ _ h _ ?_
                try simp only [hb11, hx12, hb14, hb16, hb17, hb19, hb21, hp22, Nat.reduceBEq, Nat.reduceMul, Nat.reduceAdd, Nat.reduceDiv, Int.reduceBEq, rules2, rulesX, rowsX, List.map_nil]
              · rw [ite_f hb21] at h
                try simp only [hb11, hx12, hb14, hb16, hb17, hb19, hb21, Nat.reduceBEq, Nat.reduceMul, Nat.reduceAdd, Nat.reduceDiv, Int.reduceBEq, rules2, rulesX, rowsX]
                cases h
                exact ⟨⟨rfl, trivial⟩, rfl⟩
            · rw [ite_f hb19] at h
              try simp only [hb11, hx12, hb14, hb16, hb17, hb19, Nat.reduceBEq, Nat.reduceMul, Nat.reduceAdd, Nat.reduceDiv, Int.reduceBEq, rules2, rulesX, rowsX]
              cases h
              exact ⟨⟨rfl, trivial⟩, rfl⟩
        · rw [ite_f hb16] at h
          try simp only [hb11, hx12, hb14, hb16, Nat.reduceBEq, Nat.reduceMul, Nat.reduceAdd, Nat.reduceDiv, Int.reduceBEq, rules2, rulesX, rowsX]
          cases h
          exact ⟨⟨rfl, trivial⟩, rfl⟩
      · rw [ite_f hb14] at h
        try simp only [hb11, hx12, hb14, Nat.reduceBEq, Nat.reduceMul, Nat.reduceAdd, Nat.reduceDiv, Int.reduceBEq, rules2, rulesX, rowsX]
        cases h
        exact ⟨⟨rfl, trivial⟩, rfl⟩
    · rw [ite_f hb11] at h
      try simp only [hσ, hb11, c_impl_ChartOk_2, c_impl_ChartOk_n2, Nat.reduceBEq, Nat.reduceMul, Nat.reduceAdd, Nat.reduceDiv, Int.reduceBEq, rules2, rulesX, rowsX]
      cases h
      exact ⟨⟨rfl, trivial⟩, rfl⟩
theorem w_impl_ChartOk_1 (a0 : XChart) : ∀ (n : Nat) (v3 : Int) (r : Bool), f_impl_ChartOk_1 a0 n v3 = some r → ∀ σ : St, σ.kept [1, 20, 21, 22] [1] [] = ⟨[(1, vc (.pb 1 0)), (20, vc (aL (List.map XPoint.row a0.Points))), (21, vc (aI (a0.Points.length : Int))), (22, vc (aI v3))], [(1, [aL (List.map XPoint.row a0.Points), aL (List.map XSegment.row a0.Segments)])], []⟩ → go Tryd.prog (.code (.loop c_impl_ChartOk_1) :: [.blk 0, .code c_impl_ChartOk_n1]) (Ret [2] [.sc (.v (.bool r))]) .normal (some σ) := by
  intro n
  induction n with
  | zero => intro _ r h; cases h
  | succ n ih =>
    intro v3 r h σ hσ
    rw [f_impl_ChartOk_1] at h
    refine go_round ?_
    rcases Bool.eq_false_or_eq_true (decide (v3 < (a0.Points.length : Int))) with hb4 | hb4
    · rw [ite_t hb4] at h
      obtain ⟨x5, hx5, h⟩ := ob h
      try simp only [hσ, hb4, hx5, c_impl_ChartOk_1, Nat.reduceBEq, Nat.reduceMul, Nat.reduceAdd, Nat.reduceDiv, Int.reduceBEq, rules2, rulesX, rowsX]
      refine go_al rfl rfl ?_
      obtain ⟨r6, hr6, h⟩ := ob h
      try simp only [hb4, hx5, Nat.reduceBEq, Nat.reduceMul, Nat.reduceAdd, Nat.reduceDiv, Int.reduceBEq, rules2, rulesX, rowsX]
      refine go_callI (w_impl_IsName _ _ hr6) rfl rfl (Nat.le_of_ble_eq_true rfl) ?_
      rcases Bool.eq_false_or_eq_true r6 with hb7 | hb7
      · rw [ite_t hb7] at h
        obtain ⟨r8, hr8, h⟩ := ob h
        try simp only [hb4, hx5, hb7, Nat.reduceBEq, Nat.reduceMul, Nat.reduceAdd, Nat.reduceDiv, Int.reduceBEq, rules2, rulesX, rowsX]
        refine go_callI (w_impl_PointNamed _ _ _ hr8) rfl rfl (Nat.le_of_ble_eq_true rfl) ?_
        rcases Bool.eq_false_or_eq_true (r8 != v3) with hb9 | hb9
        · rw [ite_t hb9] at h
          try simp only [hb4, hx5, hb7, hb9, Nat.reduceBEq, Nat.reduceMul, Nat.reduceAdd, Nat.reduceDiv, Int.reduceBEq, rules2, rulesX, rowsX]
          cases h
          exact ⟨⟨rfl, trivial⟩, rfl⟩
        · rw [ite_f hb9] at h
          try simp only [hb4, hx5, hb7, hb9, Nat.reduceBEq, Nat.reduceMul, Nat.reduceAdd, Nat.reduceDiv, Int.reduceBEq, rules2, rulesX, rowsX]
          refine ih _ _ h _ ?_
          try simp only [hb4, hx5, hb7, hb9, Nat.reduceBEq, Nat.reduceMul, Nat.reduceAdd, Nat.reduceDiv, Int.reduceBEq, rules2, rulesX, rowsX, List.map_nil]
      · rw [ite_f hb7] at h
        try simp only [hb4, hx5, hb7, Nat.reduceBEq, Nat.reduceMul, Nat.reduceAdd, Nat.reduceDiv, Int.reduceBEq, rules2, rulesX, rowsX]
        cases h
        exact ⟨⟨rfl, trivial⟩, rfl⟩
    · rw [ite_f hb4] at h
      try simp only [hσ, hb4, c_impl_ChartOk_1, c_impl_ChartOk_n1, Nat.reduceBEq, Nat.reduceMul, Nat.reduceAdd, Nat.reduceDiv, Int.reduceBEq, rules2, rulesX, rowsX]
      refine w_impl_ChartOk_2 _ _ _ _ h _ ?_
      try simp only [hb4, Nat.reduceBEq, Nat.reduceMul, Nat.reduceAdd, Nat.reduceDiv, Int.reduceBEq, rules2, rulesX, rowsX, List.map_nil]
theorem e_impl_ChartOk : entry Tryd.prog 41 = some (c_impl_ChartOk.strip, [2], 100) := by kernel_rfl
theorem w_impl_ChartOk (a0 : XChart) (r : Bool) (h : f_impl_ChartOk a0 = some r) : FC Tryd.prog 41 [.ag (XChart.row a0)] [.sc (.v (.bool r))] := by
  unfold f_impl_ChartOk at h
  refine FC_go (σ := ⟨[(0, va [aL (List.map XPoint.row a0.Points), aL (List.map XSegment.row a0.Segments)])], [], []⟩) mixed e_impl_ChartOk rfl rfl ?_
  simp only [c_impl_ChartOk]
  try simp only [Nat.reduceBEq, Nat.reduceMul, Nat.reduceAdd, Nat.reduceDiv, Int.reduceBEq, rules2, rulesX, rowsX]
  refine go_bx rfl rfl rfl ?_
  rcases Bool.eq_false_or_eq_true (decide ((8 : Int) < (a0.Points.length : Int))) with hb1 | hb1
  · rw [ite_t hb1] at h
    try simp only [hb1, Nat.reduceBEq, Nat.reduceMul, Nat.reduceAdd, Nat.reduceDiv, Int.reduceBEq, rules2, rulesX, rowsX]
    cases h
    exact ⟨⟨rfl, trivial⟩, rfl⟩
  · rw [ite_f hb1] at h
    rcases Bool.eq_false_or_eq_true (decide ((10 : Int) < (a0.Segments.length : Int))) with hb2 | hb2
    · rw [ite_t hb2] at h
      try simp only [hb1, hb2, Nat.reduceBEq, Nat.reduceMul, Nat.reduceAdd, Nat.reduceDiv, Int.reduceBEq, rules2, rulesX, rowsX]
      cases h
      exact ⟨⟨rfl, trivial⟩, rfl⟩
    · rw [ite_f hb2] at h
      try simp only [hb1, hb2, Nat.reduceBEq, Nat.reduceMul, Nat.reduceAdd, Nat.reduceDiv, Int.reduceBEq, rules2, rulesX, rowsX]
      refine w_impl_ChartOk_1 _ _ _ _ h _ ?_
      try simp only [hb1, hb2, Nat.reduceBEq, Nat.reduceMul, Nat.reduceAdd, Nat.reduceDiv, Int.reduceBEq, rules2, rulesX, rowsX, List.map_nil]
/- 71: impl_marked -/
def c_impl_marked : ACode := (.seq (.reg [(none, .mv 6 (KS []))]) (.seq (.seq (.reg [(none, .mv 7 (S 1))]) (.cond (S 7) (.seq (.reg [(none, .mv 8 (S 0)), (none, .bin 9 .add (S 8) (KS [32])), (none, .mv 10 (S 2)), (none, .bin 11 .add (S 9) (S 10)), (none, .mv 6 (S 11))]) .ret) .skip)) (.seq (.reg [(none, .mv 12 (S 0)), (none, .mv 6 (S 12))]) .ret)))
theorem e_impl_marked : entry Tryd.prog 71 = some (c_impl_marked.strip, [6], 13) := by kernel_rfl
theorem w_impl_marked (a0 : List UInt8) (a1 : Bool) (a2 : List UInt8) (r : (List UInt8)) (h : f_impl_marked a0 a1 a2 = some r) : FC Tryd.prog 71 [.sc (.str a0), .sc (.bool a1), .sc (.str a2)] [.sc (.v (.str r))] := by
  unfold f_impl_marked at h
  refine FC_go (σ := ⟨[(0, vc (aS a0)), (1, vc (aB a1)), (2, vc (aS a2))], [], []⟩) mixed e_impl_marked rfl rfl ?_
  simp only [c_impl_marked]
  rcases Bool.eq_false_or_eq_true a1 with hb1 | hb1
  · rw [ite_t hb1] at h
    obtain ⟨hg2, h⟩ := of_guard h
    obtain ⟨hg3, h⟩ := of_guard h
    try simp only [hb1, hg2, hg3, Nat.reduceBEq, Nat.reduceMul, Nat.reduceAdd, Nat.reduceDiv, Int.reduceBEq, rules2, rulesX, rowsX]
    cases h
    exact ⟨⟨rfl, trivial⟩, rfl⟩
  · rw [ite_f hb1] at h
    try simp only [hb1, Nat.reduceBEq, Nat.reduceMul, Nat.reduceAdd, Nat.reduceDiv, Int.reduceBEq, rules2, rulesX, rowsX]
    cases h
    exact ⟨⟨rfl, trivial⟩, rfl⟩
/- 55: impl_FormatInt -/
def c_impl_FormatInt : ACode := (.seq (.reg [(none, .mv 2 (KS []))]) (.seq (.reg [(none, .mv 3 (S 0)), (none, .call 4 77 [(S 3)]), (none, .mv 2 (S 4))]) .ret))
theorem e_impl_FormatInt : entry Tryd.prog 55 = some (c_impl_FormatInt.strip, [2], 5) := by kernel_rfl
theorem w_impl_FormatInt (a0 : Int) (r : (List UInt8)) (h : f_impl_FormatInt a0 = some r) : FC Tryd.prog 55 [.sc (.int .i64 a0)] [.sc (.v (.str r))] := by
  unfold f_impl_FormatInt at h
  refine FC_go (σ := ⟨[(0, vc (aI a0))], [], []⟩) mixed e_impl_FormatInt rfl rfl ?_
  simp only [c_impl_FormatInt]
  obtain ⟨r1, hr1, h⟩ := ob h
  try simp only [Nat.reduceBEq, Nat.reduceMul, Nat.reduceAdd, Nat.reduceDiv, Int.reduceBEq, rules2, rulesX, rowsX]
  refine go_callI (w_strconv_Itoa _ _ hr1) rfl rfl (Nat.le_of_ble_eq_true rfl) ?_
  try simp only [Nat.reduceBEq, Nat.reduceMul, Nat.reduceAdd, Nat.reduceDiv, Int.reduceBEq, rules2, rulesX, rowsX]
  cases h
  exact ⟨⟨rfl, trivial⟩, rfl⟩
/- 56: impl_Join -/
def c_impl_Join : ACode := (.seq (.reg [(none, .mv 4 (KS []))]) (.seq (.reg [(none, .mv 5 (S 0)), (none, .mv 6 (S 1)), (none, .call 7 78 [(S 5), (S 6)]), (none, .mv 4 (S 7))]) .ret))
theorem e_impl_Join : entry Tryd.prog 56 = some (c_impl_Join.strip, [4], 8) := by kernel_rfl
theorem w_impl_Join (a0 : List (List UInt8)) (a1 : List UInt8) (r : (List UInt8)) (h : f_impl_Join a0 a1 = some r) : FC Tryd.prog 56 [.sc (.sl (List.map rS a0)), .sc (.str a1)] [.sc (.v (.str r))] := by
  unfold f_impl_Join at h
  refine FC_go (σ := ⟨[(0, vc (aL (List.map rS a0))), (1, vc (aS a1))], [], []⟩) mixed e_impl_Join rfl rfl ?_
  simp only [c_impl_Join]
  obtain ⟨r1, hr1, h⟩ := ob h
  try simp only [Nat.reduceBEq, Nat.reduceMul, Nat.reduceAdd, Nat.reduceDiv, Int.reduceBEq, rules2, rulesX, rowsX]
  refine go_callI (w_strings_Join _ _ _ hr1) rfl rfl (Nat.le_of_ble_eq_true rfl) ?_
  try simp only [Nat.reduceBEq, Nat.reduceMul, Nat.reduceAdd, Nat.reduceDiv, Int.reduceBEq, rules2, rulesX, rowsX]
  cases h
  exact ⟨⟨rfl, trivial⟩, rfl⟩
/- 42: impl_FormatChart -/
def c_impl_FormatChart_1 : ACode := .seq (.reg [(none, .keep [1, 3, 13, 14, 15] [1] [])]) (.seq (.reg [(none, .bin 16 .lss (S 15) (S 14))]) (.seq (.cond (S 16) .skip (.exit 0)) (.seq (.block 1 (.seq (.reg [(none, .iaddr 17 (S 13) (S 15) 2), (none, .load 18 (S 17) true 2), (none, .alloc 5 [aS [], aB false]), (none, .store (S 5) (S 18) 2)]) (.reg [(none, .mv 19 (S 3)), (none, .faddr 20 (S 5) 0), (none, .load 21 (S 20) false 1), (none, .bin 22 .add (KS [112, 111, 105, 110, 116, 32]) (S 21)), (none, .faddr 23 (S 5) 1), (none, .load 24 (S 23) false 1), (none, .call 25 71 [(S 22), (S 24), (KS [119, 97, 105, 116])]), (none, .bin 26 .add (S 25) (KS [10])), (none, .bin 27 .add (S 19) (S 26)), (none, .mv 3 (S 27))]))) (.reg [(none, .bin 28 .add (S 15) (K 1)), (none, .mv 15 (S 28))]))))
def c_impl_FormatChart_2 : ACode := .seq (.reg [(none, .keep [1, 3, 30, 31, 32] [1] [])]) (.seq (.reg [(none, .bin 33 .lss (S 32) (S 31))]) (.seq (.cond (S 33) .skip (.exit 2)) (.seq (.block 3 (.seq (.reg [(none, .iaddr 34 (S 30) (S 32) 5), (none, .load 35 (S 34) true 5), (none, .alloc 7 [aI 0, aI 0, aI 0, aI 0, aB false]), (none, .store (S 7) (S 35) 5)]) (.seq (.drw [(some [52, 55], (none, .faddr 36 (S 1) 0)), (some [52, 55], (none, .load 37 (S 36) false 1)), (some [52, 55], (none, .faddr 38 (S 7) 0)), (some [52, 55], (none, .load 39 (S 38) false 1)), (some [52, 55], (none, .iaddr 40 (S 37) (S 39) 2)), (some [52, 55], (none, .faddr 41 (S 40) 0)), (some [52, 55], (none, .load 42 (S 41) false 1)), (some [52, 55], (none, .faddr 43 (S 1) 0)), (some [52, 55], (none, .load 44 (S 43) false 1)), (some [52, 55], (none, .faddr 45 (S 7) 1)), (some [52, 55], (none, .load 46 (S 45) false 1)), (some [52, 55], (none, .iaddr 47 (S 44) (S 46) 2)), (some [52, 55], (none, .faddr 48 (S 47) 0)), (some [52, 55], (none, .load 49 (S 48) false 1)), (some [], (none, .faddr 50 (S 7) 2)), (some [], (none, .load 51 (S 50) false 1)), (some [], (none, .call 52 55 [(S 51)])), (some [52], (none, .faddr 53 (S 7) 3)), (some [52], (none, .load 54 (S 53) false 1)), (some [], (none, .call 55 55 [(S 54)])), (some [], (none, .bslice 56 1 [.str []] 5 [(0, (KS [99, 104, 97, 110, 110, 101, 108])), (1, (S 42)), (2, (S 49)), (3, (S 52)), (4, (S 55))])), (some [], (none, .mv 8 (S 56)))]) (.drw [(some [59, 62], (none, .mv 57 (S 3))), (some [], (none, .mv 58 (S 8))), (some [], (none, .call 59 56 [(S 58), (KS [32])])), (some [59], (none, .faddr 60 (S 7) 4)), (some [59], (none, .load 61 (S 60) false 1)), (some [], (none, .call 62 71 [(S 59), (S 61), (KS [109, 101, 101, 116])])), (some [], (none, .bin 63 .add (S 62) (KS [10]))), (some [], (none, .bin 64 .add (S 57) (S 63))), (some [], (none, .mv 3 (S 64)))])))) (.reg [(none, .bin 65 .add (S 32) (K 1)), (none, .mv 32 (S 65))]))))
def c_impl_FormatChart_n2 : ACode := (.seq (.reg [(none, .mv 66 (S 3)), (none, .mv 2 (S 66))]) .ret)
def c_impl_FormatChart_n1 : ACode := (.seq (.seq (.reg [(none, .faddr 29 (S 1) 1), (none, .load 30 (S 29) false 1), (none, .len 31 (S 30)), (none, .mv 32 (K 0))]) (.block 2 (.loop c_impl_FormatChart_2))) c_impl_FormatChart_n2)
def c_impl_FormatChart : ACode := (.seq (.reg [(none, .box 1 (S 0)), (none, .mv 2 (KS []))]) (.seq (.seq (.reg [(none, .load 9 (S 1) true 2), (none, .call 10 41 [(S 9)]), (none, .un 11 .not (S 10))]) (.cond (S 11) (.seq (.reg [(none, .mv 2 (KS []))]) .ret) .skip)) (.seq (.reg [(none, .mv 3 (KS []))]) (.seq (.seq (.reg [(none, .faddr 12 (S 1) 0), (none, .load 13 (S 12) false 1), (none, .len 14 (S 13)), (none, .mv 15 (K 0))]) (.block 0 (.loop c_impl_FormatChart_1))) c_impl_FormatChart_n1))))
theorem w_impl_FormatChart_2 (a0 : XChart) : ∀ (n : Nat) (v11 : List UInt8) (v12 : Int) (r : (List UInt8)), f_impl_FormatChart_2 a0 n v11 v12 = some r → ∀ σ : St, σ.kept [1, 3, 30, 31, 32] [1] [] = ⟨[(1, vc (.pb 1 0)), (3, vc (aS v11)), (30, vc (aL (List.map XSegment.row a0.Segments))), (31, vc (aI (a0.Segments.length : Int))), (32, vc (aI v12))], [(1, [aL (List.map XPoint.row a0.Points), aL (List.map XSegment.row a0.Segments)])], []⟩ → go Tryd.prog (.code (.loop c_impl_FormatChart_2) :: [.blk 2, .code c_impl_FormatChart_n2]) (Ret [2] [.sc (.v (.str r))]) .normal (some σ) := by
  intro n
  induction n with
  | zero => intro _ _ r h; cases h
  | succ n ih =>
    intro v11 v12 r h σ hσ
    rw [f_impl_FormatChart_2] at h
    refine go_round ?_
    rcases Bool.eq_false_or_eq_true (decide (v12 < (a0.Segments.length : Int))) with hb13 | hb13
    · rw [ite_t hb13] at h
      obtain ⟨x14, hx14, h⟩ := ob h
      try simp only [hσ, hb13, hx14, c_impl_FormatChart_2, Nat.reduceBEq, Nat.reduceMul, Nat.reduceAdd, Nat.reduceDiv, Int.reduceBEq, rules2, rulesX, rowsX]
      refine go_al rfl rfl ?_
      try simp only [hb13, hx14, Nat.reduceBEq, Nat.reduceMul, Nat.reduceAdd, Nat.reduceDiv, Int.reduceBEq, rules2, rulesX, rowsX]
      refine go_fr_of rfl ?_
      obtain ⟨x15, hx15, h⟩ := ob h
      obtain ⟨x16, hx16, h⟩ := ob h
      obtain ⟨r17, hr17, h⟩ := ob h
      try simp only [hb13, hx14, hx15, hx16, Nat.reduceBEq, Nat.reduceMul, Nat.reduceAdd, Nat.reduceDiv, Int.reduceBEq, rules2, rulesX, rowsX]
      refine go_dcallI (w_impl_FormatInt _ _ hr17) rfl rfl (Nat.le_of_ble_eq_true rfl) ?_
      obtain ⟨r18, hr18, h⟩ := ob h
      try simp only [hb13, hx14, hx15, hx16, Nat.reduceBEq, Nat.reduceMul, Nat.reduceAdd, Nat.reduceDiv, Int.reduceBEq, rules2, rulesX, rowsX]
      refine go_dcallI (w_impl_FormatInt _ _ hr18) rfl rfl (Nat.le_of_ble_eq_true rfl) ?_
      try simp only [hb13, hx14, hx15, hx16, Nat.reduceBEq, Nat.reduceMul, Nat.reduceAdd, Nat.reduceDiv, Int.reduceBEq, rules2, rulesX, rowsX]
      refine go_bsl (es := List.map rS ([([99, 104, 97, 110, 110, 101, 108] : List UInt8), x15.Name, x16.Name, r17, r18] : List (List UInt8))) rfl rfl ?_
      try simp only [hb13, hx14, hx15, hx16, Nat.reduceBEq, Nat.reduceMul, Nat.reduceAdd, Nat.reduceDiv, Int.reduceBEq, rules2, rulesX, rowsX]
      refine go_fr_of rfl ?_
      obtain ⟨r19, hr19, h⟩ := ob h
      try simp only [hb13, hx14, hx15, hx16, Nat.reduceBEq, Nat.reduceMul, Nat.reduceAdd, Nat.reduceDiv, Int.reduceBEq, rules2, rulesX, rowsX]
      refine go_dcall (w_impl_Join _ _ _ hr19) (by first | rfl | kernel_rfl) (flat_of rfl) rfl (Nat.le_of_ble_eq_true rfl) ?_
      obtain ⟨r20, hr20, h⟩ := ob h
      try simp only [hb13, hx14, hx15, hx16, Nat.reduceBEq, Nat.reduceMul, Nat.reduceAdd, Nat.reduceDiv, Int.reduceBEq, rules2, rulesX, rowsX]
      refine go_dcallI (w_impl_marked _ _ _ _ hr20) rfl rfl (Nat.le_of_ble_eq_true rfl) ?_
      obtain ⟨hg21, h⟩ := of_guard h
      obtain ⟨hg22, h⟩ := of_guard h
      try simp only [hb13, hx14, hx15, hx16, hg21, hg22, Nat.reduceBEq, Nat.reduceMul, Nat.reduceAdd, Nat.reduceDiv, Int.reduceBEq, rules2, rulesX, rowsX]
      refine ih _ _ _ h _ ?_
      try simp only [hb13, hx14, hx15, hx16, hg21, hg22, Nat.reduceBEq, Nat.reduceMul, Nat.reduceAdd, Nat.reduceDiv, Int.reduceBEq, rules2, rulesX, rowsX, List.map_nil]
    · rw [ite_f hb13] at h
      try simp only [hσ, hb13, c_impl_FormatChart_2, c_impl_FormatChart_n2, Nat.reduceBEq, Nat.reduceMul, Nat.reduceAdd, Nat.reduceDiv, Int.reduceBEq, rules2, rulesX, rowsX]
      cases h
      exact ⟨⟨rfl, trivial⟩, rfl⟩
theorem w_impl_FormatChart_1 (a0 : XChart) : ∀ (n : Nat) (v3 : List UInt8) (v4 : Int) (r : (List UInt8)), f_impl_FormatChart_1 a0 n v3 v4 = some r → ∀ σ : St, σ.kept [1, 3, 13, 14, 15] [1] [] = ⟨[(1, vc (.pb 1 0)), (3, vc (aS v3)), (13, vc (aL (List.map XPoint.row a0.Points))), (14, vc (aI (a0.Points.length : Int))), (15, vc (aI v4))], [(1, [aL (List.map XPoint.row a0.Points), aL (List.map XSegment.row a0.Segments)])], []⟩ → go Tryd.prog (.code (.loop c_impl_FormatChart_1) :: [.blk 0, .code c_impl_FormatChart_n1]) (Ret [2] [.sc (.v (.str r))]) .normal (some σ) := by
  intro n
  induction n with
  | zero => intro _ _ r h; cases h
  | succ n ih =>
    intro v3 v4 r h σ hσ
    rw [f_impl_FormatChart_1] at h
    refine go_round ?_
    rcases Bool.eq_false_or_eq_true (decide (v4 < (a0.Points.length : Int))) with hb5 | hb5
    · rw [ite_t hb5] at h
      obtain ⟨x6, hx6, h⟩ := ob h
      try simp only [hσ, hb5, hx6, c_impl_FormatChart_1, Nat.reduceBEq, Nat.reduceMul, Nat.reduceAdd, Nat.reduceDiv, Int.reduceBEq, rules2, rulesX, rowsX]
      refine go_al rfl rfl ?_
      obtain ⟨hg7, h⟩ := of_guard h
      obtain ⟨r8, hr8, h⟩ := ob h
      try simp only [hb5, hx6, hg7, Nat.reduceBEq, Nat.reduceMul, Nat.reduceAdd, Nat.reduceDiv, Int.reduceBEq, rules2, rulesX, rowsX]
      refine go_callI (w_impl_marked _ _ _ _ hr8) rfl rfl (Nat.le_of_ble_eq_true rfl) ?_
      obtain ⟨hg9, h⟩ := of_guard h
      obtain ⟨hg10, h⟩ := of_guard h
      try simp only [hb5, hx6, hg7, hg9, hg10, Nat.reduceBEq, Nat.reduceMul, Nat.reduceAdd, Nat.reduceDiv, Int.reduceBEq, rules2, rulesX, rowsX]
      refine ih _ _ _ h _ ?_
      try simp only [hb5, hx6, hg7, hg9, hg10, Nat.reduceBEq, Nat.reduceMul, Nat.reduceAdd, Nat.reduceDiv, Int.reduceBEq, rules2, rulesX, rowsX, List.map_nil]
    · rw [ite_f hb5] at h
      try simp only [hσ, hb5, c_impl_FormatChart_1, c_impl_FormatChart_n1, Nat.reduceBEq, Nat.reduceMul, Nat.reduceAdd, Nat.reduceDiv, Int.reduceBEq, rules2, rulesX, rowsX]
      refine w_impl_FormatChart_2 _ _ _ _ _ h _ ?_
      try simp only [hb5, Nat.reduceBEq, Nat.reduceMul, Nat.reduceAdd, Nat.reduceDiv, Int.reduceBEq, rules2, rulesX, rowsX, List.map_nil]
theorem e_impl_FormatChart : entry Tryd.prog 42 = some (c_impl_FormatChart.strip, [2], 67) := by kernel_rfl
theorem w_impl_FormatChart (a0 : XChart) (r : (List UInt8)) (h : f_impl_FormatChart a0 = some r) : FC Tryd.prog 42 [.ag (XChart.row a0)] [.sc (.v (.str r))] := by
  unfold f_impl_FormatChart at h
  refine FC_go (σ := ⟨[(0, va [aL (List.map XPoint.row a0.Points), aL (List.map XSegment.row a0.Segments)])], [], []⟩) mixed e_impl_FormatChart rfl rfl ?_
  simp only [c_impl_FormatChart]
  try simp only [Nat.reduceBEq, Nat.reduceMul, Nat.reduceAdd, Nat.reduceDiv, Int.reduceBEq, rules2, rulesX, rowsX]
  refine go_bx rfl rfl rfl ?_
  obtain ⟨r1, hr1, h⟩ := ob h
  try simp only [Nat.reduceBEq, Nat.reduceMul, Nat.reduceAdd, Nat.reduceDiv, Int.reduceBEq, rules2, rulesX, rowsX]
  refine go_callI (w_impl_ChartOk _ _ hr1) rfl rfl (Nat.le_of_ble_eq_true rfl) ?_
  rcases Bool.eq_false_or_eq_true r1 with hb2 | hb2
  · rw [ite_t hb2] at h
    try simp only [hb2, Nat.reduceBEq, Nat.reduceMul, Nat.reduceAdd, Nat.reduceDiv, Int.reduceBEq, rules2, rulesX, rowsX]
    refine w_impl_FormatChart_1 _ _ _ _ _ h _ ?_
    try simp only [hb2, Nat.reduceBEq, Nat.reduceMul, Nat.reduceAdd, Nat.reduceDiv, Int.reduceBEq, rules2, rulesX, rowsX, List.map_nil]
  · rw [ite_f hb2] at h
    try simp only [hb2, Nat.reduceBEq, Nat.reduceMul, Nat.reduceAdd, Nat.reduceDiv, Int.reduceBEq, rules2, rulesX, rowsX]
    cases h
    exact ⟨⟨rfl, trivial⟩, rfl⟩
/- 17: impl_ParseChart -/
def c_impl_ParseChart_3 : ACode := .seq (.reg [(none, .keep [0, 2, 4, 14, 15, 16, 59] [2, 4] [132096, 132160])]) (.cond (S 59) (.seq (.reg [(none, .build 60 [.nil, .nil] []), (none, .store (S 2) (S 60) 2), (none, .mv 3 (KB false))]) .ret) .skip)
def c_impl_ParseChart_2 : ACode := .seq (.reg [(none, .keep [0, 2, 4, 14, 15, 16] [2, 4] [132096, 132160])]) (.seq (.reg [(none, .faddr 50 (S 4) 0), (none, .load 51 (S 50) false 1), (none, .len 52 (S 51)), (none, .bin 53 .gtr (S 52) (K 8)), (none, .mv 54 (S 53)), (some (54, false), .faddr 55 (S 4) 1), (some (54, false), .load 56 (S 55) false 1), (some (54, false), .len 57 (S 56)), (some (54, false), .bin 58 .gtr (S 57) (K 10)), (none, .pick 59 (S 54) (KB true) (S 58))]) c_impl_ParseChart_3)
def c_impl_ParseChart_n2 : ACode := (.reg [(none, .bin 61 .add (S 16) (K 1)), (none, .mv 16 (S 61))])
def c_impl_ParseChart_1 : ACode := .seq (.reg [(none, .keep [0, 2, 4, 14, 15, 16] [2, 4] [132096, 132160])]) (.seq (.reg [(none, .bin 17 .lss (S 16) (S 15))]) (.seq (.cond (S 17) .skip (.exit 0)) (.seq (.block 1 (.seq (.reg [(none, .iaddr 18 (S 14) (S 16) 1), (none, .load 19 (S 18) false 1), (none, .mv 6 (S 19))]) (.seq (.reg [(none, .mv 20 (S 6)), (none, .call 21 25 [(S 20), (KS [32])]), (none, .mv 7 (S 21))]) (.seq (.reg [(none, .mv 23 (S 7)), (none, .call 24 39 [(S 23)]), (none, .mv 22 (S 24)), (none, .extr 25 (S 22) 0), (none, .extr 26 (S 22) 1), (none, .alloc 8 [aS [], aB false]), (none, .store (S 8) (S 25) 2), (none, .mv 9 (S 26))]) (.seq (.reg [(none, .load 28 (S 4) true 2), (none, .mv 29 (S 7)), (none, .call 30 40 [(S 28), (S 29)]), (none, .mv 27 (S 30)), (none, .extr 31 (S 27) 0), (none, .extr 32 (S 27) 1), (none, .alloc 10 [aI 0, aI 0, aI 0, aI 0, aB false]), (none, .store (S 10) (S 31) 5), (none, .mv 11 (S 32))]) (.seq (.block 2 (.seq (.reg [(none, .mv 35 (S 9)), (none, .mv 34 (S 35))]) (.cond (S 34) (.reg [(none, .faddr 36 (S 4) 0), (none, .load 37 (S 36) false 1), (none, .load 38 (S 8) true 2), (none, .bslice 39 2 [.str [], .bool false] 1 [(0, (S 38))]), (none, .app 40 2 24 (S 37) (S 39)), (none, .faddr 41 (S 4) 0), (none, .store (S 41) (S 40) 1)]) (.seq (.reg [(none, .mv 43 (S 11)), (none, .mv 42 (S 43))]) (.cond (S 42) (.reg [(none, .faddr 44 (S 4) 1), (none, .load 45 (S 44) false 1), (none, .load 46 (S 10) true 5), (none, .bslice 47 5 [.int .i64 0, .int .i64 0, .int .i64 0, .int .i64 0, .bool false] 1 [(0, (S 46))]), (none, .app 48 5 40 (S 45) (S 47)), (none, .faddr 49 (S 4) 1), (none, .store (S 49) (S 48) 1)]) (.seq (.reg [(none, .build 33 [.nil, .nil] []), (none, .store (S 2) (S 33) 2), (none, .mv 3 (KB false))]) .ret)))))) c_impl_ParseChart_2)))))) c_impl_ParseChart_n2)))
def c_impl_ParseChart_4 : ACode := .seq (.reg [(none, .keep [2, 4, 70] [2, 4] [132096, 132160])]) (.cond (S 70) (.seq (.reg [(none, .build 71 [.nil, .nil] []), (none, .store (S 2) (S 71) 2), (none, .mv 3 (KB false))]) .ret) .skip)
def c_impl_ParseChart_n3 : ACode := (.seq (.reg [(none, .load 72 (S 4) true 2), (none, .store (S 2) (S 72) 2), (none, .mv 3 (KB true))]) .ret)
def c_impl_ParseChart_n1 : ACode := (.seq (.seq (.reg [(none, .load 62 (S 4) true 2), (none, .call 63 41 [(S 62)]), (none, .un 64 .not (S 63)), (none, .mv 65 (S 64)), (some (65, false), .load 66 (S 4) true 2), (some (65, false), .call 67 42 [(S 66)]), (some (65, false), .mv 68 (S 0)), (some (65, false), .bin 69 .neq (S 67) (S 68)), (none, .pick 70 (S 65) (KB true) (S 69))]) c_impl_ParseChart_4) c_impl_ParseChart_n3)
def c_impl_ParseChart : ACode := (.seq (.reg [(none, .alloc 2 [.nil, .nil]), (none, .mv 3 (KB false))]) (.seq (.reg [(none, .build 12 [.nil, .nil] []), (none, .alloc 4 [.nil, .nil]), (none, .store (S 4) (S 12) 2), (none, .ownb 4 0 132096 2), (none, .ownb 4 1 132160 5)]) (.seq (.seq (.reg [(none, .mv 13 (S 0)), (none, .call 14 32 [(S 13)]), (none, .len 15 (S 14)), (none, .mv 16 (K 0))]) (.block 0 (.loop c_impl_ParseChart_1))) c_impl_ParseChart_n1)))
theorem w_impl_ParseChart_3 (a0 : List UInt8) (r1 : (List (List UInt8))) (v2 : Int) (v14 : List XPoint) (v15 : List XSegment) (k_impl_ParseChart_1 : Int → (List XPoint) → (List XSegment) → Option (XChart × Bool)) (hk_impl_ParseChart_1 : ∀ (v2 : Int) (v3 : List XPoint) (v4 : List XSegment) zr, k_impl_ParseChart_1 v2 v3 v4 = some zr → ∀ σ : St, σ.kept [0, 2, 4, 14, 15, 16] [2, 4] [132096, 132160] = ⟨[(0, vc (aS a0)), (2, vc (.pb 2 0)), (4, vc (.pb 4 0)), (14, vc (aL (List.map rS r1))), (15, vc (aI (r1.length : Int))), (16, vc (aI v2))], [(2, [.nil, .nil]), (4, [.own 132096, .own 132160])], [(132096, 2, List.map XPoint.row v3), (132160, 5, List.map XSegment.row v4)]⟩ → go Tryd.prog (.code (.loop c_impl_ParseChart_1) :: [.blk 0, .code c_impl_ParseChart_n1]) (Ret [.c 2 true 2, 3] [.ag [.o 2 (List.map XPoint.row zr.1.Points), .o 5 (List.map XSegment.row zr.1.Segments)], .sc (.v (.bool zr.2))]) .normal (some σ)) (v17 : Bool) (r : XChart × Bool) (h : f_impl_ParseChart_3 a0 r1 v2 v14 v15 k_impl_ParseChart_1 v17 = some r) (σ : St) (hσ : σ.kept [0, 2, 4, 14, 15, 16, 59] [2, 4] [132096, 132160] = ⟨[(0, vc (aS a0)), (2, vc (.pb 2 0)), (4, vc (.pb 4 0)), (14, vc (aL (List.map rS r1))), (15, vc (aI (r1.length : Int))), (16, vc (aI v2)), (59, vc (aB v17))], [(2, [.nil, .nil]), (4, [.own 132096, .own 132160])], [(132096, 2, List.map XPoint.row v14), (132160, 5, List.map XSegment.row v15)]⟩) : go Tryd.prog (.code c_impl_ParseChart_3 :: [.blk 1, .code c_impl_ParseChart_n2, .code (.loop c_impl_ParseChart_1), .blk 0, .code c_impl_ParseChart_n1]) (Ret [.c 2 true 2, 3] [.ag [.o 2 (List.map XPoint.row r.1.Points), .o 5 (List.map XSegment.row r.1.Segments)], .sc (.v (.bool r.2))]) .normal (some σ) := by
  unfold f_impl_ParseChart_3 at h
  rcases Bool.eq_false_or_eq_true v17 with hb18 | hb18
  · rw [ite_t hb18] at h
    try simp only [hσ, hb18, c_impl_ParseChart_3, Nat.reduceBEq, Nat.reduceMul, Nat.reduceAdd, Nat.reduceDiv, Int.reduceBEq, rules2, rulesX, rowsX]
    cases h
    try simp only [rulesR, Nat.reduceBEq, Nat.reduceMul, Nat.reduceAdd, Nat.reduceDiv, Int.reduceBEq, rules2, rulesX, rowsX]
    exact ⟨⟨⟨rfl, rfl, trivial⟩, rfl, trivial⟩, rfl⟩
  · rw [ite_f hb18] at h
    try simp only [hσ, hb18, c_impl_ParseChart_3, c_impl_ParseChart_n2, Nat.reduceBEq, Nat.reduceMul, Nat.reduceAdd, Nat.reduceDiv, Int.reduceBEq, rules2, rulesX, rowsX]
    refine hk_impl_ParseChart_1 _ _ _ _ h _ ?_
    try simp only [hb18, Nat.reduceBEq, Nat.reduceMul, Nat.reduceAdd, Nat.reduceDiv, Int.reduceBEq, rules2, rulesX, rowsX, List.map_nil]
theorem w_impl_ParseChart_2 (a0 : List UInt8) (r1 : (List (List UInt8))) (v2 : Int) (k_impl_ParseChart_1 : Int → (List XPoint) → (List XSegment) → Option (XChart × Bool)) (hk_impl_ParseChart_1 : ∀ (v2 : Int) (v3 : List XPoint) (v4 : List XSegment) zr, k_impl_ParseChart_1 v2 v3 v4 = some zr → ∀ σ : St, σ.kept [0, 2, 4, 14, 15, 16] [2, 4] [132096, 132160] = ⟨[(0, vc (aS a0)), (2, vc (.pb 2 0)), (4, vc (.pb 4 0)), (14, vc (aL (List.map rS r1))), (15, vc (aI (r1.length : Int))), (16, vc (aI v2))], [(2, [.nil, .nil]), (4, [.own 132096, .own 132160])], [(132096, 2, List.map XPoint.row v3), (132160, 5, List.map XSegment.row v4)]⟩ → go Tryd.prog (.code (.loop c_impl_ParseChart_1) :: [.blk 0, .code c_impl_ParseChart_n1]) (Ret [.c 2 true 2, 3] [.ag [.o 2 (List.map XPoint.row zr.1.Points), .o 5 (List.map XSegment.row zr.1.Segments)], .sc (.v (.bool zr.2))]) .normal (some σ)) (v14 : List XPoint) (v15 : List XSegment) (r : XChart × Bool) (h : f_impl_ParseChart_2 a0 r1 v2 k_impl_ParseChart_1 v14 v15 = some r) (σ : St) (hσ : σ.kept [0, 2, 4, 14, 15, 16] [2, 4] [132096, 132160] = ⟨[(0, vc (aS a0)), (2, vc (.pb 2 0)), (4, vc (.pb 4 0)), (14, vc (aL (List.map rS r1))), (15, vc (aI (r1.length : Int))), (16, vc (aI v2))], [(2, [.nil, .nil]), (4, [.own 132096, .own 132160])], [(132096, 2, List.map XPoint.row v14), (132160, 5, List.map XSegment.row v15)]⟩) : go Tryd.prog (.code c_impl_ParseChart_2 :: [.blk 1, .code c_impl_ParseChart_n2, .code (.loop c_impl_ParseChart_1), .blk 0, .code c_impl_ParseChart_n1]) (Ret [.c 2 true 2, 3] [.ag [.o 2 (List.map XPoint.row r.1.Points), .o 5 (List.map XSegment.row r.1.Segments)], .sc (.v (.bool r.2))]) .normal (some σ) := by
  unfold f_impl_ParseChart_2 at h
  rcases Bool.eq_false_or_eq_true (decide ((8 : Int) < (v14.length : Int))) with hb16 | hb16
  · rw [ite_t hb16] at h
    try simp only [hσ, hb16, c_impl_ParseChart_2, Nat.reduceBEq, Nat.reduceMul, Nat.reduceAdd, Nat.reduceDiv, Int.reduceBEq, rules2, rulesX, rowsX]
    refine w_impl_ParseChart_3 _ _ _ _ _ k_impl_ParseChart_1 hk_impl_ParseChart_1 _ _ h _ ?_
    try simp only [hb16, Nat.reduceBEq, Nat.reduceMul, Nat.reduceAdd, Nat.reduceDiv, Int.reduceBEq, rules2, rulesX, rowsX, List.map_nil]
  · rw [ite_f hb16] at h
    try simp only [hσ, hb16, c_impl_ParseChart_2, Nat.reduceBEq, Nat.reduceMul, Nat.reduceAdd, Nat.reduceDiv, Int.reduceBEq, rules2, rulesX, rowsX]
    refine w_impl_ParseChart_3 _ _ _ _ _ k_impl_ParseChart_1 hk_impl_ParseChart_1 _ _ h _ ?_
    try simp only [hb16, Nat.reduceBEq, Nat.reduceMul, Nat.reduceAdd, Nat.reduceDiv, Int.reduceBEq, rules2, rulesX, rowsX, List.map_nil]
theorem w_impl_ParseChart_4 (v3 : List XPoint) (v4 : List XSegment) (v22 : Bool) (r : XChart × Bool) (h : f_impl_ParseChart_4 v3 v4 v22 = some r) (σ : St) (hσ : σ.kept [2, 4, 70] [2, 4] [132096, 132160] = ⟨[(2, vc (.pb 2 0)), (4, vc (.pb 4 0)), (70, vc (aB v22))], [(2, [.nil, .nil]), (4, [.own 132096, .own 132160])], [(132096, 2, List.map XPoint.row v3), (132160, 5, List.map XSegment.row v4)]⟩) : go Tryd.prog (.code c_impl_ParseChart_4 :: [.code c_impl_ParseChart_n3]) (Ret [.c 2 true 2, 3] [.ag [.o 2 (List.map XPoint.row r.1.Points), .o 5 (List.map XSegment.row r.1.Segments)], .sc (.v (.bool r.2))]) .normal (some σ) := by
  unfold f_impl_ParseChart_4 at h
  rcases Bool.eq_false_or_eq_true v22 with hb23 | hb23
  · rw [ite_t hb23] at h
    try simp only [hσ, hb23, c_impl_ParseChart_4, Nat.reduceBEq, Nat.reduceMul, Nat.reduceAdd, Nat.reduceDiv, Int.reduceBEq, rules2, rulesX, rowsX]
    cases h
    try simp only [rulesR, Nat.reduceBEq, Nat.reduceMul, Nat.reduceAdd, Nat.reduceDiv, Int.reduceBEq, rules2, rulesX, rowsX]
    exact ⟨⟨⟨rfl, rfl, trivial⟩, rfl, trivial⟩, rfl⟩
  · rw [ite_f hb23] at h
    try simp only [hσ, hb23, c_impl_ParseChart_4, c_impl_ParseChart_n3, Nat.reduceBEq, Nat.reduceMul, Nat.reduceAdd, Nat.reduceDiv, Int.reduceBEq, rules2, rulesX, rowsX]
    cases h
    try simp only [rulesR, Nat.reduceBEq, Nat.reduceMul, Nat.reduceAdd, Nat.reduceDiv, Int.reduceBEq, rules2, rulesX, rowsX]
    exact ⟨⟨⟨rfl, rfl, trivial⟩, rfl, trivial⟩, rfl⟩
theorem w_impl_ParseChart_1 (a0 : List UInt8) (r1 : (List (List UInt8))) : ∀ (n : Nat) (v2 : Int) (v3 : List XPoint) (v4 : List XSegment) (r : XChart × Bool), f_impl_ParseChart_1 a0 r1 n v2 v3 v4 = some r → ∀ σ : St, σ.kept [0, 2, 4, 14, 15, 16] [2, 4] [132096, 132160] = ⟨[(0, vc (aS a0)), (2, vc (.pb 2 0)), (4, vc (.pb 4 0)), (14, vc (aL (List.map rS r1))), (15, vc (aI (r1.length : Int))), (16, vc (aI v2))], [(2, [.nil, .nil]), (4, [.own 132096, .own 132160])], [(132096, 2, List.map XPoint.row v3), (132160, 5, List.map XSegment.row v4)]⟩ → go Tryd.prog (.code (.loop c_impl_ParseChart_1) :: [.blk 0, .code c_impl_ParseChart_n1]) (Ret [.c 2 true 2, 3] [.ag [.o 2 (List.map XPoint.row r.1.Points), .o 5 (List.map XSegment.row r.1.Segments)], .sc (.v (.bool r.2))]) .normal (some σ) := by
  intro n
  induction n with
  | zero => intro _ _ _ r h; cases h
  | succ n ih =>
    intro v2 v3 v4 r h σ hσ
    rw [f_impl_ParseChart_1] at h
    refine go_round ?_
    rcases Bool.eq_false_or_eq_true (decide (v2 < (r1.length : Int))) with hb5 | hb5
    · rw [ite_t hb5] at h
      obtain ⟨x6, hx6, h⟩ := ob h
      obtain ⟨r7, hr7, h⟩ := ob h
      try simp only [hσ, hb5, hx6, c_impl_ParseChart_1, Nat.reduceBEq, Nat.reduceMul, Nat.reduceAdd, Nat.reduceDiv, Int.reduceBEq, rules2, rulesX, rowsX]
      refine go_callI (w_impl_SplitAny _ _ _ hr7) rfl rfl (Nat.le_of_ble_eq_true rfl) ?_
      obtain ⟨r8, hr8, h⟩ := ob h
      try simp only [hb5, hx6, Nat.reduceBEq, Nat.reduceMul, Nat.reduceAdd, Nat.reduceDiv, Int.reduceBEq, rules2, rulesX, rowsX]
      refine go_call (w_impl_pointOf _ _ hr8) rfl (flat_of rfl) rfl (Nat.le_of_ble_eq_true rfl) ?_
      try simp only [hb5, hx6, Nat.reduceBEq, Nat.reduceMul, Nat.reduceAdd, Nat.reduceDiv, Int.reduceBEq, rules2, rulesX, rowsX]
      refine go_al rfl rfl ?_
      obtain ⟨r9, hr9, h⟩ := ob h
      try simp only [hb5, hx6, Nat.reduceBEq, Nat.reduceMul, Nat.reduceAdd, Nat.reduceDiv, Int.reduceBEq, rules2, rulesX, rowsX]
      refine go_call (w_impl_segmentOf _ _ _ hr9) rfl (flat_of rfl) rfl (Nat.le_of_ble_eq_true rfl) ?_
      try simp only [hb5, hx6, Nat.reduceBEq, Nat.reduceMul, Nat.reduceAdd, Nat.reduceDiv, Int.reduceBEq, rules2, rulesX, rowsX]
      refine go_al rfl rfl ?_
      rcases Bool.eq_false_or_eq_true r8.2 with hb10 | hb10
      · rw [ite_t hb10] at h
        try simp only [hb5, hx6, hb10, Nat.reduceBEq, Nat.reduceMul, Nat.reduceAdd, Nat.reduceDiv, Int.reduceBEq, rules2, rulesX, rowsX]
        refine go_bsl (es := List.map XPoint.row ([(⟨r8.1.Name, r8.1.Wait⟩ : XPoint)] : List XPoint)) rfl rfl ?_
        obtain ⟨hg11, h⟩ := of_guard h
        try simp only [hb5, hx6, hb10, hg11, Nat.reduceBEq, Nat.reduceMul, Nat.reduceAdd, Nat.reduceDiv, Int.reduceBEq, rules2, rulesX, rowsX]
        refine w_impl_ParseChart_2 _ _ _ (f_impl_ParseChart_1 a0 r1 n) ih _ _ _ h _ ?_
        try simp only [hb5, hx6, hb10, hg11, Nat.reduceBEq, Nat.reduceMul, Nat.reduceAdd, Nat.reduceDiv, Int.reduceBEq, rules2, rulesX, rowsX, List.map_nil]
      · rw [ite_f hb10] at h
        rcases Bool.eq_false_or_eq_true r9.2 with hb12 | hb12
        · rw [ite_t hb12] at h
          try simp only [hb5, hx6, hb10, hb12, Nat.reduceBEq, Nat.reduceMul, Nat.reduceAdd, Nat.reduceDiv, Int.reduceBEq, rules2, rulesX, rowsX]
          refine go_bsl (es := List.map XSegment.row ([(⟨r9.1.A, r9.1.B, r9.1.Depth, r9.1.Minutes, r9.1.Meet⟩ : XSegment)] : List XSegment)) rfl rfl ?_
          obtain ⟨hg13, h⟩ := of_guard h
          try simp only [hb5, hx6, hb10, hb12, hg13, Nat.reduceBEq, Nat.reduceMul, Nat.reduceAdd, Nat.reduceDiv, Int.reduceBEq, rules2, rulesX, rowsX]
          refine w_impl_ParseChart_2 _ _ _ (f_impl_ParseChart_1 a0 r1 n) ih _ _ _ h _ ?_
          try simp only [hb5, hx6, hb10, hb12, hg13, Nat.reduceBEq, Nat.reduceMul, Nat.reduceAdd, Nat.reduceDiv, Int.reduceBEq, rules2, rulesX, rowsX, List.map_nil]
        · rw [ite_f hb12] at h
          try simp only [hb5, hx6, hb10, hb12, Nat.reduceBEq, Nat.reduceMul, Nat.reduceAdd, Nat.reduceDiv, Int.reduceBEq, rules2, rulesX, rowsX]
          cases h
          try simp only [rulesR, Nat.reduceBEq, Nat.reduceMul, Nat.reduceAdd, Nat.reduceDiv, Int.reduceBEq, rules2, rulesX, rowsX]
          exact ⟨⟨⟨rfl, rfl, trivial⟩, rfl, trivial⟩, rfl⟩
    · rw [ite_f hb5] at h
      obtain ⟨r19, hr19, h⟩ := ob h
      try simp only [hσ, hb5, c_impl_ParseChart_1, c_impl_ParseChart_n1, Nat.reduceBEq, Nat.reduceMul, Nat.reduceAdd, Nat.reduceDiv, Int.reduceBEq, rules2, rulesX, rowsX]
      refine go_call (w_impl_ChartOk _ _ hr19) rfl (flat_of rfl) rfl (Nat.le_of_ble_eq_true rfl) ?_
      rcases Bool.eq_false_or_eq_true r19 with hb20 | hb20
      · rw [ite_t hb20] at h
        obtain ⟨r21, hr21, h⟩ := ob h
        try simp only [hb5, hb20, Nat.reduceBEq, Nat.reduceMul, Nat.reduceAdd, Nat.reduceDiv, Int.reduceBEq, rules2, rulesX, rowsX]
        refine go_call (w_impl_FormatChart _ _ hr21) rfl (flat_of rfl) rfl (Nat.le_of_ble_eq_true rfl) ?_
        try simp only [hb5, hb20, Nat.reduceBEq, Nat.reduceMul, Nat.reduceAdd, Nat.reduceDiv, Int.reduceBEq, rules2, rulesX, rowsX]
        refine w_impl_ParseChart_4 _ _ _ _ h _ ?_
        try simp only [hb5, hb20, Nat.reduceBEq, Nat.reduceMul, Nat.reduceAdd, Nat.reduceDiv, Int.reduceBEq, rules2, rulesX, rowsX, List.map_nil]
      · rw [ite_f hb20] at h
        try simp only [hb5, hb20, Nat.reduceBEq, Nat.reduceMul, Nat.reduceAdd, Nat.reduceDiv, Int.reduceBEq, rules2, rulesX, rowsX]
        refine w_impl_ParseChart_4 _ _ _ _ h _ ?_
        try simp only [hb5, hb20, Nat.reduceBEq, Nat.reduceMul, Nat.reduceAdd, Nat.reduceDiv, Int.reduceBEq, rules2, rulesX, rowsX, List.map_nil]
theorem e_impl_ParseChart : entry Tryd.prog 17 = some (c_impl_ParseChart.strip, [.c 2 true 2, 3], 73) := by kernel_rfl
theorem w_impl_ParseChart (a0 : List UInt8) (r : XChart × Bool) (h : f_impl_ParseChart a0 = some r) : FC Tryd.prog 17 [.sc (.str a0)] [.ag [.o 2 (List.map XPoint.row r.1.Points), .o 5 (List.map XSegment.row r.1.Segments)], .sc (.v (.bool r.2))] := by
  unfold f_impl_ParseChart at h
  refine FC_go (σ := ⟨[(0, vc (aS a0))], [], []⟩) mixed e_impl_ParseChart rfl rfl ?_
  simp only [c_impl_ParseChart]
  try simp only [Nat.reduceBEq, Nat.reduceMul, Nat.reduceAdd, Nat.reduceDiv, Int.reduceBEq, rules2, rulesX, rowsX]
  refine go_al rfl rfl ?_
  try simp only [Nat.reduceBEq, Nat.reduceMul, Nat.reduceAdd, Nat.reduceDiv, Int.reduceBEq, rules2, rulesX, rowsX]
  refine go_al rfl rfl ?_
  try simp only [Nat.reduceBEq, Nat.reduceMul, Nat.reduceAdd, Nat.reduceDiv, Int.reduceBEq, rules2, rulesX, rowsX]
  refine go_ownb' (cs' := [.own 132096, .nil]) rfl rfl rfl rfl ?_
  try simp only [Nat.reduceBEq, Nat.reduceMul, Nat.reduceAdd, Nat.reduceDiv, Int.reduceBEq, rules2, rulesX, rowsX]
  refine go_ownb' (cs' := [.own 132096, .own 132160]) rfl rfl rfl rfl ?_
  obtain ⟨r1, hr1, h⟩ := ob h
  try simp only [Nat.reduceBEq, Nat.reduceMul, Nat.reduceAdd, Nat.reduceDiv, Int.reduceBEq, rules2, rulesX, rowsX]
  refine go_callI (w_impl_SplitLines _ _ hr1) rfl rfl (Nat.le_of_ble_eq_true rfl) ?_
  try simp only [Nat.reduceBEq, Nat.reduceMul, Nat.reduceAdd, Nat.reduceDiv, Int.reduceBEq, rules2, rulesX, rowsX]
  refine w_impl_ParseChart_1 _ _ _ _ _ _ _ h _ ?_
  try simp only [Nat.reduceBEq, Nat.reduceMul, Nat.reduceAdd, Nat.reduceDiv, Int.reduceBEq, rules2, rulesX, rowsX, List.map_nil]
/- 72: laws_eqPoint -/
def c_laws_eqPoint : ACode := (.seq (.reg [(none, .box 2 (S 0)), (none, .box 3 (S 1)), (none, .mv 4 (KB false))]) (.seq (.seq (.reg [(none, .faddr 5 (S 2) 0), (none, .load 6 (S 5) false 1), (none, .faddr 7 (S 3) 0), (none, .load 8 (S 7) false 1), (none, .bin 9 .neq (S 6) (S 8))]) (.cond (S 9) (.seq (.reg [(none, .mv 4 (KB false))]) .ret) .skip)) (.seq (.seq (.reg [(none, .faddr 10 (S 2) 1), (none, .load 11 (S 10) false 1), (none, .faddr 12 (S 3) 1), (none, .load 13 (S 12) false 1), (none, .beq 14 true (S 11) (S 13))]) (.cond (S 14) (.seq (.reg [(none, .mv 4 (KB false))]) .ret) .skip)) (.seq (.reg [(none, .mv 4 (KB true))]) .ret))))
theorem e_laws_eqPoint : entry Tryd.prog 72 = some (c_laws_eqPoint.strip, [4], 15) := by kernel_rfl
theorem w_laws_eqPoint (a0 : XPoint) (a1 : XPoint) (r : Bool) (h : f_laws_eqPoint a0 a1 = some r) : FC Tryd.prog 72 [.ag (XPoint.row a0), .ag (XPoint.row a1)] [.sc (.v (.bool r))] := by
  unfold f_laws_eqPoint at h
  refine FC_go (σ := ⟨[(0, va [aS a0.Name, aB a0.Wait]), (1, va [aS a1.Name, aB a1.Wait])], [], []⟩) mixed e_laws_eqPoint rfl rfl ?_
  simp only [c_laws_eqPoint]
  try simp only [Nat.reduceBEq, Nat.reduceMul, Nat.reduceAdd, Nat.reduceDiv, Int.reduceBEq, rules2, rulesX, rowsX]
  refine go_bx rfl rfl rfl ?_
  try simp only [Nat.reduceBEq, Nat.reduceMul, Nat.reduceAdd, Nat.reduceDiv, Int.reduceBEq, rules2, rulesX, rowsX]
  refine go_bx rfl rfl rfl ?_
  rcases Bool.eq_false_or_eq_true (a0.Name == a1.Name) with hb1 | hb1
  · rw [ite_t hb1] at h
    rcases Bool.eq_false_or_eq_true (a0.Wait == a1.Wait) with hb2 | hb2
    · rw [ite_t hb2] at h
      try simp only [hb1, hb2, Nat.reduceBEq, Nat.reduceMul, Nat.reduceAdd, Nat.reduceDiv, Int.reduceBEq, rules2, rulesX, rowsX]
      cases h
      exact ⟨⟨rfl, trivial⟩, rfl⟩
    · rw [ite_f hb2] at h
      try simp only [hb1, hb2, Nat.reduceBEq, Nat.reduceMul, Nat.reduceAdd, Nat.reduceDiv, Int.reduceBEq, rules2, rulesX, rowsX]
      cases h
      exact ⟨⟨rfl, trivial⟩, rfl⟩
  · rw [ite_f hb1] at h
    try simp only [hb1, Nat.reduceBEq, Nat.reduceMul, Nat.reduceAdd, Nat.reduceDiv, Int.reduceBEq, rules2, rulesX, rowsX]
    cases h
    exact ⟨⟨rfl, trivial⟩, rfl⟩
/- 43: laws_eqPointS -/
def c_laws_eqPointS_1 : ACode := .seq (.reg [(none, .keep [0, 1, 5] [] [])]) (.seq (.seq (.reg [(none, .mv 11 (S 5)), (none, .mv 12 (S 0)), (none, .len 13 (S 12)), (none, .bin 14 .lss (S 11) (S 13))]) (.cond (S 14) .skip (.exit 0))) (.seq (.block 1 (.seq (.drw [(some [], (none, .mv 17 (S 0))), (some [], (none, .mv 18 (S 5))), (some [], (none, .iaddr 19 (S 17) (S 18) 2)), (some [], (none, .load 20 (S 19) true 2)), (some [], (none, .mv 21 (S 1))), (some [], (none, .mv 22 (S 5))), (some [], (none, .iaddr 23 (S 21) (S 22) 2)), (some [], (none, .load 24 (S 23) true 2)), (some [], (none, .call 25 72 [(S 20), (S 24)])), (some [], (none, .un 26 .not (S 25)))]) (.cond (S 26) (.seq (.reg [(none, .mv 4 (KB false))]) .ret) .skip))) (.reg [(none, .mv 15 (S 5)), (none, .bin 16 .add (S 15) (K 1)), (none, .mv 5 (S 16))])))
def c_laws_eqPointS_n1 : ACode := (.seq (.reg [(none, .mv 4 (KB true))]) .ret)
def c_laws_eqPointS : ACode := (.seq (.reg [(none, .mv 4 (KB false))]) (.seq (.seq (.reg [(none, .mv 6 (S 0)), (none, .len 7 (S 6)), (none, .mv 8 (S 1)), (none, .len 9 (S 8)), (none, .bin 10 .neq (S 7) (S 9))]) (.cond (S 10) (.seq (.reg [(none, .mv 4 (KB false))]) .ret) .skip)) (.seq (.seq (.reg [(none, .mv 5 (K 0))]) (.block 0 (.loop c_laws_eqPointS_1))) c_laws_eqPointS_n1)))
theorem w_laws_eqPointS_1 (a0 : List XPoint) (a1 : List XPoint) : ∀ (n : Nat) (v2 : Int) (r : Bool), f_laws_eqPointS_1 a0 a1 n v2 = some r → ∀ σ : St, σ.kept [0, 1, 5] [] [] = ⟨[(0, vc (aL (List.map XPoint.row a0))), (1, vc (aL (List.map XPoint.row a1))), (5, vc (aI v2))], [], []⟩ → go Tryd.prog (.code (.loop c_laws_eqPointS_1) :: [.blk 0, .code c_laws_eqPointS_n1]) (Ret [4] [.sc (.v (.bool r))]) .normal (some σ) := by
  intro n
  induction n with
  | zero => intro _ r h; cases h
  | succ n ih =>
    intro v2 r h σ hσ
    rw [f_laws_eqPointS_1] at h
    refine go_round ?_
    rcases Bool.eq_false_or_eq_true (decide (v2 < (a0.length : Int))) with hb3 | hb3
    · rw [ite_t hb3] at h
      try simp only [hσ, hb3, c_laws_eqPointS_1, Nat.reduceBEq, Nat.reduceMul, Nat.reduceAdd, Nat.reduceDiv, Int.reduceBEq, rules2, rulesX, rowsX]
      refine go_fr_of rfl ?_
      obtain ⟨x4, hx4, h⟩ := ob h
      obtain ⟨x5, hx5, h⟩ := ob h
      obtain ⟨r6, hr6, h⟩ := ob h
      try simp only [hb3, hx4, hx5, Nat.reduceBEq, Nat.reduceMul, Nat.reduceAdd, Nat.reduceDiv, Int.reduceBEq, rules2, rulesX, rowsX]
      refine go_dcallI (w_laws_eqPoint _ _ _ hr6) rfl rfl (Nat.le_of_ble_eq_true rfl) ?_
      rcases Bool.eq_false_or_eq_true r6 with hb7 | hb7
      · rw [ite_t hb7] at h
        try simp only [hb3, hx4, hx5, hb7, Nat.reduceBEq, Nat.reduceMul, Nat.reduceAdd, Nat.reduceDiv, Int.reduceBEq, rules2, rulesX, rowsX]
        refine ih _ _ h _ ?_
        try simp only [hb3, hx4, hx5, hb7, Nat.reduceBEq, Nat.reduceMul, Nat.reduceAdd, Nat.reduceDiv, Int.reduceBEq, rules2, rulesX, rowsX, List.map_nil]
      · rw [ite_f hb7] at h
        try simp only [hb3, hx4, hx5, hb7, Nat.reduceBEq, Nat.reduceMul, Nat.reduceAdd, Nat.reduceDiv, Int.reduceBEq, rules2, rulesX, rowsX]
        cases h
        exact ⟨⟨rfl, trivial⟩, rfl⟩
    · rw [ite_f hb3] at h
      try simp only [hσ, hb3, c_laws_eqPointS_1, c_laws_eqPointS_n1, Nat.reduceBEq, Nat.reduceMul, Nat.reduceAdd, Nat.reduceDiv, Int.reduceBEq, rules2, rulesX, rowsX]
      cases h
      exact ⟨⟨rfl, trivial⟩, rfl⟩
theorem e_laws_eqPointS : entry Tryd.prog 43 = some (c_laws_eqPointS.strip, [4], 27) := by kernel_rfl
theorem w_laws_eqPointS (a0 : List XPoint) (a1 : List XPoint) (r : Bool) (h : f_laws_eqPointS a0 a1 = some r) : FC Tryd.prog 43 [.sc (.sl (List.map XPoint.row a0)), .sc (.sl (List.map XPoint.row a1))] [.sc (.v (.bool r))] := by
  unfold f_laws_eqPointS at h
  refine FC_go (σ := ⟨[(0, vc (aL (List.map XPoint.row a0))), (1, vc (aL (List.map XPoint.row a1)))], [], []⟩) mixed e_laws_eqPointS rfl rfl ?_
  simp only [c_laws_eqPointS]
  rcases Bool.eq_false_or_eq_true ((a0.length : Int) != (a1.length : Int)) with hb1 | hb1
  · rw [ite_t hb1] at h
    try simp only [hb1, Nat.reduceBEq, Nat.reduceMul, Nat.reduceAdd, Nat.reduceDiv, Int.reduceBEq, rules2, rulesX, rowsX]
    cases h
    exact ⟨⟨rfl, trivial⟩, rfl⟩
  · rw [ite_f hb1] at h
    try simp only [hb1, Nat.reduceBEq, Nat.reduceMul, Nat.reduceAdd, Nat.reduceDiv, Int.reduceBEq, rules2, rulesX, rowsX]
    refine w_laws_eqPointS_1 _ _ _ _ _ h _ ?_
    try simp only [hb1, Nat.reduceBEq, Nat.reduceMul, Nat.reduceAdd, Nat.reduceDiv, Int.reduceBEq, rules2, rulesX, rowsX, List.map_nil]
/- 73: laws_eqSegment -/
def c_laws_eqSegment : ACode := (.seq (.reg [(none, .box 2 (S 0)), (none, .box 3 (S 1)), (none, .mv 4 (KB false))]) (.seq (.seq (.reg [(none, .faddr 5 (S 2) 0), (none, .load 6 (S 5) false 1), (none, .faddr 7 (S 3) 0), (none, .load 8 (S 7) false 1), (none, .bin 9 .neq (S 6) (S 8))]) (.cond (S 9) (.seq (.reg [(none, .mv 4 (KB false))]) .ret) .skip)) (.seq (.seq (.reg [(none, .faddr 10 (S 2) 1), (none, .load 11 (S 10) false 1), (none, .faddr 12 (S 3) 1), (none, .load 13 (S 12) false 1), (none, .bin 14 .neq (S 11) (S 13))]) (.cond (S 14) (.seq (.reg [(none, .mv 4 (KB false))]) .ret) .skip)) (.seq (.seq (.reg [(none, .faddr 15 (S 2) 2), (none, .load 16 (S 15) false 1), (none, .faddr 17 (S 3) 2), (none, .load 18 (S 17) false 1), (none, .bin 19 .neq (S 16) (S 18))]) (.cond (S 19) (.seq (.reg [(none, .mv 4 (KB false))]) .ret) .skip)) (.seq (.seq (.reg [(none, .faddr 20 (S 2) 3), (none, .load 21 (S 20) false 1), (none, .faddr 22 (S 3) 3), (none, .load 23 (S 22) false 1), (none, .bin 24 .neq (S 21) (S 23))]) (.cond (S 24) (.seq (.reg [(none, .mv 4 (KB false))]) .ret) .skip)) (.seq (.seq (.reg [(none, .faddr 25 (S 2) 4), (none, .load 26 (S 25) false 1), (none, .faddr 27 (S 3) 4), (none, .load 28 (S 27) false 1), (none, .beq 29 true (S 26) (S 28))]) (.cond (S 29) (.seq (.reg [(none, .mv 4 (KB false))]) .ret) .skip)) (.seq (.reg [(none, .mv 4 (KB true))]) .ret)))))))
theorem e_laws_eqSegment : entry Tryd.prog 73 = some (c_laws_eqSegment.strip, [4], 30) := by kernel_rfl
theorem w_laws_eqSegment (a0 : XSegment) (a1 : XSegment) (r : Bool) (h : f_laws_eqSegment a0 a1 = some r) : FC Tryd.prog 73 [.ag (XSegment.row a0), .ag (XSegment.row a1)] [.sc (.v (.bool r))] := by
  unfold f_laws_eqSegment at h
  refine FC_go (σ := ⟨[(0, va [aI a0.A, aI a0.B, aI a0.Depth, aI a0.Minutes, aB a0.Meet]), (1, va [aI a1.A, aI a1.B, aI a1.Depth, aI a1.Minutes, aB a1.Meet])], [], []⟩) mixed e_laws_eqSegment rfl rfl ?_
  simp only [c_laws_eqSegment]
  try simp only [Nat.reduceBEq, Nat.reduceMul, Nat.reduceAdd, Nat.reduceDiv, Int.reduceBEq, rules2, rulesX, rowsX]
  refine go_bx rfl rfl rfl ?_
  try simp only [Nat.reduceBEq, Nat.reduceMul, Nat.reduceAdd, Nat.reduceDiv, Int.reduceBEq, rules2, rulesX, rowsX]
  refine go_bx rfl rfl rfl ?_
  rcases Bool.eq_false_or_eq_true (a0.A != a1.A) with hb1 | hb1
  · rw [ite_t hb1] at h
    try simp only [hb1, Nat.reduceBEq, Nat.reduceMul, Nat.reduceAdd, Nat.reduceDiv, Int.reduceBEq, rules2, rulesX, rowsX]
    cases h
    exact ⟨⟨rfl, trivial⟩, rfl⟩
  · rw [ite_f hb1] at h
    rcases Bool.eq_false_or_eq_true (a0.B != a1.B) with hb2 | hb2
    · rw [ite_t hb2] at h
      try simp only [hb1, hb2, Nat.reduceBEq, Nat.reduceMul, Nat.reduceAdd, Nat.reduceDiv, Int.reduceBEq, rules2, rulesX, rowsX]
      cases h
      exact ⟨⟨rfl, trivial⟩, rfl⟩
    · rw [ite_f hb2] at h
      rcases Bool.eq_false_or_eq_true (a0.Depth != a1.Depth) with hb3 | hb3
      · rw [ite_t hb3] at h
        try simp only [hb1, hb2, hb3, Nat.reduceBEq, Nat.reduceMul, Nat.reduceAdd, Nat.reduceDiv, Int.reduceBEq, rules2, rulesX, rowsX]
        cases h
        exact ⟨⟨rfl, trivial⟩, rfl⟩
      · rw [ite_f hb3] at h
        rcases Bool.eq_false_or_eq_true (a0.Minutes != a1.Minutes) with hb4 | hb4
        · rw [ite_t hb4] at h
          try simp only [hb1, hb2, hb3, hb4, Nat.reduceBEq, Nat.reduceMul, Nat.reduceAdd, Nat.reduceDiv, Int.reduceBEq, rules2, rulesX, rowsX]
          cases h
          exact ⟨⟨rfl, trivial⟩, rfl⟩
        · rw [ite_f hb4] at h
          rcases Bool.eq_false_or_eq_true (a0.Meet == a1.Meet) with hb5 | hb5
          · rw [ite_t hb5] at h
            try simp only [hb1, hb2, hb3, hb4, hb5, Nat.reduceBEq, Nat.reduceMul, Nat.reduceAdd, Nat.reduceDiv, Int.reduceBEq, rules2, rulesX, rowsX]
            cases h
            exact ⟨⟨rfl, trivial⟩, rfl⟩
          · rw [ite_f hb5] at h
            try simp only [hb1, hb2, hb3, hb4, hb5, Nat.reduceBEq, Nat.reduceMul, Nat.reduceAdd, Nat.reduceDiv, Int.reduceBEq, rules2, rulesX, rowsX]
            cases h
            exact ⟨⟨rfl, trivial⟩, rfl⟩
/- 44: laws_eqSegmentS -/
def c_laws_eqSegmentS_1 : ACode := .seq (.reg [(none, .keep [0, 1, 5] [] [])]) (.seq (.seq (.reg [(none, .mv 11 (S 5)), (none, .mv 12 (S 0)), (none, .len 13 (S 12)), (none, .bin 14 .lss (S 11) (S 13))]) (.cond (S 14) .skip (.exit 0))) (.seq (.block 1 (.seq (.drw [(some [], (none, .mv 17 (S 0))), (some [], (none, .mv 18 (S 5))), (some [], (none, .iaddr 19 (S 17) (S 18) 5)), (some [], (none, .load 20 (S 19) true 5)), (some [], (none, .mv 21 (S 1))), (some [], (none, .mv 22 (S 5))), (some [], (none, .iaddr 23 (S 21) (S 22) 5)), (some [], (none, .load 24 (S 23) true 5)), (some [], (none, .call 25 73 [(S 20), (S 24)])), (some [], (none, .un 26 .not (S 25)))]) (.cond (S 26) (.seq (.reg [(none, .mv 4 (KB false))]) .ret) .skip))) (.reg [(none, .mv 15 (S 5)), (none, .bin 16 .add (S 15) (K 1)), (none, .mv 5 (S 16))])))
def c_laws_eqSegmentS_n1 : ACode := (.seq (.reg [(none, .mv 4 (KB true))]) .ret)
def c_laws_eqSegmentS : ACode := (.seq (.reg [(none, .mv 4 (KB false))]) (.seq (.seq (.reg [(none, .mv 6 (S 0)), (none, .len 7 (S 6)), (none, .mv 8 (S 1)), (none, .len 9 (S 8)), (none, .bin 10 .neq (S 7) (S 9))]) (.cond (S 10) (.seq (.reg [(none, .mv 4 (KB false))]) .ret) .skip)) (.seq (.seq (.reg [(none, .mv 5 (K 0))]) (.block 0 (.loop c_laws_eqSegmentS_1))) c_laws_eqSegmentS_n1)))
theorem w_laws_eqSegmentS_1 (a0 : List XSegment) (a1 : List XSegment) : ∀ (n : Nat) (v2 : Int) (r : Bool), f_laws_eqSegmentS_1 a0 a1 n v2 = some r → ∀ σ : St, σ.kept [0, 1, 5] [] [] = ⟨[(0, vc (aL (List.map XSegment.row a0))), (1, vc (aL (List.map XSegment.row a1))), (5, vc (aI v2))], [], []⟩ → go Tryd.prog (.code (.loop c_laws_eqSegmentS_1) :: [.blk 0, .code c_laws_eqSegmentS_n1]) (Ret [4] [.sc (.v (.bool r))]) .normal (some σ) := by
  intro n
  induction n with
  | zero => intro _ r h; cases h
  | succ n ih =>
    intro v2 r h σ hσ
    rw [f_laws_eqSegmentS_1] at h
    refine go_round ?_
    rcases Bool.eq_false_or_eq_true (decide (v2 < (a0.length : Int))) with hb3 | hb3
    · rw [ite_t hb3] at h
      try simp only [hσ, hb3, c_laws_eqSegmentS_1, Nat.reduceBEq, Nat.reduceMul, Nat.reduceAdd, Nat.reduceDiv, Int.reduceBEq, rules2, rulesX, rowsX]
      refine go_fr_of rfl ?_
      obtain ⟨x4, hx4, h⟩ := ob h
      obtain ⟨x5, hx5, h⟩ := ob h
      obtain ⟨r6, hr6, h⟩ := ob h
      try simp only [hb3, hx4, hx5, Nat.reduceBEq, Nat.reduceMul, Nat.reduceAdd, Nat.reduceDiv, Int.reduceBEq, rules2, rulesX, rowsX]
      refine go_dcallI (w_laws_eqSegment _ _ _ hr6) rfl rfl (Nat.le_of_ble_eq_true rfl) ?_
      rcases Bool.eq_false_or_eq_true r6 with hb7 | hb7
      · rw [ite_t hb7] at h
        try simp only [hb3, hx4, hx5, hb7, Nat.reduceBEq, Nat.reduceMul, Nat.reduceAdd, Nat.reduceDiv, Int.reduceBEq, rules2, rulesX, rowsX]
        refine ih _ _ h _ ?_
        try simp only [hb3, hx4, hx5, hb7, Nat.reduceBEq, Nat.reduceMul, Nat.reduceAdd, Nat.reduceDiv, Int.reduceBEq, rules2, rulesX, rowsX, List.map_nil]
      · rw [ite_f hb7] at h
        try simp only [hb3, hx4, hx5, hb7, Nat.reduceBEq, Nat.reduceMul, Nat.reduceAdd, Nat.reduceDiv, Int.reduceBEq, rules2, rulesX, rowsX]
        cases h
        exact ⟨⟨rfl, trivial⟩, rfl⟩
    · rw [ite_f hb3] at h
      try simp only [hσ, hb3, c_laws_eqSegmentS_1, c_laws_eqSegmentS_n1, Nat.reduceBEq, Nat.reduceMul, Nat.reduceAdd, Nat.reduceDiv, Int.reduceBEq, rules2, rulesX, rowsX]
      cases h
      exact ⟨⟨rfl, trivial⟩, rfl⟩
theorem e_laws_eqSegmentS : entry Tryd.prog 44 = some (c_laws_eqSegmentS.strip, [4], 27) := by kernel_rfl
theorem w_laws_eqSegmentS (a0 : List XSegment) (a1 : List XSegment) (r : Bool) (h : f_laws_eqSegmentS a0 a1 = some r) : FC Tryd.prog 44 [.sc (.sl (List.map XSegment.row a0)), .sc (.sl (List.map XSegment.row a1))] [.sc (.v (.bool r))] := by
  unfold f_laws_eqSegmentS at h
  refine FC_go (σ := ⟨[(0, vc (aL (List.map XSegment.row a0))), (1, vc (aL (List.map XSegment.row a1)))], [], []⟩) mixed e_laws_eqSegmentS rfl rfl ?_
  simp only [c_laws_eqSegmentS]
  rcases Bool.eq_false_or_eq_true ((a0.length : Int) != (a1.length : Int)) with hb1 | hb1
  · rw [ite_t hb1] at h
    try simp only [hb1, Nat.reduceBEq, Nat.reduceMul, Nat.reduceAdd, Nat.reduceDiv, Int.reduceBEq, rules2, rulesX, rowsX]
    cases h
    exact ⟨⟨rfl, trivial⟩, rfl⟩
  · rw [ite_f hb1] at h
    try simp only [hb1, Nat.reduceBEq, Nat.reduceMul, Nat.reduceAdd, Nat.reduceDiv, Int.reduceBEq, rules2, rulesX, rowsX]
    refine w_laws_eqSegmentS_1 _ _ _ _ _ h _ ?_
    try simp only [hb1, Nat.reduceBEq, Nat.reduceMul, Nat.reduceAdd, Nat.reduceDiv, Int.reduceBEq, rules2, rulesX, rowsX, List.map_nil]
/- 18: laws_eqChart -/
def c_laws_eqChart : ACode := (.seq (.reg [(none, .box 2 (S 0)), (none, .box 3 (S 1)), (none, .mv 4 (KB false))]) (.seq (.seq (.reg [(none, .faddr 5 (S 2) 0), (none, .load 6 (S 5) false 1), (none, .faddr 7 (S 3) 0), (none, .load 8 (S 7) false 1), (none, .call 9 43 [(S 6), (S 8)]), (none, .un 10 .not (S 9))]) (.cond (S 10) (.seq (.reg [(none, .mv 4 (KB false))]) .ret) .skip)) (.seq (.seq (.reg [(none, .faddr 11 (S 2) 1), (none, .load 12 (S 11) false 1), (none, .faddr 13 (S 3) 1), (none, .load 14 (S 13) false 1), (none, .call 15 44 [(S 12), (S 14)]), (none, .un 16 .not (S 15))]) (.cond (S 16) (.seq (.reg [(none, .mv 4 (KB false))]) .ret) .skip)) (.seq (.reg [(none, .mv 4 (KB true))]) .ret))))
theorem e_laws_eqChart : entry Tryd.prog 18 = some (c_laws_eqChart.strip, [4], 17) := by kernel_rfl
theorem w_laws_eqChart (a0 : XChart) (a1 : XChart) (r : Bool) (h : f_laws_eqChart a0 a1 = some r) : FC Tryd.prog 18 [.ag (XChart.row a0), .ag (XChart.row a1)] [.sc (.v (.bool r))] := by
  unfold f_laws_eqChart at h
  refine FC_go (σ := ⟨[(0, va [aL (List.map XPoint.row a0.Points), aL (List.map XSegment.row a0.Segments)]), (1, va [aL (List.map XPoint.row a1.Points), aL (List.map XSegment.row a1.Segments)])], [], []⟩) mixed e_laws_eqChart rfl rfl ?_
  simp only [c_laws_eqChart]
  try simp only [Nat.reduceBEq, Nat.reduceMul, Nat.reduceAdd, Nat.reduceDiv, Int.reduceBEq, rules2, rulesX, rowsX]
  refine go_bx rfl rfl rfl ?_
  try simp only [Nat.reduceBEq, Nat.reduceMul, Nat.reduceAdd, Nat.reduceDiv, Int.reduceBEq, rules2, rulesX, rowsX]
  refine go_bx rfl rfl rfl ?_
  obtain ⟨r1, hr1, h⟩ := ob h
  try simp only [Nat.reduceBEq, Nat.reduceMul, Nat.reduceAdd, Nat.reduceDiv, Int.reduceBEq, rules2, rulesX, rowsX]
  refine go_callI (w_laws_eqPointS _ _ _ hr1) rfl rfl (Nat.le_of_ble_eq_true rfl) ?_
  rcases Bool.eq_false_or_eq_true r1 with hb2 | hb2
  · rw [ite_t hb2] at h
    obtain ⟨r3, hr3, h⟩ := ob h
    try simp only [hb2, Nat.reduceBEq, Nat.reduceMul, Nat.reduceAdd, Nat.reduceDiv, Int.reduceBEq, rules2, rulesX, rowsX]
    refine go_callI (w_laws_eqSegmentS _ _ _ hr3) rfl rfl (Nat.le_of_ble_eq_true rfl) ?_
    rcases Bool.eq_false_or_eq_true r3 with hb4 | hb4
    · rw [ite_t hb4] at h
      try simp only [hb2, hb4, Nat.reduceBEq, Nat.reduceMul, Nat.reduceAdd, Nat.reduceDiv, Int.reduceBEq, rules2, rulesX, rowsX]
      cases h
      exact ⟨⟨rfl, trivial⟩, rfl⟩
    · rw [ite_f hb4] at h
      try simp only [hb2, hb4, Nat.reduceBEq, Nat.reduceMul, Nat.reduceAdd, Nat.reduceDiv, Int.reduceBEq, rules2, rulesX, rowsX]
      cases h
      exact ⟨⟨rfl, trivial⟩, rfl⟩
  · rw [ite_f hb2] at h
    try simp only [hb2, Nat.reduceBEq, Nat.reduceMul, Nat.reduceAdd, Nat.reduceDiv, Int.reduceBEq, rules2, rulesX, rowsX]
    cases h
    exact ⟨⟨rfl, trivial⟩, rfl⟩
/- 74: laws_markText -/
def c_laws_markText_1 : ACode := .seq (.reg [(none, .keep [0, 3] [] [])]) (.seq (.seq (.reg [(none, .mv 6 (S 0)), (none, .bin 7 .gtr (S 6) (K 0))]) (.cond (S 7) .skip (.exit 0))) (.block 1 (.seq (.reg [(none, .mv 8 (S 0)), (none, .bin 9 .rem (S 8) (K 10)), (none, .bin 10 .add (K 48) (S 9)), (none, .conv 11 .u8 (S 10)), (none, .bslice 12 1 [.int .u8 0] 1 [(0, (S 11))]), (none, .sconv 13 (S 12)), (none, .mv 14 (S 3)), (none, .bin 15 .add (S 13) (S 14)), (none, .mv 3 (S 15))]) (.reg [(none, .mv 16 (S 0)), (none, .bin 17 .quo (S 16) (K 10)), (none, .mv 0 (S 17))]))))
def c_laws_markText_n1 : ACode := (.seq (.reg [(none, .mv 18 (S 3)), (none, .bin 19 .add (KS [109]) (S 18)), (none, .mv 2 (S 19))]) .ret)
def c_laws_markText : ACode := (.seq (.reg [(none, .mv 2 (KS []))]) (.seq (.seq (.reg [(none, .mv 4 (S 0)), (none, .bin 5 .leq (S 4) (K 0))]) (.cond (S 5) (.seq (.reg [(none, .mv 2 (KS [109, 48]))]) .ret) .skip)) (.seq (.reg [(none, .mv 3 (KS []))]) (.seq (.block 0 (.loop c_laws_markText_1)) c_laws_markText_n1))))
theorem w_laws_markText_1 : ∀ (n : Nat) (v2 : Int) (v3 : List UInt8) (r : (List UInt8)), f_laws_markText_1 n v2 v3 = some r → ∀ σ : St, σ.kept [0, 3] [] [] = ⟨[(0, vc (aI v2)), (3, vc (aS v3))], [], []⟩ → go Tryd.prog (.code (.loop c_laws_markText_1) :: [.blk 0, .code c_laws_markText_n1]) (Ret [2] [.sc (.v (.str r))]) .normal (some σ) := by
  intro n
  induction n with
  | zero => intro _ _ r h; cases h
  | succ n ih =>
    intro v2 v3 r h σ hσ
    rw [f_laws_markText_1] at h
    refine go_round ?_
    rcases Bool.eq_false_or_eq_true (decide ((0 : Int) < v2)) with hb4 | hb4
    · rw [ite_t hb4] at h
      try simp only [hσ, hb4, c_laws_markText_1, Nat.reduceBEq, Nat.reduceMul, Nat.reduceAdd, Nat.reduceDiv, Int.reduceBEq, rules2, rulesX, rowsX]
      refine go_bsl (es := List.map r8 ([(IntKind.u8.wrap (IntKind.i64.wrap ((48 : Int) + (IntKind.i64.wrap (Int.tmod v2 (10 : Int))))))] : List Int)) rfl rfl ?_
      obtain ⟨hg5, h⟩ := of_guard h
      try simp only [hb4, hg5, Nat.reduceBEq, Nat.reduceMul, Nat.reduceAdd, Nat.reduceDiv, Int.reduceBEq, rules2, rulesX, rowsX]
      refine ih _ _ _ h _ ?_
      try simp only [hb4, hg5, Nat.reduceBEq, Nat.reduceMul, Nat.reduceAdd, Nat.reduceDiv, Int.reduceBEq, rules2, rulesX, rowsX, List.map_nil]
    · rw [ite_f hb4] at h
      obtain ⟨hg6, h⟩ := of_guard h
      try simp only [hσ, hb4, hg6, c_laws_markText_1, c_laws_markText_n1, Nat.reduceBEq, Nat.reduceMul, Nat.reduceAdd, Nat.reduceDiv, Int.reduceBEq, rules2, rulesX, rowsX]
      cases h
      exact ⟨⟨rfl, trivial⟩, rfl⟩
theorem e_laws_markText : entry Tryd.prog 74 = some (c_laws_markText.strip, [2], 20) := by kernel_rfl
theorem w_laws_markText (a0 : Int) (r : (List UInt8)) (h : f_laws_markText a0 = some r) : FC Tryd.prog 74 [.sc (.int .i64 a0)] [.sc (.v (.str r))] := by
  unfold f_laws_markText at h
  refine FC_go (σ := ⟨[(0, vc (aI a0))], [], []⟩) mixed e_laws_markText rfl rfl ?_
  simp only [c_laws_markText]
  rcases Bool.eq_false_or_eq_true (decide (a0 ≤ (0 : Int))) with hb1 | hb1
  · rw [ite_t hb1] at h
    try simp only [hb1, Nat.reduceBEq, Nat.reduceMul, Nat.reduceAdd, Nat.reduceDiv, Int.reduceBEq, rules2, rulesX, rowsX]
    cases h
    exact ⟨⟨rfl, trivial⟩, rfl⟩
  · rw [ite_f hb1] at h
    try simp only [hb1, Nat.reduceBEq, Nat.reduceMul, Nat.reduceAdd, Nat.reduceDiv, Int.reduceBEq, rules2, rulesX, rowsX]
    refine w_laws_markText_1 _ _ _ _ h _ ?_
    try simp only [hb1, Nat.reduceBEq, Nat.reduceMul, Nat.reduceAdd, Nat.reduceDiv, Int.reduceBEq, rules2, rulesX, rowsX, List.map_nil]
/- 45: laws_markPointS -/
def c_laws_markPointS_1 : ACode := .seq (.reg [(none, .keep [0, 1, 5] [] [1099511627776])]) (.seq (.seq (.reg [(none, .mv 6 (S 5)), (none, .mv 7 (S 0)), (none, .len 8 (S 7)), (none, .bin 9 .lss (S 6) (S 8))]) (.cond (S 9) .skip (.exit 0))) (.seq (.block 1 (.seq (.reg [(none, .mv 12 (S 0)), (none, .mv 13 (S 5)), (none, .mv 14 (S 1)), (none, .call 15 74 [(S 14)]), (none, .iaddr 16 (S 12) (S 13) 2), (none, .faddr 17 (S 16) 0), (none, .store (S 17) (S 15) 1)]) (.seq (.reg [(none, .mv 18 (S 1)), (none, .bin 19 .add (S 18) (K 1)), (none, .mv 1 (S 19))]) (.seq (.reg [(none, .mv 20 (S 0)), (none, .mv 21 (S 5)), (none, .mv 22 (S 1)), (none, .bin 23 .rem (S 22) (K 3)), (none, .bin 24 .eql (S 23) (K 0)), (none, .iaddr 25 (S 20) (S 21) 2), (none, .faddr 26 (S 25) 1), (none, .store (S 26) (S 24) 1)]) (.reg [(none, .mv 27 (S 1)), (none, .bin 28 .add (S 27) (K 1)), (none, .mv 1 (S 28))]))))) (.reg [(none, .mv 10 (S 5)), (none, .bin 11 .add (S 10) (K 1)), (none, .mv 5 (S 11))])))
def c_laws_markPointS_n1 : ACode := (.seq (.reg [(none, .mv 29 (S 1)), (none, .mv 4 (S 29))]) .ret)
def c_laws_markPointS : ACode := (.seq (.reg [(none, .mv 4 (K 0))]) (.seq (.seq (.reg [(none, .mv 5 (K 0))]) (.block 0 (.loop c_laws_markPointS_1))) c_laws_markPointS_n1))
theorem w_laws_markPointS_1 : ∀ (n : Nat) (v1 : Int) (v2 : Int) (v3 : List XPoint) (r : Int × List XPoint), f_laws_markPointS_1 n v1 v2 v3 = some r → ∀ σ : St, σ.kept [0, 1, 5] [] [1099511627776] = ⟨[(0, vc (.own 1099511627776)), (1, vc (aI v1)), (5, vc (aI v2))], [], [(1099511627776, 2, List.map XPoint.row v3)]⟩ → go Tryd.prog (.code (.loop c_laws_markPointS_1) :: [.blk 0, .code c_laws_markPointS_n1]) (RetX [4] (.int .i64 r.1) [(2, List.map XPoint.row r.2)] [(0, 0)]) .normal (some σ) := by
  intro n
  induction n with
  | zero => intro _ _ _ r h; cases h
  | succ n ih =>
    intro v1 v2 v3 r h σ hσ
    rw [f_laws_markPointS_1] at h
    refine go_round ?_
    rcases Bool.eq_false_or_eq_true (decide (v2 < (v3.length : Int))) with hb4 | hb4
    · rw [ite_t hb4] at h
      obtain ⟨r5, hr5, h⟩ := ob h
      try simp only [hσ, hb4, c_laws_markPointS_1, Nat.reduceBEq, Nat.reduceMul, Nat.reduceAdd, Nat.reduceDiv, Int.reduceBEq, rules2, rulesX, rowsX]
      refine go_callI (w_laws_markText _ _ hr5) rfl rfl (Nat.le_of_ble_eq_true rfl) ?_
      obtain ⟨x6, hx6, h⟩ := ob h
      have hx6n := ix_get hx6
      try simp only [hb4, hx6, Nat.reduceBEq, Nat.reduceMul, Nat.reduceAdd, Nat.reduceDiv, Int.reduceBEq, rules2, rulesX, rowsX]
      refine go_stp (y := (⟨r5, x6.Wait⟩ : XPoint)) rfl rfl hx6n rfl rfl rfl ?_
      obtain ⟨x7, hx7, h⟩ := ob h
      have hx7n := ix_get hx7
      try simp only [hb4, hx6, hx7, Nat.reduceBEq, Nat.reduceMul, Nat.reduceAdd, Nat.reduceDiv, Int.reduceBEq, rules2, rulesX, rowsX]
      refine go_stp (y := (⟨x7.Name, ((IntKind.i64.wrap (Int.tmod (IntKind.i64.wrap (v1 + (1 : Int))) (3 : Int))) == (0 : Int))⟩ : XPoint)) rfl rfl hx7n rfl rfl rfl ?_
      try simp only [hb4, hx6, hx7, Nat.reduceBEq, Nat.reduceMul, Nat.reduceAdd, Nat.reduceDiv, Int.reduceBEq, rules2, rulesX, rowsX]
      refine ih _ _ _ _ h _ ?_
      try simp only [hb4, hx6, hx7, Nat.reduceBEq, Nat.reduceMul, Nat.reduceAdd, Nat.reduceDiv, Int.reduceBEq, rules2, rulesX, rowsX, List.map_nil]
    · rw [ite_f hb4] at h
      try simp only [hσ, hb4, c_laws_markPointS_1, c_laws_markPointS_n1, Nat.reduceBEq, Nat.reduceMul, Nat.reduceAdd, Nat.reduceDiv, Int.reduceBEq, rules2, rulesX, rowsX]
      cases h
      exact ⟨⟨rfl, trivial⟩, ⟨⟨⟨_, rfl, rfl⟩, rfl⟩, trivial⟩⟩
theorem e_laws_markPointS : entry Tryd.prog 45 = some (c_laws_markPointS.strip, [4], 30) := by kernel_rfl
theorem l_laws_markPointS_1 : ∀ (n : Nat) (v1 : Int) (v2 : Int) (v3 : List XPoint) (r : Int × List XPoint), f_laws_markPointS_1 n v1 v2 v3 = some r → r.2.length = v3.length := by
  intro n
  induction n with
  | zero => intro _ _ _ r h; cases h
  | succ n ih =>
    intro v1 v2 v3 r h
    rw [f_laws_markPointS_1] at h
    rcases Bool.eq_false_or_eq_true (decide (v2 < (v3.length : Int))) with hb4 | hb4
    · rw [ite_t hb4] at h
      obtain ⟨r5, hr5, h⟩ := ob h
      obtain ⟨x6, hx6, h⟩ := ob h
      obtain ⟨x7, hx7, h⟩ := ob h
      have hl := ih _ _ _ _ h
      try simp only [List.length_set] at hl
      omega
    · rw [ite_f hb4] at h
      cases h
      all_goals (try dsimp only); first | done | omega | (simp only [List.length_set] at *; omega) | simp_all
theorem l_laws_markPointS (a0 : List XPoint) (a1 : Int) (r : Int × List XPoint) (h : f_laws_markPointS a0 a1 = some r) : r.2.length = a0.length := by
  unfold f_laws_markPointS at h
  have hl := l_laws_markPointS_1 _ _ _ _ _ h
  try simp only [List.length_set] at hl
  omega
theorem w_laws_markPointS (a0 : List XPoint) (a1 : Int) (r : Int × List XPoint) (h : f_laws_markPointS a0 a1 = some r) : FCx Tryd.prog 45 [.sc (.r 0), .sc (.d (.int .i64 a1))] [(2, List.map XPoint.row a0)] [(2, List.map XPoint.row r.2)] (.int .i64 r.1) := by
  unfold f_laws_markPointS at h
  refine FCx_go (ps := [(0, 0)]) (σ := ⟨[(0, vc (.own 1099511627776)), (1, vc (aI a1))], [], [(1099511627776, 2, List.map XPoint.row a0)]⟩) mixed e_laws_markPointS rfl rfl rfl (flatR_cons flatR_nil) rfl ?_
  simp only [c_laws_markPointS]
  try simp only [Nat.reduceBEq, Nat.reduceMul, Nat.reduceAdd, Nat.reduceDiv, Int.reduceBEq, rules2, rulesX, rowsX]
  refine w_laws_markPointS_1 _ _ _ _ _ h _ ?_
  try simp only [Nat.reduceBEq, Nat.reduceMul, Nat.reduceAdd, Nat.reduceDiv, Int.reduceBEq, rules2, rulesX, rowsX, List.map_nil]
/- 46: laws_markSegmentS -/
def c_laws_markSegmentS_1 : ACode := .seq (.reg [(none, .keep [0, 1, 5] [] [1099511627776])]) (.seq (.seq (.reg [(none, .mv 6 (S 5)), (none, .mv 7 (S 0)), (none, .len 8 (S 7)), (none, .bin 9 .lss (S 6) (S 8))]) (.cond (S 9) .skip (.exit 0))) (.seq (.block 1 (.seq (.reg [(none, .mv 12 (S 0)), (none, .mv 13 (S 5)), (none, .mv 14 (S 1)), (none, .iaddr 15 (S 12) (S 13) 5), (none, .faddr 16 (S 15) 0), (none, .store (S 16) (S 14) 1)]) (.seq (.reg [(none, .mv 17 (S 1)), (none, .bin 18 .add (S 17) (K 1)), (none, .mv 1 (S 18))]) (.seq (.reg [(none, .mv 19 (S 0)), (none, .mv 20 (S 5)), (none, .mv 21 (S 1)), (none, .iaddr 22 (S 19) (S 20) 5), (none, .faddr 23 (S 22) 1), (none, .store (S 23) (S 21) 1)]) (.seq (.reg [(none, .mv 24 (S 1)), (none, .bin 25 .add (S 24) (K 1)), (none, .mv 1 (S 25))]) (.seq (.reg [(none, .mv 26 (S 0)), (none, .mv 27 (S 5)), (none, .mv 28 (S 1)), (none, .iaddr 29 (S 26) (S 27) 5), (none, .faddr 30 (S 29) 2), (none, .store (S 30) (S 28) 1)]) (.seq (.reg [(none, .mv 31 (S 1)), (none, .bin 32 .add (S 31) (K 1)), (none, .mv 1 (S 32))]) (.seq (.reg [(none, .mv 33 (S 0)), (none, .mv 34 (S 5)), (none, .mv 35 (S 1)), (none, .iaddr 36 (S 33) (S 34) 5), (none, .faddr 37 (S 36) 3), (none, .store (S 37) (S 35) 1)]) (.seq (.reg [(none, .mv 38 (S 1)), (none, .bin 39 .add (S 38) (K 1)), (none, .mv 1 (S 39))]) (.seq (.reg [(none, .mv 40 (S 0)), (none, .mv 41 (S 5)), (none, .mv 42 (S 1)), (none, .bin 43 .rem (S 42) (K 3)), (none, .bin 44 .eql (S 43) (K 0)), (none, .iaddr 45 (S 40) (S 41) 5), (none, .faddr 46 (S 45) 4), (none, .store (S 46) (S 44) 1)]) (.reg [(none, .mv 47 (S 1)), (none, .bin 48 .add (S 47) (K 1)), (none, .mv 1 (S 48))]))))))))))) (.reg [(none, .mv 10 (S 5)), (none, .bin 11 .add (S 10) (K 1)), (none, .mv 5 (S 11))])))
def c_laws_markSegmentS_n1 : ACode := (.seq (.reg [(none, .mv 49 (S 1)), (none, .mv 4 (S 49))]) .ret)
def c_laws_markSegmentS : ACode := (.seq (.reg [(none, .mv 4 (K 0))]) (.seq (.seq (.reg [(none, .mv 5 (K 0))]) (.block 0 (.loop c_laws_markSegmentS_1))) c_laws_markSegmentS_n1))
theorem w_laws_markSegmentS_1 : ∀ (n : Nat) (v1 : Int) (v2 : Int) (v3 : List XSegment) (r : Int × List XSegment), f_laws_markSegmentS_1 n v1 v2 v3 = some r → ∀ σ : St, σ.kept [0, 1, 5] [] [1099511627776] = ⟨[(0, vc (.own 1099511627776)), (1, vc (aI v1)), (5, vc (aI v2))], [], [(1099511627776, 5, List.map XSegment.row v3)]⟩ → go Tryd.prog (.code (.loop c_laws_markSegmentS_1) :: [.blk 0, .code c_laws_markSegmentS_n1]) (RetX [4] (.int .i64 r.1) [(5, List.map XSegment.row r.2)] [(0, 0)]) .normal (some σ) := by
  intro n
  induction n with
  | zero => intro _ _ _ r h; cases h
  | succ n ih =>
    intro v1 v2 v3 r h σ hσ
    rw [f_laws_markSegmentS_1] at h
    refine go_round ?_
    rcases Bool.eq_false_or_eq_true (decide (v2 < (v3.length : Int))) with hb4 | hb4
    · rw [ite_t hb4] at h
      obtain ⟨x5, hx5, h⟩ := ob h
      have hx5n := ix_get hx5
      try simp only [hσ, hb4, hx5, c_laws_markSegmentS_1, Nat.reduceBEq, Nat.reduceMul, Nat.reduceAdd, Nat.reduceDiv, Int.reduceBEq, rules2, rulesX, rowsX]
      refine go_stp (y := (⟨v1, x5.B, x5.Depth, x5.Minutes, x5.Meet⟩ : XSegment)) rfl rfl hx5n rfl rfl rfl ?_
      obtain ⟨x6, hx6, h⟩ := ob h
      have hx6n := ix_get hx6
      try simp only [hb4, hx5, hx6, Nat.reduceBEq, Nat.reduceMul, Nat.reduceAdd, Nat.reduceDiv, Int.reduceBEq, rules2, rulesX, rowsX]
      refine go_stp (y := (⟨x6.A, (IntKind.i64.wrap (v1 + (1 : Int))), x6.Depth, x6.Minutes, x6.Meet⟩ : XSegment)) rfl rfl hx6n rfl rfl rfl ?_
      obtain ⟨x7, hx7, h⟩ := ob h
      have hx7n := ix_get hx7
      try simp only [hb4, hx5, hx6, hx7, Nat.reduceBEq, Nat.reduceMul, Nat.reduceAdd, Nat.reduceDiv, Int.reduceBEq, rules2, rulesX, rowsX]
      refine go_stp (y := (⟨x7.A, x7.B, (IntKind.i64.wrap ((IntKind.i64.wrap (v1 + (1 : Int))) + (1 : Int))), x7.Minutes, x7.Meet⟩ : XSegment)) rfl rfl hx7n rfl rfl rfl ?_
      obtain ⟨x8, hx8, h⟩ := ob h
      have hx8n := ix_get hx8
      try simp only [hb4, hx5, hx6, hx7, hx8, Nat.reduceBEq, Nat.reduceMul, Nat.reduceAdd, Nat.reduceDiv, Int.reduceBEq, rules2, rulesX, rowsX]
      refine go_stp (y := (⟨x8.A, x8.B, x8.Depth, (IntKind.i64.wrap ((IntKind.i64.wrap ((IntKind.i64.wrap (v1 + (1 : Int))) + (1 : Int))) + (1 : Int))), x8.Meet⟩ : XSegment)) rfl rfl hx8n rfl rfl rfl ?_
      obtain ⟨x9, hx9, h⟩ := ob h
      have hx9n := ix_get hx9
      try simp only [hb4, hx5, hx6, hx7, hx8, hx9, Nat.reduceBEq, Nat.reduceMul, Nat.reduceAdd, Nat.reduceDiv, Int.reduceBEq, rules2, rulesX, rowsX]
      refine go_stp (y := (⟨x9.A, x9.B, x9.Depth, x9.Minutes, ((IntKind.i64.wrap (Int.tmod (IntKind.i64.wrap ((IntKind.i64.wrap ((IntKind.i64.wrap ((IntKind.i64.wrap (v1 + (1 : Int))) + (1 : Int))) + (1 : Int))) + (1 : Int))) (3 : Int))) == (0 : Int))⟩ : XSegment)) rfl rfl hx9n rfl rfl rfl ?_
      try simp only [hb4, hx5, hx6, hx7, hx8, hx9, Nat.reduceBEq, Nat.reduceMul, Nat.reduceAdd, Nat.reduceDiv, Int.reduceBEq, rules2, rulesX, rowsX]
      refine ih _ _ _ _ h _ ?_
      try simp only [hb4, hx5, hx6, hx7, hx8, hx9, Nat.reduceBEq, Nat.reduceMul, Nat.reduceAdd, Nat.reduceDiv, Int.reduceBEq, rules2, rulesX, rowsX, List.map_nil]
    · rw [ite_f hb4] at h
      try simp only [hσ, hb4, c_laws_markSegmentS_1, c_laws_markSegmentS_n1, Nat.reduceBEq, Nat.reduceMul, Nat.reduceAdd, Nat.reduceDiv, Int.reduceBEq, rules2, rulesX, rowsX]
      cases h
      exact ⟨⟨rfl, trivial⟩, ⟨⟨⟨_, rfl, rfl⟩, rfl⟩, trivial⟩⟩
theorem e_laws_markSegmentS : entry Tryd.prog 46 = some (c_laws_markSegmentS.strip, [4], 50) := by kernel_rfl
theorem l_laws_markSegmentS_1 : ∀ (n : Nat) (v1 : Int) (v2 : Int) (v3 : List XSegment) (r : Int × List XSegment), f_laws_markSegmentS_1 n v1 v2 v3 = some r → r.2.length = v3.length := by
  intro n
  induction n with
  | zero => intro _ _ _ r h; cases h
  | succ n ih =>
    intro v1 v2 v3 r h
    rw [f_laws_markSegmentS_1] at h
    rcases Bool.eq_false_or_eq_true (decide (v2 < (v3.length : Int))) with hb4 | hb4
    · rw [ite_t hb4] at h
      obtain ⟨x5, hx5, h⟩ := ob h
      obtain ⟨x6, hx6, h⟩ := ob h
      obtain ⟨x7, hx7, h⟩ := ob h
      obtain ⟨x8, hx8, h⟩ := ob h
      obtain ⟨x9, hx9, h⟩ := ob h
      have hl := ih _ _ _ _ h
      try simp only [List.length_set] at hl
      omega
    · rw [ite_f hb4] at h
      cases h
      all_goals (try dsimp only); first | done | omega | (simp only [List.length_set] at *; omega) | simp_all
theorem l_laws_markSegmentS (a0 : List XSegment) (a1 : Int) (r : Int × List XSegment) (h : f_laws_markSegmentS a0 a1 = some r) : r.2.length = a0.length := by
  unfold f_laws_markSegmentS at h
  have hl := l_laws_markSegmentS_1 _ _ _ _ _ h
  try simp only [List.length_set] at hl
  omega
theorem w_laws_markSegmentS (a0 : List XSegment) (a1 : Int) (r : Int × List XSegment) (h : f_laws_markSegmentS a0 a1 = some r) : FCx Tryd.prog 46 [.sc (.r 0), .sc (.d (.int .i64 a1))] [(5, List.map XSegment.row a0)] [(5, List.map XSegment.row r.2)] (.int .i64 r.1) := by
  unfold f_laws_markSegmentS at h
  refine FCx_go (ps := [(0, 0)]) (σ := ⟨[(0, vc (.own 1099511627776)), (1, vc (aI a1))], [], [(1099511627776, 5, List.map XSegment.row a0)]⟩) mixed e_laws_markSegmentS rfl rfl rfl (flatR_cons flatR_nil) rfl ?_
  simp only [c_laws_markSegmentS]
  try simp only [Nat.reduceBEq, Nat.reduceMul, Nat.reduceAdd, Nat.reduceDiv, Int.reduceBEq, rules2, rulesX, rowsX]
  refine w_laws_markSegmentS_1 _ _ _ _ _ h _ ?_
  try simp only [Nat.reduceBEq, Nat.reduceMul, Nat.reduceAdd, Nat.reduceDiv, Int.reduceBEq, rules2, rulesX, rowsX, List.map_nil]
/- 19: laws_markChart -/
def c_laws_markChart : ACode := (.seq (.reg [(none, .box 2 (S 0)), (none, .mv 4 (K 0))]) (.seq (.reg [(none, .faddr 5 (S 2) 0), (none, .load 6 (S 5) false 1), (none, .mv 7 (S 1)), (none, .call 8 45 [(S 6), (S 7)]), (none, .mv 1 (S 8))]) (.seq (.reg [(none, .faddr 9 (S 2) 1), (none, .load 10 (S 9) false 1), (none, .mv 11 (S 1)), (none, .call 12 46 [(S 10), (S 11)]), (none, .mv 1 (S 12))]) (.seq (.reg [(none, .mv 13 (S 1)), (none, .mv 4 (S 13))]) .ret))))
theorem e_laws_markChart : entry Tryd.prog 19 = some (c_laws_markChart.strip, [4], 14) := by kernel_rfl
theorem l_laws_markChart (a0 : XChart) (a1 : Int) (r : Int × List XPoint × List XSegment) (h : f_laws_markChart a0 a1 = some r) : r.2.1.length = a0.Points.length ∧ r.2.2.length = a0.Segments.length := by
  unfold f_laws_markChart at h
  obtain ⟨r1, hr1, h⟩ := ob h
  have lrr1 := (l_laws_markPointS _ _ _ hr1)
  obtain ⟨r2, hr2, h⟩ := ob h
  have lrr2 := (l_laws_markSegmentS _ _ _ hr2)
  cases h
  all_goals (try dsimp only); first | done | omega | (simp only [List.length_set] at *; omega) | simp_all
theorem w_laws_markChart (a0 : XChart) (a1 : Int) (r : Int × List XPoint × List XSegment) (h : f_laws_markChart a0 a1 = some r) : FCx Tryd.prog 19 [.ag [.r 0, .r 1], .sc (.d (.int .i64 a1))] [(2, List.map XPoint.row a0.Points), (5, List.map XSegment.row a0.Segments)] [(2, List.map XPoint.row r.2.1), (5, List.map XSegment.row r.2.2)] (.int .i64 r.1) := by
  unfold f_laws_markChart at h
  refine FCx_go (ps := [(0, 0), (0, 1)]) (σ := ⟨[(0, va [.own 1099511627776, .own 1099511627777]), (1, vc (aI a1))], [], [(1099511627776, 2, List.map XPoint.row a0.Points), (1099511627777, 5, List.map XSegment.row a0.Segments)]⟩) mixed e_laws_markChart rfl rfl rfl (flatR_cons (flatR_cons flatR_nil)) rfl ?_
  simp only [c_laws_markChart]
  try simp only [Nat.reduceBEq, Nat.reduceMul, Nat.reduceAdd, Nat.reduceDiv, Int.reduceBEq, rules2, rulesX, rowsX]
  refine go_bx rfl rfl rfl ?_
  obtain ⟨r1, hr1, h⟩ := ob h
  try simp only [Nat.reduceBEq, Nat.reduceMul, Nat.reduceAdd, Nat.reduceDiv, Int.reduceBEq, rules2, rulesX, rowsX]
  have lrr1 := (l_laws_markPointS _ _ _ hr1)
  refine go_callx (ids := [1099511627776]) (w_laws_markPointS _ _ _ hr1) rfl rfl rfl (flatR_cons flatR_nil) (sameLen_cons (l_laws_markPointS _ _ _ hr1) sameLen_nil) ?_
  obtain ⟨r2, hr2, h⟩ := ob h
  try simp only [Nat.reduceBEq, Nat.reduceMul, Nat.reduceAdd, Nat.reduceDiv, Int.reduceBEq, rules2, rulesX, rowsX]
  have lrr2 := (l_laws_markSegmentS _ _ _ hr2)
  refine go_callx (ids := [1099511627777]) (w_laws_markSegmentS _ _ _ hr2) rfl rfl rfl (flatR_cons flatR_nil) (sameLen_cons (l_laws_markSegmentS _ _ _ hr2) sameLen_nil) ?_
  try simp only [Nat.reduceBEq, Nat.reduceMul, Nat.reduceAdd, Nat.reduceDiv, Int.reduceBEq, rules2, rulesX, rowsX]
  cases h
  exact ⟨⟨rfl, trivial⟩, ⟨⟨⟨_, rfl, rfl⟩, rfl⟩, ⟨⟨⟨_, rfl, rfl⟩, rfl⟩, trivial⟩⟩⟩
/- 47: laws_heldPointS -/
def c_laws_heldPointS_1 : ACode := .seq (.reg [(none, .keep [0, 1, 5] [] [])]) (.seq (.seq (.reg [(none, .mv 6 (S 5)), (none, .mv 7 (S 0)), (none, .len 8 (S 7)), (none, .bin 9 .lss (S 6) (S 8))]) (.cond (S 9) .skip (.exit 0))) (.seq (.block 1 (.seq (.seq (.drw [(some [18], (none, .mv 12 (S 0))), (some [18], (none, .mv 13 (S 5))), (some [18], (none, .iaddr 14 (S 12) (S 13) 2)), (some [18], (none, .faddr 15 (S 14) 0)), (some [18], (none, .load 16 (S 15) false 1)), (some [], (none, .mv 17 (S 1))), (some [], (none, .call 18 74 [(S 17)])), (some [], (none, .bin 19 .neq (S 16) (S 18)))]) (.cond (S 19) (.seq (.reg [(none, .mv 4 (K (-1)))]) .ret) .skip)) (.seq (.reg [(none, .mv 20 (S 1)), (none, .bin 21 .add (S 20) (K 1)), (none, .mv 1 (S 21))]) (.seq (.seq (.reg [(none, .mv 22 (S 0)), (none, .mv 23 (S 5)), (none, .iaddr 24 (S 22) (S 23) 2), (none, .faddr 25 (S 24) 1), (none, .load 26 (S 25) false 1), (none, .mv 27 (S 1)), (none, .bin 28 .rem (S 27) (K 3)), (none, .bin 29 .eql (S 28) (K 0)), (none, .beq 30 true (S 26) (S 29))]) (.cond (S 30) (.seq (.reg [(none, .mv 4 (K (-1)))]) .ret) .skip)) (.reg [(none, .mv 31 (S 1)), (none, .bin 32 .add (S 31) (K 1)), (none, .mv 1 (S 32))]))))) (.reg [(none, .mv 10 (S 5)), (none, .bin 11 .add (S 10) (K 1)), (none, .mv 5 (S 11))])))
def c_laws_heldPointS_n1 : ACode := (.seq (.reg [(none, .mv 33 (S 1)), (none, .mv 4 (S 33))]) .ret)
def c_laws_heldPointS : ACode := (.seq (.reg [(none, .mv 4 (K 0))]) (.seq (.seq (.reg [(none, .mv 5 (K 0))]) (.block 0 (.loop c_laws_heldPointS_1))) c_laws_heldPointS_n1))
theorem w_laws_heldPointS_1 (a0 : List XPoint) : ∀ (n : Nat) (v1 : Int) (v2 : Int) (r : Int), f_laws_heldPointS_1 a0 n v1 v2 = some r → ∀ σ : St, σ.kept [0, 1, 5] [] [] = ⟨[(0, vc (aL (List.map XPoint.row a0))), (1, vc (aI v1)), (5, vc (aI v2))], [], []⟩ → go Tryd.prog (.code (.loop c_laws_heldPointS_1) :: [.blk 0, .code c_laws_heldPointS_n1]) (Ret [4] [.sc (.v (.int .i64 r))]) .normal (some σ) := by
  intro n
  induction n with
  | zero => intro _ _ r h; cases h
  | succ n ih =>
    intro v1 v2 r h σ hσ
    rw [f_laws_heldPointS_1] at h
    refine go_round ?_
    rcases Bool.eq_false_or_eq_true (decide (v2 < (a0.length : Int))) with hb3 | hb3
    · rw [ite_t hb3] at h
      try simp only [hσ, hb3, c_laws_heldPointS_1, Nat.reduceBEq, Nat.reduceMul, Nat.reduceAdd, Nat.reduceDiv, Int.reduceBEq, rules2, rulesX, rowsX]
      refine go_fr_of rfl ?_
      obtain ⟨x4, hx4, h⟩ := ob h
      obtain ⟨r5, hr5, h⟩ := ob h
      try simp only [hb3, hx4, Nat.reduceBEq, Nat.reduceMul, Nat.reduceAdd, Nat.reduceDiv, Int.reduceBEq, rules2, rulesX, rowsX]
      refine go_dcallI (w_laws_markText _ _ hr5) rfl rfl (Nat.le_of_ble_eq_true rfl) ?_
      rcases Bool.eq_false_or_eq_true (x4.Name == r5) with hb6 | hb6
      · rw [ite_t hb6] at h
        rcases Bool.eq_false_or_eq_true (x4.Wait == ((IntKind.i64.wrap (Int.tmod (IntKind.i64.wrap (v1 + (1 : Int))) (3 : Int))) == (0 : Int))) with hb7 | hb7
        · rw [ite_t hb7] at h
          try simp only [hb3, hx4, hb6, hb7, Nat.reduceBEq, Nat.reduceMul, Nat.reduceAdd, Nat.reduceDiv, Int.reduceBEq, rules2, rulesX, rowsX]
          refine ih _ _ _ h _ ?_
          try simp only [hb3, hx4, hb6, hb7, Nat.reduceBEq, Nat.reduceMul, Nat.reduceAdd, Nat.reduceDiv, Int.reduceBEq, rules2, rulesX, rowsX, List.map_nil]
        · rw [ite_f hb7] at h
          try simp only [hb3, hx4, hb6, hb7, Nat.reduceBEq, Nat.reduceMul, Nat.reduceAdd, Nat.reduceDiv, Int.reduceBEq, rules2, rulesX, rowsX]
          cases h
          exact ⟨⟨rfl, trivial⟩, rfl⟩
      · rw [ite_f hb6] at h
        try simp only [hb3, hx4, hb6, Nat.reduceBEq, Nat.reduceMul, Nat.reduceAdd, Nat.reduceDiv, Int.reduceBEq, rules2, rulesX, rowsX]
        cases h
        exact ⟨⟨rfl, trivial⟩, rfl⟩
    · rw [ite_f hb3] at h
      try simp only [hσ, hb3, c_laws_heldPointS_1, c_laws_heldPointS_n1, Nat.reduceBEq, Nat.reduceMul, Nat.reduceAdd, Nat.reduceDiv, Int.reduceBEq, rules2, rulesX, rowsX]
      cases h
      exact ⟨⟨rfl, trivial⟩, rfl⟩
theorem e_laws_heldPointS : entry Tryd.prog 47 = some (c_laws_heldPointS.strip, [4], 34) := by kernel_rfl
theorem w_laws_heldPointS (a0 : List XPoint) (a1 : Int) (r : Int) (h : f_laws_heldPointS a0 a1 = some r) : FC Tryd.prog 47 [.sc (.sl (List.map XPoint.row a0)), .sc (.int .i64 a1)] [.sc (.v (.int .i64 r))] := by
  unfold f_laws_heldPointS at h
  refine FC_go (σ := ⟨[(0, vc (aL (List.map XPoint.row a0))), (1, vc (aI a1))], [], []⟩) mixed e_laws_heldPointS rfl rfl ?_
  simp only [c_laws_heldPointS]
  try simp only [Nat.reduceBEq, Nat.reduceMul, Nat.reduceAdd, Nat.reduceDiv, Int.reduceBEq, rules2, rulesX, rowsX]
  refine w_laws_heldPointS_1 _ _ _ _ _ h _ ?_
  try simp only [Nat.reduceBEq, Nat.reduceMul, Nat.reduceAdd, Nat.reduceDiv, Int.reduceBEq, rules2, rulesX, rowsX, List.map_nil]
/- 48: laws_heldSegmentS -/
def c_laws_heldSegmentS_1 : ACode := .seq (.reg [(none, .keep [0, 1, 5] [] [])]) (.seq (.seq (.reg [(none, .mv 6 (S 5)), (none, .mv 7 (S 0)), (none, .len 8 (S 7)), (none, .bin 9 .lss (S 6) (S 8))]) (.cond (S 9) .skip (.exit 0))) (.seq (.block 1 (.seq (.seq (.reg [(none, .mv 12 (S 0)), (none, .mv 13 (S 5)), (none, .iaddr 14 (S 12) (S 13) 5), (none, .faddr 15 (S 14) 0), (none, .load 16 (S 15) false 1), (none, .mv 17 (S 1)), (none, .bin 18 .neq (S 16) (S 17))]) (.cond (S 18) (.seq (.reg [(none, .mv 4 (K (-1)))]) .ret) .skip)) (.seq (.reg [(none, .mv 19 (S 1)), (none, .bin 20 .add (S 19) (K 1)), (none, .mv 1 (S 20))]) (.seq (.seq (.reg [(none, .mv 21 (S 0)), (none, .mv 22 (S 5)), (none, .iaddr 23 (S 21) (S 22) 5), (none, .faddr 24 (S 23) 1), (none, .load 25 (S 24) false 1), (none, .mv 26 (S 1)), (none, .bin 27 .neq (S 25) (S 26))]) (.cond (S 27) (.seq (.reg [(none, .mv 4 (K (-1)))]) .ret) .skip)) (.seq (.reg [(none, .mv 28 (S 1)), (none, .bin 29 .add (S 28) (K 1)), (none, .mv 1 (S 29))]) (.seq (.seq (.reg [(none, .mv 30 (S 0)), (none, .mv 31 (S 5)), (none, .iaddr 32 (S 30) (S 31) 5), (none, .faddr 33 (S 32) 2), (none, .load 34 (S 33) false 1), (none, .mv 35 (S 1)), (none, .bin 36 .neq (S 34) (S 35))]) (.cond (S 36) (.seq (.reg [(none, .mv 4 (K (-1)))]) .ret) .skip)) (.seq (.reg [(none, .mv 37 (S 1)), (none, .bin 38 .add (S 37) (K 1)), (none, .mv 1 (S 38))]) (.seq (.seq (.reg [(none, .mv 39 (S 0)), (none, .mv 40 (S 5)), (none, .iaddr 41 (S 39) (S 40) 5), (none, .faddr 42 (S 41) 3), (none, .load 43 (S 42) false 1), (none, .mv 44 (S 1)), (none, .bin 45 .neq (S 43) (S 44))]) (.cond (S 45) (.seq (.reg [(none, .mv 4 (K (-1)))]) .ret) .skip)) (.seq (.reg [(none, .mv 46 (S 1)), (none, .bin 47 .add (S 46) (K 1)), (none, .mv 1 (S 47))]) (.seq (.seq (.reg [(none, .mv 48 (S 0)), (none, .mv 49 (S 5)), (none, .iaddr 50 (S 48) (S 49) 5), (none, .faddr 51 (S 50) 4), (none, .load 52 (S 51) false 1), (none, .mv 53 (S 1)), (none, .bin 54 .rem (S 53) (K 3)), (none, .bin 55 .eql (S 54) (K 0)), (none, .beq 56 true (S 52) (S 55))]) (.cond (S 56) (.seq (.reg [(none, .mv 4 (K (-1)))]) .ret) .skip)) (.reg [(none, .mv 57 (S 1)), (none, .bin 58 .add (S 57) (K 1)), (none, .mv 1 (S 58))]))))))))))) (.reg [(none, .mv 10 (S 5)), (none, .bin 11 .add (S 10) (K 1)), (none, .mv 5 (S 11))])))
def c_laws_heldSegmentS_n1 : ACode := (.seq (.reg [(none, .mv 59 (S 1)), (none, .mv 4 (S 59))]) .ret)
def c_laws_heldSegmentS : ACode := (.seq (.reg [(none, .mv 4 (K 0))]) (.seq (.seq (.reg [(none, .mv 5 (K 0))]) (.block 0 (.loop c_laws_heldSegmentS_1))) c_laws_heldSegmentS_n1))
theorem w_laws_heldSegmentS_1 (a0 : List XSegment) : ∀ (n : Nat) (v1 : Int) (v2 : Int) (r : Int), f_laws_heldSegmentS_1 a0 n v1 v2 = some r → ∀ σ : St, σ.kept [0, 1, 5] [] [] = ⟨[(0, vc (aL (List.map XSegment.row a0))), (1, vc (aI v1)), (5, vc (aI v2))], [], []⟩ → go Tryd.prog (.code (.loop c_laws_heldSegmentS_1) :: [.blk 0, .code c_laws_heldSegmentS_n1]) (Ret [4] [.sc (.v (.int .i64 r))]) .normal (some σ) := by
  intro n
  induction n with
  | zero => intro _ _ r h; cases h
  | succ n ih =>
    intro v1 v2 r h σ hσ
    rw [f_laws_heldSegmentS_1] at h
    refine go_round ?_
    rcases Bool.eq_false_or_eq_true (decide (v2 < (a0.length : Int))) with hb3 | hb3
    · rw [ite_t hb3] at h
      obtain ⟨x4, hx4, h⟩ := ob h
      rcases Bool.eq_false_or_eq_true (x4.A != v1) with hb5 | hb5
      · rw [ite_t hb5] at h
        try simp only [hσ, hb3, hx4, hb5, c_laws_heldSegmentS_1, Nat.reduceBEq, Nat.reduceMul, Nat.reduceAdd, Nat.reduceDiv, Int.reduceBEq, rules2, rulesX, rowsX]
        cases h
        exact ⟨⟨rfl, trivial⟩, rfl⟩
      · rw [ite_f hb5] at h
        rcases Bool.eq_false_or_eq_true (x4.B != (IntKind.i64.wrap (v1 + (1 : Int)))) with hb6 | hb6
        · rw [ite_t hb6] at h
          try simp only [hσ, hb3, hx4, hb5, hb6, c_laws_heldSegmentS_1, Nat.reduceBEq, Nat.reduceMul, Nat.reduceAdd, Nat.reduceDiv, Int.reduceBEq, rules2, rulesX, rowsX]
          cases h
          exact ⟨⟨rfl, trivial⟩, rfl⟩
        · rw [ite_f hb6] at h
          rcases Bool.eq_false_or_eq_true (x4.Depth != (IntKind.i64.wrap ((IntKind.i64.wrap (v1 + (1 : Int))) + (1 : Int)))) with hb7 | hb7
          · rw [ite_t hb7] at h
            try simp only [hσ, hb3, hx4, hb5, hb6, hb7, c_laws_heldSegmentS_1, Nat.reduceBEq, Nat.reduceMul, Nat.reduceAdd, Nat.reduceDiv, Int.reduceBEq, rules2, rulesX, rowsX]
            cases h
            exact ⟨⟨rfl, trivial⟩, rfl⟩
          · rw [ite_f hb7] at h
            rcases Bool.eq_false_or_eq_true (x4.Minutes != (IntKind.i64.wrap ((IntKind.i64.wrap ((IntKind.i64.wrap (v1 + (1 : Int))) + (1 : Int))) + (1 : Int)))) with hb8 | hb8
            · rw [ite_t hb8] at h
              try simp only [hσ, hb3, hx4, hb5, hb6, hb7, hb8, c_laws_heldSegmentS_1, Nat.reduceBEq, Nat.reduceMul, Nat.reduceAdd, Nat.reduceDiv, Int.reduceBEq, rules2, rulesX, rowsX]
              cases h
              exact ⟨⟨rfl, trivial⟩, rfl⟩
            · rw [ite_f hb8] at h
              rcases Bool.eq_false_or_eq_true (x4.Meet == ((IntKind.i64.wrap (Int.tmod (IntKind.i64.wrap ((IntKind.i64.wrap ((IntKind.i64.wrap ((IntKind.i64.wrap (v1 + (1 : Int))) + (1 : Int))) + (1 : Int))) + (1 : Int))) (3 : Int))) == (0 : Int))) with hb9 | hb9
              · rw [ite_t hb9] at h
                try simp only [hσ, hb3, hx4, hb5, hb6, hb7, hb8, hb9, c_laws_heldSegmentS_1, Nat.reduceBEq, Nat.reduceMul, Nat.reduceAdd, Nat.reduceDiv, Int.reduceBEq, rules2, rulesX, rowsX]
                refine ih _ _ _ h _ ?_
                try simp only [hb3, hx4, hb5, hb6, hb7, hb8, hb9, Nat.reduceBEq, Nat.reduceMul, Nat.reduceAdd, Nat.reduceDiv, Int.reduceBEq, rules2, rulesX, rowsX, List.map_nil]
              · rw [ite_f hb9] at h
                try simp only [hσ, hb3, hx4, hb5, hb6, hb7, hb8, hb9, c_laws_heldSegmentS_1, Nat.reduceBEq, Nat.reduceMul, Nat.reduceAdd, Nat.reduceDiv, Int.reduceBEq, rules2, rulesX, rowsX]
                cases h
                exact ⟨⟨rfl, trivial⟩, rfl⟩
    · rw [ite_f hb3] at h
      try simp only [hσ, hb3, c_laws_heldSegmentS_1, c_laws_heldSegmentS_n1, Nat.reduceBEq, Nat.reduceMul, Nat.reduceAdd, Nat.reduceDiv, Int.reduceBEq, rules2, rulesX, rowsX]
      cases h
      exact ⟨⟨rfl, trivial⟩, rfl⟩
theorem e_laws_heldSegmentS : entry Tryd.prog 48 = some (c_laws_heldSegmentS.strip, [4], 60) := by kernel_rfl
theorem w_laws_heldSegmentS (a0 : List XSegment) (a1 : Int) (r : Int) (h : f_laws_heldSegmentS a0 a1 = some r) : FC Tryd.prog 48 [.sc (.sl (List.map XSegment.row a0)), .sc (.int .i64 a1)] [.sc (.v (.int .i64 r))] := by
  unfold f_laws_heldSegmentS at h
  refine FC_go (σ := ⟨[(0, vc (aL (List.map XSegment.row a0))), (1, vc (aI a1))], [], []⟩) mixed e_laws_heldSegmentS rfl rfl ?_
  simp only [c_laws_heldSegmentS]
  try simp only [Nat.reduceBEq, Nat.reduceMul, Nat.reduceAdd, Nat.reduceDiv, Int.reduceBEq, rules2, rulesX, rowsX]
  refine w_laws_heldSegmentS_1 _ _ _ _ _ h _ ?_
  try simp only [Nat.reduceBEq, Nat.reduceMul, Nat.reduceAdd, Nat.reduceDiv, Int.reduceBEq, rules2, rulesX, rowsX, List.map_nil]
/- 20: laws_heldChart -/
def c_laws_heldChart : ACode := (.seq (.reg [(none, .box 2 (S 0)), (none, .mv 4 (K 0))]) (.seq (.reg [(none, .faddr 5 (S 2) 0), (none, .load 6 (S 5) false 1), (none, .mv 7 (S 1)), (none, .call 8 47 [(S 6), (S 7)]), (none, .mv 1 (S 8))]) (.seq (.seq (.reg [(none, .mv 9 (S 1)), (none, .bin 10 .lss (S 9) (K 0))]) (.cond (S 10) (.seq (.reg [(none, .mv 4 (K (-1)))]) .ret) .skip)) (.seq (.reg [(none, .faddr 11 (S 2) 1), (none, .load 12 (S 11) false 1), (none, .mv 13 (S 1)), (none, .call 14 48 [(S 12), (S 13)]), (none, .mv 1 (S 14))]) (.seq (.seq (.reg [(none, .mv 15 (S 1)), (none, .bin 16 .lss (S 15) (K 0))]) (.cond (S 16) (.seq (.reg [(none, .mv 4 (K (-1)))]) .ret) .skip)) (.seq (.reg [(none, .mv 17 (S 1)), (none, .mv 4 (S 17))]) .ret))))))
theorem e_laws_heldChart : entry Tryd.prog 20 = some (c_laws_heldChart.strip, [4], 18) := by kernel_rfl
theorem w_laws_heldChart (a0 : XChart) (a1 : Int) (r : Int) (h : f_laws_heldChart a0 a1 = some r) : FC Tryd.prog 20 [.ag (XChart.row a0), .sc (.int .i64 a1)] [.sc (.v (.int .i64 r))] := by
  unfold f_laws_heldChart at h
  refine FC_go (σ := ⟨[(0, va [aL (List.map XPoint.row a0.Points), aL (List.map XSegment.row a0.Segments)]), (1, vc (aI a1))], [], []⟩) mixed e_laws_heldChart rfl rfl ?_
  simp only [c_laws_heldChart]
  try simp only [Nat.reduceBEq, Nat.reduceMul, Nat.reduceAdd, Nat.reduceDiv, Int.reduceBEq, rules2, rulesX, rowsX]
  refine go_bx rfl rfl rfl ?_
  obtain ⟨r1, hr1, h⟩ := ob h
  try simp only [Nat.reduceBEq, Nat.reduceMul, Nat.reduceAdd, Nat.reduceDiv, Int.reduceBEq, rules2, rulesX, rowsX]
  refine go_callI (w_laws_heldPointS _ _ _ hr1) rfl rfl (Nat.le_of_ble_eq_true rfl) ?_
  rcases Bool.eq_false_or_eq_true (decide (r1 < (0 : Int))) with hb2 | hb2
  · rw [ite_t hb2] at h
    try simp only [hb2, Nat.reduceBEq, Nat.reduceMul, Nat.reduceAdd, Nat.reduceDiv, Int.reduceBEq, rules2, rulesX, rowsX]
    cases h
    exact ⟨⟨rfl, trivial⟩, rfl⟩
  · rw [ite_f hb2] at h
    obtain ⟨r3, hr3, h⟩ := ob h
    try simp only [hb2, Nat.reduceBEq, Nat.reduceMul, Nat.reduceAdd, Nat.reduceDiv, Int.reduceBEq, rules2, rulesX, rowsX]
    refine go_callI (w_laws_heldSegmentS _ _ _ hr3) rfl rfl (Nat.le_of_ble_eq_true rfl) ?_
    rcases Bool.eq_false_or_eq_true (decide (r3 < (0 : Int))) with hb4 | hb4
    · rw [ite_t hb4] at h
      try simp only [hb2, hb4, Nat.reduceBEq, Nat.reduceMul, Nat.reduceAdd, Nat.reduceDiv, Int.reduceBEq, rules2, rulesX, rowsX]
      cases h
      exact ⟨⟨rfl, trivial⟩, rfl⟩
    · rw [ite_f hb4] at h
      try simp only [hb2, hb4, Nat.reduceBEq, Nat.reduceMul, Nat.reduceAdd, Nat.reduceDiv, Int.reduceBEq, rules2, rulesX, rowsX]
      cases h
      exact ⟨⟨rfl, trivial⟩, rfl⟩
end Go.Vi
