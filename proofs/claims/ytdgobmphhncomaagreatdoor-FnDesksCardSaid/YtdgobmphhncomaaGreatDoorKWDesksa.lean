/-
  Walks: what the plain definitions compute is what the functions return. By program. No condition.
-/
import Derived.Test.YtdgobmphhncomaaGreatDoorKNf
import Derived.Test.YtdgobmphhncomaaGreatDoorChecked
import Derived.Test.YtdgobmphhncomaaGreatDoorKSh
import Derived.Test.YtdgobmphhncomaaGreatDoorKAc
import Derived.KernelRfl
namespace Go.Vi
open Go.Proofs
set_option linter.unusedSimpArgs false
set_option linter.unusedVariables false
set_option maxRecDepth 4000
set_option maxHeartbeats 2000000
attribute [local irreducible] go AWP
theorem mixed : Tryz.prog.follows .mixedOrders = true := by kernel_rfl
/- 16: spec_l01New -/
def c_spec_l01New_1 : ACode := .seq (.reg [(none, .keep [0, 3, 4] [] [])]) (.seq (.seq (.reg [(none, .mv 8 (S 4)), (none, .mv 9 (S 0)), (none, .len 10 (S 9)), (none, .bin 11 .lss (S 8) (S 10)), (none, .mv 12 (S 11)), (some (12, true), .mv 13 (S 4)), (some (12, true), .bin 14 .lss (S 13) (K 4000)), (none, .pick 15 (S 12) (S 14) (KB false))]) (.cond (S 15) .skip (.exit 0))) (.seq (.block 1 (.reg [(none, .mv 18 (S 3)), (none, .bin 19 .mul (S 18) (K 79)), (none, .mv 20 (S 0)), (none, .mv 21 (S 4)), (none, .iaddr 22 (S 20) (S 21) 1), (none, .load 23 (S 22) false 1), (none, .conv 24 .i64 (S 23)), (none, .bin 25 .add (S 19) (S 24)), (none, .bin 26 .add (S 25) (K 7)), (none, .bin 27 .and (S 26) (K 1073741823)), (none, .mv 3 (S 27))])) (.reg [(none, .mv 16 (S 4)), (none, .bin 17 .add (S 16) (K 1)), (none, .mv 4 (S 17))])))
def c_spec_l01New_2 : ACode := .seq (.reg [(none, .keep [0, 3] [] [])]) (.seq (.reg [(none, .mv 28 (S 0)), (none, .mv 29 (S 3)), (none, .build 30 [.nil, aI 0, aI 0] [(0, 1, (S 28)), (2, 1, (S 29))]), (none, .box 31 (S 30)), (none, .mv 2 (S 31))]) .ret)
def c_spec_l01New : ACode := (.seq (.reg [(none, .mv 2 (.c (.v (.sc .undef))))]) (.seq (.reg [(none, .mv 5 (S 0)), (none, .len 6 (S 5)), (none, .bin 7 .add (K 1976) (S 6)), (none, .mv 3 (S 7))]) (.seq (.seq (.reg [(none, .mv 4 (K 0))]) (.block 0 (.loop c_spec_l01New_1))) c_spec_l01New_2)))
theorem w_spec_l01New_2 (a0 : List Int) (v1 : Int) (r : Xl01Cur) (h : f_spec_l01New_2 a0 v1 = some r) (σ : St) (hσ : σ.kept [0, 3] [] [] = ⟨[(0, vc (aL (List.map r8 a0))), (3, vc (aI v1))], [], []⟩) : go Tryz.prog (.code c_spec_l01New_2 :: []) (RetN [2] [.sl (List.map r8 r.b), .int .i64 r.i, .int .i64 r.h]) .normal (some σ) := by
  unfold f_spec_l01New_2 at h
  try simp only [hσ, c_spec_l01New_2, Nat.reduceBEq, Nat.reduceMul, Nat.reduceAdd, Nat.reduceDiv, Int.reduceBEq, rules2, rulesX, rowsX]
  refine go_bx rfl rfl rfl ?_
  try simp only [Nat.reduceBEq, Nat.reduceMul, Nat.reduceAdd, Nat.reduceDiv, Int.reduceBEq, rules2, rulesX, rowsX]
  cases h
  exact ⟨_, 31, rfl, rfl, rfl, rfl⟩
theorem w_spec_l01New_1 (a0 : List Int) : ∀ (n : Nat) (v1 : Int) (v2 : Int) (r : Xl01Cur), f_spec_l01New_1 a0 n v1 v2 = some r → ∀ σ : St, σ.kept [0, 3, 4] [] [] = ⟨[(0, vc (aL (List.map r8 a0))), (3, vc (aI v1)), (4, vc (aI v2))], [], []⟩ → go Tryz.prog (.code (.loop c_spec_l01New_1) :: [.blk 0, .code c_spec_l01New_2]) (RetN [2] [.sl (List.map r8 r.b), .int .i64 r.i, .int .i64 r.h]) .normal (some σ) := by
  intro n
  induction n with
  | zero => intro _ _ r h; cases h
  | succ n ih =>
    intro v1 v2 r h σ hσ
    rw [f_spec_l01New_1] at h
    refine go_round ?_
    rcases Bool.eq_false_or_eq_true (decide (v2 < (a0.length : Int))) with hb3 | hb3
    · rw [ite_t hb3] at h
      rcases Bool.eq_false_or_eq_true (decide (v2 < (4000 : Int))) with hb4 | hb4
      · rw [ite_t hb4] at h
        obtain ⟨x5, hx5, h⟩ := ob h
        try simp only [hσ, hb3, hb4, hx5, c_spec_l01New_1, Nat.reduceBEq, Nat.reduceMul, Nat.reduceAdd, Nat.reduceDiv, Int.reduceBEq, rules2, rulesX, rowsX]
        refine ih _ _ _ h _ ?_
        try simp only [hb3, hb4, hx5, Nat.reduceBEq, Nat.reduceMul, Nat.reduceAdd, Nat.reduceDiv, Int.reduceBEq, rules2, rulesX, rowsX, List.map_nil]
      · rw [ite_f hb4] at h
        try simp only [hσ, hb3, hb4, c_spec_l01New_1, Nat.reduceBEq, Nat.reduceMul, Nat.reduceAdd, Nat.reduceDiv, Int.reduceBEq, rules2, rulesX, rowsX]
        refine w_spec_l01New_2 _ _ _ h _ ?_
        try simp only [hb3, hb4, Nat.reduceBEq, Nat.reduceMul, Nat.reduceAdd, Nat.reduceDiv, Int.reduceBEq, rules2, rulesX, rowsX, List.map_nil]
    · rw [ite_f hb3] at h
      try simp only [hσ, hb3, c_spec_l01New_1, Nat.reduceBEq, Nat.reduceMul, Nat.reduceAdd, Nat.reduceDiv, Int.reduceBEq, rules2, rulesX, rowsX]
      refine w_spec_l01New_2 _ _ _ h _ ?_
      try simp only [hb3, Nat.reduceBEq, Nat.reduceMul, Nat.reduceAdd, Nat.reduceDiv, Int.reduceBEq, rules2, rulesX, rowsX, List.map_nil]
theorem e_spec_l01New : entry Tryz.prog 16 = some (c_spec_l01New.strip, [2], 32) := by kernel_rfl
theorem w_spec_l01New (a0 : List Int) (r : Xl01Cur) (h : f_spec_l01New a0 = some r) : FCn Tryz.prog 16 [.sc (.sl (List.map r8 a0))] [.sl (List.map r8 r.b), .int .i64 r.i, .int .i64 r.h] := by
  unfold f_spec_l01New at h
  refine FCn_go (σ := ⟨[(0, vc (aL (List.map r8 a0)))], [], []⟩) mixed e_spec_l01New rfl rfl ?_
  simp only [c_spec_l01New]
  try simp only [Nat.reduceBEq, Nat.reduceMul, Nat.reduceAdd, Nat.reduceDiv, Int.reduceBEq, rules2, rulesX, rowsX]
  refine w_spec_l01New_1 _ _ _ _ _ h _ ?_
  try simp only [Nat.reduceBEq, Nat.reduceMul, Nat.reduceAdd, Nat.reduceDiv, Int.reduceBEq, rules2, rulesX, rowsX, List.map_nil]
/- 18: spec_l01Byte -/
def c_spec_l01Byte : ACode := (.seq (.reg [(none, .mv 2 (K 0))]) (.seq (.reg [(none, .mv 4 (S 0)), (none, .mv 5 (S 0)), (none, .nilc 6 (S 5)), (none, .faddr 7 (S 6) 2), (none, .load 8 (S 7) false 1), (none, .bin 9 .mul (S 8) (K 6364136223846793005)), (none, .bin 10 .add (S 9) (K 1442695040888963407)), (none, .nilc 11 (S 4)), (none, .faddr 12 (S 11) 2), (none, .store (S 12) (S 10) 1)]) (.seq (.drw [(some [], (none, .mv 13 (S 0))), (some [], (none, .nilc 14 (S 13))), (some [], (none, .faddr 15 (S 14) 2)), (some [], (none, .load 16 (S 15) false 1)), (some [], (none, .bin 17 .shr (S 16) (.c (.v (.sc (.dat (.int .u64 33))))))), (some [], (none, .mv 18 (S 0))), (some [], (none, .nilc 19 (S 18))), (some [], (none, .faddr 20 (S 19) 2)), (some [], (none, .load 21 (S 20) false 1)), (some [], (none, .bin 22 .shr (S 21) (.c (.v (.sc (.dat (.int .u64 45))))))), (some [], (none, .bin 23 .xor (S 17) (S 22))), (some [], (none, .bin 24 .and (S 23) (K 255))), (some [], (none, .mv 3 (S 24)))]) (.seq (.seq (.drw [(some [], (none, .mv 25 (S 0))), (some [], (none, .nilc 26 (S 25))), (some [], (none, .faddr 27 (S 26) 1)), (some [], (none, .load 28 (S 27) false 1)), (some [], (none, .mv 29 (S 0))), (some [], (none, .nilc 30 (S 29))), (some [], (none, .faddr 31 (S 30) 0)), (some [], (none, .load 32 (S 31) false 1)), (some [], (none, .len 33 (S 32))), (some [], (none, .bin 34 .lss (S 28) (S 33)))]) (.cond (S 34) (.seq (.drw [(some [], (none, .mv 35 (S 3))), (some [], (none, .mv 36 (S 0))), (some [], (none, .nilc 37 (S 36))), (some [], (none, .faddr 38 (S 37) 0)), (some [], (none, .load 39 (S 38) false 1)), (some [], (none, .mv 40 (S 0))), (some [], (none, .nilc 41 (S 40))), (some [], (none, .faddr 42 (S 41) 1)), (some [], (none, .load 43 (S 42) false 1)), (some [], (none, .iaddr 44 (S 39) (S 43) 1)), (some [], (none, .load 45 (S 44) false 1)), (some [], (none, .conv 46 .i64 (S 45))), (some [], (none, .bin 47 .add (S 35) (S 46))), (some [], (none, .bin 48 .and (S 47) (K 255))), (some [], (none, .mv 3 (S 48)))]) (.reg [(none, .mv 49 (S 0)), (none, .mv 50 (S 0)), (none, .nilc 51 (S 50)), (none, .faddr 52 (S 51) 1), (none, .load 53 (S 52) false 1), (none, .bin 54 .add (S 53) (K 1)), (none, .nilc 55 (S 49)), (none, .faddr 56 (S 55) 1), (none, .store (S 56) (S 54) 1)])) .skip)) (.seq (.reg [(none, .mv 57 (S 3)), (none, .mv 2 (S 57))]) .ret)))))
theorem e_spec_l01Byte : entry Tryz.prog 18 = some (c_spec_l01Byte.strip, [2], 58) := by kernel_rfl
theorem w_spec_l01Byte (a0 : Xl01Cur) (r : Int × Xl01Cur) (h : f_spec_l01Byte a0 = some r) : FCy Tryz.prog 18 [.p] [.sl (List.map r8 a0.b), .int .i64 a0.i, .int .i64 a0.h] [.sl (List.map r8 r.2.b), .int .i64 r.2.i, .int .i64 r.2.h] [.sc (.v (.int .i64 r.1))] := by
  unfold f_spec_l01Byte at h
  refine FCy_go (σ := ⟨[(0, vc (.pb 1099511627776 0))], [(1099511627776, [aL (List.map r8 a0.b), aI a0.i, aI a0.h])], []⟩) mixed e_spec_l01Byte rfl rfl ?_
  simp only [c_spec_l01Byte]
  try simp only [Nat.reduceBEq, Nat.reduceMul, Nat.reduceAdd, Nat.reduceDiv, Int.reduceBEq, rules2, rulesX, rowsX]
  refine go_fr_of rfl ?_
  try simp only [Nat.reduceBEq, Nat.reduceMul, Nat.reduceAdd, Nat.reduceDiv, Int.reduceBEq, rules2, rulesX, rowsX]
  refine go_fr_of rfl ?_
  rcases Bool.eq_false_or_eq_true (decide (a0.i < (a0.b.length : Int))) with hb1 | hb1
  · rw [ite_t hb1] at h
    try simp only [hb1, Nat.reduceBEq, Nat.reduceMul, Nat.reduceAdd, Nat.reduceDiv, Int.reduceBEq, rules2, rulesX, rowsX]
    refine go_fr_of rfl ?_
    obtain ⟨x2, hx2, h⟩ := ob h
    try simp only [hb1, hx2, Nat.reduceBEq, Nat.reduceMul, Nat.reduceAdd, Nat.reduceDiv, Int.reduceBEq, rules2, rulesX, rowsX]
    cases h
    exact ⟨⟨rfl, trivial⟩, rfl⟩
  · rw [ite_f hb1] at h
    try simp only [hb1, Nat.reduceBEq, Nat.reduceMul, Nat.reduceAdd, Nat.reduceDiv, Int.reduceBEq, rules2, rulesX, rowsX]
    cases h
    exact ⟨⟨rfl, trivial⟩, rfl⟩
/- 33: spec_l01Below -/
def c_spec_l01Below : ACode := (.seq (.reg [(none, .mv 4 (K 0))]) (.seq (.seq (.reg [(none, .mv 9 (S 1)), (none, .bin 10 .leq (S 9) (K 0))]) (.cond (S 10) (.seq (.reg [(none, .mv 4 (K 0))]) .ret) .skip)) (.seq (.seq (.reg [(none, .mv 11 (S 1)), (none, .bin 12 .leq (S 11) (K 256))]) (.cond (S 12) (.seq (.reg [(none, .mv 13 (S 0)), (none, .call 14 18 [(S 13)]), (none, .mv 15 (S 1)), (none, .bin 16 .rem (S 14) (S 15)), (none, .mv 4 (S 16))]) .ret) .skip)) (.seq (.reg [(none, .mv 17 (S 0)), (none, .call 18 18 [(S 17)]), (none, .mv 5 (S 18))]) (.seq (.reg [(none, .mv 19 (S 0)), (none, .call 20 18 [(S 19)]), (none, .mv 6 (S 20))]) (.seq (.reg [(none, .mv 21 (S 0)), (none, .call 22 18 [(S 21)]), (none, .mv 7 (S 22))]) (.seq (.reg [(none, .mv 23 (S 0)), (none, .call 24 18 [(S 23)]), (none, .mv 8 (S 24))]) (.seq (.reg [(none, .mv 25 (S 5)), (none, .bin 26 .mul (S 25) (K 16777216)), (none, .mv 27 (S 6)), (none, .bin 28 .mul (S 27) (K 65536)), (none, .bin 29 .add (S 26) (S 28)), (none, .mv 30 (S 7)), (none, .bin 31 .mul (S 30) (K 256)), (none, .bin 32 .add (S 29) (S 31)), (none, .mv 33 (S 8)), (none, .bin 34 .add (S 32) (S 33)), (none, .mv 35 (S 1)), (none, .bin 36 .rem (S 34) (S 35)), (none, .mv 4 (S 36))]) .ret))))))))
theorem e_spec_l01Below : entry Tryz.prog 33 = some (c_spec_l01Below.strip, [4], 37) := by kernel_rfl
theorem w_spec_l01Below (a0 : Xl01Cur) (a1 : Int) (r : Int × Xl01Cur) (h : f_spec_l01Below a0 a1 = some r) : FCy Tryz.prog 33 [.p, .d (.sc (.int .i64 a1))] [.sl (List.map r8 a0.b), .int .i64 a0.i, .int .i64 a0.h] [.sl (List.map r8 r.2.b), .int .i64 r.2.i, .int .i64 r.2.h] [.sc (.v (.int .i64 r.1))] := by
  unfold f_spec_l01Below at h
  refine FCy_go (σ := ⟨[(0, vc (.pb 1099511627776 0)), (1, vc (aI a1))], [(1099511627776, [aL (List.map r8 a0.b), aI a0.i, aI a0.h])], []⟩) mixed e_spec_l01Below rfl rfl ?_
  simp only [c_spec_l01Below]
  rcases Bool.eq_false_or_eq_true (decide (a1 ≤ (0 : Int))) with hb1 | hb1
  · rw [ite_t hb1] at h
    try simp only [hb1, Nat.reduceBEq, Nat.reduceMul, Nat.reduceAdd, Nat.reduceDiv, Int.reduceBEq, rules2, rulesX, rowsX]
    cases h
    exact ⟨⟨rfl, trivial⟩, rfl⟩
  · rw [ite_f hb1] at h
    rcases Bool.eq_false_or_eq_true (decide (a1 ≤ (256 : Int))) with hb2 | hb2
    · rw [ite_t hb2] at h
      obtain ⟨r3, hr3, h⟩ := ob h
      try simp only [hb1, hb2, Nat.reduceBEq, Nat.reduceMul, Nat.reduceAdd, Nat.reduceDiv, Int.reduceBEq, rules2, rulesX, rowsX]
      refine go_cally (w_spec_l01Byte _ _ hr3) 1099511627776 rfl rfl rfl ?_
      obtain ⟨hg4, h⟩ := of_guardn h
      try simp only [hb1, hb2, hg4, Nat.reduceBEq, Nat.reduceMul, Nat.reduceAdd, Nat.reduceDiv, Int.reduceBEq, rules2, rulesX, rowsX]
      cases h
      exact ⟨⟨rfl, trivial⟩, rfl⟩
    · rw [ite_f hb2] at h
      obtain ⟨r5, hr5, h⟩ := ob h
      try simp only [hb1, hb2, Nat.reduceBEq, Nat.reduceMul, Nat.reduceAdd, Nat.reduceDiv, Int.reduceBEq, rules2, rulesX, rowsX]
      refine go_cally (w_spec_l01Byte _ _ hr5) 1099511627776 rfl rfl rfl ?_
      obtain ⟨r6, hr6, h⟩ := ob h
      try simp only [hb1, hb2, Nat.reduceBEq, Nat.reduceMul, Nat.reduceAdd, Nat.reduceDiv, Int.reduceBEq, rules2, rulesX, rowsX]
      refine go_cally (w_spec_l01Byte _ _ hr6) 1099511627776 rfl rfl rfl ?_
      obtain ⟨r7, hr7, h⟩ := ob h
      try simp only [hb1, hb2, Nat.reduceBEq, Nat.reduceMul, Nat.reduceAdd, Nat.reduceDiv, Int.reduceBEq, rules2, rulesX, rowsX]
      refine go_cally (w_spec_l01Byte _ _ hr7) 1099511627776 rfl rfl rfl ?_
      obtain ⟨r9, hr9, h⟩ := ob h
      try simp only [hb1, hb2, Nat.reduceBEq, Nat.reduceMul, Nat.reduceAdd, Nat.reduceDiv, Int.reduceBEq, rules2, rulesX, rowsX]
      refine go_cally (w_spec_l01Byte _ _ hr9) 1099511627776 rfl rfl rfl ?_
      obtain ⟨hg10, h⟩ := of_guardn h
      try simp only [hb1, hb2, hg10, Nat.reduceBEq, Nat.reduceMul, Nat.reduceAdd, Nat.reduceDiv, Int.reduceBEq, rules2, rulesX, rowsX]
      cases h
      exact ⟨⟨rfl, trivial⟩, rfl⟩
/- 46: spec_l01In -/
def c_spec_l01In : ACode := (.seq (.reg [(none, .mv 6 (KB false))]) (.seq (.reg [(none, .mv 7 (S 0)), (none, .mv 8 (S 1)), (none, .bin 9 .geq (S 7) (S 8)), (none, .mv 10 (S 9)), (some (10, true), .mv 11 (S 0)), (some (10, true), .mv 12 (S 2)), (some (10, true), .bin 13 .leq (S 11) (S 12)), (none, .pick 14 (S 10) (S 13) (KB false)), (none, .mv 6 (S 14))]) .ret))
theorem e_spec_l01In : entry Tryz.prog 46 = some (c_spec_l01In.strip, [6], 15) := by kernel_rfl
theorem w_spec_l01In (a0 : Int) (a1 : Int) (a2 : Int) (r : Bool) (h : f_spec_l01In a0 a1 a2 = some r) : FC Tryz.prog 46 [.sc (.int .i64 a0), .sc (.int .i64 a1), .sc (.int .i64 a2)] [.sc (.v (.bool r))] := by
  unfold f_spec_l01In at h
  refine FC_go (σ := ⟨[(0, vc (aI a0)), (1, vc (aI a1)), (2, vc (aI a2))], [], []⟩) mixed e_spec_l01In rfl rfl ?_
  simp only [c_spec_l01In]
  rcases Bool.eq_false_or_eq_true (decide (a1 ≤ a0)) with hb1 | hb1
  · rw [ite_t hb1] at h
    try simp only [hb1, Nat.reduceBEq, Nat.reduceMul, Nat.reduceAdd, Nat.reduceDiv, Int.reduceBEq, rules2, rulesX, rowsX]
    cases h
    exact ⟨⟨rfl, trivial⟩, rfl⟩
  · rw [ite_f hb1] at h
    try simp only [hb1, Nat.reduceBEq, Nat.reduceMul, Nat.reduceAdd, Nat.reduceDiv, Int.reduceBEq, rules2, rulesX, rowsX]
    cases h
    exact ⟨⟨rfl, trivial⟩, rfl⟩
/- 32: spec_DeskNew -/
def c_spec_DeskNew_1 : ACode := .seq (.reg [(none, .keep [0, 2, 3, 4] [2, 3] [131136, 131200])]) (.seq (.seq (.reg [(none, .mv 10 (S 4)), (none, .mv 11 (S 0)), (none, .bin 12 .lss (S 10) (S 11))]) (.cond (S 12) .skip (.exit 0))) (.seq (.block 1 (.seq (.reg [(none, .faddr 15 (S 3) 1), (none, .load 16 (S 15) false 1), (none, .bslice 17 1 [.int .i64 0] 1 [(0, (K (-1)))]), (none, .app 18 1 8 (S 16) (S 17)), (none, .faddr 19 (S 3) 1), (none, .store (S 19) (S 18) 1)]) (.reg [(none, .faddr 20 (S 3) 2), (none, .load 21 (S 20) false 1), (none, .bslice 22 1 [.bool false] 1 [(0, (KB false))]), (none, .app 23 1 1 (S 21) (S 22)), (none, .faddr 24 (S 3) 2), (none, .store (S 24) (S 23) 1)]))) (.reg [(none, .mv 13 (S 4)), (none, .bin 14 .add (S 13) (K 1)), (none, .mv 4 (S 14))])))
def c_spec_DeskNew_n1 : ACode := (.seq (.reg [(none, .load 25 (S 3) true 3), (none, .store (S 2) (S 25) 3)]) .ret)
def c_spec_DeskNew : ACode := (.seq (.reg [(none, .alloc 2 [aI 0, .nil, .nil])]) (.seq (.reg [(none, .build 5 [aI 0, .nil, .nil] []), (none, .alloc 3 [aI 0, .nil, .nil]), (none, .store (S 3) (S 5) 3), (none, .ownb 3 1 131136 1), (none, .ownb 3 2 131200 1)]) (.seq (.seq (.reg [(none, .mv 6 (S 0)), (none, .call 7 46 [(S 6), (K 0), (K 6)]), (none, .un 8 .not (S 7))]) (.cond (S 8) (.seq (.reg [(none, .load 9 (S 3) true 3), (none, .store (S 2) (S 9) 3)]) .ret) .skip)) (.seq (.seq (.reg [(none, .mv 4 (K 0))]) (.block 0 (.loop c_spec_DeskNew_1))) c_spec_DeskNew_n1))))
theorem w_spec_DeskNew_1 (a0 : Int) : ∀ (n : Nat) (v3 : Int) (v4 : List Int) (v5 : List Bool) (r : XDesk), f_spec_DeskNew_1 a0 n v3 v4 v5 = some r → ∀ σ : St, σ.kept [0, 2, 3, 4] [2, 3] [131136, 131200] = ⟨[(0, vc (aI a0)), (2, vc (.pb 2 0)), (3, vc (.pb 3 0)), (4, vc (aI v3))], [(2, [aI (0 : Int), .nil, .nil]), (3, [aI (0 : Int), .own 131136, .own 131200])], [(131136, 1, List.map rI v4), (131200, 1, List.map rB v5)]⟩ → go Tryz.prog (.code (.loop c_spec_DeskNew_1) :: [.blk 0, .code c_spec_DeskNew_n1]) (Ret [.c 2 true 3] [.ag [.v (.int .i64 r.Now), .o 1 (List.map rI r.Starts), .o 1 (List.map rB r.Cleared)]]) .normal (some σ) := by
  intro n
  induction n with
  | zero => intro _ _ _ r h; cases h
  | succ n ih =>
    intro v3 v4 v5 r h σ hσ
    rw [f_spec_DeskNew_1] at h
    refine go_round ?_
    rcases Bool.eq_false_or_eq_true (decide (v3 < a0)) with hb6 | hb6
    · rw [ite_t hb6] at h
      try simp only [hσ, hb6, c_spec_DeskNew_1, Nat.reduceBEq, Nat.reduceMul, Nat.reduceAdd, Nat.reduceDiv, Int.reduceBEq, rules2, rulesX, rowsX]
      refine go_bsl (es := List.map rI ([(-1 : Int)] : List Int)) rfl rfl ?_
      obtain ⟨hg7, h⟩ := of_guard h
      try simp only [hb6, hg7, Nat.reduceBEq, Nat.reduceMul, Nat.reduceAdd, Nat.reduceDiv, Int.reduceBEq, rules2, rulesX, rowsX]
      refine go_bsl (es := List.map rB ([false] : List Bool)) rfl rfl ?_
      obtain ⟨hg8, h⟩ := of_guard h
      try simp only [hb6, hg7, hg8, Nat.reduceBEq, Nat.reduceMul, Nat.reduceAdd, Nat.reduceDiv, Int.reduceBEq, rules2, rulesX, rowsX]
      refine ih _ _ _ _ h _ ?_
      try simp only [hb6, hg7, hg8, Nat.reduceBEq, Nat.reduceMul, Nat.reduceAdd, Nat.reduceDiv, Int.reduceBEq, rules2, rulesX, rowsX, List.map_nil]
    · rw [ite_f hb6] at h
      try simp only [hσ, hb6, c_spec_DeskNew_1, c_spec_DeskNew_n1, Nat.reduceBEq, Nat.reduceMul, Nat.reduceAdd, Nat.reduceDiv, Int.reduceBEq, rules2, rulesX, rowsX]
      cases h
      try simp only [rulesR, Nat.reduceBEq, Nat.reduceMul, Nat.reduceAdd, Nat.reduceDiv, Int.reduceBEq, rules2, rulesX, rowsX]
      exact ⟨⟨⟨rfl, rfl, rfl, trivial⟩, trivial⟩, rfl⟩
theorem e_spec_DeskNew : entry Tryz.prog 32 = some (c_spec_DeskNew.strip, [.c 2 true 3], 26) := by kernel_rfl
theorem w_spec_DeskNew (a0 : Int) (r : XDesk) (h : f_spec_DeskNew a0 = some r) : FC Tryz.prog 32 [.sc (.int .i64 a0)] [.ag [.v (.int .i64 r.Now), .o 1 (List.map rI r.Starts), .o 1 (List.map rB r.Cleared)]] := by
  unfold f_spec_DeskNew at h
  refine FC_go (σ := ⟨[(0, vc (aI a0))], [], []⟩) mixed e_spec_DeskNew rfl rfl ?_
  simp only [c_spec_DeskNew]
  try simp only [Nat.reduceBEq, Nat.reduceMul, Nat.reduceAdd, Nat.reduceDiv, Int.reduceBEq, rules2, rulesX, rowsX]
  refine go_al rfl rfl ?_
  try simp only [Nat.reduceBEq, Nat.reduceMul, Nat.reduceAdd, Nat.reduceDiv, Int.reduceBEq, rules2, rulesX, rowsX]
  refine go_al rfl rfl ?_
  try simp only [Nat.reduceBEq, Nat.reduceMul, Nat.reduceAdd, Nat.reduceDiv, Int.reduceBEq, rules2, rulesX, rowsX]
  refine go_ownb' (cs' := [aI (0 : Int), .own 131136, .nil]) rfl rfl rfl rfl ?_
  try simp only [Nat.reduceBEq, Nat.reduceMul, Nat.reduceAdd, Nat.reduceDiv, Int.reduceBEq, rules2, rulesX, rowsX]
  refine go_ownb' (cs' := [aI (0 : Int), .own 131136, .own 131200]) rfl rfl rfl rfl ?_
  obtain ⟨r1, hr1, h⟩ := ob h
  try simp only [Nat.reduceBEq, Nat.reduceMul, Nat.reduceAdd, Nat.reduceDiv, Int.reduceBEq, rules2, rulesX, rowsX]
  refine go_callI (w_spec_l01In _ _ _ _ hr1) rfl rfl (Nat.le_of_ble_eq_true rfl) ?_
  rcases Bool.eq_false_or_eq_true r1 with hb2 | hb2
  · rw [ite_t hb2] at h
    try simp only [hb2, Nat.reduceBEq, Nat.reduceMul, Nat.reduceAdd, Nat.reduceDiv, Int.reduceBEq, rules2, rulesX, rowsX]
    refine w_spec_DeskNew_1 _ _ _ _ _ _ h _ ?_
    try simp only [hb2, Nat.reduceBEq, Nat.reduceMul, Nat.reduceAdd, Nat.reduceDiv, Int.reduceBEq, rules2, rulesX, rowsX, List.map_nil]
  · rw [ite_f hb2] at h
    try simp only [hb2, Nat.reduceBEq, Nat.reduceMul, Nat.reduceAdd, Nat.reduceDiv, Int.reduceBEq, rules2, rulesX, rowsX]
    cases h
    try simp only [rulesR, Nat.reduceBEq, Nat.reduceMul, Nat.reduceAdd, Nat.reduceDiv, Int.reduceBEq, rules2, rulesX, rowsX]
    exact ⟨⟨⟨rfl, rfl, rfl, trivial⟩, trivial⟩, rfl⟩
/- 34: spec_l23Entry -/
def y_spec_l23Entry_y1 : List (List Nat × AItem) := [([], (none, .mv 6 (S 0))), ([0], (none, .call 7 33 [(S 6), (K 4)])), ([1], (none, .bin 8 .add (K 1) (S 7))), ([], (none, .faddr 9 (S 3) 0)), ([3], (none, .load 10 (S 9) false 1)), ([], (none, .mv 11 (S 0))), ([5, 1], (none, .call 12 33 [(S 11), (K 20)])), ([4, 6], (none, .bin 13 .add (S 10) (S 12))), ([7], (none, .mm 14 false (K 2880) (S 13))), ([], (none, .mv 15 (S 0))), ([], (none, .faddr 16 (S 3) 1)), ([10], (none, .load 17 (S 16) false 1)), ([11], (none, .len 18 (S 17))), ([12], (none, .mm 19 true (K 1) (S 18))), ([9, 13, 6], (none, .call 20 33 [(S 15), (S 19)])), ([2, 8, 14], (none, .build 21 [aI 0, aI 0, aI 0, aI 0] [(0, 1, (S 8)), (1, 1, (S 14)), (2, 1, (S 20))])), ([], (none, .alloc 5 [aI 0, aI 0, aI 0, aI 0])), ([16, 15, 14, 0, 1, 2, 3, 4, 5, 6, 7, 8, 9, 10, 11, 12, 13, 14, 15, 16], (none, .store (S 5) (S 21) 4))]
def y_spec_l23Entry_y2 : List (List Nat × AItem) := [([], (none, .faddr 26 (S 5) 1)), ([0], (none, .load 27 (S 26) false 1)), ([], (none, .mv 28 (S 0))), ([2], (none, .call 29 33 [(S 28), (K 100)])), ([1, 3], (none, .bin 30 .add (S 27) (S 29))), ([4], (none, .mm 31 false (K 2880) (S 30))), ([0, 1, 2, 3, 4, 5], (none, .faddr 32 (S 5) 3)), ([6, 5, 3, 0, 1, 2, 3, 4, 5], (none, .store (S 32) (S 31) 1))]
def c_spec_l23Entry : ACode := (.seq (.reg [(none, .box 3 (S 1)), (none, .alloc 4 [aI 0, aI 0, aI 0, aI 0])]) (.seq (.any y_spec_l23Entry_y1) (.seq (.seq (.reg [(none, .faddr 22 (S 5) 0), (none, .load 23 (S 22) false 1)]) (.block 0 (.seq (.reg [(none, .bin 25 .eql (S 23) (K 1)), (none, .mv 24 (S 25))]) (.cond (S 24) (.any y_spec_l23Entry_y2) (.seq (.reg [(none, .bin 34 .eql (S 23) (K 4)), (none, .mv 33 (S 34))]) (.cond (S 33) (.reg [(none, .faddr 35 (S 5) 2), (none, .store (S 35) (K 0) 1)]) .skip)))))) (.seq (.reg [(none, .load 36 (S 5) true 4), (none, .store (S 4) (S 36) 4)]) .ret))))
theorem w_spec_l23Entry_y1_0 (a0 : Xl01Cur) (a1 : XDesk) (r1 : Int × Xl01Cur) (r2 : Int × Xl01Cur) (r3 : Int × Xl01Cur) (hr1 : f_spec_l01Below a0 (4 : Int) = some r1) (hr2 : f_spec_l01Below r1.2 (20 : Int) = some r2) (hr3 : f_spec_l01Below r2.2 (if (1 : Int) < (a1.Starts.length : Int) then (a1.Starts.length : Int) else (1 : Int)) = some r3) : ∀ (f : Nat), anyA Tryz.prog y_spec_l23Entry_y1 ⟨[(0, vc (.pb 1099511627776 0)), (3, vc (.pb 3 0)), (4, vc (.pb 4 0)), (6, vc (.pb 1099511627776 0)), (7, vc (aI r1.1)), (8, vc (aI (IntKind.i64.wrap ((1 : Int) + r1.1)))), (9, vc (.pb 3 0)), (10, vc (aI a1.Now)), (11, vc (.pb 1099511627776 0)), (12, vc (aI r2.1)), (13, vc (aI (IntKind.i64.wrap (a1.Now + r2.1)))), (14, vc (aI (if (IntKind.i64.wrap (a1.Now + r2.1)) < (2880 : Int) then (IntKind.i64.wrap (a1.Now + r2.1)) else (2880 : Int)))), (15, vc (.pb 1099511627776 0)), (16, vc (.pb 3 1)), (17, vc (aL (List.map rI a1.Starts))), (18, vc (aI (a1.Starts.length : Int))), (19, vc (aI (if (1 : Int) < (a1.Starts.length : Int) then (a1.Starts.length : Int) else (1 : Int)))), (20, vc (aI r3.1)), (21, va [aI (IntKind.i64.wrap ((1 : Int) + r1.1)), aI (if (IntKind.i64.wrap (a1.Now + r2.1)) < (2880 : Int) then (IntKind.i64.wrap (a1.Now + r2.1)) else (2880 : Int)), aI r3.1, aI (0 : Int)]), (5, vc (.pb 5 0))], [(1099511627776, [aL (List.map r8 r3.2.b), aI r3.2.i, aI r3.2.h]), (3, [aI a1.Now, aL (List.map rI a1.Starts), aL (List.map rB a1.Cleared)]), (4, [aI (0 : Int), aI (0 : Int), aI (0 : Int), aI (0 : Int)]), (5, [aI (IntKind.i64.wrap ((1 : Int) + r1.1)), aI (if (IntKind.i64.wrap (a1.Now + r2.1)) < (2880 : Int) then (IntKind.i64.wrap (a1.Now + r2.1)) else (2880 : Int)), aI r3.1, aI (0 : Int)])], []⟩ f [true, true, true, true, true, true, true, true, true, true, true, true, true, true, true, true, true, true] ⟨[(0, vc (.pb 1099511627776 0)), (3, vc (.pb 3 0)), (4, vc (.pb 4 0)), (6, vc (.pb 1099511627776 0)), (7, vc (aI r1.1)), (8, vc (aI (IntKind.i64.wrap ((1 : Int) + r1.1)))), (9, vc (.pb 3 0)), (10, vc (aI a1.Now)), (11, vc (.pb 1099511627776 0)), (12, vc (aI r2.1)), (13, vc (aI (IntKind.i64.wrap (a1.Now + r2.1)))), (14, vc (aI (if (IntKind.i64.wrap (a1.Now + r2.1)) < (2880 : Int) then (IntKind.i64.wrap (a1.Now + r2.1)) else (2880 : Int)))), (15, vc (.pb 1099511627776 0)), (16, vc (.pb 3 1)), (17, vc (aL (List.map rI a1.Starts))), (18, vc (aI (a1.Starts.length : Int))), (19, vc (aI (if (1 : Int) < (a1.Starts.length : Int) then (a1.Starts.length : Int) else (1 : Int)))), (20, vc (aI r3.1)), (21, va [aI (IntKind.i64.wrap ((1 : Int) + r1.1)), aI (if (IntKind.i64.wrap (a1.Now + r2.1)) < (2880 : Int) then (IntKind.i64.wrap (a1.Now + r2.1)) else (2880 : Int)), aI r3.1, aI (0 : Int)]), (5, vc (.pb 5 0))], [(1099511627776, [aL (List.map r8 r3.2.b), aI r3.2.i, aI r3.2.h]), (3, [aI a1.Now, aL (List.map rI a1.Starts), aL (List.map rB a1.Cleared)]), (4, [aI (0 : Int), aI (0 : Int), aI (0 : Int), aI (0 : Int)]), (5, [aI (IntKind.i64.wrap ((1 : Int) + r1.1)), aI (if (IntKind.i64.wrap (a1.Now + r2.1)) < (2880 : Int) then (IntKind.i64.wrap (a1.Now + r2.1)) else (2880 : Int)), aI r3.1, aI (0 : Int)])], []⟩ := by
  intro f
  induction f with
  | zero => intro h; rfl
  | succ f ih =>
    refine any_step ⟨?_, ?_, ?_, ?_, ?_, ?_, ?_, ?_, ?_, ?_, ?_, ?_, ?_, ?_, ?_, ?_, ?_, ?_, trivial⟩
    · intro h; cases h
    · intro h; cases h
    · intro h; cases h
    · intro h; cases h
    · intro h; cases h
    · intro h; cases h
    · intro h; cases h
    · intro h; cases h
    · intro h; cases h
    · intro h; cases h
    · intro h; cases h
    · intro h; cases h
    · intro h; cases h
    · intro h; cases h
    · intro h; cases h
    · intro h; cases h
    · intro h; cases h
    · intro h; cases h
theorem w_spec_l23Entry_y1_1 (a0 : Xl01Cur) (a1 : XDesk) (r1 : Int × Xl01Cur) (r2 : Int × Xl01Cur) (r3 : Int × Xl01Cur) (hr1 : f_spec_l01Below a0 (4 : Int) = some r1) (hr2 : f_spec_l01Below r1.2 (20 : Int) = some r2) (hr3 : f_spec_l01Below r2.2 (if (1 : Int) < (a1.Starts.length : Int) then (a1.Starts.length : Int) else (1 : Int)) = some r3) : ∀ (f : Nat) (b2 : Bool) (b3 : Bool) (b4 : Bool) (b7 : Bool) (b8 : Bool) (b10 : Bool) (b11 : Bool) (b12 : Bool) (b15 : Bool), anyA Tryz.prog y_spec_l23Entry_y1 ⟨[(0, vc (.pb 1099511627776 0)), (3, vc (.pb 3 0)), (4, vc (.pb 4 0)), (6, vc (.pb 1099511627776 0)), (7, vc (aI r1.1)), (8, vc (aI (IntKind.i64.wrap ((1 : Int) + r1.1)))), (9, vc (.pb 3 0)), (10, vc (aI a1.Now)), (11, vc (.pb 1099511627776 0)), (12, vc (aI r2.1)), (13, vc (aI (IntKind.i64.wrap (a1.Now + r2.1)))), (14, vc (aI (if (IntKind.i64.wrap (a1.Now + r2.1)) < (2880 : Int) then (IntKind.i64.wrap (a1.Now + r2.1)) else (2880 : Int)))), (15, vc (.pb 1099511627776 0)), (16, vc (.pb 3 1)), (17, vc (aL (List.map rI a1.Starts))), (18, vc (aI (a1.Starts.length : Int))), (19, vc (aI (if (1 : Int) < (a1.Starts.length : Int) then (a1.Starts.length : Int) else (1 : Int)))), (20, vc (aI r3.1)), (21, va [aI (IntKind.i64.wrap ((1 : Int) + r1.1)), aI (if (IntKind.i64.wrap (a1.Now + r2.1)) < (2880 : Int) then (IntKind.i64.wrap (a1.Now + r2.1)) else (2880 : Int)), aI r3.1, aI (0 : Int)]), (5, vc (.pb 5 0))], [(1099511627776, [aL (List.map r8 r3.2.b), aI r3.2.i, aI r3.2.h]), (3, [aI a1.Now, aL (List.map rI a1.Starts), aL (List.map rB a1.Cleared)]), (4, [aI (0 : Int), aI (0 : Int), aI (0 : Int), aI (0 : Int)]), (5, [aI (IntKind.i64.wrap ((1 : Int) + r1.1)), aI (if (IntKind.i64.wrap (a1.Now + r2.1)) < (2880 : Int) then (IntKind.i64.wrap (a1.Now + r2.1)) else (2880 : Int)), aI r3.1, aI (0 : Int)])], []⟩ f [true, true, b2, b3, b4, true, true, b7, b8, true, b10, b11, b12, true, true, b15, true, false] ⟨[(0, vc (.pb 1099511627776 0)), (3, vc (.pb 3 0)), (4, vc (.pb 4 0)), (6, vc (.pb 1099511627776 0)), (7, vc (aI r1.1)), (8, bif b2 then vc (aI (IntKind.i64.wrap ((1 : Int) + r1.1))) else .undef), (9, bif b3 then vc (.pb 3 0) else .undef), (10, bif b4 then vc (aI a1.Now) else .undef), (11, vc (.pb 1099511627776 0)), (12, vc (aI r2.1)), (13, bif b7 then vc (aI (IntKind.i64.wrap (a1.Now + r2.1))) else .undef), (14, bif b8 then vc (aI (if (IntKind.i64.wrap (a1.Now + r2.1)) < (2880 : Int) then (IntKind.i64.wrap (a1.Now + r2.1)) else (2880 : Int))) else .undef), (15, vc (.pb 1099511627776 0)), (16, bif b10 then vc (.pb 3 1) else .undef), (17, bif b11 then vc (aL (List.map rI a1.Starts)) else .undef), (18, bif b12 then vc (aI (a1.Starts.length : Int)) else .undef), (19, vc (aI (if (1 : Int) < (a1.Starts.length : Int) then (a1.Starts.length : Int) else (1 : Int)))), (20, vc (aI r3.1)), (21, bif b15 then va [aI (IntKind.i64.wrap ((1 : Int) + r1.1)), aI (if (IntKind.i64.wrap (a1.Now + r2.1)) < (2880 : Int) then (IntKind.i64.wrap (a1.Now + r2.1)) else (2880 : Int)), aI r3.1, aI (0 : Int)] else .undef), (5, vc (.pb 5 0))], [(1099511627776, [aL (List.map r8 r3.2.b), aI r3.2.i, aI r3.2.h]), (3, [aI a1.Now, aL (List.map rI a1.Starts), aL (List.map rB a1.Cleared)]), (4, [aI (0 : Int), aI (0 : Int), aI (0 : Int), aI (0 : Int)]), (5, [aI (0 : Int), aI (0 : Int), aI (0 : Int), aI (0 : Int)])], []⟩ := by
  intro f
  induction f with
  | zero => intro b2 b3 b4 b7 b8 b10 b11 b12 b15 h; simp at h
  | succ f ih =>
    intro b2 b3 b4 b7 b8 b10 b11 b12 b15
    refine any_step ⟨?_, ?_, ?_, ?_, ?_, ?_, ?_, ?_, ?_, ?_, ?_, ?_, ?_, ?_, ?_, ?_, ?_, ?_, trivial⟩
    · intro h; cases h
    · intro h; cases h
    · intro h0 hw
      obtain rfl : b2 = false := Option.some.inj h0
      try simp only [avmap_bif, Nat.reduceBEq, Nat.reduceMul, Nat.reduceAdd, Nat.reduceDiv, Int.reduceBEq, rules2, rulesX, rowsX]
      exact ih true b3 b4 b7 b8 b10 b11 b12 b15
    · intro h0 hw
      obtain rfl : b3 = false := Option.some.inj h0
      try simp only [avmap_bif, Nat.reduceBEq, Nat.reduceMul, Nat.reduceAdd, Nat.reduceDiv, Int.reduceBEq, rules2, rulesX, rowsX]
      exact ih b2 true b4 b7 b8 b10 b11 b12 b15
    · intro h0 hw
      obtain rfl : b4 = false := Option.some.inj h0
      obtain rfl : b3 = true := Option.some.inj (hw 3 (by simp))
      try simp only [avmap_bif, Nat.reduceBEq, Nat.reduceMul, Nat.reduceAdd, Nat.reduceDiv, Int.reduceBEq, rules2, rulesX, rowsX]
      exact ih b2 true true b7 b8 b10 b11 b12 b15
    · intro h; cases h
    · intro h; cases h
    · intro h0 hw
      obtain rfl : b7 = false := Option.some.inj h0
      obtain rfl : b4 = true := Option.some.inj (hw 4 (by simp))
      try simp only [avmap_bif, Nat.reduceBEq, Nat.reduceMul, Nat.reduceAdd, Nat.reduceDiv, Int.reduceBEq, rules2, rulesX, rowsX]
      exact ih b2 b3 true true b8 b10 b11 b12 b15
    · intro h0 hw
      obtain rfl : b8 = false := Option.some.inj h0
      obtain rfl : b7 = true := Option.some.inj (hw 7 (by simp))
      try simp only [avmap_bif, Nat.reduceBEq, Nat.reduceMul, Nat.reduceAdd, Nat.reduceDiv, Int.reduceBEq, rules2, rulesX, rowsX]
      exact ih b2 b3 b4 true true b10 b11 b12 b15
    · intro h; cases h
    · intro h0 hw
      obtain rfl : b10 = false := Option.some.inj h0
      try simp only [avmap_bif, Nat.reduceBEq, Nat.reduceMul, Nat.reduceAdd, Nat.reduceDiv, Int.reduceBEq, rules2, rulesX, rowsX]
      exact ih b2 b3 b4 b7 b8 true b11 b12 b15
    · intro h0 hw
      obtain rfl : b11 = false := Option.some.inj h0
      obtain rfl : b10 = true := Option.some.inj (hw 10 (by simp))
      try simp only [avmap_bif, Nat.reduceBEq, Nat.reduceMul, Nat.reduceAdd, Nat.reduceDiv, Int.reduceBEq, rules2, rulesX, rowsX]
      exact ih b2 b3 b4 b7 b8 true true b12 b15
    · intro h0 hw
      obtain rfl : b12 = false := Option.some.inj h0
      obtain rfl : b11 = true := Option.some.inj (hw 11 (by simp))
      try simp only [avmap_bif, Nat.reduceBEq, Nat.reduceMul, Nat.reduceAdd, Nat.reduceDiv, Int.reduceBEq, rules2, rulesX, rowsX]
      exact ih b2 b3 b4 b7 b8 b10 true true b15
    · intro h; cases h
    · intro h; cases h
    · intro h0 hw
      obtain rfl : b15 = false := Option.some.inj h0
      obtain rfl : b2 = true := Option.some.inj (hw 2 (by simp))
      obtain rfl : b8 = true := Option.some.inj (hw 8 (by simp))
      try simp only [avmap_bif, Nat.reduceBEq, Nat.reduceMul, Nat.reduceAdd, Nat.reduceDiv, Int.reduceBEq, rules2, rulesX, rowsX]
      exact ih true b3 b4 b7 true b10 b11 b12 true
    · intro h; cases h
    · intro h0 hw
      obtain rfl : b2 = true := Option.some.inj (hw 2 (by simp))
      obtain rfl : b3 = true := Option.some.inj (hw 3 (by simp))
      obtain rfl : b4 = true := Option.some.inj (hw 4 (by simp))
      obtain rfl : b7 = true := Option.some.inj (hw 7 (by simp))
      obtain rfl : b8 = true := Option.some.inj (hw 8 (by simp))
      obtain rfl : b10 = true := Option.some.inj (hw 10 (by simp))
      obtain rfl : b11 = true := Option.some.inj (hw 11 (by simp))
      obtain rfl : b12 = true := Option.some.inj (hw 12 (by simp))
      obtain rfl : b15 = true := Option.some.inj (hw 15 (by simp))
      try simp only [avmap_bif, Nat.reduceBEq, Nat.reduceMul, Nat.reduceAdd, Nat.reduceDiv, Int.reduceBEq, rules2, rulesX, rowsX]
      exact w_spec_l23Entry_y1_0 a0 a1 r1 r2 r3 hr1 hr2 hr3 _ 
theorem w_spec_l23Entry_y1_2 (a0 : Xl01Cur) (a1 : XDesk) (r1 : Int × Xl01Cur) (r2 : Int × Xl01Cur) (r3 : Int × Xl01Cur) (hr1 : f_spec_l01Below a0 (4 : Int) = some r1) (hr2 : f_spec_l01Below r1.2 (20 : Int) = some r2) (hr3 : f_spec_l01Below r2.2 (if (1 : Int) < (a1.Starts.length : Int) then (a1.Starts.length : Int) else (1 : Int)) = some r3) : ∀ (f : Nat) (b2 : Bool) (b3 : Bool) (b4 : Bool) (b7 : Bool) (b8 : Bool) (b10 : Bool) (b11 : Bool) (b12 : Bool) (b15 : Bool), anyA Tryz.prog y_spec_l23Entry_y1 ⟨[(0, vc (.pb 1099511627776 0)), (3, vc (.pb 3 0)), (4, vc (.pb 4 0)), (6, vc (.pb 1099511627776 0)), (7, vc (aI r1.1)), (8, vc (aI (IntKind.i64.wrap ((1 : Int) + r1.1)))), (9, vc (.pb 3 0)), (10, vc (aI a1.Now)), (11, vc (.pb 1099511627776 0)), (12, vc (aI r2.1)), (13, vc (aI (IntKind.i64.wrap (a1.Now + r2.1)))), (14, vc (aI (if (IntKind.i64.wrap (a1.Now + r2.1)) < (2880 : Int) then (IntKind.i64.wrap (a1.Now + r2.1)) else (2880 : Int)))), (15, vc (.pb 1099511627776 0)), (16, vc (.pb 3 1)), (17, vc (aL (List.map rI a1.Starts))), (18, vc (aI (a1.Starts.length : Int))), (19, vc (aI (if (1 : Int) < (a1.Starts.length : Int) then (a1.Starts.length : Int) else (1 : Int)))), (20, vc (aI r3.1)), (21, va [aI (IntKind.i64.wrap ((1 : Int) + r1.1)), aI (if (IntKind.i64.wrap (a1.Now + r2.1)) < (2880 : Int) then (IntKind.i64.wrap (a1.Now + r2.1)) else (2880 : Int)), aI r3.1, aI (0 : Int)]), (5, vc (.pb 5 0))], [(1099511627776, [aL (List.map r8 r3.2.b), aI r3.2.i, aI r3.2.h]), (3, [aI a1.Now, aL (List.map rI a1.Starts), aL (List.map rB a1.Cleared)]), (4, [aI (0 : Int), aI (0 : Int), aI (0 : Int), aI (0 : Int)]), (5, [aI (IntKind.i64.wrap ((1 : Int) + r1.1)), aI (if (IntKind.i64.wrap (a1.Now + r2.1)) < (2880 : Int) then (IntKind.i64.wrap (a1.Now + r2.1)) else (2880 : Int)), aI r3.1, aI (0 : Int)])], []⟩ f [true, true, b2, b3, b4, true, true, b7, b8, true, b10, b11, b12, true, true, b15, false, false] ⟨[(0, vc (.pb 1099511627776 0)), (3, vc (.pb 3 0)), (4, vc (.pb 4 0)), (6, vc (.pb 1099511627776 0)), (7, vc (aI r1.1)), (8, bif b2 then vc (aI (IntKind.i64.wrap ((1 : Int) + r1.1))) else .undef), (9, bif b3 then vc (.pb 3 0) else .undef), (10, bif b4 then vc (aI a1.Now) else .undef), (11, vc (.pb 1099511627776 0)), (12, vc (aI r2.1)), (13, bif b7 then vc (aI (IntKind.i64.wrap (a1.Now + r2.1))) else .undef), (14, bif b8 then vc (aI (if (IntKind.i64.wrap (a1.Now + r2.1)) < (2880 : Int) then (IntKind.i64.wrap (a1.Now + r2.1)) else (2880 : Int))) else .undef), (15, vc (.pb 1099511627776 0)), (16, bif b10 then vc (.pb 3 1) else .undef), (17, bif b11 then vc (aL (List.map rI a1.Starts)) else .undef), (18, bif b12 then vc (aI (a1.Starts.length : Int)) else .undef), (19, vc (aI (if (1 : Int) < (a1.Starts.length : Int) then (a1.Starts.length : Int) else (1 : Int)))), (20, vc (aI r3.1)), (21, bif b15 then va [aI (IntKind.i64.wrap ((1 : Int) + r1.1)), aI (if (IntKind.i64.wrap (a1.Now + r2.1)) < (2880 : Int) then (IntKind.i64.wrap (a1.Now + r2.1)) else (2880 : Int)), aI r3.1, aI (0 : Int)] else .undef), (5, .undef)], [(1099511627776, [aL (List.map r8 r3.2.b), aI r3.2.i, aI r3.2.h]), (3, [aI a1.Now, aL (List.map rI a1.Starts), aL (List.map rB a1.Cleared)]), (4, [aI (0 : Int), aI (0 : Int), aI (0 : Int), aI (0 : Int)])], []⟩ := by
  intro f
  induction f with
  | zero => intro b2 b3 b4 b7 b8 b10 b11 b12 b15 h; simp at h
  | succ f ih =>
    intro b2 b3 b4 b7 b8 b10 b11 b12 b15
    refine any_step ⟨?_, ?_, ?_, ?_, ?_, ?_, ?_, ?_, ?_, ?_, ?_, ?_, ?_, ?_, ?_, ?_, ?_, ?_, trivial⟩
    · intro h; cases h
    · intro h; cases h
    · intro h0 hw
      obtain rfl : b2 = false := Option.some.inj h0
      try simp only [avmap_bif, Nat.reduceBEq, Nat.reduceMul, Nat.reduceAdd, Nat.reduceDiv, Int.reduceBEq, rules2, rulesX, rowsX]
      exact ih true b3 b4 b7 b8 b10 b11 b12 b15
    · intro h0 hw
      obtain rfl : b3 = false := Option.some.inj h0
      try simp only [avmap_bif, Nat.reduceBEq, Nat.reduceMul, Nat.reduceAdd, Nat.reduceDiv, Int.reduceBEq, rules2, rulesX, rowsX]
      exact ih b2 true b4 b7 b8 b10 b11 b12 b15
    · intro h0 hw
      obtain rfl : b4 = false := Option.some.inj h0
      obtain rfl : b3 = true := Option.some.inj (hw 3 (by simp))
      try simp only [avmap_bif, Nat.reduceBEq, Nat.reduceMul, Nat.reduceAdd, Nat.reduceDiv, Int.reduceBEq, rules2, rulesX, rowsX]
      exact ih b2 true true b7 b8 b10 b11 b12 b15
    · intro h; cases h
    · intro h; cases h
    · intro h0 hw
      obtain rfl : b7 = false := Option.some.inj h0
      obtain rfl : b4 = true := Option.some.inj (hw 4 (by simp))
      try simp only [avmap_bif, Nat.reduceBEq, Nat.reduceMul, Nat.reduceAdd, Nat.reduceDiv, Int.reduceBEq, rules2, rulesX, rowsX]
      exact ih b2 b3 true true b8 b10 b11 b12 b15
    · intro h0 hw
      obtain rfl : b8 = false := Option.some.inj h0
      obtain rfl : b7 = true := Option.some.inj (hw 7 (by simp))
      try simp only [avmap_bif, Nat.reduceBEq, Nat.reduceMul, Nat.reduceAdd, Nat.reduceDiv, Int.reduceBEq, rules2, rulesX, rowsX]
      exact ih b2 b3 b4 true true b10 b11 b12 b15
    · intro h; cases h
    · intro h0 hw
      obtain rfl : b10 = false := Option.some.inj h0
      try simp only [avmap_bif, Nat.reduceBEq, Nat.reduceMul, Nat.reduceAdd, Nat.reduceDiv, Int.reduceBEq, rules2, rulesX, rowsX]
      exact ih b2 b3 b4 b7 b8 true b11 b12 b15
    · intro h0 hw
      obtain rfl : b11 = false := Option.some.inj h0
      obtain rfl : b10 = true := Option.some.inj (hw 10 (by simp))
      try simp only [avmap_bif, Nat.reduceBEq, Nat.reduceMul, Nat.reduceAdd, Nat.reduceDiv, Int.reduceBEq, rules2, rulesX, rowsX]
      exact ih b2 b3 b4 b7 b8 true true b12 b15
    · intro h0 hw
      obtain rfl : b12 = false := Option.some.inj h0
      obtain rfl : b11 = true := Option.some.inj (hw 11 (by simp))
      try simp only [avmap_bif, Nat.reduceBEq, Nat.reduceMul, Nat.reduceAdd, Nat.reduceDiv, Int.reduceBEq, rules2, rulesX, rowsX]
      exact ih b2 b3 b4 b7 b8 b10 true true b15
    · intro h; cases h
    · intro h; cases h
    · intro h0 hw
      obtain rfl : b15 = false := Option.some.inj h0
      obtain rfl : b2 = true := Option.some.inj (hw 2 (by simp))
      obtain rfl : b8 = true := Option.some.inj (hw 8 (by simp))
      try simp only [avmap_bif, Nat.reduceBEq, Nat.reduceMul, Nat.reduceAdd, Nat.reduceDiv, Int.reduceBEq, rules2, rulesX, rowsX]
      exact ih true b3 b4 b7 true b10 b11 b12 true
    · intro h0 hw
      try simp only [avmap_bif, Nat.reduceBEq, Nat.reduceMul, Nat.reduceAdd, Nat.reduceDiv, Int.reduceBEq, rules2, rulesX, rowsX]
      refine go_al (by simp only [St.fresh, List.all_cons, List.all_nil, all_bif]; simp [AV.cells, V1.cells, AC.uses]) rfl ?_
      try simp only [avmap_bif, Nat.reduceBEq, Nat.reduceMul, Nat.reduceAdd, Nat.reduceDiv, Int.reduceBEq, rules2, rulesX, rowsX]
      exact w_spec_l23Entry_y1_1 a0 a1 r1 r2 r3 hr1 hr2 hr3 _ b2 b3 b4 b7 b8 b10 b11 b12 b15
    · intro _ hw; have := hw 16 (by simp); cases this
theorem w_spec_l23Entry_y1_3 (a0 : Xl01Cur) (a1 : XDesk) (r1 : Int × Xl01Cur) (r2 : Int × Xl01Cur) (r3 : Int × Xl01Cur) (hr1 : f_spec_l01Below a0 (4 : Int) = some r1) (hr2 : f_spec_l01Below r1.2 (20 : Int) = some r2) (hr3 : f_spec_l01Below r2.2 (if (1 : Int) < (a1.Starts.length : Int) then (a1.Starts.length : Int) else (1 : Int)) = some r3) : ∀ (f : Nat) (b2 : Bool) (b3 : Bool) (b4 : Bool) (b7 : Bool) (b8 : Bool) (b9 : Bool) (b10 : Bool) (b11 : Bool) (b12 : Bool) (b13 : Bool), anyA Tryz.prog y_spec_l23Entry_y1 ⟨[(0, vc (.pb 1099511627776 0)), (3, vc (.pb 3 0)), (4, vc (.pb 4 0)), (6, vc (.pb 1099511627776 0)), (7, vc (aI r1.1)), (8, vc (aI (IntKind.i64.wrap ((1 : Int) + r1.1)))), (9, vc (.pb 3 0)), (10, vc (aI a1.Now)), (11, vc (.pb 1099511627776 0)), (12, vc (aI r2.1)), (13, vc (aI (IntKind.i64.wrap (a1.Now + r2.1)))), (14, vc (aI (if (IntKind.i64.wrap (a1.Now + r2.1)) < (2880 : Int) then (IntKind.i64.wrap (a1.Now + r2.1)) else (2880 : Int)))), (15, vc (.pb 1099511627776 0)), (16, vc (.pb 3 1)), (17, vc (aL (List.map rI a1.Starts))), (18, vc (aI (a1.Starts.length : Int))), (19, vc (aI (if (1 : Int) < (a1.Starts.length : Int) then (a1.Starts.length : Int) else (1 : Int)))), (20, vc (aI r3.1)), (21, va [aI (IntKind.i64.wrap ((1 : Int) + r1.1)), aI (if (IntKind.i64.wrap (a1.Now + r2.1)) < (2880 : Int) then (IntKind.i64.wrap (a1.Now + r2.1)) else (2880 : Int)), aI r3.1, aI (0 : Int)]), (5, vc (.pb 5 0))], [(1099511627776, [aL (List.map r8 r3.2.b), aI r3.2.i, aI r3.2.h]), (3, [aI a1.Now, aL (List.map rI a1.Starts), aL (List.map rB a1.Cleared)]), (4, [aI (0 : Int), aI (0 : Int), aI (0 : Int), aI (0 : Int)]), (5, [aI (IntKind.i64.wrap ((1 : Int) + r1.1)), aI (if (IntKind.i64.wrap (a1.Now + r2.1)) < (2880 : Int) then (IntKind.i64.wrap (a1.Now + r2.1)) else (2880 : Int)), aI r3.1, aI (0 : Int)])], []⟩ f [true, true, b2, b3, b4, true, true, b7, b8, b9, b10, b11, b12, b13, false, false, true, false] ⟨[(0, vc (.pb 1099511627776 0)), (3, vc (.pb 3 0)), (4, vc (.pb 4 0)), (6, vc (.pb 1099511627776 0)), (7, vc (aI r1.1)), (8, bif b2 then vc (aI (IntKind.i64.wrap ((1 : Int) + r1.1))) else .undef), (9, bif b3 then vc (.pb 3 0) else .undef), (10, bif b4 then vc (aI a1.Now) else .undef), (11, vc (.pb 1099511627776 0)), (12, vc (aI r2.1)), (13, bif b7 then vc (aI (IntKind.i64.wrap (a1.Now + r2.1))) else .undef), (14, bif b8 then vc (aI (if (IntKind.i64.wrap (a1.Now + r2.1)) < (2880 : Int) then (IntKind.i64.wrap (a1.Now + r2.1)) else (2880 : Int))) else .undef), (15, bif b9 then vc (.pb 1099511627776 0) else .undef), (16, bif b10 then vc (.pb 3 1) else .undef), (17, bif b11 then vc (aL (List.map rI a1.Starts)) else .undef), (18, bif b12 then vc (aI (a1.Starts.length : Int)) else .undef), (19, bif b13 then vc (aI (if (1 : Int) < (a1.Starts.length : Int) then (a1.Starts.length : Int) else (1 : Int))) else .undef), (20, .undef), (21, .undef), (5, vc (.pb 5 0))], [(1099511627776, [aL (List.map r8 r2.2.b), aI r2.2.i, aI r2.2.h]), (3, [aI a1.Now, aL (List.map rI a1.Starts), aL (List.map rB a1.Cleared)]), (4, [aI (0 : Int), aI (0 : Int), aI (0 : Int), aI (0 : Int)]), (5, [aI (0 : Int), aI (0 : Int), aI (0 : Int), aI (0 : Int)])], []⟩ := by
  intro f
  induction f with
  | zero => intro b2 b3 b4 b7 b8 b9 b10 b11 b12 b13 h; simp at h
  | succ f ih =>
    intro b2 b3 b4 b7 b8 b9 b10 b11 b12 b13
    refine any_step ⟨?_, ?_, ?_, ?_, ?_, ?_, ?_, ?_, ?_, ?_, ?_, ?_, ?_, ?_, ?_, ?_, ?_, ?_, trivial⟩
    · intro h; cases h
    · intro h; cases h
    · intro h0 hw
      obtain rfl : b2 = false := Option.some.inj h0
      try simp only [avmap_bif, Nat.reduceBEq, Nat.reduceMul, Nat.reduceAdd, Nat.reduceDiv, Int.reduceBEq, rules2, rulesX, rowsX]
      exact ih true b3 b4 b7 b8 b9 b10 b11 b12 b13
    · intro h0 hw
      obtain rfl : b3 = false := Option.some.inj h0
      try simp only [avmap_bif, Nat.reduceBEq, Nat.reduceMul, Nat.reduceAdd, Nat.reduceDiv, Int.reduceBEq, rules2, rulesX, rowsX]
      exact ih b2 true b4 b7 b8 b9 b10 b11 b12 b13
    · intro h0 hw
      obtain rfl : b4 = false := Option.some.inj h0
      obtain rfl : b3 = true := Option.some.inj (hw 3 (by simp))
      try simp only [avmap_bif, Nat.reduceBEq, Nat.reduceMul, Nat.reduceAdd, Nat.reduceDiv, Int.reduceBEq, rules2, rulesX, rowsX]
      exact ih b2 true true b7 b8 b9 b10 b11 b12 b13
    · intro h; cases h
    · intro h; cases h
    · intro h0 hw
      obtain rfl : b7 = false := Option.some.inj h0
      obtain rfl : b4 = true := Option.some.inj (hw 4 (by simp))
      try simp only [avmap_bif, Nat.reduceBEq, Nat.reduceMul, Nat.reduceAdd, Nat.reduceDiv, Int.reduceBEq, rules2, rulesX, rowsX]
      exact ih b2 b3 true true b8 b9 b10 b11 b12 b13
    · intro h0 hw
      obtain rfl : b8 = false := Option.some.inj h0
      obtain rfl : b7 = true := Option.some.inj (hw 7 (by simp))
      try simp only [avmap_bif, Nat.reduceBEq, Nat.reduceMul, Nat.reduceAdd, Nat.reduceDiv, Int.reduceBEq, rules2, rulesX, rowsX]
      exact ih b2 b3 b4 true true b9 b10 b11 b12 b13
    · intro h0 hw
      obtain rfl : b9 = false := Option.some.inj h0
      try simp only [avmap_bif, Nat.reduceBEq, Nat.reduceMul, Nat.reduceAdd, Nat.reduceDiv, Int.reduceBEq, rules2, rulesX, rowsX]
      exact ih b2 b3 b4 b7 b8 true b10 b11 b12 b13
    · intro h0 hw
      obtain rfl : b10 = false := Option.some.inj h0
      try simp only [avmap_bif, Nat.reduceBEq, Nat.reduceMul, Nat.reduceAdd, Nat.reduceDiv, Int.reduceBEq, rules2, rulesX, rowsX]
      exact ih b2 b3 b4 b7 b8 b9 true b11 b12 b13
    · intro h0 hw
      obtain rfl : b11 = false := Option.some.inj h0
      obtain rfl : b10 = true := Option.some.inj (hw 10 (by simp))
      try simp only [avmap_bif, Nat.reduceBEq, Nat.reduceMul, Nat.reduceAdd, Nat.reduceDiv, Int.reduceBEq, rules2, rulesX, rowsX]
      exact ih b2 b3 b4 b7 b8 b9 true true b12 b13
    · intro h0 hw
      obtain rfl : b12 = false := Option.some.inj h0
      obtain rfl : b11 = true := Option.some.inj (hw 11 (by simp))
      try simp only [avmap_bif, Nat.reduceBEq, Nat.reduceMul, Nat.reduceAdd, Nat.reduceDiv, Int.reduceBEq, rules2, rulesX, rowsX]
      exact ih b2 b3 b4 b7 b8 b9 b10 true true b13
    · intro h0 hw
      obtain rfl : b13 = false := Option.some.inj h0
      obtain rfl : b12 = true := Option.some.inj (hw 12 (by simp))
      try simp only [avmap_bif, Nat.reduceBEq, Nat.reduceMul, Nat.reduceAdd, Nat.reduceDiv, Int.reduceBEq, rules2, rulesX, rowsX]
      exact ih b2 b3 b4 b7 b8 b9 b10 b11 true true
    · intro h0 hw
      obtain rfl : b9 = true := Option.some.inj (hw 9 (by simp))
      obtain rfl : b13 = true := Option.some.inj (hw 13 (by simp))
      try simp only [avmap_bif, Nat.reduceBEq, Nat.reduceMul, Nat.reduceAdd, Nat.reduceDiv, Int.reduceBEq, rules2, rulesX, rowsX]
      refine go_cally (w_spec_l01Below _ _ _ hr3) 1099511627776 rfl rfl rfl ?_
      try simp only [avmap_bif, Nat.reduceBEq, Nat.reduceMul, Nat.reduceAdd, Nat.reduceDiv, Int.reduceBEq, rules2, rulesX, rowsX]
      exact w_spec_l23Entry_y1_1 a0 a1 r1 r2 r3 hr1 hr2 hr3 _ b2 b3 b4 b7 b8 b10 b11 b12 false
    · intro _ hw; have := hw 14 (by simp); cases this
    · intro h; cases h
    · intro _ hw; have := hw 15 (by simp); cases this
theorem w_spec_l23Entry_y1_4 (a0 : Xl01Cur) (a1 : XDesk) (r1 : Int × Xl01Cur) (r2 : Int × Xl01Cur) (r3 : Int × Xl01Cur) (hr1 : f_spec_l01Below a0 (4 : Int) = some r1) (hr2 : f_spec_l01Below r1.2 (20 : Int) = some r2) (hr3 : f_spec_l01Below r2.2 (if (1 : Int) < (a1.Starts.length : Int) then (a1.Starts.length : Int) else (1 : Int)) = some r3) : ∀ (f : Nat) (b2 : Bool) (b3 : Bool) (b4 : Bool) (b7 : Bool) (b8 : Bool) (b9 : Bool) (b10 : Bool) (b11 : Bool) (b12 : Bool) (b13 : Bool), anyA Tryz.prog y_spec_l23Entry_y1 ⟨[(0, vc (.pb 1099511627776 0)), (3, vc (.pb 3 0)), (4, vc (.pb 4 0)), (6, vc (.pb 1099511627776 0)), (7, vc (aI r1.1)), (8, vc (aI (IntKind.i64.wrap ((1 : Int) + r1.1)))), (9, vc (.pb 3 0)), (10, vc (aI a1.Now)), (11, vc (.pb 1099511627776 0)), (12, vc (aI r2.1)), (13, vc (aI (IntKind.i64.wrap (a1.Now + r2.1)))), (14, vc (aI (if (IntKind.i64.wrap (a1.Now + r2.1)) < (2880 : Int) then (IntKind.i64.wrap (a1.Now + r2.1)) else (2880 : Int)))), (15, vc (.pb 1099511627776 0)), (16, vc (.pb 3 1)), (17, vc (aL (List.map rI a1.Starts))), (18, vc (aI (a1.Starts.length : Int))), (19, vc (aI (if (1 : Int) < (a1.Starts.length : Int) then (a1.Starts.length : Int) else (1 : Int)))), (20, vc (aI r3.1)), (21, va [aI (IntKind.i64.wrap ((1 : Int) + r1.1)), aI (if (IntKind.i64.wrap (a1.Now + r2.1)) < (2880 : Int) then (IntKind.i64.wrap (a1.Now + r2.1)) else (2880 : Int)), aI r3.1, aI (0 : Int)]), (5, vc (.pb 5 0))], [(1099511627776, [aL (List.map r8 r3.2.b), aI r3.2.i, aI r3.2.h]), (3, [aI a1.Now, aL (List.map rI a1.Starts), aL (List.map rB a1.Cleared)]), (4, [aI (0 : Int), aI (0 : Int), aI (0 : Int), aI (0 : Int)]), (5, [aI (IntKind.i64.wrap ((1 : Int) + r1.1)), aI (if (IntKind.i64.wrap (a1.Now + r2.1)) < (2880 : Int) then (IntKind.i64.wrap (a1.Now + r2.1)) else (2880 : Int)), aI r3.1, aI (0 : Int)])], []⟩ f [true, true, b2, b3, b4, true, true, b7, b8, b9, b10, b11, b12, b13, false, false, false, false] ⟨[(0, vc (.pb 1099511627776 0)), (3, vc (.pb 3 0)), (4, vc (.pb 4 0)), (6, vc (.pb 1099511627776 0)), (7, vc (aI r1.1)), (8, bif b2 then vc (aI (IntKind.i64.wrap ((1 : Int) + r1.1))) else .undef), (9, bif b3 then vc (.pb 3 0) else .undef), (10, bif b4 then vc (aI a1.Now) else .undef), (11, vc (.pb 1099511627776 0)), (12, vc (aI r2.1)), (13, bif b7 then vc (aI (IntKind.i64.wrap (a1.Now + r2.1))) else .undef), (14, bif b8 then vc (aI (if (IntKind.i64.wrap (a1.Now + r2.1)) < (2880 : Int) then (IntKind.i64.wrap (a1.Now + r2.1)) else (2880 : Int))) else .undef), (15, bif b9 then vc (.pb 1099511627776 0) else .undef), (16, bif b10 then vc (.pb 3 1) else .undef), (17, bif b11 then vc (aL (List.map rI a1.Starts)) else .undef), (18, bif b12 then vc (aI (a1.Starts.length : Int)) else .undef), (19, bif b13 then vc (aI (if (1 : Int) < (a1.Starts.length : Int) then (a1.Starts.length : Int) else (1 : Int))) else .undef), (20, .undef), (21, .undef), (5, .undef)], [(1099511627776, [aL (List.map r8 r2.2.b), aI r2.2.i, aI r2.2.h]), (3, [aI a1.Now, aL (List.map rI a1.Starts), aL (List.map rB a1.Cleared)]), (4, [aI (0 : Int), aI (0 : Int), aI (0 : Int), aI (0 : Int)])], []⟩ := by
  intro f
  induction f with
  | zero => intro b2 b3 b4 b7 b8 b9 b10 b11 b12 b13 h; simp at h
  | succ f ih =>
    intro b2 b3 b4 b7 b8 b9 b10 b11 b12 b13
    refine any_step ⟨?_, ?_, ?_, ?_, ?_, ?_, ?_, ?_, ?_, ?_, ?_, ?_, ?_, ?_, ?_, ?_, ?_, ?_, trivial⟩
    · intro h; cases h
    · intro h; cases h
    · intro h0 hw
      obtain rfl : b2 = false := Option.some.inj h0
      try simp only [avmap_bif, Nat.reduceBEq, Nat.reduceMul, Nat.reduceAdd, Nat.reduceDiv, Int.reduceBEq, rules2, rulesX, rowsX]
      exact ih true b3 b4 b7 b8 b9 b10 b11 b12 b13
    · intro h0 hw
      obtain rfl : b3 = false := Option.some.inj h0
      try simp only [avmap_bif, Nat.reduceBEq, Nat.reduceMul, Nat.reduceAdd, Nat.reduceDiv, Int.reduceBEq, rules2, rulesX, rowsX]
      exact ih b2 true b4 b7 b8 b9 b10 b11 b12 b13
    · intro h0 hw
      obtain rfl : b4 = false := Option.some.inj h0
      obtain rfl : b3 = true := Option.some.inj (hw 3 (by simp))
      try simp only [avmap_bif, Nat.reduceBEq, Nat.reduceMul, Nat.reduceAdd, Nat.reduceDiv, Int.reduceBEq, rules2, rulesX, rowsX]
      exact ih b2 true true b7 b8 b9 b10 b11 b12 b13
    · intro h; cases h
    · intro h; cases h
    · intro h0 hw
      obtain rfl : b7 = false := Option.some.inj h0
      obtain rfl : b4 = true := Option.some.inj (hw 4 (by simp))
      try simp only [avmap_bif, Nat.reduceBEq, Nat.reduceMul, Nat.reduceAdd, Nat.reduceDiv, Int.reduceBEq, rules2, rulesX, rowsX]
      exact ih b2 b3 true true b8 b9 b10 b11 b12 b13
    · intro h0 hw
      obtain rfl : b8 = false := Option.some.inj h0
      obtain rfl : b7 = true := Option.some.inj (hw 7 (by simp))
      try simp only [avmap_bif, Nat.reduceBEq, Nat.reduceMul, Nat.reduceAdd, Nat.reduceDiv, Int.reduceBEq, rules2, rulesX, rowsX]
      exact ih b2 b3 b4 true true b9 b10 b11 b12 b13
    · intro h0 hw
      obtain rfl : b9 = false := Option.some.inj h0
      try simp only [avmap_bif, Nat.reduceBEq, Nat.reduceMul, Nat.reduceAdd, Nat.reduceDiv, Int.reduceBEq, rules2, rulesX, rowsX]
      exact ih b2 b3 b4 b7 b8 true b10 b11 b12 b13
    · intro h0 hw
      obtain rfl : b10 = false := Option.some.inj h0
      try simp only [avmap_bif, Nat.reduceBEq, Nat.reduceMul, Nat.reduceAdd, Nat.reduceDiv, Int.reduceBEq, rules2, rulesX, rowsX]
      exact ih b2 b3 b4 b7 b8 b9 true b11 b12 b13
    · intro h0 hw
      obtain rfl : b11 = false := Option.some.inj h0
      obtain rfl : b10 = true := Option.some.inj (hw 10 (by simp))
      try simp only [avmap_bif, Nat.reduceBEq, Nat.reduceMul, Nat.reduceAdd, Nat.reduceDiv, Int.reduceBEq, rules2, rulesX, rowsX]
      exact ih b2 b3 b4 b7 b8 b9 true true b12 b13
    · intro h0 hw
      obtain rfl : b12 = false := Option.some.inj h0
      obtain rfl : b11 = true := Option.some.inj (hw 11 (by simp))
      try simp only [avmap_bif, Nat.reduceBEq, Nat.reduceMul, Nat.reduceAdd, Nat.reduceDiv, Int.reduceBEq, rules2, rulesX, rowsX]
      exact ih b2 b3 b4 b7 b8 b9 b10 true true b13
    · intro h0 hw
      obtain rfl : b13 = false := Option.some.inj h0
      obtain rfl : b12 = true := Option.some.inj (hw 12 (by simp))
      try simp only [avmap_bif, Nat.reduceBEq, Nat.reduceMul, Nat.reduceAdd, Nat.reduceDiv, Int.reduceBEq, rules2, rulesX, rowsX]
      exact ih b2 b3 b4 b7 b8 b9 b10 b11 true true
    · intro h0 hw
      obtain rfl : b9 = true := Option.some.inj (hw 9 (by simp))
      obtain rfl : b13 = true := Option.some.inj (hw 13 (by simp))
      try simp only [avmap_bif, Nat.reduceBEq, Nat.reduceMul, Nat.reduceAdd, Nat.reduceDiv, Int.reduceBEq, rules2, rulesX, rowsX]
      refine go_cally (w_spec_l01Below _ _ _ hr3) 1099511627776 rfl rfl rfl ?_
      try simp only [avmap_bif, Nat.reduceBEq, Nat.reduceMul, Nat.reduceAdd, Nat.reduceDiv, Int.reduceBEq, rules2, rulesX, rowsX]
      exact w_spec_l23Entry_y1_2 a0 a1 r1 r2 r3 hr1 hr2 hr3 _ b2 b3 b4 b7 b8 b10 b11 b12 false
    · intro _ hw; have := hw 14 (by simp); cases this
    · intro h0 hw
      try simp only [avmap_bif, Nat.reduceBEq, Nat.reduceMul, Nat.reduceAdd, Nat.reduceDiv, Int.reduceBEq, rules2, rulesX, rowsX]
      refine go_al (by simp only [St.fresh, List.all_cons, List.all_nil, all_bif]; simp [AV.cells, V1.cells, AC.uses]) rfl ?_
      try simp only [avmap_bif, Nat.reduceBEq, Nat.reduceMul, Nat.reduceAdd, Nat.reduceDiv, Int.reduceBEq, rules2, rulesX, rowsX]
      exact w_spec_l23Entry_y1_3 a0 a1 r1 r2 r3 hr1 hr2 hr3 _ b2 b3 b4 b7 b8 b9 b10 b11 b12 b13
    · intro _ hw; have := hw 16 (by simp); cases this
theorem w_spec_l23Entry_y1_5 (a0 : Xl01Cur) (a1 : XDesk) (r1 : Int × Xl01Cur) (r2 : Int × Xl01Cur) (r3 : Int × Xl01Cur) (hr1 : f_spec_l01Below a0 (4 : Int) = some r1) (hr2 : f_spec_l01Below r1.2 (20 : Int) = some r2) (hr3 : f_spec_l01Below r2.2 (if (1 : Int) < (a1.Starts.length : Int) then (a1.Starts.length : Int) else (1 : Int)) = some r3) : ∀ (f : Nat) (b2 : Bool) (b3 : Bool) (b4 : Bool) (b5 : Bool) (b9 : Bool) (b10 : Bool) (b11 : Bool) (b12 : Bool) (b13 : Bool), anyA Tryz.prog y_spec_l23Entry_y1 ⟨[(0, vc (.pb 1099511627776 0)), (3, vc (.pb 3 0)), (4, vc (.pb 4 0)), (6, vc (.pb 1099511627776 0)), (7, vc (aI r1.1)), (8, vc (aI (IntKind.i64.wrap ((1 : Int) + r1.1)))), (9, vc (.pb 3 0)), (10, vc (aI a1.Now)), (11, vc (.pb 1099511627776 0)), (12, vc (aI r2.1)), (13, vc (aI (IntKind.i64.wrap (a1.Now + r2.1)))), (14, vc (aI (if (IntKind.i64.wrap (a1.Now + r2.1)) < (2880 : Int) then (IntKind.i64.wrap (a1.Now + r2.1)) else (2880 : Int)))), (15, vc (.pb 1099511627776 0)), (16, vc (.pb 3 1)), (17, vc (aL (List.map rI a1.Starts))), (18, vc (aI (a1.Starts.length : Int))), (19, vc (aI (if (1 : Int) < (a1.Starts.length : Int) then (a1.Starts.length : Int) else (1 : Int)))), (20, vc (aI r3.1)), (21, va [aI (IntKind.i64.wrap ((1 : Int) + r1.1)), aI (if (IntKind.i64.wrap (a1.Now + r2.1)) < (2880 : Int) then (IntKind.i64.wrap (a1.Now + r2.1)) else (2880 : Int)), aI r3.1, aI (0 : Int)]), (5, vc (.pb 5 0))], [(1099511627776, [aL (List.map r8 r3.2.b), aI r3.2.i, aI r3.2.h]), (3, [aI a1.Now, aL (List.map rI a1.Starts), aL (List.map rB a1.Cleared)]), (4, [aI (0 : Int), aI (0 : Int), aI (0 : Int), aI (0 : Int)]), (5, [aI (IntKind.i64.wrap ((1 : Int) + r1.1)), aI (if (IntKind.i64.wrap (a1.Now + r2.1)) < (2880 : Int) then (IntKind.i64.wrap (a1.Now + r2.1)) else (2880 : Int)), aI r3.1, aI (0 : Int)])], []⟩ f [true, true, b2, b3, b4, b5, false, false, false, b9, b10, b11, b12, b13, false, false, true, false] ⟨[(0, vc (.pb 1099511627776 0)), (3, vc (.pb 3 0)), (4, vc (.pb 4 0)), (6, vc (.pb 1099511627776 0)), (7, vc (aI r1.1)), (8, bif b2 then vc (aI (IntKind.i64.wrap ((1 : Int) + r1.1))) else .undef), (9, bif b3 then vc (.pb 3 0) else .undef), (10, bif b4 then vc (aI a1.Now) else .undef), (11, bif b5 then vc (.pb 1099511627776 0) else .undef), (12, .undef), (13, .undef), (14, .undef), (15, bif b9 then vc (.pb 1099511627776 0) else .undef), (16, bif b10 then vc (.pb 3 1) else .undef), (17, bif b11 then vc (aL (List.map rI a1.Starts)) else .undef), (18, bif b12 then vc (aI (a1.Starts.length : Int)) else .undef), (19, bif b13 then vc (aI (if (1 : Int) < (a1.Starts.length : Int) then (a1.Starts.length : Int) else (1 : Int))) else .undef), (20, .undef), (21, .undef), (5, vc (.pb 5 0))], [(1099511627776, [aL (List.map r8 r1.2.b), aI r1.2.i, aI r1.2.h]), (3, [aI a1.Now, aL (List.map rI a1.Starts), aL (List.map rB a1.Cleared)]), (4, [aI (0 : Int), aI (0 : Int), aI (0 : Int), aI (0 : Int)]), (5, [aI (0 : Int), aI (0 : Int), aI (0 : Int), aI (0 : Int)])], []⟩ := by
  intro f
  induction f with
  | zero => intro b2 b3 b4 b5 b9 b10 b11 b12 b13 h; simp at h
  | succ f ih =>
    intro b2 b3 b4 b5 b9 b10 b11 b12 b13
    refine any_step ⟨?_, ?_, ?_, ?_, ?_, ?_, ?_, ?_, ?_, ?_, ?_, ?_, ?_, ?_, ?_, ?_, ?_, ?_, trivial⟩
    · intro h; cases h
    · intro h; cases h
    · intro h0 hw
      obtain rfl : b2 = false := Option.some.inj h0
      try simp only [avmap_bif, Nat.reduceBEq, Nat.reduceMul, Nat.reduceAdd, Nat.reduceDiv, Int.reduceBEq, rules2, rulesX, rowsX]
      exact ih true b3 b4 b5 b9 b10 b11 b12 b13
    · intro h0 hw
      obtain rfl : b3 = false := Option.some.inj h0
      try simp only [avmap_bif, Nat.reduceBEq, Nat.reduceMul, Nat.reduceAdd, Nat.reduceDiv, Int.reduceBEq, rules2, rulesX, rowsX]
      exact ih b2 true b4 b5 b9 b10 b11 b12 b13
    · intro h0 hw
      obtain rfl : b4 = false := Option.some.inj h0
      obtain rfl : b3 = true := Option.some.inj (hw 3 (by simp))
      try simp only [avmap_bif, Nat.reduceBEq, Nat.reduceMul, Nat.reduceAdd, Nat.reduceDiv, Int.reduceBEq, rules2, rulesX, rowsX]
      exact ih b2 true true b5 b9 b10 b11 b12 b13
    · intro h0 hw
      obtain rfl : b5 = false := Option.some.inj h0
      try simp only [avmap_bif, Nat.reduceBEq, Nat.reduceMul, Nat.reduceAdd, Nat.reduceDiv, Int.reduceBEq, rules2, rulesX, rowsX]
      exact ih b2 b3 b4 true b9 b10 b11 b12 b13
    · intro h0 hw
      obtain rfl : b5 = true := Option.some.inj (hw 5 (by simp))
      try simp only [avmap_bif, Nat.reduceBEq, Nat.reduceMul, Nat.reduceAdd, Nat.reduceDiv, Int.reduceBEq, rules2, rulesX, rowsX]
      refine go_cally (w_spec_l01Below _ _ _ hr2) 1099511627776 rfl rfl rfl ?_
      try simp only [avmap_bif, Nat.reduceBEq, Nat.reduceMul, Nat.reduceAdd, Nat.reduceDiv, Int.reduceBEq, rules2, rulesX, rowsX]
      exact w_spec_l23Entry_y1_3 a0 a1 r1 r2 r3 hr1 hr2 hr3 _ b2 b3 b4 false false b9 b10 b11 b12 b13
    · intro _ hw; have := hw 6 (by simp); cases this
    · intro _ hw; have := hw 7 (by simp); cases this
    · intro h0 hw
      obtain rfl : b9 = false := Option.some.inj h0
      try simp only [avmap_bif, Nat.reduceBEq, Nat.reduceMul, Nat.reduceAdd, Nat.reduceDiv, Int.reduceBEq, rules2, rulesX, rowsX]
      exact ih b2 b3 b4 b5 true b10 b11 b12 b13
    · intro h0 hw
      obtain rfl : b10 = false := Option.some.inj h0
      try simp only [avmap_bif, Nat.reduceBEq, Nat.reduceMul, Nat.reduceAdd, Nat.reduceDiv, Int.reduceBEq, rules2, rulesX, rowsX]
      exact ih b2 b3 b4 b5 b9 true b11 b12 b13
    · intro h0 hw
      obtain rfl : b11 = false := Option.some.inj h0
      obtain rfl : b10 = true := Option.some.inj (hw 10 (by simp))
      try simp only [avmap_bif, Nat.reduceBEq, Nat.reduceMul, Nat.reduceAdd, Nat.reduceDiv, Int.reduceBEq, rules2, rulesX, rowsX]
      exact ih b2 b3 b4 b5 b9 true true b12 b13
    · intro h0 hw
      obtain rfl : b12 = false := Option.some.inj h0
      obtain rfl : b11 = true := Option.some.inj (hw 11 (by simp))
      try simp only [avmap_bif, Nat.reduceBEq, Nat.reduceMul, Nat.reduceAdd, Nat.reduceDiv, Int.reduceBEq, rules2, rulesX, rowsX]
      exact ih b2 b3 b4 b5 b9 b10 true true b13
    · intro h0 hw
      obtain rfl : b13 = false := Option.some.inj h0
      obtain rfl : b12 = true := Option.some.inj (hw 12 (by simp))
      try simp only [avmap_bif, Nat.reduceBEq, Nat.reduceMul, Nat.reduceAdd, Nat.reduceDiv, Int.reduceBEq, rules2, rulesX, rowsX]
      exact ih b2 b3 b4 b5 b9 b10 b11 true true
    · intro _ hw; have := hw 6 (by simp); cases this
    · intro _ hw; have := hw 8 (by simp); cases this
    · intro h; cases h
    · intro _ hw; have := hw 15 (by simp); cases this
theorem w_spec_l23Entry_y1_6 (a0 : Xl01Cur) (a1 : XDesk) (r1 : Int × Xl01Cur) (r2 : Int × Xl01Cur) (r3 : Int × Xl01Cur) (hr1 : f_spec_l01Below a0 (4 : Int) = some r1) (hr2 : f_spec_l01Below r1.2 (20 : Int) = some r2) (hr3 : f_spec_l01Below r2.2 (if (1 : Int) < (a1.Starts.length : Int) then (a1.Starts.length : Int) else (1 : Int)) = some r3) : ∀ (f : Nat) (b2 : Bool) (b3 : Bool) (b4 : Bool) (b5 : Bool) (b9 : Bool) (b10 : Bool) (b11 : Bool) (b12 : Bool) (b13 : Bool), anyA Tryz.prog y_spec_l23Entry_y1 ⟨[(0, vc (.pb 1099511627776 0)), (3, vc (.pb 3 0)), (4, vc (.pb 4 0)), (6, vc (.pb 1099511627776 0)), (7, vc (aI r1.1)), (8, vc (aI (IntKind.i64.wrap ((1 : Int) + r1.1)))), (9, vc (.pb 3 0)), (10, vc (aI a1.Now)), (11, vc (.pb 1099511627776 0)), (12, vc (aI r2.1)), (13, vc (aI (IntKind.i64.wrap (a1.Now + r2.1)))), (14, vc (aI (if (IntKind.i64.wrap (a1.Now + r2.1)) < (2880 : Int) then (IntKind.i64.wrap (a1.Now + r2.1)) else (2880 : Int)))), (15, vc (.pb 1099511627776 0)), (16, vc (.pb 3 1)), (17, vc (aL (List.map rI a1.Starts))), (18, vc (aI (a1.Starts.length : Int))), (19, vc (aI (if (1 : Int) < (a1.Starts.length : Int) then (a1.Starts.length : Int) else (1 : Int)))), (20, vc (aI r3.1)), (21, va [aI (IntKind.i64.wrap ((1 : Int) + r1.1)), aI (if (IntKind.i64.wrap (a1.Now + r2.1)) < (2880 : Int) then (IntKind.i64.wrap (a1.Now + r2.1)) else (2880 : Int)), aI r3.1, aI (0 : Int)]), (5, vc (.pb 5 0))], [(1099511627776, [aL (List.map r8 r3.2.b), aI r3.2.i, aI r3.2.h]), (3, [aI a1.Now, aL (List.map rI a1.Starts), aL (List.map rB a1.Cleared)]), (4, [aI (0 : Int), aI (0 : Int), aI (0 : Int), aI (0 : Int)]), (5, [aI (IntKind.i64.wrap ((1 : Int) + r1.1)), aI (if (IntKind.i64.wrap (a1.Now + r2.1)) < (2880 : Int) then (IntKind.i64.wrap (a1.Now + r2.1)) else (2880 : Int)), aI r3.1, aI (0 : Int)])], []⟩ f [true, true, b2, b3, b4, b5, false, false, false, b9, b10, b11, b12, b13, false, false, false, false] ⟨[(0, vc (.pb 1099511627776 0)), (3, vc (.pb 3 0)), (4, vc (.pb 4 0)), (6, vc (.pb 1099511627776 0)), (7, vc (aI r1.1)), (8, bif b2 then vc (aI (IntKind.i64.wrap ((1 : Int) + r1.1))) else .undef), (9, bif b3 then vc (.pb 3 0) else .undef), (10, bif b4 then vc (aI a1.Now) else .undef), (11, bif b5 then vc (.pb 1099511627776 0) else .undef), (12, .undef), (13, .undef), (14, .undef), (15, bif b9 then vc (.pb 1099511627776 0) else .undef), (16, bif b10 then vc (.pb 3 1) else .undef), (17, bif b11 then vc (aL (List.map rI a1.Starts)) else .undef), (18, bif b12 then vc (aI (a1.Starts.length : Int)) else .undef), (19, bif b13 then vc (aI (if (1 : Int) < (a1.Starts.length : Int) then (a1.Starts.length : Int) else (1 : Int))) else .undef), (20, .undef), (21, .undef), (5, .undef)], [(1099511627776, [aL (List.map r8 r1.2.b), aI r1.2.i, aI r1.2.h]), (3, [aI a1.Now, aL (List.map rI a1.Starts), aL (List.map rB a1.Cleared)]), (4, [aI (0 : Int), aI (0 : Int), aI (0 : Int), aI (0 : Int)])], []⟩ := by
  intro f
  induction f with
  | zero => intro b2 b3 b4 b5 b9 b10 b11 b12 b13 h; simp at h
  | succ f ih =>
    intro b2 b3 b4 b5 b9 b10 b11 b12 b13
    refine any_step ⟨?_, ?_, ?_, ?_, ?_, ?_, ?_, ?_, ?_, ?_, ?_, ?_, ?_, ?_, ?_, ?_, ?_, ?_, trivial⟩
    · intro h; cases h
    · intro h; cases h
    · intro h0 hw
      obtain rfl : b2 = false := Option.some.inj h0
      try simp only [avmap_bif, Nat.reduceBEq, Nat.reduceMul, Nat.reduceAdd, Nat.reduceDiv, Int.reduceBEq, rules2, rulesX, rowsX]
      exact ih true b3 b4 b5 b9 b10 b11 b12 b13
    · intro h0 hw
      obtain rfl : b3 = false := Option.some.inj h0
      try simp only [avmap_bif, Nat.reduceBEq, Nat.reduceMul, Nat.reduceAdd, Nat.reduceDiv, Int.reduceBEq, rules2, rulesX, rowsX]
      exact ih b2 true b4 b5 b9 b10 b11 b12 b13
    · intro h0 hw
      obtain rfl : b4 = false := Option.some.inj h0
      obtain rfl : b3 = true := Option.some.inj (hw 3 (by simp))
      try simp only [avmap_bif, Nat.reduceBEq, Nat.reduceMul, Nat.reduceAdd, Nat.reduceDiv, Int.reduceBEq, rules2, rulesX, rowsX]
      exact ih b2 true true b5 b9 b10 b11 b12 b13
    · intro h0 hw
      obtain rfl : b5 = false := Option.some.inj h0
      try simp only [avmap_bif, Nat.reduceBEq, Nat.reduceMul, Nat.reduceAdd, Nat.reduceDiv, Int.reduceBEq, rules2, rulesX, rowsX]
      exact ih b2 b3 b4 true b9 b10 b11 b12 b13
    · intro h0 hw
      obtain rfl : b5 = true := Option.some.inj (hw 5 (by simp))
      try simp only [avmap_bif, Nat.reduceBEq, Nat.reduceMul, Nat.reduceAdd, Nat.reduceDiv, Int.reduceBEq, rules2, rulesX, rowsX]
      refine go_cally (w_spec_l01Below _ _ _ hr2) 1099511627776 rfl rfl rfl ?_
      try simp only [avmap_bif, Nat.reduceBEq, Nat.reduceMul, Nat.reduceAdd, Nat.reduceDiv, Int.reduceBEq, rules2, rulesX, rowsX]
      exact w_spec_l23Entry_y1_4 a0 a1 r1 r2 r3 hr1 hr2 hr3 _ b2 b3 b4 false false b9 b10 b11 b12 b13
    · intro _ hw; have := hw 6 (by simp); cases this
    · intro _ hw; have := hw 7 (by simp); cases this
    · intro h0 hw
      obtain rfl : b9 = false := Option.some.inj h0
      try simp only [avmap_bif, Nat.reduceBEq, Nat.reduceMul, Nat.reduceAdd, Nat.reduceDiv, Int.reduceBEq, rules2, rulesX, rowsX]
      exact ih b2 b3 b4 b5 true b10 b11 b12 b13
    · intro h0 hw
      obtain rfl : b10 = false := Option.some.inj h0
      try simp only [avmap_bif, Nat.reduceBEq, Nat.reduceMul, Nat.reduceAdd, Nat.reduceDiv, Int.reduceBEq, rules2, rulesX, rowsX]
      exact ih b2 b3 b4 b5 b9 true b11 b12 b13
    · intro h0 hw
      obtain rfl : b11 = false := Option.some.inj h0
      obtain rfl : b10 = true := Option.some.inj (hw 10 (by simp))
      try simp only [avmap_bif, Nat.reduceBEq, Nat.reduceMul, Nat.reduceAdd, Nat.reduceDiv, Int.reduceBEq, rules2, rulesX, rowsX]
      exact ih b2 b3 b4 b5 b9 true true b12 b13
    · intro h0 hw
      obtain rfl : b12 = false := Option.some.inj h0
      obtain rfl : b11 = true := Option.some.inj (hw 11 (by simp))
      try simp only [avmap_bif, Nat.reduceBEq, Nat.reduceMul, Nat.reduceAdd, Nat.reduceDiv, Int.reduceBEq, rules2, rulesX, rowsX]
      exact ih b2 b3 b4 b5 b9 b10 true true b13
    · intro h0 hw
      obtain rfl : b13 = false := Option.some.inj h0
      obtain rfl : b12 = true := Option.some.inj (hw 12 (by simp))
      try simp only [avmap_bif, Nat.reduceBEq, Nat.reduceMul, Nat.reduceAdd, Nat.reduceDiv, Int.reduceBEq, rules2, rulesX, rowsX]
      exact ih b2 b3 b4 b5 b9 b10 b11 true true
    · intro _ hw; have := hw 6 (by simp); cases this
    · intro _ hw; have := hw 8 (by simp); cases this
    · intro h0 hw
      try simp only [avmap_bif, Nat.reduceBEq, Nat.reduceMul, Nat.reduceAdd, Nat.reduceDiv, Int.reduceBEq, rules2, rulesX, rowsX]
      refine go_al (by simp only [St.fresh, List.all_cons, List.all_nil, all_bif]; simp [AV.cells, V1.cells, AC.uses]) rfl ?_
      try simp only [avmap_bif, Nat.reduceBEq, Nat.reduceMul, Nat.reduceAdd, Nat.reduceDiv, Int.reduceBEq, rules2, rulesX, rowsX]
      exact w_spec_l23Entry_y1_5 a0 a1 r1 r2 r3 hr1 hr2 hr3 _ b2 b3 b4 b5 b9 b10 b11 b12 b13
    · intro _ hw; have := hw 16 (by simp); cases this
theorem w_spec_l23Entry_y1_7 (a0 : Xl01Cur) (a1 : XDesk) (r1 : Int × Xl01Cur) (r2 : Int × Xl01Cur) (r3 : Int × Xl01Cur) (hr1 : f_spec_l01Below a0 (4 : Int) = some r1) (hr2 : f_spec_l01Below r1.2 (20 : Int) = some r2) (hr3 : f_spec_l01Below r2.2 (if (1 : Int) < (a1.Starts.length : Int) then (a1.Starts.length : Int) else (1 : Int)) = some r3) : ∀ (f : Nat) (b0 : Bool) (b3 : Bool) (b4 : Bool) (b5 : Bool) (b9 : Bool) (b10 : Bool) (b11 : Bool) (b12 : Bool) (b13 : Bool), anyA Tryz.prog y_spec_l23Entry_y1 ⟨[(0, vc (.pb 1099511627776 0)), (3, vc (.pb 3 0)), (4, vc (.pb 4 0)), (6, vc (.pb 1099511627776 0)), (7, vc (aI r1.1)), (8, vc (aI (IntKind.i64.wrap ((1 : Int) + r1.1)))), (9, vc (.pb 3 0)), (10, vc (aI a1.Now)), (11, vc (.pb 1099511627776 0)), (12, vc (aI r2.1)), (13, vc (aI (IntKind.i64.wrap (a1.Now + r2.1)))), (14, vc (aI (if (IntKind.i64.wrap (a1.Now + r2.1)) < (2880 : Int) then (IntKind.i64.wrap (a1.Now + r2.1)) else (2880 : Int)))), (15, vc (.pb 1099511627776 0)), (16, vc (.pb 3 1)), (17, vc (aL (List.map rI a1.Starts))), (18, vc (aI (a1.Starts.length : Int))), (19, vc (aI (if (1 : Int) < (a1.Starts.length : Int) then (a1.Starts.length : Int) else (1 : Int)))), (20, vc (aI r3.1)), (21, va [aI (IntKind.i64.wrap ((1 : Int) + r1.1)), aI (if (IntKind.i64.wrap (a1.Now + r2.1)) < (2880 : Int) then (IntKind.i64.wrap (a1.Now + r2.1)) else (2880 : Int)), aI r3.1, aI (0 : Int)]), (5, vc (.pb 5 0))], [(1099511627776, [aL (List.map r8 r3.2.b), aI r3.2.i, aI r3.2.h]), (3, [aI a1.Now, aL (List.map rI a1.Starts), aL (List.map rB a1.Cleared)]), (4, [aI (0 : Int), aI (0 : Int), aI (0 : Int), aI (0 : Int)]), (5, [aI (IntKind.i64.wrap ((1 : Int) + r1.1)), aI (if (IntKind.i64.wrap (a1.Now + r2.1)) < (2880 : Int) then (IntKind.i64.wrap (a1.Now + r2.1)) else (2880 : Int)), aI r3.1, aI (0 : Int)])], []⟩ f [b0, false, false, b3, b4, b5, false, false, false, b9, b10, b11, b12, b13, false, false, true, false] ⟨[(0, vc (.pb 1099511627776 0)), (3, vc (.pb 3 0)), (4, vc (.pb 4 0)), (6, bif b0 then vc (.pb 1099511627776 0) else .undef), (7, .undef), (8, .undef), (9, bif b3 then vc (.pb 3 0) else .undef), (10, bif b4 then vc (aI a1.Now) else .undef), (11, bif b5 then vc (.pb 1099511627776 0) else .undef), (12, .undef), (13, .undef), (14, .undef), (15, bif b9 then vc (.pb 1099511627776 0) else .undef), (16, bif b10 then vc (.pb 3 1) else .undef), (17, bif b11 then vc (aL (List.map rI a1.Starts)) else .undef), (18, bif b12 then vc (aI (a1.Starts.length : Int)) else .undef), (19, bif b13 then vc (aI (if (1 : Int) < (a1.Starts.length : Int) then (a1.Starts.length : Int) else (1 : Int))) else .undef), (20, .undef), (21, .undef), (5, vc (.pb 5 0))], [(1099511627776, [aL (List.map r8 a0.b), aI a0.i, aI a0.h]), (3, [aI a1.Now, aL (List.map rI a1.Starts), aL (List.map rB a1.Cleared)]), (4, [aI (0 : Int), aI (0 : Int), aI (0 : Int), aI (0 : Int)]), (5, [aI (0 : Int), aI (0 : Int), aI (0 : Int), aI (0 : Int)])], []⟩ := by
  intro f
  induction f with
  | zero => intro b0 b3 b4 b5 b9 b10 b11 b12 b13 h; simp at h
  | succ f ih =>
    intro b0 b3 b4 b5 b9 b10 b11 b12 b13
    refine any_step ⟨?_, ?_, ?_, ?_, ?_, ?_, ?_, ?_, ?_, ?_, ?_, ?_, ?_, ?_, ?_, ?_, ?_, ?_, trivial⟩
    · intro h0 hw
      obtain rfl : b0 = false := Option.some.inj h0
      try simp only [avmap_bif, Nat.reduceBEq, Nat.reduceMul, Nat.reduceAdd, Nat.reduceDiv, Int.reduceBEq, rules2, rulesX, rowsX]
      exact ih true b3 b4 b5 b9 b10 b11 b12 b13
    · intro h0 hw
      obtain rfl : b0 = true := Option.some.inj (hw 0 (by simp))
      try simp only [avmap_bif, Nat.reduceBEq, Nat.reduceMul, Nat.reduceAdd, Nat.reduceDiv, Int.reduceBEq, rules2, rulesX, rowsX]
      refine go_cally (w_spec_l01Below _ _ _ hr1) 1099511627776 rfl rfl rfl ?_
      try simp only [avmap_bif, Nat.reduceBEq, Nat.reduceMul, Nat.reduceAdd, Nat.reduceDiv, Int.reduceBEq, rules2, rulesX, rowsX]
      exact w_spec_l23Entry_y1_5 a0 a1 r1 r2 r3 hr1 hr2 hr3 _ false b3 b4 b5 b9 b10 b11 b12 b13
    · intro _ hw; have := hw 1 (by simp); cases this
    · intro h0 hw
      obtain rfl : b3 = false := Option.some.inj h0
      try simp only [avmap_bif, Nat.reduceBEq, Nat.reduceMul, Nat.reduceAdd, Nat.reduceDiv, Int.reduceBEq, rules2, rulesX, rowsX]
      exact ih b0 true b4 b5 b9 b10 b11 b12 b13
    · intro h0 hw
      obtain rfl : b4 = false := Option.some.inj h0
      obtain rfl : b3 = true := Option.some.inj (hw 3 (by simp))
      try simp only [avmap_bif, Nat.reduceBEq, Nat.reduceMul, Nat.reduceAdd, Nat.reduceDiv, Int.reduceBEq, rules2, rulesX, rowsX]
      exact ih b0 true true b5 b9 b10 b11 b12 b13
    · intro h0 hw
      obtain rfl : b5 = false := Option.some.inj h0
      try simp only [avmap_bif, Nat.reduceBEq, Nat.reduceMul, Nat.reduceAdd, Nat.reduceDiv, Int.reduceBEq, rules2, rulesX, rowsX]
      exact ih b0 b3 b4 true b9 b10 b11 b12 b13
    · intro _ hw; have := hw 1 (by simp); cases this
    · intro _ hw; have := hw 6 (by simp); cases this
    · intro _ hw; have := hw 7 (by simp); cases this
    · intro h0 hw
      obtain rfl : b9 = false := Option.some.inj h0
      try simp only [avmap_bif, Nat.reduceBEq, Nat.reduceMul, Nat.reduceAdd, Nat.reduceDiv, Int.reduceBEq, rules2, rulesX, rowsX]
      exact ih b0 b3 b4 b5 true b10 b11 b12 b13
    · intro h0 hw
      obtain rfl : b10 = false := Option.some.inj h0
      try simp only [avmap_bif, Nat.reduceBEq, Nat.reduceMul, Nat.reduceAdd, Nat.reduceDiv, Int.reduceBEq, rules2, rulesX, rowsX]
      exact ih b0 b3 b4 b5 b9 true b11 b12 b13
    · intro h0 hw
      obtain rfl : b11 = false := Option.some.inj h0
      obtain rfl : b10 = true := Option.some.inj (hw 10 (by simp))
      try simp only [avmap_bif, Nat.reduceBEq, Nat.reduceMul, Nat.reduceAdd, Nat.reduceDiv, Int.reduceBEq, rules2, rulesX, rowsX]
      exact ih b0 b3 b4 b5 b9 true true b12 b13
    · intro h0 hw
      obtain rfl : b12 = false := Option.some.inj h0
      obtain rfl : b11 = true := Option.some.inj (hw 11 (by simp))
      try simp only [avmap_bif, Nat.reduceBEq, Nat.reduceMul, Nat.reduceAdd, Nat.reduceDiv, Int.reduceBEq, rules2, rulesX, rowsX]
      exact ih b0 b3 b4 b5 b9 b10 true true b13
    · intro h0 hw
      obtain rfl : b13 = false := Option.some.inj h0
      obtain rfl : b12 = true := Option.some.inj (hw 12 (by simp))
      try simp only [avmap_bif, Nat.reduceBEq, Nat.reduceMul, Nat.reduceAdd, Nat.reduceDiv, Int.reduceBEq, rules2, rulesX, rowsX]
      exact ih b0 b3 b4 b5 b9 b10 b11 true true
    · intro _ hw; have := hw 6 (by simp); cases this
    · intro _ hw; have := hw 2 (by simp); cases this
    · intro h; cases h
    · intro _ hw; have := hw 15 (by simp); cases this
theorem w_spec_l23Entry_y1_8 (a0 : Xl01Cur) (a1 : XDesk) (r1 : Int × Xl01Cur) (r2 : Int × Xl01Cur) (r3 : Int × Xl01Cur) (hr1 : f_spec_l01Below a0 (4 : Int) = some r1) (hr2 : f_spec_l01Below r1.2 (20 : Int) = some r2) (hr3 : f_spec_l01Below r2.2 (if (1 : Int) < (a1.Starts.length : Int) then (a1.Starts.length : Int) else (1 : Int)) = some r3) : ∀ (f : Nat) (b0 : Bool) (b3 : Bool) (b4 : Bool) (b5 : Bool) (b9 : Bool) (b10 : Bool) (b11 : Bool) (b12 : Bool) (b13 : Bool), anyA Tryz.prog y_spec_l23Entry_y1 ⟨[(0, vc (.pb 1099511627776 0)), (3, vc (.pb 3 0)), (4, vc (.pb 4 0)), (6, vc (.pb 1099511627776 0)), (7, vc (aI r1.1)), (8, vc (aI (IntKind.i64.wrap ((1 : Int) + r1.1)))), (9, vc (.pb 3 0)), (10, vc (aI a1.Now)), (11, vc (.pb 1099511627776 0)), (12, vc (aI r2.1)), (13, vc (aI (IntKind.i64.wrap (a1.Now + r2.1)))), (14, vc (aI (if (IntKind.i64.wrap (a1.Now + r2.1)) < (2880 : Int) then (IntKind.i64.wrap (a1.Now + r2.1)) else (2880 : Int)))), (15, vc (.pb 1099511627776 0)), (16, vc (.pb 3 1)), (17, vc (aL (List.map rI a1.Starts))), (18, vc (aI (a1.Starts.length : Int))), (19, vc (aI (if (1 : Int) < (a1.Starts.length : Int) then (a1.Starts.length : Int) else (1 : Int)))), (20, vc (aI r3.1)), (21, va [aI (IntKind.i64.wrap ((1 : Int) + r1.1)), aI (if (IntKind.i64.wrap (a1.Now + r2.1)) < (2880 : Int) then (IntKind.i64.wrap (a1.Now + r2.1)) else (2880 : Int)), aI r3.1, aI (0 : Int)]), (5, vc (.pb 5 0))], [(1099511627776, [aL (List.map r8 r3.2.b), aI r3.2.i, aI r3.2.h]), (3, [aI a1.Now, aL (List.map rI a1.Starts), aL (List.map rB a1.Cleared)]), (4, [aI (0 : Int), aI (0 : Int), aI (0 : Int), aI (0 : Int)]), (5, [aI (IntKind.i64.wrap ((1 : Int) + r1.1)), aI (if (IntKind.i64.wrap (a1.Now + r2.1)) < (2880 : Int) then (IntKind.i64.wrap (a1.Now + r2.1)) else (2880 : Int)), aI r3.1, aI (0 : Int)])], []⟩ f [b0, false, false, b3, b4, b5, false, false, false, b9, b10, b11, b12, b13, false, false, false, false] ⟨[(0, vc (.pb 1099511627776 0)), (3, vc (.pb 3 0)), (4, vc (.pb 4 0)), (6, bif b0 then vc (.pb 1099511627776 0) else .undef), (7, .undef), (8, .undef), (9, bif b3 then vc (.pb 3 0) else .undef), (10, bif b4 then vc (aI a1.Now) else .undef), (11, bif b5 then vc (.pb 1099511627776 0) else .undef), (12, .undef), (13, .undef), (14, .undef), (15, bif b9 then vc (.pb 1099511627776 0) else .undef), (16, bif b10 then vc (.pb 3 1) else .undef), (17, bif b11 then vc (aL (List.map rI a1.Starts)) else .undef), (18, bif b12 then vc (aI (a1.Starts.length : Int)) else .undef), (19, bif b13 then vc (aI (if (1 : Int) < (a1.Starts.length : Int) then (a1.Starts.length : Int) else (1 : Int))) else .undef), (20, .undef), (21, .undef), (5, .undef)], [(1099511627776, [aL (List.map r8 a0.b), aI a0.i, aI a0.h]), (3, [aI a1.Now, aL (List.map rI a1.Starts), aL (List.map rB a1.Cleared)]), (4, [aI (0 : Int), aI (0 : Int), aI (0 : Int), aI (0 : Int)])], []⟩ := by
  intro f
  induction f with
  | zero => intro b0 b3 b4 b5 b9 b10 b11 b12 b13 h; simp at h
  | succ f ih =>
    intro b0 b3 b4 b5 b9 b10 b11 b12 b13
    refine any_step ⟨?_, ?_, ?_, ?_, ?_, ?_, ?_, ?_, ?_, ?_, ?_, ?_, ?_, ?_, ?_, ?_, ?_, ?_, trivial⟩
    · intro h0 hw
      obtain rfl : b0 = false := Option.some.inj h0
      try simp only [avmap_bif, Nat.reduceBEq, Nat.reduceMul, Nat.reduceAdd, Nat.reduceDiv, Int.reduceBEq, rules2, rulesX, rowsX]
      exact ih true b3 b4 b5 b9 b10 b11 b12 b13
    · intro h0 hw
      obtain rfl : b0 = true := Option.some.inj (hw 0 (by simp))
      try simp only [avmap_bif, Nat.reduceBEq, Nat.reduceMul, Nat.reduceAdd, Nat.reduceDiv, Int.reduceBEq, rules2, rulesX, rowsX]
      refine go_cally (w_spec_l01Below _ _ _ hr1) 1099511627776 rfl rfl rfl ?_
      try simp only [avmap_bif, Nat.reduceBEq, Nat.reduceMul, Nat.reduceAdd, Nat.reduceDiv, Int.reduceBEq, rules2, rulesX, rowsX]
      exact w_spec_l23Entry_y1_6 a0 a1 r1 r2 r3 hr1 hr2 hr3 _ false b3 b4 b5 b9 b10 b11 b12 b13
    · intro _ hw; have := hw 1 (by simp); cases this
    · intro h0 hw
      obtain rfl : b3 = false := Option.some.inj h0
      try simp only [avmap_bif, Nat.reduceBEq, Nat.reduceMul, Nat.reduceAdd, Nat.reduceDiv, Int.reduceBEq, rules2, rulesX, rowsX]
      exact ih b0 true b4 b5 b9 b10 b11 b12 b13
    · intro h0 hw
      obtain rfl : b4 = false := Option.some.inj h0
      obtain rfl : b3 = true := Option.some.inj (hw 3 (by simp))
      try simp only [avmap_bif, Nat.reduceBEq, Nat.reduceMul, Nat.reduceAdd, Nat.reduceDiv, Int.reduceBEq, rules2, rulesX, rowsX]
      exact ih b0 true true b5 b9 b10 b11 b12 b13
    · intro h0 hw
      obtain rfl : b5 = false := Option.some.inj h0
      try simp only [avmap_bif, Nat.reduceBEq, Nat.reduceMul, Nat.reduceAdd, Nat.reduceDiv, Int.reduceBEq, rules2, rulesX, rowsX]
      exact ih b0 b3 b4 true b9 b10 b11 b12 b13
    · intro _ hw; have := hw 1 (by simp); cases this
    · intro _ hw; have := hw 6 (by simp); cases this
    · intro _ hw; have := hw 7 (by simp); cases this
    · intro h0 hw
      obtain rfl : b9 = false := Option.some.inj h0
      try simp only [avmap_bif, Nat.reduceBEq, Nat.reduceMul, Nat.reduceAdd, Nat.reduceDiv, Int.reduceBEq, rules2, rulesX, rowsX]
      exact ih b0 b3 b4 b5 true b10 b11 b12 b13
    · intro h0 hw
      obtain rfl : b10 = false := Option.some.inj h0
      try simp only [avmap_bif, Nat.reduceBEq, Nat.reduceMul, Nat.reduceAdd, Nat.reduceDiv, Int.reduceBEq, rules2, rulesX, rowsX]
      exact ih b0 b3 b4 b5 b9 true b11 b12 b13
    · intro h0 hw
      obtain rfl : b11 = false := Option.some.inj h0
      obtain rfl : b10 = true := Option.some.inj (hw 10 (by simp))
      try simp only [avmap_bif, Nat.reduceBEq, Nat.reduceMul, Nat.reduceAdd, Nat.reduceDiv, Int.reduceBEq, rules2, rulesX, rowsX]
      exact ih b0 b3 b4 b5 b9 true true b12 b13
    · intro h0 hw
      obtain rfl : b12 = false := Option.some.inj h0
      obtain rfl : b11 = true := Option.some.inj (hw 11 (by simp))
      try simp only [avmap_bif, Nat.reduceBEq, Nat.reduceMul, Nat.reduceAdd, Nat.reduceDiv, Int.reduceBEq, rules2, rulesX, rowsX]
      exact ih b0 b3 b4 b5 b9 b10 true true b13
    · intro h0 hw
      obtain rfl : b13 = false := Option.some.inj h0
      obtain rfl : b12 = true := Option.some.inj (hw 12 (by simp))
      try simp only [avmap_bif, Nat.reduceBEq, Nat.reduceMul, Nat.reduceAdd, Nat.reduceDiv, Int.reduceBEq, rules2, rulesX, rowsX]
      exact ih b0 b3 b4 b5 b9 b10 b11 true true
    · intro _ hw; have := hw 6 (by simp); cases this
    · intro _ hw; have := hw 2 (by simp); cases this
    · intro h0 hw
      try simp only [avmap_bif, Nat.reduceBEq, Nat.reduceMul, Nat.reduceAdd, Nat.reduceDiv, Int.reduceBEq, rules2, rulesX, rowsX]
      refine go_al (by simp only [St.fresh, List.all_cons, List.all_nil, all_bif]; simp [AV.cells, V1.cells, AC.uses]) rfl ?_
      try simp only [avmap_bif, Nat.reduceBEq, Nat.reduceMul, Nat.reduceAdd, Nat.reduceDiv, Int.reduceBEq, rules2, rulesX, rowsX]
      exact w_spec_l23Entry_y1_7 a0 a1 r1 r2 r3 hr1 hr2 hr3 _ b0 b3 b4 b5 b9 b10 b11 b12 b13
    · intro _ hw; have := hw 16 (by simp); cases this
theorem w_spec_l23Entry_y2_0 (a1 : XDesk) (r1 : Int × Xl01Cur) (r2 : Int × Xl01Cur) (r3 : Int × Xl01Cur) (r5 : Int × Xl01Cur) (hr5 : f_spec_l01Below r3.2 (100 : Int) = some r5) : ∀ (f : Nat), anyA Tryz.prog y_spec_l23Entry_y2 ⟨[(0, vc (.pb 1099511627776 0)), (4, vc (.pb 4 0)), (5, vc (.pb 5 0)), (26, vc (.pb 5 1)), (27, vc (aI (if (IntKind.i64.wrap (a1.Now + r2.1)) < (2880 : Int) then (IntKind.i64.wrap (a1.Now + r2.1)) else (2880 : Int)))), (28, vc (.pb 1099511627776 0)), (29, vc (aI r5.1)), (30, vc (aI (IntKind.i64.wrap ((if (IntKind.i64.wrap (a1.Now + r2.1)) < (2880 : Int) then (IntKind.i64.wrap (a1.Now + r2.1)) else (2880 : Int)) + r5.1)))), (31, vc (aI (if (IntKind.i64.wrap ((if (IntKind.i64.wrap (a1.Now + r2.1)) < (2880 : Int) then (IntKind.i64.wrap (a1.Now + r2.1)) else (2880 : Int)) + r5.1)) < (2880 : Int) then (IntKind.i64.wrap ((if (IntKind.i64.wrap (a1.Now + r2.1)) < (2880 : Int) then (IntKind.i64.wrap (a1.Now + r2.1)) else (2880 : Int)) + r5.1)) else (2880 : Int)))), (32, vc (.pb 5 3))], [(1099511627776, [aL (List.map r8 r5.2.b), aI r5.2.i, aI r5.2.h]), (4, [aI (0 : Int), aI (0 : Int), aI (0 : Int), aI (0 : Int)]), (5, [aI (IntKind.i64.wrap ((1 : Int) + r1.1)), aI (if (IntKind.i64.wrap (a1.Now + r2.1)) < (2880 : Int) then (IntKind.i64.wrap (a1.Now + r2.1)) else (2880 : Int)), aI r3.1, aI (if (IntKind.i64.wrap ((if (IntKind.i64.wrap (a1.Now + r2.1)) < (2880 : Int) then (IntKind.i64.wrap (a1.Now + r2.1)) else (2880 : Int)) + r5.1)) < (2880 : Int) then (IntKind.i64.wrap ((if (IntKind.i64.wrap (a1.Now + r2.1)) < (2880 : Int) then (IntKind.i64.wrap (a1.Now + r2.1)) else (2880 : Int)) + r5.1)) else (2880 : Int))])], []⟩ f [true, true, true, true, true, true, true, true] ⟨[(0, vc (.pb 1099511627776 0)), (4, vc (.pb 4 0)), (5, vc (.pb 5 0)), (26, vc (.pb 5 1)), (27, vc (aI (if (IntKind.i64.wrap (a1.Now + r2.1)) < (2880 : Int) then (IntKind.i64.wrap (a1.Now + r2.1)) else (2880 : Int)))), (28, vc (.pb 1099511627776 0)), (29, vc (aI r5.1)), (30, vc (aI (IntKind.i64.wrap ((if (IntKind.i64.wrap (a1.Now + r2.1)) < (2880 : Int) then (IntKind.i64.wrap (a1.Now + r2.1)) else (2880 : Int)) + r5.1)))), (31, vc (aI (if (IntKind.i64.wrap ((if (IntKind.i64.wrap (a1.Now + r2.1)) < (2880 : Int) then (IntKind.i64.wrap (a1.Now + r2.1)) else (2880 : Int)) + r5.1)) < (2880 : Int) then (IntKind.i64.wrap ((if (IntKind.i64.wrap (a1.Now + r2.1)) < (2880 : Int) then (IntKind.i64.wrap (a1.Now + r2.1)) else (2880 : Int)) + r5.1)) else (2880 : Int)))), (32, vc (.pb 5 3))], [(1099511627776, [aL (List.map r8 r5.2.b), aI r5.2.i, aI r5.2.h]), (4, [aI (0 : Int), aI (0 : Int), aI (0 : Int), aI (0 : Int)]), (5, [aI (IntKind.i64.wrap ((1 : Int) + r1.1)), aI (if (IntKind.i64.wrap (a1.Now + r2.1)) < (2880 : Int) then (IntKind.i64.wrap (a1.Now + r2.1)) else (2880 : Int)), aI r3.1, aI (if (IntKind.i64.wrap ((if (IntKind.i64.wrap (a1.Now + r2.1)) < (2880 : Int) then (IntKind.i64.wrap (a1.Now + r2.1)) else (2880 : Int)) + r5.1)) < (2880 : Int) then (IntKind.i64.wrap ((if (IntKind.i64.wrap (a1.Now + r2.1)) < (2880 : Int) then (IntKind.i64.wrap (a1.Now + r2.1)) else (2880 : Int)) + r5.1)) else (2880 : Int))])], []⟩ := by
  intro f
  induction f with
  | zero => intro h; rfl
  | succ f ih =>
    refine any_step ⟨?_, ?_, ?_, ?_, ?_, ?_, ?_, ?_, trivial⟩
    · intro h; cases h
    · intro h; cases h
    · intro h; cases h
    · intro h; cases h
    · intro h; cases h
    · intro h; cases h
    · intro h; cases h
    · intro h; cases h
theorem w_spec_l23Entry_y2_1 (a1 : XDesk) (r1 : Int × Xl01Cur) (r2 : Int × Xl01Cur) (r3 : Int × Xl01Cur) (r5 : Int × Xl01Cur) (hr5 : f_spec_l01Below r3.2 (100 : Int) = some r5) : ∀ (f : Nat) (b0 : Bool) (b1 : Bool) (b4 : Bool) (b5 : Bool) (b6 : Bool), anyA Tryz.prog y_spec_l23Entry_y2 ⟨[(0, vc (.pb 1099511627776 0)), (4, vc (.pb 4 0)), (5, vc (.pb 5 0)), (26, vc (.pb 5 1)), (27, vc (aI (if (IntKind.i64.wrap (a1.Now + r2.1)) < (2880 : Int) then (IntKind.i64.wrap (a1.Now + r2.1)) else (2880 : Int)))), (28, vc (.pb 1099511627776 0)), (29, vc (aI r5.1)), (30, vc (aI (IntKind.i64.wrap ((if (IntKind.i64.wrap (a1.Now + r2.1)) < (2880 : Int) then (IntKind.i64.wrap (a1.Now + r2.1)) else (2880 : Int)) + r5.1)))), (31, vc (aI (if (IntKind.i64.wrap ((if (IntKind.i64.wrap (a1.Now + r2.1)) < (2880 : Int) then (IntKind.i64.wrap (a1.Now + r2.1)) else (2880 : Int)) + r5.1)) < (2880 : Int) then (IntKind.i64.wrap ((if (IntKind.i64.wrap (a1.Now + r2.1)) < (2880 : Int) then (IntKind.i64.wrap (a1.Now + r2.1)) else (2880 : Int)) + r5.1)) else (2880 : Int)))), (32, vc (.pb 5 3))], [(1099511627776, [aL (List.map r8 r5.2.b), aI r5.2.i, aI r5.2.h]), (4, [aI (0 : Int), aI (0 : Int), aI (0 : Int), aI (0 : Int)]), (5, [aI (IntKind.i64.wrap ((1 : Int) + r1.1)), aI (if (IntKind.i64.wrap (a1.Now + r2.1)) < (2880 : Int) then (IntKind.i64.wrap (a1.Now + r2.1)) else (2880 : Int)), aI r3.1, aI (if (IntKind.i64.wrap ((if (IntKind.i64.wrap (a1.Now + r2.1)) < (2880 : Int) then (IntKind.i64.wrap (a1.Now + r2.1)) else (2880 : Int)) + r5.1)) < (2880 : Int) then (IntKind.i64.wrap ((if (IntKind.i64.wrap (a1.Now + r2.1)) < (2880 : Int) then (IntKind.i64.wrap (a1.Now + r2.1)) else (2880 : Int)) + r5.1)) else (2880 : Int))])], []⟩ f [b0, b1, true, true, b4, b5, b6, false] ⟨[(0, vc (.pb 1099511627776 0)), (4, vc (.pb 4 0)), (5, vc (.pb 5 0)), (26, bif b0 then vc (.pb 5 1) else .undef), (27, bif b1 then vc (aI (if (IntKind.i64.wrap (a1.Now + r2.1)) < (2880 : Int) then (IntKind.i64.wrap (a1.Now + r2.1)) else (2880 : Int))) else .undef), (28, vc (.pb 1099511627776 0)), (29, vc (aI r5.1)), (30, bif b4 then vc (aI (IntKind.i64.wrap ((if (IntKind.i64.wrap (a1.Now + r2.1)) < (2880 : Int) then (IntKind.i64.wrap (a1.Now + r2.1)) else (2880 : Int)) + r5.1))) else .undef), (31, bif b5 then vc (aI (if (IntKind.i64.wrap ((if (IntKind.i64.wrap (a1.Now + r2.1)) < (2880 : Int) then (IntKind.i64.wrap (a1.Now + r2.1)) else (2880 : Int)) + r5.1)) < (2880 : Int) then (IntKind.i64.wrap ((if (IntKind.i64.wrap (a1.Now + r2.1)) < (2880 : Int) then (IntKind.i64.wrap (a1.Now + r2.1)) else (2880 : Int)) + r5.1)) else (2880 : Int))) else .undef), (32, bif b6 then vc (.pb 5 3) else .undef)], [(1099511627776, [aL (List.map r8 r5.2.b), aI r5.2.i, aI r5.2.h]), (4, [aI (0 : Int), aI (0 : Int), aI (0 : Int), aI (0 : Int)]), (5, [aI (IntKind.i64.wrap ((1 : Int) + r1.1)), aI (if (IntKind.i64.wrap (a1.Now + r2.1)) < (2880 : Int) then (IntKind.i64.wrap (a1.Now + r2.1)) else (2880 : Int)), aI r3.1, aI (0 : Int)])], []⟩ := by
  intro f
  induction f with
  | zero => intro b0 b1 b4 b5 b6 h; simp at h
  | succ f ih =>
    intro b0 b1 b4 b5 b6
    refine any_step ⟨?_, ?_, ?_, ?_, ?_, ?_, ?_, ?_, trivial⟩
    · intro h0 hw
      obtain rfl : b0 = false := Option.some.inj h0
      try simp only [avmap_bif, Nat.reduceBEq, Nat.reduceMul, Nat.reduceAdd, Nat.reduceDiv, Int.reduceBEq, rules2, rulesX, rowsX]
      exact ih true b1 b4 b5 b6
    · intro h0 hw
      obtain rfl : b1 = false := Option.some.inj h0
      obtain rfl : b0 = true := Option.some.inj (hw 0 (by simp))
      try simp only [avmap_bif, Nat.reduceBEq, Nat.reduceMul, Nat.reduceAdd, Nat.reduceDiv, Int.reduceBEq, rules2, rulesX, rowsX]
      exact ih true true b4 b5 b6
    · intro h; cases h
    · intro h; cases h
    · intro h0 hw
      obtain rfl : b4 = false := Option.some.inj h0
      obtain rfl : b1 = true := Option.some.inj (hw 1 (by simp))
      try simp only [avmap_bif, Nat.reduceBEq, Nat.reduceMul, Nat.reduceAdd, Nat.reduceDiv, Int.reduceBEq, rules2, rulesX, rowsX]
      exact ih b0 true true b5 b6
    · intro h0 hw
      obtain rfl : b5 = false := Option.some.inj h0
      obtain rfl : b4 = true := Option.some.inj (hw 4 (by simp))
      try simp only [avmap_bif, Nat.reduceBEq, Nat.reduceMul, Nat.reduceAdd, Nat.reduceDiv, Int.reduceBEq, rules2, rulesX, rowsX]
      exact ih b0 b1 true true b6
    · intro h0 hw
      obtain rfl : b6 = false := Option.some.inj h0
      obtain rfl : b0 = true := Option.some.inj (hw 0 (by simp))
      obtain rfl : b1 = true := Option.some.inj (hw 1 (by simp))
      obtain rfl : b4 = true := Option.some.inj (hw 4 (by simp))
      obtain rfl : b5 = true := Option.some.inj (hw 5 (by simp))
      try simp only [avmap_bif, Nat.reduceBEq, Nat.reduceMul, Nat.reduceAdd, Nat.reduceDiv, Int.reduceBEq, rules2, rulesX, rowsX]
      exact ih true true true true true
    · intro h0 hw
      obtain rfl : b0 = true := Option.some.inj (hw 0 (by simp))
      obtain rfl : b1 = true := Option.some.inj (hw 1 (by simp))
      obtain rfl : b4 = true := Option.some.inj (hw 4 (by simp))
      obtain rfl : b5 = true := Option.some.inj (hw 5 (by simp))
      obtain rfl : b6 = true := Option.some.inj (hw 6 (by simp))
      try simp only [avmap_bif, Nat.reduceBEq, Nat.reduceMul, Nat.reduceAdd, Nat.reduceDiv, Int.reduceBEq, rules2, rulesX, rowsX]
      exact w_spec_l23Entry_y2_0 a1 r1 r2 r3 r5 hr5 _ 
theorem w_spec_l23Entry_y2_2 (a1 : XDesk) (r1 : Int × Xl01Cur) (r2 : Int × Xl01Cur) (r3 : Int × Xl01Cur) (r5 : Int × Xl01Cur) (hr5 : f_spec_l01Below r3.2 (100 : Int) = some r5) : ∀ (f : Nat) (b0 : Bool) (b1 : Bool) (b2 : Bool), anyA Tryz.prog y_spec_l23Entry_y2 ⟨[(0, vc (.pb 1099511627776 0)), (4, vc (.pb 4 0)), (5, vc (.pb 5 0)), (26, vc (.pb 5 1)), (27, vc (aI (if (IntKind.i64.wrap (a1.Now + r2.1)) < (2880 : Int) then (IntKind.i64.wrap (a1.Now + r2.1)) else (2880 : Int)))), (28, vc (.pb 1099511627776 0)), (29, vc (aI r5.1)), (30, vc (aI (IntKind.i64.wrap ((if (IntKind.i64.wrap (a1.Now + r2.1)) < (2880 : Int) then (IntKind.i64.wrap (a1.Now + r2.1)) else (2880 : Int)) + r5.1)))), (31, vc (aI (if (IntKind.i64.wrap ((if (IntKind.i64.wrap (a1.Now + r2.1)) < (2880 : Int) then (IntKind.i64.wrap (a1.Now + r2.1)) else (2880 : Int)) + r5.1)) < (2880 : Int) then (IntKind.i64.wrap ((if (IntKind.i64.wrap (a1.Now + r2.1)) < (2880 : Int) then (IntKind.i64.wrap (a1.Now + r2.1)) else (2880 : Int)) + r5.1)) else (2880 : Int)))), (32, vc (.pb 5 3))], [(1099511627776, [aL (List.map r8 r5.2.b), aI r5.2.i, aI r5.2.h]), (4, [aI (0 : Int), aI (0 : Int), aI (0 : Int), aI (0 : Int)]), (5, [aI (IntKind.i64.wrap ((1 : Int) + r1.1)), aI (if (IntKind.i64.wrap (a1.Now + r2.1)) < (2880 : Int) then (IntKind.i64.wrap (a1.Now + r2.1)) else (2880 : Int)), aI r3.1, aI (if (IntKind.i64.wrap ((if (IntKind.i64.wrap (a1.Now + r2.1)) < (2880 : Int) then (IntKind.i64.wrap (a1.Now + r2.1)) else (2880 : Int)) + r5.1)) < (2880 : Int) then (IntKind.i64.wrap ((if (IntKind.i64.wrap (a1.Now + r2.1)) < (2880 : Int) then (IntKind.i64.wrap (a1.Now + r2.1)) else (2880 : Int)) + r5.1)) else (2880 : Int))])], []⟩ f [b0, b1, b2, false, false, false, false, false] ⟨[(0, vc (.pb 1099511627776 0)), (4, vc (.pb 4 0)), (5, vc (.pb 5 0)), (26, bif b0 then vc (.pb 5 1) else .undef), (27, bif b1 then vc (aI (if (IntKind.i64.wrap (a1.Now + r2.1)) < (2880 : Int) then (IntKind.i64.wrap (a1.Now + r2.1)) else (2880 : Int))) else .undef), (28, bif b2 then vc (.pb 1099511627776 0) else .undef), (29, .undef), (30, .undef), (31, .undef), (32, .undef)], [(1099511627776, [aL (List.map r8 r3.2.b), aI r3.2.i, aI r3.2.h]), (4, [aI (0 : Int), aI (0 : Int), aI (0 : Int), aI (0 : Int)]), (5, [aI (IntKind.i64.wrap ((1 : Int) + r1.1)), aI (if (IntKind.i64.wrap (a1.Now + r2.1)) < (2880 : Int) then (IntKind.i64.wrap (a1.Now + r2.1)) else (2880 : Int)), aI r3.1, aI (0 : Int)])], []⟩ := by
  intro f
  induction f with
  | zero => intro b0 b1 b2 h; simp at h
  | succ f ih =>
    intro b0 b1 b2
    refine any_step ⟨?_, ?_, ?_, ?_, ?_, ?_, ?_, ?_, trivial⟩
    · intro h0 hw
      obtain rfl : b0 = false := Option.some.inj h0
      try simp only [avmap_bif, Nat.reduceBEq, Nat.reduceMul, Nat.reduceAdd, Nat.reduceDiv, Int.reduceBEq, rules2, rulesX, rowsX]
      exact ih true b1 b2
    · intro h0 hw
      obtain rfl : b1 = false := Option.some.inj h0
      obtain rfl : b0 = true := Option.some.inj (hw 0 (by simp))
      try simp only [avmap_bif, Nat.reduceBEq, Nat.reduceMul, Nat.reduceAdd, Nat.reduceDiv, Int.reduceBEq, rules2, rulesX, rowsX]
      exact ih true true b2
    · intro h0 hw
      obtain rfl : b2 = false := Option.some.inj h0
      try simp only [avmap_bif, Nat.reduceBEq, Nat.reduceMul, Nat.reduceAdd, Nat.reduceDiv, Int.reduceBEq, rules2, rulesX, rowsX]
      exact ih b0 b1 true
    · intro h0 hw
      obtain rfl : b2 = true := Option.some.inj (hw 2 (by simp))
      try simp only [avmap_bif, Nat.reduceBEq, Nat.reduceMul, Nat.reduceAdd, Nat.reduceDiv, Int.reduceBEq, rules2, rulesX, rowsX]
      refine go_cally (w_spec_l01Below _ _ _ hr5) 1099511627776 rfl rfl rfl ?_
      try simp only [avmap_bif, Nat.reduceBEq, Nat.reduceMul, Nat.reduceAdd, Nat.reduceDiv, Int.reduceBEq, rules2, rulesX, rowsX]
      exact w_spec_l23Entry_y2_1 a1 r1 r2 r3 r5 hr5 _ b0 b1 false false false
    · intro _ hw; have := hw 3 (by simp); cases this
    · intro _ hw; have := hw 4 (by simp); cases this
    · intro _ hw; have := hw 3 (by simp); cases this
    · intro _ hw; have := hw 6 (by simp); cases this
theorem e_spec_l23Entry : entry Tryz.prog 34 = some (c_spec_l23Entry.strip, [.c 4 true 4], 37) := by kernel_rfl
theorem w_spec_l23Entry (a0 : Xl01Cur) (a1 : XDesk) (r : XEntry × Xl01Cur) (h : f_spec_l23Entry a0 a1 = some r) : FCy Tryz.prog 34 [.p, .d (.ag (XDesk.row a1))] [.sl (List.map r8 a0.b), .int .i64 a0.i, .int .i64 a0.h] [.sl (List.map r8 r.2.b), .int .i64 r.2.i, .int .i64 r.2.h] [.ag [.v (.int .i64 r.1.Kind), .v (.int .i64 r.1.At), .v (.int .i64 r.1.Call), .v (.int .i64 r.1.Value)]] := by
  unfold f_spec_l23Entry at h
  refine FCy_go (σ := ⟨[(0, vc (.pb 1099511627776 0)), (1, va [aI a1.Now, aL (List.map rI a1.Starts), aL (List.map rB a1.Cleared)])], [(1099511627776, [aL (List.map r8 a0.b), aI a0.i, aI a0.h])], []⟩) mixed e_spec_l23Entry rfl rfl ?_
  simp only [c_spec_l23Entry]
  try simp only [Nat.reduceBEq, Nat.reduceMul, Nat.reduceAdd, Nat.reduceDiv, Int.reduceBEq, rules2, rulesX, rowsX]
  refine go_bx rfl rfl rfl ?_
  try simp only [Nat.reduceBEq, Nat.reduceMul, Nat.reduceAdd, Nat.reduceDiv, Int.reduceBEq, rules2, rulesX, rowsX]
  refine go_al rfl rfl ?_
  try simp only [Nat.reduceBEq, Nat.reduceMul, Nat.reduceAdd, Nat.reduceDiv, Int.reduceBEq, rules2, rulesX, rowsX]
  obtain ⟨r1, hr1, h⟩ := ob h
  obtain ⟨r2, hr2, h⟩ := ob h
  obtain ⟨r3, hr3, h⟩ := ob h
  refine go_any (ks := [0, 3, 4]) (bs := [1099511627776, 3, 4]) (rs := []) (τ := ⟨[(0, vc (.pb 1099511627776 0)), (3, vc (.pb 3 0)), (4, vc (.pb 4 0)), (6, vc (.pb 1099511627776 0)), (7, vc (aI r1.1)), (8, vc (aI (IntKind.i64.wrap ((1 : Int) + r1.1)))), (9, vc (.pb 3 0)), (10, vc (aI a1.Now)), (11, vc (.pb 1099511627776 0)), (12, vc (aI r2.1)), (13, vc (aI (IntKind.i64.wrap (a1.Now + r2.1)))), (14, vc (aI (if (IntKind.i64.wrap (a1.Now + r2.1)) < (2880 : Int) then (IntKind.i64.wrap (a1.Now + r2.1)) else (2880 : Int)))), (15, vc (.pb 1099511627776 0)), (16, vc (.pb 3 1)), (17, vc (aL (List.map rI a1.Starts))), (18, vc (aI (a1.Starts.length : Int))), (19, vc (aI (if (1 : Int) < (a1.Starts.length : Int) then (a1.Starts.length : Int) else (1 : Int)))), (20, vc (aI r3.1)), (21, va [aI (IntKind.i64.wrap ((1 : Int) + r1.1)), aI (if (IntKind.i64.wrap (a1.Now + r2.1)) < (2880 : Int) then (IntKind.i64.wrap (a1.Now + r2.1)) else (2880 : Int)), aI r3.1, aI (0 : Int)]), (5, vc (.pb 5 0))], [(1099511627776, [aL (List.map r8 r3.2.b), aI r3.2.i, aI r3.2.h]), (3, [aI a1.Now, aL (List.map rI a1.Starts), aL (List.map rB a1.Cleared)]), (4, [aI (0 : Int), aI (0 : Int), aI (0 : Int), aI (0 : Int)]), (5, [aI (IntKind.i64.wrap ((1 : Int) + r1.1)), aI (if (IntKind.i64.wrap (a1.Now + r2.1)) < (2880 : Int) then (IntKind.i64.wrap (a1.Now + r2.1)) else (2880 : Int)), aI r3.1, aI (0 : Int)])], []⟩) rfl (w_spec_l23Entry_y1_8 a0 a1 r1 r2 r3 hr1 hr2 hr3 _ false false false false false false false false false) ?_
  rcases Bool.eq_false_or_eq_true ((IntKind.i64.wrap ((1 : Int) + r1.1)) == (1 : Int)) with hb4 | hb4
  · rw [ite_t hb4] at h
    try simp only [hb4, Nat.reduceBEq, Nat.reduceMul, Nat.reduceAdd, Nat.reduceDiv, Int.reduceBEq, rules2, rulesX, rowsX]
    obtain ⟨r5, hr5, h⟩ := ob h
    refine go_any (ks := [0, 4, 5]) (bs := [1099511627776, 4, 5]) (rs := []) (τ := ⟨[(0, vc (.pb 1099511627776 0)), (4, vc (.pb 4 0)), (5, vc (.pb 5 0)), (26, vc (.pb 5 1)), (27, vc (aI (if (IntKind.i64.wrap (a1.Now + r2.1)) < (2880 : Int) then (IntKind.i64.wrap (a1.Now + r2.1)) else (2880 : Int)))), (28, vc (.pb 1099511627776 0)), (29, vc (aI r5.1)), (30, vc (aI (IntKind.i64.wrap ((if (IntKind.i64.wrap (a1.Now + r2.1)) < (2880 : Int) then (IntKind.i64.wrap (a1.Now + r2.1)) else (2880 : Int)) + r5.1)))), (31, vc (aI (if (IntKind.i64.wrap ((if (IntKind.i64.wrap (a1.Now + r2.1)) < (2880 : Int) then (IntKind.i64.wrap (a1.Now + r2.1)) else (2880 : Int)) + r5.1)) < (2880 : Int) then (IntKind.i64.wrap ((if (IntKind.i64.wrap (a1.Now + r2.1)) < (2880 : Int) then (IntKind.i64.wrap (a1.Now + r2.1)) else (2880 : Int)) + r5.1)) else (2880 : Int)))), (32, vc (.pb 5 3))], [(1099511627776, [aL (List.map r8 r5.2.b), aI r5.2.i, aI r5.2.h]), (4, [aI (0 : Int), aI (0 : Int), aI (0 : Int), aI (0 : Int)]), (5, [aI (IntKind.i64.wrap ((1 : Int) + r1.1)), aI (if (IntKind.i64.wrap (a1.Now + r2.1)) < (2880 : Int) then (IntKind.i64.wrap (a1.Now + r2.1)) else (2880 : Int)), aI r3.1, aI (if (IntKind.i64.wrap ((if (IntKind.i64.wrap (a1.Now + r2.1)) < (2880 : Int) then (IntKind.i64.wrap (a1.Now + r2.1)) else (2880 : Int)) + r5.1)) < (2880 : Int) then (IntKind.i64.wrap ((if (IntKind.i64.wrap (a1.Now + r2.1)) < (2880 : Int) then (IntKind.i64.wrap (a1.Now + r2.1)) else (2880 : Int)) + r5.1)) else (2880 : Int))])], []⟩) rfl (w_spec_l23Entry_y2_2 a1 r1 r2 r3 r5 hr5 _ false false false) ?_
    try simp only [hb4, Nat.reduceBEq, Nat.reduceMul, Nat.reduceAdd, Nat.reduceDiv, Int.reduceBEq, rules2, rulesX, rowsX]
    cases h
    try simp only [rulesR, Nat.reduceBEq, Nat.reduceMul, Nat.reduceAdd, Nat.reduceDiv, Int.reduceBEq, rules2, rulesX, rowsX]
    exact ⟨⟨⟨rfl, rfl, rfl, rfl, trivial⟩, trivial⟩, rfl⟩
  · rw [ite_f hb4] at h
    rcases Bool.eq_false_or_eq_true ((IntKind.i64.wrap ((1 : Int) + r1.1)) == (4 : Int)) with hb6 | hb6
    · rw [ite_t hb6] at h
      try simp only [hb4, hb6, Nat.reduceBEq, Nat.reduceMul, Nat.reduceAdd, Nat.reduceDiv, Int.reduceBEq, rules2, rulesX, rowsX]
      cases h
      try simp only [rulesR, Nat.reduceBEq, Nat.reduceMul, Nat.reduceAdd, Nat.reduceDiv, Int.reduceBEq, rules2, rulesX, rowsX]
      exact ⟨⟨⟨rfl, rfl, rfl, rfl, trivial⟩, trivial⟩, rfl⟩
    · rw [ite_f hb6] at h
      try simp only [hb4, hb6, Nat.reduceBEq, Nat.reduceMul, Nat.reduceAdd, Nat.reduceDiv, Int.reduceBEq, rules2, rulesX, rowsX]
      cases h
      try simp only [rulesR, Nat.reduceBEq, Nat.reduceMul, Nat.reduceAdd, Nat.reduceDiv, Int.reduceBEq, rules2, rulesX, rowsX]
      exact ⟨⟨⟨rfl, rfl, rfl, rfl, trivial⟩, trivial⟩, rfl⟩
/- 47: spec_l23Copy -/
def c_spec_l23Copy : ACode := (.seq (.reg [(none, .box 1 (S 0)), (none, .alloc 2 [aI 0, .nil, .nil])]) (.seq (.drw [(some [8, 12], (none, .faddr 3 (S 1) 0)), (some [8, 12], (none, .load 4 (S 3) false 1)), (some [], (none, .zsl 5)), (some [], (none, .faddr 6 (S 1) 1)), (some [], (none, .load 7 (S 6) false 1)), (some [], (none, .zap 8 1 8 (S 5) (S 7))), (some [8], (none, .zsl 9)), (some [8], (none, .faddr 10 (S 1) 2)), (some [8], (none, .load 11 (S 10) false 1)), (some [], (none, .zap 12 1 1 (S 9) (S 11))), (some [], (none, .build 13 [aI 0, .nil, .nil] [(0, 1, (S 4)), (1, 1, (S 8)), (2, 1, (S 12))])), (none, (none, .store (S 2) (S 13) 3))]) .ret))
theorem e_spec_l23Copy : entry Tryz.prog 47 = some (c_spec_l23Copy.strip, [.c 2 true 3], 14) := by kernel_rfl
theorem w_spec_l23Copy (a0 : XDesk) (r : XDesk) (h : f_spec_l23Copy a0 = some r) : FC Tryz.prog 47 [.ag (XDesk.row a0)] [.ag [.v (.int .i64 r.Now), .o 1 (List.map rI r.Starts), .o 1 (List.map rB r.Cleared)]] := by
  unfold f_spec_l23Copy at h
  refine FC_go (σ := ⟨[(0, va [aI a0.Now, aL (List.map rI a0.Starts), aL (List.map rB a0.Cleared)])], [], []⟩) mixed e_spec_l23Copy rfl rfl ?_
  simp only [c_spec_l23Copy]
  try simp only [Nat.reduceBEq, Nat.reduceMul, Nat.reduceAdd, Nat.reduceDiv, Int.reduceBEq, rules2, rulesX, rowsX]
  refine go_bx rfl rfl rfl ?_
  try simp only [Nat.reduceBEq, Nat.reduceMul, Nat.reduceAdd, Nat.reduceDiv, Int.reduceBEq, rules2, rulesX, rowsX]
  refine go_al rfl rfl ?_
  try simp only [Nat.reduceBEq, Nat.reduceMul, Nat.reduceAdd, Nat.reduceDiv, Int.reduceBEq, rules2, rulesX, rowsX]
  refine go_fr_of rfl ?_
  obtain ⟨hg1, h⟩ := of_guard h
  try simp only [hg1, Nat.reduceBEq, Nat.reduceMul, Nat.reduceAdd, Nat.reduceDiv, Int.reduceBEq, rules2, rulesX, rowsX]
  refine go_zap (row := rI) (xs := a0.Starts) (by first | rfl | kernel_rfl) (by first | rfl | kernel_rfl) hg1 (by rfl) ?_
  obtain ⟨hg2, h⟩ := of_guard h
  try simp only [hg1, hg2, Nat.reduceBEq, Nat.reduceMul, Nat.reduceAdd, Nat.reduceDiv, Int.reduceBEq, rules2, rulesX, rowsX]
  refine go_zap (row := rB) (xs := a0.Cleared) (by first | rfl | kernel_rfl) (by first | rfl | kernel_rfl) hg2 (by rfl) ?_
  try simp only [hg1, hg2, Nat.reduceBEq, Nat.reduceMul, Nat.reduceAdd, Nat.reduceDiv, Int.reduceBEq, rules2, rulesX, rowsX]
  refine go_fr_of rfl ?_
  try simp only [hg1, hg2, Nat.reduceBEq, Nat.reduceMul, Nat.reduceAdd, Nat.reduceDiv, Int.reduceBEq, rules2, rulesX, rowsX]
  cases h
  try simp only [rulesR, Nat.reduceBEq, Nat.reduceMul, Nat.reduceAdd, Nat.reduceDiv, Int.reduceBEq, rules2, rulesX, rowsX]
  exact ⟨⟨⟨rfl, rfl, rfl, trivial⟩, trivial⟩, rfl⟩
/- 48: spec_DeskOk -/
def c_spec_DeskOk_1 : ACode := .seq (.reg [(none, .keep [1, 25, 26, 27] [1] [])]) (.seq (.reg [(none, .bin 28 .lss (S 27) (S 26))]) (.seq (.cond (S 28) .skip (.exit 0)) (.seq (.block 1 (.seq (.reg [(none, .mv 29 (S 27)), (none, .iaddr 30 (S 25) (S 27) 1), (none, .load 31 (S 30) false 1), (none, .mv 3 (S 29)), (none, .mv 4 (S 31))]) (.seq (.reg [(none, .mv 32 (S 4)), (none, .call 33 46 [(S 32), (K (-1)), (K 2880)]), (none, .un 34 .not (S 33)), (none, .mv 35 (S 34)), (some (35, false), .faddr 36 (S 1) 2), (some (35, false), .load 37 (S 36) false 1), (some (35, false), .mv 38 (S 3)), (some (35, false), .iaddr 39 (S 37) (S 38) 1), (some (35, false), .load 40 (S 39) false 1), (some (35, false), .mv 41 (S 40)), (some (41, true), .mv 42 (S 4)), (some (41, true), .bin 43 .lss (S 42) (K 0)), (some (35, false), .pick 44 (S 41) (S 43) (KB false)), (none, .pick 45 (S 35) (KB true) (S 44))]) (.cond (S 45) (.seq (.reg [(none, .mv 2 (KB false))]) .ret) .skip)))) (.reg [(none, .bin 46 .add (S 27) (K 1)), (none, .mv 27 (S 46))]))))
def c_spec_DeskOk_n1 : ACode := (.seq (.reg [(none, .mv 2 (KB true))]) .ret)
def c_spec_DeskOk : ACode := (.seq (.reg [(none, .box 1 (S 0)), (none, .mv 2 (KB false))]) (.seq (.seq (.reg [(none, .faddr 5 (S 1) 0), (none, .load 6 (S 5) false 1), (none, .call 7 46 [(S 6), (K 0), (K 2880)]), (none, .un 8 .not (S 7)), (none, .mv 9 (S 8)), (some (9, false), .faddr 10 (S 1) 1), (some (9, false), .load 11 (S 10) false 1), (some (9, false), .len 12 (S 11)), (some (9, false), .bin 13 .gtr (S 12) (K 6)), (none, .pick 14 (S 9) (KB true) (S 13)), (none, .mv 15 (S 14)), (some (15, false), .faddr 16 (S 1) 2), (some (15, false), .load 17 (S 16) false 1), (some (15, false), .len 18 (S 17)), (some (15, false), .faddr 19 (S 1) 1), (some (15, false), .load 20 (S 19) false 1), (some (15, false), .len 21 (S 20)), (some (15, false), .bin 22 .neq (S 18) (S 21)), (none, .pick 23 (S 15) (KB true) (S 22))]) (.cond (S 23) (.seq (.reg [(none, .mv 2 (KB false))]) .ret) .skip)) (.seq (.seq (.reg [(none, .faddr 24 (S 1) 1), (none, .load 25 (S 24) false 1), (none, .len 26 (S 25)), (none, .mv 27 (K 0))]) (.block 0 (.loop c_spec_DeskOk_1))) c_spec_DeskOk_n1)))
theorem w_spec_DeskOk_1 (a0 : XDesk) : ∀ (n : Nat) (v5 : Int) (r : Bool), f_spec_DeskOk_1 a0 n v5 = some r → ∀ σ : St, σ.kept [1, 25, 26, 27] [1] [] = ⟨[(1, vc (.pb 1 0)), (25, vc (aL (List.map rI a0.Starts))), (26, vc (aI (a0.Starts.length : Int))), (27, vc (aI v5))], [(1, [aI a0.Now, aL (List.map rI a0.Starts), aL (List.map rB a0.Cleared)])], []⟩ → go Tryz.prog (.code (.loop c_spec_DeskOk_1) :: [.blk 0, .code c_spec_DeskOk_n1]) (Ret [2] [.sc (.v (.bool r))]) .normal (some σ) := by
  intro n
  induction n with
  | zero => intro _ r h; cases h
  | succ n ih =>
    intro v5 r h σ hσ
    rw [f_spec_DeskOk_1] at h
    refine go_round ?_
    rcases Bool.eq_false_or_eq_true (decide (v5 < (a0.Starts.length : Int))) with hb6 | hb6
    · rw [ite_t hb6] at h
      obtain ⟨x7, hx7, h⟩ := ob h
      obtain ⟨r9, hr9, h⟩ := ob h
      try simp only [hσ, hb6, hx7, c_spec_DeskOk_1, Nat.reduceBEq, Nat.reduceMul, Nat.reduceAdd, Nat.reduceDiv, Int.reduceBEq, rules2, rulesX, rowsX]
      refine go_callI (w_spec_l01In _ _ _ _ hr9) rfl rfl (Nat.le_of_ble_eq_true rfl) ?_
      rcases Bool.eq_false_or_eq_true r9 with hb10 | hb10
      · rw [ite_t hb10] at h
        obtain ⟨x11, hx11, h⟩ := ob h
        rcases Bool.eq_false_or_eq_true x11 with hb12 | hb12
        · rw [ite_t hb12] at h
          rcases Bool.eq_false_or_eq_true (decide (x7 < (0 : Int))) with hb13 | hb13
          · rw [ite_t hb13] at h
            try simp only [hb6, hx7, hb10, hx11, hb12, hb13, Nat.reduceBEq, Nat.reduceMul, Nat.reduceAdd, Nat.reduceDiv, Int.reduceBEq, rules2, rulesX, rowsX]
            cases h
            exact ⟨⟨rfl, trivial⟩, rfl⟩
          · rw [ite_f hb13] at h
            try simp only [hb6, hx7, hb10, hx11, hb12, hb13, Nat.reduceBEq, Nat.reduceMul, Nat.reduceAdd, Nat.reduceDiv, Int.reduceBEq, rules2, rulesX, rowsX]
            refine ih _ _ h _ ?_
            try simp only [hb6, hx7, hb10, hx11, hb12, hb13, Nat.reduceBEq, Nat.reduceMul, Nat.reduceAdd, Nat.reduceDiv, Int.reduceBEq, rules2, rulesX, rowsX, List.map_nil]
        · rw [ite_f hb12] at h
          try simp only [hb6, hx7, hb10, hx11, hb12, Nat.reduceBEq, Nat.reduceMul, Nat.reduceAdd, Nat.reduceDiv, Int.reduceBEq, rules2, rulesX, rowsX]
          refine ih _ _ h _ ?_
          try simp only [hb6, hx7, hb10, hx11, hb12, Nat.reduceBEq, Nat.reduceMul, Nat.reduceAdd, Nat.reduceDiv, Int.reduceBEq, rules2, rulesX, rowsX, List.map_nil]
      · rw [ite_f hb10] at h
        try simp only [hb6, hx7, hb10, Nat.reduceBEq, Nat.reduceMul, Nat.reduceAdd, Nat.reduceDiv, Int.reduceBEq, rules2, rulesX, rowsX]
        cases h
        exact ⟨⟨rfl, trivial⟩, rfl⟩
    · rw [ite_f hb6] at h
      try simp only [hσ, hb6, c_spec_DeskOk_1, c_spec_DeskOk_n1, Nat.reduceBEq, Nat.reduceMul, Nat.reduceAdd, Nat.reduceDiv, Int.reduceBEq, rules2, rulesX, rowsX]
      cases h
      exact ⟨⟨rfl, trivial⟩, rfl⟩
theorem e_spec_DeskOk : entry Tryz.prog 48 = some (c_spec_DeskOk.strip, [2], 47) := by kernel_rfl
theorem w_spec_DeskOk (a0 : XDesk) (r : Bool) (h : f_spec_DeskOk a0 = some r) : FC Tryz.prog 48 [.ag (XDesk.row a0)] [.sc (.v (.bool r))] := by
  unfold f_spec_DeskOk at h
  refine FC_go (σ := ⟨[(0, va [aI a0.Now, aL (List.map rI a0.Starts), aL (List.map rB a0.Cleared)])], [], []⟩) mixed e_spec_DeskOk rfl rfl ?_
  simp only [c_spec_DeskOk]
  try simp only [Nat.reduceBEq, Nat.reduceMul, Nat.reduceAdd, Nat.reduceDiv, Int.reduceBEq, rules2, rulesX, rowsX]
  refine go_bx rfl rfl rfl ?_
  obtain ⟨r1, hr1, h⟩ := ob h
  try simp only [Nat.reduceBEq, Nat.reduceMul, Nat.reduceAdd, Nat.reduceDiv, Int.reduceBEq, rules2, rulesX, rowsX]
  refine go_callI (w_spec_l01In _ _ _ _ hr1) rfl rfl (Nat.le_of_ble_eq_true rfl) ?_
  rcases Bool.eq_false_or_eq_true r1 with hb2 | hb2
  · rw [ite_t hb2] at h
    rcases Bool.eq_false_or_eq_true (decide ((6 : Int) < (a0.Starts.length : Int))) with hb3 | hb3
    · rw [ite_t hb3] at h
      try simp only [hb2, hb3, Nat.reduceBEq, Nat.reduceMul, Nat.reduceAdd, Nat.reduceDiv, Int.reduceBEq, rules2, rulesX, rowsX]
      cases h
      exact ⟨⟨rfl, trivial⟩, rfl⟩
    · rw [ite_f hb3] at h
      rcases Bool.eq_false_or_eq_true ((a0.Cleared.length : Int) != (a0.Starts.length : Int)) with hb4 | hb4
      · rw [ite_t hb4] at h
        try simp only [hb2, hb3, hb4, Nat.reduceBEq, Nat.reduceMul, Nat.reduceAdd, Nat.reduceDiv, Int.reduceBEq, rules2, rulesX, rowsX]
        cases h
        exact ⟨⟨rfl, trivial⟩, rfl⟩
      · rw [ite_f hb4] at h
        try simp only [hb2, hb3, hb4, Nat.reduceBEq, Nat.reduceMul, Nat.reduceAdd, Nat.reduceDiv, Int.reduceBEq, rules2, rulesX, rowsX]
        refine w_spec_DeskOk_1 _ _ _ _ h _ ?_
        try simp only [hb2, hb3, hb4, Nat.reduceBEq, Nat.reduceMul, Nat.reduceAdd, Nat.reduceDiv, Int.reduceBEq, rules2, rulesX, rowsX, List.map_nil]
  · rw [ite_f hb2] at h
    try simp only [hb2, Nat.reduceBEq, Nat.reduceMul, Nat.reduceAdd, Nat.reduceDiv, Int.reduceBEq, rules2, rulesX, rowsX]
    cases h
    exact ⟨⟨rfl, trivial⟩, rfl⟩
/- 49: spec_l23Allowed -/
def c_spec_l23Allowed : ACode := (.seq (.reg [(none, .box 2 (S 0)), (none, .box 3 (S 1)), (none, .mv 4 (KB false))]) (.seq (.seq (.reg [(none, .faddr 5 (S 3) 1), (none, .load 6 (S 5) false 1), (none, .faddr 7 (S 2) 0), (none, .load 8 (S 7) false 1), (none, .call 9 46 [(S 6), (S 8), (K 2880)]), (none, .un 10 .not (S 9)), (none, .mv 11 (S 10)), (some (11, false), .faddr 12 (S 3) 0), (some (11, false), .load 13 (S 12) false 1), (some (11, false), .call 14 46 [(S 13), (K 1), (K 4)]), (some (11, false), .un 15 .not (S 14)), (none, .pick 16 (S 11) (KB true) (S 15))]) (.cond (S 16) (.seq (.reg [(none, .mv 4 (KB false))]) .ret) .skip)) (.seq (.seq (.reg [(none, .faddr 17 (S 3) 0), (none, .load 18 (S 17) false 1), (none, .bin 19 .eql (S 18) (K 4))]) (.cond (S 19) (.seq (.reg [(none, .faddr 20 (S 3) 2), (none, .load 21 (S 20) false 1), (none, .bin 22 .eql (S 21) (K 0)), (none, .mv 23 (S 22)), (some (23, true), .faddr 24 (S 3) 3), (some (23, true), .load 25 (S 24) false 1), (some (23, true), .bin 26 .eql (S 25) (K 0)), (none, .pick 27 (S 23) (S 26) (KB false)), (none, .mv 4 (S 27))]) .ret) .skip)) (.seq (.seq (.reg [(none, .faddr 28 (S 3) 2), (none, .load 29 (S 28) false 1), (none, .faddr 30 (S 2) 1), (none, .load 31 (S 30) false 1), (none, .len 32 (S 31)), (none, .bin 33 .sub (S 32) (K 1)), (none, .call 34 46 [(S 29), (K 0), (S 33)]), (none, .un 35 .not (S 34)), (none, .mv 36 (S 35)), (some (36, false), .faddr 37 (S 2) 2), (some (36, false), .load 38 (S 37) false 1), (some (36, false), .faddr 39 (S 3) 2), (some (36, false), .load 40 (S 39) false 1), (some (36, false), .iaddr 41 (S 38) (S 40) 1), (some (36, false), .load 42 (S 41) false 1), (none, .pick 43 (S 36) (KB true) (S 42))]) (.cond (S 43) (.seq (.reg [(none, .mv 4 (KB false))]) .ret) .skip)) (.seq (.seq (.reg [(none, .faddr 44 (S 3) 0), (none, .load 45 (S 44) false 1), (none, .bin 46 .eql (S 45) (K 1))]) (.cond (S 46) (.seq (.reg [(none, .faddr 47 (S 3) 3), (none, .load 48 (S 47) false 1), (none, .faddr 49 (S 3) 1), (none, .load 50 (S 49) false 1), (none, .call 51 46 [(S 48), (S 50), (K 2880)]), (none, .mv 4 (S 51))]) .ret) .skip)) (.seq (.drw [(some [], (none, .faddr 52 (S 3) 3)), (some [], (none, .load 53 (S 52) false 1)), (some [], (none, .bin 54 .eql (S 53) (K 0))), (some [], (none, .mv 55 (S 54))), (some [], (some (55, true), .faddr 56 (S 2) 1)), (some [], (some (55, true), .load 57 (S 56) false 1)), (some [], (some (55, true), .faddr 58 (S 3) 2)), (some [], (some (55, true), .load 59 (S 58) false 1)), (some [], (some (55, true), .iaddr 60 (S 57) (S 59) 1)), (some [], (some (55, true), .load 61 (S 60) false 1)), (some [], (some (55, true), .bin 62 .geq (S 61) (K 0))), (some [], (none, .pick 63 (S 55) (S 62) (KB false))), (some [], (none, .mv 64 (S 63))), (some [], (some (64, true), .faddr 65 (S 3) 0)), (some [], (some (64, true), .load 66 (S 65) false 1)), (some [], (some (64, true), .bin 67 .eql (S 66) (K 3))), (some [], (some (64, true), .mv 68 (S 67))), (some [], (some (68, false), .faddr 69 (S 2) 1)), (some [], (some (68, false), .load 70 (S 69) false 1)), (some [], (some (68, false), .faddr 71 (S 3) 2)), (some [], (some (68, false), .load 72 (S 71) false 1)), (some [], (some (68, false), .iaddr 73 (S 70) (S 72) 1)), (some [], (some (68, false), .load 74 (S 73) false 1)), (some [], (some (68, false), .faddr 75 (S 3) 1)), (some [], (some (68, false), .load 76 (S 75) false 1)), (some [], (some (68, false), .bin 77 .geq (S 74) (S 76))), (some [], (some (64, true), .pick 78 (S 68) (KB true) (S 77))), (some [], (none, .pick 79 (S 64) (S 78) (KB false))), (some [], (none, .mv 4 (S 79)))]) .ret))))))
theorem e_spec_l23Allowed : entry Tryz.prog 49 = some (c_spec_l23Allowed.strip, [4], 80) := by kernel_rfl
theorem w_spec_l23Allowed (a0 : XDesk) (a1 : XEntry) (r : Bool) (h : f_spec_l23Allowed a0 a1 = some r) : FC Tryz.prog 49 [.ag (XDesk.row a0), .ag (XEntry.row a1)] [.sc (.v (.bool r))] := by
  unfold f_spec_l23Allowed at h
  refine FC_go (σ := ⟨[(0, va [aI a0.Now, aL (List.map rI a0.Starts), aL (List.map rB a0.Cleared)]), (1, va [aI a1.Kind, aI a1.At, aI a1.Call, aI a1.Value])], [], []⟩) mixed e_spec_l23Allowed rfl rfl ?_
  simp only [c_spec_l23Allowed]
  try simp only [Nat.reduceBEq, Nat.reduceMul, Nat.reduceAdd, Nat.reduceDiv, Int.reduceBEq, rules2, rulesX, rowsX]
  refine go_bx rfl rfl rfl ?_
  try simp only [Nat.reduceBEq, Nat.reduceMul, Nat.reduceAdd, Nat.reduceDiv, Int.reduceBEq, rules2, rulesX, rowsX]
  refine go_bx rfl rfl rfl ?_
  obtain ⟨r1, hr1, h⟩ := ob h
  try simp only [Nat.reduceBEq, Nat.reduceMul, Nat.reduceAdd, Nat.reduceDiv, Int.reduceBEq, rules2, rulesX, rowsX]
  refine go_callI (w_spec_l01In _ _ _ _ hr1) rfl rfl (Nat.le_of_ble_eq_true rfl) ?_
  rcases Bool.eq_false_or_eq_true r1 with hb2 | hb2
  · rw [ite_t hb2] at h
    obtain ⟨r3, hr3, h⟩ := ob h
    try simp only [hb2, Nat.reduceBEq, Nat.reduceMul, Nat.reduceAdd, Nat.reduceDiv, Int.reduceBEq, rules2, rulesX, rowsX]
    refine go_callI (w_spec_l01In _ _ _ _ hr3) rfl rfl (Nat.le_of_ble_eq_true rfl) ?_
    rcases Bool.eq_false_or_eq_true r3 with hb4 | hb4
    · rw [ite_t hb4] at h
      rcases Bool.eq_false_or_eq_true (a1.Kind == (4 : Int)) with hb5 | hb5
      · rw [ite_t hb5] at h
        rcases Bool.eq_false_or_eq_true (a1.Call == (0 : Int)) with hb6 | hb6
        · rw [ite_t hb6] at h
          try simp only [hb2, hb4, hb5, hb6, Nat.reduceBEq, Nat.reduceMul, Nat.reduceAdd, Nat.reduceDiv, Int.reduceBEq, rules2, rulesX, rowsX]
          cases h
          exact ⟨⟨rfl, trivial⟩, rfl⟩
        · rw [ite_f hb6] at h
          try simp only [hb2, hb4, hb5, hb6, Nat.reduceBEq, Nat.reduceMul, Nat.reduceAdd, Nat.reduceDiv, Int.reduceBEq, rules2, rulesX, rowsX]
          cases h
          exact ⟨⟨rfl, trivial⟩, rfl⟩
      · rw [ite_f hb5] at h
        obtain ⟨r7, hr7, h⟩ := ob h
        try simp only [hb2, hb4, hb5, Nat.reduceBEq, Nat.reduceMul, Nat.reduceAdd, Nat.reduceDiv, Int.reduceBEq, rules2, rulesX, rowsX]
        refine go_callI (w_spec_l01In _ _ _ _ hr7) rfl rfl (Nat.le_of_ble_eq_true rfl) ?_
        rcases Bool.eq_false_or_eq_true r7 with hb8 | hb8
        · rw [ite_t hb8] at h
          obtain ⟨x9, hx9, h⟩ := ob h
          rcases Bool.eq_false_or_eq_true x9 with hb10 | hb10
          · rw [ite_t hb10] at h
            try simp only [hb2, hb4, hb5, hb8, hx9, hb10, Nat.reduceBEq, Nat.reduceMul, Nat.reduceAdd, Nat.reduceDiv, Int.reduceBEq, rules2, rulesX, rowsX]
            cases h
            exact ⟨⟨rfl, trivial⟩, rfl⟩
          · rw [ite_f hb10] at h
            rcases Bool.eq_false_or_eq_true (a1.Kind == (1 : Int)) with hb11 | hb11
            · rw [ite_t hb11] at h
              obtain ⟨r12, hr12, h⟩ := ob h
              try simp only [hb2, hb4, hb5, hb8, hx9, hb10, hb11, Nat.reduceBEq, Nat.reduceMul, Nat.reduceAdd, Nat.reduceDiv, Int.reduceBEq, rules2, rulesX, rowsX]
              refine go_callI (w_spec_l01In _ _ _ _ hr12) rfl rfl (Nat.le_of_ble_eq_true rfl) ?_
              try simp only [hb2, hb4, hb5, hb8, hx9, hb10, hb11, Nat.reduceBEq, Nat.reduceMul, Nat.reduceAdd, Nat.reduceDiv, Int.reduceBEq, rules2, rulesX, rowsX]
              cases h
              exact ⟨⟨rfl, trivial⟩, rfl⟩
            · rw [ite_f hb11] at h
              try simp only [hb2, hb4, hb5, hb8, hx9, hb10, hb11, Nat.reduceBEq, Nat.reduceMul, Nat.reduceAdd, Nat.reduceDiv, Int.reduceBEq, rules2, rulesX, rowsX]
              refine go_fr_of rfl ?_
              rcases Bool.eq_false_or_eq_true (a1.Value == (0 : Int)) with hb13 | hb13
              · rw [ite_t hb13] at h
                obtain ⟨x14, hx14, h⟩ := ob h
                rcases Bool.eq_false_or_eq_true (decide ((0 : Int) ≤ x14)) with hb15 | hb15
                · rw [ite_t hb15] at h
                  rcases Bool.eq_false_or_eq_true (a1.Kind == (3 : Int)) with hb16 | hb16
                  · rw [ite_t hb16] at h
                    try simp only [hb2, hb4, hb5, hb8, hx9, hb10, hb11, hb13, hx14, hb15, hb16, Nat.reduceBEq, Nat.reduceMul, Nat.reduceAdd, Nat.reduceDiv, Int.reduceBEq, rules2, rulesX, rowsX]
                    cases h
                    exact ⟨⟨rfl, trivial⟩, rfl⟩
                  · rw [ite_f hb16] at h
                    try simp only [hb2, hb4, hb5, hb8, hx9, hb10, hb11, hb13, hx14, hb15, hb16, Nat.reduceBEq, Nat.reduceMul, Nat.reduceAdd, Nat.reduceDiv, Int.reduceBEq, rules2, rulesX, rowsX]
                    cases h
                    exact ⟨⟨rfl, trivial⟩, rfl⟩
                · rw [ite_f hb15] at h
                  try simp only [hb2, hb4, hb5, hb8, hx9, hb10, hb11, hb13, hx14, hb15, Nat.reduceBEq, Nat.reduceMul, Nat.reduceAdd, Nat.reduceDiv, Int.reduceBEq, rules2, rulesX, rowsX]
                  cases h
                  exact ⟨⟨rfl, trivial⟩, rfl⟩
              · rw [ite_f hb13] at h
                try simp only [hb2, hb4, hb5, hb8, hx9, hb10, hb11, hb13, Nat.reduceBEq, Nat.reduceMul, Nat.reduceAdd, Nat.reduceDiv, Int.reduceBEq, rules2, rulesX, rowsX]
                cases h
                exact ⟨⟨rfl, trivial⟩, rfl⟩
        · rw [ite_f hb8] at h
          try simp only [hb2, hb4, hb5, hb8, Nat.reduceBEq, Nat.reduceMul, Nat.reduceAdd, Nat.reduceDiv, Int.reduceBEq, rules2, rulesX, rowsX]
          cases h
          exact ⟨⟨rfl, trivial⟩, rfl⟩
    · rw [ite_f hb4] at h
      try simp only [hb2, hb4, Nat.reduceBEq, Nat.reduceMul, Nat.reduceAdd, Nat.reduceDiv, Int.reduceBEq, rules2, rulesX, rowsX]
      cases h
      exact ⟨⟨rfl, trivial⟩, rfl⟩
  · rw [ite_f hb2] at h
    try simp only [hb2, Nat.reduceBEq, Nat.reduceMul, Nat.reduceAdd, Nat.reduceDiv, Int.reduceBEq, rules2, rulesX, rowsX]
    cases h
    exact ⟨⟨rfl, trivial⟩, rfl⟩
/- 35: spec_ApplyEntry -/
def c_spec_ApplyEntry_1 : ACode := .seq (.reg [(none, .keep [3, 4, 6, 17] [3, 4, 6] [513, 514])]) (.cond (S 17) (.seq (.reg [(none, .load 18 (S 6) true 3), (none, .store (S 4) (S 18) 3), (none, .mv 5 (KB false))]) .ret) .skip)
def c_spec_ApplyEntry_2 : ACode := .seq (.reg [(none, .keep [4, 6] [4, 6] [513, 514])]) (.seq (.reg [(none, .load 47 (S 6) true 3), (none, .store (S 4) (S 47) 3), (none, .mv 5 (KB true))]) .ret)
def c_spec_ApplyEntry_n1 : ACode := (.seq (.reg [(none, .faddr 19 (S 3) 1), (none, .load 20 (S 19) false 1), (none, .faddr 21 (S 6) 0), (none, .store (S 21) (S 20) 1)]) (.seq (.seq (.reg [(none, .faddr 22 (S 3) 0), (none, .load 23 (S 22) false 1)]) (.block 0 (.seq (.reg [(none, .bin 25 .eql (S 23) (K 1)), (none, .mv 24 (S 25))]) (.cond (S 24) (.reg [(none, .faddr 26 (S 6) 1), (none, .load 27 (S 26) false 1), (none, .faddr 28 (S 3) 2), (none, .load 29 (S 28) false 1), (none, .faddr 30 (S 3) 3), (none, .load 31 (S 30) false 1), (none, .iaddr 32 (S 27) (S 29) 1), (none, .store (S 32) (S 31) 1)]) (.seq (.reg [(none, .bin 34 .eql (S 23) (K 2)), (none, .mv 33 (S 34))]) (.cond (S 33) (.reg [(none, .faddr 35 (S 6) 2), (none, .load 36 (S 35) false 1), (none, .faddr 37 (S 3) 2), (none, .load 38 (S 37) false 1), (none, .iaddr 39 (S 36) (S 38) 1), (none, .store (S 39) (KB true) 1)]) (.seq (.reg [(none, .bin 41 .eql (S 23) (K 3)), (none, .mv 40 (S 41))]) (.cond (S 40) (.reg [(none, .faddr 42 (S 6) 1), (none, .load 43 (S 42) false 1), (none, .faddr 44 (S 3) 2), (none, .load 45 (S 44) false 1), (none, .iaddr 46 (S 43) (S 45) 1), (none, .store (S 46) (K (-1)) 1)]) .skip)))))))) c_spec_ApplyEntry_2))
def c_spec_ApplyEntry : ACode := (.seq (.reg [(none, .box 2 (S 0)), (none, .box 3 (S 1)), (none, .alloc 4 [aI 0, .nil, .nil]), (none, .mv 5 (KB false))]) (.seq (.reg [(none, .load 7 (S 2) true 3), (none, .call 8 47 [(S 7)]), (none, .alloc 6 [aI 0, .nil, .nil]), (none, .store (S 6) (S 8) 3)]) (.seq (.seq (.reg [(none, .load 9 (S 2) true 3), (none, .call 10 48 [(S 9)]), (none, .un 11 .not (S 10)), (none, .mv 12 (S 11)), (some (12, false), .load 13 (S 2) true 3), (some (12, false), .load 14 (S 3) true 4), (some (12, false), .call 15 49 [(S 13), (S 14)]), (some (12, false), .un 16 .not (S 15)), (none, .pick 17 (S 12) (KB true) (S 16))]) c_spec_ApplyEntry_1) c_spec_ApplyEntry_n1)))
theorem w_spec_ApplyEntry_2 (a1 : XEntry) (v13 : List Int) (v14 : List Bool) (r : XDesk × Bool) (h : f_spec_ApplyEntry_2 a1 v13 v14 = some r) (σ : St) (hσ : σ.kept [4, 6] [4, 6] [513, 514] = ⟨[(4, vc (.pb 4 0)), (6, vc (.pb 6 0))], [(4, [aI (0 : Int), .nil, .nil]), (6, [aI a1.At, .own 513, .own 514])], [(513, 1, List.map rI v13), (514, 1, List.map rB v14)]⟩) : go Tryz.prog (.code c_spec_ApplyEntry_2 :: []) (Ret [.c 4 true 3, 5] [.ag [.v (.int .i64 r.1.Now), .o 1 (List.map rI r.1.Starts), .o 1 (List.map rB r.1.Cleared)], .sc (.v (.bool r.2))]) .normal (some σ) := by
  unfold f_spec_ApplyEntry_2 at h
  try simp only [hσ, c_spec_ApplyEntry_2, Nat.reduceBEq, Nat.reduceMul, Nat.reduceAdd, Nat.reduceDiv, Int.reduceBEq, rules2, rulesX, rowsX]
  cases h
  try simp only [rulesR, Nat.reduceBEq, Nat.reduceMul, Nat.reduceAdd, Nat.reduceDiv, Int.reduceBEq, rules2, rulesX, rowsX]
  exact ⟨⟨⟨rfl, rfl, rfl, trivial⟩, rfl, trivial⟩, rfl⟩
theorem w_spec_ApplyEntry_1 (a1 : XEntry) (r1 : XDesk) (v5 : Bool) (r : XDesk × Bool) (h : f_spec_ApplyEntry_1 a1 r1 v5 = some r) (σ : St) (hσ : σ.kept [3, 4, 6, 17] [3, 4, 6] [513, 514] = ⟨[(3, vc (.pb 3 0)), (4, vc (.pb 4 0)), (6, vc (.pb 6 0)), (17, vc (aB v5))], [(3, [aI a1.Kind, aI a1.At, aI a1.Call, aI a1.Value]), (4, [aI (0 : Int), .nil, .nil]), (6, [aI r1.Now, .own 513, .own 514])], [(513, 1, List.map rI r1.Starts), (514, 1, List.map rB r1.Cleared)]⟩) : go Tryz.prog (.code c_spec_ApplyEntry_1 :: [.code c_spec_ApplyEntry_n1]) (Ret [.c 4 true 3, 5] [.ag [.v (.int .i64 r.1.Now), .o 1 (List.map rI r.1.Starts), .o 1 (List.map rB r.1.Cleared)], .sc (.v (.bool r.2))]) .normal (some σ) := by
  unfold f_spec_ApplyEntry_1 at h
  rcases Bool.eq_false_or_eq_true v5 with hb6 | hb6
  · rw [ite_t hb6] at h
    try simp only [hσ, hb6, c_spec_ApplyEntry_1, Nat.reduceBEq, Nat.reduceMul, Nat.reduceAdd, Nat.reduceDiv, Int.reduceBEq, rules2, rulesX, rowsX]
    cases h
    try simp only [rulesR, Nat.reduceBEq, Nat.reduceMul, Nat.reduceAdd, Nat.reduceDiv, Int.reduceBEq, rules2, rulesX, rowsX]
    exact ⟨⟨⟨rfl, rfl, rfl, trivial⟩, rfl, trivial⟩, rfl⟩
  · rw [ite_f hb6] at h
    rcases Bool.eq_false_or_eq_true (a1.Kind == (1 : Int)) with hb7 | hb7
    · rw [ite_t hb7] at h
      obtain ⟨x8, hx8, h⟩ := ob h
      have hx8n := ix_get hx8
      try simp only [hσ, hb6, hb7, hx8, c_spec_ApplyEntry_1, c_spec_ApplyEntry_n1, Nat.reduceBEq, Nat.reduceMul, Nat.reduceAdd, Nat.reduceDiv, Int.reduceBEq, rules2, rulesX, rowsX]
      refine go_stp (y := a1.Value) rfl rfl hx8n rfl rfl rfl ?_
      try simp only [hb6, hb7, hx8, Nat.reduceBEq, Nat.reduceMul, Nat.reduceAdd, Nat.reduceDiv, Int.reduceBEq, rules2, rulesX, rowsX]
      refine w_spec_ApplyEntry_2 _ _ _ _ h _ ?_
      try simp only [hb6, hb7, hx8, Nat.reduceBEq, Nat.reduceMul, Nat.reduceAdd, Nat.reduceDiv, Int.reduceBEq, rules2, rulesX, rowsX, List.map_nil]
    · rw [ite_f hb7] at h
      rcases Bool.eq_false_or_eq_true (a1.Kind == (2 : Int)) with hb9 | hb9
      · rw [ite_t hb9] at h
        obtain ⟨x10, hx10, h⟩ := ob h
        have hx10n := ix_get hx10
        try simp only [hσ, hb6, hb7, hb9, hx10, c_spec_ApplyEntry_1, c_spec_ApplyEntry_n1, Nat.reduceBEq, Nat.reduceMul, Nat.reduceAdd, Nat.reduceDiv, Int.reduceBEq, rules2, rulesX, rowsX]
        refine go_stp (y := true) rfl rfl hx10n rfl rfl rfl ?_
        try simp only [hb6, hb7, hb9, hx10, Nat.reduceBEq, Nat.reduceMul, Nat.reduceAdd, Nat.reduceDiv, Int.reduceBEq, rules2, rulesX, rowsX]
        refine w_spec_ApplyEntry_2 _ _ _ _ h _ ?_
        try simp only [hb6, hb7, hb9, hx10, Nat.reduceBEq, Nat.reduceMul, Nat.reduceAdd, Nat.reduceDiv, Int.reduceBEq, rules2, rulesX, rowsX, List.map_nil]
      · rw [ite_f hb9] at h
        rcases Bool.eq_false_or_eq_true (a1.Kind == (3 : Int)) with hb11 | hb11
        · rw [ite_t hb11] at h
          obtain ⟨x12, hx12, h⟩ := ob h
          have hx12n := ix_get hx12
          try simp only [hσ, hb6, hb7, hb9, hb11, hx12, c_spec_ApplyEntry_1, c_spec_ApplyEntry_n1, Nat.reduceBEq, Nat.reduceMul, Nat.reduceAdd, Nat.reduceDiv, Int.reduceBEq, rules2, rulesX, rowsX]
          refine go_stp (y := (-1 : Int)) rfl rfl hx12n rfl rfl rfl ?_
          try simp only [hb6, hb7, hb9, hb11, hx12, Nat.reduceBEq, Nat.reduceMul, Nat.reduceAdd, Nat.reduceDiv, Int.reduceBEq, rules2, rulesX, rowsX]
          refine w_spec_ApplyEntry_2 _ _ _ _ h _ ?_
          try simp only [hb6, hb7, hb9, hb11, hx12, Nat.reduceBEq, Nat.reduceMul, Nat.reduceAdd, Nat.reduceDiv, Int.reduceBEq, rules2, rulesX, rowsX, List.map_nil]
        · rw [ite_f hb11] at h
          try simp only [hσ, hb6, hb7, hb9, hb11, c_spec_ApplyEntry_1, c_spec_ApplyEntry_n1, Nat.reduceBEq, Nat.reduceMul, Nat.reduceAdd, Nat.reduceDiv, Int.reduceBEq, rules2, rulesX, rowsX]
          refine w_spec_ApplyEntry_2 _ _ _ _ h _ ?_
          try simp only [hb6, hb7, hb9, hb11, Nat.reduceBEq, Nat.reduceMul, Nat.reduceAdd, Nat.reduceDiv, Int.reduceBEq, rules2, rulesX, rowsX, List.map_nil]
theorem e_spec_ApplyEntry : entry Tryz.prog 35 = some (c_spec_ApplyEntry.strip, [.c 4 true 3, 5], 48) := by kernel_rfl
theorem w_spec_ApplyEntry (a0 : XDesk) (a1 : XEntry) (r : XDesk × Bool) (h : f_spec_ApplyEntry a0 a1 = some r) : FC Tryz.prog 35 [.ag (XDesk.row a0), .ag (XEntry.row a1)] [.ag [.v (.int .i64 r.1.Now), .o 1 (List.map rI r.1.Starts), .o 1 (List.map rB r.1.Cleared)], .sc (.v (.bool r.2))] := by
  unfold f_spec_ApplyEntry at h
  refine FC_go (σ := ⟨[(0, va [aI a0.Now, aL (List.map rI a0.Starts), aL (List.map rB a0.Cleared)]), (1, va [aI a1.Kind, aI a1.At, aI a1.Call, aI a1.Value])], [], []⟩) mixed e_spec_ApplyEntry rfl rfl ?_
  simp only [c_spec_ApplyEntry]
  try simp only [Nat.reduceBEq, Nat.reduceMul, Nat.reduceAdd, Nat.reduceDiv, Int.reduceBEq, rules2, rulesX, rowsX]
  refine go_bx rfl rfl rfl ?_
  try simp only [Nat.reduceBEq, Nat.reduceMul, Nat.reduceAdd, Nat.reduceDiv, Int.reduceBEq, rules2, rulesX, rowsX]
  refine go_bx rfl rfl rfl ?_
  try simp only [Nat.reduceBEq, Nat.reduceMul, Nat.reduceAdd, Nat.reduceDiv, Int.reduceBEq, rules2, rulesX, rowsX]
  refine go_al rfl rfl ?_
  obtain ⟨r1, hr1, h⟩ := ob h
  try simp only [Nat.reduceBEq, Nat.reduceMul, Nat.reduceAdd, Nat.reduceDiv, Int.reduceBEq, rules2, rulesX, rowsX]
  refine go_callI (w_spec_l23Copy _ _ hr1) rfl rfl (Nat.le_of_ble_eq_true rfl) ?_
  try simp only [Nat.reduceBEq, Nat.reduceMul, Nat.reduceAdd, Nat.reduceDiv, Int.reduceBEq, rules2, rulesX, rowsX]
  refine go_al rfl rfl ?_
  obtain ⟨r2, hr2, h⟩ := ob h
  try simp only [Nat.reduceBEq, Nat.reduceMul, Nat.reduceAdd, Nat.reduceDiv, Int.reduceBEq, rules2, rulesX, rowsX]
  refine go_callI (w_spec_DeskOk _ _ hr2) rfl rfl (Nat.le_of_ble_eq_true rfl) ?_
  rcases Bool.eq_false_or_eq_true r2 with hb3 | hb3
  · rw [ite_t hb3] at h
    obtain ⟨r4, hr4, h⟩ := ob h
    try simp only [hb3, Nat.reduceBEq, Nat.reduceMul, Nat.reduceAdd, Nat.reduceDiv, Int.reduceBEq, rules2, rulesX, rowsX]
    refine go_callI (w_spec_l23Allowed _ _ _ hr4) rfl rfl (Nat.le_of_ble_eq_true rfl) ?_
    try simp only [hb3, Nat.reduceBEq, Nat.reduceMul, Nat.reduceAdd, Nat.reduceDiv, Int.reduceBEq, rules2, rulesX, rowsX]
    refine w_spec_ApplyEntry_1 _ _ _ _ h _ ?_
    try simp only [hb3, Nat.reduceBEq, Nat.reduceMul, Nat.reduceAdd, Nat.reduceDiv, Int.reduceBEq, rules2, rulesX, rowsX, List.map_nil]
  · rw [ite_f hb3] at h
    try simp only [hb3, Nat.reduceBEq, Nat.reduceMul, Nat.reduceAdd, Nat.reduceDiv, Int.reduceBEq, rules2, rulesX, rowsX]
    refine w_spec_ApplyEntry_1 _ _ _ _ h _ ?_
    try simp only [hb3, Nat.reduceBEq, Nat.reduceMul, Nat.reduceAdd, Nat.reduceDiv, Int.reduceBEq, rules2, rulesX, rowsX, List.map_nil]
/- 15: spec_l23Draw -/
def c_spec_l23Draw_2 : ACode := .seq (.reg [(none, .keep [0, 2, 4, 5, 6] [1099511627776, 2, 4] [896])]) (.reg [(none, .mv 19 (S 6)), (none, .bin 20 .sub (S 19) (K 1)), (none, .mv 6 (S 20))])
def c_spec_l23Draw_1 : ACode := .seq (.reg [(none, .keep [0, 2, 4, 5, 6] [1099511627776, 2, 4] [896])]) (.seq (.seq (.reg [(none, .mv 17 (S 6)), (none, .bin 18 .gtr (S 17) (K 0))]) (.cond (S 18) .skip (.exit 0))) (.seq (.block 1 (.seq (.reg [(none, .mv 21 (S 0)), (none, .load 22 (S 4) true 3), (none, .call 23 34 [(S 21), (S 22)]), (none, .alloc 7 [aI 0, aI 0, aI 0, aI 0]), (none, .store (S 7) (S 23) 4)]) (.seq (.reg [(none, .load 25 (S 4) true 3), (none, .load 26 (S 7) true 4), (none, .call 27 35 [(S 25), (S 26)]), (none, .frz 1729), (none, .frz 1730), (none, .mv 24 (S 27)), (none, .extr 28 (S 24) 0), (none, .extr 29 (S 24) 1), (none, .alloc 8 [aI 0, .nil, .nil]), (none, .store (S 8) (S 28) 3), (none, .mv 9 (S 29))]) (.seq (.reg [(none, .mv 30 (S 9))]) (.cond (S 30) (.seq (.reg [(none, .load 31 (S 8) true 3), (none, .store (S 4) (S 31) 3)]) (.reg [(none, .mv 32 (S 5)), (none, .load 33 (S 7) true 4), (none, .bslice 34 4 [.int .i64 0, .int .i64 0, .int .i64 0, .int .i64 0] 1 [(0, (S 33))]), (none, .app 35 4 32 (S 32) (S 34)), (none, .mv 5 (S 35))])) .skip))))) c_spec_l23Draw_2))
def c_spec_l23Draw_n1 : ACode := (.seq (.reg [(none, .load 36 (S 4) true 3), (none, .frz 896), (none, .mv 37 (S 5)), (none, .store (S 2) (S 36) 3), (none, .mv 3 (S 37))]) .ret)
def c_spec_l23Draw : ACode := (.seq (.reg [(none, .alloc 2 [aI 0, .nil, .nil]), (none, .mv 3 KN)]) (.seq (.reg [(none, .mv 10 (S 0)), (none, .call 11 33 [(S 10), (K 3)]), (none, .bin 12 .add (K 1) (S 11)), (none, .call 13 32 [(S 12)]), (none, .frz 833), (none, .frz 834), (none, .alloc 4 [aI 0, .nil, .nil]), (none, .store (S 4) (S 13) 3)]) (.seq (.reg [(none, .bslice 14 4 [.int .i64 0, .int .i64 0, .int .i64 0, .int .i64 0] 0 []), (none, .mv 5 (S 14))]) (.seq (.seq (.reg [(none, .mv 15 (S 0)), (none, .call 16 33 [(S 15), (K 8)]), (none, .mv 6 (S 16))]) (.block 0 (.loop c_spec_l23Draw_1))) c_spec_l23Draw_n1))))
theorem w_spec_l23Draw_2 (v4 : Int) (r13 : XEntry × Xl01Cur) (k_spec_l23Draw_1 : Int → (List Int) → Int → Int → Int → (List Int) → (List Bool) → (List XEntry) → Option (XDesk × (List XEntry) × Xl01Cur)) (hk_spec_l23Draw_1 : ∀ (v4 : Int) (v5 : List Int) (v6 : Int) (v7 : Int) (v8 : Int) (v9 : List Int) (v10 : List Bool) (v11 : List XEntry) zr, k_spec_l23Draw_1 v4 v5 v6 v7 v8 v9 v10 v11 = some zr → ∀ σ : St, σ.kept [0, 2, 4, 5, 6] [1099511627776, 2, 4] [896] = ⟨[(0, vc (.pb 1099511627776 0)), (2, vc (.pb 2 0)), (4, vc (.pb 4 0)), (5, vc (.own 896)), (6, vc (aI v4))], [(1099511627776, [aL (List.map r8 v5), aI v6, aI v7]), (2, [aI (0 : Int), .nil, .nil]), (4, [aI v8, aL (List.map rI v9), aL (List.map rB v10)])], [(896, 4, List.map XEntry.row v11)]⟩ → go Tryz.prog (.code (.loop c_spec_l23Draw_1) :: [.blk 0, .code c_spec_l23Draw_n1]) (RetY [.c 2 true 3, 3] [.ag [.v (.int .i64 zr.1.Now), .v (.sl (List.map rI zr.1.Starts)), .v (.sl (List.map rB zr.1.Cleared))], .sc (.v (.sl (List.map XEntry.row zr.2.1)))] [.sl (List.map r8 zr.2.2.b), .int .i64 zr.2.2.i, .int .i64 zr.2.2.h]) .normal (some σ)) (v17 : Int) (v18 : List Int) (v19 : List Bool) (v20 : List XEntry) (r : XDesk × (List XEntry) × Xl01Cur) (h : f_spec_l23Draw_2 v4 r13 k_spec_l23Draw_1 v17 v18 v19 v20 = some r) (σ : St) (hσ : σ.kept [0, 2, 4, 5, 6] [1099511627776, 2, 4] [896] = ⟨[(0, vc (.pb 1099511627776 0)), (2, vc (.pb 2 0)), (4, vc (.pb 4 0)), (5, vc (.own 896)), (6, vc (aI v4))], [(1099511627776, [aL (List.map r8 r13.2.b), aI r13.2.i, aI r13.2.h]), (2, [aI (0 : Int), .nil, .nil]), (4, [aI v17, aL (List.map rI v18), aL (List.map rB v19)])], [(896, 4, List.map XEntry.row v20)]⟩) : go Tryz.prog (.code c_spec_l23Draw_2 :: [.code (.loop c_spec_l23Draw_1), .blk 0, .code c_spec_l23Draw_n1]) (RetY [.c 2 true 3, 3] [.ag [.v (.int .i64 r.1.Now), .v (.sl (List.map rI r.1.Starts)), .v (.sl (List.map rB r.1.Cleared))], .sc (.v (.sl (List.map XEntry.row r.2.1)))] [.sl (List.map r8 r.2.2.b), .int .i64 r.2.2.i, .int .i64 r.2.2.h]) .normal (some σ) := by
  unfold f_spec_l23Draw_2 at h
  try simp only [hσ, c_spec_l23Draw_2, Nat.reduceBEq, Nat.reduceMul, Nat.reduceAdd, Nat.reduceDiv, Int.reduceBEq, rules2, rulesX, rowsX]
  refine hk_spec_l23Draw_1 _ _ _ _ _ _ _ _ _ h _ ?_
  try simp only [Nat.reduceBEq, Nat.reduceMul, Nat.reduceAdd, Nat.reduceDiv, Int.reduceBEq, rules2, rulesX, rowsX, List.map_nil]
theorem w_spec_l23Draw_1 : ∀ (n : Nat) (v4 : Int) (v5 : List Int) (v6 : Int) (v7 : Int) (v8 : Int) (v9 : List Int) (v10 : List Bool) (v11 : List XEntry) (r : XDesk × (List XEntry) × Xl01Cur), f_spec_l23Draw_1 n v4 v5 v6 v7 v8 v9 v10 v11 = some r → ∀ σ : St, σ.kept [0, 2, 4, 5, 6] [1099511627776, 2, 4] [896] = ⟨[(0, vc (.pb 1099511627776 0)), (2, vc (.pb 2 0)), (4, vc (.pb 4 0)), (5, vc (.own 896)), (6, vc (aI v4))], [(1099511627776, [aL (List.map r8 v5), aI v6, aI v7]), (2, [aI (0 : Int), .nil, .nil]), (4, [aI v8, aL (List.map rI v9), aL (List.map rB v10)])], [(896, 4, List.map XEntry.row v11)]⟩ → go Tryz.prog (.code (.loop c_spec_l23Draw_1) :: [.blk 0, .code c_spec_l23Draw_n1]) (RetY [.c 2 true 3, 3] [.ag [.v (.int .i64 r.1.Now), .v (.sl (List.map rI r.1.Starts)), .v (.sl (List.map rB r.1.Cleared))], .sc (.v (.sl (List.map XEntry.row r.2.1)))] [.sl (List.map r8 r.2.2.b), .int .i64 r.2.2.i, .int .i64 r.2.2.h]) .normal (some σ) := by
  intro n
  induction n with
  | zero => intro _ _ _ _ _ _ _ _ r h; cases h
  | succ n ih =>
    intro v4 v5 v6 v7 v8 v9 v10 v11 r h σ hσ
    rw [f_spec_l23Draw_1] at h
    refine go_round ?_
    rcases Bool.eq_false_or_eq_true (decide ((0 : Int) < v4)) with hb12 | hb12
    · rw [ite_t hb12] at h
      obtain ⟨r13, hr13, h⟩ := ob h
      try simp only [hσ, hb12, c_spec_l23Draw_1, Nat.reduceBEq, Nat.reduceMul, Nat.reduceAdd, Nat.reduceDiv, Int.reduceBEq, rules2, rulesX, rowsX]
      refine go_cally (w_spec_l23Entry _ _ _ hr13) 1099511627776 rfl rfl rfl ?_
      try simp only [hb12, Nat.reduceBEq, Nat.reduceMul, Nat.reduceAdd, Nat.reduceDiv, Int.reduceBEq, rules2, rulesX, rowsX]
      refine go_al rfl rfl ?_
      obtain ⟨r14, hr14, h⟩ := ob h
      try simp only [hb12, Nat.reduceBEq, Nat.reduceMul, Nat.reduceAdd, Nat.reduceDiv, Int.reduceBEq, rules2, rulesX, rowsX]
      refine go_callI (w_spec_ApplyEntry _ _ _ hr14) rfl rfl (Nat.le_of_ble_eq_true rfl) ?_
      try simp only [hb12, Nat.reduceBEq, Nat.reduceMul, Nat.reduceAdd, Nat.reduceDiv, Int.reduceBEq, rules2, rulesX, rowsX]
      refine go_frz' rfl ?_
      try simp only [hb12, Nat.reduceBEq, Nat.reduceMul, Nat.reduceAdd, Nat.reduceDiv, Int.reduceBEq, rules2, rulesX, rowsX]
      refine go_frz' rfl ?_
      try simp only [hb12, Nat.reduceBEq, Nat.reduceMul, Nat.reduceAdd, Nat.reduceDiv, Int.reduceBEq, rules2, rulesX, rowsX]
      refine go_al rfl rfl ?_
      rcases Bool.eq_false_or_eq_true r14.2 with hb15 | hb15
      · rw [ite_t hb15] at h
        try simp only [hb12, hb15, Nat.reduceBEq, Nat.reduceMul, Nat.reduceAdd, Nat.reduceDiv, Int.reduceBEq, rules2, rulesX, rowsX]
        refine go_bsl (es := List.map XEntry.row ([r13.1] : List XEntry)) rfl rfl ?_
        obtain ⟨hg16, h⟩ := of_guard h
        try simp only [hb12, hb15, hg16, Nat.reduceBEq, Nat.reduceMul, Nat.reduceAdd, Nat.reduceDiv, Int.reduceBEq, rules2, rulesX, rowsX]
        refine w_spec_l23Draw_2 _ _ (f_spec_l23Draw_1 n) ih _ _ _ _ _ h _ ?_
        try simp only [hb12, hb15, hg16, Nat.reduceBEq, Nat.reduceMul, Nat.reduceAdd, Nat.reduceDiv, Int.reduceBEq, rules2, rulesX, rowsX, List.map_nil]
      · rw [ite_f hb15] at h
        try simp only [hb12, hb15, Nat.reduceBEq, Nat.reduceMul, Nat.reduceAdd, Nat.reduceDiv, Int.reduceBEq, rules2, rulesX, rowsX]
        refine w_spec_l23Draw_2 _ _ (f_spec_l23Draw_1 n) ih _ _ _ _ _ h _ ?_
        try simp only [hb12, hb15, Nat.reduceBEq, Nat.reduceMul, Nat.reduceAdd, Nat.reduceDiv, Int.reduceBEq, rules2, rulesX, rowsX, List.map_nil]
    · rw [ite_f hb12] at h
      try simp only [hσ, hb12, c_spec_l23Draw_1, c_spec_l23Draw_n1, Nat.reduceBEq, Nat.reduceMul, Nat.reduceAdd, Nat.reduceDiv, Int.reduceBEq, rules2, rulesX, rowsX]
      refine go_frz' rfl ?_
      try simp only [hb12, Nat.reduceBEq, Nat.reduceMul, Nat.reduceAdd, Nat.reduceDiv, Int.reduceBEq, rules2, rulesX, rowsX]
      cases h
      try simp only [rulesR, Nat.reduceBEq, Nat.reduceMul, Nat.reduceAdd, Nat.reduceDiv, Int.reduceBEq, rules2, rulesX, rowsX]
      exact ⟨⟨⟨rfl, rfl, rfl, trivial⟩, rfl, trivial⟩, rfl⟩
theorem e_spec_l23Draw : entry Tryz.prog 15 = some (c_spec_l23Draw.strip, [.c 2 true 3, 3], 38) := by kernel_rfl
theorem w_spec_l23Draw (a0 : Xl01Cur) (r : XDesk × (List XEntry) × Xl01Cur) (h : f_spec_l23Draw a0 = some r) : FCy Tryz.prog 15 [.p] [.sl (List.map r8 a0.b), .int .i64 a0.i, .int .i64 a0.h] [.sl (List.map r8 r.2.2.b), .int .i64 r.2.2.i, .int .i64 r.2.2.h] [.ag [.v (.int .i64 r.1.Now), .v (.sl (List.map rI r.1.Starts)), .v (.sl (List.map rB r.1.Cleared))], .sc (.v (.sl (List.map XEntry.row r.2.1)))] := by
  unfold f_spec_l23Draw at h
  refine FCy_go (σ := ⟨[(0, vc (.pb 1099511627776 0))], [(1099511627776, [aL (List.map r8 a0.b), aI a0.i, aI a0.h])], []⟩) mixed e_spec_l23Draw rfl rfl ?_
  simp only [c_spec_l23Draw]
  try simp only [Nat.reduceBEq, Nat.reduceMul, Nat.reduceAdd, Nat.reduceDiv, Int.reduceBEq, rules2, rulesX, rowsX]
  refine go_al rfl rfl ?_
  obtain ⟨r1, hr1, h⟩ := ob h
  try simp only [Nat.reduceBEq, Nat.reduceMul, Nat.reduceAdd, Nat.reduceDiv, Int.reduceBEq, rules2, rulesX, rowsX]
  refine go_cally (w_spec_l01Below _ _ _ hr1) 1099511627776 rfl rfl rfl ?_
  obtain ⟨r2, hr2, h⟩ := ob h
  try simp only [Nat.reduceBEq, Nat.reduceMul, Nat.reduceAdd, Nat.reduceDiv, Int.reduceBEq, rules2, rulesX, rowsX]
  refine go_callI (w_spec_DeskNew _ _ hr2) rfl rfl (Nat.le_of_ble_eq_true rfl) ?_
  try simp only [Nat.reduceBEq, Nat.reduceMul, Nat.reduceAdd, Nat.reduceDiv, Int.reduceBEq, rules2, rulesX, rowsX]
  refine go_frz' rfl ?_
  try simp only [Nat.reduceBEq, Nat.reduceMul, Nat.reduceAdd, Nat.reduceDiv, Int.reduceBEq, rules2, rulesX, rowsX]
  refine go_frz' rfl ?_
  try simp only [Nat.reduceBEq, Nat.reduceMul, Nat.reduceAdd, Nat.reduceDiv, Int.reduceBEq, rules2, rulesX, rowsX]
  refine go_al rfl rfl ?_
  try simp only [Nat.reduceBEq, Nat.reduceMul, Nat.reduceAdd, Nat.reduceDiv, Int.reduceBEq, rules2, rulesX, rowsX]
  refine go_bsl (es := List.map XEntry.row ([] : List XEntry)) rfl rfl ?_
  obtain ⟨r3, hr3, h⟩ := ob h
  try simp only [Nat.reduceBEq, Nat.reduceMul, Nat.reduceAdd, Nat.reduceDiv, Int.reduceBEq, rules2, rulesX, rowsX]
  refine go_cally (w_spec_l01Below _ _ _ hr3) 1099511627776 rfl rfl rfl ?_
  try simp only [Nat.reduceBEq, Nat.reduceMul, Nat.reduceAdd, Nat.reduceDiv, Int.reduceBEq, rules2, rulesX, rowsX]
  refine w_spec_l23Draw_1 _ _ _ _ _ _ _ _ _ _ h _ ?_
  try simp only [Nat.reduceBEq, Nat.reduceMul, Nat.reduceAdd, Nat.reduceDiv, Int.reduceBEq, rules2, rulesX, rowsX, List.map_nil]
/- 4: spec_MakeJournal -/
def c_spec_MakeJournal : ACode := (.seq (.reg [(none, .mv 2 (K 0)), (none, .mv 3 KN)]) (.seq (.reg [(none, .mv 7 (S 0)), (none, .call 8 16 [(S 7)]), (none, .call 9 15 [(S 8)]), (none, .mv 6 (S 9)), (none, .extr 10 (S 6) 0), (none, .extr 11 (S 6) 1), (none, .alloc 4 [aI 0, .nil, .nil]), (none, .store (S 4) (S 10) 3), (none, .mv 5 (S 11))]) (.seq (.reg [(none, .faddr 12 (S 4) 1), (none, .load 13 (S 12) false 1), (none, .len 14 (S 13)), (none, .mv 15 (S 5)), (none, .mv 2 (S 14)), (none, .mv 3 (S 15))]) .ret)))
theorem e_spec_MakeJournal : entry Tryz.prog 4 = some (c_spec_MakeJournal.strip, [2, 3], 16) := by kernel_rfl
theorem w_spec_MakeJournal (a0 : List Int) (r : Int × (List XEntry)) (h : f_spec_MakeJournal a0 = some r) : FC Tryz.prog 4 [.sc (.sl (List.map r8 a0))] [.sc (.v (.int .i64 r.1)), .sc (.v (.sl (List.map XEntry.row r.2)))] := by
  unfold f_spec_MakeJournal at h
  refine FC_go (σ := ⟨[(0, vc (aL (List.map r8 a0)))], [], []⟩) mixed e_spec_MakeJournal rfl rfl ?_
  simp only [c_spec_MakeJournal]
  obtain ⟨r1, hr1, h⟩ := ob h
  try simp only [Nat.reduceBEq, Nat.reduceMul, Nat.reduceAdd, Nat.reduceDiv, Int.reduceBEq, rules2, rulesX, rowsX]
  refine go_calln (w_spec_l01New _ _ hr1) rfl rfl ?_
  obtain ⟨r2, hr2, h⟩ := ob h
  try simp only [Nat.reduceBEq, Nat.reduceMul, Nat.reduceAdd, Nat.reduceDiv, Int.reduceBEq, rules2, rulesX, rowsX]
  refine go_cally (w_spec_l23Draw _ _ hr2) 8 rfl rfl rfl ?_
  try simp only [Nat.reduceBEq, Nat.reduceMul, Nat.reduceAdd, Nat.reduceDiv, Int.reduceBEq, rules2, rulesX, rowsX]
  refine go_al rfl rfl ?_
  try simp only [Nat.reduceBEq, Nat.reduceMul, Nat.reduceAdd, Nat.reduceDiv, Int.reduceBEq, rules2, rulesX, rowsX]
  cases h
  exact ⟨⟨rfl, rfl, trivial⟩, rfl⟩
/- 19: impl_within -/
def c_impl_within : ACode := (.seq (.reg [(none, .mv 6 (KB false))]) (.seq (.reg [(none, .mv 7 (S 1)), (none, .mv 8 (S 0)), (none, .bin 9 .leq (S 7) (S 8)), (none, .mv 10 (S 9)), (some (10, true), .mv 11 (S 0)), (some (10, true), .mv 12 (S 2)), (some (10, true), .bin 13 .leq (S 11) (S 12)), (none, .pick 14 (S 10) (S 13) (KB false)), (none, .mv 6 (S 14))]) .ret))
theorem e_impl_within : entry Tryz.prog 19 = some (c_impl_within.strip, [6], 15) := by kernel_rfl
theorem w_impl_within (a0 : Int) (a1 : Int) (a2 : Int) (r : Bool) (h : f_impl_within a0 a1 a2 = some r) : FC Tryz.prog 19 [.sc (.int .i64 a0), .sc (.int .i64 a1), .sc (.int .i64 a2)] [.sc (.v (.bool r))] := by
  unfold f_impl_within at h
  refine FC_go (σ := ⟨[(0, vc (aI a0)), (1, vc (aI a1)), (2, vc (aI a2))], [], []⟩) mixed e_impl_within rfl rfl ?_
  simp only [c_impl_within]
  rcases Bool.eq_false_or_eq_true (decide (a1 ≤ a0)) with hb1 | hb1
  · rw [ite_t hb1] at h
    try simp only [hb1, Nat.reduceBEq, Nat.reduceMul, Nat.reduceAdd, Nat.reduceDiv, Int.reduceBEq, rules2, rulesX, rowsX]
    cases h
    exact ⟨⟨rfl, trivial⟩, rfl⟩
  · rw [ite_f hb1] at h
    try simp only [hb1, Nat.reduceBEq, Nat.reduceMul, Nat.reduceAdd, Nat.reduceDiv, Int.reduceBEq, rules2, rulesX, rowsX]
    cases h
    exact ⟨⟨rfl, trivial⟩, rfl⟩
/- 24: impl_entryName -/
def c_impl_entryName : ACode := (.seq (.reg [(none, .mv 2 (KS []))]) (.seq (.seq (.reg [(none, .mv 3 (S 0)), (none, .call 4 19 [(S 3), (K 1), (K 4)]), (none, .un 5 .not (S 4))]) (.cond (S 5) (.seq (.reg [(none, .mv 2 (KS []))]) .ret) .skip)) (.seq (.reg [(none, .bslice 6 1 [.str []] 4 [(0, (KS [97, 110, 110, 111, 117, 110, 99, 101])), (1, (KS [99, 108, 101, 97, 114])), (2, (KS [99, 97, 110, 99, 101, 108])), (3, (KS [116, 105, 99, 107]))]), (none, .mv 7 (S 0)), (none, .bin 8 .sub (S 7) (K 1)), (none, .iaddr 9 (S 6) (S 8) 1), (none, .load 10 (S 9) false 1), (none, .mv 2 (S 10))]) .ret)))
theorem e_impl_entryName : entry Tryz.prog 24 = some (c_impl_entryName.strip, [2], 11) := by kernel_rfl
theorem w_impl_entryName (a0 : Int) (r : (List UInt8)) (h : f_impl_entryName a0 = some r) : FC Tryz.prog 24 [.sc (.int .i64 a0)] [.sc (.v (.str r))] := by
  unfold f_impl_entryName at h
  refine FC_go (σ := ⟨[(0, vc (aI a0))], [], []⟩) mixed e_impl_entryName rfl rfl ?_
  simp only [c_impl_entryName]
  obtain ⟨r1, hr1, h⟩ := ob h
  try simp only [Nat.reduceBEq, Nat.reduceMul, Nat.reduceAdd, Nat.reduceDiv, Int.reduceBEq, rules2, rulesX, rowsX]
  refine go_callI (w_impl_within _ _ _ _ hr1) rfl rfl (Nat.le_of_ble_eq_true rfl) ?_
  rcases Bool.eq_false_or_eq_true r1 with hb2 | hb2
  · rw [ite_t hb2] at h
    try simp only [hb2, Nat.reduceBEq, Nat.reduceMul, Nat.reduceAdd, Nat.reduceDiv, Int.reduceBEq, rules2, rulesX, rowsX]
    refine go_bsl (es := List.map rS ([([97, 110, 110, 111, 117, 110, 99, 101] : List UInt8), ([99, 108, 101, 97, 114] : List UInt8), ([99, 97, 110, 99, 101, 108] : List UInt8), ([116, 105, 99, 107] : List UInt8)] : List (List UInt8))) rfl rfl ?_
    obtain ⟨x3, hx3, h⟩ := ob h
    have hx3n := ix_get hx3
    try simp only [hb2, hx3, hx3n, Nat.reduceBEq, Nat.reduceMul, Nat.reduceAdd, Nat.reduceDiv, Int.reduceBEq, rules2, rulesX, rowsX]
    cases h
    exact ⟨⟨rfl, trivial⟩, rfl⟩
  · rw [ite_f hb2] at h
    try simp only [hb2, Nat.reduceBEq, Nat.reduceMul, Nat.reduceAdd, Nat.reduceDiv, Int.reduceBEq, rules2, rulesX, rowsX]
    cases h
    exact ⟨⟨rfl, trivial⟩, rfl⟩
/- 25: impl_isMinute -/
def c_impl_isMinute : ACode := (.seq (.reg [(none, .mv 2 (KB false))]) (.seq (.reg [(none, .mv 3 (S 0)), (none, .call 4 19 [(S 3), (K 0), (K 2880)]), (none, .mv 2 (S 4))]) .ret))
theorem e_impl_isMinute : entry Tryz.prog 25 = some (c_impl_isMinute.strip, [2], 5) := by kernel_rfl
theorem w_impl_isMinute (a0 : Int) (r : Bool) (h : f_impl_isMinute a0 = some r) : FC Tryz.prog 25 [.sc (.int .i64 a0)] [.sc (.v (.bool r))] := by
  unfold f_impl_isMinute at h
  refine FC_go (σ := ⟨[(0, vc (aI a0))], [], []⟩) mixed e_impl_isMinute rfl rfl ?_
  simp only [c_impl_isMinute]
  obtain ⟨r1, hr1, h⟩ := ob h
  try simp only [Nat.reduceBEq, Nat.reduceMul, Nat.reduceAdd, Nat.reduceDiv, Int.reduceBEq, rules2, rulesX, rowsX]
  refine go_callI (w_impl_within _ _ _ _ hr1) rfl rfl (Nat.le_of_ble_eq_true rfl) ?_
  try simp only [Nat.reduceBEq, Nat.reduceMul, Nat.reduceAdd, Nat.reduceDiv, Int.reduceBEq, rules2, rulesX, rowsX]
  cases h
  exact ⟨⟨rfl, trivial⟩, rfl⟩
/- 27: impl_FormatInt -/
def c_impl_FormatInt : ACode := (.seq (.reg [(none, .mv 2 (KS []))]) (.seq (.reg [(none, .mv 3 (S 0)), (none, .call 4 42 [(S 3)]), (none, .mv 2 (S 4))]) .ret))
theorem e_impl_FormatInt : entry Tryz.prog 27 = some (c_impl_FormatInt.strip, [2], 5) := by kernel_rfl
theorem w_impl_FormatInt (a0 : Int) (r : (List UInt8)) (h : f_impl_FormatInt a0 = some r) : FC Tryz.prog 27 [.sc (.int .i64 a0)] [.sc (.v (.str r))] := by
  unfold f_impl_FormatInt at h
  refine FC_go (σ := ⟨[(0, vc (aI a0))], [], []⟩) mixed e_impl_FormatInt rfl rfl ?_
  simp only [c_impl_FormatInt]
  obtain ⟨r1, hr1, h⟩ := ob h
  try simp only [Nat.reduceBEq, Nat.reduceMul, Nat.reduceAdd, Nat.reduceDiv, Int.reduceBEq, rules2, rulesX, rowsX]
  refine go_callI (w_strconv_Itoa _ _ hr1) rfl rfl (Nat.le_of_ble_eq_true rfl) ?_
  try simp only [Nat.reduceBEq, Nat.reduceMul, Nat.reduceAdd, Nat.reduceDiv, Int.reduceBEq, rules2, rulesX, rowsX]
  cases h
  exact ⟨⟨rfl, trivial⟩, rfl⟩
/- 26: impl_Join -/
def c_impl_Join : ACode := (.seq (.reg [(none, .mv 4 (KS []))]) (.seq (.reg [(none, .mv 5 (S 0)), (none, .mv 6 (S 1)), (none, .call 7 41 [(S 5), (S 6)]), (none, .mv 4 (S 7))]) .ret))
theorem e_impl_Join : entry Tryz.prog 26 = some (c_impl_Join.strip, [4], 8) := by kernel_rfl
theorem w_impl_Join (a0 : List (List UInt8)) (a1 : List UInt8) (r : (List UInt8)) (h : f_impl_Join a0 a1 = some r) : FC Tryz.prog 26 [.sc (.sl (List.map rS a0)), .sc (.str a1)] [.sc (.v (.str r))] := by
  unfold f_impl_Join at h
  refine FC_go (σ := ⟨[(0, vc (aL (List.map rS a0))), (1, vc (aS a1))], [], []⟩) mixed e_impl_Join rfl rfl ?_
  simp only [c_impl_Join]
  obtain ⟨r1, hr1, h⟩ := ob h
  try simp only [Nat.reduceBEq, Nat.reduceMul, Nat.reduceAdd, Nat.reduceDiv, Int.reduceBEq, rules2, rulesX, rowsX]
  refine go_callI (w_strings_Join _ _ _ hr1) rfl rfl (Nat.le_of_ble_eq_true rfl) ?_
  try simp only [Nat.reduceBEq, Nat.reduceMul, Nat.reduceAdd, Nat.reduceDiv, Int.reduceBEq, rules2, rulesX, rowsX]
  cases h
  exact ⟨⟨rfl, trivial⟩, rfl⟩
/- 28: impl_SumOfText -/
def c_impl_SumOfText_1 : ACode := .seq (.reg [(none, .keep [0, 3, 4] [] [])]) (.seq (.seq (.reg [(none, .mv 5 (S 4)), (none, .mv 6 (S 0)), (none, .slen 7 (S 6)), (none, .bin 8 .lss (S 5) (S 7))]) (.cond (S 8) .skip (.exit 0))) (.seq (.block 1 (.reg [(none, .mv 11 (S 3)), (none, .bin 12 .mul (K 31) (S 11)), (none, .mv 13 (S 0)), (none, .mv 14 (S 4)), (none, .idx 15 (S 13) (S 14)), (none, .conv 16 .i64 (S 15)), (none, .bin 17 .add (S 12) (S 16)), (none, .bin 18 .rem (S 17) (K 65521)), (none, .mv 3 (S 18))])) (.reg [(none, .mv 9 (S 4)), (none, .bin 10 .add (S 9) (K 1)), (none, .mv 4 (S 10))])))
def c_impl_SumOfText_n1 : ACode := (.seq (.reg [(none, .mv 19 (S 3)), (none, .mv 2 (S 19))]) .ret)
def c_impl_SumOfText : ACode := (.seq (.reg [(none, .mv 2 (K 0))]) (.seq (.reg [(none, .mv 3 (K 7))]) (.seq (.seq (.reg [(none, .mv 4 (K 0))]) (.block 0 (.loop c_impl_SumOfText_1))) c_impl_SumOfText_n1)))
theorem w_impl_SumOfText_1 (a0 : List UInt8) : ∀ (n : Nat) (v1 : Int) (v2 : Int) (r : Int), f_impl_SumOfText_1 a0 n v1 v2 = some r → ∀ σ : St, σ.kept [0, 3, 4] [] [] = ⟨[(0, vc (aS a0)), (3, vc (aI v1)), (4, vc (aI v2))], [], []⟩ → go Tryz.prog (.code (.loop c_impl_SumOfText_1) :: [.blk 0, .code c_impl_SumOfText_n1]) (Ret [2] [.sc (.v (.int .i64 r))]) .normal (some σ) := by
  intro n
  induction n with
  | zero => intro _ _ r h; cases h
  | succ n ih =>
    intro v1 v2 r h σ hσ
    rw [f_impl_SumOfText_1] at h
    refine go_round ?_
    rcases Bool.eq_false_or_eq_true (decide (v2 < (a0.length : Int))) with hb3 | hb3
    · rw [ite_t hb3] at h
      obtain ⟨b4, hb4, h⟩ := ob h
      try simp only [hσ, hb3, hb4, c_impl_SumOfText_1, Nat.reduceBEq, Nat.reduceMul, Nat.reduceAdd, Nat.reduceDiv, Int.reduceBEq, rules2, rulesX, rowsX]
      refine ih _ _ _ h _ ?_
      try simp only [hb3, hb4, Nat.reduceBEq, Nat.reduceMul, Nat.reduceAdd, Nat.reduceDiv, Int.reduceBEq, rules2, rulesX, rowsX, List.map_nil]
    · rw [ite_f hb3] at h
      try simp only [hσ, hb3, c_impl_SumOfText_1, c_impl_SumOfText_n1, Nat.reduceBEq, Nat.reduceMul, Nat.reduceAdd, Nat.reduceDiv, Int.reduceBEq, rules2, rulesX, rowsX]
      cases h
      exact ⟨⟨rfl, trivial⟩, rfl⟩
theorem e_impl_SumOfText : entry Tryz.prog 28 = some (c_impl_SumOfText.strip, [2], 20) := by kernel_rfl
theorem w_impl_SumOfText (a0 : List UInt8) (r : Int) (h : f_impl_SumOfText a0 = some r) : FC Tryz.prog 28 [.sc (.str a0)] [.sc (.v (.int .i64 r))] := by
  unfold f_impl_SumOfText at h
  refine FC_go (σ := ⟨[(0, vc (aS a0))], [], []⟩) mixed e_impl_SumOfText rfl rfl ?_
  simp only [c_impl_SumOfText]
  try simp only [Nat.reduceBEq, Nat.reduceMul, Nat.reduceAdd, Nat.reduceDiv, Int.reduceBEq, rules2, rulesX, rowsX]
  refine w_impl_SumOfText_1 _ _ _ _ _ h _ ?_
  try simp only [Nat.reduceBEq, Nat.reduceMul, Nat.reduceAdd, Nat.reduceDiv, Int.reduceBEq, rules2, rulesX, rowsX, List.map_nil]
/- 10: impl_FormatEntry -/
def c_impl_FormatEntry : ACode := (.seq (.reg [(none, .box 1 (S 0)), (none, .mv 2 (KS []))]) (.seq (.reg [(none, .faddr 5 (S 1) 0), (none, .load 6 (S 5) false 1), (none, .call 7 24 [(S 6)]), (none, .mv 3 (S 7))]) (.seq (.seq (.reg [(none, .mv 8 (S 3)), (none, .bin 9 .eql (S 8) (KS [])), (none, .mv 10 (S 9)), (some (10, false), .faddr 11 (S 1) 1), (some (10, false), .load 12 (S 11) false 1), (some (10, false), .call 13 25 [(S 12)]), (some (10, false), .un 14 .not (S 13)), (none, .pick 15 (S 10) (KB true) (S 14)), (none, .mv 16 (S 15)), (some (16, false), .faddr 17 (S 1) 2), (some (16, false), .load 18 (S 17) false 1), (some (16, false), .call 19 25 [(S 18)]), (some (16, false), .un 20 .not (S 19)), (none, .pick 21 (S 16) (KB true) (S 20)), (none, .mv 22 (S 21)), (some (22, false), .faddr 23 (S 1) 3), (some (22, false), .load 24 (S 23) false 1), (some (22, false), .call 25 25 [(S 24)]), (some (22, false), .un 26 .not (S 25)), (none, .pick 27 (S 22) (KB true) (S 26))]) (.cond (S 27) (.seq (.reg [(none, .mv 2 (KS []))]) .ret) .skip)) (.seq (.drw [(some [31, 34, 37], (none, .mv 28 (S 3))), (some [], (none, .faddr 29 (S 1) 1)), (some [], (none, .load 30 (S 29) false 1)), (some [], (none, .call 31 27 [(S 30)])), (some [31], (none, .faddr 32 (S 1) 2)), (some [31], (none, .load 33 (S 32) false 1)), (some [], (none, .call 34 27 [(S 33)])), (some [31, 34], (none, .faddr 35 (S 1) 3)), (some [31, 34], (none, .load 36 (S 35) false 1)), (some [], (none, .call 37 27 [(S 36)])), (some [], (none, .bslice 38 1 [.str []] 4 [(0, (S 28)), (1, (S 31)), (2, (S 34)), (3, (S 37))])), (some [], (none, .call 39 26 [(S 38), (KS [32])])), (some [], (none, .mv 4 (S 39)))]) (.seq (.reg [(none, .mv 40 (S 4)), (none, .bin 41 .add (S 40) (KS [32, 35])), (none, .mv 42 (S 4)), (none, .call 43 28 [(S 42)]), (none, .call 44 27 [(S 43)]), (none, .bin 45 .add (S 41) (S 44)), (none, .mv 2 (S 45))]) .ret)))))
theorem e_impl_FormatEntry : entry Tryz.prog 10 = some (c_impl_FormatEntry.strip, [2], 46) := by kernel_rfl
theorem w_impl_FormatEntry (a0 : XEntry) (r : (List UInt8)) (h : f_impl_FormatEntry a0 = some r) : FC Tryz.prog 10 [.ag (XEntry.row a0)] [.sc (.v (.str r))] := by
  unfold f_impl_FormatEntry at h
  refine FC_go (σ := ⟨[(0, va [aI a0.Kind, aI a0.At, aI a0.Call, aI a0.Value])], [], []⟩) mixed e_impl_FormatEntry rfl rfl ?_
  simp only [c_impl_FormatEntry]
  try simp only [Nat.reduceBEq, Nat.reduceMul, Nat.reduceAdd, Nat.reduceDiv, Int.reduceBEq, rules2, rulesX, rowsX]
  refine go_bx rfl rfl rfl ?_
  obtain ⟨r1, hr1, h⟩ := ob h
  try simp only [Nat.reduceBEq, Nat.reduceMul, Nat.reduceAdd, Nat.reduceDiv, Int.reduceBEq, rules2, rulesX, rowsX]
  refine go_callI (w_impl_entryName _ _ hr1) rfl rfl (Nat.le_of_ble_eq_true rfl) ?_
  rcases Bool.eq_false_or_eq_true (r1 == ([] : List UInt8)) with hb2 | hb2
  · rw [ite_t hb2] at h
    try simp only [hb2, Nat.reduceBEq, Nat.reduceMul, Nat.reduceAdd, Nat.reduceDiv, Int.reduceBEq, rules2, rulesX, rowsX]
    cases h
    exact ⟨⟨rfl, trivial⟩, rfl⟩
  · rw [ite_f hb2] at h
    obtain ⟨r3, hr3, h⟩ := ob h
    try simp only [hb2, Nat.reduceBEq, Nat.reduceMul, Nat.reduceAdd, Nat.reduceDiv, Int.reduceBEq, rules2, rulesX, rowsX]
    refine go_callI (w_impl_isMinute _ _ hr3) rfl rfl (Nat.le_of_ble_eq_true rfl) ?_
    rcases Bool.eq_false_or_eq_true r3 with hb4 | hb4
    · rw [ite_t hb4] at h
      obtain ⟨r5, hr5, h⟩ := ob h
      try simp only [hb2, hb4, Nat.reduceBEq, Nat.reduceMul, Nat.reduceAdd, Nat.reduceDiv, Int.reduceBEq, rules2, rulesX, rowsX]
      refine go_callI (w_impl_isMinute _ _ hr5) rfl rfl (Nat.le_of_ble_eq_true rfl) ?_
      rcases Bool.eq_false_or_eq_true r5 with hb6 | hb6
      · rw [ite_t hb6] at h
        obtain ⟨r7, hr7, h⟩ := ob h
        try simp only [hb2, hb4, hb6, Nat.reduceBEq, Nat.reduceMul, Nat.reduceAdd, Nat.reduceDiv, Int.reduceBEq, rules2, rulesX, rowsX]
        refine go_callI (w_impl_isMinute _ _ hr7) rfl rfl (Nat.le_of_ble_eq_true rfl) ?_
        rcases Bool.eq_false_or_eq_true r7 with hb8 | hb8
        · rw [ite_t hb8] at h
          try simp only [hb2, hb4, hb6, hb8, Nat.reduceBEq, Nat.reduceMul, Nat.reduceAdd, Nat.reduceDiv, Int.reduceBEq, rules2, rulesX, rowsX]
          refine go_fr_of rfl ?_
          obtain ⟨r9, hr9, h⟩ := ob h
          try simp only [hb2, hb4, hb6, hb8, Nat.reduceBEq, Nat.reduceMul, Nat.reduceAdd, Nat.reduceDiv, Int.reduceBEq, rules2, rulesX, rowsX]
          refine go_dcallI (w_impl_FormatInt _ _ hr9) rfl rfl (Nat.le_of_ble_eq_true rfl) ?_
          obtain ⟨r10, hr10, h⟩ := ob h
          try simp only [hb2, hb4, hb6, hb8, Nat.reduceBEq, Nat.reduceMul, Nat.reduceAdd, Nat.reduceDiv, Int.reduceBEq, rules2, rulesX, rowsX]
          refine go_dcallI (w_impl_FormatInt _ _ hr10) rfl rfl (Nat.le_of_ble_eq_true rfl) ?_
          obtain ⟨r11, hr11, h⟩ := ob h
          try simp only [hb2, hb4, hb6, hb8, Nat.reduceBEq, Nat.reduceMul, Nat.reduceAdd, Nat.reduceDiv, Int.reduceBEq, rules2, rulesX, rowsX]
          refine go_dcallI (w_impl_FormatInt _ _ hr11) rfl rfl (Nat.le_of_ble_eq_true rfl) ?_
          try simp only [hb2, hb4, hb6, hb8, Nat.reduceBEq, Nat.reduceMul, Nat.reduceAdd, Nat.reduceDiv, Int.reduceBEq, rules2, rulesX, rowsX]
          refine go_bsl (es := List.map rS ([r1, r9, r10, r11] : List (List UInt8))) rfl rfl ?_
          obtain ⟨r12, hr12, h⟩ := ob h
          try simp only [hb2, hb4, hb6, hb8, Nat.reduceBEq, Nat.reduceMul, Nat.reduceAdd, Nat.reduceDiv, Int.reduceBEq, rules2, rulesX, rowsX]
          refine go_dcall (w_impl_Join _ _ _ hr12) (by first | rfl | kernel_rfl) (flat_of rfl) rfl (Nat.le_of_ble_eq_true rfl) ?_
          obtain ⟨hg13, h⟩ := of_guard h
          obtain ⟨r14, hr14, h⟩ := ob h
          try simp only [hb2, hb4, hb6, hb8, hg13, Nat.reduceBEq, Nat.reduceMul, Nat.reduceAdd, Nat.reduceDiv, Int.reduceBEq, rules2, rulesX, rowsX]
          refine go_callI (w_impl_SumOfText _ _ hr14) rfl rfl (Nat.le_of_ble_eq_true rfl) ?_
          obtain ⟨r15, hr15, h⟩ := ob h
          try simp only [hb2, hb4, hb6, hb8, hg13, Nat.reduceBEq, Nat.reduceMul, Nat.reduceAdd, Nat.reduceDiv, Int.reduceBEq, rules2, rulesX, rowsX]
          refine go_callI (w_impl_FormatInt _ _ hr15) rfl rfl (Nat.le_of_ble_eq_true rfl) ?_
          obtain ⟨hg16, h⟩ := of_guard h
          try simp only [hb2, hb4, hb6, hb8, hg13, hg16, Nat.reduceBEq, Nat.reduceMul, Nat.reduceAdd, Nat.reduceDiv, Int.reduceBEq, rules2, rulesX, rowsX]
          cases h
          exact ⟨⟨rfl, trivial⟩, rfl⟩
        · rw [ite_f hb8] at h
          try simp only [hb2, hb4, hb6, hb8, Nat.reduceBEq, Nat.reduceMul, Nat.reduceAdd, Nat.reduceDiv, Int.reduceBEq, rules2, rulesX, rowsX]
          cases h
          exact ⟨⟨rfl, trivial⟩, rfl⟩
      · rw [ite_f hb6] at h
        try simp only [hb2, hb4, hb6, Nat.reduceBEq, Nat.reduceMul, Nat.reduceAdd, Nat.reduceDiv, Int.reduceBEq, rules2, rulesX, rowsX]
        cases h
        exact ⟨⟨rfl, trivial⟩, rfl⟩
    · rw [ite_f hb4] at h
      try simp only [hb2, hb4, Nat.reduceBEq, Nat.reduceMul, Nat.reduceAdd, Nat.reduceDiv, Int.reduceBEq, rules2, rulesX, rowsX]
      cases h
      exact ⟨⟨rfl, trivial⟩, rfl⟩
/- 5: impl_JournalText -/
def c_impl_JournalText_1 : ACode := .seq (.reg [(none, .keep [3, 6, 7, 8] [] [])]) (.seq (.reg [(none, .bin 9 .lss (S 8) (S 7))]) (.seq (.cond (S 9) .skip (.exit 0)) (.seq (.block 1 (.seq (.reg [(none, .iaddr 10 (S 6) (S 8) 4), (none, .load 11 (S 10) true 4), (none, .alloc 5 [aI 0, aI 0, aI 0, aI 0]), (none, .store (S 5) (S 11) 4)]) (.reg [(none, .mv 12 (S 3)), (none, .load 13 (S 5) true 4), (none, .call 14 10 [(S 13)]), (none, .bin 15 .add (S 14) (KS [10])), (none, .bin 16 .add (S 12) (S 15)), (none, .mv 3 (S 16))]))) (.reg [(none, .bin 17 .add (S 8) (K 1)), (none, .mv 8 (S 17))]))))
def c_impl_JournalText_n1 : ACode := (.seq (.reg [(none, .mv 18 (S 3)), (none, .mv 2 (S 18))]) .ret)
def c_impl_JournalText : ACode := (.seq (.reg [(none, .mv 2 (KS []))]) (.seq (.reg [(none, .mv 3 (KS []))]) (.seq (.seq (.reg [(none, .mv 6 (S 0)), (none, .len 7 (S 6)), (none, .mv 8 (K 0))]) (.block 0 (.loop c_impl_JournalText_1))) c_impl_JournalText_n1)))
theorem w_impl_JournalText_1 (a0 : List XEntry) : ∀ (n : Nat) (v1 : List UInt8) (v2 : Int) (r : (List UInt8)), f_impl_JournalText_1 a0 n v1 v2 = some r → ∀ σ : St, σ.kept [3, 6, 7, 8] [] [] = ⟨[(3, vc (aS v1)), (6, vc (aL (List.map XEntry.row a0))), (7, vc (aI (a0.length : Int))), (8, vc (aI v2))], [], []⟩ → go Tryz.prog (.code (.loop c_impl_JournalText_1) :: [.blk 0, .code c_impl_JournalText_n1]) (Ret [2] [.sc (.v (.str r))]) .normal (some σ) := by
  intro n
  induction n with
  | zero => intro _ _ r h; cases h
  | succ n ih =>
    intro v1 v2 r h σ hσ
    rw [f_impl_JournalText_1] at h
    refine go_round ?_
    rcases Bool.eq_false_or_eq_true (decide (v2 < (a0.length : Int))) with hb3 | hb3
    · rw [ite_t hb3] at h
      obtain ⟨x4, hx4, h⟩ := ob h
      try simp only [hσ, hb3, hx4, c_impl_JournalText_1, Nat.reduceBEq, Nat.reduceMul, Nat.reduceAdd, Nat.reduceDiv, Int.reduceBEq, rules2, rulesX, rowsX]
      refine go_al rfl rfl ?_
      obtain ⟨r5, hr5, h⟩ := ob h
      try simp only [hb3, hx4, Nat.reduceBEq, Nat.reduceMul, Nat.reduceAdd, Nat.reduceDiv, Int.reduceBEq, rules2, rulesX, rowsX]
      refine go_callI (w_impl_FormatEntry _ _ hr5) rfl rfl (Nat.le_of_ble_eq_true rfl) ?_
      obtain ⟨hg6, h⟩ := of_guard h
      obtain ⟨hg7, h⟩ := of_guard h
      try simp only [hb3, hx4, hg6, hg7, Nat.reduceBEq, Nat.reduceMul, Nat.reduceAdd, Nat.reduceDiv, Int.reduceBEq, rules2, rulesX, rowsX]
      refine ih _ _ _ h _ ?_
      try simp only [hb3, hx4, hg6, hg7, Nat.reduceBEq, Nat.reduceMul, Nat.reduceAdd, Nat.reduceDiv, Int.reduceBEq, rules2, rulesX, rowsX, List.map_nil]
    · rw [ite_f hb3] at h
      try simp only [hσ, hb3, c_impl_JournalText_1, c_impl_JournalText_n1, Nat.reduceBEq, Nat.reduceMul, Nat.reduceAdd, Nat.reduceDiv, Int.reduceBEq, rules2, rulesX, rowsX]
      cases h
      exact ⟨⟨rfl, trivial⟩, rfl⟩
theorem e_impl_JournalText : entry Tryz.prog 5 = some (c_impl_JournalText.strip, [2], 19) := by kernel_rfl
theorem w_impl_JournalText (a0 : List XEntry) (r : (List UInt8)) (h : f_impl_JournalText a0 = some r) : FC Tryz.prog 5 [.sc (.sl (List.map XEntry.row a0))] [.sc (.v (.str r))] := by
  unfold f_impl_JournalText at h
  refine FC_go (σ := ⟨[(0, vc (aL (List.map XEntry.row a0)))], [], []⟩) mixed e_impl_JournalText rfl rfl ?_
  simp only [c_impl_JournalText]
  try simp only [Nat.reduceBEq, Nat.reduceMul, Nat.reduceAdd, Nat.reduceDiv, Int.reduceBEq, rules2, rulesX, rowsX]
  refine w_impl_JournalText_1 _ _ _ _ _ h _ ?_
  try simp only [Nat.reduceBEq, Nat.reduceMul, Nat.reduceAdd, Nat.reduceDiv, Int.reduceBEq, rules2, rulesX, rowsX, List.map_nil]
/- 17: spec_l28New -/
def c_spec_l28New_1 : ACode := .seq (.reg [(none, .keep [1, 5, 6] [8] [])]) (.seq (.seq (.reg [(none, .mv 9 (S 6)), (none, .mv 10 (S 1)), (none, .bin 11 .lss (S 9) (S 10))]) (.cond (S 11) .skip (.exit 0))) (.seq (.block 1 (.reg [(none, .mv 14 (S 5)), (none, .call 15 18 [(S 14)])])) (.reg [(none, .mv 12 (S 6)), (none, .bin 13 .add (S 12) (K 1)), (none, .mv 6 (S 13))])))
def c_spec_l28New_n1 : ACode := (.seq (.reg [(none, .mv 16 (S 5)), (none, .mv 4 (S 16))]) .ret)
def c_spec_l28New : ACode := (.seq (.reg [(none, .mv 4 (.c (.v (.sc .undef))))]) (.seq (.reg [(none, .mv 7 (S 0)), (none, .call 8 16 [(S 7)]), (none, .mv 5 (S 8))]) (.seq (.seq (.reg [(none, .mv 6 (K 0))]) (.block 0 (.loop c_spec_l28New_1))) c_spec_l28New_n1)))
theorem w_spec_l28New_1 (a1 : Int) : ∀ (n : Nat) (v2 : Int) (v3 : List Int) (v4 : Int) (v5 : Int) (r : Xl01Cur), f_spec_l28New_1 a1 n v2 v3 v4 v5 = some r → ∀ σ : St, σ.kept [1, 5, 6] [8] [] = ⟨[(1, vc (aI a1)), (5, vc (.pb 8 0)), (6, vc (aI v2))], [(8, [aL (List.map r8 v3), aI v4, aI v5])], []⟩ → go Tryz.prog (.code (.loop c_spec_l28New_1) :: [.blk 0, .code c_spec_l28New_n1]) (RetN [4] [.sl (List.map r8 r.b), .int .i64 r.i, .int .i64 r.h]) .normal (some σ) := by
  intro n
  induction n with
  | zero => intro _ _ _ _ r h; cases h
  | succ n ih =>
    intro v2 v3 v4 v5 r h σ hσ
    rw [f_spec_l28New_1] at h
    refine go_round ?_
    rcases Bool.eq_false_or_eq_true (decide (v2 < a1)) with hb6 | hb6
    · rw [ite_t hb6] at h
      obtain ⟨r7, hr7, h⟩ := ob h
      try simp only [hσ, hb6, c_spec_l28New_1, Nat.reduceBEq, Nat.reduceMul, Nat.reduceAdd, Nat.reduceDiv, Int.reduceBEq, rules2, rulesX, rowsX]
      refine go_cally (w_spec_l01Byte _ _ hr7) 8 rfl rfl rfl ?_
      try simp only [hb6, Nat.reduceBEq, Nat.reduceMul, Nat.reduceAdd, Nat.reduceDiv, Int.reduceBEq, rules2, rulesX, rowsX]
      refine ih _ _ _ _ _ h _ ?_
      try simp only [hb6, Nat.reduceBEq, Nat.reduceMul, Nat.reduceAdd, Nat.reduceDiv, Int.reduceBEq, rules2, rulesX, rowsX, List.map_nil]
    · rw [ite_f hb6] at h
      try simp only [hσ, hb6, c_spec_l28New_1, c_spec_l28New_n1, Nat.reduceBEq, Nat.reduceMul, Nat.reduceAdd, Nat.reduceDiv, Int.reduceBEq, rules2, rulesX, rowsX]
      cases h
      exact ⟨_, 8, rfl, rfl, rfl, rfl⟩
theorem e_spec_l28New : entry Tryz.prog 17 = some (c_spec_l28New.strip, [4], 17) := by kernel_rfl
theorem w_spec_l28New (a0 : List Int) (a1 : Int) (r : Xl01Cur) (h : f_spec_l28New a0 a1 = some r) : FCn Tryz.prog 17 [.sc (.sl (List.map r8 a0)), .sc (.int .i64 a1)] [.sl (List.map r8 r.b), .int .i64 r.i, .int .i64 r.h] := by
  unfold f_spec_l28New at h
  refine FCn_go (σ := ⟨[(0, vc (aL (List.map r8 a0))), (1, vc (aI a1))], [], []⟩) mixed e_spec_l28New rfl rfl ?_
  simp only [c_spec_l28New]
  obtain ⟨r1, hr1, h⟩ := ob h
  try simp only [Nat.reduceBEq, Nat.reduceMul, Nat.reduceAdd, Nat.reduceDiv, Int.reduceBEq, rules2, rulesX, rowsX]
  refine go_calln (w_spec_l01New _ _ hr1) rfl rfl ?_
  try simp only [Nat.reduceBEq, Nat.reduceMul, Nat.reduceAdd, Nat.reduceDiv, Int.reduceBEq, rules2, rulesX, rowsX]
  refine w_spec_l28New_1 _ _ _ _ _ _ _ h _ ?_
  try simp only [Nat.reduceBEq, Nat.reduceMul, Nat.reduceAdd, Nat.reduceDiv, Int.reduceBEq, rules2, rulesX, rowsX, List.map_nil]
/- 6: spec_MakeNum -/
def c_spec_MakeNum : ACode := (.seq (.reg [(none, .mv 4 (K 0))]) (.seq (.reg [(none, .mv 6 (S 0)), (none, .mv 7 (S 1)), (none, .call 8 17 [(S 6), (S 7)]), (none, .mv 5 (S 8))]) (.seq (.reg [(none, .mv 9 (S 5)), (none, .call 10 18 [(S 9)]), (none, .bin 11 .mul (S 10) (K 256)), (none, .mv 12 (S 5)), (none, .call 13 18 [(S 12)]), (none, .bin 14 .add (S 11) (S 13)), (none, .mv 4 (S 14))]) .ret)))
theorem e_spec_MakeNum : entry Tryz.prog 6 = some (c_spec_MakeNum.strip, [4], 15) := by kernel_rfl
theorem w_spec_MakeNum (a0 : List Int) (a1 : Int) (r : Int) (h : f_spec_MakeNum a0 a1 = some r) : FC Tryz.prog 6 [.sc (.sl (List.map r8 a0)), .sc (.int .i64 a1)] [.sc (.v (.int .i64 r))] := by
  unfold f_spec_MakeNum at h
  refine FC_go (σ := ⟨[(0, vc (aL (List.map r8 a0))), (1, vc (aI a1))], [], []⟩) mixed e_spec_MakeNum rfl rfl ?_
  simp only [c_spec_MakeNum]
  obtain ⟨r1, hr1, h⟩ := ob h
  try simp only [Nat.reduceBEq, Nat.reduceMul, Nat.reduceAdd, Nat.reduceDiv, Int.reduceBEq, rules2, rulesX, rowsX]
  refine go_calln (w_spec_l28New _ _ _ hr1) rfl rfl ?_
  obtain ⟨r2, hr2, h⟩ := ob h
  try simp only [Nat.reduceBEq, Nat.reduceMul, Nat.reduceAdd, Nat.reduceDiv, Int.reduceBEq, rules2, rulesX, rowsX]
  refine go_cally (w_spec_l01Byte _ _ hr2) 8 rfl rfl rfl ?_
  obtain ⟨r3, hr3, h⟩ := ob h
  try simp only [Nat.reduceBEq, Nat.reduceMul, Nat.reduceAdd, Nat.reduceDiv, Int.reduceBEq, rules2, rulesX, rowsX]
  refine go_cally (w_spec_l01Byte _ _ hr3) 8 rfl rfl rfl ?_
  try simp only [Nat.reduceBEq, Nat.reduceMul, Nat.reduceAdd, Nat.reduceDiv, Int.reduceBEq, rules2, rulesX, rowsX]
  cases h
  exact ⟨⟨rfl, trivial⟩, rfl⟩
/- 7: impl_DeskNew -/
def c_impl_DeskNew_1 : ACode := .seq (.reg [(none, .keep [2, 3, 9, 10] [2, 3] [131136, 131200])]) (.seq (.reg [(none, .bin 11 .lss (S 10) (S 9))]) (.seq (.cond (S 11) .skip (.exit 0)) (.seq (.block 1 (.seq (.reg [(none, .faddr 12 (S 3) 1), (none, .load 13 (S 12) false 1), (none, .bslice 14 1 [.int .i64 0] 1 [(0, (K (-1)))]), (none, .app 15 1 8 (S 13) (S 14)), (none, .faddr 16 (S 3) 1), (none, .store (S 16) (S 15) 1)]) (.reg [(none, .faddr 17 (S 3) 2), (none, .load 18 (S 17) false 1), (none, .bslice 19 1 [.bool false] 1 [(0, (KB false))]), (none, .app 20 1 1 (S 18) (S 19)), (none, .faddr 21 (S 3) 2), (none, .store (S 21) (S 20) 1)]))) (.reg [(none, .bin 22 .add (S 10) (K 1)), (none, .mv 10 (S 22))]))))
def c_impl_DeskNew_n1 : ACode := (.seq (.reg [(none, .load 23 (S 3) true 3), (none, .store (S 2) (S 23) 3)]) .ret)
def c_impl_DeskNew : ACode := (.seq (.reg [(none, .alloc 2 [aI 0, .nil, .nil])]) (.seq (.seq (.reg [(none, .mv 4 (S 0)), (none, .call 5 19 [(S 4), (K 0), (K 6)]), (none, .un 6 .not (S 5))]) (.cond (S 6) (.seq (.reg [(none, .build 7 [aI 0, .nil, .nil] []), (none, .store (S 2) (S 7) 3)]) .ret) .skip)) (.seq (.reg [(none, .build 8 [aI 0, .nil, .nil] []), (none, .alloc 3 [aI 0, .nil, .nil]), (none, .store (S 3) (S 8) 3), (none, .ownb 3 1 131136 1), (none, .ownb 3 2 131200 1)]) (.seq (.seq (.reg [(none, .mv 9 (S 0)), (none, .mv 10 (K 0))]) (.block 0 (.loop c_impl_DeskNew_1))) c_impl_DeskNew_n1))))
theorem w_impl_DeskNew_1 (a0 : Int) : ∀ (n : Nat) (v3 : Int) (v4 : List Int) (v5 : List Bool) (r : XDesk), f_impl_DeskNew_1 a0 n v3 v4 v5 = some r → ∀ σ : St, σ.kept [2, 3, 9, 10] [2, 3] [131136, 131200] = ⟨[(2, vc (.pb 2 0)), (3, vc (.pb 3 0)), (9, vc (aI a0)), (10, vc (aI v3))], [(2, [aI (0 : Int), .nil, .nil]), (3, [aI (0 : Int), .own 131136, .own 131200])], [(131136, 1, List.map rI v4), (131200, 1, List.map rB v5)]⟩ → go Tryz.prog (.code (.loop c_impl_DeskNew_1) :: [.blk 0, .code c_impl_DeskNew_n1]) (Ret [.c 2 true 3] [.ag [.v (.int .i64 r.Now), .o 1 (List.map rI r.Starts), .o 1 (List.map rB r.Cleared)]]) .normal (some σ) := by
  intro n
  induction n with
  | zero => intro _ _ _ r h; cases h
  | succ n ih =>
    intro v3 v4 v5 r h σ hσ
    rw [f_impl_DeskNew_1] at h
    refine go_round ?_
    rcases Bool.eq_false_or_eq_true (decide (v3 < a0)) with hb6 | hb6
    · rw [ite_t hb6] at h
      try simp only [hσ, hb6, c_impl_DeskNew_1, Nat.reduceBEq, Nat.reduceMul, Nat.reduceAdd, Nat.reduceDiv, Int.reduceBEq, rules2, rulesX, rowsX]
      refine go_bsl (es := List.map rI ([(-1 : Int)] : List Int)) rfl rfl ?_
      obtain ⟨hg7, h⟩ := of_guard h
      try simp only [hb6, hg7, Nat.reduceBEq, Nat.reduceMul, Nat.reduceAdd, Nat.reduceDiv, Int.reduceBEq, rules2, rulesX, rowsX]
      refine go_bsl (es := List.map rB ([false] : List Bool)) rfl rfl ?_
      obtain ⟨hg8, h⟩ := of_guard h
      try simp only [hb6, hg7, hg8, Nat.reduceBEq, Nat.reduceMul, Nat.reduceAdd, Nat.reduceDiv, Int.reduceBEq, rules2, rulesX, rowsX]
      refine ih _ _ _ _ h _ ?_
      try simp only [hb6, hg7, hg8, Nat.reduceBEq, Nat.reduceMul, Nat.reduceAdd, Nat.reduceDiv, Int.reduceBEq, rules2, rulesX, rowsX, List.map_nil]
    · rw [ite_f hb6] at h
      try simp only [hσ, hb6, c_impl_DeskNew_1, c_impl_DeskNew_n1, Nat.reduceBEq, Nat.reduceMul, Nat.reduceAdd, Nat.reduceDiv, Int.reduceBEq, rules2, rulesX, rowsX]
      cases h
      try simp only [rulesR, Nat.reduceBEq, Nat.reduceMul, Nat.reduceAdd, Nat.reduceDiv, Int.reduceBEq, rules2, rulesX, rowsX]
      exact ⟨⟨⟨rfl, rfl, rfl, trivial⟩, trivial⟩, rfl⟩
theorem e_impl_DeskNew : entry Tryz.prog 7 = some (c_impl_DeskNew.strip, [.c 2 true 3], 24) := by kernel_rfl
theorem w_impl_DeskNew (a0 : Int) (r : XDesk) (h : f_impl_DeskNew a0 = some r) : FC Tryz.prog 7 [.sc (.int .i64 a0)] [.ag [.v (.int .i64 r.Now), .o 1 (List.map rI r.Starts), .o 1 (List.map rB r.Cleared)]] := by
  unfold f_impl_DeskNew at h
  refine FC_go (σ := ⟨[(0, vc (aI a0))], [], []⟩) mixed e_impl_DeskNew rfl rfl ?_
  simp only [c_impl_DeskNew]
  try simp only [Nat.reduceBEq, Nat.reduceMul, Nat.reduceAdd, Nat.reduceDiv, Int.reduceBEq, rules2, rulesX, rowsX]
  refine go_al rfl rfl ?_
  obtain ⟨r1, hr1, h⟩ := ob h
  try simp only [Nat.reduceBEq, Nat.reduceMul, Nat.reduceAdd, Nat.reduceDiv, Int.reduceBEq, rules2, rulesX, rowsX]
  refine go_callI (w_impl_within _ _ _ _ hr1) rfl rfl (Nat.le_of_ble_eq_true rfl) ?_
  rcases Bool.eq_false_or_eq_true r1 with hb2 | hb2
  · rw [ite_t hb2] at h
    try simp only [hb2, Nat.reduceBEq, Nat.reduceMul, Nat.reduceAdd, Nat.reduceDiv, Int.reduceBEq, rules2, rulesX, rowsX]
    refine go_al rfl rfl ?_
    try simp only [hb2, Nat.reduceBEq, Nat.reduceMul, Nat.reduceAdd, Nat.reduceDiv, Int.reduceBEq, rules2, rulesX, rowsX]
    refine go_ownb' (cs' := [aI (0 : Int), .own 131136, .nil]) rfl rfl rfl rfl ?_
    try simp only [hb2, Nat.reduceBEq, Nat.reduceMul, Nat.reduceAdd, Nat.reduceDiv, Int.reduceBEq, rules2, rulesX, rowsX]
    refine go_ownb' (cs' := [aI (0 : Int), .own 131136, .own 131200]) rfl rfl rfl rfl ?_
    try simp only [hb2, Nat.reduceBEq, Nat.reduceMul, Nat.reduceAdd, Nat.reduceDiv, Int.reduceBEq, rules2, rulesX, rowsX]
    refine w_impl_DeskNew_1 _ _ _ _ _ _ h _ ?_
    try simp only [hb2, Nat.reduceBEq, Nat.reduceMul, Nat.reduceAdd, Nat.reduceDiv, Int.reduceBEq, rules2, rulesX, rowsX, List.map_nil]
  · rw [ite_f hb2] at h
    try simp only [hb2, Nat.reduceBEq, Nat.reduceMul, Nat.reduceAdd, Nat.reduceDiv, Int.reduceBEq, rules2, rulesX, rowsX]
    cases h
    try simp only [rulesR, Nat.reduceBEq, Nat.reduceMul, Nat.reduceAdd, Nat.reduceDiv, Int.reduceBEq, rules2, rulesX, rowsX]
    exact ⟨⟨⟨rfl, rfl, rfl, trivial⟩, trivial⟩, rfl⟩
/- 36: impl_clone_int -/
def c_impl_clone_int : ACode := (.seq (.reg [(none, .mv 2 KN)]) (.seq (.reg [(none, .mv 3 (S 0)), (none, .len 4 (S 3)), (none, .mksl 5 1 8 [.int .i64 0] (K 0) (S 4)), (none, .mv 6 (S 0)), (none, .app 7 1 8 (S 5) (S 6)), (none, .mv 2 (S 7))]) .ret))
theorem e_impl_clone_int : entry Tryz.prog 36 = some (c_impl_clone_int.strip, [2], 8) := by kernel_rfl
theorem w_impl_clone_int (a0 : List Int) (r : (List Int)) (h : f_impl_clone_int a0 = some r) : FC Tryz.prog 36 [.sc (.sl (List.map rI a0))] [.sc (.o 1 (List.map rI r))] := by
  unfold f_impl_clone_int at h
  refine FC_go (σ := ⟨[(0, vc (aL (List.map rI a0)))], [], []⟩) mixed e_impl_clone_int rfl rfl ?_
  simp only [c_impl_clone_int]
  obtain ⟨n1, hn1, h⟩ := ob h
  try simp only [Nat.reduceBEq, Nat.reduceMul, Nat.reduceAdd, Nat.reduceDiv, Int.reduceBEq, rules2, rulesX, rowsX]
  refine go_mks (es := List.map rI (List.replicate n1 (0 : Int))) rfl rfl hn1 rfl (rep_map rfl) rfl ?_
  obtain ⟨hg2, h⟩ := of_guard h
  try simp only [hg2, Nat.reduceBEq, Nat.reduceMul, Nat.reduceAdd, Nat.reduceDiv, Int.reduceBEq, rules2, rulesX, rowsX]
  cases h
  exact ⟨⟨rfl, trivial⟩, rfl⟩
/- 37: impl_clone_bool -/
def c_impl_clone_bool : ACode := (.seq (.reg [(none, .mv 2 KN)]) (.seq (.reg [(none, .mv 3 (S 0)), (none, .len 4 (S 3)), (none, .mksl 5 1 1 [.bool false] (K 0) (S 4)), (none, .mv 6 (S 0)), (none, .app 7 1 1 (S 5) (S 6)), (none, .mv 2 (S 7))]) .ret))
theorem e_impl_clone_bool : entry Tryz.prog 37 = some (c_impl_clone_bool.strip, [2], 8) := by kernel_rfl
theorem w_impl_clone_bool (a0 : List Bool) (r : (List Bool)) (h : f_impl_clone_bool a0 = some r) : FC Tryz.prog 37 [.sc (.sl (List.map rB a0))] [.sc (.o 1 (List.map rB r))] := by
  unfold f_impl_clone_bool at h
  refine FC_go (σ := ⟨[(0, vc (aL (List.map rB a0)))], [], []⟩) mixed e_impl_clone_bool rfl rfl ?_
  simp only [c_impl_clone_bool]
  obtain ⟨n1, hn1, h⟩ := ob h
  try simp only [Nat.reduceBEq, Nat.reduceMul, Nat.reduceAdd, Nat.reduceDiv, Int.reduceBEq, rules2, rulesX, rowsX]
  refine go_mks (es := List.map rB (List.replicate n1 false)) rfl rfl hn1 rfl (rep_map rfl) rfl ?_
  obtain ⟨hg2, h⟩ := of_guard h
  try simp only [hg2, Nat.reduceBEq, Nat.reduceMul, Nat.reduceAdd, Nat.reduceDiv, Int.reduceBEq, rules2, rulesX, rowsX]
  cases h
  exact ⟨⟨rfl, trivial⟩, rfl⟩
/- 20: impl_copyDesk -/
def c_impl_copyDesk : ACode := (.seq (.reg [(none, .box 1 (S 0)), (none, .alloc 2 [aI 0, .nil, .nil])]) (.seq (.drw [(some [7, 10], (none, .faddr 3 (S 1) 0)), (some [7, 10], (none, .load 4 (S 3) false 1)), (some [], (none, .faddr 5 (S 1) 1)), (some [], (none, .load 6 (S 5) false 1)), (some [], (none, .call 7 36 [(S 6)])), (some [7], (none, .faddr 8 (S 1) 2)), (some [7], (none, .load 9 (S 8) false 1)), (some [], (none, .call 10 37 [(S 9)])), (some [], (none, .build 11 [aI 0, .nil, .nil] [(0, 1, (S 4)), (1, 1, (S 7)), (2, 1, (S 10))])), (none, (none, .store (S 2) (S 11) 3))]) .ret))
theorem e_impl_copyDesk : entry Tryz.prog 20 = some (c_impl_copyDesk.strip, [.c 2 true 3], 12) := by kernel_rfl
theorem w_impl_copyDesk (a0 : XDesk) (r : XDesk) (h : f_impl_copyDesk a0 = some r) : FC Tryz.prog 20 [.ag (XDesk.row a0)] [.ag [.v (.int .i64 r.Now), .o 1 (List.map rI r.Starts), .o 1 (List.map rB r.Cleared)]] := by
  unfold f_impl_copyDesk at h
  refine FC_go (σ := ⟨[(0, va [aI a0.Now, aL (List.map rI a0.Starts), aL (List.map rB a0.Cleared)])], [], []⟩) mixed e_impl_copyDesk rfl rfl ?_
  simp only [c_impl_copyDesk]
  try simp only [Nat.reduceBEq, Nat.reduceMul, Nat.reduceAdd, Nat.reduceDiv, Int.reduceBEq, rules2, rulesX, rowsX]
  refine go_bx rfl rfl rfl ?_
  try simp only [Nat.reduceBEq, Nat.reduceMul, Nat.reduceAdd, Nat.reduceDiv, Int.reduceBEq, rules2, rulesX, rowsX]
  refine go_al rfl rfl ?_
  try simp only [Nat.reduceBEq, Nat.reduceMul, Nat.reduceAdd, Nat.reduceDiv, Int.reduceBEq, rules2, rulesX, rowsX]
  refine go_fr_of rfl ?_
  obtain ⟨r1, hr1, h⟩ := ob h
  try simp only [Nat.reduceBEq, Nat.reduceMul, Nat.reduceAdd, Nat.reduceDiv, Int.reduceBEq, rules2, rulesX, rowsX]
  refine go_dcallI (w_impl_clone_int _ _ hr1) rfl rfl (Nat.le_of_ble_eq_true rfl) ?_
  obtain ⟨r2, hr2, h⟩ := ob h
  try simp only [Nat.reduceBEq, Nat.reduceMul, Nat.reduceAdd, Nat.reduceDiv, Int.reduceBEq, rules2, rulesX, rowsX]
  refine go_dcallI (w_impl_clone_bool _ _ hr2) rfl rfl (Nat.le_of_ble_eq_true rfl) ?_
  try simp only [Nat.reduceBEq, Nat.reduceMul, Nat.reduceAdd, Nat.reduceDiv, Int.reduceBEq, rules2, rulesX, rowsX]
  refine go_fr_of rfl ?_
  try simp only [Nat.reduceBEq, Nat.reduceMul, Nat.reduceAdd, Nat.reduceDiv, Int.reduceBEq, rules2, rulesX, rowsX]
  cases h
  try simp only [rulesR, Nat.reduceBEq, Nat.reduceMul, Nat.reduceAdd, Nat.reduceDiv, Int.reduceBEq, rules2, rulesX, rowsX]
  exact ⟨⟨⟨rfl, rfl, rfl, trivial⟩, trivial⟩, rfl⟩
/- 11: impl_DeskOk -/
def c_impl_DeskOk_1 : ACode := .seq (.reg [(none, .keep [1, 25, 26, 27] [1] [])]) (.seq (.reg [(none, .bin 28 .lss (S 27) (S 26))]) (.seq (.cond (S 28) .skip (.exit 0)) (.seq (.block 1 (.seq (.reg [(none, .mv 29 (S 27)), (none, .iaddr 30 (S 25) (S 27) 1), (none, .load 31 (S 30) false 1), (none, .mv 3 (S 29)), (none, .mv 4 (S 31))]) (.seq (.reg [(none, .mv 32 (S 4)), (none, .call 33 19 [(S 32), (K (-1)), (K 2880)]), (none, .un 34 .not (S 33)), (none, .mv 35 (S 34)), (some (35, false), .faddr 36 (S 1) 2), (some (35, false), .load 37 (S 36) false 1), (some (35, false), .mv 38 (S 3)), (some (35, false), .iaddr 39 (S 37) (S 38) 1), (some (35, false), .load 40 (S 39) false 1), (some (35, false), .mv 41 (S 40)), (some (41, true), .mv 42 (S 4)), (some (41, true), .bin 43 .lss (S 42) (K 0)), (some (35, false), .pick 44 (S 41) (S 43) (KB false)), (none, .pick 45 (S 35) (KB true) (S 44))]) (.cond (S 45) (.seq (.reg [(none, .mv 2 (KB false))]) .ret) .skip)))) (.reg [(none, .bin 46 .add (S 27) (K 1)), (none, .mv 27 (S 46))]))))
def c_impl_DeskOk_n1 : ACode := (.seq (.reg [(none, .mv 2 (KB true))]) .ret)
def c_impl_DeskOk : ACode := (.seq (.reg [(none, .box 1 (S 0)), (none, .mv 2 (KB false))]) (.seq (.seq (.reg [(none, .faddr 5 (S 1) 0), (none, .load 6 (S 5) false 1), (none, .call 7 25 [(S 6)]), (none, .un 8 .not (S 7)), (none, .mv 9 (S 8)), (some (9, false), .faddr 10 (S 1) 1), (some (9, false), .load 11 (S 10) false 1), (some (9, false), .len 12 (S 11)), (some (9, false), .bin 13 .gtr (S 12) (K 6)), (none, .pick 14 (S 9) (KB true) (S 13)), (none, .mv 15 (S 14)), (some (15, false), .faddr 16 (S 1) 2), (some (15, false), .load 17 (S 16) false 1), (some (15, false), .len 18 (S 17)), (some (15, false), .faddr 19 (S 1) 1), (some (15, false), .load 20 (S 19) false 1), (some (15, false), .len 21 (S 20)), (some (15, false), .bin 22 .neq (S 18) (S 21)), (none, .pick 23 (S 15) (KB true) (S 22))]) (.cond (S 23) (.seq (.reg [(none, .mv 2 (KB false))]) .ret) .skip)) (.seq (.seq (.reg [(none, .faddr 24 (S 1) 1), (none, .load 25 (S 24) false 1), (none, .len 26 (S 25)), (none, .mv 27 (K 0))]) (.block 0 (.loop c_impl_DeskOk_1))) c_impl_DeskOk_n1)))
theorem w_impl_DeskOk_1 (a0 : XDesk) : ∀ (n : Nat) (v5 : Int) (r : Bool), f_impl_DeskOk_1 a0 n v5 = some r → ∀ σ : St, σ.kept [1, 25, 26, 27] [1] [] = ⟨[(1, vc (.pb 1 0)), (25, vc (aL (List.map rI a0.Starts))), (26, vc (aI (a0.Starts.length : Int))), (27, vc (aI v5))], [(1, [aI a0.Now, aL (List.map rI a0.Starts), aL (List.map rB a0.Cleared)])], []⟩ → go Tryz.prog (.code (.loop c_impl_DeskOk_1) :: [.blk 0, .code c_impl_DeskOk_n1]) (Ret [2] [.sc (.v (.bool r))]) .normal (some σ) := by
  intro n
  induction n with
  | zero => intro _ r h; cases h
  | succ n ih =>
    intro v5 r h σ hσ
    rw [f_impl_DeskOk_1] at h
    refine go_round ?_
    rcases Bool.eq_false_or_eq_true (decide (v5 < (a0.Starts.length : Int))) with hb6 | hb6
    · rw [ite_t hb6] at h
      obtain ⟨x7, hx7, h⟩ := ob h
      obtain ⟨r9, hr9, h⟩ := ob h
      try simp only [hσ, hb6, hx7, c_impl_DeskOk_1, Nat.reduceBEq, Nat.reduceMul, Nat.reduceAdd, Nat.reduceDiv, Int.reduceBEq, rules2, rulesX, rowsX]
      refine go_callI (w_impl_within _ _ _ _ hr9) rfl rfl (Nat.le_of_ble_eq_true rfl) ?_
      rcases Bool.eq_false_or_eq_true r9 with hb10 | hb10
      · rw [ite_t hb10] at h
        obtain ⟨x11, hx11, h⟩ := ob h
        rcases Bool.eq_false_or_eq_true x11 with hb12 | hb12
        · rw [ite_t hb12] at h
          rcases Bool.eq_false_or_eq_true (decide (x7 < (0 : Int))) with hb13 | hb13
          · rw [ite_t hb13] at h
            try simp only [hb6, hx7, hb10, hx11, hb12, hb13, Nat.reduceBEq, Nat.reduceMul, Nat.reduceAdd, Nat.reduceDiv, Int.reduceBEq, rules2, rulesX, rowsX]
            cases h
            exact ⟨⟨rfl, trivial⟩, rfl⟩
          · rw [ite_f hb13] at h
            try simp only [hb6, hx7, hb10, hx11, hb12, hb13, Nat.reduceBEq, Nat.reduceMul, Nat.reduceAdd, Nat.reduceDiv, Int.reduceBEq, rules2, rulesX, rowsX]
            refine ih _ _ h _ ?_
            try simp only [hb6, hx7, hb10, hx11, hb12, hb13, Nat.reduceBEq, Nat.reduceMul, Nat.reduceAdd, Nat.reduceDiv, Int.reduceBEq, rules2, rulesX, rowsX, List.map_nil]
        · rw [ite_f hb12] at h
          try simp only [hb6, hx7, hb10, hx11, hb12, Nat.reduceBEq, Nat.reduceMul, Nat.reduceAdd, Nat.reduceDiv, Int.reduceBEq, rules2, rulesX, rowsX]
          refine ih _ _ h _ ?_
          try simp only [hb6, hx7, hb10, hx11, hb12, Nat.reduceBEq, Nat.reduceMul, Nat.reduceAdd, Nat.reduceDiv, Int.reduceBEq, rules2, rulesX, rowsX, List.map_nil]
      · rw [ite_f hb10] at h
        try simp only [hb6, hx7, hb10, Nat.reduceBEq, Nat.reduceMul, Nat.reduceAdd, Nat.reduceDiv, Int.reduceBEq, rules2, rulesX, rowsX]
        cases h
        exact ⟨⟨rfl, trivial⟩, rfl⟩
    · rw [ite_f hb6] at h
      try simp only [hσ, hb6, c_impl_DeskOk_1, c_impl_DeskOk_n1, Nat.reduceBEq, Nat.reduceMul, Nat.reduceAdd, Nat.reduceDiv, Int.reduceBEq, rules2, rulesX, rowsX]
      cases h
      exact ⟨⟨rfl, trivial⟩, rfl⟩
theorem e_impl_DeskOk : entry Tryz.prog 11 = some (c_impl_DeskOk.strip, [2], 47) := by kernel_rfl
theorem w_impl_DeskOk (a0 : XDesk) (r : Bool) (h : f_impl_DeskOk a0 = some r) : FC Tryz.prog 11 [.ag (XDesk.row a0)] [.sc (.v (.bool r))] := by
  unfold f_impl_DeskOk at h
  refine FC_go (σ := ⟨[(0, va [aI a0.Now, aL (List.map rI a0.Starts), aL (List.map rB a0.Cleared)])], [], []⟩) mixed e_impl_DeskOk rfl rfl ?_
  simp only [c_impl_DeskOk]
  try simp only [Nat.reduceBEq, Nat.reduceMul, Nat.reduceAdd, Nat.reduceDiv, Int.reduceBEq, rules2, rulesX, rowsX]
  refine go_bx rfl rfl rfl ?_
  obtain ⟨r1, hr1, h⟩ := ob h
  try simp only [Nat.reduceBEq, Nat.reduceMul, Nat.reduceAdd, Nat.reduceDiv, Int.reduceBEq, rules2, rulesX, rowsX]
  refine go_callI (w_impl_isMinute _ _ hr1) rfl rfl (Nat.le_of_ble_eq_true rfl) ?_
  rcases Bool.eq_false_or_eq_true r1 with hb2 | hb2
  · rw [ite_t hb2] at h
    rcases Bool.eq_false_or_eq_true (decide ((6 : Int) < (a0.Starts.length : Int))) with hb3 | hb3
    · rw [ite_t hb3] at h
      try simp only [hb2, hb3, Nat.reduceBEq, Nat.reduceMul, Nat.reduceAdd, Nat.reduceDiv, Int.reduceBEq, rules2, rulesX, rowsX]
      cases h
      exact ⟨⟨rfl, trivial⟩, rfl⟩
    · rw [ite_f hb3] at h
      rcases Bool.eq_false_or_eq_true ((a0.Cleared.length : Int) != (a0.Starts.length : Int)) with hb4 | hb4
      · rw [ite_t hb4] at h
        try simp only [hb2, hb3, hb4, Nat.reduceBEq, Nat.reduceMul, Nat.reduceAdd, Nat.reduceDiv, Int.reduceBEq, rules2, rulesX, rowsX]
        cases h
        exact ⟨⟨rfl, trivial⟩, rfl⟩
      · rw [ite_f hb4] at h
        try simp only [hb2, hb3, hb4, Nat.reduceBEq, Nat.reduceMul, Nat.reduceAdd, Nat.reduceDiv, Int.reduceBEq, rules2, rulesX, rowsX]
        refine w_impl_DeskOk_1 _ _ _ _ h _ ?_
        try simp only [hb2, hb3, hb4, Nat.reduceBEq, Nat.reduceMul, Nat.reduceAdd, Nat.reduceDiv, Int.reduceBEq, rules2, rulesX, rowsX, List.map_nil]
  · rw [ite_f hb2] at h
    try simp only [hb2, Nat.reduceBEq, Nat.reduceMul, Nat.reduceAdd, Nat.reduceDiv, Int.reduceBEq, rules2, rulesX, rowsX]
    cases h
    exact ⟨⟨rfl, trivial⟩, rfl⟩
/- 38: impl_isIndex -/
def c_impl_isIndex : ACode := (.seq (.reg [(none, .mv 4 (KB false))]) (.seq (.reg [(none, .mv 5 (S 0)), (none, .bin 6 .geq (S 5) (K 0)), (none, .mv 7 (S 6)), (some (7, true), .mv 8 (S 0)), (some (7, true), .mv 9 (S 1)), (some (7, true), .bin 10 .lss (S 8) (S 9)), (none, .pick 11 (S 7) (S 10) (KB false)), (none, .mv 4 (S 11))]) .ret))
theorem e_impl_isIndex : entry Tryz.prog 38 = some (c_impl_isIndex.strip, [4], 12) := by kernel_rfl
theorem w_impl_isIndex (a0 : Int) (a1 : Int) (r : Bool) (h : f_impl_isIndex a0 a1 = some r) : FC Tryz.prog 38 [.sc (.int .i64 a0), .sc (.int .i64 a1)] [.sc (.v (.bool r))] := by
  unfold f_impl_isIndex at h
  refine FC_go (σ := ⟨[(0, vc (aI a0)), (1, vc (aI a1))], [], []⟩) mixed e_impl_isIndex rfl rfl ?_
  simp only [c_impl_isIndex]
  rcases Bool.eq_false_or_eq_true (decide ((0 : Int) ≤ a0)) with hb1 | hb1
  · rw [ite_t hb1] at h
    try simp only [hb1, Nat.reduceBEq, Nat.reduceMul, Nat.reduceAdd, Nat.reduceDiv, Int.reduceBEq, rules2, rulesX, rowsX]
    cases h
    exact ⟨⟨rfl, trivial⟩, rfl⟩
  · rw [ite_f hb1] at h
    try simp only [hb1, Nat.reduceBEq, Nat.reduceMul, Nat.reduceAdd, Nat.reduceDiv, Int.reduceBEq, rules2, rulesX, rowsX]
    cases h
    exact ⟨⟨rfl, trivial⟩, rfl⟩
/- 21: impl_applicable -/
def c_impl_applicable : ACode := (.seq (.reg [(none, .box 2 (S 0)), (none, .box 3 (S 1)), (none, .mv 4 (KB false))]) (.seq (.seq (.reg [(none, .faddr 6 (S 3) 1), (none, .load 7 (S 6) false 1), (none, .faddr 8 (S 2) 0), (none, .load 9 (S 8) false 1), (none, .call 10 19 [(S 7), (S 9), (K 2880)]), (none, .un 11 .not (S 10))]) (.cond (S 11) (.seq (.reg [(none, .mv 4 (KB false))]) .ret) .skip)) (.seq (.seq (.reg [(none, .faddr 12 (S 3) 0), (none, .load 13 (S 12) false 1), (none, .bin 14 .eql (S 13) (K 4))]) (.cond (S 14) (.seq (.reg [(none, .faddr 15 (S 3) 2), (none, .load 16 (S 15) false 1), (none, .bin 17 .eql (S 16) (K 0)), (none, .mv 18 (S 17)), (some (18, true), .faddr 19 (S 3) 3), (some (18, true), .load 20 (S 19) false 1), (some (18, true), .bin 21 .eql (S 20) (K 0)), (none, .pick 22 (S 18) (S 21) (KB false)), (none, .mv 4 (S 22))]) .ret) .skip)) (.seq (.seq (.reg [(none, .faddr 23 (S 3) 2), (none, .load 24 (S 23) false 1), (none, .faddr 25 (S 2) 1), (none, .load 26 (S 25) false 1), (none, .len 27 (S 26)), (none, .call 28 38 [(S 24), (S 27)]), (none, .un 29 .not (S 28)), (none, .mv 30 (S 29)), (some (30, false), .faddr 31 (S 2) 2), (some (30, false), .load 32 (S 31) false 1), (some (30, false), .faddr 33 (S 3) 2), (some (30, false), .load 34 (S 33) false 1), (some (30, false), .iaddr 35 (S 32) (S 34) 1), (some (30, false), .load 36 (S 35) false 1), (none, .pick 37 (S 30) (KB true) (S 36))]) (.cond (S 37) (.seq (.reg [(none, .mv 4 (KB false))]) .ret) .skip)) (.seq (.reg [(none, .faddr 38 (S 2) 1), (none, .load 39 (S 38) false 1), (none, .faddr 40 (S 3) 2), (none, .load 41 (S 40) false 1), (none, .iaddr 42 (S 39) (S 41) 1), (none, .load 43 (S 42) false 1), (none, .mv 5 (S 43))]) (.seq (.seq (.reg [(none, .faddr 44 (S 3) 0), (none, .load 45 (S 44) false 1)]) (.block 0 (.seq (.reg [(none, .bin 47 .eql (S 45) (K 1)), (none, .mv 46 (S 47))]) (.cond (S 46) (.seq (.reg [(none, .faddr 48 (S 3) 3), (none, .load 49 (S 48) false 1), (none, .faddr 50 (S 3) 1), (none, .load 51 (S 50) false 1), (none, .call 52 19 [(S 49), (S 51), (K 2880)]), (none, .mv 4 (S 52))]) .ret) (.seq (.reg [(none, .bin 54 .eql (S 45) (K 2)), (none, .mv 53 (S 54))]) (.cond (S 53) (.seq (.reg [(none, .faddr 55 (S 3) 3), (none, .load 56 (S 55) false 1), (none, .bin 57 .eql (S 56) (K 0)), (none, .mv 58 (S 57)), (some (58, true), .mv 59 (S 5)), (some (58, true), .faddr 60 (S 3) 1), (some (58, true), .load 61 (S 60) false 1), (some (58, true), .bin 62 .geq (S 59) (S 61)), (none, .pick 63 (S 58) (S 62) (KB false)), (none, .mv 4 (S 63))]) .ret) (.seq (.reg [(none, .bin 65 .eql (S 45) (K 3)), (none, .mv 64 (S 65))]) (.cond (S 64) (.seq (.reg [(none, .faddr 66 (S 3) 3), (none, .load 67 (S 66) false 1), (none, .bin 68 .eql (S 67) (K 0)), (none, .mv 69 (S 68)), (some (69, true), .mv 70 (S 5)), (some (69, true), .bin 71 .geq (S 70) (K 0)), (none, .pick 72 (S 69) (S 71) (KB false)), (none, .mv 4 (S 72))]) .ret) .skip)))))))) (.seq (.reg [(none, .mv 4 (KB false))]) .ret)))))))
theorem e_impl_applicable : entry Tryz.prog 21 = some (c_impl_applicable.strip, [4], 73) := by kernel_rfl
theorem w_impl_applicable (a0 : XDesk) (a1 : XEntry) (r : Bool) (h : f_impl_applicable a0 a1 = some r) : FC Tryz.prog 21 [.ag (XDesk.row a0), .ag (XEntry.row a1)] [.sc (.v (.bool r))] := by
  unfold f_impl_applicable at h
  refine FC_go (σ := ⟨[(0, va [aI a0.Now, aL (List.map rI a0.Starts), aL (List.map rB a0.Cleared)]), (1, va [aI a1.Kind, aI a1.At, aI a1.Call, aI a1.Value])], [], []⟩) mixed e_impl_applicable rfl rfl ?_
  simp only [c_impl_applicable]
  try simp only [Nat.reduceBEq, Nat.reduceMul, Nat.reduceAdd, Nat.reduceDiv, Int.reduceBEq, rules2, rulesX, rowsX]
  refine go_bx rfl rfl rfl ?_
  try simp only [Nat.reduceBEq, Nat.reduceMul, Nat.reduceAdd, Nat.reduceDiv, Int.reduceBEq, rules2, rulesX, rowsX]
  refine go_bx rfl rfl rfl ?_
  obtain ⟨r1, hr1, h⟩ := ob h
  try simp only [Nat.reduceBEq, Nat.reduceMul, Nat.reduceAdd, Nat.reduceDiv, Int.reduceBEq, rules2, rulesX, rowsX]
  refine go_callI (w_impl_within _ _ _ _ hr1) rfl rfl (Nat.le_of_ble_eq_true rfl) ?_
  rcases Bool.eq_false_or_eq_true r1 with hb2 | hb2
  · rw [ite_t hb2] at h
    rcases Bool.eq_false_or_eq_true (a1.Kind == (4 : Int)) with hb3 | hb3
    · rw [ite_t hb3] at h
      rcases Bool.eq_false_or_eq_true (a1.Call == (0 : Int)) with hb4 | hb4
      · rw [ite_t hb4] at h
        try simp only [hb2, hb3, hb4, Nat.reduceBEq, Nat.reduceMul, Nat.reduceAdd, Nat.reduceDiv, Int.reduceBEq, rules2, rulesX, rowsX]
        cases h
        exact ⟨⟨rfl, trivial⟩, rfl⟩
      · rw [ite_f hb4] at h
        try simp only [hb2, hb3, hb4, Nat.reduceBEq, Nat.reduceMul, Nat.reduceAdd, Nat.reduceDiv, Int.reduceBEq, rules2, rulesX, rowsX]
        cases h
        exact ⟨⟨rfl, trivial⟩, rfl⟩
    · rw [ite_f hb3] at h
      obtain ⟨r5, hr5, h⟩ := ob h
      try simp only [hb2, hb3, Nat.reduceBEq, Nat.reduceMul, Nat.reduceAdd, Nat.reduceDiv, Int.reduceBEq, rules2, rulesX, rowsX]
      refine go_callI (w_impl_isIndex _ _ _ hr5) rfl rfl (Nat.le_of_ble_eq_true rfl) ?_
      rcases Bool.eq_false_or_eq_true r5 with hb6 | hb6
      · rw [ite_t hb6] at h
        obtain ⟨x7, hx7, h⟩ := ob h
        rcases Bool.eq_false_or_eq_true x7 with hb8 | hb8
        · rw [ite_t hb8] at h
          try simp only [hb2, hb3, hb6, hx7, hb8, Nat.reduceBEq, Nat.reduceMul, Nat.reduceAdd, Nat.reduceDiv, Int.reduceBEq, rules2, rulesX, rowsX]
          cases h
          exact ⟨⟨rfl, trivial⟩, rfl⟩
        · rw [ite_f hb8] at h
          obtain ⟨x9, hx9, h⟩ := ob h
          rcases Bool.eq_false_or_eq_true (a1.Kind == (1 : Int)) with hb10 | hb10
          · rw [ite_t hb10] at h
            obtain ⟨r11, hr11, h⟩ := ob h
            try simp only [hb2, hb3, hb6, hx7, hb8, hx9, hb10, Nat.reduceBEq, Nat.reduceMul, Nat.reduceAdd, Nat.reduceDiv, Int.reduceBEq, rules2, rulesX, rowsX]
            refine go_callI (w_impl_within _ _ _ _ hr11) rfl rfl (Nat.le_of_ble_eq_true rfl) ?_
            try simp only [hb2, hb3, hb6, hx7, hb8, hx9, hb10, Nat.reduceBEq, Nat.reduceMul, Nat.reduceAdd, Nat.reduceDiv, Int.reduceBEq, rules2, rulesX, rowsX]
            cases h
            exact ⟨⟨rfl, trivial⟩, rfl⟩
          · rw [ite_f hb10] at h
            rcases Bool.eq_false_or_eq_true (a1.Kind == (2 : Int)) with hb12 | hb12
            · rw [ite_t hb12] at h
              rcases Bool.eq_false_or_eq_true (a1.Value == (0 : Int)) with hb13 | hb13
              · rw [ite_t hb13] at h
                try simp only [hb2, hb3, hb6, hx7, hb8, hx9, hb10, hb12, hb13, Nat.reduceBEq, Nat.reduceMul, Nat.reduceAdd, Nat.reduceDiv, Int.reduceBEq, rules2, rulesX, rowsX]
                cases h
                exact ⟨⟨rfl, trivial⟩, rfl⟩
              · rw [ite_f hb13] at h
                try simp only [hb2, hb3, hb6, hx7, hb8, hx9, hb10, hb12, hb13, Nat.reduceBEq, Nat.reduceMul, Nat.reduceAdd, Nat.reduceDiv, Int.reduceBEq, rules2, rulesX, rowsX]
                cases h
                exact ⟨⟨rfl, trivial⟩, rfl⟩
            · rw [ite_f hb12] at h
              rcases Bool.eq_false_or_eq_true (a1.Kind == (3 : Int)) with hb14 | hb14
              · rw [ite_t hb14] at h
                rcases Bool.eq_false_or_eq_true (a1.Value == (0 : Int)) with hb15 | hb15
                · rw [ite_t hb15] at h
                  try simp only [hb2, hb3, hb6, hx7, hb8, hx9, hb10, hb12, hb14, hb15, Nat.reduceBEq, Nat.reduceMul, Nat.reduceAdd, Nat.reduceDiv, Int.reduceBEq, rules2, rulesX, rowsX]
                  cases h
                  exact ⟨⟨rfl, trivial⟩, rfl⟩
                · rw [ite_f hb15] at h
                  try simp only [hb2, hb3, hb6, hx7, hb8, hx9, hb10, hb12, hb14, hb15, Nat.reduceBEq, Nat.reduceMul, Nat.reduceAdd, Nat.reduceDiv, Int.reduceBEq, rules2, rulesX, rowsX]
                  cases h
                  exact ⟨⟨rfl, trivial⟩, rfl⟩
              · rw [ite_f hb14] at h
                try simp only [hb2, hb3, hb6, hx7, hb8, hx9, hb10, hb12, hb14, Nat.reduceBEq, Nat.reduceMul, Nat.reduceAdd, Nat.reduceDiv, Int.reduceBEq, rules2, rulesX, rowsX]
                cases h
                exact ⟨⟨rfl, trivial⟩, rfl⟩
      · rw [ite_f hb6] at h
        try simp only [hb2, hb3, hb6, Nat.reduceBEq, Nat.reduceMul, Nat.reduceAdd, Nat.reduceDiv, Int.reduceBEq, rules2, rulesX, rowsX]
        cases h
        exact ⟨⟨rfl, trivial⟩, rfl⟩
  · rw [ite_f hb2] at h
    try simp only [hb2, Nat.reduceBEq, Nat.reduceMul, Nat.reduceAdd, Nat.reduceDiv, Int.reduceBEq, rules2, rulesX, rowsX]
    cases h
    exact ⟨⟨rfl, trivial⟩, rfl⟩
/- 8: impl_ApplyEntry -/
def c_impl_ApplyEntry_1 : ACode := .seq (.reg [(none, .keep [3, 4, 6, 17] [3, 4, 6] [513, 514])]) (.cond (S 17) (.seq (.reg [(none, .load 18 (S 6) true 3), (none, .store (S 4) (S 18) 3), (none, .mv 5 (KB false))]) .ret) .skip)
def c_impl_ApplyEntry_2 : ACode := .seq (.reg [(none, .keep [4, 6] [4, 6] [513, 514])]) (.seq (.reg [(none, .load 47 (S 6) true 3), (none, .store (S 4) (S 47) 3), (none, .mv 5 (KB true))]) .ret)
def c_impl_ApplyEntry_n1 : ACode := (.seq (.reg [(none, .faddr 19 (S 3) 1), (none, .load 20 (S 19) false 1), (none, .faddr 21 (S 6) 0), (none, .store (S 21) (S 20) 1)]) (.seq (.seq (.reg [(none, .faddr 22 (S 3) 0), (none, .load 23 (S 22) false 1)]) (.block 0 (.seq (.reg [(none, .bin 25 .eql (S 23) (K 1)), (none, .mv 24 (S 25))]) (.cond (S 24) (.reg [(none, .faddr 26 (S 6) 1), (none, .load 27 (S 26) false 1), (none, .faddr 28 (S 3) 2), (none, .load 29 (S 28) false 1), (none, .faddr 30 (S 3) 3), (none, .load 31 (S 30) false 1), (none, .iaddr 32 (S 27) (S 29) 1), (none, .store (S 32) (S 31) 1)]) (.seq (.reg [(none, .bin 34 .eql (S 23) (K 2)), (none, .mv 33 (S 34))]) (.cond (S 33) (.reg [(none, .faddr 35 (S 6) 2), (none, .load 36 (S 35) false 1), (none, .faddr 37 (S 3) 2), (none, .load 38 (S 37) false 1), (none, .iaddr 39 (S 36) (S 38) 1), (none, .store (S 39) (KB true) 1)]) (.seq (.reg [(none, .bin 41 .eql (S 23) (K 3)), (none, .mv 40 (S 41))]) (.cond (S 40) (.reg [(none, .faddr 42 (S 6) 1), (none, .load 43 (S 42) false 1), (none, .faddr 44 (S 3) 2), (none, .load 45 (S 44) false 1), (none, .iaddr 46 (S 43) (S 45) 1), (none, .store (S 46) (K (-1)) 1)]) .skip)))))))) c_impl_ApplyEntry_2))
def c_impl_ApplyEntry : ACode := (.seq (.reg [(none, .box 2 (S 0)), (none, .box 3 (S 1)), (none, .alloc 4 [aI 0, .nil, .nil]), (none, .mv 5 (KB false))]) (.seq (.reg [(none, .load 7 (S 2) true 3), (none, .call 8 20 [(S 7)]), (none, .alloc 6 [aI 0, .nil, .nil]), (none, .store (S 6) (S 8) 3)]) (.seq (.seq (.reg [(none, .load 9 (S 2) true 3), (none, .call 10 11 [(S 9)]), (none, .un 11 .not (S 10)), (none, .mv 12 (S 11)), (some (12, false), .load 13 (S 2) true 3), (some (12, false), .load 14 (S 3) true 4), (some (12, false), .call 15 21 [(S 13), (S 14)]), (some (12, false), .un 16 .not (S 15)), (none, .pick 17 (S 12) (KB true) (S 16))]) c_impl_ApplyEntry_1) c_impl_ApplyEntry_n1)))
theorem w_impl_ApplyEntry_2 (a1 : XEntry) (v13 : List Int) (v14 : List Bool) (r : XDesk × Bool) (h : f_impl_ApplyEntry_2 a1 v13 v14 = some r) (σ : St) (hσ : σ.kept [4, 6] [4, 6] [513, 514] = ⟨[(4, vc (.pb 4 0)), (6, vc (.pb 6 0))], [(4, [aI (0 : Int), .nil, .nil]), (6, [aI a1.At, .own 513, .own 514])], [(513, 1, List.map rI v13), (514, 1, List.map rB v14)]⟩) : go Tryz.prog (.code c_impl_ApplyEntry_2 :: []) (Ret [.c 4 true 3, 5] [.ag [.v (.int .i64 r.1.Now), .o 1 (List.map rI r.1.Starts), .o 1 (List.map rB r.1.Cleared)], .sc (.v (.bool r.2))]) .normal (some σ) := by
  unfold f_impl_ApplyEntry_2 at h
  try simp only [hσ, c_impl_ApplyEntry_2, Nat.reduceBEq, Nat.reduceMul, Nat.reduceAdd, Nat.reduceDiv, Int.reduceBEq, rules2, rulesX, rowsX]
  cases h
  try simp only [rulesR, Nat.reduceBEq, Nat.reduceMul, Nat.reduceAdd, Nat.reduceDiv, Int.reduceBEq, rules2, rulesX, rowsX]
  exact ⟨⟨⟨rfl, rfl, rfl, trivial⟩, rfl, trivial⟩, rfl⟩
theorem w_impl_ApplyEntry_1 (a1 : XEntry) (r1 : XDesk) (v5 : Bool) (r : XDesk × Bool) (h : f_impl_ApplyEntry_1 a1 r1 v5 = some r) (σ : St) (hσ : σ.kept [3, 4, 6, 17] [3, 4, 6] [513, 514] = ⟨[(3, vc (.pb 3 0)), (4, vc (.pb 4 0)), (6, vc (.pb 6 0)), (17, vc (aB v5))], [(3, [aI a1.Kind, aI a1.At, aI a1.Call, aI a1.Value]), (4, [aI (0 : Int), .nil, .nil]), (6, [aI r1.Now, .own 513, .own 514])], [(513, 1, List.map rI r1.Starts), (514, 1, List.map rB r1.Cleared)]⟩) : go Tryz.prog (.code c_impl_ApplyEntry_1 :: [.code c_impl_ApplyEntry_n1]) (Ret [.c 4 true 3, 5] [.ag [.v (.int .i64 r.1.Now), .o 1 (List.map rI r.1.Starts), .o 1 (List.map rB r.1.Cleared)], .sc (.v (.bool r.2))]) .normal (some σ) := by
  unfold f_impl_ApplyEntry_1 at h
  rcases Bool.eq_false_or_eq_true v5 with hb6 | hb6
  · rw [ite_t hb6] at h
    try simp only [hσ, hb6, c_impl_ApplyEntry_1, Nat.reduceBEq, Nat.reduceMul, Nat.reduceAdd, Nat.reduceDiv, Int.reduceBEq, rules2, rulesX, rowsX]
    cases h
    try simp only [rulesR, Nat.reduceBEq, Nat.reduceMul, Nat.reduceAdd, Nat.reduceDiv, Int.reduceBEq, rules2, rulesX, rowsX]
    exact ⟨⟨⟨rfl, rfl, rfl, trivial⟩, rfl, trivial⟩, rfl⟩
  · rw [ite_f hb6] at h
    rcases Bool.eq_false_or_eq_true (a1.Kind == (1 : Int)) with hb7 | hb7
    · rw [ite_t hb7] at h
      obtain ⟨x8, hx8, h⟩ := ob h
      have hx8n := ix_get hx8
      try simp only [hσ, hb6, hb7, hx8, c_impl_ApplyEntry_1, c_impl_ApplyEntry_n1, Nat.reduceBEq, Nat.reduceMul, Nat.reduceAdd, Nat.reduceDiv, Int.reduceBEq, rules2, rulesX, rowsX]
      refine go_stp (y := a1.Value) rfl rfl hx8n rfl rfl rfl ?_
      try simp only [hb6, hb7, hx8, Nat.reduceBEq, Nat.reduceMul, Nat.reduceAdd, Nat.reduceDiv, Int.reduceBEq, rules2, rulesX, rowsX]
      refine w_impl_ApplyEntry_2 _ _ _ _ h _ ?_
      try simp only [hb6, hb7, hx8, Nat.reduceBEq, Nat.reduceMul, Nat.reduceAdd, Nat.reduceDiv, Int.reduceBEq, rules2, rulesX, rowsX, List.map_nil]
    · rw [ite_f hb7] at h
      rcases Bool.eq_false_or_eq_true (a1.Kind == (2 : Int)) with hb9 | hb9
      · rw [ite_t hb9] at h
        obtain ⟨x10, hx10, h⟩ := ob h
        have hx10n := ix_get hx10
        try simp only [hσ, hb6, hb7, hb9, hx10, c_impl_ApplyEntry_1, c_impl_ApplyEntry_n1, Nat.reduceBEq, Nat.reduceMul, Nat.reduceAdd, Nat.reduceDiv, Int.reduceBEq, rules2, rulesX, rowsX]
        refine go_stp (y := true) rfl rfl hx10n rfl rfl rfl ?_
        try simp only [hb6, hb7, hb9, hx10, Nat.reduceBEq, Nat.reduceMul, Nat.reduceAdd, Nat.reduceDiv, Int.reduceBEq, rules2, rulesX, rowsX]
        refine w_impl_ApplyEntry_2 _ _ _ _ h _ ?_
        try simp only [hb6, hb7, hb9, hx10, Nat.reduceBEq, Nat.reduceMul, Nat.reduceAdd, Nat.reduceDiv, Int.reduceBEq, rules2, rulesX, rowsX, List.map_nil]
      · rw [ite_f hb9] at h
        rcases Bool.eq_false_or_eq_true (a1.Kind == (3 : Int)) with hb11 | hb11
        · rw [ite_t hb11] at h
          obtain ⟨x12, hx12, h⟩ := ob h
          have hx12n := ix_get hx12
          try simp only [hσ, hb6, hb7, hb9, hb11, hx12, c_impl_ApplyEntry_1, c_impl_ApplyEntry_n1, Nat.reduceBEq, Nat.reduceMul, Nat.reduceAdd, Nat.reduceDiv, Int.reduceBEq, rules2, rulesX, rowsX]
          refine go_stp (y := (-1 : Int)) rfl rfl hx12n rfl rfl rfl ?_
          try simp only [hb6, hb7, hb9, hb11, hx12, Nat.reduceBEq, Nat.reduceMul, Nat.reduceAdd, Nat.reduceDiv, Int.reduceBEq, rules2, rulesX, rowsX]
          refine w_impl_ApplyEntry_2 _ _ _ _ h _ ?_
          try simp only [hb6, hb7, hb9, hb11, hx12, Nat.reduceBEq, Nat.reduceMul, Nat.reduceAdd, Nat.reduceDiv, Int.reduceBEq, rules2, rulesX, rowsX, List.map_nil]
        · rw [ite_f hb11] at h
          try simp only [hσ, hb6, hb7, hb9, hb11, c_impl_ApplyEntry_1, c_impl_ApplyEntry_n1, Nat.reduceBEq, Nat.reduceMul, Nat.reduceAdd, Nat.reduceDiv, Int.reduceBEq, rules2, rulesX, rowsX]
          refine w_impl_ApplyEntry_2 _ _ _ _ h _ ?_
          try simp only [hb6, hb7, hb9, hb11, Nat.reduceBEq, Nat.reduceMul, Nat.reduceAdd, Nat.reduceDiv, Int.reduceBEq, rules2, rulesX, rowsX, List.map_nil]
theorem e_impl_ApplyEntry : entry Tryz.prog 8 = some (c_impl_ApplyEntry.strip, [.c 4 true 3, 5], 48) := by kernel_rfl
theorem w_impl_ApplyEntry (a0 : XDesk) (a1 : XEntry) (r : XDesk × Bool) (h : f_impl_ApplyEntry a0 a1 = some r) : FC Tryz.prog 8 [.ag (XDesk.row a0), .ag (XEntry.row a1)] [.ag [.v (.int .i64 r.1.Now), .o 1 (List.map rI r.1.Starts), .o 1 (List.map rB r.1.Cleared)], .sc (.v (.bool r.2))] := by
  unfold f_impl_ApplyEntry at h
  refine FC_go (σ := ⟨[(0, va [aI a0.Now, aL (List.map rI a0.Starts), aL (List.map rB a0.Cleared)]), (1, va [aI a1.Kind, aI a1.At, aI a1.Call, aI a1.Value])], [], []⟩) mixed e_impl_ApplyEntry rfl rfl ?_
  simp only [c_impl_ApplyEntry]
  try simp only [Nat.reduceBEq, Nat.reduceMul, Nat.reduceAdd, Nat.reduceDiv, Int.reduceBEq, rules2, rulesX, rowsX]
  refine go_bx rfl rfl rfl ?_
  try simp only [Nat.reduceBEq, Nat.reduceMul, Nat.reduceAdd, Nat.reduceDiv, Int.reduceBEq, rules2, rulesX, rowsX]
  refine go_bx rfl rfl rfl ?_
  try simp only [Nat.reduceBEq, Nat.reduceMul, Nat.reduceAdd, Nat.reduceDiv, Int.reduceBEq, rules2, rulesX, rowsX]
  refine go_al rfl rfl ?_
  obtain ⟨r1, hr1, h⟩ := ob h
  try simp only [Nat.reduceBEq, Nat.reduceMul, Nat.reduceAdd, Nat.reduceDiv, Int.reduceBEq, rules2, rulesX, rowsX]
  refine go_callI (w_impl_copyDesk _ _ hr1) rfl rfl (Nat.le_of_ble_eq_true rfl) ?_
  try simp only [Nat.reduceBEq, Nat.reduceMul, Nat.reduceAdd, Nat.reduceDiv, Int.reduceBEq, rules2, rulesX, rowsX]
  refine go_al rfl rfl ?_
  obtain ⟨r2, hr2, h⟩ := ob h
  try simp only [Nat.reduceBEq, Nat.reduceMul, Nat.reduceAdd, Nat.reduceDiv, Int.reduceBEq, rules2, rulesX, rowsX]
  refine go_callI (w_impl_DeskOk _ _ hr2) rfl rfl (Nat.le_of_ble_eq_true rfl) ?_
  rcases Bool.eq_false_or_eq_true r2 with hb3 | hb3
  · rw [ite_t hb3] at h
    obtain ⟨r4, hr4, h⟩ := ob h
    try simp only [hb3, Nat.reduceBEq, Nat.reduceMul, Nat.reduceAdd, Nat.reduceDiv, Int.reduceBEq, rules2, rulesX, rowsX]
    refine go_callI (w_impl_applicable _ _ _ hr4) rfl rfl (Nat.le_of_ble_eq_true rfl) ?_
    try simp only [hb3, Nat.reduceBEq, Nat.reduceMul, Nat.reduceAdd, Nat.reduceDiv, Int.reduceBEq, rules2, rulesX, rowsX]
    refine w_impl_ApplyEntry_1 _ _ _ _ h _ ?_
    try simp only [hb3, Nat.reduceBEq, Nat.reduceMul, Nat.reduceAdd, Nat.reduceDiv, Int.reduceBEq, rules2, rulesX, rowsX, List.map_nil]
  · rw [ite_f hb3] at h
    try simp only [hb3, Nat.reduceBEq, Nat.reduceMul, Nat.reduceAdd, Nat.reduceDiv, Int.reduceBEq, rules2, rulesX, rowsX]
    refine w_impl_ApplyEntry_1 _ _ _ _ h _ ?_
    try simp only [hb3, Nat.reduceBEq, Nat.reduceMul, Nat.reduceAdd, Nat.reduceDiv, Int.reduceBEq, rules2, rulesX, rowsX, List.map_nil]
/- 22: impl_SplitAny -/
def c_impl_SplitAny_2 : ACode := .seq (.reg [(none, .keep [0, 1, 5, 6, 7] [] [512])]) (.reg [(none, .mv 13 (S 7)), (none, .bin 14 .add (S 13) (K 1)), (none, .mv 7 (S 14))])
def c_impl_SplitAny_1 : ACode := .seq (.reg [(none, .keep [0, 1, 5, 6, 7] [] [512])]) (.seq (.seq (.reg [(none, .mv 9 (S 7)), (none, .mv 10 (S 0)), (none, .slen 11 (S 10)), (none, .bin 12 .lss (S 9) (S 11))]) (.cond (S 12) .skip (.exit 0))) (.seq (.block 1 (.seq (.reg [(none, .mv 15 (S 1)), (none, .mv 16 (S 0)), (none, .mv 17 (S 7)), (none, .idx 18 (S 16) (S 17)), (none, .call 19 39 [(S 15), (S 18)]), (none, .bin 20 .geq (S 19) (K 0))]) (.cond (S 20) (.seq (.reg [(none, .mv 21 (S 5)), (none, .mv 22 (S 0)), (none, .mv 23 (S 6)), (none, .mv 24 (S 7)), (none, .sslc 25 (S 22) (some (S 23)) (some (S 24))), (none, .bslice 26 1 [.str []] 1 [(0, (S 25))]), (none, .app 27 1 16 (S 21) (S 26)), (none, .mv 5 (S 27))]) (.reg [(none, .mv 28 (S 7)), (none, .bin 29 .add (S 28) (K 1)), (none, .mv 6 (S 29))])) .skip))) c_impl_SplitAny_2))
def c_impl_SplitAny_n1 : ACode := (.seq (.reg [(none, .mv 30 (S 5)), (none, .mv 31 (S 0)), (none, .mv 32 (S 6)), (none, .sslc 33 (S 31) (some (S 32)) none), (none, .bslice 34 1 [.str []] 1 [(0, (S 33))]), (none, .app 35 1 16 (S 30) (S 34)), (none, .mv 4 (S 35))]) .ret)
def c_impl_SplitAny : ACode := (.seq (.reg [(none, .mv 4 KN)]) (.seq (.reg [(none, .bslice 8 1 [.str []] 0 []), (none, .mv 5 (S 8))]) (.seq (.reg [(none, .mv 6 (K 0))]) (.seq (.seq (.reg [(none, .mv 7 (K 0))]) (.block 0 (.loop c_impl_SplitAny_1))) c_impl_SplitAny_n1))))
theorem w_impl_SplitAny_2 (a0 : List UInt8) (a1 : List UInt8) (v2 : Int) (k_impl_SplitAny_1 : Int → Int → (List (List UInt8)) → Option (List (List UInt8))) (hk_impl_SplitAny_1 : ∀ (v1 : Int) (v2 : Int) (v3 : List (List UInt8)) zr, k_impl_SplitAny_1 v1 v2 v3 = some zr → ∀ σ : St, σ.kept [0, 1, 5, 6, 7] [] [512] = ⟨[(0, vc (aS a0)), (1, vc (aS a1)), (5, vc (.own 512)), (6, vc (aI v1)), (7, vc (aI v2))], [], [(512, 1, List.map rS v3)]⟩ → go Tryz.prog (.code (.loop c_impl_SplitAny_1) :: [.blk 0, .code c_impl_SplitAny_n1]) (Ret [4] [.sc (.o 1 (List.map rS zr))]) .normal (some σ)) (v10 : Int) (v11 : List (List UInt8)) (r : (List (List UInt8))) (h : f_impl_SplitAny_2 a0 a1 v2 k_impl_SplitAny_1 v10 v11 = some r) (σ : St) (hσ : σ.kept [0, 1, 5, 6, 7] [] [512] = ⟨[(0, vc (aS a0)), (1, vc (aS a1)), (5, vc (.own 512)), (6, vc (aI v10)), (7, vc (aI v2))], [], [(512, 1, List.map rS v11)]⟩) : go Tryz.prog (.code c_impl_SplitAny_2 :: [.code (.loop c_impl_SplitAny_1), .blk 0, .code c_impl_SplitAny_n1]) (Ret [4] [.sc (.o 1 (List.map rS r))]) .normal (some σ) := by
  unfold f_impl_SplitAny_2 at h
  try simp only [hσ, c_impl_SplitAny_2, Nat.reduceBEq, Nat.reduceMul, Nat.reduceAdd, Nat.reduceDiv, Int.reduceBEq, rules2, rulesX, rowsX]
  refine hk_impl_SplitAny_1 _ _ _ _ h _ ?_
  try simp only [Nat.reduceBEq, Nat.reduceMul, Nat.reduceAdd, Nat.reduceDiv, Int.reduceBEq, rules2, rulesX, rowsX, List.map_nil]
theorem w_impl_SplitAny_1 (a0 : List UInt8) (a1 : List UInt8) : ∀ (n : Nat) (v1 : Int) (v2 : Int) (v3 : List (List UInt8)) (r : (List (List UInt8))), f_impl_SplitAny_1 a0 a1 n v1 v2 v3 = some r → ∀ σ : St, σ.kept [0, 1, 5, 6, 7] [] [512] = ⟨[(0, vc (aS a0)), (1, vc (aS a1)), (5, vc (.own 512)), (6, vc (aI v1)), (7, vc (aI v2))], [], [(512, 1, List.map rS v3)]⟩ → go Tryz.prog (.code (.loop c_impl_SplitAny_1) :: [.blk 0, .code c_impl_SplitAny_n1]) (Ret [4] [.sc (.o 1 (List.map rS r))]) .normal (some σ) := by
  intro n
  induction n with
  | zero => intro _ _ _ r h; cases h
  | succ n ih =>
    intro v1 v2 v3 r h σ hσ
    rw [f_impl_SplitAny_1] at h
    refine go_round ?_
    rcases Bool.eq_false_or_eq_true (decide (v2 < (a0.length : Int))) with hb4 | hb4
    · rw [ite_t hb4] at h
      obtain ⟨b5, hb5, h⟩ := ob h
      obtain ⟨r6, hr6, h⟩ := ob h
      try simp only [hσ, hb4, hb5, c_impl_SplitAny_1, Nat.reduceBEq, Nat.reduceMul, Nat.reduceAdd, Nat.reduceDiv, Int.reduceBEq, rules2, rulesX, rowsX]
      refine go_callI (w_strings_IndexByte _ _ _ hr6) rfl rfl (Nat.le_of_ble_eq_true rfl) ?_
      rcases Bool.eq_false_or_eq_true (decide ((0 : Int) ≤ r6)) with hb7 | hb7
      · rw [ite_t hb7] at h
        obtain ⟨p8, hp8, h⟩ := ob h
        try simp only [hb4, hb5, hb7, hp8, Nat.reduceBEq, Nat.reduceMul, Nat.reduceAdd, Nat.reduceDiv, Int.reduceBEq, rules2, rulesX, rowsX]
        refine go_bsl (es := List.map rS ([((a0.drop p8.1).take (p8.2 - p8.1))] : List (List UInt8))) rfl rfl ?_
        obtain ⟨hg9, h⟩ := of_guard h
        try simp only [hb4, hb5, hb7, hp8, hg9, Nat.reduceBEq, Nat.reduceMul, Nat.reduceAdd, Nat.reduceDiv, Int.reduceBEq, rules2, rulesX, rowsX]
        refine w_impl_SplitAny_2 _ _ _ (f_impl_SplitAny_1 a0 a1 n) ih _ _ _ h _ ?_
        try simp only [hb4, hb5, hb7, hp8, hg9, Nat.reduceBEq, Nat.reduceMul, Nat.reduceAdd, Nat.reduceDiv, Int.reduceBEq, rules2, rulesX, rowsX, List.map_nil]
      · rw [ite_f hb7] at h
        try simp only [hb4, hb5, hb7, Nat.reduceBEq, Nat.reduceMul, Nat.reduceAdd, Nat.reduceDiv, Int.reduceBEq, rules2, rulesX, rowsX]
        refine w_impl_SplitAny_2 _ _ _ (f_impl_SplitAny_1 a0 a1 n) ih _ _ _ h _ ?_
        try simp only [hb4, hb5, hb7, Nat.reduceBEq, Nat.reduceMul, Nat.reduceAdd, Nat.reduceDiv, Int.reduceBEq, rules2, rulesX, rowsX, List.map_nil]
    · rw [ite_f hb4] at h
      obtain ⟨p12, hp12, h⟩ := ob h
      try simp only [hσ, hb4, hp12, c_impl_SplitAny_1, c_impl_SplitAny_n1, Nat.reduceBEq, Nat.reduceMul, Nat.reduceAdd, Nat.reduceDiv, Int.reduceBEq, rules2, rulesX, rowsX]
      refine go_bsl (es := List.map rS ([((a0.drop p12.1).take (p12.2 - p12.1))] : List (List UInt8))) rfl rfl ?_
      obtain ⟨hg13, h⟩ := of_guard h
      try simp only [hb4, hp12, hg13, Nat.reduceBEq, Nat.reduceMul, Nat.reduceAdd, Nat.reduceDiv, Int.reduceBEq, rules2, rulesX, rowsX]
      cases h
      exact ⟨⟨rfl, trivial⟩, rfl⟩
theorem e_impl_SplitAny : entry Tryz.prog 22 = some (c_impl_SplitAny.strip, [4], 36) := by kernel_rfl
theorem w_impl_SplitAny (a0 : List UInt8) (a1 : List UInt8) (r : (List (List UInt8))) (h : f_impl_SplitAny a0 a1 = some r) : FC Tryz.prog 22 [.sc (.str a0), .sc (.str a1)] [.sc (.o 1 (List.map rS r))] := by
  unfold f_impl_SplitAny at h
  refine FC_go (σ := ⟨[(0, vc (aS a0)), (1, vc (aS a1))], [], []⟩) mixed e_impl_SplitAny rfl rfl ?_
  simp only [c_impl_SplitAny]
  try simp only [Nat.reduceBEq, Nat.reduceMul, Nat.reduceAdd, Nat.reduceDiv, Int.reduceBEq, rules2, rulesX, rowsX]
  refine go_bsl (es := List.map rS ([] : List (List UInt8))) rfl rfl ?_
  try simp only [Nat.reduceBEq, Nat.reduceMul, Nat.reduceAdd, Nat.reduceDiv, Int.reduceBEq, rules2, rulesX, rowsX]
  refine w_impl_SplitAny_1 _ _ _ _ _ _ _ h _ ?_
  try simp only [Nat.reduceBEq, Nat.reduceMul, Nat.reduceAdd, Nat.reduceDiv, Int.reduceBEq, rules2, rulesX, rowsX, List.map_nil]
/- 23: impl_parseNumbers -/
def c_impl_parseNumbers_1 : ACode := .seq (.reg [(none, .keep [4, 10, 11, 12] [] [576])]) (.seq (.reg [(none, .bin 13 .lss (S 12) (S 11))]) (.seq (.cond (S 13) .skip (.exit 0)) (.seq (.block 1 (.seq (.reg [(none, .iaddr 14 (S 10) (S 12) 1), (none, .load 15 (S 14) false 1), (none, .mv 6 (S 15))]) (.seq (.reg [(none, .mv 17 (S 6)), (none, .call 18 40 [(S 17)]), (none, .mv 16 (S 18)), (none, .extr 19 (S 16) 0), (none, .extr 20 (S 16) 1), (none, .mv 7 (S 19)), (none, .mv 8 (S 20))]) (.seq (.seq (.reg [(none, .mv 21 (S 8)), (none, .un 22 .not (S 21))]) (.cond (S 22) (.seq (.reg [(none, .mv 2 KN), (none, .mv 3 (KB false))]) .ret) .skip)) (.reg [(none, .mv 23 (S 4)), (none, .mv 24 (S 7)), (none, .bslice 25 1 [.int .i64 0] 1 [(0, (S 24))]), (none, .app 26 1 8 (S 23) (S 25)), (none, .mv 4 (S 26))]))))) (.reg [(none, .bin 27 .add (S 12) (K 1)), (none, .mv 12 (S 27))]))))
def c_impl_parseNumbers_n1 : ACode := (.seq (.reg [(none, .mv 28 (S 4)), (none, .mv 2 (S 28)), (none, .mv 3 (KB true))]) .ret)
def c_impl_parseNumbers : ACode := (.seq (.reg [(none, .mv 2 KN), (none, .mv 3 (KB false))]) (.seq (.reg [(none, .bslice 9 1 [.int .i64 0] 0 []), (none, .mv 4 (S 9))]) (.seq (.seq (.reg [(none, .mv 10 (S 0)), (none, .len 11 (S 10)), (none, .mv 12 (K 0))]) (.block 0 (.loop c_impl_parseNumbers_1))) c_impl_parseNumbers_n1)))
theorem w_impl_parseNumbers_1 (a0 : List (List UInt8)) : ∀ (n : Nat) (v1 : Int) (v2 : List Int) (r : (List Int) × Bool), f_impl_parseNumbers_1 a0 n v1 v2 = some r → ∀ σ : St, σ.kept [4, 10, 11, 12] [] [576] = ⟨[(4, vc (.own 576)), (10, vc (aL (List.map rS a0))), (11, vc (aI (a0.length : Int))), (12, vc (aI v1))], [], [(576, 1, List.map rI v2)]⟩ → go Tryz.prog (.code (.loop c_impl_parseNumbers_1) :: [.blk 0, .code c_impl_parseNumbers_n1]) (Ret [2, 3] [.sc (.o 1 (List.map rI r.1)), .sc (.v (.bool r.2))]) .normal (some σ) := by
  intro n
  induction n with
  | zero => intro _ _ r h; cases h
  | succ n ih =>
    intro v1 v2 r h σ hσ
    rw [f_impl_parseNumbers_1] at h
    refine go_round ?_
    rcases Bool.eq_false_or_eq_true (decide (v1 < (a0.length : Int))) with hb3 | hb3
    · rw [ite_t hb3] at h
      obtain ⟨x4, hx4, h⟩ := ob h
      obtain ⟨r5, hr5, h⟩ := ob h
      try simp only [hσ, hb3, hx4, c_impl_parseNumbers_1, Nat.reduceBEq, Nat.reduceMul, Nat.reduceAdd, Nat.reduceDiv, Int.reduceBEq, rules2, rulesX, rowsX]
      refine go_callI (w_impl_ParseInt _ _ hr5) rfl rfl (Nat.le_of_ble_eq_true rfl) ?_
      rcases Bool.eq_false_or_eq_true r5.2 with hb6 | hb6
      · rw [ite_t hb6] at h
        try simp only [hb3, hx4, hb6, Nat.reduceBEq, Nat.reduceMul, Nat.reduceAdd, Nat.reduceDiv, Int.reduceBEq, rules2, rulesX, rowsX]
        refine go_bsl (es := List.map rI ([r5.1] : List Int)) rfl rfl ?_
        obtain ⟨hg7, h⟩ := of_guard h
        try simp only [hb3, hx4, hb6, hg7, Nat.reduceBEq, Nat.reduceMul, Nat.reduceAdd, Nat.reduceDiv, Int.reduceBEq, rules2, rulesX, rowsX]
        refine ih _ _ _ h _ ?_
        try simp only [hb3, hx4, hb6, hg7, Nat.reduceBEq, Nat.reduceMul, Nat.reduceAdd, Nat.reduceDiv, Int.reduceBEq, rules2, rulesX, rowsX, List.map_nil]
      · rw [ite_f hb6] at h
        try simp only [hb3, hx4, hb6, Nat.reduceBEq, Nat.reduceMul, Nat.reduceAdd, Nat.reduceDiv, Int.reduceBEq, rules2, rulesX, rowsX]
        cases h
        exact ⟨⟨rfl, rfl, trivial⟩, rfl⟩
    · rw [ite_f hb3] at h
      try simp only [hσ, hb3, c_impl_parseNumbers_1, c_impl_parseNumbers_n1, Nat.reduceBEq, Nat.reduceMul, Nat.reduceAdd, Nat.reduceDiv, Int.reduceBEq, rules2, rulesX, rowsX]
      cases h
      exact ⟨⟨rfl, rfl, trivial⟩, rfl⟩
theorem e_impl_parseNumbers : entry Tryz.prog 23 = some (c_impl_parseNumbers.strip, [2, 3], 29) := by kernel_rfl
theorem w_impl_parseNumbers (a0 : List (List UInt8)) (r : (List Int) × Bool) (h : f_impl_parseNumbers a0 = some r) : FC Tryz.prog 23 [.sc (.sl (List.map rS a0))] [.sc (.o 1 (List.map rI r.1)), .sc (.v (.bool r.2))] := by
  unfold f_impl_parseNumbers at h
  refine FC_go (σ := ⟨[(0, vc (aL (List.map rS a0)))], [], []⟩) mixed e_impl_parseNumbers rfl rfl ?_
  simp only [c_impl_parseNumbers]
  try simp only [Nat.reduceBEq, Nat.reduceMul, Nat.reduceAdd, Nat.reduceDiv, Int.reduceBEq, rules2, rulesX, rowsX]
  refine go_bsl (es := List.map rI ([] : List Int)) rfl rfl ?_
  try simp only [Nat.reduceBEq, Nat.reduceMul, Nat.reduceAdd, Nat.reduceDiv, Int.reduceBEq, rules2, rulesX, rowsX]
  refine w_impl_parseNumbers_1 _ _ _ _ _ h _ ?_
  try simp only [Nat.reduceBEq, Nat.reduceMul, Nat.reduceAdd, Nat.reduceDiv, Int.reduceBEq, rules2, rulesX, rowsX, List.map_nil]
/- 9: impl_ParseEntry -/
def c_impl_ParseEntry_1 : ACode := .seq (.reg [(none, .keep [0, 2, 5, 7] [2] [1152])]) (.seq (.seq (.reg [(none, .mv 24 (S 7)), (none, .bin 25 .leq (S 24) (K 4))]) (.cond (S 25) .skip (.exit 0))) (.seq (.block 1 (.seq (.drw [(some [8], (none, .mv 28 (S 7))), (some [8], (none, .mv 29 (S 5))), (some [8], (none, .iaddr 30 (S 29) (K 0) 1)), (some [8], (none, .load 31 (S 30) false 1)), (some [8], (none, .mv 32 (S 5))), (some [8], (none, .iaddr 33 (S 32) (K 1) 1)), (some [8], (none, .load 34 (S 33) false 1)), (some [8], (none, .mv 35 (S 5))), (some [8], (none, .iaddr 36 (S 35) (K 2) 1)), (some [8], (none, .load 37 (S 36) false 1)), (some [8], (none, .build 38 [aI 0, aI 0, aI 0, aI 0] [(0, 1, (S 28)), (1, 1, (S 31)), (2, 1, (S 34)), (3, 1, (S 37))])), (some [], (none, .alloc 8 [aI 0, aI 0, aI 0, aI 0])), (none, (none, .store (S 8) (S 38) 4))]) (.seq (.reg [(none, .load 39 (S 8) true 4), (none, .call 40 10 [(S 39)]), (none, .mv 41 (S 0)), (none, .bin 42 .eql (S 40) (S 41))]) (.cond (S 42) (.seq (.reg [(none, .load 43 (S 8) true 4), (none, .store (S 2) (S 43) 4), (none, .mv 3 (KB true))]) .ret) .skip)))) (.reg [(none, .mv 26 (S 7)), (none, .bin 27 .add (S 26) (K 1)), (none, .mv 7 (S 27))])))
def c_impl_ParseEntry_n1 : ACode := (.seq (.reg [(none, .build 44 [aI 0, aI 0, aI 0, aI 0] []), (none, .store (S 2) (S 44) 4), (none, .mv 3 (KB false))]) .ret)
def c_impl_ParseEntry : ACode := (.seq (.reg [(none, .alloc 2 [aI 0, aI 0, aI 0, aI 0]), (none, .mv 3 (KB false))]) (.seq (.reg [(none, .mv 9 (S 0)), (none, .call 10 22 [(S 9), (KS [32])]), (none, .mv 4 (S 10))]) (.seq (.seq (.reg [(none, .mv 11 (S 4)), (none, .len 12 (S 11)), (none, .bin 13 .neq (S 12) (K 5))]) (.cond (S 13) (.seq (.reg [(none, .build 14 [aI 0, aI 0, aI 0, aI 0] []), (none, .store (S 2) (S 14) 4), (none, .mv 3 (KB false))]) .ret) .skip)) (.seq (.reg [(none, .mv 16 (S 4)), (none, .frz 640), (none, .slc 17 1 (S 16) (some (K 1)) (some (K 4)) none), (none, .call 18 23 [(S 17)]), (none, .mv 15 (S 18)), (none, .extr 19 (S 15) 0), (none, .extr 20 (S 15) 1), (none, .mv 5 (S 19)), (none, .mv 6 (S 20))]) (.seq (.seq (.reg [(none, .mv 21 (S 6)), (none, .un 22 .not (S 21))]) (.cond (S 22) (.seq (.reg [(none, .build 23 [aI 0, aI 0, aI 0, aI 0] []), (none, .store (S 2) (S 23) 4), (none, .mv 3 (KB false))]) .ret) .skip)) (.seq (.seq (.reg [(none, .mv 7 (K 1))]) (.block 0 (.loop c_impl_ParseEntry_1))) c_impl_ParseEntry_n1))))))
theorem w_impl_ParseEntry_1 (a0 : List UInt8) (r4 : (List Int) × Bool) : ∀ (n : Nat) (v6 : Int) (r : XEntry × Bool), f_impl_ParseEntry_1 a0 r4 n v6 = some r → ∀ σ : St, σ.kept [0, 2, 5, 7] [2] [1152] = ⟨[(0, vc (aS a0)), (2, vc (.pb 2 0)), (5, vc (.own 1152)), (7, vc (aI v6))], [(2, [aI (0 : Int), aI (0 : Int), aI (0 : Int), aI (0 : Int)])], [(1152, 1, List.map rI r4.1)]⟩ → go Tryz.prog (.code (.loop c_impl_ParseEntry_1) :: [.blk 0, .code c_impl_ParseEntry_n1]) (Ret [.c 2 true 4, 3] [.ag [.v (.int .i64 r.1.Kind), .v (.int .i64 r.1.At), .v (.int .i64 r.1.Call), .v (.int .i64 r.1.Value)], .sc (.v (.bool r.2))]) .normal (some σ) := by
  intro n
  induction n with
  | zero => intro _ r h; cases h
  | succ n ih =>
    intro v6 r h σ hσ
    rw [f_impl_ParseEntry_1] at h
    refine go_round ?_
    rcases Bool.eq_false_or_eq_true (decide (v6 ≤ (4 : Int))) with hb7 | hb7
    · rw [ite_t hb7] at h
      try simp only [hσ, hb7, c_impl_ParseEntry_1, Nat.reduceBEq, Nat.reduceMul, Nat.reduceAdd, Nat.reduceDiv, Int.reduceBEq, rules2, rulesX, rowsX]
      refine go_fr_of rfl ?_
      obtain ⟨x8, hx8, h⟩ := ob h
      have hx8n := ix_get hx8
      obtain ⟨x9, hx9, h⟩ := ob h
      have hx9n := ix_get hx9
      obtain ⟨x10, hx10, h⟩ := ob h
      have hx10n := ix_get hx10
      try simp only [hb7, hx8, hx8n, hx9, hx9n, hx10, hx10n, Nat.reduceBEq, Nat.reduceMul, Nat.reduceAdd, Nat.reduceDiv, Int.reduceBEq, rules2, rulesX, rowsX]
      refine go_al rfl rfl ?_
      try simp only [hb7, hx8, hx8n, hx9, hx9n, hx10, hx10n, Nat.reduceBEq, Nat.reduceMul, Nat.reduceAdd, Nat.reduceDiv, Int.reduceBEq, rules2, rulesX, rowsX]
      refine go_fr_of rfl ?_
      obtain ⟨r11, hr11, h⟩ := ob h
      try simp only [hb7, hx8, hx8n, hx9, hx9n, hx10, hx10n, Nat.reduceBEq, Nat.reduceMul, Nat.reduceAdd, Nat.reduceDiv, Int.reduceBEq, rules2, rulesX, rowsX]
      refine go_callI (w_impl_FormatEntry _ _ hr11) rfl rfl (Nat.le_of_ble_eq_true rfl) ?_
      rcases Bool.eq_false_or_eq_true (r11 == a0) with hb12 | hb12
      · rw [ite_t hb12] at h
        try simp only [hb7, hx8, hx8n, hx9, hx9n, hx10, hx10n, hb12, Nat.reduceBEq, Nat.reduceMul, Nat.reduceAdd, Nat.reduceDiv, Int.reduceBEq, rules2, rulesX, rowsX]
        cases h
        try simp only [rulesR, Nat.reduceBEq, Nat.reduceMul, Nat.reduceAdd, Nat.reduceDiv, Int.reduceBEq, rules2, rulesX, rowsX]
        exact ⟨⟨⟨rfl, rfl, rfl, rfl, trivial⟩, rfl, trivial⟩, rfl⟩
      · rw [ite_f hb12] at h
        try simp only [hb7, hx8, hx8n, hx9, hx9n, hx10, hx10n, hb12, Nat.reduceBEq, Nat.reduceMul, Nat.reduceAdd, Nat.reduceDiv, Int.reduceBEq, rules2, rulesX, rowsX]
        refine ih _ _ h _ ?_
        try simp only [hb7, hx8, hx8n, hx9, hx9n, hx10, hx10n, hb12, Nat.reduceBEq, Nat.reduceMul, Nat.reduceAdd, Nat.reduceDiv, Int.reduceBEq, rules2, rulesX, rowsX, List.map_nil]
    · rw [ite_f hb7] at h
      try simp only [hσ, hb7, c_impl_ParseEntry_1, c_impl_ParseEntry_n1, Nat.reduceBEq, Nat.reduceMul, Nat.reduceAdd, Nat.reduceDiv, Int.reduceBEq, rules2, rulesX, rowsX]
      cases h
      try simp only [rulesR, Nat.reduceBEq, Nat.reduceMul, Nat.reduceAdd, Nat.reduceDiv, Int.reduceBEq, rules2, rulesX, rowsX]
      exact ⟨⟨⟨rfl, rfl, rfl, rfl, trivial⟩, rfl, trivial⟩, rfl⟩
theorem e_impl_ParseEntry : entry Tryz.prog 9 = some (c_impl_ParseEntry.strip, [.c 2 true 4, 3], 45) := by kernel_rfl
theorem w_impl_ParseEntry (a0 : List UInt8) (r : XEntry × Bool) (h : f_impl_ParseEntry a0 = some r) : FC Tryz.prog 9 [.sc (.str a0)] [.ag [.v (.int .i64 r.1.Kind), .v (.int .i64 r.1.At), .v (.int .i64 r.1.Call), .v (.int .i64 r.1.Value)], .sc (.v (.bool r.2))] := by
  unfold f_impl_ParseEntry at h
  refine FC_go (σ := ⟨[(0, vc (aS a0))], [], []⟩) mixed e_impl_ParseEntry rfl rfl ?_
  simp only [c_impl_ParseEntry]
  try simp only [Nat.reduceBEq, Nat.reduceMul, Nat.reduceAdd, Nat.reduceDiv, Int.reduceBEq, rules2, rulesX, rowsX]
  refine go_al rfl rfl ?_
  obtain ⟨r1, hr1, h⟩ := ob h
  try simp only [Nat.reduceBEq, Nat.reduceMul, Nat.reduceAdd, Nat.reduceDiv, Int.reduceBEq, rules2, rulesX, rowsX]
  refine go_callI (w_impl_SplitAny _ _ _ hr1) rfl rfl (Nat.le_of_ble_eq_true rfl) ?_
  rcases Bool.eq_false_or_eq_true ((r1.length : Int) != (5 : Int)) with hb2 | hb2
  · rw [ite_t hb2] at h
    try simp only [hb2, Nat.reduceBEq, Nat.reduceMul, Nat.reduceAdd, Nat.reduceDiv, Int.reduceBEq, rules2, rulesX, rowsX]
    cases h
    try simp only [rulesR, Nat.reduceBEq, Nat.reduceMul, Nat.reduceAdd, Nat.reduceDiv, Int.reduceBEq, rules2, rulesX, rowsX]
    exact ⟨⟨⟨rfl, rfl, rfl, rfl, trivial⟩, rfl, trivial⟩, rfl⟩
  · rw [ite_f hb2] at h
    try simp only [hb2, Nat.reduceBEq, Nat.reduceMul, Nat.reduceAdd, Nat.reduceDiv, Int.reduceBEq, rules2, rulesX, rowsX]
    refine go_frz' rfl ?_
    obtain ⟨p3, hp3, h⟩ := ob h
    obtain ⟨r4, hr4, h⟩ := ob h
    try simp only [hb2, hp3, Nat.reduceBEq, Nat.reduceMul, Nat.reduceAdd, Nat.reduceDiv, Int.reduceBEq, rules2, rulesX, rowsX]
    refine go_callI (w_impl_parseNumbers _ _ hr4) rfl rfl (Nat.le_of_ble_eq_true rfl) ?_
    rcases Bool.eq_false_or_eq_true r4.2 with hb5 | hb5
    · rw [ite_t hb5] at h
      try simp only [hb2, hp3, hb5, Nat.reduceBEq, Nat.reduceMul, Nat.reduceAdd, Nat.reduceDiv, Int.reduceBEq, rules2, rulesX, rowsX]
      refine w_impl_ParseEntry_1 _ _ _ _ _ h _ ?_
      try simp only [hb2, hp3, hb5, Nat.reduceBEq, Nat.reduceMul, Nat.reduceAdd, Nat.reduceDiv, Int.reduceBEq, rules2, rulesX, rowsX, List.map_nil]
    · rw [ite_f hb5] at h
      try simp only [hb2, hp3, hb5, Nat.reduceBEq, Nat.reduceMul, Nat.reduceAdd, Nat.reduceDiv, Int.reduceBEq, rules2, rulesX, rowsX]
      cases h
      try simp only [rulesR, Nat.reduceBEq, Nat.reduceMul, Nat.reduceAdd, Nat.reduceDiv, Int.reduceBEq, rules2, rulesX, rowsX]
      exact ⟨⟨⟨rfl, rfl, rfl, rfl, trivial⟩, rfl, trivial⟩, rfl⟩
/- 43: impl_SplitLines -/
def c_impl_SplitLines : ACode := (.seq (.reg [(none, .mv 2 KN)]) (.seq (.reg [(none, .mv 4 (S 0)), (none, .call 5 22 [(S 4), (KS [10])]), (none, .frz 320), (none, .mv 3 (S 5))]) (.seq (.seq (.reg [(none, .mv 6 (S 3)), (none, .mv 7 (S 3)), (none, .len 8 (S 7)), (none, .bin 9 .sub (S 8) (K 1)), (none, .iaddr 10 (S 6) (S 9) 1), (none, .load 11 (S 10) false 1), (none, .bin 12 .eql (S 11) (KS []))]) (.cond (S 12) (.reg [(none, .mv 13 (S 3)), (none, .mv 14 (S 3)), (none, .len 15 (S 14)), (none, .bin 16 .sub (S 15) (K 1)), (none, .slc 17 1 (S 13) none (some (S 16)) none), (none, .mv 3 (S 17))]) .skip)) (.seq (.reg [(none, .mv 18 (S 3)), (none, .mv 2 (S 18))]) .ret))))
theorem e_impl_SplitLines : entry Tryz.prog 43 = some (c_impl_SplitLines.strip, [2], 19) := by kernel_rfl
theorem w_impl_SplitLines (a0 : List UInt8) (r : (List (List UInt8))) (h : f_impl_SplitLines a0 = some r) : FC Tryz.prog 43 [.sc (.str a0)] [.sc (.v (.sl (List.map rS r)))] := by
  unfold f_impl_SplitLines at h
  refine FC_go (σ := ⟨[(0, vc (aS a0))], [], []⟩) mixed e_impl_SplitLines rfl rfl ?_
  simp only [c_impl_SplitLines]
  obtain ⟨r1, hr1, h⟩ := ob h
  try simp only [Nat.reduceBEq, Nat.reduceMul, Nat.reduceAdd, Nat.reduceDiv, Int.reduceBEq, rules2, rulesX, rowsX]
  refine go_callI (w_impl_SplitAny _ _ _ hr1) rfl rfl (Nat.le_of_ble_eq_true rfl) ?_
  try simp only [Nat.reduceBEq, Nat.reduceMul, Nat.reduceAdd, Nat.reduceDiv, Int.reduceBEq, rules2, rulesX, rowsX]
  refine go_frz' rfl ?_
  obtain ⟨x2, hx2, h⟩ := ob h
  rcases Bool.eq_false_or_eq_true (x2 == ([] : List UInt8)) with hb3 | hb3
  · rw [ite_t hb3] at h
    obtain ⟨p4, hp4, h⟩ := ob h
    try simp only [hx2, hb3, hp4, Nat.reduceBEq, Nat.reduceMul, Nat.reduceAdd, Nat.reduceDiv, Int.reduceBEq, rules2, rulesX, rowsX]
    cases h
    exact ⟨⟨rfl, trivial⟩, rfl⟩
  · rw [ite_f hb3] at h
    try simp only [hx2, hb3, Nat.reduceBEq, Nat.reduceMul, Nat.reduceAdd, Nat.reduceDiv, Int.reduceBEq, rules2, rulesX, rowsX]
    cases h
    exact ⟨⟨rfl, trivial⟩, rfl⟩
/- 44: impl_readEntries -/
def c_impl_readEntries_1 : ACode := .seq (.reg [(none, .keep [4, 10, 11, 12] [] [576])]) (.seq (.reg [(none, .bin 13 .lss (S 12) (S 11))]) (.seq (.cond (S 13) .skip (.exit 0)) (.seq (.block 1 (.seq (.reg [(none, .mv 14 (S 12)), (none, .iaddr 15 (S 10) (S 12) 1), (none, .load 16 (S 15) false 1), (none, .mv 5 (S 14)), (none, .mv 6 (S 16))]) (.seq (.reg [(none, .mv 18 (S 6)), (none, .call 19 9 [(S 18)]), (none, .mv 17 (S 19)), (none, .extr 20 (S 17) 0), (none, .extr 21 (S 17) 1), (none, .alloc 7 [aI 0, aI 0, aI 0, aI 0]), (none, .store (S 7) (S 20) 4), (none, .mv 8 (S 21))]) (.seq (.seq (.reg [(none, .mv 22 (S 8)), (none, .un 23 .not (S 22))]) (.cond (S 23) (.seq (.reg [(none, .mv 24 (S 4)), (none, .mv 25 (S 5)), (none, .build 26 [aI 0] [(0, 1, (S 25))]), (none, .box 27 (S 26)), (none, .frzb 27), (none, .mkif 28 83 (S 27)), (none, .mv 2 (S 24)), (none, .mv 3 (S 28))]) .ret) .skip)) (.reg [(none, .mv 29 (S 4)), (none, .load 30 (S 7) true 4), (none, .bslice 31 4 [.int .i64 0, .int .i64 0, .int .i64 0, .int .i64 0] 1 [(0, (S 30))]), (none, .app 32 4 32 (S 29) (S 31)), (none, .mv 4 (S 32))]))))) (.reg [(none, .bin 33 .add (S 12) (K 1)), (none, .mv 12 (S 33))]))))
def c_impl_readEntries_n1 : ACode := (.seq (.reg [(none, .mv 34 (S 4)), (none, .mv 2 (S 34)), (none, .mv 3 (.c (.v (.sc (.dat .noi)))))]) .ret)
def c_impl_readEntries : ACode := (.seq (.reg [(none, .mv 2 KN), (none, .mv 3 (.c (.v (.sc (.dat .noi)))))]) (.seq (.reg [(none, .bslice 9 4 [.int .i64 0, .int .i64 0, .int .i64 0, .int .i64 0] 0 []), (none, .mv 4 (S 9))]) (.seq (.seq (.reg [(none, .mv 10 (S 0)), (none, .len 11 (S 10)), (none, .mv 12 (K 0))]) (.block 0 (.loop c_impl_readEntries_1))) c_impl_readEntries_n1)))
theorem w_impl_readEntries_1 (a0 : List (List UInt8)) : ∀ (n : Nat) (v1 : Int) (v2 : List XEntry) (r : (List XEntry) × (Option Int)), f_impl_readEntries_1 a0 n v1 v2 = some r → ∀ σ : St, σ.kept [4, 10, 11, 12] [] [576] = ⟨[(4, vc (.own 576)), (10, vc (aL (List.map rS a0))), (11, vc (aI (a0.length : Int))), (12, vc (aI v1))], [], [(576, 4, List.map XEntry.row v2)]⟩ → go Tryz.prog (.code (.loop c_impl_readEntries_1) :: [.blk 0, .code c_impl_readEntries_n1]) (Ret [2, 3] [.sc (.o 4 (List.map XEntry.row r.1)), .sc (.v (errD r.2))]) .normal (some σ) := by
  intro n
  induction n with
  | zero => intro _ _ r h; cases h
  | succ n ih =>
    intro v1 v2 r h σ hσ
    rw [f_impl_readEntries_1] at h
    refine go_round ?_
    rcases Bool.eq_false_or_eq_true (decide (v1 < (a0.length : Int))) with hb3 | hb3
    · rw [ite_t hb3] at h
      obtain ⟨x4, hx4, h⟩ := ob h
      obtain ⟨r5, hr5, h⟩ := ob h
      try simp only [hσ, hb3, hx4, c_impl_readEntries_1, Nat.reduceBEq, Nat.reduceMul, Nat.reduceAdd, Nat.reduceDiv, Int.reduceBEq, rules2, rulesX, rowsX]
      refine go_callI (w_impl_ParseEntry _ _ hr5) rfl rfl (Nat.le_of_ble_eq_true rfl) ?_
      try simp only [hb3, hx4, Nat.reduceBEq, Nat.reduceMul, Nat.reduceAdd, Nat.reduceDiv, Int.reduceBEq, rules2, rulesX, rowsX]
      refine go_al rfl rfl ?_
      rcases Bool.eq_false_or_eq_true r5.2 with hb6 | hb6
      · rw [ite_t hb6] at h
        try simp only [hb3, hx4, hb6, Nat.reduceBEq, Nat.reduceMul, Nat.reduceAdd, Nat.reduceDiv, Int.reduceBEq, rules2, rulesX, rowsX]
        refine go_bsl (es := List.map XEntry.row ([r5.1] : List XEntry)) rfl rfl ?_
        obtain ⟨hg7, h⟩ := of_guard h
        try simp only [hb3, hx4, hb6, hg7, Nat.reduceBEq, Nat.reduceMul, Nat.reduceAdd, Nat.reduceDiv, Int.reduceBEq, rules2, rulesX, rowsX]
        refine ih _ _ _ h _ ?_
        try simp only [hb3, hx4, hb6, hg7, Nat.reduceBEq, Nat.reduceMul, Nat.reduceAdd, Nat.reduceDiv, Int.reduceBEq, rules2, rulesX, rowsX, List.map_nil]
      · rw [ite_f hb6] at h
        try simp only [hb3, hx4, hb6, Nat.reduceBEq, Nat.reduceMul, Nat.reduceAdd, Nat.reduceDiv, Int.reduceBEq, rules2, rulesX, rowsX]
        refine go_bx rfl rfl rfl ?_
        try simp only [hb3, hx4, hb6, Nat.reduceBEq, Nat.reduceMul, Nat.reduceAdd, Nat.reduceDiv, Int.reduceBEq, rules2, rulesX, rowsX]
        refine go_frzb' rfl rfl ?_
        try simp only [hb3, hx4, hb6, Nat.reduceBEq, Nat.reduceMul, Nat.reduceAdd, Nat.reduceDiv, Int.reduceBEq, rules2, rulesX, rowsX]
        cases h
        exact ⟨⟨rfl, rfl, trivial⟩, rfl⟩
    · rw [ite_f hb3] at h
      try simp only [hσ, hb3, c_impl_readEntries_1, c_impl_readEntries_n1, Nat.reduceBEq, Nat.reduceMul, Nat.reduceAdd, Nat.reduceDiv, Int.reduceBEq, rules2, rulesX, rowsX]
      cases h
      exact ⟨⟨rfl, rfl, trivial⟩, rfl⟩
theorem e_impl_readEntries : entry Tryz.prog 44 = some (c_impl_readEntries.strip, [2, 3], 35) := by kernel_rfl
theorem w_impl_readEntries (a0 : List (List UInt8)) (r : (List XEntry) × (Option Int)) (h : f_impl_readEntries a0 = some r) : FC Tryz.prog 44 [.sc (.sl (List.map rS a0))] [.sc (.o 4 (List.map XEntry.row r.1)), .sc (.v (errD r.2))] := by
  unfold f_impl_readEntries at h
  refine FC_go (σ := ⟨[(0, vc (aL (List.map rS a0)))], [], []⟩) mixed e_impl_readEntries rfl rfl ?_
  simp only [c_impl_readEntries]
  try simp only [Nat.reduceBEq, Nat.reduceMul, Nat.reduceAdd, Nat.reduceDiv, Int.reduceBEq, rules2, rulesX, rowsX]
  refine go_bsl (es := List.map XEntry.row ([] : List XEntry)) rfl rfl ?_
  try simp only [Nat.reduceBEq, Nat.reduceMul, Nat.reduceAdd, Nat.reduceDiv, Int.reduceBEq, rules2, rulesX, rowsX]
  refine w_impl_readEntries_1 _ _ _ _ _ h _ ?_
  try simp only [Nat.reduceBEq, Nat.reduceMul, Nat.reduceAdd, Nat.reduceDiv, Int.reduceBEq, rules2, rulesX, rowsX, List.map_nil]
/- 29: impl_ReadJournal -/
def c_impl_ReadJournal : ACode := (.seq (.reg [(none, .mv 2 KN), (none, .mv 3 (K 0))]) (.seq (.reg [(none, .mv 8 (S 0)), (none, .call 9 43 [(S 8)]), (none, .mv 4 (S 9))]) (.seq (.reg [(none, .mv 11 (S 4)), (none, .mv 12 (S 4)), (none, .len 13 (S 12)), (none, .mm 14 false (S 13) (K 60)), (none, .slc 15 1 (S 11) none (some (S 14)) none), (none, .call 16 44 [(S 15)]), (none, .mv 10 (S 16)), (none, .extr 17 (S 10) 0), (none, .extr 18 (S 10) 1), (none, .mv 5 (S 17)), (none, .mv 6 (S 18))]) (.seq (.reg [(none, .alloc 7 [.undef])]) (.seq (.seq (.reg [(none, .mv 19 (S 6)), (none, .mkif 20 85 (S 7)), (none, .call 21 45 [(S 19), (S 20)])]) (.cond (S 21) (.seq (.drw [(some [], (none, .mv 22 (S 5))), (some [], (none, .load 23 (S 7) false 1)), (some [], (none, .nilc 24 (S 23))), (some [], (none, .faddr 25 (S 24) 0)), (some [], (none, .load 26 (S 25) false 1)), (some [], (none, .mv 2 (S 22))), (some [], (none, .mv 3 (S 26)))]) .ret) .skip)) (.seq (.reg [(none, .mv 27 (S 5)), (none, .mv 28 (S 5)), (none, .len 29 (S 28)), (none, .mv 2 (S 27)), (none, .mv 3 (S 29))]) .ret))))))
theorem e_impl_ReadJournal : entry Tryz.prog 29 = some (c_impl_ReadJournal.strip, [2, 3], 30) := by kernel_rfl
theorem w_impl_ReadJournal (a0 : List UInt8) (r : (List XEntry) × Int) (h : f_impl_ReadJournal a0 = some r) : FC Tryz.prog 29 [.sc (.str a0)] [.sc (.o 4 (List.map XEntry.row r.1)), .sc (.v (.int .i64 r.2))] := by
  unfold f_impl_ReadJournal at h
  refine FC_go (σ := ⟨[(0, vc (aS a0))], [], []⟩) mixed e_impl_ReadJournal rfl rfl ?_
  simp only [c_impl_ReadJournal]
  obtain ⟨r1, hr1, h⟩ := ob h
  try simp only [Nat.reduceBEq, Nat.reduceMul, Nat.reduceAdd, Nat.reduceDiv, Int.reduceBEq, rules2, rulesX, rowsX]
  refine go_callI (w_impl_SplitLines _ _ hr1) rfl rfl (Nat.le_of_ble_eq_true rfl) ?_
  obtain ⟨p2, hp2, h⟩ := ob h
  obtain ⟨r3, hr3, h⟩ := ob h
  try simp only [hp2, Nat.reduceBEq, Nat.reduceMul, Nat.reduceAdd, Nat.reduceDiv, Int.reduceBEq, rules2, rulesX, rowsX]
  refine go_callI (w_impl_readEntries _ _ hr3) rfl rfl (Nat.le_of_ble_eq_true rfl) ?_
  try simp only [hp2, Nat.reduceBEq, Nat.reduceMul, Nat.reduceAdd, Nat.reduceDiv, Int.reduceBEq, rules2, rulesX, rowsX]
  refine go_al rfl rfl ?_
  rcases Bool.eq_false_or_eq_true r3.2.isSome with hb4 | hb4
  · rw [ite_t hb4] at h
    obtain ⟨k5, hk5, h⟩ := ob h
    try simp only [hp2, hb4, hk5, Nat.reduceBEq, Nat.reduceMul, Nat.reduceAdd, Nat.reduceDiv, Int.reduceBEq, rules2, rulesX, rowsX]
    refine go_asH rfl rfl rfl ?_
    try simp only [hp2, hb4, hk5, Nat.reduceBEq, Nat.reduceMul, Nat.reduceAdd, Nat.reduceDiv, Int.reduceBEq, rules2, rulesX, rowsX]
    refine go_fr_of rfl ?_
    try simp only [hp2, hb4, hk5, Nat.reduceBEq, Nat.reduceMul, Nat.reduceAdd, Nat.reduceDiv, Int.reduceBEq, rules2, rulesX, rowsX]
    cases h
    exact ⟨⟨rfl, rfl, trivial⟩, rfl⟩
  · rw [ite_f hb4] at h
    have hn6 := of_noerr (by assumption : r3.2.isSome = false)
    try simp only [hp2, hb4, hn6, Nat.reduceBEq, Nat.reduceMul, Nat.reduceAdd, Nat.reduceDiv, Int.reduceBEq, rules2, rulesX, rowsX]
    refine go_asN rfl ?_
    try simp only [hp2, hb4, hn6, Nat.reduceBEq, Nat.reduceMul, Nat.reduceAdd, Nat.reduceDiv, Int.reduceBEq, rules2, rulesX, rowsX]
    cases h
    exact ⟨⟨rfl, rfl, trivial⟩, rfl⟩
/- 12: impl_RebuildDesk -/
def c_impl_RebuildDesk_1 : ACode := .seq (.reg [(none, .keep [4, 6, 7, 20, 21, 22] [4, 6] [897, 898, 1088])]) (.seq (.reg [(none, .bin 23 .lss (S 22) (S 21))]) (.seq (.cond (S 23) .skip (.exit 0)) (.seq (.block 1 (.seq (.reg [(none, .mv 24 (S 22)), (none, .iaddr 25 (S 20) (S 22) 4), (none, .load 26 (S 25) true 4), (none, .alloc 10 [aI 0, aI 0, aI 0, aI 0]), (none, .mv 9 (S 24)), (none, .store (S 10) (S 26) 4)]) (.seq (.reg [(none, .load 28 (S 6) true 3), (none, .load 29 (S 10) true 4), (none, .call 30 8 [(S 28), (S 29)]), (none, .mv 27 (S 30)), (none, .extr 31 (S 27) 0), (none, .extr 32 (S 27) 1), (none, .alloc 11 [aI 0, .nil, .nil]), (none, .store (S 11) (S 31) 3), (none, .mv 12 (S 32))]) (.seq (.seq (.reg [(none, .mv 33 (S 12)), (none, .un 34 .not (S 33))]) (.cond (S 34) (.seq (.reg [(none, .load 35 (S 6) true 3), (none, .mv 36 (S 9)), (none, .store (S 4) (S 35) 3), (none, .mv 5 (S 36))]) .ret) .skip)) (.reg [(none, .load 37 (S 11) true 3), (none, .store (S 6) (S 37) 3)]))))) (.reg [(none, .bin 38 .add (S 22) (K 1)), (none, .mv 22 (S 38)), (none, .keep [4, 6, 7, 20, 21, 22] [4, 6] [1921, 1922, 1088]), (none, .ren 1921 897), (none, .ren 1922 898)]))))
def c_impl_RebuildDesk_n1 : ACode := (.seq (.reg [(none, .load 39 (S 6) true 3), (none, .mv 40 (S 7)), (none, .len 41 (S 40)), (none, .store (S 4) (S 39) 3), (none, .mv 5 (S 41))]) .ret)
def c_impl_RebuildDesk : ACode := (.seq (.reg [(none, .alloc 4 [aI 0, .nil, .nil]), (none, .mv 5 (K 0))]) (.seq (.reg [(none, .mv 13 (S 0)), (none, .call 14 7 [(S 13)]), (none, .alloc 6 [aI 0, .nil, .nil]), (none, .store (S 6) (S 14) 3)]) (.seq (.reg [(none, .mv 16 (S 1)), (none, .call 17 29 [(S 16)]), (none, .mv 15 (S 17)), (none, .extr 18 (S 15) 0), (none, .extr 19 (S 15) 1), (none, .mv 7 (S 18)), (none, .mv 8 (S 19))]) (.seq (.seq (.reg [(none, .mv 20 (S 7)), (none, .len 21 (S 20)), (none, .mv 22 (K 0))]) (.block 0 (.loop c_impl_RebuildDesk_1))) c_impl_RebuildDesk_n1))))
theorem w_impl_RebuildDesk_1 (r2 : (List XEntry) × Int) : ∀ (n : Nat) (v3 : Int) (v4 : Int) (v5 : List Int) (v6 : List Bool) (r : XDesk × Int), f_impl_RebuildDesk_1 r2 n v3 v4 v5 v6 = some r → ∀ σ : St, σ.kept [4, 6, 7, 20, 21, 22] [4, 6] [897, 898, 1088] = ⟨[(4, vc (.pb 4 0)), (6, vc (.pb 6 0)), (7, vc (.own 1088)), (20, vc (.own 1088)), (21, vc (aI (r2.1.length : Int))), (22, vc (aI v3))], [(4, [aI (0 : Int), .nil, .nil]), (6, [aI v4, .own 897, .own 898])], [(897, 1, List.map rI v5), (898, 1, List.map rB v6), (1088, 4, List.map XEntry.row r2.1)]⟩ → go Tryz.prog (.code (.loop c_impl_RebuildDesk_1) :: [.blk 0, .code c_impl_RebuildDesk_n1]) (Ret [.c 4 true 3, 5] [.ag [.v (.int .i64 r.1.Now), .o 1 (List.map rI r.1.Starts), .o 1 (List.map rB r.1.Cleared)], .sc (.v (.int .i64 r.2))]) .normal (some σ) := by
  intro n
  induction n with
  | zero => intro _ _ _ _ r h; cases h
  | succ n ih =>
    intro v3 v4 v5 v6 r h σ hσ
    rw [f_impl_RebuildDesk_1] at h
    refine go_round ?_
    rcases Bool.eq_false_or_eq_true (decide (v3 < (r2.1.length : Int))) with hb7 | hb7
    · rw [ite_t hb7] at h
      obtain ⟨x8, hx8, h⟩ := ob h
      have hx8n := ix_get hx8
      try simp only [hσ, hb7, hx8, hx8n, c_impl_RebuildDesk_1, Nat.reduceBEq, Nat.reduceMul, Nat.reduceAdd, Nat.reduceDiv, Int.reduceBEq, rules2, rulesX, rowsX]
      refine go_al rfl rfl ?_
      obtain ⟨r9, hr9, h⟩ := ob h
      try simp only [hb7, hx8, hx8n, Nat.reduceBEq, Nat.reduceMul, Nat.reduceAdd, Nat.reduceDiv, Int.reduceBEq, rules2, rulesX, rowsX]
      refine go_call (w_impl_ApplyEntry _ _ _ hr9) rfl (flat_l rfl ⟨rfl, flat_o, flat_o, rfl, trivial⟩) rfl (Nat.le_of_ble_eq_true rfl) ?_
      try simp only [hb7, hx8, hx8n, Nat.reduceBEq, Nat.reduceMul, Nat.reduceAdd, Nat.reduceDiv, Int.reduceBEq, rules2, rulesX, rowsX]
      refine go_al rfl rfl ?_
      rcases Bool.eq_false_or_eq_true r9.2 with hb10 | hb10
      · rw [ite_t hb10] at h
        try simp only [hb7, hx8, hx8n, hb10, Nat.reduceBEq, Nat.reduceMul, Nat.reduceAdd, Nat.reduceDiv, Int.reduceBEq, rules2, rulesX, rowsX]
        refine go_ren' rfl rfl ?_
        try simp only [hb7, hx8, hx8n, hb10, Nat.reduceBEq, Nat.reduceMul, Nat.reduceAdd, Nat.reduceDiv, Int.reduceBEq, rules2, rulesX, rowsX]
        refine go_ren' rfl rfl ?_
        try simp only [hb7, hx8, hx8n, hb10, Nat.reduceBEq, Nat.reduceMul, Nat.reduceAdd, Nat.reduceDiv, Int.reduceBEq, rules2, rulesX, rowsX]
        refine ih _ _ _ _ _ h _ ?_
        try simp only [hb7, hx8, hx8n, hb10, Nat.reduceBEq, Nat.reduceMul, Nat.reduceAdd, Nat.reduceDiv, Int.reduceBEq, rules2, rulesX, rowsX, List.map_nil]
      · rw [ite_f hb10] at h
        try simp only [hb7, hx8, hx8n, hb10, Nat.reduceBEq, Nat.reduceMul, Nat.reduceAdd, Nat.reduceDiv, Int.reduceBEq, rules2, rulesX, rowsX]
        cases h
        try simp only [rulesR, Nat.reduceBEq, Nat.reduceMul, Nat.reduceAdd, Nat.reduceDiv, Int.reduceBEq, rules2, rulesX, rowsX]
        exact ⟨⟨⟨rfl, rfl, rfl, trivial⟩, rfl, trivial⟩, rfl⟩
    · rw [ite_f hb7] at h
      try simp only [hσ, hb7, c_impl_RebuildDesk_1, c_impl_RebuildDesk_n1, Nat.reduceBEq, Nat.reduceMul, Nat.reduceAdd, Nat.reduceDiv, Int.reduceBEq, rules2, rulesX, rowsX]
      cases h
      try simp only [rulesR, Nat.reduceBEq, Nat.reduceMul, Nat.reduceAdd, Nat.reduceDiv, Int.reduceBEq, rules2, rulesX, rowsX]
      exact ⟨⟨⟨rfl, rfl, rfl, trivial⟩, rfl, trivial⟩, rfl⟩
theorem e_impl_RebuildDesk : entry Tryz.prog 12 = some (c_impl_RebuildDesk.strip, [.c 4 true 3, 5], 42) := by kernel_rfl
theorem w_impl_RebuildDesk (a0 : Int) (a1 : List UInt8) (r : XDesk × Int) (h : f_impl_RebuildDesk a0 a1 = some r) : FC Tryz.prog 12 [.sc (.int .i64 a0), .sc (.str a1)] [.ag [.v (.int .i64 r.1.Now), .o 1 (List.map rI r.1.Starts), .o 1 (List.map rB r.1.Cleared)], .sc (.v (.int .i64 r.2))] := by
  unfold f_impl_RebuildDesk at h
  refine FC_go (σ := ⟨[(0, vc (aI a0)), (1, vc (aS a1))], [], []⟩) mixed e_impl_RebuildDesk rfl rfl ?_
  simp only [c_impl_RebuildDesk]
  try simp only [Nat.reduceBEq, Nat.reduceMul, Nat.reduceAdd, Nat.reduceDiv, Int.reduceBEq, rules2, rulesX, rowsX]
  refine go_al rfl rfl ?_
  obtain ⟨r1, hr1, h⟩ := ob h
  try simp only [Nat.reduceBEq, Nat.reduceMul, Nat.reduceAdd, Nat.reduceDiv, Int.reduceBEq, rules2, rulesX, rowsX]
  refine go_callI (w_impl_DeskNew _ _ hr1) rfl rfl (Nat.le_of_ble_eq_true rfl) ?_
  try simp only [Nat.reduceBEq, Nat.reduceMul, Nat.reduceAdd, Nat.reduceDiv, Int.reduceBEq, rules2, rulesX, rowsX]
  refine go_al rfl rfl ?_
  obtain ⟨r2, hr2, h⟩ := ob h
  try simp only [Nat.reduceBEq, Nat.reduceMul, Nat.reduceAdd, Nat.reduceDiv, Int.reduceBEq, rules2, rulesX, rowsX]
  refine go_callI (w_impl_ReadJournal _ _ hr2) rfl rfl (Nat.le_of_ble_eq_true rfl) ?_
  try simp only [Nat.reduceBEq, Nat.reduceMul, Nat.reduceAdd, Nat.reduceDiv, Int.reduceBEq, rules2, rulesX, rowsX]
  refine w_impl_RebuildDesk_1 _ _ _ _ _ _ _ h _ ?_
  try simp only [Nat.reduceBEq, Nat.reduceMul, Nat.reduceAdd, Nat.reduceDiv, Int.reduceBEq, rules2, rulesX, rowsX, List.map_nil]
/- 30: slices_Equal_int -/
def c_slices_Equal_int_1 : ACode := .seq (.reg [(none, .keep [0, 1, 12, 13] [] [])]) (.seq (.reg [(none, .bin 14 .lss (S 13) (S 12))]) (.seq (.cond (S 14) .skip (.exit 0)) (.seq (.block 1 (.seq (.reg [(none, .mv 15 (S 13)), (none, .mv 5 (S 15))]) (.seq (.drw [(some [], (none, .mv 16 (S 0))), (some [], (none, .mv 17 (S 5))), (some [], (none, .iaddr 18 (S 16) (S 17) 1)), (some [], (none, .load 19 (S 18) false 1)), (some [], (none, .mv 20 (S 1))), (some [], (none, .mv 21 (S 5))), (some [], (none, .iaddr 22 (S 20) (S 21) 1)), (some [], (none, .load 23 (S 22) false 1)), (some [], (none, .bin 24 .neq (S 19) (S 23)))]) (.cond (S 24) (.seq (.reg [(none, .mv 4 (KB false))]) .ret) .skip)))) (.reg [(none, .bin 25 .add (S 13) (K 1)), (none, .mv 13 (S 25))]))))
def c_slices_Equal_int_n1 : ACode := (.seq (.reg [(none, .mv 4 (KB true))]) .ret)
def c_slices_Equal_int : ACode := (.seq (.reg [(none, .mv 4 (KB false))]) (.seq (.seq (.reg [(none, .mv 6 (S 0)), (none, .len 7 (S 6)), (none, .mv 8 (S 1)), (none, .len 9 (S 8)), (none, .bin 10 .neq (S 7) (S 9))]) (.cond (S 10) (.seq (.reg [(none, .mv 4 (KB false))]) .ret) .skip)) (.seq (.seq (.reg [(none, .mv 11 (S 0)), (none, .len 12 (S 11)), (none, .mv 13 (K 0))]) (.block 0 (.loop c_slices_Equal_int_1))) c_slices_Equal_int_n1)))
theorem w_slices_Equal_int_1 (a0 : List Int) (a1 : List Int) : ∀ (n : Nat) (v2 : Int) (r : Bool), f_slices_Equal_int_1 a0 a1 n v2 = some r → ∀ σ : St, σ.kept [0, 1, 12, 13] [] [] = ⟨[(0, vc (aL (List.map rI a0))), (1, vc (aL (List.map rI a1))), (12, vc (aI (a0.length : Int))), (13, vc (aI v2))], [], []⟩ → go Tryz.prog (.code (.loop c_slices_Equal_int_1) :: [.blk 0, .code c_slices_Equal_int_n1]) (Ret [4] [.sc (.v (.bool r))]) .normal (some σ) := by
  intro n
  induction n with
  | zero => intro _ r h; cases h
  | succ n ih =>
    intro v2 r h σ hσ
    rw [f_slices_Equal_int_1] at h
    refine go_round ?_
    rcases Bool.eq_false_or_eq_true (decide (v2 < (a0.length : Int))) with hb3 | hb3
    · rw [ite_t hb3] at h
      try simp only [hσ, hb3, c_slices_Equal_int_1, Nat.reduceBEq, Nat.reduceMul, Nat.reduceAdd, Nat.reduceDiv, Int.reduceBEq, rules2, rulesX, rowsX]
      refine go_fr_of rfl ?_
      obtain ⟨x4, hx4, h⟩ := ob h
      obtain ⟨x5, hx5, h⟩ := ob h
      rcases Bool.eq_false_or_eq_true (x4 != x5) with hb6 | hb6
      · rw [ite_t hb6] at h
        try simp only [hb3, hx4, hx5, hb6, Nat.reduceBEq, Nat.reduceMul, Nat.reduceAdd, Nat.reduceDiv, Int.reduceBEq, rules2, rulesX, rowsX]
        cases h
        exact ⟨⟨rfl, trivial⟩, rfl⟩
      · rw [ite_f hb6] at h
        try simp only [hb3, hx4, hx5, hb6, Nat.reduceBEq, Nat.reduceMul, Nat.reduceAdd, Nat.reduceDiv, Int.reduceBEq, rules2, rulesX, rowsX]
        refine ih _ _ h _ ?_
        try simp only [hb3, hx4, hx5, hb6, Nat.reduceBEq, Nat.reduceMul, Nat.reduceAdd, Nat.reduceDiv, Int.reduceBEq, rules2, rulesX, rowsX, List.map_nil]
    · rw [ite_f hb3] at h
      try simp only [hσ, hb3, c_slices_Equal_int_1, c_slices_Equal_int_n1, Nat.reduceBEq, Nat.reduceMul, Nat.reduceAdd, Nat.reduceDiv, Int.reduceBEq, rules2, rulesX, rowsX]
      cases h
      exact ⟨⟨rfl, trivial⟩, rfl⟩
theorem e_slices_Equal_int : entry Tryz.prog 30 = some (c_slices_Equal_int.strip, [4], 26) := by kernel_rfl
theorem w_slices_Equal_int (a0 : List Int) (a1 : List Int) (r : Bool) (h : f_slices_Equal_int a0 a1 = some r) : FC Tryz.prog 30 [.sc (.sl (List.map rI a0)), .sc (.sl (List.map rI a1))] [.sc (.v (.bool r))] := by
  unfold f_slices_Equal_int at h
  refine FC_go (σ := ⟨[(0, vc (aL (List.map rI a0))), (1, vc (aL (List.map rI a1)))], [], []⟩) mixed e_slices_Equal_int rfl rfl ?_
  simp only [c_slices_Equal_int]
  rcases Bool.eq_false_or_eq_true ((a0.length : Int) != (a1.length : Int)) with hb1 | hb1
  · rw [ite_t hb1] at h
    try simp only [hb1, Nat.reduceBEq, Nat.reduceMul, Nat.reduceAdd, Nat.reduceDiv, Int.reduceBEq, rules2, rulesX, rowsX]
    cases h
    exact ⟨⟨rfl, trivial⟩, rfl⟩
  · rw [ite_f hb1] at h
    try simp only [hb1, Nat.reduceBEq, Nat.reduceMul, Nat.reduceAdd, Nat.reduceDiv, Int.reduceBEq, rules2, rulesX, rowsX]
    refine w_slices_Equal_int_1 _ _ _ _ _ h _ ?_
    try simp only [hb1, Nat.reduceBEq, Nat.reduceMul, Nat.reduceAdd, Nat.reduceDiv, Int.reduceBEq, rules2, rulesX, rowsX, List.map_nil]
/- 31: slices_Equal_bool -/
def c_slices_Equal_bool_1 : ACode := .seq (.reg [(none, .keep [0, 1, 12, 13] [] [])]) (.seq (.reg [(none, .bin 14 .lss (S 13) (S 12))]) (.seq (.cond (S 14) .skip (.exit 0)) (.seq (.block 1 (.seq (.reg [(none, .mv 15 (S 13)), (none, .mv 5 (S 15))]) (.seq (.drw [(some [], (none, .mv 16 (S 0))), (some [], (none, .mv 17 (S 5))), (some [], (none, .iaddr 18 (S 16) (S 17) 1)), (some [], (none, .load 19 (S 18) false 1)), (some [], (none, .mv 20 (S 1))), (some [], (none, .mv 21 (S 5))), (some [], (none, .iaddr 22 (S 20) (S 21) 1)), (some [], (none, .load 23 (S 22) false 1)), (some [], (none, .beq 24 true (S 19) (S 23)))]) (.cond (S 24) (.seq (.reg [(none, .mv 4 (KB false))]) .ret) .skip)))) (.reg [(none, .bin 25 .add (S 13) (K 1)), (none, .mv 13 (S 25))]))))
def c_slices_Equal_bool_n1 : ACode := (.seq (.reg [(none, .mv 4 (KB true))]) .ret)
def c_slices_Equal_bool : ACode := (.seq (.reg [(none, .mv 4 (KB false))]) (.seq (.seq (.reg [(none, .mv 6 (S 0)), (none, .len 7 (S 6)), (none, .mv 8 (S 1)), (none, .len 9 (S 8)), (none, .bin 10 .neq (S 7) (S 9))]) (.cond (S 10) (.seq (.reg [(none, .mv 4 (KB false))]) .ret) .skip)) (.seq (.seq (.reg [(none, .mv 11 (S 0)), (none, .len 12 (S 11)), (none, .mv 13 (K 0))]) (.block 0 (.loop c_slices_Equal_bool_1))) c_slices_Equal_bool_n1)))
theorem w_slices_Equal_bool_1 (a0 : List Bool) (a1 : List Bool) : ∀ (n : Nat) (v2 : Int) (r : Bool), f_slices_Equal_bool_1 a0 a1 n v2 = some r → ∀ σ : St, σ.kept [0, 1, 12, 13] [] [] = ⟨[(0, vc (aL (List.map rB a0))), (1, vc (aL (List.map rB a1))), (12, vc (aI (a0.length : Int))), (13, vc (aI v2))], [], []⟩ → go Tryz.prog (.code (.loop c_slices_Equal_bool_1) :: [.blk 0, .code c_slices_Equal_bool_n1]) (Ret [4] [.sc (.v (.bool r))]) .normal (some σ) := by
  intro n
  induction n with
  | zero => intro _ r h; cases h
  | succ n ih =>
    intro v2 r h σ hσ
    rw [f_slices_Equal_bool_1] at h
    refine go_round ?_
    rcases Bool.eq_false_or_eq_true (decide (v2 < (a0.length : Int))) with hb3 | hb3
    · rw [ite_t hb3] at h
      try simp only [hσ, hb3, c_slices_Equal_bool_1, Nat.reduceBEq, Nat.reduceMul, Nat.reduceAdd, Nat.reduceDiv, Int.reduceBEq, rules2, rulesX, rowsX]
      refine go_fr_of rfl ?_
      obtain ⟨x4, hx4, h⟩ := ob h
      obtain ⟨x5, hx5, h⟩ := ob h
      rcases Bool.eq_false_or_eq_true (x4 == x5) with hb6 | hb6
      · rw [ite_t hb6] at h
        try simp only [hb3, hx4, hx5, hb6, Nat.reduceBEq, Nat.reduceMul, Nat.reduceAdd, Nat.reduceDiv, Int.reduceBEq, rules2, rulesX, rowsX]
        refine ih _ _ h _ ?_
        try simp only [hb3, hx4, hx5, hb6, Nat.reduceBEq, Nat.reduceMul, Nat.reduceAdd, Nat.reduceDiv, Int.reduceBEq, rules2, rulesX, rowsX, List.map_nil]
      · rw [ite_f hb6] at h
        try simp only [hb3, hx4, hx5, hb6, Nat.reduceBEq, Nat.reduceMul, Nat.reduceAdd, Nat.reduceDiv, Int.reduceBEq, rules2, rulesX, rowsX]
        cases h
        exact ⟨⟨rfl, trivial⟩, rfl⟩
    · rw [ite_f hb3] at h
      try simp only [hσ, hb3, c_slices_Equal_bool_1, c_slices_Equal_bool_n1, Nat.reduceBEq, Nat.reduceMul, Nat.reduceAdd, Nat.reduceDiv, Int.reduceBEq, rules2, rulesX, rowsX]
      cases h
      exact ⟨⟨rfl, trivial⟩, rfl⟩
theorem e_slices_Equal_bool : entry Tryz.prog 31 = some (c_slices_Equal_bool.strip, [4], 26) := by kernel_rfl
theorem w_slices_Equal_bool (a0 : List Bool) (a1 : List Bool) (r : Bool) (h : f_slices_Equal_bool a0 a1 = some r) : FC Tryz.prog 31 [.sc (.sl (List.map rB a0)), .sc (.sl (List.map rB a1))] [.sc (.v (.bool r))] := by
  unfold f_slices_Equal_bool at h
  refine FC_go (σ := ⟨[(0, vc (aL (List.map rB a0))), (1, vc (aL (List.map rB a1)))], [], []⟩) mixed e_slices_Equal_bool rfl rfl ?_
  simp only [c_slices_Equal_bool]
  rcases Bool.eq_false_or_eq_true ((a0.length : Int) != (a1.length : Int)) with hb1 | hb1
  · rw [ite_t hb1] at h
    try simp only [hb1, Nat.reduceBEq, Nat.reduceMul, Nat.reduceAdd, Nat.reduceDiv, Int.reduceBEq, rules2, rulesX, rowsX]
    cases h
    exact ⟨⟨rfl, trivial⟩, rfl⟩
  · rw [ite_f hb1] at h
    try simp only [hb1, Nat.reduceBEq, Nat.reduceMul, Nat.reduceAdd, Nat.reduceDiv, Int.reduceBEq, rules2, rulesX, rowsX]
    refine w_slices_Equal_bool_1 _ _ _ _ _ h _ ?_
    try simp only [hb1, Nat.reduceBEq, Nat.reduceMul, Nat.reduceAdd, Nat.reduceDiv, Int.reduceBEq, rules2, rulesX, rowsX, List.map_nil]
/- 13: impl_SameDesks -/
def c_impl_SameDesks : ACode := (.seq (.reg [(none, .box 2 (S 0)), (none, .box 3 (S 1)), (none, .mv 4 (KB false))]) (.seq (.reg [(none, .faddr 5 (S 2) 0), (none, .load 6 (S 5) false 1), (none, .faddr 7 (S 3) 0), (none, .load 8 (S 7) false 1), (none, .bin 9 .eql (S 6) (S 8)), (none, .mv 10 (S 9)), (some (10, true), .faddr 11 (S 2) 1), (some (10, true), .load 12 (S 11) false 1), (some (10, true), .faddr 13 (S 3) 1), (some (10, true), .load 14 (S 13) false 1), (some (10, true), .call 15 30 [(S 12), (S 14)]), (none, .pick 16 (S 10) (S 15) (KB false)), (none, .mv 17 (S 16)), (some (17, true), .faddr 18 (S 2) 2), (some (17, true), .load 19 (S 18) false 1), (some (17, true), .faddr 20 (S 3) 2), (some (17, true), .load 21 (S 20) false 1), (some (17, true), .call 22 31 [(S 19), (S 21)]), (none, .pick 23 (S 17) (S 22) (KB false)), (none, .mv 4 (S 23))]) .ret))
theorem e_impl_SameDesks : entry Tryz.prog 13 = some (c_impl_SameDesks.strip, [4], 24) := by kernel_rfl
theorem w_impl_SameDesks (a0 : XDesk) (a1 : XDesk) (r : Bool) (h : f_impl_SameDesks a0 a1 = some r) : FC Tryz.prog 13 [.ag (XDesk.row a0), .ag (XDesk.row a1)] [.sc (.v (.bool r))] := by
  unfold f_impl_SameDesks at h
  refine FC_go (σ := ⟨[(0, va [aI a0.Now, aL (List.map rI a0.Starts), aL (List.map rB a0.Cleared)]), (1, va [aI a1.Now, aL (List.map rI a1.Starts), aL (List.map rB a1.Cleared)])], [], []⟩) mixed e_impl_SameDesks rfl rfl ?_
  simp only [c_impl_SameDesks]
  try simp only [Nat.reduceBEq, Nat.reduceMul, Nat.reduceAdd, Nat.reduceDiv, Int.reduceBEq, rules2, rulesX, rowsX]
  refine go_bx rfl rfl rfl ?_
  try simp only [Nat.reduceBEq, Nat.reduceMul, Nat.reduceAdd, Nat.reduceDiv, Int.reduceBEq, rules2, rulesX, rowsX]
  refine go_bx rfl rfl rfl ?_
  rcases Bool.eq_false_or_eq_true (a0.Now == a1.Now) with hb1 | hb1
  · rw [ite_t hb1] at h
    obtain ⟨r2, hr2, h⟩ := ob h
    try simp only [hb1, Nat.reduceBEq, Nat.reduceMul, Nat.reduceAdd, Nat.reduceDiv, Int.reduceBEq, rules2, rulesX, rowsX]
    refine go_callI (w_slices_Equal_int _ _ _ hr2) rfl rfl (Nat.le_of_ble_eq_true rfl) ?_
    rcases Bool.eq_false_or_eq_true r2 with hb3 | hb3
    · rw [ite_t hb3] at h
      obtain ⟨r4, hr4, h⟩ := ob h
      try simp only [hb1, hb3, Nat.reduceBEq, Nat.reduceMul, Nat.reduceAdd, Nat.reduceDiv, Int.reduceBEq, rules2, rulesX, rowsX]
      refine go_callI (w_slices_Equal_bool _ _ _ hr4) rfl rfl (Nat.le_of_ble_eq_true rfl) ?_
      try simp only [hb1, hb3, Nat.reduceBEq, Nat.reduceMul, Nat.reduceAdd, Nat.reduceDiv, Int.reduceBEq, rules2, rulesX, rowsX]
      cases h
      exact ⟨⟨rfl, trivial⟩, rfl⟩
    · rw [ite_f hb3] at h
      try simp only [hb1, hb3, Nat.reduceBEq, Nat.reduceMul, Nat.reduceAdd, Nat.reduceDiv, Int.reduceBEq, rules2, rulesX, rowsX]
      cases h
      exact ⟨⟨rfl, trivial⟩, rfl⟩
  · rw [ite_f hb1] at h
    try simp only [hb1, Nat.reduceBEq, Nat.reduceMul, Nat.reduceAdd, Nat.reduceDiv, Int.reduceBEq, rules2, rulesX, rowsX]
    cases h
    exact ⟨⟨rfl, trivial⟩, rfl⟩
/- 14: impl_DeskLine -/
def c_impl_DeskLine_1 : ACode := .seq (.reg [(none, .keep [1, 3, 13, 14, 15] [1] [])]) (.seq (.reg [(none, .bin 16 .lss (S 15) (S 14))]) (.seq (.cond (S 16) .skip (.exit 0)) (.seq (.block 1 (.seq (.reg [(none, .mv 17 (S 15)), (none, .iaddr 18 (S 13) (S 15) 1), (none, .load 19 (S 18) false 1), (none, .mv 4 (S 17)), (none, .mv 5 (S 19))]) (.block 2 (.seq (.reg [(none, .mv 26 (S 5)), (none, .bin 27 .lss (S 26) (K 0)), (none, .mv 25 (S 27))]) (.cond (S 25) (.reg [(none, .mv 28 (S 3)), (none, .bin 29 .add (S 28) (KS [32, 45])), (none, .mv 3 (S 29))]) (.seq (.reg [(none, .faddr 31 (S 1) 2), (none, .load 32 (S 31) false 1), (none, .mv 33 (S 4)), (none, .iaddr 34 (S 32) (S 33) 1), (none, .load 35 (S 34) false 1), (none, .mv 30 (S 35))]) (.cond (S 30) (.reg [(none, .mv 36 (S 3)), (none, .mv 37 (S 5)), (none, .call 38 27 [(S 37)]), (none, .bin 39 .add (KS [32]) (S 38)), (none, .bin 40 .add (S 39) (KS [33])), (none, .bin 41 .add (S 36) (S 40)), (none, .mv 3 (S 41))]) (.reg [(none, .mv 20 (S 3)), (none, .mv 21 (S 5)), (none, .call 22 27 [(S 21)]), (none, .bin 23 .add (KS [32]) (S 22)), (none, .bin 24 .add (S 20) (S 23)), (none, .mv 3 (S 24))])))))))) (.reg [(none, .bin 42 .add (S 15) (K 1)), (none, .mv 15 (S 42))]))))
def c_impl_DeskLine_n1 : ACode := (.seq (.reg [(none, .mv 43 (S 3)), (none, .mv 2 (S 43))]) .ret)
def c_impl_DeskLine : ACode := (.seq (.reg [(none, .box 1 (S 0)), (none, .mv 2 (KS []))]) (.seq (.seq (.reg [(none, .load 6 (S 1) true 3), (none, .call 7 11 [(S 6)]), (none, .un 8 .not (S 7))]) (.cond (S 8) (.seq (.reg [(none, .mv 2 (KS []))]) .ret) .skip)) (.seq (.reg [(none, .faddr 9 (S 1) 0), (none, .load 10 (S 9) false 1), (none, .call 11 27 [(S 10)]), (none, .mv 3 (S 11))]) (.seq (.seq (.reg [(none, .faddr 12 (S 1) 1), (none, .load 13 (S 12) false 1), (none, .len 14 (S 13)), (none, .mv 15 (K 0))]) (.block 0 (.loop c_impl_DeskLine_1))) c_impl_DeskLine_n1))))
theorem w_impl_DeskLine_1 (a0 : XDesk) : ∀ (n : Nat) (v4 : List UInt8) (v5 : Int) (r : (List UInt8)), f_impl_DeskLine_1 a0 n v4 v5 = some r → ∀ σ : St, σ.kept [1, 3, 13, 14, 15] [1] [] = ⟨[(1, vc (.pb 1 0)), (3, vc (aS v4)), (13, vc (aL (List.map rI a0.Starts))), (14, vc (aI (a0.Starts.length : Int))), (15, vc (aI v5))], [(1, [aI a0.Now, aL (List.map rI a0.Starts), aL (List.map rB a0.Cleared)])], []⟩ → go Tryz.prog (.code (.loop c_impl_DeskLine_1) :: [.blk 0, .code c_impl_DeskLine_n1]) (Ret [2] [.sc (.v (.str r))]) .normal (some σ) := by
  intro n
  induction n with
  | zero => intro _ _ r h; cases h
  | succ n ih =>
    intro v4 v5 r h σ hσ
    rw [f_impl_DeskLine_1] at h
    refine go_round ?_
    rcases Bool.eq_false_or_eq_true (decide (v5 < (a0.Starts.length : Int))) with hb6 | hb6
    · rw [ite_t hb6] at h
      obtain ⟨x7, hx7, h⟩ := ob h
      rcases Bool.eq_false_or_eq_true (decide (x7 < (0 : Int))) with hb8 | hb8
      · rw [ite_t hb8] at h
        obtain ⟨hg9, h⟩ := of_guard h
        try simp only [hσ, hb6, hx7, hb8, hg9, c_impl_DeskLine_1, Nat.reduceBEq, Nat.reduceMul, Nat.reduceAdd, Nat.reduceDiv, Int.reduceBEq, rules2, rulesX, rowsX]
        refine ih _ _ _ h _ ?_
        try simp only [hb6, hx7, hb8, hg9, Nat.reduceBEq, Nat.reduceMul, Nat.reduceAdd, Nat.reduceDiv, Int.reduceBEq, rules2, rulesX, rowsX, List.map_nil]
      · rw [ite_f hb8] at h
        obtain ⟨x10, hx10, h⟩ := ob h
        rcases Bool.eq_false_or_eq_true x10 with hb11 | hb11
        · rw [ite_t hb11] at h
          obtain ⟨r12, hr12, h⟩ := ob h
          try simp only [hσ, hb6, hx7, hb8, hx10, hb11, c_impl_DeskLine_1, Nat.reduceBEq, Nat.reduceMul, Nat.reduceAdd, Nat.reduceDiv, Int.reduceBEq, rules2, rulesX, rowsX]
          refine go_callI (w_impl_FormatInt _ _ hr12) rfl rfl (Nat.le_of_ble_eq_true rfl) ?_
          obtain ⟨hg13, h⟩ := of_guard h
          obtain ⟨hg14, h⟩ := of_guard h
          try simp only [List.cons_append, List.nil_append] at hg14
          obtain ⟨hg15, h⟩ := of_guard h
          try simp only [List.cons_append, List.nil_append] at hg15
          try simp only [hb6, hx7, hb8, hx10, hb11, hg13, hg14, hg15, Nat.reduceBEq, Nat.reduceMul, Nat.reduceAdd, Nat.reduceDiv, Int.reduceBEq, rules2, rulesX, rowsX]
          refine ih _ _ _ h _ ?_
          try simp only [hb6, hx7, hb8, hx10, hb11, hg13, hg14, hg15, Nat.reduceBEq, Nat.reduceMul, Nat.reduceAdd, Nat.reduceDiv, Int.reduceBEq, rules2, rulesX, rowsX, List.map_nil]
        · rw [ite_f hb11] at h
          obtain ⟨r16, hr16, h⟩ := ob h
          try simp only [hσ, hb6, hx7, hb8, hx10, hb11, c_impl_DeskLine_1, Nat.reduceBEq, Nat.reduceMul, Nat.reduceAdd, Nat.reduceDiv, Int.reduceBEq, rules2, rulesX, rowsX]
          refine go_callI (w_impl_FormatInt _ _ hr16) rfl rfl (Nat.le_of_ble_eq_true rfl) ?_
          obtain ⟨hg17, h⟩ := of_guard h
          obtain ⟨hg18, h⟩ := of_guard h
          try simp only [List.cons_append, List.nil_append] at hg18
          try simp only [hb6, hx7, hb8, hx10, hb11, hg17, hg18, Nat.reduceBEq, Nat.reduceMul, Nat.reduceAdd, Nat.reduceDiv, Int.reduceBEq, rules2, rulesX, rowsX]
          refine ih _ _ _ h _ ?_
          try simp only [hb6, hx7, hb8, hx10, hb11, hg17, hg18, Nat.reduceBEq, Nat.reduceMul, Nat.reduceAdd, Nat.reduceDiv, Int.reduceBEq, rules2, rulesX, rowsX, List.map_nil]
    · rw [ite_f hb6] at h
      try simp only [hσ, hb6, c_impl_DeskLine_1, c_impl_DeskLine_n1, Nat.reduceBEq, Nat.reduceMul, Nat.reduceAdd, Nat.reduceDiv, Int.reduceBEq, rules2, rulesX, rowsX]
      cases h
      exact ⟨⟨rfl, trivial⟩, rfl⟩
theorem e_impl_DeskLine : entry Tryz.prog 14 = some (c_impl_DeskLine.strip, [2], 44) := by kernel_rfl
theorem w_impl_DeskLine (a0 : XDesk) (r : (List UInt8)) (h : f_impl_DeskLine a0 = some r) : FC Tryz.prog 14 [.ag (XDesk.row a0)] [.sc (.v (.str r))] := by
  unfold f_impl_DeskLine at h
  refine FC_go (σ := ⟨[(0, va [aI a0.Now, aL (List.map rI a0.Starts), aL (List.map rB a0.Cleared)])], [], []⟩) mixed e_impl_DeskLine rfl rfl ?_
  simp only [c_impl_DeskLine]
  try simp only [Nat.reduceBEq, Nat.reduceMul, Nat.reduceAdd, Nat.reduceDiv, Int.reduceBEq, rules2, rulesX, rowsX]
  refine go_bx rfl rfl rfl ?_
  obtain ⟨r1, hr1, h⟩ := ob h
  try simp only [Nat.reduceBEq, Nat.reduceMul, Nat.reduceAdd, Nat.reduceDiv, Int.reduceBEq, rules2, rulesX, rowsX]
  refine go_callI (w_impl_DeskOk _ _ hr1) rfl rfl (Nat.le_of_ble_eq_true rfl) ?_
  rcases Bool.eq_false_or_eq_true r1 with hb2 | hb2
  · rw [ite_t hb2] at h
    obtain ⟨r3, hr3, h⟩ := ob h
    try simp only [hb2, Nat.reduceBEq, Nat.reduceMul, Nat.reduceAdd, Nat.reduceDiv, Int.reduceBEq, rules2, rulesX, rowsX]
    refine go_callI (w_impl_FormatInt _ _ hr3) rfl rfl (Nat.le_of_ble_eq_true rfl) ?_
    try simp only [hb2, Nat.reduceBEq, Nat.reduceMul, Nat.reduceAdd, Nat.reduceDiv, Int.reduceBEq, rules2, rulesX, rowsX]
    refine w_impl_DeskLine_1 _ _ _ _ _ h _ ?_
    try simp only [hb2, Nat.reduceBEq, Nat.reduceMul, Nat.reduceAdd, Nat.reduceDiv, Int.reduceBEq, rules2, rulesX, rowsX, List.map_nil]
  · rw [ite_f hb2] at h
    try simp only [hb2, Nat.reduceBEq, Nat.reduceMul, Nat.reduceAdd, Nat.reduceDiv, Int.reduceBEq, rules2, rulesX, rowsX]
    cases h
    exact ⟨⟨rfl, trivial⟩, rfl⟩
end Go.Vi
