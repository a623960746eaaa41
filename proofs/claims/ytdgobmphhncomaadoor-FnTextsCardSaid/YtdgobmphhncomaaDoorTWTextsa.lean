/-
  Walks: what the plain definitions compute is what the functions return. By program. No condition.
-/
import Derived.Test.YtdgobmphhncomaaDoorTNf
import Derived.Test.YtdgobmphhncomaaDoorChecked
import Derived.Test.YtdgobmphhncomaaDoorTSh
import Derived.KernelRfl
namespace Go.Vi
open Go.Proofs
set_option linter.unusedSimpArgs false
set_option linter.unusedVariables false
set_option maxRecDepth 4000
set_option maxHeartbeats 2000000
attribute [local irreducible] go AWP
theorem mixed : Tryd.prog.follows .mixedOrders = true := by kernel_rfl
/- 51: spec_l01New -/
def c_spec_l01New_1 : ACode := .seq (.reg [(none, .keep [0, 3, 4] [] [])]) (.seq (.seq (.reg [(none, .mv 8 (S 4)), (none, .mv 9 (S 0)), (none, .len 10 (S 9)), (none, .bin 11 .lss (S 8) (S 10)), (none, .mv 12 (S 11)), (some (12, true), .mv 13 (S 4)), (some (12, true), .bin 14 .lss (S 13) (K 4000)), (none, .pick 15 (S 12) (S 14) (KB false))]) (.cond (S 15) .skip (.exit 0))) (.seq (.block 1 (.reg [(none, .mv 18 (S 3)), (none, .bin 19 .mul (S 18) (K 79)), (none, .mv 20 (S 0)), (none, .mv 21 (S 4)), (none, .iaddr 22 (S 20) (S 21) 1), (none, .load 23 (S 22) false 1), (none, .conv 24 .i64 (S 23)), (none, .bin 25 .add (S 19) (S 24)), (none, .bin 26 .add (S 25) (K 7)), (none, .bin 27 .and (S 26) (K 1073741823)), (none, .mv 3 (S 27))])) (.reg [(none, .mv 16 (S 4)), (none, .bin 17 .add (S 16) (K 1)), (none, .mv 4 (S 17))])))
def c_spec_l01New_2 : ACode := .seq (.reg [(none, .keep [0, 3] [] [])]) (.seq (.reg [(none, .mv 28 (S 0)), (none, .mv 29 (S 3)), (none, .build 30 [.nil, aI 0, aI 0] [(0, 1, (S 28)), (2, 1, (S 29))]), (none, .box 31 (S 30)), (none, .mv 2 (S 31))]) .ret)
def c_spec_l01New : ACode := (.seq (.reg [(none, .mv 2 (.c (.v (.sc .undef))))]) (.seq (.reg [(none, .mv 5 (S 0)), (none, .len 6 (S 5)), (none, .bin 7 .add (K 1976) (S 6)), (none, .mv 3 (S 7))]) (.seq (.seq (.reg [(none, .mv 4 (K 0))]) (.block 0 (.loop c_spec_l01New_1))) c_spec_l01New_2)))
theorem w_spec_l01New_2 (a0 : List Int) (v1 : Int) (r : Xl01Cur) (h : f_spec_l01New_2 a0 v1 = some r) (σ : St) (hσ : σ.kept [0, 3] [] [] = ⟨[(0, vc (aL (List.map r8 a0))), (3, vc (aI v1))], [], []⟩) : go Tryd.prog (.code c_spec_l01New_2 :: []) (RetN [2] [.sl (List.map r8 r.b), .int .i64 r.i, .int .i64 r.h]) .normal (some σ) := by
  unfold f_spec_l01New_2 at h
  try simp only [hσ, c_spec_l01New_2, Nat.reduceBEq, Nat.reduceMul, Nat.reduceAdd, Nat.reduceDiv, Int.reduceBEq, rules2, rulesX, rowsX]
  refine go_bx rfl rfl rfl ?_
  try simp only [Nat.reduceBEq, Nat.reduceMul, Nat.reduceAdd, Nat.reduceDiv, Int.reduceBEq, rules2, rulesX, rowsX]
  cases h
  exact ⟨_, 31, rfl, rfl, rfl, rfl⟩
theorem w_spec_l01New_1 (a0 : List Int) : ∀ (n : Nat) (v1 : Int) (v2 : Int) (r : Xl01Cur), f_spec_l01New_1 a0 n v1 v2 = some r → ∀ σ : St, σ.kept [0, 3, 4] [] [] = ⟨[(0, vc (aL (List.map r8 a0))), (3, vc (aI v1)), (4, vc (aI v2))], [], []⟩ → go Tryd.prog (.code (.loop c_spec_l01New_1) :: [.blk 0, .code c_spec_l01New_2]) (RetN [2] [.sl (List.map r8 r.b), .int .i64 r.i, .int .i64 r.h]) .normal (some σ) := by
  intro n
  induction n with
  | zero => intro _ _ r h; cases h
  | succ n ih =>
    intro v1 v2 r h σ hσ
    rw [f_spec_l01New_1] at h
    refine go_round ?_
    rcases Bool.eq_false_or_eq_true (decide (v2 < (a0.length : Int))) with hb3 | hb3
    · rw [ite_t hb3] at h
      rcases Bool.eq_false_or_eq_true (decide (v2 < (4000 : Int))) with hb4 | hb4
      · rw [ite_t hb4] at h
        obtain ⟨x5, hx5, h⟩ := ob h
        try simp only [hσ, hb3, hb4, hx5, c_spec_l01New_1, Nat.reduceBEq, Nat.reduceMul, Nat.reduceAdd, Nat.reduceDiv, Int.reduceBEq, rules2, rulesX, rowsX]
        refine ih _ _ _ h _ ?_
        try simp only [hb3, hb4, hx5, Nat.reduceBEq, Nat.reduceMul, Nat.reduceAdd, Nat.reduceDiv, Int.reduceBEq, rules2, rulesX, rowsX, List.map_nil]
      · rw [ite_f hb4] at h
        try simp only [hσ, hb3, hb4, c_spec_l01New_1, Nat.reduceBEq, Nat.reduceMul, Nat.reduceAdd, Nat.reduceDiv, Int.reduceBEq, rules2, rulesX, rowsX]
        refine w_spec_l01New_2 _ _ _ h _ ?_
        try simp only [hb3, hb4, Nat.reduceBEq, Nat.reduceMul, Nat.reduceAdd, Nat.reduceDiv, Int.reduceBEq, rules2, rulesX, rowsX, List.map_nil]
    · rw [ite_f hb3] at h
      try simp only [hσ, hb3, c_spec_l01New_1, Nat.reduceBEq, Nat.reduceMul, Nat.reduceAdd, Nat.reduceDiv, Int.reduceBEq, rules2, rulesX, rowsX]
      refine w_spec_l01New_2 _ _ _ h _ ?_
      try simp only [hb3, Nat.reduceBEq, Nat.reduceMul, Nat.reduceAdd, Nat.reduceDiv, Int.reduceBEq, rules2, rulesX, rowsX, List.map_nil]
theorem e_spec_l01New : entry Tryd.prog 51 = some (c_spec_l01New.strip, [2], 32) := by kernel_rfl
theorem w_spec_l01New (a0 : List Int) (r : Xl01Cur) (h : f_spec_l01New a0 = some r) : FCn Tryd.prog 51 [.sc (.sl (List.map r8 a0))] [.sl (List.map r8 r.b), .int .i64 r.i, .int .i64 r.h] := by
  unfold f_spec_l01New at h
  refine FCn_go (σ := ⟨[(0, vc (aL (List.map r8 a0)))], [], []⟩) mixed e_spec_l01New rfl rfl ?_
  simp only [c_spec_l01New]
  try simp only [Nat.reduceBEq, Nat.reduceMul, Nat.reduceAdd, Nat.reduceDiv, Int.reduceBEq, rules2, rulesX, rowsX]
  refine w_spec_l01New_1 _ _ _ _ _ h _ ?_
  try simp only [Nat.reduceBEq, Nat.reduceMul, Nat.reduceAdd, Nat.reduceDiv, Int.reduceBEq, rules2, rulesX, rowsX, List.map_nil]
/- 56: spec_l01Byte -/
def c_spec_l01Byte : ACode := (.seq (.reg [(none, .mv 2 (K 0))]) (.seq (.reg [(none, .mv 4 (S 0)), (none, .mv 5 (S 0)), (none, .nilc 6 (S 5)), (none, .faddr 7 (S 6) 2), (none, .load 8 (S 7) false 1), (none, .bin 9 .mul (S 8) (K 6364136223846793005)), (none, .bin 10 .add (S 9) (K 1442695040888963407)), (none, .nilc 11 (S 4)), (none, .faddr 12 (S 11) 2), (none, .store (S 12) (S 10) 1)]) (.seq (.drw [(some [], (none, .mv 13 (S 0))), (some [], (none, .nilc 14 (S 13))), (some [], (none, .faddr 15 (S 14) 2)), (some [], (none, .load 16 (S 15) false 1)), (some [], (none, .bin 17 .shr (S 16) (.c (.v (.sc (.dat (.int .u64 33))))))), (some [], (none, .mv 18 (S 0))), (some [], (none, .nilc 19 (S 18))), (some [], (none, .faddr 20 (S 19) 2)), (some [], (none, .load 21 (S 20) false 1)), (some [], (none, .bin 22 .shr (S 21) (.c (.v (.sc (.dat (.int .u64 45))))))), (some [], (none, .bin 23 .xor (S 17) (S 22))), (some [], (none, .bin 24 .and (S 23) (K 255))), (some [], (none, .mv 3 (S 24)))]) (.seq (.seq (.drw [(some [], (none, .mv 25 (S 0))), (some [], (none, .nilc 26 (S 25))), (some [], (none, .faddr 27 (S 26) 1)), (some [], (none, .load 28 (S 27) false 1)), (some [], (none, .mv 29 (S 0))), (some [], (none, .nilc 30 (S 29))), (some [], (none, .faddr 31 (S 30) 0)), (some [], (none, .load 32 (S 31) false 1)), (some [], (none, .len 33 (S 32))), (some [], (none, .bin 34 .lss (S 28) (S 33)))]) (.cond (S 34) (.seq (.drw [(some [], (none, .mv 35 (S 3))), (some [], (none, .mv 36 (S 0))), (some [], (none, .nilc 37 (S 36))), (some [], (none, .faddr 38 (S 37) 0)), (some [], (none, .load 39 (S 38) false 1)), (some [], (none, .mv 40 (S 0))), (some [], (none, .nilc 41 (S 40))), (some [], (none, .faddr 42 (S 41) 1)), (some [], (none, .load 43 (S 42) false 1)), (some [], (none, .iaddr 44 (S 39) (S 43) 1)), (some [], (none, .load 45 (S 44) false 1)), (some [], (none, .conv 46 .i64 (S 45))), (some [], (none, .bin 47 .add (S 35) (S 46))), (some [], (none, .bin 48 .and (S 47) (K 255))), (some [], (none, .mv 3 (S 48)))]) (.reg [(none, .mv 49 (S 0)), (none, .mv 50 (S 0)), (none, .nilc 51 (S 50)), (none, .faddr 52 (S 51) 1), (none, .load 53 (S 52) false 1), (none, .bin 54 .add (S 53) (K 1)), (none, .nilc 55 (S 49)), (none, .faddr 56 (S 55) 1), (none, .store (S 56) (S 54) 1)])) .skip)) (.seq (.reg [(none, .mv 57 (S 3)), (none, .mv 2 (S 57))]) .ret)))))
theorem e_spec_l01Byte : entry Tryd.prog 56 = some (c_spec_l01Byte.strip, [2], 58) := by kernel_rfl
theorem w_spec_l01Byte (a0 : Xl01Cur) (r : Int × Xl01Cur) (h : f_spec_l01Byte a0 = some r) : FCy Tryd.prog 56 [.p] [.sl (List.map r8 a0.b), .int .i64 a0.i, .int .i64 a0.h] [.sl (List.map r8 r.2.b), .int .i64 r.2.i, .int .i64 r.2.h] [.sc (.v (.int .i64 r.1))] := by
  unfold f_spec_l01Byte at h
  refine FCy_go (σ := ⟨[(0, vc (.pb 1099511627776 0))], [(1099511627776, [aL (List.map r8 a0.b), aI a0.i, aI a0.h])], []⟩) mixed e_spec_l01Byte rfl rfl ?_
  simp only [c_spec_l01Byte]
  try simp only [Nat.reduceBEq, Nat.reduceMul, Nat.reduceAdd, Nat.reduceDiv, Int.reduceBEq, rules2, rulesX, rowsX]
  refine go_fr_of rfl ?_
  try simp only [Nat.reduceBEq, Nat.reduceMul, Nat.reduceAdd, Nat.reduceDiv, Int.reduceBEq, rules2, rulesX, rowsX]
  refine go_fr_of rfl ?_
  rcases Bool.eq_false_or_eq_true (decide (a0.i < (a0.b.length : Int))) with hb1 | hb1
  · rw [ite_t hb1] at h
    try simp only [hb1, Nat.reduceBEq, Nat.reduceMul, Nat.reduceAdd, Nat.reduceDiv, Int.reduceBEq, rules2, rulesX, rowsX]
    refine go_fr_of rfl ?_
    obtain ⟨x2, hx2, h⟩ := ob h
    try simp only [hb1, hx2, Nat.reduceBEq, Nat.reduceMul, Nat.reduceAdd, Nat.reduceDiv, Int.reduceBEq, rules2, rulesX, rowsX]
    cases h
    exact ⟨⟨rfl, trivial⟩, rfl⟩
  · rw [ite_f hb1] at h
    try simp only [hb1, Nat.reduceBEq, Nat.reduceMul, Nat.reduceAdd, Nat.reduceDiv, Int.reduceBEq, rules2, rulesX, rowsX]
    cases h
    exact ⟨⟨rfl, trivial⟩, rfl⟩
/- 33: spec_l28New -/
def c_spec_l28New_1 : ACode := .seq (.reg [(none, .keep [1, 5, 6] [8] [])]) (.seq (.seq (.reg [(none, .mv 9 (S 6)), (none, .mv 10 (S 1)), (none, .bin 11 .lss (S 9) (S 10))]) (.cond (S 11) .skip (.exit 0))) (.seq (.block 1 (.reg [(none, .mv 14 (S 5)), (none, .call 15 56 [(S 14)])])) (.reg [(none, .mv 12 (S 6)), (none, .bin 13 .add (S 12) (K 1)), (none, .mv 6 (S 13))])))
def c_spec_l28New_n1 : ACode := (.seq (.reg [(none, .mv 16 (S 5)), (none, .mv 4 (S 16))]) .ret)
def c_spec_l28New : ACode := (.seq (.reg [(none, .mv 4 (.c (.v (.sc .undef))))]) (.seq (.reg [(none, .mv 7 (S 0)), (none, .call 8 51 [(S 7)]), (none, .mv 5 (S 8))]) (.seq (.seq (.reg [(none, .mv 6 (K 0))]) (.block 0 (.loop c_spec_l28New_1))) c_spec_l28New_n1)))
theorem w_spec_l28New_1 (a1 : Int) : ∀ (n : Nat) (v2 : Int) (v3 : List Int) (v4 : Int) (v5 : Int) (r : Xl01Cur), f_spec_l28New_1 a1 n v2 v3 v4 v5 = some r → ∀ σ : St, σ.kept [1, 5, 6] [8] [] = ⟨[(1, vc (aI a1)), (5, vc (.pb 8 0)), (6, vc (aI v2))], [(8, [aL (List.map r8 v3), aI v4, aI v5])], []⟩ → go Tryd.prog (.code (.loop c_spec_l28New_1) :: [.blk 0, .code c_spec_l28New_n1]) (RetN [4] [.sl (List.map r8 r.b), .int .i64 r.i, .int .i64 r.h]) .normal (some σ) := by
  intro n
  induction n with
  | zero => intro _ _ _ _ r h; cases h
  | succ n ih =>
    intro v2 v3 v4 v5 r h σ hσ
    rw [f_spec_l28New_1] at h
    refine go_round ?_
    rcases Bool.eq_false_or_eq_true (decide (v2 < a1)) with hb6 | hb6
    · rw [ite_t hb6] at h
      obtain ⟨r7, hr7, h⟩ := ob h
      try simp only [hσ, hb6, c_spec_l28New_1, Nat.reduceBEq, Nat.reduceMul, Nat.reduceAdd, Nat.reduceDiv, Int.reduceBEq, rules2, rulesX, rowsX]
      refine go_cally (w_spec_l01Byte _ _ hr7) 8 rfl rfl rfl ?_
      try simp only [hb6, Nat.reduceBEq, Nat.reduceMul, Nat.reduceAdd, Nat.reduceDiv, Int.reduceBEq, rules2, rulesX, rowsX]
      refine ih _ _ _ _ _ h _ ?_
      try simp only [hb6, Nat.reduceBEq, Nat.reduceMul, Nat.reduceAdd, Nat.reduceDiv, Int.reduceBEq, rules2, rulesX, rowsX, List.map_nil]
    · rw [ite_f hb6] at h
      try simp only [hσ, hb6, c_spec_l28New_1, c_spec_l28New_n1, Nat.reduceBEq, Nat.reduceMul, Nat.reduceAdd, Nat.reduceDiv, Int.reduceBEq, rules2, rulesX, rowsX]
      cases h
      exact ⟨_, 8, rfl, rfl, rfl, rfl⟩
theorem e_spec_l28New : entry Tryd.prog 33 = some (c_spec_l28New.strip, [4], 17) := by kernel_rfl
theorem w_spec_l28New (a0 : List Int) (a1 : Int) (r : Xl01Cur) (h : f_spec_l28New a0 a1 = some r) : FCn Tryd.prog 33 [.sc (.sl (List.map r8 a0)), .sc (.int .i64 a1)] [.sl (List.map r8 r.b), .int .i64 r.i, .int .i64 r.h] := by
  unfold f_spec_l28New at h
  refine FCn_go (σ := ⟨[(0, vc (aL (List.map r8 a0))), (1, vc (aI a1))], [], []⟩) mixed e_spec_l28New rfl rfl ?_
  simp only [c_spec_l28New]
  obtain ⟨r1, hr1, h⟩ := ob h
  try simp only [Nat.reduceBEq, Nat.reduceMul, Nat.reduceAdd, Nat.reduceDiv, Int.reduceBEq, rules2, rulesX, rowsX]
  refine go_calln (w_spec_l01New _ _ hr1) rfl rfl ?_
  try simp only [Nat.reduceBEq, Nat.reduceMul, Nat.reduceAdd, Nat.reduceDiv, Int.reduceBEq, rules2, rulesX, rowsX]
  refine w_spec_l28New_1 _ _ _ _ _ _ _ h _ ?_
  try simp only [Nat.reduceBEq, Nat.reduceMul, Nat.reduceAdd, Nat.reduceDiv, Int.reduceBEq, rules2, rulesX, rowsX, List.map_nil]
/- 67: spec_l01Below -/
def c_spec_l01Below : ACode := (.seq (.reg [(none, .mv 4 (K 0))]) (.seq (.seq (.reg [(none, .mv 9 (S 1)), (none, .bin 10 .leq (S 9) (K 0))]) (.cond (S 10) (.seq (.reg [(none, .mv 4 (K 0))]) .ret) .skip)) (.seq (.seq (.reg [(none, .mv 11 (S 1)), (none, .bin 12 .leq (S 11) (K 256))]) (.cond (S 12) (.seq (.reg [(none, .mv 13 (S 0)), (none, .call 14 56 [(S 13)]), (none, .mv 15 (S 1)), (none, .bin 16 .rem (S 14) (S 15)), (none, .mv 4 (S 16))]) .ret) .skip)) (.seq (.reg [(none, .mv 17 (S 0)), (none, .call 18 56 [(S 17)]), (none, .mv 5 (S 18))]) (.seq (.reg [(none, .mv 19 (S 0)), (none, .call 20 56 [(S 19)]), (none, .mv 6 (S 20))]) (.seq (.reg [(none, .mv 21 (S 0)), (none, .call 22 56 [(S 21)]), (none, .mv 7 (S 22))]) (.seq (.reg [(none, .mv 23 (S 0)), (none, .call 24 56 [(S 23)]), (none, .mv 8 (S 24))]) (.seq (.reg [(none, .mv 25 (S 5)), (none, .bin 26 .mul (S 25) (K 16777216)), (none, .mv 27 (S 6)), (none, .bin 28 .mul (S 27) (K 65536)), (none, .bin 29 .add (S 26) (S 28)), (none, .mv 30 (S 7)), (none, .bin 31 .mul (S 30) (K 256)), (none, .bin 32 .add (S 29) (S 31)), (none, .mv 33 (S 8)), (none, .bin 34 .add (S 32) (S 33)), (none, .mv 35 (S 1)), (none, .bin 36 .rem (S 34) (S 35)), (none, .mv 4 (S 36))]) .ret))))))))
theorem e_spec_l01Below : entry Tryd.prog 67 = some (c_spec_l01Below.strip, [4], 37) := by kernel_rfl
theorem w_spec_l01Below (a0 : Xl01Cur) (a1 : Int) (r : Int × Xl01Cur) (h : f_spec_l01Below a0 a1 = some r) : FCy Tryd.prog 67 [.p, .d (.sc (.int .i64 a1))] [.sl (List.map r8 a0.b), .int .i64 a0.i, .int .i64 a0.h] [.sl (List.map r8 r.2.b), .int .i64 r.2.i, .int .i64 r.2.h] [.sc (.v (.int .i64 r.1))] := by
  unfold f_spec_l01Below at h
  refine FCy_go (σ := ⟨[(0, vc (.pb 1099511627776 0)), (1, vc (aI a1))], [(1099511627776, [aL (List.map r8 a0.b), aI a0.i, aI a0.h])], []⟩) mixed e_spec_l01Below rfl rfl ?_
  simp only [c_spec_l01Below]
  rcases Bool.eq_false_or_eq_true (decide (a1 ≤ (0 : Int))) with hb1 | hb1
  · rw [ite_t hb1] at h
    try simp only [hb1, Nat.reduceBEq, Nat.reduceMul, Nat.reduceAdd, Nat.reduceDiv, Int.reduceBEq, rules2, rulesX, rowsX]
    cases h
    exact ⟨⟨rfl, trivial⟩, rfl⟩
  · rw [ite_f hb1] at h
    rcases Bool.eq_false_or_eq_true (decide (a1 ≤ (256 : Int))) with hb2 | hb2
    · rw [ite_t hb2] at h
      obtain ⟨r3, hr3, h⟩ := ob h
      try simp only [hb1, hb2, Nat.reduceBEq, Nat.reduceMul, Nat.reduceAdd, Nat.reduceDiv, Int.reduceBEq, rules2, rulesX, rowsX]
      refine go_cally (w_spec_l01Byte _ _ hr3) 1099511627776 rfl rfl rfl ?_
      obtain ⟨hg4, h⟩ := of_guardn h
      try simp only [hb1, hb2, hg4, Nat.reduceBEq, Nat.reduceMul, Nat.reduceAdd, Nat.reduceDiv, Int.reduceBEq, rules2, rulesX, rowsX]
      cases h
      exact ⟨⟨rfl, trivial⟩, rfl⟩
    · rw [ite_f hb2] at h
      obtain ⟨r5, hr5, h⟩ := ob h
      try simp only [hb1, hb2, Nat.reduceBEq, Nat.reduceMul, Nat.reduceAdd, Nat.reduceDiv, Int.reduceBEq, rules2, rulesX, rowsX]
      refine go_cally (w_spec_l01Byte _ _ hr5) 1099511627776 rfl rfl rfl ?_
      obtain ⟨r6, hr6, h⟩ := ob h
      try simp only [hb1, hb2, Nat.reduceBEq, Nat.reduceMul, Nat.reduceAdd, Nat.reduceDiv, Int.reduceBEq, rules2, rulesX, rowsX]
      refine go_cally (w_spec_l01Byte _ _ hr6) 1099511627776 rfl rfl rfl ?_
      obtain ⟨r7, hr7, h⟩ := ob h
      try simp only [hb1, hb2, Nat.reduceBEq, Nat.reduceMul, Nat.reduceAdd, Nat.reduceDiv, Int.reduceBEq, rules2, rulesX, rowsX]
      refine go_cally (w_spec_l01Byte _ _ hr7) 1099511627776 rfl rfl rfl ?_
      obtain ⟨r9, hr9, h⟩ := ob h
      try simp only [hb1, hb2, Nat.reduceBEq, Nat.reduceMul, Nat.reduceAdd, Nat.reduceDiv, Int.reduceBEq, rules2, rulesX, rowsX]
      refine go_cally (w_spec_l01Byte _ _ hr9) 1099511627776 rfl rfl rfl ?_
      obtain ⟨hg10, h⟩ := of_guardn h
      try simp only [hb1, hb2, hg10, Nat.reduceBEq, Nat.reduceMul, Nat.reduceAdd, Nat.reduceDiv, Int.reduceBEq, rules2, rulesX, rowsX]
      cases h
      exact ⟨⟨rfl, trivial⟩, rfl⟩
/- 66: spec_l01Once -/
def c_spec_l01Once : ACode := (.seq (.reg [(none, .mv 4 (KB false))]) (.seq (.reg [(none, .mv 5 (S 0)), (none, .mv 6 (S 1)), (none, .call 7 67 [(S 5), (S 6)]), (none, .bin 8 .eql (S 7) (K 0)), (none, .mv 4 (S 8))]) .ret))
theorem e_spec_l01Once : entry Tryd.prog 66 = some (c_spec_l01Once.strip, [4], 9) := by kernel_rfl
theorem w_spec_l01Once (a0 : Xl01Cur) (a1 : Int) (r : Bool × Xl01Cur) (h : f_spec_l01Once a0 a1 = some r) : FCy Tryd.prog 66 [.p, .d (.sc (.int .i64 a1))] [.sl (List.map r8 a0.b), .int .i64 a0.i, .int .i64 a0.h] [.sl (List.map r8 r.2.b), .int .i64 r.2.i, .int .i64 r.2.h] [.sc (.v (.bool r.1))] := by
  unfold f_spec_l01Once at h
  refine FCy_go (σ := ⟨[(0, vc (.pb 1099511627776 0)), (1, vc (aI a1))], [(1099511627776, [aL (List.map r8 a0.b), aI a0.i, aI a0.h])], []⟩) mixed e_spec_l01Once rfl rfl ?_
  simp only [c_spec_l01Once]
  obtain ⟨r1, hr1, h⟩ := ob h
  try simp only [Nat.reduceBEq, Nat.reduceMul, Nat.reduceAdd, Nat.reduceDiv, Int.reduceBEq, rules2, rulesX, rowsX]
  refine go_cally (w_spec_l01Below _ _ _ hr1) 1099511627776 rfl rfl rfl ?_
  try simp only [Nat.reduceBEq, Nat.reduceMul, Nat.reduceAdd, Nat.reduceDiv, Int.reduceBEq, rules2, rulesX, rowsX]
  cases h
  exact ⟨⟨rfl, trivial⟩, rfl⟩
/- 32: spec_l05Draw -/
def y_spec_l05Draw_y1 : List (List Nat × AItem) := [([], (none, .faddr 39 (S 3) 1)), ([0], (none, .load 40 (S 39) false 1)), ([], (none, .mv 41 (S 0))), ([2], (none, .call 42 67 [(S 41), (K 300)])), ([3], (none, .bin 43 .add (K 700) (S 42))), ([], (none, .mv 44 (S 0))), ([5, 3], (none, .call 45 67 [(S 44), (K 30)])), ([6], (none, .bin 46 .add (K 20) (S 45))), ([4, 7], (none, .build 47 [aI 0, aI 0, aI 0, aI 0, aB false] [(0, 1, (K 3)), (1, 1, (K 1)), (2, 1, (S 43)), (3, 1, (S 46)), (4, 1, (KB true))])), ([8], (none, .bslice 48 5 [.int .i64 0, .int .i64 0, .int .i64 0, .int .i64 0, .bool false] 1 [(0, (S 47))])), ([1, 9, 6], (none, .app 49 5 40 (S 40) (S 48))), ([0, 1, 2, 3, 4, 5, 6, 7, 8, 9, 10], (none, .faddr 50 (S 3) 1)), ([11, 10, 10, 0, 1, 2, 3, 4, 5, 6, 7, 8, 9, 10], (none, .store (S 50) (S 49) 1))]
def y_spec_l05Draw_y2 : List (List Nat × AItem) := [([], (none, .faddr 59 (S 3) 1)), ([0], (none, .load 60 (S 59) false 1)), ([], (none, .mv 61 (S 0))), ([2], (none, .call 62 67 [(S 61), (K 300)])), ([3], (none, .bin 63 .add (K 800) (S 62))), ([4], (none, .build 64 [aI 0, aI 0, aI 0, aI 0, aB false] [(0, 1, (K 2)), (1, 1, (K 4)), (2, 1, (S 63)), (3, 1, (K 15))])), ([5], (none, .bslice 65 5 [.int .i64 0, .int .i64 0, .int .i64 0, .int .i64 0, .bool false] 1 [(0, (S 64))])), ([1, 6, 3], (none, .app 66 5 40 (S 60) (S 65))), ([0, 1, 2, 3, 4, 5, 6, 7], (none, .faddr 67 (S 3) 1)), ([8, 7, 7, 0, 1, 2, 3, 4, 5, 6, 7], (none, .store (S 67) (S 66) 1))]
def c_spec_l05Draw_1 : ACode := .seq (.reg [(none, .keep [0, 2, 3] [1099511627776, 2, 3] [640, 2240])]) (.seq (.seq (.reg [(none, .mv 51 (S 0)), (none, .call 52 66 [(S 51), (K 3)])]) (.cond (S 52) (.seq (.reg [(none, .faddr 53 (S 3) 0), (none, .load 54 (S 53) false 1), (none, .build 55 [aS [], aB false] [(0, 1, (KS [100, 111, 99, 107])), (1, 1, (KB true))]), (none, .bslice 56 2 [.str [], .bool false] 1 [(0, (S 55))]), (none, .app 57 2 24 (S 54) (S 56)), (none, .faddr 58 (S 3) 0), (none, .store (S 58) (S 57) 1)]) (.any y_spec_l05Draw_y2)) .skip)) (.seq (.reg [(none, .frz 640), (none, .frz 2240), (none, .load 68 (S 3) true 2), (none, .store (S 2) (S 68) 2)]) .ret))
def c_spec_l05Draw : ACode := (.seq (.reg [(none, .alloc 2 [.nil, .nil])]) (.seq (.reg [(none, .build 4 [aS [], aB false] [(0, 1, (KS [115, 101, 97])), (1, 1, (KB true))]), (none, .build 5 [aS [], aB false] [(0, 1, (KS [98, 97, 114]))]), (none, .mv 6 (S 0)), (none, .call 7 66 [(S 6), (K 2)]), (none, .build 8 [aS [], aB false] [(0, 1, (KS [114, 111, 97, 100])), (1, 1, (S 7))]), (none, .build 9 [aS [], aB false] [(0, 1, (KS [113, 117, 97, 121])), (1, 1, (KB true))]), (none, .bslice 10 2 [.str [], .bool false] 4 [(0, (S 4)), (1, (S 5)), (2, (S 8)), (3, (S 9))]), (none, .build 11 [.nil, .nil] [(0, 1, (S 10))]), (none, .alloc 3 [.nil, .nil]), (none, .store (S 3) (S 11) 2)]) (.seq (.reg [(none, .mv 12 (S 0)), (none, .call 13 67 [(S 12), (K 300)]), (none, .bin 14 .add (K 900) (S 13)), (none, .mv 15 (S 0)), (none, .call 16 67 [(S 15), (K 40)]), (none, .bin 17 .add (K 10) (S 16)), (none, .build 18 [aI 0, aI 0, aI 0, aI 0, aB false] [(0, 1, (K 0)), (1, 1, (K 1)), (2, 1, (S 14)), (3, 1, (S 17))]), (none, .mv 19 (S 0)), (none, .call 20 67 [(S 19), (K 300)]), (none, .bin 21 .add (K 800) (S 20)), (none, .mv 22 (S 0)), (none, .call 23 67 [(S 22), (K 30)]), (none, .bin 24 .add (K 10) (S 23)), (none, .mv 25 (S 0)), (none, .call 26 66 [(S 25), (K 2)]), (none, .build 27 [aI 0, aI 0, aI 0, aI 0, aB false] [(0, 1, (K 1)), (1, 1, (K 2)), (2, 1, (S 21)), (3, 1, (S 24)), (4, 1, (S 26))]), (none, .mv 28 (S 0)), (none, .call 29 67 [(S 28), (K 200)]), (none, .bin 30 .add (K 900) (S 29)), (none, .mv 31 (S 0)), (none, .call 32 67 [(S 31), (K 20)]), (none, .bin 33 .add (K 5) (S 32)), (none, .build 34 [aI 0, aI 0, aI 0, aI 0, aB false] [(0, 1, (K 2)), (1, 1, (K 3)), (2, 1, (S 30)), (3, 1, (S 33))]), (none, .bslice 35 5 [.int .i64 0, .int .i64 0, .int .i64 0, .int .i64 0, .bool false] 3 [(0, (S 18)), (1, (S 27)), (2, (S 34))]), (none, .faddr 36 (S 3) 1), (none, .store (S 36) (S 35) 1)]) (.seq (.seq (.reg [(none, .mv 37 (S 0)), (none, .call 38 66 [(S 37), (K 3)])]) (.cond (S 38) (.any y_spec_l05Draw_y1) .skip)) c_spec_l05Draw_1))))
theorem w_spec_l05Draw_y1_0 (r1 : Bool × Xl01Cur) (r2 : Int × Xl01Cur) (r3 : Int × Xl01Cur) (r4 : Int × Xl01Cur) (r5 : Int × Xl01Cur) (r6 : Bool × Xl01Cur) (r7 : Int × Xl01Cur) (r9 : Int × Xl01Cur) (r10 : Bool × Xl01Cur) (r12 : Int × Xl01Cur) (r13 : Int × Xl01Cur) (hr12 : f_spec_l01Below r10.2 (300 : Int) = some r12) (hr13 : f_spec_l01Below r12.2 (30 : Int) = some r13) (hg14 : (appB ([(⟨(0 : Int), (1 : Int), (IntKind.i64.wrap ((900 : Int) + r2.1)), (IntKind.i64.wrap ((10 : Int) + r3.1)), false⟩ : XSegment), (⟨(1 : Int), (2 : Int), (IntKind.i64.wrap ((800 : Int) + r4.1)), (IntKind.i64.wrap ((10 : Int) + r5.1)), r6.1⟩ : XSegment), (⟨(2 : Int), (3 : Int), (IntKind.i64.wrap ((900 : Int) + r7.1)), (IntKind.i64.wrap ((5 : Int) + r9.1)), false⟩ : XSegment)] : List XSegment).length ([(⟨(3 : Int), (1 : Int), (IntKind.i64.wrap ((700 : Int) + r12.1)), (IntKind.i64.wrap ((20 : Int) + r13.1)), true⟩ : XSegment)] : List XSegment).length 40) = true) : ∀ (f : Nat), anyA Tryd.prog y_spec_l05Draw_y1 ⟨[(0, vc (.pb 1099511627776 0)), (2, vc (.pb 2 0)), (3, vc (.pb 3 0)), (39, vc (.pb 3 1)), (40, vc (.undef)), (41, vc (.pb 1099511627776 0)), (42, vc (aI r12.1)), (43, vc (aI (IntKind.i64.wrap ((700 : Int) + r12.1)))), (44, vc (.pb 1099511627776 0)), (45, vc (aI r13.1)), (46, vc (aI (IntKind.i64.wrap ((20 : Int) + r13.1)))), (47, va [aI (3 : Int), aI (1 : Int), aI (IntKind.i64.wrap ((700 : Int) + r12.1)), aI (IntKind.i64.wrap ((20 : Int) + r13.1)), aB true]), (48, vc (.own 3072)), (49, vc (.own 2240)), (50, vc (.pb 3 1))], [(1099511627776, [aL (List.map r8 r13.2.b), aI r13.2.i, aI r13.2.h]), (2, [.nil, .nil]), (3, [.own 640, .own 2240])], [(640, 2, List.map XPoint.row ([(⟨([115, 101, 97] : List UInt8), true⟩ : XPoint), (⟨([98, 97, 114] : List UInt8), false⟩ : XPoint), (⟨([114, 111, 97, 100] : List UInt8), r1.1⟩ : XPoint), (⟨([113, 117, 97, 121] : List UInt8), true⟩ : XPoint)] : List XPoint)), (2240, 5, List.map XSegment.row (([(⟨(0 : Int), (1 : Int), (IntKind.i64.wrap ((900 : Int) + r2.1)), (IntKind.i64.wrap ((10 : Int) + r3.1)), false⟩ : XSegment), (⟨(1 : Int), (2 : Int), (IntKind.i64.wrap ((800 : Int) + r4.1)), (IntKind.i64.wrap ((10 : Int) + r5.1)), r6.1⟩ : XSegment), (⟨(2 : Int), (3 : Int), (IntKind.i64.wrap ((900 : Int) + r7.1)), (IntKind.i64.wrap ((5 : Int) + r9.1)), false⟩ : XSegment)] : List XSegment) ++ ([(⟨(3 : Int), (1 : Int), (IntKind.i64.wrap ((700 : Int) + r12.1)), (IntKind.i64.wrap ((20 : Int) + r13.1)), true⟩ : XSegment)] : List XSegment))), (3072, 5, List.map XSegment.row ([(⟨(3 : Int), (1 : Int), (IntKind.i64.wrap ((700 : Int) + r12.1)), (IntKind.i64.wrap ((20 : Int) + r13.1)), true⟩ : XSegment)] : List XSegment))]⟩ f [true, true, true, true, true, true, true, true, true, true, true, true, true] ⟨[(0, vc (.pb 1099511627776 0)), (2, vc (.pb 2 0)), (3, vc (.pb 3 0)), (39, vc (.pb 3 1)), (40, vc (.undef)), (41, vc (.pb 1099511627776 0)), (42, vc (aI r12.1)), (43, vc (aI (IntKind.i64.wrap ((700 : Int) + r12.1)))), (44, vc (.pb 1099511627776 0)), (45, vc (aI r13.1)), (46, vc (aI (IntKind.i64.wrap ((20 : Int) + r13.1)))), (47, va [aI (3 : Int), aI (1 : Int), aI (IntKind.i64.wrap ((700 : Int) + r12.1)), aI (IntKind.i64.wrap ((20 : Int) + r13.1)), aB true]), (48, vc (.own 3072)), (49, vc (.own 2240)), (50, vc (.pb 3 1))], [(1099511627776, [aL (List.map r8 r13.2.b), aI r13.2.i, aI r13.2.h]), (2, [.nil, .nil]), (3, [.own 640, .own 2240])], [(640, 2, List.map XPoint.row ([(⟨([115, 101, 97] : List UInt8), true⟩ : XPoint), (⟨([98, 97, 114] : List UInt8), false⟩ : XPoint), (⟨([114, 111, 97, 100] : List UInt8), r1.1⟩ : XPoint), (⟨([113, 117, 97, 121] : List UInt8), true⟩ : XPoint)] : List XPoint)), (2240, 5, List.map XSegment.row (([(⟨(0 : Int), (1 : Int), (IntKind.i64.wrap ((900 : Int) + r2.1)), (IntKind.i64.wrap ((10 : Int) + r3.1)), false⟩ : XSegment), (⟨(1 : Int), (2 : Int), (IntKind.i64.wrap ((800 : Int) + r4.1)), (IntKind.i64.wrap ((10 : Int) + r5.1)), r6.1⟩ : XSegment), (⟨(2 : Int), (3 : Int), (IntKind.i64.wrap ((900 : Int) + r7.1)), (IntKind.i64.wrap ((5 : Int) + r9.1)), false⟩ : XSegment)] : List XSegment) ++ ([(⟨(3 : Int), (1 : Int), (IntKind.i64.wrap ((700 : Int) + r12.1)), (IntKind.i64.wrap ((20 : Int) + r13.1)), true⟩ : XSegment)] : List XSegment))), (3072, 5, List.map XSegment.row ([(⟨(3 : Int), (1 : Int), (IntKind.i64.wrap ((700 : Int) + r12.1)), (IntKind.i64.wrap ((20 : Int) + r13.1)), true⟩ : XSegment)] : List XSegment))]⟩ := by
  intro f
  induction f with
  | zero => intro h; rfl
  | succ f ih =>
    refine any_step ⟨?_, ?_, ?_, ?_, ?_, ?_, ?_, ?_, ?_, ?_, ?_, ?_, ?_, trivial⟩
    · intro h; cases h
    · intro h; cases h
    · intro h; cases h
    · intro h; cases h
    · intro h; cases h
    · intro h; cases h
    · intro h; cases h
    · intro h; cases h
    · intro h; cases h
    · intro h; cases h
    · intro h; cases h
    · intro h; cases h
    · intro h; cases h
theorem w_spec_l05Draw_y1_1 (r1 : Bool × Xl01Cur) (r2 : Int × Xl01Cur) (r3 : Int × Xl01Cur) (r4 : Int × Xl01Cur) (r5 : Int × Xl01Cur) (r6 : Bool × Xl01Cur) (r7 : Int × Xl01Cur) (r9 : Int × Xl01Cur) (r10 : Bool × Xl01Cur) (r12 : Int × Xl01Cur) (r13 : Int × Xl01Cur) (hr12 : f_spec_l01Below r10.2 (300 : Int) = some r12) (hr13 : f_spec_l01Below r12.2 (30 : Int) = some r13) (hg14 : (appB ([(⟨(0 : Int), (1 : Int), (IntKind.i64.wrap ((900 : Int) + r2.1)), (IntKind.i64.wrap ((10 : Int) + r3.1)), false⟩ : XSegment), (⟨(1 : Int), (2 : Int), (IntKind.i64.wrap ((800 : Int) + r4.1)), (IntKind.i64.wrap ((10 : Int) + r5.1)), r6.1⟩ : XSegment), (⟨(2 : Int), (3 : Int), (IntKind.i64.wrap ((900 : Int) + r7.1)), (IntKind.i64.wrap ((5 : Int) + r9.1)), false⟩ : XSegment)] : List XSegment).length ([(⟨(3 : Int), (1 : Int), (IntKind.i64.wrap ((700 : Int) + r12.1)), (IntKind.i64.wrap ((20 : Int) + r13.1)), true⟩ : XSegment)] : List XSegment).length 40) = true) : ∀ (f : Nat) (b0 : Bool) (b4 : Bool) (b7 : Bool) (b11 : Bool), anyA Tryd.prog y_spec_l05Draw_y1 ⟨[(0, vc (.pb 1099511627776 0)), (2, vc (.pb 2 0)), (3, vc (.pb 3 0)), (39, vc (.pb 3 1)), (40, vc (.undef)), (41, vc (.pb 1099511627776 0)), (42, vc (aI r12.1)), (43, vc (aI (IntKind.i64.wrap ((700 : Int) + r12.1)))), (44, vc (.pb 1099511627776 0)), (45, vc (aI r13.1)), (46, vc (aI (IntKind.i64.wrap ((20 : Int) + r13.1)))), (47, va [aI (3 : Int), aI (1 : Int), aI (IntKind.i64.wrap ((700 : Int) + r12.1)), aI (IntKind.i64.wrap ((20 : Int) + r13.1)), aB true]), (48, vc (.own 3072)), (49, vc (.own 2240)), (50, vc (.pb 3 1))], [(1099511627776, [aL (List.map r8 r13.2.b), aI r13.2.i, aI r13.2.h]), (2, [.nil, .nil]), (3, [.own 640, .own 2240])], [(640, 2, List.map XPoint.row ([(⟨([115, 101, 97] : List UInt8), true⟩ : XPoint), (⟨([98, 97, 114] : List UInt8), false⟩ : XPoint), (⟨([114, 111, 97, 100] : List UInt8), r1.1⟩ : XPoint), (⟨([113, 117, 97, 121] : List UInt8), true⟩ : XPoint)] : List XPoint)), (2240, 5, List.map XSegment.row (([(⟨(0 : Int), (1 : Int), (IntKind.i64.wrap ((900 : Int) + r2.1)), (IntKind.i64.wrap ((10 : Int) + r3.1)), false⟩ : XSegment), (⟨(1 : Int), (2 : Int), (IntKind.i64.wrap ((800 : Int) + r4.1)), (IntKind.i64.wrap ((10 : Int) + r5.1)), r6.1⟩ : XSegment), (⟨(2 : Int), (3 : Int), (IntKind.i64.wrap ((900 : Int) + r7.1)), (IntKind.i64.wrap ((5 : Int) + r9.1)), false⟩ : XSegment)] : List XSegment) ++ ([(⟨(3 : Int), (1 : Int), (IntKind.i64.wrap ((700 : Int) + r12.1)), (IntKind.i64.wrap ((20 : Int) + r13.1)), true⟩ : XSegment)] : List XSegment))), (3072, 5, List.map XSegment.row ([(⟨(3 : Int), (1 : Int), (IntKind.i64.wrap ((700 : Int) + r12.1)), (IntKind.i64.wrap ((20 : Int) + r13.1)), true⟩ : XSegment)] : List XSegment))]⟩ f [b0, true, true, true, b4, true, true, b7, true, true, true, b11, false] ⟨[(0, vc (.pb 1099511627776 0)), (2, vc (.pb 2 0)), (3, vc (.pb 3 0)), (39, bif b0 then vc (.pb 3 1) else .undef), (40, vc (.undef)), (41, vc (.pb 1099511627776 0)), (42, vc (aI r12.1)), (43, bif b4 then vc (aI (IntKind.i64.wrap ((700 : Int) + r12.1))) else .undef), (44, vc (.pb 1099511627776 0)), (45, vc (aI r13.1)), (46, bif b7 then vc (aI (IntKind.i64.wrap ((20 : Int) + r13.1))) else .undef), (47, va [aI (3 : Int), aI (1 : Int), aI (IntKind.i64.wrap ((700 : Int) + r12.1)), aI (IntKind.i64.wrap ((20 : Int) + r13.1)), aB true]), (48, vc (.own 3072)), (49, vc (.own 2240)), (50, bif b11 then vc (.pb 3 1) else .undef)], [(1099511627776, [aL (List.map r8 r13.2.b), aI r13.2.i, aI r13.2.h]), (2, [.nil, .nil]), (3, [.own 640, .undef])], [(640, 2, List.map XPoint.row ([(⟨([115, 101, 97] : List UInt8), true⟩ : XPoint), (⟨([98, 97, 114] : List UInt8), false⟩ : XPoint), (⟨([114, 111, 97, 100] : List UInt8), r1.1⟩ : XPoint), (⟨([113, 117, 97, 121] : List UInt8), true⟩ : XPoint)] : List XPoint)), (2240, 5, List.map XSegment.row (([(⟨(0 : Int), (1 : Int), (IntKind.i64.wrap ((900 : Int) + r2.1)), (IntKind.i64.wrap ((10 : Int) + r3.1)), false⟩ : XSegment), (⟨(1 : Int), (2 : Int), (IntKind.i64.wrap ((800 : Int) + r4.1)), (IntKind.i64.wrap ((10 : Int) + r5.1)), r6.1⟩ : XSegment), (⟨(2 : Int), (3 : Int), (IntKind.i64.wrap ((900 : Int) + r7.1)), (IntKind.i64.wrap ((5 : Int) + r9.1)), false⟩ : XSegment)] : List XSegment) ++ ([(⟨(3 : Int), (1 : Int), (IntKind.i64.wrap ((700 : Int) + r12.1)), (IntKind.i64.wrap ((20 : Int) + r13.1)), true⟩ : XSegment)] : List XSegment))), (3072, 5, List.map XSegment.row ([(⟨(3 : Int), (1 : Int), (IntKind.i64.wrap ((700 : Int) + r12.1)), (IntKind.i64.wrap ((20 : Int) + r13.1)), true⟩ : XSegment)] : List XSegment))]⟩ := by
  intro f
  induction f with
  | zero => intro b0 b4 b7 b11 h; simp at h
  | succ f ih =>
    intro b0 b4 b7 b11
    refine any_step ⟨?_, ?_, ?_, ?_, ?_, ?_, ?_, ?_, ?_, ?_, ?_, ?_, ?_, trivial⟩
    · intro h0 hw
      obtain rfl : b0 = false := Option.some.inj h0
      try simp only [avmap_bif, Nat.reduceBEq, Nat.reduceMul, Nat.reduceAdd, Nat.reduceDiv, Int.reduceBEq, rules2, rulesX, rowsX]
      exact ih true b4 b7 b11
    · intro h; cases h
    · intro h; cases h
    · intro h; cases h
    · intro h0 hw
      obtain rfl : b4 = false := Option.some.inj h0
      try simp only [avmap_bif, Nat.reduceBEq, Nat.reduceMul, Nat.reduceAdd, Nat.reduceDiv, Int.reduceBEq, rules2, rulesX, rowsX]
      exact ih b0 true b7 b11
    · intro h; cases h
    · intro h; cases h
    · intro h0 hw
      obtain rfl : b7 = false := Option.some.inj h0
      try simp only [avmap_bif, Nat.reduceBEq, Nat.reduceMul, Nat.reduceAdd, Nat.reduceDiv, Int.reduceBEq, rules2, rulesX, rowsX]
      exact ih b0 b4 true b11
    · intro h; cases h
    · intro h; cases h
    · intro h; cases h
    · intro h0 hw
      obtain rfl : b11 = false := Option.some.inj h0
      obtain rfl : b0 = true := Option.some.inj (hw 0 (by simp))
      obtain rfl : b4 = true := Option.some.inj (hw 4 (by simp))
      obtain rfl : b7 = true := Option.some.inj (hw 7 (by simp))
      try simp only [avmap_bif, Nat.reduceBEq, Nat.reduceMul, Nat.reduceAdd, Nat.reduceDiv, Int.reduceBEq, rules2, rulesX, rowsX]
      exact ih true true true true
    · intro h0 hw
      obtain rfl : b0 = true := Option.some.inj (hw 0 (by simp))
      obtain rfl : b4 = true := Option.some.inj (hw 4 (by simp))
      obtain rfl : b7 = true := Option.some.inj (hw 7 (by simp))
      obtain rfl : b11 = true := Option.some.inj (hw 11 (by simp))
      try simp only [avmap_bif, Nat.reduceBEq, Nat.reduceMul, Nat.reduceAdd, Nat.reduceDiv, Int.reduceBEq, rules2, rulesX, rowsX]
      exact w_spec_l05Draw_y1_0 r1 r2 r3 r4 r5 r6 r7 r9 r10 r12 r13 hr12 hr13 hg14 _ 
theorem w_spec_l05Draw_y1_2 (r1 : Bool × Xl01Cur) (r2 : Int × Xl01Cur) (r3 : Int × Xl01Cur) (r4 : Int × Xl01Cur) (r5 : Int × Xl01Cur) (r6 : Bool × Xl01Cur) (r7 : Int × Xl01Cur) (r9 : Int × Xl01Cur) (r10 : Bool × Xl01Cur) (r12 : Int × Xl01Cur) (r13 : Int × Xl01Cur) (hr12 : f_spec_l01Below r10.2 (300 : Int) = some r12) (hr13 : f_spec_l01Below r12.2 (30 : Int) = some r13) (hg14 : (appB ([(⟨(0 : Int), (1 : Int), (IntKind.i64.wrap ((900 : Int) + r2.1)), (IntKind.i64.wrap ((10 : Int) + r3.1)), false⟩ : XSegment), (⟨(1 : Int), (2 : Int), (IntKind.i64.wrap ((800 : Int) + r4.1)), (IntKind.i64.wrap ((10 : Int) + r5.1)), r6.1⟩ : XSegment), (⟨(2 : Int), (3 : Int), (IntKind.i64.wrap ((900 : Int) + r7.1)), (IntKind.i64.wrap ((5 : Int) + r9.1)), false⟩ : XSegment)] : List XSegment).length ([(⟨(3 : Int), (1 : Int), (IntKind.i64.wrap ((700 : Int) + r12.1)), (IntKind.i64.wrap ((20 : Int) + r13.1)), true⟩ : XSegment)] : List XSegment).length 40) = true) : ∀ (f : Nat) (b0 : Bool) (b1 : Bool) (b4 : Bool) (b7 : Bool), anyA Tryd.prog y_spec_l05Draw_y1 ⟨[(0, vc (.pb 1099511627776 0)), (2, vc (.pb 2 0)), (3, vc (.pb 3 0)), (39, vc (.pb 3 1)), (40, vc (.undef)), (41, vc (.pb 1099511627776 0)), (42, vc (aI r12.1)), (43, vc (aI (IntKind.i64.wrap ((700 : Int) + r12.1)))), (44, vc (.pb 1099511627776 0)), (45, vc (aI r13.1)), (46, vc (aI (IntKind.i64.wrap ((20 : Int) + r13.1)))), (47, va [aI (3 : Int), aI (1 : Int), aI (IntKind.i64.wrap ((700 : Int) + r12.1)), aI (IntKind.i64.wrap ((20 : Int) + r13.1)), aB true]), (48, vc (.own 3072)), (49, vc (.own 2240)), (50, vc (.pb 3 1))], [(1099511627776, [aL (List.map r8 r13.2.b), aI r13.2.i, aI r13.2.h]), (2, [.nil, .nil]), (3, [.own 640, .own 2240])], [(640, 2, List.map XPoint.row ([(⟨([115, 101, 97] : List UInt8), true⟩ : XPoint), (⟨([98, 97, 114] : List UInt8), false⟩ : XPoint), (⟨([114, 111, 97, 100] : List UInt8), r1.1⟩ : XPoint), (⟨([113, 117, 97, 121] : List UInt8), true⟩ : XPoint)] : List XPoint)), (2240, 5, List.map XSegment.row (([(⟨(0 : Int), (1 : Int), (IntKind.i64.wrap ((900 : Int) + r2.1)), (IntKind.i64.wrap ((10 : Int) + r3.1)), false⟩ : XSegment), (⟨(1 : Int), (2 : Int), (IntKind.i64.wrap ((800 : Int) + r4.1)), (IntKind.i64.wrap ((10 : Int) + r5.1)), r6.1⟩ : XSegment), (⟨(2 : Int), (3 : Int), (IntKind.i64.wrap ((900 : Int) + r7.1)), (IntKind.i64.wrap ((5 : Int) + r9.1)), false⟩ : XSegment)] : List XSegment) ++ ([(⟨(3 : Int), (1 : Int), (IntKind.i64.wrap ((700 : Int) + r12.1)), (IntKind.i64.wrap ((20 : Int) + r13.1)), true⟩ : XSegment)] : List XSegment))), (3072, 5, List.map XSegment.row ([(⟨(3 : Int), (1 : Int), (IntKind.i64.wrap ((700 : Int) + r12.1)), (IntKind.i64.wrap ((20 : Int) + r13.1)), true⟩ : XSegment)] : List XSegment))]⟩ f [b0, b1, true, true, b4, true, true, b7, true, true, false, false, false] ⟨[(0, vc (.pb 1099511627776 0)), (2, vc (.pb 2 0)), (3, vc (.pb 3 0)), (39, bif b0 then vc (.pb 3 1) else .undef), (40, bif b1 then vc (.own 2240) else .undef), (41, vc (.pb 1099511627776 0)), (42, vc (aI r12.1)), (43, bif b4 then vc (aI (IntKind.i64.wrap ((700 : Int) + r12.1))) else .undef), (44, vc (.pb 1099511627776 0)), (45, vc (aI r13.1)), (46, bif b7 then vc (aI (IntKind.i64.wrap ((20 : Int) + r13.1))) else .undef), (47, va [aI (3 : Int), aI (1 : Int), aI (IntKind.i64.wrap ((700 : Int) + r12.1)), aI (IntKind.i64.wrap ((20 : Int) + r13.1)), aB true]), (48, vc (.own 3072)), (49, .undef), (50, .undef)], [(1099511627776, [aL (List.map r8 r13.2.b), aI r13.2.i, aI r13.2.h]), (2, [.nil, .nil]), (3, [.own 640, .own 2240])], [(640, 2, List.map XPoint.row ([(⟨([115, 101, 97] : List UInt8), true⟩ : XPoint), (⟨([98, 97, 114] : List UInt8), false⟩ : XPoint), (⟨([114, 111, 97, 100] : List UInt8), r1.1⟩ : XPoint), (⟨([113, 117, 97, 121] : List UInt8), true⟩ : XPoint)] : List XPoint)), (2240, 5, List.map XSegment.row ([(⟨(0 : Int), (1 : Int), (IntKind.i64.wrap ((900 : Int) + r2.1)), (IntKind.i64.wrap ((10 : Int) + r3.1)), false⟩ : XSegment), (⟨(1 : Int), (2 : Int), (IntKind.i64.wrap ((800 : Int) + r4.1)), (IntKind.i64.wrap ((10 : Int) + r5.1)), r6.1⟩ : XSegment), (⟨(2 : Int), (3 : Int), (IntKind.i64.wrap ((900 : Int) + r7.1)), (IntKind.i64.wrap ((5 : Int) + r9.1)), false⟩ : XSegment)] : List XSegment)), (3072, 5, List.map XSegment.row ([(⟨(3 : Int), (1 : Int), (IntKind.i64.wrap ((700 : Int) + r12.1)), (IntKind.i64.wrap ((20 : Int) + r13.1)), true⟩ : XSegment)] : List XSegment))]⟩ := by
  intro f
  induction f with
  | zero => intro b0 b1 b4 b7 h; simp at h
  | succ f ih =>
    intro b0 b1 b4 b7
    refine any_step ⟨?_, ?_, ?_, ?_, ?_, ?_, ?_, ?_, ?_, ?_, ?_, ?_, ?_, trivial⟩
    · intro h0 hw
      obtain rfl : b0 = false := Option.some.inj h0
      try simp only [avmap_bif, Nat.reduceBEq, Nat.reduceMul, Nat.reduceAdd, Nat.reduceDiv, Int.reduceBEq, rules2, rulesX, rowsX]
      exact ih true b1 b4 b7
    · intro h0 hw
      obtain rfl : b1 = false := Option.some.inj h0
      obtain rfl : b0 = true := Option.some.inj (hw 0 (by simp))
      try simp only [avmap_bif, Nat.reduceBEq, Nat.reduceMul, Nat.reduceAdd, Nat.reduceDiv, Int.reduceBEq, rules2, rulesX, rowsX]
      exact ih true true b4 b7
    · intro h; cases h
    · intro h; cases h
    · intro h0 hw
      obtain rfl : b4 = false := Option.some.inj h0
      try simp only [avmap_bif, Nat.reduceBEq, Nat.reduceMul, Nat.reduceAdd, Nat.reduceDiv, Int.reduceBEq, rules2, rulesX, rowsX]
      exact ih b0 b1 true b7
    · intro h; cases h
    · intro h; cases h
    · intro h0 hw
      obtain rfl : b7 = false := Option.some.inj h0
      try simp only [avmap_bif, Nat.reduceBEq, Nat.reduceMul, Nat.reduceAdd, Nat.reduceDiv, Int.reduceBEq, rules2, rulesX, rowsX]
      exact ih b0 b1 b4 true
    · intro h; cases h
    · intro h; cases h
    · intro h0 hw
      obtain rfl : b1 = true := Option.some.inj (hw 1 (by simp))
      try simp only [hg14, avmap_bif, Nat.reduceBEq, Nat.reduceMul, Nat.reduceAdd, Nat.reduceDiv, Int.reduceBEq, rules2, rulesX, rowsX]
      exact w_spec_l05Draw_y1_1 r1 r2 r3 r4 r5 r6 r7 r9 r10 r12 r13 hr12 hr13 hg14 _ b0 b4 b7 false
    · intro _ hw; have := hw 10 (by simp); cases this
    · intro _ hw; have := hw 11 (by simp); cases this
theorem w_spec_l05Draw_y1_3 (r1 : Bool × Xl01Cur) (r2 : Int × Xl01Cur) (r3 : Int × Xl01Cur) (r4 : Int × Xl01Cur) (r5 : Int × Xl01Cur) (r6 : Bool × Xl01Cur) (r7 : Int × Xl01Cur) (r9 : Int × Xl01Cur) (r10 : Bool × Xl01Cur) (r12 : Int × Xl01Cur) (r13 : Int × Xl01Cur) (hr12 : f_spec_l01Below r10.2 (300 : Int) = some r12) (hr13 : f_spec_l01Below r12.2 (30 : Int) = some r13) (hg14 : (appB ([(⟨(0 : Int), (1 : Int), (IntKind.i64.wrap ((900 : Int) + r2.1)), (IntKind.i64.wrap ((10 : Int) + r3.1)), false⟩ : XSegment), (⟨(1 : Int), (2 : Int), (IntKind.i64.wrap ((800 : Int) + r4.1)), (IntKind.i64.wrap ((10 : Int) + r5.1)), r6.1⟩ : XSegment), (⟨(2 : Int), (3 : Int), (IntKind.i64.wrap ((900 : Int) + r7.1)), (IntKind.i64.wrap ((5 : Int) + r9.1)), false⟩ : XSegment)] : List XSegment).length ([(⟨(3 : Int), (1 : Int), (IntKind.i64.wrap ((700 : Int) + r12.1)), (IntKind.i64.wrap ((20 : Int) + r13.1)), true⟩ : XSegment)] : List XSegment).length 40) = true) : ∀ (f : Nat) (b0 : Bool) (b1 : Bool) (b4 : Bool) (b7 : Bool) (b8 : Bool), anyA Tryd.prog y_spec_l05Draw_y1 ⟨[(0, vc (.pb 1099511627776 0)), (2, vc (.pb 2 0)), (3, vc (.pb 3 0)), (39, vc (.pb 3 1)), (40, vc (.undef)), (41, vc (.pb 1099511627776 0)), (42, vc (aI r12.1)), (43, vc (aI (IntKind.i64.wrap ((700 : Int) + r12.1)))), (44, vc (.pb 1099511627776 0)), (45, vc (aI r13.1)), (46, vc (aI (IntKind.i64.wrap ((20 : Int) + r13.1)))), (47, va [aI (3 : Int), aI (1 : Int), aI (IntKind.i64.wrap ((700 : Int) + r12.1)), aI (IntKind.i64.wrap ((20 : Int) + r13.1)), aB true]), (48, vc (.own 3072)), (49, vc (.own 2240)), (50, vc (.pb 3 1))], [(1099511627776, [aL (List.map r8 r13.2.b), aI r13.2.i, aI r13.2.h]), (2, [.nil, .nil]), (3, [.own 640, .own 2240])], [(640, 2, List.map XPoint.row ([(⟨([115, 101, 97] : List UInt8), true⟩ : XPoint), (⟨([98, 97, 114] : List UInt8), false⟩ : XPoint), (⟨([114, 111, 97, 100] : List UInt8), r1.1⟩ : XPoint), (⟨([113, 117, 97, 121] : List UInt8), true⟩ : XPoint)] : List XPoint)), (2240, 5, List.map XSegment.row (([(⟨(0 : Int), (1 : Int), (IntKind.i64.wrap ((900 : Int) + r2.1)), (IntKind.i64.wrap ((10 : Int) + r3.1)), false⟩ : XSegment), (⟨(1 : Int), (2 : Int), (IntKind.i64.wrap ((800 : Int) + r4.1)), (IntKind.i64.wrap ((10 : Int) + r5.1)), r6.1⟩ : XSegment), (⟨(2 : Int), (3 : Int), (IntKind.i64.wrap ((900 : Int) + r7.1)), (IntKind.i64.wrap ((5 : Int) + r9.1)), false⟩ : XSegment)] : List XSegment) ++ ([(⟨(3 : Int), (1 : Int), (IntKind.i64.wrap ((700 : Int) + r12.1)), (IntKind.i64.wrap ((20 : Int) + r13.1)), true⟩ : XSegment)] : List XSegment))), (3072, 5, List.map XSegment.row ([(⟨(3 : Int), (1 : Int), (IntKind.i64.wrap ((700 : Int) + r12.1)), (IntKind.i64.wrap ((20 : Int) + r13.1)), true⟩ : XSegment)] : List XSegment))]⟩ f [b0, b1, true, true, b4, true, true, b7, b8, false, false, false, false] ⟨[(0, vc (.pb 1099511627776 0)), (2, vc (.pb 2 0)), (3, vc (.pb 3 0)), (39, bif b0 then vc (.pb 3 1) else .undef), (40, bif b1 then vc (.own 2240) else .undef), (41, vc (.pb 1099511627776 0)), (42, vc (aI r12.1)), (43, bif b4 then vc (aI (IntKind.i64.wrap ((700 : Int) + r12.1))) else .undef), (44, vc (.pb 1099511627776 0)), (45, vc (aI r13.1)), (46, bif b7 then vc (aI (IntKind.i64.wrap ((20 : Int) + r13.1))) else .undef), (47, bif b8 then va [aI (3 : Int), aI (1 : Int), aI (IntKind.i64.wrap ((700 : Int) + r12.1)), aI (IntKind.i64.wrap ((20 : Int) + r13.1)), aB true] else .undef), (48, .undef), (49, .undef), (50, .undef)], [(1099511627776, [aL (List.map r8 r13.2.b), aI r13.2.i, aI r13.2.h]), (2, [.nil, .nil]), (3, [.own 640, .own 2240])], [(640, 2, List.map XPoint.row ([(⟨([115, 101, 97] : List UInt8), true⟩ : XPoint), (⟨([98, 97, 114] : List UInt8), false⟩ : XPoint), (⟨([114, 111, 97, 100] : List UInt8), r1.1⟩ : XPoint), (⟨([113, 117, 97, 121] : List UInt8), true⟩ : XPoint)] : List XPoint)), (2240, 5, List.map XSegment.row ([(⟨(0 : Int), (1 : Int), (IntKind.i64.wrap ((900 : Int) + r2.1)), (IntKind.i64.wrap ((10 : Int) + r3.1)), false⟩ : XSegment), (⟨(1 : Int), (2 : Int), (IntKind.i64.wrap ((800 : Int) + r4.1)), (IntKind.i64.wrap ((10 : Int) + r5.1)), r6.1⟩ : XSegment), (⟨(2 : Int), (3 : Int), (IntKind.i64.wrap ((900 : Int) + r7.1)), (IntKind.i64.wrap ((5 : Int) + r9.1)), false⟩ : XSegment)] : List XSegment))]⟩ := by
  intro f
  induction f with
  | zero => intro b0 b1 b4 b7 b8 h; simp at h
  | succ f ih =>
    intro b0 b1 b4 b7 b8
    refine any_step ⟨?_, ?_, ?_, ?_, ?_, ?_, ?_, ?_, ?_, ?_, ?_, ?_, ?_, trivial⟩
    · intro h0 hw
      obtain rfl : b0 = false := Option.some.inj h0
      try simp only [avmap_bif, Nat.reduceBEq, Nat.reduceMul, Nat.reduceAdd, Nat.reduceDiv, Int.reduceBEq, rules2, rulesX, rowsX]
      exact ih true b1 b4 b7 b8
    · intro h0 hw
      obtain rfl : b1 = false := Option.some.inj h0
      obtain rfl : b0 = true := Option.some.inj (hw 0 (by simp))
      try simp only [avmap_bif, Nat.reduceBEq, Nat.reduceMul, Nat.reduceAdd, Nat.reduceDiv, Int.reduceBEq, rules2, rulesX, rowsX]
      exact ih true true b4 b7 b8
    · intro h; cases h
    · intro h; cases h
    · intro h0 hw
      obtain rfl : b4 = false := Option.some.inj h0
      try simp only [avmap_bif, Nat.reduceBEq, Nat.reduceMul, Nat.reduceAdd, Nat.reduceDiv, Int.reduceBEq, rules2, rulesX, rowsX]
      exact ih b0 b1 true b7 b8
    · intro h; cases h
    · intro h; cases h
    · intro h0 hw
      obtain rfl : b7 = false := Option.some.inj h0
      try simp only [avmap_bif, Nat.reduceBEq, Nat.reduceMul, Nat.reduceAdd, Nat.reduceDiv, Int.reduceBEq, rules2, rulesX, rowsX]
      exact ih b0 b1 b4 true b8
    · intro h0 hw
      obtain rfl : b8 = false := Option.some.inj h0
      obtain rfl : b4 = true := Option.some.inj (hw 4 (by simp))
      obtain rfl : b7 = true := Option.some.inj (hw 7 (by simp))
      try simp only [avmap_bif, Nat.reduceBEq, Nat.reduceMul, Nat.reduceAdd, Nat.reduceDiv, Int.reduceBEq, rules2, rulesX, rowsX]
      exact ih b0 b1 true true true
    · intro h0 hw
      obtain rfl : b8 = true := Option.some.inj (hw 8 (by simp))
      try simp only [avmap_bif, Nat.reduceBEq, Nat.reduceMul, Nat.reduceAdd, Nat.reduceDiv, Int.reduceBEq, rules2, rulesX, rowsX]
      refine go_bsl (es := List.map XSegment.row ([(⟨(3 : Int), (1 : Int), (IntKind.i64.wrap ((700 : Int) + r12.1)), (IntKind.i64.wrap ((20 : Int) + r13.1)), true⟩ : XSegment)] : List XSegment)) rfl (by simp only [St.fresh, List.all_cons, List.all_nil, all_bif]; simp [AV.cells, V1.cells, AC.uses]) ?_
      try simp only [avmap_bif, Nat.reduceBEq, Nat.reduceMul, Nat.reduceAdd, Nat.reduceDiv, Int.reduceBEq, rules2, rulesX, rowsX]
      exact w_spec_l05Draw_y1_2 r1 r2 r3 r4 r5 r6 r7 r9 r10 r12 r13 hr12 hr13 hg14 _ b0 b1 b4 b7
    · intro _ hw; have := hw 9 (by simp); cases this
    · intro _ hw; have := hw 9 (by simp); cases this
    · intro _ hw; have := hw 11 (by simp); cases this
theorem w_spec_l05Draw_y1_4 (r1 : Bool × Xl01Cur) (r2 : Int × Xl01Cur) (r3 : Int × Xl01Cur) (r4 : Int × Xl01Cur) (r5 : Int × Xl01Cur) (r6 : Bool × Xl01Cur) (r7 : Int × Xl01Cur) (r9 : Int × Xl01Cur) (r10 : Bool × Xl01Cur) (r12 : Int × Xl01Cur) (r13 : Int × Xl01Cur) (hr12 : f_spec_l01Below r10.2 (300 : Int) = some r12) (hr13 : f_spec_l01Below r12.2 (30 : Int) = some r13) (hg14 : (appB ([(⟨(0 : Int), (1 : Int), (IntKind.i64.wrap ((900 : Int) + r2.1)), (IntKind.i64.wrap ((10 : Int) + r3.1)), false⟩ : XSegment), (⟨(1 : Int), (2 : Int), (IntKind.i64.wrap ((800 : Int) + r4.1)), (IntKind.i64.wrap ((10 : Int) + r5.1)), r6.1⟩ : XSegment), (⟨(2 : Int), (3 : Int), (IntKind.i64.wrap ((900 : Int) + r7.1)), (IntKind.i64.wrap ((5 : Int) + r9.1)), false⟩ : XSegment)] : List XSegment).length ([(⟨(3 : Int), (1 : Int), (IntKind.i64.wrap ((700 : Int) + r12.1)), (IntKind.i64.wrap ((20 : Int) + r13.1)), true⟩ : XSegment)] : List XSegment).length 40) = true) : ∀ (f : Nat) (b0 : Bool) (b1 : Bool) (b4 : Bool) (b5 : Bool), anyA Tryd.prog y_spec_l05Draw_y1 ⟨[(0, vc (.pb 1099511627776 0)), (2, vc (.pb 2 0)), (3, vc (.pb 3 0)), (39, vc (.pb 3 1)), (40, vc (.undef)), (41, vc (.pb 1099511627776 0)), (42, vc (aI r12.1)), (43, vc (aI (IntKind.i64.wrap ((700 : Int) + r12.1)))), (44, vc (.pb 1099511627776 0)), (45, vc (aI r13.1)), (46, vc (aI (IntKind.i64.wrap ((20 : Int) + r13.1)))), (47, va [aI (3 : Int), aI (1 : Int), aI (IntKind.i64.wrap ((700 : Int) + r12.1)), aI (IntKind.i64.wrap ((20 : Int) + r13.1)), aB true]), (48, vc (.own 3072)), (49, vc (.own 2240)), (50, vc (.pb 3 1))], [(1099511627776, [aL (List.map r8 r13.2.b), aI r13.2.i, aI r13.2.h]), (2, [.nil, .nil]), (3, [.own 640, .own 2240])], [(640, 2, List.map XPoint.row ([(⟨([115, 101, 97] : List UInt8), true⟩ : XPoint), (⟨([98, 97, 114] : List UInt8), false⟩ : XPoint), (⟨([114, 111, 97, 100] : List UInt8), r1.1⟩ : XPoint), (⟨([113, 117, 97, 121] : List UInt8), true⟩ : XPoint)] : List XPoint)), (2240, 5, List.map XSegment.row (([(⟨(0 : Int), (1 : Int), (IntKind.i64.wrap ((900 : Int) + r2.1)), (IntKind.i64.wrap ((10 : Int) + r3.1)), false⟩ : XSegment), (⟨(1 : Int), (2 : Int), (IntKind.i64.wrap ((800 : Int) + r4.1)), (IntKind.i64.wrap ((10 : Int) + r5.1)), r6.1⟩ : XSegment), (⟨(2 : Int), (3 : Int), (IntKind.i64.wrap ((900 : Int) + r7.1)), (IntKind.i64.wrap ((5 : Int) + r9.1)), false⟩ : XSegment)] : List XSegment) ++ ([(⟨(3 : Int), (1 : Int), (IntKind.i64.wrap ((700 : Int) + r12.1)), (IntKind.i64.wrap ((20 : Int) + r13.1)), true⟩ : XSegment)] : List XSegment))), (3072, 5, List.map XSegment.row ([(⟨(3 : Int), (1 : Int), (IntKind.i64.wrap ((700 : Int) + r12.1)), (IntKind.i64.wrap ((20 : Int) + r13.1)), true⟩ : XSegment)] : List XSegment))]⟩ f [b0, b1, true, true, b4, b5, false, false, false, false, false, false, false] ⟨[(0, vc (.pb 1099511627776 0)), (2, vc (.pb 2 0)), (3, vc (.pb 3 0)), (39, bif b0 then vc (.pb 3 1) else .undef), (40, bif b1 then vc (.own 2240) else .undef), (41, vc (.pb 1099511627776 0)), (42, vc (aI r12.1)), (43, bif b4 then vc (aI (IntKind.i64.wrap ((700 : Int) + r12.1))) else .undef), (44, bif b5 then vc (.pb 1099511627776 0) else .undef), (45, .undef), (46, .undef), (47, .undef), (48, .undef), (49, .undef), (50, .undef)], [(1099511627776, [aL (List.map r8 r12.2.b), aI r12.2.i, aI r12.2.h]), (2, [.nil, .nil]), (3, [.own 640, .own 2240])], [(640, 2, List.map XPoint.row ([(⟨([115, 101, 97] : List UInt8), true⟩ : XPoint), (⟨([98, 97, 114] : List UInt8), false⟩ : XPoint), (⟨([114, 111, 97, 100] : List UInt8), r1.1⟩ : XPoint), (⟨([113, 117, 97, 121] : List UInt8), true⟩ : XPoint)] : List XPoint)), (2240, 5, List.map XSegment.row ([(⟨(0 : Int), (1 : Int), (IntKind.i64.wrap ((900 : Int) + r2.1)), (IntKind.i64.wrap ((10 : Int) + r3.1)), false⟩ : XSegment), (⟨(1 : Int), (2 : Int), (IntKind.i64.wrap ((800 : Int) + r4.1)), (IntKind.i64.wrap ((10 : Int) + r5.1)), r6.1⟩ : XSegment), (⟨(2 : Int), (3 : Int), (IntKind.i64.wrap ((900 : Int) + r7.1)), (IntKind.i64.wrap ((5 : Int) + r9.1)), false⟩ : XSegment)] : List XSegment))]⟩ := by
  intro f
  induction f with
  | zero => intro b0 b1 b4 b5 h; simp at h
  | succ f ih =>
    intro b0 b1 b4 b5
    refine any_step ⟨?_, ?_, ?_, ?_, ?_, ?_, ?_, ?_, ?_, ?_, ?_, ?_, ?_, trivial⟩
    · intro h0 hw
      obtain rfl : b0 = false := Option.some.inj h0
      try simp only [avmap_bif, Nat.reduceBEq, Nat.reduceMul, Nat.reduceAdd, Nat.reduceDiv, Int.reduceBEq, rules2, rulesX, rowsX]
      exact ih true b1 b4 b5
    · intro h0 hw
      obtain rfl : b1 = false := Option.some.inj h0
      obtain rfl : b0 = true := Option.some.inj (hw 0 (by simp))
      try simp only [avmap_bif, Nat.reduceBEq, Nat.reduceMul, Nat.reduceAdd, Nat.reduceDiv, Int.reduceBEq, rules2, rulesX, rowsX]
      exact ih true true b4 b5
    · intro h; cases h
    · intro h; cases h
    · intro h0 hw
      obtain rfl : b4 = false := Option.some.inj h0
      try simp only [avmap_bif, Nat.reduceBEq, Nat.reduceMul, Nat.reduceAdd, Nat.reduceDiv, Int.reduceBEq, rules2, rulesX, rowsX]
      exact ih b0 b1 true b5
    · intro h0 hw
      obtain rfl : b5 = false := Option.some.inj h0
      try simp only [avmap_bif, Nat.reduceBEq, Nat.reduceMul, Nat.reduceAdd, Nat.reduceDiv, Int.reduceBEq, rules2, rulesX, rowsX]
      exact ih b0 b1 b4 true
    · intro h0 hw
      obtain rfl : b5 = true := Option.some.inj (hw 5 (by simp))
      try simp only [avmap_bif, Nat.reduceBEq, Nat.reduceMul, Nat.reduceAdd, Nat.reduceDiv, Int.reduceBEq, rules2, rulesX, rowsX]
      refine go_cally (w_spec_l01Below _ _ _ hr13) 1099511627776 rfl rfl rfl ?_
      try simp only [avmap_bif, Nat.reduceBEq, Nat.reduceMul, Nat.reduceAdd, Nat.reduceDiv, Int.reduceBEq, rules2, rulesX, rowsX]
      exact w_spec_l05Draw_y1_3 r1 r2 r3 r4 r5 r6 r7 r9 r10 r12 r13 hr12 hr13 hg14 _ b0 b1 b4 false false
    · intro _ hw; have := hw 6 (by simp); cases this
    · intro _ hw; have := hw 7 (by simp); cases this
    · intro _ hw; have := hw 8 (by simp); cases this
    · intro _ hw; have := hw 9 (by simp); cases this
    · intro _ hw; have := hw 6 (by simp); cases this
    · intro _ hw; have := hw 11 (by simp); cases this
theorem w_spec_l05Draw_y1_5 (r1 : Bool × Xl01Cur) (r2 : Int × Xl01Cur) (r3 : Int × Xl01Cur) (r4 : Int × Xl01Cur) (r5 : Int × Xl01Cur) (r6 : Bool × Xl01Cur) (r7 : Int × Xl01Cur) (r9 : Int × Xl01Cur) (r10 : Bool × Xl01Cur) (r12 : Int × Xl01Cur) (r13 : Int × Xl01Cur) (hr12 : f_spec_l01Below r10.2 (300 : Int) = some r12) (hr13 : f_spec_l01Below r12.2 (30 : Int) = some r13) (hg14 : (appB ([(⟨(0 : Int), (1 : Int), (IntKind.i64.wrap ((900 : Int) + r2.1)), (IntKind.i64.wrap ((10 : Int) + r3.1)), false⟩ : XSegment), (⟨(1 : Int), (2 : Int), (IntKind.i64.wrap ((800 : Int) + r4.1)), (IntKind.i64.wrap ((10 : Int) + r5.1)), r6.1⟩ : XSegment), (⟨(2 : Int), (3 : Int), (IntKind.i64.wrap ((900 : Int) + r7.1)), (IntKind.i64.wrap ((5 : Int) + r9.1)), false⟩ : XSegment)] : List XSegment).length ([(⟨(3 : Int), (1 : Int), (IntKind.i64.wrap ((700 : Int) + r12.1)), (IntKind.i64.wrap ((20 : Int) + r13.1)), true⟩ : XSegment)] : List XSegment).length 40) = true) : ∀ (f : Nat) (b0 : Bool) (b1 : Bool) (b2 : Bool) (b5 : Bool), anyA Tryd.prog y_spec_l05Draw_y1 ⟨[(0, vc (.pb 1099511627776 0)), (2, vc (.pb 2 0)), (3, vc (.pb 3 0)), (39, vc (.pb 3 1)), (40, vc (.undef)), (41, vc (.pb 1099511627776 0)), (42, vc (aI r12.1)), (43, vc (aI (IntKind.i64.wrap ((700 : Int) + r12.1)))), (44, vc (.pb 1099511627776 0)), (45, vc (aI r13.1)), (46, vc (aI (IntKind.i64.wrap ((20 : Int) + r13.1)))), (47, va [aI (3 : Int), aI (1 : Int), aI (IntKind.i64.wrap ((700 : Int) + r12.1)), aI (IntKind.i64.wrap ((20 : Int) + r13.1)), aB true]), (48, vc (.own 3072)), (49, vc (.own 2240)), (50, vc (.pb 3 1))], [(1099511627776, [aL (List.map r8 r13.2.b), aI r13.2.i, aI r13.2.h]), (2, [.nil, .nil]), (3, [.own 640, .own 2240])], [(640, 2, List.map XPoint.row ([(⟨([115, 101, 97] : List UInt8), true⟩ : XPoint), (⟨([98, 97, 114] : List UInt8), false⟩ : XPoint), (⟨([114, 111, 97, 100] : List UInt8), r1.1⟩ : XPoint), (⟨([113, 117, 97, 121] : List UInt8), true⟩ : XPoint)] : List XPoint)), (2240, 5, List.map XSegment.row (([(⟨(0 : Int), (1 : Int), (IntKind.i64.wrap ((900 : Int) + r2.1)), (IntKind.i64.wrap ((10 : Int) + r3.1)), false⟩ : XSegment), (⟨(1 : Int), (2 : Int), (IntKind.i64.wrap ((800 : Int) + r4.1)), (IntKind.i64.wrap ((10 : Int) + r5.1)), r6.1⟩ : XSegment), (⟨(2 : Int), (3 : Int), (IntKind.i64.wrap ((900 : Int) + r7.1)), (IntKind.i64.wrap ((5 : Int) + r9.1)), false⟩ : XSegment)] : List XSegment) ++ ([(⟨(3 : Int), (1 : Int), (IntKind.i64.wrap ((700 : Int) + r12.1)), (IntKind.i64.wrap ((20 : Int) + r13.1)), true⟩ : XSegment)] : List XSegment))), (3072, 5, List.map XSegment.row ([(⟨(3 : Int), (1 : Int), (IntKind.i64.wrap ((700 : Int) + r12.1)), (IntKind.i64.wrap ((20 : Int) + r13.1)), true⟩ : XSegment)] : List XSegment))]⟩ f [b0, b1, b2, false, false, b5, false, false, false, false, false, false, false] ⟨[(0, vc (.pb 1099511627776 0)), (2, vc (.pb 2 0)), (3, vc (.pb 3 0)), (39, bif b0 then vc (.pb 3 1) else .undef), (40, bif b1 then vc (.own 2240) else .undef), (41, bif b2 then vc (.pb 1099511627776 0) else .undef), (42, .undef), (43, .undef), (44, bif b5 then vc (.pb 1099511627776 0) else .undef), (45, .undef), (46, .undef), (47, .undef), (48, .undef), (49, .undef), (50, .undef)], [(1099511627776, [aL (List.map r8 r10.2.b), aI r10.2.i, aI r10.2.h]), (2, [.nil, .nil]), (3, [.own 640, .own 2240])], [(640, 2, List.map XPoint.row ([(⟨([115, 101, 97] : List UInt8), true⟩ : XPoint), (⟨([98, 97, 114] : List UInt8), false⟩ : XPoint), (⟨([114, 111, 97, 100] : List UInt8), r1.1⟩ : XPoint), (⟨([113, 117, 97, 121] : List UInt8), true⟩ : XPoint)] : List XPoint)), (2240, 5, List.map XSegment.row ([(⟨(0 : Int), (1 : Int), (IntKind.i64.wrap ((900 : Int) + r2.1)), (IntKind.i64.wrap ((10 : Int) + r3.1)), false⟩ : XSegment), (⟨(1 : Int), (2 : Int), (IntKind.i64.wrap ((800 : Int) + r4.1)), (IntKind.i64.wrap ((10 : Int) + r5.1)), r6.1⟩ : XSegment), (⟨(2 : Int), (3 : Int), (IntKind.i64.wrap ((900 : Int) + r7.1)), (IntKind.i64.wrap ((5 : Int) + r9.1)), false⟩ : XSegment)] : List XSegment))]⟩ := by
  intro f
  induction f with
  | zero => intro b0 b1 b2 b5 h; simp at h
  | succ f ih =>
    intro b0 b1 b2 b5
    refine any_step ⟨?_, ?_, ?_, ?_, ?_, ?_, ?_, ?_, ?_, ?_, ?_, ?_, ?_, trivial⟩
    · intro h0 hw
      obtain rfl : b0 = false := Option.some.inj h0
      try simp only [avmap_bif, Nat.reduceBEq, Nat.reduceMul, Nat.reduceAdd, Nat.reduceDiv, Int.reduceBEq, rules2, rulesX, rowsX]
      exact ih true b1 b2 b5
    · intro h0 hw
      obtain rfl : b1 = false := Option.some.inj h0
      obtain rfl : b0 = true := Option.some.inj (hw 0 (by simp))
      try simp only [avmap_bif, Nat.reduceBEq, Nat.reduceMul, Nat.reduceAdd, Nat.reduceDiv, Int.reduceBEq, rules2, rulesX, rowsX]
      exact ih true true b2 b5
    · intro h0 hw
      obtain rfl : b2 = false := Option.some.inj h0
      try simp only [avmap_bif, Nat.reduceBEq, Nat.reduceMul, Nat.reduceAdd, Nat.reduceDiv, Int.reduceBEq, rules2, rulesX, rowsX]
      exact ih b0 b1 true b5
    · intro h0 hw
      obtain rfl : b2 = true := Option.some.inj (hw 2 (by simp))
      try simp only [avmap_bif, Nat.reduceBEq, Nat.reduceMul, Nat.reduceAdd, Nat.reduceDiv, Int.reduceBEq, rules2, rulesX, rowsX]
      refine go_cally (w_spec_l01Below _ _ _ hr12) 1099511627776 rfl rfl rfl ?_
      try simp only [avmap_bif, Nat.reduceBEq, Nat.reduceMul, Nat.reduceAdd, Nat.reduceDiv, Int.reduceBEq, rules2, rulesX, rowsX]
      exact w_spec_l05Draw_y1_4 r1 r2 r3 r4 r5 r6 r7 r9 r10 r12 r13 hr12 hr13 hg14 _ b0 b1 false b5
    · intro _ hw; have := hw 3 (by simp); cases this
    · intro h0 hw
      obtain rfl : b5 = false := Option.some.inj h0
      try simp only [avmap_bif, Nat.reduceBEq, Nat.reduceMul, Nat.reduceAdd, Nat.reduceDiv, Int.reduceBEq, rules2, rulesX, rowsX]
      exact ih b0 b1 b2 true
    · intro _ hw; have := hw 3 (by simp); cases this
    · intro _ hw; have := hw 6 (by simp); cases this
    · intro _ hw; have := hw 4 (by simp); cases this
    · intro _ hw; have := hw 8 (by simp); cases this
    · intro _ hw; have := hw 9 (by simp); cases this
    · intro _ hw; have := hw 3 (by simp); cases this
    · intro _ hw; have := hw 11 (by simp); cases this
theorem w_spec_l05Draw_y2_0 (v18 : List XPoint) (v19 : List XSegment) (r20 : Bool × Xl01Cur) (r23 : Int × Xl01Cur) (hr23 : f_spec_l01Below r20.2 (300 : Int) = some r23) (hg24 : (appB v19.length ([(⟨(2 : Int), (4 : Int), (IntKind.i64.wrap ((800 : Int) + r23.1)), (15 : Int), false⟩ : XSegment)] : List XSegment).length 40) = true) : ∀ (f : Nat), anyA Tryd.prog y_spec_l05Draw_y2 ⟨[(0, vc (.pb 1099511627776 0)), (2, vc (.pb 2 0)), (3, vc (.pb 3 0)), (59, vc (.pb 3 1)), (60, vc (.undef)), (61, vc (.pb 1099511627776 0)), (62, vc (aI r23.1)), (63, vc (aI (IntKind.i64.wrap ((800 : Int) + r23.1)))), (64, va [aI (2 : Int), aI (4 : Int), aI (IntKind.i64.wrap ((800 : Int) + r23.1)), aI (15 : Int), aB false]), (65, vc (.own 4160)), (66, vc (.own 2240)), (67, vc (.pb 3 1))], [(1099511627776, [aL (List.map r8 r23.2.b), aI r23.2.i, aI r23.2.h]), (2, [.nil, .nil]), (3, [.own 640, .own 2240])], [(640, 2, List.map XPoint.row (v18 ++ ([(⟨([100, 111, 99, 107] : List UInt8), true⟩ : XPoint)] : List XPoint))), (2240, 5, List.map XSegment.row (v19 ++ ([(⟨(2 : Int), (4 : Int), (IntKind.i64.wrap ((800 : Int) + r23.1)), (15 : Int), false⟩ : XSegment)] : List XSegment))), (4160, 5, List.map XSegment.row ([(⟨(2 : Int), (4 : Int), (IntKind.i64.wrap ((800 : Int) + r23.1)), (15 : Int), false⟩ : XSegment)] : List XSegment))]⟩ f [true, true, true, true, true, true, true, true, true, true] ⟨[(0, vc (.pb 1099511627776 0)), (2, vc (.pb 2 0)), (3, vc (.pb 3 0)), (59, vc (.pb 3 1)), (60, vc (.undef)), (61, vc (.pb 1099511627776 0)), (62, vc (aI r23.1)), (63, vc (aI (IntKind.i64.wrap ((800 : Int) + r23.1)))), (64, va [aI (2 : Int), aI (4 : Int), aI (IntKind.i64.wrap ((800 : Int) + r23.1)), aI (15 : Int), aB false]), (65, vc (.own 4160)), (66, vc (.own 2240)), (67, vc (.pb 3 1))], [(1099511627776, [aL (List.map r8 r23.2.b), aI r23.2.i, aI r23.2.h]), (2, [.nil, .nil]), (3, [.own 640, .own 2240])], [(640, 2, List.map XPoint.row (v18 ++ ([(⟨([100, 111, 99, 107] : List UInt8), true⟩ : XPoint)] : List XPoint))), (2240, 5, List.map XSegment.row (v19 ++ ([(⟨(2 : Int), (4 : Int), (IntKind.i64.wrap ((800 : Int) + r23.1)), (15 : Int), false⟩ : XSegment)] : List XSegment))), (4160, 5, List.map XSegment.row ([(⟨(2 : Int), (4 : Int), (IntKind.i64.wrap ((800 : Int) + r23.1)), (15 : Int), false⟩ : XSegment)] : List XSegment))]⟩ := by
  intro f
  induction f with
  | zero => intro h; rfl
  | succ f ih =>
    refine any_step ⟨?_, ?_, ?_, ?_, ?_, ?_, ?_, ?_, ?_, ?_, trivial⟩
    · intro h; cases h
    · intro h; cases h
    · intro h; cases h
    · intro h; cases h
    · intro h; cases h
    · intro h; cases h
    · intro h; cases h
    · intro h; cases h
    · intro h; cases h
    · intro h; cases h
theorem w_spec_l05Draw_y2_1 (v18 : List XPoint) (v19 : List XSegment) (r20 : Bool × Xl01Cur) (r23 : Int × Xl01Cur) (hr23 : f_spec_l01Below r20.2 (300 : Int) = some r23) (hg24 : (appB v19.length ([(⟨(2 : Int), (4 : Int), (IntKind.i64.wrap ((800 : Int) + r23.1)), (15 : Int), false⟩ : XSegment)] : List XSegment).length 40) = true) : ∀ (f : Nat) (b0 : Bool) (b4 : Bool) (b8 : Bool), anyA Tryd.prog y_spec_l05Draw_y2 ⟨[(0, vc (.pb 1099511627776 0)), (2, vc (.pb 2 0)), (3, vc (.pb 3 0)), (59, vc (.pb 3 1)), (60, vc (.undef)), (61, vc (.pb 1099511627776 0)), (62, vc (aI r23.1)), (63, vc (aI (IntKind.i64.wrap ((800 : Int) + r23.1)))), (64, va [aI (2 : Int), aI (4 : Int), aI (IntKind.i64.wrap ((800 : Int) + r23.1)), aI (15 : Int), aB false]), (65, vc (.own 4160)), (66, vc (.own 2240)), (67, vc (.pb 3 1))], [(1099511627776, [aL (List.map r8 r23.2.b), aI r23.2.i, aI r23.2.h]), (2, [.nil, .nil]), (3, [.own 640, .own 2240])], [(640, 2, List.map XPoint.row (v18 ++ ([(⟨([100, 111, 99, 107] : List UInt8), true⟩ : XPoint)] : List XPoint))), (2240, 5, List.map XSegment.row (v19 ++ ([(⟨(2 : Int), (4 : Int), (IntKind.i64.wrap ((800 : Int) + r23.1)), (15 : Int), false⟩ : XSegment)] : List XSegment))), (4160, 5, List.map XSegment.row ([(⟨(2 : Int), (4 : Int), (IntKind.i64.wrap ((800 : Int) + r23.1)), (15 : Int), false⟩ : XSegment)] : List XSegment))]⟩ f [b0, true, true, true, b4, true, true, true, b8, false] ⟨[(0, vc (.pb 1099511627776 0)), (2, vc (.pb 2 0)), (3, vc (.pb 3 0)), (59, bif b0 then vc (.pb 3 1) else .undef), (60, vc (.undef)), (61, vc (.pb 1099511627776 0)), (62, vc (aI r23.1)), (63, bif b4 then vc (aI (IntKind.i64.wrap ((800 : Int) + r23.1))) else .undef), (64, va [aI (2 : Int), aI (4 : Int), aI (IntKind.i64.wrap ((800 : Int) + r23.1)), aI (15 : Int), aB false]), (65, vc (.own 4160)), (66, vc (.own 2240)), (67, bif b8 then vc (.pb 3 1) else .undef)], [(1099511627776, [aL (List.map r8 r23.2.b), aI r23.2.i, aI r23.2.h]), (2, [.nil, .nil]), (3, [.own 640, .undef])], [(640, 2, List.map XPoint.row (v18 ++ ([(⟨([100, 111, 99, 107] : List UInt8), true⟩ : XPoint)] : List XPoint))), (2240, 5, List.map XSegment.row (v19 ++ ([(⟨(2 : Int), (4 : Int), (IntKind.i64.wrap ((800 : Int) + r23.1)), (15 : Int), false⟩ : XSegment)] : List XSegment))), (4160, 5, List.map XSegment.row ([(⟨(2 : Int), (4 : Int), (IntKind.i64.wrap ((800 : Int) + r23.1)), (15 : Int), false⟩ : XSegment)] : List XSegment))]⟩ := by
  intro f
  induction f with
  | zero => intro b0 b4 b8 h; simp at h
  | succ f ih =>
    intro b0 b4 b8
    refine any_step ⟨?_, ?_, ?_, ?_, ?_, ?_, ?_, ?_, ?_, ?_, trivial⟩
    · intro h0 hw
      obtain rfl : b0 = false := Option.some.inj h0
      try simp only [avmap_bif, Nat.reduceBEq, Nat.reduceMul, Nat.reduceAdd, Nat.reduceDiv, Int.reduceBEq, rules2, rulesX, rowsX]
      exact ih true b4 b8
    · intro h; cases h
    · intro h; cases h
    · intro h; cases h
    · intro h0 hw
      obtain rfl : b4 = false := Option.some.inj h0
      try simp only [avmap_bif, Nat.reduceBEq, Nat.reduceMul, Nat.reduceAdd, Nat.reduceDiv, Int.reduceBEq, rules2, rulesX, rowsX]
      exact ih b0 true b8
    · intro h; cases h
    · intro h; cases h
    · intro h; cases h
    · intro h0 hw
      obtain rfl : b8 = false := Option.some.inj h0
      obtain rfl : b0 = true := Option.some.inj (hw 0 (by simp))
      obtain rfl : b4 = true := Option.some.inj (hw 4 (by simp))
      try simp only [avmap_bif, Nat.reduceBEq, Nat.reduceMul, Nat.reduceAdd, Nat.reduceDiv, Int.reduceBEq, rules2, rulesX, rowsX]
      exact ih true true true
    · intro h0 hw
      obtain rfl : b0 = true := Option.some.inj (hw 0 (by simp))
      obtain rfl : b4 = true := Option.some.inj (hw 4 (by simp))
      obtain rfl : b8 = true := Option.some.inj (hw 8 (by simp))
      try simp only [avmap_bif, Nat.reduceBEq, Nat.reduceMul, Nat.reduceAdd, Nat.reduceDiv, Int.reduceBEq, rules2, rulesX, rowsX]
      exact w_spec_l05Draw_y2_0 v18 v19 r20 r23 hr23 hg24 _ 
theorem w_spec_l05Draw_y2_2 (v18 : List XPoint) (v19 : List XSegment) (r20 : Bool × Xl01Cur) (r23 : Int × Xl01Cur) (hr23 : f_spec_l01Below r20.2 (300 : Int) = some r23) (hg24 : (appB v19.length ([(⟨(2 : Int), (4 : Int), (IntKind.i64.wrap ((800 : Int) + r23.1)), (15 : Int), false⟩ : XSegment)] : List XSegment).length 40) = true) : ∀ (f : Nat) (b0 : Bool) (b1 : Bool) (b4 : Bool), anyA Tryd.prog y_spec_l05Draw_y2 ⟨[(0, vc (.pb 1099511627776 0)), (2, vc (.pb 2 0)), (3, vc (.pb 3 0)), (59, vc (.pb 3 1)), (60, vc (.undef)), (61, vc (.pb 1099511627776 0)), (62, vc (aI r23.1)), (63, vc (aI (IntKind.i64.wrap ((800 : Int) + r23.1)))), (64, va [aI (2 : Int), aI (4 : Int), aI (IntKind.i64.wrap ((800 : Int) + r23.1)), aI (15 : Int), aB false]), (65, vc (.own 4160)), (66, vc (.own 2240)), (67, vc (.pb 3 1))], [(1099511627776, [aL (List.map r8 r23.2.b), aI r23.2.i, aI r23.2.h]), (2, [.nil, .nil]), (3, [.own 640, .own 2240])], [(640, 2, List.map XPoint.row (v18 ++ ([(⟨([100, 111, 99, 107] : List UInt8), true⟩ : XPoint)] : List XPoint))), (2240, 5, List.map XSegment.row (v19 ++ ([(⟨(2 : Int), (4 : Int), (IntKind.i64.wrap ((800 : Int) + r23.1)), (15 : Int), false⟩ : XSegment)] : List XSegment))), (4160, 5, List.map XSegment.row ([(⟨(2 : Int), (4 : Int), (IntKind.i64.wrap ((800 : Int) + r23.1)), (15 : Int), false⟩ : XSegment)] : List XSegment))]⟩ f [b0, b1, true, true, b4, true, true, false, false, false] ⟨[(0, vc (.pb 1099511627776 0)), (2, vc (.pb 2 0)), (3, vc (.pb 3 0)), (59, bif b0 then vc (.pb 3 1) else .undef), (60, bif b1 then vc (.own 2240) else .undef), (61, vc (.pb 1099511627776 0)), (62, vc (aI r23.1)), (63, bif b4 then vc (aI (IntKind.i64.wrap ((800 : Int) + r23.1))) else .undef), (64, va [aI (2 : Int), aI (4 : Int), aI (IntKind.i64.wrap ((800 : Int) + r23.1)), aI (15 : Int), aB false]), (65, vc (.own 4160)), (66, .undef), (67, .undef)], [(1099511627776, [aL (List.map r8 r23.2.b), aI r23.2.i, aI r23.2.h]), (2, [.nil, .nil]), (3, [.own 640, .own 2240])], [(640, 2, List.map XPoint.row (v18 ++ ([(⟨([100, 111, 99, 107] : List UInt8), true⟩ : XPoint)] : List XPoint))), (2240, 5, List.map XSegment.row v19), (4160, 5, List.map XSegment.row ([(⟨(2 : Int), (4 : Int), (IntKind.i64.wrap ((800 : Int) + r23.1)), (15 : Int), false⟩ : XSegment)] : List XSegment))]⟩ := by
  intro f
  induction f with
  | zero => intro b0 b1 b4 h; simp at h
  | succ f ih =>
    intro b0 b1 b4
    refine any_step ⟨?_, ?_, ?_, ?_, ?_, ?_, ?_, ?_, ?_, ?_, trivial⟩
    · intro h0 hw
      obtain rfl : b0 = false := Option.some.inj h0
      try simp only [avmap_bif, Nat.reduceBEq, Nat.reduceMul, Nat.reduceAdd, Nat.reduceDiv, Int.reduceBEq, rules2, rulesX, rowsX]
      exact ih true b1 b4
    · intro h0 hw
      obtain rfl : b1 = false := Option.some.inj h0
      obtain rfl : b0 = true := Option.some.inj (hw 0 (by simp))
      try simp only [avmap_bif, Nat.reduceBEq, Nat.reduceMul, Nat.reduceAdd, Nat.reduceDiv, Int.reduceBEq, rules2, rulesX, rowsX]
      exact ih true true b4
    · intro h; cases h
    · intro h; cases h
    · intro h0 hw
      obtain rfl : b4 = false := Option.some.inj h0
      try simp only [avmap_bif, Nat.reduceBEq, Nat.reduceMul, Nat.reduceAdd, Nat.reduceDiv, Int.reduceBEq, rules2, rulesX, rowsX]
      exact ih b0 b1 true
    · intro h; cases h
    · intro h; cases h
    · intro h0 hw
      obtain rfl : b1 = true := Option.some.inj (hw 1 (by simp))
      try simp only [hg24, avmap_bif, Nat.reduceBEq, Nat.reduceMul, Nat.reduceAdd, Nat.reduceDiv, Int.reduceBEq, rules2, rulesX, rowsX]
      exact w_spec_l05Draw_y2_1 v18 v19 r20 r23 hr23 hg24 _ b0 b4 false
    · intro _ hw; have := hw 7 (by simp); cases this
    · intro _ hw; have := hw 8 (by simp); cases this
theorem w_spec_l05Draw_y2_3 (v18 : List XPoint) (v19 : List XSegment) (r20 : Bool × Xl01Cur) (r23 : Int × Xl01Cur) (hr23 : f_spec_l01Below r20.2 (300 : Int) = some r23) (hg24 : (appB v19.length ([(⟨(2 : Int), (4 : Int), (IntKind.i64.wrap ((800 : Int) + r23.1)), (15 : Int), false⟩ : XSegment)] : List XSegment).length 40) = true) : ∀ (f : Nat) (b0 : Bool) (b1 : Bool) (b4 : Bool) (b5 : Bool), anyA Tryd.prog y_spec_l05Draw_y2 ⟨[(0, vc (.pb 1099511627776 0)), (2, vc (.pb 2 0)), (3, vc (.pb 3 0)), (59, vc (.pb 3 1)), (60, vc (.undef)), (61, vc (.pb 1099511627776 0)), (62, vc (aI r23.1)), (63, vc (aI (IntKind.i64.wrap ((800 : Int) + r23.1)))), (64, va [aI (2 : Int), aI (4 : Int), aI (IntKind.i64.wrap ((800 : Int) + r23.1)), aI (15 : Int), aB false]), (65, vc (.own 4160)), (66, vc (.own 2240)), (67, vc (.pb 3 1))], [(1099511627776, [aL (List.map r8 r23.2.b), aI r23.2.i, aI r23.2.h]), (2, [.nil, .nil]), (3, [.own 640, .own 2240])], [(640, 2, List.map XPoint.row (v18 ++ ([(⟨([100, 111, 99, 107] : List UInt8), true⟩ : XPoint)] : List XPoint))), (2240, 5, List.map XSegment.row (v19 ++ ([(⟨(2 : Int), (4 : Int), (IntKind.i64.wrap ((800 : Int) + r23.1)), (15 : Int), false⟩ : XSegment)] : List XSegment))), (4160, 5, List.map XSegment.row ([(⟨(2 : Int), (4 : Int), (IntKind.i64.wrap ((800 : Int) + r23.1)), (15 : Int), false⟩ : XSegment)] : List XSegment))]⟩ f [b0, b1, true, true, b4, b5, false, false, false, false] ⟨[(0, vc (.pb 1099511627776 0)), (2, vc (.pb 2 0)), (3, vc (.pb 3 0)), (59, bif b0 then vc (.pb 3 1) else .undef), (60, bif b1 then vc (.own 2240) else .undef), (61, vc (.pb 1099511627776 0)), (62, vc (aI r23.1)), (63, bif b4 then vc (aI (IntKind.i64.wrap ((800 : Int) + r23.1))) else .undef), (64, bif b5 then va [aI (2 : Int), aI (4 : Int), aI (IntKind.i64.wrap ((800 : Int) + r23.1)), aI (15 : Int), aB false] else .undef), (65, .undef), (66, .undef), (67, .undef)], [(1099511627776, [aL (List.map r8 r23.2.b), aI r23.2.i, aI r23.2.h]), (2, [.nil, .nil]), (3, [.own 640, .own 2240])], [(640, 2, List.map XPoint.row (v18 ++ ([(⟨([100, 111, 99, 107] : List UInt8), true⟩ : XPoint)] : List XPoint))), (2240, 5, List.map XSegment.row v19)]⟩ := by
  intro f
  induction f with
  | zero => intro b0 b1 b4 b5 h; simp at h
  | succ f ih =>
    intro b0 b1 b4 b5
    refine any_step ⟨?_, ?_, ?_, ?_, ?_, ?_, ?_, ?_, ?_, ?_, trivial⟩
    · intro h0 hw
      obtain rfl : b0 = false := Option.some.inj h0
      try simp only [avmap_bif, Nat.reduceBEq, Nat.reduceMul, Nat.reduceAdd, Nat.reduceDiv, Int.reduceBEq, rules2, rulesX, rowsX]
      exact ih true b1 b4 b5
    · intro h0 hw
      obtain rfl : b1 = false := Option.some.inj h0
      obtain rfl : b0 = true := Option.some.inj (hw 0 (by simp))
      try simp only [avmap_bif, Nat.reduceBEq, Nat.reduceMul, Nat.reduceAdd, Nat.reduceDiv, Int.reduceBEq, rules2, rulesX, rowsX]
      exact ih true true b4 b5
    · intro h; cases h
    · intro h; cases h
    · intro h0 hw
      obtain rfl : b4 = false := Option.some.inj h0
      try simp only [avmap_bif, Nat.reduceBEq, Nat.reduceMul, Nat.reduceAdd, Nat.reduceDiv, Int.reduceBEq, rules2, rulesX, rowsX]
      exact ih b0 b1 true b5
    · intro h0 hw
      obtain rfl : b5 = false := Option.some.inj h0
      obtain rfl : b4 = true := Option.some.inj (hw 4 (by simp))
      try simp only [avmap_bif, Nat.reduceBEq, Nat.reduceMul, Nat.reduceAdd, Nat.reduceDiv, Int.reduceBEq, rules2, rulesX, rowsX]
      exact ih b0 b1 true true
    · intro h0 hw
      obtain rfl : b5 = true := Option.some.inj (hw 5 (by simp))
      try simp only [avmap_bif, Nat.reduceBEq, Nat.reduceMul, Nat.reduceAdd, Nat.reduceDiv, Int.reduceBEq, rules2, rulesX, rowsX]
      refine go_bsl (es := List.map XSegment.row ([(⟨(2 : Int), (4 : Int), (IntKind.i64.wrap ((800 : Int) + r23.1)), (15 : Int), false⟩ : XSegment)] : List XSegment)) rfl (by simp only [St.fresh, List.all_cons, List.all_nil, all_bif]; simp [AV.cells, V1.cells, AC.uses]) ?_
      try simp only [avmap_bif, Nat.reduceBEq, Nat.reduceMul, Nat.reduceAdd, Nat.reduceDiv, Int.reduceBEq, rules2, rulesX, rowsX]
      exact w_spec_l05Draw_y2_2 v18 v19 r20 r23 hr23 hg24 _ b0 b1 b4
    · intro _ hw; have := hw 6 (by simp); cases this
    · intro _ hw; have := hw 6 (by simp); cases this
    · intro _ hw; have := hw 8 (by simp); cases this
theorem w_spec_l05Draw_y2_4 (v18 : List XPoint) (v19 : List XSegment) (r20 : Bool × Xl01Cur) (r23 : Int × Xl01Cur) (hr23 : f_spec_l01Below r20.2 (300 : Int) = some r23) (hg24 : (appB v19.length ([(⟨(2 : Int), (4 : Int), (IntKind.i64.wrap ((800 : Int) + r23.1)), (15 : Int), false⟩ : XSegment)] : List XSegment).length 40) = true) : ∀ (f : Nat) (b0 : Bool) (b1 : Bool) (b2 : Bool), anyA Tryd.prog y_spec_l05Draw_y2 ⟨[(0, vc (.pb 1099511627776 0)), (2, vc (.pb 2 0)), (3, vc (.pb 3 0)), (59, vc (.pb 3 1)), (60, vc (.undef)), (61, vc (.pb 1099511627776 0)), (62, vc (aI r23.1)), (63, vc (aI (IntKind.i64.wrap ((800 : Int) + r23.1)))), (64, va [aI (2 : Int), aI (4 : Int), aI (IntKind.i64.wrap ((800 : Int) + r23.1)), aI (15 : Int), aB false]), (65, vc (.own 4160)), (66, vc (.own 2240)), (67, vc (.pb 3 1))], [(1099511627776, [aL (List.map r8 r23.2.b), aI r23.2.i, aI r23.2.h]), (2, [.nil, .nil]), (3, [.own 640, .own 2240])], [(640, 2, List.map XPoint.row (v18 ++ ([(⟨([100, 111, 99, 107] : List UInt8), true⟩ : XPoint)] : List XPoint))), (2240, 5, List.map XSegment.row (v19 ++ ([(⟨(2 : Int), (4 : Int), (IntKind.i64.wrap ((800 : Int) + r23.1)), (15 : Int), false⟩ : XSegment)] : List XSegment))), (4160, 5, List.map XSegment.row ([(⟨(2 : Int), (4 : Int), (IntKind.i64.wrap ((800 : Int) + r23.1)), (15 : Int), false⟩ : XSegment)] : List XSegment))]⟩ f [b0, b1, b2, false, false, false, false, false, false, false] ⟨[(0, vc (.pb 1099511627776 0)), (2, vc (.pb 2 0)), (3, vc (.pb 3 0)), (59, bif b0 then vc (.pb 3 1) else .undef), (60, bif b1 then vc (.own 2240) else .undef), (61, bif b2 then vc (.pb 1099511627776 0) else .undef), (62, .undef), (63, .undef), (64, .undef), (65, .undef), (66, .undef), (67, .undef)], [(1099511627776, [aL (List.map r8 r20.2.b), aI r20.2.i, aI r20.2.h]), (2, [.nil, .nil]), (3, [.own 640, .own 2240])], [(640, 2, List.map XPoint.row (v18 ++ ([(⟨([100, 111, 99, 107] : List UInt8), true⟩ : XPoint)] : List XPoint))), (2240, 5, List.map XSegment.row v19)]⟩ := by
  intro f
  induction f with
  | zero => intro b0 b1 b2 h; simp at h
  | succ f ih =>
    intro b0 b1 b2
    refine any_step ⟨?_, ?_, ?_, ?_, ?_, ?_, ?_, ?_, ?_, ?_, trivial⟩
    · intro h0 hw
      obtain rfl : b0 = false := Option.some.inj h0
      try simp only [avmap_bif, Nat.reduceBEq, Nat.reduceMul, Nat.reduceAdd, Nat.reduceDiv, Int.reduceBEq, rules2, rulesX, rowsX]
      exact ih true b1 b2
    · intro h0 hw
      obtain rfl : b1 = false := Option.some.inj h0
      obtain rfl : b0 = true := Option.some.inj (hw 0 (by simp))
      try simp only [avmap_bif, Nat.reduceBEq, Nat.reduceMul, Nat.reduceAdd, Nat.reduceDiv, Int.reduceBEq, rules2, rulesX, rowsX]
      exact ih true true b2
    · intro h0 hw
      obtain rfl : b2 = false := Option.some.inj h0
      try simp only [avmap_bif, Nat.reduceBEq, Nat.reduceMul, Nat.reduceAdd, Nat.reduceDiv, Int.reduceBEq, rules2, rulesX, rowsX]
      exact ih b0 b1 true
    · intro h0 hw
      obtain rfl : b2 = true := Option.some.inj (hw 2 (by simp))
      try simp only [avmap_bif, Nat.reduceBEq, Nat.reduceMul, Nat.reduceAdd, Nat.reduceDiv, Int.reduceBEq, rules2, rulesX, rowsX]
      refine go_cally (w_spec_l01Below _ _ _ hr23) 1099511627776 rfl rfl rfl ?_
      try simp only [avmap_bif, Nat.reduceBEq, Nat.reduceMul, Nat.reduceAdd, Nat.reduceDiv, Int.reduceBEq, rules2, rulesX, rowsX]
      exact w_spec_l05Draw_y2_3 v18 v19 r20 r23 hr23 hg24 _ b0 b1 false false
    · intro _ hw; have := hw 3 (by simp); cases this
    · intro _ hw; have := hw 4 (by simp); cases this
    · intro _ hw; have := hw 5 (by simp); cases this
    · intro _ hw; have := hw 6 (by simp); cases this
    · intro _ hw; have := hw 3 (by simp); cases this
    · intro _ hw; have := hw 8 (by simp); cases this
theorem w_spec_l05Draw_1 (v15 : List Int) (v16 : Int) (v17 : Int) (v18 : List XPoint) (v19 : List XSegment) (r : XChart × Xl01Cur) (h : f_spec_l05Draw_1 v15 v16 v17 v18 v19 = some r) (σ : St) (hσ : σ.kept [0, 2, 3] [1099511627776, 2, 3] [640, 2240] = ⟨[(0, vc (.pb 1099511627776 0)), (2, vc (.pb 2 0)), (3, vc (.pb 3 0))], [(1099511627776, [aL (List.map r8 v15), aI v16, aI v17]), (2, [.nil, .nil]), (3, [.own 640, .own 2240])], [(640, 2, List.map XPoint.row v18), (2240, 5, List.map XSegment.row v19)]⟩) : go Tryd.prog (.code c_spec_l05Draw_1 :: []) (RetY [.c 2 true 2] [.ag [.v (.sl (List.map XPoint.row r.1.Points)), .v (.sl (List.map XSegment.row r.1.Segments))]] [.sl (List.map r8 r.2.b), .int .i64 r.2.i, .int .i64 r.2.h]) .normal (some σ) := by
  unfold f_spec_l05Draw_1 at h
  obtain ⟨r20, hr20, h⟩ := ob h
  try simp only [hσ, c_spec_l05Draw_1, Nat.reduceBEq, Nat.reduceMul, Nat.reduceAdd, Nat.reduceDiv, Int.reduceBEq, rules2, rulesX, rowsX]
  refine go_cally (w_spec_l01Once _ _ _ hr20) 1099511627776 rfl rfl rfl ?_
  rcases Bool.eq_false_or_eq_true r20.1 with hb21 | hb21
  · rw [ite_t hb21] at h
    try simp only [hb21, Nat.reduceBEq, Nat.reduceMul, Nat.reduceAdd, Nat.reduceDiv, Int.reduceBEq, rules2, rulesX, rowsX]
    refine go_bsl (es := List.map XPoint.row ([(⟨([100, 111, 99, 107] : List UInt8), true⟩ : XPoint)] : List XPoint)) rfl rfl ?_
    obtain ⟨hg22, h⟩ := of_guard h
    try simp only [hb21, hg22, Nat.reduceBEq, Nat.reduceMul, Nat.reduceAdd, Nat.reduceDiv, Int.reduceBEq, rules2, rulesX, rowsX]
    obtain ⟨r23, hr23, h⟩ := ob h
    obtain ⟨hg24, h⟩ := of_guard h
    refine go_any (ks := [0, 2, 3]) (bs := [1099511627776, 2, 3]) (rs := [640, 2240]) (τ := ⟨[(0, vc (.pb 1099511627776 0)), (2, vc (.pb 2 0)), (3, vc (.pb 3 0)), (59, vc (.pb 3 1)), (60, vc (.undef)), (61, vc (.pb 1099511627776 0)), (62, vc (aI r23.1)), (63, vc (aI (IntKind.i64.wrap ((800 : Int) + r23.1)))), (64, va [aI (2 : Int), aI (4 : Int), aI (IntKind.i64.wrap ((800 : Int) + r23.1)), aI (15 : Int), aB false]), (65, vc (.own 4160)), (66, vc (.own 2240)), (67, vc (.pb 3 1))], [(1099511627776, [aL (List.map r8 r23.2.b), aI r23.2.i, aI r23.2.h]), (2, [.nil, .nil]), (3, [.own 640, .own 2240])], [(640, 2, List.map XPoint.row (v18 ++ ([(⟨([100, 111, 99, 107] : List UInt8), true⟩ : XPoint)] : List XPoint))), (2240, 5, List.map XSegment.row (v19 ++ ([(⟨(2 : Int), (4 : Int), (IntKind.i64.wrap ((800 : Int) + r23.1)), (15 : Int), false⟩ : XSegment)] : List XSegment))), (4160, 5, List.map XSegment.row ([(⟨(2 : Int), (4 : Int), (IntKind.i64.wrap ((800 : Int) + r23.1)), (15 : Int), false⟩ : XSegment)] : List XSegment))]⟩) rfl (w_spec_l05Draw_y2_4 v18 v19 r20 r23 hr23 hg24 _ false false false) ?_
    try simp only [hb21, hg22, hg24, Nat.reduceBEq, Nat.reduceMul, Nat.reduceAdd, Nat.reduceDiv, Int.reduceBEq, rules2, rulesX, rowsX]
    refine go_frz' rfl ?_
    try simp only [hb21, hg22, hg24, Nat.reduceBEq, Nat.reduceMul, Nat.reduceAdd, Nat.reduceDiv, Int.reduceBEq, rules2, rulesX, rowsX]
    refine go_frz' rfl ?_
    try simp only [hb21, hg22, hg24, Nat.reduceBEq, Nat.reduceMul, Nat.reduceAdd, Nat.reduceDiv, Int.reduceBEq, rules2, rulesX, rowsX]
    cases h
    try simp only [rulesR, Nat.reduceBEq, Nat.reduceMul, Nat.reduceAdd, Nat.reduceDiv, Int.reduceBEq, rules2, rulesX, rowsX]
    exact ⟨⟨⟨rfl, rfl, trivial⟩, trivial⟩, rfl⟩
  · rw [ite_f hb21] at h
    try simp only [hb21, Nat.reduceBEq, Nat.reduceMul, Nat.reduceAdd, Nat.reduceDiv, Int.reduceBEq, rules2, rulesX, rowsX]
    refine go_frz' rfl ?_
    try simp only [hb21, Nat.reduceBEq, Nat.reduceMul, Nat.reduceAdd, Nat.reduceDiv, Int.reduceBEq, rules2, rulesX, rowsX]
    refine go_frz' rfl ?_
    try simp only [hb21, Nat.reduceBEq, Nat.reduceMul, Nat.reduceAdd, Nat.reduceDiv, Int.reduceBEq, rules2, rulesX, rowsX]
    cases h
    try simp only [rulesR, Nat.reduceBEq, Nat.reduceMul, Nat.reduceAdd, Nat.reduceDiv, Int.reduceBEq, rules2, rulesX, rowsX]
    exact ⟨⟨⟨rfl, rfl, trivial⟩, trivial⟩, rfl⟩
theorem e_spec_l05Draw : entry Tryd.prog 32 = some (c_spec_l05Draw.strip, [.c 2 true 2], 69) := by kernel_rfl
theorem w_spec_l05Draw (a0 : Xl01Cur) (r : XChart × Xl01Cur) (h : f_spec_l05Draw a0 = some r) : FCy Tryd.prog 32 [.p] [.sl (List.map r8 a0.b), .int .i64 a0.i, .int .i64 a0.h] [.sl (List.map r8 r.2.b), .int .i64 r.2.i, .int .i64 r.2.h] [.ag [.v (.sl (List.map XPoint.row r.1.Points)), .v (.sl (List.map XSegment.row r.1.Segments))]] := by
  unfold f_spec_l05Draw at h
  refine FCy_go (σ := ⟨[(0, vc (.pb 1099511627776 0))], [(1099511627776, [aL (List.map r8 a0.b), aI a0.i, aI a0.h])], []⟩) mixed e_spec_l05Draw rfl rfl ?_
  simp only [c_spec_l05Draw]
  try simp only [Nat.reduceBEq, Nat.reduceMul, Nat.reduceAdd, Nat.reduceDiv, Int.reduceBEq, rules2, rulesX, rowsX]
  refine go_al rfl rfl ?_
  obtain ⟨r1, hr1, h⟩ := ob h
  try simp only [Nat.reduceBEq, Nat.reduceMul, Nat.reduceAdd, Nat.reduceDiv, Int.reduceBEq, rules2, rulesX, rowsX]
  refine go_cally (w_spec_l01Once _ _ _ hr1) 1099511627776 rfl rfl rfl ?_
  try simp only [Nat.reduceBEq, Nat.reduceMul, Nat.reduceAdd, Nat.reduceDiv, Int.reduceBEq, rules2, rulesX, rowsX]
  refine go_bsl (es := List.map XPoint.row ([(⟨([115, 101, 97] : List UInt8), true⟩ : XPoint), (⟨([98, 97, 114] : List UInt8), false⟩ : XPoint), (⟨([114, 111, 97, 100] : List UInt8), r1.1⟩ : XPoint), (⟨([113, 117, 97, 121] : List UInt8), true⟩ : XPoint)] : List XPoint)) rfl rfl ?_
  try simp only [Nat.reduceBEq, Nat.reduceMul, Nat.reduceAdd, Nat.reduceDiv, Int.reduceBEq, rules2, rulesX, rowsX]
  refine go_al rfl rfl ?_
  obtain ⟨r2, hr2, h⟩ := ob h
  try simp only [Nat.reduceBEq, Nat.reduceMul, Nat.reduceAdd, Nat.reduceDiv, Int.reduceBEq, rules2, rulesX, rowsX]
  refine go_cally (w_spec_l01Below _ _ _ hr2) 1099511627776 rfl rfl rfl ?_
  obtain ⟨r3, hr3, h⟩ := ob h
  try simp only [Nat.reduceBEq, Nat.reduceMul, Nat.reduceAdd, Nat.reduceDiv, Int.reduceBEq, rules2, rulesX, rowsX]
  refine go_cally (w_spec_l01Below _ _ _ hr3) 1099511627776 rfl rfl rfl ?_
  obtain ⟨r4, hr4, h⟩ := ob h
  try simp only [Nat.reduceBEq, Nat.reduceMul, Nat.reduceAdd, Nat.reduceDiv, Int.reduceBEq, rules2, rulesX, rowsX]
  refine go_cally (w_spec_l01Below _ _ _ hr4) 1099511627776 rfl rfl rfl ?_
  obtain ⟨r5, hr5, h⟩ := ob h
  try simp only [Nat.reduceBEq, Nat.reduceMul, Nat.reduceAdd, Nat.reduceDiv, Int.reduceBEq, rules2, rulesX, rowsX]
  refine go_cally (w_spec_l01Below _ _ _ hr5) 1099511627776 rfl rfl rfl ?_
  obtain ⟨r6, hr6, h⟩ := ob h
  try simp only [Nat.reduceBEq, Nat.reduceMul, Nat.reduceAdd, Nat.reduceDiv, Int.reduceBEq, rules2, rulesX, rowsX]
  refine go_cally (w_spec_l01Once _ _ _ hr6) 1099511627776 rfl rfl rfl ?_
  obtain ⟨r7, hr7, h⟩ := ob h
  try simp only [Nat.reduceBEq, Nat.reduceMul, Nat.reduceAdd, Nat.reduceDiv, Int.reduceBEq, rules2, rulesX, rowsX]
  refine go_cally (w_spec_l01Below _ _ _ hr7) 1099511627776 rfl rfl rfl ?_
  obtain ⟨r9, hr9, h⟩ := ob h
  try simp only [Nat.reduceBEq, Nat.reduceMul, Nat.reduceAdd, Nat.reduceDiv, Int.reduceBEq, rules2, rulesX, rowsX]
  refine go_cally (w_spec_l01Below _ _ _ hr9) 1099511627776 rfl rfl rfl ?_
  try simp only [Nat.reduceBEq, Nat.reduceMul, Nat.reduceAdd, Nat.reduceDiv, Int.reduceBEq, rules2, rulesX, rowsX]
  refine go_bsl (es := List.map XSegment.row ([(⟨(0 : Int), (1 : Int), (IntKind.i64.wrap ((900 : Int) + r2.1)), (IntKind.i64.wrap ((10 : Int) + r3.1)), false⟩ : XSegment), (⟨(1 : Int), (2 : Int), (IntKind.i64.wrap ((800 : Int) + r4.1)), (IntKind.i64.wrap ((10 : Int) + r5.1)), r6.1⟩ : XSegment), (⟨(2 : Int), (3 : Int), (IntKind.i64.wrap ((900 : Int) + r7.1)), (IntKind.i64.wrap ((5 : Int) + r9.1)), false⟩ : XSegment)] : List XSegment)) rfl rfl ?_
  obtain ⟨r10, hr10, h⟩ := ob h
  try simp only [Nat.reduceBEq, Nat.reduceMul, Nat.reduceAdd, Nat.reduceDiv, Int.reduceBEq, rules2, rulesX, rowsX]
  refine go_cally (w_spec_l01Once _ _ _ hr10) 1099511627776 rfl rfl rfl ?_
  rcases Bool.eq_false_or_eq_true r10.1 with hb11 | hb11
  · rw [ite_t hb11] at h
    try simp only [hb11, Nat.reduceBEq, Nat.reduceMul, Nat.reduceAdd, Nat.reduceDiv, Int.reduceBEq, rules2, rulesX, rowsX]
    obtain ⟨r12, hr12, h⟩ := ob h
    obtain ⟨r13, hr13, h⟩ := ob h
    obtain ⟨hg14, h⟩ := of_guard h
    refine go_any (ks := [0, 2, 3]) (bs := [1099511627776, 2, 3]) (rs := [640, 2240]) (τ := ⟨[(0, vc (.pb 1099511627776 0)), (2, vc (.pb 2 0)), (3, vc (.pb 3 0)), (39, vc (.pb 3 1)), (40, vc (.undef)), (41, vc (.pb 1099511627776 0)), (42, vc (aI r12.1)), (43, vc (aI (IntKind.i64.wrap ((700 : Int) + r12.1)))), (44, vc (.pb 1099511627776 0)), (45, vc (aI r13.1)), (46, vc (aI (IntKind.i64.wrap ((20 : Int) + r13.1)))), (47, va [aI (3 : Int), aI (1 : Int), aI (IntKind.i64.wrap ((700 : Int) + r12.1)), aI (IntKind.i64.wrap ((20 : Int) + r13.1)), aB true]), (48, vc (.own 3072)), (49, vc (.own 2240)), (50, vc (.pb 3 1))], [(1099511627776, [aL (List.map r8 r13.2.b), aI r13.2.i, aI r13.2.h]), (2, [.nil, .nil]), (3, [.own 640, .own 2240])], [(640, 2, List.map XPoint.row ([(⟨([115, 101, 97] : List UInt8), true⟩ : XPoint), (⟨([98, 97, 114] : List UInt8), false⟩ : XPoint), (⟨([114, 111, 97, 100] : List UInt8), r1.1⟩ : XPoint), (⟨([113, 117, 97, 121] : List UInt8), true⟩ : XPoint)] : List XPoint)), (2240, 5, List.map XSegment.row (([(⟨(0 : Int), (1 : Int), (IntKind.i64.wrap ((900 : Int) + r2.1)), (IntKind.i64.wrap ((10 : Int) + r3.1)), false⟩ : XSegment), (⟨(1 : Int), (2 : Int), (IntKind.i64.wrap ((800 : Int) + r4.1)), (IntKind.i64.wrap ((10 : Int) + r5.1)), r6.1⟩ : XSegment), (⟨(2 : Int), (3 : Int), (IntKind.i64.wrap ((900 : Int) + r7.1)), (IntKind.i64.wrap ((5 : Int) + r9.1)), false⟩ : XSegment)] : List XSegment) ++ ([(⟨(3 : Int), (1 : Int), (IntKind.i64.wrap ((700 : Int) + r12.1)), (IntKind.i64.wrap ((20 : Int) + r13.1)), true⟩ : XSegment)] : List XSegment))), (3072, 5, List.map XSegment.row ([(⟨(3 : Int), (1 : Int), (IntKind.i64.wrap ((700 : Int) + r12.1)), (IntKind.i64.wrap ((20 : Int) + r13.1)), true⟩ : XSegment)] : List XSegment))]⟩) rfl (w_spec_l05Draw_y1_5 r1 r2 r3 r4 r5 r6 r7 r9 r10 r12 r13 hr12 hr13 hg14 _ false false false false) ?_
    try simp only [hb11, hg14, Nat.reduceBEq, Nat.reduceMul, Nat.reduceAdd, Nat.reduceDiv, Int.reduceBEq, rules2, rulesX, rowsX]
    refine w_spec_l05Draw_1 _ _ _ _ _ _ h _ ?_
    try simp only [hb11, hg14, Nat.reduceBEq, Nat.reduceMul, Nat.reduceAdd, Nat.reduceDiv, Int.reduceBEq, rules2, rulesX, rowsX, List.map_nil]
  · rw [ite_f hb11] at h
    try simp only [hb11, Nat.reduceBEq, Nat.reduceMul, Nat.reduceAdd, Nat.reduceDiv, Int.reduceBEq, rules2, rulesX, rowsX]
    refine w_spec_l05Draw_1 _ _ _ _ _ _ h _ ?_
    try simp only [hb11, Nat.reduceBEq, Nat.reduceMul, Nat.reduceAdd, Nat.reduceDiv, Int.reduceBEq, rules2, rulesX, rowsX, List.map_nil]
/- 6: spec_MakeChart -/
def c_spec_MakeChart : ACode := (.seq (.reg [(none, .alloc 4 [.nil, .nil])]) (.seq (.reg [(none, .mv 5 (S 0)), (none, .mv 6 (S 1)), (none, .call 7 33 [(S 5), (S 6)]), (none, .call 8 32 [(S 7)]), (none, .store (S 4) (S 8) 2)]) .ret))
theorem e_spec_MakeChart : entry Tryd.prog 6 = some (c_spec_MakeChart.strip, [.c 4 true 2], 9) := by kernel_rfl
theorem w_spec_MakeChart (a0 : List Int) (a1 : Int) (r : XChart) (h : f_spec_MakeChart a0 a1 = some r) : FC Tryd.prog 6 [.sc (.sl (List.map r8 a0)), .sc (.int .i64 a1)] [.ag [.v (.sl (List.map XPoint.row r.Points)), .v (.sl (List.map XSegment.row r.Segments))]] := by
  unfold f_spec_MakeChart at h
  refine FC_go (σ := ⟨[(0, vc (aL (List.map r8 a0))), (1, vc (aI a1))], [], []⟩) mixed e_spec_MakeChart rfl rfl ?_
  simp only [c_spec_MakeChart]
  try simp only [Nat.reduceBEq, Nat.reduceMul, Nat.reduceAdd, Nat.reduceDiv, Int.reduceBEq, rules2, rulesX, rowsX]
  refine go_al rfl rfl ?_
  obtain ⟨r1, hr1, h⟩ := ob h
  try simp only [Nat.reduceBEq, Nat.reduceMul, Nat.reduceAdd, Nat.reduceDiv, Int.reduceBEq, rules2, rulesX, rowsX]
  refine go_calln (w_spec_l28New _ _ _ hr1) rfl rfl ?_
  obtain ⟨r2, hr2, h⟩ := ob h
  try simp only [Nat.reduceBEq, Nat.reduceMul, Nat.reduceAdd, Nat.reduceDiv, Int.reduceBEq, rules2, rulesX, rowsX]
  refine go_cally (w_spec_l05Draw _ _ hr2) 7 rfl rfl rfl ?_
  try simp only [Nat.reduceBEq, Nat.reduceMul, Nat.reduceAdd, Nat.reduceDiv, Int.reduceBEq, rules2, rulesX, rowsX]
  cases h
  try simp only [rulesR, Nat.reduceBEq, Nat.reduceMul, Nat.reduceAdd, Nat.reduceDiv, Int.reduceBEq, rules2, rulesX, rowsX]
  exact ⟨⟨⟨rfl, rfl, trivial⟩, trivial⟩, rfl⟩
/- 58: spec_FormatInt -/
def c_spec_FormatInt_1 : ACode := .seq (.reg [(none, .keep [0, 3] [] [])]) (.seq (.seq (.reg [(none, .mv 25 (S 0)), (none, .bin 26 .gtr (S 25) (K 9))]) (.cond (S 26) .skip (.exit 0))) (.block 1 (.seq (.reg [(none, .mv 27 (S 0)), (none, .bin 28 .rem (S 27) (K 10)), (none, .bin 29 .add (K 48) (S 28)), (none, .conv 30 .u8 (S 29)), (none, .bslice 31 1 [.int .u8 0] 1 [(0, (S 30))]), (none, .sconv 32 (S 31)), (none, .mv 33 (S 3)), (none, .bin 34 .add (S 32) (S 33)), (none, .mv 3 (S 34))]) (.reg [(none, .mv 35 (S 0)), (none, .bin 36 .quo (S 35) (K 10)), (none, .mv 0 (S 36))]))))
def c_spec_FormatInt_n1 : ACode := (.seq (.reg [(none, .mv 37 (S 0)), (none, .bin 38 .add (K 48) (S 37)), (none, .conv 39 .u8 (S 38)), (none, .bslice 40 1 [.int .u8 0] 1 [(0, (S 39))]), (none, .sconv 41 (S 40)), (none, .mv 42 (S 3)), (none, .bin 43 .add (S 41) (S 42)), (none, .mv 2 (S 43))]) .ret)
def c_spec_FormatInt : ACode := (.seq (.reg [(none, .mv 2 (KS []))]) (.seq (.seq (.reg [(none, .mv 4 (S 0)), (none, .bin 5 .lss (S 4) (K 0))]) (.cond (S 5) (.seq (.seq (.reg [(none, .mv 6 (S 0)), (none, .bin 7 .quo (S 6) (K 10)), (none, .bin 8 .eql (S 7) (K 0))]) (.cond (S 8) (.seq (.reg [(none, .mv 9 (S 0)), (none, .bin 10 .sub (K 48) (S 9)), (none, .conv 11 .u8 (S 10)), (none, .bslice 12 1 [.int .u8 0] 1 [(0, (S 11))]), (none, .sconv 13 (S 12)), (none, .bin 14 .add (KS [45]) (S 13)), (none, .mv 2 (S 14))]) .ret) .skip)) (.seq (.drw [(some [22], (none, .mv 15 (S 0))), (some [22], (none, .bin 16 .quo (S 15) (K 10))), (some [22], (none, .call 17 58 [(S 16)])), (some [17], (none, .mv 18 (S 0))), (some [17], (none, .bin 19 .rem (S 18) (K 10))), (some [17], (none, .bin 20 .sub (K 48) (S 19))), (some [17], (none, .conv 21 .u8 (S 20))), (some [17], (none, .bslice 22 1 [.int .u8 0] 1 [(0, (S 21))])), (some [17], (none, .sconv 23 (S 22))), (some [], (none, .bin 24 .add (S 17) (S 23))), (some [], (none, .mv 2 (S 24)))]) .ret)) .skip)) (.seq (.reg [(none, .mv 3 (KS []))]) (.seq (.block 0 (.loop c_spec_FormatInt_1)) c_spec_FormatInt_n1))))
theorem w_spec_FormatInt_1 (rec_ : Int → Option (List UInt8)) (h_rec : ∀ (a0 : Int) zr, rec_ a0 = some zr → FC Tryd.prog 58 [.sc (.int .i64 a0)] [.sc (.v (.str zr))]) : ∀ (n : Nat) (v6 : Int) (v7 : List UInt8) (r : (List UInt8)), f_spec_FormatInt_1 rec_ n v6 v7 = some r → ∀ σ : St, σ.kept [0, 3] [] [] = ⟨[(0, vc (aI v6)), (3, vc (aS v7))], [], []⟩ → go Tryd.prog (.code (.loop c_spec_FormatInt_1) :: [.blk 0, .code c_spec_FormatInt_n1]) (Ret [2] [.sc (.v (.str r))]) .normal (some σ) := by
  intro n
  induction n with
  | zero => intro _ _ r h; cases h
  | succ n ih =>
    intro v6 v7 r h σ hσ
    rw [f_spec_FormatInt_1] at h
    refine go_round ?_
    rcases Bool.eq_false_or_eq_true (decide ((9 : Int) < v6)) with hb8 | hb8
    · rw [ite_t hb8] at h
      try simp only [hσ, hb8, c_spec_FormatInt_1, Nat.reduceBEq, Nat.reduceMul, Nat.reduceAdd, Nat.reduceDiv, Int.reduceBEq, rules2, rulesX, rowsX]
      refine go_bsl (es := List.map r8 ([(IntKind.u8.wrap (IntKind.i64.wrap ((48 : Int) + (IntKind.i64.wrap (Int.tmod v6 (10 : Int))))))] : List Int)) rfl rfl ?_
      obtain ⟨hg9, h⟩ := of_guard h
      try simp only [hb8, hg9, Nat.reduceBEq, Nat.reduceMul, Nat.reduceAdd, Nat.reduceDiv, Int.reduceBEq, rules2, rulesX, rowsX]
      refine ih _ _ _ h _ ?_
      try simp only [hb8, hg9, Nat.reduceBEq, Nat.reduceMul, Nat.reduceAdd, Nat.reduceDiv, Int.reduceBEq, rules2, rulesX, rowsX, List.map_nil]
    · rw [ite_f hb8] at h
      try simp only [hσ, hb8, c_spec_FormatInt_1, c_spec_FormatInt_n1, Nat.reduceBEq, Nat.reduceMul, Nat.reduceAdd, Nat.reduceDiv, Int.reduceBEq, rules2, rulesX, rowsX]
      refine go_bsl (es := List.map r8 ([(IntKind.u8.wrap (IntKind.i64.wrap ((48 : Int) + v6)))] : List Int)) rfl rfl ?_
      obtain ⟨hg10, h⟩ := of_guard h
      try simp only [hb8, hg10, Nat.reduceBEq, Nat.reduceMul, Nat.reduceAdd, Nat.reduceDiv, Int.reduceBEq, rules2, rulesX, rowsX]
      cases h
      exact ⟨⟨rfl, trivial⟩, rfl⟩
theorem e_spec_FormatInt : entry Tryd.prog 58 = some (c_spec_FormatInt.strip, [2], 44) := by kernel_rfl
theorem w_spec_FormatInt_b (rec_ : Int → Option (List UInt8)) (a0 : Int) (r : (List UInt8)) (h_rec : ∀ (a0 : Int) zr, rec_ a0 = some zr → FC Tryd.prog 58 [.sc (.int .i64 a0)] [.sc (.v (.str zr))]) (h : f_spec_FormatInt_b rec_ a0 = some r) : FC Tryd.prog 58 [.sc (.int .i64 a0)] [.sc (.v (.str r))] := by
  unfold f_spec_FormatInt_b at h
  refine FC_go (σ := ⟨[(0, vc (aI a0))], [], []⟩) mixed e_spec_FormatInt rfl rfl ?_
  simp only [c_spec_FormatInt]
  rcases Bool.eq_false_or_eq_true (decide (a0 < (0 : Int))) with hb1 | hb1
  · rw [ite_t hb1] at h
    rcases Bool.eq_false_or_eq_true ((IntKind.i64.wrap (Int.tdiv a0 (10 : Int))) == (0 : Int)) with hb2 | hb2
    · rw [ite_t hb2] at h
      try simp only [hb1, hb2, Nat.reduceBEq, Nat.reduceMul, Nat.reduceAdd, Nat.reduceDiv, Int.reduceBEq, rules2, rulesX, rowsX]
      refine go_bsl (es := List.map r8 ([(IntKind.u8.wrap (IntKind.i64.wrap ((48 : Int) - a0)))] : List Int)) rfl rfl ?_
      obtain ⟨hg3, h⟩ := of_guard h
      try simp only [hb1, hb2, hg3, Nat.reduceBEq, Nat.reduceMul, Nat.reduceAdd, Nat.reduceDiv, Int.reduceBEq, rules2, rulesX, rowsX]
      cases h
      exact ⟨⟨rfl, trivial⟩, rfl⟩
    · rw [ite_f hb2] at h
      try simp only [hb1, hb2, Nat.reduceBEq, Nat.reduceMul, Nat.reduceAdd, Nat.reduceDiv, Int.reduceBEq, rules2, rulesX, rowsX]
      refine go_fr_of rfl ?_
      obtain ⟨r4, hr4, h⟩ := ob h
      try simp only [hb1, hb2, Nat.reduceBEq, Nat.reduceMul, Nat.reduceAdd, Nat.reduceDiv, Int.reduceBEq, rules2, rulesX, rowsX]
      refine go_dcallI (h_rec _ _ hr4) rfl rfl (Nat.le_of_ble_eq_true rfl) ?_
      try simp only [hb1, hb2, Nat.reduceBEq, Nat.reduceMul, Nat.reduceAdd, Nat.reduceDiv, Int.reduceBEq, rules2, rulesX, rowsX]
      refine go_mkN (m := .row 22 1 (List.map r8 ([(IntKind.u8.wrap (IntKind.i64.wrap ((48 : Int) - (IntKind.i64.wrap (Int.tmod a0 (10 : Int))))))] : List Int))) rfl rfl (make_row rfl) ?_
      obtain ⟨hg5, h⟩ := of_guard h
      try simp only [hb1, hb2, hg5, Nat.reduceBEq, Nat.reduceMul, Nat.reduceAdd, Nat.reduceDiv, Int.reduceBEq, rules2, rulesX, rowsX]
      cases h
      exact ⟨⟨rfl, trivial⟩, rfl⟩
  · rw [ite_f hb1] at h
    try simp only [hb1, Nat.reduceBEq, Nat.reduceMul, Nat.reduceAdd, Nat.reduceDiv, Int.reduceBEq, rules2, rulesX, rowsX]
    refine w_spec_FormatInt_1 rec_ h_rec _ _ _ _ h _ ?_
    try simp only [hb1, Nat.reduceBEq, Nat.reduceMul, Nat.reduceAdd, Nat.reduceDiv, Int.reduceBEq, rules2, rulesX, rowsX, List.map_nil]
theorem w_spec_FormatInt_r : ∀ (n : Nat) (a0 : Int) (r : (List UInt8)), f_spec_FormatInt_r n a0 = some r → FC Tryd.prog 58 [.sc (.int .i64 a0)] [.sc (.v (.str r))] := by
  intro n
  induction n with
  | zero => intro _ r h; cases h
  | succ n ih => intro a0 r h; rw [f_spec_FormatInt_r] at h; exact w_spec_FormatInt_b (f_spec_FormatInt_r n) a0 r ih h
theorem w_spec_FormatInt (a0 : Int) (r : (List UInt8)) (h : f_spec_FormatInt a0 = some r) : FC Tryd.prog 58 [.sc (.int .i64 a0)] [.sc (.v (.str r))] := w_spec_FormatInt_r bigN a0 r h
/- 34: spec_l06Ship -/
def c_spec_l06Ship : ACode := (.seq (.reg [(none, .alloc 4 [aS [], aI 0, aI 0, aI 0, aI 0, aB false])]) (.seq (.reg [(none, .mv 5 (S 1)), (none, .call 6 58 [(S 5)]), (none, .bin 7 .add (KS [115]) (S 6)), (none, .mv 8 (S 0)), (none, .call 9 67 [(S 8), (K 200)]), (none, .bin 10 .add (K 40) (S 9)), (none, .mv 11 (S 0)), (none, .call 12 67 [(S 11), (K 500)]), (none, .bin 13 .add (K 600) (S 12)), (none, .mv 14 (S 0)), (none, .call 15 67 [(S 14), (K 4)]), (none, .mv 16 (S 0)), (none, .call 17 67 [(S 16), (K 3)]), (none, .mv 18 (S 0)), (none, .call 19 66 [(S 18), (K 4)]), (none, .build 20 [aS [], aI 0, aI 0, aI 0, aI 0, aB false] [(0, 1, (S 7)), (1, 1, (S 10)), (2, 1, (S 13)), (3, 1, (S 15)), (4, 1, (S 17)), (5, 1, (S 19))]), (none, .store (S 4) (S 20) 6)]) .ret))
theorem e_spec_l06Ship : entry Tryd.prog 34 = some (c_spec_l06Ship.strip, [.c 4 true 6], 21) := by kernel_rfl
theorem w_spec_l06Ship (a0 : Xl01Cur) (a1 : Int) (r : XShip × Xl01Cur) (h : f_spec_l06Ship a0 a1 = some r) : FCy Tryd.prog 34 [.p, .d (.sc (.int .i64 a1))] [.sl (List.map r8 a0.b), .int .i64 a0.i, .int .i64 a0.h] [.sl (List.map r8 r.2.b), .int .i64 r.2.i, .int .i64 r.2.h] [.ag [.v (.str r.1.Name), .v (.int .i64 r.1.Length), .v (.int .i64 r.1.Draught), .v (.int .i64 r.1.Line), .v (.int .i64 r.1.Tugs), .v (.bool r.1.Slow)]] := by
  unfold f_spec_l06Ship at h
  refine FCy_go (σ := ⟨[(0, vc (.pb 1099511627776 0)), (1, vc (aI a1))], [(1099511627776, [aL (List.map r8 a0.b), aI a0.i, aI a0.h])], []⟩) mixed e_spec_l06Ship rfl rfl ?_
  simp only [c_spec_l06Ship]
  try simp only [Nat.reduceBEq, Nat.reduceMul, Nat.reduceAdd, Nat.reduceDiv, Int.reduceBEq, rules2, rulesX, rowsX]
  refine go_al rfl rfl ?_
  obtain ⟨r1, hr1, h⟩ := ob h
  try simp only [Nat.reduceBEq, Nat.reduceMul, Nat.reduceAdd, Nat.reduceDiv, Int.reduceBEq, rules2, rulesX, rowsX]
  refine go_callI (w_spec_FormatInt _ _ hr1) rfl rfl (Nat.le_of_ble_eq_true rfl) ?_
  obtain ⟨hg2, h⟩ := of_guard h
  obtain ⟨r3, hr3, h⟩ := ob h
  try simp only [hg2, Nat.reduceBEq, Nat.reduceMul, Nat.reduceAdd, Nat.reduceDiv, Int.reduceBEq, rules2, rulesX, rowsX]
  refine go_cally (w_spec_l01Below _ _ _ hr3) 1099511627776 rfl rfl rfl ?_
  obtain ⟨r4, hr4, h⟩ := ob h
  try simp only [hg2, Nat.reduceBEq, Nat.reduceMul, Nat.reduceAdd, Nat.reduceDiv, Int.reduceBEq, rules2, rulesX, rowsX]
  refine go_cally (w_spec_l01Below _ _ _ hr4) 1099511627776 rfl rfl rfl ?_
  obtain ⟨r5, hr5, h⟩ := ob h
  try simp only [hg2, Nat.reduceBEq, Nat.reduceMul, Nat.reduceAdd, Nat.reduceDiv, Int.reduceBEq, rules2, rulesX, rowsX]
  refine go_cally (w_spec_l01Below _ _ _ hr5) 1099511627776 rfl rfl rfl ?_
  obtain ⟨r6, hr6, h⟩ := ob h
  try simp only [hg2, Nat.reduceBEq, Nat.reduceMul, Nat.reduceAdd, Nat.reduceDiv, Int.reduceBEq, rules2, rulesX, rowsX]
  refine go_cally (w_spec_l01Below _ _ _ hr6) 1099511627776 rfl rfl rfl ?_
  obtain ⟨r7, hr7, h⟩ := ob h
  try simp only [hg2, Nat.reduceBEq, Nat.reduceMul, Nat.reduceAdd, Nat.reduceDiv, Int.reduceBEq, rules2, rulesX, rowsX]
  refine go_cally (w_spec_l01Once _ _ _ hr7) 1099511627776 rfl rfl rfl ?_
  try simp only [hg2, Nat.reduceBEq, Nat.reduceMul, Nat.reduceAdd, Nat.reduceDiv, Int.reduceBEq, rules2, rulesX, rowsX]
  cases h
  try simp only [rulesR, Nat.reduceBEq, Nat.reduceMul, Nat.reduceAdd, Nat.reduceDiv, Int.reduceBEq, rules2, rulesX, rowsX]
  exact ⟨⟨⟨rfl, rfl, rfl, rfl, rfl, rfl, trivial⟩, trivial⟩, rfl⟩
/- 7: spec_MakeShip -/
def c_spec_MakeShip : ACode := (.seq (.reg [(none, .alloc 4 [aS [], aI 0, aI 0, aI 0, aI 0, aB false])]) (.seq (.reg [(none, .mv 5 (S 0)), (none, .mv 6 (S 1)), (none, .call 7 33 [(S 5), (S 6)]), (none, .call 8 34 [(S 7), (K 0)]), (none, .store (S 4) (S 8) 6)]) .ret))
theorem e_spec_MakeShip : entry Tryd.prog 7 = some (c_spec_MakeShip.strip, [.c 4 true 6], 9) := by kernel_rfl
theorem w_spec_MakeShip (a0 : List Int) (a1 : Int) (r : XShip) (h : f_spec_MakeShip a0 a1 = some r) : FC Tryd.prog 7 [.sc (.sl (List.map r8 a0)), .sc (.int .i64 a1)] [.ag [.v (.str r.Name), .v (.int .i64 r.Length), .v (.int .i64 r.Draught), .v (.int .i64 r.Line), .v (.int .i64 r.Tugs), .v (.bool r.Slow)]] := by
  unfold f_spec_MakeShip at h
  refine FC_go (σ := ⟨[(0, vc (aL (List.map r8 a0))), (1, vc (aI a1))], [], []⟩) mixed e_spec_MakeShip rfl rfl ?_
  simp only [c_spec_MakeShip]
  try simp only [Nat.reduceBEq, Nat.reduceMul, Nat.reduceAdd, Nat.reduceDiv, Int.reduceBEq, rules2, rulesX, rowsX]
  refine go_al rfl rfl ?_
  obtain ⟨r1, hr1, h⟩ := ob h
  try simp only [Nat.reduceBEq, Nat.reduceMul, Nat.reduceAdd, Nat.reduceDiv, Int.reduceBEq, rules2, rulesX, rowsX]
  refine go_calln (w_spec_l28New _ _ _ hr1) rfl rfl ?_
  obtain ⟨r2, hr2, h⟩ := ob h
  try simp only [Nat.reduceBEq, Nat.reduceMul, Nat.reduceAdd, Nat.reduceDiv, Int.reduceBEq, rules2, rulesX, rowsX]
  refine go_cally (w_spec_l06Ship _ _ _ hr2) 7 rfl rfl rfl ?_
  try simp only [Nat.reduceBEq, Nat.reduceMul, Nat.reduceAdd, Nat.reduceDiv, Int.reduceBEq, rules2, rulesX, rowsX]
  cases h
  try simp only [rulesR, Nat.reduceBEq, Nat.reduceMul, Nat.reduceAdd, Nat.reduceDiv, Int.reduceBEq, rules2, rulesX, rowsX]
  exact ⟨⟨⟨rfl, rfl, rfl, rfl, rfl, rfl, trivial⟩, trivial⟩, rfl⟩
/- 35: spec_l04Draw -/
def y_spec_l04Draw_y1 : List (List Nat × AItem) := [([], (none, .faddr 26 (S 6) 1)), ([0], (none, .load 27 (S 26) false 1)), ([1], (none, .bin 28 .add (S 27) (K 2))), ([], (none, .mv 29 (S 0))), ([3], (none, .call 30 67 [(S 29), (K 200)])), ([2, 4], (none, .bin 31 .add (S 28) (S 30))), ([5, 4, 0, 1, 2, 3, 4, 5], (none, .mv 4 (S 31)))]
def c_spec_l04Draw_1 : ACode := .seq (.reg [(none, .keep [0, 3, 4, 5] [1099511627776] [448])]) (.seq (.seq (.reg [(none, .mv 12 (S 5)), (none, .bin 13 .gtr (S 12) (K 0))]) (.cond (S 13) .skip (.exit 0))) (.seq (.block 1 (.seq (.reg [(none, .mv 16 (S 4)), (none, .mv 17 (S 4)), (none, .mv 18 (S 0)), (none, .call 19 67 [(S 18), (K 300)]), (none, .bin 20 .add (S 17) (S 19)), (none, .build 21 [aI 0, aI 0] [(0, 1, (S 16)), (1, 1, (S 20))]), (none, .alloc 6 [aI 0, aI 0]), (none, .store (S 6) (S 21) 2)]) (.seq (.reg [(none, .mv 22 (S 3)), (none, .load 23 (S 6) true 2), (none, .bslice 24 2 [.int .i64 0, .int .i64 0] 1 [(0, (S 23))]), (none, .app 25 2 16 (S 22) (S 24)), (none, .mv 3 (S 25))]) (.any y_spec_l04Draw_y1)))) (.reg [(none, .mv 14 (S 5)), (none, .bin 15 .sub (S 14) (K 1)), (none, .mv 5 (S 15))])))
def c_spec_l04Draw_n1 : ACode := (.seq (.reg [(none, .frz 448), (none, .mv 32 (S 3)), (none, .mv 2 (S 32))]) .ret)
def c_spec_l04Draw : ACode := (.seq (.reg [(none, .mv 2 KN)]) (.seq (.reg [(none, .bslice 7 2 [.int .i64 0, .int .i64 0] 0 []), (none, .mv 3 (S 7))]) (.seq (.reg [(none, .mv 8 (S 0)), (none, .call 9 67 [(S 8), (K 60)]), (none, .mv 4 (S 9))]) (.seq (.seq (.reg [(none, .mv 10 (S 0)), (none, .call 11 67 [(S 10), (K 4)]), (none, .mv 5 (S 11))]) (.block 0 (.loop c_spec_l04Draw_1))) c_spec_l04Draw_n1))))
theorem w_spec_l04Draw_y1_0 (v3 : Int) (v4 : Int) (v8 : List XWindow) (r10 : Int × Xl01Cur) (r12 : Int × Xl01Cur) (hr12 : f_spec_l01Below r10.2 (200 : Int) = some r12) : ∀ (f : Nat) (b0 : Bool) (b1 : Bool) (b2 : Bool) (b5 : Bool) (b6 : Bool), anyA Tryd.prog y_spec_l04Draw_y1 ⟨[(0, vc (.pb 1099511627776 0)), (3, vc (.own 448)), (5, vc (aI v4)), (6, vc (.pb 6 0)), (26, vc (.pb 6 1)), (27, vc (aI (IntKind.i64.wrap (v3 + r10.1)))), (28, vc (aI (IntKind.i64.wrap ((IntKind.i64.wrap (v3 + r10.1)) + (2 : Int))))), (29, vc (.pb 1099511627776 0)), (30, vc (aI r12.1)), (31, vc (aI (IntKind.i64.wrap ((IntKind.i64.wrap ((IntKind.i64.wrap (v3 + r10.1)) + (2 : Int))) + r12.1)))), (4, vc (aI (IntKind.i64.wrap ((IntKind.i64.wrap ((IntKind.i64.wrap (v3 + r10.1)) + (2 : Int))) + r12.1))))], [(1099511627776, [aL (List.map r8 r12.2.b), aI r12.2.i, aI r12.2.h]), (6, [aI v3, aI (IntKind.i64.wrap (v3 + r10.1))])], [(448, 2, List.map XWindow.row (v8 ++ ([(⟨v3, (IntKind.i64.wrap (v3 + r10.1))⟩ : XWindow)] : List XWindow)))]⟩ f [b0, b1, b2, true, true, b5, b6] ⟨[(0, vc (.pb 1099511627776 0)), (3, vc (.own 448)), (5, vc (aI v4)), (6, vc (.pb 6 0)), (26, bif b0 then vc (.pb 6 1) else .undef), (27, bif b1 then vc (aI (IntKind.i64.wrap (v3 + r10.1))) else .undef), (28, bif b2 then vc (aI (IntKind.i64.wrap ((IntKind.i64.wrap (v3 + r10.1)) + (2 : Int)))) else .undef), (29, vc (.pb 1099511627776 0)), (30, vc (aI r12.1)), (31, bif b5 then vc (aI (IntKind.i64.wrap ((IntKind.i64.wrap ((IntKind.i64.wrap (v3 + r10.1)) + (2 : Int))) + r12.1))) else .undef), (4, bif b6 then vc (aI (IntKind.i64.wrap ((IntKind.i64.wrap ((IntKind.i64.wrap (v3 + r10.1)) + (2 : Int))) + r12.1))) else .undef)], [(1099511627776, [aL (List.map r8 r12.2.b), aI r12.2.i, aI r12.2.h]), (6, [aI v3, aI (IntKind.i64.wrap (v3 + r10.1))])], [(448, 2, List.map XWindow.row (v8 ++ ([(⟨v3, (IntKind.i64.wrap (v3 + r10.1))⟩ : XWindow)] : List XWindow)))]⟩ := by
  intro f
  induction f with
  | zero =>
    intro b0 b1 b2 b5 b6 h
    obtain rfl : b0 = true := List.all_eq_true.1 h b0 (by simp)
    obtain rfl : b1 = true := List.all_eq_true.1 h b1 (by simp)
    obtain rfl : b2 = true := List.all_eq_true.1 h b2 (by simp)
    obtain rfl : b5 = true := List.all_eq_true.1 h b5 (by simp)
    obtain rfl : b6 = true := List.all_eq_true.1 h b6 (by simp)
    rfl
  | succ f ih =>
    intro b0 b1 b2 b5 b6
    refine any_step ⟨?_, ?_, ?_, ?_, ?_, ?_, ?_, trivial⟩
    · intro h0 hw
      obtain rfl : b0 = false := Option.some.inj h0
      try simp only [avmap_bif, Nat.reduceBEq, Nat.reduceMul, Nat.reduceAdd, Nat.reduceDiv, Int.reduceBEq, rules2, rulesX, rowsX]
      exact ih true b1 b2 b5 b6
    · intro h0 hw
      obtain rfl : b1 = false := Option.some.inj h0
      obtain rfl : b0 = true := Option.some.inj (hw 0 (by simp))
      try simp only [avmap_bif, Nat.reduceBEq, Nat.reduceMul, Nat.reduceAdd, Nat.reduceDiv, Int.reduceBEq, rules2, rulesX, rowsX]
      exact ih true true b2 b5 b6
    · intro h0 hw
      obtain rfl : b2 = false := Option.some.inj h0
      obtain rfl : b1 = true := Option.some.inj (hw 1 (by simp))
      try simp only [avmap_bif, Nat.reduceBEq, Nat.reduceMul, Nat.reduceAdd, Nat.reduceDiv, Int.reduceBEq, rules2, rulesX, rowsX]
      exact ih b0 true true b5 b6
    · intro h; cases h
    · intro h; cases h
    · intro h0 hw
      obtain rfl : b5 = false := Option.some.inj h0
      obtain rfl : b2 = true := Option.some.inj (hw 2 (by simp))
      try simp only [avmap_bif, Nat.reduceBEq, Nat.reduceMul, Nat.reduceAdd, Nat.reduceDiv, Int.reduceBEq, rules2, rulesX, rowsX]
      exact ih b0 b1 true true b6
    · intro h0 hw
      obtain rfl : b6 = false := Option.some.inj h0
      obtain rfl : b0 = true := Option.some.inj (hw 0 (by simp))
      obtain rfl : b1 = true := Option.some.inj (hw 1 (by simp))
      obtain rfl : b2 = true := Option.some.inj (hw 2 (by simp))
      obtain rfl : b5 = true := Option.some.inj (hw 5 (by simp))
      try simp only [avmap_bif, Nat.reduceBEq, Nat.reduceMul, Nat.reduceAdd, Nat.reduceDiv, Int.reduceBEq, rules2, rulesX, rowsX]
      exact ih true true true true true
theorem w_spec_l04Draw_y1_1 (v3 : Int) (v4 : Int) (v8 : List XWindow) (r10 : Int × Xl01Cur) (r12 : Int × Xl01Cur) (hr12 : f_spec_l01Below r10.2 (200 : Int) = some r12) : ∀ (f : Nat) (b0 : Bool) (b1 : Bool) (b2 : Bool) (b3 : Bool), anyA Tryd.prog y_spec_l04Draw_y1 ⟨[(0, vc (.pb 1099511627776 0)), (3, vc (.own 448)), (5, vc (aI v4)), (6, vc (.pb 6 0)), (26, vc (.pb 6 1)), (27, vc (aI (IntKind.i64.wrap (v3 + r10.1)))), (28, vc (aI (IntKind.i64.wrap ((IntKind.i64.wrap (v3 + r10.1)) + (2 : Int))))), (29, vc (.pb 1099511627776 0)), (30, vc (aI r12.1)), (31, vc (aI (IntKind.i64.wrap ((IntKind.i64.wrap ((IntKind.i64.wrap (v3 + r10.1)) + (2 : Int))) + r12.1)))), (4, vc (aI (IntKind.i64.wrap ((IntKind.i64.wrap ((IntKind.i64.wrap (v3 + r10.1)) + (2 : Int))) + r12.1))))], [(1099511627776, [aL (List.map r8 r12.2.b), aI r12.2.i, aI r12.2.h]), (6, [aI v3, aI (IntKind.i64.wrap (v3 + r10.1))])], [(448, 2, List.map XWindow.row (v8 ++ ([(⟨v3, (IntKind.i64.wrap (v3 + r10.1))⟩ : XWindow)] : List XWindow)))]⟩ f [b0, b1, b2, b3, false, false, false] ⟨[(0, vc (.pb 1099511627776 0)), (3, vc (.own 448)), (5, vc (aI v4)), (6, vc (.pb 6 0)), (26, bif b0 then vc (.pb 6 1) else .undef), (27, bif b1 then vc (aI (IntKind.i64.wrap (v3 + r10.1))) else .undef), (28, bif b2 then vc (aI (IntKind.i64.wrap ((IntKind.i64.wrap (v3 + r10.1)) + (2 : Int)))) else .undef), (29, bif b3 then vc (.pb 1099511627776 0) else .undef), (30, .undef), (31, .undef), (4, .undef)], [(1099511627776, [aL (List.map r8 r10.2.b), aI r10.2.i, aI r10.2.h]), (6, [aI v3, aI (IntKind.i64.wrap (v3 + r10.1))])], [(448, 2, List.map XWindow.row (v8 ++ ([(⟨v3, (IntKind.i64.wrap (v3 + r10.1))⟩ : XWindow)] : List XWindow)))]⟩ := by
  intro f
  induction f with
  | zero => intro b0 b1 b2 b3 h; simp at h
  | succ f ih =>
    intro b0 b1 b2 b3
    refine any_step ⟨?_, ?_, ?_, ?_, ?_, ?_, ?_, trivial⟩
    · intro h0 hw
      obtain rfl : b0 = false := Option.some.inj h0
      try simp only [avmap_bif, Nat.reduceBEq, Nat.reduceMul, Nat.reduceAdd, Nat.reduceDiv, Int.reduceBEq, rules2, rulesX, rowsX]
      exact ih true b1 b2 b3
    · intro h0 hw
      obtain rfl : b1 = false := Option.some.inj h0
      obtain rfl : b0 = true := Option.some.inj (hw 0 (by simp))
      try simp only [avmap_bif, Nat.reduceBEq, Nat.reduceMul, Nat.reduceAdd, Nat.reduceDiv, Int.reduceBEq, rules2, rulesX, rowsX]
      exact ih true true b2 b3
    · intro h0 hw
      obtain rfl : b2 = false := Option.some.inj h0
      obtain rfl : b1 = true := Option.some.inj (hw 1 (by simp))
      try simp only [avmap_bif, Nat.reduceBEq, Nat.reduceMul, Nat.reduceAdd, Nat.reduceDiv, Int.reduceBEq, rules2, rulesX, rowsX]
      exact ih b0 true true b3
    · intro h0 hw
      obtain rfl : b3 = false := Option.some.inj h0
      try simp only [avmap_bif, Nat.reduceBEq, Nat.reduceMul, Nat.reduceAdd, Nat.reduceDiv, Int.reduceBEq, rules2, rulesX, rowsX]
      exact ih b0 b1 b2 true
    · intro h0 hw
      obtain rfl : b3 = true := Option.some.inj (hw 3 (by simp))
      try simp only [avmap_bif, Nat.reduceBEq, Nat.reduceMul, Nat.reduceAdd, Nat.reduceDiv, Int.reduceBEq, rules2, rulesX, rowsX]
      refine go_cally (w_spec_l01Below _ _ _ hr12) 1099511627776 rfl rfl rfl ?_
      try simp only [avmap_bif, Nat.reduceBEq, Nat.reduceMul, Nat.reduceAdd, Nat.reduceDiv, Int.reduceBEq, rules2, rulesX, rowsX]
      exact w_spec_l04Draw_y1_0 v3 v4 v8 r10 r12 hr12 _ b0 b1 b2 false false
    · intro _ hw; have := hw 4 (by simp); cases this
    · intro _ hw; have := hw 5 (by simp); cases this
theorem w_spec_l04Draw_1 : ∀ (n : Nat) (v3 : Int) (v4 : Int) (v5 : List Int) (v6 : Int) (v7 : Int) (v8 : List XWindow) (r : (List XWindow) × Xl01Cur), f_spec_l04Draw_1 n v3 v4 v5 v6 v7 v8 = some r → ∀ σ : St, σ.kept [0, 3, 4, 5] [1099511627776] [448] = ⟨[(0, vc (.pb 1099511627776 0)), (3, vc (.own 448)), (4, vc (aI v3)), (5, vc (aI v4))], [(1099511627776, [aL (List.map r8 v5), aI v6, aI v7])], [(448, 2, List.map XWindow.row v8)]⟩ → go Tryd.prog (.code (.loop c_spec_l04Draw_1) :: [.blk 0, .code c_spec_l04Draw_n1]) (RetY [2] [.sc (.v (.sl (List.map XWindow.row r.1)))] [.sl (List.map r8 r.2.b), .int .i64 r.2.i, .int .i64 r.2.h]) .normal (some σ) := by
  intro n
  induction n with
  | zero => intro _ _ _ _ _ _ r h; cases h
  | succ n ih =>
    intro v3 v4 v5 v6 v7 v8 r h σ hσ
    rw [f_spec_l04Draw_1] at h
    refine go_round ?_
    rcases Bool.eq_false_or_eq_true (decide ((0 : Int) < v4)) with hb9 | hb9
    · rw [ite_t hb9] at h
      obtain ⟨r10, hr10, h⟩ := ob h
      try simp only [hσ, hb9, c_spec_l04Draw_1, Nat.reduceBEq, Nat.reduceMul, Nat.reduceAdd, Nat.reduceDiv, Int.reduceBEq, rules2, rulesX, rowsX]
      refine go_cally (w_spec_l01Below _ _ _ hr10) 1099511627776 rfl rfl rfl ?_
      try simp only [hb9, Nat.reduceBEq, Nat.reduceMul, Nat.reduceAdd, Nat.reduceDiv, Int.reduceBEq, rules2, rulesX, rowsX]
      refine go_al rfl rfl ?_
      try simp only [hb9, Nat.reduceBEq, Nat.reduceMul, Nat.reduceAdd, Nat.reduceDiv, Int.reduceBEq, rules2, rulesX, rowsX]
      refine go_bsl (es := List.map XWindow.row ([(⟨v3, (IntKind.i64.wrap (v3 + r10.1))⟩ : XWindow)] : List XWindow)) rfl rfl ?_
      obtain ⟨hg11, h⟩ := of_guard h
      try simp only [hb9, hg11, Nat.reduceBEq, Nat.reduceMul, Nat.reduceAdd, Nat.reduceDiv, Int.reduceBEq, rules2, rulesX, rowsX]
      obtain ⟨r12, hr12, h⟩ := ob h
      refine go_any (ks := [0, 3, 5, 6]) (bs := [1099511627776, 6]) (rs := [448]) (τ := ⟨[(0, vc (.pb 1099511627776 0)), (3, vc (.own 448)), (5, vc (aI v4)), (6, vc (.pb 6 0)), (26, vc (.pb 6 1)), (27, vc (aI (IntKind.i64.wrap (v3 + r10.1)))), (28, vc (aI (IntKind.i64.wrap ((IntKind.i64.wrap (v3 + r10.1)) + (2 : Int))))), (29, vc (.pb 1099511627776 0)), (30, vc (aI r12.1)), (31, vc (aI (IntKind.i64.wrap ((IntKind.i64.wrap ((IntKind.i64.wrap (v3 + r10.1)) + (2 : Int))) + r12.1)))), (4, vc (aI (IntKind.i64.wrap ((IntKind.i64.wrap ((IntKind.i64.wrap (v3 + r10.1)) + (2 : Int))) + r12.1))))], [(1099511627776, [aL (List.map r8 r12.2.b), aI r12.2.i, aI r12.2.h]), (6, [aI v3, aI (IntKind.i64.wrap (v3 + r10.1))])], [(448, 2, List.map XWindow.row (v8 ++ ([(⟨v3, (IntKind.i64.wrap (v3 + r10.1))⟩ : XWindow)] : List XWindow)))]⟩) rfl (w_spec_l04Draw_y1_1 v3 v4 v8 r10 r12 hr12 _ false false false false) ?_
      try simp only [hb9, hg11, Nat.reduceBEq, Nat.reduceMul, Nat.reduceAdd, Nat.reduceDiv, Int.reduceBEq, rules2, rulesX, rowsX]
      refine ih _ _ _ _ _ _ _ h _ ?_
      try simp only [hb9, hg11, Nat.reduceBEq, Nat.reduceMul, Nat.reduceAdd, Nat.reduceDiv, Int.reduceBEq, rules2, rulesX, rowsX, List.map_nil]
    · rw [ite_f hb9] at h
      try simp only [hσ, hb9, c_spec_l04Draw_1, c_spec_l04Draw_n1, Nat.reduceBEq, Nat.reduceMul, Nat.reduceAdd, Nat.reduceDiv, Int.reduceBEq, rules2, rulesX, rowsX]
      refine go_frz' rfl ?_
      try simp only [hb9, Nat.reduceBEq, Nat.reduceMul, Nat.reduceAdd, Nat.reduceDiv, Int.reduceBEq, rules2, rulesX, rowsX]
      cases h
      exact ⟨⟨rfl, trivial⟩, rfl⟩
theorem e_spec_l04Draw : entry Tryd.prog 35 = some (c_spec_l04Draw.strip, [2], 33) := by kernel_rfl
theorem w_spec_l04Draw (a0 : Xl01Cur) (r : (List XWindow) × Xl01Cur) (h : f_spec_l04Draw a0 = some r) : FCy Tryd.prog 35 [.p] [.sl (List.map r8 a0.b), .int .i64 a0.i, .int .i64 a0.h] [.sl (List.map r8 r.2.b), .int .i64 r.2.i, .int .i64 r.2.h] [.sc (.v (.sl (List.map XWindow.row r.1)))] := by
  unfold f_spec_l04Draw at h
  refine FCy_go (σ := ⟨[(0, vc (.pb 1099511627776 0))], [(1099511627776, [aL (List.map r8 a0.b), aI a0.i, aI a0.h])], []⟩) mixed e_spec_l04Draw rfl rfl ?_
  simp only [c_spec_l04Draw]
  try simp only [Nat.reduceBEq, Nat.reduceMul, Nat.reduceAdd, Nat.reduceDiv, Int.reduceBEq, rules2, rulesX, rowsX]
  refine go_bsl (es := List.map XWindow.row ([] : List XWindow)) rfl rfl ?_
  obtain ⟨r1, hr1, h⟩ := ob h
  try simp only [Nat.reduceBEq, Nat.reduceMul, Nat.reduceAdd, Nat.reduceDiv, Int.reduceBEq, rules2, rulesX, rowsX]
  refine go_cally (w_spec_l01Below _ _ _ hr1) 1099511627776 rfl rfl rfl ?_
  obtain ⟨r2, hr2, h⟩ := ob h
  try simp only [Nat.reduceBEq, Nat.reduceMul, Nat.reduceAdd, Nat.reduceDiv, Int.reduceBEq, rules2, rulesX, rowsX]
  refine go_cally (w_spec_l01Below _ _ _ hr2) 1099511627776 rfl rfl rfl ?_
  try simp only [Nat.reduceBEq, Nat.reduceMul, Nat.reduceAdd, Nat.reduceDiv, Int.reduceBEq, rules2, rulesX, rowsX]
  refine w_spec_l04Draw_1 _ _ _ _ _ _ _ _ h _ ?_
  try simp only [Nat.reduceBEq, Nat.reduceMul, Nat.reduceAdd, Nat.reduceDiv, Int.reduceBEq, rules2, rulesX, rowsX, List.map_nil]
/- 8: spec_MakeWindows -/
def c_spec_MakeWindows : ACode := (.seq (.reg [(none, .mv 4 KN)]) (.seq (.reg [(none, .mv 5 (S 0)), (none, .mv 6 (S 1)), (none, .call 7 33 [(S 5), (S 6)]), (none, .call 8 35 [(S 7)]), (none, .mv 4 (S 8))]) .ret))
theorem e_spec_MakeWindows : entry Tryd.prog 8 = some (c_spec_MakeWindows.strip, [4], 9) := by kernel_rfl
theorem w_spec_MakeWindows (a0 : List Int) (a1 : Int) (r : (List XWindow)) (h : f_spec_MakeWindows a0 a1 = some r) : FC Tryd.prog 8 [.sc (.sl (List.map r8 a0)), .sc (.int .i64 a1)] [.sc (.v (.sl (List.map XWindow.row r)))] := by
  unfold f_spec_MakeWindows at h
  refine FC_go (σ := ⟨[(0, vc (aL (List.map r8 a0))), (1, vc (aI a1))], [], []⟩) mixed e_spec_MakeWindows rfl rfl ?_
  simp only [c_spec_MakeWindows]
  obtain ⟨r1, hr1, h⟩ := ob h
  try simp only [Nat.reduceBEq, Nat.reduceMul, Nat.reduceAdd, Nat.reduceDiv, Int.reduceBEq, rules2, rulesX, rowsX]
  refine go_calln (w_spec_l28New _ _ _ hr1) rfl rfl ?_
  obtain ⟨r2, hr2, h⟩ := ob h
  try simp only [Nat.reduceBEq, Nat.reduceMul, Nat.reduceAdd, Nat.reduceDiv, Int.reduceBEq, rules2, rulesX, rowsX]
  refine go_cally (w_spec_l04Draw _ _ hr2) 7 rfl rfl rfl ?_
  try simp only [Nat.reduceBEq, Nat.reduceMul, Nat.reduceAdd, Nat.reduceDiv, Int.reduceBEq, rules2, rulesX, rowsX]
  cases h
  exact ⟨⟨rfl, trivial⟩, rfl⟩
/- 48: impl_within -/
def c_impl_within : ACode := (.seq (.reg [(none, .mv 6 (KB false))]) (.seq (.reg [(none, .mv 7 (S 1)), (none, .mv 8 (S 0)), (none, .bin 9 .leq (S 7) (S 8)), (none, .mv 10 (S 9)), (some (10, true), .mv 11 (S 0)), (some (10, true), .mv 12 (S 2)), (some (10, true), .bin 13 .leq (S 11) (S 12)), (none, .pick 14 (S 10) (S 13) (KB false)), (none, .mv 6 (S 14))]) .ret))
theorem e_impl_within : entry Tryd.prog 48 = some (c_impl_within.strip, [6], 15) := by kernel_rfl
theorem w_impl_within (a0 : Int) (a1 : Int) (a2 : Int) (r : Bool) (h : f_impl_within a0 a1 a2 = some r) : FC Tryd.prog 48 [.sc (.int .i64 a0), .sc (.int .i64 a1), .sc (.int .i64 a2)] [.sc (.v (.bool r))] := by
  unfold f_impl_within at h
  refine FC_go (σ := ⟨[(0, vc (aI a0)), (1, vc (aI a1)), (2, vc (aI a2))], [], []⟩) mixed e_impl_within rfl rfl ?_
  simp only [c_impl_within]
  rcases Bool.eq_false_or_eq_true (decide (a1 ≤ a0)) with hb1 | hb1
  · rw [ite_t hb1] at h
    try simp only [hb1, Nat.reduceBEq, Nat.reduceMul, Nat.reduceAdd, Nat.reduceDiv, Int.reduceBEq, rules2, rulesX, rowsX]
    cases h
    exact ⟨⟨rfl, trivial⟩, rfl⟩
  · rw [ite_f hb1] at h
    try simp only [hb1, Nat.reduceBEq, Nat.reduceMul, Nat.reduceAdd, Nat.reduceDiv, Int.reduceBEq, rules2, rulesX, rowsX]
    cases h
    exact ⟨⟨rfl, trivial⟩, rfl⟩
/- 45: impl_IsName -/
def c_impl_IsName_2 : ACode := .seq (.reg [(none, .keep [0, 3, 4] [] [])]) (.seq (.reg [(none, .mv 25 (S 4)), (none, .un 26 .not (S 25)), (none, .mv 27 (S 26)), (some (27, true), .mv 28 (S 3)), (some (27, true), .bin 29 .eql (S 28) (K 0)), (some (27, true), .mv 30 (S 29)), (some (30, false), .mv 31 (S 0)), (some (30, false), .mv 32 (S 3)), (some (30, false), .idx 33 (S 31) (S 32)), (some (30, false), .bin 34 .lss (S 33) (K8 48)), (some (27, true), .pick 35 (S 30) (KB true) (S 34)), (some (27, true), .mv 36 (S 35)), (some (36, false), .mv 37 (S 0)), (some (36, false), .mv 38 (S 3)), (some (36, false), .idx 39 (S 37) (S 38)), (some (36, false), .bin 40 .gtr (S 39) (K8 57)), (some (27, true), .pick 41 (S 36) (KB true) (S 40)), (none, .pick 42 (S 27) (S 41) (KB false))]) (.cond (S 42) (.seq (.reg [(none, .mv 2 (KB false))]) .ret) .skip))
def c_impl_IsName_3 : ACode := .seq (.reg [(none, .keep [0, 3] [] [])]) (.reg [(none, .mv 13 (S 3)), (none, .bin 14 .add (S 13) (K 1)), (none, .mv 3 (S 14))])
def c_impl_IsName_1 : ACode := .seq (.reg [(none, .keep [0, 3] [] [])]) (.seq (.seq (.reg [(none, .mv 9 (S 3)), (none, .mv 10 (S 0)), (none, .slen 11 (S 10)), (none, .bin 12 .lss (S 9) (S 11))]) (.cond (S 12) .skip (.exit 0))) (.seq (.block 1 (.seq (.reg [(none, .mv 15 (S 0)), (none, .mv 16 (S 3)), (none, .idx 17 (S 15) (S 16)), (none, .bin 18 .geq (S 17) (K8 97)), (none, .mv 19 (S 18)), (some (19, true), .mv 20 (S 0)), (some (19, true), .mv 21 (S 3)), (some (19, true), .idx 22 (S 20) (S 21)), (some (19, true), .bin 23 .leq (S 22) (K8 122)), (none, .pick 24 (S 19) (S 23) (KB false)), (none, .mv 4 (S 24))]) c_impl_IsName_2)) c_impl_IsName_3))
def c_impl_IsName_n1 : ACode := (.seq (.reg [(none, .mv 2 (KB true))]) .ret)
def c_impl_IsName : ACode := (.seq (.reg [(none, .mv 2 (KB false))]) (.seq (.seq (.reg [(none, .mv 5 (S 0)), (none, .slen 6 (S 5)), (none, .call 7 48 [(S 6), (K 1), (K 8)]), (none, .un 8 .not (S 7))]) (.cond (S 8) (.seq (.reg [(none, .mv 2 (KB false))]) .ret) .skip)) (.seq (.seq (.reg [(none, .mv 3 (K 0))]) (.block 0 (.loop c_impl_IsName_1))) c_impl_IsName_n1)))
theorem w_impl_IsName_3 (a0 : List UInt8) (v3 : Int) (k_impl_IsName_1 : Int → Option Bool) (hk_impl_IsName_1 : ∀ (v3 : Int) zr, k_impl_IsName_1 v3 = some zr → ∀ σ : St, σ.kept [0, 3] [] [] = ⟨[(0, vc (aS a0)), (3, vc (aI v3))], [], []⟩ → go Tryd.prog (.code (.loop c_impl_IsName_1) :: [.blk 0, .code c_impl_IsName_n1]) (Ret [2] [.sc (.v (.bool zr))]) .normal (some σ)) (r : Bool) (h : f_impl_IsName_3 a0 v3 k_impl_IsName_1 = some r) (σ : St) (hσ : σ.kept [0, 3] [] [] = ⟨[(0, vc (aS a0)), (3, vc (aI v3))], [], []⟩) : go Tryd.prog (.code c_impl_IsName_3 :: [.code (.loop c_impl_IsName_1), .blk 0, .code c_impl_IsName_n1]) (Ret [2] [.sc (.v (.bool r))]) .normal (some σ) := by
  unfold f_impl_IsName_3 at h
  try simp only [hσ, c_impl_IsName_3, Nat.reduceBEq, Nat.reduceMul, Nat.reduceAdd, Nat.reduceDiv, Int.reduceBEq, rules2, rulesX, rowsX]
  refine hk_impl_IsName_1 _ _ h _ ?_
  try simp only [Nat.reduceBEq, Nat.reduceMul, Nat.reduceAdd, Nat.reduceDiv, Int.reduceBEq, rules2, rulesX, rowsX, List.map_nil]
theorem w_impl_IsName_2 (a0 : List UInt8) (v3 : Int) (k_impl_IsName_1 : Int → Option Bool) (hk_impl_IsName_1 : ∀ (v3 : Int) zr, k_impl_IsName_1 v3 = some zr → ∀ σ : St, σ.kept [0, 3] [] [] = ⟨[(0, vc (aS a0)), (3, vc (aI v3))], [], []⟩ → go Tryd.prog (.code (.loop c_impl_IsName_1) :: [.blk 0, .code c_impl_IsName_n1]) (Ret [2] [.sc (.v (.bool zr))]) .normal (some σ)) (v7 : Bool) (r : Bool) (h : f_impl_IsName_2 a0 v3 k_impl_IsName_1 v7 = some r) (σ : St) (hσ : σ.kept [0, 3, 4] [] [] = ⟨[(0, vc (aS a0)), (3, vc (aI v3)), (4, vc (aB v7))], [], []⟩) : go Tryd.prog (.code c_impl_IsName_2 :: [.blk 1, .code c_impl_IsName_3, .code (.loop c_impl_IsName_1), .blk 0, .code c_impl_IsName_n1]) (Ret [2] [.sc (.v (.bool r))]) .normal (some σ) := by
  unfold f_impl_IsName_2 at h
  rcases Bool.eq_false_or_eq_true v7 with hb8 | hb8
  · rw [ite_t hb8] at h
    try simp only [hσ, hb8, c_impl_IsName_2, Nat.reduceBEq, Nat.reduceMul, Nat.reduceAdd, Nat.reduceDiv, Int.reduceBEq, rules2, rulesX, rowsX]
    refine w_impl_IsName_3 _ _ k_impl_IsName_1 hk_impl_IsName_1 _ h _ ?_
    try simp only [hb8, Nat.reduceBEq, Nat.reduceMul, Nat.reduceAdd, Nat.reduceDiv, Int.reduceBEq, rules2, rulesX, rowsX, List.map_nil]
  · rw [ite_f hb8] at h
    rcases Bool.eq_false_or_eq_true (v3 == (0 : Int)) with hb9 | hb9
    · rw [ite_t hb9] at h
      try simp only [hσ, hb8, hb9, c_impl_IsName_2, Nat.reduceBEq, Nat.reduceMul, Nat.reduceAdd, Nat.reduceDiv, Int.reduceBEq, rules2, rulesX, rowsX]
      cases h
      exact ⟨⟨rfl, trivial⟩, rfl⟩
    · rw [ite_f hb9] at h
      obtain ⟨b10, hb10, h⟩ := ob h
      rcases Bool.eq_false_or_eq_true (decide ((b10.toNat : Int) < (48 : Int))) with hb11 | hb11
      · rw [ite_t hb11] at h
        try simp only [hσ, hb8, hb9, hb10, hb11, c_impl_IsName_2, Nat.reduceBEq, Nat.reduceMul, Nat.reduceAdd, Nat.reduceDiv, Int.reduceBEq, rules2, rulesX, rowsX]
        cases h
        exact ⟨⟨rfl, trivial⟩, rfl⟩
      · rw [ite_f hb11] at h
        rcases Bool.eq_false_or_eq_true (decide ((57 : Int) < (b10.toNat : Int))) with hb12 | hb12
        · rw [ite_t hb12] at h
          try simp only [hσ, hb8, hb9, hb10, hb11, hb12, c_impl_IsName_2, Nat.reduceBEq, Nat.reduceMul, Nat.reduceAdd, Nat.reduceDiv, Int.reduceBEq, rules2, rulesX, rowsX]
          cases h
          exact ⟨⟨rfl, trivial⟩, rfl⟩
        · rw [ite_f hb12] at h
          try simp only [hσ, hb8, hb9, hb10, hb11, hb12, c_impl_IsName_2, Nat.reduceBEq, Nat.reduceMul, Nat.reduceAdd, Nat.reduceDiv, Int.reduceBEq, rules2, rulesX, rowsX]
          refine w_impl_IsName_3 _ _ k_impl_IsName_1 hk_impl_IsName_1 _ h _ ?_
          try simp only [hb8, hb9, hb10, hb11, hb12, Nat.reduceBEq, Nat.reduceMul, Nat.reduceAdd, Nat.reduceDiv, Int.reduceBEq, rules2, rulesX, rowsX, List.map_nil]
theorem w_impl_IsName_1 (a0 : List UInt8) : ∀ (n : Nat) (v3 : Int) (r : Bool), f_impl_IsName_1 a0 n v3 = some r → ∀ σ : St, σ.kept [0, 3] [] [] = ⟨[(0, vc (aS a0)), (3, vc (aI v3))], [], []⟩ → go Tryd.prog (.code (.loop c_impl_IsName_1) :: [.blk 0, .code c_impl_IsName_n1]) (Ret [2] [.sc (.v (.bool r))]) .normal (some σ) := by
  intro n
  induction n with
  | zero => intro _ r h; cases h
  | succ n ih =>
    intro v3 r h σ hσ
    rw [f_impl_IsName_1] at h
    refine go_round ?_
    rcases Bool.eq_false_or_eq_true (decide (v3 < (a0.length : Int))) with hb4 | hb4
    · rw [ite_t hb4] at h
      obtain ⟨b5, hb5, h⟩ := ob h
      rcases Bool.eq_false_or_eq_true (decide ((97 : Int) ≤ (b5.toNat : Int))) with hb6 | hb6
      · rw [ite_t hb6] at h
        try simp only [hσ, hb4, hb5, hb6, c_impl_IsName_1, Nat.reduceBEq, Nat.reduceMul, Nat.reduceAdd, Nat.reduceDiv, Int.reduceBEq, rules2, rulesX, rowsX]
        refine w_impl_IsName_2 _ _ (f_impl_IsName_1 a0 n) ih _ _ h _ ?_
        try simp only [hb4, hb5, hb6, Nat.reduceBEq, Nat.reduceMul, Nat.reduceAdd, Nat.reduceDiv, Int.reduceBEq, rules2, rulesX, rowsX, List.map_nil]
      · rw [ite_f hb6] at h
        try simp only [hσ, hb4, hb5, hb6, c_impl_IsName_1, Nat.reduceBEq, Nat.reduceMul, Nat.reduceAdd, Nat.reduceDiv, Int.reduceBEq, rules2, rulesX, rowsX]
        refine w_impl_IsName_2 _ _ (f_impl_IsName_1 a0 n) ih _ _ h _ ?_
        try simp only [hb4, hb5, hb6, Nat.reduceBEq, Nat.reduceMul, Nat.reduceAdd, Nat.reduceDiv, Int.reduceBEq, rules2, rulesX, rowsX, List.map_nil]
    · rw [ite_f hb4] at h
      try simp only [hσ, hb4, c_impl_IsName_1, c_impl_IsName_n1, Nat.reduceBEq, Nat.reduceMul, Nat.reduceAdd, Nat.reduceDiv, Int.reduceBEq, rules2, rulesX, rowsX]
      cases h
      exact ⟨⟨rfl, trivial⟩, rfl⟩
theorem e_impl_IsName : entry Tryd.prog 45 = some (c_impl_IsName.strip, [2], 43) := by kernel_rfl
theorem w_impl_IsName (a0 : List UInt8) (r : Bool) (h : f_impl_IsName a0 = some r) : FC Tryd.prog 45 [.sc (.str a0)] [.sc (.v (.bool r))] := by
  unfold f_impl_IsName at h
  refine FC_go (σ := ⟨[(0, vc (aS a0))], [], []⟩) mixed e_impl_IsName rfl rfl ?_
  simp only [c_impl_IsName]
  obtain ⟨r1, hr1, h⟩ := ob h
  try simp only [Nat.reduceBEq, Nat.reduceMul, Nat.reduceAdd, Nat.reduceDiv, Int.reduceBEq, rules2, rulesX, rowsX]
  refine go_callI (w_impl_within _ _ _ _ hr1) rfl rfl (Nat.le_of_ble_eq_true rfl) ?_
  rcases Bool.eq_false_or_eq_true r1 with hb2 | hb2
  · rw [ite_t hb2] at h
    try simp only [hb2, Nat.reduceBEq, Nat.reduceMul, Nat.reduceAdd, Nat.reduceDiv, Int.reduceBEq, rules2, rulesX, rowsX]
    refine w_impl_IsName_1 _ _ _ _ h _ ?_
    try simp only [hb2, Nat.reduceBEq, Nat.reduceMul, Nat.reduceAdd, Nat.reduceDiv, Int.reduceBEq, rules2, rulesX, rowsX, List.map_nil]
  · rw [ite_f hb2] at h
    try simp only [hb2, Nat.reduceBEq, Nat.reduceMul, Nat.reduceAdd, Nat.reduceDiv, Int.reduceBEq, rules2, rulesX, rowsX]
    cases h
    exact ⟨⟨rfl, trivial⟩, rfl⟩
/- 46: impl_PointNamed -/
def c_impl_PointNamed_1 : ACode := .seq (.reg [(none, .keep [1, 8, 9, 10] [] [])]) (.seq (.reg [(none, .bin 11 .lss (S 10) (S 9))]) (.seq (.cond (S 11) .skip (.exit 0)) (.seq (.block 1 (.seq (.reg [(none, .mv 12 (S 10)), (none, .iaddr 13 (S 8) (S 10) 2), (none, .load 14 (S 13) true 2), (none, .alloc 6 [aS [], aB false]), (none, .mv 5 (S 12)), (none, .store (S 6) (S 14) 2)]) (.seq (.reg [(none, .faddr 15 (S 6) 0), (none, .load 16 (S 15) false 1), (none, .mv 17 (S 1)), (none, .bin 18 .eql (S 16) (S 17))]) (.cond (S 18) (.seq (.reg [(none, .mv 19 (S 5)), (none, .mv 4 (S 19))]) .ret) .skip)))) (.reg [(none, .bin 20 .add (S 10) (K 1)), (none, .mv 10 (S 20))]))))
def c_impl_PointNamed_n1 : ACode := (.seq (.reg [(none, .mv 4 (K (-1)))]) .ret)
def c_impl_PointNamed : ACode := (.seq (.reg [(none, .box 2 (S 0)), (none, .mv 4 (K 0))]) (.seq (.seq (.reg [(none, .faddr 7 (S 2) 0), (none, .load 8 (S 7) false 1), (none, .len 9 (S 8)), (none, .mv 10 (K 0))]) (.block 0 (.loop c_impl_PointNamed_1))) c_impl_PointNamed_n1))
theorem w_impl_PointNamed_1 (a1 : List UInt8) (a0 : XChart) : ∀ (n : Nat) (v1 : Int) (r : Int), f_impl_PointNamed_1 a1 a0 n v1 = some r → ∀ σ : St, σ.kept [1, 8, 9, 10] [] [] = ⟨[(1, vc (aS a1)), (8, vc (aL (List.map XPoint.row a0.Points))), (9, vc (aI (a0.Points.length : Int))), (10, vc (aI v1))], [], []⟩ → go Tryd.prog (.code (.loop c_impl_PointNamed_1) :: [.blk 0, .code c_impl_PointNamed_n1]) (Ret [4] [.sc (.v (.int .i64 r))]) .normal (some σ) := by
  intro n
  induction n with
  | zero => intro _ r h; cases h
  | succ n ih =>
    intro v1 r h σ hσ
    rw [f_impl_PointNamed_1] at h
    refine go_round ?_
    rcases Bool.eq_false_or_eq_true (decide (v1 < (a0.Points.length : Int))) with hb2 | hb2
    · rw [ite_t hb2] at h
      obtain ⟨x3, hx3, h⟩ := ob h
      try simp only [hσ, hb2, hx3, c_impl_PointNamed_1, Nat.reduceBEq, Nat.reduceMul, Nat.reduceAdd, Nat.reduceDiv, Int.reduceBEq, rules2, rulesX, rowsX]
      refine go_al rfl rfl ?_
      rcases Bool.eq_false_or_eq_true (x3.Name == a1) with hb4 | hb4
      · rw [ite_t hb4] at h
        try simp only [hb2, hx3, hb4, Nat.reduceBEq, Nat.reduceMul, Nat.reduceAdd, Nat.reduceDiv, Int.reduceBEq, rules2, rulesX, rowsX]
        cases h
        exact ⟨⟨rfl, trivial⟩, rfl⟩
      · rw [ite_f hb4] at h
        try simp only [hb2, hx3, hb4, Nat.reduceBEq, Nat.reduceMul, Nat.reduceAdd, Nat.reduceDiv, Int.reduceBEq, rules2, rulesX, rowsX]
        refine ih _ _ h _ ?_
        try simp only [hb2, hx3, hb4, Nat.reduceBEq, Nat.reduceMul, Nat.reduceAdd, Nat.reduceDiv, Int.reduceBEq, rules2, rulesX, rowsX, List.map_nil]
    · rw [ite_f hb2] at h
      try simp only [hσ, hb2, c_impl_PointNamed_1, c_impl_PointNamed_n1, Nat.reduceBEq, Nat.reduceMul, Nat.reduceAdd, Nat.reduceDiv, Int.reduceBEq, rules2, rulesX, rowsX]
      cases h
      exact ⟨⟨rfl, trivial⟩, rfl⟩
theorem e_impl_PointNamed : entry Tryd.prog 46 = some (c_impl_PointNamed.strip, [4], 21) := by kernel_rfl
theorem w_impl_PointNamed (a0 : XChart) (a1 : List UInt8) (r : Int) (h : f_impl_PointNamed a0 a1 = some r) : FC Tryd.prog 46 [.ag (XChart.row a0), .sc (.str a1)] [.sc (.v (.int .i64 r))] := by
  unfold f_impl_PointNamed at h
  refine FC_go (σ := ⟨[(0, va [aL (List.map XPoint.row a0.Points), aL (List.map XSegment.row a0.Segments)]), (1, vc (aS a1))], [], []⟩) mixed e_impl_PointNamed rfl rfl ?_
  simp only [c_impl_PointNamed]
  try simp only [Nat.reduceBEq, Nat.reduceMul, Nat.reduceAdd, Nat.reduceDiv, Int.reduceBEq, rules2, rulesX, rowsX]
  refine go_bx rfl rfl rfl ?_
  try simp only [Nat.reduceBEq, Nat.reduceMul, Nat.reduceAdd, Nat.reduceDiv, Int.reduceBEq, rules2, rulesX, rowsX]
  refine w_impl_PointNamed_1 _ _ _ _ _ h _ ?_
  try simp only [Nat.reduceBEq, Nat.reduceMul, Nat.reduceAdd, Nat.reduceDiv, Int.reduceBEq, rules2, rulesX, rowsX, List.map_nil]
/- 47: impl_isIndex -/
def c_impl_isIndex : ACode := (.seq (.reg [(none, .mv 4 (KB false))]) (.seq (.reg [(none, .mv 5 (S 0)), (none, .bin 6 .geq (S 5) (K 0)), (none, .mv 7 (S 6)), (some (7, true), .mv 8 (S 0)), (some (7, true), .mv 9 (S 1)), (some (7, true), .bin 10 .lss (S 8) (S 9)), (none, .pick 11 (S 7) (S 10) (KB false)), (none, .mv 4 (S 11))]) .ret))
theorem e_impl_isIndex : entry Tryd.prog 47 = some (c_impl_isIndex.strip, [4], 12) := by kernel_rfl
theorem w_impl_isIndex (a0 : Int) (a1 : Int) (r : Bool) (h : f_impl_isIndex a0 a1 = some r) : FC Tryd.prog 47 [.sc (.int .i64 a0), .sc (.int .i64 a1)] [.sc (.v (.bool r))] := by
  unfold f_impl_isIndex at h
  refine FC_go (σ := ⟨[(0, vc (aI a0)), (1, vc (aI a1))], [], []⟩) mixed e_impl_isIndex rfl rfl ?_
  simp only [c_impl_isIndex]
  rcases Bool.eq_false_or_eq_true (decide ((0 : Int) ≤ a0)) with hb1 | hb1
  · rw [ite_t hb1] at h
    try simp only [hb1, Nat.reduceBEq, Nat.reduceMul, Nat.reduceAdd, Nat.reduceDiv, Int.reduceBEq, rules2, rulesX, rowsX]
    cases h
    exact ⟨⟨rfl, trivial⟩, rfl⟩
  · rw [ite_f hb1] at h
    try simp only [hb1, Nat.reduceBEq, Nat.reduceMul, Nat.reduceAdd, Nat.reduceDiv, Int.reduceBEq, rules2, rulesX, rowsX]
    cases h
    exact ⟨⟨rfl, trivial⟩, rfl⟩
/- 49: impl_Segment_joins -/
def c_impl_Segment_joins : ACode := (.seq (.reg [(none, .box 3 (S 0)), (none, .mv 6 (KB false))]) (.seq (.reg [(none, .faddr 7 (S 3) 0), (none, .load 8 (S 7) false 1), (none, .mv 9 (S 1)), (none, .bin 10 .eql (S 8) (S 9)), (none, .mv 11 (S 10)), (some (11, true), .faddr 12 (S 3) 1), (some (11, true), .load 13 (S 12) false 1), (some (11, true), .mv 14 (S 2)), (some (11, true), .bin 15 .eql (S 13) (S 14)), (none, .pick 16 (S 11) (S 15) (KB false)), (none, .mv 17 (S 16)), (some (17, false), .faddr 18 (S 3) 0), (some (17, false), .load 19 (S 18) false 1), (some (17, false), .mv 20 (S 2)), (some (17, false), .bin 21 .eql (S 19) (S 20)), (some (17, false), .mv 22 (S 21)), (some (22, true), .faddr 23 (S 3) 1), (some (22, true), .load 24 (S 23) false 1), (some (22, true), .mv 25 (S 1)), (some (22, true), .bin 26 .eql (S 24) (S 25)), (some (17, false), .pick 27 (S 22) (S 26) (KB false)), (none, .pick 28 (S 17) (KB true) (S 27)), (none, .mv 6 (S 28))]) .ret))
theorem e_impl_Segment_joins : entry Tryd.prog 49 = some (c_impl_Segment_joins.strip, [6], 29) := by kernel_rfl
theorem w_impl_Segment_joins (a0 : XSegment) (a1 : Int) (a2 : Int) (r : Bool) (h : f_impl_Segment_joins a0 a1 a2 = some r) : FC Tryd.prog 49 [.ag (XSegment.row a0), .sc (.int .i64 a1), .sc (.int .i64 a2)] [.sc (.v (.bool r))] := by
  unfold f_impl_Segment_joins at h
  refine FC_go (σ := ⟨[(0, va [aI a0.A, aI a0.B, aI a0.Depth, aI a0.Minutes, aB a0.Meet]), (1, vc (aI a1)), (2, vc (aI a2))], [], []⟩) mixed e_impl_Segment_joins rfl rfl ?_
  simp only [c_impl_Segment_joins]
  try simp only [Nat.reduceBEq, Nat.reduceMul, Nat.reduceAdd, Nat.reduceDiv, Int.reduceBEq, rules2, rulesX, rowsX]
  refine go_bx rfl rfl rfl ?_
  rcases Bool.eq_false_or_eq_true (a0.A == a1) with hb1 | hb1
  · rw [ite_t hb1] at h
    rcases Bool.eq_false_or_eq_true (a0.B == a2) with hb2 | hb2
    · rw [ite_t hb2] at h
      try simp only [hb1, hb2, Nat.reduceBEq, Nat.reduceMul, Nat.reduceAdd, Nat.reduceDiv, Int.reduceBEq, rules2, rulesX, rowsX]
      cases h
      exact ⟨⟨rfl, trivial⟩, rfl⟩
    · rw [ite_f hb2] at h
      rcases Bool.eq_false_or_eq_true (a0.A == a2) with hb3 | hb3
      · rw [ite_t hb3] at h
        try simp only [hb1, hb2, hb3, Nat.reduceBEq, Nat.reduceMul, Nat.reduceAdd, Nat.reduceDiv, Int.reduceBEq, rules2, rulesX, rowsX]
        cases h
        exact ⟨⟨rfl, trivial⟩, rfl⟩
      · rw [ite_f hb3] at h
        try simp only [hb1, hb2, hb3, Nat.reduceBEq, Nat.reduceMul, Nat.reduceAdd, Nat.reduceDiv, Int.reduceBEq, rules2, rulesX, rowsX]
        cases h
        exact ⟨⟨rfl, trivial⟩, rfl⟩
  · rw [ite_f hb1] at h
    rcases Bool.eq_false_or_eq_true (a0.A == a2) with hb4 | hb4
    · rw [ite_t hb4] at h
      try simp only [hb1, hb4, Nat.reduceBEq, Nat.reduceMul, Nat.reduceAdd, Nat.reduceDiv, Int.reduceBEq, rules2, rulesX, rowsX]
      cases h
      exact ⟨⟨rfl, trivial⟩, rfl⟩
    · rw [ite_f hb4] at h
      try simp only [hb1, hb4, Nat.reduceBEq, Nat.reduceMul, Nat.reduceAdd, Nat.reduceDiv, Int.reduceBEq, rules2, rulesX, rowsX]
      cases h
      exact ⟨⟨rfl, trivial⟩, rfl⟩
/- 15: impl_ChartOk -/
def c_impl_ChartOk_1 : ACode := .seq (.reg [(none, .keep [1, 20, 21, 22] [1] [])]) (.seq (.reg [(none, .bin 23 .lss (S 22) (S 21))]) (.seq (.cond (S 23) .skip (.exit 0)) (.seq (.block 1 (.seq (.reg [(none, .mv 24 (S 22)), (none, .iaddr 25 (S 20) (S 22) 2), (none, .load 26 (S 25) true 2), (none, .alloc 4 [aS [], aB false]), (none, .mv 3 (S 24)), (none, .store (S 4) (S 26) 2)]) (.seq (.reg [(none, .faddr 27 (S 4) 0), (none, .load 28 (S 27) false 1), (none, .call 29 45 [(S 28)]), (none, .un 30 .not (S 29)), (none, .mv 31 (S 30)), (some (31, false), .load 32 (S 1) true 2), (some (31, false), .faddr 33 (S 4) 0), (some (31, false), .load 34 (S 33) false 1), (some (31, false), .call 35 46 [(S 32), (S 34)]), (some (31, false), .mv 36 (S 3)), (some (31, false), .bin 37 .neq (S 35) (S 36)), (none, .pick 38 (S 31) (KB true) (S 37))]) (.cond (S 38) (.seq (.reg [(none, .mv 2 (KB false))]) .ret) .skip)))) (.reg [(none, .bin 39 .add (S 22) (K 1)), (none, .mv 22 (S 39))]))))
def c_impl_ChartOk_3 : ACode := .seq (.reg [(none, .keep [1, 6, 41, 42, 43, 86, 87, 88] [1, 6] [])]) (.seq (.reg [(none, .bin 89 .lss (S 88) (S 87))]) (.seq (.cond (S 89) .skip (.exit 4)) (.seq (.block 5 (.seq (.reg [(none, .iaddr 90 (S 86) (S 88) 5), (none, .load 91 (S 90) true 5), (none, .alloc 8 [aI 0, aI 0, aI 0, aI 0, aB false]), (none, .store (S 8) (S 91) 5)]) (.seq (.reg [(none, .load 92 (S 8) true 5), (none, .faddr 93 (S 6) 0), (none, .load 94 (S 93) false 1), (none, .faddr 95 (S 6) 1), (none, .load 96 (S 95) false 1), (none, .call 97 49 [(S 92), (S 94), (S 96)])]) (.cond (S 97) (.seq (.reg [(none, .mv 2 (KB false))]) .ret) .skip)))) (.reg [(none, .bin 98 .add (S 88) (K 1)), (none, .mv 88 (S 98))]))))
def c_impl_ChartOk_n3 : ACode := (.reg [(none, .bin 99 .add (S 43) (K 1)), (none, .mv 43 (S 99))])
def c_impl_ChartOk_2 : ACode := .seq (.reg [(none, .keep [1, 41, 42, 43] [1] [])]) (.seq (.reg [(none, .bin 44 .lss (S 43) (S 42))]) (.seq (.cond (S 44) .skip (.exit 2)) (.seq (.block 3 (.seq (.reg [(none, .mv 45 (S 43)), (none, .iaddr 46 (S 41) (S 43) 5), (none, .load 47 (S 46) true 5), (none, .alloc 6 [aI 0, aI 0, aI 0, aI 0, aB false]), (none, .mv 5 (S 45)), (none, .store (S 6) (S 47) 5)]) (.seq (.seq (.reg [(none, .faddr 48 (S 6) 0), (none, .load 49 (S 48) false 1), (none, .faddr 50 (S 1) 0), (none, .load 51 (S 50) false 1), (none, .len 52 (S 51)), (none, .call 53 47 [(S 49), (S 52)]), (none, .un 54 .not (S 53)), (none, .mv 55 (S 54)), (some (55, false), .faddr 56 (S 6) 1), (some (55, false), .load 57 (S 56) false 1), (some (55, false), .faddr 58 (S 1) 0), (some (55, false), .load 59 (S 58) false 1), (some (55, false), .len 60 (S 59)), (some (55, false), .call 61 47 [(S 57), (S 60)]), (some (55, false), .un 62 .not (S 61)), (none, .pick 63 (S 55) (KB true) (S 62)), (none, .mv 64 (S 63)), (some (64, false), .faddr 65 (S 6) 0), (some (64, false), .load 66 (S 65) false 1), (some (64, false), .faddr 67 (S 6) 1), (some (64, false), .load 68 (S 67) false 1), (some (64, false), .bin 69 .eql (S 66) (S 68)), (none, .pick 70 (S 64) (KB true) (S 69)), (none, .mv 71 (S 70)), (some (71, false), .faddr 72 (S 6) 2), (some (71, false), .load 73 (S 72) false 1), (some (71, false), .call 74 48 [(S 73), (K 0), (K 3000)]), (some (71, false), .un 75 .not (S 74)), (none, .pick 76 (S 71) (KB true) (S 75)), (none, .mv 77 (S 76)), (some (77, false), .faddr 78 (S 6) 3), (some (77, false), .load 79 (S 78) false 1), (some (77, false), .call 80 48 [(S 79), (K 1), (K 240)]), (some (77, false), .un 81 .not (S 80)), (none, .pick 82 (S 77) (KB true) (S 81))]) (.cond (S 82) (.seq (.reg [(none, .mv 2 (KB false))]) .ret) .skip)) (.seq (.reg [(none, .faddr 83 (S 1) 1), (none, .load 84 (S 83) false 1), (none, .mv 85 (S 5)), (none, .slc 86 5 (S 84) none (some (S 85)) none), (none, .len 87 (S 86)), (none, .mv 88 (K 0))]) (.block 4 (.loop c_impl_ChartOk_3)))))) c_impl_ChartOk_n3)))
def c_impl_ChartOk_n2 : ACode := (.seq (.reg [(none, .mv 2 (KB true))]) .ret)
def c_impl_ChartOk_n1 : ACode := (.seq (.seq (.reg [(none, .faddr 40 (S 1) 1), (none, .load 41 (S 40) false 1), (none, .len 42 (S 41)), (none, .mv 43 (K 0))]) (.block 2 (.loop c_impl_ChartOk_2))) c_impl_ChartOk_n2)
def c_impl_ChartOk : ACode := (.seq (.reg [(none, .box 1 (S 0)), (none, .mv 2 (KB false))]) (.seq (.seq (.reg [(none, .faddr 9 (S 1) 0), (none, .load 10 (S 9) false 1), (none, .len 11 (S 10)), (none, .bin 12 .gtr (S 11) (K 8)), (none, .mv 13 (S 12)), (some (13, false), .faddr 14 (S 1) 1), (some (13, false), .load 15 (S 14) false 1), (some (13, false), .len 16 (S 15)), (some (13, false), .bin 17 .gtr (S 16) (K 10)), (none, .pick 18 (S 13) (KB true) (S 17))]) (.cond (S 18) (.seq (.reg [(none, .mv 2 (KB false))]) .ret) .skip)) (.seq (.seq (.reg [(none, .faddr 19 (S 1) 0), (none, .load 20 (S 19) false 1), (none, .len 21 (S 20)), (none, .mv 22 (K 0))]) (.block 0 (.loop c_impl_ChartOk_1))) c_impl_ChartOk_n1)))
theorem w_impl_ChartOk_3 (a0 : XChart) (v11 : Int) (x13 : XSegment) (y24 : List XSegment) (y25 : Int) (k_impl_ChartOk_2 : Int → Option Bool) (hk_impl_ChartOk_2 : ∀ (v11 : Int) zr, k_impl_ChartOk_2 v11 = some zr → ∀ σ : St, σ.kept [1, 41, 42, 43] [1] [] = ⟨[(1, vc (.pb 1 0)), (41, vc (aL (List.map XSegment.row a0.Segments))), (42, vc (aI (a0.Segments.length : Int))), (43, vc (aI v11))], [(1, [aL (List.map XPoint.row a0.Points), aL (List.map XSegment.row a0.Segments)])], []⟩ → go Tryd.prog (.code (.loop c_impl_ChartOk_2) :: [.blk 2, .code c_impl_ChartOk_n2]) (Ret [2] [.sc (.v (.bool zr))]) .normal (some σ)) : ∀ (n : Nat) (v26 : Int) (r : Bool), f_impl_ChartOk_3 a0 v11 x13 y24 y25 k_impl_ChartOk_2 n v26 = some r → ∀ σ : St, σ.kept [1, 6, 41, 42, 43, 86, 87, 88] [1, 6] [] = ⟨[(1, vc (.pb 1 0)), (6, vc (.pb 6 0)), (41, vc (aL (List.map XSegment.row a0.Segments))), (42, vc (aI (a0.Segments.length : Int))), (43, vc (aI v11)), (86, vc (aL (List.map XSegment.row y24))), (87, vc (aI y25)), (88, vc (aI v26))], [(1, [aL (List.map XPoint.row a0.Points), aL (List.map XSegment.row a0.Segments)]), (6, [aI x13.A, aI x13.B, aI x13.Depth, aI x13.Minutes, aB x13.Meet])], []⟩ → go Tryd.prog (.code (.loop c_impl_ChartOk_3) :: [.blk 4, .blk 3, .code c_impl_ChartOk_n3, .code (.loop c_impl_ChartOk_2), .blk 2, .code c_impl_ChartOk_n2]) (Ret [2] [.sc (.v (.bool r))]) .normal (some σ) := by
  intro n
  induction n with
  | zero => intro _ r h; cases h
  | succ n ih =>
    intro v26 r h σ hσ
    rw [f_impl_ChartOk_3] at h
    refine go_round ?_
    rcases Bool.eq_false_or_eq_true (decide (v26 < y25)) with hb27 | hb27
    · rw [ite_t hb27] at h
      obtain ⟨x28, hx28, h⟩ := ob h
      try simp only [hσ, hb27, hx28, c_impl_ChartOk_3, Nat.reduceBEq, Nat.reduceMul, Nat.reduceAdd, Nat.reduceDiv, Int.reduceBEq, rules2, rulesX, rowsX]
      refine go_al rfl rfl ?_
      obtain ⟨r29, hr29, h⟩ := ob h
      try simp only [hb27, hx28, Nat.reduceBEq, Nat.reduceMul, Nat.reduceAdd, Nat.reduceDiv, Int.reduceBEq, rules2, rulesX, rowsX]
      refine go_callI (w_impl_Segment_joins _ _ _ _ hr29) rfl rfl (Nat.le_of_ble_eq_true rfl) ?_
      rcases Bool.eq_false_or_eq_true r29 with hb30 | hb30
      · rw [ite_t hb30] at h
        try simp only [hb27, hx28, hb30, Nat.reduceBEq, Nat.reduceMul, Nat.reduceAdd, Nat.reduceDiv, Int.reduceBEq, rules2, rulesX, rowsX]
        cases h
        exact ⟨⟨rfl, trivial⟩, rfl⟩
      · rw [ite_f hb30] at h
        try simp only [hb27, hx28, hb30, Nat.reduceBEq, Nat.reduceMul, Nat.reduceAdd, Nat.reduceDiv, Int.reduceBEq, rules2, rulesX, rowsX]
        refine ih _ _ h _ ?_
        try simp only [hb27, hx28, hb30, Nat.reduceBEq, Nat.reduceMul, Nat.reduceAdd, Nat.reduceDiv, Int.reduceBEq, rules2, rulesX, rowsX, List.map_nil]
    · rw [ite_f hb27] at h
      try simp only [hσ, hb27, c_impl_ChartOk_3, c_impl_ChartOk_n3, Nat.reduceBEq, Nat.reduceMul, Nat.reduceAdd, Nat.reduceDiv, Int.reduceBEq, rules2, rulesX, rowsX]
      refine hk_impl_ChartOk_2 _ _ h _ ?_
      try simp only [hb27, Nat.reduceBEq, Nat.reduceMul, Nat.reduceAdd, Nat.reduceDiv, Int.reduceBEq, rules2, rulesX, rowsX, List.map_nil]
theorem w_impl_ChartOk_2 (a0 : XChart) : ∀ (n : Nat) (v11 : Int) (r : Bool), f_impl_ChartOk_2 a0 n v11 = some r → ∀ σ : St, σ.kept [1, 41, 42, 43] [1] [] = ⟨[(1, vc (.pb 1 0)), (41, vc (aL (List.map XSegment.row a0.Segments))), (42, vc (aI (a0.Segments.length : Int))), (43, vc (aI v11))], [(1, [aL (List.map XPoint.row a0.Points), aL (List.map XSegment.row a0.Segments)])], []⟩ → go Tryd.prog (.code (.loop c_impl_ChartOk_2) :: [.blk 2, .code c_impl_ChartOk_n2]) (Ret [2] [.sc (.v (.bool r))]) .normal (some σ) := by
  intro n
  induction n with
  | zero => intro _ r h; cases h
  | succ n ih =>
    intro v11 r h σ hσ
    rw [f_impl_ChartOk_2] at h
    refine go_round ?_
    rcases Bool.eq_false_or_eq_true (decide (v11 < (a0.Segments.length : Int))) with hb12 | hb12
    · rw [ite_t hb12] at h
      obtain ⟨x13, hx13, h⟩ := ob h
      try simp only [hσ, hb12, hx13, c_impl_ChartOk_2, Nat.reduceBEq, Nat.reduceMul, Nat.reduceAdd, Nat.reduceDiv, Int.reduceBEq, rules2, rulesX, rowsX]
      refine go_al rfl rfl ?_
      obtain ⟨r14, hr14, h⟩ := ob h
      try simp only [hb12, hx13, Nat.reduceBEq, Nat.reduceMul, Nat.reduceAdd, Nat.reduceDiv, Int.reduceBEq, rules2, rulesX, rowsX]
      refine go_callI (w_impl_isIndex _ _ _ hr14) rfl rfl (Nat.le_of_ble_eq_true rfl) ?_
      rcases Bool.eq_false_or_eq_true r14 with hb15 | hb15
      · rw [ite_t hb15] at h
        obtain ⟨r16, hr16, h⟩ := ob h
        try simp only [hb12, hx13, hb15, Nat.reduceBEq, Nat.reduceMul, Nat.reduceAdd, Nat.reduceDiv, Int.reduceBEq, rules2, rulesX, rowsX]
        refine go_callI (w_impl_isIndex _ _ _ hr16) rfl rfl (Nat.le_of_ble_eq_true rfl) ?_
        rcases Bool.eq_false_or_eq_true r16 with hb17 | hb17
        · rw [ite_t hb17] at h
          rcases Bool.eq_false_or_eq_true (x13.A == x13.B) with hb18 | hb18
          · rw [ite_t hb18] at h
            try simp only [hb12, hx13, hb15, hb17, hb18, Nat.reduceBEq, Nat.reduceMul, Nat.reduceAdd, Nat.reduceDiv, Int.reduceBEq, rules2, rulesX, rowsX]
            cases h
            exact ⟨⟨rfl, trivial⟩, rfl⟩
          · rw [ite_f hb18] at h
            obtain ⟨r19, hr19, h⟩ := ob h
            try simp only [hb12, hx13, hb15, hb17, hb18, Nat.reduceBEq, Nat.reduceMul, Nat.reduceAdd, Nat.reduceDiv, Int.reduceBEq, rules2, rulesX, rowsX]
            refine go_callI (w_impl_within _ _ _ _ hr19) rfl rfl (Nat.le_of_ble_eq_true rfl) ?_
            rcases Bool.eq_false_or_eq_true r19 with hb20 | hb20
            · rw [ite_t hb20] at h
              obtain ⟨r21, hr21, h⟩ := ob h
              try simp only [hb12, hx13, hb15, hb17, hb18, hb20, Nat.reduceBEq, Nat.reduceMul, Nat.reduceAdd, Nat.reduceDiv, Int.reduceBEq, rules2, rulesX, rowsX]
              refine go_callI (w_impl_within _ _ _ _ hr21) rfl rfl (Nat.le_of_ble_eq_true rfl) ?_
              rcases Bool.eq_false_or_eq_true r21 with hb22 | hb22
              · rw [ite_t hb22] at h
                obtain ⟨p23, hp23, h⟩ := ob h
                try simp only [hb12, hx13, hb15, hb17, hb18, hb20, hb22, hp23, Nat.reduceBEq, Nat.reduceMul, Nat.reduceAdd, Nat.reduceDiv, Int.reduceBEq, rules2, rulesX, rowsX]
                refine w_impl_ChartOk_3 _ _ _ _ _ (f_impl_ChartOk_2 a0 n) ih _ _ _ h _ ?_
                try simp only [hb12, hx13, hb15, hb17, hb18, hb20, hb22, hp23, Nat.reduceBEq, Nat.reduceMul, Nat.reduceAdd, Nat.reduceDiv, Int.reduceBEq, rules2, rulesX, rowsX, List.map_nil]
              · rw [ite_f hb22] at h
                try simp only [hb12, hx13, hb15, hb17, hb18, hb20, hb22, Nat.reduceBEq, Nat.reduceMul, Nat.reduceAdd, Nat.reduceDiv, Int.reduceBEq, rules2, rulesX, rowsX]
                cases h
                exact ⟨⟨rfl, trivial⟩, rfl⟩
            · rw [ite_f hb20] at h
              try simp only [hb12, hx13, hb15, hb17, hb18, hb20, Nat.reduceBEq, Nat.reduceMul, Nat.reduceAdd, Nat.reduceDiv, Int.reduceBEq, rules2, rulesX, rowsX]
              cases h
              exact ⟨⟨rfl, trivial⟩, rfl⟩
        · rw [ite_f hb17] at h
          try simp only [hb12, hx13, hb15, hb17, Nat.reduceBEq, Nat.reduceMul, Nat.reduceAdd, Nat.reduceDiv, Int.reduceBEq, rules2, rulesX, rowsX]
          cases h
          exact ⟨⟨rfl, trivial⟩, rfl⟩
      · rw [ite_f hb15] at h
        try simp only [hb12, hx13, hb15, Nat.reduceBEq, Nat.reduceMul, Nat.reduceAdd, Nat.reduceDiv, Int.reduceBEq, rules2, rulesX, rowsX]
        cases h
        exact ⟨⟨rfl, trivial⟩, rfl⟩
    · rw [ite_f hb12] at h
      try simp only [hσ, hb12, c_impl_ChartOk_2, c_impl_ChartOk_n2, Nat.reduceBEq, Nat.reduceMul, Nat.reduceAdd, Nat.reduceDiv, Int.reduceBEq, rules2, rulesX, rowsX]
      cases h
      exact ⟨⟨rfl, trivial⟩, rfl⟩
theorem w_impl_ChartOk_1 (a0 : XChart) : ∀ (n : Nat) (v3 : Int) (r : Bool), f_impl_ChartOk_1 a0 n v3 = some r → ∀ σ : St, σ.kept [1, 20, 21, 22] [1] [] = ⟨[(1, vc (.pb 1 0)), (20, vc (aL (List.map XPoint.row a0.Points))), (21, vc (aI (a0.Points.length : Int))), (22, vc (aI v3))], [(1, [aL (List.map XPoint.row a0.Points), aL (List.map XSegment.row a0.Segments)])], []⟩ → go Tryd.prog (.code (.loop c_impl_ChartOk_1) :: [.blk 0, .code c_impl_ChartOk_n1]) (Ret [2] [.sc (.v (.bool r))]) .normal (some σ) := by
  intro n
  induction n with
  | zero => intro _ r h; cases h
  | succ n ih =>
    intro v3 r h σ hσ
    rw [f_impl_ChartOk_1] at h
    refine go_round ?_
    rcases Bool.eq_false_or_eq_true (decide (v3 < (a0.Points.length : Int))) with hb4 | hb4
    · rw [ite_t hb4] at h
      obtain ⟨x5, hx5, h⟩ := ob h
      try simp only [hσ, hb4, hx5, c_impl_ChartOk_1, Nat.reduceBEq, Nat.reduceMul, Nat.reduceAdd, Nat.reduceDiv, Int.reduceBEq, rules2, rulesX, rowsX]
      refine go_al rfl rfl ?_
      obtain ⟨r6, hr6, h⟩ := ob h
      try simp only [hb4, hx5, Nat.reduceBEq, Nat.reduceMul, Nat.reduceAdd, Nat.reduceDiv, Int.reduceBEq, rules2, rulesX, rowsX]
      refine go_callI (w_impl_IsName _ _ hr6) rfl rfl (Nat.le_of_ble_eq_true rfl) ?_
      rcases Bool.eq_false_or_eq_true r6 with hb7 | hb7
      · rw [ite_t hb7] at h
        obtain ⟨r9, hr9, h⟩ := ob h
        try simp only [hb4, hx5, hb7, Nat.reduceBEq, Nat.reduceMul, Nat.reduceAdd, Nat.reduceDiv, Int.reduceBEq, rules2, rulesX, rowsX]
        refine go_callI (w_impl_PointNamed _ _ _ hr9) rfl rfl (Nat.le_of_ble_eq_true rfl) ?_
        rcases Bool.eq_false_or_eq_true (r9 != v3) with hb10 | hb10
        · rw [ite_t hb10] at h
          try simp only [hb4, hx5, hb7, hb10, Nat.reduceBEq, Nat.reduceMul, Nat.reduceAdd, Nat.reduceDiv, Int.reduceBEq, rules2, rulesX, rowsX]
          cases h
          exact ⟨⟨rfl, trivial⟩, rfl⟩
        · rw [ite_f hb10] at h
          try simp only [hb4, hx5, hb7, hb10, Nat.reduceBEq, Nat.reduceMul, Nat.reduceAdd, Nat.reduceDiv, Int.reduceBEq, rules2, rulesX, rowsX]
          refine ih _ _ h _ ?_
          try simp only [hb4, hx5, hb7, hb10, Nat.reduceBEq, Nat.reduceMul, Nat.reduceAdd, Nat.reduceDiv, Int.reduceBEq, rules2, rulesX, rowsX, List.map_nil]
      · rw [ite_f hb7] at h
        try simp only [hb4, hx5, hb7, Nat.reduceBEq, Nat.reduceMul, Nat.reduceAdd, Nat.reduceDiv, Int.reduceBEq, rules2, rulesX, rowsX]
        cases h
        exact ⟨⟨rfl, trivial⟩, rfl⟩
    · rw [ite_f hb4] at h
      try simp only [hσ, hb4, c_impl_ChartOk_1, c_impl_ChartOk_n1, Nat.reduceBEq, Nat.reduceMul, Nat.reduceAdd, Nat.reduceDiv, Int.reduceBEq, rules2, rulesX, rowsX]
      refine w_impl_ChartOk_2 _ _ _ _ h _ ?_
      try simp only [hb4, Nat.reduceBEq, Nat.reduceMul, Nat.reduceAdd, Nat.reduceDiv, Int.reduceBEq, rules2, rulesX, rowsX, List.map_nil]
theorem e_impl_ChartOk : entry Tryd.prog 15 = some (c_impl_ChartOk.strip, [2], 100) := by kernel_rfl
theorem w_impl_ChartOk (a0 : XChart) (r : Bool) (h : f_impl_ChartOk a0 = some r) : FC Tryd.prog 15 [.ag (XChart.row a0)] [.sc (.v (.bool r))] := by
  unfold f_impl_ChartOk at h
  refine FC_go (σ := ⟨[(0, va [aL (List.map XPoint.row a0.Points), aL (List.map XSegment.row a0.Segments)])], [], []⟩) mixed e_impl_ChartOk rfl rfl ?_
  simp only [c_impl_ChartOk]
  try simp only [Nat.reduceBEq, Nat.reduceMul, Nat.reduceAdd, Nat.reduceDiv, Int.reduceBEq, rules2, rulesX, rowsX]
  refine go_bx rfl rfl rfl ?_
  rcases Bool.eq_false_or_eq_true (decide ((8 : Int) < (a0.Points.length : Int))) with hb1 | hb1
  · rw [ite_t hb1] at h
    try simp only [hb1, Nat.reduceBEq, Nat.reduceMul, Nat.reduceAdd, Nat.reduceDiv, Int.reduceBEq, rules2, rulesX, rowsX]
    cases h
    exact ⟨⟨rfl, trivial⟩, rfl⟩
  · rw [ite_f hb1] at h
    rcases Bool.eq_false_or_eq_true (decide ((10 : Int) < (a0.Segments.length : Int))) with hb2 | hb2
    · rw [ite_t hb2] at h
      try simp only [hb1, hb2, Nat.reduceBEq, Nat.reduceMul, Nat.reduceAdd, Nat.reduceDiv, Int.reduceBEq, rules2, rulesX, rowsX]
      cases h
      exact ⟨⟨rfl, trivial⟩, rfl⟩
    · rw [ite_f hb2] at h
      try simp only [hb1, hb2, Nat.reduceBEq, Nat.reduceMul, Nat.reduceAdd, Nat.reduceDiv, Int.reduceBEq, rules2, rulesX, rowsX]
      refine w_impl_ChartOk_1 _ _ _ _ h _ ?_
      try simp only [hb1, hb2, Nat.reduceBEq, Nat.reduceMul, Nat.reduceAdd, Nat.reduceDiv, Int.reduceBEq, rules2, rulesX, rowsX, List.map_nil]
/- 40: impl_marked -/
def c_impl_marked : ACode := (.seq (.reg [(none, .mv 6 (KS []))]) (.seq (.seq (.reg [(none, .mv 7 (S 1))]) (.cond (S 7) (.seq (.reg [(none, .mv 8 (S 0)), (none, .bin 9 .add (S 8) (KS [32])), (none, .mv 10 (S 2)), (none, .bin 11 .add (S 9) (S 10)), (none, .mv 6 (S 11))]) .ret) .skip)) (.seq (.reg [(none, .mv 12 (S 0)), (none, .mv 6 (S 12))]) .ret)))
theorem e_impl_marked : entry Tryd.prog 40 = some (c_impl_marked.strip, [6], 13) := by kernel_rfl
theorem w_impl_marked (a0 : List UInt8) (a1 : Bool) (a2 : List UInt8) (r : (List UInt8)) (h : f_impl_marked a0 a1 a2 = some r) : FC Tryd.prog 40 [.sc (.str a0), .sc (.bool a1), .sc (.str a2)] [.sc (.v (.str r))] := by
  unfold f_impl_marked at h
  refine FC_go (σ := ⟨[(0, vc (aS a0)), (1, vc (aB a1)), (2, vc (aS a2))], [], []⟩) mixed e_impl_marked rfl rfl ?_
  simp only [c_impl_marked]
  rcases Bool.eq_false_or_eq_true a1 with hb1 | hb1
  · rw [ite_t hb1] at h
    obtain ⟨hg2, h⟩ := of_guard h
    obtain ⟨hg3, h⟩ := of_guard h
    try simp only [hb1, hg2, hg3, Nat.reduceBEq, Nat.reduceMul, Nat.reduceAdd, Nat.reduceDiv, Int.reduceBEq, rules2, rulesX, rowsX]
    cases h
    exact ⟨⟨rfl, trivial⟩, rfl⟩
  · rw [ite_f hb1] at h
    try simp only [hb1, Nat.reduceBEq, Nat.reduceMul, Nat.reduceAdd, Nat.reduceDiv, Int.reduceBEq, rules2, rulesX, rowsX]
    cases h
    exact ⟨⟨rfl, trivial⟩, rfl⟩
/- 41: impl_FormatInt -/
def c_impl_FormatInt : ACode := (.seq (.reg [(none, .mv 2 (KS []))]) (.seq (.reg [(none, .mv 3 (S 0)), (none, .call 4 69 [(S 3)]), (none, .mv 2 (S 4))]) .ret))
theorem e_impl_FormatInt : entry Tryd.prog 41 = some (c_impl_FormatInt.strip, [2], 5) := by kernel_rfl
theorem w_impl_FormatInt (a0 : Int) (r : (List UInt8)) (h : f_impl_FormatInt a0 = some r) : FC Tryd.prog 41 [.sc (.int .i64 a0)] [.sc (.v (.str r))] := by
  unfold f_impl_FormatInt at h
  refine FC_go (σ := ⟨[(0, vc (aI a0))], [], []⟩) mixed e_impl_FormatInt rfl rfl ?_
  simp only [c_impl_FormatInt]
  obtain ⟨r1, hr1, h⟩ := ob h
  try simp only [Nat.reduceBEq, Nat.reduceMul, Nat.reduceAdd, Nat.reduceDiv, Int.reduceBEq, rules2, rulesX, rowsX]
  refine go_callI (w_strconv_Itoa _ _ hr1) rfl rfl (Nat.le_of_ble_eq_true rfl) ?_
  try simp only [Nat.reduceBEq, Nat.reduceMul, Nat.reduceAdd, Nat.reduceDiv, Int.reduceBEq, rules2, rulesX, rowsX]
  cases h
  exact ⟨⟨rfl, trivial⟩, rfl⟩
/- 42: impl_Join -/
def c_impl_Join : ACode := (.seq (.reg [(none, .mv 4 (KS []))]) (.seq (.reg [(none, .mv 5 (S 0)), (none, .mv 6 (S 1)), (none, .call 7 70 [(S 5), (S 6)]), (none, .mv 4 (S 7))]) .ret))
theorem e_impl_Join : entry Tryd.prog 42 = some (c_impl_Join.strip, [4], 8) := by kernel_rfl
theorem w_impl_Join (a0 : List (List UInt8)) (a1 : List UInt8) (r : (List UInt8)) (h : f_impl_Join a0 a1 = some r) : FC Tryd.prog 42 [.sc (.sl (List.map rS a0)), .sc (.str a1)] [.sc (.v (.str r))] := by
  unfold f_impl_Join at h
  refine FC_go (σ := ⟨[(0, vc (aL (List.map rS a0))), (1, vc (aS a1))], [], []⟩) mixed e_impl_Join rfl rfl ?_
  simp only [c_impl_Join]
  obtain ⟨r1, hr1, h⟩ := ob h
  try simp only [Nat.reduceBEq, Nat.reduceMul, Nat.reduceAdd, Nat.reduceDiv, Int.reduceBEq, rules2, rulesX, rowsX]
  refine go_callI (w_strings_Join _ _ _ hr1) rfl rfl (Nat.le_of_ble_eq_true rfl) ?_
  try simp only [Nat.reduceBEq, Nat.reduceMul, Nat.reduceAdd, Nat.reduceDiv, Int.reduceBEq, rules2, rulesX, rowsX]
  cases h
  exact ⟨⟨rfl, trivial⟩, rfl⟩
/- 10: impl_FormatChart -/
def c_impl_FormatChart_1 : ACode := .seq (.reg [(none, .keep [1, 3, 13, 14, 15] [1] [])]) (.seq (.reg [(none, .bin 16 .lss (S 15) (S 14))]) (.seq (.cond (S 16) .skip (.exit 0)) (.seq (.block 1 (.seq (.reg [(none, .iaddr 17 (S 13) (S 15) 2), (none, .load 18 (S 17) true 2), (none, .alloc 5 [aS [], aB false]), (none, .store (S 5) (S 18) 2)]) (.reg [(none, .mv 19 (S 3)), (none, .faddr 20 (S 5) 0), (none, .load 21 (S 20) false 1), (none, .bin 22 .add (KS [112, 111, 105, 110, 116, 32]) (S 21)), (none, .faddr 23 (S 5) 1), (none, .load 24 (S 23) false 1), (none, .call 25 40 [(S 22), (S 24), (KS [119, 97, 105, 116])]), (none, .bin 26 .add (S 25) (KS [10])), (none, .bin 27 .add (S 19) (S 26)), (none, .mv 3 (S 27))]))) (.reg [(none, .bin 28 .add (S 15) (K 1)), (none, .mv 15 (S 28))]))))
def c_impl_FormatChart_2 : ACode := .seq (.reg [(none, .keep [1, 3, 30, 31, 32] [1] [])]) (.seq (.reg [(none, .bin 33 .lss (S 32) (S 31))]) (.seq (.cond (S 33) .skip (.exit 2)) (.seq (.block 3 (.seq (.reg [(none, .iaddr 34 (S 30) (S 32) 5), (none, .load 35 (S 34) true 5), (none, .alloc 7 [aI 0, aI 0, aI 0, aI 0, aB false]), (none, .store (S 7) (S 35) 5)]) (.seq (.drw [(some [52, 55], (none, .faddr 36 (S 1) 0)), (some [52, 55], (none, .load 37 (S 36) false 1)), (some [52, 55], (none, .faddr 38 (S 7) 0)), (some [52, 55], (none, .load 39 (S 38) false 1)), (some [52, 55], (none, .iaddr 40 (S 37) (S 39) 2)), (some [52, 55], (none, .faddr 41 (S 40) 0)), (some [52, 55], (none, .load 42 (S 41) false 1)), (some [52, 55], (none, .faddr 43 (S 1) 0)), (some [52, 55], (none, .load 44 (S 43) false 1)), (some [52, 55], (none, .faddr 45 (S 7) 1)), (some [52, 55], (none, .load 46 (S 45) false 1)), (some [52, 55], (none, .iaddr 47 (S 44) (S 46) 2)), (some [52, 55], (none, .faddr 48 (S 47) 0)), (some [52, 55], (none, .load 49 (S 48) false 1)), (some [], (none, .faddr 50 (S 7) 2)), (some [], (none, .load 51 (S 50) false 1)), (some [], (none, .call 52 41 [(S 51)])), (some [52], (none, .faddr 53 (S 7) 3)), (some [52], (none, .load 54 (S 53) false 1)), (some [], (none, .call 55 41 [(S 54)])), (some [], (none, .bslice 56 1 [.str []] 5 [(0, (KS [99, 104, 97, 110, 110, 101, 108])), (1, (S 42)), (2, (S 49)), (3, (S 52)), (4, (S 55))])), (some [], (none, .mv 8 (S 56)))]) (.drw [(some [59, 62], (none, .mv 57 (S 3))), (some [], (none, .mv 58 (S 8))), (some [], (none, .call 59 42 [(S 58), (KS [32])])), (some [59], (none, .faddr 60 (S 7) 4)), (some [59], (none, .load 61 (S 60) false 1)), (some [], (none, .call 62 40 [(S 59), (S 61), (KS [109, 101, 101, 116])])), (some [], (none, .bin 63 .add (S 62) (KS [10]))), (some [], (none, .bin 64 .add (S 57) (S 63))), (some [], (none, .mv 3 (S 64)))])))) (.reg [(none, .bin 65 .add (S 32) (K 1)), (none, .mv 32 (S 65))]))))
def c_impl_FormatChart_n2 : ACode := (.seq (.reg [(none, .mv 66 (S 3)), (none, .mv 2 (S 66))]) .ret)
def c_impl_FormatChart_n1 : ACode := (.seq (.seq (.reg [(none, .faddr 29 (S 1) 1), (none, .load 30 (S 29) false 1), (none, .len 31 (S 30)), (none, .mv 32 (K 0))]) (.block 2 (.loop c_impl_FormatChart_2))) c_impl_FormatChart_n2)
def c_impl_FormatChart : ACode := (.seq (.reg [(none, .box 1 (S 0)), (none, .mv 2 (KS []))]) (.seq (.seq (.reg [(none, .load 9 (S 1) true 2), (none, .call 10 15 [(S 9)]), (none, .un 11 .not (S 10))]) (.cond (S 11) (.seq (.reg [(none, .mv 2 (KS []))]) .ret) .skip)) (.seq (.reg [(none, .mv 3 (KS []))]) (.seq (.seq (.reg [(none, .faddr 12 (S 1) 0), (none, .load 13 (S 12) false 1), (none, .len 14 (S 13)), (none, .mv 15 (K 0))]) (.block 0 (.loop c_impl_FormatChart_1))) c_impl_FormatChart_n1))))
theorem w_impl_FormatChart_2 (a0 : XChart) : ∀ (n : Nat) (v12 : List UInt8) (v13 : Int) (r : (List UInt8)), f_impl_FormatChart_2 a0 n v12 v13 = some r → ∀ σ : St, σ.kept [1, 3, 30, 31, 32] [1] [] = ⟨[(1, vc (.pb 1 0)), (3, vc (aS v12)), (30, vc (aL (List.map XSegment.row a0.Segments))), (31, vc (aI (a0.Segments.length : Int))), (32, vc (aI v13))], [(1, [aL (List.map XPoint.row a0.Points), aL (List.map XSegment.row a0.Segments)])], []⟩ → go Tryd.prog (.code (.loop c_impl_FormatChart_2) :: [.blk 2, .code c_impl_FormatChart_n2]) (Ret [2] [.sc (.v (.str r))]) .normal (some σ) := by
  intro n
  induction n with
  | zero => intro _ _ r h; cases h
  | succ n ih =>
    intro v12 v13 r h σ hσ
    rw [f_impl_FormatChart_2] at h
    refine go_round ?_
    rcases Bool.eq_false_or_eq_true (decide (v13 < (a0.Segments.length : Int))) with hb14 | hb14
    · rw [ite_t hb14] at h
      obtain ⟨x15, hx15, h⟩ := ob h
      try simp only [hσ, hb14, hx15, c_impl_FormatChart_2, Nat.reduceBEq, Nat.reduceMul, Nat.reduceAdd, Nat.reduceDiv, Int.reduceBEq, rules2, rulesX, rowsX]
      refine go_al rfl rfl ?_
      try simp only [hb14, hx15, Nat.reduceBEq, Nat.reduceMul, Nat.reduceAdd, Nat.reduceDiv, Int.reduceBEq, rules2, rulesX, rowsX]
      refine go_fr_of rfl ?_
      obtain ⟨x16, hx16, h⟩ := ob h
      obtain ⟨x17, hx17, h⟩ := ob h
      obtain ⟨r18, hr18, h⟩ := ob h
      try simp only [hb14, hx15, hx16, hx17, Nat.reduceBEq, Nat.reduceMul, Nat.reduceAdd, Nat.reduceDiv, Int.reduceBEq, rules2, rulesX, rowsX]
      refine go_dcallI (w_impl_FormatInt _ _ hr18) rfl rfl (Nat.le_of_ble_eq_true rfl) ?_
      obtain ⟨r19, hr19, h⟩ := ob h
      try simp only [hb14, hx15, hx16, hx17, Nat.reduceBEq, Nat.reduceMul, Nat.reduceAdd, Nat.reduceDiv, Int.reduceBEq, rules2, rulesX, rowsX]
      refine go_dcallI (w_impl_FormatInt _ _ hr19) rfl rfl (Nat.le_of_ble_eq_true rfl) ?_
      try simp only [hb14, hx15, hx16, hx17, Nat.reduceBEq, Nat.reduceMul, Nat.reduceAdd, Nat.reduceDiv, Int.reduceBEq, rules2, rulesX, rowsX]
      refine go_bsl (es := List.map rS ([([99, 104, 97, 110, 110, 101, 108] : List UInt8), x16.Name, x17.Name, r18, r19] : List (List UInt8))) rfl rfl ?_
      try simp only [hb14, hx15, hx16, hx17, Nat.reduceBEq, Nat.reduceMul, Nat.reduceAdd, Nat.reduceDiv, Int.reduceBEq, rules2, rulesX, rowsX]
      refine go_fr_of rfl ?_
      obtain ⟨r20, hr20, h⟩ := ob h
      try simp only [hb14, hx15, hx16, hx17, Nat.reduceBEq, Nat.reduceMul, Nat.reduceAdd, Nat.reduceDiv, Int.reduceBEq, rules2, rulesX, rowsX]
      refine go_dcall (w_impl_Join _ _ _ hr20) (by first | rfl | kernel_rfl) (flat_of rfl) rfl (Nat.le_of_ble_eq_true rfl) ?_
      obtain ⟨r21, hr21, h⟩ := ob h
      try simp only [hb14, hx15, hx16, hx17, Nat.reduceBEq, Nat.reduceMul, Nat.reduceAdd, Nat.reduceDiv, Int.reduceBEq, rules2, rulesX, rowsX]
      refine go_dcallI (w_impl_marked _ _ _ _ hr21) rfl rfl (Nat.le_of_ble_eq_true rfl) ?_
      obtain ⟨hg22, h⟩ := of_guard h
      obtain ⟨hg23, h⟩ := of_guard h
      try simp only [hb14, hx15, hx16, hx17, hg22, hg23, Nat.reduceBEq, Nat.reduceMul, Nat.reduceAdd, Nat.reduceDiv, Int.reduceBEq, rules2, rulesX, rowsX]
      refine ih _ _ _ h _ ?_
      try simp only [hb14, hx15, hx16, hx17, hg22, hg23, Nat.reduceBEq, Nat.reduceMul, Nat.reduceAdd, Nat.reduceDiv, Int.reduceBEq, rules2, rulesX, rowsX, List.map_nil]
    · rw [ite_f hb14] at h
      try simp only [hσ, hb14, c_impl_FormatChart_2, c_impl_FormatChart_n2, Nat.reduceBEq, Nat.reduceMul, Nat.reduceAdd, Nat.reduceDiv, Int.reduceBEq, rules2, rulesX, rowsX]
      cases h
      exact ⟨⟨rfl, trivial⟩, rfl⟩
theorem w_impl_FormatChart_1 (a0 : XChart) : ∀ (n : Nat) (v3 : List UInt8) (v4 : Int) (r : (List UInt8)), f_impl_FormatChart_1 a0 n v3 v4 = some r → ∀ σ : St, σ.kept [1, 3, 13, 14, 15] [1] [] = ⟨[(1, vc (.pb 1 0)), (3, vc (aS v3)), (13, vc (aL (List.map XPoint.row a0.Points))), (14, vc (aI (a0.Points.length : Int))), (15, vc (aI v4))], [(1, [aL (List.map XPoint.row a0.Points), aL (List.map XSegment.row a0.Segments)])], []⟩ → go Tryd.prog (.code (.loop c_impl_FormatChart_1) :: [.blk 0, .code c_impl_FormatChart_n1]) (Ret [2] [.sc (.v (.str r))]) .normal (some σ) := by
  intro n
  induction n with
  | zero => intro _ _ r h; cases h
  | succ n ih =>
    intro v3 v4 r h σ hσ
    rw [f_impl_FormatChart_1] at h
    refine go_round ?_
    rcases Bool.eq_false_or_eq_true (decide (v4 < (a0.Points.length : Int))) with hb5 | hb5
    · rw [ite_t hb5] at h
      obtain ⟨x6, hx6, h⟩ := ob h
      try simp only [hσ, hb5, hx6, c_impl_FormatChart_1, Nat.reduceBEq, Nat.reduceMul, Nat.reduceAdd, Nat.reduceDiv, Int.reduceBEq, rules2, rulesX, rowsX]
      refine go_al rfl rfl ?_
      obtain ⟨hg7, h⟩ := of_guard h
      obtain ⟨r9, hr9, h⟩ := ob h
      try simp only [hb5, hx6, hg7, Nat.reduceBEq, Nat.reduceMul, Nat.reduceAdd, Nat.reduceDiv, Int.reduceBEq, rules2, rulesX, rowsX]
      refine go_callI (w_impl_marked _ _ _ _ hr9) rfl rfl (Nat.le_of_ble_eq_true rfl) ?_
      obtain ⟨hg10, h⟩ := of_guard h
      obtain ⟨hg11, h⟩ := of_guard h
      try simp only [hb5, hx6, hg7, hg10, hg11, Nat.reduceBEq, Nat.reduceMul, Nat.reduceAdd, Nat.reduceDiv, Int.reduceBEq, rules2, rulesX, rowsX]
      refine ih _ _ _ h _ ?_
      try simp only [hb5, hx6, hg7, hg10, hg11, Nat.reduceBEq, Nat.reduceMul, Nat.reduceAdd, Nat.reduceDiv, Int.reduceBEq, rules2, rulesX, rowsX, List.map_nil]
    · rw [ite_f hb5] at h
      try simp only [hσ, hb5, c_impl_FormatChart_1, c_impl_FormatChart_n1, Nat.reduceBEq, Nat.reduceMul, Nat.reduceAdd, Nat.reduceDiv, Int.reduceBEq, rules2, rulesX, rowsX]
      refine w_impl_FormatChart_2 _ _ _ _ _ h _ ?_
      try simp only [hb5, Nat.reduceBEq, Nat.reduceMul, Nat.reduceAdd, Nat.reduceDiv, Int.reduceBEq, rules2, rulesX, rowsX, List.map_nil]
theorem e_impl_FormatChart : entry Tryd.prog 10 = some (c_impl_FormatChart.strip, [2], 67) := by kernel_rfl
theorem w_impl_FormatChart (a0 : XChart) (r : (List UInt8)) (h : f_impl_FormatChart a0 = some r) : FC Tryd.prog 10 [.ag (XChart.row a0)] [.sc (.v (.str r))] := by
  unfold f_impl_FormatChart at h
  refine FC_go (σ := ⟨[(0, va [aL (List.map XPoint.row a0.Points), aL (List.map XSegment.row a0.Segments)])], [], []⟩) mixed e_impl_FormatChart rfl rfl ?_
  simp only [c_impl_FormatChart]
  try simp only [Nat.reduceBEq, Nat.reduceMul, Nat.reduceAdd, Nat.reduceDiv, Int.reduceBEq, rules2, rulesX, rowsX]
  refine go_bx rfl rfl rfl ?_
  obtain ⟨r1, hr1, h⟩ := ob h
  try simp only [Nat.reduceBEq, Nat.reduceMul, Nat.reduceAdd, Nat.reduceDiv, Int.reduceBEq, rules2, rulesX, rowsX]
  refine go_callI (w_impl_ChartOk _ _ hr1) rfl rfl (Nat.le_of_ble_eq_true rfl) ?_
  rcases Bool.eq_false_or_eq_true r1 with hb2 | hb2
  · rw [ite_t hb2] at h
    try simp only [hb2, Nat.reduceBEq, Nat.reduceMul, Nat.reduceAdd, Nat.reduceDiv, Int.reduceBEq, rules2, rulesX, rowsX]
    refine w_impl_FormatChart_1 _ _ _ _ _ h _ ?_
    try simp only [hb2, Nat.reduceBEq, Nat.reduceMul, Nat.reduceAdd, Nat.reduceDiv, Int.reduceBEq, rules2, rulesX, rowsX, List.map_nil]
  · rw [ite_f hb2] at h
    try simp only [hb2, Nat.reduceBEq, Nat.reduceMul, Nat.reduceAdd, Nat.reduceDiv, Int.reduceBEq, rules2, rulesX, rowsX]
    cases h
    exact ⟨⟨rfl, trivial⟩, rfl⟩
/- 37: impl_SplitAny -/
def c_impl_SplitAny_2 : ACode := .seq (.reg [(none, .keep [0, 1, 5, 6, 7] [] [512])]) (.reg [(none, .mv 13 (S 7)), (none, .bin 14 .add (S 13) (K 1)), (none, .mv 7 (S 14))])
def c_impl_SplitAny_1 : ACode := .seq (.reg [(none, .keep [0, 1, 5, 6, 7] [] [512])]) (.seq (.seq (.reg [(none, .mv 9 (S 7)), (none, .mv 10 (S 0)), (none, .slen 11 (S 10)), (none, .bin 12 .lss (S 9) (S 11))]) (.cond (S 12) .skip (.exit 0))) (.seq (.block 1 (.seq (.reg [(none, .mv 15 (S 1)), (none, .mv 16 (S 0)), (none, .mv 17 (S 7)), (none, .idx 18 (S 16) (S 17)), (none, .call 19 68 [(S 15), (S 18)]), (none, .bin 20 .geq (S 19) (K 0))]) (.cond (S 20) (.seq (.reg [(none, .mv 21 (S 5)), (none, .mv 22 (S 0)), (none, .mv 23 (S 6)), (none, .mv 24 (S 7)), (none, .sslc 25 (S 22) (some (S 23)) (some (S 24))), (none, .bslice 26 1 [.str []] 1 [(0, (S 25))]), (none, .app 27 1 16 (S 21) (S 26)), (none, .mv 5 (S 27))]) (.reg [(none, .mv 28 (S 7)), (none, .bin 29 .add (S 28) (K 1)), (none, .mv 6 (S 29))])) .skip))) c_impl_SplitAny_2))
def c_impl_SplitAny_n1 : ACode := (.seq (.reg [(none, .mv 30 (S 5)), (none, .mv 31 (S 0)), (none, .mv 32 (S 6)), (none, .sslc 33 (S 31) (some (S 32)) none), (none, .bslice 34 1 [.str []] 1 [(0, (S 33))]), (none, .app 35 1 16 (S 30) (S 34)), (none, .mv 4 (S 35))]) .ret)
def c_impl_SplitAny : ACode := (.seq (.reg [(none, .mv 4 KN)]) (.seq (.reg [(none, .bslice 8 1 [.str []] 0 []), (none, .mv 5 (S 8))]) (.seq (.reg [(none, .mv 6 (K 0))]) (.seq (.seq (.reg [(none, .mv 7 (K 0))]) (.block 0 (.loop c_impl_SplitAny_1))) c_impl_SplitAny_n1))))
theorem w_impl_SplitAny_2 (a0 : List UInt8) (a1 : List UInt8) (v2 : Int) (k_impl_SplitAny_1 : Int → Int → (List (List UInt8)) → Option (List (List UInt8))) (hk_impl_SplitAny_1 : ∀ (v1 : Int) (v2 : Int) (v3 : List (List UInt8)) zr, k_impl_SplitAny_1 v1 v2 v3 = some zr → ∀ σ : St, σ.kept [0, 1, 5, 6, 7] [] [512] = ⟨[(0, vc (aS a0)), (1, vc (aS a1)), (5, vc (.own 512)), (6, vc (aI v1)), (7, vc (aI v2))], [], [(512, 1, List.map rS v3)]⟩ → go Tryd.prog (.code (.loop c_impl_SplitAny_1) :: [.blk 0, .code c_impl_SplitAny_n1]) (Ret [4] [.sc (.o 1 (List.map rS zr))]) .normal (some σ)) (v10 : Int) (v11 : List (List UInt8)) (r : (List (List UInt8))) (h : f_impl_SplitAny_2 a0 a1 v2 k_impl_SplitAny_1 v10 v11 = some r) (σ : St) (hσ : σ.kept [0, 1, 5, 6, 7] [] [512] = ⟨[(0, vc (aS a0)), (1, vc (aS a1)), (5, vc (.own 512)), (6, vc (aI v10)), (7, vc (aI v2))], [], [(512, 1, List.map rS v11)]⟩) : go Tryd.prog (.code c_impl_SplitAny_2 :: [.code (.loop c_impl_SplitAny_1), .blk 0, .code c_impl_SplitAny_n1]) (Ret [4] [.sc (.o 1 (List.map rS r))]) .normal (some σ) := by
  unfold f_impl_SplitAny_2 at h
  try simp only [hσ, c_impl_SplitAny_2, Nat.reduceBEq, Nat.reduceMul, Nat.reduceAdd, Nat.reduceDiv, Int.reduceBEq, rules2, rulesX, rowsX]
  refine hk_impl_SplitAny_1 _ _ _ _ h _ ?_
  try simp only [Nat.reduceBEq, Nat.reduceMul, Nat.reduceAdd, Nat.reduceDiv, Int.reduceBEq, rules2, rulesX, rowsX, List.map_nil]
theorem w_impl_SplitAny_1 (a0 : List UInt8) (a1 : List UInt8) : ∀ (n : Nat) (v1 : Int) (v2 : Int) (v3 : List (List UInt8)) (r : (List (List UInt8))), f_impl_SplitAny_1 a0 a1 n v1 v2 v3 = some r → ∀ σ : St, σ.kept [0, 1, 5, 6, 7] [] [512] = ⟨[(0, vc (aS a0)), (1, vc (aS a1)), (5, vc (.own 512)), (6, vc (aI v1)), (7, vc (aI v2))], [], [(512, 1, List.map rS v3)]⟩ → go Tryd.prog (.code (.loop c_impl_SplitAny_1) :: [.blk 0, .code c_impl_SplitAny_n1]) (Ret [4] [.sc (.o 1 (List.map rS r))]) .normal (some σ) := by
  intro n
  induction n with
  | zero => intro _ _ _ r h; cases h
  | succ n ih =>
    intro v1 v2 v3 r h σ hσ
    rw [f_impl_SplitAny_1] at h
    refine go_round ?_
    rcases Bool.eq_false_or_eq_true (decide (v2 < (a0.length : Int))) with hb4 | hb4
    · rw [ite_t hb4] at h
      obtain ⟨b5, hb5, h⟩ := ob h
      obtain ⟨r6, hr6, h⟩ := ob h
      try simp only [hσ, hb4, hb5, c_impl_SplitAny_1, Nat.reduceBEq, Nat.reduceMul, Nat.reduceAdd, Nat.reduceDiv, Int.reduceBEq, rules2, rulesX, rowsX]
      refine go_callI (w_strings_IndexByte _ _ _ hr6) rfl rfl (Nat.le_of_ble_eq_true rfl) ?_
      rcases Bool.eq_false_or_eq_true (decide ((0 : Int) ≤ r6)) with hb7 | hb7
      · rw [ite_t hb7] at h
        obtain ⟨p8, hp8, h⟩ := ob h
        try simp only [hb4, hb5, hb7, hp8, Nat.reduceBEq, Nat.reduceMul, Nat.reduceAdd, Nat.reduceDiv, Int.reduceBEq, rules2, rulesX, rowsX]
        refine go_bsl (es := List.map rS ([((a0.drop p8.1).take (p8.2 - p8.1))] : List (List UInt8))) rfl rfl ?_
        obtain ⟨hg9, h⟩ := of_guard h
        try simp only [hb4, hb5, hb7, hp8, hg9, Nat.reduceBEq, Nat.reduceMul, Nat.reduceAdd, Nat.reduceDiv, Int.reduceBEq, rules2, rulesX, rowsX]
        refine w_impl_SplitAny_2 _ _ _ (f_impl_SplitAny_1 a0 a1 n) ih _ _ _ h _ ?_
        try simp only [hb4, hb5, hb7, hp8, hg9, Nat.reduceBEq, Nat.reduceMul, Nat.reduceAdd, Nat.reduceDiv, Int.reduceBEq, rules2, rulesX, rowsX, List.map_nil]
      · rw [ite_f hb7] at h
        try simp only [hb4, hb5, hb7, Nat.reduceBEq, Nat.reduceMul, Nat.reduceAdd, Nat.reduceDiv, Int.reduceBEq, rules2, rulesX, rowsX]
        refine w_impl_SplitAny_2 _ _ _ (f_impl_SplitAny_1 a0 a1 n) ih _ _ _ h _ ?_
        try simp only [hb4, hb5, hb7, Nat.reduceBEq, Nat.reduceMul, Nat.reduceAdd, Nat.reduceDiv, Int.reduceBEq, rules2, rulesX, rowsX, List.map_nil]
    · rw [ite_f hb4] at h
      obtain ⟨p12, hp12, h⟩ := ob h
      try simp only [hσ, hb4, hp12, c_impl_SplitAny_1, c_impl_SplitAny_n1, Nat.reduceBEq, Nat.reduceMul, Nat.reduceAdd, Nat.reduceDiv, Int.reduceBEq, rules2, rulesX, rowsX]
      refine go_bsl (es := List.map rS ([((a0.drop p12.1).take (p12.2 - p12.1))] : List (List UInt8))) rfl rfl ?_
      obtain ⟨hg13, h⟩ := of_guard h
      try simp only [hb4, hp12, hg13, Nat.reduceBEq, Nat.reduceMul, Nat.reduceAdd, Nat.reduceDiv, Int.reduceBEq, rules2, rulesX, rowsX]
      cases h
      exact ⟨⟨rfl, trivial⟩, rfl⟩
theorem e_impl_SplitAny : entry Tryd.prog 37 = some (c_impl_SplitAny.strip, [4], 36) := by kernel_rfl
theorem w_impl_SplitAny (a0 : List UInt8) (a1 : List UInt8) (r : (List (List UInt8))) (h : f_impl_SplitAny a0 a1 = some r) : FC Tryd.prog 37 [.sc (.str a0), .sc (.str a1)] [.sc (.o 1 (List.map rS r))] := by
  unfold f_impl_SplitAny at h
  refine FC_go (σ := ⟨[(0, vc (aS a0)), (1, vc (aS a1))], [], []⟩) mixed e_impl_SplitAny rfl rfl ?_
  simp only [c_impl_SplitAny]
  try simp only [Nat.reduceBEq, Nat.reduceMul, Nat.reduceAdd, Nat.reduceDiv, Int.reduceBEq, rules2, rulesX, rowsX]
  refine go_bsl (es := List.map rS ([] : List (List UInt8))) rfl rfl ?_
  try simp only [Nat.reduceBEq, Nat.reduceMul, Nat.reduceAdd, Nat.reduceDiv, Int.reduceBEq, rules2, rulesX, rowsX]
  refine w_impl_SplitAny_1 _ _ _ _ _ _ _ h _ ?_
  try simp only [Nat.reduceBEq, Nat.reduceMul, Nat.reduceAdd, Nat.reduceDiv, Int.reduceBEq, rules2, rulesX, rowsX, List.map_nil]
/- 36: impl_SplitLines -/
def c_impl_SplitLines : ACode := (.seq (.reg [(none, .mv 2 KN)]) (.seq (.reg [(none, .mv 4 (S 0)), (none, .call 5 37 [(S 4), (KS [10])]), (none, .frz 320), (none, .mv 3 (S 5))]) (.seq (.seq (.reg [(none, .mv 6 (S 3)), (none, .mv 7 (S 3)), (none, .len 8 (S 7)), (none, .bin 9 .sub (S 8) (K 1)), (none, .iaddr 10 (S 6) (S 9) 1), (none, .load 11 (S 10) false 1), (none, .bin 12 .eql (S 11) (KS []))]) (.cond (S 12) (.reg [(none, .mv 13 (S 3)), (none, .mv 14 (S 3)), (none, .len 15 (S 14)), (none, .bin 16 .sub (S 15) (K 1)), (none, .slc 17 1 (S 13) none (some (S 16)) none), (none, .mv 3 (S 17))]) .skip)) (.seq (.reg [(none, .mv 18 (S 3)), (none, .mv 2 (S 18))]) .ret))))
theorem e_impl_SplitLines : entry Tryd.prog 36 = some (c_impl_SplitLines.strip, [2], 19) := by kernel_rfl
theorem w_impl_SplitLines (a0 : List UInt8) (r : (List (List UInt8))) (h : f_impl_SplitLines a0 = some r) : FC Tryd.prog 36 [.sc (.str a0)] [.sc (.v (.sl (List.map rS r)))] := by
  unfold f_impl_SplitLines at h
  refine FC_go (σ := ⟨[(0, vc (aS a0))], [], []⟩) mixed e_impl_SplitLines rfl rfl ?_
  simp only [c_impl_SplitLines]
  obtain ⟨r1, hr1, h⟩ := ob h
  try simp only [Nat.reduceBEq, Nat.reduceMul, Nat.reduceAdd, Nat.reduceDiv, Int.reduceBEq, rules2, rulesX, rowsX]
  refine go_callI (w_impl_SplitAny _ _ _ hr1) rfl rfl (Nat.le_of_ble_eq_true rfl) ?_
  try simp only [Nat.reduceBEq, Nat.reduceMul, Nat.reduceAdd, Nat.reduceDiv, Int.reduceBEq, rules2, rulesX, rowsX]
  refine go_frz' rfl ?_
  obtain ⟨x2, hx2, h⟩ := ob h
  rcases Bool.eq_false_or_eq_true (x2 == ([] : List UInt8)) with hb3 | hb3
  · rw [ite_t hb3] at h
    obtain ⟨p4, hp4, h⟩ := ob h
    try simp only [hx2, hb3, hp4, Nat.reduceBEq, Nat.reduceMul, Nat.reduceAdd, Nat.reduceDiv, Int.reduceBEq, rules2, rulesX, rowsX]
    cases h
    exact ⟨⟨rfl, trivial⟩, rfl⟩
  · rw [ite_f hb3] at h
    try simp only [hx2, hb3, Nat.reduceBEq, Nat.reduceMul, Nat.reduceAdd, Nat.reduceDiv, Int.reduceBEq, rules2, rulesX, rowsX]
    cases h
    exact ⟨⟨rfl, trivial⟩, rfl⟩
/- 38: impl_pointOf -/
def c_impl_pointOf_1 : ACode := .seq (.reg [(none, .keep [0, 2, 4, 28] [2] [])]) (.cond (S 28) (.seq (.reg [(none, .build 29 [aS [], aB false] []), (none, .store (S 2) (S 29) 2), (none, .mv 3 (KB false))]) .ret) .skip)
def c_impl_pointOf_n1 : ACode := (.seq (.reg [(none, .mv 30 (S 0)), (none, .iaddr 31 (S 30) (K 1) 1), (none, .load 32 (S 31) false 1), (none, .mv 33 (S 4)), (none, .bin 34 .eql (S 33) (K 3)), (none, .build 35 [aS [], aB false] [(0, 1, (S 32)), (1, 1, (S 34))]), (none, .store (S 2) (S 35) 2), (none, .mv 3 (KB true))]) .ret)
def c_impl_pointOf : ACode := (.seq (.reg [(none, .alloc 2 [aS [], aB false]), (none, .mv 3 (KB false))]) (.seq (.reg [(none, .mv 5 (S 0)), (none, .len 6 (S 5)), (none, .mv 4 (S 6))]) (.seq (.seq (.reg [(none, .mv 7 (S 4)), (none, .bin 8 .lss (S 7) (K 2)), (none, .mv 9 (S 8)), (some (9, false), .mv 10 (S 4)), (some (9, false), .bin 11 .gtr (S 10) (K 3)), (none, .pick 12 (S 9) (KB true) (S 11)), (none, .mv 13 (S 12)), (some (13, false), .mv 14 (S 0)), (some (13, false), .iaddr 15 (S 14) (K 0) 1), (some (13, false), .load 16 (S 15) false 1), (some (13, false), .bin 17 .neq (S 16) (KS [112, 111, 105, 110, 116])), (none, .pick 18 (S 13) (KB true) (S 17)), (none, .mv 19 (S 18)), (some (19, false), .mv 20 (S 4)), (some (19, false), .bin 21 .eql (S 20) (K 3)), (some (19, false), .mv 22 (S 21)), (some (22, true), .mv 23 (S 0)), (some (22, true), .iaddr 24 (S 23) (K 2) 1), (some (22, true), .load 25 (S 24) false 1), (some (22, true), .bin 26 .neq (S 25) (KS [119, 97, 105, 116])), (some (19, false), .pick 27 (S 22) (S 26) (KB false)), (none, .pick 28 (S 19) (KB true) (S 27))]) c_impl_pointOf_1) c_impl_pointOf_n1)))
theorem w_impl_pointOf_1 (a0 : List (List UInt8)) (v7 : Bool) (r : XPoint × Bool) (h : f_impl_pointOf_1 a0 v7 = some r) (σ : St) (hσ : σ.kept [0, 2, 4, 28] [2] [] = ⟨[(0, vc (aL (List.map rS a0))), (2, vc (.pb 2 0)), (4, vc (aI (a0.length : Int))), (28, vc (aB v7))], [(2, [aS ([] : List UInt8), aB false])], []⟩) : go Tryd.prog (.code c_impl_pointOf_1 :: [.code c_impl_pointOf_n1]) (Ret [.c 2 true 2, 3] [.ag [.v (.str r.1.Name), .v (.bool r.1.Wait)], .sc (.v (.bool r.2))]) .normal (some σ) := by
  unfold f_impl_pointOf_1 at h
  rcases Bool.eq_false_or_eq_true v7 with hb8 | hb8
  · rw [ite_t hb8] at h
    try simp only [hσ, hb8, c_impl_pointOf_1, Nat.reduceBEq, Nat.reduceMul, Nat.reduceAdd, Nat.reduceDiv, Int.reduceBEq, rules2, rulesX, rowsX]
    cases h
    try simp only [rulesR, Nat.reduceBEq, Nat.reduceMul, Nat.reduceAdd, Nat.reduceDiv, Int.reduceBEq, rules2, rulesX, rowsX]
    exact ⟨⟨⟨rfl, rfl, trivial⟩, rfl, trivial⟩, rfl⟩
  · rw [ite_f hb8] at h
    obtain ⟨x9, hx9, h⟩ := ob h
    try simp only [hσ, hb8, hx9, c_impl_pointOf_1, c_impl_pointOf_n1, Nat.reduceBEq, Nat.reduceMul, Nat.reduceAdd, Nat.reduceDiv, Int.reduceBEq, rules2, rulesX, rowsX]
    cases h
    try simp only [rulesR, Nat.reduceBEq, Nat.reduceMul, Nat.reduceAdd, Nat.reduceDiv, Int.reduceBEq, rules2, rulesX, rowsX]
    exact ⟨⟨⟨rfl, rfl, trivial⟩, rfl, trivial⟩, rfl⟩
theorem e_impl_pointOf : entry Tryd.prog 38 = some (c_impl_pointOf.strip, [.c 2 true 2, 3], 36) := by kernel_rfl
theorem w_impl_pointOf (a0 : List (List UInt8)) (r : XPoint × Bool) (h : f_impl_pointOf a0 = some r) : FC Tryd.prog 38 [.sc (.sl (List.map rS a0))] [.ag [.v (.str r.1.Name), .v (.bool r.1.Wait)], .sc (.v (.bool r.2))] := by
  unfold f_impl_pointOf at h
  refine FC_go (σ := ⟨[(0, vc (aL (List.map rS a0)))], [], []⟩) mixed e_impl_pointOf rfl rfl ?_
  simp only [c_impl_pointOf]
  try simp only [Nat.reduceBEq, Nat.reduceMul, Nat.reduceAdd, Nat.reduceDiv, Int.reduceBEq, rules2, rulesX, rowsX]
  refine go_al rfl rfl ?_
  rcases Bool.eq_false_or_eq_true (decide ((a0.length : Int) < (2 : Int))) with hb1 | hb1
  · rw [ite_t hb1] at h
    try simp only [hb1, Nat.reduceBEq, Nat.reduceMul, Nat.reduceAdd, Nat.reduceDiv, Int.reduceBEq, rules2, rulesX, rowsX]
    refine w_impl_pointOf_1 _ _ _ h _ ?_
    try simp only [hb1, Nat.reduceBEq, Nat.reduceMul, Nat.reduceAdd, Nat.reduceDiv, Int.reduceBEq, rules2, rulesX, rowsX, List.map_nil]
  · rw [ite_f hb1] at h
    rcases Bool.eq_false_or_eq_true (decide ((3 : Int) < (a0.length : Int))) with hb2 | hb2
    · rw [ite_t hb2] at h
      try simp only [hb1, hb2, Nat.reduceBEq, Nat.reduceMul, Nat.reduceAdd, Nat.reduceDiv, Int.reduceBEq, rules2, rulesX, rowsX]
      refine w_impl_pointOf_1 _ _ _ h _ ?_
      try simp only [hb1, hb2, Nat.reduceBEq, Nat.reduceMul, Nat.reduceAdd, Nat.reduceDiv, Int.reduceBEq, rules2, rulesX, rowsX, List.map_nil]
    · rw [ite_f hb2] at h
      obtain ⟨x3, hx3, h⟩ := ob h
      rcases Bool.eq_false_or_eq_true (x3 == ([112, 111, 105, 110, 116] : List UInt8)) with hb4 | hb4
      · rw [ite_t hb4] at h
        rcases Bool.eq_false_or_eq_true ((a0.length : Int) == (3 : Int)) with hb5 | hb5
        · rw [ite_t hb5] at h
          obtain ⟨x6, hx6, h⟩ := ob h
          try simp only [hb1, hb2, hx3, hb4, hb5, hx6, Nat.reduceBEq, Nat.reduceMul, Nat.reduceAdd, Nat.reduceDiv, Int.reduceBEq, rules2, rulesX, rowsX]
          refine w_impl_pointOf_1 _ _ _ h _ ?_
          try simp only [hb1, hb2, hx3, hb4, hb5, hx6, Nat.reduceBEq, Nat.reduceMul, Nat.reduceAdd, Nat.reduceDiv, Int.reduceBEq, rules2, rulesX, rowsX, List.map_nil]
        · rw [ite_f hb5] at h
          try simp only [hb1, hb2, hx3, hb4, hb5, Nat.reduceBEq, Nat.reduceMul, Nat.reduceAdd, Nat.reduceDiv, Int.reduceBEq, rules2, rulesX, rowsX]
          refine w_impl_pointOf_1 _ _ _ h _ ?_
          try simp only [hb1, hb2, hx3, hb4, hb5, Nat.reduceBEq, Nat.reduceMul, Nat.reduceAdd, Nat.reduceDiv, Int.reduceBEq, rules2, rulesX, rowsX, List.map_nil]
      · rw [ite_f hb4] at h
        try simp only [hb1, hb2, hx3, hb4, Nat.reduceBEq, Nat.reduceMul, Nat.reduceAdd, Nat.reduceDiv, Int.reduceBEq, rules2, rulesX, rowsX]
        refine w_impl_pointOf_1 _ _ _ h _ ?_
        try simp only [hb1, hb2, hx3, hb4, Nat.reduceBEq, Nat.reduceMul, Nat.reduceAdd, Nat.reduceDiv, Int.reduceBEq, rules2, rulesX, rowsX, List.map_nil]
/- 43: impl_parseNumbers -/
def c_impl_parseNumbers_1 : ACode := .seq (.reg [(none, .keep [4, 10, 11, 12] [] [576])]) (.seq (.reg [(none, .bin 13 .lss (S 12) (S 11))]) (.seq (.cond (S 13) .skip (.exit 0)) (.seq (.block 1 (.seq (.reg [(none, .iaddr 14 (S 10) (S 12) 1), (none, .load 15 (S 14) false 1), (none, .mv 6 (S 15))]) (.seq (.reg [(none, .mv 17 (S 6)), (none, .call 18 71 [(S 17)]), (none, .mv 16 (S 18)), (none, .extr 19 (S 16) 0), (none, .extr 20 (S 16) 1), (none, .mv 7 (S 19)), (none, .mv 8 (S 20))]) (.seq (.seq (.reg [(none, .mv 21 (S 8)), (none, .un 22 .not (S 21))]) (.cond (S 22) (.seq (.reg [(none, .mv 2 KN), (none, .mv 3 (KB false))]) .ret) .skip)) (.reg [(none, .mv 23 (S 4)), (none, .mv 24 (S 7)), (none, .bslice 25 1 [.int .i64 0] 1 [(0, (S 24))]), (none, .app 26 1 8 (S 23) (S 25)), (none, .mv 4 (S 26))]))))) (.reg [(none, .bin 27 .add (S 12) (K 1)), (none, .mv 12 (S 27))]))))
def c_impl_parseNumbers_n1 : ACode := (.seq (.reg [(none, .mv 28 (S 4)), (none, .mv 2 (S 28)), (none, .mv 3 (KB true))]) .ret)
def c_impl_parseNumbers : ACode := (.seq (.reg [(none, .mv 2 KN), (none, .mv 3 (KB false))]) (.seq (.reg [(none, .bslice 9 1 [.int .i64 0] 0 []), (none, .mv 4 (S 9))]) (.seq (.seq (.reg [(none, .mv 10 (S 0)), (none, .len 11 (S 10)), (none, .mv 12 (K 0))]) (.block 0 (.loop c_impl_parseNumbers_1))) c_impl_parseNumbers_n1)))
theorem w_impl_parseNumbers_1 (a0 : List (List UInt8)) : ∀ (n : Nat) (v1 : Int) (v2 : List Int) (r : (List Int) × Bool), f_impl_parseNumbers_1 a0 n v1 v2 = some r → ∀ σ : St, σ.kept [4, 10, 11, 12] [] [576] = ⟨[(4, vc (.own 576)), (10, vc (aL (List.map rS a0))), (11, vc (aI (a0.length : Int))), (12, vc (aI v1))], [], [(576, 1, List.map rI v2)]⟩ → go Tryd.prog (.code (.loop c_impl_parseNumbers_1) :: [.blk 0, .code c_impl_parseNumbers_n1]) (Ret [2, 3] [.sc (.o 1 (List.map rI r.1)), .sc (.v (.bool r.2))]) .normal (some σ) := by
  intro n
  induction n with
  | zero => intro _ _ r h; cases h
  | succ n ih =>
    intro v1 v2 r h σ hσ
    rw [f_impl_parseNumbers_1] at h
    refine go_round ?_
    rcases Bool.eq_false_or_eq_true (decide (v1 < (a0.length : Int))) with hb3 | hb3
    · rw [ite_t hb3] at h
      obtain ⟨x4, hx4, h⟩ := ob h
      obtain ⟨r5, hr5, h⟩ := ob h
      try simp only [hσ, hb3, hx4, c_impl_parseNumbers_1, Nat.reduceBEq, Nat.reduceMul, Nat.reduceAdd, Nat.reduceDiv, Int.reduceBEq, rules2, rulesX, rowsX]
      refine go_callI (w_impl_ParseInt _ _ hr5) rfl rfl (Nat.le_of_ble_eq_true rfl) ?_
      rcases Bool.eq_false_or_eq_true r5.2 with hb6 | hb6
      · rw [ite_t hb6] at h
        try simp only [hb3, hx4, hb6, Nat.reduceBEq, Nat.reduceMul, Nat.reduceAdd, Nat.reduceDiv, Int.reduceBEq, rules2, rulesX, rowsX]
        refine go_bsl (es := List.map rI ([r5.1] : List Int)) rfl rfl ?_
        obtain ⟨hg7, h⟩ := of_guard h
        try simp only [hb3, hx4, hb6, hg7, Nat.reduceBEq, Nat.reduceMul, Nat.reduceAdd, Nat.reduceDiv, Int.reduceBEq, rules2, rulesX, rowsX]
        refine ih _ _ _ h _ ?_
        try simp only [hb3, hx4, hb6, hg7, Nat.reduceBEq, Nat.reduceMul, Nat.reduceAdd, Nat.reduceDiv, Int.reduceBEq, rules2, rulesX, rowsX, List.map_nil]
      · rw [ite_f hb6] at h
        try simp only [hb3, hx4, hb6, Nat.reduceBEq, Nat.reduceMul, Nat.reduceAdd, Nat.reduceDiv, Int.reduceBEq, rules2, rulesX, rowsX]
        cases h
        exact ⟨⟨rfl, rfl, trivial⟩, rfl⟩
    · rw [ite_f hb3] at h
      try simp only [hσ, hb3, c_impl_parseNumbers_1, c_impl_parseNumbers_n1, Nat.reduceBEq, Nat.reduceMul, Nat.reduceAdd, Nat.reduceDiv, Int.reduceBEq, rules2, rulesX, rowsX]
      cases h
      exact ⟨⟨rfl, rfl, trivial⟩, rfl⟩
theorem e_impl_parseNumbers : entry Tryd.prog 43 = some (c_impl_parseNumbers.strip, [2, 3], 29) := by kernel_rfl
theorem w_impl_parseNumbers (a0 : List (List UInt8)) (r : (List Int) × Bool) (h : f_impl_parseNumbers a0 = some r) : FC Tryd.prog 43 [.sc (.sl (List.map rS a0))] [.sc (.o 1 (List.map rI r.1)), .sc (.v (.bool r.2))] := by
  unfold f_impl_parseNumbers at h
  refine FC_go (σ := ⟨[(0, vc (aL (List.map rS a0)))], [], []⟩) mixed e_impl_parseNumbers rfl rfl ?_
  simp only [c_impl_parseNumbers]
  try simp only [Nat.reduceBEq, Nat.reduceMul, Nat.reduceAdd, Nat.reduceDiv, Int.reduceBEq, rules2, rulesX, rowsX]
  refine go_bsl (es := List.map rI ([] : List Int)) rfl rfl ?_
  try simp only [Nat.reduceBEq, Nat.reduceMul, Nat.reduceAdd, Nat.reduceDiv, Int.reduceBEq, rules2, rulesX, rowsX]
  refine w_impl_parseNumbers_1 _ _ _ _ _ h _ ?_
  try simp only [Nat.reduceBEq, Nat.reduceMul, Nat.reduceAdd, Nat.reduceDiv, Int.reduceBEq, rules2, rulesX, rowsX, List.map_nil]
/- 39: impl_segmentOf -/
def c_impl_segmentOf_1 : ACode := .seq (.reg [(none, .keep [1, 2, 4, 6, 32] [2, 4] [])]) (.cond (S 32) (.seq (.reg [(none, .build 33 [aI 0, aI 0, aI 0, aI 0, aB false] []), (none, .store (S 4) (S 33) 5), (none, .mv 5 (KB false))]) .ret) .skip)
def c_impl_segmentOf_n1 : ACode := (.seq (.reg [(none, .mv 35 (S 1)), (none, .slc 36 1 (S 35) (some (K 3)) (some (K 5)) (some (K 5))), (none, .call 37 43 [(S 36)]), (none, .mv 34 (S 37)), (none, .extr 38 (S 34) 0), (none, .extr 39 (S 34) 1), (none, .mv 7 (S 38)), (none, .mv 8 (S 39))]) (.seq (.seq (.reg [(none, .mv 40 (S 8)), (none, .un 41 .not (S 40))]) (.cond (S 41) (.seq (.reg [(none, .build 42 [aI 0, aI 0, aI 0, aI 0, aB false] []), (none, .store (S 4) (S 42) 5), (none, .mv 5 (KB false))]) .ret) .skip)) (.seq (.drw [(some [], (none, .load 43 (S 2) true 2)), (some [], (none, .mv 44 (S 1))), (some [], (none, .iaddr 45 (S 44) (K 1) 1)), (some [], (none, .load 46 (S 45) false 1)), (some [], (none, .call 47 46 [(S 43), (S 46)])), (some [47], (none, .load 48 (S 2) true 2)), (some [47], (none, .mv 49 (S 1))), (some [47], (none, .iaddr 50 (S 49) (K 2) 1)), (some [47], (none, .load 51 (S 50) false 1)), (some [], (none, .call 52 46 [(S 48), (S 51)])), (some [47, 52], (none, .mv 53 (S 7))), (some [47, 52], (none, .iaddr 54 (S 53) (K 0) 1)), (some [47, 52], (none, .load 55 (S 54) false 1)), (some [47, 52], (none, .mv 56 (S 7))), (some [47, 52], (none, .iaddr 57 (S 56) (K 1) 1)), (some [47, 52], (none, .load 58 (S 57) false 1)), (some [47, 52], (none, .mv 59 (S 6))), (some [47, 52], (none, .bin 60 .eql (S 59) (K 6))), (some [], (none, .build 61 [aI 0, aI 0, aI 0, aI 0, aB false] [(0, 1, (S 47)), (1, 1, (S 52)), (2, 1, (S 55)), (3, 1, (S 58)), (4, 1, (S 60))])), (none, (none, .store (S 4) (S 61) 5)), (some [], (none, .mv 5 (KB true)))]) .ret)))
def c_impl_segmentOf : ACode := (.seq (.reg [(none, .box 2 (S 0)), (none, .alloc 4 [aI 0, aI 0, aI 0, aI 0, aB false]), (none, .mv 5 (KB false))]) (.seq (.reg [(none, .mv 9 (S 1)), (none, .len 10 (S 9)), (none, .mv 6 (S 10))]) (.seq (.seq (.reg [(none, .mv 11 (S 6)), (none, .bin 12 .lss (S 11) (K 5)), (none, .mv 13 (S 12)), (some (13, false), .mv 14 (S 6)), (some (13, false), .bin 15 .gtr (S 14) (K 6)), (none, .pick 16 (S 13) (KB true) (S 15)), (none, .mv 17 (S 16)), (some (17, false), .mv 18 (S 1)), (some (17, false), .iaddr 19 (S 18) (K 0) 1), (some (17, false), .load 20 (S 19) false 1), (some (17, false), .bin 21 .neq (S 20) (KS [99, 104, 97, 110, 110, 101, 108])), (none, .pick 22 (S 17) (KB true) (S 21)), (none, .mv 23 (S 22)), (some (23, false), .mv 24 (S 6)), (some (23, false), .bin 25 .eql (S 24) (K 6)), (some (23, false), .mv 26 (S 25)), (some (26, true), .mv 27 (S 1)), (some (26, true), .iaddr 28 (S 27) (K 5) 1), (some (26, true), .load 29 (S 28) false 1), (some (26, true), .bin 30 .neq (S 29) (KS [109, 101, 101, 116])), (some (23, false), .pick 31 (S 26) (S 30) (KB false)), (none, .pick 32 (S 23) (KB true) (S 31))]) c_impl_segmentOf_1) c_impl_segmentOf_n1)))
theorem w_impl_segmentOf_1 (a1 : List (List UInt8)) (a0 : XChart) (v7 : Bool) (r : XSegment × Bool) (h : f_impl_segmentOf_1 a1 a0 v7 = some r) (σ : St) (hσ : σ.kept [1, 2, 4, 6, 32] [2, 4] [] = ⟨[(1, vc (aL (List.map rS a1))), (2, vc (.pb 2 0)), (4, vc (.pb 4 0)), (6, vc (aI (a1.length : Int))), (32, vc (aB v7))], [(2, [aL (List.map XPoint.row a0.Points), aL (List.map XSegment.row a0.Segments)]), (4, [aI (0 : Int), aI (0 : Int), aI (0 : Int), aI (0 : Int), aB false])], []⟩) : go Tryd.prog (.code c_impl_segmentOf_1 :: [.code c_impl_segmentOf_n1]) (Ret [.c 4 true 5, 5] [.ag [.v (.int .i64 r.1.A), .v (.int .i64 r.1.B), .v (.int .i64 r.1.Depth), .v (.int .i64 r.1.Minutes), .v (.bool r.1.Meet)], .sc (.v (.bool r.2))]) .normal (some σ) := by
  unfold f_impl_segmentOf_1 at h
  rcases Bool.eq_false_or_eq_true v7 with hb8 | hb8
  · rw [ite_t hb8] at h
    try simp only [hσ, hb8, c_impl_segmentOf_1, Nat.reduceBEq, Nat.reduceMul, Nat.reduceAdd, Nat.reduceDiv, Int.reduceBEq, rules2, rulesX, rowsX]
    cases h
    try simp only [rulesR, Nat.reduceBEq, Nat.reduceMul, Nat.reduceAdd, Nat.reduceDiv, Int.reduceBEq, rules2, rulesX, rowsX]
    exact ⟨⟨⟨rfl, rfl, rfl, rfl, rfl, trivial⟩, rfl, trivial⟩, rfl⟩
  · rw [ite_f hb8] at h
    obtain ⟨p9, hp9, h⟩ := ob h
    obtain ⟨r10, hr10, h⟩ := ob h
    try simp only [hσ, hb8, hp9, c_impl_segmentOf_1, c_impl_segmentOf_n1, Nat.reduceBEq, Nat.reduceMul, Nat.reduceAdd, Nat.reduceDiv, Int.reduceBEq, rules2, rulesX, rowsX]
    refine go_callI (w_impl_parseNumbers _ _ hr10) rfl rfl (Nat.le_of_ble_eq_true rfl) ?_
    rcases Bool.eq_false_or_eq_true r10.2 with hb11 | hb11
    · rw [ite_t hb11] at h
      try simp only [hb8, hp9, hb11, Nat.reduceBEq, Nat.reduceMul, Nat.reduceAdd, Nat.reduceDiv, Int.reduceBEq, rules2, rulesX, rowsX]
      refine go_fr_of rfl ?_
      obtain ⟨x12, hx12, h⟩ := ob h
      obtain ⟨r13, hr13, h⟩ := ob h
      try simp only [hb8, hp9, hb11, hx12, Nat.reduceBEq, Nat.reduceMul, Nat.reduceAdd, Nat.reduceDiv, Int.reduceBEq, rules2, rulesX, rowsX]
      refine go_dcallI (w_impl_PointNamed _ _ _ hr13) rfl rfl (Nat.le_of_ble_eq_true rfl) ?_
      obtain ⟨x14, hx14, h⟩ := ob h
      obtain ⟨r15, hr15, h⟩ := ob h
      try simp only [hb8, hp9, hb11, hx12, hx14, Nat.reduceBEq, Nat.reduceMul, Nat.reduceAdd, Nat.reduceDiv, Int.reduceBEq, rules2, rulesX, rowsX]
      refine go_dcallI (w_impl_PointNamed _ _ _ hr15) rfl rfl (Nat.le_of_ble_eq_true rfl) ?_
      obtain ⟨x16, hx16, h⟩ := ob h
      have hx16n := ix_get hx16
      obtain ⟨x17, hx17, h⟩ := ob h
      have hx17n := ix_get hx17
      try simp only [hb8, hp9, hb11, hx12, hx14, hx16, hx16n, hx17, hx17n, Nat.reduceBEq, Nat.reduceMul, Nat.reduceAdd, Nat.reduceDiv, Int.reduceBEq, rules2, rulesX, rowsX]
      refine go_fr_of rfl ?_
      try simp only [hb8, hp9, hb11, hx12, hx14, hx16, hx16n, hx17, hx17n, Nat.reduceBEq, Nat.reduceMul, Nat.reduceAdd, Nat.reduceDiv, Int.reduceBEq, rules2, rulesX, rowsX]
      cases h
      try simp only [rulesR, Nat.reduceBEq, Nat.reduceMul, Nat.reduceAdd, Nat.reduceDiv, Int.reduceBEq, rules2, rulesX, rowsX]
      exact ⟨⟨⟨rfl, rfl, rfl, rfl, rfl, trivial⟩, rfl, trivial⟩, rfl⟩
    · rw [ite_f hb11] at h
      try simp only [hb8, hp9, hb11, Nat.reduceBEq, Nat.reduceMul, Nat.reduceAdd, Nat.reduceDiv, Int.reduceBEq, rules2, rulesX, rowsX]
      cases h
      try simp only [rulesR, Nat.reduceBEq, Nat.reduceMul, Nat.reduceAdd, Nat.reduceDiv, Int.reduceBEq, rules2, rulesX, rowsX]
      exact ⟨⟨⟨rfl, rfl, rfl, rfl, rfl, trivial⟩, rfl, trivial⟩, rfl⟩
theorem e_impl_segmentOf : entry Tryd.prog 39 = some (c_impl_segmentOf.strip, [.c 4 true 5, 5], 62) := by kernel_rfl
theorem w_impl_segmentOf (a0 : XChart) (a1 : List (List UInt8)) (r : XSegment × Bool) (h : f_impl_segmentOf a0 a1 = some r) : FC Tryd.prog 39 [.ag (XChart.row a0), .sc (.sl (List.map rS a1))] [.ag [.v (.int .i64 r.1.A), .v (.int .i64 r.1.B), .v (.int .i64 r.1.Depth), .v (.int .i64 r.1.Minutes), .v (.bool r.1.Meet)], .sc (.v (.bool r.2))] := by
  unfold f_impl_segmentOf at h
  refine FC_go (σ := ⟨[(0, va [aL (List.map XPoint.row a0.Points), aL (List.map XSegment.row a0.Segments)]), (1, vc (aL (List.map rS a1)))], [], []⟩) mixed e_impl_segmentOf rfl rfl ?_
  simp only [c_impl_segmentOf]
  try simp only [Nat.reduceBEq, Nat.reduceMul, Nat.reduceAdd, Nat.reduceDiv, Int.reduceBEq, rules2, rulesX, rowsX]
  refine go_bx rfl rfl rfl ?_
  try simp only [Nat.reduceBEq, Nat.reduceMul, Nat.reduceAdd, Nat.reduceDiv, Int.reduceBEq, rules2, rulesX, rowsX]
  refine go_al rfl rfl ?_
  rcases Bool.eq_false_or_eq_true (decide ((a1.length : Int) < (5 : Int))) with hb1 | hb1
  · rw [ite_t hb1] at h
    try simp only [hb1, Nat.reduceBEq, Nat.reduceMul, Nat.reduceAdd, Nat.reduceDiv, Int.reduceBEq, rules2, rulesX, rowsX]
    refine w_impl_segmentOf_1 _ _ _ _ h _ ?_
    try simp only [hb1, Nat.reduceBEq, Nat.reduceMul, Nat.reduceAdd, Nat.reduceDiv, Int.reduceBEq, rules2, rulesX, rowsX, List.map_nil]
  · rw [ite_f hb1] at h
    rcases Bool.eq_false_or_eq_true (decide ((6 : Int) < (a1.length : Int))) with hb2 | hb2
    · rw [ite_t hb2] at h
      try simp only [hb1, hb2, Nat.reduceBEq, Nat.reduceMul, Nat.reduceAdd, Nat.reduceDiv, Int.reduceBEq, rules2, rulesX, rowsX]
      refine w_impl_segmentOf_1 _ _ _ _ h _ ?_
      try simp only [hb1, hb2, Nat.reduceBEq, Nat.reduceMul, Nat.reduceAdd, Nat.reduceDiv, Int.reduceBEq, rules2, rulesX, rowsX, List.map_nil]
    · rw [ite_f hb2] at h
      obtain ⟨x3, hx3, h⟩ := ob h
      rcases Bool.eq_false_or_eq_true (x3 == ([99, 104, 97, 110, 110, 101, 108] : List UInt8)) with hb4 | hb4
      · rw [ite_t hb4] at h
        rcases Bool.eq_false_or_eq_true ((a1.length : Int) == (6 : Int)) with hb5 | hb5
        · rw [ite_t hb5] at h
          obtain ⟨x6, hx6, h⟩ := ob h
          try simp only [hb1, hb2, hx3, hb4, hb5, hx6, Nat.reduceBEq, Nat.reduceMul, Nat.reduceAdd, Nat.reduceDiv, Int.reduceBEq, rules2, rulesX, rowsX]
          refine w_impl_segmentOf_1 _ _ _ _ h _ ?_
          try simp only [hb1, hb2, hx3, hb4, hb5, hx6, Nat.reduceBEq, Nat.reduceMul, Nat.reduceAdd, Nat.reduceDiv, Int.reduceBEq, rules2, rulesX, rowsX, List.map_nil]
        · rw [ite_f hb5] at h
          try simp only [hb1, hb2, hx3, hb4, hb5, Nat.reduceBEq, Nat.reduceMul, Nat.reduceAdd, Nat.reduceDiv, Int.reduceBEq, rules2, rulesX, rowsX]
          refine w_impl_segmentOf_1 _ _ _ _ h _ ?_
          try simp only [hb1, hb2, hx3, hb4, hb5, Nat.reduceBEq, Nat.reduceMul, Nat.reduceAdd, Nat.reduceDiv, Int.reduceBEq, rules2, rulesX, rowsX, List.map_nil]
      · rw [ite_f hb4] at h
        try simp only [hb1, hb2, hx3, hb4, Nat.reduceBEq, Nat.reduceMul, Nat.reduceAdd, Nat.reduceDiv, Int.reduceBEq, rules2, rulesX, rowsX]
        refine w_impl_segmentOf_1 _ _ _ _ h _ ?_
        try simp only [hb1, hb2, hx3, hb4, Nat.reduceBEq, Nat.reduceMul, Nat.reduceAdd, Nat.reduceDiv, Int.reduceBEq, rules2, rulesX, rowsX, List.map_nil]
/- 9: impl_ParseChart -/
def c_impl_ParseChart_3 : ACode := .seq (.reg [(none, .keep [0, 2, 4, 14, 15, 16, 59] [2, 4] [132096, 132160])]) (.cond (S 59) (.seq (.reg [(none, .build 60 [.nil, .nil] []), (none, .store (S 2) (S 60) 2), (none, .mv 3 (KB false))]) .ret) .skip)
def c_impl_ParseChart_2 : ACode := .seq (.reg [(none, .keep [0, 2, 4, 14, 15, 16] [2, 4] [132096, 132160])]) (.seq (.reg [(none, .faddr 50 (S 4) 0), (none, .load 51 (S 50) false 1), (none, .len 52 (S 51)), (none, .bin 53 .gtr (S 52) (K 8)), (none, .mv 54 (S 53)), (some (54, false), .faddr 55 (S 4) 1), (some (54, false), .load 56 (S 55) false 1), (some (54, false), .len 57 (S 56)), (some (54, false), .bin 58 .gtr (S 57) (K 10)), (none, .pick 59 (S 54) (KB true) (S 58))]) c_impl_ParseChart_3)
def c_impl_ParseChart_n2 : ACode := (.reg [(none, .bin 61 .add (S 16) (K 1)), (none, .mv 16 (S 61))])
def c_impl_ParseChart_1 : ACode := .seq (.reg [(none, .keep [0, 2, 4, 14, 15, 16] [2, 4] [132096, 132160])]) (.seq (.reg [(none, .bin 17 .lss (S 16) (S 15))]) (.seq (.cond (S 17) .skip (.exit 0)) (.seq (.block 1 (.seq (.reg [(none, .iaddr 18 (S 14) (S 16) 1), (none, .load 19 (S 18) false 1), (none, .mv 6 (S 19))]) (.seq (.reg [(none, .mv 20 (S 6)), (none, .call 21 37 [(S 20), (KS [32])]), (none, .mv 7 (S 21))]) (.seq (.reg [(none, .mv 23 (S 7)), (none, .call 24 38 [(S 23)]), (none, .mv 22 (S 24)), (none, .extr 25 (S 22) 0), (none, .extr 26 (S 22) 1), (none, .alloc 8 [aS [], aB false]), (none, .store (S 8) (S 25) 2), (none, .mv 9 (S 26))]) (.seq (.reg [(none, .load 28 (S 4) true 2), (none, .mv 29 (S 7)), (none, .call 30 39 [(S 28), (S 29)]), (none, .mv 27 (S 30)), (none, .extr 31 (S 27) 0), (none, .extr 32 (S 27) 1), (none, .alloc 10 [aI 0, aI 0, aI 0, aI 0, aB false]), (none, .store (S 10) (S 31) 5), (none, .mv 11 (S 32))]) (.seq (.block 2 (.seq (.reg [(none, .mv 35 (S 9)), (none, .mv 34 (S 35))]) (.cond (S 34) (.reg [(none, .faddr 36 (S 4) 0), (none, .load 37 (S 36) false 1), (none, .load 38 (S 8) true 2), (none, .bslice 39 2 [.str [], .bool false] 1 [(0, (S 38))]), (none, .app 40 2 24 (S 37) (S 39)), (none, .faddr 41 (S 4) 0), (none, .store (S 41) (S 40) 1)]) (.seq (.reg [(none, .mv 43 (S 11)), (none, .mv 42 (S 43))]) (.cond (S 42) (.reg [(none, .faddr 44 (S 4) 1), (none, .load 45 (S 44) false 1), (none, .load 46 (S 10) true 5), (none, .bslice 47 5 [.int .i64 0, .int .i64 0, .int .i64 0, .int .i64 0, .bool false] 1 [(0, (S 46))]), (none, .app 48 5 40 (S 45) (S 47)), (none, .faddr 49 (S 4) 1), (none, .store (S 49) (S 48) 1)]) (.seq (.reg [(none, .build 33 [.nil, .nil] []), (none, .store (S 2) (S 33) 2), (none, .mv 3 (KB false))]) .ret)))))) c_impl_ParseChart_2)))))) c_impl_ParseChart_n2)))
def c_impl_ParseChart_4 : ACode := .seq (.reg [(none, .keep [2, 4, 70] [2, 4] [132096, 132160])]) (.cond (S 70) (.seq (.reg [(none, .build 71 [.nil, .nil] []), (none, .store (S 2) (S 71) 2), (none, .mv 3 (KB false))]) .ret) .skip)
def c_impl_ParseChart_n3 : ACode := (.seq (.reg [(none, .load 72 (S 4) true 2), (none, .store (S 2) (S 72) 2), (none, .mv 3 (KB true))]) .ret)
def c_impl_ParseChart_n1 : ACode := (.seq (.seq (.reg [(none, .load 62 (S 4) true 2), (none, .call 63 15 [(S 62)]), (none, .un 64 .not (S 63)), (none, .mv 65 (S 64)), (some (65, false), .load 66 (S 4) true 2), (some (65, false), .call 67 10 [(S 66)]), (some (65, false), .mv 68 (S 0)), (some (65, false), .bin 69 .neq (S 67) (S 68)), (none, .pick 70 (S 65) (KB true) (S 69))]) c_impl_ParseChart_4) c_impl_ParseChart_n3)
def c_impl_ParseChart : ACode := (.seq (.reg [(none, .alloc 2 [.nil, .nil]), (none, .mv 3 (KB false))]) (.seq (.reg [(none, .build 12 [.nil, .nil] []), (none, .alloc 4 [.nil, .nil]), (none, .store (S 4) (S 12) 2), (none, .ownb 4 0 132096 2), (none, .ownb 4 1 132160 5)]) (.seq (.seq (.reg [(none, .mv 13 (S 0)), (none, .call 14 36 [(S 13)]), (none, .len 15 (S 14)), (none, .mv 16 (K 0))]) (.block 0 (.loop c_impl_ParseChart_1))) c_impl_ParseChart_n1)))
theorem w_impl_ParseChart_3 (a0 : List UInt8) (r1 : (List (List UInt8))) (v2 : Int) (v15 : List XPoint) (v16 : List XSegment) (k_impl_ParseChart_1 : Int → (List XPoint) → (List XSegment) → Option (XChart × Bool)) (hk_impl_ParseChart_1 : ∀ (v2 : Int) (v3 : List XPoint) (v4 : List XSegment) zr, k_impl_ParseChart_1 v2 v3 v4 = some zr → ∀ σ : St, σ.kept [0, 2, 4, 14, 15, 16] [2, 4] [132096, 132160] = ⟨[(0, vc (aS a0)), (2, vc (.pb 2 0)), (4, vc (.pb 4 0)), (14, vc (aL (List.map rS r1))), (15, vc (aI (r1.length : Int))), (16, vc (aI v2))], [(2, [.nil, .nil]), (4, [.own 132096, .own 132160])], [(132096, 2, List.map XPoint.row v3), (132160, 5, List.map XSegment.row v4)]⟩ → go Tryd.prog (.code (.loop c_impl_ParseChart_1) :: [.blk 0, .code c_impl_ParseChart_n1]) (Ret [.c 2 true 2, 3] [.ag [.o 2 (List.map XPoint.row zr.1.Points), .o 5 (List.map XSegment.row zr.1.Segments)], .sc (.v (.bool zr.2))]) .normal (some σ)) (v18 : Bool) (r : XChart × Bool) (h : f_impl_ParseChart_3 a0 r1 v2 v15 v16 k_impl_ParseChart_1 v18 = some r) (σ : St) (hσ : σ.kept [0, 2, 4, 14, 15, 16, 59] [2, 4] [132096, 132160] = ⟨[(0, vc (aS a0)), (2, vc (.pb 2 0)), (4, vc (.pb 4 0)), (14, vc (aL (List.map rS r1))), (15, vc (aI (r1.length : Int))), (16, vc (aI v2)), (59, vc (aB v18))], [(2, [.nil, .nil]), (4, [.own 132096, .own 132160])], [(132096, 2, List.map XPoint.row v15), (132160, 5, List.map XSegment.row v16)]⟩) : go Tryd.prog (.code c_impl_ParseChart_3 :: [.blk 1, .code c_impl_ParseChart_n2, .code (.loop c_impl_ParseChart_1), .blk 0, .code c_impl_ParseChart_n1]) (Ret [.c 2 true 2, 3] [.ag [.o 2 (List.map XPoint.row r.1.Points), .o 5 (List.map XSegment.row r.1.Segments)], .sc (.v (.bool r.2))]) .normal (some σ) := by
  unfold f_impl_ParseChart_3 at h
  rcases Bool.eq_false_or_eq_true v18 with hb19 | hb19
  · rw [ite_t hb19] at h
    try simp only [hσ, hb19, c_impl_ParseChart_3, Nat.reduceBEq, Nat.reduceMul, Nat.reduceAdd, Nat.reduceDiv, Int.reduceBEq, rules2, rulesX, rowsX]
    cases h
    try simp only [rulesR, Nat.reduceBEq, Nat.reduceMul, Nat.reduceAdd, Nat.reduceDiv, Int.reduceBEq, rules2, rulesX, rowsX]
    exact ⟨⟨⟨rfl, rfl, trivial⟩, rfl, trivial⟩, rfl⟩
  · rw [ite_f hb19] at h
    try simp only [hσ, hb19, c_impl_ParseChart_3, c_impl_ParseChart_n2, Nat.reduceBEq, Nat.reduceMul, Nat.reduceAdd, Nat.reduceDiv, Int.reduceBEq, rules2, rulesX, rowsX]
    refine hk_impl_ParseChart_1 _ _ _ _ h _ ?_
    try simp only [hb19, Nat.reduceBEq, Nat.reduceMul, Nat.reduceAdd, Nat.reduceDiv, Int.reduceBEq, rules2, rulesX, rowsX, List.map_nil]
theorem w_impl_ParseChart_2 (a0 : List UInt8) (r1 : (List (List UInt8))) (v2 : Int) (k_impl_ParseChart_1 : Int → (List XPoint) → (List XSegment) → Option (XChart × Bool)) (hk_impl_ParseChart_1 : ∀ (v2 : Int) (v3 : List XPoint) (v4 : List XSegment) zr, k_impl_ParseChart_1 v2 v3 v4 = some zr → ∀ σ : St, σ.kept [0, 2, 4, 14, 15, 16] [2, 4] [132096, 132160] = ⟨[(0, vc (aS a0)), (2, vc (.pb 2 0)), (4, vc (.pb 4 0)), (14, vc (aL (List.map rS r1))), (15, vc (aI (r1.length : Int))), (16, vc (aI v2))], [(2, [.nil, .nil]), (4, [.own 132096, .own 132160])], [(132096, 2, List.map XPoint.row v3), (132160, 5, List.map XSegment.row v4)]⟩ → go Tryd.prog (.code (.loop c_impl_ParseChart_1) :: [.blk 0, .code c_impl_ParseChart_n1]) (Ret [.c 2 true 2, 3] [.ag [.o 2 (List.map XPoint.row zr.1.Points), .o 5 (List.map XSegment.row zr.1.Segments)], .sc (.v (.bool zr.2))]) .normal (some σ)) (v15 : List XPoint) (v16 : List XSegment) (r : XChart × Bool) (h : f_impl_ParseChart_2 a0 r1 v2 k_impl_ParseChart_1 v15 v16 = some r) (σ : St) (hσ : σ.kept [0, 2, 4, 14, 15, 16] [2, 4] [132096, 132160] = ⟨[(0, vc (aS a0)), (2, vc (.pb 2 0)), (4, vc (.pb 4 0)), (14, vc (aL (List.map rS r1))), (15, vc (aI (r1.length : Int))), (16, vc (aI v2))], [(2, [.nil, .nil]), (4, [.own 132096, .own 132160])], [(132096, 2, List.map XPoint.row v15), (132160, 5, List.map XSegment.row v16)]⟩) : go Tryd.prog (.code c_impl_ParseChart_2 :: [.blk 1, .code c_impl_ParseChart_n2, .code (.loop c_impl_ParseChart_1), .blk 0, .code c_impl_ParseChart_n1]) (Ret [.c 2 true 2, 3] [.ag [.o 2 (List.map XPoint.row r.1.Points), .o 5 (List.map XSegment.row r.1.Segments)], .sc (.v (.bool r.2))]) .normal (some σ) := by
  unfold f_impl_ParseChart_2 at h
  rcases Bool.eq_false_or_eq_true (decide ((8 : Int) < (v15.length : Int))) with hb17 | hb17
  · rw [ite_t hb17] at h
    try simp only [hσ, hb17, c_impl_ParseChart_2, Nat.reduceBEq, Nat.reduceMul, Nat.reduceAdd, Nat.reduceDiv, Int.reduceBEq, rules2, rulesX, rowsX]
    refine w_impl_ParseChart_3 _ _ _ _ _ k_impl_ParseChart_1 hk_impl_ParseChart_1 _ _ h _ ?_
    try simp only [hb17, Nat.reduceBEq, Nat.reduceMul, Nat.reduceAdd, Nat.reduceDiv, Int.reduceBEq, rules2, rulesX, rowsX, List.map_nil]
  · rw [ite_f hb17] at h
    try simp only [hσ, hb17, c_impl_ParseChart_2, Nat.reduceBEq, Nat.reduceMul, Nat.reduceAdd, Nat.reduceDiv, Int.reduceBEq, rules2, rulesX, rowsX]
    refine w_impl_ParseChart_3 _ _ _ _ _ k_impl_ParseChart_1 hk_impl_ParseChart_1 _ _ h _ ?_
    try simp only [hb17, Nat.reduceBEq, Nat.reduceMul, Nat.reduceAdd, Nat.reduceDiv, Int.reduceBEq, rules2, rulesX, rowsX, List.map_nil]
theorem w_impl_ParseChart_4 (v3 : List XPoint) (v4 : List XSegment) (v23 : Bool) (r : XChart × Bool) (h : f_impl_ParseChart_4 v3 v4 v23 = some r) (σ : St) (hσ : σ.kept [2, 4, 70] [2, 4] [132096, 132160] = ⟨[(2, vc (.pb 2 0)), (4, vc (.pb 4 0)), (70, vc (aB v23))], [(2, [.nil, .nil]), (4, [.own 132096, .own 132160])], [(132096, 2, List.map XPoint.row v3), (132160, 5, List.map XSegment.row v4)]⟩) : go Tryd.prog (.code c_impl_ParseChart_4 :: [.code c_impl_ParseChart_n3]) (Ret [.c 2 true 2, 3] [.ag [.o 2 (List.map XPoint.row r.1.Points), .o 5 (List.map XSegment.row r.1.Segments)], .sc (.v (.bool r.2))]) .normal (some σ) := by
  unfold f_impl_ParseChart_4 at h
  rcases Bool.eq_false_or_eq_true v23 with hb24 | hb24
  · rw [ite_t hb24] at h
    try simp only [hσ, hb24, c_impl_ParseChart_4, Nat.reduceBEq, Nat.reduceMul, Nat.reduceAdd, Nat.reduceDiv, Int.reduceBEq, rules2, rulesX, rowsX]
    cases h
    try simp only [rulesR, Nat.reduceBEq, Nat.reduceMul, Nat.reduceAdd, Nat.reduceDiv, Int.reduceBEq, rules2, rulesX, rowsX]
    exact ⟨⟨⟨rfl, rfl, trivial⟩, rfl, trivial⟩, rfl⟩
  · rw [ite_f hb24] at h
    try simp only [hσ, hb24, c_impl_ParseChart_4, c_impl_ParseChart_n3, Nat.reduceBEq, Nat.reduceMul, Nat.reduceAdd, Nat.reduceDiv, Int.reduceBEq, rules2, rulesX, rowsX]
    cases h
    try simp only [rulesR, Nat.reduceBEq, Nat.reduceMul, Nat.reduceAdd, Nat.reduceDiv, Int.reduceBEq, rules2, rulesX, rowsX]
    exact ⟨⟨⟨rfl, rfl, trivial⟩, rfl, trivial⟩, rfl⟩
theorem w_impl_ParseChart_1 (a0 : List UInt8) (r1 : (List (List UInt8))) : ∀ (n : Nat) (v2 : Int) (v3 : List XPoint) (v4 : List XSegment) (r : XChart × Bool), f_impl_ParseChart_1 a0 r1 n v2 v3 v4 = some r → ∀ σ : St, σ.kept [0, 2, 4, 14, 15, 16] [2, 4] [132096, 132160] = ⟨[(0, vc (aS a0)), (2, vc (.pb 2 0)), (4, vc (.pb 4 0)), (14, vc (aL (List.map rS r1))), (15, vc (aI (r1.length : Int))), (16, vc (aI v2))], [(2, [.nil, .nil]), (4, [.own 132096, .own 132160])], [(132096, 2, List.map XPoint.row v3), (132160, 5, List.map XSegment.row v4)]⟩ → go Tryd.prog (.code (.loop c_impl_ParseChart_1) :: [.blk 0, .code c_impl_ParseChart_n1]) (Ret [.c 2 true 2, 3] [.ag [.o 2 (List.map XPoint.row r.1.Points), .o 5 (List.map XSegment.row r.1.Segments)], .sc (.v (.bool r.2))]) .normal (some σ) := by
  intro n
  induction n with
  | zero => intro _ _ _ r h; cases h
  | succ n ih =>
    intro v2 v3 v4 r h σ hσ
    rw [f_impl_ParseChart_1] at h
    refine go_round ?_
    rcases Bool.eq_false_or_eq_true (decide (v2 < (r1.length : Int))) with hb5 | hb5
    · rw [ite_t hb5] at h
      obtain ⟨x6, hx6, h⟩ := ob h
      obtain ⟨r7, hr7, h⟩ := ob h
      try simp only [hσ, hb5, hx6, c_impl_ParseChart_1, Nat.reduceBEq, Nat.reduceMul, Nat.reduceAdd, Nat.reduceDiv, Int.reduceBEq, rules2, rulesX, rowsX]
      refine go_callI (w_impl_SplitAny _ _ _ hr7) rfl rfl (Nat.le_of_ble_eq_true rfl) ?_
      obtain ⟨r9, hr9, h⟩ := ob h
      try simp only [hb5, hx6, Nat.reduceBEq, Nat.reduceMul, Nat.reduceAdd, Nat.reduceDiv, Int.reduceBEq, rules2, rulesX, rowsX]
      refine go_call (w_impl_pointOf _ _ hr9) rfl (flat_of rfl) rfl (Nat.le_of_ble_eq_true rfl) ?_
      try simp only [hb5, hx6, Nat.reduceBEq, Nat.reduceMul, Nat.reduceAdd, Nat.reduceDiv, Int.reduceBEq, rules2, rulesX, rowsX]
      refine go_al rfl rfl ?_
      obtain ⟨r10, hr10, h⟩ := ob h
      try simp only [hb5, hx6, Nat.reduceBEq, Nat.reduceMul, Nat.reduceAdd, Nat.reduceDiv, Int.reduceBEq, rules2, rulesX, rowsX]
      refine go_call (w_impl_segmentOf _ _ _ hr10) rfl (flat_of rfl) rfl (Nat.le_of_ble_eq_true rfl) ?_
      try simp only [hb5, hx6, Nat.reduceBEq, Nat.reduceMul, Nat.reduceAdd, Nat.reduceDiv, Int.reduceBEq, rules2, rulesX, rowsX]
      refine go_al rfl rfl ?_
      rcases Bool.eq_false_or_eq_true r9.2 with hb11 | hb11
      · rw [ite_t hb11] at h
        try simp only [hb5, hx6, hb11, Nat.reduceBEq, Nat.reduceMul, Nat.reduceAdd, Nat.reduceDiv, Int.reduceBEq, rules2, rulesX, rowsX]
        refine go_bsl (es := List.map XPoint.row ([r9.1] : List XPoint)) rfl rfl ?_
        obtain ⟨hg12, h⟩ := of_guard h
        try simp only [hb5, hx6, hb11, hg12, Nat.reduceBEq, Nat.reduceMul, Nat.reduceAdd, Nat.reduceDiv, Int.reduceBEq, rules2, rulesX, rowsX]
        refine w_impl_ParseChart_2 _ _ _ (f_impl_ParseChart_1 a0 r1 n) ih _ _ _ h _ ?_
        try simp only [hb5, hx6, hb11, hg12, Nat.reduceBEq, Nat.reduceMul, Nat.reduceAdd, Nat.reduceDiv, Int.reduceBEq, rules2, rulesX, rowsX, List.map_nil]
      · rw [ite_f hb11] at h
        rcases Bool.eq_false_or_eq_true r10.2 with hb13 | hb13
        · rw [ite_t hb13] at h
          try simp only [hb5, hx6, hb11, hb13, Nat.reduceBEq, Nat.reduceMul, Nat.reduceAdd, Nat.reduceDiv, Int.reduceBEq, rules2, rulesX, rowsX]
          refine go_bsl (es := List.map XSegment.row ([r10.1] : List XSegment)) rfl rfl ?_
          obtain ⟨hg14, h⟩ := of_guard h
          try simp only [hb5, hx6, hb11, hb13, hg14, Nat.reduceBEq, Nat.reduceMul, Nat.reduceAdd, Nat.reduceDiv, Int.reduceBEq, rules2, rulesX, rowsX]
          refine w_impl_ParseChart_2 _ _ _ (f_impl_ParseChart_1 a0 r1 n) ih _ _ _ h _ ?_
          try simp only [hb5, hx6, hb11, hb13, hg14, Nat.reduceBEq, Nat.reduceMul, Nat.reduceAdd, Nat.reduceDiv, Int.reduceBEq, rules2, rulesX, rowsX, List.map_nil]
        · rw [ite_f hb13] at h
          try simp only [hb5, hx6, hb11, hb13, Nat.reduceBEq, Nat.reduceMul, Nat.reduceAdd, Nat.reduceDiv, Int.reduceBEq, rules2, rulesX, rowsX]
          cases h
          try simp only [rulesR, Nat.reduceBEq, Nat.reduceMul, Nat.reduceAdd, Nat.reduceDiv, Int.reduceBEq, rules2, rulesX, rowsX]
          exact ⟨⟨⟨rfl, rfl, trivial⟩, rfl, trivial⟩, rfl⟩
    · rw [ite_f hb5] at h
      obtain ⟨r20, hr20, h⟩ := ob h
      try simp only [hσ, hb5, c_impl_ParseChart_1, c_impl_ParseChart_n1, Nat.reduceBEq, Nat.reduceMul, Nat.reduceAdd, Nat.reduceDiv, Int.reduceBEq, rules2, rulesX, rowsX]
      refine go_call (w_impl_ChartOk _ _ hr20) rfl (flat_of rfl) rfl (Nat.le_of_ble_eq_true rfl) ?_
      rcases Bool.eq_false_or_eq_true r20 with hb21 | hb21
      · rw [ite_t hb21] at h
        obtain ⟨r22, hr22, h⟩ := ob h
        try simp only [hb5, hb21, Nat.reduceBEq, Nat.reduceMul, Nat.reduceAdd, Nat.reduceDiv, Int.reduceBEq, rules2, rulesX, rowsX]
        refine go_call (w_impl_FormatChart _ _ hr22) rfl (flat_of rfl) rfl (Nat.le_of_ble_eq_true rfl) ?_
        try simp only [hb5, hb21, Nat.reduceBEq, Nat.reduceMul, Nat.reduceAdd, Nat.reduceDiv, Int.reduceBEq, rules2, rulesX, rowsX]
        refine w_impl_ParseChart_4 _ _ _ _ h _ ?_
        try simp only [hb5, hb21, Nat.reduceBEq, Nat.reduceMul, Nat.reduceAdd, Nat.reduceDiv, Int.reduceBEq, rules2, rulesX, rowsX, List.map_nil]
      · rw [ite_f hb21] at h
        try simp only [hb5, hb21, Nat.reduceBEq, Nat.reduceMul, Nat.reduceAdd, Nat.reduceDiv, Int.reduceBEq, rules2, rulesX, rowsX]
        refine w_impl_ParseChart_4 _ _ _ _ h _ ?_
        try simp only [hb5, hb21, Nat.reduceBEq, Nat.reduceMul, Nat.reduceAdd, Nat.reduceDiv, Int.reduceBEq, rules2, rulesX, rowsX, List.map_nil]
theorem e_impl_ParseChart : entry Tryd.prog 9 = some (c_impl_ParseChart.strip, [.c 2 true 2, 3], 73) := by kernel_rfl
theorem w_impl_ParseChart (a0 : List UInt8) (r : XChart × Bool) (h : f_impl_ParseChart a0 = some r) : FC Tryd.prog 9 [.sc (.str a0)] [.ag [.o 2 (List.map XPoint.row r.1.Points), .o 5 (List.map XSegment.row r.1.Segments)], .sc (.v (.bool r.2))] := by
  unfold f_impl_ParseChart at h
  refine FC_go (σ := ⟨[(0, vc (aS a0))], [], []⟩) mixed e_impl_ParseChart rfl rfl ?_
  simp only [c_impl_ParseChart]
  try simp only [Nat.reduceBEq, Nat.reduceMul, Nat.reduceAdd, Nat.reduceDiv, Int.reduceBEq, rules2, rulesX, rowsX]
  refine go_al rfl rfl ?_
  try simp only [Nat.reduceBEq, Nat.reduceMul, Nat.reduceAdd, Nat.reduceDiv, Int.reduceBEq, rules2, rulesX, rowsX]
  refine go_al rfl rfl ?_
  try simp only [Nat.reduceBEq, Nat.reduceMul, Nat.reduceAdd, Nat.reduceDiv, Int.reduceBEq, rules2, rulesX, rowsX]
  refine go_ownb' (cs' := [.own 132096, .nil]) rfl rfl rfl rfl ?_
  try simp only [Nat.reduceBEq, Nat.reduceMul, Nat.reduceAdd, Nat.reduceDiv, Int.reduceBEq, rules2, rulesX, rowsX]
  refine go_ownb' (cs' := [.own 132096, .own 132160]) rfl rfl rfl rfl ?_
  obtain ⟨r1, hr1, h⟩ := ob h
  try simp only [Nat.reduceBEq, Nat.reduceMul, Nat.reduceAdd, Nat.reduceDiv, Int.reduceBEq, rules2, rulesX, rowsX]
  refine go_callI (w_impl_SplitLines _ _ hr1) rfl rfl (Nat.le_of_ble_eq_true rfl) ?_
  try simp only [Nat.reduceBEq, Nat.reduceMul, Nat.reduceAdd, Nat.reduceDiv, Int.reduceBEq, rules2, rulesX, rowsX]
  refine w_impl_ParseChart_1 _ _ _ _ _ _ _ h _ ?_
  try simp only [Nat.reduceBEq, Nat.reduceMul, Nat.reduceAdd, Nat.reduceDiv, Int.reduceBEq, rules2, rulesX, rowsX, List.map_nil]
/- 16: impl_ShipOk -/
def c_impl_ShipOk : ACode := (.seq (.reg [(none, .box 1 (S 0)), (none, .mv 2 (KB false))]) (.seq (.reg [(none, .faddr 3 (S 1) 0), (none, .load 4 (S 3) false 1), (none, .call 5 45 [(S 4)]), (none, .mv 6 (S 5)), (some (6, true), .faddr 7 (S 1) 1), (some (6, true), .load 8 (S 7) false 1), (some (6, true), .call 9 48 [(S 8), (K 10), (K 400)]), (none, .pick 10 (S 6) (S 9) (KB false)), (none, .mv 11 (S 10)), (some (11, true), .faddr 12 (S 1) 2), (some (11, true), .load 13 (S 12) false 1), (some (11, true), .call 14 48 [(S 13), (K 100), (K 2000)]), (none, .pick 15 (S 11) (S 14) (KB false)), (none, .mv 16 (S 15)), (some (16, true), .faddr 17 (S 1) 3), (some (16, true), .load 18 (S 17) false 1), (some (16, true), .call 19 47 [(S 18), (K 4)]), (none, .pick 20 (S 16) (S 19) (KB false)), (none, .mv 21 (S 20)), (some (21, true), .faddr 22 (S 1) 4), (some (21, true), .load 23 (S 22) false 1), (some (21, true), .call 24 48 [(S 23), (K 0), (K 4)]), (none, .pick 25 (S 21) (S 24) (KB false)), (none, .mv 2 (S 25))]) .ret))
theorem e_impl_ShipOk : entry Tryd.prog 16 = some (c_impl_ShipOk.strip, [2], 26) := by kernel_rfl
theorem w_impl_ShipOk (a0 : XShip) (r : Bool) (h : f_impl_ShipOk a0 = some r) : FC Tryd.prog 16 [.ag (XShip.row a0)] [.sc (.v (.bool r))] := by
  unfold f_impl_ShipOk at h
  refine FC_go (σ := ⟨[(0, va [aS a0.Name, aI a0.Length, aI a0.Draught, aI a0.Line, aI a0.Tugs, aB a0.Slow])], [], []⟩) mixed e_impl_ShipOk rfl rfl ?_
  simp only [c_impl_ShipOk]
  try simp only [Nat.reduceBEq, Nat.reduceMul, Nat.reduceAdd, Nat.reduceDiv, Int.reduceBEq, rules2, rulesX, rowsX]
  refine go_bx rfl rfl rfl ?_
  obtain ⟨r1, hr1, h⟩ := ob h
  try simp only [Nat.reduceBEq, Nat.reduceMul, Nat.reduceAdd, Nat.reduceDiv, Int.reduceBEq, rules2, rulesX, rowsX]
  refine go_callI (w_impl_IsName _ _ hr1) rfl rfl (Nat.le_of_ble_eq_true rfl) ?_
  rcases Bool.eq_false_or_eq_true r1 with hb2 | hb2
  · rw [ite_t hb2] at h
    obtain ⟨r3, hr3, h⟩ := ob h
    try simp only [hb2, Nat.reduceBEq, Nat.reduceMul, Nat.reduceAdd, Nat.reduceDiv, Int.reduceBEq, rules2, rulesX, rowsX]
    refine go_callI (w_impl_within _ _ _ _ hr3) rfl rfl (Nat.le_of_ble_eq_true rfl) ?_
    rcases Bool.eq_false_or_eq_true r3 with hb4 | hb4
    · rw [ite_t hb4] at h
      obtain ⟨r5, hr5, h⟩ := ob h
      try simp only [hb2, hb4, Nat.reduceBEq, Nat.reduceMul, Nat.reduceAdd, Nat.reduceDiv, Int.reduceBEq, rules2, rulesX, rowsX]
      refine go_callI (w_impl_within _ _ _ _ hr5) rfl rfl (Nat.le_of_ble_eq_true rfl) ?_
      rcases Bool.eq_false_or_eq_true r5 with hb6 | hb6
      · rw [ite_t hb6] at h
        obtain ⟨r7, hr7, h⟩ := ob h
        try simp only [hb2, hb4, hb6, Nat.reduceBEq, Nat.reduceMul, Nat.reduceAdd, Nat.reduceDiv, Int.reduceBEq, rules2, rulesX, rowsX]
        refine go_callI (w_impl_isIndex _ _ _ hr7) rfl rfl (Nat.le_of_ble_eq_true rfl) ?_
        rcases Bool.eq_false_or_eq_true r7 with hb8 | hb8
        · rw [ite_t hb8] at h
          obtain ⟨r9, hr9, h⟩ := ob h
          try simp only [hb2, hb4, hb6, hb8, Nat.reduceBEq, Nat.reduceMul, Nat.reduceAdd, Nat.reduceDiv, Int.reduceBEq, rules2, rulesX, rowsX]
          refine go_callI (w_impl_within _ _ _ _ hr9) rfl rfl (Nat.le_of_ble_eq_true rfl) ?_
          try simp only [hb2, hb4, hb6, hb8, Nat.reduceBEq, Nat.reduceMul, Nat.reduceAdd, Nat.reduceDiv, Int.reduceBEq, rules2, rulesX, rowsX]
          cases h
          exact ⟨⟨rfl, trivial⟩, rfl⟩
        · rw [ite_f hb8] at h
          try simp only [hb2, hb4, hb6, hb8, Nat.reduceBEq, Nat.reduceMul, Nat.reduceAdd, Nat.reduceDiv, Int.reduceBEq, rules2, rulesX, rowsX]
          cases h
          exact ⟨⟨rfl, trivial⟩, rfl⟩
      · rw [ite_f hb6] at h
        try simp only [hb2, hb4, hb6, Nat.reduceBEq, Nat.reduceMul, Nat.reduceAdd, Nat.reduceDiv, Int.reduceBEq, rules2, rulesX, rowsX]
        cases h
        exact ⟨⟨rfl, trivial⟩, rfl⟩
    · rw [ite_f hb4] at h
      try simp only [hb2, hb4, Nat.reduceBEq, Nat.reduceMul, Nat.reduceAdd, Nat.reduceDiv, Int.reduceBEq, rules2, rulesX, rowsX]
      cases h
      exact ⟨⟨rfl, trivial⟩, rfl⟩
  · rw [ite_f hb2] at h
    try simp only [hb2, Nat.reduceBEq, Nat.reduceMul, Nat.reduceAdd, Nat.reduceDiv, Int.reduceBEq, rules2, rulesX, rowsX]
    cases h
    exact ⟨⟨rfl, trivial⟩, rfl⟩
/- 12: impl_FormatShip -/
def c_impl_FormatShip : ACode := (.seq (.reg [(none, .box 1 (S 0)), (none, .mv 2 (KS []))]) (.seq (.seq (.reg [(none, .load 4 (S 1) true 6), (none, .call 5 16 [(S 4)]), (none, .un 6 .not (S 5))]) (.cond (S 6) (.seq (.reg [(none, .mv 2 (KS []))]) .ret) .skip)) (.seq (.drw [(some [11, 14, 17, 20], (none, .faddr 7 (S 1) 0)), (some [11, 14, 17, 20], (none, .load 8 (S 7) false 1)), (some [], (none, .faddr 9 (S 1) 1)), (some [], (none, .load 10 (S 9) false 1)), (some [], (none, .call 11 41 [(S 10)])), (some [11], (none, .faddr 12 (S 1) 2)), (some [11], (none, .load 13 (S 12) false 1)), (some [], (none, .call 14 41 [(S 13)])), (some [11, 14], (none, .faddr 15 (S 1) 3)), (some [11, 14], (none, .load 16 (S 15) false 1)), (some [], (none, .call 17 41 [(S 16)])), (some [11, 14, 17], (none, .faddr 18 (S 1) 4)), (some [11, 14, 17], (none, .load 19 (S 18) false 1)), (some [], (none, .call 20 41 [(S 19)])), (some [], (none, .bslice 21 1 [.str []] 5 [(0, (S 8)), (1, (S 11)), (2, (S 14)), (3, (S 17)), (4, (S 20))])), (some [], (none, .mv 3 (S 21)))]) (.seq (.drw [(some [], (none, .mv 22 (S 3))), (some [], (none, .call 23 42 [(S 22), (KS [32])])), (some [23], (none, .faddr 24 (S 1) 5)), (some [23], (none, .load 25 (S 24) false 1)), (some [], (none, .call 26 40 [(S 23), (S 25), (KS [115, 108, 111, 119])])), (some [], (none, .mv 2 (S 26)))]) .ret))))
theorem e_impl_FormatShip : entry Tryd.prog 12 = some (c_impl_FormatShip.strip, [2], 27) := by kernel_rfl
theorem w_impl_FormatShip (a0 : XShip) (r : (List UInt8)) (h : f_impl_FormatShip a0 = some r) : FC Tryd.prog 12 [.ag (XShip.row a0)] [.sc (.v (.str r))] := by
  unfold f_impl_FormatShip at h
  refine FC_go (σ := ⟨[(0, va [aS a0.Name, aI a0.Length, aI a0.Draught, aI a0.Line, aI a0.Tugs, aB a0.Slow])], [], []⟩) mixed e_impl_FormatShip rfl rfl ?_
  simp only [c_impl_FormatShip]
  try simp only [Nat.reduceBEq, Nat.reduceMul, Nat.reduceAdd, Nat.reduceDiv, Int.reduceBEq, rules2, rulesX, rowsX]
  refine go_bx rfl rfl rfl ?_
  obtain ⟨r1, hr1, h⟩ := ob h
  try simp only [Nat.reduceBEq, Nat.reduceMul, Nat.reduceAdd, Nat.reduceDiv, Int.reduceBEq, rules2, rulesX, rowsX]
  refine go_callI (w_impl_ShipOk _ _ hr1) rfl rfl (Nat.le_of_ble_eq_true rfl) ?_
  rcases Bool.eq_false_or_eq_true r1 with hb2 | hb2
  · rw [ite_t hb2] at h
    try simp only [hb2, Nat.reduceBEq, Nat.reduceMul, Nat.reduceAdd, Nat.reduceDiv, Int.reduceBEq, rules2, rulesX, rowsX]
    refine go_fr_of rfl ?_
    obtain ⟨r3, hr3, h⟩ := ob h
    try simp only [hb2, Nat.reduceBEq, Nat.reduceMul, Nat.reduceAdd, Nat.reduceDiv, Int.reduceBEq, rules2, rulesX, rowsX]
    refine go_dcallI (w_impl_FormatInt _ _ hr3) rfl rfl (Nat.le_of_ble_eq_true rfl) ?_
    obtain ⟨r4, hr4, h⟩ := ob h
    try simp only [hb2, Nat.reduceBEq, Nat.reduceMul, Nat.reduceAdd, Nat.reduceDiv, Int.reduceBEq, rules2, rulesX, rowsX]
    refine go_dcallI (w_impl_FormatInt _ _ hr4) rfl rfl (Nat.le_of_ble_eq_true rfl) ?_
    obtain ⟨r5, hr5, h⟩ := ob h
    try simp only [hb2, Nat.reduceBEq, Nat.reduceMul, Nat.reduceAdd, Nat.reduceDiv, Int.reduceBEq, rules2, rulesX, rowsX]
    refine go_dcallI (w_impl_FormatInt _ _ hr5) rfl rfl (Nat.le_of_ble_eq_true rfl) ?_
    obtain ⟨r6, hr6, h⟩ := ob h
    try simp only [hb2, Nat.reduceBEq, Nat.reduceMul, Nat.reduceAdd, Nat.reduceDiv, Int.reduceBEq, rules2, rulesX, rowsX]
    refine go_dcallI (w_impl_FormatInt _ _ hr6) rfl rfl (Nat.le_of_ble_eq_true rfl) ?_
    try simp only [hb2, Nat.reduceBEq, Nat.reduceMul, Nat.reduceAdd, Nat.reduceDiv, Int.reduceBEq, rules2, rulesX, rowsX]
    refine go_bsl (es := List.map rS ([a0.Name, r3, r4, r5, r6] : List (List UInt8))) rfl rfl ?_
    try simp only [hb2, Nat.reduceBEq, Nat.reduceMul, Nat.reduceAdd, Nat.reduceDiv, Int.reduceBEq, rules2, rulesX, rowsX]
    refine go_fr_of rfl ?_
    obtain ⟨r7, hr7, h⟩ := ob h
    try simp only [hb2, Nat.reduceBEq, Nat.reduceMul, Nat.reduceAdd, Nat.reduceDiv, Int.reduceBEq, rules2, rulesX, rowsX]
    refine go_dcall (w_impl_Join _ _ _ hr7) (by first | rfl | kernel_rfl) (flat_of rfl) rfl (Nat.le_of_ble_eq_true rfl) ?_
    obtain ⟨r9, hr9, h⟩ := ob h
    try simp only [hb2, Nat.reduceBEq, Nat.reduceMul, Nat.reduceAdd, Nat.reduceDiv, Int.reduceBEq, rules2, rulesX, rowsX]
    refine go_dcallI (w_impl_marked _ _ _ _ hr9) rfl rfl (Nat.le_of_ble_eq_true rfl) ?_
    try simp only [hb2, Nat.reduceBEq, Nat.reduceMul, Nat.reduceAdd, Nat.reduceDiv, Int.reduceBEq, rules2, rulesX, rowsX]
    cases h
    exact ⟨⟨rfl, trivial⟩, rfl⟩
  · rw [ite_f hb2] at h
    try simp only [hb2, Nat.reduceBEq, Nat.reduceMul, Nat.reduceAdd, Nat.reduceDiv, Int.reduceBEq, rules2, rulesX, rowsX]
    cases h
    exact ⟨⟨rfl, trivial⟩, rfl⟩
/- 11: impl_ParseShip -/
def c_impl_ParseShip_1 : ACode := .seq (.reg [(none, .keep [2, 7, 50] [2, 7] [])]) (.cond (S 50) (.seq (.reg [(none, .build 51 [aS [], aI 0, aI 0, aI 0, aI 0, aB false] []), (none, .store (S 2) (S 51) 6), (none, .mv 3 (KB false))]) .ret) .skip)
def c_impl_ParseShip_n1 : ACode := (.seq (.reg [(none, .load 52 (S 7) true 6), (none, .store (S 2) (S 52) 6), (none, .mv 3 (KB true))]) .ret)
def c_impl_ParseShip : ACode := (.seq (.reg [(none, .alloc 2 [aS [], aI 0, aI 0, aI 0, aI 0, aB false]), (none, .mv 3 (KB false))]) (.seq (.reg [(none, .mv 8 (S 0)), (none, .call 9 37 [(S 8), (KS [32])]), (none, .mv 4 (S 9))]) (.seq (.seq (.reg [(none, .mv 10 (S 4)), (none, .len 11 (S 10)), (none, .bin 12 .lss (S 11) (K 5))]) (.cond (S 12) (.seq (.reg [(none, .build 13 [aS [], aI 0, aI 0, aI 0, aI 0, aB false] []), (none, .store (S 2) (S 13) 6), (none, .mv 3 (KB false))]) .ret) .skip)) (.seq (.reg [(none, .mv 15 (S 4)), (none, .frz 576), (none, .slc 16 1 (S 15) (some (K 1)) (some (K 5)) (some (K 5))), (none, .call 17 43 [(S 16)]), (none, .mv 14 (S 17)), (none, .extr 18 (S 14) 0), (none, .extr 19 (S 14) 1), (none, .mv 5 (S 18)), (none, .mv 6 (S 19))]) (.seq (.seq (.reg [(none, .mv 20 (S 6)), (none, .un 21 .not (S 20))]) (.cond (S 21) (.seq (.reg [(none, .build 22 [aS [], aI 0, aI 0, aI 0, aI 0, aB false] []), (none, .store (S 2) (S 22) 6), (none, .mv 3 (KB false))]) .ret) .skip)) (.seq (.drw [(some [7], (none, .mv 23 (S 4))), (some [7], (none, .iaddr 24 (S 23) (K 0) 1)), (some [7], (none, .load 25 (S 24) false 1)), (some [7], (none, .mv 26 (S 5))), (some [7], (none, .iaddr 27 (S 26) (K 0) 1)), (some [7], (none, .load 28 (S 27) false 1)), (some [7], (none, .mv 29 (S 5))), (some [7], (none, .iaddr 30 (S 29) (K 1) 1)), (some [7], (none, .load 31 (S 30) false 1)), (some [7], (none, .mv 32 (S 5))), (some [7], (none, .iaddr 33 (S 32) (K 2) 1)), (some [7], (none, .load 34 (S 33) false 1)), (some [7], (none, .mv 35 (S 5))), (some [7], (none, .iaddr 36 (S 35) (K 3) 1)), (some [7], (none, .load 37 (S 36) false 1)), (some [7], (none, .mv 38 (S 4))), (some [7], (none, .len 39 (S 38))), (some [7], (none, .bin 40 .gtr (S 39) (K 5))), (some [7], (none, .build 41 [aS [], aI 0, aI 0, aI 0, aI 0, aB false] [(0, 1, (S 25)), (1, 1, (S 28)), (2, 1, (S 31)), (3, 1, (S 34)), (4, 1, (S 37)), (5, 1, (S 40))])), (some [], (none, .alloc 7 [aS [], aI 0, aI 0, aI 0, aI 0, aB false])), (none, (none, .store (S 7) (S 41) 6))]) (.seq (.seq (.reg [(none, .load 42 (S 7) true 6), (none, .call 43 16 [(S 42)]), (none, .un 44 .not (S 43)), (none, .mv 45 (S 44)), (some (45, false), .load 46 (S 7) true 6), (some (45, false), .call 47 12 [(S 46)]), (some (45, false), .mv 48 (S 0)), (some (45, false), .bin 49 .neq (S 47) (S 48)), (none, .pick 50 (S 45) (KB true) (S 49))]) c_impl_ParseShip_1) c_impl_ParseShip_n1)))))))
theorem w_impl_ParseShip_1 (x6 : List UInt8) (x7 : Int) (x8 : Int) (x9 : Int) (x10 : Int) (v14 : Bool) (v15 : Bool) (r : XShip × Bool) (h : f_impl_ParseShip_1 x6 x7 x8 x9 x10 v14 v15 = some r) (σ : St) (hσ : σ.kept [2, 7, 50] [2, 7] [] = ⟨[(2, vc (.pb 2 0)), (7, vc (.pb 7 0)), (50, vc (aB v14))], [(2, [aS ([] : List UInt8), aI (0 : Int), aI (0 : Int), aI (0 : Int), aI (0 : Int), aB false]), (7, [aS x6, aI x7, aI x8, aI x9, aI x10, aB v15])], []⟩) : go Tryd.prog (.code c_impl_ParseShip_1 :: [.code c_impl_ParseShip_n1]) (Ret [.c 2 true 6, 3] [.ag [.v (.str r.1.Name), .v (.int .i64 r.1.Length), .v (.int .i64 r.1.Draught), .v (.int .i64 r.1.Line), .v (.int .i64 r.1.Tugs), .v (.bool r.1.Slow)], .sc (.v (.bool r.2))]) .normal (some σ) := by
  unfold f_impl_ParseShip_1 at h
  rcases Bool.eq_false_or_eq_true v14 with hb16 | hb16
  · rw [ite_t hb16] at h
    try simp only [hσ, hb16, c_impl_ParseShip_1, Nat.reduceBEq, Nat.reduceMul, Nat.reduceAdd, Nat.reduceDiv, Int.reduceBEq, rules2, rulesX, rowsX]
    cases h
    try simp only [rulesR, Nat.reduceBEq, Nat.reduceMul, Nat.reduceAdd, Nat.reduceDiv, Int.reduceBEq, rules2, rulesX, rowsX]
    exact ⟨⟨⟨rfl, rfl, rfl, rfl, rfl, rfl, trivial⟩, rfl, trivial⟩, rfl⟩
  · rw [ite_f hb16] at h
    try simp only [hσ, hb16, c_impl_ParseShip_1, c_impl_ParseShip_n1, Nat.reduceBEq, Nat.reduceMul, Nat.reduceAdd, Nat.reduceDiv, Int.reduceBEq, rules2, rulesX, rowsX]
    cases h
    try simp only [rulesR, Nat.reduceBEq, Nat.reduceMul, Nat.reduceAdd, Nat.reduceDiv, Int.reduceBEq, rules2, rulesX, rowsX]
    exact ⟨⟨⟨rfl, rfl, rfl, rfl, rfl, rfl, trivial⟩, rfl, trivial⟩, rfl⟩
theorem e_impl_ParseShip : entry Tryd.prog 11 = some (c_impl_ParseShip.strip, [.c 2 true 6, 3], 53) := by kernel_rfl
theorem w_impl_ParseShip (a0 : List UInt8) (r : XShip × Bool) (h : f_impl_ParseShip a0 = some r) : FC Tryd.prog 11 [.sc (.str a0)] [.ag [.v (.str r.1.Name), .v (.int .i64 r.1.Length), .v (.int .i64 r.1.Draught), .v (.int .i64 r.1.Line), .v (.int .i64 r.1.Tugs), .v (.bool r.1.Slow)], .sc (.v (.bool r.2))] := by
  unfold f_impl_ParseShip at h
  refine FC_go (σ := ⟨[(0, vc (aS a0))], [], []⟩) mixed e_impl_ParseShip rfl rfl ?_
  simp only [c_impl_ParseShip]
  try simp only [Nat.reduceBEq, Nat.reduceMul, Nat.reduceAdd, Nat.reduceDiv, Int.reduceBEq, rules2, rulesX, rowsX]
  refine go_al rfl rfl ?_
  obtain ⟨r1, hr1, h⟩ := ob h
  try simp only [Nat.reduceBEq, Nat.reduceMul, Nat.reduceAdd, Nat.reduceDiv, Int.reduceBEq, rules2, rulesX, rowsX]
  refine go_callI (w_impl_SplitAny _ _ _ hr1) rfl rfl (Nat.le_of_ble_eq_true rfl) ?_
  rcases Bool.eq_false_or_eq_true (decide ((r1.length : Int) < (5 : Int))) with hb2 | hb2
  · rw [ite_t hb2] at h
    try simp only [hb2, Nat.reduceBEq, Nat.reduceMul, Nat.reduceAdd, Nat.reduceDiv, Int.reduceBEq, rules2, rulesX, rowsX]
    cases h
    try simp only [rulesR, Nat.reduceBEq, Nat.reduceMul, Nat.reduceAdd, Nat.reduceDiv, Int.reduceBEq, rules2, rulesX, rowsX]
    exact ⟨⟨⟨rfl, rfl, rfl, rfl, rfl, rfl, trivial⟩, rfl, trivial⟩, rfl⟩
  · rw [ite_f hb2] at h
    try simp only [hb2, Nat.reduceBEq, Nat.reduceMul, Nat.reduceAdd, Nat.reduceDiv, Int.reduceBEq, rules2, rulesX, rowsX]
    refine go_frz' rfl ?_
    obtain ⟨p3, hp3, h⟩ := ob h
    obtain ⟨r4, hr4, h⟩ := ob h
    try simp only [hb2, hp3, Nat.reduceBEq, Nat.reduceMul, Nat.reduceAdd, Nat.reduceDiv, Int.reduceBEq, rules2, rulesX, rowsX]
    refine go_callI (w_impl_parseNumbers _ _ hr4) rfl rfl (Nat.le_of_ble_eq_true rfl) ?_
    rcases Bool.eq_false_or_eq_true r4.2 with hb5 | hb5
    · rw [ite_t hb5] at h
      try simp only [hb2, hp3, hb5, Nat.reduceBEq, Nat.reduceMul, Nat.reduceAdd, Nat.reduceDiv, Int.reduceBEq, rules2, rulesX, rowsX]
      refine go_fr_of rfl ?_
      obtain ⟨x6, hx6, h⟩ := ob h
      obtain ⟨x7, hx7, h⟩ := ob h
      have hx7n := ix_get hx7
      obtain ⟨x8, hx8, h⟩ := ob h
      have hx8n := ix_get hx8
      obtain ⟨x9, hx9, h⟩ := ob h
      have hx9n := ix_get hx9
      obtain ⟨x10, hx10, h⟩ := ob h
      have hx10n := ix_get hx10
      try simp only [hb2, hp3, hb5, hx6, hx7, hx7n, hx8, hx8n, hx9, hx9n, hx10, hx10n, Nat.reduceBEq, Nat.reduceMul, Nat.reduceAdd, Nat.reduceDiv, Int.reduceBEq, rules2, rulesX, rowsX]
      refine go_al rfl rfl ?_
      try simp only [hb2, hp3, hb5, hx6, hx7, hx7n, hx8, hx8n, hx9, hx9n, hx10, hx10n, Nat.reduceBEq, Nat.reduceMul, Nat.reduceAdd, Nat.reduceDiv, Int.reduceBEq, rules2, rulesX, rowsX]
      refine go_fr_of rfl ?_
      obtain ⟨r11, hr11, h⟩ := ob h
      try simp only [hb2, hp3, hb5, hx6, hx7, hx7n, hx8, hx8n, hx9, hx9n, hx10, hx10n, Nat.reduceBEq, Nat.reduceMul, Nat.reduceAdd, Nat.reduceDiv, Int.reduceBEq, rules2, rulesX, rowsX]
      refine go_callI (w_impl_ShipOk _ _ hr11) rfl rfl (Nat.le_of_ble_eq_true rfl) ?_
      rcases Bool.eq_false_or_eq_true r11 with hb12 | hb12
      · rw [ite_t hb12] at h
        obtain ⟨r13, hr13, h⟩ := ob h
        try simp only [hb2, hp3, hb5, hx6, hx7, hx7n, hx8, hx8n, hx9, hx9n, hx10, hx10n, hb12, Nat.reduceBEq, Nat.reduceMul, Nat.reduceAdd, Nat.reduceDiv, Int.reduceBEq, rules2, rulesX, rowsX]
        refine go_callI (w_impl_FormatShip _ _ hr13) rfl rfl (Nat.le_of_ble_eq_true rfl) ?_
        try simp only [hb2, hp3, hb5, hx6, hx7, hx7n, hx8, hx8n, hx9, hx9n, hx10, hx10n, hb12, Nat.reduceBEq, Nat.reduceMul, Nat.reduceAdd, Nat.reduceDiv, Int.reduceBEq, rules2, rulesX, rowsX]
        refine w_impl_ParseShip_1 _ _ _ _ _ _ _ _ h _ ?_
        try simp only [hb2, hp3, hb5, hx6, hx7, hx7n, hx8, hx8n, hx9, hx9n, hx10, hx10n, hb12, Nat.reduceBEq, Nat.reduceMul, Nat.reduceAdd, Nat.reduceDiv, Int.reduceBEq, rules2, rulesX, rowsX, List.map_nil]
      · rw [ite_f hb12] at h
        try simp only [hb2, hp3, hb5, hx6, hx7, hx7n, hx8, hx8n, hx9, hx9n, hx10, hx10n, hb12, Nat.reduceBEq, Nat.reduceMul, Nat.reduceAdd, Nat.reduceDiv, Int.reduceBEq, rules2, rulesX, rowsX]
        refine w_impl_ParseShip_1 _ _ _ _ _ _ _ _ h _ ?_
        try simp only [hb2, hp3, hb5, hx6, hx7, hx7n, hx8, hx8n, hx9, hx9n, hx10, hx10n, hb12, Nat.reduceBEq, Nat.reduceMul, Nat.reduceAdd, Nat.reduceDiv, Int.reduceBEq, rules2, rulesX, rowsX, List.map_nil]
    · rw [ite_f hb5] at h
      try simp only [hb2, hp3, hb5, Nat.reduceBEq, Nat.reduceMul, Nat.reduceAdd, Nat.reduceDiv, Int.reduceBEq, rules2, rulesX, rowsX]
      cases h
      try simp only [rulesR, Nat.reduceBEq, Nat.reduceMul, Nat.reduceAdd, Nat.reduceDiv, Int.reduceBEq, rules2, rulesX, rowsX]
      exact ⟨⟨⟨rfl, rfl, rfl, rfl, rfl, rfl, trivial⟩, rfl, trivial⟩, rfl⟩
/- 44: impl_WindowsOk -/
def c_impl_WindowsOk_1 : ACode := .seq (.reg [(none, .keep [0, 5, 6, 7] [] [])]) (.seq (.reg [(none, .bin 8 .lss (S 7) (S 6))]) (.seq (.cond (S 8) .skip (.exit 0)) (.seq (.block 1 (.seq (.reg [(none, .mv 9 (S 7)), (none, .iaddr 10 (S 5) (S 7) 2), (none, .load 11 (S 10) true 2), (none, .alloc 4 [aI 0, aI 0]), (none, .mv 3 (S 9)), (none, .store (S 4) (S 11) 2)]) (.seq (.drw [(some [], (none, .faddr 12 (S 4) 0)), (some [], (none, .load 13 (S 12) false 1)), (some [], (none, .bin 14 .lss (S 13) (K 0))), (some [], (none, .mv 15 (S 14))), (some [], (some (15, false), .faddr 16 (S 4) 0)), (some [], (some (15, false), .load 17 (S 16) false 1)), (some [], (some (15, false), .faddr 18 (S 4) 1)), (some [], (some (15, false), .load 19 (S 18) false 1)), (some [], (some (15, false), .bin 20 .gtr (S 17) (S 19))), (some [], (none, .pick 21 (S 15) (KB true) (S 20))), (some [], (none, .mv 22 (S 21))), (some [], (some (22, false), .faddr 23 (S 4) 1)), (some [], (some (22, false), .load 24 (S 23) false 1)), (some [], (some (22, false), .bin 25 .gtr (S 24) (K 2880))), (some [], (none, .pick 26 (S 22) (KB true) (S 25))), (some [], (none, .mv 27 (S 26))), (some [], (some (27, false), .mv 28 (S 3))), (some [], (some (27, false), .bin 29 .gtr (S 28) (K 0))), (some [], (some (27, false), .mv 30 (S 29))), (some [], (some (30, true), .mv 31 (S 0))), (some [], (some (30, true), .mv 32 (S 3))), (some [], (some (30, true), .bin 33 .sub (S 32) (K 1))), (some [], (some (30, true), .iaddr 34 (S 31) (S 33) 2)), (some [], (some (30, true), .faddr 35 (S 34) 1)), (some [], (some (30, true), .load 36 (S 35) false 1)), (some [], (some (30, true), .bin 37 .add (S 36) (K 1))), (some [], (some (30, true), .faddr 38 (S 4) 0)), (some [], (some (30, true), .load 39 (S 38) false 1)), (some [], (some (30, true), .bin 40 .geq (S 37) (S 39))), (some [], (some (27, false), .pick 41 (S 30) (S 40) (KB false))), (some [], (none, .pick 42 (S 27) (KB true) (S 41)))]) (.cond (S 42) (.seq (.reg [(none, .mv 2 (KB false))]) .ret) .skip)))) (.reg [(none, .bin 43 .add (S 7) (K 1)), (none, .mv 7 (S 43))]))))
def c_impl_WindowsOk_n1 : ACode := (.seq (.reg [(none, .mv 2 (KB true))]) .ret)
def c_impl_WindowsOk : ACode := (.seq (.reg [(none, .mv 2 (KB false))]) (.seq (.seq (.reg [(none, .mv 5 (S 0)), (none, .len 6 (S 5)), (none, .mv 7 (K 0))]) (.block 0 (.loop c_impl_WindowsOk_1))) c_impl_WindowsOk_n1))
theorem w_impl_WindowsOk_1 (a0 : List XWindow) : ∀ (n : Nat) (v1 : Int) (r : Bool), f_impl_WindowsOk_1 a0 n v1 = some r → ∀ σ : St, σ.kept [0, 5, 6, 7] [] [] = ⟨[(0, vc (aL (List.map XWindow.row a0))), (5, vc (aL (List.map XWindow.row a0))), (6, vc (aI (a0.length : Int))), (7, vc (aI v1))], [], []⟩ → go Tryd.prog (.code (.loop c_impl_WindowsOk_1) :: [.blk 0, .code c_impl_WindowsOk_n1]) (Ret [2] [.sc (.v (.bool r))]) .normal (some σ) := by
  intro n
  induction n with
  | zero => intro _ r h; cases h
  | succ n ih =>
    intro v1 r h σ hσ
    rw [f_impl_WindowsOk_1] at h
    refine go_round ?_
    rcases Bool.eq_false_or_eq_true (decide (v1 < (a0.length : Int))) with hb2 | hb2
    · rw [ite_t hb2] at h
      obtain ⟨x3, hx3, h⟩ := ob h
      try simp only [hσ, hb2, hx3, c_impl_WindowsOk_1, Nat.reduceBEq, Nat.reduceMul, Nat.reduceAdd, Nat.reduceDiv, Int.reduceBEq, rules2, rulesX, rowsX]
      refine go_al rfl rfl ?_
      try simp only [hb2, hx3, Nat.reduceBEq, Nat.reduceMul, Nat.reduceAdd, Nat.reduceDiv, Int.reduceBEq, rules2, rulesX, rowsX]
      refine go_fr_of rfl ?_
      rcases Bool.eq_false_or_eq_true (decide (x3.From < (0 : Int))) with hb4 | hb4
      · rw [ite_t hb4] at h
        try simp only [hb2, hx3, hb4, Nat.reduceBEq, Nat.reduceMul, Nat.reduceAdd, Nat.reduceDiv, Int.reduceBEq, rules2, rulesX, rowsX]
        cases h
        exact ⟨⟨rfl, trivial⟩, rfl⟩
      · rw [ite_f hb4] at h
        rcases Bool.eq_false_or_eq_true (decide (x3.To < x3.From)) with hb5 | hb5
        · rw [ite_t hb5] at h
          try simp only [hb2, hx3, hb4, hb5, Nat.reduceBEq, Nat.reduceMul, Nat.reduceAdd, Nat.reduceDiv, Int.reduceBEq, rules2, rulesX, rowsX]
          cases h
          exact ⟨⟨rfl, trivial⟩, rfl⟩
        · rw [ite_f hb5] at h
          rcases Bool.eq_false_or_eq_true (decide ((2880 : Int) < x3.To)) with hb6 | hb6
          · rw [ite_t hb6] at h
            try simp only [hb2, hx3, hb4, hb5, hb6, Nat.reduceBEq, Nat.reduceMul, Nat.reduceAdd, Nat.reduceDiv, Int.reduceBEq, rules2, rulesX, rowsX]
            cases h
            exact ⟨⟨rfl, trivial⟩, rfl⟩
          · rw [ite_f hb6] at h
            rcases Bool.eq_false_or_eq_true (decide ((0 : Int) < v1)) with hb7 | hb7
            · rw [ite_t hb7] at h
              obtain ⟨x8, hx8, h⟩ := ob h
              rcases Bool.eq_false_or_eq_true (decide (x3.From ≤ (IntKind.i64.wrap (x8.To + (1 : Int))))) with hb9 | hb9
              · rw [ite_t hb9] at h
                try simp only [hb2, hx3, hb4, hb5, hb6, hb7, hx8, hb9, Nat.reduceBEq, Nat.reduceMul, Nat.reduceAdd, Nat.reduceDiv, Int.reduceBEq, rules2, rulesX, rowsX]
                cases h
                exact ⟨⟨rfl, trivial⟩, rfl⟩
              · rw [ite_f hb9] at h
                try simp only [hb2, hx3, hb4, hb5, hb6, hb7, hx8, hb9, Nat.reduceBEq, Nat.reduceMul, Nat.reduceAdd, Nat.reduceDiv, Int.reduceBEq, rules2, rulesX, rowsX]
                refine ih _ _ h _ ?_
                try simp only [hb2, hx3, hb4, hb5, hb6, hb7, hx8, hb9, Nat.reduceBEq, Nat.reduceMul, Nat.reduceAdd, Nat.reduceDiv, Int.reduceBEq, rules2, rulesX, rowsX, List.map_nil]
            · rw [ite_f hb7] at h
              try simp only [hb2, hx3, hb4, hb5, hb6, hb7, Nat.reduceBEq, Nat.reduceMul, Nat.reduceAdd, Nat.reduceDiv, Int.reduceBEq, rules2, rulesX, rowsX]
              refine ih _ _ h _ ?_
              try simp only [hb2, hx3, hb4, hb5, hb6, hb7, Nat.reduceBEq, Nat.reduceMul, Nat.reduceAdd, Nat.reduceDiv, Int.reduceBEq, rules2, rulesX, rowsX, List.map_nil]
    · rw [ite_f hb2] at h
      try simp only [hσ, hb2, c_impl_WindowsOk_1, c_impl_WindowsOk_n1, Nat.reduceBEq, Nat.reduceMul, Nat.reduceAdd, Nat.reduceDiv, Int.reduceBEq, rules2, rulesX, rowsX]
      cases h
      exact ⟨⟨rfl, trivial⟩, rfl⟩
theorem e_impl_WindowsOk : entry Tryd.prog 44 = some (c_impl_WindowsOk.strip, [2], 44) := by kernel_rfl
theorem w_impl_WindowsOk (a0 : List XWindow) (r : Bool) (h : f_impl_WindowsOk a0 = some r) : FC Tryd.prog 44 [.sc (.sl (List.map XWindow.row a0))] [.sc (.v (.bool r))] := by
  unfold f_impl_WindowsOk at h
  refine FC_go (σ := ⟨[(0, vc (aL (List.map XWindow.row a0)))], [], []⟩) mixed e_impl_WindowsOk rfl rfl ?_
  simp only [c_impl_WindowsOk]
  try simp only [Nat.reduceBEq, Nat.reduceMul, Nat.reduceAdd, Nat.reduceDiv, Int.reduceBEq, rules2, rulesX, rowsX]
  refine w_impl_WindowsOk_1 _ _ _ _ h _ ?_
  try simp only [Nat.reduceBEq, Nat.reduceMul, Nat.reduceAdd, Nat.reduceDiv, Int.reduceBEq, rules2, rulesX, rowsX, List.map_nil]
/- 14: impl_FormatWindows -/
def c_impl_FormatWindows_1 : ACode := .seq (.reg [(none, .keep [3, 13, 14, 15] [] [768])]) (.seq (.reg [(none, .bin 16 .lss (S 15) (S 14))]) (.seq (.cond (S 16) .skip (.exit 0)) (.seq (.block 1 (.seq (.reg [(none, .iaddr 17 (S 13) (S 15) 2), (none, .load 18 (S 17) true 2), (none, .alloc 5 [aI 0, aI 0]), (none, .store (S 5) (S 18) 2)]) (.drw [(some [22, 26, 28], (none, .mv 19 (S 3))), (some [], (none, .faddr 20 (S 5) 0)), (some [], (none, .load 21 (S 20) false 1)), (some [], (none, .call 22 41 [(S 21)])), (some [26], (none, .bin 23 .add (S 22) (KS [45]))), (some [22], (none, .faddr 24 (S 5) 1)), (some [22], (none, .load 25 (S 24) false 1)), (some [], (none, .call 26 41 [(S 25)])), (some [], (none, .bin 27 .add (S 23) (S 26))), (some [], (none, .bslice 28 1 [.str []] 1 [(0, (S 27))])), (none, (none, .app 29 1 16 (S 19) (S 28))), (some [], (none, .mv 3 (S 29)))]))) (.reg [(none, .bin 30 .add (S 15) (K 1)), (none, .mv 15 (S 30))]))))
def c_impl_FormatWindows_n1 : ACode := (.seq (.reg [(none, .mv 31 (S 3)), (none, .call 32 42 [(S 31), (KS [32])]), (none, .mv 2 (S 32))]) .ret)
def c_impl_FormatWindows : ACode := (.seq (.reg [(none, .mv 2 (KS []))]) (.seq (.seq (.reg [(none, .mv 6 (S 0)), (none, .call 7 44 [(S 6)]), (none, .un 8 .not (S 7))]) (.cond (S 8) (.seq (.reg [(none, .mv 2 (KS []))]) .ret) .skip)) (.seq (.seq (.reg [(none, .mv 9 (S 0)), (none, .len 10 (S 9)), (none, .bin 11 .eql (S 10) (K 0))]) (.cond (S 11) (.seq (.reg [(none, .mv 2 (KS [110, 111, 110, 101]))]) .ret) .skip)) (.seq (.reg [(none, .bslice 12 1 [.str []] 0 []), (none, .mv 3 (S 12))]) (.seq (.seq (.reg [(none, .mv 13 (S 0)), (none, .len 14 (S 13)), (none, .mv 15 (K 0))]) (.block 0 (.loop c_impl_FormatWindows_1))) c_impl_FormatWindows_n1)))))
theorem w_impl_FormatWindows_1 (a0 : List XWindow) : ∀ (n : Nat) (v4 : Int) (v5 : List (List UInt8)) (r : (List UInt8)), f_impl_FormatWindows_1 a0 n v4 v5 = some r → ∀ σ : St, σ.kept [3, 13, 14, 15] [] [768] = ⟨[(3, vc (.own 768)), (13, vc (aL (List.map XWindow.row a0))), (14, vc (aI (a0.length : Int))), (15, vc (aI v4))], [], [(768, 1, List.map rS v5)]⟩ → go Tryd.prog (.code (.loop c_impl_FormatWindows_1) :: [.blk 0, .code c_impl_FormatWindows_n1]) (Ret [2] [.sc (.v (.str r))]) .normal (some σ) := by
  intro n
  induction n with
  | zero => intro _ _ r h; cases h
  | succ n ih =>
    intro v4 v5 r h σ hσ
    rw [f_impl_FormatWindows_1] at h
    refine go_round ?_
    rcases Bool.eq_false_or_eq_true (decide (v4 < (a0.length : Int))) with hb6 | hb6
    · rw [ite_t hb6] at h
      obtain ⟨x7, hx7, h⟩ := ob h
      try simp only [hσ, hb6, hx7, c_impl_FormatWindows_1, Nat.reduceBEq, Nat.reduceMul, Nat.reduceAdd, Nat.reduceDiv, Int.reduceBEq, rules2, rulesX, rowsX]
      refine go_al rfl rfl ?_
      try simp only [hb6, hx7, Nat.reduceBEq, Nat.reduceMul, Nat.reduceAdd, Nat.reduceDiv, Int.reduceBEq, rules2, rulesX, rowsX]
      refine go_fr_of rfl ?_
      obtain ⟨r9, hr9, h⟩ := ob h
      try simp only [hb6, hx7, Nat.reduceBEq, Nat.reduceMul, Nat.reduceAdd, Nat.reduceDiv, Int.reduceBEq, rules2, rulesX, rowsX]
      refine go_dcallI (w_impl_FormatInt _ _ hr9) rfl rfl (Nat.le_of_ble_eq_true rfl) ?_
      obtain ⟨hg10, h⟩ := of_guard h
      obtain ⟨r11, hr11, h⟩ := ob h
      try simp only [hb6, hx7, hg10, Nat.reduceBEq, Nat.reduceMul, Nat.reduceAdd, Nat.reduceDiv, Int.reduceBEq, rules2, rulesX, rowsX]
      refine go_dcallI (w_impl_FormatInt _ _ hr11) rfl rfl (Nat.le_of_ble_eq_true rfl) ?_
      obtain ⟨hg12, h⟩ := of_guard h
      try simp only [hb6, hx7, hg10, hg12, Nat.reduceBEq, Nat.reduceMul, Nat.reduceAdd, Nat.reduceDiv, Int.reduceBEq, rules2, rulesX, rowsX]
      refine go_bsl (es := List.map rS ([((r9 ++ ([45] : List UInt8)) ++ r11)] : List (List UInt8))) rfl rfl ?_
      obtain ⟨hg13, h⟩ := of_guard h
      try simp only [List.cons_append, List.nil_append] at hg13
      try simp only [hb6, hx7, hg10, hg12, hg13, Nat.reduceBEq, Nat.reduceMul, Nat.reduceAdd, Nat.reduceDiv, Int.reduceBEq, rules2, rulesX, rowsX]
      refine go_fr_of rfl ?_
      try simp only [hb6, hx7, hg10, hg12, hg13, Nat.reduceBEq, Nat.reduceMul, Nat.reduceAdd, Nat.reduceDiv, Int.reduceBEq, rules2, rulesX, rowsX]
      refine ih _ _ _ h _ ?_
      try simp only [hb6, hx7, hg10, hg12, hg13, Nat.reduceBEq, Nat.reduceMul, Nat.reduceAdd, Nat.reduceDiv, Int.reduceBEq, rules2, rulesX, rowsX, List.map_nil]
    · rw [ite_f hb6] at h
      obtain ⟨r14, hr14, h⟩ := ob h
      try simp only [hσ, hb6, c_impl_FormatWindows_1, c_impl_FormatWindows_n1, Nat.reduceBEq, Nat.reduceMul, Nat.reduceAdd, Nat.reduceDiv, Int.reduceBEq, rules2, rulesX, rowsX]
      refine go_call (w_impl_Join _ _ _ hr14) rfl (flat_of rfl) rfl (Nat.le_of_ble_eq_true rfl) ?_
      try simp only [hb6, Nat.reduceBEq, Nat.reduceMul, Nat.reduceAdd, Nat.reduceDiv, Int.reduceBEq, rules2, rulesX, rowsX]
      cases h
      exact ⟨⟨rfl, trivial⟩, rfl⟩
theorem e_impl_FormatWindows : entry Tryd.prog 14 = some (c_impl_FormatWindows.strip, [2], 33) := by kernel_rfl
theorem w_impl_FormatWindows (a0 : List XWindow) (r : (List UInt8)) (h : f_impl_FormatWindows a0 = some r) : FC Tryd.prog 14 [.sc (.sl (List.map XWindow.row a0))] [.sc (.v (.str r))] := by
  unfold f_impl_FormatWindows at h
  refine FC_go (σ := ⟨[(0, vc (aL (List.map XWindow.row a0)))], [], []⟩) mixed e_impl_FormatWindows rfl rfl ?_
  simp only [c_impl_FormatWindows]
  obtain ⟨r1, hr1, h⟩ := ob h
  try simp only [Nat.reduceBEq, Nat.reduceMul, Nat.reduceAdd, Nat.reduceDiv, Int.reduceBEq, rules2, rulesX, rowsX]
  refine go_callI (w_impl_WindowsOk _ _ hr1) rfl rfl (Nat.le_of_ble_eq_true rfl) ?_
  rcases Bool.eq_false_or_eq_true r1 with hb2 | hb2
  · rw [ite_t hb2] at h
    rcases Bool.eq_false_or_eq_true ((a0.length : Int) == (0 : Int)) with hb3 | hb3
    · rw [ite_t hb3] at h
      try simp only [hb2, hb3, Nat.reduceBEq, Nat.reduceMul, Nat.reduceAdd, Nat.reduceDiv, Int.reduceBEq, rules2, rulesX, rowsX]
      cases h
      exact ⟨⟨rfl, trivial⟩, rfl⟩
    · rw [ite_f hb3] at h
      try simp only [hb2, hb3, Nat.reduceBEq, Nat.reduceMul, Nat.reduceAdd, Nat.reduceDiv, Int.reduceBEq, rules2, rulesX, rowsX]
      refine go_bsl (es := List.map rS ([] : List (List UInt8))) rfl rfl ?_
      try simp only [hb2, hb3, Nat.reduceBEq, Nat.reduceMul, Nat.reduceAdd, Nat.reduceDiv, Int.reduceBEq, rules2, rulesX, rowsX]
      refine w_impl_FormatWindows_1 _ _ _ _ _ h _ ?_
      try simp only [hb2, hb3, Nat.reduceBEq, Nat.reduceMul, Nat.reduceAdd, Nat.reduceDiv, Int.reduceBEq, rules2, rulesX, rowsX, List.map_nil]
  · rw [ite_f hb2] at h
    try simp only [hb2, Nat.reduceBEq, Nat.reduceMul, Nat.reduceAdd, Nat.reduceDiv, Int.reduceBEq, rules2, rulesX, rowsX]
    cases h
    exact ⟨⟨rfl, trivial⟩, rfl⟩
/- 13: impl_ParseWindows -/
def c_impl_ParseWindows_2 : ACode := .seq (.reg [(none, .keep [0, 4, 7, 14, 15, 16, 32] [] [576, 1472, 896])]) (.cond (S 32) (.seq (.reg [(none, .mv 2 KN), (none, .mv 3 (KB false))]) .ret) .skip)
def c_impl_ParseWindows_n2 : ACode := (.drw [(some [41], (none, .mv 33 (S 4))), (some [], (none, .mv 34 (S 7))), (some [], (none, .iaddr 35 (S 34) (K 0) 1)), (some [], (none, .load 36 (S 35) false 1)), (some [], (none, .mv 37 (S 7))), (some [], (none, .iaddr 38 (S 37) (K 1) 1)), (some [], (none, .load 39 (S 38) false 1)), (some [], (none, .build 40 [aI 0, aI 0] [(0, 1, (S 36)), (1, 1, (S 39))])), (some [], (none, .bslice 41 2 [.int .i64 0, .int .i64 0] 1 [(0, (S 40))])), (none, (none, .app 42 2 16 (S 33) (S 41))), (some [], (none, .mv 4 (S 42)))])
def c_impl_ParseWindows_n3 : ACode := (.reg [(none, .bin 43 .add (S 16) (K 1)), (none, .mv 16 (S 43))])
def c_impl_ParseWindows_1 : ACode := .seq (.reg [(none, .keep [0, 4, 14, 15, 16] [] [576, 896])]) (.seq (.reg [(none, .bin 17 .lss (S 16) (S 15))]) (.seq (.cond (S 17) .skip (.exit 0)) (.seq (.block 1 (.seq (.reg [(none, .iaddr 18 (S 14) (S 16) 1), (none, .load 19 (S 18) false 1), (none, .mv 6 (S 19))]) (.seq (.reg [(none, .mv 21 (S 6)), (none, .call 22 37 [(S 21), (KS [45])]), (none, .call 23 43 [(S 22)]), (none, .mv 20 (S 23)), (none, .extr 24 (S 20) 0), (none, .extr 25 (S 20) 1), (none, .mv 7 (S 24)), (none, .mv 8 (S 25))]) (.seq (.seq (.reg [(none, .mv 26 (S 8)), (none, .un 27 .not (S 26)), (none, .mv 28 (S 27)), (some (28, false), .mv 29 (S 7)), (some (28, false), .len 30 (S 29)), (some (28, false), .bin 31 .neq (S 30) (K 2)), (none, .pick 32 (S 28) (KB true) (S 31))]) c_impl_ParseWindows_2) c_impl_ParseWindows_n2)))) c_impl_ParseWindows_n3)))
def c_impl_ParseWindows_3 : ACode := .seq (.reg [(none, .keep [4, 52] [] [576])]) (.cond (S 52) (.seq (.reg [(none, .mv 2 KN), (none, .mv 3 (KB false))]) .ret) .skip)
def c_impl_ParseWindows_n4 : ACode := (.seq (.reg [(none, .mv 53 (S 4)), (none, .mv 2 (S 53)), (none, .mv 3 (KB true))]) .ret)
def c_impl_ParseWindows_n1 : ACode := (.seq (.seq (.reg [(none, .mv 44 (S 4)), (none, .call 45 44 [(S 44)]), (none, .un 46 .not (S 45)), (none, .mv 47 (S 46)), (some (47, false), .mv 48 (S 4)), (some (47, false), .call 49 14 [(S 48)]), (some (47, false), .mv 50 (S 0)), (some (47, false), .bin 51 .neq (S 49) (S 50)), (none, .pick 52 (S 47) (KB true) (S 51))]) c_impl_ParseWindows_3) c_impl_ParseWindows_n4)
def c_impl_ParseWindows : ACode := (.seq (.reg [(none, .mv 2 KN), (none, .mv 3 (KB false))]) (.seq (.reg [(none, .bslice 9 2 [.int .i64 0, .int .i64 0] 0 []), (none, .mv 4 (S 9))]) (.seq (.seq (.reg [(none, .mv 10 (S 0)), (none, .bin 11 .eql (S 10) (KS [110, 111, 110, 101]))]) (.cond (S 11) (.seq (.reg [(none, .mv 12 (S 4)), (none, .mv 2 (S 12)), (none, .mv 3 (KB true))]) .ret) .skip)) (.seq (.seq (.reg [(none, .mv 13 (S 0)), (none, .call 14 37 [(S 13), (KS [32])]), (none, .len 15 (S 14)), (none, .mv 16 (K 0))]) (.block 0 (.loop c_impl_ParseWindows_1))) c_impl_ParseWindows_n1))))
theorem w_impl_ParseWindows_2 (a0 : List UInt8) (r2 : (List (List UInt8))) (v3 : Int) (v4 : List XWindow) (r9 : (List Int) × Bool) (k_impl_ParseWindows_1 : Int → (List XWindow) → Option ((List XWindow) × Bool)) (hk_impl_ParseWindows_1 : ∀ (v3 : Int) (v4 : List XWindow) zr, k_impl_ParseWindows_1 v3 v4 = some zr → ∀ σ : St, σ.kept [0, 4, 14, 15, 16] [] [576, 896] = ⟨[(0, vc (aS a0)), (4, vc (.own 576)), (14, vc (.own 896)), (15, vc (aI (r2.length : Int))), (16, vc (aI v3))], [], [(576, 2, List.map XWindow.row v4), (896, 1, List.map rS r2)]⟩ → go Tryd.prog (.code (.loop c_impl_ParseWindows_1) :: [.blk 0, .code c_impl_ParseWindows_n1]) (Ret [2, 3] [.sc (.o 2 (List.map XWindow.row zr.1)), .sc (.v (.bool zr.2))]) .normal (some σ)) (v11 : Bool) (r : (List XWindow) × Bool) (h : f_impl_ParseWindows_2 a0 r2 v3 v4 r9 k_impl_ParseWindows_1 v11 = some r) (σ : St) (hσ : σ.kept [0, 4, 7, 14, 15, 16, 32] [] [576, 1472, 896] = ⟨[(0, vc (aS a0)), (4, vc (.own 576)), (7, vc (.own 1472)), (14, vc (.own 896)), (15, vc (aI (r2.length : Int))), (16, vc (aI v3)), (32, vc (aB v11))], [], [(576, 2, List.map XWindow.row v4), (1472, 1, List.map rI r9.1), (896, 1, List.map rS r2)]⟩) : go Tryd.prog (.code c_impl_ParseWindows_2 :: [.code c_impl_ParseWindows_n2, .blk 1, .code c_impl_ParseWindows_n3, .code (.loop c_impl_ParseWindows_1), .blk 0, .code c_impl_ParseWindows_n1]) (Ret [2, 3] [.sc (.o 2 (List.map XWindow.row r.1)), .sc (.v (.bool r.2))]) .normal (some σ) := by
  unfold f_impl_ParseWindows_2 at h
  rcases Bool.eq_false_or_eq_true v11 with hb12 | hb12
  · rw [ite_t hb12] at h
    try simp only [hσ, hb12, c_impl_ParseWindows_2, Nat.reduceBEq, Nat.reduceMul, Nat.reduceAdd, Nat.reduceDiv, Int.reduceBEq, rules2, rulesX, rowsX]
    cases h
    exact ⟨⟨rfl, rfl, trivial⟩, rfl⟩
  · rw [ite_f hb12] at h
    try simp only [hσ, hb12, c_impl_ParseWindows_2, c_impl_ParseWindows_n2, Nat.reduceBEq, Nat.reduceMul, Nat.reduceAdd, Nat.reduceDiv, Int.reduceBEq, rules2, rulesX, rowsX]
    refine go_fr_of rfl ?_
    obtain ⟨x13, hx13, h⟩ := ob h
    have hx13n := ix_get hx13
    obtain ⟨x14, hx14, h⟩ := ob h
    have hx14n := ix_get hx14
    try simp only [hb12, hx13, hx13n, hx14, hx14n, Nat.reduceBEq, Nat.reduceMul, Nat.reduceAdd, Nat.reduceDiv, Int.reduceBEq, rules2, rulesX, rowsX]
    refine go_bsl (es := List.map XWindow.row ([(⟨x13, x14⟩ : XWindow)] : List XWindow)) rfl rfl ?_
    obtain ⟨hg15, h⟩ := of_guard h
    try simp only [hb12, hx13, hx13n, hx14, hx14n, hg15, Nat.reduceBEq, Nat.reduceMul, Nat.reduceAdd, Nat.reduceDiv, Int.reduceBEq, rules2, rulesX, rowsX]
    refine go_fr_of rfl ?_
    try simp only [hb12, hx13, hx13n, hx14, hx14n, hg15, c_impl_ParseWindows_n3, Nat.reduceBEq, Nat.reduceMul, Nat.reduceAdd, Nat.reduceDiv, Int.reduceBEq, rules2, rulesX, rowsX]
    refine hk_impl_ParseWindows_1 _ _ _ h _ ?_
    try simp only [hb12, hx13, hx13n, hx14, hx14n, hg15, Nat.reduceBEq, Nat.reduceMul, Nat.reduceAdd, Nat.reduceDiv, Int.reduceBEq, rules2, rulesX, rowsX, List.map_nil]
theorem w_impl_ParseWindows_3 (v4 : List XWindow) (v19 : Bool) (r : (List XWindow) × Bool) (h : f_impl_ParseWindows_3 v4 v19 = some r) (σ : St) (hσ : σ.kept [4, 52] [] [576] = ⟨[(4, vc (.own 576)), (52, vc (aB v19))], [], [(576, 2, List.map XWindow.row v4)]⟩) : go Tryd.prog (.code c_impl_ParseWindows_3 :: [.code c_impl_ParseWindows_n4]) (Ret [2, 3] [.sc (.o 2 (List.map XWindow.row r.1)), .sc (.v (.bool r.2))]) .normal (some σ) := by
  unfold f_impl_ParseWindows_3 at h
  rcases Bool.eq_false_or_eq_true v19 with hb20 | hb20
  · rw [ite_t hb20] at h
    try simp only [hσ, hb20, c_impl_ParseWindows_3, Nat.reduceBEq, Nat.reduceMul, Nat.reduceAdd, Nat.reduceDiv, Int.reduceBEq, rules2, rulesX, rowsX]
    cases h
    exact ⟨⟨rfl, rfl, trivial⟩, rfl⟩
  · rw [ite_f hb20] at h
    try simp only [hσ, hb20, c_impl_ParseWindows_3, c_impl_ParseWindows_n4, Nat.reduceBEq, Nat.reduceMul, Nat.reduceAdd, Nat.reduceDiv, Int.reduceBEq, rules2, rulesX, rowsX]
    cases h
    exact ⟨⟨rfl, rfl, trivial⟩, rfl⟩
theorem w_impl_ParseWindows_1 (a0 : List UInt8) (r2 : (List (List UInt8))) : ∀ (n : Nat) (v3 : Int) (v4 : List XWindow) (r : (List XWindow) × Bool), f_impl_ParseWindows_1 a0 r2 n v3 v4 = some r → ∀ σ : St, σ.kept [0, 4, 14, 15, 16] [] [576, 896] = ⟨[(0, vc (aS a0)), (4, vc (.own 576)), (14, vc (.own 896)), (15, vc (aI (r2.length : Int))), (16, vc (aI v3))], [], [(576, 2, List.map XWindow.row v4), (896, 1, List.map rS r2)]⟩ → go Tryd.prog (.code (.loop c_impl_ParseWindows_1) :: [.blk 0, .code c_impl_ParseWindows_n1]) (Ret [2, 3] [.sc (.o 2 (List.map XWindow.row r.1)), .sc (.v (.bool r.2))]) .normal (some σ) := by
  intro n
  induction n with
  | zero => intro _ _ r h; cases h
  | succ n ih =>
    intro v3 v4 r h σ hσ
    rw [f_impl_ParseWindows_1] at h
    refine go_round ?_
    rcases Bool.eq_false_or_eq_true (decide (v3 < (r2.length : Int))) with hb5 | hb5
    · rw [ite_t hb5] at h
      obtain ⟨x6, hx6, h⟩ := ob h
      have hx6n := ix_get hx6
      obtain ⟨r7, hr7, h⟩ := ob h
      try simp only [hσ, hb5, hx6, hx6n, c_impl_ParseWindows_1, Nat.reduceBEq, Nat.reduceMul, Nat.reduceAdd, Nat.reduceDiv, Int.reduceBEq, rules2, rulesX, rowsX]
      refine go_callI (w_impl_SplitAny _ _ _ hr7) rfl rfl (Nat.le_of_ble_eq_true rfl) ?_
      obtain ⟨r9, hr9, h⟩ := ob h
      try simp only [hb5, hx6, hx6n, Nat.reduceBEq, Nat.reduceMul, Nat.reduceAdd, Nat.reduceDiv, Int.reduceBEq, rules2, rulesX, rowsX]
      refine go_call (w_impl_parseNumbers _ _ hr9) rfl (flat_l rfl ⟨flat_o, rfl, trivial⟩) rfl (Nat.le_of_ble_eq_true rfl) ?_
      rcases Bool.eq_false_or_eq_true r9.2 with hb10 | hb10
      · rw [ite_t hb10] at h
        try simp only [hb5, hx6, hx6n, hb10, Nat.reduceBEq, Nat.reduceMul, Nat.reduceAdd, Nat.reduceDiv, Int.reduceBEq, rules2, rulesX, rowsX]
        refine w_impl_ParseWindows_2 _ _ _ _ _ (f_impl_ParseWindows_1 a0 r2 n) ih _ _ h _ ?_
        try simp only [hb5, hx6, hx6n, hb10, Nat.reduceBEq, Nat.reduceMul, Nat.reduceAdd, Nat.reduceDiv, Int.reduceBEq, rules2, rulesX, rowsX, List.map_nil]
      · rw [ite_f hb10] at h
        try simp only [hb5, hx6, hx6n, hb10, Nat.reduceBEq, Nat.reduceMul, Nat.reduceAdd, Nat.reduceDiv, Int.reduceBEq, rules2, rulesX, rowsX]
        refine w_impl_ParseWindows_2 _ _ _ _ _ (f_impl_ParseWindows_1 a0 r2 n) ih _ _ h _ ?_
        try simp only [hb5, hx6, hx6n, hb10, Nat.reduceBEq, Nat.reduceMul, Nat.reduceAdd, Nat.reduceDiv, Int.reduceBEq, rules2, rulesX, rowsX, List.map_nil]
    · rw [ite_f hb5] at h
      obtain ⟨r16, hr16, h⟩ := ob h
      try simp only [hσ, hb5, c_impl_ParseWindows_1, c_impl_ParseWindows_n1, Nat.reduceBEq, Nat.reduceMul, Nat.reduceAdd, Nat.reduceDiv, Int.reduceBEq, rules2, rulesX, rowsX]
      refine go_call (w_impl_WindowsOk _ _ hr16) rfl (flat_of rfl) rfl (Nat.le_of_ble_eq_true rfl) ?_
      rcases Bool.eq_false_or_eq_true r16 with hb17 | hb17
      · rw [ite_t hb17] at h
        obtain ⟨r18, hr18, h⟩ := ob h
        try simp only [hb5, hb17, Nat.reduceBEq, Nat.reduceMul, Nat.reduceAdd, Nat.reduceDiv, Int.reduceBEq, rules2, rulesX, rowsX]
        refine go_call (w_impl_FormatWindows _ _ hr18) rfl (flat_of rfl) rfl (Nat.le_of_ble_eq_true rfl) ?_
        try simp only [hb5, hb17, Nat.reduceBEq, Nat.reduceMul, Nat.reduceAdd, Nat.reduceDiv, Int.reduceBEq, rules2, rulesX, rowsX]
        refine w_impl_ParseWindows_3 _ _ _ h _ ?_
        try simp only [hb5, hb17, Nat.reduceBEq, Nat.reduceMul, Nat.reduceAdd, Nat.reduceDiv, Int.reduceBEq, rules2, rulesX, rowsX, List.map_nil]
      · rw [ite_f hb17] at h
        try simp only [hb5, hb17, Nat.reduceBEq, Nat.reduceMul, Nat.reduceAdd, Nat.reduceDiv, Int.reduceBEq, rules2, rulesX, rowsX]
        refine w_impl_ParseWindows_3 _ _ _ h _ ?_
        try simp only [hb5, hb17, Nat.reduceBEq, Nat.reduceMul, Nat.reduceAdd, Nat.reduceDiv, Int.reduceBEq, rules2, rulesX, rowsX, List.map_nil]
theorem e_impl_ParseWindows : entry Tryd.prog 13 = some (c_impl_ParseWindows.strip, [2, 3], 54) := by kernel_rfl
theorem w_impl_ParseWindows (a0 : List UInt8) (r : (List XWindow) × Bool) (h : f_impl_ParseWindows a0 = some r) : FC Tryd.prog 13 [.sc (.str a0)] [.sc (.o 2 (List.map XWindow.row r.1)), .sc (.v (.bool r.2))] := by
  unfold f_impl_ParseWindows at h
  refine FC_go (σ := ⟨[(0, vc (aS a0))], [], []⟩) mixed e_impl_ParseWindows rfl rfl ?_
  simp only [c_impl_ParseWindows]
  try simp only [Nat.reduceBEq, Nat.reduceMul, Nat.reduceAdd, Nat.reduceDiv, Int.reduceBEq, rules2, rulesX, rowsX]
  refine go_bsl (es := List.map XWindow.row ([] : List XWindow)) rfl rfl ?_
  rcases Bool.eq_false_or_eq_true (a0 == ([110, 111, 110, 101] : List UInt8)) with hb1 | hb1
  · rw [ite_t hb1] at h
    try simp only [hb1, Nat.reduceBEq, Nat.reduceMul, Nat.reduceAdd, Nat.reduceDiv, Int.reduceBEq, rules2, rulesX, rowsX]
    cases h
    exact ⟨⟨rfl, rfl, trivial⟩, rfl⟩
  · rw [ite_f hb1] at h
    obtain ⟨r2, hr2, h⟩ := ob h
    try simp only [hb1, Nat.reduceBEq, Nat.reduceMul, Nat.reduceAdd, Nat.reduceDiv, Int.reduceBEq, rules2, rulesX, rowsX]
    refine go_callI (w_impl_SplitAny _ _ _ hr2) rfl rfl (Nat.le_of_ble_eq_true rfl) ?_
    try simp only [hb1, Nat.reduceBEq, Nat.reduceMul, Nat.reduceAdd, Nat.reduceDiv, Int.reduceBEq, rules2, rulesX, rowsX]
    refine w_impl_ParseWindows_1 _ _ _ _ _ _ h _ ?_
    try simp only [hb1, Nat.reduceBEq, Nat.reduceMul, Nat.reduceAdd, Nat.reduceDiv, Int.reduceBEq, rules2, rulesX, rowsX, List.map_nil]
end Go.Vi
