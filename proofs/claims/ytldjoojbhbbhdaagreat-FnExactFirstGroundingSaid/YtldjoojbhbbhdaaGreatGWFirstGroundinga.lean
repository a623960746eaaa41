/-
  Walks: what the plain definitions compute is what the functions return. By program. No condition.
-/
import Derived.Test.YtldjoojbhbbhdaaGreatGNf
import Derived.Test.YtldjoojbhbbhdaaGreatChecked
import Derived.Test.YtldjoojbhbbhdaaGreatGFc
import Derived.KernelRfl
namespace Go.Vi
open Go.Proofs
set_option linter.unusedSimpArgs false
set_option linter.unusedVariables false
set_option maxRecDepth 4000
set_option maxHeartbeats 2000000
attribute [local irreducible] go AWP
theorem mixed : Tryz.prog.follows .mixedOrders = true := by kernel_rfl
/- 75: laws_szPartS -/
def c_laws_szPartS : ACode := (.seq (.reg [(none, .mv 4 (K 0))]) (.seq (.reg [(none, .mv 5 (S 1)), (none, .mv 6 (S 0)), (none, .len 7 (S 6)), (none, .bin 8 .sub (S 5) (S 7)), (none, .mv 1 (S 8))]) (.seq (.seq (.reg [(none, .mv 9 (S 1)), (none, .bin 10 .lss (S 9) (K 0))]) (.cond (S 10) (.seq (.reg [(none, .mv 4 (K (-1)))]) .ret) .skip)) (.seq (.reg [(none, .mv 11 (S 1)), (none, .mv 4 (S 11))]) .ret))))
theorem e_laws_szPartS : entry Tryz.prog 75 = some (c_laws_szPartS.strip, [4], 12) := by kernel_rfl
theorem w_laws_szPartS (a0 : List XPart) (a1 : Int) (r : Int) (h : f_laws_szPartS a0 a1 = some r) : FC Tryz.prog 75 [.sc (.sl (List.map XPart.row a0)), .sc (.int .i64 a1)] [.sc (.v (.int .i64 r))] := by
  unfold f_laws_szPartS at h
  refine FC_go (σ := ⟨[(0, vc (aL (List.map XPart.row a0))), (1, vc (aI a1))], [], []⟩) mixed e_laws_szPartS rfl rfl ?_
  simp only [c_laws_szPartS]
  rcases Bool.eq_false_or_eq_true (decide ((IntKind.i64.wrap (a1 - (a0.length : Int))) < (0 : Int))) with hb1 | hb1
  · rw [ite_t hb1] at h
    try simp only [hb1, Nat.reduceBEq, Nat.reduceMul, Nat.reduceAdd, Nat.reduceDiv, Int.reduceBEq, rules2, rulesX, rowsX]
    cases h
    exact ⟨⟨rfl, trivial⟩, rfl⟩
  · rw [ite_f hb1] at h
    try simp only [hb1, Nat.reduceBEq, Nat.reduceMul, Nat.reduceAdd, Nat.reduceDiv, Int.reduceBEq, rules2, rulesX, rowsX]
    cases h
    exact ⟨⟨rfl, trivial⟩, rfl⟩
/- 43: laws_szTide -/
def c_laws_szTide : ACode := (.seq (.reg [(none, .box 2 (S 0)), (none, .mv 4 (K 0))]) (.seq (.reg [(none, .faddr 5 (S 2) 1), (none, .load 6 (S 5) false 1), (none, .mv 7 (S 1)), (none, .call 8 75 [(S 6), (S 7)]), (none, .mv 1 (S 8))]) (.seq (.seq (.reg [(none, .mv 9 (S 1)), (none, .bin 10 .lss (S 9) (K 0))]) (.cond (S 10) (.seq (.reg [(none, .mv 4 (K (-1)))]) .ret) .skip)) (.seq (.reg [(none, .mv 11 (S 1)), (none, .mv 4 (S 11))]) .ret))))
theorem e_laws_szTide : entry Tryz.prog 43 = some (c_laws_szTide.strip, [4], 12) := by kernel_rfl
theorem w_laws_szTide (a0 : XTide) (a1 : Int) (r : Int) (h : f_laws_szTide a0 a1 = some r) : FC Tryz.prog 43 [.ag (XTide.row a0), .sc (.int .i64 a1)] [.sc (.v (.int .i64 r))] := by
  unfold f_laws_szTide at h
  refine FC_go (σ := ⟨[(0, va [aI a0.Mean, aL (List.map XPart.row a0.Parts)]), (1, vc (aI a1))], [], []⟩) mixed e_laws_szTide rfl rfl ?_
  simp only [c_laws_szTide]
  try simp only [Nat.reduceBEq, Nat.reduceMul, Nat.reduceAdd, Nat.reduceDiv, Int.reduceBEq, rules2, rulesX, rowsX]
  refine go_bx rfl rfl rfl ?_
  obtain ⟨r1, hr1, h⟩ := ob h
  try simp only [Nat.reduceBEq, Nat.reduceMul, Nat.reduceAdd, Nat.reduceDiv, Int.reduceBEq, rules2, rulesX, rowsX]
  refine go_callI (w_laws_szPartS _ _ _ hr1) rfl rfl (Nat.le_of_ble_eq_true rfl) ?_
  rcases Bool.eq_false_or_eq_true (decide (r1 < (0 : Int))) with hb2 | hb2
  · rw [ite_t hb2] at h
    try simp only [hb2, Nat.reduceBEq, Nat.reduceMul, Nat.reduceAdd, Nat.reduceDiv, Int.reduceBEq, rules2, rulesX, rowsX]
    cases h
    exact ⟨⟨rfl, trivial⟩, rfl⟩
  · rw [ite_f hb2] at h
    try simp only [hb2, Nat.reduceBEq, Nat.reduceMul, Nat.reduceAdd, Nat.reduceDiv, Int.reduceBEq, rules2, rulesX, rowsX]
    cases h
    exact ⟨⟨rfl, trivial⟩, rfl⟩
/- 44: laws_szSurgeS -/
def c_laws_szSurgeS : ACode := (.seq (.reg [(none, .mv 4 (K 0))]) (.seq (.reg [(none, .mv 5 (S 1)), (none, .mv 6 (S 0)), (none, .len 7 (S 6)), (none, .bin 8 .sub (S 5) (S 7)), (none, .mv 1 (S 8))]) (.seq (.seq (.reg [(none, .mv 9 (S 1)), (none, .bin 10 .lss (S 9) (K 0))]) (.cond (S 10) (.seq (.reg [(none, .mv 4 (K (-1)))]) .ret) .skip)) (.seq (.reg [(none, .mv 11 (S 1)), (none, .mv 4 (S 11))]) .ret))))
theorem e_laws_szSurgeS : entry Tryz.prog 44 = some (c_laws_szSurgeS.strip, [4], 12) := by kernel_rfl
theorem w_laws_szSurgeS (a0 : List XSurge) (a1 : Int) (r : Int) (h : f_laws_szSurgeS a0 a1 = some r) : FC Tryz.prog 44 [.sc (.sl (List.map XSurge.row a0)), .sc (.int .i64 a1)] [.sc (.v (.int .i64 r))] := by
  unfold f_laws_szSurgeS at h
  refine FC_go (σ := ⟨[(0, vc (aL (List.map XSurge.row a0))), (1, vc (aI a1))], [], []⟩) mixed e_laws_szSurgeS rfl rfl ?_
  simp only [c_laws_szSurgeS]
  rcases Bool.eq_false_or_eq_true (decide ((IntKind.i64.wrap (a1 - (a0.length : Int))) < (0 : Int))) with hb1 | hb1
  · rw [ite_t hb1] at h
    try simp only [hb1, Nat.reduceBEq, Nat.reduceMul, Nat.reduceAdd, Nat.reduceDiv, Int.reduceBEq, rules2, rulesX, rowsX]
    cases h
    exact ⟨⟨rfl, trivial⟩, rfl⟩
  · rw [ite_f hb1] at h
    try simp only [hb1, Nat.reduceBEq, Nat.reduceMul, Nat.reduceAdd, Nat.reduceDiv, Int.reduceBEq, rules2, rulesX, rowsX]
    cases h
    exact ⟨⟨rfl, trivial⟩, rfl⟩
/- 20: laws_szForecast -/
def c_laws_szForecast : ACode := (.seq (.reg [(none, .box 2 (S 0)), (none, .mv 4 (K 0))]) (.seq (.reg [(none, .faddr 5 (S 2) 0), (none, .load 6 (S 5) true 2), (none, .mv 7 (S 1)), (none, .call 8 43 [(S 6), (S 7)]), (none, .mv 1 (S 8))]) (.seq (.seq (.reg [(none, .mv 9 (S 1)), (none, .bin 10 .lss (S 9) (K 0))]) (.cond (S 10) (.seq (.reg [(none, .mv 4 (K (-1)))]) .ret) .skip)) (.seq (.reg [(none, .faddr 11 (S 2) 2), (none, .load 12 (S 11) false 1), (none, .mv 13 (S 1)), (none, .call 14 44 [(S 12), (S 13)]), (none, .mv 1 (S 14))]) (.seq (.seq (.reg [(none, .mv 15 (S 1)), (none, .bin 16 .lss (S 15) (K 0))]) (.cond (S 16) (.seq (.reg [(none, .mv 4 (K (-1)))]) .ret) .skip)) (.seq (.reg [(none, .mv 17 (S 1)), (none, .mv 4 (S 17))]) .ret))))))
theorem e_laws_szForecast : entry Tryz.prog 20 = some (c_laws_szForecast.strip, [4], 18) := by kernel_rfl
theorem w_laws_szForecast (a0 : XForecast) (a1 : Int) (r : Int) (h : f_laws_szForecast a0 a1 = some r) : FC Tryz.prog 20 [.ag (XForecast.row a0), .sc (.int .i64 a1)] [.sc (.v (.int .i64 r))] := by
  unfold f_laws_szForecast at h
  refine FC_go (σ := ⟨[(0, va [aI a0.Tide.Mean, aL (List.map XPart.row a0.Tide.Parts), aL (List.map XSurge.row a0.Surges)]), (1, vc (aI a1))], [], []⟩) mixed e_laws_szForecast rfl rfl ?_
  simp only [c_laws_szForecast]
  try simp only [Nat.reduceBEq, Nat.reduceMul, Nat.reduceAdd, Nat.reduceDiv, Int.reduceBEq, rules2, rulesX, rowsX]
  refine go_bx rfl rfl rfl ?_
  obtain ⟨r1, hr1, h⟩ := ob h
  try simp only [Nat.reduceBEq, Nat.reduceMul, Nat.reduceAdd, Nat.reduceDiv, Int.reduceBEq, rules2, rulesX, rowsX]
  refine go_callI (w_laws_szTide _ _ _ hr1) rfl rfl (Nat.le_of_ble_eq_true rfl) ?_
  rcases Bool.eq_false_or_eq_true (decide (r1 < (0 : Int))) with hb2 | hb2
  · rw [ite_t hb2] at h
    try simp only [hb2, Nat.reduceBEq, Nat.reduceMul, Nat.reduceAdd, Nat.reduceDiv, Int.reduceBEq, rules2, rulesX, rowsX]
    cases h
    exact ⟨⟨rfl, trivial⟩, rfl⟩
  · rw [ite_f hb2] at h
    obtain ⟨r3, hr3, h⟩ := ob h
    try simp only [hb2, Nat.reduceBEq, Nat.reduceMul, Nat.reduceAdd, Nat.reduceDiv, Int.reduceBEq, rules2, rulesX, rowsX]
    refine go_callI (w_laws_szSurgeS _ _ _ hr3) rfl rfl (Nat.le_of_ble_eq_true rfl) ?_
    rcases Bool.eq_false_or_eq_true (decide (r3 < (0 : Int))) with hb4 | hb4
    · rw [ite_t hb4] at h
      try simp only [hb2, hb4, Nat.reduceBEq, Nat.reduceMul, Nat.reduceAdd, Nat.reduceDiv, Int.reduceBEq, rules2, rulesX, rowsX]
      cases h
      exact ⟨⟨rfl, trivial⟩, rfl⟩
    · rw [ite_f hb4] at h
      try simp only [hb2, hb4, Nat.reduceBEq, Nat.reduceMul, Nat.reduceAdd, Nat.reduceDiv, Int.reduceBEq, rules2, rulesX, rowsX]
      cases h
      exact ⟨⟨rfl, trivial⟩, rfl⟩
/- 76: laws_szPoint -/
def c_laws_szPoint : ACode := (.seq (.reg [(none, .box 2 (S 0)), (none, .mv 4 (K 0))]) (.seq (.reg [(none, .mv 5 (S 1)), (none, .faddr 6 (S 2) 0), (none, .load 7 (S 6) false 1), (none, .slen 8 (S 7)), (none, .bin 9 .sub (S 5) (S 8)), (none, .mv 1 (S 9))]) (.seq (.seq (.reg [(none, .mv 10 (S 1)), (none, .bin 11 .lss (S 10) (K 0))]) (.cond (S 11) (.seq (.reg [(none, .mv 4 (K (-1)))]) .ret) .skip)) (.seq (.reg [(none, .mv 12 (S 1)), (none, .mv 4 (S 12))]) .ret))))
theorem e_laws_szPoint : entry Tryz.prog 76 = some (c_laws_szPoint.strip, [4], 13) := by kernel_rfl
theorem w_laws_szPoint (a0 : XPoint) (a1 : Int) (r : Int) (h : f_laws_szPoint a0 a1 = some r) : FC Tryz.prog 76 [.ag (XPoint.row a0), .sc (.int .i64 a1)] [.sc (.v (.int .i64 r))] := by
  unfold f_laws_szPoint at h
  refine FC_go (σ := ⟨[(0, va [aS a0.Name, aB a0.Wait]), (1, vc (aI a1))], [], []⟩) mixed e_laws_szPoint rfl rfl ?_
  simp only [c_laws_szPoint]
  try simp only [Nat.reduceBEq, Nat.reduceMul, Nat.reduceAdd, Nat.reduceDiv, Int.reduceBEq, rules2, rulesX, rowsX]
  refine go_bx rfl rfl rfl ?_
  rcases Bool.eq_false_or_eq_true (decide ((IntKind.i64.wrap (a1 - (a0.Name.length : Int))) < (0 : Int))) with hb1 | hb1
  · rw [ite_t hb1] at h
    try simp only [hb1, Nat.reduceBEq, Nat.reduceMul, Nat.reduceAdd, Nat.reduceDiv, Int.reduceBEq, rules2, rulesX, rowsX]
    cases h
    exact ⟨⟨rfl, trivial⟩, rfl⟩
  · rw [ite_f hb1] at h
    try simp only [hb1, Nat.reduceBEq, Nat.reduceMul, Nat.reduceAdd, Nat.reduceDiv, Int.reduceBEq, rules2, rulesX, rowsX]
    cases h
    exact ⟨⟨rfl, trivial⟩, rfl⟩
/- 45: laws_szPointS -/
def c_laws_szPointS_1 : ACode := .seq (.reg [(none, .keep [0, 1, 5] [] [])]) (.seq (.seq (.reg [(none, .mv 12 (S 5)), (none, .mv 13 (S 0)), (none, .len 14 (S 13)), (none, .bin 15 .lss (S 12) (S 14))]) (.cond (S 15) .skip (.exit 0))) (.seq (.block 1 (.seq (.reg [(none, .mv 18 (S 0)), (none, .mv 19 (S 5)), (none, .iaddr 20 (S 18) (S 19) 2), (none, .load 21 (S 20) true 2), (none, .mv 22 (S 1)), (none, .call 23 76 [(S 21), (S 22)]), (none, .mv 1 (S 23))]) (.seq (.reg [(none, .mv 24 (S 1)), (none, .bin 25 .lss (S 24) (K 0))]) (.cond (S 25) (.seq (.reg [(none, .mv 4 (K (-1)))]) .ret) .skip)))) (.reg [(none, .mv 16 (S 5)), (none, .bin 17 .add (S 16) (K 1)), (none, .mv 5 (S 17))])))
def c_laws_szPointS_n1 : ACode := (.seq (.reg [(none, .mv 26 (S 1)), (none, .mv 4 (S 26))]) .ret)
def c_laws_szPointS : ACode := (.seq (.reg [(none, .mv 4 (K 0))]) (.seq (.reg [(none, .mv 6 (S 1)), (none, .mv 7 (S 0)), (none, .len 8 (S 7)), (none, .bin 9 .sub (S 6) (S 8)), (none, .mv 1 (S 9))]) (.seq (.seq (.reg [(none, .mv 10 (S 1)), (none, .bin 11 .lss (S 10) (K 0))]) (.cond (S 11) (.seq (.reg [(none, .mv 4 (K (-1)))]) .ret) .skip)) (.seq (.seq (.reg [(none, .mv 5 (K 0))]) (.block 0 (.loop c_laws_szPointS_1))) c_laws_szPointS_n1))))
theorem w_laws_szPointS_1 (a0 : List XPoint) : ∀ (n : Nat) (v2 : Int) (v3 : Int) (r : Int), f_laws_szPointS_1 a0 n v2 v3 = some r → ∀ σ : St, σ.kept [0, 1, 5] [] [] = ⟨[(0, vc (aL (List.map XPoint.row a0))), (1, vc (aI v2)), (5, vc (aI v3))], [], []⟩ → go Tryz.prog (.code (.loop c_laws_szPointS_1) :: [.blk 0, .code c_laws_szPointS_n1]) (Ret [4] [.sc (.v (.int .i64 r))]) .normal (some σ) := by
  intro n
  induction n with
  | zero => intro _ _ r h; cases h
  | succ n ih =>
    intro v2 v3 r h σ hσ
    rw [f_laws_szPointS_1] at h
    refine go_round ?_
    rcases Bool.eq_false_or_eq_true (decide (v3 < (a0.length : Int))) with hb4 | hb4
    · rw [ite_t hb4] at h
      obtain ⟨x5, hx5, h⟩ := ob h
      obtain ⟨r6, hr6, h⟩ := ob h
      try simp only [hσ, hb4, hx5, c_laws_szPointS_1, Nat.reduceBEq, Nat.reduceMul, Nat.reduceAdd, Nat.reduceDiv, Int.reduceBEq, rules2, rulesX, rowsX]
      refine go_callI (w_laws_szPoint _ _ _ hr6) rfl rfl (Nat.le_of_ble_eq_true rfl) ?_
      rcases Bool.eq_false_or_eq_true (decide (r6 < (0 : Int))) with hb7 | hb7
      · rw [ite_t hb7] at h
        try simp only [hb4, hx5, hb7, Nat.reduceBEq, Nat.reduceMul, Nat.reduceAdd, Nat.reduceDiv, Int.reduceBEq, rules2, rulesX, rowsX]
        cases h
        exact ⟨⟨rfl, trivial⟩, rfl⟩
      · rw [ite_f hb7] at h
        try simp only [hb4, hx5, hb7, Nat.reduceBEq, Nat.reduceMul, Nat.reduceAdd, Nat.reduceDiv, Int.reduceBEq, rules2, rulesX, rowsX]
        refine ih _ _ _ h _ ?_
        try simp only [hb4, hx5, hb7, Nat.reduceBEq, Nat.reduceMul, Nat.reduceAdd, Nat.reduceDiv, Int.reduceBEq, rules2, rulesX, rowsX, List.map_nil]
    · rw [ite_f hb4] at h
      try simp only [hσ, hb4, c_laws_szPointS_1, c_laws_szPointS_n1, Nat.reduceBEq, Nat.reduceMul, Nat.reduceAdd, Nat.reduceDiv, Int.reduceBEq, rules2, rulesX, rowsX]
      cases h
      exact ⟨⟨rfl, trivial⟩, rfl⟩
theorem e_laws_szPointS : entry Tryz.prog 45 = some (c_laws_szPointS.strip, [4], 27) := by kernel_rfl
theorem w_laws_szPointS (a0 : List XPoint) (a1 : Int) (r : Int) (h : f_laws_szPointS a0 a1 = some r) : FC Tryz.prog 45 [.sc (.sl (List.map XPoint.row a0)), .sc (.int .i64 a1)] [.sc (.v (.int .i64 r))] := by
  unfold f_laws_szPointS at h
  refine FC_go (σ := ⟨[(0, vc (aL (List.map XPoint.row a0))), (1, vc (aI a1))], [], []⟩) mixed e_laws_szPointS rfl rfl ?_
  simp only [c_laws_szPointS]
  rcases Bool.eq_false_or_eq_true (decide ((IntKind.i64.wrap (a1 - (a0.length : Int))) < (0 : Int))) with hb1 | hb1
  · rw [ite_t hb1] at h
    try simp only [hb1, Nat.reduceBEq, Nat.reduceMul, Nat.reduceAdd, Nat.reduceDiv, Int.reduceBEq, rules2, rulesX, rowsX]
    cases h
    exact ⟨⟨rfl, trivial⟩, rfl⟩
  · rw [ite_f hb1] at h
    try simp only [hb1, Nat.reduceBEq, Nat.reduceMul, Nat.reduceAdd, Nat.reduceDiv, Int.reduceBEq, rules2, rulesX, rowsX]
    refine w_laws_szPointS_1 _ _ _ _ _ h _ ?_
    try simp only [hb1, Nat.reduceBEq, Nat.reduceMul, Nat.reduceAdd, Nat.reduceDiv, Int.reduceBEq, rules2, rulesX, rowsX, List.map_nil]
/- 46: laws_szSegmentS -/
def c_laws_szSegmentS : ACode := (.seq (.reg [(none, .mv 4 (K 0))]) (.seq (.reg [(none, .mv 5 (S 1)), (none, .mv 6 (S 0)), (none, .len 7 (S 6)), (none, .bin 8 .sub (S 5) (S 7)), (none, .mv 1 (S 8))]) (.seq (.seq (.reg [(none, .mv 9 (S 1)), (none, .bin 10 .lss (S 9) (K 0))]) (.cond (S 10) (.seq (.reg [(none, .mv 4 (K (-1)))]) .ret) .skip)) (.seq (.reg [(none, .mv 11 (S 1)), (none, .mv 4 (S 11))]) .ret))))
theorem e_laws_szSegmentS : entry Tryz.prog 46 = some (c_laws_szSegmentS.strip, [4], 12) := by kernel_rfl
theorem w_laws_szSegmentS (a0 : List XSegment) (a1 : Int) (r : Int) (h : f_laws_szSegmentS a0 a1 = some r) : FC Tryz.prog 46 [.sc (.sl (List.map XSegment.row a0)), .sc (.int .i64 a1)] [.sc (.v (.int .i64 r))] := by
  unfold f_laws_szSegmentS at h
  refine FC_go (σ := ⟨[(0, vc (aL (List.map XSegment.row a0))), (1, vc (aI a1))], [], []⟩) mixed e_laws_szSegmentS rfl rfl ?_
  simp only [c_laws_szSegmentS]
  rcases Bool.eq_false_or_eq_true (decide ((IntKind.i64.wrap (a1 - (a0.length : Int))) < (0 : Int))) with hb1 | hb1
  · rw [ite_t hb1] at h
    try simp only [hb1, Nat.reduceBEq, Nat.reduceMul, Nat.reduceAdd, Nat.reduceDiv, Int.reduceBEq, rules2, rulesX, rowsX]
    cases h
    exact ⟨⟨rfl, trivial⟩, rfl⟩
  · rw [ite_f hb1] at h
    try simp only [hb1, Nat.reduceBEq, Nat.reduceMul, Nat.reduceAdd, Nat.reduceDiv, Int.reduceBEq, rules2, rulesX, rowsX]
    cases h
    exact ⟨⟨rfl, trivial⟩, rfl⟩
/- 21: laws_szChart -/
def c_laws_szChart : ACode := (.seq (.reg [(none, .box 2 (S 0)), (none, .mv 4 (K 0))]) (.seq (.reg [(none, .faddr 5 (S 2) 0), (none, .load 6 (S 5) false 1), (none, .mv 7 (S 1)), (none, .call 8 45 [(S 6), (S 7)]), (none, .mv 1 (S 8))]) (.seq (.seq (.reg [(none, .mv 9 (S 1)), (none, .bin 10 .lss (S 9) (K 0))]) (.cond (S 10) (.seq (.reg [(none, .mv 4 (K (-1)))]) .ret) .skip)) (.seq (.reg [(none, .faddr 11 (S 2) 1), (none, .load 12 (S 11) false 1), (none, .mv 13 (S 1)), (none, .call 14 46 [(S 12), (S 13)]), (none, .mv 1 (S 14))]) (.seq (.seq (.reg [(none, .mv 15 (S 1)), (none, .bin 16 .lss (S 15) (K 0))]) (.cond (S 16) (.seq (.reg [(none, .mv 4 (K (-1)))]) .ret) .skip)) (.seq (.reg [(none, .mv 17 (S 1)), (none, .mv 4 (S 17))]) .ret))))))
theorem e_laws_szChart : entry Tryz.prog 21 = some (c_laws_szChart.strip, [4], 18) := by kernel_rfl
theorem w_laws_szChart (a0 : XChart) (a1 : Int) (r : Int) (h : f_laws_szChart a0 a1 = some r) : FC Tryz.prog 21 [.ag (XChart.row a0), .sc (.int .i64 a1)] [.sc (.v (.int .i64 r))] := by
  unfold f_laws_szChart at h
  refine FC_go (σ := ⟨[(0, va [aL (List.map XPoint.row a0.Points), aL (List.map XSegment.row a0.Segments)]), (1, vc (aI a1))], [], []⟩) mixed e_laws_szChart rfl rfl ?_
  simp only [c_laws_szChart]
  try simp only [Nat.reduceBEq, Nat.reduceMul, Nat.reduceAdd, Nat.reduceDiv, Int.reduceBEq, rules2, rulesX, rowsX]
  refine go_bx rfl rfl rfl ?_
  obtain ⟨r1, hr1, h⟩ := ob h
  try simp only [Nat.reduceBEq, Nat.reduceMul, Nat.reduceAdd, Nat.reduceDiv, Int.reduceBEq, rules2, rulesX, rowsX]
  refine go_callI (w_laws_szPointS _ _ _ hr1) rfl rfl (Nat.le_of_ble_eq_true rfl) ?_
  rcases Bool.eq_false_or_eq_true (decide (r1 < (0 : Int))) with hb2 | hb2
  · rw [ite_t hb2] at h
    try simp only [hb2, Nat.reduceBEq, Nat.reduceMul, Nat.reduceAdd, Nat.reduceDiv, Int.reduceBEq, rules2, rulesX, rowsX]
    cases h
    exact ⟨⟨rfl, trivial⟩, rfl⟩
  · rw [ite_f hb2] at h
    obtain ⟨r3, hr3, h⟩ := ob h
    try simp only [hb2, Nat.reduceBEq, Nat.reduceMul, Nat.reduceAdd, Nat.reduceDiv, Int.reduceBEq, rules2, rulesX, rowsX]
    refine go_callI (w_laws_szSegmentS _ _ _ hr3) rfl rfl (Nat.le_of_ble_eq_true rfl) ?_
    rcases Bool.eq_false_or_eq_true (decide (r3 < (0 : Int))) with hb4 | hb4
    · rw [ite_t hb4] at h
      try simp only [hb2, hb4, Nat.reduceBEq, Nat.reduceMul, Nat.reduceAdd, Nat.reduceDiv, Int.reduceBEq, rules2, rulesX, rowsX]
      cases h
      exact ⟨⟨rfl, trivial⟩, rfl⟩
    · rw [ite_f hb4] at h
      try simp only [hb2, hb4, Nat.reduceBEq, Nat.reduceMul, Nat.reduceAdd, Nat.reduceDiv, Int.reduceBEq, rules2, rulesX, rowsX]
      cases h
      exact ⟨⟨rfl, trivial⟩, rfl⟩
/- 47: laws_szShip -/
def c_laws_szShip : ACode := (.seq (.reg [(none, .box 2 (S 0)), (none, .mv 4 (K 0))]) (.seq (.reg [(none, .mv 5 (S 1)), (none, .faddr 6 (S 2) 0), (none, .load 7 (S 6) false 1), (none, .slen 8 (S 7)), (none, .bin 9 .sub (S 5) (S 8)), (none, .mv 1 (S 9))]) (.seq (.seq (.reg [(none, .mv 10 (S 1)), (none, .bin 11 .lss (S 10) (K 0))]) (.cond (S 11) (.seq (.reg [(none, .mv 4 (K (-1)))]) .ret) .skip)) (.seq (.reg [(none, .mv 12 (S 1)), (none, .mv 4 (S 12))]) .ret))))
theorem e_laws_szShip : entry Tryz.prog 47 = some (c_laws_szShip.strip, [4], 13) := by kernel_rfl
theorem w_laws_szShip (a0 : XShip) (a1 : Int) (r : Int) (h : f_laws_szShip a0 a1 = some r) : FC Tryz.prog 47 [.ag (XShip.row a0), .sc (.int .i64 a1)] [.sc (.v (.int .i64 r))] := by
  unfold f_laws_szShip at h
  refine FC_go (σ := ⟨[(0, va [aS a0.Name, aI a0.Length, aI a0.Draught, aI a0.Line, aI a0.Tugs, aB a0.Slow]), (1, vc (aI a1))], [], []⟩) mixed e_laws_szShip rfl rfl ?_
  simp only [c_laws_szShip]
  try simp only [Nat.reduceBEq, Nat.reduceMul, Nat.reduceAdd, Nat.reduceDiv, Int.reduceBEq, rules2, rulesX, rowsX]
  refine go_bx rfl rfl rfl ?_
  rcases Bool.eq_false_or_eq_true (decide ((IntKind.i64.wrap (a1 - (a0.Name.length : Int))) < (0 : Int))) with hb1 | hb1
  · rw [ite_t hb1] at h
    try simp only [hb1, Nat.reduceBEq, Nat.reduceMul, Nat.reduceAdd, Nat.reduceDiv, Int.reduceBEq, rules2, rulesX, rowsX]
    cases h
    exact ⟨⟨rfl, trivial⟩, rfl⟩
  · rw [ite_f hb1] at h
    try simp only [hb1, Nat.reduceBEq, Nat.reduceMul, Nat.reduceAdd, Nat.reduceDiv, Int.reduceBEq, rules2, rulesX, rowsX]
    cases h
    exact ⟨⟨rfl, trivial⟩, rfl⟩
/- 22: laws_szShipS -/
def c_laws_szShipS_1 : ACode := .seq (.reg [(none, .keep [0, 1, 5] [] [])]) (.seq (.seq (.reg [(none, .mv 12 (S 5)), (none, .mv 13 (S 0)), (none, .len 14 (S 13)), (none, .bin 15 .lss (S 12) (S 14))]) (.cond (S 15) .skip (.exit 0))) (.seq (.block 1 (.seq (.reg [(none, .mv 18 (S 0)), (none, .mv 19 (S 5)), (none, .iaddr 20 (S 18) (S 19) 6), (none, .load 21 (S 20) true 6), (none, .mv 22 (S 1)), (none, .call 23 47 [(S 21), (S 22)]), (none, .mv 1 (S 23))]) (.seq (.reg [(none, .mv 24 (S 1)), (none, .bin 25 .lss (S 24) (K 0))]) (.cond (S 25) (.seq (.reg [(none, .mv 4 (K (-1)))]) .ret) .skip)))) (.reg [(none, .mv 16 (S 5)), (none, .bin 17 .add (S 16) (K 1)), (none, .mv 5 (S 17))])))
def c_laws_szShipS_n1 : ACode := (.seq (.reg [(none, .mv 26 (S 1)), (none, .mv 4 (S 26))]) .ret)
def c_laws_szShipS : ACode := (.seq (.reg [(none, .mv 4 (K 0))]) (.seq (.reg [(none, .mv 6 (S 1)), (none, .mv 7 (S 0)), (none, .len 8 (S 7)), (none, .bin 9 .sub (S 6) (S 8)), (none, .mv 1 (S 9))]) (.seq (.seq (.reg [(none, .mv 10 (S 1)), (none, .bin 11 .lss (S 10) (K 0))]) (.cond (S 11) (.seq (.reg [(none, .mv 4 (K (-1)))]) .ret) .skip)) (.seq (.seq (.reg [(none, .mv 5 (K 0))]) (.block 0 (.loop c_laws_szShipS_1))) c_laws_szShipS_n1))))
theorem w_laws_szShipS_1 (a0 : List XShip) : ∀ (n : Nat) (v2 : Int) (v3 : Int) (r : Int), f_laws_szShipS_1 a0 n v2 v3 = some r → ∀ σ : St, σ.kept [0, 1, 5] [] [] = ⟨[(0, vc (aL (List.map XShip.row a0))), (1, vc (aI v2)), (5, vc (aI v3))], [], []⟩ → go Tryz.prog (.code (.loop c_laws_szShipS_1) :: [.blk 0, .code c_laws_szShipS_n1]) (Ret [4] [.sc (.v (.int .i64 r))]) .normal (some σ) := by
  intro n
  induction n with
  | zero => intro _ _ r h; cases h
  | succ n ih =>
    intro v2 v3 r h σ hσ
    rw [f_laws_szShipS_1] at h
    refine go_round ?_
    rcases Bool.eq_false_or_eq_true (decide (v3 < (a0.length : Int))) with hb4 | hb4
    · rw [ite_t hb4] at h
      obtain ⟨x5, hx5, h⟩ := ob h
      obtain ⟨r6, hr6, h⟩ := ob h
      try simp only [hσ, hb4, hx5, c_laws_szShipS_1, Nat.reduceBEq, Nat.reduceMul, Nat.reduceAdd, Nat.reduceDiv, Int.reduceBEq, rules2, rulesX, rowsX]
      refine go_callI (w_laws_szShip _ _ _ hr6) rfl rfl (Nat.le_of_ble_eq_true rfl) ?_
      rcases Bool.eq_false_or_eq_true (decide (r6 < (0 : Int))) with hb7 | hb7
      · rw [ite_t hb7] at h
        try simp only [hb4, hx5, hb7, Nat.reduceBEq, Nat.reduceMul, Nat.reduceAdd, Nat.reduceDiv, Int.reduceBEq, rules2, rulesX, rowsX]
        cases h
        exact ⟨⟨rfl, trivial⟩, rfl⟩
      · rw [ite_f hb7] at h
        try simp only [hb4, hx5, hb7, Nat.reduceBEq, Nat.reduceMul, Nat.reduceAdd, Nat.reduceDiv, Int.reduceBEq, rules2, rulesX, rowsX]
        refine ih _ _ _ h _ ?_
        try simp only [hb4, hx5, hb7, Nat.reduceBEq, Nat.reduceMul, Nat.reduceAdd, Nat.reduceDiv, Int.reduceBEq, rules2, rulesX, rowsX, List.map_nil]
    · rw [ite_f hb4] at h
      try simp only [hσ, hb4, c_laws_szShipS_1, c_laws_szShipS_n1, Nat.reduceBEq, Nat.reduceMul, Nat.reduceAdd, Nat.reduceDiv, Int.reduceBEq, rules2, rulesX, rowsX]
      cases h
      exact ⟨⟨rfl, trivial⟩, rfl⟩
theorem e_laws_szShipS : entry Tryz.prog 22 = some (c_laws_szShipS.strip, [4], 27) := by kernel_rfl
theorem w_laws_szShipS (a0 : List XShip) (a1 : Int) (r : Int) (h : f_laws_szShipS a0 a1 = some r) : FC Tryz.prog 22 [.sc (.sl (List.map XShip.row a0)), .sc (.int .i64 a1)] [.sc (.v (.int .i64 r))] := by
  unfold f_laws_szShipS at h
  refine FC_go (σ := ⟨[(0, vc (aL (List.map XShip.row a0))), (1, vc (aI a1))], [], []⟩) mixed e_laws_szShipS rfl rfl ?_
  simp only [c_laws_szShipS]
  rcases Bool.eq_false_or_eq_true (decide ((IntKind.i64.wrap (a1 - (a0.length : Int))) < (0 : Int))) with hb1 | hb1
  · rw [ite_t hb1] at h
    try simp only [hb1, Nat.reduceBEq, Nat.reduceMul, Nat.reduceAdd, Nat.reduceDiv, Int.reduceBEq, rules2, rulesX, rowsX]
    cases h
    exact ⟨⟨rfl, trivial⟩, rfl⟩
  · rw [ite_f hb1] at h
    try simp only [hb1, Nat.reduceBEq, Nat.reduceMul, Nat.reduceAdd, Nat.reduceDiv, Int.reduceBEq, rules2, rulesX, rowsX]
    refine w_laws_szShipS_1 _ _ _ _ _ h _ ?_
    try simp only [hb1, Nat.reduceBEq, Nat.reduceMul, Nat.reduceAdd, Nat.reduceDiv, Int.reduceBEq, rules2, rulesX, rowsX, List.map_nil]
/- 48: laws_szIntS -/
def c_laws_szIntS : ACode := (.seq (.reg [(none, .mv 4 (K 0))]) (.seq (.reg [(none, .mv 5 (S 1)), (none, .mv 6 (S 0)), (none, .len 7 (S 6)), (none, .bin 8 .sub (S 5) (S 7)), (none, .mv 1 (S 8))]) (.seq (.seq (.reg [(none, .mv 9 (S 1)), (none, .bin 10 .lss (S 9) (K 0))]) (.cond (S 10) (.seq (.reg [(none, .mv 4 (K (-1)))]) .ret) .skip)) (.seq (.reg [(none, .mv 11 (S 1)), (none, .mv 4 (S 11))]) .ret))))
theorem e_laws_szIntS : entry Tryz.prog 48 = some (c_laws_szIntS.strip, [4], 12) := by kernel_rfl
theorem w_laws_szIntS (a0 : List Int) (a1 : Int) (r : Int) (h : f_laws_szIntS a0 a1 = some r) : FC Tryz.prog 48 [.sc (.sl (List.map rI a0)), .sc (.int .i64 a1)] [.sc (.v (.int .i64 r))] := by
  unfold f_laws_szIntS at h
  refine FC_go (σ := ⟨[(0, vc (aL (List.map rI a0))), (1, vc (aI a1))], [], []⟩) mixed e_laws_szIntS rfl rfl ?_
  simp only [c_laws_szIntS]
  rcases Bool.eq_false_or_eq_true (decide ((IntKind.i64.wrap (a1 - (a0.length : Int))) < (0 : Int))) with hb1 | hb1
  · rw [ite_t hb1] at h
    try simp only [hb1, Nat.reduceBEq, Nat.reduceMul, Nat.reduceAdd, Nat.reduceDiv, Int.reduceBEq, rules2, rulesX, rowsX]
    cases h
    exact ⟨⟨rfl, trivial⟩, rfl⟩
  · rw [ite_f hb1] at h
    try simp only [hb1, Nat.reduceBEq, Nat.reduceMul, Nat.reduceAdd, Nat.reduceDiv, Int.reduceBEq, rules2, rulesX, rowsX]
    cases h
    exact ⟨⟨rfl, trivial⟩, rfl⟩
/- 23: laws_szCrew -/
def c_laws_szCrew : ACode := (.seq (.reg [(none, .box 2 (S 0)), (none, .mv 4 (K 0))]) (.seq (.reg [(none, .faddr 5 (S 2) 3), (none, .load 6 (S 5) false 1), (none, .mv 7 (S 1)), (none, .call 8 48 [(S 6), (S 7)]), (none, .mv 1 (S 8))]) (.seq (.seq (.reg [(none, .mv 9 (S 1)), (none, .bin 10 .lss (S 9) (K 0))]) (.cond (S 10) (.seq (.reg [(none, .mv 4 (K (-1)))]) .ret) .skip)) (.seq (.reg [(none, .mv 11 (S 1)), (none, .mv 4 (S 11))]) .ret))))
theorem e_laws_szCrew : entry Tryz.prog 23 = some (c_laws_szCrew.strip, [4], 12) := by kernel_rfl
theorem w_laws_szCrew (a0 : XCrew) (a1 : Int) (r : Int) (h : f_laws_szCrew a0 a1 = some r) : FC Tryz.prog 23 [.ag (XCrew.row a0), .sc (.int .i64 a1)] [.sc (.v (.int .i64 r))] := by
  unfold f_laws_szCrew at h
  refine FC_go (σ := ⟨[(0, va [aI a0.Tugs, aI a0.Pilots, aI a0.Rest, aL (List.map rI a0.Moves)]), (1, vc (aI a1))], [], []⟩) mixed e_laws_szCrew rfl rfl ?_
  simp only [c_laws_szCrew]
  try simp only [Nat.reduceBEq, Nat.reduceMul, Nat.reduceAdd, Nat.reduceDiv, Int.reduceBEq, rules2, rulesX, rowsX]
  refine go_bx rfl rfl rfl ?_
  obtain ⟨r1, hr1, h⟩ := ob h
  try simp only [Nat.reduceBEq, Nat.reduceMul, Nat.reduceAdd, Nat.reduceDiv, Int.reduceBEq, rules2, rulesX, rowsX]
  refine go_callI (w_laws_szIntS _ _ _ hr1) rfl rfl (Nat.le_of_ble_eq_true rfl) ?_
  rcases Bool.eq_false_or_eq_true (decide (r1 < (0 : Int))) with hb2 | hb2
  · rw [ite_t hb2] at h
    try simp only [hb2, Nat.reduceBEq, Nat.reduceMul, Nat.reduceAdd, Nat.reduceDiv, Int.reduceBEq, rules2, rulesX, rowsX]
    cases h
    exact ⟨⟨rfl, trivial⟩, rfl⟩
  · rw [ite_f hb2] at h
    try simp only [hb2, Nat.reduceBEq, Nat.reduceMul, Nat.reduceAdd, Nat.reduceDiv, Int.reduceBEq, rules2, rulesX, rowsX]
    cases h
    exact ⟨⟨rfl, trivial⟩, rfl⟩
/- 6: laws_szHarbour -/
def c_laws_szHarbour : ACode := (.seq (.reg [(none, .box 2 (S 0)), (none, .mv 4 (K 0))]) (.seq (.reg [(none, .faddr 5 (S 2) 0), (none, .load 6 (S 5) true 3), (none, .mv 7 (S 1)), (none, .call 8 20 [(S 6), (S 7)]), (none, .mv 1 (S 8))]) (.seq (.seq (.reg [(none, .mv 9 (S 1)), (none, .bin 10 .lss (S 9) (K 0))]) (.cond (S 10) (.seq (.reg [(none, .mv 4 (K (-1)))]) .ret) .skip)) (.seq (.reg [(none, .faddr 11 (S 2) 3), (none, .load 12 (S 11) true 2), (none, .mv 13 (S 1)), (none, .call 14 21 [(S 12), (S 13)]), (none, .mv 1 (S 14))]) (.seq (.seq (.reg [(none, .mv 15 (S 1)), (none, .bin 16 .lss (S 15) (K 0))]) (.cond (S 16) (.seq (.reg [(none, .mv 4 (K (-1)))]) .ret) .skip)) (.seq (.reg [(none, .faddr 17 (S 2) 5), (none, .load 18 (S 17) false 1), (none, .mv 19 (S 1)), (none, .call 20 22 [(S 18), (S 19)]), (none, .mv 1 (S 20))]) (.seq (.seq (.reg [(none, .mv 21 (S 1)), (none, .bin 22 .lss (S 21) (K 0))]) (.cond (S 22) (.seq (.reg [(none, .mv 4 (K (-1)))]) .ret) .skip)) (.seq (.reg [(none, .faddr 23 (S 2) 8), (none, .load 24 (S 23) true 4), (none, .mv 25 (S 1)), (none, .call 26 23 [(S 24), (S 25)]), (none, .mv 1 (S 26))]) (.seq (.seq (.reg [(none, .mv 27 (S 1)), (none, .bin 28 .lss (S 27) (K 0))]) (.cond (S 28) (.seq (.reg [(none, .mv 4 (K (-1)))]) .ret) .skip)) (.seq (.reg [(none, .mv 29 (S 1)), (none, .mv 4 (S 29))]) .ret))))))))))
theorem e_laws_szHarbour : entry Tryz.prog 6 = some (c_laws_szHarbour.strip, [4], 30) := by kernel_rfl
theorem w_laws_szHarbour (a0 : XHarbour) (a1 : Int) (r : Int) (h : f_laws_szHarbour a0 a1 = some r) : FC Tryz.prog 6 [.ag (XHarbour.row a0), .sc (.int .i64 a1)] [.sc (.v (.int .i64 r))] := by
  unfold f_laws_szHarbour at h
  refine FC_go (σ := ⟨[(0, va [aI a0.Forecast.Tide.Mean, aL (List.map XPart.row a0.Forecast.Tide.Parts), aL (List.map XSurge.row a0.Forecast.Surges), aL (List.map XPoint.row a0.Chart.Points), aL (List.map XSegment.row a0.Chart.Segments), aL (List.map XShip.row a0.Fleet), aI a0.Regime.Gap, aB a0.Regime.NoMeet, aI a0.Crew.Tugs, aI a0.Crew.Pilots, aI a0.Crew.Rest, aL (List.map rI a0.Crew.Moves)]), (1, vc (aI a1))], [], []⟩) mixed e_laws_szHarbour rfl rfl ?_
  simp only [c_laws_szHarbour]
  try simp only [Nat.reduceBEq, Nat.reduceMul, Nat.reduceAdd, Nat.reduceDiv, Int.reduceBEq, rules2, rulesX, rowsX]
  refine go_bx rfl rfl rfl ?_
  obtain ⟨r1, hr1, h⟩ := ob h
  try simp only [Nat.reduceBEq, Nat.reduceMul, Nat.reduceAdd, Nat.reduceDiv, Int.reduceBEq, rules2, rulesX, rowsX]
  refine go_callI (w_laws_szForecast _ _ _ hr1) rfl rfl (Nat.le_of_ble_eq_true rfl) ?_
  rcases Bool.eq_false_or_eq_true (decide (r1 < (0 : Int))) with hb2 | hb2
  · rw [ite_t hb2] at h
    try simp only [hb2, Nat.reduceBEq, Nat.reduceMul, Nat.reduceAdd, Nat.reduceDiv, Int.reduceBEq, rules2, rulesX, rowsX]
    cases h
    exact ⟨⟨rfl, trivial⟩, rfl⟩
  · rw [ite_f hb2] at h
    obtain ⟨r3, hr3, h⟩ := ob h
    try simp only [hb2, Nat.reduceBEq, Nat.reduceMul, Nat.reduceAdd, Nat.reduceDiv, Int.reduceBEq, rules2, rulesX, rowsX]
    refine go_callI (w_laws_szChart _ _ _ hr3) rfl rfl (Nat.le_of_ble_eq_true rfl) ?_
    rcases Bool.eq_false_or_eq_true (decide (r3 < (0 : Int))) with hb4 | hb4
    · rw [ite_t hb4] at h
      try simp only [hb2, hb4, Nat.reduceBEq, Nat.reduceMul, Nat.reduceAdd, Nat.reduceDiv, Int.reduceBEq, rules2, rulesX, rowsX]
      cases h
      exact ⟨⟨rfl, trivial⟩, rfl⟩
    · rw [ite_f hb4] at h
      obtain ⟨r5, hr5, h⟩ := ob h
      try simp only [hb2, hb4, Nat.reduceBEq, Nat.reduceMul, Nat.reduceAdd, Nat.reduceDiv, Int.reduceBEq, rules2, rulesX, rowsX]
      refine go_callI (w_laws_szShipS _ _ _ hr5) rfl rfl (Nat.le_of_ble_eq_true rfl) ?_
      rcases Bool.eq_false_or_eq_true (decide (r5 < (0 : Int))) with hb6 | hb6
      · rw [ite_t hb6] at h
        try simp only [hb2, hb4, hb6, Nat.reduceBEq, Nat.reduceMul, Nat.reduceAdd, Nat.reduceDiv, Int.reduceBEq, rules2, rulesX, rowsX]
        cases h
        exact ⟨⟨rfl, trivial⟩, rfl⟩
      · rw [ite_f hb6] at h
        obtain ⟨r7, hr7, h⟩ := ob h
        try simp only [hb2, hb4, hb6, Nat.reduceBEq, Nat.reduceMul, Nat.reduceAdd, Nat.reduceDiv, Int.reduceBEq, rules2, rulesX, rowsX]
        refine go_callI (w_laws_szCrew _ _ _ hr7) rfl rfl (Nat.le_of_ble_eq_true rfl) ?_
        rcases Bool.eq_false_or_eq_true (decide (r7 < (0 : Int))) with hb8 | hb8
        · rw [ite_t hb8] at h
          try simp only [hb2, hb4, hb6, hb8, Nat.reduceBEq, Nat.reduceMul, Nat.reduceAdd, Nat.reduceDiv, Int.reduceBEq, rules2, rulesX, rowsX]
          cases h
          exact ⟨⟨rfl, trivial⟩, rfl⟩
        · rw [ite_f hb8] at h
          try simp only [hb2, hb4, hb6, hb8, Nat.reduceBEq, Nat.reduceMul, Nat.reduceAdd, Nat.reduceDiv, Int.reduceBEq, rules2, rulesX, rowsX]
          cases h
          exact ⟨⟨rfl, trivial⟩, rfl⟩
/- 49: laws_szPassageS -/
def c_laws_szPassageS : ACode := (.seq (.reg [(none, .mv 4 (K 0))]) (.seq (.reg [(none, .mv 5 (S 1)), (none, .mv 6 (S 0)), (none, .len 7 (S 6)), (none, .bin 8 .sub (S 5) (S 7)), (none, .mv 1 (S 8))]) (.seq (.seq (.reg [(none, .mv 9 (S 1)), (none, .bin 10 .lss (S 9) (K 0))]) (.cond (S 10) (.seq (.reg [(none, .mv 4 (K (-1)))]) .ret) .skip)) (.seq (.reg [(none, .mv 11 (S 1)), (none, .mv 4 (S 11))]) .ret))))
theorem e_laws_szPassageS : entry Tryz.prog 49 = some (c_laws_szPassageS.strip, [4], 12) := by kernel_rfl
theorem w_laws_szPassageS (a0 : List XPassage) (a1 : Int) (r : Int) (h : f_laws_szPassageS a0 a1 = some r) : FC Tryz.prog 49 [.sc (.sl (List.map XPassage.row a0)), .sc (.int .i64 a1)] [.sc (.v (.int .i64 r))] := by
  unfold f_laws_szPassageS at h
  refine FC_go (σ := ⟨[(0, vc (aL (List.map XPassage.row a0))), (1, vc (aI a1))], [], []⟩) mixed e_laws_szPassageS rfl rfl ?_
  simp only [c_laws_szPassageS]
  rcases Bool.eq_false_or_eq_true (decide ((IntKind.i64.wrap (a1 - (a0.length : Int))) < (0 : Int))) with hb1 | hb1
  · rw [ite_t hb1] at h
    try simp only [hb1, Nat.reduceBEq, Nat.reduceMul, Nat.reduceAdd, Nat.reduceDiv, Int.reduceBEq, rules2, rulesX, rowsX]
    cases h
    exact ⟨⟨rfl, trivial⟩, rfl⟩
  · rw [ite_f hb1] at h
    try simp only [hb1, Nat.reduceBEq, Nat.reduceMul, Nat.reduceAdd, Nat.reduceDiv, Int.reduceBEq, rules2, rulesX, rowsX]
    cases h
    exact ⟨⟨rfl, trivial⟩, rfl⟩
/- 24: laws_szOption -/
def c_laws_szOption : ACode := (.seq (.reg [(none, .box 2 (S 0)), (none, .mv 4 (K 0))]) (.seq (.reg [(none, .faddr 5 (S 2) 3), (none, .load 6 (S 5) false 1), (none, .mv 7 (S 1)), (none, .call 8 49 [(S 6), (S 7)]), (none, .mv 1 (S 8))]) (.seq (.seq (.reg [(none, .mv 9 (S 1)), (none, .bin 10 .lss (S 9) (K 0))]) (.cond (S 10) (.seq (.reg [(none, .mv 4 (K (-1)))]) .ret) .skip)) (.seq (.reg [(none, .mv 11 (S 1)), (none, .mv 4 (S 11))]) .ret))))
theorem e_laws_szOption : entry Tryz.prog 24 = some (c_laws_szOption.strip, [4], 12) := by kernel_rfl
theorem w_laws_szOption (a0 : XOption) (a1 : Int) (r : Int) (h : f_laws_szOption a0 a1 = some r) : FC Tryz.prog 24 [.ag (XOption.row a0), .sc (.int .i64 a1)] [.sc (.v (.int .i64 r))] := by
  unfold f_laws_szOption at h
  refine FC_go (σ := ⟨[(0, va [aI a0.Start, aI a0.Arrival, aI a0.Cost, aL (List.map XPassage.row a0.Passages)]), (1, vc (aI a1))], [], []⟩) mixed e_laws_szOption rfl rfl ?_
  simp only [c_laws_szOption]
  try simp only [Nat.reduceBEq, Nat.reduceMul, Nat.reduceAdd, Nat.reduceDiv, Int.reduceBEq, rules2, rulesX, rowsX]
  refine go_bx rfl rfl rfl ?_
  obtain ⟨r1, hr1, h⟩ := ob h
  try simp only [Nat.reduceBEq, Nat.reduceMul, Nat.reduceAdd, Nat.reduceDiv, Int.reduceBEq, rules2, rulesX, rowsX]
  refine go_callI (w_laws_szPassageS _ _ _ hr1) rfl rfl (Nat.le_of_ble_eq_true rfl) ?_
  rcases Bool.eq_false_or_eq_true (decide (r1 < (0 : Int))) with hb2 | hb2
  · rw [ite_t hb2] at h
    try simp only [hb2, Nat.reduceBEq, Nat.reduceMul, Nat.reduceAdd, Nat.reduceDiv, Int.reduceBEq, rules2, rulesX, rowsX]
    cases h
    exact ⟨⟨rfl, trivial⟩, rfl⟩
  · rw [ite_f hb2] at h
    try simp only [hb2, Nat.reduceBEq, Nat.reduceMul, Nat.reduceAdd, Nat.reduceDiv, Int.reduceBEq, rules2, rulesX, rowsX]
    cases h
    exact ⟨⟨rfl, trivial⟩, rfl⟩
/- 7: laws_szOptionS -/
def c_laws_szOptionS_1 : ACode := .seq (.reg [(none, .keep [0, 1, 5] [] [])]) (.seq (.seq (.reg [(none, .mv 12 (S 5)), (none, .mv 13 (S 0)), (none, .len 14 (S 13)), (none, .bin 15 .lss (S 12) (S 14))]) (.cond (S 15) .skip (.exit 0))) (.seq (.block 1 (.seq (.reg [(none, .mv 18 (S 0)), (none, .mv 19 (S 5)), (none, .iaddr 20 (S 18) (S 19) 4), (none, .load 21 (S 20) true 4), (none, .mv 22 (S 1)), (none, .call 23 24 [(S 21), (S 22)]), (none, .mv 1 (S 23))]) (.seq (.reg [(none, .mv 24 (S 1)), (none, .bin 25 .lss (S 24) (K 0))]) (.cond (S 25) (.seq (.reg [(none, .mv 4 (K (-1)))]) .ret) .skip)))) (.reg [(none, .mv 16 (S 5)), (none, .bin 17 .add (S 16) (K 1)), (none, .mv 5 (S 17))])))
def c_laws_szOptionS_n1 : ACode := (.seq (.reg [(none, .mv 26 (S 1)), (none, .mv 4 (S 26))]) .ret)
def c_laws_szOptionS : ACode := (.seq (.reg [(none, .mv 4 (K 0))]) (.seq (.reg [(none, .mv 6 (S 1)), (none, .mv 7 (S 0)), (none, .len 8 (S 7)), (none, .bin 9 .sub (S 6) (S 8)), (none, .mv 1 (S 9))]) (.seq (.seq (.reg [(none, .mv 10 (S 1)), (none, .bin 11 .lss (S 10) (K 0))]) (.cond (S 11) (.seq (.reg [(none, .mv 4 (K (-1)))]) .ret) .skip)) (.seq (.seq (.reg [(none, .mv 5 (K 0))]) (.block 0 (.loop c_laws_szOptionS_1))) c_laws_szOptionS_n1))))
theorem w_laws_szOptionS_1 (a0 : List XOption) : ∀ (n : Nat) (v2 : Int) (v3 : Int) (r : Int), f_laws_szOptionS_1 a0 n v2 v3 = some r → ∀ σ : St, σ.kept [0, 1, 5] [] [] = ⟨[(0, vc (aL (List.map XOption.row a0))), (1, vc (aI v2)), (5, vc (aI v3))], [], []⟩ → go Tryz.prog (.code (.loop c_laws_szOptionS_1) :: [.blk 0, .code c_laws_szOptionS_n1]) (Ret [4] [.sc (.v (.int .i64 r))]) .normal (some σ) := by
  intro n
  induction n with
  | zero => intro _ _ r h; cases h
  | succ n ih =>
    intro v2 v3 r h σ hσ
    rw [f_laws_szOptionS_1] at h
    refine go_round ?_
    rcases Bool.eq_false_or_eq_true (decide (v3 < (a0.length : Int))) with hb4 | hb4
    · rw [ite_t hb4] at h
      obtain ⟨x5, hx5, h⟩ := ob h
      obtain ⟨r6, hr6, h⟩ := ob h
      try simp only [hσ, hb4, hx5, c_laws_szOptionS_1, Nat.reduceBEq, Nat.reduceMul, Nat.reduceAdd, Nat.reduceDiv, Int.reduceBEq, rules2, rulesX, rowsX]
      refine go_callI (w_laws_szOption _ _ _ hr6) rfl rfl (Nat.le_of_ble_eq_true rfl) ?_
      rcases Bool.eq_false_or_eq_true (decide (r6 < (0 : Int))) with hb7 | hb7
      · rw [ite_t hb7] at h
        try simp only [hb4, hx5, hb7, Nat.reduceBEq, Nat.reduceMul, Nat.reduceAdd, Nat.reduceDiv, Int.reduceBEq, rules2, rulesX, rowsX]
        cases h
        exact ⟨⟨rfl, trivial⟩, rfl⟩
      · rw [ite_f hb7] at h
        try simp only [hb4, hx5, hb7, Nat.reduceBEq, Nat.reduceMul, Nat.reduceAdd, Nat.reduceDiv, Int.reduceBEq, rules2, rulesX, rowsX]
        refine ih _ _ _ h _ ?_
        try simp only [hb4, hx5, hb7, Nat.reduceBEq, Nat.reduceMul, Nat.reduceAdd, Nat.reduceDiv, Int.reduceBEq, rules2, rulesX, rowsX, List.map_nil]
    · rw [ite_f hb4] at h
      try simp only [hσ, hb4, c_laws_szOptionS_1, c_laws_szOptionS_n1, Nat.reduceBEq, Nat.reduceMul, Nat.reduceAdd, Nat.reduceDiv, Int.reduceBEq, rules2, rulesX, rowsX]
      cases h
      exact ⟨⟨rfl, trivial⟩, rfl⟩
theorem e_laws_szOptionS : entry Tryz.prog 7 = some (c_laws_szOptionS.strip, [4], 27) := by kernel_rfl
theorem w_laws_szOptionS (a0 : List XOption) (a1 : Int) (r : Int) (h : f_laws_szOptionS a0 a1 = some r) : FC Tryz.prog 7 [.sc (.sl (List.map XOption.row a0)), .sc (.int .i64 a1)] [.sc (.v (.int .i64 r))] := by
  unfold f_laws_szOptionS at h
  refine FC_go (σ := ⟨[(0, vc (aL (List.map XOption.row a0))), (1, vc (aI a1))], [], []⟩) mixed e_laws_szOptionS rfl rfl ?_
  simp only [c_laws_szOptionS]
  rcases Bool.eq_false_or_eq_true (decide ((IntKind.i64.wrap (a1 - (a0.length : Int))) < (0 : Int))) with hb1 | hb1
  · rw [ite_t hb1] at h
    try simp only [hb1, Nat.reduceBEq, Nat.reduceMul, Nat.reduceAdd, Nat.reduceDiv, Int.reduceBEq, rules2, rulesX, rowsX]
    cases h
    exact ⟨⟨rfl, trivial⟩, rfl⟩
  · rw [ite_f hb1] at h
    try simp only [hb1, Nat.reduceBEq, Nat.reduceMul, Nat.reduceAdd, Nat.reduceDiv, Int.reduceBEq, rules2, rulesX, rowsX]
    refine w_laws_szOptionS_1 _ _ _ _ _ h _ ?_
    try simp only [hb1, Nat.reduceBEq, Nat.reduceMul, Nat.reduceAdd, Nat.reduceDiv, Int.reduceBEq, rules2, rulesX, rowsX, List.map_nil]
/- 119: laws_toPart -/
def c_laws_toPart : ACode := (.seq (.reg [(none, .box 1 (S 0)), (none, .alloc 2 [aI 0, aI 0, aI 0])]) (.seq (.reg [(none, .alloc 3 [aI 0, aI 0, aI 0])]) (.seq (.reg [(none, .faddr 4 (S 1) 0), (none, .load 5 (S 4) false 1), (none, .faddr 6 (S 3) 0), (none, .store (S 6) (S 5) 1)]) (.seq (.reg [(none, .faddr 7 (S 1) 1), (none, .load 8 (S 7) false 1), (none, .faddr 9 (S 3) 1), (none, .store (S 9) (S 8) 1)]) (.seq (.reg [(none, .faddr 10 (S 1) 2), (none, .load 11 (S 10) false 1), (none, .faddr 12 (S 3) 2), (none, .store (S 12) (S 11) 1)]) (.seq (.reg [(none, .load 13 (S 3) true 3), (none, .store (S 2) (S 13) 3)]) .ret))))))
theorem e_laws_toPart : entry Tryz.prog 119 = some (c_laws_toPart.strip, [.c 2 true 3], 14) := by kernel_rfl
theorem w_laws_toPart (a0 : XPart) (r : XPart) (h : f_laws_toPart a0 = some r) : FC Tryz.prog 119 [.ag (XPart.row a0)] [.ag [.v (.int .i64 r.Amp), .v (.int .i64 r.Period), .v (.int .i64 r.Phase)]] := by
  unfold f_laws_toPart at h
  refine FC_go (σ := ⟨[(0, va [aI a0.Amp, aI a0.Period, aI a0.Phase])], [], []⟩) mixed e_laws_toPart rfl rfl ?_
  simp only [c_laws_toPart]
  try simp only [Nat.reduceBEq, Nat.reduceMul, Nat.reduceAdd, Nat.reduceDiv, Int.reduceBEq, rules2, rulesX, rowsX]
  refine go_bx rfl rfl rfl ?_
  try simp only [Nat.reduceBEq, Nat.reduceMul, Nat.reduceAdd, Nat.reduceDiv, Int.reduceBEq, rules2, rulesX, rowsX]
  refine go_al rfl rfl ?_
  try simp only [Nat.reduceBEq, Nat.reduceMul, Nat.reduceAdd, Nat.reduceDiv, Int.reduceBEq, rules2, rulesX, rowsX]
  refine go_al rfl rfl ?_
  try simp only [Nat.reduceBEq, Nat.reduceMul, Nat.reduceAdd, Nat.reduceDiv, Int.reduceBEq, rules2, rulesX, rowsX]
  cases h
  try simp only [rulesR, Nat.reduceBEq, Nat.reduceMul, Nat.reduceAdd, Nat.reduceDiv, Int.reduceBEq, rules2, rulesX, rowsX]
  exact ⟨⟨⟨rfl, rfl, rfl, trivial⟩, trivial⟩, rfl⟩
/- 84: laws_toPartS -/
def c_laws_toPartS_1 : ACode := .seq (.reg [(none, .keep [0, 3, 4] [] [448])]) (.seq (.seq (.reg [(none, .mv 8 (S 4)), (none, .mv 9 (S 0)), (none, .len 10 (S 9)), (none, .bin 11 .lss (S 8) (S 10))]) (.cond (S 11) .skip (.exit 0))) (.seq (.block 1 (.reg [(none, .mv 14 (S 3)), (none, .mv 15 (S 4)), (none, .mv 16 (S 0)), (none, .mv 17 (S 4)), (none, .iaddr 18 (S 16) (S 17) 3), (none, .load 19 (S 18) true 3), (none, .call 20 119 [(S 19)]), (none, .iaddr 21 (S 14) (S 15) 3), (none, .store (S 21) (S 20) 3)])) (.reg [(none, .mv 12 (S 4)), (none, .bin 13 .add (S 12) (K 1)), (none, .mv 4 (S 13))])))
def c_laws_toPartS_n1 : ACode := (.seq (.reg [(none, .mv 22 (S 3)), (none, .mv 2 (S 22))]) .ret)
def c_laws_toPartS : ACode := (.seq (.reg [(none, .mv 2 KN)]) (.seq (.reg [(none, .mv 5 (S 0)), (none, .len 6 (S 5)), (none, .mksl 7 3 24 [.int .i64 0, .int .i64 0, .int .i64 0] (S 6) (S 6)), (none, .mv 3 (S 7))]) (.seq (.seq (.reg [(none, .mv 4 (K 0))]) (.block 0 (.loop c_laws_toPartS_1))) c_laws_toPartS_n1)))
theorem w_laws_toPartS_1 (a0 : List XPart) : ∀ (n : Nat) (v2 : Int) (v3 : List XPart) (r : (List XPart)), f_laws_toPartS_1 a0 n v2 v3 = some r → ∀ σ : St, σ.kept [0, 3, 4] [] [448] = ⟨[(0, vc (aL (List.map XPart.row a0))), (3, vc (.own 448)), (4, vc (aI v2))], [], [(448, 3, List.map XPart.row v3)]⟩ → go Tryz.prog (.code (.loop c_laws_toPartS_1) :: [.blk 0, .code c_laws_toPartS_n1]) (Ret [2] [.sc (.o 3 (List.map XPart.row r))]) .normal (some σ) := by
  intro n
  induction n with
  | zero => intro _ _ r h; cases h
  | succ n ih =>
    intro v2 v3 r h σ hσ
    rw [f_laws_toPartS_1] at h
    refine go_round ?_
    rcases Bool.eq_false_or_eq_true (decide (v2 < (a0.length : Int))) with hb4 | hb4
    · rw [ite_t hb4] at h
      obtain ⟨x5, hx5, h⟩ := ob h
      obtain ⟨r6, hr6, h⟩ := ob h
      try simp only [hσ, hb4, hx5, c_laws_toPartS_1, Nat.reduceBEq, Nat.reduceMul, Nat.reduceAdd, Nat.reduceDiv, Int.reduceBEq, rules2, rulesX, rowsX]
      refine go_callI (w_laws_toPart _ _ hr6) rfl rfl (Nat.le_of_ble_eq_true rfl) ?_
      obtain ⟨x7, hx7, h⟩ := ob h
      have hx7n := ix_get hx7
      try simp only [hb4, hx5, hx7, Nat.reduceBEq, Nat.reduceMul, Nat.reduceAdd, Nat.reduceDiv, Int.reduceBEq, rules2, rulesX, rowsX]
      refine go_stp (y := r6) rfl rfl hx7n rfl rfl rfl ?_
      try simp only [hb4, hx5, hx7, Nat.reduceBEq, Nat.reduceMul, Nat.reduceAdd, Nat.reduceDiv, Int.reduceBEq, rules2, rulesX, rowsX]
      refine ih _ _ _ h _ ?_
      try simp only [hb4, hx5, hx7, Nat.reduceBEq, Nat.reduceMul, Nat.reduceAdd, Nat.reduceDiv, Int.reduceBEq, rules2, rulesX, rowsX, List.map_nil]
    · rw [ite_f hb4] at h
      try simp only [hσ, hb4, c_laws_toPartS_1, c_laws_toPartS_n1, Nat.reduceBEq, Nat.reduceMul, Nat.reduceAdd, Nat.reduceDiv, Int.reduceBEq, rules2, rulesX, rowsX]
      cases h
      exact ⟨⟨rfl, trivial⟩, rfl⟩
theorem e_laws_toPartS : entry Tryz.prog 84 = some (c_laws_toPartS.strip, [2], 23) := by kernel_rfl
theorem w_laws_toPartS (a0 : List XPart) (r : (List XPart)) (h : f_laws_toPartS a0 = some r) : FC Tryz.prog 84 [.sc (.sl (List.map XPart.row a0))] [.sc (.o 3 (List.map XPart.row r))] := by
  unfold f_laws_toPartS at h
  refine FC_go (σ := ⟨[(0, vc (aL (List.map XPart.row a0)))], [], []⟩) mixed e_laws_toPartS rfl rfl ?_
  simp only [c_laws_toPartS]
  obtain ⟨n1, hn1, h⟩ := ob h
  try simp only [Nat.reduceBEq, Nat.reduceMul, Nat.reduceAdd, Nat.reduceDiv, Int.reduceBEq, rules2, rulesX, rowsX]
  refine go_mks (es := List.map XPart.row (List.replicate n1 (⟨(0 : Int), (0 : Int), (0 : Int)⟩ : XPart))) rfl rfl hn1 rfl (rep_map rfl) rfl ?_
  try simp only [Nat.reduceBEq, Nat.reduceMul, Nat.reduceAdd, Nat.reduceDiv, Int.reduceBEq, rules2, rulesX, rowsX]
  refine w_laws_toPartS_1 _ _ _ _ _ h _ ?_
  try simp only [Nat.reduceBEq, Nat.reduceMul, Nat.reduceAdd, Nat.reduceDiv, Int.reduceBEq, rules2, rulesX, rowsX, List.map_nil]
/- 54: laws_toTide -/
def c_laws_toTide : ACode := (.seq (.reg [(none, .box 1 (S 0)), (none, .alloc 2 [aI 0, .nil])]) (.seq (.reg [(none, .alloc 3 [aI 0, .nil])]) (.seq (.reg [(none, .faddr 4 (S 1) 0), (none, .load 5 (S 4) false 1), (none, .faddr 6 (S 3) 0), (none, .store (S 6) (S 5) 1)]) (.seq (.reg [(none, .faddr 7 (S 1) 1), (none, .load 8 (S 7) false 1), (none, .call 9 84 [(S 8)]), (none, .faddr 10 (S 3) 1), (none, .store (S 10) (S 9) 1)]) (.seq (.reg [(none, .load 11 (S 3) true 2), (none, .store (S 2) (S 11) 2)]) .ret)))))
theorem e_laws_toTide : entry Tryz.prog 54 = some (c_laws_toTide.strip, [.c 2 true 2], 12) := by kernel_rfl
theorem w_laws_toTide (a0 : XTide) (r : XTide) (h : f_laws_toTide a0 = some r) : FC Tryz.prog 54 [.ag (XTide.row a0)] [.ag [.v (.int .i64 r.Mean), .o 3 (List.map XPart.row r.Parts)]] := by
  unfold f_laws_toTide at h
  refine FC_go (σ := ⟨[(0, va [aI a0.Mean, aL (List.map XPart.row a0.Parts)])], [], []⟩) mixed e_laws_toTide rfl rfl ?_
  simp only [c_laws_toTide]
  try simp only [Nat.reduceBEq, Nat.reduceMul, Nat.reduceAdd, Nat.reduceDiv, Int.reduceBEq, rules2, rulesX, rowsX]
  refine go_bx rfl rfl rfl ?_
  try simp only [Nat.reduceBEq, Nat.reduceMul, Nat.reduceAdd, Nat.reduceDiv, Int.reduceBEq, rules2, rulesX, rowsX]
  refine go_al rfl rfl ?_
  try simp only [Nat.reduceBEq, Nat.reduceMul, Nat.reduceAdd, Nat.reduceDiv, Int.reduceBEq, rules2, rulesX, rowsX]
  refine go_al rfl rfl ?_
  obtain ⟨r1, hr1, h⟩ := ob h
  try simp only [Nat.reduceBEq, Nat.reduceMul, Nat.reduceAdd, Nat.reduceDiv, Int.reduceBEq, rules2, rulesX, rowsX]
  refine go_callI (w_laws_toPartS _ _ hr1) rfl rfl (Nat.le_of_ble_eq_true rfl) ?_
  try simp only [Nat.reduceBEq, Nat.reduceMul, Nat.reduceAdd, Nat.reduceDiv, Int.reduceBEq, rules2, rulesX, rowsX]
  cases h
  try simp only [rulesR, Nat.reduceBEq, Nat.reduceMul, Nat.reduceAdd, Nat.reduceDiv, Int.reduceBEq, rules2, rulesX, rowsX]
  exact ⟨⟨⟨rfl, rfl, trivial⟩, trivial⟩, rfl⟩
/- 85: laws_toSurge -/
def c_laws_toSurge : ACode := (.seq (.reg [(none, .box 1 (S 0)), (none, .alloc 2 [aI 0, aI 0, aI 0])]) (.seq (.reg [(none, .alloc 3 [aI 0, aI 0, aI 0])]) (.seq (.reg [(none, .faddr 4 (S 1) 0), (none, .load 5 (S 4) false 1), (none, .faddr 6 (S 3) 0), (none, .store (S 6) (S 5) 1)]) (.seq (.reg [(none, .faddr 7 (S 1) 1), (none, .load 8 (S 7) false 1), (none, .faddr 9 (S 3) 1), (none, .store (S 9) (S 8) 1)]) (.seq (.reg [(none, .faddr 10 (S 1) 2), (none, .load 11 (S 10) false 1), (none, .faddr 12 (S 3) 2), (none, .store (S 12) (S 11) 1)]) (.seq (.reg [(none, .load 13 (S 3) true 3), (none, .store (S 2) (S 13) 3)]) .ret))))))
theorem e_laws_toSurge : entry Tryz.prog 85 = some (c_laws_toSurge.strip, [.c 2 true 3], 14) := by kernel_rfl
theorem w_laws_toSurge (a0 : XSurge) (r : XSurge) (h : f_laws_toSurge a0 = some r) : FC Tryz.prog 85 [.ag (XSurge.row a0)] [.ag [.v (.int .i64 r.From), .v (.int .i64 r.Low), .v (.int .i64 r.High)]] := by
  unfold f_laws_toSurge at h
  refine FC_go (σ := ⟨[(0, va [aI a0.From, aI a0.Low, aI a0.High])], [], []⟩) mixed e_laws_toSurge rfl rfl ?_
  simp only [c_laws_toSurge]
  try simp only [Nat.reduceBEq, Nat.reduceMul, Nat.reduceAdd, Nat.reduceDiv, Int.reduceBEq, rules2, rulesX, rowsX]
  refine go_bx rfl rfl rfl ?_
  try simp only [Nat.reduceBEq, Nat.reduceMul, Nat.reduceAdd, Nat.reduceDiv, Int.reduceBEq, rules2, rulesX, rowsX]
  refine go_al rfl rfl ?_
  try simp only [Nat.reduceBEq, Nat.reduceMul, Nat.reduceAdd, Nat.reduceDiv, Int.reduceBEq, rules2, rulesX, rowsX]
  refine go_al rfl rfl ?_
  try simp only [Nat.reduceBEq, Nat.reduceMul, Nat.reduceAdd, Nat.reduceDiv, Int.reduceBEq, rules2, rulesX, rowsX]
  cases h
  try simp only [rulesR, Nat.reduceBEq, Nat.reduceMul, Nat.reduceAdd, Nat.reduceDiv, Int.reduceBEq, rules2, rulesX, rowsX]
  exact ⟨⟨⟨rfl, rfl, rfl, trivial⟩, trivial⟩, rfl⟩
/- 55: laws_toSurgeS -/
def c_laws_toSurgeS_1 : ACode := .seq (.reg [(none, .keep [0, 3, 4] [] [448])]) (.seq (.seq (.reg [(none, .mv 8 (S 4)), (none, .mv 9 (S 0)), (none, .len 10 (S 9)), (none, .bin 11 .lss (S 8) (S 10))]) (.cond (S 11) .skip (.exit 0))) (.seq (.block 1 (.reg [(none, .mv 14 (S 3)), (none, .mv 15 (S 4)), (none, .mv 16 (S 0)), (none, .mv 17 (S 4)), (none, .iaddr 18 (S 16) (S 17) 3), (none, .load 19 (S 18) true 3), (none, .call 20 85 [(S 19)]), (none, .iaddr 21 (S 14) (S 15) 3), (none, .store (S 21) (S 20) 3)])) (.reg [(none, .mv 12 (S 4)), (none, .bin 13 .add (S 12) (K 1)), (none, .mv 4 (S 13))])))
def c_laws_toSurgeS_n1 : ACode := (.seq (.reg [(none, .mv 22 (S 3)), (none, .mv 2 (S 22))]) .ret)
def c_laws_toSurgeS : ACode := (.seq (.reg [(none, .mv 2 KN)]) (.seq (.reg [(none, .mv 5 (S 0)), (none, .len 6 (S 5)), (none, .mksl 7 3 24 [.int .i64 0, .int .i64 0, .int .i64 0] (S 6) (S 6)), (none, .mv 3 (S 7))]) (.seq (.seq (.reg [(none, .mv 4 (K 0))]) (.block 0 (.loop c_laws_toSurgeS_1))) c_laws_toSurgeS_n1)))
theorem w_laws_toSurgeS_1 (a0 : List XSurge) : ∀ (n : Nat) (v2 : Int) (v3 : List XSurge) (r : (List XSurge)), f_laws_toSurgeS_1 a0 n v2 v3 = some r → ∀ σ : St, σ.kept [0, 3, 4] [] [448] = ⟨[(0, vc (aL (List.map XSurge.row a0))), (3, vc (.own 448)), (4, vc (aI v2))], [], [(448, 3, List.map XSurge.row v3)]⟩ → go Tryz.prog (.code (.loop c_laws_toSurgeS_1) :: [.blk 0, .code c_laws_toSurgeS_n1]) (Ret [2] [.sc (.o 3 (List.map XSurge.row r))]) .normal (some σ) := by
  intro n
  induction n with
  | zero => intro _ _ r h; cases h
  | succ n ih =>
    intro v2 v3 r h σ hσ
    rw [f_laws_toSurgeS_1] at h
    refine go_round ?_
    rcases Bool.eq_false_or_eq_true (decide (v2 < (a0.length : Int))) with hb4 | hb4
    · rw [ite_t hb4] at h
      obtain ⟨x5, hx5, h⟩ := ob h
      obtain ⟨r6, hr6, h⟩ := ob h
      try simp only [hσ, hb4, hx5, c_laws_toSurgeS_1, Nat.reduceBEq, Nat.reduceMul, Nat.reduceAdd, Nat.reduceDiv, Int.reduceBEq, rules2, rulesX, rowsX]
      refine go_callI (w_laws_toSurge _ _ hr6) rfl rfl (Nat.le_of_ble_eq_true rfl) ?_
      obtain ⟨x7, hx7, h⟩ := ob h
      have hx7n := ix_get hx7
      try simp only [hb4, hx5, hx7, Nat.reduceBEq, Nat.reduceMul, Nat.reduceAdd, Nat.reduceDiv, Int.reduceBEq, rules2, rulesX, rowsX]
      refine go_stp (y := r6) rfl rfl hx7n rfl rfl rfl ?_
      try simp only [hb4, hx5, hx7, Nat.reduceBEq, Nat.reduceMul, Nat.reduceAdd, Nat.reduceDiv, Int.reduceBEq, rules2, rulesX, rowsX]
      refine ih _ _ _ h _ ?_
      try simp only [hb4, hx5, hx7, Nat.reduceBEq, Nat.reduceMul, Nat.reduceAdd, Nat.reduceDiv, Int.reduceBEq, rules2, rulesX, rowsX, List.map_nil]
    · rw [ite_f hb4] at h
      try simp only [hσ, hb4, c_laws_toSurgeS_1, c_laws_toSurgeS_n1, Nat.reduceBEq, Nat.reduceMul, Nat.reduceAdd, Nat.reduceDiv, Int.reduceBEq, rules2, rulesX, rowsX]
      cases h
      exact ⟨⟨rfl, trivial⟩, rfl⟩
theorem e_laws_toSurgeS : entry Tryz.prog 55 = some (c_laws_toSurgeS.strip, [2], 23) := by kernel_rfl
theorem w_laws_toSurgeS (a0 : List XSurge) (r : (List XSurge)) (h : f_laws_toSurgeS a0 = some r) : FC Tryz.prog 55 [.sc (.sl (List.map XSurge.row a0))] [.sc (.o 3 (List.map XSurge.row r))] := by
  unfold f_laws_toSurgeS at h
  refine FC_go (σ := ⟨[(0, vc (aL (List.map XSurge.row a0)))], [], []⟩) mixed e_laws_toSurgeS rfl rfl ?_
  simp only [c_laws_toSurgeS]
  obtain ⟨n1, hn1, h⟩ := ob h
  try simp only [Nat.reduceBEq, Nat.reduceMul, Nat.reduceAdd, Nat.reduceDiv, Int.reduceBEq, rules2, rulesX, rowsX]
  refine go_mks (es := List.map XSurge.row (List.replicate n1 (⟨(0 : Int), (0 : Int), (0 : Int)⟩ : XSurge))) rfl rfl hn1 rfl (rep_map rfl) rfl ?_
  try simp only [Nat.reduceBEq, Nat.reduceMul, Nat.reduceAdd, Nat.reduceDiv, Int.reduceBEq, rules2, rulesX, rowsX]
  refine w_laws_toSurgeS_1 _ _ _ _ _ h _ ?_
  try simp only [Nat.reduceBEq, Nat.reduceMul, Nat.reduceAdd, Nat.reduceDiv, Int.reduceBEq, rules2, rulesX, rowsX, List.map_nil]
/- 26: laws_toForecast -/
def c_laws_toForecast : ACode := (.seq (.reg [(none, .box 1 (S 0)), (none, .alloc 2 [aI 0, .nil, .nil])]) (.seq (.reg [(none, .alloc 3 [aI 0, .nil, .nil])]) (.seq (.reg [(none, .faddr 4 (S 1) 0), (none, .load 5 (S 4) true 2), (none, .call 6 54 [(S 5)]), (none, .faddr 7 (S 3) 0), (none, .store (S 7) (S 6) 2)]) (.seq (.reg [(none, .faddr 8 (S 1) 2), (none, .load 9 (S 8) false 1), (none, .call 10 55 [(S 9)]), (none, .faddr 11 (S 3) 2), (none, .store (S 11) (S 10) 1)]) (.seq (.reg [(none, .load 12 (S 3) true 3), (none, .store (S 2) (S 12) 3)]) .ret)))))
theorem e_laws_toForecast : entry Tryz.prog 26 = some (c_laws_toForecast.strip, [.c 2 true 3], 13) := by kernel_rfl
theorem w_laws_toForecast (a0 : XForecast) (r : XForecast) (h : f_laws_toForecast a0 = some r) : FC Tryz.prog 26 [.ag (XForecast.row a0)] [.ag [.v (.int .i64 r.Tide.Mean), .o 3 (List.map XPart.row r.Tide.Parts), .o 3 (List.map XSurge.row r.Surges)]] := by
  unfold f_laws_toForecast at h
  refine FC_go (σ := ⟨[(0, va [aI a0.Tide.Mean, aL (List.map XPart.row a0.Tide.Parts), aL (List.map XSurge.row a0.Surges)])], [], []⟩) mixed e_laws_toForecast rfl rfl ?_
  simp only [c_laws_toForecast]
  try simp only [Nat.reduceBEq, Nat.reduceMul, Nat.reduceAdd, Nat.reduceDiv, Int.reduceBEq, rules2, rulesX, rowsX]
  refine go_bx rfl rfl rfl ?_
  try simp only [Nat.reduceBEq, Nat.reduceMul, Nat.reduceAdd, Nat.reduceDiv, Int.reduceBEq, rules2, rulesX, rowsX]
  refine go_al rfl rfl ?_
  try simp only [Nat.reduceBEq, Nat.reduceMul, Nat.reduceAdd, Nat.reduceDiv, Int.reduceBEq, rules2, rulesX, rowsX]
  refine go_al rfl rfl ?_
  obtain ⟨r1, hr1, h⟩ := ob h
  try simp only [Nat.reduceBEq, Nat.reduceMul, Nat.reduceAdd, Nat.reduceDiv, Int.reduceBEq, rules2, rulesX, rowsX]
  refine go_callI (w_laws_toTide _ _ hr1) rfl rfl (Nat.le_of_ble_eq_true rfl) ?_
  obtain ⟨r2, hr2, h⟩ := ob h
  try simp only [Nat.reduceBEq, Nat.reduceMul, Nat.reduceAdd, Nat.reduceDiv, Int.reduceBEq, rules2, rulesX, rowsX]
  refine go_callI (w_laws_toSurgeS _ _ hr2) rfl rfl (Nat.le_of_ble_eq_true rfl) ?_
  try simp only [Nat.reduceBEq, Nat.reduceMul, Nat.reduceAdd, Nat.reduceDiv, Int.reduceBEq, rules2, rulesX, rowsX]
  cases h
  try simp only [rulesR, Nat.reduceBEq, Nat.reduceMul, Nat.reduceAdd, Nat.reduceDiv, Int.reduceBEq, rules2, rulesX, rowsX]
  exact ⟨⟨⟨rfl, rfl, rfl, trivial⟩, trivial⟩, rfl⟩
/- 86: laws_toPoint -/
def c_laws_toPoint : ACode := (.seq (.reg [(none, .box 1 (S 0)), (none, .alloc 2 [aS [], aB false])]) (.seq (.reg [(none, .alloc 3 [aS [], aB false])]) (.seq (.reg [(none, .faddr 4 (S 1) 0), (none, .load 5 (S 4) false 1), (none, .faddr 6 (S 3) 0), (none, .store (S 6) (S 5) 1)]) (.seq (.reg [(none, .faddr 7 (S 1) 1), (none, .load 8 (S 7) false 1), (none, .faddr 9 (S 3) 1), (none, .store (S 9) (S 8) 1)]) (.seq (.reg [(none, .load 10 (S 3) true 2), (none, .store (S 2) (S 10) 2)]) .ret)))))
theorem e_laws_toPoint : entry Tryz.prog 86 = some (c_laws_toPoint.strip, [.c 2 true 2], 11) := by kernel_rfl
theorem w_laws_toPoint (a0 : XPoint) (r : XPoint) (h : f_laws_toPoint a0 = some r) : FC Tryz.prog 86 [.ag (XPoint.row a0)] [.ag [.v (.str r.Name), .v (.bool r.Wait)]] := by
  unfold f_laws_toPoint at h
  refine FC_go (σ := ⟨[(0, va [aS a0.Name, aB a0.Wait])], [], []⟩) mixed e_laws_toPoint rfl rfl ?_
  simp only [c_laws_toPoint]
  try simp only [Nat.reduceBEq, Nat.reduceMul, Nat.reduceAdd, Nat.reduceDiv, Int.reduceBEq, rules2, rulesX, rowsX]
  refine go_bx rfl rfl rfl ?_
  try simp only [Nat.reduceBEq, Nat.reduceMul, Nat.reduceAdd, Nat.reduceDiv, Int.reduceBEq, rules2, rulesX, rowsX]
  refine go_al rfl rfl ?_
  try simp only [Nat.reduceBEq, Nat.reduceMul, Nat.reduceAdd, Nat.reduceDiv, Int.reduceBEq, rules2, rulesX, rowsX]
  refine go_al rfl rfl ?_
  try simp only [Nat.reduceBEq, Nat.reduceMul, Nat.reduceAdd, Nat.reduceDiv, Int.reduceBEq, rules2, rulesX, rowsX]
  cases h
  try simp only [rulesR, Nat.reduceBEq, Nat.reduceMul, Nat.reduceAdd, Nat.reduceDiv, Int.reduceBEq, rules2, rulesX, rowsX]
  exact ⟨⟨⟨rfl, rfl, trivial⟩, trivial⟩, rfl⟩
/- 56: laws_toPointS -/
def c_laws_toPointS_1 : ACode := .seq (.reg [(none, .keep [0, 3, 4] [] [448])]) (.seq (.seq (.reg [(none, .mv 8 (S 4)), (none, .mv 9 (S 0)), (none, .len 10 (S 9)), (none, .bin 11 .lss (S 8) (S 10))]) (.cond (S 11) .skip (.exit 0))) (.seq (.block 1 (.reg [(none, .mv 14 (S 3)), (none, .mv 15 (S 4)), (none, .mv 16 (S 0)), (none, .mv 17 (S 4)), (none, .iaddr 18 (S 16) (S 17) 2), (none, .load 19 (S 18) true 2), (none, .call 20 86 [(S 19)]), (none, .iaddr 21 (S 14) (S 15) 2), (none, .store (S 21) (S 20) 2)])) (.reg [(none, .mv 12 (S 4)), (none, .bin 13 .add (S 12) (K 1)), (none, .mv 4 (S 13))])))
def c_laws_toPointS_n1 : ACode := (.seq (.reg [(none, .mv 22 (S 3)), (none, .mv 2 (S 22))]) .ret)
def c_laws_toPointS : ACode := (.seq (.reg [(none, .mv 2 KN)]) (.seq (.reg [(none, .mv 5 (S 0)), (none, .len 6 (S 5)), (none, .mksl 7 2 24 [.str [], .bool false] (S 6) (S 6)), (none, .mv 3 (S 7))]) (.seq (.seq (.reg [(none, .mv 4 (K 0))]) (.block 0 (.loop c_laws_toPointS_1))) c_laws_toPointS_n1)))
theorem w_laws_toPointS_1 (a0 : List XPoint) : ∀ (n : Nat) (v2 : Int) (v3 : List XPoint) (r : (List XPoint)), f_laws_toPointS_1 a0 n v2 v3 = some r → ∀ σ : St, σ.kept [0, 3, 4] [] [448] = ⟨[(0, vc (aL (List.map XPoint.row a0))), (3, vc (.own 448)), (4, vc (aI v2))], [], [(448, 2, List.map XPoint.row v3)]⟩ → go Tryz.prog (.code (.loop c_laws_toPointS_1) :: [.blk 0, .code c_laws_toPointS_n1]) (Ret [2] [.sc (.o 2 (List.map XPoint.row r))]) .normal (some σ) := by
  intro n
  induction n with
  | zero => intro _ _ r h; cases h
  | succ n ih =>
    intro v2 v3 r h σ hσ
    rw [f_laws_toPointS_1] at h
    refine go_round ?_
    rcases Bool.eq_false_or_eq_true (decide (v2 < (a0.length : Int))) with hb4 | hb4
    · rw [ite_t hb4] at h
      obtain ⟨x5, hx5, h⟩ := ob h
      obtain ⟨r6, hr6, h⟩ := ob h
      try simp only [hσ, hb4, hx5, c_laws_toPointS_1, Nat.reduceBEq, Nat.reduceMul, Nat.reduceAdd, Nat.reduceDiv, Int.reduceBEq, rules2, rulesX, rowsX]
      refine go_callI (w_laws_toPoint _ _ hr6) rfl rfl (Nat.le_of_ble_eq_true rfl) ?_
      obtain ⟨x7, hx7, h⟩ := ob h
      have hx7n := ix_get hx7
      try simp only [hb4, hx5, hx7, Nat.reduceBEq, Nat.reduceMul, Nat.reduceAdd, Nat.reduceDiv, Int.reduceBEq, rules2, rulesX, rowsX]
      refine go_stp (y := r6) rfl rfl hx7n rfl rfl rfl ?_
      try simp only [hb4, hx5, hx7, Nat.reduceBEq, Nat.reduceMul, Nat.reduceAdd, Nat.reduceDiv, Int.reduceBEq, rules2, rulesX, rowsX]
      refine ih _ _ _ h _ ?_
      try simp only [hb4, hx5, hx7, Nat.reduceBEq, Nat.reduceMul, Nat.reduceAdd, Nat.reduceDiv, Int.reduceBEq, rules2, rulesX, rowsX, List.map_nil]
    · rw [ite_f hb4] at h
      try simp only [hσ, hb4, c_laws_toPointS_1, c_laws_toPointS_n1, Nat.reduceBEq, Nat.reduceMul, Nat.reduceAdd, Nat.reduceDiv, Int.reduceBEq, rules2, rulesX, rowsX]
      cases h
      exact ⟨⟨rfl, trivial⟩, rfl⟩
theorem e_laws_toPointS : entry Tryz.prog 56 = some (c_laws_toPointS.strip, [2], 23) := by kernel_rfl
theorem w_laws_toPointS (a0 : List XPoint) (r : (List XPoint)) (h : f_laws_toPointS a0 = some r) : FC Tryz.prog 56 [.sc (.sl (List.map XPoint.row a0))] [.sc (.o 2 (List.map XPoint.row r))] := by
  unfold f_laws_toPointS at h
  refine FC_go (σ := ⟨[(0, vc (aL (List.map XPoint.row a0)))], [], []⟩) mixed e_laws_toPointS rfl rfl ?_
  simp only [c_laws_toPointS]
  obtain ⟨n1, hn1, h⟩ := ob h
  try simp only [Nat.reduceBEq, Nat.reduceMul, Nat.reduceAdd, Nat.reduceDiv, Int.reduceBEq, rules2, rulesX, rowsX]
  refine go_mks (es := List.map XPoint.row (List.replicate n1 (⟨([] : List UInt8), false⟩ : XPoint))) rfl rfl hn1 rfl (rep_map rfl) rfl ?_
  try simp only [Nat.reduceBEq, Nat.reduceMul, Nat.reduceAdd, Nat.reduceDiv, Int.reduceBEq, rules2, rulesX, rowsX]
  refine w_laws_toPointS_1 _ _ _ _ _ h _ ?_
  try simp only [Nat.reduceBEq, Nat.reduceMul, Nat.reduceAdd, Nat.reduceDiv, Int.reduceBEq, rules2, rulesX, rowsX, List.map_nil]
/- 87: laws_toSegment -/
def c_laws_toSegment : ACode := (.seq (.reg [(none, .box 1 (S 0)), (none, .alloc 2 [aI 0, aI 0, aI 0, aI 0, aB false])]) (.seq (.reg [(none, .alloc 3 [aI 0, aI 0, aI 0, aI 0, aB false])]) (.seq (.reg [(none, .faddr 4 (S 1) 0), (none, .load 5 (S 4) false 1), (none, .faddr 6 (S 3) 0), (none, .store (S 6) (S 5) 1)]) (.seq (.reg [(none, .faddr 7 (S 1) 1), (none, .load 8 (S 7) false 1), (none, .faddr 9 (S 3) 1), (none, .store (S 9) (S 8) 1)]) (.seq (.reg [(none, .faddr 10 (S 1) 2), (none, .load 11 (S 10) false 1), (none, .faddr 12 (S 3) 2), (none, .store (S 12) (S 11) 1)]) (.seq (.reg [(none, .faddr 13 (S 1) 3), (none, .load 14 (S 13) false 1), (none, .faddr 15 (S 3) 3), (none, .store (S 15) (S 14) 1)]) (.seq (.reg [(none, .faddr 16 (S 1) 4), (none, .load 17 (S 16) false 1), (none, .faddr 18 (S 3) 4), (none, .store (S 18) (S 17) 1)]) (.seq (.reg [(none, .load 19 (S 3) true 5), (none, .store (S 2) (S 19) 5)]) .ret))))))))
theorem e_laws_toSegment : entry Tryz.prog 87 = some (c_laws_toSegment.strip, [.c 2 true 5], 20) := by kernel_rfl
theorem w_laws_toSegment (a0 : XSegment) (r : XSegment) (h : f_laws_toSegment a0 = some r) : FC Tryz.prog 87 [.ag (XSegment.row a0)] [.ag [.v (.int .i64 r.A), .v (.int .i64 r.B), .v (.int .i64 r.Depth), .v (.int .i64 r.Minutes), .v (.bool r.Meet)]] := by
  unfold f_laws_toSegment at h
  refine FC_go (σ := ⟨[(0, va [aI a0.A, aI a0.B, aI a0.Depth, aI a0.Minutes, aB a0.Meet])], [], []⟩) mixed e_laws_toSegment rfl rfl ?_
  simp only [c_laws_toSegment]
  try simp only [Nat.reduceBEq, Nat.reduceMul, Nat.reduceAdd, Nat.reduceDiv, Int.reduceBEq, rules2, rulesX, rowsX]
  refine go_bx rfl rfl rfl ?_
  try simp only [Nat.reduceBEq, Nat.reduceMul, Nat.reduceAdd, Nat.reduceDiv, Int.reduceBEq, rules2, rulesX, rowsX]
  refine go_al rfl rfl ?_
  try simp only [Nat.reduceBEq, Nat.reduceMul, Nat.reduceAdd, Nat.reduceDiv, Int.reduceBEq, rules2, rulesX, rowsX]
  refine go_al rfl rfl ?_
  try simp only [Nat.reduceBEq, Nat.reduceMul, Nat.reduceAdd, Nat.reduceDiv, Int.reduceBEq, rules2, rulesX, rowsX]
  cases h
  try simp only [rulesR, Nat.reduceBEq, Nat.reduceMul, Nat.reduceAdd, Nat.reduceDiv, Int.reduceBEq, rules2, rulesX, rowsX]
  exact ⟨⟨⟨rfl, rfl, rfl, rfl, rfl, trivial⟩, trivial⟩, rfl⟩
/- 57: laws_toSegmentS -/
def c_laws_toSegmentS_1 : ACode := .seq (.reg [(none, .keep [0, 3, 4] [] [448])]) (.seq (.seq (.reg [(none, .mv 8 (S 4)), (none, .mv 9 (S 0)), (none, .len 10 (S 9)), (none, .bin 11 .lss (S 8) (S 10))]) (.cond (S 11) .skip (.exit 0))) (.seq (.block 1 (.reg [(none, .mv 14 (S 3)), (none, .mv 15 (S 4)), (none, .mv 16 (S 0)), (none, .mv 17 (S 4)), (none, .iaddr 18 (S 16) (S 17) 5), (none, .load 19 (S 18) true 5), (none, .call 20 87 [(S 19)]), (none, .iaddr 21 (S 14) (S 15) 5), (none, .store (S 21) (S 20) 5)])) (.reg [(none, .mv 12 (S 4)), (none, .bin 13 .add (S 12) (K 1)), (none, .mv 4 (S 13))])))
def c_laws_toSegmentS_n1 : ACode := (.seq (.reg [(none, .mv 22 (S 3)), (none, .mv 2 (S 22))]) .ret)
def c_laws_toSegmentS : ACode := (.seq (.reg [(none, .mv 2 KN)]) (.seq (.reg [(none, .mv 5 (S 0)), (none, .len 6 (S 5)), (none, .mksl 7 5 40 [.int .i64 0, .int .i64 0, .int .i64 0, .int .i64 0, .bool false] (S 6) (S 6)), (none, .mv 3 (S 7))]) (.seq (.seq (.reg [(none, .mv 4 (K 0))]) (.block 0 (.loop c_laws_toSegmentS_1))) c_laws_toSegmentS_n1)))
theorem w_laws_toSegmentS_1 (a0 : List XSegment) : ∀ (n : Nat) (v2 : Int) (v3 : List XSegment) (r : (List XSegment)), f_laws_toSegmentS_1 a0 n v2 v3 = some r → ∀ σ : St, σ.kept [0, 3, 4] [] [448] = ⟨[(0, vc (aL (List.map XSegment.row a0))), (3, vc (.own 448)), (4, vc (aI v2))], [], [(448, 5, List.map XSegment.row v3)]⟩ → go Tryz.prog (.code (.loop c_laws_toSegmentS_1) :: [.blk 0, .code c_laws_toSegmentS_n1]) (Ret [2] [.sc (.o 5 (List.map XSegment.row r))]) .normal (some σ) := by
  intro n
  induction n with
  | zero => intro _ _ r h; cases h
  | succ n ih =>
    intro v2 v3 r h σ hσ
    rw [f_laws_toSegmentS_1] at h
    refine go_round ?_
    rcases Bool.eq_false_or_eq_true (decide (v2 < (a0.length : Int))) with hb4 | hb4
    · rw [ite_t hb4] at h
      obtain ⟨x5, hx5, h⟩ := ob h
      obtain ⟨r6, hr6, h⟩ := ob h
      try simp only [hσ, hb4, hx5, c_laws_toSegmentS_1, Nat.reduceBEq, Nat.reduceMul, Nat.reduceAdd, Nat.reduceDiv, Int.reduceBEq, rules2, rulesX, rowsX]
      refine go_callI (w_laws_toSegment _ _ hr6) rfl rfl (Nat.le_of_ble_eq_true rfl) ?_
      obtain ⟨x7, hx7, h⟩ := ob h
      have hx7n := ix_get hx7
      try simp only [hb4, hx5, hx7, Nat.reduceBEq, Nat.reduceMul, Nat.reduceAdd, Nat.reduceDiv, Int.reduceBEq, rules2, rulesX, rowsX]
      refine go_stp (y := r6) rfl rfl hx7n rfl rfl rfl ?_
      try simp only [hb4, hx5, hx7, Nat.reduceBEq, Nat.reduceMul, Nat.reduceAdd, Nat.reduceDiv, Int.reduceBEq, rules2, rulesX, rowsX]
      refine ih _ _ _ h _ ?_
      try simp only [hb4, hx5, hx7, Nat.reduceBEq, Nat.reduceMul, Nat.reduceAdd, Nat.reduceDiv, Int.reduceBEq, rules2, rulesX, rowsX, List.map_nil]
    · rw [ite_f hb4] at h
      try simp only [hσ, hb4, c_laws_toSegmentS_1, c_laws_toSegmentS_n1, Nat.reduceBEq, Nat.reduceMul, Nat.reduceAdd, Nat.reduceDiv, Int.reduceBEq, rules2, rulesX, rowsX]
      cases h
      exact ⟨⟨rfl, trivial⟩, rfl⟩
theorem e_laws_toSegmentS : entry Tryz.prog 57 = some (c_laws_toSegmentS.strip, [2], 23) := by kernel_rfl
theorem w_laws_toSegmentS (a0 : List XSegment) (r : (List XSegment)) (h : f_laws_toSegmentS a0 = some r) : FC Tryz.prog 57 [.sc (.sl (List.map XSegment.row a0))] [.sc (.o 5 (List.map XSegment.row r))] := by
  unfold f_laws_toSegmentS at h
  refine FC_go (σ := ⟨[(0, vc (aL (List.map XSegment.row a0)))], [], []⟩) mixed e_laws_toSegmentS rfl rfl ?_
  simp only [c_laws_toSegmentS]
  obtain ⟨n1, hn1, h⟩ := ob h
  try simp only [Nat.reduceBEq, Nat.reduceMul, Nat.reduceAdd, Nat.reduceDiv, Int.reduceBEq, rules2, rulesX, rowsX]
  refine go_mks (es := List.map XSegment.row (List.replicate n1 (⟨(0 : Int), (0 : Int), (0 : Int), (0 : Int), false⟩ : XSegment))) rfl rfl hn1 rfl (rep_map rfl) rfl ?_
  try simp only [Nat.reduceBEq, Nat.reduceMul, Nat.reduceAdd, Nat.reduceDiv, Int.reduceBEq, rules2, rulesX, rowsX]
  refine w_laws_toSegmentS_1 _ _ _ _ _ h _ ?_
  try simp only [Nat.reduceBEq, Nat.reduceMul, Nat.reduceAdd, Nat.reduceDiv, Int.reduceBEq, rules2, rulesX, rowsX, List.map_nil]
/- 27: laws_toChart -/
def c_laws_toChart : ACode := (.seq (.reg [(none, .box 1 (S 0)), (none, .alloc 2 [.nil, .nil])]) (.seq (.reg [(none, .alloc 3 [.nil, .nil])]) (.seq (.reg [(none, .faddr 4 (S 1) 0), (none, .load 5 (S 4) false 1), (none, .call 6 56 [(S 5)]), (none, .faddr 7 (S 3) 0), (none, .store (S 7) (S 6) 1)]) (.seq (.reg [(none, .faddr 8 (S 1) 1), (none, .load 9 (S 8) false 1), (none, .call 10 57 [(S 9)]), (none, .faddr 11 (S 3) 1), (none, .store (S 11) (S 10) 1)]) (.seq (.reg [(none, .load 12 (S 3) true 2), (none, .store (S 2) (S 12) 2)]) .ret)))))
theorem e_laws_toChart : entry Tryz.prog 27 = some (c_laws_toChart.strip, [.c 2 true 2], 13) := by kernel_rfl
theorem w_laws_toChart (a0 : XChart) (r : XChart) (h : f_laws_toChart a0 = some r) : FC Tryz.prog 27 [.ag (XChart.row a0)] [.ag [.o 2 (List.map XPoint.row r.Points), .o 5 (List.map XSegment.row r.Segments)]] := by
  unfold f_laws_toChart at h
  refine FC_go (σ := ⟨[(0, va [aL (List.map XPoint.row a0.Points), aL (List.map XSegment.row a0.Segments)])], [], []⟩) mixed e_laws_toChart rfl rfl ?_
  simp only [c_laws_toChart]
  try simp only [Nat.reduceBEq, Nat.reduceMul, Nat.reduceAdd, Nat.reduceDiv, Int.reduceBEq, rules2, rulesX, rowsX]
  refine go_bx rfl rfl rfl ?_
  try simp only [Nat.reduceBEq, Nat.reduceMul, Nat.reduceAdd, Nat.reduceDiv, Int.reduceBEq, rules2, rulesX, rowsX]
  refine go_al rfl rfl ?_
  try simp only [Nat.reduceBEq, Nat.reduceMul, Nat.reduceAdd, Nat.reduceDiv, Int.reduceBEq, rules2, rulesX, rowsX]
  refine go_al rfl rfl ?_
  obtain ⟨r1, hr1, h⟩ := ob h
  try simp only [Nat.reduceBEq, Nat.reduceMul, Nat.reduceAdd, Nat.reduceDiv, Int.reduceBEq, rules2, rulesX, rowsX]
  refine go_callI (w_laws_toPointS _ _ hr1) rfl rfl (Nat.le_of_ble_eq_true rfl) ?_
  obtain ⟨r2, hr2, h⟩ := ob h
  try simp only [Nat.reduceBEq, Nat.reduceMul, Nat.reduceAdd, Nat.reduceDiv, Int.reduceBEq, rules2, rulesX, rowsX]
  refine go_callI (w_laws_toSegmentS _ _ hr2) rfl rfl (Nat.le_of_ble_eq_true rfl) ?_
  try simp only [Nat.reduceBEq, Nat.reduceMul, Nat.reduceAdd, Nat.reduceDiv, Int.reduceBEq, rules2, rulesX, rowsX]
  cases h
  try simp only [rulesR, Nat.reduceBEq, Nat.reduceMul, Nat.reduceAdd, Nat.reduceDiv, Int.reduceBEq, rules2, rulesX, rowsX]
  exact ⟨⟨⟨rfl, rfl, trivial⟩, trivial⟩, rfl⟩
/- 58: laws_toShip -/
def c_laws_toShip : ACode := (.seq (.reg [(none, .box 1 (S 0)), (none, .alloc 2 [aS [], aI 0, aI 0, aI 0, aI 0, aB false])]) (.seq (.reg [(none, .alloc 3 [aS [], aI 0, aI 0, aI 0, aI 0, aB false])]) (.seq (.reg [(none, .faddr 4 (S 1) 0), (none, .load 5 (S 4) false 1), (none, .faddr 6 (S 3) 0), (none, .store (S 6) (S 5) 1)]) (.seq (.reg [(none, .faddr 7 (S 1) 1), (none, .load 8 (S 7) false 1), (none, .faddr 9 (S 3) 1), (none, .store (S 9) (S 8) 1)]) (.seq (.reg [(none, .faddr 10 (S 1) 2), (none, .load 11 (S 10) false 1), (none, .faddr 12 (S 3) 2), (none, .store (S 12) (S 11) 1)]) (.seq (.reg [(none, .faddr 13 (S 1) 3), (none, .load 14 (S 13) false 1), (none, .faddr 15 (S 3) 3), (none, .store (S 15) (S 14) 1)]) (.seq (.reg [(none, .faddr 16 (S 1) 4), (none, .load 17 (S 16) false 1), (none, .faddr 18 (S 3) 4), (none, .store (S 18) (S 17) 1)]) (.seq (.reg [(none, .faddr 19 (S 1) 5), (none, .load 20 (S 19) false 1), (none, .faddr 21 (S 3) 5), (none, .store (S 21) (S 20) 1)]) (.seq (.reg [(none, .load 22 (S 3) true 6), (none, .store (S 2) (S 22) 6)]) .ret)))))))))
theorem e_laws_toShip : entry Tryz.prog 58 = some (c_laws_toShip.strip, [.c 2 true 6], 23) := by kernel_rfl
theorem w_laws_toShip (a0 : XShip) (r : XShip) (h : f_laws_toShip a0 = some r) : FC Tryz.prog 58 [.ag (XShip.row a0)] [.ag [.v (.str r.Name), .v (.int .i64 r.Length), .v (.int .i64 r.Draught), .v (.int .i64 r.Line), .v (.int .i64 r.Tugs), .v (.bool r.Slow)]] := by
  unfold f_laws_toShip at h
  refine FC_go (σ := ⟨[(0, va [aS a0.Name, aI a0.Length, aI a0.Draught, aI a0.Line, aI a0.Tugs, aB a0.Slow])], [], []⟩) mixed e_laws_toShip rfl rfl ?_
  simp only [c_laws_toShip]
  try simp only [Nat.reduceBEq, Nat.reduceMul, Nat.reduceAdd, Nat.reduceDiv, Int.reduceBEq, rules2, rulesX, rowsX]
  refine go_bx rfl rfl rfl ?_
  try simp only [Nat.reduceBEq, Nat.reduceMul, Nat.reduceAdd, Nat.reduceDiv, Int.reduceBEq, rules2, rulesX, rowsX]
  refine go_al rfl rfl ?_
  try simp only [Nat.reduceBEq, Nat.reduceMul, Nat.reduceAdd, Nat.reduceDiv, Int.reduceBEq, rules2, rulesX, rowsX]
  refine go_al rfl rfl ?_
  try simp only [Nat.reduceBEq, Nat.reduceMul, Nat.reduceAdd, Nat.reduceDiv, Int.reduceBEq, rules2, rulesX, rowsX]
  cases h
  try simp only [rulesR, Nat.reduceBEq, Nat.reduceMul, Nat.reduceAdd, Nat.reduceDiv, Int.reduceBEq, rules2, rulesX, rowsX]
  exact ⟨⟨⟨rfl, rfl, rfl, rfl, rfl, rfl, trivial⟩, trivial⟩, rfl⟩
/- 28: laws_toShipS -/
def c_laws_toShipS_1 : ACode := .seq (.reg [(none, .keep [0, 3, 4] [] [448])]) (.seq (.seq (.reg [(none, .mv 8 (S 4)), (none, .mv 9 (S 0)), (none, .len 10 (S 9)), (none, .bin 11 .lss (S 8) (S 10))]) (.cond (S 11) .skip (.exit 0))) (.seq (.block 1 (.reg [(none, .mv 14 (S 3)), (none, .mv 15 (S 4)), (none, .mv 16 (S 0)), (none, .mv 17 (S 4)), (none, .iaddr 18 (S 16) (S 17) 6), (none, .load 19 (S 18) true 6), (none, .call 20 58 [(S 19)]), (none, .iaddr 21 (S 14) (S 15) 6), (none, .store (S 21) (S 20) 6)])) (.reg [(none, .mv 12 (S 4)), (none, .bin 13 .add (S 12) (K 1)), (none, .mv 4 (S 13))])))
def c_laws_toShipS_n1 : ACode := (.seq (.reg [(none, .mv 22 (S 3)), (none, .mv 2 (S 22))]) .ret)
def c_laws_toShipS : ACode := (.seq (.reg [(none, .mv 2 KN)]) (.seq (.reg [(none, .mv 5 (S 0)), (none, .len 6 (S 5)), (none, .mksl 7 6 56 [.str [], .int .i64 0, .int .i64 0, .int .i64 0, .int .i64 0, .bool false] (S 6) (S 6)), (none, .mv 3 (S 7))]) (.seq (.seq (.reg [(none, .mv 4 (K 0))]) (.block 0 (.loop c_laws_toShipS_1))) c_laws_toShipS_n1)))
theorem w_laws_toShipS_1 (a0 : List XShip) : ∀ (n : Nat) (v2 : Int) (v3 : List XShip) (r : (List XShip)), f_laws_toShipS_1 a0 n v2 v3 = some r → ∀ σ : St, σ.kept [0, 3, 4] [] [448] = ⟨[(0, vc (aL (List.map XShip.row a0))), (3, vc (.own 448)), (4, vc (aI v2))], [], [(448, 6, List.map XShip.row v3)]⟩ → go Tryz.prog (.code (.loop c_laws_toShipS_1) :: [.blk 0, .code c_laws_toShipS_n1]) (Ret [2] [.sc (.o 6 (List.map XShip.row r))]) .normal (some σ) := by
  intro n
  induction n with
  | zero => intro _ _ r h; cases h
  | succ n ih =>
    intro v2 v3 r h σ hσ
    rw [f_laws_toShipS_1] at h
    refine go_round ?_
    rcases Bool.eq_false_or_eq_true (decide (v2 < (a0.length : Int))) with hb4 | hb4
    · rw [ite_t hb4] at h
      obtain ⟨x5, hx5, h⟩ := ob h
      obtain ⟨r6, hr6, h⟩ := ob h
      try simp only [hσ, hb4, hx5, c_laws_toShipS_1, Nat.reduceBEq, Nat.reduceMul, Nat.reduceAdd, Nat.reduceDiv, Int.reduceBEq, rules2, rulesX, rowsX]
      refine go_callI (w_laws_toShip _ _ hr6) rfl rfl (Nat.le_of_ble_eq_true rfl) ?_
      obtain ⟨x7, hx7, h⟩ := ob h
      have hx7n := ix_get hx7
      try simp only [hb4, hx5, hx7, Nat.reduceBEq, Nat.reduceMul, Nat.reduceAdd, Nat.reduceDiv, Int.reduceBEq, rules2, rulesX, rowsX]
      refine go_stp (y := r6) rfl rfl hx7n rfl rfl rfl ?_
      try simp only [hb4, hx5, hx7, Nat.reduceBEq, Nat.reduceMul, Nat.reduceAdd, Nat.reduceDiv, Int.reduceBEq, rules2, rulesX, rowsX]
      refine ih _ _ _ h _ ?_
      try simp only [hb4, hx5, hx7, Nat.reduceBEq, Nat.reduceMul, Nat.reduceAdd, Nat.reduceDiv, Int.reduceBEq, rules2, rulesX, rowsX, List.map_nil]
    · rw [ite_f hb4] at h
      try simp only [hσ, hb4, c_laws_toShipS_1, c_laws_toShipS_n1, Nat.reduceBEq, Nat.reduceMul, Nat.reduceAdd, Nat.reduceDiv, Int.reduceBEq, rules2, rulesX, rowsX]
      cases h
      exact ⟨⟨rfl, trivial⟩, rfl⟩
theorem e_laws_toShipS : entry Tryz.prog 28 = some (c_laws_toShipS.strip, [2], 23) := by kernel_rfl
theorem w_laws_toShipS (a0 : List XShip) (r : (List XShip)) (h : f_laws_toShipS a0 = some r) : FC Tryz.prog 28 [.sc (.sl (List.map XShip.row a0))] [.sc (.o 6 (List.map XShip.row r))] := by
  unfold f_laws_toShipS at h
  refine FC_go (σ := ⟨[(0, vc (aL (List.map XShip.row a0)))], [], []⟩) mixed e_laws_toShipS rfl rfl ?_
  simp only [c_laws_toShipS]
  obtain ⟨n1, hn1, h⟩ := ob h
  try simp only [Nat.reduceBEq, Nat.reduceMul, Nat.reduceAdd, Nat.reduceDiv, Int.reduceBEq, rules2, rulesX, rowsX]
  refine go_mks (es := List.map XShip.row (List.replicate n1 (⟨([] : List UInt8), (0 : Int), (0 : Int), (0 : Int), (0 : Int), false⟩ : XShip))) rfl rfl hn1 rfl (rep_map rfl) rfl ?_
  try simp only [Nat.reduceBEq, Nat.reduceMul, Nat.reduceAdd, Nat.reduceDiv, Int.reduceBEq, rules2, rulesX, rowsX]
  refine w_laws_toShipS_1 _ _ _ _ _ h _ ?_
  try simp only [Nat.reduceBEq, Nat.reduceMul, Nat.reduceAdd, Nat.reduceDiv, Int.reduceBEq, rules2, rulesX, rowsX, List.map_nil]
/- 29: laws_toRegime -/
def c_laws_toRegime : ACode := (.seq (.reg [(none, .box 1 (S 0)), (none, .alloc 2 [aI 0, aB false])]) (.seq (.reg [(none, .alloc 3 [aI 0, aB false])]) (.seq (.reg [(none, .faddr 4 (S 1) 0), (none, .load 5 (S 4) false 1), (none, .faddr 6 (S 3) 0), (none, .store (S 6) (S 5) 1)]) (.seq (.reg [(none, .faddr 7 (S 1) 1), (none, .load 8 (S 7) false 1), (none, .faddr 9 (S 3) 1), (none, .store (S 9) (S 8) 1)]) (.seq (.reg [(none, .load 10 (S 3) true 2), (none, .store (S 2) (S 10) 2)]) .ret)))))
theorem e_laws_toRegime : entry Tryz.prog 29 = some (c_laws_toRegime.strip, [.c 2 true 2], 11) := by kernel_rfl
theorem w_laws_toRegime (a0 : XRegime) (r : XRegime) (h : f_laws_toRegime a0 = some r) : FC Tryz.prog 29 [.ag (XRegime.row a0)] [.ag [.v (.int .i64 r.Gap), .v (.bool r.NoMeet)]] := by
  unfold f_laws_toRegime at h
  refine FC_go (σ := ⟨[(0, va [aI a0.Gap, aB a0.NoMeet])], [], []⟩) mixed e_laws_toRegime rfl rfl ?_
  simp only [c_laws_toRegime]
  try simp only [Nat.reduceBEq, Nat.reduceMul, Nat.reduceAdd, Nat.reduceDiv, Int.reduceBEq, rules2, rulesX, rowsX]
  refine go_bx rfl rfl rfl ?_
  try simp only [Nat.reduceBEq, Nat.reduceMul, Nat.reduceAdd, Nat.reduceDiv, Int.reduceBEq, rules2, rulesX, rowsX]
  refine go_al rfl rfl ?_
  try simp only [Nat.reduceBEq, Nat.reduceMul, Nat.reduceAdd, Nat.reduceDiv, Int.reduceBEq, rules2, rulesX, rowsX]
  refine go_al rfl rfl ?_
  try simp only [Nat.reduceBEq, Nat.reduceMul, Nat.reduceAdd, Nat.reduceDiv, Int.reduceBEq, rules2, rulesX, rowsX]
  cases h
  try simp only [rulesR, Nat.reduceBEq, Nat.reduceMul, Nat.reduceAdd, Nat.reduceDiv, Int.reduceBEq, rules2, rulesX, rowsX]
  exact ⟨⟨⟨rfl, rfl, trivial⟩, trivial⟩, rfl⟩
/- 11: laws_toIntS -/
def c_laws_toIntS_1 : ACode := .seq (.reg [(none, .keep [0, 3, 4] [] [448])]) (.seq (.seq (.reg [(none, .mv 8 (S 4)), (none, .mv 9 (S 0)), (none, .len 10 (S 9)), (none, .bin 11 .lss (S 8) (S 10))]) (.cond (S 11) .skip (.exit 0))) (.seq (.block 1 (.reg [(none, .mv 14 (S 3)), (none, .mv 15 (S 4)), (none, .mv 16 (S 0)), (none, .mv 17 (S 4)), (none, .iaddr 18 (S 16) (S 17) 1), (none, .load 19 (S 18) false 1), (none, .iaddr 20 (S 14) (S 15) 1), (none, .store (S 20) (S 19) 1)])) (.reg [(none, .mv 12 (S 4)), (none, .bin 13 .add (S 12) (K 1)), (none, .mv 4 (S 13))])))
def c_laws_toIntS_n1 : ACode := (.seq (.reg [(none, .mv 21 (S 3)), (none, .mv 2 (S 21))]) .ret)
def c_laws_toIntS : ACode := (.seq (.reg [(none, .mv 2 KN)]) (.seq (.reg [(none, .mv 5 (S 0)), (none, .len 6 (S 5)), (none, .mksl 7 1 8 [.int .i64 0] (S 6) (S 6)), (none, .mv 3 (S 7))]) (.seq (.seq (.reg [(none, .mv 4 (K 0))]) (.block 0 (.loop c_laws_toIntS_1))) c_laws_toIntS_n1)))
theorem w_laws_toIntS_1 (a0 : List Int) : ∀ (n : Nat) (v2 : Int) (v3 : List Int) (r : (List Int)), f_laws_toIntS_1 a0 n v2 v3 = some r → ∀ σ : St, σ.kept [0, 3, 4] [] [448] = ⟨[(0, vc (aL (List.map rI a0))), (3, vc (.own 448)), (4, vc (aI v2))], [], [(448, 1, List.map rI v3)]⟩ → go Tryz.prog (.code (.loop c_laws_toIntS_1) :: [.blk 0, .code c_laws_toIntS_n1]) (Ret [2] [.sc (.o 1 (List.map rI r))]) .normal (some σ) := by
  intro n
  induction n with
  | zero => intro _ _ r h; cases h
  | succ n ih =>
    intro v2 v3 r h σ hσ
    rw [f_laws_toIntS_1] at h
    refine go_round ?_
    rcases Bool.eq_false_or_eq_true (decide (v2 < (a0.length : Int))) with hb4 | hb4
    · rw [ite_t hb4] at h
      obtain ⟨x5, hx5, h⟩ := ob h
      obtain ⟨x6, hx6, h⟩ := ob h
      have hx6n := ix_get hx6
      try simp only [hσ, hb4, hx5, hx6, c_laws_toIntS_1, Nat.reduceBEq, Nat.reduceMul, Nat.reduceAdd, Nat.reduceDiv, Int.reduceBEq, rules2, rulesX, rowsX]
      refine go_stp (y := x5) rfl rfl hx6n rfl rfl rfl ?_
      try simp only [hb4, hx5, hx6, Nat.reduceBEq, Nat.reduceMul, Nat.reduceAdd, Nat.reduceDiv, Int.reduceBEq, rules2, rulesX, rowsX]
      refine ih _ _ _ h _ ?_
      try simp only [hb4, hx5, hx6, Nat.reduceBEq, Nat.reduceMul, Nat.reduceAdd, Nat.reduceDiv, Int.reduceBEq, rules2, rulesX, rowsX, List.map_nil]
    · rw [ite_f hb4] at h
      try simp only [hσ, hb4, c_laws_toIntS_1, c_laws_toIntS_n1, Nat.reduceBEq, Nat.reduceMul, Nat.reduceAdd, Nat.reduceDiv, Int.reduceBEq, rules2, rulesX, rowsX]
      cases h
      exact ⟨⟨rfl, trivial⟩, rfl⟩
theorem e_laws_toIntS : entry Tryz.prog 11 = some (c_laws_toIntS.strip, [2], 22) := by kernel_rfl
theorem w_laws_toIntS (a0 : List Int) (r : (List Int)) (h : f_laws_toIntS a0 = some r) : FC Tryz.prog 11 [.sc (.sl (List.map rI a0))] [.sc (.o 1 (List.map rI r))] := by
  unfold f_laws_toIntS at h
  refine FC_go (σ := ⟨[(0, vc (aL (List.map rI a0)))], [], []⟩) mixed e_laws_toIntS rfl rfl ?_
  simp only [c_laws_toIntS]
  obtain ⟨n1, hn1, h⟩ := ob h
  try simp only [Nat.reduceBEq, Nat.reduceMul, Nat.reduceAdd, Nat.reduceDiv, Int.reduceBEq, rules2, rulesX, rowsX]
  refine go_mks (es := List.map rI (List.replicate n1 (0 : Int))) rfl rfl hn1 rfl (rep_map rfl) rfl ?_
  try simp only [Nat.reduceBEq, Nat.reduceMul, Nat.reduceAdd, Nat.reduceDiv, Int.reduceBEq, rules2, rulesX, rowsX]
  refine w_laws_toIntS_1 _ _ _ _ _ h _ ?_
  try simp only [Nat.reduceBEq, Nat.reduceMul, Nat.reduceAdd, Nat.reduceDiv, Int.reduceBEq, rules2, rulesX, rowsX, List.map_nil]
/- 30: laws_toCrew -/
def c_laws_toCrew : ACode := (.seq (.reg [(none, .box 1 (S 0)), (none, .alloc 2 [aI 0, aI 0, aI 0, .nil])]) (.seq (.reg [(none, .alloc 3 [aI 0, aI 0, aI 0, .nil])]) (.seq (.reg [(none, .faddr 4 (S 1) 0), (none, .load 5 (S 4) false 1), (none, .faddr 6 (S 3) 0), (none, .store (S 6) (S 5) 1)]) (.seq (.reg [(none, .faddr 7 (S 1) 1), (none, .load 8 (S 7) false 1), (none, .faddr 9 (S 3) 1), (none, .store (S 9) (S 8) 1)]) (.seq (.reg [(none, .faddr 10 (S 1) 2), (none, .load 11 (S 10) false 1), (none, .faddr 12 (S 3) 2), (none, .store (S 12) (S 11) 1)]) (.seq (.reg [(none, .faddr 13 (S 1) 3), (none, .load 14 (S 13) false 1), (none, .call 15 11 [(S 14)]), (none, .faddr 16 (S 3) 3), (none, .store (S 16) (S 15) 1)]) (.seq (.reg [(none, .load 17 (S 3) true 4), (none, .store (S 2) (S 17) 4)]) .ret)))))))
theorem e_laws_toCrew : entry Tryz.prog 30 = some (c_laws_toCrew.strip, [.c 2 true 4], 18) := by kernel_rfl
theorem w_laws_toCrew (a0 : XCrew) (r : XCrew) (h : f_laws_toCrew a0 = some r) : FC Tryz.prog 30 [.ag (XCrew.row a0)] [.ag [.v (.int .i64 r.Tugs), .v (.int .i64 r.Pilots), .v (.int .i64 r.Rest), .o 1 (List.map rI r.Moves)]] := by
  unfold f_laws_toCrew at h
  refine FC_go (σ := ⟨[(0, va [aI a0.Tugs, aI a0.Pilots, aI a0.Rest, aL (List.map rI a0.Moves)])], [], []⟩) mixed e_laws_toCrew rfl rfl ?_
  simp only [c_laws_toCrew]
  try simp only [Nat.reduceBEq, Nat.reduceMul, Nat.reduceAdd, Nat.reduceDiv, Int.reduceBEq, rules2, rulesX, rowsX]
  refine go_bx rfl rfl rfl ?_
  try simp only [Nat.reduceBEq, Nat.reduceMul, Nat.reduceAdd, Nat.reduceDiv, Int.reduceBEq, rules2, rulesX, rowsX]
  refine go_al rfl rfl ?_
  try simp only [Nat.reduceBEq, Nat.reduceMul, Nat.reduceAdd, Nat.reduceDiv, Int.reduceBEq, rules2, rulesX, rowsX]
  refine go_al rfl rfl ?_
  obtain ⟨r1, hr1, h⟩ := ob h
  try simp only [Nat.reduceBEq, Nat.reduceMul, Nat.reduceAdd, Nat.reduceDiv, Int.reduceBEq, rules2, rulesX, rowsX]
  refine go_callI (w_laws_toIntS _ _ hr1) rfl rfl (Nat.le_of_ble_eq_true rfl) ?_
  try simp only [Nat.reduceBEq, Nat.reduceMul, Nat.reduceAdd, Nat.reduceDiv, Int.reduceBEq, rules2, rulesX, rowsX]
  cases h
  try simp only [rulesR, Nat.reduceBEq, Nat.reduceMul, Nat.reduceAdd, Nat.reduceDiv, Int.reduceBEq, rules2, rulesX, rowsX]
  exact ⟨⟨⟨rfl, rfl, rfl, rfl, trivial⟩, trivial⟩, rfl⟩
/- 9: laws_toHarbour -/
def c_laws_toHarbour : ACode := (.seq (.reg [(none, .box 1 (S 0)), (none, .alloc 2 [aI 0, .nil, .nil, .nil, .nil, .nil, aI 0, aB false, aI 0, aI 0, aI 0, .nil])]) (.seq (.reg [(none, .alloc 3 [aI 0, .nil, .nil, .nil, .nil, .nil, aI 0, aB false, aI 0, aI 0, aI 0, .nil])]) (.seq (.reg [(none, .faddr 4 (S 1) 0), (none, .load 5 (S 4) true 3), (none, .call 6 26 [(S 5)]), (none, .faddr 7 (S 3) 0), (none, .store (S 7) (S 6) 3)]) (.seq (.reg [(none, .faddr 8 (S 1) 3), (none, .load 9 (S 8) true 2), (none, .call 10 27 [(S 9)]), (none, .faddr 11 (S 3) 3), (none, .store (S 11) (S 10) 2)]) (.seq (.reg [(none, .faddr 12 (S 1) 5), (none, .load 13 (S 12) false 1), (none, .call 14 28 [(S 13)]), (none, .faddr 15 (S 3) 5), (none, .store (S 15) (S 14) 1)]) (.seq (.reg [(none, .faddr 16 (S 1) 6), (none, .load 17 (S 16) true 2), (none, .call 18 29 [(S 17)]), (none, .faddr 19 (S 3) 6), (none, .store (S 19) (S 18) 2)]) (.seq (.reg [(none, .faddr 20 (S 1) 8), (none, .load 21 (S 20) true 4), (none, .call 22 30 [(S 21)]), (none, .faddr 23 (S 3) 8), (none, .store (S 23) (S 22) 4)]) (.seq (.reg [(none, .load 24 (S 3) true 12), (none, .store (S 2) (S 24) 12)]) .ret))))))))
theorem e_laws_toHarbour : entry Tryz.prog 9 = some (c_laws_toHarbour.strip, [.c 2 true 12], 25) := by kernel_rfl
theorem w_laws_toHarbour (a0 : XHarbour) (r : XHarbour) (h : f_laws_toHarbour a0 = some r) : FC Tryz.prog 9 [.ag (XHarbour.row a0)] [.ag [.v (.int .i64 r.Forecast.Tide.Mean), .o 3 (List.map XPart.row r.Forecast.Tide.Parts), .o 3 (List.map XSurge.row r.Forecast.Surges), .o 2 (List.map XPoint.row r.Chart.Points), .o 5 (List.map XSegment.row r.Chart.Segments), .o 6 (List.map XShip.row r.Fleet), .v (.int .i64 r.Regime.Gap), .v (.bool r.Regime.NoMeet), .v (.int .i64 r.Crew.Tugs), .v (.int .i64 r.Crew.Pilots), .v (.int .i64 r.Crew.Rest), .o 1 (List.map rI r.Crew.Moves)]] := by
  unfold f_laws_toHarbour at h
  refine FC_go (σ := ⟨[(0, va [aI a0.Forecast.Tide.Mean, aL (List.map XPart.row a0.Forecast.Tide.Parts), aL (List.map XSurge.row a0.Forecast.Surges), aL (List.map XPoint.row a0.Chart.Points), aL (List.map XSegment.row a0.Chart.Segments), aL (List.map XShip.row a0.Fleet), aI a0.Regime.Gap, aB a0.Regime.NoMeet, aI a0.Crew.Tugs, aI a0.Crew.Pilots, aI a0.Crew.Rest, aL (List.map rI a0.Crew.Moves)])], [], []⟩) mixed e_laws_toHarbour rfl rfl ?_
  simp only [c_laws_toHarbour]
  try simp only [Nat.reduceBEq, Nat.reduceMul, Nat.reduceAdd, Nat.reduceDiv, Int.reduceBEq, rules2, rulesX, rowsX]
  refine go_bx rfl rfl rfl ?_
  try simp only [Nat.reduceBEq, Nat.reduceMul, Nat.reduceAdd, Nat.reduceDiv, Int.reduceBEq, rules2, rulesX, rowsX]
  refine go_al rfl rfl ?_
  try simp only [Nat.reduceBEq, Nat.reduceMul, Nat.reduceAdd, Nat.reduceDiv, Int.reduceBEq, rules2, rulesX, rowsX]
  refine go_al rfl rfl ?_
  obtain ⟨r1, hr1, h⟩ := ob h
  try simp only [Nat.reduceBEq, Nat.reduceMul, Nat.reduceAdd, Nat.reduceDiv, Int.reduceBEq, rules2, rulesX, rowsX]
  refine go_callI (w_laws_toForecast _ _ hr1) rfl rfl (Nat.le_of_ble_eq_true rfl) ?_
  obtain ⟨r2, hr2, h⟩ := ob h
  try simp only [Nat.reduceBEq, Nat.reduceMul, Nat.reduceAdd, Nat.reduceDiv, Int.reduceBEq, rules2, rulesX, rowsX]
  refine go_callI (w_laws_toChart _ _ hr2) rfl rfl (Nat.le_of_ble_eq_true rfl) ?_
  obtain ⟨r3, hr3, h⟩ := ob h
  try simp only [Nat.reduceBEq, Nat.reduceMul, Nat.reduceAdd, Nat.reduceDiv, Int.reduceBEq, rules2, rulesX, rowsX]
  refine go_callI (w_laws_toShipS _ _ hr3) rfl rfl (Nat.le_of_ble_eq_true rfl) ?_
  obtain ⟨r4, hr4, h⟩ := ob h
  try simp only [Nat.reduceBEq, Nat.reduceMul, Nat.reduceAdd, Nat.reduceDiv, Int.reduceBEq, rules2, rulesX, rowsX]
  refine go_callI (w_laws_toRegime _ _ hr4) rfl rfl (Nat.le_of_ble_eq_true rfl) ?_
  obtain ⟨r5, hr5, h⟩ := ob h
  try simp only [Nat.reduceBEq, Nat.reduceMul, Nat.reduceAdd, Nat.reduceDiv, Int.reduceBEq, rules2, rulesX, rowsX]
  refine go_callI (w_laws_toCrew _ _ hr5) rfl rfl (Nat.le_of_ble_eq_true rfl) ?_
  try simp only [Nat.reduceBEq, Nat.reduceMul, Nat.reduceAdd, Nat.reduceDiv, Int.reduceBEq, rules2, rulesX, rowsX]
  cases h
  try simp only [rulesR, Nat.reduceBEq, Nat.reduceMul, Nat.reduceAdd, Nat.reduceDiv, Int.reduceBEq, rules2, rulesX, rowsX]
  exact ⟨⟨⟨rfl, rfl, rfl, rfl, rfl, rfl, rfl, rfl, rfl, rfl, rfl, rfl, trivial⟩, trivial⟩, rfl⟩
/- 88: laws_toPassage -/
def c_laws_toPassage : ACode := (.seq (.reg [(none, .box 1 (S 0)), (none, .alloc 2 [aI 0, aI 0, aB false, aI 0, aI 0])]) (.seq (.reg [(none, .alloc 3 [aI 0, aI 0, aB false, aI 0, aI 0])]) (.seq (.reg [(none, .faddr 4 (S 1) 0), (none, .load 5 (S 4) false 1), (none, .faddr 6 (S 3) 0), (none, .store (S 6) (S 5) 1)]) (.seq (.reg [(none, .faddr 7 (S 1) 1), (none, .load 8 (S 7) false 1), (none, .faddr 9 (S 3) 1), (none, .store (S 9) (S 8) 1)]) (.seq (.reg [(none, .faddr 10 (S 1) 2), (none, .load 11 (S 10) false 1), (none, .faddr 12 (S 3) 2), (none, .store (S 12) (S 11) 1)]) (.seq (.reg [(none, .faddr 13 (S 1) 3), (none, .load 14 (S 13) false 1), (none, .faddr 15 (S 3) 3), (none, .store (S 15) (S 14) 1)]) (.seq (.reg [(none, .faddr 16 (S 1) 4), (none, .load 17 (S 16) false 1), (none, .faddr 18 (S 3) 4), (none, .store (S 18) (S 17) 1)]) (.seq (.reg [(none, .load 19 (S 3) true 5), (none, .store (S 2) (S 19) 5)]) .ret))))))))
theorem e_laws_toPassage : entry Tryz.prog 88 = some (c_laws_toPassage.strip, [.c 2 true 5], 20) := by kernel_rfl
theorem w_laws_toPassage (a0 : XPassage) (r : XPassage) (h : f_laws_toPassage a0 = some r) : FC Tryz.prog 88 [.ag (XPassage.row a0)] [.ag [.v (.int .i64 r.Ship), .v (.int .i64 r.Segment), .v (.bool r.Toward), .v (.int .i64 r.Start), .v (.int .i64 r.End)]] := by
  unfold f_laws_toPassage at h
  refine FC_go (σ := ⟨[(0, va [aI a0.Ship, aI a0.Segment, aB a0.Toward, aI a0.Start, aI a0.End])], [], []⟩) mixed e_laws_toPassage rfl rfl ?_
  simp only [c_laws_toPassage]
  try simp only [Nat.reduceBEq, Nat.reduceMul, Nat.reduceAdd, Nat.reduceDiv, Int.reduceBEq, rules2, rulesX, rowsX]
  refine go_bx rfl rfl rfl ?_
  try simp only [Nat.reduceBEq, Nat.reduceMul, Nat.reduceAdd, Nat.reduceDiv, Int.reduceBEq, rules2, rulesX, rowsX]
  refine go_al rfl rfl ?_
  try simp only [Nat.reduceBEq, Nat.reduceMul, Nat.reduceAdd, Nat.reduceDiv, Int.reduceBEq, rules2, rulesX, rowsX]
  refine go_al rfl rfl ?_
  try simp only [Nat.reduceBEq, Nat.reduceMul, Nat.reduceAdd, Nat.reduceDiv, Int.reduceBEq, rules2, rulesX, rowsX]
  cases h
  try simp only [rulesR, Nat.reduceBEq, Nat.reduceMul, Nat.reduceAdd, Nat.reduceDiv, Int.reduceBEq, rules2, rulesX, rowsX]
  exact ⟨⟨⟨rfl, rfl, rfl, rfl, rfl, trivial⟩, trivial⟩, rfl⟩
/- 59: laws_toPassageS -/
def c_laws_toPassageS_1 : ACode := .seq (.reg [(none, .keep [0, 3, 4] [] [448])]) (.seq (.seq (.reg [(none, .mv 8 (S 4)), (none, .mv 9 (S 0)), (none, .len 10 (S 9)), (none, .bin 11 .lss (S 8) (S 10))]) (.cond (S 11) .skip (.exit 0))) (.seq (.block 1 (.reg [(none, .mv 14 (S 3)), (none, .mv 15 (S 4)), (none, .mv 16 (S 0)), (none, .mv 17 (S 4)), (none, .iaddr 18 (S 16) (S 17) 5), (none, .load 19 (S 18) true 5), (none, .call 20 88 [(S 19)]), (none, .iaddr 21 (S 14) (S 15) 5), (none, .store (S 21) (S 20) 5)])) (.reg [(none, .mv 12 (S 4)), (none, .bin 13 .add (S 12) (K 1)), (none, .mv 4 (S 13))])))
def c_laws_toPassageS_n1 : ACode := (.seq (.reg [(none, .mv 22 (S 3)), (none, .mv 2 (S 22))]) .ret)
def c_laws_toPassageS : ACode := (.seq (.reg [(none, .mv 2 KN)]) (.seq (.reg [(none, .mv 5 (S 0)), (none, .len 6 (S 5)), (none, .mksl 7 5 40 [.int .i64 0, .int .i64 0, .bool false, .int .i64 0, .int .i64 0] (S 6) (S 6)), (none, .mv 3 (S 7))]) (.seq (.seq (.reg [(none, .mv 4 (K 0))]) (.block 0 (.loop c_laws_toPassageS_1))) c_laws_toPassageS_n1)))
theorem w_laws_toPassageS_1 (a0 : List XPassage) : ∀ (n : Nat) (v2 : Int) (v3 : List XPassage) (r : (List XPassage)), f_laws_toPassageS_1 a0 n v2 v3 = some r → ∀ σ : St, σ.kept [0, 3, 4] [] [448] = ⟨[(0, vc (aL (List.map XPassage.row a0))), (3, vc (.own 448)), (4, vc (aI v2))], [], [(448, 5, List.map XPassage.row v3)]⟩ → go Tryz.prog (.code (.loop c_laws_toPassageS_1) :: [.blk 0, .code c_laws_toPassageS_n1]) (Ret [2] [.sc (.o 5 (List.map XPassage.row r))]) .normal (some σ) := by
  intro n
  induction n with
  | zero => intro _ _ r h; cases h
  | succ n ih =>
    intro v2 v3 r h σ hσ
    rw [f_laws_toPassageS_1] at h
    refine go_round ?_
    rcases Bool.eq_false_or_eq_true (decide (v2 < (a0.length : Int))) with hb4 | hb4
    · rw [ite_t hb4] at h
      obtain ⟨x5, hx5, h⟩ := ob h
      obtain ⟨r6, hr6, h⟩ := ob h
      try simp only [hσ, hb4, hx5, c_laws_toPassageS_1, Nat.reduceBEq, Nat.reduceMul, Nat.reduceAdd, Nat.reduceDiv, Int.reduceBEq, rules2, rulesX, rowsX]
      refine go_callI (w_laws_toPassage _ _ hr6) rfl rfl (Nat.le_of_ble_eq_true rfl) ?_
      obtain ⟨x7, hx7, h⟩ := ob h
      have hx7n := ix_get hx7
      try simp only [hb4, hx5, hx7, Nat.reduceBEq, Nat.reduceMul, Nat.reduceAdd, Nat.reduceDiv, Int.reduceBEq, rules2, rulesX, rowsX]
      refine go_stp (y := r6) rfl rfl hx7n rfl rfl rfl ?_
      try simp only [hb4, hx5, hx7, Nat.reduceBEq, Nat.reduceMul, Nat.reduceAdd, Nat.reduceDiv, Int.reduceBEq, rules2, rulesX, rowsX]
      refine ih _ _ _ h _ ?_
      try simp only [hb4, hx5, hx7, Nat.reduceBEq, Nat.reduceMul, Nat.reduceAdd, Nat.reduceDiv, Int.reduceBEq, rules2, rulesX, rowsX, List.map_nil]
    · rw [ite_f hb4] at h
      try simp only [hσ, hb4, c_laws_toPassageS_1, c_laws_toPassageS_n1, Nat.reduceBEq, Nat.reduceMul, Nat.reduceAdd, Nat.reduceDiv, Int.reduceBEq, rules2, rulesX, rowsX]
      cases h
      exact ⟨⟨rfl, trivial⟩, rfl⟩
theorem e_laws_toPassageS : entry Tryz.prog 59 = some (c_laws_toPassageS.strip, [2], 23) := by kernel_rfl
theorem w_laws_toPassageS (a0 : List XPassage) (r : (List XPassage)) (h : f_laws_toPassageS a0 = some r) : FC Tryz.prog 59 [.sc (.sl (List.map XPassage.row a0))] [.sc (.o 5 (List.map XPassage.row r))] := by
  unfold f_laws_toPassageS at h
  refine FC_go (σ := ⟨[(0, vc (aL (List.map XPassage.row a0)))], [], []⟩) mixed e_laws_toPassageS rfl rfl ?_
  simp only [c_laws_toPassageS]
  obtain ⟨n1, hn1, h⟩ := ob h
  try simp only [Nat.reduceBEq, Nat.reduceMul, Nat.reduceAdd, Nat.reduceDiv, Int.reduceBEq, rules2, rulesX, rowsX]
  refine go_mks (es := List.map XPassage.row (List.replicate n1 (⟨(0 : Int), (0 : Int), false, (0 : Int), (0 : Int)⟩ : XPassage))) rfl rfl hn1 rfl (rep_map rfl) rfl ?_
  try simp only [Nat.reduceBEq, Nat.reduceMul, Nat.reduceAdd, Nat.reduceDiv, Int.reduceBEq, rules2, rulesX, rowsX]
  refine w_laws_toPassageS_1 _ _ _ _ _ h _ ?_
  try simp only [Nat.reduceBEq, Nat.reduceMul, Nat.reduceAdd, Nat.reduceDiv, Int.reduceBEq, rules2, rulesX, rowsX, List.map_nil]
/- 31: laws_toOption -/
def c_laws_toOption : ACode := (.seq (.reg [(none, .box 1 (S 0)), (none, .alloc 2 [aI 0, aI 0, aI 0, .nil])]) (.seq (.reg [(none, .alloc 3 [aI 0, aI 0, aI 0, .nil])]) (.seq (.reg [(none, .faddr 4 (S 1) 0), (none, .load 5 (S 4) false 1), (none, .faddr 6 (S 3) 0), (none, .store (S 6) (S 5) 1)]) (.seq (.reg [(none, .faddr 7 (S 1) 1), (none, .load 8 (S 7) false 1), (none, .faddr 9 (S 3) 1), (none, .store (S 9) (S 8) 1)]) (.seq (.reg [(none, .faddr 10 (S 1) 2), (none, .load 11 (S 10) false 1), (none, .faddr 12 (S 3) 2), (none, .store (S 12) (S 11) 1)]) (.seq (.reg [(none, .faddr 13 (S 1) 3), (none, .load 14 (S 13) false 1), (none, .call 15 59 [(S 14)]), (none, .faddr 16 (S 3) 3), (none, .store (S 16) (S 15) 1)]) (.seq (.reg [(none, .load 17 (S 3) true 4), (none, .store (S 2) (S 17) 4)]) .ret)))))))
theorem e_laws_toOption : entry Tryz.prog 31 = some (c_laws_toOption.strip, [.c 2 true 4], 18) := by kernel_rfl
theorem w_laws_toOption (a0 : XOption) (r : XOption) (h : f_laws_toOption a0 = some r) : FC Tryz.prog 31 [.ag (XOption.row a0)] [.ag [.v (.int .i64 r.Start), .v (.int .i64 r.Arrival), .v (.int .i64 r.Cost), .o 5 (List.map XPassage.row r.Passages)]] := by
  unfold f_laws_toOption at h
  refine FC_go (σ := ⟨[(0, va [aI a0.Start, aI a0.Arrival, aI a0.Cost, aL (List.map XPassage.row a0.Passages)])], [], []⟩) mixed e_laws_toOption rfl rfl ?_
  simp only [c_laws_toOption]
  try simp only [Nat.reduceBEq, Nat.reduceMul, Nat.reduceAdd, Nat.reduceDiv, Int.reduceBEq, rules2, rulesX, rowsX]
  refine go_bx rfl rfl rfl ?_
  try simp only [Nat.reduceBEq, Nat.reduceMul, Nat.reduceAdd, Nat.reduceDiv, Int.reduceBEq, rules2, rulesX, rowsX]
  refine go_al rfl rfl ?_
  try simp only [Nat.reduceBEq, Nat.reduceMul, Nat.reduceAdd, Nat.reduceDiv, Int.reduceBEq, rules2, rulesX, rowsX]
  refine go_al rfl rfl ?_
  obtain ⟨r1, hr1, h⟩ := ob h
  try simp only [Nat.reduceBEq, Nat.reduceMul, Nat.reduceAdd, Nat.reduceDiv, Int.reduceBEq, rules2, rulesX, rowsX]
  refine go_callI (w_laws_toPassageS _ _ hr1) rfl rfl (Nat.le_of_ble_eq_true rfl) ?_
  try simp only [Nat.reduceBEq, Nat.reduceMul, Nat.reduceAdd, Nat.reduceDiv, Int.reduceBEq, rules2, rulesX, rowsX]
  cases h
  try simp only [rulesR, Nat.reduceBEq, Nat.reduceMul, Nat.reduceAdd, Nat.reduceDiv, Int.reduceBEq, rules2, rulesX, rowsX]
  exact ⟨⟨⟨rfl, rfl, rfl, rfl, trivial⟩, trivial⟩, rfl⟩
/- 10: laws_toOptionS -/
def c_laws_toOptionS_1 : ACode := .seq (.reg [(none, .keep [0, 3, 4] [] [448])]) (.seq (.seq (.reg [(none, .mv 8 (S 4)), (none, .mv 9 (S 0)), (none, .len 10 (S 9)), (none, .bin 11 .lss (S 8) (S 10))]) (.cond (S 11) .skip (.exit 0))) (.seq (.block 1 (.reg [(none, .mv 14 (S 3)), (none, .mv 15 (S 4)), (none, .mv 16 (S 0)), (none, .mv 17 (S 4)), (none, .iaddr 18 (S 16) (S 17) 4), (none, .load 19 (S 18) true 4), (none, .call 20 31 [(S 19)]), (none, .iaddr 21 (S 14) (S 15) 4), (none, .frz 1283), (none, .store (S 21) (S 20) 4)])) (.reg [(none, .mv 12 (S 4)), (none, .bin 13 .add (S 12) (K 1)), (none, .mv 4 (S 13))])))
def c_laws_toOptionS_n1 : ACode := (.seq (.reg [(none, .mv 22 (S 3)), (none, .mv 2 (S 22))]) .ret)
def c_laws_toOptionS : ACode := (.seq (.reg [(none, .mv 2 KN)]) (.seq (.reg [(none, .mv 5 (S 0)), (none, .len 6 (S 5)), (none, .mksl 7 4 48 [.int .i64 0, .int .i64 0, .int .i64 0, .sl []] (S 6) (S 6)), (none, .mv 3 (S 7))]) (.seq (.seq (.reg [(none, .mv 4 (K 0))]) (.block 0 (.loop c_laws_toOptionS_1))) c_laws_toOptionS_n1)))
theorem w_laws_toOptionS_1 (a0 : List XOption) : ∀ (n : Nat) (v2 : Int) (v3 : List XOption) (r : (List XOption)), f_laws_toOptionS_1 a0 n v2 v3 = some r → ∀ σ : St, σ.kept [0, 3, 4] [] [448] = ⟨[(0, vc (aL (List.map XOption.row a0))), (3, vc (.own 448)), (4, vc (aI v2))], [], [(448, 4, List.map XOption.row v3)]⟩ → go Tryz.prog (.code (.loop c_laws_toOptionS_1) :: [.blk 0, .code c_laws_toOptionS_n1]) (Ret [2] [.sc (.o 4 (List.map XOption.row r))]) .normal (some σ) := by
  intro n
  induction n with
  | zero => intro _ _ r h; cases h
  | succ n ih =>
    intro v2 v3 r h σ hσ
    rw [f_laws_toOptionS_1] at h
    refine go_round ?_
    rcases Bool.eq_false_or_eq_true (decide (v2 < (a0.length : Int))) with hb4 | hb4
    · rw [ite_t hb4] at h
      obtain ⟨x5, hx5, h⟩ := ob h
      obtain ⟨r6, hr6, h⟩ := ob h
      try simp only [hσ, hb4, hx5, c_laws_toOptionS_1, Nat.reduceBEq, Nat.reduceMul, Nat.reduceAdd, Nat.reduceDiv, Int.reduceBEq, rules2, rulesX, rowsX]
      refine go_callI (w_laws_toOption _ _ hr6) rfl rfl (Nat.le_of_ble_eq_true rfl) ?_
      obtain ⟨x7, hx7, h⟩ := ob h
      have hx7n := ix_get hx7
      try simp only [hb4, hx5, hx7, Nat.reduceBEq, Nat.reduceMul, Nat.reduceAdd, Nat.reduceDiv, Int.reduceBEq, rules2, rulesX, rowsX]
      refine go_frz' rfl ?_
      try simp only [hb4, hx5, hx7, Nat.reduceBEq, Nat.reduceMul, Nat.reduceAdd, Nat.reduceDiv, Int.reduceBEq, rules2, rulesX, rowsX]
      refine go_stp (y := r6) rfl rfl hx7n rfl rfl rfl ?_
      try simp only [hb4, hx5, hx7, Nat.reduceBEq, Nat.reduceMul, Nat.reduceAdd, Nat.reduceDiv, Int.reduceBEq, rules2, rulesX, rowsX]
      refine ih _ _ _ h _ ?_
      try simp only [hb4, hx5, hx7, Nat.reduceBEq, Nat.reduceMul, Nat.reduceAdd, Nat.reduceDiv, Int.reduceBEq, rules2, rulesX, rowsX, List.map_nil]
    · rw [ite_f hb4] at h
      try simp only [hσ, hb4, c_laws_toOptionS_1, c_laws_toOptionS_n1, Nat.reduceBEq, Nat.reduceMul, Nat.reduceAdd, Nat.reduceDiv, Int.reduceBEq, rules2, rulesX, rowsX]
      cases h
      exact ⟨⟨rfl, trivial⟩, rfl⟩
theorem e_laws_toOptionS : entry Tryz.prog 10 = some (c_laws_toOptionS.strip, [2], 23) := by kernel_rfl
theorem w_laws_toOptionS (a0 : List XOption) (r : (List XOption)) (h : f_laws_toOptionS a0 = some r) : FC Tryz.prog 10 [.sc (.sl (List.map XOption.row a0))] [.sc (.o 4 (List.map XOption.row r))] := by
  unfold f_laws_toOptionS at h
  refine FC_go (σ := ⟨[(0, vc (aL (List.map XOption.row a0)))], [], []⟩) mixed e_laws_toOptionS rfl rfl ?_
  simp only [c_laws_toOptionS]
  obtain ⟨n1, hn1, h⟩ := ob h
  try simp only [Nat.reduceBEq, Nat.reduceMul, Nat.reduceAdd, Nat.reduceDiv, Int.reduceBEq, rules2, rulesX, rowsX]
  refine go_mks (es := List.map XOption.row (List.replicate n1 (⟨(0 : Int), (0 : Int), (0 : Int), ([] : List XPassage)⟩ : XOption))) rfl rfl hn1 rfl (rep_map rfl) rfl ?_
  try simp only [Nat.reduceBEq, Nat.reduceMul, Nat.reduceAdd, Nat.reduceDiv, Int.reduceBEq, rules2, rulesX, rowsX]
  refine w_laws_toOptionS_1 _ _ _ _ _ h _ ?_
  try simp only [Nat.reduceBEq, Nat.reduceMul, Nat.reduceAdd, Nat.reduceDiv, Int.reduceBEq, rules2, rulesX, rowsX, List.map_nil]
/- 82: spec_l01In -/
def c_spec_l01In : ACode := (.seq (.reg [(none, .mv 6 (KB false))]) (.seq (.reg [(none, .mv 7 (S 0)), (none, .mv 8 (S 1)), (none, .bin 9 .geq (S 7) (S 8)), (none, .mv 10 (S 9)), (some (10, true), .mv 11 (S 0)), (some (10, true), .mv 12 (S 2)), (some (10, true), .bin 13 .leq (S 11) (S 12)), (none, .pick 14 (S 10) (S 13) (KB false)), (none, .mv 6 (S 14))]) .ret))
theorem e_spec_l01In : entry Tryz.prog 82 = some (c_spec_l01In.strip, [6], 15) := by kernel_rfl
theorem w_spec_l01In (a0 : Int) (a1 : Int) (a2 : Int) (r : Bool) (h : f_spec_l01In a0 a1 a2 = some r) : FC Tryz.prog 82 [.sc (.int .i64 a0), .sc (.int .i64 a1), .sc (.int .i64 a2)] [.sc (.v (.bool r))] := by
  unfold f_spec_l01In at h
  refine FC_go (σ := ⟨[(0, vc (aI a0)), (1, vc (aI a1)), (2, vc (aI a2))], [], []⟩) mixed e_spec_l01In rfl rfl ?_
  simp only [c_spec_l01In]
  rcases Bool.eq_false_or_eq_true (decide (a1 ≤ a0)) with hb1 | hb1
  · rw [ite_t hb1] at h
    try simp only [hb1, Nat.reduceBEq, Nat.reduceMul, Nat.reduceAdd, Nat.reduceDiv, Int.reduceBEq, rules2, rulesX, rowsX]
    cases h
    exact ⟨⟨rfl, trivial⟩, rfl⟩
  · rw [ite_f hb1] at h
    try simp only [hb1, Nat.reduceBEq, Nat.reduceMul, Nat.reduceAdd, Nat.reduceDiv, Int.reduceBEq, rules2, rulesX, rowsX]
    cases h
    exact ⟨⟨rfl, trivial⟩, rfl⟩
/- 132: spec_PartOk -/
def c_spec_PartOk : ACode := (.seq (.reg [(none, .box 1 (S 0)), (none, .mv 2 (KB false))]) (.seq (.reg [(none, .faddr 3 (S 1) 0), (none, .load 4 (S 3) false 1), (none, .call 5 82 [(S 4), (K 0), (K 1000)]), (none, .mv 6 (S 5)), (some (6, true), .faddr 7 (S 1) 1), (some (6, true), .load 8 (S 7) false 1), (some (6, true), .call 9 82 [(S 8), (K 4), (K 2880)]), (none, .pick 10 (S 6) (S 9) (KB false)), (none, .mv 11 (S 10)), (some (11, true), .faddr 12 (S 1) 1), (some (11, true), .load 13 (S 12) false 1), (some (11, true), .bin 14 .rem (S 13) (K 4)), (some (11, true), .bin 15 .eql (S 14) (K 0)), (none, .pick 16 (S 11) (S 15) (KB false)), (none, .mv 17 (S 16)), (some (17, true), .faddr 18 (S 1) 2), (some (17, true), .load 19 (S 18) false 1), (some (17, true), .faddr 20 (S 1) 1), (some (17, true), .load 21 (S 20) false 1), (some (17, true), .bin 22 .sub (S 21) (K 1)), (some (17, true), .call 23 82 [(S 19), (K 0), (S 22)]), (none, .pick 24 (S 17) (S 23) (KB false)), (none, .mv 2 (S 24))]) .ret))
theorem e_spec_PartOk : entry Tryz.prog 132 = some (c_spec_PartOk.strip, [2], 25) := by kernel_rfl
theorem w_spec_PartOk (a0 : XPart) (r : Bool) (h : f_spec_PartOk a0 = some r) : FC Tryz.prog 132 [.ag (XPart.row a0)] [.sc (.v (.bool r))] := by
  unfold f_spec_PartOk at h
  refine FC_go (σ := ⟨[(0, va [aI a0.Amp, aI a0.Period, aI a0.Phase])], [], []⟩) mixed e_spec_PartOk rfl rfl ?_
  simp only [c_spec_PartOk]
  try simp only [Nat.reduceBEq, Nat.reduceMul, Nat.reduceAdd, Nat.reduceDiv, Int.reduceBEq, rules2, rulesX, rowsX]
  refine go_bx rfl rfl rfl ?_
  obtain ⟨r1, hr1, h⟩ := ob h
  try simp only [Nat.reduceBEq, Nat.reduceMul, Nat.reduceAdd, Nat.reduceDiv, Int.reduceBEq, rules2, rulesX, rowsX]
  refine go_callI (w_spec_l01In _ _ _ _ hr1) rfl rfl (Nat.le_of_ble_eq_true rfl) ?_
  rcases Bool.eq_false_or_eq_true r1 with hb2 | hb2
  · rw [ite_t hb2] at h
    obtain ⟨r3, hr3, h⟩ := ob h
    try simp only [hb2, Nat.reduceBEq, Nat.reduceMul, Nat.reduceAdd, Nat.reduceDiv, Int.reduceBEq, rules2, rulesX, rowsX]
    refine go_callI (w_spec_l01In _ _ _ _ hr3) rfl rfl (Nat.le_of_ble_eq_true rfl) ?_
    rcases Bool.eq_false_or_eq_true r3 with hb4 | hb4
    · rw [ite_t hb4] at h
      rcases Bool.eq_false_or_eq_true ((IntKind.i64.wrap (Int.tmod a0.Period (4 : Int))) == (0 : Int)) with hb5 | hb5
      · rw [ite_t hb5] at h
        obtain ⟨r6, hr6, h⟩ := ob h
        try simp only [hb2, hb4, hb5, Nat.reduceBEq, Nat.reduceMul, Nat.reduceAdd, Nat.reduceDiv, Int.reduceBEq, rules2, rulesX, rowsX]
        refine go_callI (w_spec_l01In _ _ _ _ hr6) rfl rfl (Nat.le_of_ble_eq_true rfl) ?_
        try simp only [hb2, hb4, hb5, Nat.reduceBEq, Nat.reduceMul, Nat.reduceAdd, Nat.reduceDiv, Int.reduceBEq, rules2, rulesX, rowsX]
        cases h
        exact ⟨⟨rfl, trivial⟩, rfl⟩
      · rw [ite_f hb5] at h
        try simp only [hb2, hb4, hb5, Nat.reduceBEq, Nat.reduceMul, Nat.reduceAdd, Nat.reduceDiv, Int.reduceBEq, rules2, rulesX, rowsX]
        cases h
        exact ⟨⟨rfl, trivial⟩, rfl⟩
    · rw [ite_f hb4] at h
      try simp only [hb2, hb4, Nat.reduceBEq, Nat.reduceMul, Nat.reduceAdd, Nat.reduceDiv, Int.reduceBEq, rules2, rulesX, rowsX]
      cases h
      exact ⟨⟨rfl, trivial⟩, rfl⟩
  · rw [ite_f hb2] at h
    try simp only [hb2, Nat.reduceBEq, Nat.reduceMul, Nat.reduceAdd, Nat.reduceDiv, Int.reduceBEq, rules2, rulesX, rowsX]
    cases h
    exact ⟨⟨rfl, trivial⟩, rfl⟩
/- 111: spec_TideOk -/
def c_spec_TideOk_1 : ACode := .seq (.reg [(none, .keep [16, 17, 18] [] [])]) (.seq (.reg [(none, .bin 19 .lss (S 18) (S 17))]) (.seq (.cond (S 19) .skip (.exit 0)) (.seq (.block 1 (.seq (.reg [(none, .iaddr 20 (S 16) (S 18) 3), (none, .load 21 (S 20) true 3), (none, .alloc 4 [aI 0, aI 0, aI 0]), (none, .store (S 4) (S 21) 3)]) (.seq (.reg [(none, .load 22 (S 4) true 3), (none, .call 23 132 [(S 22)]), (none, .un 24 .not (S 23))]) (.cond (S 24) (.seq (.reg [(none, .mv 2 (KB false))]) .ret) .skip)))) (.reg [(none, .bin 25 .add (S 18) (K 1)), (none, .mv 18 (S 25))]))))
def c_spec_TideOk_n1 : ACode := (.seq (.reg [(none, .mv 2 (KB true))]) .ret)
def c_spec_TideOk : ACode := (.seq (.reg [(none, .box 1 (S 0)), (none, .mv 2 (KB false))]) (.seq (.seq (.reg [(none, .faddr 5 (S 1) 0), (none, .load 6 (S 5) false 1), (none, .call 7 82 [(S 6), (K (-1000)), (K 1000)]), (none, .un 8 .not (S 7)), (none, .mv 9 (S 8)), (some (9, false), .faddr 10 (S 1) 1), (some (9, false), .load 11 (S 10) false 1), (some (9, false), .len 12 (S 11)), (some (9, false), .bin 13 .gtr (S 12) (K 4)), (none, .pick 14 (S 9) (KB true) (S 13))]) (.cond (S 14) (.seq (.reg [(none, .mv 2 (KB false))]) .ret) .skip)) (.seq (.seq (.reg [(none, .faddr 15 (S 1) 1), (none, .load 16 (S 15) false 1), (none, .len 17 (S 16)), (none, .mv 18 (K 0))]) (.block 0 (.loop c_spec_TideOk_1))) c_spec_TideOk_n1)))
theorem w_spec_TideOk_1 (a0 : XTide) : ∀ (n : Nat) (v4 : Int) (r : Bool), f_spec_TideOk_1 a0 n v4 = some r → ∀ σ : St, σ.kept [16, 17, 18] [] [] = ⟨[(16, vc (aL (List.map XPart.row a0.Parts))), (17, vc (aI (a0.Parts.length : Int))), (18, vc (aI v4))], [], []⟩ → go Tryz.prog (.code (.loop c_spec_TideOk_1) :: [.blk 0, .code c_spec_TideOk_n1]) (Ret [2] [.sc (.v (.bool r))]) .normal (some σ) := by
  intro n
  induction n with
  | zero => intro _ r h; cases h
  | succ n ih =>
    intro v4 r h σ hσ
    rw [f_spec_TideOk_1] at h
    refine go_round ?_
    rcases Bool.eq_false_or_eq_true (decide (v4 < (a0.Parts.length : Int))) with hb5 | hb5
    · rw [ite_t hb5] at h
      obtain ⟨x6, hx6, h⟩ := ob h
      try simp only [hσ, hb5, hx6, c_spec_TideOk_1, Nat.reduceBEq, Nat.reduceMul, Nat.reduceAdd, Nat.reduceDiv, Int.reduceBEq, rules2, rulesX, rowsX]
      refine go_al rfl rfl ?_
      obtain ⟨r7, hr7, h⟩ := ob h
      try simp only [hb5, hx6, Nat.reduceBEq, Nat.reduceMul, Nat.reduceAdd, Nat.reduceDiv, Int.reduceBEq, rules2, rulesX, rowsX]
      refine go_callI (w_spec_PartOk _ _ hr7) rfl rfl (Nat.le_of_ble_eq_true rfl) ?_
      rcases Bool.eq_false_or_eq_true r7 with hb8 | hb8
      · rw [ite_t hb8] at h
        try simp only [hb5, hx6, hb8, Nat.reduceBEq, Nat.reduceMul, Nat.reduceAdd, Nat.reduceDiv, Int.reduceBEq, rules2, rulesX, rowsX]
        refine ih _ _ h _ ?_
        try simp only [hb5, hx6, hb8, Nat.reduceBEq, Nat.reduceMul, Nat.reduceAdd, Nat.reduceDiv, Int.reduceBEq, rules2, rulesX, rowsX, List.map_nil]
      · rw [ite_f hb8] at h
        try simp only [hb5, hx6, hb8, Nat.reduceBEq, Nat.reduceMul, Nat.reduceAdd, Nat.reduceDiv, Int.reduceBEq, rules2, rulesX, rowsX]
        cases h
        exact ⟨⟨rfl, trivial⟩, rfl⟩
    · rw [ite_f hb5] at h
      try simp only [hσ, hb5, c_spec_TideOk_1, c_spec_TideOk_n1, Nat.reduceBEq, Nat.reduceMul, Nat.reduceAdd, Nat.reduceDiv, Int.reduceBEq, rules2, rulesX, rowsX]
      cases h
      exact ⟨⟨rfl, trivial⟩, rfl⟩
theorem e_spec_TideOk : entry Tryz.prog 111 = some (c_spec_TideOk.strip, [2], 26) := by kernel_rfl
theorem w_spec_TideOk (a0 : XTide) (r : Bool) (h : f_spec_TideOk a0 = some r) : FC Tryz.prog 111 [.ag (XTide.row a0)] [.sc (.v (.bool r))] := by
  unfold f_spec_TideOk at h
  refine FC_go (σ := ⟨[(0, va [aI a0.Mean, aL (List.map XPart.row a0.Parts)])], [], []⟩) mixed e_spec_TideOk rfl rfl ?_
  simp only [c_spec_TideOk]
  try simp only [Nat.reduceBEq, Nat.reduceMul, Nat.reduceAdd, Nat.reduceDiv, Int.reduceBEq, rules2, rulesX, rowsX]
  refine go_bx rfl rfl rfl ?_
  obtain ⟨r1, hr1, h⟩ := ob h
  try simp only [Nat.reduceBEq, Nat.reduceMul, Nat.reduceAdd, Nat.reduceDiv, Int.reduceBEq, rules2, rulesX, rowsX]
  refine go_callI (w_spec_l01In _ _ _ _ hr1) rfl rfl (Nat.le_of_ble_eq_true rfl) ?_
  rcases Bool.eq_false_or_eq_true r1 with hb2 | hb2
  · rw [ite_t hb2] at h
    rcases Bool.eq_false_or_eq_true (decide ((4 : Int) < (a0.Parts.length : Int))) with hb3 | hb3
    · rw [ite_t hb3] at h
      try simp only [hb2, hb3, Nat.reduceBEq, Nat.reduceMul, Nat.reduceAdd, Nat.reduceDiv, Int.reduceBEq, rules2, rulesX, rowsX]
      cases h
      exact ⟨⟨rfl, trivial⟩, rfl⟩
    · rw [ite_f hb3] at h
      try simp only [hb2, hb3, Nat.reduceBEq, Nat.reduceMul, Nat.reduceAdd, Nat.reduceDiv, Int.reduceBEq, rules2, rulesX, rowsX]
      refine w_spec_TideOk_1 _ _ _ _ h _ ?_
      try simp only [hb2, hb3, Nat.reduceBEq, Nat.reduceMul, Nat.reduceAdd, Nat.reduceDiv, Int.reduceBEq, rules2, rulesX, rowsX, List.map_nil]
  · rw [ite_f hb2] at h
    try simp only [hb2, Nat.reduceBEq, Nat.reduceMul, Nat.reduceAdd, Nat.reduceDiv, Int.reduceBEq, rules2, rulesX, rowsX]
    cases h
    exact ⟨⟨rfl, trivial⟩, rfl⟩
/- 112: spec_SurgeOk -/
def c_spec_SurgeOk : ACode := (.seq (.reg [(none, .box 1 (S 0)), (none, .mv 2 (KB false))]) (.seq (.reg [(none, .faddr 3 (S 1) 0), (none, .load 4 (S 3) false 1), (none, .call 5 82 [(S 4), (K 0), (K 2880)]), (none, .mv 6 (S 5)), (some (6, true), .faddr 7 (S 1) 1), (some (6, true), .load 8 (S 7) false 1), (some (6, true), .call 9 82 [(S 8), (K (-500)), (K 500)]), (none, .pick 10 (S 6) (S 9) (KB false)), (none, .mv 11 (S 10)), (some (11, true), .faddr 12 (S 1) 2), (some (11, true), .load 13 (S 12) false 1), (some (11, true), .faddr 14 (S 1) 1), (some (11, true), .load 15 (S 14) false 1), (some (11, true), .call 16 82 [(S 13), (S 15), (K 500)]), (none, .pick 17 (S 11) (S 16) (KB false)), (none, .mv 2 (S 17))]) .ret))
theorem e_spec_SurgeOk : entry Tryz.prog 112 = some (c_spec_SurgeOk.strip, [2], 18) := by kernel_rfl
theorem w_spec_SurgeOk (a0 : XSurge) (r : Bool) (h : f_spec_SurgeOk a0 = some r) : FC Tryz.prog 112 [.ag (XSurge.row a0)] [.sc (.v (.bool r))] := by
  unfold f_spec_SurgeOk at h
  refine FC_go (σ := ⟨[(0, va [aI a0.From, aI a0.Low, aI a0.High])], [], []⟩) mixed e_spec_SurgeOk rfl rfl ?_
  simp only [c_spec_SurgeOk]
  try simp only [Nat.reduceBEq, Nat.reduceMul, Nat.reduceAdd, Nat.reduceDiv, Int.reduceBEq, rules2, rulesX, rowsX]
  refine go_bx rfl rfl rfl ?_
  obtain ⟨r1, hr1, h⟩ := ob h
  try simp only [Nat.reduceBEq, Nat.reduceMul, Nat.reduceAdd, Nat.reduceDiv, Int.reduceBEq, rules2, rulesX, rowsX]
  refine go_callI (w_spec_l01In _ _ _ _ hr1) rfl rfl (Nat.le_of_ble_eq_true rfl) ?_
  rcases Bool.eq_false_or_eq_true r1 with hb2 | hb2
  · rw [ite_t hb2] at h
    obtain ⟨r3, hr3, h⟩ := ob h
    try simp only [hb2, Nat.reduceBEq, Nat.reduceMul, Nat.reduceAdd, Nat.reduceDiv, Int.reduceBEq, rules2, rulesX, rowsX]
    refine go_callI (w_spec_l01In _ _ _ _ hr3) rfl rfl (Nat.le_of_ble_eq_true rfl) ?_
    rcases Bool.eq_false_or_eq_true r3 with hb4 | hb4
    · rw [ite_t hb4] at h
      obtain ⟨r5, hr5, h⟩ := ob h
      try simp only [hb2, hb4, Nat.reduceBEq, Nat.reduceMul, Nat.reduceAdd, Nat.reduceDiv, Int.reduceBEq, rules2, rulesX, rowsX]
      refine go_callI (w_spec_l01In _ _ _ _ hr5) rfl rfl (Nat.le_of_ble_eq_true rfl) ?_
      try simp only [hb2, hb4, Nat.reduceBEq, Nat.reduceMul, Nat.reduceAdd, Nat.reduceDiv, Int.reduceBEq, rules2, rulesX, rowsX]
      cases h
      exact ⟨⟨rfl, trivial⟩, rfl⟩
    · rw [ite_f hb4] at h
      try simp only [hb2, hb4, Nat.reduceBEq, Nat.reduceMul, Nat.reduceAdd, Nat.reduceDiv, Int.reduceBEq, rules2, rulesX, rowsX]
      cases h
      exact ⟨⟨rfl, trivial⟩, rfl⟩
  · rw [ite_f hb2] at h
    try simp only [hb2, Nat.reduceBEq, Nat.reduceMul, Nat.reduceAdd, Nat.reduceDiv, Int.reduceBEq, rules2, rulesX, rowsX]
    cases h
    exact ⟨⟨rfl, trivial⟩, rfl⟩
/- 77: spec_ForecastOk -/
def c_spec_ForecastOk_1 : ACode := .seq (.reg [(none, .keep [1, 25, 26, 27] [1] [])]) (.seq (.reg [(none, .bin 28 .lss (S 27) (S 26))]) (.seq (.cond (S 28) .skip (.exit 0)) (.seq (.block 1 (.seq (.reg [(none, .mv 29 (S 27)), (none, .iaddr 30 (S 25) (S 27) 3), (none, .load 31 (S 30) true 3), (none, .alloc 4 [aI 0, aI 0, aI 0]), (none, .mv 3 (S 29)), (none, .store (S 4) (S 31) 3)]) (.seq (.drw [(some [], (none, .load 32 (S 4) true 3)), (some [], (none, .call 33 112 [(S 32)])), (some [], (none, .un 34 .not (S 33))), (some [], (none, .mv 35 (S 34))), (some [], (some (35, false), .mv 36 (S 3))), (some [], (some (35, false), .bin 37 .gtr (S 36) (K 0))), (some [], (some (35, false), .mv 38 (S 37))), (some [], (some (38, true), .faddr 39 (S 4) 0)), (some [], (some (38, true), .load 40 (S 39) false 1)), (some [], (some (38, true), .faddr 41 (S 1) 2)), (some [], (some (38, true), .load 42 (S 41) false 1)), (some [], (some (38, true), .mv 43 (S 3))), (some [], (some (38, true), .bin 44 .sub (S 43) (K 1))), (some [], (some (38, true), .iaddr 45 (S 42) (S 44) 3)), (some [], (some (38, true), .faddr 46 (S 45) 0)), (some [], (some (38, true), .load 47 (S 46) false 1)), (some [], (some (38, true), .bin 48 .leq (S 40) (S 47))), (some [], (some (35, false), .pick 49 (S 38) (S 48) (KB false))), (some [], (none, .pick 50 (S 35) (KB true) (S 49)))]) (.cond (S 50) (.seq (.reg [(none, .mv 2 (KB false))]) .ret) .skip)))) (.reg [(none, .bin 51 .add (S 27) (K 1)), (none, .mv 27 (S 51))]))))
def c_spec_ForecastOk_n1 : ACode := (.seq (.reg [(none, .mv 2 (KB true))]) .ret)
def c_spec_ForecastOk : ACode := (.seq (.reg [(none, .box 1 (S 0)), (none, .mv 2 (KB false))]) (.seq (.seq (.reg [(none, .faddr 5 (S 1) 0), (none, .load 6 (S 5) true 2), (none, .call 7 111 [(S 6)]), (none, .un 8 .not (S 7)), (none, .mv 9 (S 8)), (some (9, false), .faddr 10 (S 1) 2), (some (9, false), .load 11 (S 10) false 1), (some (9, false), .len 12 (S 11)), (some (9, false), .call 13 82 [(S 12), (K 1), (K 6)]), (some (9, false), .un 14 .not (S 13)), (none, .pick 15 (S 9) (KB true) (S 14)), (none, .mv 16 (S 15)), (some (16, false), .faddr 17 (S 1) 2), (some (16, false), .load 18 (S 17) false 1), (some (16, false), .iaddr 19 (S 18) (K 0) 3), (some (16, false), .faddr 20 (S 19) 0), (some (16, false), .load 21 (S 20) false 1), (some (16, false), .bin 22 .neq (S 21) (K 0)), (none, .pick 23 (S 16) (KB true) (S 22))]) (.cond (S 23) (.seq (.reg [(none, .mv 2 (KB false))]) .ret) .skip)) (.seq (.seq (.reg [(none, .faddr 24 (S 1) 2), (none, .load 25 (S 24) false 1), (none, .len 26 (S 25)), (none, .mv 27 (K 0))]) (.block 0 (.loop c_spec_ForecastOk_1))) c_spec_ForecastOk_n1)))
theorem w_spec_ForecastOk_1 (a0 : XForecast) : ∀ (n : Nat) (v7 : Int) (r : Bool), f_spec_ForecastOk_1 a0 n v7 = some r → ∀ σ : St, σ.kept [1, 25, 26, 27] [1] [] = ⟨[(1, vc (.pb 1 0)), (25, vc (aL (List.map XSurge.row a0.Surges))), (26, vc (aI (a0.Surges.length : Int))), (27, vc (aI v7))], [(1, [aI a0.Tide.Mean, aL (List.map XPart.row a0.Tide.Parts), aL (List.map XSurge.row a0.Surges)])], []⟩ → go Tryz.prog (.code (.loop c_spec_ForecastOk_1) :: [.blk 0, .code c_spec_ForecastOk_n1]) (Ret [2] [.sc (.v (.bool r))]) .normal (some σ) := by
  intro n
  induction n with
  | zero => intro _ r h; cases h
  | succ n ih =>
    intro v7 r h σ hσ
    rw [f_spec_ForecastOk_1] at h
    refine go_round ?_
    rcases Bool.eq_false_or_eq_true (decide (v7 < (a0.Surges.length : Int))) with hb8 | hb8
    · rw [ite_t hb8] at h
      obtain ⟨x9, hx9, h⟩ := ob h
      try simp only [hσ, hb8, hx9, c_spec_ForecastOk_1, Nat.reduceBEq, Nat.reduceMul, Nat.reduceAdd, Nat.reduceDiv, Int.reduceBEq, rules2, rulesX, rowsX]
      refine go_al rfl rfl ?_
      try simp only [hb8, hx9, Nat.reduceBEq, Nat.reduceMul, Nat.reduceAdd, Nat.reduceDiv, Int.reduceBEq, rules2, rulesX, rowsX]
      refine go_fr_of rfl ?_
      obtain ⟨r10, hr10, h⟩ := ob h
      try simp only [hb8, hx9, Nat.reduceBEq, Nat.reduceMul, Nat.reduceAdd, Nat.reduceDiv, Int.reduceBEq, rules2, rulesX, rowsX]
      refine go_dcallI (w_spec_SurgeOk _ _ hr10) rfl rfl (Nat.le_of_ble_eq_true rfl) ?_
      rcases Bool.eq_false_or_eq_true r10 with hb11 | hb11
      · rw [ite_t hb11] at h
        rcases Bool.eq_false_or_eq_true (decide ((0 : Int) < v7)) with hb12 | hb12
        · rw [ite_t hb12] at h
          obtain ⟨x13, hx13, h⟩ := ob h
          rcases Bool.eq_false_or_eq_true (decide (x9.From ≤ x13.From)) with hb14 | hb14
          · rw [ite_t hb14] at h
            try simp only [hb8, hx9, hb11, hb12, hx13, hb14, Nat.reduceBEq, Nat.reduceMul, Nat.reduceAdd, Nat.reduceDiv, Int.reduceBEq, rules2, rulesX, rowsX]
            cases h
            exact ⟨⟨rfl, trivial⟩, rfl⟩
          · rw [ite_f hb14] at h
            try simp only [hb8, hx9, hb11, hb12, hx13, hb14, Nat.reduceBEq, Nat.reduceMul, Nat.reduceAdd, Nat.reduceDiv, Int.reduceBEq, rules2, rulesX, rowsX]
            refine ih _ _ h _ ?_
            try simp only [hb8, hx9, hb11, hb12, hx13, hb14, Nat.reduceBEq, Nat.reduceMul, Nat.reduceAdd, Nat.reduceDiv, Int.reduceBEq, rules2, rulesX, rowsX, List.map_nil]
        · rw [ite_f hb12] at h
          try simp only [hb8, hx9, hb11, hb12, Nat.reduceBEq, Nat.reduceMul, Nat.reduceAdd, Nat.reduceDiv, Int.reduceBEq, rules2, rulesX, rowsX]
          refine ih _ _ h _ ?_
          try simp only [hb8, hx9, hb11, hb12, Nat.reduceBEq, Nat.reduceMul, Nat.reduceAdd, Nat.reduceDiv, Int.reduceBEq, rules2, rulesX, rowsX, List.map_nil]
      · rw [ite_f hb11] at h
        try simp only [hb8, hx9, hb11, Nat.reduceBEq, Nat.reduceMul, Nat.reduceAdd, Nat.reduceDiv, Int.reduceBEq, rules2, rulesX, rowsX]
        cases h
        exact ⟨⟨rfl, trivial⟩, rfl⟩
    · rw [ite_f hb8] at h
      try simp only [hσ, hb8, c_spec_ForecastOk_1, c_spec_ForecastOk_n1, Nat.reduceBEq, Nat.reduceMul, Nat.reduceAdd, Nat.reduceDiv, Int.reduceBEq, rules2, rulesX, rowsX]
      cases h
      exact ⟨⟨rfl, trivial⟩, rfl⟩
theorem e_spec_ForecastOk : entry Tryz.prog 77 = some (c_spec_ForecastOk.strip, [2], 52) := by kernel_rfl
theorem w_spec_ForecastOk (a0 : XForecast) (r : Bool) (h : f_spec_ForecastOk a0 = some r) : FC Tryz.prog 77 [.ag (XForecast.row a0)] [.sc (.v (.bool r))] := by
  unfold f_spec_ForecastOk at h
  refine FC_go (σ := ⟨[(0, va [aI a0.Tide.Mean, aL (List.map XPart.row a0.Tide.Parts), aL (List.map XSurge.row a0.Surges)])], [], []⟩) mixed e_spec_ForecastOk rfl rfl ?_
  simp only [c_spec_ForecastOk]
  try simp only [Nat.reduceBEq, Nat.reduceMul, Nat.reduceAdd, Nat.reduceDiv, Int.reduceBEq, rules2, rulesX, rowsX]
  refine go_bx rfl rfl rfl ?_
  obtain ⟨r1, hr1, h⟩ := ob h
  try simp only [Nat.reduceBEq, Nat.reduceMul, Nat.reduceAdd, Nat.reduceDiv, Int.reduceBEq, rules2, rulesX, rowsX]
  refine go_callI (w_spec_TideOk _ _ hr1) rfl rfl (Nat.le_of_ble_eq_true rfl) ?_
  rcases Bool.eq_false_or_eq_true r1 with hb2 | hb2
  · rw [ite_t hb2] at h
    obtain ⟨r3, hr3, h⟩ := ob h
    try simp only [hb2, Nat.reduceBEq, Nat.reduceMul, Nat.reduceAdd, Nat.reduceDiv, Int.reduceBEq, rules2, rulesX, rowsX]
    refine go_callI (w_spec_l01In _ _ _ _ hr3) rfl rfl (Nat.le_of_ble_eq_true rfl) ?_
    rcases Bool.eq_false_or_eq_true r3 with hb4 | hb4
    · rw [ite_t hb4] at h
      obtain ⟨x5, hx5, h⟩ := ob h
      rcases Bool.eq_false_or_eq_true (x5.From != (0 : Int)) with hb6 | hb6
      · rw [ite_t hb6] at h
        try simp only [hb2, hb4, hx5, hb6, Nat.reduceBEq, Nat.reduceMul, Nat.reduceAdd, Nat.reduceDiv, Int.reduceBEq, rules2, rulesX, rowsX]
        cases h
        exact ⟨⟨rfl, trivial⟩, rfl⟩
      · rw [ite_f hb6] at h
        try simp only [hb2, hb4, hx5, hb6, Nat.reduceBEq, Nat.reduceMul, Nat.reduceAdd, Nat.reduceDiv, Int.reduceBEq, rules2, rulesX, rowsX]
        refine w_spec_ForecastOk_1 _ _ _ _ h _ ?_
        try simp only [hb2, hb4, hx5, hb6, Nat.reduceBEq, Nat.reduceMul, Nat.reduceAdd, Nat.reduceDiv, Int.reduceBEq, rules2, rulesX, rowsX, List.map_nil]
    · rw [ite_f hb4] at h
      try simp only [hb2, hb4, Nat.reduceBEq, Nat.reduceMul, Nat.reduceAdd, Nat.reduceDiv, Int.reduceBEq, rules2, rulesX, rowsX]
      cases h
      exact ⟨⟨rfl, trivial⟩, rfl⟩
  · rw [ite_f hb2] at h
    try simp only [hb2, Nat.reduceBEq, Nat.reduceMul, Nat.reduceAdd, Nat.reduceDiv, Int.reduceBEq, rules2, rulesX, rowsX]
    cases h
    exact ⟨⟨rfl, trivial⟩, rfl⟩
/- 113: spec_IsName -/
def c_spec_IsName_2 : ACode := .seq (.reg [(none, .keep [0, 3, 4] [] [])]) (.seq (.reg [(none, .mv 21 (S 4)), (none, .un 22 .not (S 21)), (none, .mv 23 (S 22)), (some (23, true), .mv 24 (S 3)), (some (23, true), .bin 25 .eql (S 24) (K 0)), (some (23, true), .mv 26 (S 25)), (some (26, false), .mv 27 (S 0)), (some (26, false), .mv 28 (S 3)), (some (26, false), .idx 29 (S 27) (S 28)), (some (26, false), .bin 30 .lss (S 29) (K8 48)), (some (23, true), .pick 31 (S 26) (KB true) (S 30)), (some (23, true), .mv 32 (S 31)), (some (32, false), .mv 33 (S 0)), (some (32, false), .mv 34 (S 3)), (some (32, false), .idx 35 (S 33) (S 34)), (some (32, false), .bin 36 .gtr (S 35) (K8 57)), (some (23, true), .pick 37 (S 32) (KB true) (S 36)), (none, .pick 38 (S 23) (S 37) (KB false))]) (.cond (S 38) (.seq (.reg [(none, .mv 2 (KB false))]) .ret) .skip))
def c_spec_IsName_3 : ACode := .seq (.reg [(none, .keep [0, 3] [] [])]) (.reg [(none, .mv 9 (S 3)), (none, .bin 10 .add (S 9) (K 1)), (none, .mv 3 (S 10))])
def c_spec_IsName_1 : ACode := .seq (.reg [(none, .keep [0, 3] [] [])]) (.seq (.seq (.reg [(none, .mv 5 (S 3)), (none, .mv 6 (S 0)), (none, .slen 7 (S 6)), (none, .bin 8 .lss (S 5) (S 7))]) (.cond (S 8) .skip (.exit 0))) (.seq (.block 1 (.seq (.reg [(none, .mv 11 (S 0)), (none, .mv 12 (S 3)), (none, .idx 13 (S 11) (S 12)), (none, .bin 14 .geq (S 13) (K8 97)), (none, .mv 15 (S 14)), (some (15, true), .mv 16 (S 0)), (some (15, true), .mv 17 (S 3)), (some (15, true), .idx 18 (S 16) (S 17)), (some (15, true), .bin 19 .leq (S 18) (K8 122)), (none, .pick 20 (S 15) (S 19) (KB false)), (none, .mv 4 (S 20))]) c_spec_IsName_2)) c_spec_IsName_3))
def c_spec_IsName_n1 : ACode := (.seq (.reg [(none, .mv 39 (S 0)), (none, .slen 40 (S 39)), (none, .call 41 82 [(S 40), (K 1), (K 8)]), (none, .mv 2 (S 41))]) .ret)
def c_spec_IsName : ACode := (.seq (.reg [(none, .mv 2 (KB false))]) (.seq (.seq (.reg [(none, .mv 3 (K 0))]) (.block 0 (.loop c_spec_IsName_1))) c_spec_IsName_n1))
theorem w_spec_IsName_3 (a0 : List UInt8) (v1 : Int) (k_spec_IsName_1 : Int → Option Bool) (hk_spec_IsName_1 : ∀ (v1 : Int) zr, k_spec_IsName_1 v1 = some zr → ∀ σ : St, σ.kept [0, 3] [] [] = ⟨[(0, vc (aS a0)), (3, vc (aI v1))], [], []⟩ → go Tryz.prog (.code (.loop c_spec_IsName_1) :: [.blk 0, .code c_spec_IsName_n1]) (Ret [2] [.sc (.v (.bool zr))]) .normal (some σ)) (r : Bool) (h : f_spec_IsName_3 a0 v1 k_spec_IsName_1 = some r) (σ : St) (hσ : σ.kept [0, 3] [] [] = ⟨[(0, vc (aS a0)), (3, vc (aI v1))], [], []⟩) : go Tryz.prog (.code c_spec_IsName_3 :: [.code (.loop c_spec_IsName_1), .blk 0, .code c_spec_IsName_n1]) (Ret [2] [.sc (.v (.bool r))]) .normal (some σ) := by
  unfold f_spec_IsName_3 at h
  try simp only [hσ, c_spec_IsName_3, Nat.reduceBEq, Nat.reduceMul, Nat.reduceAdd, Nat.reduceDiv, Int.reduceBEq, rules2, rulesX, rowsX]
  refine hk_spec_IsName_1 _ _ h _ ?_
  try simp only [Nat.reduceBEq, Nat.reduceMul, Nat.reduceAdd, Nat.reduceDiv, Int.reduceBEq, rules2, rulesX, rowsX, List.map_nil]
theorem w_spec_IsName_2 (a0 : List UInt8) (v1 : Int) (k_spec_IsName_1 : Int → Option Bool) (hk_spec_IsName_1 : ∀ (v1 : Int) zr, k_spec_IsName_1 v1 = some zr → ∀ σ : St, σ.kept [0, 3] [] [] = ⟨[(0, vc (aS a0)), (3, vc (aI v1))], [], []⟩ → go Tryz.prog (.code (.loop c_spec_IsName_1) :: [.blk 0, .code c_spec_IsName_n1]) (Ret [2] [.sc (.v (.bool zr))]) .normal (some σ)) (v5 : Bool) (r : Bool) (h : f_spec_IsName_2 a0 v1 k_spec_IsName_1 v5 = some r) (σ : St) (hσ : σ.kept [0, 3, 4] [] [] = ⟨[(0, vc (aS a0)), (3, vc (aI v1)), (4, vc (aB v5))], [], []⟩) : go Tryz.prog (.code c_spec_IsName_2 :: [.blk 1, .code c_spec_IsName_3, .code (.loop c_spec_IsName_1), .blk 0, .code c_spec_IsName_n1]) (Ret [2] [.sc (.v (.bool r))]) .normal (some σ) := by
  unfold f_spec_IsName_2 at h
  rcases Bool.eq_false_or_eq_true v5 with hb6 | hb6
  · rw [ite_t hb6] at h
    try simp only [hσ, hb6, c_spec_IsName_2, Nat.reduceBEq, Nat.reduceMul, Nat.reduceAdd, Nat.reduceDiv, Int.reduceBEq, rules2, rulesX, rowsX]
    refine w_spec_IsName_3 _ _ k_spec_IsName_1 hk_spec_IsName_1 _ h _ ?_
    try simp only [hb6, Nat.reduceBEq, Nat.reduceMul, Nat.reduceAdd, Nat.reduceDiv, Int.reduceBEq, rules2, rulesX, rowsX, List.map_nil]
  · rw [ite_f hb6] at h
    rcases Bool.eq_false_or_eq_true (v1 == (0 : Int)) with hb7 | hb7
    · rw [ite_t hb7] at h
      try simp only [hσ, hb6, hb7, c_spec_IsName_2, Nat.reduceBEq, Nat.reduceMul, Nat.reduceAdd, Nat.reduceDiv, Int.reduceBEq, rules2, rulesX, rowsX]
      cases h
      exact ⟨⟨rfl, trivial⟩, rfl⟩
    · rw [ite_f hb7] at h
      obtain ⟨b8, hb8, h⟩ := ob h
      rcases Bool.eq_false_or_eq_true (decide ((b8.toNat : Int) < (48 : Int))) with hb9 | hb9
      · rw [ite_t hb9] at h
        try simp only [hσ, hb6, hb7, hb8, hb9, c_spec_IsName_2, Nat.reduceBEq, Nat.reduceMul, Nat.reduceAdd, Nat.reduceDiv, Int.reduceBEq, rules2, rulesX, rowsX]
        cases h
        exact ⟨⟨rfl, trivial⟩, rfl⟩
      · rw [ite_f hb9] at h
        rcases Bool.eq_false_or_eq_true (decide ((57 : Int) < (b8.toNat : Int))) with hb10 | hb10
        · rw [ite_t hb10] at h
          try simp only [hσ, hb6, hb7, hb8, hb9, hb10, c_spec_IsName_2, Nat.reduceBEq, Nat.reduceMul, Nat.reduceAdd, Nat.reduceDiv, Int.reduceBEq, rules2, rulesX, rowsX]
          cases h
          exact ⟨⟨rfl, trivial⟩, rfl⟩
        · rw [ite_f hb10] at h
          try simp only [hσ, hb6, hb7, hb8, hb9, hb10, c_spec_IsName_2, Nat.reduceBEq, Nat.reduceMul, Nat.reduceAdd, Nat.reduceDiv, Int.reduceBEq, rules2, rulesX, rowsX]
          refine w_spec_IsName_3 _ _ k_spec_IsName_1 hk_spec_IsName_1 _ h _ ?_
          try simp only [hb6, hb7, hb8, hb9, hb10, Nat.reduceBEq, Nat.reduceMul, Nat.reduceAdd, Nat.reduceDiv, Int.reduceBEq, rules2, rulesX, rowsX, List.map_nil]
theorem w_spec_IsName_1 (a0 : List UInt8) : ∀ (n : Nat) (v1 : Int) (r : Bool), f_spec_IsName_1 a0 n v1 = some r → ∀ σ : St, σ.kept [0, 3] [] [] = ⟨[(0, vc (aS a0)), (3, vc (aI v1))], [], []⟩ → go Tryz.prog (.code (.loop c_spec_IsName_1) :: [.blk 0, .code c_spec_IsName_n1]) (Ret [2] [.sc (.v (.bool r))]) .normal (some σ) := by
  intro n
  induction n with
  | zero => intro _ r h; cases h
  | succ n ih =>
    intro v1 r h σ hσ
    rw [f_spec_IsName_1] at h
    refine go_round ?_
    rcases Bool.eq_false_or_eq_true (decide (v1 < (a0.length : Int))) with hb2 | hb2
    · rw [ite_t hb2] at h
      obtain ⟨b3, hb3, h⟩ := ob h
      rcases Bool.eq_false_or_eq_true (decide ((97 : Int) ≤ (b3.toNat : Int))) with hb4 | hb4
      · rw [ite_t hb4] at h
        try simp only [hσ, hb2, hb3, hb4, c_spec_IsName_1, Nat.reduceBEq, Nat.reduceMul, Nat.reduceAdd, Nat.reduceDiv, Int.reduceBEq, rules2, rulesX, rowsX]
        refine w_spec_IsName_2 _ _ (f_spec_IsName_1 a0 n) ih _ _ h _ ?_
        try simp only [hb2, hb3, hb4, Nat.reduceBEq, Nat.reduceMul, Nat.reduceAdd, Nat.reduceDiv, Int.reduceBEq, rules2, rulesX, rowsX, List.map_nil]
      · rw [ite_f hb4] at h
        try simp only [hσ, hb2, hb3, hb4, c_spec_IsName_1, Nat.reduceBEq, Nat.reduceMul, Nat.reduceAdd, Nat.reduceDiv, Int.reduceBEq, rules2, rulesX, rowsX]
        refine w_spec_IsName_2 _ _ (f_spec_IsName_1 a0 n) ih _ _ h _ ?_
        try simp only [hb2, hb3, hb4, Nat.reduceBEq, Nat.reduceMul, Nat.reduceAdd, Nat.reduceDiv, Int.reduceBEq, rules2, rulesX, rowsX, List.map_nil]
    · rw [ite_f hb2] at h
      obtain ⟨r11, hr11, h⟩ := ob h
      try simp only [hσ, hb2, c_spec_IsName_1, c_spec_IsName_n1, Nat.reduceBEq, Nat.reduceMul, Nat.reduceAdd, Nat.reduceDiv, Int.reduceBEq, rules2, rulesX, rowsX]
      refine go_callI (w_spec_l01In _ _ _ _ hr11) rfl rfl (Nat.le_of_ble_eq_true rfl) ?_
      try simp only [hb2, Nat.reduceBEq, Nat.reduceMul, Nat.reduceAdd, Nat.reduceDiv, Int.reduceBEq, rules2, rulesX, rowsX]
      cases h
      exact ⟨⟨rfl, trivial⟩, rfl⟩
theorem e_spec_IsName : entry Tryz.prog 113 = some (c_spec_IsName.strip, [2], 42) := by kernel_rfl
theorem w_spec_IsName (a0 : List UInt8) (r : Bool) (h : f_spec_IsName a0 = some r) : FC Tryz.prog 113 [.sc (.str a0)] [.sc (.v (.bool r))] := by
  unfold f_spec_IsName at h
  refine FC_go (σ := ⟨[(0, vc (aS a0))], [], []⟩) mixed e_spec_IsName rfl rfl ?_
  simp only [c_spec_IsName]
  try simp only [Nat.reduceBEq, Nat.reduceMul, Nat.reduceAdd, Nat.reduceDiv, Int.reduceBEq, rules2, rulesX, rowsX]
  refine w_spec_IsName_1 _ _ _ _ h _ ?_
  try simp only [Nat.reduceBEq, Nat.reduceMul, Nat.reduceAdd, Nat.reduceDiv, Int.reduceBEq, rules2, rulesX, rowsX, List.map_nil]
/- 114: spec_PointNamed -/
def c_spec_PointNamed_1 : ACode := .seq (.reg [(none, .keep [1, 8, 9, 10] [] [])]) (.seq (.reg [(none, .bin 11 .lss (S 10) (S 9))]) (.seq (.cond (S 11) .skip (.exit 0)) (.seq (.block 1 (.seq (.reg [(none, .mv 12 (S 10)), (none, .iaddr 13 (S 8) (S 10) 2), (none, .load 14 (S 13) true 2), (none, .alloc 6 [aS [], aB false]), (none, .mv 5 (S 12)), (none, .store (S 6) (S 14) 2)]) (.seq (.reg [(none, .faddr 15 (S 6) 0), (none, .load 16 (S 15) false 1), (none, .mv 17 (S 1)), (none, .bin 18 .eql (S 16) (S 17))]) (.cond (S 18) (.seq (.reg [(none, .mv 19 (S 5)), (none, .mv 4 (S 19))]) .ret) .skip)))) (.reg [(none, .bin 20 .add (S 10) (K 1)), (none, .mv 10 (S 20))]))))
def c_spec_PointNamed_n1 : ACode := (.seq (.reg [(none, .mv 4 (K (-1)))]) .ret)
def c_spec_PointNamed : ACode := (.seq (.reg [(none, .box 2 (S 0)), (none, .mv 4 (K 0))]) (.seq (.seq (.reg [(none, .faddr 7 (S 2) 0), (none, .load 8 (S 7) false 1), (none, .len 9 (S 8)), (none, .mv 10 (K 0))]) (.block 0 (.loop c_spec_PointNamed_1))) c_spec_PointNamed_n1))
theorem w_spec_PointNamed_1 (a1 : List UInt8) (a0 : XChart) : ∀ (n : Nat) (v1 : Int) (r : Int), f_spec_PointNamed_1 a1 a0 n v1 = some r → ∀ σ : St, σ.kept [1, 8, 9, 10] [] [] = ⟨[(1, vc (aS a1)), (8, vc (aL (List.map XPoint.row a0.Points))), (9, vc (aI (a0.Points.length : Int))), (10, vc (aI v1))], [], []⟩ → go Tryz.prog (.code (.loop c_spec_PointNamed_1) :: [.blk 0, .code c_spec_PointNamed_n1]) (Ret [4] [.sc (.v (.int .i64 r))]) .normal (some σ) := by
  intro n
  induction n with
  | zero => intro _ r h; cases h
  | succ n ih =>
    intro v1 r h σ hσ
    rw [f_spec_PointNamed_1] at h
    refine go_round ?_
    rcases Bool.eq_false_or_eq_true (decide (v1 < (a0.Points.length : Int))) with hb2 | hb2
    · rw [ite_t hb2] at h
      obtain ⟨x3, hx3, h⟩ := ob h
      try simp only [hσ, hb2, hx3, c_spec_PointNamed_1, Nat.reduceBEq, Nat.reduceMul, Nat.reduceAdd, Nat.reduceDiv, Int.reduceBEq, rules2, rulesX, rowsX]
      refine go_al rfl rfl ?_
      rcases Bool.eq_false_or_eq_true (x3.Name == a1) with hb4 | hb4
      · rw [ite_t hb4] at h
        try simp only [hb2, hx3, hb4, Nat.reduceBEq, Nat.reduceMul, Nat.reduceAdd, Nat.reduceDiv, Int.reduceBEq, rules2, rulesX, rowsX]
        cases h
        exact ⟨⟨rfl, trivial⟩, rfl⟩
      · rw [ite_f hb4] at h
        try simp only [hb2, hx3, hb4, Nat.reduceBEq, Nat.reduceMul, Nat.reduceAdd, Nat.reduceDiv, Int.reduceBEq, rules2, rulesX, rowsX]
        refine ih _ _ h _ ?_
        try simp only [hb2, hx3, hb4, Nat.reduceBEq, Nat.reduceMul, Nat.reduceAdd, Nat.reduceDiv, Int.reduceBEq, rules2, rulesX, rowsX, List.map_nil]
    · rw [ite_f hb2] at h
      try simp only [hσ, hb2, c_spec_PointNamed_1, c_spec_PointNamed_n1, Nat.reduceBEq, Nat.reduceMul, Nat.reduceAdd, Nat.reduceDiv, Int.reduceBEq, rules2, rulesX, rowsX]
      cases h
      exact ⟨⟨rfl, trivial⟩, rfl⟩
theorem e_spec_PointNamed : entry Tryz.prog 114 = some (c_spec_PointNamed.strip, [4], 21) := by kernel_rfl
theorem w_spec_PointNamed (a0 : XChart) (a1 : List UInt8) (r : Int) (h : f_spec_PointNamed a0 a1 = some r) : FC Tryz.prog 114 [.ag (XChart.row a0), .sc (.str a1)] [.sc (.v (.int .i64 r))] := by
  unfold f_spec_PointNamed at h
  refine FC_go (σ := ⟨[(0, va [aL (List.map XPoint.row a0.Points), aL (List.map XSegment.row a0.Segments)]), (1, vc (aS a1))], [], []⟩) mixed e_spec_PointNamed rfl rfl ?_
  simp only [c_spec_PointNamed]
  try simp only [Nat.reduceBEq, Nat.reduceMul, Nat.reduceAdd, Nat.reduceDiv, Int.reduceBEq, rules2, rulesX, rowsX]
  refine go_bx rfl rfl rfl ?_
  try simp only [Nat.reduceBEq, Nat.reduceMul, Nat.reduceAdd, Nat.reduceDiv, Int.reduceBEq, rules2, rulesX, rowsX]
  refine w_spec_PointNamed_1 _ _ _ _ _ h _ ?_
  try simp only [Nat.reduceBEq, Nat.reduceMul, Nat.reduceAdd, Nat.reduceDiv, Int.reduceBEq, rules2, rulesX, rowsX, List.map_nil]
/- 115: spec_l05Joins -/
def c_spec_l05Joins : ACode := (.seq (.reg [(none, .box 3 (S 0)), (none, .mv 6 (KB false))]) (.seq (.reg [(none, .faddr 7 (S 3) 0), (none, .load 8 (S 7) false 1), (none, .mv 9 (S 1)), (none, .bin 10 .eql (S 8) (S 9)), (none, .mv 11 (S 10)), (some (11, true), .faddr 12 (S 3) 1), (some (11, true), .load 13 (S 12) false 1), (some (11, true), .mv 14 (S 2)), (some (11, true), .bin 15 .eql (S 13) (S 14)), (none, .pick 16 (S 11) (S 15) (KB false)), (none, .mv 17 (S 16)), (some (17, false), .faddr 18 (S 3) 0), (some (17, false), .load 19 (S 18) false 1), (some (17, false), .mv 20 (S 2)), (some (17, false), .bin 21 .eql (S 19) (S 20)), (some (17, false), .mv 22 (S 21)), (some (22, true), .faddr 23 (S 3) 1), (some (22, true), .load 24 (S 23) false 1), (some (22, true), .mv 25 (S 1)), (some (22, true), .bin 26 .eql (S 24) (S 25)), (some (17, false), .pick 27 (S 22) (S 26) (KB false)), (none, .pick 28 (S 17) (KB true) (S 27)), (none, .mv 6 (S 28))]) .ret))
theorem e_spec_l05Joins : entry Tryz.prog 115 = some (c_spec_l05Joins.strip, [6], 29) := by kernel_rfl
theorem w_spec_l05Joins (a0 : XSegment) (a1 : Int) (a2 : Int) (r : Bool) (h : f_spec_l05Joins a0 a1 a2 = some r) : FC Tryz.prog 115 [.ag (XSegment.row a0), .sc (.int .i64 a1), .sc (.int .i64 a2)] [.sc (.v (.bool r))] := by
  unfold f_spec_l05Joins at h
  refine FC_go (σ := ⟨[(0, va [aI a0.A, aI a0.B, aI a0.Depth, aI a0.Minutes, aB a0.Meet]), (1, vc (aI a1)), (2, vc (aI a2))], [], []⟩) mixed e_spec_l05Joins rfl rfl ?_
  simp only [c_spec_l05Joins]
  try simp only [Nat.reduceBEq, Nat.reduceMul, Nat.reduceAdd, Nat.reduceDiv, Int.reduceBEq, rules2, rulesX, rowsX]
  refine go_bx rfl rfl rfl ?_
  rcases Bool.eq_false_or_eq_true (a0.A == a1) with hb1 | hb1
  · rw [ite_t hb1] at h
    rcases Bool.eq_false_or_eq_true (a0.B == a2) with hb2 | hb2
    · rw [ite_t hb2] at h
      try simp only [hb1, hb2, Nat.reduceBEq, Nat.reduceMul, Nat.reduceAdd, Nat.reduceDiv, Int.reduceBEq, rules2, rulesX, rowsX]
      cases h
      exact ⟨⟨rfl, trivial⟩, rfl⟩
    · rw [ite_f hb2] at h
      rcases Bool.eq_false_or_eq_true (a0.A == a2) with hb3 | hb3
      · rw [ite_t hb3] at h
        try simp only [hb1, hb2, hb3, Nat.reduceBEq, Nat.reduceMul, Nat.reduceAdd, Nat.reduceDiv, Int.reduceBEq, rules2, rulesX, rowsX]
        cases h
        exact ⟨⟨rfl, trivial⟩, rfl⟩
      · rw [ite_f hb3] at h
        try simp only [hb1, hb2, hb3, Nat.reduceBEq, Nat.reduceMul, Nat.reduceAdd, Nat.reduceDiv, Int.reduceBEq, rules2, rulesX, rowsX]
        cases h
        exact ⟨⟨rfl, trivial⟩, rfl⟩
  · rw [ite_f hb1] at h
    rcases Bool.eq_false_or_eq_true (a0.A == a2) with hb4 | hb4
    · rw [ite_t hb4] at h
      try simp only [hb1, hb4, Nat.reduceBEq, Nat.reduceMul, Nat.reduceAdd, Nat.reduceDiv, Int.reduceBEq, rules2, rulesX, rowsX]
      cases h
      exact ⟨⟨rfl, trivial⟩, rfl⟩
    · rw [ite_f hb4] at h
      try simp only [hb1, hb4, Nat.reduceBEq, Nat.reduceMul, Nat.reduceAdd, Nat.reduceDiv, Int.reduceBEq, rules2, rulesX, rowsX]
      cases h
      exact ⟨⟨rfl, trivial⟩, rfl⟩
/- 78: spec_ChartOk -/
def c_spec_ChartOk_1 : ACode := .seq (.reg [(none, .keep [1, 20, 21, 22] [1] [])]) (.seq (.reg [(none, .bin 23 .lss (S 22) (S 21))]) (.seq (.cond (S 23) .skip (.exit 0)) (.seq (.block 1 (.seq (.reg [(none, .mv 24 (S 22)), (none, .iaddr 25 (S 20) (S 22) 2), (none, .load 26 (S 25) true 2), (none, .alloc 4 [aS [], aB false]), (none, .mv 3 (S 24)), (none, .store (S 4) (S 26) 2)]) (.seq (.reg [(none, .faddr 27 (S 4) 0), (none, .load 28 (S 27) false 1), (none, .call 29 113 [(S 28)]), (none, .un 30 .not (S 29)), (none, .mv 31 (S 30)), (some (31, false), .load 32 (S 1) true 2), (some (31, false), .faddr 33 (S 4) 0), (some (31, false), .load 34 (S 33) false 1), (some (31, false), .call 35 114 [(S 32), (S 34)]), (some (31, false), .mv 36 (S 3)), (some (31, false), .bin 37 .neq (S 35) (S 36)), (none, .pick 38 (S 31) (KB true) (S 37))]) (.cond (S 38) (.seq (.reg [(none, .mv 2 (KB false))]) .ret) .skip)))) (.reg [(none, .bin 39 .add (S 22) (K 1)), (none, .mv 22 (S 39))]))))
def c_spec_ChartOk_3 : ACode := .seq (.reg [(none, .keep [1, 6, 41, 42, 43, 88, 89, 90] [1, 6] [])]) (.seq (.reg [(none, .bin 91 .lss (S 90) (S 89))]) (.seq (.cond (S 91) .skip (.exit 4)) (.seq (.block 5 (.seq (.reg [(none, .iaddr 92 (S 88) (S 90) 5), (none, .load 93 (S 92) true 5), (none, .alloc 8 [aI 0, aI 0, aI 0, aI 0, aB false]), (none, .store (S 8) (S 93) 5)]) (.seq (.reg [(none, .load 94 (S 8) true 5), (none, .faddr 95 (S 6) 0), (none, .load 96 (S 95) false 1), (none, .faddr 97 (S 6) 1), (none, .load 98 (S 97) false 1), (none, .call 99 115 [(S 94), (S 96), (S 98)])]) (.cond (S 99) (.seq (.reg [(none, .mv 2 (KB false))]) .ret) .skip)))) (.reg [(none, .bin 100 .add (S 90) (K 1)), (none, .mv 90 (S 100))]))))
def c_spec_ChartOk_n3 : ACode := (.reg [(none, .bin 101 .add (S 43) (K 1)), (none, .mv 43 (S 101))])
def c_spec_ChartOk_2 : ACode := .seq (.reg [(none, .keep [1, 41, 42, 43] [1] [])]) (.seq (.reg [(none, .bin 44 .lss (S 43) (S 42))]) (.seq (.cond (S 44) .skip (.exit 2)) (.seq (.block 3 (.seq (.reg [(none, .mv 45 (S 43)), (none, .iaddr 46 (S 41) (S 43) 5), (none, .load 47 (S 46) true 5), (none, .alloc 6 [aI 0, aI 0, aI 0, aI 0, aB false]), (none, .mv 5 (S 45)), (none, .store (S 6) (S 47) 5)]) (.seq (.seq (.reg [(none, .faddr 48 (S 6) 0), (none, .load 49 (S 48) false 1), (none, .faddr 50 (S 1) 0), (none, .load 51 (S 50) false 1), (none, .len 52 (S 51)), (none, .bin 53 .sub (S 52) (K 1)), (none, .call 54 82 [(S 49), (K 0), (S 53)]), (none, .un 55 .not (S 54)), (none, .mv 56 (S 55)), (some (56, false), .faddr 57 (S 6) 1), (some (56, false), .load 58 (S 57) false 1), (some (56, false), .faddr 59 (S 1) 0), (some (56, false), .load 60 (S 59) false 1), (some (56, false), .len 61 (S 60)), (some (56, false), .bin 62 .sub (S 61) (K 1)), (some (56, false), .call 63 82 [(S 58), (K 0), (S 62)]), (some (56, false), .un 64 .not (S 63)), (none, .pick 65 (S 56) (KB true) (S 64)), (none, .mv 66 (S 65)), (some (66, false), .faddr 67 (S 6) 0), (some (66, false), .load 68 (S 67) false 1), (some (66, false), .faddr 69 (S 6) 1), (some (66, false), .load 70 (S 69) false 1), (some (66, false), .bin 71 .eql (S 68) (S 70)), (none, .pick 72 (S 66) (KB true) (S 71)), (none, .mv 73 (S 72)), (some (73, false), .faddr 74 (S 6) 2), (some (73, false), .load 75 (S 74) false 1), (some (73, false), .call 76 82 [(S 75), (K 0), (K 3000)]), (some (73, false), .un 77 .not (S 76)), (none, .pick 78 (S 73) (KB true) (S 77)), (none, .mv 79 (S 78)), (some (79, false), .faddr 80 (S 6) 3), (some (79, false), .load 81 (S 80) false 1), (some (79, false), .call 82 82 [(S 81), (K 1), (K 240)]), (some (79, false), .un 83 .not (S 82)), (none, .pick 84 (S 79) (KB true) (S 83))]) (.cond (S 84) (.seq (.reg [(none, .mv 2 (KB false))]) .ret) .skip)) (.seq (.reg [(none, .faddr 85 (S 1) 1), (none, .load 86 (S 85) false 1), (none, .mv 87 (S 5)), (none, .slc 88 5 (S 86) none (some (S 87)) none), (none, .len 89 (S 88)), (none, .mv 90 (K 0))]) (.block 4 (.loop c_spec_ChartOk_3)))))) c_spec_ChartOk_n3)))
def c_spec_ChartOk_n2 : ACode := (.seq (.reg [(none, .mv 2 (KB true))]) .ret)
def c_spec_ChartOk_n1 : ACode := (.seq (.seq (.reg [(none, .faddr 40 (S 1) 1), (none, .load 41 (S 40) false 1), (none, .len 42 (S 41)), (none, .mv 43 (K 0))]) (.block 2 (.loop c_spec_ChartOk_2))) c_spec_ChartOk_n2)
def c_spec_ChartOk : ACode := (.seq (.reg [(none, .box 1 (S 0)), (none, .mv 2 (KB false))]) (.seq (.seq (.reg [(none, .faddr 9 (S 1) 0), (none, .load 10 (S 9) false 1), (none, .len 11 (S 10)), (none, .bin 12 .gtr (S 11) (K 8)), (none, .mv 13 (S 12)), (some (13, false), .faddr 14 (S 1) 1), (some (13, false), .load 15 (S 14) false 1), (some (13, false), .len 16 (S 15)), (some (13, false), .bin 17 .gtr (S 16) (K 10)), (none, .pick 18 (S 13) (KB true) (S 17))]) (.cond (S 18) (.seq (.reg [(none, .mv 2 (KB false))]) .ret) .skip)) (.seq (.seq (.reg [(none, .faddr 19 (S 1) 0), (none, .load 20 (S 19) false 1), (none, .len 21 (S 20)), (none, .mv 22 (K 0))]) (.block 0 (.loop c_spec_ChartOk_1))) c_spec_ChartOk_n1)))
theorem w_spec_ChartOk_3 (a0 : XChart) (v10 : Int) (x12 : XSegment) (y23 : List XSegment) (y24 : Int) (k_spec_ChartOk_2 : Int → Option Bool) (hk_spec_ChartOk_2 : ∀ (v10 : Int) zr, k_spec_ChartOk_2 v10 = some zr → ∀ σ : St, σ.kept [1, 41, 42, 43] [1] [] = ⟨[(1, vc (.pb 1 0)), (41, vc (aL (List.map XSegment.row a0.Segments))), (42, vc (aI (a0.Segments.length : Int))), (43, vc (aI v10))], [(1, [aL (List.map XPoint.row a0.Points), aL (List.map XSegment.row a0.Segments)])], []⟩ → go Tryz.prog (.code (.loop c_spec_ChartOk_2) :: [.blk 2, .code c_spec_ChartOk_n2]) (Ret [2] [.sc (.v (.bool zr))]) .normal (some σ)) : ∀ (n : Nat) (v25 : Int) (r : Bool), f_spec_ChartOk_3 a0 v10 x12 y23 y24 k_spec_ChartOk_2 n v25 = some r → ∀ σ : St, σ.kept [1, 6, 41, 42, 43, 88, 89, 90] [1, 6] [] = ⟨[(1, vc (.pb 1 0)), (6, vc (.pb 6 0)), (41, vc (aL (List.map XSegment.row a0.Segments))), (42, vc (aI (a0.Segments.length : Int))), (43, vc (aI v10)), (88, vc (aL (List.map XSegment.row y23))), (89, vc (aI y24)), (90, vc (aI v25))], [(1, [aL (List.map XPoint.row a0.Points), aL (List.map XSegment.row a0.Segments)]), (6, [aI x12.A, aI x12.B, aI x12.Depth, aI x12.Minutes, aB x12.Meet])], []⟩ → go Tryz.prog (.code (.loop c_spec_ChartOk_3) :: [.blk 4, .blk 3, .code c_spec_ChartOk_n3, .code (.loop c_spec_ChartOk_2), .blk 2, .code c_spec_ChartOk_n2]) (Ret [2] [.sc (.v (.bool r))]) .normal (some σ) := by
  intro n
  induction n with
  | zero => intro _ r h; cases h
  | succ n ih =>
    intro v25 r h σ hσ
    rw [f_spec_ChartOk_3] at h
    refine go_round ?_
    rcases Bool.eq_false_or_eq_true (decide (v25 < y24)) with hb26 | hb26
    · rw [ite_t hb26] at h
      obtain ⟨x27, hx27, h⟩ := ob h
      try simp only [hσ, hb26, hx27, c_spec_ChartOk_3, Nat.reduceBEq, Nat.reduceMul, Nat.reduceAdd, Nat.reduceDiv, Int.reduceBEq, rules2, rulesX, rowsX]
      refine go_al rfl rfl ?_
      obtain ⟨r28, hr28, h⟩ := ob h
      try simp only [hb26, hx27, Nat.reduceBEq, Nat.reduceMul, Nat.reduceAdd, Nat.reduceDiv, Int.reduceBEq, rules2, rulesX, rowsX]
      refine go_callI (w_spec_l05Joins _ _ _ _ hr28) rfl rfl (Nat.le_of_ble_eq_true rfl) ?_
      rcases Bool.eq_false_or_eq_true r28 with hb29 | hb29
      · rw [ite_t hb29] at h
        try simp only [hb26, hx27, hb29, Nat.reduceBEq, Nat.reduceMul, Nat.reduceAdd, Nat.reduceDiv, Int.reduceBEq, rules2, rulesX, rowsX]
        cases h
        exact ⟨⟨rfl, trivial⟩, rfl⟩
      · rw [ite_f hb29] at h
        try simp only [hb26, hx27, hb29, Nat.reduceBEq, Nat.reduceMul, Nat.reduceAdd, Nat.reduceDiv, Int.reduceBEq, rules2, rulesX, rowsX]
        refine ih _ _ h _ ?_
        try simp only [hb26, hx27, hb29, Nat.reduceBEq, Nat.reduceMul, Nat.reduceAdd, Nat.reduceDiv, Int.reduceBEq, rules2, rulesX, rowsX, List.map_nil]
    · rw [ite_f hb26] at h
      try simp only [hσ, hb26, c_spec_ChartOk_3, c_spec_ChartOk_n3, Nat.reduceBEq, Nat.reduceMul, Nat.reduceAdd, Nat.reduceDiv, Int.reduceBEq, rules2, rulesX, rowsX]
      refine hk_spec_ChartOk_2 _ _ h _ ?_
      try simp only [hb26, Nat.reduceBEq, Nat.reduceMul, Nat.reduceAdd, Nat.reduceDiv, Int.reduceBEq, rules2, rulesX, rowsX, List.map_nil]
theorem w_spec_ChartOk_2 (a0 : XChart) : ∀ (n : Nat) (v10 : Int) (r : Bool), f_spec_ChartOk_2 a0 n v10 = some r → ∀ σ : St, σ.kept [1, 41, 42, 43] [1] [] = ⟨[(1, vc (.pb 1 0)), (41, vc (aL (List.map XSegment.row a0.Segments))), (42, vc (aI (a0.Segments.length : Int))), (43, vc (aI v10))], [(1, [aL (List.map XPoint.row a0.Points), aL (List.map XSegment.row a0.Segments)])], []⟩ → go Tryz.prog (.code (.loop c_spec_ChartOk_2) :: [.blk 2, .code c_spec_ChartOk_n2]) (Ret [2] [.sc (.v (.bool r))]) .normal (some σ) := by
  intro n
  induction n with
  | zero => intro _ r h; cases h
  | succ n ih =>
    intro v10 r h σ hσ
    rw [f_spec_ChartOk_2] at h
    refine go_round ?_
    rcases Bool.eq_false_or_eq_true (decide (v10 < (a0.Segments.length : Int))) with hb11 | hb11
    · rw [ite_t hb11] at h
      obtain ⟨x12, hx12, h⟩ := ob h
      try simp only [hσ, hb11, hx12, c_spec_ChartOk_2, Nat.reduceBEq, Nat.reduceMul, Nat.reduceAdd, Nat.reduceDiv, Int.reduceBEq, rules2, rulesX, rowsX]
      refine go_al rfl rfl ?_
      obtain ⟨r13, hr13, h⟩ := ob h
      try simp only [hb11, hx12, Nat.reduceBEq, Nat.reduceMul, Nat.reduceAdd, Nat.reduceDiv, Int.reduceBEq, rules2, rulesX, rowsX]
      refine go_callI (w_spec_l01In _ _ _ _ hr13) rfl rfl (Nat.le_of_ble_eq_true rfl) ?_
      rcases Bool.eq_false_or_eq_true r13 with hb14 | hb14
      · rw [ite_t hb14] at h
        obtain ⟨r15, hr15, h⟩ := ob h
        try simp only [hb11, hx12, hb14, Nat.reduceBEq, Nat.reduceMul, Nat.reduceAdd, Nat.reduceDiv, Int.reduceBEq, rules2, rulesX, rowsX]
        refine go_callI (w_spec_l01In _ _ _ _ hr15) rfl rfl (Nat.le_of_ble_eq_true rfl) ?_
        rcases Bool.eq_false_or_eq_true r15 with hb16 | hb16
        · rw [ite_t hb16] at h
          rcases Bool.eq_false_or_eq_true (x12.A == x12.B) with hb17 | hb17
          · rw [ite_t hb17] at h
            try simp only [hb11, hx12, hb14, hb16, hb17, Nat.reduceBEq, Nat.reduceMul, Nat.reduceAdd, Nat.reduceDiv, Int.reduceBEq, rules2, rulesX, rowsX]
            cases h
            exact ⟨⟨rfl, trivial⟩, rfl⟩
          · rw [ite_f hb17] at h
            obtain ⟨r18, hr18, h⟩ := ob h
            try simp only [hb11, hx12, hb14, hb16, hb17, Nat.reduceBEq, Nat.reduceMul, Nat.reduceAdd, Nat.reduceDiv, Int.reduceBEq, rules2, rulesX, rowsX]
            refine go_callI (w_spec_l01In _ _ _ _ hr18) rfl rfl (Nat.le_of_ble_eq_true rfl) ?_
            rcases Bool.eq_false_or_eq_true r18 with hb19 | hb19
            · rw [ite_t hb19] at h
              obtain ⟨r20, hr20, h⟩ := ob h
              try simp only [hb11, hx12, hb14, hb16, hb17, hb19, Nat.reduceBEq, Nat.reduceMul, Nat.reduceAdd, Nat.reduceDiv, Int.reduceBEq, rules2, rulesX, rowsX]
              refine go_callI (w_spec_l01In _ _ _ _ hr20) rfl rfl (Nat.le_of_ble_eq_true rfl) ?_
              rcases Bool.eq_false_or_eq_true r20 with hb21 | hb21
              · rw [ite_t hb21] at h
                obtain ⟨p22, hp22, h⟩ := ob h
                try simp only [hb11, hx12, hb14, hb16, hb17, hb19, hb21, hp22, Nat.reduceBEq, Nat.reduceMul, Nat.reduceAdd, Nat.reduceDiv, Int.reduceBEq, rules2, rulesX, rowsX]
                refine w_spec_ChartOk_3 _ _ _ _ _ (f_spec_ChartOk_2 a0 n) ih _ _ _ h _ ?_
                try simp only [hb11, hx12, hb14, hb16, hb17, hb19, hb21, hp22, Nat.reduceBEq, Nat.reduceMul, Nat.reduceAdd, Nat.reduceDiv, Int.reduceBEq, rules2, rulesX, rowsX, List.map_nil]
              · rw [ite_f hb21] at h
                try simp only [hb11, hx12, hb14, hb16, hb17, hb19, hb21, Nat.reduceBEq, Nat.reduceMul, Nat.reduceAdd, Nat.reduceDiv, Int.reduceBEq, rules2, rulesX, rowsX]
                cases h
                exact ⟨⟨rfl, trivial⟩, rfl⟩
            · rw [ite_f hb19] at h
              try simp only [hb11, hx12, hb14, hb16, hb17, hb19, Nat.reduceBEq, Nat.reduceMul, Nat.reduceAdd, Nat.reduceDiv, Int.reduceBEq, rules2, rulesX, rowsX]
              cases h
              exact ⟨⟨rfl, trivial⟩, rfl⟩
        · rw [ite_f hb16] at h
          try simp only [hb11, hx12, hb14, hb16, Nat.reduceBEq, Nat.reduceMul, Nat.reduceAdd, Nat.reduceDiv, Int.reduceBEq, rules2, rulesX, rowsX]
          cases h
          exact ⟨⟨rfl, trivial⟩, rfl⟩
      · rw [ite_f hb14] at h
        try simp only [hb11, hx12, hb14, Nat.reduceBEq, Nat.reduceMul, Nat.reduceAdd, Nat.reduceDiv, Int.reduceBEq, rules2, rulesX, rowsX]
        cases h
        exact ⟨⟨rfl, trivial⟩, rfl⟩
    · rw [ite_f hb11] at h
      try simp only [hσ, hb11, c_spec_ChartOk_2, c_spec_ChartOk_n2, Nat.reduceBEq, Nat.reduceMul, Nat.reduceAdd, Nat.reduceDiv, Int.reduceBEq, rules2, rulesX, rowsX]
      cases h
      exact ⟨⟨rfl, trivial⟩, rfl⟩
theorem w_spec_ChartOk_1 (a0 : XChart) : ∀ (n : Nat) (v3 : Int) (r : Bool), f_spec_ChartOk_1 a0 n v3 = some r → ∀ σ : St, σ.kept [1, 20, 21, 22] [1] [] = ⟨[(1, vc (.pb 1 0)), (20, vc (aL (List.map XPoint.row a0.Points))), (21, vc (aI (a0.Points.length : Int))), (22, vc (aI v3))], [(1, [aL (List.map XPoint.row a0.Points), aL (List.map XSegment.row a0.Segments)])], []⟩ → go Tryz.prog (.code (.loop c_spec_ChartOk_1) :: [.blk 0, .code c_spec_ChartOk_n1]) (Ret [2] [.sc (.v (.bool r))]) .normal (some σ) := by
  intro n
  induction n with
  | zero => intro _ r h; cases h
  | succ n ih =>
    intro v3 r h σ hσ
    rw [f_spec_ChartOk_1] at h
    refine go_round ?_
    rcases Bool.eq_false_or_eq_true (decide (v3 < (a0.Points.length : Int))) with hb4 | hb4
    · rw [ite_t hb4] at h
      obtain ⟨x5, hx5, h⟩ := ob h
      try simp only [hσ, hb4, hx5, c_spec_ChartOk_1, Nat.reduceBEq, Nat.reduceMul, Nat.reduceAdd, Nat.reduceDiv, Int.reduceBEq, rules2, rulesX, rowsX]
      refine go_al rfl rfl ?_
      obtain ⟨r6, hr6, h⟩ := ob h
      try simp only [hb4, hx5, Nat.reduceBEq, Nat.reduceMul, Nat.reduceAdd, Nat.reduceDiv, Int.reduceBEq, rules2, rulesX, rowsX]
      refine go_callI (w_spec_IsName _ _ hr6) rfl rfl (Nat.le_of_ble_eq_true rfl) ?_
      rcases Bool.eq_false_or_eq_true r6 with hb7 | hb7
      · rw [ite_t hb7] at h
        obtain ⟨r8, hr8, h⟩ := ob h
        try simp only [hb4, hx5, hb7, Nat.reduceBEq, Nat.reduceMul, Nat.reduceAdd, Nat.reduceDiv, Int.reduceBEq, rules2, rulesX, rowsX]
        refine go_callI (w_spec_PointNamed _ _ _ hr8) rfl rfl (Nat.le_of_ble_eq_true rfl) ?_
        rcases Bool.eq_false_or_eq_true (r8 != v3) with hb9 | hb9
        · rw [ite_t hb9] at h
          try simp only [hb4, hx5, hb7, hb9, Nat.reduceBEq, Nat.reduceMul, Nat.reduceAdd, Nat.reduceDiv, Int.reduceBEq, rules2, rulesX, rowsX]
          cases h
          exact ⟨⟨rfl, trivial⟩, rfl⟩
        · rw [ite_f hb9] at h
          try simp only [hb4, hx5, hb7, hb9, Nat.reduceBEq, Nat.reduceMul, Nat.reduceAdd, Nat.reduceDiv, Int.reduceBEq, rules2, rulesX, rowsX]
          refine ih _ _ h _ ?_
          try simp only [hb4, hx5, hb7, hb9, Nat.reduceBEq, Nat.reduceMul, Nat.reduceAdd, Nat.reduceDiv, Int.reduceBEq, rules2, rulesX, rowsX, List.map_nil]
      · rw [ite_f hb7] at h
        try simp only [hb4, hx5, hb7, Nat.reduceBEq, Nat.reduceMul, Nat.reduceAdd, Nat.reduceDiv, Int.reduceBEq, rules2, rulesX, rowsX]
        cases h
        exact ⟨⟨rfl, trivial⟩, rfl⟩
    · rw [ite_f hb4] at h
      try simp only [hσ, hb4, c_spec_ChartOk_1, c_spec_ChartOk_n1, Nat.reduceBEq, Nat.reduceMul, Nat.reduceAdd, Nat.reduceDiv, Int.reduceBEq, rules2, rulesX, rowsX]
      refine w_spec_ChartOk_2 _ _ _ _ h _ ?_
      try simp only [hb4, Nat.reduceBEq, Nat.reduceMul, Nat.reduceAdd, Nat.reduceDiv, Int.reduceBEq, rules2, rulesX, rowsX, List.map_nil]
theorem e_spec_ChartOk : entry Tryz.prog 78 = some (c_spec_ChartOk.strip, [2], 102) := by kernel_rfl
theorem w_spec_ChartOk (a0 : XChart) (r : Bool) (h : f_spec_ChartOk a0 = some r) : FC Tryz.prog 78 [.ag (XChart.row a0)] [.sc (.v (.bool r))] := by
  unfold f_spec_ChartOk at h
  refine FC_go (σ := ⟨[(0, va [aL (List.map XPoint.row a0.Points), aL (List.map XSegment.row a0.Segments)])], [], []⟩) mixed e_spec_ChartOk rfl rfl ?_
  simp only [c_spec_ChartOk]
  try simp only [Nat.reduceBEq, Nat.reduceMul, Nat.reduceAdd, Nat.reduceDiv, Int.reduceBEq, rules2, rulesX, rowsX]
  refine go_bx rfl rfl rfl ?_
  rcases Bool.eq_false_or_eq_true (decide ((8 : Int) < (a0.Points.length : Int))) with hb1 | hb1
  · rw [ite_t hb1] at h
    try simp only [hb1, Nat.reduceBEq, Nat.reduceMul, Nat.reduceAdd, Nat.reduceDiv, Int.reduceBEq, rules2, rulesX, rowsX]
    cases h
    exact ⟨⟨rfl, trivial⟩, rfl⟩
  · rw [ite_f hb1] at h
    rcases Bool.eq_false_or_eq_true (decide ((10 : Int) < (a0.Segments.length : Int))) with hb2 | hb2
    · rw [ite_t hb2] at h
      try simp only [hb1, hb2, Nat.reduceBEq, Nat.reduceMul, Nat.reduceAdd, Nat.reduceDiv, Int.reduceBEq, rules2, rulesX, rowsX]
      cases h
      exact ⟨⟨rfl, trivial⟩, rfl⟩
    · rw [ite_f hb2] at h
      try simp only [hb1, hb2, Nat.reduceBEq, Nat.reduceMul, Nat.reduceAdd, Nat.reduceDiv, Int.reduceBEq, rules2, rulesX, rowsX]
      refine w_spec_ChartOk_1 _ _ _ _ h _ ?_
      try simp only [hb1, hb2, Nat.reduceBEq, Nat.reduceMul, Nat.reduceAdd, Nat.reduceDiv, Int.reduceBEq, rules2, rulesX, rowsX, List.map_nil]
/- 109: spec_ShipOk -/
def c_spec_ShipOk : ACode := (.seq (.reg [(none, .box 1 (S 0)), (none, .mv 2 (KB false))]) (.seq (.reg [(none, .faddr 3 (S 1) 0), (none, .load 4 (S 3) false 1), (none, .call 5 113 [(S 4)]), (none, .mv 6 (S 5)), (some (6, true), .faddr 7 (S 1) 1), (some (6, true), .load 8 (S 7) false 1), (some (6, true), .call 9 82 [(S 8), (K 10), (K 400)]), (none, .pick 10 (S 6) (S 9) (KB false)), (none, .mv 11 (S 10)), (some (11, true), .faddr 12 (S 1) 2), (some (11, true), .load 13 (S 12) false 1), (some (11, true), .call 14 82 [(S 13), (K 100), (K 2000)]), (none, .pick 15 (S 11) (S 14) (KB false)), (none, .mv 16 (S 15)), (some (16, true), .faddr 17 (S 1) 3), (some (16, true), .load 18 (S 17) false 1), (some (16, true), .call 19 82 [(S 18), (K 0), (K 3)]), (none, .pick 20 (S 16) (S 19) (KB false)), (none, .mv 21 (S 20)), (some (21, true), .faddr 22 (S 1) 4), (some (21, true), .load 23 (S 22) false 1), (some (21, true), .call 24 82 [(S 23), (K 0), (K 4)]), (none, .pick 25 (S 21) (S 24) (KB false)), (none, .mv 2 (S 25))]) .ret))
theorem e_spec_ShipOk : entry Tryz.prog 109 = some (c_spec_ShipOk.strip, [2], 26) := by kernel_rfl
theorem w_spec_ShipOk (a0 : XShip) (r : Bool) (h : f_spec_ShipOk a0 = some r) : FC Tryz.prog 109 [.ag (XShip.row a0)] [.sc (.v (.bool r))] := by
  unfold f_spec_ShipOk at h
  refine FC_go (σ := ⟨[(0, va [aS a0.Name, aI a0.Length, aI a0.Draught, aI a0.Line, aI a0.Tugs, aB a0.Slow])], [], []⟩) mixed e_spec_ShipOk rfl rfl ?_
  simp only [c_spec_ShipOk]
  try simp only [Nat.reduceBEq, Nat.reduceMul, Nat.reduceAdd, Nat.reduceDiv, Int.reduceBEq, rules2, rulesX, rowsX]
  refine go_bx rfl rfl rfl ?_
  obtain ⟨r1, hr1, h⟩ := ob h
  try simp only [Nat.reduceBEq, Nat.reduceMul, Nat.reduceAdd, Nat.reduceDiv, Int.reduceBEq, rules2, rulesX, rowsX]
  refine go_callI (w_spec_IsName _ _ hr1) rfl rfl (Nat.le_of_ble_eq_true rfl) ?_
  rcases Bool.eq_false_or_eq_true r1 with hb2 | hb2
  · rw [ite_t hb2] at h
    obtain ⟨r3, hr3, h⟩ := ob h
    try simp only [hb2, Nat.reduceBEq, Nat.reduceMul, Nat.reduceAdd, Nat.reduceDiv, Int.reduceBEq, rules2, rulesX, rowsX]
    refine go_callI (w_spec_l01In _ _ _ _ hr3) rfl rfl (Nat.le_of_ble_eq_true rfl) ?_
    rcases Bool.eq_false_or_eq_true r3 with hb4 | hb4
    · rw [ite_t hb4] at h
      obtain ⟨r5, hr5, h⟩ := ob h
      try simp only [hb2, hb4, Nat.reduceBEq, Nat.reduceMul, Nat.reduceAdd, Nat.reduceDiv, Int.reduceBEq, rules2, rulesX, rowsX]
      refine go_callI (w_spec_l01In _ _ _ _ hr5) rfl rfl (Nat.le_of_ble_eq_true rfl) ?_
      rcases Bool.eq_false_or_eq_true r5 with hb6 | hb6
      · rw [ite_t hb6] at h
        obtain ⟨r7, hr7, h⟩ := ob h
        try simp only [hb2, hb4, hb6, Nat.reduceBEq, Nat.reduceMul, Nat.reduceAdd, Nat.reduceDiv, Int.reduceBEq, rules2, rulesX, rowsX]
        refine go_callI (w_spec_l01In _ _ _ _ hr7) rfl rfl (Nat.le_of_ble_eq_true rfl) ?_
        rcases Bool.eq_false_or_eq_true r7 with hb8 | hb8
        · rw [ite_t hb8] at h
          obtain ⟨r9, hr9, h⟩ := ob h
          try simp only [hb2, hb4, hb6, hb8, Nat.reduceBEq, Nat.reduceMul, Nat.reduceAdd, Nat.reduceDiv, Int.reduceBEq, rules2, rulesX, rowsX]
          refine go_callI (w_spec_l01In _ _ _ _ hr9) rfl rfl (Nat.le_of_ble_eq_true rfl) ?_
          try simp only [hb2, hb4, hb6, hb8, Nat.reduceBEq, Nat.reduceMul, Nat.reduceAdd, Nat.reduceDiv, Int.reduceBEq, rules2, rulesX, rowsX]
          cases h
          exact ⟨⟨rfl, trivial⟩, rfl⟩
        · rw [ite_f hb8] at h
          try simp only [hb2, hb4, hb6, hb8, Nat.reduceBEq, Nat.reduceMul, Nat.reduceAdd, Nat.reduceDiv, Int.reduceBEq, rules2, rulesX, rowsX]
          cases h
          exact ⟨⟨rfl, trivial⟩, rfl⟩
      · rw [ite_f hb6] at h
        try simp only [hb2, hb4, hb6, Nat.reduceBEq, Nat.reduceMul, Nat.reduceAdd, Nat.reduceDiv, Int.reduceBEq, rules2, rulesX, rowsX]
        cases h
        exact ⟨⟨rfl, trivial⟩, rfl⟩
    · rw [ite_f hb4] at h
      try simp only [hb2, hb4, Nat.reduceBEq, Nat.reduceMul, Nat.reduceAdd, Nat.reduceDiv, Int.reduceBEq, rules2, rulesX, rowsX]
      cases h
      exact ⟨⟨rfl, trivial⟩, rfl⟩
  · rw [ite_f hb2] at h
    try simp only [hb2, Nat.reduceBEq, Nat.reduceMul, Nat.reduceAdd, Nat.reduceDiv, Int.reduceBEq, rules2, rulesX, rowsX]
    cases h
    exact ⟨⟨rfl, trivial⟩, rfl⟩
/- 116: spec_ShipNamed -/
def c_spec_ShipNamed_1 : ACode := .seq (.reg [(none, .keep [1, 7, 8, 9] [] [])]) (.seq (.reg [(none, .bin 10 .lss (S 9) (S 8))]) (.seq (.cond (S 10) .skip (.exit 0)) (.seq (.block 1 (.seq (.reg [(none, .mv 11 (S 9)), (none, .iaddr 12 (S 7) (S 9) 6), (none, .load 13 (S 12) true 6), (none, .alloc 6 [aS [], aI 0, aI 0, aI 0, aI 0, aB false]), (none, .mv 5 (S 11)), (none, .store (S 6) (S 13) 6)]) (.seq (.reg [(none, .faddr 14 (S 6) 0), (none, .load 15 (S 14) false 1), (none, .mv 16 (S 1)), (none, .bin 17 .eql (S 15) (S 16))]) (.cond (S 17) (.seq (.reg [(none, .mv 18 (S 5)), (none, .mv 4 (S 18))]) .ret) .skip)))) (.reg [(none, .bin 19 .add (S 9) (K 1)), (none, .mv 9 (S 19))]))))
def c_spec_ShipNamed_n1 : ACode := (.seq (.reg [(none, .mv 4 (K (-1)))]) .ret)
def c_spec_ShipNamed : ACode := (.seq (.reg [(none, .mv 4 (K 0))]) (.seq (.seq (.reg [(none, .mv 7 (S 0)), (none, .len 8 (S 7)), (none, .mv 9 (K 0))]) (.block 0 (.loop c_spec_ShipNamed_1))) c_spec_ShipNamed_n1))
theorem w_spec_ShipNamed_1 (a1 : List UInt8) (a0 : List XShip) : ∀ (n : Nat) (v1 : Int) (r : Int), f_spec_ShipNamed_1 a1 a0 n v1 = some r → ∀ σ : St, σ.kept [1, 7, 8, 9] [] [] = ⟨[(1, vc (aS a1)), (7, vc (aL (List.map XShip.row a0))), (8, vc (aI (a0.length : Int))), (9, vc (aI v1))], [], []⟩ → go Tryz.prog (.code (.loop c_spec_ShipNamed_1) :: [.blk 0, .code c_spec_ShipNamed_n1]) (Ret [4] [.sc (.v (.int .i64 r))]) .normal (some σ) := by
  intro n
  induction n with
  | zero => intro _ r h; cases h
  | succ n ih =>
    intro v1 r h σ hσ
    rw [f_spec_ShipNamed_1] at h
    refine go_round ?_
    rcases Bool.eq_false_or_eq_true (decide (v1 < (a0.length : Int))) with hb2 | hb2
    · rw [ite_t hb2] at h
      obtain ⟨x3, hx3, h⟩ := ob h
      try simp only [hσ, hb2, hx3, c_spec_ShipNamed_1, Nat.reduceBEq, Nat.reduceMul, Nat.reduceAdd, Nat.reduceDiv, Int.reduceBEq, rules2, rulesX, rowsX]
      refine go_al rfl rfl ?_
      rcases Bool.eq_false_or_eq_true (x3.Name == a1) with hb4 | hb4
      · rw [ite_t hb4] at h
        try simp only [hb2, hx3, hb4, Nat.reduceBEq, Nat.reduceMul, Nat.reduceAdd, Nat.reduceDiv, Int.reduceBEq, rules2, rulesX, rowsX]
        cases h
        exact ⟨⟨rfl, trivial⟩, rfl⟩
      · rw [ite_f hb4] at h
        try simp only [hb2, hx3, hb4, Nat.reduceBEq, Nat.reduceMul, Nat.reduceAdd, Nat.reduceDiv, Int.reduceBEq, rules2, rulesX, rowsX]
        refine ih _ _ h _ ?_
        try simp only [hb2, hx3, hb4, Nat.reduceBEq, Nat.reduceMul, Nat.reduceAdd, Nat.reduceDiv, Int.reduceBEq, rules2, rulesX, rowsX, List.map_nil]
    · rw [ite_f hb2] at h
      try simp only [hσ, hb2, c_spec_ShipNamed_1, c_spec_ShipNamed_n1, Nat.reduceBEq, Nat.reduceMul, Nat.reduceAdd, Nat.reduceDiv, Int.reduceBEq, rules2, rulesX, rowsX]
      cases h
      exact ⟨⟨rfl, trivial⟩, rfl⟩
theorem e_spec_ShipNamed : entry Tryz.prog 116 = some (c_spec_ShipNamed.strip, [4], 20) := by kernel_rfl
theorem w_spec_ShipNamed (a0 : List XShip) (a1 : List UInt8) (r : Int) (h : f_spec_ShipNamed a0 a1 = some r) : FC Tryz.prog 116 [.sc (.sl (List.map XShip.row a0)), .sc (.str a1)] [.sc (.v (.int .i64 r))] := by
  unfold f_spec_ShipNamed at h
  refine FC_go (σ := ⟨[(0, vc (aL (List.map XShip.row a0))), (1, vc (aS a1))], [], []⟩) mixed e_spec_ShipNamed rfl rfl ?_
  simp only [c_spec_ShipNamed]
  try simp only [Nat.reduceBEq, Nat.reduceMul, Nat.reduceAdd, Nat.reduceDiv, Int.reduceBEq, rules2, rulesX, rowsX]
  refine w_spec_ShipNamed_1 _ _ _ _ _ h _ ?_
  try simp only [Nat.reduceBEq, Nat.reduceMul, Nat.reduceAdd, Nat.reduceDiv, Int.reduceBEq, rules2, rulesX, rowsX, List.map_nil]
/- 79: spec_FleetOk -/
def c_spec_FleetOk_1 : ACode := .seq (.reg [(none, .keep [0, 8, 9, 10] [] [])]) (.seq (.reg [(none, .bin 11 .lss (S 10) (S 9))]) (.seq (.cond (S 11) .skip (.exit 0)) (.seq (.block 1 (.seq (.reg [(none, .mv 12 (S 10)), (none, .iaddr 13 (S 8) (S 10) 6), (none, .load 14 (S 13) true 6), (none, .alloc 4 [aS [], aI 0, aI 0, aI 0, aI 0, aB false]), (none, .mv 3 (S 12)), (none, .store (S 4) (S 14) 6)]) (.seq (.reg [(none, .load 15 (S 4) true 6), (none, .call 16 109 [(S 15)]), (none, .un 17 .not (S 16)), (none, .mv 18 (S 17)), (some (18, false), .mv 19 (S 0)), (some (18, false), .faddr 20 (S 4) 0), (some (18, false), .load 21 (S 20) false 1), (some (18, false), .call 22 116 [(S 19), (S 21)]), (some (18, false), .mv 23 (S 3)), (some (18, false), .bin 24 .neq (S 22) (S 23)), (none, .pick 25 (S 18) (KB true) (S 24))]) (.cond (S 25) (.seq (.reg [(none, .mv 2 (KB false))]) .ret) .skip)))) (.reg [(none, .bin 26 .add (S 10) (K 1)), (none, .mv 10 (S 26))]))))
def c_spec_FleetOk_n1 : ACode := (.seq (.reg [(none, .mv 2 (KB true))]) .ret)
def c_spec_FleetOk : ACode := (.seq (.reg [(none, .mv 2 (KB false))]) (.seq (.seq (.reg [(none, .mv 5 (S 0)), (none, .len 6 (S 5)), (none, .bin 7 .gtr (S 6) (K 6))]) (.cond (S 7) (.seq (.reg [(none, .mv 2 (KB false))]) .ret) .skip)) (.seq (.seq (.reg [(none, .mv 8 (S 0)), (none, .len 9 (S 8)), (none, .mv 10 (K 0))]) (.block 0 (.loop c_spec_FleetOk_1))) c_spec_FleetOk_n1)))
theorem w_spec_FleetOk_1 (a0 : List XShip) : ∀ (n : Nat) (v2 : Int) (r : Bool), f_spec_FleetOk_1 a0 n v2 = some r → ∀ σ : St, σ.kept [0, 8, 9, 10] [] [] = ⟨[(0, vc (aL (List.map XShip.row a0))), (8, vc (aL (List.map XShip.row a0))), (9, vc (aI (a0.length : Int))), (10, vc (aI v2))], [], []⟩ → go Tryz.prog (.code (.loop c_spec_FleetOk_1) :: [.blk 0, .code c_spec_FleetOk_n1]) (Ret [2] [.sc (.v (.bool r))]) .normal (some σ) := by
  intro n
  induction n with
  | zero => intro _ r h; cases h
  | succ n ih =>
    intro v2 r h σ hσ
    rw [f_spec_FleetOk_1] at h
    refine go_round ?_
    rcases Bool.eq_false_or_eq_true (decide (v2 < (a0.length : Int))) with hb3 | hb3
    · rw [ite_t hb3] at h
      obtain ⟨x4, hx4, h⟩ := ob h
      try simp only [hσ, hb3, hx4, c_spec_FleetOk_1, Nat.reduceBEq, Nat.reduceMul, Nat.reduceAdd, Nat.reduceDiv, Int.reduceBEq, rules2, rulesX, rowsX]
      refine go_al rfl rfl ?_
      obtain ⟨r5, hr5, h⟩ := ob h
      try simp only [hb3, hx4, Nat.reduceBEq, Nat.reduceMul, Nat.reduceAdd, Nat.reduceDiv, Int.reduceBEq, rules2, rulesX, rowsX]
      refine go_callI (w_spec_ShipOk _ _ hr5) rfl rfl (Nat.le_of_ble_eq_true rfl) ?_
      rcases Bool.eq_false_or_eq_true r5 with hb6 | hb6
      · rw [ite_t hb6] at h
        obtain ⟨r7, hr7, h⟩ := ob h
        try simp only [hb3, hx4, hb6, Nat.reduceBEq, Nat.reduceMul, Nat.reduceAdd, Nat.reduceDiv, Int.reduceBEq, rules2, rulesX, rowsX]
        refine go_callI (w_spec_ShipNamed _ _ _ hr7) rfl rfl (Nat.le_of_ble_eq_true rfl) ?_
        rcases Bool.eq_false_or_eq_true (r7 != v2) with hb8 | hb8
        · rw [ite_t hb8] at h
          try simp only [hb3, hx4, hb6, hb8, Nat.reduceBEq, Nat.reduceMul, Nat.reduceAdd, Nat.reduceDiv, Int.reduceBEq, rules2, rulesX, rowsX]
          cases h
          exact ⟨⟨rfl, trivial⟩, rfl⟩
        · rw [ite_f hb8] at h
          try simp only [hb3, hx4, hb6, hb8, Nat.reduceBEq, Nat.reduceMul, Nat.reduceAdd, Nat.reduceDiv, Int.reduceBEq, rules2, rulesX, rowsX]
          refine ih _ _ h _ ?_
          try simp only [hb3, hx4, hb6, hb8, Nat.reduceBEq, Nat.reduceMul, Nat.reduceAdd, Nat.reduceDiv, Int.reduceBEq, rules2, rulesX, rowsX, List.map_nil]
      · rw [ite_f hb6] at h
        try simp only [hb3, hx4, hb6, Nat.reduceBEq, Nat.reduceMul, Nat.reduceAdd, Nat.reduceDiv, Int.reduceBEq, rules2, rulesX, rowsX]
        cases h
        exact ⟨⟨rfl, trivial⟩, rfl⟩
    · rw [ite_f hb3] at h
      try simp only [hσ, hb3, c_spec_FleetOk_1, c_spec_FleetOk_n1, Nat.reduceBEq, Nat.reduceMul, Nat.reduceAdd, Nat.reduceDiv, Int.reduceBEq, rules2, rulesX, rowsX]
      cases h
      exact ⟨⟨rfl, trivial⟩, rfl⟩
theorem e_spec_FleetOk : entry Tryz.prog 79 = some (c_spec_FleetOk.strip, [2], 27) := by kernel_rfl
theorem w_spec_FleetOk (a0 : List XShip) (r : Bool) (h : f_spec_FleetOk a0 = some r) : FC Tryz.prog 79 [.sc (.sl (List.map XShip.row a0))] [.sc (.v (.bool r))] := by
  unfold f_spec_FleetOk at h
  refine FC_go (σ := ⟨[(0, vc (aL (List.map XShip.row a0)))], [], []⟩) mixed e_spec_FleetOk rfl rfl ?_
  simp only [c_spec_FleetOk]
  rcases Bool.eq_false_or_eq_true (decide ((6 : Int) < (a0.length : Int))) with hb1 | hb1
  · rw [ite_t hb1] at h
    try simp only [hb1, Nat.reduceBEq, Nat.reduceMul, Nat.reduceAdd, Nat.reduceDiv, Int.reduceBEq, rules2, rulesX, rowsX]
    cases h
    exact ⟨⟨rfl, trivial⟩, rfl⟩
  · rw [ite_f hb1] at h
    try simp only [hb1, Nat.reduceBEq, Nat.reduceMul, Nat.reduceAdd, Nat.reduceDiv, Int.reduceBEq, rules2, rulesX, rowsX]
    refine w_spec_FleetOk_1 _ _ _ _ h _ ?_
    try simp only [hb1, Nat.reduceBEq, Nat.reduceMul, Nat.reduceAdd, Nat.reduceDiv, Int.reduceBEq, rules2, rulesX, rowsX, List.map_nil]
/- 80: spec_RegimeOk -/
def c_spec_RegimeOk : ACode := (.seq (.reg [(none, .box 1 (S 0)), (none, .mv 2 (KB false))]) (.seq (.reg [(none, .faddr 3 (S 1) 0), (none, .load 4 (S 3) false 1), (none, .call 5 82 [(S 4), (K 0), (K 60)]), (none, .mv 2 (S 5))]) .ret))
theorem e_spec_RegimeOk : entry Tryz.prog 80 = some (c_spec_RegimeOk.strip, [2], 6) := by kernel_rfl
theorem w_spec_RegimeOk (a0 : XRegime) (r : Bool) (h : f_spec_RegimeOk a0 = some r) : FC Tryz.prog 80 [.ag (XRegime.row a0)] [.sc (.v (.bool r))] := by
  unfold f_spec_RegimeOk at h
  refine FC_go (σ := ⟨[(0, va [aI a0.Gap, aB a0.NoMeet])], [], []⟩) mixed e_spec_RegimeOk rfl rfl ?_
  simp only [c_spec_RegimeOk]
  try simp only [Nat.reduceBEq, Nat.reduceMul, Nat.reduceAdd, Nat.reduceDiv, Int.reduceBEq, rules2, rulesX, rowsX]
  refine go_bx rfl rfl rfl ?_
  obtain ⟨r1, hr1, h⟩ := ob h
  try simp only [Nat.reduceBEq, Nat.reduceMul, Nat.reduceAdd, Nat.reduceDiv, Int.reduceBEq, rules2, rulesX, rowsX]
  refine go_callI (w_spec_l01In _ _ _ _ hr1) rfl rfl (Nat.le_of_ble_eq_true rfl) ?_
  try simp only [Nat.reduceBEq, Nat.reduceMul, Nat.reduceAdd, Nat.reduceDiv, Int.reduceBEq, rules2, rulesX, rowsX]
  cases h
  exact ⟨⟨rfl, trivial⟩, rfl⟩
/- 117: spec_l13Table -/
def c_spec_l13Table_1 : ACode := .seq (.reg [(none, .keep [15, 16, 17] [] [])]) (.seq (.reg [(none, .bin 18 .lss (S 17) (S 16))]) (.seq (.cond (S 18) .skip (.exit 0)) (.seq (.block 1 (.seq (.reg [(none, .iaddr 19 (S 15) (S 17) 1), (none, .load 20 (S 19) false 1), (none, .mv 6 (S 20))]) (.seq (.reg [(none, .mv 21 (S 6)), (none, .call 22 82 [(S 21), (K 0), (K 240)]), (none, .un 23 .not (S 22))]) (.cond (S 23) (.seq (.reg [(none, .mv 4 (KB false))]) .ret) .skip)))) (.reg [(none, .bin 24 .add (S 17) (K 1)), (none, .mv 17 (S 24))]))))
def c_spec_l13Table_n1 : ACode := (.seq (.reg [(none, .mv 4 (KB true))]) .ret)
def c_spec_l13Table : ACode := (.seq (.reg [(none, .mv 4 (KB false))]) (.seq (.seq (.reg [(none, .mv 7 (S 0)), (none, .call 8 82 [(S 7), (K 0), (K 2880)]), (none, .un 9 .not (S 8)), (none, .mv 10 (S 9)), (some (10, false), .mv 11 (S 1)), (some (10, false), .len 12 (S 11)), (some (10, false), .bin 13 .neq (S 12) (K 64)), (none, .pick 14 (S 10) (KB true) (S 13))]) (.cond (S 14) (.seq (.reg [(none, .mv 4 (KB false))]) .ret) .skip)) (.seq (.seq (.reg [(none, .mv 15 (S 1)), (none, .len 16 (S 15)), (none, .mv 17 (K 0))]) (.block 0 (.loop c_spec_l13Table_1))) c_spec_l13Table_n1)))
theorem w_spec_l13Table_1 (a1 : List Int) : ∀ (n : Nat) (v4 : Int) (r : Bool), f_spec_l13Table_1 a1 n v4 = some r → ∀ σ : St, σ.kept [15, 16, 17] [] [] = ⟨[(15, vc (aL (List.map rI a1))), (16, vc (aI (a1.length : Int))), (17, vc (aI v4))], [], []⟩ → go Tryz.prog (.code (.loop c_spec_l13Table_1) :: [.blk 0, .code c_spec_l13Table_n1]) (Ret [4] [.sc (.v (.bool r))]) .normal (some σ) := by
  intro n
  induction n with
  | zero => intro _ r h; cases h
  | succ n ih =>
    intro v4 r h σ hσ
    rw [f_spec_l13Table_1] at h
    refine go_round ?_
    rcases Bool.eq_false_or_eq_true (decide (v4 < (a1.length : Int))) with hb5 | hb5
    · rw [ite_t hb5] at h
      obtain ⟨x6, hx6, h⟩ := ob h
      obtain ⟨r7, hr7, h⟩ := ob h
      try simp only [hσ, hb5, hx6, c_spec_l13Table_1, Nat.reduceBEq, Nat.reduceMul, Nat.reduceAdd, Nat.reduceDiv, Int.reduceBEq, rules2, rulesX, rowsX]
      refine go_callI (w_spec_l01In _ _ _ _ hr7) rfl rfl (Nat.le_of_ble_eq_true rfl) ?_
      rcases Bool.eq_false_or_eq_true r7 with hb8 | hb8
      · rw [ite_t hb8] at h
        try simp only [hb5, hx6, hb8, Nat.reduceBEq, Nat.reduceMul, Nat.reduceAdd, Nat.reduceDiv, Int.reduceBEq, rules2, rulesX, rowsX]
        refine ih _ _ h _ ?_
        try simp only [hb5, hx6, hb8, Nat.reduceBEq, Nat.reduceMul, Nat.reduceAdd, Nat.reduceDiv, Int.reduceBEq, rules2, rulesX, rowsX, List.map_nil]
      · rw [ite_f hb8] at h
        try simp only [hb5, hx6, hb8, Nat.reduceBEq, Nat.reduceMul, Nat.reduceAdd, Nat.reduceDiv, Int.reduceBEq, rules2, rulesX, rowsX]
        cases h
        exact ⟨⟨rfl, trivial⟩, rfl⟩
    · rw [ite_f hb5] at h
      try simp only [hσ, hb5, c_spec_l13Table_1, c_spec_l13Table_n1, Nat.reduceBEq, Nat.reduceMul, Nat.reduceAdd, Nat.reduceDiv, Int.reduceBEq, rules2, rulesX, rowsX]
      cases h
      exact ⟨⟨rfl, trivial⟩, rfl⟩
theorem e_spec_l13Table : entry Tryz.prog 117 = some (c_spec_l13Table.strip, [4], 25) := by kernel_rfl
theorem w_spec_l13Table (a0 : Int) (a1 : List Int) (r : Bool) (h : f_spec_l13Table a0 a1 = some r) : FC Tryz.prog 117 [.sc (.int .i64 a0), .sc (.sl (List.map rI a1))] [.sc (.v (.bool r))] := by
  unfold f_spec_l13Table at h
  refine FC_go (σ := ⟨[(0, vc (aI a0)), (1, vc (aL (List.map rI a1)))], [], []⟩) mixed e_spec_l13Table rfl rfl ?_
  simp only [c_spec_l13Table]
  obtain ⟨r1, hr1, h⟩ := ob h
  try simp only [Nat.reduceBEq, Nat.reduceMul, Nat.reduceAdd, Nat.reduceDiv, Int.reduceBEq, rules2, rulesX, rowsX]
  refine go_callI (w_spec_l01In _ _ _ _ hr1) rfl rfl (Nat.le_of_ble_eq_true rfl) ?_
  rcases Bool.eq_false_or_eq_true r1 with hb2 | hb2
  · rw [ite_t hb2] at h
    rcases Bool.eq_false_or_eq_true ((a1.length : Int) != (64 : Int)) with hb3 | hb3
    · rw [ite_t hb3] at h
      try simp only [hb2, hb3, Nat.reduceBEq, Nat.reduceMul, Nat.reduceAdd, Nat.reduceDiv, Int.reduceBEq, rules2, rulesX, rowsX]
      cases h
      exact ⟨⟨rfl, trivial⟩, rfl⟩
    · rw [ite_f hb3] at h
      try simp only [hb2, hb3, Nat.reduceBEq, Nat.reduceMul, Nat.reduceAdd, Nat.reduceDiv, Int.reduceBEq, rules2, rulesX, rowsX]
      refine w_spec_l13Table_1 _ _ _ _ h _ ?_
      try simp only [hb2, hb3, Nat.reduceBEq, Nat.reduceMul, Nat.reduceAdd, Nat.reduceDiv, Int.reduceBEq, rules2, rulesX, rowsX, List.map_nil]
  · rw [ite_f hb2] at h
    try simp only [hb2, Nat.reduceBEq, Nat.reduceMul, Nat.reduceAdd, Nat.reduceDiv, Int.reduceBEq, rules2, rulesX, rowsX]
    cases h
    exact ⟨⟨rfl, trivial⟩, rfl⟩
/- 81: spec_CrewOk -/
def c_spec_CrewOk : ACode := (.seq (.reg [(none, .box 1 (S 0)), (none, .mv 2 (KB false))]) (.seq (.reg [(none, .faddr 3 (S 1) 0), (none, .load 4 (S 3) false 1), (none, .call 5 82 [(S 4), (K 0), (K 12)]), (none, .mv 6 (S 5)), (some (6, true), .faddr 7 (S 1) 1), (some (6, true), .load 8 (S 7) false 1), (some (6, true), .call 9 82 [(S 8), (K 0), (K 12)]), (none, .pick 10 (S 6) (S 9) (KB false)), (none, .mv 11 (S 10)), (some (11, true), .faddr 12 (S 1) 2), (some (11, true), .load 13 (S 12) false 1), (some (11, true), .faddr 14 (S 1) 3), (some (11, true), .load 15 (S 14) false 1), (some (11, true), .call 16 117 [(S 13), (S 15)]), (none, .pick 17 (S 11) (S 16) (KB false)), (none, .mv 2 (S 17))]) .ret))
theorem e_spec_CrewOk : entry Tryz.prog 81 = some (c_spec_CrewOk.strip, [2], 18) := by kernel_rfl
theorem w_spec_CrewOk (a0 : XCrew) (r : Bool) (h : f_spec_CrewOk a0 = some r) : FC Tryz.prog 81 [.ag (XCrew.row a0)] [.sc (.v (.bool r))] := by
  unfold f_spec_CrewOk at h
  refine FC_go (σ := ⟨[(0, va [aI a0.Tugs, aI a0.Pilots, aI a0.Rest, aL (List.map rI a0.Moves)])], [], []⟩) mixed e_spec_CrewOk rfl rfl ?_
  simp only [c_spec_CrewOk]
  try simp only [Nat.reduceBEq, Nat.reduceMul, Nat.reduceAdd, Nat.reduceDiv, Int.reduceBEq, rules2, rulesX, rowsX]
  refine go_bx rfl rfl rfl ?_
  obtain ⟨r1, hr1, h⟩ := ob h
  try simp only [Nat.reduceBEq, Nat.reduceMul, Nat.reduceAdd, Nat.reduceDiv, Int.reduceBEq, rules2, rulesX, rowsX]
  refine go_callI (w_spec_l01In _ _ _ _ hr1) rfl rfl (Nat.le_of_ble_eq_true rfl) ?_
  rcases Bool.eq_false_or_eq_true r1 with hb2 | hb2
  · rw [ite_t hb2] at h
    obtain ⟨r3, hr3, h⟩ := ob h
    try simp only [hb2, Nat.reduceBEq, Nat.reduceMul, Nat.reduceAdd, Nat.reduceDiv, Int.reduceBEq, rules2, rulesX, rowsX]
    refine go_callI (w_spec_l01In _ _ _ _ hr3) rfl rfl (Nat.le_of_ble_eq_true rfl) ?_
    rcases Bool.eq_false_or_eq_true r3 with hb4 | hb4
    · rw [ite_t hb4] at h
      obtain ⟨r5, hr5, h⟩ := ob h
      try simp only [hb2, hb4, Nat.reduceBEq, Nat.reduceMul, Nat.reduceAdd, Nat.reduceDiv, Int.reduceBEq, rules2, rulesX, rowsX]
      refine go_callI (w_spec_l13Table _ _ _ hr5) rfl rfl (Nat.le_of_ble_eq_true rfl) ?_
      try simp only [hb2, hb4, Nat.reduceBEq, Nat.reduceMul, Nat.reduceAdd, Nat.reduceDiv, Int.reduceBEq, rules2, rulesX, rowsX]
      cases h
      exact ⟨⟨rfl, trivial⟩, rfl⟩
    · rw [ite_f hb4] at h
      try simp only [hb2, hb4, Nat.reduceBEq, Nat.reduceMul, Nat.reduceAdd, Nat.reduceDiv, Int.reduceBEq, rules2, rulesX, rowsX]
      cases h
      exact ⟨⟨rfl, trivial⟩, rfl⟩
  · rw [ite_f hb2] at h
    try simp only [hb2, Nat.reduceBEq, Nat.reduceMul, Nat.reduceAdd, Nat.reduceDiv, Int.reduceBEq, rules2, rulesX, rowsX]
    cases h
    exact ⟨⟨rfl, trivial⟩, rfl⟩
/- 50: spec_HarbourOk -/
def c_spec_HarbourOk : ACode := (.seq (.reg [(none, .box 1 (S 0)), (none, .mv 2 (KB false))]) (.seq (.reg [(none, .faddr 3 (S 1) 0), (none, .load 4 (S 3) true 3), (none, .call 5 77 [(S 4)]), (none, .mv 6 (S 5)), (some (6, true), .faddr 7 (S 1) 3), (some (6, true), .load 8 (S 7) true 2), (some (6, true), .call 9 78 [(S 8)]), (none, .pick 10 (S 6) (S 9) (KB false)), (none, .mv 11 (S 10)), (some (11, true), .faddr 12 (S 1) 5), (some (11, true), .load 13 (S 12) false 1), (some (11, true), .call 14 79 [(S 13)]), (none, .pick 15 (S 11) (S 14) (KB false)), (none, .mv 16 (S 15)), (some (16, true), .faddr 17 (S 1) 6), (some (16, true), .load 18 (S 17) true 2), (some (16, true), .call 19 80 [(S 18)]), (none, .pick 20 (S 16) (S 19) (KB false)), (none, .mv 21 (S 20)), (some (21, true), .faddr 22 (S 1) 8), (some (21, true), .load 23 (S 22) true 4), (some (21, true), .call 24 81 [(S 23)]), (none, .pick 25 (S 21) (S 24) (KB false)), (none, .mv 2 (S 25))]) .ret))
theorem e_spec_HarbourOk : entry Tryz.prog 50 = some (c_spec_HarbourOk.strip, [2], 26) := by kernel_rfl
theorem w_spec_HarbourOk (a0 : XHarbour) (r : Bool) (h : f_spec_HarbourOk a0 = some r) : FC Tryz.prog 50 [.ag (XHarbour.row a0)] [.sc (.v (.bool r))] := by
  unfold f_spec_HarbourOk at h
  refine FC_go (σ := ⟨[(0, va [aI a0.Forecast.Tide.Mean, aL (List.map XPart.row a0.Forecast.Tide.Parts), aL (List.map XSurge.row a0.Forecast.Surges), aL (List.map XPoint.row a0.Chart.Points), aL (List.map XSegment.row a0.Chart.Segments), aL (List.map XShip.row a0.Fleet), aI a0.Regime.Gap, aB a0.Regime.NoMeet, aI a0.Crew.Tugs, aI a0.Crew.Pilots, aI a0.Crew.Rest, aL (List.map rI a0.Crew.Moves)])], [], []⟩) mixed e_spec_HarbourOk rfl rfl ?_
  simp only [c_spec_HarbourOk]
  try simp only [Nat.reduceBEq, Nat.reduceMul, Nat.reduceAdd, Nat.reduceDiv, Int.reduceBEq, rules2, rulesX, rowsX]
  refine go_bx rfl rfl rfl ?_
  obtain ⟨r1, hr1, h⟩ := ob h
  try simp only [Nat.reduceBEq, Nat.reduceMul, Nat.reduceAdd, Nat.reduceDiv, Int.reduceBEq, rules2, rulesX, rowsX]
  refine go_callI (w_spec_ForecastOk _ _ hr1) rfl rfl (Nat.le_of_ble_eq_true rfl) ?_
  rcases Bool.eq_false_or_eq_true r1 with hb2 | hb2
  · rw [ite_t hb2] at h
    obtain ⟨r3, hr3, h⟩ := ob h
    try simp only [hb2, Nat.reduceBEq, Nat.reduceMul, Nat.reduceAdd, Nat.reduceDiv, Int.reduceBEq, rules2, rulesX, rowsX]
    refine go_callI (w_spec_ChartOk _ _ hr3) rfl rfl (Nat.le_of_ble_eq_true rfl) ?_
    rcases Bool.eq_false_or_eq_true r3 with hb4 | hb4
    · rw [ite_t hb4] at h
      obtain ⟨r5, hr5, h⟩ := ob h
      try simp only [hb2, hb4, Nat.reduceBEq, Nat.reduceMul, Nat.reduceAdd, Nat.reduceDiv, Int.reduceBEq, rules2, rulesX, rowsX]
      refine go_callI (w_spec_FleetOk _ _ hr5) rfl rfl (Nat.le_of_ble_eq_true rfl) ?_
      rcases Bool.eq_false_or_eq_true r5 with hb6 | hb6
      · rw [ite_t hb6] at h
        obtain ⟨r7, hr7, h⟩ := ob h
        try simp only [hb2, hb4, hb6, Nat.reduceBEq, Nat.reduceMul, Nat.reduceAdd, Nat.reduceDiv, Int.reduceBEq, rules2, rulesX, rowsX]
        refine go_callI (w_spec_RegimeOk _ _ hr7) rfl rfl (Nat.le_of_ble_eq_true rfl) ?_
        rcases Bool.eq_false_or_eq_true r7 with hb8 | hb8
        · rw [ite_t hb8] at h
          obtain ⟨r9, hr9, h⟩ := ob h
          try simp only [hb2, hb4, hb6, hb8, Nat.reduceBEq, Nat.reduceMul, Nat.reduceAdd, Nat.reduceDiv, Int.reduceBEq, rules2, rulesX, rowsX]
          refine go_callI (w_spec_CrewOk _ _ hr9) rfl rfl (Nat.le_of_ble_eq_true rfl) ?_
          try simp only [hb2, hb4, hb6, hb8, Nat.reduceBEq, Nat.reduceMul, Nat.reduceAdd, Nat.reduceDiv, Int.reduceBEq, rules2, rulesX, rowsX]
          cases h
          exact ⟨⟨rfl, trivial⟩, rfl⟩
        · rw [ite_f hb8] at h
          try simp only [hb2, hb4, hb6, hb8, Nat.reduceBEq, Nat.reduceMul, Nat.reduceAdd, Nat.reduceDiv, Int.reduceBEq, rules2, rulesX, rowsX]
          cases h
          exact ⟨⟨rfl, trivial⟩, rfl⟩
      · rw [ite_f hb6] at h
        try simp only [hb2, hb4, hb6, Nat.reduceBEq, Nat.reduceMul, Nat.reduceAdd, Nat.reduceDiv, Int.reduceBEq, rules2, rulesX, rowsX]
        cases h
        exact ⟨⟨rfl, trivial⟩, rfl⟩
    · rw [ite_f hb4] at h
      try simp only [hb2, hb4, Nat.reduceBEq, Nat.reduceMul, Nat.reduceAdd, Nat.reduceDiv, Int.reduceBEq, rules2, rulesX, rowsX]
      cases h
      exact ⟨⟨rfl, trivial⟩, rfl⟩
  · rw [ite_f hb2] at h
    try simp only [hb2, Nat.reduceBEq, Nat.reduceMul, Nat.reduceAdd, Nat.reduceDiv, Int.reduceBEq, rules2, rulesX, rowsX]
    cases h
    exact ⟨⟨rfl, trivial⟩, rfl⟩
/- 51: spec_PicksOk -/
def c_spec_PicksOk_1 : ACode := .seq (.reg [(none, .keep [9, 10, 11] [] [])]) (.seq (.reg [(none, .bin 12 .lss (S 11) (S 10))]) (.seq (.cond (S 12) .skip (.exit 0)) (.seq (.block 1 (.seq (.reg [(none, .iaddr 13 (S 9) (S 11) 1), (none, .load 14 (S 13) false 1), (none, .mv 4 (S 14))]) (.seq (.reg [(none, .mv 15 (S 4)), (none, .call 16 82 [(S 15), (K 0), (K 1000)]), (none, .un 17 .not (S 16))]) (.cond (S 17) (.seq (.reg [(none, .mv 2 (KB false))]) .ret) .skip)))) (.reg [(none, .bin 18 .add (S 11) (K 1)), (none, .mv 11 (S 18))]))))
def c_spec_PicksOk_n1 : ACode := (.seq (.reg [(none, .mv 2 (KB true))]) .ret)
def c_spec_PicksOk : ACode := (.seq (.reg [(none, .mv 2 (KB false))]) (.seq (.seq (.reg [(none, .mv 5 (S 0)), (none, .len 6 (S 5)), (none, .call 7 82 [(S 6), (K 1), (K 48)]), (none, .un 8 .not (S 7))]) (.cond (S 8) (.seq (.reg [(none, .mv 2 (KB false))]) .ret) .skip)) (.seq (.seq (.reg [(none, .mv 9 (S 0)), (none, .len 10 (S 9)), (none, .mv 11 (K 0))]) (.block 0 (.loop c_spec_PicksOk_1))) c_spec_PicksOk_n1)))
theorem w_spec_PicksOk_1 (a0 : List Int) : ∀ (n : Nat) (v3 : Int) (r : Bool), f_spec_PicksOk_1 a0 n v3 = some r → ∀ σ : St, σ.kept [9, 10, 11] [] [] = ⟨[(9, vc (aL (List.map rI a0))), (10, vc (aI (a0.length : Int))), (11, vc (aI v3))], [], []⟩ → go Tryz.prog (.code (.loop c_spec_PicksOk_1) :: [.blk 0, .code c_spec_PicksOk_n1]) (Ret [2] [.sc (.v (.bool r))]) .normal (some σ) := by
  intro n
  induction n with
  | zero => intro _ r h; cases h
  | succ n ih =>
    intro v3 r h σ hσ
    rw [f_spec_PicksOk_1] at h
    refine go_round ?_
    rcases Bool.eq_false_or_eq_true (decide (v3 < (a0.length : Int))) with hb4 | hb4
    · rw [ite_t hb4] at h
      obtain ⟨x5, hx5, h⟩ := ob h
      obtain ⟨r6, hr6, h⟩ := ob h
      try simp only [hσ, hb4, hx5, c_spec_PicksOk_1, Nat.reduceBEq, Nat.reduceMul, Nat.reduceAdd, Nat.reduceDiv, Int.reduceBEq, rules2, rulesX, rowsX]
      refine go_callI (w_spec_l01In _ _ _ _ hr6) rfl rfl (Nat.le_of_ble_eq_true rfl) ?_
      rcases Bool.eq_false_or_eq_true r6 with hb7 | hb7
      · rw [ite_t hb7] at h
        try simp only [hb4, hx5, hb7, Nat.reduceBEq, Nat.reduceMul, Nat.reduceAdd, Nat.reduceDiv, Int.reduceBEq, rules2, rulesX, rowsX]
        refine ih _ _ h _ ?_
        try simp only [hb4, hx5, hb7, Nat.reduceBEq, Nat.reduceMul, Nat.reduceAdd, Nat.reduceDiv, Int.reduceBEq, rules2, rulesX, rowsX, List.map_nil]
      · rw [ite_f hb7] at h
        try simp only [hb4, hx5, hb7, Nat.reduceBEq, Nat.reduceMul, Nat.reduceAdd, Nat.reduceDiv, Int.reduceBEq, rules2, rulesX, rowsX]
        cases h
        exact ⟨⟨rfl, trivial⟩, rfl⟩
    · rw [ite_f hb4] at h
      try simp only [hσ, hb4, c_spec_PicksOk_1, c_spec_PicksOk_n1, Nat.reduceBEq, Nat.reduceMul, Nat.reduceAdd, Nat.reduceDiv, Int.reduceBEq, rules2, rulesX, rowsX]
      cases h
      exact ⟨⟨rfl, trivial⟩, rfl⟩
theorem e_spec_PicksOk : entry Tryz.prog 51 = some (c_spec_PicksOk.strip, [2], 19) := by kernel_rfl
theorem w_spec_PicksOk (a0 : List Int) (r : Bool) (h : f_spec_PicksOk a0 = some r) : FC Tryz.prog 51 [.sc (.sl (List.map rI a0))] [.sc (.v (.bool r))] := by
  unfold f_spec_PicksOk at h
  refine FC_go (σ := ⟨[(0, vc (aL (List.map rI a0)))], [], []⟩) mixed e_spec_PicksOk rfl rfl ?_
  simp only [c_spec_PicksOk]
  obtain ⟨r1, hr1, h⟩ := ob h
  try simp only [Nat.reduceBEq, Nat.reduceMul, Nat.reduceAdd, Nat.reduceDiv, Int.reduceBEq, rules2, rulesX, rowsX]
  refine go_callI (w_spec_l01In _ _ _ _ hr1) rfl rfl (Nat.le_of_ble_eq_true rfl) ?_
  rcases Bool.eq_false_or_eq_true r1 with hb2 | hb2
  · rw [ite_t hb2] at h
    try simp only [hb2, Nat.reduceBEq, Nat.reduceMul, Nat.reduceAdd, Nat.reduceDiv, Int.reduceBEq, rules2, rulesX, rowsX]
    refine w_spec_PicksOk_1 _ _ _ _ h _ ?_
    try simp only [hb2, Nat.reduceBEq, Nat.reduceMul, Nat.reduceAdd, Nat.reduceDiv, Int.reduceBEq, rules2, rulesX, rowsX, List.map_nil]
  · rw [ite_f hb2] at h
    try simp only [hb2, Nat.reduceBEq, Nat.reduceMul, Nat.reduceAdd, Nat.reduceDiv, Int.reduceBEq, rules2, rulesX, rowsX]
    cases h
    exact ⟨⟨rfl, trivial⟩, rfl⟩
/- 118: spec_l06Minutes -/
def c_spec_l06Minutes : ACode := (.seq (.reg [(none, .box 2 (S 0)), (none, .box 3 (S 1)), (none, .mv 4 (K 0))]) (.seq (.seq (.reg [(none, .faddr 5 (S 3) 5), (none, .load 6 (S 5) false 1)]) (.cond (S 6) (.seq (.reg [(none, .faddr 7 (S 2) 3), (none, .load 8 (S 7) false 1), (none, .bin 9 .mul (K 2) (S 8)), (none, .mv 4 (S 9))]) .ret) .skip)) (.seq (.reg [(none, .faddr 10 (S 2) 3), (none, .load 11 (S 10) false 1), (none, .mv 4 (S 11))]) .ret)))
theorem e_spec_l06Minutes : entry Tryz.prog 118 = some (c_spec_l06Minutes.strip, [4], 12) := by kernel_rfl
theorem w_spec_l06Minutes (a0 : XSegment) (a1 : XShip) (r : Int) (h : f_spec_l06Minutes a0 a1 = some r) : FC Tryz.prog 118 [.ag (XSegment.row a0), .ag (XShip.row a1)] [.sc (.v (.int .i64 r))] := by
  unfold f_spec_l06Minutes at h
  refine FC_go (σ := ⟨[(0, va [aI a0.A, aI a0.B, aI a0.Depth, aI a0.Minutes, aB a0.Meet]), (1, va [aS a1.Name, aI a1.Length, aI a1.Draught, aI a1.Line, aI a1.Tugs, aB a1.Slow])], [], []⟩) mixed e_spec_l06Minutes rfl rfl ?_
  simp only [c_spec_l06Minutes]
  try simp only [Nat.reduceBEq, Nat.reduceMul, Nat.reduceAdd, Nat.reduceDiv, Int.reduceBEq, rules2, rulesX, rowsX]
  refine go_bx rfl rfl rfl ?_
  try simp only [Nat.reduceBEq, Nat.reduceMul, Nat.reduceAdd, Nat.reduceDiv, Int.reduceBEq, rules2, rulesX, rowsX]
  refine go_bx rfl rfl rfl ?_
  rcases Bool.eq_false_or_eq_true a1.Slow with hb1 | hb1
  · rw [ite_t hb1] at h
    try simp only [hb1, Nat.reduceBEq, Nat.reduceMul, Nat.reduceAdd, Nat.reduceDiv, Int.reduceBEq, rules2, rulesX, rowsX]
    cases h
    exact ⟨⟨rfl, trivial⟩, rfl⟩
  · rw [ite_f hb1] at h
    try simp only [hb1, Nat.reduceBEq, Nat.reduceMul, Nat.reduceAdd, Nat.reduceDiv, Int.reduceBEq, rules2, rulesX, rowsX]
    cases h
    exact ⟨⟨rfl, trivial⟩, rfl⟩
/- 83: spec_MinutesOn -/
def c_spec_MinutesOn : ACode := (.seq (.reg [(none, .box 3 (S 0)), (none, .box 5 (S 2)), (none, .mv 6 (K 0))]) (.seq (.seq (.reg [(none, .load 7 (S 3) true 2), (none, .call 8 78 [(S 7)]), (none, .un 9 .not (S 8)), (none, .mv 10 (S 9)), (some (10, false), .load 11 (S 5) true 6), (some (10, false), .call 12 109 [(S 11)]), (some (10, false), .un 13 .not (S 12)), (none, .pick 14 (S 10) (KB true) (S 13)), (none, .mv 15 (S 14)), (some (15, false), .mv 16 (S 1)), (some (15, false), .faddr 17 (S 3) 1), (some (15, false), .load 18 (S 17) false 1), (some (15, false), .len 19 (S 18)), (some (15, false), .bin 20 .sub (S 19) (K 1)), (some (15, false), .call 21 82 [(S 16), (K 0), (S 20)]), (some (15, false), .un 22 .not (S 21)), (none, .pick 23 (S 15) (KB true) (S 22))]) (.cond (S 23) (.seq (.reg [(none, .mv 6 (K 0))]) .ret) .skip)) (.seq (.drw [(some [], (none, .faddr 24 (S 3) 1)), (some [], (none, .load 25 (S 24) false 1)), (some [], (none, .mv 26 (S 1))), (some [], (none, .iaddr 27 (S 25) (S 26) 5)), (some [], (none, .load 28 (S 27) true 5)), (some [], (none, .load 29 (S 5) true 6)), (some [], (none, .call 30 118 [(S 28), (S 29)])), (some [], (none, .mv 6 (S 30)))]) .ret)))
theorem e_spec_MinutesOn : entry Tryz.prog 83 = some (c_spec_MinutesOn.strip, [6], 31) := by kernel_rfl
theorem w_spec_MinutesOn (a0 : XChart) (a1 : Int) (a2 : XShip) (r : Int) (h : f_spec_MinutesOn a0 a1 a2 = some r) : FC Tryz.prog 83 [.ag (XChart.row a0), .sc (.int .i64 a1), .ag (XShip.row a2)] [.sc (.v (.int .i64 r))] := by
  unfold f_spec_MinutesOn at h
  refine FC_go (σ := ⟨[(0, va [aL (List.map XPoint.row a0.Points), aL (List.map XSegment.row a0.Segments)]), (1, vc (aI a1)), (2, va [aS a2.Name, aI a2.Length, aI a2.Draught, aI a2.Line, aI a2.Tugs, aB a2.Slow])], [], []⟩) mixed e_spec_MinutesOn rfl rfl ?_
  simp only [c_spec_MinutesOn]
  try simp only [Nat.reduceBEq, Nat.reduceMul, Nat.reduceAdd, Nat.reduceDiv, Int.reduceBEq, rules2, rulesX, rowsX]
  refine go_bx rfl rfl rfl ?_
  try simp only [Nat.reduceBEq, Nat.reduceMul, Nat.reduceAdd, Nat.reduceDiv, Int.reduceBEq, rules2, rulesX, rowsX]
  refine go_bx rfl rfl rfl ?_
  obtain ⟨r1, hr1, h⟩ := ob h
  try simp only [Nat.reduceBEq, Nat.reduceMul, Nat.reduceAdd, Nat.reduceDiv, Int.reduceBEq, rules2, rulesX, rowsX]
  refine go_callI (w_spec_ChartOk _ _ hr1) rfl rfl (Nat.le_of_ble_eq_true rfl) ?_
  rcases Bool.eq_false_or_eq_true r1 with hb2 | hb2
  · rw [ite_t hb2] at h
    obtain ⟨r3, hr3, h⟩ := ob h
    try simp only [hb2, Nat.reduceBEq, Nat.reduceMul, Nat.reduceAdd, Nat.reduceDiv, Int.reduceBEq, rules2, rulesX, rowsX]
    refine go_callI (w_spec_ShipOk _ _ hr3) rfl rfl (Nat.le_of_ble_eq_true rfl) ?_
    rcases Bool.eq_false_or_eq_true r3 with hb4 | hb4
    · rw [ite_t hb4] at h
      obtain ⟨r5, hr5, h⟩ := ob h
      try simp only [hb2, hb4, Nat.reduceBEq, Nat.reduceMul, Nat.reduceAdd, Nat.reduceDiv, Int.reduceBEq, rules2, rulesX, rowsX]
      refine go_callI (w_spec_l01In _ _ _ _ hr5) rfl rfl (Nat.le_of_ble_eq_true rfl) ?_
      rcases Bool.eq_false_or_eq_true r5 with hb6 | hb6
      · rw [ite_t hb6] at h
        try simp only [hb2, hb4, hb6, Nat.reduceBEq, Nat.reduceMul, Nat.reduceAdd, Nat.reduceDiv, Int.reduceBEq, rules2, rulesX, rowsX]
        refine go_fr_of rfl ?_
        obtain ⟨x7, hx7, h⟩ := ob h
        obtain ⟨r8, hr8, h⟩ := ob h
        try simp only [hb2, hb4, hb6, hx7, Nat.reduceBEq, Nat.reduceMul, Nat.reduceAdd, Nat.reduceDiv, Int.reduceBEq, rules2, rulesX, rowsX]
        refine go_dcallI (w_spec_l06Minutes _ _ _ hr8) rfl rfl (Nat.le_of_ble_eq_true rfl) ?_
        try simp only [hb2, hb4, hb6, hx7, Nat.reduceBEq, Nat.reduceMul, Nat.reduceAdd, Nat.reduceDiv, Int.reduceBEq, rules2, rulesX, rowsX]
        cases h
        exact ⟨⟨rfl, trivial⟩, rfl⟩
      · rw [ite_f hb6] at h
        try simp only [hb2, hb4, hb6, Nat.reduceBEq, Nat.reduceMul, Nat.reduceAdd, Nat.reduceDiv, Int.reduceBEq, rules2, rulesX, rowsX]
        cases h
        exact ⟨⟨rfl, trivial⟩, rfl⟩
    · rw [ite_f hb4] at h
      try simp only [hb2, hb4, Nat.reduceBEq, Nat.reduceMul, Nat.reduceAdd, Nat.reduceDiv, Int.reduceBEq, rules2, rulesX, rowsX]
      cases h
      exact ⟨⟨rfl, trivial⟩, rfl⟩
  · rw [ite_f hb2] at h
    try simp only [hb2, Nat.reduceBEq, Nat.reduceMul, Nat.reduceAdd, Nat.reduceDiv, Int.reduceBEq, rules2, rulesX, rowsX]
    cases h
    exact ⟨⟨rfl, trivial⟩, rfl⟩
/- 52: spec_PassageOk -/
def c_spec_PassageOk : ACode := (.seq (.reg [(none, .box 3 (S 0)), (none, .box 5 (S 2)), (none, .mv 6 (KB false))]) (.seq (.seq (.reg [(none, .load 7 (S 3) true 2), (none, .call 8 78 [(S 7)]), (none, .un 9 .not (S 8)), (none, .mv 10 (S 9)), (some (10, false), .mv 11 (S 1)), (some (10, false), .call 12 79 [(S 11)]), (some (10, false), .un 13 .not (S 12)), (none, .pick 14 (S 10) (KB true) (S 13)), (none, .mv 15 (S 14)), (some (15, false), .faddr 16 (S 5) 0), (some (15, false), .load 17 (S 16) false 1), (some (15, false), .mv 18 (S 1)), (some (15, false), .len 19 (S 18)), (some (15, false), .bin 20 .sub (S 19) (K 1)), (some (15, false), .call 21 82 [(S 17), (K 0), (S 20)]), (some (15, false), .un 22 .not (S 21)), (none, .pick 23 (S 15) (KB true) (S 22)), (none, .mv 24 (S 23)), (some (24, false), .faddr 25 (S 5) 1), (some (24, false), .load 26 (S 25) false 1), (some (24, false), .faddr 27 (S 3) 1), (some (24, false), .load 28 (S 27) false 1), (some (24, false), .len 29 (S 28)), (some (24, false), .bin 30 .sub (S 29) (K 1)), (some (24, false), .call 31 82 [(S 26), (K 0), (S 30)]), (some (24, false), .un 32 .not (S 31)), (none, .pick 33 (S 24) (KB true) (S 32)), (none, .mv 34 (S 33)), (some (34, false), .faddr 35 (S 5) 3), (some (34, false), .load 36 (S 35) false 1), (some (34, false), .call 37 82 [(S 36), (K 0), (K 2880)]), (some (34, false), .un 38 .not (S 37)), (none, .pick 39 (S 34) (KB true) (S 38))]) (.cond (S 39) (.seq (.reg [(none, .mv 6 (KB false))]) .ret) .skip)) (.seq (.drw [(some [52], (none, .faddr 40 (S 5) 4)), (some [52], (none, .load 41 (S 40) false 1)), (some [52], (none, .faddr 42 (S 5) 3)), (some [52], (none, .load 43 (S 42) false 1)), (some [], (none, .load 44 (S 3) true 2)), (some [], (none, .faddr 45 (S 5) 1)), (some [], (none, .load 46 (S 45) false 1)), (some [], (none, .mv 47 (S 1))), (some [], (none, .faddr 48 (S 5) 0)), (some [], (none, .load 49 (S 48) false 1)), (some [], (none, .iaddr 50 (S 47) (S 49) 6)), (some [], (none, .load 51 (S 50) true 6)), (some [], (none, .call 52 83 [(S 44), (S 46), (S 51)])), (some [], (none, .bin 53 .add (S 43) (S 52))), (some [], (none, .bin 54 .eql (S 41) (S 53))), (some [], (none, .mv 55 (S 54))), (some [], (some (55, true), .faddr 56 (S 5) 4)), (some [], (some (55, true), .load 57 (S 56) false 1)), (some [], (some (55, true), .bin 58 .leq (S 57) (K 2880))), (some [], (none, .pick 59 (S 55) (S 58) (KB false))), (some [], (none, .mv 6 (S 59)))]) .ret)))
theorem e_spec_PassageOk : entry Tryz.prog 52 = some (c_spec_PassageOk.strip, [6], 60) := by kernel_rfl
theorem w_spec_PassageOk (a0 : XChart) (a1 : List XShip) (a2 : XPassage) (r : Bool) (h : f_spec_PassageOk a0 a1 a2 = some r) : FC Tryz.prog 52 [.ag (XChart.row a0), .sc (.sl (List.map XShip.row a1)), .ag (XPassage.row a2)] [.sc (.v (.bool r))] := by
  unfold f_spec_PassageOk at h
  refine FC_go (σ := ⟨[(0, va [aL (List.map XPoint.row a0.Points), aL (List.map XSegment.row a0.Segments)]), (1, vc (aL (List.map XShip.row a1))), (2, va [aI a2.Ship, aI a2.Segment, aB a2.Toward, aI a2.Start, aI a2.End])], [], []⟩) mixed e_spec_PassageOk rfl rfl ?_
  simp only [c_spec_PassageOk]
  try simp only [Nat.reduceBEq, Nat.reduceMul, Nat.reduceAdd, Nat.reduceDiv, Int.reduceBEq, rules2, rulesX, rowsX]
  refine go_bx rfl rfl rfl ?_
  try simp only [Nat.reduceBEq, Nat.reduceMul, Nat.reduceAdd, Nat.reduceDiv, Int.reduceBEq, rules2, rulesX, rowsX]
  refine go_bx rfl rfl rfl ?_
  obtain ⟨r1, hr1, h⟩ := ob h
  try simp only [Nat.reduceBEq, Nat.reduceMul, Nat.reduceAdd, Nat.reduceDiv, Int.reduceBEq, rules2, rulesX, rowsX]
  refine go_callI (w_spec_ChartOk _ _ hr1) rfl rfl (Nat.le_of_ble_eq_true rfl) ?_
  rcases Bool.eq_false_or_eq_true r1 with hb2 | hb2
  · rw [ite_t hb2] at h
    obtain ⟨r3, hr3, h⟩ := ob h
    try simp only [hb2, Nat.reduceBEq, Nat.reduceMul, Nat.reduceAdd, Nat.reduceDiv, Int.reduceBEq, rules2, rulesX, rowsX]
    refine go_callI (w_spec_FleetOk _ _ hr3) rfl rfl (Nat.le_of_ble_eq_true rfl) ?_
    rcases Bool.eq_false_or_eq_true r3 with hb4 | hb4
    · rw [ite_t hb4] at h
      obtain ⟨r5, hr5, h⟩ := ob h
      try simp only [hb2, hb4, Nat.reduceBEq, Nat.reduceMul, Nat.reduceAdd, Nat.reduceDiv, Int.reduceBEq, rules2, rulesX, rowsX]
      refine go_callI (w_spec_l01In _ _ _ _ hr5) rfl rfl (Nat.le_of_ble_eq_true rfl) ?_
      rcases Bool.eq_false_or_eq_true r5 with hb6 | hb6
      · rw [ite_t hb6] at h
        obtain ⟨r7, hr7, h⟩ := ob h
        try simp only [hb2, hb4, hb6, Nat.reduceBEq, Nat.reduceMul, Nat.reduceAdd, Nat.reduceDiv, Int.reduceBEq, rules2, rulesX, rowsX]
        refine go_callI (w_spec_l01In _ _ _ _ hr7) rfl rfl (Nat.le_of_ble_eq_true rfl) ?_
        rcases Bool.eq_false_or_eq_true r7 with hb8 | hb8
        · rw [ite_t hb8] at h
          obtain ⟨r9, hr9, h⟩ := ob h
          try simp only [hb2, hb4, hb6, hb8, Nat.reduceBEq, Nat.reduceMul, Nat.reduceAdd, Nat.reduceDiv, Int.reduceBEq, rules2, rulesX, rowsX]
          refine go_callI (w_spec_l01In _ _ _ _ hr9) rfl rfl (Nat.le_of_ble_eq_true rfl) ?_
          rcases Bool.eq_false_or_eq_true r9 with hb10 | hb10
          · rw [ite_t hb10] at h
            try simp only [hb2, hb4, hb6, hb8, hb10, Nat.reduceBEq, Nat.reduceMul, Nat.reduceAdd, Nat.reduceDiv, Int.reduceBEq, rules2, rulesX, rowsX]
            refine go_fr_of rfl ?_
            obtain ⟨x11, hx11, h⟩ := ob h
            obtain ⟨r12, hr12, h⟩ := ob h
            try simp only [hb2, hb4, hb6, hb8, hb10, hx11, Nat.reduceBEq, Nat.reduceMul, Nat.reduceAdd, Nat.reduceDiv, Int.reduceBEq, rules2, rulesX, rowsX]
            refine go_dcallI (w_spec_MinutesOn _ _ _ _ hr12) rfl rfl (Nat.le_of_ble_eq_true rfl) ?_
            rcases Bool.eq_false_or_eq_true (a2.End == (IntKind.i64.wrap (a2.Start + r12))) with hb13 | hb13
            · rw [ite_t hb13] at h
              try simp only [hb2, hb4, hb6, hb8, hb10, hx11, hb13, Nat.reduceBEq, Nat.reduceMul, Nat.reduceAdd, Nat.reduceDiv, Int.reduceBEq, rules2, rulesX, rowsX]
              cases h
              exact ⟨⟨rfl, trivial⟩, rfl⟩
            · rw [ite_f hb13] at h
              try simp only [hb2, hb4, hb6, hb8, hb10, hx11, hb13, Nat.reduceBEq, Nat.reduceMul, Nat.reduceAdd, Nat.reduceDiv, Int.reduceBEq, rules2, rulesX, rowsX]
              cases h
              exact ⟨⟨rfl, trivial⟩, rfl⟩
          · rw [ite_f hb10] at h
            try simp only [hb2, hb4, hb6, hb8, hb10, Nat.reduceBEq, Nat.reduceMul, Nat.reduceAdd, Nat.reduceDiv, Int.reduceBEq, rules2, rulesX, rowsX]
            cases h
            exact ⟨⟨rfl, trivial⟩, rfl⟩
        · rw [ite_f hb8] at h
          try simp only [hb2, hb4, hb6, hb8, Nat.reduceBEq, Nat.reduceMul, Nat.reduceAdd, Nat.reduceDiv, Int.reduceBEq, rules2, rulesX, rowsX]
          cases h
          exact ⟨⟨rfl, trivial⟩, rfl⟩
      · rw [ite_f hb6] at h
        try simp only [hb2, hb4, hb6, Nat.reduceBEq, Nat.reduceMul, Nat.reduceAdd, Nat.reduceDiv, Int.reduceBEq, rules2, rulesX, rowsX]
        cases h
        exact ⟨⟨rfl, trivial⟩, rfl⟩
    · rw [ite_f hb4] at h
      try simp only [hb2, hb4, Nat.reduceBEq, Nat.reduceMul, Nat.reduceAdd, Nat.reduceDiv, Int.reduceBEq, rules2, rulesX, rowsX]
      cases h
      exact ⟨⟨rfl, trivial⟩, rfl⟩
  · rw [ite_f hb2] at h
    try simp only [hb2, Nat.reduceBEq, Nat.reduceMul, Nat.reduceAdd, Nat.reduceDiv, Int.reduceBEq, rules2, rulesX, rowsX]
    cases h
    exact ⟨⟨rfl, trivial⟩, rfl⟩
/- 73: spec_l07Ok -/
def c_spec_l07Ok : ACode := (.seq (.reg [(none, .box 3 (S 0)), (none, .box 5 (S 2)), (none, .mv 6 (KB false))]) (.seq (.reg [(none, .load 7 (S 3) true 2), (none, .call 8 78 [(S 7)]), (none, .mv 9 (S 8)), (some (9, true), .load 10 (S 5) true 6), (some (9, true), .call 11 109 [(S 10)]), (none, .pick 12 (S 9) (S 11) (KB false)), (none, .mv 13 (S 12)), (some (13, true), .mv 14 (S 1)), (some (13, true), .faddr 15 (S 3) 1), (some (13, true), .load 16 (S 15) false 1), (some (13, true), .len 17 (S 16)), (some (13, true), .bin 18 .sub (S 17) (K 1)), (some (13, true), .call 19 82 [(S 14), (K 0), (S 18)]), (none, .pick 20 (S 13) (S 19) (KB false)), (none, .mv 6 (S 20))]) .ret))
theorem e_spec_l07Ok : entry Tryz.prog 73 = some (c_spec_l07Ok.strip, [6], 21) := by kernel_rfl
theorem w_spec_l07Ok (a0 : XChart) (a1 : Int) (a2 : XShip) (r : Bool) (h : f_spec_l07Ok a0 a1 a2 = some r) : FC Tryz.prog 73 [.ag (XChart.row a0), .sc (.int .i64 a1), .ag (XShip.row a2)] [.sc (.v (.bool r))] := by
  unfold f_spec_l07Ok at h
  refine FC_go (σ := ⟨[(0, va [aL (List.map XPoint.row a0.Points), aL (List.map XSegment.row a0.Segments)]), (1, vc (aI a1)), (2, va [aS a2.Name, aI a2.Length, aI a2.Draught, aI a2.Line, aI a2.Tugs, aB a2.Slow])], [], []⟩) mixed e_spec_l07Ok rfl rfl ?_
  simp only [c_spec_l07Ok]
  try simp only [Nat.reduceBEq, Nat.reduceMul, Nat.reduceAdd, Nat.reduceDiv, Int.reduceBEq, rules2, rulesX, rowsX]
  refine go_bx rfl rfl rfl ?_
  try simp only [Nat.reduceBEq, Nat.reduceMul, Nat.reduceAdd, Nat.reduceDiv, Int.reduceBEq, rules2, rulesX, rowsX]
  refine go_bx rfl rfl rfl ?_
  obtain ⟨r1, hr1, h⟩ := ob h
  try simp only [Nat.reduceBEq, Nat.reduceMul, Nat.reduceAdd, Nat.reduceDiv, Int.reduceBEq, rules2, rulesX, rowsX]
  refine go_callI (w_spec_ChartOk _ _ hr1) rfl rfl (Nat.le_of_ble_eq_true rfl) ?_
  rcases Bool.eq_false_or_eq_true r1 with hb2 | hb2
  · rw [ite_t hb2] at h
    obtain ⟨r3, hr3, h⟩ := ob h
    try simp only [hb2, Nat.reduceBEq, Nat.reduceMul, Nat.reduceAdd, Nat.reduceDiv, Int.reduceBEq, rules2, rulesX, rowsX]
    refine go_callI (w_spec_ShipOk _ _ hr3) rfl rfl (Nat.le_of_ble_eq_true rfl) ?_
    rcases Bool.eq_false_or_eq_true r3 with hb4 | hb4
    · rw [ite_t hb4] at h
      obtain ⟨r5, hr5, h⟩ := ob h
      try simp only [hb2, hb4, Nat.reduceBEq, Nat.reduceMul, Nat.reduceAdd, Nat.reduceDiv, Int.reduceBEq, rules2, rulesX, rowsX]
      refine go_callI (w_spec_l01In _ _ _ _ hr5) rfl rfl (Nat.le_of_ble_eq_true rfl) ?_
      try simp only [hb2, hb4, Nat.reduceBEq, Nat.reduceMul, Nat.reduceAdd, Nat.reduceDiv, Int.reduceBEq, rules2, rulesX, rowsX]
      cases h
      exact ⟨⟨rfl, trivial⟩, rfl⟩
    · rw [ite_f hb4] at h
      try simp only [hb2, hb4, Nat.reduceBEq, Nat.reduceMul, Nat.reduceAdd, Nat.reduceDiv, Int.reduceBEq, rules2, rulesX, rowsX]
      cases h
      exact ⟨⟨rfl, trivial⟩, rfl⟩
  · rw [ite_f hb2] at h
    try simp only [hb2, Nat.reduceBEq, Nat.reduceMul, Nat.reduceAdd, Nat.reduceDiv, Int.reduceBEq, rules2, rulesX, rowsX]
    cases h
    exact ⟨⟨rfl, trivial⟩, rfl⟩
/- 110: spec_SquatOf -/
def c_spec_SquatOf : ACode := (.seq (.reg [(none, .box 1 (S 0)), (none, .mv 2 (K 0))]) (.seq (.seq (.reg [(none, .load 3 (S 1) true 6), (none, .call 4 109 [(S 3)]), (none, .un 5 .not (S 4))]) (.cond (S 5) (.seq (.reg [(none, .mv 2 (K 0))]) .ret) .skip)) (.seq (.seq (.reg [(none, .faddr 6 (S 1) 5), (none, .load 7 (S 6) false 1)]) (.cond (S 7) (.seq (.reg [(none, .faddr 8 (S 1) 2), (none, .load 9 (S 8) false 1), (none, .bin 10 .quo (S 9) (K 50)), (none, .mv 2 (S 10))]) .ret) .skip)) (.seq (.reg [(none, .faddr 11 (S 1) 2), (none, .load 12 (S 11) false 1), (none, .bin 13 .quo (S 12) (K 20)), (none, .mv 2 (S 13))]) .ret))))
theorem e_spec_SquatOf : entry Tryz.prog 110 = some (c_spec_SquatOf.strip, [2], 14) := by kernel_rfl
theorem w_spec_SquatOf (a0 : XShip) (r : Int) (h : f_spec_SquatOf a0 = some r) : FC Tryz.prog 110 [.ag (XShip.row a0)] [.sc (.v (.int .i64 r))] := by
  unfold f_spec_SquatOf at h
  refine FC_go (σ := ⟨[(0, va [aS a0.Name, aI a0.Length, aI a0.Draught, aI a0.Line, aI a0.Tugs, aB a0.Slow])], [], []⟩) mixed e_spec_SquatOf rfl rfl ?_
  simp only [c_spec_SquatOf]
  try simp only [Nat.reduceBEq, Nat.reduceMul, Nat.reduceAdd, Nat.reduceDiv, Int.reduceBEq, rules2, rulesX, rowsX]
  refine go_bx rfl rfl rfl ?_
  obtain ⟨r1, hr1, h⟩ := ob h
  try simp only [Nat.reduceBEq, Nat.reduceMul, Nat.reduceAdd, Nat.reduceDiv, Int.reduceBEq, rules2, rulesX, rowsX]
  refine go_callI (w_spec_ShipOk _ _ hr1) rfl rfl (Nat.le_of_ble_eq_true rfl) ?_
  rcases Bool.eq_false_or_eq_true r1 with hb2 | hb2
  · rw [ite_t hb2] at h
    rcases Bool.eq_false_or_eq_true a0.Slow with hb3 | hb3
    · rw [ite_t hb3] at h
      try simp only [hb2, hb3, Nat.reduceBEq, Nat.reduceMul, Nat.reduceAdd, Nat.reduceDiv, Int.reduceBEq, rules2, rulesX, rowsX]
      cases h
      exact ⟨⟨rfl, trivial⟩, rfl⟩
    · rw [ite_f hb3] at h
      try simp only [hb2, hb3, Nat.reduceBEq, Nat.reduceMul, Nat.reduceAdd, Nat.reduceDiv, Int.reduceBEq, rules2, rulesX, rowsX]
      cases h
      exact ⟨⟨rfl, trivial⟩, rfl⟩
  · rw [ite_f hb2] at h
    try simp only [hb2, Nat.reduceBEq, Nat.reduceMul, Nat.reduceAdd, Nat.reduceDiv, Int.reduceBEq, rules2, rulesX, rowsX]
    cases h
    exact ⟨⟨rfl, trivial⟩, rfl⟩
/- 74: spec_NeedOf -/
def c_spec_NeedOf : ACode := (.seq (.reg [(none, .box 1 (S 0)), (none, .mv 2 (K 0))]) (.seq (.seq (.reg [(none, .load 3 (S 1) true 6), (none, .call 4 109 [(S 3)]), (none, .un 5 .not (S 4))]) (.cond (S 5) (.seq (.reg [(none, .mv 2 (K 0))]) .ret) .skip)) (.seq (.drw [(some [9], (none, .faddr 6 (S 1) 2)), (some [9], (none, .load 7 (S 6) false 1)), (some [], (none, .load 8 (S 1) true 6)), (some [], (none, .call 9 110 [(S 8)])), (some [], (none, .bin 10 .add (S 7) (S 9))), (some [], (none, .bin 11 .add (S 10) (K 50))), (some [], (none, .mv 2 (S 11)))]) .ret)))
theorem e_spec_NeedOf : entry Tryz.prog 74 = some (c_spec_NeedOf.strip, [2], 12) := by kernel_rfl
theorem w_spec_NeedOf (a0 : XShip) (r : Int) (h : f_spec_NeedOf a0 = some r) : FC Tryz.prog 74 [.ag (XShip.row a0)] [.sc (.v (.int .i64 r))] := by
  unfold f_spec_NeedOf at h
  refine FC_go (σ := ⟨[(0, va [aS a0.Name, aI a0.Length, aI a0.Draught, aI a0.Line, aI a0.Tugs, aB a0.Slow])], [], []⟩) mixed e_spec_NeedOf rfl rfl ?_
  simp only [c_spec_NeedOf]
  try simp only [Nat.reduceBEq, Nat.reduceMul, Nat.reduceAdd, Nat.reduceDiv, Int.reduceBEq, rules2, rulesX, rowsX]
  refine go_bx rfl rfl rfl ?_
  obtain ⟨r1, hr1, h⟩ := ob h
  try simp only [Nat.reduceBEq, Nat.reduceMul, Nat.reduceAdd, Nat.reduceDiv, Int.reduceBEq, rules2, rulesX, rowsX]
  refine go_callI (w_spec_ShipOk _ _ hr1) rfl rfl (Nat.le_of_ble_eq_true rfl) ?_
  rcases Bool.eq_false_or_eq_true r1 with hb2 | hb2
  · rw [ite_t hb2] at h
    try simp only [hb2, Nat.reduceBEq, Nat.reduceMul, Nat.reduceAdd, Nat.reduceDiv, Int.reduceBEq, rules2, rulesX, rowsX]
    refine go_fr_of rfl ?_
    obtain ⟨r3, hr3, h⟩ := ob h
    try simp only [hb2, Nat.reduceBEq, Nat.reduceMul, Nat.reduceAdd, Nat.reduceDiv, Int.reduceBEq, rules2, rulesX, rowsX]
    refine go_dcallI (w_spec_SquatOf _ _ hr3) rfl rfl (Nat.le_of_ble_eq_true rfl) ?_
    try simp only [hb2, Nat.reduceBEq, Nat.reduceMul, Nat.reduceAdd, Nat.reduceDiv, Int.reduceBEq, rules2, rulesX, rowsX]
    cases h
    exact ⟨⟨rfl, trivial⟩, rfl⟩
  · rw [ite_f hb2] at h
    try simp only [hb2, Nat.reduceBEq, Nat.reduceMul, Nat.reduceAdd, Nat.reduceDiv, Int.reduceBEq, rules2, rulesX, rowsX]
    cases h
    exact ⟨⟨rfl, trivial⟩, rfl⟩
/- 40: spec_LevelFor -/
def c_spec_LevelFor : ACode := (.seq (.reg [(none, .box 3 (S 0)), (none, .box 5 (S 2)), (none, .mv 6 (K 0))]) (.seq (.seq (.reg [(none, .load 7 (S 3) true 2), (none, .mv 8 (S 1)), (none, .load 9 (S 5) true 6), (none, .call 10 73 [(S 7), (S 8), (S 9)]), (none, .un 11 .not (S 10))]) (.cond (S 11) (.seq (.reg [(none, .mv 6 (K 0))]) .ret) .skip)) (.seq (.drw [(some [], (none, .load 12 (S 5) true 6)), (some [], (none, .call 13 74 [(S 12)])), (some [13], (none, .faddr 14 (S 3) 1)), (some [13], (none, .load 15 (S 14) false 1)), (some [13], (none, .mv 16 (S 1))), (some [13], (none, .iaddr 17 (S 15) (S 16) 5)), (some [13], (none, .faddr 18 (S 17) 2)), (some [13], (none, .load 19 (S 18) false 1)), (some [], (none, .bin 20 .sub (S 13) (S 19))), (some [], (none, .mv 6 (S 20)))]) .ret)))
theorem e_spec_LevelFor : entry Tryz.prog 40 = some (c_spec_LevelFor.strip, [6], 21) := by kernel_rfl
theorem w_spec_LevelFor (a0 : XChart) (a1 : Int) (a2 : XShip) (r : Int) (h : f_spec_LevelFor a0 a1 a2 = some r) : FC Tryz.prog 40 [.ag (XChart.row a0), .sc (.int .i64 a1), .ag (XShip.row a2)] [.sc (.v (.int .i64 r))] := by
  unfold f_spec_LevelFor at h
  refine FC_go (σ := ⟨[(0, va [aL (List.map XPoint.row a0.Points), aL (List.map XSegment.row a0.Segments)]), (1, vc (aI a1)), (2, va [aS a2.Name, aI a2.Length, aI a2.Draught, aI a2.Line, aI a2.Tugs, aB a2.Slow])], [], []⟩) mixed e_spec_LevelFor rfl rfl ?_
  simp only [c_spec_LevelFor]
  try simp only [Nat.reduceBEq, Nat.reduceMul, Nat.reduceAdd, Nat.reduceDiv, Int.reduceBEq, rules2, rulesX, rowsX]
  refine go_bx rfl rfl rfl ?_
  try simp only [Nat.reduceBEq, Nat.reduceMul, Nat.reduceAdd, Nat.reduceDiv, Int.reduceBEq, rules2, rulesX, rowsX]
  refine go_bx rfl rfl rfl ?_
  obtain ⟨r1, hr1, h⟩ := ob h
  try simp only [Nat.reduceBEq, Nat.reduceMul, Nat.reduceAdd, Nat.reduceDiv, Int.reduceBEq, rules2, rulesX, rowsX]
  refine go_callI (w_spec_l07Ok _ _ _ _ hr1) rfl rfl (Nat.le_of_ble_eq_true rfl) ?_
  rcases Bool.eq_false_or_eq_true r1 with hb2 | hb2
  · rw [ite_t hb2] at h
    try simp only [hb2, Nat.reduceBEq, Nat.reduceMul, Nat.reduceAdd, Nat.reduceDiv, Int.reduceBEq, rules2, rulesX, rowsX]
    refine go_fr_of rfl ?_
    obtain ⟨r3, hr3, h⟩ := ob h
    try simp only [hb2, Nat.reduceBEq, Nat.reduceMul, Nat.reduceAdd, Nat.reduceDiv, Int.reduceBEq, rules2, rulesX, rowsX]
    refine go_dcallI (w_spec_NeedOf _ _ hr3) rfl rfl (Nat.le_of_ble_eq_true rfl) ?_
    obtain ⟨x4, hx4, h⟩ := ob h
    try simp only [hb2, hx4, Nat.reduceBEq, Nat.reduceMul, Nat.reduceAdd, Nat.reduceDiv, Int.reduceBEq, rules2, rulesX, rowsX]
    cases h
    exact ⟨⟨rfl, trivial⟩, rfl⟩
  · rw [ite_f hb2] at h
    try simp only [hb2, Nat.reduceBEq, Nat.reduceMul, Nat.reduceAdd, Nat.reduceDiv, Int.reduceBEq, rules2, rulesX, rowsX]
    cases h
    exact ⟨⟨rfl, trivial⟩, rfl⟩
/- 71: spec_l03Surge -/
def c_spec_l03Surge_1 : ACode := .seq (.reg [(none, .keep [1, 4, 5, 13, 14, 15] [4, 5] [])]) (.seq (.reg [(none, .bin 16 .lss (S 15) (S 14))]) (.seq (.cond (S 16) .skip (.exit 0)) (.seq (.block 1 (.seq (.reg [(none, .iaddr 17 (S 13) (S 15) 3), (none, .load 18 (S 17) true 3), (none, .alloc 7 [aI 0, aI 0, aI 0]), (none, .store (S 7) (S 18) 3)]) (.seq (.reg [(none, .faddr 19 (S 7) 0), (none, .load 20 (S 19) false 1), (none, .mv 21 (S 1)), (none, .bin 22 .leq (S 20) (S 21))]) (.cond (S 22) (.reg [(none, .load 23 (S 7) true 3), (none, .store (S 5) (S 23) 3)]) .skip)))) (.reg [(none, .bin 24 .add (S 15) (K 1)), (none, .mv 15 (S 24))]))))
def c_spec_l03Surge_n1 : ACode := (.seq (.reg [(none, .load 25 (S 5) true 3), (none, .store (S 4) (S 25) 3)]) .ret)
def c_spec_l03Surge : ACode := (.seq (.reg [(none, .box 2 (S 0)), (none, .alloc 4 [aI 0, aI 0, aI 0])]) (.seq (.reg [(none, .faddr 8 (S 2) 2), (none, .load 9 (S 8) false 1), (none, .iaddr 10 (S 9) (K 0) 3), (none, .load 11 (S 10) true 3), (none, .alloc 5 [aI 0, aI 0, aI 0]), (none, .store (S 5) (S 11) 3)]) (.seq (.seq (.reg [(none, .faddr 12 (S 2) 2), (none, .load 13 (S 12) false 1), (none, .len 14 (S 13)), (none, .mv 15 (K 0))]) (.block 0 (.loop c_spec_l03Surge_1))) c_spec_l03Surge_n1)))
theorem w_spec_l03Surge_1 (a1 : Int) (a0 : XForecast) : ∀ (n : Nat) (v2 : Int) (v3 : Int) (v4 : Int) (v5 : Int) (r : XSurge), f_spec_l03Surge_1 a1 a0 n v2 v3 v4 v5 = some r → ∀ σ : St, σ.kept [1, 4, 5, 13, 14, 15] [4, 5] [] = ⟨[(1, vc (aI a1)), (4, vc (.pb 4 0)), (5, vc (.pb 5 0)), (13, vc (aL (List.map XSurge.row a0.Surges))), (14, vc (aI (a0.Surges.length : Int))), (15, vc (aI v2))], [(4, [aI (0 : Int), aI (0 : Int), aI (0 : Int)]), (5, [aI v3, aI v4, aI v5])], []⟩ → go Tryz.prog (.code (.loop c_spec_l03Surge_1) :: [.blk 0, .code c_spec_l03Surge_n1]) (Ret [.c 4 true 3] [.ag [.v (.int .i64 r.From), .v (.int .i64 r.Low), .v (.int .i64 r.High)]]) .normal (some σ) := by
  intro n
  induction n with
  | zero => intro _ _ _ _ r h; cases h
  | succ n ih =>
    intro v2 v3 v4 v5 r h σ hσ
    rw [f_spec_l03Surge_1] at h
    refine go_round ?_
    rcases Bool.eq_false_or_eq_true (decide (v2 < (a0.Surges.length : Int))) with hb6 | hb6
    · rw [ite_t hb6] at h
      obtain ⟨x7, hx7, h⟩ := ob h
      try simp only [hσ, hb6, hx7, c_spec_l03Surge_1, Nat.reduceBEq, Nat.reduceMul, Nat.reduceAdd, Nat.reduceDiv, Int.reduceBEq, rules2, rulesX, rowsX]
      refine go_al rfl rfl ?_
      rcases Bool.eq_false_or_eq_true (decide (x7.From ≤ a1)) with hb8 | hb8
      · rw [ite_t hb8] at h
        try simp only [hb6, hx7, hb8, Nat.reduceBEq, Nat.reduceMul, Nat.reduceAdd, Nat.reduceDiv, Int.reduceBEq, rules2, rulesX, rowsX]
        refine ih _ _ _ _ _ h _ ?_
        try simp only [hb6, hx7, hb8, Nat.reduceBEq, Nat.reduceMul, Nat.reduceAdd, Nat.reduceDiv, Int.reduceBEq, rules2, rulesX, rowsX, List.map_nil]
      · rw [ite_f hb8] at h
        try simp only [hb6, hx7, hb8, Nat.reduceBEq, Nat.reduceMul, Nat.reduceAdd, Nat.reduceDiv, Int.reduceBEq, rules2, rulesX, rowsX]
        refine ih _ _ _ _ _ h _ ?_
        try simp only [hb6, hx7, hb8, Nat.reduceBEq, Nat.reduceMul, Nat.reduceAdd, Nat.reduceDiv, Int.reduceBEq, rules2, rulesX, rowsX, List.map_nil]
    · rw [ite_f hb6] at h
      try simp only [hσ, hb6, c_spec_l03Surge_1, c_spec_l03Surge_n1, Nat.reduceBEq, Nat.reduceMul, Nat.reduceAdd, Nat.reduceDiv, Int.reduceBEq, rules2, rulesX, rowsX]
      cases h
      try simp only [rulesR, Nat.reduceBEq, Nat.reduceMul, Nat.reduceAdd, Nat.reduceDiv, Int.reduceBEq, rules2, rulesX, rowsX]
      exact ⟨⟨⟨rfl, rfl, rfl, trivial⟩, trivial⟩, rfl⟩
theorem e_spec_l03Surge : entry Tryz.prog 71 = some (c_spec_l03Surge.strip, [.c 4 true 3], 26) := by kernel_rfl
theorem w_spec_l03Surge (a0 : XForecast) (a1 : Int) (r : XSurge) (h : f_spec_l03Surge a0 a1 = some r) : FC Tryz.prog 71 [.ag (XForecast.row a0), .sc (.int .i64 a1)] [.ag [.v (.int .i64 r.From), .v (.int .i64 r.Low), .v (.int .i64 r.High)]] := by
  unfold f_spec_l03Surge at h
  refine FC_go (σ := ⟨[(0, va [aI a0.Tide.Mean, aL (List.map XPart.row a0.Tide.Parts), aL (List.map XSurge.row a0.Surges)]), (1, vc (aI a1))], [], []⟩) mixed e_spec_l03Surge rfl rfl ?_
  simp only [c_spec_l03Surge]
  try simp only [Nat.reduceBEq, Nat.reduceMul, Nat.reduceAdd, Nat.reduceDiv, Int.reduceBEq, rules2, rulesX, rowsX]
  refine go_bx rfl rfl rfl ?_
  try simp only [Nat.reduceBEq, Nat.reduceMul, Nat.reduceAdd, Nat.reduceDiv, Int.reduceBEq, rules2, rulesX, rowsX]
  refine go_al rfl rfl ?_
  obtain ⟨x1, hx1, h⟩ := ob h
  try simp only [hx1, Nat.reduceBEq, Nat.reduceMul, Nat.reduceAdd, Nat.reduceDiv, Int.reduceBEq, rules2, rulesX, rowsX]
  refine go_al rfl rfl ?_
  try simp only [hx1, Nat.reduceBEq, Nat.reduceMul, Nat.reduceAdd, Nat.reduceDiv, Int.reduceBEq, rules2, rulesX, rowsX]
  refine w_spec_l03Surge_1 _ _ _ _ _ _ _ _ h _ ?_
  try simp only [hx1, Nat.reduceBEq, Nat.reduceMul, Nat.reduceAdd, Nat.reduceDiv, Int.reduceBEq, rules2, rulesX, rowsX, List.map_nil]
/- 108: spec_Wave -/
def c_spec_Wave_1 : ACode := .seq (.reg [(none, .keep [1, 5] [] [])]) (.seq (.reg [(none, .mv 26 (S 1)), (none, .bin 27 .quo (S 26) (K 2)), (none, .mv 6 (S 27))]) (.seq (.seq (.reg [(none, .mv 28 (S 5)), (none, .mv 29 (S 6)), (none, .bin 30 .lss (S 28) (S 29))]) (.cond (S 30) (.seq (.reg [(none, .mv 31 (S 5)), (none, .bin 32 .mul (K 40000) (S 31)), (none, .mv 33 (S 6)), (none, .mv 34 (S 5)), (none, .bin 35 .sub (S 33) (S 34)), (none, .bin 36 .mul (S 32) (S 35)), (none, .mv 37 (S 6)), (none, .mv 38 (S 6)), (none, .bin 39 .mul (S 37) (S 38)), (none, .bin 40 .quo (S 36) (S 39)), (none, .mv 4 (S 40))]) .ret) .skip)) (.seq (.reg [(none, .mv 41 (S 5)), (none, .mv 42 (S 6)), (none, .bin 43 .sub (S 41) (S 42)), (none, .mv 5 (S 43))]) (.seq (.reg [(none, .mv 44 (S 5)), (none, .bin 45 .mul (K 40000) (S 44)), (none, .mv 46 (S 6)), (none, .mv 47 (S 5)), (none, .bin 48 .sub (S 46) (S 47)), (none, .bin 49 .mul (S 45) (S 48)), (none, .mv 50 (S 6)), (none, .mv 51 (S 6)), (none, .bin 52 .mul (S 50) (S 51)), (none, .bin 53 .quo (S 49) (S 52)), (none, .un 54 .neg (S 53)), (none, .mv 4 (S 54))]) .ret))))
def c_spec_Wave : ACode := (.seq (.reg [(none, .mv 4 (K 0))]) (.seq (.seq (.reg [(none, .mv 7 (S 1)), (none, .bin 8 .lss (S 7) (K 4)), (none, .mv 9 (S 8)), (some (9, false), .mv 10 (S 1)), (some (9, false), .bin 11 .gtr (S 10) (K 2880)), (none, .pick 12 (S 9) (KB true) (S 11)), (none, .mv 13 (S 12)), (some (13, false), .mv 14 (S 1)), (some (13, false), .bin 15 .rem (S 14) (K 4)), (some (13, false), .bin 16 .neq (S 15) (K 0)), (none, .pick 17 (S 13) (KB true) (S 16))]) (.cond (S 17) (.seq (.reg [(none, .mv 4 (K 0))]) .ret) .skip)) (.seq (.reg [(none, .mv 18 (S 0)), (none, .mv 19 (S 1)), (none, .bin 20 .rem (S 18) (S 19)), (none, .mv 5 (S 20))]) (.seq (.seq (.reg [(none, .mv 21 (S 5)), (none, .bin 22 .lss (S 21) (K 0))]) (.cond (S 22) (.reg [(none, .mv 23 (S 5)), (none, .mv 24 (S 1)), (none, .bin 25 .add (S 23) (S 24)), (none, .mv 5 (S 25))]) .skip)) c_spec_Wave_1))))
theorem w_spec_Wave_1 (a1 : Int) (v6 : Int) (r : Int) (h : f_spec_Wave_1 a1 v6 = some r) (σ : St) (hσ : σ.kept [1, 5] [] [] = ⟨[(1, vc (aI a1)), (5, vc (aI v6))], [], []⟩) : go Tryz.prog (.code c_spec_Wave_1 :: []) (Ret [4] [.sc (.v (.int .i64 r))]) .normal (some σ) := by
  unfold f_spec_Wave_1 at h
  rcases Bool.eq_false_or_eq_true (decide (v6 < (IntKind.i64.wrap (Int.tdiv a1 (2 : Int))))) with hb7 | hb7
  · rw [ite_t hb7] at h
    obtain ⟨hg8, h⟩ := of_guardn h
    try simp only [hσ, hb7, hg8, c_spec_Wave_1, Nat.reduceBEq, Nat.reduceMul, Nat.reduceAdd, Nat.reduceDiv, Int.reduceBEq, rules2, rulesX, rowsX]
    cases h
    exact ⟨⟨rfl, trivial⟩, rfl⟩
  · rw [ite_f hb7] at h
    obtain ⟨hg9, h⟩ := of_guardn h
    try simp only [hσ, hb7, hg9, c_spec_Wave_1, Nat.reduceBEq, Nat.reduceMul, Nat.reduceAdd, Nat.reduceDiv, Int.reduceBEq, rules2, rulesX, rowsX]
    cases h
    exact ⟨⟨rfl, trivial⟩, rfl⟩
theorem e_spec_Wave : entry Tryz.prog 108 = some (c_spec_Wave.strip, [4], 55) := by kernel_rfl
theorem w_spec_Wave (a0 : Int) (a1 : Int) (r : Int) (h : f_spec_Wave a0 a1 = some r) : FC Tryz.prog 108 [.sc (.int .i64 a0), .sc (.int .i64 a1)] [.sc (.v (.int .i64 r))] := by
  unfold f_spec_Wave at h
  refine FC_go (σ := ⟨[(0, vc (aI a0)), (1, vc (aI a1))], [], []⟩) mixed e_spec_Wave rfl rfl ?_
  simp only [c_spec_Wave]
  rcases Bool.eq_false_or_eq_true (decide (a1 < (4 : Int))) with hb1 | hb1
  · rw [ite_t hb1] at h
    try simp only [hb1, Nat.reduceBEq, Nat.reduceMul, Nat.reduceAdd, Nat.reduceDiv, Int.reduceBEq, rules2, rulesX, rowsX]
    cases h
    exact ⟨⟨rfl, trivial⟩, rfl⟩
  · rw [ite_f hb1] at h
    rcases Bool.eq_false_or_eq_true (decide ((2880 : Int) < a1)) with hb2 | hb2
    · rw [ite_t hb2] at h
      try simp only [hb1, hb2, Nat.reduceBEq, Nat.reduceMul, Nat.reduceAdd, Nat.reduceDiv, Int.reduceBEq, rules2, rulesX, rowsX]
      cases h
      exact ⟨⟨rfl, trivial⟩, rfl⟩
    · rw [ite_f hb2] at h
      rcases Bool.eq_false_or_eq_true ((IntKind.i64.wrap (Int.tmod a1 (4 : Int))) != (0 : Int)) with hb3 | hb3
      · rw [ite_t hb3] at h
        try simp only [hb1, hb2, hb3, Nat.reduceBEq, Nat.reduceMul, Nat.reduceAdd, Nat.reduceDiv, Int.reduceBEq, rules2, rulesX, rowsX]
        cases h
        exact ⟨⟨rfl, trivial⟩, rfl⟩
      · rw [ite_f hb3] at h
        obtain ⟨hg4, h⟩ := of_guardn h
        rcases Bool.eq_false_or_eq_true (decide ((IntKind.i64.wrap (Int.tmod a0 a1)) < (0 : Int))) with hb5 | hb5
        · rw [ite_t hb5] at h
          try simp only [hb1, hb2, hb3, hg4, hb5, Nat.reduceBEq, Nat.reduceMul, Nat.reduceAdd, Nat.reduceDiv, Int.reduceBEq, rules2, rulesX, rowsX]
          refine w_spec_Wave_1 _ _ _ h _ ?_
          try simp only [hb1, hb2, hb3, hg4, hb5, Nat.reduceBEq, Nat.reduceMul, Nat.reduceAdd, Nat.reduceDiv, Int.reduceBEq, rules2, rulesX, rowsX, List.map_nil]
        · rw [ite_f hb5] at h
          try simp only [hb1, hb2, hb3, hg4, hb5, Nat.reduceBEq, Nat.reduceMul, Nat.reduceAdd, Nat.reduceDiv, Int.reduceBEq, rules2, rulesX, rowsX]
          refine w_spec_Wave_1 _ _ _ h _ ?_
          try simp only [hb1, hb2, hb3, hg4, hb5, Nat.reduceBEq, Nat.reduceMul, Nat.reduceAdd, Nat.reduceDiv, Int.reduceBEq, rules2, rulesX, rowsX, List.map_nil]
/- 72: spec_l02Level -/
def c_spec_l02Level_1 : ACode := .seq (.reg [(none, .keep [1, 5, 11, 12, 13] [] [])]) (.seq (.reg [(none, .bin 14 .lss (S 13) (S 12))]) (.seq (.cond (S 14) .skip (.exit 0)) (.seq (.block 1 (.seq (.reg [(none, .iaddr 15 (S 11) (S 13) 3), (none, .load 16 (S 15) true 3), (none, .alloc 7 [aI 0, aI 0, aI 0]), (none, .store (S 7) (S 16) 3)]) (.drw [(some [26], (none, .mv 17 (S 5))), (some [26], (none, .faddr 18 (S 7) 0)), (some [26], (none, .load 19 (S 18) false 1)), (some [], (none, .mv 20 (S 1))), (some [], (none, .faddr 21 (S 7) 2)), (some [], (none, .load 22 (S 21) false 1)), (some [], (none, .bin 23 .add (S 20) (S 22))), (some [], (none, .faddr 24 (S 7) 1)), (some [], (none, .load 25 (S 24) false 1)), (some [], (none, .call 26 108 [(S 23), (S 25)])), (some [], (none, .bin 27 .mul (S 19) (S 26))), (some [], (none, .bin 28 .quo (S 27) (K 10000))), (some [], (none, .bin 29 .add (S 17) (S 28))), (some [], (none, .mv 5 (S 29)))]))) (.reg [(none, .bin 30 .add (S 13) (K 1)), (none, .mv 13 (S 30))]))))
def c_spec_l02Level_n1 : ACode := (.seq (.reg [(none, .mv 31 (S 5)), (none, .mv 4 (S 31))]) .ret)
def c_spec_l02Level : ACode := (.seq (.reg [(none, .box 2 (S 0)), (none, .mv 4 (K 0))]) (.seq (.reg [(none, .faddr 8 (S 2) 0), (none, .load 9 (S 8) false 1), (none, .mv 5 (S 9))]) (.seq (.seq (.reg [(none, .faddr 10 (S 2) 1), (none, .load 11 (S 10) false 1), (none, .len 12 (S 11)), (none, .mv 13 (K 0))]) (.block 0 (.loop c_spec_l02Level_1))) c_spec_l02Level_n1)))
theorem w_spec_l02Level_1 (a1 : Int) (a0 : XTide) : ∀ (n : Nat) (v1 : Int) (v2 : Int) (r : Int), f_spec_l02Level_1 a1 a0 n v1 v2 = some r → ∀ σ : St, σ.kept [1, 5, 11, 12, 13] [] [] = ⟨[(1, vc (aI a1)), (5, vc (aI v1)), (11, vc (aL (List.map XPart.row a0.Parts))), (12, vc (aI (a0.Parts.length : Int))), (13, vc (aI v2))], [], []⟩ → go Tryz.prog (.code (.loop c_spec_l02Level_1) :: [.blk 0, .code c_spec_l02Level_n1]) (Ret [4] [.sc (.v (.int .i64 r))]) .normal (some σ) := by
  intro n
  induction n with
  | zero => intro _ _ r h; cases h
  | succ n ih =>
    intro v1 v2 r h σ hσ
    rw [f_spec_l02Level_1] at h
    refine go_round ?_
    rcases Bool.eq_false_or_eq_true (decide (v2 < (a0.Parts.length : Int))) with hb3 | hb3
    · rw [ite_t hb3] at h
      obtain ⟨x4, hx4, h⟩ := ob h
      try simp only [hσ, hb3, hx4, c_spec_l02Level_1, Nat.reduceBEq, Nat.reduceMul, Nat.reduceAdd, Nat.reduceDiv, Int.reduceBEq, rules2, rulesX, rowsX]
      refine go_al rfl rfl ?_
      try simp only [hb3, hx4, Nat.reduceBEq, Nat.reduceMul, Nat.reduceAdd, Nat.reduceDiv, Int.reduceBEq, rules2, rulesX, rowsX]
      refine go_fr_of rfl ?_
      obtain ⟨r5, hr5, h⟩ := ob h
      try simp only [hb3, hx4, Nat.reduceBEq, Nat.reduceMul, Nat.reduceAdd, Nat.reduceDiv, Int.reduceBEq, rules2, rulesX, rowsX]
      refine go_dcallI (w_spec_Wave _ _ _ hr5) rfl rfl (Nat.le_of_ble_eq_true rfl) ?_
      try simp only [hb3, hx4, Nat.reduceBEq, Nat.reduceMul, Nat.reduceAdd, Nat.reduceDiv, Int.reduceBEq, rules2, rulesX, rowsX]
      refine ih _ _ _ h _ ?_
      try simp only [hb3, hx4, Nat.reduceBEq, Nat.reduceMul, Nat.reduceAdd, Nat.reduceDiv, Int.reduceBEq, rules2, rulesX, rowsX, List.map_nil]
    · rw [ite_f hb3] at h
      try simp only [hσ, hb3, c_spec_l02Level_1, c_spec_l02Level_n1, Nat.reduceBEq, Nat.reduceMul, Nat.reduceAdd, Nat.reduceDiv, Int.reduceBEq, rules2, rulesX, rowsX]
      cases h
      exact ⟨⟨rfl, trivial⟩, rfl⟩
theorem e_spec_l02Level : entry Tryz.prog 72 = some (c_spec_l02Level.strip, [4], 32) := by kernel_rfl
theorem w_spec_l02Level (a0 : XTide) (a1 : Int) (r : Int) (h : f_spec_l02Level a0 a1 = some r) : FC Tryz.prog 72 [.ag (XTide.row a0), .sc (.int .i64 a1)] [.sc (.v (.int .i64 r))] := by
  unfold f_spec_l02Level at h
  refine FC_go (σ := ⟨[(0, va [aI a0.Mean, aL (List.map XPart.row a0.Parts)]), (1, vc (aI a1))], [], []⟩) mixed e_spec_l02Level rfl rfl ?_
  simp only [c_spec_l02Level]
  try simp only [Nat.reduceBEq, Nat.reduceMul, Nat.reduceAdd, Nat.reduceDiv, Int.reduceBEq, rules2, rulesX, rowsX]
  refine go_bx rfl rfl rfl ?_
  try simp only [Nat.reduceBEq, Nat.reduceMul, Nat.reduceAdd, Nat.reduceDiv, Int.reduceBEq, rules2, rulesX, rowsX]
  refine w_spec_l02Level_1 _ _ _ _ _ _ h _ ?_
  try simp only [Nat.reduceBEq, Nat.reduceMul, Nat.reduceAdd, Nat.reduceDiv, Int.reduceBEq, rules2, rulesX, rowsX, List.map_nil]
/- 39: spec_l24Level -/
def c_spec_l24Level : ACode := (.seq (.reg [(none, .box 3 (S 0)), (none, .mv 6 (K 0))]) (.seq (.reg [(none, .load 9 (S 3) true 3), (none, .mv 10 (S 2)), (none, .call 11 71 [(S 9), (S 10)]), (none, .alloc 7 [aI 0, aI 0, aI 0]), (none, .store (S 7) (S 11) 3)]) (.seq (.reg [(none, .mv 12 (S 1)), (none, .mv 13 (S 2)), (none, .bin 14 .quo (S 13) (K 60)), (none, .mv 15 (S 1)), (none, .len 16 (S 15)), (none, .bin 17 .sub (S 16) (K 1)), (none, .mm 18 false (S 14) (S 17)), (none, .iaddr 19 (S 12) (S 18) 1), (none, .load 20 (S 19) false 1), (none, .mv 8 (S 20))]) (.seq (.drw [(some [], (none, .faddr 21 (S 3) 0)), (some [], (none, .load 22 (S 21) true 2)), (some [], (none, .mv 23 (S 2))), (some [], (none, .call 24 72 [(S 22), (S 23)])), (some [24], (none, .faddr 25 (S 7) 1)), (some [24], (none, .load 26 (S 25) false 1)), (some [], (none, .bin 27 .add (S 24) (S 26))), (some [24], (none, .faddr 28 (S 7) 2)), (some [24], (none, .load 29 (S 28) false 1)), (some [24], (none, .faddr 30 (S 7) 1)), (some [24], (none, .load 31 (S 30) false 1)), (some [24], (none, .bin 32 .sub (S 29) (S 31))), (some [24], (none, .mv 33 (S 8))), (some [24], (none, .bin 34 .mul (S 32) (S 33))), (some [24], (none, .bin 35 .quo (S 34) (K 1000))), (some [], (none, .bin 36 .add (S 27) (S 35))), (some [], (none, .mv 6 (S 36)))]) .ret))))
theorem e_spec_l24Level : entry Tryz.prog 39 = some (c_spec_l24Level.strip, [6], 37) := by kernel_rfl
theorem w_spec_l24Level (a0 : XForecast) (a1 : List Int) (a2 : Int) (r : Int) (h : f_spec_l24Level a0 a1 a2 = some r) : FC Tryz.prog 39 [.ag (XForecast.row a0), .sc (.sl (List.map rI a1)), .sc (.int .i64 a2)] [.sc (.v (.int .i64 r))] := by
  unfold f_spec_l24Level at h
  refine FC_go (σ := ⟨[(0, va [aI a0.Tide.Mean, aL (List.map XPart.row a0.Tide.Parts), aL (List.map XSurge.row a0.Surges)]), (1, vc (aL (List.map rI a1))), (2, vc (aI a2))], [], []⟩) mixed e_spec_l24Level rfl rfl ?_
  simp only [c_spec_l24Level]
  try simp only [Nat.reduceBEq, Nat.reduceMul, Nat.reduceAdd, Nat.reduceDiv, Int.reduceBEq, rules2, rulesX, rowsX]
  refine go_bx rfl rfl rfl ?_
  obtain ⟨r1, hr1, h⟩ := ob h
  try simp only [Nat.reduceBEq, Nat.reduceMul, Nat.reduceAdd, Nat.reduceDiv, Int.reduceBEq, rules2, rulesX, rowsX]
  refine go_callI (w_spec_l03Surge _ _ _ hr1) rfl rfl (Nat.le_of_ble_eq_true rfl) ?_
  try simp only [Nat.reduceBEq, Nat.reduceMul, Nat.reduceAdd, Nat.reduceDiv, Int.reduceBEq, rules2, rulesX, rowsX]
  refine go_al rfl rfl ?_
  obtain ⟨x2, hx2, h⟩ := ob h
  try simp only [hx2, Nat.reduceBEq, Nat.reduceMul, Nat.reduceAdd, Nat.reduceDiv, Int.reduceBEq, rules2, rulesX, rowsX]
  refine go_fr_of rfl ?_
  obtain ⟨r3, hr3, h⟩ := ob h
  try simp only [hx2, Nat.reduceBEq, Nat.reduceMul, Nat.reduceAdd, Nat.reduceDiv, Int.reduceBEq, rules2, rulesX, rowsX]
  refine go_dcallI (w_spec_l02Level _ _ _ hr3) rfl rfl (Nat.le_of_ble_eq_true rfl) ?_
  try simp only [hx2, Nat.reduceBEq, Nat.reduceMul, Nat.reduceAdd, Nat.reduceDiv, Int.reduceBEq, rules2, rulesX, rowsX]
  cases h
  exact ⟨⟨rfl, trivial⟩, rfl⟩
/- 53: spec_l24Least -/
def c_spec_l24Least_1 : ACode := .seq (.reg [(none, .keep [2, 3, 4, 7, 8, 9] [3, 4] [])]) (.seq (.seq (.reg [(none, .mv 31 (S 9)), (none, .faddr 32 (S 4) 4), (none, .load 33 (S 32) false 1), (none, .bin 34 .leq (S 31) (S 33))]) (.cond (S 34) .skip (.exit 0))) (.seq (.block 1 (.reg [(none, .mv 37 (S 8)), (none, .faddr 38 (S 3) 0), (none, .load 39 (S 38) true 3), (none, .mv 40 (S 2)), (none, .mv 41 (S 9)), (none, .call 42 39 [(S 39), (S 40), (S 41)]), (none, .mv 43 (S 7)), (none, .bin 44 .sub (S 42) (S 43)), (none, .mm 45 false (S 37) (S 44)), (none, .mv 8 (S 45))])) (.reg [(none, .mv 35 (S 9)), (none, .bin 36 .add (S 35) (K 1)), (none, .mv 9 (S 36))])))
def c_spec_l24Least_n1 : ACode := (.seq (.reg [(none, .mv 46 (S 8)), (none, .mv 6 (S 46))]) .ret)
def c_spec_l24Least : ACode := (.seq (.reg [(none, .box 3 (S 0)), (none, .box 4 (S 1)), (none, .mv 6 (K 0))]) (.seq (.drw [(some [], (none, .faddr 10 (S 3) 3)), (some [], (none, .load 11 (S 10) true 2)), (some [], (none, .faddr 12 (S 4) 1)), (some [], (none, .load 13 (S 12) false 1)), (some [], (none, .faddr 14 (S 3) 5)), (some [], (none, .load 15 (S 14) false 1)), (some [], (none, .faddr 16 (S 4) 0)), (some [], (none, .load 17 (S 16) false 1)), (some [], (none, .iaddr 18 (S 15) (S 17) 6)), (some [], (none, .load 19 (S 18) true 6)), (some [], (none, .call 20 40 [(S 11), (S 13), (S 19)])), (some [], (none, .mv 7 (S 20)))]) (.seq (.reg [(none, .faddr 21 (S 3) 0), (none, .load 22 (S 21) true 3), (none, .mv 23 (S 2)), (none, .faddr 24 (S 4) 3), (none, .load 25 (S 24) false 1), (none, .call 26 39 [(S 22), (S 23), (S 25)]), (none, .mv 27 (S 7)), (none, .bin 28 .sub (S 26) (S 27)), (none, .mv 8 (S 28))]) (.seq (.seq (.reg [(none, .faddr 29 (S 4) 3), (none, .load 30 (S 29) false 1), (none, .mv 9 (S 30))]) (.block 0 (.loop c_spec_l24Least_1))) c_spec_l24Least_n1))))
theorem w_spec_l24Least_1 (a2 : List Int) (r2 : Int) (a0 : XHarbour) (a1 : XPassage) : ∀ (n : Nat) (v4 : Int) (v5 : Int) (r : Int), f_spec_l24Least_1 a2 r2 a0 a1 n v4 v5 = some r → ∀ σ : St, σ.kept [2, 3, 4, 7, 8, 9] [3, 4] [] = ⟨[(2, vc (aL (List.map rI a2))), (3, vc (.pb 3 0)), (4, vc (.pb 4 0)), (7, vc (aI r2)), (8, vc (aI v4)), (9, vc (aI v5))], [(3, [aI a0.Forecast.Tide.Mean, aL (List.map XPart.row a0.Forecast.Tide.Parts), aL (List.map XSurge.row a0.Forecast.Surges), aL (List.map XPoint.row a0.Chart.Points), aL (List.map XSegment.row a0.Chart.Segments), aL (List.map XShip.row a0.Fleet), aI a0.Regime.Gap, aB a0.Regime.NoMeet, aI a0.Crew.Tugs, aI a0.Crew.Pilots, aI a0.Crew.Rest, aL (List.map rI a0.Crew.Moves)]), (4, [aI a1.Ship, aI a1.Segment, aB a1.Toward, aI a1.Start, aI a1.End])], []⟩ → go Tryz.prog (.code (.loop c_spec_l24Least_1) :: [.blk 0, .code c_spec_l24Least_n1]) (Ret [6] [.sc (.v (.int .i64 r))]) .normal (some σ) := by
  intro n
  induction n with
  | zero => intro _ _ r h; cases h
  | succ n ih =>
    intro v4 v5 r h σ hσ
    rw [f_spec_l24Least_1] at h
    refine go_round ?_
    rcases Bool.eq_false_or_eq_true (decide (v5 ≤ a1.End)) with hb6 | hb6
    · rw [ite_t hb6] at h
      obtain ⟨r7, hr7, h⟩ := ob h
      try simp only [hσ, hb6, c_spec_l24Least_1, Nat.reduceBEq, Nat.reduceMul, Nat.reduceAdd, Nat.reduceDiv, Int.reduceBEq, rules2, rulesX, rowsX]
      refine go_callI (w_spec_l24Level _ _ _ _ hr7) rfl rfl (Nat.le_of_ble_eq_true rfl) ?_
      try simp only [hb6, Nat.reduceBEq, Nat.reduceMul, Nat.reduceAdd, Nat.reduceDiv, Int.reduceBEq, rules2, rulesX, rowsX]
      refine ih _ _ _ h _ ?_
      try simp only [hb6, Nat.reduceBEq, Nat.reduceMul, Nat.reduceAdd, Nat.reduceDiv, Int.reduceBEq, rules2, rulesX, rowsX, List.map_nil]
    · rw [ite_f hb6] at h
      try simp only [hσ, hb6, c_spec_l24Least_1, c_spec_l24Least_n1, Nat.reduceBEq, Nat.reduceMul, Nat.reduceAdd, Nat.reduceDiv, Int.reduceBEq, rules2, rulesX, rowsX]
      cases h
      exact ⟨⟨rfl, trivial⟩, rfl⟩
theorem e_spec_l24Least : entry Tryz.prog 53 = some (c_spec_l24Least.strip, [6], 47) := by kernel_rfl
theorem w_spec_l24Least (a0 : XHarbour) (a1 : XPassage) (a2 : List Int) (r : Int) (h : f_spec_l24Least a0 a1 a2 = some r) : FC Tryz.prog 53 [.ag (XHarbour.row a0), .ag (XPassage.row a1), .sc (.sl (List.map rI a2))] [.sc (.v (.int .i64 r))] := by
  unfold f_spec_l24Least at h
  refine FC_go (σ := ⟨[(0, va [aI a0.Forecast.Tide.Mean, aL (List.map XPart.row a0.Forecast.Tide.Parts), aL (List.map XSurge.row a0.Forecast.Surges), aL (List.map XPoint.row a0.Chart.Points), aL (List.map XSegment.row a0.Chart.Segments), aL (List.map XShip.row a0.Fleet), aI a0.Regime.Gap, aB a0.Regime.NoMeet, aI a0.Crew.Tugs, aI a0.Crew.Pilots, aI a0.Crew.Rest, aL (List.map rI a0.Crew.Moves)]), (1, va [aI a1.Ship, aI a1.Segment, aB a1.Toward, aI a1.Start, aI a1.End]), (2, vc (aL (List.map rI a2)))], [], []⟩) mixed e_spec_l24Least rfl rfl ?_
  simp only [c_spec_l24Least]
  try simp only [Nat.reduceBEq, Nat.reduceMul, Nat.reduceAdd, Nat.reduceDiv, Int.reduceBEq, rules2, rulesX, rowsX]
  refine go_bx rfl rfl rfl ?_
  try simp only [Nat.reduceBEq, Nat.reduceMul, Nat.reduceAdd, Nat.reduceDiv, Int.reduceBEq, rules2, rulesX, rowsX]
  refine go_bx rfl rfl rfl ?_
  try simp only [Nat.reduceBEq, Nat.reduceMul, Nat.reduceAdd, Nat.reduceDiv, Int.reduceBEq, rules2, rulesX, rowsX]
  refine go_fr_of rfl ?_
  obtain ⟨x1, hx1, h⟩ := ob h
  obtain ⟨r2, hr2, h⟩ := ob h
  try simp only [hx1, Nat.reduceBEq, Nat.reduceMul, Nat.reduceAdd, Nat.reduceDiv, Int.reduceBEq, rules2, rulesX, rowsX]
  refine go_dcallI (w_spec_LevelFor _ _ _ _ hr2) rfl rfl (Nat.le_of_ble_eq_true rfl) ?_
  obtain ⟨r3, hr3, h⟩ := ob h
  try simp only [hx1, Nat.reduceBEq, Nat.reduceMul, Nat.reduceAdd, Nat.reduceDiv, Int.reduceBEq, rules2, rulesX, rowsX]
  refine go_callI (w_spec_l24Level _ _ _ _ hr3) rfl rfl (Nat.le_of_ble_eq_true rfl) ?_
  try simp only [hx1, Nat.reduceBEq, Nat.reduceMul, Nat.reduceAdd, Nat.reduceDiv, Int.reduceBEq, rules2, rulesX, rowsX]
  refine w_spec_l24Least_1 _ _ _ _ _ _ _ _ h _ ?_
  try simp only [hx1, Nat.reduceBEq, Nat.reduceMul, Nat.reduceAdd, Nat.reduceDiv, Int.reduceBEq, rules2, rulesX, rowsX, List.map_nil]
/- 25: spec_ClearanceOn -/
def c_spec_ClearanceOn_1 : ACode := .seq (.reg [(none, .keep [2, 3, 4, 24] [3, 4] [])]) (.cond (S 24) (.seq (.reg [(none, .mv 6 (K 0)), (none, .mv 7 (KB false))]) .ret) .skip)
def c_spec_ClearanceOn_n1 : ACode := (.seq (.reg [(none, .load 25 (S 3) true 12), (none, .load 26 (S 4) true 5), (none, .mv 27 (S 2)), (none, .call 28 53 [(S 25), (S 26), (S 27)]), (none, .mv 6 (S 28)), (none, .mv 7 (KB true))]) .ret)
def c_spec_ClearanceOn : ACode := (.seq (.reg [(none, .box 3 (S 0)), (none, .box 4 (S 1)), (none, .mv 6 (K 0)), (none, .mv 7 (KB false))]) (.seq (.seq (.reg [(none, .load 8 (S 3) true 12), (none, .call 9 50 [(S 8)]), (none, .un 10 .not (S 9)), (none, .mv 11 (S 10)), (some (11, false), .mv 12 (S 2)), (some (11, false), .call 13 51 [(S 12)]), (some (11, false), .un 14 .not (S 13)), (none, .pick 15 (S 11) (KB true) (S 14)), (none, .mv 16 (S 15)), (some (16, false), .faddr 17 (S 3) 3), (some (16, false), .load 18 (S 17) true 2), (some (16, false), .faddr 19 (S 3) 5), (some (16, false), .load 20 (S 19) false 1), (some (16, false), .load 21 (S 4) true 5), (some (16, false), .call 22 52 [(S 18), (S 20), (S 21)]), (some (16, false), .un 23 .not (S 22)), (none, .pick 24 (S 16) (KB true) (S 23))]) c_spec_ClearanceOn_1) c_spec_ClearanceOn_n1))
theorem w_spec_ClearanceOn_1 (a2 : List Int) (a0 : XHarbour) (a1 : XPassage) (v6 : Bool) (r : Int × Bool) (h : f_spec_ClearanceOn_1 a2 a0 a1 v6 = some r) (σ : St) (hσ : σ.kept [2, 3, 4, 24] [3, 4] [] = ⟨[(2, vc (aL (List.map rI a2))), (3, vc (.pb 3 0)), (4, vc (.pb 4 0)), (24, vc (aB v6))], [(3, [aI a0.Forecast.Tide.Mean, aL (List.map XPart.row a0.Forecast.Tide.Parts), aL (List.map XSurge.row a0.Forecast.Surges), aL (List.map XPoint.row a0.Chart.Points), aL (List.map XSegment.row a0.Chart.Segments), aL (List.map XShip.row a0.Fleet), aI a0.Regime.Gap, aB a0.Regime.NoMeet, aI a0.Crew.Tugs, aI a0.Crew.Pilots, aI a0.Crew.Rest, aL (List.map rI a0.Crew.Moves)]), (4, [aI a1.Ship, aI a1.Segment, aB a1.Toward, aI a1.Start, aI a1.End])], []⟩) : go Tryz.prog (.code c_spec_ClearanceOn_1 :: [.code c_spec_ClearanceOn_n1]) (Ret [6, 7] [.sc (.v (.int .i64 r.1)), .sc (.v (.bool r.2))]) .normal (some σ) := by
  unfold f_spec_ClearanceOn_1 at h
  rcases Bool.eq_false_or_eq_true v6 with hb7 | hb7
  · rw [ite_t hb7] at h
    try simp only [hσ, hb7, c_spec_ClearanceOn_1, Nat.reduceBEq, Nat.reduceMul, Nat.reduceAdd, Nat.reduceDiv, Int.reduceBEq, rules2, rulesX, rowsX]
    cases h
    exact ⟨⟨rfl, rfl, trivial⟩, rfl⟩
  · rw [ite_f hb7] at h
    obtain ⟨r8, hr8, h⟩ := ob h
    try simp only [hσ, hb7, c_spec_ClearanceOn_1, c_spec_ClearanceOn_n1, Nat.reduceBEq, Nat.reduceMul, Nat.reduceAdd, Nat.reduceDiv, Int.reduceBEq, rules2, rulesX, rowsX]
    refine go_callI (w_spec_l24Least _ _ _ _ hr8) rfl rfl (Nat.le_of_ble_eq_true rfl) ?_
    try simp only [hb7, Nat.reduceBEq, Nat.reduceMul, Nat.reduceAdd, Nat.reduceDiv, Int.reduceBEq, rules2, rulesX, rowsX]
    cases h
    exact ⟨⟨rfl, rfl, trivial⟩, rfl⟩
theorem e_spec_ClearanceOn : entry Tryz.prog 25 = some (c_spec_ClearanceOn.strip, [6, 7], 29) := by kernel_rfl
theorem w_spec_ClearanceOn (a0 : XHarbour) (a1 : XPassage) (a2 : List Int) (r : Int × Bool) (h : f_spec_ClearanceOn a0 a1 a2 = some r) : FC Tryz.prog 25 [.ag (XHarbour.row a0), .ag (XPassage.row a1), .sc (.sl (List.map rI a2))] [.sc (.v (.int .i64 r.1)), .sc (.v (.bool r.2))] := by
  unfold f_spec_ClearanceOn at h
  refine FC_go (σ := ⟨[(0, va [aI a0.Forecast.Tide.Mean, aL (List.map XPart.row a0.Forecast.Tide.Parts), aL (List.map XSurge.row a0.Forecast.Surges), aL (List.map XPoint.row a0.Chart.Points), aL (List.map XSegment.row a0.Chart.Segments), aL (List.map XShip.row a0.Fleet), aI a0.Regime.Gap, aB a0.Regime.NoMeet, aI a0.Crew.Tugs, aI a0.Crew.Pilots, aI a0.Crew.Rest, aL (List.map rI a0.Crew.Moves)]), (1, va [aI a1.Ship, aI a1.Segment, aB a1.Toward, aI a1.Start, aI a1.End]), (2, vc (aL (List.map rI a2)))], [], []⟩) mixed e_spec_ClearanceOn rfl rfl ?_
  simp only [c_spec_ClearanceOn]
  try simp only [Nat.reduceBEq, Nat.reduceMul, Nat.reduceAdd, Nat.reduceDiv, Int.reduceBEq, rules2, rulesX, rowsX]
  refine go_bx rfl rfl rfl ?_
  try simp only [Nat.reduceBEq, Nat.reduceMul, Nat.reduceAdd, Nat.reduceDiv, Int.reduceBEq, rules2, rulesX, rowsX]
  refine go_bx rfl rfl rfl ?_
  obtain ⟨r1, hr1, h⟩ := ob h
  try simp only [Nat.reduceBEq, Nat.reduceMul, Nat.reduceAdd, Nat.reduceDiv, Int.reduceBEq, rules2, rulesX, rowsX]
  refine go_callI (w_spec_HarbourOk _ _ hr1) rfl rfl (Nat.le_of_ble_eq_true rfl) ?_
  rcases Bool.eq_false_or_eq_true r1 with hb2 | hb2
  · rw [ite_t hb2] at h
    obtain ⟨r3, hr3, h⟩ := ob h
    try simp only [hb2, Nat.reduceBEq, Nat.reduceMul, Nat.reduceAdd, Nat.reduceDiv, Int.reduceBEq, rules2, rulesX, rowsX]
    refine go_callI (w_spec_PicksOk _ _ hr3) rfl rfl (Nat.le_of_ble_eq_true rfl) ?_
    rcases Bool.eq_false_or_eq_true r3 with hb4 | hb4
    · rw [ite_t hb4] at h
      obtain ⟨r5, hr5, h⟩ := ob h
      try simp only [hb2, hb4, Nat.reduceBEq, Nat.reduceMul, Nat.reduceAdd, Nat.reduceDiv, Int.reduceBEq, rules2, rulesX, rowsX]
      refine go_callI (w_spec_PassageOk _ _ _ _ hr5) rfl rfl (Nat.le_of_ble_eq_true rfl) ?_
      try simp only [hb2, hb4, Nat.reduceBEq, Nat.reduceMul, Nat.reduceAdd, Nat.reduceDiv, Int.reduceBEq, rules2, rulesX, rowsX]
      refine w_spec_ClearanceOn_1 _ _ _ _ _ h _ ?_
      try simp only [hb2, hb4, Nat.reduceBEq, Nat.reduceMul, Nat.reduceAdd, Nat.reduceDiv, Int.reduceBEq, rules2, rulesX, rowsX, List.map_nil]
    · rw [ite_f hb4] at h
      try simp only [hb2, hb4, Nat.reduceBEq, Nat.reduceMul, Nat.reduceAdd, Nat.reduceDiv, Int.reduceBEq, rules2, rulesX, rowsX]
      refine w_spec_ClearanceOn_1 _ _ _ _ _ h _ ?_
      try simp only [hb2, hb4, Nat.reduceBEq, Nat.reduceMul, Nat.reduceAdd, Nat.reduceDiv, Int.reduceBEq, rules2, rulesX, rowsX, List.map_nil]
  · rw [ite_f hb2] at h
    try simp only [hb2, Nat.reduceBEq, Nat.reduceMul, Nat.reduceAdd, Nat.reduceDiv, Int.reduceBEq, rules2, rulesX, rowsX]
    refine w_spec_ClearanceOn_1 _ _ _ _ _ h _ ?_
    try simp only [hb2, Nat.reduceBEq, Nat.reduceMul, Nat.reduceAdd, Nat.reduceDiv, Int.reduceBEq, rules2, rulesX, rowsX, List.map_nil]
/- 18: spec_FirstGrounding -/
def c_spec_FirstGrounding_3 : ACode := .seq (.reg [(none, .keep [2, 3, 8, 11, 14, 15, 16, 17, 23, 24, 25] [3, 11] [])]) (.seq (.seq (.reg [(none, .mv 44 (S 14)), (none, .faddr 45 (S 11) 4), (none, .load 46 (S 45) false 1), (none, .bin 47 .leq (S 44) (S 46))]) (.cond (S 47) .skip (.exit 4))) (.seq (.block 5 (.seq (.drw [(some [], (none, .faddr 50 (S 3) 0)), (some [], (none, .load 51 (S 50) true 3)), (some [], (none, .mv 52 (S 2))), (some [], (none, .mv 53 (S 14))), (some [], (none, .call 54 39 [(S 51), (S 52), (S 53)])), (some [54], (none, .faddr 55 (S 3) 3)), (some [54], (none, .load 56 (S 55) true 2)), (some [54], (none, .faddr 57 (S 11) 1)), (some [54], (none, .load 58 (S 57) false 1)), (some [54], (none, .faddr 59 (S 3) 5)), (some [54], (none, .load 60 (S 59) false 1)), (some [54], (none, .faddr 61 (S 11) 0)), (some [54], (none, .load 62 (S 61) false 1)), (some [54], (none, .iaddr 63 (S 60) (S 62) 6)), (some [54], (none, .load 64 (S 63) true 6)), (some [], (none, .call 65 40 [(S 56), (S 58), (S 64)])), (some [], (none, .bin 66 .lss (S 54) (S 65)))]) (.cond (S 66) (.seq (.reg [(none, .mv 67 (S 8)), (none, .mv 68 (S 14)), (none, .mv 6 (S 67)), (none, .mv 7 (S 68))]) .ret) .skip))) (.reg [(none, .mv 48 (S 14)), (none, .bin 49 .add (S 48) (K 1)), (none, .mv 14 (S 49))])))
def c_spec_FirstGrounding_n3 : ACode := (.reg [(none, .bin 69 .add (S 25) (K 1)), (none, .mv 25 (S 69))])
def c_spec_FirstGrounding_2 : ACode := .seq (.reg [(none, .keep [2, 3, 8, 15, 16, 17, 23, 24, 25] [3] [])]) (.seq (.reg [(none, .bin 26 .lss (S 25) (S 24))]) (.seq (.cond (S 26) .skip (.exit 2)) (.seq (.block 3 (.seq (.reg [(none, .iaddr 27 (S 23) (S 25) 5), (none, .load 28 (S 27) true 5), (none, .alloc 11 [aI 0, aI 0, aB false, aI 0, aI 0]), (none, .store (S 11) (S 28) 5)]) (.seq (.reg [(none, .load 30 (S 3) true 12), (none, .load 31 (S 11) true 5), (none, .mv 32 (S 2)), (none, .call 33 25 [(S 30), (S 31), (S 32)]), (none, .mv 29 (S 33)), (none, .extr 34 (S 29) 0), (none, .extr 35 (S 29) 1), (none, .mv 12 (S 34)), (none, .mv 13 (S 35))]) (.seq (.seq (.reg [(none, .mv 36 (S 13)), (none, .un 37 .not (S 36)), (none, .mv 38 (S 37)), (some (38, false), .mv 39 (S 12)), (some (38, false), .bin 40 .geq (S 39) (K 0)), (none, .pick 41 (S 38) (KB true) (S 40))]) (.cond (S 41) (.exit 3) .skip)) (.seq (.reg [(none, .faddr 42 (S 11) 3), (none, .load 43 (S 42) false 1), (none, .mv 14 (S 43))]) (.block 4 (.loop c_spec_FirstGrounding_3))))))) c_spec_FirstGrounding_n3)))
def c_spec_FirstGrounding_n2 : ACode := (.reg [(none, .bin 70 .add (S 17) (K 1)), (none, .mv 17 (S 70))])
def c_spec_FirstGrounding_1 : ACode := .seq (.reg [(none, .keep [2, 3, 15, 16, 17] [3] [])]) (.seq (.reg [(none, .bin 18 .lss (S 17) (S 16))]) (.seq (.cond (S 18) .skip (.exit 0)) (.seq (.block 1 (.seq (.reg [(none, .mv 19 (S 17)), (none, .iaddr 20 (S 15) (S 17) 4), (none, .load 21 (S 20) true 4), (none, .alloc 9 [aI 0, aI 0, aI 0, .nil]), (none, .mv 8 (S 19)), (none, .store (S 9) (S 21) 4)]) (.seq (.reg [(none, .faddr 22 (S 9) 3), (none, .load 23 (S 22) false 1), (none, .len 24 (S 23)), (none, .mv 25 (K 0))]) (.block 2 (.loop c_spec_FirstGrounding_2))))) c_spec_FirstGrounding_n2)))
def c_spec_FirstGrounding_n1 : ACode := (.seq (.reg [(none, .mv 6 (K (-1))), (none, .mv 7 (K (-1)))]) .ret)
def c_spec_FirstGrounding : ACode := (.seq (.reg [(none, .box 3 (S 0)), (none, .mv 6 (K 0)), (none, .mv 7 (K 0))]) (.seq (.seq (.reg [(none, .mv 15 (S 1)), (none, .len 16 (S 15)), (none, .mv 17 (K 0))]) (.block 0 (.loop c_spec_FirstGrounding_1))) c_spec_FirstGrounding_n1))
theorem w_spec_FirstGrounding_3 (a2 : List Int) (v1 : Int) (a1 : List XOption) (x3 : XOption) (v4 : Int) (a0 : XHarbour) (x6 : XPassage) (k_spec_FirstGrounding_2 : Int → Option (Int × Int)) (hk_spec_FirstGrounding_2 : ∀ (v4 : Int) zr, k_spec_FirstGrounding_2 v4 = some zr → ∀ σ : St, σ.kept [2, 3, 8, 15, 16, 17, 23, 24, 25] [3] [] = ⟨[(2, vc (aL (List.map rI a2))), (3, vc (.pb 3 0)), (8, vc (aI v1)), (15, vc (aL (List.map XOption.row a1))), (16, vc (aI (a1.length : Int))), (17, vc (aI v1)), (23, vc (aL (List.map XPassage.row x3.Passages))), (24, vc (aI (x3.Passages.length : Int))), (25, vc (aI v4))], [(3, [aI a0.Forecast.Tide.Mean, aL (List.map XPart.row a0.Forecast.Tide.Parts), aL (List.map XSurge.row a0.Forecast.Surges), aL (List.map XPoint.row a0.Chart.Points), aL (List.map XSegment.row a0.Chart.Segments), aL (List.map XShip.row a0.Fleet), aI a0.Regime.Gap, aB a0.Regime.NoMeet, aI a0.Crew.Tugs, aI a0.Crew.Pilots, aI a0.Crew.Rest, aL (List.map rI a0.Crew.Moves)])], []⟩ → go Tryz.prog (.code (.loop c_spec_FirstGrounding_2) :: [.blk 2, .blk 1, .code c_spec_FirstGrounding_n2, .code (.loop c_spec_FirstGrounding_1), .blk 0, .code c_spec_FirstGrounding_n1]) (Ret [6, 7] [.sc (.v (.int .i64 zr.1)), .sc (.v (.int .i64 zr.2))]) .normal (some σ)) : ∀ (n : Nat) (v10 : Int) (r : Int × Int), f_spec_FirstGrounding_3 a2 v1 a1 x3 v4 a0 x6 k_spec_FirstGrounding_2 n v10 = some r → ∀ σ : St, σ.kept [2, 3, 8, 11, 14, 15, 16, 17, 23, 24, 25] [3, 11] [] = ⟨[(2, vc (aL (List.map rI a2))), (3, vc (.pb 3 0)), (8, vc (aI v1)), (11, vc (.pb 11 0)), (14, vc (aI v10)), (15, vc (aL (List.map XOption.row a1))), (16, vc (aI (a1.length : Int))), (17, vc (aI v1)), (23, vc (aL (List.map XPassage.row x3.Passages))), (24, vc (aI (x3.Passages.length : Int))), (25, vc (aI v4))], [(3, [aI a0.Forecast.Tide.Mean, aL (List.map XPart.row a0.Forecast.Tide.Parts), aL (List.map XSurge.row a0.Forecast.Surges), aL (List.map XPoint.row a0.Chart.Points), aL (List.map XSegment.row a0.Chart.Segments), aL (List.map XShip.row a0.Fleet), aI a0.Regime.Gap, aB a0.Regime.NoMeet, aI a0.Crew.Tugs, aI a0.Crew.Pilots, aI a0.Crew.Rest, aL (List.map rI a0.Crew.Moves)]), (11, [aI x6.Ship, aI x6.Segment, aB x6.Toward, aI x6.Start, aI x6.End])], []⟩ → go Tryz.prog (.code (.loop c_spec_FirstGrounding_3) :: [.blk 4, .blk 3, .code c_spec_FirstGrounding_n3, .code (.loop c_spec_FirstGrounding_2), .blk 2, .blk 1, .code c_spec_FirstGrounding_n2, .code (.loop c_spec_FirstGrounding_1), .blk 0, .code c_spec_FirstGrounding_n1]) (Ret [6, 7] [.sc (.v (.int .i64 r.1)), .sc (.v (.int .i64 r.2))]) .normal (some σ) := by
  intro n
  induction n with
  | zero => intro _ r h; cases h
  | succ n ih =>
    intro v10 r h σ hσ
    rw [f_spec_FirstGrounding_3] at h
    refine go_round ?_
    rcases Bool.eq_false_or_eq_true (decide (v10 ≤ x6.End)) with hb11 | hb11
    · rw [ite_t hb11] at h
      try simp only [hσ, hb11, c_spec_FirstGrounding_3, Nat.reduceBEq, Nat.reduceMul, Nat.reduceAdd, Nat.reduceDiv, Int.reduceBEq, rules2, rulesX, rowsX]
      refine go_fr_of rfl ?_
      obtain ⟨r12, hr12, h⟩ := ob h
      try simp only [hb11, Nat.reduceBEq, Nat.reduceMul, Nat.reduceAdd, Nat.reduceDiv, Int.reduceBEq, rules2, rulesX, rowsX]
      refine go_dcallI (w_spec_l24Level _ _ _ _ hr12) rfl rfl (Nat.le_of_ble_eq_true rfl) ?_
      obtain ⟨x13, hx13, h⟩ := ob h
      obtain ⟨r14, hr14, h⟩ := ob h
      try simp only [hb11, hx13, Nat.reduceBEq, Nat.reduceMul, Nat.reduceAdd, Nat.reduceDiv, Int.reduceBEq, rules2, rulesX, rowsX]
      refine go_dcallI (w_spec_LevelFor _ _ _ _ hr14) rfl rfl (Nat.le_of_ble_eq_true rfl) ?_
      rcases Bool.eq_false_or_eq_true (decide (r12 < r14)) with hb15 | hb15
      · rw [ite_t hb15] at h
        try simp only [hb11, hx13, hb15, Nat.reduceBEq, Nat.reduceMul, Nat.reduceAdd, Nat.reduceDiv, Int.reduceBEq, rules2, rulesX, rowsX]
        cases h
        exact ⟨⟨rfl, rfl, trivial⟩, rfl⟩
      · rw [ite_f hb15] at h
        try simp only [hb11, hx13, hb15, Nat.reduceBEq, Nat.reduceMul, Nat.reduceAdd, Nat.reduceDiv, Int.reduceBEq, rules2, rulesX, rowsX]
        refine ih _ _ h _ ?_
        try simp only [hb11, hx13, hb15, Nat.reduceBEq, Nat.reduceMul, Nat.reduceAdd, Nat.reduceDiv, Int.reduceBEq, rules2, rulesX, rowsX, List.map_nil]
    · rw [ite_f hb11] at h
      try simp only [hσ, hb11, c_spec_FirstGrounding_3, c_spec_FirstGrounding_n3, Nat.reduceBEq, Nat.reduceMul, Nat.reduceAdd, Nat.reduceDiv, Int.reduceBEq, rules2, rulesX, rowsX]
      refine hk_spec_FirstGrounding_2 _ _ h _ ?_
      try simp only [hb11, Nat.reduceBEq, Nat.reduceMul, Nat.reduceAdd, Nat.reduceDiv, Int.reduceBEq, rules2, rulesX, rowsX, List.map_nil]
theorem w_spec_FirstGrounding_2 (a2 : List Int) (v1 : Int) (a1 : List XOption) (x3 : XOption) (a0 : XHarbour) (k_spec_FirstGrounding_1 : Int → Option (Int × Int)) (hk_spec_FirstGrounding_1 : ∀ (v1 : Int) zr, k_spec_FirstGrounding_1 v1 = some zr → ∀ σ : St, σ.kept [2, 3, 15, 16, 17] [3] [] = ⟨[(2, vc (aL (List.map rI a2))), (3, vc (.pb 3 0)), (15, vc (aL (List.map XOption.row a1))), (16, vc (aI (a1.length : Int))), (17, vc (aI v1))], [(3, [aI a0.Forecast.Tide.Mean, aL (List.map XPart.row a0.Forecast.Tide.Parts), aL (List.map XSurge.row a0.Forecast.Surges), aL (List.map XPoint.row a0.Chart.Points), aL (List.map XSegment.row a0.Chart.Segments), aL (List.map XShip.row a0.Fleet), aI a0.Regime.Gap, aB a0.Regime.NoMeet, aI a0.Crew.Tugs, aI a0.Crew.Pilots, aI a0.Crew.Rest, aL (List.map rI a0.Crew.Moves)])], []⟩ → go Tryz.prog (.code (.loop c_spec_FirstGrounding_1) :: [.blk 0, .code c_spec_FirstGrounding_n1]) (Ret [6, 7] [.sc (.v (.int .i64 zr.1)), .sc (.v (.int .i64 zr.2))]) .normal (some σ)) : ∀ (n : Nat) (v4 : Int) (r : Int × Int), f_spec_FirstGrounding_2 a2 v1 a1 x3 a0 k_spec_FirstGrounding_1 n v4 = some r → ∀ σ : St, σ.kept [2, 3, 8, 15, 16, 17, 23, 24, 25] [3] [] = ⟨[(2, vc (aL (List.map rI a2))), (3, vc (.pb 3 0)), (8, vc (aI v1)), (15, vc (aL (List.map XOption.row a1))), (16, vc (aI (a1.length : Int))), (17, vc (aI v1)), (23, vc (aL (List.map XPassage.row x3.Passages))), (24, vc (aI (x3.Passages.length : Int))), (25, vc (aI v4))], [(3, [aI a0.Forecast.Tide.Mean, aL (List.map XPart.row a0.Forecast.Tide.Parts), aL (List.map XSurge.row a0.Forecast.Surges), aL (List.map XPoint.row a0.Chart.Points), aL (List.map XSegment.row a0.Chart.Segments), aL (List.map XShip.row a0.Fleet), aI a0.Regime.Gap, aB a0.Regime.NoMeet, aI a0.Crew.Tugs, aI a0.Crew.Pilots, aI a0.Crew.Rest, aL (List.map rI a0.Crew.Moves)])], []⟩ → go Tryz.prog (.code (.loop c_spec_FirstGrounding_2) :: [.blk 2, .blk 1, .code c_spec_FirstGrounding_n2, .code (.loop c_spec_FirstGrounding_1), .blk 0, .code c_spec_FirstGrounding_n1]) (Ret [6, 7] [.sc (.v (.int .i64 r.1)), .sc (.v (.int .i64 r.2))]) .normal (some σ) := by
  intro n
  induction n with
  | zero => intro _ r h; cases h
  | succ n ih =>
    intro v4 r h σ hσ
    rw [f_spec_FirstGrounding_2] at h
    refine go_round ?_
    rcases Bool.eq_false_or_eq_true (decide (v4 < (x3.Passages.length : Int))) with hb5 | hb5
    · rw [ite_t hb5] at h
      obtain ⟨x6, hx6, h⟩ := ob h
      try simp only [hσ, hb5, hx6, c_spec_FirstGrounding_2, Nat.reduceBEq, Nat.reduceMul, Nat.reduceAdd, Nat.reduceDiv, Int.reduceBEq, rules2, rulesX, rowsX]
      refine go_al rfl rfl ?_
      obtain ⟨r7, hr7, h⟩ := ob h
      try simp only [hb5, hx6, Nat.reduceBEq, Nat.reduceMul, Nat.reduceAdd, Nat.reduceDiv, Int.reduceBEq, rules2, rulesX, rowsX]
      refine go_callI (w_spec_ClearanceOn _ _ _ _ hr7) rfl rfl (Nat.le_of_ble_eq_true rfl) ?_
      rcases Bool.eq_false_or_eq_true r7.2 with hb8 | hb8
      · rw [ite_t hb8] at h
        rcases Bool.eq_false_or_eq_true (decide ((0 : Int) ≤ r7.1)) with hb9 | hb9
        · rw [ite_t hb9] at h
          try simp only [hb5, hx6, hb8, hb9, c_spec_FirstGrounding_n3, Nat.reduceBEq, Nat.reduceMul, Nat.reduceAdd, Nat.reduceDiv, Int.reduceBEq, rules2, rulesX, rowsX]
          refine ih _ _ h _ ?_
          try simp only [hb5, hx6, hb8, hb9, Nat.reduceBEq, Nat.reduceMul, Nat.reduceAdd, Nat.reduceDiv, Int.reduceBEq, rules2, rulesX, rowsX, List.map_nil]
        · rw [ite_f hb9] at h
          try simp only [hb5, hx6, hb8, hb9, Nat.reduceBEq, Nat.reduceMul, Nat.reduceAdd, Nat.reduceDiv, Int.reduceBEq, rules2, rulesX, rowsX]
          refine w_spec_FirstGrounding_3 _ _ _ _ _ _ _ (f_spec_FirstGrounding_2 a2 v1 a1 x3 a0 k_spec_FirstGrounding_1 n) ih _ _ _ h _ ?_
          try simp only [hb5, hx6, hb8, hb9, Nat.reduceBEq, Nat.reduceMul, Nat.reduceAdd, Nat.reduceDiv, Int.reduceBEq, rules2, rulesX, rowsX, List.map_nil]
      · rw [ite_f hb8] at h
        try simp only [hb5, hx6, hb8, c_spec_FirstGrounding_n3, Nat.reduceBEq, Nat.reduceMul, Nat.reduceAdd, Nat.reduceDiv, Int.reduceBEq, rules2, rulesX, rowsX]
        refine ih _ _ h _ ?_
        try simp only [hb5, hx6, hb8, Nat.reduceBEq, Nat.reduceMul, Nat.reduceAdd, Nat.reduceDiv, Int.reduceBEq, rules2, rulesX, rowsX, List.map_nil]
    · rw [ite_f hb5] at h
      try simp only [hσ, hb5, c_spec_FirstGrounding_2, c_spec_FirstGrounding_n2, Nat.reduceBEq, Nat.reduceMul, Nat.reduceAdd, Nat.reduceDiv, Int.reduceBEq, rules2, rulesX, rowsX]
      refine hk_spec_FirstGrounding_1 _ _ h _ ?_
      try simp only [hb5, Nat.reduceBEq, Nat.reduceMul, Nat.reduceAdd, Nat.reduceDiv, Int.reduceBEq, rules2, rulesX, rowsX, List.map_nil]
theorem w_spec_FirstGrounding_1 (a2 : List Int) (a1 : List XOption) (a0 : XHarbour) : ∀ (n : Nat) (v1 : Int) (r : Int × Int), f_spec_FirstGrounding_1 a2 a1 a0 n v1 = some r → ∀ σ : St, σ.kept [2, 3, 15, 16, 17] [3] [] = ⟨[(2, vc (aL (List.map rI a2))), (3, vc (.pb 3 0)), (15, vc (aL (List.map XOption.row a1))), (16, vc (aI (a1.length : Int))), (17, vc (aI v1))], [(3, [aI a0.Forecast.Tide.Mean, aL (List.map XPart.row a0.Forecast.Tide.Parts), aL (List.map XSurge.row a0.Forecast.Surges), aL (List.map XPoint.row a0.Chart.Points), aL (List.map XSegment.row a0.Chart.Segments), aL (List.map XShip.row a0.Fleet), aI a0.Regime.Gap, aB a0.Regime.NoMeet, aI a0.Crew.Tugs, aI a0.Crew.Pilots, aI a0.Crew.Rest, aL (List.map rI a0.Crew.Moves)])], []⟩ → go Tryz.prog (.code (.loop c_spec_FirstGrounding_1) :: [.blk 0, .code c_spec_FirstGrounding_n1]) (Ret [6, 7] [.sc (.v (.int .i64 r.1)), .sc (.v (.int .i64 r.2))]) .normal (some σ) := by
  intro n
  induction n with
  | zero => intro _ r h; cases h
  | succ n ih =>
    intro v1 r h σ hσ
    rw [f_spec_FirstGrounding_1] at h
    refine go_round ?_
    rcases Bool.eq_false_or_eq_true (decide (v1 < (a1.length : Int))) with hb2 | hb2
    · rw [ite_t hb2] at h
      obtain ⟨x3, hx3, h⟩ := ob h
      try simp only [hσ, hb2, hx3, c_spec_FirstGrounding_1, Nat.reduceBEq, Nat.reduceMul, Nat.reduceAdd, Nat.reduceDiv, Int.reduceBEq, rules2, rulesX, rowsX]
      refine go_al rfl rfl ?_
      try simp only [hb2, hx3, Nat.reduceBEq, Nat.reduceMul, Nat.reduceAdd, Nat.reduceDiv, Int.reduceBEq, rules2, rulesX, rowsX]
      refine w_spec_FirstGrounding_2 _ _ _ _ _ (f_spec_FirstGrounding_1 a2 a1 a0 n) ih _ _ _ h _ ?_
      try simp only [hb2, hx3, Nat.reduceBEq, Nat.reduceMul, Nat.reduceAdd, Nat.reduceDiv, Int.reduceBEq, rules2, rulesX, rowsX, List.map_nil]
    · rw [ite_f hb2] at h
      try simp only [hσ, hb2, c_spec_FirstGrounding_1, c_spec_FirstGrounding_n1, Nat.reduceBEq, Nat.reduceMul, Nat.reduceAdd, Nat.reduceDiv, Int.reduceBEq, rules2, rulesX, rowsX]
      cases h
      exact ⟨⟨rfl, rfl, trivial⟩, rfl⟩
theorem e_spec_FirstGrounding : entry Tryz.prog 18 = some (c_spec_FirstGrounding.strip, [6, 7], 71) := by kernel_rfl
theorem w_spec_FirstGrounding (a0 : XHarbour) (a1 : List XOption) (a2 : List Int) (r : Int × Int) (h : f_spec_FirstGrounding a0 a1 a2 = some r) : FC Tryz.prog 18 [.ag (XHarbour.row a0), .sc (.sl (List.map XOption.row a1)), .sc (.sl (List.map rI a2))] [.sc (.v (.int .i64 r.1)), .sc (.v (.int .i64 r.2))] := by
  unfold f_spec_FirstGrounding at h
  refine FC_go (σ := ⟨[(0, va [aI a0.Forecast.Tide.Mean, aL (List.map XPart.row a0.Forecast.Tide.Parts), aL (List.map XSurge.row a0.Forecast.Surges), aL (List.map XPoint.row a0.Chart.Points), aL (List.map XSegment.row a0.Chart.Segments), aL (List.map XShip.row a0.Fleet), aI a0.Regime.Gap, aB a0.Regime.NoMeet, aI a0.Crew.Tugs, aI a0.Crew.Pilots, aI a0.Crew.Rest, aL (List.map rI a0.Crew.Moves)]), (1, vc (aL (List.map XOption.row a1))), (2, vc (aL (List.map rI a2)))], [], []⟩) mixed e_spec_FirstGrounding rfl rfl ?_
  simp only [c_spec_FirstGrounding]
  try simp only [Nat.reduceBEq, Nat.reduceMul, Nat.reduceAdd, Nat.reduceDiv, Int.reduceBEq, rules2, rulesX, rowsX]
  refine go_bx rfl rfl rfl ?_
  try simp only [Nat.reduceBEq, Nat.reduceMul, Nat.reduceAdd, Nat.reduceDiv, Int.reduceBEq, rules2, rulesX, rowsX]
  refine w_spec_FirstGrounding_1 _ _ _ _ _ _ h _ ?_
  try simp only [Nat.reduceBEq, Nat.reduceMul, Nat.reduceAdd, Nat.reduceDiv, Int.reduceBEq, rules2, rulesX, rowsX, List.map_nil]
/- 94: impl_within -/
def c_impl_within : ACode := (.seq (.reg [(none, .mv 6 (KB false))]) (.seq (.reg [(none, .mv 7 (S 1)), (none, .mv 8 (S 0)), (none, .bin 9 .leq (S 7) (S 8)), (none, .mv 10 (S 9)), (some (10, true), .mv 11 (S 0)), (some (10, true), .mv 12 (S 2)), (some (10, true), .bin 13 .leq (S 11) (S 12)), (none, .pick 14 (S 10) (S 13) (KB false)), (none, .mv 6 (S 14))]) .ret))
theorem e_impl_within : entry Tryz.prog 94 = some (c_impl_within.strip, [6], 15) := by kernel_rfl
theorem w_impl_within (a0 : Int) (a1 : Int) (a2 : Int) (r : Bool) (h : f_impl_within a0 a1 a2 = some r) : FC Tryz.prog 94 [.sc (.int .i64 a0), .sc (.int .i64 a1), .sc (.int .i64 a2)] [.sc (.v (.bool r))] := by
  unfold f_impl_within at h
  refine FC_go (σ := ⟨[(0, vc (aI a0)), (1, vc (aI a1)), (2, vc (aI a2))], [], []⟩) mixed e_impl_within rfl rfl ?_
  simp only [c_impl_within]
  rcases Bool.eq_false_or_eq_true (decide (a1 ≤ a0)) with hb1 | hb1
  · rw [ite_t hb1] at h
    try simp only [hb1, Nat.reduceBEq, Nat.reduceMul, Nat.reduceAdd, Nat.reduceDiv, Int.reduceBEq, rules2, rulesX, rowsX]
    cases h
    exact ⟨⟨rfl, trivial⟩, rfl⟩
  · rw [ite_f hb1] at h
    try simp only [hb1, Nat.reduceBEq, Nat.reduceMul, Nat.reduceAdd, Nat.reduceDiv, Int.reduceBEq, rules2, rulesX, rowsX]
    cases h
    exact ⟨⟨rfl, trivial⟩, rfl⟩
/- 135: impl_isPeriod -/
def c_impl_isPeriod : ACode := (.seq (.reg [(none, .mv 2 (KB false))]) (.seq (.reg [(none, .mv 3 (S 0)), (none, .call 4 94 [(S 3), (K 4), (K 2880)]), (none, .mv 5 (S 4)), (some (5, true), .mv 6 (S 0)), (some (5, true), .bin 7 .rem (S 6) (K 4)), (some (5, true), .bin 8 .eql (S 7) (K 0)), (none, .pick 9 (S 5) (S 8) (KB false)), (none, .mv 2 (S 9))]) .ret))
theorem e_impl_isPeriod : entry Tryz.prog 135 = some (c_impl_isPeriod.strip, [2], 10) := by kernel_rfl
theorem w_impl_isPeriod (a0 : Int) (r : Bool) (h : f_impl_isPeriod a0 = some r) : FC Tryz.prog 135 [.sc (.int .i64 a0)] [.sc (.v (.bool r))] := by
  unfold f_impl_isPeriod at h
  refine FC_go (σ := ⟨[(0, vc (aI a0))], [], []⟩) mixed e_impl_isPeriod rfl rfl ?_
  simp only [c_impl_isPeriod]
  obtain ⟨r1, hr1, h⟩ := ob h
  try simp only [Nat.reduceBEq, Nat.reduceMul, Nat.reduceAdd, Nat.reduceDiv, Int.reduceBEq, rules2, rulesX, rowsX]
  refine go_callI (w_impl_within _ _ _ _ hr1) rfl rfl (Nat.le_of_ble_eq_true rfl) ?_
  rcases Bool.eq_false_or_eq_true r1 with hb2 | hb2
  · rw [ite_t hb2] at h
    try simp only [hb2, Nat.reduceBEq, Nat.reduceMul, Nat.reduceAdd, Nat.reduceDiv, Int.reduceBEq, rules2, rulesX, rowsX]
    cases h
    exact ⟨⟨rfl, trivial⟩, rfl⟩
  · rw [ite_f hb2] at h
    try simp only [hb2, Nat.reduceBEq, Nat.reduceMul, Nat.reduceAdd, Nat.reduceDiv, Int.reduceBEq, rules2, rulesX, rowsX]
    cases h
    exact ⟨⟨rfl, trivial⟩, rfl⟩
/- 133: impl_PartOk -/
def c_impl_PartOk : ACode := (.seq (.reg [(none, .box 1 (S 0)), (none, .mv 2 (KB false))]) (.seq (.reg [(none, .faddr 3 (S 1) 0), (none, .load 4 (S 3) false 1), (none, .call 5 94 [(S 4), (K 0), (K 1000)]), (none, .mv 6 (S 5)), (some (6, true), .faddr 7 (S 1) 1), (some (6, true), .load 8 (S 7) false 1), (some (6, true), .call 9 135 [(S 8)]), (none, .pick 10 (S 6) (S 9) (KB false)), (none, .mv 11 (S 10)), (some (11, true), .faddr 12 (S 1) 2), (some (11, true), .load 13 (S 12) false 1), (some (11, true), .faddr 14 (S 1) 1), (some (11, true), .load 15 (S 14) false 1), (some (11, true), .bin 16 .sub (S 15) (K 1)), (some (11, true), .call 17 94 [(S 13), (K 0), (S 16)]), (none, .pick 18 (S 11) (S 17) (KB false)), (none, .mv 2 (S 18))]) .ret))
theorem e_impl_PartOk : entry Tryz.prog 133 = some (c_impl_PartOk.strip, [2], 19) := by kernel_rfl
theorem w_impl_PartOk (a0 : XPart) (r : Bool) (h : f_impl_PartOk a0 = some r) : FC Tryz.prog 133 [.ag (XPart.row a0)] [.sc (.v (.bool r))] := by
  unfold f_impl_PartOk at h
  refine FC_go (σ := ⟨[(0, va [aI a0.Amp, aI a0.Period, aI a0.Phase])], [], []⟩) mixed e_impl_PartOk rfl rfl ?_
  simp only [c_impl_PartOk]
  try simp only [Nat.reduceBEq, Nat.reduceMul, Nat.reduceAdd, Nat.reduceDiv, Int.reduceBEq, rules2, rulesX, rowsX]
  refine go_bx rfl rfl rfl ?_
  obtain ⟨r1, hr1, h⟩ := ob h
  try simp only [Nat.reduceBEq, Nat.reduceMul, Nat.reduceAdd, Nat.reduceDiv, Int.reduceBEq, rules2, rulesX, rowsX]
  refine go_callI (w_impl_within _ _ _ _ hr1) rfl rfl (Nat.le_of_ble_eq_true rfl) ?_
  rcases Bool.eq_false_or_eq_true r1 with hb2 | hb2
  · rw [ite_t hb2] at h
    obtain ⟨r3, hr3, h⟩ := ob h
    try simp only [hb2, Nat.reduceBEq, Nat.reduceMul, Nat.reduceAdd, Nat.reduceDiv, Int.reduceBEq, rules2, rulesX, rowsX]
    refine go_callI (w_impl_isPeriod _ _ hr3) rfl rfl (Nat.le_of_ble_eq_true rfl) ?_
    rcases Bool.eq_false_or_eq_true r3 with hb4 | hb4
    · rw [ite_t hb4] at h
      obtain ⟨r5, hr5, h⟩ := ob h
      try simp only [hb2, hb4, Nat.reduceBEq, Nat.reduceMul, Nat.reduceAdd, Nat.reduceDiv, Int.reduceBEq, rules2, rulesX, rowsX]
      refine go_callI (w_impl_within _ _ _ _ hr5) rfl rfl (Nat.le_of_ble_eq_true rfl) ?_
      try simp only [hb2, hb4, Nat.reduceBEq, Nat.reduceMul, Nat.reduceAdd, Nat.reduceDiv, Int.reduceBEq, rules2, rulesX, rowsX]
      cases h
      exact ⟨⟨rfl, trivial⟩, rfl⟩
    · rw [ite_f hb4] at h
      try simp only [hb2, hb4, Nat.reduceBEq, Nat.reduceMul, Nat.reduceAdd, Nat.reduceDiv, Int.reduceBEq, rules2, rulesX, rowsX]
      cases h
      exact ⟨⟨rfl, trivial⟩, rfl⟩
  · rw [ite_f hb2] at h
    try simp only [hb2, Nat.reduceBEq, Nat.reduceMul, Nat.reduceAdd, Nat.reduceDiv, Int.reduceBEq, rules2, rulesX, rowsX]
    cases h
    exact ⟨⟨rfl, trivial⟩, rfl⟩
/- 120: impl_TideOk -/
def c_impl_TideOk_1 : ACode := .seq (.reg [(none, .keep [16, 17, 18] [] [])]) (.seq (.reg [(none, .bin 19 .lss (S 18) (S 17))]) (.seq (.cond (S 19) .skip (.exit 0)) (.seq (.block 1 (.seq (.reg [(none, .iaddr 20 (S 16) (S 18) 3), (none, .load 21 (S 20) true 3), (none, .alloc 4 [aI 0, aI 0, aI 0]), (none, .store (S 4) (S 21) 3)]) (.seq (.reg [(none, .load 22 (S 4) true 3), (none, .call 23 133 [(S 22)]), (none, .un 24 .not (S 23))]) (.cond (S 24) (.seq (.reg [(none, .mv 2 (KB false))]) .ret) .skip)))) (.reg [(none, .bin 25 .add (S 18) (K 1)), (none, .mv 18 (S 25))]))))
def c_impl_TideOk_n1 : ACode := (.seq (.reg [(none, .mv 2 (KB true))]) .ret)
def c_impl_TideOk : ACode := (.seq (.reg [(none, .box 1 (S 0)), (none, .mv 2 (KB false))]) (.seq (.seq (.reg [(none, .faddr 5 (S 1) 0), (none, .load 6 (S 5) false 1), (none, .call 7 94 [(S 6), (K (-1000)), (K 1000)]), (none, .un 8 .not (S 7)), (none, .mv 9 (S 8)), (some (9, false), .faddr 10 (S 1) 1), (some (9, false), .load 11 (S 10) false 1), (some (9, false), .len 12 (S 11)), (some (9, false), .bin 13 .gtr (S 12) (K 4)), (none, .pick 14 (S 9) (KB true) (S 13))]) (.cond (S 14) (.seq (.reg [(none, .mv 2 (KB false))]) .ret) .skip)) (.seq (.seq (.reg [(none, .faddr 15 (S 1) 1), (none, .load 16 (S 15) false 1), (none, .len 17 (S 16)), (none, .mv 18 (K 0))]) (.block 0 (.loop c_impl_TideOk_1))) c_impl_TideOk_n1)))
theorem w_impl_TideOk_1 (a0 : XTide) : ∀ (n : Nat) (v4 : Int) (r : Bool), f_impl_TideOk_1 a0 n v4 = some r → ∀ σ : St, σ.kept [16, 17, 18] [] [] = ⟨[(16, vc (aL (List.map XPart.row a0.Parts))), (17, vc (aI (a0.Parts.length : Int))), (18, vc (aI v4))], [], []⟩ → go Tryz.prog (.code (.loop c_impl_TideOk_1) :: [.blk 0, .code c_impl_TideOk_n1]) (Ret [2] [.sc (.v (.bool r))]) .normal (some σ) := by
  intro n
  induction n with
  | zero => intro _ r h; cases h
  | succ n ih =>
    intro v4 r h σ hσ
    rw [f_impl_TideOk_1] at h
    refine go_round ?_
    rcases Bool.eq_false_or_eq_true (decide (v4 < (a0.Parts.length : Int))) with hb5 | hb5
    · rw [ite_t hb5] at h
      obtain ⟨x6, hx6, h⟩ := ob h
      try simp only [hσ, hb5, hx6, c_impl_TideOk_1, Nat.reduceBEq, Nat.reduceMul, Nat.reduceAdd, Nat.reduceDiv, Int.reduceBEq, rules2, rulesX, rowsX]
      refine go_al rfl rfl ?_
      obtain ⟨r7, hr7, h⟩ := ob h
      try simp only [hb5, hx6, Nat.reduceBEq, Nat.reduceMul, Nat.reduceAdd, Nat.reduceDiv, Int.reduceBEq, rules2, rulesX, rowsX]
      refine go_callI (w_impl_PartOk _ _ hr7) rfl rfl (Nat.le_of_ble_eq_true rfl) ?_
      rcases Bool.eq_false_or_eq_true r7 with hb8 | hb8
      · rw [ite_t hb8] at h
        try simp only [hb5, hx6, hb8, Nat.reduceBEq, Nat.reduceMul, Nat.reduceAdd, Nat.reduceDiv, Int.reduceBEq, rules2, rulesX, rowsX]
        refine ih _ _ h _ ?_
        try simp only [hb5, hx6, hb8, Nat.reduceBEq, Nat.reduceMul, Nat.reduceAdd, Nat.reduceDiv, Int.reduceBEq, rules2, rulesX, rowsX, List.map_nil]
      · rw [ite_f hb8] at h
        try simp only [hb5, hx6, hb8, Nat.reduceBEq, Nat.reduceMul, Nat.reduceAdd, Nat.reduceDiv, Int.reduceBEq, rules2, rulesX, rowsX]
        cases h
        exact ⟨⟨rfl, trivial⟩, rfl⟩
    · rw [ite_f hb5] at h
      try simp only [hσ, hb5, c_impl_TideOk_1, c_impl_TideOk_n1, Nat.reduceBEq, Nat.reduceMul, Nat.reduceAdd, Nat.reduceDiv, Int.reduceBEq, rules2, rulesX, rowsX]
      cases h
      exact ⟨⟨rfl, trivial⟩, rfl⟩
theorem e_impl_TideOk : entry Tryz.prog 120 = some (c_impl_TideOk.strip, [2], 26) := by kernel_rfl
theorem w_impl_TideOk (a0 : XTide) (r : Bool) (h : f_impl_TideOk a0 = some r) : FC Tryz.prog 120 [.ag (XTide.row a0)] [.sc (.v (.bool r))] := by
  unfold f_impl_TideOk at h
  refine FC_go (σ := ⟨[(0, va [aI a0.Mean, aL (List.map XPart.row a0.Parts)])], [], []⟩) mixed e_impl_TideOk rfl rfl ?_
  simp only [c_impl_TideOk]
  try simp only [Nat.reduceBEq, Nat.reduceMul, Nat.reduceAdd, Nat.reduceDiv, Int.reduceBEq, rules2, rulesX, rowsX]
  refine go_bx rfl rfl rfl ?_
  obtain ⟨r1, hr1, h⟩ := ob h
  try simp only [Nat.reduceBEq, Nat.reduceMul, Nat.reduceAdd, Nat.reduceDiv, Int.reduceBEq, rules2, rulesX, rowsX]
  refine go_callI (w_impl_within _ _ _ _ hr1) rfl rfl (Nat.le_of_ble_eq_true rfl) ?_
  rcases Bool.eq_false_or_eq_true r1 with hb2 | hb2
  · rw [ite_t hb2] at h
    rcases Bool.eq_false_or_eq_true (decide ((4 : Int) < (a0.Parts.length : Int))) with hb3 | hb3
    · rw [ite_t hb3] at h
      try simp only [hb2, hb3, Nat.reduceBEq, Nat.reduceMul, Nat.reduceAdd, Nat.reduceDiv, Int.reduceBEq, rules2, rulesX, rowsX]
      cases h
      exact ⟨⟨rfl, trivial⟩, rfl⟩
    · rw [ite_f hb3] at h
      try simp only [hb2, hb3, Nat.reduceBEq, Nat.reduceMul, Nat.reduceAdd, Nat.reduceDiv, Int.reduceBEq, rules2, rulesX, rowsX]
      refine w_impl_TideOk_1 _ _ _ _ h _ ?_
      try simp only [hb2, hb3, Nat.reduceBEq, Nat.reduceMul, Nat.reduceAdd, Nat.reduceDiv, Int.reduceBEq, rules2, rulesX, rowsX, List.map_nil]
  · rw [ite_f hb2] at h
    try simp only [hb2, Nat.reduceBEq, Nat.reduceMul, Nat.reduceAdd, Nat.reduceDiv, Int.reduceBEq, rules2, rulesX, rowsX]
    cases h
    exact ⟨⟨rfl, trivial⟩, rfl⟩
/- 96: impl_isMinute -/
def c_impl_isMinute : ACode := (.seq (.reg [(none, .mv 2 (KB false))]) (.seq (.reg [(none, .mv 3 (S 0)), (none, .call 4 94 [(S 3), (K 0), (K 2880)]), (none, .mv 2 (S 4))]) .ret))
theorem e_impl_isMinute : entry Tryz.prog 96 = some (c_impl_isMinute.strip, [2], 5) := by kernel_rfl
theorem w_impl_isMinute (a0 : Int) (r : Bool) (h : f_impl_isMinute a0 = some r) : FC Tryz.prog 96 [.sc (.int .i64 a0)] [.sc (.v (.bool r))] := by
  unfold f_impl_isMinute at h
  refine FC_go (σ := ⟨[(0, vc (aI a0))], [], []⟩) mixed e_impl_isMinute rfl rfl ?_
  simp only [c_impl_isMinute]
  obtain ⟨r1, hr1, h⟩ := ob h
  try simp only [Nat.reduceBEq, Nat.reduceMul, Nat.reduceAdd, Nat.reduceDiv, Int.reduceBEq, rules2, rulesX, rowsX]
  refine go_callI (w_impl_within _ _ _ _ hr1) rfl rfl (Nat.le_of_ble_eq_true rfl) ?_
  try simp only [Nat.reduceBEq, Nat.reduceMul, Nat.reduceAdd, Nat.reduceDiv, Int.reduceBEq, rules2, rulesX, rowsX]
  cases h
  exact ⟨⟨rfl, trivial⟩, rfl⟩
end Go.Vi
