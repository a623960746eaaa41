/-
  Walks: what the plain definitions compute is what the functions return. By program. No condition.
-/
import Derived.Test.YtldjoojbhbbhdaaGreatDoorSNf
import Derived.Test.YtldjoojbhbbhdaaGreatDoorChecked
import Derived.Test.YtldjoojbhbbhdaaGreatDoorSSh
import Derived.KernelRfl
import Derived.Test.YtldjoojbhbbhdaaGreatDoorSWSureLinesa
namespace Go.Vi
open Go.Proofs
set_option linter.unusedSimpArgs false
set_option linter.unusedVariables false
set_option maxRecDepth 4000
set_option maxHeartbeats 2000000
attribute [local irreducible] go AWP
/- 103: impl_onSegment -/
def c_impl_onSegment : ACode := (.seq (.reg [(none, .box 3 (S 0)), (none, .box 5 (S 2)), (none, .mv 6 (KB false))]) (.seq (.reg [(none, .load 7 (S 3) true 2), (none, .call 8 51 [(S 7)]), (none, .mv 9 (S 8)), (some (9, true), .load 10 (S 5) true 6), (some (9, true), .call 11 52 [(S 10)]), (none, .pick 12 (S 9) (S 11) (KB false)), (none, .mv 13 (S 12)), (some (13, true), .mv 14 (S 1)), (some (13, true), .faddr 15 (S 3) 1), (some (13, true), .load 16 (S 15) false 1), (some (13, true), .len 17 (S 16)), (some (13, true), .call 18 97 [(S 14), (S 17)]), (none, .pick 19 (S 13) (S 18) (KB false)), (none, .mv 6 (S 19))]) .ret))
theorem e_impl_onSegment : entry Tryz.prog 103 = some (c_impl_onSegment.strip, [6], 20) := by kernel_rfl
theorem w_impl_onSegment (a0 : XChart) (a1 : Int) (a2 : XShip) (r : Bool) (h : f_impl_onSegment a0 a1 a2 = some r) : FC Tryz.prog 103 [.ag (XChart.row a0), .sc (.int .i64 a1), .ag (XShip.row a2)] [.sc (.v (.bool r))] := by
  unfold f_impl_onSegment at h
  refine FC_go (σ := ⟨[(0, va [aL (List.map XPoint.row a0.Points), aL (List.map XSegment.row a0.Segments)]), (1, vc (aI a1)), (2, va [aS a2.Name, aI a2.Length, aI a2.Draught, aI a2.Line, aI a2.Tugs, aB a2.Slow])], [], []⟩) mixed e_impl_onSegment rfl rfl ?_
  simp only [c_impl_onSegment]
  try simp only [Nat.reduceBEq, Nat.reduceMul, Nat.reduceAdd, Nat.reduceDiv, Int.reduceBEq, rules2, rulesX, rowsX]
  refine go_bx rfl rfl rfl ?_
  try simp only [Nat.reduceBEq, Nat.reduceMul, Nat.reduceAdd, Nat.reduceDiv, Int.reduceBEq, rules2, rulesX, rowsX]
  refine go_bx rfl rfl rfl ?_
  obtain ⟨r1, hr1, h⟩ := ob h
  try simp only [Nat.reduceBEq, Nat.reduceMul, Nat.reduceAdd, Nat.reduceDiv, Int.reduceBEq, rules2, rulesX, rowsX]
  refine go_callI (w_impl_ChartOk _ _ hr1) rfl rfl (Nat.le_of_ble_eq_true rfl) ?_
  rcases Bool.eq_false_or_eq_true r1 with hb2 | hb2
  · rw [ite_t hb2] at h
    obtain ⟨r3, hr3, h⟩ := ob h
    try simp only [hb2, Nat.reduceBEq, Nat.reduceMul, Nat.reduceAdd, Nat.reduceDiv, Int.reduceBEq, rules2, rulesX, rowsX]
    refine go_callI (w_impl_ShipOk _ _ hr3) rfl rfl (Nat.le_of_ble_eq_true rfl) ?_
    rcases Bool.eq_false_or_eq_true r3 with hb4 | hb4
    · rw [ite_t hb4] at h
      obtain ⟨r5, hr5, h⟩ := ob h
      try simp only [hb2, hb4, Nat.reduceBEq, Nat.reduceMul, Nat.reduceAdd, Nat.reduceDiv, Int.reduceBEq, rules2, rulesX, rowsX]
      refine go_callI (w_impl_isIndex _ _ _ hr5) rfl rfl (Nat.le_of_ble_eq_true rfl) ?_
      try simp only [hb2, hb4, Nat.reduceBEq, Nat.reduceMul, Nat.reduceAdd, Nat.reduceDiv, Int.reduceBEq, rules2, rulesX, rowsX]
      cases h
      exact ⟨⟨rfl, trivial⟩, rfl⟩
    · rw [ite_f hb4] at h
      try simp only [hb2, hb4, Nat.reduceBEq, Nat.reduceMul, Nat.reduceAdd, Nat.reduceDiv, Int.reduceBEq, rules2, rulesX, rowsX]
      cases h
      exact ⟨⟨rfl, trivial⟩, rfl⟩
  · rw [ite_f hb2] at h
    try simp only [hb2, Nat.reduceBEq, Nat.reduceMul, Nat.reduceAdd, Nat.reduceDiv, Int.reduceBEq, rules2, rulesX, rowsX]
    cases h
    exact ⟨⟨rfl, trivial⟩, rfl⟩
/- 161: impl_Ship_squat -/
def c_impl_Ship_squat : ACode := (.seq (.reg [(none, .box 1 (S 0)), (none, .mv 2 (K 0))]) (.seq (.seq (.reg [(none, .faddr 3 (S 1) 5), (none, .load 4 (S 3) false 1)]) (.cond (S 4) (.seq (.reg [(none, .faddr 5 (S 1) 2), (none, .load 6 (S 5) false 1), (none, .bin 7 .quo (S 6) (K 50)), (none, .mv 2 (S 7))]) .ret) .skip)) (.seq (.reg [(none, .faddr 8 (S 1) 2), (none, .load 9 (S 8) false 1), (none, .bin 10 .quo (S 9) (K 20)), (none, .mv 2 (S 10))]) .ret)))
theorem e_impl_Ship_squat : entry Tryz.prog 161 = some (c_impl_Ship_squat.strip, [2], 11) := by kernel_rfl
theorem w_impl_Ship_squat (a0 : XShip) (r : Int) (h : f_impl_Ship_squat a0 = some r) : FC Tryz.prog 161 [.ag (XShip.row a0)] [.sc (.v (.int .i64 r))] := by
  unfold f_impl_Ship_squat at h
  refine FC_go (σ := ⟨[(0, va [aS a0.Name, aI a0.Length, aI a0.Draught, aI a0.Line, aI a0.Tugs, aB a0.Slow])], [], []⟩) mixed e_impl_Ship_squat rfl rfl ?_
  simp only [c_impl_Ship_squat]
  try simp only [Nat.reduceBEq, Nat.reduceMul, Nat.reduceAdd, Nat.reduceDiv, Int.reduceBEq, rules2, rulesX, rowsX]
  refine go_bx rfl rfl rfl ?_
  rcases Bool.eq_false_or_eq_true a0.Slow with hb1 | hb1
  · rw [ite_t hb1] at h
    try simp only [hb1, Nat.reduceBEq, Nat.reduceMul, Nat.reduceAdd, Nat.reduceDiv, Int.reduceBEq, rules2, rulesX, rowsX]
    cases h
    exact ⟨⟨rfl, trivial⟩, rfl⟩
  · rw [ite_f hb1] at h
    try simp only [hb1, Nat.reduceBEq, Nat.reduceMul, Nat.reduceAdd, Nat.reduceDiv, Int.reduceBEq, rules2, rulesX, rowsX]
    cases h
    exact ⟨⟨rfl, trivial⟩, rfl⟩
/- 138: impl_Ship_need -/
def c_impl_Ship_need : ACode := (.seq (.reg [(none, .box 1 (S 0)), (none, .mv 2 (K 0))]) (.seq (.drw [(some [6], (none, .faddr 3 (S 1) 2)), (some [6], (none, .load 4 (S 3) false 1)), (some [], (none, .load 5 (S 1) true 6)), (some [], (none, .call 6 161 [(S 5)])), (some [], (none, .bin 7 .add (S 4) (S 6))), (some [], (none, .bin 8 .add (S 7) (K 50))), (some [], (none, .mv 2 (S 8)))]) .ret))
theorem e_impl_Ship_need : entry Tryz.prog 138 = some (c_impl_Ship_need.strip, [2], 9) := by kernel_rfl
theorem w_impl_Ship_need (a0 : XShip) (r : Int) (h : f_impl_Ship_need a0 = some r) : FC Tryz.prog 138 [.ag (XShip.row a0)] [.sc (.v (.int .i64 r))] := by
  unfold f_impl_Ship_need at h
  refine FC_go (σ := ⟨[(0, va [aS a0.Name, aI a0.Length, aI a0.Draught, aI a0.Line, aI a0.Tugs, aB a0.Slow])], [], []⟩) mixed e_impl_Ship_need rfl rfl ?_
  simp only [c_impl_Ship_need]
  try simp only [Nat.reduceBEq, Nat.reduceMul, Nat.reduceAdd, Nat.reduceDiv, Int.reduceBEq, rules2, rulesX, rowsX]
  refine go_bx rfl rfl rfl ?_
  try simp only [Nat.reduceBEq, Nat.reduceMul, Nat.reduceAdd, Nat.reduceDiv, Int.reduceBEq, rules2, rulesX, rowsX]
  refine go_fr_of rfl ?_
  obtain ⟨r1, hr1, h⟩ := ob h
  try simp only [Nat.reduceBEq, Nat.reduceMul, Nat.reduceAdd, Nat.reduceDiv, Int.reduceBEq, rules2, rulesX, rowsX]
  refine go_dcallI (w_impl_Ship_squat _ _ hr1) rfl rfl (Nat.le_of_ble_eq_true rfl) ?_
  try simp only [Nat.reduceBEq, Nat.reduceMul, Nat.reduceAdd, Nat.reduceDiv, Int.reduceBEq, rules2, rulesX, rowsX]
  cases h
  exact ⟨⟨rfl, trivial⟩, rfl⟩
/- 106: impl_LevelFor -/
def c_impl_LevelFor : ACode := (.seq (.reg [(none, .box 3 (S 0)), (none, .box 5 (S 2)), (none, .mv 6 (K 0))]) (.seq (.seq (.reg [(none, .load 7 (S 3) true 2), (none, .mv 8 (S 1)), (none, .load 9 (S 5) true 6), (none, .call 10 103 [(S 7), (S 8), (S 9)]), (none, .un 11 .not (S 10))]) (.cond (S 11) (.seq (.reg [(none, .mv 6 (K 0))]) .ret) .skip)) (.seq (.drw [(some [], (none, .load 12 (S 5) true 6)), (some [], (none, .call 13 138 [(S 12)])), (some [13], (none, .faddr 14 (S 3) 1)), (some [13], (none, .load 15 (S 14) false 1)), (some [13], (none, .mv 16 (S 1))), (some [13], (none, .iaddr 17 (S 15) (S 16) 5)), (some [13], (none, .faddr 18 (S 17) 2)), (some [13], (none, .load 19 (S 18) false 1)), (some [], (none, .bin 20 .sub (S 13) (S 19))), (some [], (none, .mv 6 (S 20)))]) .ret)))
theorem e_impl_LevelFor : entry Tryz.prog 106 = some (c_impl_LevelFor.strip, [6], 21) := by kernel_rfl
theorem w_impl_LevelFor (a0 : XChart) (a1 : Int) (a2 : XShip) (r : Int) (h : f_impl_LevelFor a0 a1 a2 = some r) : FC Tryz.prog 106 [.ag (XChart.row a0), .sc (.int .i64 a1), .ag (XShip.row a2)] [.sc (.v (.int .i64 r))] := by
  unfold f_impl_LevelFor at h
  refine FC_go (σ := ⟨[(0, va [aL (List.map XPoint.row a0.Points), aL (List.map XSegment.row a0.Segments)]), (1, vc (aI a1)), (2, va [aS a2.Name, aI a2.Length, aI a2.Draught, aI a2.Line, aI a2.Tugs, aB a2.Slow])], [], []⟩) mixed e_impl_LevelFor rfl rfl ?_
  simp only [c_impl_LevelFor]
  try simp only [Nat.reduceBEq, Nat.reduceMul, Nat.reduceAdd, Nat.reduceDiv, Int.reduceBEq, rules2, rulesX, rowsX]
  refine go_bx rfl rfl rfl ?_
  try simp only [Nat.reduceBEq, Nat.reduceMul, Nat.reduceAdd, Nat.reduceDiv, Int.reduceBEq, rules2, rulesX, rowsX]
  refine go_bx rfl rfl rfl ?_
  obtain ⟨r1, hr1, h⟩ := ob h
  try simp only [Nat.reduceBEq, Nat.reduceMul, Nat.reduceAdd, Nat.reduceDiv, Int.reduceBEq, rules2, rulesX, rowsX]
  refine go_callI (w_impl_onSegment _ _ _ _ hr1) rfl rfl (Nat.le_of_ble_eq_true rfl) ?_
  rcases Bool.eq_false_or_eq_true r1 with hb2 | hb2
  · rw [ite_t hb2] at h
    try simp only [hb2, Nat.reduceBEq, Nat.reduceMul, Nat.reduceAdd, Nat.reduceDiv, Int.reduceBEq, rules2, rulesX, rowsX]
    refine go_fr_of rfl ?_
    obtain ⟨r3, hr3, h⟩ := ob h
    try simp only [hb2, Nat.reduceBEq, Nat.reduceMul, Nat.reduceAdd, Nat.reduceDiv, Int.reduceBEq, rules2, rulesX, rowsX]
    refine go_dcallI (w_impl_Ship_need _ _ hr3) rfl rfl (Nat.le_of_ble_eq_true rfl) ?_
    obtain ⟨x4, hx4, h⟩ := ob h
    try simp only [hb2, hx4, Nat.reduceBEq, Nat.reduceMul, Nat.reduceAdd, Nat.reduceDiv, Int.reduceBEq, rules2, rulesX, rowsX]
    cases h
    exact ⟨⟨rfl, trivial⟩, rfl⟩
  · rw [ite_f hb2] at h
    try simp only [hb2, Nat.reduceBEq, Nat.reduceMul, Nat.reduceAdd, Nat.reduceDiv, Int.reduceBEq, rules2, rulesX, rowsX]
    cases h
    exact ⟨⟨rfl, trivial⟩, rfl⟩
/- 135: impl_windowsOf -/
def c_impl_windowsOf_2 : ACode := .seq (.reg [(none, .keep [0, 3, 4, 5] [] [384])]) (.reg [(none, .mv 22 (S 3)), (none, .mv 23 (S 3)), (none, .len 24 (S 23)), (none, .bin 25 .sub (S 24) (K 1)), (none, .mv 26 (S 5)), (none, .iaddr 27 (S 22) (S 25) 2), (none, .faddr 28 (S 27) 1), (none, .store (S 28) (S 26) 1)])
def c_impl_windowsOf_3 : ACode := .seq (.reg [(none, .keep [0, 3, 4, 5] [] [384])]) (.reg [(none, .mv 9 (S 5)), (none, .bin 10 .add (S 9) (K 1)), (none, .mv 5 (S 10))])
def c_impl_windowsOf_1 : ACode := .seq (.reg [(none, .keep [0, 3, 4, 5] [] [384])]) (.seq (.seq (.reg [(none, .mv 7 (S 5)), (none, .bin 8 .leq (S 7) (K 2880))]) (.cond (S 8) .skip (.exit 0))) (.seq (.block 1 (.seq (.seq (.reg [(none, .mv 11 (S 0)), (none, .mv 12 (S 5)), (none, .callv 13 (S 11) [(S 12)]), (none, .un 14 .not (S 13))]) (.cond (S 14) (.seq (.reg [(none, .mv 4 (KB false))]) (.exit 1)) .skip)) (.seq (.seq (.reg [(none, .mv 15 (S 4)), (none, .un 16 .not (S 15))]) (.cond (S 16) (.seq (.reg [(none, .mv 17 (S 3)), (none, .mv 18 (S 5)), (none, .build 19 [aI 0, aI 0] [(0, 1, (S 18))]), (none, .bslice 20 2 [.int .i64 0, .int .i64 0] 1 [(0, (S 19))]), (none, .app 21 2 16 (S 17) (S 20)), (none, .mv 3 (S 21))]) (.reg [(none, .mv 4 (KB true))])) .skip)) c_impl_windowsOf_2))) c_impl_windowsOf_3))
def c_impl_windowsOf_n1 : ACode := (.seq (.reg [(none, .mv 29 (S 3)), (none, .mv 2 (S 29))]) .ret)
def c_impl_windowsOf : ACode := (.seq (.reg [(none, .mv 2 KN)]) (.seq (.reg [(none, .bslice 6 2 [.int .i64 0, .int .i64 0] 0 []), (none, .mv 3 (S 6))]) (.seq (.reg [(none, .mv 4 (KB false))]) (.seq (.seq (.reg [(none, .mv 5 (K 0))]) (.block 0 (.loop c_impl_windowsOf_1))) c_impl_windowsOf_n1))))
theorem w_impl_windowsOf_3 (a0 : Int → Option Bool) (F_a0 : FuncId) (caps_a0 : List D) (hF_a0 : okFn Tryz.prog F_a0 = true) (h_a0 : ∀ z0 zr, a0 z0 = some zr → FC Tryz.prog F_a0 ([.sc (.int .i64 z0)] ++ caps_a0.map .sc) [.sc (.v (.bool zr))]) (v2 : Int) (k_impl_windowsOf_1 : Bool → Int → (List XWindow) → Option (List XWindow)) (hk_impl_windowsOf_1 : ∀ (v1 : Bool) (v2 : Int) (v3 : List XWindow) zr, k_impl_windowsOf_1 v1 v2 v3 = some zr → ∀ σ : St, σ.kept [0, 3, 4, 5] [] [384] = ⟨[(0, vc (.dat (.clo F_a0 caps_a0))), (3, vc (.own 384)), (4, vc (aB v1)), (5, vc (aI v2))], [], [(384, 2, List.map XWindow.row v3)]⟩ → go Tryz.prog (.code (.loop c_impl_windowsOf_1) :: [.blk 0, .code c_impl_windowsOf_n1]) (Ret [2] [.sc (.o 2 (List.map XWindow.row zr))]) .normal (some σ)) (v11 : Bool) (v12 : List XWindow) (r : (List XWindow)) (h : f_impl_windowsOf_3 a0 v2 k_impl_windowsOf_1 v11 v12 = some r) (σ : St) (hσ : σ.kept [0, 3, 4, 5] [] [384] = ⟨[(0, vc (.dat (.clo F_a0 caps_a0))), (3, vc (.own 384)), (4, vc (aB v11)), (5, vc (aI v2))], [], [(384, 2, List.map XWindow.row v12)]⟩) : go Tryz.prog (.code c_impl_windowsOf_3 :: [.code (.loop c_impl_windowsOf_1), .blk 0, .code c_impl_windowsOf_n1]) (Ret [2] [.sc (.o 2 (List.map XWindow.row r))]) .normal (some σ) := by
  unfold f_impl_windowsOf_3 at h
  try simp only [hσ, c_impl_windowsOf_3, Nat.reduceBEq, Nat.reduceMul, Nat.reduceAdd, Nat.reduceDiv, Int.reduceBEq, rules2, rulesX, rowsX]
  refine hk_impl_windowsOf_1 _ _ _ _ h _ ?_
  try simp only [Nat.reduceBEq, Nat.reduceMul, Nat.reduceAdd, Nat.reduceDiv, Int.reduceBEq, rules2, rulesX, rowsX, List.map_nil]
theorem w_impl_windowsOf_2 (a0 : Int → Option Bool) (F_a0 : FuncId) (caps_a0 : List D) (hF_a0 : okFn Tryz.prog F_a0 = true) (h_a0 : ∀ z0 zr, a0 z0 = some zr → FC Tryz.prog F_a0 ([.sc (.int .i64 z0)] ++ caps_a0.map .sc) [.sc (.v (.bool zr))]) (v2 : Int) (k_impl_windowsOf_1 : Bool → Int → (List XWindow) → Option (List XWindow)) (hk_impl_windowsOf_1 : ∀ (v1 : Bool) (v2 : Int) (v3 : List XWindow) zr, k_impl_windowsOf_1 v1 v2 v3 = some zr → ∀ σ : St, σ.kept [0, 3, 4, 5] [] [384] = ⟨[(0, vc (.dat (.clo F_a0 caps_a0))), (3, vc (.own 384)), (4, vc (aB v1)), (5, vc (aI v2))], [], [(384, 2, List.map XWindow.row v3)]⟩ → go Tryz.prog (.code (.loop c_impl_windowsOf_1) :: [.blk 0, .code c_impl_windowsOf_n1]) (Ret [2] [.sc (.o 2 (List.map XWindow.row zr))]) .normal (some σ)) (v9 : List XWindow) (r : (List XWindow)) (h : f_impl_windowsOf_2 a0 v2 k_impl_windowsOf_1 v9 = some r) (σ : St) (hσ : σ.kept [0, 3, 4, 5] [] [384] = ⟨[(0, vc (.dat (.clo F_a0 caps_a0))), (3, vc (.own 384)), (4, vc (aB true)), (5, vc (aI v2))], [], [(384, 2, List.map XWindow.row v9)]⟩) : go Tryz.prog (.code c_impl_windowsOf_2 :: [.blk 1, .code c_impl_windowsOf_3, .code (.loop c_impl_windowsOf_1), .blk 0, .code c_impl_windowsOf_n1]) (Ret [2] [.sc (.o 2 (List.map XWindow.row r))]) .normal (some σ) := by
  unfold f_impl_windowsOf_2 at h
  obtain ⟨x10, hx10, h⟩ := ob h
  have hx10n := ix_get hx10
  try simp only [hσ, hx10, c_impl_windowsOf_2, Nat.reduceBEq, Nat.reduceMul, Nat.reduceAdd, Nat.reduceDiv, Int.reduceBEq, rules2, rulesX, rowsX]
  refine go_stp (y := (⟨x10.From, v2⟩ : XWindow)) rfl rfl hx10n rfl rfl rfl ?_
  try simp only [hx10, Nat.reduceBEq, Nat.reduceMul, Nat.reduceAdd, Nat.reduceDiv, Int.reduceBEq, rules2, rulesX, rowsX]
  refine w_impl_windowsOf_3 a0 F_a0 caps_a0 hF_a0 h_a0 _ k_impl_windowsOf_1 hk_impl_windowsOf_1 _ _ _ h _ ?_
  try simp only [hx10, Nat.reduceBEq, Nat.reduceMul, Nat.reduceAdd, Nat.reduceDiv, Int.reduceBEq, rules2, rulesX, rowsX, List.map_nil]
theorem w_impl_windowsOf_1 (a0 : Int → Option Bool) (F_a0 : FuncId) (caps_a0 : List D) (hF_a0 : okFn Tryz.prog F_a0 = true) (h_a0 : ∀ z0 zr, a0 z0 = some zr → FC Tryz.prog F_a0 ([.sc (.int .i64 z0)] ++ caps_a0.map .sc) [.sc (.v (.bool zr))]) : ∀ (n : Nat) (v1 : Bool) (v2 : Int) (v3 : List XWindow) (r : (List XWindow)), f_impl_windowsOf_1 a0 n v1 v2 v3 = some r → ∀ σ : St, σ.kept [0, 3, 4, 5] [] [384] = ⟨[(0, vc (.dat (.clo F_a0 caps_a0))), (3, vc (.own 384)), (4, vc (aB v1)), (5, vc (aI v2))], [], [(384, 2, List.map XWindow.row v3)]⟩ → go Tryz.prog (.code (.loop c_impl_windowsOf_1) :: [.blk 0, .code c_impl_windowsOf_n1]) (Ret [2] [.sc (.o 2 (List.map XWindow.row r))]) .normal (some σ) := by
  intro n
  induction n with
  | zero => intro _ _ _ r h; cases h
  | succ n ih =>
    intro v1 v2 v3 r h σ hσ
    rw [f_impl_windowsOf_1] at h
    refine go_round ?_
    rcases Bool.eq_false_or_eq_true (decide (v2 ≤ (2880 : Int))) with hb4 | hb4
    · rw [ite_t hb4] at h
      obtain ⟨r5, hr5, h⟩ := ob h
      try simp only [hσ, hb4, c_impl_windowsOf_1, Nat.reduceBEq, Nat.reduceMul, Nat.reduceAdd, Nat.reduceDiv, Int.reduceBEq, rules2, rulesX, rowsX]
      refine go_callv (h_a0 _ _ hr5) hF_a0 rfl rfl (flat_of rfl) rfl (Nat.le_of_ble_eq_true rfl) ?_
      rcases Bool.eq_false_or_eq_true r5 with hb6 | hb6
      · rw [ite_t hb6] at h
        rcases Bool.eq_false_or_eq_true v1 with hb7 | hb7
        · rw [ite_t hb7] at h
          try simp only [hb4, hb6, hb7, Nat.reduceBEq, Nat.reduceMul, Nat.reduceAdd, Nat.reduceDiv, Int.reduceBEq, rules2, rulesX, rowsX]
          refine w_impl_windowsOf_2 a0 F_a0 caps_a0 hF_a0 h_a0 _ (f_impl_windowsOf_1 a0 n) ih _ _ h _ ?_
          try simp only [hb4, hb6, hb7, Nat.reduceBEq, Nat.reduceMul, Nat.reduceAdd, Nat.reduceDiv, Int.reduceBEq, rules2, rulesX, rowsX, List.map_nil]
        · rw [ite_f hb7] at h
          try simp only [hb4, hb6, hb7, Nat.reduceBEq, Nat.reduceMul, Nat.reduceAdd, Nat.reduceDiv, Int.reduceBEq, rules2, rulesX, rowsX]
          refine go_bsl (es := List.map XWindow.row ([(⟨v2, (0 : Int)⟩ : XWindow)] : List XWindow)) rfl rfl ?_
          obtain ⟨hg8, h⟩ := of_guard h
          try simp only [hb4, hb6, hb7, hg8, Nat.reduceBEq, Nat.reduceMul, Nat.reduceAdd, Nat.reduceDiv, Int.reduceBEq, rules2, rulesX, rowsX]
          refine w_impl_windowsOf_2 a0 F_a0 caps_a0 hF_a0 h_a0 _ (f_impl_windowsOf_1 a0 n) ih _ _ h _ ?_
          try simp only [hb4, hb6, hb7, hg8, Nat.reduceBEq, Nat.reduceMul, Nat.reduceAdd, Nat.reduceDiv, Int.reduceBEq, rules2, rulesX, rowsX, List.map_nil]
      · rw [ite_f hb6] at h
        try simp only [hb4, hb6, Nat.reduceBEq, Nat.reduceMul, Nat.reduceAdd, Nat.reduceDiv, Int.reduceBEq, rules2, rulesX, rowsX]
        refine w_impl_windowsOf_3 a0 F_a0 caps_a0 hF_a0 h_a0 _ (f_impl_windowsOf_1 a0 n) ih _ _ _ h _ ?_
        try simp only [hb4, hb6, Nat.reduceBEq, Nat.reduceMul, Nat.reduceAdd, Nat.reduceDiv, Int.reduceBEq, rules2, rulesX, rowsX, List.map_nil]
    · rw [ite_f hb4] at h
      try simp only [hσ, hb4, c_impl_windowsOf_1, c_impl_windowsOf_n1, Nat.reduceBEq, Nat.reduceMul, Nat.reduceAdd, Nat.reduceDiv, Int.reduceBEq, rules2, rulesX, rowsX]
      cases h
      exact ⟨⟨rfl, trivial⟩, rfl⟩
theorem e_impl_windowsOf : entry Tryz.prog 135 = some (c_impl_windowsOf.strip, [2], 30) := by kernel_rfl
theorem w_impl_windowsOf (a0 : Int → Option Bool) (r : (List XWindow)) (F_a0 : FuncId) (caps_a0 : List D) (hF_a0 : okFn Tryz.prog F_a0 = true) (h_a0 : ∀ z0 zr, a0 z0 = some zr → FC Tryz.prog F_a0 ([.sc (.int .i64 z0)] ++ caps_a0.map .sc) [.sc (.v (.bool zr))]) (h : f_impl_windowsOf a0 = some r) : FC Tryz.prog 135 [.sc (.clo F_a0 caps_a0)] [.sc (.o 2 (List.map XWindow.row r))] := by
  unfold f_impl_windowsOf at h
  refine FC_go (σ := ⟨[(0, vc (.dat (.clo F_a0 caps_a0)))], [], []⟩) mixed e_impl_windowsOf rfl rfl ?_
  simp only [c_impl_windowsOf]
  try simp only [Nat.reduceBEq, Nat.reduceMul, Nat.reduceAdd, Nat.reduceDiv, Int.reduceBEq, rules2, rulesX, rowsX]
  refine go_bsl (es := List.map XWindow.row ([] : List XWindow)) rfl rfl ?_
  try simp only [Nat.reduceBEq, Nat.reduceMul, Nat.reduceAdd, Nat.reduceDiv, Int.reduceBEq, rules2, rulesX, rowsX]
  refine w_impl_windowsOf_1 a0 F_a0 caps_a0 hF_a0 h_a0 _ _ _ _ _ h _ ?_
  try simp only [Nat.reduceBEq, Nat.reduceMul, Nat.reduceAdd, Nat.reduceDiv, Int.reduceBEq, rules2, rulesX, rowsX, List.map_nil]
/- 171: impl_Wave -/
def c_impl_Wave : ACode := (.seq (.reg [(none, .mv 4 (K 0))]) (.seq (.seq (.reg [(none, .mv 7 (S 1)), (none, .call 8 154 [(S 7)]), (none, .un 9 .not (S 8))]) (.cond (S 9) (.seq (.reg [(none, .mv 4 (K 0))]) .ret) .skip)) (.seq (.reg [(none, .mv 10 (S 0)), (none, .mv 11 (S 1)), (none, .bin 12 .rem (S 10) (S 11)), (none, .mv 13 (S 1)), (none, .bin 14 .add (S 12) (S 13)), (none, .mv 15 (S 1)), (none, .bin 16 .rem (S 14) (S 15)), (none, .mv 5 (S 16))]) (.seq (.reg [(none, .mv 17 (S 1)), (none, .bin 18 .quo (S 17) (K 2)), (none, .mv 6 (S 18))]) (.seq (.seq (.reg [(none, .mv 19 (S 5)), (none, .mv 20 (S 6)), (none, .bin 21 .geq (S 19) (S 20))]) (.cond (S 21) (.seq (.reg [(none, .mv 22 (S 5)), (none, .mv 23 (S 6)), (none, .bin 24 .sub (S 22) (S 23)), (none, .mv 5 (S 24))]) (.seq (.reg [(none, .mv 25 (S 5)), (none, .bin 26 .mul (K 40000) (S 25)), (none, .mv 27 (S 6)), (none, .mv 28 (S 5)), (none, .bin 29 .sub (S 27) (S 28)), (none, .bin 30 .mul (S 26) (S 29)), (none, .mv 31 (S 6)), (none, .mv 32 (S 6)), (none, .bin 33 .mul (S 31) (S 32)), (none, .bin 34 .quo (S 30) (S 33)), (none, .un 35 .neg (S 34)), (none, .mv 4 (S 35))]) .ret)) .skip)) (.seq (.reg [(none, .mv 36 (S 5)), (none, .bin 37 .mul (K 40000) (S 36)), (none, .mv 38 (S 6)), (none, .mv 39 (S 5)), (none, .bin 40 .sub (S 38) (S 39)), (none, .bin 41 .mul (S 37) (S 40)), (none, .mv 42 (S 6)), (none, .mv 43 (S 6)), (none, .bin 44 .mul (S 42) (S 43)), (none, .bin 45 .quo (S 41) (S 44)), (none, .mv 4 (S 45))]) .ret))))))
theorem e_impl_Wave : entry Tryz.prog 171 = some (c_impl_Wave.strip, [4], 46) := by kernel_rfl
theorem w_impl_Wave (a0 : Int) (a1 : Int) (r : Int) (h : f_impl_Wave a0 a1 = some r) : FC Tryz.prog 171 [.sc (.int .i64 a0), .sc (.int .i64 a1)] [.sc (.v (.int .i64 r))] := by
  unfold f_impl_Wave at h
  refine FC_go (σ := ⟨[(0, vc (aI a0)), (1, vc (aI a1))], [], []⟩) mixed e_impl_Wave rfl rfl ?_
  simp only [c_impl_Wave]
  obtain ⟨r1, hr1, h⟩ := ob h
  try simp only [Nat.reduceBEq, Nat.reduceMul, Nat.reduceAdd, Nat.reduceDiv, Int.reduceBEq, rules2, rulesX, rowsX]
  refine go_callI (w_impl_isPeriod _ _ hr1) rfl rfl (Nat.le_of_ble_eq_true rfl) ?_
  rcases Bool.eq_false_or_eq_true r1 with hb2 | hb2
  · rw [ite_t hb2] at h
    obtain ⟨hg3, h⟩ := of_guardn h
    obtain ⟨hg4, h⟩ := of_guardn h
    rcases Bool.eq_false_or_eq_true (decide ((IntKind.i64.wrap (Int.tdiv a1 (2 : Int))) ≤ (IntKind.i64.wrap (Int.tmod (IntKind.i64.wrap ((IntKind.i64.wrap (Int.tmod a0 a1)) + a1)) a1)))) with hb5 | hb5
    · rw [ite_t hb5] at h
      obtain ⟨hg6, h⟩ := of_guardn h
      try simp only [hb2, hg3, hg4, hb5, hg6, Nat.reduceBEq, Nat.reduceMul, Nat.reduceAdd, Nat.reduceDiv, Int.reduceBEq, rules2, rulesX, rowsX]
      cases h
      exact ⟨⟨rfl, trivial⟩, rfl⟩
    · rw [ite_f hb5] at h
      obtain ⟨hg7, h⟩ := of_guardn h
      try simp only [hb2, hg3, hg4, hb5, hg7, Nat.reduceBEq, Nat.reduceMul, Nat.reduceAdd, Nat.reduceDiv, Int.reduceBEq, rules2, rulesX, rowsX]
      cases h
      exact ⟨⟨rfl, trivial⟩, rfl⟩
  · rw [ite_f hb2] at h
    try simp only [hb2, Nat.reduceBEq, Nat.reduceMul, Nat.reduceAdd, Nat.reduceDiv, Int.reduceBEq, rules2, rulesX, rowsX]
    cases h
    exact ⟨⟨rfl, trivial⟩, rfl⟩
/- 159: impl_Tide_level -/
def c_impl_Tide_level_1 : ACode := .seq (.reg [(none, .keep [1, 5, 11, 12, 13] [] [])]) (.seq (.reg [(none, .bin 14 .lss (S 13) (S 12))]) (.seq (.cond (S 14) .skip (.exit 0)) (.seq (.block 1 (.seq (.reg [(none, .iaddr 15 (S 11) (S 13) 3), (none, .load 16 (S 15) true 3), (none, .alloc 7 [aI 0, aI 0, aI 0]), (none, .store (S 7) (S 16) 3)]) (.drw [(some [26], (none, .mv 17 (S 5))), (some [26], (none, .faddr 18 (S 7) 0)), (some [26], (none, .load 19 (S 18) false 1)), (some [], (none, .mv 20 (S 1))), (some [], (none, .faddr 21 (S 7) 2)), (some [], (none, .load 22 (S 21) false 1)), (some [], (none, .bin 23 .add (S 20) (S 22))), (some [], (none, .faddr 24 (S 7) 1)), (some [], (none, .load 25 (S 24) false 1)), (some [], (none, .call 26 171 [(S 23), (S 25)])), (some [], (none, .bin 27 .mul (S 19) (S 26))), (some [], (none, .bin 28 .quo (S 27) (K 10000))), (some [], (none, .bin 29 .add (S 17) (S 28))), (some [], (none, .mv 5 (S 29)))]))) (.reg [(none, .bin 30 .add (S 13) (K 1)), (none, .mv 13 (S 30))]))))
def c_impl_Tide_level_n1 : ACode := (.seq (.reg [(none, .mv 31 (S 5)), (none, .mv 4 (S 31))]) .ret)
def c_impl_Tide_level : ACode := (.seq (.reg [(none, .box 2 (S 0)), (none, .mv 4 (K 0))]) (.seq (.reg [(none, .faddr 8 (S 2) 0), (none, .load 9 (S 8) false 1), (none, .mv 5 (S 9))]) (.seq (.seq (.reg [(none, .faddr 10 (S 2) 1), (none, .load 11 (S 10) false 1), (none, .len 12 (S 11)), (none, .mv 13 (K 0))]) (.block 0 (.loop c_impl_Tide_level_1))) c_impl_Tide_level_n1)))
theorem w_impl_Tide_level_1 (a1 : Int) (a0 : XTide) : ∀ (n : Nat) (v1 : Int) (v2 : Int) (r : Int), f_impl_Tide_level_1 a1 a0 n v1 v2 = some r → ∀ σ : St, σ.kept [1, 5, 11, 12, 13] [] [] = ⟨[(1, vc (aI a1)), (5, vc (aI v1)), (11, vc (aL (List.map XPart.row a0.Parts))), (12, vc (aI (a0.Parts.length : Int))), (13, vc (aI v2))], [], []⟩ → go Tryz.prog (.code (.loop c_impl_Tide_level_1) :: [.blk 0, .code c_impl_Tide_level_n1]) (Ret [4] [.sc (.v (.int .i64 r))]) .normal (some σ) := by
  intro n
  induction n with
  | zero => intro _ _ r h; cases h
  | succ n ih =>
    intro v1 v2 r h σ hσ
    rw [f_impl_Tide_level_1] at h
    refine go_round ?_
    rcases Bool.eq_false_or_eq_true (decide (v2 < (a0.Parts.length : Int))) with hb3 | hb3
    · rw [ite_t hb3] at h
      obtain ⟨x4, hx4, h⟩ := ob h
      try simp only [hσ, hb3, hx4, c_impl_Tide_level_1, Nat.reduceBEq, Nat.reduceMul, Nat.reduceAdd, Nat.reduceDiv, Int.reduceBEq, rules2, rulesX, rowsX]
      refine go_al rfl rfl ?_
      try simp only [hb3, hx4, Nat.reduceBEq, Nat.reduceMul, Nat.reduceAdd, Nat.reduceDiv, Int.reduceBEq, rules2, rulesX, rowsX]
      refine go_fr_of rfl ?_
      obtain ⟨r5, hr5, h⟩ := ob h
      try simp only [hb3, hx4, Nat.reduceBEq, Nat.reduceMul, Nat.reduceAdd, Nat.reduceDiv, Int.reduceBEq, rules2, rulesX, rowsX]
      refine go_dcallI (w_impl_Wave _ _ _ hr5) rfl rfl (Nat.le_of_ble_eq_true rfl) ?_
      try simp only [hb3, hx4, Nat.reduceBEq, Nat.reduceMul, Nat.reduceAdd, Nat.reduceDiv, Int.reduceBEq, rules2, rulesX, rowsX]
      refine ih _ _ _ h _ ?_
      try simp only [hb3, hx4, Nat.reduceBEq, Nat.reduceMul, Nat.reduceAdd, Nat.reduceDiv, Int.reduceBEq, rules2, rulesX, rowsX, List.map_nil]
    · rw [ite_f hb3] at h
      try simp only [hσ, hb3, c_impl_Tide_level_1, c_impl_Tide_level_n1, Nat.reduceBEq, Nat.reduceMul, Nat.reduceAdd, Nat.reduceDiv, Int.reduceBEq, rules2, rulesX, rowsX]
      cases h
      exact ⟨⟨rfl, trivial⟩, rfl⟩
theorem e_impl_Tide_level : entry Tryz.prog 159 = some (c_impl_Tide_level.strip, [4], 32) := by kernel_rfl
theorem w_impl_Tide_level (a0 : XTide) (a1 : Int) (r : Int) (h : f_impl_Tide_level a0 a1 = some r) : FC Tryz.prog 159 [.ag (XTide.row a0), .sc (.int .i64 a1)] [.sc (.v (.int .i64 r))] := by
  unfold f_impl_Tide_level at h
  refine FC_go (σ := ⟨[(0, va [aI a0.Mean, aL (List.map XPart.row a0.Parts)]), (1, vc (aI a1))], [], []⟩) mixed e_impl_Tide_level rfl rfl ?_
  simp only [c_impl_Tide_level]
  try simp only [Nat.reduceBEq, Nat.reduceMul, Nat.reduceAdd, Nat.reduceDiv, Int.reduceBEq, rules2, rulesX, rowsX]
  refine go_bx rfl rfl rfl ?_
  try simp only [Nat.reduceBEq, Nat.reduceMul, Nat.reduceAdd, Nat.reduceDiv, Int.reduceBEq, rules2, rulesX, rowsX]
  refine w_impl_Tide_level_1 _ _ _ _ _ _ h _ ?_
  try simp only [Nat.reduceBEq, Nat.reduceMul, Nat.reduceAdd, Nat.reduceDiv, Int.reduceBEq, rules2, rulesX, rowsX, List.map_nil]
/- 160: impl_Forecast_surge -/
def c_impl_Forecast_surge_1 : ACode := .seq (.reg [(none, .keep [1, 5, 9, 10, 11] [] [])]) (.seq (.reg [(none, .bin 12 .lss (S 11) (S 10))]) (.seq (.cond (S 12) .skip (.exit 0)) (.seq (.block 1 (.seq (.reg [(none, .mv 13 (S 11)), (none, .iaddr 14 (S 9) (S 11) 3), (none, .load 15 (S 14) true 3), (none, .alloc 7 [aI 0, aI 0, aI 0]), (none, .mv 6 (S 13)), (none, .store (S 7) (S 15) 3)]) (.seq (.reg [(none, .faddr 16 (S 7) 0), (none, .load 17 (S 16) false 1), (none, .mv 18 (S 1)), (none, .bin 19 .leq (S 17) (S 18))]) (.cond (S 19) (.reg [(none, .mv 20 (S 6)), (none, .mv 5 (S 20))]) .skip)))) (.reg [(none, .bin 21 .add (S 11) (K 1)), (none, .mv 11 (S 21))]))))
def c_impl_Forecast_surge_n1 : ACode := (.seq (.reg [(none, .mv 22 (S 5)), (none, .mv 4 (S 22))]) .ret)
def c_impl_Forecast_surge : ACode := (.seq (.reg [(none, .box 2 (S 0)), (none, .mv 4 (K 0))]) (.seq (.reg [(none, .mv 5 (K 0))]) (.seq (.seq (.reg [(none, .faddr 8 (S 2) 2), (none, .load 9 (S 8) false 1), (none, .len 10 (S 9)), (none, .mv 11 (K 0))]) (.block 0 (.loop c_impl_Forecast_surge_1))) c_impl_Forecast_surge_n1)))
theorem w_impl_Forecast_surge_1 (a1 : Int) (a0 : XForecast) : ∀ (n : Nat) (v1 : Int) (v2 : Int) (r : Int), f_impl_Forecast_surge_1 a1 a0 n v1 v2 = some r → ∀ σ : St, σ.kept [1, 5, 9, 10, 11] [] [] = ⟨[(1, vc (aI a1)), (5, vc (aI v1)), (9, vc (aL (List.map XSurge.row a0.Surges))), (10, vc (aI (a0.Surges.length : Int))), (11, vc (aI v2))], [], []⟩ → go Tryz.prog (.code (.loop c_impl_Forecast_surge_1) :: [.blk 0, .code c_impl_Forecast_surge_n1]) (Ret [4] [.sc (.v (.int .i64 r))]) .normal (some σ) := by
  intro n
  induction n with
  | zero => intro _ _ r h; cases h
  | succ n ih =>
    intro v1 v2 r h σ hσ
    rw [f_impl_Forecast_surge_1] at h
    refine go_round ?_
    rcases Bool.eq_false_or_eq_true (decide (v2 < (a0.Surges.length : Int))) with hb3 | hb3
    · rw [ite_t hb3] at h
      obtain ⟨x4, hx4, h⟩ := ob h
      try simp only [hσ, hb3, hx4, c_impl_Forecast_surge_1, Nat.reduceBEq, Nat.reduceMul, Nat.reduceAdd, Nat.reduceDiv, Int.reduceBEq, rules2, rulesX, rowsX]
      refine go_al rfl rfl ?_
      rcases Bool.eq_false_or_eq_true (decide (x4.From ≤ a1)) with hb5 | hb5
      · rw [ite_t hb5] at h
        try simp only [hb3, hx4, hb5, Nat.reduceBEq, Nat.reduceMul, Nat.reduceAdd, Nat.reduceDiv, Int.reduceBEq, rules2, rulesX, rowsX]
        refine ih _ _ _ h _ ?_
        try simp only [hb3, hx4, hb5, Nat.reduceBEq, Nat.reduceMul, Nat.reduceAdd, Nat.reduceDiv, Int.reduceBEq, rules2, rulesX, rowsX, List.map_nil]
      · rw [ite_f hb5] at h
        try simp only [hb3, hx4, hb5, Nat.reduceBEq, Nat.reduceMul, Nat.reduceAdd, Nat.reduceDiv, Int.reduceBEq, rules2, rulesX, rowsX]
        refine ih _ _ _ h _ ?_
        try simp only [hb3, hx4, hb5, Nat.reduceBEq, Nat.reduceMul, Nat.reduceAdd, Nat.reduceDiv, Int.reduceBEq, rules2, rulesX, rowsX, List.map_nil]
    · rw [ite_f hb3] at h
      try simp only [hσ, hb3, c_impl_Forecast_surge_1, c_impl_Forecast_surge_n1, Nat.reduceBEq, Nat.reduceMul, Nat.reduceAdd, Nat.reduceDiv, Int.reduceBEq, rules2, rulesX, rowsX]
      cases h
      exact ⟨⟨rfl, trivial⟩, rfl⟩
theorem e_impl_Forecast_surge : entry Tryz.prog 160 = some (c_impl_Forecast_surge.strip, [4], 23) := by kernel_rfl
theorem w_impl_Forecast_surge (a0 : XForecast) (a1 : Int) (r : Int) (h : f_impl_Forecast_surge a0 a1 = some r) : FC Tryz.prog 160 [.ag (XForecast.row a0), .sc (.int .i64 a1)] [.sc (.v (.int .i64 r))] := by
  unfold f_impl_Forecast_surge at h
  refine FC_go (σ := ⟨[(0, va [aI a0.Tide.Mean, aL (List.map XPart.row a0.Tide.Parts), aL (List.map XSurge.row a0.Surges)]), (1, vc (aI a1))], [], []⟩) mixed e_impl_Forecast_surge rfl rfl ?_
  simp only [c_impl_Forecast_surge]
  try simp only [Nat.reduceBEq, Nat.reduceMul, Nat.reduceAdd, Nat.reduceDiv, Int.reduceBEq, rules2, rulesX, rowsX]
  refine go_bx rfl rfl rfl ?_
  try simp only [Nat.reduceBEq, Nat.reduceMul, Nat.reduceAdd, Nat.reduceDiv, Int.reduceBEq, rules2, rulesX, rowsX]
  refine w_impl_Forecast_surge_1 _ _ _ _ _ _ h _ ?_
  try simp only [Nat.reduceBEq, Nat.reduceMul, Nat.reduceAdd, Nat.reduceDiv, Int.reduceBEq, rules2, rulesX, rowsX, List.map_nil]
/- 137: impl_Forecast_low -/
def c_impl_Forecast_low : ACode := (.seq (.reg [(none, .box 2 (S 0)), (none, .mv 4 (K 0))]) (.seq (.drw [(some [], (none, .faddr 5 (S 2) 0)), (some [], (none, .load 6 (S 5) true 2)), (some [], (none, .mv 7 (S 1))), (some [], (none, .call 8 159 [(S 6), (S 7)])), (some [8, 13], (none, .faddr 9 (S 2) 2)), (some [8, 13], (none, .load 10 (S 9) false 1)), (some [8], (none, .load 11 (S 2) true 3)), (some [8], (none, .mv 12 (S 1))), (some [], (none, .call 13 160 [(S 11), (S 12)])), (some [], (none, .iaddr 14 (S 10) (S 13) 3)), (some [], (none, .faddr 15 (S 14) 1)), (some [], (none, .load 16 (S 15) false 1)), (some [], (none, .bin 17 .add (S 8) (S 16))), (some [], (none, .mv 4 (S 17)))]) .ret))
theorem e_impl_Forecast_low : entry Tryz.prog 137 = some (c_impl_Forecast_low.strip, [4], 18) := by kernel_rfl
theorem w_impl_Forecast_low (a0 : XForecast) (a1 : Int) (r : Int) (h : f_impl_Forecast_low a0 a1 = some r) : FC Tryz.prog 137 [.ag (XForecast.row a0), .sc (.int .i64 a1)] [.sc (.v (.int .i64 r))] := by
  unfold f_impl_Forecast_low at h
  refine FC_go (σ := ⟨[(0, va [aI a0.Tide.Mean, aL (List.map XPart.row a0.Tide.Parts), aL (List.map XSurge.row a0.Surges)]), (1, vc (aI a1))], [], []⟩) mixed e_impl_Forecast_low rfl rfl ?_
  simp only [c_impl_Forecast_low]
  try simp only [Nat.reduceBEq, Nat.reduceMul, Nat.reduceAdd, Nat.reduceDiv, Int.reduceBEq, rules2, rulesX, rowsX]
  refine go_bx rfl rfl rfl ?_
  try simp only [Nat.reduceBEq, Nat.reduceMul, Nat.reduceAdd, Nat.reduceDiv, Int.reduceBEq, rules2, rulesX, rowsX]
  refine go_fr_of rfl ?_
  obtain ⟨r1, hr1, h⟩ := ob h
  try simp only [Nat.reduceBEq, Nat.reduceMul, Nat.reduceAdd, Nat.reduceDiv, Int.reduceBEq, rules2, rulesX, rowsX]
  refine go_dcallI (w_impl_Tide_level _ _ _ hr1) rfl rfl (Nat.le_of_ble_eq_true rfl) ?_
  obtain ⟨r2, hr2, h⟩ := ob h
  try simp only [Nat.reduceBEq, Nat.reduceMul, Nat.reduceAdd, Nat.reduceDiv, Int.reduceBEq, rules2, rulesX, rowsX]
  refine go_dcallI (w_impl_Forecast_surge _ _ _ hr2) rfl rfl (Nat.le_of_ble_eq_true rfl) ?_
  obtain ⟨x3, hx3, h⟩ := ob h
  try simp only [hx3, Nat.reduceBEq, Nat.reduceMul, Nat.reduceAdd, Nat.reduceDiv, Int.reduceBEq, rules2, rulesX, rowsX]
  cases h
  exact ⟨⟨rfl, trivial⟩, rfl⟩
/- 136: impl_LowWindows_1 -/
def c_impl_LowWindows_1 : ACode := (.seq (.reg [(none, .mv 4 (KB false))]) (.seq (.drw [(some [], (none, .load 5 (S 1) true 3)), (some [], (none, .mv 6 (S 0))), (some [], (none, .call 7 137 [(S 5), (S 6)])), (some [7], (none, .load 8 (S 2) false 1)), (some [], (none, .bin 9 .geq (S 7) (S 8))), (some [], (none, .mv 4 (S 9)))]) .ret))
theorem e_impl_LowWindows_1 : entry Tryz.prog 136 = some (c_impl_LowWindows_1.strip, [4], 10) := by kernel_rfl
theorem w_impl_LowWindows_1 (a0 : Int) (c0 : XForecast) (c1 : Int) (r : Bool) (h : f_impl_LowWindows_1 a0 c0 c1 = some r) : FC Tryz.prog 136 [.sc (.int .i64 a0), .sc (.pd (XForecast.row c0)), .sc (.pd (rI c1))] [.sc (.v (.bool r))] := by
  unfold f_impl_LowWindows_1 at h
  refine FC_go (σ := ⟨[(0, vc (aI a0)), (1, vc (.dat (.pd [.int .i64 c0.Tide.Mean, .sl (List.map XPart.row c0.Tide.Parts), .sl (List.map XSurge.row c0.Surges)]))), (2, vc (.dat (.pd [.int .i64 c1])))], [], []⟩) mixed e_impl_LowWindows_1 rfl rfl ?_
  simp only [c_impl_LowWindows_1]
  try simp only [Nat.reduceBEq, Nat.reduceMul, Nat.reduceAdd, Nat.reduceDiv, Int.reduceBEq, rules2, rulesX, rowsX]
  refine go_fr_of rfl ?_
  obtain ⟨r1, hr1, h⟩ := ob h
  try simp only [Nat.reduceBEq, Nat.reduceMul, Nat.reduceAdd, Nat.reduceDiv, Int.reduceBEq, rules2, rulesX, rowsX]
  refine go_dcallI (w_impl_Forecast_low _ _ _ hr1) rfl rfl (Nat.le_of_ble_eq_true rfl) ?_
  try simp only [Nat.reduceBEq, Nat.reduceMul, Nat.reduceAdd, Nat.reduceDiv, Int.reduceBEq, rules2, rulesX, rowsX]
  cases h
  exact ⟨⟨rfl, trivial⟩, rfl⟩
/- 105: impl_LowWindows -/
def c_impl_LowWindows : ACode := (.seq (.reg [(none, .box 2 (S 0)), (none, .box 3 (S 1)), (none, .mv 4 KN)]) (.seq (.seq (.reg [(none, .load 5 (S 2) true 3), (none, .call 6 50 [(S 5)]), (none, .un 7 .not (S 6))]) (.cond (S 7) (.seq (.reg [(none, .mv 4 KN)]) .ret) .skip)) (.seq (.reg [(none, .mkf 8 136 [(S 2), (S 3)]), (none, .call 9 135 [(S 8)]), (none, .mv 4 (S 9))]) .ret)))
theorem e_impl_LowWindows : entry Tryz.prog 105 = some (c_impl_LowWindows.strip, [4], 10) := by kernel_rfl
theorem w_impl_LowWindows (a0 : XForecast) (a1 : Int) (r : (List XWindow)) (h : f_impl_LowWindows a0 a1 = some r) : FC Tryz.prog 105 [.ag (XForecast.row a0), .sc (.int .i64 a1)] [.sc (.o 2 (List.map XWindow.row r))] := by
  unfold f_impl_LowWindows at h
  refine FC_go (σ := ⟨[(0, va [aI a0.Tide.Mean, aL (List.map XPart.row a0.Tide.Parts), aL (List.map XSurge.row a0.Surges)]), (1, vc (aI a1))], [], []⟩) mixed e_impl_LowWindows rfl rfl ?_
  simp only [c_impl_LowWindows]
  try simp only [Nat.reduceBEq, Nat.reduceMul, Nat.reduceAdd, Nat.reduceDiv, Int.reduceBEq, rules2, rulesX, rowsX]
  refine go_bx rfl rfl rfl ?_
  try simp only [Nat.reduceBEq, Nat.reduceMul, Nat.reduceAdd, Nat.reduceDiv, Int.reduceBEq, rules2, rulesX, rowsX]
  refine go_bx rfl rfl rfl ?_
  obtain ⟨r1, hr1, h⟩ := ob h
  try simp only [Nat.reduceBEq, Nat.reduceMul, Nat.reduceAdd, Nat.reduceDiv, Int.reduceBEq, rules2, rulesX, rowsX]
  refine go_callI (w_impl_ForecastOk _ _ hr1) rfl rfl (Nat.le_of_ble_eq_true rfl) ?_
  rcases Bool.eq_false_or_eq_true r1 with hb2 | hb2
  · rw [ite_t hb2] at h
    obtain ⟨r3, hr3, h⟩ := ob h
    try simp only [hb2, Nat.reduceBEq, Nat.reduceMul, Nat.reduceAdd, Nat.reduceDiv, Int.reduceBEq, rules2, rulesX, rowsX]
    refine go_call (w_impl_windowsOf _ _ 136 [.pd (XForecast.row a0), .pd (rI a1)] (by kernel_rfl) (fun z0 zr zh => w_impl_LowWindows_1 z0 a0 a1 zr zh) hr3) rfl (flat_l rfl ⟨flat_o, trivial⟩) rfl (Nat.le_of_ble_eq_true rfl) ?_
    try simp only [hb2, Nat.reduceBEq, Nat.reduceMul, Nat.reduceAdd, Nat.reduceDiv, Int.reduceBEq, rules2, rulesX, rowsX]
    cases h
    exact ⟨⟨rfl, trivial⟩, rfl⟩
  · rw [ite_f hb2] at h
    try simp only [hb2, Nat.reduceBEq, Nat.reduceMul, Nat.reduceAdd, Nat.reduceDiv, Int.reduceBEq, rules2, rulesX, rowsX]
    cases h
    exact ⟨⟨rfl, trivial⟩, rfl⟩
/- 139: impl_Ship_minutes -/
def c_impl_Ship_minutes : ACode := (.seq (.reg [(none, .box 2 (S 0)), (none, .box 3 (S 1)), (none, .mv 4 (K 0))]) (.seq (.seq (.reg [(none, .faddr 5 (S 2) 5), (none, .load 6 (S 5) false 1)]) (.cond (S 6) (.seq (.reg [(none, .faddr 7 (S 3) 3), (none, .load 8 (S 7) false 1), (none, .bin 9 .mul (K 2) (S 8)), (none, .mv 4 (S 9))]) .ret) .skip)) (.seq (.reg [(none, .faddr 10 (S 3) 3), (none, .load 11 (S 10) false 1), (none, .mv 4 (S 11))]) .ret)))
theorem e_impl_Ship_minutes : entry Tryz.prog 139 = some (c_impl_Ship_minutes.strip, [4], 12) := by kernel_rfl
theorem w_impl_Ship_minutes (a0 : XShip) (a1 : XSegment) (r : Int) (h : f_impl_Ship_minutes a0 a1 = some r) : FC Tryz.prog 139 [.ag (XShip.row a0), .ag (XSegment.row a1)] [.sc (.v (.int .i64 r))] := by
  unfold f_impl_Ship_minutes at h
  refine FC_go (σ := ⟨[(0, va [aS a0.Name, aI a0.Length, aI a0.Draught, aI a0.Line, aI a0.Tugs, aB a0.Slow]), (1, va [aI a1.A, aI a1.B, aI a1.Depth, aI a1.Minutes, aB a1.Meet])], [], []⟩) mixed e_impl_Ship_minutes rfl rfl ?_
  simp only [c_impl_Ship_minutes]
  try simp only [Nat.reduceBEq, Nat.reduceMul, Nat.reduceAdd, Nat.reduceDiv, Int.reduceBEq, rules2, rulesX, rowsX]
  refine go_bx rfl rfl rfl ?_
  try simp only [Nat.reduceBEq, Nat.reduceMul, Nat.reduceAdd, Nat.reduceDiv, Int.reduceBEq, rules2, rulesX, rowsX]
  refine go_bx rfl rfl rfl ?_
  rcases Bool.eq_false_or_eq_true a0.Slow with hb1 | hb1
  · rw [ite_t hb1] at h
    try simp only [hb1, Nat.reduceBEq, Nat.reduceMul, Nat.reduceAdd, Nat.reduceDiv, Int.reduceBEq, rules2, rulesX, rowsX]
    cases h
    exact ⟨⟨rfl, trivial⟩, rfl⟩
  · rw [ite_f hb1] at h
    try simp only [hb1, Nat.reduceBEq, Nat.reduceMul, Nat.reduceAdd, Nat.reduceDiv, Int.reduceBEq, rules2, rulesX, rowsX]
    cases h
    exact ⟨⟨rfl, trivial⟩, rfl⟩
/- 107: impl_MinutesOn -/
def c_impl_MinutesOn : ACode := (.seq (.reg [(none, .box 3 (S 0)), (none, .box 5 (S 2)), (none, .mv 6 (K 0))]) (.seq (.seq (.reg [(none, .load 7 (S 3) true 2), (none, .call 8 51 [(S 7)]), (none, .un 9 .not (S 8)), (none, .mv 10 (S 9)), (some (10, false), .load 11 (S 5) true 6), (some (10, false), .call 12 52 [(S 11)]), (some (10, false), .un 13 .not (S 12)), (none, .pick 14 (S 10) (KB true) (S 13)), (none, .mv 15 (S 14)), (some (15, false), .mv 16 (S 1)), (some (15, false), .faddr 17 (S 3) 1), (some (15, false), .load 18 (S 17) false 1), (some (15, false), .len 19 (S 18)), (some (15, false), .call 20 97 [(S 16), (S 19)]), (some (15, false), .un 21 .not (S 20)), (none, .pick 22 (S 15) (KB true) (S 21))]) (.cond (S 22) (.seq (.reg [(none, .mv 6 (K 0))]) .ret) .skip)) (.seq (.drw [(some [], (none, .load 23 (S 5) true 6)), (some [], (none, .faddr 24 (S 3) 1)), (some [], (none, .load 25 (S 24) false 1)), (some [], (none, .mv 26 (S 1))), (some [], (none, .iaddr 27 (S 25) (S 26) 5)), (some [], (none, .load 28 (S 27) true 5)), (some [], (none, .call 29 139 [(S 23), (S 28)])), (some [], (none, .mv 6 (S 29)))]) .ret)))
theorem e_impl_MinutesOn : entry Tryz.prog 107 = some (c_impl_MinutesOn.strip, [6], 30) := by kernel_rfl
theorem w_impl_MinutesOn (a0 : XChart) (a1 : Int) (a2 : XShip) (r : Int) (h : f_impl_MinutesOn a0 a1 a2 = some r) : FC Tryz.prog 107 [.ag (XChart.row a0), .sc (.int .i64 a1), .ag (XShip.row a2)] [.sc (.v (.int .i64 r))] := by
  unfold f_impl_MinutesOn at h
  refine FC_go (σ := ⟨[(0, va [aL (List.map XPoint.row a0.Points), aL (List.map XSegment.row a0.Segments)]), (1, vc (aI a1)), (2, va [aS a2.Name, aI a2.Length, aI a2.Draught, aI a2.Line, aI a2.Tugs, aB a2.Slow])], [], []⟩) mixed e_impl_MinutesOn rfl rfl ?_
  simp only [c_impl_MinutesOn]
  try simp only [Nat.reduceBEq, Nat.reduceMul, Nat.reduceAdd, Nat.reduceDiv, Int.reduceBEq, rules2, rulesX, rowsX]
  refine go_bx rfl rfl rfl ?_
  try simp only [Nat.reduceBEq, Nat.reduceMul, Nat.reduceAdd, Nat.reduceDiv, Int.reduceBEq, rules2, rulesX, rowsX]
  refine go_bx rfl rfl rfl ?_
  obtain ⟨r1, hr1, h⟩ := ob h
  try simp only [Nat.reduceBEq, Nat.reduceMul, Nat.reduceAdd, Nat.reduceDiv, Int.reduceBEq, rules2, rulesX, rowsX]
  refine go_callI (w_impl_ChartOk _ _ hr1) rfl rfl (Nat.le_of_ble_eq_true rfl) ?_
  rcases Bool.eq_false_or_eq_true r1 with hb2 | hb2
  · rw [ite_t hb2] at h
    obtain ⟨r3, hr3, h⟩ := ob h
    try simp only [hb2, Nat.reduceBEq, Nat.reduceMul, Nat.reduceAdd, Nat.reduceDiv, Int.reduceBEq, rules2, rulesX, rowsX]
    refine go_callI (w_impl_ShipOk _ _ hr3) rfl rfl (Nat.le_of_ble_eq_true rfl) ?_
    rcases Bool.eq_false_or_eq_true r3 with hb4 | hb4
    · rw [ite_t hb4] at h
      obtain ⟨r5, hr5, h⟩ := ob h
      try simp only [hb2, hb4, Nat.reduceBEq, Nat.reduceMul, Nat.reduceAdd, Nat.reduceDiv, Int.reduceBEq, rules2, rulesX, rowsX]
      refine go_callI (w_impl_isIndex _ _ _ hr5) rfl rfl (Nat.le_of_ble_eq_true rfl) ?_
      rcases Bool.eq_false_or_eq_true r5 with hb6 | hb6
      · rw [ite_t hb6] at h
        try simp only [hb2, hb4, hb6, Nat.reduceBEq, Nat.reduceMul, Nat.reduceAdd, Nat.reduceDiv, Int.reduceBEq, rules2, rulesX, rowsX]
        refine go_fr_of rfl ?_
        obtain ⟨x7, hx7, h⟩ := ob h
        obtain ⟨r8, hr8, h⟩ := ob h
        try simp only [hb2, hb4, hb6, hx7, Nat.reduceBEq, Nat.reduceMul, Nat.reduceAdd, Nat.reduceDiv, Int.reduceBEq, rules2, rulesX, rowsX]
        refine go_dcallI (w_impl_Ship_minutes _ _ _ hr8) rfl rfl (Nat.le_of_ble_eq_true rfl) ?_
        try simp only [hb2, hb4, hb6, hx7, Nat.reduceBEq, Nat.reduceMul, Nat.reduceAdd, Nat.reduceDiv, Int.reduceBEq, rules2, rulesX, rowsX]
        cases h
        exact ⟨⟨rfl, trivial⟩, rfl⟩
      · rw [ite_f hb6] at h
        try simp only [hb2, hb4, hb6, Nat.reduceBEq, Nat.reduceMul, Nat.reduceAdd, Nat.reduceDiv, Int.reduceBEq, rules2, rulesX, rowsX]
        cases h
        exact ⟨⟨rfl, trivial⟩, rfl⟩
    · rw [ite_f hb4] at h
      try simp only [hb2, hb4, Nat.reduceBEq, Nat.reduceMul, Nat.reduceAdd, Nat.reduceDiv, Int.reduceBEq, rules2, rulesX, rowsX]
      cases h
      exact ⟨⟨rfl, trivial⟩, rfl⟩
  · rw [ite_f hb2] at h
    try simp only [hb2, Nat.reduceBEq, Nat.reduceMul, Nat.reduceAdd, Nat.reduceDiv, Int.reduceBEq, rules2, rulesX, rowsX]
    cases h
    exact ⟨⟨rfl, trivial⟩, rfl⟩
/- 101: impl_WindowsOk -/
def c_impl_WindowsOk_1 : ACode := .seq (.reg [(none, .keep [0, 5, 6, 7] [] [])]) (.seq (.reg [(none, .bin 8 .lss (S 7) (S 6))]) (.seq (.cond (S 8) .skip (.exit 0)) (.seq (.block 1 (.seq (.reg [(none, .mv 9 (S 7)), (none, .iaddr 10 (S 5) (S 7) 2), (none, .load 11 (S 10) true 2), (none, .alloc 4 [aI 0, aI 0]), (none, .mv 3 (S 9)), (none, .store (S 4) (S 11) 2)]) (.seq (.drw [(some [], (none, .faddr 12 (S 4) 0)), (some [], (none, .load 13 (S 12) false 1)), (some [], (none, .bin 14 .lss (S 13) (K 0))), (some [], (none, .mv 15 (S 14))), (some [], (some (15, false), .faddr 16 (S 4) 0)), (some [], (some (15, false), .load 17 (S 16) false 1)), (some [], (some (15, false), .faddr 18 (S 4) 1)), (some [], (some (15, false), .load 19 (S 18) false 1)), (some [], (some (15, false), .bin 20 .gtr (S 17) (S 19))), (some [], (none, .pick 21 (S 15) (KB true) (S 20))), (some [], (none, .mv 22 (S 21))), (some [], (some (22, false), .faddr 23 (S 4) 1)), (some [], (some (22, false), .load 24 (S 23) false 1)), (some [], (some (22, false), .bin 25 .gtr (S 24) (K 2880))), (some [], (none, .pick 26 (S 22) (KB true) (S 25))), (some [], (none, .mv 27 (S 26))), (some [], (some (27, false), .mv 28 (S 3))), (some [], (some (27, false), .bin 29 .gtr (S 28) (K 0))), (some [], (some (27, false), .mv 30 (S 29))), (some [], (some (30, true), .mv 31 (S 0))), (some [], (some (30, true), .mv 32 (S 3))), (some [], (some (30, true), .bin 33 .sub (S 32) (K 1))), (some [], (some (30, true), .iaddr 34 (S 31) (S 33) 2)), (some [], (some (30, true), .faddr 35 (S 34) 1)), (some [], (some (30, true), .load 36 (S 35) false 1)), (some [], (some (30, true), .bin 37 .add (S 36) (K 1))), (some [], (some (30, true), .faddr 38 (S 4) 0)), (some [], (some (30, true), .load 39 (S 38) false 1)), (some [], (some (30, true), .bin 40 .geq (S 37) (S 39))), (some [], (some (27, false), .pick 41 (S 30) (S 40) (KB false))), (some [], (none, .pick 42 (S 27) (KB true) (S 41)))]) (.cond (S 42) (.seq (.reg [(none, .mv 2 (KB false))]) .ret) .skip)))) (.reg [(none, .bin 43 .add (S 7) (K 1)), (none, .mv 7 (S 43))]))))
def c_impl_WindowsOk_n1 : ACode := (.seq (.reg [(none, .mv 2 (KB true))]) .ret)
def c_impl_WindowsOk : ACode := (.seq (.reg [(none, .mv 2 (KB false))]) (.seq (.seq (.reg [(none, .mv 5 (S 0)), (none, .len 6 (S 5)), (none, .mv 7 (K 0))]) (.block 0 (.loop c_impl_WindowsOk_1))) c_impl_WindowsOk_n1))
theorem w_impl_WindowsOk_1 (a0 : List XWindow) : ∀ (n : Nat) (v1 : Int) (r : Bool), f_impl_WindowsOk_1 a0 n v1 = some r → ∀ σ : St, σ.kept [0, 5, 6, 7] [] [] = ⟨[(0, vc (aL (List.map XWindow.row a0))), (5, vc (aL (List.map XWindow.row a0))), (6, vc (aI (a0.length : Int))), (7, vc (aI v1))], [], []⟩ → go Tryz.prog (.code (.loop c_impl_WindowsOk_1) :: [.blk 0, .code c_impl_WindowsOk_n1]) (Ret [2] [.sc (.v (.bool r))]) .normal (some σ) := by
  intro n
  induction n with
  | zero => intro _ r h; cases h
  | succ n ih =>
    intro v1 r h σ hσ
    rw [f_impl_WindowsOk_1] at h
    refine go_round ?_
    rcases Bool.eq_false_or_eq_true (decide (v1 < (a0.length : Int))) with hb2 | hb2
    · rw [ite_t hb2] at h
      obtain ⟨x3, hx3, h⟩ := ob h
      try simp only [hσ, hb2, hx3, c_impl_WindowsOk_1, Nat.reduceBEq, Nat.reduceMul, Nat.reduceAdd, Nat.reduceDiv, Int.reduceBEq, rules2, rulesX, rowsX]
      refine go_al rfl rfl ?_
      try simp only [hb2, hx3, Nat.reduceBEq, Nat.reduceMul, Nat.reduceAdd, Nat.reduceDiv, Int.reduceBEq, rules2, rulesX, rowsX]
      refine go_fr_of rfl ?_
      rcases Bool.eq_false_or_eq_true (decide (x3.From < (0 : Int))) with hb4 | hb4
      · rw [ite_t hb4] at h
        try simp only [hb2, hx3, hb4, Nat.reduceBEq, Nat.reduceMul, Nat.reduceAdd, Nat.reduceDiv, Int.reduceBEq, rules2, rulesX, rowsX]
        cases h
        exact ⟨⟨rfl, trivial⟩, rfl⟩
      · rw [ite_f hb4] at h
        rcases Bool.eq_false_or_eq_true (decide (x3.To < x3.From)) with hb5 | hb5
        · rw [ite_t hb5] at h
          try simp only [hb2, hx3, hb4, hb5, Nat.reduceBEq, Nat.reduceMul, Nat.reduceAdd, Nat.reduceDiv, Int.reduceBEq, rules2, rulesX, rowsX]
          cases h
          exact ⟨⟨rfl, trivial⟩, rfl⟩
        · rw [ite_f hb5] at h
          rcases Bool.eq_false_or_eq_true (decide ((2880 : Int) < x3.To)) with hb6 | hb6
          · rw [ite_t hb6] at h
            try simp only [hb2, hx3, hb4, hb5, hb6, Nat.reduceBEq, Nat.reduceMul, Nat.reduceAdd, Nat.reduceDiv, Int.reduceBEq, rules2, rulesX, rowsX]
            cases h
            exact ⟨⟨rfl, trivial⟩, rfl⟩
          · rw [ite_f hb6] at h
            rcases Bool.eq_false_or_eq_true (decide ((0 : Int) < v1)) with hb7 | hb7
            · rw [ite_t hb7] at h
              obtain ⟨x8, hx8, h⟩ := ob h
              rcases Bool.eq_false_or_eq_true (decide (x3.From ≤ (IntKind.i64.wrap (x8.To + (1 : Int))))) with hb9 | hb9
              · rw [ite_t hb9] at h
                try simp only [hb2, hx3, hb4, hb5, hb6, hb7, hx8, hb9, Nat.reduceBEq, Nat.reduceMul, Nat.reduceAdd, Nat.reduceDiv, Int.reduceBEq, rules2, rulesX, rowsX]
                cases h
                exact ⟨⟨rfl, trivial⟩, rfl⟩
              · rw [ite_f hb9] at h
                try simp only [hb2, hx3, hb4, hb5, hb6, hb7, hx8, hb9, Nat.reduceBEq, Nat.reduceMul, Nat.reduceAdd, Nat.reduceDiv, Int.reduceBEq, rules2, rulesX, rowsX]
                refine ih _ _ h _ ?_
                try simp only [hb2, hx3, hb4, hb5, hb6, hb7, hx8, hb9, Nat.reduceBEq, Nat.reduceMul, Nat.reduceAdd, Nat.reduceDiv, Int.reduceBEq, rules2, rulesX, rowsX, List.map_nil]
            · rw [ite_f hb7] at h
              try simp only [hb2, hx3, hb4, hb5, hb6, hb7, Nat.reduceBEq, Nat.reduceMul, Nat.reduceAdd, Nat.reduceDiv, Int.reduceBEq, rules2, rulesX, rowsX]
              refine ih _ _ h _ ?_
              try simp only [hb2, hx3, hb4, hb5, hb6, hb7, Nat.reduceBEq, Nat.reduceMul, Nat.reduceAdd, Nat.reduceDiv, Int.reduceBEq, rules2, rulesX, rowsX, List.map_nil]
    · rw [ite_f hb2] at h
      try simp only [hσ, hb2, c_impl_WindowsOk_1, c_impl_WindowsOk_n1, Nat.reduceBEq, Nat.reduceMul, Nat.reduceAdd, Nat.reduceDiv, Int.reduceBEq, rules2, rulesX, rowsX]
      cases h
      exact ⟨⟨rfl, trivial⟩, rfl⟩
theorem e_impl_WindowsOk : entry Tryz.prog 101 = some (c_impl_WindowsOk.strip, [2], 44) := by kernel_rfl
theorem w_impl_WindowsOk (a0 : List XWindow) (r : Bool) (h : f_impl_WindowsOk a0 = some r) : FC Tryz.prog 101 [.sc (.sl (List.map XWindow.row a0))] [.sc (.v (.bool r))] := by
  unfold f_impl_WindowsOk at h
  refine FC_go (σ := ⟨[(0, vc (aL (List.map XWindow.row a0)))], [], []⟩) mixed e_impl_WindowsOk rfl rfl ?_
  simp only [c_impl_WindowsOk]
  try simp only [Nat.reduceBEq, Nat.reduceMul, Nat.reduceAdd, Nat.reduceDiv, Int.reduceBEq, rules2, rulesX, rowsX]
  refine w_impl_WindowsOk_1 _ _ _ _ h _ ?_
  try simp only [Nat.reduceBEq, Nat.reduceMul, Nat.reduceAdd, Nat.reduceDiv, Int.reduceBEq, rules2, rulesX, rowsX, List.map_nil]
/- 104: impl_ShrinkWindows -/
def c_impl_ShrinkWindows_1 : ACode := .seq (.reg [(none, .keep [1, 5, 17, 18, 19] [] [1024])]) (.seq (.reg [(none, .bin 20 .lss (S 19) (S 18))]) (.seq (.cond (S 20) .skip (.exit 0)) (.seq (.block 1 (.seq (.reg [(none, .iaddr 21 (S 17) (S 19) 2), (none, .load 22 (S 21) true 2), (none, .alloc 7 [aI 0, aI 0]), (none, .store (S 7) (S 22) 2)]) (.seq (.reg [(none, .faddr 23 (S 7) 1), (none, .load 24 (S 23) false 1), (none, .faddr 25 (S 7) 0), (none, .load 26 (S 25) false 1), (none, .bin 27 .sub (S 24) (S 26)), (none, .mv 28 (S 1)), (none, .bin 29 .geq (S 27) (S 28))]) (.cond (S 29) (.reg [(none, .mv 30 (S 5)), (none, .faddr 31 (S 7) 0), (none, .load 32 (S 31) false 1), (none, .faddr 33 (S 7) 1), (none, .load 34 (S 33) false 1), (none, .mv 35 (S 1)), (none, .bin 36 .sub (S 34) (S 35)), (none, .build 37 [aI 0, aI 0] [(0, 1, (S 32)), (1, 1, (S 36))]), (none, .bslice 38 2 [.int .i64 0, .int .i64 0] 1 [(0, (S 37))]), (none, .app 39 2 16 (S 30) (S 38)), (none, .mv 5 (S 39))]) .skip)))) (.reg [(none, .bin 40 .add (S 19) (K 1)), (none, .mv 19 (S 40))]))))
def c_impl_ShrinkWindows_n1 : ACode := (.seq (.reg [(none, .mv 41 (S 5)), (none, .mv 4 (S 41))]) .ret)
def c_impl_ShrinkWindows : ACode := (.seq (.reg [(none, .mv 4 KN)]) (.seq (.seq (.reg [(none, .mv 8 (S 0)), (none, .call 9 101 [(S 8)]), (none, .un 10 .not (S 9)), (none, .mv 11 (S 10)), (some (11, false), .mv 12 (S 1)), (some (11, false), .call 13 124 [(S 12)]), (some (11, false), .un 14 .not (S 13)), (none, .pick 15 (S 11) (KB true) (S 14))]) (.cond (S 15) (.seq (.reg [(none, .mv 4 KN)]) .ret) .skip)) (.seq (.reg [(none, .bslice 16 2 [.int .i64 0, .int .i64 0] 0 []), (none, .mv 5 (S 16))]) (.seq (.seq (.reg [(none, .mv 17 (S 0)), (none, .len 18 (S 17)), (none, .mv 19 (K 0))]) (.block 0 (.loop c_impl_ShrinkWindows_1))) c_impl_ShrinkWindows_n1))))
theorem w_impl_ShrinkWindows_1 (a1 : Int) (a0 : List XWindow) : ∀ (n : Nat) (v5 : Int) (v6 : List XWindow) (r : (List XWindow)), f_impl_ShrinkWindows_1 a1 a0 n v5 v6 = some r → ∀ σ : St, σ.kept [1, 5, 17, 18, 19] [] [1024] = ⟨[(1, vc (aI a1)), (5, vc (.own 1024)), (17, vc (aL (List.map XWindow.row a0))), (18, vc (aI (a0.length : Int))), (19, vc (aI v5))], [], [(1024, 2, List.map XWindow.row v6)]⟩ → go Tryz.prog (.code (.loop c_impl_ShrinkWindows_1) :: [.blk 0, .code c_impl_ShrinkWindows_n1]) (Ret [4] [.sc (.o 2 (List.map XWindow.row r))]) .normal (some σ) := by
  intro n
  induction n with
  | zero => intro _ _ r h; cases h
  | succ n ih =>
    intro v5 v6 r h σ hσ
    rw [f_impl_ShrinkWindows_1] at h
    refine go_round ?_
    rcases Bool.eq_false_or_eq_true (decide (v5 < (a0.length : Int))) with hb7 | hb7
    · rw [ite_t hb7] at h
      obtain ⟨x8, hx8, h⟩ := ob h
      try simp only [hσ, hb7, hx8, c_impl_ShrinkWindows_1, Nat.reduceBEq, Nat.reduceMul, Nat.reduceAdd, Nat.reduceDiv, Int.reduceBEq, rules2, rulesX, rowsX]
      refine go_al rfl rfl ?_
      rcases Bool.eq_false_or_eq_true (decide (a1 ≤ (IntKind.i64.wrap (x8.To - x8.From)))) with hb9 | hb9
      · rw [ite_t hb9] at h
        try simp only [hb7, hx8, hb9, Nat.reduceBEq, Nat.reduceMul, Nat.reduceAdd, Nat.reduceDiv, Int.reduceBEq, rules2, rulesX, rowsX]
        refine go_bsl (es := List.map XWindow.row ([(⟨x8.From, (IntKind.i64.wrap (x8.To - a1))⟩ : XWindow)] : List XWindow)) rfl rfl ?_
        obtain ⟨hg10, h⟩ := of_guard h
        try simp only [hb7, hx8, hb9, hg10, Nat.reduceBEq, Nat.reduceMul, Nat.reduceAdd, Nat.reduceDiv, Int.reduceBEq, rules2, rulesX, rowsX]
        refine ih _ _ _ h _ ?_
        try simp only [hb7, hx8, hb9, hg10, Nat.reduceBEq, Nat.reduceMul, Nat.reduceAdd, Nat.reduceDiv, Int.reduceBEq, rules2, rulesX, rowsX, List.map_nil]
      · rw [ite_f hb9] at h
        try simp only [hb7, hx8, hb9, Nat.reduceBEq, Nat.reduceMul, Nat.reduceAdd, Nat.reduceDiv, Int.reduceBEq, rules2, rulesX, rowsX]
        refine ih _ _ _ h _ ?_
        try simp only [hb7, hx8, hb9, Nat.reduceBEq, Nat.reduceMul, Nat.reduceAdd, Nat.reduceDiv, Int.reduceBEq, rules2, rulesX, rowsX, List.map_nil]
    · rw [ite_f hb7] at h
      try simp only [hσ, hb7, c_impl_ShrinkWindows_1, c_impl_ShrinkWindows_n1, Nat.reduceBEq, Nat.reduceMul, Nat.reduceAdd, Nat.reduceDiv, Int.reduceBEq, rules2, rulesX, rowsX]
      cases h
      exact ⟨⟨rfl, trivial⟩, rfl⟩
theorem e_impl_ShrinkWindows : entry Tryz.prog 104 = some (c_impl_ShrinkWindows.strip, [4], 42) := by kernel_rfl
theorem w_impl_ShrinkWindows (a0 : List XWindow) (a1 : Int) (r : (List XWindow)) (h : f_impl_ShrinkWindows a0 a1 = some r) : FC Tryz.prog 104 [.sc (.sl (List.map XWindow.row a0)), .sc (.int .i64 a1)] [.sc (.o 2 (List.map XWindow.row r))] := by
  unfold f_impl_ShrinkWindows at h
  refine FC_go (σ := ⟨[(0, vc (aL (List.map XWindow.row a0))), (1, vc (aI a1))], [], []⟩) mixed e_impl_ShrinkWindows rfl rfl ?_
  simp only [c_impl_ShrinkWindows]
  obtain ⟨r1, hr1, h⟩ := ob h
  try simp only [Nat.reduceBEq, Nat.reduceMul, Nat.reduceAdd, Nat.reduceDiv, Int.reduceBEq, rules2, rulesX, rowsX]
  refine go_callI (w_impl_WindowsOk _ _ hr1) rfl rfl (Nat.le_of_ble_eq_true rfl) ?_
  rcases Bool.eq_false_or_eq_true r1 with hb2 | hb2
  · rw [ite_t hb2] at h
    obtain ⟨r3, hr3, h⟩ := ob h
    try simp only [hb2, Nat.reduceBEq, Nat.reduceMul, Nat.reduceAdd, Nat.reduceDiv, Int.reduceBEq, rules2, rulesX, rowsX]
    refine go_callI (w_impl_isMinute _ _ hr3) rfl rfl (Nat.le_of_ble_eq_true rfl) ?_
    rcases Bool.eq_false_or_eq_true r3 with hb4 | hb4
    · rw [ite_t hb4] at h
      try simp only [hb2, hb4, Nat.reduceBEq, Nat.reduceMul, Nat.reduceAdd, Nat.reduceDiv, Int.reduceBEq, rules2, rulesX, rowsX]
      refine go_bsl (es := List.map XWindow.row ([] : List XWindow)) rfl rfl ?_
      try simp only [hb2, hb4, Nat.reduceBEq, Nat.reduceMul, Nat.reduceAdd, Nat.reduceDiv, Int.reduceBEq, rules2, rulesX, rowsX]
      refine w_impl_ShrinkWindows_1 _ _ _ _ _ _ h _ ?_
      try simp only [hb2, hb4, Nat.reduceBEq, Nat.reduceMul, Nat.reduceAdd, Nat.reduceDiv, Int.reduceBEq, rules2, rulesX, rowsX, List.map_nil]
    · rw [ite_f hb4] at h
      try simp only [hb2, hb4, Nat.reduceBEq, Nat.reduceMul, Nat.reduceAdd, Nat.reduceDiv, Int.reduceBEq, rules2, rulesX, rowsX]
      cases h
      exact ⟨⟨rfl, trivial⟩, rfl⟩
  · rw [ite_f hb2] at h
    try simp only [hb2, Nat.reduceBEq, Nat.reduceMul, Nat.reduceAdd, Nat.reduceDiv, Int.reduceBEq, rules2, rulesX, rowsX]
    cases h
    exact ⟨⟨rfl, trivial⟩, rfl⟩
/- 55: impl_SureStarts -/
def c_impl_SureStarts : ACode := (.seq (.reg [(none, .box 4 (S 0)), (none, .box 5 (S 1)), (none, .box 7 (S 3)), (none, .mv 8 KN)]) (.seq (.seq (.reg [(none, .load 9 (S 4) true 3), (none, .call 10 50 [(S 9)]), (none, .un 11 .not (S 10)), (none, .mv 12 (S 11)), (some (12, false), .load 13 (S 5) true 2), (some (12, false), .mv 14 (S 2)), (some (12, false), .load 15 (S 7) true 6), (some (12, false), .call 16 103 [(S 13), (S 14), (S 15)]), (some (12, false), .un 17 .not (S 16)), (none, .pick 18 (S 12) (KB true) (S 17))]) (.cond (S 18) (.seq (.reg [(none, .mv 8 KN)]) .ret) .skip)) (.seq (.drw [(some [23], (none, .load 19 (S 4) true 3)), (some [], (none, .load 20 (S 5) true 2)), (some [], (none, .mv 21 (S 2))), (some [], (none, .load 22 (S 7) true 6)), (some [], (none, .call 23 106 [(S 20), (S 21), (S 22)])), (some [], (none, .call 24 105 [(S 19), (S 23)])), (some [23, 24], (none, .load 25 (S 5) true 2)), (some [23, 24], (none, .mv 26 (S 2))), (some [23, 24], (none, .load 27 (S 7) true 6)), (some [], (none, .call 28 107 [(S 25), (S 26), (S 27)])), (some [], (none, .call 29 104 [(S 24), (S 28)])), (some [], (none, .mv 8 (S 29)))]) .ret)))
theorem e_impl_SureStarts : entry Tryz.prog 55 = some (c_impl_SureStarts.strip, [8], 30) := by kernel_rfl
theorem w_impl_SureStarts (a0 : XForecast) (a1 : XChart) (a2 : Int) (a3 : XShip) (r : (List XWindow)) (h : f_impl_SureStarts a0 a1 a2 a3 = some r) : FC Tryz.prog 55 [.ag (XForecast.row a0), .ag (XChart.row a1), .sc (.int .i64 a2), .ag (XShip.row a3)] [.sc (.o 2 (List.map XWindow.row r))] := by
  unfold f_impl_SureStarts at h
  refine FC_go (σ := ⟨[(0, va [aI a0.Tide.Mean, aL (List.map XPart.row a0.Tide.Parts), aL (List.map XSurge.row a0.Surges)]), (1, va [aL (List.map XPoint.row a1.Points), aL (List.map XSegment.row a1.Segments)]), (2, vc (aI a2)), (3, va [aS a3.Name, aI a3.Length, aI a3.Draught, aI a3.Line, aI a3.Tugs, aB a3.Slow])], [], []⟩) mixed e_impl_SureStarts rfl rfl ?_
  simp only [c_impl_SureStarts]
  try simp only [Nat.reduceBEq, Nat.reduceMul, Nat.reduceAdd, Nat.reduceDiv, Int.reduceBEq, rules2, rulesX, rowsX]
  refine go_bx rfl rfl rfl ?_
  try simp only [Nat.reduceBEq, Nat.reduceMul, Nat.reduceAdd, Nat.reduceDiv, Int.reduceBEq, rules2, rulesX, rowsX]
  refine go_bx rfl rfl rfl ?_
  try simp only [Nat.reduceBEq, Nat.reduceMul, Nat.reduceAdd, Nat.reduceDiv, Int.reduceBEq, rules2, rulesX, rowsX]
  refine go_bx rfl rfl rfl ?_
  obtain ⟨r1, hr1, h⟩ := ob h
  try simp only [Nat.reduceBEq, Nat.reduceMul, Nat.reduceAdd, Nat.reduceDiv, Int.reduceBEq, rules2, rulesX, rowsX]
  refine go_callI (w_impl_ForecastOk _ _ hr1) rfl rfl (Nat.le_of_ble_eq_true rfl) ?_
  rcases Bool.eq_false_or_eq_true r1 with hb2 | hb2
  · rw [ite_t hb2] at h
    obtain ⟨r3, hr3, h⟩ := ob h
    try simp only [hb2, Nat.reduceBEq, Nat.reduceMul, Nat.reduceAdd, Nat.reduceDiv, Int.reduceBEq, rules2, rulesX, rowsX]
    refine go_callI (w_impl_onSegment _ _ _ _ hr3) rfl rfl (Nat.le_of_ble_eq_true rfl) ?_
    rcases Bool.eq_false_or_eq_true r3 with hb4 | hb4
    · rw [ite_t hb4] at h
      try simp only [hb2, hb4, Nat.reduceBEq, Nat.reduceMul, Nat.reduceAdd, Nat.reduceDiv, Int.reduceBEq, rules2, rulesX, rowsX]
      refine go_fr_of rfl ?_
      obtain ⟨r5, hr5, h⟩ := ob h
      try simp only [hb2, hb4, Nat.reduceBEq, Nat.reduceMul, Nat.reduceAdd, Nat.reduceDiv, Int.reduceBEq, rules2, rulesX, rowsX]
      refine go_dcallI (w_impl_LevelFor _ _ _ _ hr5) rfl rfl (Nat.le_of_ble_eq_true rfl) ?_
      obtain ⟨r6, hr6, h⟩ := ob h
      try simp only [hb2, hb4, Nat.reduceBEq, Nat.reduceMul, Nat.reduceAdd, Nat.reduceDiv, Int.reduceBEq, rules2, rulesX, rowsX]
      refine go_dcallI (w_impl_LowWindows _ _ _ hr6) rfl rfl (Nat.le_of_ble_eq_true rfl) ?_
      obtain ⟨r7, hr7, h⟩ := ob h
      try simp only [hb2, hb4, Nat.reduceBEq, Nat.reduceMul, Nat.reduceAdd, Nat.reduceDiv, Int.reduceBEq, rules2, rulesX, rowsX]
      refine go_dcallI (w_impl_MinutesOn _ _ _ _ hr7) rfl rfl (Nat.le_of_ble_eq_true rfl) ?_
      obtain ⟨r8, hr8, h⟩ := ob h
      try simp only [hb2, hb4, Nat.reduceBEq, Nat.reduceMul, Nat.reduceAdd, Nat.reduceDiv, Int.reduceBEq, rules2, rulesX, rowsX]
      refine go_dcall (w_impl_ShrinkWindows _ _ _ hr8) (by first | rfl | kernel_rfl) (flat_l rfl ⟨flat_o, trivial⟩) rfl (Nat.le_of_ble_eq_true rfl) ?_
      try simp only [hb2, hb4, Nat.reduceBEq, Nat.reduceMul, Nat.reduceAdd, Nat.reduceDiv, Int.reduceBEq, rules2, rulesX, rowsX]
      cases h
      exact ⟨⟨rfl, trivial⟩, rfl⟩
    · rw [ite_f hb4] at h
      try simp only [hb2, hb4, Nat.reduceBEq, Nat.reduceMul, Nat.reduceAdd, Nat.reduceDiv, Int.reduceBEq, rules2, rulesX, rowsX]
      cases h
      exact ⟨⟨rfl, trivial⟩, rfl⟩
  · rw [ite_f hb2] at h
    try simp only [hb2, Nat.reduceBEq, Nat.reduceMul, Nat.reduceAdd, Nat.reduceDiv, Int.reduceBEq, rules2, rulesX, rowsX]
    cases h
    exact ⟨⟨rfl, trivial⟩, rfl⟩
/- 102: impl_FormatInt -/
def c_impl_FormatInt : ACode := (.seq (.reg [(none, .mv 2 (KS []))]) (.seq (.reg [(none, .mv 3 (S 0)), (none, .call 4 134 [(S 3)]), (none, .mv 2 (S 4))]) .ret))
theorem e_impl_FormatInt : entry Tryz.prog 102 = some (c_impl_FormatInt.strip, [2], 5) := by kernel_rfl
theorem w_impl_FormatInt (a0 : Int) (r : (List UInt8)) (h : f_impl_FormatInt a0 = some r) : FC Tryz.prog 102 [.sc (.int .i64 a0)] [.sc (.v (.str r))] := by
  unfold f_impl_FormatInt at h
  refine FC_go (σ := ⟨[(0, vc (aI a0))], [], []⟩) mixed e_impl_FormatInt rfl rfl ?_
  simp only [c_impl_FormatInt]
  obtain ⟨r1, hr1, h⟩ := ob h
  try simp only [Nat.reduceBEq, Nat.reduceMul, Nat.reduceAdd, Nat.reduceDiv, Int.reduceBEq, rules2, rulesX, rowsX]
  refine go_callI (w_strconv_Itoa _ _ hr1) rfl rfl (Nat.le_of_ble_eq_true rfl) ?_
  try simp only [Nat.reduceBEq, Nat.reduceMul, Nat.reduceAdd, Nat.reduceDiv, Int.reduceBEq, rules2, rulesX, rowsX]
  cases h
  exact ⟨⟨rfl, trivial⟩, rfl⟩
/- 100: impl_Join -/
def c_impl_Join : ACode := (.seq (.reg [(none, .mv 4 (KS []))]) (.seq (.reg [(none, .mv 5 (S 0)), (none, .mv 6 (S 1)), (none, .call 7 133 [(S 5), (S 6)]), (none, .mv 4 (S 7))]) .ret))
theorem e_impl_Join : entry Tryz.prog 100 = some (c_impl_Join.strip, [4], 8) := by kernel_rfl
theorem w_impl_Join (a0 : List (List UInt8)) (a1 : List UInt8) (r : (List UInt8)) (h : f_impl_Join a0 a1 = some r) : FC Tryz.prog 100 [.sc (.sl (List.map rS a0)), .sc (.str a1)] [.sc (.v (.str r))] := by
  unfold f_impl_Join at h
  refine FC_go (σ := ⟨[(0, vc (aL (List.map rS a0))), (1, vc (aS a1))], [], []⟩) mixed e_impl_Join rfl rfl ?_
  simp only [c_impl_Join]
  obtain ⟨r1, hr1, h⟩ := ob h
  try simp only [Nat.reduceBEq, Nat.reduceMul, Nat.reduceAdd, Nat.reduceDiv, Int.reduceBEq, rules2, rulesX, rowsX]
  refine go_callI (w_strings_Join _ _ _ hr1) rfl rfl (Nat.le_of_ble_eq_true rfl) ?_
  try simp only [Nat.reduceBEq, Nat.reduceMul, Nat.reduceAdd, Nat.reduceDiv, Int.reduceBEq, rules2, rulesX, rowsX]
  cases h
  exact ⟨⟨rfl, trivial⟩, rfl⟩
/- 54: impl_FormatWindows -/
def c_impl_FormatWindows_1 : ACode := .seq (.reg [(none, .keep [3, 13, 14, 15] [] [768])]) (.seq (.reg [(none, .bin 16 .lss (S 15) (S 14))]) (.seq (.cond (S 16) .skip (.exit 0)) (.seq (.block 1 (.seq (.reg [(none, .iaddr 17 (S 13) (S 15) 2), (none, .load 18 (S 17) true 2), (none, .alloc 5 [aI 0, aI 0]), (none, .store (S 5) (S 18) 2)]) (.drw [(some [22, 26, 28], (none, .mv 19 (S 3))), (some [], (none, .faddr 20 (S 5) 0)), (some [], (none, .load 21 (S 20) false 1)), (some [], (none, .call 22 102 [(S 21)])), (some [26], (none, .bin 23 .add (S 22) (KS [45]))), (some [22], (none, .faddr 24 (S 5) 1)), (some [22], (none, .load 25 (S 24) false 1)), (some [], (none, .call 26 102 [(S 25)])), (some [], (none, .bin 27 .add (S 23) (S 26))), (some [], (none, .bslice 28 1 [.str []] 1 [(0, (S 27))])), (none, (none, .app 29 1 16 (S 19) (S 28))), (some [], (none, .mv 3 (S 29)))]))) (.reg [(none, .bin 30 .add (S 15) (K 1)), (none, .mv 15 (S 30))]))))
def c_impl_FormatWindows_n1 : ACode := (.seq (.reg [(none, .mv 31 (S 3)), (none, .call 32 100 [(S 31), (KS [32])]), (none, .mv 2 (S 32))]) .ret)
def c_impl_FormatWindows : ACode := (.seq (.reg [(none, .mv 2 (KS []))]) (.seq (.seq (.reg [(none, .mv 6 (S 0)), (none, .call 7 101 [(S 6)]), (none, .un 8 .not (S 7))]) (.cond (S 8) (.seq (.reg [(none, .mv 2 (KS []))]) .ret) .skip)) (.seq (.seq (.reg [(none, .mv 9 (S 0)), (none, .len 10 (S 9)), (none, .bin 11 .eql (S 10) (K 0))]) (.cond (S 11) (.seq (.reg [(none, .mv 2 (KS [110, 111, 110, 101]))]) .ret) .skip)) (.seq (.reg [(none, .bslice 12 1 [.str []] 0 []), (none, .mv 3 (S 12))]) (.seq (.seq (.reg [(none, .mv 13 (S 0)), (none, .len 14 (S 13)), (none, .mv 15 (K 0))]) (.block 0 (.loop c_impl_FormatWindows_1))) c_impl_FormatWindows_n1)))))
theorem w_impl_FormatWindows_1 (a0 : List XWindow) : ∀ (n : Nat) (v4 : Int) (v5 : List (List UInt8)) (r : (List UInt8)), f_impl_FormatWindows_1 a0 n v4 v5 = some r → ∀ σ : St, σ.kept [3, 13, 14, 15] [] [768] = ⟨[(3, vc (.own 768)), (13, vc (aL (List.map XWindow.row a0))), (14, vc (aI (a0.length : Int))), (15, vc (aI v4))], [], [(768, 1, List.map rS v5)]⟩ → go Tryz.prog (.code (.loop c_impl_FormatWindows_1) :: [.blk 0, .code c_impl_FormatWindows_n1]) (Ret [2] [.sc (.v (.str r))]) .normal (some σ) := by
  intro n
  induction n with
  | zero => intro _ _ r h; cases h
  | succ n ih =>
    intro v4 v5 r h σ hσ
    rw [f_impl_FormatWindows_1] at h
    refine go_round ?_
    rcases Bool.eq_false_or_eq_true (decide (v4 < (a0.length : Int))) with hb6 | hb6
    · rw [ite_t hb6] at h
      obtain ⟨x7, hx7, h⟩ := ob h
      try simp only [hσ, hb6, hx7, c_impl_FormatWindows_1, Nat.reduceBEq, Nat.reduceMul, Nat.reduceAdd, Nat.reduceDiv, Int.reduceBEq, rules2, rulesX, rowsX]
      refine go_al rfl rfl ?_
      try simp only [hb6, hx7, Nat.reduceBEq, Nat.reduceMul, Nat.reduceAdd, Nat.reduceDiv, Int.reduceBEq, rules2, rulesX, rowsX]
      refine go_fr_of rfl ?_
      obtain ⟨r8, hr8, h⟩ := ob h
      try simp only [hb6, hx7, Nat.reduceBEq, Nat.reduceMul, Nat.reduceAdd, Nat.reduceDiv, Int.reduceBEq, rules2, rulesX, rowsX]
      refine go_dcallI (w_impl_FormatInt _ _ hr8) rfl rfl (Nat.le_of_ble_eq_true rfl) ?_
      obtain ⟨hg9, h⟩ := of_guard h
      obtain ⟨r10, hr10, h⟩ := ob h
      try simp only [hb6, hx7, hg9, Nat.reduceBEq, Nat.reduceMul, Nat.reduceAdd, Nat.reduceDiv, Int.reduceBEq, rules2, rulesX, rowsX]
      refine go_dcallI (w_impl_FormatInt _ _ hr10) rfl rfl (Nat.le_of_ble_eq_true rfl) ?_
      obtain ⟨hg11, h⟩ := of_guard h
      try simp only [hb6, hx7, hg9, hg11, Nat.reduceBEq, Nat.reduceMul, Nat.reduceAdd, Nat.reduceDiv, Int.reduceBEq, rules2, rulesX, rowsX]
      refine go_bsl (es := List.map rS ([((r8 ++ ([45] : List UInt8)) ++ r10)] : List (List UInt8))) rfl rfl ?_
      obtain ⟨hg12, h⟩ := of_guard h
      try simp only [List.cons_append, List.nil_append] at hg12
      try simp only [hb6, hx7, hg9, hg11, hg12, Nat.reduceBEq, Nat.reduceMul, Nat.reduceAdd, Nat.reduceDiv, Int.reduceBEq, rules2, rulesX, rowsX]
      refine go_fr_of rfl ?_
      try simp only [hb6, hx7, hg9, hg11, hg12, Nat.reduceBEq, Nat.reduceMul, Nat.reduceAdd, Nat.reduceDiv, Int.reduceBEq, rules2, rulesX, rowsX]
      refine ih _ _ _ h _ ?_
      try simp only [hb6, hx7, hg9, hg11, hg12, Nat.reduceBEq, Nat.reduceMul, Nat.reduceAdd, Nat.reduceDiv, Int.reduceBEq, rules2, rulesX, rowsX, List.map_nil]
    · rw [ite_f hb6] at h
      obtain ⟨r13, hr13, h⟩ := ob h
      try simp only [hσ, hb6, c_impl_FormatWindows_1, c_impl_FormatWindows_n1, Nat.reduceBEq, Nat.reduceMul, Nat.reduceAdd, Nat.reduceDiv, Int.reduceBEq, rules2, rulesX, rowsX]
      refine go_call (w_impl_Join _ _ _ hr13) rfl (flat_of rfl) rfl (Nat.le_of_ble_eq_true rfl) ?_
      try simp only [hb6, Nat.reduceBEq, Nat.reduceMul, Nat.reduceAdd, Nat.reduceDiv, Int.reduceBEq, rules2, rulesX, rowsX]
      cases h
      exact ⟨⟨rfl, trivial⟩, rfl⟩
theorem e_impl_FormatWindows : entry Tryz.prog 54 = some (c_impl_FormatWindows.strip, [2], 33) := by kernel_rfl
theorem w_impl_FormatWindows (a0 : List XWindow) (r : (List UInt8)) (h : f_impl_FormatWindows a0 = some r) : FC Tryz.prog 54 [.sc (.sl (List.map XWindow.row a0))] [.sc (.v (.str r))] := by
  unfold f_impl_FormatWindows at h
  refine FC_go (σ := ⟨[(0, vc (aL (List.map XWindow.row a0)))], [], []⟩) mixed e_impl_FormatWindows rfl rfl ?_
  simp only [c_impl_FormatWindows]
  obtain ⟨r1, hr1, h⟩ := ob h
  try simp only [Nat.reduceBEq, Nat.reduceMul, Nat.reduceAdd, Nat.reduceDiv, Int.reduceBEq, rules2, rulesX, rowsX]
  refine go_callI (w_impl_WindowsOk _ _ hr1) rfl rfl (Nat.le_of_ble_eq_true rfl) ?_
  rcases Bool.eq_false_or_eq_true r1 with hb2 | hb2
  · rw [ite_t hb2] at h
    rcases Bool.eq_false_or_eq_true ((a0.length : Int) == (0 : Int)) with hb3 | hb3
    · rw [ite_t hb3] at h
      try simp only [hb2, hb3, Nat.reduceBEq, Nat.reduceMul, Nat.reduceAdd, Nat.reduceDiv, Int.reduceBEq, rules2, rulesX, rowsX]
      cases h
      exact ⟨⟨rfl, trivial⟩, rfl⟩
    · rw [ite_f hb3] at h
      try simp only [hb2, hb3, Nat.reduceBEq, Nat.reduceMul, Nat.reduceAdd, Nat.reduceDiv, Int.reduceBEq, rules2, rulesX, rowsX]
      refine go_bsl (es := List.map rS ([] : List (List UInt8))) rfl rfl ?_
      try simp only [hb2, hb3, Nat.reduceBEq, Nat.reduceMul, Nat.reduceAdd, Nat.reduceDiv, Int.reduceBEq, rules2, rulesX, rowsX]
      refine w_impl_FormatWindows_1 _ _ _ _ _ h _ ?_
      try simp only [hb2, hb3, Nat.reduceBEq, Nat.reduceMul, Nat.reduceAdd, Nat.reduceDiv, Int.reduceBEq, rules2, rulesX, rowsX, List.map_nil]
  · rw [ite_f hb2] at h
    try simp only [hb2, Nat.reduceBEq, Nat.reduceMul, Nat.reduceAdd, Nat.reduceDiv, Int.reduceBEq, rules2, rulesX, rowsX]
    cases h
    exact ⟨⟨rfl, trivial⟩, rfl⟩
/- 99: impl_word -/
def c_impl_word : ACode := (.seq (.reg [(none, .mv 2 (KS []))]) (.seq (.seq (.reg [(none, .mv 5 (S 0))]) (.block 0 (.seq (.reg [(none, .tass 6 (S 5) 3 (aI 0)), (none, .extr 7 (S 6) 1), (none, .extr 8 (S 6) 0)]) (.cond (S 7) (.seq (.reg [(none, .mv 3 (S 8))]) (.seq (.reg [(none, .mv 9 (S 3)), (none, .call 10 102 [(S 9)]), (none, .mv 2 (S 10))]) .ret)) (.seq (.reg [(none, .tass 11 (S 5) 9 (aS [])), (none, .extr 12 (S 11) 1), (none, .extr 13 (S 11) 0)]) (.cond (S 12) (.seq (.reg [(none, .mv 4 (S 13))]) (.seq (.reg [(none, .mv 14 (S 4)), (none, .mv 2 (S 14))]) .ret)) .skip)))))) (.seq (.reg [(none, .mv 2 (KS []))]) .ret)))
theorem e_impl_word : entry Tryz.prog 99 = some (c_impl_word.strip, [2], 15) := by kernel_rfl
theorem w_impl_word (a0 : XAny) (r : (List UInt8)) (h : f_impl_word a0 = some r) : FC Tryz.prog 99 [.sc (anyD a0)] [.sc (.v (.str r))] := by
  unfold f_impl_word at h
  refine FC_go (σ := ⟨[(0, vc (.dat (anyD a0)))], [], []⟩) mixed e_impl_word rfl rfl ?_
  simp only [c_impl_word]
  rcases Bool.eq_false_or_eq_true a0.isS with hb1 | hb1
  · rw [ite_t hb1] at h
    try simp only [hb1, Nat.reduceBEq, Nat.reduceMul, Nat.reduceAdd, Nat.reduceDiv, Int.reduceBEq, rules2, rulesX, rowsX]
    cases h
    exact ⟨⟨rfl, trivial⟩, rfl⟩
  · rw [ite_f hb1] at h
    obtain ⟨r2, hr2, h⟩ := ob h
    try simp only [hb1, Nat.reduceBEq, Nat.reduceMul, Nat.reduceAdd, Nat.reduceDiv, Int.reduceBEq, rules2, rulesX, rowsX]
    refine go_callI (w_impl_FormatInt _ _ hr2) rfl rfl (Nat.le_of_ble_eq_true rfl) ?_
    try simp only [hb1, Nat.reduceBEq, Nat.reduceMul, Nat.reduceAdd, Nat.reduceDiv, Int.reduceBEq, rules2, rulesX, rowsX]
    cases h
    exact ⟨⟨rfl, trivial⟩, rfl⟩
/- 53: impl_words -/
def c_impl_words_1 : ACode := .seq (.reg [(none, .keep [3, 7, 8, 9] [] [384])]) (.seq (.reg [(none, .bin 10 .lss (S 9) (S 8))]) (.seq (.cond (S 10) .skip (.exit 0)) (.seq (.block 1 (.seq (.reg [(none, .iaddr 11 (S 7) (S 9) 1), (none, .load 12 (S 11) false 1), (none, .mv 5 (S 12))]) (.reg [(none, .mv 13 (S 3)), (none, .mv 14 (S 5)), (none, .call 15 99 [(S 14)]), (none, .bslice 16 1 [.str []] 1 [(0, (S 15))]), (none, .app 17 1 16 (S 13) (S 16)), (none, .mv 3 (S 17))]))) (.reg [(none, .bin 18 .add (S 9) (K 1)), (none, .mv 9 (S 18))]))))
def c_impl_words_n1 : ACode := (.seq (.reg [(none, .mv 19 (S 3)), (none, .call 20 100 [(S 19), (KS [32])]), (none, .mv 2 (S 20))]) .ret)
def c_impl_words : ACode := (.seq (.reg [(none, .mv 2 (KS []))]) (.seq (.reg [(none, .bslice 6 1 [.str []] 0 []), (none, .mv 3 (S 6))]) (.seq (.seq (.reg [(none, .mv 7 (S 0)), (none, .len 8 (S 7)), (none, .mv 9 (K 0))]) (.block 0 (.loop c_impl_words_1))) c_impl_words_n1)))
theorem w_impl_words_1 (a0 : List XAny) : ∀ (n : Nat) (v1 : Int) (v2 : List (List UInt8)) (r : (List UInt8)), f_impl_words_1 a0 n v1 v2 = some r → ∀ σ : St, σ.kept [3, 7, 8, 9] [] [384] = ⟨[(3, vc (.own 384)), (7, vc (aL (List.map rA a0))), (8, vc (aI (a0.length : Int))), (9, vc (aI v1))], [], [(384, 1, List.map rS v2)]⟩ → go Tryz.prog (.code (.loop c_impl_words_1) :: [.blk 0, .code c_impl_words_n1]) (Ret [2] [.sc (.v (.str r))]) .normal (some σ) := by
  intro n
  induction n with
  | zero => intro _ _ r h; cases h
  | succ n ih =>
    intro v1 v2 r h σ hσ
    rw [f_impl_words_1] at h
    refine go_round ?_
    rcases Bool.eq_false_or_eq_true (decide (v1 < (a0.length : Int))) with hb3 | hb3
    · rw [ite_t hb3] at h
      obtain ⟨x4, hx4, h⟩ := ob h
      obtain ⟨r5, hr5, h⟩ := ob h
      try simp only [hσ, hb3, hx4, c_impl_words_1, Nat.reduceBEq, Nat.reduceMul, Nat.reduceAdd, Nat.reduceDiv, Int.reduceBEq, rules2, rulesX, rowsX]
      refine go_callI (w_impl_word _ _ hr5) rfl rfl (Nat.le_of_ble_eq_true rfl) ?_
      try simp only [hb3, hx4, Nat.reduceBEq, Nat.reduceMul, Nat.reduceAdd, Nat.reduceDiv, Int.reduceBEq, rules2, rulesX, rowsX]
      refine go_bsl (es := List.map rS ([r5] : List (List UInt8))) rfl rfl ?_
      obtain ⟨hg6, h⟩ := of_guard h
      try simp only [hb3, hx4, hg6, Nat.reduceBEq, Nat.reduceMul, Nat.reduceAdd, Nat.reduceDiv, Int.reduceBEq, rules2, rulesX, rowsX]
      refine ih _ _ _ h _ ?_
      try simp only [hb3, hx4, hg6, Nat.reduceBEq, Nat.reduceMul, Nat.reduceAdd, Nat.reduceDiv, Int.reduceBEq, rules2, rulesX, rowsX, List.map_nil]
    · rw [ite_f hb3] at h
      obtain ⟨r7, hr7, h⟩ := ob h
      try simp only [hσ, hb3, c_impl_words_1, c_impl_words_n1, Nat.reduceBEq, Nat.reduceMul, Nat.reduceAdd, Nat.reduceDiv, Int.reduceBEq, rules2, rulesX, rowsX]
      refine go_call (w_impl_Join _ _ _ hr7) rfl (flat_of rfl) rfl (Nat.le_of_ble_eq_true rfl) ?_
      try simp only [hb3, Nat.reduceBEq, Nat.reduceMul, Nat.reduceAdd, Nat.reduceDiv, Int.reduceBEq, rules2, rulesX, rowsX]
      cases h
      exact ⟨⟨rfl, trivial⟩, rfl⟩
theorem e_impl_words : entry Tryz.prog 53 = some (c_impl_words.strip, [2], 21) := by kernel_rfl
theorem w_impl_words (a0 : List XAny) (r : (List UInt8)) (h : f_impl_words a0 = some r) : FC Tryz.prog 53 [.sc (.sl (List.map rA a0))] [.sc (.v (.str r))] := by
  unfold f_impl_words at h
  refine FC_go (σ := ⟨[(0, vc (aL (List.map rA a0)))], [], []⟩) mixed e_impl_words rfl rfl ?_
  simp only [c_impl_words]
  try simp only [Nat.reduceBEq, Nat.reduceMul, Nat.reduceAdd, Nat.reduceDiv, Int.reduceBEq, rules2, rulesX, rowsX]
  refine go_bsl (es := List.map rS ([] : List (List UInt8))) rfl rfl ?_
  try simp only [Nat.reduceBEq, Nat.reduceMul, Nat.reduceAdd, Nat.reduceDiv, Int.reduceBEq, rules2, rulesX, rowsX]
  refine w_impl_words_1 _ _ _ _ _ h _ ?_
  try simp only [Nat.reduceBEq, Nat.reduceMul, Nat.reduceAdd, Nat.reduceDiv, Int.reduceBEq, rules2, rulesX, rowsX, List.map_nil]
/- 17: impl_SureLines -/
def c_impl_SureLines_1 : ACode := .seq (.reg [(none, .keep [3, 4, 5, 7, 25, 26, 27] [3, 4, 5] [1472])]) (.seq (.reg [(none, .bin 28 .lss (S 27) (S 26))]) (.seq (.cond (S 28) .skip (.exit 0)) (.seq (.block 1 (.seq (.reg [(none, .mv 29 (S 27)), (none, .iaddr 30 (S 25) (S 27) 5), (none, .load 31 (S 30) true 5), (none, .alloc 9 [aI 0, aI 0, aI 0, aI 0, aB false]), (none, .mv 8 (S 29)), (none, .store (S 9) (S 31) 5)]) (.drw [(some [54, 55, 57, 58, 59], (none, .mv 32 (S 7))), (some [54, 55], (none, .faddr 33 (S 4) 0)), (some [54, 55], (none, .load 34 (S 33) false 1)), (some [54, 55], (none, .faddr 35 (S 9) 0)), (some [54, 55], (none, .load 36 (S 35) false 1)), (some [54, 55], (none, .iaddr 37 (S 34) (S 36) 2)), (some [54, 55], (none, .faddr 38 (S 37) 0)), (some [54, 55], (none, .load 39 (S 38) false 1)), (some [54, 55], (none, .bin 40 .add (S 39) (KS [45]))), (some [54, 55], (none, .faddr 41 (S 4) 0)), (some [54, 55], (none, .load 42 (S 41) false 1)), (some [54, 55], (none, .faddr 43 (S 9) 1)), (some [54, 55], (none, .load 44 (S 43) false 1)), (some [54, 55], (none, .iaddr 45 (S 42) (S 44) 2)), (some [54, 55], (none, .faddr 46 (S 45) 0)), (some [54, 55], (none, .load 47 (S 46) false 1)), (some [54, 55], (none, .bin 48 .add (S 40) (S 47))), (some [54, 55], (none, .mkif 49 9 (S 48))), (some [], (none, .load 50 (S 3) true 3)), (some [], (none, .load 51 (S 4) true 2)), (some [], (none, .mv 52 (S 8))), (some [], (none, .load 53 (S 5) true 6)), (some [], (none, .call 54 55 [(S 50), (S 51), (S 52), (S 53)])), (some [], (none, .call 55 54 [(S 54)])), (some [], (none, .mkif 56 9 (S 55))), (some [], (none, .bslice 57 1 [.noi] 2 [(0, (S 49)), (1, (S 56))])), (some [], (none, .call 58 53 [(S 57)])), (some [], (none, .bslice 59 1 [.str []] 1 [(0, (S 58))])), (none, (none, .app 60 1 16 (S 32) (S 59))), (some [], (none, .mv 7 (S 60)))]))) (.reg [(none, .bin 61 .add (S 27) (K 1)), (none, .mv 27 (S 61))]))))
def c_impl_SureLines_n1 : ACode := (.seq (.reg [(none, .mv 62 (S 7)), (none, .mv 6 (S 62))]) .ret)
def c_impl_SureLines : ACode := (.seq (.reg [(none, .box 3 (S 0)), (none, .box 4 (S 1)), (none, .box 5 (S 2)), (none, .mv 6 KN)]) (.seq (.seq (.reg [(none, .load 10 (S 3) true 3), (none, .call 11 50 [(S 10)]), (none, .un 12 .not (S 11)), (none, .mv 13 (S 12)), (some (13, false), .load 14 (S 4) true 2), (some (13, false), .call 15 51 [(S 14)]), (some (13, false), .un 16 .not (S 15)), (none, .pick 17 (S 13) (KB true) (S 16)), (none, .mv 18 (S 17)), (some (18, false), .load 19 (S 5) true 6), (some (18, false), .call 20 52 [(S 19)]), (some (18, false), .un 21 .not (S 20)), (none, .pick 22 (S 18) (KB true) (S 21))]) (.cond (S 22) (.seq (.reg [(none, .mv 6 KN)]) .ret) .skip)) (.seq (.reg [(none, .bslice 23 1 [.str []] 0 []), (none, .mv 7 (S 23))]) (.seq (.seq (.reg [(none, .faddr 24 (S 4) 1), (none, .load 25 (S 24) false 1), (none, .len 26 (S 25)), (none, .mv 27 (K 0))]) (.block 0 (.loop c_impl_SureLines_1))) c_impl_SureLines_n1))))
theorem w_impl_SureLines_1 (a1 : XChart) (a0 : XForecast) (a2 : XShip) : ∀ (n : Nat) (v7 : Int) (v8 : List (List UInt8)) (r : (List (List UInt8))), f_impl_SureLines_1 a1 a0 a2 n v7 v8 = some r → ∀ σ : St, σ.kept [3, 4, 5, 7, 25, 26, 27] [3, 4, 5] [1472] = ⟨[(3, vc (.pb 3 0)), (4, vc (.pb 4 0)), (5, vc (.pb 5 0)), (7, vc (.own 1472)), (25, vc (aL (List.map XSegment.row a1.Segments))), (26, vc (aI (a1.Segments.length : Int))), (27, vc (aI v7))], [(3, [aI a0.Tide.Mean, aL (List.map XPart.row a0.Tide.Parts), aL (List.map XSurge.row a0.Surges)]), (4, [aL (List.map XPoint.row a1.Points), aL (List.map XSegment.row a1.Segments)]), (5, [aS a2.Name, aI a2.Length, aI a2.Draught, aI a2.Line, aI a2.Tugs, aB a2.Slow])], [(1472, 1, List.map rS v8)]⟩ → go Tryz.prog (.code (.loop c_impl_SureLines_1) :: [.blk 0, .code c_impl_SureLines_n1]) (Ret [6] [.sc (.o 1 (List.map rS r))]) .normal (some σ) := by
  intro n
  induction n with
  | zero => intro _ _ r h; cases h
  | succ n ih =>
    intro v7 v8 r h σ hσ
    rw [f_impl_SureLines_1] at h
    refine go_round ?_
    rcases Bool.eq_false_or_eq_true (decide (v7 < (a1.Segments.length : Int))) with hb9 | hb9
    · rw [ite_t hb9] at h
      obtain ⟨x10, hx10, h⟩ := ob h
      try simp only [hσ, hb9, hx10, c_impl_SureLines_1, Nat.reduceBEq, Nat.reduceMul, Nat.reduceAdd, Nat.reduceDiv, Int.reduceBEq, rules2, rulesX, rowsX]
      refine go_al rfl rfl ?_
      try simp only [hb9, hx10, Nat.reduceBEq, Nat.reduceMul, Nat.reduceAdd, Nat.reduceDiv, Int.reduceBEq, rules2, rulesX, rowsX]
      refine go_fr_of rfl ?_
      obtain ⟨x11, hx11, h⟩ := ob h
      obtain ⟨hg12, h⟩ := of_guard h
      obtain ⟨x13, hx13, h⟩ := ob h
      obtain ⟨hg14, h⟩ := of_guard h
      obtain ⟨r15, hr15, h⟩ := ob h
      try simp only [hb9, hx10, hx11, hg12, hx13, hg14, Nat.reduceBEq, Nat.reduceMul, Nat.reduceAdd, Nat.reduceDiv, Int.reduceBEq, rules2, rulesX, rowsX]
      refine go_dcallI (w_impl_SureStarts _ _ _ _ _ hr15) rfl rfl (Nat.le_of_ble_eq_true rfl) ?_
      obtain ⟨r16, hr16, h⟩ := ob h
      try simp only [hb9, hx10, hx11, hg12, hx13, hg14, Nat.reduceBEq, Nat.reduceMul, Nat.reduceAdd, Nat.reduceDiv, Int.reduceBEq, rules2, rulesX, rowsX]
      refine go_dcall (w_impl_FormatWindows _ _ hr16) (by first | rfl | kernel_rfl) (flat_of rfl) rfl (Nat.le_of_ble_eq_true rfl) ?_
      try simp only [hb9, hx10, hx11, hg12, hx13, hg14, Nat.reduceBEq, Nat.reduceMul, Nat.reduceAdd, Nat.reduceDiv, Int.reduceBEq, rules2, rulesX, rowsX]
      refine go_bsl (es := List.map rA ([(⟨true, ((x11.Name ++ ([45] : List UInt8)) ++ x13.Name), 0⟩ : XAny), (⟨true, r16, 0⟩ : XAny)] : List XAny)) rfl rfl ?_
      obtain ⟨r17, hr17, h⟩ := ob h
      try simp only [hb9, hx10, hx11, hg12, hx13, hg14, Nat.reduceBEq, Nat.reduceMul, Nat.reduceAdd, Nat.reduceDiv, Int.reduceBEq, rules2, rulesX, rowsX]
      refine go_dcall (w_impl_words _ _ hr17) (by first | rfl | kernel_rfl) (flat_of rfl) rfl (Nat.le_of_ble_eq_true rfl) ?_
      try simp only [hb9, hx10, hx11, hg12, hx13, hg14, Nat.reduceBEq, Nat.reduceMul, Nat.reduceAdd, Nat.reduceDiv, Int.reduceBEq, rules2, rulesX, rowsX]
      refine go_bsl (es := List.map rS ([r17] : List (List UInt8))) rfl rfl ?_
      obtain ⟨hg18, h⟩ := of_guard h
      try simp only [hb9, hx10, hx11, hg12, hx13, hg14, hg18, Nat.reduceBEq, Nat.reduceMul, Nat.reduceAdd, Nat.reduceDiv, Int.reduceBEq, rules2, rulesX, rowsX]
      refine go_fr_of rfl ?_
      try simp only [hb9, hx10, hx11, hg12, hx13, hg14, hg18, Nat.reduceBEq, Nat.reduceMul, Nat.reduceAdd, Nat.reduceDiv, Int.reduceBEq, rules2, rulesX, rowsX]
      refine ih _ _ _ h _ ?_
      try simp only [hb9, hx10, hx11, hg12, hx13, hg14, hg18, Nat.reduceBEq, Nat.reduceMul, Nat.reduceAdd, Nat.reduceDiv, Int.reduceBEq, rules2, rulesX, rowsX, List.map_nil]
    · rw [ite_f hb9] at h
      try simp only [hσ, hb9, c_impl_SureLines_1, c_impl_SureLines_n1, Nat.reduceBEq, Nat.reduceMul, Nat.reduceAdd, Nat.reduceDiv, Int.reduceBEq, rules2, rulesX, rowsX]
      cases h
      exact ⟨⟨rfl, trivial⟩, rfl⟩
theorem e_impl_SureLines : entry Tryz.prog 17 = some (c_impl_SureLines.strip, [6], 63) := by kernel_rfl
theorem w_impl_SureLines (a0 : XForecast) (a1 : XChart) (a2 : XShip) (r : (List (List UInt8))) (h : f_impl_SureLines a0 a1 a2 = some r) : FC Tryz.prog 17 [.ag (XForecast.row a0), .ag (XChart.row a1), .ag (XShip.row a2)] [.sc (.o 1 (List.map rS r))] := by
  unfold f_impl_SureLines at h
  refine FC_go (σ := ⟨[(0, va [aI a0.Tide.Mean, aL (List.map XPart.row a0.Tide.Parts), aL (List.map XSurge.row a0.Surges)]), (1, va [aL (List.map XPoint.row a1.Points), aL (List.map XSegment.row a1.Segments)]), (2, va [aS a2.Name, aI a2.Length, aI a2.Draught, aI a2.Line, aI a2.Tugs, aB a2.Slow])], [], []⟩) mixed e_impl_SureLines rfl rfl ?_
  simp only [c_impl_SureLines]
  try simp only [Nat.reduceBEq, Nat.reduceMul, Nat.reduceAdd, Nat.reduceDiv, Int.reduceBEq, rules2, rulesX, rowsX]
  refine go_bx rfl rfl rfl ?_
  try simp only [Nat.reduceBEq, Nat.reduceMul, Nat.reduceAdd, Nat.reduceDiv, Int.reduceBEq, rules2, rulesX, rowsX]
  refine go_bx rfl rfl rfl ?_
  try simp only [Nat.reduceBEq, Nat.reduceMul, Nat.reduceAdd, Nat.reduceDiv, Int.reduceBEq, rules2, rulesX, rowsX]
  refine go_bx rfl rfl rfl ?_
  obtain ⟨r1, hr1, h⟩ := ob h
  try simp only [Nat.reduceBEq, Nat.reduceMul, Nat.reduceAdd, Nat.reduceDiv, Int.reduceBEq, rules2, rulesX, rowsX]
  refine go_callI (w_impl_ForecastOk _ _ hr1) rfl rfl (Nat.le_of_ble_eq_true rfl) ?_
  rcases Bool.eq_false_or_eq_true r1 with hb2 | hb2
  · rw [ite_t hb2] at h
    obtain ⟨r3, hr3, h⟩ := ob h
    try simp only [hb2, Nat.reduceBEq, Nat.reduceMul, Nat.reduceAdd, Nat.reduceDiv, Int.reduceBEq, rules2, rulesX, rowsX]
    refine go_callI (w_impl_ChartOk _ _ hr3) rfl rfl (Nat.le_of_ble_eq_true rfl) ?_
    rcases Bool.eq_false_or_eq_true r3 with hb4 | hb4
    · rw [ite_t hb4] at h
      obtain ⟨r5, hr5, h⟩ := ob h
      try simp only [hb2, hb4, Nat.reduceBEq, Nat.reduceMul, Nat.reduceAdd, Nat.reduceDiv, Int.reduceBEq, rules2, rulesX, rowsX]
      refine go_callI (w_impl_ShipOk _ _ hr5) rfl rfl (Nat.le_of_ble_eq_true rfl) ?_
      rcases Bool.eq_false_or_eq_true r5 with hb6 | hb6
      · rw [ite_t hb6] at h
        try simp only [hb2, hb4, hb6, Nat.reduceBEq, Nat.reduceMul, Nat.reduceAdd, Nat.reduceDiv, Int.reduceBEq, rules2, rulesX, rowsX]
        refine go_bsl (es := List.map rS ([] : List (List UInt8))) rfl rfl ?_
        try simp only [hb2, hb4, hb6, Nat.reduceBEq, Nat.reduceMul, Nat.reduceAdd, Nat.reduceDiv, Int.reduceBEq, rules2, rulesX, rowsX]
        refine w_impl_SureLines_1 _ _ _ _ _ _ _ h _ ?_
        try simp only [hb2, hb4, hb6, Nat.reduceBEq, Nat.reduceMul, Nat.reduceAdd, Nat.reduceDiv, Int.reduceBEq, rules2, rulesX, rowsX, List.map_nil]
      · rw [ite_f hb6] at h
        try simp only [hb2, hb4, hb6, Nat.reduceBEq, Nat.reduceMul, Nat.reduceAdd, Nat.reduceDiv, Int.reduceBEq, rules2, rulesX, rowsX]
        cases h
        exact ⟨⟨rfl, trivial⟩, rfl⟩
    · rw [ite_f hb4] at h
      try simp only [hb2, hb4, Nat.reduceBEq, Nat.reduceMul, Nat.reduceAdd, Nat.reduceDiv, Int.reduceBEq, rules2, rulesX, rowsX]
      cases h
      exact ⟨⟨rfl, trivial⟩, rfl⟩
  · rw [ite_f hb2] at h
    try simp only [hb2, Nat.reduceBEq, Nat.reduceMul, Nat.reduceAdd, Nat.reduceDiv, Int.reduceBEq, rules2, rulesX, rowsX]
    cases h
    exact ⟨⟨rfl, trivial⟩, rfl⟩
/- 18: laws_eqStringS -/
def c_laws_eqStringS_1 : ACode := .seq (.reg [(none, .keep [0, 1, 5] [] [])]) (.seq (.seq (.reg [(none, .mv 11 (S 5)), (none, .mv 12 (S 0)), (none, .len 13 (S 12)), (none, .bin 14 .lss (S 11) (S 13))]) (.cond (S 14) .skip (.exit 0))) (.seq (.block 1 (.seq (.drw [(some [], (none, .mv 17 (S 0))), (some [], (none, .mv 18 (S 5))), (some [], (none, .iaddr 19 (S 17) (S 18) 1)), (some [], (none, .load 20 (S 19) false 1)), (some [], (none, .mv 21 (S 1))), (some [], (none, .mv 22 (S 5))), (some [], (none, .iaddr 23 (S 21) (S 22) 1)), (some [], (none, .load 24 (S 23) false 1)), (some [], (none, .bin 25 .neq (S 20) (S 24)))]) (.cond (S 25) (.seq (.reg [(none, .mv 4 (KB false))]) .ret) .skip))) (.reg [(none, .mv 15 (S 5)), (none, .bin 16 .add (S 15) (K 1)), (none, .mv 5 (S 16))])))
def c_laws_eqStringS_n1 : ACode := (.seq (.reg [(none, .mv 4 (KB true))]) .ret)
def c_laws_eqStringS : ACode := (.seq (.reg [(none, .mv 4 (KB false))]) (.seq (.seq (.reg [(none, .mv 6 (S 0)), (none, .len 7 (S 6)), (none, .mv 8 (S 1)), (none, .len 9 (S 8)), (none, .bin 10 .neq (S 7) (S 9))]) (.cond (S 10) (.seq (.reg [(none, .mv 4 (KB false))]) .ret) .skip)) (.seq (.seq (.reg [(none, .mv 5 (K 0))]) (.block 0 (.loop c_laws_eqStringS_1))) c_laws_eqStringS_n1)))
theorem w_laws_eqStringS_1 (a0 : List (List UInt8)) (a1 : List (List UInt8)) : ∀ (n : Nat) (v2 : Int) (r : Bool), f_laws_eqStringS_1 a0 a1 n v2 = some r → ∀ σ : St, σ.kept [0, 1, 5] [] [] = ⟨[(0, vc (aL (List.map rS a0))), (1, vc (aL (List.map rS a1))), (5, vc (aI v2))], [], []⟩ → go Tryz.prog (.code (.loop c_laws_eqStringS_1) :: [.blk 0, .code c_laws_eqStringS_n1]) (Ret [4] [.sc (.v (.bool r))]) .normal (some σ) := by
  intro n
  induction n with
  | zero => intro _ r h; cases h
  | succ n ih =>
    intro v2 r h σ hσ
    rw [f_laws_eqStringS_1] at h
    refine go_round ?_
    rcases Bool.eq_false_or_eq_true (decide (v2 < (a0.length : Int))) with hb3 | hb3
    · rw [ite_t hb3] at h
      try simp only [hσ, hb3, c_laws_eqStringS_1, Nat.reduceBEq, Nat.reduceMul, Nat.reduceAdd, Nat.reduceDiv, Int.reduceBEq, rules2, rulesX, rowsX]
      refine go_fr_of rfl ?_
      obtain ⟨x4, hx4, h⟩ := ob h
      obtain ⟨x5, hx5, h⟩ := ob h
      rcases Bool.eq_false_or_eq_true (x4 == x5) with hb6 | hb6
      · rw [ite_t hb6] at h
        try simp only [hb3, hx4, hx5, hb6, Nat.reduceBEq, Nat.reduceMul, Nat.reduceAdd, Nat.reduceDiv, Int.reduceBEq, rules2, rulesX, rowsX]
        refine ih _ _ h _ ?_
        try simp only [hb3, hx4, hx5, hb6, Nat.reduceBEq, Nat.reduceMul, Nat.reduceAdd, Nat.reduceDiv, Int.reduceBEq, rules2, rulesX, rowsX, List.map_nil]
      · rw [ite_f hb6] at h
        try simp only [hb3, hx4, hx5, hb6, Nat.reduceBEq, Nat.reduceMul, Nat.reduceAdd, Nat.reduceDiv, Int.reduceBEq, rules2, rulesX, rowsX]
        cases h
        exact ⟨⟨rfl, trivial⟩, rfl⟩
    · rw [ite_f hb3] at h
      try simp only [hσ, hb3, c_laws_eqStringS_1, c_laws_eqStringS_n1, Nat.reduceBEq, Nat.reduceMul, Nat.reduceAdd, Nat.reduceDiv, Int.reduceBEq, rules2, rulesX, rowsX]
      cases h
      exact ⟨⟨rfl, trivial⟩, rfl⟩
theorem e_laws_eqStringS : entry Tryz.prog 18 = some (c_laws_eqStringS.strip, [4], 26) := by kernel_rfl
theorem w_laws_eqStringS (a0 : List (List UInt8)) (a1 : List (List UInt8)) (r : Bool) (h : f_laws_eqStringS a0 a1 = some r) : FC Tryz.prog 18 [.sc (.sl (List.map rS a0)), .sc (.sl (List.map rS a1))] [.sc (.v (.bool r))] := by
  unfold f_laws_eqStringS at h
  refine FC_go (σ := ⟨[(0, vc (aL (List.map rS a0))), (1, vc (aL (List.map rS a1)))], [], []⟩) mixed e_laws_eqStringS rfl rfl ?_
  simp only [c_laws_eqStringS]
  rcases Bool.eq_false_or_eq_true ((a0.length : Int) != (a1.length : Int)) with hb1 | hb1
  · rw [ite_t hb1] at h
    try simp only [hb1, Nat.reduceBEq, Nat.reduceMul, Nat.reduceAdd, Nat.reduceDiv, Int.reduceBEq, rules2, rulesX, rowsX]
    cases h
    exact ⟨⟨rfl, trivial⟩, rfl⟩
  · rw [ite_f hb1] at h
    try simp only [hb1, Nat.reduceBEq, Nat.reduceMul, Nat.reduceAdd, Nat.reduceDiv, Int.reduceBEq, rules2, rulesX, rowsX]
    refine w_laws_eqStringS_1 _ _ _ _ _ h _ ?_
    try simp only [hb1, Nat.reduceBEq, Nat.reduceMul, Nat.reduceAdd, Nat.reduceDiv, Int.reduceBEq, rules2, rulesX, rowsX, List.map_nil]
/- 140: laws_eqPart -/
def c_laws_eqPart : ACode := (.seq (.reg [(none, .box 2 (S 0)), (none, .box 3 (S 1)), (none, .mv 4 (KB false))]) (.seq (.seq (.reg [(none, .faddr 5 (S 2) 0), (none, .load 6 (S 5) false 1), (none, .faddr 7 (S 3) 0), (none, .load 8 (S 7) false 1), (none, .bin 9 .neq (S 6) (S 8))]) (.cond (S 9) (.seq (.reg [(none, .mv 4 (KB false))]) .ret) .skip)) (.seq (.seq (.reg [(none, .faddr 10 (S 2) 1), (none, .load 11 (S 10) false 1), (none, .faddr 12 (S 3) 1), (none, .load 13 (S 12) false 1), (none, .bin 14 .neq (S 11) (S 13))]) (.cond (S 14) (.seq (.reg [(none, .mv 4 (KB false))]) .ret) .skip)) (.seq (.seq (.reg [(none, .faddr 15 (S 2) 2), (none, .load 16 (S 15) false 1), (none, .faddr 17 (S 3) 2), (none, .load 18 (S 17) false 1), (none, .bin 19 .neq (S 16) (S 18))]) (.cond (S 19) (.seq (.reg [(none, .mv 4 (KB false))]) .ret) .skip)) (.seq (.reg [(none, .mv 4 (KB true))]) .ret)))))
theorem e_laws_eqPart : entry Tryz.prog 140 = some (c_laws_eqPart.strip, [4], 20) := by kernel_rfl
theorem w_laws_eqPart (a0 : XPart) (a1 : XPart) (r : Bool) (h : f_laws_eqPart a0 a1 = some r) : FC Tryz.prog 140 [.ag (XPart.row a0), .ag (XPart.row a1)] [.sc (.v (.bool r))] := by
  unfold f_laws_eqPart at h
  refine FC_go (σ := ⟨[(0, va [aI a0.Amp, aI a0.Period, aI a0.Phase]), (1, va [aI a1.Amp, aI a1.Period, aI a1.Phase])], [], []⟩) mixed e_laws_eqPart rfl rfl ?_
  simp only [c_laws_eqPart]
  try simp only [Nat.reduceBEq, Nat.reduceMul, Nat.reduceAdd, Nat.reduceDiv, Int.reduceBEq, rules2, rulesX, rowsX]
  refine go_bx rfl rfl rfl ?_
  try simp only [Nat.reduceBEq, Nat.reduceMul, Nat.reduceAdd, Nat.reduceDiv, Int.reduceBEq, rules2, rulesX, rowsX]
  refine go_bx rfl rfl rfl ?_
  rcases Bool.eq_false_or_eq_true (a0.Amp != a1.Amp) with hb1 | hb1
  · rw [ite_t hb1] at h
    try simp only [hb1, Nat.reduceBEq, Nat.reduceMul, Nat.reduceAdd, Nat.reduceDiv, Int.reduceBEq, rules2, rulesX, rowsX]
    cases h
    exact ⟨⟨rfl, trivial⟩, rfl⟩
  · rw [ite_f hb1] at h
    rcases Bool.eq_false_or_eq_true (a0.Period != a1.Period) with hb2 | hb2
    · rw [ite_t hb2] at h
      try simp only [hb1, hb2, Nat.reduceBEq, Nat.reduceMul, Nat.reduceAdd, Nat.reduceDiv, Int.reduceBEq, rules2, rulesX, rowsX]
      cases h
      exact ⟨⟨rfl, trivial⟩, rfl⟩
    · rw [ite_f hb2] at h
      rcases Bool.eq_false_or_eq_true (a0.Phase != a1.Phase) with hb3 | hb3
      · rw [ite_t hb3] at h
        try simp only [hb1, hb2, hb3, Nat.reduceBEq, Nat.reduceMul, Nat.reduceAdd, Nat.reduceDiv, Int.reduceBEq, rules2, rulesX, rowsX]
        cases h
        exact ⟨⟨rfl, trivial⟩, rfl⟩
      · rw [ite_f hb3] at h
        try simp only [hb1, hb2, hb3, Nat.reduceBEq, Nat.reduceMul, Nat.reduceAdd, Nat.reduceDiv, Int.reduceBEq, rules2, rulesX, rowsX]
        cases h
        exact ⟨⟨rfl, trivial⟩, rfl⟩
/- 108: laws_eqPartS -/
def c_laws_eqPartS_1 : ACode := .seq (.reg [(none, .keep [0, 1, 5] [] [])]) (.seq (.seq (.reg [(none, .mv 11 (S 5)), (none, .mv 12 (S 0)), (none, .len 13 (S 12)), (none, .bin 14 .lss (S 11) (S 13))]) (.cond (S 14) .skip (.exit 0))) (.seq (.block 1 (.seq (.drw [(some [], (none, .mv 17 (S 0))), (some [], (none, .mv 18 (S 5))), (some [], (none, .iaddr 19 (S 17) (S 18) 3)), (some [], (none, .load 20 (S 19) true 3)), (some [], (none, .mv 21 (S 1))), (some [], (none, .mv 22 (S 5))), (some [], (none, .iaddr 23 (S 21) (S 22) 3)), (some [], (none, .load 24 (S 23) true 3)), (some [], (none, .call 25 140 [(S 20), (S 24)])), (some [], (none, .un 26 .not (S 25)))]) (.cond (S 26) (.seq (.reg [(none, .mv 4 (KB false))]) .ret) .skip))) (.reg [(none, .mv 15 (S 5)), (none, .bin 16 .add (S 15) (K 1)), (none, .mv 5 (S 16))])))
def c_laws_eqPartS_n1 : ACode := (.seq (.reg [(none, .mv 4 (KB true))]) .ret)
def c_laws_eqPartS : ACode := (.seq (.reg [(none, .mv 4 (KB false))]) (.seq (.seq (.reg [(none, .mv 6 (S 0)), (none, .len 7 (S 6)), (none, .mv 8 (S 1)), (none, .len 9 (S 8)), (none, .bin 10 .neq (S 7) (S 9))]) (.cond (S 10) (.seq (.reg [(none, .mv 4 (KB false))]) .ret) .skip)) (.seq (.seq (.reg [(none, .mv 5 (K 0))]) (.block 0 (.loop c_laws_eqPartS_1))) c_laws_eqPartS_n1)))
theorem w_laws_eqPartS_1 (a0 : List XPart) (a1 : List XPart) : ∀ (n : Nat) (v2 : Int) (r : Bool), f_laws_eqPartS_1 a0 a1 n v2 = some r → ∀ σ : St, σ.kept [0, 1, 5] [] [] = ⟨[(0, vc (aL (List.map XPart.row a0))), (1, vc (aL (List.map XPart.row a1))), (5, vc (aI v2))], [], []⟩ → go Tryz.prog (.code (.loop c_laws_eqPartS_1) :: [.blk 0, .code c_laws_eqPartS_n1]) (Ret [4] [.sc (.v (.bool r))]) .normal (some σ) := by
  intro n
  induction n with
  | zero => intro _ r h; cases h
  | succ n ih =>
    intro v2 r h σ hσ
    rw [f_laws_eqPartS_1] at h
    refine go_round ?_
    rcases Bool.eq_false_or_eq_true (decide (v2 < (a0.length : Int))) with hb3 | hb3
    · rw [ite_t hb3] at h
      try simp only [hσ, hb3, c_laws_eqPartS_1, Nat.reduceBEq, Nat.reduceMul, Nat.reduceAdd, Nat.reduceDiv, Int.reduceBEq, rules2, rulesX, rowsX]
      refine go_fr_of rfl ?_
      obtain ⟨x4, hx4, h⟩ := ob h
      obtain ⟨x5, hx5, h⟩ := ob h
      obtain ⟨r6, hr6, h⟩ := ob h
      try simp only [hb3, hx4, hx5, Nat.reduceBEq, Nat.reduceMul, Nat.reduceAdd, Nat.reduceDiv, Int.reduceBEq, rules2, rulesX, rowsX]
      refine go_dcallI (w_laws_eqPart _ _ _ hr6) rfl rfl (Nat.le_of_ble_eq_true rfl) ?_
      rcases Bool.eq_false_or_eq_true r6 with hb7 | hb7
      · rw [ite_t hb7] at h
        try simp only [hb3, hx4, hx5, hb7, Nat.reduceBEq, Nat.reduceMul, Nat.reduceAdd, Nat.reduceDiv, Int.reduceBEq, rules2, rulesX, rowsX]
        refine ih _ _ h _ ?_
        try simp only [hb3, hx4, hx5, hb7, Nat.reduceBEq, Nat.reduceMul, Nat.reduceAdd, Nat.reduceDiv, Int.reduceBEq, rules2, rulesX, rowsX, List.map_nil]
      · rw [ite_f hb7] at h
        try simp only [hb3, hx4, hx5, hb7, Nat.reduceBEq, Nat.reduceMul, Nat.reduceAdd, Nat.reduceDiv, Int.reduceBEq, rules2, rulesX, rowsX]
        cases h
        exact ⟨⟨rfl, trivial⟩, rfl⟩
    · rw [ite_f hb3] at h
      try simp only [hσ, hb3, c_laws_eqPartS_1, c_laws_eqPartS_n1, Nat.reduceBEq, Nat.reduceMul, Nat.reduceAdd, Nat.reduceDiv, Int.reduceBEq, rules2, rulesX, rowsX]
      cases h
      exact ⟨⟨rfl, trivial⟩, rfl⟩
theorem e_laws_eqPartS : entry Tryz.prog 108 = some (c_laws_eqPartS.strip, [4], 27) := by kernel_rfl
theorem w_laws_eqPartS (a0 : List XPart) (a1 : List XPart) (r : Bool) (h : f_laws_eqPartS a0 a1 = some r) : FC Tryz.prog 108 [.sc (.sl (List.map XPart.row a0)), .sc (.sl (List.map XPart.row a1))] [.sc (.v (.bool r))] := by
  unfold f_laws_eqPartS at h
  refine FC_go (σ := ⟨[(0, vc (aL (List.map XPart.row a0))), (1, vc (aL (List.map XPart.row a1)))], [], []⟩) mixed e_laws_eqPartS rfl rfl ?_
  simp only [c_laws_eqPartS]
  rcases Bool.eq_false_or_eq_true ((a0.length : Int) != (a1.length : Int)) with hb1 | hb1
  · rw [ite_t hb1] at h
    try simp only [hb1, Nat.reduceBEq, Nat.reduceMul, Nat.reduceAdd, Nat.reduceDiv, Int.reduceBEq, rules2, rulesX, rowsX]
    cases h
    exact ⟨⟨rfl, trivial⟩, rfl⟩
  · rw [ite_f hb1] at h
    try simp only [hb1, Nat.reduceBEq, Nat.reduceMul, Nat.reduceAdd, Nat.reduceDiv, Int.reduceBEq, rules2, rulesX, rowsX]
    refine w_laws_eqPartS_1 _ _ _ _ _ h _ ?_
    try simp only [hb1, Nat.reduceBEq, Nat.reduceMul, Nat.reduceAdd, Nat.reduceDiv, Int.reduceBEq, rules2, rulesX, rowsX, List.map_nil]
/- 56: laws_eqTide -/
def c_laws_eqTide : ACode := (.seq (.reg [(none, .box 2 (S 0)), (none, .box 3 (S 1)), (none, .mv 4 (KB false))]) (.seq (.seq (.reg [(none, .faddr 5 (S 2) 0), (none, .load 6 (S 5) false 1), (none, .faddr 7 (S 3) 0), (none, .load 8 (S 7) false 1), (none, .bin 9 .neq (S 6) (S 8))]) (.cond (S 9) (.seq (.reg [(none, .mv 4 (KB false))]) .ret) .skip)) (.seq (.seq (.reg [(none, .faddr 10 (S 2) 1), (none, .load 11 (S 10) false 1), (none, .faddr 12 (S 3) 1), (none, .load 13 (S 12) false 1), (none, .call 14 108 [(S 11), (S 13)]), (none, .un 15 .not (S 14))]) (.cond (S 15) (.seq (.reg [(none, .mv 4 (KB false))]) .ret) .skip)) (.seq (.reg [(none, .mv 4 (KB true))]) .ret))))
theorem e_laws_eqTide : entry Tryz.prog 56 = some (c_laws_eqTide.strip, [4], 16) := by kernel_rfl
theorem w_laws_eqTide (a0 : XTide) (a1 : XTide) (r : Bool) (h : f_laws_eqTide a0 a1 = some r) : FC Tryz.prog 56 [.ag (XTide.row a0), .ag (XTide.row a1)] [.sc (.v (.bool r))] := by
  unfold f_laws_eqTide at h
  refine FC_go (σ := ⟨[(0, va [aI a0.Mean, aL (List.map XPart.row a0.Parts)]), (1, va [aI a1.Mean, aL (List.map XPart.row a1.Parts)])], [], []⟩) mixed e_laws_eqTide rfl rfl ?_
  simp only [c_laws_eqTide]
  try simp only [Nat.reduceBEq, Nat.reduceMul, Nat.reduceAdd, Nat.reduceDiv, Int.reduceBEq, rules2, rulesX, rowsX]
  refine go_bx rfl rfl rfl ?_
  try simp only [Nat.reduceBEq, Nat.reduceMul, Nat.reduceAdd, Nat.reduceDiv, Int.reduceBEq, rules2, rulesX, rowsX]
  refine go_bx rfl rfl rfl ?_
  rcases Bool.eq_false_or_eq_true (a0.Mean != a1.Mean) with hb1 | hb1
  · rw [ite_t hb1] at h
    try simp only [hb1, Nat.reduceBEq, Nat.reduceMul, Nat.reduceAdd, Nat.reduceDiv, Int.reduceBEq, rules2, rulesX, rowsX]
    cases h
    exact ⟨⟨rfl, trivial⟩, rfl⟩
  · rw [ite_f hb1] at h
    obtain ⟨r2, hr2, h⟩ := ob h
    try simp only [hb1, Nat.reduceBEq, Nat.reduceMul, Nat.reduceAdd, Nat.reduceDiv, Int.reduceBEq, rules2, rulesX, rowsX]
    refine go_callI (w_laws_eqPartS _ _ _ hr2) rfl rfl (Nat.le_of_ble_eq_true rfl) ?_
    rcases Bool.eq_false_or_eq_true r2 with hb3 | hb3
    · rw [ite_t hb3] at h
      try simp only [hb1, hb3, Nat.reduceBEq, Nat.reduceMul, Nat.reduceAdd, Nat.reduceDiv, Int.reduceBEq, rules2, rulesX, rowsX]
      cases h
      exact ⟨⟨rfl, trivial⟩, rfl⟩
    · rw [ite_f hb3] at h
      try simp only [hb1, hb3, Nat.reduceBEq, Nat.reduceMul, Nat.reduceAdd, Nat.reduceDiv, Int.reduceBEq, rules2, rulesX, rowsX]
      cases h
      exact ⟨⟨rfl, trivial⟩, rfl⟩
/- 109: laws_eqSurge -/
def c_laws_eqSurge : ACode := (.seq (.reg [(none, .box 2 (S 0)), (none, .box 3 (S 1)), (none, .mv 4 (KB false))]) (.seq (.seq (.reg [(none, .faddr 5 (S 2) 0), (none, .load 6 (S 5) false 1), (none, .faddr 7 (S 3) 0), (none, .load 8 (S 7) false 1), (none, .bin 9 .neq (S 6) (S 8))]) (.cond (S 9) (.seq (.reg [(none, .mv 4 (KB false))]) .ret) .skip)) (.seq (.seq (.reg [(none, .faddr 10 (S 2) 1), (none, .load 11 (S 10) false 1), (none, .faddr 12 (S 3) 1), (none, .load 13 (S 12) false 1), (none, .bin 14 .neq (S 11) (S 13))]) (.cond (S 14) (.seq (.reg [(none, .mv 4 (KB false))]) .ret) .skip)) (.seq (.seq (.reg [(none, .faddr 15 (S 2) 2), (none, .load 16 (S 15) false 1), (none, .faddr 17 (S 3) 2), (none, .load 18 (S 17) false 1), (none, .bin 19 .neq (S 16) (S 18))]) (.cond (S 19) (.seq (.reg [(none, .mv 4 (KB false))]) .ret) .skip)) (.seq (.reg [(none, .mv 4 (KB true))]) .ret)))))
theorem e_laws_eqSurge : entry Tryz.prog 109 = some (c_laws_eqSurge.strip, [4], 20) := by kernel_rfl
theorem w_laws_eqSurge (a0 : XSurge) (a1 : XSurge) (r : Bool) (h : f_laws_eqSurge a0 a1 = some r) : FC Tryz.prog 109 [.ag (XSurge.row a0), .ag (XSurge.row a1)] [.sc (.v (.bool r))] := by
  unfold f_laws_eqSurge at h
  refine FC_go (σ := ⟨[(0, va [aI a0.From, aI a0.Low, aI a0.High]), (1, va [aI a1.From, aI a1.Low, aI a1.High])], [], []⟩) mixed e_laws_eqSurge rfl rfl ?_
  simp only [c_laws_eqSurge]
  try simp only [Nat.reduceBEq, Nat.reduceMul, Nat.reduceAdd, Nat.reduceDiv, Int.reduceBEq, rules2, rulesX, rowsX]
  refine go_bx rfl rfl rfl ?_
  try simp only [Nat.reduceBEq, Nat.reduceMul, Nat.reduceAdd, Nat.reduceDiv, Int.reduceBEq, rules2, rulesX, rowsX]
  refine go_bx rfl rfl rfl ?_
  rcases Bool.eq_false_or_eq_true (a0.From != a1.From) with hb1 | hb1
  · rw [ite_t hb1] at h
    try simp only [hb1, Nat.reduceBEq, Nat.reduceMul, Nat.reduceAdd, Nat.reduceDiv, Int.reduceBEq, rules2, rulesX, rowsX]
    cases h
    exact ⟨⟨rfl, trivial⟩, rfl⟩
  · rw [ite_f hb1] at h
    rcases Bool.eq_false_or_eq_true (a0.Low != a1.Low) with hb2 | hb2
    · rw [ite_t hb2] at h
      try simp only [hb1, hb2, Nat.reduceBEq, Nat.reduceMul, Nat.reduceAdd, Nat.reduceDiv, Int.reduceBEq, rules2, rulesX, rowsX]
      cases h
      exact ⟨⟨rfl, trivial⟩, rfl⟩
    · rw [ite_f hb2] at h
      rcases Bool.eq_false_or_eq_true (a0.High != a1.High) with hb3 | hb3
      · rw [ite_t hb3] at h
        try simp only [hb1, hb2, hb3, Nat.reduceBEq, Nat.reduceMul, Nat.reduceAdd, Nat.reduceDiv, Int.reduceBEq, rules2, rulesX, rowsX]
        cases h
        exact ⟨⟨rfl, trivial⟩, rfl⟩
      · rw [ite_f hb3] at h
        try simp only [hb1, hb2, hb3, Nat.reduceBEq, Nat.reduceMul, Nat.reduceAdd, Nat.reduceDiv, Int.reduceBEq, rules2, rulesX, rowsX]
        cases h
        exact ⟨⟨rfl, trivial⟩, rfl⟩
/- 57: laws_eqSurgeS -/
def c_laws_eqSurgeS_1 : ACode := .seq (.reg [(none, .keep [0, 1, 5] [] [])]) (.seq (.seq (.reg [(none, .mv 11 (S 5)), (none, .mv 12 (S 0)), (none, .len 13 (S 12)), (none, .bin 14 .lss (S 11) (S 13))]) (.cond (S 14) .skip (.exit 0))) (.seq (.block 1 (.seq (.drw [(some [], (none, .mv 17 (S 0))), (some [], (none, .mv 18 (S 5))), (some [], (none, .iaddr 19 (S 17) (S 18) 3)), (some [], (none, .load 20 (S 19) true 3)), (some [], (none, .mv 21 (S 1))), (some [], (none, .mv 22 (S 5))), (some [], (none, .iaddr 23 (S 21) (S 22) 3)), (some [], (none, .load 24 (S 23) true 3)), (some [], (none, .call 25 109 [(S 20), (S 24)])), (some [], (none, .un 26 .not (S 25)))]) (.cond (S 26) (.seq (.reg [(none, .mv 4 (KB false))]) .ret) .skip))) (.reg [(none, .mv 15 (S 5)), (none, .bin 16 .add (S 15) (K 1)), (none, .mv 5 (S 16))])))
def c_laws_eqSurgeS_n1 : ACode := (.seq (.reg [(none, .mv 4 (KB true))]) .ret)
def c_laws_eqSurgeS : ACode := (.seq (.reg [(none, .mv 4 (KB false))]) (.seq (.seq (.reg [(none, .mv 6 (S 0)), (none, .len 7 (S 6)), (none, .mv 8 (S 1)), (none, .len 9 (S 8)), (none, .bin 10 .neq (S 7) (S 9))]) (.cond (S 10) (.seq (.reg [(none, .mv 4 (KB false))]) .ret) .skip)) (.seq (.seq (.reg [(none, .mv 5 (K 0))]) (.block 0 (.loop c_laws_eqSurgeS_1))) c_laws_eqSurgeS_n1)))
theorem w_laws_eqSurgeS_1 (a0 : List XSurge) (a1 : List XSurge) : ∀ (n : Nat) (v2 : Int) (r : Bool), f_laws_eqSurgeS_1 a0 a1 n v2 = some r → ∀ σ : St, σ.kept [0, 1, 5] [] [] = ⟨[(0, vc (aL (List.map XSurge.row a0))), (1, vc (aL (List.map XSurge.row a1))), (5, vc (aI v2))], [], []⟩ → go Tryz.prog (.code (.loop c_laws_eqSurgeS_1) :: [.blk 0, .code c_laws_eqSurgeS_n1]) (Ret [4] [.sc (.v (.bool r))]) .normal (some σ) := by
  intro n
  induction n with
  | zero => intro _ r h; cases h
  | succ n ih =>
    intro v2 r h σ hσ
    rw [f_laws_eqSurgeS_1] at h
    refine go_round ?_
    rcases Bool.eq_false_or_eq_true (decide (v2 < (a0.length : Int))) with hb3 | hb3
    · rw [ite_t hb3] at h
      try simp only [hσ, hb3, c_laws_eqSurgeS_1, Nat.reduceBEq, Nat.reduceMul, Nat.reduceAdd, Nat.reduceDiv, Int.reduceBEq, rules2, rulesX, rowsX]
      refine go_fr_of rfl ?_
      obtain ⟨x4, hx4, h⟩ := ob h
      obtain ⟨x5, hx5, h⟩ := ob h
      obtain ⟨r6, hr6, h⟩ := ob h
      try simp only [hb3, hx4, hx5, Nat.reduceBEq, Nat.reduceMul, Nat.reduceAdd, Nat.reduceDiv, Int.reduceBEq, rules2, rulesX, rowsX]
      refine go_dcallI (w_laws_eqSurge _ _ _ hr6) rfl rfl (Nat.le_of_ble_eq_true rfl) ?_
      rcases Bool.eq_false_or_eq_true r6 with hb7 | hb7
      · rw [ite_t hb7] at h
        try simp only [hb3, hx4, hx5, hb7, Nat.reduceBEq, Nat.reduceMul, Nat.reduceAdd, Nat.reduceDiv, Int.reduceBEq, rules2, rulesX, rowsX]
        refine ih _ _ h _ ?_
        try simp only [hb3, hx4, hx5, hb7, Nat.reduceBEq, Nat.reduceMul, Nat.reduceAdd, Nat.reduceDiv, Int.reduceBEq, rules2, rulesX, rowsX, List.map_nil]
      · rw [ite_f hb7] at h
        try simp only [hb3, hx4, hx5, hb7, Nat.reduceBEq, Nat.reduceMul, Nat.reduceAdd, Nat.reduceDiv, Int.reduceBEq, rules2, rulesX, rowsX]
        cases h
        exact ⟨⟨rfl, trivial⟩, rfl⟩
    · rw [ite_f hb3] at h
      try simp only [hσ, hb3, c_laws_eqSurgeS_1, c_laws_eqSurgeS_n1, Nat.reduceBEq, Nat.reduceMul, Nat.reduceAdd, Nat.reduceDiv, Int.reduceBEq, rules2, rulesX, rowsX]
      cases h
      exact ⟨⟨rfl, trivial⟩, rfl⟩
theorem e_laws_eqSurgeS : entry Tryz.prog 57 = some (c_laws_eqSurgeS.strip, [4], 27) := by kernel_rfl
theorem w_laws_eqSurgeS (a0 : List XSurge) (a1 : List XSurge) (r : Bool) (h : f_laws_eqSurgeS a0 a1 = some r) : FC Tryz.prog 57 [.sc (.sl (List.map XSurge.row a0)), .sc (.sl (List.map XSurge.row a1))] [.sc (.v (.bool r))] := by
  unfold f_laws_eqSurgeS at h
  refine FC_go (σ := ⟨[(0, vc (aL (List.map XSurge.row a0))), (1, vc (aL (List.map XSurge.row a1)))], [], []⟩) mixed e_laws_eqSurgeS rfl rfl ?_
  simp only [c_laws_eqSurgeS]
  rcases Bool.eq_false_or_eq_true ((a0.length : Int) != (a1.length : Int)) with hb1 | hb1
  · rw [ite_t hb1] at h
    try simp only [hb1, Nat.reduceBEq, Nat.reduceMul, Nat.reduceAdd, Nat.reduceDiv, Int.reduceBEq, rules2, rulesX, rowsX]
    cases h
    exact ⟨⟨rfl, trivial⟩, rfl⟩
  · rw [ite_f hb1] at h
    try simp only [hb1, Nat.reduceBEq, Nat.reduceMul, Nat.reduceAdd, Nat.reduceDiv, Int.reduceBEq, rules2, rulesX, rowsX]
    refine w_laws_eqSurgeS_1 _ _ _ _ _ h _ ?_
    try simp only [hb1, Nat.reduceBEq, Nat.reduceMul, Nat.reduceAdd, Nat.reduceDiv, Int.reduceBEq, rules2, rulesX, rowsX, List.map_nil]
/- 19: laws_eqForecast -/
def c_laws_eqForecast : ACode := (.seq (.reg [(none, .box 2 (S 0)), (none, .box 3 (S 1)), (none, .mv 4 (KB false))]) (.seq (.seq (.reg [(none, .faddr 5 (S 2) 0), (none, .load 6 (S 5) true 2), (none, .faddr 7 (S 3) 0), (none, .load 8 (S 7) true 2), (none, .call 9 56 [(S 6), (S 8)]), (none, .un 10 .not (S 9))]) (.cond (S 10) (.seq (.reg [(none, .mv 4 (KB false))]) .ret) .skip)) (.seq (.seq (.reg [(none, .faddr 11 (S 2) 2), (none, .load 12 (S 11) false 1), (none, .faddr 13 (S 3) 2), (none, .load 14 (S 13) false 1), (none, .call 15 57 [(S 12), (S 14)]), (none, .un 16 .not (S 15))]) (.cond (S 16) (.seq (.reg [(none, .mv 4 (KB false))]) .ret) .skip)) (.seq (.reg [(none, .mv 4 (KB true))]) .ret))))
theorem e_laws_eqForecast : entry Tryz.prog 19 = some (c_laws_eqForecast.strip, [4], 17) := by kernel_rfl
theorem w_laws_eqForecast (a0 : XForecast) (a1 : XForecast) (r : Bool) (h : f_laws_eqForecast a0 a1 = some r) : FC Tryz.prog 19 [.ag (XForecast.row a0), .ag (XForecast.row a1)] [.sc (.v (.bool r))] := by
  unfold f_laws_eqForecast at h
  refine FC_go (σ := ⟨[(0, va [aI a0.Tide.Mean, aL (List.map XPart.row a0.Tide.Parts), aL (List.map XSurge.row a0.Surges)]), (1, va [aI a1.Tide.Mean, aL (List.map XPart.row a1.Tide.Parts), aL (List.map XSurge.row a1.Surges)])], [], []⟩) mixed e_laws_eqForecast rfl rfl ?_
  simp only [c_laws_eqForecast]
  try simp only [Nat.reduceBEq, Nat.reduceMul, Nat.reduceAdd, Nat.reduceDiv, Int.reduceBEq, rules2, rulesX, rowsX]
  refine go_bx rfl rfl rfl ?_
  try simp only [Nat.reduceBEq, Nat.reduceMul, Nat.reduceAdd, Nat.reduceDiv, Int.reduceBEq, rules2, rulesX, rowsX]
  refine go_bx rfl rfl rfl ?_
  obtain ⟨r1, hr1, h⟩ := ob h
  try simp only [Nat.reduceBEq, Nat.reduceMul, Nat.reduceAdd, Nat.reduceDiv, Int.reduceBEq, rules2, rulesX, rowsX]
  refine go_callI (w_laws_eqTide _ _ _ hr1) rfl rfl (Nat.le_of_ble_eq_true rfl) ?_
  rcases Bool.eq_false_or_eq_true r1 with hb2 | hb2
  · rw [ite_t hb2] at h
    obtain ⟨r3, hr3, h⟩ := ob h
    try simp only [hb2, Nat.reduceBEq, Nat.reduceMul, Nat.reduceAdd, Nat.reduceDiv, Int.reduceBEq, rules2, rulesX, rowsX]
    refine go_callI (w_laws_eqSurgeS _ _ _ hr3) rfl rfl (Nat.le_of_ble_eq_true rfl) ?_
    rcases Bool.eq_false_or_eq_true r3 with hb4 | hb4
    · rw [ite_t hb4] at h
      try simp only [hb2, hb4, Nat.reduceBEq, Nat.reduceMul, Nat.reduceAdd, Nat.reduceDiv, Int.reduceBEq, rules2, rulesX, rowsX]
      cases h
      exact ⟨⟨rfl, trivial⟩, rfl⟩
    · rw [ite_f hb4] at h
      try simp only [hb2, hb4, Nat.reduceBEq, Nat.reduceMul, Nat.reduceAdd, Nat.reduceDiv, Int.reduceBEq, rules2, rulesX, rowsX]
      cases h
      exact ⟨⟨rfl, trivial⟩, rfl⟩
  · rw [ite_f hb2] at h
    try simp only [hb2, Nat.reduceBEq, Nat.reduceMul, Nat.reduceAdd, Nat.reduceDiv, Int.reduceBEq, rules2, rulesX, rowsX]
    cases h
    exact ⟨⟨rfl, trivial⟩, rfl⟩
/- 110: laws_eqPoint -/
def c_laws_eqPoint : ACode := (.seq (.reg [(none, .box 2 (S 0)), (none, .box 3 (S 1)), (none, .mv 4 (KB false))]) (.seq (.seq (.reg [(none, .faddr 5 (S 2) 0), (none, .load 6 (S 5) false 1), (none, .faddr 7 (S 3) 0), (none, .load 8 (S 7) false 1), (none, .bin 9 .neq (S 6) (S 8))]) (.cond (S 9) (.seq (.reg [(none, .mv 4 (KB false))]) .ret) .skip)) (.seq (.seq (.reg [(none, .faddr 10 (S 2) 1), (none, .load 11 (S 10) false 1), (none, .faddr 12 (S 3) 1), (none, .load 13 (S 12) false 1), (none, .beq 14 true (S 11) (S 13))]) (.cond (S 14) (.seq (.reg [(none, .mv 4 (KB false))]) .ret) .skip)) (.seq (.reg [(none, .mv 4 (KB true))]) .ret))))
theorem e_laws_eqPoint : entry Tryz.prog 110 = some (c_laws_eqPoint.strip, [4], 15) := by kernel_rfl
theorem w_laws_eqPoint (a0 : XPoint) (a1 : XPoint) (r : Bool) (h : f_laws_eqPoint a0 a1 = some r) : FC Tryz.prog 110 [.ag (XPoint.row a0), .ag (XPoint.row a1)] [.sc (.v (.bool r))] := by
  unfold f_laws_eqPoint at h
  refine FC_go (σ := ⟨[(0, va [aS a0.Name, aB a0.Wait]), (1, va [aS a1.Name, aB a1.Wait])], [], []⟩) mixed e_laws_eqPoint rfl rfl ?_
  simp only [c_laws_eqPoint]
  try simp only [Nat.reduceBEq, Nat.reduceMul, Nat.reduceAdd, Nat.reduceDiv, Int.reduceBEq, rules2, rulesX, rowsX]
  refine go_bx rfl rfl rfl ?_
  try simp only [Nat.reduceBEq, Nat.reduceMul, Nat.reduceAdd, Nat.reduceDiv, Int.reduceBEq, rules2, rulesX, rowsX]
  refine go_bx rfl rfl rfl ?_
  rcases Bool.eq_false_or_eq_true (a0.Name == a1.Name) with hb1 | hb1
  · rw [ite_t hb1] at h
    rcases Bool.eq_false_or_eq_true (a0.Wait == a1.Wait) with hb2 | hb2
    · rw [ite_t hb2] at h
      try simp only [hb1, hb2, Nat.reduceBEq, Nat.reduceMul, Nat.reduceAdd, Nat.reduceDiv, Int.reduceBEq, rules2, rulesX, rowsX]
      cases h
      exact ⟨⟨rfl, trivial⟩, rfl⟩
    · rw [ite_f hb2] at h
      try simp only [hb1, hb2, Nat.reduceBEq, Nat.reduceMul, Nat.reduceAdd, Nat.reduceDiv, Int.reduceBEq, rules2, rulesX, rowsX]
      cases h
      exact ⟨⟨rfl, trivial⟩, rfl⟩
  · rw [ite_f hb1] at h
    try simp only [hb1, Nat.reduceBEq, Nat.reduceMul, Nat.reduceAdd, Nat.reduceDiv, Int.reduceBEq, rules2, rulesX, rowsX]
    cases h
    exact ⟨⟨rfl, trivial⟩, rfl⟩
/- 58: laws_eqPointS -/
def c_laws_eqPointS_1 : ACode := .seq (.reg [(none, .keep [0, 1, 5] [] [])]) (.seq (.seq (.reg [(none, .mv 11 (S 5)), (none, .mv 12 (S 0)), (none, .len 13 (S 12)), (none, .bin 14 .lss (S 11) (S 13))]) (.cond (S 14) .skip (.exit 0))) (.seq (.block 1 (.seq (.drw [(some [], (none, .mv 17 (S 0))), (some [], (none, .mv 18 (S 5))), (some [], (none, .iaddr 19 (S 17) (S 18) 2)), (some [], (none, .load 20 (S 19) true 2)), (some [], (none, .mv 21 (S 1))), (some [], (none, .mv 22 (S 5))), (some [], (none, .iaddr 23 (S 21) (S 22) 2)), (some [], (none, .load 24 (S 23) true 2)), (some [], (none, .call 25 110 [(S 20), (S 24)])), (some [], (none, .un 26 .not (S 25)))]) (.cond (S 26) (.seq (.reg [(none, .mv 4 (KB false))]) .ret) .skip))) (.reg [(none, .mv 15 (S 5)), (none, .bin 16 .add (S 15) (K 1)), (none, .mv 5 (S 16))])))
def c_laws_eqPointS_n1 : ACode := (.seq (.reg [(none, .mv 4 (KB true))]) .ret)
def c_laws_eqPointS : ACode := (.seq (.reg [(none, .mv 4 (KB false))]) (.seq (.seq (.reg [(none, .mv 6 (S 0)), (none, .len 7 (S 6)), (none, .mv 8 (S 1)), (none, .len 9 (S 8)), (none, .bin 10 .neq (S 7) (S 9))]) (.cond (S 10) (.seq (.reg [(none, .mv 4 (KB false))]) .ret) .skip)) (.seq (.seq (.reg [(none, .mv 5 (K 0))]) (.block 0 (.loop c_laws_eqPointS_1))) c_laws_eqPointS_n1)))
theorem w_laws_eqPointS_1 (a0 : List XPoint) (a1 : List XPoint) : ∀ (n : Nat) (v2 : Int) (r : Bool), f_laws_eqPointS_1 a0 a1 n v2 = some r → ∀ σ : St, σ.kept [0, 1, 5] [] [] = ⟨[(0, vc (aL (List.map XPoint.row a0))), (1, vc (aL (List.map XPoint.row a1))), (5, vc (aI v2))], [], []⟩ → go Tryz.prog (.code (.loop c_laws_eqPointS_1) :: [.blk 0, .code c_laws_eqPointS_n1]) (Ret [4] [.sc (.v (.bool r))]) .normal (some σ) := by
  intro n
  induction n with
  | zero => intro _ r h; cases h
  | succ n ih =>
    intro v2 r h σ hσ
    rw [f_laws_eqPointS_1] at h
    refine go_round ?_
    rcases Bool.eq_false_or_eq_true (decide (v2 < (a0.length : Int))) with hb3 | hb3
    · rw [ite_t hb3] at h
      try simp only [hσ, hb3, c_laws_eqPointS_1, Nat.reduceBEq, Nat.reduceMul, Nat.reduceAdd, Nat.reduceDiv, Int.reduceBEq, rules2, rulesX, rowsX]
      refine go_fr_of rfl ?_
      obtain ⟨x4, hx4, h⟩ := ob h
      obtain ⟨x5, hx5, h⟩ := ob h
      obtain ⟨r6, hr6, h⟩ := ob h
      try simp only [hb3, hx4, hx5, Nat.reduceBEq, Nat.reduceMul, Nat.reduceAdd, Nat.reduceDiv, Int.reduceBEq, rules2, rulesX, rowsX]
      refine go_dcallI (w_laws_eqPoint _ _ _ hr6) rfl rfl (Nat.le_of_ble_eq_true rfl) ?_
      rcases Bool.eq_false_or_eq_true r6 with hb7 | hb7
      · rw [ite_t hb7] at h
        try simp only [hb3, hx4, hx5, hb7, Nat.reduceBEq, Nat.reduceMul, Nat.reduceAdd, Nat.reduceDiv, Int.reduceBEq, rules2, rulesX, rowsX]
        refine ih _ _ h _ ?_
        try simp only [hb3, hx4, hx5, hb7, Nat.reduceBEq, Nat.reduceMul, Nat.reduceAdd, Nat.reduceDiv, Int.reduceBEq, rules2, rulesX, rowsX, List.map_nil]
      · rw [ite_f hb7] at h
        try simp only [hb3, hx4, hx5, hb7, Nat.reduceBEq, Nat.reduceMul, Nat.reduceAdd, Nat.reduceDiv, Int.reduceBEq, rules2, rulesX, rowsX]
        cases h
        exact ⟨⟨rfl, trivial⟩, rfl⟩
    · rw [ite_f hb3] at h
      try simp only [hσ, hb3, c_laws_eqPointS_1, c_laws_eqPointS_n1, Nat.reduceBEq, Nat.reduceMul, Nat.reduceAdd, Nat.reduceDiv, Int.reduceBEq, rules2, rulesX, rowsX]
      cases h
      exact ⟨⟨rfl, trivial⟩, rfl⟩
theorem e_laws_eqPointS : entry Tryz.prog 58 = some (c_laws_eqPointS.strip, [4], 27) := by kernel_rfl
theorem w_laws_eqPointS (a0 : List XPoint) (a1 : List XPoint) (r : Bool) (h : f_laws_eqPointS a0 a1 = some r) : FC Tryz.prog 58 [.sc (.sl (List.map XPoint.row a0)), .sc (.sl (List.map XPoint.row a1))] [.sc (.v (.bool r))] := by
  unfold f_laws_eqPointS at h
  refine FC_go (σ := ⟨[(0, vc (aL (List.map XPoint.row a0))), (1, vc (aL (List.map XPoint.row a1)))], [], []⟩) mixed e_laws_eqPointS rfl rfl ?_
  simp only [c_laws_eqPointS]
  rcases Bool.eq_false_or_eq_true ((a0.length : Int) != (a1.length : Int)) with hb1 | hb1
  · rw [ite_t hb1] at h
    try simp only [hb1, Nat.reduceBEq, Nat.reduceMul, Nat.reduceAdd, Nat.reduceDiv, Int.reduceBEq, rules2, rulesX, rowsX]
    cases h
    exact ⟨⟨rfl, trivial⟩, rfl⟩
  · rw [ite_f hb1] at h
    try simp only [hb1, Nat.reduceBEq, Nat.reduceMul, Nat.reduceAdd, Nat.reduceDiv, Int.reduceBEq, rules2, rulesX, rowsX]
    refine w_laws_eqPointS_1 _ _ _ _ _ h _ ?_
    try simp only [hb1, Nat.reduceBEq, Nat.reduceMul, Nat.reduceAdd, Nat.reduceDiv, Int.reduceBEq, rules2, rulesX, rowsX, List.map_nil]
/- 111: laws_eqSegment -/
def c_laws_eqSegment : ACode := (.seq (.reg [(none, .box 2 (S 0)), (none, .box 3 (S 1)), (none, .mv 4 (KB false))]) (.seq (.seq (.reg [(none, .faddr 5 (S 2) 0), (none, .load 6 (S 5) false 1), (none, .faddr 7 (S 3) 0), (none, .load 8 (S 7) false 1), (none, .bin 9 .neq (S 6) (S 8))]) (.cond (S 9) (.seq (.reg [(none, .mv 4 (KB false))]) .ret) .skip)) (.seq (.seq (.reg [(none, .faddr 10 (S 2) 1), (none, .load 11 (S 10) false 1), (none, .faddr 12 (S 3) 1), (none, .load 13 (S 12) false 1), (none, .bin 14 .neq (S 11) (S 13))]) (.cond (S 14) (.seq (.reg [(none, .mv 4 (KB false))]) .ret) .skip)) (.seq (.seq (.reg [(none, .faddr 15 (S 2) 2), (none, .load 16 (S 15) false 1), (none, .faddr 17 (S 3) 2), (none, .load 18 (S 17) false 1), (none, .bin 19 .neq (S 16) (S 18))]) (.cond (S 19) (.seq (.reg [(none, .mv 4 (KB false))]) .ret) .skip)) (.seq (.seq (.reg [(none, .faddr 20 (S 2) 3), (none, .load 21 (S 20) false 1), (none, .faddr 22 (S 3) 3), (none, .load 23 (S 22) false 1), (none, .bin 24 .neq (S 21) (S 23))]) (.cond (S 24) (.seq (.reg [(none, .mv 4 (KB false))]) .ret) .skip)) (.seq (.seq (.reg [(none, .faddr 25 (S 2) 4), (none, .load 26 (S 25) false 1), (none, .faddr 27 (S 3) 4), (none, .load 28 (S 27) false 1), (none, .beq 29 true (S 26) (S 28))]) (.cond (S 29) (.seq (.reg [(none, .mv 4 (KB false))]) .ret) .skip)) (.seq (.reg [(none, .mv 4 (KB true))]) .ret)))))))
theorem e_laws_eqSegment : entry Tryz.prog 111 = some (c_laws_eqSegment.strip, [4], 30) := by kernel_rfl
theorem w_laws_eqSegment (a0 : XSegment) (a1 : XSegment) (r : Bool) (h : f_laws_eqSegment a0 a1 = some r) : FC Tryz.prog 111 [.ag (XSegment.row a0), .ag (XSegment.row a1)] [.sc (.v (.bool r))] := by
  unfold f_laws_eqSegment at h
  refine FC_go (σ := ⟨[(0, va [aI a0.A, aI a0.B, aI a0.Depth, aI a0.Minutes, aB a0.Meet]), (1, va [aI a1.A, aI a1.B, aI a1.Depth, aI a1.Minutes, aB a1.Meet])], [], []⟩) mixed e_laws_eqSegment rfl rfl ?_
  simp only [c_laws_eqSegment]
  try simp only [Nat.reduceBEq, Nat.reduceMul, Nat.reduceAdd, Nat.reduceDiv, Int.reduceBEq, rules2, rulesX, rowsX]
  refine go_bx rfl rfl rfl ?_
  try simp only [Nat.reduceBEq, Nat.reduceMul, Nat.reduceAdd, Nat.reduceDiv, Int.reduceBEq, rules2, rulesX, rowsX]
  refine go_bx rfl rfl rfl ?_
  rcases Bool.eq_false_or_eq_true (a0.A != a1.A) with hb1 | hb1
  · rw [ite_t hb1] at h
    try simp only [hb1, Nat.reduceBEq, Nat.reduceMul, Nat.reduceAdd, Nat.reduceDiv, Int.reduceBEq, rules2, rulesX, rowsX]
    cases h
    exact ⟨⟨rfl, trivial⟩, rfl⟩
  · rw [ite_f hb1] at h
    rcases Bool.eq_false_or_eq_true (a0.B != a1.B) with hb2 | hb2
    · rw [ite_t hb2] at h
      try simp only [hb1, hb2, Nat.reduceBEq, Nat.reduceMul, Nat.reduceAdd, Nat.reduceDiv, Int.reduceBEq, rules2, rulesX, rowsX]
      cases h
      exact ⟨⟨rfl, trivial⟩, rfl⟩
    · rw [ite_f hb2] at h
      rcases Bool.eq_false_or_eq_true (a0.Depth != a1.Depth) with hb3 | hb3
      · rw [ite_t hb3] at h
        try simp only [hb1, hb2, hb3, Nat.reduceBEq, Nat.reduceMul, Nat.reduceAdd, Nat.reduceDiv, Int.reduceBEq, rules2, rulesX, rowsX]
        cases h
        exact ⟨⟨rfl, trivial⟩, rfl⟩
      · rw [ite_f hb3] at h
        rcases Bool.eq_false_or_eq_true (a0.Minutes != a1.Minutes) with hb4 | hb4
        · rw [ite_t hb4] at h
          try simp only [hb1, hb2, hb3, hb4, Nat.reduceBEq, Nat.reduceMul, Nat.reduceAdd, Nat.reduceDiv, Int.reduceBEq, rules2, rulesX, rowsX]
          cases h
          exact ⟨⟨rfl, trivial⟩, rfl⟩
        · rw [ite_f hb4] at h
          rcases Bool.eq_false_or_eq_true (a0.Meet == a1.Meet) with hb5 | hb5
          · rw [ite_t hb5] at h
            try simp only [hb1, hb2, hb3, hb4, hb5, Nat.reduceBEq, Nat.reduceMul, Nat.reduceAdd, Nat.reduceDiv, Int.reduceBEq, rules2, rulesX, rowsX]
            cases h
            exact ⟨⟨rfl, trivial⟩, rfl⟩
          · rw [ite_f hb5] at h
            try simp only [hb1, hb2, hb3, hb4, hb5, Nat.reduceBEq, Nat.reduceMul, Nat.reduceAdd, Nat.reduceDiv, Int.reduceBEq, rules2, rulesX, rowsX]
            cases h
            exact ⟨⟨rfl, trivial⟩, rfl⟩
/- 59: laws_eqSegmentS -/
def c_laws_eqSegmentS_1 : ACode := .seq (.reg [(none, .keep [0, 1, 5] [] [])]) (.seq (.seq (.reg [(none, .mv 11 (S 5)), (none, .mv 12 (S 0)), (none, .len 13 (S 12)), (none, .bin 14 .lss (S 11) (S 13))]) (.cond (S 14) .skip (.exit 0))) (.seq (.block 1 (.seq (.drw [(some [], (none, .mv 17 (S 0))), (some [], (none, .mv 18 (S 5))), (some [], (none, .iaddr 19 (S 17) (S 18) 5)), (some [], (none, .load 20 (S 19) true 5)), (some [], (none, .mv 21 (S 1))), (some [], (none, .mv 22 (S 5))), (some [], (none, .iaddr 23 (S 21) (S 22) 5)), (some [], (none, .load 24 (S 23) true 5)), (some [], (none, .call 25 111 [(S 20), (S 24)])), (some [], (none, .un 26 .not (S 25)))]) (.cond (S 26) (.seq (.reg [(none, .mv 4 (KB false))]) .ret) .skip))) (.reg [(none, .mv 15 (S 5)), (none, .bin 16 .add (S 15) (K 1)), (none, .mv 5 (S 16))])))
def c_laws_eqSegmentS_n1 : ACode := (.seq (.reg [(none, .mv 4 (KB true))]) .ret)
def c_laws_eqSegmentS : ACode := (.seq (.reg [(none, .mv 4 (KB false))]) (.seq (.seq (.reg [(none, .mv 6 (S 0)), (none, .len 7 (S 6)), (none, .mv 8 (S 1)), (none, .len 9 (S 8)), (none, .bin 10 .neq (S 7) (S 9))]) (.cond (S 10) (.seq (.reg [(none, .mv 4 (KB false))]) .ret) .skip)) (.seq (.seq (.reg [(none, .mv 5 (K 0))]) (.block 0 (.loop c_laws_eqSegmentS_1))) c_laws_eqSegmentS_n1)))
theorem w_laws_eqSegmentS_1 (a0 : List XSegment) (a1 : List XSegment) : ∀ (n : Nat) (v2 : Int) (r : Bool), f_laws_eqSegmentS_1 a0 a1 n v2 = some r → ∀ σ : St, σ.kept [0, 1, 5] [] [] = ⟨[(0, vc (aL (List.map XSegment.row a0))), (1, vc (aL (List.map XSegment.row a1))), (5, vc (aI v2))], [], []⟩ → go Tryz.prog (.code (.loop c_laws_eqSegmentS_1) :: [.blk 0, .code c_laws_eqSegmentS_n1]) (Ret [4] [.sc (.v (.bool r))]) .normal (some σ) := by
  intro n
  induction n with
  | zero => intro _ r h; cases h
  | succ n ih =>
    intro v2 r h σ hσ
    rw [f_laws_eqSegmentS_1] at h
    refine go_round ?_
    rcases Bool.eq_false_or_eq_true (decide (v2 < (a0.length : Int))) with hb3 | hb3
    · rw [ite_t hb3] at h
      try simp only [hσ, hb3, c_laws_eqSegmentS_1, Nat.reduceBEq, Nat.reduceMul, Nat.reduceAdd, Nat.reduceDiv, Int.reduceBEq, rules2, rulesX, rowsX]
      refine go_fr_of rfl ?_
      obtain ⟨x4, hx4, h⟩ := ob h
      obtain ⟨x5, hx5, h⟩ := ob h
      obtain ⟨r6, hr6, h⟩ := ob h
      try simp only [hb3, hx4, hx5, Nat.reduceBEq, Nat.reduceMul, Nat.reduceAdd, Nat.reduceDiv, Int.reduceBEq, rules2, rulesX, rowsX]
      refine go_dcallI (w_laws_eqSegment _ _ _ hr6) rfl rfl (Nat.le_of_ble_eq_true rfl) ?_
      rcases Bool.eq_false_or_eq_true r6 with hb7 | hb7
      · rw [ite_t hb7] at h
        try simp only [hb3, hx4, hx5, hb7, Nat.reduceBEq, Nat.reduceMul, Nat.reduceAdd, Nat.reduceDiv, Int.reduceBEq, rules2, rulesX, rowsX]
        refine ih _ _ h _ ?_
        try simp only [hb3, hx4, hx5, hb7, Nat.reduceBEq, Nat.reduceMul, Nat.reduceAdd, Nat.reduceDiv, Int.reduceBEq, rules2, rulesX, rowsX, List.map_nil]
      · rw [ite_f hb7] at h
        try simp only [hb3, hx4, hx5, hb7, Nat.reduceBEq, Nat.reduceMul, Nat.reduceAdd, Nat.reduceDiv, Int.reduceBEq, rules2, rulesX, rowsX]
        cases h
        exact ⟨⟨rfl, trivial⟩, rfl⟩
    · rw [ite_f hb3] at h
      try simp only [hσ, hb3, c_laws_eqSegmentS_1, c_laws_eqSegmentS_n1, Nat.reduceBEq, Nat.reduceMul, Nat.reduceAdd, Nat.reduceDiv, Int.reduceBEq, rules2, rulesX, rowsX]
      cases h
      exact ⟨⟨rfl, trivial⟩, rfl⟩
theorem e_laws_eqSegmentS : entry Tryz.prog 59 = some (c_laws_eqSegmentS.strip, [4], 27) := by kernel_rfl
theorem w_laws_eqSegmentS (a0 : List XSegment) (a1 : List XSegment) (r : Bool) (h : f_laws_eqSegmentS a0 a1 = some r) : FC Tryz.prog 59 [.sc (.sl (List.map XSegment.row a0)), .sc (.sl (List.map XSegment.row a1))] [.sc (.v (.bool r))] := by
  unfold f_laws_eqSegmentS at h
  refine FC_go (σ := ⟨[(0, vc (aL (List.map XSegment.row a0))), (1, vc (aL (List.map XSegment.row a1)))], [], []⟩) mixed e_laws_eqSegmentS rfl rfl ?_
  simp only [c_laws_eqSegmentS]
  rcases Bool.eq_false_or_eq_true ((a0.length : Int) != (a1.length : Int)) with hb1 | hb1
  · rw [ite_t hb1] at h
    try simp only [hb1, Nat.reduceBEq, Nat.reduceMul, Nat.reduceAdd, Nat.reduceDiv, Int.reduceBEq, rules2, rulesX, rowsX]
    cases h
    exact ⟨⟨rfl, trivial⟩, rfl⟩
  · rw [ite_f hb1] at h
    try simp only [hb1, Nat.reduceBEq, Nat.reduceMul, Nat.reduceAdd, Nat.reduceDiv, Int.reduceBEq, rules2, rulesX, rowsX]
    refine w_laws_eqSegmentS_1 _ _ _ _ _ h _ ?_
    try simp only [hb1, Nat.reduceBEq, Nat.reduceMul, Nat.reduceAdd, Nat.reduceDiv, Int.reduceBEq, rules2, rulesX, rowsX, List.map_nil]
/- 20: laws_eqChart -/
def c_laws_eqChart : ACode := (.seq (.reg [(none, .box 2 (S 0)), (none, .box 3 (S 1)), (none, .mv 4 (KB false))]) (.seq (.seq (.reg [(none, .faddr 5 (S 2) 0), (none, .load 6 (S 5) false 1), (none, .faddr 7 (S 3) 0), (none, .load 8 (S 7) false 1), (none, .call 9 58 [(S 6), (S 8)]), (none, .un 10 .not (S 9))]) (.cond (S 10) (.seq (.reg [(none, .mv 4 (KB false))]) .ret) .skip)) (.seq (.seq (.reg [(none, .faddr 11 (S 2) 1), (none, .load 12 (S 11) false 1), (none, .faddr 13 (S 3) 1), (none, .load 14 (S 13) false 1), (none, .call 15 59 [(S 12), (S 14)]), (none, .un 16 .not (S 15))]) (.cond (S 16) (.seq (.reg [(none, .mv 4 (KB false))]) .ret) .skip)) (.seq (.reg [(none, .mv 4 (KB true))]) .ret))))
theorem e_laws_eqChart : entry Tryz.prog 20 = some (c_laws_eqChart.strip, [4], 17) := by kernel_rfl
theorem w_laws_eqChart (a0 : XChart) (a1 : XChart) (r : Bool) (h : f_laws_eqChart a0 a1 = some r) : FC Tryz.prog 20 [.ag (XChart.row a0), .ag (XChart.row a1)] [.sc (.v (.bool r))] := by
  unfold f_laws_eqChart at h
  refine FC_go (σ := ⟨[(0, va [aL (List.map XPoint.row a0.Points), aL (List.map XSegment.row a0.Segments)]), (1, va [aL (List.map XPoint.row a1.Points), aL (List.map XSegment.row a1.Segments)])], [], []⟩) mixed e_laws_eqChart rfl rfl ?_
  simp only [c_laws_eqChart]
  try simp only [Nat.reduceBEq, Nat.reduceMul, Nat.reduceAdd, Nat.reduceDiv, Int.reduceBEq, rules2, rulesX, rowsX]
  refine go_bx rfl rfl rfl ?_
  try simp only [Nat.reduceBEq, Nat.reduceMul, Nat.reduceAdd, Nat.reduceDiv, Int.reduceBEq, rules2, rulesX, rowsX]
  refine go_bx rfl rfl rfl ?_
  obtain ⟨r1, hr1, h⟩ := ob h
  try simp only [Nat.reduceBEq, Nat.reduceMul, Nat.reduceAdd, Nat.reduceDiv, Int.reduceBEq, rules2, rulesX, rowsX]
  refine go_callI (w_laws_eqPointS _ _ _ hr1) rfl rfl (Nat.le_of_ble_eq_true rfl) ?_
  rcases Bool.eq_false_or_eq_true r1 with hb2 | hb2
  · rw [ite_t hb2] at h
    obtain ⟨r3, hr3, h⟩ := ob h
    try simp only [hb2, Nat.reduceBEq, Nat.reduceMul, Nat.reduceAdd, Nat.reduceDiv, Int.reduceBEq, rules2, rulesX, rowsX]
    refine go_callI (w_laws_eqSegmentS _ _ _ hr3) rfl rfl (Nat.le_of_ble_eq_true rfl) ?_
    rcases Bool.eq_false_or_eq_true r3 with hb4 | hb4
    · rw [ite_t hb4] at h
      try simp only [hb2, hb4, Nat.reduceBEq, Nat.reduceMul, Nat.reduceAdd, Nat.reduceDiv, Int.reduceBEq, rules2, rulesX, rowsX]
      cases h
      exact ⟨⟨rfl, trivial⟩, rfl⟩
    · rw [ite_f hb4] at h
      try simp only [hb2, hb4, Nat.reduceBEq, Nat.reduceMul, Nat.reduceAdd, Nat.reduceDiv, Int.reduceBEq, rules2, rulesX, rowsX]
      cases h
      exact ⟨⟨rfl, trivial⟩, rfl⟩
  · rw [ite_f hb2] at h
    try simp only [hb2, Nat.reduceBEq, Nat.reduceMul, Nat.reduceAdd, Nat.reduceDiv, Int.reduceBEq, rules2, rulesX, rowsX]
    cases h
    exact ⟨⟨rfl, trivial⟩, rfl⟩
/- 112: laws_markPartS -/
def c_laws_markPartS_1 : ACode := .seq (.reg [(none, .keep [0, 1, 5] [] [1099511627776])]) (.seq (.seq (.reg [(none, .mv 6 (S 5)), (none, .mv 7 (S 0)), (none, .len 8 (S 7)), (none, .bin 9 .lss (S 6) (S 8))]) (.cond (S 9) .skip (.exit 0))) (.seq (.block 1 (.seq (.reg [(none, .mv 12 (S 0)), (none, .mv 13 (S 5)), (none, .mv 14 (S 1)), (none, .iaddr 15 (S 12) (S 13) 3), (none, .faddr 16 (S 15) 0), (none, .store (S 16) (S 14) 1)]) (.seq (.reg [(none, .mv 17 (S 1)), (none, .bin 18 .add (S 17) (K 1)), (none, .mv 1 (S 18))]) (.seq (.reg [(none, .mv 19 (S 0)), (none, .mv 20 (S 5)), (none, .mv 21 (S 1)), (none, .iaddr 22 (S 19) (S 20) 3), (none, .faddr 23 (S 22) 1), (none, .store (S 23) (S 21) 1)]) (.seq (.reg [(none, .mv 24 (S 1)), (none, .bin 25 .add (S 24) (K 1)), (none, .mv 1 (S 25))]) (.seq (.reg [(none, .mv 26 (S 0)), (none, .mv 27 (S 5)), (none, .mv 28 (S 1)), (none, .iaddr 29 (S 26) (S 27) 3), (none, .faddr 30 (S 29) 2), (none, .store (S 30) (S 28) 1)]) (.reg [(none, .mv 31 (S 1)), (none, .bin 32 .add (S 31) (K 1)), (none, .mv 1 (S 32))]))))))) (.reg [(none, .mv 10 (S 5)), (none, .bin 11 .add (S 10) (K 1)), (none, .mv 5 (S 11))])))
def c_laws_markPartS_n1 : ACode := (.seq (.reg [(none, .mv 33 (S 1)), (none, .mv 4 (S 33))]) .ret)
def c_laws_markPartS : ACode := (.seq (.reg [(none, .mv 4 (K 0))]) (.seq (.seq (.reg [(none, .mv 5 (K 0))]) (.block 0 (.loop c_laws_markPartS_1))) c_laws_markPartS_n1))
theorem w_laws_markPartS_1 : ∀ (n : Nat) (v1 : Int) (v2 : Int) (v3 : List XPart) (r : Int × List XPart), f_laws_markPartS_1 n v1 v2 v3 = some r → ∀ σ : St, σ.kept [0, 1, 5] [] [1099511627776] = ⟨[(0, vc (.own 1099511627776)), (1, vc (aI v1)), (5, vc (aI v2))], [], [(1099511627776, 3, List.map XPart.row v3)]⟩ → go Tryz.prog (.code (.loop c_laws_markPartS_1) :: [.blk 0, .code c_laws_markPartS_n1]) (RetX [4] (.int .i64 r.1) [(3, List.map XPart.row r.2)] [(0, 0)]) .normal (some σ) := by
  intro n
  induction n with
  | zero => intro _ _ _ r h; cases h
  | succ n ih =>
    intro v1 v2 v3 r h σ hσ
    rw [f_laws_markPartS_1] at h
    refine go_round ?_
    rcases Bool.eq_false_or_eq_true (decide (v2 < (v3.length : Int))) with hb4 | hb4
    · rw [ite_t hb4] at h
      obtain ⟨x5, hx5, h⟩ := ob h
      have hx5n := ix_get hx5
      try simp only [hσ, hb4, hx5, c_laws_markPartS_1, Nat.reduceBEq, Nat.reduceMul, Nat.reduceAdd, Nat.reduceDiv, Int.reduceBEq, rules2, rulesX, rowsX]
      refine go_stp (y := (⟨v1, x5.Period, x5.Phase⟩ : XPart)) rfl rfl hx5n rfl rfl rfl ?_
      obtain ⟨x6, hx6, h⟩ := ob h
      have hx6n := ix_get hx6
      try simp only [hb4, hx5, hx6, Nat.reduceBEq, Nat.reduceMul, Nat.reduceAdd, Nat.reduceDiv, Int.reduceBEq, rules2, rulesX, rowsX]
      refine go_stp (y := (⟨x6.Amp, (IntKind.i64.wrap (v1 + (1 : Int))), x6.Phase⟩ : XPart)) rfl rfl hx6n rfl rfl rfl ?_
      obtain ⟨x7, hx7, h⟩ := ob h
      have hx7n := ix_get hx7
      try simp only [hb4, hx5, hx6, hx7, Nat.reduceBEq, Nat.reduceMul, Nat.reduceAdd, Nat.reduceDiv, Int.reduceBEq, rules2, rulesX, rowsX]
      refine go_stp (y := (⟨x7.Amp, x7.Period, (IntKind.i64.wrap ((IntKind.i64.wrap (v1 + (1 : Int))) + (1 : Int)))⟩ : XPart)) rfl rfl hx7n rfl rfl rfl ?_
      try simp only [hb4, hx5, hx6, hx7, Nat.reduceBEq, Nat.reduceMul, Nat.reduceAdd, Nat.reduceDiv, Int.reduceBEq, rules2, rulesX, rowsX]
      refine ih _ _ _ _ h _ ?_
      try simp only [hb4, hx5, hx6, hx7, Nat.reduceBEq, Nat.reduceMul, Nat.reduceAdd, Nat.reduceDiv, Int.reduceBEq, rules2, rulesX, rowsX, List.map_nil]
    · rw [ite_f hb4] at h
      try simp only [hσ, hb4, c_laws_markPartS_1, c_laws_markPartS_n1, Nat.reduceBEq, Nat.reduceMul, Nat.reduceAdd, Nat.reduceDiv, Int.reduceBEq, rules2, rulesX, rowsX]
      cases h
      exact ⟨⟨rfl, trivial⟩, ⟨⟨⟨_, rfl, rfl⟩, rfl⟩, trivial⟩⟩
theorem e_laws_markPartS : entry Tryz.prog 112 = some (c_laws_markPartS.strip, [4], 34) := by kernel_rfl
theorem l_laws_markPartS_1 : ∀ (n : Nat) (v1 : Int) (v2 : Int) (v3 : List XPart) (r : Int × List XPart), f_laws_markPartS_1 n v1 v2 v3 = some r → r.2.length = v3.length := by
  intro n
  induction n with
  | zero => intro _ _ _ r h; cases h
  | succ n ih =>
    intro v1 v2 v3 r h
    rw [f_laws_markPartS_1] at h
    rcases Bool.eq_false_or_eq_true (decide (v2 < (v3.length : Int))) with hb4 | hb4
    · rw [ite_t hb4] at h
      obtain ⟨x5, hx5, h⟩ := ob h
      obtain ⟨x6, hx6, h⟩ := ob h
      obtain ⟨x7, hx7, h⟩ := ob h
      have hl := ih _ _ _ _ h
      try simp only [List.length_set] at hl
      omega
    · rw [ite_f hb4] at h
      cases h
      all_goals (try dsimp only); first | done | omega | (simp only [List.length_set] at *; omega) | simp_all
theorem l_laws_markPartS (a0 : List XPart) (a1 : Int) (r : Int × List XPart) (h : f_laws_markPartS a0 a1 = some r) : r.2.length = a0.length := by
  unfold f_laws_markPartS at h
  have hl := l_laws_markPartS_1 _ _ _ _ _ h
  try simp only [List.length_set] at hl
  omega
theorem w_laws_markPartS (a0 : List XPart) (a1 : Int) (r : Int × List XPart) (h : f_laws_markPartS a0 a1 = some r) : FCx Tryz.prog 112 [.sc (.r 0), .sc (.d (.int .i64 a1))] [(3, List.map XPart.row a0)] [(3, List.map XPart.row r.2)] (.int .i64 r.1) := by
  unfold f_laws_markPartS at h
  refine FCx_go (ps := [(0, 0)]) (σ := ⟨[(0, vc (.own 1099511627776)), (1, vc (aI a1))], [], [(1099511627776, 3, List.map XPart.row a0)]⟩) mixed e_laws_markPartS rfl rfl rfl (flatR_cons flatR_nil) rfl ?_
  simp only [c_laws_markPartS]
  try simp only [Nat.reduceBEq, Nat.reduceMul, Nat.reduceAdd, Nat.reduceDiv, Int.reduceBEq, rules2, rulesX, rowsX]
  refine w_laws_markPartS_1 _ _ _ _ _ h _ ?_
  try simp only [Nat.reduceBEq, Nat.reduceMul, Nat.reduceAdd, Nat.reduceDiv, Int.reduceBEq, rules2, rulesX, rowsX, List.map_nil]
/- 60: laws_markTide -/
def c_laws_markTide : ACode := (.seq (.reg [(none, .box 2 (S 0)), (none, .mv 4 (K 0))]) (.seq (.reg [(none, .faddr 5 (S 2) 1), (none, .load 6 (S 5) false 1), (none, .mv 7 (S 1)), (none, .call 8 112 [(S 6), (S 7)]), (none, .mv 1 (S 8))]) (.seq (.reg [(none, .mv 9 (S 1)), (none, .mv 4 (S 9))]) .ret)))
theorem e_laws_markTide : entry Tryz.prog 60 = some (c_laws_markTide.strip, [4], 10) := by kernel_rfl
theorem l_laws_markTide (a0 : XTide) (a1 : Int) (r : Int × List XPart) (h : f_laws_markTide a0 a1 = some r) : r.2.length = a0.Parts.length := by
  unfold f_laws_markTide at h
  obtain ⟨r1, hr1, h⟩ := ob h
  have lrr1 := (l_laws_markPartS _ _ _ hr1)
  cases h
  all_goals (try dsimp only); first | done | omega | (simp only [List.length_set] at *; omega) | simp_all
theorem w_laws_markTide (a0 : XTide) (a1 : Int) (r : Int × List XPart) (h : f_laws_markTide a0 a1 = some r) : FCx Tryz.prog 60 [.ag [.d (.int .i64 a0.Mean), .r 0], .sc (.d (.int .i64 a1))] [(3, List.map XPart.row a0.Parts)] [(3, List.map XPart.row r.2)] (.int .i64 r.1) := by
  unfold f_laws_markTide at h
  refine FCx_go (ps := [(0, 1)]) (σ := ⟨[(0, va [aI a0.Mean, .own 1099511627776]), (1, vc (aI a1))], [], [(1099511627776, 3, List.map XPart.row a0.Parts)]⟩) mixed e_laws_markTide rfl rfl rfl (flatR_cons flatR_nil) rfl ?_
  simp only [c_laws_markTide]
  try simp only [Nat.reduceBEq, Nat.reduceMul, Nat.reduceAdd, Nat.reduceDiv, Int.reduceBEq, rules2, rulesX, rowsX]
  refine go_bx rfl rfl rfl ?_
  obtain ⟨r1, hr1, h⟩ := ob h
  try simp only [Nat.reduceBEq, Nat.reduceMul, Nat.reduceAdd, Nat.reduceDiv, Int.reduceBEq, rules2, rulesX, rowsX]
  have lrr1 := (l_laws_markPartS _ _ _ hr1)
  refine go_callx (ids := [1099511627776]) (w_laws_markPartS _ _ _ hr1) rfl rfl rfl (flatR_cons flatR_nil) (sameLen_cons (l_laws_markPartS _ _ _ hr1) sameLen_nil) ?_
  try simp only [Nat.reduceBEq, Nat.reduceMul, Nat.reduceAdd, Nat.reduceDiv, Int.reduceBEq, rules2, rulesX, rowsX]
  cases h
  exact ⟨⟨rfl, trivial⟩, ⟨⟨⟨_, rfl, rfl⟩, rfl⟩, trivial⟩⟩
/- 61: laws_markSurgeS -/
def c_laws_markSurgeS_1 : ACode := .seq (.reg [(none, .keep [0, 1, 5] [] [1099511627776])]) (.seq (.seq (.reg [(none, .mv 6 (S 5)), (none, .mv 7 (S 0)), (none, .len 8 (S 7)), (none, .bin 9 .lss (S 6) (S 8))]) (.cond (S 9) .skip (.exit 0))) (.seq (.block 1 (.seq (.reg [(none, .mv 12 (S 0)), (none, .mv 13 (S 5)), (none, .mv 14 (S 1)), (none, .iaddr 15 (S 12) (S 13) 3), (none, .faddr 16 (S 15) 0), (none, .store (S 16) (S 14) 1)]) (.seq (.reg [(none, .mv 17 (S 1)), (none, .bin 18 .add (S 17) (K 1)), (none, .mv 1 (S 18))]) (.seq (.reg [(none, .mv 19 (S 0)), (none, .mv 20 (S 5)), (none, .mv 21 (S 1)), (none, .iaddr 22 (S 19) (S 20) 3), (none, .faddr 23 (S 22) 1), (none, .store (S 23) (S 21) 1)]) (.seq (.reg [(none, .mv 24 (S 1)), (none, .bin 25 .add (S 24) (K 1)), (none, .mv 1 (S 25))]) (.seq (.reg [(none, .mv 26 (S 0)), (none, .mv 27 (S 5)), (none, .mv 28 (S 1)), (none, .iaddr 29 (S 26) (S 27) 3), (none, .faddr 30 (S 29) 2), (none, .store (S 30) (S 28) 1)]) (.reg [(none, .mv 31 (S 1)), (none, .bin 32 .add (S 31) (K 1)), (none, .mv 1 (S 32))]))))))) (.reg [(none, .mv 10 (S 5)), (none, .bin 11 .add (S 10) (K 1)), (none, .mv 5 (S 11))])))
def c_laws_markSurgeS_n1 : ACode := (.seq (.reg [(none, .mv 33 (S 1)), (none, .mv 4 (S 33))]) .ret)
def c_laws_markSurgeS : ACode := (.seq (.reg [(none, .mv 4 (K 0))]) (.seq (.seq (.reg [(none, .mv 5 (K 0))]) (.block 0 (.loop c_laws_markSurgeS_1))) c_laws_markSurgeS_n1))
theorem w_laws_markSurgeS_1 : ∀ (n : Nat) (v1 : Int) (v2 : Int) (v3 : List XSurge) (r : Int × List XSurge), f_laws_markSurgeS_1 n v1 v2 v3 = some r → ∀ σ : St, σ.kept [0, 1, 5] [] [1099511627776] = ⟨[(0, vc (.own 1099511627776)), (1, vc (aI v1)), (5, vc (aI v2))], [], [(1099511627776, 3, List.map XSurge.row v3)]⟩ → go Tryz.prog (.code (.loop c_laws_markSurgeS_1) :: [.blk 0, .code c_laws_markSurgeS_n1]) (RetX [4] (.int .i64 r.1) [(3, List.map XSurge.row r.2)] [(0, 0)]) .normal (some σ) := by
  intro n
  induction n with
  | zero => intro _ _ _ r h; cases h
  | succ n ih =>
    intro v1 v2 v3 r h σ hσ
    rw [f_laws_markSurgeS_1] at h
    refine go_round ?_
    rcases Bool.eq_false_or_eq_true (decide (v2 < (v3.length : Int))) with hb4 | hb4
    · rw [ite_t hb4] at h
      obtain ⟨x5, hx5, h⟩ := ob h
      have hx5n := ix_get hx5
      try simp only [hσ, hb4, hx5, c_laws_markSurgeS_1, Nat.reduceBEq, Nat.reduceMul, Nat.reduceAdd, Nat.reduceDiv, Int.reduceBEq, rules2, rulesX, rowsX]
      refine go_stp (y := (⟨v1, x5.Low, x5.High⟩ : XSurge)) rfl rfl hx5n rfl rfl rfl ?_
      obtain ⟨x6, hx6, h⟩ := ob h
      have hx6n := ix_get hx6
      try simp only [hb4, hx5, hx6, Nat.reduceBEq, Nat.reduceMul, Nat.reduceAdd, Nat.reduceDiv, Int.reduceBEq, rules2, rulesX, rowsX]
      refine go_stp (y := (⟨x6.From, (IntKind.i64.wrap (v1 + (1 : Int))), x6.High⟩ : XSurge)) rfl rfl hx6n rfl rfl rfl ?_
      obtain ⟨x7, hx7, h⟩ := ob h
      have hx7n := ix_get hx7
      try simp only [hb4, hx5, hx6, hx7, Nat.reduceBEq, Nat.reduceMul, Nat.reduceAdd, Nat.reduceDiv, Int.reduceBEq, rules2, rulesX, rowsX]
      refine go_stp (y := (⟨x7.From, x7.Low, (IntKind.i64.wrap ((IntKind.i64.wrap (v1 + (1 : Int))) + (1 : Int)))⟩ : XSurge)) rfl rfl hx7n rfl rfl rfl ?_
      try simp only [hb4, hx5, hx6, hx7, Nat.reduceBEq, Nat.reduceMul, Nat.reduceAdd, Nat.reduceDiv, Int.reduceBEq, rules2, rulesX, rowsX]
      refine ih _ _ _ _ h _ ?_
      try simp only [hb4, hx5, hx6, hx7, Nat.reduceBEq, Nat.reduceMul, Nat.reduceAdd, Nat.reduceDiv, Int.reduceBEq, rules2, rulesX, rowsX, List.map_nil]
    · rw [ite_f hb4] at h
      try simp only [hσ, hb4, c_laws_markSurgeS_1, c_laws_markSurgeS_n1, Nat.reduceBEq, Nat.reduceMul, Nat.reduceAdd, Nat.reduceDiv, Int.reduceBEq, rules2, rulesX, rowsX]
      cases h
      exact ⟨⟨rfl, trivial⟩, ⟨⟨⟨_, rfl, rfl⟩, rfl⟩, trivial⟩⟩
theorem e_laws_markSurgeS : entry Tryz.prog 61 = some (c_laws_markSurgeS.strip, [4], 34) := by kernel_rfl
theorem l_laws_markSurgeS_1 : ∀ (n : Nat) (v1 : Int) (v2 : Int) (v3 : List XSurge) (r : Int × List XSurge), f_laws_markSurgeS_1 n v1 v2 v3 = some r → r.2.length = v3.length := by
  intro n
  induction n with
  | zero => intro _ _ _ r h; cases h
  | succ n ih =>
    intro v1 v2 v3 r h
    rw [f_laws_markSurgeS_1] at h
    rcases Bool.eq_false_or_eq_true (decide (v2 < (v3.length : Int))) with hb4 | hb4
    · rw [ite_t hb4] at h
      obtain ⟨x5, hx5, h⟩ := ob h
      obtain ⟨x6, hx6, h⟩ := ob h
      obtain ⟨x7, hx7, h⟩ := ob h
      have hl := ih _ _ _ _ h
      try simp only [List.length_set] at hl
      omega
    · rw [ite_f hb4] at h
      cases h
      all_goals (try dsimp only); first | done | omega | (simp only [List.length_set] at *; omega) | simp_all
theorem l_laws_markSurgeS (a0 : List XSurge) (a1 : Int) (r : Int × List XSurge) (h : f_laws_markSurgeS a0 a1 = some r) : r.2.length = a0.length := by
  unfold f_laws_markSurgeS at h
  have hl := l_laws_markSurgeS_1 _ _ _ _ _ h
  try simp only [List.length_set] at hl
  omega
theorem w_laws_markSurgeS (a0 : List XSurge) (a1 : Int) (r : Int × List XSurge) (h : f_laws_markSurgeS a0 a1 = some r) : FCx Tryz.prog 61 [.sc (.r 0), .sc (.d (.int .i64 a1))] [(3, List.map XSurge.row a0)] [(3, List.map XSurge.row r.2)] (.int .i64 r.1) := by
  unfold f_laws_markSurgeS at h
  refine FCx_go (ps := [(0, 0)]) (σ := ⟨[(0, vc (.own 1099511627776)), (1, vc (aI a1))], [], [(1099511627776, 3, List.map XSurge.row a0)]⟩) mixed e_laws_markSurgeS rfl rfl rfl (flatR_cons flatR_nil) rfl ?_
  simp only [c_laws_markSurgeS]
  try simp only [Nat.reduceBEq, Nat.reduceMul, Nat.reduceAdd, Nat.reduceDiv, Int.reduceBEq, rules2, rulesX, rowsX]
  refine w_laws_markSurgeS_1 _ _ _ _ _ h _ ?_
  try simp only [Nat.reduceBEq, Nat.reduceMul, Nat.reduceAdd, Nat.reduceDiv, Int.reduceBEq, rules2, rulesX, rowsX, List.map_nil]
/- 21: laws_markForecast -/
def c_laws_markForecast : ACode := (.seq (.reg [(none, .box 2 (S 0)), (none, .mv 4 (K 0))]) (.seq (.reg [(none, .faddr 5 (S 2) 0), (none, .load 6 (S 5) true 2), (none, .mv 7 (S 1)), (none, .call 8 60 [(S 6), (S 7)]), (none, .mv 1 (S 8))]) (.seq (.reg [(none, .faddr 9 (S 2) 2), (none, .load 10 (S 9) false 1), (none, .mv 11 (S 1)), (none, .call 12 61 [(S 10), (S 11)]), (none, .mv 1 (S 12))]) (.seq (.reg [(none, .mv 13 (S 1)), (none, .mv 4 (S 13))]) .ret))))
theorem e_laws_markForecast : entry Tryz.prog 21 = some (c_laws_markForecast.strip, [4], 14) := by kernel_rfl
theorem l_laws_markForecast (a0 : XForecast) (a1 : Int) (r : Int × List XPart × List XSurge) (h : f_laws_markForecast a0 a1 = some r) : r.2.1.length = a0.Tide.Parts.length ∧ r.2.2.length = a0.Surges.length := by
  unfold f_laws_markForecast at h
  obtain ⟨r1, hr1, h⟩ := ob h
  have lrr1 := (l_laws_markTide _ _ _ hr1)
  obtain ⟨r2, hr2, h⟩ := ob h
  have lrr2 := (l_laws_markSurgeS _ _ _ hr2)
  cases h
  all_goals (try dsimp only); first | done | omega | (simp only [List.length_set] at *; omega) | simp_all
theorem w_laws_markForecast (a0 : XForecast) (a1 : Int) (r : Int × List XPart × List XSurge) (h : f_laws_markForecast a0 a1 = some r) : FCx Tryz.prog 21 [.ag [.d (.int .i64 a0.Tide.Mean), .r 0, .r 1], .sc (.d (.int .i64 a1))] [(3, List.map XPart.row a0.Tide.Parts), (3, List.map XSurge.row a0.Surges)] [(3, List.map XPart.row r.2.1), (3, List.map XSurge.row r.2.2)] (.int .i64 r.1) := by
  unfold f_laws_markForecast at h
  refine FCx_go (ps := [(0, 1), (0, 2)]) (σ := ⟨[(0, va [aI a0.Tide.Mean, .own 1099511627776, .own 1099511627777]), (1, vc (aI a1))], [], [(1099511627776, 3, List.map XPart.row a0.Tide.Parts), (1099511627777, 3, List.map XSurge.row a0.Surges)]⟩) mixed e_laws_markForecast rfl rfl rfl (flatR_cons (flatR_cons flatR_nil)) rfl ?_
  simp only [c_laws_markForecast]
  try simp only [Nat.reduceBEq, Nat.reduceMul, Nat.reduceAdd, Nat.reduceDiv, Int.reduceBEq, rules2, rulesX, rowsX]
  refine go_bx rfl rfl rfl ?_
  obtain ⟨r1, hr1, h⟩ := ob h
  try simp only [Nat.reduceBEq, Nat.reduceMul, Nat.reduceAdd, Nat.reduceDiv, Int.reduceBEq, rules2, rulesX, rowsX]
  have lrr1 := (l_laws_markTide _ _ _ hr1)
  refine go_callx (ids := [1099511627776]) (w_laws_markTide _ _ _ hr1) rfl rfl rfl (flatR_cons flatR_nil) (sameLen_cons (l_laws_markTide _ _ _ hr1) sameLen_nil) ?_
  obtain ⟨r2, hr2, h⟩ := ob h
  try simp only [Nat.reduceBEq, Nat.reduceMul, Nat.reduceAdd, Nat.reduceDiv, Int.reduceBEq, rules2, rulesX, rowsX]
  have lrr2 := (l_laws_markSurgeS _ _ _ hr2)
  refine go_callx (ids := [1099511627777]) (w_laws_markSurgeS _ _ _ hr2) rfl rfl rfl (flatR_cons flatR_nil) (sameLen_cons (l_laws_markSurgeS _ _ _ hr2) sameLen_nil) ?_
  try simp only [Nat.reduceBEq, Nat.reduceMul, Nat.reduceAdd, Nat.reduceDiv, Int.reduceBEq, rules2, rulesX, rowsX]
  cases h
  exact ⟨⟨rfl, trivial⟩, ⟨⟨⟨_, rfl, rfl⟩, rfl⟩, ⟨⟨⟨_, rfl, rfl⟩, rfl⟩, trivial⟩⟩⟩
/- 64: laws_markText -/
def c_laws_markText_1 : ACode := .seq (.reg [(none, .keep [0, 3] [] [])]) (.seq (.seq (.reg [(none, .mv 6 (S 0)), (none, .bin 7 .gtr (S 6) (K 0))]) (.cond (S 7) .skip (.exit 0))) (.block 1 (.seq (.reg [(none, .mv 8 (S 0)), (none, .bin 9 .rem (S 8) (K 10)), (none, .bin 10 .add (K 48) (S 9)), (none, .conv 11 .u8 (S 10)), (none, .bslice 12 1 [.int .u8 0] 1 [(0, (S 11))]), (none, .sconv 13 (S 12)), (none, .mv 14 (S 3)), (none, .bin 15 .add (S 13) (S 14)), (none, .mv 3 (S 15))]) (.reg [(none, .mv 16 (S 0)), (none, .bin 17 .quo (S 16) (K 10)), (none, .mv 0 (S 17))]))))
def c_laws_markText_n1 : ACode := (.seq (.reg [(none, .mv 18 (S 3)), (none, .bin 19 .add (KS [109]) (S 18)), (none, .mv 2 (S 19))]) .ret)
def c_laws_markText : ACode := (.seq (.reg [(none, .mv 2 (KS []))]) (.seq (.seq (.reg [(none, .mv 4 (S 0)), (none, .bin 5 .leq (S 4) (K 0))]) (.cond (S 5) (.seq (.reg [(none, .mv 2 (KS [109, 48]))]) .ret) .skip)) (.seq (.reg [(none, .mv 3 (KS []))]) (.seq (.block 0 (.loop c_laws_markText_1)) c_laws_markText_n1))))
theorem w_laws_markText_1 : ∀ (n : Nat) (v2 : Int) (v3 : List UInt8) (r : (List UInt8)), f_laws_markText_1 n v2 v3 = some r → ∀ σ : St, σ.kept [0, 3] [] [] = ⟨[(0, vc (aI v2)), (3, vc (aS v3))], [], []⟩ → go Tryz.prog (.code (.loop c_laws_markText_1) :: [.blk 0, .code c_laws_markText_n1]) (Ret [2] [.sc (.v (.str r))]) .normal (some σ) := by
  intro n
  induction n with
  | zero => intro _ _ r h; cases h
  | succ n ih =>
    intro v2 v3 r h σ hσ
    rw [f_laws_markText_1] at h
    refine go_round ?_
    rcases Bool.eq_false_or_eq_true (decide ((0 : Int) < v2)) with hb4 | hb4
    · rw [ite_t hb4] at h
      try simp only [hσ, hb4, c_laws_markText_1, Nat.reduceBEq, Nat.reduceMul, Nat.reduceAdd, Nat.reduceDiv, Int.reduceBEq, rules2, rulesX, rowsX]
      refine go_bsl (es := List.map r8 ([(IntKind.u8.wrap (IntKind.i64.wrap ((48 : Int) + (IntKind.i64.wrap (Int.tmod v2 (10 : Int))))))] : List Int)) rfl rfl ?_
      obtain ⟨hg5, h⟩ := of_guard h
      try simp only [hb4, hg5, Nat.reduceBEq, Nat.reduceMul, Nat.reduceAdd, Nat.reduceDiv, Int.reduceBEq, rules2, rulesX, rowsX]
      refine ih _ _ _ h _ ?_
      try simp only [hb4, hg5, Nat.reduceBEq, Nat.reduceMul, Nat.reduceAdd, Nat.reduceDiv, Int.reduceBEq, rules2, rulesX, rowsX, List.map_nil]
    · rw [ite_f hb4] at h
      obtain ⟨hg6, h⟩ := of_guard h
      try simp only [hσ, hb4, hg6, c_laws_markText_1, c_laws_markText_n1, Nat.reduceBEq, Nat.reduceMul, Nat.reduceAdd, Nat.reduceDiv, Int.reduceBEq, rules2, rulesX, rowsX]
      cases h
      exact ⟨⟨rfl, trivial⟩, rfl⟩
theorem e_laws_markText : entry Tryz.prog 64 = some (c_laws_markText.strip, [2], 20) := by kernel_rfl
theorem w_laws_markText (a0 : Int) (r : (List UInt8)) (h : f_laws_markText a0 = some r) : FC Tryz.prog 64 [.sc (.int .i64 a0)] [.sc (.v (.str r))] := by
  unfold f_laws_markText at h
  refine FC_go (σ := ⟨[(0, vc (aI a0))], [], []⟩) mixed e_laws_markText rfl rfl ?_
  simp only [c_laws_markText]
  rcases Bool.eq_false_or_eq_true (decide (a0 ≤ (0 : Int))) with hb1 | hb1
  · rw [ite_t hb1] at h
    try simp only [hb1, Nat.reduceBEq, Nat.reduceMul, Nat.reduceAdd, Nat.reduceDiv, Int.reduceBEq, rules2, rulesX, rowsX]
    cases h
    exact ⟨⟨rfl, trivial⟩, rfl⟩
  · rw [ite_f hb1] at h
    try simp only [hb1, Nat.reduceBEq, Nat.reduceMul, Nat.reduceAdd, Nat.reduceDiv, Int.reduceBEq, rules2, rulesX, rowsX]
    refine w_laws_markText_1 _ _ _ _ h _ ?_
    try simp only [hb1, Nat.reduceBEq, Nat.reduceMul, Nat.reduceAdd, Nat.reduceDiv, Int.reduceBEq, rules2, rulesX, rowsX, List.map_nil]
/- 62: laws_markPointS -/
def c_laws_markPointS_1 : ACode := .seq (.reg [(none, .keep [0, 1, 5] [] [1099511627776])]) (.seq (.seq (.reg [(none, .mv 6 (S 5)), (none, .mv 7 (S 0)), (none, .len 8 (S 7)), (none, .bin 9 .lss (S 6) (S 8))]) (.cond (S 9) .skip (.exit 0))) (.seq (.block 1 (.seq (.reg [(none, .mv 12 (S 0)), (none, .mv 13 (S 5)), (none, .mv 14 (S 1)), (none, .call 15 64 [(S 14)]), (none, .iaddr 16 (S 12) (S 13) 2), (none, .faddr 17 (S 16) 0), (none, .store (S 17) (S 15) 1)]) (.seq (.reg [(none, .mv 18 (S 1)), (none, .bin 19 .add (S 18) (K 1)), (none, .mv 1 (S 19))]) (.seq (.reg [(none, .mv 20 (S 0)), (none, .mv 21 (S 5)), (none, .mv 22 (S 1)), (none, .bin 23 .rem (S 22) (K 3)), (none, .bin 24 .eql (S 23) (K 0)), (none, .iaddr 25 (S 20) (S 21) 2), (none, .faddr 26 (S 25) 1), (none, .store (S 26) (S 24) 1)]) (.reg [(none, .mv 27 (S 1)), (none, .bin 28 .add (S 27) (K 1)), (none, .mv 1 (S 28))]))))) (.reg [(none, .mv 10 (S 5)), (none, .bin 11 .add (S 10) (K 1)), (none, .mv 5 (S 11))])))
def c_laws_markPointS_n1 : ACode := (.seq (.reg [(none, .mv 29 (S 1)), (none, .mv 4 (S 29))]) .ret)
def c_laws_markPointS : ACode := (.seq (.reg [(none, .mv 4 (K 0))]) (.seq (.seq (.reg [(none, .mv 5 (K 0))]) (.block 0 (.loop c_laws_markPointS_1))) c_laws_markPointS_n1))
theorem w_laws_markPointS_1 : ∀ (n : Nat) (v1 : Int) (v2 : Int) (v3 : List XPoint) (r : Int × List XPoint), f_laws_markPointS_1 n v1 v2 v3 = some r → ∀ σ : St, σ.kept [0, 1, 5] [] [1099511627776] = ⟨[(0, vc (.own 1099511627776)), (1, vc (aI v1)), (5, vc (aI v2))], [], [(1099511627776, 2, List.map XPoint.row v3)]⟩ → go Tryz.prog (.code (.loop c_laws_markPointS_1) :: [.blk 0, .code c_laws_markPointS_n1]) (RetX [4] (.int .i64 r.1) [(2, List.map XPoint.row r.2)] [(0, 0)]) .normal (some σ) := by
  intro n
  induction n with
  | zero => intro _ _ _ r h; cases h
  | succ n ih =>
    intro v1 v2 v3 r h σ hσ
    rw [f_laws_markPointS_1] at h
    refine go_round ?_
    rcases Bool.eq_false_or_eq_true (decide (v2 < (v3.length : Int))) with hb4 | hb4
    · rw [ite_t hb4] at h
      obtain ⟨r5, hr5, h⟩ := ob h
      try simp only [hσ, hb4, c_laws_markPointS_1, Nat.reduceBEq, Nat.reduceMul, Nat.reduceAdd, Nat.reduceDiv, Int.reduceBEq, rules2, rulesX, rowsX]
      refine go_callI (w_laws_markText _ _ hr5) rfl rfl (Nat.le_of_ble_eq_true rfl) ?_
      obtain ⟨x6, hx6, h⟩ := ob h
      have hx6n := ix_get hx6
      try simp only [hb4, hx6, Nat.reduceBEq, Nat.reduceMul, Nat.reduceAdd, Nat.reduceDiv, Int.reduceBEq, rules2, rulesX, rowsX]
      refine go_stp (y := (⟨r5, x6.Wait⟩ : XPoint)) rfl rfl hx6n rfl rfl rfl ?_
      obtain ⟨x7, hx7, h⟩ := ob h
      have hx7n := ix_get hx7
      try simp only [hb4, hx6, hx7, Nat.reduceBEq, Nat.reduceMul, Nat.reduceAdd, Nat.reduceDiv, Int.reduceBEq, rules2, rulesX, rowsX]
      refine go_stp (y := (⟨x7.Name, ((IntKind.i64.wrap (Int.tmod (IntKind.i64.wrap (v1 + (1 : Int))) (3 : Int))) == (0 : Int))⟩ : XPoint)) rfl rfl hx7n rfl rfl rfl ?_
      try simp only [hb4, hx6, hx7, Nat.reduceBEq, Nat.reduceMul, Nat.reduceAdd, Nat.reduceDiv, Int.reduceBEq, rules2, rulesX, rowsX]
      refine ih _ _ _ _ h _ ?_
      try simp only [hb4, hx6, hx7, Nat.reduceBEq, Nat.reduceMul, Nat.reduceAdd, Nat.reduceDiv, Int.reduceBEq, rules2, rulesX, rowsX, List.map_nil]
    · rw [ite_f hb4] at h
      try simp only [hσ, hb4, c_laws_markPointS_1, c_laws_markPointS_n1, Nat.reduceBEq, Nat.reduceMul, Nat.reduceAdd, Nat.reduceDiv, Int.reduceBEq, rules2, rulesX, rowsX]
      cases h
      exact ⟨⟨rfl, trivial⟩, ⟨⟨⟨_, rfl, rfl⟩, rfl⟩, trivial⟩⟩
theorem e_laws_markPointS : entry Tryz.prog 62 = some (c_laws_markPointS.strip, [4], 30) := by kernel_rfl
theorem l_laws_markPointS_1 : ∀ (n : Nat) (v1 : Int) (v2 : Int) (v3 : List XPoint) (r : Int × List XPoint), f_laws_markPointS_1 n v1 v2 v3 = some r → r.2.length = v3.length := by
  intro n
  induction n with
  | zero => intro _ _ _ r h; cases h
  | succ n ih =>
    intro v1 v2 v3 r h
    rw [f_laws_markPointS_1] at h
    rcases Bool.eq_false_or_eq_true (decide (v2 < (v3.length : Int))) with hb4 | hb4
    · rw [ite_t hb4] at h
      obtain ⟨r5, hr5, h⟩ := ob h
      obtain ⟨x6, hx6, h⟩ := ob h
      obtain ⟨x7, hx7, h⟩ := ob h
      have hl := ih _ _ _ _ h
      try simp only [List.length_set] at hl
      omega
    · rw [ite_f hb4] at h
      cases h
      all_goals (try dsimp only); first | done | omega | (simp only [List.length_set] at *; omega) | simp_all
theorem l_laws_markPointS (a0 : List XPoint) (a1 : Int) (r : Int × List XPoint) (h : f_laws_markPointS a0 a1 = some r) : r.2.length = a0.length := by
  unfold f_laws_markPointS at h
  have hl := l_laws_markPointS_1 _ _ _ _ _ h
  try simp only [List.length_set] at hl
  omega
theorem w_laws_markPointS (a0 : List XPoint) (a1 : Int) (r : Int × List XPoint) (h : f_laws_markPointS a0 a1 = some r) : FCx Tryz.prog 62 [.sc (.r 0), .sc (.d (.int .i64 a1))] [(2, List.map XPoint.row a0)] [(2, List.map XPoint.row r.2)] (.int .i64 r.1) := by
  unfold f_laws_markPointS at h
  refine FCx_go (ps := [(0, 0)]) (σ := ⟨[(0, vc (.own 1099511627776)), (1, vc (aI a1))], [], [(1099511627776, 2, List.map XPoint.row a0)]⟩) mixed e_laws_markPointS rfl rfl rfl (flatR_cons flatR_nil) rfl ?_
  simp only [c_laws_markPointS]
  try simp only [Nat.reduceBEq, Nat.reduceMul, Nat.reduceAdd, Nat.reduceDiv, Int.reduceBEq, rules2, rulesX, rowsX]
  refine w_laws_markPointS_1 _ _ _ _ _ h _ ?_
  try simp only [Nat.reduceBEq, Nat.reduceMul, Nat.reduceAdd, Nat.reduceDiv, Int.reduceBEq, rules2, rulesX, rowsX, List.map_nil]
/- 63: laws_markSegmentS -/
def c_laws_markSegmentS_1 : ACode := .seq (.reg [(none, .keep [0, 1, 5] [] [1099511627776])]) (.seq (.seq (.reg [(none, .mv 6 (S 5)), (none, .mv 7 (S 0)), (none, .len 8 (S 7)), (none, .bin 9 .lss (S 6) (S 8))]) (.cond (S 9) .skip (.exit 0))) (.seq (.block 1 (.seq (.reg [(none, .mv 12 (S 0)), (none, .mv 13 (S 5)), (none, .mv 14 (S 1)), (none, .iaddr 15 (S 12) (S 13) 5), (none, .faddr 16 (S 15) 0), (none, .store (S 16) (S 14) 1)]) (.seq (.reg [(none, .mv 17 (S 1)), (none, .bin 18 .add (S 17) (K 1)), (none, .mv 1 (S 18))]) (.seq (.reg [(none, .mv 19 (S 0)), (none, .mv 20 (S 5)), (none, .mv 21 (S 1)), (none, .iaddr 22 (S 19) (S 20) 5), (none, .faddr 23 (S 22) 1), (none, .store (S 23) (S 21) 1)]) (.seq (.reg [(none, .mv 24 (S 1)), (none, .bin 25 .add (S 24) (K 1)), (none, .mv 1 (S 25))]) (.seq (.reg [(none, .mv 26 (S 0)), (none, .mv 27 (S 5)), (none, .mv 28 (S 1)), (none, .iaddr 29 (S 26) (S 27) 5), (none, .faddr 30 (S 29) 2), (none, .store (S 30) (S 28) 1)]) (.seq (.reg [(none, .mv 31 (S 1)), (none, .bin 32 .add (S 31) (K 1)), (none, .mv 1 (S 32))]) (.seq (.reg [(none, .mv 33 (S 0)), (none, .mv 34 (S 5)), (none, .mv 35 (S 1)), (none, .iaddr 36 (S 33) (S 34) 5), (none, .faddr 37 (S 36) 3), (none, .store (S 37) (S 35) 1)]) (.seq (.reg [(none, .mv 38 (S 1)), (none, .bin 39 .add (S 38) (K 1)), (none, .mv 1 (S 39))]) (.seq (.reg [(none, .mv 40 (S 0)), (none, .mv 41 (S 5)), (none, .mv 42 (S 1)), (none, .bin 43 .rem (S 42) (K 3)), (none, .bin 44 .eql (S 43) (K 0)), (none, .iaddr 45 (S 40) (S 41) 5), (none, .faddr 46 (S 45) 4), (none, .store (S 46) (S 44) 1)]) (.reg [(none, .mv 47 (S 1)), (none, .bin 48 .add (S 47) (K 1)), (none, .mv 1 (S 48))]))))))))))) (.reg [(none, .mv 10 (S 5)), (none, .bin 11 .add (S 10) (K 1)), (none, .mv 5 (S 11))])))
def c_laws_markSegmentS_n1 : ACode := (.seq (.reg [(none, .mv 49 (S 1)), (none, .mv 4 (S 49))]) .ret)
def c_laws_markSegmentS : ACode := (.seq (.reg [(none, .mv 4 (K 0))]) (.seq (.seq (.reg [(none, .mv 5 (K 0))]) (.block 0 (.loop c_laws_markSegmentS_1))) c_laws_markSegmentS_n1))
theorem w_laws_markSegmentS_1 : ∀ (n : Nat) (v1 : Int) (v2 : Int) (v3 : List XSegment) (r : Int × List XSegment), f_laws_markSegmentS_1 n v1 v2 v3 = some r → ∀ σ : St, σ.kept [0, 1, 5] [] [1099511627776] = ⟨[(0, vc (.own 1099511627776)), (1, vc (aI v1)), (5, vc (aI v2))], [], [(1099511627776, 5, List.map XSegment.row v3)]⟩ → go Tryz.prog (.code (.loop c_laws_markSegmentS_1) :: [.blk 0, .code c_laws_markSegmentS_n1]) (RetX [4] (.int .i64 r.1) [(5, List.map XSegment.row r.2)] [(0, 0)]) .normal (some σ) := by
  intro n
  induction n with
  | zero => intro _ _ _ r h; cases h
  | succ n ih =>
    intro v1 v2 v3 r h σ hσ
    rw [f_laws_markSegmentS_1] at h
    refine go_round ?_
    rcases Bool.eq_false_or_eq_true (decide (v2 < (v3.length : Int))) with hb4 | hb4
    · rw [ite_t hb4] at h
      obtain ⟨x5, hx5, h⟩ := ob h
      have hx5n := ix_get hx5
      try simp only [hσ, hb4, hx5, c_laws_markSegmentS_1, Nat.reduceBEq, Nat.reduceMul, Nat.reduceAdd, Nat.reduceDiv, Int.reduceBEq, rules2, rulesX, rowsX]
      refine go_stp (y := (⟨v1, x5.B, x5.Depth, x5.Minutes, x5.Meet⟩ : XSegment)) rfl rfl hx5n rfl rfl rfl ?_
      obtain ⟨x6, hx6, h⟩ := ob h
      have hx6n := ix_get hx6
      try simp only [hb4, hx5, hx6, Nat.reduceBEq, Nat.reduceMul, Nat.reduceAdd, Nat.reduceDiv, Int.reduceBEq, rules2, rulesX, rowsX]
      refine go_stp (y := (⟨x6.A, (IntKind.i64.wrap (v1 + (1 : Int))), x6.Depth, x6.Minutes, x6.Meet⟩ : XSegment)) rfl rfl hx6n rfl rfl rfl ?_
      obtain ⟨x7, hx7, h⟩ := ob h
      have hx7n := ix_get hx7
      try simp only [hb4, hx5, hx6, hx7, Nat.reduceBEq, Nat.reduceMul, Nat.reduceAdd, Nat.reduceDiv, Int.reduceBEq, rules2, rulesX, rowsX]
      refine go_stp (y := (⟨x7.A, x7.B, (IntKind.i64.wrap ((IntKind.i64.wrap (v1 + (1 : Int))) + (1 : Int))), x7.Minutes, x7.Meet⟩ : XSegment)) rfl rfl hx7n rfl rfl rfl ?_
      obtain ⟨x8, hx8, h⟩ := ob h
      have hx8n := ix_get hx8
      try simp only [hb4, hx5, hx6, hx7, hx8, Nat.reduceBEq, Nat.reduceMul, Nat.reduceAdd, Nat.reduceDiv, Int.reduceBEq, rules2, rulesX, rowsX]
      refine go_stp (y := (⟨x8.A, x8.B, x8.Depth, (IntKind.i64.wrap ((IntKind.i64.wrap ((IntKind.i64.wrap (v1 + (1 : Int))) + (1 : Int))) + (1 : Int))), x8.Meet⟩ : XSegment)) rfl rfl hx8n rfl rfl rfl ?_
      obtain ⟨x9, hx9, h⟩ := ob h
      have hx9n := ix_get hx9
      try simp only [hb4, hx5, hx6, hx7, hx8, hx9, Nat.reduceBEq, Nat.reduceMul, Nat.reduceAdd, Nat.reduceDiv, Int.reduceBEq, rules2, rulesX, rowsX]
      refine go_stp (y := (⟨x9.A, x9.B, x9.Depth, x9.Minutes, ((IntKind.i64.wrap (Int.tmod (IntKind.i64.wrap ((IntKind.i64.wrap ((IntKind.i64.wrap ((IntKind.i64.wrap (v1 + (1 : Int))) + (1 : Int))) + (1 : Int))) + (1 : Int))) (3 : Int))) == (0 : Int))⟩ : XSegment)) rfl rfl hx9n rfl rfl rfl ?_
      try simp only [hb4, hx5, hx6, hx7, hx8, hx9, Nat.reduceBEq, Nat.reduceMul, Nat.reduceAdd, Nat.reduceDiv, Int.reduceBEq, rules2, rulesX, rowsX]
      refine ih _ _ _ _ h _ ?_
      try simp only [hb4, hx5, hx6, hx7, hx8, hx9, Nat.reduceBEq, Nat.reduceMul, Nat.reduceAdd, Nat.reduceDiv, Int.reduceBEq, rules2, rulesX, rowsX, List.map_nil]
    · rw [ite_f hb4] at h
      try simp only [hσ, hb4, c_laws_markSegmentS_1, c_laws_markSegmentS_n1, Nat.reduceBEq, Nat.reduceMul, Nat.reduceAdd, Nat.reduceDiv, Int.reduceBEq, rules2, rulesX, rowsX]
      cases h
      exact ⟨⟨rfl, trivial⟩, ⟨⟨⟨_, rfl, rfl⟩, rfl⟩, trivial⟩⟩
theorem e_laws_markSegmentS : entry Tryz.prog 63 = some (c_laws_markSegmentS.strip, [4], 50) := by kernel_rfl
theorem l_laws_markSegmentS_1 : ∀ (n : Nat) (v1 : Int) (v2 : Int) (v3 : List XSegment) (r : Int × List XSegment), f_laws_markSegmentS_1 n v1 v2 v3 = some r → r.2.length = v3.length := by
  intro n
  induction n with
  | zero => intro _ _ _ r h; cases h
  | succ n ih =>
    intro v1 v2 v3 r h
    rw [f_laws_markSegmentS_1] at h
    rcases Bool.eq_false_or_eq_true (decide (v2 < (v3.length : Int))) with hb4 | hb4
    · rw [ite_t hb4] at h
      obtain ⟨x5, hx5, h⟩ := ob h
      obtain ⟨x6, hx6, h⟩ := ob h
      obtain ⟨x7, hx7, h⟩ := ob h
      obtain ⟨x8, hx8, h⟩ := ob h
      obtain ⟨x9, hx9, h⟩ := ob h
      have hl := ih _ _ _ _ h
      try simp only [List.length_set] at hl
      omega
    · rw [ite_f hb4] at h
      cases h
      all_goals (try dsimp only); first | done | omega | (simp only [List.length_set] at *; omega) | simp_all
theorem l_laws_markSegmentS (a0 : List XSegment) (a1 : Int) (r : Int × List XSegment) (h : f_laws_markSegmentS a0 a1 = some r) : r.2.length = a0.length := by
  unfold f_laws_markSegmentS at h
  have hl := l_laws_markSegmentS_1 _ _ _ _ _ h
  try simp only [List.length_set] at hl
  omega
theorem w_laws_markSegmentS (a0 : List XSegment) (a1 : Int) (r : Int × List XSegment) (h : f_laws_markSegmentS a0 a1 = some r) : FCx Tryz.prog 63 [.sc (.r 0), .sc (.d (.int .i64 a1))] [(5, List.map XSegment.row a0)] [(5, List.map XSegment.row r.2)] (.int .i64 r.1) := by
  unfold f_laws_markSegmentS at h
  refine FCx_go (ps := [(0, 0)]) (σ := ⟨[(0, vc (.own 1099511627776)), (1, vc (aI a1))], [], [(1099511627776, 5, List.map XSegment.row a0)]⟩) mixed e_laws_markSegmentS rfl rfl rfl (flatR_cons flatR_nil) rfl ?_
  simp only [c_laws_markSegmentS]
  try simp only [Nat.reduceBEq, Nat.reduceMul, Nat.reduceAdd, Nat.reduceDiv, Int.reduceBEq, rules2, rulesX, rowsX]
  refine w_laws_markSegmentS_1 _ _ _ _ _ h _ ?_
  try simp only [Nat.reduceBEq, Nat.reduceMul, Nat.reduceAdd, Nat.reduceDiv, Int.reduceBEq, rules2, rulesX, rowsX, List.map_nil]
/- 22: laws_markChart -/
def c_laws_markChart : ACode := (.seq (.reg [(none, .box 2 (S 0)), (none, .mv 4 (K 0))]) (.seq (.reg [(none, .faddr 5 (S 2) 0), (none, .load 6 (S 5) false 1), (none, .mv 7 (S 1)), (none, .call 8 62 [(S 6), (S 7)]), (none, .mv 1 (S 8))]) (.seq (.reg [(none, .faddr 9 (S 2) 1), (none, .load 10 (S 9) false 1), (none, .mv 11 (S 1)), (none, .call 12 63 [(S 10), (S 11)]), (none, .mv 1 (S 12))]) (.seq (.reg [(none, .mv 13 (S 1)), (none, .mv 4 (S 13))]) .ret))))
theorem e_laws_markChart : entry Tryz.prog 22 = some (c_laws_markChart.strip, [4], 14) := by kernel_rfl
theorem l_laws_markChart (a0 : XChart) (a1 : Int) (r : Int × List XPoint × List XSegment) (h : f_laws_markChart a0 a1 = some r) : r.2.1.length = a0.Points.length ∧ r.2.2.length = a0.Segments.length := by
  unfold f_laws_markChart at h
  obtain ⟨r1, hr1, h⟩ := ob h
  have lrr1 := (l_laws_markPointS _ _ _ hr1)
  obtain ⟨r2, hr2, h⟩ := ob h
  have lrr2 := (l_laws_markSegmentS _ _ _ hr2)
  cases h
  all_goals (try dsimp only); first | done | omega | (simp only [List.length_set] at *; omega) | simp_all
theorem w_laws_markChart (a0 : XChart) (a1 : Int) (r : Int × List XPoint × List XSegment) (h : f_laws_markChart a0 a1 = some r) : FCx Tryz.prog 22 [.ag [.r 0, .r 1], .sc (.d (.int .i64 a1))] [(2, List.map XPoint.row a0.Points), (5, List.map XSegment.row a0.Segments)] [(2, List.map XPoint.row r.2.1), (5, List.map XSegment.row r.2.2)] (.int .i64 r.1) := by
  unfold f_laws_markChart at h
  refine FCx_go (ps := [(0, 0), (0, 1)]) (σ := ⟨[(0, va [.own 1099511627776, .own 1099511627777]), (1, vc (aI a1))], [], [(1099511627776, 2, List.map XPoint.row a0.Points), (1099511627777, 5, List.map XSegment.row a0.Segments)]⟩) mixed e_laws_markChart rfl rfl rfl (flatR_cons (flatR_cons flatR_nil)) rfl ?_
  simp only [c_laws_markChart]
  try simp only [Nat.reduceBEq, Nat.reduceMul, Nat.reduceAdd, Nat.reduceDiv, Int.reduceBEq, rules2, rulesX, rowsX]
  refine go_bx rfl rfl rfl ?_
  obtain ⟨r1, hr1, h⟩ := ob h
  try simp only [Nat.reduceBEq, Nat.reduceMul, Nat.reduceAdd, Nat.reduceDiv, Int.reduceBEq, rules2, rulesX, rowsX]
  have lrr1 := (l_laws_markPointS _ _ _ hr1)
  refine go_callx (ids := [1099511627776]) (w_laws_markPointS _ _ _ hr1) rfl rfl rfl (flatR_cons flatR_nil) (sameLen_cons (l_laws_markPointS _ _ _ hr1) sameLen_nil) ?_
  obtain ⟨r2, hr2, h⟩ := ob h
  try simp only [Nat.reduceBEq, Nat.reduceMul, Nat.reduceAdd, Nat.reduceDiv, Int.reduceBEq, rules2, rulesX, rowsX]
  have lrr2 := (l_laws_markSegmentS _ _ _ hr2)
  refine go_callx (ids := [1099511627777]) (w_laws_markSegmentS _ _ _ hr2) rfl rfl rfl (flatR_cons flatR_nil) (sameLen_cons (l_laws_markSegmentS _ _ _ hr2) sameLen_nil) ?_
  try simp only [Nat.reduceBEq, Nat.reduceMul, Nat.reduceAdd, Nat.reduceDiv, Int.reduceBEq, rules2, rulesX, rowsX]
  cases h
  exact ⟨⟨rfl, trivial⟩, ⟨⟨⟨_, rfl, rfl⟩, rfl⟩, ⟨⟨⟨_, rfl, rfl⟩, rfl⟩, trivial⟩⟩⟩
/- 23: laws_markStringS -/
def c_laws_markStringS_1 : ACode := .seq (.reg [(none, .keep [0, 1, 5] [] [1099511627776])]) (.seq (.seq (.reg [(none, .mv 6 (S 5)), (none, .mv 7 (S 0)), (none, .len 8 (S 7)), (none, .bin 9 .lss (S 6) (S 8))]) (.cond (S 9) .skip (.exit 0))) (.seq (.block 1 (.seq (.reg [(none, .mv 12 (S 0)), (none, .mv 13 (S 5)), (none, .mv 14 (S 1)), (none, .call 15 64 [(S 14)]), (none, .iaddr 16 (S 12) (S 13) 1), (none, .store (S 16) (S 15) 1)]) (.reg [(none, .mv 17 (S 1)), (none, .bin 18 .add (S 17) (K 1)), (none, .mv 1 (S 18))]))) (.reg [(none, .mv 10 (S 5)), (none, .bin 11 .add (S 10) (K 1)), (none, .mv 5 (S 11))])))
def c_laws_markStringS_n1 : ACode := (.seq (.reg [(none, .mv 19 (S 1)), (none, .mv 4 (S 19))]) .ret)
def c_laws_markStringS : ACode := (.seq (.reg [(none, .mv 4 (K 0))]) (.seq (.seq (.reg [(none, .mv 5 (K 0))]) (.block 0 (.loop c_laws_markStringS_1))) c_laws_markStringS_n1))
theorem w_laws_markStringS_1 : ∀ (n : Nat) (v1 : Int) (v2 : Int) (v3 : List (List UInt8)) (r : Int × List (List UInt8)), f_laws_markStringS_1 n v1 v2 v3 = some r → ∀ σ : St, σ.kept [0, 1, 5] [] [1099511627776] = ⟨[(0, vc (.own 1099511627776)), (1, vc (aI v1)), (5, vc (aI v2))], [], [(1099511627776, 1, List.map rS v3)]⟩ → go Tryz.prog (.code (.loop c_laws_markStringS_1) :: [.blk 0, .code c_laws_markStringS_n1]) (RetX [4] (.int .i64 r.1) [(1, List.map rS r.2)] [(0, 0)]) .normal (some σ) := by
  intro n
  induction n with
  | zero => intro _ _ _ r h; cases h
  | succ n ih =>
    intro v1 v2 v3 r h σ hσ
    rw [f_laws_markStringS_1] at h
    refine go_round ?_
    rcases Bool.eq_false_or_eq_true (decide (v2 < (v3.length : Int))) with hb4 | hb4
    · rw [ite_t hb4] at h
      obtain ⟨r5, hr5, h⟩ := ob h
      try simp only [hσ, hb4, c_laws_markStringS_1, Nat.reduceBEq, Nat.reduceMul, Nat.reduceAdd, Nat.reduceDiv, Int.reduceBEq, rules2, rulesX, rowsX]
      refine go_callI (w_laws_markText _ _ hr5) rfl rfl (Nat.le_of_ble_eq_true rfl) ?_
      obtain ⟨x6, hx6, h⟩ := ob h
      have hx6n := ix_get hx6
      try simp only [hb4, hx6, Nat.reduceBEq, Nat.reduceMul, Nat.reduceAdd, Nat.reduceDiv, Int.reduceBEq, rules2, rulesX, rowsX]
      refine go_stp (y := r5) rfl rfl hx6n rfl rfl rfl ?_
      try simp only [hb4, hx6, Nat.reduceBEq, Nat.reduceMul, Nat.reduceAdd, Nat.reduceDiv, Int.reduceBEq, rules2, rulesX, rowsX]
      refine ih _ _ _ _ h _ ?_
      try simp only [hb4, hx6, Nat.reduceBEq, Nat.reduceMul, Nat.reduceAdd, Nat.reduceDiv, Int.reduceBEq, rules2, rulesX, rowsX, List.map_nil]
    · rw [ite_f hb4] at h
      try simp only [hσ, hb4, c_laws_markStringS_1, c_laws_markStringS_n1, Nat.reduceBEq, Nat.reduceMul, Nat.reduceAdd, Nat.reduceDiv, Int.reduceBEq, rules2, rulesX, rowsX]
      cases h
      exact ⟨⟨rfl, trivial⟩, ⟨⟨⟨_, rfl, rfl⟩, rfl⟩, trivial⟩⟩
theorem e_laws_markStringS : entry Tryz.prog 23 = some (c_laws_markStringS.strip, [4], 20) := by kernel_rfl
theorem l_laws_markStringS_1 : ∀ (n : Nat) (v1 : Int) (v2 : Int) (v3 : List (List UInt8)) (r : Int × List (List UInt8)), f_laws_markStringS_1 n v1 v2 v3 = some r → r.2.length = v3.length := by
  intro n
  induction n with
  | zero => intro _ _ _ r h; cases h
  | succ n ih =>
    intro v1 v2 v3 r h
    rw [f_laws_markStringS_1] at h
    rcases Bool.eq_false_or_eq_true (decide (v2 < (v3.length : Int))) with hb4 | hb4
    · rw [ite_t hb4] at h
      obtain ⟨r5, hr5, h⟩ := ob h
      obtain ⟨x6, hx6, h⟩ := ob h
      have hl := ih _ _ _ _ h
      try simp only [List.length_set] at hl
      omega
    · rw [ite_f hb4] at h
      cases h
      all_goals (try dsimp only); first | done | omega | (simp only [List.length_set] at *; omega) | simp_all
theorem l_laws_markStringS (a0 : List (List UInt8)) (a1 : Int) (r : Int × List (List UInt8)) (h : f_laws_markStringS a0 a1 = some r) : r.2.length = a0.length := by
  unfold f_laws_markStringS at h
  have hl := l_laws_markStringS_1 _ _ _ _ _ h
  try simp only [List.length_set] at hl
  omega
theorem w_laws_markStringS (a0 : List (List UInt8)) (a1 : Int) (r : Int × List (List UInt8)) (h : f_laws_markStringS a0 a1 = some r) : FCx Tryz.prog 23 [.sc (.r 0), .sc (.d (.int .i64 a1))] [(1, List.map rS a0)] [(1, List.map rS r.2)] (.int .i64 r.1) := by
  unfold f_laws_markStringS at h
  refine FCx_go (ps := [(0, 0)]) (σ := ⟨[(0, vc (.own 1099511627776)), (1, vc (aI a1))], [], [(1099511627776, 1, List.map rS a0)]⟩) mixed e_laws_markStringS rfl rfl rfl (flatR_cons flatR_nil) rfl ?_
  simp only [c_laws_markStringS]
  try simp only [Nat.reduceBEq, Nat.reduceMul, Nat.reduceAdd, Nat.reduceDiv, Int.reduceBEq, rules2, rulesX, rowsX]
  refine w_laws_markStringS_1 _ _ _ _ _ h _ ?_
  try simp only [Nat.reduceBEq, Nat.reduceMul, Nat.reduceAdd, Nat.reduceDiv, Int.reduceBEq, rules2, rulesX, rowsX, List.map_nil]
/- 24: laws_heldStringS -/
def c_laws_heldStringS_1 : ACode := .seq (.reg [(none, .keep [0, 1, 5] [] [])]) (.seq (.seq (.reg [(none, .mv 6 (S 5)), (none, .mv 7 (S 0)), (none, .len 8 (S 7)), (none, .bin 9 .lss (S 6) (S 8))]) (.cond (S 9) .skip (.exit 0))) (.seq (.block 1 (.seq (.seq (.drw [(some [17], (none, .mv 12 (S 0))), (some [17], (none, .mv 13 (S 5))), (some [17], (none, .iaddr 14 (S 12) (S 13) 1)), (some [17], (none, .load 15 (S 14) false 1)), (some [], (none, .mv 16 (S 1))), (some [], (none, .call 17 64 [(S 16)])), (some [], (none, .bin 18 .neq (S 15) (S 17)))]) (.cond (S 18) (.seq (.reg [(none, .mv 4 (K (-1)))]) .ret) .skip)) (.reg [(none, .mv 19 (S 1)), (none, .bin 20 .add (S 19) (K 1)), (none, .mv 1 (S 20))]))) (.reg [(none, .mv 10 (S 5)), (none, .bin 11 .add (S 10) (K 1)), (none, .mv 5 (S 11))])))
def c_laws_heldStringS_n1 : ACode := (.seq (.reg [(none, .mv 21 (S 1)), (none, .mv 4 (S 21))]) .ret)
def c_laws_heldStringS : ACode := (.seq (.reg [(none, .mv 4 (K 0))]) (.seq (.seq (.reg [(none, .mv 5 (K 0))]) (.block 0 (.loop c_laws_heldStringS_1))) c_laws_heldStringS_n1))
theorem w_laws_heldStringS_1 (a0 : List (List UInt8)) : ∀ (n : Nat) (v1 : Int) (v2 : Int) (r : Int), f_laws_heldStringS_1 a0 n v1 v2 = some r → ∀ σ : St, σ.kept [0, 1, 5] [] [] = ⟨[(0, vc (aL (List.map rS a0))), (1, vc (aI v1)), (5, vc (aI v2))], [], []⟩ → go Tryz.prog (.code (.loop c_laws_heldStringS_1) :: [.blk 0, .code c_laws_heldStringS_n1]) (Ret [4] [.sc (.v (.int .i64 r))]) .normal (some σ) := by
  intro n
  induction n with
  | zero => intro _ _ r h; cases h
  | succ n ih =>
    intro v1 v2 r h σ hσ
    rw [f_laws_heldStringS_1] at h
    refine go_round ?_
    rcases Bool.eq_false_or_eq_true (decide (v2 < (a0.length : Int))) with hb3 | hb3
    · rw [ite_t hb3] at h
      try simp only [hσ, hb3, c_laws_heldStringS_1, Nat.reduceBEq, Nat.reduceMul, Nat.reduceAdd, Nat.reduceDiv, Int.reduceBEq, rules2, rulesX, rowsX]
      refine go_fr_of rfl ?_
      obtain ⟨x4, hx4, h⟩ := ob h
      obtain ⟨r5, hr5, h⟩ := ob h
      try simp only [hb3, hx4, Nat.reduceBEq, Nat.reduceMul, Nat.reduceAdd, Nat.reduceDiv, Int.reduceBEq, rules2, rulesX, rowsX]
      refine go_dcallI (w_laws_markText _ _ hr5) rfl rfl (Nat.le_of_ble_eq_true rfl) ?_
      rcases Bool.eq_false_or_eq_true (x4 == r5) with hb6 | hb6
      · rw [ite_t hb6] at h
        try simp only [hb3, hx4, hb6, Nat.reduceBEq, Nat.reduceMul, Nat.reduceAdd, Nat.reduceDiv, Int.reduceBEq, rules2, rulesX, rowsX]
        refine ih _ _ _ h _ ?_
        try simp only [hb3, hx4, hb6, Nat.reduceBEq, Nat.reduceMul, Nat.reduceAdd, Nat.reduceDiv, Int.reduceBEq, rules2, rulesX, rowsX, List.map_nil]
      · rw [ite_f hb6] at h
        try simp only [hb3, hx4, hb6, Nat.reduceBEq, Nat.reduceMul, Nat.reduceAdd, Nat.reduceDiv, Int.reduceBEq, rules2, rulesX, rowsX]
        cases h
        exact ⟨⟨rfl, trivial⟩, rfl⟩
    · rw [ite_f hb3] at h
      try simp only [hσ, hb3, c_laws_heldStringS_1, c_laws_heldStringS_n1, Nat.reduceBEq, Nat.reduceMul, Nat.reduceAdd, Nat.reduceDiv, Int.reduceBEq, rules2, rulesX, rowsX]
      cases h
      exact ⟨⟨rfl, trivial⟩, rfl⟩
theorem e_laws_heldStringS : entry Tryz.prog 24 = some (c_laws_heldStringS.strip, [4], 22) := by kernel_rfl
theorem w_laws_heldStringS (a0 : List (List UInt8)) (a1 : Int) (r : Int) (h : f_laws_heldStringS a0 a1 = some r) : FC Tryz.prog 24 [.sc (.sl (List.map rS a0)), .sc (.int .i64 a1)] [.sc (.v (.int .i64 r))] := by
  unfold f_laws_heldStringS at h
  refine FC_go (σ := ⟨[(0, vc (aL (List.map rS a0))), (1, vc (aI a1))], [], []⟩) mixed e_laws_heldStringS rfl rfl ?_
  simp only [c_laws_heldStringS]
  try simp only [Nat.reduceBEq, Nat.reduceMul, Nat.reduceAdd, Nat.reduceDiv, Int.reduceBEq, rules2, rulesX, rowsX]
  refine w_laws_heldStringS_1 _ _ _ _ _ h _ ?_
  try simp only [Nat.reduceBEq, Nat.reduceMul, Nat.reduceAdd, Nat.reduceDiv, Int.reduceBEq, rules2, rulesX, rowsX, List.map_nil]
/- 4: laws_FnExactSureLines -/
def c_laws_FnExactSureLines : ACode := (.seq (.reg [(none, .box 3 (S 0)), (none, .box 4 (S 1)), (none, .box 5 (S 2)), (none, .mv 6 (KB false))]) (.seq (.reg [(none, .mv 7 (K 1048576))]) (.seq (.reg [(none, .load 16 (S 3) true 3), (none, .mv 17 (S 7)), (none, .call 18 10 [(S 16), (S 17)]), (none, .mv 7 (S 18))]) (.seq (.seq (.reg [(none, .mv 19 (S 7)), (none, .bin 20 .lss (S 19) (K 0))]) (.cond (S 20) (.seq (.reg [(none, .mv 6 (KB true))]) .ret) .skip)) (.seq (.reg [(none, .load 21 (S 4) true 2), (none, .mv 22 (S 7)), (none, .call 23 11 [(S 21), (S 22)]), (none, .mv 7 (S 23))]) (.seq (.seq (.reg [(none, .mv 24 (S 7)), (none, .bin 25 .lss (S 24) (K 0))]) (.cond (S 25) (.seq (.reg [(none, .mv 6 (KB true))]) .ret) .skip)) (.seq (.reg [(none, .load 26 (S 5) true 6), (none, .mv 27 (S 7)), (none, .call 28 12 [(S 26), (S 27)]), (none, .mv 7 (S 28))]) (.seq (.seq (.reg [(none, .mv 29 (S 7)), (none, .bin 30 .lss (S 29) (K 0))]) (.cond (S 30) (.seq (.reg [(none, .mv 6 (KB true))]) .ret) .skip)) (.seq (.drw [(some [], (none, .load 31 (S 3) true 3)), (some [], (none, .call 32 14 [(S 31)])), (some [32], (none, .load 33 (S 4) true 2)), (some [], (none, .call 34 15 [(S 33)])), (some [32, 34], (none, .load 35 (S 5) true 6)), (some [], (none, .call 36 16 [(S 35)])), (some [], (none, .call 37 13 [(S 32), (S 34), (S 36)])), (some [], (none, .mv 8 (S 37)))]) (.seq (.reg [(none, .load 38 (S 3) true 3), (none, .call 39 14 [(S 38)]), (none, .alloc 9 [aI 0, .nil, .nil]), (none, .store (S 9) (S 39) 3)]) (.seq (.reg [(none, .load 40 (S 4) true 2), (none, .call 41 15 [(S 40)]), (none, .alloc 10 [.nil, .nil]), (none, .store (S 10) (S 41) 2)]) (.seq (.drw [(some [45], (none, .load 42 (S 9) true 3)), (some [45], (none, .load 43 (S 10) true 2)), (some [], (none, .load 44 (S 5) true 6)), (some [], (none, .call 45 16 [(S 44)])), (some [], (none, .call 46 17 [(S 42), (S 43), (S 45)])), (some [], (none, .mv 11 (S 46)))]) (.seq (.seq (.reg [(none, .mv 47 (S 11)), (none, .mv 48 (S 8)), (none, .call 49 18 [(S 47), (S 48)]), (none, .un 50 .not (S 49))]) (.cond (S 50) (.seq (.reg [(none, .mv 6 (KB false))]) .ret) .skip)) (.seq (.seq (.drw [(some [53], (none, .load 51 (S 9) true 3)), (some [], (none, .load 52 (S 3) true 3)), (some [], (none, .call 53 14 [(S 52)])), (some [], (none, .call 54 19 [(S 51), (S 53)])), (some [], (none, .un 55 .not (S 54)))]) (.cond (S 55) (.seq (.reg [(none, .mv 6 (KB false))]) .ret) .skip)) (.seq (.seq (.drw [(some [58], (none, .load 56 (S 10) true 2)), (some [], (none, .load 57 (S 4) true 2)), (some [], (none, .call 58 15 [(S 57)])), (some [], (none, .call 59 20 [(S 56), (S 58)])), (some [], (none, .un 60 .not (S 59)))]) (.cond (S 60) (.seq (.reg [(none, .mv 6 (KB false))]) .ret) .skip)) (.seq (.reg [(none, .mv 12 (K 1))]) (.seq (.reg [(none, .load 61 (S 9) true 3), (none, .mv 62 (S 12)), (none, .call 63 21 [(S 61), (S 62)]), (none, .mv 12 (S 63))]) (.seq (.reg [(none, .load 64 (S 10) true 2), (none, .mv 65 (S 12)), (none, .call 66 22 [(S 64), (S 65)]), (none, .mv 12 (S 66))]) (.seq (.seq (.reg [(none, .mv 67 (S 12)), (none, .bin 68 .lss (S 67) (K 0)), (none, .mv 69 (S 68)), (some (69, false), .mv 70 (S 11)), (some (69, false), .mv 71 (S 8)), (some (69, false), .call 72 18 [(S 70), (S 71)]), (some (69, false), .un 73 .not (S 72)), (none, .pick 74 (S 69) (KB true) (S 73))]) (.cond (S 74) (.seq (.reg [(none, .mv 6 (KB false))]) .ret) .skip)) (.seq (.reg [(none, .mv 13 (K 1))]) (.seq (.reg [(none, .mv 75 (S 11)), (none, .mv 76 (S 13)), (none, .call 77 23 [(S 75), (S 76)]), (none, .mv 13 (S 77))]) (.seq (.reg [(none, .mv 14 (K 1))]) (.seq (.reg [(none, .mv 78 (S 11)), (none, .mv 79 (S 14)), (none, .call 80 24 [(S 78), (S 79)]), (none, .mv 14 (S 80))]) (.seq (.seq (.reg [(none, .mv 81 (S 14)), (none, .bin 82 .lss (S 81) (K 0))]) (.cond (S 82) (.seq (.reg [(none, .mv 6 (KB false))]) .ret) .skip)) (.seq (.seq (.reg [(none, .mv 83 (S 14)), (none, .mv 84 (S 13)), (none, .bin 85 .neq (S 83) (S 84))]) (.cond (S 85) (.seq (.reg [(none, .mv 6 (KB false))]) .ret) .skip)) (.seq (.drw [(some [], (none, .load 86 (S 3) true 3)), (some [], (none, .call 87 14 [(S 86)])), (some [87], (none, .load 88 (S 4) true 2)), (some [], (none, .call 89 15 [(S 88)])), (some [87, 89], (none, .load 90 (S 5) true 6)), (some [], (none, .call 91 16 [(S 90)])), (some [], (none, .call 92 17 [(S 87), (S 89), (S 91)])), (some [], (none, .mv 15 (S 92)))]) (.seq (.seq (.reg [(none, .mv 93 (S 15)), (none, .mv 94 (S 8)), (none, .call 95 18 [(S 93), (S 94)]), (none, .un 96 .not (S 95))]) (.cond (S 96) (.seq (.reg [(none, .mv 6 (KB false))]) .ret) .skip)) (.seq (.reg [(none, .mv 14 (K 1))]) (.seq (.reg [(none, .mv 97 (S 11)), (none, .mv 98 (S 14)), (none, .call 99 24 [(S 97), (S 98)]), (none, .mv 14 (S 99))]) (.seq (.seq (.reg [(none, .mv 100 (S 14)), (none, .bin 101 .lss (S 100) (K 0))]) (.cond (S 101) (.seq (.reg [(none, .mv 6 (KB false))]) .ret) .skip)) (.seq (.seq (.reg [(none, .mv 102 (S 14)), (none, .mv 103 (S 13)), (none, .bin 104 .neq (S 102) (S 103))]) (.cond (S 104) (.seq (.reg [(none, .mv 6 (KB false))]) .ret) .skip)) (.seq (.reg [(none, .mv 6 (KB true))]) .ret))))))))))))))))))))))))))))))))
theorem e_laws_FnExactSureLines : entry Tryz.prog 4 = some (c_laws_FnExactSureLines.strip, [6], 105) := by kernel_rfl
theorem w_laws_FnExactSureLines (a0 : XForecast) (a1 : XChart) (a2 : XShip) (r : Bool) (h : f_laws_FnExactSureLines a0 a1 a2 = some r) : FC Tryz.prog 4 [.ag (XForecast.row a0), .ag (XChart.row a1), .ag (XShip.row a2)] [.sc (.v (.bool r))] := by
  unfold f_laws_FnExactSureLines at h
  refine FC_go (σ := ⟨[(0, va [aI a0.Tide.Mean, aL (List.map XPart.row a0.Tide.Parts), aL (List.map XSurge.row a0.Surges)]), (1, va [aL (List.map XPoint.row a1.Points), aL (List.map XSegment.row a1.Segments)]), (2, va [aS a2.Name, aI a2.Length, aI a2.Draught, aI a2.Line, aI a2.Tugs, aB a2.Slow])], [], []⟩) mixed e_laws_FnExactSureLines rfl rfl ?_
  simp only [c_laws_FnExactSureLines]
  try simp only [Nat.reduceBEq, Nat.reduceMul, Nat.reduceAdd, Nat.reduceDiv, Int.reduceBEq, rules2, rulesX, rowsX]
  refine go_bx rfl rfl rfl ?_
  try simp only [Nat.reduceBEq, Nat.reduceMul, Nat.reduceAdd, Nat.reduceDiv, Int.reduceBEq, rules2, rulesX, rowsX]
  refine go_bx rfl rfl rfl ?_
  try simp only [Nat.reduceBEq, Nat.reduceMul, Nat.reduceAdd, Nat.reduceDiv, Int.reduceBEq, rules2, rulesX, rowsX]
  refine go_bx rfl rfl rfl ?_
  obtain ⟨r1, hr1, h⟩ := ob h
  try simp only [Nat.reduceBEq, Nat.reduceMul, Nat.reduceAdd, Nat.reduceDiv, Int.reduceBEq, rules2, rulesX, rowsX]
  refine go_callI (w_laws_szForecast _ _ _ hr1) rfl rfl (Nat.le_of_ble_eq_true rfl) ?_
  rcases Bool.eq_false_or_eq_true (decide (r1 < (0 : Int))) with hb2 | hb2
  · rw [ite_t hb2] at h
    try simp only [hb2, Nat.reduceBEq, Nat.reduceMul, Nat.reduceAdd, Nat.reduceDiv, Int.reduceBEq, rules2, rulesX, rowsX]
    cases h
    exact ⟨⟨rfl, trivial⟩, rfl⟩
  · rw [ite_f hb2] at h
    obtain ⟨r3, hr3, h⟩ := ob h
    try simp only [hb2, Nat.reduceBEq, Nat.reduceMul, Nat.reduceAdd, Nat.reduceDiv, Int.reduceBEq, rules2, rulesX, rowsX]
    refine go_callI (w_laws_szChart _ _ _ hr3) rfl rfl (Nat.le_of_ble_eq_true rfl) ?_
    rcases Bool.eq_false_or_eq_true (decide (r3 < (0 : Int))) with hb4 | hb4
    · rw [ite_t hb4] at h
      try simp only [hb2, hb4, Nat.reduceBEq, Nat.reduceMul, Nat.reduceAdd, Nat.reduceDiv, Int.reduceBEq, rules2, rulesX, rowsX]
      cases h
      exact ⟨⟨rfl, trivial⟩, rfl⟩
    · rw [ite_f hb4] at h
      obtain ⟨r5, hr5, h⟩ := ob h
      try simp only [hb2, hb4, Nat.reduceBEq, Nat.reduceMul, Nat.reduceAdd, Nat.reduceDiv, Int.reduceBEq, rules2, rulesX, rowsX]
      refine go_callI (w_laws_szShip _ _ _ hr5) rfl rfl (Nat.le_of_ble_eq_true rfl) ?_
      rcases Bool.eq_false_or_eq_true (decide (r5 < (0 : Int))) with hb6 | hb6
      · rw [ite_t hb6] at h
        try simp only [hb2, hb4, hb6, Nat.reduceBEq, Nat.reduceMul, Nat.reduceAdd, Nat.reduceDiv, Int.reduceBEq, rules2, rulesX, rowsX]
        cases h
        exact ⟨⟨rfl, trivial⟩, rfl⟩
      · rw [ite_f hb6] at h
        try simp only [hb2, hb4, hb6, Nat.reduceBEq, Nat.reduceMul, Nat.reduceAdd, Nat.reduceDiv, Int.reduceBEq, rules2, rulesX, rowsX]
        refine go_fr_of rfl ?_
        obtain ⟨r7, hr7, h⟩ := ob h
        try simp only [hb2, hb4, hb6, Nat.reduceBEq, Nat.reduceMul, Nat.reduceAdd, Nat.reduceDiv, Int.reduceBEq, rules2, rulesX, rowsX]
        refine go_dcallI (w_laws_toForecast _ _ hr7) rfl rfl (Nat.le_of_ble_eq_true rfl) ?_
        obtain ⟨r8, hr8, h⟩ := ob h
        try simp only [hb2, hb4, hb6, Nat.reduceBEq, Nat.reduceMul, Nat.reduceAdd, Nat.reduceDiv, Int.reduceBEq, rules2, rulesX, rowsX]
        refine go_dcallI (w_laws_toChart _ _ hr8) rfl rfl (Nat.le_of_ble_eq_true rfl) ?_
        obtain ⟨r9, hr9, h⟩ := ob h
        try simp only [hb2, hb4, hb6, Nat.reduceBEq, Nat.reduceMul, Nat.reduceAdd, Nat.reduceDiv, Int.reduceBEq, rules2, rulesX, rowsX]
        refine go_dcallI (w_laws_toShip _ _ hr9) rfl rfl (Nat.le_of_ble_eq_true rfl) ?_
        obtain ⟨r10, hr10, h⟩ := ob h
        try simp only [hb2, hb4, hb6, Nat.reduceBEq, Nat.reduceMul, Nat.reduceAdd, Nat.reduceDiv, Int.reduceBEq, rules2, rulesX, rowsX]
        refine go_dcall (w_spec_SureLines _ _ _ _ hr10) (by first | rfl | kernel_rfl) (flat_l rfl ⟨flat_o, trivial⟩) rfl (Nat.le_of_ble_eq_true rfl) ?_
        obtain ⟨r11, hr11, h⟩ := ob h
        try simp only [hb2, hb4, hb6, Nat.reduceBEq, Nat.reduceMul, Nat.reduceAdd, Nat.reduceDiv, Int.reduceBEq, rules2, rulesX, rowsX]
        refine go_callI (w_laws_toForecast _ _ hr11) rfl rfl (Nat.le_of_ble_eq_true rfl) ?_
        try simp only [hb2, hb4, hb6, Nat.reduceBEq, Nat.reduceMul, Nat.reduceAdd, Nat.reduceDiv, Int.reduceBEq, rules2, rulesX, rowsX]
        refine go_al rfl rfl ?_
        obtain ⟨r12, hr12, h⟩ := ob h
        try simp only [hb2, hb4, hb6, Nat.reduceBEq, Nat.reduceMul, Nat.reduceAdd, Nat.reduceDiv, Int.reduceBEq, rules2, rulesX, rowsX]
        refine go_callI (w_laws_toChart _ _ hr12) rfl rfl (Nat.le_of_ble_eq_true rfl) ?_
        try simp only [hb2, hb4, hb6, Nat.reduceBEq, Nat.reduceMul, Nat.reduceAdd, Nat.reduceDiv, Int.reduceBEq, rules2, rulesX, rowsX]
        refine go_al rfl rfl ?_
        try simp only [hb2, hb4, hb6, Nat.reduceBEq, Nat.reduceMul, Nat.reduceAdd, Nat.reduceDiv, Int.reduceBEq, rules2, rulesX, rowsX]
        refine go_fr_of rfl ?_
        obtain ⟨r13, hr13, h⟩ := ob h
        try simp only [hb2, hb4, hb6, Nat.reduceBEq, Nat.reduceMul, Nat.reduceAdd, Nat.reduceDiv, Int.reduceBEq, rules2, rulesX, rowsX]
        refine go_dcallI (w_laws_toShip _ _ hr13) rfl rfl (Nat.le_of_ble_eq_true rfl) ?_
        obtain ⟨r14, hr14, h⟩ := ob h
        try simp only [hb2, hb4, hb6, Nat.reduceBEq, Nat.reduceMul, Nat.reduceAdd, Nat.reduceDiv, Int.reduceBEq, rules2, rulesX, rowsX]
        refine go_dcall (w_impl_SureLines _ _ _ _ hr14) (by first | rfl | kernel_rfl) (flat_l rfl ⟨flat_o, trivial⟩) rfl (Nat.le_of_ble_eq_true rfl) ?_
        obtain ⟨r15, hr15, h⟩ := ob h
        try simp only [hb2, hb4, hb6, Nat.reduceBEq, Nat.reduceMul, Nat.reduceAdd, Nat.reduceDiv, Int.reduceBEq, rules2, rulesX, rowsX]
        refine go_call (w_laws_eqStringS _ _ _ hr15) rfl (flat_of rfl) rfl (Nat.le_of_ble_eq_true rfl) ?_
        rcases Bool.eq_false_or_eq_true r15 with hb16 | hb16
        · rw [ite_t hb16] at h
          try simp only [hb2, hb4, hb6, hb16, Nat.reduceBEq, Nat.reduceMul, Nat.reduceAdd, Nat.reduceDiv, Int.reduceBEq, rules2, rulesX, rowsX]
          refine go_fr_of rfl ?_
          obtain ⟨r17, hr17, h⟩ := ob h
          try simp only [hb2, hb4, hb6, hb16, Nat.reduceBEq, Nat.reduceMul, Nat.reduceAdd, Nat.reduceDiv, Int.reduceBEq, rules2, rulesX, rowsX]
          refine go_dcallI (w_laws_toForecast _ _ hr17) rfl rfl (Nat.le_of_ble_eq_true rfl) ?_
          obtain ⟨r18, hr18, h⟩ := ob h
          try simp only [hb2, hb4, hb6, hb16, Nat.reduceBEq, Nat.reduceMul, Nat.reduceAdd, Nat.reduceDiv, Int.reduceBEq, rules2, rulesX, rowsX]
          refine go_dcall (w_laws_eqForecast _ _ _ hr18) (by first | rfl | kernel_rfl) (flat_of rfl) rfl (Nat.le_of_ble_eq_true rfl) ?_
          rcases Bool.eq_false_or_eq_true r18 with hb19 | hb19
          · rw [ite_t hb19] at h
            try simp only [hb2, hb4, hb6, hb16, hb19, Nat.reduceBEq, Nat.reduceMul, Nat.reduceAdd, Nat.reduceDiv, Int.reduceBEq, rules2, rulesX, rowsX]
            refine go_fr_of rfl ?_
            obtain ⟨r20, hr20, h⟩ := ob h
            try simp only [hb2, hb4, hb6, hb16, hb19, Nat.reduceBEq, Nat.reduceMul, Nat.reduceAdd, Nat.reduceDiv, Int.reduceBEq, rules2, rulesX, rowsX]
            refine go_dcallI (w_laws_toChart _ _ hr20) rfl rfl (Nat.le_of_ble_eq_true rfl) ?_
            obtain ⟨r21, hr21, h⟩ := ob h
            try simp only [hb2, hb4, hb6, hb16, hb19, Nat.reduceBEq, Nat.reduceMul, Nat.reduceAdd, Nat.reduceDiv, Int.reduceBEq, rules2, rulesX, rowsX]
            refine go_dcall (w_laws_eqChart _ _ _ hr21) (by first | rfl | kernel_rfl) (flat_of rfl) rfl (Nat.le_of_ble_eq_true rfl) ?_
            rcases Bool.eq_false_or_eq_true r21 with hb22 | hb22
            · rw [ite_t hb22] at h
              obtain ⟨r23, hr23, h⟩ := ob h
              try simp only [hb2, hb4, hb6, hb16, hb19, hb22, Nat.reduceBEq, Nat.reduceMul, Nat.reduceAdd, Nat.reduceDiv, Int.reduceBEq, rules2, rulesX, rowsX]
              have lrr23 := (l_laws_markForecast _ _ _ hr23)
              refine go_callx (ids := [2497, 2498]) (w_laws_markForecast _ _ _ hr23) rfl rfl rfl (flatR_cons (flatR_cons flatR_nil)) (sameLen_cons (l_laws_markForecast _ _ _ hr23).1 (sameLen_cons (l_laws_markForecast _ _ _ hr23).2 sameLen_nil)) ?_
              obtain ⟨r24, hr24, h⟩ := ob h
              try simp only [hb2, hb4, hb6, hb16, hb19, hb22, Nat.reduceBEq, Nat.reduceMul, Nat.reduceAdd, Nat.reduceDiv, Int.reduceBEq, rules2, rulesX, rowsX]
              have lrr24 := (l_laws_markChart _ _ _ hr24)
              refine go_callx (ids := [2624, 2625]) (w_laws_markChart _ _ _ hr24) rfl rfl rfl (flatR_cons (flatR_cons flatR_nil)) (sameLen_cons (l_laws_markChart _ _ _ hr24).1 (sameLen_cons (l_laws_markChart _ _ _ hr24).2 sameLen_nil)) ?_
              rcases Bool.eq_false_or_eq_true (decide (r24.1 < (0 : Int))) with hb25 | hb25
              · rw [ite_t hb25] at h
                try simp only [hb2, hb4, hb6, hb16, hb19, hb22, hb25, Nat.reduceBEq, Nat.reduceMul, Nat.reduceAdd, Nat.reduceDiv, Int.reduceBEq, rules2, rulesX, rowsX]
                cases h
                exact ⟨⟨rfl, trivial⟩, rfl⟩
              · rw [ite_f hb25] at h
                obtain ⟨r26, hr26, h⟩ := ob h
                try simp only [hb2, hb4, hb6, hb16, hb19, hb22, hb25, Nat.reduceBEq, Nat.reduceMul, Nat.reduceAdd, Nat.reduceDiv, Int.reduceBEq, rules2, rulesX, rowsX]
                refine go_call (w_laws_eqStringS _ _ _ hr26) rfl (flat_of rfl) rfl (Nat.le_of_ble_eq_true rfl) ?_
                rcases Bool.eq_false_or_eq_true r26 with hb27 | hb27
                · rw [ite_t hb27] at h
                  obtain ⟨r28, hr28, h⟩ := ob h
                  try simp only [hb2, hb4, hb6, hb16, hb19, hb22, hb25, hb27, Nat.reduceBEq, Nat.reduceMul, Nat.reduceAdd, Nat.reduceDiv, Int.reduceBEq, rules2, rulesX, rowsX]
                  have lrr28 := (l_laws_markStringS _ _ _ hr28)
                  refine go_callx (ids := [2944]) (w_laws_markStringS _ _ _ hr28) rfl rfl rfl (flatR_cons flatR_nil) (sameLen_cons (l_laws_markStringS _ _ _ hr28) sameLen_nil) ?_
                  obtain ⟨r29, hr29, h⟩ := ob h
                  try simp only [hb2, hb4, hb6, hb16, hb19, hb22, hb25, hb27, Nat.reduceBEq, Nat.reduceMul, Nat.reduceAdd, Nat.reduceDiv, Int.reduceBEq, rules2, rulesX, rowsX]
                  refine go_call (w_laws_heldStringS _ _ _ hr29) rfl (flat_of rfl) rfl (Nat.le_of_ble_eq_true rfl) ?_
                  rcases Bool.eq_false_or_eq_true (decide (r29 < (0 : Int))) with hb30 | hb30
                  · rw [ite_t hb30] at h
                    try simp only [hb2, hb4, hb6, hb16, hb19, hb22, hb25, hb27, hb30, Nat.reduceBEq, Nat.reduceMul, Nat.reduceAdd, Nat.reduceDiv, Int.reduceBEq, rules2, rulesX, rowsX]
                    cases h
                    exact ⟨⟨rfl, trivial⟩, rfl⟩
                  · rw [ite_f hb30] at h
                    rcases Bool.eq_false_or_eq_true (r29 != r28.1) with hb31 | hb31
                    · rw [ite_t hb31] at h
                      try simp only [hb2, hb4, hb6, hb16, hb19, hb22, hb25, hb27, hb30, hb31, Nat.reduceBEq, Nat.reduceMul, Nat.reduceAdd, Nat.reduceDiv, Int.reduceBEq, rules2, rulesX, rowsX]
                      cases h
                      exact ⟨⟨rfl, trivial⟩, rfl⟩
                    · rw [ite_f hb31] at h
                      try simp only [hb2, hb4, hb6, hb16, hb19, hb22, hb25, hb27, hb30, hb31, Nat.reduceBEq, Nat.reduceMul, Nat.reduceAdd, Nat.reduceDiv, Int.reduceBEq, rules2, rulesX, rowsX]
                      refine go_fr_of rfl ?_
                      obtain ⟨r32, hr32, h⟩ := ob h
                      try simp only [hb2, hb4, hb6, hb16, hb19, hb22, hb25, hb27, hb30, hb31, Nat.reduceBEq, Nat.reduceMul, Nat.reduceAdd, Nat.reduceDiv, Int.reduceBEq, rules2, rulesX, rowsX]
                      refine go_dcallI (w_laws_toForecast _ _ hr32) rfl rfl (Nat.le_of_ble_eq_true rfl) ?_
                      obtain ⟨r33, hr33, h⟩ := ob h
                      try simp only [hb2, hb4, hb6, hb16, hb19, hb22, hb25, hb27, hb30, hb31, Nat.reduceBEq, Nat.reduceMul, Nat.reduceAdd, Nat.reduceDiv, Int.reduceBEq, rules2, rulesX, rowsX]
                      refine go_dcallI (w_laws_toChart _ _ hr33) rfl rfl (Nat.le_of_ble_eq_true rfl) ?_
                      obtain ⟨r34, hr34, h⟩ := ob h
                      try simp only [hb2, hb4, hb6, hb16, hb19, hb22, hb25, hb27, hb30, hb31, Nat.reduceBEq, Nat.reduceMul, Nat.reduceAdd, Nat.reduceDiv, Int.reduceBEq, rules2, rulesX, rowsX]
                      refine go_dcallI (w_laws_toShip _ _ hr34) rfl rfl (Nat.le_of_ble_eq_true rfl) ?_
                      obtain ⟨r35, hr35, h⟩ := ob h
                      try simp only [hb2, hb4, hb6, hb16, hb19, hb22, hb25, hb27, hb30, hb31, Nat.reduceBEq, Nat.reduceMul, Nat.reduceAdd, Nat.reduceDiv, Int.reduceBEq, rules2, rulesX, rowsX]
                      refine go_dcall (w_impl_SureLines _ _ _ _ hr35) (by first | rfl | kernel_rfl) (flat_l rfl ⟨flat_o, trivial⟩) rfl (Nat.le_of_ble_eq_true rfl) ?_
                      obtain ⟨r36, hr36, h⟩ := ob h
                      try simp only [hb2, hb4, hb6, hb16, hb19, hb22, hb25, hb27, hb30, hb31, Nat.reduceBEq, Nat.reduceMul, Nat.reduceAdd, Nat.reduceDiv, Int.reduceBEq, rules2, rulesX, rowsX]
                      refine go_call (w_laws_eqStringS _ _ _ hr36) rfl (flat_of rfl) rfl (Nat.le_of_ble_eq_true rfl) ?_
                      rcases Bool.eq_false_or_eq_true r36 with hb37 | hb37
                      · rw [ite_t hb37] at h
                        obtain ⟨r38, hr38, h⟩ := ob h
                        try simp only [hb2, hb4, hb6, hb16, hb19, hb22, hb25, hb27, hb30, hb31, hb37, Nat.reduceBEq, Nat.reduceMul, Nat.reduceAdd, Nat.reduceDiv, Int.reduceBEq, rules2, rulesX, rowsX]
                        refine go_call (w_laws_heldStringS _ _ _ hr38) rfl (flat_of rfl) rfl (Nat.le_of_ble_eq_true rfl) ?_
                        rcases Bool.eq_false_or_eq_true (decide (r38 < (0 : Int))) with hb39 | hb39
                        · rw [ite_t hb39] at h
                          try simp only [hb2, hb4, hb6, hb16, hb19, hb22, hb25, hb27, hb30, hb31, hb37, hb39, Nat.reduceBEq, Nat.reduceMul, Nat.reduceAdd, Nat.reduceDiv, Int.reduceBEq, rules2, rulesX, rowsX]
                          cases h
                          exact ⟨⟨rfl, trivial⟩, rfl⟩
                        · rw [ite_f hb39] at h
                          rcases Bool.eq_false_or_eq_true (r38 != r28.1) with hb40 | hb40
                          · rw [ite_t hb40] at h
                            try simp only [hb2, hb4, hb6, hb16, hb19, hb22, hb25, hb27, hb30, hb31, hb37, hb39, hb40, Nat.reduceBEq, Nat.reduceMul, Nat.reduceAdd, Nat.reduceDiv, Int.reduceBEq, rules2, rulesX, rowsX]
                            cases h
                            exact ⟨⟨rfl, trivial⟩, rfl⟩
                          · rw [ite_f hb40] at h
                            try simp only [hb2, hb4, hb6, hb16, hb19, hb22, hb25, hb27, hb30, hb31, hb37, hb39, hb40, Nat.reduceBEq, Nat.reduceMul, Nat.reduceAdd, Nat.reduceDiv, Int.reduceBEq, rules2, rulesX, rowsX]
                            cases h
                            exact ⟨⟨rfl, trivial⟩, rfl⟩
                      · rw [ite_f hb37] at h
                        try simp only [hb2, hb4, hb6, hb16, hb19, hb22, hb25, hb27, hb30, hb31, hb37, Nat.reduceBEq, Nat.reduceMul, Nat.reduceAdd, Nat.reduceDiv, Int.reduceBEq, rules2, rulesX, rowsX]
                        cases h
                        exact ⟨⟨rfl, trivial⟩, rfl⟩
                · rw [ite_f hb27] at h
                  try simp only [hb2, hb4, hb6, hb16, hb19, hb22, hb25, hb27, Nat.reduceBEq, Nat.reduceMul, Nat.reduceAdd, Nat.reduceDiv, Int.reduceBEq, rules2, rulesX, rowsX]
                  cases h
                  exact ⟨⟨rfl, trivial⟩, rfl⟩
            · rw [ite_f hb22] at h
              try simp only [hb2, hb4, hb6, hb16, hb19, hb22, Nat.reduceBEq, Nat.reduceMul, Nat.reduceAdd, Nat.reduceDiv, Int.reduceBEq, rules2, rulesX, rowsX]
              cases h
              exact ⟨⟨rfl, trivial⟩, rfl⟩
          · rw [ite_f hb19] at h
            try simp only [hb2, hb4, hb6, hb16, hb19, Nat.reduceBEq, Nat.reduceMul, Nat.reduceAdd, Nat.reduceDiv, Int.reduceBEq, rules2, rulesX, rowsX]
            cases h
            exact ⟨⟨rfl, trivial⟩, rfl⟩
        · rw [ite_f hb16] at h
          try simp only [hb2, hb4, hb6, hb16, Nat.reduceBEq, Nat.reduceMul, Nat.reduceAdd, Nat.reduceDiv, Int.reduceBEq, rules2, rulesX, rowsX]
          cases h
          exact ⟨⟨rfl, trivial⟩, rfl⟩
end Go.Vi
