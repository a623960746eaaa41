/-
  Walks: what the plain definitions compute is what the functions return. By program. No condition.
-/
import Derived.Test.YtlnbbhaclhpjjaaNf
import Derived.Test.YtlnbbhaclhpjjaaChecked
import Derived.KernelRfl
namespace Go.Vi
open Go.Proofs
set_option linter.unusedSimpArgs false
set_option linter.unusedVariables false
attribute [local irreducible] go AWP
theorem mixed : Try.prog.follows .mixedOrders = true := by kernel_rfl
/- 57: laws_szPartS -/
def c_laws_szPartS : ACode := (.seq (.reg [(none, .mv 4 (K 0))]) (.seq (.reg [(none, .mv 5 (S 1)), (none, .mv 6 (S 0)), (none, .len 7 (S 6)), (none, .bin 8 .sub (S 5) (S 7)), (none, .mv 1 (S 8))]) (.seq (.seq (.reg [(none, .mv 9 (S 1)), (none, .bin 10 .lss (S 9) (K 0))]) (.cond (S 10) (.seq (.reg [(none, .mv 4 (K (-1)))]) .ret) .skip)) (.seq (.reg [(none, .mv 11 (S 1)), (none, .mv 4 (S 11))]) .ret))))
theorem e_laws_szPartS : entry Try.prog 57 = some (c_laws_szPartS.strip, [4], 12) := by kernel_rfl
theorem w_laws_szPartS (a0 : List XPart) (a1 : Int) (r : Int) (h : f_laws_szPartS a0 a1 = some r) : FC Try.prog 57 [.sc (.sl (List.map XPart.row a0)), .sc (.int .i64 a1)] [.sc (.v (.int .i64 r))] := by
  unfold f_laws_szPartS at h
  refine FC_go (σ := ⟨[(0, vc (aL (List.map XPart.row a0))), (1, vc (aI a1))], [], []⟩) mixed e_laws_szPartS rfl rfl ?_
  simp only [c_laws_szPartS]
  rcases Bool.eq_false_or_eq_true (decide ((IntKind.i64.wrap (a1 - (a0.length : Int))) < (0 : Int))) with hb1 | hb1
  · rw [ite_t hb1] at h
    try simp only [hb1, Nat.reduceBEq, Nat.reduceMul, Nat.reduceAdd, Nat.reduceDiv, Int.reduceBEq, rules2, rowsX]
    cases h
    exact ⟨⟨rfl, trivial⟩, rfl⟩
  · rw [ite_f hb1] at h
    try simp only [hb1, Nat.reduceBEq, Nat.reduceMul, Nat.reduceAdd, Nat.reduceDiv, Int.reduceBEq, rules2, rowsX]
    cases h
    exact ⟨⟨rfl, trivial⟩, rfl⟩
/- 32: laws_szTide -/
def c_laws_szTide : ACode := (.seq (.reg [(none, .box 2 (S 0)), (none, .mv 4 (K 0))]) (.seq (.reg [(none, .faddr 5 (S 2) 1), (none, .load 6 (S 5) false 1), (none, .mv 7 (S 1)), (none, .call 8 57 [(S 6), (S 7)]), (none, .mv 1 (S 8))]) (.seq (.seq (.reg [(none, .mv 9 (S 1)), (none, .bin 10 .lss (S 9) (K 0))]) (.cond (S 10) (.seq (.reg [(none, .mv 4 (K (-1)))]) .ret) .skip)) (.seq (.reg [(none, .mv 11 (S 1)), (none, .mv 4 (S 11))]) .ret))))
theorem e_laws_szTide : entry Try.prog 32 = some (c_laws_szTide.strip, [4], 12) := by kernel_rfl
theorem w_laws_szTide (a0 : XTide) (a1 : Int) (r : Int) (h : f_laws_szTide a0 a1 = some r) : FC Try.prog 32 [.ag (XTide.row a0), .sc (.int .i64 a1)] [.sc (.v (.int .i64 r))] := by
  unfold f_laws_szTide at h
  refine FC_go (σ := ⟨[(0, va [aI a0.Mean, aL (List.map XPart.row a0.Parts)]), (1, vc (aI a1))], [], []⟩) mixed e_laws_szTide rfl rfl ?_
  simp only [c_laws_szTide]
  try simp only [Nat.reduceBEq, Nat.reduceMul, Nat.reduceAdd, Nat.reduceDiv, Int.reduceBEq, rules2, rowsX]
  refine go_bx rfl rfl rfl ?_
  obtain ⟨r1, hr1, h⟩ := ob h
  try simp only [Nat.reduceBEq, Nat.reduceMul, Nat.reduceAdd, Nat.reduceDiv, Int.reduceBEq, rules2, rowsX]
  refine go_callI (w_laws_szPartS _ _ _ hr1) rfl rfl (Nat.le_of_ble_eq_true rfl) ?_
  rcases Bool.eq_false_or_eq_true (decide (r1 < (0 : Int))) with hb2 | hb2
  · rw [ite_t hb2] at h
    try simp only [hb2, Nat.reduceBEq, Nat.reduceMul, Nat.reduceAdd, Nat.reduceDiv, Int.reduceBEq, rules2, rowsX]
    cases h
    exact ⟨⟨rfl, trivial⟩, rfl⟩
  · rw [ite_f hb2] at h
    try simp only [hb2, Nat.reduceBEq, Nat.reduceMul, Nat.reduceAdd, Nat.reduceDiv, Int.reduceBEq, rules2, rowsX]
    cases h
    exact ⟨⟨rfl, trivial⟩, rfl⟩
/- 33: laws_szSurgeS -/
def c_laws_szSurgeS : ACode := (.seq (.reg [(none, .mv 4 (K 0))]) (.seq (.reg [(none, .mv 5 (S 1)), (none, .mv 6 (S 0)), (none, .len 7 (S 6)), (none, .bin 8 .sub (S 5) (S 7)), (none, .mv 1 (S 8))]) (.seq (.seq (.reg [(none, .mv 9 (S 1)), (none, .bin 10 .lss (S 9) (K 0))]) (.cond (S 10) (.seq (.reg [(none, .mv 4 (K (-1)))]) .ret) .skip)) (.seq (.reg [(none, .mv 11 (S 1)), (none, .mv 4 (S 11))]) .ret))))
theorem e_laws_szSurgeS : entry Try.prog 33 = some (c_laws_szSurgeS.strip, [4], 12) := by kernel_rfl
theorem w_laws_szSurgeS (a0 : List XSurge) (a1 : Int) (r : Int) (h : f_laws_szSurgeS a0 a1 = some r) : FC Try.prog 33 [.sc (.sl (List.map XSurge.row a0)), .sc (.int .i64 a1)] [.sc (.v (.int .i64 r))] := by
  unfold f_laws_szSurgeS at h
  refine FC_go (σ := ⟨[(0, vc (aL (List.map XSurge.row a0))), (1, vc (aI a1))], [], []⟩) mixed e_laws_szSurgeS rfl rfl ?_
  simp only [c_laws_szSurgeS]
  rcases Bool.eq_false_or_eq_true (decide ((IntKind.i64.wrap (a1 - (a0.length : Int))) < (0 : Int))) with hb1 | hb1
  · rw [ite_t hb1] at h
    try simp only [hb1, Nat.reduceBEq, Nat.reduceMul, Nat.reduceAdd, Nat.reduceDiv, Int.reduceBEq, rules2, rowsX]
    cases h
    exact ⟨⟨rfl, trivial⟩, rfl⟩
  · rw [ite_f hb1] at h
    try simp only [hb1, Nat.reduceBEq, Nat.reduceMul, Nat.reduceAdd, Nat.reduceDiv, Int.reduceBEq, rules2, rowsX]
    cases h
    exact ⟨⟨rfl, trivial⟩, rfl⟩
/- 13: laws_szForecast -/
def c_laws_szForecast : ACode := (.seq (.reg [(none, .box 2 (S 0)), (none, .mv 4 (K 0))]) (.seq (.reg [(none, .faddr 5 (S 2) 0), (none, .load 6 (S 5) true 2), (none, .mv 7 (S 1)), (none, .call 8 32 [(S 6), (S 7)]), (none, .mv 1 (S 8))]) (.seq (.seq (.reg [(none, .mv 9 (S 1)), (none, .bin 10 .lss (S 9) (K 0))]) (.cond (S 10) (.seq (.reg [(none, .mv 4 (K (-1)))]) .ret) .skip)) (.seq (.reg [(none, .faddr 11 (S 2) 2), (none, .load 12 (S 11) false 1), (none, .mv 13 (S 1)), (none, .call 14 33 [(S 12), (S 13)]), (none, .mv 1 (S 14))]) (.seq (.seq (.reg [(none, .mv 15 (S 1)), (none, .bin 16 .lss (S 15) (K 0))]) (.cond (S 16) (.seq (.reg [(none, .mv 4 (K (-1)))]) .ret) .skip)) (.seq (.reg [(none, .mv 17 (S 1)), (none, .mv 4 (S 17))]) .ret))))))
theorem e_laws_szForecast : entry Try.prog 13 = some (c_laws_szForecast.strip, [4], 18) := by kernel_rfl
theorem w_laws_szForecast (a0 : XForecast) (a1 : Int) (r : Int) (h : f_laws_szForecast a0 a1 = some r) : FC Try.prog 13 [.ag (XForecast.row a0), .sc (.int .i64 a1)] [.sc (.v (.int .i64 r))] := by
  unfold f_laws_szForecast at h
  refine FC_go (σ := ⟨[(0, va [aI a0.Tide.Mean, aL (List.map XPart.row a0.Tide.Parts), aL (List.map XSurge.row a0.Surges)]), (1, vc (aI a1))], [], []⟩) mixed e_laws_szForecast rfl rfl ?_
  simp only [c_laws_szForecast]
  try simp only [Nat.reduceBEq, Nat.reduceMul, Nat.reduceAdd, Nat.reduceDiv, Int.reduceBEq, rules2, rowsX]
  refine go_bx rfl rfl rfl ?_
  obtain ⟨r1, hr1, h⟩ := ob h
  try simp only [Nat.reduceBEq, Nat.reduceMul, Nat.reduceAdd, Nat.reduceDiv, Int.reduceBEq, rules2, rowsX]
  refine go_callI (w_laws_szTide _ _ _ hr1) rfl rfl (Nat.le_of_ble_eq_true rfl) ?_
  rcases Bool.eq_false_or_eq_true (decide (r1 < (0 : Int))) with hb2 | hb2
  · rw [ite_t hb2] at h
    try simp only [hb2, Nat.reduceBEq, Nat.reduceMul, Nat.reduceAdd, Nat.reduceDiv, Int.reduceBEq, rules2, rowsX]
    cases h
    exact ⟨⟨rfl, trivial⟩, rfl⟩
  · rw [ite_f hb2] at h
    obtain ⟨r3, hr3, h⟩ := ob h
    try simp only [hb2, Nat.reduceBEq, Nat.reduceMul, Nat.reduceAdd, Nat.reduceDiv, Int.reduceBEq, rules2, rowsX]
    refine go_callI (w_laws_szSurgeS _ _ _ hr3) rfl rfl (Nat.le_of_ble_eq_true rfl) ?_
    rcases Bool.eq_false_or_eq_true (decide (r3 < (0 : Int))) with hb4 | hb4
    · rw [ite_t hb4] at h
      try simp only [hb2, hb4, Nat.reduceBEq, Nat.reduceMul, Nat.reduceAdd, Nat.reduceDiv, Int.reduceBEq, rules2, rowsX]
      cases h
      exact ⟨⟨rfl, trivial⟩, rfl⟩
    · rw [ite_f hb4] at h
      try simp only [hb2, hb4, Nat.reduceBEq, Nat.reduceMul, Nat.reduceAdd, Nat.reduceDiv, Int.reduceBEq, rules2, rowsX]
      cases h
      exact ⟨⟨rfl, trivial⟩, rfl⟩
/- 73: laws_toPart -/
def c_laws_toPart : ACode := (.seq (.reg [(none, .box 1 (S 0)), (none, .alloc 2 [aI 0, aI 0, aI 0])]) (.seq (.reg [(none, .alloc 3 [aI 0, aI 0, aI 0])]) (.seq (.reg [(none, .faddr 4 (S 1) 0), (none, .load 5 (S 4) false 1), (none, .faddr 6 (S 3) 0), (none, .store (S 6) (S 5) 1)]) (.seq (.reg [(none, .faddr 7 (S 1) 1), (none, .load 8 (S 7) false 1), (none, .faddr 9 (S 3) 1), (none, .store (S 9) (S 8) 1)]) (.seq (.reg [(none, .faddr 10 (S 1) 2), (none, .load 11 (S 10) false 1), (none, .faddr 12 (S 3) 2), (none, .store (S 12) (S 11) 1)]) (.seq (.reg [(none, .load 13 (S 3) true 3), (none, .store (S 2) (S 13) 3)]) .ret))))))
theorem e_laws_toPart : entry Try.prog 73 = some (c_laws_toPart.strip, [.c 2 true 3], 14) := by kernel_rfl
theorem w_laws_toPart (a0 : XPart) (r : XPart) (h : f_laws_toPart a0 = some r) : FC Try.prog 73 [.ag (XPart.row a0)] [.ag [.v (.int .i64 r.Amp), .v (.int .i64 r.Period), .v (.int .i64 r.Phase)]] := by
  unfold f_laws_toPart at h
  refine FC_go (σ := ⟨[(0, va [aI a0.Amp, aI a0.Period, aI a0.Phase])], [], []⟩) mixed e_laws_toPart rfl rfl ?_
  simp only [c_laws_toPart]
  try simp only [Nat.reduceBEq, Nat.reduceMul, Nat.reduceAdd, Nat.reduceDiv, Int.reduceBEq, rules2, rowsX]
  refine go_bx rfl rfl rfl ?_
  try simp only [Nat.reduceBEq, Nat.reduceMul, Nat.reduceAdd, Nat.reduceDiv, Int.reduceBEq, rules2, rowsX]
  refine go_al rfl rfl ?_
  try simp only [Nat.reduceBEq, Nat.reduceMul, Nat.reduceAdd, Nat.reduceDiv, Int.reduceBEq, rules2, rowsX]
  refine go_al rfl rfl ?_
  try simp only [Nat.reduceBEq, Nat.reduceMul, Nat.reduceAdd, Nat.reduceDiv, Int.reduceBEq, rules2, rowsX]
  cases h
  try simp only [rulesR, Nat.reduceBEq, Nat.reduceMul, Nat.reduceAdd, Nat.reduceDiv, Int.reduceBEq, rules2, rowsX]
  exact ⟨⟨⟨rfl, rfl, rfl, trivial⟩, trivial⟩, rfl⟩
/- 62: laws_toPartS -/
def c_laws_toPartS_1 : ACode := .seq (.reg [(none, .keep [0, 3, 4] [] [448])]) (.seq (.seq (.reg [(none, .mv 8 (S 4)), (none, .mv 9 (S 0)), (none, .len 10 (S 9)), (none, .bin 11 .lss (S 8) (S 10))]) (.cond (S 11) .skip (.exit 0))) (.seq (.block 1 (.reg [(none, .mv 14 (S 3)), (none, .mv 15 (S 4)), (none, .mv 16 (S 0)), (none, .mv 17 (S 4)), (none, .iaddr 18 (S 16) (S 17) 3), (none, .load 19 (S 18) true 3), (none, .call 20 73 [(S 19)]), (none, .iaddr 21 (S 14) (S 15) 3), (none, .store (S 21) (S 20) 3)])) (.reg [(none, .mv 12 (S 4)), (none, .bin 13 .add (S 12) (K 1)), (none, .mv 4 (S 13))])))
def c_laws_toPartS_n1 : ACode := (.seq (.reg [(none, .mv 22 (S 3)), (none, .mv 2 (S 22))]) .ret)
def c_laws_toPartS : ACode := (.seq (.reg [(none, .mv 2 KN)]) (.seq (.reg [(none, .mv 5 (S 0)), (none, .len 6 (S 5)), (none, .mksl 7 3 24 [.int .i64 0, .int .i64 0, .int .i64 0] (S 6) (S 6)), (none, .mv 3 (S 7))]) (.seq (.seq (.reg [(none, .mv 4 (K 0))]) (.block 0 (.loop c_laws_toPartS_1))) c_laws_toPartS_n1)))
theorem w_laws_toPartS_1 (a0 : List XPart) : ∀ (n : Nat) (v2 : Int) (v3 : List XPart) (r : (List XPart)), f_laws_toPartS_1 a0 n v2 v3 = some r → ∀ σ : St, σ.kept [0, 3, 4] [] [448] = ⟨[(0, vc (aL (List.map XPart.row a0))), (3, vc (.own 448)), (4, vc (aI v2))], [], [(448, 3, List.map XPart.row v3)]⟩ → go Try.prog (.code (.loop c_laws_toPartS_1) :: [.blk 0, .code c_laws_toPartS_n1]) (Ret [2] [.sc (.o 3 (List.map XPart.row r))]) .normal (some σ) := by
  intro n
  induction n with
  | zero => intro _ _ r h; cases h
  | succ n ih =>
    intro v2 v3 r h σ hσ
    rw [f_laws_toPartS_1] at h
    refine go_round ?_
    rcases Bool.eq_false_or_eq_true (decide (v2 < (a0.length : Int))) with hb4 | hb4
    · rw [ite_t hb4] at h
      obtain ⟨x5, hx5, h⟩ := ob h
      obtain ⟨r6, hr6, h⟩ := ob h
      try simp only [hσ, hb4, hx5, c_laws_toPartS_1, Nat.reduceBEq, Nat.reduceMul, Nat.reduceAdd, Nat.reduceDiv, Int.reduceBEq, rules2, rowsX]
      refine go_callI (w_laws_toPart _ _ hr6) rfl rfl (Nat.le_of_ble_eq_true rfl) ?_
      obtain ⟨x7, hx7, h⟩ := ob h
      have hx7n := ix_get hx7
      try simp only [hb4, hx5, hx7, Nat.reduceBEq, Nat.reduceMul, Nat.reduceAdd, Nat.reduceDiv, Int.reduceBEq, rules2, rowsX]
      refine go_stp (y := r6) rfl rfl hx7n rfl rfl rfl ?_
      try simp only [hb4, hx5, hx7, Nat.reduceBEq, Nat.reduceMul, Nat.reduceAdd, Nat.reduceDiv, Int.reduceBEq, rules2, rowsX]
      refine ih _ _ _ h _ ?_
      try simp only [hb4, hx5, hx7, Nat.reduceBEq, Nat.reduceMul, Nat.reduceAdd, Nat.reduceDiv, Int.reduceBEq, rules2, rowsX, List.map_nil]
    · rw [ite_f hb4] at h
      try simp only [hσ, hb4, c_laws_toPartS_1, c_laws_toPartS_n1, Nat.reduceBEq, Nat.reduceMul, Nat.reduceAdd, Nat.reduceDiv, Int.reduceBEq, rules2, rowsX]
      cases h
      exact ⟨⟨rfl, trivial⟩, rfl⟩
theorem e_laws_toPartS : entry Try.prog 62 = some (c_laws_toPartS.strip, [2], 23) := by kernel_rfl
theorem w_laws_toPartS (a0 : List XPart) (r : (List XPart)) (h : f_laws_toPartS a0 = some r) : FC Try.prog 62 [.sc (.sl (List.map XPart.row a0))] [.sc (.o 3 (List.map XPart.row r))] := by
  unfold f_laws_toPartS at h
  refine FC_go (σ := ⟨[(0, vc (aL (List.map XPart.row a0)))], [], []⟩) mixed e_laws_toPartS rfl rfl ?_
  simp only [c_laws_toPartS]
  obtain ⟨n1, hn1, h⟩ := ob h
  try simp only [Nat.reduceBEq, Nat.reduceMul, Nat.reduceAdd, Nat.reduceDiv, Int.reduceBEq, rules2, rowsX]
  refine go_mks (es := List.map XPart.row (List.replicate n1 (⟨(0 : Int), (0 : Int), (0 : Int)⟩ : XPart))) rfl rfl hn1 rfl (rep_map rfl) rfl ?_
  try simp only [Nat.reduceBEq, Nat.reduceMul, Nat.reduceAdd, Nat.reduceDiv, Int.reduceBEq, rules2, rowsX]
  refine w_laws_toPartS_1 _ _ _ _ _ h _ ?_
  try simp only [Nat.reduceBEq, Nat.reduceMul, Nat.reduceAdd, Nat.reduceDiv, Int.reduceBEq, rules2, rowsX, List.map_nil]
/- 37: laws_toTide -/
def c_laws_toTide : ACode := (.seq (.reg [(none, .box 1 (S 0)), (none, .alloc 2 [aI 0, .nil])]) (.seq (.reg [(none, .alloc 3 [aI 0, .nil])]) (.seq (.reg [(none, .faddr 4 (S 1) 0), (none, .load 5 (S 4) false 1), (none, .faddr 6 (S 3) 0), (none, .store (S 6) (S 5) 1)]) (.seq (.reg [(none, .faddr 7 (S 1) 1), (none, .load 8 (S 7) false 1), (none, .call 9 62 [(S 8)]), (none, .faddr 10 (S 3) 1), (none, .store (S 10) (S 9) 1)]) (.seq (.reg [(none, .load 11 (S 3) true 2), (none, .store (S 2) (S 11) 2)]) .ret)))))
theorem e_laws_toTide : entry Try.prog 37 = some (c_laws_toTide.strip, [.c 2 true 2], 12) := by kernel_rfl
theorem w_laws_toTide (a0 : XTide) (r : XTide) (h : f_laws_toTide a0 = some r) : FC Try.prog 37 [.ag (XTide.row a0)] [.ag [.v (.int .i64 r.Mean), .o 3 (List.map XPart.row r.Parts)]] := by
  unfold f_laws_toTide at h
  refine FC_go (σ := ⟨[(0, va [aI a0.Mean, aL (List.map XPart.row a0.Parts)])], [], []⟩) mixed e_laws_toTide rfl rfl ?_
  simp only [c_laws_toTide]
  try simp only [Nat.reduceBEq, Nat.reduceMul, Nat.reduceAdd, Nat.reduceDiv, Int.reduceBEq, rules2, rowsX]
  refine go_bx rfl rfl rfl ?_
  try simp only [Nat.reduceBEq, Nat.reduceMul, Nat.reduceAdd, Nat.reduceDiv, Int.reduceBEq, rules2, rowsX]
  refine go_al rfl rfl ?_
  try simp only [Nat.reduceBEq, Nat.reduceMul, Nat.reduceAdd, Nat.reduceDiv, Int.reduceBEq, rules2, rowsX]
  refine go_al rfl rfl ?_
  obtain ⟨r1, hr1, h⟩ := ob h
  try simp only [Nat.reduceBEq, Nat.reduceMul, Nat.reduceAdd, Nat.reduceDiv, Int.reduceBEq, rules2, rowsX]
  refine go_callI (w_laws_toPartS _ _ hr1) rfl rfl (Nat.le_of_ble_eq_true rfl) ?_
  try simp only [Nat.reduceBEq, Nat.reduceMul, Nat.reduceAdd, Nat.reduceDiv, Int.reduceBEq, rules2, rowsX]
  cases h
  try simp only [rulesR, Nat.reduceBEq, Nat.reduceMul, Nat.reduceAdd, Nat.reduceDiv, Int.reduceBEq, rules2, rowsX]
  exact ⟨⟨⟨rfl, rfl, trivial⟩, trivial⟩, rfl⟩
/- 63: laws_toSurge -/
def c_laws_toSurge : ACode := (.seq (.reg [(none, .box 1 (S 0)), (none, .alloc 2 [aI 0, aI 0, aI 0])]) (.seq (.reg [(none, .alloc 3 [aI 0, aI 0, aI 0])]) (.seq (.reg [(none, .faddr 4 (S 1) 0), (none, .load 5 (S 4) false 1), (none, .faddr 6 (S 3) 0), (none, .store (S 6) (S 5) 1)]) (.seq (.reg [(none, .faddr 7 (S 1) 1), (none, .load 8 (S 7) false 1), (none, .faddr 9 (S 3) 1), (none, .store (S 9) (S 8) 1)]) (.seq (.reg [(none, .faddr 10 (S 1) 2), (none, .load 11 (S 10) false 1), (none, .faddr 12 (S 3) 2), (none, .store (S 12) (S 11) 1)]) (.seq (.reg [(none, .load 13 (S 3) true 3), (none, .store (S 2) (S 13) 3)]) .ret))))))
theorem e_laws_toSurge : entry Try.prog 63 = some (c_laws_toSurge.strip, [.c 2 true 3], 14) := by kernel_rfl
theorem w_laws_toSurge (a0 : XSurge) (r : XSurge) (h : f_laws_toSurge a0 = some r) : FC Try.prog 63 [.ag (XSurge.row a0)] [.ag [.v (.int .i64 r.From), .v (.int .i64 r.Low), .v (.int .i64 r.High)]] := by
  unfold f_laws_toSurge at h
  refine FC_go (σ := ⟨[(0, va [aI a0.From, aI a0.Low, aI a0.High])], [], []⟩) mixed e_laws_toSurge rfl rfl ?_
  simp only [c_laws_toSurge]
  try simp only [Nat.reduceBEq, Nat.reduceMul, Nat.reduceAdd, Nat.reduceDiv, Int.reduceBEq, rules2, rowsX]
  refine go_bx rfl rfl rfl ?_
  try simp only [Nat.reduceBEq, Nat.reduceMul, Nat.reduceAdd, Nat.reduceDiv, Int.reduceBEq, rules2, rowsX]
  refine go_al rfl rfl ?_
  try simp only [Nat.reduceBEq, Nat.reduceMul, Nat.reduceAdd, Nat.reduceDiv, Int.reduceBEq, rules2, rowsX]
  refine go_al rfl rfl ?_
  try simp only [Nat.reduceBEq, Nat.reduceMul, Nat.reduceAdd, Nat.reduceDiv, Int.reduceBEq, rules2, rowsX]
  cases h
  try simp only [rulesR, Nat.reduceBEq, Nat.reduceMul, Nat.reduceAdd, Nat.reduceDiv, Int.reduceBEq, rules2, rowsX]
  exact ⟨⟨⟨rfl, rfl, rfl, trivial⟩, trivial⟩, rfl⟩
/- 38: laws_toSurgeS -/
def c_laws_toSurgeS_1 : ACode := .seq (.reg [(none, .keep [0, 3, 4] [] [448])]) (.seq (.seq (.reg [(none, .mv 8 (S 4)), (none, .mv 9 (S 0)), (none, .len 10 (S 9)), (none, .bin 11 .lss (S 8) (S 10))]) (.cond (S 11) .skip (.exit 0))) (.seq (.block 1 (.reg [(none, .mv 14 (S 3)), (none, .mv 15 (S 4)), (none, .mv 16 (S 0)), (none, .mv 17 (S 4)), (none, .iaddr 18 (S 16) (S 17) 3), (none, .load 19 (S 18) true 3), (none, .call 20 63 [(S 19)]), (none, .iaddr 21 (S 14) (S 15) 3), (none, .store (S 21) (S 20) 3)])) (.reg [(none, .mv 12 (S 4)), (none, .bin 13 .add (S 12) (K 1)), (none, .mv 4 (S 13))])))
def c_laws_toSurgeS_n1 : ACode := (.seq (.reg [(none, .mv 22 (S 3)), (none, .mv 2 (S 22))]) .ret)
def c_laws_toSurgeS : ACode := (.seq (.reg [(none, .mv 2 KN)]) (.seq (.reg [(none, .mv 5 (S 0)), (none, .len 6 (S 5)), (none, .mksl 7 3 24 [.int .i64 0, .int .i64 0, .int .i64 0] (S 6) (S 6)), (none, .mv 3 (S 7))]) (.seq (.seq (.reg [(none, .mv 4 (K 0))]) (.block 0 (.loop c_laws_toSurgeS_1))) c_laws_toSurgeS_n1)))
theorem w_laws_toSurgeS_1 (a0 : List XSurge) : ∀ (n : Nat) (v2 : Int) (v3 : List XSurge) (r : (List XSurge)), f_laws_toSurgeS_1 a0 n v2 v3 = some r → ∀ σ : St, σ.kept [0, 3, 4] [] [448] = ⟨[(0, vc (aL (List.map XSurge.row a0))), (3, vc (.own 448)), (4, vc (aI v2))], [], [(448, 3, List.map XSurge.row v3)]⟩ → go Try.prog (.code (.loop c_laws_toSurgeS_1) :: [.blk 0, .code c_laws_toSurgeS_n1]) (Ret [2] [.sc (.o 3 (List.map XSurge.row r))]) .normal (some σ) := by
  intro n
  induction n with
  | zero => intro _ _ r h; cases h
  | succ n ih =>
    intro v2 v3 r h σ hσ
    rw [f_laws_toSurgeS_1] at h
    refine go_round ?_
    rcases Bool.eq_false_or_eq_true (decide (v2 < (a0.length : Int))) with hb4 | hb4
    · rw [ite_t hb4] at h
      obtain ⟨x5, hx5, h⟩ := ob h
      obtain ⟨r6, hr6, h⟩ := ob h
      try simp only [hσ, hb4, hx5, c_laws_toSurgeS_1, Nat.reduceBEq, Nat.reduceMul, Nat.reduceAdd, Nat.reduceDiv, Int.reduceBEq, rules2, rowsX]
      refine go_callI (w_laws_toSurge _ _ hr6) rfl rfl (Nat.le_of_ble_eq_true rfl) ?_
      obtain ⟨x7, hx7, h⟩ := ob h
      have hx7n := ix_get hx7
      try simp only [hb4, hx5, hx7, Nat.reduceBEq, Nat.reduceMul, Nat.reduceAdd, Nat.reduceDiv, Int.reduceBEq, rules2, rowsX]
      refine go_stp (y := r6) rfl rfl hx7n rfl rfl rfl ?_
      try simp only [hb4, hx5, hx7, Nat.reduceBEq, Nat.reduceMul, Nat.reduceAdd, Nat.reduceDiv, Int.reduceBEq, rules2, rowsX]
      refine ih _ _ _ h _ ?_
      try simp only [hb4, hx5, hx7, Nat.reduceBEq, Nat.reduceMul, Nat.reduceAdd, Nat.reduceDiv, Int.reduceBEq, rules2, rowsX, List.map_nil]
    · rw [ite_f hb4] at h
      try simp only [hσ, hb4, c_laws_toSurgeS_1, c_laws_toSurgeS_n1, Nat.reduceBEq, Nat.reduceMul, Nat.reduceAdd, Nat.reduceDiv, Int.reduceBEq, rules2, rowsX]
      cases h
      exact ⟨⟨rfl, trivial⟩, rfl⟩
theorem e_laws_toSurgeS : entry Try.prog 38 = some (c_laws_toSurgeS.strip, [2], 23) := by kernel_rfl
theorem w_laws_toSurgeS (a0 : List XSurge) (r : (List XSurge)) (h : f_laws_toSurgeS a0 = some r) : FC Try.prog 38 [.sc (.sl (List.map XSurge.row a0))] [.sc (.o 3 (List.map XSurge.row r))] := by
  unfold f_laws_toSurgeS at h
  refine FC_go (σ := ⟨[(0, vc (aL (List.map XSurge.row a0)))], [], []⟩) mixed e_laws_toSurgeS rfl rfl ?_
  simp only [c_laws_toSurgeS]
  obtain ⟨n1, hn1, h⟩ := ob h
  try simp only [Nat.reduceBEq, Nat.reduceMul, Nat.reduceAdd, Nat.reduceDiv, Int.reduceBEq, rules2, rowsX]
  refine go_mks (es := List.map XSurge.row (List.replicate n1 (⟨(0 : Int), (0 : Int), (0 : Int)⟩ : XSurge))) rfl rfl hn1 rfl (rep_map rfl) rfl ?_
  try simp only [Nat.reduceBEq, Nat.reduceMul, Nat.reduceAdd, Nat.reduceDiv, Int.reduceBEq, rules2, rowsX]
  refine w_laws_toSurgeS_1 _ _ _ _ _ h _ ?_
  try simp only [Nat.reduceBEq, Nat.reduceMul, Nat.reduceAdd, Nat.reduceDiv, Int.reduceBEq, rules2, rowsX, List.map_nil]
/- 15: laws_toForecast -/
def c_laws_toForecast : ACode := (.seq (.reg [(none, .box 1 (S 0)), (none, .alloc 2 [aI 0, .nil, .nil])]) (.seq (.reg [(none, .alloc 3 [aI 0, .nil, .nil])]) (.seq (.reg [(none, .faddr 4 (S 1) 0), (none, .load 5 (S 4) true 2), (none, .call 6 37 [(S 5)]), (none, .faddr 7 (S 3) 0), (none, .store (S 7) (S 6) 2)]) (.seq (.reg [(none, .faddr 8 (S 1) 2), (none, .load 9 (S 8) false 1), (none, .call 10 38 [(S 9)]), (none, .faddr 11 (S 3) 2), (none, .store (S 11) (S 10) 1)]) (.seq (.reg [(none, .load 12 (S 3) true 3), (none, .store (S 2) (S 12) 3)]) .ret)))))
theorem e_laws_toForecast : entry Try.prog 15 = some (c_laws_toForecast.strip, [.c 2 true 3], 13) := by kernel_rfl
theorem w_laws_toForecast (a0 : XForecast) (r : XForecast) (h : f_laws_toForecast a0 = some r) : FC Try.prog 15 [.ag (XForecast.row a0)] [.ag [.v (.int .i64 r.Tide.Mean), .o 3 (List.map XPart.row r.Tide.Parts), .o 3 (List.map XSurge.row r.Surges)]] := by
  unfold f_laws_toForecast at h
  refine FC_go (σ := ⟨[(0, va [aI a0.Tide.Mean, aL (List.map XPart.row a0.Tide.Parts), aL (List.map XSurge.row a0.Surges)])], [], []⟩) mixed e_laws_toForecast rfl rfl ?_
  simp only [c_laws_toForecast]
  try simp only [Nat.reduceBEq, Nat.reduceMul, Nat.reduceAdd, Nat.reduceDiv, Int.reduceBEq, rules2, rowsX]
  refine go_bx rfl rfl rfl ?_
  try simp only [Nat.reduceBEq, Nat.reduceMul, Nat.reduceAdd, Nat.reduceDiv, Int.reduceBEq, rules2, rowsX]
  refine go_al rfl rfl ?_
  try simp only [Nat.reduceBEq, Nat.reduceMul, Nat.reduceAdd, Nat.reduceDiv, Int.reduceBEq, rules2, rowsX]
  refine go_al rfl rfl ?_
  obtain ⟨r1, hr1, h⟩ := ob h
  try simp only [Nat.reduceBEq, Nat.reduceMul, Nat.reduceAdd, Nat.reduceDiv, Int.reduceBEq, rules2, rowsX]
  refine go_callI (w_laws_toTide _ _ hr1) rfl rfl (Nat.le_of_ble_eq_true rfl) ?_
  obtain ⟨r2, hr2, h⟩ := ob h
  try simp only [Nat.reduceBEq, Nat.reduceMul, Nat.reduceAdd, Nat.reduceDiv, Int.reduceBEq, rules2, rowsX]
  refine go_callI (w_laws_toSurgeS _ _ hr2) rfl rfl (Nat.le_of_ble_eq_true rfl) ?_
  try simp only [Nat.reduceBEq, Nat.reduceMul, Nat.reduceAdd, Nat.reduceDiv, Int.reduceBEq, rules2, rowsX]
  cases h
  try simp only [rulesR, Nat.reduceBEq, Nat.reduceMul, Nat.reduceAdd, Nat.reduceDiv, Int.reduceBEq, rules2, rowsX]
  exact ⟨⟨⟨rfl, rfl, rfl, trivial⟩, trivial⟩, rfl⟩
/- 16: laws_toIntS -/
def c_laws_toIntS_1 : ACode := .seq (.reg [(none, .keep [0, 3, 4] [] [448])]) (.seq (.seq (.reg [(none, .mv 8 (S 4)), (none, .mv 9 (S 0)), (none, .len 10 (S 9)), (none, .bin 11 .lss (S 8) (S 10))]) (.cond (S 11) .skip (.exit 0))) (.seq (.block 1 (.reg [(none, .mv 14 (S 3)), (none, .mv 15 (S 4)), (none, .mv 16 (S 0)), (none, .mv 17 (S 4)), (none, .iaddr 18 (S 16) (S 17) 1), (none, .load 19 (S 18) false 1), (none, .iaddr 20 (S 14) (S 15) 1), (none, .store (S 20) (S 19) 1)])) (.reg [(none, .mv 12 (S 4)), (none, .bin 13 .add (S 12) (K 1)), (none, .mv 4 (S 13))])))
def c_laws_toIntS_n1 : ACode := (.seq (.reg [(none, .mv 21 (S 3)), (none, .mv 2 (S 21))]) .ret)
def c_laws_toIntS : ACode := (.seq (.reg [(none, .mv 2 KN)]) (.seq (.reg [(none, .mv 5 (S 0)), (none, .len 6 (S 5)), (none, .mksl 7 1 8 [.int .i64 0] (S 6) (S 6)), (none, .mv 3 (S 7))]) (.seq (.seq (.reg [(none, .mv 4 (K 0))]) (.block 0 (.loop c_laws_toIntS_1))) c_laws_toIntS_n1)))
theorem w_laws_toIntS_1 (a0 : List Int) : ∀ (n : Nat) (v2 : Int) (v3 : List Int) (r : (List Int)), f_laws_toIntS_1 a0 n v2 v3 = some r → ∀ σ : St, σ.kept [0, 3, 4] [] [448] = ⟨[(0, vc (aL (List.map rI a0))), (3, vc (.own 448)), (4, vc (aI v2))], [], [(448, 1, List.map rI v3)]⟩ → go Try.prog (.code (.loop c_laws_toIntS_1) :: [.blk 0, .code c_laws_toIntS_n1]) (Ret [2] [.sc (.o 1 (List.map rI r))]) .normal (some σ) := by
  intro n
  induction n with
  | zero => intro _ _ r h; cases h
  | succ n ih =>
    intro v2 v3 r h σ hσ
    rw [f_laws_toIntS_1] at h
    refine go_round ?_
    rcases Bool.eq_false_or_eq_true (decide (v2 < (a0.length : Int))) with hb4 | hb4
    · rw [ite_t hb4] at h
      obtain ⟨x5, hx5, h⟩ := ob h
      obtain ⟨x6, hx6, h⟩ := ob h
      have hx6n := ix_get hx6
      try simp only [hσ, hb4, hx5, hx6, c_laws_toIntS_1, Nat.reduceBEq, Nat.reduceMul, Nat.reduceAdd, Nat.reduceDiv, Int.reduceBEq, rules2, rowsX]
      refine go_stp (y := x5) rfl rfl hx6n rfl rfl rfl ?_
      try simp only [hb4, hx5, hx6, Nat.reduceBEq, Nat.reduceMul, Nat.reduceAdd, Nat.reduceDiv, Int.reduceBEq, rules2, rowsX]
      refine ih _ _ _ h _ ?_
      try simp only [hb4, hx5, hx6, Nat.reduceBEq, Nat.reduceMul, Nat.reduceAdd, Nat.reduceDiv, Int.reduceBEq, rules2, rowsX, List.map_nil]
    · rw [ite_f hb4] at h
      try simp only [hσ, hb4, c_laws_toIntS_1, c_laws_toIntS_n1, Nat.reduceBEq, Nat.reduceMul, Nat.reduceAdd, Nat.reduceDiv, Int.reduceBEq, rules2, rowsX]
      cases h
      exact ⟨⟨rfl, trivial⟩, rfl⟩
theorem e_laws_toIntS : entry Try.prog 16 = some (c_laws_toIntS.strip, [2], 22) := by kernel_rfl
theorem w_laws_toIntS (a0 : List Int) (r : (List Int)) (h : f_laws_toIntS a0 = some r) : FC Try.prog 16 [.sc (.sl (List.map rI a0))] [.sc (.o 1 (List.map rI r))] := by
  unfold f_laws_toIntS at h
  refine FC_go (σ := ⟨[(0, vc (aL (List.map rI a0)))], [], []⟩) mixed e_laws_toIntS rfl rfl ?_
  simp only [c_laws_toIntS]
  obtain ⟨n1, hn1, h⟩ := ob h
  try simp only [Nat.reduceBEq, Nat.reduceMul, Nat.reduceAdd, Nat.reduceDiv, Int.reduceBEq, rules2, rowsX]
  refine go_mks (es := List.map rI (List.replicate n1 (0 : Int))) rfl rfl hn1 rfl (rep_map rfl) rfl ?_
  try simp only [Nat.reduceBEq, Nat.reduceMul, Nat.reduceAdd, Nat.reduceDiv, Int.reduceBEq, rules2, rowsX]
  refine w_laws_toIntS_1 _ _ _ _ _ h _ ?_
  try simp only [Nat.reduceBEq, Nat.reduceMul, Nat.reduceAdd, Nat.reduceDiv, Int.reduceBEq, rules2, rowsX, List.map_nil]
/- 23: spec_l01In -/
def c_spec_l01In : ACode := (.seq (.reg [(none, .mv 6 (KB false))]) (.seq (.reg [(none, .mv 7 (S 0)), (none, .mv 8 (S 1)), (none, .bin 9 .geq (S 7) (S 8)), (none, .mv 10 (S 9)), (some (10, true), .mv 11 (S 0)), (some (10, true), .mv 12 (S 2)), (some (10, true), .bin 13 .leq (S 11) (S 12)), (none, .pick 14 (S 10) (S 13) (KB false)), (none, .mv 6 (S 14))]) .ret))
theorem e_spec_l01In : entry Try.prog 23 = some (c_spec_l01In.strip, [6], 15) := by kernel_rfl
theorem w_spec_l01In (a0 : Int) (a1 : Int) (a2 : Int) (r : Bool) (h : f_spec_l01In a0 a1 a2 = some r) : FC Try.prog 23 [.sc (.int .i64 a0), .sc (.int .i64 a1), .sc (.int .i64 a2)] [.sc (.v (.bool r))] := by
  unfold f_spec_l01In at h
  refine FC_go (σ := ⟨[(0, vc (aI a0)), (1, vc (aI a1)), (2, vc (aI a2))], [], []⟩) mixed e_spec_l01In rfl rfl ?_
  simp only [c_spec_l01In]
  rcases Bool.eq_false_or_eq_true (decide (a1 ≤ a0)) with hb1 | hb1
  · rw [ite_t hb1] at h
    try simp only [hb1, Nat.reduceBEq, Nat.reduceMul, Nat.reduceAdd, Nat.reduceDiv, Int.reduceBEq, rules2, rowsX]
    cases h
    exact ⟨⟨rfl, trivial⟩, rfl⟩
  · rw [ite_f hb1] at h
    try simp only [hb1, Nat.reduceBEq, Nat.reduceMul, Nat.reduceAdd, Nat.reduceDiv, Int.reduceBEq, rules2, rowsX]
    cases h
    exact ⟨⟨rfl, trivial⟩, rfl⟩
/- 71: spec_PartOk -/
def c_spec_PartOk : ACode := (.seq (.reg [(none, .box 1 (S 0)), (none, .mv 2 (KB false))]) (.seq (.reg [(none, .faddr 3 (S 1) 0), (none, .load 4 (S 3) false 1), (none, .call 5 23 [(S 4), (K 0), (K 1000)]), (none, .mv 6 (S 5)), (some (6, true), .faddr 7 (S 1) 1), (some (6, true), .load 8 (S 7) false 1), (some (6, true), .call 9 23 [(S 8), (K 4), (K 2880)]), (none, .pick 10 (S 6) (S 9) (KB false)), (none, .mv 11 (S 10)), (some (11, true), .faddr 12 (S 1) 1), (some (11, true), .load 13 (S 12) false 1), (some (11, true), .bin 14 .rem (S 13) (K 4)), (some (11, true), .bin 15 .eql (S 14) (K 0)), (none, .pick 16 (S 11) (S 15) (KB false)), (none, .mv 17 (S 16)), (some (17, true), .faddr 18 (S 1) 2), (some (17, true), .load 19 (S 18) false 1), (some (17, true), .faddr 20 (S 1) 1), (some (17, true), .load 21 (S 20) false 1), (some (17, true), .bin 22 .sub (S 21) (K 1)), (some (17, true), .call 23 23 [(S 19), (K 0), (S 22)]), (none, .pick 24 (S 17) (S 23) (KB false)), (none, .mv 2 (S 24))]) .ret))
theorem e_spec_PartOk : entry Try.prog 71 = some (c_spec_PartOk.strip, [2], 25) := by kernel_rfl
theorem w_spec_PartOk (a0 : XPart) (r : Bool) (h : f_spec_PartOk a0 = some r) : FC Try.prog 71 [.ag (XPart.row a0)] [.sc (.v (.bool r))] := by
  unfold f_spec_PartOk at h
  refine FC_go (σ := ⟨[(0, va [aI a0.Amp, aI a0.Period, aI a0.Phase])], [], []⟩) mixed e_spec_PartOk rfl rfl ?_
  simp only [c_spec_PartOk]
  try simp only [Nat.reduceBEq, Nat.reduceMul, Nat.reduceAdd, Nat.reduceDiv, Int.reduceBEq, rules2, rowsX]
  refine go_bx rfl rfl rfl ?_
  obtain ⟨r1, hr1, h⟩ := ob h
  try simp only [Nat.reduceBEq, Nat.reduceMul, Nat.reduceAdd, Nat.reduceDiv, Int.reduceBEq, rules2, rowsX]
  refine go_callI (w_spec_l01In _ _ _ _ hr1) rfl rfl (Nat.le_of_ble_eq_true rfl) ?_
  rcases Bool.eq_false_or_eq_true r1 with hb2 | hb2
  · rw [ite_t hb2] at h
    obtain ⟨r3, hr3, h⟩ := ob h
    try simp only [hb2, Nat.reduceBEq, Nat.reduceMul, Nat.reduceAdd, Nat.reduceDiv, Int.reduceBEq, rules2, rowsX]
    refine go_callI (w_spec_l01In _ _ _ _ hr3) rfl rfl (Nat.le_of_ble_eq_true rfl) ?_
    rcases Bool.eq_false_or_eq_true r3 with hb4 | hb4
    · rw [ite_t hb4] at h
      rcases Bool.eq_false_or_eq_true ((IntKind.i64.wrap (Int.tmod a0.Period (4 : Int))) == (0 : Int)) with hb5 | hb5
      · rw [ite_t hb5] at h
        obtain ⟨r6, hr6, h⟩ := ob h
        try simp only [hb2, hb4, hb5, Nat.reduceBEq, Nat.reduceMul, Nat.reduceAdd, Nat.reduceDiv, Int.reduceBEq, rules2, rowsX]
        refine go_callI (w_spec_l01In _ _ _ _ hr6) rfl rfl (Nat.le_of_ble_eq_true rfl) ?_
        try simp only [hb2, hb4, hb5, Nat.reduceBEq, Nat.reduceMul, Nat.reduceAdd, Nat.reduceDiv, Int.reduceBEq, rules2, rowsX]
        cases h
        exact ⟨⟨rfl, trivial⟩, rfl⟩
      · rw [ite_f hb5] at h
        try simp only [hb2, hb4, hb5, Nat.reduceBEq, Nat.reduceMul, Nat.reduceAdd, Nat.reduceDiv, Int.reduceBEq, rules2, rowsX]
        cases h
        exact ⟨⟨rfl, trivial⟩, rfl⟩
    · rw [ite_f hb4] at h
      try simp only [hb2, hb4, Nat.reduceBEq, Nat.reduceMul, Nat.reduceAdd, Nat.reduceDiv, Int.reduceBEq, rules2, rowsX]
      cases h
      exact ⟨⟨rfl, trivial⟩, rfl⟩
  · rw [ite_f hb2] at h
    try simp only [hb2, Nat.reduceBEq, Nat.reduceMul, Nat.reduceAdd, Nat.reduceDiv, Int.reduceBEq, rules2, rowsX]
    cases h
    exact ⟨⟨rfl, trivial⟩, rfl⟩
/- 58: spec_TideOk -/
def c_spec_TideOk_1 : ACode := .seq (.reg [(none, .keep [16, 17, 18] [] [])]) (.seq (.reg [(none, .bin 19 .lss (S 18) (S 17))]) (.seq (.cond (S 19) .skip (.exit 0)) (.seq (.block 1 (.seq (.reg [(none, .iaddr 20 (S 16) (S 18) 3), (none, .load 21 (S 20) true 3), (none, .alloc 4 [aI 0, aI 0, aI 0]), (none, .store (S 4) (S 21) 3)]) (.seq (.reg [(none, .load 22 (S 4) true 3), (none, .call 23 71 [(S 22)]), (none, .un 24 .not (S 23))]) (.cond (S 24) (.seq (.reg [(none, .mv 2 (KB false))]) .ret) .skip)))) (.reg [(none, .bin 25 .add (S 18) (K 1)), (none, .mv 18 (S 25))]))))
def c_spec_TideOk_n1 : ACode := (.seq (.reg [(none, .mv 2 (KB true))]) .ret)
def c_spec_TideOk : ACode := (.seq (.reg [(none, .box 1 (S 0)), (none, .mv 2 (KB false))]) (.seq (.seq (.reg [(none, .faddr 5 (S 1) 0), (none, .load 6 (S 5) false 1), (none, .call 7 23 [(S 6), (K (-1000)), (K 1000)]), (none, .un 8 .not (S 7)), (none, .mv 9 (S 8)), (some (9, false), .faddr 10 (S 1) 1), (some (9, false), .load 11 (S 10) false 1), (some (9, false), .len 12 (S 11)), (some (9, false), .bin 13 .gtr (S 12) (K 4)), (none, .pick 14 (S 9) (KB true) (S 13))]) (.cond (S 14) (.seq (.reg [(none, .mv 2 (KB false))]) .ret) .skip)) (.seq (.seq (.reg [(none, .faddr 15 (S 1) 1), (none, .load 16 (S 15) false 1), (none, .len 17 (S 16)), (none, .mv 18 (K 0))]) (.block 0 (.loop c_spec_TideOk_1))) c_spec_TideOk_n1)))
theorem w_spec_TideOk_1 (a0 : XTide) : ∀ (n : Nat) (v4 : Int) (r : Bool), f_spec_TideOk_1 a0 n v4 = some r → ∀ σ : St, σ.kept [16, 17, 18] [] [] = ⟨[(16, vc (aL (List.map XPart.row a0.Parts))), (17, vc (aI (a0.Parts.length : Int))), (18, vc (aI v4))], [], []⟩ → go Try.prog (.code (.loop c_spec_TideOk_1) :: [.blk 0, .code c_spec_TideOk_n1]) (Ret [2] [.sc (.v (.bool r))]) .normal (some σ) := by
  intro n
  induction n with
  | zero => intro _ r h; cases h
  | succ n ih =>
    intro v4 r h σ hσ
    rw [f_spec_TideOk_1] at h
    refine go_round ?_
    rcases Bool.eq_false_or_eq_true (decide (v4 < (a0.Parts.length : Int))) with hb5 | hb5
    · rw [ite_t hb5] at h
      obtain ⟨x6, hx6, h⟩ := ob h
      try simp only [hσ, hb5, hx6, c_spec_TideOk_1, Nat.reduceBEq, Nat.reduceMul, Nat.reduceAdd, Nat.reduceDiv, Int.reduceBEq, rules2, rowsX]
      refine go_al rfl rfl ?_
      obtain ⟨r7, hr7, h⟩ := ob h
      try simp only [hb5, hx6, Nat.reduceBEq, Nat.reduceMul, Nat.reduceAdd, Nat.reduceDiv, Int.reduceBEq, rules2, rowsX]
      refine go_callI (w_spec_PartOk _ _ hr7) rfl rfl (Nat.le_of_ble_eq_true rfl) ?_
      rcases Bool.eq_false_or_eq_true r7 with hb8 | hb8
      · rw [ite_t hb8] at h
        try simp only [hb5, hx6, hb8, Nat.reduceBEq, Nat.reduceMul, Nat.reduceAdd, Nat.reduceDiv, Int.reduceBEq, rules2, rowsX]
        refine ih _ _ h _ ?_
        try simp only [hb5, hx6, hb8, Nat.reduceBEq, Nat.reduceMul, Nat.reduceAdd, Nat.reduceDiv, Int.reduceBEq, rules2, rowsX, List.map_nil]
      · rw [ite_f hb8] at h
        try simp only [hb5, hx6, hb8, Nat.reduceBEq, Nat.reduceMul, Nat.reduceAdd, Nat.reduceDiv, Int.reduceBEq, rules2, rowsX]
        cases h
        exact ⟨⟨rfl, trivial⟩, rfl⟩
    · rw [ite_f hb5] at h
      try simp only [hσ, hb5, c_spec_TideOk_1, c_spec_TideOk_n1, Nat.reduceBEq, Nat.reduceMul, Nat.reduceAdd, Nat.reduceDiv, Int.reduceBEq, rules2, rowsX]
      cases h
      exact ⟨⟨rfl, trivial⟩, rfl⟩
theorem e_spec_TideOk : entry Try.prog 58 = some (c_spec_TideOk.strip, [2], 26) := by kernel_rfl
theorem w_spec_TideOk (a0 : XTide) (r : Bool) (h : f_spec_TideOk a0 = some r) : FC Try.prog 58 [.ag (XTide.row a0)] [.sc (.v (.bool r))] := by
  unfold f_spec_TideOk at h
  refine FC_go (σ := ⟨[(0, va [aI a0.Mean, aL (List.map XPart.row a0.Parts)])], [], []⟩) mixed e_spec_TideOk rfl rfl ?_
  simp only [c_spec_TideOk]
  try simp only [Nat.reduceBEq, Nat.reduceMul, Nat.reduceAdd, Nat.reduceDiv, Int.reduceBEq, rules2, rowsX]
  refine go_bx rfl rfl rfl ?_
  obtain ⟨r1, hr1, h⟩ := ob h
  try simp only [Nat.reduceBEq, Nat.reduceMul, Nat.reduceAdd, Nat.reduceDiv, Int.reduceBEq, rules2, rowsX]
  refine go_callI (w_spec_l01In _ _ _ _ hr1) rfl rfl (Nat.le_of_ble_eq_true rfl) ?_
  rcases Bool.eq_false_or_eq_true r1 with hb2 | hb2
  · rw [ite_t hb2] at h
    rcases Bool.eq_false_or_eq_true (decide ((4 : Int) < (a0.Parts.length : Int))) with hb3 | hb3
    · rw [ite_t hb3] at h
      try simp only [hb2, hb3, Nat.reduceBEq, Nat.reduceMul, Nat.reduceAdd, Nat.reduceDiv, Int.reduceBEq, rules2, rowsX]
      cases h
      exact ⟨⟨rfl, trivial⟩, rfl⟩
    · rw [ite_f hb3] at h
      try simp only [hb2, hb3, Nat.reduceBEq, Nat.reduceMul, Nat.reduceAdd, Nat.reduceDiv, Int.reduceBEq, rules2, rowsX]
      refine w_spec_TideOk_1 _ _ _ _ h _ ?_
      try simp only [hb2, hb3, Nat.reduceBEq, Nat.reduceMul, Nat.reduceAdd, Nat.reduceDiv, Int.reduceBEq, rules2, rowsX, List.map_nil]
  · rw [ite_f hb2] at h
    try simp only [hb2, Nat.reduceBEq, Nat.reduceMul, Nat.reduceAdd, Nat.reduceDiv, Int.reduceBEq, rules2, rowsX]
    cases h
    exact ⟨⟨rfl, trivial⟩, rfl⟩
/- 59: spec_SurgeOk -/
def c_spec_SurgeOk : ACode := (.seq (.reg [(none, .box 1 (S 0)), (none, .mv 2 (KB false))]) (.seq (.reg [(none, .faddr 3 (S 1) 0), (none, .load 4 (S 3) false 1), (none, .call 5 23 [(S 4), (K 0), (K 2880)]), (none, .mv 6 (S 5)), (some (6, true), .faddr 7 (S 1) 1), (some (6, true), .load 8 (S 7) false 1), (some (6, true), .call 9 23 [(S 8), (K (-500)), (K 500)]), (none, .pick 10 (S 6) (S 9) (KB false)), (none, .mv 11 (S 10)), (some (11, true), .faddr 12 (S 1) 2), (some (11, true), .load 13 (S 12) false 1), (some (11, true), .faddr 14 (S 1) 1), (some (11, true), .load 15 (S 14) false 1), (some (11, true), .call 16 23 [(S 13), (S 15), (K 500)]), (none, .pick 17 (S 11) (S 16) (KB false)), (none, .mv 2 (S 17))]) .ret))
theorem e_spec_SurgeOk : entry Try.prog 59 = some (c_spec_SurgeOk.strip, [2], 18) := by kernel_rfl
theorem w_spec_SurgeOk (a0 : XSurge) (r : Bool) (h : f_spec_SurgeOk a0 = some r) : FC Try.prog 59 [.ag (XSurge.row a0)] [.sc (.v (.bool r))] := by
  unfold f_spec_SurgeOk at h
  refine FC_go (σ := ⟨[(0, va [aI a0.From, aI a0.Low, aI a0.High])], [], []⟩) mixed e_spec_SurgeOk rfl rfl ?_
  simp only [c_spec_SurgeOk]
  try simp only [Nat.reduceBEq, Nat.reduceMul, Nat.reduceAdd, Nat.reduceDiv, Int.reduceBEq, rules2, rowsX]
  refine go_bx rfl rfl rfl ?_
  obtain ⟨r1, hr1, h⟩ := ob h
  try simp only [Nat.reduceBEq, Nat.reduceMul, Nat.reduceAdd, Nat.reduceDiv, Int.reduceBEq, rules2, rowsX]
  refine go_callI (w_spec_l01In _ _ _ _ hr1) rfl rfl (Nat.le_of_ble_eq_true rfl) ?_
  rcases Bool.eq_false_or_eq_true r1 with hb2 | hb2
  · rw [ite_t hb2] at h
    obtain ⟨r3, hr3, h⟩ := ob h
    try simp only [hb2, Nat.reduceBEq, Nat.reduceMul, Nat.reduceAdd, Nat.reduceDiv, Int.reduceBEq, rules2, rowsX]
    refine go_callI (w_spec_l01In _ _ _ _ hr3) rfl rfl (Nat.le_of_ble_eq_true rfl) ?_
    rcases Bool.eq_false_or_eq_true r3 with hb4 | hb4
    · rw [ite_t hb4] at h
      obtain ⟨r5, hr5, h⟩ := ob h
      try simp only [hb2, hb4, Nat.reduceBEq, Nat.reduceMul, Nat.reduceAdd, Nat.reduceDiv, Int.reduceBEq, rules2, rowsX]
      refine go_callI (w_spec_l01In _ _ _ _ hr5) rfl rfl (Nat.le_of_ble_eq_true rfl) ?_
      try simp only [hb2, hb4, Nat.reduceBEq, Nat.reduceMul, Nat.reduceAdd, Nat.reduceDiv, Int.reduceBEq, rules2, rowsX]
      cases h
      exact ⟨⟨rfl, trivial⟩, rfl⟩
    · rw [ite_f hb4] at h
      try simp only [hb2, hb4, Nat.reduceBEq, Nat.reduceMul, Nat.reduceAdd, Nat.reduceDiv, Int.reduceBEq, rules2, rowsX]
      cases h
      exact ⟨⟨rfl, trivial⟩, rfl⟩
  · rw [ite_f hb2] at h
    try simp only [hb2, Nat.reduceBEq, Nat.reduceMul, Nat.reduceAdd, Nat.reduceDiv, Int.reduceBEq, rules2, rowsX]
    cases h
    exact ⟨⟨rfl, trivial⟩, rfl⟩
/- 34: spec_ForecastOk -/
def c_spec_ForecastOk_1 : ACode := .seq (.reg [(none, .keep [1, 25, 26, 27] [1] [])]) (.seq (.reg [(none, .bin 28 .lss (S 27) (S 26))]) (.seq (.cond (S 28) .skip (.exit 0)) (.seq (.block 1 (.seq (.reg [(none, .mv 29 (S 27)), (none, .iaddr 30 (S 25) (S 27) 3), (none, .load 31 (S 30) true 3), (none, .alloc 4 [aI 0, aI 0, aI 0]), (none, .mv 3 (S 29)), (none, .store (S 4) (S 31) 3)]) (.seq (.drw [(some [], (none, .load 32 (S 4) true 3)), (some [], (none, .call 33 59 [(S 32)])), (some [], (none, .un 34 .not (S 33))), (some [], (none, .mv 35 (S 34))), (some [], (some (35, false), .mv 36 (S 3))), (some [], (some (35, false), .bin 37 .gtr (S 36) (K 0))), (some [], (some (35, false), .mv 38 (S 37))), (some [], (some (38, true), .faddr 39 (S 4) 0)), (some [], (some (38, true), .load 40 (S 39) false 1)), (some [], (some (38, true), .faddr 41 (S 1) 2)), (some [], (some (38, true), .load 42 (S 41) false 1)), (some [], (some (38, true), .mv 43 (S 3))), (some [], (some (38, true), .bin 44 .sub (S 43) (K 1))), (some [], (some (38, true), .iaddr 45 (S 42) (S 44) 3)), (some [], (some (38, true), .faddr 46 (S 45) 0)), (some [], (some (38, true), .load 47 (S 46) false 1)), (some [], (some (38, true), .bin 48 .leq (S 40) (S 47))), (some [], (some (35, false), .pick 49 (S 38) (S 48) (KB false))), (some [], (none, .pick 50 (S 35) (KB true) (S 49)))]) (.cond (S 50) (.seq (.reg [(none, .mv 2 (KB false))]) .ret) .skip)))) (.reg [(none, .bin 51 .add (S 27) (K 1)), (none, .mv 27 (S 51))]))))
def c_spec_ForecastOk_n1 : ACode := (.seq (.reg [(none, .mv 2 (KB true))]) .ret)
def c_spec_ForecastOk : ACode := (.seq (.reg [(none, .box 1 (S 0)), (none, .mv 2 (KB false))]) (.seq (.seq (.reg [(none, .faddr 5 (S 1) 0), (none, .load 6 (S 5) true 2), (none, .call 7 58 [(S 6)]), (none, .un 8 .not (S 7)), (none, .mv 9 (S 8)), (some (9, false), .faddr 10 (S 1) 2), (some (9, false), .load 11 (S 10) false 1), (some (9, false), .len 12 (S 11)), (some (9, false), .call 13 23 [(S 12), (K 1), (K 6)]), (some (9, false), .un 14 .not (S 13)), (none, .pick 15 (S 9) (KB true) (S 14)), (none, .mv 16 (S 15)), (some (16, false), .faddr 17 (S 1) 2), (some (16, false), .load 18 (S 17) false 1), (some (16, false), .iaddr 19 (S 18) (K 0) 3), (some (16, false), .faddr 20 (S 19) 0), (some (16, false), .load 21 (S 20) false 1), (some (16, false), .bin 22 .neq (S 21) (K 0)), (none, .pick 23 (S 16) (KB true) (S 22))]) (.cond (S 23) (.seq (.reg [(none, .mv 2 (KB false))]) .ret) .skip)) (.seq (.seq (.reg [(none, .faddr 24 (S 1) 2), (none, .load 25 (S 24) false 1), (none, .len 26 (S 25)), (none, .mv 27 (K 0))]) (.block 0 (.loop c_spec_ForecastOk_1))) c_spec_ForecastOk_n1)))
theorem w_spec_ForecastOk_1 (a0 : XForecast) : ∀ (n : Nat) (v7 : Int) (r : Bool), f_spec_ForecastOk_1 a0 n v7 = some r → ∀ σ : St, σ.kept [1, 25, 26, 27] [1] [] = ⟨[(1, vc (.pb 1 0)), (25, vc (aL (List.map XSurge.row a0.Surges))), (26, vc (aI (a0.Surges.length : Int))), (27, vc (aI v7))], [(1, [aI a0.Tide.Mean, aL (List.map XPart.row a0.Tide.Parts), aL (List.map XSurge.row a0.Surges)])], []⟩ → go Try.prog (.code (.loop c_spec_ForecastOk_1) :: [.blk 0, .code c_spec_ForecastOk_n1]) (Ret [2] [.sc (.v (.bool r))]) .normal (some σ) := by
  intro n
  induction n with
  | zero => intro _ r h; cases h
  | succ n ih =>
    intro v7 r h σ hσ
    rw [f_spec_ForecastOk_1] at h
    refine go_round ?_
    rcases Bool.eq_false_or_eq_true (decide (v7 < (a0.Surges.length : Int))) with hb8 | hb8
    · rw [ite_t hb8] at h
      obtain ⟨x9, hx9, h⟩ := ob h
      try simp only [hσ, hb8, hx9, c_spec_ForecastOk_1, Nat.reduceBEq, Nat.reduceMul, Nat.reduceAdd, Nat.reduceDiv, Int.reduceBEq, rules2, rowsX]
      refine go_al rfl rfl ?_
      try simp only [hb8, hx9, Nat.reduceBEq, Nat.reduceMul, Nat.reduceAdd, Nat.reduceDiv, Int.reduceBEq, rules2, rowsX]
      refine go_fr_of rfl ?_
      obtain ⟨r10, hr10, h⟩ := ob h
      try simp only [hb8, hx9, Nat.reduceBEq, Nat.reduceMul, Nat.reduceAdd, Nat.reduceDiv, Int.reduceBEq, rules2, rowsX]
      refine go_callI (w_spec_SurgeOk _ _ hr10) rfl rfl (Nat.le_of_ble_eq_true rfl) ?_
      rcases Bool.eq_false_or_eq_true r10 with hb11 | hb11
      · rw [ite_t hb11] at h
        rcases Bool.eq_false_or_eq_true (decide ((0 : Int) < v7)) with hb12 | hb12
        · rw [ite_t hb12] at h
          obtain ⟨x13, hx13, h⟩ := ob h
          rcases Bool.eq_false_or_eq_true (decide (x9.From ≤ x13.From)) with hb14 | hb14
          · rw [ite_t hb14] at h
            try simp only [hb8, hx9, hb11, hb12, hx13, hb14, Nat.reduceBEq, Nat.reduceMul, Nat.reduceAdd, Nat.reduceDiv, Int.reduceBEq, rules2, rowsX]
            cases h
            exact ⟨⟨rfl, trivial⟩, rfl⟩
          · rw [ite_f hb14] at h
            try simp only [hb8, hx9, hb11, hb12, hx13, hb14, Nat.reduceBEq, Nat.reduceMul, Nat.reduceAdd, Nat.reduceDiv, Int.reduceBEq, rules2, rowsX]
            refine ih _ _ h _ ?_
            try simp only [hb8, hx9, hb11, hb12, hx13, hb14, Nat.reduceBEq, Nat.reduceMul, Nat.reduceAdd, Nat.reduceDiv, Int.reduceBEq, rules2, rowsX, List.map_nil]
        · rw [ite_f hb12] at h
          try simp only [hb8, hx9, hb11, hb12, Nat.reduceBEq, Nat.reduceMul, Nat.reduceAdd, Nat.reduceDiv, Int.reduceBEq, rules2, rowsX]
          refine ih _ _ h _ ?_
          try simp only [hb8, hx9, hb11, hb12, Nat.reduceBEq, Nat.reduceMul, Nat.reduceAdd, Nat.reduceDiv, Int.reduceBEq, rules2, rowsX, List.map_nil]
      · rw [ite_f hb11] at h
        try simp only [hb8, hx9, hb11, Nat.reduceBEq, Nat.reduceMul, Nat.reduceAdd, Nat.reduceDiv, Int.reduceBEq, rules2, rowsX]
        cases h
        exact ⟨⟨rfl, trivial⟩, rfl⟩
    · rw [ite_f hb8] at h
      try simp only [hσ, hb8, c_spec_ForecastOk_1, c_spec_ForecastOk_n1, Nat.reduceBEq, Nat.reduceMul, Nat.reduceAdd, Nat.reduceDiv, Int.reduceBEq, rules2, rowsX]
      cases h
      exact ⟨⟨rfl, trivial⟩, rfl⟩
theorem e_spec_ForecastOk : entry Try.prog 34 = some (c_spec_ForecastOk.strip, [2], 52) := by kernel_rfl
theorem w_spec_ForecastOk (a0 : XForecast) (r : Bool) (h : f_spec_ForecastOk a0 = some r) : FC Try.prog 34 [.ag (XForecast.row a0)] [.sc (.v (.bool r))] := by
  unfold f_spec_ForecastOk at h
  refine FC_go (σ := ⟨[(0, va [aI a0.Tide.Mean, aL (List.map XPart.row a0.Tide.Parts), aL (List.map XSurge.row a0.Surges)])], [], []⟩) mixed e_spec_ForecastOk rfl rfl ?_
  simp only [c_spec_ForecastOk]
  try simp only [Nat.reduceBEq, Nat.reduceMul, Nat.reduceAdd, Nat.reduceDiv, Int.reduceBEq, rules2, rowsX]
  refine go_bx rfl rfl rfl ?_
  obtain ⟨r1, hr1, h⟩ := ob h
  try simp only [Nat.reduceBEq, Nat.reduceMul, Nat.reduceAdd, Nat.reduceDiv, Int.reduceBEq, rules2, rowsX]
  refine go_callI (w_spec_TideOk _ _ hr1) rfl rfl (Nat.le_of_ble_eq_true rfl) ?_
  rcases Bool.eq_false_or_eq_true r1 with hb2 | hb2
  · rw [ite_t hb2] at h
    obtain ⟨r3, hr3, h⟩ := ob h
    try simp only [hb2, Nat.reduceBEq, Nat.reduceMul, Nat.reduceAdd, Nat.reduceDiv, Int.reduceBEq, rules2, rowsX]
    refine go_callI (w_spec_l01In _ _ _ _ hr3) rfl rfl (Nat.le_of_ble_eq_true rfl) ?_
    rcases Bool.eq_false_or_eq_true r3 with hb4 | hb4
    · rw [ite_t hb4] at h
      obtain ⟨x5, hx5, h⟩ := ob h
      rcases Bool.eq_false_or_eq_true (x5.From != (0 : Int)) with hb6 | hb6
      · rw [ite_t hb6] at h
        try simp only [hb2, hb4, hx5, hb6, Nat.reduceBEq, Nat.reduceMul, Nat.reduceAdd, Nat.reduceDiv, Int.reduceBEq, rules2, rowsX]
        cases h
        exact ⟨⟨rfl, trivial⟩, rfl⟩
      · rw [ite_f hb6] at h
        try simp only [hb2, hb4, hx5, hb6, Nat.reduceBEq, Nat.reduceMul, Nat.reduceAdd, Nat.reduceDiv, Int.reduceBEq, rules2, rowsX]
        refine w_spec_ForecastOk_1 _ _ _ _ h _ ?_
        try simp only [hb2, hb4, hx5, hb6, Nat.reduceBEq, Nat.reduceMul, Nat.reduceAdd, Nat.reduceDiv, Int.reduceBEq, rules2, rowsX, List.map_nil]
    · rw [ite_f hb4] at h
      try simp only [hb2, hb4, Nat.reduceBEq, Nat.reduceMul, Nat.reduceAdd, Nat.reduceDiv, Int.reduceBEq, rules2, rowsX]
      cases h
      exact ⟨⟨rfl, trivial⟩, rfl⟩
  · rw [ite_f hb2] at h
    try simp only [hb2, Nat.reduceBEq, Nat.reduceMul, Nat.reduceAdd, Nat.reduceDiv, Int.reduceBEq, rules2, rowsX]
    cases h
    exact ⟨⟨rfl, trivial⟩, rfl⟩
/- 35: spec_PicksOk -/
def c_spec_PicksOk_1 : ACode := .seq (.reg [(none, .keep [9, 10, 11] [] [])]) (.seq (.reg [(none, .bin 12 .lss (S 11) (S 10))]) (.seq (.cond (S 12) .skip (.exit 0)) (.seq (.block 1 (.seq (.reg [(none, .iaddr 13 (S 9) (S 11) 1), (none, .load 14 (S 13) false 1), (none, .mv 4 (S 14))]) (.seq (.reg [(none, .mv 15 (S 4)), (none, .call 16 23 [(S 15), (K 0), (K 1000)]), (none, .un 17 .not (S 16))]) (.cond (S 17) (.seq (.reg [(none, .mv 2 (KB false))]) .ret) .skip)))) (.reg [(none, .bin 18 .add (S 11) (K 1)), (none, .mv 11 (S 18))]))))
def c_spec_PicksOk_n1 : ACode := (.seq (.reg [(none, .mv 2 (KB true))]) .ret)
def c_spec_PicksOk : ACode := (.seq (.reg [(none, .mv 2 (KB false))]) (.seq (.seq (.reg [(none, .mv 5 (S 0)), (none, .len 6 (S 5)), (none, .call 7 23 [(S 6), (K 1), (K 48)]), (none, .un 8 .not (S 7))]) (.cond (S 8) (.seq (.reg [(none, .mv 2 (KB false))]) .ret) .skip)) (.seq (.seq (.reg [(none, .mv 9 (S 0)), (none, .len 10 (S 9)), (none, .mv 11 (K 0))]) (.block 0 (.loop c_spec_PicksOk_1))) c_spec_PicksOk_n1)))
theorem w_spec_PicksOk_1 (a0 : List Int) : ∀ (n : Nat) (v3 : Int) (r : Bool), f_spec_PicksOk_1 a0 n v3 = some r → ∀ σ : St, σ.kept [9, 10, 11] [] [] = ⟨[(9, vc (aL (List.map rI a0))), (10, vc (aI (a0.length : Int))), (11, vc (aI v3))], [], []⟩ → go Try.prog (.code (.loop c_spec_PicksOk_1) :: [.blk 0, .code c_spec_PicksOk_n1]) (Ret [2] [.sc (.v (.bool r))]) .normal (some σ) := by
  intro n
  induction n with
  | zero => intro _ r h; cases h
  | succ n ih =>
    intro v3 r h σ hσ
    rw [f_spec_PicksOk_1] at h
    refine go_round ?_
    rcases Bool.eq_false_or_eq_true (decide (v3 < (a0.length : Int))) with hb4 | hb4
    · rw [ite_t hb4] at h
      obtain ⟨x5, hx5, h⟩ := ob h
      obtain ⟨r6, hr6, h⟩ := ob h
      try simp only [hσ, hb4, hx5, c_spec_PicksOk_1, Nat.reduceBEq, Nat.reduceMul, Nat.reduceAdd, Nat.reduceDiv, Int.reduceBEq, rules2, rowsX]
      refine go_callI (w_spec_l01In _ _ _ _ hr6) rfl rfl (Nat.le_of_ble_eq_true rfl) ?_
      rcases Bool.eq_false_or_eq_true r6 with hb7 | hb7
      · rw [ite_t hb7] at h
        try simp only [hb4, hx5, hb7, Nat.reduceBEq, Nat.reduceMul, Nat.reduceAdd, Nat.reduceDiv, Int.reduceBEq, rules2, rowsX]
        refine ih _ _ h _ ?_
        try simp only [hb4, hx5, hb7, Nat.reduceBEq, Nat.reduceMul, Nat.reduceAdd, Nat.reduceDiv, Int.reduceBEq, rules2, rowsX, List.map_nil]
      · rw [ite_f hb7] at h
        try simp only [hb4, hx5, hb7, Nat.reduceBEq, Nat.reduceMul, Nat.reduceAdd, Nat.reduceDiv, Int.reduceBEq, rules2, rowsX]
        cases h
        exact ⟨⟨rfl, trivial⟩, rfl⟩
    · rw [ite_f hb4] at h
      try simp only [hσ, hb4, c_spec_PicksOk_1, c_spec_PicksOk_n1, Nat.reduceBEq, Nat.reduceMul, Nat.reduceAdd, Nat.reduceDiv, Int.reduceBEq, rules2, rowsX]
      cases h
      exact ⟨⟨rfl, trivial⟩, rfl⟩
theorem e_spec_PicksOk : entry Try.prog 35 = some (c_spec_PicksOk.strip, [2], 19) := by kernel_rfl
theorem w_spec_PicksOk (a0 : List Int) (r : Bool) (h : f_spec_PicksOk a0 = some r) : FC Try.prog 35 [.sc (.sl (List.map rI a0))] [.sc (.v (.bool r))] := by
  unfold f_spec_PicksOk at h
  refine FC_go (σ := ⟨[(0, vc (aL (List.map rI a0)))], [], []⟩) mixed e_spec_PicksOk rfl rfl ?_
  simp only [c_spec_PicksOk]
  obtain ⟨r1, hr1, h⟩ := ob h
  try simp only [Nat.reduceBEq, Nat.reduceMul, Nat.reduceAdd, Nat.reduceDiv, Int.reduceBEq, rules2, rowsX]
  refine go_callI (w_spec_l01In _ _ _ _ hr1) rfl rfl (Nat.le_of_ble_eq_true rfl) ?_
  rcases Bool.eq_false_or_eq_true r1 with hb2 | hb2
  · rw [ite_t hb2] at h
    try simp only [hb2, Nat.reduceBEq, Nat.reduceMul, Nat.reduceAdd, Nat.reduceDiv, Int.reduceBEq, rules2, rowsX]
    refine w_spec_PicksOk_1 _ _ _ _ h _ ?_
    try simp only [hb2, Nat.reduceBEq, Nat.reduceMul, Nat.reduceAdd, Nat.reduceDiv, Int.reduceBEq, rules2, rowsX, List.map_nil]
  · rw [ite_f hb2] at h
    try simp only [hb2, Nat.reduceBEq, Nat.reduceMul, Nat.reduceAdd, Nat.reduceDiv, Int.reduceBEq, rules2, rowsX]
    cases h
    exact ⟨⟨rfl, trivial⟩, rfl⟩
/- 60: spec_l03Surge -/
def c_spec_l03Surge_1 : ACode := .seq (.reg [(none, .keep [1, 4, 5, 13, 14, 15] [4, 5] [])]) (.seq (.reg [(none, .bin 16 .lss (S 15) (S 14))]) (.seq (.cond (S 16) .skip (.exit 0)) (.seq (.block 1 (.seq (.reg [(none, .iaddr 17 (S 13) (S 15) 3), (none, .load 18 (S 17) true 3), (none, .alloc 7 [aI 0, aI 0, aI 0]), (none, .store (S 7) (S 18) 3)]) (.seq (.reg [(none, .faddr 19 (S 7) 0), (none, .load 20 (S 19) false 1), (none, .mv 21 (S 1)), (none, .bin 22 .leq (S 20) (S 21))]) (.cond (S 22) (.reg [(none, .load 23 (S 7) true 3), (none, .store (S 5) (S 23) 3)]) .skip)))) (.reg [(none, .bin 24 .add (S 15) (K 1)), (none, .mv 15 (S 24))]))))
def c_spec_l03Surge_n1 : ACode := (.seq (.reg [(none, .load 25 (S 5) true 3), (none, .store (S 4) (S 25) 3)]) .ret)
def c_spec_l03Surge : ACode := (.seq (.reg [(none, .box 2 (S 0)), (none, .alloc 4 [aI 0, aI 0, aI 0])]) (.seq (.reg [(none, .faddr 8 (S 2) 2), (none, .load 9 (S 8) false 1), (none, .iaddr 10 (S 9) (K 0) 3), (none, .load 11 (S 10) true 3), (none, .alloc 5 [aI 0, aI 0, aI 0]), (none, .store (S 5) (S 11) 3)]) (.seq (.seq (.reg [(none, .faddr 12 (S 2) 2), (none, .load 13 (S 12) false 1), (none, .len 14 (S 13)), (none, .mv 15 (K 0))]) (.block 0 (.loop c_spec_l03Surge_1))) c_spec_l03Surge_n1)))
theorem w_spec_l03Surge_1 (a1 : Int) (a0 : XForecast) : ∀ (n : Nat) (v2 : Int) (v3 : Int) (v4 : Int) (v5 : Int) (r : XSurge), f_spec_l03Surge_1 a1 a0 n v2 v3 v4 v5 = some r → ∀ σ : St, σ.kept [1, 4, 5, 13, 14, 15] [4, 5] [] = ⟨[(1, vc (aI a1)), (4, vc (.pb 4 0)), (5, vc (.pb 5 0)), (13, vc (aL (List.map XSurge.row a0.Surges))), (14, vc (aI (a0.Surges.length : Int))), (15, vc (aI v2))], [(4, [aI (0 : Int), aI (0 : Int), aI (0 : Int)]), (5, [aI v3, aI v4, aI v5])], []⟩ → go Try.prog (.code (.loop c_spec_l03Surge_1) :: [.blk 0, .code c_spec_l03Surge_n1]) (Ret [.c 4 true 3] [.ag [.v (.int .i64 r.From), .v (.int .i64 r.Low), .v (.int .i64 r.High)]]) .normal (some σ) := by
  intro n
  induction n with
  | zero => intro _ _ _ _ r h; cases h
  | succ n ih =>
    intro v2 v3 v4 v5 r h σ hσ
    rw [f_spec_l03Surge_1] at h
    refine go_round ?_
    rcases Bool.eq_false_or_eq_true (decide (v2 < (a0.Surges.length : Int))) with hb6 | hb6
    · rw [ite_t hb6] at h
      obtain ⟨x7, hx7, h⟩ := ob h
      try simp only [hσ, hb6, hx7, c_spec_l03Surge_1, Nat.reduceBEq, Nat.reduceMul, Nat.reduceAdd, Nat.reduceDiv, Int.reduceBEq, rules2, rowsX]
      refine go_al rfl rfl ?_
      rcases Bool.eq_false_or_eq_true (decide (x7.From ≤ a1)) with hb8 | hb8
      · rw [ite_t hb8] at h
        try simp only [hb6, hx7, hb8, Nat.reduceBEq, Nat.reduceMul, Nat.reduceAdd, Nat.reduceDiv, Int.reduceBEq, rules2, rowsX]
        refine ih _ _ _ _ _ h _ ?_
        try simp only [hb6, hx7, hb8, Nat.reduceBEq, Nat.reduceMul, Nat.reduceAdd, Nat.reduceDiv, Int.reduceBEq, rules2, rowsX, List.map_nil]
      · rw [ite_f hb8] at h
        try simp only [hb6, hx7, hb8, Nat.reduceBEq, Nat.reduceMul, Nat.reduceAdd, Nat.reduceDiv, Int.reduceBEq, rules2, rowsX]
        refine ih _ _ _ _ _ h _ ?_
        try simp only [hb6, hx7, hb8, Nat.reduceBEq, Nat.reduceMul, Nat.reduceAdd, Nat.reduceDiv, Int.reduceBEq, rules2, rowsX, List.map_nil]
    · rw [ite_f hb6] at h
      try simp only [hσ, hb6, c_spec_l03Surge_1, c_spec_l03Surge_n1, Nat.reduceBEq, Nat.reduceMul, Nat.reduceAdd, Nat.reduceDiv, Int.reduceBEq, rules2, rowsX]
      cases h
      try simp only [rulesR, Nat.reduceBEq, Nat.reduceMul, Nat.reduceAdd, Nat.reduceDiv, Int.reduceBEq, rules2, rowsX]
      exact ⟨⟨⟨rfl, rfl, rfl, trivial⟩, trivial⟩, rfl⟩
theorem e_spec_l03Surge : entry Try.prog 60 = some (c_spec_l03Surge.strip, [.c 4 true 3], 26) := by kernel_rfl
theorem w_spec_l03Surge (a0 : XForecast) (a1 : Int) (r : XSurge) (h : f_spec_l03Surge a0 a1 = some r) : FC Try.prog 60 [.ag (XForecast.row a0), .sc (.int .i64 a1)] [.ag [.v (.int .i64 r.From), .v (.int .i64 r.Low), .v (.int .i64 r.High)]] := by
  unfold f_spec_l03Surge at h
  refine FC_go (σ := ⟨[(0, va [aI a0.Tide.Mean, aL (List.map XPart.row a0.Tide.Parts), aL (List.map XSurge.row a0.Surges)]), (1, vc (aI a1))], [], []⟩) mixed e_spec_l03Surge rfl rfl ?_
  simp only [c_spec_l03Surge]
  try simp only [Nat.reduceBEq, Nat.reduceMul, Nat.reduceAdd, Nat.reduceDiv, Int.reduceBEq, rules2, rowsX]
  refine go_bx rfl rfl rfl ?_
  try simp only [Nat.reduceBEq, Nat.reduceMul, Nat.reduceAdd, Nat.reduceDiv, Int.reduceBEq, rules2, rowsX]
  refine go_al rfl rfl ?_
  obtain ⟨x1, hx1, h⟩ := ob h
  try simp only [hx1, Nat.reduceBEq, Nat.reduceMul, Nat.reduceAdd, Nat.reduceDiv, Int.reduceBEq, rules2, rowsX]
  refine go_al rfl rfl ?_
  try simp only [hx1, Nat.reduceBEq, Nat.reduceMul, Nat.reduceAdd, Nat.reduceDiv, Int.reduceBEq, rules2, rowsX]
  refine w_spec_l03Surge_1 _ _ _ _ _ _ _ _ h _ ?_
  try simp only [hx1, Nat.reduceBEq, Nat.reduceMul, Nat.reduceAdd, Nat.reduceDiv, Int.reduceBEq, rules2, rowsX, List.map_nil]
/- 72: spec_Wave -/
def c_spec_Wave_1 : ACode := .seq (.reg [(none, .keep [1, 5] [] [])]) (.seq (.reg [(none, .mv 26 (S 1)), (none, .bin 27 .quo (S 26) (K 2)), (none, .mv 6 (S 27))]) (.seq (.seq (.reg [(none, .mv 28 (S 5)), (none, .mv 29 (S 6)), (none, .bin 30 .lss (S 28) (S 29))]) (.cond (S 30) (.seq (.reg [(none, .mv 31 (S 5)), (none, .bin 32 .mul (K 40000) (S 31)), (none, .mv 33 (S 6)), (none, .mv 34 (S 5)), (none, .bin 35 .sub (S 33) (S 34)), (none, .bin 36 .mul (S 32) (S 35)), (none, .mv 37 (S 6)), (none, .mv 38 (S 6)), (none, .bin 39 .mul (S 37) (S 38)), (none, .bin 40 .quo (S 36) (S 39)), (none, .mv 4 (S 40))]) .ret) .skip)) (.seq (.reg [(none, .mv 41 (S 5)), (none, .mv 42 (S 6)), (none, .bin 43 .sub (S 41) (S 42)), (none, .mv 5 (S 43))]) (.seq (.reg [(none, .mv 44 (S 5)), (none, .bin 45 .mul (K 40000) (S 44)), (none, .mv 46 (S 6)), (none, .mv 47 (S 5)), (none, .bin 48 .sub (S 46) (S 47)), (none, .bin 49 .mul (S 45) (S 48)), (none, .mv 50 (S 6)), (none, .mv 51 (S 6)), (none, .bin 52 .mul (S 50) (S 51)), (none, .bin 53 .quo (S 49) (S 52)), (none, .un 54 .neg (S 53)), (none, .mv 4 (S 54))]) .ret))))
def c_spec_Wave : ACode := (.seq (.reg [(none, .mv 4 (K 0))]) (.seq (.seq (.reg [(none, .mv 7 (S 1)), (none, .bin 8 .lss (S 7) (K 4)), (none, .mv 9 (S 8)), (some (9, false), .mv 10 (S 1)), (some (9, false), .bin 11 .gtr (S 10) (K 2880)), (none, .pick 12 (S 9) (KB true) (S 11)), (none, .mv 13 (S 12)), (some (13, false), .mv 14 (S 1)), (some (13, false), .bin 15 .rem (S 14) (K 4)), (some (13, false), .bin 16 .neq (S 15) (K 0)), (none, .pick 17 (S 13) (KB true) (S 16))]) (.cond (S 17) (.seq (.reg [(none, .mv 4 (K 0))]) .ret) .skip)) (.seq (.reg [(none, .mv 18 (S 0)), (none, .mv 19 (S 1)), (none, .bin 20 .rem (S 18) (S 19)), (none, .mv 5 (S 20))]) (.seq (.seq (.reg [(none, .mv 21 (S 5)), (none, .bin 22 .lss (S 21) (K 0))]) (.cond (S 22) (.reg [(none, .mv 23 (S 5)), (none, .mv 24 (S 1)), (none, .bin 25 .add (S 23) (S 24)), (none, .mv 5 (S 25))]) .skip)) c_spec_Wave_1))))
theorem w_spec_Wave_1 (a1 : Int) (v6 : Int) (r : Int) (h : f_spec_Wave_1 a1 v6 = some r) (σ : St) (hσ : σ.kept [1, 5] [] [] = ⟨[(1, vc (aI a1)), (5, vc (aI v6))], [], []⟩) : go Try.prog (.code c_spec_Wave_1 :: []) (Ret [4] [.sc (.v (.int .i64 r))]) .normal (some σ) := by
  unfold f_spec_Wave_1 at h
  rcases Bool.eq_false_or_eq_true (decide (v6 < (IntKind.i64.wrap (Int.tdiv a1 (2 : Int))))) with hb7 | hb7
  · rw [ite_t hb7] at h
    obtain ⟨hg8, h⟩ := of_guardn h
    try simp only [hσ, hb7, hg8, c_spec_Wave_1, Nat.reduceBEq, Nat.reduceMul, Nat.reduceAdd, Nat.reduceDiv, Int.reduceBEq, rules2, rowsX]
    cases h
    exact ⟨⟨rfl, trivial⟩, rfl⟩
  · rw [ite_f hb7] at h
    obtain ⟨hg9, h⟩ := of_guardn h
    try simp only [hσ, hb7, hg9, c_spec_Wave_1, Nat.reduceBEq, Nat.reduceMul, Nat.reduceAdd, Nat.reduceDiv, Int.reduceBEq, rules2, rowsX]
    cases h
    exact ⟨⟨rfl, trivial⟩, rfl⟩
theorem e_spec_Wave : entry Try.prog 72 = some (c_spec_Wave.strip, [4], 55) := by kernel_rfl
theorem w_spec_Wave (a0 : Int) (a1 : Int) (r : Int) (h : f_spec_Wave a0 a1 = some r) : FC Try.prog 72 [.sc (.int .i64 a0), .sc (.int .i64 a1)] [.sc (.v (.int .i64 r))] := by
  unfold f_spec_Wave at h
  refine FC_go (σ := ⟨[(0, vc (aI a0)), (1, vc (aI a1))], [], []⟩) mixed e_spec_Wave rfl rfl ?_
  simp only [c_spec_Wave]
  rcases Bool.eq_false_or_eq_true (decide (a1 < (4 : Int))) with hb1 | hb1
  · rw [ite_t hb1] at h
    try simp only [hb1, Nat.reduceBEq, Nat.reduceMul, Nat.reduceAdd, Nat.reduceDiv, Int.reduceBEq, rules2, rowsX]
    cases h
    exact ⟨⟨rfl, trivial⟩, rfl⟩
  · rw [ite_f hb1] at h
    rcases Bool.eq_false_or_eq_true (decide ((2880 : Int) < a1)) with hb2 | hb2
    · rw [ite_t hb2] at h
      try simp only [hb1, hb2, Nat.reduceBEq, Nat.reduceMul, Nat.reduceAdd, Nat.reduceDiv, Int.reduceBEq, rules2, rowsX]
      cases h
      exact ⟨⟨rfl, trivial⟩, rfl⟩
    · rw [ite_f hb2] at h
      rcases Bool.eq_false_or_eq_true ((IntKind.i64.wrap (Int.tmod a1 (4 : Int))) != (0 : Int)) with hb3 | hb3
      · rw [ite_t hb3] at h
        try simp only [hb1, hb2, hb3, Nat.reduceBEq, Nat.reduceMul, Nat.reduceAdd, Nat.reduceDiv, Int.reduceBEq, rules2, rowsX]
        cases h
        exact ⟨⟨rfl, trivial⟩, rfl⟩
      · rw [ite_f hb3] at h
        obtain ⟨hg4, h⟩ := of_guardn h
        rcases Bool.eq_false_or_eq_true (decide ((IntKind.i64.wrap (Int.tmod a0 a1)) < (0 : Int))) with hb5 | hb5
        · rw [ite_t hb5] at h
          try simp only [hb1, hb2, hb3, hg4, hb5, Nat.reduceBEq, Nat.reduceMul, Nat.reduceAdd, Nat.reduceDiv, Int.reduceBEq, rules2, rowsX]
          refine w_spec_Wave_1 _ _ _ h _ ?_
          try simp only [hb1, hb2, hb3, hg4, hb5, Nat.reduceBEq, Nat.reduceMul, Nat.reduceAdd, Nat.reduceDiv, Int.reduceBEq, rules2, rowsX, List.map_nil]
        · rw [ite_f hb5] at h
          try simp only [hb1, hb2, hb3, hg4, hb5, Nat.reduceBEq, Nat.reduceMul, Nat.reduceAdd, Nat.reduceDiv, Int.reduceBEq, rules2, rowsX]
          refine w_spec_Wave_1 _ _ _ h _ ?_
          try simp only [hb1, hb2, hb3, hg4, hb5, Nat.reduceBEq, Nat.reduceMul, Nat.reduceAdd, Nat.reduceDiv, Int.reduceBEq, rules2, rowsX, List.map_nil]
/- 61: spec_l02Level -/
def c_spec_l02Level_1 : ACode := .seq (.reg [(none, .keep [1, 5, 11, 12, 13] [] [])]) (.seq (.reg [(none, .bin 14 .lss (S 13) (S 12))]) (.seq (.cond (S 14) .skip (.exit 0)) (.seq (.block 1 (.seq (.reg [(none, .iaddr 15 (S 11) (S 13) 3), (none, .load 16 (S 15) true 3), (none, .alloc 7 [aI 0, aI 0, aI 0]), (none, .store (S 7) (S 16) 3)]) (.drw [(some [26], (none, .mv 17 (S 5))), (some [26], (none, .faddr 18 (S 7) 0)), (some [26], (none, .load 19 (S 18) false 1)), (some [], (none, .mv 20 (S 1))), (some [], (none, .faddr 21 (S 7) 2)), (some [], (none, .load 22 (S 21) false 1)), (some [], (none, .bin 23 .add (S 20) (S 22))), (some [], (none, .faddr 24 (S 7) 1)), (some [], (none, .load 25 (S 24) false 1)), (some [], (none, .call 26 72 [(S 23), (S 25)])), (some [], (none, .bin 27 .mul (S 19) (S 26))), (some [], (none, .bin 28 .quo (S 27) (K 10000))), (some [], (none, .bin 29 .add (S 17) (S 28))), (some [], (none, .mv 5 (S 29)))]))) (.reg [(none, .bin 30 .add (S 13) (K 1)), (none, .mv 13 (S 30))]))))
def c_spec_l02Level_n1 : ACode := (.seq (.reg [(none, .mv 31 (S 5)), (none, .mv 4 (S 31))]) .ret)
def c_spec_l02Level : ACode := (.seq (.reg [(none, .box 2 (S 0)), (none, .mv 4 (K 0))]) (.seq (.reg [(none, .faddr 8 (S 2) 0), (none, .load 9 (S 8) false 1), (none, .mv 5 (S 9))]) (.seq (.seq (.reg [(none, .faddr 10 (S 2) 1), (none, .load 11 (S 10) false 1), (none, .len 12 (S 11)), (none, .mv 13 (K 0))]) (.block 0 (.loop c_spec_l02Level_1))) c_spec_l02Level_n1)))
theorem w_spec_l02Level_1 (a1 : Int) (a0 : XTide) : ∀ (n : Nat) (v1 : Int) (v2 : Int) (r : Int), f_spec_l02Level_1 a1 a0 n v1 v2 = some r → ∀ σ : St, σ.kept [1, 5, 11, 12, 13] [] [] = ⟨[(1, vc (aI a1)), (5, vc (aI v1)), (11, vc (aL (List.map XPart.row a0.Parts))), (12, vc (aI (a0.Parts.length : Int))), (13, vc (aI v2))], [], []⟩ → go Try.prog (.code (.loop c_spec_l02Level_1) :: [.blk 0, .code c_spec_l02Level_n1]) (Ret [4] [.sc (.v (.int .i64 r))]) .normal (some σ) := by
  intro n
  induction n with
  | zero => intro _ _ r h; cases h
  | succ n ih =>
    intro v1 v2 r h σ hσ
    rw [f_spec_l02Level_1] at h
    refine go_round ?_
    rcases Bool.eq_false_or_eq_true (decide (v2 < (a0.Parts.length : Int))) with hb3 | hb3
    · rw [ite_t hb3] at h
      obtain ⟨x4, hx4, h⟩ := ob h
      try simp only [hσ, hb3, hx4, c_spec_l02Level_1, Nat.reduceBEq, Nat.reduceMul, Nat.reduceAdd, Nat.reduceDiv, Int.reduceBEq, rules2, rowsX]
      refine go_al rfl rfl ?_
      try simp only [hb3, hx4, Nat.reduceBEq, Nat.reduceMul, Nat.reduceAdd, Nat.reduceDiv, Int.reduceBEq, rules2, rowsX]
      refine go_fr_of rfl ?_
      obtain ⟨r5, hr5, h⟩ := ob h
      try simp only [hb3, hx4, Nat.reduceBEq, Nat.reduceMul, Nat.reduceAdd, Nat.reduceDiv, Int.reduceBEq, rules2, rowsX]
      refine go_callI (w_spec_Wave _ _ _ hr5) rfl rfl (Nat.le_of_ble_eq_true rfl) ?_
      try simp only [hb3, hx4, Nat.reduceBEq, Nat.reduceMul, Nat.reduceAdd, Nat.reduceDiv, Int.reduceBEq, rules2, rowsX]
      refine ih _ _ _ h _ ?_
      try simp only [hb3, hx4, Nat.reduceBEq, Nat.reduceMul, Nat.reduceAdd, Nat.reduceDiv, Int.reduceBEq, rules2, rowsX, List.map_nil]
    · rw [ite_f hb3] at h
      try simp only [hσ, hb3, c_spec_l02Level_1, c_spec_l02Level_n1, Nat.reduceBEq, Nat.reduceMul, Nat.reduceAdd, Nat.reduceDiv, Int.reduceBEq, rules2, rowsX]
      cases h
      exact ⟨⟨rfl, trivial⟩, rfl⟩
theorem e_spec_l02Level : entry Try.prog 61 = some (c_spec_l02Level.strip, [4], 32) := by kernel_rfl
theorem w_spec_l02Level (a0 : XTide) (a1 : Int) (r : Int) (h : f_spec_l02Level a0 a1 = some r) : FC Try.prog 61 [.ag (XTide.row a0), .sc (.int .i64 a1)] [.sc (.v (.int .i64 r))] := by
  unfold f_spec_l02Level at h
  refine FC_go (σ := ⟨[(0, va [aI a0.Mean, aL (List.map XPart.row a0.Parts)]), (1, vc (aI a1))], [], []⟩) mixed e_spec_l02Level rfl rfl ?_
  simp only [c_spec_l02Level]
  try simp only [Nat.reduceBEq, Nat.reduceMul, Nat.reduceAdd, Nat.reduceDiv, Int.reduceBEq, rules2, rowsX]
  refine go_bx rfl rfl rfl ?_
  try simp only [Nat.reduceBEq, Nat.reduceMul, Nat.reduceAdd, Nat.reduceDiv, Int.reduceBEq, rules2, rowsX]
  refine w_spec_l02Level_1 _ _ _ _ _ _ h _ ?_
  try simp only [Nat.reduceBEq, Nat.reduceMul, Nat.reduceAdd, Nat.reduceDiv, Int.reduceBEq, rules2, rowsX, List.map_nil]
/- 36: spec_l24Level -/
def c_spec_l24Level : ACode := (.seq (.reg [(none, .box 3 (S 0)), (none, .mv 6 (K 0))]) (.seq (.reg [(none, .load 9 (S 3) true 3), (none, .mv 10 (S 2)), (none, .call 11 60 [(S 9), (S 10)]), (none, .alloc 7 [aI 0, aI 0, aI 0]), (none, .store (S 7) (S 11) 3)]) (.seq (.reg [(none, .mv 12 (S 1)), (none, .mv 13 (S 2)), (none, .bin 14 .quo (S 13) (K 60)), (none, .mv 15 (S 1)), (none, .len 16 (S 15)), (none, .bin 17 .sub (S 16) (K 1)), (none, .mm 18 false (S 14) (S 17)), (none, .iaddr 19 (S 12) (S 18) 1), (none, .load 20 (S 19) false 1), (none, .mv 8 (S 20))]) (.seq (.drw [(some [], (none, .faddr 21 (S 3) 0)), (some [], (none, .load 22 (S 21) true 2)), (some [], (none, .mv 23 (S 2))), (some [], (none, .call 24 61 [(S 22), (S 23)])), (some [24], (none, .faddr 25 (S 7) 1)), (some [24], (none, .load 26 (S 25) false 1)), (some [], (none, .bin 27 .add (S 24) (S 26))), (some [24], (none, .faddr 28 (S 7) 2)), (some [24], (none, .load 29 (S 28) false 1)), (some [24], (none, .faddr 30 (S 7) 1)), (some [24], (none, .load 31 (S 30) false 1)), (some [24], (none, .bin 32 .sub (S 29) (S 31))), (some [24], (none, .mv 33 (S 8))), (some [24], (none, .bin 34 .mul (S 32) (S 33))), (some [24], (none, .bin 35 .quo (S 34) (K 1000))), (some [], (none, .bin 36 .add (S 27) (S 35))), (some [], (none, .mv 6 (S 36)))]) .ret))))
theorem e_spec_l24Level : entry Try.prog 36 = some (c_spec_l24Level.strip, [6], 37) := by kernel_rfl
theorem w_spec_l24Level (a0 : XForecast) (a1 : List Int) (a2 : Int) (r : Int) (h : f_spec_l24Level a0 a1 a2 = some r) : FC Try.prog 36 [.ag (XForecast.row a0), .sc (.sl (List.map rI a1)), .sc (.int .i64 a2)] [.sc (.v (.int .i64 r))] := by
  unfold f_spec_l24Level at h
  refine FC_go (σ := ⟨[(0, va [aI a0.Tide.Mean, aL (List.map XPart.row a0.Tide.Parts), aL (List.map XSurge.row a0.Surges)]), (1, vc (aL (List.map rI a1))), (2, vc (aI a2))], [], []⟩) mixed e_spec_l24Level rfl rfl ?_
  simp only [c_spec_l24Level]
  try simp only [Nat.reduceBEq, Nat.reduceMul, Nat.reduceAdd, Nat.reduceDiv, Int.reduceBEq, rules2, rowsX]
  refine go_bx rfl rfl rfl ?_
  obtain ⟨r1, hr1, h⟩ := ob h
  try simp only [Nat.reduceBEq, Nat.reduceMul, Nat.reduceAdd, Nat.reduceDiv, Int.reduceBEq, rules2, rowsX]
  refine go_callI (w_spec_l03Surge _ _ _ hr1) rfl rfl (Nat.le_of_ble_eq_true rfl) ?_
  try simp only [Nat.reduceBEq, Nat.reduceMul, Nat.reduceAdd, Nat.reduceDiv, Int.reduceBEq, rules2, rowsX]
  refine go_al rfl rfl ?_
  obtain ⟨x2, hx2, h⟩ := ob h
  try simp only [hx2, Nat.reduceBEq, Nat.reduceMul, Nat.reduceAdd, Nat.reduceDiv, Int.reduceBEq, rules2, rowsX]
  refine go_fr_of rfl ?_
  obtain ⟨r3, hr3, h⟩ := ob h
  try simp only [hx2, Nat.reduceBEq, Nat.reduceMul, Nat.reduceAdd, Nat.reduceDiv, Int.reduceBEq, rules2, rowsX]
  refine go_callI (w_spec_l02Level _ _ _ hr3) rfl rfl (Nat.le_of_ble_eq_true rfl) ?_
  try simp only [hx2, Nat.reduceBEq, Nat.reduceMul, Nat.reduceAdd, Nat.reduceDiv, Int.reduceBEq, rules2, rowsX]
  cases h
  exact ⟨⟨rfl, trivial⟩, rfl⟩
/- 14: spec_LevelOn -/
def c_spec_LevelOn : ACode := (.seq (.reg [(none, .box 3 (S 0)), (none, .mv 6 (K 0))]) (.seq (.seq (.reg [(none, .load 7 (S 3) true 3), (none, .call 8 34 [(S 7)]), (none, .un 9 .not (S 8)), (none, .mv 10 (S 9)), (some (10, false), .mv 11 (S 1)), (some (10, false), .call 12 35 [(S 11)]), (some (10, false), .un 13 .not (S 12)), (none, .pick 14 (S 10) (KB true) (S 13)), (none, .mv 15 (S 14)), (some (15, false), .mv 16 (S 2)), (some (15, false), .call 17 23 [(S 16), (K 0), (K 2880)]), (some (15, false), .un 18 .not (S 17)), (none, .pick 19 (S 15) (KB true) (S 18))]) (.cond (S 19) (.seq (.reg [(none, .mv 6 (K 0))]) .ret) .skip)) (.seq (.reg [(none, .load 20 (S 3) true 3), (none, .mv 21 (S 1)), (none, .mv 22 (S 2)), (none, .call 23 36 [(S 20), (S 21), (S 22)]), (none, .mv 6 (S 23))]) .ret)))
theorem e_spec_LevelOn : entry Try.prog 14 = some (c_spec_LevelOn.strip, [6], 24) := by kernel_rfl
theorem w_spec_LevelOn (a0 : XForecast) (a1 : List Int) (a2 : Int) (r : Int) (h : f_spec_LevelOn a0 a1 a2 = some r) : FC Try.prog 14 [.ag (XForecast.row a0), .sc (.sl (List.map rI a1)), .sc (.int .i64 a2)] [.sc (.v (.int .i64 r))] := by
  unfold f_spec_LevelOn at h
  refine FC_go (σ := ⟨[(0, va [aI a0.Tide.Mean, aL (List.map XPart.row a0.Tide.Parts), aL (List.map XSurge.row a0.Surges)]), (1, vc (aL (List.map rI a1))), (2, vc (aI a2))], [], []⟩) mixed e_spec_LevelOn rfl rfl ?_
  simp only [c_spec_LevelOn]
  try simp only [Nat.reduceBEq, Nat.reduceMul, Nat.reduceAdd, Nat.reduceDiv, Int.reduceBEq, rules2, rowsX]
  refine go_bx rfl rfl rfl ?_
  obtain ⟨r1, hr1, h⟩ := ob h
  try simp only [Nat.reduceBEq, Nat.reduceMul, Nat.reduceAdd, Nat.reduceDiv, Int.reduceBEq, rules2, rowsX]
  refine go_callI (w_spec_ForecastOk _ _ hr1) rfl rfl (Nat.le_of_ble_eq_true rfl) ?_
  rcases Bool.eq_false_or_eq_true r1 with hb2 | hb2
  · rw [ite_t hb2] at h
    obtain ⟨r3, hr3, h⟩ := ob h
    try simp only [hb2, Nat.reduceBEq, Nat.reduceMul, Nat.reduceAdd, Nat.reduceDiv, Int.reduceBEq, rules2, rowsX]
    refine go_callI (w_spec_PicksOk _ _ hr3) rfl rfl (Nat.le_of_ble_eq_true rfl) ?_
    rcases Bool.eq_false_or_eq_true r3 with hb4 | hb4
    · rw [ite_t hb4] at h
      obtain ⟨r5, hr5, h⟩ := ob h
      try simp only [hb2, hb4, Nat.reduceBEq, Nat.reduceMul, Nat.reduceAdd, Nat.reduceDiv, Int.reduceBEq, rules2, rowsX]
      refine go_callI (w_spec_l01In _ _ _ _ hr5) rfl rfl (Nat.le_of_ble_eq_true rfl) ?_
      rcases Bool.eq_false_or_eq_true r5 with hb6 | hb6
      · rw [ite_t hb6] at h
        obtain ⟨r7, hr7, h⟩ := ob h
        try simp only [hb2, hb4, hb6, Nat.reduceBEq, Nat.reduceMul, Nat.reduceAdd, Nat.reduceDiv, Int.reduceBEq, rules2, rowsX]
        refine go_callI (w_spec_l24Level _ _ _ _ hr7) rfl rfl (Nat.le_of_ble_eq_true rfl) ?_
        try simp only [hb2, hb4, hb6, Nat.reduceBEq, Nat.reduceMul, Nat.reduceAdd, Nat.reduceDiv, Int.reduceBEq, rules2, rowsX]
        cases h
        exact ⟨⟨rfl, trivial⟩, rfl⟩
      · rw [ite_f hb6] at h
        try simp only [hb2, hb4, hb6, Nat.reduceBEq, Nat.reduceMul, Nat.reduceAdd, Nat.reduceDiv, Int.reduceBEq, rules2, rowsX]
        cases h
        exact ⟨⟨rfl, trivial⟩, rfl⟩
    · rw [ite_f hb4] at h
      try simp only [hb2, hb4, Nat.reduceBEq, Nat.reduceMul, Nat.reduceAdd, Nat.reduceDiv, Int.reduceBEq, rules2, rowsX]
      cases h
      exact ⟨⟨rfl, trivial⟩, rfl⟩
  · rw [ite_f hb2] at h
    try simp only [hb2, Nat.reduceBEq, Nat.reduceMul, Nat.reduceAdd, Nat.reduceDiv, Int.reduceBEq, rules2, rowsX]
    cases h
    exact ⟨⟨rfl, trivial⟩, rfl⟩
/- 53: impl_within -/
def c_impl_within : ACode := (.seq (.reg [(none, .mv 6 (KB false))]) (.seq (.reg [(none, .mv 7 (S 1)), (none, .mv 8 (S 0)), (none, .bin 9 .leq (S 7) (S 8)), (none, .mv 10 (S 9)), (some (10, true), .mv 11 (S 0)), (some (10, true), .mv 12 (S 2)), (some (10, true), .bin 13 .leq (S 11) (S 12)), (none, .pick 14 (S 10) (S 13) (KB false)), (none, .mv 6 (S 14))]) .ret))
theorem e_impl_within : entry Try.prog 53 = some (c_impl_within.strip, [6], 15) := by kernel_rfl
theorem w_impl_within (a0 : Int) (a1 : Int) (a2 : Int) (r : Bool) (h : f_impl_within a0 a1 a2 = some r) : FC Try.prog 53 [.sc (.int .i64 a0), .sc (.int .i64 a1), .sc (.int .i64 a2)] [.sc (.v (.bool r))] := by
  unfold f_impl_within at h
  refine FC_go (σ := ⟨[(0, vc (aI a0)), (1, vc (aI a1)), (2, vc (aI a2))], [], []⟩) mixed e_impl_within rfl rfl ?_
  simp only [c_impl_within]
  rcases Bool.eq_false_or_eq_true (decide (a1 ≤ a0)) with hb1 | hb1
  · rw [ite_t hb1] at h
    try simp only [hb1, Nat.reduceBEq, Nat.reduceMul, Nat.reduceAdd, Nat.reduceDiv, Int.reduceBEq, rules2, rowsX]
    cases h
    exact ⟨⟨rfl, trivial⟩, rfl⟩
  · rw [ite_f hb1] at h
    try simp only [hb1, Nat.reduceBEq, Nat.reduceMul, Nat.reduceAdd, Nat.reduceDiv, Int.reduceBEq, rules2, rowsX]
    cases h
    exact ⟨⟨rfl, trivial⟩, rfl⟩
/- 78: impl_isPeriod -/
def c_impl_isPeriod : ACode := (.seq (.reg [(none, .mv 2 (KB false))]) (.seq (.reg [(none, .mv 3 (S 0)), (none, .call 4 53 [(S 3), (K 4), (K 2880)]), (none, .mv 5 (S 4)), (some (5, true), .mv 6 (S 0)), (some (5, true), .bin 7 .rem (S 6) (K 4)), (some (5, true), .bin 8 .eql (S 7) (K 0)), (none, .pick 9 (S 5) (S 8) (KB false)), (none, .mv 2 (S 9))]) .ret))
theorem e_impl_isPeriod : entry Try.prog 78 = some (c_impl_isPeriod.strip, [2], 10) := by kernel_rfl
theorem w_impl_isPeriod (a0 : Int) (r : Bool) (h : f_impl_isPeriod a0 = some r) : FC Try.prog 78 [.sc (.int .i64 a0)] [.sc (.v (.bool r))] := by
  unfold f_impl_isPeriod at h
  refine FC_go (σ := ⟨[(0, vc (aI a0))], [], []⟩) mixed e_impl_isPeriod rfl rfl ?_
  simp only [c_impl_isPeriod]
  obtain ⟨r1, hr1, h⟩ := ob h
  try simp only [Nat.reduceBEq, Nat.reduceMul, Nat.reduceAdd, Nat.reduceDiv, Int.reduceBEq, rules2, rowsX]
  refine go_callI (w_impl_within _ _ _ _ hr1) rfl rfl (Nat.le_of_ble_eq_true rfl) ?_
  rcases Bool.eq_false_or_eq_true r1 with hb2 | hb2
  · rw [ite_t hb2] at h
    try simp only [hb2, Nat.reduceBEq, Nat.reduceMul, Nat.reduceAdd, Nat.reduceDiv, Int.reduceBEq, rules2, rowsX]
    cases h
    exact ⟨⟨rfl, trivial⟩, rfl⟩
  · rw [ite_f hb2] at h
    try simp only [hb2, Nat.reduceBEq, Nat.reduceMul, Nat.reduceAdd, Nat.reduceDiv, Int.reduceBEq, rules2, rowsX]
    cases h
    exact ⟨⟨rfl, trivial⟩, rfl⟩
/- 74: impl_PartOk -/
def c_impl_PartOk : ACode := (.seq (.reg [(none, .box 1 (S 0)), (none, .mv 2 (KB false))]) (.seq (.reg [(none, .faddr 3 (S 1) 0), (none, .load 4 (S 3) false 1), (none, .call 5 53 [(S 4), (K 0), (K 1000)]), (none, .mv 6 (S 5)), (some (6, true), .faddr 7 (S 1) 1), (some (6, true), .load 8 (S 7) false 1), (some (6, true), .call 9 78 [(S 8)]), (none, .pick 10 (S 6) (S 9) (KB false)), (none, .mv 11 (S 10)), (some (11, true), .faddr 12 (S 1) 2), (some (11, true), .load 13 (S 12) false 1), (some (11, true), .faddr 14 (S 1) 1), (some (11, true), .load 15 (S 14) false 1), (some (11, true), .bin 16 .sub (S 15) (K 1)), (some (11, true), .call 17 53 [(S 13), (K 0), (S 16)]), (none, .pick 18 (S 11) (S 17) (KB false)), (none, .mv 2 (S 18))]) .ret))
theorem e_impl_PartOk : entry Try.prog 74 = some (c_impl_PartOk.strip, [2], 19) := by kernel_rfl
theorem w_impl_PartOk (a0 : XPart) (r : Bool) (h : f_impl_PartOk a0 = some r) : FC Try.prog 74 [.ag (XPart.row a0)] [.sc (.v (.bool r))] := by
  unfold f_impl_PartOk at h
  refine FC_go (σ := ⟨[(0, va [aI a0.Amp, aI a0.Period, aI a0.Phase])], [], []⟩) mixed e_impl_PartOk rfl rfl ?_
  simp only [c_impl_PartOk]
  try simp only [Nat.reduceBEq, Nat.reduceMul, Nat.reduceAdd, Nat.reduceDiv, Int.reduceBEq, rules2, rowsX]
  refine go_bx rfl rfl rfl ?_
  obtain ⟨r1, hr1, h⟩ := ob h
  try simp only [Nat.reduceBEq, Nat.reduceMul, Nat.reduceAdd, Nat.reduceDiv, Int.reduceBEq, rules2, rowsX]
  refine go_callI (w_impl_within _ _ _ _ hr1) rfl rfl (Nat.le_of_ble_eq_true rfl) ?_
  rcases Bool.eq_false_or_eq_true r1 with hb2 | hb2
  · rw [ite_t hb2] at h
    obtain ⟨r3, hr3, h⟩ := ob h
    try simp only [hb2, Nat.reduceBEq, Nat.reduceMul, Nat.reduceAdd, Nat.reduceDiv, Int.reduceBEq, rules2, rowsX]
    refine go_callI (w_impl_isPeriod _ _ hr3) rfl rfl (Nat.le_of_ble_eq_true rfl) ?_
    rcases Bool.eq_false_or_eq_true r3 with hb4 | hb4
    · rw [ite_t hb4] at h
      obtain ⟨r5, hr5, h⟩ := ob h
      try simp only [hb2, hb4, Nat.reduceBEq, Nat.reduceMul, Nat.reduceAdd, Nat.reduceDiv, Int.reduceBEq, rules2, rowsX]
      refine go_callI (w_impl_within _ _ _ _ hr5) rfl rfl (Nat.le_of_ble_eq_true rfl) ?_
      try simp only [hb2, hb4, Nat.reduceBEq, Nat.reduceMul, Nat.reduceAdd, Nat.reduceDiv, Int.reduceBEq, rules2, rowsX]
      cases h
      exact ⟨⟨rfl, trivial⟩, rfl⟩
    · rw [ite_f hb4] at h
      try simp only [hb2, hb4, Nat.reduceBEq, Nat.reduceMul, Nat.reduceAdd, Nat.reduceDiv, Int.reduceBEq, rules2, rowsX]
      cases h
      exact ⟨⟨rfl, trivial⟩, rfl⟩
  · rw [ite_f hb2] at h
    try simp only [hb2, Nat.reduceBEq, Nat.reduceMul, Nat.reduceAdd, Nat.reduceDiv, Int.reduceBEq, rules2, rowsX]
    cases h
    exact ⟨⟨rfl, trivial⟩, rfl⟩
/- 64: impl_TideOk -/
def c_impl_TideOk_1 : ACode := .seq (.reg [(none, .keep [16, 17, 18] [] [])]) (.seq (.reg [(none, .bin 19 .lss (S 18) (S 17))]) (.seq (.cond (S 19) .skip (.exit 0)) (.seq (.block 1 (.seq (.reg [(none, .iaddr 20 (S 16) (S 18) 3), (none, .load 21 (S 20) true 3), (none, .alloc 4 [aI 0, aI 0, aI 0]), (none, .store (S 4) (S 21) 3)]) (.seq (.reg [(none, .load 22 (S 4) true 3), (none, .call 23 74 [(S 22)]), (none, .un 24 .not (S 23))]) (.cond (S 24) (.seq (.reg [(none, .mv 2 (KB false))]) .ret) .skip)))) (.reg [(none, .bin 25 .add (S 18) (K 1)), (none, .mv 18 (S 25))]))))
def c_impl_TideOk_n1 : ACode := (.seq (.reg [(none, .mv 2 (KB true))]) .ret)
def c_impl_TideOk : ACode := (.seq (.reg [(none, .box 1 (S 0)), (none, .mv 2 (KB false))]) (.seq (.seq (.reg [(none, .faddr 5 (S 1) 0), (none, .load 6 (S 5) false 1), (none, .call 7 53 [(S 6), (K (-1000)), (K 1000)]), (none, .un 8 .not (S 7)), (none, .mv 9 (S 8)), (some (9, false), .faddr 10 (S 1) 1), (some (9, false), .load 11 (S 10) false 1), (some (9, false), .len 12 (S 11)), (some (9, false), .bin 13 .gtr (S 12) (K 4)), (none, .pick 14 (S 9) (KB true) (S 13))]) (.cond (S 14) (.seq (.reg [(none, .mv 2 (KB false))]) .ret) .skip)) (.seq (.seq (.reg [(none, .faddr 15 (S 1) 1), (none, .load 16 (S 15) false 1), (none, .len 17 (S 16)), (none, .mv 18 (K 0))]) (.block 0 (.loop c_impl_TideOk_1))) c_impl_TideOk_n1)))
theorem w_impl_TideOk_1 (a0 : XTide) : ∀ (n : Nat) (v4 : Int) (r : Bool), f_impl_TideOk_1 a0 n v4 = some r → ∀ σ : St, σ.kept [16, 17, 18] [] [] = ⟨[(16, vc (aL (List.map XPart.row a0.Parts))), (17, vc (aI (a0.Parts.length : Int))), (18, vc (aI v4))], [], []⟩ → go Try.prog (.code (.loop c_impl_TideOk_1) :: [.blk 0, .code c_impl_TideOk_n1]) (Ret [2] [.sc (.v (.bool r))]) .normal (some σ) := by
  intro n
  induction n with
  | zero => intro _ r h; cases h
  | succ n ih =>
    intro v4 r h σ hσ
    rw [f_impl_TideOk_1] at h
    refine go_round ?_
    rcases Bool.eq_false_or_eq_true (decide (v4 < (a0.Parts.length : Int))) with hb5 | hb5
    · rw [ite_t hb5] at h
      obtain ⟨x6, hx6, h⟩ := ob h
      try simp only [hσ, hb5, hx6, c_impl_TideOk_1, Nat.reduceBEq, Nat.reduceMul, Nat.reduceAdd, Nat.reduceDiv, Int.reduceBEq, rules2, rowsX]
      refine go_al rfl rfl ?_
      obtain ⟨r7, hr7, h⟩ := ob h
      try simp only [hb5, hx6, Nat.reduceBEq, Nat.reduceMul, Nat.reduceAdd, Nat.reduceDiv, Int.reduceBEq, rules2, rowsX]
      refine go_callI (w_impl_PartOk _ _ hr7) rfl rfl (Nat.le_of_ble_eq_true rfl) ?_
      rcases Bool.eq_false_or_eq_true r7 with hb8 | hb8
      · rw [ite_t hb8] at h
        try simp only [hb5, hx6, hb8, Nat.reduceBEq, Nat.reduceMul, Nat.reduceAdd, Nat.reduceDiv, Int.reduceBEq, rules2, rowsX]
        refine ih _ _ h _ ?_
        try simp only [hb5, hx6, hb8, Nat.reduceBEq, Nat.reduceMul, Nat.reduceAdd, Nat.reduceDiv, Int.reduceBEq, rules2, rowsX, List.map_nil]
      · rw [ite_f hb8] at h
        try simp only [hb5, hx6, hb8, Nat.reduceBEq, Nat.reduceMul, Nat.reduceAdd, Nat.reduceDiv, Int.reduceBEq, rules2, rowsX]
        cases h
        exact ⟨⟨rfl, trivial⟩, rfl⟩
    · rw [ite_f hb5] at h
      try simp only [hσ, hb5, c_impl_TideOk_1, c_impl_TideOk_n1, Nat.reduceBEq, Nat.reduceMul, Nat.reduceAdd, Nat.reduceDiv, Int.reduceBEq, rules2, rowsX]
      cases h
      exact ⟨⟨rfl, trivial⟩, rfl⟩
theorem e_impl_TideOk : entry Try.prog 64 = some (c_impl_TideOk.strip, [2], 26) := by kernel_rfl
theorem w_impl_TideOk (a0 : XTide) (r : Bool) (h : f_impl_TideOk a0 = some r) : FC Try.prog 64 [.ag (XTide.row a0)] [.sc (.v (.bool r))] := by
  unfold f_impl_TideOk at h
  refine FC_go (σ := ⟨[(0, va [aI a0.Mean, aL (List.map XPart.row a0.Parts)])], [], []⟩) mixed e_impl_TideOk rfl rfl ?_
  simp only [c_impl_TideOk]
  try simp only [Nat.reduceBEq, Nat.reduceMul, Nat.reduceAdd, Nat.reduceDiv, Int.reduceBEq, rules2, rowsX]
  refine go_bx rfl rfl rfl ?_
  obtain ⟨r1, hr1, h⟩ := ob h
  try simp only [Nat.reduceBEq, Nat.reduceMul, Nat.reduceAdd, Nat.reduceDiv, Int.reduceBEq, rules2, rowsX]
  refine go_callI (w_impl_within _ _ _ _ hr1) rfl rfl (Nat.le_of_ble_eq_true rfl) ?_
  rcases Bool.eq_false_or_eq_true r1 with hb2 | hb2
  · rw [ite_t hb2] at h
    rcases Bool.eq_false_or_eq_true (decide ((4 : Int) < (a0.Parts.length : Int))) with hb3 | hb3
    · rw [ite_t hb3] at h
      try simp only [hb2, hb3, Nat.reduceBEq, Nat.reduceMul, Nat.reduceAdd, Nat.reduceDiv, Int.reduceBEq, rules2, rowsX]
      cases h
      exact ⟨⟨rfl, trivial⟩, rfl⟩
    · rw [ite_f hb3] at h
      try simp only [hb2, hb3, Nat.reduceBEq, Nat.reduceMul, Nat.reduceAdd, Nat.reduceDiv, Int.reduceBEq, rules2, rowsX]
      refine w_impl_TideOk_1 _ _ _ _ h _ ?_
      try simp only [hb2, hb3, Nat.reduceBEq, Nat.reduceMul, Nat.reduceAdd, Nat.reduceDiv, Int.reduceBEq, rules2, rowsX, List.map_nil]
  · rw [ite_f hb2] at h
    try simp only [hb2, Nat.reduceBEq, Nat.reduceMul, Nat.reduceAdd, Nat.reduceDiv, Int.reduceBEq, rules2, rowsX]
    cases h
    exact ⟨⟨rfl, trivial⟩, rfl⟩
/- 41: impl_isMinute -/
def c_impl_isMinute : ACode := (.seq (.reg [(none, .mv 2 (KB false))]) (.seq (.reg [(none, .mv 3 (S 0)), (none, .call 4 53 [(S 3), (K 0), (K 2880)]), (none, .mv 2 (S 4))]) .ret))
theorem e_impl_isMinute : entry Try.prog 41 = some (c_impl_isMinute.strip, [2], 5) := by kernel_rfl
theorem w_impl_isMinute (a0 : Int) (r : Bool) (h : f_impl_isMinute a0 = some r) : FC Try.prog 41 [.sc (.int .i64 a0)] [.sc (.v (.bool r))] := by
  unfold f_impl_isMinute at h
  refine FC_go (σ := ⟨[(0, vc (aI a0))], [], []⟩) mixed e_impl_isMinute rfl rfl ?_
  simp only [c_impl_isMinute]
  obtain ⟨r1, hr1, h⟩ := ob h
  try simp only [Nat.reduceBEq, Nat.reduceMul, Nat.reduceAdd, Nat.reduceDiv, Int.reduceBEq, rules2, rowsX]
  refine go_callI (w_impl_within _ _ _ _ hr1) rfl rfl (Nat.le_of_ble_eq_true rfl) ?_
  try simp only [Nat.reduceBEq, Nat.reduceMul, Nat.reduceAdd, Nat.reduceDiv, Int.reduceBEq, rules2, rowsX]
  cases h
  exact ⟨⟨rfl, trivial⟩, rfl⟩
/- 65: impl_SurgeOk -/
def c_impl_SurgeOk : ACode := (.seq (.reg [(none, .box 1 (S 0)), (none, .mv 2 (KB false))]) (.seq (.reg [(none, .faddr 3 (S 1) 0), (none, .load 4 (S 3) false 1), (none, .call 5 41 [(S 4)]), (none, .mv 6 (S 5)), (some (6, true), .faddr 7 (S 1) 1), (some (6, true), .load 8 (S 7) false 1), (some (6, true), .bin 9 .leq (K (-500)) (S 8)), (none, .pick 10 (S 6) (S 9) (KB false)), (none, .mv 11 (S 10)), (some (11, true), .faddr 12 (S 1) 1), (some (11, true), .load 13 (S 12) false 1), (some (11, true), .faddr 14 (S 1) 2), (some (11, true), .load 15 (S 14) false 1), (some (11, true), .bin 16 .leq (S 13) (S 15)), (none, .pick 17 (S 11) (S 16) (KB false)), (none, .mv 18 (S 17)), (some (18, true), .faddr 19 (S 1) 2), (some (18, true), .load 20 (S 19) false 1), (some (18, true), .bin 21 .leq (S 20) (K 500)), (none, .pick 22 (S 18) (S 21) (KB false)), (none, .mv 2 (S 22))]) .ret))
theorem e_impl_SurgeOk : entry Try.prog 65 = some (c_impl_SurgeOk.strip, [2], 23) := by kernel_rfl
theorem w_impl_SurgeOk (a0 : XSurge) (r : Bool) (h : f_impl_SurgeOk a0 = some r) : FC Try.prog 65 [.ag (XSurge.row a0)] [.sc (.v (.bool r))] := by
  unfold f_impl_SurgeOk at h
  refine FC_go (σ := ⟨[(0, va [aI a0.From, aI a0.Low, aI a0.High])], [], []⟩) mixed e_impl_SurgeOk rfl rfl ?_
  simp only [c_impl_SurgeOk]
  try simp only [Nat.reduceBEq, Nat.reduceMul, Nat.reduceAdd, Nat.reduceDiv, Int.reduceBEq, rules2, rowsX]
  refine go_bx rfl rfl rfl ?_
  obtain ⟨r1, hr1, h⟩ := ob h
  try simp only [Nat.reduceBEq, Nat.reduceMul, Nat.reduceAdd, Nat.reduceDiv, Int.reduceBEq, rules2, rowsX]
  refine go_callI (w_impl_isMinute _ _ hr1) rfl rfl (Nat.le_of_ble_eq_true rfl) ?_
  rcases Bool.eq_false_or_eq_true r1 with hb2 | hb2
  · rw [ite_t hb2] at h
    rcases Bool.eq_false_or_eq_true (decide ((-500 : Int) ≤ a0.Low)) with hb3 | hb3
    · rw [ite_t hb3] at h
      rcases Bool.eq_false_or_eq_true (decide (a0.Low ≤ a0.High)) with hb4 | hb4
      · rw [ite_t hb4] at h
        try simp only [hb2, hb3, hb4, Nat.reduceBEq, Nat.reduceMul, Nat.reduceAdd, Nat.reduceDiv, Int.reduceBEq, rules2, rowsX]
        cases h
        exact ⟨⟨rfl, trivial⟩, rfl⟩
      · rw [ite_f hb4] at h
        try simp only [hb2, hb3, hb4, Nat.reduceBEq, Nat.reduceMul, Nat.reduceAdd, Nat.reduceDiv, Int.reduceBEq, rules2, rowsX]
        cases h
        exact ⟨⟨rfl, trivial⟩, rfl⟩
    · rw [ite_f hb3] at h
      try simp only [hb2, hb3, Nat.reduceBEq, Nat.reduceMul, Nat.reduceAdd, Nat.reduceDiv, Int.reduceBEq, rules2, rowsX]
      cases h
      exact ⟨⟨rfl, trivial⟩, rfl⟩
  · rw [ite_f hb2] at h
    try simp only [hb2, Nat.reduceBEq, Nat.reduceMul, Nat.reduceAdd, Nat.reduceDiv, Int.reduceBEq, rules2, rowsX]
    cases h
    exact ⟨⟨rfl, trivial⟩, rfl⟩
/- 39: impl_ForecastOk -/
def c_impl_ForecastOk_1 : ACode := .seq (.reg [(none, .keep [1, 25, 26, 27] [1] [])]) (.seq (.reg [(none, .bin 28 .lss (S 27) (S 26))]) (.seq (.cond (S 28) .skip (.exit 0)) (.seq (.block 1 (.seq (.reg [(none, .mv 29 (S 27)), (none, .iaddr 30 (S 25) (S 27) 3), (none, .load 31 (S 30) true 3), (none, .alloc 4 [aI 0, aI 0, aI 0]), (none, .mv 3 (S 29)), (none, .store (S 4) (S 31) 3)]) (.seq (.drw [(some [], (none, .load 32 (S 4) true 3)), (some [], (none, .call 33 65 [(S 32)])), (some [], (none, .un 34 .not (S 33))), (some [], (none, .mv 35 (S 34))), (some [], (some (35, false), .mv 36 (S 3))), (some [], (some (35, false), .bin 37 .gtr (S 36) (K 0))), (some [], (some (35, false), .mv 38 (S 37))), (some [], (some (38, true), .faddr 39 (S 1) 2)), (some [], (some (38, true), .load 40 (S 39) false 1)), (some [], (some (38, true), .mv 41 (S 3))), (some [], (some (38, true), .bin 42 .sub (S 41) (K 1))), (some [], (some (38, true), .iaddr 43 (S 40) (S 42) 3)), (some [], (some (38, true), .faddr 44 (S 43) 0)), (some [], (some (38, true), .load 45 (S 44) false 1)), (some [], (some (38, true), .faddr 46 (S 4) 0)), (some [], (some (38, true), .load 47 (S 46) false 1)), (some [], (some (38, true), .bin 48 .geq (S 45) (S 47))), (some [], (some (35, false), .pick 49 (S 38) (S 48) (KB false))), (some [], (none, .pick 50 (S 35) (KB true) (S 49)))]) (.cond (S 50) (.seq (.reg [(none, .mv 2 (KB false))]) .ret) .skip)))) (.reg [(none, .bin 51 .add (S 27) (K 1)), (none, .mv 27 (S 51))]))))
def c_impl_ForecastOk_n1 : ACode := (.seq (.reg [(none, .mv 2 (KB true))]) .ret)
def c_impl_ForecastOk : ACode := (.seq (.reg [(none, .box 1 (S 0)), (none, .mv 2 (KB false))]) (.seq (.seq (.reg [(none, .faddr 5 (S 1) 0), (none, .load 6 (S 5) true 2), (none, .call 7 64 [(S 6)]), (none, .un 8 .not (S 7)), (none, .mv 9 (S 8)), (some (9, false), .faddr 10 (S 1) 2), (some (9, false), .load 11 (S 10) false 1), (some (9, false), .len 12 (S 11)), (some (9, false), .call 13 53 [(S 12), (K 1), (K 6)]), (some (9, false), .un 14 .not (S 13)), (none, .pick 15 (S 9) (KB true) (S 14)), (none, .mv 16 (S 15)), (some (16, false), .faddr 17 (S 1) 2), (some (16, false), .load 18 (S 17) false 1), (some (16, false), .iaddr 19 (S 18) (K 0) 3), (some (16, false), .faddr 20 (S 19) 0), (some (16, false), .load 21 (S 20) false 1), (some (16, false), .bin 22 .neq (S 21) (K 0)), (none, .pick 23 (S 16) (KB true) (S 22))]) (.cond (S 23) (.seq (.reg [(none, .mv 2 (KB false))]) .ret) .skip)) (.seq (.seq (.reg [(none, .faddr 24 (S 1) 2), (none, .load 25 (S 24) false 1), (none, .len 26 (S 25)), (none, .mv 27 (K 0))]) (.block 0 (.loop c_impl_ForecastOk_1))) c_impl_ForecastOk_n1)))
theorem w_impl_ForecastOk_1 (a0 : XForecast) : ∀ (n : Nat) (v7 : Int) (r : Bool), f_impl_ForecastOk_1 a0 n v7 = some r → ∀ σ : St, σ.kept [1, 25, 26, 27] [1] [] = ⟨[(1, vc (.pb 1 0)), (25, vc (aL (List.map XSurge.row a0.Surges))), (26, vc (aI (a0.Surges.length : Int))), (27, vc (aI v7))], [(1, [aI a0.Tide.Mean, aL (List.map XPart.row a0.Tide.Parts), aL (List.map XSurge.row a0.Surges)])], []⟩ → go Try.prog (.code (.loop c_impl_ForecastOk_1) :: [.blk 0, .code c_impl_ForecastOk_n1]) (Ret [2] [.sc (.v (.bool r))]) .normal (some σ) := by
  intro n
  induction n with
  | zero => intro _ r h; cases h
  | succ n ih =>
    intro v7 r h σ hσ
    rw [f_impl_ForecastOk_1] at h
    refine go_round ?_
    rcases Bool.eq_false_or_eq_true (decide (v7 < (a0.Surges.length : Int))) with hb8 | hb8
    · rw [ite_t hb8] at h
      obtain ⟨x9, hx9, h⟩ := ob h
      try simp only [hσ, hb8, hx9, c_impl_ForecastOk_1, Nat.reduceBEq, Nat.reduceMul, Nat.reduceAdd, Nat.reduceDiv, Int.reduceBEq, rules2, rowsX]
      refine go_al rfl rfl ?_
      try simp only [hb8, hx9, Nat.reduceBEq, Nat.reduceMul, Nat.reduceAdd, Nat.reduceDiv, Int.reduceBEq, rules2, rowsX]
      refine go_fr_of rfl ?_
      obtain ⟨r10, hr10, h⟩ := ob h
      try simp only [hb8, hx9, Nat.reduceBEq, Nat.reduceMul, Nat.reduceAdd, Nat.reduceDiv, Int.reduceBEq, rules2, rowsX]
      refine go_callI (w_impl_SurgeOk _ _ hr10) rfl rfl (Nat.le_of_ble_eq_true rfl) ?_
      rcases Bool.eq_false_or_eq_true r10 with hb11 | hb11
      · rw [ite_t hb11] at h
        rcases Bool.eq_false_or_eq_true (decide ((0 : Int) < v7)) with hb12 | hb12
        · rw [ite_t hb12] at h
          obtain ⟨x13, hx13, h⟩ := ob h
          rcases Bool.eq_false_or_eq_true (decide (x9.From ≤ x13.From)) with hb14 | hb14
          · rw [ite_t hb14] at h
            try simp only [hb8, hx9, hb11, hb12, hx13, hb14, Nat.reduceBEq, Nat.reduceMul, Nat.reduceAdd, Nat.reduceDiv, Int.reduceBEq, rules2, rowsX]
            cases h
            exact ⟨⟨rfl, trivial⟩, rfl⟩
          · rw [ite_f hb14] at h
            try simp only [hb8, hx9, hb11, hb12, hx13, hb14, Nat.reduceBEq, Nat.reduceMul, Nat.reduceAdd, Nat.reduceDiv, Int.reduceBEq, rules2, rowsX]
            refine ih _ _ h _ ?_
            try simp only [hb8, hx9, hb11, hb12, hx13, hb14, Nat.reduceBEq, Nat.reduceMul, Nat.reduceAdd, Nat.reduceDiv, Int.reduceBEq, rules2, rowsX, List.map_nil]
        · rw [ite_f hb12] at h
          try simp only [hb8, hx9, hb11, hb12, Nat.reduceBEq, Nat.reduceMul, Nat.reduceAdd, Nat.reduceDiv, Int.reduceBEq, rules2, rowsX]
          refine ih _ _ h _ ?_
          try simp only [hb8, hx9, hb11, hb12, Nat.reduceBEq, Nat.reduceMul, Nat.reduceAdd, Nat.reduceDiv, Int.reduceBEq, rules2, rowsX, List.map_nil]
      · rw [ite_f hb11] at h
        try simp only [hb8, hx9, hb11, Nat.reduceBEq, Nat.reduceMul, Nat.reduceAdd, Nat.reduceDiv, Int.reduceBEq, rules2, rowsX]
        cases h
        exact ⟨⟨rfl, trivial⟩, rfl⟩
    · rw [ite_f hb8] at h
      try simp only [hσ, hb8, c_impl_ForecastOk_1, c_impl_ForecastOk_n1, Nat.reduceBEq, Nat.reduceMul, Nat.reduceAdd, Nat.reduceDiv, Int.reduceBEq, rules2, rowsX]
      cases h
      exact ⟨⟨rfl, trivial⟩, rfl⟩
theorem e_impl_ForecastOk : entry Try.prog 39 = some (c_impl_ForecastOk.strip, [2], 52) := by kernel_rfl
theorem w_impl_ForecastOk (a0 : XForecast) (r : Bool) (h : f_impl_ForecastOk a0 = some r) : FC Try.prog 39 [.ag (XForecast.row a0)] [.sc (.v (.bool r))] := by
  unfold f_impl_ForecastOk at h
  refine FC_go (σ := ⟨[(0, va [aI a0.Tide.Mean, aL (List.map XPart.row a0.Tide.Parts), aL (List.map XSurge.row a0.Surges)])], [], []⟩) mixed e_impl_ForecastOk rfl rfl ?_
  simp only [c_impl_ForecastOk]
  try simp only [Nat.reduceBEq, Nat.reduceMul, Nat.reduceAdd, Nat.reduceDiv, Int.reduceBEq, rules2, rowsX]
  refine go_bx rfl rfl rfl ?_
  obtain ⟨r1, hr1, h⟩ := ob h
  try simp only [Nat.reduceBEq, Nat.reduceMul, Nat.reduceAdd, Nat.reduceDiv, Int.reduceBEq, rules2, rowsX]
  refine go_callI (w_impl_TideOk _ _ hr1) rfl rfl (Nat.le_of_ble_eq_true rfl) ?_
  rcases Bool.eq_false_or_eq_true r1 with hb2 | hb2
  · rw [ite_t hb2] at h
    obtain ⟨r3, hr3, h⟩ := ob h
    try simp only [hb2, Nat.reduceBEq, Nat.reduceMul, Nat.reduceAdd, Nat.reduceDiv, Int.reduceBEq, rules2, rowsX]
    refine go_callI (w_impl_within _ _ _ _ hr3) rfl rfl (Nat.le_of_ble_eq_true rfl) ?_
    rcases Bool.eq_false_or_eq_true r3 with hb4 | hb4
    · rw [ite_t hb4] at h
      obtain ⟨x5, hx5, h⟩ := ob h
      rcases Bool.eq_false_or_eq_true (x5.From != (0 : Int)) with hb6 | hb6
      · rw [ite_t hb6] at h
        try simp only [hb2, hb4, hx5, hb6, Nat.reduceBEq, Nat.reduceMul, Nat.reduceAdd, Nat.reduceDiv, Int.reduceBEq, rules2, rowsX]
        cases h
        exact ⟨⟨rfl, trivial⟩, rfl⟩
      · rw [ite_f hb6] at h
        try simp only [hb2, hb4, hx5, hb6, Nat.reduceBEq, Nat.reduceMul, Nat.reduceAdd, Nat.reduceDiv, Int.reduceBEq, rules2, rowsX]
        refine w_impl_ForecastOk_1 _ _ _ _ h _ ?_
        try simp only [hb2, hb4, hx5, hb6, Nat.reduceBEq, Nat.reduceMul, Nat.reduceAdd, Nat.reduceDiv, Int.reduceBEq, rules2, rowsX, List.map_nil]
    · rw [ite_f hb4] at h
      try simp only [hb2, hb4, Nat.reduceBEq, Nat.reduceMul, Nat.reduceAdd, Nat.reduceDiv, Int.reduceBEq, rules2, rowsX]
      cases h
      exact ⟨⟨rfl, trivial⟩, rfl⟩
  · rw [ite_f hb2] at h
    try simp only [hb2, Nat.reduceBEq, Nat.reduceMul, Nat.reduceAdd, Nat.reduceDiv, Int.reduceBEq, rules2, rowsX]
    cases h
    exact ⟨⟨rfl, trivial⟩, rfl⟩
/- 40: impl_PicksOk -/
def c_impl_PicksOk_1 : ACode := .seq (.reg [(none, .keep [9, 10, 11] [] [])]) (.seq (.reg [(none, .bin 12 .lss (S 11) (S 10))]) (.seq (.cond (S 12) .skip (.exit 0)) (.seq (.block 1 (.seq (.reg [(none, .iaddr 13 (S 9) (S 11) 1), (none, .load 14 (S 13) false 1), (none, .mv 4 (S 14))]) (.seq (.reg [(none, .mv 15 (S 4)), (none, .call 16 53 [(S 15), (K 0), (K 1000)]), (none, .un 17 .not (S 16))]) (.cond (S 17) (.seq (.reg [(none, .mv 2 (KB false))]) .ret) .skip)))) (.reg [(none, .bin 18 .add (S 11) (K 1)), (none, .mv 11 (S 18))]))))
def c_impl_PicksOk_n1 : ACode := (.seq (.reg [(none, .mv 2 (KB true))]) .ret)
def c_impl_PicksOk : ACode := (.seq (.reg [(none, .mv 2 (KB false))]) (.seq (.seq (.reg [(none, .mv 5 (S 0)), (none, .len 6 (S 5)), (none, .call 7 53 [(S 6), (K 1), (K 48)]), (none, .un 8 .not (S 7))]) (.cond (S 8) (.seq (.reg [(none, .mv 2 (KB false))]) .ret) .skip)) (.seq (.seq (.reg [(none, .mv 9 (S 0)), (none, .len 10 (S 9)), (none, .mv 11 (K 0))]) (.block 0 (.loop c_impl_PicksOk_1))) c_impl_PicksOk_n1)))
theorem w_impl_PicksOk_1 (a0 : List Int) : ∀ (n : Nat) (v3 : Int) (r : Bool), f_impl_PicksOk_1 a0 n v3 = some r → ∀ σ : St, σ.kept [9, 10, 11] [] [] = ⟨[(9, vc (aL (List.map rI a0))), (10, vc (aI (a0.length : Int))), (11, vc (aI v3))], [], []⟩ → go Try.prog (.code (.loop c_impl_PicksOk_1) :: [.blk 0, .code c_impl_PicksOk_n1]) (Ret [2] [.sc (.v (.bool r))]) .normal (some σ) := by
  intro n
  induction n with
  | zero => intro _ r h; cases h
  | succ n ih =>
    intro v3 r h σ hσ
    rw [f_impl_PicksOk_1] at h
    refine go_round ?_
    rcases Bool.eq_false_or_eq_true (decide (v3 < (a0.length : Int))) with hb4 | hb4
    · rw [ite_t hb4] at h
      obtain ⟨x5, hx5, h⟩ := ob h
      obtain ⟨r6, hr6, h⟩ := ob h
      try simp only [hσ, hb4, hx5, c_impl_PicksOk_1, Nat.reduceBEq, Nat.reduceMul, Nat.reduceAdd, Nat.reduceDiv, Int.reduceBEq, rules2, rowsX]
      refine go_callI (w_impl_within _ _ _ _ hr6) rfl rfl (Nat.le_of_ble_eq_true rfl) ?_
      rcases Bool.eq_false_or_eq_true r6 with hb7 | hb7
      · rw [ite_t hb7] at h
        try simp only [hb4, hx5, hb7, Nat.reduceBEq, Nat.reduceMul, Nat.reduceAdd, Nat.reduceDiv, Int.reduceBEq, rules2, rowsX]
        refine ih _ _ h _ ?_
        try simp only [hb4, hx5, hb7, Nat.reduceBEq, Nat.reduceMul, Nat.reduceAdd, Nat.reduceDiv, Int.reduceBEq, rules2, rowsX, List.map_nil]
      · rw [ite_f hb7] at h
        try simp only [hb4, hx5, hb7, Nat.reduceBEq, Nat.reduceMul, Nat.reduceAdd, Nat.reduceDiv, Int.reduceBEq, rules2, rowsX]
        cases h
        exact ⟨⟨rfl, trivial⟩, rfl⟩
    · rw [ite_f hb4] at h
      try simp only [hσ, hb4, c_impl_PicksOk_1, c_impl_PicksOk_n1, Nat.reduceBEq, Nat.reduceMul, Nat.reduceAdd, Nat.reduceDiv, Int.reduceBEq, rules2, rowsX]
      cases h
      exact ⟨⟨rfl, trivial⟩, rfl⟩
theorem e_impl_PicksOk : entry Try.prog 40 = some (c_impl_PicksOk.strip, [2], 19) := by kernel_rfl
theorem w_impl_PicksOk (a0 : List Int) (r : Bool) (h : f_impl_PicksOk a0 = some r) : FC Try.prog 40 [.sc (.sl (List.map rI a0))] [.sc (.v (.bool r))] := by
  unfold f_impl_PicksOk at h
  refine FC_go (σ := ⟨[(0, vc (aL (List.map rI a0)))], [], []⟩) mixed e_impl_PicksOk rfl rfl ?_
  simp only [c_impl_PicksOk]
  obtain ⟨r1, hr1, h⟩ := ob h
  try simp only [Nat.reduceBEq, Nat.reduceMul, Nat.reduceAdd, Nat.reduceDiv, Int.reduceBEq, rules2, rowsX]
  refine go_callI (w_impl_within _ _ _ _ hr1) rfl rfl (Nat.le_of_ble_eq_true rfl) ?_
  rcases Bool.eq_false_or_eq_true r1 with hb2 | hb2
  · rw [ite_t hb2] at h
    try simp only [hb2, Nat.reduceBEq, Nat.reduceMul, Nat.reduceAdd, Nat.reduceDiv, Int.reduceBEq, rules2, rowsX]
    refine w_impl_PicksOk_1 _ _ _ _ h _ ?_
    try simp only [hb2, Nat.reduceBEq, Nat.reduceMul, Nat.reduceAdd, Nat.reduceDiv, Int.reduceBEq, rules2, rowsX, List.map_nil]
  · rw [ite_f hb2] at h
    try simp only [hb2, Nat.reduceBEq, Nat.reduceMul, Nat.reduceAdd, Nat.reduceDiv, Int.reduceBEq, rules2, rowsX]
    cases h
    exact ⟨⟨rfl, trivial⟩, rfl⟩
/- 79: impl_Wave -/
def c_impl_Wave : ACode := (.seq (.reg [(none, .mv 4 (K 0))]) (.seq (.seq (.reg [(none, .mv 7 (S 1)), (none, .call 8 78 [(S 7)]), (none, .un 9 .not (S 8))]) (.cond (S 9) (.seq (.reg [(none, .mv 4 (K 0))]) .ret) .skip)) (.seq (.reg [(none, .mv 10 (S 0)), (none, .mv 11 (S 1)), (none, .bin 12 .rem (S 10) (S 11)), (none, .mv 13 (S 1)), (none, .bin 14 .add (S 12) (S 13)), (none, .mv 15 (S 1)), (none, .bin 16 .rem (S 14) (S 15)), (none, .mv 5 (S 16))]) (.seq (.reg [(none, .mv 17 (S 1)), (none, .bin 18 .quo (S 17) (K 2)), (none, .mv 6 (S 18))]) (.seq (.seq (.reg [(none, .mv 19 (S 5)), (none, .mv 20 (S 6)), (none, .bin 21 .geq (S 19) (S 20))]) (.cond (S 21) (.seq (.reg [(none, .mv 22 (S 5)), (none, .mv 23 (S 6)), (none, .bin 24 .sub (S 22) (S 23)), (none, .mv 5 (S 24))]) (.seq (.reg [(none, .mv 25 (S 5)), (none, .bin 26 .mul (K 40000) (S 25)), (none, .mv 27 (S 6)), (none, .mv 28 (S 5)), (none, .bin 29 .sub (S 27) (S 28)), (none, .bin 30 .mul (S 26) (S 29)), (none, .mv 31 (S 6)), (none, .mv 32 (S 6)), (none, .bin 33 .mul (S 31) (S 32)), (none, .bin 34 .quo (S 30) (S 33)), (none, .un 35 .neg (S 34)), (none, .mv 4 (S 35))]) .ret)) .skip)) (.seq (.reg [(none, .mv 36 (S 5)), (none, .bin 37 .mul (K 40000) (S 36)), (none, .mv 38 (S 6)), (none, .mv 39 (S 5)), (none, .bin 40 .sub (S 38) (S 39)), (none, .bin 41 .mul (S 37) (S 40)), (none, .mv 42 (S 6)), (none, .mv 43 (S 6)), (none, .bin 44 .mul (S 42) (S 43)), (none, .bin 45 .quo (S 41) (S 44)), (none, .mv 4 (S 45))]) .ret))))))
theorem e_impl_Wave : entry Try.prog 79 = some (c_impl_Wave.strip, [4], 46) := by kernel_rfl
theorem w_impl_Wave (a0 : Int) (a1 : Int) (r : Int) (h : f_impl_Wave a0 a1 = some r) : FC Try.prog 79 [.sc (.int .i64 a0), .sc (.int .i64 a1)] [.sc (.v (.int .i64 r))] := by
  unfold f_impl_Wave at h
  refine FC_go (σ := ⟨[(0, vc (aI a0)), (1, vc (aI a1))], [], []⟩) mixed e_impl_Wave rfl rfl ?_
  simp only [c_impl_Wave]
  obtain ⟨r1, hr1, h⟩ := ob h
  try simp only [Nat.reduceBEq, Nat.reduceMul, Nat.reduceAdd, Nat.reduceDiv, Int.reduceBEq, rules2, rowsX]
  refine go_callI (w_impl_isPeriod _ _ hr1) rfl rfl (Nat.le_of_ble_eq_true rfl) ?_
  rcases Bool.eq_false_or_eq_true r1 with hb2 | hb2
  · rw [ite_t hb2] at h
    obtain ⟨hg3, h⟩ := of_guardn h
    obtain ⟨hg4, h⟩ := of_guardn h
    rcases Bool.eq_false_or_eq_true (decide ((IntKind.i64.wrap (Int.tdiv a1 (2 : Int))) ≤ (IntKind.i64.wrap (Int.tmod (IntKind.i64.wrap ((IntKind.i64.wrap (Int.tmod a0 a1)) + a1)) a1)))) with hb5 | hb5
    · rw [ite_t hb5] at h
      obtain ⟨hg6, h⟩ := of_guardn h
      try simp only [hb2, hg3, hg4, hb5, hg6, Nat.reduceBEq, Nat.reduceMul, Nat.reduceAdd, Nat.reduceDiv, Int.reduceBEq, rules2, rowsX]
      cases h
      exact ⟨⟨rfl, trivial⟩, rfl⟩
    · rw [ite_f hb5] at h
      obtain ⟨hg7, h⟩ := of_guardn h
      try simp only [hb2, hg3, hg4, hb5, hg7, Nat.reduceBEq, Nat.reduceMul, Nat.reduceAdd, Nat.reduceDiv, Int.reduceBEq, rules2, rowsX]
      cases h
      exact ⟨⟨rfl, trivial⟩, rfl⟩
  · rw [ite_f hb2] at h
    try simp only [hb2, Nat.reduceBEq, Nat.reduceMul, Nat.reduceAdd, Nat.reduceDiv, Int.reduceBEq, rules2, rowsX]
    cases h
    exact ⟨⟨rfl, trivial⟩, rfl⟩
/- 75: impl_Tide_level -/
def c_impl_Tide_level_1 : ACode := .seq (.reg [(none, .keep [1, 5, 11, 12, 13] [] [])]) (.seq (.reg [(none, .bin 14 .lss (S 13) (S 12))]) (.seq (.cond (S 14) .skip (.exit 0)) (.seq (.block 1 (.seq (.reg [(none, .iaddr 15 (S 11) (S 13) 3), (none, .load 16 (S 15) true 3), (none, .alloc 7 [aI 0, aI 0, aI 0]), (none, .store (S 7) (S 16) 3)]) (.drw [(some [26], (none, .mv 17 (S 5))), (some [26], (none, .faddr 18 (S 7) 0)), (some [26], (none, .load 19 (S 18) false 1)), (some [], (none, .mv 20 (S 1))), (some [], (none, .faddr 21 (S 7) 2)), (some [], (none, .load 22 (S 21) false 1)), (some [], (none, .bin 23 .add (S 20) (S 22))), (some [], (none, .faddr 24 (S 7) 1)), (some [], (none, .load 25 (S 24) false 1)), (some [], (none, .call 26 79 [(S 23), (S 25)])), (some [], (none, .bin 27 .mul (S 19) (S 26))), (some [], (none, .bin 28 .quo (S 27) (K 10000))), (some [], (none, .bin 29 .add (S 17) (S 28))), (some [], (none, .mv 5 (S 29)))]))) (.reg [(none, .bin 30 .add (S 13) (K 1)), (none, .mv 13 (S 30))]))))
def c_impl_Tide_level_n1 : ACode := (.seq (.reg [(none, .mv 31 (S 5)), (none, .mv 4 (S 31))]) .ret)
def c_impl_Tide_level : ACode := (.seq (.reg [(none, .box 2 (S 0)), (none, .mv 4 (K 0))]) (.seq (.reg [(none, .faddr 8 (S 2) 0), (none, .load 9 (S 8) false 1), (none, .mv 5 (S 9))]) (.seq (.seq (.reg [(none, .faddr 10 (S 2) 1), (none, .load 11 (S 10) false 1), (none, .len 12 (S 11)), (none, .mv 13 (K 0))]) (.block 0 (.loop c_impl_Tide_level_1))) c_impl_Tide_level_n1)))
theorem w_impl_Tide_level_1 (a1 : Int) (a0 : XTide) : ∀ (n : Nat) (v1 : Int) (v2 : Int) (r : Int), f_impl_Tide_level_1 a1 a0 n v1 v2 = some r → ∀ σ : St, σ.kept [1, 5, 11, 12, 13] [] [] = ⟨[(1, vc (aI a1)), (5, vc (aI v1)), (11, vc (aL (List.map XPart.row a0.Parts))), (12, vc (aI (a0.Parts.length : Int))), (13, vc (aI v2))], [], []⟩ → go Try.prog (.code (.loop c_impl_Tide_level_1) :: [.blk 0, .code c_impl_Tide_level_n1]) (Ret [4] [.sc (.v (.int .i64 r))]) .normal (some σ) := by
  intro n
  induction n with
  | zero => intro _ _ r h; cases h
  | succ n ih =>
    intro v1 v2 r h σ hσ
    rw [f_impl_Tide_level_1] at h
    refine go_round ?_
    rcases Bool.eq_false_or_eq_true (decide (v2 < (a0.Parts.length : Int))) with hb3 | hb3
    · rw [ite_t hb3] at h
      obtain ⟨x4, hx4, h⟩ := ob h
      try simp only [hσ, hb3, hx4, c_impl_Tide_level_1, Nat.reduceBEq, Nat.reduceMul, Nat.reduceAdd, Nat.reduceDiv, Int.reduceBEq, rules2, rowsX]
      refine go_al rfl rfl ?_
      try simp only [hb3, hx4, Nat.reduceBEq, Nat.reduceMul, Nat.reduceAdd, Nat.reduceDiv, Int.reduceBEq, rules2, rowsX]
      refine go_fr_of rfl ?_
      obtain ⟨r5, hr5, h⟩ := ob h
      try simp only [hb3, hx4, Nat.reduceBEq, Nat.reduceMul, Nat.reduceAdd, Nat.reduceDiv, Int.reduceBEq, rules2, rowsX]
      refine go_callI (w_impl_Wave _ _ _ hr5) rfl rfl (Nat.le_of_ble_eq_true rfl) ?_
      try simp only [hb3, hx4, Nat.reduceBEq, Nat.reduceMul, Nat.reduceAdd, Nat.reduceDiv, Int.reduceBEq, rules2, rowsX]
      refine ih _ _ _ h _ ?_
      try simp only [hb3, hx4, Nat.reduceBEq, Nat.reduceMul, Nat.reduceAdd, Nat.reduceDiv, Int.reduceBEq, rules2, rowsX, List.map_nil]
    · rw [ite_f hb3] at h
      try simp only [hσ, hb3, c_impl_Tide_level_1, c_impl_Tide_level_n1, Nat.reduceBEq, Nat.reduceMul, Nat.reduceAdd, Nat.reduceDiv, Int.reduceBEq, rules2, rowsX]
      cases h
      exact ⟨⟨rfl, trivial⟩, rfl⟩
theorem e_impl_Tide_level : entry Try.prog 75 = some (c_impl_Tide_level.strip, [4], 32) := by kernel_rfl
theorem w_impl_Tide_level (a0 : XTide) (a1 : Int) (r : Int) (h : f_impl_Tide_level a0 a1 = some r) : FC Try.prog 75 [.ag (XTide.row a0), .sc (.int .i64 a1)] [.sc (.v (.int .i64 r))] := by
  unfold f_impl_Tide_level at h
  refine FC_go (σ := ⟨[(0, va [aI a0.Mean, aL (List.map XPart.row a0.Parts)]), (1, vc (aI a1))], [], []⟩) mixed e_impl_Tide_level rfl rfl ?_
  simp only [c_impl_Tide_level]
  try simp only [Nat.reduceBEq, Nat.reduceMul, Nat.reduceAdd, Nat.reduceDiv, Int.reduceBEq, rules2, rowsX]
  refine go_bx rfl rfl rfl ?_
  try simp only [Nat.reduceBEq, Nat.reduceMul, Nat.reduceAdd, Nat.reduceDiv, Int.reduceBEq, rules2, rowsX]
  refine w_impl_Tide_level_1 _ _ _ _ _ _ h _ ?_
  try simp only [Nat.reduceBEq, Nat.reduceMul, Nat.reduceAdd, Nat.reduceDiv, Int.reduceBEq, rules2, rowsX, List.map_nil]
/- 76: impl_Forecast_surge -/
def c_impl_Forecast_surge_1 : ACode := .seq (.reg [(none, .keep [1, 5, 9, 10, 11] [] [])]) (.seq (.reg [(none, .bin 12 .lss (S 11) (S 10))]) (.seq (.cond (S 12) .skip (.exit 0)) (.seq (.block 1 (.seq (.reg [(none, .mv 13 (S 11)), (none, .iaddr 14 (S 9) (S 11) 3), (none, .load 15 (S 14) true 3), (none, .alloc 7 [aI 0, aI 0, aI 0]), (none, .mv 6 (S 13)), (none, .store (S 7) (S 15) 3)]) (.seq (.reg [(none, .faddr 16 (S 7) 0), (none, .load 17 (S 16) false 1), (none, .mv 18 (S 1)), (none, .bin 19 .leq (S 17) (S 18))]) (.cond (S 19) (.reg [(none, .mv 20 (S 6)), (none, .mv 5 (S 20))]) .skip)))) (.reg [(none, .bin 21 .add (S 11) (K 1)), (none, .mv 11 (S 21))]))))
def c_impl_Forecast_surge_n1 : ACode := (.seq (.reg [(none, .mv 22 (S 5)), (none, .mv 4 (S 22))]) .ret)
def c_impl_Forecast_surge : ACode := (.seq (.reg [(none, .box 2 (S 0)), (none, .mv 4 (K 0))]) (.seq (.reg [(none, .mv 5 (K 0))]) (.seq (.seq (.reg [(none, .faddr 8 (S 2) 2), (none, .load 9 (S 8) false 1), (none, .len 10 (S 9)), (none, .mv 11 (K 0))]) (.block 0 (.loop c_impl_Forecast_surge_1))) c_impl_Forecast_surge_n1)))
theorem w_impl_Forecast_surge_1 (a1 : Int) (a0 : XForecast) : ∀ (n : Nat) (v1 : Int) (v2 : Int) (r : Int), f_impl_Forecast_surge_1 a1 a0 n v1 v2 = some r → ∀ σ : St, σ.kept [1, 5, 9, 10, 11] [] [] = ⟨[(1, vc (aI a1)), (5, vc (aI v1)), (9, vc (aL (List.map XSurge.row a0.Surges))), (10, vc (aI (a0.Surges.length : Int))), (11, vc (aI v2))], [], []⟩ → go Try.prog (.code (.loop c_impl_Forecast_surge_1) :: [.blk 0, .code c_impl_Forecast_surge_n1]) (Ret [4] [.sc (.v (.int .i64 r))]) .normal (some σ) := by
  intro n
  induction n with
  | zero => intro _ _ r h; cases h
  | succ n ih =>
    intro v1 v2 r h σ hσ
    rw [f_impl_Forecast_surge_1] at h
    refine go_round ?_
    rcases Bool.eq_false_or_eq_true (decide (v2 < (a0.Surges.length : Int))) with hb3 | hb3
    · rw [ite_t hb3] at h
      obtain ⟨x4, hx4, h⟩ := ob h
      try simp only [hσ, hb3, hx4, c_impl_Forecast_surge_1, Nat.reduceBEq, Nat.reduceMul, Nat.reduceAdd, Nat.reduceDiv, Int.reduceBEq, rules2, rowsX]
      refine go_al rfl rfl ?_
      rcases Bool.eq_false_or_eq_true (decide (x4.From ≤ a1)) with hb5 | hb5
      · rw [ite_t hb5] at h
        try simp only [hb3, hx4, hb5, Nat.reduceBEq, Nat.reduceMul, Nat.reduceAdd, Nat.reduceDiv, Int.reduceBEq, rules2, rowsX]
        refine ih _ _ _ h _ ?_
        try simp only [hb3, hx4, hb5, Nat.reduceBEq, Nat.reduceMul, Nat.reduceAdd, Nat.reduceDiv, Int.reduceBEq, rules2, rowsX, List.map_nil]
      · rw [ite_f hb5] at h
        try simp only [hb3, hx4, hb5, Nat.reduceBEq, Nat.reduceMul, Nat.reduceAdd, Nat.reduceDiv, Int.reduceBEq, rules2, rowsX]
        refine ih _ _ _ h _ ?_
        try simp only [hb3, hx4, hb5, Nat.reduceBEq, Nat.reduceMul, Nat.reduceAdd, Nat.reduceDiv, Int.reduceBEq, rules2, rowsX, List.map_nil]
    · rw [ite_f hb3] at h
      try simp only [hσ, hb3, c_impl_Forecast_surge_1, c_impl_Forecast_surge_n1, Nat.reduceBEq, Nat.reduceMul, Nat.reduceAdd, Nat.reduceDiv, Int.reduceBEq, rules2, rowsX]
      cases h
      exact ⟨⟨rfl, trivial⟩, rfl⟩
theorem e_impl_Forecast_surge : entry Try.prog 76 = some (c_impl_Forecast_surge.strip, [4], 23) := by kernel_rfl
theorem w_impl_Forecast_surge (a0 : XForecast) (a1 : Int) (r : Int) (h : f_impl_Forecast_surge a0 a1 = some r) : FC Try.prog 76 [.ag (XForecast.row a0), .sc (.int .i64 a1)] [.sc (.v (.int .i64 r))] := by
  unfold f_impl_Forecast_surge at h
  refine FC_go (σ := ⟨[(0, va [aI a0.Tide.Mean, aL (List.map XPart.row a0.Tide.Parts), aL (List.map XSurge.row a0.Surges)]), (1, vc (aI a1))], [], []⟩) mixed e_impl_Forecast_surge rfl rfl ?_
  simp only [c_impl_Forecast_surge]
  try simp only [Nat.reduceBEq, Nat.reduceMul, Nat.reduceAdd, Nat.reduceDiv, Int.reduceBEq, rules2, rowsX]
  refine go_bx rfl rfl rfl ?_
  try simp only [Nat.reduceBEq, Nat.reduceMul, Nat.reduceAdd, Nat.reduceDiv, Int.reduceBEq, rules2, rowsX]
  refine w_impl_Forecast_surge_1 _ _ _ _ _ _ h _ ?_
  try simp only [Nat.reduceBEq, Nat.reduceMul, Nat.reduceAdd, Nat.reduceDiv, Int.reduceBEq, rules2, rowsX, List.map_nil]
/- 66: impl_Forecast_low -/
def c_impl_Forecast_low : ACode := (.seq (.reg [(none, .box 2 (S 0)), (none, .mv 4 (K 0))]) (.seq (.drw [(some [], (none, .faddr 5 (S 2) 0)), (some [], (none, .load 6 (S 5) true 2)), (some [], (none, .mv 7 (S 1))), (some [], (none, .call 8 75 [(S 6), (S 7)])), (some [8, 13], (none, .faddr 9 (S 2) 2)), (some [8, 13], (none, .load 10 (S 9) false 1)), (some [8], (none, .load 11 (S 2) true 3)), (some [8], (none, .mv 12 (S 1))), (some [], (none, .call 13 76 [(S 11), (S 12)])), (some [], (none, .iaddr 14 (S 10) (S 13) 3)), (some [], (none, .faddr 15 (S 14) 1)), (some [], (none, .load 16 (S 15) false 1)), (some [], (none, .bin 17 .add (S 8) (S 16))), (some [], (none, .mv 4 (S 17)))]) .ret))
theorem e_impl_Forecast_low : entry Try.prog 66 = some (c_impl_Forecast_low.strip, [4], 18) := by kernel_rfl
theorem w_impl_Forecast_low (a0 : XForecast) (a1 : Int) (r : Int) (h : f_impl_Forecast_low a0 a1 = some r) : FC Try.prog 66 [.ag (XForecast.row a0), .sc (.int .i64 a1)] [.sc (.v (.int .i64 r))] := by
  unfold f_impl_Forecast_low at h
  refine FC_go (σ := ⟨[(0, va [aI a0.Tide.Mean, aL (List.map XPart.row a0.Tide.Parts), aL (List.map XSurge.row a0.Surges)]), (1, vc (aI a1))], [], []⟩) mixed e_impl_Forecast_low rfl rfl ?_
  simp only [c_impl_Forecast_low]
  try simp only [Nat.reduceBEq, Nat.reduceMul, Nat.reduceAdd, Nat.reduceDiv, Int.reduceBEq, rules2, rowsX]
  refine go_bx rfl rfl rfl ?_
  try simp only [Nat.reduceBEq, Nat.reduceMul, Nat.reduceAdd, Nat.reduceDiv, Int.reduceBEq, rules2, rowsX]
  refine go_fr_of rfl ?_
  obtain ⟨r1, hr1, h⟩ := ob h
  try simp only [Nat.reduceBEq, Nat.reduceMul, Nat.reduceAdd, Nat.reduceDiv, Int.reduceBEq, rules2, rowsX]
  refine go_callI (w_impl_Tide_level _ _ _ hr1) rfl rfl (Nat.le_of_ble_eq_true rfl) ?_
  obtain ⟨r2, hr2, h⟩ := ob h
  try simp only [Nat.reduceBEq, Nat.reduceMul, Nat.reduceAdd, Nat.reduceDiv, Int.reduceBEq, rules2, rowsX]
  refine go_callI (w_impl_Forecast_surge _ _ _ hr2) rfl rfl (Nat.le_of_ble_eq_true rfl) ?_
  obtain ⟨x3, hx3, h⟩ := ob h
  try simp only [hx3, Nat.reduceBEq, Nat.reduceMul, Nat.reduceAdd, Nat.reduceDiv, Int.reduceBEq, rules2, rowsX]
  cases h
  exact ⟨⟨rfl, trivial⟩, rfl⟩
/- 67: impl_Forecast_high -/
def c_impl_Forecast_high : ACode := (.seq (.reg [(none, .box 2 (S 0)), (none, .mv 4 (K 0))]) (.seq (.drw [(some [], (none, .faddr 5 (S 2) 0)), (some [], (none, .load 6 (S 5) true 2)), (some [], (none, .mv 7 (S 1))), (some [], (none, .call 8 75 [(S 6), (S 7)])), (some [8, 13], (none, .faddr 9 (S 2) 2)), (some [8, 13], (none, .load 10 (S 9) false 1)), (some [8], (none, .load 11 (S 2) true 3)), (some [8], (none, .mv 12 (S 1))), (some [], (none, .call 13 76 [(S 11), (S 12)])), (some [], (none, .iaddr 14 (S 10) (S 13) 3)), (some [], (none, .faddr 15 (S 14) 2)), (some [], (none, .load 16 (S 15) false 1)), (some [], (none, .bin 17 .add (S 8) (S 16))), (some [], (none, .mv 4 (S 17)))]) .ret))
theorem e_impl_Forecast_high : entry Try.prog 67 = some (c_impl_Forecast_high.strip, [4], 18) := by kernel_rfl
theorem w_impl_Forecast_high (a0 : XForecast) (a1 : Int) (r : Int) (h : f_impl_Forecast_high a0 a1 = some r) : FC Try.prog 67 [.ag (XForecast.row a0), .sc (.int .i64 a1)] [.sc (.v (.int .i64 r))] := by
  unfold f_impl_Forecast_high at h
  refine FC_go (σ := ⟨[(0, va [aI a0.Tide.Mean, aL (List.map XPart.row a0.Tide.Parts), aL (List.map XSurge.row a0.Surges)]), (1, vc (aI a1))], [], []⟩) mixed e_impl_Forecast_high rfl rfl ?_
  simp only [c_impl_Forecast_high]
  try simp only [Nat.reduceBEq, Nat.reduceMul, Nat.reduceAdd, Nat.reduceDiv, Int.reduceBEq, rules2, rowsX]
  refine go_bx rfl rfl rfl ?_
  try simp only [Nat.reduceBEq, Nat.reduceMul, Nat.reduceAdd, Nat.reduceDiv, Int.reduceBEq, rules2, rowsX]
  refine go_fr_of rfl ?_
  obtain ⟨r1, hr1, h⟩ := ob h
  try simp only [Nat.reduceBEq, Nat.reduceMul, Nat.reduceAdd, Nat.reduceDiv, Int.reduceBEq, rules2, rowsX]
  refine go_callI (w_impl_Tide_level _ _ _ hr1) rfl rfl (Nat.le_of_ble_eq_true rfl) ?_
  obtain ⟨r2, hr2, h⟩ := ob h
  try simp only [Nat.reduceBEq, Nat.reduceMul, Nat.reduceAdd, Nat.reduceDiv, Int.reduceBEq, rules2, rowsX]
  refine go_callI (w_impl_Forecast_surge _ _ _ hr2) rfl rfl (Nat.le_of_ble_eq_true rfl) ?_
  obtain ⟨x3, hx3, h⟩ := ob h
  try simp only [hx3, Nat.reduceBEq, Nat.reduceMul, Nat.reduceAdd, Nat.reduceDiv, Int.reduceBEq, rules2, rowsX]
  cases h
  exact ⟨⟨rfl, trivial⟩, rfl⟩
/- 68: impl_pickOf -/
def c_impl_pickOf : ACode := (.seq (.reg [(none, .mv 4 (K 0))]) (.seq (.reg [(none, .mv 5 (S 0)), (none, .mv 6 (S 1)), (none, .mv 7 (S 0)), (none, .len 8 (S 7)), (none, .bin 9 .sub (S 8) (K 1)), (none, .mm 10 false (S 6) (S 9)), (none, .iaddr 11 (S 5) (S 10) 1), (none, .load 12 (S 11) false 1), (none, .mv 4 (S 12))]) .ret))
theorem e_impl_pickOf : entry Try.prog 68 = some (c_impl_pickOf.strip, [4], 13) := by kernel_rfl
theorem w_impl_pickOf (a0 : List Int) (a1 : Int) (r : Int) (h : f_impl_pickOf a0 a1 = some r) : FC Try.prog 68 [.sc (.sl (List.map rI a0)), .sc (.int .i64 a1)] [.sc (.v (.int .i64 r))] := by
  unfold f_impl_pickOf at h
  refine FC_go (σ := ⟨[(0, vc (aL (List.map rI a0))), (1, vc (aI a1))], [], []⟩) mixed e_impl_pickOf rfl rfl ?_
  simp only [c_impl_pickOf]
  obtain ⟨x1, hx1, h⟩ := ob h
  try simp only [hx1, Nat.reduceBEq, Nat.reduceMul, Nat.reduceAdd, Nat.reduceDiv, Int.reduceBEq, rules2, rowsX]
  cases h
  exact ⟨⟨rfl, trivial⟩, rfl⟩
/- 42: impl_levelOn -/
def c_impl_levelOn : ACode := (.seq (.reg [(none, .box 3 (S 0)), (none, .mv 6 (K 0))]) (.seq (.drw [(some [], (none, .load 9 (S 3) true 3)), (some [], (none, .mv 10 (S 2))), (some [], (none, .call 11 66 [(S 9), (S 10)])), (some [11], (none, .load 12 (S 3) true 3)), (some [11], (none, .mv 13 (S 2))), (some [], (none, .call 14 67 [(S 12), (S 13)])), (some [], (none, .mv 7 (S 11))), (some [], (none, .mv 8 (S 14)))]) (.seq (.reg [(none, .mv 15 (S 7)), (none, .mv 16 (S 8)), (none, .mv 17 (S 7)), (none, .bin 18 .sub (S 16) (S 17)), (none, .mv 19 (S 1)), (none, .mv 20 (S 2)), (none, .bin 21 .quo (S 20) (K 60)), (none, .call 22 68 [(S 19), (S 21)]), (none, .bin 23 .mul (S 18) (S 22)), (none, .bin 24 .quo (S 23) (K 1000)), (none, .bin 25 .add (S 15) (S 24)), (none, .mv 6 (S 25))]) .ret)))
theorem e_impl_levelOn : entry Try.prog 42 = some (c_impl_levelOn.strip, [6], 26) := by kernel_rfl
theorem w_impl_levelOn (a0 : XForecast) (a1 : List Int) (a2 : Int) (r : Int) (h : f_impl_levelOn a0 a1 a2 = some r) : FC Try.prog 42 [.ag (XForecast.row a0), .sc (.sl (List.map rI a1)), .sc (.int .i64 a2)] [.sc (.v (.int .i64 r))] := by
  unfold f_impl_levelOn at h
  refine FC_go (σ := ⟨[(0, va [aI a0.Tide.Mean, aL (List.map XPart.row a0.Tide.Parts), aL (List.map XSurge.row a0.Surges)]), (1, vc (aL (List.map rI a1))), (2, vc (aI a2))], [], []⟩) mixed e_impl_levelOn rfl rfl ?_
  simp only [c_impl_levelOn]
  try simp only [Nat.reduceBEq, Nat.reduceMul, Nat.reduceAdd, Nat.reduceDiv, Int.reduceBEq, rules2, rowsX]
  refine go_bx rfl rfl rfl ?_
  try simp only [Nat.reduceBEq, Nat.reduceMul, Nat.reduceAdd, Nat.reduceDiv, Int.reduceBEq, rules2, rowsX]
  refine go_fr_of rfl ?_
  obtain ⟨r1, hr1, h⟩ := ob h
  try simp only [Nat.reduceBEq, Nat.reduceMul, Nat.reduceAdd, Nat.reduceDiv, Int.reduceBEq, rules2, rowsX]
  refine go_callI (w_impl_Forecast_low _ _ _ hr1) rfl rfl (Nat.le_of_ble_eq_true rfl) ?_
  obtain ⟨r2, hr2, h⟩ := ob h
  try simp only [Nat.reduceBEq, Nat.reduceMul, Nat.reduceAdd, Nat.reduceDiv, Int.reduceBEq, rules2, rowsX]
  refine go_callI (w_impl_Forecast_high _ _ _ hr2) rfl rfl (Nat.le_of_ble_eq_true rfl) ?_
  obtain ⟨r3, hr3, h⟩ := ob h
  try simp only [Nat.reduceBEq, Nat.reduceMul, Nat.reduceAdd, Nat.reduceDiv, Int.reduceBEq, rules2, rowsX]
  refine go_callI (w_impl_pickOf _ _ _ hr3) rfl rfl (Nat.le_of_ble_eq_true rfl) ?_
  try simp only [Nat.reduceBEq, Nat.reduceMul, Nat.reduceAdd, Nat.reduceDiv, Int.reduceBEq, rules2, rowsX]
  cases h
  exact ⟨⟨rfl, trivial⟩, rfl⟩
/- 17: impl_LevelOn -/
def c_impl_LevelOn : ACode := (.seq (.reg [(none, .box 3 (S 0)), (none, .mv 6 (K 0))]) (.seq (.seq (.reg [(none, .load 7 (S 3) true 3), (none, .call 8 39 [(S 7)]), (none, .un 9 .not (S 8)), (none, .mv 10 (S 9)), (some (10, false), .mv 11 (S 1)), (some (10, false), .call 12 40 [(S 11)]), (some (10, false), .un 13 .not (S 12)), (none, .pick 14 (S 10) (KB true) (S 13)), (none, .mv 15 (S 14)), (some (15, false), .mv 16 (S 2)), (some (15, false), .call 17 41 [(S 16)]), (some (15, false), .un 18 .not (S 17)), (none, .pick 19 (S 15) (KB true) (S 18))]) (.cond (S 19) (.seq (.reg [(none, .mv 6 (K 0))]) .ret) .skip)) (.seq (.reg [(none, .load 20 (S 3) true 3), (none, .mv 21 (S 1)), (none, .mv 22 (S 2)), (none, .call 23 42 [(S 20), (S 21), (S 22)]), (none, .mv 6 (S 23))]) .ret)))
theorem e_impl_LevelOn : entry Try.prog 17 = some (c_impl_LevelOn.strip, [6], 24) := by kernel_rfl
theorem w_impl_LevelOn (a0 : XForecast) (a1 : List Int) (a2 : Int) (r : Int) (h : f_impl_LevelOn a0 a1 a2 = some r) : FC Try.prog 17 [.ag (XForecast.row a0), .sc (.sl (List.map rI a1)), .sc (.int .i64 a2)] [.sc (.v (.int .i64 r))] := by
  unfold f_impl_LevelOn at h
  refine FC_go (σ := ⟨[(0, va [aI a0.Tide.Mean, aL (List.map XPart.row a0.Tide.Parts), aL (List.map XSurge.row a0.Surges)]), (1, vc (aL (List.map rI a1))), (2, vc (aI a2))], [], []⟩) mixed e_impl_LevelOn rfl rfl ?_
  simp only [c_impl_LevelOn]
  try simp only [Nat.reduceBEq, Nat.reduceMul, Nat.reduceAdd, Nat.reduceDiv, Int.reduceBEq, rules2, rowsX]
  refine go_bx rfl rfl rfl ?_
  obtain ⟨r1, hr1, h⟩ := ob h
  try simp only [Nat.reduceBEq, Nat.reduceMul, Nat.reduceAdd, Nat.reduceDiv, Int.reduceBEq, rules2, rowsX]
  refine go_callI (w_impl_ForecastOk _ _ hr1) rfl rfl (Nat.le_of_ble_eq_true rfl) ?_
  rcases Bool.eq_false_or_eq_true r1 with hb2 | hb2
  · rw [ite_t hb2] at h
    obtain ⟨r3, hr3, h⟩ := ob h
    try simp only [hb2, Nat.reduceBEq, Nat.reduceMul, Nat.reduceAdd, Nat.reduceDiv, Int.reduceBEq, rules2, rowsX]
    refine go_callI (w_impl_PicksOk _ _ hr3) rfl rfl (Nat.le_of_ble_eq_true rfl) ?_
    rcases Bool.eq_false_or_eq_true r3 with hb4 | hb4
    · rw [ite_t hb4] at h
      obtain ⟨r5, hr5, h⟩ := ob h
      try simp only [hb2, hb4, Nat.reduceBEq, Nat.reduceMul, Nat.reduceAdd, Nat.reduceDiv, Int.reduceBEq, rules2, rowsX]
      refine go_callI (w_impl_isMinute _ _ hr5) rfl rfl (Nat.le_of_ble_eq_true rfl) ?_
      rcases Bool.eq_false_or_eq_true r5 with hb6 | hb6
      · rw [ite_t hb6] at h
        obtain ⟨r7, hr7, h⟩ := ob h
        try simp only [hb2, hb4, hb6, Nat.reduceBEq, Nat.reduceMul, Nat.reduceAdd, Nat.reduceDiv, Int.reduceBEq, rules2, rowsX]
        refine go_callI (w_impl_levelOn _ _ _ _ hr7) rfl rfl (Nat.le_of_ble_eq_true rfl) ?_
        try simp only [hb2, hb4, hb6, Nat.reduceBEq, Nat.reduceMul, Nat.reduceAdd, Nat.reduceDiv, Int.reduceBEq, rules2, rowsX]
        cases h
        exact ⟨⟨rfl, trivial⟩, rfl⟩
      · rw [ite_f hb6] at h
        try simp only [hb2, hb4, hb6, Nat.reduceBEq, Nat.reduceMul, Nat.reduceAdd, Nat.reduceDiv, Int.reduceBEq, rules2, rowsX]
        cases h
        exact ⟨⟨rfl, trivial⟩, rfl⟩
    · rw [ite_f hb4] at h
      try simp only [hb2, hb4, Nat.reduceBEq, Nat.reduceMul, Nat.reduceAdd, Nat.reduceDiv, Int.reduceBEq, rules2, rowsX]
      cases h
      exact ⟨⟨rfl, trivial⟩, rfl⟩
  · rw [ite_f hb2] at h
    try simp only [hb2, Nat.reduceBEq, Nat.reduceMul, Nat.reduceAdd, Nat.reduceDiv, Int.reduceBEq, rules2, rowsX]
    cases h
    exact ⟨⟨rfl, trivial⟩, rfl⟩
/- 77: laws_eqPart -/
def c_laws_eqPart : ACode := (.seq (.reg [(none, .box 2 (S 0)), (none, .box 3 (S 1)), (none, .mv 4 (KB false))]) (.seq (.seq (.reg [(none, .faddr 5 (S 2) 0), (none, .load 6 (S 5) false 1), (none, .faddr 7 (S 3) 0), (none, .load 8 (S 7) false 1), (none, .bin 9 .neq (S 6) (S 8))]) (.cond (S 9) (.seq (.reg [(none, .mv 4 (KB false))]) .ret) .skip)) (.seq (.seq (.reg [(none, .faddr 10 (S 2) 1), (none, .load 11 (S 10) false 1), (none, .faddr 12 (S 3) 1), (none, .load 13 (S 12) false 1), (none, .bin 14 .neq (S 11) (S 13))]) (.cond (S 14) (.seq (.reg [(none, .mv 4 (KB false))]) .ret) .skip)) (.seq (.seq (.reg [(none, .faddr 15 (S 2) 2), (none, .load 16 (S 15) false 1), (none, .faddr 17 (S 3) 2), (none, .load 18 (S 17) false 1), (none, .bin 19 .neq (S 16) (S 18))]) (.cond (S 19) (.seq (.reg [(none, .mv 4 (KB false))]) .ret) .skip)) (.seq (.reg [(none, .mv 4 (KB true))]) .ret)))))
theorem e_laws_eqPart : entry Try.prog 77 = some (c_laws_eqPart.strip, [4], 20) := by kernel_rfl
theorem w_laws_eqPart (a0 : XPart) (a1 : XPart) (r : Bool) (h : f_laws_eqPart a0 a1 = some r) : FC Try.prog 77 [.ag (XPart.row a0), .ag (XPart.row a1)] [.sc (.v (.bool r))] := by
  unfold f_laws_eqPart at h
  refine FC_go (σ := ⟨[(0, va [aI a0.Amp, aI a0.Period, aI a0.Phase]), (1, va [aI a1.Amp, aI a1.Period, aI a1.Phase])], [], []⟩) mixed e_laws_eqPart rfl rfl ?_
  simp only [c_laws_eqPart]
  try simp only [Nat.reduceBEq, Nat.reduceMul, Nat.reduceAdd, Nat.reduceDiv, Int.reduceBEq, rules2, rowsX]
  refine go_bx rfl rfl rfl ?_
  try simp only [Nat.reduceBEq, Nat.reduceMul, Nat.reduceAdd, Nat.reduceDiv, Int.reduceBEq, rules2, rowsX]
  refine go_bx rfl rfl rfl ?_
  rcases Bool.eq_false_or_eq_true (a0.Amp != a1.Amp) with hb1 | hb1
  · rw [ite_t hb1] at h
    try simp only [hb1, Nat.reduceBEq, Nat.reduceMul, Nat.reduceAdd, Nat.reduceDiv, Int.reduceBEq, rules2, rowsX]
    cases h
    exact ⟨⟨rfl, trivial⟩, rfl⟩
  · rw [ite_f hb1] at h
    rcases Bool.eq_false_or_eq_true (a0.Period != a1.Period) with hb2 | hb2
    · rw [ite_t hb2] at h
      try simp only [hb1, hb2, Nat.reduceBEq, Nat.reduceMul, Nat.reduceAdd, Nat.reduceDiv, Int.reduceBEq, rules2, rowsX]
      cases h
      exact ⟨⟨rfl, trivial⟩, rfl⟩
    · rw [ite_f hb2] at h
      rcases Bool.eq_false_or_eq_true (a0.Phase != a1.Phase) with hb3 | hb3
      · rw [ite_t hb3] at h
        try simp only [hb1, hb2, hb3, Nat.reduceBEq, Nat.reduceMul, Nat.reduceAdd, Nat.reduceDiv, Int.reduceBEq, rules2, rowsX]
        cases h
        exact ⟨⟨rfl, trivial⟩, rfl⟩
      · rw [ite_f hb3] at h
        try simp only [hb1, hb2, hb3, Nat.reduceBEq, Nat.reduceMul, Nat.reduceAdd, Nat.reduceDiv, Int.reduceBEq, rules2, rowsX]
        cases h
        exact ⟨⟨rfl, trivial⟩, rfl⟩
/- 69: laws_eqPartS -/
def c_laws_eqPartS_1 : ACode := .seq (.reg [(none, .keep [0, 1, 5] [] [])]) (.seq (.seq (.reg [(none, .mv 11 (S 5)), (none, .mv 12 (S 0)), (none, .len 13 (S 12)), (none, .bin 14 .lss (S 11) (S 13))]) (.cond (S 14) .skip (.exit 0))) (.seq (.block 1 (.seq (.drw [(some [], (none, .mv 17 (S 0))), (some [], (none, .mv 18 (S 5))), (some [], (none, .iaddr 19 (S 17) (S 18) 3)), (some [], (none, .load 20 (S 19) true 3)), (some [], (none, .mv 21 (S 1))), (some [], (none, .mv 22 (S 5))), (some [], (none, .iaddr 23 (S 21) (S 22) 3)), (some [], (none, .load 24 (S 23) true 3)), (some [], (none, .call 25 77 [(S 20), (S 24)])), (some [], (none, .un 26 .not (S 25)))]) (.cond (S 26) (.seq (.reg [(none, .mv 4 (KB false))]) .ret) .skip))) (.reg [(none, .mv 15 (S 5)), (none, .bin 16 .add (S 15) (K 1)), (none, .mv 5 (S 16))])))
def c_laws_eqPartS_n1 : ACode := (.seq (.reg [(none, .mv 4 (KB true))]) .ret)
def c_laws_eqPartS : ACode := (.seq (.reg [(none, .mv 4 (KB false))]) (.seq (.seq (.reg [(none, .mv 6 (S 0)), (none, .len 7 (S 6)), (none, .mv 8 (S 1)), (none, .len 9 (S 8)), (none, .bin 10 .neq (S 7) (S 9))]) (.cond (S 10) (.seq (.reg [(none, .mv 4 (KB false))]) .ret) .skip)) (.seq (.seq (.reg [(none, .mv 5 (K 0))]) (.block 0 (.loop c_laws_eqPartS_1))) c_laws_eqPartS_n1)))
theorem w_laws_eqPartS_1 (a0 : List XPart) (a1 : List XPart) : ∀ (n : Nat) (v2 : Int) (r : Bool), f_laws_eqPartS_1 a0 a1 n v2 = some r → ∀ σ : St, σ.kept [0, 1, 5] [] [] = ⟨[(0, vc (aL (List.map XPart.row a0))), (1, vc (aL (List.map XPart.row a1))), (5, vc (aI v2))], [], []⟩ → go Try.prog (.code (.loop c_laws_eqPartS_1) :: [.blk 0, .code c_laws_eqPartS_n1]) (Ret [4] [.sc (.v (.bool r))]) .normal (some σ) := by
  intro n
  induction n with
  | zero => intro _ r h; cases h
  | succ n ih =>
    intro v2 r h σ hσ
    rw [f_laws_eqPartS_1] at h
    refine go_round ?_
    rcases Bool.eq_false_or_eq_true (decide (v2 < (a0.length : Int))) with hb3 | hb3
    · rw [ite_t hb3] at h
      try simp only [hσ, hb3, c_laws_eqPartS_1, Nat.reduceBEq, Nat.reduceMul, Nat.reduceAdd, Nat.reduceDiv, Int.reduceBEq, rules2, rowsX]
      refine go_fr_of rfl ?_
      obtain ⟨x4, hx4, h⟩ := ob h
      obtain ⟨x5, hx5, h⟩ := ob h
      obtain ⟨r6, hr6, h⟩ := ob h
      try simp only [hb3, hx4, hx5, Nat.reduceBEq, Nat.reduceMul, Nat.reduceAdd, Nat.reduceDiv, Int.reduceBEq, rules2, rowsX]
      refine go_callI (w_laws_eqPart _ _ _ hr6) rfl rfl (Nat.le_of_ble_eq_true rfl) ?_
      rcases Bool.eq_false_or_eq_true r6 with hb7 | hb7
      · rw [ite_t hb7] at h
        try simp only [hb3, hx4, hx5, hb7, Nat.reduceBEq, Nat.reduceMul, Nat.reduceAdd, Nat.reduceDiv, Int.reduceBEq, rules2, rowsX]
        refine ih _ _ h _ ?_
        try simp only [hb3, hx4, hx5, hb7, Nat.reduceBEq, Nat.reduceMul, Nat.reduceAdd, Nat.reduceDiv, Int.reduceBEq, rules2, rowsX, List.map_nil]
      · rw [ite_f hb7] at h
        try simp only [hb3, hx4, hx5, hb7, Nat.reduceBEq, Nat.reduceMul, Nat.reduceAdd, Nat.reduceDiv, Int.reduceBEq, rules2, rowsX]
        cases h
        exact ⟨⟨rfl, trivial⟩, rfl⟩
    · rw [ite_f hb3] at h
      try simp only [hσ, hb3, c_laws_eqPartS_1, c_laws_eqPartS_n1, Nat.reduceBEq, Nat.reduceMul, Nat.reduceAdd, Nat.reduceDiv, Int.reduceBEq, rules2, rowsX]
      cases h
      exact ⟨⟨rfl, trivial⟩, rfl⟩
theorem e_laws_eqPartS : entry Try.prog 69 = some (c_laws_eqPartS.strip, [4], 27) := by kernel_rfl
theorem w_laws_eqPartS (a0 : List XPart) (a1 : List XPart) (r : Bool) (h : f_laws_eqPartS a0 a1 = some r) : FC Try.prog 69 [.sc (.sl (List.map XPart.row a0)), .sc (.sl (List.map XPart.row a1))] [.sc (.v (.bool r))] := by
  unfold f_laws_eqPartS at h
  refine FC_go (σ := ⟨[(0, vc (aL (List.map XPart.row a0))), (1, vc (aL (List.map XPart.row a1)))], [], []⟩) mixed e_laws_eqPartS rfl rfl ?_
  simp only [c_laws_eqPartS]
  rcases Bool.eq_false_or_eq_true ((a0.length : Int) != (a1.length : Int)) with hb1 | hb1
  · rw [ite_t hb1] at h
    try simp only [hb1, Nat.reduceBEq, Nat.reduceMul, Nat.reduceAdd, Nat.reduceDiv, Int.reduceBEq, rules2, rowsX]
    cases h
    exact ⟨⟨rfl, trivial⟩, rfl⟩
  · rw [ite_f hb1] at h
    try simp only [hb1, Nat.reduceBEq, Nat.reduceMul, Nat.reduceAdd, Nat.reduceDiv, Int.reduceBEq, rules2, rowsX]
    refine w_laws_eqPartS_1 _ _ _ _ _ h _ ?_
    try simp only [hb1, Nat.reduceBEq, Nat.reduceMul, Nat.reduceAdd, Nat.reduceDiv, Int.reduceBEq, rules2, rowsX, List.map_nil]
/- 43: laws_eqTide -/
def c_laws_eqTide : ACode := (.seq (.reg [(none, .box 2 (S 0)), (none, .box 3 (S 1)), (none, .mv 4 (KB false))]) (.seq (.seq (.reg [(none, .faddr 5 (S 2) 0), (none, .load 6 (S 5) false 1), (none, .faddr 7 (S 3) 0), (none, .load 8 (S 7) false 1), (none, .bin 9 .neq (S 6) (S 8))]) (.cond (S 9) (.seq (.reg [(none, .mv 4 (KB false))]) .ret) .skip)) (.seq (.seq (.reg [(none, .faddr 10 (S 2) 1), (none, .load 11 (S 10) false 1), (none, .faddr 12 (S 3) 1), (none, .load 13 (S 12) false 1), (none, .call 14 69 [(S 11), (S 13)]), (none, .un 15 .not (S 14))]) (.cond (S 15) (.seq (.reg [(none, .mv 4 (KB false))]) .ret) .skip)) (.seq (.reg [(none, .mv 4 (KB true))]) .ret))))
theorem e_laws_eqTide : entry Try.prog 43 = some (c_laws_eqTide.strip, [4], 16) := by kernel_rfl
theorem w_laws_eqTide (a0 : XTide) (a1 : XTide) (r : Bool) (h : f_laws_eqTide a0 a1 = some r) : FC Try.prog 43 [.ag (XTide.row a0), .ag (XTide.row a1)] [.sc (.v (.bool r))] := by
  unfold f_laws_eqTide at h
  refine FC_go (σ := ⟨[(0, va [aI a0.Mean, aL (List.map XPart.row a0.Parts)]), (1, va [aI a1.Mean, aL (List.map XPart.row a1.Parts)])], [], []⟩) mixed e_laws_eqTide rfl rfl ?_
  simp only [c_laws_eqTide]
  try simp only [Nat.reduceBEq, Nat.reduceMul, Nat.reduceAdd, Nat.reduceDiv, Int.reduceBEq, rules2, rowsX]
  refine go_bx rfl rfl rfl ?_
  try simp only [Nat.reduceBEq, Nat.reduceMul, Nat.reduceAdd, Nat.reduceDiv, Int.reduceBEq, rules2, rowsX]
  refine go_bx rfl rfl rfl ?_
  rcases Bool.eq_false_or_eq_true (a0.Mean != a1.Mean) with hb1 | hb1
  · rw [ite_t hb1] at h
    try simp only [hb1, Nat.reduceBEq, Nat.reduceMul, Nat.reduceAdd, Nat.reduceDiv, Int.reduceBEq, rules2, rowsX]
    cases h
    exact ⟨⟨rfl, trivial⟩, rfl⟩
  · rw [ite_f hb1] at h
    obtain ⟨r2, hr2, h⟩ := ob h
    try simp only [hb1, Nat.reduceBEq, Nat.reduceMul, Nat.reduceAdd, Nat.reduceDiv, Int.reduceBEq, rules2, rowsX]
    refine go_callI (w_laws_eqPartS _ _ _ hr2) rfl rfl (Nat.le_of_ble_eq_true rfl) ?_
    rcases Bool.eq_false_or_eq_true r2 with hb3 | hb3
    · rw [ite_t hb3] at h
      try simp only [hb1, hb3, Nat.reduceBEq, Nat.reduceMul, Nat.reduceAdd, Nat.reduceDiv, Int.reduceBEq, rules2, rowsX]
      cases h
      exact ⟨⟨rfl, trivial⟩, rfl⟩
    · rw [ite_f hb3] at h
      try simp only [hb1, hb3, Nat.reduceBEq, Nat.reduceMul, Nat.reduceAdd, Nat.reduceDiv, Int.reduceBEq, rules2, rowsX]
      cases h
      exact ⟨⟨rfl, trivial⟩, rfl⟩
/- 70: laws_eqSurge -/
def c_laws_eqSurge : ACode := (.seq (.reg [(none, .box 2 (S 0)), (none, .box 3 (S 1)), (none, .mv 4 (KB false))]) (.seq (.seq (.reg [(none, .faddr 5 (S 2) 0), (none, .load 6 (S 5) false 1), (none, .faddr 7 (S 3) 0), (none, .load 8 (S 7) false 1), (none, .bin 9 .neq (S 6) (S 8))]) (.cond (S 9) (.seq (.reg [(none, .mv 4 (KB false))]) .ret) .skip)) (.seq (.seq (.reg [(none, .faddr 10 (S 2) 1), (none, .load 11 (S 10) false 1), (none, .faddr 12 (S 3) 1), (none, .load 13 (S 12) false 1), (none, .bin 14 .neq (S 11) (S 13))]) (.cond (S 14) (.seq (.reg [(none, .mv 4 (KB false))]) .ret) .skip)) (.seq (.seq (.reg [(none, .faddr 15 (S 2) 2), (none, .load 16 (S 15) false 1), (none, .faddr 17 (S 3) 2), (none, .load 18 (S 17) false 1), (none, .bin 19 .neq (S 16) (S 18))]) (.cond (S 19) (.seq (.reg [(none, .mv 4 (KB false))]) .ret) .skip)) (.seq (.reg [(none, .mv 4 (KB true))]) .ret)))))
theorem e_laws_eqSurge : entry Try.prog 70 = some (c_laws_eqSurge.strip, [4], 20) := by kernel_rfl
theorem w_laws_eqSurge (a0 : XSurge) (a1 : XSurge) (r : Bool) (h : f_laws_eqSurge a0 a1 = some r) : FC Try.prog 70 [.ag (XSurge.row a0), .ag (XSurge.row a1)] [.sc (.v (.bool r))] := by
  unfold f_laws_eqSurge at h
  refine FC_go (σ := ⟨[(0, va [aI a0.From, aI a0.Low, aI a0.High]), (1, va [aI a1.From, aI a1.Low, aI a1.High])], [], []⟩) mixed e_laws_eqSurge rfl rfl ?_
  simp only [c_laws_eqSurge]
  try simp only [Nat.reduceBEq, Nat.reduceMul, Nat.reduceAdd, Nat.reduceDiv, Int.reduceBEq, rules2, rowsX]
  refine go_bx rfl rfl rfl ?_
  try simp only [Nat.reduceBEq, Nat.reduceMul, Nat.reduceAdd, Nat.reduceDiv, Int.reduceBEq, rules2, rowsX]
  refine go_bx rfl rfl rfl ?_
  rcases Bool.eq_false_or_eq_true (a0.From != a1.From) with hb1 | hb1
  · rw [ite_t hb1] at h
    try simp only [hb1, Nat.reduceBEq, Nat.reduceMul, Nat.reduceAdd, Nat.reduceDiv, Int.reduceBEq, rules2, rowsX]
    cases h
    exact ⟨⟨rfl, trivial⟩, rfl⟩
  · rw [ite_f hb1] at h
    rcases Bool.eq_false_or_eq_true (a0.Low != a1.Low) with hb2 | hb2
    · rw [ite_t hb2] at h
      try simp only [hb1, hb2, Nat.reduceBEq, Nat.reduceMul, Nat.reduceAdd, Nat.reduceDiv, Int.reduceBEq, rules2, rowsX]
      cases h
      exact ⟨⟨rfl, trivial⟩, rfl⟩
    · rw [ite_f hb2] at h
      rcases Bool.eq_false_or_eq_true (a0.High != a1.High) with hb3 | hb3
      · rw [ite_t hb3] at h
        try simp only [hb1, hb2, hb3, Nat.reduceBEq, Nat.reduceMul, Nat.reduceAdd, Nat.reduceDiv, Int.reduceBEq, rules2, rowsX]
        cases h
        exact ⟨⟨rfl, trivial⟩, rfl⟩
      · rw [ite_f hb3] at h
        try simp only [hb1, hb2, hb3, Nat.reduceBEq, Nat.reduceMul, Nat.reduceAdd, Nat.reduceDiv, Int.reduceBEq, rules2, rowsX]
        cases h
        exact ⟨⟨rfl, trivial⟩, rfl⟩
/- 44: laws_eqSurgeS -/
def c_laws_eqSurgeS_1 : ACode := .seq (.reg [(none, .keep [0, 1, 5] [] [])]) (.seq (.seq (.reg [(none, .mv 11 (S 5)), (none, .mv 12 (S 0)), (none, .len 13 (S 12)), (none, .bin 14 .lss (S 11) (S 13))]) (.cond (S 14) .skip (.exit 0))) (.seq (.block 1 (.seq (.drw [(some [], (none, .mv 17 (S 0))), (some [], (none, .mv 18 (S 5))), (some [], (none, .iaddr 19 (S 17) (S 18) 3)), (some [], (none, .load 20 (S 19) true 3)), (some [], (none, .mv 21 (S 1))), (some [], (none, .mv 22 (S 5))), (some [], (none, .iaddr 23 (S 21) (S 22) 3)), (some [], (none, .load 24 (S 23) true 3)), (some [], (none, .call 25 70 [(S 20), (S 24)])), (some [], (none, .un 26 .not (S 25)))]) (.cond (S 26) (.seq (.reg [(none, .mv 4 (KB false))]) .ret) .skip))) (.reg [(none, .mv 15 (S 5)), (none, .bin 16 .add (S 15) (K 1)), (none, .mv 5 (S 16))])))
def c_laws_eqSurgeS_n1 : ACode := (.seq (.reg [(none, .mv 4 (KB true))]) .ret)
def c_laws_eqSurgeS : ACode := (.seq (.reg [(none, .mv 4 (KB false))]) (.seq (.seq (.reg [(none, .mv 6 (S 0)), (none, .len 7 (S 6)), (none, .mv 8 (S 1)), (none, .len 9 (S 8)), (none, .bin 10 .neq (S 7) (S 9))]) (.cond (S 10) (.seq (.reg [(none, .mv 4 (KB false))]) .ret) .skip)) (.seq (.seq (.reg [(none, .mv 5 (K 0))]) (.block 0 (.loop c_laws_eqSurgeS_1))) c_laws_eqSurgeS_n1)))
theorem w_laws_eqSurgeS_1 (a0 : List XSurge) (a1 : List XSurge) : ∀ (n : Nat) (v2 : Int) (r : Bool), f_laws_eqSurgeS_1 a0 a1 n v2 = some r → ∀ σ : St, σ.kept [0, 1, 5] [] [] = ⟨[(0, vc (aL (List.map XSurge.row a0))), (1, vc (aL (List.map XSurge.row a1))), (5, vc (aI v2))], [], []⟩ → go Try.prog (.code (.loop c_laws_eqSurgeS_1) :: [.blk 0, .code c_laws_eqSurgeS_n1]) (Ret [4] [.sc (.v (.bool r))]) .normal (some σ) := by
  intro n
  induction n with
  | zero => intro _ r h; cases h
  | succ n ih =>
    intro v2 r h σ hσ
    rw [f_laws_eqSurgeS_1] at h
    refine go_round ?_
    rcases Bool.eq_false_or_eq_true (decide (v2 < (a0.length : Int))) with hb3 | hb3
    · rw [ite_t hb3] at h
      try simp only [hσ, hb3, c_laws_eqSurgeS_1, Nat.reduceBEq, Nat.reduceMul, Nat.reduceAdd, Nat.reduceDiv, Int.reduceBEq, rules2, rowsX]
      refine go_fr_of rfl ?_
      obtain ⟨x4, hx4, h⟩ := ob h
      obtain ⟨x5, hx5, h⟩ := ob h
      obtain ⟨r6, hr6, h⟩ := ob h
      try simp only [hb3, hx4, hx5, Nat.reduceBEq, Nat.reduceMul, Nat.reduceAdd, Nat.reduceDiv, Int.reduceBEq, rules2, rowsX]
      refine go_callI (w_laws_eqSurge _ _ _ hr6) rfl rfl (Nat.le_of_ble_eq_true rfl) ?_
      rcases Bool.eq_false_or_eq_true r6 with hb7 | hb7
      · rw [ite_t hb7] at h
        try simp only [hb3, hx4, hx5, hb7, Nat.reduceBEq, Nat.reduceMul, Nat.reduceAdd, Nat.reduceDiv, Int.reduceBEq, rules2, rowsX]
        refine ih _ _ h _ ?_
        try simp only [hb3, hx4, hx5, hb7, Nat.reduceBEq, Nat.reduceMul, Nat.reduceAdd, Nat.reduceDiv, Int.reduceBEq, rules2, rowsX, List.map_nil]
      · rw [ite_f hb7] at h
        try simp only [hb3, hx4, hx5, hb7, Nat.reduceBEq, Nat.reduceMul, Nat.reduceAdd, Nat.reduceDiv, Int.reduceBEq, rules2, rowsX]
        cases h
        exact ⟨⟨rfl, trivial⟩, rfl⟩
    · rw [ite_f hb3] at h
      try simp only [hσ, hb3, c_laws_eqSurgeS_1, c_laws_eqSurgeS_n1, Nat.reduceBEq, Nat.reduceMul, Nat.reduceAdd, Nat.reduceDiv, Int.reduceBEq, rules2, rowsX]
      cases h
      exact ⟨⟨rfl, trivial⟩, rfl⟩
theorem e_laws_eqSurgeS : entry Try.prog 44 = some (c_laws_eqSurgeS.strip, [4], 27) := by kernel_rfl
theorem w_laws_eqSurgeS (a0 : List XSurge) (a1 : List XSurge) (r : Bool) (h : f_laws_eqSurgeS a0 a1 = some r) : FC Try.prog 44 [.sc (.sl (List.map XSurge.row a0)), .sc (.sl (List.map XSurge.row a1))] [.sc (.v (.bool r))] := by
  unfold f_laws_eqSurgeS at h
  refine FC_go (σ := ⟨[(0, vc (aL (List.map XSurge.row a0))), (1, vc (aL (List.map XSurge.row a1)))], [], []⟩) mixed e_laws_eqSurgeS rfl rfl ?_
  simp only [c_laws_eqSurgeS]
  rcases Bool.eq_false_or_eq_true ((a0.length : Int) != (a1.length : Int)) with hb1 | hb1
  · rw [ite_t hb1] at h
    try simp only [hb1, Nat.reduceBEq, Nat.reduceMul, Nat.reduceAdd, Nat.reduceDiv, Int.reduceBEq, rules2, rowsX]
    cases h
    exact ⟨⟨rfl, trivial⟩, rfl⟩
  · rw [ite_f hb1] at h
    try simp only [hb1, Nat.reduceBEq, Nat.reduceMul, Nat.reduceAdd, Nat.reduceDiv, Int.reduceBEq, rules2, rowsX]
    refine w_laws_eqSurgeS_1 _ _ _ _ _ h _ ?_
    try simp only [hb1, Nat.reduceBEq, Nat.reduceMul, Nat.reduceAdd, Nat.reduceDiv, Int.reduceBEq, rules2, rowsX, List.map_nil]
/- 18: laws_eqForecast -/
def c_laws_eqForecast : ACode := (.seq (.reg [(none, .box 2 (S 0)), (none, .box 3 (S 1)), (none, .mv 4 (KB false))]) (.seq (.seq (.reg [(none, .faddr 5 (S 2) 0), (none, .load 6 (S 5) true 2), (none, .faddr 7 (S 3) 0), (none, .load 8 (S 7) true 2), (none, .call 9 43 [(S 6), (S 8)]), (none, .un 10 .not (S 9))]) (.cond (S 10) (.seq (.reg [(none, .mv 4 (KB false))]) .ret) .skip)) (.seq (.seq (.reg [(none, .faddr 11 (S 2) 2), (none, .load 12 (S 11) false 1), (none, .faddr 13 (S 3) 2), (none, .load 14 (S 13) false 1), (none, .call 15 44 [(S 12), (S 14)]), (none, .un 16 .not (S 15))]) (.cond (S 16) (.seq (.reg [(none, .mv 4 (KB false))]) .ret) .skip)) (.seq (.reg [(none, .mv 4 (KB true))]) .ret))))
theorem e_laws_eqForecast : entry Try.prog 18 = some (c_laws_eqForecast.strip, [4], 17) := by kernel_rfl
theorem w_laws_eqForecast (a0 : XForecast) (a1 : XForecast) (r : Bool) (h : f_laws_eqForecast a0 a1 = some r) : FC Try.prog 18 [.ag (XForecast.row a0), .ag (XForecast.row a1)] [.sc (.v (.bool r))] := by
  unfold f_laws_eqForecast at h
  refine FC_go (σ := ⟨[(0, va [aI a0.Tide.Mean, aL (List.map XPart.row a0.Tide.Parts), aL (List.map XSurge.row a0.Surges)]), (1, va [aI a1.Tide.Mean, aL (List.map XPart.row a1.Tide.Parts), aL (List.map XSurge.row a1.Surges)])], [], []⟩) mixed e_laws_eqForecast rfl rfl ?_
  simp only [c_laws_eqForecast]
  try simp only [Nat.reduceBEq, Nat.reduceMul, Nat.reduceAdd, Nat.reduceDiv, Int.reduceBEq, rules2, rowsX]
  refine go_bx rfl rfl rfl ?_
  try simp only [Nat.reduceBEq, Nat.reduceMul, Nat.reduceAdd, Nat.reduceDiv, Int.reduceBEq, rules2, rowsX]
  refine go_bx rfl rfl rfl ?_
  obtain ⟨r1, hr1, h⟩ := ob h
  try simp only [Nat.reduceBEq, Nat.reduceMul, Nat.reduceAdd, Nat.reduceDiv, Int.reduceBEq, rules2, rowsX]
  refine go_callI (w_laws_eqTide _ _ _ hr1) rfl rfl (Nat.le_of_ble_eq_true rfl) ?_
  rcases Bool.eq_false_or_eq_true r1 with hb2 | hb2
  · rw [ite_t hb2] at h
    obtain ⟨r3, hr3, h⟩ := ob h
    try simp only [hb2, Nat.reduceBEq, Nat.reduceMul, Nat.reduceAdd, Nat.reduceDiv, Int.reduceBEq, rules2, rowsX]
    refine go_callI (w_laws_eqSurgeS _ _ _ hr3) rfl rfl (Nat.le_of_ble_eq_true rfl) ?_
    rcases Bool.eq_false_or_eq_true r3 with hb4 | hb4
    · rw [ite_t hb4] at h
      try simp only [hb2, hb4, Nat.reduceBEq, Nat.reduceMul, Nat.reduceAdd, Nat.reduceDiv, Int.reduceBEq, rules2, rowsX]
      cases h
      exact ⟨⟨rfl, trivial⟩, rfl⟩
    · rw [ite_f hb4] at h
      try simp only [hb2, hb4, Nat.reduceBEq, Nat.reduceMul, Nat.reduceAdd, Nat.reduceDiv, Int.reduceBEq, rules2, rowsX]
      cases h
      exact ⟨⟨rfl, trivial⟩, rfl⟩
  · rw [ite_f hb2] at h
    try simp only [hb2, Nat.reduceBEq, Nat.reduceMul, Nat.reduceAdd, Nat.reduceDiv, Int.reduceBEq, rules2, rowsX]
    cases h
    exact ⟨⟨rfl, trivial⟩, rfl⟩
/- 19: laws_eqIntS -/
def c_laws_eqIntS_1 : ACode := .seq (.reg [(none, .keep [0, 1, 5] [] [])]) (.seq (.seq (.reg [(none, .mv 11 (S 5)), (none, .mv 12 (S 0)), (none, .len 13 (S 12)), (none, .bin 14 .lss (S 11) (S 13))]) (.cond (S 14) .skip (.exit 0))) (.seq (.block 1 (.seq (.drw [(some [], (none, .mv 17 (S 0))), (some [], (none, .mv 18 (S 5))), (some [], (none, .iaddr 19 (S 17) (S 18) 1)), (some [], (none, .load 20 (S 19) false 1)), (some [], (none, .mv 21 (S 1))), (some [], (none, .mv 22 (S 5))), (some [], (none, .iaddr 23 (S 21) (S 22) 1)), (some [], (none, .load 24 (S 23) false 1)), (some [], (none, .bin 25 .neq (S 20) (S 24)))]) (.cond (S 25) (.seq (.reg [(none, .mv 4 (KB false))]) .ret) .skip))) (.reg [(none, .mv 15 (S 5)), (none, .bin 16 .add (S 15) (K 1)), (none, .mv 5 (S 16))])))
def c_laws_eqIntS_n1 : ACode := (.seq (.reg [(none, .mv 4 (KB true))]) .ret)
def c_laws_eqIntS : ACode := (.seq (.reg [(none, .mv 4 (KB false))]) (.seq (.seq (.reg [(none, .mv 6 (S 0)), (none, .len 7 (S 6)), (none, .mv 8 (S 1)), (none, .len 9 (S 8)), (none, .bin 10 .neq (S 7) (S 9))]) (.cond (S 10) (.seq (.reg [(none, .mv 4 (KB false))]) .ret) .skip)) (.seq (.seq (.reg [(none, .mv 5 (K 0))]) (.block 0 (.loop c_laws_eqIntS_1))) c_laws_eqIntS_n1)))
theorem w_laws_eqIntS_1 (a0 : List Int) (a1 : List Int) : ∀ (n : Nat) (v2 : Int) (r : Bool), f_laws_eqIntS_1 a0 a1 n v2 = some r → ∀ σ : St, σ.kept [0, 1, 5] [] [] = ⟨[(0, vc (aL (List.map rI a0))), (1, vc (aL (List.map rI a1))), (5, vc (aI v2))], [], []⟩ → go Try.prog (.code (.loop c_laws_eqIntS_1) :: [.blk 0, .code c_laws_eqIntS_n1]) (Ret [4] [.sc (.v (.bool r))]) .normal (some σ) := by
  intro n
  induction n with
  | zero => intro _ r h; cases h
  | succ n ih =>
    intro v2 r h σ hσ
    rw [f_laws_eqIntS_1] at h
    refine go_round ?_
    rcases Bool.eq_false_or_eq_true (decide (v2 < (a0.length : Int))) with hb3 | hb3
    · rw [ite_t hb3] at h
      try simp only [hσ, hb3, c_laws_eqIntS_1, Nat.reduceBEq, Nat.reduceMul, Nat.reduceAdd, Nat.reduceDiv, Int.reduceBEq, rules2, rowsX]
      refine go_fr_of rfl ?_
      obtain ⟨x4, hx4, h⟩ := ob h
      obtain ⟨x5, hx5, h⟩ := ob h
      rcases Bool.eq_false_or_eq_true (x4 != x5) with hb6 | hb6
      · rw [ite_t hb6] at h
        try simp only [hb3, hx4, hx5, hb6, Nat.reduceBEq, Nat.reduceMul, Nat.reduceAdd, Nat.reduceDiv, Int.reduceBEq, rules2, rowsX]
        cases h
        exact ⟨⟨rfl, trivial⟩, rfl⟩
      · rw [ite_f hb6] at h
        try simp only [hb3, hx4, hx5, hb6, Nat.reduceBEq, Nat.reduceMul, Nat.reduceAdd, Nat.reduceDiv, Int.reduceBEq, rules2, rowsX]
        refine ih _ _ h _ ?_
        try simp only [hb3, hx4, hx5, hb6, Nat.reduceBEq, Nat.reduceMul, Nat.reduceAdd, Nat.reduceDiv, Int.reduceBEq, rules2, rowsX, List.map_nil]
    · rw [ite_f hb3] at h
      try simp only [hσ, hb3, c_laws_eqIntS_1, c_laws_eqIntS_n1, Nat.reduceBEq, Nat.reduceMul, Nat.reduceAdd, Nat.reduceDiv, Int.reduceBEq, rules2, rowsX]
      cases h
      exact ⟨⟨rfl, trivial⟩, rfl⟩
theorem e_laws_eqIntS : entry Try.prog 19 = some (c_laws_eqIntS.strip, [4], 26) := by kernel_rfl
theorem w_laws_eqIntS (a0 : List Int) (a1 : List Int) (r : Bool) (h : f_laws_eqIntS a0 a1 = some r) : FC Try.prog 19 [.sc (.sl (List.map rI a0)), .sc (.sl (List.map rI a1))] [.sc (.v (.bool r))] := by
  unfold f_laws_eqIntS at h
  refine FC_go (σ := ⟨[(0, vc (aL (List.map rI a0))), (1, vc (aL (List.map rI a1)))], [], []⟩) mixed e_laws_eqIntS rfl rfl ?_
  simp only [c_laws_eqIntS]
  rcases Bool.eq_false_or_eq_true ((a0.length : Int) != (a1.length : Int)) with hb1 | hb1
  · rw [ite_t hb1] at h
    try simp only [hb1, Nat.reduceBEq, Nat.reduceMul, Nat.reduceAdd, Nat.reduceDiv, Int.reduceBEq, rules2, rowsX]
    cases h
    exact ⟨⟨rfl, trivial⟩, rfl⟩
  · rw [ite_f hb1] at h
    try simp only [hb1, Nat.reduceBEq, Nat.reduceMul, Nat.reduceAdd, Nat.reduceDiv, Int.reduceBEq, rules2, rowsX]
    refine w_laws_eqIntS_1 _ _ _ _ _ h _ ?_
    try simp only [hb1, Nat.reduceBEq, Nat.reduceMul, Nat.reduceAdd, Nat.reduceDiv, Int.reduceBEq, rules2, rowsX, List.map_nil]
/- 4: laws_FnExactLevelOn -/
def c_laws_FnExactLevelOn : ACode := (.seq (.reg [(none, .box 3 (S 0)), (none, .mv 6 (KB false))]) (.seq (.seq (.reg [(none, .mv 12 (S 1)), (none, .len 13 (S 12)), (none, .bin 14 .gtr (S 13) (K 1048576))]) (.cond (S 14) (.seq (.reg [(none, .mv 6 (KB true))]) .ret) .skip)) (.seq (.reg [(none, .mv 7 (K 1048576))]) (.seq (.reg [(none, .load 15 (S 3) true 3), (none, .mv 16 (S 7)), (none, .call 17 13 [(S 15), (S 16)]), (none, .mv 7 (S 17))]) (.seq (.seq (.reg [(none, .mv 18 (S 7)), (none, .bin 19 .lss (S 18) (K 0))]) (.cond (S 19) (.seq (.reg [(none, .mv 6 (KB true))]) .ret) .skip)) (.seq (.reg [(none, .load 20 (S 3) true 3), (none, .call 21 15 [(S 20)]), (none, .mv 22 (S 1)), (none, .call 23 16 [(S 22)]), (none, .mv 24 (S 2)), (none, .call 25 14 [(S 21), (S 23), (S 24)]), (none, .mv 8 (S 25))]) (.seq (.reg [(none, .load 26 (S 3) true 3), (none, .call 27 15 [(S 26)]), (none, .alloc 9 [aI 0, .nil, .nil]), (none, .store (S 9) (S 27) 3)]) (.seq (.reg [(none, .mv 28 (S 1)), (none, .call 29 16 [(S 28)]), (none, .mv 10 (S 29))]) (.seq (.reg [(none, .load 30 (S 9) true 3), (none, .mv 31 (S 10)), (none, .mv 32 (S 2)), (none, .call 33 17 [(S 30), (S 31), (S 32)]), (none, .mv 11 (S 33))]) (.seq (.seq (.reg [(none, .mv 34 (S 11)), (none, .mv 35 (S 8)), (none, .bin 36 .neq (S 34) (S 35))]) (.cond (S 36) (.seq (.reg [(none, .mv 6 (KB false))]) .ret) .skip)) (.seq (.seq (.drw [(some [39], (none, .load 37 (S 9) true 3)), (some [], (none, .load 38 (S 3) true 3)), (some [], (none, .call 39 15 [(S 38)])), (some [], (none, .call 40 18 [(S 37), (S 39)])), (some [], (none, .un 41 .not (S 40)))]) (.cond (S 41) (.seq (.reg [(none, .mv 6 (KB false))]) .ret) .skip)) (.seq (.seq (.reg [(none, .mv 42 (S 10)), (none, .mv 43 (S 1)), (none, .call 44 16 [(S 43)]), (none, .call 45 19 [(S 42), (S 44)]), (none, .un 46 .not (S 45))]) (.cond (S 46) (.seq (.reg [(none, .mv 6 (KB false))]) .ret) .skip)) (.seq (.reg [(none, .mv 6 (KB true))]) .ret)))))))))))))
theorem e_laws_FnExactLevelOn : entry Try.prog 4 = some (c_laws_FnExactLevelOn.strip, [6], 47) := by kernel_rfl
theorem w_laws_FnExactLevelOn (a0 : XForecast) (a1 : List Int) (a2 : Int) (r : Bool) (h : f_laws_FnExactLevelOn a0 a1 a2 = some r) : FC Try.prog 4 [.ag (XForecast.row a0), .sc (.sl (List.map rI a1)), .sc (.int .i64 a2)] [.sc (.v (.bool r))] := by
  unfold f_laws_FnExactLevelOn at h
  refine FC_go (σ := ⟨[(0, va [aI a0.Tide.Mean, aL (List.map XPart.row a0.Tide.Parts), aL (List.map XSurge.row a0.Surges)]), (1, vc (aL (List.map rI a1))), (2, vc (aI a2))], [], []⟩) mixed e_laws_FnExactLevelOn rfl rfl ?_
  simp only [c_laws_FnExactLevelOn]
  try simp only [Nat.reduceBEq, Nat.reduceMul, Nat.reduceAdd, Nat.reduceDiv, Int.reduceBEq, rules2, rowsX]
  refine go_bx rfl rfl rfl ?_
  rcases Bool.eq_false_or_eq_true (decide ((1048576 : Int) < (a1.length : Int))) with hb1 | hb1
  · rw [ite_t hb1] at h
    try simp only [hb1, Nat.reduceBEq, Nat.reduceMul, Nat.reduceAdd, Nat.reduceDiv, Int.reduceBEq, rules2, rowsX]
    cases h
    exact ⟨⟨rfl, trivial⟩, rfl⟩
  · rw [ite_f hb1] at h
    obtain ⟨r2, hr2, h⟩ := ob h
    try simp only [hb1, Nat.reduceBEq, Nat.reduceMul, Nat.reduceAdd, Nat.reduceDiv, Int.reduceBEq, rules2, rowsX]
    refine go_callI (w_laws_szForecast _ _ _ hr2) rfl rfl (Nat.le_of_ble_eq_true rfl) ?_
    rcases Bool.eq_false_or_eq_true (decide (r2 < (0 : Int))) with hb3 | hb3
    · rw [ite_t hb3] at h
      try simp only [hb1, hb3, Nat.reduceBEq, Nat.reduceMul, Nat.reduceAdd, Nat.reduceDiv, Int.reduceBEq, rules2, rowsX]
      cases h
      exact ⟨⟨rfl, trivial⟩, rfl⟩
    · rw [ite_f hb3] at h
      obtain ⟨r4, hr4, h⟩ := ob h
      try simp only [hb1, hb3, Nat.reduceBEq, Nat.reduceMul, Nat.reduceAdd, Nat.reduceDiv, Int.reduceBEq, rules2, rowsX]
      refine go_callI (w_laws_toForecast _ _ hr4) rfl rfl (Nat.le_of_ble_eq_true rfl) ?_
      obtain ⟨r5, hr5, h⟩ := ob h
      try simp only [hb1, hb3, Nat.reduceBEq, Nat.reduceMul, Nat.reduceAdd, Nat.reduceDiv, Int.reduceBEq, rules2, rowsX]
      refine go_callI (w_laws_toIntS _ _ hr5) rfl rfl (Nat.le_of_ble_eq_true rfl) ?_
      obtain ⟨r6, hr6, h⟩ := ob h
      try simp only [hb1, hb3, Nat.reduceBEq, Nat.reduceMul, Nat.reduceAdd, Nat.reduceDiv, Int.reduceBEq, rules2, rowsX]
      refine go_call (w_spec_LevelOn _ _ _ _ hr6) rfl (flat_of rfl) rfl (Nat.le_of_ble_eq_true rfl) ?_
      obtain ⟨r7, hr7, h⟩ := ob h
      try simp only [hb1, hb3, Nat.reduceBEq, Nat.reduceMul, Nat.reduceAdd, Nat.reduceDiv, Int.reduceBEq, rules2, rowsX]
      refine go_callI (w_laws_toForecast _ _ hr7) rfl rfl (Nat.le_of_ble_eq_true rfl) ?_
      try simp only [hb1, hb3, Nat.reduceBEq, Nat.reduceMul, Nat.reduceAdd, Nat.reduceDiv, Int.reduceBEq, rules2, rowsX]
      refine go_al rfl rfl ?_
      obtain ⟨r8, hr8, h⟩ := ob h
      try simp only [hb1, hb3, Nat.reduceBEq, Nat.reduceMul, Nat.reduceAdd, Nat.reduceDiv, Int.reduceBEq, rules2, rowsX]
      refine go_callI (w_laws_toIntS _ _ hr8) rfl rfl (Nat.le_of_ble_eq_true rfl) ?_
      obtain ⟨r9, hr9, h⟩ := ob h
      try simp only [hb1, hb3, Nat.reduceBEq, Nat.reduceMul, Nat.reduceAdd, Nat.reduceDiv, Int.reduceBEq, rules2, rowsX]
      refine go_call (w_impl_LevelOn _ _ _ _ hr9) rfl (flat_of rfl) rfl (Nat.le_of_ble_eq_true rfl) ?_
      rcases Bool.eq_false_or_eq_true (r9 != r6) with hb10 | hb10
      · rw [ite_t hb10] at h
        try simp only [hb1, hb3, hb10, Nat.reduceBEq, Nat.reduceMul, Nat.reduceAdd, Nat.reduceDiv, Int.reduceBEq, rules2, rowsX]
        cases h
        exact ⟨⟨rfl, trivial⟩, rfl⟩
      · rw [ite_f hb10] at h
        try simp only [hb1, hb3, hb10, Nat.reduceBEq, Nat.reduceMul, Nat.reduceAdd, Nat.reduceDiv, Int.reduceBEq, rules2, rowsX]
        refine go_fr_of rfl ?_
        obtain ⟨r11, hr11, h⟩ := ob h
        try simp only [hb1, hb3, hb10, Nat.reduceBEq, Nat.reduceMul, Nat.reduceAdd, Nat.reduceDiv, Int.reduceBEq, rules2, rowsX]
        refine go_callI (w_laws_toForecast _ _ hr11) rfl rfl (Nat.le_of_ble_eq_true rfl) ?_
        obtain ⟨r12, hr12, h⟩ := ob h
        try simp only [hb1, hb3, hb10, Nat.reduceBEq, Nat.reduceMul, Nat.reduceAdd, Nat.reduceDiv, Int.reduceBEq, rules2, rowsX]
        refine go_call (w_laws_eqForecast _ _ _ hr12) rfl (flat_of rfl) rfl (Nat.le_of_ble_eq_true rfl) ?_
        rcases Bool.eq_false_or_eq_true r12 with hb13 | hb13
        · rw [ite_t hb13] at h
          obtain ⟨r14, hr14, h⟩ := ob h
          try simp only [hb1, hb3, hb10, hb13, Nat.reduceBEq, Nat.reduceMul, Nat.reduceAdd, Nat.reduceDiv, Int.reduceBEq, rules2, rowsX]
          refine go_callI (w_laws_toIntS _ _ hr14) rfl rfl (Nat.le_of_ble_eq_true rfl) ?_
          obtain ⟨r15, hr15, h⟩ := ob h
          try simp only [hb1, hb3, hb10, hb13, Nat.reduceBEq, Nat.reduceMul, Nat.reduceAdd, Nat.reduceDiv, Int.reduceBEq, rules2, rowsX]
          refine go_call (w_laws_eqIntS _ _ _ hr15) rfl (flat_of rfl) rfl (Nat.le_of_ble_eq_true rfl) ?_
          rcases Bool.eq_false_or_eq_true r15 with hb16 | hb16
          · rw [ite_t hb16] at h
            try simp only [hb1, hb3, hb10, hb13, hb16, Nat.reduceBEq, Nat.reduceMul, Nat.reduceAdd, Nat.reduceDiv, Int.reduceBEq, rules2, rowsX]
            cases h
            exact ⟨⟨rfl, trivial⟩, rfl⟩
          · rw [ite_f hb16] at h
            try simp only [hb1, hb3, hb10, hb13, hb16, Nat.reduceBEq, Nat.reduceMul, Nat.reduceAdd, Nat.reduceDiv, Int.reduceBEq, rules2, rowsX]
            cases h
            exact ⟨⟨rfl, trivial⟩, rfl⟩
        · rw [ite_f hb13] at h
          try simp only [hb1, hb3, hb10, hb13, Nat.reduceBEq, Nat.reduceMul, Nat.reduceAdd, Nat.reduceDiv, Int.reduceBEq, rules2, rowsX]
          cases h
          exact ⟨⟨rfl, trivial⟩, rfl⟩
end Go.Vi
