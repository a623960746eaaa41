/-
  Walks: what the plain definitions compute is what the functions return. By program. No condition.
-/
import Derived.Test.YtldjoojbhbbhdaaNf
import Derived.Test.YtldjoojbhbbhdaaChecked
import Derived.KernelRfl
namespace Go.Vi
open Go.Proofs
set_option linter.unusedSimpArgs false
set_option linter.unusedVariables false
attribute [local irreducible] go AWP
theorem mixed : Try.prog.follows .mixedOrders = true := by kernel_rfl
/- 43: spec_l01In -/
def c_spec_l01In : ACode := (.seq (.reg [(none, .mv 6 (KB false))]) (.seq (.reg [(none, .mv 7 (S 0)), (none, .mv 8 (S 1)), (none, .bin 9 .geq (S 7) (S 8)), (none, .mv 10 (S 9)), (some (10, true), .mv 11 (S 0)), (some (10, true), .mv 12 (S 2)), (some (10, true), .bin 13 .leq (S 11) (S 12)), (none, .pick 14 (S 10) (S 13) (KB false)), (none, .mv 6 (S 14))]) .ret))
theorem e_spec_l01In : entry Try.prog 43 = some (c_spec_l01In.strip, [6], 15) := by kernel_rfl
theorem w_spec_l01In (a0 : Int) (a1 : Int) (a2 : Int) (r : Bool) (h : f_spec_l01In a0 a1 a2 = some r) : FC Try.prog 43 [.sc (.int .i64 a0), .sc (.int .i64 a1), .sc (.int .i64 a2)] [.sc (.v (.bool r))] := by
  unfold f_spec_l01In at h
  refine FC_go (σ := ⟨[(0, vc (aI a0)), (1, vc (aI a1)), (2, vc (aI a2))], [], []⟩) mixed e_spec_l01In rfl rfl ?_
  simp only [c_spec_l01In]
  rcases Bool.eq_false_or_eq_true (decide (a1 ≤ a0)) with hb1 | hb1
  · rw [ite_t hb1] at h
    try simp only [hb1, Nat.reduceBEq, Nat.reduceMul, Nat.reduceAdd, Nat.reduceDiv, Int.reduceBEq, rules2, rulesX, rowsX]
    cases h
    exact ⟨⟨rfl, trivial⟩, rfl⟩
  · rw [ite_f hb1] at h
    try simp only [hb1, Nat.reduceBEq, Nat.reduceMul, Nat.reduceAdd, Nat.reduceDiv, Int.reduceBEq, rules2, rulesX, rowsX]
    cases h
    exact ⟨⟨rfl, trivial⟩, rfl⟩
/- 34: spec_DeskNew -/
def c_spec_DeskNew_1 : ACode := .seq (.reg [(none, .keep [0, 2, 3, 4] [2, 3] [131136, 131200])]) (.seq (.seq (.reg [(none, .mv 10 (S 4)), (none, .mv 11 (S 0)), (none, .bin 12 .lss (S 10) (S 11))]) (.cond (S 12) .skip (.exit 0))) (.seq (.block 1 (.seq (.reg [(none, .faddr 15 (S 3) 1), (none, .load 16 (S 15) false 1), (none, .bslice 17 1 [.int .i64 0] 1 [(0, (K (-1)))]), (none, .app 18 1 8 (S 16) (S 17)), (none, .faddr 19 (S 3) 1), (none, .store (S 19) (S 18) 1)]) (.reg [(none, .faddr 20 (S 3) 2), (none, .load 21 (S 20) false 1), (none, .bslice 22 1 [.bool false] 1 [(0, (KB false))]), (none, .app 23 1 1 (S 21) (S 22)), (none, .faddr 24 (S 3) 2), (none, .store (S 24) (S 23) 1)]))) (.reg [(none, .mv 13 (S 4)), (none, .bin 14 .add (S 13) (K 1)), (none, .mv 4 (S 14))])))
def c_spec_DeskNew_n1 : ACode := (.seq (.reg [(none, .load 25 (S 3) true 3), (none, .store (S 2) (S 25) 3)]) .ret)
def c_spec_DeskNew : ACode := (.seq (.reg [(none, .alloc 2 [aI 0, .nil, .nil])]) (.seq (.reg [(none, .build 5 [aI 0, .nil, .nil] []), (none, .alloc 3 [aI 0, .nil, .nil]), (none, .store (S 3) (S 5) 3), (none, .ownb 3 1 131136 1), (none, .ownb 3 2 131200 1)]) (.seq (.seq (.reg [(none, .mv 6 (S 0)), (none, .call 7 43 [(S 6), (K 0), (K 6)]), (none, .un 8 .not (S 7))]) (.cond (S 8) (.seq (.reg [(none, .load 9 (S 3) true 3), (none, .store (S 2) (S 9) 3)]) .ret) .skip)) (.seq (.seq (.reg [(none, .mv 4 (K 0))]) (.block 0 (.loop c_spec_DeskNew_1))) c_spec_DeskNew_n1))))
theorem w_spec_DeskNew_1 (a0 : Int) : ∀ (n : Nat) (v3 : Int) (v4 : List Int) (v5 : List Bool) (r : XDesk), f_spec_DeskNew_1 a0 n v3 v4 v5 = some r → ∀ σ : St, σ.kept [0, 2, 3, 4] [2, 3] [131136, 131200] = ⟨[(0, vc (aI a0)), (2, vc (.pb 2 0)), (3, vc (.pb 3 0)), (4, vc (aI v3))], [(2, [aI (0 : Int), .nil, .nil]), (3, [aI (0 : Int), .own 131136, .own 131200])], [(131136, 1, List.map rI v4), (131200, 1, List.map rB v5)]⟩ → go Try.prog (.code (.loop c_spec_DeskNew_1) :: [.blk 0, .code c_spec_DeskNew_n1]) (Ret [.c 2 true 3] [.ag [.v (.int .i64 r.Now), .o 1 (List.map rI r.Starts), .o 1 (List.map rB r.Cleared)]]) .normal (some σ) := by
  intro n
  induction n with
  | zero => intro _ _ _ r h; cases h
  | succ n ih =>
    intro v3 v4 v5 r h σ hσ
    rw [f_spec_DeskNew_1] at h
    refine go_round ?_
    rcases Bool.eq_false_or_eq_true (decide (v3 < a0)) with hb6 | hb6
    · rw [ite_t hb6] at h
      try simp only [hσ, hb6, c_spec_DeskNew_1, Nat.reduceBEq, Nat.reduceMul, Nat.reduceAdd, Nat.reduceDiv, Int.reduceBEq, rules2, rulesX, rowsX]
      refine go_bsl (es := List.map rI ([(-1 : Int)] : List Int)) rfl rfl ?_
      obtain ⟨hg7, h⟩ := of_guard h
      try simp only [hb6, hg7, Nat.reduceBEq, Nat.reduceMul, Nat.reduceAdd, Nat.reduceDiv, Int.reduceBEq, rules2, rulesX, rowsX]
      refine go_bsl (es := List.map rB ([false] : List Bool)) rfl rfl ?_
      obtain ⟨hg8, h⟩ := of_guard h
      try simp only [hb6, hg7, hg8, Nat.reduceBEq, Nat.reduceMul, Nat.reduceAdd, Nat.reduceDiv, Int.reduceBEq, rules2, rulesX, rowsX]
      refine ih _ _ _ _ h _ ?_
      try simp only [hb6, hg7, hg8, Nat.reduceBEq, Nat.reduceMul, Nat.reduceAdd, Nat.reduceDiv, Int.reduceBEq, rules2, rulesX, rowsX, List.map_nil]
    · rw [ite_f hb6] at h
      try simp only [hσ, hb6, c_spec_DeskNew_1, c_spec_DeskNew_n1, Nat.reduceBEq, Nat.reduceMul, Nat.reduceAdd, Nat.reduceDiv, Int.reduceBEq, rules2, rulesX, rowsX]
      cases h
      try simp only [rulesR, Nat.reduceBEq, Nat.reduceMul, Nat.reduceAdd, Nat.reduceDiv, Int.reduceBEq, rules2, rulesX, rowsX]
      exact ⟨⟨⟨rfl, rfl, rfl, trivial⟩, trivial⟩, rfl⟩
theorem e_spec_DeskNew : entry Try.prog 34 = some (c_spec_DeskNew.strip, [.c 2 true 3], 26) := by kernel_rfl
theorem w_spec_DeskNew (a0 : Int) (r : XDesk) (h : f_spec_DeskNew a0 = some r) : FC Try.prog 34 [.sc (.int .i64 a0)] [.ag [.v (.int .i64 r.Now), .o 1 (List.map rI r.Starts), .o 1 (List.map rB r.Cleared)]] := by
  unfold f_spec_DeskNew at h
  refine FC_go (σ := ⟨[(0, vc (aI a0))], [], []⟩) mixed e_spec_DeskNew rfl rfl ?_
  simp only [c_spec_DeskNew]
  try simp only [Nat.reduceBEq, Nat.reduceMul, Nat.reduceAdd, Nat.reduceDiv, Int.reduceBEq, rules2, rulesX, rowsX]
  refine go_al rfl rfl ?_
  try simp only [Nat.reduceBEq, Nat.reduceMul, Nat.reduceAdd, Nat.reduceDiv, Int.reduceBEq, rules2, rulesX, rowsX]
  refine go_al rfl rfl ?_
  try simp only [Nat.reduceBEq, Nat.reduceMul, Nat.reduceAdd, Nat.reduceDiv, Int.reduceBEq, rules2, rulesX, rowsX]
  refine go_ownb' (cs' := [aI (0 : Int), .own 131136, .nil]) rfl rfl rfl rfl ?_
  try simp only [Nat.reduceBEq, Nat.reduceMul, Nat.reduceAdd, Nat.reduceDiv, Int.reduceBEq, rules2, rulesX, rowsX]
  refine go_ownb' (cs' := [aI (0 : Int), .own 131136, .own 131200]) rfl rfl rfl rfl ?_
  obtain ⟨r1, hr1, h⟩ := ob h
  try simp only [Nat.reduceBEq, Nat.reduceMul, Nat.reduceAdd, Nat.reduceDiv, Int.reduceBEq, rules2, rulesX, rowsX]
  refine go_callI (w_spec_l01In _ _ _ _ hr1) rfl rfl (Nat.le_of_ble_eq_true rfl) ?_
  rcases Bool.eq_false_or_eq_true r1 with hb2 | hb2
  · rw [ite_t hb2] at h
    try simp only [hb2, Nat.reduceBEq, Nat.reduceMul, Nat.reduceAdd, Nat.reduceDiv, Int.reduceBEq, rules2, rulesX, rowsX]
    refine w_spec_DeskNew_1 _ _ _ _ _ _ h _ ?_
    try simp only [hb2, Nat.reduceBEq, Nat.reduceMul, Nat.reduceAdd, Nat.reduceDiv, Int.reduceBEq, rules2, rulesX, rowsX, List.map_nil]
  · rw [ite_f hb2] at h
    try simp only [hb2, Nat.reduceBEq, Nat.reduceMul, Nat.reduceAdd, Nat.reduceDiv, Int.reduceBEq, rules2, rulesX, rowsX]
    cases h
    try simp only [rulesR, Nat.reduceBEq, Nat.reduceMul, Nat.reduceAdd, Nat.reduceDiv, Int.reduceBEq, rules2, rulesX, rowsX]
    exact ⟨⟨⟨rfl, rfl, rfl, trivial⟩, trivial⟩, rfl⟩
/- 35: spec_StayingMoves -/
def c_spec_StayingMoves : ACode := (.seq (.reg [(none, .mv 0 KN)]) (.seq (.reg [(none, .mksl 1 1 8 [.int .i64 0] (K 64) (K 64)), (none, .mv 0 (S 1))]) .ret))
theorem e_spec_StayingMoves : entry Try.prog 35 = some (c_spec_StayingMoves.strip, [0], 2) := by kernel_rfl
theorem w_spec_StayingMoves (r : (List Int)) (h : f_spec_StayingMoves = some r) : FC Try.prog 35 [] [.sc (.o 1 (List.map rI r))] := by
  unfold f_spec_StayingMoves at h
  refine FC_go (σ := ⟨[], [], []⟩) mixed e_spec_StayingMoves rfl rfl ?_
  simp only [c_spec_StayingMoves]
  obtain ⟨n1, hn1, h⟩ := ob h
  try simp only [Nat.reduceBEq, Nat.reduceMul, Nat.reduceAdd, Nat.reduceDiv, Int.reduceBEq, rules2, rulesX, rowsX]
  refine go_mks (es := List.map rI (List.replicate n1 (0 : Int))) rfl rfl hn1 rfl (rep_map rfl) rfl ?_
  try simp only [Nat.reduceBEq, Nat.reduceMul, Nat.reduceAdd, Nat.reduceDiv, Int.reduceBEq, rules2, rulesX, rowsX]
  cases h
  exact ⟨⟨rfl, trivial⟩, rfl⟩
/- 13: spec_NewConsole -/
def c_spec_NewConsole : ACode := (.seq (.reg [(none, .alloc 0 [aI 0, .nil, .nil, .nil, .nil, .nil, aI 0, aB false, aI 0, aI 0, aI 0, .nil, .nil, aI 0, .nil, .nil])]) (.seq (.reg [(none, .call 2 34 [(K 0)]), (none, .build 3 [aI 0, .nil, .nil, .nil, .nil, .nil, aI 0, aB false, aI 0, aI 0, aI 0, .nil, .nil, aI 0, .nil, .nil] [(13, 3, (S 2))]), (none, .alloc 1 [aI 0, .nil, .nil, .nil, .nil, .nil, aI 0, aB false, aI 0, aI 0, aI 0, .nil, .nil, aI 0, .nil, .nil]), (none, .store (S 1) (S 3) 16)]) (.seq (.reg [(none, .build 4 [aI 0, aI 0, aI 0] []), (none, .bslice 5 3 [.int .i64 0, .int .i64 0, .int .i64 0] 1 [(0, (S 4))]), (none, .faddr 6 (S 1) 0), (none, .faddr 7 (S 6) 0), (none, .faddr 8 (S 7) 2), (none, .store (S 8) (S 5) 1)]) (.seq (.reg [(none, .faddr 9 (S 1) 0), (none, .faddr 10 (S 9) 6), (none, .faddr 11 (S 10) 0), (none, .store (S 11) (K 10) 1)]) (.seq (.reg [(none, .call 12 35 []), (none, .build 13 [aI 0, aI 0, aI 0, .nil] [(0, 1, (K 2)), (1, 1, (K 2)), (2, 1, (K 30)), (3, 1, (S 12))]), (none, .faddr 14 (S 1) 0), (none, .faddr 15 (S 14) 8), (none, .store (S 15) (S 13) 4)]) (.seq (.reg [(none, .load 16 (S 1) true 16), (none, .store (S 0) (S 16) 16)]) .ret))))))
theorem e_spec_NewConsole : entry Try.prog 13 = some (c_spec_NewConsole.strip, [.c 0 true 16], 17) := by kernel_rfl
theorem w_spec_NewConsole (r : XConsole) (h : f_spec_NewConsole = some r) : FC Try.prog 13 [] [.ag [.v (.int .i64 r.Harbour.Forecast.Tide.Mean), .o 3 (List.map XPart.row r.Harbour.Forecast.Tide.Parts), .o 3 (List.map XSurge.row r.Harbour.Forecast.Surges), .o 2 (List.map XPoint.row r.Harbour.Chart.Points), .o 5 (List.map XSegment.row r.Harbour.Chart.Segments), .o 6 (List.map XShip.row r.Harbour.Fleet), .v (.int .i64 r.Harbour.Regime.Gap), .v (.bool r.Harbour.Regime.NoMeet), .v (.int .i64 r.Harbour.Crew.Tugs), .v (.int .i64 r.Harbour.Crew.Pilots), .v (.int .i64 r.Harbour.Crew.Rest), .o 1 (List.map rI r.Harbour.Crew.Moves), .o 5 (List.map XCall.row r.Calls), .v (.int .i64 r.Desk.Now), .o 1 (List.map rI r.Desk.Starts), .o 1 (List.map rB r.Desk.Cleared)]] := by
  unfold f_spec_NewConsole at h
  refine FC_go (σ := ⟨[], [], []⟩) mixed e_spec_NewConsole rfl rfl ?_
  simp only [c_spec_NewConsole]
  try simp only [Nat.reduceBEq, Nat.reduceMul, Nat.reduceAdd, Nat.reduceDiv, Int.reduceBEq, rules2, rulesX, rowsX]
  refine go_al rfl rfl ?_
  obtain ⟨r1, hr1, h⟩ := ob h
  try simp only [Nat.reduceBEq, Nat.reduceMul, Nat.reduceAdd, Nat.reduceDiv, Int.reduceBEq, rules2, rulesX, rowsX]
  refine go_callI (w_spec_DeskNew _ _ hr1) rfl rfl (Nat.le_of_ble_eq_true rfl) ?_
  try simp only [Nat.reduceBEq, Nat.reduceMul, Nat.reduceAdd, Nat.reduceDiv, Int.reduceBEq, rules2, rulesX, rowsX]
  refine go_al rfl rfl ?_
  try simp only [Nat.reduceBEq, Nat.reduceMul, Nat.reduceAdd, Nat.reduceDiv, Int.reduceBEq, rules2, rulesX, rowsX]
  refine go_bsl (es := List.map XSurge.row ([(⟨(0 : Int), (0 : Int), (0 : Int)⟩ : XSurge)] : List XSurge)) rfl rfl ?_
  obtain ⟨r2, hr2, h⟩ := ob h
  try simp only [Nat.reduceBEq, Nat.reduceMul, Nat.reduceAdd, Nat.reduceDiv, Int.reduceBEq, rules2, rulesX, rowsX]
  refine go_callI (w_spec_StayingMoves _ hr2) rfl rfl (Nat.le_of_ble_eq_true rfl) ?_
  try simp only [Nat.reduceBEq, Nat.reduceMul, Nat.reduceAdd, Nat.reduceDiv, Int.reduceBEq, rules2, rulesX, rowsX]
  cases h
  try simp only [rulesR, Nat.reduceBEq, Nat.reduceMul, Nat.reduceAdd, Nat.reduceDiv, Int.reduceBEq, rules2, rulesX, rowsX]
  exact ⟨⟨⟨rfl, rfl, rfl, rfl, rfl, rfl, rfl, rfl, rfl, rfl, rfl, rfl, rfl, rfl, rfl, rfl, trivial⟩, trivial⟩, rfl⟩
/- 36: impl_StayingMoves -/
def c_impl_StayingMoves : ACode := (.seq (.reg [(none, .mv 0 KN)]) (.seq (.reg [(none, .mksl 1 1 8 [.int .i64 0] (K 64) (K 64)), (none, .mv 0 (S 1))]) .ret))
theorem e_impl_StayingMoves : entry Try.prog 36 = some (c_impl_StayingMoves.strip, [0], 2) := by kernel_rfl
theorem w_impl_StayingMoves (r : (List Int)) (h : f_impl_StayingMoves = some r) : FC Try.prog 36 [] [.sc (.o 1 (List.map rI r))] := by
  unfold f_impl_StayingMoves at h
  refine FC_go (σ := ⟨[], [], []⟩) mixed e_impl_StayingMoves rfl rfl ?_
  simp only [c_impl_StayingMoves]
  obtain ⟨n1, hn1, h⟩ := ob h
  try simp only [Nat.reduceBEq, Nat.reduceMul, Nat.reduceAdd, Nat.reduceDiv, Int.reduceBEq, rules2, rulesX, rowsX]
  refine go_mks (es := List.map rI (List.replicate n1 (0 : Int))) rfl rfl hn1 rfl (rep_map rfl) rfl ?_
  try simp only [Nat.reduceBEq, Nat.reduceMul, Nat.reduceAdd, Nat.reduceDiv, Int.reduceBEq, rules2, rulesX, rowsX]
  cases h
  exact ⟨⟨rfl, trivial⟩, rfl⟩
/- 14: impl_NewConsole -/
def c_impl_NewConsole : ACode := (.seq (.reg [(none, .alloc 0 [aI 0, .nil, .nil, .nil, .nil, .nil, aI 0, aB false, aI 0, aI 0, aI 0, .nil, .nil, aI 0, .nil, .nil])]) (.seq (.reg [(none, .build 1 [aI 0, aI 0, aI 0] []), (none, .bslice 2 3 [.int .i64 0, .int .i64 0, .int .i64 0] 1 [(0, (S 1))]), (none, .build 3 [aI 0, .nil, .nil] [(2, 1, (S 2))]), (none, .build 4 [aI 0, aB false] [(0, 1, (K 10))]), (none, .call 5 36 []), (none, .build 6 [aI 0, aI 0, aI 0, .nil] [(0, 1, (K 2)), (1, 1, (K 2)), (2, 1, (K 30)), (3, 1, (S 5))]), (none, .build 7 [aI 0, .nil, .nil, .nil, .nil, .nil, aI 0, aB false, aI 0, aI 0, aI 0, .nil] [(0, 3, (S 3)), (6, 2, (S 4)), (8, 4, (S 6))]), (none, .build 8 [aI 0, .nil, .nil, .nil, .nil, .nil, aI 0, aB false, aI 0, aI 0, aI 0, .nil, .nil, aI 0, .nil, .nil] [(0, 12, (S 7))]), (none, .store (S 0) (S 8) 16)]) .ret))
theorem e_impl_NewConsole : entry Try.prog 14 = some (c_impl_NewConsole.strip, [.c 0 true 16], 9) := by kernel_rfl
theorem w_impl_NewConsole (r : XConsole) (h : f_impl_NewConsole = some r) : FC Try.prog 14 [] [.ag [.v (.int .i64 r.Harbour.Forecast.Tide.Mean), .o 3 (List.map XPart.row r.Harbour.Forecast.Tide.Parts), .o 3 (List.map XSurge.row r.Harbour.Forecast.Surges), .o 2 (List.map XPoint.row r.Harbour.Chart.Points), .o 5 (List.map XSegment.row r.Harbour.Chart.Segments), .o 6 (List.map XShip.row r.Harbour.Fleet), .v (.int .i64 r.Harbour.Regime.Gap), .v (.bool r.Harbour.Regime.NoMeet), .v (.int .i64 r.Harbour.Crew.Tugs), .v (.int .i64 r.Harbour.Crew.Pilots), .v (.int .i64 r.Harbour.Crew.Rest), .o 1 (List.map rI r.Harbour.Crew.Moves), .o 5 (List.map XCall.row r.Calls), .v (.int .i64 r.Desk.Now), .o 1 (List.map rI r.Desk.Starts), .o 1 (List.map rB r.Desk.Cleared)]] := by
  unfold f_impl_NewConsole at h
  refine FC_go (σ := ⟨[], [], []⟩) mixed e_impl_NewConsole rfl rfl ?_
  simp only [c_impl_NewConsole]
  try simp only [Nat.reduceBEq, Nat.reduceMul, Nat.reduceAdd, Nat.reduceDiv, Int.reduceBEq, rules2, rulesX, rowsX]
  refine go_al rfl rfl ?_
  try simp only [Nat.reduceBEq, Nat.reduceMul, Nat.reduceAdd, Nat.reduceDiv, Int.reduceBEq, rules2, rulesX, rowsX]
  refine go_bsl (es := List.map XSurge.row ([(⟨(0 : Int), (0 : Int), (0 : Int)⟩ : XSurge)] : List XSurge)) rfl rfl ?_
  obtain ⟨r1, hr1, h⟩ := ob h
  try simp only [Nat.reduceBEq, Nat.reduceMul, Nat.reduceAdd, Nat.reduceDiv, Int.reduceBEq, rules2, rulesX, rowsX]
  refine go_callI (w_impl_StayingMoves _ hr1) rfl rfl (Nat.le_of_ble_eq_true rfl) ?_
  try simp only [Nat.reduceBEq, Nat.reduceMul, Nat.reduceAdd, Nat.reduceDiv, Int.reduceBEq, rules2, rulesX, rowsX]
  cases h
  try simp only [rulesR, Nat.reduceBEq, Nat.reduceMul, Nat.reduceAdd, Nat.reduceDiv, Int.reduceBEq, rules2, rulesX, rowsX]
  exact ⟨⟨⟨rfl, rfl, rfl, rfl, rfl, rfl, rfl, rfl, rfl, rfl, rfl, rfl, rfl, rfl, rfl, rfl, trivial⟩, trivial⟩, rfl⟩
/- 83: laws_eqPart -/
def c_laws_eqPart : ACode := (.seq (.reg [(none, .box 2 (S 0)), (none, .box 3 (S 1)), (none, .mv 4 (KB false))]) (.seq (.seq (.reg [(none, .faddr 5 (S 2) 0), (none, .load 6 (S 5) false 1), (none, .faddr 7 (S 3) 0), (none, .load 8 (S 7) false 1), (none, .bin 9 .neq (S 6) (S 8))]) (.cond (S 9) (.seq (.reg [(none, .mv 4 (KB false))]) .ret) .skip)) (.seq (.seq (.reg [(none, .faddr 10 (S 2) 1), (none, .load 11 (S 10) false 1), (none, .faddr 12 (S 3) 1), (none, .load 13 (S 12) false 1), (none, .bin 14 .neq (S 11) (S 13))]) (.cond (S 14) (.seq (.reg [(none, .mv 4 (KB false))]) .ret) .skip)) (.seq (.seq (.reg [(none, .faddr 15 (S 2) 2), (none, .load 16 (S 15) false 1), (none, .faddr 17 (S 3) 2), (none, .load 18 (S 17) false 1), (none, .bin 19 .neq (S 16) (S 18))]) (.cond (S 19) (.seq (.reg [(none, .mv 4 (KB false))]) .ret) .skip)) (.seq (.reg [(none, .mv 4 (KB true))]) .ret)))))
theorem e_laws_eqPart : entry Try.prog 83 = some (c_laws_eqPart.strip, [4], 20) := by kernel_rfl
theorem w_laws_eqPart (a0 : XPart) (a1 : XPart) (r : Bool) (h : f_laws_eqPart a0 a1 = some r) : FC Try.prog 83 [.ag (XPart.row a0), .ag (XPart.row a1)] [.sc (.v (.bool r))] := by
  unfold f_laws_eqPart at h
  refine FC_go (σ := ⟨[(0, va [aI a0.Amp, aI a0.Period, aI a0.Phase]), (1, va [aI a1.Amp, aI a1.Period, aI a1.Phase])], [], []⟩) mixed e_laws_eqPart rfl rfl ?_
  simp only [c_laws_eqPart]
  try simp only [Nat.reduceBEq, Nat.reduceMul, Nat.reduceAdd, Nat.reduceDiv, Int.reduceBEq, rules2, rulesX, rowsX]
  refine go_bx rfl rfl rfl ?_
  try simp only [Nat.reduceBEq, Nat.reduceMul, Nat.reduceAdd, Nat.reduceDiv, Int.reduceBEq, rules2, rulesX, rowsX]
  refine go_bx rfl rfl rfl ?_
  rcases Bool.eq_false_or_eq_true (a0.Amp != a1.Amp) with hb1 | hb1
  · rw [ite_t hb1] at h
    try simp only [hb1, Nat.reduceBEq, Nat.reduceMul, Nat.reduceAdd, Nat.reduceDiv, Int.reduceBEq, rules2, rulesX, rowsX]
    cases h
    exact ⟨⟨rfl, trivial⟩, rfl⟩
  · rw [ite_f hb1] at h
    rcases Bool.eq_false_or_eq_true (a0.Period != a1.Period) with hb2 | hb2
    · rw [ite_t hb2] at h
      try simp only [hb1, hb2, Nat.reduceBEq, Nat.reduceMul, Nat.reduceAdd, Nat.reduceDiv, Int.reduceBEq, rules2, rulesX, rowsX]
      cases h
      exact ⟨⟨rfl, trivial⟩, rfl⟩
    · rw [ite_f hb2] at h
      rcases Bool.eq_false_or_eq_true (a0.Phase != a1.Phase) with hb3 | hb3
      · rw [ite_t hb3] at h
        try simp only [hb1, hb2, hb3, Nat.reduceBEq, Nat.reduceMul, Nat.reduceAdd, Nat.reduceDiv, Int.reduceBEq, rules2, rulesX, rowsX]
        cases h
        exact ⟨⟨rfl, trivial⟩, rfl⟩
      · rw [ite_f hb3] at h
        try simp only [hb1, hb2, hb3, Nat.reduceBEq, Nat.reduceMul, Nat.reduceAdd, Nat.reduceDiv, Int.reduceBEq, rules2, rulesX, rowsX]
        cases h
        exact ⟨⟨rfl, trivial⟩, rfl⟩
/- 77: laws_eqPartS -/
def c_laws_eqPartS_1 : ACode := .seq (.reg [(none, .keep [0, 1, 5] [] [])]) (.seq (.seq (.reg [(none, .mv 11 (S 5)), (none, .mv 12 (S 0)), (none, .len 13 (S 12)), (none, .bin 14 .lss (S 11) (S 13))]) (.cond (S 14) .skip (.exit 0))) (.seq (.block 1 (.seq (.drw [(some [], (none, .mv 17 (S 0))), (some [], (none, .mv 18 (S 5))), (some [], (none, .iaddr 19 (S 17) (S 18) 3)), (some [], (none, .load 20 (S 19) true 3)), (some [], (none, .mv 21 (S 1))), (some [], (none, .mv 22 (S 5))), (some [], (none, .iaddr 23 (S 21) (S 22) 3)), (some [], (none, .load 24 (S 23) true 3)), (some [], (none, .call 25 83 [(S 20), (S 24)])), (some [], (none, .un 26 .not (S 25)))]) (.cond (S 26) (.seq (.reg [(none, .mv 4 (KB false))]) .ret) .skip))) (.reg [(none, .mv 15 (S 5)), (none, .bin 16 .add (S 15) (K 1)), (none, .mv 5 (S 16))])))
def c_laws_eqPartS_n1 : ACode := (.seq (.reg [(none, .mv 4 (KB true))]) .ret)
def c_laws_eqPartS : ACode := (.seq (.reg [(none, .mv 4 (KB false))]) (.seq (.seq (.reg [(none, .mv 6 (S 0)), (none, .len 7 (S 6)), (none, .mv 8 (S 1)), (none, .len 9 (S 8)), (none, .bin 10 .neq (S 7) (S 9))]) (.cond (S 10) (.seq (.reg [(none, .mv 4 (KB false))]) .ret) .skip)) (.seq (.seq (.reg [(none, .mv 5 (K 0))]) (.block 0 (.loop c_laws_eqPartS_1))) c_laws_eqPartS_n1)))
theorem w_laws_eqPartS_1 (a0 : List XPart) (a1 : List XPart) : ∀ (n : Nat) (v2 : Int) (r : Bool), f_laws_eqPartS_1 a0 a1 n v2 = some r → ∀ σ : St, σ.kept [0, 1, 5] [] [] = ⟨[(0, vc (aL (List.map XPart.row a0))), (1, vc (aL (List.map XPart.row a1))), (5, vc (aI v2))], [], []⟩ → go Try.prog (.code (.loop c_laws_eqPartS_1) :: [.blk 0, .code c_laws_eqPartS_n1]) (Ret [4] [.sc (.v (.bool r))]) .normal (some σ) := by
  intro n
  induction n with
  | zero => intro _ r h; cases h
  | succ n ih =>
    intro v2 r h σ hσ
    rw [f_laws_eqPartS_1] at h
    refine go_round ?_
    rcases Bool.eq_false_or_eq_true (decide (v2 < (a0.length : Int))) with hb3 | hb3
    · rw [ite_t hb3] at h
      try simp only [hσ, hb3, c_laws_eqPartS_1, Nat.reduceBEq, Nat.reduceMul, Nat.reduceAdd, Nat.reduceDiv, Int.reduceBEq, rules2, rulesX, rowsX]
      refine go_fr_of rfl ?_
      obtain ⟨x4, hx4, h⟩ := ob h
      obtain ⟨x5, hx5, h⟩ := ob h
      obtain ⟨r6, hr6, h⟩ := ob h
      try simp only [hb3, hx4, hx5, Nat.reduceBEq, Nat.reduceMul, Nat.reduceAdd, Nat.reduceDiv, Int.reduceBEq, rules2, rulesX, rowsX]
      refine go_dcallI (w_laws_eqPart _ _ _ hr6) rfl rfl (Nat.le_of_ble_eq_true rfl) ?_
      rcases Bool.eq_false_or_eq_true r6 with hb7 | hb7
      · rw [ite_t hb7] at h
        try simp only [hb3, hx4, hx5, hb7, Nat.reduceBEq, Nat.reduceMul, Nat.reduceAdd, Nat.reduceDiv, Int.reduceBEq, rules2, rulesX, rowsX]
        refine ih _ _ h _ ?_
        try simp only [hb3, hx4, hx5, hb7, Nat.reduceBEq, Nat.reduceMul, Nat.reduceAdd, Nat.reduceDiv, Int.reduceBEq, rules2, rulesX, rowsX, List.map_nil]
      · rw [ite_f hb7] at h
        try simp only [hb3, hx4, hx5, hb7, Nat.reduceBEq, Nat.reduceMul, Nat.reduceAdd, Nat.reduceDiv, Int.reduceBEq, rules2, rulesX, rowsX]
        cases h
        exact ⟨⟨rfl, trivial⟩, rfl⟩
    · rw [ite_f hb3] at h
      try simp only [hσ, hb3, c_laws_eqPartS_1, c_laws_eqPartS_n1, Nat.reduceBEq, Nat.reduceMul, Nat.reduceAdd, Nat.reduceDiv, Int.reduceBEq, rules2, rulesX, rowsX]
      cases h
      exact ⟨⟨rfl, trivial⟩, rfl⟩
theorem e_laws_eqPartS : entry Try.prog 77 = some (c_laws_eqPartS.strip, [4], 27) := by kernel_rfl
theorem w_laws_eqPartS (a0 : List XPart) (a1 : List XPart) (r : Bool) (h : f_laws_eqPartS a0 a1 = some r) : FC Try.prog 77 [.sc (.sl (List.map XPart.row a0)), .sc (.sl (List.map XPart.row a1))] [.sc (.v (.bool r))] := by
  unfold f_laws_eqPartS at h
  refine FC_go (σ := ⟨[(0, vc (aL (List.map XPart.row a0))), (1, vc (aL (List.map XPart.row a1)))], [], []⟩) mixed e_laws_eqPartS rfl rfl ?_
  simp only [c_laws_eqPartS]
  rcases Bool.eq_false_or_eq_true ((a0.length : Int) != (a1.length : Int)) with hb1 | hb1
  · rw [ite_t hb1] at h
    try simp only [hb1, Nat.reduceBEq, Nat.reduceMul, Nat.reduceAdd, Nat.reduceDiv, Int.reduceBEq, rules2, rulesX, rowsX]
    cases h
    exact ⟨⟨rfl, trivial⟩, rfl⟩
  · rw [ite_f hb1] at h
    try simp only [hb1, Nat.reduceBEq, Nat.reduceMul, Nat.reduceAdd, Nat.reduceDiv, Int.reduceBEq, rules2, rulesX, rowsX]
    refine w_laws_eqPartS_1 _ _ _ _ _ h _ ?_
    try simp only [hb1, Nat.reduceBEq, Nat.reduceMul, Nat.reduceAdd, Nat.reduceDiv, Int.reduceBEq, rules2, rulesX, rowsX, List.map_nil]
/- 63: laws_eqTide -/
def c_laws_eqTide : ACode := (.seq (.reg [(none, .box 2 (S 0)), (none, .box 3 (S 1)), (none, .mv 4 (KB false))]) (.seq (.seq (.reg [(none, .faddr 5 (S 2) 0), (none, .load 6 (S 5) false 1), (none, .faddr 7 (S 3) 0), (none, .load 8 (S 7) false 1), (none, .bin 9 .neq (S 6) (S 8))]) (.cond (S 9) (.seq (.reg [(none, .mv 4 (KB false))]) .ret) .skip)) (.seq (.seq (.reg [(none, .faddr 10 (S 2) 1), (none, .load 11 (S 10) false 1), (none, .faddr 12 (S 3) 1), (none, .load 13 (S 12) false 1), (none, .call 14 77 [(S 11), (S 13)]), (none, .un 15 .not (S 14))]) (.cond (S 15) (.seq (.reg [(none, .mv 4 (KB false))]) .ret) .skip)) (.seq (.reg [(none, .mv 4 (KB true))]) .ret))))
theorem e_laws_eqTide : entry Try.prog 63 = some (c_laws_eqTide.strip, [4], 16) := by kernel_rfl
theorem w_laws_eqTide (a0 : XTide) (a1 : XTide) (r : Bool) (h : f_laws_eqTide a0 a1 = some r) : FC Try.prog 63 [.ag (XTide.row a0), .ag (XTide.row a1)] [.sc (.v (.bool r))] := by
  unfold f_laws_eqTide at h
  refine FC_go (σ := ⟨[(0, va [aI a0.Mean, aL (List.map XPart.row a0.Parts)]), (1, va [aI a1.Mean, aL (List.map XPart.row a1.Parts)])], [], []⟩) mixed e_laws_eqTide rfl rfl ?_
  simp only [c_laws_eqTide]
  try simp only [Nat.reduceBEq, Nat.reduceMul, Nat.reduceAdd, Nat.reduceDiv, Int.reduceBEq, rules2, rulesX, rowsX]
  refine go_bx rfl rfl rfl ?_
  try simp only [Nat.reduceBEq, Nat.reduceMul, Nat.reduceAdd, Nat.reduceDiv, Int.reduceBEq, rules2, rulesX, rowsX]
  refine go_bx rfl rfl rfl ?_
  rcases Bool.eq_false_or_eq_true (a0.Mean != a1.Mean) with hb1 | hb1
  · rw [ite_t hb1] at h
    try simp only [hb1, Nat.reduceBEq, Nat.reduceMul, Nat.reduceAdd, Nat.reduceDiv, Int.reduceBEq, rules2, rulesX, rowsX]
    cases h
    exact ⟨⟨rfl, trivial⟩, rfl⟩
  · rw [ite_f hb1] at h
    obtain ⟨r2, hr2, h⟩ := ob h
    try simp only [hb1, Nat.reduceBEq, Nat.reduceMul, Nat.reduceAdd, Nat.reduceDiv, Int.reduceBEq, rules2, rulesX, rowsX]
    refine go_callI (w_laws_eqPartS _ _ _ hr2) rfl rfl (Nat.le_of_ble_eq_true rfl) ?_
    rcases Bool.eq_false_or_eq_true r2 with hb3 | hb3
    · rw [ite_t hb3] at h
      try simp only [hb1, hb3, Nat.reduceBEq, Nat.reduceMul, Nat.reduceAdd, Nat.reduceDiv, Int.reduceBEq, rules2, rulesX, rowsX]
      cases h
      exact ⟨⟨rfl, trivial⟩, rfl⟩
    · rw [ite_f hb3] at h
      try simp only [hb1, hb3, Nat.reduceBEq, Nat.reduceMul, Nat.reduceAdd, Nat.reduceDiv, Int.reduceBEq, rules2, rulesX, rowsX]
      cases h
      exact ⟨⟨rfl, trivial⟩, rfl⟩
/- 78: laws_eqSurge -/
def c_laws_eqSurge : ACode := (.seq (.reg [(none, .box 2 (S 0)), (none, .box 3 (S 1)), (none, .mv 4 (KB false))]) (.seq (.seq (.reg [(none, .faddr 5 (S 2) 0), (none, .load 6 (S 5) false 1), (none, .faddr 7 (S 3) 0), (none, .load 8 (S 7) false 1), (none, .bin 9 .neq (S 6) (S 8))]) (.cond (S 9) (.seq (.reg [(none, .mv 4 (KB false))]) .ret) .skip)) (.seq (.seq (.reg [(none, .faddr 10 (S 2) 1), (none, .load 11 (S 10) false 1), (none, .faddr 12 (S 3) 1), (none, .load 13 (S 12) false 1), (none, .bin 14 .neq (S 11) (S 13))]) (.cond (S 14) (.seq (.reg [(none, .mv 4 (KB false))]) .ret) .skip)) (.seq (.seq (.reg [(none, .faddr 15 (S 2) 2), (none, .load 16 (S 15) false 1), (none, .faddr 17 (S 3) 2), (none, .load 18 (S 17) false 1), (none, .bin 19 .neq (S 16) (S 18))]) (.cond (S 19) (.seq (.reg [(none, .mv 4 (KB false))]) .ret) .skip)) (.seq (.reg [(none, .mv 4 (KB true))]) .ret)))))
theorem e_laws_eqSurge : entry Try.prog 78 = some (c_laws_eqSurge.strip, [4], 20) := by kernel_rfl
theorem w_laws_eqSurge (a0 : XSurge) (a1 : XSurge) (r : Bool) (h : f_laws_eqSurge a0 a1 = some r) : FC Try.prog 78 [.ag (XSurge.row a0), .ag (XSurge.row a1)] [.sc (.v (.bool r))] := by
  unfold f_laws_eqSurge at h
  refine FC_go (σ := ⟨[(0, va [aI a0.From, aI a0.Low, aI a0.High]), (1, va [aI a1.From, aI a1.Low, aI a1.High])], [], []⟩) mixed e_laws_eqSurge rfl rfl ?_
  simp only [c_laws_eqSurge]
  try simp only [Nat.reduceBEq, Nat.reduceMul, Nat.reduceAdd, Nat.reduceDiv, Int.reduceBEq, rules2, rulesX, rowsX]
  refine go_bx rfl rfl rfl ?_
  try simp only [Nat.reduceBEq, Nat.reduceMul, Nat.reduceAdd, Nat.reduceDiv, Int.reduceBEq, rules2, rulesX, rowsX]
  refine go_bx rfl rfl rfl ?_
  rcases Bool.eq_false_or_eq_true (a0.From != a1.From) with hb1 | hb1
  · rw [ite_t hb1] at h
    try simp only [hb1, Nat.reduceBEq, Nat.reduceMul, Nat.reduceAdd, Nat.reduceDiv, Int.reduceBEq, rules2, rulesX, rowsX]
    cases h
    exact ⟨⟨rfl, trivial⟩, rfl⟩
  · rw [ite_f hb1] at h
    rcases Bool.eq_false_or_eq_true (a0.Low != a1.Low) with hb2 | hb2
    · rw [ite_t hb2] at h
      try simp only [hb1, hb2, Nat.reduceBEq, Nat.reduceMul, Nat.reduceAdd, Nat.reduceDiv, Int.reduceBEq, rules2, rulesX, rowsX]
      cases h
      exact ⟨⟨rfl, trivial⟩, rfl⟩
    · rw [ite_f hb2] at h
      rcases Bool.eq_false_or_eq_true (a0.High != a1.High) with hb3 | hb3
      · rw [ite_t hb3] at h
        try simp only [hb1, hb2, hb3, Nat.reduceBEq, Nat.reduceMul, Nat.reduceAdd, Nat.reduceDiv, Int.reduceBEq, rules2, rulesX, rowsX]
        cases h
        exact ⟨⟨rfl, trivial⟩, rfl⟩
      · rw [ite_f hb3] at h
        try simp only [hb1, hb2, hb3, Nat.reduceBEq, Nat.reduceMul, Nat.reduceAdd, Nat.reduceDiv, Int.reduceBEq, rules2, rulesX, rowsX]
        cases h
        exact ⟨⟨rfl, trivial⟩, rfl⟩
/- 64: laws_eqSurgeS -/
def c_laws_eqSurgeS_1 : ACode := .seq (.reg [(none, .keep [0, 1, 5] [] [])]) (.seq (.seq (.reg [(none, .mv 11 (S 5)), (none, .mv 12 (S 0)), (none, .len 13 (S 12)), (none, .bin 14 .lss (S 11) (S 13))]) (.cond (S 14) .skip (.exit 0))) (.seq (.block 1 (.seq (.drw [(some [], (none, .mv 17 (S 0))), (some [], (none, .mv 18 (S 5))), (some [], (none, .iaddr 19 (S 17) (S 18) 3)), (some [], (none, .load 20 (S 19) true 3)), (some [], (none, .mv 21 (S 1))), (some [], (none, .mv 22 (S 5))), (some [], (none, .iaddr 23 (S 21) (S 22) 3)), (some [], (none, .load 24 (S 23) true 3)), (some [], (none, .call 25 78 [(S 20), (S 24)])), (some [], (none, .un 26 .not (S 25)))]) (.cond (S 26) (.seq (.reg [(none, .mv 4 (KB false))]) .ret) .skip))) (.reg [(none, .mv 15 (S 5)), (none, .bin 16 .add (S 15) (K 1)), (none, .mv 5 (S 16))])))
def c_laws_eqSurgeS_n1 : ACode := (.seq (.reg [(none, .mv 4 (KB true))]) .ret)
def c_laws_eqSurgeS : ACode := (.seq (.reg [(none, .mv 4 (KB false))]) (.seq (.seq (.reg [(none, .mv 6 (S 0)), (none, .len 7 (S 6)), (none, .mv 8 (S 1)), (none, .len 9 (S 8)), (none, .bin 10 .neq (S 7) (S 9))]) (.cond (S 10) (.seq (.reg [(none, .mv 4 (KB false))]) .ret) .skip)) (.seq (.seq (.reg [(none, .mv 5 (K 0))]) (.block 0 (.loop c_laws_eqSurgeS_1))) c_laws_eqSurgeS_n1)))
theorem w_laws_eqSurgeS_1 (a0 : List XSurge) (a1 : List XSurge) : ∀ (n : Nat) (v2 : Int) (r : Bool), f_laws_eqSurgeS_1 a0 a1 n v2 = some r → ∀ σ : St, σ.kept [0, 1, 5] [] [] = ⟨[(0, vc (aL (List.map XSurge.row a0))), (1, vc (aL (List.map XSurge.row a1))), (5, vc (aI v2))], [], []⟩ → go Try.prog (.code (.loop c_laws_eqSurgeS_1) :: [.blk 0, .code c_laws_eqSurgeS_n1]) (Ret [4] [.sc (.v (.bool r))]) .normal (some σ) := by
  intro n
  induction n with
  | zero => intro _ r h; cases h
  | succ n ih =>
    intro v2 r h σ hσ
    rw [f_laws_eqSurgeS_1] at h
    refine go_round ?_
    rcases Bool.eq_false_or_eq_true (decide (v2 < (a0.length : Int))) with hb3 | hb3
    · rw [ite_t hb3] at h
      try simp only [hσ, hb3, c_laws_eqSurgeS_1, Nat.reduceBEq, Nat.reduceMul, Nat.reduceAdd, Nat.reduceDiv, Int.reduceBEq, rules2, rulesX, rowsX]
      refine go_fr_of rfl ?_
      obtain ⟨x4, hx4, h⟩ := ob h
      obtain ⟨x5, hx5, h⟩ := ob h
      obtain ⟨r6, hr6, h⟩ := ob h
      try simp only [hb3, hx4, hx5, Nat.reduceBEq, Nat.reduceMul, Nat.reduceAdd, Nat.reduceDiv, Int.reduceBEq, rules2, rulesX, rowsX]
      refine go_dcallI (w_laws_eqSurge _ _ _ hr6) rfl rfl (Nat.le_of_ble_eq_true rfl) ?_
      rcases Bool.eq_false_or_eq_true r6 with hb7 | hb7
      · rw [ite_t hb7] at h
        try simp only [hb3, hx4, hx5, hb7, Nat.reduceBEq, Nat.reduceMul, Nat.reduceAdd, Nat.reduceDiv, Int.reduceBEq, rules2, rulesX, rowsX]
        refine ih _ _ h _ ?_
        try simp only [hb3, hx4, hx5, hb7, Nat.reduceBEq, Nat.reduceMul, Nat.reduceAdd, Nat.reduceDiv, Int.reduceBEq, rules2, rulesX, rowsX, List.map_nil]
      · rw [ite_f hb7] at h
        try simp only [hb3, hx4, hx5, hb7, Nat.reduceBEq, Nat.reduceMul, Nat.reduceAdd, Nat.reduceDiv, Int.reduceBEq, rules2, rulesX, rowsX]
        cases h
        exact ⟨⟨rfl, trivial⟩, rfl⟩
    · rw [ite_f hb3] at h
      try simp only [hσ, hb3, c_laws_eqSurgeS_1, c_laws_eqSurgeS_n1, Nat.reduceBEq, Nat.reduceMul, Nat.reduceAdd, Nat.reduceDiv, Int.reduceBEq, rules2, rulesX, rowsX]
      cases h
      exact ⟨⟨rfl, trivial⟩, rfl⟩
theorem e_laws_eqSurgeS : entry Try.prog 64 = some (c_laws_eqSurgeS.strip, [4], 27) := by kernel_rfl
theorem w_laws_eqSurgeS (a0 : List XSurge) (a1 : List XSurge) (r : Bool) (h : f_laws_eqSurgeS a0 a1 = some r) : FC Try.prog 64 [.sc (.sl (List.map XSurge.row a0)), .sc (.sl (List.map XSurge.row a1))] [.sc (.v (.bool r))] := by
  unfold f_laws_eqSurgeS at h
  refine FC_go (σ := ⟨[(0, vc (aL (List.map XSurge.row a0))), (1, vc (aL (List.map XSurge.row a1)))], [], []⟩) mixed e_laws_eqSurgeS rfl rfl ?_
  simp only [c_laws_eqSurgeS]
  rcases Bool.eq_false_or_eq_true ((a0.length : Int) != (a1.length : Int)) with hb1 | hb1
  · rw [ite_t hb1] at h
    try simp only [hb1, Nat.reduceBEq, Nat.reduceMul, Nat.reduceAdd, Nat.reduceDiv, Int.reduceBEq, rules2, rulesX, rowsX]
    cases h
    exact ⟨⟨rfl, trivial⟩, rfl⟩
  · rw [ite_f hb1] at h
    try simp only [hb1, Nat.reduceBEq, Nat.reduceMul, Nat.reduceAdd, Nat.reduceDiv, Int.reduceBEq, rules2, rulesX, rowsX]
    refine w_laws_eqSurgeS_1 _ _ _ _ _ h _ ?_
    try simp only [hb1, Nat.reduceBEq, Nat.reduceMul, Nat.reduceAdd, Nat.reduceDiv, Int.reduceBEq, rules2, rulesX, rowsX, List.map_nil]
/- 49: laws_eqForecast -/
def c_laws_eqForecast : ACode := (.seq (.reg [(none, .box 2 (S 0)), (none, .box 3 (S 1)), (none, .mv 4 (KB false))]) (.seq (.seq (.reg [(none, .faddr 5 (S 2) 0), (none, .load 6 (S 5) true 2), (none, .faddr 7 (S 3) 0), (none, .load 8 (S 7) true 2), (none, .call 9 63 [(S 6), (S 8)]), (none, .un 10 .not (S 9))]) (.cond (S 10) (.seq (.reg [(none, .mv 4 (KB false))]) .ret) .skip)) (.seq (.seq (.reg [(none, .faddr 11 (S 2) 2), (none, .load 12 (S 11) false 1), (none, .faddr 13 (S 3) 2), (none, .load 14 (S 13) false 1), (none, .call 15 64 [(S 12), (S 14)]), (none, .un 16 .not (S 15))]) (.cond (S 16) (.seq (.reg [(none, .mv 4 (KB false))]) .ret) .skip)) (.seq (.reg [(none, .mv 4 (KB true))]) .ret))))
theorem e_laws_eqForecast : entry Try.prog 49 = some (c_laws_eqForecast.strip, [4], 17) := by kernel_rfl
theorem w_laws_eqForecast (a0 : XForecast) (a1 : XForecast) (r : Bool) (h : f_laws_eqForecast a0 a1 = some r) : FC Try.prog 49 [.ag (XForecast.row a0), .ag (XForecast.row a1)] [.sc (.v (.bool r))] := by
  unfold f_laws_eqForecast at h
  refine FC_go (σ := ⟨[(0, va [aI a0.Tide.Mean, aL (List.map XPart.row a0.Tide.Parts), aL (List.map XSurge.row a0.Surges)]), (1, va [aI a1.Tide.Mean, aL (List.map XPart.row a1.Tide.Parts), aL (List.map XSurge.row a1.Surges)])], [], []⟩) mixed e_laws_eqForecast rfl rfl ?_
  simp only [c_laws_eqForecast]
  try simp only [Nat.reduceBEq, Nat.reduceMul, Nat.reduceAdd, Nat.reduceDiv, Int.reduceBEq, rules2, rulesX, rowsX]
  refine go_bx rfl rfl rfl ?_
  try simp only [Nat.reduceBEq, Nat.reduceMul, Nat.reduceAdd, Nat.reduceDiv, Int.reduceBEq, rules2, rulesX, rowsX]
  refine go_bx rfl rfl rfl ?_
  obtain ⟨r1, hr1, h⟩ := ob h
  try simp only [Nat.reduceBEq, Nat.reduceMul, Nat.reduceAdd, Nat.reduceDiv, Int.reduceBEq, rules2, rulesX, rowsX]
  refine go_callI (w_laws_eqTide _ _ _ hr1) rfl rfl (Nat.le_of_ble_eq_true rfl) ?_
  rcases Bool.eq_false_or_eq_true r1 with hb2 | hb2
  · rw [ite_t hb2] at h
    obtain ⟨r3, hr3, h⟩ := ob h
    try simp only [hb2, Nat.reduceBEq, Nat.reduceMul, Nat.reduceAdd, Nat.reduceDiv, Int.reduceBEq, rules2, rulesX, rowsX]
    refine go_callI (w_laws_eqSurgeS _ _ _ hr3) rfl rfl (Nat.le_of_ble_eq_true rfl) ?_
    rcases Bool.eq_false_or_eq_true r3 with hb4 | hb4
    · rw [ite_t hb4] at h
      try simp only [hb2, hb4, Nat.reduceBEq, Nat.reduceMul, Nat.reduceAdd, Nat.reduceDiv, Int.reduceBEq, rules2, rulesX, rowsX]
      cases h
      exact ⟨⟨rfl, trivial⟩, rfl⟩
    · rw [ite_f hb4] at h
      try simp only [hb2, hb4, Nat.reduceBEq, Nat.reduceMul, Nat.reduceAdd, Nat.reduceDiv, Int.reduceBEq, rules2, rulesX, rowsX]
      cases h
      exact ⟨⟨rfl, trivial⟩, rfl⟩
  · rw [ite_f hb2] at h
    try simp only [hb2, Nat.reduceBEq, Nat.reduceMul, Nat.reduceAdd, Nat.reduceDiv, Int.reduceBEq, rules2, rulesX, rowsX]
    cases h
    exact ⟨⟨rfl, trivial⟩, rfl⟩
/- 79: laws_eqPoint -/
def c_laws_eqPoint : ACode := (.seq (.reg [(none, .box 2 (S 0)), (none, .box 3 (S 1)), (none, .mv 4 (KB false))]) (.seq (.seq (.reg [(none, .faddr 5 (S 2) 0), (none, .load 6 (S 5) false 1), (none, .faddr 7 (S 3) 0), (none, .load 8 (S 7) false 1), (none, .bin 9 .neq (S 6) (S 8))]) (.cond (S 9) (.seq (.reg [(none, .mv 4 (KB false))]) .ret) .skip)) (.seq (.seq (.reg [(none, .faddr 10 (S 2) 1), (none, .load 11 (S 10) false 1), (none, .faddr 12 (S 3) 1), (none, .load 13 (S 12) false 1), (none, .beq 14 true (S 11) (S 13))]) (.cond (S 14) (.seq (.reg [(none, .mv 4 (KB false))]) .ret) .skip)) (.seq (.reg [(none, .mv 4 (KB true))]) .ret))))
theorem e_laws_eqPoint : entry Try.prog 79 = some (c_laws_eqPoint.strip, [4], 15) := by kernel_rfl
theorem w_laws_eqPoint (a0 : XPoint) (a1 : XPoint) (r : Bool) (h : f_laws_eqPoint a0 a1 = some r) : FC Try.prog 79 [.ag (XPoint.row a0), .ag (XPoint.row a1)] [.sc (.v (.bool r))] := by
  unfold f_laws_eqPoint at h
  refine FC_go (σ := ⟨[(0, va [aS a0.Name, aB a0.Wait]), (1, va [aS a1.Name, aB a1.Wait])], [], []⟩) mixed e_laws_eqPoint rfl rfl ?_
  simp only [c_laws_eqPoint]
  try simp only [Nat.reduceBEq, Nat.reduceMul, Nat.reduceAdd, Nat.reduceDiv, Int.reduceBEq, rules2, rulesX, rowsX]
  refine go_bx rfl rfl rfl ?_
  try simp only [Nat.reduceBEq, Nat.reduceMul, Nat.reduceAdd, Nat.reduceDiv, Int.reduceBEq, rules2, rulesX, rowsX]
  refine go_bx rfl rfl rfl ?_
  rcases Bool.eq_false_or_eq_true (a0.Name == a1.Name) with hb1 | hb1
  · rw [ite_t hb1] at h
    rcases Bool.eq_false_or_eq_true (a0.Wait == a1.Wait) with hb2 | hb2
    · rw [ite_t hb2] at h
      try simp only [hb1, hb2, Nat.reduceBEq, Nat.reduceMul, Nat.reduceAdd, Nat.reduceDiv, Int.reduceBEq, rules2, rulesX, rowsX]
      cases h
      exact ⟨⟨rfl, trivial⟩, rfl⟩
    · rw [ite_f hb2] at h
      try simp only [hb1, hb2, Nat.reduceBEq, Nat.reduceMul, Nat.reduceAdd, Nat.reduceDiv, Int.reduceBEq, rules2, rulesX, rowsX]
      cases h
      exact ⟨⟨rfl, trivial⟩, rfl⟩
  · rw [ite_f hb1] at h
    try simp only [hb1, Nat.reduceBEq, Nat.reduceMul, Nat.reduceAdd, Nat.reduceDiv, Int.reduceBEq, rules2, rulesX, rowsX]
    cases h
    exact ⟨⟨rfl, trivial⟩, rfl⟩
/- 65: laws_eqPointS -/
def c_laws_eqPointS_1 : ACode := .seq (.reg [(none, .keep [0, 1, 5] [] [])]) (.seq (.seq (.reg [(none, .mv 11 (S 5)), (none, .mv 12 (S 0)), (none, .len 13 (S 12)), (none, .bin 14 .lss (S 11) (S 13))]) (.cond (S 14) .skip (.exit 0))) (.seq (.block 1 (.seq (.drw [(some [], (none, .mv 17 (S 0))), (some [], (none, .mv 18 (S 5))), (some [], (none, .iaddr 19 (S 17) (S 18) 2)), (some [], (none, .load 20 (S 19) true 2)), (some [], (none, .mv 21 (S 1))), (some [], (none, .mv 22 (S 5))), (some [], (none, .iaddr 23 (S 21) (S 22) 2)), (some [], (none, .load 24 (S 23) true 2)), (some [], (none, .call 25 79 [(S 20), (S 24)])), (some [], (none, .un 26 .not (S 25)))]) (.cond (S 26) (.seq (.reg [(none, .mv 4 (KB false))]) .ret) .skip))) (.reg [(none, .mv 15 (S 5)), (none, .bin 16 .add (S 15) (K 1)), (none, .mv 5 (S 16))])))
def c_laws_eqPointS_n1 : ACode := (.seq (.reg [(none, .mv 4 (KB true))]) .ret)
def c_laws_eqPointS : ACode := (.seq (.reg [(none, .mv 4 (KB false))]) (.seq (.seq (.reg [(none, .mv 6 (S 0)), (none, .len 7 (S 6)), (none, .mv 8 (S 1)), (none, .len 9 (S 8)), (none, .bin 10 .neq (S 7) (S 9))]) (.cond (S 10) (.seq (.reg [(none, .mv 4 (KB false))]) .ret) .skip)) (.seq (.seq (.reg [(none, .mv 5 (K 0))]) (.block 0 (.loop c_laws_eqPointS_1))) c_laws_eqPointS_n1)))
theorem w_laws_eqPointS_1 (a0 : List XPoint) (a1 : List XPoint) : ∀ (n : Nat) (v2 : Int) (r : Bool), f_laws_eqPointS_1 a0 a1 n v2 = some r → ∀ σ : St, σ.kept [0, 1, 5] [] [] = ⟨[(0, vc (aL (List.map XPoint.row a0))), (1, vc (aL (List.map XPoint.row a1))), (5, vc (aI v2))], [], []⟩ → go Try.prog (.code (.loop c_laws_eqPointS_1) :: [.blk 0, .code c_laws_eqPointS_n1]) (Ret [4] [.sc (.v (.bool r))]) .normal (some σ) := by
  intro n
  induction n with
  | zero => intro _ r h; cases h
  | succ n ih =>
    intro v2 r h σ hσ
    rw [f_laws_eqPointS_1] at h
    refine go_round ?_
    rcases Bool.eq_false_or_eq_true (decide (v2 < (a0.length : Int))) with hb3 | hb3
    · rw [ite_t hb3] at h
      try simp only [hσ, hb3, c_laws_eqPointS_1, Nat.reduceBEq, Nat.reduceMul, Nat.reduceAdd, Nat.reduceDiv, Int.reduceBEq, rules2, rulesX, rowsX]
      refine go_fr_of rfl ?_
      obtain ⟨x4, hx4, h⟩ := ob h
      obtain ⟨x5, hx5, h⟩ := ob h
      obtain ⟨r6, hr6, h⟩ := ob h
      try simp only [hb3, hx4, hx5, Nat.reduceBEq, Nat.reduceMul, Nat.reduceAdd, Nat.reduceDiv, Int.reduceBEq, rules2, rulesX, rowsX]
      refine go_dcallI (w_laws_eqPoint _ _ _ hr6) rfl rfl (Nat.le_of_ble_eq_true rfl) ?_
      rcases Bool.eq_false_or_eq_true r6 with hb7 | hb7
      · rw [ite_t hb7] at h
        try simp only [hb3, hx4, hx5, hb7, Nat.reduceBEq, Nat.reduceMul, Nat.reduceAdd, Nat.reduceDiv, Int.reduceBEq, rules2, rulesX, rowsX]
        refine ih _ _ h _ ?_
        try simp only [hb3, hx4, hx5, hb7, Nat.reduceBEq, Nat.reduceMul, Nat.reduceAdd, Nat.reduceDiv, Int.reduceBEq, rules2, rulesX, rowsX, List.map_nil]
      · rw [ite_f hb7] at h
        try simp only [hb3, hx4, hx5, hb7, Nat.reduceBEq, Nat.reduceMul, Nat.reduceAdd, Nat.reduceDiv, Int.reduceBEq, rules2, rulesX, rowsX]
        cases h
        exact ⟨⟨rfl, trivial⟩, rfl⟩
    · rw [ite_f hb3] at h
      try simp only [hσ, hb3, c_laws_eqPointS_1, c_laws_eqPointS_n1, Nat.reduceBEq, Nat.reduceMul, Nat.reduceAdd, Nat.reduceDiv, Int.reduceBEq, rules2, rulesX, rowsX]
      cases h
      exact ⟨⟨rfl, trivial⟩, rfl⟩
theorem e_laws_eqPointS : entry Try.prog 65 = some (c_laws_eqPointS.strip, [4], 27) := by kernel_rfl
theorem w_laws_eqPointS (a0 : List XPoint) (a1 : List XPoint) (r : Bool) (h : f_laws_eqPointS a0 a1 = some r) : FC Try.prog 65 [.sc (.sl (List.map XPoint.row a0)), .sc (.sl (List.map XPoint.row a1))] [.sc (.v (.bool r))] := by
  unfold f_laws_eqPointS at h
  refine FC_go (σ := ⟨[(0, vc (aL (List.map XPoint.row a0))), (1, vc (aL (List.map XPoint.row a1)))], [], []⟩) mixed e_laws_eqPointS rfl rfl ?_
  simp only [c_laws_eqPointS]
  rcases Bool.eq_false_or_eq_true ((a0.length : Int) != (a1.length : Int)) with hb1 | hb1
  · rw [ite_t hb1] at h
    try simp only [hb1, Nat.reduceBEq, Nat.reduceMul, Nat.reduceAdd, Nat.reduceDiv, Int.reduceBEq, rules2, rulesX, rowsX]
    cases h
    exact ⟨⟨rfl, trivial⟩, rfl⟩
  · rw [ite_f hb1] at h
    try simp only [hb1, Nat.reduceBEq, Nat.reduceMul, Nat.reduceAdd, Nat.reduceDiv, Int.reduceBEq, rules2, rulesX, rowsX]
    refine w_laws_eqPointS_1 _ _ _ _ _ h _ ?_
    try simp only [hb1, Nat.reduceBEq, Nat.reduceMul, Nat.reduceAdd, Nat.reduceDiv, Int.reduceBEq, rules2, rulesX, rowsX, List.map_nil]
/- 80: laws_eqSegment -/
def c_laws_eqSegment : ACode := (.seq (.reg [(none, .box 2 (S 0)), (none, .box 3 (S 1)), (none, .mv 4 (KB false))]) (.seq (.seq (.reg [(none, .faddr 5 (S 2) 0), (none, .load 6 (S 5) false 1), (none, .faddr 7 (S 3) 0), (none, .load 8 (S 7) false 1), (none, .bin 9 .neq (S 6) (S 8))]) (.cond (S 9) (.seq (.reg [(none, .mv 4 (KB false))]) .ret) .skip)) (.seq (.seq (.reg [(none, .faddr 10 (S 2) 1), (none, .load 11 (S 10) false 1), (none, .faddr 12 (S 3) 1), (none, .load 13 (S 12) false 1), (none, .bin 14 .neq (S 11) (S 13))]) (.cond (S 14) (.seq (.reg [(none, .mv 4 (KB false))]) .ret) .skip)) (.seq (.seq (.reg [(none, .faddr 15 (S 2) 2), (none, .load 16 (S 15) false 1), (none, .faddr 17 (S 3) 2), (none, .load 18 (S 17) false 1), (none, .bin 19 .neq (S 16) (S 18))]) (.cond (S 19) (.seq (.reg [(none, .mv 4 (KB false))]) .ret) .skip)) (.seq (.seq (.reg [(none, .faddr 20 (S 2) 3), (none, .load 21 (S 20) false 1), (none, .faddr 22 (S 3) 3), (none, .load 23 (S 22) false 1), (none, .bin 24 .neq (S 21) (S 23))]) (.cond (S 24) (.seq (.reg [(none, .mv 4 (KB false))]) .ret) .skip)) (.seq (.seq (.reg [(none, .faddr 25 (S 2) 4), (none, .load 26 (S 25) false 1), (none, .faddr 27 (S 3) 4), (none, .load 28 (S 27) false 1), (none, .beq 29 true (S 26) (S 28))]) (.cond (S 29) (.seq (.reg [(none, .mv 4 (KB false))]) .ret) .skip)) (.seq (.reg [(none, .mv 4 (KB true))]) .ret)))))))
theorem e_laws_eqSegment : entry Try.prog 80 = some (c_laws_eqSegment.strip, [4], 30) := by kernel_rfl
theorem w_laws_eqSegment (a0 : XSegment) (a1 : XSegment) (r : Bool) (h : f_laws_eqSegment a0 a1 = some r) : FC Try.prog 80 [.ag (XSegment.row a0), .ag (XSegment.row a1)] [.sc (.v (.bool r))] := by
  unfold f_laws_eqSegment at h
  refine FC_go (σ := ⟨[(0, va [aI a0.A, aI a0.B, aI a0.Depth, aI a0.Minutes, aB a0.Meet]), (1, va [aI a1.A, aI a1.B, aI a1.Depth, aI a1.Minutes, aB a1.Meet])], [], []⟩) mixed e_laws_eqSegment rfl rfl ?_
  simp only [c_laws_eqSegment]
  try simp only [Nat.reduceBEq, Nat.reduceMul, Nat.reduceAdd, Nat.reduceDiv, Int.reduceBEq, rules2, rulesX, rowsX]
  refine go_bx rfl rfl rfl ?_
  try simp only [Nat.reduceBEq, Nat.reduceMul, Nat.reduceAdd, Nat.reduceDiv, Int.reduceBEq, rules2, rulesX, rowsX]
  refine go_bx rfl rfl rfl ?_
  rcases Bool.eq_false_or_eq_true (a0.A != a1.A) with hb1 | hb1
  · rw [ite_t hb1] at h
    try simp only [hb1, Nat.reduceBEq, Nat.reduceMul, Nat.reduceAdd, Nat.reduceDiv, Int.reduceBEq, rules2, rulesX, rowsX]
    cases h
    exact ⟨⟨rfl, trivial⟩, rfl⟩
  · rw [ite_f hb1] at h
    rcases Bool.eq_false_or_eq_true (a0.B != a1.B) with hb2 | hb2
    · rw [ite_t hb2] at h
      try simp only [hb1, hb2, Nat.reduceBEq, Nat.reduceMul, Nat.reduceAdd, Nat.reduceDiv, Int.reduceBEq, rules2, rulesX, rowsX]
      cases h
      exact ⟨⟨rfl, trivial⟩, rfl⟩
    · rw [ite_f hb2] at h
      rcases Bool.eq_false_or_eq_true (a0.Depth != a1.Depth) with hb3 | hb3
      · rw [ite_t hb3] at h
        try simp only [hb1, hb2, hb3, Nat.reduceBEq, Nat.reduceMul, Nat.reduceAdd, Nat.reduceDiv, Int.reduceBEq, rules2, rulesX, rowsX]
        cases h
        exact ⟨⟨rfl, trivial⟩, rfl⟩
      · rw [ite_f hb3] at h
        rcases Bool.eq_false_or_eq_true (a0.Minutes != a1.Minutes) with hb4 | hb4
        · rw [ite_t hb4] at h
          try simp only [hb1, hb2, hb3, hb4, Nat.reduceBEq, Nat.reduceMul, Nat.reduceAdd, Nat.reduceDiv, Int.reduceBEq, rules2, rulesX, rowsX]
          cases h
          exact ⟨⟨rfl, trivial⟩, rfl⟩
        · rw [ite_f hb4] at h
          rcases Bool.eq_false_or_eq_true (a0.Meet == a1.Meet) with hb5 | hb5
          · rw [ite_t hb5] at h
            try simp only [hb1, hb2, hb3, hb4, hb5, Nat.reduceBEq, Nat.reduceMul, Nat.reduceAdd, Nat.reduceDiv, Int.reduceBEq, rules2, rulesX, rowsX]
            cases h
            exact ⟨⟨rfl, trivial⟩, rfl⟩
          · rw [ite_f hb5] at h
            try simp only [hb1, hb2, hb3, hb4, hb5, Nat.reduceBEq, Nat.reduceMul, Nat.reduceAdd, Nat.reduceDiv, Int.reduceBEq, rules2, rulesX, rowsX]
            cases h
            exact ⟨⟨rfl, trivial⟩, rfl⟩
/- 66: laws_eqSegmentS -/
def c_laws_eqSegmentS_1 : ACode := .seq (.reg [(none, .keep [0, 1, 5] [] [])]) (.seq (.seq (.reg [(none, .mv 11 (S 5)), (none, .mv 12 (S 0)), (none, .len 13 (S 12)), (none, .bin 14 .lss (S 11) (S 13))]) (.cond (S 14) .skip (.exit 0))) (.seq (.block 1 (.seq (.drw [(some [], (none, .mv 17 (S 0))), (some [], (none, .mv 18 (S 5))), (some [], (none, .iaddr 19 (S 17) (S 18) 5)), (some [], (none, .load 20 (S 19) true 5)), (some [], (none, .mv 21 (S 1))), (some [], (none, .mv 22 (S 5))), (some [], (none, .iaddr 23 (S 21) (S 22) 5)), (some [], (none, .load 24 (S 23) true 5)), (some [], (none, .call 25 80 [(S 20), (S 24)])), (some [], (none, .un 26 .not (S 25)))]) (.cond (S 26) (.seq (.reg [(none, .mv 4 (KB false))]) .ret) .skip))) (.reg [(none, .mv 15 (S 5)), (none, .bin 16 .add (S 15) (K 1)), (none, .mv 5 (S 16))])))
def c_laws_eqSegmentS_n1 : ACode := (.seq (.reg [(none, .mv 4 (KB true))]) .ret)
def c_laws_eqSegmentS : ACode := (.seq (.reg [(none, .mv 4 (KB false))]) (.seq (.seq (.reg [(none, .mv 6 (S 0)), (none, .len 7 (S 6)), (none, .mv 8 (S 1)), (none, .len 9 (S 8)), (none, .bin 10 .neq (S 7) (S 9))]) (.cond (S 10) (.seq (.reg [(none, .mv 4 (KB false))]) .ret) .skip)) (.seq (.seq (.reg [(none, .mv 5 (K 0))]) (.block 0 (.loop c_laws_eqSegmentS_1))) c_laws_eqSegmentS_n1)))
theorem w_laws_eqSegmentS_1 (a0 : List XSegment) (a1 : List XSegment) : ∀ (n : Nat) (v2 : Int) (r : Bool), f_laws_eqSegmentS_1 a0 a1 n v2 = some r → ∀ σ : St, σ.kept [0, 1, 5] [] [] = ⟨[(0, vc (aL (List.map XSegment.row a0))), (1, vc (aL (List.map XSegment.row a1))), (5, vc (aI v2))], [], []⟩ → go Try.prog (.code (.loop c_laws_eqSegmentS_1) :: [.blk 0, .code c_laws_eqSegmentS_n1]) (Ret [4] [.sc (.v (.bool r))]) .normal (some σ) := by
  intro n
  induction n with
  | zero => intro _ r h; cases h
  | succ n ih =>
    intro v2 r h σ hσ
    rw [f_laws_eqSegmentS_1] at h
    refine go_round ?_
    rcases Bool.eq_false_or_eq_true (decide (v2 < (a0.length : Int))) with hb3 | hb3
    · rw [ite_t hb3] at h
      try simp only [hσ, hb3, c_laws_eqSegmentS_1, Nat.reduceBEq, Nat.reduceMul, Nat.reduceAdd, Nat.reduceDiv, Int.reduceBEq, rules2, rulesX, rowsX]
      refine go_fr_of rfl ?_
      obtain ⟨x4, hx4, h⟩ := ob h
      obtain ⟨x5, hx5, h⟩ := ob h
      obtain ⟨r6, hr6, h⟩ := ob h
      try simp only [hb3, hx4, hx5, Nat.reduceBEq, Nat.reduceMul, Nat.reduceAdd, Nat.reduceDiv, Int.reduceBEq, rules2, rulesX, rowsX]
      refine go_dcallI (w_laws_eqSegment _ _ _ hr6) rfl rfl (Nat.le_of_ble_eq_true rfl) ?_
      rcases Bool.eq_false_or_eq_true r6 with hb7 | hb7
      · rw [ite_t hb7] at h
        try simp only [hb3, hx4, hx5, hb7, Nat.reduceBEq, Nat.reduceMul, Nat.reduceAdd, Nat.reduceDiv, Int.reduceBEq, rules2, rulesX, rowsX]
        refine ih _ _ h _ ?_
        try simp only [hb3, hx4, hx5, hb7, Nat.reduceBEq, Nat.reduceMul, Nat.reduceAdd, Nat.reduceDiv, Int.reduceBEq, rules2, rulesX, rowsX, List.map_nil]
      · rw [ite_f hb7] at h
        try simp only [hb3, hx4, hx5, hb7, Nat.reduceBEq, Nat.reduceMul, Nat.reduceAdd, Nat.reduceDiv, Int.reduceBEq, rules2, rulesX, rowsX]
        cases h
        exact ⟨⟨rfl, trivial⟩, rfl⟩
    · rw [ite_f hb3] at h
      try simp only [hσ, hb3, c_laws_eqSegmentS_1, c_laws_eqSegmentS_n1, Nat.reduceBEq, Nat.reduceMul, Nat.reduceAdd, Nat.reduceDiv, Int.reduceBEq, rules2, rulesX, rowsX]
      cases h
      exact ⟨⟨rfl, trivial⟩, rfl⟩
theorem e_laws_eqSegmentS : entry Try.prog 66 = some (c_laws_eqSegmentS.strip, [4], 27) := by kernel_rfl
theorem w_laws_eqSegmentS (a0 : List XSegment) (a1 : List XSegment) (r : Bool) (h : f_laws_eqSegmentS a0 a1 = some r) : FC Try.prog 66 [.sc (.sl (List.map XSegment.row a0)), .sc (.sl (List.map XSegment.row a1))] [.sc (.v (.bool r))] := by
  unfold f_laws_eqSegmentS at h
  refine FC_go (σ := ⟨[(0, vc (aL (List.map XSegment.row a0))), (1, vc (aL (List.map XSegment.row a1)))], [], []⟩) mixed e_laws_eqSegmentS rfl rfl ?_
  simp only [c_laws_eqSegmentS]
  rcases Bool.eq_false_or_eq_true ((a0.length : Int) != (a1.length : Int)) with hb1 | hb1
  · rw [ite_t hb1] at h
    try simp only [hb1, Nat.reduceBEq, Nat.reduceMul, Nat.reduceAdd, Nat.reduceDiv, Int.reduceBEq, rules2, rulesX, rowsX]
    cases h
    exact ⟨⟨rfl, trivial⟩, rfl⟩
  · rw [ite_f hb1] at h
    try simp only [hb1, Nat.reduceBEq, Nat.reduceMul, Nat.reduceAdd, Nat.reduceDiv, Int.reduceBEq, rules2, rulesX, rowsX]
    refine w_laws_eqSegmentS_1 _ _ _ _ _ h _ ?_
    try simp only [hb1, Nat.reduceBEq, Nat.reduceMul, Nat.reduceAdd, Nat.reduceDiv, Int.reduceBEq, rules2, rulesX, rowsX, List.map_nil]
/- 50: laws_eqChart -/
def c_laws_eqChart : ACode := (.seq (.reg [(none, .box 2 (S 0)), (none, .box 3 (S 1)), (none, .mv 4 (KB false))]) (.seq (.seq (.reg [(none, .faddr 5 (S 2) 0), (none, .load 6 (S 5) false 1), (none, .faddr 7 (S 3) 0), (none, .load 8 (S 7) false 1), (none, .call 9 65 [(S 6), (S 8)]), (none, .un 10 .not (S 9))]) (.cond (S 10) (.seq (.reg [(none, .mv 4 (KB false))]) .ret) .skip)) (.seq (.seq (.reg [(none, .faddr 11 (S 2) 1), (none, .load 12 (S 11) false 1), (none, .faddr 13 (S 3) 1), (none, .load 14 (S 13) false 1), (none, .call 15 66 [(S 12), (S 14)]), (none, .un 16 .not (S 15))]) (.cond (S 16) (.seq (.reg [(none, .mv 4 (KB false))]) .ret) .skip)) (.seq (.reg [(none, .mv 4 (KB true))]) .ret))))
theorem e_laws_eqChart : entry Try.prog 50 = some (c_laws_eqChart.strip, [4], 17) := by kernel_rfl
theorem w_laws_eqChart (a0 : XChart) (a1 : XChart) (r : Bool) (h : f_laws_eqChart a0 a1 = some r) : FC Try.prog 50 [.ag (XChart.row a0), .ag (XChart.row a1)] [.sc (.v (.bool r))] := by
  unfold f_laws_eqChart at h
  refine FC_go (σ := ⟨[(0, va [aL (List.map XPoint.row a0.Points), aL (List.map XSegment.row a0.Segments)]), (1, va [aL (List.map XPoint.row a1.Points), aL (List.map XSegment.row a1.Segments)])], [], []⟩) mixed e_laws_eqChart rfl rfl ?_
  simp only [c_laws_eqChart]
  try simp only [Nat.reduceBEq, Nat.reduceMul, Nat.reduceAdd, Nat.reduceDiv, Int.reduceBEq, rules2, rulesX, rowsX]
  refine go_bx rfl rfl rfl ?_
  try simp only [Nat.reduceBEq, Nat.reduceMul, Nat.reduceAdd, Nat.reduceDiv, Int.reduceBEq, rules2, rulesX, rowsX]
  refine go_bx rfl rfl rfl ?_
  obtain ⟨r1, hr1, h⟩ := ob h
  try simp only [Nat.reduceBEq, Nat.reduceMul, Nat.reduceAdd, Nat.reduceDiv, Int.reduceBEq, rules2, rulesX, rowsX]
  refine go_callI (w_laws_eqPointS _ _ _ hr1) rfl rfl (Nat.le_of_ble_eq_true rfl) ?_
  rcases Bool.eq_false_or_eq_true r1 with hb2 | hb2
  · rw [ite_t hb2] at h
    obtain ⟨r3, hr3, h⟩ := ob h
    try simp only [hb2, Nat.reduceBEq, Nat.reduceMul, Nat.reduceAdd, Nat.reduceDiv, Int.reduceBEq, rules2, rulesX, rowsX]
    refine go_callI (w_laws_eqSegmentS _ _ _ hr3) rfl rfl (Nat.le_of_ble_eq_true rfl) ?_
    rcases Bool.eq_false_or_eq_true r3 with hb4 | hb4
    · rw [ite_t hb4] at h
      try simp only [hb2, hb4, Nat.reduceBEq, Nat.reduceMul, Nat.reduceAdd, Nat.reduceDiv, Int.reduceBEq, rules2, rulesX, rowsX]
      cases h
      exact ⟨⟨rfl, trivial⟩, rfl⟩
    · rw [ite_f hb4] at h
      try simp only [hb2, hb4, Nat.reduceBEq, Nat.reduceMul, Nat.reduceAdd, Nat.reduceDiv, Int.reduceBEq, rules2, rulesX, rowsX]
      cases h
      exact ⟨⟨rfl, trivial⟩, rfl⟩
  · rw [ite_f hb2] at h
    try simp only [hb2, Nat.reduceBEq, Nat.reduceMul, Nat.reduceAdd, Nat.reduceDiv, Int.reduceBEq, rules2, rulesX, rowsX]
    cases h
    exact ⟨⟨rfl, trivial⟩, rfl⟩
/- 67: laws_eqShip -/
def c_laws_eqShip : ACode := (.seq (.reg [(none, .box 2 (S 0)), (none, .box 3 (S 1)), (none, .mv 4 (KB false))]) (.seq (.seq (.reg [(none, .faddr 5 (S 2) 0), (none, .load 6 (S 5) false 1), (none, .faddr 7 (S 3) 0), (none, .load 8 (S 7) false 1), (none, .bin 9 .neq (S 6) (S 8))]) (.cond (S 9) (.seq (.reg [(none, .mv 4 (KB false))]) .ret) .skip)) (.seq (.seq (.reg [(none, .faddr 10 (S 2) 1), (none, .load 11 (S 10) false 1), (none, .faddr 12 (S 3) 1), (none, .load 13 (S 12) false 1), (none, .bin 14 .neq (S 11) (S 13))]) (.cond (S 14) (.seq (.reg [(none, .mv 4 (KB false))]) .ret) .skip)) (.seq (.seq (.reg [(none, .faddr 15 (S 2) 2), (none, .load 16 (S 15) false 1), (none, .faddr 17 (S 3) 2), (none, .load 18 (S 17) false 1), (none, .bin 19 .neq (S 16) (S 18))]) (.cond (S 19) (.seq (.reg [(none, .mv 4 (KB false))]) .ret) .skip)) (.seq (.seq (.reg [(none, .faddr 20 (S 2) 3), (none, .load 21 (S 20) false 1), (none, .faddr 22 (S 3) 3), (none, .load 23 (S 22) false 1), (none, .bin 24 .neq (S 21) (S 23))]) (.cond (S 24) (.seq (.reg [(none, .mv 4 (KB false))]) .ret) .skip)) (.seq (.seq (.reg [(none, .faddr 25 (S 2) 4), (none, .load 26 (S 25) false 1), (none, .faddr 27 (S 3) 4), (none, .load 28 (S 27) false 1), (none, .bin 29 .neq (S 26) (S 28))]) (.cond (S 29) (.seq (.reg [(none, .mv 4 (KB false))]) .ret) .skip)) (.seq (.seq (.reg [(none, .faddr 30 (S 2) 5), (none, .load 31 (S 30) false 1), (none, .faddr 32 (S 3) 5), (none, .load 33 (S 32) false 1), (none, .beq 34 true (S 31) (S 33))]) (.cond (S 34) (.seq (.reg [(none, .mv 4 (KB false))]) .ret) .skip)) (.seq (.reg [(none, .mv 4 (KB true))]) .ret))))))))
theorem e_laws_eqShip : entry Try.prog 67 = some (c_laws_eqShip.strip, [4], 35) := by kernel_rfl
theorem w_laws_eqShip (a0 : XShip) (a1 : XShip) (r : Bool) (h : f_laws_eqShip a0 a1 = some r) : FC Try.prog 67 [.ag (XShip.row a0), .ag (XShip.row a1)] [.sc (.v (.bool r))] := by
  unfold f_laws_eqShip at h
  refine FC_go (σ := ⟨[(0, va [aS a0.Name, aI a0.Length, aI a0.Draught, aI a0.Line, aI a0.Tugs, aB a0.Slow]), (1, va [aS a1.Name, aI a1.Length, aI a1.Draught, aI a1.Line, aI a1.Tugs, aB a1.Slow])], [], []⟩) mixed e_laws_eqShip rfl rfl ?_
  simp only [c_laws_eqShip]
  try simp only [Nat.reduceBEq, Nat.reduceMul, Nat.reduceAdd, Nat.reduceDiv, Int.reduceBEq, rules2, rulesX, rowsX]
  refine go_bx rfl rfl rfl ?_
  try simp only [Nat.reduceBEq, Nat.reduceMul, Nat.reduceAdd, Nat.reduceDiv, Int.reduceBEq, rules2, rulesX, rowsX]
  refine go_bx rfl rfl rfl ?_
  rcases Bool.eq_false_or_eq_true (a0.Name == a1.Name) with hb1 | hb1
  · rw [ite_t hb1] at h
    rcases Bool.eq_false_or_eq_true (a0.Length != a1.Length) with hb2 | hb2
    · rw [ite_t hb2] at h
      try simp only [hb1, hb2, Nat.reduceBEq, Nat.reduceMul, Nat.reduceAdd, Nat.reduceDiv, Int.reduceBEq, rules2, rulesX, rowsX]
      cases h
      exact ⟨⟨rfl, trivial⟩, rfl⟩
    · rw [ite_f hb2] at h
      rcases Bool.eq_false_or_eq_true (a0.Draught != a1.Draught) with hb3 | hb3
      · rw [ite_t hb3] at h
        try simp only [hb1, hb2, hb3, Nat.reduceBEq, Nat.reduceMul, Nat.reduceAdd, Nat.reduceDiv, Int.reduceBEq, rules2, rulesX, rowsX]
        cases h
        exact ⟨⟨rfl, trivial⟩, rfl⟩
      · rw [ite_f hb3] at h
        rcases Bool.eq_false_or_eq_true (a0.Line != a1.Line) with hb4 | hb4
        · rw [ite_t hb4] at h
          try simp only [hb1, hb2, hb3, hb4, Nat.reduceBEq, Nat.reduceMul, Nat.reduceAdd, Nat.reduceDiv, Int.reduceBEq, rules2, rulesX, rowsX]
          cases h
          exact ⟨⟨rfl, trivial⟩, rfl⟩
        · rw [ite_f hb4] at h
          rcases Bool.eq_false_or_eq_true (a0.Tugs != a1.Tugs) with hb5 | hb5
          · rw [ite_t hb5] at h
            try simp only [hb1, hb2, hb3, hb4, hb5, Nat.reduceBEq, Nat.reduceMul, Nat.reduceAdd, Nat.reduceDiv, Int.reduceBEq, rules2, rulesX, rowsX]
            cases h
            exact ⟨⟨rfl, trivial⟩, rfl⟩
          · rw [ite_f hb5] at h
            rcases Bool.eq_false_or_eq_true (a0.Slow == a1.Slow) with hb6 | hb6
            · rw [ite_t hb6] at h
              try simp only [hb1, hb2, hb3, hb4, hb5, hb6, Nat.reduceBEq, Nat.reduceMul, Nat.reduceAdd, Nat.reduceDiv, Int.reduceBEq, rules2, rulesX, rowsX]
              cases h
              exact ⟨⟨rfl, trivial⟩, rfl⟩
            · rw [ite_f hb6] at h
              try simp only [hb1, hb2, hb3, hb4, hb5, hb6, Nat.reduceBEq, Nat.reduceMul, Nat.reduceAdd, Nat.reduceDiv, Int.reduceBEq, rules2, rulesX, rowsX]
              cases h
              exact ⟨⟨rfl, trivial⟩, rfl⟩
  · rw [ite_f hb1] at h
    try simp only [hb1, Nat.reduceBEq, Nat.reduceMul, Nat.reduceAdd, Nat.reduceDiv, Int.reduceBEq, rules2, rulesX, rowsX]
    cases h
    exact ⟨⟨rfl, trivial⟩, rfl⟩
/- 51: laws_eqShipS -/
def c_laws_eqShipS_1 : ACode := .seq (.reg [(none, .keep [0, 1, 5] [] [])]) (.seq (.seq (.reg [(none, .mv 11 (S 5)), (none, .mv 12 (S 0)), (none, .len 13 (S 12)), (none, .bin 14 .lss (S 11) (S 13))]) (.cond (S 14) .skip (.exit 0))) (.seq (.block 1 (.seq (.drw [(some [], (none, .mv 17 (S 0))), (some [], (none, .mv 18 (S 5))), (some [], (none, .iaddr 19 (S 17) (S 18) 6)), (some [], (none, .load 20 (S 19) true 6)), (some [], (none, .mv 21 (S 1))), (some [], (none, .mv 22 (S 5))), (some [], (none, .iaddr 23 (S 21) (S 22) 6)), (some [], (none, .load 24 (S 23) true 6)), (some [], (none, .call 25 67 [(S 20), (S 24)])), (some [], (none, .un 26 .not (S 25)))]) (.cond (S 26) (.seq (.reg [(none, .mv 4 (KB false))]) .ret) .skip))) (.reg [(none, .mv 15 (S 5)), (none, .bin 16 .add (S 15) (K 1)), (none, .mv 5 (S 16))])))
def c_laws_eqShipS_n1 : ACode := (.seq (.reg [(none, .mv 4 (KB true))]) .ret)
def c_laws_eqShipS : ACode := (.seq (.reg [(none, .mv 4 (KB false))]) (.seq (.seq (.reg [(none, .mv 6 (S 0)), (none, .len 7 (S 6)), (none, .mv 8 (S 1)), (none, .len 9 (S 8)), (none, .bin 10 .neq (S 7) (S 9))]) (.cond (S 10) (.seq (.reg [(none, .mv 4 (KB false))]) .ret) .skip)) (.seq (.seq (.reg [(none, .mv 5 (K 0))]) (.block 0 (.loop c_laws_eqShipS_1))) c_laws_eqShipS_n1)))
theorem w_laws_eqShipS_1 (a0 : List XShip) (a1 : List XShip) : ∀ (n : Nat) (v2 : Int) (r : Bool), f_laws_eqShipS_1 a0 a1 n v2 = some r → ∀ σ : St, σ.kept [0, 1, 5] [] [] = ⟨[(0, vc (aL (List.map XShip.row a0))), (1, vc (aL (List.map XShip.row a1))), (5, vc (aI v2))], [], []⟩ → go Try.prog (.code (.loop c_laws_eqShipS_1) :: [.blk 0, .code c_laws_eqShipS_n1]) (Ret [4] [.sc (.v (.bool r))]) .normal (some σ) := by
  intro n
  induction n with
  | zero => intro _ r h; cases h
  | succ n ih =>
    intro v2 r h σ hσ
    rw [f_laws_eqShipS_1] at h
    refine go_round ?_
    rcases Bool.eq_false_or_eq_true (decide (v2 < (a0.length : Int))) with hb3 | hb3
    · rw [ite_t hb3] at h
      try simp only [hσ, hb3, c_laws_eqShipS_1, Nat.reduceBEq, Nat.reduceMul, Nat.reduceAdd, Nat.reduceDiv, Int.reduceBEq, rules2, rulesX, rowsX]
      refine go_fr_of rfl ?_
      obtain ⟨x4, hx4, h⟩ := ob h
      obtain ⟨x5, hx5, h⟩ := ob h
      obtain ⟨r6, hr6, h⟩ := ob h
      try simp only [hb3, hx4, hx5, Nat.reduceBEq, Nat.reduceMul, Nat.reduceAdd, Nat.reduceDiv, Int.reduceBEq, rules2, rulesX, rowsX]
      refine go_dcallI (w_laws_eqShip _ _ _ hr6) rfl rfl (Nat.le_of_ble_eq_true rfl) ?_
      rcases Bool.eq_false_or_eq_true r6 with hb7 | hb7
      · rw [ite_t hb7] at h
        try simp only [hb3, hx4, hx5, hb7, Nat.reduceBEq, Nat.reduceMul, Nat.reduceAdd, Nat.reduceDiv, Int.reduceBEq, rules2, rulesX, rowsX]
        refine ih _ _ h _ ?_
        try simp only [hb3, hx4, hx5, hb7, Nat.reduceBEq, Nat.reduceMul, Nat.reduceAdd, Nat.reduceDiv, Int.reduceBEq, rules2, rulesX, rowsX, List.map_nil]
      · rw [ite_f hb7] at h
        try simp only [hb3, hx4, hx5, hb7, Nat.reduceBEq, Nat.reduceMul, Nat.reduceAdd, Nat.reduceDiv, Int.reduceBEq, rules2, rulesX, rowsX]
        cases h
        exact ⟨⟨rfl, trivial⟩, rfl⟩
    · rw [ite_f hb3] at h
      try simp only [hσ, hb3, c_laws_eqShipS_1, c_laws_eqShipS_n1, Nat.reduceBEq, Nat.reduceMul, Nat.reduceAdd, Nat.reduceDiv, Int.reduceBEq, rules2, rulesX, rowsX]
      cases h
      exact ⟨⟨rfl, trivial⟩, rfl⟩
theorem e_laws_eqShipS : entry Try.prog 51 = some (c_laws_eqShipS.strip, [4], 27) := by kernel_rfl
theorem w_laws_eqShipS (a0 : List XShip) (a1 : List XShip) (r : Bool) (h : f_laws_eqShipS a0 a1 = some r) : FC Try.prog 51 [.sc (.sl (List.map XShip.row a0)), .sc (.sl (List.map XShip.row a1))] [.sc (.v (.bool r))] := by
  unfold f_laws_eqShipS at h
  refine FC_go (σ := ⟨[(0, vc (aL (List.map XShip.row a0))), (1, vc (aL (List.map XShip.row a1)))], [], []⟩) mixed e_laws_eqShipS rfl rfl ?_
  simp only [c_laws_eqShipS]
  rcases Bool.eq_false_or_eq_true ((a0.length : Int) != (a1.length : Int)) with hb1 | hb1
  · rw [ite_t hb1] at h
    try simp only [hb1, Nat.reduceBEq, Nat.reduceMul, Nat.reduceAdd, Nat.reduceDiv, Int.reduceBEq, rules2, rulesX, rowsX]
    cases h
    exact ⟨⟨rfl, trivial⟩, rfl⟩
  · rw [ite_f hb1] at h
    try simp only [hb1, Nat.reduceBEq, Nat.reduceMul, Nat.reduceAdd, Nat.reduceDiv, Int.reduceBEq, rules2, rulesX, rowsX]
    refine w_laws_eqShipS_1 _ _ _ _ _ h _ ?_
    try simp only [hb1, Nat.reduceBEq, Nat.reduceMul, Nat.reduceAdd, Nat.reduceDiv, Int.reduceBEq, rules2, rulesX, rowsX, List.map_nil]
/- 52: laws_eqRegime -/
def c_laws_eqRegime : ACode := (.seq (.reg [(none, .box 2 (S 0)), (none, .box 3 (S 1)), (none, .mv 4 (KB false))]) (.seq (.seq (.reg [(none, .faddr 5 (S 2) 0), (none, .load 6 (S 5) false 1), (none, .faddr 7 (S 3) 0), (none, .load 8 (S 7) false 1), (none, .bin 9 .neq (S 6) (S 8))]) (.cond (S 9) (.seq (.reg [(none, .mv 4 (KB false))]) .ret) .skip)) (.seq (.seq (.reg [(none, .faddr 10 (S 2) 1), (none, .load 11 (S 10) false 1), (none, .faddr 12 (S 3) 1), (none, .load 13 (S 12) false 1), (none, .beq 14 true (S 11) (S 13))]) (.cond (S 14) (.seq (.reg [(none, .mv 4 (KB false))]) .ret) .skip)) (.seq (.reg [(none, .mv 4 (KB true))]) .ret))))
theorem e_laws_eqRegime : entry Try.prog 52 = some (c_laws_eqRegime.strip, [4], 15) := by kernel_rfl
theorem w_laws_eqRegime (a0 : XRegime) (a1 : XRegime) (r : Bool) (h : f_laws_eqRegime a0 a1 = some r) : FC Try.prog 52 [.ag (XRegime.row a0), .ag (XRegime.row a1)] [.sc (.v (.bool r))] := by
  unfold f_laws_eqRegime at h
  refine FC_go (σ := ⟨[(0, va [aI a0.Gap, aB a0.NoMeet]), (1, va [aI a1.Gap, aB a1.NoMeet])], [], []⟩) mixed e_laws_eqRegime rfl rfl ?_
  simp only [c_laws_eqRegime]
  try simp only [Nat.reduceBEq, Nat.reduceMul, Nat.reduceAdd, Nat.reduceDiv, Int.reduceBEq, rules2, rulesX, rowsX]
  refine go_bx rfl rfl rfl ?_
  try simp only [Nat.reduceBEq, Nat.reduceMul, Nat.reduceAdd, Nat.reduceDiv, Int.reduceBEq, rules2, rulesX, rowsX]
  refine go_bx rfl rfl rfl ?_
  rcases Bool.eq_false_or_eq_true (a0.Gap != a1.Gap) with hb1 | hb1
  · rw [ite_t hb1] at h
    try simp only [hb1, Nat.reduceBEq, Nat.reduceMul, Nat.reduceAdd, Nat.reduceDiv, Int.reduceBEq, rules2, rulesX, rowsX]
    cases h
    exact ⟨⟨rfl, trivial⟩, rfl⟩
  · rw [ite_f hb1] at h
    rcases Bool.eq_false_or_eq_true (a0.NoMeet == a1.NoMeet) with hb2 | hb2
    · rw [ite_t hb2] at h
      try simp only [hb1, hb2, Nat.reduceBEq, Nat.reduceMul, Nat.reduceAdd, Nat.reduceDiv, Int.reduceBEq, rules2, rulesX, rowsX]
      cases h
      exact ⟨⟨rfl, trivial⟩, rfl⟩
    · rw [ite_f hb2] at h
      try simp only [hb1, hb2, Nat.reduceBEq, Nat.reduceMul, Nat.reduceAdd, Nat.reduceDiv, Int.reduceBEq, rules2, rulesX, rowsX]
      cases h
      exact ⟨⟨rfl, trivial⟩, rfl⟩
/- 28: laws_eqIntS -/
def c_laws_eqIntS_1 : ACode := .seq (.reg [(none, .keep [0, 1, 5] [] [])]) (.seq (.seq (.reg [(none, .mv 11 (S 5)), (none, .mv 12 (S 0)), (none, .len 13 (S 12)), (none, .bin 14 .lss (S 11) (S 13))]) (.cond (S 14) .skip (.exit 0))) (.seq (.block 1 (.seq (.drw [(some [], (none, .mv 17 (S 0))), (some [], (none, .mv 18 (S 5))), (some [], (none, .iaddr 19 (S 17) (S 18) 1)), (some [], (none, .load 20 (S 19) false 1)), (some [], (none, .mv 21 (S 1))), (some [], (none, .mv 22 (S 5))), (some [], (none, .iaddr 23 (S 21) (S 22) 1)), (some [], (none, .load 24 (S 23) false 1)), (some [], (none, .bin 25 .neq (S 20) (S 24)))]) (.cond (S 25) (.seq (.reg [(none, .mv 4 (KB false))]) .ret) .skip))) (.reg [(none, .mv 15 (S 5)), (none, .bin 16 .add (S 15) (K 1)), (none, .mv 5 (S 16))])))
def c_laws_eqIntS_n1 : ACode := (.seq (.reg [(none, .mv 4 (KB true))]) .ret)
def c_laws_eqIntS : ACode := (.seq (.reg [(none, .mv 4 (KB false))]) (.seq (.seq (.reg [(none, .mv 6 (S 0)), (none, .len 7 (S 6)), (none, .mv 8 (S 1)), (none, .len 9 (S 8)), (none, .bin 10 .neq (S 7) (S 9))]) (.cond (S 10) (.seq (.reg [(none, .mv 4 (KB false))]) .ret) .skip)) (.seq (.seq (.reg [(none, .mv 5 (K 0))]) (.block 0 (.loop c_laws_eqIntS_1))) c_laws_eqIntS_n1)))
theorem w_laws_eqIntS_1 (a0 : List Int) (a1 : List Int) : ∀ (n : Nat) (v2 : Int) (r : Bool), f_laws_eqIntS_1 a0 a1 n v2 = some r → ∀ σ : St, σ.kept [0, 1, 5] [] [] = ⟨[(0, vc (aL (List.map rI a0))), (1, vc (aL (List.map rI a1))), (5, vc (aI v2))], [], []⟩ → go Try.prog (.code (.loop c_laws_eqIntS_1) :: [.blk 0, .code c_laws_eqIntS_n1]) (Ret [4] [.sc (.v (.bool r))]) .normal (some σ) := by
  intro n
  induction n with
  | zero => intro _ r h; cases h
  | succ n ih =>
    intro v2 r h σ hσ
    rw [f_laws_eqIntS_1] at h
    refine go_round ?_
    rcases Bool.eq_false_or_eq_true (decide (v2 < (a0.length : Int))) with hb3 | hb3
    · rw [ite_t hb3] at h
      try simp only [hσ, hb3, c_laws_eqIntS_1, Nat.reduceBEq, Nat.reduceMul, Nat.reduceAdd, Nat.reduceDiv, Int.reduceBEq, rules2, rulesX, rowsX]
      refine go_fr_of rfl ?_
      obtain ⟨x4, hx4, h⟩ := ob h
      obtain ⟨x5, hx5, h⟩ := ob h
      rcases Bool.eq_false_or_eq_true (x4 != x5) with hb6 | hb6
      · rw [ite_t hb6] at h
        try simp only [hb3, hx4, hx5, hb6, Nat.reduceBEq, Nat.reduceMul, Nat.reduceAdd, Nat.reduceDiv, Int.reduceBEq, rules2, rulesX, rowsX]
        cases h
        exact ⟨⟨rfl, trivial⟩, rfl⟩
      · rw [ite_f hb6] at h
        try simp only [hb3, hx4, hx5, hb6, Nat.reduceBEq, Nat.reduceMul, Nat.reduceAdd, Nat.reduceDiv, Int.reduceBEq, rules2, rulesX, rowsX]
        refine ih _ _ h _ ?_
        try simp only [hb3, hx4, hx5, hb6, Nat.reduceBEq, Nat.reduceMul, Nat.reduceAdd, Nat.reduceDiv, Int.reduceBEq, rules2, rulesX, rowsX, List.map_nil]
    · rw [ite_f hb3] at h
      try simp only [hσ, hb3, c_laws_eqIntS_1, c_laws_eqIntS_n1, Nat.reduceBEq, Nat.reduceMul, Nat.reduceAdd, Nat.reduceDiv, Int.reduceBEq, rules2, rulesX, rowsX]
      cases h
      exact ⟨⟨rfl, trivial⟩, rfl⟩
theorem e_laws_eqIntS : entry Try.prog 28 = some (c_laws_eqIntS.strip, [4], 26) := by kernel_rfl
theorem w_laws_eqIntS (a0 : List Int) (a1 : List Int) (r : Bool) (h : f_laws_eqIntS a0 a1 = some r) : FC Try.prog 28 [.sc (.sl (List.map rI a0)), .sc (.sl (List.map rI a1))] [.sc (.v (.bool r))] := by
  unfold f_laws_eqIntS at h
  refine FC_go (σ := ⟨[(0, vc (aL (List.map rI a0))), (1, vc (aL (List.map rI a1)))], [], []⟩) mixed e_laws_eqIntS rfl rfl ?_
  simp only [c_laws_eqIntS]
  rcases Bool.eq_false_or_eq_true ((a0.length : Int) != (a1.length : Int)) with hb1 | hb1
  · rw [ite_t hb1] at h
    try simp only [hb1, Nat.reduceBEq, Nat.reduceMul, Nat.reduceAdd, Nat.reduceDiv, Int.reduceBEq, rules2, rulesX, rowsX]
    cases h
    exact ⟨⟨rfl, trivial⟩, rfl⟩
  · rw [ite_f hb1] at h
    try simp only [hb1, Nat.reduceBEq, Nat.reduceMul, Nat.reduceAdd, Nat.reduceDiv, Int.reduceBEq, rules2, rulesX, rowsX]
    refine w_laws_eqIntS_1 _ _ _ _ _ h _ ?_
    try simp only [hb1, Nat.reduceBEq, Nat.reduceMul, Nat.reduceAdd, Nat.reduceDiv, Int.reduceBEq, rules2, rulesX, rowsX, List.map_nil]
/- 53: laws_eqCrew -/
def c_laws_eqCrew : ACode := (.seq (.reg [(none, .box 2 (S 0)), (none, .box 3 (S 1)), (none, .mv 4 (KB false))]) (.seq (.seq (.reg [(none, .faddr 5 (S 2) 0), (none, .load 6 (S 5) false 1), (none, .faddr 7 (S 3) 0), (none, .load 8 (S 7) false 1), (none, .bin 9 .neq (S 6) (S 8))]) (.cond (S 9) (.seq (.reg [(none, .mv 4 (KB false))]) .ret) .skip)) (.seq (.seq (.reg [(none, .faddr 10 (S 2) 1), (none, .load 11 (S 10) false 1), (none, .faddr 12 (S 3) 1), (none, .load 13 (S 12) false 1), (none, .bin 14 .neq (S 11) (S 13))]) (.cond (S 14) (.seq (.reg [(none, .mv 4 (KB false))]) .ret) .skip)) (.seq (.seq (.reg [(none, .faddr 15 (S 2) 2), (none, .load 16 (S 15) false 1), (none, .faddr 17 (S 3) 2), (none, .load 18 (S 17) false 1), (none, .bin 19 .neq (S 16) (S 18))]) (.cond (S 19) (.seq (.reg [(none, .mv 4 (KB false))]) .ret) .skip)) (.seq (.seq (.reg [(none, .faddr 20 (S 2) 3), (none, .load 21 (S 20) false 1), (none, .faddr 22 (S 3) 3), (none, .load 23 (S 22) false 1), (none, .call 24 28 [(S 21), (S 23)]), (none, .un 25 .not (S 24))]) (.cond (S 25) (.seq (.reg [(none, .mv 4 (KB false))]) .ret) .skip)) (.seq (.reg [(none, .mv 4 (KB true))]) .ret))))))
theorem e_laws_eqCrew : entry Try.prog 53 = some (c_laws_eqCrew.strip, [4], 26) := by kernel_rfl
theorem w_laws_eqCrew (a0 : XCrew) (a1 : XCrew) (r : Bool) (h : f_laws_eqCrew a0 a1 = some r) : FC Try.prog 53 [.ag (XCrew.row a0), .ag (XCrew.row a1)] [.sc (.v (.bool r))] := by
  unfold f_laws_eqCrew at h
  refine FC_go (σ := ⟨[(0, va [aI a0.Tugs, aI a0.Pilots, aI a0.Rest, aL (List.map rI a0.Moves)]), (1, va [aI a1.Tugs, aI a1.Pilots, aI a1.Rest, aL (List.map rI a1.Moves)])], [], []⟩) mixed e_laws_eqCrew rfl rfl ?_
  simp only [c_laws_eqCrew]
  try simp only [Nat.reduceBEq, Nat.reduceMul, Nat.reduceAdd, Nat.reduceDiv, Int.reduceBEq, rules2, rulesX, rowsX]
  refine go_bx rfl rfl rfl ?_
  try simp only [Nat.reduceBEq, Nat.reduceMul, Nat.reduceAdd, Nat.reduceDiv, Int.reduceBEq, rules2, rulesX, rowsX]
  refine go_bx rfl rfl rfl ?_
  rcases Bool.eq_false_or_eq_true (a0.Tugs != a1.Tugs) with hb1 | hb1
  · rw [ite_t hb1] at h
    try simp only [hb1, Nat.reduceBEq, Nat.reduceMul, Nat.reduceAdd, Nat.reduceDiv, Int.reduceBEq, rules2, rulesX, rowsX]
    cases h
    exact ⟨⟨rfl, trivial⟩, rfl⟩
  · rw [ite_f hb1] at h
    rcases Bool.eq_false_or_eq_true (a0.Pilots != a1.Pilots) with hb2 | hb2
    · rw [ite_t hb2] at h
      try simp only [hb1, hb2, Nat.reduceBEq, Nat.reduceMul, Nat.reduceAdd, Nat.reduceDiv, Int.reduceBEq, rules2, rulesX, rowsX]
      cases h
      exact ⟨⟨rfl, trivial⟩, rfl⟩
    · rw [ite_f hb2] at h
      rcases Bool.eq_false_or_eq_true (a0.Rest != a1.Rest) with hb3 | hb3
      · rw [ite_t hb3] at h
        try simp only [hb1, hb2, hb3, Nat.reduceBEq, Nat.reduceMul, Nat.reduceAdd, Nat.reduceDiv, Int.reduceBEq, rules2, rulesX, rowsX]
        cases h
        exact ⟨⟨rfl, trivial⟩, rfl⟩
      · rw [ite_f hb3] at h
        obtain ⟨r4, hr4, h⟩ := ob h
        try simp only [hb1, hb2, hb3, Nat.reduceBEq, Nat.reduceMul, Nat.reduceAdd, Nat.reduceDiv, Int.reduceBEq, rules2, rulesX, rowsX]
        refine go_callI (w_laws_eqIntS _ _ _ hr4) rfl rfl (Nat.le_of_ble_eq_true rfl) ?_
        rcases Bool.eq_false_or_eq_true r4 with hb5 | hb5
        · rw [ite_t hb5] at h
          try simp only [hb1, hb2, hb3, hb5, Nat.reduceBEq, Nat.reduceMul, Nat.reduceAdd, Nat.reduceDiv, Int.reduceBEq, rules2, rulesX, rowsX]
          cases h
          exact ⟨⟨rfl, trivial⟩, rfl⟩
        · rw [ite_f hb5] at h
          try simp only [hb1, hb2, hb3, hb5, Nat.reduceBEq, Nat.reduceMul, Nat.reduceAdd, Nat.reduceDiv, Int.reduceBEq, rules2, rulesX, rowsX]
          cases h
          exact ⟨⟨rfl, trivial⟩, rfl⟩
/- 37: laws_eqHarbour -/
def c_laws_eqHarbour : ACode := (.seq (.reg [(none, .box 2 (S 0)), (none, .box 3 (S 1)), (none, .mv 4 (KB false))]) (.seq (.seq (.reg [(none, .faddr 5 (S 2) 0), (none, .load 6 (S 5) true 3), (none, .faddr 7 (S 3) 0), (none, .load 8 (S 7) true 3), (none, .call 9 49 [(S 6), (S 8)]), (none, .un 10 .not (S 9))]) (.cond (S 10) (.seq (.reg [(none, .mv 4 (KB false))]) .ret) .skip)) (.seq (.seq (.reg [(none, .faddr 11 (S 2) 3), (none, .load 12 (S 11) true 2), (none, .faddr 13 (S 3) 3), (none, .load 14 (S 13) true 2), (none, .call 15 50 [(S 12), (S 14)]), (none, .un 16 .not (S 15))]) (.cond (S 16) (.seq (.reg [(none, .mv 4 (KB false))]) .ret) .skip)) (.seq (.seq (.reg [(none, .faddr 17 (S 2) 5), (none, .load 18 (S 17) false 1), (none, .faddr 19 (S 3) 5), (none, .load 20 (S 19) false 1), (none, .call 21 51 [(S 18), (S 20)]), (none, .un 22 .not (S 21))]) (.cond (S 22) (.seq (.reg [(none, .mv 4 (KB false))]) .ret) .skip)) (.seq (.seq (.reg [(none, .faddr 23 (S 2) 6), (none, .load 24 (S 23) true 2), (none, .faddr 25 (S 3) 6), (none, .load 26 (S 25) true 2), (none, .call 27 52 [(S 24), (S 26)]), (none, .un 28 .not (S 27))]) (.cond (S 28) (.seq (.reg [(none, .mv 4 (KB false))]) .ret) .skip)) (.seq (.seq (.reg [(none, .faddr 29 (S 2) 8), (none, .load 30 (S 29) true 4), (none, .faddr 31 (S 3) 8), (none, .load 32 (S 31) true 4), (none, .call 33 53 [(S 30), (S 32)]), (none, .un 34 .not (S 33))]) (.cond (S 34) (.seq (.reg [(none, .mv 4 (KB false))]) .ret) .skip)) (.seq (.reg [(none, .mv 4 (KB true))]) .ret)))))))
theorem e_laws_eqHarbour : entry Try.prog 37 = some (c_laws_eqHarbour.strip, [4], 35) := by kernel_rfl
theorem w_laws_eqHarbour (a0 : XHarbour) (a1 : XHarbour) (r : Bool) (h : f_laws_eqHarbour a0 a1 = some r) : FC Try.prog 37 [.ag (XHarbour.row a0), .ag (XHarbour.row a1)] [.sc (.v (.bool r))] := by
  unfold f_laws_eqHarbour at h
  refine FC_go (σ := ⟨[(0, va [aI a0.Forecast.Tide.Mean, aL (List.map XPart.row a0.Forecast.Tide.Parts), aL (List.map XSurge.row a0.Forecast.Surges), aL (List.map XPoint.row a0.Chart.Points), aL (List.map XSegment.row a0.Chart.Segments), aL (List.map XShip.row a0.Fleet), aI a0.Regime.Gap, aB a0.Regime.NoMeet, aI a0.Crew.Tugs, aI a0.Crew.Pilots, aI a0.Crew.Rest, aL (List.map rI a0.Crew.Moves)]), (1, va [aI a1.Forecast.Tide.Mean, aL (List.map XPart.row a1.Forecast.Tide.Parts), aL (List.map XSurge.row a1.Forecast.Surges), aL (List.map XPoint.row a1.Chart.Points), aL (List.map XSegment.row a1.Chart.Segments), aL (List.map XShip.row a1.Fleet), aI a1.Regime.Gap, aB a1.Regime.NoMeet, aI a1.Crew.Tugs, aI a1.Crew.Pilots, aI a1.Crew.Rest, aL (List.map rI a1.Crew.Moves)])], [], []⟩) mixed e_laws_eqHarbour rfl rfl ?_
  simp only [c_laws_eqHarbour]
  try simp only [Nat.reduceBEq, Nat.reduceMul, Nat.reduceAdd, Nat.reduceDiv, Int.reduceBEq, rules2, rulesX, rowsX]
  refine go_bx rfl rfl rfl ?_
  try simp only [Nat.reduceBEq, Nat.reduceMul, Nat.reduceAdd, Nat.reduceDiv, Int.reduceBEq, rules2, rulesX, rowsX]
  refine go_bx rfl rfl rfl ?_
  obtain ⟨r1, hr1, h⟩ := ob h
  try simp only [Nat.reduceBEq, Nat.reduceMul, Nat.reduceAdd, Nat.reduceDiv, Int.reduceBEq, rules2, rulesX, rowsX]
  refine go_callI (w_laws_eqForecast _ _ _ hr1) rfl rfl (Nat.le_of_ble_eq_true rfl) ?_
  rcases Bool.eq_false_or_eq_true r1 with hb2 | hb2
  · rw [ite_t hb2] at h
    obtain ⟨r3, hr3, h⟩ := ob h
    try simp only [hb2, Nat.reduceBEq, Nat.reduceMul, Nat.reduceAdd, Nat.reduceDiv, Int.reduceBEq, rules2, rulesX, rowsX]
    refine go_callI (w_laws_eqChart _ _ _ hr3) rfl rfl (Nat.le_of_ble_eq_true rfl) ?_
    rcases Bool.eq_false_or_eq_true r3 with hb4 | hb4
    · rw [ite_t hb4] at h
      obtain ⟨r5, hr5, h⟩ := ob h
      try simp only [hb2, hb4, Nat.reduceBEq, Nat.reduceMul, Nat.reduceAdd, Nat.reduceDiv, Int.reduceBEq, rules2, rulesX, rowsX]
      refine go_callI (w_laws_eqShipS _ _ _ hr5) rfl rfl (Nat.le_of_ble_eq_true rfl) ?_
      rcases Bool.eq_false_or_eq_true r5 with hb6 | hb6
      · rw [ite_t hb6] at h
        obtain ⟨r7, hr7, h⟩ := ob h
        try simp only [hb2, hb4, hb6, Nat.reduceBEq, Nat.reduceMul, Nat.reduceAdd, Nat.reduceDiv, Int.reduceBEq, rules2, rulesX, rowsX]
        refine go_callI (w_laws_eqRegime _ _ _ hr7) rfl rfl (Nat.le_of_ble_eq_true rfl) ?_
        rcases Bool.eq_false_or_eq_true r7 with hb8 | hb8
        · rw [ite_t hb8] at h
          obtain ⟨r9, hr9, h⟩ := ob h
          try simp only [hb2, hb4, hb6, hb8, Nat.reduceBEq, Nat.reduceMul, Nat.reduceAdd, Nat.reduceDiv, Int.reduceBEq, rules2, rulesX, rowsX]
          refine go_callI (w_laws_eqCrew _ _ _ hr9) rfl rfl (Nat.le_of_ble_eq_true rfl) ?_
          rcases Bool.eq_false_or_eq_true r9 with hb10 | hb10
          · rw [ite_t hb10] at h
            try simp only [hb2, hb4, hb6, hb8, hb10, Nat.reduceBEq, Nat.reduceMul, Nat.reduceAdd, Nat.reduceDiv, Int.reduceBEq, rules2, rulesX, rowsX]
            cases h
            exact ⟨⟨rfl, trivial⟩, rfl⟩
          · rw [ite_f hb10] at h
            try simp only [hb2, hb4, hb6, hb8, hb10, Nat.reduceBEq, Nat.reduceMul, Nat.reduceAdd, Nat.reduceDiv, Int.reduceBEq, rules2, rulesX, rowsX]
            cases h
            exact ⟨⟨rfl, trivial⟩, rfl⟩
        · rw [ite_f hb8] at h
          try simp only [hb2, hb4, hb6, hb8, Nat.reduceBEq, Nat.reduceMul, Nat.reduceAdd, Nat.reduceDiv, Int.reduceBEq, rules2, rulesX, rowsX]
          cases h
          exact ⟨⟨rfl, trivial⟩, rfl⟩
      · rw [ite_f hb6] at h
        try simp only [hb2, hb4, hb6, Nat.reduceBEq, Nat.reduceMul, Nat.reduceAdd, Nat.reduceDiv, Int.reduceBEq, rules2, rulesX, rowsX]
        cases h
        exact ⟨⟨rfl, trivial⟩, rfl⟩
    · rw [ite_f hb4] at h
      try simp only [hb2, hb4, Nat.reduceBEq, Nat.reduceMul, Nat.reduceAdd, Nat.reduceDiv, Int.reduceBEq, rules2, rulesX, rowsX]
      cases h
      exact ⟨⟨rfl, trivial⟩, rfl⟩
  · rw [ite_f hb2] at h
    try simp only [hb2, Nat.reduceBEq, Nat.reduceMul, Nat.reduceAdd, Nat.reduceDiv, Int.reduceBEq, rules2, rulesX, rowsX]
    cases h
    exact ⟨⟨rfl, trivial⟩, rfl⟩
/- 54: laws_eqCall -/
def c_laws_eqCall : ACode := (.seq (.reg [(none, .box 2 (S 0)), (none, .box 3 (S 1)), (none, .mv 4 (KB false))]) (.seq (.seq (.reg [(none, .faddr 5 (S 2) 0), (none, .load 6 (S 5) false 1), (none, .faddr 7 (S 3) 0), (none, .load 8 (S 7) false 1), (none, .bin 9 .neq (S 6) (S 8))]) (.cond (S 9) (.seq (.reg [(none, .mv 4 (KB false))]) .ret) .skip)) (.seq (.seq (.reg [(none, .faddr 10 (S 2) 1), (none, .load 11 (S 10) false 1), (none, .faddr 12 (S 3) 1), (none, .load 13 (S 12) false 1), (none, .bin 14 .neq (S 11) (S 13))]) (.cond (S 14) (.seq (.reg [(none, .mv 4 (KB false))]) .ret) .skip)) (.seq (.seq (.reg [(none, .faddr 15 (S 2) 2), (none, .load 16 (S 15) false 1), (none, .faddr 17 (S 3) 2), (none, .load 18 (S 17) false 1), (none, .bin 19 .neq (S 16) (S 18))]) (.cond (S 19) (.seq (.reg [(none, .mv 4 (KB false))]) .ret) .skip)) (.seq (.seq (.reg [(none, .faddr 20 (S 2) 3), (none, .load 21 (S 20) false 1), (none, .faddr 22 (S 3) 3), (none, .load 23 (S 22) false 1), (none, .bin 24 .neq (S 21) (S 23))]) (.cond (S 24) (.seq (.reg [(none, .mv 4 (KB false))]) .ret) .skip)) (.seq (.seq (.reg [(none, .faddr 25 (S 2) 4), (none, .load 26 (S 25) false 1), (none, .faddr 27 (S 3) 4), (none, .load 28 (S 27) false 1), (none, .bin 29 .neq (S 26) (S 28))]) (.cond (S 29) (.seq (.reg [(none, .mv 4 (KB false))]) .ret) .skip)) (.seq (.reg [(none, .mv 4 (KB true))]) .ret)))))))
theorem e_laws_eqCall : entry Try.prog 54 = some (c_laws_eqCall.strip, [4], 30) := by kernel_rfl
theorem w_laws_eqCall (a0 : XCall) (a1 : XCall) (r : Bool) (h : f_laws_eqCall a0 a1 = some r) : FC Try.prog 54 [.ag (XCall.row a0), .ag (XCall.row a1)] [.sc (.v (.bool r))] := by
  unfold f_laws_eqCall at h
  refine FC_go (σ := ⟨[(0, va [aI a0.Ship, aI a0.From, aI a0.To, aI a0.Ready, aI a0.Due]), (1, va [aI a1.Ship, aI a1.From, aI a1.To, aI a1.Ready, aI a1.Due])], [], []⟩) mixed e_laws_eqCall rfl rfl ?_
  simp only [c_laws_eqCall]
  try simp only [Nat.reduceBEq, Nat.reduceMul, Nat.reduceAdd, Nat.reduceDiv, Int.reduceBEq, rules2, rulesX, rowsX]
  refine go_bx rfl rfl rfl ?_
  try simp only [Nat.reduceBEq, Nat.reduceMul, Nat.reduceAdd, Nat.reduceDiv, Int.reduceBEq, rules2, rulesX, rowsX]
  refine go_bx rfl rfl rfl ?_
  rcases Bool.eq_false_or_eq_true (a0.Ship != a1.Ship) with hb1 | hb1
  · rw [ite_t hb1] at h
    try simp only [hb1, Nat.reduceBEq, Nat.reduceMul, Nat.reduceAdd, Nat.reduceDiv, Int.reduceBEq, rules2, rulesX, rowsX]
    cases h
    exact ⟨⟨rfl, trivial⟩, rfl⟩
  · rw [ite_f hb1] at h
    rcases Bool.eq_false_or_eq_true (a0.From != a1.From) with hb2 | hb2
    · rw [ite_t hb2] at h
      try simp only [hb1, hb2, Nat.reduceBEq, Nat.reduceMul, Nat.reduceAdd, Nat.reduceDiv, Int.reduceBEq, rules2, rulesX, rowsX]
      cases h
      exact ⟨⟨rfl, trivial⟩, rfl⟩
    · rw [ite_f hb2] at h
      rcases Bool.eq_false_or_eq_true (a0.To != a1.To) with hb3 | hb3
      · rw [ite_t hb3] at h
        try simp only [hb1, hb2, hb3, Nat.reduceBEq, Nat.reduceMul, Nat.reduceAdd, Nat.reduceDiv, Int.reduceBEq, rules2, rulesX, rowsX]
        cases h
        exact ⟨⟨rfl, trivial⟩, rfl⟩
      · rw [ite_f hb3] at h
        rcases Bool.eq_false_or_eq_true (a0.Ready != a1.Ready) with hb4 | hb4
        · rw [ite_t hb4] at h
          try simp only [hb1, hb2, hb3, hb4, Nat.reduceBEq, Nat.reduceMul, Nat.reduceAdd, Nat.reduceDiv, Int.reduceBEq, rules2, rulesX, rowsX]
          cases h
          exact ⟨⟨rfl, trivial⟩, rfl⟩
        · rw [ite_f hb4] at h
          rcases Bool.eq_false_or_eq_true (a0.Due != a1.Due) with hb5 | hb5
          · rw [ite_t hb5] at h
            try simp only [hb1, hb2, hb3, hb4, hb5, Nat.reduceBEq, Nat.reduceMul, Nat.reduceAdd, Nat.reduceDiv, Int.reduceBEq, rules2, rulesX, rowsX]
            cases h
            exact ⟨⟨rfl, trivial⟩, rfl⟩
          · rw [ite_f hb5] at h
            try simp only [hb1, hb2, hb3, hb4, hb5, Nat.reduceBEq, Nat.reduceMul, Nat.reduceAdd, Nat.reduceDiv, Int.reduceBEq, rules2, rulesX, rowsX]
            cases h
            exact ⟨⟨rfl, trivial⟩, rfl⟩
/- 38: laws_eqCallS -/
def c_laws_eqCallS_1 : ACode := .seq (.reg [(none, .keep [0, 1, 5] [] [])]) (.seq (.seq (.reg [(none, .mv 11 (S 5)), (none, .mv 12 (S 0)), (none, .len 13 (S 12)), (none, .bin 14 .lss (S 11) (S 13))]) (.cond (S 14) .skip (.exit 0))) (.seq (.block 1 (.seq (.drw [(some [], (none, .mv 17 (S 0))), (some [], (none, .mv 18 (S 5))), (some [], (none, .iaddr 19 (S 17) (S 18) 5)), (some [], (none, .load 20 (S 19) true 5)), (some [], (none, .mv 21 (S 1))), (some [], (none, .mv 22 (S 5))), (some [], (none, .iaddr 23 (S 21) (S 22) 5)), (some [], (none, .load 24 (S 23) true 5)), (some [], (none, .call 25 54 [(S 20), (S 24)])), (some [], (none, .un 26 .not (S 25)))]) (.cond (S 26) (.seq (.reg [(none, .mv 4 (KB false))]) .ret) .skip))) (.reg [(none, .mv 15 (S 5)), (none, .bin 16 .add (S 15) (K 1)), (none, .mv 5 (S 16))])))
def c_laws_eqCallS_n1 : ACode := (.seq (.reg [(none, .mv 4 (KB true))]) .ret)
def c_laws_eqCallS : ACode := (.seq (.reg [(none, .mv 4 (KB false))]) (.seq (.seq (.reg [(none, .mv 6 (S 0)), (none, .len 7 (S 6)), (none, .mv 8 (S 1)), (none, .len 9 (S 8)), (none, .bin 10 .neq (S 7) (S 9))]) (.cond (S 10) (.seq (.reg [(none, .mv 4 (KB false))]) .ret) .skip)) (.seq (.seq (.reg [(none, .mv 5 (K 0))]) (.block 0 (.loop c_laws_eqCallS_1))) c_laws_eqCallS_n1)))
theorem w_laws_eqCallS_1 (a0 : List XCall) (a1 : List XCall) : ∀ (n : Nat) (v2 : Int) (r : Bool), f_laws_eqCallS_1 a0 a1 n v2 = some r → ∀ σ : St, σ.kept [0, 1, 5] [] [] = ⟨[(0, vc (aL (List.map XCall.row a0))), (1, vc (aL (List.map XCall.row a1))), (5, vc (aI v2))], [], []⟩ → go Try.prog (.code (.loop c_laws_eqCallS_1) :: [.blk 0, .code c_laws_eqCallS_n1]) (Ret [4] [.sc (.v (.bool r))]) .normal (some σ) := by
  intro n
  induction n with
  | zero => intro _ r h; cases h
  | succ n ih =>
    intro v2 r h σ hσ
    rw [f_laws_eqCallS_1] at h
    refine go_round ?_
    rcases Bool.eq_false_or_eq_true (decide (v2 < (a0.length : Int))) with hb3 | hb3
    · rw [ite_t hb3] at h
      try simp only [hσ, hb3, c_laws_eqCallS_1, Nat.reduceBEq, Nat.reduceMul, Nat.reduceAdd, Nat.reduceDiv, Int.reduceBEq, rules2, rulesX, rowsX]
      refine go_fr_of rfl ?_
      obtain ⟨x4, hx4, h⟩ := ob h
      obtain ⟨x5, hx5, h⟩ := ob h
      obtain ⟨r6, hr6, h⟩ := ob h
      try simp only [hb3, hx4, hx5, Nat.reduceBEq, Nat.reduceMul, Nat.reduceAdd, Nat.reduceDiv, Int.reduceBEq, rules2, rulesX, rowsX]
      refine go_dcallI (w_laws_eqCall _ _ _ hr6) rfl rfl (Nat.le_of_ble_eq_true rfl) ?_
      rcases Bool.eq_false_or_eq_true r6 with hb7 | hb7
      · rw [ite_t hb7] at h
        try simp only [hb3, hx4, hx5, hb7, Nat.reduceBEq, Nat.reduceMul, Nat.reduceAdd, Nat.reduceDiv, Int.reduceBEq, rules2, rulesX, rowsX]
        refine ih _ _ h _ ?_
        try simp only [hb3, hx4, hx5, hb7, Nat.reduceBEq, Nat.reduceMul, Nat.reduceAdd, Nat.reduceDiv, Int.reduceBEq, rules2, rulesX, rowsX, List.map_nil]
      · rw [ite_f hb7] at h
        try simp only [hb3, hx4, hx5, hb7, Nat.reduceBEq, Nat.reduceMul, Nat.reduceAdd, Nat.reduceDiv, Int.reduceBEq, rules2, rulesX, rowsX]
        cases h
        exact ⟨⟨rfl, trivial⟩, rfl⟩
    · rw [ite_f hb3] at h
      try simp only [hσ, hb3, c_laws_eqCallS_1, c_laws_eqCallS_n1, Nat.reduceBEq, Nat.reduceMul, Nat.reduceAdd, Nat.reduceDiv, Int.reduceBEq, rules2, rulesX, rowsX]
      cases h
      exact ⟨⟨rfl, trivial⟩, rfl⟩
theorem e_laws_eqCallS : entry Try.prog 38 = some (c_laws_eqCallS.strip, [4], 27) := by kernel_rfl
theorem w_laws_eqCallS (a0 : List XCall) (a1 : List XCall) (r : Bool) (h : f_laws_eqCallS a0 a1 = some r) : FC Try.prog 38 [.sc (.sl (List.map XCall.row a0)), .sc (.sl (List.map XCall.row a1))] [.sc (.v (.bool r))] := by
  unfold f_laws_eqCallS at h
  refine FC_go (σ := ⟨[(0, vc (aL (List.map XCall.row a0))), (1, vc (aL (List.map XCall.row a1)))], [], []⟩) mixed e_laws_eqCallS rfl rfl ?_
  simp only [c_laws_eqCallS]
  rcases Bool.eq_false_or_eq_true ((a0.length : Int) != (a1.length : Int)) with hb1 | hb1
  · rw [ite_t hb1] at h
    try simp only [hb1, Nat.reduceBEq, Nat.reduceMul, Nat.reduceAdd, Nat.reduceDiv, Int.reduceBEq, rules2, rulesX, rowsX]
    cases h
    exact ⟨⟨rfl, trivial⟩, rfl⟩
  · rw [ite_f hb1] at h
    try simp only [hb1, Nat.reduceBEq, Nat.reduceMul, Nat.reduceAdd, Nat.reduceDiv, Int.reduceBEq, rules2, rulesX, rowsX]
    refine w_laws_eqCallS_1 _ _ _ _ _ h _ ?_
    try simp only [hb1, Nat.reduceBEq, Nat.reduceMul, Nat.reduceAdd, Nat.reduceDiv, Int.reduceBEq, rules2, rulesX, rowsX, List.map_nil]
/- 29: laws_eqBoolS -/
def c_laws_eqBoolS_1 : ACode := .seq (.reg [(none, .keep [0, 1, 5] [] [])]) (.seq (.seq (.reg [(none, .mv 11 (S 5)), (none, .mv 12 (S 0)), (none, .len 13 (S 12)), (none, .bin 14 .lss (S 11) (S 13))]) (.cond (S 14) .skip (.exit 0))) (.seq (.block 1 (.seq (.drw [(some [], (none, .mv 17 (S 0))), (some [], (none, .mv 18 (S 5))), (some [], (none, .iaddr 19 (S 17) (S 18) 1)), (some [], (none, .load 20 (S 19) false 1)), (some [], (none, .mv 21 (S 1))), (some [], (none, .mv 22 (S 5))), (some [], (none, .iaddr 23 (S 21) (S 22) 1)), (some [], (none, .load 24 (S 23) false 1)), (some [], (none, .beq 25 true (S 20) (S 24)))]) (.cond (S 25) (.seq (.reg [(none, .mv 4 (KB false))]) .ret) .skip))) (.reg [(none, .mv 15 (S 5)), (none, .bin 16 .add (S 15) (K 1)), (none, .mv 5 (S 16))])))
def c_laws_eqBoolS_n1 : ACode := (.seq (.reg [(none, .mv 4 (KB true))]) .ret)
def c_laws_eqBoolS : ACode := (.seq (.reg [(none, .mv 4 (KB false))]) (.seq (.seq (.reg [(none, .mv 6 (S 0)), (none, .len 7 (S 6)), (none, .mv 8 (S 1)), (none, .len 9 (S 8)), (none, .bin 10 .neq (S 7) (S 9))]) (.cond (S 10) (.seq (.reg [(none, .mv 4 (KB false))]) .ret) .skip)) (.seq (.seq (.reg [(none, .mv 5 (K 0))]) (.block 0 (.loop c_laws_eqBoolS_1))) c_laws_eqBoolS_n1)))
theorem w_laws_eqBoolS_1 (a0 : List Bool) (a1 : List Bool) : ∀ (n : Nat) (v2 : Int) (r : Bool), f_laws_eqBoolS_1 a0 a1 n v2 = some r → ∀ σ : St, σ.kept [0, 1, 5] [] [] = ⟨[(0, vc (aL (List.map rB a0))), (1, vc (aL (List.map rB a1))), (5, vc (aI v2))], [], []⟩ → go Try.prog (.code (.loop c_laws_eqBoolS_1) :: [.blk 0, .code c_laws_eqBoolS_n1]) (Ret [4] [.sc (.v (.bool r))]) .normal (some σ) := by
  intro n
  induction n with
  | zero => intro _ r h; cases h
  | succ n ih =>
    intro v2 r h σ hσ
    rw [f_laws_eqBoolS_1] at h
    refine go_round ?_
    rcases Bool.eq_false_or_eq_true (decide (v2 < (a0.length : Int))) with hb3 | hb3
    · rw [ite_t hb3] at h
      try simp only [hσ, hb3, c_laws_eqBoolS_1, Nat.reduceBEq, Nat.reduceMul, Nat.reduceAdd, Nat.reduceDiv, Int.reduceBEq, rules2, rulesX, rowsX]
      refine go_fr_of rfl ?_
      obtain ⟨x4, hx4, h⟩ := ob h
      obtain ⟨x5, hx5, h⟩ := ob h
      rcases Bool.eq_false_or_eq_true (x4 == x5) with hb6 | hb6
      · rw [ite_t hb6] at h
        try simp only [hb3, hx4, hx5, hb6, Nat.reduceBEq, Nat.reduceMul, Nat.reduceAdd, Nat.reduceDiv, Int.reduceBEq, rules2, rulesX, rowsX]
        refine ih _ _ h _ ?_
        try simp only [hb3, hx4, hx5, hb6, Nat.reduceBEq, Nat.reduceMul, Nat.reduceAdd, Nat.reduceDiv, Int.reduceBEq, rules2, rulesX, rowsX, List.map_nil]
      · rw [ite_f hb6] at h
        try simp only [hb3, hx4, hx5, hb6, Nat.reduceBEq, Nat.reduceMul, Nat.reduceAdd, Nat.reduceDiv, Int.reduceBEq, rules2, rulesX, rowsX]
        cases h
        exact ⟨⟨rfl, trivial⟩, rfl⟩
    · rw [ite_f hb3] at h
      try simp only [hσ, hb3, c_laws_eqBoolS_1, c_laws_eqBoolS_n1, Nat.reduceBEq, Nat.reduceMul, Nat.reduceAdd, Nat.reduceDiv, Int.reduceBEq, rules2, rulesX, rowsX]
      cases h
      exact ⟨⟨rfl, trivial⟩, rfl⟩
theorem e_laws_eqBoolS : entry Try.prog 29 = some (c_laws_eqBoolS.strip, [4], 26) := by kernel_rfl
theorem w_laws_eqBoolS (a0 : List Bool) (a1 : List Bool) (r : Bool) (h : f_laws_eqBoolS a0 a1 = some r) : FC Try.prog 29 [.sc (.sl (List.map rB a0)), .sc (.sl (List.map rB a1))] [.sc (.v (.bool r))] := by
  unfold f_laws_eqBoolS at h
  refine FC_go (σ := ⟨[(0, vc (aL (List.map rB a0))), (1, vc (aL (List.map rB a1)))], [], []⟩) mixed e_laws_eqBoolS rfl rfl ?_
  simp only [c_laws_eqBoolS]
  rcases Bool.eq_false_or_eq_true ((a0.length : Int) != (a1.length : Int)) with hb1 | hb1
  · rw [ite_t hb1] at h
    try simp only [hb1, Nat.reduceBEq, Nat.reduceMul, Nat.reduceAdd, Nat.reduceDiv, Int.reduceBEq, rules2, rulesX, rowsX]
    cases h
    exact ⟨⟨rfl, trivial⟩, rfl⟩
  · rw [ite_f hb1] at h
    try simp only [hb1, Nat.reduceBEq, Nat.reduceMul, Nat.reduceAdd, Nat.reduceDiv, Int.reduceBEq, rules2, rulesX, rowsX]
    refine w_laws_eqBoolS_1 _ _ _ _ _ h _ ?_
    try simp only [hb1, Nat.reduceBEq, Nat.reduceMul, Nat.reduceAdd, Nat.reduceDiv, Int.reduceBEq, rules2, rulesX, rowsX, List.map_nil]
/- 10: laws_eqDesk -/
def c_laws_eqDesk : ACode := (.seq (.reg [(none, .box 2 (S 0)), (none, .box 3 (S 1)), (none, .mv 4 (KB false))]) (.seq (.seq (.reg [(none, .faddr 5 (S 2) 0), (none, .load 6 (S 5) false 1), (none, .faddr 7 (S 3) 0), (none, .load 8 (S 7) false 1), (none, .bin 9 .neq (S 6) (S 8))]) (.cond (S 9) (.seq (.reg [(none, .mv 4 (KB false))]) .ret) .skip)) (.seq (.seq (.reg [(none, .faddr 10 (S 2) 1), (none, .load 11 (S 10) false 1), (none, .faddr 12 (S 3) 1), (none, .load 13 (S 12) false 1), (none, .call 14 28 [(S 11), (S 13)]), (none, .un 15 .not (S 14))]) (.cond (S 15) (.seq (.reg [(none, .mv 4 (KB false))]) .ret) .skip)) (.seq (.seq (.reg [(none, .faddr 16 (S 2) 2), (none, .load 17 (S 16) false 1), (none, .faddr 18 (S 3) 2), (none, .load 19 (S 18) false 1), (none, .call 20 29 [(S 17), (S 19)]), (none, .un 21 .not (S 20))]) (.cond (S 21) (.seq (.reg [(none, .mv 4 (KB false))]) .ret) .skip)) (.seq (.reg [(none, .mv 4 (KB true))]) .ret)))))
theorem e_laws_eqDesk : entry Try.prog 10 = some (c_laws_eqDesk.strip, [4], 22) := by kernel_rfl
theorem w_laws_eqDesk (a0 : XDesk) (a1 : XDesk) (r : Bool) (h : f_laws_eqDesk a0 a1 = some r) : FC Try.prog 10 [.ag (XDesk.row a0), .ag (XDesk.row a1)] [.sc (.v (.bool r))] := by
  unfold f_laws_eqDesk at h
  refine FC_go (σ := ⟨[(0, va [aI a0.Now, aL (List.map rI a0.Starts), aL (List.map rB a0.Cleared)]), (1, va [aI a1.Now, aL (List.map rI a1.Starts), aL (List.map rB a1.Cleared)])], [], []⟩) mixed e_laws_eqDesk rfl rfl ?_
  simp only [c_laws_eqDesk]
  try simp only [Nat.reduceBEq, Nat.reduceMul, Nat.reduceAdd, Nat.reduceDiv, Int.reduceBEq, rules2, rulesX, rowsX]
  refine go_bx rfl rfl rfl ?_
  try simp only [Nat.reduceBEq, Nat.reduceMul, Nat.reduceAdd, Nat.reduceDiv, Int.reduceBEq, rules2, rulesX, rowsX]
  refine go_bx rfl rfl rfl ?_
  rcases Bool.eq_false_or_eq_true (a0.Now != a1.Now) with hb1 | hb1
  · rw [ite_t hb1] at h
    try simp only [hb1, Nat.reduceBEq, Nat.reduceMul, Nat.reduceAdd, Nat.reduceDiv, Int.reduceBEq, rules2, rulesX, rowsX]
    cases h
    exact ⟨⟨rfl, trivial⟩, rfl⟩
  · rw [ite_f hb1] at h
    obtain ⟨r2, hr2, h⟩ := ob h
    try simp only [hb1, Nat.reduceBEq, Nat.reduceMul, Nat.reduceAdd, Nat.reduceDiv, Int.reduceBEq, rules2, rulesX, rowsX]
    refine go_callI (w_laws_eqIntS _ _ _ hr2) rfl rfl (Nat.le_of_ble_eq_true rfl) ?_
    rcases Bool.eq_false_or_eq_true r2 with hb3 | hb3
    · rw [ite_t hb3] at h
      obtain ⟨r4, hr4, h⟩ := ob h
      try simp only [hb1, hb3, Nat.reduceBEq, Nat.reduceMul, Nat.reduceAdd, Nat.reduceDiv, Int.reduceBEq, rules2, rulesX, rowsX]
      refine go_callI (w_laws_eqBoolS _ _ _ hr4) rfl rfl (Nat.le_of_ble_eq_true rfl) ?_
      rcases Bool.eq_false_or_eq_true r4 with hb5 | hb5
      · rw [ite_t hb5] at h
        try simp only [hb1, hb3, hb5, Nat.reduceBEq, Nat.reduceMul, Nat.reduceAdd, Nat.reduceDiv, Int.reduceBEq, rules2, rulesX, rowsX]
        cases h
        exact ⟨⟨rfl, trivial⟩, rfl⟩
      · rw [ite_f hb5] at h
        try simp only [hb1, hb3, hb5, Nat.reduceBEq, Nat.reduceMul, Nat.reduceAdd, Nat.reduceDiv, Int.reduceBEq, rules2, rulesX, rowsX]
        cases h
        exact ⟨⟨rfl, trivial⟩, rfl⟩
    · rw [ite_f hb3] at h
      try simp only [hb1, hb3, Nat.reduceBEq, Nat.reduceMul, Nat.reduceAdd, Nat.reduceDiv, Int.reduceBEq, rules2, rulesX, rowsX]
      cases h
      exact ⟨⟨rfl, trivial⟩, rfl⟩
/- 15: laws_eqConsole -/
def c_laws_eqConsole : ACode := (.seq (.reg [(none, .box 2 (S 0)), (none, .box 3 (S 1)), (none, .mv 4 (KB false))]) (.seq (.seq (.reg [(none, .faddr 5 (S 2) 0), (none, .load 6 (S 5) true 12), (none, .faddr 7 (S 3) 0), (none, .load 8 (S 7) true 12), (none, .call 9 37 [(S 6), (S 8)]), (none, .un 10 .not (S 9))]) (.cond (S 10) (.seq (.reg [(none, .mv 4 (KB false))]) .ret) .skip)) (.seq (.seq (.reg [(none, .faddr 11 (S 2) 12), (none, .load 12 (S 11) false 1), (none, .faddr 13 (S 3) 12), (none, .load 14 (S 13) false 1), (none, .call 15 38 [(S 12), (S 14)]), (none, .un 16 .not (S 15))]) (.cond (S 16) (.seq (.reg [(none, .mv 4 (KB false))]) .ret) .skip)) (.seq (.seq (.reg [(none, .faddr 17 (S 2) 13), (none, .load 18 (S 17) true 3), (none, .faddr 19 (S 3) 13), (none, .load 20 (S 19) true 3), (none, .call 21 10 [(S 18), (S 20)]), (none, .un 22 .not (S 21))]) (.cond (S 22) (.seq (.reg [(none, .mv 4 (KB false))]) .ret) .skip)) (.seq (.reg [(none, .mv 4 (KB true))]) .ret)))))
theorem e_laws_eqConsole : entry Try.prog 15 = some (c_laws_eqConsole.strip, [4], 23) := by kernel_rfl
theorem w_laws_eqConsole (a0 : XConsole) (a1 : XConsole) (r : Bool) (h : f_laws_eqConsole a0 a1 = some r) : FC Try.prog 15 [.ag (XConsole.row a0), .ag (XConsole.row a1)] [.sc (.v (.bool r))] := by
  unfold f_laws_eqConsole at h
  refine FC_go (σ := ⟨[(0, va [aI a0.Harbour.Forecast.Tide.Mean, aL (List.map XPart.row a0.Harbour.Forecast.Tide.Parts), aL (List.map XSurge.row a0.Harbour.Forecast.Surges), aL (List.map XPoint.row a0.Harbour.Chart.Points), aL (List.map XSegment.row a0.Harbour.Chart.Segments), aL (List.map XShip.row a0.Harbour.Fleet), aI a0.Harbour.Regime.Gap, aB a0.Harbour.Regime.NoMeet, aI a0.Harbour.Crew.Tugs, aI a0.Harbour.Crew.Pilots, aI a0.Harbour.Crew.Rest, aL (List.map rI a0.Harbour.Crew.Moves), aL (List.map XCall.row a0.Calls), aI a0.Desk.Now, aL (List.map rI a0.Desk.Starts), aL (List.map rB a0.Desk.Cleared)]), (1, va [aI a1.Harbour.Forecast.Tide.Mean, aL (List.map XPart.row a1.Harbour.Forecast.Tide.Parts), aL (List.map XSurge.row a1.Harbour.Forecast.Surges), aL (List.map XPoint.row a1.Harbour.Chart.Points), aL (List.map XSegment.row a1.Harbour.Chart.Segments), aL (List.map XShip.row a1.Harbour.Fleet), aI a1.Harbour.Regime.Gap, aB a1.Harbour.Regime.NoMeet, aI a1.Harbour.Crew.Tugs, aI a1.Harbour.Crew.Pilots, aI a1.Harbour.Crew.Rest, aL (List.map rI a1.Harbour.Crew.Moves), aL (List.map XCall.row a1.Calls), aI a1.Desk.Now, aL (List.map rI a1.Desk.Starts), aL (List.map rB a1.Desk.Cleared)])], [], []⟩) mixed e_laws_eqConsole rfl rfl ?_
  simp only [c_laws_eqConsole]
  try simp only [Nat.reduceBEq, Nat.reduceMul, Nat.reduceAdd, Nat.reduceDiv, Int.reduceBEq, rules2, rulesX, rowsX]
  refine go_bx rfl rfl rfl ?_
  try simp only [Nat.reduceBEq, Nat.reduceMul, Nat.reduceAdd, Nat.reduceDiv, Int.reduceBEq, rules2, rulesX, rowsX]
  refine go_bx rfl rfl rfl ?_
  obtain ⟨r1, hr1, h⟩ := ob h
  try simp only [Nat.reduceBEq, Nat.reduceMul, Nat.reduceAdd, Nat.reduceDiv, Int.reduceBEq, rules2, rulesX, rowsX]
  refine go_callI (w_laws_eqHarbour _ _ _ hr1) rfl rfl (Nat.le_of_ble_eq_true rfl) ?_
  rcases Bool.eq_false_or_eq_true r1 with hb2 | hb2
  · rw [ite_t hb2] at h
    obtain ⟨r3, hr3, h⟩ := ob h
    try simp only [hb2, Nat.reduceBEq, Nat.reduceMul, Nat.reduceAdd, Nat.reduceDiv, Int.reduceBEq, rules2, rulesX, rowsX]
    refine go_callI (w_laws_eqCallS _ _ _ hr3) rfl rfl (Nat.le_of_ble_eq_true rfl) ?_
    rcases Bool.eq_false_or_eq_true r3 with hb4 | hb4
    · rw [ite_t hb4] at h
      obtain ⟨r5, hr5, h⟩ := ob h
      try simp only [hb2, hb4, Nat.reduceBEq, Nat.reduceMul, Nat.reduceAdd, Nat.reduceDiv, Int.reduceBEq, rules2, rulesX, rowsX]
      refine go_callI (w_laws_eqDesk _ _ _ hr5) rfl rfl (Nat.le_of_ble_eq_true rfl) ?_
      rcases Bool.eq_false_or_eq_true r5 with hb6 | hb6
      · rw [ite_t hb6] at h
        try simp only [hb2, hb4, hb6, Nat.reduceBEq, Nat.reduceMul, Nat.reduceAdd, Nat.reduceDiv, Int.reduceBEq, rules2, rulesX, rowsX]
        cases h
        exact ⟨⟨rfl, trivial⟩, rfl⟩
      · rw [ite_f hb6] at h
        try simp only [hb2, hb4, hb6, Nat.reduceBEq, Nat.reduceMul, Nat.reduceAdd, Nat.reduceDiv, Int.reduceBEq, rules2, rulesX, rowsX]
        cases h
        exact ⟨⟨rfl, trivial⟩, rfl⟩
    · rw [ite_f hb4] at h
      try simp only [hb2, hb4, Nat.reduceBEq, Nat.reduceMul, Nat.reduceAdd, Nat.reduceDiv, Int.reduceBEq, rules2, rulesX, rowsX]
      cases h
      exact ⟨⟨rfl, trivial⟩, rfl⟩
  · rw [ite_f hb2] at h
    try simp only [hb2, Nat.reduceBEq, Nat.reduceMul, Nat.reduceAdd, Nat.reduceDiv, Int.reduceBEq, rules2, rulesX, rowsX]
    cases h
    exact ⟨⟨rfl, trivial⟩, rfl⟩
/- 81: laws_markPartS -/
def c_laws_markPartS_1 : ACode := .seq (.reg [(none, .keep [0, 1, 5] [] [1099511627776])]) (.seq (.seq (.reg [(none, .mv 6 (S 5)), (none, .mv 7 (S 0)), (none, .len 8 (S 7)), (none, .bin 9 .lss (S 6) (S 8))]) (.cond (S 9) .skip (.exit 0))) (.seq (.block 1 (.seq (.reg [(none, .mv 12 (S 0)), (none, .mv 13 (S 5)), (none, .mv 14 (S 1)), (none, .iaddr 15 (S 12) (S 13) 3), (none, .faddr 16 (S 15) 0), (none, .store (S 16) (S 14) 1)]) (.seq (.reg [(none, .mv 17 (S 1)), (none, .bin 18 .add (S 17) (K 1)), (none, .mv 1 (S 18))]) (.seq (.reg [(none, .mv 19 (S 0)), (none, .mv 20 (S 5)), (none, .mv 21 (S 1)), (none, .iaddr 22 (S 19) (S 20) 3), (none, .faddr 23 (S 22) 1), (none, .store (S 23) (S 21) 1)]) (.seq (.reg [(none, .mv 24 (S 1)), (none, .bin 25 .add (S 24) (K 1)), (none, .mv 1 (S 25))]) (.seq (.reg [(none, .mv 26 (S 0)), (none, .mv 27 (S 5)), (none, .mv 28 (S 1)), (none, .iaddr 29 (S 26) (S 27) 3), (none, .faddr 30 (S 29) 2), (none, .store (S 30) (S 28) 1)]) (.reg [(none, .mv 31 (S 1)), (none, .bin 32 .add (S 31) (K 1)), (none, .mv 1 (S 32))]))))))) (.reg [(none, .mv 10 (S 5)), (none, .bin 11 .add (S 10) (K 1)), (none, .mv 5 (S 11))])))
def c_laws_markPartS_n1 : ACode := (.seq (.reg [(none, .mv 33 (S 1)), (none, .mv 4 (S 33))]) .ret)
def c_laws_markPartS : ACode := (.seq (.reg [(none, .mv 4 (K 0))]) (.seq (.seq (.reg [(none, .mv 5 (K 0))]) (.block 0 (.loop c_laws_markPartS_1))) c_laws_markPartS_n1))
theorem w_laws_markPartS_1 : ∀ (n : Nat) (v1 : Int) (v2 : Int) (v3 : List XPart) (r : Int × List XPart), f_laws_markPartS_1 n v1 v2 v3 = some r → ∀ σ : St, σ.kept [0, 1, 5] [] [1099511627776] = ⟨[(0, vc (.own 1099511627776)), (1, vc (aI v1)), (5, vc (aI v2))], [], [(1099511627776, 3, List.map XPart.row v3)]⟩ → go Try.prog (.code (.loop c_laws_markPartS_1) :: [.blk 0, .code c_laws_markPartS_n1]) (RetX [4] (.int .i64 r.1) [(3, List.map XPart.row r.2)] [(0, 0)]) .normal (some σ) := by
  intro n
  induction n with
  | zero => intro _ _ _ r h; cases h
  | succ n ih =>
    intro v1 v2 v3 r h σ hσ
    rw [f_laws_markPartS_1] at h
    refine go_round ?_
    rcases Bool.eq_false_or_eq_true (decide (v2 < (v3.length : Int))) with hb4 | hb4
    · rw [ite_t hb4] at h
      obtain ⟨x5, hx5, h⟩ := ob h
      have hx5n := ix_get hx5
      try simp only [hσ, hb4, hx5, c_laws_markPartS_1, Nat.reduceBEq, Nat.reduceMul, Nat.reduceAdd, Nat.reduceDiv, Int.reduceBEq, rules2, rulesX, rowsX]
      refine go_stp (y := (⟨v1, x5.Period, x5.Phase⟩ : XPart)) rfl rfl hx5n rfl rfl rfl ?_
      obtain ⟨x6, hx6, h⟩ := ob h
      have hx6n := ix_get hx6
      try simp only [hb4, hx5, hx6, Nat.reduceBEq, Nat.reduceMul, Nat.reduceAdd, Nat.reduceDiv, Int.reduceBEq, rules2, rulesX, rowsX]
      refine go_stp (y := (⟨x6.Amp, (IntKind.i64.wrap (v1 + (1 : Int))), x6.Phase⟩ : XPart)) rfl rfl hx6n rfl rfl rfl ?_
      obtain ⟨x7, hx7, h⟩ := ob h
      have hx7n := ix_get hx7
      try simp only [hb4, hx5, hx6, hx7, Nat.reduceBEq, Nat.reduceMul, Nat.reduceAdd, Nat.reduceDiv, Int.reduceBEq, rules2, rulesX, rowsX]
      refine go_stp (y := (⟨x7.Amp, x7.Period, (IntKind.i64.wrap ((IntKind.i64.wrap (v1 + (1 : Int))) + (1 : Int)))⟩ : XPart)) rfl rfl hx7n rfl rfl rfl ?_
      try simp only [hb4, hx5, hx6, hx7, Nat.reduceBEq, Nat.reduceMul, Nat.reduceAdd, Nat.reduceDiv, Int.reduceBEq, rules2, rulesX, rowsX]
      refine ih _ _ _ _ h _ ?_
      try simp only [hb4, hx5, hx6, hx7, Nat.reduceBEq, Nat.reduceMul, Nat.reduceAdd, Nat.reduceDiv, Int.reduceBEq, rules2, rulesX, rowsX, List.map_nil]
    · rw [ite_f hb4] at h
      try simp only [hσ, hb4, c_laws_markPartS_1, c_laws_markPartS_n1, Nat.reduceBEq, Nat.reduceMul, Nat.reduceAdd, Nat.reduceDiv, Int.reduceBEq, rules2, rulesX, rowsX]
      cases h
      exact ⟨⟨rfl, trivial⟩, ⟨⟨⟨_, rfl, rfl⟩, rfl⟩, trivial⟩⟩
theorem e_laws_markPartS : entry Try.prog 81 = some (c_laws_markPartS.strip, [4], 34) := by kernel_rfl
theorem l_laws_markPartS_1 : ∀ (n : Nat) (v1 : Int) (v2 : Int) (v3 : List XPart) (r : Int × List XPart), f_laws_markPartS_1 n v1 v2 v3 = some r → r.2.length = v3.length := by
  intro n
  induction n with
  | zero => intro _ _ _ r h; cases h
  | succ n ih =>
    intro v1 v2 v3 r h
    rw [f_laws_markPartS_1] at h
    rcases Bool.eq_false_or_eq_true (decide (v2 < (v3.length : Int))) with hb4 | hb4
    · rw [ite_t hb4] at h
      obtain ⟨x5, hx5, h⟩ := ob h
      obtain ⟨x6, hx6, h⟩ := ob h
      obtain ⟨x7, hx7, h⟩ := ob h
      have hl := ih _ _ _ _ h
      try simp only [List.length_set] at hl
      omega
    · rw [ite_f hb4] at h
      cases h
      all_goals (try dsimp only); first | done | omega | (simp only [List.length_set] at *; omega) | simp_all
theorem l_laws_markPartS (a0 : List XPart) (a1 : Int) (r : Int × List XPart) (h : f_laws_markPartS a0 a1 = some r) : r.2.length = a0.length := by
  unfold f_laws_markPartS at h
  have hl := l_laws_markPartS_1 _ _ _ _ _ h
  try simp only [List.length_set] at hl
  omega
theorem w_laws_markPartS (a0 : List XPart) (a1 : Int) (r : Int × List XPart) (h : f_laws_markPartS a0 a1 = some r) : FCx Try.prog 81 [.sc (.r 0), .sc (.d (.int .i64 a1))] [(3, List.map XPart.row a0)] [(3, List.map XPart.row r.2)] (.int .i64 r.1) := by
  unfold f_laws_markPartS at h
  refine FCx_go (ps := [(0, 0)]) (σ := ⟨[(0, vc (.own 1099511627776)), (1, vc (aI a1))], [], [(1099511627776, 3, List.map XPart.row a0)]⟩) mixed e_laws_markPartS rfl rfl rfl (flatR_cons flatR_nil) rfl ?_
  simp only [c_laws_markPartS]
  try simp only [Nat.reduceBEq, Nat.reduceMul, Nat.reduceAdd, Nat.reduceDiv, Int.reduceBEq, rules2, rulesX, rowsX]
  refine w_laws_markPartS_1 _ _ _ _ _ h _ ?_
  try simp only [Nat.reduceBEq, Nat.reduceMul, Nat.reduceAdd, Nat.reduceDiv, Int.reduceBEq, rules2, rulesX, rowsX, List.map_nil]
/- 68: laws_markTide -/
def c_laws_markTide : ACode := (.seq (.reg [(none, .box 2 (S 0)), (none, .mv 4 (K 0))]) (.seq (.reg [(none, .faddr 5 (S 2) 1), (none, .load 6 (S 5) false 1), (none, .mv 7 (S 1)), (none, .call 8 81 [(S 6), (S 7)]), (none, .mv 1 (S 8))]) (.seq (.reg [(none, .mv 9 (S 1)), (none, .mv 4 (S 9))]) .ret)))
theorem e_laws_markTide : entry Try.prog 68 = some (c_laws_markTide.strip, [4], 10) := by kernel_rfl
theorem l_laws_markTide (a0 : XTide) (a1 : Int) (r : Int × List XPart) (h : f_laws_markTide a0 a1 = some r) : r.2.length = a0.Parts.length := by
  unfold f_laws_markTide at h
  obtain ⟨r1, hr1, h⟩ := ob h
  have lrr1 := (l_laws_markPartS _ _ _ hr1)
  cases h
  all_goals (try dsimp only); first | done | omega | (simp only [List.length_set] at *; omega) | simp_all
theorem w_laws_markTide (a0 : XTide) (a1 : Int) (r : Int × List XPart) (h : f_laws_markTide a0 a1 = some r) : FCx Try.prog 68 [.ag [.d (.int .i64 a0.Mean), .r 0], .sc (.d (.int .i64 a1))] [(3, List.map XPart.row a0.Parts)] [(3, List.map XPart.row r.2)] (.int .i64 r.1) := by
  unfold f_laws_markTide at h
  refine FCx_go (ps := [(0, 1)]) (σ := ⟨[(0, va [aI a0.Mean, .own 1099511627776]), (1, vc (aI a1))], [], [(1099511627776, 3, List.map XPart.row a0.Parts)]⟩) mixed e_laws_markTide rfl rfl rfl (flatR_cons flatR_nil) rfl ?_
  simp only [c_laws_markTide]
  try simp only [Nat.reduceBEq, Nat.reduceMul, Nat.reduceAdd, Nat.reduceDiv, Int.reduceBEq, rules2, rulesX, rowsX]
  refine go_bx rfl rfl rfl ?_
  obtain ⟨r1, hr1, h⟩ := ob h
  try simp only [Nat.reduceBEq, Nat.reduceMul, Nat.reduceAdd, Nat.reduceDiv, Int.reduceBEq, rules2, rulesX, rowsX]
  have lrr1 := (l_laws_markPartS _ _ _ hr1)
  refine go_callx (ids := [1099511627776]) (w_laws_markPartS _ _ _ hr1) rfl rfl rfl (flatR_cons flatR_nil) (sameLen_cons (l_laws_markPartS _ _ _ hr1) sameLen_nil) ?_
  try simp only [Nat.reduceBEq, Nat.reduceMul, Nat.reduceAdd, Nat.reduceDiv, Int.reduceBEq, rules2, rulesX, rowsX]
  cases h
  exact ⟨⟨rfl, trivial⟩, ⟨⟨⟨_, rfl, rfl⟩, rfl⟩, trivial⟩⟩
/- 69: laws_markSurgeS -/
def c_laws_markSurgeS_1 : ACode := .seq (.reg [(none, .keep [0, 1, 5] [] [1099511627776])]) (.seq (.seq (.reg [(none, .mv 6 (S 5)), (none, .mv 7 (S 0)), (none, .len 8 (S 7)), (none, .bin 9 .lss (S 6) (S 8))]) (.cond (S 9) .skip (.exit 0))) (.seq (.block 1 (.seq (.reg [(none, .mv 12 (S 0)), (none, .mv 13 (S 5)), (none, .mv 14 (S 1)), (none, .iaddr 15 (S 12) (S 13) 3), (none, .faddr 16 (S 15) 0), (none, .store (S 16) (S 14) 1)]) (.seq (.reg [(none, .mv 17 (S 1)), (none, .bin 18 .add (S 17) (K 1)), (none, .mv 1 (S 18))]) (.seq (.reg [(none, .mv 19 (S 0)), (none, .mv 20 (S 5)), (none, .mv 21 (S 1)), (none, .iaddr 22 (S 19) (S 20) 3), (none, .faddr 23 (S 22) 1), (none, .store (S 23) (S 21) 1)]) (.seq (.reg [(none, .mv 24 (S 1)), (none, .bin 25 .add (S 24) (K 1)), (none, .mv 1 (S 25))]) (.seq (.reg [(none, .mv 26 (S 0)), (none, .mv 27 (S 5)), (none, .mv 28 (S 1)), (none, .iaddr 29 (S 26) (S 27) 3), (none, .faddr 30 (S 29) 2), (none, .store (S 30) (S 28) 1)]) (.reg [(none, .mv 31 (S 1)), (none, .bin 32 .add (S 31) (K 1)), (none, .mv 1 (S 32))]))))))) (.reg [(none, .mv 10 (S 5)), (none, .bin 11 .add (S 10) (K 1)), (none, .mv 5 (S 11))])))
def c_laws_markSurgeS_n1 : ACode := (.seq (.reg [(none, .mv 33 (S 1)), (none, .mv 4 (S 33))]) .ret)
def c_laws_markSurgeS : ACode := (.seq (.reg [(none, .mv 4 (K 0))]) (.seq (.seq (.reg [(none, .mv 5 (K 0))]) (.block 0 (.loop c_laws_markSurgeS_1))) c_laws_markSurgeS_n1))
theorem w_laws_markSurgeS_1 : ∀ (n : Nat) (v1 : Int) (v2 : Int) (v3 : List XSurge) (r : Int × List XSurge), f_laws_markSurgeS_1 n v1 v2 v3 = some r → ∀ σ : St, σ.kept [0, 1, 5] [] [1099511627776] = ⟨[(0, vc (.own 1099511627776)), (1, vc (aI v1)), (5, vc (aI v2))], [], [(1099511627776, 3, List.map XSurge.row v3)]⟩ → go Try.prog (.code (.loop c_laws_markSurgeS_1) :: [.blk 0, .code c_laws_markSurgeS_n1]) (RetX [4] (.int .i64 r.1) [(3, List.map XSurge.row r.2)] [(0, 0)]) .normal (some σ) := by
  intro n
  induction n with
  | zero => intro _ _ _ r h; cases h
  | succ n ih =>
    intro v1 v2 v3 r h σ hσ
    rw [f_laws_markSurgeS_1] at h
    refine go_round ?_
    rcases Bool.eq_false_or_eq_true (decide (v2 < (v3.length : Int))) with hb4 | hb4
    · rw [ite_t hb4] at h
      obtain ⟨x5, hx5, h⟩ := ob h
      have hx5n := ix_get hx5
      try simp only [hσ, hb4, hx5, c_laws_markSurgeS_1, Nat.reduceBEq, Nat.reduceMul, Nat.reduceAdd, Nat.reduceDiv, Int.reduceBEq, rules2, rulesX, rowsX]
      refine go_stp (y := (⟨v1, x5.Low, x5.High⟩ : XSurge)) rfl rfl hx5n rfl rfl rfl ?_
      obtain ⟨x6, hx6, h⟩ := ob h
      have hx6n := ix_get hx6
      try simp only [hb4, hx5, hx6, Nat.reduceBEq, Nat.reduceMul, Nat.reduceAdd, Nat.reduceDiv, Int.reduceBEq, rules2, rulesX, rowsX]
      refine go_stp (y := (⟨x6.From, (IntKind.i64.wrap (v1 + (1 : Int))), x6.High⟩ : XSurge)) rfl rfl hx6n rfl rfl rfl ?_
      obtain ⟨x7, hx7, h⟩ := ob h
      have hx7n := ix_get hx7
      try simp only [hb4, hx5, hx6, hx7, Nat.reduceBEq, Nat.reduceMul, Nat.reduceAdd, Nat.reduceDiv, Int.reduceBEq, rules2, rulesX, rowsX]
      refine go_stp (y := (⟨x7.From, x7.Low, (IntKind.i64.wrap ((IntKind.i64.wrap (v1 + (1 : Int))) + (1 : Int)))⟩ : XSurge)) rfl rfl hx7n rfl rfl rfl ?_
      try simp only [hb4, hx5, hx6, hx7, Nat.reduceBEq, Nat.reduceMul, Nat.reduceAdd, Nat.reduceDiv, Int.reduceBEq, rules2, rulesX, rowsX]
      refine ih _ _ _ _ h _ ?_
      try simp only [hb4, hx5, hx6, hx7, Nat.reduceBEq, Nat.reduceMul, Nat.reduceAdd, Nat.reduceDiv, Int.reduceBEq, rules2, rulesX, rowsX, List.map_nil]
    · rw [ite_f hb4] at h
      try simp only [hσ, hb4, c_laws_markSurgeS_1, c_laws_markSurgeS_n1, Nat.reduceBEq, Nat.reduceMul, Nat.reduceAdd, Nat.reduceDiv, Int.reduceBEq, rules2, rulesX, rowsX]
      cases h
      exact ⟨⟨rfl, trivial⟩, ⟨⟨⟨_, rfl, rfl⟩, rfl⟩, trivial⟩⟩
theorem e_laws_markSurgeS : entry Try.prog 69 = some (c_laws_markSurgeS.strip, [4], 34) := by kernel_rfl
theorem l_laws_markSurgeS_1 : ∀ (n : Nat) (v1 : Int) (v2 : Int) (v3 : List XSurge) (r : Int × List XSurge), f_laws_markSurgeS_1 n v1 v2 v3 = some r → r.2.length = v3.length := by
  intro n
  induction n with
  | zero => intro _ _ _ r h; cases h
  | succ n ih =>
    intro v1 v2 v3 r h
    rw [f_laws_markSurgeS_1] at h
    rcases Bool.eq_false_or_eq_true (decide (v2 < (v3.length : Int))) with hb4 | hb4
    · rw [ite_t hb4] at h
      obtain ⟨x5, hx5, h⟩ := ob h
      obtain ⟨x6, hx6, h⟩ := ob h
      obtain ⟨x7, hx7, h⟩ := ob h
      have hl := ih _ _ _ _ h
      try simp only [List.length_set] at hl
      omega
    · rw [ite_f hb4] at h
      cases h
      all_goals (try dsimp only); first | done | omega | (simp only [List.length_set] at *; omega) | simp_all
theorem l_laws_markSurgeS (a0 : List XSurge) (a1 : Int) (r : Int × List XSurge) (h : f_laws_markSurgeS a0 a1 = some r) : r.2.length = a0.length := by
  unfold f_laws_markSurgeS at h
  have hl := l_laws_markSurgeS_1 _ _ _ _ _ h
  try simp only [List.length_set] at hl
  omega
theorem w_laws_markSurgeS (a0 : List XSurge) (a1 : Int) (r : Int × List XSurge) (h : f_laws_markSurgeS a0 a1 = some r) : FCx Try.prog 69 [.sc (.r 0), .sc (.d (.int .i64 a1))] [(3, List.map XSurge.row a0)] [(3, List.map XSurge.row r.2)] (.int .i64 r.1) := by
  unfold f_laws_markSurgeS at h
  refine FCx_go (ps := [(0, 0)]) (σ := ⟨[(0, vc (.own 1099511627776)), (1, vc (aI a1))], [], [(1099511627776, 3, List.map XSurge.row a0)]⟩) mixed e_laws_markSurgeS rfl rfl rfl (flatR_cons flatR_nil) rfl ?_
  simp only [c_laws_markSurgeS]
  try simp only [Nat.reduceBEq, Nat.reduceMul, Nat.reduceAdd, Nat.reduceDiv, Int.reduceBEq, rules2, rulesX, rowsX]
  refine w_laws_markSurgeS_1 _ _ _ _ _ h _ ?_
  try simp only [Nat.reduceBEq, Nat.reduceMul, Nat.reduceAdd, Nat.reduceDiv, Int.reduceBEq, rules2, rulesX, rowsX, List.map_nil]
/- 55: laws_markForecast -/
def c_laws_markForecast : ACode := (.seq (.reg [(none, .box 2 (S 0)), (none, .mv 4 (K 0))]) (.seq (.reg [(none, .faddr 5 (S 2) 0), (none, .load 6 (S 5) true 2), (none, .mv 7 (S 1)), (none, .call 8 68 [(S 6), (S 7)]), (none, .mv 1 (S 8))]) (.seq (.reg [(none, .faddr 9 (S 2) 2), (none, .load 10 (S 9) false 1), (none, .mv 11 (S 1)), (none, .call 12 69 [(S 10), (S 11)]), (none, .mv 1 (S 12))]) (.seq (.reg [(none, .mv 13 (S 1)), (none, .mv 4 (S 13))]) .ret))))
theorem e_laws_markForecast : entry Try.prog 55 = some (c_laws_markForecast.strip, [4], 14) := by kernel_rfl
theorem l_laws_markForecast (a0 : XForecast) (a1 : Int) (r : Int × List XPart × List XSurge) (h : f_laws_markForecast a0 a1 = some r) : r.2.1.length = a0.Tide.Parts.length ∧ r.2.2.length = a0.Surges.length := by
  unfold f_laws_markForecast at h
  obtain ⟨r1, hr1, h⟩ := ob h
  have lrr1 := (l_laws_markTide _ _ _ hr1)
  obtain ⟨r2, hr2, h⟩ := ob h
  have lrr2 := (l_laws_markSurgeS _ _ _ hr2)
  cases h
  all_goals (try dsimp only); first | done | omega | (simp only [List.length_set] at *; omega) | simp_all
theorem w_laws_markForecast (a0 : XForecast) (a1 : Int) (r : Int × List XPart × List XSurge) (h : f_laws_markForecast a0 a1 = some r) : FCx Try.prog 55 [.ag [.d (.int .i64 a0.Tide.Mean), .r 0, .r 1], .sc (.d (.int .i64 a1))] [(3, List.map XPart.row a0.Tide.Parts), (3, List.map XSurge.row a0.Surges)] [(3, List.map XPart.row r.2.1), (3, List.map XSurge.row r.2.2)] (.int .i64 r.1) := by
  unfold f_laws_markForecast at h
  refine FCx_go (ps := [(0, 1), (0, 2)]) (σ := ⟨[(0, va [aI a0.Tide.Mean, .own 1099511627776, .own 1099511627777]), (1, vc (aI a1))], [], [(1099511627776, 3, List.map XPart.row a0.Tide.Parts), (1099511627777, 3, List.map XSurge.row a0.Surges)]⟩) mixed e_laws_markForecast rfl rfl rfl (flatR_cons (flatR_cons flatR_nil)) rfl ?_
  simp only [c_laws_markForecast]
  try simp only [Nat.reduceBEq, Nat.reduceMul, Nat.reduceAdd, Nat.reduceDiv, Int.reduceBEq, rules2, rulesX, rowsX]
  refine go_bx rfl rfl rfl ?_
  obtain ⟨r1, hr1, h⟩ := ob h
  try simp only [Nat.reduceBEq, Nat.reduceMul, Nat.reduceAdd, Nat.reduceDiv, Int.reduceBEq, rules2, rulesX, rowsX]
  have lrr1 := (l_laws_markTide _ _ _ hr1)
  refine go_callx (ids := [1099511627776]) (w_laws_markTide _ _ _ hr1) rfl rfl rfl (flatR_cons flatR_nil) (sameLen_cons (l_laws_markTide _ _ _ hr1) sameLen_nil) ?_
  obtain ⟨r2, hr2, h⟩ := ob h
  try simp only [Nat.reduceBEq, Nat.reduceMul, Nat.reduceAdd, Nat.reduceDiv, Int.reduceBEq, rules2, rulesX, rowsX]
  have lrr2 := (l_laws_markSurgeS _ _ _ hr2)
  refine go_callx (ids := [1099511627777]) (w_laws_markSurgeS _ _ _ hr2) rfl rfl rfl (flatR_cons flatR_nil) (sameLen_cons (l_laws_markSurgeS _ _ _ hr2) sameLen_nil) ?_
  try simp only [Nat.reduceBEq, Nat.reduceMul, Nat.reduceAdd, Nat.reduceDiv, Int.reduceBEq, rules2, rulesX, rowsX]
  cases h
  exact ⟨⟨rfl, trivial⟩, ⟨⟨⟨_, rfl, rfl⟩, rfl⟩, ⟨⟨⟨_, rfl, rfl⟩, rfl⟩, trivial⟩⟩⟩
/- 72: laws_markText -/
def c_laws_markText_1 : ACode := .seq (.reg [(none, .keep [0, 3] [] [])]) (.seq (.seq (.reg [(none, .mv 6 (S 0)), (none, .bin 7 .gtr (S 6) (K 0))]) (.cond (S 7) .skip (.exit 0))) (.block 1 (.seq (.reg [(none, .mv 8 (S 0)), (none, .bin 9 .rem (S 8) (K 10)), (none, .bin 10 .add (K 48) (S 9)), (none, .conv 11 .u8 (S 10)), (none, .bslice 12 1 [.int .u8 0] 1 [(0, (S 11))]), (none, .sconv 13 (S 12)), (none, .mv 14 (S 3)), (none, .bin 15 .add (S 13) (S 14)), (none, .mv 3 (S 15))]) (.reg [(none, .mv 16 (S 0)), (none, .bin 17 .quo (S 16) (K 10)), (none, .mv 0 (S 17))]))))
def c_laws_markText_n1 : ACode := (.seq (.reg [(none, .mv 18 (S 3)), (none, .bin 19 .add (KS [109]) (S 18)), (none, .mv 2 (S 19))]) .ret)
def c_laws_markText : ACode := (.seq (.reg [(none, .mv 2 (KS []))]) (.seq (.seq (.reg [(none, .mv 4 (S 0)), (none, .bin 5 .leq (S 4) (K 0))]) (.cond (S 5) (.seq (.reg [(none, .mv 2 (KS [109, 48]))]) .ret) .skip)) (.seq (.reg [(none, .mv 3 (KS []))]) (.seq (.block 0 (.loop c_laws_markText_1)) c_laws_markText_n1))))
theorem w_laws_markText_1 : ∀ (n : Nat) (v2 : Int) (v3 : List UInt8) (r : (List UInt8)), f_laws_markText_1 n v2 v3 = some r → ∀ σ : St, σ.kept [0, 3] [] [] = ⟨[(0, vc (aI v2)), (3, vc (aS v3))], [], []⟩ → go Try.prog (.code (.loop c_laws_markText_1) :: [.blk 0, .code c_laws_markText_n1]) (Ret [2] [.sc (.v (.str r))]) .normal (some σ) := by
  intro n
  induction n with
  | zero => intro _ _ r h; cases h
  | succ n ih =>
    intro v2 v3 r h σ hσ
    rw [f_laws_markText_1] at h
    refine go_round ?_
    rcases Bool.eq_false_or_eq_true (decide ((0 : Int) < v2)) with hb4 | hb4
    · rw [ite_t hb4] at h
      try simp only [hσ, hb4, c_laws_markText_1, Nat.reduceBEq, Nat.reduceMul, Nat.reduceAdd, Nat.reduceDiv, Int.reduceBEq, rules2, rulesX, rowsX]
      refine go_bsl (es := List.map r8 ([(IntKind.u8.wrap (IntKind.i64.wrap ((48 : Int) + (IntKind.i64.wrap (Int.tmod v2 (10 : Int))))))] : List Int)) rfl rfl ?_
      obtain ⟨hg5, h⟩ := of_guard h
      try simp only [hb4, hg5, Nat.reduceBEq, Nat.reduceMul, Nat.reduceAdd, Nat.reduceDiv, Int.reduceBEq, rules2, rulesX, rowsX]
      refine ih _ _ _ h _ ?_
      try simp only [hb4, hg5, Nat.reduceBEq, Nat.reduceMul, Nat.reduceAdd, Nat.reduceDiv, Int.reduceBEq, rules2, rulesX, rowsX, List.map_nil]
    · rw [ite_f hb4] at h
      obtain ⟨hg6, h⟩ := of_guard h
      try simp only [hσ, hb4, hg6, c_laws_markText_1, c_laws_markText_n1, Nat.reduceBEq, Nat.reduceMul, Nat.reduceAdd, Nat.reduceDiv, Int.reduceBEq, rules2, rulesX, rowsX]
      cases h
      exact ⟨⟨rfl, trivial⟩, rfl⟩
theorem e_laws_markText : entry Try.prog 72 = some (c_laws_markText.strip, [2], 20) := by kernel_rfl
theorem w_laws_markText (a0 : Int) (r : (List UInt8)) (h : f_laws_markText a0 = some r) : FC Try.prog 72 [.sc (.int .i64 a0)] [.sc (.v (.str r))] := by
  unfold f_laws_markText at h
  refine FC_go (σ := ⟨[(0, vc (aI a0))], [], []⟩) mixed e_laws_markText rfl rfl ?_
  simp only [c_laws_markText]
  rcases Bool.eq_false_or_eq_true (decide (a0 ≤ (0 : Int))) with hb1 | hb1
  · rw [ite_t hb1] at h
    try simp only [hb1, Nat.reduceBEq, Nat.reduceMul, Nat.reduceAdd, Nat.reduceDiv, Int.reduceBEq, rules2, rulesX, rowsX]
    cases h
    exact ⟨⟨rfl, trivial⟩, rfl⟩
  · rw [ite_f hb1] at h
    try simp only [hb1, Nat.reduceBEq, Nat.reduceMul, Nat.reduceAdd, Nat.reduceDiv, Int.reduceBEq, rules2, rulesX, rowsX]
    refine w_laws_markText_1 _ _ _ _ h _ ?_
    try simp only [hb1, Nat.reduceBEq, Nat.reduceMul, Nat.reduceAdd, Nat.reduceDiv, Int.reduceBEq, rules2, rulesX, rowsX, List.map_nil]
/- 70: laws_markPointS -/
def c_laws_markPointS_1 : ACode := .seq (.reg [(none, .keep [0, 1, 5] [] [1099511627776])]) (.seq (.seq (.reg [(none, .mv 6 (S 5)), (none, .mv 7 (S 0)), (none, .len 8 (S 7)), (none, .bin 9 .lss (S 6) (S 8))]) (.cond (S 9) .skip (.exit 0))) (.seq (.block 1 (.seq (.reg [(none, .mv 12 (S 0)), (none, .mv 13 (S 5)), (none, .mv 14 (S 1)), (none, .call 15 72 [(S 14)]), (none, .iaddr 16 (S 12) (S 13) 2), (none, .faddr 17 (S 16) 0), (none, .store (S 17) (S 15) 1)]) (.seq (.reg [(none, .mv 18 (S 1)), (none, .bin 19 .add (S 18) (K 1)), (none, .mv 1 (S 19))]) (.seq (.reg [(none, .mv 20 (S 0)), (none, .mv 21 (S 5)), (none, .mv 22 (S 1)), (none, .bin 23 .rem (S 22) (K 3)), (none, .bin 24 .eql (S 23) (K 0)), (none, .iaddr 25 (S 20) (S 21) 2), (none, .faddr 26 (S 25) 1), (none, .store (S 26) (S 24) 1)]) (.reg [(none, .mv 27 (S 1)), (none, .bin 28 .add (S 27) (K 1)), (none, .mv 1 (S 28))]))))) (.reg [(none, .mv 10 (S 5)), (none, .bin 11 .add (S 10) (K 1)), (none, .mv 5 (S 11))])))
def c_laws_markPointS_n1 : ACode := (.seq (.reg [(none, .mv 29 (S 1)), (none, .mv 4 (S 29))]) .ret)
def c_laws_markPointS : ACode := (.seq (.reg [(none, .mv 4 (K 0))]) (.seq (.seq (.reg [(none, .mv 5 (K 0))]) (.block 0 (.loop c_laws_markPointS_1))) c_laws_markPointS_n1))
theorem w_laws_markPointS_1 : ∀ (n : Nat) (v1 : Int) (v2 : Int) (v3 : List XPoint) (r : Int × List XPoint), f_laws_markPointS_1 n v1 v2 v3 = some r → ∀ σ : St, σ.kept [0, 1, 5] [] [1099511627776] = ⟨[(0, vc (.own 1099511627776)), (1, vc (aI v1)), (5, vc (aI v2))], [], [(1099511627776, 2, List.map XPoint.row v3)]⟩ → go Try.prog (.code (.loop c_laws_markPointS_1) :: [.blk 0, .code c_laws_markPointS_n1]) (RetX [4] (.int .i64 r.1) [(2, List.map XPoint.row r.2)] [(0, 0)]) .normal (some σ) := by
  intro n
  induction n with
  | zero => intro _ _ _ r h; cases h
  | succ n ih =>
    intro v1 v2 v3 r h σ hσ
    rw [f_laws_markPointS_1] at h
    refine go_round ?_
    rcases Bool.eq_false_or_eq_true (decide (v2 < (v3.length : Int))) with hb4 | hb4
    · rw [ite_t hb4] at h
      obtain ⟨r5, hr5, h⟩ := ob h
      try simp only [hσ, hb4, c_laws_markPointS_1, Nat.reduceBEq, Nat.reduceMul, Nat.reduceAdd, Nat.reduceDiv, Int.reduceBEq, rules2, rulesX, rowsX]
      refine go_callI (w_laws_markText _ _ hr5) rfl rfl (Nat.le_of_ble_eq_true rfl) ?_
      obtain ⟨x6, hx6, h⟩ := ob h
      have hx6n := ix_get hx6
      try simp only [hb4, hx6, Nat.reduceBEq, Nat.reduceMul, Nat.reduceAdd, Nat.reduceDiv, Int.reduceBEq, rules2, rulesX, rowsX]
      refine go_stp (y := (⟨r5, x6.Wait⟩ : XPoint)) rfl rfl hx6n rfl rfl rfl ?_
      obtain ⟨x7, hx7, h⟩ := ob h
      have hx7n := ix_get hx7
      try simp only [hb4, hx6, hx7, Nat.reduceBEq, Nat.reduceMul, Nat.reduceAdd, Nat.reduceDiv, Int.reduceBEq, rules2, rulesX, rowsX]
      refine go_stp (y := (⟨x7.Name, ((IntKind.i64.wrap (Int.tmod (IntKind.i64.wrap (v1 + (1 : Int))) (3 : Int))) == (0 : Int))⟩ : XPoint)) rfl rfl hx7n rfl rfl rfl ?_
      try simp only [hb4, hx6, hx7, Nat.reduceBEq, Nat.reduceMul, Nat.reduceAdd, Nat.reduceDiv, Int.reduceBEq, rules2, rulesX, rowsX]
      refine ih _ _ _ _ h _ ?_
      try simp only [hb4, hx6, hx7, Nat.reduceBEq, Nat.reduceMul, Nat.reduceAdd, Nat.reduceDiv, Int.reduceBEq, rules2, rulesX, rowsX, List.map_nil]
    · rw [ite_f hb4] at h
      try simp only [hσ, hb4, c_laws_markPointS_1, c_laws_markPointS_n1, Nat.reduceBEq, Nat.reduceMul, Nat.reduceAdd, Nat.reduceDiv, Int.reduceBEq, rules2, rulesX, rowsX]
      cases h
      exact ⟨⟨rfl, trivial⟩, ⟨⟨⟨_, rfl, rfl⟩, rfl⟩, trivial⟩⟩
theorem e_laws_markPointS : entry Try.prog 70 = some (c_laws_markPointS.strip, [4], 30) := by kernel_rfl
theorem l_laws_markPointS_1 : ∀ (n : Nat) (v1 : Int) (v2 : Int) (v3 : List XPoint) (r : Int × List XPoint), f_laws_markPointS_1 n v1 v2 v3 = some r → r.2.length = v3.length := by
  intro n
  induction n with
  | zero => intro _ _ _ r h; cases h
  | succ n ih =>
    intro v1 v2 v3 r h
    rw [f_laws_markPointS_1] at h
    rcases Bool.eq_false_or_eq_true (decide (v2 < (v3.length : Int))) with hb4 | hb4
    · rw [ite_t hb4] at h
      obtain ⟨r5, hr5, h⟩ := ob h
      obtain ⟨x6, hx6, h⟩ := ob h
      obtain ⟨x7, hx7, h⟩ := ob h
      have hl := ih _ _ _ _ h
      try simp only [List.length_set] at hl
      omega
    · rw [ite_f hb4] at h
      cases h
      all_goals (try dsimp only); first | done | omega | (simp only [List.length_set] at *; omega) | simp_all
theorem l_laws_markPointS (a0 : List XPoint) (a1 : Int) (r : Int × List XPoint) (h : f_laws_markPointS a0 a1 = some r) : r.2.length = a0.length := by
  unfold f_laws_markPointS at h
  have hl := l_laws_markPointS_1 _ _ _ _ _ h
  try simp only [List.length_set] at hl
  omega
theorem w_laws_markPointS (a0 : List XPoint) (a1 : Int) (r : Int × List XPoint) (h : f_laws_markPointS a0 a1 = some r) : FCx Try.prog 70 [.sc (.r 0), .sc (.d (.int .i64 a1))] [(2, List.map XPoint.row a0)] [(2, List.map XPoint.row r.2)] (.int .i64 r.1) := by
  unfold f_laws_markPointS at h
  refine FCx_go (ps := [(0, 0)]) (σ := ⟨[(0, vc (.own 1099511627776)), (1, vc (aI a1))], [], [(1099511627776, 2, List.map XPoint.row a0)]⟩) mixed e_laws_markPointS rfl rfl rfl (flatR_cons flatR_nil) rfl ?_
  simp only [c_laws_markPointS]
  try simp only [Nat.reduceBEq, Nat.reduceMul, Nat.reduceAdd, Nat.reduceDiv, Int.reduceBEq, rules2, rulesX, rowsX]
  refine w_laws_markPointS_1 _ _ _ _ _ h _ ?_
  try simp only [Nat.reduceBEq, Nat.reduceMul, Nat.reduceAdd, Nat.reduceDiv, Int.reduceBEq, rules2, rulesX, rowsX, List.map_nil]
/- 71: laws_markSegmentS -/
def c_laws_markSegmentS_1 : ACode := .seq (.reg [(none, .keep [0, 1, 5] [] [1099511627776])]) (.seq (.seq (.reg [(none, .mv 6 (S 5)), (none, .mv 7 (S 0)), (none, .len 8 (S 7)), (none, .bin 9 .lss (S 6) (S 8))]) (.cond (S 9) .skip (.exit 0))) (.seq (.block 1 (.seq (.reg [(none, .mv 12 (S 0)), (none, .mv 13 (S 5)), (none, .mv 14 (S 1)), (none, .iaddr 15 (S 12) (S 13) 5), (none, .faddr 16 (S 15) 0), (none, .store (S 16) (S 14) 1)]) (.seq (.reg [(none, .mv 17 (S 1)), (none, .bin 18 .add (S 17) (K 1)), (none, .mv 1 (S 18))]) (.seq (.reg [(none, .mv 19 (S 0)), (none, .mv 20 (S 5)), (none, .mv 21 (S 1)), (none, .iaddr 22 (S 19) (S 20) 5), (none, .faddr 23 (S 22) 1), (none, .store (S 23) (S 21) 1)]) (.seq (.reg [(none, .mv 24 (S 1)), (none, .bin 25 .add (S 24) (K 1)), (none, .mv 1 (S 25))]) (.seq (.reg [(none, .mv 26 (S 0)), (none, .mv 27 (S 5)), (none, .mv 28 (S 1)), (none, .iaddr 29 (S 26) (S 27) 5), (none, .faddr 30 (S 29) 2), (none, .store (S 30) (S 28) 1)]) (.seq (.reg [(none, .mv 31 (S 1)), (none, .bin 32 .add (S 31) (K 1)), (none, .mv 1 (S 32))]) (.seq (.reg [(none, .mv 33 (S 0)), (none, .mv 34 (S 5)), (none, .mv 35 (S 1)), (none, .iaddr 36 (S 33) (S 34) 5), (none, .faddr 37 (S 36) 3), (none, .store (S 37) (S 35) 1)]) (.seq (.reg [(none, .mv 38 (S 1)), (none, .bin 39 .add (S 38) (K 1)), (none, .mv 1 (S 39))]) (.seq (.reg [(none, .mv 40 (S 0)), (none, .mv 41 (S 5)), (none, .mv 42 (S 1)), (none, .bin 43 .rem (S 42) (K 3)), (none, .bin 44 .eql (S 43) (K 0)), (none, .iaddr 45 (S 40) (S 41) 5), (none, .faddr 46 (S 45) 4), (none, .store (S 46) (S 44) 1)]) (.reg [(none, .mv 47 (S 1)), (none, .bin 48 .add (S 47) (K 1)), (none, .mv 1 (S 48))]))))))))))) (.reg [(none, .mv 10 (S 5)), (none, .bin 11 .add (S 10) (K 1)), (none, .mv 5 (S 11))])))
def c_laws_markSegmentS_n1 : ACode := (.seq (.reg [(none, .mv 49 (S 1)), (none, .mv 4 (S 49))]) .ret)
def c_laws_markSegmentS : ACode := (.seq (.reg [(none, .mv 4 (K 0))]) (.seq (.seq (.reg [(none, .mv 5 (K 0))]) (.block 0 (.loop c_laws_markSegmentS_1))) c_laws_markSegmentS_n1))
theorem w_laws_markSegmentS_1 : ∀ (n : Nat) (v1 : Int) (v2 : Int) (v3 : List XSegment) (r : Int × List XSegment), f_laws_markSegmentS_1 n v1 v2 v3 = some r → ∀ σ : St, σ.kept [0, 1, 5] [] [1099511627776] = ⟨[(0, vc (.own 1099511627776)), (1, vc (aI v1)), (5, vc (aI v2))], [], [(1099511627776, 5, List.map XSegment.row v3)]⟩ → go Try.prog (.code (.loop c_laws_markSegmentS_1) :: [.blk 0, .code c_laws_markSegmentS_n1]) (RetX [4] (.int .i64 r.1) [(5, List.map XSegment.row r.2)] [(0, 0)]) .normal (some σ) := by
  intro n
  induction n with
  | zero => intro _ _ _ r h; cases h
  | succ n ih =>
    intro v1 v2 v3 r h σ hσ
    rw [f_laws_markSegmentS_1] at h
    refine go_round ?_
    rcases Bool.eq_false_or_eq_true (decide (v2 < (v3.length : Int))) with hb4 | hb4
    · rw [ite_t hb4] at h
      obtain ⟨x5, hx5, h⟩ := ob h
      have hx5n := ix_get hx5
      try simp only [hσ, hb4, hx5, c_laws_markSegmentS_1, Nat.reduceBEq, Nat.reduceMul, Nat.reduceAdd, Nat.reduceDiv, Int.reduceBEq, rules2, rulesX, rowsX]
      refine go_stp (y := (⟨v1, x5.B, x5.Depth, x5.Minutes, x5.Meet⟩ : XSegment)) rfl rfl hx5n rfl rfl rfl ?_
      obtain ⟨x6, hx6, h⟩ := ob h
      have hx6n := ix_get hx6
      try simp only [hb4, hx5, hx6, Nat.reduceBEq, Nat.reduceMul, Nat.reduceAdd, Nat.reduceDiv, Int.reduceBEq, rules2, rulesX, rowsX]
      refine go_stp (y := (⟨x6.A, (IntKind.i64.wrap (v1 + (1 : Int))), x6.Depth, x6.Minutes, x6.Meet⟩ : XSegment)) rfl rfl hx6n rfl rfl rfl ?_
      obtain ⟨x7, hx7, h⟩ := ob h
      have hx7n := ix_get hx7
      try simp only [hb4, hx5, hx6, hx7, Nat.reduceBEq, Nat.reduceMul, Nat.reduceAdd, Nat.reduceDiv, Int.reduceBEq, rules2, rulesX, rowsX]
      refine go_stp (y := (⟨x7.A, x7.B, (IntKind.i64.wrap ((IntKind.i64.wrap (v1 + (1 : Int))) + (1 : Int))), x7.Minutes, x7.Meet⟩ : XSegment)) rfl rfl hx7n rfl rfl rfl ?_
      obtain ⟨x8, hx8, h⟩ := ob h
      have hx8n := ix_get hx8
      try simp only [hb4, hx5, hx6, hx7, hx8, Nat.reduceBEq, Nat.reduceMul, Nat.reduceAdd, Nat.reduceDiv, Int.reduceBEq, rules2, rulesX, rowsX]
      refine go_stp (y := (⟨x8.A, x8.B, x8.Depth, (IntKind.i64.wrap ((IntKind.i64.wrap ((IntKind.i64.wrap (v1 + (1 : Int))) + (1 : Int))) + (1 : Int))), x8.Meet⟩ : XSegment)) rfl rfl hx8n rfl rfl rfl ?_
      obtain ⟨x9, hx9, h⟩ := ob h
      have hx9n := ix_get hx9
      try simp only [hb4, hx5, hx6, hx7, hx8, hx9, Nat.reduceBEq, Nat.reduceMul, Nat.reduceAdd, Nat.reduceDiv, Int.reduceBEq, rules2, rulesX, rowsX]
      refine go_stp (y := (⟨x9.A, x9.B, x9.Depth, x9.Minutes, ((IntKind.i64.wrap (Int.tmod (IntKind.i64.wrap ((IntKind.i64.wrap ((IntKind.i64.wrap ((IntKind.i64.wrap (v1 + (1 : Int))) + (1 : Int))) + (1 : Int))) + (1 : Int))) (3 : Int))) == (0 : Int))⟩ : XSegment)) rfl rfl hx9n rfl rfl rfl ?_
      try simp only [hb4, hx5, hx6, hx7, hx8, hx9, Nat.reduceBEq, Nat.reduceMul, Nat.reduceAdd, Nat.reduceDiv, Int.reduceBEq, rules2, rulesX, rowsX]
      refine ih _ _ _ _ h _ ?_
      try simp only [hb4, hx5, hx6, hx7, hx8, hx9, Nat.reduceBEq, Nat.reduceMul, Nat.reduceAdd, Nat.reduceDiv, Int.reduceBEq, rules2, rulesX, rowsX, List.map_nil]
    · rw [ite_f hb4] at h
      try simp only [hσ, hb4, c_laws_markSegmentS_1, c_laws_markSegmentS_n1, Nat.reduceBEq, Nat.reduceMul, Nat.reduceAdd, Nat.reduceDiv, Int.reduceBEq, rules2, rulesX, rowsX]
      cases h
      exact ⟨⟨rfl, trivial⟩, ⟨⟨⟨_, rfl, rfl⟩, rfl⟩, trivial⟩⟩
theorem e_laws_markSegmentS : entry Try.prog 71 = some (c_laws_markSegmentS.strip, [4], 50) := by kernel_rfl
theorem l_laws_markSegmentS_1 : ∀ (n : Nat) (v1 : Int) (v2 : Int) (v3 : List XSegment) (r : Int × List XSegment), f_laws_markSegmentS_1 n v1 v2 v3 = some r → r.2.length = v3.length := by
  intro n
  induction n with
  | zero => intro _ _ _ r h; cases h
  | succ n ih =>
    intro v1 v2 v3 r h
    rw [f_laws_markSegmentS_1] at h
    rcases Bool.eq_false_or_eq_true (decide (v2 < (v3.length : Int))) with hb4 | hb4
    · rw [ite_t hb4] at h
      obtain ⟨x5, hx5, h⟩ := ob h
      obtain ⟨x6, hx6, h⟩ := ob h
      obtain ⟨x7, hx7, h⟩ := ob h
      obtain ⟨x8, hx8, h⟩ := ob h
      obtain ⟨x9, hx9, h⟩ := ob h
      have hl := ih _ _ _ _ h
      try simp only [List.length_set] at hl
      omega
    · rw [ite_f hb4] at h
      cases h
      all_goals (try dsimp only); first | done | omega | (simp only [List.length_set] at *; omega) | simp_all
theorem l_laws_markSegmentS (a0 : List XSegment) (a1 : Int) (r : Int × List XSegment) (h : f_laws_markSegmentS a0 a1 = some r) : r.2.length = a0.length := by
  unfold f_laws_markSegmentS at h
  have hl := l_laws_markSegmentS_1 _ _ _ _ _ h
  try simp only [List.length_set] at hl
  omega
theorem w_laws_markSegmentS (a0 : List XSegment) (a1 : Int) (r : Int × List XSegment) (h : f_laws_markSegmentS a0 a1 = some r) : FCx Try.prog 71 [.sc (.r 0), .sc (.d (.int .i64 a1))] [(5, List.map XSegment.row a0)] [(5, List.map XSegment.row r.2)] (.int .i64 r.1) := by
  unfold f_laws_markSegmentS at h
  refine FCx_go (ps := [(0, 0)]) (σ := ⟨[(0, vc (.own 1099511627776)), (1, vc (aI a1))], [], [(1099511627776, 5, List.map XSegment.row a0)]⟩) mixed e_laws_markSegmentS rfl rfl rfl (flatR_cons flatR_nil) rfl ?_
  simp only [c_laws_markSegmentS]
  try simp only [Nat.reduceBEq, Nat.reduceMul, Nat.reduceAdd, Nat.reduceDiv, Int.reduceBEq, rules2, rulesX, rowsX]
  refine w_laws_markSegmentS_1 _ _ _ _ _ h _ ?_
  try simp only [Nat.reduceBEq, Nat.reduceMul, Nat.reduceAdd, Nat.reduceDiv, Int.reduceBEq, rules2, rulesX, rowsX, List.map_nil]
/- 56: laws_markChart -/
def c_laws_markChart : ACode := (.seq (.reg [(none, .box 2 (S 0)), (none, .mv 4 (K 0))]) (.seq (.reg [(none, .faddr 5 (S 2) 0), (none, .load 6 (S 5) false 1), (none, .mv 7 (S 1)), (none, .call 8 70 [(S 6), (S 7)]), (none, .mv 1 (S 8))]) (.seq (.reg [(none, .faddr 9 (S 2) 1), (none, .load 10 (S 9) false 1), (none, .mv 11 (S 1)), (none, .call 12 71 [(S 10), (S 11)]), (none, .mv 1 (S 12))]) (.seq (.reg [(none, .mv 13 (S 1)), (none, .mv 4 (S 13))]) .ret))))
theorem e_laws_markChart : entry Try.prog 56 = some (c_laws_markChart.strip, [4], 14) := by kernel_rfl
theorem l_laws_markChart (a0 : XChart) (a1 : Int) (r : Int × List XPoint × List XSegment) (h : f_laws_markChart a0 a1 = some r) : r.2.1.length = a0.Points.length ∧ r.2.2.length = a0.Segments.length := by
  unfold f_laws_markChart at h
  obtain ⟨r1, hr1, h⟩ := ob h
  have lrr1 := (l_laws_markPointS _ _ _ hr1)
  obtain ⟨r2, hr2, h⟩ := ob h
  have lrr2 := (l_laws_markSegmentS _ _ _ hr2)
  cases h
  all_goals (try dsimp only); first | done | omega | (simp only [List.length_set] at *; omega) | simp_all
theorem w_laws_markChart (a0 : XChart) (a1 : Int) (r : Int × List XPoint × List XSegment) (h : f_laws_markChart a0 a1 = some r) : FCx Try.prog 56 [.ag [.r 0, .r 1], .sc (.d (.int .i64 a1))] [(2, List.map XPoint.row a0.Points), (5, List.map XSegment.row a0.Segments)] [(2, List.map XPoint.row r.2.1), (5, List.map XSegment.row r.2.2)] (.int .i64 r.1) := by
  unfold f_laws_markChart at h
  refine FCx_go (ps := [(0, 0), (0, 1)]) (σ := ⟨[(0, va [.own 1099511627776, .own 1099511627777]), (1, vc (aI a1))], [], [(1099511627776, 2, List.map XPoint.row a0.Points), (1099511627777, 5, List.map XSegment.row a0.Segments)]⟩) mixed e_laws_markChart rfl rfl rfl (flatR_cons (flatR_cons flatR_nil)) rfl ?_
  simp only [c_laws_markChart]
  try simp only [Nat.reduceBEq, Nat.reduceMul, Nat.reduceAdd, Nat.reduceDiv, Int.reduceBEq, rules2, rulesX, rowsX]
  refine go_bx rfl rfl rfl ?_
  obtain ⟨r1, hr1, h⟩ := ob h
  try simp only [Nat.reduceBEq, Nat.reduceMul, Nat.reduceAdd, Nat.reduceDiv, Int.reduceBEq, rules2, rulesX, rowsX]
  have lrr1 := (l_laws_markPointS _ _ _ hr1)
  refine go_callx (ids := [1099511627776]) (w_laws_markPointS _ _ _ hr1) rfl rfl rfl (flatR_cons flatR_nil) (sameLen_cons (l_laws_markPointS _ _ _ hr1) sameLen_nil) ?_
  obtain ⟨r2, hr2, h⟩ := ob h
  try simp only [Nat.reduceBEq, Nat.reduceMul, Nat.reduceAdd, Nat.reduceDiv, Int.reduceBEq, rules2, rulesX, rowsX]
  have lrr2 := (l_laws_markSegmentS _ _ _ hr2)
  refine go_callx (ids := [1099511627777]) (w_laws_markSegmentS _ _ _ hr2) rfl rfl rfl (flatR_cons flatR_nil) (sameLen_cons (l_laws_markSegmentS _ _ _ hr2) sameLen_nil) ?_
  try simp only [Nat.reduceBEq, Nat.reduceMul, Nat.reduceAdd, Nat.reduceDiv, Int.reduceBEq, rules2, rulesX, rowsX]
  cases h
  exact ⟨⟨rfl, trivial⟩, ⟨⟨⟨_, rfl, rfl⟩, rfl⟩, ⟨⟨⟨_, rfl, rfl⟩, rfl⟩, trivial⟩⟩⟩
/- 57: laws_markShipS -/
def c_laws_markShipS_1 : ACode := .seq (.reg [(none, .keep [0, 1, 5] [] [1099511627776])]) (.seq (.seq (.reg [(none, .mv 6 (S 5)), (none, .mv 7 (S 0)), (none, .len 8 (S 7)), (none, .bin 9 .lss (S 6) (S 8))]) (.cond (S 9) .skip (.exit 0))) (.seq (.block 1 (.seq (.reg [(none, .mv 12 (S 0)), (none, .mv 13 (S 5)), (none, .mv 14 (S 1)), (none, .call 15 72 [(S 14)]), (none, .iaddr 16 (S 12) (S 13) 6), (none, .faddr 17 (S 16) 0), (none, .store (S 17) (S 15) 1)]) (.seq (.reg [(none, .mv 18 (S 1)), (none, .bin 19 .add (S 18) (K 1)), (none, .mv 1 (S 19))]) (.seq (.reg [(none, .mv 20 (S 0)), (none, .mv 21 (S 5)), (none, .mv 22 (S 1)), (none, .iaddr 23 (S 20) (S 21) 6), (none, .faddr 24 (S 23) 1), (none, .store (S 24) (S 22) 1)]) (.seq (.reg [(none, .mv 25 (S 1)), (none, .bin 26 .add (S 25) (K 1)), (none, .mv 1 (S 26))]) (.seq (.reg [(none, .mv 27 (S 0)), (none, .mv 28 (S 5)), (none, .mv 29 (S 1)), (none, .iaddr 30 (S 27) (S 28) 6), (none, .faddr 31 (S 30) 2), (none, .store (S 31) (S 29) 1)]) (.seq (.reg [(none, .mv 32 (S 1)), (none, .bin 33 .add (S 32) (K 1)), (none, .mv 1 (S 33))]) (.seq (.reg [(none, .mv 34 (S 0)), (none, .mv 35 (S 5)), (none, .mv 36 (S 1)), (none, .iaddr 37 (S 34) (S 35) 6), (none, .faddr 38 (S 37) 3), (none, .store (S 38) (S 36) 1)]) (.seq (.reg [(none, .mv 39 (S 1)), (none, .bin 40 .add (S 39) (K 1)), (none, .mv 1 (S 40))]) (.seq (.reg [(none, .mv 41 (S 0)), (none, .mv 42 (S 5)), (none, .mv 43 (S 1)), (none, .iaddr 44 (S 41) (S 42) 6), (none, .faddr 45 (S 44) 4), (none, .store (S 45) (S 43) 1)]) (.seq (.reg [(none, .mv 46 (S 1)), (none, .bin 47 .add (S 46) (K 1)), (none, .mv 1 (S 47))]) (.seq (.reg [(none, .mv 48 (S 0)), (none, .mv 49 (S 5)), (none, .mv 50 (S 1)), (none, .bin 51 .rem (S 50) (K 3)), (none, .bin 52 .eql (S 51) (K 0)), (none, .iaddr 53 (S 48) (S 49) 6), (none, .faddr 54 (S 53) 5), (none, .store (S 54) (S 52) 1)]) (.reg [(none, .mv 55 (S 1)), (none, .bin 56 .add (S 55) (K 1)), (none, .mv 1 (S 56))]))))))))))))) (.reg [(none, .mv 10 (S 5)), (none, .bin 11 .add (S 10) (K 1)), (none, .mv 5 (S 11))])))
def c_laws_markShipS_n1 : ACode := (.seq (.reg [(none, .mv 57 (S 1)), (none, .mv 4 (S 57))]) .ret)
def c_laws_markShipS : ACode := (.seq (.reg [(none, .mv 4 (K 0))]) (.seq (.seq (.reg [(none, .mv 5 (K 0))]) (.block 0 (.loop c_laws_markShipS_1))) c_laws_markShipS_n1))
theorem w_laws_markShipS_1 : ∀ (n : Nat) (v1 : Int) (v2 : Int) (v3 : List XShip) (r : Int × List XShip), f_laws_markShipS_1 n v1 v2 v3 = some r → ∀ σ : St, σ.kept [0, 1, 5] [] [1099511627776] = ⟨[(0, vc (.own 1099511627776)), (1, vc (aI v1)), (5, vc (aI v2))], [], [(1099511627776, 6, List.map XShip.row v3)]⟩ → go Try.prog (.code (.loop c_laws_markShipS_1) :: [.blk 0, .code c_laws_markShipS_n1]) (RetX [4] (.int .i64 r.1) [(6, List.map XShip.row r.2)] [(0, 0)]) .normal (some σ) := by
  intro n
  induction n with
  | zero => intro _ _ _ r h; cases h
  | succ n ih =>
    intro v1 v2 v3 r h σ hσ
    rw [f_laws_markShipS_1] at h
    refine go_round ?_
    rcases Bool.eq_false_or_eq_true (decide (v2 < (v3.length : Int))) with hb4 | hb4
    · rw [ite_t hb4] at h
      obtain ⟨r5, hr5, h⟩ := ob h
      try simp only [hσ, hb4, c_laws_markShipS_1, Nat.reduceBEq, Nat.reduceMul, Nat.reduceAdd, Nat.reduceDiv, Int.reduceBEq, rules2, rulesX, rowsX]
      refine go_callI (w_laws_markText _ _ hr5) rfl rfl (Nat.le_of_ble_eq_true rfl) ?_
      obtain ⟨x6, hx6, h⟩ := ob h
      have hx6n := ix_get hx6
      try simp only [hb4, hx6, Nat.reduceBEq, Nat.reduceMul, Nat.reduceAdd, Nat.reduceDiv, Int.reduceBEq, rules2, rulesX, rowsX]
      refine go_stp (y := (⟨r5, x6.Length, x6.Draught, x6.Line, x6.Tugs, x6.Slow⟩ : XShip)) rfl rfl hx6n rfl rfl rfl ?_
      obtain ⟨x7, hx7, h⟩ := ob h
      have hx7n := ix_get hx7
      try simp only [hb4, hx6, hx7, Nat.reduceBEq, Nat.reduceMul, Nat.reduceAdd, Nat.reduceDiv, Int.reduceBEq, rules2, rulesX, rowsX]
      refine go_stp (y := (⟨x7.Name, (IntKind.i64.wrap (v1 + (1 : Int))), x7.Draught, x7.Line, x7.Tugs, x7.Slow⟩ : XShip)) rfl rfl hx7n rfl rfl rfl ?_
      obtain ⟨x8, hx8, h⟩ := ob h
      have hx8n := ix_get hx8
      try simp only [hb4, hx6, hx7, hx8, Nat.reduceBEq, Nat.reduceMul, Nat.reduceAdd, Nat.reduceDiv, Int.reduceBEq, rules2, rulesX, rowsX]
      refine go_stp (y := (⟨x8.Name, x8.Length, (IntKind.i64.wrap ((IntKind.i64.wrap (v1 + (1 : Int))) + (1 : Int))), x8.Line, x8.Tugs, x8.Slow⟩ : XShip)) rfl rfl hx8n rfl rfl rfl ?_
      obtain ⟨x9, hx9, h⟩ := ob h
      have hx9n := ix_get hx9
      try simp only [hb4, hx6, hx7, hx8, hx9, Nat.reduceBEq, Nat.reduceMul, Nat.reduceAdd, Nat.reduceDiv, Int.reduceBEq, rules2, rulesX, rowsX]
      refine go_stp (y := (⟨x9.Name, x9.Length, x9.Draught, (IntKind.i64.wrap ((IntKind.i64.wrap ((IntKind.i64.wrap (v1 + (1 : Int))) + (1 : Int))) + (1 : Int))), x9.Tugs, x9.Slow⟩ : XShip)) rfl rfl hx9n rfl rfl rfl ?_
      obtain ⟨x10, hx10, h⟩ := ob h
      have hx10n := ix_get hx10
      try simp only [hb4, hx6, hx7, hx8, hx9, hx10, Nat.reduceBEq, Nat.reduceMul, Nat.reduceAdd, Nat.reduceDiv, Int.reduceBEq, rules2, rulesX, rowsX]
      refine go_stp (y := (⟨x10.Name, x10.Length, x10.Draught, x10.Line, (IntKind.i64.wrap ((IntKind.i64.wrap ((IntKind.i64.wrap ((IntKind.i64.wrap (v1 + (1 : Int))) + (1 : Int))) + (1 : Int))) + (1 : Int))), x10.Slow⟩ : XShip)) rfl rfl hx10n rfl rfl rfl ?_
      obtain ⟨x11, hx11, h⟩ := ob h
      have hx11n := ix_get hx11
      try simp only [hb4, hx6, hx7, hx8, hx9, hx10, hx11, Nat.reduceBEq, Nat.reduceMul, Nat.reduceAdd, Nat.reduceDiv, Int.reduceBEq, rules2, rulesX, rowsX]
      refine go_stp (y := (⟨x11.Name, x11.Length, x11.Draught, x11.Line, x11.Tugs, ((IntKind.i64.wrap (Int.tmod (IntKind.i64.wrap ((IntKind.i64.wrap ((IntKind.i64.wrap ((IntKind.i64.wrap ((IntKind.i64.wrap (v1 + (1 : Int))) + (1 : Int))) + (1 : Int))) + (1 : Int))) + (1 : Int))) (3 : Int))) == (0 : Int))⟩ : XShip)) rfl rfl hx11n rfl rfl rfl ?_
      try simp only [hb4, hx6, hx7, hx8, hx9, hx10, hx11, Nat.reduceBEq, Nat.reduceMul, Nat.reduceAdd, Nat.reduceDiv, Int.reduceBEq, rules2, rulesX, rowsX]
      refine ih _ _ _ _ h _ ?_
      try simp only [hb4, hx6, hx7, hx8, hx9, hx10, hx11, Nat.reduceBEq, Nat.reduceMul, Nat.reduceAdd, Nat.reduceDiv, Int.reduceBEq, rules2, rulesX, rowsX, List.map_nil]
    · rw [ite_f hb4] at h
      try simp only [hσ, hb4, c_laws_markShipS_1, c_laws_markShipS_n1, Nat.reduceBEq, Nat.reduceMul, Nat.reduceAdd, Nat.reduceDiv, Int.reduceBEq, rules2, rulesX, rowsX]
      cases h
      exact ⟨⟨rfl, trivial⟩, ⟨⟨⟨_, rfl, rfl⟩, rfl⟩, trivial⟩⟩
theorem e_laws_markShipS : entry Try.prog 57 = some (c_laws_markShipS.strip, [4], 58) := by kernel_rfl
theorem l_laws_markShipS_1 : ∀ (n : Nat) (v1 : Int) (v2 : Int) (v3 : List XShip) (r : Int × List XShip), f_laws_markShipS_1 n v1 v2 v3 = some r → r.2.length = v3.length := by
  intro n
  induction n with
  | zero => intro _ _ _ r h; cases h
  | succ n ih =>
    intro v1 v2 v3 r h
    rw [f_laws_markShipS_1] at h
    rcases Bool.eq_false_or_eq_true (decide (v2 < (v3.length : Int))) with hb4 | hb4
    · rw [ite_t hb4] at h
      obtain ⟨r5, hr5, h⟩ := ob h
      obtain ⟨x6, hx6, h⟩ := ob h
      obtain ⟨x7, hx7, h⟩ := ob h
      obtain ⟨x8, hx8, h⟩ := ob h
      obtain ⟨x9, hx9, h⟩ := ob h
      obtain ⟨x10, hx10, h⟩ := ob h
      obtain ⟨x11, hx11, h⟩ := ob h
      have hl := ih _ _ _ _ h
      try simp only [List.length_set] at hl
      omega
    · rw [ite_f hb4] at h
      cases h
      all_goals (try dsimp only); first | done | omega | (simp only [List.length_set] at *; omega) | simp_all
theorem l_laws_markShipS (a0 : List XShip) (a1 : Int) (r : Int × List XShip) (h : f_laws_markShipS a0 a1 = some r) : r.2.length = a0.length := by
  unfold f_laws_markShipS at h
  have hl := l_laws_markShipS_1 _ _ _ _ _ h
  try simp only [List.length_set] at hl
  omega
theorem w_laws_markShipS (a0 : List XShip) (a1 : Int) (r : Int × List XShip) (h : f_laws_markShipS a0 a1 = some r) : FCx Try.prog 57 [.sc (.r 0), .sc (.d (.int .i64 a1))] [(6, List.map XShip.row a0)] [(6, List.map XShip.row r.2)] (.int .i64 r.1) := by
  unfold f_laws_markShipS at h
  refine FCx_go (ps := [(0, 0)]) (σ := ⟨[(0, vc (.own 1099511627776)), (1, vc (aI a1))], [], [(1099511627776, 6, List.map XShip.row a0)]⟩) mixed e_laws_markShipS rfl rfl rfl (flatR_cons flatR_nil) rfl ?_
  simp only [c_laws_markShipS]
  try simp only [Nat.reduceBEq, Nat.reduceMul, Nat.reduceAdd, Nat.reduceDiv, Int.reduceBEq, rules2, rulesX, rowsX]
  refine w_laws_markShipS_1 _ _ _ _ _ h _ ?_
  try simp only [Nat.reduceBEq, Nat.reduceMul, Nat.reduceAdd, Nat.reduceDiv, Int.reduceBEq, rules2, rulesX, rowsX, List.map_nil]
/- 30: laws_markIntS -/
def c_laws_markIntS_1 : ACode := .seq (.reg [(none, .keep [0, 1, 5] [] [1099511627776])]) (.seq (.seq (.reg [(none, .mv 6 (S 5)), (none, .mv 7 (S 0)), (none, .len 8 (S 7)), (none, .bin 9 .lss (S 6) (S 8))]) (.cond (S 9) .skip (.exit 0))) (.seq (.block 1 (.seq (.reg [(none, .mv 12 (S 0)), (none, .mv 13 (S 5)), (none, .mv 14 (S 1)), (none, .iaddr 15 (S 12) (S 13) 1), (none, .store (S 15) (S 14) 1)]) (.reg [(none, .mv 16 (S 1)), (none, .bin 17 .add (S 16) (K 1)), (none, .mv 1 (S 17))]))) (.reg [(none, .mv 10 (S 5)), (none, .bin 11 .add (S 10) (K 1)), (none, .mv 5 (S 11))])))
def c_laws_markIntS_n1 : ACode := (.seq (.reg [(none, .mv 18 (S 1)), (none, .mv 4 (S 18))]) .ret)
def c_laws_markIntS : ACode := (.seq (.reg [(none, .mv 4 (K 0))]) (.seq (.seq (.reg [(none, .mv 5 (K 0))]) (.block 0 (.loop c_laws_markIntS_1))) c_laws_markIntS_n1))
theorem w_laws_markIntS_1 : ∀ (n : Nat) (v1 : Int) (v2 : Int) (v3 : List Int) (r : Int × List Int), f_laws_markIntS_1 n v1 v2 v3 = some r → ∀ σ : St, σ.kept [0, 1, 5] [] [1099511627776] = ⟨[(0, vc (.own 1099511627776)), (1, vc (aI v1)), (5, vc (aI v2))], [], [(1099511627776, 1, List.map rI v3)]⟩ → go Try.prog (.code (.loop c_laws_markIntS_1) :: [.blk 0, .code c_laws_markIntS_n1]) (RetX [4] (.int .i64 r.1) [(1, List.map rI r.2)] [(0, 0)]) .normal (some σ) := by
  intro n
  induction n with
  | zero => intro _ _ _ r h; cases h
  | succ n ih =>
    intro v1 v2 v3 r h σ hσ
    rw [f_laws_markIntS_1] at h
    refine go_round ?_
    rcases Bool.eq_false_or_eq_true (decide (v2 < (v3.length : Int))) with hb4 | hb4
    · rw [ite_t hb4] at h
      obtain ⟨x5, hx5, h⟩ := ob h
      have hx5n := ix_get hx5
      try simp only [hσ, hb4, hx5, c_laws_markIntS_1, Nat.reduceBEq, Nat.reduceMul, Nat.reduceAdd, Nat.reduceDiv, Int.reduceBEq, rules2, rulesX, rowsX]
      refine go_stp (y := v1) rfl rfl hx5n rfl rfl rfl ?_
      try simp only [hb4, hx5, Nat.reduceBEq, Nat.reduceMul, Nat.reduceAdd, Nat.reduceDiv, Int.reduceBEq, rules2, rulesX, rowsX]
      refine ih _ _ _ _ h _ ?_
      try simp only [hb4, hx5, Nat.reduceBEq, Nat.reduceMul, Nat.reduceAdd, Nat.reduceDiv, Int.reduceBEq, rules2, rulesX, rowsX, List.map_nil]
    · rw [ite_f hb4] at h
      try simp only [hσ, hb4, c_laws_markIntS_1, c_laws_markIntS_n1, Nat.reduceBEq, Nat.reduceMul, Nat.reduceAdd, Nat.reduceDiv, Int.reduceBEq, rules2, rulesX, rowsX]
      cases h
      exact ⟨⟨rfl, trivial⟩, ⟨⟨⟨_, rfl, rfl⟩, rfl⟩, trivial⟩⟩
theorem e_laws_markIntS : entry Try.prog 30 = some (c_laws_markIntS.strip, [4], 19) := by kernel_rfl
theorem l_laws_markIntS_1 : ∀ (n : Nat) (v1 : Int) (v2 : Int) (v3 : List Int) (r : Int × List Int), f_laws_markIntS_1 n v1 v2 v3 = some r → r.2.length = v3.length := by
  intro n
  induction n with
  | zero => intro _ _ _ r h; cases h
  | succ n ih =>
    intro v1 v2 v3 r h
    rw [f_laws_markIntS_1] at h
    rcases Bool.eq_false_or_eq_true (decide (v2 < (v3.length : Int))) with hb4 | hb4
    · rw [ite_t hb4] at h
      obtain ⟨x5, hx5, h⟩ := ob h
      have hl := ih _ _ _ _ h
      try simp only [List.length_set] at hl
      omega
    · rw [ite_f hb4] at h
      cases h
      all_goals (try dsimp only); first | done | omega | (simp only [List.length_set] at *; omega) | simp_all
theorem l_laws_markIntS (a0 : List Int) (a1 : Int) (r : Int × List Int) (h : f_laws_markIntS a0 a1 = some r) : r.2.length = a0.length := by
  unfold f_laws_markIntS at h
  have hl := l_laws_markIntS_1 _ _ _ _ _ h
  try simp only [List.length_set] at hl
  omega
theorem w_laws_markIntS (a0 : List Int) (a1 : Int) (r : Int × List Int) (h : f_laws_markIntS a0 a1 = some r) : FCx Try.prog 30 [.sc (.r 0), .sc (.d (.int .i64 a1))] [(1, List.map rI a0)] [(1, List.map rI r.2)] (.int .i64 r.1) := by
  unfold f_laws_markIntS at h
  refine FCx_go (ps := [(0, 0)]) (σ := ⟨[(0, vc (.own 1099511627776)), (1, vc (aI a1))], [], [(1099511627776, 1, List.map rI a0)]⟩) mixed e_laws_markIntS rfl rfl rfl (flatR_cons flatR_nil) rfl ?_
  simp only [c_laws_markIntS]
  try simp only [Nat.reduceBEq, Nat.reduceMul, Nat.reduceAdd, Nat.reduceDiv, Int.reduceBEq, rules2, rulesX, rowsX]
  refine w_laws_markIntS_1 _ _ _ _ _ h _ ?_
  try simp only [Nat.reduceBEq, Nat.reduceMul, Nat.reduceAdd, Nat.reduceDiv, Int.reduceBEq, rules2, rulesX, rowsX, List.map_nil]
/- 58: laws_markCrew -/
def c_laws_markCrew : ACode := (.seq (.reg [(none, .box 2 (S 0)), (none, .mv 4 (K 0))]) (.seq (.reg [(none, .faddr 5 (S 2) 3), (none, .load 6 (S 5) false 1), (none, .mv 7 (S 1)), (none, .call 8 30 [(S 6), (S 7)]), (none, .mv 1 (S 8))]) (.seq (.reg [(none, .mv 9 (S 1)), (none, .mv 4 (S 9))]) .ret)))
theorem e_laws_markCrew : entry Try.prog 58 = some (c_laws_markCrew.strip, [4], 10) := by kernel_rfl
theorem l_laws_markCrew (a0 : XCrew) (a1 : Int) (r : Int × List Int) (h : f_laws_markCrew a0 a1 = some r) : r.2.length = a0.Moves.length := by
  unfold f_laws_markCrew at h
  obtain ⟨r1, hr1, h⟩ := ob h
  have lrr1 := (l_laws_markIntS _ _ _ hr1)
  cases h
  all_goals (try dsimp only); first | done | omega | (simp only [List.length_set] at *; omega) | simp_all
theorem w_laws_markCrew (a0 : XCrew) (a1 : Int) (r : Int × List Int) (h : f_laws_markCrew a0 a1 = some r) : FCx Try.prog 58 [.ag [.d (.int .i64 a0.Tugs), .d (.int .i64 a0.Pilots), .d (.int .i64 a0.Rest), .r 0], .sc (.d (.int .i64 a1))] [(1, List.map rI a0.Moves)] [(1, List.map rI r.2)] (.int .i64 r.1) := by
  unfold f_laws_markCrew at h
  refine FCx_go (ps := [(0, 3)]) (σ := ⟨[(0, va [aI a0.Tugs, aI a0.Pilots, aI a0.Rest, .own 1099511627776]), (1, vc (aI a1))], [], [(1099511627776, 1, List.map rI a0.Moves)]⟩) mixed e_laws_markCrew rfl rfl rfl (flatR_cons flatR_nil) rfl ?_
  simp only [c_laws_markCrew]
  try simp only [Nat.reduceBEq, Nat.reduceMul, Nat.reduceAdd, Nat.reduceDiv, Int.reduceBEq, rules2, rulesX, rowsX]
  refine go_bx rfl rfl rfl ?_
  obtain ⟨r1, hr1, h⟩ := ob h
  try simp only [Nat.reduceBEq, Nat.reduceMul, Nat.reduceAdd, Nat.reduceDiv, Int.reduceBEq, rules2, rulesX, rowsX]
  have lrr1 := (l_laws_markIntS _ _ _ hr1)
  refine go_callx (ids := [1099511627776]) (w_laws_markIntS _ _ _ hr1) rfl rfl rfl (flatR_cons flatR_nil) (sameLen_cons (l_laws_markIntS _ _ _ hr1) sameLen_nil) ?_
  try simp only [Nat.reduceBEq, Nat.reduceMul, Nat.reduceAdd, Nat.reduceDiv, Int.reduceBEq, rules2, rulesX, rowsX]
  cases h
  exact ⟨⟨rfl, trivial⟩, ⟨⟨⟨_, rfl, rfl⟩, rfl⟩, trivial⟩⟩
/- 39: laws_markHarbour -/
def c_laws_markHarbour : ACode := (.seq (.reg [(none, .box 2 (S 0)), (none, .mv 4 (K 0))]) (.seq (.reg [(none, .faddr 5 (S 2) 0), (none, .load 6 (S 5) true 3), (none, .mv 7 (S 1)), (none, .call 8 55 [(S 6), (S 7)]), (none, .mv 1 (S 8))]) (.seq (.reg [(none, .faddr 9 (S 2) 3), (none, .load 10 (S 9) true 2), (none, .mv 11 (S 1)), (none, .call 12 56 [(S 10), (S 11)]), (none, .mv 1 (S 12))]) (.seq (.reg [(none, .faddr 13 (S 2) 5), (none, .load 14 (S 13) false 1), (none, .mv 15 (S 1)), (none, .call 16 57 [(S 14), (S 15)]), (none, .mv 1 (S 16))]) (.seq (.reg [(none, .faddr 17 (S 2) 8), (none, .load 18 (S 17) true 4), (none, .mv 19 (S 1)), (none, .call 20 58 [(S 18), (S 19)]), (none, .mv 1 (S 20))]) (.seq (.reg [(none, .mv 21 (S 1)), (none, .mv 4 (S 21))]) .ret))))))
theorem e_laws_markHarbour : entry Try.prog 39 = some (c_laws_markHarbour.strip, [4], 22) := by kernel_rfl
theorem l_laws_markHarbour (a0 : XHarbour) (a1 : Int) (r : Int × List XPart × List XSurge × List XPoint × List XSegment × List XShip × List Int) (h : f_laws_markHarbour a0 a1 = some r) : r.2.1.length = a0.Forecast.Tide.Parts.length ∧ r.2.2.1.length = a0.Forecast.Surges.length ∧ r.2.2.2.1.length = a0.Chart.Points.length ∧ r.2.2.2.2.1.length = a0.Chart.Segments.length ∧ r.2.2.2.2.2.1.length = a0.Fleet.length ∧ r.2.2.2.2.2.2.length = a0.Crew.Moves.length := by
  unfold f_laws_markHarbour at h
  obtain ⟨r1, hr1, h⟩ := ob h
  have lrr1 := (l_laws_markForecast _ _ _ hr1)
  obtain ⟨r2, hr2, h⟩ := ob h
  have lrr2 := (l_laws_markChart _ _ _ hr2)
  obtain ⟨r3, hr3, h⟩ := ob h
  have lrr3 := (l_laws_markShipS _ _ _ hr3)
  obtain ⟨r4, hr4, h⟩ := ob h
  have lrr4 := (l_laws_markCrew _ _ _ hr4)
  cases h
  all_goals (try dsimp only); first | done | omega | (simp only [List.length_set] at *; omega) | simp_all
theorem w_laws_markHarbour (a0 : XHarbour) (a1 : Int) (r : Int × List XPart × List XSurge × List XPoint × List XSegment × List XShip × List Int) (h : f_laws_markHarbour a0 a1 = some r) : FCx Try.prog 39 [.ag [.d (.int .i64 a0.Forecast.Tide.Mean), .r 0, .r 1, .r 2, .r 3, .r 4, .d (.int .i64 a0.Regime.Gap), .d (.bool a0.Regime.NoMeet), .d (.int .i64 a0.Crew.Tugs), .d (.int .i64 a0.Crew.Pilots), .d (.int .i64 a0.Crew.Rest), .r 5], .sc (.d (.int .i64 a1))] [(3, List.map XPart.row a0.Forecast.Tide.Parts), (3, List.map XSurge.row a0.Forecast.Surges), (2, List.map XPoint.row a0.Chart.Points), (5, List.map XSegment.row a0.Chart.Segments), (6, List.map XShip.row a0.Fleet), (1, List.map rI a0.Crew.Moves)] [(3, List.map XPart.row r.2.1), (3, List.map XSurge.row r.2.2.1), (2, List.map XPoint.row r.2.2.2.1), (5, List.map XSegment.row r.2.2.2.2.1), (6, List.map XShip.row r.2.2.2.2.2.1), (1, List.map rI r.2.2.2.2.2.2)] (.int .i64 r.1) := by
  unfold f_laws_markHarbour at h
  refine FCx_go (ps := [(0, 1), (0, 2), (0, 3), (0, 4), (0, 5), (0, 11)]) (σ := ⟨[(0, va [aI a0.Forecast.Tide.Mean, .own 1099511627776, .own 1099511627777, .own 1099511627778, .own 1099511627779, .own 1099511627780, aI a0.Regime.Gap, aB a0.Regime.NoMeet, aI a0.Crew.Tugs, aI a0.Crew.Pilots, aI a0.Crew.Rest, .own 1099511627781]), (1, vc (aI a1))], [], [(1099511627776, 3, List.map XPart.row a0.Forecast.Tide.Parts), (1099511627777, 3, List.map XSurge.row a0.Forecast.Surges), (1099511627778, 2, List.map XPoint.row a0.Chart.Points), (1099511627779, 5, List.map XSegment.row a0.Chart.Segments), (1099511627780, 6, List.map XShip.row a0.Fleet), (1099511627781, 1, List.map rI a0.Crew.Moves)]⟩) mixed e_laws_markHarbour rfl rfl rfl (flatR_cons (flatR_cons (flatR_cons (flatR_cons (flatR_cons (flatR_cons flatR_nil)))))) rfl ?_
  simp only [c_laws_markHarbour]
  try simp only [Nat.reduceBEq, Nat.reduceMul, Nat.reduceAdd, Nat.reduceDiv, Int.reduceBEq, rules2, rulesX, rowsX]
  refine go_bx rfl rfl rfl ?_
  obtain ⟨r1, hr1, h⟩ := ob h
  try simp only [Nat.reduceBEq, Nat.reduceMul, Nat.reduceAdd, Nat.reduceDiv, Int.reduceBEq, rules2, rulesX, rowsX]
  have lrr1 := (l_laws_markForecast _ _ _ hr1)
  refine go_callx (ids := [1099511627776, 1099511627777]) (w_laws_markForecast _ _ _ hr1) rfl rfl rfl (flatR_cons (flatR_cons flatR_nil)) (sameLen_cons (l_laws_markForecast _ _ _ hr1).1 (sameLen_cons (l_laws_markForecast _ _ _ hr1).2 sameLen_nil)) ?_
  obtain ⟨r2, hr2, h⟩ := ob h
  try simp only [Nat.reduceBEq, Nat.reduceMul, Nat.reduceAdd, Nat.reduceDiv, Int.reduceBEq, rules2, rulesX, rowsX]
  have lrr2 := (l_laws_markChart _ _ _ hr2)
  refine go_callx (ids := [1099511627778, 1099511627779]) (w_laws_markChart _ _ _ hr2) rfl rfl rfl (flatR_cons (flatR_cons flatR_nil)) (sameLen_cons (l_laws_markChart _ _ _ hr2).1 (sameLen_cons (l_laws_markChart _ _ _ hr2).2 sameLen_nil)) ?_
  obtain ⟨r3, hr3, h⟩ := ob h
  try simp only [Nat.reduceBEq, Nat.reduceMul, Nat.reduceAdd, Nat.reduceDiv, Int.reduceBEq, rules2, rulesX, rowsX]
  have lrr3 := (l_laws_markShipS _ _ _ hr3)
  refine go_callx (ids := [1099511627780]) (w_laws_markShipS _ _ _ hr3) rfl rfl rfl (flatR_cons flatR_nil) (sameLen_cons (l_laws_markShipS _ _ _ hr3) sameLen_nil) ?_
  obtain ⟨r4, hr4, h⟩ := ob h
  try simp only [Nat.reduceBEq, Nat.reduceMul, Nat.reduceAdd, Nat.reduceDiv, Int.reduceBEq, rules2, rulesX, rowsX]
  have lrr4 := (l_laws_markCrew _ _ _ hr4)
  refine go_callx (ids := [1099511627781]) (w_laws_markCrew _ _ _ hr4) rfl rfl rfl (flatR_cons flatR_nil) (sameLen_cons (l_laws_markCrew _ _ _ hr4) sameLen_nil) ?_
  try simp only [Nat.reduceBEq, Nat.reduceMul, Nat.reduceAdd, Nat.reduceDiv, Int.reduceBEq, rules2, rulesX, rowsX]
  cases h
  exact ⟨⟨rfl, trivial⟩, ⟨⟨⟨_, rfl, rfl⟩, rfl⟩, ⟨⟨⟨_, rfl, rfl⟩, rfl⟩, ⟨⟨⟨_, rfl, rfl⟩, rfl⟩, ⟨⟨⟨_, rfl, rfl⟩, rfl⟩, ⟨⟨⟨_, rfl, rfl⟩, rfl⟩, ⟨⟨⟨_, rfl, rfl⟩, rfl⟩, trivial⟩⟩⟩⟩⟩⟩⟩
/- 40: laws_markCallS -/
def c_laws_markCallS_1 : ACode := .seq (.reg [(none, .keep [0, 1, 5] [] [1099511627776])]) (.seq (.seq (.reg [(none, .mv 6 (S 5)), (none, .mv 7 (S 0)), (none, .len 8 (S 7)), (none, .bin 9 .lss (S 6) (S 8))]) (.cond (S 9) .skip (.exit 0))) (.seq (.block 1 (.seq (.reg [(none, .mv 12 (S 0)), (none, .mv 13 (S 5)), (none, .mv 14 (S 1)), (none, .iaddr 15 (S 12) (S 13) 5), (none, .faddr 16 (S 15) 0), (none, .store (S 16) (S 14) 1)]) (.seq (.reg [(none, .mv 17 (S 1)), (none, .bin 18 .add (S 17) (K 1)), (none, .mv 1 (S 18))]) (.seq (.reg [(none, .mv 19 (S 0)), (none, .mv 20 (S 5)), (none, .mv 21 (S 1)), (none, .iaddr 22 (S 19) (S 20) 5), (none, .faddr 23 (S 22) 1), (none, .store (S 23) (S 21) 1)]) (.seq (.reg [(none, .mv 24 (S 1)), (none, .bin 25 .add (S 24) (K 1)), (none, .mv 1 (S 25))]) (.seq (.reg [(none, .mv 26 (S 0)), (none, .mv 27 (S 5)), (none, .mv 28 (S 1)), (none, .iaddr 29 (S 26) (S 27) 5), (none, .faddr 30 (S 29) 2), (none, .store (S 30) (S 28) 1)]) (.seq (.reg [(none, .mv 31 (S 1)), (none, .bin 32 .add (S 31) (K 1)), (none, .mv 1 (S 32))]) (.seq (.reg [(none, .mv 33 (S 0)), (none, .mv 34 (S 5)), (none, .mv 35 (S 1)), (none, .iaddr 36 (S 33) (S 34) 5), (none, .faddr 37 (S 36) 3), (none, .store (S 37) (S 35) 1)]) (.seq (.reg [(none, .mv 38 (S 1)), (none, .bin 39 .add (S 38) (K 1)), (none, .mv 1 (S 39))]) (.seq (.reg [(none, .mv 40 (S 0)), (none, .mv 41 (S 5)), (none, .mv 42 (S 1)), (none, .iaddr 43 (S 40) (S 41) 5), (none, .faddr 44 (S 43) 4), (none, .store (S 44) (S 42) 1)]) (.reg [(none, .mv 45 (S 1)), (none, .bin 46 .add (S 45) (K 1)), (none, .mv 1 (S 46))]))))))))))) (.reg [(none, .mv 10 (S 5)), (none, .bin 11 .add (S 10) (K 1)), (none, .mv 5 (S 11))])))
def c_laws_markCallS_n1 : ACode := (.seq (.reg [(none, .mv 47 (S 1)), (none, .mv 4 (S 47))]) .ret)
def c_laws_markCallS : ACode := (.seq (.reg [(none, .mv 4 (K 0))]) (.seq (.seq (.reg [(none, .mv 5 (K 0))]) (.block 0 (.loop c_laws_markCallS_1))) c_laws_markCallS_n1))
theorem w_laws_markCallS_1 : ∀ (n : Nat) (v1 : Int) (v2 : Int) (v3 : List XCall) (r : Int × List XCall), f_laws_markCallS_1 n v1 v2 v3 = some r → ∀ σ : St, σ.kept [0, 1, 5] [] [1099511627776] = ⟨[(0, vc (.own 1099511627776)), (1, vc (aI v1)), (5, vc (aI v2))], [], [(1099511627776, 5, List.map XCall.row v3)]⟩ → go Try.prog (.code (.loop c_laws_markCallS_1) :: [.blk 0, .code c_laws_markCallS_n1]) (RetX [4] (.int .i64 r.1) [(5, List.map XCall.row r.2)] [(0, 0)]) .normal (some σ) := by
  intro n
  induction n with
  | zero => intro _ _ _ r h; cases h
  | succ n ih =>
    intro v1 v2 v3 r h σ hσ
    rw [f_laws_markCallS_1] at h
    refine go_round ?_
    rcases Bool.eq_false_or_eq_true (decide (v2 < (v3.length : Int))) with hb4 | hb4
    · rw [ite_t hb4] at h
      obtain ⟨x5, hx5, h⟩ := ob h
      have hx5n := ix_get hx5
      try simp only [hσ, hb4, hx5, c_laws_markCallS_1, Nat.reduceBEq, Nat.reduceMul, Nat.reduceAdd, Nat.reduceDiv, Int.reduceBEq, rules2, rulesX, rowsX]
      refine go_stp (y := (⟨v1, x5.From, x5.To, x5.Ready, x5.Due⟩ : XCall)) rfl rfl hx5n rfl rfl rfl ?_
      obtain ⟨x6, hx6, h⟩ := ob h
      have hx6n := ix_get hx6
      try simp only [hb4, hx5, hx6, Nat.reduceBEq, Nat.reduceMul, Nat.reduceAdd, Nat.reduceDiv, Int.reduceBEq, rules2, rulesX, rowsX]
      refine go_stp (y := (⟨x6.Ship, (IntKind.i64.wrap (v1 + (1 : Int))), x6.To, x6.Ready, x6.Due⟩ : XCall)) rfl rfl hx6n rfl rfl rfl ?_
      obtain ⟨x7, hx7, h⟩ := ob h
      have hx7n := ix_get hx7
      try simp only [hb4, hx5, hx6, hx7, Nat.reduceBEq, Nat.reduceMul, Nat.reduceAdd, Nat.reduceDiv, Int.reduceBEq, rules2, rulesX, rowsX]
      refine go_stp (y := (⟨x7.Ship, x7.From, (IntKind.i64.wrap ((IntKind.i64.wrap (v1 + (1 : Int))) + (1 : Int))), x7.Ready, x7.Due⟩ : XCall)) rfl rfl hx7n rfl rfl rfl ?_
      obtain ⟨x8, hx8, h⟩ := ob h
      have hx8n := ix_get hx8
      try simp only [hb4, hx5, hx6, hx7, hx8, Nat.reduceBEq, Nat.reduceMul, Nat.reduceAdd, Nat.reduceDiv, Int.reduceBEq, rules2, rulesX, rowsX]
      refine go_stp (y := (⟨x8.Ship, x8.From, x8.To, (IntKind.i64.wrap ((IntKind.i64.wrap ((IntKind.i64.wrap (v1 + (1 : Int))) + (1 : Int))) + (1 : Int))), x8.Due⟩ : XCall)) rfl rfl hx8n rfl rfl rfl ?_
      obtain ⟨x9, hx9, h⟩ := ob h
      have hx9n := ix_get hx9
      try simp only [hb4, hx5, hx6, hx7, hx8, hx9, Nat.reduceBEq, Nat.reduceMul, Nat.reduceAdd, Nat.reduceDiv, Int.reduceBEq, rules2, rulesX, rowsX]
      refine go_stp (y := (⟨x9.Ship, x9.From, x9.To, x9.Ready, (IntKind.i64.wrap ((IntKind.i64.wrap ((IntKind.i64.wrap ((IntKind.i64.wrap (v1 + (1 : Int))) + (1 : Int))) + (1 : Int))) + (1 : Int)))⟩ : XCall)) rfl rfl hx9n rfl rfl rfl ?_
      try simp only [hb4, hx5, hx6, hx7, hx8, hx9, Nat.reduceBEq, Nat.reduceMul, Nat.reduceAdd, Nat.reduceDiv, Int.reduceBEq, rules2, rulesX, rowsX]
      refine ih _ _ _ _ h _ ?_
      try simp only [hb4, hx5, hx6, hx7, hx8, hx9, Nat.reduceBEq, Nat.reduceMul, Nat.reduceAdd, Nat.reduceDiv, Int.reduceBEq, rules2, rulesX, rowsX, List.map_nil]
    · rw [ite_f hb4] at h
      try simp only [hσ, hb4, c_laws_markCallS_1, c_laws_markCallS_n1, Nat.reduceBEq, Nat.reduceMul, Nat.reduceAdd, Nat.reduceDiv, Int.reduceBEq, rules2, rulesX, rowsX]
      cases h
      exact ⟨⟨rfl, trivial⟩, ⟨⟨⟨_, rfl, rfl⟩, rfl⟩, trivial⟩⟩
theorem e_laws_markCallS : entry Try.prog 40 = some (c_laws_markCallS.strip, [4], 48) := by kernel_rfl
theorem l_laws_markCallS_1 : ∀ (n : Nat) (v1 : Int) (v2 : Int) (v3 : List XCall) (r : Int × List XCall), f_laws_markCallS_1 n v1 v2 v3 = some r → r.2.length = v3.length := by
  intro n
  induction n with
  | zero => intro _ _ _ r h; cases h
  | succ n ih =>
    intro v1 v2 v3 r h
    rw [f_laws_markCallS_1] at h
    rcases Bool.eq_false_or_eq_true (decide (v2 < (v3.length : Int))) with hb4 | hb4
    · rw [ite_t hb4] at h
      obtain ⟨x5, hx5, h⟩ := ob h
      obtain ⟨x6, hx6, h⟩ := ob h
      obtain ⟨x7, hx7, h⟩ := ob h
      obtain ⟨x8, hx8, h⟩ := ob h
      obtain ⟨x9, hx9, h⟩ := ob h
      have hl := ih _ _ _ _ h
      try simp only [List.length_set] at hl
      omega
    · rw [ite_f hb4] at h
      cases h
      all_goals (try dsimp only); first | done | omega | (simp only [List.length_set] at *; omega) | simp_all
theorem l_laws_markCallS (a0 : List XCall) (a1 : Int) (r : Int × List XCall) (h : f_laws_markCallS a0 a1 = some r) : r.2.length = a0.length := by
  unfold f_laws_markCallS at h
  have hl := l_laws_markCallS_1 _ _ _ _ _ h
  try simp only [List.length_set] at hl
  omega
theorem w_laws_markCallS (a0 : List XCall) (a1 : Int) (r : Int × List XCall) (h : f_laws_markCallS a0 a1 = some r) : FCx Try.prog 40 [.sc (.r 0), .sc (.d (.int .i64 a1))] [(5, List.map XCall.row a0)] [(5, List.map XCall.row r.2)] (.int .i64 r.1) := by
  unfold f_laws_markCallS at h
  refine FCx_go (ps := [(0, 0)]) (σ := ⟨[(0, vc (.own 1099511627776)), (1, vc (aI a1))], [], [(1099511627776, 5, List.map XCall.row a0)]⟩) mixed e_laws_markCallS rfl rfl rfl (flatR_cons flatR_nil) rfl ?_
  simp only [c_laws_markCallS]
  try simp only [Nat.reduceBEq, Nat.reduceMul, Nat.reduceAdd, Nat.reduceDiv, Int.reduceBEq, rules2, rulesX, rowsX]
  refine w_laws_markCallS_1 _ _ _ _ _ h _ ?_
  try simp only [Nat.reduceBEq, Nat.reduceMul, Nat.reduceAdd, Nat.reduceDiv, Int.reduceBEq, rules2, rulesX, rowsX, List.map_nil]
/- 31: laws_markBoolS -/
def c_laws_markBoolS_1 : ACode := .seq (.reg [(none, .keep [0, 1, 5] [] [1099511627776])]) (.seq (.seq (.reg [(none, .mv 6 (S 5)), (none, .mv 7 (S 0)), (none, .len 8 (S 7)), (none, .bin 9 .lss (S 6) (S 8))]) (.cond (S 9) .skip (.exit 0))) (.seq (.block 1 (.seq (.reg [(none, .mv 12 (S 0)), (none, .mv 13 (S 5)), (none, .mv 14 (S 1)), (none, .bin 15 .rem (S 14) (K 3)), (none, .bin 16 .eql (S 15) (K 0)), (none, .iaddr 17 (S 12) (S 13) 1), (none, .store (S 17) (S 16) 1)]) (.reg [(none, .mv 18 (S 1)), (none, .bin 19 .add (S 18) (K 1)), (none, .mv 1 (S 19))]))) (.reg [(none, .mv 10 (S 5)), (none, .bin 11 .add (S 10) (K 1)), (none, .mv 5 (S 11))])))
def c_laws_markBoolS_n1 : ACode := (.seq (.reg [(none, .mv 20 (S 1)), (none, .mv 4 (S 20))]) .ret)
def c_laws_markBoolS : ACode := (.seq (.reg [(none, .mv 4 (K 0))]) (.seq (.seq (.reg [(none, .mv 5 (K 0))]) (.block 0 (.loop c_laws_markBoolS_1))) c_laws_markBoolS_n1))
theorem w_laws_markBoolS_1 : ∀ (n : Nat) (v1 : Int) (v2 : Int) (v3 : List Bool) (r : Int × List Bool), f_laws_markBoolS_1 n v1 v2 v3 = some r → ∀ σ : St, σ.kept [0, 1, 5] [] [1099511627776] = ⟨[(0, vc (.own 1099511627776)), (1, vc (aI v1)), (5, vc (aI v2))], [], [(1099511627776, 1, List.map rB v3)]⟩ → go Try.prog (.code (.loop c_laws_markBoolS_1) :: [.blk 0, .code c_laws_markBoolS_n1]) (RetX [4] (.int .i64 r.1) [(1, List.map rB r.2)] [(0, 0)]) .normal (some σ) := by
  intro n
  induction n with
  | zero => intro _ _ _ r h; cases h
  | succ n ih =>
    intro v1 v2 v3 r h σ hσ
    rw [f_laws_markBoolS_1] at h
    refine go_round ?_
    rcases Bool.eq_false_or_eq_true (decide (v2 < (v3.length : Int))) with hb4 | hb4
    · rw [ite_t hb4] at h
      obtain ⟨x5, hx5, h⟩ := ob h
      have hx5n := ix_get hx5
      try simp only [hσ, hb4, hx5, c_laws_markBoolS_1, Nat.reduceBEq, Nat.reduceMul, Nat.reduceAdd, Nat.reduceDiv, Int.reduceBEq, rules2, rulesX, rowsX]
      refine go_stp (y := ((IntKind.i64.wrap (Int.tmod v1 (3 : Int))) == (0 : Int))) rfl rfl hx5n rfl rfl rfl ?_
      try simp only [hb4, hx5, Nat.reduceBEq, Nat.reduceMul, Nat.reduceAdd, Nat.reduceDiv, Int.reduceBEq, rules2, rulesX, rowsX]
      refine ih _ _ _ _ h _ ?_
      try simp only [hb4, hx5, Nat.reduceBEq, Nat.reduceMul, Nat.reduceAdd, Nat.reduceDiv, Int.reduceBEq, rules2, rulesX, rowsX, List.map_nil]
    · rw [ite_f hb4] at h
      try simp only [hσ, hb4, c_laws_markBoolS_1, c_laws_markBoolS_n1, Nat.reduceBEq, Nat.reduceMul, Nat.reduceAdd, Nat.reduceDiv, Int.reduceBEq, rules2, rulesX, rowsX]
      cases h
      exact ⟨⟨rfl, trivial⟩, ⟨⟨⟨_, rfl, rfl⟩, rfl⟩, trivial⟩⟩
theorem e_laws_markBoolS : entry Try.prog 31 = some (c_laws_markBoolS.strip, [4], 21) := by kernel_rfl
theorem l_laws_markBoolS_1 : ∀ (n : Nat) (v1 : Int) (v2 : Int) (v3 : List Bool) (r : Int × List Bool), f_laws_markBoolS_1 n v1 v2 v3 = some r → r.2.length = v3.length := by
  intro n
  induction n with
  | zero => intro _ _ _ r h; cases h
  | succ n ih =>
    intro v1 v2 v3 r h
    rw [f_laws_markBoolS_1] at h
    rcases Bool.eq_false_or_eq_true (decide (v2 < (v3.length : Int))) with hb4 | hb4
    · rw [ite_t hb4] at h
      obtain ⟨x5, hx5, h⟩ := ob h
      have hl := ih _ _ _ _ h
      try simp only [List.length_set] at hl
      omega
    · rw [ite_f hb4] at h
      cases h
      all_goals (try dsimp only); first | done | omega | (simp only [List.length_set] at *; omega) | simp_all
theorem l_laws_markBoolS (a0 : List Bool) (a1 : Int) (r : Int × List Bool) (h : f_laws_markBoolS a0 a1 = some r) : r.2.length = a0.length := by
  unfold f_laws_markBoolS at h
  have hl := l_laws_markBoolS_1 _ _ _ _ _ h
  try simp only [List.length_set] at hl
  omega
theorem w_laws_markBoolS (a0 : List Bool) (a1 : Int) (r : Int × List Bool) (h : f_laws_markBoolS a0 a1 = some r) : FCx Try.prog 31 [.sc (.r 0), .sc (.d (.int .i64 a1))] [(1, List.map rB a0)] [(1, List.map rB r.2)] (.int .i64 r.1) := by
  unfold f_laws_markBoolS at h
  refine FCx_go (ps := [(0, 0)]) (σ := ⟨[(0, vc (.own 1099511627776)), (1, vc (aI a1))], [], [(1099511627776, 1, List.map rB a0)]⟩) mixed e_laws_markBoolS rfl rfl rfl (flatR_cons flatR_nil) rfl ?_
  simp only [c_laws_markBoolS]
  try simp only [Nat.reduceBEq, Nat.reduceMul, Nat.reduceAdd, Nat.reduceDiv, Int.reduceBEq, rules2, rulesX, rowsX]
  refine w_laws_markBoolS_1 _ _ _ _ _ h _ ?_
  try simp only [Nat.reduceBEq, Nat.reduceMul, Nat.reduceAdd, Nat.reduceDiv, Int.reduceBEq, rules2, rulesX, rowsX, List.map_nil]
/- 11: laws_markDesk -/
def c_laws_markDesk : ACode := (.seq (.reg [(none, .box 2 (S 0)), (none, .mv 4 (K 0))]) (.seq (.reg [(none, .faddr 5 (S 2) 1), (none, .load 6 (S 5) false 1), (none, .mv 7 (S 1)), (none, .call 8 30 [(S 6), (S 7)]), (none, .mv 1 (S 8))]) (.seq (.reg [(none, .faddr 9 (S 2) 2), (none, .load 10 (S 9) false 1), (none, .mv 11 (S 1)), (none, .call 12 31 [(S 10), (S 11)]), (none, .mv 1 (S 12))]) (.seq (.reg [(none, .mv 13 (S 1)), (none, .mv 4 (S 13))]) .ret))))
theorem e_laws_markDesk : entry Try.prog 11 = some (c_laws_markDesk.strip, [4], 14) := by kernel_rfl
theorem l_laws_markDesk (a0 : XDesk) (a1 : Int) (r : Int × List Int × List Bool) (h : f_laws_markDesk a0 a1 = some r) : r.2.1.length = a0.Starts.length ∧ r.2.2.length = a0.Cleared.length := by
  unfold f_laws_markDesk at h
  obtain ⟨r1, hr1, h⟩ := ob h
  have lrr1 := (l_laws_markIntS _ _ _ hr1)
  obtain ⟨r2, hr2, h⟩ := ob h
  have lrr2 := (l_laws_markBoolS _ _ _ hr2)
  cases h
  all_goals (try dsimp only); first | done | omega | (simp only [List.length_set] at *; omega) | simp_all
theorem w_laws_markDesk (a0 : XDesk) (a1 : Int) (r : Int × List Int × List Bool) (h : f_laws_markDesk a0 a1 = some r) : FCx Try.prog 11 [.ag [.d (.int .i64 a0.Now), .r 0, .r 1], .sc (.d (.int .i64 a1))] [(1, List.map rI a0.Starts), (1, List.map rB a0.Cleared)] [(1, List.map rI r.2.1), (1, List.map rB r.2.2)] (.int .i64 r.1) := by
  unfold f_laws_markDesk at h
  refine FCx_go (ps := [(0, 1), (0, 2)]) (σ := ⟨[(0, va [aI a0.Now, .own 1099511627776, .own 1099511627777]), (1, vc (aI a1))], [], [(1099511627776, 1, List.map rI a0.Starts), (1099511627777, 1, List.map rB a0.Cleared)]⟩) mixed e_laws_markDesk rfl rfl rfl (flatR_cons (flatR_cons flatR_nil)) rfl ?_
  simp only [c_laws_markDesk]
  try simp only [Nat.reduceBEq, Nat.reduceMul, Nat.reduceAdd, Nat.reduceDiv, Int.reduceBEq, rules2, rulesX, rowsX]
  refine go_bx rfl rfl rfl ?_
  obtain ⟨r1, hr1, h⟩ := ob h
  try simp only [Nat.reduceBEq, Nat.reduceMul, Nat.reduceAdd, Nat.reduceDiv, Int.reduceBEq, rules2, rulesX, rowsX]
  have lrr1 := (l_laws_markIntS _ _ _ hr1)
  refine go_callx (ids := [1099511627776]) (w_laws_markIntS _ _ _ hr1) rfl rfl rfl (flatR_cons flatR_nil) (sameLen_cons (l_laws_markIntS _ _ _ hr1) sameLen_nil) ?_
  obtain ⟨r2, hr2, h⟩ := ob h
  try simp only [Nat.reduceBEq, Nat.reduceMul, Nat.reduceAdd, Nat.reduceDiv, Int.reduceBEq, rules2, rulesX, rowsX]
  have lrr2 := (l_laws_markBoolS _ _ _ hr2)
  refine go_callx (ids := [1099511627777]) (w_laws_markBoolS _ _ _ hr2) rfl rfl rfl (flatR_cons flatR_nil) (sameLen_cons (l_laws_markBoolS _ _ _ hr2) sameLen_nil) ?_
  try simp only [Nat.reduceBEq, Nat.reduceMul, Nat.reduceAdd, Nat.reduceDiv, Int.reduceBEq, rules2, rulesX, rowsX]
  cases h
  exact ⟨⟨rfl, trivial⟩, ⟨⟨⟨_, rfl, rfl⟩, rfl⟩, ⟨⟨⟨_, rfl, rfl⟩, rfl⟩, trivial⟩⟩⟩
/- 16: laws_markConsole -/
def c_laws_markConsole : ACode := (.seq (.reg [(none, .box 2 (S 0)), (none, .mv 4 (K 0))]) (.seq (.reg [(none, .faddr 5 (S 2) 0), (none, .load 6 (S 5) true 12), (none, .mv 7 (S 1)), (none, .call 8 39 [(S 6), (S 7)]), (none, .mv 1 (S 8))]) (.seq (.reg [(none, .faddr 9 (S 2) 12), (none, .load 10 (S 9) false 1), (none, .mv 11 (S 1)), (none, .call 12 40 [(S 10), (S 11)]), (none, .mv 1 (S 12))]) (.seq (.reg [(none, .faddr 13 (S 2) 13), (none, .load 14 (S 13) true 3), (none, .mv 15 (S 1)), (none, .call 16 11 [(S 14), (S 15)]), (none, .mv 1 (S 16))]) (.seq (.reg [(none, .mv 17 (S 1)), (none, .mv 4 (S 17))]) .ret)))))
theorem e_laws_markConsole : entry Try.prog 16 = some (c_laws_markConsole.strip, [4], 18) := by kernel_rfl
theorem l_laws_markConsole (a0 : XConsole) (a1 : Int) (r : Int × List XPart × List XSurge × List XPoint × List XSegment × List XShip × List Int × List XCall × List Int × List Bool) (h : f_laws_markConsole a0 a1 = some r) : r.2.1.length = a0.Harbour.Forecast.Tide.Parts.length ∧ r.2.2.1.length = a0.Harbour.Forecast.Surges.length ∧ r.2.2.2.1.length = a0.Harbour.Chart.Points.length ∧ r.2.2.2.2.1.length = a0.Harbour.Chart.Segments.length ∧ r.2.2.2.2.2.1.length = a0.Harbour.Fleet.length ∧ r.2.2.2.2.2.2.1.length = a0.Harbour.Crew.Moves.length ∧ r.2.2.2.2.2.2.2.1.length = a0.Calls.length ∧ r.2.2.2.2.2.2.2.2.1.length = a0.Desk.Starts.length ∧ r.2.2.2.2.2.2.2.2.2.length = a0.Desk.Cleared.length := by
  unfold f_laws_markConsole at h
  obtain ⟨r1, hr1, h⟩ := ob h
  have lrr1 := (l_laws_markHarbour _ _ _ hr1)
  obtain ⟨r2, hr2, h⟩ := ob h
  have lrr2 := (l_laws_markCallS _ _ _ hr2)
  obtain ⟨r3, hr3, h⟩ := ob h
  have lrr3 := (l_laws_markDesk _ _ _ hr3)
  cases h
  all_goals (try dsimp only); first | done | omega | (simp only [List.length_set] at *; omega) | simp_all
theorem w_laws_markConsole (a0 : XConsole) (a1 : Int) (r : Int × List XPart × List XSurge × List XPoint × List XSegment × List XShip × List Int × List XCall × List Int × List Bool) (h : f_laws_markConsole a0 a1 = some r) : FCx Try.prog 16 [.ag [.d (.int .i64 a0.Harbour.Forecast.Tide.Mean), .r 0, .r 1, .r 2, .r 3, .r 4, .d (.int .i64 a0.Harbour.Regime.Gap), .d (.bool a0.Harbour.Regime.NoMeet), .d (.int .i64 a0.Harbour.Crew.Tugs), .d (.int .i64 a0.Harbour.Crew.Pilots), .d (.int .i64 a0.Harbour.Crew.Rest), .r 5, .r 6, .d (.int .i64 a0.Desk.Now), .r 7, .r 8], .sc (.d (.int .i64 a1))] [(3, List.map XPart.row a0.Harbour.Forecast.Tide.Parts), (3, List.map XSurge.row a0.Harbour.Forecast.Surges), (2, List.map XPoint.row a0.Harbour.Chart.Points), (5, List.map XSegment.row a0.Harbour.Chart.Segments), (6, List.map XShip.row a0.Harbour.Fleet), (1, List.map rI a0.Harbour.Crew.Moves), (5, List.map XCall.row a0.Calls), (1, List.map rI a0.Desk.Starts), (1, List.map rB a0.Desk.Cleared)] [(3, List.map XPart.row r.2.1), (3, List.map XSurge.row r.2.2.1), (2, List.map XPoint.row r.2.2.2.1), (5, List.map XSegment.row r.2.2.2.2.1), (6, List.map XShip.row r.2.2.2.2.2.1), (1, List.map rI r.2.2.2.2.2.2.1), (5, List.map XCall.row r.2.2.2.2.2.2.2.1), (1, List.map rI r.2.2.2.2.2.2.2.2.1), (1, List.map rB r.2.2.2.2.2.2.2.2.2)] (.int .i64 r.1) := by
  unfold f_laws_markConsole at h
  refine FCx_go (ps := [(0, 1), (0, 2), (0, 3), (0, 4), (0, 5), (0, 11), (0, 12), (0, 14), (0, 15)]) (σ := ⟨[(0, va [aI a0.Harbour.Forecast.Tide.Mean, .own 1099511627776, .own 1099511627777, .own 1099511627778, .own 1099511627779, .own 1099511627780, aI a0.Harbour.Regime.Gap, aB a0.Harbour.Regime.NoMeet, aI a0.Harbour.Crew.Tugs, aI a0.Harbour.Crew.Pilots, aI a0.Harbour.Crew.Rest, .own 1099511627781, .own 1099511627782, aI a0.Desk.Now, .own 1099511627783, .own 1099511627784]), (1, vc (aI a1))], [], [(1099511627776, 3, List.map XPart.row a0.Harbour.Forecast.Tide.Parts), (1099511627777, 3, List.map XSurge.row a0.Harbour.Forecast.Surges), (1099511627778, 2, List.map XPoint.row a0.Harbour.Chart.Points), (1099511627779, 5, List.map XSegment.row a0.Harbour.Chart.Segments), (1099511627780, 6, List.map XShip.row a0.Harbour.Fleet), (1099511627781, 1, List.map rI a0.Harbour.Crew.Moves), (1099511627782, 5, List.map XCall.row a0.Calls), (1099511627783, 1, List.map rI a0.Desk.Starts), (1099511627784, 1, List.map rB a0.Desk.Cleared)]⟩) mixed e_laws_markConsole rfl rfl rfl (flatR_cons (flatR_cons (flatR_cons (flatR_cons (flatR_cons (flatR_cons (flatR_cons (flatR_cons (flatR_cons flatR_nil))))))))) rfl ?_
  simp only [c_laws_markConsole]
  try simp only [Nat.reduceBEq, Nat.reduceMul, Nat.reduceAdd, Nat.reduceDiv, Int.reduceBEq, rules2, rulesX, rowsX]
  refine go_bx rfl rfl rfl ?_
  obtain ⟨r1, hr1, h⟩ := ob h
  try simp only [Nat.reduceBEq, Nat.reduceMul, Nat.reduceAdd, Nat.reduceDiv, Int.reduceBEq, rules2, rulesX, rowsX]
  have lrr1 := (l_laws_markHarbour _ _ _ hr1)
  refine go_callx (ids := [1099511627776, 1099511627777, 1099511627778, 1099511627779, 1099511627780, 1099511627781]) (w_laws_markHarbour _ _ _ hr1) rfl rfl rfl (flatR_cons (flatR_cons (flatR_cons (flatR_cons (flatR_cons (flatR_cons flatR_nil)))))) (sameLen_cons (l_laws_markHarbour _ _ _ hr1).1 (sameLen_cons (l_laws_markHarbour _ _ _ hr1).2.1 (sameLen_cons (l_laws_markHarbour _ _ _ hr1).2.2.1 (sameLen_cons (l_laws_markHarbour _ _ _ hr1).2.2.2.1 (sameLen_cons (l_laws_markHarbour _ _ _ hr1).2.2.2.2.1 (sameLen_cons (l_laws_markHarbour _ _ _ hr1).2.2.2.2.2 sameLen_nil)))))) ?_
  obtain ⟨r2, hr2, h⟩ := ob h
  try simp only [Nat.reduceBEq, Nat.reduceMul, Nat.reduceAdd, Nat.reduceDiv, Int.reduceBEq, rules2, rulesX, rowsX]
  have lrr2 := (l_laws_markCallS _ _ _ hr2)
  refine go_callx (ids := [1099511627782]) (w_laws_markCallS _ _ _ hr2) rfl rfl rfl (flatR_cons flatR_nil) (sameLen_cons (l_laws_markCallS _ _ _ hr2) sameLen_nil) ?_
  obtain ⟨r3, hr3, h⟩ := ob h
  try simp only [Nat.reduceBEq, Nat.reduceMul, Nat.reduceAdd, Nat.reduceDiv, Int.reduceBEq, rules2, rulesX, rowsX]
  have lrr3 := (l_laws_markDesk _ _ _ hr3)
  refine go_callx (ids := [1099511627783, 1099511627784]) (w_laws_markDesk _ _ _ hr3) rfl rfl rfl (flatR_cons (flatR_cons flatR_nil)) (sameLen_cons (l_laws_markDesk _ _ _ hr3).1 (sameLen_cons (l_laws_markDesk _ _ _ hr3).2 sameLen_nil)) ?_
  try simp only [Nat.reduceBEq, Nat.reduceMul, Nat.reduceAdd, Nat.reduceDiv, Int.reduceBEq, rules2, rulesX, rowsX]
  cases h
  exact ⟨⟨rfl, trivial⟩, ⟨⟨⟨_, rfl, rfl⟩, rfl⟩, ⟨⟨⟨_, rfl, rfl⟩, rfl⟩, ⟨⟨⟨_, rfl, rfl⟩, rfl⟩, ⟨⟨⟨_, rfl, rfl⟩, rfl⟩, ⟨⟨⟨_, rfl, rfl⟩, rfl⟩, ⟨⟨⟨_, rfl, rfl⟩, rfl⟩, ⟨⟨⟨_, rfl, rfl⟩, rfl⟩, ⟨⟨⟨_, rfl, rfl⟩, rfl⟩, ⟨⟨⟨_, rfl, rfl⟩, rfl⟩, trivial⟩⟩⟩⟩⟩⟩⟩⟩⟩⟩
/- 82: laws_heldPartS -/
def c_laws_heldPartS_1 : ACode := .seq (.reg [(none, .keep [0, 1, 5] [] [])]) (.seq (.seq (.reg [(none, .mv 6 (S 5)), (none, .mv 7 (S 0)), (none, .len 8 (S 7)), (none, .bin 9 .lss (S 6) (S 8))]) (.cond (S 9) .skip (.exit 0))) (.seq (.block 1 (.seq (.seq (.reg [(none, .mv 12 (S 0)), (none, .mv 13 (S 5)), (none, .iaddr 14 (S 12) (S 13) 3), (none, .faddr 15 (S 14) 0), (none, .load 16 (S 15) false 1), (none, .mv 17 (S 1)), (none, .bin 18 .neq (S 16) (S 17))]) (.cond (S 18) (.seq (.reg [(none, .mv 4 (K (-1)))]) .ret) .skip)) (.seq (.reg [(none, .mv 19 (S 1)), (none, .bin 20 .add (S 19) (K 1)), (none, .mv 1 (S 20))]) (.seq (.seq (.reg [(none, .mv 21 (S 0)), (none, .mv 22 (S 5)), (none, .iaddr 23 (S 21) (S 22) 3), (none, .faddr 24 (S 23) 1), (none, .load 25 (S 24) false 1), (none, .mv 26 (S 1)), (none, .bin 27 .neq (S 25) (S 26))]) (.cond (S 27) (.seq (.reg [(none, .mv 4 (K (-1)))]) .ret) .skip)) (.seq (.reg [(none, .mv 28 (S 1)), (none, .bin 29 .add (S 28) (K 1)), (none, .mv 1 (S 29))]) (.seq (.seq (.reg [(none, .mv 30 (S 0)), (none, .mv 31 (S 5)), (none, .iaddr 32 (S 30) (S 31) 3), (none, .faddr 33 (S 32) 2), (none, .load 34 (S 33) false 1), (none, .mv 35 (S 1)), (none, .bin 36 .neq (S 34) (S 35))]) (.cond (S 36) (.seq (.reg [(none, .mv 4 (K (-1)))]) .ret) .skip)) (.reg [(none, .mv 37 (S 1)), (none, .bin 38 .add (S 37) (K 1)), (none, .mv 1 (S 38))]))))))) (.reg [(none, .mv 10 (S 5)), (none, .bin 11 .add (S 10) (K 1)), (none, .mv 5 (S 11))])))
def c_laws_heldPartS_n1 : ACode := (.seq (.reg [(none, .mv 39 (S 1)), (none, .mv 4 (S 39))]) .ret)
def c_laws_heldPartS : ACode := (.seq (.reg [(none, .mv 4 (K 0))]) (.seq (.seq (.reg [(none, .mv 5 (K 0))]) (.block 0 (.loop c_laws_heldPartS_1))) c_laws_heldPartS_n1))
theorem w_laws_heldPartS_1 (a0 : List XPart) : ∀ (n : Nat) (v1 : Int) (v2 : Int) (r : Int), f_laws_heldPartS_1 a0 n v1 v2 = some r → ∀ σ : St, σ.kept [0, 1, 5] [] [] = ⟨[(0, vc (aL (List.map XPart.row a0))), (1, vc (aI v1)), (5, vc (aI v2))], [], []⟩ → go Try.prog (.code (.loop c_laws_heldPartS_1) :: [.blk 0, .code c_laws_heldPartS_n1]) (Ret [4] [.sc (.v (.int .i64 r))]) .normal (some σ) := by
  intro n
  induction n with
  | zero => intro _ _ r h; cases h
  | succ n ih =>
    intro v1 v2 r h σ hσ
    rw [f_laws_heldPartS_1] at h
    refine go_round ?_
    rcases Bool.eq_false_or_eq_true (decide (v2 < (a0.length : Int))) with hb3 | hb3
    · rw [ite_t hb3] at h
      obtain ⟨x4, hx4, h⟩ := ob h
      rcases Bool.eq_false_or_eq_true (x4.Amp != v1) with hb5 | hb5
      · rw [ite_t hb5] at h
        try simp only [hσ, hb3, hx4, hb5, c_laws_heldPartS_1, Nat.reduceBEq, Nat.reduceMul, Nat.reduceAdd, Nat.reduceDiv, Int.reduceBEq, rules2, rulesX, rowsX]
        cases h
        exact ⟨⟨rfl, trivial⟩, rfl⟩
      · rw [ite_f hb5] at h
        rcases Bool.eq_false_or_eq_true (x4.Period != (IntKind.i64.wrap (v1 + (1 : Int)))) with hb6 | hb6
        · rw [ite_t hb6] at h
          try simp only [hσ, hb3, hx4, hb5, hb6, c_laws_heldPartS_1, Nat.reduceBEq, Nat.reduceMul, Nat.reduceAdd, Nat.reduceDiv, Int.reduceBEq, rules2, rulesX, rowsX]
          cases h
          exact ⟨⟨rfl, trivial⟩, rfl⟩
        · rw [ite_f hb6] at h
          rcases Bool.eq_false_or_eq_true (x4.Phase != (IntKind.i64.wrap ((IntKind.i64.wrap (v1 + (1 : Int))) + (1 : Int)))) with hb7 | hb7
          · rw [ite_t hb7] at h
            try simp only [hσ, hb3, hx4, hb5, hb6, hb7, c_laws_heldPartS_1, Nat.reduceBEq, Nat.reduceMul, Nat.reduceAdd, Nat.reduceDiv, Int.reduceBEq, rules2, rulesX, rowsX]
            cases h
            exact ⟨⟨rfl, trivial⟩, rfl⟩
          · rw [ite_f hb7] at h
            try simp only [hσ, hb3, hx4, hb5, hb6, hb7, c_laws_heldPartS_1, Nat.reduceBEq, Nat.reduceMul, Nat.reduceAdd, Nat.reduceDiv, Int.reduceBEq, rules2, rulesX, rowsX]
            refine ih _ _ _ h _ ?_
            try simp only [hb3, hx4, hb5, hb6, hb7, Nat.reduceBEq, Nat.reduceMul, Nat.reduceAdd, Nat.reduceDiv, Int.reduceBEq, rules2, rulesX, rowsX, List.map_nil]
    · rw [ite_f hb3] at h
      try simp only [hσ, hb3, c_laws_heldPartS_1, c_laws_heldPartS_n1, Nat.reduceBEq, Nat.reduceMul, Nat.reduceAdd, Nat.reduceDiv, Int.reduceBEq, rules2, rulesX, rowsX]
      cases h
      exact ⟨⟨rfl, trivial⟩, rfl⟩
theorem e_laws_heldPartS : entry Try.prog 82 = some (c_laws_heldPartS.strip, [4], 40) := by kernel_rfl
theorem w_laws_heldPartS (a0 : List XPart) (a1 : Int) (r : Int) (h : f_laws_heldPartS a0 a1 = some r) : FC Try.prog 82 [.sc (.sl (List.map XPart.row a0)), .sc (.int .i64 a1)] [.sc (.v (.int .i64 r))] := by
  unfold f_laws_heldPartS at h
  refine FC_go (σ := ⟨[(0, vc (aL (List.map XPart.row a0))), (1, vc (aI a1))], [], []⟩) mixed e_laws_heldPartS rfl rfl ?_
  simp only [c_laws_heldPartS]
  try simp only [Nat.reduceBEq, Nat.reduceMul, Nat.reduceAdd, Nat.reduceDiv, Int.reduceBEq, rules2, rulesX, rowsX]
  refine w_laws_heldPartS_1 _ _ _ _ _ h _ ?_
  try simp only [Nat.reduceBEq, Nat.reduceMul, Nat.reduceAdd, Nat.reduceDiv, Int.reduceBEq, rules2, rulesX, rowsX, List.map_nil]
/- 73: laws_heldTide -/
def c_laws_heldTide : ACode := (.seq (.reg [(none, .box 2 (S 0)), (none, .mv 4 (K 0))]) (.seq (.reg [(none, .faddr 5 (S 2) 1), (none, .load 6 (S 5) false 1), (none, .mv 7 (S 1)), (none, .call 8 82 [(S 6), (S 7)]), (none, .mv 1 (S 8))]) (.seq (.seq (.reg [(none, .mv 9 (S 1)), (none, .bin 10 .lss (S 9) (K 0))]) (.cond (S 10) (.seq (.reg [(none, .mv 4 (K (-1)))]) .ret) .skip)) (.seq (.reg [(none, .mv 11 (S 1)), (none, .mv 4 (S 11))]) .ret))))
theorem e_laws_heldTide : entry Try.prog 73 = some (c_laws_heldTide.strip, [4], 12) := by kernel_rfl
theorem w_laws_heldTide (a0 : XTide) (a1 : Int) (r : Int) (h : f_laws_heldTide a0 a1 = some r) : FC Try.prog 73 [.ag (XTide.row a0), .sc (.int .i64 a1)] [.sc (.v (.int .i64 r))] := by
  unfold f_laws_heldTide at h
  refine FC_go (σ := ⟨[(0, va [aI a0.Mean, aL (List.map XPart.row a0.Parts)]), (1, vc (aI a1))], [], []⟩) mixed e_laws_heldTide rfl rfl ?_
  simp only [c_laws_heldTide]
  try simp only [Nat.reduceBEq, Nat.reduceMul, Nat.reduceAdd, Nat.reduceDiv, Int.reduceBEq, rules2, rulesX, rowsX]
  refine go_bx rfl rfl rfl ?_
  obtain ⟨r1, hr1, h⟩ := ob h
  try simp only [Nat.reduceBEq, Nat.reduceMul, Nat.reduceAdd, Nat.reduceDiv, Int.reduceBEq, rules2, rulesX, rowsX]
  refine go_callI (w_laws_heldPartS _ _ _ hr1) rfl rfl (Nat.le_of_ble_eq_true rfl) ?_
  rcases Bool.eq_false_or_eq_true (decide (r1 < (0 : Int))) with hb2 | hb2
  · rw [ite_t hb2] at h
    try simp only [hb2, Nat.reduceBEq, Nat.reduceMul, Nat.reduceAdd, Nat.reduceDiv, Int.reduceBEq, rules2, rulesX, rowsX]
    cases h
    exact ⟨⟨rfl, trivial⟩, rfl⟩
  · rw [ite_f hb2] at h
    try simp only [hb2, Nat.reduceBEq, Nat.reduceMul, Nat.reduceAdd, Nat.reduceDiv, Int.reduceBEq, rules2, rulesX, rowsX]
    cases h
    exact ⟨⟨rfl, trivial⟩, rfl⟩
/- 74: laws_heldSurgeS -/
def c_laws_heldSurgeS_1 : ACode := .seq (.reg [(none, .keep [0, 1, 5] [] [])]) (.seq (.seq (.reg [(none, .mv 6 (S 5)), (none, .mv 7 (S 0)), (none, .len 8 (S 7)), (none, .bin 9 .lss (S 6) (S 8))]) (.cond (S 9) .skip (.exit 0))) (.seq (.block 1 (.seq (.seq (.reg [(none, .mv 12 (S 0)), (none, .mv 13 (S 5)), (none, .iaddr 14 (S 12) (S 13) 3), (none, .faddr 15 (S 14) 0), (none, .load 16 (S 15) false 1), (none, .mv 17 (S 1)), (none, .bin 18 .neq (S 16) (S 17))]) (.cond (S 18) (.seq (.reg [(none, .mv 4 (K (-1)))]) .ret) .skip)) (.seq (.reg [(none, .mv 19 (S 1)), (none, .bin 20 .add (S 19) (K 1)), (none, .mv 1 (S 20))]) (.seq (.seq (.reg [(none, .mv 21 (S 0)), (none, .mv 22 (S 5)), (none, .iaddr 23 (S 21) (S 22) 3), (none, .faddr 24 (S 23) 1), (none, .load 25 (S 24) false 1), (none, .mv 26 (S 1)), (none, .bin 27 .neq (S 25) (S 26))]) (.cond (S 27) (.seq (.reg [(none, .mv 4 (K (-1)))]) .ret) .skip)) (.seq (.reg [(none, .mv 28 (S 1)), (none, .bin 29 .add (S 28) (K 1)), (none, .mv 1 (S 29))]) (.seq (.seq (.reg [(none, .mv 30 (S 0)), (none, .mv 31 (S 5)), (none, .iaddr 32 (S 30) (S 31) 3), (none, .faddr 33 (S 32) 2), (none, .load 34 (S 33) false 1), (none, .mv 35 (S 1)), (none, .bin 36 .neq (S 34) (S 35))]) (.cond (S 36) (.seq (.reg [(none, .mv 4 (K (-1)))]) .ret) .skip)) (.reg [(none, .mv 37 (S 1)), (none, .bin 38 .add (S 37) (K 1)), (none, .mv 1 (S 38))]))))))) (.reg [(none, .mv 10 (S 5)), (none, .bin 11 .add (S 10) (K 1)), (none, .mv 5 (S 11))])))
def c_laws_heldSurgeS_n1 : ACode := (.seq (.reg [(none, .mv 39 (S 1)), (none, .mv 4 (S 39))]) .ret)
def c_laws_heldSurgeS : ACode := (.seq (.reg [(none, .mv 4 (K 0))]) (.seq (.seq (.reg [(none, .mv 5 (K 0))]) (.block 0 (.loop c_laws_heldSurgeS_1))) c_laws_heldSurgeS_n1))
theorem w_laws_heldSurgeS_1 (a0 : List XSurge) : ∀ (n : Nat) (v1 : Int) (v2 : Int) (r : Int), f_laws_heldSurgeS_1 a0 n v1 v2 = some r → ∀ σ : St, σ.kept [0, 1, 5] [] [] = ⟨[(0, vc (aL (List.map XSurge.row a0))), (1, vc (aI v1)), (5, vc (aI v2))], [], []⟩ → go Try.prog (.code (.loop c_laws_heldSurgeS_1) :: [.blk 0, .code c_laws_heldSurgeS_n1]) (Ret [4] [.sc (.v (.int .i64 r))]) .normal (some σ) := by
  intro n
  induction n with
  | zero => intro _ _ r h; cases h
  | succ n ih =>
    intro v1 v2 r h σ hσ
    rw [f_laws_heldSurgeS_1] at h
    refine go_round ?_
    rcases Bool.eq_false_or_eq_true (decide (v2 < (a0.length : Int))) with hb3 | hb3
    · rw [ite_t hb3] at h
      obtain ⟨x4, hx4, h⟩ := ob h
      rcases Bool.eq_false_or_eq_true (x4.From != v1) with hb5 | hb5
      · rw [ite_t hb5] at h
        try simp only [hσ, hb3, hx4, hb5, c_laws_heldSurgeS_1, Nat.reduceBEq, Nat.reduceMul, Nat.reduceAdd, Nat.reduceDiv, Int.reduceBEq, rules2, rulesX, rowsX]
        cases h
        exact ⟨⟨rfl, trivial⟩, rfl⟩
      · rw [ite_f hb5] at h
        rcases Bool.eq_false_or_eq_true (x4.Low != (IntKind.i64.wrap (v1 + (1 : Int)))) with hb6 | hb6
        · rw [ite_t hb6] at h
          try simp only [hσ, hb3, hx4, hb5, hb6, c_laws_heldSurgeS_1, Nat.reduceBEq, Nat.reduceMul, Nat.reduceAdd, Nat.reduceDiv, Int.reduceBEq, rules2, rulesX, rowsX]
          cases h
          exact ⟨⟨rfl, trivial⟩, rfl⟩
        · rw [ite_f hb6] at h
          rcases Bool.eq_false_or_eq_true (x4.High != (IntKind.i64.wrap ((IntKind.i64.wrap (v1 + (1 : Int))) + (1 : Int)))) with hb7 | hb7
          · rw [ite_t hb7] at h
            try simp only [hσ, hb3, hx4, hb5, hb6, hb7, c_laws_heldSurgeS_1, Nat.reduceBEq, Nat.reduceMul, Nat.reduceAdd, Nat.reduceDiv, Int.reduceBEq, rules2, rulesX, rowsX]
            cases h
            exact ⟨⟨rfl, trivial⟩, rfl⟩
          · rw [ite_f hb7] at h
            try simp only [hσ, hb3, hx4, hb5, hb6, hb7, c_laws_heldSurgeS_1, Nat.reduceBEq, Nat.reduceMul, Nat.reduceAdd, Nat.reduceDiv, Int.reduceBEq, rules2, rulesX, rowsX]
            refine ih _ _ _ h _ ?_
            try simp only [hb3, hx4, hb5, hb6, hb7, Nat.reduceBEq, Nat.reduceMul, Nat.reduceAdd, Nat.reduceDiv, Int.reduceBEq, rules2, rulesX, rowsX, List.map_nil]
    · rw [ite_f hb3] at h
      try simp only [hσ, hb3, c_laws_heldSurgeS_1, c_laws_heldSurgeS_n1, Nat.reduceBEq, Nat.reduceMul, Nat.reduceAdd, Nat.reduceDiv, Int.reduceBEq, rules2, rulesX, rowsX]
      cases h
      exact ⟨⟨rfl, trivial⟩, rfl⟩
theorem e_laws_heldSurgeS : entry Try.prog 74 = some (c_laws_heldSurgeS.strip, [4], 40) := by kernel_rfl
theorem w_laws_heldSurgeS (a0 : List XSurge) (a1 : Int) (r : Int) (h : f_laws_heldSurgeS a0 a1 = some r) : FC Try.prog 74 [.sc (.sl (List.map XSurge.row a0)), .sc (.int .i64 a1)] [.sc (.v (.int .i64 r))] := by
  unfold f_laws_heldSurgeS at h
  refine FC_go (σ := ⟨[(0, vc (aL (List.map XSurge.row a0))), (1, vc (aI a1))], [], []⟩) mixed e_laws_heldSurgeS rfl rfl ?_
  simp only [c_laws_heldSurgeS]
  try simp only [Nat.reduceBEq, Nat.reduceMul, Nat.reduceAdd, Nat.reduceDiv, Int.reduceBEq, rules2, rulesX, rowsX]
  refine w_laws_heldSurgeS_1 _ _ _ _ _ h _ ?_
  try simp only [Nat.reduceBEq, Nat.reduceMul, Nat.reduceAdd, Nat.reduceDiv, Int.reduceBEq, rules2, rulesX, rowsX, List.map_nil]
/- 59: laws_heldForecast -/
def c_laws_heldForecast : ACode := (.seq (.reg [(none, .box 2 (S 0)), (none, .mv 4 (K 0))]) (.seq (.reg [(none, .faddr 5 (S 2) 0), (none, .load 6 (S 5) true 2), (none, .mv 7 (S 1)), (none, .call 8 73 [(S 6), (S 7)]), (none, .mv 1 (S 8))]) (.seq (.seq (.reg [(none, .mv 9 (S 1)), (none, .bin 10 .lss (S 9) (K 0))]) (.cond (S 10) (.seq (.reg [(none, .mv 4 (K (-1)))]) .ret) .skip)) (.seq (.reg [(none, .faddr 11 (S 2) 2), (none, .load 12 (S 11) false 1), (none, .mv 13 (S 1)), (none, .call 14 74 [(S 12), (S 13)]), (none, .mv 1 (S 14))]) (.seq (.seq (.reg [(none, .mv 15 (S 1)), (none, .bin 16 .lss (S 15) (K 0))]) (.cond (S 16) (.seq (.reg [(none, .mv 4 (K (-1)))]) .ret) .skip)) (.seq (.reg [(none, .mv 17 (S 1)), (none, .mv 4 (S 17))]) .ret))))))
theorem e_laws_heldForecast : entry Try.prog 59 = some (c_laws_heldForecast.strip, [4], 18) := by kernel_rfl
theorem w_laws_heldForecast (a0 : XForecast) (a1 : Int) (r : Int) (h : f_laws_heldForecast a0 a1 = some r) : FC Try.prog 59 [.ag (XForecast.row a0), .sc (.int .i64 a1)] [.sc (.v (.int .i64 r))] := by
  unfold f_laws_heldForecast at h
  refine FC_go (σ := ⟨[(0, va [aI a0.Tide.Mean, aL (List.map XPart.row a0.Tide.Parts), aL (List.map XSurge.row a0.Surges)]), (1, vc (aI a1))], [], []⟩) mixed e_laws_heldForecast rfl rfl ?_
  simp only [c_laws_heldForecast]
  try simp only [Nat.reduceBEq, Nat.reduceMul, Nat.reduceAdd, Nat.reduceDiv, Int.reduceBEq, rules2, rulesX, rowsX]
  refine go_bx rfl rfl rfl ?_
  obtain ⟨r1, hr1, h⟩ := ob h
  try simp only [Nat.reduceBEq, Nat.reduceMul, Nat.reduceAdd, Nat.reduceDiv, Int.reduceBEq, rules2, rulesX, rowsX]
  refine go_callI (w_laws_heldTide _ _ _ hr1) rfl rfl (Nat.le_of_ble_eq_true rfl) ?_
  rcases Bool.eq_false_or_eq_true (decide (r1 < (0 : Int))) with hb2 | hb2
  · rw [ite_t hb2] at h
    try simp only [hb2, Nat.reduceBEq, Nat.reduceMul, Nat.reduceAdd, Nat.reduceDiv, Int.reduceBEq, rules2, rulesX, rowsX]
    cases h
    exact ⟨⟨rfl, trivial⟩, rfl⟩
  · rw [ite_f hb2] at h
    obtain ⟨r3, hr3, h⟩ := ob h
    try simp only [hb2, Nat.reduceBEq, Nat.reduceMul, Nat.reduceAdd, Nat.reduceDiv, Int.reduceBEq, rules2, rulesX, rowsX]
    refine go_callI (w_laws_heldSurgeS _ _ _ hr3) rfl rfl (Nat.le_of_ble_eq_true rfl) ?_
    rcases Bool.eq_false_or_eq_true (decide (r3 < (0 : Int))) with hb4 | hb4
    · rw [ite_t hb4] at h
      try simp only [hb2, hb4, Nat.reduceBEq, Nat.reduceMul, Nat.reduceAdd, Nat.reduceDiv, Int.reduceBEq, rules2, rulesX, rowsX]
      cases h
      exact ⟨⟨rfl, trivial⟩, rfl⟩
    · rw [ite_f hb4] at h
      try simp only [hb2, hb4, Nat.reduceBEq, Nat.reduceMul, Nat.reduceAdd, Nat.reduceDiv, Int.reduceBEq, rules2, rulesX, rowsX]
      cases h
      exact ⟨⟨rfl, trivial⟩, rfl⟩
/- 75: laws_heldPointS -/
def c_laws_heldPointS_1 : ACode := .seq (.reg [(none, .keep [0, 1, 5] [] [])]) (.seq (.seq (.reg [(none, .mv 6 (S 5)), (none, .mv 7 (S 0)), (none, .len 8 (S 7)), (none, .bin 9 .lss (S 6) (S 8))]) (.cond (S 9) .skip (.exit 0))) (.seq (.block 1 (.seq (.seq (.drw [(some [18], (none, .mv 12 (S 0))), (some [18], (none, .mv 13 (S 5))), (some [18], (none, .iaddr 14 (S 12) (S 13) 2)), (some [18], (none, .faddr 15 (S 14) 0)), (some [18], (none, .load 16 (S 15) false 1)), (some [], (none, .mv 17 (S 1))), (some [], (none, .call 18 72 [(S 17)])), (some [], (none, .bin 19 .neq (S 16) (S 18)))]) (.cond (S 19) (.seq (.reg [(none, .mv 4 (K (-1)))]) .ret) .skip)) (.seq (.reg [(none, .mv 20 (S 1)), (none, .bin 21 .add (S 20) (K 1)), (none, .mv 1 (S 21))]) (.seq (.seq (.reg [(none, .mv 22 (S 0)), (none, .mv 23 (S 5)), (none, .iaddr 24 (S 22) (S 23) 2), (none, .faddr 25 (S 24) 1), (none, .load 26 (S 25) false 1), (none, .mv 27 (S 1)), (none, .bin 28 .rem (S 27) (K 3)), (none, .bin 29 .eql (S 28) (K 0)), (none, .beq 30 true (S 26) (S 29))]) (.cond (S 30) (.seq (.reg [(none, .mv 4 (K (-1)))]) .ret) .skip)) (.reg [(none, .mv 31 (S 1)), (none, .bin 32 .add (S 31) (K 1)), (none, .mv 1 (S 32))]))))) (.reg [(none, .mv 10 (S 5)), (none, .bin 11 .add (S 10) (K 1)), (none, .mv 5 (S 11))])))
def c_laws_heldPointS_n1 : ACode := (.seq (.reg [(none, .mv 33 (S 1)), (none, .mv 4 (S 33))]) .ret)
def c_laws_heldPointS : ACode := (.seq (.reg [(none, .mv 4 (K 0))]) (.seq (.seq (.reg [(none, .mv 5 (K 0))]) (.block 0 (.loop c_laws_heldPointS_1))) c_laws_heldPointS_n1))
theorem w_laws_heldPointS_1 (a0 : List XPoint) : ∀ (n : Nat) (v1 : Int) (v2 : Int) (r : Int), f_laws_heldPointS_1 a0 n v1 v2 = some r → ∀ σ : St, σ.kept [0, 1, 5] [] [] = ⟨[(0, vc (aL (List.map XPoint.row a0))), (1, vc (aI v1)), (5, vc (aI v2))], [], []⟩ → go Try.prog (.code (.loop c_laws_heldPointS_1) :: [.blk 0, .code c_laws_heldPointS_n1]) (Ret [4] [.sc (.v (.int .i64 r))]) .normal (some σ) := by
  intro n
  induction n with
  | zero => intro _ _ r h; cases h
  | succ n ih =>
    intro v1 v2 r h σ hσ
    rw [f_laws_heldPointS_1] at h
    refine go_round ?_
    rcases Bool.eq_false_or_eq_true (decide (v2 < (a0.length : Int))) with hb3 | hb3
    · rw [ite_t hb3] at h
      try simp only [hσ, hb3, c_laws_heldPointS_1, Nat.reduceBEq, Nat.reduceMul, Nat.reduceAdd, Nat.reduceDiv, Int.reduceBEq, rules2, rulesX, rowsX]
      refine go_fr_of rfl ?_
      obtain ⟨x4, hx4, h⟩ := ob h
      obtain ⟨r5, hr5, h⟩ := ob h
      try simp only [hb3, hx4, Nat.reduceBEq, Nat.reduceMul, Nat.reduceAdd, Nat.reduceDiv, Int.reduceBEq, rules2, rulesX, rowsX]
      refine go_dcallI (w_laws_markText _ _ hr5) rfl rfl (Nat.le_of_ble_eq_true rfl) ?_
      rcases Bool.eq_false_or_eq_true (x4.Name == r5) with hb6 | hb6
      · rw [ite_t hb6] at h
        rcases Bool.eq_false_or_eq_true (x4.Wait == ((IntKind.i64.wrap (Int.tmod (IntKind.i64.wrap (v1 + (1 : Int))) (3 : Int))) == (0 : Int))) with hb7 | hb7
        · rw [ite_t hb7] at h
          try simp only [hb3, hx4, hb6, hb7, Nat.reduceBEq, Nat.reduceMul, Nat.reduceAdd, Nat.reduceDiv, Int.reduceBEq, rules2, rulesX, rowsX]
          refine ih _ _ _ h _ ?_
          try simp only [hb3, hx4, hb6, hb7, Nat.reduceBEq, Nat.reduceMul, Nat.reduceAdd, Nat.reduceDiv, Int.reduceBEq, rules2, rulesX, rowsX, List.map_nil]
        · rw [ite_f hb7] at h
          try simp only [hb3, hx4, hb6, hb7, Nat.reduceBEq, Nat.reduceMul, Nat.reduceAdd, Nat.reduceDiv, Int.reduceBEq, rules2, rulesX, rowsX]
          cases h
          exact ⟨⟨rfl, trivial⟩, rfl⟩
      · rw [ite_f hb6] at h
        try simp only [hb3, hx4, hb6, Nat.reduceBEq, Nat.reduceMul, Nat.reduceAdd, Nat.reduceDiv, Int.reduceBEq, rules2, rulesX, rowsX]
        cases h
        exact ⟨⟨rfl, trivial⟩, rfl⟩
    · rw [ite_f hb3] at h
      try simp only [hσ, hb3, c_laws_heldPointS_1, c_laws_heldPointS_n1, Nat.reduceBEq, Nat.reduceMul, Nat.reduceAdd, Nat.reduceDiv, Int.reduceBEq, rules2, rulesX, rowsX]
      cases h
      exact ⟨⟨rfl, trivial⟩, rfl⟩
theorem e_laws_heldPointS : entry Try.prog 75 = some (c_laws_heldPointS.strip, [4], 34) := by kernel_rfl
theorem w_laws_heldPointS (a0 : List XPoint) (a1 : Int) (r : Int) (h : f_laws_heldPointS a0 a1 = some r) : FC Try.prog 75 [.sc (.sl (List.map XPoint.row a0)), .sc (.int .i64 a1)] [.sc (.v (.int .i64 r))] := by
  unfold f_laws_heldPointS at h
  refine FC_go (σ := ⟨[(0, vc (aL (List.map XPoint.row a0))), (1, vc (aI a1))], [], []⟩) mixed e_laws_heldPointS rfl rfl ?_
  simp only [c_laws_heldPointS]
  try simp only [Nat.reduceBEq, Nat.reduceMul, Nat.reduceAdd, Nat.reduceDiv, Int.reduceBEq, rules2, rulesX, rowsX]
  refine w_laws_heldPointS_1 _ _ _ _ _ h _ ?_
  try simp only [Nat.reduceBEq, Nat.reduceMul, Nat.reduceAdd, Nat.reduceDiv, Int.reduceBEq, rules2, rulesX, rowsX, List.map_nil]
/- 76: laws_heldSegmentS -/
def c_laws_heldSegmentS_1 : ACode := .seq (.reg [(none, .keep [0, 1, 5] [] [])]) (.seq (.seq (.reg [(none, .mv 6 (S 5)), (none, .mv 7 (S 0)), (none, .len 8 (S 7)), (none, .bin 9 .lss (S 6) (S 8))]) (.cond (S 9) .skip (.exit 0))) (.seq (.block 1 (.seq (.seq (.reg [(none, .mv 12 (S 0)), (none, .mv 13 (S 5)), (none, .iaddr 14 (S 12) (S 13) 5), (none, .faddr 15 (S 14) 0), (none, .load 16 (S 15) false 1), (none, .mv 17 (S 1)), (none, .bin 18 .neq (S 16) (S 17))]) (.cond (S 18) (.seq (.reg [(none, .mv 4 (K (-1)))]) .ret) .skip)) (.seq (.reg [(none, .mv 19 (S 1)), (none, .bin 20 .add (S 19) (K 1)), (none, .mv 1 (S 20))]) (.seq (.seq (.reg [(none, .mv 21 (S 0)), (none, .mv 22 (S 5)), (none, .iaddr 23 (S 21) (S 22) 5), (none, .faddr 24 (S 23) 1), (none, .load 25 (S 24) false 1), (none, .mv 26 (S 1)), (none, .bin 27 .neq (S 25) (S 26))]) (.cond (S 27) (.seq (.reg [(none, .mv 4 (K (-1)))]) .ret) .skip)) (.seq (.reg [(none, .mv 28 (S 1)), (none, .bin 29 .add (S 28) (K 1)), (none, .mv 1 (S 29))]) (.seq (.seq (.reg [(none, .mv 30 (S 0)), (none, .mv 31 (S 5)), (none, .iaddr 32 (S 30) (S 31) 5), (none, .faddr 33 (S 32) 2), (none, .load 34 (S 33) false 1), (none, .mv 35 (S 1)), (none, .bin 36 .neq (S 34) (S 35))]) (.cond (S 36) (.seq (.reg [(none, .mv 4 (K (-1)))]) .ret) .skip)) (.seq (.reg [(none, .mv 37 (S 1)), (none, .bin 38 .add (S 37) (K 1)), (none, .mv 1 (S 38))]) (.seq (.seq (.reg [(none, .mv 39 (S 0)), (none, .mv 40 (S 5)), (none, .iaddr 41 (S 39) (S 40) 5), (none, .faddr 42 (S 41) 3), (none, .load 43 (S 42) false 1), (none, .mv 44 (S 1)), (none, .bin 45 .neq (S 43) (S 44))]) (.cond (S 45) (.seq (.reg [(none, .mv 4 (K (-1)))]) .ret) .skip)) (.seq (.reg [(none, .mv 46 (S 1)), (none, .bin 47 .add (S 46) (K 1)), (none, .mv 1 (S 47))]) (.seq (.seq (.reg [(none, .mv 48 (S 0)), (none, .mv 49 (S 5)), (none, .iaddr 50 (S 48) (S 49) 5), (none, .faddr 51 (S 50) 4), (none, .load 52 (S 51) false 1), (none, .mv 53 (S 1)), (none, .bin 54 .rem (S 53) (K 3)), (none, .bin 55 .eql (S 54) (K 0)), (none, .beq 56 true (S 52) (S 55))]) (.cond (S 56) (.seq (.reg [(none, .mv 4 (K (-1)))]) .ret) .skip)) (.reg [(none, .mv 57 (S 1)), (none, .bin 58 .add (S 57) (K 1)), (none, .mv 1 (S 58))]))))))))))) (.reg [(none, .mv 10 (S 5)), (none, .bin 11 .add (S 10) (K 1)), (none, .mv 5 (S 11))])))
def c_laws_heldSegmentS_n1 : ACode := (.seq (.reg [(none, .mv 59 (S 1)), (none, .mv 4 (S 59))]) .ret)
def c_laws_heldSegmentS : ACode := (.seq (.reg [(none, .mv 4 (K 0))]) (.seq (.seq (.reg [(none, .mv 5 (K 0))]) (.block 0 (.loop c_laws_heldSegmentS_1))) c_laws_heldSegmentS_n1))
theorem w_laws_heldSegmentS_1 (a0 : List XSegment) : ∀ (n : Nat) (v1 : Int) (v2 : Int) (r : Int), f_laws_heldSegmentS_1 a0 n v1 v2 = some r → ∀ σ : St, σ.kept [0, 1, 5] [] [] = ⟨[(0, vc (aL (List.map XSegment.row a0))), (1, vc (aI v1)), (5, vc (aI v2))], [], []⟩ → go Try.prog (.code (.loop c_laws_heldSegmentS_1) :: [.blk 0, .code c_laws_heldSegmentS_n1]) (Ret [4] [.sc (.v (.int .i64 r))]) .normal (some σ) := by
  intro n
  induction n with
  | zero => intro _ _ r h; cases h
  | succ n ih =>
    intro v1 v2 r h σ hσ
    rw [f_laws_heldSegmentS_1] at h
    refine go_round ?_
    rcases Bool.eq_false_or_eq_true (decide (v2 < (a0.length : Int))) with hb3 | hb3
    · rw [ite_t hb3] at h
      obtain ⟨x4, hx4, h⟩ := ob h
      rcases Bool.eq_false_or_eq_true (x4.A != v1) with hb5 | hb5
      · rw [ite_t hb5] at h
        try simp only [hσ, hb3, hx4, hb5, c_laws_heldSegmentS_1, Nat.reduceBEq, Nat.reduceMul, Nat.reduceAdd, Nat.reduceDiv, Int.reduceBEq, rules2, rulesX, rowsX]
        cases h
        exact ⟨⟨rfl, trivial⟩, rfl⟩
      · rw [ite_f hb5] at h
        rcases Bool.eq_false_or_eq_true (x4.B != (IntKind.i64.wrap (v1 + (1 : Int)))) with hb6 | hb6
        · rw [ite_t hb6] at h
          try simp only [hσ, hb3, hx4, hb5, hb6, c_laws_heldSegmentS_1, Nat.reduceBEq, Nat.reduceMul, Nat.reduceAdd, Nat.reduceDiv, Int.reduceBEq, rules2, rulesX, rowsX]
          cases h
          exact ⟨⟨rfl, trivial⟩, rfl⟩
        · rw [ite_f hb6] at h
          rcases Bool.eq_false_or_eq_true (x4.Depth != (IntKind.i64.wrap ((IntKind.i64.wrap (v1 + (1 : Int))) + (1 : Int)))) with hb7 | hb7
          · rw [ite_t hb7] at h
            try simp only [hσ, hb3, hx4, hb5, hb6, hb7, c_laws_heldSegmentS_1, Nat.reduceBEq, Nat.reduceMul, Nat.reduceAdd, Nat.reduceDiv, Int.reduceBEq, rules2, rulesX, rowsX]
            cases h
            exact ⟨⟨rfl, trivial⟩, rfl⟩
          · rw [ite_f hb7] at h
            rcases Bool.eq_false_or_eq_true (x4.Minutes != (IntKind.i64.wrap ((IntKind.i64.wrap ((IntKind.i64.wrap (v1 + (1 : Int))) + (1 : Int))) + (1 : Int)))) with hb8 | hb8
            · rw [ite_t hb8] at h
              try simp only [hσ, hb3, hx4, hb5, hb6, hb7, hb8, c_laws_heldSegmentS_1, Nat.reduceBEq, Nat.reduceMul, Nat.reduceAdd, Nat.reduceDiv, Int.reduceBEq, rules2, rulesX, rowsX]
              cases h
              exact ⟨⟨rfl, trivial⟩, rfl⟩
            · rw [ite_f hb8] at h
              rcases Bool.eq_false_or_eq_true (x4.Meet == ((IntKind.i64.wrap (Int.tmod (IntKind.i64.wrap ((IntKind.i64.wrap ((IntKind.i64.wrap ((IntKind.i64.wrap (v1 + (1 : Int))) + (1 : Int))) + (1 : Int))) + (1 : Int))) (3 : Int))) == (0 : Int))) with hb9 | hb9
              · rw [ite_t hb9] at h
                try simp only [hσ, hb3, hx4, hb5, hb6, hb7, hb8, hb9, c_laws_heldSegmentS_1, Nat.reduceBEq, Nat.reduceMul, Nat.reduceAdd, Nat.reduceDiv, Int.reduceBEq, rules2, rulesX, rowsX]
                refine ih _ _ _ h _ ?_
                try simp only [hb3, hx4, hb5, hb6, hb7, hb8, hb9, Nat.reduceBEq, Nat.reduceMul, Nat.reduceAdd, Nat.reduceDiv, Int.reduceBEq, rules2, rulesX, rowsX, List.map_nil]
              · rw [ite_f hb9] at h
                try simp only [hσ, hb3, hx4, hb5, hb6, hb7, hb8, hb9, c_laws_heldSegmentS_1, Nat.reduceBEq, Nat.reduceMul, Nat.reduceAdd, Nat.reduceDiv, Int.reduceBEq, rules2, rulesX, rowsX]
                cases h
                exact ⟨⟨rfl, trivial⟩, rfl⟩
    · rw [ite_f hb3] at h
      try simp only [hσ, hb3, c_laws_heldSegmentS_1, c_laws_heldSegmentS_n1, Nat.reduceBEq, Nat.reduceMul, Nat.reduceAdd, Nat.reduceDiv, Int.reduceBEq, rules2, rulesX, rowsX]
      cases h
      exact ⟨⟨rfl, trivial⟩, rfl⟩
theorem e_laws_heldSegmentS : entry Try.prog 76 = some (c_laws_heldSegmentS.strip, [4], 60) := by kernel_rfl
theorem w_laws_heldSegmentS (a0 : List XSegment) (a1 : Int) (r : Int) (h : f_laws_heldSegmentS a0 a1 = some r) : FC Try.prog 76 [.sc (.sl (List.map XSegment.row a0)), .sc (.int .i64 a1)] [.sc (.v (.int .i64 r))] := by
  unfold f_laws_heldSegmentS at h
  refine FC_go (σ := ⟨[(0, vc (aL (List.map XSegment.row a0))), (1, vc (aI a1))], [], []⟩) mixed e_laws_heldSegmentS rfl rfl ?_
  simp only [c_laws_heldSegmentS]
  try simp only [Nat.reduceBEq, Nat.reduceMul, Nat.reduceAdd, Nat.reduceDiv, Int.reduceBEq, rules2, rulesX, rowsX]
  refine w_laws_heldSegmentS_1 _ _ _ _ _ h _ ?_
  try simp only [Nat.reduceBEq, Nat.reduceMul, Nat.reduceAdd, Nat.reduceDiv, Int.reduceBEq, rules2, rulesX, rowsX, List.map_nil]
/- 60: laws_heldChart -/
def c_laws_heldChart : ACode := (.seq (.reg [(none, .box 2 (S 0)), (none, .mv 4 (K 0))]) (.seq (.reg [(none, .faddr 5 (S 2) 0), (none, .load 6 (S 5) false 1), (none, .mv 7 (S 1)), (none, .call 8 75 [(S 6), (S 7)]), (none, .mv 1 (S 8))]) (.seq (.seq (.reg [(none, .mv 9 (S 1)), (none, .bin 10 .lss (S 9) (K 0))]) (.cond (S 10) (.seq (.reg [(none, .mv 4 (K (-1)))]) .ret) .skip)) (.seq (.reg [(none, .faddr 11 (S 2) 1), (none, .load 12 (S 11) false 1), (none, .mv 13 (S 1)), (none, .call 14 76 [(S 12), (S 13)]), (none, .mv 1 (S 14))]) (.seq (.seq (.reg [(none, .mv 15 (S 1)), (none, .bin 16 .lss (S 15) (K 0))]) (.cond (S 16) (.seq (.reg [(none, .mv 4 (K (-1)))]) .ret) .skip)) (.seq (.reg [(none, .mv 17 (S 1)), (none, .mv 4 (S 17))]) .ret))))))
theorem e_laws_heldChart : entry Try.prog 60 = some (c_laws_heldChart.strip, [4], 18) := by kernel_rfl
theorem w_laws_heldChart (a0 : XChart) (a1 : Int) (r : Int) (h : f_laws_heldChart a0 a1 = some r) : FC Try.prog 60 [.ag (XChart.row a0), .sc (.int .i64 a1)] [.sc (.v (.int .i64 r))] := by
  unfold f_laws_heldChart at h
  refine FC_go (σ := ⟨[(0, va [aL (List.map XPoint.row a0.Points), aL (List.map XSegment.row a0.Segments)]), (1, vc (aI a1))], [], []⟩) mixed e_laws_heldChart rfl rfl ?_
  simp only [c_laws_heldChart]
  try simp only [Nat.reduceBEq, Nat.reduceMul, Nat.reduceAdd, Nat.reduceDiv, Int.reduceBEq, rules2, rulesX, rowsX]
  refine go_bx rfl rfl rfl ?_
  obtain ⟨r1, hr1, h⟩ := ob h
  try simp only [Nat.reduceBEq, Nat.reduceMul, Nat.reduceAdd, Nat.reduceDiv, Int.reduceBEq, rules2, rulesX, rowsX]
  refine go_callI (w_laws_heldPointS _ _ _ hr1) rfl rfl (Nat.le_of_ble_eq_true rfl) ?_
  rcases Bool.eq_false_or_eq_true (decide (r1 < (0 : Int))) with hb2 | hb2
  · rw [ite_t hb2] at h
    try simp only [hb2, Nat.reduceBEq, Nat.reduceMul, Nat.reduceAdd, Nat.reduceDiv, Int.reduceBEq, rules2, rulesX, rowsX]
    cases h
    exact ⟨⟨rfl, trivial⟩, rfl⟩
  · rw [ite_f hb2] at h
    obtain ⟨r3, hr3, h⟩ := ob h
    try simp only [hb2, Nat.reduceBEq, Nat.reduceMul, Nat.reduceAdd, Nat.reduceDiv, Int.reduceBEq, rules2, rulesX, rowsX]
    refine go_callI (w_laws_heldSegmentS _ _ _ hr3) rfl rfl (Nat.le_of_ble_eq_true rfl) ?_
    rcases Bool.eq_false_or_eq_true (decide (r3 < (0 : Int))) with hb4 | hb4
    · rw [ite_t hb4] at h
      try simp only [hb2, hb4, Nat.reduceBEq, Nat.reduceMul, Nat.reduceAdd, Nat.reduceDiv, Int.reduceBEq, rules2, rulesX, rowsX]
      cases h
      exact ⟨⟨rfl, trivial⟩, rfl⟩
    · rw [ite_f hb4] at h
      try simp only [hb2, hb4, Nat.reduceBEq, Nat.reduceMul, Nat.reduceAdd, Nat.reduceDiv, Int.reduceBEq, rules2, rulesX, rowsX]
      cases h
      exact ⟨⟨rfl, trivial⟩, rfl⟩
/- 61: laws_heldShipS -/
def c_laws_heldShipS_1 : ACode := .seq (.reg [(none, .keep [0, 1, 5] [] [])]) (.seq (.seq (.reg [(none, .mv 6 (S 5)), (none, .mv 7 (S 0)), (none, .len 8 (S 7)), (none, .bin 9 .lss (S 6) (S 8))]) (.cond (S 9) .skip (.exit 0))) (.seq (.block 1 (.seq (.seq (.drw [(some [18], (none, .mv 12 (S 0))), (some [18], (none, .mv 13 (S 5))), (some [18], (none, .iaddr 14 (S 12) (S 13) 6)), (some [18], (none, .faddr 15 (S 14) 0)), (some [18], (none, .load 16 (S 15) false 1)), (some [], (none, .mv 17 (S 1))), (some [], (none, .call 18 72 [(S 17)])), (some [], (none, .bin 19 .neq (S 16) (S 18)))]) (.cond (S 19) (.seq (.reg [(none, .mv 4 (K (-1)))]) .ret) .skip)) (.seq (.reg [(none, .mv 20 (S 1)), (none, .bin 21 .add (S 20) (K 1)), (none, .mv 1 (S 21))]) (.seq (.seq (.reg [(none, .mv 22 (S 0)), (none, .mv 23 (S 5)), (none, .iaddr 24 (S 22) (S 23) 6), (none, .faddr 25 (S 24) 1), (none, .load 26 (S 25) false 1), (none, .mv 27 (S 1)), (none, .bin 28 .neq (S 26) (S 27))]) (.cond (S 28) (.seq (.reg [(none, .mv 4 (K (-1)))]) .ret) .skip)) (.seq (.reg [(none, .mv 29 (S 1)), (none, .bin 30 .add (S 29) (K 1)), (none, .mv 1 (S 30))]) (.seq (.seq (.reg [(none, .mv 31 (S 0)), (none, .mv 32 (S 5)), (none, .iaddr 33 (S 31) (S 32) 6), (none, .faddr 34 (S 33) 2), (none, .load 35 (S 34) false 1), (none, .mv 36 (S 1)), (none, .bin 37 .neq (S 35) (S 36))]) (.cond (S 37) (.seq (.reg [(none, .mv 4 (K (-1)))]) .ret) .skip)) (.seq (.reg [(none, .mv 38 (S 1)), (none, .bin 39 .add (S 38) (K 1)), (none, .mv 1 (S 39))]) (.seq (.seq (.reg [(none, .mv 40 (S 0)), (none, .mv 41 (S 5)), (none, .iaddr 42 (S 40) (S 41) 6), (none, .faddr 43 (S 42) 3), (none, .load 44 (S 43) false 1), (none, .mv 45 (S 1)), (none, .bin 46 .neq (S 44) (S 45))]) (.cond (S 46) (.seq (.reg [(none, .mv 4 (K (-1)))]) .ret) .skip)) (.seq (.reg [(none, .mv 47 (S 1)), (none, .bin 48 .add (S 47) (K 1)), (none, .mv 1 (S 48))]) (.seq (.seq (.reg [(none, .mv 49 (S 0)), (none, .mv 50 (S 5)), (none, .iaddr 51 (S 49) (S 50) 6), (none, .faddr 52 (S 51) 4), (none, .load 53 (S 52) false 1), (none, .mv 54 (S 1)), (none, .bin 55 .neq (S 53) (S 54))]) (.cond (S 55) (.seq (.reg [(none, .mv 4 (K (-1)))]) .ret) .skip)) (.seq (.reg [(none, .mv 56 (S 1)), (none, .bin 57 .add (S 56) (K 1)), (none, .mv 1 (S 57))]) (.seq (.seq (.reg [(none, .mv 58 (S 0)), (none, .mv 59 (S 5)), (none, .iaddr 60 (S 58) (S 59) 6), (none, .faddr 61 (S 60) 5), (none, .load 62 (S 61) false 1), (none, .mv 63 (S 1)), (none, .bin 64 .rem (S 63) (K 3)), (none, .bin 65 .eql (S 64) (K 0)), (none, .beq 66 true (S 62) (S 65))]) (.cond (S 66) (.seq (.reg [(none, .mv 4 (K (-1)))]) .ret) .skip)) (.reg [(none, .mv 67 (S 1)), (none, .bin 68 .add (S 67) (K 1)), (none, .mv 1 (S 68))]))))))))))))) (.reg [(none, .mv 10 (S 5)), (none, .bin 11 .add (S 10) (K 1)), (none, .mv 5 (S 11))])))
def c_laws_heldShipS_n1 : ACode := (.seq (.reg [(none, .mv 69 (S 1)), (none, .mv 4 (S 69))]) .ret)
def c_laws_heldShipS : ACode := (.seq (.reg [(none, .mv 4 (K 0))]) (.seq (.seq (.reg [(none, .mv 5 (K 0))]) (.block 0 (.loop c_laws_heldShipS_1))) c_laws_heldShipS_n1))
theorem w_laws_heldShipS_1 (a0 : List XShip) : ∀ (n : Nat) (v1 : Int) (v2 : Int) (r : Int), f_laws_heldShipS_1 a0 n v1 v2 = some r → ∀ σ : St, σ.kept [0, 1, 5] [] [] = ⟨[(0, vc (aL (List.map XShip.row a0))), (1, vc (aI v1)), (5, vc (aI v2))], [], []⟩ → go Try.prog (.code (.loop c_laws_heldShipS_1) :: [.blk 0, .code c_laws_heldShipS_n1]) (Ret [4] [.sc (.v (.int .i64 r))]) .normal (some σ) := by
  intro n
  induction n with
  | zero => intro _ _ r h; cases h
  | succ n ih =>
    intro v1 v2 r h σ hσ
    rw [f_laws_heldShipS_1] at h
    refine go_round ?_
    rcases Bool.eq_false_or_eq_true (decide (v2 < (a0.length : Int))) with hb3 | hb3
    · rw [ite_t hb3] at h
      try simp only [hσ, hb3, c_laws_heldShipS_1, Nat.reduceBEq, Nat.reduceMul, Nat.reduceAdd, Nat.reduceDiv, Int.reduceBEq, rules2, rulesX, rowsX]
      refine go_fr_of rfl ?_
      obtain ⟨x4, hx4, h⟩ := ob h
      obtain ⟨r5, hr5, h⟩ := ob h
      try simp only [hb3, hx4, Nat.reduceBEq, Nat.reduceMul, Nat.reduceAdd, Nat.reduceDiv, Int.reduceBEq, rules2, rulesX, rowsX]
      refine go_dcallI (w_laws_markText _ _ hr5) rfl rfl (Nat.le_of_ble_eq_true rfl) ?_
      rcases Bool.eq_false_or_eq_true (x4.Name == r5) with hb6 | hb6
      · rw [ite_t hb6] at h
        rcases Bool.eq_false_or_eq_true (x4.Length != (IntKind.i64.wrap (v1 + (1 : Int)))) with hb7 | hb7
        · rw [ite_t hb7] at h
          try simp only [hb3, hx4, hb6, hb7, Nat.reduceBEq, Nat.reduceMul, Nat.reduceAdd, Nat.reduceDiv, Int.reduceBEq, rules2, rulesX, rowsX]
          cases h
          exact ⟨⟨rfl, trivial⟩, rfl⟩
        · rw [ite_f hb7] at h
          rcases Bool.eq_false_or_eq_true (x4.Draught != (IntKind.i64.wrap ((IntKind.i64.wrap (v1 + (1 : Int))) + (1 : Int)))) with hb8 | hb8
          · rw [ite_t hb8] at h
            try simp only [hb3, hx4, hb6, hb7, hb8, Nat.reduceBEq, Nat.reduceMul, Nat.reduceAdd, Nat.reduceDiv, Int.reduceBEq, rules2, rulesX, rowsX]
            cases h
            exact ⟨⟨rfl, trivial⟩, rfl⟩
          · rw [ite_f hb8] at h
            rcases Bool.eq_false_or_eq_true (x4.Line != (IntKind.i64.wrap ((IntKind.i64.wrap ((IntKind.i64.wrap (v1 + (1 : Int))) + (1 : Int))) + (1 : Int)))) with hb9 | hb9
            · rw [ite_t hb9] at h
              try simp only [hb3, hx4, hb6, hb7, hb8, hb9, Nat.reduceBEq, Nat.reduceMul, Nat.reduceAdd, Nat.reduceDiv, Int.reduceBEq, rules2, rulesX, rowsX]
              cases h
              exact ⟨⟨rfl, trivial⟩, rfl⟩
            · rw [ite_f hb9] at h
              rcases Bool.eq_false_or_eq_true (x4.Tugs != (IntKind.i64.wrap ((IntKind.i64.wrap ((IntKind.i64.wrap ((IntKind.i64.wrap (v1 + (1 : Int))) + (1 : Int))) + (1 : Int))) + (1 : Int)))) with hb10 | hb10
              · rw [ite_t hb10] at h
                try simp only [hb3, hx4, hb6, hb7, hb8, hb9, hb10, Nat.reduceBEq, Nat.reduceMul, Nat.reduceAdd, Nat.reduceDiv, Int.reduceBEq, rules2, rulesX, rowsX]
                cases h
                exact ⟨⟨rfl, trivial⟩, rfl⟩
              · rw [ite_f hb10] at h
                rcases Bool.eq_false_or_eq_true (x4.Slow == ((IntKind.i64.wrap (Int.tmod (IntKind.i64.wrap ((IntKind.i64.wrap ((IntKind.i64.wrap ((IntKind.i64.wrap ((IntKind.i64.wrap (v1 + (1 : Int))) + (1 : Int))) + (1 : Int))) + (1 : Int))) + (1 : Int))) (3 : Int))) == (0 : Int))) with hb11 | hb11
                · rw [ite_t hb11] at h
                  try simp only [hb3, hx4, hb6, hb7, hb8, hb9, hb10, hb11, Nat.reduceBEq, Nat.reduceMul, Nat.reduceAdd, Nat.reduceDiv, Int.reduceBEq, rules2, rulesX, rowsX]
                  refine ih _ _ _ h _ ?_
                  try simp only [hb3, hx4, hb6, hb7, hb8, hb9, hb10, hb11, Nat.reduceBEq, Nat.reduceMul, Nat.reduceAdd, Nat.reduceDiv, Int.reduceBEq, rules2, rulesX, rowsX, List.map_nil]
                · rw [ite_f hb11] at h
                  try simp only [hb3, hx4, hb6, hb7, hb8, hb9, hb10, hb11, Nat.reduceBEq, Nat.reduceMul, Nat.reduceAdd, Nat.reduceDiv, Int.reduceBEq, rules2, rulesX, rowsX]
                  cases h
                  exact ⟨⟨rfl, trivial⟩, rfl⟩
      · rw [ite_f hb6] at h
        try simp only [hb3, hx4, hb6, Nat.reduceBEq, Nat.reduceMul, Nat.reduceAdd, Nat.reduceDiv, Int.reduceBEq, rules2, rulesX, rowsX]
        cases h
        exact ⟨⟨rfl, trivial⟩, rfl⟩
    · rw [ite_f hb3] at h
      try simp only [hσ, hb3, c_laws_heldShipS_1, c_laws_heldShipS_n1, Nat.reduceBEq, Nat.reduceMul, Nat.reduceAdd, Nat.reduceDiv, Int.reduceBEq, rules2, rulesX, rowsX]
      cases h
      exact ⟨⟨rfl, trivial⟩, rfl⟩
theorem e_laws_heldShipS : entry Try.prog 61 = some (c_laws_heldShipS.strip, [4], 70) := by kernel_rfl
theorem w_laws_heldShipS (a0 : List XShip) (a1 : Int) (r : Int) (h : f_laws_heldShipS a0 a1 = some r) : FC Try.prog 61 [.sc (.sl (List.map XShip.row a0)), .sc (.int .i64 a1)] [.sc (.v (.int .i64 r))] := by
  unfold f_laws_heldShipS at h
  refine FC_go (σ := ⟨[(0, vc (aL (List.map XShip.row a0))), (1, vc (aI a1))], [], []⟩) mixed e_laws_heldShipS rfl rfl ?_
  simp only [c_laws_heldShipS]
  try simp only [Nat.reduceBEq, Nat.reduceMul, Nat.reduceAdd, Nat.reduceDiv, Int.reduceBEq, rules2, rulesX, rowsX]
  refine w_laws_heldShipS_1 _ _ _ _ _ h _ ?_
  try simp only [Nat.reduceBEq, Nat.reduceMul, Nat.reduceAdd, Nat.reduceDiv, Int.reduceBEq, rules2, rulesX, rowsX, List.map_nil]
/- 32: laws_heldIntS -/
def c_laws_heldIntS_1 : ACode := .seq (.reg [(none, .keep [0, 1, 5] [] [])]) (.seq (.seq (.reg [(none, .mv 6 (S 5)), (none, .mv 7 (S 0)), (none, .len 8 (S 7)), (none, .bin 9 .lss (S 6) (S 8))]) (.cond (S 9) .skip (.exit 0))) (.seq (.block 1 (.seq (.seq (.reg [(none, .mv 12 (S 0)), (none, .mv 13 (S 5)), (none, .iaddr 14 (S 12) (S 13) 1), (none, .load 15 (S 14) false 1), (none, .mv 16 (S 1)), (none, .bin 17 .neq (S 15) (S 16))]) (.cond (S 17) (.seq (.reg [(none, .mv 4 (K (-1)))]) .ret) .skip)) (.reg [(none, .mv 18 (S 1)), (none, .bin 19 .add (S 18) (K 1)), (none, .mv 1 (S 19))]))) (.reg [(none, .mv 10 (S 5)), (none, .bin 11 .add (S 10) (K 1)), (none, .mv 5 (S 11))])))
def c_laws_heldIntS_n1 : ACode := (.seq (.reg [(none, .mv 20 (S 1)), (none, .mv 4 (S 20))]) .ret)
def c_laws_heldIntS : ACode := (.seq (.reg [(none, .mv 4 (K 0))]) (.seq (.seq (.reg [(none, .mv 5 (K 0))]) (.block 0 (.loop c_laws_heldIntS_1))) c_laws_heldIntS_n1))
theorem w_laws_heldIntS_1 (a0 : List Int) : ∀ (n : Nat) (v1 : Int) (v2 : Int) (r : Int), f_laws_heldIntS_1 a0 n v1 v2 = some r → ∀ σ : St, σ.kept [0, 1, 5] [] [] = ⟨[(0, vc (aL (List.map rI a0))), (1, vc (aI v1)), (5, vc (aI v2))], [], []⟩ → go Try.prog (.code (.loop c_laws_heldIntS_1) :: [.blk 0, .code c_laws_heldIntS_n1]) (Ret [4] [.sc (.v (.int .i64 r))]) .normal (some σ) := by
  intro n
  induction n with
  | zero => intro _ _ r h; cases h
  | succ n ih =>
    intro v1 v2 r h σ hσ
    rw [f_laws_heldIntS_1] at h
    refine go_round ?_
    rcases Bool.eq_false_or_eq_true (decide (v2 < (a0.length : Int))) with hb3 | hb3
    · rw [ite_t hb3] at h
      obtain ⟨x4, hx4, h⟩ := ob h
      rcases Bool.eq_false_or_eq_true (x4 != v1) with hb5 | hb5
      · rw [ite_t hb5] at h
        try simp only [hσ, hb3, hx4, hb5, c_laws_heldIntS_1, Nat.reduceBEq, Nat.reduceMul, Nat.reduceAdd, Nat.reduceDiv, Int.reduceBEq, rules2, rulesX, rowsX]
        cases h
        exact ⟨⟨rfl, trivial⟩, rfl⟩
      · rw [ite_f hb5] at h
        try simp only [hσ, hb3, hx4, hb5, c_laws_heldIntS_1, Nat.reduceBEq, Nat.reduceMul, Nat.reduceAdd, Nat.reduceDiv, Int.reduceBEq, rules2, rulesX, rowsX]
        refine ih _ _ _ h _ ?_
        try simp only [hb3, hx4, hb5, Nat.reduceBEq, Nat.reduceMul, Nat.reduceAdd, Nat.reduceDiv, Int.reduceBEq, rules2, rulesX, rowsX, List.map_nil]
    · rw [ite_f hb3] at h
      try simp only [hσ, hb3, c_laws_heldIntS_1, c_laws_heldIntS_n1, Nat.reduceBEq, Nat.reduceMul, Nat.reduceAdd, Nat.reduceDiv, Int.reduceBEq, rules2, rulesX, rowsX]
      cases h
      exact ⟨⟨rfl, trivial⟩, rfl⟩
theorem e_laws_heldIntS : entry Try.prog 32 = some (c_laws_heldIntS.strip, [4], 21) := by kernel_rfl
theorem w_laws_heldIntS (a0 : List Int) (a1 : Int) (r : Int) (h : f_laws_heldIntS a0 a1 = some r) : FC Try.prog 32 [.sc (.sl (List.map rI a0)), .sc (.int .i64 a1)] [.sc (.v (.int .i64 r))] := by
  unfold f_laws_heldIntS at h
  refine FC_go (σ := ⟨[(0, vc (aL (List.map rI a0))), (1, vc (aI a1))], [], []⟩) mixed e_laws_heldIntS rfl rfl ?_
  simp only [c_laws_heldIntS]
  try simp only [Nat.reduceBEq, Nat.reduceMul, Nat.reduceAdd, Nat.reduceDiv, Int.reduceBEq, rules2, rulesX, rowsX]
  refine w_laws_heldIntS_1 _ _ _ _ _ h _ ?_
  try simp only [Nat.reduceBEq, Nat.reduceMul, Nat.reduceAdd, Nat.reduceDiv, Int.reduceBEq, rules2, rulesX, rowsX, List.map_nil]
/- 62: laws_heldCrew -/
def c_laws_heldCrew : ACode := (.seq (.reg [(none, .box 2 (S 0)), (none, .mv 4 (K 0))]) (.seq (.reg [(none, .faddr 5 (S 2) 3), (none, .load 6 (S 5) false 1), (none, .mv 7 (S 1)), (none, .call 8 32 [(S 6), (S 7)]), (none, .mv 1 (S 8))]) (.seq (.seq (.reg [(none, .mv 9 (S 1)), (none, .bin 10 .lss (S 9) (K 0))]) (.cond (S 10) (.seq (.reg [(none, .mv 4 (K (-1)))]) .ret) .skip)) (.seq (.reg [(none, .mv 11 (S 1)), (none, .mv 4 (S 11))]) .ret))))
theorem e_laws_heldCrew : entry Try.prog 62 = some (c_laws_heldCrew.strip, [4], 12) := by kernel_rfl
theorem w_laws_heldCrew (a0 : XCrew) (a1 : Int) (r : Int) (h : f_laws_heldCrew a0 a1 = some r) : FC Try.prog 62 [.ag (XCrew.row a0), .sc (.int .i64 a1)] [.sc (.v (.int .i64 r))] := by
  unfold f_laws_heldCrew at h
  refine FC_go (σ := ⟨[(0, va [aI a0.Tugs, aI a0.Pilots, aI a0.Rest, aL (List.map rI a0.Moves)]), (1, vc (aI a1))], [], []⟩) mixed e_laws_heldCrew rfl rfl ?_
  simp only [c_laws_heldCrew]
  try simp only [Nat.reduceBEq, Nat.reduceMul, Nat.reduceAdd, Nat.reduceDiv, Int.reduceBEq, rules2, rulesX, rowsX]
  refine go_bx rfl rfl rfl ?_
  obtain ⟨r1, hr1, h⟩ := ob h
  try simp only [Nat.reduceBEq, Nat.reduceMul, Nat.reduceAdd, Nat.reduceDiv, Int.reduceBEq, rules2, rulesX, rowsX]
  refine go_callI (w_laws_heldIntS _ _ _ hr1) rfl rfl (Nat.le_of_ble_eq_true rfl) ?_
  rcases Bool.eq_false_or_eq_true (decide (r1 < (0 : Int))) with hb2 | hb2
  · rw [ite_t hb2] at h
    try simp only [hb2, Nat.reduceBEq, Nat.reduceMul, Nat.reduceAdd, Nat.reduceDiv, Int.reduceBEq, rules2, rulesX, rowsX]
    cases h
    exact ⟨⟨rfl, trivial⟩, rfl⟩
  · rw [ite_f hb2] at h
    try simp only [hb2, Nat.reduceBEq, Nat.reduceMul, Nat.reduceAdd, Nat.reduceDiv, Int.reduceBEq, rules2, rulesX, rowsX]
    cases h
    exact ⟨⟨rfl, trivial⟩, rfl⟩
/- 41: laws_heldHarbour -/
def c_laws_heldHarbour : ACode := (.seq (.reg [(none, .box 2 (S 0)), (none, .mv 4 (K 0))]) (.seq (.reg [(none, .faddr 5 (S 2) 0), (none, .load 6 (S 5) true 3), (none, .mv 7 (S 1)), (none, .call 8 59 [(S 6), (S 7)]), (none, .mv 1 (S 8))]) (.seq (.seq (.reg [(none, .mv 9 (S 1)), (none, .bin 10 .lss (S 9) (K 0))]) (.cond (S 10) (.seq (.reg [(none, .mv 4 (K (-1)))]) .ret) .skip)) (.seq (.reg [(none, .faddr 11 (S 2) 3), (none, .load 12 (S 11) true 2), (none, .mv 13 (S 1)), (none, .call 14 60 [(S 12), (S 13)]), (none, .mv 1 (S 14))]) (.seq (.seq (.reg [(none, .mv 15 (S 1)), (none, .bin 16 .lss (S 15) (K 0))]) (.cond (S 16) (.seq (.reg [(none, .mv 4 (K (-1)))]) .ret) .skip)) (.seq (.reg [(none, .faddr 17 (S 2) 5), (none, .load 18 (S 17) false 1), (none, .mv 19 (S 1)), (none, .call 20 61 [(S 18), (S 19)]), (none, .mv 1 (S 20))]) (.seq (.seq (.reg [(none, .mv 21 (S 1)), (none, .bin 22 .lss (S 21) (K 0))]) (.cond (S 22) (.seq (.reg [(none, .mv 4 (K (-1)))]) .ret) .skip)) (.seq (.reg [(none, .faddr 23 (S 2) 8), (none, .load 24 (S 23) true 4), (none, .mv 25 (S 1)), (none, .call 26 62 [(S 24), (S 25)]), (none, .mv 1 (S 26))]) (.seq (.seq (.reg [(none, .mv 27 (S 1)), (none, .bin 28 .lss (S 27) (K 0))]) (.cond (S 28) (.seq (.reg [(none, .mv 4 (K (-1)))]) .ret) .skip)) (.seq (.reg [(none, .mv 29 (S 1)), (none, .mv 4 (S 29))]) .ret))))))))))
theorem e_laws_heldHarbour : entry Try.prog 41 = some (c_laws_heldHarbour.strip, [4], 30) := by kernel_rfl
theorem w_laws_heldHarbour (a0 : XHarbour) (a1 : Int) (r : Int) (h : f_laws_heldHarbour a0 a1 = some r) : FC Try.prog 41 [.ag (XHarbour.row a0), .sc (.int .i64 a1)] [.sc (.v (.int .i64 r))] := by
  unfold f_laws_heldHarbour at h
  refine FC_go (σ := ⟨[(0, va [aI a0.Forecast.Tide.Mean, aL (List.map XPart.row a0.Forecast.Tide.Parts), aL (List.map XSurge.row a0.Forecast.Surges), aL (List.map XPoint.row a0.Chart.Points), aL (List.map XSegment.row a0.Chart.Segments), aL (List.map XShip.row a0.Fleet), aI a0.Regime.Gap, aB a0.Regime.NoMeet, aI a0.Crew.Tugs, aI a0.Crew.Pilots, aI a0.Crew.Rest, aL (List.map rI a0.Crew.Moves)]), (1, vc (aI a1))], [], []⟩) mixed e_laws_heldHarbour rfl rfl ?_
  simp only [c_laws_heldHarbour]
  try simp only [Nat.reduceBEq, Nat.reduceMul, Nat.reduceAdd, Nat.reduceDiv, Int.reduceBEq, rules2, rulesX, rowsX]
  refine go_bx rfl rfl rfl ?_
  obtain ⟨r1, hr1, h⟩ := ob h
  try simp only [Nat.reduceBEq, Nat.reduceMul, Nat.reduceAdd, Nat.reduceDiv, Int.reduceBEq, rules2, rulesX, rowsX]
  refine go_callI (w_laws_heldForecast _ _ _ hr1) rfl rfl (Nat.le_of_ble_eq_true rfl) ?_
  rcases Bool.eq_false_or_eq_true (decide (r1 < (0 : Int))) with hb2 | hb2
  · rw [ite_t hb2] at h
    try simp only [hb2, Nat.reduceBEq, Nat.reduceMul, Nat.reduceAdd, Nat.reduceDiv, Int.reduceBEq, rules2, rulesX, rowsX]
    cases h
    exact ⟨⟨rfl, trivial⟩, rfl⟩
  · rw [ite_f hb2] at h
    obtain ⟨r3, hr3, h⟩ := ob h
    try simp only [hb2, Nat.reduceBEq, Nat.reduceMul, Nat.reduceAdd, Nat.reduceDiv, Int.reduceBEq, rules2, rulesX, rowsX]
    refine go_callI (w_laws_heldChart _ _ _ hr3) rfl rfl (Nat.le_of_ble_eq_true rfl) ?_
    rcases Bool.eq_false_or_eq_true (decide (r3 < (0 : Int))) with hb4 | hb4
    · rw [ite_t hb4] at h
      try simp only [hb2, hb4, Nat.reduceBEq, Nat.reduceMul, Nat.reduceAdd, Nat.reduceDiv, Int.reduceBEq, rules2, rulesX, rowsX]
      cases h
      exact ⟨⟨rfl, trivial⟩, rfl⟩
    · rw [ite_f hb4] at h
      obtain ⟨r5, hr5, h⟩ := ob h
      try simp only [hb2, hb4, Nat.reduceBEq, Nat.reduceMul, Nat.reduceAdd, Nat.reduceDiv, Int.reduceBEq, rules2, rulesX, rowsX]
      refine go_callI (w_laws_heldShipS _ _ _ hr5) rfl rfl (Nat.le_of_ble_eq_true rfl) ?_
      rcases Bool.eq_false_or_eq_true (decide (r5 < (0 : Int))) with hb6 | hb6
      · rw [ite_t hb6] at h
        try simp only [hb2, hb4, hb6, Nat.reduceBEq, Nat.reduceMul, Nat.reduceAdd, Nat.reduceDiv, Int.reduceBEq, rules2, rulesX, rowsX]
        cases h
        exact ⟨⟨rfl, trivial⟩, rfl⟩
      · rw [ite_f hb6] at h
        obtain ⟨r7, hr7, h⟩ := ob h
        try simp only [hb2, hb4, hb6, Nat.reduceBEq, Nat.reduceMul, Nat.reduceAdd, Nat.reduceDiv, Int.reduceBEq, rules2, rulesX, rowsX]
        refine go_callI (w_laws_heldCrew _ _ _ hr7) rfl rfl (Nat.le_of_ble_eq_true rfl) ?_
        rcases Bool.eq_false_or_eq_true (decide (r7 < (0 : Int))) with hb8 | hb8
        · rw [ite_t hb8] at h
          try simp only [hb2, hb4, hb6, hb8, Nat.reduceBEq, Nat.reduceMul, Nat.reduceAdd, Nat.reduceDiv, Int.reduceBEq, rules2, rulesX, rowsX]
          cases h
          exact ⟨⟨rfl, trivial⟩, rfl⟩
        · rw [ite_f hb8] at h
          try simp only [hb2, hb4, hb6, hb8, Nat.reduceBEq, Nat.reduceMul, Nat.reduceAdd, Nat.reduceDiv, Int.reduceBEq, rules2, rulesX, rowsX]
          cases h
          exact ⟨⟨rfl, trivial⟩, rfl⟩
/- 42: laws_heldCallS -/
def c_laws_heldCallS_1 : ACode := .seq (.reg [(none, .keep [0, 1, 5] [] [])]) (.seq (.seq (.reg [(none, .mv 6 (S 5)), (none, .mv 7 (S 0)), (none, .len 8 (S 7)), (none, .bin 9 .lss (S 6) (S 8))]) (.cond (S 9) .skip (.exit 0))) (.seq (.block 1 (.seq (.seq (.reg [(none, .mv 12 (S 0)), (none, .mv 13 (S 5)), (none, .iaddr 14 (S 12) (S 13) 5), (none, .faddr 15 (S 14) 0), (none, .load 16 (S 15) false 1), (none, .mv 17 (S 1)), (none, .bin 18 .neq (S 16) (S 17))]) (.cond (S 18) (.seq (.reg [(none, .mv 4 (K (-1)))]) .ret) .skip)) (.seq (.reg [(none, .mv 19 (S 1)), (none, .bin 20 .add (S 19) (K 1)), (none, .mv 1 (S 20))]) (.seq (.seq (.reg [(none, .mv 21 (S 0)), (none, .mv 22 (S 5)), (none, .iaddr 23 (S 21) (S 22) 5), (none, .faddr 24 (S 23) 1), (none, .load 25 (S 24) false 1), (none, .mv 26 (S 1)), (none, .bin 27 .neq (S 25) (S 26))]) (.cond (S 27) (.seq (.reg [(none, .mv 4 (K (-1)))]) .ret) .skip)) (.seq (.reg [(none, .mv 28 (S 1)), (none, .bin 29 .add (S 28) (K 1)), (none, .mv 1 (S 29))]) (.seq (.seq (.reg [(none, .mv 30 (S 0)), (none, .mv 31 (S 5)), (none, .iaddr 32 (S 30) (S 31) 5), (none, .faddr 33 (S 32) 2), (none, .load 34 (S 33) false 1), (none, .mv 35 (S 1)), (none, .bin 36 .neq (S 34) (S 35))]) (.cond (S 36) (.seq (.reg [(none, .mv 4 (K (-1)))]) .ret) .skip)) (.seq (.reg [(none, .mv 37 (S 1)), (none, .bin 38 .add (S 37) (K 1)), (none, .mv 1 (S 38))]) (.seq (.seq (.reg [(none, .mv 39 (S 0)), (none, .mv 40 (S 5)), (none, .iaddr 41 (S 39) (S 40) 5), (none, .faddr 42 (S 41) 3), (none, .load 43 (S 42) false 1), (none, .mv 44 (S 1)), (none, .bin 45 .neq (S 43) (S 44))]) (.cond (S 45) (.seq (.reg [(none, .mv 4 (K (-1)))]) .ret) .skip)) (.seq (.reg [(none, .mv 46 (S 1)), (none, .bin 47 .add (S 46) (K 1)), (none, .mv 1 (S 47))]) (.seq (.seq (.reg [(none, .mv 48 (S 0)), (none, .mv 49 (S 5)), (none, .iaddr 50 (S 48) (S 49) 5), (none, .faddr 51 (S 50) 4), (none, .load 52 (S 51) false 1), (none, .mv 53 (S 1)), (none, .bin 54 .neq (S 52) (S 53))]) (.cond (S 54) (.seq (.reg [(none, .mv 4 (K (-1)))]) .ret) .skip)) (.reg [(none, .mv 55 (S 1)), (none, .bin 56 .add (S 55) (K 1)), (none, .mv 1 (S 56))]))))))))))) (.reg [(none, .mv 10 (S 5)), (none, .bin 11 .add (S 10) (K 1)), (none, .mv 5 (S 11))])))
def c_laws_heldCallS_n1 : ACode := (.seq (.reg [(none, .mv 57 (S 1)), (none, .mv 4 (S 57))]) .ret)
def c_laws_heldCallS : ACode := (.seq (.reg [(none, .mv 4 (K 0))]) (.seq (.seq (.reg [(none, .mv 5 (K 0))]) (.block 0 (.loop c_laws_heldCallS_1))) c_laws_heldCallS_n1))
theorem w_laws_heldCallS_1 (a0 : List XCall) : ∀ (n : Nat) (v1 : Int) (v2 : Int) (r : Int), f_laws_heldCallS_1 a0 n v1 v2 = some r → ∀ σ : St, σ.kept [0, 1, 5] [] [] = ⟨[(0, vc (aL (List.map XCall.row a0))), (1, vc (aI v1)), (5, vc (aI v2))], [], []⟩ → go Try.prog (.code (.loop c_laws_heldCallS_1) :: [.blk 0, .code c_laws_heldCallS_n1]) (Ret [4] [.sc (.v (.int .i64 r))]) .normal (some σ) := by
  intro n
  induction n with
  | zero => intro _ _ r h; cases h
  | succ n ih =>
    intro v1 v2 r h σ hσ
    rw [f_laws_heldCallS_1] at h
    refine go_round ?_
    rcases Bool.eq_false_or_eq_true (decide (v2 < (a0.length : Int))) with hb3 | hb3
    · rw [ite_t hb3] at h
      obtain ⟨x4, hx4, h⟩ := ob h
      rcases Bool.eq_false_or_eq_true (x4.Ship != v1) with hb5 | hb5
      · rw [ite_t hb5] at h
        try simp only [hσ, hb3, hx4, hb5, c_laws_heldCallS_1, Nat.reduceBEq, Nat.reduceMul, Nat.reduceAdd, Nat.reduceDiv, Int.reduceBEq, rules2, rulesX, rowsX]
        cases h
        exact ⟨⟨rfl, trivial⟩, rfl⟩
      · rw [ite_f hb5] at h
        rcases Bool.eq_false_or_eq_true (x4.From != (IntKind.i64.wrap (v1 + (1 : Int)))) with hb6 | hb6
        · rw [ite_t hb6] at h
          try simp only [hσ, hb3, hx4, hb5, hb6, c_laws_heldCallS_1, Nat.reduceBEq, Nat.reduceMul, Nat.reduceAdd, Nat.reduceDiv, Int.reduceBEq, rules2, rulesX, rowsX]
          cases h
          exact ⟨⟨rfl, trivial⟩, rfl⟩
        · rw [ite_f hb6] at h
          rcases Bool.eq_false_or_eq_true (x4.To != (IntKind.i64.wrap ((IntKind.i64.wrap (v1 + (1 : Int))) + (1 : Int)))) with hb7 | hb7
          · rw [ite_t hb7] at h
            try simp only [hσ, hb3, hx4, hb5, hb6, hb7, c_laws_heldCallS_1, Nat.reduceBEq, Nat.reduceMul, Nat.reduceAdd, Nat.reduceDiv, Int.reduceBEq, rules2, rulesX, rowsX]
            cases h
            exact ⟨⟨rfl, trivial⟩, rfl⟩
          · rw [ite_f hb7] at h
            rcases Bool.eq_false_or_eq_true (x4.Ready != (IntKind.i64.wrap ((IntKind.i64.wrap ((IntKind.i64.wrap (v1 + (1 : Int))) + (1 : Int))) + (1 : Int)))) with hb8 | hb8
            · rw [ite_t hb8] at h
              try simp only [hσ, hb3, hx4, hb5, hb6, hb7, hb8, c_laws_heldCallS_1, Nat.reduceBEq, Nat.reduceMul, Nat.reduceAdd, Nat.reduceDiv, Int.reduceBEq, rules2, rulesX, rowsX]
              cases h
              exact ⟨⟨rfl, trivial⟩, rfl⟩
            · rw [ite_f hb8] at h
              rcases Bool.eq_false_or_eq_true (x4.Due != (IntKind.i64.wrap ((IntKind.i64.wrap ((IntKind.i64.wrap ((IntKind.i64.wrap (v1 + (1 : Int))) + (1 : Int))) + (1 : Int))) + (1 : Int)))) with hb9 | hb9
              · rw [ite_t hb9] at h
                try simp only [hσ, hb3, hx4, hb5, hb6, hb7, hb8, hb9, c_laws_heldCallS_1, Nat.reduceBEq, Nat.reduceMul, Nat.reduceAdd, Nat.reduceDiv, Int.reduceBEq, rules2, rulesX, rowsX]
                cases h
                exact ⟨⟨rfl, trivial⟩, rfl⟩
              · rw [ite_f hb9] at h
                try simp only [hσ, hb3, hx4, hb5, hb6, hb7, hb8, hb9, c_laws_heldCallS_1, Nat.reduceBEq, Nat.reduceMul, Nat.reduceAdd, Nat.reduceDiv, Int.reduceBEq, rules2, rulesX, rowsX]
                refine ih _ _ _ h _ ?_
                try simp only [hb3, hx4, hb5, hb6, hb7, hb8, hb9, Nat.reduceBEq, Nat.reduceMul, Nat.reduceAdd, Nat.reduceDiv, Int.reduceBEq, rules2, rulesX, rowsX, List.map_nil]
    · rw [ite_f hb3] at h
      try simp only [hσ, hb3, c_laws_heldCallS_1, c_laws_heldCallS_n1, Nat.reduceBEq, Nat.reduceMul, Nat.reduceAdd, Nat.reduceDiv, Int.reduceBEq, rules2, rulesX, rowsX]
      cases h
      exact ⟨⟨rfl, trivial⟩, rfl⟩
theorem e_laws_heldCallS : entry Try.prog 42 = some (c_laws_heldCallS.strip, [4], 58) := by kernel_rfl
theorem w_laws_heldCallS (a0 : List XCall) (a1 : Int) (r : Int) (h : f_laws_heldCallS a0 a1 = some r) : FC Try.prog 42 [.sc (.sl (List.map XCall.row a0)), .sc (.int .i64 a1)] [.sc (.v (.int .i64 r))] := by
  unfold f_laws_heldCallS at h
  refine FC_go (σ := ⟨[(0, vc (aL (List.map XCall.row a0))), (1, vc (aI a1))], [], []⟩) mixed e_laws_heldCallS rfl rfl ?_
  simp only [c_laws_heldCallS]
  try simp only [Nat.reduceBEq, Nat.reduceMul, Nat.reduceAdd, Nat.reduceDiv, Int.reduceBEq, rules2, rulesX, rowsX]
  refine w_laws_heldCallS_1 _ _ _ _ _ h _ ?_
  try simp only [Nat.reduceBEq, Nat.reduceMul, Nat.reduceAdd, Nat.reduceDiv, Int.reduceBEq, rules2, rulesX, rowsX, List.map_nil]
/- 33: laws_heldBoolS -/
def c_laws_heldBoolS_1 : ACode := .seq (.reg [(none, .keep [0, 1, 5] [] [])]) (.seq (.seq (.reg [(none, .mv 6 (S 5)), (none, .mv 7 (S 0)), (none, .len 8 (S 7)), (none, .bin 9 .lss (S 6) (S 8))]) (.cond (S 9) .skip (.exit 0))) (.seq (.block 1 (.seq (.seq (.reg [(none, .mv 12 (S 0)), (none, .mv 13 (S 5)), (none, .iaddr 14 (S 12) (S 13) 1), (none, .load 15 (S 14) false 1), (none, .mv 16 (S 1)), (none, .bin 17 .rem (S 16) (K 3)), (none, .bin 18 .eql (S 17) (K 0)), (none, .beq 19 true (S 15) (S 18))]) (.cond (S 19) (.seq (.reg [(none, .mv 4 (K (-1)))]) .ret) .skip)) (.reg [(none, .mv 20 (S 1)), (none, .bin 21 .add (S 20) (K 1)), (none, .mv 1 (S 21))]))) (.reg [(none, .mv 10 (S 5)), (none, .bin 11 .add (S 10) (K 1)), (none, .mv 5 (S 11))])))
def c_laws_heldBoolS_n1 : ACode := (.seq (.reg [(none, .mv 22 (S 1)), (none, .mv 4 (S 22))]) .ret)
def c_laws_heldBoolS : ACode := (.seq (.reg [(none, .mv 4 (K 0))]) (.seq (.seq (.reg [(none, .mv 5 (K 0))]) (.block 0 (.loop c_laws_heldBoolS_1))) c_laws_heldBoolS_n1))
theorem w_laws_heldBoolS_1 (a0 : List Bool) : ∀ (n : Nat) (v1 : Int) (v2 : Int) (r : Int), f_laws_heldBoolS_1 a0 n v1 v2 = some r → ∀ σ : St, σ.kept [0, 1, 5] [] [] = ⟨[(0, vc (aL (List.map rB a0))), (1, vc (aI v1)), (5, vc (aI v2))], [], []⟩ → go Try.prog (.code (.loop c_laws_heldBoolS_1) :: [.blk 0, .code c_laws_heldBoolS_n1]) (Ret [4] [.sc (.v (.int .i64 r))]) .normal (some σ) := by
  intro n
  induction n with
  | zero => intro _ _ r h; cases h
  | succ n ih =>
    intro v1 v2 r h σ hσ
    rw [f_laws_heldBoolS_1] at h
    refine go_round ?_
    rcases Bool.eq_false_or_eq_true (decide (v2 < (a0.length : Int))) with hb3 | hb3
    · rw [ite_t hb3] at h
      obtain ⟨x4, hx4, h⟩ := ob h
      rcases Bool.eq_false_or_eq_true (x4 == ((IntKind.i64.wrap (Int.tmod v1 (3 : Int))) == (0 : Int))) with hb5 | hb5
      · rw [ite_t hb5] at h
        try simp only [hσ, hb3, hx4, hb5, c_laws_heldBoolS_1, Nat.reduceBEq, Nat.reduceMul, Nat.reduceAdd, Nat.reduceDiv, Int.reduceBEq, rules2, rulesX, rowsX]
        refine ih _ _ _ h _ ?_
        try simp only [hb3, hx4, hb5, Nat.reduceBEq, Nat.reduceMul, Nat.reduceAdd, Nat.reduceDiv, Int.reduceBEq, rules2, rulesX, rowsX, List.map_nil]
      · rw [ite_f hb5] at h
        try simp only [hσ, hb3, hx4, hb5, c_laws_heldBoolS_1, Nat.reduceBEq, Nat.reduceMul, Nat.reduceAdd, Nat.reduceDiv, Int.reduceBEq, rules2, rulesX, rowsX]
        cases h
        exact ⟨⟨rfl, trivial⟩, rfl⟩
    · rw [ite_f hb3] at h
      try simp only [hσ, hb3, c_laws_heldBoolS_1, c_laws_heldBoolS_n1, Nat.reduceBEq, Nat.reduceMul, Nat.reduceAdd, Nat.reduceDiv, Int.reduceBEq, rules2, rulesX, rowsX]
      cases h
      exact ⟨⟨rfl, trivial⟩, rfl⟩
theorem e_laws_heldBoolS : entry Try.prog 33 = some (c_laws_heldBoolS.strip, [4], 23) := by kernel_rfl
theorem w_laws_heldBoolS (a0 : List Bool) (a1 : Int) (r : Int) (h : f_laws_heldBoolS a0 a1 = some r) : FC Try.prog 33 [.sc (.sl (List.map rB a0)), .sc (.int .i64 a1)] [.sc (.v (.int .i64 r))] := by
  unfold f_laws_heldBoolS at h
  refine FC_go (σ := ⟨[(0, vc (aL (List.map rB a0))), (1, vc (aI a1))], [], []⟩) mixed e_laws_heldBoolS rfl rfl ?_
  simp only [c_laws_heldBoolS]
  try simp only [Nat.reduceBEq, Nat.reduceMul, Nat.reduceAdd, Nat.reduceDiv, Int.reduceBEq, rules2, rulesX, rowsX]
  refine w_laws_heldBoolS_1 _ _ _ _ _ h _ ?_
  try simp only [Nat.reduceBEq, Nat.reduceMul, Nat.reduceAdd, Nat.reduceDiv, Int.reduceBEq, rules2, rulesX, rowsX, List.map_nil]
/- 12: laws_heldDesk -/
def c_laws_heldDesk : ACode := (.seq (.reg [(none, .box 2 (S 0)), (none, .mv 4 (K 0))]) (.seq (.reg [(none, .faddr 5 (S 2) 1), (none, .load 6 (S 5) false 1), (none, .mv 7 (S 1)), (none, .call 8 32 [(S 6), (S 7)]), (none, .mv 1 (S 8))]) (.seq (.seq (.reg [(none, .mv 9 (S 1)), (none, .bin 10 .lss (S 9) (K 0))]) (.cond (S 10) (.seq (.reg [(none, .mv 4 (K (-1)))]) .ret) .skip)) (.seq (.reg [(none, .faddr 11 (S 2) 2), (none, .load 12 (S 11) false 1), (none, .mv 13 (S 1)), (none, .call 14 33 [(S 12), (S 13)]), (none, .mv 1 (S 14))]) (.seq (.seq (.reg [(none, .mv 15 (S 1)), (none, .bin 16 .lss (S 15) (K 0))]) (.cond (S 16) (.seq (.reg [(none, .mv 4 (K (-1)))]) .ret) .skip)) (.seq (.reg [(none, .mv 17 (S 1)), (none, .mv 4 (S 17))]) .ret))))))
theorem e_laws_heldDesk : entry Try.prog 12 = some (c_laws_heldDesk.strip, [4], 18) := by kernel_rfl
theorem w_laws_heldDesk (a0 : XDesk) (a1 : Int) (r : Int) (h : f_laws_heldDesk a0 a1 = some r) : FC Try.prog 12 [.ag (XDesk.row a0), .sc (.int .i64 a1)] [.sc (.v (.int .i64 r))] := by
  unfold f_laws_heldDesk at h
  refine FC_go (σ := ⟨[(0, va [aI a0.Now, aL (List.map rI a0.Starts), aL (List.map rB a0.Cleared)]), (1, vc (aI a1))], [], []⟩) mixed e_laws_heldDesk rfl rfl ?_
  simp only [c_laws_heldDesk]
  try simp only [Nat.reduceBEq, Nat.reduceMul, Nat.reduceAdd, Nat.reduceDiv, Int.reduceBEq, rules2, rulesX, rowsX]
  refine go_bx rfl rfl rfl ?_
  obtain ⟨r1, hr1, h⟩ := ob h
  try simp only [Nat.reduceBEq, Nat.reduceMul, Nat.reduceAdd, Nat.reduceDiv, Int.reduceBEq, rules2, rulesX, rowsX]
  refine go_callI (w_laws_heldIntS _ _ _ hr1) rfl rfl (Nat.le_of_ble_eq_true rfl) ?_
  rcases Bool.eq_false_or_eq_true (decide (r1 < (0 : Int))) with hb2 | hb2
  · rw [ite_t hb2] at h
    try simp only [hb2, Nat.reduceBEq, Nat.reduceMul, Nat.reduceAdd, Nat.reduceDiv, Int.reduceBEq, rules2, rulesX, rowsX]
    cases h
    exact ⟨⟨rfl, trivial⟩, rfl⟩
  · rw [ite_f hb2] at h
    obtain ⟨r3, hr3, h⟩ := ob h
    try simp only [hb2, Nat.reduceBEq, Nat.reduceMul, Nat.reduceAdd, Nat.reduceDiv, Int.reduceBEq, rules2, rulesX, rowsX]
    refine go_callI (w_laws_heldBoolS _ _ _ hr3) rfl rfl (Nat.le_of_ble_eq_true rfl) ?_
    rcases Bool.eq_false_or_eq_true (decide (r3 < (0 : Int))) with hb4 | hb4
    · rw [ite_t hb4] at h
      try simp only [hb2, hb4, Nat.reduceBEq, Nat.reduceMul, Nat.reduceAdd, Nat.reduceDiv, Int.reduceBEq, rules2, rulesX, rowsX]
      cases h
      exact ⟨⟨rfl, trivial⟩, rfl⟩
    · rw [ite_f hb4] at h
      try simp only [hb2, hb4, Nat.reduceBEq, Nat.reduceMul, Nat.reduceAdd, Nat.reduceDiv, Int.reduceBEq, rules2, rulesX, rowsX]
      cases h
      exact ⟨⟨rfl, trivial⟩, rfl⟩
/- 17: laws_heldConsole -/
def c_laws_heldConsole : ACode := (.seq (.reg [(none, .box 2 (S 0)), (none, .mv 4 (K 0))]) (.seq (.reg [(none, .faddr 5 (S 2) 0), (none, .load 6 (S 5) true 12), (none, .mv 7 (S 1)), (none, .call 8 41 [(S 6), (S 7)]), (none, .mv 1 (S 8))]) (.seq (.seq (.reg [(none, .mv 9 (S 1)), (none, .bin 10 .lss (S 9) (K 0))]) (.cond (S 10) (.seq (.reg [(none, .mv 4 (K (-1)))]) .ret) .skip)) (.seq (.reg [(none, .faddr 11 (S 2) 12), (none, .load 12 (S 11) false 1), (none, .mv 13 (S 1)), (none, .call 14 42 [(S 12), (S 13)]), (none, .mv 1 (S 14))]) (.seq (.seq (.reg [(none, .mv 15 (S 1)), (none, .bin 16 .lss (S 15) (K 0))]) (.cond (S 16) (.seq (.reg [(none, .mv 4 (K (-1)))]) .ret) .skip)) (.seq (.reg [(none, .faddr 17 (S 2) 13), (none, .load 18 (S 17) true 3), (none, .mv 19 (S 1)), (none, .call 20 12 [(S 18), (S 19)]), (none, .mv 1 (S 20))]) (.seq (.seq (.reg [(none, .mv 21 (S 1)), (none, .bin 22 .lss (S 21) (K 0))]) (.cond (S 22) (.seq (.reg [(none, .mv 4 (K (-1)))]) .ret) .skip)) (.seq (.reg [(none, .mv 23 (S 1)), (none, .mv 4 (S 23))]) .ret))))))))
theorem e_laws_heldConsole : entry Try.prog 17 = some (c_laws_heldConsole.strip, [4], 24) := by kernel_rfl
theorem w_laws_heldConsole (a0 : XConsole) (a1 : Int) (r : Int) (h : f_laws_heldConsole a0 a1 = some r) : FC Try.prog 17 [.ag (XConsole.row a0), .sc (.int .i64 a1)] [.sc (.v (.int .i64 r))] := by
  unfold f_laws_heldConsole at h
  refine FC_go (σ := ⟨[(0, va [aI a0.Harbour.Forecast.Tide.Mean, aL (List.map XPart.row a0.Harbour.Forecast.Tide.Parts), aL (List.map XSurge.row a0.Harbour.Forecast.Surges), aL (List.map XPoint.row a0.Harbour.Chart.Points), aL (List.map XSegment.row a0.Harbour.Chart.Segments), aL (List.map XShip.row a0.Harbour.Fleet), aI a0.Harbour.Regime.Gap, aB a0.Harbour.Regime.NoMeet, aI a0.Harbour.Crew.Tugs, aI a0.Harbour.Crew.Pilots, aI a0.Harbour.Crew.Rest, aL (List.map rI a0.Harbour.Crew.Moves), aL (List.map XCall.row a0.Calls), aI a0.Desk.Now, aL (List.map rI a0.Desk.Starts), aL (List.map rB a0.Desk.Cleared)]), (1, vc (aI a1))], [], []⟩) mixed e_laws_heldConsole rfl rfl ?_
  simp only [c_laws_heldConsole]
  try simp only [Nat.reduceBEq, Nat.reduceMul, Nat.reduceAdd, Nat.reduceDiv, Int.reduceBEq, rules2, rulesX, rowsX]
  refine go_bx rfl rfl rfl ?_
  obtain ⟨r1, hr1, h⟩ := ob h
  try simp only [Nat.reduceBEq, Nat.reduceMul, Nat.reduceAdd, Nat.reduceDiv, Int.reduceBEq, rules2, rulesX, rowsX]
  refine go_callI (w_laws_heldHarbour _ _ _ hr1) rfl rfl (Nat.le_of_ble_eq_true rfl) ?_
  rcases Bool.eq_false_or_eq_true (decide (r1 < (0 : Int))) with hb2 | hb2
  · rw [ite_t hb2] at h
    try simp only [hb2, Nat.reduceBEq, Nat.reduceMul, Nat.reduceAdd, Nat.reduceDiv, Int.reduceBEq, rules2, rulesX, rowsX]
    cases h
    exact ⟨⟨rfl, trivial⟩, rfl⟩
  · rw [ite_f hb2] at h
    obtain ⟨r3, hr3, h⟩ := ob h
    try simp only [hb2, Nat.reduceBEq, Nat.reduceMul, Nat.reduceAdd, Nat.reduceDiv, Int.reduceBEq, rules2, rulesX, rowsX]
    refine go_callI (w_laws_heldCallS _ _ _ hr3) rfl rfl (Nat.le_of_ble_eq_true rfl) ?_
    rcases Bool.eq_false_or_eq_true (decide (r3 < (0 : Int))) with hb4 | hb4
    · rw [ite_t hb4] at h
      try simp only [hb2, hb4, Nat.reduceBEq, Nat.reduceMul, Nat.reduceAdd, Nat.reduceDiv, Int.reduceBEq, rules2, rulesX, rowsX]
      cases h
      exact ⟨⟨rfl, trivial⟩, rfl⟩
    · rw [ite_f hb4] at h
      obtain ⟨r5, hr5, h⟩ := ob h
      try simp only [hb2, hb4, Nat.reduceBEq, Nat.reduceMul, Nat.reduceAdd, Nat.reduceDiv, Int.reduceBEq, rules2, rulesX, rowsX]
      refine go_callI (w_laws_heldDesk _ _ _ hr5) rfl rfl (Nat.le_of_ble_eq_true rfl) ?_
      rcases Bool.eq_false_or_eq_true (decide (r5 < (0 : Int))) with hb6 | hb6
      · rw [ite_t hb6] at h
        try simp only [hb2, hb4, hb6, Nat.reduceBEq, Nat.reduceMul, Nat.reduceAdd, Nat.reduceDiv, Int.reduceBEq, rules2, rulesX, rowsX]
        cases h
        exact ⟨⟨rfl, trivial⟩, rfl⟩
      · rw [ite_f hb6] at h
        try simp only [hb2, hb4, hb6, Nat.reduceBEq, Nat.reduceMul, Nat.reduceAdd, Nat.reduceDiv, Int.reduceBEq, rules2, rulesX, rowsX]
        cases h
        exact ⟨⟨rfl, trivial⟩, rfl⟩
/- 4: laws_FnExactNewConsole -/
def c_laws_FnExactNewConsole : ACode := (.seq (.reg [(none, .mv 0 (KB false))]) (.seq (.reg [(none, .call 6 13 []), (none, .alloc 1 [aI 0, .nil, .nil, .nil, .nil, .nil, aI 0, aB false, aI 0, aI 0, aI 0, .nil, .nil, aI 0, .nil, .nil]), (none, .store (S 1) (S 6) 16)]) (.seq (.reg [(none, .call 7 14 []), (none, .alloc 2 [aI 0, .nil, .nil, .nil, .nil, .nil, aI 0, aB false, aI 0, aI 0, aI 0, .nil, .nil, aI 0, .nil, .nil]), (none, .store (S 2) (S 7) 16)]) (.seq (.seq (.reg [(none, .load 8 (S 2) true 16), (none, .load 9 (S 1) true 16), (none, .call 10 15 [(S 8), (S 9)]), (none, .un 11 .not (S 10))]) (.cond (S 11) (.seq (.reg [(none, .mv 0 (KB false))]) .ret) .skip)) (.seq (.reg [(none, .mv 3 (K 1))]) (.seq (.reg [(none, .load 12 (S 2) true 16), (none, .mv 13 (S 3)), (none, .call 14 16 [(S 12), (S 13)]), (none, .mv 3 (S 14))]) (.seq (.reg [(none, .mv 4 (K 1))]) (.seq (.reg [(none, .load 15 (S 2) true 16), (none, .mv 16 (S 4)), (none, .call 17 17 [(S 15), (S 16)]), (none, .mv 4 (S 17))]) (.seq (.seq (.reg [(none, .mv 18 (S 4)), (none, .bin 19 .lss (S 18) (K 0))]) (.cond (S 19) (.seq (.reg [(none, .mv 0 (KB false))]) .ret) .skip)) (.seq (.seq (.reg [(none, .mv 20 (S 4)), (none, .mv 21 (S 3)), (none, .bin 22 .neq (S 20) (S 21))]) (.cond (S 22) (.seq (.reg [(none, .mv 0 (KB false))]) .ret) .skip)) (.seq (.reg [(none, .call 23 14 []), (none, .alloc 5 [aI 0, .nil, .nil, .nil, .nil, .nil, aI 0, aB false, aI 0, aI 0, aI 0, .nil, .nil, aI 0, .nil, .nil]), (none, .store (S 5) (S 23) 16)]) (.seq (.seq (.reg [(none, .load 24 (S 5) true 16), (none, .load 25 (S 1) true 16), (none, .call 26 15 [(S 24), (S 25)]), (none, .un 27 .not (S 26))]) (.cond (S 27) (.seq (.reg [(none, .mv 0 (KB false))]) .ret) .skip)) (.seq (.reg [(none, .mv 4 (K 1))]) (.seq (.reg [(none, .load 28 (S 2) true 16), (none, .mv 29 (S 4)), (none, .call 30 17 [(S 28), (S 29)]), (none, .mv 4 (S 30))]) (.seq (.seq (.reg [(none, .mv 31 (S 4)), (none, .bin 32 .lss (S 31) (K 0))]) (.cond (S 32) (.seq (.reg [(none, .mv 0 (KB false))]) .ret) .skip)) (.seq (.seq (.reg [(none, .mv 33 (S 4)), (none, .mv 34 (S 3)), (none, .bin 35 .neq (S 33) (S 34))]) (.cond (S 35) (.seq (.reg [(none, .mv 0 (KB false))]) .ret) .skip)) (.seq (.reg [(none, .mv 0 (KB true))]) .ret)))))))))))))))))
theorem e_laws_FnExactNewConsole : entry Try.prog 4 = some (c_laws_FnExactNewConsole.strip, [0], 36) := by kernel_rfl
theorem w_laws_FnExactNewConsole (r : Bool) (h : f_laws_FnExactNewConsole = some r) : FC Try.prog 4 [] [.sc (.v (.bool r))] := by
  unfold f_laws_FnExactNewConsole at h
  refine FC_go (σ := ⟨[], [], []⟩) mixed e_laws_FnExactNewConsole rfl rfl ?_
  simp only [c_laws_FnExactNewConsole]
  obtain ⟨r1, hr1, h⟩ := ob h
  try simp only [Nat.reduceBEq, Nat.reduceMul, Nat.reduceAdd, Nat.reduceDiv, Int.reduceBEq, rules2, rulesX, rowsX]
  refine go_callI (w_spec_NewConsole _ hr1) rfl rfl (Nat.le_of_ble_eq_true rfl) ?_
  try simp only [Nat.reduceBEq, Nat.reduceMul, Nat.reduceAdd, Nat.reduceDiv, Int.reduceBEq, rules2, rulesX, rowsX]
  refine go_al rfl rfl ?_
  obtain ⟨r2, hr2, h⟩ := ob h
  try simp only [Nat.reduceBEq, Nat.reduceMul, Nat.reduceAdd, Nat.reduceDiv, Int.reduceBEq, rules2, rulesX, rowsX]
  refine go_callI (w_impl_NewConsole _ hr2) rfl rfl (Nat.le_of_ble_eq_true rfl) ?_
  try simp only [Nat.reduceBEq, Nat.reduceMul, Nat.reduceAdd, Nat.reduceDiv, Int.reduceBEq, rules2, rulesX, rowsX]
  refine go_al rfl rfl ?_
  obtain ⟨r3, hr3, h⟩ := ob h
  try simp only [Nat.reduceBEq, Nat.reduceMul, Nat.reduceAdd, Nat.reduceDiv, Int.reduceBEq, rules2, rulesX, rowsX]
  refine go_call (w_laws_eqConsole _ _ _ hr3) rfl (flat_of rfl) rfl (Nat.le_of_ble_eq_true rfl) ?_
  rcases Bool.eq_false_or_eq_true r3 with hb4 | hb4
  · rw [ite_t hb4] at h
    obtain ⟨r5, hr5, h⟩ := ob h
    try simp only [hb4, Nat.reduceBEq, Nat.reduceMul, Nat.reduceAdd, Nat.reduceDiv, Int.reduceBEq, rules2, rulesX, rowsX]
    have lrr5 := (l_laws_markConsole _ _ _ hr5)
    refine go_callx (ids := [449, 450, 451, 452, 453, 459, 460, 462, 463]) (w_laws_markConsole _ _ _ hr5) rfl rfl rfl (flatR_cons (flatR_cons (flatR_cons (flatR_cons (flatR_cons (flatR_cons (flatR_cons (flatR_cons (flatR_cons flatR_nil))))))))) (sameLen_cons (l_laws_markConsole _ _ _ hr5).1 (sameLen_cons (l_laws_markConsole _ _ _ hr5).2.1 (sameLen_cons (l_laws_markConsole _ _ _ hr5).2.2.1 (sameLen_cons (l_laws_markConsole _ _ _ hr5).2.2.2.1 (sameLen_cons (l_laws_markConsole _ _ _ hr5).2.2.2.2.1 (sameLen_cons (l_laws_markConsole _ _ _ hr5).2.2.2.2.2.1 (sameLen_cons (l_laws_markConsole _ _ _ hr5).2.2.2.2.2.2.1 (sameLen_cons (l_laws_markConsole _ _ _ hr5).2.2.2.2.2.2.2.1 (sameLen_cons (l_laws_markConsole _ _ _ hr5).2.2.2.2.2.2.2.2 sameLen_nil))))))))) ?_
    obtain ⟨r6, hr6, h⟩ := ob h
    try simp only [hb4, Nat.reduceBEq, Nat.reduceMul, Nat.reduceAdd, Nat.reduceDiv, Int.reduceBEq, rules2, rulesX, rowsX]
    refine go_call (w_laws_heldConsole _ _ _ hr6) rfl (flat_of rfl) rfl (Nat.le_of_ble_eq_true rfl) ?_
    rcases Bool.eq_false_or_eq_true (decide (r6 < (0 : Int))) with hb7 | hb7
    · rw [ite_t hb7] at h
      try simp only [hb4, hb7, Nat.reduceBEq, Nat.reduceMul, Nat.reduceAdd, Nat.reduceDiv, Int.reduceBEq, rules2, rulesX, rowsX]
      cases h
      exact ⟨⟨rfl, trivial⟩, rfl⟩
    · rw [ite_f hb7] at h
      rcases Bool.eq_false_or_eq_true (r6 != r5.1) with hb8 | hb8
      · rw [ite_t hb8] at h
        try simp only [hb4, hb7, hb8, Nat.reduceBEq, Nat.reduceMul, Nat.reduceAdd, Nat.reduceDiv, Int.reduceBEq, rules2, rulesX, rowsX]
        cases h
        exact ⟨⟨rfl, trivial⟩, rfl⟩
      · rw [ite_f hb8] at h
        obtain ⟨r9, hr9, h⟩ := ob h
        try simp only [hb4, hb7, hb8, Nat.reduceBEq, Nat.reduceMul, Nat.reduceAdd, Nat.reduceDiv, Int.reduceBEq, rules2, rulesX, rowsX]
        refine go_callI (w_impl_NewConsole _ hr9) rfl rfl (Nat.le_of_ble_eq_true rfl) ?_
        try simp only [hb4, hb7, hb8, Nat.reduceBEq, Nat.reduceMul, Nat.reduceAdd, Nat.reduceDiv, Int.reduceBEq, rules2, rulesX, rowsX]
        refine go_al rfl rfl ?_
        obtain ⟨r10, hr10, h⟩ := ob h
        try simp only [hb4, hb7, hb8, Nat.reduceBEq, Nat.reduceMul, Nat.reduceAdd, Nat.reduceDiv, Int.reduceBEq, rules2, rulesX, rowsX]
        refine go_call (w_laws_eqConsole _ _ _ hr10) rfl (flat_of rfl) rfl (Nat.le_of_ble_eq_true rfl) ?_
        rcases Bool.eq_false_or_eq_true r10 with hb11 | hb11
        · rw [ite_t hb11] at h
          obtain ⟨r12, hr12, h⟩ := ob h
          try simp only [hb4, hb7, hb8, hb11, Nat.reduceBEq, Nat.reduceMul, Nat.reduceAdd, Nat.reduceDiv, Int.reduceBEq, rules2, rulesX, rowsX]
          refine go_call (w_laws_heldConsole _ _ _ hr12) rfl (flat_of rfl) rfl (Nat.le_of_ble_eq_true rfl) ?_
          rcases Bool.eq_false_or_eq_true (decide (r12 < (0 : Int))) with hb13 | hb13
          · rw [ite_t hb13] at h
            try simp only [hb4, hb7, hb8, hb11, hb13, Nat.reduceBEq, Nat.reduceMul, Nat.reduceAdd, Nat.reduceDiv, Int.reduceBEq, rules2, rulesX, rowsX]
            cases h
            exact ⟨⟨rfl, trivial⟩, rfl⟩
          · rw [ite_f hb13] at h
            rcases Bool.eq_false_or_eq_true (r12 != r5.1) with hb14 | hb14
            · rw [ite_t hb14] at h
              try simp only [hb4, hb7, hb8, hb11, hb13, hb14, Nat.reduceBEq, Nat.reduceMul, Nat.reduceAdd, Nat.reduceDiv, Int.reduceBEq, rules2, rulesX, rowsX]
              cases h
              exact ⟨⟨rfl, trivial⟩, rfl⟩
            · rw [ite_f hb14] at h
              try simp only [hb4, hb7, hb8, hb11, hb13, hb14, Nat.reduceBEq, Nat.reduceMul, Nat.reduceAdd, Nat.reduceDiv, Int.reduceBEq, rules2, rulesX, rowsX]
              cases h
              exact ⟨⟨rfl, trivial⟩, rfl⟩
        · rw [ite_f hb11] at h
          try simp only [hb4, hb7, hb8, hb11, Nat.reduceBEq, Nat.reduceMul, Nat.reduceAdd, Nat.reduceDiv, Int.reduceBEq, rules2, rulesX, rowsX]
          cases h
          exact ⟨⟨rfl, trivial⟩, rfl⟩
  · rw [ite_f hb4] at h
    try simp only [hb4, Nat.reduceBEq, Nat.reduceMul, Nat.reduceAdd, Nat.reduceDiv, Int.reduceBEq, rules2, rulesX, rowsX]
    cases h
    exact ⟨⟨rfl, trivial⟩, rfl⟩
end Go.Vi
