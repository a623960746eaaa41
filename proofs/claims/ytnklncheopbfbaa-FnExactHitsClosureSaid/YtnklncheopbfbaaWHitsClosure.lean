/-
  Walks: what the plain definitions compute is what the functions return. By program. No condition.
-/
import Derived.Test.YtnklncheopbfbaaNf
import Derived.Test.YtnklncheopbfbaaChecked
import Derived.KernelRfl
namespace Go.Vi
open Go.Proofs
set_option linter.unusedSimpArgs false
set_option linter.unusedVariables false
attribute [local irreducible] go AWP
theorem mixed : Try.prog.follows .mixedOrders = true := by kernel_rfl
/- 28: laws_szClosureS -/
def c_laws_szClosureS : ACode := (.seq (.reg [(none, .mv 4 (K 0))]) (.seq (.reg [(none, .mv 5 (S 1)), (none, .mv 6 (S 0)), (none, .len 7 (S 6)), (none, .bin 8 .sub (S 5) (S 7)), (none, .mv 1 (S 8))]) (.seq (.seq (.reg [(none, .mv 9 (S 1)), (none, .bin 10 .lss (S 9) (K 0))]) (.cond (S 10) (.seq (.reg [(none, .mv 4 (K (-1)))]) .ret) .skip)) (.seq (.reg [(none, .mv 11 (S 1)), (none, .mv 4 (S 11))]) .ret))))
theorem e_laws_szClosureS : entry Try.prog 28 = some (c_laws_szClosureS.strip, [4], 12) := by kernel_rfl
theorem w_laws_szClosureS (a0 : List XClosure) (a1 : Int) (r : Int) (h : f_laws_szClosureS a0 a1 = some r) : FC Try.prog 28 [.sc (.sl (List.map XClosure.row a0)), .sc (.int .i64 a1)] [.sc (.v (.int .i64 r))] := by
  unfold f_laws_szClosureS at h
  refine FC_go (σ := ⟨[(0, vc (aL (List.map XClosure.row a0))), (1, vc (aI a1))], [], []⟩) mixed e_laws_szClosureS rfl rfl ?_
  simp only [c_laws_szClosureS]
  rcases Bool.eq_false_or_eq_true (decide ((IntKind.i64.wrap (a1 - (a0.length : Int))) < (0 : Int))) with hb1 | hb1
  · rw [ite_t hb1] at h
    try simp only [hb1, Nat.reduceBEq, Nat.reduceMul, Nat.reduceAdd, Nat.reduceDiv, Int.reduceBEq, rules2, rowsX]
    cases h
    exact ⟨⟨rfl, trivial⟩, rfl⟩
  · rw [ite_f hb1] at h
    try simp only [hb1, Nat.reduceBEq, Nat.reduceMul, Nat.reduceAdd, Nat.reduceDiv, Int.reduceBEq, rules2, rowsX]
    cases h
    exact ⟨⟨rfl, trivial⟩, rfl⟩
/- 30: laws_toPassage -/
def c_laws_toPassage : ACode := (.seq (.reg [(none, .box 1 (S 0)), (none, .alloc 2 [aI 0, aI 0, aB false, aI 0, aI 0])]) (.seq (.reg [(none, .alloc 3 [aI 0, aI 0, aB false, aI 0, aI 0])]) (.seq (.reg [(none, .faddr 4 (S 1) 0), (none, .load 5 (S 4) false 1), (none, .faddr 6 (S 3) 0), (none, .store (S 6) (S 5) 1)]) (.seq (.reg [(none, .faddr 7 (S 1) 1), (none, .load 8 (S 7) false 1), (none, .faddr 9 (S 3) 1), (none, .store (S 9) (S 8) 1)]) (.seq (.reg [(none, .faddr 10 (S 1) 2), (none, .load 11 (S 10) false 1), (none, .faddr 12 (S 3) 2), (none, .store (S 12) (S 11) 1)]) (.seq (.reg [(none, .faddr 13 (S 1) 3), (none, .load 14 (S 13) false 1), (none, .faddr 15 (S 3) 3), (none, .store (S 15) (S 14) 1)]) (.seq (.reg [(none, .faddr 16 (S 1) 4), (none, .load 17 (S 16) false 1), (none, .faddr 18 (S 3) 4), (none, .store (S 18) (S 17) 1)]) (.seq (.reg [(none, .load 19 (S 3) true 5), (none, .store (S 2) (S 19) 5)]) .ret))))))))
theorem e_laws_toPassage : entry Try.prog 30 = some (c_laws_toPassage.strip, [.c 2 true 5], 20) := by kernel_rfl
theorem w_laws_toPassage (a0 : XPassage) (r : XPassage) (h : f_laws_toPassage a0 = some r) : FC Try.prog 30 [.ag (XPassage.row a0)] [.ag [.v (.int .i64 r.Ship), .v (.int .i64 r.Segment), .v (.bool r.Toward), .v (.int .i64 r.Start), .v (.int .i64 r.End)]] := by
  unfold f_laws_toPassage at h
  refine FC_go (σ := ⟨[(0, va [aI a0.Ship, aI a0.Segment, aB a0.Toward, aI a0.Start, aI a0.End])], [], []⟩) mixed e_laws_toPassage rfl rfl ?_
  simp only [c_laws_toPassage]
  try simp only [Nat.reduceBEq, Nat.reduceMul, Nat.reduceAdd, Nat.reduceDiv, Int.reduceBEq, rules2, rowsX]
  refine go_bx rfl rfl rfl ?_
  try simp only [Nat.reduceBEq, Nat.reduceMul, Nat.reduceAdd, Nat.reduceDiv, Int.reduceBEq, rules2, rowsX]
  refine go_al rfl rfl ?_
  try simp only [Nat.reduceBEq, Nat.reduceMul, Nat.reduceAdd, Nat.reduceDiv, Int.reduceBEq, rules2, rowsX]
  refine go_al rfl rfl ?_
  try simp only [Nat.reduceBEq, Nat.reduceMul, Nat.reduceAdd, Nat.reduceDiv, Int.reduceBEq, rules2, rowsX]
  cases h
  try simp only [rulesR, Nat.reduceBEq, Nat.reduceMul, Nat.reduceAdd, Nat.reduceDiv, Int.reduceBEq, rules2, rowsX]
  exact ⟨⟨⟨rfl, rfl, rfl, rfl, rfl, trivial⟩, trivial⟩, rfl⟩
/- 62: laws_toClosure -/
def c_laws_toClosure : ACode := (.seq (.reg [(none, .box 1 (S 0)), (none, .alloc 2 [aI 0, aI 0, aI 0])]) (.seq (.reg [(none, .alloc 3 [aI 0, aI 0, aI 0])]) (.seq (.reg [(none, .faddr 4 (S 1) 0), (none, .load 5 (S 4) false 1), (none, .faddr 6 (S 3) 0), (none, .store (S 6) (S 5) 1)]) (.seq (.reg [(none, .faddr 7 (S 1) 1), (none, .load 8 (S 7) false 1), (none, .faddr 9 (S 3) 1), (none, .store (S 9) (S 8) 1)]) (.seq (.reg [(none, .faddr 10 (S 1) 2), (none, .load 11 (S 10) false 1), (none, .faddr 12 (S 3) 2), (none, .store (S 12) (S 11) 1)]) (.seq (.reg [(none, .load 13 (S 3) true 3), (none, .store (S 2) (S 13) 3)]) .ret))))))
theorem e_laws_toClosure : entry Try.prog 62 = some (c_laws_toClosure.strip, [.c 2 true 3], 14) := by kernel_rfl
theorem w_laws_toClosure (a0 : XClosure) (r : XClosure) (h : f_laws_toClosure a0 = some r) : FC Try.prog 62 [.ag (XClosure.row a0)] [.ag [.v (.int .i64 r.Segment), .v (.int .i64 r.From), .v (.int .i64 r.To)]] := by
  unfold f_laws_toClosure at h
  refine FC_go (σ := ⟨[(0, va [aI a0.Segment, aI a0.From, aI a0.To])], [], []⟩) mixed e_laws_toClosure rfl rfl ?_
  simp only [c_laws_toClosure]
  try simp only [Nat.reduceBEq, Nat.reduceMul, Nat.reduceAdd, Nat.reduceDiv, Int.reduceBEq, rules2, rowsX]
  refine go_bx rfl rfl rfl ?_
  try simp only [Nat.reduceBEq, Nat.reduceMul, Nat.reduceAdd, Nat.reduceDiv, Int.reduceBEq, rules2, rowsX]
  refine go_al rfl rfl ?_
  try simp only [Nat.reduceBEq, Nat.reduceMul, Nat.reduceAdd, Nat.reduceDiv, Int.reduceBEq, rules2, rowsX]
  refine go_al rfl rfl ?_
  try simp only [Nat.reduceBEq, Nat.reduceMul, Nat.reduceAdd, Nat.reduceDiv, Int.reduceBEq, rules2, rowsX]
  cases h
  try simp only [rulesR, Nat.reduceBEq, Nat.reduceMul, Nat.reduceAdd, Nat.reduceDiv, Int.reduceBEq, rules2, rowsX]
  exact ⟨⟨⟨rfl, rfl, rfl, trivial⟩, trivial⟩, rfl⟩
/- 31: laws_toClosureS -/
def c_laws_toClosureS_1 : ACode := .seq (.reg [(none, .keep [0, 3, 4] [] [448])]) (.seq (.seq (.reg [(none, .mv 8 (S 4)), (none, .mv 9 (S 0)), (none, .len 10 (S 9)), (none, .bin 11 .lss (S 8) (S 10))]) (.cond (S 11) .skip (.exit 0))) (.seq (.block 1 (.reg [(none, .mv 14 (S 3)), (none, .mv 15 (S 4)), (none, .mv 16 (S 0)), (none, .mv 17 (S 4)), (none, .iaddr 18 (S 16) (S 17) 3), (none, .load 19 (S 18) true 3), (none, .call 20 62 [(S 19)]), (none, .iaddr 21 (S 14) (S 15) 3), (none, .store (S 21) (S 20) 3)])) (.reg [(none, .mv 12 (S 4)), (none, .bin 13 .add (S 12) (K 1)), (none, .mv 4 (S 13))])))
def c_laws_toClosureS_n1 : ACode := (.seq (.reg [(none, .mv 22 (S 3)), (none, .mv 2 (S 22))]) .ret)
def c_laws_toClosureS : ACode := (.seq (.reg [(none, .mv 2 KN)]) (.seq (.reg [(none, .mv 5 (S 0)), (none, .len 6 (S 5)), (none, .mksl 7 3 24 [.int .i64 0, .int .i64 0, .int .i64 0] (S 6) (S 6)), (none, .mv 3 (S 7))]) (.seq (.seq (.reg [(none, .mv 4 (K 0))]) (.block 0 (.loop c_laws_toClosureS_1))) c_laws_toClosureS_n1)))
theorem w_laws_toClosureS_1 (a0 : List XClosure) : ∀ (n : Nat) (v2 : Int) (v3 : List XClosure) (r : (List XClosure)), f_laws_toClosureS_1 a0 n v2 v3 = some r → ∀ σ : St, σ.kept [0, 3, 4] [] [448] = ⟨[(0, vc (aL (List.map XClosure.row a0))), (3, vc (.own 448)), (4, vc (aI v2))], [], [(448, 3, List.map XClosure.row v3)]⟩ → go Try.prog (.code (.loop c_laws_toClosureS_1) :: [.blk 0, .code c_laws_toClosureS_n1]) (Ret [2] [.sc (.o 3 (List.map XClosure.row r))]) .normal (some σ) := by
  intro n
  induction n with
  | zero => intro _ _ r h; cases h
  | succ n ih =>
    intro v2 v3 r h σ hσ
    rw [f_laws_toClosureS_1] at h
    refine go_round ?_
    rcases Bool.eq_false_or_eq_true (decide (v2 < (a0.length : Int))) with hb4 | hb4
    · rw [ite_t hb4] at h
      obtain ⟨x5, hx5, h⟩ := ob h
      obtain ⟨r6, hr6, h⟩ := ob h
      try simp only [hσ, hb4, hx5, c_laws_toClosureS_1, Nat.reduceBEq, Nat.reduceMul, Nat.reduceAdd, Nat.reduceDiv, Int.reduceBEq, rules2, rowsX]
      refine go_callI (w_laws_toClosure _ _ hr6) rfl rfl (Nat.le_of_ble_eq_true rfl) ?_
      obtain ⟨x7, hx7, h⟩ := ob h
      have hx7n := ix_get hx7
      try simp only [hb4, hx5, hx7, Nat.reduceBEq, Nat.reduceMul, Nat.reduceAdd, Nat.reduceDiv, Int.reduceBEq, rules2, rowsX]
      refine go_stp (y := r6) rfl rfl hx7n rfl rfl rfl ?_
      try simp only [hb4, hx5, hx7, Nat.reduceBEq, Nat.reduceMul, Nat.reduceAdd, Nat.reduceDiv, Int.reduceBEq, rules2, rowsX]
      refine ih _ _ _ h _ ?_
      try simp only [hb4, hx5, hx7, Nat.reduceBEq, Nat.reduceMul, Nat.reduceAdd, Nat.reduceDiv, Int.reduceBEq, rules2, rowsX, List.map_nil]
    · rw [ite_f hb4] at h
      try simp only [hσ, hb4, c_laws_toClosureS_1, c_laws_toClosureS_n1, Nat.reduceBEq, Nat.reduceMul, Nat.reduceAdd, Nat.reduceDiv, Int.reduceBEq, rules2, rowsX]
      cases h
      exact ⟨⟨rfl, trivial⟩, rfl⟩
theorem e_laws_toClosureS : entry Try.prog 31 = some (c_laws_toClosureS.strip, [2], 23) := by kernel_rfl
theorem w_laws_toClosureS (a0 : List XClosure) (r : (List XClosure)) (h : f_laws_toClosureS a0 = some r) : FC Try.prog 31 [.sc (.sl (List.map XClosure.row a0))] [.sc (.o 3 (List.map XClosure.row r))] := by
  unfold f_laws_toClosureS at h
  refine FC_go (σ := ⟨[(0, vc (aL (List.map XClosure.row a0)))], [], []⟩) mixed e_laws_toClosureS rfl rfl ?_
  simp only [c_laws_toClosureS]
  obtain ⟨n1, hn1, h⟩ := ob h
  try simp only [Nat.reduceBEq, Nat.reduceMul, Nat.reduceAdd, Nat.reduceDiv, Int.reduceBEq, rules2, rowsX]
  refine go_mks (es := List.map XClosure.row (List.replicate n1 (⟨(0 : Int), (0 : Int), (0 : Int)⟩ : XClosure))) rfl rfl hn1 rfl (rep_map rfl) rfl ?_
  try simp only [Nat.reduceBEq, Nat.reduceMul, Nat.reduceAdd, Nat.reduceDiv, Int.reduceBEq, rules2, rowsX]
  refine w_laws_toClosureS_1 _ _ _ _ _ h _ ?_
  try simp only [Nat.reduceBEq, Nat.reduceMul, Nat.reduceAdd, Nat.reduceDiv, Int.reduceBEq, rules2, rowsX, List.map_nil]
/- 29: spec_HitsClosure -/
def c_spec_HitsClosure_1 : ACode := .seq (.reg [(none, .keep [2, 7, 8, 9] [2] [])]) (.seq (.reg [(none, .bin 10 .lss (S 9) (S 8))]) (.seq (.cond (S 10) .skip (.exit 0)) (.seq (.block 1 (.seq (.reg [(none, .iaddr 11 (S 7) (S 9) 3), (none, .load 12 (S 11) true 3), (none, .alloc 6 [aI 0, aI 0, aI 0]), (none, .store (S 6) (S 12) 3)]) (.seq (.reg [(none, .faddr 13 (S 6) 0), (none, .load 14 (S 13) false 1), (none, .faddr 15 (S 2) 1), (none, .load 16 (S 15) false 1), (none, .bin 17 .eql (S 14) (S 16)), (none, .mv 18 (S 17)), (some (18, true), .faddr 19 (S 2) 3), (some (18, true), .load 20 (S 19) false 1), (some (18, true), .faddr 21 (S 6) 1), (some (18, true), .load 22 (S 21) false 1), (some (18, true), .mm 23 true (S 20) (S 22)), (some (18, true), .faddr 24 (S 2) 4), (some (18, true), .load 25 (S 24) false 1), (some (18, true), .faddr 26 (S 6) 2), (some (18, true), .load 27 (S 26) false 1), (some (18, true), .mm 28 false (S 25) (S 27)), (some (18, true), .bin 29 .lss (S 23) (S 28)), (none, .pick 30 (S 18) (S 29) (KB false))]) (.cond (S 30) (.seq (.reg [(none, .mv 4 (KB true))]) .ret) .skip)))) (.reg [(none, .bin 31 .add (S 9) (K 1)), (none, .mv 9 (S 31))]))))
def c_spec_HitsClosure_n1 : ACode := (.seq (.reg [(none, .mv 4 (KB false))]) .ret)
def c_spec_HitsClosure : ACode := (.seq (.reg [(none, .box 2 (S 0)), (none, .mv 4 (KB false))]) (.seq (.seq (.reg [(none, .mv 7 (S 1)), (none, .len 8 (S 7)), (none, .mv 9 (K 0))]) (.block 0 (.loop c_spec_HitsClosure_1))) c_spec_HitsClosure_n1))
theorem w_spec_HitsClosure_1 (a1 : List XClosure) (a0 : XPassage) : ∀ (n : Nat) (v1 : Int) (r : Bool), f_spec_HitsClosure_1 a1 a0 n v1 = some r → ∀ σ : St, σ.kept [2, 7, 8, 9] [2] [] = ⟨[(2, vc (.pb 2 0)), (7, vc (aL (List.map XClosure.row a1))), (8, vc (aI (a1.length : Int))), (9, vc (aI v1))], [(2, [aI a0.Ship, aI a0.Segment, aB a0.Toward, aI a0.Start, aI a0.End])], []⟩ → go Try.prog (.code (.loop c_spec_HitsClosure_1) :: [.blk 0, .code c_spec_HitsClosure_n1]) (Ret [4] [.sc (.v (.bool r))]) .normal (some σ) := by
  intro n
  induction n with
  | zero => intro _ r h; cases h
  | succ n ih =>
    intro v1 r h σ hσ
    rw [f_spec_HitsClosure_1] at h
    refine go_round ?_
    rcases Bool.eq_false_or_eq_true (decide (v1 < (a1.length : Int))) with hb2 | hb2
    · rw [ite_t hb2] at h
      obtain ⟨x3, hx3, h⟩ := ob h
      try simp only [hσ, hb2, hx3, c_spec_HitsClosure_1, Nat.reduceBEq, Nat.reduceMul, Nat.reduceAdd, Nat.reduceDiv, Int.reduceBEq, rules2, rowsX]
      refine go_al rfl rfl ?_
      rcases Bool.eq_false_or_eq_true (x3.Segment == a0.Segment) with hb4 | hb4
      · rw [ite_t hb4] at h
        rcases Bool.eq_false_or_eq_true (decide ((if a0.Start < x3.From then x3.From else a0.Start) < (if x3.To < a0.End then x3.To else a0.End))) with hb5 | hb5
        · rw [ite_t hb5] at h
          try simp only [hb2, hx3, hb4, hb5, Nat.reduceBEq, Nat.reduceMul, Nat.reduceAdd, Nat.reduceDiv, Int.reduceBEq, rules2, rowsX]
          cases h
          exact ⟨⟨rfl, trivial⟩, rfl⟩
        · rw [ite_f hb5] at h
          try simp only [hb2, hx3, hb4, hb5, Nat.reduceBEq, Nat.reduceMul, Nat.reduceAdd, Nat.reduceDiv, Int.reduceBEq, rules2, rowsX]
          refine ih _ _ h _ ?_
          try simp only [hb2, hx3, hb4, hb5, Nat.reduceBEq, Nat.reduceMul, Nat.reduceAdd, Nat.reduceDiv, Int.reduceBEq, rules2, rowsX, List.map_nil]
      · rw [ite_f hb4] at h
        try simp only [hb2, hx3, hb4, Nat.reduceBEq, Nat.reduceMul, Nat.reduceAdd, Nat.reduceDiv, Int.reduceBEq, rules2, rowsX]
        refine ih _ _ h _ ?_
        try simp only [hb2, hx3, hb4, Nat.reduceBEq, Nat.reduceMul, Nat.reduceAdd, Nat.reduceDiv, Int.reduceBEq, rules2, rowsX, List.map_nil]
    · rw [ite_f hb2] at h
      try simp only [hσ, hb2, c_spec_HitsClosure_1, c_spec_HitsClosure_n1, Nat.reduceBEq, Nat.reduceMul, Nat.reduceAdd, Nat.reduceDiv, Int.reduceBEq, rules2, rowsX]
      cases h
      exact ⟨⟨rfl, trivial⟩, rfl⟩
theorem e_spec_HitsClosure : entry Try.prog 29 = some (c_spec_HitsClosure.strip, [4], 32) := by kernel_rfl
theorem w_spec_HitsClosure (a0 : XPassage) (a1 : List XClosure) (r : Bool) (h : f_spec_HitsClosure a0 a1 = some r) : FC Try.prog 29 [.ag (XPassage.row a0), .sc (.sl (List.map XClosure.row a1))] [.sc (.v (.bool r))] := by
  unfold f_spec_HitsClosure at h
  refine FC_go (σ := ⟨[(0, va [aI a0.Ship, aI a0.Segment, aB a0.Toward, aI a0.Start, aI a0.End]), (1, vc (aL (List.map XClosure.row a1)))], [], []⟩) mixed e_spec_HitsClosure rfl rfl ?_
  simp only [c_spec_HitsClosure]
  try simp only [Nat.reduceBEq, Nat.reduceMul, Nat.reduceAdd, Nat.reduceDiv, Int.reduceBEq, rules2, rowsX]
  refine go_bx rfl rfl rfl ?_
  try simp only [Nat.reduceBEq, Nat.reduceMul, Nat.reduceAdd, Nat.reduceDiv, Int.reduceBEq, rules2, rowsX]
  refine w_spec_HitsClosure_1 _ _ _ _ _ h _ ?_
  try simp only [Nat.reduceBEq, Nat.reduceMul, Nat.reduceAdd, Nat.reduceDiv, Int.reduceBEq, rules2, rowsX, List.map_nil]
/- 83: slices_IndexFunc_Closure -/
def c_slices_IndexFunc_Closure_1 : ACode := .seq (.reg [(none, .keep [0, 1, 7, 8] [] [])]) (.seq (.reg [(none, .bin 9 .lss (S 8) (S 7))]) (.seq (.cond (S 9) .skip (.exit 0)) (.seq (.block 1 (.seq (.reg [(none, .mv 10 (S 8)), (none, .mv 5 (S 10))]) (.seq (.reg [(none, .mv 11 (S 1)), (none, .mv 12 (S 0)), (none, .mv 13 (S 5)), (none, .iaddr 14 (S 12) (S 13) 3), (none, .load 15 (S 14) true 3), (none, .callv 16 (S 11) [(S 15)])]) (.cond (S 16) (.seq (.reg [(none, .mv 17 (S 5)), (none, .mv 4 (S 17))]) .ret) .skip)))) (.reg [(none, .bin 18 .add (S 8) (K 1)), (none, .mv 8 (S 18))]))))
def c_slices_IndexFunc_Closure_n1 : ACode := (.seq (.reg [(none, .mv 4 (K (-1)))]) .ret)
def c_slices_IndexFunc_Closure : ACode := (.seq (.reg [(none, .mv 4 (K 0))]) (.seq (.seq (.reg [(none, .mv 6 (S 0)), (none, .len 7 (S 6)), (none, .mv 8 (K 0))]) (.block 0 (.loop c_slices_IndexFunc_Closure_1))) c_slices_IndexFunc_Closure_n1))
theorem w_slices_IndexFunc_Closure_1 (a1 : XClosure → Option Bool) (F_a1 : FuncId) (caps_a1 : List D) (hF_a1 : okFn Try.prog F_a1 = true) (h_a1 : ∀ z0 zr, a1 z0 = some zr → FC Try.prog F_a1 ([.ag (XClosure.row z0)] ++ caps_a1.map .sc) [.sc (.v (.bool zr))]) (a0 : List XClosure) : ∀ (n : Nat) (v1 : Int) (r : Int), f_slices_IndexFunc_Closure_1 a1 a0 n v1 = some r → ∀ σ : St, σ.kept [0, 1, 7, 8] [] [] = ⟨[(0, vc (aL (List.map XClosure.row a0))), (1, vc (.dat (.clo F_a1 caps_a1))), (7, vc (aI (a0.length : Int))), (8, vc (aI v1))], [], []⟩ → go Try.prog (.code (.loop c_slices_IndexFunc_Closure_1) :: [.blk 0, .code c_slices_IndexFunc_Closure_n1]) (Ret [4] [.sc (.v (.int .i64 r))]) .normal (some σ) := by
  intro n
  induction n with
  | zero => intro _ r h; cases h
  | succ n ih =>
    intro v1 r h σ hσ
    rw [f_slices_IndexFunc_Closure_1] at h
    refine go_round ?_
    rcases Bool.eq_false_or_eq_true (decide (v1 < (a0.length : Int))) with hb2 | hb2
    · rw [ite_t hb2] at h
      obtain ⟨x3, hx3, h⟩ := ob h
      obtain ⟨r4, hr4, h⟩ := ob h
      try simp only [hσ, hb2, hx3, c_slices_IndexFunc_Closure_1, Nat.reduceBEq, Nat.reduceMul, Nat.reduceAdd, Nat.reduceDiv, Int.reduceBEq, rules2, rowsX]
      refine go_callv (h_a1 _ _ hr4) hF_a1 rfl rfl (flat_of rfl) rfl (Nat.le_of_ble_eq_true rfl) ?_
      rcases Bool.eq_false_or_eq_true r4 with hb5 | hb5
      · rw [ite_t hb5] at h
        try simp only [hb2, hx3, hb5, Nat.reduceBEq, Nat.reduceMul, Nat.reduceAdd, Nat.reduceDiv, Int.reduceBEq, rules2, rowsX]
        cases h
        exact ⟨⟨rfl, trivial⟩, rfl⟩
      · rw [ite_f hb5] at h
        try simp only [hb2, hx3, hb5, Nat.reduceBEq, Nat.reduceMul, Nat.reduceAdd, Nat.reduceDiv, Int.reduceBEq, rules2, rowsX]
        refine ih _ _ h _ ?_
        try simp only [hb2, hx3, hb5, Nat.reduceBEq, Nat.reduceMul, Nat.reduceAdd, Nat.reduceDiv, Int.reduceBEq, rules2, rowsX, List.map_nil]
    · rw [ite_f hb2] at h
      try simp only [hσ, hb2, c_slices_IndexFunc_Closure_1, c_slices_IndexFunc_Closure_n1, Nat.reduceBEq, Nat.reduceMul, Nat.reduceAdd, Nat.reduceDiv, Int.reduceBEq, rules2, rowsX]
      cases h
      exact ⟨⟨rfl, trivial⟩, rfl⟩
theorem e_slices_IndexFunc_Closure : entry Try.prog 83 = some (c_slices_IndexFunc_Closure.strip, [4], 19) := by kernel_rfl
theorem w_slices_IndexFunc_Closure (a0 : List XClosure) (a1 : XClosure → Option Bool) (r : Int) (F_a1 : FuncId) (caps_a1 : List D) (hF_a1 : okFn Try.prog F_a1 = true) (h_a1 : ∀ z0 zr, a1 z0 = some zr → FC Try.prog F_a1 ([.ag (XClosure.row z0)] ++ caps_a1.map .sc) [.sc (.v (.bool zr))]) (h : f_slices_IndexFunc_Closure a0 a1 = some r) : FC Try.prog 83 [.sc (.sl (List.map XClosure.row a0)), .sc (.clo F_a1 caps_a1)] [.sc (.v (.int .i64 r))] := by
  unfold f_slices_IndexFunc_Closure at h
  refine FC_go (σ := ⟨[(0, vc (aL (List.map XClosure.row a0))), (1, vc (.dat (.clo F_a1 caps_a1)))], [], []⟩) mixed e_slices_IndexFunc_Closure rfl rfl ?_
  simp only [c_slices_IndexFunc_Closure]
  try simp only [Nat.reduceBEq, Nat.reduceMul, Nat.reduceAdd, Nat.reduceDiv, Int.reduceBEq, rules2, rowsX]
  refine w_slices_IndexFunc_Closure_1 a1 F_a1 caps_a1 hF_a1 h_a1 _ _ _ _ h _ ?_
  try simp only [Nat.reduceBEq, Nat.reduceMul, Nat.reduceAdd, Nat.reduceDiv, Int.reduceBEq, rules2, rowsX, List.map_nil]
/- 63: slices_ContainsFunc_Closure -/
def c_slices_ContainsFunc_Closure : ACode := (.seq (.reg [(none, .mv 4 (KB false))]) (.seq (.reg [(none, .mv 5 (S 0)), (none, .mv 6 (S 1)), (none, .call 7 83 [(S 5), (S 6)]), (none, .bin 8 .geq (S 7) (K 0)), (none, .mv 4 (S 8))]) .ret))
theorem e_slices_ContainsFunc_Closure : entry Try.prog 63 = some (c_slices_ContainsFunc_Closure.strip, [4], 9) := by kernel_rfl
theorem w_slices_ContainsFunc_Closure (a0 : List XClosure) (a1 : XClosure → Option Bool) (r : Bool) (F_a1 : FuncId) (caps_a1 : List D) (hF_a1 : okFn Try.prog F_a1 = true) (h_a1 : ∀ z0 zr, a1 z0 = some zr → FC Try.prog F_a1 ([.ag (XClosure.row z0)] ++ caps_a1.map .sc) [.sc (.v (.bool zr))]) (h : f_slices_ContainsFunc_Closure a0 a1 = some r) : FC Try.prog 63 [.sc (.sl (List.map XClosure.row a0)), .sc (.clo F_a1 caps_a1)] [.sc (.v (.bool r))] := by
  unfold f_slices_ContainsFunc_Closure at h
  refine FC_go (σ := ⟨[(0, vc (aL (List.map XClosure.row a0))), (1, vc (.dat (.clo F_a1 caps_a1)))], [], []⟩) mixed e_slices_ContainsFunc_Closure rfl rfl ?_
  simp only [c_slices_ContainsFunc_Closure]
  obtain ⟨r1, hr1, h⟩ := ob h
  try simp only [Nat.reduceBEq, Nat.reduceMul, Nat.reduceAdd, Nat.reduceDiv, Int.reduceBEq, rules2, rowsX]
  refine go_callI (w_slices_IndexFunc_Closure _ _ _ F_a1 caps_a1 hF_a1 h_a1 hr1) rfl rfl (Nat.le_of_ble_eq_true rfl) ?_
  try simp only [Nat.reduceBEq, Nat.reduceMul, Nat.reduceAdd, Nat.reduceDiv, Int.reduceBEq, rules2, rowsX]
  cases h
  exact ⟨⟨rfl, trivial⟩, rfl⟩
/- 64: impl_HitsClosure_1 -/
def c_impl_HitsClosure_1 : ACode := (.seq (.reg [(none, .box 2 (S 0)), (none, .mv 3 (KB false))]) (.seq (.reg [(none, .faddr 4 (S 2) 0), (none, .load 5 (S 4) false 1), (none, .faddr 6 (S 1) 1), (none, .load 7 (S 6) false 1), (none, .bin 8 .eql (S 5) (S 7)), (none, .mv 9 (S 8)), (some (9, true), .faddr 10 (S 2) 1), (some (9, true), .load 11 (S 10) false 1), (some (9, true), .faddr 12 (S 1) 3), (some (9, true), .load 13 (S 12) false 1), (some (9, true), .mm 14 true (S 11) (S 13)), (some (9, true), .faddr 15 (S 2) 2), (some (9, true), .load 16 (S 15) false 1), (some (9, true), .faddr 17 (S 1) 4), (some (9, true), .load 18 (S 17) false 1), (some (9, true), .mm 19 false (S 16) (S 18)), (some (9, true), .bin 20 .lss (S 14) (S 19)), (none, .pick 21 (S 9) (S 20) (KB false)), (none, .mv 3 (S 21))]) .ret))
theorem e_impl_HitsClosure_1 : entry Try.prog 64 = some (c_impl_HitsClosure_1.strip, [3], 22) := by kernel_rfl
theorem w_impl_HitsClosure_1 (a0 : XClosure) (c0 : XPassage) (r : Bool) (h : f_impl_HitsClosure_1 a0 c0 = some r) : FC Try.prog 64 [.ag (XClosure.row a0), .sc (.pd (XPassage.row c0))] [.sc (.v (.bool r))] := by
  unfold f_impl_HitsClosure_1 at h
  refine FC_go (σ := ⟨[(0, va [aI a0.Segment, aI a0.From, aI a0.To]), (1, vc (.dat (.pd [.int .i64 c0.Ship, .int .i64 c0.Segment, .bool c0.Toward, .int .i64 c0.Start, .int .i64 c0.End])))], [], []⟩) mixed e_impl_HitsClosure_1 rfl rfl ?_
  simp only [c_impl_HitsClosure_1]
  try simp only [Nat.reduceBEq, Nat.reduceMul, Nat.reduceAdd, Nat.reduceDiv, Int.reduceBEq, rules2, rowsX]
  refine go_bx rfl rfl rfl ?_
  rcases Bool.eq_false_or_eq_true (a0.Segment == c0.Segment) with hb1 | hb1
  · rw [ite_t hb1] at h
    try simp only [hb1, Nat.reduceBEq, Nat.reduceMul, Nat.reduceAdd, Nat.reduceDiv, Int.reduceBEq, rules2, rowsX]
    cases h
    exact ⟨⟨rfl, trivial⟩, rfl⟩
  · rw [ite_f hb1] at h
    try simp only [hb1, Nat.reduceBEq, Nat.reduceMul, Nat.reduceAdd, Nat.reduceDiv, Int.reduceBEq, rules2, rowsX]
    cases h
    exact ⟨⟨rfl, trivial⟩, rfl⟩
/- 32: impl_HitsClosure -/
def c_impl_HitsClosure : ACode := (.seq (.reg [(none, .box 2 (S 0)), (none, .mv 4 (KB false))]) (.seq (.reg [(none, .mv 5 (S 1)), (none, .mkf 6 64 [(S 2)]), (none, .call 7 63 [(S 5), (S 6)]), (none, .mv 4 (S 7))]) .ret))
theorem e_impl_HitsClosure : entry Try.prog 32 = some (c_impl_HitsClosure.strip, [4], 8) := by kernel_rfl
theorem w_impl_HitsClosure (a0 : XPassage) (a1 : List XClosure) (r : Bool) (h : f_impl_HitsClosure a0 a1 = some r) : FC Try.prog 32 [.ag (XPassage.row a0), .sc (.sl (List.map XClosure.row a1))] [.sc (.v (.bool r))] := by
  unfold f_impl_HitsClosure at h
  refine FC_go (σ := ⟨[(0, va [aI a0.Ship, aI a0.Segment, aB a0.Toward, aI a0.Start, aI a0.End]), (1, vc (aL (List.map XClosure.row a1)))], [], []⟩) mixed e_impl_HitsClosure rfl rfl ?_
  simp only [c_impl_HitsClosure]
  try simp only [Nat.reduceBEq, Nat.reduceMul, Nat.reduceAdd, Nat.reduceDiv, Int.reduceBEq, rules2, rowsX]
  refine go_bx rfl rfl rfl ?_
  obtain ⟨r1, hr1, h⟩ := ob h
  try simp only [Nat.reduceBEq, Nat.reduceMul, Nat.reduceAdd, Nat.reduceDiv, Int.reduceBEq, rules2, rowsX]
  refine go_call (w_slices_ContainsFunc_Closure _ _ _ 64 [.pd (XPassage.row a0)] (by kernel_rfl) (fun z0 zr zh => w_impl_HitsClosure_1 z0 a0 zr zh) hr1) rfl (flat_of rfl) rfl (Nat.le_of_ble_eq_true rfl) ?_
  try simp only [Nat.reduceBEq, Nat.reduceMul, Nat.reduceAdd, Nat.reduceDiv, Int.reduceBEq, rules2, rowsX]
  cases h
  exact ⟨⟨rfl, trivial⟩, rfl⟩
/- 65: laws_eqClosure -/
def c_laws_eqClosure : ACode := (.seq (.reg [(none, .box 2 (S 0)), (none, .box 3 (S 1)), (none, .mv 4 (KB false))]) (.seq (.seq (.reg [(none, .faddr 5 (S 2) 0), (none, .load 6 (S 5) false 1), (none, .faddr 7 (S 3) 0), (none, .load 8 (S 7) false 1), (none, .bin 9 .neq (S 6) (S 8))]) (.cond (S 9) (.seq (.reg [(none, .mv 4 (KB false))]) .ret) .skip)) (.seq (.seq (.reg [(none, .faddr 10 (S 2) 1), (none, .load 11 (S 10) false 1), (none, .faddr 12 (S 3) 1), (none, .load 13 (S 12) false 1), (none, .bin 14 .neq (S 11) (S 13))]) (.cond (S 14) (.seq (.reg [(none, .mv 4 (KB false))]) .ret) .skip)) (.seq (.seq (.reg [(none, .faddr 15 (S 2) 2), (none, .load 16 (S 15) false 1), (none, .faddr 17 (S 3) 2), (none, .load 18 (S 17) false 1), (none, .bin 19 .neq (S 16) (S 18))]) (.cond (S 19) (.seq (.reg [(none, .mv 4 (KB false))]) .ret) .skip)) (.seq (.reg [(none, .mv 4 (KB true))]) .ret)))))
theorem e_laws_eqClosure : entry Try.prog 65 = some (c_laws_eqClosure.strip, [4], 20) := by kernel_rfl
theorem w_laws_eqClosure (a0 : XClosure) (a1 : XClosure) (r : Bool) (h : f_laws_eqClosure a0 a1 = some r) : FC Try.prog 65 [.ag (XClosure.row a0), .ag (XClosure.row a1)] [.sc (.v (.bool r))] := by
  unfold f_laws_eqClosure at h
  refine FC_go (σ := ⟨[(0, va [aI a0.Segment, aI a0.From, aI a0.To]), (1, va [aI a1.Segment, aI a1.From, aI a1.To])], [], []⟩) mixed e_laws_eqClosure rfl rfl ?_
  simp only [c_laws_eqClosure]
  try simp only [Nat.reduceBEq, Nat.reduceMul, Nat.reduceAdd, Nat.reduceDiv, Int.reduceBEq, rules2, rowsX]
  refine go_bx rfl rfl rfl ?_
  try simp only [Nat.reduceBEq, Nat.reduceMul, Nat.reduceAdd, Nat.reduceDiv, Int.reduceBEq, rules2, rowsX]
  refine go_bx rfl rfl rfl ?_
  rcases Bool.eq_false_or_eq_true (a0.Segment != a1.Segment) with hb1 | hb1
  · rw [ite_t hb1] at h
    try simp only [hb1, Nat.reduceBEq, Nat.reduceMul, Nat.reduceAdd, Nat.reduceDiv, Int.reduceBEq, rules2, rowsX]
    cases h
    exact ⟨⟨rfl, trivial⟩, rfl⟩
  · rw [ite_f hb1] at h
    rcases Bool.eq_false_or_eq_true (a0.From != a1.From) with hb2 | hb2
    · rw [ite_t hb2] at h
      try simp only [hb1, hb2, Nat.reduceBEq, Nat.reduceMul, Nat.reduceAdd, Nat.reduceDiv, Int.reduceBEq, rules2, rowsX]
      cases h
      exact ⟨⟨rfl, trivial⟩, rfl⟩
    · rw [ite_f hb2] at h
      rcases Bool.eq_false_or_eq_true (a0.To != a1.To) with hb3 | hb3
      · rw [ite_t hb3] at h
        try simp only [hb1, hb2, hb3, Nat.reduceBEq, Nat.reduceMul, Nat.reduceAdd, Nat.reduceDiv, Int.reduceBEq, rules2, rowsX]
        cases h
        exact ⟨⟨rfl, trivial⟩, rfl⟩
      · rw [ite_f hb3] at h
        try simp only [hb1, hb2, hb3, Nat.reduceBEq, Nat.reduceMul, Nat.reduceAdd, Nat.reduceDiv, Int.reduceBEq, rules2, rowsX]
        cases h
        exact ⟨⟨rfl, trivial⟩, rfl⟩
/- 33: laws_eqClosureS -/
def c_laws_eqClosureS_1 : ACode := .seq (.reg [(none, .keep [0, 1, 5] [] [])]) (.seq (.seq (.reg [(none, .mv 11 (S 5)), (none, .mv 12 (S 0)), (none, .len 13 (S 12)), (none, .bin 14 .lss (S 11) (S 13))]) (.cond (S 14) .skip (.exit 0))) (.seq (.block 1 (.seq (.drw [(some [], (none, .mv 17 (S 0))), (some [], (none, .mv 18 (S 5))), (some [], (none, .iaddr 19 (S 17) (S 18) 3)), (some [], (none, .load 20 (S 19) true 3)), (some [], (none, .mv 21 (S 1))), (some [], (none, .mv 22 (S 5))), (some [], (none, .iaddr 23 (S 21) (S 22) 3)), (some [], (none, .load 24 (S 23) true 3)), (some [], (none, .call 25 65 [(S 20), (S 24)])), (some [], (none, .un 26 .not (S 25)))]) (.cond (S 26) (.seq (.reg [(none, .mv 4 (KB false))]) .ret) .skip))) (.reg [(none, .mv 15 (S 5)), (none, .bin 16 .add (S 15) (K 1)), (none, .mv 5 (S 16))])))
def c_laws_eqClosureS_n1 : ACode := (.seq (.reg [(none, .mv 4 (KB true))]) .ret)
def c_laws_eqClosureS : ACode := (.seq (.reg [(none, .mv 4 (KB false))]) (.seq (.seq (.reg [(none, .mv 6 (S 0)), (none, .len 7 (S 6)), (none, .mv 8 (S 1)), (none, .len 9 (S 8)), (none, .bin 10 .neq (S 7) (S 9))]) (.cond (S 10) (.seq (.reg [(none, .mv 4 (KB false))]) .ret) .skip)) (.seq (.seq (.reg [(none, .mv 5 (K 0))]) (.block 0 (.loop c_laws_eqClosureS_1))) c_laws_eqClosureS_n1)))
theorem w_laws_eqClosureS_1 (a0 : List XClosure) (a1 : List XClosure) : ∀ (n : Nat) (v2 : Int) (r : Bool), f_laws_eqClosureS_1 a0 a1 n v2 = some r → ∀ σ : St, σ.kept [0, 1, 5] [] [] = ⟨[(0, vc (aL (List.map XClosure.row a0))), (1, vc (aL (List.map XClosure.row a1))), (5, vc (aI v2))], [], []⟩ → go Try.prog (.code (.loop c_laws_eqClosureS_1) :: [.blk 0, .code c_laws_eqClosureS_n1]) (Ret [4] [.sc (.v (.bool r))]) .normal (some σ) := by
  intro n
  induction n with
  | zero => intro _ r h; cases h
  | succ n ih =>
    intro v2 r h σ hσ
    rw [f_laws_eqClosureS_1] at h
    refine go_round ?_
    rcases Bool.eq_false_or_eq_true (decide (v2 < (a0.length : Int))) with hb3 | hb3
    · rw [ite_t hb3] at h
      try simp only [hσ, hb3, c_laws_eqClosureS_1, Nat.reduceBEq, Nat.reduceMul, Nat.reduceAdd, Nat.reduceDiv, Int.reduceBEq, rules2, rowsX]
      refine go_fr_of rfl ?_
      obtain ⟨x4, hx4, h⟩ := ob h
      obtain ⟨x5, hx5, h⟩ := ob h
      obtain ⟨r6, hr6, h⟩ := ob h
      try simp only [hb3, hx4, hx5, Nat.reduceBEq, Nat.reduceMul, Nat.reduceAdd, Nat.reduceDiv, Int.reduceBEq, rules2, rowsX]
      refine go_callI (w_laws_eqClosure _ _ _ hr6) rfl rfl (Nat.le_of_ble_eq_true rfl) ?_
      rcases Bool.eq_false_or_eq_true r6 with hb7 | hb7
      · rw [ite_t hb7] at h
        try simp only [hb3, hx4, hx5, hb7, Nat.reduceBEq, Nat.reduceMul, Nat.reduceAdd, Nat.reduceDiv, Int.reduceBEq, rules2, rowsX]
        refine ih _ _ h _ ?_
        try simp only [hb3, hx4, hx5, hb7, Nat.reduceBEq, Nat.reduceMul, Nat.reduceAdd, Nat.reduceDiv, Int.reduceBEq, rules2, rowsX, List.map_nil]
      · rw [ite_f hb7] at h
        try simp only [hb3, hx4, hx5, hb7, Nat.reduceBEq, Nat.reduceMul, Nat.reduceAdd, Nat.reduceDiv, Int.reduceBEq, rules2, rowsX]
        cases h
        exact ⟨⟨rfl, trivial⟩, rfl⟩
    · rw [ite_f hb3] at h
      try simp only [hσ, hb3, c_laws_eqClosureS_1, c_laws_eqClosureS_n1, Nat.reduceBEq, Nat.reduceMul, Nat.reduceAdd, Nat.reduceDiv, Int.reduceBEq, rules2, rowsX]
      cases h
      exact ⟨⟨rfl, trivial⟩, rfl⟩
theorem e_laws_eqClosureS : entry Try.prog 33 = some (c_laws_eqClosureS.strip, [4], 27) := by kernel_rfl
theorem w_laws_eqClosureS (a0 : List XClosure) (a1 : List XClosure) (r : Bool) (h : f_laws_eqClosureS a0 a1 = some r) : FC Try.prog 33 [.sc (.sl (List.map XClosure.row a0)), .sc (.sl (List.map XClosure.row a1))] [.sc (.v (.bool r))] := by
  unfold f_laws_eqClosureS at h
  refine FC_go (σ := ⟨[(0, vc (aL (List.map XClosure.row a0))), (1, vc (aL (List.map XClosure.row a1)))], [], []⟩) mixed e_laws_eqClosureS rfl rfl ?_
  simp only [c_laws_eqClosureS]
  rcases Bool.eq_false_or_eq_true ((a0.length : Int) != (a1.length : Int)) with hb1 | hb1
  · rw [ite_t hb1] at h
    try simp only [hb1, Nat.reduceBEq, Nat.reduceMul, Nat.reduceAdd, Nat.reduceDiv, Int.reduceBEq, rules2, rowsX]
    cases h
    exact ⟨⟨rfl, trivial⟩, rfl⟩
  · rw [ite_f hb1] at h
    try simp only [hb1, Nat.reduceBEq, Nat.reduceMul, Nat.reduceAdd, Nat.reduceDiv, Int.reduceBEq, rules2, rowsX]
    refine w_laws_eqClosureS_1 _ _ _ _ _ h _ ?_
    try simp only [hb1, Nat.reduceBEq, Nat.reduceMul, Nat.reduceAdd, Nat.reduceDiv, Int.reduceBEq, rules2, rowsX, List.map_nil]
/- 7: laws_FnExactHitsClosure -/
def c_laws_FnExactHitsClosure : ACode := (.seq (.reg [(none, .box 2 (S 0)), (none, .mv 4 (KB false))]) (.seq (.reg [(none, .mv 5 (K 1048576))]) (.seq (.reg [(none, .mv 9 (S 1)), (none, .mv 10 (S 5)), (none, .call 11 28 [(S 9), (S 10)]), (none, .mv 5 (S 11))]) (.seq (.seq (.reg [(none, .mv 12 (S 5)), (none, .bin 13 .lss (S 12) (K 0))]) (.cond (S 13) (.seq (.reg [(none, .mv 4 (KB true))]) .ret) .skip)) (.seq (.reg [(none, .load 14 (S 2) true 5), (none, .call 15 30 [(S 14)]), (none, .mv 16 (S 1)), (none, .call 17 31 [(S 16)]), (none, .call 18 29 [(S 15), (S 17)]), (none, .mv 6 (S 18))]) (.seq (.reg [(none, .mv 19 (S 1)), (none, .call 20 31 [(S 19)]), (none, .mv 7 (S 20))]) (.seq (.reg [(none, .load 21 (S 2) true 5), (none, .call 22 30 [(S 21)]), (none, .mv 23 (S 7)), (none, .call 24 32 [(S 22), (S 23)]), (none, .mv 8 (S 24))]) (.seq (.seq (.reg [(none, .mv 25 (S 8)), (none, .mv 26 (S 6)), (none, .beq 27 true (S 25) (S 26))]) (.cond (S 27) (.seq (.reg [(none, .mv 4 (KB false))]) .ret) .skip)) (.seq (.seq (.reg [(none, .mv 28 (S 7)), (none, .mv 29 (S 1)), (none, .call 30 31 [(S 29)]), (none, .call 31 33 [(S 28), (S 30)]), (none, .un 32 .not (S 31))]) (.cond (S 32) (.seq (.reg [(none, .mv 4 (KB false))]) .ret) .skip)) (.seq (.reg [(none, .mv 4 (KB true))]) .ret))))))))))
theorem e_laws_FnExactHitsClosure : entry Try.prog 7 = some (c_laws_FnExactHitsClosure.strip, [4], 33) := by kernel_rfl
theorem w_laws_FnExactHitsClosure (a0 : XPassage) (a1 : List XClosure) (r : Bool) (h : f_laws_FnExactHitsClosure a0 a1 = some r) : FC Try.prog 7 [.ag (XPassage.row a0), .sc (.sl (List.map XClosure.row a1))] [.sc (.v (.bool r))] := by
  unfold f_laws_FnExactHitsClosure at h
  refine FC_go (σ := ⟨[(0, va [aI a0.Ship, aI a0.Segment, aB a0.Toward, aI a0.Start, aI a0.End]), (1, vc (aL (List.map XClosure.row a1)))], [], []⟩) mixed e_laws_FnExactHitsClosure rfl rfl ?_
  simp only [c_laws_FnExactHitsClosure]
  try simp only [Nat.reduceBEq, Nat.reduceMul, Nat.reduceAdd, Nat.reduceDiv, Int.reduceBEq, rules2, rowsX]
  refine go_bx rfl rfl rfl ?_
  obtain ⟨r1, hr1, h⟩ := ob h
  try simp only [Nat.reduceBEq, Nat.reduceMul, Nat.reduceAdd, Nat.reduceDiv, Int.reduceBEq, rules2, rowsX]
  refine go_callI (w_laws_szClosureS _ _ _ hr1) rfl rfl (Nat.le_of_ble_eq_true rfl) ?_
  rcases Bool.eq_false_or_eq_true (decide (r1 < (0 : Int))) with hb2 | hb2
  · rw [ite_t hb2] at h
    try simp only [hb2, Nat.reduceBEq, Nat.reduceMul, Nat.reduceAdd, Nat.reduceDiv, Int.reduceBEq, rules2, rowsX]
    cases h
    exact ⟨⟨rfl, trivial⟩, rfl⟩
  · rw [ite_f hb2] at h
    obtain ⟨r3, hr3, h⟩ := ob h
    try simp only [hb2, Nat.reduceBEq, Nat.reduceMul, Nat.reduceAdd, Nat.reduceDiv, Int.reduceBEq, rules2, rowsX]
    refine go_callI (w_laws_toPassage _ _ hr3) rfl rfl (Nat.le_of_ble_eq_true rfl) ?_
    obtain ⟨r4, hr4, h⟩ := ob h
    try simp only [hb2, Nat.reduceBEq, Nat.reduceMul, Nat.reduceAdd, Nat.reduceDiv, Int.reduceBEq, rules2, rowsX]
    refine go_callI (w_laws_toClosureS _ _ hr4) rfl rfl (Nat.le_of_ble_eq_true rfl) ?_
    obtain ⟨r5, hr5, h⟩ := ob h
    try simp only [hb2, Nat.reduceBEq, Nat.reduceMul, Nat.reduceAdd, Nat.reduceDiv, Int.reduceBEq, rules2, rowsX]
    refine go_call (w_spec_HitsClosure _ _ _ hr5) rfl (flat_of rfl) rfl (Nat.le_of_ble_eq_true rfl) ?_
    obtain ⟨r6, hr6, h⟩ := ob h
    try simp only [hb2, Nat.reduceBEq, Nat.reduceMul, Nat.reduceAdd, Nat.reduceDiv, Int.reduceBEq, rules2, rowsX]
    refine go_callI (w_laws_toClosureS _ _ hr6) rfl rfl (Nat.le_of_ble_eq_true rfl) ?_
    obtain ⟨r7, hr7, h⟩ := ob h
    try simp only [hb2, Nat.reduceBEq, Nat.reduceMul, Nat.reduceAdd, Nat.reduceDiv, Int.reduceBEq, rules2, rowsX]
    refine go_callI (w_laws_toPassage _ _ hr7) rfl rfl (Nat.le_of_ble_eq_true rfl) ?_
    obtain ⟨r8, hr8, h⟩ := ob h
    try simp only [hb2, Nat.reduceBEq, Nat.reduceMul, Nat.reduceAdd, Nat.reduceDiv, Int.reduceBEq, rules2, rowsX]
    refine go_call (w_impl_HitsClosure _ _ _ hr8) rfl (flat_of rfl) rfl (Nat.le_of_ble_eq_true rfl) ?_
    rcases Bool.eq_false_or_eq_true (r8 == r5) with hb9 | hb9
    · rw [ite_t hb9] at h
      obtain ⟨r10, hr10, h⟩ := ob h
      try simp only [hb2, hb9, Nat.reduceBEq, Nat.reduceMul, Nat.reduceAdd, Nat.reduceDiv, Int.reduceBEq, rules2, rowsX]
      refine go_callI (w_laws_toClosureS _ _ hr10) rfl rfl (Nat.le_of_ble_eq_true rfl) ?_
      obtain ⟨r11, hr11, h⟩ := ob h
      try simp only [hb2, hb9, Nat.reduceBEq, Nat.reduceMul, Nat.reduceAdd, Nat.reduceDiv, Int.reduceBEq, rules2, rowsX]
      refine go_call (w_laws_eqClosureS _ _ _ hr11) rfl (flat_of rfl) rfl (Nat.le_of_ble_eq_true rfl) ?_
      rcases Bool.eq_false_or_eq_true r11 with hb12 | hb12
      · rw [ite_t hb12] at h
        try simp only [hb2, hb9, hb12, Nat.reduceBEq, Nat.reduceMul, Nat.reduceAdd, Nat.reduceDiv, Int.reduceBEq, rules2, rowsX]
        cases h
        exact ⟨⟨rfl, trivial⟩, rfl⟩
      · rw [ite_f hb12] at h
        try simp only [hb2, hb9, hb12, Nat.reduceBEq, Nat.reduceMul, Nat.reduceAdd, Nat.reduceDiv, Int.reduceBEq, rules2, rowsX]
        cases h
        exact ⟨⟨rfl, trivial⟩, rfl⟩
    · rw [ite_f hb9] at h
      try simp only [hb2, hb9, Nat.reduceBEq, Nat.reduceMul, Nat.reduceAdd, Nat.reduceDiv, Int.reduceBEq, rules2, rowsX]
      cases h
      exact ⟨⟨rfl, trivial⟩, rfl⟩
end Go.Vi
