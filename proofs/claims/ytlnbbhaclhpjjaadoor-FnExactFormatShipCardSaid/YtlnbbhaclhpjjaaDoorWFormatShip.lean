/-
  Walks: what the plain definitions compute is what the functions return. By program. No condition.
-/
import Derived.Test.YtlnbbhaclhpjjaaDoorNf
import Derived.Test.YtlnbbhaclhpjjaaDoorChecked
import Derived.Test.YtlnbbhaclhpjjaaDoorSh
import Derived.KernelRfl
namespace Go.Vi
open Go.Proofs
set_option linter.unusedSimpArgs false
set_option linter.unusedVariables false
attribute [local irreducible] go AWP
theorem mixed : Tryd.prog.follows .mixedOrders = true := by kernel_rfl
/- 20: laws_szShip -/
def c_laws_szShip : ACode := (.seq (.reg [(none, .box 2 (S 0)), (none, .mv 4 (K 0))]) (.seq (.reg [(none, .mv 5 (S 1)), (none, .faddr 6 (S 2) 0), (none, .load 7 (S 6) false 1), (none, .slen 8 (S 7)), (none, .bin 9 .sub (S 5) (S 8)), (none, .mv 1 (S 9))]) (.seq (.seq (.reg [(none, .mv 10 (S 1)), (none, .bin 11 .lss (S 10) (K 0))]) (.cond (S 11) (.seq (.reg [(none, .mv 4 (K (-1)))]) .ret) .skip)) (.seq (.reg [(none, .mv 12 (S 1)), (none, .mv 4 (S 12))]) .ret))))
theorem e_laws_szShip : entry Tryd.prog 20 = some (c_laws_szShip.strip, [4], 13) := by kernel_rfl
theorem w_laws_szShip (a0 : XShip) (a1 : Int) (r : Int) (h : f_laws_szShip a0 a1 = some r) : FC Tryd.prog 20 [.ag (XShip.row a0), .sc (.int .i64 a1)] [.sc (.v (.int .i64 r))] := by
  unfold f_laws_szShip at h
  refine FC_go (σ := ⟨[(0, va [aS a0.Name, aI a0.Length, aI a0.Draught, aI a0.Line, aI a0.Tugs, aB a0.Slow]), (1, vc (aI a1))], [], []⟩) mixed e_laws_szShip rfl rfl ?_
  simp only [c_laws_szShip]
  try simp only [Nat.reduceBEq, Nat.reduceMul, Nat.reduceAdd, Nat.reduceDiv, Int.reduceBEq, rules2, rowsX]
  refine go_bx rfl rfl rfl ?_
  rcases Bool.eq_false_or_eq_true (decide ((IntKind.i64.wrap (a1 - (a0.Name.length : Int))) < (0 : Int))) with hb1 | hb1
  · rw [ite_t hb1] at h
    try simp only [hb1, Nat.reduceBEq, Nat.reduceMul, Nat.reduceAdd, Nat.reduceDiv, Int.reduceBEq, rules2, rowsX]
    cases h
    exact ⟨⟨rfl, trivial⟩, rfl⟩
  · rw [ite_f hb1] at h
    try simp only [hb1, Nat.reduceBEq, Nat.reduceMul, Nat.reduceAdd, Nat.reduceDiv, Int.reduceBEq, rules2, rowsX]
    cases h
    exact ⟨⟨rfl, trivial⟩, rfl⟩
/- 22: laws_toShip -/
def c_laws_toShip : ACode := (.seq (.reg [(none, .box 1 (S 0)), (none, .alloc 2 [aS [], aI 0, aI 0, aI 0, aI 0, aB false])]) (.seq (.reg [(none, .alloc 3 [aS [], aI 0, aI 0, aI 0, aI 0, aB false])]) (.seq (.reg [(none, .faddr 4 (S 1) 0), (none, .load 5 (S 4) false 1), (none, .faddr 6 (S 3) 0), (none, .store (S 6) (S 5) 1)]) (.seq (.reg [(none, .faddr 7 (S 1) 1), (none, .load 8 (S 7) false 1), (none, .faddr 9 (S 3) 1), (none, .store (S 9) (S 8) 1)]) (.seq (.reg [(none, .faddr 10 (S 1) 2), (none, .load 11 (S 10) false 1), (none, .faddr 12 (S 3) 2), (none, .store (S 12) (S 11) 1)]) (.seq (.reg [(none, .faddr 13 (S 1) 3), (none, .load 14 (S 13) false 1), (none, .faddr 15 (S 3) 3), (none, .store (S 15) (S 14) 1)]) (.seq (.reg [(none, .faddr 16 (S 1) 4), (none, .load 17 (S 16) false 1), (none, .faddr 18 (S 3) 4), (none, .store (S 18) (S 17) 1)]) (.seq (.reg [(none, .faddr 19 (S 1) 5), (none, .load 20 (S 19) false 1), (none, .faddr 21 (S 3) 5), (none, .store (S 21) (S 20) 1)]) (.seq (.reg [(none, .load 22 (S 3) true 6), (none, .store (S 2) (S 22) 6)]) .ret)))))))))
theorem e_laws_toShip : entry Tryd.prog 22 = some (c_laws_toShip.strip, [.c 2 true 6], 23) := by kernel_rfl
theorem w_laws_toShip (a0 : XShip) (r : XShip) (h : f_laws_toShip a0 = some r) : FC Tryd.prog 22 [.ag (XShip.row a0)] [.ag [.v (.str r.Name), .v (.int .i64 r.Length), .v (.int .i64 r.Draught), .v (.int .i64 r.Line), .v (.int .i64 r.Tugs), .v (.bool r.Slow)]] := by
  unfold f_laws_toShip at h
  refine FC_go (σ := ⟨[(0, va [aS a0.Name, aI a0.Length, aI a0.Draught, aI a0.Line, aI a0.Tugs, aB a0.Slow])], [], []⟩) mixed e_laws_toShip rfl rfl ?_
  simp only [c_laws_toShip]
  try simp only [Nat.reduceBEq, Nat.reduceMul, Nat.reduceAdd, Nat.reduceDiv, Int.reduceBEq, rules2, rowsX]
  refine go_bx rfl rfl rfl ?_
  try simp only [Nat.reduceBEq, Nat.reduceMul, Nat.reduceAdd, Nat.reduceDiv, Int.reduceBEq, rules2, rowsX]
  refine go_al rfl rfl ?_
  try simp only [Nat.reduceBEq, Nat.reduceMul, Nat.reduceAdd, Nat.reduceDiv, Int.reduceBEq, rules2, rowsX]
  refine go_al rfl rfl ?_
  try simp only [Nat.reduceBEq, Nat.reduceMul, Nat.reduceAdd, Nat.reduceDiv, Int.reduceBEq, rules2, rowsX]
  cases h
  try simp only [rulesR, Nat.reduceBEq, Nat.reduceMul, Nat.reduceAdd, Nat.reduceDiv, Int.reduceBEq, rules2, rowsX]
  exact ⟨⟨⟨rfl, rfl, rfl, rfl, rfl, rfl, trivial⟩, trivial⟩, rfl⟩
/- 51: spec_l01In -/
def c_spec_l01In : ACode := (.seq (.reg [(none, .mv 6 (KB false))]) (.seq (.reg [(none, .mv 7 (S 0)), (none, .mv 8 (S 1)), (none, .bin 9 .geq (S 7) (S 8)), (none, .mv 10 (S 9)), (some (10, true), .mv 11 (S 0)), (some (10, true), .mv 12 (S 2)), (some (10, true), .bin 13 .leq (S 11) (S 12)), (none, .pick 14 (S 10) (S 13) (KB false)), (none, .mv 6 (S 14))]) .ret))
theorem e_spec_l01In : entry Tryd.prog 51 = some (c_spec_l01In.strip, [6], 15) := by kernel_rfl
theorem w_spec_l01In (a0 : Int) (a1 : Int) (a2 : Int) (r : Bool) (h : f_spec_l01In a0 a1 a2 = some r) : FC Tryd.prog 51 [.sc (.int .i64 a0), .sc (.int .i64 a1), .sc (.int .i64 a2)] [.sc (.v (.bool r))] := by
  unfold f_spec_l01In at h
  refine FC_go (σ := ⟨[(0, vc (aI a0)), (1, vc (aI a1)), (2, vc (aI a2))], [], []⟩) mixed e_spec_l01In rfl rfl ?_
  simp only [c_spec_l01In]
  rcases Bool.eq_false_or_eq_true (decide (a1 ≤ a0)) with hb1 | hb1
  · rw [ite_t hb1] at h
    try simp only [hb1, Nat.reduceBEq, Nat.reduceMul, Nat.reduceAdd, Nat.reduceDiv, Int.reduceBEq, rules2, rowsX]
    cases h
    exact ⟨⟨rfl, trivial⟩, rfl⟩
  · rw [ite_f hb1] at h
    try simp only [hb1, Nat.reduceBEq, Nat.reduceMul, Nat.reduceAdd, Nat.reduceDiv, Int.reduceBEq, rules2, rowsX]
    cases h
    exact ⟨⟨rfl, trivial⟩, rfl⟩
/- 94: spec_IsName -/
def c_spec_IsName_2 : ACode := .seq (.reg [(none, .keep [0, 3, 4] [] [])]) (.seq (.reg [(none, .mv 21 (S 4)), (none, .un 22 .not (S 21)), (none, .mv 23 (S 22)), (some (23, true), .mv 24 (S 3)), (some (23, true), .bin 25 .eql (S 24) (K 0)), (some (23, true), .mv 26 (S 25)), (some (26, false), .mv 27 (S 0)), (some (26, false), .mv 28 (S 3)), (some (26, false), .idx 29 (S 27) (S 28)), (some (26, false), .bin 30 .lss (S 29) (K8 48)), (some (23, true), .pick 31 (S 26) (KB true) (S 30)), (some (23, true), .mv 32 (S 31)), (some (32, false), .mv 33 (S 0)), (some (32, false), .mv 34 (S 3)), (some (32, false), .idx 35 (S 33) (S 34)), (some (32, false), .bin 36 .gtr (S 35) (K8 57)), (some (23, true), .pick 37 (S 32) (KB true) (S 36)), (none, .pick 38 (S 23) (S 37) (KB false))]) (.cond (S 38) (.seq (.reg [(none, .mv 2 (KB false))]) .ret) .skip))
def c_spec_IsName_3 : ACode := .seq (.reg [(none, .keep [0, 3] [] [])]) (.reg [(none, .mv 9 (S 3)), (none, .bin 10 .add (S 9) (K 1)), (none, .mv 3 (S 10))])
def c_spec_IsName_1 : ACode := .seq (.reg [(none, .keep [0, 3] [] [])]) (.seq (.seq (.reg [(none, .mv 5 (S 3)), (none, .mv 6 (S 0)), (none, .slen 7 (S 6)), (none, .bin 8 .lss (S 5) (S 7))]) (.cond (S 8) .skip (.exit 0))) (.seq (.block 1 (.seq (.reg [(none, .mv 11 (S 0)), (none, .mv 12 (S 3)), (none, .idx 13 (S 11) (S 12)), (none, .bin 14 .geq (S 13) (K8 97)), (none, .mv 15 (S 14)), (some (15, true), .mv 16 (S 0)), (some (15, true), .mv 17 (S 3)), (some (15, true), .idx 18 (S 16) (S 17)), (some (15, true), .bin 19 .leq (S 18) (K8 122)), (none, .pick 20 (S 15) (S 19) (KB false)), (none, .mv 4 (S 20))]) c_spec_IsName_2)) c_spec_IsName_3))
def c_spec_IsName_n1 : ACode := (.seq (.reg [(none, .mv 39 (S 0)), (none, .slen 40 (S 39)), (none, .call 41 51 [(S 40), (K 1), (K 8)]), (none, .mv 2 (S 41))]) .ret)
def c_spec_IsName : ACode := (.seq (.reg [(none, .mv 2 (KB false))]) (.seq (.seq (.reg [(none, .mv 3 (K 0))]) (.block 0 (.loop c_spec_IsName_1))) c_spec_IsName_n1))
theorem w_spec_IsName_3 (a0 : List UInt8) (v1 : Int) (k_spec_IsName_1 : Int → Option Bool) (hk_spec_IsName_1 : ∀ (v1 : Int) zr, k_spec_IsName_1 v1 = some zr → ∀ σ : St, σ.kept [0, 3] [] [] = ⟨[(0, vc (aS a0)), (3, vc (aI v1))], [], []⟩ → go Tryd.prog (.code (.loop c_spec_IsName_1) :: [.blk 0, .code c_spec_IsName_n1]) (Ret [2] [.sc (.v (.bool zr))]) .normal (some σ)) (r : Bool) (h : f_spec_IsName_3 a0 v1 k_spec_IsName_1 = some r) (σ : St) (hσ : σ.kept [0, 3] [] [] = ⟨[(0, vc (aS a0)), (3, vc (aI v1))], [], []⟩) : go Tryd.prog (.code c_spec_IsName_3 :: [.code (.loop c_spec_IsName_1), .blk 0, .code c_spec_IsName_n1]) (Ret [2] [.sc (.v (.bool r))]) .normal (some σ) := by
  unfold f_spec_IsName_3 at h
  try simp only [hσ, c_spec_IsName_3, Nat.reduceBEq, Nat.reduceMul, Nat.reduceAdd, Nat.reduceDiv, Int.reduceBEq, rules2, rowsX]
  refine hk_spec_IsName_1 _ _ h _ ?_
  try simp only [Nat.reduceBEq, Nat.reduceMul, Nat.reduceAdd, Nat.reduceDiv, Int.reduceBEq, rules2, rowsX, List.map_nil]
theorem w_spec_IsName_2 (a0 : List UInt8) (v1 : Int) (k_spec_IsName_1 : Int → Option Bool) (hk_spec_IsName_1 : ∀ (v1 : Int) zr, k_spec_IsName_1 v1 = some zr → ∀ σ : St, σ.kept [0, 3] [] [] = ⟨[(0, vc (aS a0)), (3, vc (aI v1))], [], []⟩ → go Tryd.prog (.code (.loop c_spec_IsName_1) :: [.blk 0, .code c_spec_IsName_n1]) (Ret [2] [.sc (.v (.bool zr))]) .normal (some σ)) (v5 : Bool) (r : Bool) (h : f_spec_IsName_2 a0 v1 k_spec_IsName_1 v5 = some r) (σ : St) (hσ : σ.kept [0, 3, 4] [] [] = ⟨[(0, vc (aS a0)), (3, vc (aI v1)), (4, vc (aB v5))], [], []⟩) : go Tryd.prog (.code c_spec_IsName_2 :: [.blk 1, .code c_spec_IsName_3, .code (.loop c_spec_IsName_1), .blk 0, .code c_spec_IsName_n1]) (Ret [2] [.sc (.v (.bool r))]) .normal (some σ) := by
  unfold f_spec_IsName_2 at h
  rcases Bool.eq_false_or_eq_true v5 with hb6 | hb6
  · rw [ite_t hb6] at h
    try simp only [hσ, hb6, c_spec_IsName_2, Nat.reduceBEq, Nat.reduceMul, Nat.reduceAdd, Nat.reduceDiv, Int.reduceBEq, rules2, rowsX]
    refine w_spec_IsName_3 _ _ k_spec_IsName_1 hk_spec_IsName_1 _ h _ ?_
    try simp only [hb6, Nat.reduceBEq, Nat.reduceMul, Nat.reduceAdd, Nat.reduceDiv, Int.reduceBEq, rules2, rowsX, List.map_nil]
  · rw [ite_f hb6] at h
    rcases Bool.eq_false_or_eq_true (v1 == (0 : Int)) with hb7 | hb7
    · rw [ite_t hb7] at h
      try simp only [hσ, hb6, hb7, c_spec_IsName_2, Nat.reduceBEq, Nat.reduceMul, Nat.reduceAdd, Nat.reduceDiv, Int.reduceBEq, rules2, rowsX]
      cases h
      exact ⟨⟨rfl, trivial⟩, rfl⟩
    · rw [ite_f hb7] at h
      obtain ⟨b8, hb8, h⟩ := ob h
      rcases Bool.eq_false_or_eq_true (decide ((b8.toNat : Int) < (48 : Int))) with hb9 | hb9
      · rw [ite_t hb9] at h
        try simp only [hσ, hb6, hb7, hb8, hb9, c_spec_IsName_2, Nat.reduceBEq, Nat.reduceMul, Nat.reduceAdd, Nat.reduceDiv, Int.reduceBEq, rules2, rowsX]
        cases h
        exact ⟨⟨rfl, trivial⟩, rfl⟩
      · rw [ite_f hb9] at h
        rcases Bool.eq_false_or_eq_true (decide ((57 : Int) < (b8.toNat : Int))) with hb10 | hb10
        · rw [ite_t hb10] at h
          try simp only [hσ, hb6, hb7, hb8, hb9, hb10, c_spec_IsName_2, Nat.reduceBEq, Nat.reduceMul, Nat.reduceAdd, Nat.reduceDiv, Int.reduceBEq, rules2, rowsX]
          cases h
          exact ⟨⟨rfl, trivial⟩, rfl⟩
        · rw [ite_f hb10] at h
          try simp only [hσ, hb6, hb7, hb8, hb9, hb10, c_spec_IsName_2, Nat.reduceBEq, Nat.reduceMul, Nat.reduceAdd, Nat.reduceDiv, Int.reduceBEq, rules2, rowsX]
          refine w_spec_IsName_3 _ _ k_spec_IsName_1 hk_spec_IsName_1 _ h _ ?_
          try simp only [hb6, hb7, hb8, hb9, hb10, Nat.reduceBEq, Nat.reduceMul, Nat.reduceAdd, Nat.reduceDiv, Int.reduceBEq, rules2, rowsX, List.map_nil]
theorem w_spec_IsName_1 (a0 : List UInt8) : ∀ (n : Nat) (v1 : Int) (r : Bool), f_spec_IsName_1 a0 n v1 = some r → ∀ σ : St, σ.kept [0, 3] [] [] = ⟨[(0, vc (aS a0)), (3, vc (aI v1))], [], []⟩ → go Tryd.prog (.code (.loop c_spec_IsName_1) :: [.blk 0, .code c_spec_IsName_n1]) (Ret [2] [.sc (.v (.bool r))]) .normal (some σ) := by
  intro n
  induction n with
  | zero => intro _ r h; cases h
  | succ n ih =>
    intro v1 r h σ hσ
    rw [f_spec_IsName_1] at h
    refine go_round ?_
    rcases Bool.eq_false_or_eq_true (decide (v1 < (a0.length : Int))) with hb2 | hb2
    · rw [ite_t hb2] at h
      obtain ⟨b3, hb3, h⟩ := ob h
      rcases Bool.eq_false_or_eq_true (decide ((97 : Int) ≤ (b3.toNat : Int))) with hb4 | hb4
      · rw [ite_t hb4] at h
        try simp only [hσ, hb2, hb3, hb4, c_spec_IsName_1, Nat.reduceBEq, Nat.reduceMul, Nat.reduceAdd, Nat.reduceDiv, Int.reduceBEq, rules2, rowsX]
        refine w_spec_IsName_2 _ _ (f_spec_IsName_1 a0 n) ih _ _ h _ ?_
        try simp only [hb2, hb3, hb4, Nat.reduceBEq, Nat.reduceMul, Nat.reduceAdd, Nat.reduceDiv, Int.reduceBEq, rules2, rowsX, List.map_nil]
      · rw [ite_f hb4] at h
        try simp only [hσ, hb2, hb3, hb4, c_spec_IsName_1, Nat.reduceBEq, Nat.reduceMul, Nat.reduceAdd, Nat.reduceDiv, Int.reduceBEq, rules2, rowsX]
        refine w_spec_IsName_2 _ _ (f_spec_IsName_1 a0 n) ih _ _ h _ ?_
        try simp only [hb2, hb3, hb4, Nat.reduceBEq, Nat.reduceMul, Nat.reduceAdd, Nat.reduceDiv, Int.reduceBEq, rules2, rowsX, List.map_nil]
    · rw [ite_f hb2] at h
      obtain ⟨r11, hr11, h⟩ := ob h
      try simp only [hσ, hb2, c_spec_IsName_1, c_spec_IsName_n1, Nat.reduceBEq, Nat.reduceMul, Nat.reduceAdd, Nat.reduceDiv, Int.reduceBEq, rules2, rowsX]
      refine go_callI (w_spec_l01In _ _ _ _ hr11) rfl rfl (Nat.le_of_ble_eq_true rfl) ?_
      try simp only [hb2, Nat.reduceBEq, Nat.reduceMul, Nat.reduceAdd, Nat.reduceDiv, Int.reduceBEq, rules2, rowsX]
      cases h
      exact ⟨⟨rfl, trivial⟩, rfl⟩
theorem e_spec_IsName : entry Tryd.prog 94 = some (c_spec_IsName.strip, [2], 42) := by kernel_rfl
theorem w_spec_IsName (a0 : List UInt8) (r : Bool) (h : f_spec_IsName a0 = some r) : FC Tryd.prog 94 [.sc (.str a0)] [.sc (.v (.bool r))] := by
  unfold f_spec_IsName at h
  refine FC_go (σ := ⟨[(0, vc (aS a0))], [], []⟩) mixed e_spec_IsName rfl rfl ?_
  simp only [c_spec_IsName]
  try simp only [Nat.reduceBEq, Nat.reduceMul, Nat.reduceAdd, Nat.reduceDiv, Int.reduceBEq, rules2, rowsX]
  refine w_spec_IsName_1 _ _ _ _ h _ ?_
  try simp only [Nat.reduceBEq, Nat.reduceMul, Nat.reduceAdd, Nat.reduceDiv, Int.reduceBEq, rules2, rowsX, List.map_nil]
/- 67: spec_ShipOk -/
def c_spec_ShipOk : ACode := (.seq (.reg [(none, .box 1 (S 0)), (none, .mv 2 (KB false))]) (.seq (.reg [(none, .faddr 3 (S 1) 0), (none, .load 4 (S 3) false 1), (none, .call 5 94 [(S 4)]), (none, .mv 6 (S 5)), (some (6, true), .faddr 7 (S 1) 1), (some (6, true), .load 8 (S 7) false 1), (some (6, true), .call 9 51 [(S 8), (K 10), (K 400)]), (none, .pick 10 (S 6) (S 9) (KB false)), (none, .mv 11 (S 10)), (some (11, true), .faddr 12 (S 1) 2), (some (11, true), .load 13 (S 12) false 1), (some (11, true), .call 14 51 [(S 13), (K 100), (K 2000)]), (none, .pick 15 (S 11) (S 14) (KB false)), (none, .mv 16 (S 15)), (some (16, true), .faddr 17 (S 1) 3), (some (16, true), .load 18 (S 17) false 1), (some (16, true), .call 19 51 [(S 18), (K 0), (K 3)]), (none, .pick 20 (S 16) (S 19) (KB false)), (none, .mv 21 (S 20)), (some (21, true), .faddr 22 (S 1) 4), (some (21, true), .load 23 (S 22) false 1), (some (21, true), .call 24 51 [(S 23), (K 0), (K 4)]), (none, .pick 25 (S 21) (S 24) (KB false)), (none, .mv 2 (S 25))]) .ret))
theorem e_spec_ShipOk : entry Tryd.prog 67 = some (c_spec_ShipOk.strip, [2], 26) := by kernel_rfl
theorem w_spec_ShipOk (a0 : XShip) (r : Bool) (h : f_spec_ShipOk a0 = some r) : FC Tryd.prog 67 [.ag (XShip.row a0)] [.sc (.v (.bool r))] := by
  unfold f_spec_ShipOk at h
  refine FC_go (σ := ⟨[(0, va [aS a0.Name, aI a0.Length, aI a0.Draught, aI a0.Line, aI a0.Tugs, aB a0.Slow])], [], []⟩) mixed e_spec_ShipOk rfl rfl ?_
  simp only [c_spec_ShipOk]
  try simp only [Nat.reduceBEq, Nat.reduceMul, Nat.reduceAdd, Nat.reduceDiv, Int.reduceBEq, rules2, rowsX]
  refine go_bx rfl rfl rfl ?_
  obtain ⟨r1, hr1, h⟩ := ob h
  try simp only [Nat.reduceBEq, Nat.reduceMul, Nat.reduceAdd, Nat.reduceDiv, Int.reduceBEq, rules2, rowsX]
  refine go_callI (w_spec_IsName _ _ hr1) rfl rfl (Nat.le_of_ble_eq_true rfl) ?_
  rcases Bool.eq_false_or_eq_true r1 with hb2 | hb2
  · rw [ite_t hb2] at h
    obtain ⟨r3, hr3, h⟩ := ob h
    try simp only [hb2, Nat.reduceBEq, Nat.reduceMul, Nat.reduceAdd, Nat.reduceDiv, Int.reduceBEq, rules2, rowsX]
    refine go_callI (w_spec_l01In _ _ _ _ hr3) rfl rfl (Nat.le_of_ble_eq_true rfl) ?_
    rcases Bool.eq_false_or_eq_true r3 with hb4 | hb4
    · rw [ite_t hb4] at h
      obtain ⟨r5, hr5, h⟩ := ob h
      try simp only [hb2, hb4, Nat.reduceBEq, Nat.reduceMul, Nat.reduceAdd, Nat.reduceDiv, Int.reduceBEq, rules2, rowsX]
      refine go_callI (w_spec_l01In _ _ _ _ hr5) rfl rfl (Nat.le_of_ble_eq_true rfl) ?_
      rcases Bool.eq_false_or_eq_true r5 with hb6 | hb6
      · rw [ite_t hb6] at h
        obtain ⟨r7, hr7, h⟩ := ob h
        try simp only [hb2, hb4, hb6, Nat.reduceBEq, Nat.reduceMul, Nat.reduceAdd, Nat.reduceDiv, Int.reduceBEq, rules2, rowsX]
        refine go_callI (w_spec_l01In _ _ _ _ hr7) rfl rfl (Nat.le_of_ble_eq_true rfl) ?_
        rcases Bool.eq_false_or_eq_true r7 with hb8 | hb8
        · rw [ite_t hb8] at h
          obtain ⟨r9, hr9, h⟩ := ob h
          try simp only [hb2, hb4, hb6, hb8, Nat.reduceBEq, Nat.reduceMul, Nat.reduceAdd, Nat.reduceDiv, Int.reduceBEq, rules2, rowsX]
          refine go_callI (w_spec_l01In _ _ _ _ hr9) rfl rfl (Nat.le_of_ble_eq_true rfl) ?_
          try simp only [hb2, hb4, hb6, hb8, Nat.reduceBEq, Nat.reduceMul, Nat.reduceAdd, Nat.reduceDiv, Int.reduceBEq, rules2, rowsX]
          cases h
          exact ⟨⟨rfl, trivial⟩, rfl⟩
        · rw [ite_f hb8] at h
          try simp only [hb2, hb4, hb6, hb8, Nat.reduceBEq, Nat.reduceMul, Nat.reduceAdd, Nat.reduceDiv, Int.reduceBEq, rules2, rowsX]
          cases h
          exact ⟨⟨rfl, trivial⟩, rfl⟩
      · rw [ite_f hb6] at h
        try simp only [hb2, hb4, hb6, Nat.reduceBEq, Nat.reduceMul, Nat.reduceAdd, Nat.reduceDiv, Int.reduceBEq, rules2, rowsX]
        cases h
        exact ⟨⟨rfl, trivial⟩, rfl⟩
    · rw [ite_f hb4] at h
      try simp only [hb2, hb4, Nat.reduceBEq, Nat.reduceMul, Nat.reduceAdd, Nat.reduceDiv, Int.reduceBEq, rules2, rowsX]
      cases h
      exact ⟨⟨rfl, trivial⟩, rfl⟩
  · rw [ite_f hb2] at h
    try simp only [hb2, Nat.reduceBEq, Nat.reduceMul, Nat.reduceAdd, Nat.reduceDiv, Int.reduceBEq, rules2, rowsX]
    cases h
    exact ⟨⟨rfl, trivial⟩, rfl⟩
/- 52: spec_FormatInt -/
def c_spec_FormatInt_1 : ACode := .seq (.reg [(none, .keep [0, 3] [] [])]) (.seq (.seq (.reg [(none, .mv 25 (S 0)), (none, .bin 26 .gtr (S 25) (K 9))]) (.cond (S 26) .skip (.exit 0))) (.block 1 (.seq (.reg [(none, .mv 27 (S 0)), (none, .bin 28 .rem (S 27) (K 10)), (none, .bin 29 .add (K 48) (S 28)), (none, .conv 30 .u8 (S 29)), (none, .bslice 31 1 [.int .u8 0] 1 [(0, (S 30))]), (none, .sconv 32 (S 31)), (none, .mv 33 (S 3)), (none, .bin 34 .add (S 32) (S 33)), (none, .mv 3 (S 34))]) (.reg [(none, .mv 35 (S 0)), (none, .bin 36 .quo (S 35) (K 10)), (none, .mv 0 (S 36))]))))
def c_spec_FormatInt_n1 : ACode := (.seq (.reg [(none, .mv 37 (S 0)), (none, .bin 38 .add (K 48) (S 37)), (none, .conv 39 .u8 (S 38)), (none, .bslice 40 1 [.int .u8 0] 1 [(0, (S 39))]), (none, .sconv 41 (S 40)), (none, .mv 42 (S 3)), (none, .bin 43 .add (S 41) (S 42)), (none, .mv 2 (S 43))]) .ret)
def c_spec_FormatInt : ACode := (.seq (.reg [(none, .mv 2 (KS []))]) (.seq (.seq (.reg [(none, .mv 4 (S 0)), (none, .bin 5 .lss (S 4) (K 0))]) (.cond (S 5) (.seq (.seq (.reg [(none, .mv 6 (S 0)), (none, .bin 7 .quo (S 6) (K 10)), (none, .bin 8 .eql (S 7) (K 0))]) (.cond (S 8) (.seq (.reg [(none, .mv 9 (S 0)), (none, .bin 10 .sub (K 48) (S 9)), (none, .conv 11 .u8 (S 10)), (none, .bslice 12 1 [.int .u8 0] 1 [(0, (S 11))]), (none, .sconv 13 (S 12)), (none, .bin 14 .add (KS [45]) (S 13)), (none, .mv 2 (S 14))]) .ret) .skip)) (.seq (.drw [(some [22], (none, .mv 15 (S 0))), (some [22], (none, .bin 16 .quo (S 15) (K 10))), (some [22], (none, .call 17 52 [(S 16)])), (some [17], (none, .mv 18 (S 0))), (some [17], (none, .bin 19 .rem (S 18) (K 10))), (some [17], (none, .bin 20 .sub (K 48) (S 19))), (some [17], (none, .conv 21 .u8 (S 20))), (some [17], (none, .bslice 22 1 [.int .u8 0] 1 [(0, (S 21))])), (some [17], (none, .sconv 23 (S 22))), (some [], (none, .bin 24 .add (S 17) (S 23))), (some [], (none, .mv 2 (S 24)))]) .ret)) .skip)) (.seq (.reg [(none, .mv 3 (KS []))]) (.seq (.block 0 (.loop c_spec_FormatInt_1)) c_spec_FormatInt_n1))))
theorem w_spec_FormatInt_1 (rec_ : Int → Option (List UInt8)) (h_rec : ∀ (a0 : Int) zr, rec_ a0 = some zr → FC Tryd.prog 52 [.sc (.int .i64 a0)] [.sc (.v (.str zr))]) : ∀ (n : Nat) (v6 : Int) (v7 : List UInt8) (r : (List UInt8)), f_spec_FormatInt_1 rec_ n v6 v7 = some r → ∀ σ : St, σ.kept [0, 3] [] [] = ⟨[(0, vc (aI v6)), (3, vc (aS v7))], [], []⟩ → go Tryd.prog (.code (.loop c_spec_FormatInt_1) :: [.blk 0, .code c_spec_FormatInt_n1]) (Ret [2] [.sc (.v (.str r))]) .normal (some σ) := by
  intro n
  induction n with
  | zero => intro _ _ r h; cases h
  | succ n ih =>
    intro v6 v7 r h σ hσ
    rw [f_spec_FormatInt_1] at h
    refine go_round ?_
    rcases Bool.eq_false_or_eq_true (decide ((9 : Int) < v6)) with hb8 | hb8
    · rw [ite_t hb8] at h
      try simp only [hσ, hb8, c_spec_FormatInt_1, Nat.reduceBEq, Nat.reduceMul, Nat.reduceAdd, Nat.reduceDiv, Int.reduceBEq, rules2, rowsX]
      refine go_bsl (es := List.map r8 ([(IntKind.u8.wrap (IntKind.i64.wrap ((48 : Int) + (IntKind.i64.wrap (Int.tmod v6 (10 : Int))))))] : List Int)) rfl rfl ?_
      obtain ⟨hg9, h⟩ := of_guard h
      try simp only [hb8, hg9, Nat.reduceBEq, Nat.reduceMul, Nat.reduceAdd, Nat.reduceDiv, Int.reduceBEq, rules2, rowsX]
      refine ih _ _ _ h _ ?_
      try simp only [hb8, hg9, Nat.reduceBEq, Nat.reduceMul, Nat.reduceAdd, Nat.reduceDiv, Int.reduceBEq, rules2, rowsX, List.map_nil]
    · rw [ite_f hb8] at h
      try simp only [hσ, hb8, c_spec_FormatInt_1, c_spec_FormatInt_n1, Nat.reduceBEq, Nat.reduceMul, Nat.reduceAdd, Nat.reduceDiv, Int.reduceBEq, rules2, rowsX]
      refine go_bsl (es := List.map r8 ([(IntKind.u8.wrap (IntKind.i64.wrap ((48 : Int) + v6)))] : List Int)) rfl rfl ?_
      obtain ⟨hg10, h⟩ := of_guard h
      try simp only [hb8, hg10, Nat.reduceBEq, Nat.reduceMul, Nat.reduceAdd, Nat.reduceDiv, Int.reduceBEq, rules2, rowsX]
      cases h
      exact ⟨⟨rfl, trivial⟩, rfl⟩
theorem e_spec_FormatInt : entry Tryd.prog 52 = some (c_spec_FormatInt.strip, [2], 44) := by kernel_rfl
theorem w_spec_FormatInt_b (rec_ : Int → Option (List UInt8)) (a0 : Int) (r : (List UInt8)) (h_rec : ∀ (a0 : Int) zr, rec_ a0 = some zr → FC Tryd.prog 52 [.sc (.int .i64 a0)] [.sc (.v (.str zr))]) (h : f_spec_FormatInt_b rec_ a0 = some r) : FC Tryd.prog 52 [.sc (.int .i64 a0)] [.sc (.v (.str r))] := by
  unfold f_spec_FormatInt_b at h
  refine FC_go (σ := ⟨[(0, vc (aI a0))], [], []⟩) mixed e_spec_FormatInt rfl rfl ?_
  simp only [c_spec_FormatInt]
  rcases Bool.eq_false_or_eq_true (decide (a0 < (0 : Int))) with hb1 | hb1
  · rw [ite_t hb1] at h
    rcases Bool.eq_false_or_eq_true ((IntKind.i64.wrap (Int.tdiv a0 (10 : Int))) == (0 : Int)) with hb2 | hb2
    · rw [ite_t hb2] at h
      try simp only [hb1, hb2, Nat.reduceBEq, Nat.reduceMul, Nat.reduceAdd, Nat.reduceDiv, Int.reduceBEq, rules2, rowsX]
      refine go_bsl (es := List.map r8 ([(IntKind.u8.wrap (IntKind.i64.wrap ((48 : Int) - a0)))] : List Int)) rfl rfl ?_
      obtain ⟨hg3, h⟩ := of_guard h
      try simp only [hb1, hb2, hg3, Nat.reduceBEq, Nat.reduceMul, Nat.reduceAdd, Nat.reduceDiv, Int.reduceBEq, rules2, rowsX]
      cases h
      exact ⟨⟨rfl, trivial⟩, rfl⟩
    · rw [ite_f hb2] at h
      try simp only [hb1, hb2, Nat.reduceBEq, Nat.reduceMul, Nat.reduceAdd, Nat.reduceDiv, Int.reduceBEq, rules2, rowsX]
      refine go_fr_of rfl ?_
      obtain ⟨r4, hr4, h⟩ := ob h
      try simp only [hb1, hb2, Nat.reduceBEq, Nat.reduceMul, Nat.reduceAdd, Nat.reduceDiv, Int.reduceBEq, rules2, rowsX]
      refine go_dcallI (h_rec _ _ hr4) rfl rfl (Nat.le_of_ble_eq_true rfl) ?_
      try simp only [hb1, hb2, Nat.reduceBEq, Nat.reduceMul, Nat.reduceAdd, Nat.reduceDiv, Int.reduceBEq, rules2, rowsX]
      refine go_mkN (m := .row 22 1 (List.map r8 ([(IntKind.u8.wrap (IntKind.i64.wrap ((48 : Int) - (IntKind.i64.wrap (Int.tmod a0 (10 : Int))))))] : List Int))) rfl rfl (make_row rfl) ?_
      obtain ⟨hg5, h⟩ := of_guard h
      try simp only [hb1, hb2, hg5, Nat.reduceBEq, Nat.reduceMul, Nat.reduceAdd, Nat.reduceDiv, Int.reduceBEq, rules2, rowsX]
      cases h
      exact ⟨⟨rfl, trivial⟩, rfl⟩
  · rw [ite_f hb1] at h
    try simp only [hb1, Nat.reduceBEq, Nat.reduceMul, Nat.reduceAdd, Nat.reduceDiv, Int.reduceBEq, rules2, rowsX]
    refine w_spec_FormatInt_1 rec_ h_rec _ _ _ _ h _ ?_
    try simp only [hb1, Nat.reduceBEq, Nat.reduceMul, Nat.reduceAdd, Nat.reduceDiv, Int.reduceBEq, rules2, rowsX, List.map_nil]
theorem w_spec_FormatInt_r : ∀ (n : Nat) (a0 : Int) (r : (List UInt8)), f_spec_FormatInt_r n a0 = some r → FC Tryd.prog 52 [.sc (.int .i64 a0)] [.sc (.v (.str r))] := by
  intro n
  induction n with
  | zero => intro _ r h; cases h
  | succ n ih => intro a0 r h; rw [f_spec_FormatInt_r] at h; exact w_spec_FormatInt_b (f_spec_FormatInt_r n) a0 r ih h
theorem w_spec_FormatInt (a0 : Int) (r : (List UInt8)) (h : f_spec_FormatInt a0 = some r) : FC Tryd.prog 52 [.sc (.int .i64 a0)] [.sc (.v (.str r))] := w_spec_FormatInt_r bigN a0 r h
/- 68: spec_Join -/
def c_spec_Join_2 : ACode := .seq (.reg [(none, .keep [1, 5, 7, 8, 9, 10] [] [])]) (.reg [(none, .mv 20 (S 5)), (none, .mv 21 (S 7)), (none, .bin 22 .add (S 20) (S 21)), (none, .mv 5 (S 22))])
def c_spec_Join_n2 : ACode := (.reg [(none, .bin 23 .add (S 10) (K 1)), (none, .mv 10 (S 23))])
def c_spec_Join_1 : ACode := .seq (.reg [(none, .keep [1, 5, 8, 9, 10] [] [])]) (.seq (.reg [(none, .bin 11 .lss (S 10) (S 9))]) (.seq (.cond (S 11) .skip (.exit 0)) (.seq (.block 1 (.seq (.reg [(none, .mv 12 (S 10)), (none, .iaddr 13 (S 8) (S 10) 1), (none, .load 14 (S 13) false 1), (none, .mv 6 (S 12)), (none, .mv 7 (S 14))]) (.seq (.seq (.reg [(none, .mv 15 (S 6)), (none, .bin 16 .gtr (S 15) (K 0))]) (.cond (S 16) (.reg [(none, .mv 17 (S 5)), (none, .mv 18 (S 1)), (none, .bin 19 .add (S 17) (S 18)), (none, .mv 5 (S 19))]) .skip)) c_spec_Join_2))) c_spec_Join_n2)))
def c_spec_Join_n1 : ACode := (.seq (.reg [(none, .mv 24 (S 5)), (none, .mv 4 (S 24))]) .ret)
def c_spec_Join : ACode := (.seq (.reg [(none, .mv 4 (KS []))]) (.seq (.reg [(none, .mv 5 (KS []))]) (.seq (.seq (.reg [(none, .mv 8 (S 0)), (none, .len 9 (S 8)), (none, .mv 10 (K 0))]) (.block 0 (.loop c_spec_Join_1))) c_spec_Join_n1)))
theorem w_spec_Join_2 (a1 : List UInt8) (x4 : List UInt8) (a0 : List (List UInt8)) (v2 : Int) (k_spec_Join_1 : (List UInt8) → Int → Option (List UInt8)) (hk_spec_Join_1 : ∀ (v1 : List UInt8) (v2 : Int) zr, k_spec_Join_1 v1 v2 = some zr → ∀ σ : St, σ.kept [1, 5, 8, 9, 10] [] [] = ⟨[(1, vc (aS a1)), (5, vc (aS v1)), (8, vc (aL (List.map rS a0))), (9, vc (aI (a0.length : Int))), (10, vc (aI v2))], [], []⟩ → go Tryd.prog (.code (.loop c_spec_Join_1) :: [.blk 0, .code c_spec_Join_n1]) (Ret [4] [.sc (.v (.str zr))]) .normal (some σ)) (v7 : List UInt8) (r : (List UInt8)) (h : f_spec_Join_2 a1 x4 a0 v2 k_spec_Join_1 v7 = some r) (σ : St) (hσ : σ.kept [1, 5, 7, 8, 9, 10] [] [] = ⟨[(1, vc (aS a1)), (5, vc (aS v7)), (7, vc (aS x4)), (8, vc (aL (List.map rS a0))), (9, vc (aI (a0.length : Int))), (10, vc (aI v2))], [], []⟩) : go Tryd.prog (.code c_spec_Join_2 :: [.blk 1, .code c_spec_Join_n2, .code (.loop c_spec_Join_1), .blk 0, .code c_spec_Join_n1]) (Ret [4] [.sc (.v (.str r))]) .normal (some σ) := by
  unfold f_spec_Join_2 at h
  obtain ⟨hg8, h⟩ := of_guard h
  try simp only [hσ, hg8, c_spec_Join_2, c_spec_Join_n2, Nat.reduceBEq, Nat.reduceMul, Nat.reduceAdd, Nat.reduceDiv, Int.reduceBEq, rules2, rowsX]
  refine hk_spec_Join_1 _ _ _ h _ ?_
  try simp only [hg8, Nat.reduceBEq, Nat.reduceMul, Nat.reduceAdd, Nat.reduceDiv, Int.reduceBEq, rules2, rowsX, List.map_nil]
theorem w_spec_Join_1 (a1 : List UInt8) (a0 : List (List UInt8)) : ∀ (n : Nat) (v1 : List UInt8) (v2 : Int) (r : (List UInt8)), f_spec_Join_1 a1 a0 n v1 v2 = some r → ∀ σ : St, σ.kept [1, 5, 8, 9, 10] [] [] = ⟨[(1, vc (aS a1)), (5, vc (aS v1)), (8, vc (aL (List.map rS a0))), (9, vc (aI (a0.length : Int))), (10, vc (aI v2))], [], []⟩ → go Tryd.prog (.code (.loop c_spec_Join_1) :: [.blk 0, .code c_spec_Join_n1]) (Ret [4] [.sc (.v (.str r))]) .normal (some σ) := by
  intro n
  induction n with
  | zero => intro _ _ r h; cases h
  | succ n ih =>
    intro v1 v2 r h σ hσ
    rw [f_spec_Join_1] at h
    refine go_round ?_
    rcases Bool.eq_false_or_eq_true (decide (v2 < (a0.length : Int))) with hb3 | hb3
    · rw [ite_t hb3] at h
      obtain ⟨x4, hx4, h⟩ := ob h
      rcases Bool.eq_false_or_eq_true (decide ((0 : Int) < v2)) with hb5 | hb5
      · rw [ite_t hb5] at h
        obtain ⟨hg6, h⟩ := of_guard h
        try simp only [hσ, hb3, hx4, hb5, hg6, c_spec_Join_1, Nat.reduceBEq, Nat.reduceMul, Nat.reduceAdd, Nat.reduceDiv, Int.reduceBEq, rules2, rowsX]
        refine w_spec_Join_2 _ _ _ _ (f_spec_Join_1 a1 a0 n) ih _ _ h _ ?_
        try simp only [hb3, hx4, hb5, hg6, Nat.reduceBEq, Nat.reduceMul, Nat.reduceAdd, Nat.reduceDiv, Int.reduceBEq, rules2, rowsX, List.map_nil]
      · rw [ite_f hb5] at h
        try simp only [hσ, hb3, hx4, hb5, c_spec_Join_1, Nat.reduceBEq, Nat.reduceMul, Nat.reduceAdd, Nat.reduceDiv, Int.reduceBEq, rules2, rowsX]
        refine w_spec_Join_2 _ _ _ _ (f_spec_Join_1 a1 a0 n) ih _ _ h _ ?_
        try simp only [hb3, hx4, hb5, Nat.reduceBEq, Nat.reduceMul, Nat.reduceAdd, Nat.reduceDiv, Int.reduceBEq, rules2, rowsX, List.map_nil]
    · rw [ite_f hb3] at h
      try simp only [hσ, hb3, c_spec_Join_1, c_spec_Join_n1, Nat.reduceBEq, Nat.reduceMul, Nat.reduceAdd, Nat.reduceDiv, Int.reduceBEq, rules2, rowsX]
      cases h
      exact ⟨⟨rfl, trivial⟩, rfl⟩
theorem e_spec_Join : entry Tryd.prog 68 = some (c_spec_Join.strip, [4], 25) := by kernel_rfl
theorem w_spec_Join (a0 : List (List UInt8)) (a1 : List UInt8) (r : (List UInt8)) (h : f_spec_Join a0 a1 = some r) : FC Tryd.prog 68 [.sc (.sl (List.map rS a0)), .sc (.str a1)] [.sc (.v (.str r))] := by
  unfold f_spec_Join at h
  refine FC_go (σ := ⟨[(0, vc (aL (List.map rS a0))), (1, vc (aS a1))], [], []⟩) mixed e_spec_Join rfl rfl ?_
  simp only [c_spec_Join]
  try simp only [Nat.reduceBEq, Nat.reduceMul, Nat.reduceAdd, Nat.reduceDiv, Int.reduceBEq, rules2, rowsX]
  refine w_spec_Join_1 _ _ _ _ _ _ h _ ?_
  try simp only [Nat.reduceBEq, Nat.reduceMul, Nat.reduceAdd, Nat.reduceDiv, Int.reduceBEq, rules2, rowsX, List.map_nil]
/- 21: spec_FormatShip -/
def c_spec_FormatShip_1 : ACode := .seq (.reg [(none, .keep [3] [] [1344])]) (.seq (.reg [(none, .mv 27 (S 3)), (none, .call 28 68 [(S 27), (KS [32])]), (none, .mv 2 (S 28))]) .ret)
def c_spec_FormatShip : ACode := (.seq (.reg [(none, .box 1 (S 0)), (none, .mv 2 (KS []))]) (.seq (.seq (.reg [(none, .load 4 (S 1) true 6), (none, .call 5 67 [(S 4)]), (none, .un 6 .not (S 5))]) (.cond (S 6) (.seq (.reg [(none, .mv 2 (KS []))]) .ret) .skip)) (.seq (.drw [(some [11, 14, 17, 20], (none, .faddr 7 (S 1) 0)), (some [11, 14, 17, 20], (none, .load 8 (S 7) false 1)), (some [], (none, .faddr 9 (S 1) 1)), (some [], (none, .load 10 (S 9) false 1)), (some [], (none, .call 11 52 [(S 10)])), (some [11], (none, .faddr 12 (S 1) 2)), (some [11], (none, .load 13 (S 12) false 1)), (some [], (none, .call 14 52 [(S 13)])), (some [11, 14], (none, .faddr 15 (S 1) 3)), (some [11, 14], (none, .load 16 (S 15) false 1)), (some [], (none, .call 17 52 [(S 16)])), (some [11, 14, 17], (none, .faddr 18 (S 1) 4)), (some [11, 14, 17], (none, .load 19 (S 18) false 1)), (some [], (none, .call 20 52 [(S 19)])), (some [], (none, .bslice 21 1 [.str []] 5 [(0, (S 8)), (1, (S 11)), (2, (S 14)), (3, (S 17)), (4, (S 20))])), (some [], (none, .mv 3 (S 21)))]) (.seq (.seq (.reg [(none, .faddr 22 (S 1) 5), (none, .load 23 (S 22) false 1)]) (.cond (S 23) (.reg [(none, .mv 24 (S 3)), (none, .bslice 25 1 [.str []] 1 [(0, (KS [115, 108, 111, 119]))]), (none, .app 26 1 16 (S 24) (S 25)), (none, .mv 3 (S 26))]) .skip)) c_spec_FormatShip_1))))
theorem w_spec_FormatShip_1 (v9 : List (List UInt8)) (r : (List UInt8)) (h : f_spec_FormatShip_1 v9 = some r) (σ : St) (hσ : σ.kept [3] [] [1344] = ⟨[(3, vc (.own 1344))], [], [(1344, 1, List.map rS v9)]⟩) : go Tryd.prog (.code c_spec_FormatShip_1 :: []) (Ret [2] [.sc (.v (.str r))]) .normal (some σ) := by
  unfold f_spec_FormatShip_1 at h
  obtain ⟨r10, hr10, h⟩ := ob h
  try simp only [hσ, c_spec_FormatShip_1, Nat.reduceBEq, Nat.reduceMul, Nat.reduceAdd, Nat.reduceDiv, Int.reduceBEq, rules2, rowsX]
  refine go_call (w_spec_Join _ _ _ hr10) rfl (flat_of rfl) rfl (Nat.le_of_ble_eq_true rfl) ?_
  try simp only [Nat.reduceBEq, Nat.reduceMul, Nat.reduceAdd, Nat.reduceDiv, Int.reduceBEq, rules2, rowsX]
  cases h
  exact ⟨⟨rfl, trivial⟩, rfl⟩
theorem e_spec_FormatShip : entry Tryd.prog 21 = some (c_spec_FormatShip.strip, [2], 29) := by kernel_rfl
theorem w_spec_FormatShip (a0 : XShip) (r : (List UInt8)) (h : f_spec_FormatShip a0 = some r) : FC Tryd.prog 21 [.ag (XShip.row a0)] [.sc (.v (.str r))] := by
  unfold f_spec_FormatShip at h
  refine FC_go (σ := ⟨[(0, va [aS a0.Name, aI a0.Length, aI a0.Draught, aI a0.Line, aI a0.Tugs, aB a0.Slow])], [], []⟩) mixed e_spec_FormatShip rfl rfl ?_
  simp only [c_spec_FormatShip]
  try simp only [Nat.reduceBEq, Nat.reduceMul, Nat.reduceAdd, Nat.reduceDiv, Int.reduceBEq, rules2, rowsX]
  refine go_bx rfl rfl rfl ?_
  obtain ⟨r1, hr1, h⟩ := ob h
  try simp only [Nat.reduceBEq, Nat.reduceMul, Nat.reduceAdd, Nat.reduceDiv, Int.reduceBEq, rules2, rowsX]
  refine go_callI (w_spec_ShipOk _ _ hr1) rfl rfl (Nat.le_of_ble_eq_true rfl) ?_
  rcases Bool.eq_false_or_eq_true r1 with hb2 | hb2
  · rw [ite_t hb2] at h
    try simp only [hb2, Nat.reduceBEq, Nat.reduceMul, Nat.reduceAdd, Nat.reduceDiv, Int.reduceBEq, rules2, rowsX]
    refine go_fr_of rfl ?_
    obtain ⟨r3, hr3, h⟩ := ob h
    try simp only [hb2, Nat.reduceBEq, Nat.reduceMul, Nat.reduceAdd, Nat.reduceDiv, Int.reduceBEq, rules2, rowsX]
    refine go_dcallI (w_spec_FormatInt _ _ hr3) rfl rfl (Nat.le_of_ble_eq_true rfl) ?_
    obtain ⟨r4, hr4, h⟩ := ob h
    try simp only [hb2, Nat.reduceBEq, Nat.reduceMul, Nat.reduceAdd, Nat.reduceDiv, Int.reduceBEq, rules2, rowsX]
    refine go_dcallI (w_spec_FormatInt _ _ hr4) rfl rfl (Nat.le_of_ble_eq_true rfl) ?_
    obtain ⟨r5, hr5, h⟩ := ob h
    try simp only [hb2, Nat.reduceBEq, Nat.reduceMul, Nat.reduceAdd, Nat.reduceDiv, Int.reduceBEq, rules2, rowsX]
    refine go_dcallI (w_spec_FormatInt _ _ hr5) rfl rfl (Nat.le_of_ble_eq_true rfl) ?_
    obtain ⟨r6, hr6, h⟩ := ob h
    try simp only [hb2, Nat.reduceBEq, Nat.reduceMul, Nat.reduceAdd, Nat.reduceDiv, Int.reduceBEq, rules2, rowsX]
    refine go_dcallI (w_spec_FormatInt _ _ hr6) rfl rfl (Nat.le_of_ble_eq_true rfl) ?_
    try simp only [hb2, Nat.reduceBEq, Nat.reduceMul, Nat.reduceAdd, Nat.reduceDiv, Int.reduceBEq, rules2, rowsX]
    refine go_bsl (es := List.map rS ([a0.Name, r3, r4, r5, r6] : List (List UInt8))) rfl rfl ?_
    rcases Bool.eq_false_or_eq_true a0.Slow with hb7 | hb7
    · rw [ite_t hb7] at h
      try simp only [hb2, hb7, Nat.reduceBEq, Nat.reduceMul, Nat.reduceAdd, Nat.reduceDiv, Int.reduceBEq, rules2, rowsX]
      refine go_bsl (es := List.map rS ([([115, 108, 111, 119] : List UInt8)] : List (List UInt8))) rfl rfl ?_
      obtain ⟨hg8, h⟩ := of_guard h
      try simp only [hb2, hb7, hg8, Nat.reduceBEq, Nat.reduceMul, Nat.reduceAdd, Nat.reduceDiv, Int.reduceBEq, rules2, rowsX]
      refine w_spec_FormatShip_1 _ _ h _ ?_
      try simp only [hb2, hb7, hg8, Nat.reduceBEq, Nat.reduceMul, Nat.reduceAdd, Nat.reduceDiv, Int.reduceBEq, rules2, rowsX, List.map_nil]
    · rw [ite_f hb7] at h
      try simp only [hb2, hb7, Nat.reduceBEq, Nat.reduceMul, Nat.reduceAdd, Nat.reduceDiv, Int.reduceBEq, rules2, rowsX]
      refine w_spec_FormatShip_1 _ _ h _ ?_
      try simp only [hb2, hb7, Nat.reduceBEq, Nat.reduceMul, Nat.reduceAdd, Nat.reduceDiv, Int.reduceBEq, rules2, rowsX, List.map_nil]
  · rw [ite_f hb2] at h
    try simp only [hb2, Nat.reduceBEq, Nat.reduceMul, Nat.reduceAdd, Nat.reduceDiv, Int.reduceBEq, rules2, rowsX]
    cases h
    exact ⟨⟨rfl, trivial⟩, rfl⟩
/- 91: impl_within -/
def c_impl_within : ACode := (.seq (.reg [(none, .mv 6 (KB false))]) (.seq (.reg [(none, .mv 7 (S 1)), (none, .mv 8 (S 0)), (none, .bin 9 .leq (S 7) (S 8)), (none, .mv 10 (S 9)), (some (10, true), .mv 11 (S 0)), (some (10, true), .mv 12 (S 2)), (some (10, true), .bin 13 .leq (S 11) (S 12)), (none, .pick 14 (S 10) (S 13) (KB false)), (none, .mv 6 (S 14))]) .ret))
theorem e_impl_within : entry Tryd.prog 91 = some (c_impl_within.strip, [6], 15) := by kernel_rfl
theorem w_impl_within (a0 : Int) (a1 : Int) (a2 : Int) (r : Bool) (h : f_impl_within a0 a1 a2 = some r) : FC Tryd.prog 91 [.sc (.int .i64 a0), .sc (.int .i64 a1), .sc (.int .i64 a2)] [.sc (.v (.bool r))] := by
  unfold f_impl_within at h
  refine FC_go (σ := ⟨[(0, vc (aI a0)), (1, vc (aI a1)), (2, vc (aI a2))], [], []⟩) mixed e_impl_within rfl rfl ?_
  simp only [c_impl_within]
  rcases Bool.eq_false_or_eq_true (decide (a1 ≤ a0)) with hb1 | hb1
  · rw [ite_t hb1] at h
    try simp only [hb1, Nat.reduceBEq, Nat.reduceMul, Nat.reduceAdd, Nat.reduceDiv, Int.reduceBEq, rules2, rowsX]
    cases h
    exact ⟨⟨rfl, trivial⟩, rfl⟩
  · rw [ite_f hb1] at h
    try simp only [hb1, Nat.reduceBEq, Nat.reduceMul, Nat.reduceAdd, Nat.reduceDiv, Int.reduceBEq, rules2, rowsX]
    cases h
    exact ⟨⟨rfl, trivial⟩, rfl⟩
/- 95: impl_IsName -/
def c_impl_IsName_2 : ACode := .seq (.reg [(none, .keep [0, 3, 4] [] [])]) (.seq (.reg [(none, .mv 25 (S 4)), (none, .un 26 .not (S 25)), (none, .mv 27 (S 26)), (some (27, true), .mv 28 (S 3)), (some (27, true), .bin 29 .eql (S 28) (K 0)), (some (27, true), .mv 30 (S 29)), (some (30, false), .mv 31 (S 0)), (some (30, false), .mv 32 (S 3)), (some (30, false), .idx 33 (S 31) (S 32)), (some (30, false), .bin 34 .lss (S 33) (K8 48)), (some (27, true), .pick 35 (S 30) (KB true) (S 34)), (some (27, true), .mv 36 (S 35)), (some (36, false), .mv 37 (S 0)), (some (36, false), .mv 38 (S 3)), (some (36, false), .idx 39 (S 37) (S 38)), (some (36, false), .bin 40 .gtr (S 39) (K8 57)), (some (27, true), .pick 41 (S 36) (KB true) (S 40)), (none, .pick 42 (S 27) (S 41) (KB false))]) (.cond (S 42) (.seq (.reg [(none, .mv 2 (KB false))]) .ret) .skip))
def c_impl_IsName_3 : ACode := .seq (.reg [(none, .keep [0, 3] [] [])]) (.reg [(none, .mv 13 (S 3)), (none, .bin 14 .add (S 13) (K 1)), (none, .mv 3 (S 14))])
def c_impl_IsName_1 : ACode := .seq (.reg [(none, .keep [0, 3] [] [])]) (.seq (.seq (.reg [(none, .mv 9 (S 3)), (none, .mv 10 (S 0)), (none, .slen 11 (S 10)), (none, .bin 12 .lss (S 9) (S 11))]) (.cond (S 12) .skip (.exit 0))) (.seq (.block 1 (.seq (.reg [(none, .mv 15 (S 0)), (none, .mv 16 (S 3)), (none, .idx 17 (S 15) (S 16)), (none, .bin 18 .geq (S 17) (K8 97)), (none, .mv 19 (S 18)), (some (19, true), .mv 20 (S 0)), (some (19, true), .mv 21 (S 3)), (some (19, true), .idx 22 (S 20) (S 21)), (some (19, true), .bin 23 .leq (S 22) (K8 122)), (none, .pick 24 (S 19) (S 23) (KB false)), (none, .mv 4 (S 24))]) c_impl_IsName_2)) c_impl_IsName_3))
def c_impl_IsName_n1 : ACode := (.seq (.reg [(none, .mv 2 (KB true))]) .ret)
def c_impl_IsName : ACode := (.seq (.reg [(none, .mv 2 (KB false))]) (.seq (.seq (.reg [(none, .mv 5 (S 0)), (none, .slen 6 (S 5)), (none, .call 7 91 [(S 6), (K 1), (K 8)]), (none, .un 8 .not (S 7))]) (.cond (S 8) (.seq (.reg [(none, .mv 2 (KB false))]) .ret) .skip)) (.seq (.seq (.reg [(none, .mv 3 (K 0))]) (.block 0 (.loop c_impl_IsName_1))) c_impl_IsName_n1)))
theorem w_impl_IsName_3 (a0 : List UInt8) (v3 : Int) (k_impl_IsName_1 : Int → Option Bool) (hk_impl_IsName_1 : ∀ (v3 : Int) zr, k_impl_IsName_1 v3 = some zr → ∀ σ : St, σ.kept [0, 3] [] [] = ⟨[(0, vc (aS a0)), (3, vc (aI v3))], [], []⟩ → go Tryd.prog (.code (.loop c_impl_IsName_1) :: [.blk 0, .code c_impl_IsName_n1]) (Ret [2] [.sc (.v (.bool zr))]) .normal (some σ)) (r : Bool) (h : f_impl_IsName_3 a0 v3 k_impl_IsName_1 = some r) (σ : St) (hσ : σ.kept [0, 3] [] [] = ⟨[(0, vc (aS a0)), (3, vc (aI v3))], [], []⟩) : go Tryd.prog (.code c_impl_IsName_3 :: [.code (.loop c_impl_IsName_1), .blk 0, .code c_impl_IsName_n1]) (Ret [2] [.sc (.v (.bool r))]) .normal (some σ) := by
  unfold f_impl_IsName_3 at h
  try simp only [hσ, c_impl_IsName_3, Nat.reduceBEq, Nat.reduceMul, Nat.reduceAdd, Nat.reduceDiv, Int.reduceBEq, rules2, rowsX]
  refine hk_impl_IsName_1 _ _ h _ ?_
  try simp only [Nat.reduceBEq, Nat.reduceMul, Nat.reduceAdd, Nat.reduceDiv, Int.reduceBEq, rules2, rowsX, List.map_nil]
theorem w_impl_IsName_2 (a0 : List UInt8) (v3 : Int) (k_impl_IsName_1 : Int → Option Bool) (hk_impl_IsName_1 : ∀ (v3 : Int) zr, k_impl_IsName_1 v3 = some zr → ∀ σ : St, σ.kept [0, 3] [] [] = ⟨[(0, vc (aS a0)), (3, vc (aI v3))], [], []⟩ → go Tryd.prog (.code (.loop c_impl_IsName_1) :: [.blk 0, .code c_impl_IsName_n1]) (Ret [2] [.sc (.v (.bool zr))]) .normal (some σ)) (v7 : Bool) (r : Bool) (h : f_impl_IsName_2 a0 v3 k_impl_IsName_1 v7 = some r) (σ : St) (hσ : σ.kept [0, 3, 4] [] [] = ⟨[(0, vc (aS a0)), (3, vc (aI v3)), (4, vc (aB v7))], [], []⟩) : go Tryd.prog (.code c_impl_IsName_2 :: [.blk 1, .code c_impl_IsName_3, .code (.loop c_impl_IsName_1), .blk 0, .code c_impl_IsName_n1]) (Ret [2] [.sc (.v (.bool r))]) .normal (some σ) := by
  unfold f_impl_IsName_2 at h
  rcases Bool.eq_false_or_eq_true v7 with hb8 | hb8
  · rw [ite_t hb8] at h
    try simp only [hσ, hb8, c_impl_IsName_2, Nat.reduceBEq, Nat.reduceMul, Nat.reduceAdd, Nat.reduceDiv, Int.reduceBEq, rules2, rowsX]
    refine w_impl_IsName_3 _ _ k_impl_IsName_1 hk_impl_IsName_1 _ h _ ?_
    try simp only [hb8, Nat.reduceBEq, Nat.reduceMul, Nat.reduceAdd, Nat.reduceDiv, Int.reduceBEq, rules2, rowsX, List.map_nil]
  · rw [ite_f hb8] at h
    rcases Bool.eq_false_or_eq_true (v3 == (0 : Int)) with hb9 | hb9
    · rw [ite_t hb9] at h
      try simp only [hσ, hb8, hb9, c_impl_IsName_2, Nat.reduceBEq, Nat.reduceMul, Nat.reduceAdd, Nat.reduceDiv, Int.reduceBEq, rules2, rowsX]
      cases h
      exact ⟨⟨rfl, trivial⟩, rfl⟩
    · rw [ite_f hb9] at h
      obtain ⟨b10, hb10, h⟩ := ob h
      rcases Bool.eq_false_or_eq_true (decide ((b10.toNat : Int) < (48 : Int))) with hb11 | hb11
      · rw [ite_t hb11] at h
        try simp only [hσ, hb8, hb9, hb10, hb11, c_impl_IsName_2, Nat.reduceBEq, Nat.reduceMul, Nat.reduceAdd, Nat.reduceDiv, Int.reduceBEq, rules2, rowsX]
        cases h
        exact ⟨⟨rfl, trivial⟩, rfl⟩
      · rw [ite_f hb11] at h
        rcases Bool.eq_false_or_eq_true (decide ((57 : Int) < (b10.toNat : Int))) with hb12 | hb12
        · rw [ite_t hb12] at h
          try simp only [hσ, hb8, hb9, hb10, hb11, hb12, c_impl_IsName_2, Nat.reduceBEq, Nat.reduceMul, Nat.reduceAdd, Nat.reduceDiv, Int.reduceBEq, rules2, rowsX]
          cases h
          exact ⟨⟨rfl, trivial⟩, rfl⟩
        · rw [ite_f hb12] at h
          try simp only [hσ, hb8, hb9, hb10, hb11, hb12, c_impl_IsName_2, Nat.reduceBEq, Nat.reduceMul, Nat.reduceAdd, Nat.reduceDiv, Int.reduceBEq, rules2, rowsX]
          refine w_impl_IsName_3 _ _ k_impl_IsName_1 hk_impl_IsName_1 _ h _ ?_
          try simp only [hb8, hb9, hb10, hb11, hb12, Nat.reduceBEq, Nat.reduceMul, Nat.reduceAdd, Nat.reduceDiv, Int.reduceBEq, rules2, rowsX, List.map_nil]
theorem w_impl_IsName_1 (a0 : List UInt8) : ∀ (n : Nat) (v3 : Int) (r : Bool), f_impl_IsName_1 a0 n v3 = some r → ∀ σ : St, σ.kept [0, 3] [] [] = ⟨[(0, vc (aS a0)), (3, vc (aI v3))], [], []⟩ → go Tryd.prog (.code (.loop c_impl_IsName_1) :: [.blk 0, .code c_impl_IsName_n1]) (Ret [2] [.sc (.v (.bool r))]) .normal (some σ) := by
  intro n
  induction n with
  | zero => intro _ r h; cases h
  | succ n ih =>
    intro v3 r h σ hσ
    rw [f_impl_IsName_1] at h
    refine go_round ?_
    rcases Bool.eq_false_or_eq_true (decide (v3 < (a0.length : Int))) with hb4 | hb4
    · rw [ite_t hb4] at h
      obtain ⟨b5, hb5, h⟩ := ob h
      rcases Bool.eq_false_or_eq_true (decide ((97 : Int) ≤ (b5.toNat : Int))) with hb6 | hb6
      · rw [ite_t hb6] at h
        try simp only [hσ, hb4, hb5, hb6, c_impl_IsName_1, Nat.reduceBEq, Nat.reduceMul, Nat.reduceAdd, Nat.reduceDiv, Int.reduceBEq, rules2, rowsX]
        refine w_impl_IsName_2 _ _ (f_impl_IsName_1 a0 n) ih _ _ h _ ?_
        try simp only [hb4, hb5, hb6, Nat.reduceBEq, Nat.reduceMul, Nat.reduceAdd, Nat.reduceDiv, Int.reduceBEq, rules2, rowsX, List.map_nil]
      · rw [ite_f hb6] at h
        try simp only [hσ, hb4, hb5, hb6, c_impl_IsName_1, Nat.reduceBEq, Nat.reduceMul, Nat.reduceAdd, Nat.reduceDiv, Int.reduceBEq, rules2, rowsX]
        refine w_impl_IsName_2 _ _ (f_impl_IsName_1 a0 n) ih _ _ h _ ?_
        try simp only [hb4, hb5, hb6, Nat.reduceBEq, Nat.reduceMul, Nat.reduceAdd, Nat.reduceDiv, Int.reduceBEq, rules2, rowsX, List.map_nil]
    · rw [ite_f hb4] at h
      try simp only [hσ, hb4, c_impl_IsName_1, c_impl_IsName_n1, Nat.reduceBEq, Nat.reduceMul, Nat.reduceAdd, Nat.reduceDiv, Int.reduceBEq, rules2, rowsX]
      cases h
      exact ⟨⟨rfl, trivial⟩, rfl⟩
theorem e_impl_IsName : entry Tryd.prog 95 = some (c_impl_IsName.strip, [2], 43) := by kernel_rfl
theorem w_impl_IsName (a0 : List UInt8) (r : Bool) (h : f_impl_IsName a0 = some r) : FC Tryd.prog 95 [.sc (.str a0)] [.sc (.v (.bool r))] := by
  unfold f_impl_IsName at h
  refine FC_go (σ := ⟨[(0, vc (aS a0))], [], []⟩) mixed e_impl_IsName rfl rfl ?_
  simp only [c_impl_IsName]
  obtain ⟨r1, hr1, h⟩ := ob h
  try simp only [Nat.reduceBEq, Nat.reduceMul, Nat.reduceAdd, Nat.reduceDiv, Int.reduceBEq, rules2, rowsX]
  refine go_callI (w_impl_within _ _ _ _ hr1) rfl rfl (Nat.le_of_ble_eq_true rfl) ?_
  rcases Bool.eq_false_or_eq_true r1 with hb2 | hb2
  · rw [ite_t hb2] at h
    try simp only [hb2, Nat.reduceBEq, Nat.reduceMul, Nat.reduceAdd, Nat.reduceDiv, Int.reduceBEq, rules2, rowsX]
    refine w_impl_IsName_1 _ _ _ _ h _ ?_
    try simp only [hb2, Nat.reduceBEq, Nat.reduceMul, Nat.reduceAdd, Nat.reduceDiv, Int.reduceBEq, rules2, rowsX, List.map_nil]
  · rw [ite_f hb2] at h
    try simp only [hb2, Nat.reduceBEq, Nat.reduceMul, Nat.reduceAdd, Nat.reduceDiv, Int.reduceBEq, rules2, rowsX]
    cases h
    exact ⟨⟨rfl, trivial⟩, rfl⟩
/- 96: impl_isIndex -/
def c_impl_isIndex : ACode := (.seq (.reg [(none, .mv 4 (KB false))]) (.seq (.reg [(none, .mv 5 (S 0)), (none, .bin 6 .geq (S 5) (K 0)), (none, .mv 7 (S 6)), (some (7, true), .mv 8 (S 0)), (some (7, true), .mv 9 (S 1)), (some (7, true), .bin 10 .lss (S 8) (S 9)), (none, .pick 11 (S 7) (S 10) (KB false)), (none, .mv 4 (S 11))]) .ret))
theorem e_impl_isIndex : entry Tryd.prog 96 = some (c_impl_isIndex.strip, [4], 12) := by kernel_rfl
theorem w_impl_isIndex (a0 : Int) (a1 : Int) (r : Bool) (h : f_impl_isIndex a0 a1 = some r) : FC Tryd.prog 96 [.sc (.int .i64 a0), .sc (.int .i64 a1)] [.sc (.v (.bool r))] := by
  unfold f_impl_isIndex at h
  refine FC_go (σ := ⟨[(0, vc (aI a0)), (1, vc (aI a1))], [], []⟩) mixed e_impl_isIndex rfl rfl ?_
  simp only [c_impl_isIndex]
  rcases Bool.eq_false_or_eq_true (decide ((0 : Int) ≤ a0)) with hb1 | hb1
  · rw [ite_t hb1] at h
    try simp only [hb1, Nat.reduceBEq, Nat.reduceMul, Nat.reduceAdd, Nat.reduceDiv, Int.reduceBEq, rules2, rowsX]
    cases h
    exact ⟨⟨rfl, trivial⟩, rfl⟩
  · rw [ite_f hb1] at h
    try simp only [hb1, Nat.reduceBEq, Nat.reduceMul, Nat.reduceAdd, Nat.reduceDiv, Int.reduceBEq, rules2, rowsX]
    cases h
    exact ⟨⟨rfl, trivial⟩, rfl⟩
/- 69: impl_ShipOk -/
def c_impl_ShipOk : ACode := (.seq (.reg [(none, .box 1 (S 0)), (none, .mv 2 (KB false))]) (.seq (.reg [(none, .faddr 3 (S 1) 0), (none, .load 4 (S 3) false 1), (none, .call 5 95 [(S 4)]), (none, .mv 6 (S 5)), (some (6, true), .faddr 7 (S 1) 1), (some (6, true), .load 8 (S 7) false 1), (some (6, true), .call 9 91 [(S 8), (K 10), (K 400)]), (none, .pick 10 (S 6) (S 9) (KB false)), (none, .mv 11 (S 10)), (some (11, true), .faddr 12 (S 1) 2), (some (11, true), .load 13 (S 12) false 1), (some (11, true), .call 14 91 [(S 13), (K 100), (K 2000)]), (none, .pick 15 (S 11) (S 14) (KB false)), (none, .mv 16 (S 15)), (some (16, true), .faddr 17 (S 1) 3), (some (16, true), .load 18 (S 17) false 1), (some (16, true), .call 19 96 [(S 18), (K 4)]), (none, .pick 20 (S 16) (S 19) (KB false)), (none, .mv 21 (S 20)), (some (21, true), .faddr 22 (S 1) 4), (some (21, true), .load 23 (S 22) false 1), (some (21, true), .call 24 91 [(S 23), (K 0), (K 4)]), (none, .pick 25 (S 21) (S 24) (KB false)), (none, .mv 2 (S 25))]) .ret))
theorem e_impl_ShipOk : entry Tryd.prog 69 = some (c_impl_ShipOk.strip, [2], 26) := by kernel_rfl
theorem w_impl_ShipOk (a0 : XShip) (r : Bool) (h : f_impl_ShipOk a0 = some r) : FC Tryd.prog 69 [.ag (XShip.row a0)] [.sc (.v (.bool r))] := by
  unfold f_impl_ShipOk at h
  refine FC_go (σ := ⟨[(0, va [aS a0.Name, aI a0.Length, aI a0.Draught, aI a0.Line, aI a0.Tugs, aB a0.Slow])], [], []⟩) mixed e_impl_ShipOk rfl rfl ?_
  simp only [c_impl_ShipOk]
  try simp only [Nat.reduceBEq, Nat.reduceMul, Nat.reduceAdd, Nat.reduceDiv, Int.reduceBEq, rules2, rowsX]
  refine go_bx rfl rfl rfl ?_
  obtain ⟨r1, hr1, h⟩ := ob h
  try simp only [Nat.reduceBEq, Nat.reduceMul, Nat.reduceAdd, Nat.reduceDiv, Int.reduceBEq, rules2, rowsX]
  refine go_callI (w_impl_IsName _ _ hr1) rfl rfl (Nat.le_of_ble_eq_true rfl) ?_
  rcases Bool.eq_false_or_eq_true r1 with hb2 | hb2
  · rw [ite_t hb2] at h
    obtain ⟨r3, hr3, h⟩ := ob h
    try simp only [hb2, Nat.reduceBEq, Nat.reduceMul, Nat.reduceAdd, Nat.reduceDiv, Int.reduceBEq, rules2, rowsX]
    refine go_callI (w_impl_within _ _ _ _ hr3) rfl rfl (Nat.le_of_ble_eq_true rfl) ?_
    rcases Bool.eq_false_or_eq_true r3 with hb4 | hb4
    · rw [ite_t hb4] at h
      obtain ⟨r5, hr5, h⟩ := ob h
      try simp only [hb2, hb4, Nat.reduceBEq, Nat.reduceMul, Nat.reduceAdd, Nat.reduceDiv, Int.reduceBEq, rules2, rowsX]
      refine go_callI (w_impl_within _ _ _ _ hr5) rfl rfl (Nat.le_of_ble_eq_true rfl) ?_
      rcases Bool.eq_false_or_eq_true r5 with hb6 | hb6
      · rw [ite_t hb6] at h
        obtain ⟨r7, hr7, h⟩ := ob h
        try simp only [hb2, hb4, hb6, Nat.reduceBEq, Nat.reduceMul, Nat.reduceAdd, Nat.reduceDiv, Int.reduceBEq, rules2, rowsX]
        refine go_callI (w_impl_isIndex _ _ _ hr7) rfl rfl (Nat.le_of_ble_eq_true rfl) ?_
        rcases Bool.eq_false_or_eq_true r7 with hb8 | hb8
        · rw [ite_t hb8] at h
          obtain ⟨r9, hr9, h⟩ := ob h
          try simp only [hb2, hb4, hb6, hb8, Nat.reduceBEq, Nat.reduceMul, Nat.reduceAdd, Nat.reduceDiv, Int.reduceBEq, rules2, rowsX]
          refine go_callI (w_impl_within _ _ _ _ hr9) rfl rfl (Nat.le_of_ble_eq_true rfl) ?_
          try simp only [hb2, hb4, hb6, hb8, Nat.reduceBEq, Nat.reduceMul, Nat.reduceAdd, Nat.reduceDiv, Int.reduceBEq, rules2, rowsX]
          cases h
          exact ⟨⟨rfl, trivial⟩, rfl⟩
        · rw [ite_f hb8] at h
          try simp only [hb2, hb4, hb6, hb8, Nat.reduceBEq, Nat.reduceMul, Nat.reduceAdd, Nat.reduceDiv, Int.reduceBEq, rules2, rowsX]
          cases h
          exact ⟨⟨rfl, trivial⟩, rfl⟩
      · rw [ite_f hb6] at h
        try simp only [hb2, hb4, hb6, Nat.reduceBEq, Nat.reduceMul, Nat.reduceAdd, Nat.reduceDiv, Int.reduceBEq, rules2, rowsX]
        cases h
        exact ⟨⟨rfl, trivial⟩, rfl⟩
    · rw [ite_f hb4] at h
      try simp only [hb2, hb4, Nat.reduceBEq, Nat.reduceMul, Nat.reduceAdd, Nat.reduceDiv, Int.reduceBEq, rules2, rowsX]
      cases h
      exact ⟨⟨rfl, trivial⟩, rfl⟩
  · rw [ite_f hb2] at h
    try simp only [hb2, Nat.reduceBEq, Nat.reduceMul, Nat.reduceAdd, Nat.reduceDiv, Int.reduceBEq, rules2, rowsX]
    cases h
    exact ⟨⟨rfl, trivial⟩, rfl⟩
/- 57: impl_FormatInt -/
def c_impl_FormatInt : ACode := (.seq (.reg [(none, .mv 2 (KS []))]) (.seq (.reg [(none, .mv 3 (S 0)), (none, .call 4 93 [(S 3)]), (none, .mv 2 (S 4))]) .ret))
theorem e_impl_FormatInt : entry Tryd.prog 57 = some (c_impl_FormatInt.strip, [2], 5) := by kernel_rfl
theorem w_impl_FormatInt (a0 : Int) (r : (List UInt8)) (h : f_impl_FormatInt a0 = some r) : FC Tryd.prog 57 [.sc (.int .i64 a0)] [.sc (.v (.str r))] := by
  unfold f_impl_FormatInt at h
  refine FC_go (σ := ⟨[(0, vc (aI a0))], [], []⟩) mixed e_impl_FormatInt rfl rfl ?_
  simp only [c_impl_FormatInt]
  obtain ⟨r1, hr1, h⟩ := ob h
  try simp only [Nat.reduceBEq, Nat.reduceMul, Nat.reduceAdd, Nat.reduceDiv, Int.reduceBEq, rules2, rowsX]
  refine go_callI (w_strconv_Itoa _ _ hr1) rfl rfl (Nat.le_of_ble_eq_true rfl) ?_
  try simp only [Nat.reduceBEq, Nat.reduceMul, Nat.reduceAdd, Nat.reduceDiv, Int.reduceBEq, rules2, rowsX]
  cases h
  exact ⟨⟨rfl, trivial⟩, rfl⟩
/- 56: impl_Join -/
def c_impl_Join : ACode := (.seq (.reg [(none, .mv 4 (KS []))]) (.seq (.reg [(none, .mv 5 (S 0)), (none, .mv 6 (S 1)), (none, .call 7 92 [(S 5), (S 6)]), (none, .mv 4 (S 7))]) .ret))
theorem e_impl_Join : entry Tryd.prog 56 = some (c_impl_Join.strip, [4], 8) := by kernel_rfl
theorem w_impl_Join (a0 : List (List UInt8)) (a1 : List UInt8) (r : (List UInt8)) (h : f_impl_Join a0 a1 = some r) : FC Tryd.prog 56 [.sc (.sl (List.map rS a0)), .sc (.str a1)] [.sc (.v (.str r))] := by
  unfold f_impl_Join at h
  refine FC_go (σ := ⟨[(0, vc (aL (List.map rS a0))), (1, vc (aS a1))], [], []⟩) mixed e_impl_Join rfl rfl ?_
  simp only [c_impl_Join]
  obtain ⟨r1, hr1, h⟩ := ob h
  try simp only [Nat.reduceBEq, Nat.reduceMul, Nat.reduceAdd, Nat.reduceDiv, Int.reduceBEq, rules2, rowsX]
  refine go_callI (w_strings_Join _ _ _ hr1) rfl rfl (Nat.le_of_ble_eq_true rfl) ?_
  try simp only [Nat.reduceBEq, Nat.reduceMul, Nat.reduceAdd, Nat.reduceDiv, Int.reduceBEq, rules2, rowsX]
  cases h
  exact ⟨⟨rfl, trivial⟩, rfl⟩
/- 70: impl_marked -/
def c_impl_marked : ACode := (.seq (.reg [(none, .mv 6 (KS []))]) (.seq (.seq (.reg [(none, .mv 7 (S 1))]) (.cond (S 7) (.seq (.reg [(none, .mv 8 (S 0)), (none, .bin 9 .add (S 8) (KS [32])), (none, .mv 10 (S 2)), (none, .bin 11 .add (S 9) (S 10)), (none, .mv 6 (S 11))]) .ret) .skip)) (.seq (.reg [(none, .mv 12 (S 0)), (none, .mv 6 (S 12))]) .ret)))
theorem e_impl_marked : entry Tryd.prog 70 = some (c_impl_marked.strip, [6], 13) := by kernel_rfl
theorem w_impl_marked (a0 : List UInt8) (a1 : Bool) (a2 : List UInt8) (r : (List UInt8)) (h : f_impl_marked a0 a1 a2 = some r) : FC Tryd.prog 70 [.sc (.str a0), .sc (.bool a1), .sc (.str a2)] [.sc (.v (.str r))] := by
  unfold f_impl_marked at h
  refine FC_go (σ := ⟨[(0, vc (aS a0)), (1, vc (aB a1)), (2, vc (aS a2))], [], []⟩) mixed e_impl_marked rfl rfl ?_
  simp only [c_impl_marked]
  rcases Bool.eq_false_or_eq_true a1 with hb1 | hb1
  · rw [ite_t hb1] at h
    obtain ⟨hg2, h⟩ := of_guard h
    obtain ⟨hg3, h⟩ := of_guard h
    try simp only [hb1, hg2, hg3, Nat.reduceBEq, Nat.reduceMul, Nat.reduceAdd, Nat.reduceDiv, Int.reduceBEq, rules2, rowsX]
    cases h
    exact ⟨⟨rfl, trivial⟩, rfl⟩
  · rw [ite_f hb1] at h
    try simp only [hb1, Nat.reduceBEq, Nat.reduceMul, Nat.reduceAdd, Nat.reduceDiv, Int.reduceBEq, rules2, rowsX]
    cases h
    exact ⟨⟨rfl, trivial⟩, rfl⟩
/- 23: impl_FormatShip -/
def c_impl_FormatShip : ACode := (.seq (.reg [(none, .box 1 (S 0)), (none, .mv 2 (KS []))]) (.seq (.seq (.reg [(none, .load 4 (S 1) true 6), (none, .call 5 69 [(S 4)]), (none, .un 6 .not (S 5))]) (.cond (S 6) (.seq (.reg [(none, .mv 2 (KS []))]) .ret) .skip)) (.seq (.drw [(some [11, 14, 17, 20], (none, .faddr 7 (S 1) 0)), (some [11, 14, 17, 20], (none, .load 8 (S 7) false 1)), (some [], (none, .faddr 9 (S 1) 1)), (some [], (none, .load 10 (S 9) false 1)), (some [], (none, .call 11 57 [(S 10)])), (some [11], (none, .faddr 12 (S 1) 2)), (some [11], (none, .load 13 (S 12) false 1)), (some [], (none, .call 14 57 [(S 13)])), (some [11, 14], (none, .faddr 15 (S 1) 3)), (some [11, 14], (none, .load 16 (S 15) false 1)), (some [], (none, .call 17 57 [(S 16)])), (some [11, 14, 17], (none, .faddr 18 (S 1) 4)), (some [11, 14, 17], (none, .load 19 (S 18) false 1)), (some [], (none, .call 20 57 [(S 19)])), (some [], (none, .bslice 21 1 [.str []] 5 [(0, (S 8)), (1, (S 11)), (2, (S 14)), (3, (S 17)), (4, (S 20))])), (some [], (none, .mv 3 (S 21)))]) (.seq (.drw [(some [], (none, .mv 22 (S 3))), (some [], (none, .call 23 56 [(S 22), (KS [32])])), (some [23], (none, .faddr 24 (S 1) 5)), (some [23], (none, .load 25 (S 24) false 1)), (some [], (none, .call 26 70 [(S 23), (S 25), (KS [115, 108, 111, 119])])), (some [], (none, .mv 2 (S 26)))]) .ret))))
theorem e_impl_FormatShip : entry Tryd.prog 23 = some (c_impl_FormatShip.strip, [2], 27) := by kernel_rfl
theorem w_impl_FormatShip (a0 : XShip) (r : (List UInt8)) (h : f_impl_FormatShip a0 = some r) : FC Tryd.prog 23 [.ag (XShip.row a0)] [.sc (.v (.str r))] := by
  unfold f_impl_FormatShip at h
  refine FC_go (σ := ⟨[(0, va [aS a0.Name, aI a0.Length, aI a0.Draught, aI a0.Line, aI a0.Tugs, aB a0.Slow])], [], []⟩) mixed e_impl_FormatShip rfl rfl ?_
  simp only [c_impl_FormatShip]
  try simp only [Nat.reduceBEq, Nat.reduceMul, Nat.reduceAdd, Nat.reduceDiv, Int.reduceBEq, rules2, rowsX]
  refine go_bx rfl rfl rfl ?_
  obtain ⟨r1, hr1, h⟩ := ob h
  try simp only [Nat.reduceBEq, Nat.reduceMul, Nat.reduceAdd, Nat.reduceDiv, Int.reduceBEq, rules2, rowsX]
  refine go_callI (w_impl_ShipOk _ _ hr1) rfl rfl (Nat.le_of_ble_eq_true rfl) ?_
  rcases Bool.eq_false_or_eq_true r1 with hb2 | hb2
  · rw [ite_t hb2] at h
    try simp only [hb2, Nat.reduceBEq, Nat.reduceMul, Nat.reduceAdd, Nat.reduceDiv, Int.reduceBEq, rules2, rowsX]
    refine go_fr_of rfl ?_
    obtain ⟨r3, hr3, h⟩ := ob h
    try simp only [hb2, Nat.reduceBEq, Nat.reduceMul, Nat.reduceAdd, Nat.reduceDiv, Int.reduceBEq, rules2, rowsX]
    refine go_dcallI (w_impl_FormatInt _ _ hr3) rfl rfl (Nat.le_of_ble_eq_true rfl) ?_
    obtain ⟨r4, hr4, h⟩ := ob h
    try simp only [hb2, Nat.reduceBEq, Nat.reduceMul, Nat.reduceAdd, Nat.reduceDiv, Int.reduceBEq, rules2, rowsX]
    refine go_dcallI (w_impl_FormatInt _ _ hr4) rfl rfl (Nat.le_of_ble_eq_true rfl) ?_
    obtain ⟨r5, hr5, h⟩ := ob h
    try simp only [hb2, Nat.reduceBEq, Nat.reduceMul, Nat.reduceAdd, Nat.reduceDiv, Int.reduceBEq, rules2, rowsX]
    refine go_dcallI (w_impl_FormatInt _ _ hr5) rfl rfl (Nat.le_of_ble_eq_true rfl) ?_
    obtain ⟨r6, hr6, h⟩ := ob h
    try simp only [hb2, Nat.reduceBEq, Nat.reduceMul, Nat.reduceAdd, Nat.reduceDiv, Int.reduceBEq, rules2, rowsX]
    refine go_dcallI (w_impl_FormatInt _ _ hr6) rfl rfl (Nat.le_of_ble_eq_true rfl) ?_
    try simp only [hb2, Nat.reduceBEq, Nat.reduceMul, Nat.reduceAdd, Nat.reduceDiv, Int.reduceBEq, rules2, rowsX]
    refine go_bsl (es := List.map rS ([a0.Name, r3, r4, r5, r6] : List (List UInt8))) rfl rfl ?_
    try simp only [hb2, Nat.reduceBEq, Nat.reduceMul, Nat.reduceAdd, Nat.reduceDiv, Int.reduceBEq, rules2, rowsX]
    refine go_fr_of rfl ?_
    obtain ⟨r7, hr7, h⟩ := ob h
    try simp only [hb2, Nat.reduceBEq, Nat.reduceMul, Nat.reduceAdd, Nat.reduceDiv, Int.reduceBEq, rules2, rowsX]
    refine go_dcall (w_impl_Join _ _ _ hr7) rfl (flat_of rfl) rfl (Nat.le_of_ble_eq_true rfl) ?_
    obtain ⟨r8, hr8, h⟩ := ob h
    try simp only [hb2, Nat.reduceBEq, Nat.reduceMul, Nat.reduceAdd, Nat.reduceDiv, Int.reduceBEq, rules2, rowsX]
    refine go_dcallI (w_impl_marked _ _ _ _ hr8) rfl rfl (Nat.le_of_ble_eq_true rfl) ?_
    try simp only [hb2, Nat.reduceBEq, Nat.reduceMul, Nat.reduceAdd, Nat.reduceDiv, Int.reduceBEq, rules2, rowsX]
    cases h
    exact ⟨⟨rfl, trivial⟩, rfl⟩
  · rw [ite_f hb2] at h
    try simp only [hb2, Nat.reduceBEq, Nat.reduceMul, Nat.reduceAdd, Nat.reduceDiv, Int.reduceBEq, rules2, rowsX]
    cases h
    exact ⟨⟨rfl, trivial⟩, rfl⟩
/- 5: laws_FnExactFormatShip -/
def c_laws_FnExactFormatShip : ACode := (.seq (.reg [(none, .box 1 (S 0)), (none, .mv 2 (KB false))]) (.seq (.reg [(none, .mv 3 (K 1048576))]) (.seq (.reg [(none, .load 6 (S 1) true 6), (none, .mv 7 (S 3)), (none, .call 8 20 [(S 6), (S 7)]), (none, .mv 3 (S 8))]) (.seq (.seq (.reg [(none, .mv 9 (S 3)), (none, .bin 10 .lss (S 9) (K 0))]) (.cond (S 10) (.seq (.reg [(none, .mv 2 (KB true))]) .ret) .skip)) (.seq (.reg [(none, .load 11 (S 1) true 6), (none, .call 12 22 [(S 11)]), (none, .call 13 21 [(S 12)]), (none, .mv 4 (S 13))]) (.seq (.reg [(none, .load 14 (S 1) true 6), (none, .call 15 22 [(S 14)]), (none, .call 16 23 [(S 15)]), (none, .mv 5 (S 16))]) (.seq (.seq (.reg [(none, .mv 17 (S 5)), (none, .mv 18 (S 4)), (none, .bin 19 .neq (S 17) (S 18))]) (.cond (S 19) (.seq (.reg [(none, .mv 2 (KB false))]) .ret) .skip)) (.seq (.reg [(none, .mv 2 (KB true))]) .ret))))))))
theorem e_laws_FnExactFormatShip : entry Tryd.prog 5 = some (c_laws_FnExactFormatShip.strip, [2], 20) := by kernel_rfl
theorem w_laws_FnExactFormatShip (a0 : XShip) (r : Bool) (h : f_laws_FnExactFormatShip a0 = some r) : FC Tryd.prog 5 [.ag (XShip.row a0)] [.sc (.v (.bool r))] := by
  unfold f_laws_FnExactFormatShip at h
  refine FC_go (σ := ⟨[(0, va [aS a0.Name, aI a0.Length, aI a0.Draught, aI a0.Line, aI a0.Tugs, aB a0.Slow])], [], []⟩) mixed e_laws_FnExactFormatShip rfl rfl ?_
  simp only [c_laws_FnExactFormatShip]
  try simp only [Nat.reduceBEq, Nat.reduceMul, Nat.reduceAdd, Nat.reduceDiv, Int.reduceBEq, rules2, rowsX]
  refine go_bx rfl rfl rfl ?_
  obtain ⟨r1, hr1, h⟩ := ob h
  try simp only [Nat.reduceBEq, Nat.reduceMul, Nat.reduceAdd, Nat.reduceDiv, Int.reduceBEq, rules2, rowsX]
  refine go_callI (w_laws_szShip _ _ _ hr1) rfl rfl (Nat.le_of_ble_eq_true rfl) ?_
  rcases Bool.eq_false_or_eq_true (decide (r1 < (0 : Int))) with hb2 | hb2
  · rw [ite_t hb2] at h
    try simp only [hb2, Nat.reduceBEq, Nat.reduceMul, Nat.reduceAdd, Nat.reduceDiv, Int.reduceBEq, rules2, rowsX]
    cases h
    exact ⟨⟨rfl, trivial⟩, rfl⟩
  · rw [ite_f hb2] at h
    obtain ⟨r3, hr3, h⟩ := ob h
    try simp only [hb2, Nat.reduceBEq, Nat.reduceMul, Nat.reduceAdd, Nat.reduceDiv, Int.reduceBEq, rules2, rowsX]
    refine go_callI (w_laws_toShip _ _ hr3) rfl rfl (Nat.le_of_ble_eq_true rfl) ?_
    obtain ⟨r4, hr4, h⟩ := ob h
    try simp only [hb2, Nat.reduceBEq, Nat.reduceMul, Nat.reduceAdd, Nat.reduceDiv, Int.reduceBEq, rules2, rowsX]
    refine go_callI (w_spec_FormatShip _ _ hr4) rfl rfl (Nat.le_of_ble_eq_true rfl) ?_
    obtain ⟨r5, hr5, h⟩ := ob h
    try simp only [hb2, Nat.reduceBEq, Nat.reduceMul, Nat.reduceAdd, Nat.reduceDiv, Int.reduceBEq, rules2, rowsX]
    refine go_callI (w_laws_toShip _ _ hr5) rfl rfl (Nat.le_of_ble_eq_true rfl) ?_
    obtain ⟨r6, hr6, h⟩ := ob h
    try simp only [hb2, Nat.reduceBEq, Nat.reduceMul, Nat.reduceAdd, Nat.reduceDiv, Int.reduceBEq, rules2, rowsX]
    refine go_callI (w_impl_FormatShip _ _ hr6) rfl rfl (Nat.le_of_ble_eq_true rfl) ?_
    rcases Bool.eq_false_or_eq_true (r6 == r4) with hb7 | hb7
    · rw [ite_t hb7] at h
      try simp only [hb2, hb7, Nat.reduceBEq, Nat.reduceMul, Nat.reduceAdd, Nat.reduceDiv, Int.reduceBEq, rules2, rowsX]
      cases h
      exact ⟨⟨rfl, trivial⟩, rfl⟩
    · rw [ite_f hb7] at h
      try simp only [hb2, hb7, Nat.reduceBEq, Nat.reduceMul, Nat.reduceAdd, Nat.reduceDiv, Int.reduceBEq, rules2, rowsX]
      cases h
      exact ⟨⟨rfl, trivial⟩, rfl⟩
end Go.Vi
