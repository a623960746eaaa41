/-
  Walks: what the plain definitions compute is what the functions return. By program. No condition.
-/
import Derived.Test.YtlnbbhaclhpjjaaDoorNf
import Derived.Test.YtlnbbhaclhpjjaaDoorChecked
import Derived.Test.YtlnbbhaclhpjjaaDoorSh
import Derived.KernelRfl
namespace Go.Vi
open Go.Proofs
set_option linter.unusedSimpArgs false
set_option linter.unusedVariables false
attribute [local irreducible] go AWP
theorem mixed : Tryd.prog.follows .mixedOrders = true := by kernel_rfl
/- 29: laws_szEntryS -/
def c_laws_szEntryS : ACode := (.seq (.reg [(none, .mv 4 (K 0))]) (.seq (.reg [(none, .mv 5 (S 1)), (none, .mv 6 (S 0)), (none, .len 7 (S 6)), (none, .bin 8 .sub (S 5) (S 7)), (none, .mv 1 (S 8))]) (.seq (.seq (.reg [(none, .mv 9 (S 1)), (none, .bin 10 .lss (S 9) (K 0))]) (.cond (S 10) (.seq (.reg [(none, .mv 4 (K (-1)))]) .ret) .skip)) (.seq (.reg [(none, .mv 11 (S 1)), (none, .mv 4 (S 11))]) .ret))))
theorem e_laws_szEntryS : entry Tryd.prog 29 = some (c_laws_szEntryS.strip, [4], 12) := by kernel_rfl
theorem w_laws_szEntryS (a0 : List XEntry) (a1 : Int) (r : Int) (h : f_laws_szEntryS a0 a1 = some r) : FC Tryd.prog 29 [.sc (.sl (List.map XEntry.row a0)), .sc (.int .i64 a1)] [.sc (.v (.int .i64 r))] := by
  unfold f_laws_szEntryS at h
  refine FC_go (σ := ⟨[(0, vc (aL (List.map XEntry.row a0))), (1, vc (aI a1))], [], []⟩) mixed e_laws_szEntryS rfl rfl ?_
  simp only [c_laws_szEntryS]
  rcases Bool.eq_false_or_eq_true (decide ((IntKind.i64.wrap (a1 - (a0.length : Int))) < (0 : Int))) with hb1 | hb1
  · rw [ite_t hb1] at h
    try simp only [hb1, Nat.reduceBEq, Nat.reduceMul, Nat.reduceAdd, Nat.reduceDiv, Int.reduceBEq, rules2, rowsX]
    cases h
    exact ⟨⟨rfl, trivial⟩, rfl⟩
  · rw [ite_f hb1] at h
    try simp only [hb1, Nat.reduceBEq, Nat.reduceMul, Nat.reduceAdd, Nat.reduceDiv, Int.reduceBEq, rules2, rowsX]
    cases h
    exact ⟨⟨rfl, trivial⟩, rfl⟩
/- 13: laws_toEntry -/
def c_laws_toEntry : ACode := (.seq (.reg [(none, .box 1 (S 0)), (none, .alloc 2 [aI 0, aI 0, aI 0, aI 0])]) (.seq (.reg [(none, .alloc 3 [aI 0, aI 0, aI 0, aI 0])]) (.seq (.reg [(none, .faddr 4 (S 1) 0), (none, .load 5 (S 4) false 1), (none, .faddr 6 (S 3) 0), (none, .store (S 6) (S 5) 1)]) (.seq (.reg [(none, .faddr 7 (S 1) 1), (none, .load 8 (S 7) false 1), (none, .faddr 9 (S 3) 1), (none, .store (S 9) (S 8) 1)]) (.seq (.reg [(none, .faddr 10 (S 1) 2), (none, .load 11 (S 10) false 1), (none, .faddr 12 (S 3) 2), (none, .store (S 12) (S 11) 1)]) (.seq (.reg [(none, .faddr 13 (S 1) 3), (none, .load 14 (S 13) false 1), (none, .faddr 15 (S 3) 3), (none, .store (S 15) (S 14) 1)]) (.seq (.reg [(none, .load 16 (S 3) true 4), (none, .store (S 2) (S 16) 4)]) .ret)))))))
theorem e_laws_toEntry : entry Tryd.prog 13 = some (c_laws_toEntry.strip, [.c 2 true 4], 17) := by kernel_rfl
theorem w_laws_toEntry (a0 : XEntry) (r : XEntry) (h : f_laws_toEntry a0 = some r) : FC Tryd.prog 13 [.ag (XEntry.row a0)] [.ag [.v (.int .i64 r.Kind), .v (.int .i64 r.At), .v (.int .i64 r.Call), .v (.int .i64 r.Value)]] := by
  unfold f_laws_toEntry at h
  refine FC_go (σ := ⟨[(0, va [aI a0.Kind, aI a0.At, aI a0.Call, aI a0.Value])], [], []⟩) mixed e_laws_toEntry rfl rfl ?_
  simp only [c_laws_toEntry]
  try simp only [Nat.reduceBEq, Nat.reduceMul, Nat.reduceAdd, Nat.reduceDiv, Int.reduceBEq, rules2, rowsX]
  refine go_bx rfl rfl rfl ?_
  try simp only [Nat.reduceBEq, Nat.reduceMul, Nat.reduceAdd, Nat.reduceDiv, Int.reduceBEq, rules2, rowsX]
  refine go_al rfl rfl ?_
  try simp only [Nat.reduceBEq, Nat.reduceMul, Nat.reduceAdd, Nat.reduceDiv, Int.reduceBEq, rules2, rowsX]
  refine go_al rfl rfl ?_
  try simp only [Nat.reduceBEq, Nat.reduceMul, Nat.reduceAdd, Nat.reduceDiv, Int.reduceBEq, rules2, rowsX]
  cases h
  try simp only [rulesR, Nat.reduceBEq, Nat.reduceMul, Nat.reduceAdd, Nat.reduceDiv, Int.reduceBEq, rules2, rowsX]
  exact ⟨⟨⟨rfl, rfl, rfl, rfl, trivial⟩, trivial⟩, rfl⟩
/- 31: laws_toEntryS -/
def c_laws_toEntryS_1 : ACode := .seq (.reg [(none, .keep [0, 3, 4] [] [448])]) (.seq (.seq (.reg [(none, .mv 8 (S 4)), (none, .mv 9 (S 0)), (none, .len 10 (S 9)), (none, .bin 11 .lss (S 8) (S 10))]) (.cond (S 11) .skip (.exit 0))) (.seq (.block 1 (.reg [(none, .mv 14 (S 3)), (none, .mv 15 (S 4)), (none, .mv 16 (S 0)), (none, .mv 17 (S 4)), (none, .iaddr 18 (S 16) (S 17) 4), (none, .load 19 (S 18) true 4), (none, .call 20 13 [(S 19)]), (none, .iaddr 21 (S 14) (S 15) 4), (none, .store (S 21) (S 20) 4)])) (.reg [(none, .mv 12 (S 4)), (none, .bin 13 .add (S 12) (K 1)), (none, .mv 4 (S 13))])))
def c_laws_toEntryS_n1 : ACode := (.seq (.reg [(none, .mv 22 (S 3)), (none, .mv 2 (S 22))]) .ret)
def c_laws_toEntryS : ACode := (.seq (.reg [(none, .mv 2 KN)]) (.seq (.reg [(none, .mv 5 (S 0)), (none, .len 6 (S 5)), (none, .mksl 7 4 32 [.int .i64 0, .int .i64 0, .int .i64 0, .int .i64 0] (S 6) (S 6)), (none, .mv 3 (S 7))]) (.seq (.seq (.reg [(none, .mv 4 (K 0))]) (.block 0 (.loop c_laws_toEntryS_1))) c_laws_toEntryS_n1)))
theorem w_laws_toEntryS_1 (a0 : List XEntry) : ∀ (n : Nat) (v2 : Int) (v3 : List XEntry) (r : (List XEntry)), f_laws_toEntryS_1 a0 n v2 v3 = some r → ∀ σ : St, σ.kept [0, 3, 4] [] [448] = ⟨[(0, vc (aL (List.map XEntry.row a0))), (3, vc (.own 448)), (4, vc (aI v2))], [], [(448, 4, List.map XEntry.row v3)]⟩ → go Tryd.prog (.code (.loop c_laws_toEntryS_1) :: [.blk 0, .code c_laws_toEntryS_n1]) (Ret [2] [.sc (.o 4 (List.map XEntry.row r))]) .normal (some σ) := by
  intro n
  induction n with
  | zero => intro _ _ r h; cases h
  | succ n ih =>
    intro v2 v3 r h σ hσ
    rw [f_laws_toEntryS_1] at h
    refine go_round ?_
    rcases Bool.eq_false_or_eq_true (decide (v2 < (a0.length : Int))) with hb4 | hb4
    · rw [ite_t hb4] at h
      obtain ⟨x5, hx5, h⟩ := ob h
      obtain ⟨r6, hr6, h⟩ := ob h
      try simp only [hσ, hb4, hx5, c_laws_toEntryS_1, Nat.reduceBEq, Nat.reduceMul, Nat.reduceAdd, Nat.reduceDiv, Int.reduceBEq, rules2, rowsX]
      refine go_callI (w_laws_toEntry _ _ hr6) rfl rfl (Nat.le_of_ble_eq_true rfl) ?_
      obtain ⟨x7, hx7, h⟩ := ob h
      have hx7n := ix_get hx7
      try simp only [hb4, hx5, hx7, Nat.reduceBEq, Nat.reduceMul, Nat.reduceAdd, Nat.reduceDiv, Int.reduceBEq, rules2, rowsX]
      refine go_stp (y := r6) rfl rfl hx7n rfl rfl rfl ?_
      try simp only [hb4, hx5, hx7, Nat.reduceBEq, Nat.reduceMul, Nat.reduceAdd, Nat.reduceDiv, Int.reduceBEq, rules2, rowsX]
      refine ih _ _ _ h _ ?_
      try simp only [hb4, hx5, hx7, Nat.reduceBEq, Nat.reduceMul, Nat.reduceAdd, Nat.reduceDiv, Int.reduceBEq, rules2, rowsX, List.map_nil]
    · rw [ite_f hb4] at h
      try simp only [hσ, hb4, c_laws_toEntryS_1, c_laws_toEntryS_n1, Nat.reduceBEq, Nat.reduceMul, Nat.reduceAdd, Nat.reduceDiv, Int.reduceBEq, rules2, rowsX]
      cases h
      exact ⟨⟨rfl, trivial⟩, rfl⟩
theorem e_laws_toEntryS : entry Tryd.prog 31 = some (c_laws_toEntryS.strip, [2], 23) := by kernel_rfl
theorem w_laws_toEntryS (a0 : List XEntry) (r : (List XEntry)) (h : f_laws_toEntryS a0 = some r) : FC Tryd.prog 31 [.sc (.sl (List.map XEntry.row a0))] [.sc (.o 4 (List.map XEntry.row r))] := by
  unfold f_laws_toEntryS at h
  refine FC_go (σ := ⟨[(0, vc (aL (List.map XEntry.row a0)))], [], []⟩) mixed e_laws_toEntryS rfl rfl ?_
  simp only [c_laws_toEntryS]
  obtain ⟨n1, hn1, h⟩ := ob h
  try simp only [Nat.reduceBEq, Nat.reduceMul, Nat.reduceAdd, Nat.reduceDiv, Int.reduceBEq, rules2, rowsX]
  refine go_mks (es := List.map XEntry.row (List.replicate n1 (⟨(0 : Int), (0 : Int), (0 : Int), (0 : Int)⟩ : XEntry))) rfl rfl hn1 rfl (rep_map rfl) rfl ?_
  try simp only [Nat.reduceBEq, Nat.reduceMul, Nat.reduceAdd, Nat.reduceDiv, Int.reduceBEq, rules2, rowsX]
  refine w_laws_toEntryS_1 _ _ _ _ _ h _ ?_
  try simp only [Nat.reduceBEq, Nat.reduceMul, Nat.reduceAdd, Nat.reduceDiv, Int.reduceBEq, rules2, rowsX, List.map_nil]
/- 51: spec_l01In -/
def c_spec_l01In : ACode := (.seq (.reg [(none, .mv 6 (KB false))]) (.seq (.reg [(none, .mv 7 (S 0)), (none, .mv 8 (S 1)), (none, .bin 9 .geq (S 7) (S 8)), (none, .mv 10 (S 9)), (some (10, true), .mv 11 (S 0)), (some (10, true), .mv 12 (S 2)), (some (10, true), .bin 13 .leq (S 11) (S 12)), (none, .pick 14 (S 10) (S 13) (KB false)), (none, .mv 6 (S 14))]) .ret))
theorem e_spec_l01In : entry Tryd.prog 51 = some (c_spec_l01In.strip, [6], 15) := by kernel_rfl
theorem w_spec_l01In (a0 : Int) (a1 : Int) (a2 : Int) (r : Bool) (h : f_spec_l01In a0 a1 a2 = some r) : FC Tryd.prog 51 [.sc (.int .i64 a0), .sc (.int .i64 a1), .sc (.int .i64 a2)] [.sc (.v (.bool r))] := by
  unfold f_spec_l01In at h
  refine FC_go (σ := ⟨[(0, vc (aI a0)), (1, vc (aI a1)), (2, vc (aI a2))], [], []⟩) mixed e_spec_l01In rfl rfl ?_
  simp only [c_spec_l01In]
  rcases Bool.eq_false_or_eq_true (decide (a1 ≤ a0)) with hb1 | hb1
  · rw [ite_t hb1] at h
    try simp only [hb1, Nat.reduceBEq, Nat.reduceMul, Nat.reduceAdd, Nat.reduceDiv, Int.reduceBEq, rules2, rowsX]
    cases h
    exact ⟨⟨rfl, trivial⟩, rfl⟩
  · rw [ite_f hb1] at h
    try simp only [hb1, Nat.reduceBEq, Nat.reduceMul, Nat.reduceAdd, Nat.reduceDiv, Int.reduceBEq, rules2, rowsX]
    cases h
    exact ⟨⟨rfl, trivial⟩, rfl⟩
/- 52: spec_FormatInt -/
def c_spec_FormatInt_1 : ACode := .seq (.reg [(none, .keep [0, 3] [] [])]) (.seq (.seq (.reg [(none, .mv 25 (S 0)), (none, .bin 26 .gtr (S 25) (K 9))]) (.cond (S 26) .skip (.exit 0))) (.block 1 (.seq (.reg [(none, .mv 27 (S 0)), (none, .bin 28 .rem (S 27) (K 10)), (none, .bin 29 .add (K 48) (S 28)), (none, .conv 30 .u8 (S 29)), (none, .bslice 31 1 [.int .u8 0] 1 [(0, (S 30))]), (none, .sconv 32 (S 31)), (none, .mv 33 (S 3)), (none, .bin 34 .add (S 32) (S 33)), (none, .mv 3 (S 34))]) (.reg [(none, .mv 35 (S 0)), (none, .bin 36 .quo (S 35) (K 10)), (none, .mv 0 (S 36))]))))
def c_spec_FormatInt_n1 : ACode := (.seq (.reg [(none, .mv 37 (S 0)), (none, .bin 38 .add (K 48) (S 37)), (none, .conv 39 .u8 (S 38)), (none, .bslice 40 1 [.int .u8 0] 1 [(0, (S 39))]), (none, .sconv 41 (S 40)), (none, .mv 42 (S 3)), (none, .bin 43 .add (S 41) (S 42)), (none, .mv 2 (S 43))]) .ret)
def c_spec_FormatInt : ACode := (.seq (.reg [(none, .mv 2 (KS []))]) (.seq (.seq (.reg [(none, .mv 4 (S 0)), (none, .bin 5 .lss (S 4) (K 0))]) (.cond (S 5) (.seq (.seq (.reg [(none, .mv 6 (S 0)), (none, .bin 7 .quo (S 6) (K 10)), (none, .bin 8 .eql (S 7) (K 0))]) (.cond (S 8) (.seq (.reg [(none, .mv 9 (S 0)), (none, .bin 10 .sub (K 48) (S 9)), (none, .conv 11 .u8 (S 10)), (none, .bslice 12 1 [.int .u8 0] 1 [(0, (S 11))]), (none, .sconv 13 (S 12)), (none, .bin 14 .add (KS [45]) (S 13)), (none, .mv 2 (S 14))]) .ret) .skip)) (.seq (.drw [(some [22], (none, .mv 15 (S 0))), (some [22], (none, .bin 16 .quo (S 15) (K 10))), (some [22], (none, .call 17 52 [(S 16)])), (some [17], (none, .mv 18 (S 0))), (some [17], (none, .bin 19 .rem (S 18) (K 10))), (some [17], (none, .bin 20 .sub (K 48) (S 19))), (some [17], (none, .conv 21 .u8 (S 20))), (some [17], (none, .bslice 22 1 [.int .u8 0] 1 [(0, (S 21))])), (some [17], (none, .sconv 23 (S 22))), (some [], (none, .bin 24 .add (S 17) (S 23))), (some [], (none, .mv 2 (S 24)))]) .ret)) .skip)) (.seq (.reg [(none, .mv 3 (KS []))]) (.seq (.block 0 (.loop c_spec_FormatInt_1)) c_spec_FormatInt_n1))))
theorem w_spec_FormatInt_1 (rec_ : Int → Option (List UInt8)) (h_rec : ∀ (a0 : Int) zr, rec_ a0 = some zr → FC Tryd.prog 52 [.sc (.int .i64 a0)] [.sc (.v (.str zr))]) : ∀ (n : Nat) (v6 : Int) (v7 : List UInt8) (r : (List UInt8)), f_spec_FormatInt_1 rec_ n v6 v7 = some r → ∀ σ : St, σ.kept [0, 3] [] [] = ⟨[(0, vc (aI v6)), (3, vc (aS v7))], [], []⟩ → go Tryd.prog (.code (.loop c_spec_FormatInt_1) :: [.blk 0, .code c_spec_FormatInt_n1]) (Ret [2] [.sc (.v (.str r))]) .normal (some σ) := by
  intro n
  induction n with
  | zero => intro _ _ r h; cases h
  | succ n ih =>
    intro v6 v7 r h σ hσ
    rw [f_spec_FormatInt_1] at h
    refine go_round ?_
    rcases Bool.eq_false_or_eq_true (decide ((9 : Int) < v6)) with hb8 | hb8
    · rw [ite_t hb8] at h
      try simp only [hσ, hb8, c_spec_FormatInt_1, Nat.reduceBEq, Nat.reduceMul, Nat.reduceAdd, Nat.reduceDiv, Int.reduceBEq, rules2, rowsX]
      refine go_bsl (es := List.map r8 ([(IntKind.u8.wrap (IntKind.i64.wrap ((48 : Int) + (IntKind.i64.wrap (Int.tmod v6 (10 : Int))))))] : List Int)) rfl rfl ?_
      obtain ⟨hg9, h⟩ := of_guard h
      try simp only [hb8, hg9, Nat.reduceBEq, Nat.reduceMul, Nat.reduceAdd, Nat.reduceDiv, Int.reduceBEq, rules2, rowsX]
      refine ih _ _ _ h _ ?_
      try simp only [hb8, hg9, Nat.reduceBEq, Nat.reduceMul, Nat.reduceAdd, Nat.reduceDiv, Int.reduceBEq, rules2, rowsX, List.map_nil]
    · rw [ite_f hb8] at h
      try simp only [hσ, hb8, c_spec_FormatInt_1, c_spec_FormatInt_n1, Nat.reduceBEq, Nat.reduceMul, Nat.reduceAdd, Nat.reduceDiv, Int.reduceBEq, rules2, rowsX]
      refine go_bsl (es := List.map r8 ([(IntKind.u8.wrap (IntKind.i64.wrap ((48 : Int) + v6)))] : List Int)) rfl rfl ?_
      obtain ⟨hg10, h⟩ := of_guard h
      try simp only [hb8, hg10, Nat.reduceBEq, Nat.reduceMul, Nat.reduceAdd, Nat.reduceDiv, Int.reduceBEq, rules2, rowsX]
      cases h
      exact ⟨⟨rfl, trivial⟩, rfl⟩
theorem e_spec_FormatInt : entry Tryd.prog 52 = some (c_spec_FormatInt.strip, [2], 44) := by kernel_rfl
theorem w_spec_FormatInt_b (rec_ : Int → Option (List UInt8)) (a0 : Int) (r : (List UInt8)) (h_rec : ∀ (a0 : Int) zr, rec_ a0 = some zr → FC Tryd.prog 52 [.sc (.int .i64 a0)] [.sc (.v (.str zr))]) (h : f_spec_FormatInt_b rec_ a0 = some r) : FC Tryd.prog 52 [.sc (.int .i64 a0)] [.sc (.v (.str r))] := by
  unfold f_spec_FormatInt_b at h
  refine FC_go (σ := ⟨[(0, vc (aI a0))], [], []⟩) mixed e_spec_FormatInt rfl rfl ?_
  simp only [c_spec_FormatInt]
  rcases Bool.eq_false_or_eq_true (decide (a0 < (0 : Int))) with hb1 | hb1
  · rw [ite_t hb1] at h
    rcases Bool.eq_false_or_eq_true ((IntKind.i64.wrap (Int.tdiv a0 (10 : Int))) == (0 : Int)) with hb2 | hb2
    · rw [ite_t hb2] at h
      try simp only [hb1, hb2, Nat.reduceBEq, Nat.reduceMul, Nat.reduceAdd, Nat.reduceDiv, Int.reduceBEq, rules2, rowsX]
      refine go_bsl (es := List.map r8 ([(IntKind.u8.wrap (IntKind.i64.wrap ((48 : Int) - a0)))] : List Int)) rfl rfl ?_
      obtain ⟨hg3, h⟩ := of_guard h
      try simp only [hb1, hb2, hg3, Nat.reduceBEq, Nat.reduceMul, Nat.reduceAdd, Nat.reduceDiv, Int.reduceBEq, rules2, rowsX]
      cases h
      exact ⟨⟨rfl, trivial⟩, rfl⟩
    · rw [ite_f hb2] at h
      try simp only [hb1, hb2, Nat.reduceBEq, Nat.reduceMul, Nat.reduceAdd, Nat.reduceDiv, Int.reduceBEq, rules2, rowsX]
      refine go_fr_of rfl ?_
      obtain ⟨r4, hr4, h⟩ := ob h
      try simp only [hb1, hb2, Nat.reduceBEq, Nat.reduceMul, Nat.reduceAdd, Nat.reduceDiv, Int.reduceBEq, rules2, rowsX]
      refine go_dcallI (h_rec _ _ hr4) rfl rfl (Nat.le_of_ble_eq_true rfl) ?_
      try simp only [hb1, hb2, Nat.reduceBEq, Nat.reduceMul, Nat.reduceAdd, Nat.reduceDiv, Int.reduceBEq, rules2, rowsX]
      refine go_mkN (m := .row 22 1 (List.map r8 ([(IntKind.u8.wrap (IntKind.i64.wrap ((48 : Int) - (IntKind.i64.wrap (Int.tmod a0 (10 : Int))))))] : List Int))) rfl rfl (make_row rfl) ?_
      obtain ⟨hg5, h⟩ := of_guard h
      try simp only [hb1, hb2, hg5, Nat.reduceBEq, Nat.reduceMul, Nat.reduceAdd, Nat.reduceDiv, Int.reduceBEq, rules2, rowsX]
      cases h
      exact ⟨⟨rfl, trivial⟩, rfl⟩
  · rw [ite_f hb1] at h
    try simp only [hb1, Nat.reduceBEq, Nat.reduceMul, Nat.reduceAdd, Nat.reduceDiv, Int.reduceBEq, rules2, rowsX]
    refine w_spec_FormatInt_1 rec_ h_rec _ _ _ _ h _ ?_
    try simp only [hb1, Nat.reduceBEq, Nat.reduceMul, Nat.reduceAdd, Nat.reduceDiv, Int.reduceBEq, rules2, rowsX, List.map_nil]
theorem w_spec_FormatInt_r : ∀ (n : Nat) (a0 : Int) (r : (List UInt8)), f_spec_FormatInt_r n a0 = some r → FC Tryd.prog 52 [.sc (.int .i64 a0)] [.sc (.v (.str r))] := by
  intro n
  induction n with
  | zero => intro _ r h; cases h
  | succ n ih => intro a0 r h; rw [f_spec_FormatInt_r] at h; exact w_spec_FormatInt_b (f_spec_FormatInt_r n) a0 r ih h
theorem w_spec_FormatInt (a0 : Int) (r : (List UInt8)) (h : f_spec_FormatInt a0 = some r) : FC Tryd.prog 52 [.sc (.int .i64 a0)] [.sc (.v (.str r))] := w_spec_FormatInt_r bigN a0 r h
/- 53: spec_SumOfText -/
def c_spec_SumOfText_1 : ACode := .seq (.reg [(none, .keep [0, 3, 4] [] [])]) (.seq (.seq (.reg [(none, .mv 5 (S 4)), (none, .mv 6 (S 0)), (none, .slen 7 (S 6)), (none, .bin 8 .lss (S 5) (S 7))]) (.cond (S 8) .skip (.exit 0))) (.seq (.block 1 (.reg [(none, .mv 11 (S 3)), (none, .bin 12 .mul (K 31) (S 11)), (none, .mv 13 (S 0)), (none, .mv 14 (S 4)), (none, .idx 15 (S 13) (S 14)), (none, .conv 16 .i64 (S 15)), (none, .bin 17 .add (S 12) (S 16)), (none, .bin 18 .rem (S 17) (K 65521)), (none, .mv 3 (S 18))])) (.reg [(none, .mv 9 (S 4)), (none, .bin 10 .add (S 9) (K 1)), (none, .mv 4 (S 10))])))
def c_spec_SumOfText_n1 : ACode := (.seq (.reg [(none, .mv 19 (S 3)), (none, .mv 2 (S 19))]) .ret)
def c_spec_SumOfText : ACode := (.seq (.reg [(none, .mv 2 (K 0))]) (.seq (.reg [(none, .mv 3 (K 7))]) (.seq (.seq (.reg [(none, .mv 4 (K 0))]) (.block 0 (.loop c_spec_SumOfText_1))) c_spec_SumOfText_n1)))
theorem w_spec_SumOfText_1 (a0 : List UInt8) : ∀ (n : Nat) (v1 : Int) (v2 : Int) (r : Int), f_spec_SumOfText_1 a0 n v1 v2 = some r → ∀ σ : St, σ.kept [0, 3, 4] [] [] = ⟨[(0, vc (aS a0)), (3, vc (aI v1)), (4, vc (aI v2))], [], []⟩ → go Tryd.prog (.code (.loop c_spec_SumOfText_1) :: [.blk 0, .code c_spec_SumOfText_n1]) (Ret [2] [.sc (.v (.int .i64 r))]) .normal (some σ) := by
  intro n
  induction n with
  | zero => intro _ _ r h; cases h
  | succ n ih =>
    intro v1 v2 r h σ hσ
    rw [f_spec_SumOfText_1] at h
    refine go_round ?_
    rcases Bool.eq_false_or_eq_true (decide (v2 < (a0.length : Int))) with hb3 | hb3
    · rw [ite_t hb3] at h
      obtain ⟨b4, hb4, h⟩ := ob h
      try simp only [hσ, hb3, hb4, c_spec_SumOfText_1, Nat.reduceBEq, Nat.reduceMul, Nat.reduceAdd, Nat.reduceDiv, Int.reduceBEq, rules2, rowsX]
      refine ih _ _ _ h _ ?_
      try simp only [hb3, hb4, Nat.reduceBEq, Nat.reduceMul, Nat.reduceAdd, Nat.reduceDiv, Int.reduceBEq, rules2, rowsX, List.map_nil]
    · rw [ite_f hb3] at h
      try simp only [hσ, hb3, c_spec_SumOfText_1, c_spec_SumOfText_n1, Nat.reduceBEq, Nat.reduceMul, Nat.reduceAdd, Nat.reduceDiv, Int.reduceBEq, rules2, rowsX]
      cases h
      exact ⟨⟨rfl, trivial⟩, rfl⟩
theorem e_spec_SumOfText : entry Tryd.prog 53 = some (c_spec_SumOfText.strip, [2], 20) := by kernel_rfl
theorem w_spec_SumOfText (a0 : List UInt8) (r : Int) (h : f_spec_SumOfText a0 = some r) : FC Tryd.prog 53 [.sc (.str a0)] [.sc (.v (.int .i64 r))] := by
  unfold f_spec_SumOfText at h
  refine FC_go (σ := ⟨[(0, vc (aS a0))], [], []⟩) mixed e_spec_SumOfText rfl rfl ?_
  simp only [c_spec_SumOfText]
  try simp only [Nat.reduceBEq, Nat.reduceMul, Nat.reduceAdd, Nat.reduceDiv, Int.reduceBEq, rules2, rowsX]
  refine w_spec_SumOfText_1 _ _ _ _ _ h _ ?_
  try simp only [Nat.reduceBEq, Nat.reduceMul, Nat.reduceAdd, Nat.reduceDiv, Int.reduceBEq, rules2, rowsX, List.map_nil]
/- 12: spec_FormatEntry -/
def c_spec_FormatEntry : ACode := (.seq (.reg [(none, .box 1 (S 0)), (none, .mv 2 (KS []))]) (.seq (.seq (.reg [(none, .faddr 5 (S 1) 0), (none, .load 6 (S 5) false 1), (none, .call 7 51 [(S 6), (K 1), (K 4)]), (none, .un 8 .not (S 7)), (none, .mv 9 (S 8)), (some (9, false), .faddr 10 (S 1) 1), (some (9, false), .load 11 (S 10) false 1), (some (9, false), .call 12 51 [(S 11), (K 0), (K 2880)]), (some (9, false), .un 13 .not (S 12)), (none, .pick 14 (S 9) (KB true) (S 13)), (none, .mv 15 (S 14)), (some (15, false), .faddr 16 (S 1) 2), (some (15, false), .load 17 (S 16) false 1), (some (15, false), .call 18 51 [(S 17), (K 0), (K 2880)]), (some (15, false), .un 19 .not (S 18)), (none, .pick 20 (S 15) (KB true) (S 19)), (none, .mv 21 (S 20)), (some (21, false), .faddr 22 (S 1) 3), (some (21, false), .load 23 (S 22) false 1), (some (21, false), .call 24 51 [(S 23), (K 0), (K 2880)]), (some (21, false), .un 25 .not (S 24)), (none, .pick 26 (S 21) (KB true) (S 25))]) (.cond (S 26) (.seq (.reg [(none, .mv 2 (KS []))]) .ret) .skip)) (.seq (.reg [(none, .bslice 27 1 [.str []] 4 [(0, (KS [97, 110, 110, 111, 117, 110, 99, 101])), (1, (KS [99, 108, 101, 97, 114])), (2, (KS [99, 97, 110, 99, 101, 108])), (3, (KS [116, 105, 99, 107]))]), (none, .faddr 28 (S 1) 0), (none, .load 29 (S 28) false 1), (none, .bin 30 .sub (S 29) (K 1)), (none, .iaddr 31 (S 27) (S 30) 1), (none, .load 32 (S 31) false 1), (none, .mv 3 (S 32))]) (.seq (.drw [(some [37, 42, 47], (none, .mv 33 (S 3))), (some [37, 42, 47], (none, .bin 34 .add (S 33) (KS [32]))), (some [], (none, .faddr 35 (S 1) 1)), (some [], (none, .load 36 (S 35) false 1)), (some [], (none, .call 37 52 [(S 36)])), (some [42, 47], (none, .bin 38 .add (S 34) (S 37))), (some [42, 47], (none, .bin 39 .add (S 38) (KS [32]))), (some [37], (none, .faddr 40 (S 1) 2)), (some [37], (none, .load 41 (S 40) false 1)), (some [], (none, .call 42 52 [(S 41)])), (some [47], (none, .bin 43 .add (S 39) (S 42))), (some [47], (none, .bin 44 .add (S 43) (KS [32]))), (some [37, 42], (none, .faddr 45 (S 1) 3)), (some [37, 42], (none, .load 46 (S 45) false 1)), (some [], (none, .call 47 52 [(S 46)])), (some [], (none, .bin 48 .add (S 44) (S 47))), (some [], (none, .mv 4 (S 48)))]) (.seq (.reg [(none, .mv 49 (S 4)), (none, .bin 50 .add (S 49) (KS [32, 35])), (none, .mv 51 (S 4)), (none, .call 52 53 [(S 51)]), (none, .call 53 52 [(S 52)]), (none, .bin 54 .add (S 50) (S 53)), (none, .mv 2 (S 54))]) .ret)))))
theorem e_spec_FormatEntry : entry Tryd.prog 12 = some (c_spec_FormatEntry.strip, [2], 55) := by kernel_rfl
theorem w_spec_FormatEntry (a0 : XEntry) (r : (List UInt8)) (h : f_spec_FormatEntry a0 = some r) : FC Tryd.prog 12 [.ag (XEntry.row a0)] [.sc (.v (.str r))] := by
  unfold f_spec_FormatEntry at h
  refine FC_go (σ := ⟨[(0, va [aI a0.Kind, aI a0.At, aI a0.Call, aI a0.Value])], [], []⟩) mixed e_spec_FormatEntry rfl rfl ?_
  simp only [c_spec_FormatEntry]
  try simp only [Nat.reduceBEq, Nat.reduceMul, Nat.reduceAdd, Nat.reduceDiv, Int.reduceBEq, rules2, rowsX]
  refine go_bx rfl rfl rfl ?_
  obtain ⟨r1, hr1, h⟩ := ob h
  try simp only [Nat.reduceBEq, Nat.reduceMul, Nat.reduceAdd, Nat.reduceDiv, Int.reduceBEq, rules2, rowsX]
  refine go_callI (w_spec_l01In _ _ _ _ hr1) rfl rfl (Nat.le_of_ble_eq_true rfl) ?_
  rcases Bool.eq_false_or_eq_true r1 with hb2 | hb2
  · rw [ite_t hb2] at h
    obtain ⟨r3, hr3, h⟩ := ob h
    try simp only [hb2, Nat.reduceBEq, Nat.reduceMul, Nat.reduceAdd, Nat.reduceDiv, Int.reduceBEq, rules2, rowsX]
    refine go_callI (w_spec_l01In _ _ _ _ hr3) rfl rfl (Nat.le_of_ble_eq_true rfl) ?_
    rcases Bool.eq_false_or_eq_true r3 with hb4 | hb4
    · rw [ite_t hb4] at h
      obtain ⟨r5, hr5, h⟩ := ob h
      try simp only [hb2, hb4, Nat.reduceBEq, Nat.reduceMul, Nat.reduceAdd, Nat.reduceDiv, Int.reduceBEq, rules2, rowsX]
      refine go_callI (w_spec_l01In _ _ _ _ hr5) rfl rfl (Nat.le_of_ble_eq_true rfl) ?_
      rcases Bool.eq_false_or_eq_true r5 with hb6 | hb6
      · rw [ite_t hb6] at h
        obtain ⟨r7, hr7, h⟩ := ob h
        try simp only [hb2, hb4, hb6, Nat.reduceBEq, Nat.reduceMul, Nat.reduceAdd, Nat.reduceDiv, Int.reduceBEq, rules2, rowsX]
        refine go_callI (w_spec_l01In _ _ _ _ hr7) rfl rfl (Nat.le_of_ble_eq_true rfl) ?_
        rcases Bool.eq_false_or_eq_true r7 with hb8 | hb8
        · rw [ite_t hb8] at h
          try simp only [hb2, hb4, hb6, hb8, Nat.reduceBEq, Nat.reduceMul, Nat.reduceAdd, Nat.reduceDiv, Int.reduceBEq, rules2, rowsX]
          refine go_bsl (es := List.map rS ([([97, 110, 110, 111, 117, 110, 99, 101] : List UInt8), ([99, 108, 101, 97, 114] : List UInt8), ([99, 97, 110, 99, 101, 108] : List UInt8), ([116, 105, 99, 107] : List UInt8)] : List (List UInt8))) rfl rfl ?_
          obtain ⟨x9, hx9, h⟩ := ob h
          have hx9n := ix_get hx9
          try simp only [hb2, hb4, hb6, hb8, hx9, hx9n, Nat.reduceBEq, Nat.reduceMul, Nat.reduceAdd, Nat.reduceDiv, Int.reduceBEq, rules2, rowsX]
          refine go_fr_of rfl ?_
          obtain ⟨hg10, h⟩ := of_guard h
          obtain ⟨r11, hr11, h⟩ := ob h
          try simp only [hb2, hb4, hb6, hb8, hx9, hx9n, hg10, Nat.reduceBEq, Nat.reduceMul, Nat.reduceAdd, Nat.reduceDiv, Int.reduceBEq, rules2, rowsX]
          refine go_dcallI (w_spec_FormatInt _ _ hr11) rfl rfl (Nat.le_of_ble_eq_true rfl) ?_
          obtain ⟨hg12, h⟩ := of_guard h
          obtain ⟨hg13, h⟩ := of_guard h
          obtain ⟨r14, hr14, h⟩ := ob h
          try simp only [hb2, hb4, hb6, hb8, hx9, hx9n, hg10, hg12, hg13, Nat.reduceBEq, Nat.reduceMul, Nat.reduceAdd, Nat.reduceDiv, Int.reduceBEq, rules2, rowsX]
          refine go_dcallI (w_spec_FormatInt _ _ hr14) rfl rfl (Nat.le_of_ble_eq_true rfl) ?_
          obtain ⟨hg15, h⟩ := of_guard h
          obtain ⟨hg16, h⟩ := of_guard h
          obtain ⟨r17, hr17, h⟩ := ob h
          try simp only [hb2, hb4, hb6, hb8, hx9, hx9n, hg10, hg12, hg13, hg15, hg16, Nat.reduceBEq, Nat.reduceMul, Nat.reduceAdd, Nat.reduceDiv, Int.reduceBEq, rules2, rowsX]
          refine go_dcallI (w_spec_FormatInt _ _ hr17) rfl rfl (Nat.le_of_ble_eq_true rfl) ?_
          obtain ⟨hg18, h⟩ := of_guard h
          obtain ⟨hg19, h⟩ := of_guard h
          obtain ⟨r20, hr20, h⟩ := ob h
          try simp only [hb2, hb4, hb6, hb8, hx9, hx9n, hg10, hg12, hg13, hg15, hg16, hg18, hg19, Nat.reduceBEq, Nat.reduceMul, Nat.reduceAdd, Nat.reduceDiv, Int.reduceBEq, rules2, rowsX]
          refine go_callI (w_spec_SumOfText _ _ hr20) rfl rfl (Nat.le_of_ble_eq_true rfl) ?_
          obtain ⟨r21, hr21, h⟩ := ob h
          try simp only [hb2, hb4, hb6, hb8, hx9, hx9n, hg10, hg12, hg13, hg15, hg16, hg18, hg19, Nat.reduceBEq, Nat.reduceMul, Nat.reduceAdd, Nat.reduceDiv, Int.reduceBEq, rules2, rowsX]
          refine go_callI (w_spec_FormatInt _ _ hr21) rfl rfl (Nat.le_of_ble_eq_true rfl) ?_
          obtain ⟨hg22, h⟩ := of_guard h
          try simp only [hb2, hb4, hb6, hb8, hx9, hx9n, hg10, hg12, hg13, hg15, hg16, hg18, hg19, hg22, Nat.reduceBEq, Nat.reduceMul, Nat.reduceAdd, Nat.reduceDiv, Int.reduceBEq, rules2, rowsX]
          cases h
          exact ⟨⟨rfl, trivial⟩, rfl⟩
        · rw [ite_f hb8] at h
          try simp only [hb2, hb4, hb6, hb8, Nat.reduceBEq, Nat.reduceMul, Nat.reduceAdd, Nat.reduceDiv, Int.reduceBEq, rules2, rowsX]
          cases h
          exact ⟨⟨rfl, trivial⟩, rfl⟩
      · rw [ite_f hb6] at h
        try simp only [hb2, hb4, hb6, Nat.reduceBEq, Nat.reduceMul, Nat.reduceAdd, Nat.reduceDiv, Int.reduceBEq, rules2, rowsX]
        cases h
        exact ⟨⟨rfl, trivial⟩, rfl⟩
    · rw [ite_f hb4] at h
      try simp only [hb2, hb4, Nat.reduceBEq, Nat.reduceMul, Nat.reduceAdd, Nat.reduceDiv, Int.reduceBEq, rules2, rowsX]
      cases h
      exact ⟨⟨rfl, trivial⟩, rfl⟩
  · rw [ite_f hb2] at h
    try simp only [hb2, Nat.reduceBEq, Nat.reduceMul, Nat.reduceAdd, Nat.reduceDiv, Int.reduceBEq, rules2, rowsX]
    cases h
    exact ⟨⟨rfl, trivial⟩, rfl⟩
/- 30: spec_JournalText -/
def c_spec_JournalText_1 : ACode := .seq (.reg [(none, .keep [3, 6, 7, 8] [] [])]) (.seq (.reg [(none, .bin 9 .lss (S 8) (S 7))]) (.seq (.cond (S 9) .skip (.exit 0)) (.seq (.block 1 (.seq (.reg [(none, .iaddr 10 (S 6) (S 8) 4), (none, .load 11 (S 10) true 4), (none, .alloc 5 [aI 0, aI 0, aI 0, aI 0]), (none, .store (S 5) (S 11) 4)]) (.reg [(none, .mv 12 (S 3)), (none, .load 13 (S 5) true 4), (none, .call 14 12 [(S 13)]), (none, .bin 15 .add (S 12) (S 14)), (none, .bin 16 .add (S 15) (KS [10])), (none, .mv 3 (S 16))]))) (.reg [(none, .bin 17 .add (S 8) (K 1)), (none, .mv 8 (S 17))]))))
def c_spec_JournalText_n1 : ACode := (.seq (.reg [(none, .mv 18 (S 3)), (none, .mv 2 (S 18))]) .ret)
def c_spec_JournalText : ACode := (.seq (.reg [(none, .mv 2 (KS []))]) (.seq (.reg [(none, .mv 3 (KS []))]) (.seq (.seq (.reg [(none, .mv 6 (S 0)), (none, .len 7 (S 6)), (none, .mv 8 (K 0))]) (.block 0 (.loop c_spec_JournalText_1))) c_spec_JournalText_n1)))
theorem w_spec_JournalText_1 (a0 : List XEntry) : ∀ (n : Nat) (v1 : List UInt8) (v2 : Int) (r : (List UInt8)), f_spec_JournalText_1 a0 n v1 v2 = some r → ∀ σ : St, σ.kept [3, 6, 7, 8] [] [] = ⟨[(3, vc (aS v1)), (6, vc (aL (List.map XEntry.row a0))), (7, vc (aI (a0.length : Int))), (8, vc (aI v2))], [], []⟩ → go Tryd.prog (.code (.loop c_spec_JournalText_1) :: [.blk 0, .code c_spec_JournalText_n1]) (Ret [2] [.sc (.v (.str r))]) .normal (some σ) := by
  intro n
  induction n with
  | zero => intro _ _ r h; cases h
  | succ n ih =>
    intro v1 v2 r h σ hσ
    rw [f_spec_JournalText_1] at h
    refine go_round ?_
    rcases Bool.eq_false_or_eq_true (decide (v2 < (a0.length : Int))) with hb3 | hb3
    · rw [ite_t hb3] at h
      obtain ⟨x4, hx4, h⟩ := ob h
      try simp only [hσ, hb3, hx4, c_spec_JournalText_1, Nat.reduceBEq, Nat.reduceMul, Nat.reduceAdd, Nat.reduceDiv, Int.reduceBEq, rules2, rowsX]
      refine go_al rfl rfl ?_
      obtain ⟨r5, hr5, h⟩ := ob h
      try simp only [hb3, hx4, Nat.reduceBEq, Nat.reduceMul, Nat.reduceAdd, Nat.reduceDiv, Int.reduceBEq, rules2, rowsX]
      refine go_callI (w_spec_FormatEntry _ _ hr5) rfl rfl (Nat.le_of_ble_eq_true rfl) ?_
      obtain ⟨hg6, h⟩ := of_guard h
      obtain ⟨hg7, h⟩ := of_guard h
      try simp only [hb3, hx4, hg6, hg7, Nat.reduceBEq, Nat.reduceMul, Nat.reduceAdd, Nat.reduceDiv, Int.reduceBEq, rules2, rowsX]
      refine ih _ _ _ h _ ?_
      try simp only [hb3, hx4, hg6, hg7, Nat.reduceBEq, Nat.reduceMul, Nat.reduceAdd, Nat.reduceDiv, Int.reduceBEq, rules2, rowsX, List.map_nil]
    · rw [ite_f hb3] at h
      try simp only [hσ, hb3, c_spec_JournalText_1, c_spec_JournalText_n1, Nat.reduceBEq, Nat.reduceMul, Nat.reduceAdd, Nat.reduceDiv, Int.reduceBEq, rules2, rowsX]
      cases h
      exact ⟨⟨rfl, trivial⟩, rfl⟩
theorem e_spec_JournalText : entry Tryd.prog 30 = some (c_spec_JournalText.strip, [2], 19) := by kernel_rfl
theorem w_spec_JournalText (a0 : List XEntry) (r : (List UInt8)) (h : f_spec_JournalText a0 = some r) : FC Tryd.prog 30 [.sc (.sl (List.map XEntry.row a0))] [.sc (.v (.str r))] := by
  unfold f_spec_JournalText at h
  refine FC_go (σ := ⟨[(0, vc (aL (List.map XEntry.row a0)))], [], []⟩) mixed e_spec_JournalText rfl rfl ?_
  simp only [c_spec_JournalText]
  try simp only [Nat.reduceBEq, Nat.reduceMul, Nat.reduceAdd, Nat.reduceDiv, Int.reduceBEq, rules2, rowsX]
  refine w_spec_JournalText_1 _ _ _ _ _ h _ ?_
  try simp only [Nat.reduceBEq, Nat.reduceMul, Nat.reduceAdd, Nat.reduceDiv, Int.reduceBEq, rules2, rowsX, List.map_nil]
/- 91: impl_within -/
def c_impl_within : ACode := (.seq (.reg [(none, .mv 6 (KB false))]) (.seq (.reg [(none, .mv 7 (S 1)), (none, .mv 8 (S 0)), (none, .bin 9 .leq (S 7) (S 8)), (none, .mv 10 (S 9)), (some (10, true), .mv 11 (S 0)), (some (10, true), .mv 12 (S 2)), (some (10, true), .bin 13 .leq (S 11) (S 12)), (none, .pick 14 (S 10) (S 13) (KB false)), (none, .mv 6 (S 14))]) .ret))
theorem e_impl_within : entry Tryd.prog 91 = some (c_impl_within.strip, [6], 15) := by kernel_rfl
theorem w_impl_within (a0 : Int) (a1 : Int) (a2 : Int) (r : Bool) (h : f_impl_within a0 a1 a2 = some r) : FC Tryd.prog 91 [.sc (.int .i64 a0), .sc (.int .i64 a1), .sc (.int .i64 a2)] [.sc (.v (.bool r))] := by
  unfold f_impl_within at h
  refine FC_go (σ := ⟨[(0, vc (aI a0)), (1, vc (aI a1)), (2, vc (aI a2))], [], []⟩) mixed e_impl_within rfl rfl ?_
  simp only [c_impl_within]
  rcases Bool.eq_false_or_eq_true (decide (a1 ≤ a0)) with hb1 | hb1
  · rw [ite_t hb1] at h
    try simp only [hb1, Nat.reduceBEq, Nat.reduceMul, Nat.reduceAdd, Nat.reduceDiv, Int.reduceBEq, rules2, rowsX]
    cases h
    exact ⟨⟨rfl, trivial⟩, rfl⟩
  · rw [ite_f hb1] at h
    try simp only [hb1, Nat.reduceBEq, Nat.reduceMul, Nat.reduceAdd, Nat.reduceDiv, Int.reduceBEq, rules2, rowsX]
    cases h
    exact ⟨⟨rfl, trivial⟩, rfl⟩
/- 54: impl_entryName -/
def c_impl_entryName : ACode := (.seq (.reg [(none, .mv 2 (KS []))]) (.seq (.seq (.reg [(none, .mv 3 (S 0)), (none, .call 4 91 [(S 3), (K 1), (K 4)]), (none, .un 5 .not (S 4))]) (.cond (S 5) (.seq (.reg [(none, .mv 2 (KS []))]) .ret) .skip)) (.seq (.reg [(none, .bslice 6 1 [.str []] 4 [(0, (KS [97, 110, 110, 111, 117, 110, 99, 101])), (1, (KS [99, 108, 101, 97, 114])), (2, (KS [99, 97, 110, 99, 101, 108])), (3, (KS [116, 105, 99, 107]))]), (none, .mv 7 (S 0)), (none, .bin 8 .sub (S 7) (K 1)), (none, .iaddr 9 (S 6) (S 8) 1), (none, .load 10 (S 9) false 1), (none, .mv 2 (S 10))]) .ret)))
theorem e_impl_entryName : entry Tryd.prog 54 = some (c_impl_entryName.strip, [2], 11) := by kernel_rfl
theorem w_impl_entryName (a0 : Int) (r : (List UInt8)) (h : f_impl_entryName a0 = some r) : FC Tryd.prog 54 [.sc (.int .i64 a0)] [.sc (.v (.str r))] := by
  unfold f_impl_entryName at h
  refine FC_go (σ := ⟨[(0, vc (aI a0))], [], []⟩) mixed e_impl_entryName rfl rfl ?_
  simp only [c_impl_entryName]
  obtain ⟨r1, hr1, h⟩ := ob h
  try simp only [Nat.reduceBEq, Nat.reduceMul, Nat.reduceAdd, Nat.reduceDiv, Int.reduceBEq, rules2, rowsX]
  refine go_callI (w_impl_within _ _ _ _ hr1) rfl rfl (Nat.le_of_ble_eq_true rfl) ?_
  rcases Bool.eq_false_or_eq_true r1 with hb2 | hb2
  · rw [ite_t hb2] at h
    try simp only [hb2, Nat.reduceBEq, Nat.reduceMul, Nat.reduceAdd, Nat.reduceDiv, Int.reduceBEq, rules2, rowsX]
    refine go_bsl (es := List.map rS ([([97, 110, 110, 111, 117, 110, 99, 101] : List UInt8), ([99, 108, 101, 97, 114] : List UInt8), ([99, 97, 110, 99, 101, 108] : List UInt8), ([116, 105, 99, 107] : List UInt8)] : List (List UInt8))) rfl rfl ?_
    obtain ⟨x3, hx3, h⟩ := ob h
    have hx3n := ix_get hx3
    try simp only [hb2, hx3, hx3n, Nat.reduceBEq, Nat.reduceMul, Nat.reduceAdd, Nat.reduceDiv, Int.reduceBEq, rules2, rowsX]
    cases h
    exact ⟨⟨rfl, trivial⟩, rfl⟩
  · rw [ite_f hb2] at h
    try simp only [hb2, Nat.reduceBEq, Nat.reduceMul, Nat.reduceAdd, Nat.reduceDiv, Int.reduceBEq, rules2, rowsX]
    cases h
    exact ⟨⟨rfl, trivial⟩, rfl⟩
/- 55: impl_isMinute -/
def c_impl_isMinute : ACode := (.seq (.reg [(none, .mv 2 (KB false))]) (.seq (.reg [(none, .mv 3 (S 0)), (none, .call 4 91 [(S 3), (K 0), (K 2880)]), (none, .mv 2 (S 4))]) .ret))
theorem e_impl_isMinute : entry Tryd.prog 55 = some (c_impl_isMinute.strip, [2], 5) := by kernel_rfl
theorem w_impl_isMinute (a0 : Int) (r : Bool) (h : f_impl_isMinute a0 = some r) : FC Tryd.prog 55 [.sc (.int .i64 a0)] [.sc (.v (.bool r))] := by
  unfold f_impl_isMinute at h
  refine FC_go (σ := ⟨[(0, vc (aI a0))], [], []⟩) mixed e_impl_isMinute rfl rfl ?_
  simp only [c_impl_isMinute]
  obtain ⟨r1, hr1, h⟩ := ob h
  try simp only [Nat.reduceBEq, Nat.reduceMul, Nat.reduceAdd, Nat.reduceDiv, Int.reduceBEq, rules2, rowsX]
  refine go_callI (w_impl_within _ _ _ _ hr1) rfl rfl (Nat.le_of_ble_eq_true rfl) ?_
  try simp only [Nat.reduceBEq, Nat.reduceMul, Nat.reduceAdd, Nat.reduceDiv, Int.reduceBEq, rules2, rowsX]
  cases h
  exact ⟨⟨rfl, trivial⟩, rfl⟩
/- 57: impl_FormatInt -/
def c_impl_FormatInt : ACode := (.seq (.reg [(none, .mv 2 (KS []))]) (.seq (.reg [(none, .mv 3 (S 0)), (none, .call 4 93 [(S 3)]), (none, .mv 2 (S 4))]) .ret))
theorem e_impl_FormatInt : entry Tryd.prog 57 = some (c_impl_FormatInt.strip, [2], 5) := by kernel_rfl
theorem w_impl_FormatInt (a0 : Int) (r : (List UInt8)) (h : f_impl_FormatInt a0 = some r) : FC Tryd.prog 57 [.sc (.int .i64 a0)] [.sc (.v (.str r))] := by
  unfold f_impl_FormatInt at h
  refine FC_go (σ := ⟨[(0, vc (aI a0))], [], []⟩) mixed e_impl_FormatInt rfl rfl ?_
  simp only [c_impl_FormatInt]
  obtain ⟨r1, hr1, h⟩ := ob h
  try simp only [Nat.reduceBEq, Nat.reduceMul, Nat.reduceAdd, Nat.reduceDiv, Int.reduceBEq, rules2, rowsX]
  refine go_callI (w_strconv_Itoa _ _ hr1) rfl rfl (Nat.le_of_ble_eq_true rfl) ?_
  try simp only [Nat.reduceBEq, Nat.reduceMul, Nat.reduceAdd, Nat.reduceDiv, Int.reduceBEq, rules2, rowsX]
  cases h
  exact ⟨⟨rfl, trivial⟩, rfl⟩
/- 56: impl_Join -/
def c_impl_Join : ACode := (.seq (.reg [(none, .mv 4 (KS []))]) (.seq (.reg [(none, .mv 5 (S 0)), (none, .mv 6 (S 1)), (none, .call 7 92 [(S 5), (S 6)]), (none, .mv 4 (S 7))]) .ret))
theorem e_impl_Join : entry Tryd.prog 56 = some (c_impl_Join.strip, [4], 8) := by kernel_rfl
theorem w_impl_Join (a0 : List (List UInt8)) (a1 : List UInt8) (r : (List UInt8)) (h : f_impl_Join a0 a1 = some r) : FC Tryd.prog 56 [.sc (.sl (List.map rS a0)), .sc (.str a1)] [.sc (.v (.str r))] := by
  unfold f_impl_Join at h
  refine FC_go (σ := ⟨[(0, vc (aL (List.map rS a0))), (1, vc (aS a1))], [], []⟩) mixed e_impl_Join rfl rfl ?_
  simp only [c_impl_Join]
  obtain ⟨r1, hr1, h⟩ := ob h
  try simp only [Nat.reduceBEq, Nat.reduceMul, Nat.reduceAdd, Nat.reduceDiv, Int.reduceBEq, rules2, rowsX]
  refine go_callI (w_strings_Join _ _ _ hr1) rfl rfl (Nat.le_of_ble_eq_true rfl) ?_
  try simp only [Nat.reduceBEq, Nat.reduceMul, Nat.reduceAdd, Nat.reduceDiv, Int.reduceBEq, rules2, rowsX]
  cases h
  exact ⟨⟨rfl, trivial⟩, rfl⟩
/- 58: impl_SumOfText -/
def c_impl_SumOfText_1 : ACode := .seq (.reg [(none, .keep [0, 3, 4] [] [])]) (.seq (.seq (.reg [(none, .mv 5 (S 4)), (none, .mv 6 (S 0)), (none, .slen 7 (S 6)), (none, .bin 8 .lss (S 5) (S 7))]) (.cond (S 8) .skip (.exit 0))) (.seq (.block 1 (.reg [(none, .mv 11 (S 3)), (none, .bin 12 .mul (K 31) (S 11)), (none, .mv 13 (S 0)), (none, .mv 14 (S 4)), (none, .idx 15 (S 13) (S 14)), (none, .conv 16 .i64 (S 15)), (none, .bin 17 .add (S 12) (S 16)), (none, .bin 18 .rem (S 17) (K 65521)), (none, .mv 3 (S 18))])) (.reg [(none, .mv 9 (S 4)), (none, .bin 10 .add (S 9) (K 1)), (none, .mv 4 (S 10))])))
def c_impl_SumOfText_n1 : ACode := (.seq (.reg [(none, .mv 19 (S 3)), (none, .mv 2 (S 19))]) .ret)
def c_impl_SumOfText : ACode := (.seq (.reg [(none, .mv 2 (K 0))]) (.seq (.reg [(none, .mv 3 (K 7))]) (.seq (.seq (.reg [(none, .mv 4 (K 0))]) (.block 0 (.loop c_impl_SumOfText_1))) c_impl_SumOfText_n1)))
theorem w_impl_SumOfText_1 (a0 : List UInt8) : ∀ (n : Nat) (v1 : Int) (v2 : Int) (r : Int), f_impl_SumOfText_1 a0 n v1 v2 = some r → ∀ σ : St, σ.kept [0, 3, 4] [] [] = ⟨[(0, vc (aS a0)), (3, vc (aI v1)), (4, vc (aI v2))], [], []⟩ → go Tryd.prog (.code (.loop c_impl_SumOfText_1) :: [.blk 0, .code c_impl_SumOfText_n1]) (Ret [2] [.sc (.v (.int .i64 r))]) .normal (some σ) := by
  intro n
  induction n with
  | zero => intro _ _ r h; cases h
  | succ n ih =>
    intro v1 v2 r h σ hσ
    rw [f_impl_SumOfText_1] at h
    refine go_round ?_
    rcases Bool.eq_false_or_eq_true (decide (v2 < (a0.length : Int))) with hb3 | hb3
    · rw [ite_t hb3] at h
      obtain ⟨b4, hb4, h⟩ := ob h
      try simp only [hσ, hb3, hb4, c_impl_SumOfText_1, Nat.reduceBEq, Nat.reduceMul, Nat.reduceAdd, Nat.reduceDiv, Int.reduceBEq, rules2, rowsX]
      refine ih _ _ _ h _ ?_
      try simp only [hb3, hb4, Nat.reduceBEq, Nat.reduceMul, Nat.reduceAdd, Nat.reduceDiv, Int.reduceBEq, rules2, rowsX, List.map_nil]
    · rw [ite_f hb3] at h
      try simp only [hσ, hb3, c_impl_SumOfText_1, c_impl_SumOfText_n1, Nat.reduceBEq, Nat.reduceMul, Nat.reduceAdd, Nat.reduceDiv, Int.reduceBEq, rules2, rowsX]
      cases h
      exact ⟨⟨rfl, trivial⟩, rfl⟩
theorem e_impl_SumOfText : entry Tryd.prog 58 = some (c_impl_SumOfText.strip, [2], 20) := by kernel_rfl
theorem w_impl_SumOfText (a0 : List UInt8) (r : Int) (h : f_impl_SumOfText a0 = some r) : FC Tryd.prog 58 [.sc (.str a0)] [.sc (.v (.int .i64 r))] := by
  unfold f_impl_SumOfText at h
  refine FC_go (σ := ⟨[(0, vc (aS a0))], [], []⟩) mixed e_impl_SumOfText rfl rfl ?_
  simp only [c_impl_SumOfText]
  try simp only [Nat.reduceBEq, Nat.reduceMul, Nat.reduceAdd, Nat.reduceDiv, Int.reduceBEq, rules2, rowsX]
  refine w_impl_SumOfText_1 _ _ _ _ _ h _ ?_
  try simp only [Nat.reduceBEq, Nat.reduceMul, Nat.reduceAdd, Nat.reduceDiv, Int.reduceBEq, rules2, rowsX, List.map_nil]
/- 14: impl_FormatEntry -/
def c_impl_FormatEntry : ACode := (.seq (.reg [(none, .box 1 (S 0)), (none, .mv 2 (KS []))]) (.seq (.reg [(none, .faddr 5 (S 1) 0), (none, .load 6 (S 5) false 1), (none, .call 7 54 [(S 6)]), (none, .mv 3 (S 7))]) (.seq (.seq (.reg [(none, .mv 8 (S 3)), (none, .bin 9 .eql (S 8) (KS [])), (none, .mv 10 (S 9)), (some (10, false), .faddr 11 (S 1) 1), (some (10, false), .load 12 (S 11) false 1), (some (10, false), .call 13 55 [(S 12)]), (some (10, false), .un 14 .not (S 13)), (none, .pick 15 (S 10) (KB true) (S 14)), (none, .mv 16 (S 15)), (some (16, false), .faddr 17 (S 1) 2), (some (16, false), .load 18 (S 17) false 1), (some (16, false), .call 19 55 [(S 18)]), (some (16, false), .un 20 .not (S 19)), (none, .pick 21 (S 16) (KB true) (S 20)), (none, .mv 22 (S 21)), (some (22, false), .faddr 23 (S 1) 3), (some (22, false), .load 24 (S 23) false 1), (some (22, false), .call 25 55 [(S 24)]), (some (22, false), .un 26 .not (S 25)), (none, .pick 27 (S 22) (KB true) (S 26))]) (.cond (S 27) (.seq (.reg [(none, .mv 2 (KS []))]) .ret) .skip)) (.seq (.drw [(some [31, 34, 37], (none, .mv 28 (S 3))), (some [], (none, .faddr 29 (S 1) 1)), (some [], (none, .load 30 (S 29) false 1)), (some [], (none, .call 31 57 [(S 30)])), (some [31], (none, .faddr 32 (S 1) 2)), (some [31], (none, .load 33 (S 32) false 1)), (some [], (none, .call 34 57 [(S 33)])), (some [31, 34], (none, .faddr 35 (S 1) 3)), (some [31, 34], (none, .load 36 (S 35) false 1)), (some [], (none, .call 37 57 [(S 36)])), (some [], (none, .bslice 38 1 [.str []] 4 [(0, (S 28)), (1, (S 31)), (2, (S 34)), (3, (S 37))])), (some [], (none, .call 39 56 [(S 38), (KS [32])])), (some [], (none, .mv 4 (S 39)))]) (.seq (.reg [(none, .mv 40 (S 4)), (none, .bin 41 .add (S 40) (KS [32, 35])), (none, .mv 42 (S 4)), (none, .call 43 58 [(S 42)]), (none, .call 44 57 [(S 43)]), (none, .bin 45 .add (S 41) (S 44)), (none, .mv 2 (S 45))]) .ret)))))
theorem e_impl_FormatEntry : entry Tryd.prog 14 = some (c_impl_FormatEntry.strip, [2], 46) := by kernel_rfl
theorem w_impl_FormatEntry (a0 : XEntry) (r : (List UInt8)) (h : f_impl_FormatEntry a0 = some r) : FC Tryd.prog 14 [.ag (XEntry.row a0)] [.sc (.v (.str r))] := by
  unfold f_impl_FormatEntry at h
  refine FC_go (σ := ⟨[(0, va [aI a0.Kind, aI a0.At, aI a0.Call, aI a0.Value])], [], []⟩) mixed e_impl_FormatEntry rfl rfl ?_
  simp only [c_impl_FormatEntry]
  try simp only [Nat.reduceBEq, Nat.reduceMul, Nat.reduceAdd, Nat.reduceDiv, Int.reduceBEq, rules2, rowsX]
  refine go_bx rfl rfl rfl ?_
  obtain ⟨r1, hr1, h⟩ := ob h
  try simp only [Nat.reduceBEq, Nat.reduceMul, Nat.reduceAdd, Nat.reduceDiv, Int.reduceBEq, rules2, rowsX]
  refine go_callI (w_impl_entryName _ _ hr1) rfl rfl (Nat.le_of_ble_eq_true rfl) ?_
  rcases Bool.eq_false_or_eq_true (r1 == ([] : List UInt8)) with hb2 | hb2
  · rw [ite_t hb2] at h
    try simp only [hb2, Nat.reduceBEq, Nat.reduceMul, Nat.reduceAdd, Nat.reduceDiv, Int.reduceBEq, rules2, rowsX]
    cases h
    exact ⟨⟨rfl, trivial⟩, rfl⟩
  · rw [ite_f hb2] at h
    obtain ⟨r3, hr3, h⟩ := ob h
    try simp only [hb2, Nat.reduceBEq, Nat.reduceMul, Nat.reduceAdd, Nat.reduceDiv, Int.reduceBEq, rules2, rowsX]
    refine go_callI (w_impl_isMinute _ _ hr3) rfl rfl (Nat.le_of_ble_eq_true rfl) ?_
    rcases Bool.eq_false_or_eq_true r3 with hb4 | hb4
    · rw [ite_t hb4] at h
      obtain ⟨r5, hr5, h⟩ := ob h
      try simp only [hb2, hb4, Nat.reduceBEq, Nat.reduceMul, Nat.reduceAdd, Nat.reduceDiv, Int.reduceBEq, rules2, rowsX]
      refine go_callI (w_impl_isMinute _ _ hr5) rfl rfl (Nat.le_of_ble_eq_true rfl) ?_
      rcases Bool.eq_false_or_eq_true r5 with hb6 | hb6
      · rw [ite_t hb6] at h
        obtain ⟨r7, hr7, h⟩ := ob h
        try simp only [hb2, hb4, hb6, Nat.reduceBEq, Nat.reduceMul, Nat.reduceAdd, Nat.reduceDiv, Int.reduceBEq, rules2, rowsX]
        refine go_callI (w_impl_isMinute _ _ hr7) rfl rfl (Nat.le_of_ble_eq_true rfl) ?_
        rcases Bool.eq_false_or_eq_true r7 with hb8 | hb8
        · rw [ite_t hb8] at h
          try simp only [hb2, hb4, hb6, hb8, Nat.reduceBEq, Nat.reduceMul, Nat.reduceAdd, Nat.reduceDiv, Int.reduceBEq, rules2, rowsX]
          refine go_fr_of rfl ?_
          obtain ⟨r9, hr9, h⟩ := ob h
          try simp only [hb2, hb4, hb6, hb8, Nat.reduceBEq, Nat.reduceMul, Nat.reduceAdd, Nat.reduceDiv, Int.reduceBEq, rules2, rowsX]
          refine go_dcallI (w_impl_FormatInt _ _ hr9) rfl rfl (Nat.le_of_ble_eq_true rfl) ?_
          obtain ⟨r10, hr10, h⟩ := ob h
          try simp only [hb2, hb4, hb6, hb8, Nat.reduceBEq, Nat.reduceMul, Nat.reduceAdd, Nat.reduceDiv, Int.reduceBEq, rules2, rowsX]
          refine go_dcallI (w_impl_FormatInt _ _ hr10) rfl rfl (Nat.le_of_ble_eq_true rfl) ?_
          obtain ⟨r11, hr11, h⟩ := ob h
          try simp only [hb2, hb4, hb6, hb8, Nat.reduceBEq, Nat.reduceMul, Nat.reduceAdd, Nat.reduceDiv, Int.reduceBEq, rules2, rowsX]
          refine go_dcallI (w_impl_FormatInt _ _ hr11) rfl rfl (Nat.le_of_ble_eq_true rfl) ?_
          try simp only [hb2, hb4, hb6, hb8, Nat.reduceBEq, Nat.reduceMul, Nat.reduceAdd, Nat.reduceDiv, Int.reduceBEq, rules2, rowsX]
          refine go_bsl (es := List.map rS ([r1, r9, r10, r11] : List (List UInt8))) rfl rfl ?_
          obtain ⟨r12, hr12, h⟩ := ob h
          try simp only [hb2, hb4, hb6, hb8, Nat.reduceBEq, Nat.reduceMul, Nat.reduceAdd, Nat.reduceDiv, Int.reduceBEq, rules2, rowsX]
          refine go_dcall (w_impl_Join _ _ _ hr12) rfl (flat_of rfl) rfl (Nat.le_of_ble_eq_true rfl) ?_
          obtain ⟨hg13, h⟩ := of_guard h
          obtain ⟨r14, hr14, h⟩ := ob h
          try simp only [hb2, hb4, hb6, hb8, hg13, Nat.reduceBEq, Nat.reduceMul, Nat.reduceAdd, Nat.reduceDiv, Int.reduceBEq, rules2, rowsX]
          refine go_callI (w_impl_SumOfText _ _ hr14) rfl rfl (Nat.le_of_ble_eq_true rfl) ?_
          obtain ⟨r15, hr15, h⟩ := ob h
          try simp only [hb2, hb4, hb6, hb8, hg13, Nat.reduceBEq, Nat.reduceMul, Nat.reduceAdd, Nat.reduceDiv, Int.reduceBEq, rules2, rowsX]
          refine go_callI (w_impl_FormatInt _ _ hr15) rfl rfl (Nat.le_of_ble_eq_true rfl) ?_
          obtain ⟨hg16, h⟩ := of_guard h
          try simp only [hb2, hb4, hb6, hb8, hg13, hg16, Nat.reduceBEq, Nat.reduceMul, Nat.reduceAdd, Nat.reduceDiv, Int.reduceBEq, rules2, rowsX]
          cases h
          exact ⟨⟨rfl, trivial⟩, rfl⟩
        · rw [ite_f hb8] at h
          try simp only [hb2, hb4, hb6, hb8, Nat.reduceBEq, Nat.reduceMul, Nat.reduceAdd, Nat.reduceDiv, Int.reduceBEq, rules2, rowsX]
          cases h
          exact ⟨⟨rfl, trivial⟩, rfl⟩
      · rw [ite_f hb6] at h
        try simp only [hb2, hb4, hb6, Nat.reduceBEq, Nat.reduceMul, Nat.reduceAdd, Nat.reduceDiv, Int.reduceBEq, rules2, rowsX]
        cases h
        exact ⟨⟨rfl, trivial⟩, rfl⟩
    · rw [ite_f hb4] at h
      try simp only [hb2, hb4, Nat.reduceBEq, Nat.reduceMul, Nat.reduceAdd, Nat.reduceDiv, Int.reduceBEq, rules2, rowsX]
      cases h
      exact ⟨⟨rfl, trivial⟩, rfl⟩
/- 32: impl_JournalText -/
def c_impl_JournalText_1 : ACode := .seq (.reg [(none, .keep [3, 6, 7, 8] [] [])]) (.seq (.reg [(none, .bin 9 .lss (S 8) (S 7))]) (.seq (.cond (S 9) .skip (.exit 0)) (.seq (.block 1 (.seq (.reg [(none, .iaddr 10 (S 6) (S 8) 4), (none, .load 11 (S 10) true 4), (none, .alloc 5 [aI 0, aI 0, aI 0, aI 0]), (none, .store (S 5) (S 11) 4)]) (.reg [(none, .mv 12 (S 3)), (none, .load 13 (S 5) true 4), (none, .call 14 14 [(S 13)]), (none, .bin 15 .add (S 14) (KS [10])), (none, .bin 16 .add (S 12) (S 15)), (none, .mv 3 (S 16))]))) (.reg [(none, .bin 17 .add (S 8) (K 1)), (none, .mv 8 (S 17))]))))
def c_impl_JournalText_n1 : ACode := (.seq (.reg [(none, .mv 18 (S 3)), (none, .mv 2 (S 18))]) .ret)
def c_impl_JournalText : ACode := (.seq (.reg [(none, .mv 2 (KS []))]) (.seq (.reg [(none, .mv 3 (KS []))]) (.seq (.seq (.reg [(none, .mv 6 (S 0)), (none, .len 7 (S 6)), (none, .mv 8 (K 0))]) (.block 0 (.loop c_impl_JournalText_1))) c_impl_JournalText_n1)))
theorem w_impl_JournalText_1 (a0 : List XEntry) : ∀ (n : Nat) (v1 : List UInt8) (v2 : Int) (r : (List UInt8)), f_impl_JournalText_1 a0 n v1 v2 = some r → ∀ σ : St, σ.kept [3, 6, 7, 8] [] [] = ⟨[(3, vc (aS v1)), (6, vc (aL (List.map XEntry.row a0))), (7, vc (aI (a0.length : Int))), (8, vc (aI v2))], [], []⟩ → go Tryd.prog (.code (.loop c_impl_JournalText_1) :: [.blk 0, .code c_impl_JournalText_n1]) (Ret [2] [.sc (.v (.str r))]) .normal (some σ) := by
  intro n
  induction n with
  | zero => intro _ _ r h; cases h
  | succ n ih =>
    intro v1 v2 r h σ hσ
    rw [f_impl_JournalText_1] at h
    refine go_round ?_
    rcases Bool.eq_false_or_eq_true (decide (v2 < (a0.length : Int))) with hb3 | hb3
    · rw [ite_t hb3] at h
      obtain ⟨x4, hx4, h⟩ := ob h
      try simp only [hσ, hb3, hx4, c_impl_JournalText_1, Nat.reduceBEq, Nat.reduceMul, Nat.reduceAdd, Nat.reduceDiv, Int.reduceBEq, rules2, rowsX]
      refine go_al rfl rfl ?_
      obtain ⟨r5, hr5, h⟩ := ob h
      try simp only [hb3, hx4, Nat.reduceBEq, Nat.reduceMul, Nat.reduceAdd, Nat.reduceDiv, Int.reduceBEq, rules2, rowsX]
      refine go_callI (w_impl_FormatEntry _ _ hr5) rfl rfl (Nat.le_of_ble_eq_true rfl) ?_
      obtain ⟨hg6, h⟩ := of_guard h
      obtain ⟨hg7, h⟩ := of_guard h
      try simp only [hb3, hx4, hg6, hg7, Nat.reduceBEq, Nat.reduceMul, Nat.reduceAdd, Nat.reduceDiv, Int.reduceBEq, rules2, rowsX]
      refine ih _ _ _ h _ ?_
      try simp only [hb3, hx4, hg6, hg7, Nat.reduceBEq, Nat.reduceMul, Nat.reduceAdd, Nat.reduceDiv, Int.reduceBEq, rules2, rowsX, List.map_nil]
    · rw [ite_f hb3] at h
      try simp only [hσ, hb3, c_impl_JournalText_1, c_impl_JournalText_n1, Nat.reduceBEq, Nat.reduceMul, Nat.reduceAdd, Nat.reduceDiv, Int.reduceBEq, rules2, rowsX]
      cases h
      exact ⟨⟨rfl, trivial⟩, rfl⟩
theorem e_impl_JournalText : entry Tryd.prog 32 = some (c_impl_JournalText.strip, [2], 19) := by kernel_rfl
theorem w_impl_JournalText (a0 : List XEntry) (r : (List UInt8)) (h : f_impl_JournalText a0 = some r) : FC Tryd.prog 32 [.sc (.sl (List.map XEntry.row a0))] [.sc (.v (.str r))] := by
  unfold f_impl_JournalText at h
  refine FC_go (σ := ⟨[(0, vc (aL (List.map XEntry.row a0)))], [], []⟩) mixed e_impl_JournalText rfl rfl ?_
  simp only [c_impl_JournalText]
  try simp only [Nat.reduceBEq, Nat.reduceMul, Nat.reduceAdd, Nat.reduceDiv, Int.reduceBEq, rules2, rowsX]
  refine w_impl_JournalText_1 _ _ _ _ _ h _ ?_
  try simp only [Nat.reduceBEq, Nat.reduceMul, Nat.reduceAdd, Nat.reduceDiv, Int.reduceBEq, rules2, rowsX, List.map_nil]
/- 47: laws_eqEntry -/
def c_laws_eqEntry : ACode := (.seq (.reg [(none, .box 2 (S 0)), (none, .box 3 (S 1)), (none, .mv 4 (KB false))]) (.seq (.seq (.reg [(none, .faddr 5 (S 2) 0), (none, .load 6 (S 5) false 1), (none, .faddr 7 (S 3) 0), (none, .load 8 (S 7) false 1), (none, .bin 9 .neq (S 6) (S 8))]) (.cond (S 9) (.seq (.reg [(none, .mv 4 (KB false))]) .ret) .skip)) (.seq (.seq (.reg [(none, .faddr 10 (S 2) 1), (none, .load 11 (S 10) false 1), (none, .faddr 12 (S 3) 1), (none, .load 13 (S 12) false 1), (none, .bin 14 .neq (S 11) (S 13))]) (.cond (S 14) (.seq (.reg [(none, .mv 4 (KB false))]) .ret) .skip)) (.seq (.seq (.reg [(none, .faddr 15 (S 2) 2), (none, .load 16 (S 15) false 1), (none, .faddr 17 (S 3) 2), (none, .load 18 (S 17) false 1), (none, .bin 19 .neq (S 16) (S 18))]) (.cond (S 19) (.seq (.reg [(none, .mv 4 (KB false))]) .ret) .skip)) (.seq (.seq (.reg [(none, .faddr 20 (S 2) 3), (none, .load 21 (S 20) false 1), (none, .faddr 22 (S 3) 3), (none, .load 23 (S 22) false 1), (none, .bin 24 .neq (S 21) (S 23))]) (.cond (S 24) (.seq (.reg [(none, .mv 4 (KB false))]) .ret) .skip)) (.seq (.reg [(none, .mv 4 (KB true))]) .ret))))))
theorem e_laws_eqEntry : entry Tryd.prog 47 = some (c_laws_eqEntry.strip, [4], 25) := by kernel_rfl
theorem w_laws_eqEntry (a0 : XEntry) (a1 : XEntry) (r : Bool) (h : f_laws_eqEntry a0 a1 = some r) : FC Tryd.prog 47 [.ag (XEntry.row a0), .ag (XEntry.row a1)] [.sc (.v (.bool r))] := by
  unfold f_laws_eqEntry at h
  refine FC_go (σ := ⟨[(0, va [aI a0.Kind, aI a0.At, aI a0.Call, aI a0.Value]), (1, va [aI a1.Kind, aI a1.At, aI a1.Call, aI a1.Value])], [], []⟩) mixed e_laws_eqEntry rfl rfl ?_
  simp only [c_laws_eqEntry]
  try simp only [Nat.reduceBEq, Nat.reduceMul, Nat.reduceAdd, Nat.reduceDiv, Int.reduceBEq, rules2, rowsX]
  refine go_bx rfl rfl rfl ?_
  try simp only [Nat.reduceBEq, Nat.reduceMul, Nat.reduceAdd, Nat.reduceDiv, Int.reduceBEq, rules2, rowsX]
  refine go_bx rfl rfl rfl ?_
  rcases Bool.eq_false_or_eq_true (a0.Kind != a1.Kind) with hb1 | hb1
  · rw [ite_t hb1] at h
    try simp only [hb1, Nat.reduceBEq, Nat.reduceMul, Nat.reduceAdd, Nat.reduceDiv, Int.reduceBEq, rules2, rowsX]
    cases h
    exact ⟨⟨rfl, trivial⟩, rfl⟩
  · rw [ite_f hb1] at h
    rcases Bool.eq_false_or_eq_true (a0.At != a1.At) with hb2 | hb2
    · rw [ite_t hb2] at h
      try simp only [hb1, hb2, Nat.reduceBEq, Nat.reduceMul, Nat.reduceAdd, Nat.reduceDiv, Int.reduceBEq, rules2, rowsX]
      cases h
      exact ⟨⟨rfl, trivial⟩, rfl⟩
    · rw [ite_f hb2] at h
      rcases Bool.eq_false_or_eq_true (a0.Call != a1.Call) with hb3 | hb3
      · rw [ite_t hb3] at h
        try simp only [hb1, hb2, hb3, Nat.reduceBEq, Nat.reduceMul, Nat.reduceAdd, Nat.reduceDiv, Int.reduceBEq, rules2, rowsX]
        cases h
        exact ⟨⟨rfl, trivial⟩, rfl⟩
      · rw [ite_f hb3] at h
        rcases Bool.eq_false_or_eq_true (a0.Value != a1.Value) with hb4 | hb4
        · rw [ite_t hb4] at h
          try simp only [hb1, hb2, hb3, hb4, Nat.reduceBEq, Nat.reduceMul, Nat.reduceAdd, Nat.reduceDiv, Int.reduceBEq, rules2, rowsX]
          cases h
          exact ⟨⟨rfl, trivial⟩, rfl⟩
        · rw [ite_f hb4] at h
          try simp only [hb1, hb2, hb3, hb4, Nat.reduceBEq, Nat.reduceMul, Nat.reduceAdd, Nat.reduceDiv, Int.reduceBEq, rules2, rowsX]
          cases h
          exact ⟨⟨rfl, trivial⟩, rfl⟩
/- 33: laws_eqEntryS -/
def c_laws_eqEntryS_1 : ACode := .seq (.reg [(none, .keep [0, 1, 5] [] [])]) (.seq (.seq (.reg [(none, .mv 11 (S 5)), (none, .mv 12 (S 0)), (none, .len 13 (S 12)), (none, .bin 14 .lss (S 11) (S 13))]) (.cond (S 14) .skip (.exit 0))) (.seq (.block 1 (.seq (.drw [(some [], (none, .mv 17 (S 0))), (some [], (none, .mv 18 (S 5))), (some [], (none, .iaddr 19 (S 17) (S 18) 4)), (some [], (none, .load 20 (S 19) true 4)), (some [], (none, .mv 21 (S 1))), (some [], (none, .mv 22 (S 5))), (some [], (none, .iaddr 23 (S 21) (S 22) 4)), (some [], (none, .load 24 (S 23) true 4)), (some [], (none, .call 25 47 [(S 20), (S 24)])), (some [], (none, .un 26 .not (S 25)))]) (.cond (S 26) (.seq (.reg [(none, .mv 4 (KB false))]) .ret) .skip))) (.reg [(none, .mv 15 (S 5)), (none, .bin 16 .add (S 15) (K 1)), (none, .mv 5 (S 16))])))
def c_laws_eqEntryS_n1 : ACode := (.seq (.reg [(none, .mv 4 (KB true))]) .ret)
def c_laws_eqEntryS : ACode := (.seq (.reg [(none, .mv 4 (KB false))]) (.seq (.seq (.reg [(none, .mv 6 (S 0)), (none, .len 7 (S 6)), (none, .mv 8 (S 1)), (none, .len 9 (S 8)), (none, .bin 10 .neq (S 7) (S 9))]) (.cond (S 10) (.seq (.reg [(none, .mv 4 (KB false))]) .ret) .skip)) (.seq (.seq (.reg [(none, .mv 5 (K 0))]) (.block 0 (.loop c_laws_eqEntryS_1))) c_laws_eqEntryS_n1)))
theorem w_laws_eqEntryS_1 (a0 : List XEntry) (a1 : List XEntry) : ∀ (n : Nat) (v2 : Int) (r : Bool), f_laws_eqEntryS_1 a0 a1 n v2 = some r → ∀ σ : St, σ.kept [0, 1, 5] [] [] = ⟨[(0, vc (aL (List.map XEntry.row a0))), (1, vc (aL (List.map XEntry.row a1))), (5, vc (aI v2))], [], []⟩ → go Tryd.prog (.code (.loop c_laws_eqEntryS_1) :: [.blk 0, .code c_laws_eqEntryS_n1]) (Ret [4] [.sc (.v (.bool r))]) .normal (some σ) := by
  intro n
  induction n with
  | zero => intro _ r h; cases h
  | succ n ih =>
    intro v2 r h σ hσ
    rw [f_laws_eqEntryS_1] at h
    refine go_round ?_
    rcases Bool.eq_false_or_eq_true (decide (v2 < (a0.length : Int))) with hb3 | hb3
    · rw [ite_t hb3] at h
      try simp only [hσ, hb3, c_laws_eqEntryS_1, Nat.reduceBEq, Nat.reduceMul, Nat.reduceAdd, Nat.reduceDiv, Int.reduceBEq, rules2, rowsX]
      refine go_fr_of rfl ?_
      obtain ⟨x4, hx4, h⟩ := ob h
      obtain ⟨x5, hx5, h⟩ := ob h
      obtain ⟨r6, hr6, h⟩ := ob h
      try simp only [hb3, hx4, hx5, Nat.reduceBEq, Nat.reduceMul, Nat.reduceAdd, Nat.reduceDiv, Int.reduceBEq, rules2, rowsX]
      refine go_dcallI (w_laws_eqEntry _ _ _ hr6) rfl rfl (Nat.le_of_ble_eq_true rfl) ?_
      rcases Bool.eq_false_or_eq_true r6 with hb7 | hb7
      · rw [ite_t hb7] at h
        try simp only [hb3, hx4, hx5, hb7, Nat.reduceBEq, Nat.reduceMul, Nat.reduceAdd, Nat.reduceDiv, Int.reduceBEq, rules2, rowsX]
        refine ih _ _ h _ ?_
        try simp only [hb3, hx4, hx5, hb7, Nat.reduceBEq, Nat.reduceMul, Nat.reduceAdd, Nat.reduceDiv, Int.reduceBEq, rules2, rowsX, List.map_nil]
      · rw [ite_f hb7] at h
        try simp only [hb3, hx4, hx5, hb7, Nat.reduceBEq, Nat.reduceMul, Nat.reduceAdd, Nat.reduceDiv, Int.reduceBEq, rules2, rowsX]
        cases h
        exact ⟨⟨rfl, trivial⟩, rfl⟩
    · rw [ite_f hb3] at h
      try simp only [hσ, hb3, c_laws_eqEntryS_1, c_laws_eqEntryS_n1, Nat.reduceBEq, Nat.reduceMul, Nat.reduceAdd, Nat.reduceDiv, Int.reduceBEq, rules2, rowsX]
      cases h
      exact ⟨⟨rfl, trivial⟩, rfl⟩
theorem e_laws_eqEntryS : entry Tryd.prog 33 = some (c_laws_eqEntryS.strip, [4], 27) := by kernel_rfl
theorem w_laws_eqEntryS (a0 : List XEntry) (a1 : List XEntry) (r : Bool) (h : f_laws_eqEntryS a0 a1 = some r) : FC Tryd.prog 33 [.sc (.sl (List.map XEntry.row a0)), .sc (.sl (List.map XEntry.row a1))] [.sc (.v (.bool r))] := by
  unfold f_laws_eqEntryS at h
  refine FC_go (σ := ⟨[(0, vc (aL (List.map XEntry.row a0))), (1, vc (aL (List.map XEntry.row a1)))], [], []⟩) mixed e_laws_eqEntryS rfl rfl ?_
  simp only [c_laws_eqEntryS]
  rcases Bool.eq_false_or_eq_true ((a0.length : Int) != (a1.length : Int)) with hb1 | hb1
  · rw [ite_t hb1] at h
    try simp only [hb1, Nat.reduceBEq, Nat.reduceMul, Nat.reduceAdd, Nat.reduceDiv, Int.reduceBEq, rules2, rowsX]
    cases h
    exact ⟨⟨rfl, trivial⟩, rfl⟩
  · rw [ite_f hb1] at h
    try simp only [hb1, Nat.reduceBEq, Nat.reduceMul, Nat.reduceAdd, Nat.reduceDiv, Int.reduceBEq, rules2, rowsX]
    refine w_laws_eqEntryS_1 _ _ _ _ _ h _ ?_
    try simp only [hb1, Nat.reduceBEq, Nat.reduceMul, Nat.reduceAdd, Nat.reduceDiv, Int.reduceBEq, rules2, rowsX, List.map_nil]
/- 7: laws_FnExactJournalText -/
def c_laws_FnExactJournalText : ACode := (.seq (.reg [(none, .mv 2 (KB false))]) (.seq (.reg [(none, .mv 3 (K 1048576))]) (.seq (.reg [(none, .mv 7 (S 0)), (none, .mv 8 (S 3)), (none, .call 9 29 [(S 7), (S 8)]), (none, .mv 3 (S 9))]) (.seq (.seq (.reg [(none, .mv 10 (S 3)), (none, .bin 11 .lss (S 10) (K 0))]) (.cond (S 11) (.seq (.reg [(none, .mv 2 (KB true))]) .ret) .skip)) (.seq (.reg [(none, .mv 12 (S 0)), (none, .call 13 31 [(S 12)]), (none, .call 14 30 [(S 13)]), (none, .mv 4 (S 14))]) (.seq (.reg [(none, .mv 15 (S 0)), (none, .call 16 31 [(S 15)]), (none, .mv 5 (S 16))]) (.seq (.reg [(none, .mv 17 (S 5)), (none, .call 18 32 [(S 17)]), (none, .mv 6 (S 18))]) (.seq (.seq (.reg [(none, .mv 19 (S 6)), (none, .mv 20 (S 4)), (none, .bin 21 .neq (S 19) (S 20))]) (.cond (S 21) (.seq (.reg [(none, .mv 2 (KB false))]) .ret) .skip)) (.seq (.seq (.reg [(none, .mv 22 (S 5)), (none, .mv 23 (S 0)), (none, .call 24 31 [(S 23)]), (none, .call 25 33 [(S 22), (S 24)]), (none, .un 26 .not (S 25))]) (.cond (S 26) (.seq (.reg [(none, .mv 2 (KB false))]) .ret) .skip)) (.seq (.reg [(none, .mv 2 (KB true))]) .ret))))))))))
theorem e_laws_FnExactJournalText : entry Tryd.prog 7 = some (c_laws_FnExactJournalText.strip, [2], 27) := by kernel_rfl
theorem w_laws_FnExactJournalText (a0 : List XEntry) (r : Bool) (h : f_laws_FnExactJournalText a0 = some r) : FC Tryd.prog 7 [.sc (.sl (List.map XEntry.row a0))] [.sc (.v (.bool r))] := by
  unfold f_laws_FnExactJournalText at h
  refine FC_go (σ := ⟨[(0, vc (aL (List.map XEntry.row a0)))], [], []⟩) mixed e_laws_FnExactJournalText rfl rfl ?_
  simp only [c_laws_FnExactJournalText]
  obtain ⟨r1, hr1, h⟩ := ob h
  try simp only [Nat.reduceBEq, Nat.reduceMul, Nat.reduceAdd, Nat.reduceDiv, Int.reduceBEq, rules2, rowsX]
  refine go_callI (w_laws_szEntryS _ _ _ hr1) rfl rfl (Nat.le_of_ble_eq_true rfl) ?_
  rcases Bool.eq_false_or_eq_true (decide (r1 < (0 : Int))) with hb2 | hb2
  · rw [ite_t hb2] at h
    try simp only [hb2, Nat.reduceBEq, Nat.reduceMul, Nat.reduceAdd, Nat.reduceDiv, Int.reduceBEq, rules2, rowsX]
    cases h
    exact ⟨⟨rfl, trivial⟩, rfl⟩
  · rw [ite_f hb2] at h
    obtain ⟨r3, hr3, h⟩ := ob h
    try simp only [hb2, Nat.reduceBEq, Nat.reduceMul, Nat.reduceAdd, Nat.reduceDiv, Int.reduceBEq, rules2, rowsX]
    refine go_callI (w_laws_toEntryS _ _ hr3) rfl rfl (Nat.le_of_ble_eq_true rfl) ?_
    obtain ⟨r4, hr4, h⟩ := ob h
    try simp only [hb2, Nat.reduceBEq, Nat.reduceMul, Nat.reduceAdd, Nat.reduceDiv, Int.reduceBEq, rules2, rowsX]
    refine go_call (w_spec_JournalText _ _ hr4) rfl (flat_of rfl) rfl (Nat.le_of_ble_eq_true rfl) ?_
    obtain ⟨r5, hr5, h⟩ := ob h
    try simp only [hb2, Nat.reduceBEq, Nat.reduceMul, Nat.reduceAdd, Nat.reduceDiv, Int.reduceBEq, rules2, rowsX]
    refine go_callI (w_laws_toEntryS _ _ hr5) rfl rfl (Nat.le_of_ble_eq_true rfl) ?_
    obtain ⟨r6, hr6, h⟩ := ob h
    try simp only [hb2, Nat.reduceBEq, Nat.reduceMul, Nat.reduceAdd, Nat.reduceDiv, Int.reduceBEq, rules2, rowsX]
    refine go_call (w_impl_JournalText _ _ hr6) rfl (flat_of rfl) rfl (Nat.le_of_ble_eq_true rfl) ?_
    rcases Bool.eq_false_or_eq_true (r6 == r4) with hb7 | hb7
    · rw [ite_t hb7] at h
      obtain ⟨r8, hr8, h⟩ := ob h
      try simp only [hb2, hb7, Nat.reduceBEq, Nat.reduceMul, Nat.reduceAdd, Nat.reduceDiv, Int.reduceBEq, rules2, rowsX]
      refine go_callI (w_laws_toEntryS _ _ hr8) rfl rfl (Nat.le_of_ble_eq_true rfl) ?_
      obtain ⟨r9, hr9, h⟩ := ob h
      try simp only [hb2, hb7, Nat.reduceBEq, Nat.reduceMul, Nat.reduceAdd, Nat.reduceDiv, Int.reduceBEq, rules2, rowsX]
      refine go_call (w_laws_eqEntryS _ _ _ hr9) rfl (flat_of rfl) rfl (Nat.le_of_ble_eq_true rfl) ?_
      rcases Bool.eq_false_or_eq_true r9 with hb10 | hb10
      · rw [ite_t hb10] at h
        try simp only [hb2, hb7, hb10, Nat.reduceBEq, Nat.reduceMul, Nat.reduceAdd, Nat.reduceDiv, Int.reduceBEq, rules2, rowsX]
        cases h
        exact ⟨⟨rfl, trivial⟩, rfl⟩
      · rw [ite_f hb10] at h
        try simp only [hb2, hb7, hb10, Nat.reduceBEq, Nat.reduceMul, Nat.reduceAdd, Nat.reduceDiv, Int.reduceBEq, rules2, rowsX]
        cases h
        exact ⟨⟨rfl, trivial⟩, rfl⟩
    · rw [ite_f hb7] at h
      try simp only [hb2, hb7, Nat.reduceBEq, Nat.reduceMul, Nat.reduceAdd, Nat.reduceDiv, Int.reduceBEq, rules2, rowsX]
      cases h
      exact ⟨⟨rfl, trivial⟩, rfl⟩
end Go.Vi
