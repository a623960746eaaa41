/-
  Walks: what the plain definitions compute is what the functions return. By program. No condition.
-/
import Derived.Test.YtdgobmphhncomaaGreatDoorKNf
import Derived.Test.YtdgobmphhncomaaGreatDoorChecked
import Derived.Test.YtdgobmphhncomaaGreatDoorKSh
import Derived.Test.YtdgobmphhncomaaGreatDoorKAc
import Derived.KernelRfl
import Derived.Test.YtdgobmphhncomaaGreatDoorKWDesksa
namespace Go.Vi
open Go.Proofs
set_option linter.unusedSimpArgs false
set_option linter.unusedVariables false
set_option maxRecDepth 4000
set_option maxHeartbeats 2000000
attribute [local irreducible] go AWP
/- 3: laws_FnDesks -/
def c_laws_FnDesks_1 : ACode := .seq (.reg [(none, .keep [3, 4, 5, 6, 7, 39, 40, 41] [7] [2433, 2434])]) (.seq (.reg [(none, .bin 42 .lss (S 41) (S 40))]) (.seq (.cond (S 42) .skip (.exit 0)) (.seq (.block 1 (.seq (.reg [(none, .iaddr 43 (S 39) (S 41) 4), (none, .load 44 (S 43) true 4), (none, .alloc 9 [aI 0, aI 0, aI 0, aI 0]), (none, .store (S 9) (S 44) 4)]) (.seq (.reg [(none, .load 46 (S 7) true 3), (none, .load 47 (S 9) true 4), (none, .call 48 8 [(S 46), (S 47)]), (none, .mv 45 (S 48)), (none, .extr 49 (S 45) 0), (none, .extr 50 (S 45) 1), (none, .alloc 10 [aI 0, .nil, .nil]), (none, .store (S 10) (S 49) 3), (none, .mv 11 (S 50))]) (.seq (.reg [(none, .load 52 (S 9) true 4), (none, .call 53 10 [(S 52)]), (none, .call 54 9 [(S 53)]), (none, .mv 51 (S 54)), (none, .extr 55 (S 51) 0), (none, .extr 56 (S 51) 1), (none, .alloc 12 [aI 0, aI 0, aI 0, aI 0]), (none, .store (S 12) (S 55) 4), (none, .mv 13 (S 56))]) (.seq (.seq (.reg [(none, .mv 57 (S 11)), (none, .un 58 .not (S 57)), (none, .mv 59 (S 58)), (some (59, false), .mv 60 (S 13)), (some (59, false), .un 61 .not (S 60)), (none, .pick 62 (S 59) (KB true) (S 61)), (none, .mv 63 (S 62)), (some (63, false), .load 64 (S 12) true 4), (some (63, false), .load 65 (S 9) true 4), (some (63, false), .geq 66 true [.i, .i, .i, .i] (S 64) (S 65)), (none, .pick 67 (S 63) (KB true) (S 66)), (none, .mv 68 (S 67)), (some (68, false), .load 69 (S 10) true 3), (some (68, false), .call 70 11 [(S 69)]), (some (68, false), .un 71 .not (S 70)), (none, .pick 72 (S 68) (KB true) (S 71)), (none, .mv 73 (S 72)), (some (73, false), .faddr 74 (S 10) 0), (some (73, false), .load 75 (S 74) false 1), (some (73, false), .faddr 76 (S 9) 1), (some (73, false), .load 77 (S 76) false 1), (some (73, false), .bin 78 .neq (S 75) (S 77)), (none, .pick 79 (S 73) (KB true) (S 78))]) (.cond (S 79) (.seq (.reg [(none, .mv 2 (KB false))]) .ret) .skip)) (.reg [(none, .load 80 (S 10) true 3), (none, .store (S 7) (S 80) 3)])))))) (.reg [(none, .bin 81 .add (S 41) (K 1)), (none, .mv 41 (S 81)), (none, .keep [3, 4, 5, 6, 7, 39, 40, 41] [7] [3073, 3074]), (none, .ren 3073 2433), (none, .ren 3074 2434)]))))
def c_laws_FnDesks_2 : ACode := .seq (.reg [(none, .keep [16, 18, 124, 125, 126] [16, 18] [5953, 5954, 7745, 7746])]) (.seq (.reg [(none, .bin 127 .lss (S 126) (S 125))]) (.seq (.cond (S 127) .skip (.exit 2)) (.seq (.block 3 (.seq (.reg [(none, .iaddr 128 (S 124) (S 126) 4), (none, .load 129 (S 128) true 4), (none, .alloc 20 [aI 0, aI 0, aI 0, aI 0]), (none, .store (S 20) (S 129) 4)]) (.reg [(none, .load 131 (S 18) true 3), (none, .load 132 (S 20) true 4), (none, .call 133 8 [(S 131), (S 132)]), (none, .mv 130 (S 133)), (none, .extr 134 (S 130) 0), (none, .extr 135 (S 130) 1), (none, .store (S 18) (S 134) 3)]))) (.reg [(none, .bin 136 .add (S 126) (K 1)), (none, .mv 126 (S 136)), (none, .keep [16, 18, 124, 125, 126] [16, 18] [5953, 5954, 8513, 8514]), (none, .ren 8513 7745), (none, .ren 8514 7746)]))))
def c_laws_FnDesks_n2 : ACode := (.seq (.reg [(none, .load 137 (S 16) true 3), (none, .load 138 (S 18) true 3), (none, .call 139 13 [(S 137), (S 138)]), (none, .mv 140 (S 139)), (some (140, true), .load 141 (S 16) true 3), (some (140, true), .call 142 14 [(S 141)]), (some (140, true), .bin 143 .neq (S 142) (KS [])), (none, .pick 144 (S 140) (S 143) (KB false)), (none, .mv 2 (S 144))]) .ret)
def c_laws_FnDesks_n1 : ACode := (.seq (.reg [(none, .mv 83 (S 3)), (none, .mv 84 (S 5)), (none, .call 85 12 [(S 83), (S 84)]), (none, .mv 82 (S 85)), (none, .extr 86 (S 82) 0), (none, .extr 87 (S 82) 1), (none, .alloc 14 [aI 0, .nil, .nil]), (none, .store (S 14) (S 86) 3), (none, .mv 15 (S 87))]) (.seq (.reg [(none, .mv 89 (S 3)), (none, .mv 90 (S 5)), (none, .mv 91 (S 6)), (none, .sslc 92 (S 90) none (some (S 91))), (none, .call 93 12 [(S 89), (S 92)]), (none, .mv 88 (S 93)), (none, .extr 94 (S 88) 0), (none, .extr 95 (S 88) 1), (none, .alloc 16 [aI 0, .nil, .nil]), (none, .store (S 16) (S 94) 3), (none, .mv 17 (S 95))]) (.seq (.seq (.reg [(none, .mv 96 (S 15)), (none, .mv 97 (S 4)), (none, .len 98 (S 97)), (none, .bin 99 .neq (S 96) (S 98)), (none, .mv 100 (S 99)), (some (100, false), .load 101 (S 14) true 3), (some (100, false), .load 102 (S 7) true 3), (some (100, false), .call 103 13 [(S 101), (S 102)]), (some (100, false), .un 104 .not (S 103)), (none, .pick 105 (S 100) (KB true) (S 104)), (none, .mv 106 (S 105)), (some (106, false), .mv 107 (S 17)), (some (106, false), .bin 108 .lss (S 107) (K 0)), (none, .pick 109 (S 106) (KB true) (S 108)), (none, .mv 110 (S 109)), (some (110, false), .mv 111 (S 17)), (some (110, false), .mv 112 (S 15)), (some (110, false), .bin 113 .gtr (S 111) (S 112)), (none, .pick 114 (S 110) (KB true) (S 113)), (none, .mv 115 (S 114)), (some (115, false), .load 116 (S 7) true 3), (some (115, false), .call 117 11 [(S 116)]), (some (115, false), .un 118 .not (S 117)), (none, .pick 119 (S 115) (KB true) (S 118))]) (.cond (S 119) (.seq (.reg [(none, .mv 2 (KB false))]) .ret) .skip)) (.seq (.reg [(none, .mv 120 (S 3)), (none, .call 121 7 [(S 120)]), (none, .alloc 18 [aI 0, .nil, .nil]), (none, .store (S 18) (S 121) 3)]) (.seq (.seq (.reg [(none, .mv 122 (S 4)), (none, .mv 123 (S 17)), (none, .slc 124 4 (S 122) none (some (S 123)) none), (none, .len 125 (S 124)), (none, .mv 126 (K 0))]) (.block 2 (.loop c_laws_FnDesks_2))) c_laws_FnDesks_n2)))))
def c_laws_FnDesks : ACode := (.seq (.reg [(none, .mv 2 (KB false))]) (.seq (.seq (.reg [(none, .mv 21 (S 0)), (none, .len 22 (S 21)), (none, .bin 23 .gtr (S 22) (K 1048576))]) (.cond (S 23) (.seq (.reg [(none, .mv 2 (KB true))]) .ret) .skip)) (.seq (.reg [(none, .mv 25 (S 0)), (none, .call 26 4 [(S 25)]), (none, .mv 24 (S 26)), (none, .extr 27 (S 24) 0), (none, .extr 28 (S 24) 1), (none, .mv 3 (S 27)), (none, .mv 4 (S 28))]) (.seq (.reg [(none, .mv 29 (S 4)), (none, .call 30 5 [(S 29)]), (none, .mv 5 (S 30))]) (.seq (.reg [(none, .mv 31 (S 0)), (none, .call 32 6 [(S 31), (K 60)]), (none, .mv 33 (S 5)), (none, .slen 34 (S 33)), (none, .bin 35 .add (S 34) (K 1)), (none, .bin 36 .rem (S 32) (S 35)), (none, .mv 6 (S 36))]) (.seq (.reg [(none, .mv 37 (S 3)), (none, .call 38 7 [(S 37)]), (none, .alloc 7 [aI 0, .nil, .nil]), (none, .store (S 7) (S 38) 3)]) (.seq (.seq (.reg [(none, .mv 39 (S 4)), (none, .len 40 (S 39)), (none, .mv 41 (K 0))]) (.block 0 (.loop c_laws_FnDesks_1))) c_laws_FnDesks_n1)))))))
theorem w_laws_FnDesks_2 (r25 : XDesk × Int) (y35 : List XEntry) (y36 : Int) : ∀ (n : Nat) (v37 : Int) (v38 : Int) (v39 : List Int) (v40 : List Bool) (r : Bool), f_laws_FnDesks_2 r25 y35 y36 n v37 v38 v39 v40 = some r → ∀ σ : St, σ.kept [16, 18, 124, 125, 126] [16, 18] [5953, 5954, 7745, 7746] = ⟨[(16, vc (.pb 16 0)), (18, vc (.pb 18 0)), (124, vc (aL (List.map XEntry.row y35))), (125, vc (aI y36)), (126, vc (aI v37))], [(16, [aI r25.1.Now, .own 5953, .own 5954]), (18, [aI v38, .own 7745, .own 7746])], [(5953, 1, List.map rI r25.1.Starts), (5954, 1, List.map rB r25.1.Cleared), (7745, 1, List.map rI v39), (7746, 1, List.map rB v40)]⟩ → go Tryz.prog (.code (.loop c_laws_FnDesks_2) :: [.blk 2, .code c_laws_FnDesks_n2]) (Ret [2] [.sc (.v (.bool r))]) .normal (some σ) := by
  intro n
  induction n with
  | zero => intro _ _ _ _ r h; cases h
  | succ n ih =>
    intro v37 v38 v39 v40 r h σ hσ
    rw [f_laws_FnDesks_2] at h
    refine go_round ?_
    rcases Bool.eq_false_or_eq_true (decide (v37 < y36)) with hb41 | hb41
    · rw [ite_t hb41] at h
      obtain ⟨x42, hx42, h⟩ := ob h
      try simp only [hσ, hb41, hx42, c_laws_FnDesks_2, Nat.reduceBEq, Nat.reduceMul, Nat.reduceAdd, Nat.reduceDiv, Int.reduceBEq, rules2, rulesX, rowsX]
      refine go_al rfl rfl ?_
      obtain ⟨r43, hr43, h⟩ := ob h
      try simp only [hb41, hx42, Nat.reduceBEq, Nat.reduceMul, Nat.reduceAdd, Nat.reduceDiv, Int.reduceBEq, rules2, rulesX, rowsX]
      refine go_call (w_impl_ApplyEntry _ _ _ hr43) rfl (flat_l rfl ⟨rfl, flat_o, flat_o, rfl, trivial⟩) rfl (Nat.le_of_ble_eq_true rfl) ?_
      try simp only [hb41, hx42, Nat.reduceBEq, Nat.reduceMul, Nat.reduceAdd, Nat.reduceDiv, Int.reduceBEq, rules2, rulesX, rowsX]
      refine go_ren' rfl rfl ?_
      try simp only [hb41, hx42, Nat.reduceBEq, Nat.reduceMul, Nat.reduceAdd, Nat.reduceDiv, Int.reduceBEq, rules2, rulesX, rowsX]
      refine go_ren' rfl rfl ?_
      try simp only [hb41, hx42, Nat.reduceBEq, Nat.reduceMul, Nat.reduceAdd, Nat.reduceDiv, Int.reduceBEq, rules2, rulesX, rowsX]
      refine ih _ _ _ _ _ h _ ?_
      try simp only [hb41, hx42, Nat.reduceBEq, Nat.reduceMul, Nat.reduceAdd, Nat.reduceDiv, Int.reduceBEq, rules2, rulesX, rowsX, List.map_nil]
    · rw [ite_f hb41] at h
      obtain ⟨r44, hr44, h⟩ := ob h
      try simp only [hσ, hb41, c_laws_FnDesks_2, c_laws_FnDesks_n2, Nat.reduceBEq, Nat.reduceMul, Nat.reduceAdd, Nat.reduceDiv, Int.reduceBEq, rules2, rulesX, rowsX]
      refine go_call (w_impl_SameDesks _ _ _ hr44) rfl (flat_of rfl) rfl (Nat.le_of_ble_eq_true rfl) ?_
      rcases Bool.eq_false_or_eq_true r44 with hb45 | hb45
      · rw [ite_t hb45] at h
        obtain ⟨r46, hr46, h⟩ := ob h
        try simp only [hb41, hb45, Nat.reduceBEq, Nat.reduceMul, Nat.reduceAdd, Nat.reduceDiv, Int.reduceBEq, rules2, rulesX, rowsX]
        refine go_call (w_impl_DeskLine _ _ hr46) rfl (flat_of rfl) rfl (Nat.le_of_ble_eq_true rfl) ?_
        try simp only [hb41, hb45, Nat.reduceBEq, Nat.reduceMul, Nat.reduceAdd, Nat.reduceDiv, Int.reduceBEq, rules2, rulesX, rowsX]
        cases h
        exact ⟨⟨rfl, trivial⟩, rfl⟩
      · rw [ite_f hb45] at h
        try simp only [hb41, hb45, Nat.reduceBEq, Nat.reduceMul, Nat.reduceAdd, Nat.reduceDiv, Int.reduceBEq, rules2, rulesX, rowsX]
        cases h
        exact ⟨⟨rfl, trivial⟩, rfl⟩
theorem w_laws_FnDesks_1 (r2 : Int × (List XEntry)) (r3 : (List UInt8)) (y7 : Int) : ∀ (n : Nat) (v8 : Int) (v9 : Int) (v10 : List Int) (v11 : List Bool) (r : Bool), f_laws_FnDesks_1 r2 r3 y7 n v8 v9 v10 v11 = some r → ∀ σ : St, σ.kept [3, 4, 5, 6, 7, 39, 40, 41] [7] [2433, 2434] = ⟨[(3, vc (aI r2.1)), (4, vc (aL (List.map XEntry.row r2.2))), (5, vc (aS r3)), (6, vc (aI y7)), (7, vc (.pb 7 0)), (39, vc (aL (List.map XEntry.row r2.2))), (40, vc (aI (r2.2.length : Int))), (41, vc (aI v8))], [(7, [aI v9, .own 2433, .own 2434])], [(2433, 1, List.map rI v10), (2434, 1, List.map rB v11)]⟩ → go Tryz.prog (.code (.loop c_laws_FnDesks_1) :: [.blk 0, .code c_laws_FnDesks_n1]) (Ret [2] [.sc (.v (.bool r))]) .normal (some σ) := by
  intro n
  induction n with
  | zero => intro _ _ _ _ r h; cases h
  | succ n ih =>
    intro v8 v9 v10 v11 r h σ hσ
    rw [f_laws_FnDesks_1] at h
    refine go_round ?_
    rcases Bool.eq_false_or_eq_true (decide (v8 < (r2.2.length : Int))) with hb12 | hb12
    · rw [ite_t hb12] at h
      obtain ⟨x13, hx13, h⟩ := ob h
      try simp only [hσ, hb12, hx13, c_laws_FnDesks_1, Nat.reduceBEq, Nat.reduceMul, Nat.reduceAdd, Nat.reduceDiv, Int.reduceBEq, rules2, rulesX, rowsX]
      refine go_al rfl rfl ?_
      obtain ⟨r14, hr14, h⟩ := ob h
      try simp only [hb12, hx13, Nat.reduceBEq, Nat.reduceMul, Nat.reduceAdd, Nat.reduceDiv, Int.reduceBEq, rules2, rulesX, rowsX]
      refine go_call (w_impl_ApplyEntry _ _ _ hr14) rfl (flat_l rfl ⟨rfl, flat_o, flat_o, rfl, trivial⟩) rfl (Nat.le_of_ble_eq_true rfl) ?_
      try simp only [hb12, hx13, Nat.reduceBEq, Nat.reduceMul, Nat.reduceAdd, Nat.reduceDiv, Int.reduceBEq, rules2, rulesX, rowsX]
      refine go_al rfl rfl ?_
      obtain ⟨r15, hr15, h⟩ := ob h
      try simp only [hb12, hx13, Nat.reduceBEq, Nat.reduceMul, Nat.reduceAdd, Nat.reduceDiv, Int.reduceBEq, rules2, rulesX, rowsX]
      refine go_callI (w_impl_FormatEntry _ _ hr15) rfl rfl (Nat.le_of_ble_eq_true rfl) ?_
      obtain ⟨r16, hr16, h⟩ := ob h
      try simp only [hb12, hx13, Nat.reduceBEq, Nat.reduceMul, Nat.reduceAdd, Nat.reduceDiv, Int.reduceBEq, rules2, rulesX, rowsX]
      refine go_callI (w_impl_ParseEntry _ _ hr16) rfl rfl (Nat.le_of_ble_eq_true rfl) ?_
      try simp only [hb12, hx13, Nat.reduceBEq, Nat.reduceMul, Nat.reduceAdd, Nat.reduceDiv, Int.reduceBEq, rules2, rulesX, rowsX]
      refine go_al rfl rfl ?_
      rcases Bool.eq_false_or_eq_true r14.2 with hb17 | hb17
      · rw [ite_t hb17] at h
        rcases Bool.eq_false_or_eq_true r16.2 with hb18 | hb18
        · rw [ite_t hb18] at h
          rcases Bool.eq_false_or_eq_true ((r16.1.Kind == x13.Kind) && ((r16.1.At == x13.At) && ((r16.1.Call == x13.Call) && ((r16.1.Value == x13.Value) && true)))) with hb19 | hb19
          · rw [ite_t hb19] at h
            obtain ⟨r20, hr20, h⟩ := ob h
            try simp only [hb12, hx13, hb17, hb18, hb19, Nat.reduceBEq, Nat.reduceMul, Nat.reduceAdd, Nat.reduceDiv, Int.reduceBEq, rules2, rulesX, rowsX]
            refine go_call (w_impl_DeskOk _ _ hr20) rfl (flat_of rfl) rfl (Nat.le_of_ble_eq_true rfl) ?_
            rcases Bool.eq_false_or_eq_true r20 with hb21 | hb21
            · rw [ite_t hb21] at h
              rcases Bool.eq_false_or_eq_true (r14.1.Now != x13.At) with hb22 | hb22
              · rw [ite_t hb22] at h
                try simp only [hb12, hx13, hb17, hb18, hb19, hb21, hb22, Nat.reduceBEq, Nat.reduceMul, Nat.reduceAdd, Nat.reduceDiv, Int.reduceBEq, rules2, rulesX, rowsX]
                cases h
                exact ⟨⟨rfl, trivial⟩, rfl⟩
              · rw [ite_f hb22] at h
                try simp only [hb12, hx13, hb17, hb18, hb19, hb21, hb22, Nat.reduceBEq, Nat.reduceMul, Nat.reduceAdd, Nat.reduceDiv, Int.reduceBEq, rules2, rulesX, rowsX]
                refine go_ren' rfl rfl ?_
                try simp only [hb12, hx13, hb17, hb18, hb19, hb21, hb22, Nat.reduceBEq, Nat.reduceMul, Nat.reduceAdd, Nat.reduceDiv, Int.reduceBEq, rules2, rulesX, rowsX]
                refine go_ren' rfl rfl ?_
                try simp only [hb12, hx13, hb17, hb18, hb19, hb21, hb22, Nat.reduceBEq, Nat.reduceMul, Nat.reduceAdd, Nat.reduceDiv, Int.reduceBEq, rules2, rulesX, rowsX]
                refine ih _ _ _ _ _ h _ ?_
                try simp only [hb12, hx13, hb17, hb18, hb19, hb21, hb22, Nat.reduceBEq, Nat.reduceMul, Nat.reduceAdd, Nat.reduceDiv, Int.reduceBEq, rules2, rulesX, rowsX, List.map_nil]
            · rw [ite_f hb21] at h
              try simp only [hb12, hx13, hb17, hb18, hb19, hb21, Nat.reduceBEq, Nat.reduceMul, Nat.reduceAdd, Nat.reduceDiv, Int.reduceBEq, rules2, rulesX, rowsX]
              cases h
              exact ⟨⟨rfl, trivial⟩, rfl⟩
          · rw [ite_f hb19] at h
            try simp only [hb12, hx13, hb17, hb18, hb19, Nat.reduceBEq, Nat.reduceMul, Nat.reduceAdd, Nat.reduceDiv, Int.reduceBEq, rules2, rulesX, rowsX]
            cases h
            exact ⟨⟨rfl, trivial⟩, rfl⟩
        · rw [ite_f hb18] at h
          try simp only [hb12, hx13, hb17, hb18, Nat.reduceBEq, Nat.reduceMul, Nat.reduceAdd, Nat.reduceDiv, Int.reduceBEq, rules2, rulesX, rowsX]
          cases h
          exact ⟨⟨rfl, trivial⟩, rfl⟩
      · rw [ite_f hb17] at h
        try simp only [hb12, hx13, hb17, Nat.reduceBEq, Nat.reduceMul, Nat.reduceAdd, Nat.reduceDiv, Int.reduceBEq, rules2, rulesX, rowsX]
        cases h
        exact ⟨⟨rfl, trivial⟩, rfl⟩
    · rw [ite_f hb12] at h
      obtain ⟨r23, hr23, h⟩ := ob h
      try simp only [hσ, hb12, c_laws_FnDesks_1, c_laws_FnDesks_n1, Nat.reduceBEq, Nat.reduceMul, Nat.reduceAdd, Nat.reduceDiv, Int.reduceBEq, rules2, rulesX, rowsX]
      refine go_callI (w_impl_RebuildDesk _ _ _ hr23) rfl rfl (Nat.le_of_ble_eq_true rfl) ?_
      try simp only [hb12, Nat.reduceBEq, Nat.reduceMul, Nat.reduceAdd, Nat.reduceDiv, Int.reduceBEq, rules2, rulesX, rowsX]
      refine go_al rfl rfl ?_
      obtain ⟨p24, hp24, h⟩ := ob h
      obtain ⟨r25, hr25, h⟩ := ob h
      try simp only [hb12, hp24, Nat.reduceBEq, Nat.reduceMul, Nat.reduceAdd, Nat.reduceDiv, Int.reduceBEq, rules2, rulesX, rowsX]
      refine go_callI (w_impl_RebuildDesk _ _ _ hr25) rfl rfl (Nat.le_of_ble_eq_true rfl) ?_
      try simp only [hb12, hp24, Nat.reduceBEq, Nat.reduceMul, Nat.reduceAdd, Nat.reduceDiv, Int.reduceBEq, rules2, rulesX, rowsX]
      refine go_al rfl rfl ?_
      rcases Bool.eq_false_or_eq_true (r23.2 != (r2.2.length : Int)) with hb26 | hb26
      · rw [ite_t hb26] at h
        try simp only [hb12, hp24, hb26, Nat.reduceBEq, Nat.reduceMul, Nat.reduceAdd, Nat.reduceDiv, Int.reduceBEq, rules2, rulesX, rowsX]
        cases h
        exact ⟨⟨rfl, trivial⟩, rfl⟩
      · rw [ite_f hb26] at h
        obtain ⟨r27, hr27, h⟩ := ob h
        try simp only [hb12, hp24, hb26, Nat.reduceBEq, Nat.reduceMul, Nat.reduceAdd, Nat.reduceDiv, Int.reduceBEq, rules2, rulesX, rowsX]
        refine go_call (w_impl_SameDesks _ _ _ hr27) rfl (flat_of rfl) rfl (Nat.le_of_ble_eq_true rfl) ?_
        rcases Bool.eq_false_or_eq_true r27 with hb28 | hb28
        · rw [ite_t hb28] at h
          rcases Bool.eq_false_or_eq_true (decide (r25.2 < (0 : Int))) with hb29 | hb29
          · rw [ite_t hb29] at h
            try simp only [hb12, hp24, hb26, hb28, hb29, Nat.reduceBEq, Nat.reduceMul, Nat.reduceAdd, Nat.reduceDiv, Int.reduceBEq, rules2, rulesX, rowsX]
            cases h
            exact ⟨⟨rfl, trivial⟩, rfl⟩
          · rw [ite_f hb29] at h
            rcases Bool.eq_false_or_eq_true (decide (r23.2 < r25.2)) with hb30 | hb30
            · rw [ite_t hb30] at h
              try simp only [hb12, hp24, hb26, hb28, hb29, hb30, Nat.reduceBEq, Nat.reduceMul, Nat.reduceAdd, Nat.reduceDiv, Int.reduceBEq, rules2, rulesX, rowsX]
              cases h
              exact ⟨⟨rfl, trivial⟩, rfl⟩
            · rw [ite_f hb30] at h
              obtain ⟨r31, hr31, h⟩ := ob h
              try simp only [hb12, hp24, hb26, hb28, hb29, hb30, Nat.reduceBEq, Nat.reduceMul, Nat.reduceAdd, Nat.reduceDiv, Int.reduceBEq, rules2, rulesX, rowsX]
              refine go_call (w_impl_DeskOk _ _ hr31) rfl (flat_of rfl) rfl (Nat.le_of_ble_eq_true rfl) ?_
              rcases Bool.eq_false_or_eq_true r31 with hb32 | hb32
              · rw [ite_t hb32] at h
                obtain ⟨r33, hr33, h⟩ := ob h
                try simp only [hb12, hp24, hb26, hb28, hb29, hb30, hb32, Nat.reduceBEq, Nat.reduceMul, Nat.reduceAdd, Nat.reduceDiv, Int.reduceBEq, rules2, rulesX, rowsX]
                refine go_callI (w_impl_DeskNew _ _ hr33) rfl rfl (Nat.le_of_ble_eq_true rfl) ?_
                try simp only [hb12, hp24, hb26, hb28, hb29, hb30, hb32, Nat.reduceBEq, Nat.reduceMul, Nat.reduceAdd, Nat.reduceDiv, Int.reduceBEq, rules2, rulesX, rowsX]
                refine go_al rfl rfl ?_
                obtain ⟨p34, hp34, h⟩ := ob h
                try simp only [hb12, hp24, hb26, hb28, hb29, hb30, hb32, hp34, Nat.reduceBEq, Nat.reduceMul, Nat.reduceAdd, Nat.reduceDiv, Int.reduceBEq, rules2, rulesX, rowsX]
                refine w_laws_FnDesks_2 _ _ _ _ _ _ _ _ _ h _ ?_
                try simp only [hb12, hp24, hb26, hb28, hb29, hb30, hb32, hp34, Nat.reduceBEq, Nat.reduceMul, Nat.reduceAdd, Nat.reduceDiv, Int.reduceBEq, rules2, rulesX, rowsX, List.map_nil]
              · rw [ite_f hb32] at h
                try simp only [hb12, hp24, hb26, hb28, hb29, hb30, hb32, Nat.reduceBEq, Nat.reduceMul, Nat.reduceAdd, Nat.reduceDiv, Int.reduceBEq, rules2, rulesX, rowsX]
                cases h
                exact ⟨⟨rfl, trivial⟩, rfl⟩
        · rw [ite_f hb28] at h
          try simp only [hb12, hp24, hb26, hb28, Nat.reduceBEq, Nat.reduceMul, Nat.reduceAdd, Nat.reduceDiv, Int.reduceBEq, rules2, rulesX, rowsX]
          cases h
          exact ⟨⟨rfl, trivial⟩, rfl⟩
theorem e_laws_FnDesks : entry Tryz.prog 3 = some (c_laws_FnDesks.strip, [2], 145) := by kernel_rfl
theorem w_laws_FnDesks (a0 : List Int) (r : Bool) (h : f_laws_FnDesks a0 = some r) : FC Tryz.prog 3 [.sc (.sl (List.map r8 a0))] [.sc (.v (.bool r))] := by
  unfold f_laws_FnDesks at h
  refine FC_go (σ := ⟨[(0, vc (aL (List.map r8 a0)))], [], []⟩) mixed e_laws_FnDesks rfl rfl ?_
  simp only [c_laws_FnDesks]
  rcases Bool.eq_false_or_eq_true (decide ((1048576 : Int) < (a0.length : Int))) with hb1 | hb1
  · rw [ite_t hb1] at h
    try simp only [hb1, Nat.reduceBEq, Nat.reduceMul, Nat.reduceAdd, Nat.reduceDiv, Int.reduceBEq, rules2, rulesX, rowsX]
    cases h
    exact ⟨⟨rfl, trivial⟩, rfl⟩
  · rw [ite_f hb1] at h
    obtain ⟨r2, hr2, h⟩ := ob h
    try simp only [hb1, Nat.reduceBEq, Nat.reduceMul, Nat.reduceAdd, Nat.reduceDiv, Int.reduceBEq, rules2, rulesX, rowsX]
    refine go_callI (w_spec_MakeJournal _ _ hr2) rfl rfl (Nat.le_of_ble_eq_true rfl) ?_
    obtain ⟨r3, hr3, h⟩ := ob h
    try simp only [hb1, Nat.reduceBEq, Nat.reduceMul, Nat.reduceAdd, Nat.reduceDiv, Int.reduceBEq, rules2, rulesX, rowsX]
    refine go_callI (w_impl_JournalText _ _ hr3) rfl rfl (Nat.le_of_ble_eq_true rfl) ?_
    obtain ⟨r4, hr4, h⟩ := ob h
    try simp only [hb1, Nat.reduceBEq, Nat.reduceMul, Nat.reduceAdd, Nat.reduceDiv, Int.reduceBEq, rules2, rulesX, rowsX]
    refine go_callI (w_spec_MakeNum _ _ _ hr4) rfl rfl (Nat.le_of_ble_eq_true rfl) ?_
    obtain ⟨hg5, h⟩ := of_guardn h
    obtain ⟨r6, hr6, h⟩ := ob h
    try simp only [hb1, hg5, Nat.reduceBEq, Nat.reduceMul, Nat.reduceAdd, Nat.reduceDiv, Int.reduceBEq, rules2, rulesX, rowsX]
    refine go_callI (w_impl_DeskNew _ _ hr6) rfl rfl (Nat.le_of_ble_eq_true rfl) ?_
    try simp only [hb1, hg5, Nat.reduceBEq, Nat.reduceMul, Nat.reduceAdd, Nat.reduceDiv, Int.reduceBEq, rules2, rulesX, rowsX]
    refine go_al rfl rfl ?_
    try simp only [hb1, hg5, Nat.reduceBEq, Nat.reduceMul, Nat.reduceAdd, Nat.reduceDiv, Int.reduceBEq, rules2, rulesX, rowsX]
    refine w_laws_FnDesks_1 _ _ _ _ _ _ _ _ _ h _ ?_
    try simp only [hb1, hg5, Nat.reduceBEq, Nat.reduceMul, Nat.reduceAdd, Nat.reduceDiv, Int.reduceBEq, rules2, rulesX, rowsX, List.map_nil]
end Go.Vi
