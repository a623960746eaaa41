/-
  Walks: what the plain definitions compute is what the functions return. By program. No condition.
-/
import Derived.Test.YtldjoojbhbbhdaaDoorNf
import Derived.Test.YtldjoojbhbbhdaaDoorChecked
import Derived.Test.YtldjoojbhbbhdaaDoorSh
import Derived.KernelRfl
import Derived.Test.YtldjoojbhbbhdaaDoorWParseCharta
namespace Go.Vi
open Go.Proofs
set_option linter.unusedSimpArgs false
set_option linter.unusedVariables false
set_option maxRecDepth 4000
set_option maxHeartbeats 2000000
attribute [local irreducible] go AWP
/- 5: laws_FnExactParseChart -/
def c_laws_FnExactParseChart : ACode := (.seq (.reg [(none, .mv 2 (KB false))]) (.seq (.seq (.reg [(none, .mv 11 (S 0)), (none, .slen 12 (S 11)), (none, .bin 13 .gtr (S 12) (K 1048576))]) (.cond (S 13) (.seq (.reg [(none, .mv 2 (KB true))]) .ret) .skip)) (.seq (.reg [(none, .mv 15 (S 0)), (none, .call 16 16 [(S 15)]), (none, .mv 14 (S 16)), (none, .extr 17 (S 14) 0), (none, .extr 18 (S 14) 1), (none, .alloc 3 [.nil, .nil]), (none, .store (S 3) (S 17) 2), (none, .mv 4 (S 18))]) (.seq (.reg [(none, .mv 20 (S 0)), (none, .call 21 17 [(S 20)]), (none, .mv 19 (S 21)), (none, .extr 22 (S 19) 0), (none, .extr 23 (S 19) 1), (none, .alloc 5 [.nil, .nil]), (none, .store (S 5) (S 22) 2), (none, .mv 6 (S 23))]) (.seq (.seq (.reg [(none, .load 24 (S 5) true 2), (none, .load 25 (S 3) true 2), (none, .call 26 18 [(S 24), (S 25)]), (none, .un 27 .not (S 26)), (none, .mv 28 (S 27)), (some (28, false), .mv 29 (S 6)), (some (28, false), .mv 30 (S 4)), (some (28, false), .beq 31 true (S 29) (S 30)), (none, .pick 32 (S 28) (KB true) (S 31))]) (.cond (S 32) (.seq (.reg [(none, .mv 2 (KB false))]) .ret) .skip)) (.seq (.reg [(none, .mv 7 (K 1))]) (.seq (.reg [(none, .load 33 (S 5) true 2), (none, .mv 34 (S 7)), (none, .call 35 19 [(S 33), (S 34)]), (none, .mv 7 (S 35))]) (.seq (.reg [(none, .mv 8 (K 1))]) (.seq (.reg [(none, .load 36 (S 5) true 2), (none, .mv 37 (S 8)), (none, .call 38 20 [(S 36), (S 37)]), (none, .mv 8 (S 38))]) (.seq (.seq (.reg [(none, .mv 39 (S 8)), (none, .bin 40 .lss (S 39) (K 0))]) (.cond (S 40) (.seq (.reg [(none, .mv 2 (KB false))]) .ret) .skip)) (.seq (.seq (.reg [(none, .mv 41 (S 8)), (none, .mv 42 (S 7)), (none, .bin 43 .neq (S 41) (S 42))]) (.cond (S 43) (.seq (.reg [(none, .mv 2 (KB false))]) .ret) .skip)) (.seq (.reg [(none, .mv 45 (S 0)), (none, .call 46 17 [(S 45)]), (none, .mv 44 (S 46)), (none, .extr 47 (S 44) 0), (none, .extr 48 (S 44) 1), (none, .alloc 9 [.nil, .nil]), (none, .store (S 9) (S 47) 2), (none, .mv 10 (S 48))]) (.seq (.seq (.reg [(none, .load 49 (S 9) true 2), (none, .load 50 (S 3) true 2), (none, .call 51 18 [(S 49), (S 50)]), (none, .un 52 .not (S 51)), (none, .mv 53 (S 52)), (some (53, false), .mv 54 (S 10)), (some (53, false), .mv 55 (S 4)), (some (53, false), .beq 56 true (S 54) (S 55)), (none, .pick 57 (S 53) (KB true) (S 56))]) (.cond (S 57) (.seq (.reg [(none, .mv 2 (KB false))]) .ret) .skip)) (.seq (.reg [(none, .mv 8 (K 1))]) (.seq (.reg [(none, .load 58 (S 5) true 2), (none, .mv 59 (S 8)), (none, .call 60 20 [(S 58), (S 59)]), (none, .mv 8 (S 60))]) (.seq (.seq (.reg [(none, .mv 61 (S 8)), (none, .bin 62 .lss (S 61) (K 0))]) (.cond (S 62) (.seq (.reg [(none, .mv 2 (KB false))]) .ret) .skip)) (.seq (.seq (.reg [(none, .mv 63 (S 8)), (none, .mv 64 (S 7)), (none, .bin 65 .neq (S 63) (S 64))]) (.cond (S 65) (.seq (.reg [(none, .mv 2 (KB false))]) .ret) .skip)) (.seq (.reg [(none, .mv 2 (KB true))]) .ret))))))))))))))))))
theorem e_laws_FnExactParseChart : entry Tryd.prog 5 = some (c_laws_FnExactParseChart.strip, [2], 66) := by kernel_rfl
theorem w_laws_FnExactParseChart (a0 : List UInt8) (r : Bool) (h : f_laws_FnExactParseChart a0 = some r) : FC Tryd.prog 5 [.sc (.str a0)] [.sc (.v (.bool r))] := by
  unfold f_laws_FnExactParseChart at h
  refine FC_go (σ := ⟨[(0, vc (aS a0))], [], []⟩) mixed e_laws_FnExactParseChart rfl rfl ?_
  simp only [c_laws_FnExactParseChart]
  rcases Bool.eq_false_or_eq_true (decide ((1048576 : Int) < (a0.length : Int))) with hb1 | hb1
  · rw [ite_t hb1] at h
    try simp only [hb1, Nat.reduceBEq, Nat.reduceMul, Nat.reduceAdd, Nat.reduceDiv, Int.reduceBEq, rules2, rulesX, rowsX]
    cases h
    exact ⟨⟨rfl, trivial⟩, rfl⟩
  · rw [ite_f hb1] at h
    obtain ⟨r2, hr2, h⟩ := ob h
    try simp only [hb1, Nat.reduceBEq, Nat.reduceMul, Nat.reduceAdd, Nat.reduceDiv, Int.reduceBEq, rules2, rulesX, rowsX]
    refine go_callI (w_spec_ParseChart _ _ hr2) rfl rfl (Nat.le_of_ble_eq_true rfl) ?_
    try simp only [hb1, Nat.reduceBEq, Nat.reduceMul, Nat.reduceAdd, Nat.reduceDiv, Int.reduceBEq, rules2, rulesX, rowsX]
    refine go_al rfl rfl ?_
    obtain ⟨r3, hr3, h⟩ := ob h
    try simp only [hb1, Nat.reduceBEq, Nat.reduceMul, Nat.reduceAdd, Nat.reduceDiv, Int.reduceBEq, rules2, rulesX, rowsX]
    refine go_callI (w_impl_ParseChart _ _ hr3) rfl rfl (Nat.le_of_ble_eq_true rfl) ?_
    try simp only [hb1, Nat.reduceBEq, Nat.reduceMul, Nat.reduceAdd, Nat.reduceDiv, Int.reduceBEq, rules2, rulesX, rowsX]
    refine go_al rfl rfl ?_
    obtain ⟨r4, hr4, h⟩ := ob h
    try simp only [hb1, Nat.reduceBEq, Nat.reduceMul, Nat.reduceAdd, Nat.reduceDiv, Int.reduceBEq, rules2, rulesX, rowsX]
    refine go_call (w_laws_eqChart _ _ _ hr4) rfl (flat_of rfl) rfl (Nat.le_of_ble_eq_true rfl) ?_
    rcases Bool.eq_false_or_eq_true r4 with hb5 | hb5
    · rw [ite_t hb5] at h
      rcases Bool.eq_false_or_eq_true (r3.2 == r2.2) with hb6 | hb6
      · rw [ite_t hb6] at h
        obtain ⟨r7, hr7, h⟩ := ob h
        try simp only [hb1, hb5, hb6, Nat.reduceBEq, Nat.reduceMul, Nat.reduceAdd, Nat.reduceDiv, Int.reduceBEq, rules2, rulesX, rowsX]
        have lrr7 := (l_laws_markChart _ _ _ hr7)
        refine go_callx (ids := [1344, 1345]) (w_laws_markChart _ _ _ hr7) rfl rfl rfl (flatR_cons (flatR_cons flatR_nil)) (sameLen_cons (l_laws_markChart _ _ _ hr7).1 (sameLen_cons (l_laws_markChart _ _ _ hr7).2 sameLen_nil)) ?_
        obtain ⟨r8, hr8, h⟩ := ob h
        try simp only [hb1, hb5, hb6, Nat.reduceBEq, Nat.reduceMul, Nat.reduceAdd, Nat.reduceDiv, Int.reduceBEq, rules2, rulesX, rowsX]
        refine go_call (w_laws_heldChart _ _ _ hr8) rfl (flat_of rfl) rfl (Nat.le_of_ble_eq_true rfl) ?_
        rcases Bool.eq_false_or_eq_true (decide (r8 < (0 : Int))) with hb9 | hb9
        · rw [ite_t hb9] at h
          try simp only [hb1, hb5, hb6, hb9, Nat.reduceBEq, Nat.reduceMul, Nat.reduceAdd, Nat.reduceDiv, Int.reduceBEq, rules2, rulesX, rowsX]
          cases h
          exact ⟨⟨rfl, trivial⟩, rfl⟩
        · rw [ite_f hb9] at h
          rcases Bool.eq_false_or_eq_true (r8 != r7.1) with hb10 | hb10
          · rw [ite_t hb10] at h
            try simp only [hb1, hb5, hb6, hb9, hb10, Nat.reduceBEq, Nat.reduceMul, Nat.reduceAdd, Nat.reduceDiv, Int.reduceBEq, rules2, rulesX, rowsX]
            cases h
            exact ⟨⟨rfl, trivial⟩, rfl⟩
          · rw [ite_f hb10] at h
            obtain ⟨r11, hr11, h⟩ := ob h
            try simp only [hb1, hb5, hb6, hb9, hb10, Nat.reduceBEq, Nat.reduceMul, Nat.reduceAdd, Nat.reduceDiv, Int.reduceBEq, rules2, rulesX, rowsX]
            refine go_callI (w_impl_ParseChart _ _ hr11) rfl rfl (Nat.le_of_ble_eq_true rfl) ?_
            try simp only [hb1, hb5, hb6, hb9, hb10, Nat.reduceBEq, Nat.reduceMul, Nat.reduceAdd, Nat.reduceDiv, Int.reduceBEq, rules2, rulesX, rowsX]
            refine go_al rfl rfl ?_
            obtain ⟨r12, hr12, h⟩ := ob h
            try simp only [hb1, hb5, hb6, hb9, hb10, Nat.reduceBEq, Nat.reduceMul, Nat.reduceAdd, Nat.reduceDiv, Int.reduceBEq, rules2, rulesX, rowsX]
            refine go_call (w_laws_eqChart _ _ _ hr12) rfl (flat_of rfl) rfl (Nat.le_of_ble_eq_true rfl) ?_
            rcases Bool.eq_false_or_eq_true r12 with hb13 | hb13
            · rw [ite_t hb13] at h
              rcases Bool.eq_false_or_eq_true (r11.2 == r2.2) with hb14 | hb14
              · rw [ite_t hb14] at h
                obtain ⟨r15, hr15, h⟩ := ob h
                try simp only [hb1, hb5, hb6, hb9, hb10, hb13, hb14, Nat.reduceBEq, Nat.reduceMul, Nat.reduceAdd, Nat.reduceDiv, Int.reduceBEq, rules2, rulesX, rowsX]
                refine go_call (w_laws_heldChart _ _ _ hr15) rfl (flat_of rfl) rfl (Nat.le_of_ble_eq_true rfl) ?_
                rcases Bool.eq_false_or_eq_true (decide (r15 < (0 : Int))) with hb16 | hb16
                · rw [ite_t hb16] at h
                  try simp only [hb1, hb5, hb6, hb9, hb10, hb13, hb14, hb16, Nat.reduceBEq, Nat.reduceMul, Nat.reduceAdd, Nat.reduceDiv, Int.reduceBEq, rules2, rulesX, rowsX]
                  cases h
                  exact ⟨⟨rfl, trivial⟩, rfl⟩
                · rw [ite_f hb16] at h
                  rcases Bool.eq_false_or_eq_true (r15 != r7.1) with hb17 | hb17
                  · rw [ite_t hb17] at h
                    try simp only [hb1, hb5, hb6, hb9, hb10, hb13, hb14, hb16, hb17, Nat.reduceBEq, Nat.reduceMul, Nat.reduceAdd, Nat.reduceDiv, Int.reduceBEq, rules2, rulesX, rowsX]
                    cases h
                    exact ⟨⟨rfl, trivial⟩, rfl⟩
                  · rw [ite_f hb17] at h
                    try simp only [hb1, hb5, hb6, hb9, hb10, hb13, hb14, hb16, hb17, Nat.reduceBEq, Nat.reduceMul, Nat.reduceAdd, Nat.reduceDiv, Int.reduceBEq, rules2, rulesX, rowsX]
                    cases h
                    exact ⟨⟨rfl, trivial⟩, rfl⟩
              · rw [ite_f hb14] at h
                try simp only [hb1, hb5, hb6, hb9, hb10, hb13, hb14, Nat.reduceBEq, Nat.reduceMul, Nat.reduceAdd, Nat.reduceDiv, Int.reduceBEq, rules2, rulesX, rowsX]
                cases h
                exact ⟨⟨rfl, trivial⟩, rfl⟩
            · rw [ite_f hb13] at h
              try simp only [hb1, hb5, hb6, hb9, hb10, hb13, Nat.reduceBEq, Nat.reduceMul, Nat.reduceAdd, Nat.reduceDiv, Int.reduceBEq, rules2, rulesX, rowsX]
              cases h
              exact ⟨⟨rfl, trivial⟩, rfl⟩
      · rw [ite_f hb6] at h
        try simp only [hb1, hb5, hb6, Nat.reduceBEq, Nat.reduceMul, Nat.reduceAdd, Nat.reduceDiv, Int.reduceBEq, rules2, rulesX, rowsX]
        cases h
        exact ⟨⟨rfl, trivial⟩, rfl⟩
    · rw [ite_f hb5] at h
      try simp only [hb1, hb5, Nat.reduceBEq, Nat.reduceMul, Nat.reduceAdd, Nat.reduceDiv, Int.reduceBEq, rules2, rulesX, rowsX]
      cases h
      exact ⟨⟨rfl, trivial⟩, rfl⟩
end Go.Vi
