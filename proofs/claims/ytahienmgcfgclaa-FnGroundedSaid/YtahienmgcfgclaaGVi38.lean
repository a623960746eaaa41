/-
  The value level: arrays in memory, element by element. No condition.
-/
import Derived.Test.YtahienmgcfgclaaGVi37
namespace Go.Vi
set_option linter.unusedSimpArgs false
set_option linter.unusedVariables false
set_option linter.defProp false
section
variable {P : Program} {k : List Fr} {Q : AExit → St → Prop} {σ : St} {its : List AItem}
theorem B1b {d : Nat} {x i : Opd} {len id : Nat} {kd : IntKind} {n : Int} (hx : σ.val x = .v (.sc (.pb id 0))) (hi : σ.val i = .v (.sc (.dat (.int kd n)))) (h : (decide (0 ≤ n) && decide (n < (len : Int))) = true)
  (H : go P (.ops its :: k) Q .normal (some (σ.set d (.v (.sc (.pb id n.toNat)))))) : go P (.ops ((none,.aaddr d x i len 1) :: its) :: k) Q .normal (some σ) := by
 simp only [Bool.and_eq_true,decide_eq_true_eq] at h
 rw [C8d,hx,hi]
 simp only [A76,h,and_self,if_true,Nat.zero_add,Nat.mul_one]
 exact H
end
theorem A3c {n : Int} {m : Nat} (h : (decide (0 ≤ n) && decide (n < (m : Int))) = true) : n.toNat < m := by
 simp only [Bool.and_eq_true,decide_eq_true_eq] at h
 omega
theorem B58 {cs : List AC} {n : Nat} (h : n < cs.length) : U4 cs (n + 1) = true := by
 rw [A5l]
 exact decide_eq_true h
theorem B2z {c : AC} {cs : List AC} {n : Nat} (h : n < (c :: cs).length) : U4 cs n = true := by
 rw [A5l]
 exact decide_eq_true (Nat.le_of_lt_succ h)
theorem B8t {bs : List Bool} {n : Nat} {b : Bool} (h : bs[n]? = some b) : (bs.map fun b => AC.dat (.bool b))[n]? = some (.dat (.bool b)) := by simp [h]
end Go.Vi
