/-
  Plain laws: marks that are set in a list and looked for again. No condition.
-/
import Derived.Test.YtahienmgcfgclaaDoorSVi33
namespace Go.Vi
set_option linter.unusedSimpArgs false
set_option linter.unusedVariables false
theorem wrapk {k : Int} (h0 : 0 ≤ k) (h1 : k ≤ 1000000000000) : IntKind.i64.wrap (k + 1) = k + 1 := wrap64 (by omega) (by omega)
theorem mark_loop {α : Type} {Lm : Nat → Int → Int → List α → Option (Int × List α)} {Lh : List α → Nat → Int → Int → Option Int} (xs : List α) (c : Nat) (e : Int → α) (k0 : Int) (h0 : 0 ≤ k0) (hc : c ≤ 100) (hl : xs.length ≤ 1048576) (hk : k0 ≤ 10000000000)
  (hm : ∀ (n i : Nat) (k : Int) (acc : List α),i < acc.length → acc.length ≤ 1048576 → 0 ≤ k → k ≤ 100000000000 → Lm (n + 1) k (i : Int) acc = Lm n (k + c) ((i + 1 : Nat) : Int) (acc.set i (e k)))
  (hme : ∀ (n : Nat) (k : Int) (acc : List α),Lm (n + 1) k (acc.length : Int) acc = some (k,acc))
  (hh : ∀ (n i : Nat) (k : Int) (ys : List α) (hi : i < ys.length),ys.length ≤ 1048576 → 0 ≤ k → k ≤ 100000000000 → ys[i] = e k → Lh ys (n + 1) k (i : Int) = Lh ys n (k + c) ((i + 1 : Nat) : Int))
  (hhe : ∀ (n : Nat) (k : Int) (ys : List α),Lh ys (n + 1) k (ys.length : Int) = some k) :
  ∃ ys,Lm bigN k0 0 xs = some (k0 + c * (xs.length : Int),ys) ∧ ys.length = xs.length ∧ Lh ys bigN k0 0 = some (k0 + c * (xs.length : Int)) := by
 have bnd : ∀ i : Nat,i ≤ xs.length → k0 + (c : Int) * (i : Int) ≤ 100000000000 ∧ 0 ≤ k0 + (c : Int) * (i : Int) := by
  intro i hi
  have h1 : c * i ≤ 100 * 1048576 := Nat.mul_le_mul hc (by omega)
  have h2 : ((c * i : Nat) : Int) = (c : Int) * (i : Int) := by simp
  omega
 have keym : ∀ (k i n : Nat) (acc : List α),i + k = acc.length → acc.length = xs.length → k < n → (∀ j (hj : j < acc.length),j < i → acc[j] = e (k0 + c * (j : Int))) →
   ∃ ys,Lm n (k0 + c * (i : Int)) (i : Int) acc = some (k0 + c * (xs.length : Int),ys) ∧ ys.length = xs.length ∧ ∀ j (hj : j < ys.length),ys[j] = e (k0 + c * (j : Int)) := by
  intro k
  induction k with
  | zero =>
   intro i n acc hi ha hn hj
   obtain ⟨m,rfl⟩ : ∃ m,n = m + 1 := ⟨n - 1,by omega⟩
   have : i = acc.length := by omega
   subst this
   exact ⟨acc,by rw [hme,ha],ha,fun j hj2 => hj j hj2 hj2⟩
  | succ k ih =>
   intro i n acc hi ha hn hj
   obtain ⟨m,rfl⟩ : ∃ m,n = m + 1 := ⟨n - 1,by omega⟩
   have hb := bnd i (by omega)
   rw [hm m i _ acc (by omega) (by omega) hb.2 hb.1]
   obtain ⟨ys,e1,e2,e3⟩ := ih (i + 1) m (acc.set i (e (k0 + c * (i : Int)))) (by simp; omega) (by simpa using ha) (by omega) (fun j hj2 hlt => by
    by_cases e1 : j = i
    ·subst e1; simp
    ·rw [List.getElem_set_ne (Ne.symm e1)]
     exact hj j (by simpa using hj2) (by omega))
   refine ⟨ys,?_,e2,e3⟩
   rw [← e1]
   congr 1
   rw [show (((i + 1 : Nat) : Int)) = (i : Int) + 1 from rfl,Int.mul_add,Int.mul_one]
   omega
 obtain ⟨ys,e1,e2,e3⟩ := keym xs.length 0 bigN xs (by omega) rfl (lt_bigN (by rw [maxLen_val]; omega)) (fun j _ h => by omega)
 have keyh : ∀ (k i n : Nat),i + k = ys.length → k < n → Lh ys n (k0 + c * (i : Int)) (i : Int) = some (k0 + c * (xs.length : Int)) := by
  intro k
  induction k with
  | zero =>
   intro i n hi hn
   obtain ⟨m,rfl⟩ : ∃ m,n = m + 1 := ⟨n - 1,by omega⟩
   have : i = ys.length := by omega
   subst this
   rw [hhe,e2]
  | succ k ih =>
   intro i n hi hn
   obtain ⟨m,rfl⟩ : ∃ m,n = m + 1 := ⟨n - 1,by omega⟩
   have hb := bnd i (by omega)
   rw [hh m i _ ys (by omega) (by omega) hb.2 hb.1 (e3 i (by omega))]
   rw [← ih (i + 1) m (by omega) (by omega)]
   congr 1
   rw [show (((i + 1 : Nat) : Int)) = (i : Int) + 1 from rfl,Int.mul_add,Int.mul_one]
   omega
 refine ⟨ys,?_,e2,?_⟩
 ·simpa using e1
 ·have := keyh ys.length 0 bigN (by omega) (lt_bigN (by rw [maxLen_val]; omega))
  simpa using this
end Go.Vi
