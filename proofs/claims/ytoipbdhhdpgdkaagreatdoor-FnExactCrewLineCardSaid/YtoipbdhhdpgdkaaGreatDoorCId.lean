/-
  Plain laws: the tables of who can perform which duties, by rows of truth values and by masks. No condition.
-/
import Derived.Test.YtoipbdhhdpgdkaaGreatDoorCIc
namespace Go.Vi
open Go.Lib
set_option linter.unusedSimpArgs false
set_option linter.unusedVariables false
theorem app_ok {n m b : Nat} (h : n + m ≤ 1000000) (hb : b ≤ 100) : appB n m b = true := by
 unfold appB
 have : (n + m) * b ≤ 1000000 * 100 := Nat.mul_le_mul h hb
 simp
 omega
def nn (ms : List Nat) : List Int := ms.map fun x : Nat => (x : Int)
theorem nn_len (ms : List Nat) : (nn ms).length = ms.length := by simp [nn]
theorem nn_ix {ms : List Nat} {i : Nat} (h : i < ms.length) : ix (nn ms) (i : Int) = some ((ms[i] : Nat) : Int) := by
 rw [ix_nn,nn,List.getElem?_map,List.getElem?_eq_getElem h]; rfl
theorem nn_set (ms : List Nat) (i a : Nat) : (nn ms).set i (a : Int) = nn (ms.set i a) := by simp [nn,List.map_set]
theorem nn_app (ms : List Nat) (a : Nat) : nn ms ++ [(a : Int)] = nn (ms ++ [a]) := by simp [nn]
section
variable {p : Int} {m : List Int} {l : List XDuty}
theorem both_at {i k : Nat} (hi : i < l.length) (hk : k < l.length) : both p m l i k = (fol p m l[i] l[k] || fol p m l[k] l[i]) := by
 unfold both
 rw [List.getElem?_eq_getElem hi,List.getElem?_eq_getElem hk]
def rowsB (p : Int) (m : List Int) (l : List XDuty) : List (List Bool) := l.map fun d => l.map fun e => fol p m d e || fol p m e d
theorem rowsB_at {i k : Nat} (hi : i < l.length) (hk : k < l.length) : ∃ x,ix (rowsB p m l) (i : Int) = some x ∧ ix x (k : Int) = some (both p m l i k) := by
 refine ⟨l.map fun e => fol p m l[i] e || fol p m e l[i],?_,?_⟩
 ·rw [ix_nn,rowsB,List.getElem?_map,List.getElem?_eq_getElem hi]; rfl
 ·rw [ix_nn,List.getElem?_map,List.getElem?_eq_getElem hk,both_at hi hk]; rfl
theorem spec_Both_eq (hl : m.length ≤ maxLen) (ht : tabOk p m = true) (hd : ∀ d ∈ l,dutyOk d = true) (hN : l.length ≤ 12) : f_spec_l13Both p m l = some (rowsB p m l) := by
 have hm : l.length ≤ maxLen := by rw [maxLen_val]; omega
 unfold f_spec_l13Both
 refine push_loop (L := f_spec_l13Both_1 p m l) l (fun d => l.map fun e => fol p m d e || fol p m e d) some hm (fun n i acc h ha => ?_) (fun n acc ha => by simp [f_spec_l13Both_1])
 rw [f_spec_l13Both_1,dec_nn,if_pos (by simpa using h),ix_at h,Option.bind_some]
 rw [push_loop (L := f_spec_l13Both_2 p m l (i : Int) l[i] acc (f_spec_l13Both_1 p m l n)) l (fun e => fol p m l[i] e || fol p m e l[i]) (fun row => f_spec_l13Both_1 p m l n (IntKind.i64.wrap ((i : Int) + 1)) (acc ++ [row])) hm (fun n2 k acc2 hk ha2 => ?_) (fun n2 acc2 ha2 => ?_)]
 ·rw [f_spec_l13Both_2,dec_nn,if_pos (by simpa using hk),ix_at hk,Option.bind_some,spec_follow_eq hl ht (hd _ (List.getElem_mem h)) (hd _ (List.getElem_mem hk)),Option.bind_some,spec_follow_eq hl ht (hd _ (List.getElem_mem hk)) (hd _ (List.getElem_mem h))]
  have a1 : ∀ b : Bool,appB acc2.length [b].length 1 = true := fun b => app_ok (by simp; omega) (by omega)
  cases fol p m l[i] l[k] with
  | true => rw [if_pos rfl,if_pos (a1 true)]; rfl
  | false => rw [if_neg (by simp),Option.bind_some,if_pos (a1 _)]; rfl
 ·rw [f_spec_l13Both_2,if_neg (by simp),if_pos (app_ok (by simp; omega) (by omega))]
def adj (p : Int) (m : List Int) (l : List XDuty) (i j : Nat) : Bool := decide (j < l.length) && (decide (i ≠ j) && both p m l i j)
theorem part_inner (hl : m.length ≤ maxLen) (ht : tabOk p m = true) (hd : ∀ d ∈ l,dutyOk d = true) (hN : l.length ≤ 12) (K : Int → List Int → Option (List Int)) {i : Nat} (hi : i < l.length) (ms : List Nat) (hms : ms.length = l.length) :
  ∀ (r k n a : Nat),k + r = l.length → r < n → (∀ j,a.testBit j = (decide (j < k) && (decide (i ≠ j) && both p m l i j))) →
   ∃ q,(∀ j,q.testBit j = adj p m l i j) ∧ f_impl_partners_2 p m l (i : Int) l[i] K n (k : Int) (nn (ms.set i a)) = K (IntKind.i64.wrap ((i : Int) + 1)) (nn (ms.set i q)) := by
 have hm : l.length ≤ maxLen := by rw [maxLen_val]; omega
 intro r
 induction r with
 | zero =>
  intro k n a hk hn ha
  obtain ⟨n,rfl⟩ : ∃ n',n = n' + 1 := ⟨n - 1,by omega⟩
  refine ⟨a,fun j => ?_,?_⟩
  ·rw [ha,show k = l.length by omega]; rfl
  ·rw [f_impl_partners_2,if_neg (by simp; omega)]
 | succ r ih =>
  intro k n a hk hn ha
  obtain ⟨n,rfl⟩ : ∃ n',n = n' + 1 := ⟨n - 1,by omega⟩
  have hlt : k < l.length := by omega
  have a12 : a < 2 ^ 12 := lt_of_bits fun j hj => by
   rw [ha,Bool.and_eq_true,decide_eq_true_eq] at hj; omega
  have step : ∀ v : Bool,v = (decide (i ≠ k) && both p m l i k) → ∃ q,(∀ j,q.testBit j = adj p m l i j) ∧ f_impl_partners_3 p m l (i : Int) (k : Int) l[i] (nn (ms.set i a)) (f_impl_partners_2 p m l (i : Int) l[i] K n) v = K (IntKind.i64.wrap ((i : Int) + 1)) (nn (ms.set i q)) := by
   intro v hv
   unfold f_impl_partners_3
   cases v with
   | true =>
    rw [if_pos rfl,nn_ix (by simp; omega),Option.bind_some,if_neg (by simp),shl_u64 (by omega),List.getElem_set_self]
    have h12 : 2 ^ k < 2 ^ 64 := Nat.pow_lt_pow_right (by omega) (by omega)
    rw [or_u64 (Nat.lt_trans a12 (by decide)) h12,Int.toNat_natCast,nn_set,List.set_set,wrapS hlt hm]
    refine ih (k + 1) n _ (by omega) (by omega) fun j => ?_
    rw [Nat.testBit_or,ha,tb_pow]
    by_cases hjk : k = j
    ·subst hjk
     have hx : ¬ i = k ∧ both p m l i k = true := by simpa using hv.symm
     simp [hx.1,hx.2]
    ·have e : decide (j < k + 1) = decide (j < k) := decide_eq_decide.2 (by omega)
     rw [e]
     simp [hjk]
   | false =>
    rw [if_neg (by simp),wrapS hlt hm]
    refine ih (k + 1) n a (by omega) (by omega) fun j => ?_
    rw [ha]
    by_cases hjk : k = j
    ·subst hjk
     rw [← hv]
     simp
    ·have e : decide (j < k + 1) = decide (j < k) := decide_eq_decide.2 (by omega)
     rw [e]
  rw [f_impl_partners_2,dec_nn,if_pos (by simpa using hlt),ix_at hlt,Option.bind_some]
  by_cases hik : i = k
  ·subst hik
   rw [if_neg (by simp)]
   exact step false (by simp)
  ·have hne : ((i : Int) != (k : Int)) = true := by simp; omega
   rw [if_pos hne,impl_follow_eq hl ht (hd _ (List.getElem_mem hi)) (hd _ (List.getElem_mem hlt)),Option.bind_some]
   have hb := both_at (p := p) (m := m) hi hlt
   cases hf : fol p m l[i] l[k] with
   | true =>
    rw [if_pos rfl]
    exact step true (by rw [hb,hf]; simp [hik])
   | false =>
    rw [if_neg (by simp),impl_follow_eq hl ht (hd _ (List.getElem_mem hlt)) (hd _ (List.getElem_mem hi)),Option.bind_some]
    exact step _ (by rw [hb,hf]; simp [hik])
theorem impl_partners_eq (hl : m.length ≤ maxLen) (ht : tabOk p m = true) (hd : ∀ d ∈ l,dutyOk d = true) (hN : l.length ≤ 12) : ∃ ms : List Nat,ms.length = l.length ∧ (∀ i j : Nat,i < l.length → (ms[i]?.getD 0).testBit j = adj p m l i j) ∧ f_impl_partners p m l = some (nn ms) := by
 have hm : l.length ≤ maxLen := by rw [maxLen_val]; omega
 have key : ∀ (r i n : Nat) (ms : List Nat),i + r = l.length → r < n → ms.length = l.length → (∀ i' j : Nat,i' < i → (ms[i']?.getD 0).testBit j = adj p m l i' j) → (∀ i' : Nat,i ≤ i' → ms[i']?.getD 0 = 0) →
   ∃ ms' : List Nat,ms'.length = l.length ∧ (∀ i j : Nat,i < l.length → (ms'[i]?.getD 0).testBit j = adj p m l i j) ∧ f_impl_partners_1 p m l n (i : Int) (nn ms) = some (nn ms') := by
  intro r
  induction r with
  | zero =>
   intro i n ms hi hn hms h1 h2
   obtain ⟨n,rfl⟩ : ∃ n',n = n' + 1 := ⟨n - 1,by omega⟩
   exact ⟨ms,hms,fun i' j h => h1 i' j (by omega),by rw [f_impl_partners_1,if_neg (by simp; omega)]⟩
  | succ r ih =>
   intro i n ms hi hn hms h1 h2
   obtain ⟨n,rfl⟩ : ∃ n',n = n' + 1 := ⟨n - 1,by omega⟩
   have hlt : i < l.length := by omega
   obtain ⟨q,hq,e⟩ := part_inner hl ht hd hN (f_impl_partners_1 p m l n) hlt ms hms l.length 0 bigN 0 (by omega) (lt_bigN hm) (fun j => by simp)
   have e0 : ms.set i 0 = ms := by
    have h3 := h2 i (Nat.le_refl _)
    rw [List.getElem?_eq_getElem (by omega)] at h3
    have h3 : ms[i]'(by omega) = 0 := h3
    apply List.ext_getElem (by simp)
    intro j hj1 hj2
    by_cases hij : i = j
    ·subst hij; simp [h3]
    ·rw [List.getElem_set_ne hij]
   rw [e0] at e
   rw [f_impl_partners_1,dec_nn,if_pos (by simpa using hlt),ix_at hlt,Option.bind_some]
   have e : f_impl_partners_2 p m l (i : Int) l[i] (f_impl_partners_1 p m l n) bigN 0 (nn ms) = _ := e
   rw [e,wrapS hlt hm]
   refine ih (i + 1) n (ms.set i q) (by omega) (by omega) (by simpa using hms) (fun i' j h => ?_) (fun i' h => ?_)
   ·by_cases hii : i = i'
    ·subst hii
     rw [List.getElem?_set_self (by omega)]
     exact hq j
    ·rw [List.getElem?_set_ne hii]
     exact h1 i' j (by omega)
   ·rw [List.getElem?_set_ne (by omega)]
    exact h2 i' (by omega)
 unfold f_impl_partners
 rw [mkS_len (by omega) (by omega),Option.bind_some]
 have hz : List.replicate l.length (0 : Int) = nn (List.replicate l.length 0) := by simp [nn]
 rw [hz]
 exact key l.length 0 bigN _ (by omega) (lt_bigN hm) (by simp) (fun i' j h => by omega) (fun i' h => by
  rw [List.getElem?_replicate]
  split <;> rfl)
end
end Go.Vi
