/-
  Plain laws of numerals: what Go's library makes of numbers and texts, and back. No condition.
-/
import Derived.Lib.ItoaMem
import Derived.Lib.ItoaLen
import Derived.Lib.AtoiAll
import Derived.Lib.Join
import Derived.Lib.Bytealg
namespace Go.Vi
open Go.Lib
def i64 (n : Int) : Prop := -9223372036854775808 ≤ n ∧ n ≤ 9223372036854775807
instance (n : Int) : Decidable (i64 n) := by unfold i64; infer_instance
def f_strconv_Itoa (n : Int) : Option (List UInt8) := if i64 n then some (itoa n) else none
def parseN (s : List UInt8) : Int × Bool := match atoiAll s with
 | .ok v => if itoa v = s then (v,true) else (0,false)
 | _ => (0,false)
def f_impl_ParseInt (s : List UInt8) : Option (Int × Bool) := if s.length ≤ 281474976710656 then some (parseN s) else none
def f_strings_Join (l : List (List UInt8)) (sep : List UInt8) : Option (List UInt8) := if l.length ≤ 140737488355328 ∧ (join l sep).length ≤ 140737488355328 then some (join l sep) else none
def f_strings_IndexByte (s : List UInt8) (c : Int) : Option Int := some (indexByte s c.toNat.toUInt8)
def isDig (c : UInt8) : Bool := decide (48 ≤ c.toNat ∧ c.toNat ≤ 57)
def val (l : List UInt8) : Nat := l.foldl (fun a c => a * 10 + (c.toNat - 48)) 0
theorem val_snoc (l : List UInt8) (c : UInt8) : val (l ++ [c]) = val l * 10 + (c.toNat - 48) := by simp [val]
theorem dig_nat {i : Nat} (h : i < 10) : (UInt8.ofNat (48 + i)).toNat = 48 + i := by
 rw [UInt8.toNat_ofNat']; omega
theorem decDigits_big {u : Nat} (h : ¬ u < 10) : decDigits u = decDigits (u / 10) ++ [UInt8.ofNat (48 + u % 10)] := by rw [decDigits,dif_neg h]
theorem decDigits_dig (u : Nat) : ∀ c ∈ decDigits u,isDig c = true := by
 induction u using Nat.strongRecOn with
 | _ u ih =>
  intro c hc
  by_cases h : u < 10
  ·rw [decDigits_one h] at hc
   simp only [List.mem_singleton] at hc
   subst hc
   simp only [isDig,dig_nat h,decide_eq_true_eq]; omega
  ·rw [decDigits_big h,List.mem_append,List.mem_singleton] at hc
   rcases hc with hc | hc
   ·exact ih (u / 10) (by omega) c hc
   ·subst hc
    have h10 : u % 10 < 10 := by omega
    simp only [isDig,dig_nat h10,decide_eq_true_eq]; omega
theorem decDigits_ne (u : Nat) : decDigits u ≠ [] := by
 intro h
 have := decDigits_length u
 rw [h] at this
 have := nDigits_pos u
 simp at *
 omega
theorem val_decDigits (u : Nat) : val (decDigits u) = u := by
 induction u using Nat.strongRecOn with
 | _ u ih =>
  by_cases h : u < 10
  ·rw [decDigits_one h]
   simp only [val,List.foldl_cons,List.foldl_nil,dig_nat h]
   omega
  ·rw [decDigits_big h,val_snoc,ih (u / 10) (by omega),dig_nat (by omega)]
   omega
theorem decDigits_inj {u v : Nat} (h : decDigits u = decDigits v) : u = v := by rw [← val_decDigits u,h,val_decDigits]
theorem dig_ne_minus {c : UInt8} (h : isDig c = true) : c ≠ 45 := by
 rintro rfl
 simp [isDig] at h
theorem decDigits_head (u : Nat) : ∃ c r,decDigits u = c :: r ∧ isDig c = true := by
 cases hd : decDigits u with
 | nil => exact absurd hd (decDigits_ne u)
 | cons c r => exact ⟨c,r,rfl,decDigits_dig u c (by rw [hd]; simp)⟩
theorem itoa_inj {m n : Int} (h : itoa m = itoa n) : m = n := by
 unfold itoa at h
 obtain ⟨c,r,hc,hd⟩ := decDigits_head m.toNat
 obtain ⟨c',r',hc',hd'⟩ := decDigits_head n.toNat
 split at h <;> split at h
 ·have := decDigits_inj (List.cons.inj h).2; omega
 ·rw [hc'] at h
  exact absurd (List.cons.inj h).1.symm (dig_ne_minus hd')
 ·rw [hc] at h
  exact absurd (List.cons.inj h).1 (dig_ne_minus hd)
 ·have := decDigits_inj h; omega
theorem parseUint10_append (r : List UInt8) : ∀ (l : List UInt8) (acc : Nat),parseUint10 acc (l ++ r) = match parseUint10 acc l with | .ok a => parseUint10 a r | e => e
 | [],acc => by simp [parseUint10]
 | c :: l,acc => by
  simp only [List.cons_append,parseUint10]
  split
  ·split
   ·rfl
   ·split
    ·rfl
    ·exact parseUint10_append r l _
  ·rfl
theorem parseUint10_dec (u : Nat) (h : u < 18446744073709551616) : parseUint10 0 (decDigits u) = .ok u := by
 induction u using Nat.strongRecOn with
 | _ u ih =>
  by_cases h9 : u < 10
  ·rw [decDigits_one h9]
   have e := dig_nat h9
   simp only [parseUint10,e]
   rw [if_pos (by omega),if_neg (by omega),if_neg (by omega)]
   congr 1; omega
  ·rw [decDigits_big h9,parseUint10_append,ih (u / 10) (by omega) (by omega)]
   have e := dig_nat (show u % 10 < 10 by omega)
   simp only [parseUint10,e]
   rw [if_pos (by omega),if_neg (by omega),if_neg (by omega)]
   congr 1; omega
theorem dig_nat45 {c : UInt8} (h : isDig c = true) : c.toNat ≠ 45 ∧ c.toNat ≠ 43 := by
 simp only [isDig,decide_eq_true_eq] at h; omega
theorem parseMag_dec (u : Nat) (h : u < 18446744073709551616) : parseMag (decDigits u) = .ok u := by
 unfold parseMag; rw [if_neg (decDigits_ne u),parseUint10_dec u h]
theorem atoiAll_itoa {n : Int} (h : i64 n) : atoiAll (itoa n) = .ok n := by
 obtain ⟨h1,h2⟩ := h
 unfold itoa
 by_cases hn : n < 0
 ·rw [if_pos hn]
  have e : (45 : UInt8).toNat = 45 := rfl
  simp only [atoiAll,e]
  rw [if_pos (Or.inr trivial),parseMag_dec _ (by omega)]
  simp only [not_true,false_and,if_false,true_and]
  rw [if_neg (by omega)]
  simp only [if_true]
  congr 1; omega
 ·rw [if_neg hn]
  obtain ⟨c,r,hc,hd⟩ := decDigits_head n.toNat
  have hm := parseMag_dec n.toNat (by omega)
  obtain ⟨a,b⟩ := dig_nat45 hd
  rw [hc] at hm ⊢
  simp only [atoiAll]
  rw [if_neg (by omega),hm]
  simp only [a,not_false_iff,true_and,false_and,if_false]
  rw [if_neg (by omega)]
  congr 1; omega
theorem atoiAll_i64 {s : List UInt8} {v : Int} (h : atoiAll s = .ok v) : i64 v := by
 cases s with
 | nil => simp [atoiAll] at h
 | cons c r =>
  cases hu : parseMag (if c.toNat = 43 ∨ c.toNat = 45 then r else c :: r) with
  | ok u =>
   have hlt := parseMag_lt hu
   simp only [atoiAll,hu] at h
   by_cases hn : c.toNat = 45
   ·simp only [hn,not_true,false_and,if_false,true_and,if_true] at h
    split at h
    ·cases h
    ·cases h; exact ⟨by omega,by omega⟩
   ·simp only [hn,not_false_iff,false_and,if_false,true_and] at h
    split at h
    ·cases h
    ·cases h; exact ⟨by omega,by omega⟩
  | _ => simp [atoiAll,hu] at h
theorem parseN_itoa {n : Int} (h : i64 n) : parseN (itoa n) = (n,true) := by simp [parseN,atoiAll_itoa h]
theorem parseN_none {s : List UInt8} (h : ∀ n,i64 n → itoa n ≠ s) : parseN s = (0,false) := by
 unfold parseN
 split
 ·rename_i v hv
  rw [if_neg (h v (atoiAll_i64 hv))]
 ·rfl
theorem parseN_cases (s : List UInt8) : (∃ n,i64 n ∧ itoa n = s ∧ parseN s = (n,true)) ∨ ((∀ n,i64 n → itoa n ≠ s) ∧ parseN s = (0,false)) := by
 by_cases h : ∃ n,i64 n ∧ itoa n = s
 ·obtain ⟨n,h1,h2⟩ := h
  exact .inl ⟨n,h1,h2,by rw [← h2]; exact parseN_itoa h1⟩
 ·have h' : ∀ n,i64 n → itoa n ≠ s := fun n h1 h2 => h ⟨n,h1,h2⟩
  exact .inr ⟨h',parseN_none h'⟩
theorem parseN_i64 (s : List UInt8) : i64 (parseN s).1 := by
 rcases parseN_cases s with ⟨n,h1,_,h⟩ | ⟨_,h⟩ <;> rw [h]
 ·exact h1
 ·exact ⟨by decide,by decide⟩
theorem parseN_true {s : List UInt8} (h : (parseN s).2 = true) : itoa (parseN s).1 = s := by
 rcases parseN_cases s with ⟨n,_,h2,e⟩ | ⟨_,e⟩
 ·rw [e]; exact h2
 ·rw [e] at h; cases h
theorem itoa_len {n : Int} (h : i64 n) : (itoa n).length ≤ 21 := itoa_length_le n h.1 h.2
theorem itoa_ne (n : Int) : itoa n ≠ [] := by
 unfold itoa
 split
 ·simp
 ·exact decDigits_ne _
theorem val_mono (l r : List UInt8) : val l ≤ val (l ++ r) := by
 induction r generalizing l with
 | nil => simp
 | cons c r ih =>
  have := ih (l ++ [c])
  rw [List.append_assoc,List.singleton_append] at this
  rw [val_snoc] at this
  omega
end Go.Vi
