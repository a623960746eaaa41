/-
  Plain laws: masks in machine words, the top bit; duties, and who can perform two of them. No condition.
-/
import Derived.Test.YtoipbdhhdpgdkaaGreatDoorCIb
import Derived.KernelRfl
namespace Go.Vi
open Go.Lib
set_option linter.unusedSimpArgs false
set_option linter.unusedVariables false
theorem u64_wrap {n : Int} (h0 : 0 ≤ n) (h1 : n < 18446744073709551616) : IntKind.u64.wrap n = n := by
 simp only [IntKind.wrap,IntKind.bits,IntKind.signed]
 have : n % 18446744073709551616 = n := Int.emod_eq_of_lt h0 h1
 simp [this]
theorem nat_i64 {n : Nat} (h : n < 2 ^ 63) : IntKind.i64.wrap (n : Int) = n := wrap64 (by omega) (by omega)
theorem nat_u64 {n : Nat} (h : n < 2 ^ 64) : IntKind.u64.wrap (n : Int) = n := u64_wrap (by omega) (by omega)
theorem lt_of_bits {s n : Nat} (h : ∀ i,s.testBit i = true → i < n) : s < 2 ^ n := Nat.lt_pow_two_of_testBit s fun i hi => by
 cases hb : s.testBit i with
 | false => rfl
 | true => have := h i hb; omega
theorem andn_lt {a b n : Nat} (h : a < 2 ^ n) : andn a b < 2 ^ n := lt_of_bits fun i hi => by
 rw [tb_andn,Bool.and_eq_true] at hi
 exact tb_lt h hi.1
theorem ofInt_nat {w n : Nat} (h : n < 2 ^ w) : (BitVec.ofInt w (n : Int)).toNat = n := by
 rw [BitVec.ofInt_natCast,BitVec.toNat_ofNat,Nat.mod_eq_of_lt h]
theorem bv_andn {w a b : Nat} (ha : a < 2 ^ w) (hb : b < 2 ^ w) : (BitVec.ofInt w (a : Int) &&& ~~~ BitVec.ofInt w (b : Int)).toNat = andn a b := by
 rw [BitVec.toNat_and,BitVec.toNat_not,ofInt_nat ha,ofInt_nat hb]
 apply Nat.eq_of_testBit_eq
 intro i
 rw [show 2 ^ w - 1 - b = 2 ^ w - (b + 1) by omega,Nat.testBit_and,Nat.testBit_two_pow_sub_succ hb,tb_andn]
 cases hi : a.testBit i with
 | false => rfl
 | true => simp [tb_lt ha hi]
theorem and_i64 {a b : Nat} (ha : a < 2 ^ 63) (hb : b < 2 ^ 63) : bitsV .and .i64 (a : Int) (b : Int) = ((a &&& b : Nat) : Int) := by
 show IntKind.i64.wrap ((BitVec.ofInt 64 (a : Int) &&& BitVec.ofInt 64 (b : Int)).toNat : Int) = _
 rw [BitVec.toNat_and,ofInt_nat (Nat.lt_trans ha (by decide)),ofInt_nat (Nat.lt_trans hb (by decide)),nat_i64 (Nat.and_lt_two_pow a hb)]
theorem or_i64 {a b : Nat} (ha : a < 2 ^ 63) (hb : b < 2 ^ 63) : bitsV .or .i64 (a : Int) (b : Int) = ((a ||| b : Nat) : Int) := by
 show IntKind.i64.wrap ((BitVec.ofInt 64 (a : Int) ||| BitVec.ofInt 64 (b : Int)).toNat : Int) = _
 rw [BitVec.toNat_or,ofInt_nat (Nat.lt_trans ha (by decide)),ofInt_nat (Nat.lt_trans hb (by decide)),nat_i64 (Nat.or_lt_two_pow ha hb)]
theorem andn_i64 {a b : Nat} (ha : a < 2 ^ 63) (hb : b < 2 ^ 63) : bitsV .andNot .i64 (a : Int) (b : Int) = ((andn a b : Nat) : Int) := by
 show IntKind.i64.wrap ((BitVec.ofInt 64 (a : Int) &&& ~~~ BitVec.ofInt 64 (b : Int)).toNat : Int) = _
 rw [bv_andn (Nat.lt_trans ha (by decide)) (Nat.lt_trans hb (by decide)),nat_i64 (andn_lt ha)]
theorem or_u64 {a b : Nat} (ha : a < 2 ^ 64) (hb : b < 2 ^ 64) : bitsV .or .u64 (a : Int) (b : Int) = ((a ||| b : Nat) : Int) := by
 show IntKind.u64.wrap ((BitVec.ofInt 64 (a : Int) ||| BitVec.ofInt 64 (b : Int)).toNat : Int) = _
 rw [BitVec.toNat_or,ofInt_nat ha,ofInt_nat hb,nat_u64 (Nat.or_lt_two_pow ha hb)]
theorem andn_u64 {a b : Nat} (ha : a < 2 ^ 64) (hb : b < 2 ^ 64) : bitsV .andNot .u64 (a : Int) (b : Int) = ((andn a b : Nat) : Int) := by
 show IntKind.u64.wrap ((BitVec.ofInt 64 (a : Int) &&& ~~~ BitVec.ofInt 64 (b : Int)).toNat : Int) = _
 rw [bv_andn ha hb,nat_u64 (andn_lt ha)]
theorem shl_i64 {n : Nat} (h : n ≤ 20) : shlV .i64 (1 : Int) (n : Int) = ((2 ^ n : Nat) : Int) := by
 have hp : 2 ^ n < 2 ^ 63 := Nat.pow_lt_pow_right (by omega) (by omega)
 unfold shlV
 rw [Int.toNat_natCast,show min n IntKind.i64.bits = n by simp [IntKind.bits]; omega,Int.one_mul]
 have : ((2 : Int) ^ n) = ((2 ^ n : Nat) : Int) := by simp
 rw [this,nat_i64 hp]
theorem shl_u64 {n : Nat} (h : n ≤ 20) : shlV .u64 (1 : Int) (n : Int) = ((2 ^ n : Nat) : Int) := by
 have hp : 2 ^ n < 2 ^ 64 := Nat.pow_lt_pow_right (by omega) (by omega)
 unfold shlV
 rw [Int.toNat_natCast,show min n IntKind.u64.bits = n by simp [IntKind.bits]; omega,Int.one_mul]
 have : ((2 : Int) ^ n) = ((2 ^ n : Nat) : Int) := by simp
 rw [this,nat_u64 hp]
theorem dec_neg (n : Nat) : decide ((n : Int) < 0) = false := by simp
theorem beq_zero (n : Nat) : ((n : Int) == (0 : Int)) = decide (n = 0) := by
 rw [Bool.eq_iff_iff]
 simp
def lenTab : List UInt8 := [0,1,2,2,3,3,3,3,4,4,4,4,4,4,4,4,5,5,5,5,5,5,5,5,5,5,5,5,5,5,5,5,6,6,6,6,6,6,6,6,6,6,6,6,6,6,6,6,6,6,6,6,6,6,6,6,6,6,6,6,6,6,6,6,7,7,7,7,7,7,7,7,7,7,7,7,7,7,7,7,7,7,7,7,7,7,7,7,7,7,7,7,7,7,7,7,7,7,7,7,7,7,7,7,7,7,7,7,7,7,7,7,7,7,7,7,7,7,7,7,7,7,7,7,7,7,7,7,8,8,8,8,8,8,8,8,8,8,8,8,8,8,8,8,8,8,8,8,8,8,8,8,8,8,8,8,8,8,8,8,8,8,8,8,8,8,8,8,8,8,8,8,8,8,8,8,8,8,8,8,8,8,8,8,8,8,8,8,8,8,8,8,8,8,8,8,8,8,8,8,8,8,8,8,8,8,8,8,8,8,8,8,8,8,8,8,8,8,8,8,8,8,8,8,8,8,8,8,8,8,8,8,8,8,8,8,8,8,8,8,8,8,8,8,8,8,8,8,8,8,8,8,8,8,8,8]
theorem len3_eq (v8 v9 : Int) : f_math_bits_Len64_3 v8 v9 = (ix lenTab (IntKind.u8.wrap v8)).bind fun b10 => some (IntKind.i64.wrap (v9 + (IntKind.i64.wrap (b10.toNat : Int)))) := rfl
def lenFine (x : Nat) : Bool := match lenTab[x]? with
 | some b => decide (b.toNat ≤ 8) && (decide (x < 2 ^ b.toNat) && (x == 0 || (decide (1 ≤ b.toNat) && decide (2 ^ (b.toNat - 1) ≤ x))))
 | none => false
theorem lenFine_all : (List.range 256).all lenFine = true := by kernel_rfl
theorem len3 {x : Nat} (hx : x < 256) (n : Int) : ∃ l : Nat,f_math_bits_Len64_3 (x : Int) n = some (IntKind.i64.wrap (n + (l : Int))) ∧ l ≤ 8 ∧ x < 2 ^ l ∧ (0 < x → 1 ≤ l ∧ 2 ^ (l - 1) ≤ x) := by
 have h := List.all_eq_true.1 lenFine_all x (by simpa using hx)
 unfold lenFine at h
 split at h
 ·rename_i b hb
  simp only [Bool.and_eq_true,decide_eq_true_eq,Bool.or_eq_true,beq_iff_eq] at h
  have hw : IntKind.u8.wrap (x : Int) = (x : Int) := by
   simp only [IntKind.wrap,IntKind.bits,IntKind.signed]
   have : (x : Int) % 256 = x := Int.emod_eq_of_lt (by omega) (by omega)
   simp [this]
  refine ⟨b.toNat,?_,h.1,h.2.1,fun h0 => ?_⟩
  ·rw [len3_eq,hw,ix_nn,hb,Option.bind_some,nat_i64 (n := b.toNat) (by omega)]
  ·rcases h.2.2 with h3 | h3
   ·omega
   ·exact h3
 ·cases h
theorem len_eq {s : Nat} (h1 : 1 ≤ s) (h2 : s < 4096) : ∃ t : Nat,f_math_bits_Len (s : Int) = some ((t + 1 : Nat) : Int) ∧ 2 ^ t ≤ s ∧ s < 2 ^ (t + 1) ∧ t < 12 := by
 have key : ∃ l : Nat,f_math_bits_Len (s : Int) = some ((l : Nat) : Int) ∧ 1 ≤ l ∧ 2 ^ (l - 1) ≤ s ∧ s < 2 ^ l := by
  unfold f_math_bits_Len f_math_bits_Len64
  rw [if_neg (by simp; omega)]
  unfold f_math_bits_Len64_1
  rw [if_neg (by simp; omega)]
  unfold f_math_bits_Len64_2
  by_cases hs : s < 256
  ·rw [if_neg (by simp; omega)]
   obtain ⟨l,e,l8,a1,a2⟩ := len3 hs 0
   obtain ⟨a3,a4⟩ := a2 h1
   refine ⟨l,?_,a3,a4,a1⟩
   rw [e,Option.bind_some,Int.zero_add,nat_i64 (by omega)]
  ·rw [if_pos (by simp; omega)]
   have e8 : shrV .u64 (s : Int) 8 = ((s / 256 : Nat) : Int) := by
    unfold shrV
    rw [show min 8 IntKind.u64.bits = 8 by rfl,Int.fdiv_eq_ediv_of_nonneg _ (by decide)]
    have : ((s : Int) / 2 ^ 8) = ((s / 256 : Nat) : Int) := by simp
    rw [this,nat_u64 (by omega)]
   have e9 : IntKind.i64.wrap ((0 : Int) + 8) = ((8 : Nat) : Int) := by rw [wrap64 (by omega) (by omega)]; rfl
   rw [e8,e9]
   obtain ⟨l,e,l8,a1,a2⟩ := len3 (x := s / 256) (by omega) ((8 : Nat) : Int)
   obtain ⟨a3,a4⟩ := a2 (by omega)
   refine ⟨8 + l,?_,by omega,?_,?_⟩
   ·have : ((8 : Nat) : Int) + (l : Int) = ((8 + l : Nat) : Int) := by omega
    rw [e,Option.bind_some,this,nat_i64 (by omega)]
   ·rw [show 8 + l - 1 = (l - 1) + 8 by omega,Nat.pow_add]
    omega
   ·rw [Nat.add_comm,Nat.pow_add]
    omega
 obtain ⟨l,e,a1,a2,a3⟩ := key
 obtain ⟨t,rfl⟩ : ∃ t,l = t + 1 := ⟨l - 1,by omega⟩
 refine ⟨t,e,by simpa using a2,a3,?_⟩
 rcases Nat.lt_or_ge t 12 with h | h
 ·exact h
 ·have := Nat.pow_le_pow_right (show 0 < 2 by omega) h
  simp at a2
  omega
theorem top_rest {s t : Nat} (h1 : 2 ^ t ≤ s) (h2 : s < 2 ^ (t + 1)) : s.testBit t = true ∧ andn s (2 ^ t) < 2 ^ t ∧ (∀ i,(andn s (2 ^ t)).testBit i = true → s.testBit i = true) ∧ (∀ i,s.testBit i = true → i = t ∨ (andn s (2 ^ t)).testBit i = true) := by
 have hb : ∀ i,(andn s (2 ^ t)).testBit i = (s.testBit i && !decide (t = i)) := fun i => by rw [tb_andn,tb_pow]
 refine ⟨Nat.testBit_of_two_pow_le_and_two_pow_add_one_gt h1 h2,lt_of_bits fun i hi => ?_,fun i hi => ?_,fun i hi => ?_⟩
 ·rw [hb,Bool.and_eq_true] at hi
  have := tb_lt h2 hi.1
  have h3 : t ≠ i := by simpa using hi.2
  omega
 ·rw [hb,Bool.and_eq_true] at hi
  exact hi.1
 ·by_cases h : i = t
  ·exact .inl h
  ·right
   rw [hb,hi]
   simpa using fun e : t = i => h e.symm
theorem push_loop {α β R : Type} {L : Nat → Int → List β → Option R} (xs : List α) (g : α → β) (K : List β → Option R) (hl : xs.length ≤ maxLen)
  (hs : ∀ (n i : Nat) (acc : List β) (h : i < xs.length),acc.length = i → L (n + 1) (i : Int) acc = L n (IntKind.i64.wrap ((i : Int) + 1)) (acc ++ [g xs[i]])) (he : ∀ n acc,acc.length = xs.length → L (n + 1) (xs.length : Int) acc = K acc) : L bigN 0 [] = K (xs.map g) := by
 have key : ∀ (k i n : Nat) (acc : List β),i + k = xs.length → k < n → acc = (xs.take i).map g → L n (i : Int) acc = K (xs.map g) := by
  intro k
  induction k with
  | zero =>
   intro i n acc hi hn ha
   obtain ⟨m,rfl⟩ : ∃ m,n = m + 1 := ⟨n - 1,by omega⟩
   have : i = xs.length := by omega
   subst this
   rw [List.take_length] at ha
   rw [he m acc (by rw [ha]; simp),ha]
  | succ k ih =>
   intro i n acc hi hn ha
   obtain ⟨m,rfl⟩ : ∃ m,n = m + 1 := ⟨n - 1,by omega⟩
   have hlt : i < xs.length := by omega
   rw [hs m i acc hlt (by rw [ha]; simp; omega),wrapS hlt hl]
   refine ih (i + 1) m _ (by omega) (by omega) ?_
   rw [List.take_succ_eq_append_getElem hlt,List.map_append,ha]
   rfl
 exact key xs.length 0 bigN [] (by omega) (lt_bigN hl) (by simp)
def dutyOk (d : XDuty) : Bool := decide (0 ≤ d.From) && (decide (d.From < d.To) && (decide (d.To ≤ 2880) && ((decide (0 ≤ d.A) && decide (d.A < 8)) && (decide (0 ≤ d.B) && decide (d.B < 8)))))
theorem spec_duty_eq (d : XDuty) : f_spec_l13Duty d = some (dutyOk d) := by
 unfold f_spec_l13Duty dutyOk
 have e7 : ∀ x : Int,decide (x ≤ 7) = decide (x < 8) := fun x => decide_eq_decide.2 (by omega)
 simp only [l01In_eq,Option.bind_some,e7]
 by_cases h2 : d.From < d.To
 ·by_cases h3 : d.To ≤ 2880
  ·have h8 : d.From ≤ 2880 := by omega
   simp only [h2,h3,h8,decide_true,if_true,Bool.and_true,Bool.true_and]
   cases decide (0 ≤ d.From) <;> cases (decide (0 ≤ d.A) && decide (d.A < 8)) <;> rfl
  ·simp [h2,h3]
 ·simp [h2]
theorem spec_DutiesOk_eq {l : List XDuty} : f_spec_DutiesOk l = some (decide (l.length ≤ 12) && l.all dutyOk) := by
 unfold f_spec_DutiesOk
 by_cases h : l.length ≤ 12
 ·rw [if_neg (by simp; omega),all_loop (L := f_spec_DutiesOk_1 l) l dutyOk (by rw [maxLen_val]; omega) (fun n i hi => by simp [f_spec_DutiesOk_1,ix_nn,hi,spec_duty_eq]) (fun n => by simp [f_spec_DutiesOk_1])]
  simp [h]
 ·rw [if_pos (by simp; omega)]
  simp [h]
theorem if_five {R : Type} (a b c d e : Bool) (x y : R) : (if (!a) = true then y else if (!b) = true then y else if (!c) = true then y else if d = true then (if e = true then x else y) else y) = if (a && (b && (c && (d && e)))) = true then x else y := by
 cases a <;> cases b <;> cases c <;> cases d <;> cases e <;> rfl
theorem impl_DutiesOk_eq {l : List XDuty} : f_impl_DutiesOk l = some (decide (l.length ≤ 12) && l.all dutyOk) := by
 unfold f_impl_DutiesOk
 by_cases h : l.length ≤ 12
 ·rw [if_neg (by simp; omega),all_loop (L := f_impl_DutiesOk_1 l) l dutyOk (by rw [maxLen_val]; omega) (fun n i hi => ?_) (fun n => by simp [f_impl_DutiesOk_1])]
  ·simp [h]
  ·simp only [f_impl_DutiesOk_1,dec_nn,hi,decide_true,if_true,ix_at hi,Option.bind_some,isIndex_eq,dutyOk]
   generalize l[i] = d
   have g1 : decide (d.From < 0) = !decide (0 ≤ d.From) := by by_cases h : 0 ≤ d.From <;> simp [h] <;> omega
   have g2 : decide (d.To ≤ d.From) = !decide (d.From < d.To) := by by_cases h : d.From < d.To <;> simp [h] <;> omega
   have g3 : decide (2880 < d.To) = !decide (d.To ≤ 2880) := by by_cases h : d.To ≤ 2880 <;> simp [h] <;> omega
   simp only [g1,g2,g3]
   exact if_five _ _ _ _ _ _ _
 ·rw [if_pos (by simp; omega)]
  simp [h]
def movOk (m : List Int) : Bool := decide (m.length = 64) && m.all fun x => decide (0 ≤ x) && decide (x ≤ 240)
def tabOk (p : Int) (m : List Int) : Bool := minOk p && movOk m
theorem spec_Table_eq {p : Int} {m : List Int} (h : m.length ≤ maxLen) : f_spec_l13Table p m = some (tabOk p m) := by
 unfold f_spec_l13Table tabOk movOk minOk
 rw [l01In_eq,Option.bind_some,moves_spec h]
 by_cases h1 : m.length = 64
 ·cases (decide (0 ≤ p) && decide (p ≤ 2880)) <;> simp [h1]
 ·have : ((m.length : Int) != 64) = true := by simpa using (by omega : ¬ ((m.length : Int) = 64))
  cases (decide (0 ≤ p) && decide (p ≤ 2880)) <;> simp [h1,this]
theorem impl_moves_eq {m : List Int} (h : m.length ≤ maxLen) : f_impl_movesOk m = some (movOk m) := by
 unfold f_impl_movesOk movOk
 rw [moves_impl h]
 by_cases h1 : m.length = 64
 ·simp [h1]
 ·have : ((m.length : Int) != 64) = true := by simpa using (by omega : ¬ ((m.length : Int) = 64))
  simp [h1,this]
theorem minute_eq (p : Int) : f_impl_isMinute p = some (minOk p) := by rw [isMinute_eq]; rfl
def fol (p : Int) (m : List Int) (d e : XDuty) : Bool := decide (IntKind.i64.wrap (d.To + IntKind.i64.wrap (p + m[(8 * d.B + e.A).toNat]?.getD 0)) ≤ e.From)
theorem duty_facts {d : XDuty} (h : dutyOk d = true) : 0 ≤ d.From ∧ d.From < d.To ∧ d.To ≤ 2880 ∧ 0 ≤ d.A ∧ d.A < 8 ∧ 0 ≤ d.B ∧ d.B < 8 := by
 simp only [dutyOk,Bool.and_eq_true,decide_eq_true_eq] at h
 omega
theorem moves_at {m : List Int} (hm : movOk m = true) {b a : Int} (h0 : 0 ≤ b) (h1 : b < 8) (h2 : 0 ≤ a) (h3 : a < 8) : ix m (8 * b + a) = some (m[(8 * b + a).toNat]?.getD 0) := by
 simp only [movOk,Bool.and_eq_true,decide_eq_true_eq] at hm
 obtain ⟨k,hk⟩ : ∃ k : Nat,8 * b + a = (k : Int) := ⟨(8 * b + a).toNat,by omega⟩
 rw [hk,ix_nn,Int.toNat_natCast,List.getElem?_eq_getElem (by omega)]
 rfl
theorem spec_follow_eq {p : Int} {m : List Int} {d e : XDuty} (hl : m.length ≤ maxLen) (ht : tabOk p m = true) (hd : dutyOk d = true) (he : dutyOk e = true) : f_spec_CanFollow p m d e = some (fol p m d e) := by
 obtain ⟨_,_,_,_,_,b0,b1⟩ := duty_facts hd
 obtain ⟨_,_,_,a0,a1,_,_⟩ := duty_facts he
 have ht' := ht
 simp only [tabOk,Bool.and_eq_true] at ht'
 unfold f_spec_CanFollow f_spec_Gap
 have c1 : (decide (0 ≤ d.B) && decide (d.B ≤ 7)) = true := by simp; omega
 have c2 : (decide (0 ≤ e.A) && decide (e.A ≤ 7)) = true := by simp; omega
 rw [spec_Table_eq hl,ht,Option.bind_some,if_pos rfl,l01In_eq,c1,Option.bind_some,if_pos rfl,l01In_eq,c2,Option.bind_some]
 unfold f_spec_Gap_1
 rw [if_neg (by simp),Int.mul_comm d.B 8,wrap64 (n := 8 * d.B) (by omega) (by omega),wrap64 (n := 8 * d.B + e.A) (by omega) (by omega),moves_at ht'.2 b0 b1 a0 a1,Option.bind_some,Option.bind_some,if_pos rfl,spec_duty_eq,hd,Option.bind_some,if_pos rfl,spec_duty_eq,he,Option.bind_some,if_pos rfl]
 rfl
theorem impl_follow_eq {p : Int} {m : List Int} {d e : XDuty} (hl : m.length ≤ maxLen) (ht : tabOk p m = true) (hd : dutyOk d = true) (he : dutyOk e = true) : f_impl_CanFollow p m d e = some (fol p m d e) := by
 obtain ⟨_,_,_,_,_,b0,b1⟩ := duty_facts hd
 obtain ⟨_,_,_,a0,a1,_,_⟩ := duty_facts he
 have ht' := ht
 simp only [tabOk,Bool.and_eq_true] at ht'
 unfold f_impl_CanFollow f_impl_Gap
 have c1 : (decide (0 ≤ d.B) && decide (d.B < 8)) = true := by simp; omega
 have c2 : (decide (0 ≤ e.A) && decide (e.A < 8)) = true := by simp; omega
 have o1 : (decide ([d].length ≤ 12) && [d].all dutyOk) = true := by simp [hd]
 have o2 : (decide ([e].length ≤ 12) && [e].all dutyOk) = true := by simp [he]
 rw [minute_eq,ht'.1,Option.bind_some,if_pos rfl,impl_moves_eq hl,ht'.2,Option.bind_some,if_pos rfl,isIndex_eq,c1,Option.bind_some,if_pos rfl,isIndex_eq,c2,Option.bind_some]
 unfold f_impl_Gap_1
 rw [if_neg (by simp),wrap64 (n := 8 * d.B) (by omega) (by omega),wrap64 (n := 8 * d.B + e.A) (by omega) (by omega),moves_at ht'.2 b0 b1 a0 a1,Option.bind_some,Option.bind_some,if_pos rfl,impl_DutiesOk_eq,o1,Option.bind_some,if_pos rfl,impl_DutiesOk_eq,o2,Option.bind_some,if_pos rfl]
 rfl
def both (p : Int) (m : List Int) (l : List XDuty) (i k : Nat) : Bool := match l[i]?,l[k]? with
 | some d,some e => fol p m d e || fol p m e d
 | _,_ => false
theorem both_comm (p : Int) (m : List Int) (l : List XDuty) (i k : Nat) : both p m l i k = both p m l k i := by
 unfold both
 cases l[i]? <;> cases l[k]? <;> simp [Bool.or_comm]
end Go.Vi
