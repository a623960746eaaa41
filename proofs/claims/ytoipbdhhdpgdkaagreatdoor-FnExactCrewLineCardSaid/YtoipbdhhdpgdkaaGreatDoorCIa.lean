/-
  Plain law of covers: colourings of sets of numbers, cliques, least numbers. No condition.
-/
import Derived.Test.YtoipbdhhdpgdkaaGreatDoorCVi33
namespace Go.Vi
set_option linter.unusedSimpArgs false
set_option linter.unusedVariables false
def andn (a b : Nat) : Nat := a ^^^ (a &&& b)
theorem tb_andn (a b i : Nat) : (andn a b).testBit i = (a.testBit i && !b.testBit i) := by
 simp only [andn,Nat.testBit_xor,Nat.testBit_and]
 cases a.testBit i <;> cases b.testBit i <;> rfl
theorem tb_pow (n i : Nat) : (2 ^ n).testBit i = decide (n = i) := Nat.testBit_two_pow
theorem tb_lt {s n i : Nat} (h : s < 2 ^ n) (hi : s.testBit i = true) : i < n := by
 rcases Nat.lt_or_ge i n with h1 | h1
 ·exact h1
 ·have : s < 2 ^ i := Nat.lt_of_lt_of_le h (Nat.pow_le_pow_right (by omega) h1)
  rw [Nat.testBit_lt_two_pow this] at hi
  cases hi
theorem tb_self {s i : Nat} (hi : s.testBit i = true) : i < s := tb_lt Nat.lt_two_pow_self hi
theorem mask_of (p : Nat → Bool) : ∀ k : Nat,∃ q : Nat,∀ i,q.testBit i = (decide (i < k) && p i)
 | 0 => ⟨0,fun i => by simp⟩
 | k + 1 => by
  obtain ⟨q,hq⟩ := mask_of p k
  refine ⟨q ||| (if p k then 2 ^ k else 0),fun i => ?_⟩
  rw [Nat.testBit_or,hq]
  by_cases hp : p k = true
  ·rw [if_pos hp,tb_pow]
   by_cases h : k = i
   ·subst h; simp [hp]
   ·have : decide (i < k + 1) = decide (i < k) := by simp; omega
    simp [h,this]
  ·rw [if_neg hp,Nat.zero_testBit]
   by_cases h : k = i
   ·subst h; simp [hp]
   ·have : decide (i < k + 1) = decide (i < k) := by simp; omega
    simp [this]
theorem sub_of {q r : Nat} (h : q &&& r = q) {i : Nat} (hi : q.testBit i = true) : r.testBit i = true := by
 have := congrArg (fun x => x.testBit i) h
 simp only [Nat.testBit_and,hi,Bool.true_and] at this
 exact this
theorem of_sub {q r : Nat} (h : ∀ i,q.testBit i = true → r.testBit i = true) : q &&& r = q := by
 apply Nat.eq_of_testBit_eq
 intro i
 rw [Nat.testBit_and]
 cases hq : q.testBit i with
 | false => rfl
 | true => rw [h i hq]; rfl
theorem next_sub : ∀ (n r p q : Nat),r ≤ n → p &&& r = p → q &&& r = q → q < p → q ≤ (p - 1) &&& r := by
 intro n
 induction n with
 | zero =>
  intro r p q hr hp hq hlt
  have : r = 0 := by omega
  subst this
  rw [Nat.and_zero] at hp hq
  omega
 | succ n ih =>
  intro r p q hr hp hq hlt
  by_cases h0 : r = 0
  ·subst h0
   rw [Nat.and_zero] at hp hq
   omega
  have hp2 : (p / 2) &&& (r / 2) = p / 2 := by rw [← Nat.and_div_two,hp]
  have hq2 : (q / 2) &&& (r / 2) = q / 2 := by rw [← Nat.and_div_two,hq]
  have e2 : ∀ a b : Nat,(a &&& b) % 2 = (a % 2) * (b % 2) := fun a b => by
   have h := Nat.testBit_and a b 0
   simp only [Nat.testBit_zero] at h
   rcases Nat.mod_two_eq_zero_or_one a with ha | ha <;> rcases Nat.mod_two_eq_zero_or_one b with hb | hb <;> rcases Nat.mod_two_eq_zero_or_one (a &&& b) with hc | hc <;> simp_all
  have hpm := e2 p r
  have hqm := e2 q r
  rw [hp] at hpm
  rw [hq] at hqm
  have hd : ((p - 1) &&& r) / 2 = ((p - 1) / 2) &&& (r / 2) := Nat.and_div_two
  have hm := e2 (p - 1) r
  rcases Nat.mod_two_eq_zero_or_one p with h1 | h1
  ·-- an even one
   have i1 := ih (r / 2) (p / 2) (q / 2) (by omega) hp2 hq2 (by omega)
   have e3 : (p - 1) / 2 = p / 2 - 1 := by omega
   rw [e3] at hd
   have e4 : (p - 1) % 2 = 1 := by omega
   rw [e4,Nat.one_mul] at hm
   have hqr : q % 2 ≤ r % 2 := by
    rcases Nat.mod_two_eq_zero_or_one q with h2 | h2
    ·omega
    ·rw [h2,Nat.one_mul] at hqm; omega
   omega
  ·have e3 : (p - 1) / 2 = p / 2 := by omega
   rw [e3,hp2] at hd
   omega
theorem and_lt {p r : Nat} (h : 0 < p) : (p - 1) &&& r < p := by
 have := @Nat.and_le_left (p - 1) r
 omega
theorem and_sub (p r : Nat) : (p &&& r) &&& r = p &&& r := by rw [Nat.and_assoc,Nat.and_self]
def Cov (B : Nat → Nat → Bool) (S m : Nat) : Prop := ∃ f : Nat → Nat,(∀ i,S.testBit i = true → f i < m) ∧ ∀ i j,S.testBit i = true → S.testBit j = true → i ≠ j → f i = f j → B i j = true
def Clq (B : Nat → Nat → Bool) (S : Nat) : Prop := ∀ i j,S.testBit i = true → S.testBit j = true → i ≠ j → B i j = true
def Least (B : Nat → Nat → Bool) (S n : Nat) : Prop := Cov B S n ∧ ∀ m,Cov B S m → n ≤ m
theorem cov_id {B : Nat → Nat → Bool} {S n : Nat} (h : S < 2 ^ n) : Cov B S n := ⟨id,fun i hi => tb_lt h hi,fun i j _ _ hne e => absurd e hne⟩
theorem least_zero {B : Nat → Nat → Bool} : Least B 0 0 := ⟨⟨id,fun i hi => by simp at hi,fun i j hi => by simp at hi⟩,fun m _ => Nat.zero_le m⟩
theorem cov_join {B : Nat → Nat → Bool} {S t rest q n : Nat} (hS : ∀ i,S.testBit i = true → i = t ∨ rest.testBit i = true) (hq : Clq B (q ||| 2 ^ t)) (h : Cov B (andn rest q) n) : Cov B S (1 + n) := by
 obtain ⟨f,f1,f2⟩ := h
 have key : ∀ i,S.testBit i = true → (i = t ∨ q.testBit i = true) ∨ (andn rest q).testBit i = true := fun i hi => by
  rcases hS i hi with h | h
  ·exact .inl (.inl h)
  ·cases hb : q.testBit i with
   | true => exact .inl (.inr rfl)
   | false => right; rw [tb_andn,h,hb]; rfl
 have hin : ∀ i,(i = t ∨ q.testBit i = true) → (q ||| 2 ^ t).testBit i = true := fun i hi => by
  rw [Nat.testBit_or,tb_pow]
  rcases hi with h | h
  ·simp [h]
  ·simp [h]
 refine ⟨fun i => if i = t ∨ q.testBit i = true then n else f i,fun i hi => ?_,fun i j hi hj hne e => ?_⟩
 ·by_cases hx : i = t ∨ q.testBit i = true
  ·simp only [hx,if_true]; omega
  ·simp only [hx,if_false]
   rcases key i hi with h | h
   ·exact absurd h hx
   ·have := f1 i h; omega
 ·by_cases hx : i = t ∨ q.testBit i = true
  ·by_cases hy : j = t ∨ q.testBit j = true
   ·exact hq i j (hin i hx) (hin j hy) hne
   ·simp only [hx,hy,if_true,if_false] at e
    have := f1 j ((key j hj).resolve_left hy)
    omega
  ·by_cases hy : j = t ∨ q.testBit j = true
   ·simp only [hx,hy,if_true,if_false] at e
    have := f1 i ((key i hi).resolve_left hx)
    omega
   ·simp only [hx,hy,if_false] at e
    exact f2 i j ((key i hi).resolve_left hx) ((key j hj).resolve_left hy) hne e
theorem cov_split {B : Nat → Nat → Bool} {S t rest m : Nat} (hS : S.testBit t = true) (hr : ∀ i,rest.testBit i = true → S.testBit i = true) (h : Cov B S m) : ∃ q n,q &&& rest = q ∧ Clq B (q ||| 2 ^ t) ∧ n + 1 = m ∧ Cov B (andn rest q) n := by
 obtain ⟨f,f1,f2⟩ := h
 obtain ⟨q,hq⟩ := mask_of (fun i => rest.testBit i && decide (f i = f t)) rest
 have hq2 : ∀ i,q.testBit i = true ↔ rest.testBit i = true ∧ f i = f t := fun i => by
  rw [hq i]
  constructor
  ·intro h
   simp only [Bool.and_eq_true,decide_eq_true_eq] at h
   exact h.2
  ·intro ⟨h1,h2⟩
   simp only [Bool.and_eq_true,decide_eq_true_eq]
   exact ⟨tb_self h1,h1,h2⟩
 have hm := f1 t hS
 refine ⟨q,m - 1,of_sub fun i hi => ((hq2 i).1 hi).1,fun i j hi hj hne => ?_,by omega,fun i => if f i = m - 1 then f t else f i,fun i hi => ?_,fun i j hi hj hne e => ?_⟩
 ·have side : ∀ i,(q ||| 2 ^ t).testBit i = true → S.testBit i = true ∧ f i = f t := fun i hi => by
   rw [Nat.testBit_or,tb_pow,Bool.or_eq_true,decide_eq_true_eq] at hi
   rcases hi with h | h
   ·exact ⟨hr i ((hq2 i).1 h).1,((hq2 i).1 h).2⟩
   ·subst h; exact ⟨hS,rfl⟩
  obtain ⟨i1,i2⟩ := side i hi
  obtain ⟨j1,j2⟩ := side j hj
  exact f2 i j i1 j1 hne (i2.trans j2.symm)
 ·rw [tb_andn,Bool.and_eq_true] at hi
  have hne : f i ≠ f t := fun e => by
   have := (hq2 i).2 ⟨hi.1,e⟩
   rw [this] at hi
   simp at hi
  have := f1 i (hr i hi.1)
  show (if f i = m - 1 then f t else f i) < m - 1
  split <;> omega
 ·rw [tb_andn,Bool.and_eq_true] at hi hj
  have hni : f i ≠ f t := fun e => by
   have := (hq2 i).2 ⟨hi.1,e⟩
   rw [this] at hi
   simp at hi
  have hnj : f j ≠ f t := fun e => by
   have := (hq2 j).2 ⟨hj.1,e⟩
   rw [this] at hj
   simp at hj
  have e2 : f i = f j := by
   have e : (if f i = m - 1 then f t else f i) = (if f j = m - 1 then f t else f j) := e
   split at e <;> split at e <;> omega
  exact f2 i j (hr i hi.1) (hr j hj.1) hne e2
def Ext (B : Nat → Nat → Bool) (N m : Nat) (w : List Nat) : Prop := ∃ f : Nat → Nat,(∀ (j : Nat) (h : j < w.length),f j = w[j]) ∧ (∀ j,j < N → f j < m) ∧ ∀ i j,i < N → j < N → i ≠ j → f i = f j → B i j = true
def Fits (B : Nat → Nat → Bool) (w : List Nat) (c : Nat) : Prop := ∀ (k : Nat) (h : k < w.length),w[k] = c → B w.length k = true
theorem ext_back {B : Nat → Nat → Bool} {N m : Nat} {w : List Nat} {c : Nat} (h : Ext B N m (w ++ [c])) : Ext B N m w := by
 obtain ⟨f,f1,f2⟩ := h
 exact ⟨f,fun j hj => by rw [f1 j (by simp; omega),List.getElem_append_left hj],f2⟩
theorem ext_next {B : Nat → Nat → Bool} {N m u : Nat} {w : List Nat} (hw : w.length < N) (hu : ∀ x ∈ w,x < u) (h : Ext B N m w) : ∃ c,c ≤ u ∧ c < m ∧ Fits B w c ∧ Ext B N m (w ++ [c]) := by
 obtain ⟨f,f1,f2,f3⟩ := h
 have done : ∀ f : Nat → Nat,(∀ (j : Nat) (h : j < w.length),f j = w[j]) → (∀ j,j < N → f j < m) → (∀ i j,i < N → j < N → i ≠ j → f i = f j → B i j = true) → f w.length ≤ u → ∃ c,c ≤ u ∧ c < m ∧ Fits B w c ∧ Ext B N m (w ++ [c]) := by
  intro f f1 f2 f3 hle
  refine ⟨f w.length,hle,f2 _ hw,fun k hk e => f3 _ _ hw (by omega) (by omega) ((e.symm.trans (f1 k hk).symm)),f,fun j hj => ?_,f2,f3⟩
  rcases Nat.lt_or_ge j w.length with h | h
  ·rw [List.getElem_append_left h]; exact f1 j h
  ·have : j = w.length := by simp at hj; omega
   subst this
   simp
 by_cases hc : f w.length ≤ u
 ·exact done f f1 f2 f3 hc
 ·have hm := f2 _ hw
  refine done (fun x => if f x = f w.length then u else if f x = u then f w.length else f x) (fun j hj => ?_) (fun j hj => ?_) (fun i j hi hj hne e => f3 i j hi hj hne ?_) (by simp)
  ·have e1 := f1 j hj
   have e2 := hu _ (List.getElem_mem hj)
   show (if f j = f w.length then u else if f j = u then f w.length else f j) = w[j]
   rw [if_neg (by omega),if_neg (by omega),e1]
  ·have := f2 j hj
   show (if f j = f w.length then u else if f j = u then f w.length else f j) < m
   split
   ·omega
   ·split <;> omega
  ·have e : (if f i = f w.length then u else if f i = u then f w.length else f i) = (if f j = f w.length then u else if f j = u then f w.length else f j) := e
   split at e <;> split at e <;> (try split at e) <;> (try split at e) <;> omega
theorem ext_full {B : Nat → Nat → Bool} {N m : Nat} {w : List Nat} (hl : w.length = N) (hm : ∀ x ∈ w,x < m) (hB : ∀ i j,B i j = B j i) (hv : ∀ (i k : Nat) (hi : i < w.length) (hk : k < i),w[i] = w[k] → B i k = true) : Ext B N m w := by
 subst hl
 have e : ∀ (j : Nat) (h : j < w.length),w[j]?.getD 0 = w[j] := fun j h => by rw [List.getElem?_eq_getElem h]; rfl
 refine ⟨fun j => w[j]?.getD 0,fun j hj => e j hj,fun j hj => ?_,fun i j hi hj hne h => ?_⟩
 ·show w[j]?.getD 0 < m
  rw [e j hj]; exact hm _ (List.getElem_mem hj)
 ·have h : w[i]?.getD 0 = w[j]?.getD 0 := h
  rw [e i hi,e j hj] at h
  rcases Nat.lt_or_ge j i with hlt | hge
  ·exact hv i j hi hlt h
  ·rw [hB]; exact hv j i hj (by omega) h.symm
theorem cov_ext {B : Nat → Nat → Bool} {N m : Nat} : Cov B (2 ^ N - 1) m ↔ Ext B N m [] := by
 have ht : ∀ i,(2 ^ N - 1).testBit i = decide (i < N) := fun i => Nat.testBit_two_pow_sub_one N i
 constructor
 ·rintro ⟨f,f1,f2⟩
  exact ⟨f,fun j h => by simp at h,fun j hj => f1 j (by rw [ht]; simpa using hj),fun i j hi hj hne e => f2 i j (by rw [ht]; simpa using hi) (by rw [ht]; simpa using hj) hne e⟩
 ·rintro ⟨f,_,f1,f2⟩
  exact ⟨f,fun j hj => f1 j (by rw [ht] at hj; simpa using hj),fun i j hi hj hne e => f2 i j (by rw [ht] at hi; simpa using hi) (by rw [ht] at hj; simpa using hj) hne e⟩
end Go.Vi
