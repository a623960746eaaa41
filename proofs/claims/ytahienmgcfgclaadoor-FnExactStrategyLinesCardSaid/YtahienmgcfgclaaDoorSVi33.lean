/-
  Plain laws: counters, lists and loops of the printed definitions. No condition.
-/
import Derived.Test.YtahienmgcfgclaaDoorSVi32
namespace Go.Vi
set_option linter.unusedSimpArgs false
set_option linter.unusedVariables false
theorem ix_nn {α : Type} (l : List α) (i : Nat) : ix l (i : Int) = l[i]? := by simp [ix]
theorem ix_at {α : Type} {l : List α} {i : Nat} (h : i < l.length) : ix l (i : Int) = some l[i] := by rw [ix_nn,List.getElem?_eq_getElem h]
theorem dec_nn (i n : Nat) : decide ((i : Int) < (n : Int)) = decide (i < n) := by simp [Int.ofNat_lt]
theorem wrapS {i n : Nat} (h : i < n) (hn : n ≤ maxLen) : IntKind.i64.wrap ((i : Int) + 1) = ((i + 1 : Nat) : Int) := wrap_succ h hn
theorem bigN_val : bigN = 1208925819614629174706176 := by unfold bigN; rfl
theorem maxLen_val : maxLen = 9223372036854775807 := rfl
theorem lt_bigN {n : Nat} (h : n ≤ maxLen) : n < bigN := by rw [bigN_val]; rw [maxLen_val] at h; omega
theorem range_loop {R : Type} (L : Nat → Int → Option R) (len : Nat) (hl : len ≤ maxLen) (g : Nat → Option R → Option R) (fin : Option R)
  (hs : ∀ (n i : Nat),i < len → L (n + 1) (i : Int) = g i (L n (IntKind.i64.wrap ((i : Int) + 1)))) (he : ∀ n,L (n + 1) (len : Int) = fin) :
  ∀ (k i n : Nat),i + k = len → k < n → L n (i : Int) = (List.range' i k).foldr g fin
 | 0,i,n,hi,hn => by
  obtain ⟨m,rfl⟩ : ∃ m,n = m + 1 := ⟨n - 1,by omega⟩
  have : i = len := by omega
  subst this
  rw [he]; rfl
 | k + 1,i,n,hi,hn => by
  obtain ⟨m,rfl⟩ : ∃ m,n = m + 1 := ⟨n - 1,by omega⟩
  rw [hs m i (by omega),wrapS (show i < len by omega) hl,range_loop L len hl g fin hs he k (i + 1) m (by omega) (by omega)]
  rfl
theorem all_loop {α : Type} {L : Nat → Int → Option Bool} (xs : List α) (p : α → Bool) (hl : xs.length ≤ maxLen)
  (hs : ∀ (n i : Nat) (h : i < xs.length),L (n + 1) (i : Int) = if p xs[i] = true then L n (IntKind.i64.wrap ((i : Int) + 1)) else some false) (he : ∀ n,L (n + 1) (xs.length : Int) = some true) : L bigN 0 = some (xs.all p) := by
 have key : ∀ (k i n : Nat),i + k = xs.length → k < n → L n (i : Int) = some ((xs.drop i).all p) := by
  intro k
  induction k with
  | zero =>
   intro i n hi hn
   obtain ⟨m,rfl⟩ : ∃ m,n = m + 1 := ⟨n - 1,by omega⟩
   have : i = xs.length := by omega
   subst this
   rw [he]; simp
  | succ k ih =>
   intro i n hi hn
   obtain ⟨m,rfl⟩ : ∃ m,n = m + 1 := ⟨n - 1,by omega⟩
   have hlt : i < xs.length := by omega
   rw [hs m i hlt,wrapS hlt hl,ih (i + 1) m (by omega) (by omega),List.drop_eq_getElem_cons hlt,List.all_cons]
   cases p xs[i] <;> simp
 have := key xs.length 0 bigN (by omega) (lt_bigN hl)
 simpa using this
theorem all_loopI {L : Nat → Int → Option Bool} (len : Nat) (p : Nat → Bool) (hl : len ≤ maxLen)
  (hs : ∀ (n i : Nat) (_ : i < len),L (n + 1) (i : Int) = if p i = true then L n (IntKind.i64.wrap ((i : Int) + 1)) else some false) (he : ∀ n,L (n + 1) (len : Int) = some true) : L bigN 0 = some ((List.range len).all p) := by
 refine all_loop (List.range len) p (by simpa using hl) (fun n i h => ?_) (fun n => ?_)
 ·have h' : i < len := by simpa using h
  rw [hs n i h']
  simp
 ·simpa using he n
theorem copy_loop {α β : Type} {L : Nat → Int → List β → Option (List β)} (xs : List α) (g : α → β) (hl : xs.length ≤ maxLen)
  (hs : ∀ (n i : Nat) (acc : List β) (h : i < xs.length),acc.length = xs.length → L (n + 1) (i : Int) acc = L n (IntKind.i64.wrap ((i : Int) + 1)) (acc.set i (g xs[i]))) (he : ∀ n acc,L (n + 1) (xs.length : Int) acc = some acc)
  (z : List β) (hz : z.length = xs.length) : L bigN 0 z = some (xs.map g) := by
 have key : ∀ (k i n : Nat) (acc : List β),i + k = xs.length → k < n → acc.length = xs.length → acc.take i = (xs.take i).map g → L n (i : Int) acc = some (xs.map g) := by
  intro k
  induction k with
  | zero =>
   intro i n acc hi hn ha ht
   obtain ⟨m,rfl⟩ : ∃ m,n = m + 1 := ⟨n - 1,by omega⟩
   have : i = xs.length := by omega
   subst this
   rw [he]
   rw [← ha,List.take_length,ha,List.take_length] at ht
   rw [ht]
  | succ k ih =>
   intro i n acc hi hn ha ht
   obtain ⟨m,rfl⟩ : ∃ m,n = m + 1 := ⟨n - 1,by omega⟩
   have hlt : i < xs.length := by omega
   rw [hs m i acc hlt ha,wrapS hlt hl]
   refine ih (i + 1) m _ (by omega) (by omega) (by simpa using ha) ?_
   rw [List.take_succ_eq_append_getElem (by simpa [ha] using hlt),List.take_succ_eq_append_getElem hlt,List.map_append,← ht]
   simp [List.take_set_of_le]
 exact key xs.length 0 bigN z (by omega) (lt_bigN hl) hz (by simp)
theorem eq_loop {α : Type} [DecidableEq α] {L : Nat → Int → Option Bool} (xs ys : List α) (hl : xs.length ≤ maxLen) (hlen : xs.length = ys.length)
  (hs : ∀ (n i : Nat) (h : i < xs.length) (h2 : i < ys.length),L (n + 1) (i : Int) = if xs[i] = ys[i] then L n (IntKind.i64.wrap ((i : Int) + 1)) else some false) (he : ∀ n,L (n + 1) (xs.length : Int) = some true) :
  L bigN 0 = some (decide (xs = ys)) := by
 have := all_loopI (L := L) xs.length (fun i => decide (xs[i]? = ys[i]?)) hl (fun n i h => by
  rw [hs n i h (hlen ▸ h),List.getElem?_eq_getElem h,List.getElem?_eq_getElem (hlen ▸ h)]
  simp) he
 rw [this]
 congr 1
 rw [Bool.eq_iff_iff]
 simp only [List.all_eq_true,List.mem_range,decide_eq_true_eq]
 constructor
 ·intro h
  apply List.ext_getElem?
  intro i
  by_cases hi : i < xs.length
  ·exact h i hi
  ·rw [List.getElem?_eq_none (by omega),List.getElem?_eq_none (by omega)]
 ·rintro rfl i _; rfl
end Go.Vi
