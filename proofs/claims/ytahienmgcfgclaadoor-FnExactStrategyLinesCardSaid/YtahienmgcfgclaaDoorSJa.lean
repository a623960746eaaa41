/-
  Plain laws, picked out of laws of other rounds by a program. No condition.
-/
import Derived.Test.YtahienmgcfgclaaDoorSNf
import Derived.Test.YtahienmgcfgclaaDoorSMa
namespace Go.Vi
open Go.Lib
set_option linter.unusedSimpArgs false
set_option linter.unusedVariables false
theorem mkS_len {n bytes : Nat} (h : n ≤ 1048576) (hb : bytes ≤ 1000) : mkS (n : Int) (n : Int) bytes = some n := by
 unfold mkS
 have : (n : Int) * (bytes : Int) ≤ 140737488355328 := by
  have : n * bytes ≤ 1048576 * 1000 := Nat.mul_le_mul h hb
  have e : ((n * bytes : Nat) : Int) = (n : Int) * (bytes : Int) := by simp
  omega
 rw [if_pos ⟨by omega,by omega,this,by omega⟩]
 simp
theorem le_max {n : Nat} (h : n ≤ 1048576) : n ≤ maxLen := by rw [maxLen_val]; omega
theorem len_ok {α : Type} {row : α → List D} {xs : List α} (h : (D.sl (List.map row xs)).Ok) : xs.length ≤ maxLen := by simpa using h.sl.1
theorem toPassageS_eq {xs : List XPassage} (h : xs.length ≤ 1048576) : f_laws_toPassageS xs = some xs := by
 unfold f_laws_toPassageS
 rw [mkS_len h (by omega)]
 have := copy_loop (L := f_laws_toPassageS_1 xs) xs id (le_max h) (fun n i acc hi ha => by simp [f_laws_toPassageS_1,ix_nn,hi,ha,f_laws_toPassage]) (fun n acc => by simp [f_laws_toPassageS_1]) (List.replicate xs.length ⟨0,0,false,0,0⟩) (by simp)
 simpa using this
def spl (c : UInt8) : List UInt8 → List UInt8 → List (List UInt8)
 | cur,[] => [cur]
 | cur,b :: r => if b = c then cur :: spl c [] r else spl c (cur ++ [b]) r
def split (c : UInt8) (s : List UInt8) : List (List UInt8) := spl c [] s
theorem eqPassage_eq (x y : XPassage) : f_laws_eqPassage x y = some (decide (x = y)) := by
 unfold f_laws_eqPassage
 cases x; cases y
 simp only [XPassage.mk.injEq]
 repeat' split
 all_goals simp_all
theorem eqPassageS_eq {xs ys : List XPassage} (h : xs.length ≤ maxLen) : f_laws_eqPassageS xs ys = some (decide (xs = ys)) := by
 unfold f_laws_eqPassageS
 by_cases hl : xs.length = ys.length
 ·have := eq_loop (L := f_laws_eqPassageS_1 xs ys) xs ys h hl (fun n i h1 h2 => by simp [f_laws_eqPassageS_1,ix_nn,h1,h2,eqPassage_eq]) (fun n => by simp [f_laws_eqPassageS_1])
  simp [hl,this]
 ·have : ¬ (xs.length : Int) = ys.length := by omega
  have : xs ≠ ys := fun e => hl (by rw [e])
  simp_all
theorem toOption_eq {x : XOption} (h : x.Passages.length ≤ 1048576) : f_laws_toOption x = some x := by
 simp [f_laws_toOption,toPassageS_eq h]
theorem toOptionS_eq {xs : List XOption} (h : xs.length ≤ 1048576) (hp : ∀ x ∈ xs,x.Passages.length ≤ 1048576) : f_laws_toOptionS xs = some xs := by
 unfold f_laws_toOptionS
 rw [mkS_len h (by omega)]
 have := copy_loop (L := f_laws_toOptionS_1 xs) xs id (le_max h) (fun n i acc hi ha => by simp [f_laws_toOptionS_1,ix_nn,hi,ha,toOption_eq (hp _ (List.getElem_mem hi))]) (fun n acc => by simp [f_laws_toOptionS_1]) (List.replicate xs.length ⟨0,0,0,[]⟩) (by simp)
 simpa using this
theorem eqOption_self {x : XOption} (h : x.Passages.length ≤ maxLen) : f_laws_eqOption x x = some true := by
 simp [f_laws_eqOption,eqPassageS_eq h]
theorem eqOptionS_self {xs : List XOption} (h : xs.length ≤ maxLen) (hp : ∀ x ∈ xs,x.Passages.length ≤ maxLen) : f_laws_eqOptionS xs xs = some true := by
 unfold f_laws_eqOptionS
 have := all_loop (L := f_laws_eqOptionS_1 xs xs) xs (fun _ => true) h (fun n i hi => by simp [f_laws_eqOptionS_1,ix_nn,hi,eqOption_self (hp _ (List.getElem_mem hi))]) (fun n => by simp [f_laws_eqOptionS_1])
 simp [this]
theorem szOption_of {x : XOption} {l : Int} (h0 : 0 ≤ l) (h1 : l ≤ 1048576) (hx : x.Passages.length ≤ maxLen) : ∃ r,f_laws_szOption x l = some r ∧ (0 ≤ r → r ≤ l ∧ x.Passages.length ≤ 1048576) := by
 unfold f_laws_szOption f_laws_szPassageS
 rw [maxLen_val] at hx
 rw [wrap64 (by omega) (by omega)]
 by_cases h : l - (x.Passages.length : Int) < 0
 ·exact ⟨-1,by simp [h],by omega⟩
 ·exact ⟨l - x.Passages.length,by simp [h],by omega⟩
theorem szOptionS_of {xs : List XOption} {l : Int} (h0 : 0 ≤ l) (h1 : l ≤ 1048576) (hx : xs.length ≤ maxLen) (hn : ∀ x ∈ xs,x.Passages.length ≤ maxLen) : ∃ r,f_laws_szOptionS xs l = some r ∧ (0 ≤ r → r ≤ l ∧ xs.length ≤ 1048576 ∧ ∀ x ∈ xs,x.Passages.length ≤ 1048576) := by
 unfold f_laws_szOptionS
 have hx' := hx
 rw [maxLen_val] at hx'
 rw [wrap64 (by omega) (by omega)]
 by_cases h : l - (xs.length : Int) < 0
 ·exact ⟨-1,by simp [h],by omega⟩
 ·have key : ∀ (k i n : Nat) (v : Int),i + k = xs.length → k < n → 0 ≤ v → v ≤ l → ∃ r,f_laws_szOptionS_1 xs n v (i : Int) = some r ∧ (0 ≤ r → r ≤ l ∧ ∀ j (hj : j < xs.length),i ≤ j → xs[j].Passages.length ≤ 1048576) := by
   intro k
   induction k with
   | zero =>
    intro i n v hi hn2 hv hv2
    obtain ⟨m,rfl⟩ : ∃ m,n = m + 1 := ⟨n - 1,by omega⟩
    have : i = xs.length := by omega
    subst this
    exact ⟨v,by simp [f_laws_szOptionS_1],fun _ => ⟨hv2,fun j hj h => by omega⟩⟩
   | succ k ih =>
    intro i n v hi hn2 hv hv2
    obtain ⟨m,rfl⟩ : ∃ m,n = m + 1 := ⟨n - 1,by omega⟩
    have hlt : i < xs.length := by omega
    obtain ⟨r,e,hr⟩ := szOption_of (x := xs[i]) hv (by omega) (hn _ (List.getElem_mem hlt))
    by_cases hr0 : r < 0
    ·exact ⟨-1,by simp [f_laws_szOptionS_1,ix_nn,hlt,e,hr0],by omega⟩
    ·obtain ⟨g1,g2⟩ := hr (by omega)
     obtain ⟨r2,e2,h2⟩ := ih (i + 1) m r (by omega) (by omega) (by omega) (by omega)
     refine ⟨r2,?_,fun h0 => ⟨(h2 h0).1,fun j hj hij => ?_⟩⟩
     ·rw [← wrapS hlt hx] at e2
      simp only [f_laws_szOptionS_1,ix_nn,List.getElem?_eq_getElem hlt,Option.bind_some,dec_nn,hlt,decide_true,if_true,e,hr0,decide_false,Bool.false_eq_true,if_false]
      exact e2
     ·by_cases hji : j = i
      ·subst hji; exact g2
      ·exact (h2 h0).2 j hj (by omega)
  obtain ⟨r,e,hr⟩ := key xs.length 0 bigN (l - xs.length) (by omega) (lt_bigN hx) (by omega) (by omega)
  refine ⟨r,?_,fun h0 => ⟨(hr h0).1,by omega,fun x hx2 => ?_⟩⟩
  ·simp only [h,decide_false,Bool.false_eq_true,if_false]
   exact e
  ·obtain ⟨j,hj,rfl⟩ := List.getElem_of_mem hx2
   exact (hr h0).2 j hj (Nat.zero_le _)
theorem options_ok {xs : List XOption} (ok : (D.sl (List.map XOption.row xs)).Ok) : xs.length ≤ maxLen ∧ ∀ x ∈ xs,x.Passages.length ≤ maxLen :=
 ⟨len_ok ok,fun x hx => len_ok (row := XPassage.row) (ok.sl.2 (XOption.row x) (List.mem_map_of_mem hx) (.sl (List.map XPassage.row x.Passages)) (by simp [XOption.row_eq]))⟩
theorem wrap8 {n : Int} (h0 : 0 ≤ n) (h1 : n ≤ 255) : IntKind.u8.wrap n = n := by
 rw [IntKind.wrap_u8]
 omega
theorem catB_of {m n : Nat} (h : m + n ≤ 140737488355328) : catB m n = true := by
 unfold catB
 rw [decide_eq_true_eq]
 omega
theorem ifc {α : Type} {m n : Nat} (h : m + n ≤ 140737488355328) (x y : α) : (if catB m n = true then x else y) = x := by rw [if_pos (catB_of h)]
theorem dg8 {k : Nat} (h : k < 10) : ([IntKind.u8.wrap (48 + (k : Int))] : List Int).map toU8 = [UInt8.ofNat (48 + k)] := by
 rw [wrap8 (by omega) (by omega)]
 simp only [List.map_cons,List.map_nil,toU8]
 congr 2
theorem itoa_nn (u : Nat) : itoa (u : Int) = decDigits u := itoa_nonneg u
theorem fmt_loop (rec_ : Int → Option (List UInt8)) : ∀ (u n : Nat) (s : List UInt8),u < n → u ≤ 9223372036854775807 → s.length + (decDigits u).length ≤ 1000 → f_spec_FormatInt_1 rec_ n (u : Int) s = some (decDigits u ++ s) := by
 intro u
 induction u using Nat.strongRecOn with
 | _ u ih =>
  intro n s hn hu hs
  obtain ⟨m,rfl⟩ : ∃ m,n = m + 1 := ⟨n - 1,by omega⟩
  have hd1 : 1 ≤ (decDigits u).length := by have := decDigits_ne u; cases h : decDigits u <;> simp_all
  rw [f_spec_FormatInt_1]
  by_cases h : u < 10
  ·have hd : ¬ ((9 : Int) < (u : Int)) := by omega
   simp only [hd,decide_false,Bool.false_eq_true,if_false]
   rw [wrap64 (by omega) (by omega),dg8 h,ifc (by simp; omega),decDigits_one h]
  ·have hd : (9 : Int) < (u : Int) := by omega
   simp only [hd,decide_true,if_true]
   have e1 : Int.tmod (u : Int) 10 = ((u % 10 : Nat) : Int) := by rw [Int.tmod_eq_emod_of_nonneg (by omega)]; rfl
   have e2 : Int.tdiv (u : Int) 10 = ((u / 10 : Nat) : Int) := by rw [Int.tdiv_eq_ediv_of_nonneg (by omega)]; rfl
   rw [e1,e2,wrap64 (show -9223372036854775808 ≤ ((u % 10 : Nat) : Int) by omega) (by omega),wrap64 (by omega) (by omega),wrap64 (by omega) (by omega),dg8 (by omega),ifc (by simp; omega)]
   rw [decDigits_big h] at hs
   rw [ih (u / 10) (by omega) m _ (by omega) (by omega) (by simp at hs ⊢; omega),decDigits_big h]
   simp
theorem nd_le : ∀ (k u : Nat),u < 10 ^ (k + 1) → nDigits u ≤ k + 1
 | 0,u,h => by rw [nDigits_small (by simpa using h)]; exact Nat.le_refl _
 | k + 1,u,h => by
  by_cases h9 : u < 10
  ·rw [nDigits_small h9]; omega
  ·rw [nDigits_big h9]
   have := nd_le k (u / 10) (by rw [Nat.pow_succ] at h; omega)
   omega
theorem dec_len (u : Nat) (h : u ≤ 9223372036854775808) : (decDigits u).length ≤ 19 := by
 rw [decDigits_length]
 exact nd_le 18 u (by omega)
theorem tdiv_neg (u : Nat) : Int.tdiv (-(u : Int)) 10 = -((u / 10 : Nat) : Int) := by
 rw [Int.neg_tdiv,Int.tdiv_eq_ediv_of_nonneg (by omega)]; rfl
theorem tmod_neg (u : Nat) : Int.tmod (-(u : Int)) 10 = -((u % 10 : Nat) : Int) := by
 rw [Int.neg_tmod,Int.tmod_eq_emod_of_nonneg (by omega)]; rfl
theorem itoa_ng {u : Nat} (h : 1 ≤ u) : itoa (-(u : Int)) = 45 :: decDigits u := itoa_neg u h
theorem fmt_neg : ∀ (u n : Nat),u < n → 1 ≤ u → u ≤ 9223372036854775808 → f_spec_FormatInt_r n (-(u : Int)) = some (45 :: decDigits u) := by
 intro u
 induction u using Nat.strongRecOn with
 | _ u ih =>
  intro n hn h1 hu
  obtain ⟨m,rfl⟩ : ∃ m,n = m + 1 := ⟨n - 1,by omega⟩
  have hl := dec_len u hu
  rw [f_spec_FormatInt_r,f_spec_FormatInt_b]
  have hd : -(u : Int) < 0 := by omega
  simp only [hd,decide_true,if_true]
  rw [tdiv_neg,tmod_neg,wrap64 (show -9223372036854775808 ≤ -((u / 10 : Nat) : Int) by omega) (by omega)]
  by_cases h : u < 10
  ·have e0 : u / 10 = 0 := by omega
   rw [e0]
   simp only [Int.ofNat_zero,Int.neg_zero,beq_self_eq_true,if_true]
   rw [show (48 : Int) - -(u : Int) = 48 + (u : Int) by omega,wrap64 (by omega) (by omega),dg8 h,ifc (by simp),decDigits_one h]
   rfl
  ·have hne : (-((u / 10 : Nat) : Int) == 0) = false := by simp; omega
   simp only [hne,Bool.false_eq_true,if_false]
   rw [ih (u / 10) (by omega) m (by omega) (by omega) (by omega)]
   have hl2 := dec_len (u / 10) (by omega)
   simp only [Option.bind_some]
   rw [wrap64 (show -9223372036854775808 ≤ -((u % 10 : Nat) : Int) by omega) (by omega),show (48 : Int) - -((u % 10 : Nat) : Int) = 48 + ((u % 10 : Nat) : Int) by omega,wrap64 (by omega) (by omega),dg8 (by omega),ifc (by simp; omega),decDigits_big h]
   simp
theorem fmt_eq {n : Int} (h : i64 n) : f_spec_FormatInt n = some (itoa n) := by
 obtain ⟨h1,h2⟩ := h
 unfold f_spec_FormatInt
 by_cases hn : n < 0
 ·obtain ⟨u,rfl⟩ : ∃ u : Nat,n = -(u : Int) := ⟨n.natAbs,by omega⟩
  rw [fmt_neg u bigN (by rw [bigN_val]; omega) (by omega) (by omega),itoa_ng (by omega)]
 ·obtain ⟨u,rfl⟩ : ∃ u : Nat,n = (u : Int) := ⟨n.toNat,by omega⟩
  obtain ⟨m,hm⟩ : ∃ m,bigN = m + 1 := ⟨bigN - 1,by rw [bigN_val]⟩
  have e : f_spec_FormatInt_r bigN (u : Int) = f_spec_FormatInt_b (f_spec_FormatInt_r m) u := by rw [hm,f_spec_FormatInt_r]
  have hd : ¬ (u : Int) < 0 := by omega
  have hl := dec_len u (by omega)
  rw [e,f_spec_FormatInt_b]
  simp only [hd,decide_false,Bool.false_eq_true,if_false]
  rw [fmt_loop _ u bigN [] (by rw [bigN_val]; omega) (by omega) (by simp; omega),itoa_nn]
  simp
theorem impl_fmt_eq {n : Int} (h : i64 n) : f_impl_FormatInt n = some (itoa n) := by
 simp [f_impl_FormatInt,f_strconv_Itoa,h]
theorem impl_join_eq {l : List (List UInt8)} {sep : List UInt8} (hl : l.length ≤ 140737488355328) (hj : (join l sep).length ≤ 140737488355328) : f_impl_Join l sep = some (join l sep) := by
 simp [f_impl_Join,f_strings_Join,hl,hj]
theorem push_loop {α β R : Type} {L : Nat → Int → List β → Option R} (xs : List α) (g : α → β) (K : List β → Option R) (hl : xs.length ≤ maxLen)
  (hs : ∀ (n i : Nat) (acc : List β) (h : i < xs.length),acc.length = i → L (n + 1) (i : Int) acc = L n (IntKind.i64.wrap ((i : Int) + 1)) (acc ++ [g xs[i]])) (he : ∀ n acc,acc.length = xs.length → L (n + 1) (xs.length : Int) acc = K acc) : L bigN 0 [] = K (xs.map g) := by
 have key : ∀ (k i n : Nat) (acc : List β),i + k = xs.length → k < n → acc = (xs.take i).map g → L n (i : Int) acc = K (xs.map g) := by
  intro k
  induction k with
  | zero =>
   intro i n acc hi hn ha
   obtain ⟨m,rfl⟩ : ∃ m,n = m + 1 := ⟨n - 1,by omega⟩
   have : i = xs.length := by omega
   subst this
   rw [List.take_length] at ha
   rw [he m acc (by rw [ha]; simp),ha]
  | succ k ih =>
   intro i n acc hi hn ha
   obtain ⟨m,rfl⟩ : ∃ m,n = m + 1 := ⟨n - 1,by omega⟩
   have hlt : i < xs.length := by omega
   rw [hs m i acc hlt (by rw [ha]; simp; omega),wrapS hlt hl]
   refine ih (i + 1) m _ (by omega) (by omega) ?_
   rw [List.take_succ_eq_append_getElem hlt,List.map_append,ha]
   rfl
 exact key xs.length 0 bigN [] (by omega) (lt_bigN hl) (by simp)
theorem markText_ex (k : Int) (h0 : 0 ≤ k) (hk : k ≤ 1000000000000) : ∃ r,f_laws_markText k = some r := by
 have key : ∀ (m n : Nat) (v : Int) (acc : List UInt8),m < n → 0 ≤ v → v < 10 ^ m → v ≤ 1000000000000 → acc.length + m ≤ 1000 → ∃ r,f_laws_markText_1 n v acc = some r := by
  intro m
  induction m with
  | zero =>
   intro n v acc hn h0 hv _ ha
   obtain ⟨q,rfl⟩ : ∃ q,n = q + 1 := ⟨n - 1,by omega⟩
   have hv0 : ¬ (0 : Int) < v := by simp at hv; omega
   refine ⟨[109] ++ acc,?_⟩
   unfold f_laws_markText_1
   simp only [hv0,decide_false,Bool.false_eq_true,if_false]
   rw [ifc (by simp; omega)]
  | succ m ih =>
   intro n v acc hn h0 hv hb ha
   obtain ⟨q,rfl⟩ : ∃ q,n = q + 1 := ⟨n - 1,by omega⟩
   unfold f_laws_markText_1
   by_cases hp : (0 : Int) < v
   ·simp only [hp,decide_true,if_true]
    rw [ifc (by simp; omega)]
    have e : Int.tdiv v 10 = v / 10 := Int.tdiv_eq_ediv_of_nonneg h0
    rw [e,wrap64 (by omega) (by omega)]
    refine ih q _ _ (by omega) (by omega) ?_ (by omega) (by simp; omega)
    have : (10 : Int) ^ (m + 1) = 10 ^ m * 10 := Int.pow_succ 10 m
    omega
   ·simp only [hp,decide_false,Bool.false_eq_true,if_false]
    exact ⟨[109] ++ acc,by rw [ifc (by simp; omega)]⟩
 unfold f_laws_markText
 by_cases h : k ≤ 0
 ·exact ⟨[109,48],by simp only [h,decide_true,if_true]⟩
 ·simp only [h,decide_false,Bool.false_eq_true,if_false]
  exact key 13 bigN k [] (lt_bigN (by rw [maxLen_val]; omega)) h0 (by simp; omega) hk (by simp)
def mk (k : Int) : List UInt8 := (f_laws_markText k).getD []
theorem markText_mk {k : Int} (h0 : 0 ≤ k) (hk : k ≤ 1000000000000) : f_laws_markText k = some (mk k) := by
 obtain ⟨r,h⟩ := markText_ex k h0 hk
 simp [mk,h]
theorem markStringS_of (xs : List (List UInt8)) (k : Int) (h0 : 0 ≤ k) (hk : k ≤ 10000000000) (hl : xs.length ≤ 1048576) : ∃ ys,f_laws_markStringS xs k = some (k + 1 * (xs.length : Int),ys) ∧ ys.length = xs.length ∧ f_laws_heldStringS ys k = some (k + 1 * (xs.length : Int)) := by
 unfold f_laws_markStringS f_laws_heldStringS
 refine mark_loop (Lm := f_laws_markStringS_1) (Lh := f_laws_heldStringS_1) xs 1 mk k h0 (by omega) hl hk (fun n i k acc hi ha k0 k1 => ?_) (fun n k acc => by simp [f_laws_markStringS_1]) (fun n i k ys hi hy k0 k1 he => ?_) (fun n k ys => by simp [f_laws_heldStringS_1])
 ·simp only [f_laws_markStringS_1,dec_nn,hi,decide_true,if_true,markText_mk k0 (show k ≤ 1000000000000 by omega),ix_at hi,Option.bind_some,wrapS hi (le_max ha),wrapk k0 (show k ≤ 1000000000000 by omega),Int.toNat_natCast]
  rfl
 ·simp only [f_laws_heldStringS_1,dec_nn,hi,decide_true,if_true,markText_mk k0 (show k ≤ 1000000000000 by omega),ix_at hi,Option.bind_some,wrapS hi (le_max hy),wrapk k0 (show k ≤ 1000000000000 by omega),he,beq_self_eq_true]
  rfl
theorem eqStringS_self {xs : List (List UInt8)} (h : xs.length ≤ maxLen) : f_laws_eqStringS xs xs = some true := by
 have key : ∀ (k i n : Nat),i + k = xs.length → k < n → f_laws_eqStringS_1 xs xs n (i : Int) = some true := by
  intro k
  induction k with
  | zero =>
   intro i n hi hn
   obtain ⟨m,rfl⟩ : ∃ m,n = m + 1 := ⟨n - 1,by omega⟩
   have : i = xs.length := by omega
   subst this
   simp [f_laws_eqStringS_1]
  | succ k ih =>
   intro i n hi hn
   obtain ⟨m,rfl⟩ : ∃ m,n = m + 1 := ⟨n - 1,by omega⟩
   have hlt : i < xs.length := by omega
   simp only [f_laws_eqStringS_1,dec_nn,hlt,decide_true,if_true,ix_at hlt,Option.bind_some,bne_self_eq_false,beq_self_eq_true,Bool.false_eq_true,if_false]
   rw [wrapS hlt h]
   exact ih (i + 1) m (by omega) (by omega)
 unfold f_laws_eqStringS
 have := key xs.length 0 bigN (by omega) (lt_bigN h)
 simpa using this
end Go.Vi
