/-
  Plain law: the least number of persons, by sets of duties from the smallest on. No condition.
-/
import Derived.Test.YtoipbdhhdpgdkaaGreatDoorCId
namespace Go.Vi
open Go.Lib
set_option linter.unusedSimpArgs false
set_option linter.unusedVariables false
section
variable {B : Nat → Nat → Bool} {N : Nat} {ms : List Nat}
def Masks (B : Nat → Nat → Bool) (N : Nat) (ms : List Nat) : Prop := ms.length = N ∧ ∀ i j : Nat,i < N → (ms[i]?.getD 0).testBit j = (decide (j < N) && (decide (i ≠ j) && B i j))
theorem clq_zero : Clq B 0 := fun i j hi => by simp at hi
theorem clq_top (hB : ∀ i j,B i j = B j i) {s t : Nat} (h1 : 2 ^ t ≤ s) (h2 : s < 2 ^ (t + 1)) : Clq B s ↔ Clq B (andn s (2 ^ t)) ∧ ∀ i,(andn s (2 ^ t)).testBit i = true → B t i = true := by
 obtain ⟨a1,a2,a3,a4⟩ := top_rest h1 h2
 constructor
 ·intro h
  exact ⟨fun i j hi hj => h i j (a3 i hi) (a3 j hj),fun i hi => h t i a1 (a3 i hi) (by have := tb_lt a2 hi; omega)⟩
 ·rintro ⟨k1,k2⟩ i j hi hj hne
  rcases a4 i hi with rfl | hi
  ·rcases a4 j hj with rfl | hj
   ·exact absurd rfl hne
   ·exact k2 j hj
  ·rcases a4 j hj with rfl | hj
   ·rw [hB]; exact k2 i hi
   ·exact k1 i j hi hj hne
theorem andn_zero {a b : Nat} : andn a b = 0 ↔ ∀ i,a.testBit i = true → b.testBit i = true := by
 constructor
 ·intro h i hi
  have := tb_andn a b i
  rw [h,hi] at this
  cases hb : b.testBit i with
  | true => rfl
  | false => rw [hb] at this; simp at this
 ·intro h
  apply Nat.eq_of_testBit_eq
  intro i
  rw [tb_andn,Nat.zero_testBit]
  cases hi : a.testBit i with
  | false => rfl
  | true => rw [h i hi]; rfl
theorem andn_le (a b : Nat) : andn a b ≤ a := by
 rcases Nat.lt_or_ge a (andn a b) with h | h
 ·obtain ⟨i,h1,h2⟩ := Nat.exists_testBit_ne_of_ne (Nat.ne_of_lt h) |>.elim fun i hi => (⟨i,hi,trivial⟩ : ∃ i,a.testBit i ≠ (andn a b).testBit i ∧ True)
  exfalso
  have : andn a b &&& a = andn a b := of_sub fun i hi => by
   rw [tb_andn,Bool.and_eq_true] at hi
   exact hi.1
  have h3 := @Nat.and_le_right (andn a b) a
  omega
 ·exact h
def TgOk (B : Nat → Nat → Bool) (tg : List Bool) (s : Nat) : Prop := ∀ x,x < s → (tg[x]?.getD false = true ↔ Clq B x)
def LsOk (B : Nat → Nat → Bool) (ls : List Nat) (s : Nat) : Prop := ∀ x,x < s → Least B x (ls[x]?.getD 0)
theorem least_le (hN : N ≤ 12) {x n : Nat} (hx : x < 2 ^ N) (h : Least B x n) : n ≤ 12 := Nat.le_trans (h.2 N (cov_id hx)) hN
theorem ix_tg {tg : List Bool} {x : Nat} (h : x < tg.length) : ix tg (x : Int) = some (tg[x]?.getD false) := by
 rw [ix_nn,List.getElem?_eq_getElem h]; rfl
theorem ix_ls {ls : List Nat} {x : Nat} (h : x < ls.length) : ix (nn ls) (x : Int) = some (((ls[x]?.getD 0 : Nat)) : Int) := by
 rw [nn_ix h,List.getElem?_eq_getElem h]; rfl
theorem pow12 (hN : N ≤ 12) : 2 ^ N ≤ 4096 := by
 have := Nat.pow_le_pow_right (show 0 < 2 by omega) hN
 simpa using this
theorem least_inner (hN : N ≤ 12) (y5 : Int) {s t : Nat} (hs : s < 2 ^ N) (h1 : 2 ^ t ≤ s) (h2 : s < 2 ^ (t + 1)) {tg : List Bool} {ls : List Nat} (htl : tg.length = 2 ^ N) (hll : ls.length = 2 ^ N) (ht : TgOk B tg (s + 1)) (hl : LsOk B ls s) (K : Int → List Bool → List Int → Option Int) :
  ∀ (n q c : Nat),q < n → q &&& andn s (2 ^ t) = q → Cov B s c → c ≤ 100 → (∀ q',q' &&& andn s (2 ^ t) = q' → q < q' → Clq B (q' ||| 2 ^ t) → c ≤ 1 + ls[andn (andn s (2 ^ t)) q']?.getD 0) →
   ∃ c',Least B s c' ∧ f_impl_leastPersons_3 (nn ms) y5 (s : Int) (t : Int) ((andn s (2 ^ t) : Nat) : Int) tg K n (q : Int) (nn (ls.set s c)) = K (IntKind.i64.wrap ((s : Int) + 1)) tg (nn (ls.set s c')) := by
 obtain ⟨a1,a2,a3,a4⟩ := top_rest h1 h2
 have hp := pow12 hN
 have h2s : andn s (2 ^ t) < s := Nat.lt_of_lt_of_le a2 h1
 generalize hr : andn s (2 ^ t) = r at a2 a3 a4 h2s
 intro n
 induction n with
 | zero => intro q c hq; omega
 | succ n ih =>
  intro q c hq hsub hc hc1 hall
  have ht12 : t < 12 := by
   rcases Nat.lt_or_ge t 12 with h | h
   ·exact h
   ·have := Nat.pow_le_pow_right (show 0 < 2 by omega) h
    simp at this
    omega
  have hqr : q ≤ r := by have := @Nat.and_le_right q r; omega
  have hor : q ||| 2 ^ t ≤ s := by
   have hsb : (q ||| 2 ^ t) &&& s = q ||| 2 ^ t := of_sub fun i hi => by
    rw [Nat.testBit_or,tb_pow,Bool.or_eq_true,decide_eq_true_eq] at hi
    rcases hi with h | h
    ·exact a3 i (sub_of hsub h)
    ·subst h; exact a1
   have := @Nat.and_le_right (q ||| 2 ^ t) s
   omega
  have hsml : ∀ x : Nat,x ≤ s → x < 2 ^ 63 := fun x hx => Nat.lt_of_le_of_lt hx (Nat.lt_of_lt_of_le hs (Nat.le_trans hp (by decide)))
  have hand : andn r q < s := Nat.lt_of_le_of_lt (andn_le r q) h2s
  have hset : s < (ls.set s c).length := by simp; omega
  have hnext : ∀ c1 : Nat,Cov B s c1 → c1 ≤ 100 → (∀ q',q' &&& r = q' → q ≤ q' → Clq B (q' ||| 2 ^ t) → c1 ≤ 1 + ls[andn r q']?.getD 0) →
    ∃ c',Least B s c' ∧ f_impl_leastPersons_4 (nn ms) y5 (s : Int) (t : Int) (r : Int) (q : Int) tg K (f_impl_leastPersons_3 (nn ms) y5 (s : Int) (t : Int) (r : Int) tg K n) (nn (ls.set s c1)) = K (IntKind.i64.wrap ((s : Int) + 1)) tg (nn (ls.set s c')) := by
   intro c1 g1 g2 g3
   unfold f_impl_leastPersons_4
   by_cases h0 : q = 0
   ·subst h0
    refine ⟨c1,⟨g1,fun m hm => ?_⟩,by rw [if_pos (by simp)]⟩
    obtain ⟨q',n',e1,e2,e3,e4⟩ := cov_split a1 a3 hm
    have := (hl (andn r q') (Nat.lt_of_le_of_lt (andn_le r q') h2s)).2 n' e4
    have := g3 q' e1 (Nat.zero_le _) e2
    omega
   ·rw [if_neg (by simpa using h0)]
    have ew : IntKind.i64.wrap ((q : Int) - 1) = ((q - 1 : Nat) : Int) := by
     rw [show (q : Int) - 1 = ((q - 1 : Nat) : Int) by omega]
     exact nat_i64 (hsml _ (by omega))
    rw [ew,and_i64 (hsml _ (by omega)) (hsml _ (by omega))]
    have hlt := @and_lt q r (by omega)
    refine ih ((q - 1) &&& r) c1 (by omega) (and_sub _ _) g1 g2 fun q' e1 e2 e3 => ?_
    refine g3 q' e1 ?_ e3
    rcases Nat.lt_or_ge q' q with h | h
    ·have := next_sub r r q q' (Nat.le_refl _) hsub e1 h
     omega
    ·exact h
  rw [f_impl_leastPersons_3,if_neg (by simp),shl_i64 (by omega),or_i64 (hsml _ (by omega)) (hsml _ (by omega)),ix_tg (by omega),Option.bind_some]
  have hk := ht (q ||| 2 ^ t) (by omega)
  cases hb : tg[q ||| 2 ^ t]?.getD false with
  | false =>
   rw [if_neg (by simp)]
   refine hnext c hc hc1 fun q' e1 e2 e3 => ?_
   rcases Nat.lt_or_ge q q' with h | h
   ·exact hall q' e1 h e3
   ·have : q' = q := by omega
    subst this
    rw [hb] at hk
    exact absurd (hk.2 e3) (by simp)
  | true =>
   rw [if_pos rfl]
   have hcq := hk.1 hb
   have e26 : ix (nn (ls.set s c)) (s : Int) = some (c : Int) := by
    rw [nn_ix hset,List.getElem_set_self]
   have e27 : ix (nn (ls.set s c)) (bitsV .andNot .i64 (r : Int) (q : Int)) = some ((ls[andn r q]?.getD 0 : Nat) : Int) := by
    rw [andn_i64 (hsml _ (by omega)) (hsml _ (by omega)),ix_ls (by simp; omega),List.getElem?_set_ne (by omega)]
   rw [e26,Option.bind_some,e27,Option.bind_some]
   have hle := hl (andn r q) hand
   have h12 := least_le hN (Nat.lt_trans hand hs) hle
   generalize hv : ls[andn r q]?.getD 0 = v at hle h12
   have ew : IntKind.i64.wrap ((1 : Int) + (v : Int)) = ((1 + v : Nat) : Int) := by
    rw [show (1 : Int) + (v : Int) = ((1 + v : Nat) : Int) by omega]
    exact nat_i64 (by omega)
   have emin : (if IntKind.i64.wrap ((1 : Int) + (v : Int)) < (c : Int) then IntKind.i64.wrap ((1 : Int) + (v : Int)) else (c : Int)) = ((if 1 + v < c then 1 + v else c : Nat) : Int) := by
    rw [ew]
    by_cases h : 1 + v < c
    ·rw [if_pos (by omega),if_pos h]
    ·rw [if_neg (by omega),if_neg h]
   rw [emin,Int.toNat_natCast,nn_set,List.set_set]
   refine hnext _ ?_ (by split <;> omega) fun q' e1 e2 e3 => ?_
   ·split
    ·exact cov_join a4 hcq hle.1
    ·exact hc
   ·rcases Nat.lt_or_ge q q' with h | h
    ·have := hall q' e1 h e3
     split <;> omega
    ·have : q' = q := by omega
     subst this
     rw [hv]
     split <;> omega
theorem leastPersons_eq (hB : ∀ i j,B i j = B j i) (hN : N ≤ 12) (hm : Masks B N ms) : ∃ n : Nat,Least B (2 ^ N - 1) n ∧ n ≤ 12 ∧ f_impl_leastPersons (nn ms) = some (n : Int) := by
 have hp := pow12 hN
 have hp0 : 0 < 2 ^ N := Nat.pow_pos (by omega)
 obtain ⟨hml,hmb⟩ := hm
 have key : ∀ (k s n : Nat) (tg : List Bool) (ls : List Nat),s + k = 2 ^ N → k < n → 1 ≤ s → tg.length = 2 ^ N → ls.length = 2 ^ N → TgOk B tg s → LsOk B ls s →
   ∃ v : Nat,Least B (2 ^ N - 1) v ∧ v ≤ 12 ∧ f_impl_leastPersons_1 (nn ms) ((2 ^ N : Nat) : Int) n (s : Int) tg (nn ls) = some (v : Int) := by
  intro k
  induction k with
  | zero =>
   intro s n tg ls hs hn hs1 htl hll ht hl
   obtain ⟨n,rfl⟩ : ∃ n',n = n' + 1 := ⟨n - 1,by omega⟩
   have := hl (2 ^ N - 1) (by omega)
   refine ⟨_,this,least_le hN (by omega) this,?_⟩
   have ew : IntKind.i64.wrap (((2 ^ N : Nat) : Int) - 1) = ((2 ^ N - 1 : Nat) : Int) := by
    rw [show ((2 ^ N : Nat) : Int) - 1 = ((2 ^ N - 1 : Nat) : Int) by omega]
    exact nat_i64 (by omega)
   rw [f_impl_leastPersons_1,if_neg (by simp only [dec_nn,decide_eq_true_eq]; omega),ew,ix_ls (by omega),Option.bind_some]
  | succ k ih =>
   intro s n tg ls hs hn hs1 htl hll ht hl
   obtain ⟨n,rfl⟩ : ∃ n',n = n' + 1 := ⟨n - 1,by omega⟩
   obtain ⟨t,e1,h1,h2,ht12⟩ := len_eq hs1 (show s < 4096 by omega)
   obtain ⟨a1,a2,a3,a4⟩ := top_rest h1 h2
   have htN : t < N := tb_lt (show s < 2 ^ N by omega) a1
   have h2s : andn s (2 ^ t) < s := Nat.lt_of_lt_of_le a2 h1
   have hsml : ∀ x : Nat,x ≤ s → x < 2 ^ 63 := fun x hx => by
    have : (4096 : Nat) < 2 ^ 63 := by decide
    omega
   have ew : IntKind.i64.wrap (((t + 1 : Nat) : Int) - 1) = (t : Int) := by
    rw [show ((t + 1 : Nat) : Int) - 1 = (t : Int) by omega]
    exact nat_i64 (by omega)
   have er : bitsV .andNot .i64 (s : Int) (shlV .i64 (1 : Int) (t : Int)) = ((andn s (2 ^ t) : Nat) : Int) := by
    rw [shl_i64 (by omega),andn_i64 (hsml _ (Nat.le_refl _)) (hsml _ h1)]
   have hu : IntKind.u64.wrap (s : Int) = (s : Int) := nat_u64 (by omega)
   have hct := clq_top hB h1 h2
   have rest : ∀ b : Bool,(b = true ↔ Clq B s) → ∃ v : Nat,Least B (2 ^ N - 1) v ∧ v ≤ 12 ∧
     f_impl_leastPersons_2 (nn ms) ((2 ^ N : Nat) : Int) (s : Int) (nn ls) (f_impl_leastPersons_1 (nn ms) ((2 ^ N : Nat) : Int) n) (t : Int) ((andn s (2 ^ t) : Nat) : Int) (tg.set s b) = some (v : Int) := by
    intro b hb
    have ht' : TgOk B (tg.set s b) (s + 1) := fun x hx => by
     by_cases h : s = x
     ·subst h
      rw [List.getElem?_set_self (by omega)]
      exact hb
     ·rw [List.getElem?_set_ne h]
      exact ht x (by omega)
    unfold f_impl_leastPersons_2
    rw [ix_ls (by omega),Option.bind_some,nn_len,hml,Int.toNat_natCast,nn_set]
    obtain ⟨c',k1,k2⟩ := least_inner (ms := ms) hN ((2 ^ N : Nat) : Int) (show s < 2 ^ N by omega) h1 h2 (tg := tg.set s b) (ls := ls) (by simpa using htl) hll ht' hl (f_impl_leastPersons_1 (nn ms) ((2 ^ N : Nat) : Int) n) bigN (andn s (2 ^ t)) N (by rw [bigN_val]; omega) (Nat.and_self _) (cov_id (by omega)) (by omega) (fun q' g1 g2 => by
     have := @Nat.and_le_right q' (andn s (2 ^ t))
     omega)
    rw [k2,wrapS (show s < 4096 by omega) (by rw [maxLen_val]; omega)]
    refine ih (s + 1) n (tg.set s b) (ls.set s c') (by omega) (by omega) (by omega) (by simpa using htl) (by simpa using hll) ht' fun x hx => ?_
    by_cases h : s = x
    ·subst h
     rw [List.getElem?_set_self (by omega)]
     exact k1
    ·rw [List.getElem?_set_ne h]
     exact hl x (by omega)
   rw [f_impl_leastPersons_1,dec_nn,if_pos (by simp; omega),hu,e1,Option.bind_some,ew,if_neg (by simp),er,ix_tg (by omega),Option.bind_some,Int.toNat_natCast]
   have hk := ht (andn s (2 ^ t)) h2s
   cases hb : tg[andn s (2 ^ t)]?.getD false with
   | true =>
    rw [if_pos rfl,ix_ls (by omega),Option.bind_some,ix_tg (by omega),Option.bind_some]
    have hmt : ms[t]?.getD 0 < 2 ^ 12 := lt_of_bits fun j hj => by
     rw [hmb t j htN,Bool.and_eq_true,decide_eq_true_eq] at hj
     omega
    rw [nat_u64 (n := andn s (2 ^ t)) (by omega),andn_u64 (by omega) (Nat.lt_trans hmt (by decide)),beq_zero]
    refine rest _ ?_
    rw [decide_eq_true_eq,andn_zero,hct]
    constructor
    ·intro h
     refine ⟨hk.1 hb,fun i hi => ?_⟩
     have := h i hi
     rw [hmb t i htN] at this
     simp at this
     exact this.2.2
    ·rintro ⟨_,h⟩ i hi
     have hit := tb_lt a2 hi
     rw [hmb t i htN,h i hi]
     simp
     omega
   | false =>
    rw [if_neg (by simp),ix_tg (by omega),Option.bind_some]
    refine rest false ?_
    rw [hct]
    constructor
    ·intro h; cases h
    ·rintro ⟨h,_⟩
     have := hk.2 h
     rw [hb] at this
     cases this
 unfold f_impl_leastPersons
 have hm1 : ∀ b : Nat,b ≤ 1000 → mkS (shlV .i64 (1 : Int) ((N : Nat) : Int)) (shlV .i64 (1 : Int) ((N : Nat) : Int)) b = some (2 ^ N) := fun b hb => by
  rw [shl_i64 (by omega)]; exact mkS_len (by omega) hb
 rw [nn_len,hml,if_neg (by simp),hm1 1 (by omega),Option.bind_some,hm1 8 (by omega),Option.bind_some,shl_i64 (by omega)]
 have e0 : ix (List.replicate (2 ^ N) false) (0 : Int) = some false := by
  have := ix_at (l := List.replicate (2 ^ N) false) (i := 0) (by simpa using hp0)
  simpa using this
 have hz : List.replicate (2 ^ N) (0 : Int) = nn (List.replicate (2 ^ N) 0) := by simp [nn]
 rw [e0,Option.bind_some,hz]
 obtain ⟨v,k1,k2,k3⟩ := key (2 ^ N - 1) 1 bigN ((List.replicate (2 ^ N) false).set 0 true) (List.replicate (2 ^ N) 0) (by omega) (by rw [bigN_val]; omega) (by omega) (by simp) (by simp)
  (fun x hx => by
   have : x = 0 := by omega
   subst this
   rw [List.getElem?_set_self (by simpa using hp0)]
   exact ⟨fun _ => clq_zero,fun _ => rfl⟩)
  (fun x hx => by
   have : x = 0 := by omega
   subst this
   rw [List.getElem?_replicate,if_pos hp0]
   exact least_zero)
 exact ⟨v,k1,k2,k3⟩
end
end Go.Vi
