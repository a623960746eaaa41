/-
  Plain law: the search for a cover finds one where there is one; the one that looks for names of persons comes to an end. No condition.
-/
import Derived.Test.YtoipbdhhdpgdkaaGreatDoorCIe
namespace Go.Vi
open Go.Lib
set_option linter.unusedSimpArgs false
set_option linter.unusedVariables false
theorem andn_or {g i : Nat} (h : g < 2 ^ i) : andn (g ||| 2 ^ i) (2 ^ i) = g := by
 apply Nat.eq_of_testBit_eq
 intro j
 rw [tb_andn,Nat.testBit_or,tb_pow]
 by_cases hj : i = j
 ·subst hj
  rw [Nat.testBit_lt_two_pow h]
  simp
 ·simp [hj]
theorem set_same {α : Type} {l : List α} {i : Nat} {x : α} (h : l[i]? = some x) : l.set i x = l := by
 apply List.ext_getElem?
 intro j
 by_cases hij : i = j
 ·subst hij
  rw [List.getElem?_set_self (List.getElem?_eq_some_iff.1 h).1,h]
 ·rw [List.getElem?_set_ne hij]
theorem cover_total : ∀ (d fuel : Nat) (sm gs : List Nat) (most : Int) (who : List Int),who.length + d = sm.length → d < fuel → (∀ x ∈ sm,x < 2 ^ 12) → sm.length ≤ 12 → (∀ g ∈ gs,0 < g ∧ g < 2 ^ who.length) → gs.length ≤ who.length →
  ∃ b r,f_impl_coverer_cover_r fuel ⟨nn sm,most,nn gs,who⟩ = some (b,r) ∧ r.most = most ∧ (b = false → r = ⟨nn sm,most,nn gs,who⟩) := by
 intro d
 induction d with
 | zero =>
  intro fuel sm gs most who hd hf h1 h2 h3 h4
  obtain ⟨fuel,rfl⟩ : ∃ n',fuel = n' + 1 := ⟨fuel - 1,by omega⟩
  refine ⟨true,⟨nn sm,most,nn gs,who⟩,?_,rfl,fun h => by cases h⟩
  rw [f_impl_coverer_cover_r,f_impl_coverer_cover_b,if_pos (by simp [nn_len]; omega)]
 | succ d ih =>
  intro fuel sm gs most who hd hf h1 h2 h3 h4
  obtain ⟨fuel,rfl⟩ : ∃ n',fuel = n' + 1 := ⟨fuel - 1,by omega⟩
  rw [f_impl_coverer_cover_r,f_impl_coverer_cover_b,if_neg (by simp [nn_len]; omega)]
  have hi12 : who.length ≤ 11 := by omega
  have hpw : 2 ^ who.length < 2 ^ 64 := Nat.pow_lt_pow_right (by omega) (by omega)
  have hp0 : 0 < 2 ^ who.length := Nat.pow_pos (by omega)
  have hpd : 2 ^ (who.length + 1) = 2 ^ who.length + 2 ^ who.length := by rw [Nat.pow_succ]; omega
  have hsi : who.length < sm.length := by omega
  have hsm : sm[who.length] < 2 ^ 64 := Nat.lt_trans (h1 _ (List.getElem_mem hsi)) (by decide)
  have key : ∀ (k p n : Nat),p + k = gs.length + 1 → k < n → ∃ b r,f_impl_coverer_cover_1 (f_impl_coverer_cover_r fuel) ⟨nn sm,most,nn gs,who⟩ n (p : Int) (nn sm) most (nn gs) who = some (b,r) ∧ r.most = most ∧ (b = false → r = ⟨nn sm,most,nn gs,who⟩) := by
   intro k
   induction k with
   | zero =>
    intro p n hp hn
    obtain ⟨n,rfl⟩ : ∃ n',n = n' + 1 := ⟨n - 1,by omega⟩
    refine ⟨false,_,?_,rfl,fun _ => rfl⟩
    rw [f_impl_coverer_cover_1,if_neg (by simp [nn_len]; omega)]
   | succ k ihk =>
    intro p n hp hn
    obtain ⟨n,rfl⟩ : ∃ n',n = n' + 1 := ⟨n - 1,by omega⟩
    have hpl : p ≤ gs.length := by omega
    rw [f_impl_coverer_cover_1,if_pos (by simp [nn_len]; omega)]
    cases hmost : decide ((p : Int) < most) with
    | false => exact ⟨false,_,by rw [if_neg (by simp)],rfl,fun _ => rfl⟩
    | true =>
     rw [if_pos rfl]
     by_cases hpe : p = gs.length
     ·-- a new person
      rw [if_pos (by simp [nn_len]; omega),if_pos (app_ok (by simp [nn_len]; omega) (by omega))]
      have e0 : nn gs ++ [(0 : Int)] = nn (gs ++ [0]) := nn_app gs 0
      rw [e0]
      unfold f_impl_coverer_cover_2
      dsimp only
      have hpg : p < (gs ++ [0]).length := by simp; omega
      have hg0 : (gs ++ [0])[p] = 0 := by simp [hpe]
      rw [nn_ix hpg,Option.bind_some,hg0,nn_ix hsi,Option.bind_some,andn_u64 (by decide) hsm]
      have ez : andn 0 sm[who.length] = 0 := andn_zero.2 fun i hi => by simp at hi
      rw [ez,if_pos (by simp),if_neg (by simp),if_pos (app_ok (by simp; omega) (by omega)),shl_u64 (by omega),or_u64 (by decide) hpw,Nat.zero_or,Int.toNat_natCast,nn_set]
      have es : (gs ++ [0]).set p (2 ^ who.length) = gs ++ [2 ^ who.length] := by
       rw [List.set_append_right _ _ (by omega)]
       simp [hpe]
      rw [es]
      obtain ⟨b,r,k1,k2,k3⟩ := ih fuel sm (gs ++ [2 ^ who.length]) most (who ++ [(p : Int)]) (by simp; omega) (by omega) h1 h2 (fun g hg => by
       rw [List.length_append,List.length_singleton,hpd]
       rcases List.mem_append.1 hg with hg | hg
       ·have := h3 g hg; omega
       ·rw [List.mem_singleton] at hg; omega) (by simp; omega)
      rw [k1,Option.bind_some]
      cases b with
      | true => exact ⟨true,r,by rw [if_pos rfl],k2,fun h => by cases h⟩
      | false =>
       have := k3 rfl
       subst this
       rw [if_neg (by simp)]
       have hw : ((who ++ [(p : Int)]).length : Int) = ((who.length + 1 : Nat) : Int) := by simp
       simp only [List.length_append,List.length_singleton]
       rw [show bnd ((who.length + 1 : Nat) : Int) (who.length : Int) 0 (who.length + 1) = some (0,who.length) from bnd_take (by omega),Option.bind_some]
       have hpg2 : p < (gs ++ [2 ^ who.length]).length := by simp; omega
       have hg2 : (gs ++ [2 ^ who.length])[p] = 2 ^ who.length := by simp [hpe]
       rw [nn_ix hpg2,Option.bind_some,hg2,if_neg (by simp),andn_u64 hpw hpw,nn_set]
       have ez2 : andn (2 ^ who.length) (2 ^ who.length) = 0 := andn_zero.2 fun i hi => hi
       have es2 : (gs ++ [2 ^ who.length]).set p 0 = gs ++ [0] := by
        rw [List.set_append_right _ _ (by omega)]
        simp [hpe]
       have et : (who ++ [(p : Int)]).take who.length = who := by simp
       rw [ez2,es2,et]
       unfold f_impl_coverer_cover_3
       rw [nn_ix hpg,Option.bind_some,hg0,if_pos (by simp),nn_len]
       have hl1 : (gs ++ [0]).length = gs.length + 1 := by simp
       rw [hl1,show bnd ((gs.length + 1 : Nat) : Int) (p : Int) 0 (gs.length + 1) = some (0,p) from bnd_take (by omega),Option.bind_some]
       have et2 : (nn (gs ++ [0])).take p = nn gs := by rw [hpe]; simp [nn]
       show ∃ b r,some (false,(⟨nn sm,most,(nn (gs ++ [0])).take p,who⟩ : Xcoverer)) = some (b,r) ∧ _
       rw [et2]
       exact ⟨false,_,rfl,rfl,fun _ => rfl⟩
     ·-- one that is there
      rw [if_neg (by simp [nn_len]; omega)]
      have hpg : p < gs.length := by omega
      have hgm := h3 _ (List.getElem_mem hpg)
      have hnext : ∃ b r,f_impl_coverer_cover_3 (f_impl_coverer_cover_r fuel) ⟨nn sm,most,nn gs,who⟩ (p : Int) (f_impl_coverer_cover_1 (f_impl_coverer_cover_r fuel) ⟨nn sm,most,nn gs,who⟩ n) (nn sm) most (nn gs) who = some (b,r) ∧ r.most = most ∧ (b = false → r = ⟨nn sm,most,nn gs,who⟩) := by
       unfold f_impl_coverer_cover_3
       rw [nn_ix hpg,Option.bind_some,if_neg (by simp; omega),wrapS hpg (by rw [maxLen_val]; omega)]
       exact ihk (p + 1) n (by omega) (by omega)
      unfold f_impl_coverer_cover_2
      dsimp only
      rw [nn_ix hpg,Option.bind_some,nn_ix hsi,Option.bind_some,andn_u64 (by omega) hsm]
      cases hfit : (((andn gs[p] sm[who.length] : Nat) : Int) == 0) with
      | false => rw [if_neg (by simp)]; exact hnext
      | true =>
       rw [if_pos rfl,if_neg (by simp),if_pos (app_ok (by simp; omega) (by omega)),shl_u64 (by omega),or_u64 (by omega) hpw,Int.toNat_natCast,nn_set]
       have hor : gs[p] ||| 2 ^ who.length < 2 ^ (who.length + 1) := Nat.or_lt_two_pow (by omega) (by omega)
       have hop : 0 < gs[p] ||| 2 ^ who.length := by
        have := @Nat.left_le_or gs[p] (2 ^ who.length)
        omega
       have hor64 : gs[p] ||| 2 ^ who.length < 2 ^ 64 := Nat.or_lt_two_pow (by omega) hpw
       obtain ⟨b,r,k1,k2,k3⟩ := ih fuel sm (gs.set p (gs[p] ||| 2 ^ who.length)) most (who ++ [(p : Int)]) (by simp; omega) (by omega) h1 h2 (fun g hg => by
        rw [List.length_append,List.length_singleton]
        rcases List.mem_or_eq_of_mem_set hg with hg | hg
        ·have := h3 g hg; omega
        ·subst hg; exact ⟨hop,hor⟩) (by simp; omega)
       rw [k1,Option.bind_some]
       cases b with
       | true => exact ⟨true,r,by rw [if_pos rfl],k2,fun h => by cases h⟩
       | false =>
        have := k3 rfl
        subst this
        rw [if_neg (by simp)]
        simp only [List.length_append,List.length_singleton]
        have hps : p < (gs.set p (gs[p] ||| 2 ^ who.length)).length := by simp; omega
        rw [show bnd ((who.length + 1 : Nat) : Int) (who.length : Int) 0 (who.length + 1) = some (0,who.length) from bnd_take (by omega),Option.bind_some,nn_ix hps,Option.bind_some,List.getElem_set_self,if_neg (by simp),andn_u64 hor64 hpw,nn_set,andn_or hgm.2,List.set_set,set_same (List.getElem?_eq_getElem hpg)]
        have et : (who ++ [(p : Int)]).take who.length = who := by simp
        rw [et]
        exact hnext
  exact key (gs.length + 1) 0 bigN (by omega) (by rw [bigN_val]; omega)
section
variable {p : Int} {m : List Int} {l : List XDuty}
def ValidW (B : Nat → Nat → Bool) (w : List Nat) : Prop := ∀ (i k : Nat) (hi : i < w.length) (hk : k < i),w[i] = w[k] → B i k = true
theorem search_fits (rec_ : (List (List Bool)) → (List Int) → Int → Option ((List Int) × Bool)) (a2 v2 : Int) (K : Int → Option ((List Int) × Bool)) (c : Nat) {w : List Nat} (hw : w.length < l.length) (hN : l.length ≤ 12) :
  ∀ (r k n : Nat) (v : Bool),k + r = w.length → r < n → ∃ b : Bool,(b = true ↔ v = true ∧ ∀ (k' : Nat) (h : k' < w.length),k ≤ k' → w[k'] = c → both p m l w.length k' = true) ∧
   f_spec_l13Search_3 rec_ (rowsB p m l) (nn w) a2 v2 (c : Int) K n v (k : Int) = f_spec_l13Search_3 rec_ (rowsB p m l) (nn w) a2 v2 (c : Int) K 1 b (w.length : Int) := by
 intro r
 induction r with
 | zero =>
  intro k n v hk hn
  obtain ⟨n,rfl⟩ : ∃ n',n = n' + 1 := ⟨n - 1,by omega⟩
  have : k = w.length := by omega
  subst this
  refine ⟨v,⟨fun h => ⟨h,fun k' h1 h2 => by omega⟩,fun h => h.1⟩,?_⟩
  simp only [f_spec_l13Search_3,nn_len,dec_nn,Nat.lt_irrefl,decide_false,Bool.false_eq_true,if_false]
 | succ r ih =>
  intro k n v hk hn
  obtain ⟨n,rfl⟩ : ∃ n',n = n' + 1 := ⟨n - 1,by omega⟩
  have hlt : k < w.length := by omega
  rw [f_spec_l13Search_3,if_pos (by simp [nn_len]; omega),nn_ix hlt,Option.bind_some]
  have hwr := wrapS hlt (show w.length ≤ maxLen by rw [maxLen_val]; omega)
  by_cases hc : w[k] = c
  ·obtain ⟨x,x1,x2⟩ := rowsB_at (p := p) (m := m) hw (show k < l.length by omega)
   rw [if_pos (by simp; omega),nn_len,x1,Option.bind_some,x2,Option.bind_some]
   cases hb : both p m l w.length k with
   | true =>
    rw [if_pos rfl,hwr]
    obtain ⟨b,b1,b2⟩ := ih (k + 1) n v (by omega) (by omega)
    refine ⟨b,b1.trans ⟨fun ⟨g1,g2⟩ => ⟨g1,fun k' h1 h2 h3 => ?_⟩,fun ⟨g1,g2⟩ => ⟨g1,fun k' h1 h2 => g2 k' h1 (by omega)⟩⟩,b2⟩
    by_cases hkk : k = k'
    ·subst hkk; exact hb
    ·exact g2 k' h1 (by omega) h3
   | false =>
    rw [if_neg (by simp),hwr]
    obtain ⟨b,b1,b2⟩ := ih (k + 1) n false (by omega) (by omega)
    refine ⟨b,b1.trans ⟨fun ⟨g1,g2⟩ => (by cases g1),fun ⟨g1,g2⟩ => ?_⟩,b2⟩
    have := g2 k hlt (Nat.le_refl _) hc
    rw [hb] at this
    cases this
  ·rw [if_neg (by simp; omega),hwr]
   obtain ⟨b,b1,b2⟩ := ih (k + 1) n v (by omega) (by omega)
   refine ⟨b,b1.trans ⟨fun ⟨g1,g2⟩ => ⟨g1,fun k' h1 h2 h3 => ?_⟩,fun ⟨g1,g2⟩ => ⟨g1,fun k' h1 h2 => g2 k' h1 (by omega)⟩⟩,b2⟩
   by_cases hkk : k = k'
   ·subst hkk; exact absurd h3 hc
   ·exact g2 k' h1 (by omega) h3
theorem search_used (rec_ : (List (List Bool)) → (List Int) → Int → Option ((List Int) × Bool)) (a0 : List (List Bool)) (a2 : Int) {w : List Nat} (hw : w.length ≤ 12) (hx : ∀ x ∈ w,x < 12) :
  ∀ (r k n v : Nat),k + r = w.length → r < n → v ≤ 12 → ∃ u : Nat,u ≤ 12 ∧ v ≤ u ∧ (∀ x ∈ w.drop k,x < u) ∧ f_spec_l13Search_1 rec_ a0 (nn w) a2 n (v : Int) (k : Int) = f_spec_l13Search_2 rec_ a0 (nn w) a2 (u : Int) bigN 0 := by
 intro r
 induction r with
 | zero =>
  intro k n v hk hn hv
  obtain ⟨n,rfl⟩ : ∃ n',n = n' + 1 := ⟨n - 1,by omega⟩
  refine ⟨v,hv,Nat.le_refl _,fun x h => ?_,?_⟩
  ·rw [List.drop_eq_nil_of_le (by omega)] at h; cases h
  ·rw [f_spec_l13Search_1,if_neg (by simp [nn_len]; omega)]
 | succ r ih =>
  intro k n v hk hn hv
  obtain ⟨n,rfl⟩ : ∃ n',n = n' + 1 := ⟨n - 1,by omega⟩
  have hlt : k < w.length := by omega
  have hk12 := hx _ (List.getElem_mem hlt)
  rw [f_spec_l13Search_1,if_pos (by simp [nn_len]; omega),nn_ix hlt,Option.bind_some,wrapS hlt (by rw [maxLen_val]; omega)]
  have ew : IntKind.i64.wrap (((w[k] : Nat) : Int) + 1) = ((w[k] + 1 : Nat) : Int) := wrapS (n := 12) hk12 (by rw [maxLen_val]; omega)
  have em : (if (v : Int) < IntKind.i64.wrap (((w[k] : Nat) : Int) + 1) then IntKind.i64.wrap (((w[k] : Nat) : Int) + 1) else (v : Int)) = ((if v < w[k] + 1 then w[k] + 1 else v : Nat) : Int) := by
   rw [ew]
   by_cases h : v < w[k] + 1
   ·rw [if_pos (by omega),if_pos h]
   ·rw [if_neg (by omega),if_neg h]
  rw [em]
  obtain ⟨u,u1,u2,u3,u4⟩ := ih (k + 1) n (if v < w[k] + 1 then w[k] + 1 else v) (by omega) (by omega) (by split <;> omega)
  refine ⟨u,u1,by split at u2 <;> omega,fun x hx2 => ?_,u4⟩
  rw [List.drop_eq_getElem_cons hlt] at hx2
  rcases List.mem_cons.1 hx2 with rfl | hx2
  ·split at u2 <;> omega
  ·exact u3 x hx2
theorem search_eq (mm : Nat) (hmm : mm ≤ 12) (hN : l.length ≤ 12) : ∀ (d fuel : Nat) (w : List Nat),w.length + d = l.length → d < fuel → (∀ x ∈ w,x < mm) → ValidW (both p m l) w →
  ∃ out ok,f_spec_l13Search_r fuel (rowsB p m l) (nn w) (mm : Int) = some (out,ok) ∧ (ok = true ↔ Ext (both p m l) l.length mm w) := by
 have hrl : (rowsB p m l).length = l.length := by simp [rowsB]
 intro d
 induction d with
 | zero =>
  intro fuel w hd hf hx hv
  obtain ⟨fuel,rfl⟩ : ∃ n',fuel = n' + 1 := ⟨fuel - 1,by omega⟩
  refine ⟨nn w,true,?_,⟨fun _ => ext_full (by omega) hx (both_comm p m l) hv,fun _ => rfl⟩⟩
  rw [f_spec_l13Search_r,f_spec_l13Search_b,if_pos (by simp [nn_len,hrl]; omega)]
 | succ d ih =>
  intro fuel w hd hf hx hv
  obtain ⟨fuel,rfl⟩ : ∃ n',fuel = n' + 1 := ⟨fuel - 1,by omega⟩
  have hw : w.length < l.length := by omega
  rw [f_spec_l13Search_r,f_spec_l13Search_b,if_neg (by simp [nn_len,hrl]; omega)]
  obtain ⟨u,u1,_,u3,u4⟩ := search_used (f_spec_l13Search_r fuel) (rowsB p m l) (mm : Int) (w := w) (by omega) (fun x h => by have := hx x h; omega) w.length 0 bigN 0 (by omega) (by rw [bigN_val]; omega) (by omega)
  have u4 : f_spec_l13Search_1 (f_spec_l13Search_r fuel) (rowsB p m l) (nn w) (mm : Int) bigN 0 0 = _ := u4
  rw [u4]
  have key : ∀ (k c n : Nat),c + k = u + 1 → k < n → (∀ c',c' < c → c' < mm → Fits (both p m l) w c' → ¬ Ext (both p m l) l.length mm (w ++ [c'])) →
    ∃ out ok,f_spec_l13Search_2 (f_spec_l13Search_r fuel) (rowsB p m l) (nn w) (mm : Int) (u : Int) n (c : Int) = some (out,ok) ∧ (ok = true ↔ Ext (both p m l) l.length mm w) := by
   have fin : ∀ c : Nat,(u < c ∨ mm ≤ c) → (∀ c',c' < c → c' < mm → Fits (both p m l) w c' → ¬ Ext (both p m l) l.length mm (w ++ [c'])) → ¬ Ext (both p m l) l.length mm w := fun c hc hno h => by
    obtain ⟨c',g1,g2,g3,g4⟩ := ext_next hw (fun x h => u3 x (by simpa using h)) h
    exact hno c' (by omega) g2 g3 g4
   intro k
   induction k with
   | zero =>
    intro c n hc hn hno
    obtain ⟨n,rfl⟩ : ∃ n',n = n' + 1 := ⟨n - 1,by omega⟩
    refine ⟨[],false,?_,⟨fun h => (by cases h),fun h => absurd h (fin c (by omega) hno)⟩⟩
    rw [f_spec_l13Search_2,if_neg (by simp; omega)]
   | succ k ihk =>
    intro c n hc hn hno
    obtain ⟨n,rfl⟩ : ∃ n',n = n' + 1 := ⟨n - 1,by omega⟩
    rw [f_spec_l13Search_2,if_pos (by simp; omega)]
    by_cases hcm : c < mm
    ·rw [if_pos (by simpa using hcm)]
     obtain ⟨b,b1,b2⟩ := search_fits (p := p) (m := m) (f_spec_l13Search_r fuel) (mm : Int) (u : Int) (f_spec_l13Search_2 (f_spec_l13Search_r fuel) (rowsB p m l) (nn w) (mm : Int) (u : Int) n) c hw hN w.length 0 bigN true (by omega) (by rw [bigN_val]; omega)
     have b2 : f_spec_l13Search_3 (f_spec_l13Search_r fuel) (rowsB p m l) (nn w) (mm : Int) (u : Int) (c : Int) (f_spec_l13Search_2 (f_spec_l13Search_r fuel) (rowsB p m l) (nn w) (mm : Int) (u : Int) n) bigN true 0 = _ := b2
     have hfit : b = true ↔ Fits (both p m l) w c := b1.trans ⟨fun h k' h1 h2 => h.2 k' h1 (Nat.zero_le _) h2,fun h => ⟨rfl,fun k' h1 _ h2 => h k' h1 h2⟩⟩
     have hwr := wrapS (i := c) (n := 12) (by omega) (by rw [maxLen_val]; omega)
     have hon : (Fits (both p m l) w c → ¬ Ext (both p m l) l.length mm (w ++ [c])) → ∃ out ok,f_spec_l13Search_4 (f_spec_l13Search_r fuel) (rowsB p m l) (nn w) (mm : Int) (u : Int) (c : Int) (f_spec_l13Search_2 (f_spec_l13Search_r fuel) (rowsB p m l) (nn w) (mm : Int) (u : Int) n) = some (out,ok) ∧ (ok = true ↔ Ext (both p m l) l.length mm w) := fun h => by
      unfold f_spec_l13Search_4
      rw [hwr]
      refine ihk (c + 1) n (by omega) (by omega) fun c' h1 h2 h3 => ?_
      by_cases hcc : c' = c
      ·subst hcc; exact h h3
      ·exact hno c' (by omega) h2 h3
     rw [b2,f_spec_l13Search_3,if_neg (by simp [nn_len])]
     cases b with
     | false =>
      rw [if_neg (by simp)]
      exact hon fun h => absurd (hfit.2 h) (by simp)
     | true =>
      have hf2 := hfit.1 rfl
      rw [if_pos rfl,if_pos (app_ok (by simp [nn_len]; omega) (by omega)),if_pos (app_ok (by simp [nn_len]; omega) (by omega)),List.nil_append,nn_app]
      obtain ⟨out,ok,o1,o2⟩ := ih fuel (w ++ [c]) (by simp; omega) (by omega) (fun x h => by
       rcases List.mem_append.1 h with h | h
       ·exact hx x h
       ·rw [List.mem_singleton] at h; omega) (fun i k' hi hk' e => by
       rcases Nat.lt_or_ge i w.length with h | h
       ·rw [List.getElem_append_left h,List.getElem_append_left (by omega)] at e
        exact hv i k' h hk' e
       ·have : i = w.length := by simp at hi; omega
        subst this
        rw [List.getElem_append_left hk'] at e
        simp at e
        exact hf2 k' hk' e.symm)
      rw [o1,Option.bind_some]
      cases ok with
      | true => exact ⟨out,true,by rw [if_pos rfl],⟨fun _ => ext_back (o2.1 rfl),fun _ => rfl⟩⟩
      | false =>
       rw [if_neg (by simp)]
       exact hon fun _ h => absurd (o2.2 h) (by simp)
    ·refine ⟨[],false,by rw [if_neg (by simpa using hcm)],⟨fun h => (by cases h),fun h => absurd h (fin c (by omega) hno)⟩⟩
  exact key (u + 1) 0 bigN (by omega) (by rw [bigN_val]; omega) (fun c' h => by omega)
def allOk (p : Int) (m : List Int) (l : List XDuty) : Bool := (decide (l.length ≤ 12) && l.all dutyOk) && tabOk p m
theorem LeastCover_same (hl : m.length ≤ maxLen) (ho : allOk p m l = true) : ∃ (n : Nat) (w1 w2 : List Int),n ≤ 12 ∧ f_spec_LeastCover p m l = some (w1,(n : Int),true) ∧ f_impl_LeastCover p m l = some (w2,(n : Int),true) := by
 have ho' := ho
 simp only [allOk,Bool.and_eq_true,decide_eq_true_eq] at ho'
 obtain ⟨⟨hN,hda⟩,ht⟩ := ho'
 have hd : ∀ d ∈ l,dutyOk d = true := fun d h => List.all_eq_true.1 hda d h
 have hdo : (decide (l.length ≤ 12) && l.all dutyOk) = true := by simp [hN,hda]
 obtain ⟨ms,m1,m2,m3⟩ := impl_partners_eq hl ht hd hN
 obtain ⟨n,n1,n2,n3⟩ := leastPersons_eq (both_comm p m l) hN (ms := ms) ⟨m1,m2⟩
 have hmx : ∀ x ∈ ms,x < 2 ^ 12 := fun x hx => by
  obtain ⟨i,hi,rfl⟩ := List.getElem_of_mem hx
  refine lt_of_bits fun j hj => ?_
  have := m2 i j (by omega)
  rw [List.getElem?_eq_getElem hi] at this
  have this : ms[i].testBit j = adj p m l i j := this
  rw [this,adj,Bool.and_eq_true,decide_eq_true_eq] at hj
  omega
 obtain ⟨b,r,c1,c2,_⟩ := cover_total ms.length bigN ms [] (n : Int) [] (by simp) (by rw [bigN_val]; omega) hmx (by omega) (fun g h => by cases h) (by simp)
 have hsp : ∀ (k v fu : Nat),v + k = n → k < fu → ∃ w1,f_spec_LeastCover_2 l (rowsB p m l) fu (v : Int) = some (w1,(n : Int),true) := by
  have hnN : n ≤ l.length := n1.2 _ (cov_id (by have := Nat.pow_pos (n := l.length) (show 0 < 2 by omega); omega))
  intro k
  induction k with
  | zero =>
   intro v fu hv hfu
   obtain ⟨fu,rfl⟩ : ∃ n',fu = n' + 1 := ⟨fu - 1,by omega⟩
   have : v = n := by omega
   subst this
   obtain ⟨out,ok,s1,s2⟩ := search_eq (p := p) (m := m) v n2 hN l.length bigN [] (by simp) (by rw [bigN_val]; omega) (fun x h => by cases h) (fun i k hi => by simp at hi)
   have s1 : f_spec_l13Search (rowsB p m l) [] (v : Int) = some (out,ok) := s1
   have hok : ok = true := s2.2 (cov_ext.1 n1.1)
   subst hok
   exact ⟨out,by rw [f_spec_LeastCover_2,if_pos (by simp; omega),s1,Option.bind_some,if_pos rfl]⟩
  | succ k ihk =>
   intro v fu hv hfu
   obtain ⟨fu,rfl⟩ : ∃ n',fu = n' + 1 := ⟨fu - 1,by omega⟩
   obtain ⟨out,ok,s1,s2⟩ := search_eq (p := p) (m := m) v (by omega) hN l.length bigN [] (by simp) (by rw [bigN_val]; omega) (fun x h => by cases h) (fun i k hi => by simp at hi)
   have s1 : f_spec_l13Search (rowsB p m l) [] (v : Int) = some (out,ok) := s1
   have hok : ok = false := by
    cases ok with
    | false => rfl
    | true =>
     have := n1.2 v (cov_ext.2 (s2.1 rfl))
     omega
   subst hok
   obtain ⟨w1,e⟩ := ihk (v + 1) fu (by omega) (by omega)
   refine ⟨w1,?_⟩
   rw [f_spec_LeastCover_2,if_pos (by simp; omega),s1,Option.bind_some,if_neg (by simp),wrapS (i := v) (n := 13) (by omega) (by rw [maxLen_val]; omega)]
   exact e
 obtain ⟨w1,e1⟩ := hsp n 0 bigN (by omega) (by rw [bigN_val]; omega)
 refine ⟨n,w1,r.who,n2,?_,?_⟩
 ·unfold f_spec_LeastCover
  rw [spec_DutiesOk_eq,hdo,Option.bind_some,if_pos rfl,spec_Table_eq hl,ht,Option.bind_some]
  unfold f_spec_LeastCover_1
  rw [if_neg (by simp),spec_Both_eq hl ht hd hN,Option.bind_some]
  exact e1
 ·unfold f_impl_LeastCover f_impl_coverable
  have ht' := ht
  simp only [tabOk,Bool.and_eq_true] at ht'
  rw [impl_DutiesOk_eq,hdo,Option.bind_some,if_pos rfl,minute_eq,ht'.1,Option.bind_some,if_pos rfl,impl_moves_eq hl,ht'.2,Option.bind_some,Option.bind_some,if_pos rfl,m3,Option.bind_some,n3,Option.bind_some]
  have c1 : f_impl_coverer_cover ⟨nn ms,(n : Int),[],[]⟩ = some (b,r) := c1
  rw [c1,Option.bind_some,c2]
end
end Go.Vi
