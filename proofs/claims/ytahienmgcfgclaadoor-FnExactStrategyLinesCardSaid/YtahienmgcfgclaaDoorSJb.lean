/-
  Plain laws for StrategyLines: sizes and marks of strategies, their lines, and the law. No condition.
-/
import Derived.Test.YtahienmgcfgclaaDoorSJa
namespace Go.Vi
open Go.Lib
set_option linter.unusedSimpArgs false
set_option linter.unusedVariables false
theorem sz_loop {α : Type} {L : Nat → Int → Int → Option Int} (xs : List α) (F : α → Int → Option Int) (w : α → Nat) (hl : xs.length ≤ maxLen)
  (hF : ∀ x ∈ xs,∀ v : Int,0 ≤ v → v ≤ 1048576 → ∃ r,F x v = some r ∧ (r < 0 ∨ r = v - (w x : Int)))
  (hs : ∀ (n i : Nat) (v : Int) (h : i < xs.length),L (n + 1) v (i : Int) = (F xs[i] v).bind fun r => if decide (r < 0) = true then some (-1) else L n r (IntKind.i64.wrap ((i : Int) + 1)))
  (he : ∀ (n : Nat) (v : Int),L (n + 1) v (xs.length : Int) = some v) (v : Int) (h0 : 0 ≤ v) (h1 : v ≤ 1048576) : ∃ r,L bigN v 0 = some r ∧ (r < 0 ∨ r = v - ((xs.map w).sum : Int)) := by
 have key : ∀ (k i n : Nat) (v : Int),i + k = xs.length → k < n → 0 ≤ v → v ≤ 1048576 → ∃ r,L n v (i : Int) = some r ∧ (r < 0 ∨ r = v - (((xs.drop i).map w).sum : Int)) := by
  intro k
  induction k with
  | zero =>
   intro i n v hi hn h0 h1
   obtain ⟨m,rfl⟩ : ∃ m,n = m + 1 := ⟨n - 1,by omega⟩
   have : i = xs.length := by omega
   subst this
   exact ⟨v,he m v,.inr (by simp)⟩
  | succ k ih =>
   intro i n v hi hn h0 h1
   obtain ⟨m,rfl⟩ : ∃ m,n = m + 1 := ⟨n - 1,by omega⟩
   have hlt : i < xs.length := by omega
   obtain ⟨r,e,hr⟩ := hF xs[i] (List.getElem_mem hlt) v h0 h1
   rw [hs m i v hlt,e,Option.bind_some]
   by_cases hn0 : r < 0
   ·exact ⟨-1,by simp [hn0],.inl (by omega)⟩
   ·obtain ⟨r2,e2,h2⟩ := ih (i + 1) m r (by omega) (by omega) (by omega) (by omega)
    refine ⟨r2,by rw [wrapS hlt hl]; simpa [hn0] using e2,?_⟩
    rw [List.drop_eq_getElem_cons hlt,List.map_cons,List.sum_cons]
    rcases h2 with h2 | h2
    ·exact .inl h2
    ·right; omega
 simpa using key xs.length 0 bigN v (by omega) (lt_bigN hl) h0 h1
def oW (o : XOption) : Nat := o.Passages.length + 1
def osW (l : List XOption) : Nat := (l.map oW).sum
def bW (b : XBranch) : Nat := osW b.Plan + 1
def bsW (l : List XBranch) : Nat := (l.map bW).sum
theorem sum_le {α : Type} (w : α → Nat) : ∀ (l : List α) (x : α),x ∈ l → w x ≤ (l.map w).sum
 | [],_,h => by cases h
 | y :: l,x,h => by
  rcases List.mem_cons.1 h with rfl | h
  ·simp
  ·have := sum_le w l x h; simp; omega
theorem sum_pred {α : Type} (w : α → Nat) : ∀ l : List α,(l.map (fun x => w x + 1)).sum = (l.map w).sum + l.length
 | [] => rfl
 | y :: l => by simp [sum_pred w l]; omega
theorem szOption_is {x : XOption} {l : Int} (h0 : 0 ≤ l) (h1 : l ≤ 1048576) (hx : x.Passages.length ≤ maxLen) : ∃ r,f_laws_szOption x l = some r ∧ (r < 0 ∨ r = l - (x.Passages.length : Int)) := by
 unfold f_laws_szOption f_laws_szPassageS
 rw [maxLen_val] at hx
 rw [wrap64 (by omega) (by omega)]
 by_cases h : l - (x.Passages.length : Int) < 0
 ·exact ⟨-1,by simp [h],.inl (by omega)⟩
 ·exact ⟨l - x.Passages.length,by simp [h],.inr rfl⟩
theorem szOptionS_is {xs : List XOption} {l : Int} (h0 : 0 ≤ l) (h1 : l ≤ 1048576) (hx : xs.length ≤ maxLen) (hn : ∀ x ∈ xs,x.Passages.length ≤ maxLen) : ∃ r,f_laws_szOptionS xs l = some r ∧ (r < 0 ∨ r = l - (osW xs : Int)) := by
 unfold f_laws_szOptionS
 have hx' := hx
 rw [maxLen_val] at hx'
 rw [wrap64 (by omega) (by omega)]
 by_cases h : l - (xs.length : Int) < 0
 ·exact ⟨-1,by simp [h],.inl (by omega)⟩
 ·obtain ⟨r,e,hr⟩ := sz_loop (L := f_laws_szOptionS_1 xs) xs f_laws_szOption (fun o => o.Passages.length) hx (fun x hm v a b => szOption_is a b (hn x hm)) (fun n i v hi => by simp only [f_laws_szOptionS_1,dec_nn,hi,decide_true,if_true,ix_at hi,Option.bind_some]) (fun n v => by simp [f_laws_szOptionS_1]) (l - xs.length) (by omega) (by omega)
  refine ⟨r,by simpa [h] using e,hr.imp id fun hr => ?_⟩
  rw [hr]
  have := sum_pred (fun o : XOption => o.Passages.length) xs
  unfold osW oW
  omega
theorem szBranchS_is {xs : List XBranch} {l : Int} (h0 : 0 ≤ l) (h1 : l ≤ 1048576) (hx : xs.length ≤ maxLen) (hn : ∀ x ∈ xs,x.Plan.length ≤ maxLen ∧ ∀ o ∈ x.Plan,o.Passages.length ≤ maxLen) : ∃ r,f_laws_szBranchS xs l = some r ∧ (r < 0 ∨ r = l - (bsW xs : Int)) := by
 unfold f_laws_szBranchS
 have hx' := hx
 rw [maxLen_val] at hx'
 rw [wrap64 (by omega) (by omega)]
 by_cases h : l - (xs.length : Int) < 0
 ·exact ⟨-1,by simp [h],.inl (by omega)⟩
 ·obtain ⟨r,e,hr⟩ := sz_loop (L := f_laws_szBranchS_1 xs) xs f_laws_szBranch (fun b => osW b.Plan) hx (fun x hm v a b => by
    obtain ⟨r,e,hr⟩ := szOptionS_is a b (hn x hm).1 (hn x hm).2
    unfold f_laws_szBranch
    rw [e,Option.bind_some]
    by_cases hn0 : r < 0
    ·exact ⟨-1,by simp [hn0],.inl (by omega)⟩
    ·exact ⟨r,by simp [hn0],hr⟩) (fun n i v hi => by simp only [f_laws_szBranchS_1,dec_nn,hi,decide_true,if_true,ix_at hi,Option.bind_some]) (fun n v => by simp [f_laws_szBranchS_1]) (l - xs.length) (by omega) (by omega)
  refine ⟨r,by simpa [h] using e,hr.imp id fun hr => ?_⟩
  rw [hr]
  have := sum_pred (fun b : XBranch => osW b.Plan) xs
  unfold bsW bW
  omega
theorem szStrategy_is {x : XStrategy} (hx : x.Branches.length ≤ maxLen) (hn : ∀ b ∈ x.Branches,b.Plan.length ≤ maxLen ∧ ∀ o ∈ b.Plan,o.Passages.length ≤ maxLen) : ∃ r,f_laws_szStrategy x 1048576 = some r ∧ (r < 0 ∨ bsW x.Branches ≤ 1048576) := by
 obtain ⟨r,e,hr⟩ := szBranchS_is (l := 1048576) (by omega) (by omega) hx hn
 unfold f_laws_szStrategy
 rw [e,Option.bind_some]
 by_cases h : r < 0
 ·exact ⟨-1,by simp [h],.inl (by omega)⟩
 ·exact ⟨r,by simp [h],.inr (by omega)⟩
theorem toBranchS_eq {xs : List XBranch} (h : xs.length ≤ 1048576) (hp : ∀ x ∈ xs,x.Plan.length ≤ 1048576 ∧ ∀ o ∈ x.Plan,o.Passages.length ≤ 1048576) : f_laws_toBranchS xs = some xs := by
 unfold f_laws_toBranchS
 rw [mkS_len h (by omega)]
 have := copy_loop (L := f_laws_toBranchS_1 xs) xs id (le_max h) (fun n i acc hi ha => by simp [f_laws_toBranchS_1,ix_nn,hi,ha,f_laws_toBranch,toOptionS_eq (hp _ (List.getElem_mem hi)).1 (hp _ (List.getElem_mem hi)).2]) (fun n acc => by simp [f_laws_toBranchS_1]) (List.replicate xs.length ⟨0,0,[]⟩) (by simp)
 simpa using this
theorem eqBranchS_self {xs : List XBranch} (h : xs.length ≤ maxLen) (hp : ∀ x ∈ xs,x.Plan.length ≤ maxLen ∧ ∀ o ∈ x.Plan,o.Passages.length ≤ maxLen) : f_laws_eqBranchS xs xs = some true := by
 unfold f_laws_eqBranchS
 have := all_loop (L := f_laws_eqBranchS_1 xs xs) xs (fun _ => true) h (fun n i hi => by simp [f_laws_eqBranchS_1,ix_nn,hi,f_laws_eqBranch,eqOptionS_self (hp _ (List.getElem_mem hi)).1 (hp _ (List.getElem_mem hi)).2]) (fun n => by simp [f_laws_eqBranchS_1])
 simp [this]
theorem mark5 {k : Int} (h0 : 0 ≤ k) (h1 : k ≤ 1000000000) : IntKind.i64.wrap (IntKind.i64.wrap (IntKind.i64.wrap (IntKind.i64.wrap (IntKind.i64.wrap (k + 1) + 1) + 1) + 1) + 1) = k + 5 := by
 rw [wrapk (k := k) h0 (by omega),wrapk (k := k + 1) (by omega) (by omega),wrapk (k := k + 1 + 1) (by omega) (by omega),wrapk (k := k + 1 + 1 + 1) (by omega) (by omega),wrapk (k := k + 1 + 1 + 1 + 1) (by omega) (by omega)]
 omega
theorem mark3 {k : Int} (h0 : 0 ≤ k) (h1 : k ≤ 1000000000) : IntKind.i64.wrap (IntKind.i64.wrap (IntKind.i64.wrap (k + 1) + 1) + 1) = k + 3 := by
 rw [wrapk (k := k) h0 (by omega),wrapk (k := k + 1) (by omega) (by omega),wrapk (k := k + 1 + 1) (by omega) (by omega)]
 omega
theorem sum_one {α : Type} (l : List α) : (l.map (fun _ => 1)).sum = l.length := by
 induction l with
 | nil => rfl
 | cons a l ih => simp only [List.map_cons,List.sum_cons,ih,List.length_cons]; omega
theorem mk_loop' {α : Type} {L : Nat → Int → Int → Option Int} (xs : List α) (F : α → Int → Option Int) (w : α → Nat) (hl : xs.length ≤ maxLen) (hw : (xs.map w).sum ≤ 1048576)
  (hF : ∀ x ∈ xs,∀ k : Int,0 ≤ k → k + 5 * (w x : Int) ≤ 100000000 → w x ≤ 1048576 → ∃ r,F x k = some r ∧ k ≤ r ∧ r ≤ k + 5 * (w x : Int))
  (hs : ∀ (n i : Nat) (k : Int) (h : i < xs.length),L (n + 1) k (i : Int) = (F xs[i] k).bind fun r => L n r (IntKind.i64.wrap ((i : Int) + 1)))
  (he : ∀ (n : Nat) (k : Int),L (n + 1) k (xs.length : Int) = some k) (k0 : Int) (h0 : 0 ≤ k0) (h1 : k0 + 5 * ((xs.map w).sum : Int) ≤ 100000000) : ∃ r,L bigN k0 0 = some r ∧ k0 ≤ r ∧ r ≤ k0 + 5 * ((xs.map w).sum : Int) := by
 have key : ∀ (k i n : Nat) (v : Int),i + k = xs.length → k < n → 0 ≤ v → v + 5 * (((xs.drop i).map w).sum : Int) ≤ 100000000 → ((xs.drop i).map w).sum ≤ 1048576 → ∃ r,L n v (i : Int) = some r ∧ v ≤ r ∧ r ≤ v + 5 * (((xs.drop i).map w).sum : Int) := by
  intro k
  induction k with
  | zero =>
   intro i n v hi hn h0 h1 _
   obtain ⟨m,rfl⟩ : ∃ m,n = m + 1 := ⟨n - 1,by omega⟩
   have : i = xs.length := by omega
   subst this
   exact ⟨v,he m v,by omega,by simp⟩
  | succ k ih =>
   intro i n v hi hn h0 h1 h2
   obtain ⟨m,rfl⟩ : ∃ m,n = m + 1 := ⟨n - 1,by omega⟩
   have hlt : i < xs.length := by omega
   rw [List.drop_eq_getElem_cons hlt,List.map_cons,List.sum_cons] at h1 h2 ⊢
   obtain ⟨r,e,hr1,hr2⟩ := hF xs[i] (List.getElem_mem hlt) v h0 (by omega) (by omega)
   rw [hs m i v hlt,e,Option.bind_some,wrapS hlt hl]
   obtain ⟨r2,e2,h2,h3⟩ := ih (i + 1) m r (by omega) (by omega) (by omega) (by omega) (by omega)
   exact ⟨r2,e2,by omega,by omega⟩
 simpa using key xs.length 0 bigN k0 (by omega) (lt_bigN hl) h0 (by simpa using h1) (by simpa using hw)
theorem markPassageS_is' {xs : List XPassage} {k : Int} (h0 : 0 ≤ k) (hl : xs.length ≤ 1048576) (h1 : k + 5 * (xs.length : Int) ≤ 100000000) : ∃ r,f_laws_markPassageS_d xs k = some r ∧ k ≤ r ∧ r ≤ k + 5 * (xs.length : Int) := by
 obtain ⟨r,e,a,b⟩ := mk_loop' (L := f_laws_markPassageS_d_1 xs) xs (fun _ k => some (IntKind.i64.wrap (IntKind.i64.wrap (IntKind.i64.wrap (IntKind.i64.wrap (IntKind.i64.wrap (k + 1) + 1) + 1) + 1) + 1))) (fun _ => 1) (le_max hl) (by rw [sum_one]; exact hl)
  (fun x _ k a b _ => ⟨_,rfl,by rw [mark5 a (by omega)]; omega,by rw [mark5 a (by omega)]; omega⟩)
  (fun n i k hi => by simp only [f_laws_markPassageS_d_1,dec_nn,hi,decide_true,if_true,ix_at hi,Option.bind_some]) (fun n k => by simp [f_laws_markPassageS_d_1]) k h0 (by rw [sum_one]; exact h1)
 rw [sum_one] at b
 exact ⟨r,e,a,b⟩
theorem markOptionS_is {xs : List XOption} {k : Int} (h0 : 0 ≤ k) (hl : xs.length ≤ 1048576) (hw : osW xs ≤ 1048576) (h1 : k + 5 * (osW xs : Int) ≤ 100000000) : ∃ r,f_laws_markOptionS_d xs k = some r ∧ k ≤ r ∧ r ≤ k + 5 * (osW xs : Int) :=
 mk_loop' (L := f_laws_markOptionS_d_1 xs) xs (fun o k => f_laws_markPassageS_d o.Passages (IntKind.i64.wrap (IntKind.i64.wrap (IntKind.i64.wrap (k + 1) + 1) + 1))) oW (le_max hl) hw
  (fun x hx k a b c => by
   unfold oW at b c ⊢
   rw [mark3 a (by omega)]
   obtain ⟨r,e,p,q⟩ := markPassageS_is' (xs := x.Passages) (k := k + 3) (by omega) (by omega) (by omega)
   exact ⟨r,e,by omega,by omega⟩)
  (fun n i k hi => by simp only [f_laws_markOptionS_d_1,dec_nn,hi,decide_true,if_true,ix_at hi,Option.bind_some]) (fun n k => by simp [f_laws_markOptionS_d_1]) k h0 h1
theorem markBranchS_is {xs : List XBranch} {k : Int} (h0 : 0 ≤ k) (hl : xs.length ≤ 1048576) (hp : ∀ x ∈ xs,x.Plan.length ≤ 1048576) (hw : bsW xs ≤ 1048576) (h1 : k + 5 * (bsW xs : Int) ≤ 100000000) : ∃ r,f_laws_markBranchS_d xs k = some r ∧ k ≤ r ∧ r ≤ k + 5 * (bsW xs : Int) :=
 mk_loop' (L := f_laws_markBranchS_d_1 xs) xs (fun o k => f_laws_markOptionS_d o.Plan (IntKind.i64.wrap (IntKind.i64.wrap (k + 1) + 1))) bW (le_max hl) hw
  (fun x hx k a b c => by
   unfold bW at b c ⊢
   rw [wrapk (k := k) a (by omega),wrapk (k := k + 1) (by omega) (by omega)]
   obtain ⟨r,e,p,q⟩ := markOptionS_is (xs := x.Plan) (k := k + 1 + 1) (by omega) (hp x hx) (by omega) (by omega)
   exact ⟨r,e,by omega,by omega⟩)
  (fun n i k hi => by simp only [f_laws_markBranchS_d_1,dec_nn,hi,decide_true,if_true,ix_at hi,Option.bind_some]) (fun n k => by simp [f_laws_markBranchS_d_1]) k h0 h1
def sumW (l : List XOption) (s : Int) : Int := l.foldl (fun s o => IntKind.i64.wrap (s + o.Cost)) s
theorem wrap_i64 (n : Int) : i64 (IntKind.i64.wrap n) := by
 unfold i64
 rw [IntKind.wrap_i64]
 constructor <;> omega
theorem sumW_i64 : ∀ (l : List XOption) (s : Int),i64 s → i64 (sumW l s)
 | [],s,h => h
 | o :: l,s,_ => by
  show i64 (sumW l (IntKind.i64.wrap (s + o.Cost)))
  exact sumW_i64 l _ (wrap_i64 _)
theorem cost_loop {l : List XOption} (hl : l.length ≤ maxLen) {L : Nat → Int → Int → Option Int}
  (hs : ∀ (n i : Nat) (v : Int) (h : i < l.length),L (n + 1) v (i : Int) = L n (IntKind.i64.wrap (v + l[i].Cost)) (IntKind.i64.wrap ((i : Int) + 1))) (he : ∀ (n : Nat) (v : Int),L (n + 1) v (l.length : Int) = some v) : L bigN 0 0 = some (sumW l 0) := by
 have key : ∀ (k i n : Nat) (v : Int),i + k = l.length → k < n → L n v (i : Int) = some (sumW (l.drop i) v) := by
  intro k
  induction k with
  | zero =>
   intro i n v hi hn
   obtain ⟨m,rfl⟩ : ∃ m,n = m + 1 := ⟨n - 1,by omega⟩
   have : i = l.length := by omega
   subst this
   rw [he,List.drop_length]; rfl
  | succ k ih =>
   intro i n v hi hn
   obtain ⟨m,rfl⟩ : ∃ m,n = m + 1 := ⟨n - 1,by omega⟩
   have hlt : i < l.length := by omega
   rw [hs m i v hlt,wrapS hlt hl,ih (i + 1) m _ (by omega) (by omega),List.drop_eq_getElem_cons hlt]
   rfl
 simpa using key l.length 0 bigN 0 (by omega) (lt_bigN hl)
theorem spec_CostOf_eq {l : List XOption} (hl : l.length ≤ maxLen) : f_spec_CostOf l = some (sumW l 0) :=
 cost_loop (L := f_spec_CostOf_1 l) hl (fun n i v h => by simp only [f_spec_CostOf_1,dec_nn,h,decide_true,if_true,ix_at h,Option.bind_some]) (fun n v => by simp [f_spec_CostOf_1])
theorem impl_CostOf_eq {l : List XOption} (hl : l.length ≤ maxLen) : f_impl_CostOf l = some (sumW l 0) :=
 cost_loop (L := f_impl_CostOf_1 l) hl (fun n i v h => by simp only [f_impl_CostOf_1,dec_nn,h,decide_true,if_true,ix_at h,Option.bind_some]) (fun n v => by simp [f_impl_CostOf_1])
theorem appB_of {m n b : Nat} (h : m + n ≤ 2000000) (hb : b ≤ 1000) : appB m n b = true := by
 unfold appB
 have : (m + n) * b ≤ 2000000 * 1000 := Nat.mul_le_mul h hb
 simp only [decide_eq_true_eq]
 first | omega | (refine ⟨?_,?_⟩ <;> omega)
theorem words_si {x : List UInt8} {b : Int} (hx : x.length ≤ 1000) (hb : i64 b) : f_impl_words [(⟨true,x,0⟩ : XAny),(⟨false,[],b⟩ : XAny)] = some (x ++ [32] ++ itoa b) := by
 have e : join [x,itoa b] [32] = x ++ [32] ++ itoa b := by simp [join]
 have lb := itoa_len hb
 unfold f_impl_words
 rw [push_loop (L := f_impl_words_1 _) [(⟨true,x,0⟩ : XAny),(⟨false,[],b⟩ : XAny)] (fun w => if w.isS = true then w.s else itoa w.n) (fun v => (f_impl_Join v ([32] : List UInt8)).bind fun r7 => some r7) (by rw [maxLen_val]; simp) (fun n i acc h hacc => ?_) (fun n acc hacc => ?_)]
 ·simp only [List.map_cons,List.map_nil,if_true,Bool.false_eq_true,if_false]
  rw [impl_join_eq (by simp) (by rw [e]; simp; omega),e]
  rfl
 ·have h2 : i < 2 := by simpa using h
  have hw : f_impl_word ([(⟨true,x,0⟩ : XAny),(⟨false,[],b⟩ : XAny)][i]) = some ((fun w : XAny => if w.isS = true then w.s else itoa w.n) ([(⟨true,x,0⟩ : XAny),(⟨false,[],b⟩ : XAny)][i])) := by
   rcases i with _ | _ | i
   ·rfl
   ·simp [f_impl_word,impl_fmt_eq hb]
   ·omega
  rw [f_impl_words_1,dec_nn,if_pos (by simpa using h),ix_at h,Option.bind_some,hw,Option.bind_some,if_pos (appB_of (by simp; omega) (by omega))]
 ·rw [f_impl_words_1,if_neg (by simp)]
def lineOf (b : XBranch) : List UInt8 := itoa b.Low ++ [46,46] ++ itoa b.High ++ [32] ++ itoa (sumW b.Plan 0)
theorem lines_spec {g : XStrategy} (hb : g.Branches.length ≤ 1048576) (hp : ∀ b ∈ g.Branches,b.Plan.length ≤ 1048576 ∧ i64 b.Low ∧ i64 b.High) : f_spec_StrategyLines g = some (g.Branches.map lineOf) ∧ f_impl_StrategyLines g = some (g.Branches.map lineOf) := by
 have z : i64 0 := by unfold i64; omega
 constructor
 ·unfold f_spec_StrategyLines
  refine push_loop (L := f_spec_StrategyLines_1 g) g.Branches lineOf some (le_max hb) (fun n i acc h ha => ?_) (fun n acc _ => by simp [f_spec_StrategyLines_1])
  obtain ⟨p1,p2,p3⟩ := hp _ (List.getElem_mem h)
  have l1 := itoa_len p2
  have l2 := itoa_len p3
  have hs := sumW_i64 g.Branches[i].Plan 0 z
  have l3 := itoa_len hs
  simp only [f_spec_StrategyLines_1,dec_nn,h,decide_true,if_true,ix_at h,Option.bind_some,fmt_eq p2,fmt_eq p3,spec_CostOf_eq (le_max p1),fmt_eq hs]
  rw [ifc (by simp; omega),ifc (by simp; omega),ifc (by simp; omega),ifc (by simp; omega),if_pos (appB_of (by simp; omega) (by omega))]
  rfl
 ·unfold f_impl_StrategyLines
  refine push_loop (L := f_impl_StrategyLines_1 g) g.Branches lineOf some (le_max hb) (fun n i acc h ha => ?_) (fun n acc _ => by simp [f_impl_StrategyLines_1])
  obtain ⟨p1,p2,p3⟩ := hp _ (List.getElem_mem h)
  have l1 := itoa_len p2
  have l2 := itoa_len p3
  have hs := sumW_i64 g.Branches[i].Plan 0 z
  simp only [f_impl_StrategyLines_1,dec_nn,h,decide_true,if_true,ix_at h,Option.bind_some,impl_fmt_eq p2,impl_fmt_eq p3,impl_CostOf_eq (le_max p1)]
  rw [ifc (by simp; omega),ifc (by simp; omega),words_si (by simp; omega) hs,Option.bind_some,if_pos (appB_of (by simp; omega) (by omega))]
  rfl
theorem branches_ok {g : XStrategy} (ok : ∀ d ∈ XStrategy.row g,d.Ok) : g.Branches.length ≤ maxLen ∧ ∀ b ∈ g.Branches,(i64 b.Low ∧ i64 b.High) ∧ b.Plan.length ≤ maxLen ∧ ∀ o ∈ b.Plan,o.Passages.length ≤ maxLen := by
 have h := ok (.sl (List.map XBranch.row g.Branches)) (by simp [XStrategy.row_eq])
 refine ⟨len_ok h,fun b hb => ?_⟩
 have hr := h.sl.2 (XBranch.row b) (List.mem_map_of_mem hb)
 exact ⟨⟨(hr (.int .i64 b.Low) (by simp [XBranch.row_eq])).int,(hr (.int .i64 b.High) (by simp [XBranch.row_eq])).int⟩,options_ok (hr (.sl (List.map XOption.row b.Plan)) (by simp [XBranch.row_eq]))⟩
theorem law_FnExactStrategyLines (g : XStrategy) (ok : DsOk [.ag (XStrategy.row g)]) : f_laws_FnExactStrategyLines g = some true := by
 obtain ⟨o1,o2⟩ := branches_ok ok.ag.1
 have o3 : ∀ b ∈ g.Branches,b.Plan.length ≤ maxLen ∧ ∀ o ∈ b.Plan,o.Passages.length ≤ maxLen := fun b hb => (o2 b hb).2
 unfold f_laws_FnExactStrategyLines
 obtain ⟨r,e,hr⟩ := szStrategy_is o1 o3
 rw [e,Option.bind_some]
 by_cases h : r < 0
 ·simp [h]
 have hw : bsW g.Branches ≤ 1048576 := by omega
 have wb : ∀ b ∈ g.Branches,osW b.Plan + 1 ≤ 1048576 := fun b hb => Nat.le_trans (sum_le bW _ b hb) hw
 have wl : g.Branches.length ≤ 1048576 := by
  have := sum_pred (fun b : XBranch => osW b.Plan) g.Branches
  unfold bsW bW at hw; omega
 have wo : ∀ b ∈ g.Branches,b.Plan.length ≤ 1048576 ∧ ∀ o ∈ b.Plan,o.Passages.length ≤ 1048576 := fun b hb => by
  have h1 := wb b hb
  refine ⟨?_,fun o ho => ?_⟩
  ·have := sum_pred (fun o : XOption => o.Passages.length) b.Plan
   unfold osW oW at h1; omega
  ·have := sum_le oW _ o ho
   unfold osW at h1; unfold oW at this h1; omega
 have ht : f_laws_toStrategy g = some g := by simp [f_laws_toStrategy,toBranchS_eq wl wo]
 have he : f_laws_eqStrategy g g = some true := by simp [f_laws_eqStrategy,eqBranchS_self o1 o3]
 obtain ⟨s1,s2⟩ := lines_spec (g := g) wl (fun b hb => ⟨(wo b hb).1,(o2 b hb).1⟩)
 obtain ⟨m,m1,m2,m3⟩ := markBranchS_is (xs := g.Branches) (k := 1) (by omega) wl (fun b hb => (wo b hb).1) hw (by omega)
 have hm : f_laws_markStrategy_d g 1 = some m := by simp [f_laws_markStrategy_d,m1]
 obtain ⟨ys,n1,n2,n3⟩ := markStringS_of (g.Branches.map lineOf) 1 (by omega) (by omega) (by simpa using wl)
 have gm : ¬ m < 0 := by omega
 have gk : ¬ (1 + 1 * ((g.Branches.map lineOf).length : Int)) < 0 := by omega
 have hq := eqStringS_self (xs := g.Branches.map lineOf) (by simpa using o1)
 simp only [h,decide_false,Bool.false_eq_true,if_false,ht,Option.bind_some,s1,s2,hq,if_true,he,hm,gm,n1,n3,gk,bne_self_eq_false]
end Go.Vi
