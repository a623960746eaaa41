/-
  Plain laws: the level of a forecast, the windows in which a ship can begin for certain. No condition. Plain laws: windows of minutes in which a condition holds, and the windows in which a ship can begin. No condition. Plain laws: routes, voyages and the passages of a voyage. No condition. Plain laws: the search of all routes ends, and so the best route is found. No condition. Plain laws: the options of a call are found, and each of their passages is safe. No condition.
-/
import Derived.Test.YtahienmgcfgclaaGNa
namespace Go.Vi
set_option linter.unusedSimpArgs false
set_option linter.unusedVariables false
theorem C01 {t : XTide} {m : Int} (ht : A36 t = true) (h0 : 0 ≤ m) (h1 : m ≤ 2880) : ∃ r,V8 t m = some r ∧ -1000000000000 ≤ r ∧ r ≤ 1000000000000 := by
 have ht' := ht
 simp only [A36,Bool.and_eq_true,decide_eq_true_eq,List.all_eq_true] at ht
 obtain ⟨hmean,hl,hp⟩ := ht
 have hlm : t.Parts.length ≤ maxLen := by rw [F5]; omega
 have key : ∀ (k i n : Nat) (v : Int),i + k = t.Parts.length → k < n → -(1000 + 20000000000 * (i : Int)) ≤ v → v ≤ 1000 + 20000000000 * (i : Int) → ∃ r,L0 m t n v (i : Int) = some r ∧ -(1000 + 20000000000 * (t.Parts.length : Int)) ≤ r ∧ r ≤ 1000 + 20000000000 * (t.Parts.length : Int) := by
  intro k
  induction k with
  | zero =>
   intro i n v hi hn v1 v2
   obtain ⟨q,rfl⟩ : ∃ q,n = q + 1 := ⟨n - 1,by omega⟩
   have : i = t.Parts.length := by omega
   subst this
   exact ⟨v,by simp [L0],v1,v2⟩
  | succ k ih =>
   intro i n v hi hn v1 v2
   obtain ⟨q,rfl⟩ : ∃ q,n = q + 1 := ⟨n - 1,by omega⟩
   have hlt : i < t.Parts.length := by omega
   have hx := hp _ (List.getElem_mem hlt)
   simp only [A2a,Bool.and_eq_true,decide_eq_true_eq] at hx
   obtain ⟨⟨am1,am2⟩,hx1,hx2,hx3⟩ := hx
   obtain ⟨p1,p2,_⟩ := B32 hx1
   rw [A7 (by omega) (by omega)] at hx3
   have hw := A7 (n := m + t.Parts[i].Phase) (by omega) (by omega)
   have hnn : 0 ≤ m + t.Parts[i].Phase := by omega
   have hmm : Int.tmod (m + t.Parts[i].Phase) t.Parts[i].Period = (m + t.Parts[i].Phase) % t.Parts[i].Period := Int.tmod_eq_emod_of_nonneg hnn
   have w := B9m (x := (m + t.Parts[i].Phase) % t.Parts[i].Period) (p := t.Parts[i].Period) (Int.emod_nonneg _ (by omega)) (Int.emod_lt_of_pos _ (by omega)) p1 p2
   rw [← hmm] at w
   generalize hwv : A84 (Int.tmod (m + t.Parts[i].Phase) t.Parts[i].Period) t.Parts[i].Period = wv at w
   have mm := A53 (a := t.Parts[i].Amp) (b := wv) (A := 1000) (B := 200000000000) (by omega) (by omega) (by omega) (by omega)
   have hd : -20000000000 ≤ Int.tdiv (t.Parts[i].Amp * wv) 10000 ∧ Int.tdiv (t.Parts[i].Amp * wv) 10000 ≤ 20000000000 := by
    generalize t.Parts[i].Amp * wv = z at mm
    by_cases ha : 0 ≤ z
    ·rw [Int.tdiv_eq_ediv_of_nonneg ha]; omega
    ·obtain ⟨c,rfl⟩ : ∃ c,z = -c := ⟨-z,by omega⟩
     rw [Int.neg_tdiv,Int.tdiv_eq_ediv_of_nonneg (by omega)]; omega
   obtain ⟨r,e1,e2,e3⟩ := ih (i + 1) q (IntKind.i64.wrap (v + IntKind.i64.wrap (Int.tdiv (IntKind.i64.wrap (t.Parts[i].Amp * wv)) 10000))) (by omega) (by omega)
    (by rw [A7 (n := t.Parts[i].Amp * wv) (by omega) (by omega),A7 (n := Int.tdiv _ _) (by omega) (by omega),A7 (by omega) (by omega)]; omega)
    (by rw [A7 (n := t.Parts[i].Amp * wv) (by omega) (by omega),A7 (n := Int.tdiv _ _) (by omega) (by omega),A7 (by omega) (by omega)]; omega)
   rw [← W4 hlt hlm] at e1
   refine ⟨r,?_,e2,e3⟩
   simp only [L0,T2,List.getElem?_eq_getElem hlt,Option.bind_some,J6,hlt,decide_true,if_true,hw,B7a hx1 (show 0 ≤ m + t.Parts[i].Phase by omega) (by omega),hwv]
   exact e1
 obtain ⟨r,e1,e2,e3⟩ := key t.Parts.length 0 bigN t.Mean (by omega) (J8 hlm) (by omega) (by omega)
 exact ⟨r,e1,by omega,by omega⟩
theorem C03 {f : XForecast} {m : Int} (h0 : 0 < f.Surges.length) (h6 : f.Surges.length ≤ 6) : ∃ (a : Nat) (ha : a < f.Surges.length),O6 f m = some (a : Int) := by
 have hl : f.Surges.length ≤ maxLen := by rw [F5]; omega
 have key : ∀ (k i n a : Nat) (ha : a < f.Surges.length),i + k = f.Surges.length → k < n → ∃ (a' : Nat) (ha' : a' < f.Surges.length),E6 m f n (a : Int) (i : Int) = some (a' : Int) := by
  intro k
  induction k with
  | zero =>
   intro i n a ha hi hn
   obtain ⟨q,rfl⟩ : ∃ q,n = q + 1 := ⟨n - 1,by omega⟩
   have : i = f.Surges.length := by omega
   subst this
   exact ⟨a,ha,by simp [E6]⟩
  | succ k ih =>
   intro i n a ha hi hn
   obtain ⟨q,rfl⟩ : ∃ q,n = q + 1 := ⟨n - 1,by omega⟩
   have hlt : i < f.Surges.length := by omega
   by_cases hm : f.Surges[i].From ≤ m
   ·obtain ⟨a',ha',e1⟩ := ih (i + 1) q i hlt (by omega) (by omega)
    rw [← W4 hlt hl] at e1
    refine ⟨a',ha',?_⟩
    simp only [E6,T2,List.getElem?_eq_getElem hlt,Option.bind_some,J6,hlt,decide_true,if_true,hm]
    exact e1
   ·obtain ⟨a',ha',e1⟩ := ih (i + 1) q a ha (by omega) (by omega)
    rw [← W4 hlt hl] at e1
    refine ⟨a',ha',?_⟩
    simp only [E6,T2,List.getElem?_eq_getElem hlt,Option.bind_some,J6,hlt,decide_true,if_true,hm,decide_false,Bool.false_eq_true,if_false]
    exact e1
 obtain ⟨a,ha,e1⟩ := key f.Surges.length 0 bigN 0 h0 (by omega) (J8 hl)
 exact ⟨a,ha,e1⟩
theorem D26 {f : XForecast} {m : Int} (hf : A3e f = true) (h0 : 0 ≤ m) (h1 : m ≤ 2880) : ∃ r,E7 f m = some r ∧ O9 f [0] m = some r ∧ -2000000000000 ≤ r ∧ r ≤ 2000000000000 := by
 obtain ⟨ht,s0,s6⟩ := C7c hf
 obtain ⟨t,e1,b1,b2⟩ := C01 ht h0 h1
 obtain ⟨a,ha,e2⟩ := C03 (m := m) s0 s6
 have hs := B8o hf a ha
 have w := A7 (n := t + f.Surges[a].Low) (by omega) (by omega)
 have e3 : E7 f m = some (t + f.Surges[a].Low) := by
  unfold E7
  rw [e1,Option.bind_some,e2,Option.bind_some,J7 ha,Option.bind_some,w]
 refine ⟨t + f.Surges[a].Low,e3,?_,by omega,by omega⟩
 unfold O9 A2l
 have e4 : P9 f m = some (t + f.Surges[a].High) := by
  unfold P9
  rw [e1,Option.bind_some,e2,Option.bind_some,J7 ha,Option.bind_some,A7 (by omega) (by omega)]
 rw [e3,Option.bind_some,e4,Option.bind_some]
 obtain ⟨x,hx⟩ := D2a (xs := [0]) (m := m) (by decide) (by decide) h0 h1
 have hx0 : x = 0 := by
  unfold ix at hx
  split at hx
  ·have := List.mem_of_getElem? hx; simpa using this
  ·cases hx
 unfold B7u at hx
 rw [hx]
 simp only [Option.bind_some,hx0,Int.mul_zero]
 rw [show IntKind.i64.wrap 0 = 0 from rfl,show Int.tdiv 0 1000 = 0 from rfl,show IntKind.i64.wrap 0 = 0 from rfl,Int.add_zero,w]
def A0s (f : XForecast) (m : Int) : Int := (E7 f m).getD 0
theorem A25 {f : XForecast} {m : Int} (hf : A3e f = true) (h0 : 0 ≤ m) (h1 : m ≤ 2880) : E7 f m = some (A0s f m) ∧ O9 f [0] m = some (A0s f m) ∧ -2000000000000 ≤ A0s f m ∧ A0s f m ≤ 2000000000000 := by
 obtain ⟨r,e1,e2,b1,b2⟩ := D26 hf h0 h1
 have : A0s f m = r := by simp [A0s,e1]
 rw [this]
 exact ⟨e1,e2,b1,b2⟩
theorem X9 {n k b : Nat} (h : n ≤ 100000000) (hk : k ≤ 1000) (hb : b ≤ 1000) : E1 n k b = true := by
 have : (n + k) * b ≤ 100001000 * 1000 := Nat.mul_le_mul (by omega) hb
 simp only [E1,decide_eq_true_eq]
 omega
end Go.Vi
namespace Go.Vi
set_option linter.unusedSimpArgs false
set_option linter.unusedVariables false
def WinIn (p : Int → Bool) (m : Int) (l : List XWindow) : Prop := ∀ w ∈ l,0 ≤ w.From ∧ w.From ≤ w.To ∧ w.To < m ∧ ∀ k,w.From ≤ k → k ≤ w.To → p k = true
theorem WinIn.more {p : Int → Bool} {m : Int} {l : List XWindow} (h : WinIn p m l) : WinIn p (m + 1) l := fun w hw => by
 obtain ⟨a,b,c,d⟩ := h w hw
 exact ⟨a,b,by omega,d⟩
theorem WinIn.app {p : Int → Bool} {m : Int} {l : List XWindow} {x : XWindow} (h : WinIn p m l) (hx : WinIn p m [x]) : WinIn p m (l ++ [x]) := fun w hw => by
 rcases List.mem_append.1 hw with hw | hw
 ·exact h w hw
 ·exact hx w hw
theorem B6x {α : Type} (l : List α) (x y : α) : (l ++ [x]).set l.length y = l ++ [y] := by simp
theorem C1a {f : Int → Option Bool} {p : Int → Bool} (hf : ∀ m,0 ≤ m → m ≤ 2880 → f m = some (p m)) : ∃ l,A06 f = some l ∧ WinIn p 2881 l ∧ l.length ≤ 2881 := by
 have key : ∀ (k n : Nat) (b : Bool) (m : Int) (l : List XWindow),m + (k : Int) = 2881 → k < n → 0 ≤ m → (l.length : Int) ≤ m → (b = false → WinIn p m l) →
   (b = true → ∃ l0 x,l = l0 ++ [x] ∧ WinIn p m l0 ∧ 0 ≤ x.From ∧ x.From < m ∧ x.To = m - 1 ∧ ∀ k,x.From ≤ k → k < m → p k = true) → ∃ r,E4 f n b m l = some r ∧ WinIn p 2881 r ∧ r.length ≤ 2881 := by
  intro k
  induction k with
  | zero =>
   intro n b m l hk hn hm hl hF hT
   obtain ⟨q,rfl⟩ : ∃ q,n = q + 1 := ⟨n - 1,by omega⟩
   have : ¬ m ≤ 2880 := by omega
   refine ⟨l,by rw [E4]; simp only [this,decide_false,Bool.false_eq_true,if_false],?_,by omega⟩
   have hm' : m = 2881 := by omega
   subst hm'
   cases b with
   | false => exact hF rfl
   | true =>
    obtain ⟨l0,x,rfl,h0,a1,a2,a3,a4⟩ := hT rfl
    refine h0.app fun w hw => ?_
    simp only [List.mem_singleton] at hw
    subst hw
    exact ⟨a1,by omega,by omega,fun k h1 h2 => a4 k h1 (by omega)⟩
  | succ k ih =>
   intro n b m l hk hn hm hl hF hT
   obtain ⟨q,rfl⟩ : ∃ q,n = q + 1 := ⟨n - 1,by omega⟩
   have hle : m ≤ 2880 := by omega
   rw [E4]
   simp only [hle,decide_true,if_true,hf m hm hle,Option.bind_some]
   have w1 : IntKind.i64.wrap (m + 1) = m + 1 := A7 (by omega) (by omega)
   have last : ∀ (l0 : List XWindow) (x : XWindow),IntKind.i64.wrap (((l0 ++ [x]).length : Int) - 1) = (l0.length : Int) ∨ 3000 < l0.length := fun l0 x => by
    by_cases hb : l0.length ≤ 3000
    ·left; rw [A7 (by simp <;> omega) (by simp <;> omega)]; simp
    ·right; omega
   cases hp : p m with
   | false =>
    simp only [Bool.false_eq_true,if_false,L5,w1]
    refine ih q false (m + 1) l (by omega) (by omega) (by omega) (by omega) (fun _ => ?_) (fun h => by cases h)
    cases b with
    | false => exact (hF rfl).more
    | true =>
     obtain ⟨l0,x,rfl,h0,a1,a2,a3,a4⟩ := hT rfl
     refine h0.more.app fun w hw => ?_
     simp only [List.mem_singleton] at hw
     subst hw
     exact ⟨a1,by omega,by omega,fun k h1 h2 => a4 k h1 (by omega)⟩
   | true =>
    simp only [if_true]
    cases b with
    | true =>
     obtain ⟨l0,x,rfl,h0,a1,a2,a3,a4⟩ := hT rfl
     simp only [List.length_append,List.length_singleton] at hl
     simp only [if_true,O3,L5,w1]
     have e := (last l0 x).resolve_right (by omega)
     have e2 : ix (l0 ++ [x]) (l0.length : Int) = some x := by rw [T2]; simp
     rw [e,e2,Option.bind_some,Int.toNat_natCast,B6x]
     refine ih q true (m + 1) _ (by omega) (by omega) (by omega) (by simp; omega) (fun h => by cases h) (fun _ => ⟨l0,_,rfl,h0.more,a1,by simp; omega,by simp,fun k h1 h2 => ?_⟩)
     simp only at h1
     by_cases hk : k = m
     ·exact hk ▸ hp
     ·exact a4 k h1 (by omega)
    | false =>
     simp only [Bool.false_eq_true,if_false]
     rw [if_pos (X9 (by omega) (by simp) (by omega))]
     simp only [O3,L5,w1]
     have e := (last l ⟨m,0⟩).resolve_right (by omega)
     have e2 : ix (l ++ [(⟨m,0⟩ : XWindow)]) (l.length : Int) = some ⟨m,0⟩ := by rw [T2]; simp
     rw [e,e2,Option.bind_some,Int.toNat_natCast,B6x]
     refine ih q true (m + 1) _ (by omega) (by omega) (by omega) (by simp; omega) (fun h => by cases h) (fun _ => ⟨l,_,rfl,(hF rfl).more,hm,by simp; omega,by simp,fun k h1 h2 => ?_⟩)
     simp only at h1
     have : k = m := by omega
     exact this ▸ hp
 exact key 2881 bigN false 0 [] (by omega) (by rw [Q0]; omega) (by omega) (by simp) (fun _ w hw => by cases hw) (fun h => by cases h)
theorem B67 (l : List XWindow) (hl : l.length ≤ 100000) (hb : ∀ w ∈ l,0 ≤ w.From ∧ w.To ≤ 2880) : ∃ b,X5 l = some b := by
 have key : ∀ (k i n : Nat),i + k = l.length → k < n → ∃ b,I9 l n (i : Int) = some b := by
  intro k
  induction k with
  | zero =>
   intro i n hi hn
   obtain ⟨q,rfl⟩ : ∃ q,n = q + 1 := ⟨n - 1,by omega⟩
   have : i = l.length := by omega
   subst this
   exact ⟨true,by simp [I9]⟩
  | succ k ih =>
   intro i n hi hn
   obtain ⟨q,rfl⟩ : ∃ q,n = q + 1 := ⟨n - 1,by omega⟩
   have hlt : i < l.length := by omega
   obtain ⟨b,e⟩ := ih (i + 1) q (by omega) (by omega)
   rw [← W4 hlt (by rw [F5]; omega)] at e
   rw [I9]
   simp only [J6,hlt,decide_true,if_true,J7 hlt,Option.bind_some]
   by_cases c1 : l[i].From < 0
   ·exact ⟨false,by simp only [c1,decide_true,if_true]⟩
   by_cases c2 : l[i].To < l[i].From
   ·exact ⟨false,by simp only [c1,c2,decide_true,decide_false,Bool.false_eq_true,if_false,if_true]⟩
   by_cases c3 : 2880 < l[i].To
   ·exact ⟨false,by simp only [c1,c2,c3,decide_true,decide_false,Bool.false_eq_true,if_false,if_true]⟩
   simp only [c1,c2,c3,decide_false,Bool.false_eq_true,if_false]
   by_cases c4 : (0 : Int) < (i : Int)
   ·have e4 : IntKind.i64.wrap ((i : Int) - 1) = ((i - 1 : Nat) : Int) := by rw [A7 (by omega) (by omega)]; omega
    simp only [c4,decide_true,if_true,e4,J7 (show i - 1 < l.length by omega),Option.bind_some]
    by_cases c5 : l[i].From ≤ IntKind.i64.wrap (l[i - 1].To + 1)
    ·exact ⟨false,by simp only [c5,decide_true,if_true]⟩
    ·exact ⟨b,by simp only [c5,decide_false,Bool.false_eq_true,if_false]; exact e⟩
   ·exact ⟨b,by simp only [c4,decide_false,Bool.false_eq_true,if_false]; exact e⟩
 exact key l.length 0 bigN (by omega) (J8 (by rw [F5]; omega))
def A2y (p : Int → Bool) (a : Int) (l : List XWindow) : Prop := ∀ w ∈ l,0 ≤ w.From ∧ w.From ≤ w.To ∧ w.To ≤ 2880 ∧ ∀ k,w.From ≤ k → k ≤ w.To → k + a ≤ 2880 ∧ ∀ m,k ≤ m → m ≤ k + a → p m = true
theorem C3c {p : Int → Bool} {l : List XWindow} {a : Int} (hl : l.length ≤ 3000) (h : WinIn p 2881 l) : ∃ r,P5 l a = some r ∧ A2y p a r ∧ r.length ≤ 3000 := by
 unfold P5
 obtain ⟨b,e⟩ := B67 l (by omega) fun w hw => ⟨(h w hw).1,by have := (h w hw).2.2.1; omega⟩
 rw [e,Option.bind_some,W5]
 have hnil : ∃ r,some ([] : List XWindow) = some r ∧ A2y p a r ∧ r.length ≤ 3000 := ⟨[],rfl,(fun w hw => by cases hw),by simp⟩
 cases b with
 | false => simpa using hnil
 | true =>
  simp only [if_true,Option.bind_some]
  cases ha : (decide (0 ≤ a) && decide (a ≤ 2880)) with
  | false => simpa using hnil
  | true =>
   simp only [Bool.and_eq_true,decide_eq_true_eq] at ha
   simp only [if_true]
   have key : ∀ (k i n : Nat) (acc : List XWindow),i + k = l.length → k < n → acc.length ≤ i → A2y p a acc → ∃ r,G0 a l n (i : Int) acc = some r ∧ A2y p a r ∧ r.length ≤ 3000 := by
    intro k
    induction k with
    | zero =>
     intro i n acc hi hn hc hs
     obtain ⟨q,rfl⟩ : ∃ q,n = q + 1 := ⟨n - 1,by omega⟩
     have : i = l.length := by omega
     subst this
     exact ⟨acc,by simp [G0],hs,by omega⟩
    | succ k ih =>
     intro i n acc hi hn hc hs
     obtain ⟨q,rfl⟩ : ∃ q,n = q + 1 := ⟨n - 1,by omega⟩
     have hlt : i < l.length := by omega
     obtain ⟨a1,a2,a3,a4⟩ := h _ (List.getElem_mem hlt)
     rw [G0]
     simp only [J6,hlt,decide_true,if_true,J7 hlt,Option.bind_some,W4 hlt (show l.length ≤ maxLen by rw [F5]; omega)]
     rw [A7 (n := l[i].To - l[i].From) (by omega) (by omega),A7 (n := l[i].To - a) (by omega) (by omega)]
     by_cases c : a ≤ l[i].To - l[i].From
     ·simp only [c,decide_true,if_true]
      rw [if_pos (X9 (by omega) (by simp) (by omega))]
      refine ih (i + 1) q _ (by omega) (by omega) (by simp; omega) fun w hw => ?_
      rcases List.mem_append.1 hw with hw | hw
      ·exact hs w hw
      ·simp only [List.mem_singleton] at hw
       subst hw
       refine ⟨a1,by simp only; omega,by simp only; omega,fun k h1 h2 => ?_⟩
       simp only at h1 h2
       exact ⟨by omega,fun m h3 h4 => a4 m (by omega) (by omega)⟩
     ·simp only [c,decide_false,Bool.false_eq_true,if_false]
      exact ih (i + 1) q acc (by omega) (by omega) (by omega) hs
   exact key l.length 0 bigN [] (by omega) (J8 (by rw [F5]; omega)) (by simp) fun w hw => by cases hw
theorem D41 {l : List XWindow} {a : Int} (hl : l.length ≤ 100000) : ∃ b,A02 l a = some b ∧ (b = true → ∃ w ∈ l,w.From ≤ a ∧ a ≤ w.To) := by
 have key : ∀ (k i n : Nat),i + k = l.length → k < n → ∃ b,L8 a l n (i : Int) = some b ∧ (b = true → ∃ w ∈ l,w.From ≤ a ∧ a ≤ w.To) := by
  intro k
  induction k with
  | zero =>
   intro i n hi hn
   obtain ⟨q,rfl⟩ : ∃ q,n = q + 1 := ⟨n - 1,by omega⟩
   have : i = l.length := by omega
   subst this
   exact ⟨false,by simp [L8],fun h => by cases h⟩
  | succ k ih =>
   intro i n hi hn
   obtain ⟨q,rfl⟩ : ∃ q,n = q + 1 := ⟨n - 1,by omega⟩
   have hlt : i < l.length := by omega
   rw [L8]
   simp only [J6,hlt,decide_true,if_true,J7 hlt,Option.bind_some,L9,W4 hlt (show l.length ≤ maxLen by rw [F5]; omega)]
   cases c : (decide (l[i].From ≤ a) && decide (a ≤ l[i].To)) with
   | true =>
    simp only [Bool.and_eq_true,decide_eq_true_eq] at c
    exact ⟨true,by simp only [if_true],fun _ => ⟨_,List.getElem_mem hlt,c⟩⟩
   | false =>
    simp only [Bool.false_eq_true,if_false]
    exact ih (i + 1) q (by omega) (by omega)
 exact key l.length 0 bigN (by omega) (J8 (by rw [F5]; omega))
theorem D1t {l : List XWindow} {a : Int} (hl : l.length ≤ 100000) (hb : ∀ w ∈ l,0 ≤ w.From ∧ w.From ≤ w.To ∧ w.To ≤ 2880) : ∃ r,W0 l a = some r ∧ (r = -1 ∨ (a ≤ r ∧ ∃ w ∈ l,w.From ≤ r ∧ r ≤ w.To)) := by
 unfold W0
 obtain ⟨b,e⟩ := B67 l hl fun w hw => ⟨(hb w hw).1,(hb w hw).2.2⟩
 rw [e,Option.bind_some]
 cases b with
 | false => exact ⟨-1,by simp,Or.inl rfl⟩
 | true =>
  simp only [if_true]
  have key : ∀ (k i n : Nat),i + k = l.length → k < n → ∃ r,K6 a l n (i : Int) = some r ∧ (r = -1 ∨ (a ≤ r ∧ ∃ w ∈ l,w.From ≤ r ∧ r ≤ w.To)) := by
   intro k
   induction k with
   | zero =>
    intro i n hi hn
    obtain ⟨q,rfl⟩ : ∃ q,n = q + 1 := ⟨n - 1,by omega⟩
    have : i = l.length := by omega
    subst this
    exact ⟨-1,by simp [K6],Or.inl rfl⟩
   | succ k ih =>
    intro i n hi hn
    obtain ⟨q,rfl⟩ : ∃ q,n = q + 1 := ⟨n - 1,by omega⟩
    have hlt : i < l.length := by omega
    rw [K6]
    simp only [J6,hlt,decide_true,if_true,J7 hlt,Option.bind_some,W4 hlt (show l.length ≤ maxLen by rw [F5]; omega)]
    by_cases c : a ≤ l[i].To
    ·simp only [c,decide_true,if_true]
     by_cases d : l[i].From < a
     ·exact ⟨a,by simp only [d,if_true],Or.inr ⟨Int.le_refl a,_,List.getElem_mem hlt,by omega,c⟩⟩
     ·exact ⟨l[i].From,by simp only [d,if_false],Or.inr ⟨by omega,_,List.getElem_mem hlt,Int.le_refl _,(hb _ (List.getElem_mem hlt)).2.1⟩⟩
    ·simp only [c,decide_false,Bool.false_eq_true,if_false]
     exact ih (i + 1) q (by omega) (by omega)
  exact key l.length 0 bigN (by omega) (J8 (by rw [F5]; omega))
end Go.Vi
namespace Go.Vi
set_option linter.unusedSimpArgs false
set_option linter.unusedVariables false
set_option linter.unnecessarySimpa false
def A4a (f : XForecast) (c : XChart) (i : Int) (s : XShip) (m : Int) : Bool := decide (M3 c i s ≤ A0s f m)
theorem G7 {n : Nat} (h : n ≤ 1000000) : n ≤ maxLen := by rw [F5]; omega
theorem I8 {c : XChart} (h : F4 c = true) : c.Points.length ≤ 8 ∧ c.Segments.length ≤ 10 ∧ (∀ x ∈ c.Points,x.Name.length ≤ maxLen) ∧ ∀ x ∈ c.Segments,idx x.A c.Points.length = true ∧ idx x.B c.Points.length = true := by
 simp only [F4,Bool.and_eq_true,decide_eq_true_eq,List.all_eq_true,List.mem_range] at h
 obtain ⟨h1,h2,h3,h4⟩ := h
 refine ⟨h1,h2,fun x hx => ?_,fun x hx => ?_⟩
 ·obtain ⟨i,hi,rfl⟩ := List.getElem_of_mem hx
  have := h3 i hi
  simp only [B7i,List.getElem?_eq_getElem hi,Bool.and_eq_true] at this
  exact G7 (by have := (B7q this.1).2; omega)
 ·obtain ⟨i,hi,rfl⟩ := List.getElem_of_mem hx
  have := h4 i hi
  simp only [A3x,List.getElem?_eq_getElem hi,Bool.and_eq_true,decide_eq_true_eq] at this
  exact ⟨this.1,this.2.1⟩
theorem T5 {s : XShip} (h : J0 s = true) : s.Name.length ≤ maxLen := G7 (by have := (B7q (C1r h).1).2; omega)
theorem A87 {c : XChart} {s : XShip} {i : Int} (hc : F4 c = true) (hi : idx i c.Segments.length = true) : 1 ≤ H6 (M4 c i) s ∧ H6 (M4 c i) s ≤ 480 := by
 obtain ⟨_,_,a,b⟩ := (A7z hc).2.2 _ (A0m hi).2
 unfold H6
 split
 ·rw [A7 (n := 2 * _) (by omega) (by omega)]; omega
 ·omega
theorem D13 {f : XForecast} {c : XChart} {s : XShip} {i : Int} (hf : A3e f = true) (hc : F4 c = true) (hs : J0 s = true) (hi : idx i c.Segments.length = true) :
  ∃ l,V6 f c i s = some l ∧ A2y (A4a f c i s) (H6 (M4 c i) s) l ∧ l.length ≤ 3000 := by
 have hn := (I8 hc).2.2.1
 have hm := T5 hs
 obtain ⟨ws,e1,e2,e3⟩ := C1a (f := fun z0 => Q8 z0 f (M3 c i s)) (p := A4a f c i s) fun m h0 h1 => by
  simp only [Q8,(A25 hf h0 h1).1,Option.bind_some,A4a]
 obtain ⟨r,e4,e5,e6⟩ := C3c (a := H6 (M4 c i) s) (by omega) e2
 refine ⟨r,?_,e5,e6⟩
 unfold V6 L6 A0g R9
 simp only [Z1,I7 hn,R8 hm,hf,hc,hs,hi,Option.bind_some,if_true,A0e,X6 hn hm hc hs hi,e1,(A0m hi).1,U6,e4]
def A44 (x : XSegment) (a : Int) : Int := if a = x.A then x.B else if a = x.B then x.A else -1
theorem C2x (x : XSegment) (a : Int) : O4 x a = some (A44 x a) := by
 unfold O4 A44
 by_cases h1 : a = x.A
 ·rw [if_pos (by simpa using h1),if_pos h1]
 ·rw [if_neg (by simpa using h1),if_neg h1]
  by_cases h2 : a = x.B
  ·rw [if_pos (by simpa using h2),if_pos h2]
  ·rw [if_neg (by simpa using h2),if_neg h2]
theorem B87 {c : XChart} (hc : F4 c = true) {x : XSegment} (hx : x ∈ c.Segments) (a : Int) : A44 x a = -1 ∨ idx (A44 x a) c.Points.length = true := by
 obtain ⟨h1,h2⟩ := (I8 hc).2.2.2 x hx
 unfold A44
 split
 ·exact Or.inr h2
 ·split
  ·exact Or.inr h1
  ·exact Or.inl rfl
theorem A21 {i : Int} {n : Nat} : idx i n = true ↔ 0 ≤ i ∧ i < (n : Int) := by simp [idx]
theorem ix8 (y : X_8_bool) {i : Int} (h0 : 0 ≤ i) (h1 : i < 8) : ∃ b,ix ([y.i0,y.i1,y.i2,y.i3,y.i4,y.i5,y.i6,y.i7] : List Bool) i = some b := by
 obtain ⟨n,rfl⟩ : ∃ n : Nat,i = (n : Int) := ⟨i.toNat,by omega⟩
 exact ⟨_,J7 (show n < ([y.i0,y.i1,y.i2,y.i3,y.i4,y.i5,y.i6,y.i7] : List Bool).length by simp; omega)⟩
theorem B3r {c : XChart} (hc : F4 c = true) (rt : List Int) (a : Int) (hl : rt.length ≤ 1000) : ∃ l b,K2 c a rt = some (l,b) ∧ l.length ≤ rt.length + 1 ∧ (∀ x ∈ l,idx x c.Points.length = true) ∧
  (b = true → l.length = rt.length + 1 ∧ ∀ x ∈ rt,idx x c.Segments.length = true) := by
 obtain ⟨hp8,hs10,_,_⟩ := I8 hc
 have none_ : ∃ l b,(some (([] : List Int),false) : Option (List Int × Bool)) = some (l,b) ∧ l.length ≤ rt.length + 1 ∧ (∀ x ∈ l,idx x c.Points.length = true) ∧ (b = true → l.length = rt.length + 1 ∧ ∀ x ∈ rt,idx x c.Segments.length = true) :=
  ⟨[],false,rfl,by simp,(fun x hx => by cases hx),fun h => by cases h⟩
 have key : ∀ (k i n : Nat) (v5 : Int) (v7 : X_8_bool) (v8 : List Int),i + k = rt.length → k < n → v8.length = i + 1 → (∀ x ∈ v8,idx x c.Points.length = true) → (∀ j (h : j < rt.length),j < i → idx rt[j] c.Segments.length = true) →
   ∃ l b,E5 rt c n v5 (i : Int) v7 v8 = some (l,b) ∧ l.length ≤ rt.length + 1 ∧ (∀ x ∈ l,idx x c.Points.length = true) ∧ (b = true → l.length = rt.length + 1 ∧ ∀ x ∈ rt,idx x c.Segments.length = true) := by
  intro k
  induction k with
  | zero =>
   intro i n v5 v7 v8 hi hn h8 h9 hj
   obtain ⟨q,rfl⟩ : ∃ q,n = q + 1 := ⟨n - 1,by omega⟩
   have : i = rt.length := by omega
   subst this
   refine ⟨v8,true,by simp [E5],by omega,h9,fun _ => ⟨h8,fun x hx => ?_⟩⟩
   obtain ⟨j,hj',rfl⟩ := List.getElem_of_mem hx
   exact hj j hj' hj'
  | succ k ih =>
   intro i n v5 v7 v8 hi hn h8 h9 hj
   obtain ⟨q,rfl⟩ : ∃ q,n = q + 1 := ⟨n - 1,by omega⟩
   have hlt : i < rt.length := by omega
   rw [E5]
   simp only [J6,hlt,decide_true,if_true,J7 hlt,Option.bind_some,A0e]
   cases hx : idx rt[i] c.Segments.length with
   | false => simpa using none_
   | true =>
    simp only [if_true,(A0m hx).1,Option.bind_some,C2x]
    have he := B87 hc (A0m hx).2 v5
    generalize A44 (M4 c rt[i]) v5 = r at he
    by_cases h0 : r < 0
    ·simp only [h0,decide_true,if_true,I0]
     exact none_
    ·have hr := he.resolve_left (by omega)
     have hr' := A21.1 hr
     have hd : (decide (0 ≤ r) && decide (r < 8)) = true := by simp; omega
     simp only [h0,decide_false,Bool.false_eq_true,if_false,hd,if_true]
     obtain ⟨b,e⟩ := ix8 v7 hr'.1 (by omega)
     rw [e,Option.bind_some]
     cases b with
     | true => simp only [I0,if_true]; exact none_
     | false =>
      simp only [I0,Bool.false_eq_true,if_false,hd,if_true]
      rw [if_pos (X9 (by omega) (by simp) (by omega)),W4 hlt (G7 (by omega))]
      refine ih (i + 1) q _ _ _ (by omega) (by omega) (by simp; omega) (fun x hx => ?_) fun j h1 h2 => ?_
      ·rcases List.mem_append.1 hx with hx | hx
       ·exact h9 x hx
       ·simp only [List.mem_singleton] at hx; exact hx ▸ hr
      ·by_cases hji : j = i
       ·subst hji; exact hx
       ·exact hj j h1 (by omega)
 unfold K2
 rw [A0e,Option.bind_some]
 cases ha : idx a c.Points.length with
 | false => simpa using none_
 | true =>
  have ha' := A21.1 ha
  have hd : (decide (0 ≤ a) && decide (a < 8)) = true := by simp; omega
  simp only [if_true,hd]
  exact key rt.length 0 bigN _ _ _ (by omega) (J8 (G7 (by omega))) (by simp) (by simpa using ha) fun j h1 h2 => by omega
theorem A59 {c : XChart} (hc : F4 c = true) (rt : List Int) (hl : rt.length ≤ 1000) : ∃ r,K5 c rt = some r := by
 unfold K5
 rw [I7 (I8 hc).2.2.1,hc,Option.bind_some,if_pos rfl]
 have key : ∀ (k i n : Nat) (v : Int),i + k = rt.length → k < n → ∃ r,H9 rt c n v (i : Int) = some r := by
  intro k
  induction k with
  | zero =>
   intro i n v hi hn
   obtain ⟨q,rfl⟩ : ∃ q,n = q + 1 := ⟨n - 1,by omega⟩
   have : i = rt.length := by omega
   subst this
   exact ⟨v,by simp [H9]⟩
  | succ k ih =>
   intro i n v hi hn
   obtain ⟨q,rfl⟩ : ∃ q,n = q + 1 := ⟨n - 1,by omega⟩
   have hlt : i < rt.length := by omega
   rw [H9]
   simp only [J6,hlt,decide_true,if_true,J7 hlt,Option.bind_some,A0e,W4 hlt (G7 (by omega))]
   cases hx : idx rt[i] c.Segments.length with
   | false => exact ⟨-1,by simp⟩
   | true =>
    simp only [if_true,(A0m hx).1,Option.bind_some]
    exact ih (i + 1) q _ (by omega) (by omega)
 exact key rt.length 0 bigN 0 (by omega) (J8 (G7 (by omega)))
structure VoyOk (f : XForecast) (c : XChart) (s : XShip) (a : Int) (rt : List Int) (v : Xvoyage) : Prop where
 ne : rt ≠ []
 w : v.waits.length = rt.length
 m : v.minutes.length = rt.length
 u : v.sure.length = rt.length
 seg : ∀ x ∈ rt,idx x c.Segments.length = true
 mins : ∀ i (h : i < rt.length),v.minutes[i]? = some (H6 (M4 c rt[i]) s)
 sure : ∀ i (h : i < rt.length),∃ l,v.sure[i]? = some l ∧ A2y (A4a f c rt[i] s) (H6 (M4 c rt[i]) s) l ∧ l.length ≤ 3000
 rok : ∃ pts,K2 c a rt = some (pts,true) ∧ pts.length = rt.length + 1
theorem C3p {f : XForecast} {c : XChart} {s : XShip} (hf : A3e f = true) (hc : F4 c = true) (hs : J0 s = true) (rt : List Int) (a : Int) (hl : rt.length ≤ 1000) :
  ∃ v b,Z4 f c s a rt = some (v,b) ∧ (b = true → VoyOk f c s a rt v) := by
 have hn := (I8 hc).2.2.1
 obtain ⟨pts,b,e1,e2,e3,e4⟩ := B3r hc rt a hl
 have eo : T0 c a rt = some b := by simp only [T0,I7 hn,hc,Option.bind_some,if_true,e1]
 have er : H5 c a rt = some pts := by simp only [H5,I7 hn,hc,Option.bind_some,if_true,e1]
 have none_ : ∃ v b',(some ((⟨[],[],[]⟩ : Xvoyage),false) : Option (Xvoyage × Bool)) = some (v,b') ∧ (b' = true → VoyOk f c s a rt v) := ⟨_,false,rfl,fun h => by cases h⟩
 unfold Z4
 simp only [Z1,R8 (T5 hs),hf,hs,eo,Option.bind_some,if_true,N2]
 cases b with
 | false => simpa using none_
 | true =>
  obtain ⟨e5,e6⟩ := e4 rfl
  simp only [if_true]
  cases rt with
  | nil => simpa using none_
  | cons r0 rs =>
   have hnz : (((r0 :: rs).length : Int) == (0 : Int)) = false := by simp; omega
   simp only [hnz,Bool.false_eq_true,if_false,er,Option.bind_some]
   generalize hrt : r0 :: rs = rt at *
   rw [A92 (by omega),Option.bind_some]
   simp only [List.drop_zero,Nat.sub_zero]
   have hlen : (pts.take rt.length).length = rt.length := by simp; omega
   have key : ∀ (k i n : Nat) (ws : List Bool) (ms : List Int) (us : List (List XWindow)),i + k = rt.length → k < n → ws.length = i → ms.length = i → us.length = i →
     (∀ j (h : j < rt.length),j < i → ms[j]? = some (H6 (M4 c rt[j]) s)) → (∀ j (h : j < rt.length),j < i → ∃ l,us[j]? = some l ∧ A2y (A4a f c rt[j] s) (H6 (M4 c rt[j]) s) l ∧ l.length ≤ 3000) →
     ∃ v b,N1 rt f c s (pts.take rt.length) ((pts.take rt.length).length : Int) n (i : Int) ws ms us = some (v,b) ∧ (b = true → VoyOk f c s a rt v) := by
    intro k
    induction k with
    | zero =>
     intro i n ws ms us hi hn h1 h2 h3 h4 h5
     obtain ⟨q,rfl⟩ : ∃ q,n = q + 1 := ⟨n - 1,by omega⟩
     have : i = rt.length := by omega
     subst this
     refine ⟨⟨ws,ms,us⟩,true,by rw [hlen]; simp [N1],fun _ => ⟨by rw [← hrt]; simp,h1,h2,h3,e6,fun j h => h4 j h h,fun j h => h5 j h h,pts,e1,e5⟩⟩
    | succ k ih =>
     intro i n ws ms us hi hn h1 h2 h3 h4 h5
     obtain ⟨q,rfl⟩ : ∃ q,n = q + 1 := ⟨n - 1,by omega⟩
     have hlt : i < rt.length := by omega
     have hlt' : i < (pts.take rt.length).length := by omega
     have hx := e6 _ (List.getElem_mem hlt)
     have hpt := e3 _ (List.mem_of_mem_take (List.getElem_mem hlt'))
     obtain ⟨l,g1,g2,g3⟩ := D13 hf hc hs hx
     rw [N1]
     simp only [J6,hlt',decide_true,if_true,J7 hlt',J7 hlt,Option.bind_some,(B69 (⟨[],false⟩ : XPoint) hpt).1,(A0m hx).1,U6,g1]
     rw [if_pos (X9 (by omega) (by simp) (by omega)),if_pos (X9 (by omega) (by simp) (by omega)),if_pos (X9 (by omega) (by simp) (by omega)),W4 hlt (G7 (by omega))]
     refine ih (i + 1) q _ _ _ (by omega) (by omega) (by simp; omega) (by simp; omega) (by simp; omega) (fun j hj1 hj2 => ?_) fun j hj1 hj2 => ?_
     ·by_cases hji : j = i
      ·subst hji; subst h2; simp
      ·rw [List.getElem?_append_left (by omega)]; exact h4 j hj1 (by omega)
     ·by_cases hji : j = i
      ·subst hji; subst h3; exact ⟨l,by simp,g2,g3⟩
      ·rw [List.getElem?_append_left (by omega)]; exact h5 j hj1 (by omega)
   exact key rt.length 0 bigN [] [] [] (by omega) (J8 (G7 (by omega))) rfl rfl rfl (fun j _ h => by omega) fun j _ h => by omega
end Go.Vi
namespace Go.Vi
set_option linter.unusedSimpArgs false
set_option linter.unusedVariables false
set_option linter.unnecessarySimpa false
def A94 (y : X_8_bool) : List Bool := [y.i0,y.i1,y.i2,y.i3,y.i4,y.i5,y.i6,y.i7]
def C0r (y : X_8_bool) : Nat := (A94 y).countP fun b => !b
theorem E20 (y : X_8_bool) {n : Nat} (hn : n < 8) : A94 (X_8_bool.set y n true) = (A94 y).set n true := by
 have : n = 0 ∨ n = 1 ∨ n = 2 ∨ n = 3 ∨ n = 4 ∨ n = 5 ∨ n = 6 ∨ n = 7 := by omega
 rcases this with rfl | rfl | rfl | rfl | rfl | rfl | rfl | rfl <;> rfl
theorem C13 {l : List Bool} : ∀ {n : Nat},l[n]? = some false → ((l.set n true).countP fun b => !b) + 1 = l.countP fun b => !b := by
 induction l with
 | nil => intro n h; simp at h
 | cons a l ih =>
  intro n h
  cases n with
  | zero => simp only [List.getElem?_cons_zero,Option.some.injEq] at h; subst h; simp
  | succ n =>
   simp only [List.getElem?_cons_succ] at h
   have := ih h
   simp only [List.set_cons_succ,List.countP_cons]
   omega
theorem B83 {y : X_8_bool} {a : Int} (h : ix (A94 y) a = some false) : C0r (X_8_bool.set y (Int.toNat a) true) + 1 = C0r y ∧ 0 ≤ a ∧ a < 8 := by
 have hg := Z7 h
 have hl : (A94 y).length = 8 := rfl
 have ha : 0 ≤ a := by
  unfold ix at h
  split at h
  ·rename_i h1; exact h1
  ·cases h
 have hn : a.toNat < 8 := by
  have := (List.getElem?_eq_some_iff.1 hg).1
  omega
 refine ⟨?_,ha,by omega⟩
 unfold C0r
 rw [E20 y hn]
 exact C13 hg
theorem B6l {l : List Int} (h : l.length ≤ 1000) : C8 l = some l := by
 unfold C8 mkS
 rw [if_pos ⟨by omega,by omega,by omega,by omega⟩]
 simp only [Option.bind_some,Int.toNat_zero,List.replicate_zero,List.nil_append]
 rw [if_pos (by simp only [E1,List.length_nil,decide_eq_true_eq]; omega)]
theorem C34 {c : XChart} (hc : F4 c = true) : ∀ (u n : Nat) (a b : Int) (rt : List Int) (y : X_8_bool) (out : List (List Int)),u < n → C0r y ≤ u → ix (A94 y) a = some false → rt.length + u ≤ 100 → out.length + 10 ^ u ≤ 100000000 →
  ∃ r,E0 n c a b rt y out = some r ∧ r.length ≤ out.length + 10 ^ u ∧ ∀ x ∈ r,x ∈ out ∨ x.length ≤ 100 := by
 obtain ⟨_,hs10,_,_⟩ := I8 hc
 intro u
 induction u with
 | zero =>
  intro n a b rt y out hn hu hi
  have := (B83 hi).1
  omega
 | succ u ih =>
  intro n a b rt y out hn hu hi hr ho
  obtain ⟨q,rfl⟩ : ∃ q,n = q + 1 := ⟨n - 1,by omega⟩
  obtain ⟨hc1,ha0,ha8⟩ := B83 hi
  have hp : 10 ^ (u + 1) = 10 * 10 ^ u := by rw [Nat.pow_succ]; omega
  have hp1 : 0 < 10 ^ u := Nat.pow_pos (by omega)
  rw [E0,P0]
  by_cases hab : (a == b) = true
  ·rw [if_pos hab,B6l (by omega),Option.bind_some,if_pos (X9 (by omega) (by simp) (by omega))]
   refine ⟨_,rfl,by simp; omega,fun x hx => ?_⟩
   rcases List.mem_append.1 hx with hx | hx
   ·exact Or.inl hx
   ·simp only [List.mem_singleton] at hx; subst hx; exact Or.inr (by omega)
  ·rw [if_neg hab,if_pos (by simp; omega)]
   generalize hy : X_8_bool.set y (Int.toNat a) true = y'
   have hy' : (⟨y'.i0,y'.i1,y'.i2,y'.i3,y'.i4,y'.i5,y'.i6,y'.i7⟩ : X_8_bool) = y' := rfl
   rw [hy']
   rw [hy] at hc1
   have key : ∀ (k i m : Nat) (o : List (List Int)),i + k = c.Segments.length → k < m → o.length ≤ out.length + i * 10 ^ u → (∀ x ∈ o,x ∈ out ∨ x.length ≤ 100) →
     ∃ r,C6 (E0 q) a b rt c y' m (i : Int) o = some r ∧ r.length ≤ out.length + c.Segments.length * 10 ^ u ∧ ∀ x ∈ r,x ∈ out ∨ x.length ≤ 100 := by
    intro k
    induction k with
    | zero =>
     intro i m o hi hm hl hx
     obtain ⟨p,rfl⟩ : ∃ p,m = p + 1 := ⟨m - 1,by omega⟩
     have : i = c.Segments.length := by omega
     subst this
     exact ⟨o,by simp [C6],hl,hx⟩
    | succ k ihk =>
     intro i m o hi hm hl hx
     obtain ⟨p,rfl⟩ : ∃ p,m = p + 1 := ⟨m - 1,by omega⟩
     have hlt : i < c.Segments.length := by omega
     have hsucc : (i + 1) * 10 ^ u = i * 10 ^ u + 10 ^ u := Nat.succ_mul i _
     have hle : i * 10 ^ u ≤ 9 * 10 ^ u := Nat.mul_le_mul_right _ (by omega)
     have go : ∀ o',o'.length ≤ out.length + (i + 1) * 10 ^ u → (∀ x ∈ o',x ∈ out ∨ x.length ≤ 100) → ∃ r,C6 (E0 q) a b rt c y' p (IntKind.i64.wrap ((i : Int) + 1)) o' = some r ∧ r.length ≤ out.length + c.Segments.length * 10 ^ u ∧ ∀ x ∈ r,x ∈ out ∨ x.length ≤ 100 := fun o' h1 h2 => by
      rw [W4 hlt (G7 (by omega))]
      exact ihk (i + 1) p o' (by omega) (by omega) h1 h2
     rw [C6]
     simp only [J6,hlt,decide_true,if_true,J7 hlt,Option.bind_some,C2x]
     have he := B87 hc (List.getElem_mem hlt) a
     generalize A44 c.Segments[i] a = e at he
     by_cases h0 : 0 ≤ e
     ·have he' := A21.1 (he.resolve_left (by omega))
      have hp8 := (I8 hc).1
      have hd : (decide (0 ≤ e) && decide (e < 8)) = true := by simp; omega
      simp only [h0,decide_true,if_true,hd,Bool.true_and]
      rw [if_pos (by simp; omega)]
      obtain ⟨bb,eb⟩ := ix8 y' h0 (by omega)
      rw [eb,Option.bind_some]
      cases bb with
      | true =>
       simp only [F7,Bool.not_true,Bool.false_eq_true,if_false]
       exact go o (by omega) hx
      | false =>
       simp only [F7,Bool.not_false,if_true]
       rw [B6l (by omega),Option.bind_some,if_pos (X9 (by omega) (by simp) (by omega))]
       obtain ⟨r,e1,e2,e3⟩ := ih q e b (rt ++ [(i : Int)]) y' o (by omega) (by omega) eb (by simp; omega) (by omega)
       rw [e1,Option.bind_some]
       exact go r (by omega) fun x h => by
        rcases e3 x h with h | h
        ·exact hx x h
        ·exact Or.inr h
     ·simp only [h0,decide_false,Bool.false_eq_true,if_false,F7]
      exact go o (by omega) hx
   obtain ⟨r,e1,e2,e3⟩ := key c.Segments.length 0 bigN out (by omega) (J8 (G7 (by omega))) (by omega) fun x hx => Or.inl hx
   have hle : c.Segments.length * 10 ^ u ≤ 10 * 10 ^ u := Nat.mul_le_mul_right _ hs10
   exact ⟨r,e1,by omega,e3⟩
theorem B9n {c : XChart} (hc : F4 c = true) (a b : Int) : ∃ r,P2 c a b = some r ∧ r.length ≤ 100000000 ∧ ∀ x ∈ r,x.length ≤ 100 := by
 have hp8 := (I8 hc).1
 have nil_ : ∃ r,some ([] : List (List Int)) = some r ∧ r.length ≤ 100000000 ∧ ∀ x ∈ r,x.length ≤ 100 := ⟨[],rfl,by simp,fun x h => by cases h⟩
 unfold P2 Y7
 rw [I7 (I8 hc).2.2.1,hc,Option.bind_some,if_pos rfl,A0e,Option.bind_some,A0e]
 cases ha : idx a c.Points.length with
 | false => simpa using nil_
 | true =>
  simp only [if_true,Option.bind_some]
  cases hb : idx b c.Points.length with
  | false => simpa using nil_
  | true =>
   simp only [if_true]
   have ha' := A21.1 ha
   have hi : ix (A94 ⟨false,false,false,false,false,false,false,false⟩) a = some false := by
    obtain ⟨n,rfl⟩ : ∃ n : Nat,a = (n : Int) := ⟨a.toNat,by omega⟩
    have : n = 0 ∨ n = 1 ∨ n = 2 ∨ n = 3 ∨ n = 4 ∨ n = 5 ∨ n = 6 ∨ n = 7 := by omega
    rcases this with rfl | rfl | rfl | rfl | rfl | rfl | rfl | rfl <;> rfl
   obtain ⟨r,e1,e2,e3⟩ := C34 hc 8 bigN a b [] ⟨false,false,false,false,false,false,false,false⟩ [] (by rw [Q0]; omega) (by decide) hi (by simp) (by simp)
   rw [e1,Option.bind_some]
   exact ⟨r,rfl,by simpa using e2,fun x hx => (e3 x hx).resolve_left (by simp)⟩
theorem D2o {c : XChart} (hc : F4 c = true) (a b : Int) : ∃ rt q,X2 c a b = some (rt,q) ∧ rt.length ≤ 100 := by
 obtain ⟨r,e,hl,hx⟩ := B9n hc a b
 unfold X2
 rw [e,Option.bind_some]
 cases r with
 | nil => exact ⟨[],false,by simp,by simp⟩
 | cons r0 rs =>
  have hnz : (((r0 :: rs).length : Int) == (0 : Int)) = false := by simp; omega
  have hml : (r0 :: rs).length ≤ maxLen := by rw [F5]; omega
  rw [hnz,if_neg (by simp),show ix (r0 :: rs) 0 = some r0 from rfl,Option.bind_some]
  have h0 : r0.length ≤ 100 := hx r0 (by simp)
  generalize r0 :: rs = l at hl hx hml
  have key : ∀ (k i n : Nat) (v : List Int),i + k = l.length → k < n → v.length ≤ 100 → ∃ rt q,J1 l c n v (i : Int) = some (rt,q) ∧ rt.length ≤ 100 := by
   intro k
   induction k with
   | zero =>
    intro i n v hi hn hv
    obtain ⟨q,rfl⟩ : ∃ q,n = q + 1 := ⟨n - 1,by omega⟩
    have : i = l.length := by omega
    subst this
    exact ⟨v,true,by simp [J1],hv⟩
   | succ k ih =>
    intro i n v hi hn hv
    obtain ⟨q,rfl⟩ : ∃ q,n = q + 1 := ⟨n - 1,by omega⟩
    have hlt : i < l.length := by omega
    have hli := hx _ (List.getElem_mem hlt)
    obtain ⟨m1,e1⟩ := A59 hc l[i] (by omega)
    obtain ⟨m2,e2⟩ := A59 hc v (by omega)
    rw [J1]
    simp only [J6,hlt,decide_true,if_true,J7 hlt,Option.bind_some,e1,e2,W4 hlt hml]
    by_cases hm : m1 < m2
    ·simp only [hm,decide_true,if_true]
     exact ih (i + 1) q _ (by omega) (by omega) hli
    ·simp only [hm,decide_false,Bool.false_eq_true,if_false]
     exact ih (i + 1) q _ (by omega) (by omega) hv
  exact key l.length 0 bigN r0 (by omega) (J8 hml) h0
end Go.Vi
namespace Go.Vi
set_option linter.unusedSimpArgs false
set_option linter.unusedVariables false
set_option linter.unnecessarySimpa false
def A1a (f : XForecast) (c : XChart) (s : XShip) (i x : Int) : Prop := 0 ≤ x ∧ x + H6 (M4 c i) s ≤ 2880 ∧ ∀ m,x ≤ m → m ≤ x + H6 (M4 c i) s → A4a f c i s m = true
theorem B3q {f : XForecast} {c : XChart} {s : XShip} {i x : Int} {l : List XWindow} (h : A2y (A4a f c i s) (H6 (M4 c i) s) l) (hw : ∃ w ∈ l,w.From ≤ x ∧ x ≤ w.To) : A1a f c s i x := by
 obtain ⟨w,hm,h1,h2⟩ := hw
 obtain ⟨a1,_,_,a4⟩ := h w hm
 obtain ⟨b1,b2⟩ := a4 x h1 h2
 exact ⟨by omega,b1,b2⟩
theorem C85 {f : XForecast} {c : XChart} {s : XShip} {a : Int} {rt : List Int} {v : Xvoyage} (hc : F4 c = true) (hv : VoyOk f c s a rt v) (hl : rt.length ≤ 1000) (start : Int) :
  ∃ l b,T6 v start = some (l,b) ∧ (b = true → l.length = rt.length ∧ ∀ i (h : i < rt.length),∃ x,l[i]? = some x ∧ A1a f c s rt[i] x) := by
 have none_ : ∃ l b,(some (([] : List Int),false) : Option (List Int × Bool)) = some (l,b) ∧ (b = true → l.length = rt.length ∧ ∀ i (h : i < rt.length),∃ x,l[i]? = some x ∧ A1a f c s rt[i] x) := ⟨[],false,rfl,fun h => by cases h⟩
 have h0 : 0 < rt.length := List.length_pos_iff.2 hv.ne
 obtain ⟨l0,g1,g2,g3⟩ := hv.sure 0 h0
 unfold T6
 have e0 : ix v.sure 0 = some l0 := by rw [show (0 : Int) = ((0 : Nat) : Int) from rfl,T2,g1]
 obtain ⟨b,e1,e2⟩ := D41 (l := l0) (a := start) (by omega)
 rw [e0,Option.bind_some,e1,Option.bind_some]
 cases b with
 | false => simpa using none_
 | true =>
  simp only [if_true]
  have hs0 := B3q g2 (e2 rfl)
  have key : ∀ (k i n : Nat) (acc : List Int),i + 1 + k = rt.length → k < n → acc.length = i + 1 → (∀ j (h : j < rt.length),j ≤ i → ∃ x,acc[j]? = some x ∧ A1a f c s rt[j] x) →
    ∃ l b,D1 v n ((i + 1 : Nat) : Int) acc = some (l,b) ∧ (b = true → l.length = rt.length ∧ ∀ i (h : i < rt.length),∃ x,l[i]? = some x ∧ A1a f c s rt[i] x) := by
   intro k
   induction k with
   | zero =>
    intro i n acc hi hn ha hj
    obtain ⟨q,rfl⟩ : ∃ q,n = q + 1 := ⟨n - 1,by omega⟩
    have hu : ¬ (i + 1 < v.sure.length) := by rw [hv.u]; omega
    exact ⟨acc,true,by simp only [D1,J6,hu,decide_false,Bool.false_eq_true,if_false],fun _ => ⟨by omega,fun j h => hj j h (by omega)⟩⟩
   | succ k ih =>
    intro i n acc hi hn ha hj
    obtain ⟨q,rfl⟩ : ∃ q,n = q + 1 := ⟨n - 1,by omega⟩
    have hu : i + 1 < v.sure.length := by rw [hv.u]; omega
    have hlt : i + 1 < rt.length := by omega
    obtain ⟨x,f1,f2,f3,f4⟩ := hj i (by omega) (Nat.le_refl i)
    have hm := hv.mins i (by omega)
    obtain ⟨mb1,mb2⟩ := A87 (s := s) hc (hv.seg _ (List.getElem_mem (show i < rt.length by omega)))
    obtain ⟨l,w1,w2,w3⟩ := hv.sure (i + 1) hlt
    have ep : IntKind.i64.wrap (((i + 1 : Nat) : Int) - 1) = (i : Int) := by rw [A7 (by omega) (by omega)]; omega
    obtain ⟨r,n1,n2⟩ := D1t (l := l) (a := IntKind.i64.wrap (x + H6 (M4 c rt[i]) s)) (by omega) fun w hw => ⟨(w2 w hw).1,(w2 w hw).2.1,(w2 w hw).2.2.1⟩
    rw [D1]
    simp only [J6,hu,decide_true,if_true,ep,T2,f1,hm,w1,Option.bind_some,n1]
    by_cases hr : r < 0
    ·simp only [hr,decide_true,if_true,F8]
     exact none_
    ·simp only [hr,decide_false,Bool.false_eq_true,if_false]
     have hsa := B3q w2 (n2.resolve_left (by omega)).2
     have go : ∀ bb,∃ l b,F8 ((i + 1 : Nat) : Int) r v acc (D1 v q) bb = some (l,b) ∧ (b = true → l.length = rt.length ∧ ∀ i (h : i < rt.length),∃ x,l[i]? = some x ∧ A1a f c s rt[i] x) := by
      intro bb
      cases bb with
      | true => simp only [F8,if_true]; exact none_
      | false =>
       simp only [F8,Bool.false_eq_true,if_false]
       rw [if_pos (X9 (by omega) (by simp) (by omega)),W4 hlt (G7 (by omega))]
       refine ih (i + 1) q _ (by omega) (by omega) (by simp; omega) fun j h1 h2 => ?_
       by_cases hji : j = i + 1
       ·subst hji
        exact ⟨r,by rw [← ha]; simp,hsa⟩
       ·obtain ⟨y,y1,y2⟩ := hj j h1 (by omega)
        exact ⟨y,by rw [List.getElem?_append_left (by omega)]; exact y1,y2⟩
     by_cases hlt2 : IntKind.i64.wrap (x + H6 (M4 c rt[i]) s) < r
     ·simp only [hlt2,decide_true,if_true]
      have hwt : i + 1 < v.waits.length := by rw [hv.w]; omega
      rw [List.getElem?_eq_getElem hwt,Option.bind_some]
      exact go _
     ·simp only [hlt2,decide_false,Bool.false_eq_true,if_false]
      exact go _
  exact key (rt.length - 1) 0 bigN [start] (by omega) (J8 (G7 (by omega))) rfl fun j h1 h2 => by
   have : j = 0 := by omega
   subst this
   exact ⟨start,rfl,hs0⟩
theorem B77 {f : XForecast} {c : XChart} {s : XShip} {a sh : Int} {rt st : List Int} {v : Xvoyage} (hc : F4 c = true) (hs : J0 s = true) (hv : VoyOk f c s a rt v) (hl : rt.length ≤ 1000)
  (h1 : st.length = rt.length) (h2 : ∀ i (h : i < rt.length),∃ x,st[i]? = some x ∧ A1a f c s rt[i] x) :
  ∃ ps,V9 c sh s a rt st = some ps ∧ ps.length = rt.length ∧ ∀ p ∈ ps,p.Ship = sh ∧ idx p.Segment c.Segments.length = true ∧ p.End = p.Start + H6 (M4 c p.Segment) s ∧ A1a f c s p.Segment p.Start := by
 obtain ⟨pts,r1,r2⟩ := hv.rok
 have hn := (I8 hc).2.2.1
 unfold V9 T0 H5
 simp only [I7 hn,R8 (T5 hs),hc,hs,Option.bind_some,if_true,r1,h1]
 rw [if_neg (by simp)]
 have key : ∀ (k i n : Nat) (acc : List XPassage),i + k = rt.length → k < n → acc.length = i → (∀ p ∈ acc,p.Ship = sh ∧ idx p.Segment c.Segments.length = true ∧ p.End = p.Start + H6 (M4 c p.Segment) s ∧ A1a f c s p.Segment p.Start) →
   ∃ ps,K4 sh st rt c s pts n (i : Int) acc = some ps ∧ ps.length = rt.length ∧ ∀ p ∈ ps,p.Ship = sh ∧ idx p.Segment c.Segments.length = true ∧ p.End = p.Start + H6 (M4 c p.Segment) s ∧ A1a f c s p.Segment p.Start := by
  intro k
  induction k with
  | zero =>
   intro i n acc hi hn ha hp
   obtain ⟨q,rfl⟩ : ∃ q,n = q + 1 := ⟨n - 1,by omega⟩
   have : i = rt.length := by omega
   subst this
   exact ⟨acc,by simp [K4],ha,hp⟩
  | succ k ih =>
   intro i n acc hi hn ha hp
   obtain ⟨q,rfl⟩ : ∃ q,n = q + 1 := ⟨n - 1,by omega⟩
   have hlt : i < rt.length := by omega
   obtain ⟨x,x1,x2⟩ := h2 i hlt
   have hseg := hv.seg _ (List.getElem_mem hlt)
   obtain ⟨mb1,mb2⟩ := A87 (s := s) hc hseg
   have x2' := x2
   obtain ⟨y1,y2,y3⟩ := x2'
   have hpt : i < pts.length := by omega
   have hmi : (decide (0 ≤ x) && decide (x ≤ 2880)) = true := by simp; omega
   rw [K4]
   simp only [J6,hlt,decide_true,if_true,J7 hlt,T2 st,x1,Option.bind_some,W5,hmi,(A0m hseg).1,J7 hpt,U6]
   rw [if_pos (X9 (by omega) (by simp) (by omega)),W4 hlt (G7 (by omega)),A7 (n := x + _) (by omega) (by omega)]
   refine ih (i + 1) q _ (by omega) (by omega) (by simp; omega) fun p hpm => ?_
   rcases List.mem_append.1 hpm with hpm | hpm
   ·exact hp p hpm
   ·simp only [List.mem_singleton] at hpm
    subst hpm
    exact ⟨rfl,hseg,rfl,x2⟩
 exact key rt.length 0 bigN [] (by omega) (J8 (G7 (by omega))) rfl fun p hp => by cases hp
theorem C0u {f : XForecast} {c : XChart} {s : XShip} {a : Int} {rt st : List Int} {v : Xvoyage} (hc : F4 c = true) (hs : J0 s = true) (hv : VoyOk f c s a rt v) (hl : rt.length ≤ 1000) (h1 : st.length = rt.length) : ∃ r,X7 c s rt st = some r := by
 obtain ⟨r0,e0⟩ := A59 hc rt hl
 have hpos : 0 < rt.length := List.length_pos_iff.2 hv.ne
 unfold X7
 simp only [e0,Option.bind_some,R8 (T5 hs),hs,if_true,h1]
 by_cases hr : r0 < 0
 ·exact ⟨-1,by simp [hr]⟩
 ·simp only [hr,decide_false,Bool.false_eq_true,if_false]
  rw [if_neg (by simpa using hv.ne),if_neg (by simp)]
  have ep : IntKind.i64.wrap ((rt.length : Int) - 1) = ((rt.length - 1 : Nat) : Int) := by rw [A7 (by omega) (by omega)]; omega
  rw [ep,J7 (show rt.length - 1 < st.length by omega),Option.bind_some,W5,Option.bind_some]
  have hseg := hv.seg _ (List.getElem_mem (show rt.length - 1 < rt.length by omega))
  split
  ·rw [J7 (show rt.length - 1 < rt.length by omega),Option.bind_some,(A0m hseg).1,Option.bind_some,U6,Option.bind_some]
   exact ⟨_,rfl⟩
  ·exact ⟨_,rfl⟩
structure OptOk (h : XHarbour) (a : XCall) (o : XOption) : Prop where
 pos : 0 < o.Passages.length
 len : o.Passages.length ≤ 100
 pass : ∀ p ∈ o.Passages,p.Ship = a.Ship ∧ A2i h.Chart h.Fleet p = true ∧ A1a h.Forecast h.Chart (M9 h.Fleet a.Ship) p.Segment p.Start ∧ p.End = p.Start + H6 (M4 h.Chart p.Segment) (M9 h.Fleet a.Ship)
theorem C2w {h : XHarbour} {a : XCall} {rt : List Int} {v : Xvoyage} (hc : F4 h.Chart = true) (hsh : idx a.Ship h.Fleet.length = true) (hs : J0 (M9 h.Fleet a.Ship) = true)
  (hv : VoyOk h.Forecast h.Chart (M9 h.Fleet a.Ship) a.From rt v) (hl : rt.length ≤ 100) (start : Int) : ∃ o b,A1c h a v rt start = some (o,b) ∧ (b = true → OptOk h a o) := by
 obtain ⟨st,b,e1,e2⟩ := C85 hc hv (by omega) start
 unfold A1c
 rw [e1,Option.bind_some]
 cases b with
 | false => exact ⟨_,false,by simp; rfl,fun h => by cases h⟩
 | true =>
  obtain ⟨s1,s2⟩ := e2 rfl
  obtain ⟨ps,p1,p2,p3⟩ := B77 (sh := a.Ship) hc hs hv (by omega) s1 s2
  obtain ⟨r,r1⟩ := C0u hc hs hv (by omega) s1
  simp only [if_true,(A2x hsh).1,Option.bind_some,p1,r1]
  have hok : ∀ cost,OptOk h a ⟨start,r,cost,ps⟩ := fun cost => by
   refine ⟨by rw [p2]; exact List.length_pos_iff.2 hv.ne,by simp only; omega,fun p hp => ?_⟩
   obtain ⟨q1,q2,q3,q4⟩ := p3 p hp
   refine ⟨q1,?_,q4,q3⟩
   obtain ⟨q5,q6,_⟩ := q4
   obtain ⟨mb1,mb2⟩ := A87 (s := M9 h.Fleet a.Ship) hc q2
   simp only [A2i,A3h,Bool.and_eq_true,decide_eq_true_eq,q1]
   exact ⟨hsh,q2,⟨by omega,by omega⟩,by omega,by rw [A7 (by omega) (by omega)]; exact q3⟩
  have key : ∀ (k i n : Nat) (cost : Int),i + k = v.minutes.length → k < n → ∃ o b,Q1 v start r ps n (i : Int) cost = some (o,b) ∧ (b = true → OptOk h a o) := by
   intro k
   induction k with
   | zero =>
    intro i n cost hi hn
    obtain ⟨q,rfl⟩ : ∃ q,n = q + 1 := ⟨n - 1,by omega⟩
    have : i = v.minutes.length := by omega
    subst this
    exact ⟨⟨start,r,cost,ps⟩,decide (r ≤ 2880),by simp [Q1],fun _ => hok cost⟩
   | succ k ih =>
    intro i n cost hi hn
    obtain ⟨q,rfl⟩ : ∃ q,n = q + 1 := ⟨n - 1,by omega⟩
    have hlt : i < v.minutes.length := by omega
    rw [Q1]
    simp only [J6,hlt,decide_true,if_true,J7 hlt,Option.bind_some,W4 hlt (G7 (by rw [hv.m]; omega))]
    exact ih (i + 1) q _ (by omega) (by omega)
  exact key v.minutes.length 0 bigN _ (by omega) (J8 (G7 (by rw [hv.m]; omega)))
def A2g (h : XHarbour) (a : XCall) : Bool := idx a.Ship h.Fleet.length && (idx a.From h.Chart.Points.length && (idx a.To h.Chart.Points.length && (decide (a.From ≠ a.To) && (A3h a.Ready && (decide (a.Ready ≤ a.Due) && decide (a.Due ≤ 2880))))))
theorem B2y (h : XHarbour) (a : XCall) : A1f h a = some (A2g h a) := by
 unfold A1f A2g
 simp only [A0e,Option.bind_some,W5,L9,B8p,A3h,B82]
 cases idx a.Ship h.Fleet.length <;> cases idx a.From h.Chart.Points.length <;> cases idx a.To h.Chart.Points.length <;> simp [bne_iff_ne]
theorem A6d {h : XHarbour} (s : HSmall h) (a : XCall) : U9 h a = some (T3 h && A2g h a) := by
 unfold U9
 rw [A4l s,Option.bind_some,B2y]
 cases T3 h <;> rfl
theorem C2d {h : XHarbour} {a : XCall} (s : HSmall h) (hh : T3 h = true) (ha : A2g h a = true) : ∃ l,S4 h a = some l ∧ l.length ≤ 8 ∧ ∀ o ∈ l,OptOk h a o := by
 have hh' := hh
 simp only [T3,Bool.and_eq_true] at hh'
 obtain ⟨hf,hc,hfl,_,_⟩ := hh'
 have ha' := ha
 simp only [A2g,Bool.and_eq_true,A3h,decide_eq_true_eq] at ha'
 obtain ⟨i1,i2,i3,_,⟨m1,m2⟩,d1,d2⟩ := ha'
 have hs := (A0f hfl).2 _ (A2x i1).2
 obtain ⟨rt,q,b1,b2⟩ := D2o hc a.From a.To
 obtain ⟨v,b,v1,v2⟩ := C3p hf hc hs rt a.From (by omega)
 obtain ⟨pts,pb,t1,_⟩ := B3r hc rt a.From (by omega)
 have hcv : ∃ v' b',W1 h a rt = some (v',b') ∧ (b' = true → VoyOk h.Forecast h.Chart (M9 h.Fleet a.Ship) a.From rt v') := by
  unfold W1 H5
  simp only [I7 (I8 hc).2.2.1,hc,Option.bind_some,if_true,t1]
  have go : ∀ bb,∃ v' b',N6 rt h a bb = some (v',b') ∧ (b' = true → VoyOk h.Forecast h.Chart (M9 h.Fleet a.Ship) a.From rt v') := fun bb => by
   cases bb with
   | true => exact ⟨_,false,rfl,fun h => by cases h⟩
   | false =>
    simp only [N6,Bool.false_eq_true,if_false,(A2x i1).1,Option.bind_some,v1]
    exact ⟨v,b,rfl,v2⟩
  cases pts with
  | nil => exact go true
  | cons p0 pr =>
   rw [if_neg (by simp; omega)]
   have hlen : (p0 :: pr).length ≤ 1000 := by omega
   have ep : IntKind.i64.wrap (((p0 :: pr).length : Int) - 1) = (((p0 :: pr).length - 1 : Nat) : Int) := by rw [A7 (by omega) (by omega)]; simp
   rw [ep,J7 (show (p0 :: pr).length - 1 < (p0 :: pr).length by simp),Option.bind_some]
   exact go _
 obtain ⟨v',b',w1,w2⟩ := hcv
 have nil_ : ∃ l,some ([] : List XOption) = some l ∧ l.length ≤ 8 ∧ ∀ o ∈ l,OptOk h a o := ⟨[],rfl,by simp,fun o ho => by cases ho⟩
 unfold S4
 rw [A6d s,hh,ha,Option.bind_some]
 simp only [Bool.and_self,if_true,b1,Option.bind_some,w1]
 cases q with
 | false => simpa using nil_
 | true =>
  simp only [if_true]
  cases b' with
  | false => simpa using nil_
  | true =>
   simp only [if_true]
   have hv := w2 rfl
   have key : ∀ (k n : Nat) (m : Int) (l : List XOption),2881 - m ≤ (k : Int) → k < n → 0 ≤ m → l.length ≤ 8 → (∀ o ∈ l,OptOk h a o) → ∃ l',F9 (rt,true) h a (v',true) n m l = some l' ∧ l'.length ≤ 8 ∧ ∀ o ∈ l',OptOk h a o := by
    intro k
    induction k with
    | zero =>
     intro n m l hk hn hm hl ho
     obtain ⟨q,rfl⟩ : ∃ q,n = q + 1 := ⟨n - 1,by omega⟩
     have : ¬ m ≤ a.Due := by omega
     exact ⟨l,by simp only [F9,this,decide_false,Bool.false_eq_true,if_false],hl,ho⟩
    | succ k ih =>
     intro n m l hk hn hm hl ho
     obtain ⟨q,rfl⟩ : ∃ q,n = q + 1 := ⟨n - 1,by omega⟩
     rw [F9]
     by_cases hd : m ≤ a.Due
     ·simp only [hd,decide_true,if_true]
      by_cases h8 : (l.length : Int) < 8
      ·simp only [h8,decide_true,if_true]
       obtain ⟨o,ob,o1,o2⟩ := C2w hc i1 hs hv b2 m
       rw [o1,Option.bind_some]
       have wm : IntKind.i64.wrap (m + 15) = m + 15 := A7 (by omega) (by omega)
       cases ob with
       | false =>
        simp only [Bool.false_eq_true,if_false,O7,wm]
        exact ih q (m + 15) l (by omega) (by omega) (by omega) hl ho
       | true =>
        simp only [if_true,O7,wm]
        rw [if_pos (X9 (by omega) (by simp) (by omega))]
        refine ih q (m + 15) _ (by omega) (by omega) (by omega) (by simp; omega) fun o' ho' => ?_
        rcases List.mem_append.1 ho' with ho' | ho'
        ·exact ho o' ho'
        ·simp only [List.mem_singleton] at ho'; subst ho'; exact o2 rfl
      ·simp only [h8,decide_false,Bool.false_eq_true,if_false]
       exact ⟨l,rfl,hl,ho⟩
     ·simp only [hd,decide_false,Bool.false_eq_true,if_false]
      exact ⟨l,rfl,hl,ho⟩
   exact key 2881 bigN a.Ready [] (by omega) (by rw [Q0]; omega) m1 (by simp) fun o ho => by cases ho
end Go.Vi
