/-
  Plain laws, picked out of laws of other rounds by a program. No condition.
-/
import Derived.Test.YtahienmgcfgclaaGNf
namespace Go.Vi
set_option linter.unusedSimpArgs false
set_option linter.unusedVariables false
def i64 (n : Int) : Prop := -9223372036854775808 ≤ n ∧ n ≤ 9223372036854775807
theorem L9 (n lo hi : Int) : C5 n lo hi = some (decide (lo ≤ n) && decide (n ≤ hi)) := by
 unfold C5
 by_cases h : lo ≤ n <;> simp [h]
def B61 (x : Int) : Bool := decide (0 ≤ x) && decide (x ≤ 1000)
def B2f (xs : List Int) : Bool := (decide (1 ≤ (xs.length : Int)) && decide ((xs.length : Int) ≤ 48)) && xs.all B61
theorem B0r {xs : List Int} (h : xs.length ≤ maxLen) : A0w xs = some (B2f xs) := by
 have := A64 (L := O1 xs) xs B61 h (fun n i hi => by simp [O1,T2,hi,L9,B61]) (fun n => by simp [O1])
 simp only [A0w,L9,Option.bind_some,this,B2f]
 cases (decide (1 ≤ (xs.length : Int)) && decide ((xs.length : Int) ≤ 48)) <;> simp
theorem W5 (n : Int) : G3 n = some (decide (0 ≤ n) && decide (n ≤ 2880)) := by simp [G3,L9]
theorem B34 {len : Nat} (p : Nat → Bool) (K : Option Bool) : ∀ (k i : Nat),(List.range' i k).foldr (fun i r => if p i = true then r else some false) K = if (List.range' i k).all p = true then K else some false
 | 0,i => by simp
 | k + 1,i => by
  rw [List.range'_succ,List.foldr_cons,B34 (len := len) p K k (i + 1),List.all_cons]
  cases p i <;> rfl
theorem B3j {len : Nat} (p : Nat → Bool) (K : Option Bool) : ∀ (k i : Nat),(List.range' i k).foldr (fun i r => if p i = true then some false else r) K = if (List.range' i k).any p = true then some false else K
 | 0,i => by simp
 | k + 1,i => by
  rw [List.range'_succ,List.foldr_cons,B3j (len := len) p K k (i + 1),List.any_cons]
  cases p i <;> rfl
theorem A5r {L : Nat → Int → Option Bool} (len : Nat) (p : Nat → Bool) (K : Option Bool) (hl : len ≤ maxLen)
  (hs : ∀ (n i : Nat),i < len → L (n + 1) (i : Int) = if p i = true then L n (IntKind.i64.wrap ((i : Int) + 1)) else some false) (he : ∀ n,L (n + 1) (len : Int) = K) : L bigN 0 = if (List.range len).all p = true then K else some false := by
 have := A28 L len hl (fun i r => if p i = true then r else some false) K hs he len 0 bigN (by omega) (J8 hl)
 rw [B34 (len := len),← List.range_eq_range'] at this
 exact this
theorem C3g {L : Nat → Int → Option Bool} (len : Nat) (p : Nat → Bool) (K : Option Bool) (hl : len ≤ maxLen)
  (hs : ∀ (n i : Nat),i < len → L (n + 1) (i : Int) = if p i = true then some false else L n (IntKind.i64.wrap ((i : Int) + 1))) (he : ∀ n,L (n + 1) (len : Int) = K) : L bigN 0 = if (List.range len).any p = true then some false else K := by
 have := A28 L len hl (fun i r => if p i = true then some false else r) K hs he len 0 bigN (by omega) (J8 hl)
 rw [B3j (len := len),← List.range_eq_range'] at this
 exact this
def C1i (s : List UInt8) (i : Nat) : Bool := match s[i]? with
 | some b => (decide (97 ≤ (b.toNat : Int)) && decide ((b.toNat : Int) ≤ 122)) || (!(decide (i = 0)) && (decide (48 ≤ (b.toNat : Int)) && decide ((b.toNat : Int) ≤ 57)))
 | none => false
def C0p (s : List UInt8) : Bool := decide (1 ≤ (s.length : Int)) && decide ((s.length : Int) ≤ 8)
def A0o (s : List UInt8) : Bool := C0p s && (List.range s.length).all (C1i s)
theorem D1s (c : Int) (K : Option Bool) (z' : Bool) (z : Int) (i : Nat) (hz : z = (i : Int)) :
  (if decide (97 ≤ c) = true then (if decide (c ≤ 122) = true then K else if (z == 0) = true then some false else if decide (c < 48) = true then some false else if decide (57 < c) = true then some false else K)
   else if false = true then K else if (z == 0) = true then some false else if decide (c < 48) = true then some false else if decide (57 < c) = true then some false else K) =
  if ((decide (97 ≤ c) && decide (c ≤ 122)) || (!(decide (i = 0)) && (decide (48 ≤ c) && decide (c ≤ 57)))) = true then K else some false := by
 subst hz
 have e0 : (((i : Nat) : Int) == 0) = decide (i = 0) := by rw [Bool.eq_iff_iff]; simp
 have e1 : decide (c < 48) = !decide (48 ≤ c) := by rw [Bool.eq_iff_iff]; simp
 have e2 : decide (57 < c) = !decide (c ≤ 57) := by rw [Bool.eq_iff_iff]; simp
 rw [e0,e1,e2]
 cases decide (i = 0) <;> cases decide (97 ≤ c) <;> cases decide (c ≤ 122) <;> cases decide (48 ≤ c) <;> cases decide (c ≤ 57) <;> rfl
theorem A6p {s : List UInt8} (h : s.length ≤ maxLen) : Y8 s = some (A0o s) := by
 unfold Y8
 rw [L9]
 rw [A5r (L := I6 s) s.length (C1i s) (some true) h (fun n i hi => ?_) (fun n => by simp [I6])]
 ·unfold A0o C0p
  simp only [Option.bind_some]
  cases (List.range s.length).all (C1i s) <;> cases (decide (1 ≤ (s.length : Int)) && decide ((s.length : Int) ≤ 8)) <;> simp
 ·simp only [I6,Z9,Z8,T2,C1i,List.getElem?_eq_getElem hi,Option.bind_some,J6,hi,decide_true,if_true]
  exact D1s _ _ true (i : Int) i rfl
theorem A57 {R : Type} (p : Nat → Bool) (f : Nat → R) (z : R) : ∀ (k i : Nat),(List.range' i k).foldr (fun i r => if p i = true then some (f i) else r) (some z) = some ((List.range' i k).foldr (fun i r => if p i = true then f i else r) z)
 | 0,i => by simp
 | k + 1,i => by
  rw [List.range'_succ,List.foldr_cons,A57 p f z k (i + 1),List.foldr_cons]
  cases p i <;> simp
def C7p (xs : List XPoint) (s : List UInt8) (i : Nat) : Bool := match xs[i]? with
 | some x => decide (x.Name = s)
 | none => false
def B2s (xs : List XPoint) (s : List UInt8) : Int := (List.range' 0 xs.length).foldr (fun i r => if C7p xs s i = true then (i : Int) else r) (-1)
theorem A8u {c : XChart} {s : List UInt8} (h : c.Points.length ≤ maxLen) : V7 c s = some (B2s c.Points s) := by
 unfold V7
 exact (A28 (K7 s c) c.Points.length h (fun i r => if C7p c.Points s i = true then some (i : Int) else r) (some (-1)) (fun n i hi => by simp [K7,T2,hi,C7p]) (fun n => by simp [K7]) c.Points.length 0 bigN (by omega) (J8 h)).trans (A57 _ _ _ _ _)
def jn (y : XSegment) (a b : Int) : Bool := (decide (y.A = a) && decide (y.B = b)) || (decide (y.A = b) && decide (y.B = a))
theorem B4p (y : XSegment) (a b : Int) : Q3 y a b = some (jn y a b) := by
 unfold Q3 jn
 by_cases h1 : y.A = a <;> by_cases h2 : y.B = b <;> by_cases h3 : y.A = b <;> by_cases h4 : y.B = a <;> simp_all
theorem A65 (i n : Int) : C7 i n = some (decide (0 ≤ i) && decide (i < n)) := by
 unfold C7
 by_cases h : 0 ≤ i <;> simp [h]
def idx (i : Int) (n : Nat) : Bool := decide (0 ≤ i) && decide (i < (n : Int))
def A3x (c : XChart) (i : Nat) : Bool := match c.Segments[i]? with
 | some x => idx x.A c.Points.length && (idx x.B c.Points.length && (!(decide (x.A = x.B)) && ((decide (0 ≤ x.Depth) && decide (x.Depth ≤ 3000)) && ((decide (1 ≤ x.Minutes) && decide (x.Minutes ≤ 240)) && !((List.range i).any fun j => match c.Segments[j]? with | some y => jn y x.A x.B | none => false)))))
 | none => false
def B7i (c : XChart) (i : Nat) : Bool := match c.Points[i]? with
 | some x => A0o x.Name && decide (B2s c.Points x.Name = (i : Int))
 | none => false
def F4 (c : XChart) : Bool := decide (c.Points.length ≤ 8) && (decide (c.Segments.length ≤ 10) && ((List.range c.Points.length).all (B7i c) && (List.range c.Segments.length).all (A3x c)))
theorem A92 {n i : Nat} (h : i ≤ n) : bnd (n : Int) (i : Int) (0 : Int) n = some (0,i) := by
 unfold bnd
 rw [if_pos ⟨by omega,by omega,by omega,by omega⟩]
 simp
theorem D1y {α : Type} {l : List α} {i j : Nat} (hj : j < i) : (l.take i)[j]? = l[j]? := by simp [List.getElem?_take,hj]
theorem I7 {c : XChart} (hn : ∀ x ∈ c.Points,x.Name.length ≤ maxLen) : I2 c = some (F4 c) := by
 unfold I2 F4
 by_cases h1 : c.Points.length ≤ 8
 ·have h1' : ¬ (8 : Int) < c.Points.length := by omega
  by_cases h2 : c.Segments.length ≤ 10
  ·have h2' : ¬ (10 : Int) < c.Segments.length := by omega
   have hp : c.Points.length ≤ maxLen := by rw [F5]; omega
   have hs : c.Segments.length ≤ maxLen := by rw [F5]; omega
   have inner : G4 c bigN 0 = some ((List.range c.Segments.length).all (A3x c)) := by
    rw [A5r (L := G4 c) c.Segments.length (A3x c) (some true) hs (fun n i hi => ?_) (fun n => by simp [G4])]
    ·cases (List.range c.Segments.length).all (A3x c) <;> rfl
    ·simp only [G4,T2,List.getElem?_eq_getElem hi,Option.bind_some,J6,hi,decide_true,if_true,L9,A65,show ∀ (a : Int) (n : Nat),(decide (0 ≤ a) && decide (a < (n : Int))) = idx a n from fun _ _ => rfl,A92 (Nat.le_of_lt hi),A3x,List.drop_zero,Nat.sub_zero]
     have hl : (c.Segments.take i).length = i := by simp; omega
     rw [hl]
     rw [C3g (L := N8 c i c.Segments[i] (c.Segments.take i) (i : Int) (G4 c n)) i (fun j => match c.Segments[j]? with | some y => jn y c.Segments[i].A c.Segments[i].B | none => false)
      (G4 c n (IntKind.i64.wrap ((i : Int) + 1))) (by omega) (fun m j hj => by
       have hj2 : j < c.Segments.length := by omega
       simp only [N8,T2,D1y hj,List.getElem?_eq_getElem hj2,Option.bind_some,J6,hj,decide_true,if_true,B4p]) (fun m => by simp [N8])]
     have e : (c.Segments[i].A == c.Segments[i].B) = decide (c.Segments[i].A = c.Segments[i].B) := rfl
     rw [e]
     cases idx c.Segments[i].A c.Points.length <;> cases idx c.Segments[i].B c.Points.length <;> cases decide (c.Segments[i].A = c.Segments[i].B) <;> cases (decide (0 ≤ c.Segments[i].Depth) && decide (c.Segments[i].Depth ≤ 3000)) <;>
      cases (decide (1 ≤ c.Segments[i].Minutes) && decide (c.Segments[i].Minutes ≤ 240)) <;> cases ((List.range i).any fun j => match c.Segments[j]? with | some y => jn y c.Segments[i].A c.Segments[i].B | none => false) <;> rfl
   rw [A5r (L := N9 c) c.Points.length (B7i c) _ hp (fun n i hi => ?_) (fun n => by simp only [N9,Int.lt_irrefl,decide_false,Bool.false_eq_true,if_false]; exact inner)]
   ·simp only [h1,h2,h1',h2',decide_true,decide_false,Bool.true_and,Bool.false_eq_true,if_false]
    cases (List.range c.Points.length).all (B7i c) <;> rfl
   ·simp only [N9,T2,List.getElem?_eq_getElem hi,Option.bind_some,J6,hi,decide_true,if_true,A6p (hn _ (List.getElem_mem hi)),A8u hp,B7i]
    by_cases e : B2s c.Points c.Points[i].Name = (i : Int) <;> cases A0o c.Points[i].Name <;> simp [e]
  ·have h2' : (10 : Int) < c.Segments.length := by omega
   simp [h1,h1',h2,h2']
 ·have h1' : (8 : Int) < c.Points.length := by omega
  simp [h1,h1']
theorem B7q {s : List UInt8} (h : A0o s = true) : 1 ≤ s.length ∧ s.length ≤ 8 := by
 simp only [A0o,C0p,Bool.and_eq_true,decide_eq_true_eq] at h
 omega
def J0 (s : XShip) : Bool := A0o s.Name && ((decide (10 ≤ s.Length) && decide (s.Length ≤ 400)) && ((decide (100 ≤ s.Draught) && decide (s.Draught ≤ 2000)) && ((decide (0 ≤ s.Line) && decide (s.Line ≤ 3)) && (decide (0 ≤ s.Tugs) && decide (s.Tugs ≤ 4)))))
theorem D49 (a b : Bool) : (if a = true then some b else some false) = some (a && b) := by cases a <;> rfl
theorem R8 {s : XShip} (h : s.Name.length ≤ maxLen) : M1 s = some (J0 s) := by
 have e : (decide (0 ≤ s.Line) && decide (s.Line < 4)) = (decide (0 ≤ s.Line) && decide (s.Line ≤ 3)) := by
  congr 1
  rw [Bool.eq_iff_iff]; simp; omega
 simp only [M1,A6p h,L9,A65,Option.bind_some,D49,J0,e]
theorem C1r {s : XShip} (h : J0 s = true) : A0o s.Name = true ∧ i64 s.Length ∧ i64 s.Draught ∧ i64 s.Line ∧ i64 s.Tugs := by
 simp only [J0,Bool.and_eq_true,decide_eq_true_eq] at h
 unfold i64
 exact ⟨h.1,by omega,by omega,by omega,by omega⟩
def A4k (xs : List XShip) (s : List UInt8) (i : Nat) : Bool := match xs[i]? with
 | some x => decide (x.Name = s)
 | none => false
def W9 (xs : List XShip) (s : List UInt8) : Int := (List.range' 0 xs.length).foldr (fun i r => if A4k xs s i = true then (i : Int) else r) (-1)
theorem A9f {xs : List XShip} {s : List UInt8} (h : xs.length ≤ maxLen) : Y2 xs s = some (W9 xs s) := by
 unfold Y2
 exact (A28 (M0 s xs) xs.length h (fun i r => if A4k xs s i = true then some (i : Int) else r) (some (-1)) (fun n i hi => by simp [M0,T2,hi,A4k]) (fun n => by simp [M0]) xs.length 0 bigN (by omega) (J8 h)).trans (A57 _ _ _ _ _)
def B22 (xs : List XShip) (i : Nat) : Bool := match xs[i]? with
 | some x => J0 x && decide (W9 xs x.Name = (i : Int))
 | none => false
def A1i (xs : List XShip) : Bool := decide (xs.length ≤ 6) && (List.range xs.length).all (B22 xs)
theorem B8p (a b : Int) : (a != b) = !decide (a = b) := rfl
theorem B1r {xs : List XShip} (hn : ∀ x ∈ xs,x.Name.length ≤ maxLen) : A0q xs = some (A1i xs) := by
 unfold A0q A1i
 by_cases h : xs.length ≤ 6
 ·have h' : ¬ (6 : Int) < xs.length := by omega
  have hm : xs.length ≤ maxLen := by rw [F5]; omega
  simp only [h,h',decide_true,decide_false,Bool.false_eq_true,if_false,Bool.true_and]
  refine C21 (L := O0 xs) xs.length (B22 xs) hm (fun n i hi => ?_) (fun n => by simp [O0])
  simp only [O0,J6,hi,decide_true,if_true,J7 hi,Option.bind_some,R8 (hn _ (List.getElem_mem hi)),A9f hm,B22,List.getElem?_eq_getElem hi,B8p]
  cases J0 xs[i] <;> by_cases e : W9 xs xs[i].Name = (i : Int) <;> simp [e]
 ·have h' : (6 : Int) < xs.length := by omega
  simp [h,h']
theorem A0f {xs : List XShip} (h : A1i xs = true) : xs.length ≤ 6 ∧ ∀ x ∈ xs,J0 x = true := by
 simp only [A1i,Bool.and_eq_true,decide_eq_true_eq,List.all_eq_true,List.mem_range] at h
 refine ⟨h.1,fun x hx => ?_⟩
 obtain ⟨i,hi,rfl⟩ := List.getElem_of_mem hx
 have := h.2 i hi
 simp only [B22,List.getElem?_eq_getElem hi,Bool.and_eq_true] at this
 exact this.1
def H6 (x : XSegment) (s : XShip) : Int := if s.Slow = true then IntKind.i64.wrap (2 * x.Minutes) else x.Minutes
def spl (c : UInt8) : List UInt8 → List UInt8 → List (List UInt8)
 | cur,[] => [cur]
 | cur,b :: r => if b = c then cur :: spl c [] r else spl c (cur ++ [b]) r
def split (c : UInt8) (s : List UInt8) : List (List UInt8) := spl c [] s
theorem U6 (x : XSegment) (s : XShip) : G5 s x = some (H6 x s) := by unfold G5 H6; split <;> rfl
def M4 (c : XChart) (i : Int) : XSegment := c.Segments[i.toNat]?.getD ⟨0,0,0,0,false⟩
def M9 (l : List XShip) (i : Int) : XShip := l[i.toNat]?.getD ⟨[],0,0,0,0,false⟩
theorem B69 {α : Type} {l : List α} {i : Int} (d : α) (h : idx i l.length = true) : ix l i = some (l[i.toNat]?.getD d) ∧ l[i.toNat]?.getD d ∈ l := by
 simp only [idx,Bool.and_eq_true,decide_eq_true_eq] at h
 obtain ⟨k,rfl⟩ : ∃ k : Nat,i = (k : Int) := ⟨i.toNat,by omega⟩
 have hk : k < l.length := by omega
 have e : l[((k : Nat) : Int).toNat]?.getD d = l[k] := by simp [hk]
 rw [J7 hk,e]
 exact ⟨rfl,List.getElem_mem hk⟩
theorem A0m {c : XChart} {i : Int} (h : idx i c.Segments.length = true) : ix c.Segments i = some (M4 c i) ∧ M4 c i ∈ c.Segments := B69 _ h
theorem A2x {l : List XShip} {i : Int} (h : idx i l.length = true) : ix l i = some (M9 l i) ∧ M9 l i ∈ l := B69 _ h
theorem A0e (i : Int) (n : Nat) : C7 i (n : Int) = some (idx i n) := A65 i n
def A5s (p : Int) : Bool := (decide (4 ≤ p) && decide (p ≤ 2880)) && (IntKind.i64.wrap (Int.tmod p 4) == 0)
def A2a (x : XPart) : Bool := (decide (0 ≤ x.Amp) && decide (x.Amp ≤ 1000)) && (A5s x.Period && (decide (0 ≤ x.Phase) && decide (x.Phase ≤ IntKind.i64.wrap (x.Period - 1))))
def A36 (t : XTide) : Bool := (decide (-1000 ≤ t.Mean) && decide (t.Mean ≤ 1000)) && (decide (t.Parts.length ≤ 4) && t.Parts.all A2a)
theorem A9t (p : Int) : U7 p = some (A5s p) := by
 simp only [U7,L9,Option.bind_some,A5s]
 cases (decide (4 ≤ p) && decide (p ≤ 2880)) <;> rfl
theorem B2o (x : XPart) : A1d x = some (A2a x) := by
 simp only [A1d,L9,A9t,Option.bind_some,A2a]
 cases (decide (0 ≤ x.Amp) && decide (x.Amp ≤ 1000)) <;> cases A5s x.Period <;> rfl
theorem B2x (t : XTide) : A07 t = some (A36 t) := by
 simp only [A07,L9,Option.bind_some,A36]
 cases (decide (-1000 ≤ t.Mean) && decide (t.Mean ≤ 1000)) with
 | false => rfl
 | true =>
  by_cases h1 : t.Parts.length ≤ 4
  ·have h1' : ¬ (4 : Int) < t.Parts.length := by omega
   rw [A64 (L := P6 t) t.Parts A2a (by rw [F5]; omega) (fun n i hi => by simp only [P6,T2,List.getElem?_eq_getElem hi,Option.bind_some,J6,hi,decide_true,if_true,B2o]) (fun n => by simp [P6])]
   simp [h1,h1']
  ·have h1' : (4 : Int) < t.Parts.length := by omega
   simp [h1,h1']
def A84 (x p : Int) : Int := if x < IntKind.i64.wrap (Int.tdiv p 2) then
  IntKind.i64.wrap (Int.tdiv (IntKind.i64.wrap (IntKind.i64.wrap (40000 * x) * IntKind.i64.wrap (IntKind.i64.wrap (Int.tdiv p 2) - x))) (IntKind.i64.wrap (IntKind.i64.wrap (Int.tdiv p 2) * IntKind.i64.wrap (Int.tdiv p 2))))
 else IntKind.i64.wrap (0 - IntKind.i64.wrap (Int.tdiv (IntKind.i64.wrap (IntKind.i64.wrap (40000 * IntKind.i64.wrap (x - IntKind.i64.wrap (Int.tdiv p 2))) * IntKind.i64.wrap (IntKind.i64.wrap (Int.tdiv p 2) - IntKind.i64.wrap (x - IntKind.i64.wrap (Int.tdiv p 2))))) (IntKind.i64.wrap (IntKind.i64.wrap (Int.tdiv p 2) * IntKind.i64.wrap (Int.tdiv p 2)))))
theorem B32 {p : Int} (h : A5s p = true) : 4 ≤ p ∧ p ≤ 2880 ∧ IntKind.i64.wrap (Int.tmod p 4) = 0 := by
 simp only [A5s,Bool.and_eq_true,decide_eq_true_eq,beq_iff_eq] at h
 exact ⟨h.1.1,h.1.2,h.2⟩
theorem C1w {p : Int} (h1 : 4 ≤ p) (h2 : p ≤ 2880) : (IntKind.i64.wrap (IntKind.i64.wrap (Int.tdiv p 2) * IntKind.i64.wrap (Int.tdiv p 2)) == 0) = false := by
 have e : Int.tdiv p 2 = p / 2 := Int.tdiv_eq_ediv_of_nonneg (by omega)
 rw [e,A7 (n := p / 2) (by omega) (by omega)]
 generalize hq : p / 2 = q
 have q1 : 2 ≤ q := by omega
 have q2 : q ≤ 1440 := by omega
 have m1 : 2 * 2 ≤ q * q := Int.mul_le_mul q1 q1 (by omega) (by omega)
 have m2 : q * q ≤ 1440 * 1440 := Int.mul_le_mul q2 q2 (by omega) (by omega)
 rw [A7 (by omega) (by omega)]
 simp only [beq_eq_false_iff_ne,ne_eq]
 omega
theorem B7a {n p : Int} (hp : A5s p = true) (hn : 0 ≤ n) (hn2 : n ≤ 100000) : A2j n p = some (A84 (Int.tmod n p) p) := by
 obtain ⟨p1,p2,p3⟩ := B32 hp
 have hm : Int.tmod n p = n % p := Int.tmod_eq_emod_of_nonneg hn
 have r1 := Int.emod_nonneg n (show p ≠ 0 by omega)
 have r2 := Int.emod_lt_of_pos n (show 0 < p by omega)
 have k3 : (p == 0) = false := by simp; omega
 have hmm : Int.tmod (n % p + p) p = n % p := by
  rw [Int.tmod_eq_emod_of_nonneg (by omega),Int.add_emod_right,Int.emod_emod]
 unfold A2j
 rw [A9t,hp,Option.bind_some,hm,A7 (n := n % p) (by omega) (by omega),A7 (n := n % p + p) (by omega) (by omega),hmm,A7 (n := n % p) (by omega) (by omega),C1w p1 p2]
 simp only [k3,Bool.false_eq_true,if_false,if_true,decide_eq_true_eq]
 unfold A84
 by_cases hx : n % p < IntKind.i64.wrap (Int.tdiv p 2)
 ·rw [if_pos hx,if_neg (by omega)]
 ·rw [if_neg hx,if_pos (by omega)]
def A11 (x : XSurge) : Bool := (decide (0 ≤ x.From) && decide (x.From ≤ 2880)) && ((decide (-500 ≤ x.Low) && decide (x.Low ≤ 500)) && (decide (x.Low ≤ x.High) && decide (x.High ≤ 500)))
theorem B1s (x : XSurge) : A0x x = some (A11 x) := by
 simp only [A0x,W5,Option.bind_some,A11]
 cases (decide (0 ≤ x.From) && decide (x.From ≤ 2880))
 ·rfl
 ·by_cases a1 : -500 ≤ x.Low <;> by_cases a2 : x.Low ≤ x.High <;> by_cases a3 : x.High ≤ 500 <;> by_cases a4 : x.Low ≤ 500 <;> simp [a1,a2,a3,a4]
  omega
def A8y (l : List XSurge) (i : Nat) : Bool := match l[i]? with
 | some x => A11 x && (match i with | 0 => true | j + 1 => match l[j]? with | some y => !(decide (x.From ≤ y.From)) | none => false)
 | none => false
def B0m (l : List XSurge) : Bool := match l[0]? with
 | some x => decide (x.From = 0)
 | none => false
def A3e (f : XForecast) : Bool := A36 f.Tide && ((decide (1 ≤ (f.Surges.length : Int)) && decide ((f.Surges.length : Int) ≤ 6)) && (B0m f.Surges && (List.range f.Surges.length).all (A8y f.Surges)))
theorem C42 (j : Nat) (h : j ≤ 1000) : IntKind.i64.wrap (((j + 1 : Nat) : Int) - 1) = (j : Int) := by
 rw [A7 (by omega) (by omega)]
 omega
theorem Z1 (f : XForecast) : H8 f = some (A3e f) := by
 simp only [H8,B2x,L9,Option.bind_some,A3e]
 cases A36 f.Tide with
 | false => rfl
 | true =>
  cases hb : (decide (1 ≤ (f.Surges.length : Int)) && decide ((f.Surges.length : Int) ≤ 6)) with
  | false => rfl
  | true =>
   simp only [Bool.and_eq_true,decide_eq_true_eq] at hb
   have h0 : 0 < f.Surges.length := by omega
   have hl : f.Surges.length ≤ maxLen := by rw [F5]; omega
   rw [A5r (L := H7 f) f.Surges.length (A8y f.Surges) (some true) hl (fun n i hi => ?_) (fun n => by simp [H7])]
   ·have e0 : ix f.Surges 0 = some f.Surges[0] := J7 h0
    simp only [e0,Option.bind_some,B0m,List.getElem?_eq_getElem h0,Bool.true_and,if_true]
    by_cases e : f.Surges[0].From = 0 <;> cases (List.range f.Surges.length).all (A8y f.Surges) <;> simp [e]
   ·simp only [H7,T2,List.getElem?_eq_getElem hi,Option.bind_some,J6,hi,decide_true,if_true,B1s,A8y]
    cases i with
    | zero => cases A11 f.Surges[0] <;> simp
    | succ j =>
     have hj : j < f.Surges.length := by omega
     rw [C42 j (by omega)]
     simp only [T2,List.getElem?_eq_getElem hj,Option.bind_some]
     have hp : (0 : Int) < ((j + 1 : Nat) : Int) := by omega
     cases A11 f.Surges[j + 1] <;> cases decide (f.Surges[j + 1].From ≤ f.Surges[j].From) <;> simp
theorem C7c {f : XForecast} (h : A3e f = true) : A36 f.Tide = true ∧ 0 < f.Surges.length ∧ f.Surges.length ≤ 6 := by
 simp only [A3e,Bool.and_eq_true,decide_eq_true_eq] at h
 refine ⟨h.1,?_,?_⟩ <;> omega
def B7u (n : Nat) (m : Int) : Int := if IntKind.i64.wrap ((n : Int) - 1) < IntKind.i64.wrap (Int.tdiv m 60) then IntKind.i64.wrap ((n : Int) - 1) else IntKind.i64.wrap (Int.tdiv m 60)
theorem D2a {xs : List Int} {m : Int} (h1 : 1 ≤ xs.length) (h2 : xs.length ≤ 48) (m0 : 0 ≤ m) (m1 : m ≤ 2880) : ∃ x,ix xs (B7u xs.length m) = some x := by
 have e : Int.tdiv m 60 = m / 60 := Int.tdiv_eq_ediv_of_nonneg m0
 unfold B7u
 rw [e,A7 (n := m / 60) (by omega) (by omega),A7 (n := (xs.length : Int) - 1) (by omega) (by omega)]
 have k : ∃ j : Nat,(if (xs.length : Int) - 1 < m / 60 then (xs.length : Int) - 1 else m / 60) = (j : Int) ∧ j < xs.length := by
  split
  ·exact ⟨xs.length - 1,by omega,by omega⟩
  ·exact ⟨(m / 60).toNat,by omega,by omega⟩
 obtain ⟨j,e1,h⟩ := k
 rw [e1]
 exact ⟨_,J7 h⟩
def A3h (m : Int) : Bool := decide (0 ≤ m) && decide (m ≤ 2880)
theorem C0w {a b : Int} (hb : 1 ≤ b) {B : Int} (h1 : -B ≤ a) (h2 : a ≤ B) : -B ≤ Int.tdiv a b ∧ Int.tdiv a b ≤ B := by
 have hB : 0 ≤ B := by omega
 by_cases ha : 0 ≤ a
 ·rw [Int.tdiv_eq_ediv_of_nonneg ha]
  have := Int.ediv_nonneg ha (show 0 ≤ b by omega)
  have := Int.ediv_le_self b ha
  omega
 ·obtain ⟨c,rfl⟩ : ∃ c,a = -c := ⟨-a,by omega⟩
  rw [Int.neg_tdiv,Int.tdiv_eq_ediv_of_nonneg (by omega)]
  have := Int.ediv_nonneg (show 0 ≤ c by omega) (show 0 ≤ b by omega)
  have := Int.ediv_le_self b (show 0 ≤ c by omega)
  omega
theorem A53 {a b A B : Int} (a1 : -A ≤ a) (a2 : a ≤ A) (b1 : -B ≤ b) (b2 : b ≤ B) : -(A * B) ≤ a * b ∧ a * b ≤ A * B := by
 have hA : 0 ≤ A := by omega
 have hB : 0 ≤ B := by omega
 have h : (a * b).natAbs ≤ (A * B).natAbs := by
  rw [Int.natAbs_mul,Int.natAbs_mul]
  exact Nat.mul_le_mul (by omega) (by omega)
 have hp : 0 ≤ A * B := Int.mul_nonneg hA hB
 omega
theorem B9m {x p : Int} (h0 : 0 ≤ x) (hx : x < p) (p1 : 4 ≤ p) (p2 : p ≤ 2880) : -200000000000 ≤ A84 x p ∧ A84 x p ≤ 200000000000 := by
 have e : Int.tdiv p 2 = p / 2 := Int.tdiv_eq_ediv_of_nonneg (by omega)
 unfold A84
 rw [e,A7 (n := p / 2) (by omega) (by omega)]
 generalize hq : p / 2 = q
 have q1 : 2 ≤ q := by omega
 have q2 : q ≤ 1440 := by omega
 have qq := A53 (a := q) (b := q) (A := 1440) (B := 1440) (by omega) (by omega) (by omega) (by omega)
 have q4 : 2 * 2 ≤ q * q := Int.mul_le_mul q1 q1 (by omega) (by omega)
 rw [A7 (n := q * q) (by omega) (by omega)]
 have key : ∀ y : Int,-3000 ≤ y → y ≤ 3000 → -200000000000 ≤ Int.tdiv (IntKind.i64.wrap (IntKind.i64.wrap (40000 * y) * IntKind.i64.wrap (q - y))) (q * q) ∧ Int.tdiv (IntKind.i64.wrap (IntKind.i64.wrap (40000 * y) * IntKind.i64.wrap (q - y))) (q * q) ≤ 200000000000 * 5 := by
  intro y y1 y2
  rw [A7 (n := 40000 * y) (by omega) (by omega),A7 (n := q - y) (by omega) (by omega)]
  have m := A53 (a := 40000 * y) (b := q - y) (A := 120000000) (B := 5000) (by omega) (by omega) (by omega) (by omega)
  rw [A7 (by omega) (by omega)]
  have t := C0w (b := q * q) (show 1 ≤ q * q by omega) (B := 600000000000) (a := 40000 * y * (q - y)) (by omega) (by omega)
  have t4 : ∀ a : Int,-600000000000 ≤ a → a ≤ 600000000000 → -150000000000 ≤ Int.tdiv a (q * q) ∧ Int.tdiv a (q * q) ≤ 150000000000 := by
   intro a a1 a2
   have hd : ∀ c : Int,0 ≤ c → c ≤ 600000000000 → 0 ≤ c / (q * q) ∧ c / (q * q) ≤ 150000000000 := by
    intro c c1 c2
    refine ⟨Int.ediv_nonneg c1 (by omega),?_⟩
    have h3 := Int.mul_ediv_self_le (x := c) (k := q * q) (by omega)
    have h4 : 0 ≤ c / (q * q) := Int.ediv_nonneg c1 (by omega)
    have h5 : 4 * (c / (q * q)) ≤ q * q * (c / (q * q)) := Int.mul_le_mul_of_nonneg_right (by omega) h4
    omega
   by_cases ha : 0 ≤ a
   ·rw [Int.tdiv_eq_ediv_of_nonneg ha]
    have := hd a ha a2
    omega
   ·obtain ⟨c,rfl⟩ : ∃ c,a = -c := ⟨-a,by omega⟩
    rw [Int.neg_tdiv,Int.tdiv_eq_ediv_of_nonneg (by omega)]
    have := hd c (by omega) (by omega)
    omega
  have := t4 (40000 * y * (q - y)) (by omega) (by omega)
  omega
 have key2 : ∀ y : Int,-3000 ≤ y → y ≤ 3000 → -150000000000 ≤ Int.tdiv (IntKind.i64.wrap (IntKind.i64.wrap (40000 * y) * IntKind.i64.wrap (q - y))) (q * q) ∧ Int.tdiv (IntKind.i64.wrap (IntKind.i64.wrap (40000 * y) * IntKind.i64.wrap (q - y))) (q * q) ≤ 150000000000 := by
  intro y y1 y2
  rw [A7 (n := 40000 * y) (by omega) (by omega),A7 (n := q - y) (by omega) (by omega)]
  have m := A53 (a := 40000 * y) (b := q - y) (A := 120000000) (B := 5000) (by omega) (by omega) (by omega) (by omega)
  rw [A7 (by omega) (by omega)]
  have hd : ∀ c : Int,0 ≤ c → c ≤ 600000000000 → 0 ≤ c / (q * q) ∧ c / (q * q) ≤ 150000000000 := by
   intro c c1 c2
   have h4 : 0 ≤ c / (q * q) := Int.ediv_nonneg c1 (by omega)
   refine ⟨h4,?_⟩
   have h3 := Int.mul_ediv_self_le (x := c) (k := q * q) (by omega)
   have h5 : 4 * (c / (q * q)) ≤ q * q * (c / (q * q)) := Int.mul_le_mul_of_nonneg_right (by omega) h4
   omega
  generalize hz : 40000 * y * (q - y) = z at m
  by_cases ha : 0 ≤ z
  ·rw [Int.tdiv_eq_ediv_of_nonneg ha]
   have := hd z ha (by omega)
   omega
  ·obtain ⟨c,rfl⟩ : ∃ c,z = -c := ⟨-z,by omega⟩
   rw [Int.neg_tdiv,Int.tdiv_eq_ediv_of_nonneg (by omega)]
   have := hd c (by omega) (by omega)
   omega
 split
 ·have := key2 x (by omega) (by omega)
  rw [A7 (by omega) (by omega)]
  omega
 ·rw [A7 (n := x - q) (by omega) (by omega)]
  have := key2 (x - q) (by omega) (by omega)
  rw [A7 (n := Int.tdiv _ _) (by omega) (by omega),A7 (by omega) (by omega)]
  omega
theorem B8o {f : XForecast} (hf : A3e f = true) (a : Nat) (ha : a < f.Surges.length) : -500 ≤ f.Surges[a].Low ∧ f.Surges[a].Low ≤ 500 ∧ f.Surges[a].Low ≤ f.Surges[a].High ∧ f.Surges[a].High ≤ 500 := by
 simp only [A3e,Bool.and_eq_true,List.all_eq_true,List.mem_range] at hf
 have := hf.2.2.2 a ha
 simp only [A8y,List.getElem?_eq_getElem ha,Bool.and_eq_true,A11,decide_eq_true_eq] at this
 omega
def A8o (w : XCrew) : Bool := (decide (0 ≤ w.Tugs) && decide (w.Tugs ≤ 12)) && ((decide (0 ≤ w.Pilots) && decide (w.Pilots ≤ 12)) && (A3h w.Rest && (decide (w.Moves.length = 64) && w.Moves.all fun x => decide (0 ≤ x) && decide (x ≤ 240))))
theorem B82 (a b : Bool) : (if a = true then some b else some false) = some (a && b) := by cases a <;> rfl
theorem B9k {l : List Int} (h : l.length ≤ maxLen) : L7 l bigN 0 = some (l.all fun x => decide (0 ≤ x) && decide (x ≤ 240)) :=
 A64 (L := L7 l) l _ h (fun n i hi => by simp [L7,T2,hi,L9]) (fun n => by simp [L7])
theorem B2w {w : XCrew} (h : w.Moves.length ≤ maxLen) : A08 w = some (A8o w) := by
 simp only [A08,A15,L9,W5,Option.bind_some,B9k h,A8o,A3h]
 by_cases e : w.Moves.length = 64
 ·have e' : ((w.Moves.length : Int) != 64) = false := by simp; omega
  simp only [e,e',Bool.false_eq_true,if_false,decide_true,Bool.true_and,Option.bind_some]
  cases (decide (0 ≤ w.Tugs) && decide (w.Tugs ≤ 12)) <;> cases (decide (0 ≤ w.Pilots) && decide (w.Pilots ≤ 12)) <;> cases (decide (0 ≤ w.Rest) && decide (w.Rest ≤ 2880)) <;> rfl
 ·have e' : ((w.Moves.length : Int) != 64) = true := by simp; omega
  simp only [e,e',if_true,decide_false,Bool.false_and,Bool.and_false,Option.bind_some]
  cases (decide (0 ≤ w.Tugs) && decide (w.Tugs ≤ 12)) <;> cases (decide (0 ≤ w.Pilots) && decide (w.Pilots ≤ 12)) <;> cases (decide (0 ≤ w.Rest) && decide (w.Rest ≤ 2880)) <;> rfl
def C0x (r : XRegime) : Bool := decide (0 ≤ r.Gap) && decide (r.Gap ≤ 60)
def T3 (h : XHarbour) : Bool := A3e h.Forecast && (F4 h.Chart && (A1i h.Fleet && (C0x h.Regime && A8o h.Crew)))
structure HSmall (h : XHarbour) : Prop where
 pn : ∀ x ∈ h.Chart.Points,x.Name.length ≤ maxLen
 fn : ∀ x ∈ h.Fleet,x.Name.length ≤ maxLen
 mv : h.Crew.Moves.length ≤ maxLen
theorem A4l {h : XHarbour} (s : HSmall h) : S9 h = some (T3 h) := by
 simp only [S9,A1o,Z1,I7 s.pn,B1r s.fn,B2w s.mv,L9,Option.bind_some,B82,T3,C0x]
theorem A7z {c : XChart} (h : F4 c = true) : c.Points.length ≤ 8 ∧ c.Segments.length ≤ 10 ∧ ∀ x ∈ c.Segments,0 ≤ x.Depth ∧ x.Depth ≤ 3000 ∧ 1 ≤ x.Minutes ∧ x.Minutes ≤ 240 := by
 simp only [F4,Bool.and_eq_true,decide_eq_true_eq,List.all_eq_true,List.mem_range] at h
 obtain ⟨h1,h2,h3,h4⟩ := h
 refine ⟨h1,h2,fun x hx => ?_⟩
 obtain ⟨i,hi,rfl⟩ := List.getElem_of_mem hx
 have := h4 i hi
 simp only [A3x,List.getElem?_eq_getElem hi,Bool.and_eq_true,decide_eq_true_eq] at this
 omega
def A2i (c : XChart) (fl : List XShip) (p : XPassage) : Bool := idx p.Ship fl.length && (idx p.Segment c.Segments.length && (A3h p.Start && (decide (p.End ≤ 2880) && decide (p.End = IntKind.i64.wrap (p.Start + H6 (M4 c p.Segment) (M9 fl p.Ship))))))
theorem A9k {c : XChart} {fl : List XShip} {p : XPassage} : Y3 c fl p = some (A2i c fl p) := by
 unfold Y3
 simp only [A0e,Option.bind_some,W5,A2i,A3h]
 cases h3 : idx p.Ship fl.length with
 | false => simp
 | true =>
  cases h4 : idx p.Segment c.Segments.length with
  | false => simp
  | true =>
   cases h5 : decide (0 ≤ p.Start) && decide (p.Start ≤ 2880) with
   | false => simp
   | true =>
    simp only [if_true,Bool.true_and,(A2x h3).1,(A0m h4).1,Option.bind_some,U6]
    have e0 : decide (2880 < p.End) = !decide (p.End ≤ 2880) := by rw [Bool.eq_iff_iff]; simp
    rw [e0]
    cases decide (p.End ≤ 2880) <;> simp
    rfl
theorem A46 {c : XChart} {fl : List XShip} {p : XPassage} (hc : F4 c = true) (h : A2i c fl p = true) : idx p.Ship fl.length = true ∧ idx p.Segment c.Segments.length = true ∧ 0 ≤ p.Start ∧ p.Start ≤ p.End ∧ p.End ≤ 2880 := by
 simp only [A2i,A3h,Bool.and_eq_true,decide_eq_true_eq] at h
 obtain ⟨h3,h4,h5,h6,h7⟩ := h
 refine ⟨h3,h4,h5.1,?_,h6⟩
 obtain ⟨_,_,a,b⟩ := (A7z hc).2.2 _ (A0m h4).2
 rw [h7]
 unfold H6
 split
 ·rw [A7 (n := 2 * _) (by omega) (by omega),A7 (by omega) (by omega)]; omega
 ·rw [A7 (by omega) (by omega)]; omega
def A62 (s : XShip) : Int := if s.Slow = true then IntKind.i64.wrap (Int.tdiv s.Draught 50) else IntKind.i64.wrap (Int.tdiv s.Draught 20)
def M3 (c : XChart) (i : Int) (s : XShip) : Int := IntKind.i64.wrap (IntKind.i64.wrap (IntKind.i64.wrap (s.Draught + A62 s) + 50) - (M4 c i).Depth)
theorem X6 {c : XChart} {s : XShip} {i : Int} (hn : ∀ x ∈ c.Points,x.Name.length ≤ maxLen) (hs : s.Name.length ≤ maxLen) (h1 : F4 c = true) (h2 : J0 s = true) (h3 : idx i c.Segments.length = true) : H4 c i s = some (M3 c i s) := by
 unfold H4 L6 A04 A0i
 simp only [I7 hn,R8 hs,h1,h2,Option.bind_some,if_true,A0e,h3,(A0m h3).1,M3,A62]
 cases s.Slow <;> rfl
theorem C0b {c : XChart} {s : XShip} {i : Int} (h1 : F4 c = true) (h2 : J0 s = true) (h3 : idx i c.Segments.length = true) : -10000 ≤ M3 c i s ∧ M3 c i s ≤ 10000 := by
 obtain ⟨d1,d2,_,_⟩ := (A7z h1).2.2 _ (A0m h3).2
 simp only [J0,Bool.and_eq_true,decide_eq_true_eq] at h2
 obtain ⟨_,_,⟨g1,g2⟩,_⟩ := h2
 have hq : 0 ≤ A62 s ∧ A62 s ≤ 2000 := by
  unfold A62
  split
  ·rw [Int.tdiv_eq_ediv_of_nonneg (by omega),A7 (by omega) (by omega)]; omega
  ·rw [Int.tdiv_eq_ediv_of_nonneg (by omega),A7 (by omega) (by omega)]; omega
 unfold M3
 rw [A7 (n := s.Draught + A62 s) (by omega) (by omega),A7 (n := s.Draught + A62 s + 50) (by omega) (by omega),A7 (by omega) (by omega)]
 omega
structure CurOk (c : Xl01Cur) : Prop where
 i0 : 0 ≤ c.i
 i1 : c.i ≤ (c.b.length : Int)
 len : c.b.length ≤ maxLen
theorem B1w (x : Int) : 0 ≤ A0k .and .i64 x 255 ∧ A0k .and .i64 x 255 ≤ 255 := by
 have h : (BitVec.ofInt IntKind.i64.bits x &&& BitVec.ofInt IntKind.i64.bits 255).toNat ≤ 255 := by
  rw [BitVec.toNat_and]
  exact Nat.le_trans Nat.and_le_right (by decide)
 have e : A0k .and .i64 x 255 = ((BitVec.ofInt IntKind.i64.bits x &&& BitVec.ofInt IntKind.i64.bits 255).toNat : Int) := by
  unfold A0k
  exact A7 (by omega) (by omega)
 rw [e]
 omega
theorem A6r {c : Xl01Cur} (h : CurOk c) : ∃ v c',M7 c = some (v,c') ∧ CurOk c' ∧ 0 ≤ v ∧ v ≤ 255 := by
 unfold M7
 have hl := h.len
 rw [F5] at hl
 by_cases hlt : c.i < (c.b.length : Int)
 ·obtain ⟨i,hi⟩ : ∃ i : Nat,c.i = (i : Int) := ⟨c.i.toNat,by have := h.i0; omega⟩
  have h2 : i < c.b.length := by omega
  simp only [hlt,decide_true,if_true]
  rw [hi,J7 h2]
  simp only [Option.bind_some]
  refine ⟨_,_,rfl,⟨?_,?_,h.len⟩,(B1w _).1,(B1w _).2⟩
  ·show 0 ≤ IntKind.i64.wrap ((i : Int) + 1)
   rw [A7 (by omega) (by omega)]; omega
  ·show IntKind.i64.wrap ((i : Int) + 1) ≤ (c.b.length : Int)
   rw [A7 (by omega) (by omega)]; omega
 ·simp only [hlt,decide_false,Bool.false_eq_true,if_false]
  exact ⟨_,_,rfl,⟨h.i0,h.i1,h.len⟩,(B1w _).1,(B1w _).2⟩
theorem D0 {c : Xl01Cur} {n : Int} (h : CurOk c) (hn : n ≤ 1000000) : ∃ v c',A5 c n = some (v,c') ∧ CurOk c' ∧ 0 ≤ v ∧ (0 < n → v < n) ∧ (n ≤ 0 → v = 0) := by
 unfold A5
 by_cases h0 : n ≤ 0
 ·simp only [h0,decide_true,if_true]
  exact ⟨0,c,rfl,h,by omega,fun h => by omega,fun _ => rfl⟩
 simp only [h0,decide_false,Bool.false_eq_true,if_false]
 have hne : (n == 0) = false := by simpa using fun e : n = 0 => h0 (by omega)
 by_cases h1 : n ≤ 256
 ·obtain ⟨v,c',e,k1,k2,k3⟩ := A6r h
  simp only [h1,decide_true,if_true,e,Option.bind_some,hne,Bool.false_eq_true,if_false]
  have hm := Int.emod_nonneg v (b := n) (by omega)
  have hm2 := Int.emod_lt_of_pos v (b := n) (by omega)
  refine ⟨_,_,rfl,k1,?_,?_,fun h => by first | exact h.elim | exact absurd h h0⟩
  ·rw [Int.tmod_eq_emod_of_nonneg k2,A7 (by omega) (by omega)]; exact hm
  ·intro _; rw [Int.tmod_eq_emod_of_nonneg k2,A7 (by omega) (by omega)]; exact hm2
 ·obtain ⟨v1,c1,e1,a1,a2,a3⟩ := A6r h
  obtain ⟨v2,c2,e2,b1,b2,b3⟩ := A6r a1
  obtain ⟨v3,c3,e3,d1,d2,d3⟩ := A6r b1
  obtain ⟨v4,c4,e4,g1,g2,g3⟩ := A6r d1
  simp only [h1,decide_false,Bool.false_eq_true,if_false,e1,e2,e3,e4,Option.bind_some,hne]
  rw [A7 (n := v1 * 16777216) (by omega) (by omega),A7 (n := v2 * 65536) (by omega) (by omega),A7 (n := v3 * 256) (by omega) (by omega),A7 (n := v1 * 16777216 + v2 * 65536) (by omega) (by omega),
   A7 (n := v1 * 16777216 + v2 * 65536 + v3 * 256) (by omega) (by omega),A7 (n := v1 * 16777216 + v2 * 65536 + v3 * 256 + v4) (by omega) (by omega)]
  have k2 : 0 ≤ v1 * 16777216 + v2 * 65536 + v3 * 256 + v4 := by omega
  have hm := Int.emod_nonneg (v1 * 16777216 + v2 * 65536 + v3 * 256 + v4) (b := n) (by omega)
  have hm2 := Int.emod_lt_of_pos (v1 * 16777216 + v2 * 65536 + v3 * 256 + v4) (b := n) (by omega)
  refine ⟨_,_,rfl,g1,?_,?_,fun h => by first | exact h.elim | exact absurd h h0⟩
  ·rw [Int.tmod_eq_emod_of_nonneg k2,A7 (by omega) (by omega)]; exact hm
  ·intro _; rw [Int.tmod_eq_emod_of_nonneg k2,A7 (by omega) (by omega)]; exact hm2
theorem D3p {a : List Int} (ha : a.length ≤ maxLen) : ∃ c,A09 a = some c ∧ CurOk c := by
 unfold A09
 have key : ∀ (k i n : Nat) (v : Int),i + k = a.length → k < n → ∃ c,P3 a n v (i : Int) = some c ∧ CurOk c := by
  intro k
  induction k with
  | zero =>
   intro i n v hi hn
   obtain ⟨m,rfl⟩ : ∃ m,n = m + 1 := ⟨n - 1,by omega⟩
   have : i = a.length := by omega
   subst this
   exact ⟨_,by simp [P3,U2]; rfl,⟨by simp,by simp,ha⟩⟩
  | succ k ih =>
   intro i n v hi hn
   obtain ⟨m,rfl⟩ : ∃ m,n = m + 1 := ⟨n - 1,by omega⟩
   have hlt : i < a.length := by omega
   simp only [P3,J6,hlt,decide_true,if_true,J7 hlt,Option.bind_some,W4 hlt ha]
   by_cases h4 : (i : Int) < 4000
   ·simp only [h4,decide_true,if_true]
    exact ih (i + 1) m _ (by omega) (by omega)
   ·simp only [h4,decide_false,Bool.false_eq_true,if_false,U2]
    exact ⟨_,rfl,⟨by simp,by simp,ha⟩⟩
 exact key a.length 0 bigN _ (by omega) (J8 ha)
theorem A20 {c : Xl01Cur} {n : Int} (h : CurOk c) (hn : n ≤ 1000000) : ∃ b c',G2 c n = some (b,c') ∧ CurOk c' := by
 obtain ⟨v,c',e,h1,_⟩ := D0 h hn
 refine ⟨_,c',by simp only [G2,e,Option.bind_some]; rfl,h1⟩
def B6s (s : XSegment) : Bool := (decide (0 ≤ s.Depth) && decide (s.Depth ≤ 3000)) && (decide (1 ≤ s.Minutes) && decide (s.Minutes ≤ 240))
def B0p (s : XSegment) : XSegment := ⟨s.A,s.B,0,1,s.Meet⟩
def B2a (c : XChart) : XChart := ⟨c.Points,c.Segments.map B0p⟩
theorem C5o {c : XChart} {i : Nat} (hi : i < c.Segments.length) (h : A3x (B2a c) i = true) (hs : B6s c.Segments[i] = true) : A3x c i = true := by
 have e : ∀ (A B : Int),((List.range i).any fun j => match (c.Segments.map B0p)[j]? with | some y => jn y A B | none => false) = ((List.range i).any fun j => match c.Segments[j]? with | some y => jn y A B | none => false) := by
  intro A B
  congr 1
  funext j
  rw [List.getElem?_map]
  cases c.Segments[j]? <;> rfl
 have hb : (B2a c).Segments[i]? = some (B0p c.Segments[i]) := by
  show (c.Segments.map B0p)[i]? = _
  rw [List.getElem?_map,List.getElem?_eq_getElem hi]
  rfl
 unfold A3x at h ⊢
 rw [hb] at h
 rw [List.getElem?_eq_getElem hi]
 simp only [Bool.and_eq_true] at h ⊢
 obtain ⟨h1,h2,h3,_,_,h6⟩ := h
 simp only [B6s,Bool.and_eq_true] at hs
 refine ⟨h1,h2,h3,hs.1,hs.2,?_⟩
 have h6' : (!((List.range i).any fun j => match (c.Segments.map B0p)[j]? with | some y => jn y c.Segments[i].A c.Segments[i].B | none => false)) = true := h6
 rw [e] at h6'
 exact h6'
theorem A4o {c : XChart} (h1 : F4 (B2a c) = true) (h2 : ∀ s ∈ c.Segments,B6s s = true) : F4 c = true := by
 unfold F4 at h1 ⊢
 simp only [Bool.and_eq_true] at h1 ⊢
 obtain ⟨a1,a2,a3,a4⟩ := h1
 refine ⟨a1,?_,a3,?_⟩
 ·have : (B2a c).Segments.length = c.Segments.length := by simp [B2a]
  rw [this] at a2
  exact a2
 ·rw [List.all_eq_true] at a4 ⊢
  intro i hi
  have hlt : i < c.Segments.length := List.mem_range.1 hi
  exact C5o hlt (a4 i (by rw [List.mem_range]; simpa [B2a] using hlt)) (h2 _ (List.getElem_mem hlt))
theorem B41 {A B d m : Int} {b : Bool} (h1 : 0 ≤ d ∧ d ≤ 3000) (h2 : 1 ≤ m ∧ m ≤ 240) : B6s ⟨A,B,d,m,b⟩ = true := by
 simp only [B6s,Bool.and_eq_true,decide_eq_true_eq]
 exact ⟨h1,h2⟩
theorem D0c {m n b : Nat} (h : m + n ≤ 2000000) (hb : b ≤ 1000) : E1 m n b = true := by
 unfold E1
 rw [decide_eq_true_eq]
 have : (m + n) * b ≤ 2000000 * 1000 := Nat.mul_le_mul h hb
 omega
theorem ifa {α : Type} {m n b : Nat} (h : m + n ≤ 2000000) (hb : b ≤ 1000) (x y : α) : (if E1 m n b = true then x else y) = x := by rw [if_pos (D0c h hb)]
end Go.Vi
