/-
  Plain laws, picked out of laws of other rounds by a program. No condition.
-/
import Derived.Test.YtoipbdhhdpgdkaaGreatDoorCNf
import Derived.Test.YtoipbdhhdpgdkaaGreatDoorCIa
namespace Go.Vi
open Go.Lib
set_option linter.unusedSimpArgs false
set_option linter.unusedVariables false
theorem l01In_eq (n lo hi : Int) : f_spec_l01In n lo hi = some (decide (lo ≤ n) && decide (n ≤ hi)) := by
 unfold f_spec_l01In
 by_cases h : lo ≤ n <;> simp [h]
theorem within_eq (n lo hi : Int) : f_impl_within n lo hi = some (decide (lo ≤ n) && decide (n ≤ hi)) := by
 unfold f_impl_within
 by_cases h : lo ≤ n <;> simp [h]
theorem mkS_len {n bytes : Nat} (h : n ≤ 1048576) (hb : bytes ≤ 1000) : mkS (n : Int) (n : Int) bytes = some n := by
 unfold mkS
 have : (n : Int) * (bytes : Int) ≤ 140737488355328 := by
  have : n * bytes ≤ 1048576 * 1000 := Nat.mul_le_mul h hb
  have e : ((n * bytes : Nat) : Int) = (n : Int) * (bytes : Int) := by simp
  omega
 rw [if_pos ⟨by omega,by omega,this,by omega⟩]
 simp
theorem le_max {n : Nat} (h : n ≤ 1048576) : n ≤ maxLen := by rw [maxLen_val]; omega
theorem toIntS_eq {xs : List Int} (h : xs.length ≤ 1048576) : f_laws_toIntS xs = some xs := by
 unfold f_laws_toIntS
 rw [mkS_len h (by omega)]
 have := copy_loop (L := f_laws_toIntS_1 xs) xs id (le_max h) (fun n i acc hi ha => by simp [f_laws_toIntS_1,ix_nn,hi,ha]) (fun n acc => by simp [f_laws_toIntS_1]) (List.replicate xs.length 0) (by simp)
 simpa using this
theorem eqIntS_eq {xs ys : List Int} (h : xs.length ≤ maxLen) : f_laws_eqIntS xs ys = some (decide (xs = ys)) := by
 unfold f_laws_eqIntS
 by_cases hl : xs.length = ys.length
 ·have := eq_loop (L := f_laws_eqIntS_1 xs ys) xs ys h hl (fun n i h1 h2 => by simp [f_laws_eqIntS_1,ix_nn,h1,h2]) (fun n => by simp [f_laws_eqIntS_1])
  simp [hl,this]
 ·have : ¬ (xs.length : Int) = ys.length := by omega
  have : xs ≠ ys := fun e => hl (by rw [e])
  simp_all
theorem len_ok {α : Type} {row : α → List D} {xs : List α} (h : (D.sl (List.map row xs)).Ok) : xs.length ≤ maxLen := by simpa using h.sl.1
theorem isMinute_eq (n : Int) : f_impl_isMinute n = some (decide (0 ≤ n) && decide (n ≤ 2880)) := by simp [f_impl_isMinute,within_eq]
theorem foldr_all {len : Nat} (p : Nat → Bool) (K : Option Bool) : ∀ (k i : Nat),(List.range' i k).foldr (fun i r => if p i = true then r else some false) K = if (List.range' i k).all p = true then K else some false
 | 0,i => by simp
 | k + 1,i => by
  rw [List.range'_succ,List.foldr_cons,foldr_all (len := len) p K k (i + 1),List.all_cons]
  cases p i <;> rfl
theorem foldr_any {len : Nat} (p : Nat → Bool) (K : Option Bool) : ∀ (k i : Nat),(List.range' i k).foldr (fun i r => if p i = true then some false else r) K = if (List.range' i k).any p = true then some false else K
 | 0,i => by simp
 | k + 1,i => by
  rw [List.range'_succ,List.foldr_cons,foldr_any (len := len) p K k (i + 1),List.any_cons]
  cases p i <;> rfl
theorem all_loopK {L : Nat → Int → Option Bool} (len : Nat) (p : Nat → Bool) (K : Option Bool) (hl : len ≤ maxLen)
  (hs : ∀ (n i : Nat),i < len → L (n + 1) (i : Int) = if p i = true then L n (IntKind.i64.wrap ((i : Int) + 1)) else some false) (he : ∀ n,L (n + 1) (len : Int) = K) : L bigN 0 = if (List.range len).all p = true then K else some false := by
 have := range_loop L len hl (fun i r => if p i = true then r else some false) K hs he len 0 bigN (by omega) (lt_bigN hl)
 rw [foldr_all (len := len),← List.range_eq_range'] at this
 exact this
theorem any_loopK {L : Nat → Int → Option Bool} (len : Nat) (p : Nat → Bool) (K : Option Bool) (hl : len ≤ maxLen)
  (hs : ∀ (n i : Nat),i < len → L (n + 1) (i : Int) = if p i = true then some false else L n (IntKind.i64.wrap ((i : Int) + 1))) (he : ∀ n,L (n + 1) (len : Int) = K) : L bigN 0 = if (List.range len).any p = true then some false else K := by
 have := range_loop L len hl (fun i r => if p i = true then some false else r) K hs he len 0 bigN (by omega) (lt_bigN hl)
 rw [foldr_any (len := len),← List.range_eq_range'] at this
 exact this
def nmOk (s : List UInt8) (i : Nat) : Bool := match s[i]? with
 | some b => (decide (97 ≤ (b.toNat : Int)) && decide ((b.toNat : Int) ≤ 122)) || (!(decide (i = 0)) && (decide (48 ≤ (b.toNat : Int)) && decide ((b.toNat : Int) ≤ 57)))
 | none => false
def nmLen (s : List UInt8) : Bool := decide (1 ≤ (s.length : Int)) && decide ((s.length : Int) ≤ 8)
def isName (s : List UInt8) : Bool := nmLen s && (List.range s.length).all (nmOk s)
theorem nm_step (c : Int) (K : Option Bool) (z' : Bool) (z : Int) (i : Nat) (hz : z = (i : Int)) :
  (if decide (97 ≤ c) = true then (if decide (c ≤ 122) = true then K else if (z == 0) = true then some false else if decide (c < 48) = true then some false else if decide (57 < c) = true then some false else K)
   else if false = true then K else if (z == 0) = true then some false else if decide (c < 48) = true then some false else if decide (57 < c) = true then some false else K) =
  if ((decide (97 ≤ c) && decide (c ≤ 122)) || (!(decide (i = 0)) && (decide (48 ≤ c) && decide (c ≤ 57)))) = true then K else some false := by
 subst hz
 have e0 : (((i : Nat) : Int) == 0) = decide (i = 0) := by rw [Bool.eq_iff_iff]; simp
 have e1 : decide (c < 48) = !decide (48 ≤ c) := by rw [Bool.eq_iff_iff]; simp
 have e2 : decide (57 < c) = !decide (c ≤ 57) := by rw [Bool.eq_iff_iff]; simp
 rw [e0,e1,e2]
 cases decide (i = 0) <;> cases decide (97 ≤ c) <;> cases decide (c ≤ 122) <;> cases decide (48 ≤ c) <;> cases decide (c ≤ 57) <;> rfl
theorem spec_IsName_eq {s : List UInt8} (h : s.length ≤ maxLen) : f_spec_IsName s = some (isName s) := by
 unfold f_spec_IsName
 rw [all_loopK (L := f_spec_IsName_1 s) s.length (nmOk s) (some (nmLen s)) h (fun n i hi => ?_) (fun n => by simp [f_spec_IsName_1,l01In_eq,nmLen])]
 ·unfold isName
  cases (List.range s.length).all (nmOk s) <;> simp
 ·simp only [f_spec_IsName_1,f_spec_IsName_2,f_spec_IsName_3,ix_nn,nmOk,List.getElem?_eq_getElem hi,Option.bind_some,dec_nn,hi,decide_true,if_true]
  exact nm_step _ _ true (i : Int) i rfl
theorem impl_IsName_eq {s : List UInt8} (h : s.length ≤ maxLen) : f_impl_IsName s = some (isName s) := by
 unfold f_impl_IsName
 rw [within_eq]
 rw [all_loopK (L := f_impl_IsName_1 s) s.length (nmOk s) (some true) h (fun n i hi => ?_) (fun n => by simp [f_impl_IsName_1])]
 ·unfold isName nmLen
  simp only [Option.bind_some]
  cases (List.range s.length).all (nmOk s) <;> cases (decide (1 ≤ (s.length : Int)) && decide ((s.length : Int) ≤ 8)) <;> simp
 ·simp only [f_impl_IsName_1,f_impl_IsName_2,f_impl_IsName_3,ix_nn,nmOk,List.getElem?_eq_getElem hi,Option.bind_some,dec_nn,hi,decide_true,if_true]
  exact nm_step _ _ true (i : Int) i rfl
theorem foldr_first {R : Type} (p : Nat → Bool) (f : Nat → R) (z : R) : ∀ (k i : Nat),(List.range' i k).foldr (fun i r => if p i = true then some (f i) else r) (some z) = some ((List.range' i k).foldr (fun i r => if p i = true then f i else r) z)
 | 0,i => by simp
 | k + 1,i => by
  rw [List.range'_succ,List.foldr_cons,foldr_first p f z k (i + 1),List.foldr_cons]
  cases p i <;> simp
def ptIs (xs : List XPoint) (s : List UInt8) (i : Nat) : Bool := match xs[i]? with
 | some x => decide (x.Name = s)
 | none => false
def ptNamed (xs : List XPoint) (s : List UInt8) : Int := (List.range' 0 xs.length).foldr (fun i r => if ptIs xs s i = true then (i : Int) else r) (-1)
theorem spec_PointNamed_eq {c : XChart} {s : List UInt8} (h : c.Points.length ≤ maxLen) : f_spec_PointNamed c s = some (ptNamed c.Points s) := by
 unfold f_spec_PointNamed
 exact (range_loop (f_spec_PointNamed_1 s c) c.Points.length h (fun i r => if ptIs c.Points s i = true then some (i : Int) else r) (some (-1)) (fun n i hi => by simp [f_spec_PointNamed_1,ix_nn,hi,ptIs]) (fun n => by simp [f_spec_PointNamed_1]) c.Points.length 0 bigN (by omega) (lt_bigN h)).trans (foldr_first _ _ _ _ _)
theorem impl_PointNamed_eq {c : XChart} {s : List UInt8} (h : c.Points.length ≤ maxLen) : f_impl_PointNamed c s = some (ptNamed c.Points s) := by
 unfold f_impl_PointNamed
 exact (range_loop (f_impl_PointNamed_1 s c) c.Points.length h (fun i r => if ptIs c.Points s i = true then some (i : Int) else r) (some (-1)) (fun n i hi => by simp [f_impl_PointNamed_1,ix_nn,hi,ptIs]) (fun n => by simp [f_impl_PointNamed_1]) c.Points.length 0 bigN (by omega) (lt_bigN h)).trans (foldr_first _ _ _ _ _)
def jn (y : XSegment) (a b : Int) : Bool := (decide (y.A = a) && decide (y.B = b)) || (decide (y.A = b) && decide (y.B = a))
theorem spec_joins_eq (y : XSegment) (a b : Int) : f_spec_l05Joins y a b = some (jn y a b) := by
 unfold f_spec_l05Joins jn
 by_cases h1 : y.A = a <;> by_cases h2 : y.B = b <;> by_cases h3 : y.A = b <;> by_cases h4 : y.B = a <;> simp_all
theorem impl_joins_eq (y : XSegment) (a b : Int) : f_impl_Segment_joins y a b = some (jn y a b) := by
 unfold f_impl_Segment_joins jn
 by_cases h1 : y.A = a <;> by_cases h2 : y.B = b <;> by_cases h3 : y.A = b <;> by_cases h4 : y.B = a <;> simp_all
theorem szIntS_of {xs : List Int} {l : Int} (h0 : 0 ≤ l) (h1 : l ≤ 1048576) (hx : xs.length ≤ maxLen) : ∃ r,f_laws_szIntS xs l = some r ∧ (0 ≤ r → r ≤ l ∧ xs.length ≤ 1048576) := by
 unfold f_laws_szIntS
 rw [maxLen_val] at hx
 rw [wrap64 (by omega) (by omega)]
 by_cases h : l - (xs.length : Int) < 0
 ·exact ⟨-1,by simp [h],by omega⟩
 ·exact ⟨l - xs.length,by simp [h],by omega⟩
theorem isIndex_eq (i n : Int) : f_impl_isIndex i n = some (decide (0 ≤ i) && decide (i < n)) := by
 unfold f_impl_isIndex
 by_cases h : 0 ≤ i <;> simp [h]
def idx (i : Int) (n : Nat) : Bool := decide (0 ≤ i) && decide (i < (n : Int))
theorem in_idx (i : Int) {n : Nat} (h : n ≤ 1000) : (decide (0 ≤ i) && decide (i ≤ IntKind.i64.wrap ((n : Int) - 1))) = idx i n := by
 rw [wrap64 (by omega) (by omega)]
 unfold idx
 congr 1
 rw [Bool.eq_iff_iff]
 simp
 omega
def segOk (c : XChart) (i : Nat) : Bool := match c.Segments[i]? with
 | some x => idx x.A c.Points.length && (idx x.B c.Points.length && (!(decide (x.A = x.B)) && ((decide (0 ≤ x.Depth) && decide (x.Depth ≤ 3000)) && ((decide (1 ≤ x.Minutes) && decide (x.Minutes ≤ 240)) && !((List.range i).any fun j => match c.Segments[j]? with | some y => jn y x.A x.B | none => false)))))
 | none => false
def ptOk (c : XChart) (i : Nat) : Bool := match c.Points[i]? with
 | some x => isName x.Name && decide (ptNamed c.Points x.Name = (i : Int))
 | none => false
def chartOk (c : XChart) : Bool := decide (c.Points.length ≤ 8) && (decide (c.Segments.length ≤ 10) && ((List.range c.Points.length).all (ptOk c) && (List.range c.Segments.length).all (segOk c)))
theorem bnd_take {n i : Nat} (h : i ≤ n) : bnd (n : Int) (i : Int) (0 : Int) n = some (0,i) := by
 unfold bnd
 rw [if_pos ⟨by omega,by omega,by omega,by omega⟩]
 simp
theorem take_at {α : Type} {l : List α} {i j : Nat} (hj : j < i) : (l.take i)[j]? = l[j]? := by simp [List.getElem?_take,hj]
theorem spec_ChartOk_eq {c : XChart} (hn : ∀ x ∈ c.Points,x.Name.length ≤ maxLen) : f_spec_ChartOk c = some (chartOk c) := by
 unfold f_spec_ChartOk chartOk
 by_cases h1 : c.Points.length ≤ 8
 ·have h1' : ¬ (8 : Int) < c.Points.length := by omega
  by_cases h2 : c.Segments.length ≤ 10
  ·have h2' : ¬ (10 : Int) < c.Segments.length := by omega
   have hp : c.Points.length ≤ maxLen := by rw [maxLen_val]; omega
   have hs : c.Segments.length ≤ maxLen := by rw [maxLen_val]; omega
   have inner : f_spec_ChartOk_2 c bigN 0 = some ((List.range c.Segments.length).all (segOk c)) := by
    rw [all_loopK (L := f_spec_ChartOk_2 c) c.Segments.length (segOk c) (some true) hs (fun n i hi => ?_) (fun n => by simp [f_spec_ChartOk_2])]
    ·cases (List.range c.Segments.length).all (segOk c) <;> rfl
    ·simp only [f_spec_ChartOk_2,ix_nn,List.getElem?_eq_getElem hi,Option.bind_some,dec_nn,hi,decide_true,if_true,l01In_eq,in_idx _ (show c.Points.length ≤ 1000 by omega),bnd_take (Nat.le_of_lt hi),segOk,List.drop_zero,Nat.sub_zero]
     have hl : (c.Segments.take i).length = i := by simp; omega
     rw [hl]
     rw [any_loopK (L := f_spec_ChartOk_3 c i c.Segments[i] (c.Segments.take i) (i : Int) (f_spec_ChartOk_2 c n)) i (fun j => match c.Segments[j]? with | some y => jn y c.Segments[i].A c.Segments[i].B | none => false)
      (f_spec_ChartOk_2 c n (IntKind.i64.wrap ((i : Int) + 1))) (by omega) (fun m j hj => by
       have hj2 : j < c.Segments.length := by omega
       simp only [f_spec_ChartOk_3,ix_nn,take_at hj,List.getElem?_eq_getElem hj2,Option.bind_some,dec_nn,hj,decide_true,if_true,spec_joins_eq]) (fun m => by simp [f_spec_ChartOk_3])]
     have e : (c.Segments[i].A == c.Segments[i].B) = decide (c.Segments[i].A = c.Segments[i].B) := rfl
     rw [e]
     cases idx c.Segments[i].A c.Points.length <;> cases idx c.Segments[i].B c.Points.length <;> cases decide (c.Segments[i].A = c.Segments[i].B) <;> cases (decide (0 ≤ c.Segments[i].Depth) && decide (c.Segments[i].Depth ≤ 3000)) <;>
      cases (decide (1 ≤ c.Segments[i].Minutes) && decide (c.Segments[i].Minutes ≤ 240)) <;> cases ((List.range i).any fun j => match c.Segments[j]? with | some y => jn y c.Segments[i].A c.Segments[i].B | none => false) <;> rfl
   rw [all_loopK (L := f_spec_ChartOk_1 c) c.Points.length (ptOk c) _ hp (fun n i hi => ?_) (fun n => by simp only [f_spec_ChartOk_1,Int.lt_irrefl,decide_false,Bool.false_eq_true,if_false]; exact inner)]
   ·simp only [h1,h2,h1',h2',decide_true,decide_false,Bool.true_and,Bool.false_eq_true,if_false]
    cases (List.range c.Points.length).all (ptOk c) <;> rfl
   ·simp only [f_spec_ChartOk_1,ix_nn,List.getElem?_eq_getElem hi,Option.bind_some,dec_nn,hi,decide_true,if_true,spec_IsName_eq (hn _ (List.getElem_mem hi)),spec_PointNamed_eq hp,ptOk]
    by_cases e : ptNamed c.Points c.Points[i].Name = (i : Int) <;> cases isName c.Points[i].Name <;> simp [e]
  ·have h2' : (10 : Int) < c.Segments.length := by omega
   simp [h1,h1',h2,h2']
 ·have h1' : (8 : Int) < c.Points.length := by omega
  simp [h1,h1']
theorem impl_ChartOk_eq {c : XChart} (hn : ∀ x ∈ c.Points,x.Name.length ≤ maxLen) : f_impl_ChartOk c = some (chartOk c) := by
 unfold f_impl_ChartOk chartOk
 by_cases h1 : c.Points.length ≤ 8
 ·have h1' : ¬ (8 : Int) < c.Points.length := by omega
  by_cases h2 : c.Segments.length ≤ 10
  ·have h2' : ¬ (10 : Int) < c.Segments.length := by omega
   have hp : c.Points.length ≤ maxLen := by rw [maxLen_val]; omega
   have hs : c.Segments.length ≤ maxLen := by rw [maxLen_val]; omega
   have inner : f_impl_ChartOk_2 c bigN 0 = some ((List.range c.Segments.length).all (segOk c)) := by
    rw [all_loopK (L := f_impl_ChartOk_2 c) c.Segments.length (segOk c) (some true) hs (fun n i hi => ?_) (fun n => by simp [f_impl_ChartOk_2])]
    ·cases (List.range c.Segments.length).all (segOk c) <;> rfl
    ·simp only [f_impl_ChartOk_2,ix_nn,List.getElem?_eq_getElem hi,Option.bind_some,dec_nn,hi,decide_true,if_true,within_eq,isIndex_eq,show ∀ (a : Int) (n : Nat),(decide (0 ≤ a) && decide (a < (n : Int))) = idx a n from fun _ _ => rfl,bnd_take (Nat.le_of_lt hi),segOk,List.drop_zero,Nat.sub_zero]
     have hl : (c.Segments.take i).length = i := by simp; omega
     rw [hl]
     rw [any_loopK (L := f_impl_ChartOk_3 c i c.Segments[i] (c.Segments.take i) (i : Int) (f_impl_ChartOk_2 c n)) i (fun j => match c.Segments[j]? with | some y => jn y c.Segments[i].A c.Segments[i].B | none => false)
      (f_impl_ChartOk_2 c n (IntKind.i64.wrap ((i : Int) + 1))) (by omega) (fun m j hj => by
       have hj2 : j < c.Segments.length := by omega
       simp only [f_impl_ChartOk_3,ix_nn,take_at hj,List.getElem?_eq_getElem hj2,Option.bind_some,dec_nn,hj,decide_true,if_true,impl_joins_eq]) (fun m => by simp [f_impl_ChartOk_3])]
     have e : (c.Segments[i].A == c.Segments[i].B) = decide (c.Segments[i].A = c.Segments[i].B) := rfl
     rw [e]
     cases idx c.Segments[i].A c.Points.length <;> cases idx c.Segments[i].B c.Points.length <;> cases decide (c.Segments[i].A = c.Segments[i].B) <;> cases (decide (0 ≤ c.Segments[i].Depth) && decide (c.Segments[i].Depth ≤ 3000)) <;>
      cases (decide (1 ≤ c.Segments[i].Minutes) && decide (c.Segments[i].Minutes ≤ 240)) <;> cases ((List.range i).any fun j => match c.Segments[j]? with | some y => jn y c.Segments[i].A c.Segments[i].B | none => false) <;> rfl
   rw [all_loopK (L := f_impl_ChartOk_1 c) c.Points.length (ptOk c) _ hp (fun n i hi => ?_) (fun n => by simp only [f_impl_ChartOk_1,Int.lt_irrefl,decide_false,Bool.false_eq_true,if_false]; exact inner)]
   ·simp only [h1,h2,h1',h2',decide_true,decide_false,Bool.true_and,Bool.false_eq_true,if_false]
    cases (List.range c.Points.length).all (ptOk c) <;> rfl
   ·simp only [f_impl_ChartOk_1,ix_nn,List.getElem?_eq_getElem hi,Option.bind_some,dec_nn,hi,decide_true,if_true,impl_IsName_eq (hn _ (List.getElem_mem hi)),impl_PointNamed_eq hp,ptOk]
    by_cases e : ptNamed c.Points c.Points[i].Name = (i : Int) <;> cases isName c.Points[i].Name <;> simp [e]
  ·have h2' : (10 : Int) < c.Segments.length := by omega
   simp [h1,h1',h2,h2']
 ·have h1' : (8 : Int) < c.Points.length := by omega
  simp [h1,h1']
theorem toPointS_eq {xs : List XPoint} (h : xs.length ≤ 1048576) : f_laws_toPointS xs = some xs := by
 unfold f_laws_toPointS
 rw [mkS_len h (by omega)]
 have := copy_loop (L := f_laws_toPointS_1 xs) xs id (le_max h) (fun n i acc hi ha => by simp [f_laws_toPointS_1,ix_nn,hi,ha,f_laws_toPoint]) (fun n acc => by simp [f_laws_toPointS_1]) (List.replicate xs.length ⟨[],false⟩) (by simp)
 simpa using this
theorem toSegmentS_eq {xs : List XSegment} (h : xs.length ≤ 1048576) : f_laws_toSegmentS xs = some xs := by
 unfold f_laws_toSegmentS
 rw [mkS_len h (by omega)]
 have := copy_loop (L := f_laws_toSegmentS_1 xs) xs id (le_max h) (fun n i acc hi ha => by simp [f_laws_toSegmentS_1,ix_nn,hi,ha,f_laws_toSegment]) (fun n acc => by simp [f_laws_toSegmentS_1]) (List.replicate xs.length ⟨0,0,0,0,false⟩) (by simp)
 simpa using this
theorem toChart_eq {c : XChart} (h1 : c.Points.length ≤ 1048576) (h2 : c.Segments.length ≤ 1048576) : f_laws_toChart c = some c := by
 simp [f_laws_toChart,toPointS_eq h1,toSegmentS_eq h2]
theorem eqPoint_eq (x y : XPoint) : f_laws_eqPoint x y = some (decide (x = y)) := by
 unfold f_laws_eqPoint
 cases x; cases y
 simp only [XPoint.mk.injEq]
 repeat' split
 all_goals simp_all
theorem eqPointS_eq {xs ys : List XPoint} (h : xs.length ≤ maxLen) : f_laws_eqPointS xs ys = some (decide (xs = ys)) := by
 unfold f_laws_eqPointS
 by_cases hl : xs.length = ys.length
 ·have := eq_loop (L := f_laws_eqPointS_1 xs ys) xs ys h hl (fun n i h1 h2 => by simp [f_laws_eqPointS_1,ix_nn,h1,h2,eqPoint_eq]) (fun n => by simp [f_laws_eqPointS_1])
  simp [hl,this]
 ·have : ¬ (xs.length : Int) = ys.length := by omega
  have : xs ≠ ys := fun e => hl (by rw [e])
  simp_all
theorem eqSegment_eq (x y : XSegment) : f_laws_eqSegment x y = some (decide (x = y)) := by
 unfold f_laws_eqSegment
 cases x; cases y
 simp only [XSegment.mk.injEq]
 repeat' split
 all_goals simp_all
theorem eqSegmentS_eq {xs ys : List XSegment} (h : xs.length ≤ maxLen) : f_laws_eqSegmentS xs ys = some (decide (xs = ys)) := by
 unfold f_laws_eqSegmentS
 by_cases hl : xs.length = ys.length
 ·have := eq_loop (L := f_laws_eqSegmentS_1 xs ys) xs ys h hl (fun n i h1 h2 => by simp [f_laws_eqSegmentS_1,ix_nn,h1,h2,eqSegment_eq]) (fun n => by simp [f_laws_eqSegmentS_1])
  simp [hl,this]
 ·have : ¬ (xs.length : Int) = ys.length := by omega
  have : xs ≠ ys := fun e => hl (by rw [e])
  simp_all
theorem eqChart_self {c : XChart} (h1 : c.Points.length ≤ maxLen) (h2 : c.Segments.length ≤ maxLen) : f_laws_eqChart c c = some true := by
 simp [f_laws_eqChart,eqPointS_eq h1,eqSegmentS_eq h2]
theorem szPoint_of {x : XPoint} {l : Int} (h0 : 0 ≤ l) (h1 : l ≤ 1048576) (hx : x.Name.length ≤ maxLen) : ∃ r,f_laws_szPoint x l = some r ∧ (0 ≤ r → r ≤ l) := by
 unfold f_laws_szPoint
 rw [maxLen_val] at hx
 rw [wrap64 (by omega) (by omega)]
 by_cases h : l - (x.Name.length : Int) < 0
 ·exact ⟨-1,by simp [h],by omega⟩
 ·exact ⟨l - x.Name.length,by simp [h],by omega⟩
theorem szPointS_of {xs : List XPoint} {l : Int} (h0 : 0 ≤ l) (h1 : l ≤ 1048576) (hx : xs.length ≤ maxLen) (hn : ∀ x ∈ xs,x.Name.length ≤ maxLen) : ∃ r,f_laws_szPointS xs l = some r ∧ (0 ≤ r → r ≤ l ∧ xs.length ≤ 1048576) := by
 unfold f_laws_szPointS
 have hx' := hx
 rw [maxLen_val] at hx'
 rw [wrap64 (by omega) (by omega)]
 by_cases h : l - (xs.length : Int) < 0
 ·exact ⟨-1,by simp [h],by omega⟩
 ·have key : ∀ (k i n : Nat) (v : Int),i + k = xs.length → k < n → 0 ≤ v → v ≤ l → ∃ r,f_laws_szPointS_1 xs n v (i : Int) = some r ∧ (0 ≤ r → r ≤ l) := by
   intro k
   induction k with
   | zero =>
    intro i n v hi hn2 hv hv2
    obtain ⟨m,rfl⟩ : ∃ m,n = m + 1 := ⟨n - 1,by omega⟩
    have : i = xs.length := by omega
    subst this
    exact ⟨v,by simp [f_laws_szPointS_1],fun _ => hv2⟩
   | succ k ih =>
    intro i n v hi hn2 hv hv2
    obtain ⟨m,rfl⟩ : ∃ m,n = m + 1 := ⟨n - 1,by omega⟩
    have hlt : i < xs.length := by omega
    obtain ⟨r,e,hr⟩ := szPoint_of (x := xs[i]) hv (by omega) (hn _ (List.getElem_mem hlt))
    by_cases hr0 : r < 0
    ·exact ⟨-1,by simp [f_laws_szPointS_1,ix_nn,hlt,e,hr0],by omega⟩
    ·obtain ⟨r2,e2,h2⟩ := ih (i + 1) m r (by omega) (by omega) (by omega) (by have := hr (by omega); omega)
     refine ⟨r2,?_,h2⟩
     rw [← wrapS hlt hx] at e2
     simp only [f_laws_szPointS_1,ix_nn,List.getElem?_eq_getElem hlt,Option.bind_some,dec_nn,hlt,decide_true,if_true,e,hr0,decide_false,Bool.false_eq_true,if_false]
     exact e2
  obtain ⟨r,e,hr⟩ := key xs.length 0 bigN (l - xs.length) (by omega) (lt_bigN hx) (by omega) (by omega)
  refine ⟨r,?_,fun h => ⟨hr h,by omega⟩⟩
  simp only [h,decide_false,Bool.false_eq_true,if_false]
  exact e
theorem szSegmentS_of {xs : List XSegment} {l : Int} (h0 : 0 ≤ l) (h1 : l ≤ 1048576) (hx : xs.length ≤ maxLen) : ∃ r,f_laws_szSegmentS xs l = some r ∧ (0 ≤ r → r ≤ l ∧ xs.length ≤ 1048576) := by
 unfold f_laws_szSegmentS
 rw [maxLen_val] at hx
 rw [wrap64 (by omega) (by omega)]
 by_cases h : l - (xs.length : Int) < 0
 ·exact ⟨-1,by simp [h],by omega⟩
 ·exact ⟨l - xs.length,by simp [h],by omega⟩
theorem szChart_of {c : XChart} {l : Int} (h0 : 0 ≤ l) (h1 : l ≤ 1048576) (hp : c.Points.length ≤ maxLen) (hs : c.Segments.length ≤ maxLen) (hn : ∀ x ∈ c.Points,x.Name.length ≤ maxLen) :
  ∃ r,f_laws_szChart c l = some r ∧ (0 ≤ r → r ≤ l ∧ c.Points.length ≤ 1048576 ∧ c.Segments.length ≤ 1048576) := by
 unfold f_laws_szChart
 obtain ⟨r,e,h⟩ := szPointS_of h0 h1 hp hn
 by_cases hr : r < 0
 ·exact ⟨-1,by simp [e,hr],by omega⟩
 ·obtain ⟨k1,k2⟩ := h (by omega)
  obtain ⟨r',e',h'⟩ := szSegmentS_of (xs := c.Segments) (l := r) (by omega) (by omega) hs
  by_cases hr' : r' < 0
  ·exact ⟨-1,by simp [e,hr,e',hr'],by omega⟩
  ·obtain ⟨k3,k4⟩ := h' (by omega)
   exact ⟨r',by simp [e,hr,e',hr'],fun _ => ⟨by omega,k2,k4⟩⟩
def shipOk (s : XShip) : Bool := isName s.Name && ((decide (10 ≤ s.Length) && decide (s.Length ≤ 400)) && ((decide (100 ≤ s.Draught) && decide (s.Draught ≤ 2000)) && ((decide (0 ≤ s.Line) && decide (s.Line ≤ 3)) && (decide (0 ≤ s.Tugs) && decide (s.Tugs ≤ 4)))))
theorem if_and (a b : Bool) : (if a = true then some b else some false) = some (a && b) := by cases a <;> rfl
theorem spec_ShipOk_eq {s : XShip} (h : s.Name.length ≤ maxLen) : f_spec_ShipOk s = some (shipOk s) := by
 simp only [f_spec_ShipOk,spec_IsName_eq h,l01In_eq,Option.bind_some,if_and,shipOk]
theorem impl_ShipOk_eq {s : XShip} (h : s.Name.length ≤ maxLen) : f_impl_ShipOk s = some (shipOk s) := by
 have e : (decide (0 ≤ s.Line) && decide (s.Line < 4)) = (decide (0 ≤ s.Line) && decide (s.Line ≤ 3)) := by
  congr 1
  rw [Bool.eq_iff_iff]; simp; omega
 simp only [f_impl_ShipOk,impl_IsName_eq h,within_eq,isIndex_eq,Option.bind_some,if_and,shipOk,e]
def shIs (xs : List XShip) (s : List UInt8) (i : Nat) : Bool := match xs[i]? with
 | some x => decide (x.Name = s)
 | none => false
def shNamed (xs : List XShip) (s : List UInt8) : Int := (List.range' 0 xs.length).foldr (fun i r => if shIs xs s i = true then (i : Int) else r) (-1)
theorem spec_ShipNamed_eq {xs : List XShip} {s : List UInt8} (h : xs.length ≤ maxLen) : f_spec_ShipNamed xs s = some (shNamed xs s) := by
 unfold f_spec_ShipNamed
 exact (range_loop (f_spec_ShipNamed_1 s xs) xs.length h (fun i r => if shIs xs s i = true then some (i : Int) else r) (some (-1)) (fun n i hi => by simp [f_spec_ShipNamed_1,ix_nn,hi,shIs]) (fun n => by simp [f_spec_ShipNamed_1]) xs.length 0 bigN (by omega) (lt_bigN h)).trans (foldr_first _ _ _ _ _)
theorem impl_ShipNamed_eq {xs : List XShip} {s : List UInt8} (h : xs.length ≤ maxLen) : f_impl_ShipNamed xs s = some (shNamed xs s) := by
 unfold f_impl_ShipNamed
 exact (range_loop (f_impl_ShipNamed_1 s xs) xs.length h (fun i r => if shIs xs s i = true then some (i : Int) else r) (some (-1)) (fun n i hi => by simp [f_impl_ShipNamed_1,ix_nn,hi,shIs]) (fun n => by simp [f_impl_ShipNamed_1]) xs.length 0 bigN (by omega) (lt_bigN h)).trans (foldr_first _ _ _ _ _)
def flAt (xs : List XShip) (i : Nat) : Bool := match xs[i]? with
 | some x => shipOk x && decide (shNamed xs x.Name = (i : Int))
 | none => false
def fleetOk (xs : List XShip) : Bool := decide (xs.length ≤ 6) && (List.range xs.length).all (flAt xs)
theorem bne_dec (a b : Int) : (a != b) = !decide (a = b) := rfl
theorem spec_FleetOk_eq {xs : List XShip} (hn : ∀ x ∈ xs,x.Name.length ≤ maxLen) : f_spec_FleetOk xs = some (fleetOk xs) := by
 unfold f_spec_FleetOk fleetOk
 by_cases h : xs.length ≤ 6
 ·have h' : ¬ (6 : Int) < xs.length := by omega
  have hm : xs.length ≤ maxLen := by rw [maxLen_val]; omega
  simp only [h,h',decide_true,decide_false,Bool.false_eq_true,if_false,Bool.true_and]
  refine all_loopI (L := f_spec_FleetOk_1 xs) xs.length (flAt xs) hm (fun n i hi => ?_) (fun n => by simp [f_spec_FleetOk_1])
  simp only [f_spec_FleetOk_1,dec_nn,hi,decide_true,if_true,ix_at hi,Option.bind_some,spec_ShipOk_eq (hn _ (List.getElem_mem hi)),spec_ShipNamed_eq hm,flAt,List.getElem?_eq_getElem hi,bne_dec]
  cases shipOk xs[i] <;> by_cases e : shNamed xs xs[i].Name = (i : Int) <;> simp [e]
 ·have h' : (6 : Int) < xs.length := by omega
  simp [h,h']
theorem impl_FleetOk_eq {xs : List XShip} (hn : ∀ x ∈ xs,x.Name.length ≤ maxLen) : f_impl_FleetOk xs = some (fleetOk xs) := by
 unfold f_impl_FleetOk fleetOk
 by_cases h : xs.length ≤ 6
 ·have h' : ¬ (6 : Int) < xs.length := by omega
  have hm : xs.length ≤ maxLen := by rw [maxLen_val]; omega
  simp only [h,h',decide_true,decide_false,Bool.false_eq_true,if_false,Bool.true_and]
  refine all_loopI (L := f_impl_FleetOk_1 xs) xs.length (flAt xs) hm (fun n i hi => ?_) (fun n => by simp [f_impl_FleetOk_1])
  simp only [f_impl_FleetOk_1,dec_nn,hi,decide_true,if_true,ix_at hi,Option.bind_some,impl_ShipOk_eq (hn _ (List.getElem_mem hi)),impl_ShipNamed_eq hm,flAt,List.getElem?_eq_getElem hi,bne_dec]
  cases shipOk xs[i] <;> by_cases e : shNamed xs xs[i].Name = (i : Int) <;> simp [e]
 ·have h' : (6 : Int) < xs.length := by omega
  simp [h,h']
theorem fleet_facts {xs : List XShip} (h : fleetOk xs = true) : xs.length ≤ 6 ∧ ∀ x ∈ xs,shipOk x = true := by
 simp only [fleetOk,Bool.and_eq_true,decide_eq_true_eq,List.all_eq_true,List.mem_range] at h
 refine ⟨h.1,fun x hx => ?_⟩
 obtain ⟨i,hi,rfl⟩ := List.getElem_of_mem hx
 have := h.2 i hi
 simp only [flAt,List.getElem?_eq_getElem hi,Bool.and_eq_true] at this
 exact this.1
def minsOn (x : XSegment) (s : XShip) : Int := if s.Slow = true then IntKind.i64.wrap (2 * x.Minutes) else x.Minutes
theorem spec_minutes_eq (x : XSegment) (s : XShip) : f_spec_l06Minutes x s = some (minsOn x s) := by unfold f_spec_l06Minutes minsOn; split <;> rfl
theorem impl_minutes_eq (x : XSegment) (s : XShip) : f_impl_Ship_minutes s x = some (minsOn x s) := by unfold f_impl_Ship_minutes minsOn; split <;> rfl
def segAt (c : XChart) (i : Int) : XSegment := c.Segments[i.toNat]?.getD ⟨0,0,0,0,false⟩
def shipAt (l : List XShip) (i : Int) : XShip := l[i.toNat]?.getD ⟨[],0,0,0,0,false⟩
theorem ix_idx {α : Type} {l : List α} {i : Int} (d : α) (h : idx i l.length = true) : ix l i = some (l[i.toNat]?.getD d) ∧ l[i.toNat]?.getD d ∈ l := by
 simp only [idx,Bool.and_eq_true,decide_eq_true_eq] at h
 obtain ⟨k,rfl⟩ : ∃ k : Nat,i = (k : Int) := ⟨i.toNat,by omega⟩
 have hk : k < l.length := by omega
 have e : l[((k : Nat) : Int).toNat]?.getD d = l[k] := by simp [hk]
 rw [ix_at hk,e]
 exact ⟨rfl,List.getElem_mem hk⟩
theorem ix_seg {c : XChart} {i : Int} (h : idx i c.Segments.length = true) : ix c.Segments i = some (segAt c i) ∧ segAt c i ∈ c.Segments := ix_idx _ h
theorem ix_ship {l : List XShip} {i : Int} (h : idx i l.length = true) : ix l i = some (shipAt l i) ∧ shipAt l i ∈ l := ix_idx _ h
theorem idx_l01 (i : Int) {n : Nat} (h : n ≤ 1000) : f_spec_l01In i 0 (IntKind.i64.wrap ((n : Int) - 1)) = some (idx i n) := by rw [l01In_eq,in_idx i h]
theorem idx_impl (i : Int) (n : Nat) : f_impl_isIndex i (n : Int) = some (idx i n) := isIndex_eq i n
theorem toShipS_eq {xs : List XShip} (h : xs.length ≤ 1048576) : f_laws_toShipS xs = some xs := by
 unfold f_laws_toShipS
 rw [mkS_len h (by omega)]
 have := copy_loop (L := f_laws_toShipS_1 xs) xs id (le_max h) (fun n i acc hi ha => by simp [f_laws_toShipS_1,ix_nn,hi,ha,f_laws_toShip]) (fun n acc => by simp [f_laws_toShipS_1]) (List.replicate xs.length ⟨[],0,0,0,0,false⟩) (by simp)
 simpa using this
theorem eqShip_eq (x y : XShip) : f_laws_eqShip x y = some (decide (x = y)) := by
 unfold f_laws_eqShip
 cases x; cases y
 simp only [XShip.mk.injEq]
 repeat' split
 all_goals simp_all
theorem eqShipS_eq {xs ys : List XShip} (h : xs.length ≤ maxLen) : f_laws_eqShipS xs ys = some (decide (xs = ys)) := by
 unfold f_laws_eqShipS
 by_cases hl : xs.length = ys.length
 ·have := eq_loop (L := f_laws_eqShipS_1 xs ys) xs ys h hl (fun n i h1 h2 => by simp [f_laws_eqShipS_1,ix_nn,h1,h2,eqShip_eq]) (fun n => by simp [f_laws_eqShipS_1])
  simp [hl,this]
 ·have : ¬ (xs.length : Int) = ys.length := by omega
  have : xs ≠ ys := fun e => hl (by rw [e])
  simp_all
theorem szShip_of {x : XShip} {l : Int} (h0 : 0 ≤ l) (h1 : l ≤ 1048576) (hx : x.Name.length ≤ maxLen) : ∃ r,f_laws_szShip x l = some r ∧ (0 ≤ r → r ≤ l) := by
 unfold f_laws_szShip
 rw [maxLen_val] at hx
 rw [wrap64 (by omega) (by omega)]
 by_cases h : l - (x.Name.length : Int) < 0
 ·exact ⟨-1,by simp [h],by omega⟩
 ·exact ⟨l - x.Name.length,by simp [h],by omega⟩
theorem szShipS_of {xs : List XShip} {l : Int} (h0 : 0 ≤ l) (h1 : l ≤ 1048576) (hx : xs.length ≤ maxLen) (hn : ∀ x ∈ xs,x.Name.length ≤ maxLen) : ∃ r,f_laws_szShipS xs l = some r ∧ (0 ≤ r → r ≤ l ∧ xs.length ≤ 1048576) := by
 unfold f_laws_szShipS
 have hx' := hx
 rw [maxLen_val] at hx'
 rw [wrap64 (by omega) (by omega)]
 by_cases h : l - (xs.length : Int) < 0
 ·exact ⟨-1,by simp [h],by omega⟩
 ·have key : ∀ (k i n : Nat) (v : Int),i + k = xs.length → k < n → 0 ≤ v → v ≤ l → ∃ r,f_laws_szShipS_1 xs n v (i : Int) = some r ∧ (0 ≤ r → r ≤ l) := by
   intro k
   induction k with
   | zero =>
    intro i n v hi hn2 hv hv2
    obtain ⟨m,rfl⟩ : ∃ m,n = m + 1 := ⟨n - 1,by omega⟩
    have : i = xs.length := by omega
    subst this
    exact ⟨v,by simp [f_laws_szShipS_1],fun _ => hv2⟩
   | succ k ih =>
    intro i n v hi hn2 hv hv2
    obtain ⟨m,rfl⟩ : ∃ m,n = m + 1 := ⟨n - 1,by omega⟩
    have hlt : i < xs.length := by omega
    obtain ⟨r,e,hr⟩ := szShip_of (x := xs[i]) hv (by omega) (hn _ (List.getElem_mem hlt))
    by_cases hr0 : r < 0
    ·exact ⟨-1,by simp [f_laws_szShipS_1,ix_nn,hlt,e,hr0],by omega⟩
    ·obtain ⟨r2,e2,h2⟩ := ih (i + 1) m r (by omega) (by omega) (by omega) (by have := hr (by omega); omega)
     refine ⟨r2,?_,h2⟩
     rw [← wrapS hlt hx] at e2
     simp only [f_laws_szShipS_1,ix_nn,List.getElem?_eq_getElem hlt,Option.bind_some,dec_nn,hlt,decide_true,if_true,e,hr0,decide_false,Bool.false_eq_true,if_false]
     exact e2
  obtain ⟨r,e,hr⟩ := key xs.length 0 bigN (l - xs.length) (by omega) (lt_bigN hx) (by omega) (by omega)
  refine ⟨r,?_,fun h => ⟨hr h,by omega⟩⟩
  simp only [h,decide_false,Bool.false_eq_true,if_false]
  exact e
theorem ships_ok {xs : List XShip} (ok : (D.sl (List.map XShip.row xs)).Ok) : xs.length ≤ maxLen ∧ ∀ x ∈ xs,x.Name.length ≤ maxLen :=
 ⟨len_ok ok,fun x hx => (ok.sl.2 (XShip.row x) (List.mem_map_of_mem hx) (.str x.Name) (by simp [XShip.row_eq])).str⟩
def perOk (p : Int) : Bool := (decide (4 ≤ p) && decide (p ≤ 2880)) && (IntKind.i64.wrap (Int.tmod p 4) == 0)
def partOk (x : XPart) : Bool := (decide (0 ≤ x.Amp) && decide (x.Amp ≤ 1000)) && (perOk x.Period && (decide (0 ≤ x.Phase) && decide (x.Phase ≤ IntKind.i64.wrap (x.Period - 1))))
def tideOk (t : XTide) : Bool := (decide (-1000 ≤ t.Mean) && decide (t.Mean ≤ 1000)) && (decide (t.Parts.length ≤ 4) && t.Parts.all partOk)
theorem spec_PartOk_eq (x : XPart) : f_spec_PartOk x = some (partOk x) := by
 simp only [f_spec_PartOk,l01In_eq,Option.bind_some,partOk,perOk]
 cases (decide (0 ≤ x.Amp) && decide (x.Amp ≤ 1000)) <;> cases (decide (4 ≤ x.Period) && decide (x.Period ≤ 2880)) <;> cases (IntKind.i64.wrap (Int.tmod x.Period 4) == 0) <;> rfl
theorem isPeriod_eq (p : Int) : f_impl_isPeriod p = some (perOk p) := by
 simp only [f_impl_isPeriod,within_eq,Option.bind_some,perOk]
 cases (decide (4 ≤ p) && decide (p ≤ 2880)) <;> rfl
theorem impl_PartOk_eq (x : XPart) : f_impl_PartOk x = some (partOk x) := by
 simp only [f_impl_PartOk,within_eq,isPeriod_eq,Option.bind_some,partOk]
 cases (decide (0 ≤ x.Amp) && decide (x.Amp ≤ 1000)) <;> cases perOk x.Period <;> rfl
theorem spec_TideOk_eq (t : XTide) : f_spec_TideOk t = some (tideOk t) := by
 simp only [f_spec_TideOk,l01In_eq,Option.bind_some,tideOk]
 cases (decide (-1000 ≤ t.Mean) && decide (t.Mean ≤ 1000)) with
 | false => rfl
 | true =>
  by_cases h1 : t.Parts.length ≤ 4
  ·have h1' : ¬ (4 : Int) < t.Parts.length := by omega
   rw [all_loop (L := f_spec_TideOk_1 t) t.Parts partOk (by rw [maxLen_val]; omega) (fun n i hi => by simp only [f_spec_TideOk_1,ix_nn,List.getElem?_eq_getElem hi,Option.bind_some,dec_nn,hi,decide_true,if_true,spec_PartOk_eq]) (fun n => by simp [f_spec_TideOk_1])]
   simp [h1,h1']
  ·have h1' : (4 : Int) < t.Parts.length := by omega
   simp [h1,h1']
theorem impl_TideOk_eq (t : XTide) : f_impl_TideOk t = some (tideOk t) := by
 simp only [f_impl_TideOk,within_eq,Option.bind_some,tideOk]
 cases (decide (-1000 ≤ t.Mean) && decide (t.Mean ≤ 1000)) with
 | false => rfl
 | true =>
  by_cases h1 : t.Parts.length ≤ 4
  ·have h1' : ¬ (4 : Int) < t.Parts.length := by omega
   rw [all_loop (L := f_impl_TideOk_1 t) t.Parts partOk (by rw [maxLen_val]; omega) (fun n i hi => by simp only [f_impl_TideOk_1,ix_nn,List.getElem?_eq_getElem hi,Option.bind_some,dec_nn,hi,decide_true,if_true,impl_PartOk_eq]) (fun n => by simp [f_impl_TideOk_1])]
   simp [h1,h1']
  ·have h1' : (4 : Int) < t.Parts.length := by omega
   simp [h1,h1']
def surgeOk (x : XSurge) : Bool := (decide (0 ≤ x.From) && decide (x.From ≤ 2880)) && ((decide (-500 ≤ x.Low) && decide (x.Low ≤ 500)) && (decide (x.Low ≤ x.High) && decide (x.High ≤ 500)))
theorem spec_SurgeOk_eq (x : XSurge) : f_spec_SurgeOk x = some (surgeOk x) := by
 simp only [f_spec_SurgeOk,l01In_eq,Option.bind_some,surgeOk]
 cases (decide (0 ≤ x.From) && decide (x.From ≤ 2880)) <;> cases (decide (-500 ≤ x.Low) && decide (x.Low ≤ 500)) <;> rfl
theorem impl_SurgeOk_eq (x : XSurge) : f_impl_SurgeOk x = some (surgeOk x) := by
 simp only [f_impl_SurgeOk,isMinute_eq,Option.bind_some,surgeOk]
 cases (decide (0 ≤ x.From) && decide (x.From ≤ 2880))
 ·rfl
 ·by_cases a1 : -500 ≤ x.Low <;> by_cases a2 : x.Low ≤ x.High <;> by_cases a3 : x.High ≤ 500 <;> by_cases a4 : x.Low ≤ 500 <;> simp [a1,a2,a3,a4]
  omega
def surAt (l : List XSurge) (i : Nat) : Bool := match l[i]? with
 | some x => surgeOk x && (match i with | 0 => true | j + 1 => match l[j]? with | some y => !(decide (x.From ≤ y.From)) | none => false)
 | none => false
def surFirst (l : List XSurge) : Bool := match l[0]? with
 | some x => decide (x.From = 0)
 | none => false
def fcOk (f : XForecast) : Bool := tideOk f.Tide && ((decide (1 ≤ (f.Surges.length : Int)) && decide ((f.Surges.length : Int) ≤ 6)) && (surFirst f.Surges && (List.range f.Surges.length).all (surAt f.Surges)))
theorem wrap_pred (j : Nat) (h : j ≤ 1000) : IntKind.i64.wrap (((j + 1 : Nat) : Int) - 1) = (j : Int) := by
 rw [wrap64 (by omega) (by omega)]
 omega
theorem spec_ForecastOk_eq (f : XForecast) : f_spec_ForecastOk f = some (fcOk f) := by
 simp only [f_spec_ForecastOk,spec_TideOk_eq,l01In_eq,Option.bind_some,fcOk]
 cases tideOk f.Tide with
 | false => rfl
 | true =>
  cases hb : (decide (1 ≤ (f.Surges.length : Int)) && decide ((f.Surges.length : Int) ≤ 6)) with
  | false => rfl
  | true =>
   simp only [Bool.and_eq_true,decide_eq_true_eq] at hb
   have h0 : 0 < f.Surges.length := by omega
   have hl : f.Surges.length ≤ maxLen := by rw [maxLen_val]; omega
   rw [all_loopK (L := f_spec_ForecastOk_1 f) f.Surges.length (surAt f.Surges) (some true) hl (fun n i hi => ?_) (fun n => by simp [f_spec_ForecastOk_1])]
   ·have e0 : ix f.Surges 0 = some f.Surges[0] := ix_at h0
    simp only [e0,Option.bind_some,surFirst,List.getElem?_eq_getElem h0,Bool.true_and,if_true]
    by_cases e : f.Surges[0].From = 0 <;> cases (List.range f.Surges.length).all (surAt f.Surges) <;> simp [e]
   ·simp only [f_spec_ForecastOk_1,ix_nn,List.getElem?_eq_getElem hi,Option.bind_some,dec_nn,hi,decide_true,if_true,spec_SurgeOk_eq,surAt]
    cases i with
    | zero => cases surgeOk f.Surges[0] <;> simp
    | succ j =>
     have hj : j < f.Surges.length := by omega
     rw [wrap_pred j (by omega)]
     simp only [ix_nn,List.getElem?_eq_getElem hj,Option.bind_some]
     have hp : (0 : Int) < ((j + 1 : Nat) : Int) := by omega
     cases surgeOk f.Surges[j + 1] <;> cases decide (f.Surges[j + 1].From ≤ f.Surges[j].From) <;> simp
theorem impl_ForecastOk_eq (f : XForecast) : f_impl_ForecastOk f = some (fcOk f) := by
 simp only [f_impl_ForecastOk,impl_TideOk_eq,within_eq,Option.bind_some,fcOk]
 cases tideOk f.Tide with
 | false => rfl
 | true =>
  cases hb : (decide (1 ≤ (f.Surges.length : Int)) && decide ((f.Surges.length : Int) ≤ 6)) with
  | false => rfl
  | true =>
   simp only [Bool.and_eq_true,decide_eq_true_eq] at hb
   have h0 : 0 < f.Surges.length := by omega
   have hl : f.Surges.length ≤ maxLen := by rw [maxLen_val]; omega
   rw [all_loopK (L := f_impl_ForecastOk_1 f) f.Surges.length (surAt f.Surges) (some true) hl (fun n i hi => ?_) (fun n => by simp [f_impl_ForecastOk_1])]
   ·have e0 : ix f.Surges 0 = some f.Surges[0] := ix_at h0
    simp only [e0,Option.bind_some,surFirst,List.getElem?_eq_getElem h0,Bool.true_and,if_true]
    by_cases e : f.Surges[0].From = 0 <;> cases (List.range f.Surges.length).all (surAt f.Surges) <;> simp [e]
   ·simp only [f_impl_ForecastOk_1,ix_nn,List.getElem?_eq_getElem hi,Option.bind_some,dec_nn,hi,decide_true,if_true,impl_SurgeOk_eq,surAt]
    cases i with
    | zero => cases surgeOk f.Surges[0] <;> simp
    | succ j =>
     have hj : j < f.Surges.length := by omega
     rw [wrap_pred j (by omega)]
     simp only [ix_nn,List.getElem?_eq_getElem hj,Option.bind_some]
     have hp : (0 : Int) < ((j + 1 : Nat) : Int) := by omega
     cases surgeOk f.Surges[j + 1] <;> cases decide (f.Surges[j + 1].From ≤ f.Surges[j].From) <;> simp
def minOk (m : Int) : Bool := decide (0 ≤ m) && decide (m ≤ 2880)
theorem toPartS_eq {xs : List XPart} (h : xs.length ≤ 1048576) : f_laws_toPartS xs = some xs := by
 unfold f_laws_toPartS
 rw [mkS_len h (by omega)]
 have := copy_loop (L := f_laws_toPartS_1 xs) xs id (le_max h) (fun n i acc hi ha => by simp [f_laws_toPartS_1,ix_nn,hi,ha,f_laws_toPart]) (fun n acc => by simp [f_laws_toPartS_1]) (List.replicate xs.length ⟨0,0,0⟩) (by simp)
 simpa using this
theorem toSurgeS_eq {xs : List XSurge} (h : xs.length ≤ 1048576) : f_laws_toSurgeS xs = some xs := by
 unfold f_laws_toSurgeS
 rw [mkS_len h (by omega)]
 have := copy_loop (L := f_laws_toSurgeS_1 xs) xs id (le_max h) (fun n i acc hi ha => by simp [f_laws_toSurgeS_1,ix_nn,hi,ha,f_laws_toSurge]) (fun n acc => by simp [f_laws_toSurgeS_1]) (List.replicate xs.length ⟨0,0,0⟩) (by simp)
 simpa using this
theorem toForecast_eq {f : XForecast} (h1 : f.Tide.Parts.length ≤ 1048576) (h2 : f.Surges.length ≤ 1048576) : f_laws_toForecast f = some f := by
 simp [f_laws_toForecast,f_laws_toTide,toPartS_eq h1,toSurgeS_eq h2]
theorem eqPart_eq (x y : XPart) : f_laws_eqPart x y = some (decide (x = y)) := by
 unfold f_laws_eqPart
 cases x; cases y
 simp only [XPart.mk.injEq]
 repeat' split
 all_goals simp_all
theorem eqPartS_eq {xs ys : List XPart} (h : xs.length ≤ maxLen) : f_laws_eqPartS xs ys = some (decide (xs = ys)) := by
 unfold f_laws_eqPartS
 by_cases hl : xs.length = ys.length
 ·have := eq_loop (L := f_laws_eqPartS_1 xs ys) xs ys h hl (fun n i h1 h2 => by simp [f_laws_eqPartS_1,ix_nn,h1,h2,eqPart_eq]) (fun n => by simp [f_laws_eqPartS_1])
  simp [hl,this]
 ·have : ¬ (xs.length : Int) = ys.length := by omega
  have : xs ≠ ys := fun e => hl (by rw [e])
  simp_all
theorem eqSurge_eq (x y : XSurge) : f_laws_eqSurge x y = some (decide (x = y)) := by
 unfold f_laws_eqSurge
 cases x; cases y
 simp only [XSurge.mk.injEq]
 repeat' split
 all_goals simp_all
theorem eqSurgeS_eq {xs ys : List XSurge} (h : xs.length ≤ maxLen) : f_laws_eqSurgeS xs ys = some (decide (xs = ys)) := by
 unfold f_laws_eqSurgeS
 by_cases hl : xs.length = ys.length
 ·have := eq_loop (L := f_laws_eqSurgeS_1 xs ys) xs ys h hl (fun n i h1 h2 => by simp [f_laws_eqSurgeS_1,ix_nn,h1,h2,eqSurge_eq]) (fun n => by simp [f_laws_eqSurgeS_1])
  simp [hl,this]
 ·have : ¬ (xs.length : Int) = ys.length := by omega
  have : xs ≠ ys := fun e => hl (by rw [e])
  simp_all
theorem eqForecast_self {f : XForecast} (h1 : f.Tide.Parts.length ≤ maxLen) (h2 : f.Surges.length ≤ maxLen) : f_laws_eqForecast f f = some true := by
 simp [f_laws_eqForecast,f_laws_eqTide,eqPartS_eq h1,eqSurgeS_eq h2]
theorem szPartS_of {xs : List XPart} {l : Int} (h0 : 0 ≤ l) (h1 : l ≤ 1048576) (hx : xs.length ≤ maxLen) : ∃ r,f_laws_szPartS xs l = some r ∧ (0 ≤ r → r ≤ l ∧ xs.length ≤ 1048576) := by
 unfold f_laws_szPartS
 rw [maxLen_val] at hx
 rw [wrap64 (by omega) (by omega)]
 by_cases h : l - (xs.length : Int) < 0
 ·exact ⟨-1,by simp [h],by omega⟩
 ·exact ⟨l - xs.length,by simp [h],by omega⟩
theorem szSurgeS_of {xs : List XSurge} {l : Int} (h0 : 0 ≤ l) (h1 : l ≤ 1048576) (hx : xs.length ≤ maxLen) : ∃ r,f_laws_szSurgeS xs l = some r ∧ (0 ≤ r → r ≤ l ∧ xs.length ≤ 1048576) := by
 unfold f_laws_szSurgeS
 rw [maxLen_val] at hx
 rw [wrap64 (by omega) (by omega)]
 by_cases h : l - (xs.length : Int) < 0
 ·exact ⟨-1,by simp [h],by omega⟩
 ·exact ⟨l - xs.length,by simp [h],by omega⟩
theorem szForecast_of {f : XForecast} {l : Int} (h0 : 0 ≤ l) (h1 : l ≤ 1048576) (hp : f.Tide.Parts.length ≤ maxLen) (hs : f.Surges.length ≤ maxLen) :
  ∃ r,f_laws_szForecast f l = some r ∧ (0 ≤ r → r ≤ l ∧ f.Tide.Parts.length ≤ 1048576 ∧ f.Surges.length ≤ 1048576) := by
 unfold f_laws_szForecast f_laws_szTide
 obtain ⟨r,e,h⟩ := szPartS_of h0 h1 hp
 by_cases hr : r < 0
 ·exact ⟨-1,by simp [e,hr],by omega⟩
 ·obtain ⟨k1,k2⟩ := h (by omega)
  obtain ⟨r',e',h'⟩ := szSurgeS_of (xs := f.Surges) (l := r) (by omega) (by omega) hs
  by_cases hr' : r' < 0
  ·exact ⟨-1,by simp [e,hr,e',hr'],by omega⟩
  ·obtain ⟨k3,k4⟩ := h' (by omega)
   exact ⟨r',by simp [e,hr,e',hr'],fun _ => ⟨by omega,k2,k4⟩⟩
def crewOk (w : XCrew) : Bool := (decide (0 ≤ w.Tugs) && decide (w.Tugs ≤ 12)) && ((decide (0 ≤ w.Pilots) && decide (w.Pilots ≤ 12)) && (minOk w.Rest && (decide (w.Moves.length = 64) && w.Moves.all fun x => decide (0 ≤ x) && decide (x ≤ 240))))
theorem if_some (a b : Bool) : (if a = true then some b else some false) = some (a && b) := by cases a <;> rfl
theorem moves_spec {l : List Int} (h : l.length ≤ maxLen) : f_spec_l13Table_1 l bigN 0 = some (l.all fun x => decide (0 ≤ x) && decide (x ≤ 240)) :=
 all_loop (L := f_spec_l13Table_1 l) l _ h (fun n i hi => by simp [f_spec_l13Table_1,ix_nn,hi,l01In_eq]) (fun n => by simp [f_spec_l13Table_1])
theorem moves_impl {l : List Int} (h : l.length ≤ maxLen) : f_impl_movesOk_1 l bigN 0 = some (l.all fun x => decide (0 ≤ x) && decide (x ≤ 240)) :=
 all_loop (L := f_impl_movesOk_1 l) l _ h (fun n i hi => by simp [f_impl_movesOk_1,ix_nn,hi,within_eq]) (fun n => by simp [f_impl_movesOk_1])
theorem spec_CrewOk_eq {w : XCrew} (h : w.Moves.length ≤ maxLen) : f_spec_CrewOk w = some (crewOk w) := by
 simp only [f_spec_CrewOk,f_spec_l13Table,l01In_eq,Option.bind_some,moves_spec h,crewOk,minOk]
 by_cases e : w.Moves.length = 64
 ·have e' : ((w.Moves.length : Int) != 64) = false := by simp; omega
  simp only [e,e',Bool.false_eq_true,if_false,decide_true,Bool.true_and]
  cases (decide (0 ≤ w.Tugs) && decide (w.Tugs ≤ 12)) <;> cases (decide (0 ≤ w.Pilots) && decide (w.Pilots ≤ 12)) <;> cases (decide (0 ≤ w.Rest) && decide (w.Rest ≤ 2880)) <;> rfl
 ·have e' : ((w.Moves.length : Int) != 64) = true := by simp; omega
  simp only [e,e',if_true,decide_false,Bool.false_and,Bool.and_false]
  cases (decide (0 ≤ w.Tugs) && decide (w.Tugs ≤ 12)) <;> cases (decide (0 ≤ w.Pilots) && decide (w.Pilots ≤ 12)) <;> cases (decide (0 ≤ w.Rest) && decide (w.Rest ≤ 2880)) <;> rfl
theorem impl_CrewOk_eq {w : XCrew} (h : w.Moves.length ≤ maxLen) : f_impl_CrewOk w = some (crewOk w) := by
 simp only [f_impl_CrewOk,f_impl_movesOk,within_eq,isMinute_eq,Option.bind_some,moves_impl h,crewOk,minOk]
 by_cases e : w.Moves.length = 64
 ·have e' : ((w.Moves.length : Int) != 64) = false := by simp; omega
  simp only [e,e',Bool.false_eq_true,if_false,decide_true,Bool.true_and,Option.bind_some]
  cases (decide (0 ≤ w.Tugs) && decide (w.Tugs ≤ 12)) <;> cases (decide (0 ≤ w.Pilots) && decide (w.Pilots ≤ 12)) <;> cases (decide (0 ≤ w.Rest) && decide (w.Rest ≤ 2880)) <;> rfl
 ·have e' : ((w.Moves.length : Int) != 64) = true := by simp; omega
  simp only [e,e',if_true,decide_false,Bool.false_and,Bool.and_false,Option.bind_some]
  cases (decide (0 ≤ w.Tugs) && decide (w.Tugs ≤ 12)) <;> cases (decide (0 ≤ w.Pilots) && decide (w.Pilots ≤ 12)) <;> cases (decide (0 ≤ w.Rest) && decide (w.Rest ≤ 2880)) <;> rfl
def regOk (r : XRegime) : Bool := decide (0 ≤ r.Gap) && decide (r.Gap ≤ 60)
def harbOk (h : XHarbour) : Bool := fcOk h.Forecast && (chartOk h.Chart && (fleetOk h.Fleet && (regOk h.Regime && crewOk h.Crew)))
structure HSmall (h : XHarbour) : Prop where
 pn : ∀ x ∈ h.Chart.Points,x.Name.length ≤ maxLen
 fn : ∀ x ∈ h.Fleet,x.Name.length ≤ maxLen
 mv : h.Crew.Moves.length ≤ maxLen
theorem spec_HarbourOk_eq {h : XHarbour} (s : HSmall h) : f_spec_HarbourOk h = some (harbOk h) := by
 simp only [f_spec_HarbourOk,f_spec_RegimeOk,spec_ForecastOk_eq,spec_ChartOk_eq s.pn,spec_FleetOk_eq s.fn,spec_CrewOk_eq s.mv,l01In_eq,Option.bind_some,if_some,harbOk,regOk]
theorem impl_HarbourOk_eq {h : XHarbour} (s : HSmall h) : f_impl_HarbourOk h = some (harbOk h) := by
 simp only [f_impl_HarbourOk,f_impl_RegimeOk,impl_ForecastOk_eq,impl_ChartOk_eq s.pn,impl_FleetOk_eq s.fn,impl_CrewOk_eq s.mv,within_eq,Option.bind_some,if_some,harbOk,regOk]
theorem seg_facts {c : XChart} (h : chartOk c = true) : c.Points.length ≤ 8 ∧ c.Segments.length ≤ 10 ∧ ∀ x ∈ c.Segments,0 ≤ x.Depth ∧ x.Depth ≤ 3000 ∧ 1 ≤ x.Minutes ∧ x.Minutes ≤ 240 := by
 simp only [chartOk,Bool.and_eq_true,decide_eq_true_eq,List.all_eq_true,List.mem_range] at h
 obtain ⟨h1,h2,h3,h4⟩ := h
 refine ⟨h1,h2,fun x hx => ?_⟩
 obtain ⟨i,hi,rfl⟩ := List.getElem_of_mem hx
 have := h4 i hi
 simp only [segOk,List.getElem?_eq_getElem hi,Bool.and_eq_true,decide_eq_true_eq] at this
 omega
def passIn (c : XChart) (fl : List XShip) (p : XPassage) : Bool := idx p.Ship fl.length && (idx p.Segment c.Segments.length && (minOk p.Start && (decide (p.End ≤ 2880) && decide (p.End = IntKind.i64.wrap (p.Start + minsOn (segAt c p.Segment) (shipAt fl p.Ship))))))
theorem spec_MinutesOn_eq {c : XChart} {s : XShip} {i : Int} (hn : ∀ x ∈ c.Points,x.Name.length ≤ maxLen) (hs : s.Name.length ≤ maxLen) (h1 : chartOk c = true) (h2 : shipOk s = true) (h3 : idx i c.Segments.length = true) : f_spec_MinutesOn c i s = some (minsOn (segAt c i) s) := by
 have := (seg_facts h1).2.1
 unfold f_spec_MinutesOn
 simp only [spec_ChartOk_eq hn,spec_ShipOk_eq hs,h1,h2,Option.bind_some,if_true,idx_l01 i (show c.Segments.length ≤ 1000 by omega),h3,(ix_seg h3).1,spec_minutes_eq]
theorem spec_PassageOk_in {c : XChart} {fl : List XShip} {p : XPassage} (hn : ∀ x ∈ c.Points,x.Name.length ≤ maxLen) (hf : ∀ x ∈ fl,x.Name.length ≤ maxLen) (h1 : chartOk c = true) (h2 : fleetOk fl = true) : f_spec_PassageOk c fl p = some (passIn c fl p) := by
 unfold f_spec_PassageOk
 simp only [spec_ChartOk_eq hn,spec_FleetOk_eq hf,Option.bind_some,h1,h2]
 have s1 := (seg_facts h1).2.1
 have s2 := (fleet_facts h2).1
 simp only [if_true,idx_l01 p.Ship (show fl.length ≤ 1000 by omega),idx_l01 p.Segment (show c.Segments.length ≤ 1000 by omega),Option.bind_some,l01In_eq,passIn,minOk]
 cases h3 : idx p.Ship fl.length with
 | false => simp
 | true =>
  cases h4 : idx p.Segment c.Segments.length with
  | false => simp
  | true =>
   cases h5 : decide (0 ≤ p.Start) && decide (p.Start ≤ 2880) with
   | false => simp
   | true =>
    have hsh := (fleet_facts h2).2 _ (ix_ship h3).2
    simp only [if_true,Bool.true_and,(ix_ship h3).1,Option.bind_some,spec_MinutesOn_eq hn (hf _ (ix_ship h3).2) h1 hsh h4]
    by_cases e : p.End = IntKind.i64.wrap (p.Start + minsOn (segAt c p.Segment) (shipAt fl p.Ship)) <;> simp [e]
theorem impl_passageOk_in {c : XChart} {fl : List XShip} {p : XPassage} : f_impl_passageOk c fl p = some (passIn c fl p) := by
 unfold f_impl_passageOk
 simp only [idx_impl,Option.bind_some,isMinute_eq,passIn,minOk]
 cases h3 : idx p.Ship fl.length with
 | false => simp
 | true =>
  cases h4 : idx p.Segment c.Segments.length with
  | false => simp
  | true =>
   cases h5 : decide (0 ≤ p.Start) && decide (p.Start ≤ 2880) with
   | false => simp
   | true =>
    simp only [if_true,Bool.true_and,(ix_ship h3).1,(ix_seg h4).1,Option.bind_some,impl_minutes_eq]
    have e0 : decide (2880 < p.End) = !decide (p.End ≤ 2880) := by rw [Bool.eq_iff_iff]; simp
    rw [e0]
    cases decide (p.End ≤ 2880) <;> simp
    rfl
theorem passIn_facts {c : XChart} {fl : List XShip} {p : XPassage} (hc : chartOk c = true) (h : passIn c fl p = true) : idx p.Ship fl.length = true ∧ idx p.Segment c.Segments.length = true ∧ 0 ≤ p.Start ∧ p.Start ≤ p.End ∧ p.End ≤ 2880 := by
 simp only [passIn,minOk,Bool.and_eq_true,decide_eq_true_eq] at h
 obtain ⟨h3,h4,h5,h6,h7⟩ := h
 refine ⟨h3,h4,h5.1,?_,h6⟩
 obtain ⟨_,_,a,b⟩ := (seg_facts hc).2.2 _ (ix_seg h4).2
 rw [h7]
 unfold minsOn
 split
 ·rw [wrap64 (n := 2 * _) (by omega) (by omega),wrap64 (by omega) (by omega)]; omega
 ·rw [wrap64 (by omega) (by omega)]; omega
theorem szHarbour_of {a : XHarbour} {l : Int} (h0 : 0 ≤ l) (h1 : l ≤ 1048576) (q1 : a.Forecast.Tide.Parts.length ≤ maxLen) (q2 : a.Forecast.Surges.length ≤ maxLen) (q3 : a.Chart.Points.length ≤ maxLen) (q4 : a.Chart.Segments.length ≤ maxLen) (q5 : a.Fleet.length ≤ maxLen) (s : HSmall a) :
  ∃ r,f_laws_szHarbour a l = some r ∧ (0 ≤ r → r ≤ l ∧ a.Forecast.Tide.Parts.length ≤ 1048576 ∧ a.Forecast.Surges.length ≤ 1048576 ∧ a.Chart.Points.length ≤ 1048576 ∧ a.Chart.Segments.length ≤ 1048576 ∧ a.Fleet.length ≤ 1048576 ∧ a.Crew.Moves.length ≤ 1048576) := by
 unfold f_laws_szHarbour f_laws_szCrew
 obtain ⟨r1,e1,k1⟩ := szForecast_of (f := a.Forecast) h0 h1 q1 q2
 by_cases c1 : r1 < 0
 ·exact ⟨-1,by simp [e1,c1],by omega⟩
 obtain ⟨b1,b2,b3⟩ := k1 (by omega)
 obtain ⟨r2,e2,k2⟩ := szChart_of (c := a.Chart) (l := r1) (by omega) (by omega) q3 q4 s.pn
 by_cases c2 : r2 < 0
 ·exact ⟨-1,by simp [e1,c1,e2,c2],by omega⟩
 obtain ⟨b4,b5,b6⟩ := k2 (by omega)
 obtain ⟨r3,e3,k3⟩ := szShipS_of (xs := a.Fleet) (l := r2) (by omega) (by omega) q5 s.fn
 by_cases c3 : r3 < 0
 ·exact ⟨-1,by simp [e1,c1,e2,c2,e3,c3],by omega⟩
 obtain ⟨b7,b8⟩ := k3 (by omega)
 obtain ⟨r4,e4,k4⟩ := szIntS_of (xs := a.Crew.Moves) (l := r3) (by omega) (by omega) s.mv
 by_cases c4 : r4 < 0
 ·exact ⟨-1,by simp [e1,c1,e2,c2,e3,c3,e4,c4],by omega⟩
 obtain ⟨b9,b10⟩ := k4 (by omega)
 exact ⟨r4,by simp [e1,c1,e2,c2,e3,c3,e4,c4],fun _ => ⟨by omega,b2,b3,b5,b6,b8,b10⟩⟩
theorem toHarbour_eq {a : XHarbour} (q1 : a.Forecast.Tide.Parts.length ≤ 1048576) (q2 : a.Forecast.Surges.length ≤ 1048576) (q3 : a.Chart.Points.length ≤ 1048576) (q4 : a.Chart.Segments.length ≤ 1048576) (q5 : a.Fleet.length ≤ 1048576) (q6 : a.Crew.Moves.length ≤ 1048576) : f_laws_toHarbour a = some a := by
 simp [f_laws_toHarbour,f_laws_toRegime,f_laws_toCrew,toForecast_eq q1 q2,toChart_eq q3 q4,toShipS_eq q5,toIntS_eq q6]
theorem eqHarbour_self {a : XHarbour} (q1 : a.Forecast.Tide.Parts.length ≤ maxLen) (q2 : a.Forecast.Surges.length ≤ maxLen) (q3 : a.Chart.Points.length ≤ maxLen) (q4 : a.Chart.Segments.length ≤ maxLen) (q5 : a.Fleet.length ≤ maxLen) (q6 : a.Crew.Moves.length ≤ maxLen) : f_laws_eqHarbour a a = some true := by
 simp [f_laws_eqHarbour,f_laws_eqRegime,f_laws_eqCrew,eqForecast_self q1 q2,eqChart_self q3 q4,eqShipS_eq q5,eqIntS_eq q6]
theorem harb_ok {a : XHarbour} (ok : ∀ d ∈ XHarbour.row a,d.Ok) : a.Forecast.Tide.Parts.length ≤ maxLen ∧ a.Forecast.Surges.length ≤ maxLen ∧ a.Chart.Points.length ≤ maxLen ∧ a.Chart.Segments.length ≤ maxLen ∧ a.Fleet.length ≤ maxLen ∧ HSmall a := by
 have h1 := ok (D.sl (List.map XPart.row a.Forecast.Tide.Parts)) (by simp [XHarbour.row_eq])
 have h2 := ok (D.sl (List.map XSurge.row a.Forecast.Surges)) (by simp [XHarbour.row_eq])
 have h3 := ok (D.sl (List.map XPoint.row a.Chart.Points)) (by simp [XHarbour.row_eq])
 have h4 := ok (D.sl (List.map XSegment.row a.Chart.Segments)) (by simp [XHarbour.row_eq])
 have h5 := ok (D.sl (List.map XShip.row a.Fleet)) (by simp [XHarbour.row_eq])
 have h6 := ok (D.sl (List.map rI a.Crew.Moves)) (by simp [XHarbour.row_eq])
 refine ⟨len_ok h1,len_ok h2,len_ok h3,len_ok h4,len_ok h5,⟨fun x hx => ?_,(ships_ok h5).2,len_ok h6⟩⟩
 exact (h3.sl.2 (XPoint.row x) (List.mem_map_of_mem hx) (.str x.Name) (by simp [XPoint.row_eq])).str
theorem toPassageS_eq {xs : List XPassage} (h : xs.length ≤ 1048576) : f_laws_toPassageS xs = some xs := by
 unfold f_laws_toPassageS
 rw [mkS_len h (by omega)]
 have := copy_loop (L := f_laws_toPassageS_1 xs) xs id (le_max h) (fun n i acc hi ha => by simp [f_laws_toPassageS_1,ix_nn,hi,ha,f_laws_toPassage]) (fun n acc => by simp [f_laws_toPassageS_1]) (List.replicate xs.length ⟨0,0,false,0,0⟩) (by simp)
 simpa using this
theorem eqPassage_eq (x y : XPassage) : f_laws_eqPassage x y = some (decide (x = y)) := by
 unfold f_laws_eqPassage
 cases x; cases y
 simp only [XPassage.mk.injEq]
 repeat' split
 all_goals simp_all
theorem eqPassageS_eq {xs ys : List XPassage} (h : xs.length ≤ maxLen) : f_laws_eqPassageS xs ys = some (decide (xs = ys)) := by
 unfold f_laws_eqPassageS
 by_cases hl : xs.length = ys.length
 ·have := eq_loop (L := f_laws_eqPassageS_1 xs ys) xs ys h hl (fun n i h1 h2 => by simp [f_laws_eqPassageS_1,ix_nn,h1,h2,eqPassage_eq]) (fun n => by simp [f_laws_eqPassageS_1])
  simp [hl,this]
 ·have : ¬ (xs.length : Int) = ys.length := by omega
  have : xs ≠ ys := fun e => hl (by rw [e])
  simp_all
theorem toOption_eq {x : XOption} (h : x.Passages.length ≤ 1048576) : f_laws_toOption x = some x := by
 simp [f_laws_toOption,toPassageS_eq h]
theorem toOptionS_eq {xs : List XOption} (h : xs.length ≤ 1048576) (hp : ∀ x ∈ xs,x.Passages.length ≤ 1048576) : f_laws_toOptionS xs = some xs := by
 unfold f_laws_toOptionS
 rw [mkS_len h (by omega)]
 have := copy_loop (L := f_laws_toOptionS_1 xs) xs id (le_max h) (fun n i acc hi ha => by simp [f_laws_toOptionS_1,ix_nn,hi,ha,toOption_eq (hp _ (List.getElem_mem hi))]) (fun n acc => by simp [f_laws_toOptionS_1]) (List.replicate xs.length ⟨0,0,0,[]⟩) (by simp)
 simpa using this
theorem eqOption_self {x : XOption} (h : x.Passages.length ≤ maxLen) : f_laws_eqOption x x = some true := by
 simp [f_laws_eqOption,eqPassageS_eq h]
theorem eqOptionS_self {xs : List XOption} (h : xs.length ≤ maxLen) (hp : ∀ x ∈ xs,x.Passages.length ≤ maxLen) : f_laws_eqOptionS xs xs = some true := by
 unfold f_laws_eqOptionS
 have := all_loop (L := f_laws_eqOptionS_1 xs xs) xs (fun _ => true) h (fun n i hi => by simp [f_laws_eqOptionS_1,ix_nn,hi,eqOption_self (hp _ (List.getElem_mem hi))]) (fun n => by simp [f_laws_eqOptionS_1])
 simp [this]
theorem szOption_of {x : XOption} {l : Int} (h0 : 0 ≤ l) (h1 : l ≤ 1048576) (hx : x.Passages.length ≤ maxLen) : ∃ r,f_laws_szOption x l = some r ∧ (0 ≤ r → r ≤ l ∧ x.Passages.length ≤ 1048576) := by
 unfold f_laws_szOption f_laws_szPassageS
 rw [maxLen_val] at hx
 rw [wrap64 (by omega) (by omega)]
 by_cases h : l - (x.Passages.length : Int) < 0
 ·exact ⟨-1,by simp [h],by omega⟩
 ·exact ⟨l - x.Passages.length,by simp [h],by omega⟩
theorem szOptionS_of {xs : List XOption} {l : Int} (h0 : 0 ≤ l) (h1 : l ≤ 1048576) (hx : xs.length ≤ maxLen) (hn : ∀ x ∈ xs,x.Passages.length ≤ maxLen) : ∃ r,f_laws_szOptionS xs l = some r ∧ (0 ≤ r → r ≤ l ∧ xs.length ≤ 1048576 ∧ ∀ x ∈ xs,x.Passages.length ≤ 1048576) := by
 unfold f_laws_szOptionS
 have hx' := hx
 rw [maxLen_val] at hx'
 rw [wrap64 (by omega) (by omega)]
 by_cases h : l - (xs.length : Int) < 0
 ·exact ⟨-1,by simp [h],by omega⟩
 ·have key : ∀ (k i n : Nat) (v : Int),i + k = xs.length → k < n → 0 ≤ v → v ≤ l → ∃ r,f_laws_szOptionS_1 xs n v (i : Int) = some r ∧ (0 ≤ r → r ≤ l ∧ ∀ j (hj : j < xs.length),i ≤ j → xs[j].Passages.length ≤ 1048576) := by
   intro k
   induction k with
   | zero =>
    intro i n v hi hn2 hv hv2
    obtain ⟨m,rfl⟩ : ∃ m,n = m + 1 := ⟨n - 1,by omega⟩
    have : i = xs.length := by omega
    subst this
    exact ⟨v,by simp [f_laws_szOptionS_1],fun _ => ⟨hv2,fun j hj h => by omega⟩⟩
   | succ k ih =>
    intro i n v hi hn2 hv hv2
    obtain ⟨m,rfl⟩ : ∃ m,n = m + 1 := ⟨n - 1,by omega⟩
    have hlt : i < xs.length := by omega
    obtain ⟨r,e,hr⟩ := szOption_of (x := xs[i]) hv (by omega) (hn _ (List.getElem_mem hlt))
    by_cases hr0 : r < 0
    ·exact ⟨-1,by simp [f_laws_szOptionS_1,ix_nn,hlt,e,hr0],by omega⟩
    ·obtain ⟨g1,g2⟩ := hr (by omega)
     obtain ⟨r2,e2,h2⟩ := ih (i + 1) m r (by omega) (by omega) (by omega) (by omega)
     refine ⟨r2,?_,fun h0 => ⟨(h2 h0).1,fun j hj hij => ?_⟩⟩
     ·rw [← wrapS hlt hx] at e2
      simp only [f_laws_szOptionS_1,ix_nn,List.getElem?_eq_getElem hlt,Option.bind_some,dec_nn,hlt,decide_true,if_true,e,hr0,decide_false,Bool.false_eq_true,if_false]
      exact e2
     ·by_cases hji : j = i
      ·subst hji; exact g2
      ·exact (h2 h0).2 j hj (by omega)
  obtain ⟨r,e,hr⟩ := key xs.length 0 bigN (l - xs.length) (by omega) (lt_bigN hx) (by omega) (by omega)
  refine ⟨r,?_,fun h0 => ⟨(hr h0).1,by omega,fun x hx2 => ?_⟩⟩
  ·simp only [h,decide_false,Bool.false_eq_true,if_false]
   exact e
  ·obtain ⟨j,hj,rfl⟩ := List.getElem_of_mem hx2
   exact (hr h0).2 j hj (Nat.zero_le _)
theorem options_ok {xs : List XOption} (ok : (D.sl (List.map XOption.row xs)).Ok) : xs.length ≤ maxLen ∧ ∀ x ∈ xs,x.Passages.length ≤ maxLen :=
 ⟨len_ok ok,fun x hx => len_ok (row := XPassage.row) (ok.sl.2 (XOption.row x) (List.mem_map_of_mem hx) (.sl (List.map XPassage.row x.Passages)) (by simp [XOption.row_eq]))⟩
theorem wrap8 {n : Int} (h0 : 0 ≤ n) (h1 : n ≤ 255) : IntKind.u8.wrap n = n := by
 rw [IntKind.wrap_u8]
 omega
theorem catB_of {m n : Nat} (h : m + n ≤ 140737488355328) : catB m n = true := by
 unfold catB
 rw [decide_eq_true_eq]
 omega
theorem ifc {α : Type} {m n : Nat} (h : m + n ≤ 140737488355328) (x y : α) : (if catB m n = true then x else y) = x := by rw [if_pos (catB_of h)]
theorem dg8 {k : Nat} (h : k < 10) : ([IntKind.u8.wrap (48 + (k : Int))] : List Int).map toU8 = [UInt8.ofNat (48 + k)] := by
 rw [wrap8 (by omega) (by omega)]
 simp only [List.map_cons,List.map_nil,toU8]
 congr 2
theorem itoa_nn (u : Nat) : itoa (u : Int) = decDigits u := itoa_nonneg u
theorem fmt_loop (rec_ : Int → Option (List UInt8)) : ∀ (u n : Nat) (s : List UInt8),u < n → u ≤ 9223372036854775807 → s.length + (decDigits u).length ≤ 1000 → f_spec_FormatInt_1 rec_ n (u : Int) s = some (decDigits u ++ s) := by
 intro u
 induction u using Nat.strongRecOn with
 | _ u ih =>
  intro n s hn hu hs
  obtain ⟨m,rfl⟩ : ∃ m,n = m + 1 := ⟨n - 1,by omega⟩
  have hd1 : 1 ≤ (decDigits u).length := by have := decDigits_ne u; cases h : decDigits u <;> simp_all
  rw [f_spec_FormatInt_1]
  by_cases h : u < 10
  ·have hd : ¬ ((9 : Int) < (u : Int)) := by omega
   simp only [hd,decide_false,Bool.false_eq_true,if_false]
   rw [wrap64 (by omega) (by omega),dg8 h,ifc (by simp; omega),decDigits_one h]
  ·have hd : (9 : Int) < (u : Int) := by omega
   simp only [hd,decide_true,if_true]
   have e1 : Int.tmod (u : Int) 10 = ((u % 10 : Nat) : Int) := by rw [Int.tmod_eq_emod_of_nonneg (by omega)]; rfl
   have e2 : Int.tdiv (u : Int) 10 = ((u / 10 : Nat) : Int) := by rw [Int.tdiv_eq_ediv_of_nonneg (by omega)]; rfl
   rw [e1,e2,wrap64 (show -9223372036854775808 ≤ ((u % 10 : Nat) : Int) by omega) (by omega),wrap64 (by omega) (by omega),wrap64 (by omega) (by omega),dg8 (by omega),ifc (by simp; omega)]
   rw [decDigits_big h] at hs
   rw [ih (u / 10) (by omega) m _ (by omega) (by omega) (by simp at hs ⊢; omega),decDigits_big h]
   simp
theorem nd_le : ∀ (k u : Nat),u < 10 ^ (k + 1) → nDigits u ≤ k + 1
 | 0,u,h => by rw [nDigits_small (by simpa using h)]; exact Nat.le_refl _
 | k + 1,u,h => by
  by_cases h9 : u < 10
  ·rw [nDigits_small h9]; omega
  ·rw [nDigits_big h9]
   have := nd_le k (u / 10) (by rw [Nat.pow_succ] at h; omega)
   omega
theorem dec_len (u : Nat) (h : u ≤ 9223372036854775808) : (decDigits u).length ≤ 19 := by
 rw [decDigits_length]
 exact nd_le 18 u (by omega)
theorem tdiv_neg (u : Nat) : Int.tdiv (-(u : Int)) 10 = -((u / 10 : Nat) : Int) := by
 rw [Int.neg_tdiv,Int.tdiv_eq_ediv_of_nonneg (by omega)]; rfl
theorem tmod_neg (u : Nat) : Int.tmod (-(u : Int)) 10 = -((u % 10 : Nat) : Int) := by
 rw [Int.neg_tmod,Int.tmod_eq_emod_of_nonneg (by omega)]; rfl
theorem itoa_ng {u : Nat} (h : 1 ≤ u) : itoa (-(u : Int)) = 45 :: decDigits u := itoa_neg u h
theorem fmt_neg : ∀ (u n : Nat),u < n → 1 ≤ u → u ≤ 9223372036854775808 → f_spec_FormatInt_r n (-(u : Int)) = some (45 :: decDigits u) := by
 intro u
 induction u using Nat.strongRecOn with
 | _ u ih =>
  intro n hn h1 hu
  obtain ⟨m,rfl⟩ : ∃ m,n = m + 1 := ⟨n - 1,by omega⟩
  have hl := dec_len u hu
  rw [f_spec_FormatInt_r,f_spec_FormatInt_b]
  have hd : -(u : Int) < 0 := by omega
  simp only [hd,decide_true,if_true]
  rw [tdiv_neg,tmod_neg,wrap64 (show -9223372036854775808 ≤ -((u / 10 : Nat) : Int) by omega) (by omega)]
  by_cases h : u < 10
  ·have e0 : u / 10 = 0 := by omega
   rw [e0]
   simp only [Int.ofNat_zero,Int.neg_zero,beq_self_eq_true,if_true]
   rw [show (48 : Int) - -(u : Int) = 48 + (u : Int) by omega,wrap64 (by omega) (by omega),dg8 h,ifc (by simp),decDigits_one h]
   rfl
  ·have hne : (-((u / 10 : Nat) : Int) == 0) = false := by simp; omega
   simp only [hne,Bool.false_eq_true,if_false]
   rw [ih (u / 10) (by omega) m (by omega) (by omega) (by omega)]
   have hl2 := dec_len (u / 10) (by omega)
   simp only [Option.bind_some]
   rw [wrap64 (show -9223372036854775808 ≤ -((u % 10 : Nat) : Int) by omega) (by omega),show (48 : Int) - -((u % 10 : Nat) : Int) = 48 + ((u % 10 : Nat) : Int) by omega,wrap64 (by omega) (by omega),dg8 (by omega),ifc (by simp; omega),decDigits_big h]
   simp
theorem fmt_eq {n : Int} (h : i64 n) : f_spec_FormatInt n = some (itoa n) := by
 obtain ⟨h1,h2⟩ := h
 unfold f_spec_FormatInt
 by_cases hn : n < 0
 ·obtain ⟨u,rfl⟩ : ∃ u : Nat,n = -(u : Int) := ⟨n.natAbs,by omega⟩
  rw [fmt_neg u bigN (by rw [bigN_val]; omega) (by omega) (by omega),itoa_ng (by omega)]
 ·obtain ⟨u,rfl⟩ : ∃ u : Nat,n = (u : Int) := ⟨n.toNat,by omega⟩
  obtain ⟨m,hm⟩ : ∃ m,bigN = m + 1 := ⟨bigN - 1,by rw [bigN_val]⟩
  have e : f_spec_FormatInt_r bigN (u : Int) = f_spec_FormatInt_b (f_spec_FormatInt_r m) u := by rw [hm,f_spec_FormatInt_r]
  have hd : ¬ (u : Int) < 0 := by omega
  have hl := dec_len u (by omega)
  rw [e,f_spec_FormatInt_b]
  simp only [hd,decide_false,Bool.false_eq_true,if_false]
  rw [fmt_loop _ u bigN [] (by rw [bigN_val]; omega) (by omega) (by simp; omega),itoa_nn]
  simp
theorem impl_fmt_eq {n : Int} (h : i64 n) : f_impl_FormatInt n = some (itoa n) := by
 simp [f_impl_FormatInt,f_strconv_Itoa,h]
theorem impl_join_eq {l : List (List UInt8)} {sep : List UInt8} (hl : l.length ≤ 140737488355328) (hj : (join l sep).length ≤ 140737488355328) : f_impl_Join l sep = some (join l sep) := by
 simp [f_impl_Join,f_strings_Join,hl,hj]
theorem appB_of {m n b : Nat} (h : m + n ≤ 2000000) (hb : b ≤ 1000) : appB m n b = true := by
 unfold appB
 rw [decide_eq_true_eq]
 have : (m + n) * b ≤ 2000000 * 1000 := Nat.mul_le_mul h hb
 omega
theorem ifa {α : Type} {m n b : Nat} (h : m + n ≤ 2000000) (hb : b ≤ 1000) (x y : α) : (if appB m n b = true then x else y) = x := by rw [if_pos (appB_of h hb)]
theorem words_two {x y : List UInt8} (h : x.length + y.length ≤ 1000000000) : f_impl_words [(⟨true,x,0⟩ : XAny),(⟨true,y,0⟩ : XAny)] = some (x ++ [32] ++ y) := by
 have e : join [x,y] [32] = x ++ [32] ++ y := by simp [join]
 unfold f_impl_words
 obtain ⟨m,hm⟩ : ∃ m,bigN = m + 3 := ⟨bigN - 3,by rw [bigN_val]⟩
 rw [hm]
 have w0 : IntKind.i64.wrap ((0 : Int) + 1) = 1 := by decide
 have w1 : IntKind.i64.wrap ((1 : Int) + 1) = 2 := by decide
 have i0 : ix [(⟨true,x,0⟩ : XAny),(⟨true,y,0⟩ : XAny)] 0 = some ⟨true,x,0⟩ := rfl
 have i1 : ix [(⟨true,x,0⟩ : XAny),(⟨true,y,0⟩ : XAny)] 1 = some ⟨true,y,0⟩ := rfl
 have d0 : decide ((0 : Int) < (([(⟨true,x,0⟩ : XAny),(⟨true,y,0⟩ : XAny)] : List XAny).length : Int)) = true := rfl
 have d1 : decide ((1 : Int) < (([(⟨true,x,0⟩ : XAny),(⟨true,y,0⟩ : XAny)] : List XAny).length : Int)) = true := rfl
 have d2 : decide ((2 : Int) < (([(⟨true,x,0⟩ : XAny),(⟨true,y,0⟩ : XAny)] : List XAny).length : Int)) = false := rfl
 rw [f_impl_words_1,if_pos d0,i0]
 simp only [Option.bind_some,f_impl_word,if_true]
 rw [ifa (by simp) (by omega),w0,f_impl_words_1,if_pos d1,i1]
 simp only [Option.bind_some,f_impl_word,if_true]
 rw [ifa (by simp) (by omega),w1,f_impl_words_1,d2]
 simp only [Bool.false_eq_true,if_false,List.nil_append,List.singleton_append]
 rw [impl_join_eq (by simp) (by rw [e]; simp; omega),e]
 rfl
end Go.Vi
