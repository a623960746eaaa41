/-
  Plain laws: drawn harbours and calls are valid. No condition. Plain laws: drawn fleets, crews, harbours and calls are valid. No condition. Plain law: FnGrounded. No condition. Plain law: FnGrounded, joined. No condition.
-/
import Derived.Test.YtahienmgcfgclaaGNm
import Derived.KernelRfl
namespace Go.Vi
set_option linter.unusedSimpArgs false
set_option linter.unusedVariables false
set_option linter.unnecessarySimpa false
theorem D08 {c : Xl01Cur} {l : List Int} (h : CurOk c) (h0 : 0 < l.length) (hl : l.length ≤ 1000) : ∃ x c',A0t c l = some (x,c') ∧ CurOk c' ∧ x ∈ l := by
 obtain ⟨v,c',e,h1,p,q,_⟩ := D0 (n := (l.length : Int)) h (by omega)
 have q := q (by omega)
 obtain ⟨n,rfl⟩ : ∃ n : Nat,v = (n : Int) := ⟨v.toNat,by omega⟩
 have hn : n < l.length := by omega
 exact ⟨l[n],c',by simp only [A0t,e,Option.bind_some,J7 hn],h1,List.getElem_mem hn⟩
theorem C9j {c : Xl01Cur} (h : CurOk c) : ∃ x c',I3 c = some (x,c') ∧ CurOk c' ∧ A2a x = true := by
 obtain ⟨v1,c1,e1,h1,p1,q1,_⟩ := D0 (n := 300) h (by omega)
 obtain ⟨v2,c2,e2,h2,m2⟩ := D08 (l := [744,720,1440,372,240]) h1 (by simp) (by simp)
 have b2 : 4 ≤ v2 ∧ v2 ≤ 2880 ∧ A5s v2 = true := by
  simp only [List.mem_cons,List.not_mem_nil,or_false] at m2
  rcases m2 with rfl | rfl | rfl | rfl | rfl <;> exact ⟨by omega,by omega,by kernel_rfl⟩
 obtain ⟨v3,c3,e3,h3,p3,q3,_⟩ := D0 (n := v2) h2 (by omega)
 have q1 := q1 (by omega); have q3 := q3 (by omega)
 refine ⟨⟨v1,v2,v3⟩,c3,by simp only [I3,e1,e2,e3,Option.bind_some],h3,?_⟩
 simp only [A2a,Bool.and_eq_true,decide_eq_true_eq,b2.2.2]
 rw [A7 (by omega) (by omega)]
 exact ⟨⟨by omega,by omega⟩,trivial,by omega,by omega⟩
theorem B89 {c : Xl01Cur} (h : CurOk c) : ∃ t c',A0v c = some (t,c') ∧ CurOk c' ∧ 0 ≤ t.Mean ∧ t.Mean < 300 ∧ t.Parts.length ≤ 4 ∧ ∀ x ∈ t.Parts,A2a x = true := by
 obtain ⟨v1,c1,e1,h1,p1,q1,_⟩ := D0 (n := 300) h (by omega)
 obtain ⟨v2,c2,e2,h2,p2,q2,_⟩ := D0 (n := 2) h1 (by omega)
 have q1 := q1 (by omega); have q2 := q2 (by omega)
 have key : ∀ (k n : Nat) (c : Xl01Cur) (l : List XPart),k < n → CurOk c → l.length + k ≤ 4 → (∀ x ∈ l,A2a x = true) →
   ∃ t c',N7 (v1,c1) n (k : Int) c.b c.i c.h l = some (t,c') ∧ CurOk c' ∧ t.Mean = v1 ∧ t.Parts.length ≤ 4 ∧ ∀ x ∈ t.Parts,A2a x = true := by
  intro k
  induction k with
  | zero =>
   intro n c l hn hc hl hx
   obtain ⟨q,rfl⟩ : ∃ q,n = q + 1 := ⟨n - 1,by omega⟩
   exact ⟨⟨v1,l⟩,c,by simp [N7],hc,rfl,by simpa using hl,hx⟩
  | succ k ih =>
   intro n c l hn hc hl hx
   obtain ⟨q,rfl⟩ : ∃ q,n = q + 1 := ⟨n - 1,by omega⟩
   obtain ⟨x,c',e,h',px⟩ := C9j hc
   have e' : I3 ⟨c.b,c.i,c.h⟩ = some (x,c') := e
   have hk : (0 : Int) < ((k + 1 : Nat) : Int) := by omega
   rw [N7]
   simp only [hk,decide_true,if_true,e',Option.bind_some]
   rw [if_pos (X9 (by omega) (by simp) (by omega)),show IntKind.i64.wrap (((k + 1 : Nat) : Int) - 1) = (k : Int) from by rw [A7 (by omega) (by omega)]; omega]
   refine ih q c' _ (by omega) h' (by simp; omega) fun y hy => ?_
   rcases List.mem_append.1 hy with hy | hy
   ·exact hx y hy
   ·simp only [List.mem_singleton] at hy; exact hy ▸ px
 obtain ⟨t,c',e3,h3,b1,b2,b3⟩ := key (1 + v2).toNat bigN c2 [] (by rw [Q0]; omega) h2 (by simp; omega) fun x hx => by cases hx
 refine ⟨t,c',?_,h3,by omega,by omega,b2,b3⟩
 unfold A0v
 rw [e1,Option.bind_some,e2,Option.bind_some,A7 (by omega) (by omega),show (1 : Int) + v2 = ((1 + v2).toNat : Int) by omega]
 exact e3
def C83 (l : List XSurge) (v : Int) : Prop := (∀ j (h : j < l.length),A11 l[j] = true ∧ l[j].From < v) ∧ (∀ j (h : j + 1 < l.length),l[j].From < l[j + 1].From) ∧ (∀ h : 0 < l.length,l[0].From = 0)
theorem B4g {c : Xl01Cur} (h : CurOk c) : ∃ f c',X1 c = some (f,c') ∧ CurOk c' ∧ ∀ m,-1000 ≤ m → m ≤ 1000 → A3e ⟨⟨m,f.Tide.Parts⟩,f.Surges⟩ = true := by
 obtain ⟨t,c1,e1,h1,m1,m2,l1,px⟩ := B89 h
 obtain ⟨v2,c2,e2,h2,p2,q2,_⟩ := D0 (n := 3) h1 (by omega)
 have q2 := q2 (by omega)
 have key : ∀ (k i n : Nat) (c : Xl01Cur) (v : Int) (l : List XSurge),k < n → CurOk c → l.length = i → i + k ≤ 3 → 0 ≤ v → v ≤ 800 * (i : Int) → (i = 0 → v = 0) → (i + k ≠ 0) → C83 l v →
   (0 < i → ∀ j (h : j < l.length),l[j].From < v) → (∀ j (h : j < l.length),l[j].From < v) →
   ∃ f c',J3 (t,c1) n v (k : Int) c.b c.i c.h l = some (f,c') ∧ CurOk c' ∧ f.Tide = t ∧ f.Surges.length = i + k ∧ ∃ w,C83 f.Surges w := by
  intro k
  induction k with
  | zero =>
   intro i n c v l hn hc hl hi hv0 hv1 hz hnz hs _ _
   obtain ⟨q,rfl⟩ : ∃ q,n = q + 1 := ⟨n - 1,by omega⟩
   exact ⟨⟨t,l⟩,c,by simp [J3],hc,rfl,by simpa using hl,v,hs⟩
  | succ k ih =>
   intro i n c v l hn hc hl hi hv0 hv1 hz hnz hs _ hv
   obtain ⟨q,rfl⟩ : ∃ q,n = q + 1 := ⟨n - 1,by omega⟩
   obtain ⟨a,c3,e3,h3,pa,qa,_⟩ := D0 (n := 60) hc (by omega)
   obtain ⟨b,c4,e4,h4,pb,qb,_⟩ := D0 (n := 60) h3 (by omega)
   obtain ⟨d,c5,e5,h5,pd,qd,_⟩ := D0 (n := 700) h4 (by omega)
   have qa := qa (by omega); have qb := qb (by omega); have qd := qd (by omega)
   have e3' : A5 ⟨c.b,c.i,c.h⟩ 60 = some (a,c3) := e3
   have hk : (0 : Int) < ((k + 1 : Nat) : Int) := by omega
   rw [J3]
   simp only [hk,decide_true,if_true,e3',e4,e5,Option.bind_some]
   rw [if_pos (X9 (by omega) (by simp) (by omega)),show IntKind.i64.wrap (((k + 1 : Nat) : Int) - 1) = (k : Int) from by rw [A7 (by omega) (by omega)]; omega]
   rw [A7 (n := a - 40) (by omega) (by omega),A7 (n := a - 40 + b) (by omega) (by omega),A7 (n := v + 100) (by omega) (by omega),A7 (n := v + 100 + d) (by omega) (by omega)]
   obtain ⟨s1,s2,s3⟩ := hs
   have hlast : ∀ j (h : j < (l ++ [(⟨v,a - 40,a - 40 + b⟩ : XSurge)]).length),A11 (l ++ [(⟨v,a - 40,a - 40 + b⟩ : XSurge)])[j] = true ∧ (l ++ [(⟨v,a - 40,a - 40 + b⟩ : XSurge)])[j].From < v + 100 + d := fun j hj => by
    by_cases hjl : j < l.length
    ·rw [List.getElem_append_left hjl]; exact ⟨(s1 j hjl).1,by have := (s1 j hjl).2; omega⟩
    ·have : j = l.length := by simp at hj; omega
     subst this
     simp only [List.getElem_append_right (Nat.le_refl _),Nat.sub_self,List.getElem_cons_zero,A11,Bool.and_eq_true,decide_eq_true_eq]
     exact ⟨⟨⟨by omega,by omega⟩,⟨by omega,by omega⟩,by omega,by omega⟩,by omega⟩
   obtain ⟨f,c',g1,g2,g3,g4,g5⟩ := ih (i + 1) q c5 (v + 100 + d) (l ++ [⟨v,a - 40,a - 40 + b⟩]) (by omega) h5 (by simp; omega) (by omega) (by omega) (by omega) (by omega) (by omega)
    ⟨hlast,fun j hj => by
     simp only [List.length_append,List.length_singleton] at hj
     by_cases hjl : j + 1 < l.length
     ·rw [List.getElem_append_left hjl,List.getElem_append_left (show j < l.length by omega)]; exact s2 j hjl
     ·have : j + 1 = l.length := by omega
      rw [List.getElem_append_left (show j < l.length by omega),List.getElem_append_right (by omega)]
      simp only [this,Nat.sub_self,List.getElem_cons_zero]
      exact (s1 j (by omega)).2,fun hp => by
     by_cases hl0 : 0 < l.length
     ·rw [List.getElem_append_left hl0]; exact s3 hl0
     ·rw [List.getElem_append_right (by omega)]
      have : l.length = 0 := by omega
      simp only [Nat.zero_sub,List.getElem_cons_zero]
      exact hz (by omega)⟩
    (fun _ j hj => (hlast j hj).2) (fun j hj => (hlast j hj).2)
   exact ⟨f,c',g1,g2,g3,by omega,g5⟩
 obtain ⟨f,c',e3,h3,b1,b2,w,w1,w2,w3⟩ := key (1 + v2).toNat 0 bigN c2 0 [] (by rw [Q0]; omega) h2 rfl (by omega) (by omega) (by omega) (fun _ => rfl) (by omega) ⟨fun j h => by simp at h,fun j h => by simp at h,fun h => by simp at h⟩ (fun h => by omega) fun j h => by simp at h
 refine ⟨f,c',?_,h3,fun m hm1 hm2 => ?_⟩
 ·unfold X1
  rw [e1,Option.bind_some,e2,Option.bind_some,A7 (by omega) (by omega),show (1 : Int) + v2 = ((1 + v2).toNat : Int) by omega]
  exact e3
 ·simp only [A3e,A36,Bool.and_eq_true,decide_eq_true_eq,List.all_eq_true,List.mem_range,b1]
  have h0 : 0 < f.Surges.length := by omega
  refine ⟨⟨⟨hm1,hm2⟩,l1,px⟩,⟨by omega,by omega⟩,?_,fun j hj => ?_⟩
  ·simp only [B0m,List.getElem?_eq_getElem h0,decide_eq_true_eq]; exact w3 h0
  ·simp only [A8y,List.getElem?_eq_getElem hj,Bool.and_eq_true]
   refine ⟨(w1 j hj).1,?_⟩
   cases j with
   | zero => rfl
   | succ j =>
    have := w2 j hj
    simp only [List.getElem?_eq_getElem (show j < f.Surges.length by omega),Bool.not_eq_true',decide_eq_false_iff_not]
    omega
end Go.Vi
namespace Go.Vi
set_option linter.unusedSimpArgs false
set_option linter.unusedVariables false
set_option linter.unnecessarySimpa false
theorem C2h {c : Xl01Cur} (hc : CurOk c) : ∃ x c',A0y c = some (x,c') ∧ CurOk c' ∧ F4 x = true ∧ 4 ≤ x.Points.length := by
 unfold A0y
 obtain ⟨w1,c1,e1,h1⟩ := A20 (n := 2) hc (by omega)
 obtain ⟨v2,c2,e2,h2,p2,q2,_⟩ := D0 (n := 300) h1 (by omega)
 obtain ⟨v3,c3,e3,h3,p3,q3,_⟩ := D0 (n := 40) h2 (by omega)
 obtain ⟨v4,c4,e4,h4,p4,q4,_⟩ := D0 (n := 300) h3 (by omega)
 obtain ⟨v5,c5,e5,h5,p5,q5,_⟩ := D0 (n := 30) h4 (by omega)
 obtain ⟨w6,c6,e6,h6⟩ := A20 (n := 2) h5 (by omega)
 obtain ⟨v7,c7,e7,h7,p7,q7,_⟩ := D0 (n := 200) h6 (by omega)
 obtain ⟨v8,c8,e8,h8,p8,q8,_⟩ := D0 (n := 20) h7 (by omega)
 obtain ⟨w9,c9,e9,h9⟩ := A20 (n := 3) h8 (by omega)
 have q2 := q2 (by omega); have q3 := q3 (by omega); have q4 := q4 (by omega); have q5 := q5 (by omega); have q7 := q7 (by omega); have q8 := q8 (by omega)
 simp only [e1,e2,e3,e4,e5,e6,e7,e8,e9,Option.bind_some]
 rw [A7 (n := 900 + v2) (by omega) (by omega),A7 (n := 10 + v3) (by omega) (by omega),A7 (n := 800 + v4) (by omega) (by omega),A7 (n := 10 + v5) (by omega) (by omega),A7 (n := 900 + v7) (by omega) (by omega),A7 (n := 5 + v8) (by omega) (by omega)]
 cases w9 with
 | true =>
  obtain ⟨v10,c10,e10,h10,p10,q10,_⟩ := D0 (n := 300) h9 (by omega)
  obtain ⟨v11,c11,e11,h11,p11,q11,_⟩ := D0 (n := 30) h10 (by omega)
  obtain ⟨w12,c12,e12,h12⟩ := A20 (n := 3) h11 (by omega)
  have e12' : G2 ⟨c11.b,c11.i,c11.h⟩ 3 = some (w12,c12) := e12
  obtain ⟨v13,c13,e13,h13,p13,q13,_⟩ := D0 (n := 300) h12 (by omega)
  have q10 := q10 (by omega); have q11 := q11 (by omega); have q13 := q13 (by omega)
  simp only [if_true,e10,e11,Option.bind_some]
  rw [ifa (by simp) (by omega),A7 (n := 700 + v10) (by omega) (by omega),A7 (n := 20 + v11) (by omega) (by omega)]
  simp only [S7,e12',Option.bind_some]
  cases w12 with
  | true =>
   simp only [if_true]
   rw [ifa (by simp) (by omega)]
   simp only [e13,Option.bind_some]
   rw [ifa (by simp) (by omega),A7 (n := 800 + v13) (by omega) (by omega)]
   refine ⟨_,_,rfl,h13,A4o (by cases w1 <;> cases w6 <;> kernel_rfl) fun s hs => ?_,by simp⟩
   simp only [List.cons_append,List.nil_append,List.mem_cons,List.not_mem_nil,or_false] at hs
   rcases hs with rfl | rfl | rfl | rfl | rfl <;> exact B41 (by omega) (by omega)
  | false =>
   simp only [Bool.false_eq_true,if_false,Option.bind_some]
   refine ⟨_,_,rfl,h12,A4o (by cases w1 <;> cases w6 <;> kernel_rfl) fun s hs => ?_,by simp⟩
   simp only [List.cons_append,List.nil_append,List.mem_cons,List.not_mem_nil,or_false] at hs
   rcases hs with rfl | rfl | rfl | rfl <;> exact B41 (by omega) (by omega)
 | false =>
  obtain ⟨w12,c12,e12,h12⟩ := A20 (n := 3) h9 (by omega)
  have e12' : G2 ⟨c9.b,c9.i,c9.h⟩ 3 = some (w12,c12) := e12
  obtain ⟨v13,c13,e13,h13,p13,q13,_⟩ := D0 (n := 300) h12 (by omega)
  have q13 := q13 (by omega)
  simp only [Bool.false_eq_true,if_false,S7,e12',Option.bind_some]
  cases w12 with
  | true =>
   simp only [if_true]
   rw [ifa (by simp) (by omega)]
   simp only [e13,Option.bind_some]
   rw [ifa (by simp) (by omega),A7 (n := 800 + v13) (by omega) (by omega)]
   refine ⟨_,_,rfl,h13,A4o (by cases w1 <;> cases w6 <;> kernel_rfl) fun s hs => ?_,by simp⟩
   simp only [List.cons_append,List.nil_append,List.mem_cons,List.not_mem_nil,or_false] at hs
   rcases hs with rfl | rfl | rfl | rfl <;> exact B41 (by omega) (by omega)
  | false =>
   simp only [Bool.false_eq_true,if_false,Option.bind_some]
   refine ⟨_,_,rfl,h12,A4o (by cases w1 <;> cases w6 <;> kernel_rfl) fun s hs => ?_,by simp⟩
   simp only [List.mem_cons,List.not_mem_nil,or_false] at hs
   rcases hs with rfl | rfl | rfl <;> exact B41 (by omega) (by omega)
def nm : Nat → List UInt8
 | 0 => [115,48]
 | 1 => [115,49]
 | _ => [115,50]
structure DrawnShip (j : Nat) (x : XShip) : Prop where
 n : x.Name = nm j
 a : 10 ≤ x.Length ∧ x.Length ≤ 400
 b : 100 ≤ x.Draught ∧ x.Draught ≤ 2000
 c : 0 ≤ x.Line ∧ x.Line ≤ 3
 d : 0 ≤ x.Tugs ∧ x.Tugs ≤ 4
theorem C1v : A0o (nm 0) = true ∧ A0o (nm 1) = true ∧ A0o (nm 2) = true := ⟨by kernel_rfl,by kernel_rfl,by kernel_rfl⟩
theorem B68 {j : Nat} {x : XShip} (h : DrawnShip j x) : J0 x = true := by
 obtain ⟨h1,h2,h3,h4,h5⟩ := h
 have hn : A0o (nm j) = true := by
  match j with
  | 0 => exact C1v.1
  | 1 => exact C1v.2.1
  | _ + 2 => exact C1v.2.2
 simp only [J0,h1,hn,Bool.and_eq_true,decide_eq_true_eq]
 exact ⟨trivial,h2,h3,h4,h5⟩
def B1v (l : List XShip) : Prop := ∀ j (h : j < l.length),DrawnShip j l[j]
theorem C6j {l : List XShip} (h : B1v l) (hl : l.length ≤ 3) : A1i l = true := by
 have hs : ∀ j (h' : j < l.length),W9 l l[j].Name = (j : Int) := by
  have hn : ∀ j (h' : j < l.length),l[j].Name = nm j := fun j h' => (h j h').n
  match l,hl,hn with
  | [],_,_ => intro j h'; simp at h'
  | [a],_,hn =>
   have a0 : a.Name = nm 0 := hn 0 (by simp)
   intro j h'
   have : j = 0 := by simp at h'; omega
   subst this
   simp only [List.getElem_cons_zero,a0,W9,A4k,List.length_singleton,List.range',List.foldr,List.getElem?_cons_zero,decide_true,if_true]
  | [a,b],_,hn =>
   have a0 : a.Name = nm 0 := hn 0 (by simp)
   have b0 : b.Name = nm 1 := hn 1 (by simp)
   intro j h'
   have : j = 0 ∨ j = 1 := by simp at h'; omega
   rcases this with rfl | rfl
   ·simp [a0,b0,W9,A4k,List.range',nm]
   ·simp [a0,b0,W9,A4k,List.range',nm]
  | [a,b,c],_,hn =>
   have a0 : a.Name = nm 0 := hn 0 (by simp)
   have b0 : b.Name = nm 1 := hn 1 (by simp)
   have c0 : c.Name = nm 2 := hn 2 (by simp)
   intro j h'
   have : j = 0 ∨ j = 1 ∨ j = 2 := by simp at h'; omega
   rcases this with rfl | rfl | rfl
   ·simp [a0,b0,c0,W9,A4k,List.range',nm]
   ·simp [a0,b0,c0,W9,A4k,List.range',nm]
   ·simp [a0,b0,c0,W9,A4k,List.range',nm]
  | _ :: _ :: _ :: _ :: _,hl,_ => simp at hl
 simp only [A1i,Bool.and_eq_true,decide_eq_true_eq,List.all_eq_true,List.mem_range]
 refine ⟨by omega,fun j hj => ?_⟩
 simp only [B22,List.getElem?_eq_getElem hj,Bool.and_eq_true,decide_eq_true_eq]
 exact ⟨B68 (h j hj),hs j hj⟩
theorem C3x {c : Xl01Cur} (h : CurOk c) {i : Nat} (hi : i ≤ 2) : ∃ x c',W8 c (i : Int) = some (x,c') ∧ CurOk c' ∧ DrawnShip i x := by
 obtain ⟨v1,c1,e1,h1,p1,q1,_⟩ := D0 (n := 200) h (by omega)
 obtain ⟨v2,c2,e2,h2,p2,q2,_⟩ := D0 (n := 500) h1 (by omega)
 obtain ⟨v3,c3,e3,h3,p3,q3,_⟩ := D0 (n := 4) h2 (by omega)
 obtain ⟨v4,c4,e4,h4,p4,q4,_⟩ := D0 (n := 3) h3 (by omega)
 obtain ⟨v5,c5,e5,h5⟩ := A20 (n := 4) h4 (by omega)
 have q1 := q1 (by omega); have q2 := q2 (by omega); have q3 := q3 (by omega); have q4 := q4 (by omega)
 have f0 : ∃ r,A2t (i : Int) = some r ∧ [115] ++ r = nm i ∧ r.length = 1 := by
  have : i = 0 ∨ i = 1 ∨ i = 2 := by omega
  rcases this with rfl | rfl | rfl
  ·exact ⟨[48],by kernel_rfl,rfl,rfl⟩
  ·exact ⟨[49],by kernel_rfl,rfl,rfl⟩
  ·exact ⟨[50],by kernel_rfl,rfl,rfl⟩
 obtain ⟨r,f1,f2,f3⟩ := f0
 refine ⟨⟨[115] ++ r,40 + v1,600 + v2,v3,v4,v5⟩,c5,?_,h5,⟨f2,⟨by simp only; omega,by simp only; omega⟩,⟨by simp only; omega,by simp only; omega⟩,⟨by simp only; omega,by simp only; omega⟩,⟨by simp only; omega,by simp only; omega⟩⟩⟩
 unfold W8
 simp only [f1,e1,e2,e3,e4,e5,Option.bind_some]
 rw [if_pos (by rw [f3]; rfl),A7 (n := 40 + v1) (by omega) (by omega),A7 (n := 600 + v2) (by omega) (by omega)]
theorem C07 {c : Xl01Cur} (h : CurOk c) : ∃ l c',Z3 c 3 = some (l,c') ∧ CurOk c' ∧ B1v l ∧ 1 ≤ l.length ∧ l.length ≤ 3 := by
 obtain ⟨v1,c1,e1,h1,p1,q1,_⟩ := D0 (n := 3) h (by omega)
 have q1 := q1 (by omega)
 have key : ∀ (k i n : Nat) (c : Xl01Cur) (l : List XShip),k < n → CurOk c → l.length = i → i + k ≤ 3 → B1v l → ∃ l' c',N0 n (k : Int) c.b c.i c.h l = some (l',c') ∧ CurOk c' ∧ B1v l' ∧ l'.length = i + k := by
  intro k
  induction k with
  | zero =>
   intro i n c l hn hc hl hi hd
   obtain ⟨q,rfl⟩ : ∃ q,n = q + 1 := ⟨n - 1,by omega⟩
   exact ⟨l,c,by simp [N0],hc,hd,by omega⟩
  | succ k ih =>
   intro i n c l hn hc hl hi hd
   obtain ⟨q,rfl⟩ : ∃ q,n = q + 1 := ⟨n - 1,by omega⟩
   obtain ⟨x,c',e,h',dx⟩ := C3x (i := l.length) hc (by omega)
   have e' : W8 ⟨c.b,c.i,c.h⟩ (l.length : Int) = some (x,c') := e
   have hk : (0 : Int) < ((k + 1 : Nat) : Int) := by omega
   rw [N0]
   simp only [hk,decide_true,if_true,e',Option.bind_some]
   rw [if_pos (X9 (by omega) (by simp) (by omega)),show IntKind.i64.wrap (((k + 1 : Nat) : Int) - 1) = (k : Int) from by rw [A7 (by omega) (by omega)]; omega]
   obtain ⟨l',c2,g1,g2,g3,g4⟩ := ih (i + 1) q c' (l ++ [x]) (by omega) h' (by simp; omega) (by omega) fun j hj => by
    by_cases hjl : j < l.length
    ·rw [List.getElem_append_left hjl]; exact hd j hjl
    ·have : j = l.length := by simp at hj; omega
     subst this
     simpa using dx
   exact ⟨l',c2,g1,g2,g3,by omega⟩
 obtain ⟨l,c2,e2,h2,d2,n2⟩ := key (1 + v1).toNat 0 bigN c1 [] (by rw [Q0]; omega) h1 rfl (by omega) fun j h => by simp at h
 refine ⟨l,c2,?_,h2,d2,by omega,by omega⟩
 unfold Z3
 rw [e1,Option.bind_some,A7 (by omega) (by omega),show (1 : Int) + v1 = ((1 + v1).toNat : Int) by omega]
 exact e2
theorem C2f {c : Xl01Cur} (h : CurOk c) : ∃ l c',A0a c = some (l,c') ∧ CurOk c' ∧ l.length = 64 ∧ ∀ x ∈ l,0 ≤ x ∧ x ≤ 240 := by
 have e0 : Y5 = some (List.replicate 64 (0 : Int)) := by kernel_rfl
 have key : ∀ (k i n : Nat) (c : Xl01Cur) (l : List Int),i + k = 64 → k < n → CurOk c → l.length = 64 → (∀ x ∈ l,0 ≤ x ∧ x ≤ 240) → ∃ l' c',K0 (List.replicate 64 (0 : Int)) n (i : Int) c.b c.i c.h l = some (l',c') ∧ CurOk c' ∧ l'.length = 64 ∧ ∀ x ∈ l',0 ≤ x ∧ x ≤ 240 := by
  intro k
  induction k with
  | zero =>
   intro i n c l hi hn hc hl hx
   obtain ⟨q,rfl⟩ : ∃ q,n = q + 1 := ⟨n - 1,by omega⟩
   have : i = 64 := by omega
   subst this
   exact ⟨l,c,by simp [K0],hc,hl,hx⟩
  | succ k ih =>
   intro i n c l hi hn hc hl hx
   obtain ⟨q,rfl⟩ : ∃ q,n = q + 1 := ⟨n - 1,by omega⟩
   obtain ⟨v,c',e,h',p,qv,_⟩ := D0 (n := 5) hc (by omega)
   have qv := qv (by omega)
   have e' : A5 ⟨c.b,c.i,c.h⟩ 5 = some (v,c') := e
   have hlt : (i : Int) < ((List.replicate 64 (0 : Int)).length : Int) := by simp; omega
   have hw : IntKind.i64.wrap ((i : Int) + 1) = ((i + 1 : Nat) : Int) := by rw [A7 (by omega) (by omega)]; rfl
   rw [K0]
   simp only [hlt,decide_true,if_true,hw,e',Option.bind_some,J7 (show i < l.length by omega)]
   split
   ·rw [A7 (n := 5 * v) (by omega) (by omega)]
    refine ih (i + 1) q c' _ (by omega) (by omega) h' (by simpa using hl) fun x hx' => ?_
    rcases List.mem_or_eq_of_mem_set hx' with hx' | hx'
    ·exact hx x hx'
    ·subst hx'; omega
   ·exact ih (i + 1) q c l (by omega) (by omega) hc hl hx
 obtain ⟨l,c',e1,h1,h2,h3⟩ := key 64 0 bigN c (List.replicate 64 0) rfl (by rw [Q0]; omega) h (by simp) fun x hx => by
  have := List.eq_of_mem_replicate hx
  omega
 exact ⟨l,c',by unfold A0a; rw [e0,Option.bind_some]; exact e1,h1,h2,h3⟩
theorem C4f {c : Xl01Cur} (h : CurOk c) : ∃ w c',A0r c = some (w,c') ∧ CurOk c' ∧ A8o w = true ∧ w.Moves.length ≤ maxLen := by
 obtain ⟨v1,c1,e1,h1,p1,q1,_⟩ := D0 (n := 4) h (by omega)
 obtain ⟨v2,c2,e2,h2,p2,q2,_⟩ := D0 (n := 3) h1 (by omega)
 obtain ⟨v3,c3,e3,h3,p3,q3,_⟩ := D0 (n := 60) h2 (by omega)
 obtain ⟨l,c4,e4,h4,l1,l2⟩ := C2f h3
 have q1 := q1 (by omega); have q2 := q2 (by omega); have q3 := q3 (by omega)
 refine ⟨⟨1 + v1,1 + v2,v3,l⟩,c4,?_,h4,?_,G7 (by simp only; omega)⟩
 ·unfold A0r
  simp only [e1,e2,e3,e4,Option.bind_some]
  rw [A7 (n := 1 + v1) (by omega) (by omega),A7 (n := 1 + v2) (by omega) (by omega)]
 ·simp only [A8o,A3h,Bool.and_eq_true,decide_eq_true_eq,List.all_eq_true]
  exact ⟨⟨by omega,by omega⟩,⟨by omega,by omega⟩,⟨by omega,by omega⟩,l1,l2⟩
theorem B7k {c : Xl01Cur} (h : CurOk c) : ∃ x c',V2 c = some (x,c') ∧ CurOk c' ∧ HSmall x ∧ T3 x = true ∧ 1 ≤ x.Fleet.length ∧ 4 ≤ x.Chart.Points.length ∧ x.Fleet.length ≤ 3 := by
 unfold V2
 obtain ⟨f,c1,e1,h1,f1⟩ := B4g h
 obtain ⟨ch,c2,e2,h2,g1,g2⟩ := C2h h1
 obtain ⟨fl,c3,e3,h3,d1,d2,d3⟩ := C07 h2
 obtain ⟨v4,c4,e4,h4,p4,q4,_⟩ := D0 (n := 30) h3 (by omega)
 obtain ⟨v5,c5,e5,h5⟩ := A20 (n := 4) h4 (by omega)
 have q4 := q4 (by omega)
 obtain ⟨w,c6,e6,h6,w1,w2⟩ := C4f h5
 have er : X4 c3 = some (⟨v4,v5⟩,c5) := by simp only [X4,e4,e5,Option.bind_some]
 have hm : -1000 ≤ IntKind.i64.wrap (f.Tide.Mean + 150) ∧ IntKind.i64.wrap (f.Tide.Mean + 150) ≤ 1000 := by
  have e1' := e1
  obtain ⟨t,ct,et,ht,m1,m2,_⟩ := B89 h
  have : f.Tide = t := by
   unfold X1 at e1'
   rw [et,Option.bind_some] at e1'
   obtain ⟨b,cb,eb,_⟩ := D0 (n := 3) ht (by omega)
   rw [eb,Option.bind_some] at e1'
   have gen : ∀ (n : Nat) (a b : Int) (x : List Int) (y z : Int) (l : List XSurge),J3 (t,ct) n a b x y z l = some (f,c1) → f.Tide = t := by
    intro n
    induction n with
    | zero => intro a b x y z l he; cases he
    | succ n ih =>
     intro a b x y z l he
     rw [J3] at he
     by_cases hb : (decide ((0 : Int) < b)) = true
     ·rw [if_pos hb] at he
      obtain ⟨r1,_,he⟩ := Option.bind_eq_some_iff.1 he
      obtain ⟨r2,_,he⟩ := Option.bind_eq_some_iff.1 he
      split at he
      ·obtain ⟨r3,_,he⟩ := Option.bind_eq_some_iff.1 he
       exact ih _ _ _ _ _ _ he
      ·cases he
     ·rw [if_neg hb] at he
      cases he
      rfl
   exact gen _ _ _ _ _ _ _ e1'
  rw [this,A7 (by omega) (by omega)]
  omega
 simp only [e1,e2,e3,er,e6,Option.bind_some]
 have key : ∀ (k i n : Nat) (l : List XShip),i + k = fl.length → k < n → l.length = fl.length → B1v l →
   ∃ x c',K1 (fl,c3) (w,c6) (f,c1) (ch,c2) (⟨v4,v5⟩,c5) (IntKind.i64.wrap (f.Tide.Mean + 150)) n (i : Int) l = some (x,c') ∧ CurOk c' ∧ HSmall x ∧ T3 x = true ∧ 1 ≤ x.Fleet.length ∧ 4 ≤ x.Chart.Points.length ∧ x.Fleet.length ≤ 3 := by
  intro k
  induction k with
  | zero =>
   intro i n l hi hn hl hd
   obtain ⟨q,rfl⟩ : ∃ q,n = q + 1 := ⟨n - 1,by omega⟩
   have : i = fl.length := by omega
   subst this
   have hfl := C6j hd (by omega)
   refine ⟨⟨⟨⟨IntKind.i64.wrap (f.Tide.Mean + 150),f.Tide.Parts⟩,f.Surges⟩,ch,l,⟨v4,v5⟩,w⟩,c6,by simp [K1],h6,⟨(I8 g1).2.2.1,fun x hx => T5 ((A0f hfl).2 x hx),w2⟩,?_,by simp only; omega,g2,by simp only; omega⟩
   simp only [T3,f1 _ hm.1 hm.2,g1,hfl,w1,C0x,Bool.and_eq_true,decide_eq_true_eq]
   exact ⟨trivial,trivial,trivial,⟨by omega,by omega⟩,trivial⟩
  | succ k ih =>
   intro i n l hi hn hl hd
   obtain ⟨q,rfl⟩ : ∃ q,n = q + 1 := ⟨n - 1,by omega⟩
   have hlt : i < fl.length := by omega
   have hll : i < l.length := by omega
   rw [K1]
   simp only [J6,hlt,decide_true,if_true,J7 hll,Option.bind_some,W4 hlt (G7 (by omega)),Int.toNat_natCast]
   refine ih (i + 1) q _ (by omega) (by omega) (by simpa using hl) fun j hj => ?_
   have hj' : j < l.length := by simpa using hj
   have hdj := hd j hj'
   rw [List.getElem_set]
   split
   ·rename_i hij
    subst hij
    refine ⟨hdj.n,hdj.a,hdj.b,hdj.c,?_⟩
    simp only
    have := hdj.d
    split <;> omega
   ·exact hdj
 exact key fl.length 0 bigN fl (by omega) (J8 (G7 (by omega))) rfl d1
theorem C27 {c : Xl01Cur} (h : CurOk c) {x : XHarbour} {s : Int} (hs : idx s x.Fleet.length = true) (h4 : 4 ≤ x.Chart.Points.length) : ∃ a c',J9 c s = some (a,c') ∧ CurOk c' ∧ A2g x a = true ∧ a.Ship = s := by
 obtain ⟨v1,c1,e1,h1,p1,q1,_⟩ := D0 (n := 30) h (by omega)
 obtain ⟨v2,c2,e2,h2⟩ := A20 (n := 3) h1 (by omega)
 obtain ⟨v3,c3,e3,h3,p3,q3,_⟩ := D0 (n := 400) h2 (by omega)
 have q1 := q1 (by omega); have q3 := q3 (by omega)
 have i0 : idx 0 x.Chart.Points.length = true := A21.2 ⟨by omega,by omega⟩
 have i3 : idx 3 x.Chart.Points.length = true := A21.2 ⟨by omega,by omega⟩
 unfold J9
 simp only [e1,e2,Option.bind_some,X8,e3]
 rw [A7 (n := 15 * v1) (by omega) (by omega),A7 (n := 15 * v1 + 60) (by omega) (by omega),A7 (n := 15 * v1 + 60 + v3) (by omega) (by omega)]
 have good : ∀ p q : Int,idx p x.Chart.Points.length = true → idx q x.Chart.Points.length = true → p ≠ q → A2g x ⟨s,p,q,15 * v1,15 * v1 + 60 + v3⟩ = true := fun p q hp hq hne => by
  simp only [A2g,hs,hp,hq,A3h,Bool.and_eq_true,decide_eq_true_eq]
  exact ⟨trivial,trivial,trivial,hne,⟨by omega,by omega⟩,by omega,by omega⟩
 cases v2 with
 | true => exact ⟨_,c3,rfl,h3,good 3 0 i3 i0 (by omega),rfl⟩
 | false => exact ⟨_,c3,rfl,h3,good 0 3 i0 i3 (by omega),rfl⟩
theorem B8n {b : List Int} (hb : b.length ≤ maxLen) : ∃ h a,A0d b = some (h,a) ∧ HSmall h ∧ T3 h = true ∧ A2g h a = true := by
 obtain ⟨c,e,hc⟩ := D3p hb
 obtain ⟨x,c1,e1,h1,s1,s2,s3,s4,s5⟩ := B7k hc
 obtain ⟨v,c2,e2,h2,p2,q2,_⟩ := D0 (n := (x.Fleet.length : Int)) h1 (by omega)
 have q2 := q2 (by omega)
 obtain ⟨a,c3,e3,h3,a1,_⟩ := C27 h2 (A21.2 ⟨p2,q2⟩) s4
 exact ⟨x,a,by simp only [A0d,e,e1,e2,e3,Option.bind_some],s1,s2,a1⟩
end Go.Vi
namespace Go.Vi
set_option linter.unusedSimpArgs false
set_option linter.unusedVariables false
set_option linter.unnecessarySimpa false
def Least (f : XForecast) (a b L : Int) : Prop := (∀ m,a ≤ m → m ≤ b → L ≤ A0s f m) ∧ ∃ m,a ≤ m ∧ m ≤ b ∧ A0s f m = L
theorem Least.same {f : XForecast} {a b L M : Int} (h : Least f a b L) (g : Least f a b M) : L = M := by
 obtain ⟨h1,m,h2,h3,h4⟩ := h
 obtain ⟨g1,n,g2,g3,g4⟩ := g
 have := h1 n g2 g3
 have := g1 m h2 h3
 omega
def E9 (s : XShip) (d : Int) : XShip := ⟨s.Name,s.Length,d,s.Line,s.Tugs,s.Slow⟩
theorem B7e {s : XShip} {d : Int} (h : J0 s = true) (h1 : 100 ≤ d) (h2 : d ≤ 2000) : J0 (E9 s d) = true := by
 show (A0o s.Name && ((decide (10 ≤ s.Length) && decide (s.Length ≤ 400)) && ((decide (100 ≤ d) && decide (d ≤ 2000)) && ((decide (0 ≤ s.Line) && decide (s.Line ≤ 3)) && (decide (0 ≤ s.Tugs) && decide (s.Tugs ≤ 4)))))) = true
 simp only [J0,Bool.and_eq_true,decide_eq_true_eq] at h ⊢
 exact ⟨h.1,h.2.1,⟨h1,h2⟩,h.2.2.2⟩
theorem C1s (x : XSegment) (s : XShip) (d : Int) : H6 x (E9 s d) = H6 x s := rfl
theorem D7y {α : Type} {l : List α} {i : Int} (d : α) (h : idx i l.length = true) : ∃ n : Nat,i = (n : Int) ∧ n < l.length := by
 have := A21.1 h
 exact ⟨i.toNat,by omega,by omega⟩
theorem C32 {l : List XShip} {n : Nat} {d : Int} (h : A1i l = true) (hn : n < l.length) (h1 : 100 ≤ d) (h2 : d ≤ 2000) : A1i (l.set n (E9 l[n] d)) = true := by
 have hnm : ∀ j,((l.set n (E9 l[n] d))[j]?).map XShip.Name = (l[j]?).map XShip.Name := fun j => by
  rw [List.getElem?_set]
  split
  ·rename_i e
   subst e
   rw [List.getElem?_eq_getElem hn]
   first | rfl | (rw [if_pos hn]; rfl)
  ·rfl
 have hsi : ∀ s j,A4k (l.set n (E9 l[n] d)) s j = A4k l s j := fun s j => by
  have := hnm j
  unfold A4k
  cases h1 : (l.set n (E9 l[n] d))[j]? <;> cases h2 : l[j]? <;> simp [h1,h2] at this ⊢
  rw [this]
 have hsn : ∀ s,W9 (l.set n (E9 l[n] d)) s = W9 l s := fun s => by
  unfold W9
  rw [List.length_set]
  congr 1
  funext i r
  rw [hsi]
 simp only [A1i,Bool.and_eq_true,decide_eq_true_eq,List.all_eq_true,List.mem_range,List.length_set] at h ⊢
 refine ⟨h.1,fun j hj => ?_⟩
 have hf := h.2 j hj
 have := hnm j
 unfold B22 at hf ⊢
 rw [List.getElem?_set]
 by_cases e : n = j
 ·subst e
  rw [if_pos rfl,if_pos hn]
  rw [List.getElem?_eq_getElem hn] at hf
  simp only [Bool.and_eq_true,decide_eq_true_eq] at hf ⊢
  refine ⟨B7e hf.1 h1 h2,?_⟩
  rw [hsn]
  exact hf.2
 ·rw [if_neg e]
  rw [List.getElem?_eq_getElem hj] at hf ⊢
  simp only [Bool.and_eq_true,decide_eq_true_eq] at hf ⊢
  refine ⟨hf.1,?_⟩
  rw [hsn]
  exact hf.2
theorem B56 {c : XChart} {s : XShip} {i L : Int} (hc : F4 c = true) (hs : J0 s = true) (hi : idx i c.Segments.length = true) (h0 : M3 c i s ≤ L) :
  ∀ (k n : Nat) (v : Int),v = s.Draught + (k : Int) → v ≤ 2000 → k < n → (v < 2000 → ¬ M3 c i (E9 s (v + 1)) ≤ L) → ∃ d,K3 i L c s n v = some d ∧ s.Draught ≤ d ∧ d ≤ 2000 ∧ M3 c i (E9 s d) ≤ L ∧ (d < 2000 → ¬ M3 c i (E9 s (d + 1)) ≤ L) := by
 have hsD : E9 s s.Draught = s := rfl
 have hd : 100 ≤ s.Draught ∧ s.Draught ≤ 2000 := by
  simp only [J0,Bool.and_eq_true,decide_eq_true_eq] at hs
  exact hs.2.2.1
 have hn := (I8 hc).2.2.1
 intro k
 induction k with
 | zero =>
  intro n v hv h2 hk hno
  obtain ⟨q,rfl⟩ : ∃ q,n = q + 1 := ⟨n - 1,by omega⟩
  have hv' : v = s.Draught := by omega
  subst hv'
  have e : H4 c i (E9 s s.Draught) = some (M3 c i s) := by rw [hsD]; exact X6 hn (T5 hs) hc hs hi
  have h1 : (100 : Int) ≤ s.Draught := hd.1
  refine ⟨s.Draught,?_,Int.le_refl _,h2,by rw [hsD]; exact h0,hno⟩
  rw [K3]
  simp only [h1,decide_true,if_true]
  have e' : H4 c i ⟨s.Name,s.Length,s.Draught,s.Line,s.Tugs,s.Slow⟩ = some (M3 c i s) := e
  rw [e',Option.bind_some,if_pos (by simpa using h0)]
 | succ k ih =>
  intro n v hv h2 hk hno
  obtain ⟨q,rfl⟩ : ∃ q,n = q + 1 := ⟨n - 1,by omega⟩
  have h1 : (100 : Int) ≤ v := by omega
  have hok := B7e (d := v) hs h1 h2
  have e' : H4 c i ⟨s.Name,s.Length,v,s.Line,s.Tugs,s.Slow⟩ = some (M3 c i (E9 s v)) := X6 hn (T5 hok) hc hok hi
  rw [K3]
  simp only [h1,decide_true,if_true,e',Option.bind_some]
  by_cases hv2 : M3 c i (E9 s v) ≤ L
  ·simp only [hv2,decide_true,if_true]
   exact ⟨v,rfl,by omega,h2,hv2,hno⟩
  ·simp only [hv2,decide_false,Bool.false_eq_true,if_false]
   rw [A7 (by omega) (by omega)]
   exact ih q (v - 1) (by omega) (by omega) (by omega) fun _ => by rw [show v - 1 + 1 = v by omega]; exact hv2
theorem C0f {f : XForecast} {c : XChart} {s : XShip} {i a : Int} (hf : A3e f = true) (hc : F4 c = true) (hs : J0 s = true) (hi : idx i c.Segments.length = true) (hx : A1a f c s i a) :
  ∃ d L,V0 f c i s a = some d ∧ Least f a (a + H6 (M4 c i) s) L ∧ s.Draught ≤ d ∧ d ≤ 2000 ∧ M3 c i (E9 s d) ≤ L ∧ (d < 2000 → ¬ M3 c i (E9 s (d + 1)) ≤ L) := by
 obtain ⟨x1,x2,x3⟩ := hx
 obtain ⟨mb1,mb2⟩ := A87 (s := s) hc hi
 have hn := (I8 hc).2.2.1
 have hsafe : ∀ m,a ≤ m → m ≤ a + H6 (M4 c i) s → M3 c i s ≤ A0s f m := fun m h1 h2 => by
  have := x3 m h1 h2
  simpa [A4a] using this
 generalize hE : a + H6 (M4 c i) s = E at *
 have key : ∀ (k n : Nat) (v m : Int),m + (k : Int) = E + 1 → k < n → a ≤ m → (∀ j,a ≤ j → j < m → v ≤ A0s f j) → (∃ j,a ≤ j ∧ j ≤ E ∧ A0s f j = v) →
   ∃ d L,K9 i f c s E n v m = some d ∧ Least f a E L ∧ s.Draught ≤ d ∧ d ≤ 2000 ∧ M3 c i (E9 s d) ≤ L ∧ (d < 2000 → ¬ M3 c i (E9 s (d + 1)) ≤ L) := by
  intro k
  induction k with
  | zero =>
   intro n v m hk hn' hm hall hex
   obtain ⟨q,rfl⟩ : ∃ q,n = q + 1 := ⟨n - 1,by omega⟩
   have hlt : ¬ m ≤ E := by omega
   have hd : 100 ≤ s.Draught ∧ s.Draught ≤ 2000 := by
    simp only [J0,Bool.and_eq_true,decide_eq_true_eq] at hs
    exact hs.2.2.1
   obtain ⟨j,j1,j2,j3⟩ := hex
   obtain ⟨d,d1,d2⟩ := B56 hc hs hi (L := v) (by rw [← j3]; exact hsafe j j1 j2) (2000 - s.Draught).toNat bigN 2000 (by omega) (by omega) (by rw [Q0]; omega) fun h => by omega
   refine ⟨d,v,?_,⟨fun m' h1 h2 => hall m' h1 (by omega),j,j1,j2,j3⟩,d2⟩
   rw [K9]
   simp only [hlt,decide_false,Bool.false_eq_true,if_false]
   exact d1
  | succ k ih =>
   intro n v m hk hn' hm hall hex
   obtain ⟨q,rfl⟩ : ∃ q,n = q + 1 := ⟨n - 1,by omega⟩
   have hle : m ≤ E := by omega
   obtain ⟨l1,_,l3,l4⟩ := A25 (m := m) hf (by omega) (by omega)
   rw [K9]
   simp only [hle,decide_true,if_true,l1,Option.bind_some]
   rw [A7 (n := m + 1) (by omega) (by omega)]
   by_cases hlt : A0s f m < v
   ·rw [if_pos hlt]
    exact ih q _ (m + 1) (by omega) (by omega) (by omega) (fun j h1 h2 => by
     by_cases hj : j = m
     ·subst hj; exact Int.le_refl _
     ·have := hall j h1 (by omega); omega) ⟨m,hm,hle,rfl⟩
   ·rw [if_neg hlt]
    exact ih q v (m + 1) (by omega) (by omega) (by omega) (fun j h1 h2 => by
     by_cases hj : j = m
     ·subst hj; omega
     ·exact hall j h1 (by omega)) hex
 obtain ⟨l1,_,_,_⟩ := A25 (m := a) hf (by omega) (by omega)
 have hmin : (decide (0 ≤ a) && decide (a ≤ 2880)) = true := by simp; omega
 have hwE : IntKind.i64.wrap (a + H6 (M4 c i) s) = E := by rw [A7 (by omega) (by omega)]; exact hE
 have hnE : ¬ (2880 : Int) < E := by omega
 obtain ⟨d,L,d1,d2⟩ := key (E + 1 - a).toNat bigN (A0s f a) a (by omega) (by rw [Q0]; omega) (Int.le_refl a) (fun j h1 h2 => by omega) ⟨a,Int.le_refl a,by omega,rfl⟩
 refine ⟨d,L,?_,d2⟩
 unfold V0 L6 R9
 simp only [Z1,I7 hn,R8 (T5 hs),hf,hc,hs,hi,Option.bind_some,if_true,A0e,W5,hmin,(A0m hi).1,U6,hwE,hnE,decide_false,Bool.false_eq_true,if_false,l1]
 exact d1
theorem D28 : B2f [0] = true := by decide
theorem B6b {h : XHarbour} {p : XPassage} (s : HSmall h) (hh : T3 h = true) (hp : A2i h.Chart h.Fleet p = true) : ∃ L,Least h.Forecast p.Start p.End L ∧ H3 h p [0] = some (L - M3 h.Chart p.Segment (M9 h.Fleet p.Ship),true) := by
 have hh' := hh
 simp only [T3,Bool.and_eq_true] at hh'
 obtain ⟨hf,hc,hfl,_,_⟩ := hh'
 obtain ⟨i1,i2,p1,p2,p3⟩ := A46 hc hp
 have hsh := A2x i1
 have hok := (A0f hfl).2 _ hsh.2
 obtain ⟨n1,n2⟩ := C0b hc hok i2
 have hlf := X6 s.pn (T5 hok) hc hok i2
 have key : ∀ (k n : Nat) (v m : Int),m + (k : Int) = p.End + 1 → k < n → p.Start ≤ m → (∀ j,p.Start ≤ j → j < m → v ≤ A0s h.Forecast j) → (∃ j,p.Start ≤ j ∧ j ≤ p.End ∧ A0s h.Forecast j = v) →
   ∃ L,Least h.Forecast p.Start p.End L ∧ J4 [0] h p n v m = some (L - M3 h.Chart p.Segment (M9 h.Fleet p.Ship),true) := by
  intro k
  induction k with
  | zero =>
   intro n v m hk hn hm hall hex
   obtain ⟨q,rfl⟩ : ∃ q,n = q + 1 := ⟨n - 1,by omega⟩
   have hlt : ¬ m ≤ p.End := by omega
   refine ⟨v,⟨fun m' h1 h2 => hall m' h1 (by omega),hex⟩,?_⟩
   obtain ⟨j,j1,j2,j3⟩ := hex
   obtain ⟨_,_,l3,l4⟩ := A25 (m := j) hf (by omega) (by omega)
   rw [J4]
   simp only [hlt,decide_false,Bool.false_eq_true,if_false,hsh.1,Option.bind_some,hlf]
   rw [A7 (by omega) (by omega)]
  | succ k ih =>
   intro n v m hk hn hm hall hex
   obtain ⟨q,rfl⟩ : ∃ q,n = q + 1 := ⟨n - 1,by omega⟩
   have hle : m ≤ p.End := by omega
   obtain ⟨_,l2,l3,l4⟩ := A25 (m := m) hf (by omega) (by omega)
   rw [J4]
   simp only [hle,decide_true,if_true,l2,Option.bind_some]
   rw [A7 (n := m + 1) (by omega) (by omega)]
   by_cases hlt : A0s h.Forecast m < v
   ·rw [if_pos hlt]
    exact ih q _ (m + 1) (by omega) (by omega) (by omega) (fun j h1 h2 => by
     by_cases hj : j = m
     ·subst hj; exact Int.le_refl _
     ·have := hall j h1 (by omega); omega) ⟨m,hm,hle,rfl⟩
   ·rw [if_neg hlt]
    exact ih q v (m + 1) (by omega) (by omega) (by omega) (fun j h1 h2 => by
     by_cases hj : j = m
     ·subst hj; omega
     ·exact hall j h1 (by omega)) hex
 obtain ⟨_,l2,_,_⟩ := A25 (m := p.Start) hf (by omega) (by omega)
 obtain ⟨L,L1,L2⟩ := key (p.End + 1 - p.Start).toNat bigN (A0s h.Forecast p.Start) p.Start (by omega) (by rw [Q0]; omega) (Int.le_refl _) (fun j h1 h2 => by omega) ⟨p.Start,Int.le_refl _,p2,rfl⟩
 refine ⟨L,L1,?_⟩
 unfold H3
 simp only [A4l s,hh,B0r (show ([0] : List Int).length ≤ maxLen from G7 (by simp)),D28,A9k,hp,Option.bind_some,if_true,M5,Bool.not_true,Bool.false_eq_true,if_false,l2]
 exact L2
theorem B75 {h : XHarbour} {p : XPassage} (s : HSmall h) (hh : T3 h = true) (hp : A2i h.Chart h.Fleet p = true) {n0 : Int} (hcl : H3 h p [0] = some (n0,true)) (hneg : n0 < 0) (o : Int)
  (hex : ∃ m,p.Start ≤ m ∧ m ≤ p.End ∧ A0s h.Forecast m < M3 h.Chart p.Segment (M9 h.Fleet p.Ship)) : ∃ m,A1e h o p [0] = some (some ⟨o,m⟩) ∧ p.Start ≤ m ∧ m ≤ p.End := by
 have hh' := hh
 simp only [T3,Bool.and_eq_true] at hh'
 obtain ⟨hf,hc,hfl,_,_⟩ := hh'
 obtain ⟨i1,i2,p1,p2,p3⟩ := A46 hc hp
 have hsh := A2x i1
 have hok := (A0f hfl).2 _ hsh.2
 have hlf := X6 s.pn (T5 hok) hc hok i2
 obtain ⟨m0,g1,g2,g3⟩ := hex
 have hng : ¬ (0 : Int) ≤ n0 := by omega
 unfold A1e
 simp only [hcl,Option.bind_some,if_true,hng,decide_false,Bool.false_eq_true,if_false]
 have key : ∀ (k n : Nat) (m : Int),m + (k : Int) = m0 → k < n → p.Start ≤ m → ∃ r,P4 o [0] h p n m = some (some ⟨o,r⟩) ∧ p.Start ≤ r ∧ r ≤ p.End := by
  intro k
  induction k with
  | zero =>
   intro n m hk hn hm
   obtain ⟨q,rfl⟩ : ∃ q,n = q + 1 := ⟨n - 1,by omega⟩
   have e : m = m0 := by omega
   subst e
   obtain ⟨_,l2,_,_⟩ := A25 (m := m) hf (by omega) (by omega)
   rw [P4]
   simp only [g2,decide_true,if_true,l2,hsh.1,hlf,Option.bind_some,g3]
   exact ⟨m,rfl,hm,g2⟩
  | succ k ih =>
   intro n m hk hn hm
   obtain ⟨q,rfl⟩ : ∃ q,n = q + 1 := ⟨n - 1,by omega⟩
   have hle : m ≤ p.End := by omega
   obtain ⟨_,l2,_,_⟩ := A25 (m := m) hf (by omega) (by omega)
   rw [P4]
   simp only [hle,decide_true,if_true,l2,hsh.1,hlf,Option.bind_some]
   by_cases hlt : A0s h.Forecast m < M3 h.Chart p.Segment (M9 h.Fleet p.Ship)
   ·simp only [hlt,decide_true,if_true]
    exact ⟨m,rfl,hm,hle⟩
   ·simp only [hlt,decide_false,Bool.false_eq_true,if_false]
    rw [A7 (n := m + 1) (by omega) (by omega)]
    exact ih q (m + 1) (by omega) (by omega) (by omega)
 exact key (m0 - p.Start).toNat bigN p.Start (by omega) (by rw [Q0]; omega) (Int.le_refl _)
end Go.Vi
namespace Go.Vi
set_option linter.unusedSimpArgs false
set_option linter.unusedVariables false
set_option linter.unnecessarySimpa false
theorem B6r {α : Type} (l : List α) : ((l.length : Int) == (0 : Int)) = l.isEmpty := by cases l <;> simp <;> omega
theorem law_FnGrounded (a0 : List Int) (ok : DsOk [.sc (.sl (List.map r8 a0))]) : A0j a0 = some true := by
 unfold A0j
 by_cases hlen : (decide ((1048576 : Int) < (a0.length : Int))) = true
 ·rw [if_pos hlen]
 rw [if_neg hlen]
 have hl : a0.length ≤ maxLen := by
  simp only [decide_eq_true_eq] at hlen
  rw [F5]; omega
 obtain ⟨h,a,e1,s1,hh,ha⟩ := B8n hl
 obtain ⟨l,e2,hl8,hop⟩ := C2d s1 hh ha
 have e3 : U9 h a = some true := by rw [A6d s1,hh,ha]; rfl
 have hh' := hh
 simp only [T3,Bool.and_eq_true] at hh'
 obtain ⟨hf,hc,hfl,hreg,hcrew⟩ := hh'
 have ha' := ha
 simp only [A2g,Bool.and_eq_true] at ha'
 obtain ⟨i1,_⟩ := ha'
 simp only [e1,e2,e3,Option.bind_some,if_true,B6r]
 cases l with
 | nil =>
  simp only [List.isEmpty_nil,if_true,A13,e2,Option.bind_some,B6r]
  rfl
 | cons o rest =>
  obtain ⟨pos,plen,pass⟩ := hop o (by simp)
  obtain ⟨p0,pr,ep⟩ : ∃ p0 pr,o.Passages = p0 :: pr := by
   cases hp : o.Passages with
   | nil => rw [hp] at pos; simp at pos
   | cons x y => exact ⟨x,y,rfl⟩
  obtain ⟨q1,q2,q3,q4⟩ := pass p0 (by rw [ep]; simp)
  have hs := (A0f hfl).2 _ (A2x i1).2
  obtain ⟨_,iseg,_,_,_⟩ := A46 hc q2
  obtain ⟨d,L,d1,d2,d3,d4,d5,d6⟩ := C0f hf hc hs iseg q3
  have x0 : ix (o :: rest) 0 = some o := rfl
  have x1 : ix (p0 :: pr) 0 = some p0 := rfl
  have hnd : ¬ d < (M9 h.Fleet a.Ship).Draught := by omega
  simp only [List.isEmpty_cons,Bool.false_eq_true,if_false,x0,ep,x1,Option.bind_some,(A2x i1).1,d1,hnd,decide_false]
  unfold R4
  by_cases h2000 : (2000 : Int) ≤ d
  ·simp only [h2000,decide_true,if_true]
  ·simp only [h2000,decide_false,Bool.false_eq_true,if_false]
   obtain ⟨n,en,hn⟩ := D7y (⟨[],0,0,0,0,false⟩ : XShip) i1
   have hsn : M9 h.Fleet a.Ship = h.Fleet[n] := by
    simp only [M9,en,Int.toNat_natCast,List.getElem?_eq_getElem hn,Option.getD_some]
   have hD : 100 ≤ (M9 h.Fleet a.Ship).Draught := by
    simp only [J0,Bool.and_eq_true,decide_eq_true_eq] at hs
    exact hs.2.2.1.1
   have hfl6 : h.Fleet.length ≤ 6 := (A0f hfl).1
   rw [if_pos (show E1 ([] : List XShip).length h.Fleet.length 56 = true by simp only [List.length_nil]; exact X9 (by omega) (by omega) (by omega))]
   have harb : ∀ v : Int,100 ≤ v → v ≤ 2000 → HSmall ⟨h.Forecast,h.Chart,h.Fleet.set n (E9 h.Fleet[n] v),h.Regime,h.Crew⟩ ∧ T3 ⟨h.Forecast,h.Chart,h.Fleet.set n (E9 h.Fleet[n] v),h.Regime,h.Crew⟩ = true ∧
     A2i h.Chart (h.Fleet.set n (E9 h.Fleet[n] v)) p0 = true ∧ M9 (h.Fleet.set n (E9 h.Fleet[n] v)) p0.Ship = E9 h.Fleet[n] v := fun v v1 v2 => by
    have fs := C32 hfl hn v1 v2
    have hat : M9 (h.Fleet.set n (E9 h.Fleet[n] v)) p0.Ship = E9 h.Fleet[n] v := by
     simp only [M9,q1,en,Int.toNat_natCast]
     rw [List.getElem?_set]
     simp [hn]
    refine ⟨⟨s1.pn,fun x hx => T5 ((A0f fs).2 x hx),s1.mv⟩,?_,?_,hat⟩
    ·simp only [T3,hf,hc,fs,hreg,hcrew,Bool.and_self]
    ·have q2' := q2
     unfold A2i at q2' ⊢
     rw [hat,List.length_set,C1s,← hsn,← q1]
     exact q2'
   have hset : ∀ x : Int,(h.Fleet.set n (E9 h.Fleet[n] d)).set n (E9 (E9 h.Fleet[n] d) x) = h.Fleet.set n (E9 h.Fleet[n] x) := fun x => by
    rw [List.set_set]
    rfl
   obtain ⟨a1,a2,a3,a4⟩ := harb d (by omega) d4
   obtain ⟨b1,b2,b3,b4⟩ := harb (d + 1) (by omega) (by omega)
   obtain ⟨L1,l1,c1⟩ := B6b a1 a2 a3
   obtain ⟨L2,l2,c2⟩ := B6b b1 b2 b3
   simp only [a4] at c1
   simp only [b4] at c2
   have hE : p0.End = p0.Start + H6 (M4 h.Chart p0.Segment) (M9 h.Fleet a.Ship) := q4
   rw [← hE] at d2
   have eL1 : L1 = L := l1.same d2
   have eL2 : L2 = L := l2.same d2
   subst eL1
   subst eL2
   rw [hsn] at d5 d6
   have d6' := d6 (by omega)
   have w1 : IntKind.i64.wrap (d + 1) = d + 1 := A7 (by omega) (by omega)
   have y1 : ix h.Fleet a.Ship = some h.Fleet[n] := by rw [en]; exact J7 hn
   have y2 : ix (h.Fleet.set n (E9 h.Fleet[n] d)) a.Ship = some (E9 h.Fleet[n] d) := by
    rw [en,T2,List.getElem?_set]
    simp [hn]
   have en' : Int.toNat a.Ship = n := by rw [en]; simp
   have z1 : (⟨h.Fleet[n].Name,h.Fleet[n].Length,d,h.Fleet[n].Line,h.Fleet[n].Tugs,h.Fleet[n].Slow⟩ : XShip) = E9 h.Fleet[n] d := rfl
   have z2 : (⟨(E9 h.Fleet[n] d).Name,(E9 h.Fleet[n] d).Length,d + 1,(E9 h.Fleet[n] d).Line,(E9 h.Fleet[n] d).Tugs,(E9 h.Fleet[n] d).Slow⟩ : XShip) = E9 (E9 h.Fleet[n] d) (d + 1) := rfl
   obtain ⟨m0,g1,g2,g3⟩ := d2.2
   obtain ⟨m,r1,r2,r3⟩ := B75 b1 b2 b3 c2 (by omega) 0 ⟨m0,g1,g2,by simp only [b4]; omega⟩
   have hb : bnd ((o :: rest).length : Int) (1 : Int) (0 : Int) (o :: rest).length = some (0,1) := A92 (i := 1) (by simp)
   have ht : ((o :: rest).drop 0).take (1 - 0) = [o] := rfl
   have hg : O5 ⟨h.Forecast,h.Chart,h.Fleet.set n (E9 h.Fleet[n] (d + 1)),h.Regime,h.Crew⟩ [o] [0] = some (0,m) := by
    unfold O5
    obtain ⟨q,hq⟩ : ∃ q,bigN = q + 1 := ⟨bigN - 1,by rw [Q0]⟩
    rw [hq,J2,if_pos (by simp),show ix [o] 0 = some o from rfl,Option.bind_some,hq,M8,ep,if_pos (by simp)]
    simp only [x1,Option.bind_some,r1]
    rfl
   have hho : A0n ⟨h.Forecast,h.Chart,h.Fleet.set n (E9 h.Fleet[n] (d + 1)),h.Regime,h.Crew⟩ [o] [0] = some false := by
    unfold A0n
    obtain ⟨q,hq⟩ : ∃ q,bigN = q + 1 := ⟨bigN - 1,by rw [Q0]⟩
    rw [hq,S5,if_pos (by simp),show ix [o] 0 = some o from rfl,Option.bind_some,hq,X3,ep,if_pos (by simp)]
    have hneg : L2 - M3 h.Chart p0.Segment (E9 h.Fleet[n] (d + 1)) < 0 := by omega
    simp only [x1,Option.bind_some,c2,hneg,decide_true,if_true]
   have k1 : (0 : Int) ≤ L2 - M3 h.Chart p0.Segment (E9 h.Fleet[n] d) := by omega
   have k2 : L2 - M3 h.Chart p0.Segment (E9 h.Fleet[n] (d + 1)) < 0 := by omega
   simp only [y1,ep,x1,Option.bind_some,en',z1,c1,y2,w1,z2,hset,c2,hb,ht,hg,k1,k2,r2,r3,hho,decide_true,if_true]
   rfl
end Go.Vi
