/-
  The value level: functions that write to all that they are handed, and their calls. No condition.
-/
import Derived.Test.YtahienmgcfgclaaGVi36
namespace Go.Vi
set_option linter.unusedSimpArgs false
set_option linter.unusedVariables false
set_option linter.defProp false
inductive DVS (h : View) : DV → Value → Prop
 | sc {d v} : RepS h d v → DVS h (.sc d) v
 | ag {ds vs} : RepSs h ds vs → ds.length = vs.length → DVS h (.ag ds) (.agg vs.toArray)
inductive VV where
 | d (x : D)
 | v (x : DV)
inductive VVRel (h : View) : VV → Value → Prop
 | d {x v} : Rep A1b x v → VVRel h (.d x) v
 | v {x v} : DVS h x v → VVRel h (.v x) v
inductive VVRels (h : View) : List VV → List Value → Prop
 | nil : VVRels h [] []
 | cons {x v xs vs} : VVRel h x v → VVRels h xs vs → VVRels h (x :: xs) (v :: vs)
theorem VVRels.len {h : View} : ∀ {xs vs},VVRels h xs vs → xs.length = vs.length
 | _,_,.nil => rfl
 | _,_,.cons _ b => by simp [b.len]
theorem VVRels.get {h : View} : ∀ {xs : List VV} {vs : List Value} (i : Nat) {x : VV} {v : Value},VVRels h xs vs → xs[i]? = some x → vs[i]? = some v → VVRel h x v
 | _,_,_,_,_,.nil,hd,_ => by simp at hd
 | _,_,0,_,_,.cons a _,hd,hv => by simp at hd hv; subst hd hv; exact a
 | _,_,i + 1,_,_,.cons _ b,hd,hv => VVRels.get i b (by simpa using hd) (by simpa using hv)
def fr0 (A : Reg) : Reg := fun b fr => A b fr ∧ fr = (0,0)
def B4w (w : World) (A : Reg) : Base := ⟨w,fun _ => none,fun _ => False,fun _ h => h.elim,fun b => A b (0,0) ∧ ∃ c t,w.heap[b]? = some (.cells c t (0,0)),fun b _ h => h.elim (fun ⟨i,_,e⟩ => by cases e) fun h => h⟩
theorem B86 {w : World} {A : Reg} {b : Nat} (h : (B4w w A).M b) : False := h.elim (fun ⟨i,_,e⟩ => by cases e) fun h => h
def FCd (P : Program) (f : FuncId) (xs : List VV) (r : D) : Prop :=
 ∀ (w : World) (A : Reg) (vs : List Value),(∀ w2,BelowX w.heap.size (B4w w A) w2 → GoodW w2) → VVRels (C4 (fr0 A) w) xs vs → Calls P f vs.toArray w fun e w' =>
  ∃ v,e = .returned v ∧ Rep A1b r v ∧ BelowX w.heap.size (B4w w A) w'
def VV.av : VV → AV
 | VV.d x => .v (.sc (.dat x))
 | VV.v (DV.sc y) => .v (.sc (.vol y))
 | VV.v (DV.ag ys) => .v (.ag (ys.map .vol))
section
variable {P : Program}
end
def B0o : List AC → Option (List D)
 | [] => some []
 | .vol d :: cs => (B0o cs).map (d :: ·)
 | _ => none
def C8h : AV → Option VV
 | .v (.sc (.dat d)) => bif d.flat then some (.d d) else none
 | .v (.sc (.vol d)) => some (.v (.sc d))
 | .v (.ag cs) => (B0o cs).map fun ds => .v (.ag ds)
 | _ => none
def B1q : List AV → Option (List VV)
 | [] => some []
 | a :: r => match C8h a,B1q r with
  | some x,some xs => some (x :: xs)
  | _,_ => none
section
variable {P : Program} {A : Ar} {B : Nat} {w0 : Base} {w : World} {nm : Names} {σ : St} {tmps : Array Value}
def B65 (A : Ar) : Reg := fun b _ => ∃ C,A.v b C
theorem Rel.volMove (R : Rel A B w0 nm σ tmps w) : ∀ b C,A.v b C → ∃ C',C4 (fr0 (B65 A)) w b C' ∧ ShL C C' := fun b C hC => by
 obtain ⟨c,t,fr,h1,h2,h3,_⟩ := R.volAt hC
 exact ⟨c.toList,⟨c,t,fr,⟨⟨C,hC⟩,h3⟩,h1,rfl⟩,h2⟩
theorem B3z {h' : View} {X : Cx} (hh : ∀ b C,X.v b C → ∃ C',h' b C' ∧ ShL C C') : ∀ {cs : List AC} {vs : List Value} {ds : List D},CRels X cs vs → B0o cs = some ds → RepSs h' ds vs ∧ ds.length = vs.length
 | [],_,ds,.nil,h => by simp [B0o] at h; subst h; exact ⟨.nil,rfl⟩
 | c :: cs,_,ds,.cons a b,h => by
  cases c <;> simp [B0o] at h
  obtain ⟨ds',h1,rfl⟩ := h
  obtain ⟨k1,k2⟩ := B3z hh b h1
  cases a with | vol p q => exact ⟨.cons (p.move hh q) k1,by simp [k2]⟩
theorem C7a (R : Rel A B w0 nm σ tmps w) {av : AV} {v : Value} {x : VV} (H : VRel (cx A nm σ w) av v) (h : C8h av = some x) : VVRel (C4 (fr0 (B65 A)) w) x v := by
 unfold C8h at h
 split at h
 ·rename_i d
  cases hf : d.flat with
  | false => rw [hf] at h; cases h
  | true =>
   rw [hf] at h
   cases h
   exact .d (H.inv_sc.inv_dat.flat hf)
 ·cases h
  have hc := H.inv_sc
  cases hc with | vol p q => exact .v (.sc (p.move R.volMove q))
 ·simp only [Option.map_eq_some_iff] at h
  obtain ⟨ds,h1,rfl⟩ := h
  obtain ⟨vs,rfl,hcs⟩ := H.inv_ag
  obtain ⟨k1,k2⟩ := B3z (X := cx A nm σ w) R.volMove hcs h1
  exact .v (.ag k1 k2)
 ·cases h
theorem B3f (R : Rel A B w0 nm σ tmps w) : ∀ {avs : List AV} {vs : List Value} {xs : List VV},B1f (cx A nm σ w) avs vs → B1q avs = some xs → VVRels (C4 (fr0 (B65 A)) w) xs vs
 | [],vs,xs,H,h => by
  simp [B1q] at h
  subst h
  obtain rfl : vs = [] := List.length_eq_zero_iff.1 H.1.symm
  exact .nil
 | a :: avs,vs,xs,H,h => by
  unfold B1q at h
  split at h
  ·rename_i x xs' h1 h2
   cases h
   cases vs with
   | nil => have := H.1; simp at this
   | cons v vs =>
    exact .cons (C7a R (H.2 0 a v rfl rfl) h1) (B3f R ⟨by have := H.1; simpa using this,fun i u v hu hv => H.2 (i + 1) u v (by simpa using hu) (by simpa using hv)⟩ h2)
  ·cases h
theorem FCd.callC {f : FuncId} {xs : List VV} {r : D} (H : FCd P f xs r) {avs : List AV} (hx : B1q avs = some xs) : A52 P f avs σ σ (.v (.sc (.dat r))) := by
 intro A B w0 w nm tmps vs R hvs
 have after : ∀ w2,BelowX w.heap.size (B4w w (B65 A)) w2 → BelowX B w0 w2 := fun w2 h => R.below.afterZ rfl h R.size R.there (fun b hb => (B86 hb).elim) fun b ⟨⟨C,hC⟩,_⟩ => .inr (R.all.vol b C hC).1
 refine (H w (B65 A) vs (fun w2 h => R.good w2 (after w2 h)) (B3f R hvs hx)).mono fun e w' h => ?_
 obtain ⟨v,rfl,hv,hb⟩ := h
 have hsame : ∀ b,b < w.heap.size → ¬ w0.vv b → w'.heap[b]? = w.heap[b]? := fun b hlt hn => hb.block b hlt (fun h => B86 h) fun ⟨⟨C,hC⟩,_⟩ => hn (R.all.vol b C hC).1
 have hnm : ∀ i b,nm i = some b → ¬ w0.vv b := fun i b hi hv => by
  rcases (R.names i b hi).1 with h1 | h1
  ·have := R.below.vlt b hv; omega
  ·exact w0.no b hv h1
 have hview : ∀ b C,B1 A nm w b C → B1 A nm w' b C := by
  rintro b C ⟨h1,c,t,fr,hA,h2,h3⟩
  exact ⟨h1,c,t,fr,hA,(hsame b (A7w h2) fun hv => R.all.vout b fr hv hA).trans h2,h3⟩
 refine ⟨v,nm,rfl,?_,.v (.sc (.dat (hv.mono A2c)))⟩
 refine R.carry (f := fun c => c) (after w' hb) (Nat.le_trans R.size hb.size) (fun i b hi => ?_) R.inj (fun _ _ => rfl) (fun k => by rw [AV.mapId]) (fun id => by simp) (fun id cs _ b hbn => ⟨hbn,hsame b (R.names _ _ hbn).2 (hnm _ _ hbn)⟩) (fun c v _ hr => ?_)
 ·obtain ⟨h1,h2⟩ := R.names i b hi
  exact ⟨h1,Nat.lt_of_lt_of_le h2 hb.size⟩
 ·exact hr.move hview (fun id _ => .inr ⟨rfl,rfl,fun b hbn => hsame b (R.names _ _ hbn).2 (hnm _ _ hbn)⟩) (fun id _ b hbn => hbn)
end
def AC.wipe : AC → AC
 | .dat d => bif d.fl then .dat d else .undef
 | c => c
section
variable {P : Program} {A : Ar} {B : Nat} {w0 : Base} {w : World} {nm : Names} {σ : St} {tmps : Array Value}
end
section
variable {σ : St}
theorem D0k {rs : Rows} {es : List (List D)} : A5b rs (.v (.sc (.old (.sl es)))) = some (.v (.sc (.dat (.int .i64 es.length)))) := rfl
theorem C98 {rs : Rows} {es : List (List D)} : A5b rs (.v (.sc (.vol (.sl es)))) = some (.v (.sc (.dat (.int .i64 es.length)))) := rfl
theorem C3o {α : Type} {rs : Rows} {sz : Nat} {xs : List α} {row : α → List D} [Row row sz] {kd : IntKind} {i : Int} : Z2 rs sz (.v (.sc (.old (.sl (List.map row xs))))) (.v (.sc (.dat (.int kd i)))) = (ix xs i).map fun x => .v (.sc (.old (.pd (row x)))) := by
 simp only [Z2,B12]
 cases ix xs i with
 | none => rfl
 | some x => simp [Row.len (row := row) (sz := sz),Row.pos row]
theorem C2s {α : Type} {rs : Rows} {sz : Nat} {xs : List α} {row : α → List D} [Row row sz] {kd : IntKind} {i : Int} : Z2 rs sz (.v (.sc (.vol (.sl (List.map row xs))))) (.v (.sc (.dat (.int kd i)))) = (ix xs i).map fun x => .v (.sc (.vol (.pd (row x)))) := by
 simp only [Z2,B12]
 cases ix xs i with
 | none => rfl
 | some x => simp [Row.len (row := row) (sz := sz),Row.pos row]
theorem C8k {g : Bool} {n : Nat} {cs : List D} : U5 σ g n (.v (.sc (.old (.pd cs)))) = T9 (List.map A3r cs) 0 g n := rfl
theorem C50 {n : Nat} {es : List (List D)} {cs : List D} : U5 σ false n (.v (.sc (.vol (.pd (.sl es :: cs))))) = some (.v (.sc (.vol (.sl es)))) := rfl
theorem D24 {rs : Rows} {off : Nat} {cs : List D} : U1 rs off (.v (.sc (.old (.pd cs)))) = (A2m off cs).map fun cs => .v (.sc (.old (.pd cs))) := by
 simp only [U1,A5k]
 split <;> rfl
theorem D6k {rs : Rows} {off : Nat} {cs : List D} : U1 rs off (.v (.sc (.vol (.pd cs)))) = (A2m off cs).map fun cs => .v (.sc (.vol (.pd cs))) := by
 simp only [U1,A5k]
 split <;> rfl
theorem C8g {cs : List D} : A4s (.v (.sc (.old (.pd cs)))) = some (.v (.sc (.old (.pd cs)))) := rfl
theorem C6b {cs : List D} : A4s (.v (.sc (.vol (.pd cs)))) = some (.v (.sc (.vol (.pd cs)))) := rfl
theorem B94 {k : IntKind} {n m : Int} {cs : List D} : St.storeV σ 1 (.v (.sc (.vol (.pd (.int k n :: cs))))) (.v (.sc (.dat (.int k m)))) = some σ := by cases k <;> rfl
theorem B96 {n m : Bool} {cs : List D} : St.storeV σ 1 (.v (.sc (.vol (.pd (.bool n :: cs))))) (.v (.sc (.dat (.bool m)))) = some σ := rfl
theorem C1k {n m : List UInt8} {cs : List D} : St.storeV σ 1 (.v (.sc (.vol (.pd (.str n :: cs))))) (.v (.sc (.dat (.str m)))) = some σ := rfl
theorem D43 {k : IntKind} {n : Int} : A3r (.int k n) = .dat (.int k n) := rfl
theorem D4q {b : Bool} : A3r (.bool b) = .dat (.bool b) := rfl
theorem D4o {s : List UInt8} : A3r (.str s) = .dat (.str s) := rfl
theorem D3a {es : List (List D)} : A3r (.sl es) = .old (.sl es) := rfl
theorem C7n : List.map A3r [] = [] := rfl
theorem C4w {d : D} {ds : List D} : List.map A3r (d :: ds) = A3r d :: List.map A3r ds := rfl
theorem C28 : List.map AC.vol [] = [] := rfl
theorem B9g {d : D} {ds : List D} : List.map AC.vol (d :: ds) = .vol d :: List.map AC.vol ds := rfl
theorem C69 {id : Nat} {d : D} : AC.kill id (.old d) = .old d := rfl
theorem C65 {id : Nat} {d : D} : AC.kill id (.vol d) = .vol d := rfl
theorem D1n {id : Nat} {es : List (List D)} {d : D} : AC.frz id es (.old d) = .old d := rfl
theorem C9t {id : Nat} {es : List (List D)} {d : D} : AC.frz id es (.vol d) = .vol d := rfl
theorem D5g {k : IntKind} {n : Int} : AC.wipe (.dat (.int k n)) = .dat (.int k n) := rfl
theorem D35 {b : Bool} : AC.wipe (.dat (.bool b)) = .dat (.bool b) := rfl
theorem D6m {s : List UInt8} : AC.wipe (.dat (.str s)) = .dat (.str s) := rfl
theorem D5q {es : List (List D)} : AC.wipe (.dat (.sl es)) = .undef := rfl
theorem D39 {cs : List D} : AC.wipe (.dat (.pd cs)) = .undef := rfl
theorem D56 : AC.wipe .undef = .undef := rfl
theorem D3s : AC.wipe .nil = .nil := rfl
theorem D51 {id : Nat} : AC.wipe (.own id) = .own id := rfl
theorem D00 {id o : Nat} : AC.wipe (.pb id o) = .pb id o := rfl
theorem C7k {d : D} : AC.wipe (.old d) = .old d := rfl
theorem D3f {N : List Nat} {d : D} : AV.avoids N (.v (.sc (.old d))) = true := by simp [AV.avoids,AV.cells,V1.cells,AC.avoids,AC.uses]
end
def D5i := And.intro @D0k (And.intro @C98 (And.intro @C3o (And.intro @C2s (And.intro @C8k (And.intro @C50 (And.intro @D24 (And.intro @D6k (And.intro @C8g (And.intro @C6b (And.intro @B94 (And.intro @B96 (And.intro @C1k (And.intro @D43 (And.intro @D4q (And.intro @D4o (And.intro @D3a (And.intro @C7n (And.intro @C4w (And.intro @C28 (And.intro @B9g (And.intro @C69 (And.intro @C65 (And.intro @D1n (And.intro @C9t (And.intro @D5g (And.intro @D35 (And.intro @D6m (And.intro @D5q (And.intro @D39 (And.intro @D56 (And.intro @D3s (And.intro @D51 (And.intro @D00 (And.intro @C7k @D3f))))))))))))))))))))))))))))))))))
end Go.Vi
