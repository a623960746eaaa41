/-
  The value level: functions that write to a variable of the caller's whose cells hold slices of its own. No condition.
-/
import Derived.Test.YtahienmgcfgclaaGVi34
namespace Go.Vi
set_option linter.defProp false
set_option linter.unusedSimpArgs false
set_option linter.unusedVariables false
def XC.zac (ids : List Nat) : XC → AC
 | .d x => .dat x
 | .r j => .own (ids.getD j 0)
def XC.inZ (n : Nat) : XC → Bool
 | .d _ => true
 | .r j => decide (j < n)
inductive ZCRel (h : View) (w : World) (bs : List (Option Nat)) (R : RowL) : XC → Value → Prop
 | d {x v} : Rep h x v → ZCRel h w bs R (.d x) v
 | nil {j sz a} : R[j]? = some (sz,[]) → bs[j]? = some none → ZCRel h w bs R (.r j) (.slice a 0 0)
 | r {j sz es b cap len} : R[j]? = some (sz,es) → bs[j]? = some (some b) → OwnB h w b sz cap es → len = es.length → ZCRel h w bs R (.r j) (.slice (some ⟨b,0,none⟩) len cap)
inductive ZCRels (h : View) (w : World) (bs : List (Option Nat)) (R : RowL) : List XC → List Value → Prop
 | nil : ZCRels h w bs R [] []
 | cons {c v cs vs} : ZCRel h w bs R c v → ZCRels h w bs R cs vs → ZCRels h w bs R (c :: cs) (v :: vs)
def A8r (h : View) (w : World) (p : Nat) (bs : List (Option Nat)) (R : RowL) (cs : List XC) : Prop := ∃ C t,w.heap[p]? = some (.cells C t (0,0)) ∧ ZCRels h w bs R cs C.toList
def A7c (w : World) (p : Nat) (bs : List (Option Nat)) : Base := ⟨w,npB p,fun b => some b ∈ bs ∧ b < w.heap.size,fun _ h => h.2,fun _ => False,fun _ h => h.elim⟩
def FCz (P : Program) (f : FuncId) (xs : List YV) (cs0 : List XC) (R0 : RowL) (cs1 : List XC) (S1 : RowL) (rs : List R1) : Prop :=
 ∀ (w : World) (A : Reg) (p : Nat) (vs : List Value) (bs : List (Option Nat)),bs.length = R0.length → (∀ (i j b : Nat),bs[i]? = some (some b) → bs[j]? = some (some b) → i = j) → (∀ b,some b ∈ bs → b < w.heap.size ∧ (∀ fr,¬ A b fr) ∧ b ≠ p) →
  (∀ w2,BelowX w.heap.size (A7c w p bs) w2 → GoodW w2) → p < w.heap.size → (∀ fr,¬ A p fr) → A8r (C4 A w) w p bs R0 cs0 → YVRels (C4 A w) p xs vs → Calls P f vs.toArray w fun e w' =>
  ∃ (v : Value) (bs' rb : List (Option Nat)),e = .returned v ∧ bs'.length = S1.length ∧ (∀ (i j b : Nat),bs'[i]? = some (some b) → bs'[j]? = some (some b) → i = j) ∧ (∀ b,some b ∈ bs' → b ≠ p ∧ (w.heap.size ≤ b ∨ some b ∈ bs) ∧ b < w'.heap.size) ∧ BelowX w.heap.size (A7c w p bs) w' ∧
   A8r (C4 (fun b fr => b ≠ p ∧ some b ∉ bs' ∧ ((w.heap.size ≤ b ∧ fr = (0,0)) ∨ A b fr ∨ (some b ∈ bs ∧ fr = (0,0)))) w') w' p bs' S1 cs1 ∧ RRel (C4 (fun b fr => b ≠ p ∧ some b ∉ bs' ∧ ((w.heap.size ≤ b ∧ fr = (0,0)) ∨ A b fr ∨ (some b ∈ bs ∧ fr = (0,0)))) w') w' rs v rb
theorem A8t {h h' : View} {w : World} {b sz cap : Nat} {es : List (List D)} (H : OwnB h w b sz cap es) (hh : ∀ b C,h b C → h' b C) : OwnB h' w b sz cap es := by
 obtain ⟨h1,h2,h3,C,t,h4,h5,h6⟩ := H
 exact ⟨h1,h2,h3,C,t,h4,h5,h6.mono hh⟩
section
variable {A : Ar} {nm : Names} {σ : St} {w : World} {h : View} {ids : List Nat} {R : RowL}
theorem C6h (hh : ∀ b C,B1 A nm w b C → h b C) (hr : V3 σ.rows ids = some R) {c : XC} {v : Value} (hc : c.inZ R.length = true) (H : CRel (cx A nm σ w) (c.zac ids) v) : ZCRel h w (D5 nm ids) R c v := by
 obtain ⟨hl,hat⟩ := A1q hr
 cases c with
 | d x =>
  have H : CRel (cx A nm σ w) (.dat x) v := H
  cases H with | dat H => exact .d (H.mono hh)
 | r j =>
  have hj : j < R.length := by simpa [XC.inZ] using hc
  have hji : j < ids.length := by omega
  have hid : ids[j]? = some ids[j] := List.getElem?_eq_getElem hji
  have H : CRel (cx A nm σ w) (.own (ids.getD j 0)) v := H
  have hg : ids.getD j 0 = ids[j] := by simp [hji]
  rw [hg] at H
  have hR : R[j]? = A2 σ.rows ids[j] := by rw [hat j,hid]; rfl
  have hb : (D5 nm ids)[j]? = some (nm (2 * ids[j] + 1)) := by simp [D5,hid]
  rw [List.getElem?_eq_getElem hj] at hR
  obtain ⟨sz,es,hse⟩ : ∃ sz es,R[j] = (sz,es) := ⟨_,_,rfl⟩
  have hRj : R[j]? = some (sz,es) := by rw [List.getElem?_eq_getElem hj,hse]
  rw [hse] at hR
  rcases H.inv_own hR.symm with ⟨rfl,k1,a0,rfl⟩ | ⟨b,cap,k1,k2,rfl⟩
  ·exact .nil hRj (by rw [hb]; exact congrArg some k1)
  ·exact .r hRj (by rw [hb]; exact congrArg some k1) (A8t k2 hh) rfl
theorem A8s (hh : ∀ b C,B1 A nm w b C → h b C) (hr : V3 σ.rows ids = some R) : ∀ {cs : List XC} {vs : List Value},cs.all (XC.inZ R.length) = true → CRels (cx A nm σ w) (cs.map (XC.zac ids)) vs → ZCRels h w (D5 nm ids) R cs vs
 | [],_,_,.nil => .nil
 | c :: cs,_,hc,.cons a b => by
  simp only [List.all_cons,Bool.and_eq_true] at hc
  exact .cons (C6h hh hr hc.1 a) (A8s hh hr hc.2 b)
end
theorem C5c {X : Cx} {h : View} {bs : List (Option Nat)} {R : RowL} {ids : List Nat} (hh : ∀ b C,h b C → X.h b C) (hl : ids.length = R.length) (hr : ∀ (j id : Nat) (r : Nat × List (List D)),ids[j]? = some id → R[j]? = some r → A2 X.rs id = some r) (hn : ∀ (j id : Nat) (o : Option Nat),ids[j]? = some id → bs[j]? = some o → X.nm (2 * id + 1) = o)
  {c : XC} {v : Value} (H : ZCRel h X.w bs R c v) : CRel X (c.zac ids) v := by
 cases H with
 | d H => exact .dat (H.mono hh)
 | @nil j sz a h1 h2 =>
  have hj : j < ids.length := by rw [hl]; exact (List.getElem?_eq_some_iff.1 h1).1
  have hid : ids[j]? = some ids[j] := List.getElem?_eq_getElem hj
  have hg : ids.getD j 0 = ids[j] := by simp [hj]
  show CRel X (.own (ids.getD j 0)) _
  rw [hg]
  exact .ownNil (hr j _ _ hid h1) (hn j _ _ hid h2)
 | @r j sz es b cap len h1 h2 h3 h4 =>
  have hj : j < ids.length := by rw [hl]; exact (List.getElem?_eq_some_iff.1 h1).1
  have hid : ids[j]? = some ids[j] := List.getElem?_eq_getElem hj
  have hg : ids.getD j 0 = ids[j] := by simp [hj]
  show CRel X (.own (ids.getD j 0)) _
  rw [hg]
  exact .own (hr j _ _ hid h1) (hn j _ _ hid h2) (A8t h3 hh) h4
theorem B3v {X : Cx} {h : View} {bs : List (Option Nat)} {R : RowL} {ids : List Nat} (hh : ∀ b C,h b C → X.h b C) (hl : ids.length = R.length) (hr : ∀ (j id : Nat) (r : Nat × List (List D)),ids[j]? = some id → R[j]? = some r → A2 X.rs id = some r) (hn : ∀ (j id : Nat) (o : Option Nat),ids[j]? = some id → bs[j]? = some o → X.nm (2 * id + 1) = o) :
  ∀ {cs : List XC} {vs : List Value},ZCRels h X.w bs R cs vs → CRels X (cs.map (XC.zac ids)) vs
 | _,_,.nil => .nil
 | _,_,.cons a b => .cons (C5c hh hl hr hn a) (B3v hh hl hr hn b)
def St.killAll : List Nat → St → St
 | [],σ => σ
 | id :: ids,σ => St.killAll ids (σ.map (AC.kill id))
theorem C5t {c : AC} {id k : Nat} (h : (c.kill id).has k = true) : c.has k = true ∧ k ≠ id := by
 rcases A4w c id with ⟨h1,h2⟩ | ⟨h1,h2⟩
 ·rw [h2] at h; cases h
 ·rw [h2] at h
  exact ⟨h,fun e => by subst e; rw [h1] at h; cases h⟩
theorem C3b (f : AC → AC) (v : AV) : (v.map f).cells = v.cells.map f := by
 cases v with
 | v x => cases x <;> simp [AV.map,V1.map,AV.cells,V1.cells]
 | tup l =>
  simp only [AV.map,AV.cells]
  induction l with
  | nil => rfl
  | cons x l ih => cases x <;> simp_all [V1.map,V1.cells]
 | undef => rfl
 | no => rfl
theorem C5i {σ : St} {f : AC → AC} {c : AC} (h : (σ.map f).Uses c) : ∃ c0,σ.Uses c0 ∧ c = f c0 := by
 rcases h with ⟨k,hk⟩ | ⟨id,cs,hcs,hc⟩
 ·rw [St.get_map,C3b] at hk
  obtain ⟨c0,h1,rfl⟩ := List.mem_map.1 hk
  exact ⟨c0,.inl ⟨k,h1⟩,rfl⟩
 ·rw [A05] at hcs
  simp only [Option.map_eq_some_iff] at hcs
  obtain ⟨cs0,h0,rfl⟩ := hcs
  obtain ⟨c0,h1,rfl⟩ := List.mem_map.1 hc
  exact ⟨c0,.inr ⟨id,cs0,h0,h1⟩,rfl⟩
section
variable {P : Program} {A : Ar} {B : Nat} {w0 : Base} {w : World} {nm : Names} {σ : St} {tmps : Array Value}
theorem Rel.killed (R : Rel A B w0 nm σ tmps w) (id : Nat) : Rel A B w0 nm (σ.map (AC.kill id)) tmps w := by
 refine R.carry (f := AC.kill id) R.below R.size R.names R.inj (fun _ _ => rfl) (fun k => St.get_map) (fun k => A05) (fun k cs _ b hb => ⟨hb,rfl⟩) (fun c v hc hr => ?_)
 rcases A4w c id with ⟨_,hk⟩ | ⟨hn,hk⟩
 ·rw [hk]; exact .undef hr.one
 ·rw [hk]; exact hr.same rfl (fun _ => rfl) (fun _ _ h => h) rfl
theorem Rel.killedAll : ∀ (ids : List Nat) {σ : St},Rel A B w0 nm σ tmps w → Rel A B w0 nm (σ.killAll ids) tmps w
 | [],_,R => R
 | id :: ids,_,R => Rel.killedAll ids (R.killed id)
theorem A74 : ∀ (ids : List Nat) (σ : St),(σ.killAll ids).rows = σ.rows
 | [],_ => rfl
 | id :: ids,σ => A74 ids (σ.map (AC.kill id))
theorem A8p : ∀ (ids : List Nat) {σ : St} {c : AC},(σ.killAll ids).Uses c → (∀ id ∈ ids,c.has id = false) ∧ (∀ k,c.has k = true → ∃ c0,σ.Uses c0 ∧ c0.has k = true)
 | [],σ,c,h => ⟨fun id hid => (by cases hid),fun k hk => ⟨c,h,hk⟩⟩
 | id :: ids,σ,c,h => by
  obtain ⟨h1,h2⟩ := A8p ids (σ := σ.map (AC.kill id)) h
  have key : ∀ k,c.has k = true → k ≠ id ∧ ∃ c0,σ.Uses c0 ∧ c0.has k = true := fun k hk => by
   obtain ⟨c1,hu,hc1⟩ := h2 k hk
   obtain ⟨c0,hu0,rfl⟩ := C5i hu
   obtain ⟨q1,q2⟩ := C5t hc1
   exact ⟨q2,c0,hu0,q1⟩
  refine ⟨fun k hk => ?_,fun k hk => (key k hk).2⟩
  rcases List.mem_cons.1 hk with rfl | hk
  ·cases hx : c.has k with
   | false => rfl
   | true => exact absurd rfl (key k hx).1
  ·exact h1 k hk
def St.behindZ (σ : St) (id : Nat) (ids : List Nat) (cs1 : List XC) (S1 : RowL) : St := { σ.killAll ids with bx := put (σ.killAll ids).bx id (cs1.map (XC.zac ids)),rows := A18 σ.rows ids S1 }
def nmZ (ids : List Nat) (bs : List (Option Nat)) (nm : Names) : Names := fun n => if n % 2 = 1 then (match A3v (n / 2) ids with | some j => (bs[j]?).join | none => nm n) else nm n
theorem B0q {id : Nat} : ∀ {l : List Nat},A3v id l = none → id ∉ l
 | [],_ => by simp
 | k :: r,h => by
  unfold A3v at h
  by_cases hk : k = id
  ·simp [hk] at h
  ·have h' : (k == id) = false := by simpa using hk
   simp only [h',cond_false,Option.map_eq_none_iff] at h
   simp only [List.mem_cons,not_or]
   exact ⟨fun e => hk e.symm,B0q h⟩
theorem C5m {l : List Nat} (hn : l.Nodup) {j id : Nat} (h : l[j]? = some id) : A3v id l = some j := by
 cases hp : A3v id l with
 | none => exact absurd (List.mem_of_getElem? h) (B0q hp)
 | some i =>
  have h2 := A4q hp
  have hi := (List.getElem?_eq_some_iff.1 h2).1
  rw [(List.getElem?_inj hi hn).1 (h2.trans h.symm)]
theorem behindZ (R : Rel A B w0 nm σ tmps w) {id p : Nat} {ids : List Nat} {S1 : RowL} {cs1 : List XC} {bs' : List (Option Nat)} {w' : World} (hp : nm (2 * id) = some p) (hnd : ids.Nodup) (hsm : ∀ i ∈ ids,i < 1099511627776) (hl1 : ids.length = S1.length) (hbl : bs'.length = S1.length)
  (hinj : ∀ (i j b : Nat),bs'[i]? = some (some b) → bs'[j]? = some (some b) → i = j) (hnew : ∀ b,some b ∈ bs' → b ≠ p ∧ (w.heap.size ≤ b ∨ some b ∈ D5 nm ids) ∧ b < w'.heap.size)
  (hb : BelowX w.heap.size (A7c w p (D5 nm ids)) w') (hh : A8r (C4 (fun b fr => b ≠ p ∧ some b ∉ bs' ∧ ((w.heap.size ≤ b ∧ fr = (0,0)) ∨ ((∀ i,nm i ≠ some b) ∧ A b fr) ∨ (some b ∈ D5 nm ids ∧ fr = (0,0)))) w') w' p bs' S1 cs1) :
  Rel A B w0 (nmZ ids bs' nm) (σ.behindZ id ids cs1 S1) tmps w' ∧ ∀ b C,C4 (fun b fr => b ≠ p ∧ some b ∉ bs' ∧ ((w.heap.size ≤ b ∧ fr = (0,0)) ∨ ((∀ i,nm i ≠ some b) ∧ A b fr) ∨ (some b ∈ D5 nm ids ∧ fr = (0,0)))) w' b C → B1 A (nmZ ids bs' nm) w' b C := by
 have hblk : ∀ b,some b ∈ D5 nm ids → ∃ k ∈ ids,nm (2 * k + 1) = some b := fun b h => by
  unfold D5 at h
  obtain ⟨k,h1,h2⟩ := List.mem_map.1 h
  exact ⟨k,h1,h2⟩
 have hMz : ∀ b,(A7c w p (D5 nm ids)).M b → b = p ∨ ∃ k ∈ ids,nm (2 * k + 1) = some b := fun b h => by
  rcases h with ⟨i,_,e⟩ | ⟨h1,_⟩
  ·exact .inl (S8 e).2.symm
  ·exact .inr (hblk b h1)
 have hbel : BelowX B w0 w' := R.below.afterZ rfl hb R.size R.there (fun b hm => by
  rcases hMz b hm with rfl | ⟨k,_,e⟩
  ·exact (R.names _ _ hp).1
  ·exact (R.names _ _ e).1) fun b hv => hv.elim
 have hsame : ∀ b,b < w.heap.size → b ≠ p → (∀ k ∈ ids,nm (2 * k + 1) ≠ some b) → w'.heap[b]? = w.heap[b]? := fun b hlt h1 h2 => hb.block b hlt (fun hm => by
  rcases hMz b hm with e | ⟨k,hk,e⟩
  ·exact h1 e
  ·exact h2 k hk e) fun hv => hv.elim
 have hlenb : bs'.length = ids.length := by omega
 have hin : ∀ (j k : Nat),ids[j]? = some k → nmZ ids bs' nm (2 * k + 1) = (bs'[j]?).join := fun j k hj => by
  unfold nmZ
  rw [if_pos (by omega),show (2 * k + 1) / 2 = k by omega,C5m hnd hj]
 have hout : ∀ n,(∀ k ∈ ids,n ≠ 2 * k + 1) → nmZ ids bs' nm n = nm n := fun n hn => by
  unfold nmZ
  split
  ·split
   ·rename_i j hj
    have := hn _ (List.mem_of_getElem? (A4q hj))
    omega
   ·rfl
  ·rfl
 have hev : ∀ k,nmZ ids bs' nm (2 * k) = nm (2 * k) := fun k => hout _ fun j _ => by omega
 have hcas : ∀ n b,nmZ ids bs' nm n = some b → (∃ j k : Nat,ids[j]? = some k ∧ n = 2 * k + 1 ∧ bs'[j]? = some (some b)) ∨ ((∀ k ∈ ids,n ≠ 2 * k + 1) ∧ nm n = some b) := fun n b h => by
  by_cases hx : ∃ k ∈ ids,n = 2 * k + 1
  ·obtain ⟨k,hk,rfl⟩ := hx
   obtain ⟨j,hj⟩ := List.getElem?_of_mem hk
   rw [hin j k hj] at h
   refine .inl ⟨j,k,hj,rfl,?_⟩
   cases hbj : bs'[j]? with
   | none => rw [hbj] at h; cases h
   | some o => rw [hbj] at h; exact congrArg some h
  ·have hx : ∀ k ∈ ids,n ≠ 2 * k + 1 := fun k hk e => hx ⟨k,hk,e⟩
   exact .inr ⟨hx,(hout n hx) ▸ h⟩
 have hfree : ∀ b,some b ∈ bs' → ∀ n,(∀ k ∈ ids,n ≠ 2 * k + 1) → nm n ≠ some b := fun b hbm n hn e => by
  obtain ⟨g1,g2,g3⟩ := hnew b hbm
  rcases g2 with g2 | g2
  ·have := (R.names n b e).2; omega
  ·obtain ⟨k,hk,ek⟩ := hblk b g2
   exact hn k hk (R.inj _ _ _ e ek)
 have hview : ∀ b C,B1 A nm w b C → B1 A (nmZ ids bs' nm) w' b C := N5 fun b hlt hn => ⟨fun i e => by
  rcases hcas i b e with ⟨j,k,hj,rfl,hbj⟩ | ⟨_,e2⟩
  ·obtain ⟨_,g2,_⟩ := hnew b (List.mem_of_getElem? hbj)
   rcases g2 with g2 | g2
   ·omega
   ·obtain ⟨k2,_,ek⟩ := hblk b g2
    exact hn _ ek
  ·exact hn i e2,hsame b hlt (fun e => hn _ (e ▸ hp)) fun k _ => hn _⟩
 have hvz : ∀ b C,C4 (fun b fr => b ≠ p ∧ some b ∉ bs' ∧ ((w.heap.size ≤ b ∧ fr = (0,0)) ∨ ((∀ i,nm i ≠ some b) ∧ A b fr) ∨ (some b ∈ D5 nm ids ∧ fr = (0,0)))) w' b C → B1 A (nmZ ids bs' nm) w' b C := fun b C ⟨cc,tt,fr,⟨g1,g2,g3⟩,g4⟩ => by
  refine ⟨fun i e => ?_,cc,tt,fr,?_,g4⟩
  ·rcases hcas i b e with ⟨j,k,hj,rfl,hbj⟩ | ⟨h1,e2⟩
   ·exact g2 (List.mem_of_getElem? hbj)
   ·rcases g3 with g3 | g3 | g3
    ·have := (R.names i b e2).2; omega
    ·exact g3.1 i e2
    ·obtain ⟨k,hk,ek⟩ := hblk b g3.1
     exact h1 k hk (R.inj _ _ _ e2 ek)
  ·rcases g3 with ⟨g3,rfl⟩ | g3 | ⟨g3,rfl⟩
   ·exact R.all.all b (.inl (Nat.le_trans R.size g3))
   ·exact g3.2
   ·obtain ⟨k,hk,ek⟩ := hblk b g3
    exact R.all.all b (R.mine (by have := hsm k hk; unfold H2; omega) ek)
 have RK := R.killedAll ids
 have hrows : (σ.killAll ids).rows = σ.rows := A74 ids σ
 have hcell : ∀ c v,(σ.killAll ids).Uses c → CRel (cx A nm (σ.killAll ids) w) c v → CRel (cx A (nmZ ids bs' nm) (σ.behindZ id ids cs1 S1) w') c v := fun c v hu H => by
  have hno := (A8p ids hu).1
  refine H.move hview (fun k hk => .inr ?_) (fun k _ b hb2 => ?_)
  ·have hki : k ∉ ids := fun hm => by rw [hno k hm] at hk; cases hk
   refine ⟨?_,?_,fun b hbn => ?_⟩
   ·show A2 (A18 σ.rows ids S1) k = A2 (σ.killAll ids).rows k
    rw [A85 hki,hrows]
   ·exact hout _ fun j hj e => hki (by rw [show k = j by omega]; exact hj)
   ·refine hsame b (R.names _ b hbn).2 (fun e => ?_) fun j hj e => ?_
    ·subst e
     have := R.inj _ _ _ hbn hp
     omega
    ·have := R.inj _ _ _ hbn e
     exact hki (by rw [show k = j by omega]; exact hj)
  ·exact (hev k).trans hb2
 refine ⟨⟨hbel,Nat.le_trans R.size hb.size,R.all,R.good,fun i b hi => ?_,fun i j b hi hj => ?_,fun i hi => ?_,fun k => ?_,fun k cs hcs => ?_⟩,hvz⟩
 ·rcases hcas i b hi with ⟨j,k,hj,rfl,hbj⟩ | ⟨_,e2⟩
  ·obtain ⟨_,g2,g3⟩ := hnew b (List.mem_of_getElem? hbj)
   refine ⟨?_,g3⟩
   rcases g2 with g2 | g2
   ·exact .inl (Nat.le_trans R.size g2)
   ·obtain ⟨k2,_,ek⟩ := hblk b g2
    exact (R.names _ _ ek).1
  ·obtain ⟨h1,h2⟩ := R.names i b e2
   exact ⟨h1,Nat.lt_of_lt_of_le h2 hb.size⟩
 ·rcases hcas i b hi with ⟨x,k,hx,rfl,hbx⟩ | ⟨h1,e1⟩
  ·rcases hcas j b hj with ⟨y,k2,hy,rfl,hby⟩ | ⟨h2,e2⟩
   ·have := hinj x y b hbx hby
    subst this
    rw [hx] at hy
    cases hy
    rfl
   ·exact absurd e2 (hfree b (List.mem_of_getElem? hbx) j h2)
  ·rcases hcas j b hj with ⟨y,k2,hy,rfl,hby⟩ | ⟨h2,e2⟩
   ·exact absurd e1 (hfree b (List.mem_of_getElem? hby) i h1)
   ·exact R.inj i j b e1 e2
 ·refine (hout i fun k hk e => ?_).trans (R.pin i hi)
  have := hsm k hk
  unfold H2 at hi
  omega
 ·exact (RK.env k).to fun c v hc H => hcell c v (.inl ⟨k,hc⟩) H
 ·by_cases hk : k = id
  ·subst hk
   have e : cs = cs1.map (XC.zac ids) := by
    have := B6 (σ.killAll ids).bx k (cs1.map (XC.zac ids))
    exact Option.some.inj (hcs.symm.trans this)
   subst e
   obtain ⟨C,t,h1,h2⟩ := hh
   refine ⟨p,C,t,(hev k).trans hp,h1,B3v (X := cx A (nmZ ids bs' nm) (σ.behindZ k ids cs1 S1) w') hvz hl1 (fun j i r hj hr => B20 hnd hj hr) (fun j i o hj ho => ?_) h2⟩
   show nmZ ids bs' nm (2 * i + 1) = o
   rw [hin j i hj,ho]
   rfl
  ·have hcs' : A2 (put (σ.killAll ids).bx id (cs1.map (XC.zac ids))) k = some cs := hcs
   rw [C9 _ _ hk] at hcs'
   obtain ⟨b,C,t,h1,h2,h3⟩ := RK.bxs k cs hcs'
   have hne : b ≠ p := fun e => by
    subst e
    have := R.inj _ _ _ h1 hp
    omega
   refine ⟨b,C,t,(hev k).trans h1,(hsame b (R.names _ _ h1).2 hne fun j _ e => ?_).trans h2,h3.to fun c v hc H => hcell c v (.inr ⟨k,cs,hcs',hc⟩) H⟩
   have := R.inj _ _ _ h1 e
   omega
theorem FCz.callC {f : FuncId} {xs : List YV} {cs0 cs1 : List XC} {R0 S1 : RowL} {rs : List R1} (H : FCz P f xs cs0 R0 cs1 S1 rs) (hv : A7y rs = true) {id : Nat} {ids : List Nat} {avs : List AV} (hx : A03 id avs = some xs) (hb : A2 σ.bx id = some (cs0.map (XC.zac ids))) (hr : V3 σ.rows ids = some R0)
  (hnd : ids.Nodup) (hsm : ∀ i ∈ ids,i < 1099511627776) (hl : S1.length = ids.length) (hc0 : cs0.all (XC.inZ R0.length) = true) :
  A52 P f avs σ (σ.behindZ id ids cs1 S1) (I4 0 rs) := by
 intro A B w0 w nm tmps vs R hvs
 obtain ⟨p,C,t,h1,h2,h3⟩ := R.bxs id _ hb
 have h1' : nm (2 * id) = some p := h1
 obtain ⟨hlen,hat⟩ := A1q hr
 have hblk : ∀ b,some b ∈ D5 nm ids → ∃ k ∈ ids,nm (2 * k + 1) = some b := fun b h => by
  unfold D5 at h
  obtain ⟨k,h1,h2⟩ := List.mem_map.1 h
  exact ⟨k,h1,h2⟩
 refine (H w (fun b fr => (∀ i,nm i ≠ some b) ∧ A b fr) p vs (D5 nm ids) (by simp [D5,hlen]) (fun i j b hi hj => ?_) (fun b hbm => ?_) (fun w2 hb2 => R.good w2 (R.below.afterZ rfl hb2 R.size R.there (fun b hm => ?_) fun b hv => hv.elim)) (R.names _ _ h1').2 (fun _ h => h.1 _ h1')
  ⟨C,t,h2,by rw [A00]; exact A8s (fun _ _ h => h) hr hc0 h3⟩ (by rw [A00]; exact A5x h1' hvs hx)).mono fun e w' h => ?_
 ·simp only [D5,List.getElem?_map,Option.map_eq_some_iff] at hi hj
  obtain ⟨x,hx1,hx2⟩ := hi
  obtain ⟨y,hy1,hy2⟩ := hj
  have e := R.inj _ _ _ hx2 hy2
  have e : x = y := by omega
  subst e
  exact (List.getElem?_inj (List.getElem?_eq_some_iff.1 hx1).1 hnd).1 (hx1.trans hy1.symm)
 ·obtain ⟨k,hk,ek⟩ := hblk b hbm
  refine ⟨(R.names _ _ ek).2,fun _ h => h.1 _ ek,fun e => ?_⟩
  subst e
  have := R.inj _ _ _ ek h1'
  omega
 ·rcases hm with ⟨i,_,e⟩ | ⟨hm,_⟩
  ·obtain ⟨_,rfl⟩ := S8 e
   exact (R.names _ _ h1').1
  ·obtain ⟨k,hk,ek⟩ := hblk b hm
   exact (R.names _ _ ek).1
 ·obtain ⟨v,bs',rb,rfl,g0,g1,g2,g3,g4,g5⟩ := h
  obtain ⟨R',hvz⟩ := behindZ R h1' hnd hsm hl.symm g0 g1 g2 g3 g4
  exact ⟨v,_,rfl,R',B3i hv (g5.conv fun c _ => .inl hvz)⟩
end
def XC.z0 : XC → AC
 | .d x => .dat x
 | .r j => .own (32000000000 + j)
def B1h : Nat → RowL → Rows
 | _,[] => []
 | k,r :: R => (32000000000 + k,r) :: B1h (k + 1) R
def St.initZ (xs : List YV) (cs0 : List XC) (R0 : RowL) : St := ⟨A1t 0 xs,[(1099511627776,cs0.map XC.z0)],B1h 0 R0⟩
theorem B0t : ∀ (R : RowL) (k j : Nat),k ≤ j → A2 (B1h k R) (32000000000 + j) = R[j - k]?
 | [],k,j,_ => by simp [B1h,A2]
 | r :: R,k,j,h => by
  simp only [B1h,A2]
  by_cases hk : k = j
  ·subst hk; simp
  ·have h' : (32000000000 + k == 32000000000 + j) = false := by simpa using hk
   rw [h',cond_false,B0t R (k + 1) j (by omega),show j - k = (j - (k + 1)) + 1 by omega]; simp
def A4e (p : Nat) (bs : List (Option Nat)) : Names := fun i => if i = 2199023255552 then some p else if 64000000000 ≤ i ∧ i % 2 = 1 then (bs[(i - 64000000000) / 2]?).join else none
theorem A32 {p : Nat} {bs : List (Option Nat)} {i b : Nat} (h : A4e p bs i = some b) : (i = 2199023255552 ∧ p = b) ∨ ∃ j,i = 64000000000 + 2 * j + 1 ∧ bs[j]? = some (some b) := by
 unfold A4e at h
 split at h
 ·exact .inl ⟨by assumption,Option.some.inj h⟩
 ·split at h
  ·rename_i hc
   refine .inr ⟨(i - 64000000000) / 2,by omega,?_⟩
   cases hb : bs[(i - 64000000000) / 2]? with
   | none => simp [hb] at h
   | some o => simp [hb] at h; rw [h]
  ·cases h
theorem D1g {p : Nat} {bs : List (Option Nat)} {j : Nat} {o : Option Nat} (h : bs[j]? = some o) : A4e p bs (2 * (32000000000 + j) + 1) = o := by
 unfold A4e
 rw [if_neg (by omega),if_pos (by omega),show (2 * (32000000000 + j) + 1 - 64000000000) / 2 = j by omega,h]
 rfl
theorem C5r {X : Cx} {h : View} {bs : List (Option Nat)} {R : RowL} (hh : ∀ b C,h b C → X.h b C) (hr : ∀ (j : Nat) (r : Nat × List (List D)),R[j]? = some r → A2 X.rs (32000000000 + j) = some r) (hn : ∀ (j : Nat) (o : Option Nat),bs[j]? = some o → X.nm (2 * (32000000000 + j) + 1) = o)
  {c : XC} {v : Value} (H : ZCRel h X.w bs R c v) : CRel X c.z0 v := by
 cases H with
 | d H => exact .dat (H.mono hh)
 | @nil j sz a h1 h2 => exact .ownNil (hr j _ h1) (hn j _ h2)
 | @r j sz es b cap len h1 h2 h3 h4 => exact .own (hr j _ h1) (hn j _ h2) (A8t h3 hh) h4
theorem B3x {X : Cx} {h : View} {bs : List (Option Nat)} {R : RowL} (hh : ∀ b C,h b C → X.h b C) (hr : ∀ (j : Nat) (r : Nat × List (List D)),R[j]? = some r → A2 X.rs (32000000000 + j) = some r) (hn : ∀ (j : Nat) (o : Option Nat),bs[j]? = some o → X.nm (2 * (32000000000 + j) + 1) = o) :
  ∀ {cs : List XC} {vs : List Value},ZCRels h X.w bs R cs vs → CRels X (cs.map XC.z0) vs
 | _,_,.nil => .nil
 | _,_,.cons a b => .cons (C5r hh hr hn a) (B3x hh hr hn b)
theorem C2t {w : World} {A0 : Reg} {p : Nat} {xs : List YV} {cs0 : List XC} {R0 : RowL} {vs : List Value} {bs : List (Option Nat)} (nt : Nat) (hlb : bs.length ≤ 64) (hinj : ∀ (i j b : Nat),bs[i]? = some (some b) → bs[j]? = some (some b) → i = j) (hbs : ∀ b,some b ∈ bs → b < w.heap.size ∧ (∀ fr,¬ A0 b fr) ∧ b ≠ p)
  (hG : ∀ w2,BelowX w.heap.size (A7c w p bs) w2 → GoodW w2) (hp : p < w.heap.size) (hA : ∀ fr,¬ A0 p fr) (hh : A8r (C4 A0 w) w p bs R0 cs0) (h : YVRels (C4 A0 w) p xs vs) :
  Rel (.of fun b fr => (w.heap.size ≤ b ∧ fr = (0,0)) ∨ A0 b fr ∨ (some b ∈ bs ∧ fr = (0,0))) w.heap.size (A7c w p bs) (A4e p bs) (St.initZ xs cs0 R0) (vs.toArray ++ Array.replicate (nt - vs.toArray.size) undef) w := by
 have hv : ∀ b C,C4 A0 w b C → B1 (fun b fr => (w.heap.size ≤ b ∧ fr = (0,0)) ∨ A0 b fr ∨ (some b ∈ bs ∧ fr = (0,0))) (A4e p bs) w b C := fun b C ⟨cc,tt,fr,h0,h1⟩ => ⟨fun i e => by
  rcases A32 e with ⟨_,rfl⟩ | ⟨j,_,hj⟩
  ·exact hA _ h0
  ·exact (hbs b (List.mem_of_getElem? hj)).2.1 _ h0,cc,tt,fr,.inr (.inl h0),h1⟩
 have hnp : A4e p bs (2 * 1099511627776) = some p := if_pos rfl
 refine ⟨BelowX.start _ _ (fun _ h => h.elim),Nat.le_refl _,⟨fun b hb => hb.elim (fun h => .inl ⟨h,rfl⟩) fun h => .inr (.inr ⟨h.1,rfl⟩),fun _ _ h => h.elim,fun _ _ h => h.elim,fun _ _ h => h.elim,fun h => by cases h⟩,hG,fun i b hi => ?_,fun i j b hi hj => ?_,fun i hi => ?_,fun k => ?_,fun id cs hcs => ?_⟩
 ·rcases A32 hi with ⟨e,rfl⟩ | ⟨j,_,hj⟩
  ·exact ⟨.inr (.inl ⟨2199023255552,Nat.le_refl _,show npB p 2199023255552 = some p from if_pos rfl⟩),hp⟩
  ·have hm := List.mem_of_getElem? hj
   exact ⟨.inr (.inr ⟨hm,(hbs b hm).1⟩),(hbs b hm).1⟩
 ·rcases A32 hi with ⟨e,rfl⟩ | ⟨x,e1,hx⟩
  ·rcases A32 hj with ⟨e2,_⟩ | ⟨y,_,hy⟩
   ·omega
   ·exact absurd rfl (hbs _ (List.mem_of_getElem? hy)).2.2
  ·rcases A32 hj with ⟨e2,rfl⟩ | ⟨y,e2,hy⟩
   ·exact absurd rfl (hbs _ (List.mem_of_getElem? hx)).2.2
   ·have := hinj x y b hx hy
    omega
 ·show A4e p bs i = npB p i
  unfold A4e npB
  split
  ·rfl
  ·split
   ·have hi : 2199023255552 ≤ i := hi
    have : bs[(i - 64000000000) / 2]? = none := by rw [List.getElem?_eq_none_iff]; omega
    rw [this]
    rfl
   ·rfl
 ·unfold St.get
  rw [show (St.initZ xs cs0 R0).env = A1t 0 xs from rfl,A6v xs 0 k]
  simp only [Nat.zero_le,if_true,Nat.sub_zero]
  cases hd : xs[k]? with
  | none => exact .undef
  | some x =>
   have hk : k < vs.length := by rw [← h.len]; exact (List.getElem?_eq_some_iff.1 hd).1
   have hvk : vs[k]? = some (vs[k]'hk) := List.getElem?_eq_getElem hk
   have e : (vs.toArray ++ Array.replicate (nt - vs.toArray.size) undef).getD k undef = vs[k]'hk := by
    rw [Array.getD_eq_getD_getElem?,Array.getElem?_append_left (by simpa using hk)]
    simp [hk]
   rw [e]
   have hr := YVRels.get k h hd hvk
   revert hr
   generalize vs[k]'hk = z
   intro hr
   cases hr with
   | d hr => exact DVRel.vrel (X := cx (.of fun b fr => (w.heap.size ≤ b ∧ fr = (0,0)) ∨ A0 b fr ∨ (some b ∈ bs ∧ fr = (0,0))) (A4e p bs) (St.initZ xs cs0 R0) w) (hr.mono hv)
   | p => exact .v (.sc (.pb hnp))
 ·have hc : id = 1099511627776 ∧ cs = cs0.map XC.z0 := by
   have h' : A2 [(1099511627776,cs0.map XC.z0)] id = some cs := hcs
   simp only [A2] at h'
   by_cases h1 : 1099511627776 = id
   ·subst h1; simp at h'; exact ⟨rfl,h'.symm⟩
   ·have e1 : ((1099511627776 : Nat) == id) = false := by simpa using h1
    simp [e1] at h'
  obtain ⟨rfl,rfl⟩ := hc
  obtain ⟨C,t,h1,h2⟩ := hh
  exact ⟨p,C,t,hnp,h1,B3x (X := cx (.of fun b fr => (w.heap.size ≤ b ∧ fr = (0,0)) ∨ A0 b fr ∨ (some b ∈ bs ∧ fr = (0,0))) (A4e p bs) (St.initZ xs cs0 R0) w) hv (fun j r hj => (B0t R0 0 j (Nat.zero_le _)).trans hj) (fun j o hj => D1g hj) h2⟩
def B7f (ts : List RV) (rs : List R1) (cs1 : List XC) (S1 : RowL) (e : AExit) (σ : St) : Prop :=
 match e with
 | .exit _ => False
 | .pan _ => False
 | _ => OutVs σ ts rs ∧ ∃ ids : List Nat,ids.Nodup ∧ (∀ i ∈ ids,i < 1099511627776) ∧ A2 σ.bx 1099511627776 = some (cs1.map (XC.zac ids)) ∧ V3 σ.rows ids = some S1
section
variable {P : Program}
theorem D3q (hm : P.follows .mixedOrders = true) {f : FuncId} {c : ACode} {ts : List RV} {nt : Nat} {xs : List YV} {cs0 cs1 : List XC} {R0 S1 : RowL} {rs : List R1} (he : A9 P f = some (c.strip,ts,nt)) (hl : xs.length ≤ nt) (hl0 : R0.length ≤ 64) (hc1 : cs1.all (XC.inZ S1.length) = true) (h : AWP P c (B7f ts rs cs1 S1) (St.initZ xs cs0 R0)) : FCz P f xs cs0 R0 cs1 S1 rs := by
 unfold A9 at he
 split at he
 ·rename_i fn hf
  split at he
  ·rename_i C ts' hb hr
   simp only [Option.map_eq_some_iff] at he
   obtain ⟨c',hc,e⟩ := he
   cases e
   intro w A0 p vs bs hbl hinj hbs hG hp hA hh hvs
   refine calls_of_wp hf hb ?_
   have hlv := hvs.len
   refine wp_mono (Z0 (df := []) hm c C _ (A4e p bs) (St.initZ xs cs0 R0) _ w hc h (C2t fn.ntmps (by omega) hinj hbs hG hp hA hh hvs) (by simp; omega) rfl) fun e a w' hq => ?_
   obtain ⟨e',nm,σ,he,hq,R,hnt,hdf⟩ := hq
   have hnp : nm (2 * 1099511627776) = some p := (R.pin _ (by unfold H2; omega)).trans (show npB p (2 * 1099511627776) = some p from if_pos rfl)
   have key : (OutVs σ ts rs ∧ ∃ ids : List Nat,ids.Nodup ∧ (∀ i ∈ ids,i < 1099511627776) ∧ A2 σ.bx 1099511627776 = some (cs1.map (XC.zac ids)) ∧ V3 σ.rows ids = some S1) → a.defers = [] ∧ ∃ v,(results fn a.tmps).run P w' = .ok v w' ∧ ∃ (v' : Value) (bs' rb : List (Option Nat)),Ending.returned v = .returned v' ∧
     bs'.length = S1.length ∧ (∀ (i j b : Nat),bs'[i]? = some (some b) → bs'[j]? = some (some b) → i = j) ∧ (∀ b,some b ∈ bs' → b ≠ p ∧ (w.heap.size ≤ b ∨ some b ∈ bs) ∧ b < w'.heap.size) ∧ BelowX w.heap.size (A7c w p bs) w' ∧
     A8r (C4 (fun b fr => b ≠ p ∧ some b ∉ bs' ∧ ((w.heap.size ≤ b ∧ fr = (0,0)) ∨ A0 b fr ∨ (some b ∈ bs ∧ fr = (0,0)))) w') w' p bs' S1 cs1 ∧ RRel (C4 (fun b fr => b ≠ p ∧ some b ∉ bs' ∧ ((w.heap.size ≤ b ∧ fr = (0,0)) ∨ A0 b fr ∨ (some b ∈ bs ∧ fr = (0,0)))) w') w' rs v' rb := by
    rintro ⟨ho,ids,hnd,hsm,hbx,hro⟩
    have hview : ∀ b C,B1 (fun b fr => (w.heap.size ≤ b ∧ fr = (0,0)) ∨ A0 b fr ∨ (some b ∈ bs ∧ fr = (0,0))) nm w' b C → C4 (fun b fr => b ≠ p ∧ some b ∉ D5 nm ids ∧ ((w.heap.size ≤ b ∧ fr = (0,0)) ∨ A0 b fr ∨ (some b ∈ bs ∧ fr = (0,0)))) w' b C := fun b C ⟨g1,cc,tt,fr,g2,g3⟩ => ⟨cc,tt,fr,⟨fun e => g1 _ (e ▸ hnp),fun hm => by
     unfold D5 at hm
     obtain ⟨k,_,e⟩ := List.mem_map.1 hm
     exact g1 _ e,g2⟩,g3⟩
    obtain ⟨v,rb,hrun,hrel⟩ := A9q R hview hr ho
    obtain ⟨b,C,t,h1,h2,h3⟩ := R.bxs _ _ hbx
    have e : b = p := Option.some.inj (h1.symm.trans hnp)
    subst e
    obtain ⟨hlen,hat⟩ := A1q hro
    refine ⟨hdf,v,hrun,v,D5 nm ids,rb,rfl,by simp [D5,hlen],fun i j b2 hi hj => ?_,fun b2 hb2 => ?_,R.below,⟨C,t,h2,A8s hview hro hc1 h3⟩,hrel⟩
    ·simp only [D5,List.getElem?_map,Option.map_eq_some_iff] at hi hj
     obtain ⟨x,hx1,hx2⟩ := hi
     obtain ⟨y,hy1,hy2⟩ := hj
     have e := R.inj _ _ _ hx2 hy2
     have e : x = y := by omega
     subst e
     exact (List.getElem?_inj (List.getElem?_eq_some_iff.1 hx1).1 hnd).1 (hx1.trans hy1.symm)
    ·unfold D5 at hb2
     obtain ⟨k,hk,ek⟩ := List.mem_map.1 hb2
     have hks := hsm k hk
     refine ⟨fun e => ?_,(R.mine (by unfold H2; omega) ek).imp id fun h => h.1,(R.names _ _ ek).2⟩
     subst e
     have := R.inj _ _ _ ek hnp
     omega
   cases e' with
   | normal => obtain rfl : e = .normal := he; exact key hq
   | ret => obtain rfl : e = .ret := he; exact key hq
   | exit id => exact hq.elim
   | pan d => exact hq.elim
  ·cases he
 ·cases he
theorem D5a (hm : P.follows .mixedOrders = true) {f nt : Nat} {c : ACode} {ts : List RV} {xs : List YV} {cs0 cs1 : List XC} {R0 S1 : RowL} {rs : List R1} {σ : St} (he : A9 P f = some (c.strip,ts,nt)) (hl : Nat.ble xs.length nt = true) (hl0 : Nat.ble R0.length 64 = true) (hc1 : cs1.all (XC.inZ S1.length) = true) (hσ : St.initZ xs cs0 R0 = σ)
  (h : go P [.code c] (B7f ts rs cs1 S1) .normal (some σ)) : FCz P f xs cs0 R0 cs1 S1 rs := D3q hm he (Nat.le_of_ble_eq_true hl) (Nat.le_of_ble_eq_true hl0) hc1 (hσ ▸ A01 h)
theorem B6k {k : List Fr} {Q : AExit → St → Prop} {σ : St} {its : List AItem} {d f : Nat} {args : List Opd} {xs : List YV} {cs0 cs1 : List XC} {R0 S1 : RowL} {rs : List R1} (hf : FCz P f xs cs0 R0 cs1 S1 rs) (id : Nat) (ids : List Nat) (hv : A7y rs = true) (hx : A03 id (args.map σ.val) = some xs) (hb : A2 σ.bx id = some (cs0.map (XC.zac ids)))
  (hr : V3 σ.rows ids = some R0) (hnd : ids.Nodup) (hsm : ids.all (fun i => Nat.blt i 1099511627776) = true) (hl : S1.length = ids.length) (hc0 : cs0.all (XC.inZ R0.length) = true)
  (h : go P (.ops its :: k) Q .normal (some ((σ.behindZ id ids cs1 S1).set d (I4 0 rs)))) : go P (.ops ((none,.call d f args) :: its) :: k) Q .normal (some σ) :=
 A67 (hf.callC hv hx hb hr hnd (fun i hi => by simpa [Nat.blt_eq] using List.all_eq_true.1 hsm i hi) hl hc0) h
end
def rU (n : Int) : List D := [.int .u64 n]
theorem D7o (n : Int) : rU n = [.int .u64 n] := rfl
instance : Row rU 1 := ⟨fun _ => rfl,Nat.one_pos⟩
instance : FlatRow rU := ⟨fun _ d h => by rw [List.mem_singleton.1 h]; rfl⟩
instance : OfTy (.int .u64) rU := ⟨fun _ h => h⟩
def C1b (k : IntKind) (x y : Int) : Int := k.wrap (x * 2 ^ min y.toNat k.bits)
theorem D2l {k : IntKind} {x y : Int} : L3 .shl k x y = bif decide (y < 0) then none else some (.int k (C1b k x y)) := by
 by_cases h : y < 0 <;> simp [L3,C1b,h]
theorem D0i {k k' : IntKind} {x y : Int} : A26 .shl (.v (.sc (.dat (.int k x)))) (.v (.sc (.dat (.int k' y)))) = bif decide (y < 0) then none else some (.v (.sc (.dat (.int k (C1b k x y))))) := by
 by_cases h : y < 0 <;> simp [A26,L3,C1b,h]
theorem C05 {k : IntKind} {x y : Int} : L3 .andNot k x y = some (.int k (A0k .andNot k x y)) := rfl
theorem C1t {σ : St} {id : Nat} {ids : List Nat} {cs1 : List XC} {S : RowL} : σ.behindZ id ids cs1 S = ⟨(σ.killAll ids).env,put (σ.killAll ids).bx id (cs1.map (XC.zac ids)),A18 σ.rows ids S⟩ := rfl
theorem B8c {σ : St} : σ.killAll [] = σ := rfl
theorem B7o {σ : St} {id : Nat} {ids : List Nat} : σ.killAll (id :: ids) = (σ.map (AC.kill id)).killAll ids := rfl
theorem D80 {ids : List Nat} {x : D} : XC.zac ids (.d x) = .dat x := rfl
theorem D7m {i : Nat} {ids : List Nat} : XC.zac (i :: ids) (.r 0) = .own i := rfl
theorem D6p {i j : Nat} {ids : List Nat} : XC.zac (i :: j :: ids) (.r 1) = .own j := rfl
theorem E0f {i j k : Nat} {ids : List Nat} : XC.zac (i :: j :: k :: ids) (.r 2) = .own k := rfl
theorem E03 {i j k l : Nat} {ids : List Nat} : XC.zac (i :: j :: k :: l :: ids) (.r 3) = .own l := rfl
theorem C6x {ids : List Nat} : List.map (XC.zac ids) [] = [] := rfl
theorem C4p {ids : List Nat} {c : XC} {cs : List XC} : List.map (XC.zac ids) (c :: cs) = XC.zac ids c :: List.map (XC.zac ids) cs := rfl
abbrev mv (d s : Nat) : AItem := (none,.mv d (.t s))
abbrev ld (d s : Nat) : AItem := (none,.load d (.t s) false 1)
abbrev fa (d s o : Nat) : AItem := (none,.faddr d (.t s) o)
abbrev bn (d : Nat) (o : BinOp) (x y : Nat) : AItem := (none,.bin d o (.t x) (.t y))
def D3u := And.intro @C6x (And.intro @C4p (And.intro @D7o (And.intro @D2l (And.intro @D0i (And.intro @C05 (And.intro @C1t (And.intro @B8c (And.intro @B7o (And.intro @D80 (And.intro @D7m (And.intro @D6p (And.intro @E0f @E03))))))))))))
end Go.Vi
