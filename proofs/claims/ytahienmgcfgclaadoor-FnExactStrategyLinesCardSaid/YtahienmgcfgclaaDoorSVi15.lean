/-
  The value level: a call's results in the caller's state. No condition.
-/
import Derived.Test.YtahienmgcfgclaaDoorSVi14
namespace Go.Vi
def putAll (rows : Rows) : Rows → Rows
 | [] => rows
 | (k,x) :: r => put (putAll rows r) k x
def St.inst (σ : St) (d : Nat) (rs : List R1) : St := { (σ.set d (instAll d rs)) with rows := putAll σ.rows (rowsAll d rs) }
theorem find_rowsCells (rows : Rows) (g : Nat) : ∀ (cs : List RC) (j i sz : Nat) (es : List (List D)),cs[i]? = some (.o sz es) → find (putAll rows (rowsCells g j cs)) (g * 64 + (j + i)) = some (sz,es)
 | [],j,i,sz,es,h => by simp at h
 | c :: cs,j,0,sz,es,h => by
  simp at h
  subst h
  simp only [rowsCells,putAll,Nat.add_zero]
  exact find_put_same _ _ _
 | c :: cs,j,i + 1,sz,es,h => by
  simp at h
  have ih := find_rowsCells rows g cs (j + 1) i sz es h
  rw [show j + 1 + i = j + (i + 1) by omega] at ih
  cases c with
  | v d => simpa [rowsCells] using ih
  | o sz' es' =>
   simp only [rowsCells,putAll]
   rw [find_put_ne _ _ (by omega)]
   exact ih
theorem find_rowsOther (rows : Rows) (g : Nat) : ∀ (cs : List RC) (j id : Nat),j + cs.length ≤ 64 → id / 64 ≠ g → find (putAll rows (rowsCells g j cs)) id = find rows id
 | [],j,id,_,_ => rfl
 | c :: cs,j,id,hl,hg => by
  simp at hl
  have ih := find_rowsOther rows g cs (j + 1) id (by omega) hg
  cases c with
  | v d => simpa [rowsCells] using ih
  | o sz' es' =>
   simp only [rowsCells,putAll]
   rw [find_put_ne _ _ (by omega)]
   exact ih
def Told (X : Cx) (g j : Nat) (cs : List RC) (bs : List (Option Nat)) : Prop :=
 ∀ i,(∀ sz es,cs[i]? = some (.o sz es) → find X.rs (g * 64 + (j + i)) = some (sz,es)) ∧ (∀ b,bs[i]? = some b → X.nm (2 * (g * 64 + (j + i)) + 1) = b)
theorem Told.tail {X : Cx} {g j : Nat} {c : RC} {b : Option Nat} {cs : List RC} {bs : List (Option Nat)} (h : Told X g j (c :: cs) (b :: bs)) : Told X g (j + 1) cs bs := by
 intro i
 have := h (i + 1)
 rw [show j + (i + 1) = j + 1 + i by omega] at this
 simpa using this
theorem instCell_rel {X : Cx} {g j : Nat} {c : RC} {v : Value} {b : Option Nat} (h : RCRel X.h X.w c v b) (t1 : ∀ sz es,c = .o sz es → find X.rs (g * 64 + j) = some (sz,es)) (t2 : X.nm (2 * (g * 64 + j) + 1) = b) : CRel X (c.inst g j) v := by
 cases h with
 | v hd => exact .dat hd
 | nil => exact .ownNil (t1 _ _ rfl) t2
 | o own hl => exact .own (t1 _ _ rfl) t2 own hl
theorem instCells_rel {X : Cx} {g : Nat} : ∀ {cs : List RC} {vs : List Value} {bs : List (Option Nat)} {j : Nat},RCRels X.h X.w cs vs bs → Told X g j cs bs → CRels X (instCells g j cs) vs
 | _,_,_,_,.nil,_ => .nil
 | _,_,_,j,.cons a b,t => .cons (instCell_rel a (fun sz es e => by have := (t 0).1 sz es (by simp [e]); simpa using this) (by have := (t 0).2 _ rfl; simpa using this)) (instCells_rel b t.tail)
theorem RCRels.len {h : View} {w : World} : ∀ {cs vs bs},RCRels h w cs vs bs → cs.length = bs.length
 | _,_,_,.nil => rfl
 | _,_,_,.cons _ b => by simp [b.len]
theorem R1Rel.len {h : View} {w : World} {r : R1} {v : Value} {bs : List (Option Nat)} (H : R1Rel h w r v bs) : r.cells.length = bs.length := by
 cases H with
 | sc _ => rfl
 | ag a => exact a.len
theorem R1.width_eq (r : R1) : r.width = r.cells.length := by cases r <;> rfl
theorem inst1_rel {X : Cx} {g j : Nat} {r : R1} {v : Value} {bs : List (Option Nat)} (H : R1Rel X.h X.w r v bs) (t : Told X g j r.cells bs) : V1Rel X (r.inst g j) v := by
 cases H with
 | sc a => exact .sc (instCell_rel a (fun sz es e => by have := (t 0).1 sz es (by simp [R1.cells,e]); simpa using this) (by have := (t 0).2 _ rfl; simpa using this))
 | ag a => exact .ag (instCells_rel a t)
theorem Told.left {X : Cx} {g j : Nat} {cs cs' : List RC} {bs bs' : List (Option Nat)} (h : Told X g j (cs ++ cs') (bs ++ bs')) : Told X g j cs bs := by
 intro i
 refine ⟨fun sz es e => (h i).1 sz es ?_,fun b e => (h i).2 b ?_⟩
 ·rw [List.getElem?_append_left (List.getElem?_eq_some_iff.1 e).1]; exact e
 ·rw [List.getElem?_append_left (List.getElem?_eq_some_iff.1 e).1]; exact e
theorem Told.right {X : Cx} {g j : Nat} {cs cs' : List RC} {bs bs' : List (Option Nat)} (h : Told X g j (cs ++ cs') (bs ++ bs')) (hl : cs.length = bs.length) : Told X g (j + cs.length) cs' bs' := by
 intro i
 have := h (cs.length + i)
 rw [List.getElem?_append_right (by omega),List.getElem?_append_right (by omega)] at this
 rw [show cs.length + i - cs.length = i by omega,show cs.length + i - bs.length = i by omega,show j + (cs.length + i) = j + cs.length + i by omega] at this
 exact this
theorem instList_rel {X : Cx} {g : Nat} : ∀ {rs : List R1} {vs : List Value} {bs : List (Option Nat)} {j : Nat},R1Rels X.h X.w rs vs bs → Told X g j (rs.flatMap R1.cells) bs → V1Rels X (instList g j rs) vs
 | _,_,_,_,.nil,_ => .nil
 | _,_,_,j,.cons a b,t => by
  simp only [List.flatMap_cons] at t
  refine .cons (inst1_rel a t.left) (instList_rel b ?_)
  rw [R1.width_eq]
  exact t.right a.len
theorem instAll_rel {X : Cx} {g : Nat} {rs : List R1} {v : Value} {bs : List (Option Nat)} (H : RRel X.h X.w rs v bs) (t : Told X g 0 (rs.flatMap R1.cells) bs) : VRel X (instAll g rs) v := by
 cases H with
 | one a => exact .v (inst1_rel a (by simpa using t))
 | many hl a =>
  have e : instAll g rs = .tup (instList g 0 rs) := by
   unfold instAll
   split
   ·simp at hl
   ·rfl
  rw [e]
  exact .tup (instList_rel a t)
theorem RCRel.conv {h h' : View} {w : World} {c : RC} {v : Value} {b : Option Nat} (H : RCRel h w c v b) (hc : (∀ b C,h b C → h' b C) ∨ c.flat) : RCRel h' w c v b := by
 cases H with
 | v hd =>
  rcases hc with hc | hc
  ·exact .v (hd.mono hc)
  ·exact .v (hd.flat hc)
 | nil => exact .nil
 | o own hl =>
  rcases hc with hc | hc
  ·exact .o (own.move hc rfl) hl
  ·obtain ⟨a1,a2,a3,C,t,a4,a5,a6⟩ := own
   exact .o ⟨a1,a2,a3,C,t,a4,a5,a6.flat hc⟩ hl
theorem RCRels.conv {h h' : View} {w : World} : ∀ {cs vs bs},RCRels h w cs vs bs → (∀ c ∈ cs,(∀ b C,h b C → h' b C) ∨ c.flat) → RCRels h' w cs vs bs
 | _,_,_,.nil,_ => .nil
 | _,_,_,.cons a b,H => .cons (a.conv (H _ (by simp))) (b.conv fun c hc => H c (by simp [hc]))
theorem R1Rel.conv {h h' : View} {w : World} {r : R1} {v : Value} {bs : List (Option Nat)} (H : R1Rel h w r v bs) (hc : ∀ c ∈ r.cells,(∀ b C,h b C → h' b C) ∨ c.flat) : R1Rel h' w r v bs := by
 cases H with
 | sc a => exact .sc (a.conv (hc _ (by simp [R1.cells])))
 | ag a => exact .ag (a.conv hc)
theorem R1Rels.conv {h h' : View} {w : World} : ∀ {rs vs bs},R1Rels h w rs vs bs → (∀ c ∈ rs.flatMap R1.cells,(∀ b C,h b C → h' b C) ∨ c.flat) → R1Rels h' w rs vs bs
 | _,_,_,.nil,_ => .nil
 | _,_,_,.cons a b,H => .cons (a.conv fun c hc => H c (by simp [hc])) (b.conv fun c hc => H c (by simp only [List.flatMap_cons,List.mem_append]; exact .inr hc))
theorem RRel.conv {h h' : View} {w : World} {rs : List R1} {v : Value} {bs : List (Option Nat)} (H : RRel h w rs v bs) (hc : ∀ c ∈ rs.flatMap R1.cells,(∀ b C,h b C → h' b C) ∨ c.flat) : RRel h' w rs v bs := by
 cases H with
 | one a => exact .one (a.conv fun c h1 => hc c (by simpa using h1))
 | many hl a => exact .many hl (a.conv hc)
theorem R1Rels.len {h : View} {w : World} : ∀ {rs vs bs},R1Rels h w rs vs bs → (rs.flatMap R1.cells).length = bs.length
 | _,_,_,.nil => rfl
 | _,_,_,.cons a b => by
  have h1 := a.len
  have h2 := b.len
  simp only [List.flatMap_cons,List.length_append]
  omega
theorem RRel.len {h : View} {w : World} {rs : List R1} {v : Value} {bs : List (Option Nat)} (H : RRel h w rs v bs) : (rs.flatMap R1.cells).length = bs.length := by
 cases H with
 | one a => simpa using a.len
 | many _ a => exact a.len
section
variable {P : Program} {A : Ar} {B : Nat} {w0 : Base} {w : World} {nm : Names} {σ : St} {a : Act}
theorem Rel.behind (R : Rel A B w0 nm σ a.tmps w) {d : Nat} {rs : List R1} {w' : World} {v : Value} {bs : List (Option Nat)} (hd : d < a.tmps.size) (hf : σ.fresh d = true) (h64 : (rs.flatMap R1.cells).length ≤ 64) {A' : Reg}
  (hA : (∀ b fr,A' b fr → (∀ i,nm i ≠ some b) ∧ A b fr) ∨ flatRs rs)
  (hb : RowKit.Below w.heap.size w w') (hr : RRel (viewIn (fun b fr => some b ∉ bs ∧ ((w.heap.size ≤ b ∧ fr = (0,0)) ∨ A' b fr)) w') w' rs v bs) (hn : ∀ b,some b ∈ bs → w.heap.size ≤ b ∧ b < w'.heap.size)
  (hdis : ∀ (i j b : Nat),bs[i]? = some (some b) → bs[j]? = some (some b) → i = j) : ∃ nm',Rel A B w0 nm' (σ.inst d rs) (a.put (some d) v).tmps w' := by
 let inst : Names := fun n => if n % 2 = 1 then (bs[(n / 2) % 64]?).join else none
 have hinst : ∀ n b,inst n = some b → n % 2 = 1 ∧ bs[(n / 2) % 64]? = some (some b) := by
  intro n b h
  simp only [inst] at h
  split at h
  ·rename_i h1
   refine ⟨h1,?_⟩
   cases hq : bs[(n / 2) % 64]? with
   | none => rw [hq] at h; cases h
   | some q => rw [hq] at h; simp at h; rw [h]
  ·cases h
 have hl := hr.len
 have R1 := R.grow hf hb inst (putAll σ.rows (rowsAll d rs)) (fun n b _ h => hn b (List.mem_of_getElem? (hinst n b h).2)) (fun n m b h1 h2 h3 h4 => by
   obtain ⟨k1,k2⟩ := hinst n b h3
   obtain ⟨k3,k4⟩ := hinst m b h4
   have := hdis _ _ _ k2 k4
   unfold inG at h1 h2
   omega) (fun id hid => find_rowsOther _ _ _ _ _ (by omega) hid)
 have hview : ∀ b C,viewIn (fun b fr => some b ∉ bs ∧ ((w.heap.size ≤ b ∧ fr = (0,0)) ∨ ((∀ i,nm i ≠ some b) ∧ A b fr))) w' b C → viewOf A (nmG d inst nm) w' b C := by
  rintro b C ⟨cc,tt,fr,⟨h1,h2⟩,h3⟩
  refine ⟨fun i => ?_,cc,tt,fr,?_,h3⟩
  ·unfold nmG
   split
   ·intro e; exact h1 (List.mem_of_getElem? (hinst i b e).2)
   ·intro e
    rcases h2 with h2 | h2
    ·have := R.names i b e; omega
    ·exact h2.1 i e
  ·rcases h2 with h2 | h2
   ·obtain ⟨h2,rfl⟩ := h2
    exact R.all.all b (.inl (Nat.le_trans R.size h2))
   ·exact h2.2
 have hr2 : RRel (viewOf A (nmG d inst nm) w') w' rs v bs := by
  refine hr.conv fun c hc => ?_
  rcases hA with hA | hA
  ·left
   rintro b C ⟨cc,tt,fr,⟨h1,h2⟩,h3⟩
   exact hview b C ⟨cc,tt,fr,⟨h1,h2.imp id (hA b fr)⟩,h3⟩
  ·exact .inr (hA c hc)
 have hv : VRel (cx A (nmG d inst nm) { σ with rows := putAll σ.rows (rowsAll d rs) } w') (instAll d rs) v := by
  refine instAll_rel hr2 fun i => ⟨fun sz es e => ?_,fun b e => ?_⟩
  ·exact find_rowsCells _ _ _ _ _ _ _ e
  ·have hi : i < 64 := by have := (List.getElem?_eq_some_iff.1 e).1; omega
   show nmG d inst nm (2 * (d * 64 + (0 + i)) + 1) = b
   unfold nmG
   rw [if_pos (.inr (by omega))]
   simp only [inst]
   rw [if_pos (by omega),show (2 * (d * 64 + (0 + i)) + 1) / 2 % 64 = i by omega,e]
   rfl
 exact ⟨_,R1.put hd hv⟩
end
section
variable {A : Ar} {B : Nat} {w0 : Base} {w : World} {nm : Names} {σ : St} {a : Act}
theorem flatOwn {h h' : View} {w : World} {b sz cap : Nat} {es : List (List D)} (H : OwnB h w b sz cap es) (hf : ∀ e ∈ es,∀ d ∈ e,d.flat = true) : OwnB h' w b sz cap es := by
 obtain ⟨h1,h2,h3,C,t,h4,h5,h6⟩ := H
 exact ⟨h1,h2,h3,C,t,h4,h5,h6.flat hf⟩
theorem noView_mono {h : View} : ∀ b C,noView b C → h b C := fun _ _ h => h.elim
theorem OwnB.any {h : View} {w : World} {b sz cap : Nat} {es : List (List D)} (H : OwnB noView w b sz cap es) : OwnB h w b sz cap es := by
 obtain ⟨h1,h2,h3,C,t,h4,h5,h6⟩ := H
 exact ⟨h1,h2,h3,C,t,h4,h5,h6.mono noView_mono⟩
def blksOf (nm : Names) (ids : List Nat) : List (Option Nat) := ids.map fun id => nm (2 * id + 1)
theorem toXC_rel {ids : List Nat} {R0 : RowL} {c : AC} {v : Value} {x : XC} (H : CRel (cx A nm σ w) c v) (hr : rowsAt σ.rows ids = some R0) (hf : flatRow R0) (hx : toXC ids c = some x) : XCRel w (blksOf nm ids) R0 x v := by
 cases c with
 | dat d =>
  simp only [toXC] at hx
  cases hd : d.flat with
  | false => simp [hd] at hx
  | true =>
   simp only [hd,cond_true,Option.some.injEq] at hx
   subst hx
   cases H with | dat H =>
   exact .d (H.flat hd)
 | own id =>
  simp only [toXC,Option.map_eq_some_iff] at hx
  obtain ⟨j,hj,rfl⟩ := hx
  have hid := posOf_spec hj
  obtain ⟨hl,hat⟩ := rowsAt_at hr
  have hb : (blksOf nm ids)[j]? = some (nm (2 * id + 1)) := by simp [blksOf,hid]
  have hR : R0[j]? = find σ.rows id := by rw [hat j,hid]; rfl
  cases hfd : find σ.rows id with
  | none =>
   rw [hfd] at hR
   have : j < ids.length := (List.getElem?_eq_some_iff.1 hid).1
   rw [List.getElem?_eq_none_iff] at hR
   omega
  | some p =>
   obtain ⟨sz,es⟩ := p
   rw [hfd] at hR
   rcases H.inv_own hfd with ⟨rfl,k1,a0,rfl⟩ | ⟨b,cap,k1,k2,rfl⟩
   ·exact .nil hR (by rw [hb]; exact congrArg some k1)
   ·exact .r hR (by rw [hb]; exact congrArg some k1) (flatOwn k2 fun e he d hd => hf _ (List.mem_of_getElem? hR) e he d hd) rfl
 | _ => simp [toXC] at hx
theorem toXCs_rel {ids : List Nat} {R0 : RowL} (hr : rowsAt σ.rows ids = some R0) (hf : flatRow R0) : ∀ {cs : List AC} {vs : List Value} {xs : List XC},CRels (cx A nm σ w) cs vs → toXCs ids cs = some xs → XCRels w (blksOf nm ids) R0 xs vs
 | [],_,xs,.nil,hx => by simp [toXCs] at hx; subst hx; exact .nil
 | c :: cs,_,xs,.cons H Hs,hx => by
  unfold toXCs at hx
  split at hx
  ·rename_i x xs' h1 h2
   cases hx
   exact .cons (toXC_rel H hr hf h1) (toXCs_rel hr hf Hs h2)
  ·cases hx
theorem toXV_rel {ids : List Nat} {R0 : RowL} {av : AV} {v : Value} {x : XV} (hr : rowsAt σ.rows ids = some R0) (hf : flatRow R0) (H : VRel (cx A nm σ w) av v) (hx : toXV ids av = some x) : XVRel w (blksOf nm ids) R0 x v := by
 unfold toXV at hx
 split at hx
 ·simp only [Option.map_eq_some_iff] at hx
  obtain ⟨c,h1,rfl⟩ := hx
  exact .sc (toXC_rel H.inv_sc hr hf h1)
 ·simp only [Option.map_eq_some_iff] at hx
  obtain ⟨cs,h1,rfl⟩ := hx
  obtain ⟨vs,rfl,hcs⟩ := H.inv_ag
  exact .ag (toXCs_rel hr hf hcs h1)
 ·cases hx
theorem toXVs_rel {ids : List Nat} {R0 : RowL} (R : Rel A B w0 nm σ a.tmps w) (hr : rowsAt σ.rows ids = some R0) (hf : flatRow R0) : ∀ {xs : List Operand} {ys : List Opd} {ds : List XV},opdsC xs = some ys → σ.toXVs ids ys = some ds → XVRels w (blksOf nm ids) R0 ds (xs.map a.eval)
 | [],ys,ds,hy,hd => by simp [opdsC] at hy; subst hy; simp [St.toXVs] at hd; subst hd; exact .nil
 | x :: xs,ys,ds,hy,hd => by
  simp only [opdsC] at hy
  split at hy
  ·rename_i y ys' h1 h2
   cases hy
   simp only [St.toXVs] at hd
   split at hd
   ·rename_i d ds' h3 h4
    cases hd
    exact .cons (toXV_rel hr hf (opd_rel R h1) h3) (toXVs_rel R hr hf h2 h4)
   ·cases hd
  ·cases hy
theorem Rel.behindX (R : Rel A B w0 nm σ a.tmps w) {d : Nat} {ids : List Nat} {R0 R1 : RowL} {r : D} {w' : World} {v : Value} (hd : d < a.tmps.size) (hnd : ids.Nodup) (hr : rowsAt σ.rows ids = some R0) (hl : sameLen R0 R1 = true)
  (hb : BelowX w.heap.size (.of w (npOf (blksOf nm ids))) w') (hv : Rep noView r v) (hrow : ∀ (j b : Nat),(blksOf nm ids)[j]? = some (some b) → ∃ sz es cap,R1[j]? = some (sz,es) ∧ OwnB noView w' b sz cap es) :
  Rel A B w0 nm (σ.instX d ids R1 r) (a.put (some d) v).tmps w' := by
 obtain ⟨hlen,hat⟩ := rowsAt_at hr
 have hnp : ∀ i b,npOf (blksOf nm ids) i = some b → ∃ (j id : Nat),ids[j]? = some id ∧ nm (2 * id + 1) = some b := by
  intro i b h
  obtain ⟨j,_,h2⟩ := npOf_some h
  simp only [blksOf,List.getElem?_map,Option.map_eq_some_iff] at h2
  obtain ⟨id,h3,h4⟩ := h2
  exact ⟨j,id,h3,h4⟩
 have hM : ∀ b,Base.M (.of w (npOf (blksOf nm ids))) b → ∃ (j id : Nat),ids[j]? = some id ∧ nm (2 * id + 1) = some b := fun b hmm => by
  obtain ⟨i,_,e⟩ := Base.of_M hmm
  exact hnp i b e
 have hbel : BelowX B w0 w' := R.below.after hb R.size R.there fun i b e => by
  obtain ⟨j,id,_,h⟩ := hnp i b e
  exact (R.names _ _ h).1
 have hsame : ∀ b,b < w.heap.size → (∀ id ∈ ids,nm (2 * id + 1) ≠ some b) → w'.heap[b]? = w.heap[b]? := fun b hlt h => hb.block b hlt (fun hm => by
  obtain ⟨j,id,h1,h2⟩ := hM b hm
  exact h id (List.mem_of_getElem? h1) h2) fun hv => hv.elim
 have hview : ∀ b C,viewOf A nm w b C → viewOf A nm w' b C := view_mono fun b hlt hn => ⟨hn,hsame b hlt fun id _ => hn _⟩
 have hcell : ∀ (σ' : St) c v,σ'.rows = putX σ.rows ids R1 → CRel (cx A nm σ w) c v → CRel (cx A nm σ' w') c v := by
  intro σ' c v hrs H
  by_cases hc : ∃ id ∈ ids,c.has id = true
  ·obtain ⟨id,hid,hc⟩ := hc
   obtain ⟨j,hj⟩ := List.getElem?_of_mem hid
   have hR : R0[j]? = find σ.rows id := by rw [hat j,hj]; rfl
   have hjl : j < R0.length := by rw [hlen]; exact (List.getElem?_eq_some_iff.1 hj).1
   obtain ⟨sz,es⟩ : Nat × List (List D) := R0[j]
   have hR0 : R0[j]? = some R0[j] := List.getElem?_eq_getElem hjl
   obtain ⟨sz,es,hse⟩ : ∃ sz es,R0[j] = (sz,es) := ⟨_,_,rfl⟩
   rw [hse] at hR0
   obtain ⟨es',h1,h2⟩ := sameLen_at hl hR0
   have hx : find (cx A nm σ w).rs id = some (sz,es) := hR.symm.trans hR0
   have hy : find (cx A nm σ' w').rs id = some (sz,es') := by
    show find σ'.rows id = _
    rw [hrs]
    exact putX_at hnd hj h1
   refine H.turn hc hx hy h2 rfl fun b cap hn own => ?_
   have hbl : (blksOf nm ids)[j]? = some (some b) := by
    have hn' : nm (2 * id + 1) = some b := hn
    simp [blksOf,hj,hn']
   obtain ⟨sz',es'',cap',h3,h4⟩ := hrow j b hbl
   rw [h1] at h3
   cases h3
   obtain ⟨k1,k2,k3,C',t',k4,k5,k6⟩ := h4
   obtain ⟨q1,q2,q3,C,t,q4,q5,q6⟩ := own
   have hm : Base.M (.of w (npOf (blksOf nm ids))) b := .inl ⟨pinI + 2 * j + 1,by omega,npOf_at hbl⟩
   obtain ⟨C2,e1,e2⟩ := hb.room b hm C t (0,0) q4
   rw [k4] at e1
   cases e1
   have : cap' * sz = cap * sz := by rw [← k5,← q5,e2]
   have hcap : cap' = cap := Nat.eq_of_mul_eq_mul_right k1 this
   subst hcap
   exact ⟨k1,k2,k3,C',t',k4,k5,k6.mono noView_mono⟩
  ·have hno : ∀ id,c.has id = true → id ∉ ids := fun id h1 h2 => hc ⟨id,h2,h1⟩
   refine H.move hview (fun id hid => .inr ⟨?_,rfl,fun b hbn => ?_⟩) (fun id _ b hb2 => hb2)
   ·show find σ'.rows id = find σ.rows id
    rw [hrs,putX_ne (hno id hid)]
   ·refine hsame b (R.names _ _ hbn).2 fun id' hid' e => hno id hid ?_
    have := R.inj _ _ _ hbn e
    have e3 : id = id' := by omega
    exact e3 ▸ hid'
 have R1' : Rel A B w0 nm { σ with rows := putX σ.rows ids R1 } a.tmps w' := by
  refine ⟨hbel,Nat.le_trans R.size hb.size,R.all,R.good,fun i b hi => ?_,R.inj,R.pin,fun k => (R.env k).to fun c v _ => hcell _ c v rfl,fun id cs hcs => ?_⟩
  ·obtain ⟨h1,h2⟩ := R.names i b hi
   exact ⟨h1,Nat.lt_of_lt_of_le h2 hb.size⟩
  ·obtain ⟨b,C,t,h1,h2,h3⟩ := R.bxs id cs hcs
   refine ⟨b,C,t,h1,?_,h3.to fun c v _ => hcell _ c v rfl⟩
   refine (hsame b (R.names _ _ h1).2 fun id' _ e => ?_).trans h2
   have := R.inj _ _ _ h1 e
   omega
 exact R1'.put hd (.v (.sc (.dat (hv.mono noView_mono))))
end
end Go.Vi
