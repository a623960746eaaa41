/-
  The value level: a call's results in the caller's state. No condition.
-/
import Derived.Test.YtlnbbhaclhpjjaaVi14
namespace Go.Vi

def putAll (rows : Rows) : Rows → Rows
  | [] => rows
  | (k, x) :: r => put (putAll rows r) k x
/-- The state behind a call. -/
def St.inst (σ : St) (d : Nat) (rs : List R1) : St := { (σ.set d (instAll d rs)) with rows := putAll σ.rows (rowsAll d rs) }

theorem find_rowsCells (rows : Rows) (g : Nat) : ∀ (cs : List RC) (j i sz : Nat) (es : List (List D)), cs[i]? = some (.o sz es) → find (putAll rows (rowsCells g j cs)) (g * 64 + (j + i)) = some (sz, es)
  | [], j, i, sz, es, h => by simp at h
  | c :: cs, j, 0, sz, es, h => by
    simp at h
    subst h
    simp only [rowsCells, putAll, Nat.add_zero]
    exact find_put_same _ _ _
  | c :: cs, j, i + 1, sz, es, h => by
    simp at h
    have ih := find_rowsCells rows g cs (j + 1) i sz es h
    rw [show j + 1 + i = j + (i + 1) by omega] at ih
    cases c with
    | v d => simpa [rowsCells] using ih
    | o sz' es' =>
      simp only [rowsCells, putAll]
      rw [find_put_ne _ _ (by omega)]
      exact ih
theorem find_rowsOther (rows : Rows) (g : Nat) : ∀ (cs : List RC) (j id : Nat), j + cs.length ≤ 64 → id / 64 ≠ g → find (putAll rows (rowsCells g j cs)) id = find rows id
  | [], j, id, _, _ => rfl
  | c :: cs, j, id, hl, hg => by
    simp at hl
    have ih := find_rowsOther rows g cs (j + 1) id (by omega) hg
    cases c with
    | v d => simpa [rowsCells] using ih
    | o sz' es' =>
      simp only [rowsCells, putAll]
      rw [find_put_ne _ _ (by omega)]
      exact ih

/-- What the caller's table and names say of the results' cells, from cell 'j' on. -/
def Told (X : Cx) (g j : Nat) (cs : List RC) (bs : List (Option Nat)) : Prop :=
  ∀ i, (∀ sz es, cs[i]? = some (.o sz es) → find X.rs (g * 64 + (j + i)) = some (sz, es)) ∧ (∀ b, bs[i]? = some b → X.nm (2 * (g * 64 + (j + i)) + 1) = b)

theorem Told.tail {X : Cx} {g j : Nat} {c : RC} {b : Option Nat} {cs : List RC} {bs : List (Option Nat)} (h : Told X g j (c :: cs) (b :: bs)) : Told X g (j + 1) cs bs := by
  intro i
  have := h (i + 1)
  rw [show j + (i + 1) = j + 1 + i by omega] at this
  simpa using this
theorem instCell_rel {X : Cx} {g j : Nat} {c : RC} {v : Value} {b : Option Nat} (h : RCRel X.h X.w c v b) (t1 : ∀ sz es, c = .o sz es → find X.rs (g * 64 + j) = some (sz, es)) (t2 : X.nm (2 * (g * 64 + j) + 1) = b) : CRel X (c.inst g j) v := by
  cases h with
  | v hd => exact .dat hd
  | nil => exact .ownNil (t1 _ _ rfl) t2
  | o own hl => exact .own (t1 _ _ rfl) t2 own hl
theorem instCells_rel {X : Cx} {g : Nat} : ∀ {cs : List RC} {vs : List Value} {bs : List (Option Nat)} {j : Nat}, RCRels X.h X.w cs vs bs → Told X g j cs bs → CRels X (instCells g j cs) vs
  | _, _, _, _, .nil, _ => .nil
  | _, _, _, j, .cons a b, t => .cons (instCell_rel a (fun sz es e => by have := (t 0).1 sz es (by simp [e]); simpa using this) (by have := (t 0).2 _ rfl; simpa using this)) (instCells_rel b t.tail)
theorem RCRels.len {h : View} {w : World} : ∀ {cs vs bs}, RCRels h w cs vs bs → cs.length = bs.length
  | _, _, _, .nil => rfl
  | _, _, _, .cons _ b => by simp [b.len]
theorem R1Rel.len {h : View} {w : World} {r : R1} {v : Value} {bs : List (Option Nat)} (H : R1Rel h w r v bs) : r.cells.length = bs.length := by
  cases H with
  | sc _ => rfl
  | ag a => exact a.len
theorem R1.width_eq (r : R1) : r.width = r.cells.length := by cases r <;> rfl
theorem inst1_rel {X : Cx} {g j : Nat} {r : R1} {v : Value} {bs : List (Option Nat)} (H : R1Rel X.h X.w r v bs) (t : Told X g j r.cells bs) : V1Rel X (r.inst g j) v := by
  cases H with
  | sc a => exact .sc (instCell_rel a (fun sz es e => by have := (t 0).1 sz es (by simp [R1.cells, e]); simpa using this) (by have := (t 0).2 _ rfl; simpa using this))
  | ag a => exact .ag (instCells_rel a t)
theorem Told.left {X : Cx} {g j : Nat} {cs cs' : List RC} {bs bs' : List (Option Nat)} (h : Told X g j (cs ++ cs') (bs ++ bs')) : Told X g j cs bs := by
  intro i
  refine ⟨fun sz es e => (h i).1 sz es ?_, fun b e => (h i).2 b ?_⟩
  · rw [List.getElem?_append_left (List.getElem?_eq_some_iff.1 e).1]; exact e
  · rw [List.getElem?_append_left (List.getElem?_eq_some_iff.1 e).1]; exact e
theorem Told.right {X : Cx} {g j : Nat} {cs cs' : List RC} {bs bs' : List (Option Nat)} (h : Told X g j (cs ++ cs') (bs ++ bs')) (hl : cs.length = bs.length) : Told X g (j + cs.length) cs' bs' := by
  intro i
  have := h (cs.length + i)
  rw [List.getElem?_append_right (by omega), List.getElem?_append_right (by omega)] at this
  rw [show cs.length + i - cs.length = i by omega, show cs.length + i - bs.length = i by omega, show j + (cs.length + i) = j + cs.length + i by omega] at this
  exact this
theorem instList_rel {X : Cx} {g : Nat} : ∀ {rs : List R1} {vs : List Value} {bs : List (Option Nat)} {j : Nat}, R1Rels X.h X.w rs vs bs → Told X g j (rs.flatMap R1.cells) bs → V1Rels X (instList g j rs) vs
  | _, _, _, _, .nil, _ => .nil
  | _, _, _, j, .cons a b, t => by
    simp only [List.flatMap_cons] at t
    refine .cons (inst1_rel a t.left) (instList_rel b ?_)
    rw [R1.width_eq]
    exact t.right a.len
theorem instAll_rel {X : Cx} {g : Nat} {rs : List R1} {v : Value} {bs : List (Option Nat)} (H : RRel X.h X.w rs v bs) (t : Told X g 0 (rs.flatMap R1.cells) bs) : VRel X (instAll g rs) v := by
  cases H with
  | one a => exact .v (inst1_rel a (by simpa using t))
  | many hl a =>
    have e : instAll g rs = .tup (instList g 0 rs) := by
      unfold instAll
      split
      · simp at hl
      · rfl
    rw [e]
    exact .tup (instList_rel a t)

/-- A relation of results, carried to another view. -/
theorem RCRel.conv {h h' : View} {w : World} {c : RC} {v : Value} {b : Option Nat} (H : RCRel h w c v b) (hc : (∀ b C, h b C → h' b C) ∨ c.flat) : RCRel h' w c v b := by
  cases H with
  | v hd =>
    rcases hc with hc | hc
    · exact .v (hd.mono hc)
    · exact .v (hd.flat hc)
  | nil => exact .nil
  | o own hl =>
    rcases hc with hc | hc
    · exact .o (own.move hc rfl) hl
    · obtain ⟨a1, a2, a3, C, t, a4, a5, a6⟩ := own
      exact .o ⟨a1, a2, a3, C, t, a4, a5, a6.flat hc⟩ hl
theorem RCRels.conv {h h' : View} {w : World} : ∀ {cs vs bs}, RCRels h w cs vs bs → (∀ c ∈ cs, (∀ b C, h b C → h' b C) ∨ c.flat) → RCRels h' w cs vs bs
  | _, _, _, .nil, _ => .nil
  | _, _, _, .cons a b, H => .cons (a.conv (H _ (by simp))) (b.conv fun c hc => H c (by simp [hc]))
theorem R1Rel.conv {h h' : View} {w : World} {r : R1} {v : Value} {bs : List (Option Nat)} (H : R1Rel h w r v bs) (hc : ∀ c ∈ r.cells, (∀ b C, h b C → h' b C) ∨ c.flat) : R1Rel h' w r v bs := by
  cases H with
  | sc a => exact .sc (a.conv (hc _ (by simp [R1.cells])))
  | ag a => exact .ag (a.conv hc)
theorem R1Rels.conv {h h' : View} {w : World} : ∀ {rs vs bs}, R1Rels h w rs vs bs → (∀ c ∈ rs.flatMap R1.cells, (∀ b C, h b C → h' b C) ∨ c.flat) → R1Rels h' w rs vs bs
  | _, _, _, .nil, _ => .nil
  | _, _, _, .cons a b, H => .cons (a.conv fun c hc => H c (by simp [hc])) (b.conv fun c hc => H c (by simp only [List.flatMap_cons, List.mem_append]; exact .inr hc))
theorem RRel.conv {h h' : View} {w : World} {rs : List R1} {v : Value} {bs : List (Option Nat)} (H : RRel h w rs v bs) (hc : ∀ c ∈ rs.flatMap R1.cells, (∀ b C, h b C → h' b C) ∨ c.flat) : RRel h' w rs v bs := by
  cases H with
  | one a => exact .one (a.conv fun c h1 => hc c (by simpa using h1))
  | many hl a => exact .many hl (a.conv hc)
theorem R1Rels.len {h : View} {w : World} : ∀ {rs vs bs}, R1Rels h w rs vs bs → (rs.flatMap R1.cells).length = bs.length
  | _, _, _, .nil => rfl
  | _, _, _, .cons a b => by
    have h1 := a.len
    have h2 := b.len
    simp only [List.flatMap_cons, List.length_append]
    omega
theorem RRel.len {h : View} {w : World} {rs : List R1} {v : Value} {bs : List (Option Nat)} (H : RRel h w rs v bs) : (rs.flatMap R1.cells).length = bs.length := by
  cases H with
  | one a => simpa using a.len
  | many _ a => exact a.len

section
variable {P : Program} {A : Nat → Prop} {B : Nat} {w0 w : World} {nm : Names} {σ : St} {a : Act}

/-- The caller behind the call. -/
theorem Rel.behind (R : Rel A B w0 nm σ a.tmps w) {d : Nat} {rs : List R1} {w' : World} {v : Value} {bs : List (Option Nat)} (hd : d < a.tmps.size) (hf : σ.fresh d = true) (h64 : (rs.flatMap R1.cells).length ≤ 64) {A' : Nat → Prop}
    (hA : (∀ b, A' b → (∀ i, nm i ≠ some b) ∧ A b) ∨ flatRs rs)
    (hb : RowKit.Below w.heap.size w w') (hr : RRel (viewIn (fun b => some b ∉ bs ∧ (w.heap.size ≤ b ∨ A' b)) w') w' rs v bs) (hn : ∀ b, some b ∈ bs → w.heap.size ≤ b ∧ b < w'.heap.size)
    (hdis : ∀ (i j b : Nat), bs[i]? = some (some b) → bs[j]? = some (some b) → i = j) : ∃ nm', Rel A B w0 nm' (σ.inst d rs) (a.put (some d) v).tmps w' := by
  let inst : Names := fun n => if n % 2 = 1 then (bs[(n / 2) % 64]?).join else none
  have hinst : ∀ n b, inst n = some b → n % 2 = 1 ∧ bs[(n / 2) % 64]? = some (some b) := by
    intro n b h
    simp only [inst] at h
    split at h
    · rename_i h1
      refine ⟨h1, ?_⟩
      cases hq : bs[(n / 2) % 64]? with
      | none => rw [hq] at h; cases h
      | some q => rw [hq] at h; simp at h; rw [h]
    · cases h
  have hl := hr.len
  have R1 := R.grow hf hb inst (putAll σ.rows (rowsAll d rs)) (fun n b _ h => hn b (List.mem_of_getElem? (hinst n b h).2)) (fun n m b h1 h2 h3 h4 => by
      obtain ⟨k1, k2⟩ := hinst n b h3
      obtain ⟨k3, k4⟩ := hinst m b h4
      have := hdis _ _ _ k2 k4
      unfold inG at h1 h2
      omega) (fun id hid => find_rowsOther _ _ _ _ _ (by omega) hid)
  have hview : ∀ b C, viewIn (fun b => some b ∉ bs ∧ (w.heap.size ≤ b ∨ ((∀ i, nm i ≠ some b) ∧ A b))) w' b C → viewOf A (nmG d inst nm) w' b C := by
    rintro b C ⟨⟨h1, h2⟩, h3⟩
    refine ⟨fun i => ?_, ?_, h3⟩
    · unfold nmG
      split
      · intro e; exact h1 (List.mem_of_getElem? (hinst i b e).2)
      · intro e
        rcases h2 with h2 | h2
        · have := R.names i b e; omega
        · exact h2.1 i e
    · rcases h2 with h2 | h2
      · exact R.all b (Nat.le_trans R.size h2)
      · exact h2.2
  have hr2 : RRel (viewOf A (nmG d inst nm) w') w' rs v bs := by
    refine hr.conv fun c hc => ?_
    rcases hA with hA | hA
    · left
      rintro b C ⟨⟨h1, h2⟩, h3⟩
      exact hview b C ⟨⟨h1, h2.imp id (hA b)⟩, h3⟩
    · exact .inr (hA c hc)
  have hv : VRel (cx A (nmG d inst nm) { σ with rows := putAll σ.rows (rowsAll d rs) } w') (instAll d rs) v := by
    refine instAll_rel hr2 fun i => ⟨fun sz es e => ?_, fun b e => ?_⟩
    · exact find_rowsCells _ _ _ _ _ _ _ e
    · have hi : i < 64 := by have := (List.getElem?_eq_some_iff.1 e).1; omega
      show nmG d inst nm (2 * (d * 64 + (0 + i)) + 1) = b
      unfold nmG
      rw [if_pos (.inr (by omega))]
      simp only [inst]
      rw [if_pos (by omega), show (2 * (d * 64 + (0 + i)) + 1) / 2 % 64 = i by omega, e]
      rfl
  exact ⟨_, R1.put hd hv⟩
end
end Go.Vi
