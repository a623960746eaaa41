/-
  The value level: contracts of functions, and calls by contract. No condition.
-/
import Derived.Test.YtlnbbhaclhpjjaaVi13
namespace Go.Vi

/-- The view of the rows of cells in blocks of A. -/
def viewIn (A : Nat → Prop) (w : World) : View := fun b C => A b ∧ ∃ c t fr, w.heap[b]? = some (.cells c t fr) ∧ c.toList = C

inductive DVRel (h : View) : DV → Value → Prop
  | sc {d v} : Rep h d v → DVRel h (.sc d) v
  | ag {ds vs} : Reps h ds vs → ds.length = vs.length → DVRel h (.ag ds) (.agg vs.toArray)
inductive DVRels (h : View) : List DV → List Value → Prop
  | nil : DVRels h [] []
  | cons {d v ds vs} : DVRel h d v → DVRels h ds vs → DVRels h (d :: ds) (v :: vs)

/-- A result's cell; a slice that is handed over lies in a block of its own, which is told. -/
inductive RCRel (h : View) (w : World) : RC → Value → Option Nat → Prop
  | v {d v} : Rep h d v → RCRel h w (.v d) v none
  | nil {sz} : RCRel h w (.o sz []) (.slice none 0 0) none
  | o {sz es b cap len} : OwnB h w b sz cap es → len = es.length → RCRel h w (.o sz es) (.slice (some ⟨b, 0, none⟩) len cap) (some b)
inductive RCRels (h : View) (w : World) : List RC → List Value → List (Option Nat) → Prop
  | nil : RCRels h w [] [] []
  | cons {c v b cs vs bs} : RCRel h w c v b → RCRels h w cs vs bs → RCRels h w (c :: cs) (v :: vs) (b :: bs)
inductive R1Rel (h : View) (w : World) : R1 → Value → List (Option Nat) → Prop
  | sc {c v b} : RCRel h w c v b → R1Rel h w (.sc c) v [b]
  | ag {cs vs bs} : RCRels h w cs vs bs → R1Rel h w (.ag cs) (.agg vs.toArray) bs
inductive R1Rels (h : View) (w : World) : List R1 → List Value → List (Option Nat) → Prop
  | nil : R1Rels h w [] [] []
  | cons {c v b cs vs bs} : R1Rel h w c v b → R1Rels h w cs vs bs → R1Rels h w (c :: cs) (v :: vs) (b ++ bs)
inductive RRel (h : View) (w : World) : List R1 → Value → List (Option Nat) → Prop
  | one {r v bs} : R1Rel h w r v bs → RRel h w [r] v bs
  | many {rs vs bs} : rs.length ≠ 1 → R1Rels h w rs vs bs → RRel h w rs (.tuple vs.toArray) bs

/-- What a function does with data: it returns; of old memory nothing has turned; the slices that it hands over lie in new blocks, each in one of its own; what else its results are made of lies in blocks of A or in other new ones. -/
def FC (P : Program) (f : FuncId) (ds : List DV) (rs : List R1) : Prop :=
  ∀ (w : World) (A : Nat → Prop) (vs : List Value), GoodW w → DVRels (viewIn A w) ds vs → Calls P f vs.toArray w fun e w' =>
    ∃ (v : Value) (bs : List (Option Nat)), e = .returned v ∧ RowKit.Below w.heap.size w w' ∧ RRel (viewIn (fun b => some b ∉ bs ∧ (w.heap.size ≤ b ∨ A b)) w') w' rs v bs ∧
      (∀ b, some b ∈ bs → w.heap.size ≤ b ∧ b < w'.heap.size) ∧ (∀ (i j b : Nat), bs[i]? = some (some b) → bs[j]? = some (some b) → i = j)

/-- Data without memory. -/
def D.flat : D → Bool
  | .int .. | .bool _ | .str _ => true
  | _ => false
def RC.flat : RC → Prop
  | .v d => d.flat = true
  | .o _ es => ∀ r ∈ es, ∀ d ∈ r, d.flat = true
def flatRs (rs : List R1) : Prop := ∀ c ∈ rs.flatMap R1.cells, c.flat

theorem Rep.flat {h h' : View} {d : D} {v : Value} (H : Rep h d v) (hf : d.flat = true) : Rep h' d v := by
  cases H <;> first
    | exact .bool
    | (cases hf; done)
    | skip
  case int a b => exact .int a b
  case str a => exact .str a
theorem Reps.flat {h h' : View} : ∀ {ds : List D} {vs : List Value}, Reps h ds vs → (∀ d ∈ ds, d.flat = true) → Reps h' ds vs
  | _, _, .nil, _ => .nil
  | _, _, .cons a b, H => .cons (a.flat (H _ (by simp))) (b.flat fun d hd => H d (by simp [hd]))
theorem RepRows.flat {h h' : View} {sz : Nat} : ∀ {es : List (List D)} {vs : List Value}, RepRows h sz es vs → (∀ r ∈ es, ∀ d ∈ r, d.flat = true) → RepRows h' sz es vs
  | _, _, .nil, _ => .nil
  | _, _, .cons a b c, H => .cons a (b.flat (H _ (by simp))) (c.flat fun r hr => H r (by simp [hr]))

/-! ### What is handed to a call -/
def toIV : AV → Option DV
  | .v (.sc c) => (toI c).map .sc
  | .v (.ag cs) => (toIs cs).map .ag
  | _ => none
def St.toIVs (σ : St) : List Opd → Option (List DV)
  | [] => some []
  | x :: xs => match toIV (σ.val x), σ.toIVs xs with
    | some d, some ds => some (d :: ds)
    | _, _ => none

section
variable {P : Program} {A : Nat → Prop} {B : Nat} {w0 w : World} {nm : Names} {σ : St} {a : Act}

theorem viewAll_of {b : Nat} {C : List Value} (h : viewOf A nm w b C) : viewAll w b C := h.2.2
theorem viewIn_true {b : Nat} {C : List Value} (h : viewAll w b C) : viewIn (fun _ => True) w b C := ⟨trivial, h⟩

theorem pd_rel (R : Rel A B w0 nm σ a.tmps w) {id off b : Nat} {d : D} (hb : nm (2 * id) = some b) (hd : σ.pdOf id off = some d) : Rep (viewAll w) d (.pointer (some ⟨b, off, none⟩)) := by
  unfold St.pdOf at hd
  split at hd
  · rename_i cs hf
    simp only [Option.map_eq_some_iff] at hd
    obtain ⟨ds, hds, rfl⟩ := hd
    obtain ⟨b', C, t, h1, h2, h3⟩ := R.bxs id cs hf
    have e : b' = b := Option.some.inj (h1.symm.trans hb)
    subst e
    exact .pd (C := C.toList) ⟨C, t, _, h2, rfl⟩ (toD0s_rel (X := cx A nm σ w) (fun _ _ h => viewAll_of h) ((h3.pre).drop off) hds).1
  · cases hd

theorem pds_rel (R : Rel A B w0 nm σ a.tmps w) : ∀ {ids bs : List Nat} {ds : List D}, ids.mapM (fun i => nm (2 * i)) = some bs → σ.pdsOf ids = some ds → Reps (viewAll w) ds (bs.map fun b => Value.pointer (some ⟨b, 0, none⟩)) ∧ ds.length = bs.length
  | [], bs, ds, hb, hd => by
    simp at hb
    subst hb
    simp [St.pdsOf] at hd
    subst hd
    exact ⟨.nil, rfl⟩
  | i :: ids, bs, ds, hb, hd => by
    simp only [List.mapM_cons, Option.bind_eq_bind, Option.pure_def] at hb
    cases hn : nm (2 * i) with
    | none => simp [hn] at hb
    | some b =>
      cases hr : ids.mapM (fun i => nm (2 * i)) with
      | none => simp [hn, hr] at hb
      | some bs' =>
        simp [hn, hr] at hb
        subst hb
        simp only [St.pdsOf] at hd
        split at hd
        · rename_i d ds' h1 h2
          cases hd
          obtain ⟨h3, h4⟩ := pds_rel R hr h2
          exact ⟨.cons (pd_rel R hn h1) h3, by simp [h4]⟩
        · cases hd

theorem toD_rel (R : Rel A B w0 nm σ a.tmps w) {c : AC} {v : Value} {d : D} (H : CRel (cx A nm σ w) c v) (hd : σ.toD c = some d) : Rep (viewAll w) d v := by
  cases c with
  | pb id off =>
    cases H with | pb hb => exact pd_rel R hb hd
  | pe id idx off =>
    simp only [St.toD] at hd
    split at hd
    · rename_i sz es hf
      simp only [Option.map_eq_some_iff] at hd
      obtain ⟨r, hr, rfl⟩ := hd
      obtain ⟨b, cap, hb, own, hlt, rfl⟩ := H.inv_pe hf
      obtain ⟨C, hC, hrows⟩ := ownB_all (fun _ _ h => viewAll_of h) own
      obtain ⟨h1, h2⟩ := hrows.row hr
      have h3 := h2.drop off
      rw [List.drop_drop] at h3
      exact .pd hC h3
    · cases hd
  | clo f ids =>
    simp only [St.toD, Option.map_eq_some_iff] at hd
    obtain ⟨ds, hds, rfl⟩ := hd
    cases H with | clo hb =>
    exact .clo (pds_rel R hb hds).1 (by simpa using (pds_rel R hb hds).2)
  | undef => simp [St.toD, toD0] at hd
  | dat d' => exact toD0_rel (X := cx A nm σ w) (fun _ _ h => viewAll_of h) H hd
  | own id => exact toD0_rel (X := cx A nm σ w) (fun _ _ h => viewAll_of h) H hd
  | osub id lo hi => exact toD0_rel (X := cx A nm σ w) (fun _ _ h => viewAll_of h) H hd
  | nil => exact toD0_rel (X := cx A nm σ w) (fun _ _ h => viewAll_of h) H hd

theorem toDV_rel (R : Rel A B w0 nm σ a.tmps w) {av : AV} {v : Value} {d : DV} (H : VRel (cx A nm σ w) av v) (hd : σ.toDV av = some d) : DVRel (viewAll w) d v := by
  unfold St.toDV at hd
  split at hd
  · simp only [Option.map_eq_some_iff] at hd
    obtain ⟨d', h1, rfl⟩ := hd
    exact .sc (toD_rel R H.inv_sc h1)
  · simp only [Option.map_eq_some_iff] at hd
    obtain ⟨ds, h1, rfl⟩ := hd
    obtain ⟨vs, rfl, hcs⟩ := H.inv_ag
    obtain ⟨h2, h3⟩ := toD0s_rel (X := cx A nm σ w) (fun _ _ h => viewAll_of h) hcs.pre h1
    exact .ag h2 (h3.trans hcs.length)
  · cases hd

theorem toIV_rel {X : Cx} {av : AV} {v : Value} {d : DV} (H : VRel X av v) (hd : toIV av = some d) : DVRel X.h d v := by
  unfold toIV at hd
  split at hd
  · simp only [Option.map_eq_some_iff] at hd
    obtain ⟨d', h1, rfl⟩ := hd
    exact .sc (toI_rel H.inv_sc h1)
  · simp only [Option.map_eq_some_iff] at hd
    obtain ⟨ds, h1, rfl⟩ := hd
    obtain ⟨vs, rfl, hcs⟩ := H.inv_ag
    obtain ⟨h2, h3⟩ := toIs_rel hcs h1
    exact .ag h2 (h3.trans hcs.length)
  · cases hd

theorem DVRel.mono {h h' : View} (hh : ∀ b C, h b C → h' b C) {d : DV} {v : Value} (H : DVRel h d v) : DVRel h' d v := by
  cases H with
  | sc a => exact .sc (a.mono hh)
  | ag a b => exact .ag (a.mono hh) b
theorem DVRels.mono {h h' : View} (hh : ∀ b C, h b C → h' b C) : ∀ {ds vs}, DVRels h ds vs → DVRels h' ds vs
  | _, _, .nil => .nil
  | _, _, .cons a b => .cons (a.mono hh) (b.mono hh)
theorem DVRels.append {h : View} : ∀ {ds vs ds' vs'}, DVRels h ds vs → DVRels h ds' vs' → DVRels h (ds ++ ds') (vs ++ vs')
  | _, _, _, _, .nil, H => H
  | _, _, _, _, .cons a b, H => .cons a (b.append H)
theorem DVRels.of_reps {h : View} : ∀ {ds vs}, Reps h ds vs → ds.length = vs.length → DVRels h (ds.map .sc) vs
  | [], vs, _, hl => by
    obtain rfl : vs = [] := List.length_eq_zero_iff.1 (by simpa using hl.symm)
    exact .nil
  | _, _, .cons a b, hl => .cons (.sc a) (.of_reps b (by simpa using hl))

theorem toDVs_rel (R : Rel A B w0 nm σ a.tmps w) : ∀ {xs : List Operand} {ys : List Opd} {ds : List DV}, opdsC xs = some ys → σ.toDVs ys = some ds → DVRels (viewAll w) ds (xs.map a.eval)
  | [], ys, ds, hy, hd => by simp [opdsC] at hy; subst hy; simp [St.toDVs] at hd; subst hd; exact .nil
  | x :: xs, ys, ds, hy, hd => by
    simp only [opdsC] at hy
    split at hy
    · rename_i y ys' h1 h2
      cases hy
      simp only [St.toDVs] at hd
      split at hd
      · rename_i d ds' h3 h4
        cases hd
        exact .cons (toDV_rel R (opd_rel R h1) h3) (toDVs_rel R h2 h4)
      · cases hd
    · cases hy
theorem toIVs_rel (R : Rel A B w0 nm σ a.tmps w) : ∀ {xs : List Operand} {ys : List Opd} {ds : List DV}, opdsC xs = some ys → σ.toIVs ys = some ds → DVRels (viewOf A nm w) ds (xs.map a.eval)
  | [], ys, ds, hy, hd => by simp [opdsC] at hy; subst hy; simp [St.toIVs] at hd; subst hd; exact .nil
  | x :: xs, ys, ds, hy, hd => by
    simp only [opdsC] at hy
    split at hy
    · rename_i y ys' h1 h2
      cases hy
      simp only [St.toIVs] at hd
      split at hd
      · rename_i d ds' h3 h4
        cases hd
        exact .cons (toIV_rel (X := cx A nm σ w) (opd_rel R h1) h3) (toIVs_rel R h2 h4)
      · cases hd
    · cases hy
end
end Go.Vi
