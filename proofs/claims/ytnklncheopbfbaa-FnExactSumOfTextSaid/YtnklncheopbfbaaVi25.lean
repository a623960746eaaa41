/-
  The value level: contracts from a function's table entry alone; rules for the evaluation of 'AWP'. No condition.
-/
import Derived.Test.YtnklncheopbfbaaVi24
namespace Go.Vi

/-- A function of a program, as this level has it: its code and its result slots. -/
def entry (P : Program) (f : FuncId) : Option (ACode × List Nat × Nat) :=
  match P.funcs[f]? with
  | some fn => match fn.body, resC fn.results.toList with
    | some C, some ts => (compCode P fn.ntmps C).map fun c => (c, ts, fn.ntmps)
    | _, _ => none
  | none => none

theorem FC_at {P : Program} (hm : P.follows .mixedOrders = true) {f : FuncId} {c : ACode} {ts : List Nat} {nt : Nat} {ds : List DV} {rs : List R1} (he : entry P f = some (c.strip, ts, nt)) (hl : ds.length ≤ nt) (h : AWP P c (Ret ts rs) (St.init ds)) : FC P f ds rs := by
  unfold entry at he
  split at he
  · rename_i fn hf
    split at he
    · rename_i C ts' hb hr
      simp only [Option.map_eq_some_iff] at he
      obtain ⟨c', hc, e⟩ := he
      cases e
      exact FC_of hm hf hb hc hr hl h
    · cases he
  · cases he

section
variable {P : Program} {Q : AExit → St → Prop} {σ : St} {K : St → Prop} {r : List AItem}

theorem awp_skip : AWP P .skip Q σ = Q .normal σ := rfl
theorem awp_reg {its} : AWP P (.reg its) Q σ = aops P its (Q .normal) σ := rfl
theorem awp_drw {its} : AWP P (.drw its) Q σ = (freshAll its σ = true ∧ adrw P its (Q .normal) σ) := rfl
theorem awp_seq {x y} : AWP P (.seq x y) Q σ = AWP P x (fun e σ' => match e with | .normal => AWP P y Q σ' | e => Q e σ') σ := rfl
theorem awp_block {id c} : AWP P (.block id c) Q σ = AWP P c (fun e σ' => match e with | .exit i => if i = id then Q .normal σ' else Q (.exit i) σ' | e => Q e σ') σ := rfl
theorem awp_exit {id} : AWP P (.exit id) Q σ = Q (.exit id) σ := rfl
theorem awp_ret : AWP P .ret Q σ = Q .ret σ := rfl
theorem awp_cond {c x y b} (h : σ.val c = .v (.sc (.dat (.bool b)))) : AWP P (.cond c x y) Q σ = if b = true then AWP P x Q σ else AWP P y Q σ := by
  simp only [AWP, h]

theorem aops_nil : aops P [] K σ = K σ := rfl
theorem aops_cons {o} : aops P ((none, o) :: r) K σ = aop P o (aops P r K) σ := rfl

/-- An operation that yields a value. -/
theorem aop_pure {o : AOp} {d : Nat} {v : AV} (h : σ.pure o = some (d, v)) : aop P o K σ = K (σ.set d v) := by
  have hid := (pure_dst h).2
  cases o <;> first
    | (simp [AOp.idle] at hid; done)
    | (simp [St.pure] at h; done)
    | (simp only [aop, St.step, h])

theorem aguard_mono {g : Option (Nat × Bool)} {y y' n n' : Prop} (h1 : y → y') (h2 : n → n') (h : aguard g σ y n) : aguard g σ y' n' := by
  unfold aguard at h ⊢
  split
  · exact h1 h
  · rename_i t want
    simp only at h
    split
    · rename_i b hb
      rw [hb] at h
      simp only at h
      split
      · rename_i e; rw [if_pos e] at h; exact h1 h
      · rename_i e; rw [if_neg e] at h; exact h2 h
    · rename_i hne
      split at h
      · rename_i b hb; exact (hne b hb).elim
      · exact h
theorem aop_mono {o : AOp} {K K' : St → Prop} (hk : ∀ σ, K σ → K' σ) (h : aop P o K σ) : aop P o K' σ := by
  have plain : (match σ.step o with | some σ' => K σ' | none => False) → (match σ.step o with | some σ' => K' σ' | none => False) := by
    intro h
    split at h
    · exact hk _ h
    · exact h.elim
  cases o <;> first
    | exact plain h
    | skip
  case call =>
    obtain ⟨ds, rs, h1, h2, h3, h4, h5⟩ := h
    exact ⟨ds, rs, h1, h2, h3, h4, hk _ h5⟩
  case callv =>
    obtain ⟨f, caps, ds, rs, h1, h0, h2, h3, h4, h5⟩ := h
    exact ⟨f, caps, ds, rs, h1, h0, h2, h3, h4, hk _ h5⟩
theorem agen_mono {N : List Nat} {o : AOp} {K K' : St → Prop} (hk : ∀ σ, K σ → K' σ) (h : agen P N o K σ) : agen P N o K' σ := by
  have plain : (match (σ.less N).pure o with
      | some (d, v) => v.avoids N = true ∧ K (σ.set d v)
      | none => match (σ.less N).made o with
        | some m => (match m with | .box _ cs => cs.all (·.avoids N) | _ => true) = true ∧ (match σ.make m with
          | some σ' => K σ'
          | none => False)
        | none => False) → (match (σ.less N).pure o with
      | some (d, v) => v.avoids N = true ∧ K' (σ.set d v)
      | none => match (σ.less N).made o with
        | some m => (match m with | .box _ cs => cs.all (·.avoids N) | _ => true) = true ∧ (match σ.make m with
          | some σ' => K' σ'
          | none => False)
        | none => False) := by
    intro h
    split at h
    · exact ⟨h.1, hk _ h.2⟩
    · split at h
      · refine ⟨h.1, ?_⟩
        have h2 := h.2
        split at h2
        · exact hk _ h2
        · exact h2.elim
      · exact h.elim
  cases o <;> first
    | exact plain h
    | skip
  case call =>
    obtain ⟨ds, rs, h1, h2, h3, h4, h5⟩ := h
    exact ⟨ds, rs, h1, h2, h3, h4, hk _ h5⟩
  case callv =>
    obtain ⟨f, caps, ds, rs, h1, h0, h2, h3, h4, h5⟩ := h
    exact ⟨f, caps, ds, rs, h1, h0, h2, h3, h4, hk _ h5⟩
theorem aops_mono {K K' : St → Prop} (hk : ∀ σ, K σ → K' σ) : ∀ {its : List AItem} {σ : St}, aops P its K σ → aops P its K' σ
  | [], _, h => hk _ h
  | (g, o) :: r, σ, h => by
    refine aguard_mono (aop_mono fun σ h => aops_mono hk h) (fun h => ?_) h
    split at h
    · exact aops_mono hk h
    · exact h
theorem adrw_mono {K K' : St → Prop} (hk : ∀ σ, K σ → K' σ) : ∀ {its : List DItem} {σ : St}, adrw P its K σ → adrw P its K' σ
  | [], _, h => hk _ h
  | (none, g, o) :: r, σ, h => by
    refine aguard_mono (aop_mono fun σ h => ⟨h.1, adrw_mono hk h.2⟩) (fun h => ?_) h
    split at h
    · exact ⟨h.1, adrw_mono hk h.2⟩
    · exact h
  | (some N, g, o) :: r, σ, h => by
    refine aguard_mono (agen_mono fun σ h => adrw_mono hk h) (fun h => ?_) h
    split at h
    · exact adrw_mono hk h
    · exact h
theorem awp_mono : ∀ (c : ACode) {Q Q' : AExit → St → Prop} {σ : St}, (∀ e σ, Q e σ → Q' e σ) → AWP P c Q σ → AWP P c Q' σ := by
  intro c
  induction c with
  | skip => exact fun hq h => hq _ _ h
  | reg its => exact fun hq h => aops_mono (fun σ => hq _ σ) h
  | drw its => exact fun hq h => ⟨h.1, adrw_mono (fun σ => hq _ σ) h.2⟩
  | seq x y ihx ihy =>
    intro Q Q' σ hq h
    refine ihx (fun e σ' h => ?_) h
    cases e with
    | normal => exact ihy hq h
    | exit id => exact hq _ _ h
    | ret => exact hq _ _ h
  | cond c x y ihx ihy =>
    intro Q Q' σ hq h
    simp only [AWP] at h ⊢
    split
    · rename_i b hb
      rw [hb] at h
      simp only at h
      split
      · rename_i e; rw [if_pos e] at h; exact ihx hq h
      · rename_i e; rw [if_neg e] at h; exact ihy hq h
    · rename_i hne
      split at h
      · rename_i b hb; exact (hne b hb).elim
      · exact h
  | block id c ih =>
    intro Q Q' σ hq h
    refine ih (fun e σ' h => ?_) h
    cases e with
    | normal => exact hq _ _ h
    | ret => exact hq _ _ h
    | exit i =>
      change (if i = id then Q .normal σ' else Q (.exit i) σ') at h
      change (if i = id then Q' .normal σ' else Q' (.exit i) σ')
      split
      · rename_i e; rw [if_pos e] at h; exact hq _ _ h
      · rename_i e; rw [if_neg e] at h; exact hq _ _ h
  | loop c ih =>
    intro Q Q' σ hq h
    obtain ⟨I, μ, hI, hr⟩ := h
    refine ⟨I, μ, hI, fun σ' h' => ih (fun e σ'' h => ?_) (hr σ' h')⟩
    cases e with
    | normal => exact h
    | exit id => exact hq _ _ h
    | ret => exact hq _ _ h
  | exit id => exact fun hq h => hq _ _ h
  | ret => exact fun hq h => hq _ _ h

/-- What a loop's round starts from. -/
def St.clean (σ : St) (ks gs : List Nat) : St := { env := erase σ.env ks, bx := σ.bx.filter fun p => !gs.contains p.1, rows := σ.rows.filter fun p => !gs.contains (p.1 / 64) }

/-- A loop: the states at a round's start are told by a ghost. -/
theorem awp_loop {ι : Type} (ks gs : List Nat) (ok : ι → Prop) (S : ι → St) (μ : ι → Nat) (i0 : ι) {c : ACode} (h0 : ok i0) (hS : σ.clean ks gs = S i0)
    (hr : ∀ i, ok i → AWP P c (fun e σ' => match e with | .normal => ∃ j, ok j ∧ μ j < μ i ∧ σ'.clean ks gs = S j | e => Q e σ') (S i)) : AWP P (.loop (.seq (.reg [(none, .drop ks), (none, .forget gs)]) c)) Q σ := by
  refine ⟨fun σ => ∃ i, ok i ∧ σ.clean ks gs = S i, fun σ => leastOf fun n => ∃ i, ok i ∧ σ.clean ks gs = S i ∧ μ i = n, ⟨i0, h0, hS⟩, ?_⟩
  rintro σ ⟨i, hi, hσ⟩
  obtain ⟨⟨k, hk, hk2, hk3⟩, hle⟩ := leastOf_spec (p := fun n => ∃ i, ok i ∧ σ.clean ks gs = S i ∧ μ i = n) ⟨_, i, hi, hσ, rfl⟩
  show AWP P c _ (σ.clean ks gs)
  rw [hk2]
  refine awp_mono c (fun e σ' h => ?_) (hr k hk)
  cases e with
  | normal =>
    obtain ⟨j, h1, h2, h3⟩ := h
    refine ⟨⟨j, h1, h3⟩, ?_⟩
    have hj : ∃ n, ∃ i, ok i ∧ σ'.clean ks gs = S i ∧ μ i = n := ⟨_, j, h1, h3, rfl⟩
    have := (leastOf_spec hj).2 (μ j) ⟨j, h1, h3, rfl⟩
    exact show leastOf _ < leastOf _ from Nat.lt_of_le_of_lt this (hk3 ▸ h2)
  | _ => exact h
end
end Go.Vi
