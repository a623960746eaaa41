/-
  The value level: contracts from a function's table entry alone; rules for the evaluation of 'AWP'. No condition.
-/
import Derived.Test.YtahienmgcfgclaaDoorSVi24
namespace Go.Vi
def entry (P : Program) (f : FuncId) : Option (ACode × List RV × Nat) :=
 match P.funcs[f]? with
 | some fn => match fn.body,resC P fn.results.toList with
  | some C,some ts => (compCode P fn.ntmps C).map fun c => (c,ts,fn.ntmps)
  | _,_ => none
 | none => none
theorem FC_at {P : Program} (hm : P.follows .mixedOrders = true) {f : FuncId} {c : ACode} {ts : List RV} {nt : Nat} {ds : List DV} {rs : List R1} (he : entry P f = some (c.strip,ts,nt)) (hl : ds.length ≤ nt) (h : AWP P c (Ret ts rs) (St.init ds)) : FC P f ds rs := by
 unfold entry at he
 split at he
 ·rename_i fn hf
  split at he
  ·rename_i C ts' hb hr
   simp only [Option.map_eq_some_iff] at he
   obtain ⟨c',hc,e⟩ := he
   cases e
   exact FC_of hm hf hb hc hr hl h
  ·cases he
 ·cases he
theorem FCp_at {P : Program} (hm : P.follows .mixedOrders = true) {f : FuncId} {c : ACode} {ts : List RV} {nt : Nat} {ds : List DV} {rs : List R1} {pd : D} (he : entry P f = some (c.strip,ts,nt)) (hl : ds.length ≤ nt) (h : AWP P c (RetP ts rs (some pd)) (St.init ds)) : FCp P f ds pd := by
 unfold entry at he
 split at he
 ·rename_i fn hf
  split at he
  ·rename_i C ts' hb hr
   simp only [Option.map_eq_some_iff] at he
   obtain ⟨c',hc,e⟩ := he
   cases e
   exact FCp_of (ts := ts) (rs := rs) hm hf hb hc hl h
  ·cases he
 ·cases he
theorem FCx_at {P : Program} (hm : P.follows .mixedOrders = true) {f : FuncId} {c : ACode} {ts : List RV} {nt : Nat} {xs : List XV} {R0 R1 : RowL} {r : D} {ps : List (Nat × Nat)} (he : entry P f = some (c.strip,ts,nt)) (hl : xs.length ≤ nt) (hlen : R1.length = R0.length) (hrf : r.flat = true) (hR1 : flatRow R1)
  (h : AWP P c (RetX ts r R1 ps) (St.initX xs R0)) : FCx P f xs R0 R1 r := by
 unfold entry at he
 split at he
 ·rename_i fn hf
  split at he
  ·rename_i C ts' hb hr
   simp only [Option.map_eq_some_iff] at he
   obtain ⟨c',hc,e⟩ := he
   cases e
   exact FCx_of hm hf hb hc hr hl hlen hrf hR1 h
  ·cases he
 ·cases he
section
variable {P : Program} {Q : AExit → St → Prop} {σ : St} {K : St → Prop} {r : List AItem}
theorem awp_skip : AWP P .skip Q σ = Q .normal σ := rfl
theorem awp_reg {its} : AWP P (.reg its) Q σ = aops P its (Q .normal) σ := rfl
theorem awp_drw {its} : AWP P (.drw its) Q σ = (freshAll its σ = true ∧ adrw P its (Q .normal) σ) := rfl
theorem awp_seq {x y} : AWP P (.seq x y) Q σ = AWP P x (fun e σ' => match e with | .normal => AWP P y Q σ' | e => Q e σ') σ := rfl
theorem awp_block {id c} : AWP P (.block id c) Q σ = AWP P c (fun e σ' => match e with | .exit i => if i = id then Q .normal σ' else Q (.exit i) σ' | e => Q e σ') σ := rfl
theorem awp_exit {id} : AWP P (.exit id) Q σ = Q (.exit id) σ := rfl
theorem awp_ret : AWP P .ret Q σ = Q .ret σ := rfl
theorem awp_cond {c x y b} (h : σ.val c = .v (.sc (.dat (.bool b)))) : AWP P (.cond c x y) Q σ = if b = true then AWP P x Q σ else AWP P y Q σ := by
 simp only [AWP,h]
theorem aops_nil : aops P [] K σ = K σ := rfl
theorem aops_cons {o} : aops P ((none,o) :: r) K σ = aop P o (aops P r K) σ := rfl
theorem aop_pure {o : AOp} {d : Nat} {v : AV} (h : σ.pure o = some (d,v)) : aop P o K σ = K (σ.set d v) := by
 have hid := (pure_dst h).2
 cases o <;> first
  | (simp [AOp.idle] at hid; done)
  | (simp [St.pure] at h; done)
  | (simp only [aop,St.step,h])
theorem aguard_mono {g : Option (Nat × Bool)} {y y' n n' : Prop} (h1 : y → y') (h2 : n → n') (h : aguard g σ y n) : aguard g σ y' n' := by
 rcases aguard_of h with ⟨hw,h⟩ | ⟨t,want,rfl,hd,h⟩
 ·exact aguard_yes hw (h1 h)
 ·exact aguard_no hd (h2 h)
theorem aop_mono {o : AOp} {K K' : St → Prop} (hk : ∀ σ,K σ → K' σ) (h : aop P o K σ) : aop P o K' σ := by
 have plain : (match σ.step o with | some σ' => K σ' | none => False) → (match σ.step o with | some σ' => K' σ' | none => False) := by
  intro h
  split at h
  ·exact hk _ h
  ·exact h.elim
 cases o <;> first
  | exact plain h
  | skip
 case call =>
  rcases h with ⟨ds,rs,h1,h2,h3,h4,h5⟩ | ⟨ids,xs,R0,R1,r,h1,h2,h3⟩ | ⟨σ',r,h1,h2⟩
  ·exact .inl ⟨ds,rs,h1,h2,h3,h4,hk _ h5⟩
  ·exact .inr (.inl ⟨ids,xs,R0,R1,r,h1,h2,hk _ h3⟩)
  ·exact .inr (.inr ⟨σ',r,h1,hk _ h2⟩)
 case callv =>
  obtain ⟨f,caps,ds,rs,h1,h0,h2,h3,h4,h5⟩ := h
  exact ⟨f,caps,ds,rs,h1,h0,h2,h3,h4,hk _ h5⟩
theorem agen_mono {N : List Nat} {o : AOp} {K K' : St → Prop} (hk : ∀ σ,K σ → K' σ) (h : agen P N o K σ) : agen P N o K' σ := by
 have plain : (match (σ.less N).pure o with
   | some (d,v) => v.avoids N = true ∧ K (σ.set d v)
   | none => match (σ.less N).made o with
    | some m => (match m with | .box _ cs => cs.all (·.avoids N) | _ => true) = true ∧ (match σ.make m with
     | some σ' => K σ'
     | none => False)
    | none => False) → (match (σ.less N).pure o with
   | some (d,v) => v.avoids N = true ∧ K' (σ.set d v)
   | none => match (σ.less N).made o with
    | some m => (match m with | .box _ cs => cs.all (·.avoids N) | _ => true) = true ∧ (match σ.make m with
     | some σ' => K' σ'
     | none => False)
    | none => False) := by
  intro h
  split at h
  ·exact ⟨h.1,hk _ h.2⟩
  ·split at h
   ·refine ⟨h.1,?_⟩
    have h2 := h.2
    split at h2
    ·exact hk _ h2
    ·exact h2.elim
   ·exact h.elim
 cases o <;> first
  | exact plain h
  | skip
 case call =>
  obtain ⟨ds,rs,h1,h2,h3,h4,h5⟩ := h
  exact ⟨ds,rs,h1,h2,h3,h4,hk _ h5⟩
 case callv =>
  obtain ⟨f,caps,ds,rs,h1,h0,h2,h3,h4,h5⟩ := h
  exact ⟨f,caps,ds,rs,h1,h0,h2,h3,h4,hk _ h5⟩
theorem aops_mono {K K' : St → Prop} (hk : ∀ σ,K σ → K' σ) : ∀ {its : List AItem} {σ : St},aops P its K σ → aops P its K' σ
 | [],_,h => hk _ h
 | (g,o) :: r,σ,h => by
  refine aguard_mono (aop_mono fun σ h => aops_mono hk h) (fun h => ?_) h
  split at h
  ·exact aops_mono hk h
  ·exact h
theorem adrw_mono {K K' : St → Prop} (hk : ∀ σ,K σ → K' σ) : ∀ {its : List DItem} {σ : St},adrw P its K σ → adrw P its K' σ
 | [],_,h => hk _ h
 | (none,g,o) :: r,σ,h => by
  refine aguard_mono (aop_mono fun σ h => ⟨h.1,adrw_mono hk h.2⟩) (fun h => ?_) h
  split at h
  ·exact ⟨h.1,adrw_mono hk h.2⟩
  ·exact h
 | (some N,g,o) :: r,σ,h => by
  refine aguard_mono (agen_mono fun σ h => adrw_mono hk h) (fun h => ?_) h
  split at h
  ·exact adrw_mono hk h
  ·exact h
theorem awp_mono : ∀ (c : ACode) {Q Q' : AExit → St → Prop} {σ : St},(∀ e σ,Q e σ → Q' e σ) → AWP P c Q σ → AWP P c Q' σ := by
 intro c
 induction c with
 | skip => exact fun hq h => hq _ _ h
 | reg its => exact fun hq h => aops_mono (fun σ => hq _ σ) h
 | drw its => exact fun hq h => ⟨h.1,adrw_mono (fun σ => hq _ σ) h.2⟩
 | any its => exact fun hq ⟨ks,bs,rs,τ,h1,h2⟩ => ⟨ks,bs,rs,τ,h1,hq _ _ h2⟩
 | seq x y ihx ihy =>
  intro Q Q' σ hq h
  refine ihx (fun e σ' h => ?_) h
  cases e with
  | normal => exact ihy hq h
  | exit id => exact hq _ _ h
  | ret => exact hq _ _ h
  | pan d => exact hq _ _ h
 | cond c x y ihx ihy =>
  intro Q Q' σ hq h
  simp only [AWP] at h ⊢
  split
  ·rename_i b hb
   rw [hb] at h
   simp only at h
   split
   ·rename_i e; rw [if_pos e] at h; exact ihx hq h
   ·rename_i e; rw [if_neg e] at h; exact ihy hq h
  ·rename_i hne
   split at h
   ·rename_i b hb; exact (hne b hb).elim
   ·exact h
 | block id c ih =>
  intro Q Q' σ hq h
  refine ih (fun e σ' h => ?_) h
  cases e with
  | normal => exact hq _ _ h
  | ret => exact hq _ _ h
  | pan d => exact hq _ _ h
  | exit i =>
   change (if i = id then Q .normal σ' else Q (.exit i) σ') at h
   change (if i = id then Q' .normal σ' else Q' (.exit i) σ')
   split
   ·rename_i e; rw [if_pos e] at h; exact hq _ _ h
   ·rename_i e; rw [if_neg e] at h; exact hq _ _ h
 | loop c ih =>
  intro Q Q' σ hq h
  intro X hX
  refine h X fun σ' h' => hX σ' (ih (fun e σ'' h => ?_) h')
  cases e with
  | normal => exact h
  | exit id => exact hq _ _ h
  | ret => exact hq _ _ h
  | pan d => exact hq _ _ h
 | pan its x => exact fun hq h => aops_mono (fun σ ⟨d,h1,h2,h3,h4⟩ => ⟨d,h1,h2,h3,hq _ _ h4⟩) h
 | cal its d f args => exact fun hq h => aops_mono (fun σ h => h.imp (fun h => aop_mono (fun σ => hq _ σ) h) fun ⟨ds,pd,h1,h2,h3⟩ => ⟨ds,pd,h1,h2,hq _ _ h3⟩) h
 | exit id => exact fun hq h => hq _ _ h
 | ret => exact fun hq h => hq _ _ h
def St.clean (σ : St) (ks gs : List Nat) : St := { env := erase σ.env ks,bx := σ.bx.filter fun p => !gs.contains p.1,rows := σ.rows.filter fun p => !gs.contains (p.1 / 64) }
theorem awp_loop {ι : Type} (ks gs : List Nat) (ok : ι → Prop) (S : ι → St) (μ : ι → Nat) (i0 : ι) {c : ACode} (h0 : ok i0) (hS : σ.clean ks gs = S i0)
  (hr : ∀ i,ok i → AWP P c (fun e σ' => match e with | .normal => ∃ j,ok j ∧ μ j < μ i ∧ σ'.clean ks gs = S j | e => Q e σ') (S i)) : AWP P (.loop (.seq (.reg [(none,.drop ks),(none,.forget gs)]) c)) Q σ := by
 intro X hX
 have key : ∀ n i,μ i = n → ok i → ∀ σ,σ.clean ks gs = S i → X σ := by
  intro n
  induction n using Nat.strongRecOn with
  | _ n ih =>
   intro i hn hi σ hσ
   refine hX σ ?_
   show AWP P c _ (σ.clean ks gs)
   rw [hσ]
   refine awp_mono c (fun e σ' h => ?_) (hr i hi)
   cases e with
   | normal =>
    obtain ⟨j,h1,h2,h3⟩ := h
    exact ih (μ j) (hn ▸ h2) j rfl h1 σ' h3
   | _ => exact h
 exact key _ i0 rfl h0 σ hS
theorem aguard_ex {ι : Type} [Nonempty ι] {g : Option (Nat × Bool)} {y n : ι → Prop} (h : aguard g σ (∃ i,y i) (∃ i,n i)) : ∃ i,aguard g σ (y i) (n i) := by
 rcases aguard_of h with ⟨hw,i,hi⟩ | ⟨t,want,rfl,hd,i,hi⟩
 ·exact ⟨i,aguard_yes hw hi⟩
 ·exact ⟨i,aguard_no hd hi⟩
theorem aop_ex {ι : Type} {o : AOp} {K : ι → St → Prop} (h : aop P o (fun σ => ∃ i,K i σ) σ) : ∃ i,aop P o (K i) σ := by
 have plain : (match σ.step o with | some σ' => ∃ i,K i σ' | none => False) → ∃ i,(match σ.step o with | some σ' => K i σ' | none => False) := by
  intro h
  split at h
  ·exact h
  ·exact h.elim
 cases o <;> first
  | exact plain h
  | skip
 case call =>
  rcases h with ⟨ds,rs,h1,h2,h3,h4,i,h5⟩ | ⟨ids,xs,R0,R1,r,h1,h2,i,h3⟩ | ⟨σ',r,h1,i,h2⟩
  ·exact ⟨i,.inl ⟨ds,rs,h1,h2,h3,h4,h5⟩⟩
  ·exact ⟨i,.inr (.inl ⟨ids,xs,R0,R1,r,h1,h2,h3⟩)⟩
  ·exact ⟨i,.inr (.inr ⟨σ',r,h1,h2⟩)⟩
 case callv =>
  obtain ⟨f,caps,ds,rs,h1,h0,h2,h3,h4,i,h5⟩ := h
  exact ⟨i,f,caps,ds,rs,h1,h0,h2,h3,h4,h5⟩
theorem agen_ex {ι : Type} {N : List Nat} {o : AOp} {K : ι → St → Prop} (h : agen P N o (fun σ => ∃ i,K i σ) σ) : ∃ i,agen P N o (K i) σ := by
 have plain : (match (σ.less N).pure o with
   | some (d,v) => v.avoids N = true ∧ ∃ i,K i (σ.set d v)
   | none => match (σ.less N).made o with
    | some m => (match m with | .box _ cs => cs.all (·.avoids N) | _ => true) = true ∧ (match σ.make m with
     | some σ' => ∃ i,K i σ'
     | none => False)
    | none => False) → ∃ i,(match (σ.less N).pure o with
   | some (d,v) => v.avoids N = true ∧ K i (σ.set d v)
   | none => match (σ.less N).made o with
    | some m => (match m with | .box _ cs => cs.all (·.avoids N) | _ => true) = true ∧ (match σ.make m with
     | some σ' => K i σ'
     | none => False)
    | none => False) := by
  intro h
  split at h
  ·obtain ⟨h1,i,h2⟩ := h; exact ⟨i,h1,h2⟩
  ·split at h
   ·obtain ⟨h1,h2⟩ := h
    split at h2
    ·obtain ⟨i,h2⟩ := h2; exact ⟨i,h1,h2⟩
    ·exact h2.elim
   ·exact h.elim
 cases o <;> first
  | exact plain h
  | skip
 case call =>
  obtain ⟨ds,rs,h1,h2,h3,h4,i,h5⟩ := h
  exact ⟨i,ds,rs,h1,h2,h3,h4,h5⟩
 case callv =>
  obtain ⟨f,caps,ds,rs,h1,h0,h2,h3,h4,i,h5⟩ := h
  exact ⟨i,f,caps,ds,rs,h1,h0,h2,h3,h4,h5⟩
theorem no_ex {ι : Type} [Nonempty ι] {o : Option Nat} {K : ι → St → Prop} (h : match o with | some d => ∃ i,K i (σ.set d .no) | none => False) : ∃ i,(match o with | some d => K i (σ.set d .no) | none => False) := by
 cases o with
 | none => exact h.elim
 | some d => exact h
theorem aops_ex {ι : Type} [Nonempty ι] {K : ι → St → Prop} : ∀ {its : List AItem} {σ : St},aops P its (fun σ => ∃ i,K i σ) σ → ∃ i,aops P its (K i) σ
 | [],_,h => h
 | (g,o) :: r,σ,h => by
  refine aguard_ex (aguard_mono (fun h => ?_) (fun h => ?_) h)
  ·exact aop_ex (aop_mono (fun σ h => aops_ex h) h)
  ·refine no_ex (K := fun i => aops P r (K i)) ?_
   cases hd : o.dst with
   | none => simp [hd] at h
   | some d => simp only [hd] at h; exact aops_ex h
theorem adrw_ex {ι : Type} [Nonempty ι] {K : ι → St → Prop} : ∀ {its : List DItem} {σ : St},adrw P its (fun σ => ∃ i,K i σ) σ → ∃ i,adrw P its (K i) σ
 | [],_,h => h
 | (none,g,o) :: r,σ,h => by
  refine aguard_ex (aguard_mono (fun h => ?_) (fun h => ?_) h)
  ·exact aop_ex (aop_mono (fun σ h => by obtain ⟨h1,h2⟩ := h; obtain ⟨i,h3⟩ := adrw_ex h2; exact ⟨i,h1,h3⟩) h)
  ·refine no_ex (K := fun i σ => freshAll r σ = true ∧ adrw P r (K i) σ) ?_
   cases hd : o.dst with
   | none => simp [hd] at h
   | some d =>
    simp only [hd] at h
    obtain ⟨h1,h2⟩ := h
    obtain ⟨i,h3⟩ := adrw_ex h2
    exact ⟨i,h1,h3⟩
 | (some N,g,o) :: r,σ,h => by
  refine aguard_ex (aguard_mono (fun h => ?_) (fun h => ?_) h)
  ·exact agen_ex (agen_mono (fun σ h => adrw_ex h) h)
  ·refine no_ex (K := fun i => adrw P r (K i)) ?_
   cases hd : o.dst with
   | none => simp [hd] at h
   | some d => simp only [hd] at h; exact adrw_ex h
theorem awp_ex {ι : Type} [Nonempty ι] : ∀ (c : ACode) {Q : ι → AExit → St → Prop} {σ : St},AWP P c (fun e σ => ∃ i,Q i e σ) σ → ∃ i,AWP P c (Q i) σ := by
 intro c
 induction c with
 | skip => exact fun h => h
 | reg its => exact fun h => aops_ex h
 | drw its =>
  intro Q σ h
  obtain ⟨i,h2⟩ := adrw_ex h.2
  exact ⟨i,h.1,h2⟩
 | any its =>
  intro Q σ ⟨ks,bs,rs,τ,h1,i,h2⟩
  exact ⟨i,ks,bs,rs,τ,h1,h2⟩
 | seq x y ihx ihy =>
  intro Q σ h
  refine ihx (Q := fun i e σ' => match e with | .normal => AWP P y (Q i) σ' | e => Q i e σ') (awp_mono x (fun e σ' h => ?_) h)
  cases e with
  | normal => exact ihy h
  | exit id => exact h
  | ret => exact h
  | pan d => exact h
 | cond c x y ihx ihy =>
  intro Q σ h
  simp only [AWP] at h ⊢
  split at h
  ·rename_i b hb
   split at h
   ·rename_i e
    obtain ⟨i,h⟩ := ihx h
    exact ⟨i,by rw [if_pos e]; exact h⟩
   ·rename_i e
    obtain ⟨i,h⟩ := ihy h
    exact ⟨i,by rw [if_neg e]; exact h⟩
  ·exact h.elim
 | block id c ih =>
  intro Q σ h
  refine ih (Q := fun i e σ' => match e with | .exit j => if j = id then Q i .normal σ' else Q i (.exit j) σ' | e => Q i e σ') (awp_mono c (fun e σ' h => ?_) h)
  cases e with
  | normal => exact h
  | ret => exact h
  | pan d => exact h
  | exit j =>
   change (if j = id then ∃ i,Q i .normal σ' else ∃ i,Q i (.exit j) σ') at h
   change ∃ i,(if j = id then Q i .normal σ' else Q i (.exit j) σ')
   split at h
   ·rename_i e; simpa [e] using h
   ·rename_i e; simpa [e] using h
 | loop c ih =>
  intro Q σ h
  refine h (fun σ => ∃ i,AWP P (.loop c) (Q i) σ) fun σ' h' => ?_
  have h2 : ∃ i,AWP P c (fun e σ'' => match e with | .normal => AWP P (.loop c) (Q i) σ'' | e => Q i e σ'') σ' := by
   refine ih (Q := fun i e σ'' => match e with | .normal => AWP P (.loop c) (Q i) σ'' | e => Q i e σ'') (awp_mono c (fun e σ'' h => ?_) h')
   cases e <;> exact h
  obtain ⟨i,h2⟩ := h2
  refine ⟨i,fun X hX => hX σ' (awp_mono c (fun e σ'' h => ?_) h2)⟩
  cases e with
  | normal => exact h X hX
  | exit id => exact h
  | ret => exact h
  | pan d => exact h
 | pan its x =>
  intro Q σ h
  refine aops_ex (K := fun i σ' => ∃ d,σ'.val x = .v (.sc (.dat d)) ∧ d.flat = true ∧ isIfc d = true ∧ Q i (.pan d) σ') (aops_mono (fun σ h => ?_) h)
  obtain ⟨d,h1,h2,h3,i,h4⟩ := h
  exact ⟨i,d,h1,h2,h3,h4⟩
 | cal its d f args =>
  intro Q σ h
  refine aops_ex (K := fun i σ' => aop P (.call d f args) (Q i .normal) σ' ∨ ∃ ds pd,σ'.toDVs args = some ds ∧ FCp P f ds pd ∧ Q i (.pan pd) σ') (aops_mono (fun σ h => ?_) h)
  rcases h with h | ⟨ds,pd,h1,h2,i,h3⟩
  ·obtain ⟨i,h⟩ := aop_ex h
   exact ⟨i,.inl h⟩
  ·exact ⟨i,.inr ⟨ds,pd,h1,h2,h3⟩⟩
 | exit id => exact fun h => h
 | ret => exact fun h => h
end
end Go.Vi
