/-
  The value level: code. No condition.
-/
import Derived.Test.YtldjoojbhbbhdaaGreatDoorJVi22
namespace Go.Vi

section
variable {P : Program} {A : Nat → Prop} {B : Nat} {w0 : Base} {nt : Nat} {df : List Deferred}

/-- Where code ends, as its frame and world stand for it. -/
def post (A : Nat → Prop) (B : Nat) (w0 : Base) (nt : Nat) (df : List Deferred) (Q : AExit → St → Prop) : Exit → Act → World → Prop := fun e a w =>
  ∃ e' nm σ, e = AExit.conc e' ∧ Q e' σ ∧ Rel A B w0 nm σ a.tmps w ∧ a.tmps.size = nt ∧ a.defers = df

theorem aops_idle {K' : St → Prop} : ∀ (its : List AItem) (σ : St) {nm : Names} {tmps : Array Value} {w : World}, (∀ i ∈ its, i.2.idle = true) → aops P its K' σ → Rel A B w0 nm σ tmps w → ∃ nm' σ', K' σ' ∧ Rel A B w0 nm' σ' tmps w
  | [], σ, nm, tmps, w, _, h, R => ⟨nm, σ, h, R⟩
  | (g, o) :: its, σ, nm, tmps, w, hi, h, R => by
    have ho : o.idle = true := hi (g, o) (by simp)
    obtain ⟨σ', hs, hk⟩ := idle_item (P := P) (K' := aops P its K') ho h
    obtain ⟨nm', R'⟩ := idle_sound R ho hs
    exact aops_idle its σ' (fun i h => hi i (by simp [h])) hk R'

theorem strip_seq (x y : ACode) : (∃ its, x = .reg its ∧ (∀ i ∈ its, i.2.idle = true) ∧ (ACode.seq x y).strip = y.strip) ∨ (ACode.seq x y).strip = .seq x.strip y.strip := by
  cases x with
  | reg its =>
    cases hb : (!its.isEmpty && its.all fun i => i.2.idle) with
    | true =>
      simp only [Bool.and_eq_true, List.all_eq_true] at hb
      refine .inl ⟨its, rfl, hb.2, ?_⟩
      simp only [ACode.strip]
      rw [show (!its.isEmpty && its.all fun i => i.2.idle) = true by simp only [Bool.and_eq_true, List.all_eq_true]; exact hb]
      rfl
    | false =>
      refine .inr ?_
      simp only [ACode.strip, hb, cond_false]
  | _ => exact .inr rfl

theorem bool_of {X : Cx} {av : AV} {v : Value} {b : Bool} (H : VRel X av v) (h : av = .v (.sc (.dat (.bool b)))) : v = .bool b := by
  subst h
  cases H with | v hx =>
  cases hx with | sc hx =>
  cases hx with | dat hr =>
  cases hr
  rfl

theorem code_sound (hm : P.follows .mixedOrders = true) : ∀ (c : ACode) (C : Code) (Q : AExit → St → Prop) (nm : Names) (σ : St) (a : Act) (w : World), compCode P nt C = some c.strip → AWP P c Q σ → Rel A B w0 nm σ a.tmps w → a.tmps.size = nt → a.defers = df →
    C.wp P (post A B w0 nt df Q) a w := by
  intro c
  induction c with
  | skip =>
    intro C Q nm σ a w hc h R hnt hdf
    cases C <;> simp only [compCode, ACode.strip, Option.map_eq_some_iff] at hc
    case skip => exact wp_skip ⟨.normal, nm, σ, rfl, h, R, hnt, hdf⟩
    case label => exact wp_label ⟨.normal, nm, σ, rfl, h, R, hnt, hdf⟩
    case region id ops d => cases d <;> simp [compCode] at hc
    case seq => split at hc <;> cases hc
    case cond => split at hc <;> cases hc
    all_goals (first | (cases hc; done) | (obtain ⟨_, _, hc⟩ := hc; cases hc))
  | reg its =>
    intro C Q nm σ a w hc h R hnt hdf
    cases C <;> simp only [compCode, ACode.strip, Option.map_eq_some_iff] at hc
    case region id ops d =>
      cases d
      case false =>
        simp only [compCode, Option.map_eq_some_iff] at hc
        obtain ⟨is, h1, h2⟩ := hc
        cases h2
        refine wp_region_list (aops_sound its ops.toList σ a w nm R hnt h1 h fun nm' σ' a' w' k1 k2 k3 k4 => ⟨.normal, nm', σ', rfl, k1, k2, k3, k4.trans hdf⟩)
      case true =>
        simp only [compCode, Option.map_eq_some_iff] at hc
        obtain ⟨is, h1, h2⟩ := hc
        cases h2
    case seq => split at hc <;> cases hc
    case cond => split at hc <;> cases hc
    all_goals (first | (cases hc; done) | (obtain ⟨_, _, hc⟩ := hc; cases hc))
  | drw its =>
    intro C Q nm σ a w hc h R hnt hdf
    cases C <;> simp only [compCode, ACode.strip, Option.map_eq_some_iff] at hc
    case region id ops d =>
      cases d
      case false =>
        simp only [compCode, Option.map_eq_some_iff] at hc
        obtain ⟨is, h1, h2⟩ := hc
        cases h2
      case true =>
        simp only [compCode, Option.map_eq_some_iff] at hc
        obtain ⟨is, h1, h2⟩ := hc
        cases h2
        exact draw_sound hm R hnt h1 h.1 h.2 fun nm' σ' a' w' k1 k2 k3 k4 => ⟨.normal, nm', σ', rfl, k1, k2, k3, k4.trans hdf⟩
    case seq => split at hc <;> cases hc
    case cond => split at hc <;> cases hc
    all_goals (first | (cases hc; done) | (obtain ⟨_, _, hc⟩ := hc; cases hc))
  | seq x y ihx ihy =>
    intro C Q nm σ a w hc h R hnt hdf
    rcases strip_seq x y with ⟨its, rfl, hidle, hst⟩ | hst
    · rw [hst] at hc
      obtain ⟨nm', σ', hk, R'⟩ := aops_idle its σ hidle h R
      exact ihy C Q nm' σ' a w hc hk R' hnt hdf
    · rw [hst] at hc
      cases C <;> try simp only [compCode, Option.map_eq_some_iff] at hc
      case seq X Y =>
        split at hc
        · rename_i x' y' h1 h2
          cases hc
          refine wp_seq ?_
          refine wp_mono (ihx X _ nm σ a w h1 h R hnt hdf) fun e a' w' hp => ?_
          obtain ⟨e', nm', σ', rfl, hq, R', k1, k2⟩ := hp
          cases e' with
          | normal => exact ihy Y Q nm' σ' a' w' h2 hq R' k1 k2
          | exit id => exact ⟨.exit id, nm', σ', rfl, hq, R', k1, k2⟩
          | ret => exact ⟨.ret, nm', σ', rfl, hq, R', k1, k2⟩
        · cases hc
      case region id ops d => cases d <;> (simp only [compCode, Option.map_eq_some_iff] at hc; obtain ⟨_, _, hc⟩ := hc; cases hc)
      case cond => split at hc <;> cases hc
      all_goals (first | (cases hc; done) | (obtain ⟨_, _, hc⟩ := hc; cases hc))
  | cond c x y ihx ihy =>
    intro C Q nm σ a w hc h R hnt hdf
    cases C <;> simp only [compCode, ACode.strip, Option.map_eq_some_iff] at hc
    case cond c' X Y =>
      split at hc
      · rename_i h1 h2 h3
        cases hc
        simp only [AWP] at h
        split at h
        · rename_i b hb
          have hv := bool_of (opd_rel R h1) hb
          refine wp_cond hv ?_
          cases b
          · exact ihy Y Q nm σ a w h3 (by simpa using h) R hnt hdf
          · exact ihx X Q nm σ a w h2 (by simpa using h) R hnt hdf
        · exact h.elim
      · cases hc
    case region id ops d => cases d <;> (simp only [compCode, Option.map_eq_some_iff] at hc; obtain ⟨_, _, hc⟩ := hc; cases hc)
    case seq => split at hc <;> cases hc
    all_goals (first | (cases hc; done) | (obtain ⟨_, _, hc⟩ := hc; cases hc))
  | block id c ih =>
    intro C Q nm σ a w hc h R hnt hdf
    cases C <;> simp only [compCode, ACode.strip, Option.map_eq_some_iff] at hc
    case block id' X =>
      obtain ⟨x', h1, h2⟩ := hc
      cases h2
      refine wp_block (wp_mono (ih X _ nm σ a w h1 h R hnt hdf) fun e a' w' hp => ?_)
      obtain ⟨e', nm', σ', rfl, hq, R', k1, k2⟩ := hp
      cases e' with
      | normal => exact ⟨.normal, nm', σ', rfl, hq, R', k1, k2⟩
      | ret => exact ⟨.ret, nm', σ', rfl, hq, R', k1, k2⟩
      | exit i =>
        simp only [AExit.conc, Exit.inBlock]
        change (if i = id then Q .normal σ' else Q (.exit i) σ') at hq
        split
        · rename_i e
          rw [if_pos e] at hq
          exact ⟨.normal, nm', σ', rfl, hq, R', k1, k2⟩
        · rename_i e
          rw [if_neg e] at hq
          exact ⟨.exit i, nm', σ', rfl, hq, R', k1, k2⟩
    case region id ops d => cases d <;> (simp only [compCode, Option.map_eq_some_iff] at hc; obtain ⟨_, _, hc⟩ := hc; cases hc)
    case seq => split at hc <;> cases hc
    case cond => split at hc <;> cases hc
    all_goals (first | (cases hc; done) | (obtain ⟨_, _, hc⟩ := hc; cases hc))
  | loop c ih =>
    intro C Q nm σ a w hc h R hnt hdf
    cases C <;> simp only [compCode, ACode.strip, Option.map_eq_some_iff] at hc
    case loop X =>
      obtain ⟨x', h1, h2⟩ := hc
      cases h2
      have key := h (fun σ => ∀ (nm : Names) (a : Act) (w : World), Rel A B w0 nm σ a.tmps w → a.tmps.size = nt → a.defers = df → ∀ (b : Frame) (k : List Item) (cs : List Frame),
        ∃ e a' w', post A B w0 nt df Q e a' w' ∧ Arrives P (lone (b.at a (.code X :: .inLoop X :: k)) cs w) b k cs e a' w') (fun σ' h' nm a w R hnt hdf b k cs => by
          obtain ⟨e, a₁, w₁, hq, harr⟩ := ih X _ nm σ' a w h1 h' R hnt hdf b (.inLoop X :: k) cs
          obtain ⟨e', nm', σ'', rfl, hq, R', k1, k2⟩ := hq
          cases e' with
          | normal =>
            obtain ⟨e₂, a₂, w₂, hq₂, harr₂⟩ := hq nm' a₁ w₁ R' k1 k2 b k cs
            exact ⟨e₂, a₂, w₂, hq₂, .of_steps (Steps.trans harr (.one step_inLoop)) harr₂⟩
          | exit id => exact ⟨_, a₁, w₁, ⟨.exit id, nm', σ'', rfl, hq, R', k1, k2⟩, .pass (x := .inLoop X) rfl (fun _ _ => .inl (by simp [AExit.conc])) harr⟩
          | ret => exact ⟨_, a₁, w₁, ⟨.ret, nm', σ'', rfl, hq, R', k1, k2⟩, .pass (x := .inLoop X) rfl (fun _ _ => .inl (by simp [AExit.conc])) harr⟩)
      intro b k cs
      obtain ⟨e, a', w', hq, harr⟩ := key nm a w R hnt hdf b k cs
      exact ⟨e, a', w', hq, .of_steps (.one step_loop) harr⟩
    case region id ops d => cases d <;> (simp only [compCode, Option.map_eq_some_iff] at hc; obtain ⟨_, _, hc⟩ := hc; cases hc)
    case seq => split at hc <;> cases hc
    case cond => split at hc <;> cases hc
    all_goals (first | (cases hc; done) | (obtain ⟨_, _, hc⟩ := hc; cases hc))
  | exit id =>
    intro C Q nm σ a w hc h R hnt hdf
    cases C <;> simp only [compCode, ACode.strip, Option.map_eq_some_iff] at hc
    case exit id' => cases hc; exact wp_exit ⟨.exit id, nm, σ, rfl, h, R, hnt, hdf⟩
    case region id ops d => cases d <;> (simp only [compCode, Option.map_eq_some_iff] at hc; obtain ⟨_, _, hc⟩ := hc; cases hc)
    case seq => split at hc <;> cases hc
    case cond => split at hc <;> cases hc
    all_goals (first | (cases hc; done) | (obtain ⟨_, _, hc⟩ := hc; cases hc))
  | ret =>
    intro C Q nm σ a w hc h R hnt hdf
    cases C <;> simp only [compCode, ACode.strip, Option.map_eq_some_iff] at hc
    case ret => exact wp_ret ⟨.ret, nm, σ, rfl, h, R, hnt, hdf⟩
    case region id ops d => cases d <;> (simp only [compCode, Option.map_eq_some_iff] at hc; obtain ⟨_, _, hc⟩ := hc; cases hc)
    case seq => split at hc <;> cases hc
    case cond => split at hc <;> cases hc
    all_goals (first | (cases hc; done) | (obtain ⟨_, _, hc⟩ := hc; cases hc))
end
end Go.Vi
