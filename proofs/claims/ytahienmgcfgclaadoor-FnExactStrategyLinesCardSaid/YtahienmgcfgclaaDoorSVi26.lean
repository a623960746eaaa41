/-
  The value level: the evaluation of 'AWP' by rewriting: what is still to be done stands in a stack; the state is rewritten. First order throughout. No condition.
-/
import Derived.Test.YtahienmgcfgclaaDoorSVi25
namespace Go.Vi
inductive Fr where
 | code (c : ACode)
 | ops (its : List AItem)
 | dops (its : List DItem)
 | blk (id : Nat)
 | pick (v : AV) (x y : ACode)
 | gd (v : AV) (want : Bool) (o : AOp) (its : List AItem)
 | gdd (v : AV) (want : Bool) (N : Option (List Nat)) (o : AOp) (its : List DItem)
 | fr (b : Bool)
 | frs (its : List DItem)
 | panF (x : Opd)
 | calF (d : Nat) (f : FuncId) (args : List Opd)
def onSome {α : Type} (o : Option α) (f : α → Prop) : Prop :=
 match o with
 | some a => f a
 | none => False
def forkV (v : AV) (X Y Z : Prop) : Prop :=
 match v with
 | .v (.sc (.dat (.bool b))) => if b = true then X else Y
 | .no => Z
 | _ => False
def put1 (σ : St) (d : Nat) : Option AV → Option St
 | some v => some (σ.set d v)
 | none => none
def unw (σ : St) : Option Nat → Option St
 | some d => some (σ.set d .no)
 | none => none
def putN (σ : St) (N : List Nat) (d : Nat) : Option AV → Option St
 | some v => bif v.avoids N then some (σ.set d v) else none
 | none => none
def mkN (σ : St) (N : List Nat) : Option Mk → Option St
 | some (.box d cs) => bif cs.all (·.avoids N) then σ.make (.box d cs) else none
 | some (.row d sz es) => σ.make (.row d sz es)
 | none => none
def mk1 (σ : St) : Option Mk → Option St
 | some m => σ.make m
 | none => none
def go0 (P : Program) : List Fr → (AExit → St → Prop) → AExit → St → Prop
 | [],Q,e,σ => Q e σ
 | .code c :: k,Q,.normal,σ => AWP P c (go0 P k Q) σ
 | .ops its :: k,Q,.normal,σ => aops P its (go0 P k Q .normal) σ
 | .dops its :: k,Q,.normal,σ => adrw P its (go0 P k Q .normal) σ
 | .pick v x y :: k,Q,.normal,σ => forkV v (AWP P x (go0 P k Q) σ) (AWP P y (go0 P k Q) σ) False
 | .gd v want o its :: k,Q,.normal,σ => forkV v (bif want then aop P o (aops P its (go0 P k Q .normal)) σ else onSome o.dst fun d => aops P its (go0 P k Q .normal) (σ.set d .no))
   (bif want then onSome o.dst fun d => aops P its (go0 P k Q .normal) (σ.set d .no) else aop P o (aops P its (go0 P k Q .normal)) σ)
   (onSome o.dst fun d => aops P its (go0 P k Q .normal) (σ.set d .no))
 | .gdd v want N o its :: k,Q,.normal,σ => forkV v (bif want then adrw P ((N,none,o) :: its) (go0 P k Q .normal) σ else onSome o.dst fun d => adrw P its (go0 P k Q .normal) (σ.set d .no))
   (bif want then onSome o.dst fun d => adrw P its (go0 P k Q .normal) (σ.set d .no) else adrw P ((N,none,o) :: its) (go0 P k Q .normal) σ)
   (onSome o.dst fun d => adrw P its (go0 P k Q .normal) (σ.set d .no))
 | .fr b :: k,Q,.normal,σ => b = true ∧ go0 P k Q .normal σ
 | .frs its :: k,Q,.normal,σ => freshAll its σ = true ∧ adrw P its (go0 P k Q .normal) σ
 | .panF x :: k,Q,.normal,σ => ∃ d,σ.val x = .v (.sc (.dat d)) ∧ d.flat = true ∧ isIfc d = true ∧ go0 P k Q (.pan d) σ
 | .calF d f args :: k,Q,.normal,σ => aop P (.call d f args) (go0 P k Q .normal) σ ∨ ∃ ds pd,σ.toDVs args = some ds ∧ FCp P f ds pd ∧ go0 P k Q (.pan pd) σ
 | .blk id :: k,Q,.exit i,σ => if i = id then go0 P k Q .normal σ else go0 P k Q (.exit i) σ
 | _ :: k,Q,e,σ => go0 P k Q e σ
def go (P : Program) (k : List Fr) (Q : AExit → St → Prop) (e : AExit) : Option St → Prop
 | some σ => go0 P k Q e σ
 | none => False
def Again {ι : Type} (ok : ι → Prop) (S : ι → St) (μ : ι → Nat) (ks gs : List Nat) (i : ι) (σ : St) : Prop := ∃ j,ok j ∧ μ j < μ i ∧ σ.clean ks gs = S j
def roundQ {ι : Type} (ok : ι → Prop) (S : ι → St) (μ : ι → Nat) (ks gs : List Nat) (i : ι) (Q : AExit → St → Prop) : AExit → St → Prop
 | .normal,σ => Again ok S μ ks gs i σ
 | e,σ => Q e σ
def AOp.isPure : AOp → Bool
 | .mv .. | .pick .. | .build .. | .load .. | .nilc .. | .bin .. | .beq .. | .geq .. | .un .. | .conv .. | .slc .. | .sslc .. | .faddr .. | .field .. | .iaddr .. | .idx .. | .extr .. | .len .. | .slen .. | .sconv .. | .mm .. | .mkf .. | .zsl _ | .mkif .. | .tass .. => true
 | _ => false
def AOp.isMade : AOp → Bool
 | .box .. | .alloc .. | .bslice .. | .mksl .. | .zap .. => true
 | _ => false
def AOp.isCall : AOp → Bool
 | .call .. | .callv .. => true
 | .mv .. | .pick .. | .box .. | .alloc .. | .build .. | .bslice .. | .load .. | .store .. | .nilc .. | .bin .. | .beq .. | .geq .. | .un .. | .conv .. | .mksl .. | .slc .. | .sslc .. | .faddr .. | .field .. | .iaddr .. | .idx .. | .extr .. | .len .. | .slen .. | .sconv .. | .app .. | .mm .. | .mkf .. | .zsl _ | .zap .. | .mkif .. | .tass .. => false
 | .drop _ | .own .. | .ownb .. | .ren .. | .frz _ | .frzb _ | .forget _ | .keep .. | .cut _ => false
section
variable {P : Program} {k : List Fr} {Q : AExit → St → Prop} {σ : St} {its : List AItem} {ds : List DItem} {o : AOp} {N : List Nat}
theorem go_start {c : ACode} (h : go P [.code c] Q .normal (some σ)) : AWP P c Q σ := awp_mono c (fun _ _ h => h) h
theorem go_none {e} : go P k Q e none = False := rfl
theorem go_nil {e} : go P [] Q e (some σ) = Q e σ := rfl
theorem go_skip : go P (.code .skip :: k) Q .normal (some σ) = go P k Q .normal (some σ) := rfl
theorem go_reg : go P (.code (.reg its) :: k) Q .normal (some σ) = go P (.ops its :: k) Q .normal (some σ) := rfl
theorem go_drw : go P (.code (.drw ds) :: k) Q .normal (some σ) = go P (.fr (freshAll ds σ) :: .dops ds :: k) Q .normal (some σ) := rfl
theorem go_fr : go P (.fr true :: k) Q .normal (some σ) = go P k Q .normal (some σ) := by simp [go,go0]
theorem go_seq {x y : ACode} : go P (.code (.seq x y) :: k) Q .normal (some σ) = go P (.code x :: .code y :: k) Q .normal (some σ) := by
 simp only [go,go0,AWP]
 congr 1
 funext e σ'
 cases e <;> simp only [go0]
theorem go_block {id : Nat} {c : ACode} : go P (.code (.block id c) :: k) Q .normal (some σ) = go P (.code c :: .blk id :: k) Q .normal (some σ) := by
 simp only [go,go0,AWP]
 congr 1
 funext e σ'
 cases e <;> simp only [go0]
theorem go_exit {id : Nat} : go P (.code (.exit id) :: k) Q .normal (some σ) = go P k Q (.exit id) (some σ) := rfl
theorem go_ret : go P (.code .ret :: k) Q .normal (some σ) = go P k Q .ret (some σ) := rfl
theorem go_cond {c : Opd} {x y : ACode} : go P (.code (.cond c x y) :: k) Q .normal (some σ) = go P (.pick (σ.val c) x y :: k) Q .normal (some σ) := by
 show (match σ.val c with | .v (.sc (.dat (.bool b))) => if b = true then AWP P x (go0 P k Q) σ else AWP P y (go0 P k Q) σ | _ => False) = forkV (σ.val c) _ _ _
 unfold forkV
 generalize σ.val c = v
 cases v with
 | v x => cases x with
  | sc c => cases c with
   | dat d => cases d <;> rfl
   | _ => rfl
  | ag => rfl
 | _ => rfl
theorem go_pickT {x y : ACode} : go P (.pick (.v (.sc (.dat (.bool true)))) x y :: k) Q .normal (some σ) = go P (.code x :: k) Q .normal (some σ) := by simp [go,go0,forkV]
theorem go_pickF {x y : ACode} : go P (.pick (.v (.sc (.dat (.bool false)))) x y :: k) Q .normal (some σ) = go P (.code y :: k) Q .normal (some σ) := by simp [go,go0,forkV]
theorem go_pick {b : Bool} {x y : ACode} (h1 : b = true → go P (.code x :: k) Q .normal (some σ)) (h2 : b = false → go P (.code y :: k) Q .normal (some σ)) : go P (.pick (.v (.sc (.dat (.bool b)))) x y :: k) Q .normal (some σ) := by
 cases b
 ·rw [go_pickF]; exact h2 rfl
 ·rw [go_pickT]; exact h1 rfl
theorem go_pan {x : Opd} : go P (.code (.pan its x) :: k) Q .normal (some σ) = go P (.ops its :: .panF x :: k) Q .normal (some σ) := rfl
theorem go_cal {d f args} : go P (.code (.cal its d f args) :: k) Q .normal (some σ) = go P (.ops its :: .calF d f args :: k) Q .normal (some σ) := rfl
theorem go_panF {x : Opd} {d : D} (hx : σ.val x = .v (.sc (.dat d))) (hf : d.flat = true) (hi : isIfc d = true) (H : go P k Q (.pan d) (some σ)) : go P (.panF x :: k) Q .normal (some σ) := ⟨d,hx,hf,hi,H⟩
theorem go_calF {d f args} (H : go P (.ops [(none,.call d f args)] :: k) Q .normal (some σ)) : go P (.calF d f args :: k) Q .normal (some σ) := .inl H
theorem go_calP {d f args} {ds : List DV} {pd : D} (hf : FCp P f ds pd) (h1 : σ.toDVs args = some ds) (H : go P k Q (.pan pd) (some σ)) : go P (.calF d f args :: k) Q .normal (some σ) := .inr ⟨ds,pd,h1,hf,H⟩
theorem go_pass_pan {c : ACode} {d : D} : go P (.code c :: k) Q (.pan d) (some σ) = go P k Q (.pan d) (some σ) := rfl
theorem go_blk_pan {id : Nat} {d : D} : go P (.blk id :: k) Q (.pan d) (some σ) = go P k Q (.pan d) (some σ) := rfl
theorem go_any {its : List (List Nat × AItem)} {τ σ2 : St} {ks bs rs : List Nat} (h0 : (σ.kept ks bs rs).pad (its.filterMap fun i => i.2.2.dst) = σ2) (h1 : anyA P its τ its.length (its.map fun _ => false) σ2) (h2 : go P k Q .normal (some τ)) : go P (.code (.any its) :: k) Q .normal (some σ) :=
 ⟨ks,bs,rs,τ,h0 ▸ h1,h2⟩
def stepAll (P : Program) (its : List (List Nat × AItem)) (τ : St) (f : Nat) (ms : List Bool) (σ : St) : List (List Nat × AItem) → Nat → Prop
 | [],_ => True
 | it :: r,i => (ms[i]? = some false → (∀ j ∈ it.1,ms[j]? = some true) → go P [.ops [it.2]] (fun _ => anyA P its τ f (ms.set i true)) .normal (some σ)) ∧ stepAll P its τ f ms σ r (i + 1)
theorem stepAll_at {its : List (List Nat × AItem)} {τ : St} {f : Nat} {ms : List Bool} : ∀ {r : List (List Nat × AItem)} {n : Nat},stepAll P its τ f ms σ r n → ∀ (i : Nat) (it : List Nat × AItem),r[i]? = some it → ms[n + i]? = some false → (∀ j ∈ it.1,ms[j]? = some true) → go P [.ops [it.2]] (fun _ => anyA P its τ f (ms.set (n + i) true)) .normal (some σ)
 | [],_,_,i,it,hi,_,_ => by simp at hi
 | x :: r,n,h,0,it,hi,h1,h2 => by
  simp at hi
  subst hi
  exact h.1 h1 h2
 | x :: r,n,h,i + 1,it,hi,h1,h2 => by
  have := stepAll_at h.2 i it (by simpa using hi) (by rw [show n + 1 + i = n + (i + 1) by omega]; exact h1) h2
  rw [show n + 1 + i = n + (i + 1) by omega] at this
  exact this
theorem any_step {its : List (List Nat × AItem)} {τ : St} {f : Nat} {ms : List Bool} (h : stepAll P its τ f ms σ its 0) : anyA P its τ (f + 1) ms σ := by
 intro i it hi h1 h2
 have := stepAll_at h i it hi (by simpa using h1) h2
 rw [Nat.zero_add] at this
 exact this
theorem any_done {its : List (List Nat × AItem)} {τ : St} {ms : List Bool} (h : ms.all id = true) : ∀ f,anyA P its τ f ms τ
 | 0 => fun _ => rfl
 | f + 1 => fun i it _ h1 _ => by
  have := List.all_eq_true.1 h false (List.mem_of_getElem? h1)
  cases this
theorem go_pass_exit {c : ACode} {i : Nat} : go P (.code c :: k) Q (.exit i) (some σ) = go P k Q (.exit i) (some σ) := rfl
theorem go_pass_ret {c : ACode} : go P (.code c :: k) Q .ret (some σ) = go P k Q .ret (some σ) := rfl
theorem go_blk {id : Nat} : go P (.blk id :: k) Q .normal (some σ) = go P k Q .normal (some σ) := rfl
theorem go_blk_ret {id : Nat} : go P (.blk id :: k) Q .ret (some σ) = go P k Q .ret (some σ) := rfl
theorem go_blk_exit {id i : Nat} : go P (.blk id :: k) Q (.exit i) (some σ) = go P k Q (bif i == id then .normal else .exit i) (some σ) := by
 by_cases h : i = id
 ·simp [go,go0,h]
 ·have h' : (i == id) = false := by simpa using h
  simp [go,go0,h,h']
theorem go_ops_nil : go P (.ops [] :: k) Q .normal (some σ) = go P k Q .normal (some σ) := rfl
theorem go_dops_nil : go P (.dops [] :: k) Q .normal (some σ) = go P k Q .normal (some σ) := rfl
theorem aop_step {K : St → Prop} (h1 : ∀ d f args,o ≠ .call d f args) (h2 : ∀ d x args,o ≠ .callv d x args) : aop P o K σ = onSome (σ.step o) K := by
 cases o <;> first
  | rfl
  | (show (match St.step σ _ with | some σ' => K σ' | none => False) = onSome (St.step σ _) K; generalize St.step σ _ = x; cases x <;> rfl)
  | exact absurd rfl (h1 _ _ _)
  | exact absurd rfl (h2 _ _ _)
theorem step_pure (h : o.isPure = true) : σ.step o = (σ.pure o).map fun p => σ.set p.1 p.2 := by
 cases o <;> first
  | (simp [AOp.isPure] at h; done)
  | skip
 all_goals
  simp only [St.step,St.made]
  generalize σ.pure _ = x
  cases x <;> rfl
theorem step_made (h : o.isMade = true) : σ.step o = (σ.made o).bind σ.make := by
 cases o <;> first
  | (simp [AOp.isMade] at h; done)
  | skip
 all_goals
  simp only [St.step,St.pure]
  generalize σ.made _ = x
  cases x <;> rfl
theorem onSome_map {α β : Type} {x : Option α} {g : α → β} {f : β → Prop} : onSome (x.map g) f = onSome x fun a => f (g a) := by cases x <;> rfl
theorem onSome_bind {α β : Type} {x : Option α} {g : α → Option β} {f : β → Prop} : onSome (x.bind g) f = onSome x fun a => onSome (g a) f := by cases x <;> rfl
theorem go_op (h : o.isCall = false) : go P (.ops ((none,o) :: its) :: k) Q .normal (some σ) = go P (.ops its :: k) Q .normal (σ.step o) := by
 show aop P o (aops P its (go0 P k Q .normal)) σ = _
 rw [aop_step (by rintro _ _ _ rfl; simp [AOp.isCall] at h) (by rintro _ _ _ rfl; simp [AOp.isCall] at h)]
 cases σ.step o <;> rfl
def nodupN : List Nat → Bool
 | [] => true
 | x :: r => !r.contains x && nodupN r
theorem nodupN_spec : ∀ {l : List Nat},nodupN l = true → l.Nodup
 | [],_ => List.nodup_nil
 | x :: r,h => by
  simp only [nodupN,Bool.and_eq_true,Bool.not_eq_true',List.contains_eq_mem,decide_eq_false_iff_not] at h
  exact List.nodup_cons.2 ⟨h.1,nodupN_spec h.2⟩
theorem go_call {d f args} {xs : List DV} {rs : List R1} (hf : FC P f xs rs) (h1 : σ.toDVs args = some xs) (h2 : flatRs rs) (h3 : σ.fresh d = true) (h4 : (rs.flatMap R1.cells).length ≤ 64) (h5 : go P (.ops its :: k) Q .normal (some (σ.inst d rs))) :
  go P (.ops ((none,.call d f args) :: its) :: k) Q .normal (some σ) := .inl ⟨xs,rs,.inl ⟨h1,.inl h2⟩,hf,h3,h4,h5⟩
theorem go_callI {d f args} {xs : List DV} {rs : List R1} (hf : FC P f xs rs) (h1 : σ.toIVs args = some xs) (h3 : σ.fresh d = true) (h4 : (rs.flatMap R1.cells).length ≤ 64) (h5 : go P (.ops its :: k) Q .normal (some (σ.inst d rs))) :
  go P (.ops ((none,.call d f args) :: its) :: k) Q .normal (some σ) := .inl ⟨xs,rs,.inr h1,hf,h3,h4,h5⟩
theorem go_callx {d f args} {ids : List Nat} {xs : List XV} {R0 R1 : RowL} {r : D} (hf : FCx P f xs R0 R1 r) (h0 : nodupN ids = true) (h1 : σ.toXVs ids args = some xs) (h2 : rowsAt σ.rows ids = some R0) (h3 : flatRow R0) (h4 : sameLen R0 R1 = true) (h5 : go P (.ops its :: k) Q .normal (some (σ.instX d ids R1 r))) :
  go P (.ops ((none,.call d f args) :: its) :: k) Q .normal (some σ) := .inr (.inl ⟨ids,xs,R0,R1,r,⟨nodupN_spec h0,h1,h2,h3,h4⟩,hf,h5⟩)
theorem go_callc {d f args} {σ' : St} {r : AV} (hf : CallC P f (args.map σ.val) σ σ' r) (h5 : go P (.ops its :: k) Q .normal (some (σ'.set d r))) : go P (.ops ((none,.call d f args) :: its) :: k) Q .normal (some σ) := .inr (.inr ⟨σ',r,hf,h5⟩)
theorem go_callv {d x args f caps} {xs : List DV} {rs : List R1} (hf : FC P f (xs ++ caps.map .sc) rs) (h0 : okFn P f = true) (hx : σ.toDV (σ.val x) = some (.sc (.clo f caps))) (h1 : σ.toDVs args = some xs) (h2 : flatRs rs) (h3 : σ.fresh d = true) (h4 : (rs.flatMap R1.cells).length ≤ 64)
  (h5 : go P (.ops its :: k) Q .normal (some (σ.inst d rs))) : go P (.ops ((none,.callv d x args) :: its) :: k) Q .normal (some σ) := ⟨f,caps,xs,rs,.inl ⟨hx,h1,h2⟩,h0,hf,h3,h4,h5⟩
theorem step_pure1 (h : o.isPure = true) : σ.step o = (σ.pure o).bind fun p => put1 σ p.1 (some p.2) := by
 rw [step_pure h]
 cases σ.pure o <;> rfl
theorem tag {d : Nat} {x : Option AV} : ((x.map (Prod.mk d)).bind fun p => put1 σ p.1 (some p.2)) = put1 σ d x := by cases x <;> rfl
theorem step_mv {d x} : σ.step (.mv d x) = some (σ.set d (σ.val x)) := rfl
theorem step_pick {d c a b} : σ.step (.pick d c a b) = put1 σ d (pickV (σ.val c) (σ.val a) (σ.val b)) := (step_pure1 rfl).trans tag
theorem step_build {d zs ps} : σ.step (.build d zs ps) = put1 σ d ((fillC zs (ps.map fun p => (p.1,p.2.1,σ.val p.2.2))).map fun cs => .v (.ag cs)) := by
 rw [step_pure1 rfl]
 simp only [St.pure]
 cases fillC zs (ps.map fun p => (p.1,p.2.1,σ.val p.2.2)) <;> rfl
theorem step_load {d x g n} : σ.step (.load d x g n) = put1 σ d (loadV σ g n (σ.val x)) := (step_pure1 rfl).trans tag
theorem step_nilc {d x} : σ.step (.nilc d x) = put1 σ d (nilcV (σ.val x)) := (step_pure1 rfl).trans tag
theorem step_bin {d op x y} : σ.step (.bin d op x y) = put1 σ d (binV op (σ.val x) (σ.val y)) := (step_pure1 rfl).trans tag
theorem step_geq {d g ks x y} : σ.step (.geq d g ks x y) = put1 σ d (geqV g ks (σ.val x) (σ.val y)) := (step_pure1 rfl).trans tag
theorem step_beq {d g x y} : σ.step (.beq d g x y) = put1 σ d (beqV g (σ.val x) (σ.val y)) := (step_pure1 rfl).trans tag
theorem step_un {d op x} : σ.step (.un d op x) = put1 σ d (unV op (σ.val x)) := (step_pure1 rfl).trans tag
def convV (k : IntKind) : AV → Option AV
 | .v (.sc (.dat (.int _ n))) => some (.v (.sc (.dat (.int k (k.wrap n)))))
 | _ => none
theorem step_conv {d kd x} : σ.step (.conv d kd x) = put1 σ d (convV kd (σ.val x)) := by
 rw [step_pure1 rfl]
 simp only [St.pure]
 generalize σ.val x = v
 cases v with
 | v x => cases x with
  | sc c => cases c with
   | dat d => cases d <;> rfl
   | _ => rfl
  | ag => rfl
 | _ => rfl
theorem step_slc {d sz x lo hi mx} : σ.step (.slc d sz x lo hi mx) = put1 σ d (slcV σ sz (σ.val x) lo hi mx) := (step_pure1 rfl).trans tag
theorem step_sslc {d x lo hi} : σ.step (.sslc d x lo hi) = put1 σ d (sslcV σ (σ.val x) lo hi) := (step_pure1 rfl).trans tag
theorem step_faddr {d x off} : σ.step (.faddr d x off) = put1 σ d (faddrV σ.rows off (σ.val x)) := (step_pure1 rfl).trans tag
theorem step_field {d x off g n} : σ.step (.field d x off g n) = put1 σ d (fieldV off g n (σ.val x)) := (step_pure1 rfl).trans tag
theorem step_iaddr {d x i sz} : σ.step (.iaddr d x i sz) = put1 σ d (iaddrV σ.rows sz (σ.val x) (σ.val i)) := (step_pure1 rfl).trans tag
theorem step_idx {d x i} : σ.step (.idx d x i) = put1 σ d (idxV (σ.val x) (σ.val i)) := (step_pure1 rfl).trans tag
theorem step_mkif {d t x} : σ.step (.mkif d t x) = put1 σ d (mkifV t (σ.val x)) := (step_pure1 rfl).trans tag
theorem step_tass {d x t zc} : σ.step (.tass d x t zc) = put1 σ d (tassV t zc (σ.val x)) := (step_pure1 rfl).trans tag
theorem step_extr {d x i} : σ.step (.extr d x i) = put1 σ d (extrV i (σ.val x)) := (step_pure1 rfl).trans tag
theorem step_len {d x} : σ.step (.len d x) = put1 σ d (lenV σ.rows (σ.val x)) := (step_pure1 rfl).trans tag
theorem step_sconv {d x} : σ.step (.sconv d x) = put1 σ d (sconvV σ.rows (σ.val x)) := (step_pure1 rfl).trans tag
theorem step_slen {d x} : σ.step (.slen d x) = put1 σ d (slenV (σ.val x)) := (step_pure1 rfl).trans tag
theorem step_mm {d m x y} : σ.step (.mm d m x y) = put1 σ d (mmV m (σ.val x) (σ.val y)) := (step_pure1 rfl).trans tag
theorem step_mkf {d f caps} : σ.step (.mkf d f caps) = put1 σ d ((mkfV f (caps.map σ.val)).map fun ids => .v (.sc (.clo f ids))) := by
 rw [step_pure1 rfl]
 simp only [St.pure]
 cases mkfV f (caps.map σ.val) <;> rfl
theorem step_mk (h : o.isMade = true) : σ.step o = mk1 σ (σ.made o) := by
 rw [step_made h]
 cases σ.made o <;> rfl
theorem step_store {x y n} : σ.step (.store x y n) = σ.storeV n (σ.val x) (σ.val y) := rfl
theorem step_app {d sz b x y} : σ.step (.app d sz b x y) = σ.appV d sz b (σ.val x) (σ.val y) := rfl
theorem step_drop {ks} : σ.step (.drop ks) = some (σ.drop ks) := rfl
theorem put1_some {d v} : put1 σ d (some v) = some (σ.set d v) := rfl
theorem put1_none {d} : put1 σ d none = none := rfl
theorem aguardT {t : Nat} {yes no : Prop} : aguard (some (t,true)) σ yes no = forkV (σ.get t) yes no no := by
 simp only [aguard,forkV]
 generalize σ.get t = v
 cases v with
 | v x => cases x with
  | sc c => cases c with
   | dat d => cases d <;> rfl
   | _ => rfl
  | ag => rfl
 | _ => rfl
theorem aguardF {t : Nat} {yes no : Prop} : aguard (some (t,false)) σ yes no = forkV (σ.get t) no yes no := by
 simp only [aguard,forkV]
 generalize σ.get t = v
 cases v with
 | v x => cases x with
  | sc c => cases c with
   | dat d => cases d with
    | bool b => cases b <;> simp
    | _ => rfl
   | _ => rfl
  | ag => rfl
 | _ => rfl
theorem go_guardT {t} : go P (.ops ((some (t,true),o) :: its) :: k) Q .normal (some σ) = go P (.gd (σ.get t) true o its :: k) Q .normal (some σ) := by
 show aguard (some (t,true)) σ _ _ = _
 rw [aguardT]
 show _ = forkV _ _ _ _
 simp only [cond_true]
 congr 1 <;> (cases o.dst <;> rfl)
theorem go_guardF {t} : go P (.ops ((some (t,false),o) :: its) :: k) Q .normal (some σ) = go P (.gd (σ.get t) false o its :: k) Q .normal (some σ) := by
 show aguard (some (t,false)) σ _ _ = _
 rw [aguardF]
 show _ = forkV _ _ _ _
 simp only [cond_false]
 congr 1 <;> (cases o.dst <;> rfl)
theorem go_gd_yes {b : Bool} : go P (.gd (.v (.sc (.dat (.bool b)))) b o its :: k) Q .normal (some σ) = go P (.ops ((none,o) :: its) :: k) Q .normal (some σ) := by
 cases b <;> (simp only [go,go0,forkV,cond_true,cond_false]; simp [aops,aguard])
theorem go_gd_noT : go P (.gd (.v (.sc (.dat (.bool false)))) true o its :: k) Q .normal (some σ) = go P (.ops its :: k) Q .normal (unw σ o.dst) := by
 simp only [go,go0,forkV,cond_true]
 cases o.dst <;> simp [onSome,unw]
theorem go_gd_noF : go P (.gd (.v (.sc (.dat (.bool true)))) false o its :: k) Q .normal (some σ) = go P (.ops its :: k) Q .normal (unw σ o.dst) := by
 simp only [go,go0,forkV,cond_false]
 cases o.dst <;> simp [onSome,unw]
theorem go_mv {d x} : go P (.ops ((none,.mv d x) :: its) :: k) Q .normal (some σ) = go P (.ops its :: k) Q .normal (some (σ.set d (σ.val x))) := by
 rw [go_op rfl,step_mv]
theorem go_opick {d c a b} : go P (.ops ((none,.pick d c a b) :: its) :: k) Q .normal (some σ) = go P (.ops its :: k) Q .normal (put1 σ d (pickV (σ.val c) (σ.val a) (σ.val b))) := by
 rw [go_op rfl,step_pick]
theorem go_build {d zs ps} : go P (.ops ((none,.build d zs ps) :: its) :: k) Q .normal (some σ) = go P (.ops its :: k) Q .normal (put1 σ d ((fillC zs (ps.map fun p => (p.1,p.2.1,σ.val p.2.2))).map fun cs => .v (.ag cs))) := by
 rw [go_op rfl,step_build]
theorem go_load {d x g n} : go P (.ops ((none,.load d x g n) :: its) :: k) Q .normal (some σ) = go P (.ops its :: k) Q .normal (put1 σ d (loadV σ g n (σ.val x))) := by
 rw [go_op rfl,step_load]
theorem go_nilc {d x} : go P (.ops ((none,.nilc d x) :: its) :: k) Q .normal (some σ) = go P (.ops its :: k) Q .normal (put1 σ d (nilcV (σ.val x))) := by
 rw [go_op rfl,step_nilc]
theorem go_bin {d op x y} : go P (.ops ((none,.bin d op x y) :: its) :: k) Q .normal (some σ) = go P (.ops its :: k) Q .normal (put1 σ d (binV op (σ.val x) (σ.val y))) := by
 rw [go_op rfl,step_bin]
theorem go_geq {d g ks x y} : go P (.ops ((none,.geq d g ks x y) :: its) :: k) Q .normal (some σ) = go P (.ops its :: k) Q .normal (put1 σ d (geqV g ks (σ.val x) (σ.val y))) := by
 rw [go_op rfl,step_geq]
theorem go_beq {d g x y} : go P (.ops ((none,.beq d g x y) :: its) :: k) Q .normal (some σ) = go P (.ops its :: k) Q .normal (put1 σ d (beqV g (σ.val x) (σ.val y))) := by
 rw [go_op rfl,step_beq]
theorem go_un {d op x} : go P (.ops ((none,.un d op x) :: its) :: k) Q .normal (some σ) = go P (.ops its :: k) Q .normal (put1 σ d (unV op (σ.val x))) := by
 rw [go_op rfl,step_un]
theorem go_conv {d kd x} : go P (.ops ((none,.conv d kd x) :: its) :: k) Q .normal (some σ) = go P (.ops its :: k) Q .normal (put1 σ d (convV kd (σ.val x))) := by
 rw [go_op rfl,step_conv]
theorem go_slc {d sz x lo hi mx} : go P (.ops ((none,.slc d sz x lo hi mx) :: its) :: k) Q .normal (some σ) = go P (.ops its :: k) Q .normal (put1 σ d (slcV σ sz (σ.val x) lo hi mx)) := by
 rw [go_op rfl,step_slc]
theorem go_sslc {d x lo hi} : go P (.ops ((none,.sslc d x lo hi) :: its) :: k) Q .normal (some σ) = go P (.ops its :: k) Q .normal (put1 σ d (sslcV σ (σ.val x) lo hi)) := by
 rw [go_op rfl,step_sslc]
theorem go_faddr {d x off} : go P (.ops ((none,.faddr d x off) :: its) :: k) Q .normal (some σ) = go P (.ops its :: k) Q .normal (put1 σ d (faddrV σ.rows off (σ.val x))) := by
 rw [go_op rfl,step_faddr]
theorem go_field {d x off g n} : go P (.ops ((none,.field d x off g n) :: its) :: k) Q .normal (some σ) = go P (.ops its :: k) Q .normal (put1 σ d (fieldV off g n (σ.val x))) := by
 rw [go_op rfl,step_field]
theorem go_iaddr {d x i sz} : go P (.ops ((none,.iaddr d x i sz) :: its) :: k) Q .normal (some σ) = go P (.ops its :: k) Q .normal (put1 σ d (iaddrV σ.rows sz (σ.val x) (σ.val i))) := by
 rw [go_op rfl,step_iaddr]
theorem go_idx {d x i} : go P (.ops ((none,.idx d x i) :: its) :: k) Q .normal (some σ) = go P (.ops its :: k) Q .normal (put1 σ d (idxV (σ.val x) (σ.val i))) := by
 rw [go_op rfl,step_idx]
theorem go_mkif {d t x} : go P (.ops ((none,.mkif d t x) :: its) :: k) Q .normal (some σ) = go P (.ops its :: k) Q .normal (put1 σ d (mkifV t (σ.val x))) := by
 rw [go_op rfl,step_mkif]
theorem go_tass {d x t zc} : go P (.ops ((none,.tass d x t zc) :: its) :: k) Q .normal (some σ) = go P (.ops its :: k) Q .normal (put1 σ d (tassV t zc (σ.val x))) := by
 rw [go_op rfl,step_tass]
theorem go_frzb {id} : go P (.ops ((none,.frzb id) :: its) :: k) Q .normal (some σ) = go P (.ops its :: k) Q .normal (σ.step (.frzb id)) := go_op rfl
theorem go_extr {d x i} : go P (.ops ((none,.extr d x i) :: its) :: k) Q .normal (some σ) = go P (.ops its :: k) Q .normal (put1 σ d (extrV i (σ.val x))) := by
 rw [go_op rfl,step_extr]
theorem go_len {d x} : go P (.ops ((none,.len d x) :: its) :: k) Q .normal (some σ) = go P (.ops its :: k) Q .normal (put1 σ d (lenV σ.rows (σ.val x))) := by
 rw [go_op rfl,step_len]
theorem go_sconv {d x} : go P (.ops ((none,.sconv d x) :: its) :: k) Q .normal (some σ) = go P (.ops its :: k) Q .normal (put1 σ d (sconvV σ.rows (σ.val x))) := by
 rw [go_op rfl,step_sconv]
theorem go_slen {d x} : go P (.ops ((none,.slen d x) :: its) :: k) Q .normal (some σ) = go P (.ops its :: k) Q .normal (put1 σ d (slenV (σ.val x))) := by
 rw [go_op rfl,step_slen]
theorem go_mm {d m x y} : go P (.ops ((none,.mm d m x y) :: its) :: k) Q .normal (some σ) = go P (.ops its :: k) Q .normal (put1 σ d (mmV m (σ.val x) (σ.val y))) := by
 rw [go_op rfl,step_mm]
theorem go_mkf {d f caps} : go P (.ops ((none,.mkf d f caps) :: its) :: k) Q .normal (some σ) = go P (.ops its :: k) Q .normal (put1 σ d ((mkfV f (caps.map σ.val)).map fun ids => .v (.sc (.clo f ids)))) := by
 rw [go_op rfl,step_mkf]
theorem go_store {x y n} : go P (.ops ((none,.store x y n) :: its) :: k) Q .normal (some σ) = go P (.ops its :: k) Q .normal (σ.storeV n (σ.val x) (σ.val y)) := by
 rw [go_op rfl,step_store]
theorem go_app {d sz b x y} : go P (.ops ((none,.app d sz b x y) :: its) :: k) Q .normal (some σ) = go P (.ops its :: k) Q .normal (σ.appV d sz b (σ.val x) (σ.val y)) := by
 rw [go_op rfl,step_app]
theorem go_drop {ks} : go P (.ops ((none,.drop ks) :: its) :: k) Q .normal (some σ) = go P (.ops its :: k) Q .normal (some (σ.drop ks)) := by
 rw [go_op rfl,step_drop]
theorem go_box {d x} : go P (.ops ((none,.box d x) :: its) :: k) Q .normal (some σ) = go P (.ops its :: k) Q .normal (mk1 σ (σ.made (.box d x))) := by
 rw [go_op rfl,step_mk rfl]
theorem go_alloc {d cs} : go P (.ops ((none,.alloc d cs) :: its) :: k) Q .normal (some σ) = go P (.ops its :: k) Q .normal (mk1 σ (σ.made (.alloc d cs))) := by
 rw [go_op rfl,step_mk rfl]
theorem go_bslice {d sz zs len ps} : go P (.ops ((none,.bslice d sz zs len ps) :: its) :: k) Q .normal (some σ) = go P (.ops its :: k) Q .normal (mk1 σ (σ.made (.bslice d sz zs len ps))) := by
 rw [go_op rfl,step_mk rfl]
theorem go_mksl {d sz b zs x y} : go P (.ops ((none,.mksl d sz b zs x y) :: its) :: k) Q .normal (some σ) = go P (.ops its :: k) Q .normal (mk1 σ (σ.made (.mksl d sz b zs x y))) := by
 rw [go_op rfl,step_mk rfl]
theorem go_own {d j id sz} : go P (.ops ((none,.own d j id sz) :: its) :: k) Q .normal (some σ) = go P (.ops its :: k) Q .normal (σ.step (.own d j id sz)) := go_op rfl
theorem go_ownb {d j id sz} : go P (.ops ((none,.ownb d j id sz) :: its) :: k) Q .normal (some σ) = go P (.ops its :: k) Q .normal (σ.step (.ownb d j id sz)) := go_op rfl
theorem go_ren {a b} : go P (.ops ((none,.ren a b) :: its) :: k) Q .normal (some σ) = go P (.ops its :: k) Q .normal (σ.step (.ren a b)) := go_op rfl
theorem go_frz {id} : go P (.ops ((none,.frz id) :: its) :: k) Q .normal (some σ) = go P (.ops its :: k) Q .normal (σ.step (.frz id)) := go_op rfl
theorem go_forget {gs} : go P (.ops ((none,.forget gs) :: its) :: k) Q .normal (some σ) = go P (.ops its :: k) Q .normal (σ.step (.forget gs)) := go_op rfl
theorem go_frs {its : List DItem} : go P (.frs its :: k) Q .normal (some σ) = go P (.fr (freshAll its σ) :: .dops its :: k) Q .normal (some σ) := rfl
theorem go_fr_of {b : Bool} (hb : b = true) (h : go P k Q .normal (some σ)) : go P (.fr b :: k) Q .normal (some σ) := ⟨hb,h⟩
theorem go_bar {its : List DItem} : go P (.dops ((none,none,o) :: its) :: k) Q .normal (some σ) = go P (.ops [(none,o)] :: .frs its :: k) Q .normal (some σ) := rfl
theorem all_true {α : Type} {l : List α} {f : α → Bool} (h : ∀ x,f x = true) : l.all f = true := List.all_eq_true.2 fun x _ => h x
def genK (τ σ : St) (N : List Nat) (o : AOp) (K : St → Prop) : Prop :=
 match τ.pure o with
 | some (d,v) => v.avoids N = true ∧ K (σ.set d v)
 | none => match τ.made o with
  | some m => (match m with | .box _ cs => cs.all (·.avoids N) | _ => true) = true ∧ (match σ.make m with
   | some σ' => K σ'
   | none => False)
  | none => False
theorem agen_gen {K : St → Prop} (hc : o.isCall = false) : agen P N o K σ = genK (σ.less N) σ N o K := by
 cases o <;> first
  | rfl
  | (simp [AOp.isCall] at hc; done)
theorem step_gen (hc : o.isCall = false) (hg : o.gentle = true) : σ.step o = (match σ.pure o with
  | some (d,v) => some (σ.set d v)
  | none => match σ.made o with
   | some m => σ.make m
   | none => none) := by
 cases o <;> first
  | rfl
  | (simp [AOp.isCall] at hc; done)
  | (simp [AOp.gentle] at hg; done)
theorem agen_nil {K : St → Prop} (hg : o.gentle = true) (hc : o.isCall = false) : agen P [] o K σ = aop P o K σ := by
 cases hc : o.isCall with
 | true => simp_all
 | false =>
  rw [agen_gen hc,aop_step (by rintro _ _ _ rfl; simp [AOp.isCall] at hc) (by rintro _ _ _ rfl; simp [AOp.isCall] at hc),step_gen hc hg]
  unfold genK
  show (match σ.pure o with | some (d,v) => v.avoids [] = true ∧ K (σ.set d v) | none => _) = _
  cases hp : σ.pure o with
  | some p =>
   have hav : p.2.avoids [] = true := all_true fun c => rfl
   simp only [onSome,hav,true_and]
  | none =>
   show (match σ.made o with | some m => _ | none => False) = _
   cases hm : σ.made o with
   | none => rfl
   | some m =>
    cases m with
    | box d cs =>
     have hav : cs.all (·.avoids []) = true := all_true fun c => rfl
     show (cs.all (·.avoids []) = true ∧ (match σ.make (.box d cs) with | some σ' => K σ' | none => False)) = onSome (σ.make (.box d cs)) K
     rw [hav]
     cases σ.make (.box d cs) <;> simp [onSome]
    | row d sz es =>
     show (true = true ∧ (match σ.make (.row d sz es) with | some σ' => K σ' | none => False)) = onSome (σ.make (.row d sz es)) K
     cases σ.make (.row d sz es) <;> simp [onSome]
theorem go_dop0 {its : List DItem} (hg : o.gentle = true) (hc : o.isCall = false) : go P (.dops ((some [],none,o) :: its) :: k) Q .normal (some σ) = go P (.ops [(none,o)] :: .dops its :: k) Q .normal (some σ) :=
 agen_nil hg hc
def takeN (σ : St) (N : List Nat) : Option Nat → Option St → Option St
 | some d,some τ => bif (τ.get d).avoids N then some (σ.set d (τ.get d)) else none
 | _,_ => none
theorem go_dopN {its : List DItem} (hp : o.isPure = true) : go P (.dops ((some N,none,o) :: its) :: k) Q .normal (some σ) = go P (.dops its :: k) Q .normal (takeN σ N o.dst ((σ.less N).step o)) := by
 have hc : o.isCall = false := by cases o <;> first | rfl | (simp [AOp.isPure] at hp; done)
 show agen P N o _ σ = _
 rw [agen_gen hc,step_pure hp]
 unfold genK
 cases h : (σ.less N).pure o with
 | some p =>
  obtain ⟨d,v⟩ := p
  rw [(pure_dst h).1]
  show (v.avoids N = true ∧ _) = go P (.dops its :: k) Q .normal (bif (((σ.less N).set d v).get d).avoids N then some (σ.set d (((σ.less N).set d v).get d)) else none)
  rw [St.get_set_same]
  cases v.avoids N with
  | true => simp [go,go0]
  | false => simp [go]
 | none =>
  have hm : (σ.less N).made o = none := by cases o <;> first | rfl | (simp [AOp.isPure] at hp; done)
  show (match (σ.less N).made o with | some m => _ | none => False) = _
  rw [hm]
  cases o.dst <;> rfl
def mkOk (N : List Nat) : Mk → Bool
 | .box _ cs => cs.all (·.avoids N)
 | _ => true
theorem go_dmade {its : List DItem} {m : Mk} (hm : (σ.less N).made o = some m) (hv : mkOk N m = true) {σ' : St} (hmk : σ.make m = some σ') (h : go P (.dops its :: k) Q .normal (some σ')) :
  go P (.dops ((some N,none,o) :: its) :: k) Q .normal (some σ) := by
 have hc : o.isCall = false := by cases o <;> first | rfl | (simp [St.made] at hm; done)
 show agen P N o _ σ
 rw [agen_gen hc]
 unfold genK
 rw [made_pure hm]
 simp only [hm,hmk]
 cases m with
 | box d cs => exact ⟨hv,h⟩
 | row d sz es => exact ⟨rfl,h⟩
theorem go_dcall {its : List DItem} {d f args} {xs : List DV} {rs : List R1} (hf : FC P f xs rs) (h1 : (σ.less N).toDVs args = some xs) (h2 : flatRs rs) (h3 : σ.fresh d = true) (h4 : (rs.flatMap R1.cells).length ≤ 64) (h5 : go P (.dops its :: k) Q .normal (some (σ.inst d rs))) :
  go P (.dops ((some N,none,.call d f args) :: its) :: k) Q .normal (some σ) := ⟨xs,rs,.inl ⟨h1,.inl h2⟩,hf,h3,h4,h5⟩
theorem go_dcallI {its : List DItem} {d f args} {xs : List DV} {rs : List R1} (hf : FC P f xs rs) (h1 : (σ.less N).toIVs args = some xs) (h3 : σ.fresh d = true) (h4 : (rs.flatMap R1.cells).length ≤ 64) (h5 : go P (.dops its :: k) Q .normal (some (σ.inst d rs))) :
  go P (.dops ((some N,none,.call d f args) :: its) :: k) Q .normal (some σ) := ⟨xs,rs,.inr h1,hf,h3,h4,h5⟩
theorem go_loop {ι : Type} (ks gs : List Nat) (ok : ι → Prop) (S : ι → St) (μ : ι → Nat) (i0 : ι) {c : ACode} (h0 : ok i0) (hS : σ.clean ks gs = S i0)
  (hr : ∀ i,ok i → go P [.code c] (roundQ ok S μ ks gs i (go0 P k Q)) .normal (some (S i))) : go P (.code (.loop (.seq (.reg [(none,.drop ks),(none,.forget gs)]) c)) :: k) Q .normal (some σ) := by
 show AWP P _ _ σ
 refine awp_loop ks gs ok S μ i0 h0 hS fun i hi => ?_
 refine awp_mono c (fun e σ' h => ?_) (hr i hi)
 cases e <;> exact h
end
end Go.Vi
