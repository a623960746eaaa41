/-
  The value level: the evaluation of 'AWP' by rewriting: what is still to be done stands in a stack; the state is rewritten. First order throughout. No condition.
-/
import Derived.Test.YtahienmgcfgclaaGVi25
namespace Go.Vi
set_option linter.unusedSimpArgs false
set_option linter.unusedVariables false
inductive Fr where
 | code (c : ACode)
 | ops (its : List AItem)
 | dops (its : List DItem)
 | blk (id : Nat)
 | pick (v : AV) (x y : ACode)
 | gd (v : AV) (want : Bool) (o : AOp) (its : List AItem)
 | gdd (v : AV) (want : Bool) (N : Option (List Nat)) (o : AOp) (its : List DItem)
 | fr (b : Bool)
 | frs (its : List DItem)
 | panF (x : Opd)
 | calF (d : Nat) (f : FuncId) (args : List Opd)
def P7 {α : Type} (o : Option α) (f : α → Prop) : Prop :=
 match o with
 | some a => f a
 | none => False
def Q2 (v : AV) (X Y Z : Prop) : Prop :=
 match v with
 | .v (.sc (.dat (.bool b))) => if b = true then X else Y
 | .no => Z
 | _ => False
def F1 (σ : St) (d : Nat) : Option AV → Option St
 | some v => some (σ.set d v)
 | none => none
def unw (σ : St) : Option Nat → Option St
 | some d => some (σ.set d .no)
 | none => none
def mk1 (σ : St) : Option Mk → Option St
 | some m => σ.make m
 | none => none
def go0 (P : Program) : List Fr → (AExit → St → Prop) → AExit → St → Prop
 | [],Q,e,σ => Q e σ
 | .code c :: k,Q,.normal,σ => AWP P c (go0 P k Q) σ
 | .ops its :: k,Q,.normal,σ => P1 P its (go0 P k Q .normal) σ
 | .dops its :: k,Q,.normal,σ => A1k P its (go0 P k Q .normal) σ
 | .pick v x y :: k,Q,.normal,σ => Q2 v (AWP P x (go0 P k Q) σ) (AWP P y (go0 P k Q) σ) False
 | .gd v want o its :: k,Q,.normal,σ => Q2 v (bif want then aop P o (P1 P its (go0 P k Q .normal)) σ else P7 o.dst fun d => P1 P its (go0 P k Q .normal) (σ.set d .no))
   (bif want then P7 o.dst fun d => P1 P its (go0 P k Q .normal) (σ.set d .no) else aop P o (P1 P its (go0 P k Q .normal)) σ)
   (P7 o.dst fun d => P1 P its (go0 P k Q .normal) (σ.set d .no))
 | .gdd v want N o its :: k,Q,.normal,σ => Q2 v (bif want then A1k P ((N,none,o) :: its) (go0 P k Q .normal) σ else P7 o.dst fun d => A1k P its (go0 P k Q .normal) (σ.set d .no))
   (bif want then P7 o.dst fun d => A1k P its (go0 P k Q .normal) (σ.set d .no) else A1k P ((N,none,o) :: its) (go0 P k Q .normal) σ)
   (P7 o.dst fun d => A1k P its (go0 P k Q .normal) (σ.set d .no))
 | .fr b :: k,Q,.normal,σ => b = true ∧ go0 P k Q .normal σ
 | .frs its :: k,Q,.normal,σ => P8 its σ = true ∧ A1k P its (go0 P k Q .normal) σ
 | .panF x :: k,Q,.normal,σ => ∃ d,σ.val x = .v (.sc (.dat d)) ∧ d.flat = true ∧ B46 d = true ∧ go0 P k Q (.pan d) σ
 | .calF d f args :: k,Q,.normal,σ => aop P (.call d f args) (go0 P k Q .normal) σ ∨ ∃ ds pd,σ.toDVs args = some ds ∧ FCp P f ds pd ∧ go0 P k Q (.pan pd) σ
 | .blk id :: k,Q,.exit i,σ => if i = id then go0 P k Q .normal σ else go0 P k Q (.exit i) σ
 | _ :: k,Q,e,σ => go0 P k Q e σ
def go (P : Program) (k : List Fr) (Q : AExit → St → Prop) (e : AExit) : Option St → Prop
 | some σ => go0 P k Q e σ
 | none => False
def AOp.isPure : AOp → Bool
 | .mv .. | .pick .. | .build .. | .load .. | .nilc .. | .bin .. | .beq .. | .geq .. | .un .. | .conv .. | .slc .. | .sslc .. | .faddr .. | .field .. | .iaddr .. | .aaddr .. | .idx .. | .extr .. | .len .. | .slen .. | .sconv .. | .mm .. | .mkf .. | .zsl _ | .mkif .. | .tass .. => true
 | _ => false
def AOp.isMade : AOp → Bool
 | .box .. | .alloc .. | .bslice .. | .mksl .. | .zap .. => true
 | _ => false
def AOp.isCall : AOp → Bool
 | .call .. | .callv .. => true
 | .mv .. | .pick .. | .box .. | .alloc .. | .build .. | .bslice .. | .load .. | .store .. | .nilc .. | .bin .. | .beq .. | .geq .. | .un .. | .conv .. | .mksl .. | .slc .. | .sslc .. | .faddr .. | .field .. | .iaddr .. | .aaddr .. | .idx .. | .extr .. | .len .. | .slen .. | .sconv .. | .app .. | .mm .. | .mkf .. | .zsl _ | .zap .. | .mkif .. | .tass .. => false
 | .drop _ | .own .. | .ownb .. | .ren .. | .frz _ | .frzb _ | .forget _ | .keep .. | .cut _ => false
section
variable {P : Program} {k : List Fr} {Q : AExit → St → Prop} {σ : St} {its : List AItem} {ds : List DItem} {o : AOp} {N : List Nat}
theorem A01 {c : ACode} (h : go P [.code c] Q .normal (some σ)) : AWP P c Q σ := A60 c (fun _ _ h => h) h
theorem C94 {e} : go P k Q e none = False := rfl
theorem D4c {e} : go P [] Q e (some σ) = Q e σ := rfl
theorem D0n : go P (.code .skip :: k) Q .normal (some σ) = go P k Q .normal (some σ) := rfl
theorem D4b : go P (.code (.reg its) :: k) Q .normal (some σ) = go P (.ops its :: k) Q .normal (some σ) := rfl
theorem D5r : go P (.code (.drw ds) :: k) Q .normal (some σ) = go P (.fr (P8 ds σ) :: .dops ds :: k) Q .normal (some σ) := rfl
theorem D86 : go P (.fr true :: k) Q .normal (some σ) = go P k Q .normal (some σ) := by simp [go,go0]
theorem D6a {x y : ACode} : go P (.code (.seq x y) :: k) Q .normal (some σ) = go P (.code x :: .code y :: k) Q .normal (some σ) := by
 simp only [go,go0,AWP]
 congr 1
 funext e σ'
 cases e <;> simp only [go0]
theorem C8i {id : Nat} {c : ACode} : go P (.code (.block id c) :: k) Q .normal (some σ) = go P (.code c :: .blk id :: k) Q .normal (some σ) := by
 simp only [go,go0,AWP]
 congr 1
 funext e σ'
 cases e <;> simp only [go0]
theorem D2f {id : Nat} : go P (.code (.exit id) :: k) Q .normal (some σ) = go P k Q (.exit id) (some σ) := rfl
theorem D5f : go P (.code .ret :: k) Q .normal (some σ) = go P k Q .ret (some σ) := rfl
theorem D15 {c : Opd} {x y : ACode} : go P (.code (.cond c x y) :: k) Q .normal (some σ) = go P (.pick (σ.val c) x y :: k) Q .normal (some σ) := by
 show (match σ.val c with | .v (.sc (.dat (.bool b))) => if b = true then AWP P x (go0 P k Q) σ else AWP P y (go0 P k Q) σ | _ => False) = Q2 (σ.val c) _ _ _
 unfold Q2
 generalize σ.val c = v
 cases v with
 | v x => cases x with
  | sc c => cases c with
   | dat d => cases d <;> rfl
   | _ => rfl
  | ag => rfl
 | _ => rfl
theorem C7u {x y : ACode} : go P (.pick (.v (.sc (.dat (.bool true)))) x y :: k) Q .normal (some σ) = go P (.code x :: k) Q .normal (some σ) := by simp [go,go0,Q2]
theorem C7s {x y : ACode} : go P (.pick (.v (.sc (.dat (.bool false)))) x y :: k) Q .normal (some σ) = go P (.code y :: k) Q .normal (some σ) := by simp [go,go0,Q2]
theorem D46 {x : Opd} : go P (.code (.pan its x) :: k) Q .normal (some σ) = go P (.ops its :: .panF x :: k) Q .normal (some σ) := rfl
theorem D3b {d f args} : go P (.code (.cal its d f args) :: k) Q .normal (some σ) = go P (.ops its :: .calF d f args :: k) Q .normal (some σ) := rfl
theorem D2b {x : Opd} {d : D} (hx : σ.val x = .v (.sc (.dat d))) (hf : d.flat = true) (hi : B46 d = true) (H : go P k Q (.pan d) (some σ)) : go P (.panF x :: k) Q .normal (some σ) := ⟨d,hx,hf,hi,H⟩
theorem B9c {d f args} (H : go P (.ops [(none,.call d f args)] :: k) Q .normal (some σ)) : go P (.calF d f args :: k) Q .normal (some σ) := .inl H
theorem D0z {d f args} {ds : List DV} {pd : D} (hf : FCp P f ds pd) (h1 : σ.toDVs args = some ds) (H : go P k Q (.pan pd) (some σ)) : go P (.calF d f args :: k) Q .normal (some σ) := .inr ⟨ds,pd,h1,hf,H⟩
theorem B8h {c : ACode} {d : D} : go P (.code c :: k) Q (.pan d) (some σ) = go P k Q (.pan d) (some σ) := rfl
theorem B9x {id : Nat} {d : D} : go P (.blk id :: k) Q (.pan d) (some σ) = go P k Q (.pan d) (some σ) := rfl
theorem A3a {its : List (List Nat × AItem)} {τ σ2 : St} {ks bs rs : List Nat} (h0 : (σ.kept ks bs rs).pad (its.filterMap fun i => i.2.2.dst) = σ2) (h1 : F2 P its τ its.length (its.map fun _ => false) σ2) (h2 : go P k Q .normal (some τ)) : go P (.code (.any its) :: k) Q .normal (some σ) :=
 ⟨ks,bs,rs,τ,h0 ▸ h1,h2⟩
def B23 (P : Program) (its : List (List Nat × AItem)) (τ : St) (f : Nat) (ms : List Bool) (σ : St) : List (List Nat × AItem) → Nat → Prop
 | [],_ => True
 | it :: r,i => (ms[i]? = some false → (∀ j ∈ it.1,ms[j]? = some true) → ∃ pre post : List AItem,pre.all (fun i => i.2.idle) = true ∧ post.all (fun i => i.2.idle) = true ∧ go P [.ops (pre ++ it.2 :: post)] (fun _ => F2 P its τ f (ms.set i true)) .normal (some σ)) ∧ B23 P its τ f ms σ r (i + 1)
theorem B07 {its : List (List Nat × AItem)} {τ : St} {f : Nat} {ms : List Bool} : ∀ {r : List (List Nat × AItem)} {n : Nat},B23 P its τ f ms σ r n → ∀ (i : Nat) (it : List Nat × AItem),r[i]? = some it → ms[n + i]? = some false → (∀ j ∈ it.1,ms[j]? = some true) → ∃ pre post : List AItem,pre.all (fun i => i.2.idle) = true ∧ post.all (fun i => i.2.idle) = true ∧ go P [.ops (pre ++ it.2 :: post)] (fun _ => F2 P its τ f (ms.set (n + i) true)) .normal (some σ)
 | [],_,_,i,it,hi,_,_ => by simp at hi
 | x :: r,n,h,0,it,hi,h1,h2 => by
  simp at hi
  subst hi
  exact h.1 h1 h2
 | x :: r,n,h,i + 1,it,hi,h1,h2 => by
  have := B07 h.2 i it (by simpa using hi) (by rw [show n + 1 + i = n + (i + 1) by omega]; exact h1) h2
  rw [show n + 1 + i = n + (i + 1) by omega] at this
  exact this
theorem B63 {it : AItem} {post : List AItem} {K : St → Prop} : ∀ (pre : List AItem) (σ : St),pre.all (fun i => i.2.idle) = true → P1 P (pre ++ it :: post) K σ → P1 P pre (fun σ => D6 it.1 σ (aop P it.2 (P1 P post K) σ) (match it.2.dst with | some d => P1 P post K (σ.set d .no) | none => False)) σ
 | [],_,_,h => h
 | (g,o) :: pre,σ,hp,h => by
  have hi : o.idle = true := by simp only [List.all_cons,Bool.and_eq_true] at hp; exact hp.1
  have hp' : pre.all (fun i => i.2.idle) = true := by simp only [List.all_cons,Bool.and_eq_true] at hp; exact hp.2
  have h' : D6 g σ (aop P o (P1 P (pre ++ it :: post) K) σ) (match o.dst with | some d => P1 P (pre ++ it :: post) K (σ.set d .no) | none => False) := h
  show D6 g σ (aop P o (P1 P pre _) σ) _
  have hno : o.dst = none := by cases o <;> first | rfl | (simp [AOp.idle] at hi; done)
  simp only [hno] at h' ⊢
  have key : ∀ X Y : St → Prop,(∀ σ,X σ → Y σ) → aop P o X σ → aop P o Y σ := fun X Y hXY hx => by
   cases o <;> first
    | (simp [AOp.idle] at hi; done)
    | (simp only [aop] at hx ⊢; split at hx <;> simp_all)
  have mono : ∀ {X Y : Prop},(X → Y) → D6 g σ X False → D6 g σ Y False := fun hXY hx => by
   unfold D6 at hx ⊢
   cases g with
   | none => exact hXY hx
   | some g =>
    simp only at hx ⊢
    split
    ·rename_i b hb
     rw [hb] at hx
     simp only at hx
     split at hx
     ·rename_i e
      rw [if_pos e]
      exact hXY hx
     ·exact hx.elim
    ·rename_i hb
     rw [hb] at hx
     exact hx
    ·rename_i h1 h2
     split at hx
     ·rename_i b hb
      exact h1 b hb
     ·rename_i hb
      exact h2 hb
     ·exact hx
  exact mono (key _ _ fun σ h => B63 pre σ hp' h) h'
theorem C3 {its : List (List Nat × AItem)} {τ : St} {f : Nat} {ms : List Bool} (h : B23 P its τ f ms σ its 0) : F2 P its τ (f + 1) ms σ := by
 intro i it hi h1 h2
 obtain ⟨pre,post,hp,hq,this⟩ := B07 h i it hi (by simpa using h1) h2
 rw [Nat.zero_add] at this
 exact ⟨pre,post,hp,hq,B63 pre _ hp this⟩
theorem B6z {c : ACode} {i : Nat} : go P (.code c :: k) Q (.exit i) (some σ) = go P k Q (.exit i) (some σ) := rfl
theorem B8l {c : ACode} : go P (.code c :: k) Q .ret (some σ) = go P k Q .ret (some σ) := rfl
theorem D3d {id : Nat} : go P (.blk id :: k) Q .normal (some σ) = go P k Q .normal (some σ) := rfl
theorem C02 {id : Nat} : go P (.blk id :: k) Q .ret (some σ) = go P k Q .ret (some σ) := rfl
theorem B8i {id i : Nat} : go P (.blk id :: k) Q (.exit i) (some σ) = go P k Q (bif i == id then .normal else .exit i) (some σ) := by
 by_cases h : i = id
 ·simp [go,go0,h]
 ·have h' : (i == id) = false := by simpa using h
  simp [go,go0,h,h']
theorem C0c : go P (.ops [] :: k) Q .normal (some σ) = go P k Q .normal (some σ) := rfl
theorem B8f : go P (.dops [] :: k) Q .normal (some σ) = go P k Q .normal (some σ) := rfl
theorem B6w {K : St → Prop} (h1 : ∀ d f args,o ≠ .call d f args) (h2 : ∀ d x args,o ≠ .callv d x args) : aop P o K σ = P7 (σ.step o) K := by
 cases o <;> first
  | rfl
  | (show (match St.step σ _ with | some σ' => K σ' | none => False) = P7 (St.step σ _) K; generalize St.step σ _ = x; cases x <;> rfl)
  | exact absurd rfl (h1 _ _ _)
  | exact absurd rfl (h2 _ _ _)
theorem B39 (h : o.isPure = true) : σ.step o = (σ.pure o).map fun p => σ.set p.1 p.2 := by
 cases o <;> first
  | (simp [AOp.isPure] at h; done)
  | skip
 all_goals
  simp only [St.step,St.made]
  generalize σ.pure _ = x
  cases x <;> rfl
theorem C4a (h : o.isMade = true) : σ.step o = (σ.made o).bind σ.make := by
 cases o <;> first
  | (simp [AOp.isMade] at h; done)
  | skip
 all_goals
  simp only [St.step,St.pure]
  generalize σ.made _ = x
  cases x <;> rfl
theorem I5 (h : o.isCall = false) : go P (.ops ((none,o) :: its) :: k) Q .normal (some σ) = go P (.ops its :: k) Q .normal (σ.step o) := by
 show aop P o (P1 P its (go0 P k Q .normal)) σ = _
 rw [B6w (by rintro _ _ _ rfl; simp [AOp.isCall] at h) (by rintro _ _ _ rfl; simp [AOp.isCall] at h)]
 cases σ.step o <;> rfl
theorem A6o {d f args} {xs : List DV} {rs : List R1} (hf : FC P f xs rs) (h1 : σ.toDVs args = some xs) (h2 : A0l rs) (h3 : σ.fresh d = true) (h4 : (rs.flatMap R1.cells).length ≤ 64) (h5 : go P (.ops its :: k) Q .normal (some (σ.inst d rs))) :
  go P (.ops ((none,.call d f args) :: its) :: k) Q .normal (some σ) := .inl ⟨xs,rs,.inl ⟨h1,.inl h2⟩,hf,h3,h4,h5⟩
theorem A6 {d f args} {xs : List DV} {rs : List R1} (hf : FC P f xs rs) (h1 : σ.toIVs args = some xs) (h3 : σ.fresh d = true) (h4 : (rs.flatMap R1.cells).length ≤ 64) (h5 : go P (.ops its :: k) Q .normal (some (σ.inst d rs))) :
  go P (.ops ((none,.call d f args) :: its) :: k) Q .normal (some σ) := .inl ⟨xs,rs,.inr h1,hf,h3,h4,h5⟩
theorem A67 {d f args} {σ' : St} {r : AV} (hf : A52 P f (args.map σ.val) σ σ' r) (h5 : go P (.ops its :: k) Q .normal (some (σ'.set d r))) : go P (.ops ((none,.call d f args) :: its) :: k) Q .normal (some σ) := .inr (.inr ⟨σ',r,hf,h5⟩)
theorem C78 {d x args f caps} {xs : List DV} {rs : List R1} (hf : FC P f (xs ++ caps.map .sc) rs) (h0 : A19 P f = true) (hx : σ.toDV (σ.val x) = some (.sc (.clo f caps))) (h1 : σ.toDVs args = some xs) (h2 : A0l rs) (h3 : σ.fresh d = true) (h4 : (rs.flatMap R1.cells).length ≤ 64)
  (h5 : go P (.ops its :: k) Q .normal (some (σ.inst d rs))) : go P (.ops ((none,.callv d x args) :: its) :: k) Q .normal (some σ) := ⟨f,caps,xs,rs,.inl ⟨hx,h1,h2⟩,h0,hf,h3,h4,h5⟩
theorem D9 (h : o.isPure = true) : σ.step o = (σ.pure o).bind fun p => F1 σ p.1 (some p.2) := by
 rw [B39 h]
 cases σ.pure o <;> rfl
theorem tag {d : Nat} {x : Option AV} : ((x.map (Prod.mk d)).bind fun p => F1 σ p.1 (some p.2)) = F1 σ d x := by cases x <;> rfl
theorem B85 {d x} : σ.step (.mv d x) = some (σ.set d (σ.val x)) := rfl
theorem B3k {d c a b} : σ.step (.pick d c a b) = F1 σ d (A9e (σ.val c) (σ.val a) (σ.val b)) := (D9 rfl).trans tag
theorem B1d {d zs ps} : σ.step (.build d zs ps) = F1 σ d ((A1y zs (ps.map fun p => (p.1,p.2.1,σ.val p.2.2))).map fun cs => .v (.ag cs)) := by
 rw [D9 rfl]
 simp only [St.pure]
 cases A1y zs (ps.map fun p => (p.1,p.2.1,σ.val p.2.2)) <;> rfl
theorem B29 {d x g n} : σ.step (.load d x g n) = F1 σ d (U5 σ g n (σ.val x)) := (D9 rfl).trans tag
theorem B3w {d x} : σ.step (.nilc d x) = F1 σ d (A4s (σ.val x)) := (D9 rfl).trans tag
theorem B54 {d op x y} : σ.step (.bin d op x y) = F1 σ d (A26 op (σ.val x) (σ.val y)) := (D9 rfl).trans tag
theorem B6h {d g ks x y} : σ.step (.geq d g ks x y) = F1 σ d (B2l g ks (σ.val x) (σ.val y)) := (D9 rfl).trans tag
theorem B66 {d g x y} : σ.step (.beq d g x y) = F1 σ d (B2b g (σ.val x) (σ.val y)) := (D9 rfl).trans tag
theorem B8x {d op x} : σ.step (.un d op x) = F1 σ d (unV op (σ.val x)) := (D9 rfl).trans tag
def B9p (k : IntKind) : AV → Option AV
 | .v (.sc (.dat (.int _ n))) => some (.v (.sc (.dat (.int k (k.wrap n)))))
 | _ => none
theorem B28 {d kd x} : σ.step (.conv d kd x) = F1 σ d (B9p kd (σ.val x)) := by
 rw [D9 rfl]
 simp only [St.pure]
 generalize σ.val x = v
 cases v with
 | v x => cases x with
  | sc c => cases c with
   | dat d => cases d <;> rfl
   | _ => rfl
  | ag => rfl
 | _ => rfl
theorem B7n {d sz x lo hi mx} : σ.step (.slc d sz x lo hi mx) = F1 σ d (A8v σ sz (σ.val x) lo hi mx) := (D9 rfl).trans tag
theorem B3a {d x lo hi} : σ.step (.sslc d x lo hi) = F1 σ d (A5t σ (σ.val x) lo hi) := (D9 rfl).trans tag
theorem B0s {d x off} : σ.step (.faddr d x off) = F1 σ d (U1 σ.rows off (σ.val x)) := (D9 rfl).trans tag
theorem B00 {d x off g n} : σ.step (.field d x off g n) = F1 σ d (A4d off g n (σ.val x)) := (D9 rfl).trans tag
theorem B08 {d x i sz} : σ.step (.iaddr d x i sz) = F1 σ d (Z2 σ.rows sz (σ.val x) (σ.val i)) := (D9 rfl).trans tag
theorem B7t {d x i} : σ.step (.idx d x i) = F1 σ d (B2u (σ.val x) (σ.val i)) := (D9 rfl).trans tag
theorem B3u {d t x} : σ.step (.mkif d t x) = F1 σ d (A5q t (σ.val x)) := (D9 rfl).trans tag
theorem B3p {d x t zc} : σ.step (.tass d x t zc) = F1 σ d (A86 t zc (σ.val x)) := (D9 rfl).trans tag
theorem B4b {d x i} : σ.step (.extr d x i) = F1 σ d (A83 i (σ.val x)) := (D9 rfl).trans tag
theorem B6f {d x} : σ.step (.len d x) = F1 σ d (A5b σ.rows (σ.val x)) := (D9 rfl).trans tag
theorem B1o {d x} : σ.step (.sconv d x) = F1 σ d (A38 σ.rows (σ.val x)) := (D9 rfl).trans tag
theorem B3l {d x} : σ.step (.slen d x) = F1 σ d (A88 (σ.val x)) := (D9 rfl).trans tag
theorem B8y {d m x y} : σ.step (.mm d m x y) = F1 σ d (mmV m (σ.val x) (σ.val y)) := (D9 rfl).trans tag
theorem B6y {d f caps} : σ.step (.mkf d f caps) = F1 σ d ((A5f f (caps.map σ.val)).map fun ids => .v (.sc (.clo f ids))) := by
 rw [D9 rfl]
 simp only [St.pure]
 cases A5f f (caps.map σ.val) <;> rfl
theorem D0x (h : o.isMade = true) : σ.step o = mk1 σ (σ.made o) := by
 rw [C4a h]
 cases σ.made o <;> rfl
theorem C0v {x y n} : σ.step (.store x y n) = σ.storeV n (σ.val x) (σ.val y) := rfl
theorem C7m {d sz b x y} : σ.step (.app d sz b x y) = σ.appV d sz b (σ.val x) (σ.val y) := rfl
theorem C24 {d v} : F1 σ d (some v) = some (σ.set d v) := rfl
theorem B8v {t : Nat} {yes no : Prop} : D6 (some (t,true)) σ yes no = Q2 (σ.get t) yes no no := by
 simp only [D6,Q2]
 generalize σ.get t = v
 cases v with
 | v x => cases x with
  | sc c => cases c with
   | dat d => cases d <;> rfl
   | _ => rfl
  | ag => rfl
 | _ => rfl
theorem B8q {t : Nat} {yes no : Prop} : D6 (some (t,false)) σ yes no = Q2 (σ.get t) no yes no := by
 simp only [D6,Q2]
 generalize σ.get t = v
 cases v with
 | v x => cases x with
  | sc c => cases c with
   | dat d => cases d with
    | bool b => cases b <;> simp
    | _ => rfl
   | _ => rfl
  | ag => rfl
 | _ => rfl
theorem C4g {t} : go P (.ops ((some (t,true),o) :: its) :: k) Q .normal (some σ) = go P (.gd (σ.get t) true o its :: k) Q .normal (some σ) := by
 show D6 (some (t,true)) σ _ _ = _
 rw [B8v]
 show _ = Q2 _ _ _ _
 simp only [cond_true]
 congr 1 <;> (cases o.dst <;> rfl)
theorem C31 {t} : go P (.ops ((some (t,false),o) :: its) :: k) Q .normal (some σ) = go P (.gd (σ.get t) false o its :: k) Q .normal (some σ) := by
 show D6 (some (t,false)) σ _ _ = _
 rw [B8q]
 show _ = Q2 _ _ _ _
 simp only [cond_false]
 congr 1 <;> (cases o.dst <;> rfl)
theorem C4x {b : Bool} : go P (.gd (.v (.sc (.dat (.bool b)))) b o its :: k) Q .normal (some σ) = go P (.ops ((none,o) :: its) :: k) Q .normal (some σ) := by
 cases b <;> (simp only [go,go0,Q2,cond_true,cond_false]; simp [P1,D6])
theorem C4y : go P (.gd (.v (.sc (.dat (.bool false)))) true o its :: k) Q .normal (some σ) = go P (.ops its :: k) Q .normal (unw σ o.dst) := by
 simp only [go,go0,Q2,cond_true]
 cases o.dst <;> simp [P7,unw]
theorem C26 : go P (.gd (.v (.sc (.dat (.bool true)))) false o its :: k) Q .normal (some σ) = go P (.ops its :: k) Q .normal (unw σ o.dst) := by
 simp only [go,go0,Q2,cond_false]
 cases o.dst <;> simp [P7,unw]
theorem E0s {d x} : go P (.ops ((none,.mv d x) :: its) :: k) Q .normal (some σ) = go P (.ops its :: k) Q .normal (some (σ.set d (σ.val x))) := by
 rw [I5 rfl,B85]
theorem C6s {d c a b} : go P (.ops ((none,.pick d c a b) :: its) :: k) Q .normal (some σ) = go P (.ops its :: k) Q .normal (F1 σ d (A9e (σ.val c) (σ.val a) (σ.val b))) := by
 rw [I5 rfl,B3k]
theorem C5p {d zs ps} : go P (.ops ((none,.build d zs ps) :: its) :: k) Q .normal (some σ) = go P (.ops its :: k) Q .normal (F1 σ d ((A1y zs (ps.map fun p => (p.1,p.2.1,σ.val p.2.2))).map fun cs => .v (.ag cs))) := by
 rw [I5 rfl,B1d]
theorem C93 {d x g n} : go P (.ops ((none,.load d x g n) :: its) :: k) Q .normal (some σ) = go P (.ops its :: k) Q .normal (F1 σ d (U5 σ g n (σ.val x))) := by
 rw [I5 rfl,B29]
theorem D2h {d x} : go P (.ops ((none,.nilc d x) :: its) :: k) Q .normal (some σ) = go P (.ops its :: k) Q .normal (F1 σ d (A4s (σ.val x))) := by
 rw [I5 rfl,B3w]
theorem D6e {d op x y} : go P (.ops ((none,.bin d op x y) :: its) :: k) Q .normal (some σ) = go P (.ops its :: k) Q .normal (F1 σ d (A26 op (σ.val x) (σ.val y))) := by
 rw [I5 rfl,B54]
theorem D5e {d g ks x y} : go P (.ops ((none,.geq d g ks x y) :: its) :: k) Q .normal (some σ) = go P (.ops its :: k) Q .normal (F1 σ d (B2l g ks (σ.val x) (σ.val y))) := by
 rw [I5 rfl,B6h]
theorem D3r {d g x y} : go P (.ops ((none,.beq d g x y) :: its) :: k) Q .normal (some σ) = go P (.ops its :: k) Q .normal (F1 σ d (B2b g (σ.val x) (σ.val y))) := by
 rw [I5 rfl,B66]
theorem D9q {d op x} : go P (.ops ((none,.un d op x) :: its) :: k) Q .normal (some σ) = go P (.ops its :: k) Q .normal (F1 σ d (unV op (σ.val x))) := by
 rw [I5 rfl,B8x]
theorem D1k {d kd x} : go P (.ops ((none,.conv d kd x) :: its) :: k) Q .normal (some σ) = go P (.ops its :: k) Q .normal (F1 σ d (B9p kd (σ.val x))) := by
 rw [I5 rfl,B28]
theorem D5s {d sz x lo hi mx} : go P (.ops ((none,.slc d sz x lo hi mx) :: its) :: k) Q .normal (some σ) = go P (.ops its :: k) Q .normal (F1 σ d (A8v σ sz (σ.val x) lo hi mx)) := by
 rw [I5 rfl,B7n]
theorem D0l {d x lo hi} : go P (.ops ((none,.sslc d x lo hi) :: its) :: k) Q .normal (some σ) = go P (.ops its :: k) Q .normal (F1 σ d (A5t σ (σ.val x) lo hi)) := by
 rw [I5 rfl,B3a]
theorem C46 {d x off} : go P (.ops ((none,.faddr d x off) :: its) :: k) Q .normal (some σ) = go P (.ops its :: k) Q .normal (F1 σ d (U1 σ.rows off (σ.val x))) := by
 rw [I5 rfl,B0s]
theorem C72 {d x off g n} : go P (.ops ((none,.field d x off g n) :: its) :: k) Q .normal (some σ) = go P (.ops its :: k) Q .normal (F1 σ d (A4d off g n (σ.val x))) := by
 rw [I5 rfl,B00]
theorem C5z {d x i sz} : go P (.ops ((none,.iaddr d x i sz) :: its) :: k) Q .normal (some σ) = go P (.ops its :: k) Q .normal (F1 σ d (Z2 σ.rows sz (σ.val x) (σ.val i))) := by
 rw [I5 rfl,B08]
theorem C8d {d x i len sz} : go P (.ops ((none,.aaddr d x i len sz) :: its) :: k) Q .normal (some σ) = go P (.ops its :: k) Q .normal (F1 σ d (A76 len sz (σ.val x) (σ.val i))) := by
 rw [I5 rfl,(D9 (o := .aaddr d x i len sz) rfl).trans tag]
theorem D6i {d x i} : go P (.ops ((none,.idx d x i) :: its) :: k) Q .normal (some σ) = go P (.ops its :: k) Q .normal (F1 σ d (B2u (σ.val x) (σ.val i))) := by
 rw [I5 rfl,B7t]
theorem D2y {d t x} : go P (.ops ((none,.mkif d t x) :: its) :: k) Q .normal (some σ) = go P (.ops its :: k) Q .normal (F1 σ d (A5q t (σ.val x))) := by
 rw [I5 rfl,B3u]
theorem C9r {d x t zc} : go P (.ops ((none,.tass d x t zc) :: its) :: k) Q .normal (some σ) = go P (.ops its :: k) Q .normal (F1 σ d (A86 t zc (σ.val x))) := by
 rw [I5 rfl,B3p]
theorem D2s {id} : go P (.ops ((none,.frzb id) :: its) :: k) Q .normal (some σ) = go P (.ops its :: k) Q .normal (σ.step (.frzb id)) := I5 rfl
theorem C9s {d x i} : go P (.ops ((none,.extr d x i) :: its) :: k) Q .normal (some σ) = go P (.ops its :: k) Q .normal (F1 σ d (A83 i (σ.val x))) := by
 rw [I5 rfl,B4b]
theorem D6c {d x} : go P (.ops ((none,.len d x) :: its) :: k) Q .normal (some σ) = go P (.ops its :: k) Q .normal (F1 σ d (A5b σ.rows (σ.val x))) := by
 rw [I5 rfl,B6f]
theorem C6e {d x} : go P (.ops ((none,.sconv d x) :: its) :: k) Q .normal (some σ) = go P (.ops its :: k) Q .normal (F1 σ d (A38 σ.rows (σ.val x))) := by
 rw [I5 rfl,B1o]
theorem C9x {d x} : go P (.ops ((none,.slen d x) :: its) :: k) Q .normal (some σ) = go P (.ops its :: k) Q .normal (F1 σ d (A88 (σ.val x))) := by
 rw [I5 rfl,B3l]
theorem D69 {d m x y} : go P (.ops ((none,.mm d m x y) :: its) :: k) Q .normal (some σ) = go P (.ops its :: k) Q .normal (F1 σ d (mmV m (σ.val x) (σ.val y))) := by
 rw [I5 rfl,B8y]
theorem D5v {d f caps} : go P (.ops ((none,.mkf d f caps) :: its) :: k) Q .normal (some σ) = go P (.ops its :: k) Q .normal (F1 σ d ((A5f f (caps.map σ.val)).map fun ids => .v (.sc (.clo f ids)))) := by
 rw [I5 rfl,B6y]
theorem C7y {x y n} : go P (.ops ((none,.store x y n) :: its) :: k) Q .normal (some σ) = go P (.ops its :: k) Q .normal (σ.storeV n (σ.val x) (σ.val y)) := by
 rw [I5 rfl,C0v]
theorem D4h {d sz b x y} : go P (.ops ((none,.app d sz b x y) :: its) :: k) Q .normal (some σ) = go P (.ops its :: k) Q .normal (σ.appV d sz b (σ.val x) (σ.val y)) := by
 rw [I5 rfl,C7m]
theorem D18 {d j id sz} : go P (.ops ((none,.ownb d j id sz) :: its) :: k) Q .normal (some σ) = go P (.ops its :: k) Q .normal (σ.step (.ownb d j id sz)) := I5 rfl
theorem D36 {id} : go P (.ops ((none,.frz id) :: its) :: k) Q .normal (some σ) = go P (.ops its :: k) Q .normal (σ.step (.frz id)) := I5 rfl
theorem D5k {its : List DItem} : go P (.frs its :: k) Q .normal (some σ) = go P (.fr (P8 its σ) :: .dops its :: k) Q .normal (some σ) := rfl
theorem B7 {b : Bool} (hb : b = true) (h : go P k Q .normal (some σ)) : go P (.fr b :: k) Q .normal (some σ) := ⟨hb,h⟩
theorem D5w {its : List DItem} : go P (.dops ((none,none,o) :: its) :: k) Q .normal (some σ) = go P (.ops [(none,o)] :: .frs its :: k) Q .normal (some σ) := rfl
theorem B6j {α : Type} {l : List α} {f : α → Bool} (h : ∀ x,f x = true) : l.all f = true := List.all_eq_true.2 fun x _ => h x
def B9l (τ σ : St) (N : List Nat) (o : AOp) (K : St → Prop) : Prop :=
 match τ.pure o with
 | some (d,v) => v.avoids N = true ∧ K (σ.set d v)
 | none => match τ.made o with
  | some m => (match m with | .box _ cs => cs.all (·.avoids N) | _ => true) = true ∧ (match σ.make m with
   | some σ' => K σ'
   | none => False)
  | none => False
theorem B0l {K : St → Prop} (hc : o.isCall = false) : A7t P N o K σ = B9l (σ.less N) σ N o K := by
 cases o <;> first
  | rfl
  | (simp [AOp.isCall] at hc; done)
theorem C6f (hc : o.isCall = false) (hg : o.gentle = true) : σ.step o = (match σ.pure o with
  | some (d,v) => some (σ.set d v)
  | none => match σ.made o with
   | some m => σ.make m
   | none => none) := by
 cases o <;> first
  | rfl
  | (simp [AOp.isCall] at hc; done)
  | (simp [AOp.gentle] at hg; done)
theorem C7t {K : St → Prop} (hg : o.gentle = true) (hc : o.isCall = false) : A7t P [] o K σ = aop P o K σ := by
 cases hc : o.isCall with
 | true => simp_all
 | false =>
  rw [B0l hc,B6w (by rintro _ _ _ rfl; simp [AOp.isCall] at hc) (by rintro _ _ _ rfl; simp [AOp.isCall] at hc),C6f hc hg]
  unfold B9l
  show (match σ.pure o with | some (d,v) => v.avoids [] = true ∧ K (σ.set d v) | none => _) = _
  cases hp : σ.pure o with
  | some p =>
   have hav : p.2.avoids [] = true := B6j fun c => rfl
   simp only [P7,hav,true_and]
  | none =>
   show (match σ.made o with | some m => _ | none => False) = _
   cases hm : σ.made o with
   | none => rfl
   | some m =>
    cases m with
    | box d cs =>
     have hav : cs.all (·.avoids []) = true := B6j fun c => rfl
     show (cs.all (·.avoids []) = true ∧ (match σ.make (.box d cs) with | some σ' => K σ' | none => False)) = P7 (σ.make (.box d cs)) K
     rw [hav]
     cases σ.make (.box d cs) <;> simp [P7]
    | row d sz es =>
     show (true = true ∧ (match σ.make (.row d sz es) with | some σ' => K σ' | none => False)) = P7 (σ.make (.row d sz es)) K
     cases σ.make (.row d sz es) <;> simp [P7]
theorem F3 {its : List DItem} (hg : o.gentle = true) (hc : o.isCall = false) : go P (.dops ((some [],none,o) :: its) :: k) Q .normal (some σ) = go P (.ops [(none,o)] :: .dops its :: k) Q .normal (some σ) :=
 C7t hg hc
def M2 (σ : St) (N : List Nat) : Option Nat → Option St → Option St
 | some d,some τ => bif (τ.get d).avoids N then some (σ.set d (τ.get d)) else none
 | _,_ => none
theorem G6 {its : List DItem} (hp : o.isPure = true) : go P (.dops ((some N,none,o) :: its) :: k) Q .normal (some σ) = go P (.dops its :: k) Q .normal (M2 σ N o.dst ((σ.less N).step o)) := by
 have hc : o.isCall = false := by cases o <;> first | rfl | (simp [AOp.isPure] at hp; done)
 show A7t P N o _ σ = _
 rw [B0l hc,B39 hp]
 unfold B9l
 cases h : (σ.less N).pure o with
 | some p =>
  obtain ⟨d,v⟩ := p
  rw [(A98 h).1]
  show (v.avoids N = true ∧ _) = go P (.dops its :: k) Q .normal (bif (((σ.less N).set d v).get d).avoids N then some (σ.set d (((σ.less N).set d v).get d)) else none)
  rw [St.get_set_same]
  cases v.avoids N with
  | true => simp [go,go0]
  | false => simp [go]
 | none =>
  have hm : (σ.less N).made o = none := by cases o <;> first | rfl | (simp [AOp.isPure] at hp; done)
  show (match (σ.less N).made o with | some m => _ | none => False) = _
  rw [hm]
  cases o.dst <;> rfl
def D6g (N : List Nat) : Mk → Bool
 | .box _ cs => cs.all (·.avoids N)
 | _ => true
theorem C5k {its : List DItem} {m : Mk} (hm : (σ.less N).made o = some m) (hv : D6g N m = true) {σ' : St} (hmk : σ.make m = some σ') (h : go P (.dops its :: k) Q .normal (some σ')) :
  go P (.dops ((some N,none,o) :: its) :: k) Q .normal (some σ) := by
 have hc : o.isCall = false := by cases o <;> first | rfl | (simp [St.made] at hm; done)
 show A7t P N o _ σ
 rw [B0l hc]
 unfold B9l
 rw [B3y hm]
 simp only [hm,hmk]
 cases m with
 | box d cs => exact ⟨hv,h⟩
 | row d sz es => exact ⟨rfl,h⟩
theorem A47 {its : List DItem} {d f args} {xs : List DV} {rs : List R1} (hf : FC P f xs rs) (h1 : (σ.less N).toDVs args = some xs) (h2 : A0l rs) (h3 : σ.fresh d = true) (h4 : (rs.flatMap R1.cells).length ≤ 64) (h5 : go P (.dops its :: k) Q .normal (some (σ.inst d rs))) :
  go P (.dops ((some N,none,.call d f args) :: its) :: k) Q .normal (some σ) := ⟨xs,rs,.inl ⟨h1,.inl h2⟩,hf,h3,h4,h5⟩
theorem D4 {its : List DItem} {d f args} {xs : List DV} {rs : List R1} (hf : FC P f xs rs) (h1 : (σ.less N).toIVs args = some xs) (h3 : σ.fresh d = true) (h4 : (rs.flatMap R1.cells).length ≤ 64) (h5 : go P (.dops its :: k) Q .normal (some (σ.inst d rs))) :
  go P (.dops ((some N,none,.call d f args) :: its) :: k) Q .normal (some σ) := ⟨xs,rs,.inr h1,hf,h3,h4,h5⟩
end
end Go.Vi
