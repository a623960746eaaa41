/-
  The value level: every operation that changes nothing, in one theorem. No condition.
-/
import Derived.Test.YtahienmgcfgclaaGVi7
namespace Go.Vi
set_option linter.unusedSimpArgs false
set_option linter.unusedVariables false
section
variable {P : Program} {A : Ar} {B : Nat} {w0 : Base} {nm : Names} {σ : St} {a : Act} {w : World}
theorem A9z (R : Rel A B w0 nm σ a.tmps w) : ∀ {xs : List Operand} {ys : List Opd},T1 xs = some ys →
  ys.length = xs.length ∧ ∀ (i : Nat) (u : AV) (v : Value),(ys.map σ.val)[i]? = some u → (xs.map a.eval)[i]? = some v → VRel (cx A nm σ w) u v
 | [],ys,hy => by simp [T1] at hy; subst hy; exact ⟨rfl,fun i u v hu => by simp at hu⟩
 | x :: xs,ys,hy => by
  simp only [T1] at hy
  split at hy
  ·rename_i y ys' h1 h2
   cases hy
   obtain ⟨hl,H⟩ := A9z R h2
   refine ⟨by simp [hl],fun i u v hu hv => ?_⟩
   cases i with
   | zero => simp at hu hv; subst hu hv; exact B4 R h1
   | succ i => simp only [List.map_cons,List.getElem?_cons_succ] at hu hv; exact H i u v hu hv
  ·cases hy
theorem B04 (R : Rel A B w0 nm σ a.tmps w) {places : List (Nat × Nat)} : ∀ {ps : List (Nat × Operand)} {qs : List (Nat × Nat × Opd)},A8a places ps = some qs →
  PartsRel (cx A nm σ w) (places.toArray[·]?) (qs.map fun p => (p.1,p.2.1,σ.val p.2.2)) (ps.map fun p => (p.1,a.eval p.2))
 | [],qs,hq => by simp [A8a] at hq; subst hq; exact .nil
 | (i,x) :: r,qs,hq => by
  simp only [A8a] at hq
  split at hq
  ·rename_i p y ys h1 h2 h3
   cases hq
   exact .cons (by simpa using h1) (B4 R h2) (B04 R h3)
  ·cases hq
theorem B1j (R : Rel A B w0 nm σ a.tmps w) {sz : Nat} : ∀ {ps : List (Nat × Operand)} {qs : List (Nat × Nat × Opd)},A72 sz ps = some qs →
  PartsRel (cx A nm σ w) (fun i => some (i * sz,sz)) (qs.map fun p => (p.1,p.2.1,σ.val p.2.2)) (ps.map fun p => (p.1,a.eval p.2))
 | [],qs,hq => by simp [A72] at hq; subst hq; exact .nil
 | (i,x) :: r,qs,hq => by
  simp only [A72] at hq
  split at hq
  ·rename_i y ys h2 h3
   cases hq
   exact .cons rfl (B4 R h2) (B1j R h3)
  ·cases hq
theorem A3g {t : TypeId} {i : TypeInfo} {z : Value} (hz : A63 P t = some (i,z)) : P.info? t = some i ∧ i.zero = some z := by
 unfold A63 at hz
 split at hz
 ·rename_i i' hi
  simp only [Option.map_eq_some_iff,Prod.mk.injEq] at hz
  obtain ⟨z',h1,rfl,rfl⟩ := hz
  exact ⟨hi,h1⟩
 ·cases hz
theorem A27 {t : TypeId} {i : TypeInfo} {z : Value} (hz : B1y P t = some (i,z)) : ∃ e,P.underlying t = some (.slice e) ∧ P.info? e = some i ∧ i.zero = some z := by
 unfold B1y at hz
 split at hz
 ·rename_i e hu
  exact ⟨e,hu,A3g hz⟩
 ·cases hz
theorem D1p {X : Cx} {c : AC} {v : Value} {d : D} (H : CRel X c v) (hd : toI c = some d) : Rep X.h d v := by
 cases c with
 | dat d' =>
  simp only [toI,Option.some.injEq] at hd
  subst hd
  cases H with | dat h => exact h
 | nil =>
  simp only [toI,Option.some.injEq] at hd
  subst hd
  cases H
  exact .nil
 | _ => simp [toI] at hd
theorem B6v {X : Cx} : ∀ {cs : List AC} {vs : List Value} {ds : List D},CRels X cs vs → A2s cs = some ds → Reps X.h ds vs ∧ ds.length = cs.length
 | [],vs,ds,_,hd => by simp [A2s] at hd; subst hd; exact ⟨.nil,rfl⟩
 | c :: cs,_,ds,.cons a b,hd => by
  simp only [A2s] at hd
  split at hd
  ·rename_i d ds' h1 h2
   cases hd
   obtain ⟨h3,h4⟩ := B6v b h2
   exact ⟨.cons (D1p a h1) h3,by simp [h4]⟩
  ·cases hd
theorem B97 {t : TypeId} {u : TypeDesc} {ax r : AV} {vx : Value} {X : Cx} (hu : P.underlying t = some u) (hn : ∀ ms,u ≠ .interface ms) (hx : VRel X ax vx) (hr : A5q t ax = some r) :
  ∃ v,(Instr.makeInterface t vx).run P w = .ok v w ∧ VRel X r v := by
 unfold A5q at hr
 split at hr
 ·cases hr
  refine ⟨.iface t vx,?_,.v (.sc (.dat (.ifc (by cases hx.inv_sc with | dat h => exact h))))⟩
  simp only [Instr.makeInterface,Sem.run_bind,run_underlying hu,Result.andThen_ok]
  cases u <;> first | rfl | exact absurd rfl (hn _)
 ·cases hr
  refine ⟨.iface t vx,?_,?_⟩
  ·simp only [Instr.makeInterface,Sem.run_bind,run_underlying hu,Result.andThen_ok]
   cases u <;> first | rfl | exact absurd rfl (hn _)
  ·have hc := hx.inv_sc
   cases hc with | pb hb => exact .v (.sc (.ipb hb))
 ·simp only [Option.map_eq_some_iff] at hr
  obtain ⟨ds,hds,rfl⟩ := hr
  obtain ⟨vs,rfl,hcs⟩ := hx.inv_ag
  obtain ⟨k1,k2⟩ := B6v hcs hds
  refine ⟨.iface t (.agg vs.toArray),?_,.v (.sc (.dat (.ifs k1 (k2.trans hcs.length))))⟩
  simp only [Instr.makeInterface,Sem.run_bind,run_underlying hu,Result.andThen_ok]
  cases u <;> first | rfl | exact absurd rfl (hn _)
 ·cases hr
theorem C1p {s t : TypeId} {u : TypeDesc} {i : TypeInfo} {z : Value} {ax r : AV} {vx : Value} {X : Cx} (hu : P.underlying t = some u) (hn : ∀ ms,u ≠ .interface ms) (hz : A63 P t = some (i,z)) (h1 : z.oneCell' = true) (hx : VRel X ax vx) (hr : A86 t (A48 z) ax = some r) :
  ∃ v,(Instr.typeAssert vx s t true).run P w = .ok v w ∧ VRel X r v := by
 unfold A86 at hr
 split at hr
 ·rename_i q d
  obtain ⟨hi,hz0⟩ := A3g hz
  have hc := hx.inv_sc
  cases hc with | dat hc =>
  cases hc with | ifc hd =>
  rename_i v
  by_cases e : q = t
  ·subst e
   simp only [beq_self_eq_true,cond_true,Option.some.injEq] at hr
   subst hr
   refine ⟨.tuple #[v,.bool true],?_,.tup (.cons (.sc (.dat hd)) (.cons (.sc (.dat .bool)) .nil))⟩
   simp only [Instr.typeAssert,Sem.run_bind,run_underlying hu,Result.andThen_ok]
   cases u <;> first | (simp; done) | exact absurd rfl (hn _)
  ·have e' : (q == t) = false := by simpa using e
   simp only [e',cond_false,Option.some.injEq] at hr
   subst hr
   refine ⟨.tuple #[z,.bool false],?_,.tup (.cons (.sc (A69 z h1)) (.cons (.sc (.dat .bool)) .nil))⟩
   simp only [Instr.typeAssert,Sem.run_bind,run_underlying hu,Result.andThen_ok]
   cases u <;> first | (simp [e,zeroValue,typeInfo,hi,hz0]; done) | exact absurd rfl (hn _)
 ·cases hr
theorem B90 (R : Rel A B w0 nm σ a.tmps w) {d d' : Nat} {o : Oper} {ao : AOp} {av : AV} (hc : A8 P d o = some ao) (hp : σ.pure ao = some (d',av)) :
  d' = d ∧ ∃ v,(execOp a.eval o).run P w = .ok (.value v) w ∧ VRel (cx A nm σ w) av v := by
 obtain ⟨dst,op,ty,pos,after,guard⟩ := o
 have fin : ∀ {s : Sem Value} {v : Value},s.run P w = .ok v w → (do pure (Next.value (← s)) : Sem Next).run P w = .ok (.value v) w := by
  intro s v hs
  simp [hs]
 cases op
 case move x =>
  simp only [A8,Option.map_eq_some_iff] at hc
  obtain ⟨y,hy,rfl⟩ := hc
  simp only [St.pure,Option.some.injEq,Prod.mk.injEq] at hp
  obtain ⟨rfl,rfl⟩ := hp
  exact ⟨rfl,_,rfl,B4 R hy⟩
 case assign x =>
  simp only [A8,Option.map_eq_some_iff] at hc
  obtain ⟨y,hy,rfl⟩ := hc
  simp only [St.pure,Option.some.injEq,Prod.mk.injEq] at hp
  obtain ⟨rfl,rfl⟩ := hp
  exact ⟨rfl,_,rfl,B4 R hy⟩
 case pick c x y =>
  simp only [A8] at hc
  split at hc
  ·rename_i c' x' y' h1 h2 h3
   cases hc
   simp only [St.pure,Option.map_eq_some_iff,Prod.mk.injEq] at hp
   obtain ⟨r,hr,rfl,rfl⟩ := hp
   obtain ⟨b,hb,hrel⟩ := C0s (B4 R h1) (B4 R h2) (B4 R h3) hr
   refine ⟨rfl,_,?_,hrel⟩
   simp only [execOp,hb,asBool,Sem.run_bind,Sem.run_pure,Result.andThen_ok]
  ·cases hc
 case build t ps =>
  simp only [A8] at hc
  split at hc
  ·rename_i fs i z hu hi
   obtain ⟨hi,hz0⟩ := A3g hi
   split at hc
   ·rename_i places hpl
    split at hc
    ·rename_i zs qs hz hq
     cases hc
     simp only [St.pure,Option.map_eq_some_iff,Prod.mk.injEq] at hp
     obtain ⟨cs,hcs,rfl,rfl⟩ := hp
     obtain ⟨cells,h1,h2⟩ := B14 (cells := z.cells) (B04 R hq) (A2e hz) hcs
     refine ⟨rfl,.agg cells,?_,?_⟩
     ·refine fin (run_build w t _ cells ?_)
      unfold Program.built
      rw [hi,hu]
      simp only [hpl,hz0]
      simpa using h1
     ·have := V1Rel.ag h2
      simp only [Array.toArray_toList] at this
      exact .v this
    ·cases hc
   ·cases hc
  ·rename_i n e i z hu hi
   obtain ⟨hi,hz0⟩ := A3g hi
   split at hc
   ·rename_i ie hie
    split at hc
    ·rename_i zs qs hz hq
     cases hc
     simp only [St.pure,Option.map_eq_some_iff,Prod.mk.injEq] at hp
     obtain ⟨cs,hcs,rfl,rfl⟩ := hp
     obtain ⟨cells,h1,h2⟩ := B14 (cells := z.cells) (B1j R hq) (A2e hz) hcs
     refine ⟨rfl,.agg cells,?_,?_⟩
     ·refine fin (run_build w t _ cells ?_)
      unfold Program.built
      rw [hi,hu]
      simp only [hie,hz0]
      simpa using h1
     ·have := V1Rel.ag h2
      simp only [Array.toArray_toList] at this
      exact .v this
    ·cases hc
   ·cases hc
  ·cases hc
 case load t x =>
  simp only [A8] at hc
  split at hc
  ·rename_i g n y h1 h2
   split at hc
   ·cases hc
    simp only [St.pure,Option.map_eq_some_iff,Prod.mk.injEq] at hp
    obtain ⟨r,hr,rfl,rfl⟩ := hp
    obtain ⟨v,hv,hrel⟩ := B01 R h1 (B4 R h2) hr
    exact ⟨rfl,v,fin hv,hrel⟩
   ·cases hc
  ·cases hc
 case nilCheck x =>
  simp only [A8,Option.map_eq_some_iff] at hc
  obtain ⟨y,hy,rfl⟩ := hc
  simp only [St.pure,Option.map_eq_some_iff,Prod.mk.injEq] at hp
  obtain ⟨r,hr,rfl,rfl⟩ := hp
  obtain ⟨⟨ad,hv⟩,hrel⟩ := C0t (B4 R hy) hr
  refine ⟨rfl,_,?_,hrel⟩
  simp [execOp,hv]
 case binOp op t x y yt =>
  simp only [A8] at hc
  split at hc
  ·rename_i x' y' h1 h2
   split at hc
   ·rename_i hu
    cases hc
    simp only [St.pure,Option.map_eq_some_iff,Prod.mk.injEq] at hp
    obtain ⟨r,hr,rfl,rfl⟩ := hp
    obtain ⟨v,hv,hrel⟩ := B3g (P := P) (w := w) (op := .eql) (OX := x) (OY := y) hu rfl (B4 R h1) (B4 R h2) hr
    exact ⟨rfl,v,fin hv,hrel⟩
   ·rename_i hu
    cases hc
    simp only [St.pure,Option.map_eq_some_iff,Prod.mk.injEq] at hp
    obtain ⟨r,hr,rfl,rfl⟩ := hp
    obtain ⟨v,hv,hrel⟩ := B3g (P := P) (w := w) (op := .neq) (OX := x) (OY := y) hu rfl (B4 R h1) (B4 R h2) hr
    exact ⟨rfl,v,fin hv,hrel⟩
   ·rename_i hu
    simp only [Option.map_eq_some_iff] at hc
    obtain ⟨ks,hks,rfl⟩ := hc
    simp only [St.pure,Option.map_eq_some_iff,Prod.mk.injEq] at hp
    obtain ⟨r,hr,rfl,rfl⟩ := hp
    obtain ⟨v,hv,hrel⟩ := B3m (P := P) (w := w) (op := .eql) (OX := x) (OY := y) hks rfl (B4 R h1) (B4 R h2) hr
    exact ⟨rfl,v,fin hv,hrel⟩
   ·rename_i hu
    simp only [Option.map_eq_some_iff] at hc
    obtain ⟨ks,hks,rfl⟩ := hc
    simp only [St.pure,Option.map_eq_some_iff,Prod.mk.injEq] at hp
    obtain ⟨r,hr,rfl,rfl⟩ := hp
    obtain ⟨v,hv,hrel⟩ := B3m (P := P) (w := w) (op := .neq) (OX := x) (OY := y) hks rfl (B4 R h1) (B4 R h2) hr
    exact ⟨rfl,v,fin hv,hrel⟩
   ·cases hc
    simp only [St.pure,Option.map_eq_some_iff,Prod.mk.injEq] at hp
    obtain ⟨r,hr,rfl,rfl⟩ := hp
    obtain ⟨v,hv,hrel⟩ := C3m (P := P) (w := w) (t := t) (OX := x) (OY := y) (B4 R h1) (B4 R h2) hr
    exact ⟨rfl,v,fin hv,hrel⟩
  ·cases hc
 case unOp op t x =>
  simp only [A8,Option.map_eq_some_iff] at hc
  obtain ⟨y,hy,rfl⟩ := hc
  simp only [St.pure,Option.map_eq_some_iff,Prod.mk.injEq] at hp
  obtain ⟨r,hr,rfl,rfl⟩ := hp
  obtain ⟨v,hv,hrel⟩ := C48 (P := P) (w := w) (B4 R hy) hr
  exact ⟨rfl,v,fin hv,hrel⟩
 case convert s t x =>
  simp only [A8] at hc
  split at hc
  ·rename_i k y hs ht hy
   cases hc
   simp only [St.pure] at hp
   split at hp
   ·rename_i k' n hv
    simp only [Option.some.injEq,Prod.mk.injEq] at hp
    obtain ⟨rfl,rfl⟩ := hp
    have hx := B4 R hy
    rw [hv] at hx
    obtain ⟨e,_⟩ := hx.inv_int
    refine ⟨rfl,_,fin ?_,A40⟩
    simp only [convert,Sem.run_bind,run_underlying hs,run_underlying ht,Result.andThen_ok,e]
    rename_i ds _ _
    cases ds <;> rfl
   ·cases hp
  ·rename_i e y hs ht hy
   split at hc
   ·rename_i he
    cases hc
    simp only [St.pure,Option.map_eq_some_iff,Prod.mk.injEq] at hp
    obtain ⟨r,hr,rfl,rfl⟩ := hp
    obtain ⟨v,hv,hrel⟩ := B8g (P := P) (w := w) hs he ht (B4 R hy) hr
    exact ⟨rfl,v,fin hv,hrel⟩
   ·cases hc
  ·cases hc
 case slice t x lo hi mx =>
  simp only [A8] at hc
  split at hc
  ·rename_i y l q m h1 h2 h3 h4
   split at hc
   ·cases hc
   ·rename_i hnm
    split at hc
    ·rename_i hu
     split at hc
     ·rename_i hmx
      cases hc
      simp only [St.pure,Option.map_eq_some_iff,Prod.mk.injEq] at hp
      obtain ⟨r,hr,rfl,rfl⟩ := hp
      have hm0 : mx = none := by simpa using hmx
      subst hm0
      obtain ⟨v,hv,hrel⟩ := C91 (P := P) (w := w) hu (B4 R h1) (A5m R h2) (A5m R h3) hr
      exact ⟨rfl,v,fin hv,hrel⟩
     ·cases hc
    ·rename_i e hu
     simp only [Option.map_eq_some_iff] at hc
     obtain ⟨inf,hi,rfl⟩ := hc
     simp only [St.pure,Option.map_eq_some_iff,Prod.mk.injEq] at hp
     obtain ⟨r,hr,rfl,rfl⟩ := hp
     obtain ⟨v,hv,hrel⟩ := D34 (P := P) (w := w) hu hi hnm (B4 R h1) (A5m R h2) (A5m R h3) (A5m R h4) hr
     exact ⟨rfl,v,fin hv,hrel⟩
    ·cases hc
  ·cases hc
 case fieldAddr s x f =>
  simp only [A8] at hc
  split at hc
  ·rename_i fs y hu hy
   split at hc
   ·rename_i fd hf
    split at hc
    ·rename_i i hi
     split at hc
     ·cases hc
     ·rename_i hz
      cases hc
      simp only [St.pure,Option.map_eq_some_iff,Prod.mk.injEq] at hp
      obtain ⟨r,hr,rfl,rfl⟩ := hp
      obtain ⟨v,hv,hrel⟩ := B79 (P := P) hu hf hi hz (B4 R hy) hr
      exact ⟨rfl,v,fin hv,hrel⟩
    ·cases hc
   ·cases hc
  ·cases hc
 case field t x f =>
  simp only [A8] at hc
  split at hc
  ·rename_i fs y hu hy
   split at hc
   ·rename_i fd hf
    split at hc
    ·rename_i g n hg
     split at hc
     ·cases hc
      simp only [St.pure,Option.map_eq_some_iff,Prod.mk.injEq] at hp
      obtain ⟨r,hr,rfl,rfl⟩ := hp
      obtain ⟨v,hv,hrel⟩ := B8b (P := P) hu hf hg (B4 R hy) hr
      exact ⟨rfl,v,fin hv,hrel⟩
     ·cases hc
    ·cases hc
   ·cases hc
  ·cases hc
 case indexAddr t x i =>
  simp only [A8] at hc
  split at hc
  ·rename_i inf y j h1 h2 h3
   cases hc
   simp only [St.pure,Option.map_eq_some_iff,Prod.mk.injEq] at hp
   obtain ⟨r,hr,rfl,rfl⟩ := hp
   obtain ⟨v,hv,hrel⟩ := B8d (P := P) h1 (B4 R h2) (B4 R h3) hr
   exact ⟨rfl,v,fin hv,hrel⟩
  ·rename_i y j h1 h2 h3
   split at hc
   ·rename_i len e hu
    split at hc
    ·rename_i ie hie
     split at hc
     ·rename_i k n
      split at hc
      ·rename_i hn
       cases hc
       simp only [St.pure,Option.map_eq_some_iff,Prod.mk.injEq] at hp
       obtain ⟨r,hr,rfl,rfl⟩ := hp
       obtain ⟨v,hv,hrel⟩ := B7l (P := P) (k := k) hu hie hn.1 hn.2.1 (B4 R h2) hr
       exact ⟨rfl,v,fin hv,hrel⟩
      ·cases hc
     ·cases hc
      simp only [St.pure,Option.map_eq_some_iff,Prod.mk.injEq] at hp
      obtain ⟨r,hr,rfl,rfl⟩ := hp
      obtain ⟨v,hv,hrel⟩ := B71 (P := P) hu hie (B4 R h2) (B4 R h3) hr
      exact ⟨rfl,v,fin hv,hrel⟩
    ·cases hc
   ·cases hc
  ·cases hc
 case index t x i =>
  simp only [A8] at hc
  split at hc
  ·rename_i y j h1 h2 h3
   cases hc
   simp only [St.pure,Option.map_eq_some_iff,Prod.mk.injEq] at hp
   obtain ⟨r,hr,rfl,rfl⟩ := hp
   obtain ⟨v,hv,hrel⟩ := C37 (P := P) h1 (B4 R h2) (B4 R h3) hr
   exact ⟨rfl,v,fin hv,hrel⟩
  ·rename_i len e y j h1 h2 h3
   split at hc
   ·rename_i g m k n hg
    split at hc
    ·rename_i hn
     cases hc
     simp only [St.pure,Option.map_eq_some_iff,Prod.mk.injEq] at hp
     obtain ⟨r,hr,rfl,rfl⟩ := hp
     obtain ⟨v,hv,hrel⟩ := B6g (P := P) (k := k) h1 hg hn.1 hn.2.1 (B4 R h2) hr
     exact ⟨rfl,v,fin hv,hrel⟩
    ·cases hc
   ·cases hc
  ·cases hc
 case extract x i =>
  simp only [A8,Option.map_eq_some_iff] at hc
  obtain ⟨y,hy,rfl⟩ := hc
  simp only [St.pure,Option.map_eq_some_iff,Prod.mk.injEq] at hp
  obtain ⟨r,hr,rfl,rfl⟩ := hp
  obtain ⟨v,hv,hrel⟩ := C1c (P := P) (w := w) (B4 R hy) hr
  exact ⟨rfl,v,fin hv,hrel⟩
 case makeInterface t x =>
  simp only [A8] at hc
  split at hc
  ·cases hc
  ·rename_i u y hn hu hy
   cases hc
   simp only [St.pure,Option.map_eq_some_iff,Prod.mk.injEq] at hp
   obtain ⟨r,hr,rfl,rfl⟩ := hp
   obtain ⟨v,hv,hrel⟩ := B97 (P := P) (w := w) hu (fun ms e => hn ms e) (B4 R hy) hr
   exact ⟨rfl,v,fin hv,hrel⟩
  ·cases hc
 case typeAssert x s t ok =>
  simp only [A8] at hc
  split at hc
  ·cases hc
  ·rename_i u i z y hn hu hz hy
   split at hc
   ·rename_i h1
    obtain ⟨h1,rfl⟩ := h1
    cases hc
    simp only [St.pure,Option.map_eq_some_iff,Prod.mk.injEq] at hp
    obtain ⟨r,hr,rfl,rfl⟩ := hp
    obtain ⟨v,hv,hrel⟩ := C1p (P := P) (w := w) (s := s) hu (fun ms e => hn ms e) hz h1 (B4 R hy) hr
    exact ⟨rfl,v,fin hv,hrel⟩
   ·cases hc
  ·cases hc
 case makeFunc fn first caps =>
  cases fn with
  | func f =>
   simp only [A8] at hc
   split at hc
   ·rename_i hf
    simp only [Option.map_eq_some_iff] at hc
    obtain ⟨ys,hy,rfl⟩ := hc
    simp only [St.pure,Option.map_eq_some_iff,Prod.mk.injEq] at hp
    obtain ⟨ids,hr,rfl,rfl⟩ := hp
    obtain ⟨hl,H⟩ := A9z R hy
    obtain ⟨bs,hbs,hvs⟩ := B30 (by simp [hl]) H hr
    have hf0 : first = #[] := by simpa using hf
    subst hf0
    have e : caps.map a.eval = (bs.map fun b => Value.pointer (some ⟨b,0,none⟩)).toArray := by
     apply Array.ext'
     rw [Array.toList_map,hvs]
    refine ⟨rfl,.func (.func f) #[] (caps.map a.eval),by simp [execOp,Instr.makeFunc],?_⟩
    rw [e]
    exact L4 (.clo hbs)
   ·cases hc
  | _ => simp [A8] at hc
 case call c =>
  obtain ⟨callee,args,argTypes⟩ := c
  cases callee with
  | value f =>
   exfalso
   cases f with
   | func f =>
    simp only [A8] at hc
    split at hc
    ·split at hc
     ·simp only [Option.map_eq_some_iff] at hc
      obtain ⟨ys,_,rfl⟩ := hc
      simp [St.pure] at hp
     ·cases hc
    ·cases hc
   | tmp t =>
    simp only [A8,Option.map_eq_some_iff] at hc
    obtain ⟨ys,_,rfl⟩ := hc
    simp [St.pure] at hp
   | _ => simp [A8] at hc
  | invoke r m => simp [A8] at hc
  | builtin bi =>
   have fin2 : ∀ {s : Sem Value} {v : Value},s.run P w = .ok v w → (do pure (Next.value (← s)) : Sem Next).run P w = .ok (.value v) w := fin
   cases bi <;> try (simp [A8] at hc; done)
   case append =>
    exfalso
    simp only [A8] at hc
    split at hc
    ·split at hc
     ·split at hc
      ·cases hc; simp [St.pure] at hp
      ·cases hc
     ·cases hc
    ·cases hc
   case len =>
    simp only [A8] at hc
    split at hc
    ·rename_i x t hargs htys
     have e1 : args = #[x] := by apply Array.ext'; simpa using hargs
     have e2 : argTypes = #[t] := by apply Array.ext'; simpa using htys
     subst e1 e2
     split at hc
     ·rename_i y hu hy
      cases hc
      simp only [St.pure,Option.map_eq_some_iff,Prod.mk.injEq] at hp
      obtain ⟨r,hr,rfl,rfl⟩ := hp
      obtain ⟨v,hv,hrel⟩ := B9s (P := P) (ty := ty) hu (B4 R hy) hr
      refine ⟨rfl,v,?_,hrel⟩
      simp [execOp,resolve,invoke,builtin,hv]
     ·rename_i e y hu hy
      cases hc
      simp only [St.pure,Option.map_eq_some_iff,Prod.mk.injEq] at hp
      obtain ⟨r,hr,rfl,rfl⟩ := hp
      obtain ⟨v,hv,hrel⟩ := C36 (P := P) (ty := ty) hu (B4 R hy) hr
      refine ⟨rfl,v,?_,hrel⟩
      simp [execOp,resolve,invoke,builtin,hv]
     ·cases hc
    ·cases hc
   case max =>
    simp only [A8] at hc
    split at hc
    ·rename_i x y hargs
     have e1 : args = #[x,y] := by apply Array.ext'; simpa using hargs
     subst e1
     split at hc
     ·rename_i x' y' hx hy
      cases hc
      simp only [St.pure,Option.map_eq_some_iff,Prod.mk.injEq] at hp
      obtain ⟨r,hr,rfl,rfl⟩ := hp
      obtain ⟨v,hv,hrel⟩ := B7d (P := P) (B4 R hx) (B4 R hy) hr
      simp only [if_true] at hv
      refine ⟨rfl,v,?_,hrel⟩
      simp [execOp,resolve,invoke,builtin,Builtin.max_,hv]
     ·cases hc
    ·cases hc
   case min =>
    simp only [A8] at hc
    split at hc
    ·rename_i x y hargs
     have e1 : args = #[x,y] := by apply Array.ext'; simpa using hargs
     subst e1
     split at hc
     ·rename_i x' y' hx hy
      cases hc
      simp only [St.pure,Option.map_eq_some_iff,Prod.mk.injEq] at hp
      obtain ⟨r,hr,rfl,rfl⟩ := hp
      obtain ⟨v,hv,hrel⟩ := B7d (P := P) (B4 R hx) (B4 R hy) hr
      simp only [Bool.false_eq_true,if_false] at hv
      refine ⟨rfl,v,?_,hrel⟩
      simp [execOp,resolve,invoke,builtin,Builtin.min_,hv]
     ·cases hc
    ·cases hc
 case alloc e =>
  exfalso
  simp only [A8] at hc
  split at hc
  ·simp only [Option.map_eq_some_iff] at hc
   obtain ⟨_,_,rfl⟩ := hc
   simp [St.pure] at hp
  ·cases hc
 case box e x =>
  exfalso
  simp only [A8,Option.map_eq_some_iff] at hc
  obtain ⟨_,_,rfl⟩ := hc
  simp [St.pure] at hp
 case buildSlice t l ps =>
  exfalso
  simp only [A8] at hc
  split at hc
  ·split at hc
   ·split at hc
    ·cases hc; simp [St.pure] at hp
    ·cases hc
   ·cases hc
  ·cases hc
 case makeSlice t l c =>
  exfalso
  simp only [A8] at hc
  split at hc
  ·split at hc
   ·split at hc
    ·cases hc; simp [St.pure] at hp
    ·cases hc
   ·cases hc
  ·cases hc
 all_goals (simp [A8] at hc)
end
end Go.Vi
