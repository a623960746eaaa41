/-
  The value level: every operation that changes nothing, in one theorem. No condition.
-/
import Derived.Test.YtahienmgcfgclaaDoorSVi7
namespace Go.Vi
section
variable {P : Program} {A : Ar} {B : Nat} {w0 : Base} {nm : Names} {σ : St} {a : Act} {w : World}
theorem opds_rel (R : Rel A B w0 nm σ a.tmps w) : ∀ {xs : List Operand} {ys : List Opd},opdsC xs = some ys →
  ys.length = xs.length ∧ ∀ (i : Nat) (u : AV) (v : Value),(ys.map σ.val)[i]? = some u → (xs.map a.eval)[i]? = some v → VRel (cx A nm σ w) u v
 | [],ys,hy => by simp [opdsC] at hy; subst hy; exact ⟨rfl,fun i u v hu => by simp at hu⟩
 | x :: xs,ys,hy => by
  simp only [opdsC] at hy
  split at hy
  ·rename_i y ys' h1 h2
   cases hy
   obtain ⟨hl,H⟩ := opds_rel R h2
   refine ⟨by simp [hl],fun i u v hu hv => ?_⟩
   cases i with
   | zero => simp at hu hv; subst hu hv; exact opd_rel R h1
   | succ i => simp only [List.map_cons,List.getElem?_cons_succ] at hu hv; exact H i u v hu hv
  ·cases hy
theorem partsC_rel (R : Rel A B w0 nm σ a.tmps w) {places : List (Nat × Nat)} : ∀ {ps : List (Nat × Operand)} {qs : List (Nat × Nat × Opd)},partsC places ps = some qs →
  PartsRel (cx A nm σ w) (places.toArray[·]?) (qs.map fun p => (p.1,p.2.1,σ.val p.2.2)) (ps.map fun p => (p.1,a.eval p.2))
 | [],qs,hq => by simp [partsC] at hq; subst hq; exact .nil
 | (i,x) :: r,qs,hq => by
  simp only [partsC] at hq
  split at hq
  ·rename_i p y ys h1 h2 h3
   cases hq
   exact .cons (by simpa using h1) (opd_rel R h2) (partsC_rel R h3)
  ·cases hq
theorem zeroC_spec {t : TypeId} {i : TypeInfo} {z : Value} (hz : zeroC P t = some (i,z)) : P.info? t = some i ∧ i.zero = some z := by
 unfold zeroC at hz
 split at hz
 ·rename_i i' hi
  simp only [Option.map_eq_some_iff,Prod.mk.injEq] at hz
  obtain ⟨z',h1,rfl,rfl⟩ := hz
  exact ⟨hi,h1⟩
 ·cases hz
theorem elemZ_spec {t : TypeId} {i : TypeInfo} {z : Value} (hz : elemZ P t = some (i,z)) : ∃ e,P.underlying t = some (.slice e) ∧ P.info? e = some i ∧ i.zero = some z := by
 unfold elemZ at hz
 split at hz
 ·rename_i e hu
  exact ⟨e,hu,zeroC_spec hz⟩
 ·cases hz
theorem agI_rel {X : Cx} {c : AC} {v : Value} {d : D} (H : CRel X c v) (hd : toI c = some d) : Rep X.h d v := by
 cases c with
 | dat d' =>
  simp only [toI,Option.some.injEq] at hd
  subst hd
  cases H with | dat h => exact h
 | nil =>
  simp only [toI,Option.some.injEq] at hd
  subst hd
  cases H
  exact .nil
 | _ => simp [toI] at hd
theorem agIs_rel {X : Cx} : ∀ {cs : List AC} {vs : List Value} {ds : List D},CRels X cs vs → toIs cs = some ds → Reps X.h ds vs ∧ ds.length = cs.length
 | [],vs,ds,_,hd => by simp [toIs] at hd; subst hd; exact ⟨.nil,rfl⟩
 | c :: cs,_,ds,.cons a b,hd => by
  simp only [toIs] at hd
  split at hd
  ·rename_i d ds' h1 h2
   cases hd
   obtain ⟨h3,h4⟩ := agIs_rel b h2
   exact ⟨.cons (agI_rel a h1) h3,by simp [h4]⟩
  ·cases hd
theorem mkif_sound {t : TypeId} {u : TypeDesc} {ax r : AV} {vx : Value} {X : Cx} (hu : P.underlying t = some u) (hn : ∀ ms,u ≠ .interface ms) (hx : VRel X ax vx) (hr : mkifV t ax = some r) :
  ∃ v,(Instr.makeInterface t vx).run P w = .ok v w ∧ VRel X r v := by
 unfold mkifV at hr
 split at hr
 ·cases hr
  refine ⟨.iface t vx,?_,.v (.sc (.dat (.ifc (by cases hx.inv_sc with | dat h => exact h))))⟩
  simp only [Instr.makeInterface,Sem.run_bind,run_underlying hu,Result.andThen_ok]
  cases u <;> first | rfl | exact absurd rfl (hn _)
 ·cases hr
  refine ⟨.iface t vx,?_,?_⟩
  ·simp only [Instr.makeInterface,Sem.run_bind,run_underlying hu,Result.andThen_ok]
   cases u <;> first | rfl | exact absurd rfl (hn _)
  ·have hc := hx.inv_sc
   cases hc with | pb hb => exact .v (.sc (.ipb hb))
 ·simp only [Option.map_eq_some_iff] at hr
  obtain ⟨ds,hds,rfl⟩ := hr
  obtain ⟨vs,rfl,hcs⟩ := hx.inv_ag
  obtain ⟨k1,k2⟩ := agIs_rel hcs hds
  refine ⟨.iface t (.agg vs.toArray),?_,.v (.sc (.dat (.ifs k1 (k2.trans hcs.length))))⟩
  simp only [Instr.makeInterface,Sem.run_bind,run_underlying hu,Result.andThen_ok]
  cases u <;> first | rfl | exact absurd rfl (hn _)
 ·cases hr
theorem tass_sound {s t : TypeId} {u : TypeDesc} {i : TypeInfo} {z : Value} {ax r : AV} {vx : Value} {X : Cx} (hu : P.underlying t = some u) (hn : ∀ ms,u ≠ .interface ms) (hz : zeroC P t = some (i,z)) (h1 : z.oneCell' = true) (hx : VRel X ax vx) (hr : tassV t (constC z) ax = some r) :
  ∃ v,(Instr.typeAssert vx s t true).run P w = .ok v w ∧ VRel X r v := by
 unfold tassV at hr
 split at hr
 ·rename_i q d
  obtain ⟨hi,hz0⟩ := zeroC_spec hz
  have hc := hx.inv_sc
  cases hc with | dat hc =>
  cases hc with | ifc hd =>
  rename_i v
  by_cases e : q = t
  ·subst e
   simp only [beq_self_eq_true,cond_true,Option.some.injEq] at hr
   subst hr
   refine ⟨.tuple #[v,.bool true],?_,.tup (.cons (.sc (.dat hd)) (.cons (.sc (.dat .bool)) .nil))⟩
   simp only [Instr.typeAssert,Sem.run_bind,run_underlying hu,Result.andThen_ok]
   cases u <;> first | (simp; done) | exact absurd rfl (hn _)
  ·have e' : (q == t) = false := by simpa using e
   simp only [e',cond_false,Option.some.injEq] at hr
   subst hr
   refine ⟨.tuple #[z,.bool false],?_,.tup (.cons (.sc (constC_rel z h1)) (.cons (.sc (.dat .bool)) .nil))⟩
   simp only [Instr.typeAssert,Sem.run_bind,run_underlying hu,Result.andThen_ok]
   cases u <;> first | (simp [e,zeroValue,typeInfo,hi,hz0]; done) | exact absurd rfl (hn _)
 ·cases hr
theorem pure_sound (R : Rel A B w0 nm σ a.tmps w) {d d' : Nat} {o : Oper} {ao : AOp} {av : AV} (hc : compAt P d o = some ao) (hp : σ.pure ao = some (d',av)) :
  d' = d ∧ ∃ v,(execOp a.eval o).run P w = .ok (.value v) w ∧ VRel (cx A nm σ w) av v := by
 obtain ⟨dst,op,ty,pos,after,guard⟩ := o
 have fin : ∀ {s : Sem Value} {v : Value},s.run P w = .ok v w → (do pure (Next.value (← s)) : Sem Next).run P w = .ok (.value v) w := by
  intro s v hs
  simp [hs]
 cases op
 case move x =>
  simp only [compAt,Option.map_eq_some_iff] at hc
  obtain ⟨y,hy,rfl⟩ := hc
  simp only [St.pure,Option.some.injEq,Prod.mk.injEq] at hp
  obtain ⟨rfl,rfl⟩ := hp
  exact ⟨rfl,_,rfl,opd_rel R hy⟩
 case assign x =>
  simp only [compAt,Option.map_eq_some_iff] at hc
  obtain ⟨y,hy,rfl⟩ := hc
  simp only [St.pure,Option.some.injEq,Prod.mk.injEq] at hp
  obtain ⟨rfl,rfl⟩ := hp
  exact ⟨rfl,_,rfl,opd_rel R hy⟩
 case pick c x y =>
  simp only [compAt] at hc
  split at hc
  ·rename_i c' x' y' h1 h2 h3
   cases hc
   simp only [St.pure,Option.map_eq_some_iff,Prod.mk.injEq] at hp
   obtain ⟨r,hr,rfl,rfl⟩ := hp
   obtain ⟨b,hb,hrel⟩ := pick_sound (opd_rel R h1) (opd_rel R h2) (opd_rel R h3) hr
   refine ⟨rfl,_,?_,hrel⟩
   simp only [execOp,hb,asBool,Sem.run_bind,Sem.run_pure,Result.andThen_ok]
  ·cases hc
 case build t ps =>
  simp only [compAt] at hc
  split at hc
  ·rename_i fs i z hu hi
   obtain ⟨hi,hz0⟩ := zeroC_spec hi
   split at hc
   ·rename_i places hpl
    split at hc
    ·rename_i zs qs hz hq
     cases hc
     simp only [St.pure,Option.map_eq_some_iff,Prod.mk.injEq] at hp
     obtain ⟨cs,hcs,rfl,rfl⟩ := hp
     obtain ⟨cells,h1,h2⟩ := fill_sound (cells := z.cells) (partsC_rel R hq) (constCs_rel hz) hcs
     refine ⟨rfl,.agg cells,?_,?_⟩
     ·refine fin (run_build w t _ cells ?_)
      unfold Program.built
      rw [hi,hu]
      simp only [hpl,hz0]
      simpa using h1
     ·have := V1Rel.ag h2
      simp only [Array.toArray_toList] at this
      exact .v this
    ·cases hc
   ·cases hc
  ·cases hc
 case load t x =>
  simp only [compAt] at hc
  split at hc
  ·rename_i g n y h1 h2
   split at hc
   ·cases hc
    simp only [St.pure,Option.map_eq_some_iff,Prod.mk.injEq] at hp
    obtain ⟨r,hr,rfl,rfl⟩ := hp
    obtain ⟨v,hv,hrel⟩ := load_sound R h1 (opd_rel R h2) hr
    exact ⟨rfl,v,fin hv,hrel⟩
   ·cases hc
  ·cases hc
 case nilCheck x =>
  simp only [compAt,Option.map_eq_some_iff] at hc
  obtain ⟨y,hy,rfl⟩ := hc
  simp only [St.pure,Option.map_eq_some_iff,Prod.mk.injEq] at hp
  obtain ⟨r,hr,rfl,rfl⟩ := hp
  obtain ⟨⟨ad,hv⟩,hrel⟩ := nilc_sound (opd_rel R hy) hr
  refine ⟨rfl,_,?_,hrel⟩
  simp [execOp,hv]
 case binOp op t x y yt =>
  simp only [compAt] at hc
  split at hc
  ·rename_i x' y' h1 h2
   split at hc
   ·rename_i hu
    cases hc
    simp only [St.pure,Option.map_eq_some_iff,Prod.mk.injEq] at hp
    obtain ⟨r,hr,rfl,rfl⟩ := hp
    obtain ⟨v,hv,hrel⟩ := beq_sound (P := P) (w := w) (op := .eql) (OX := x) (OY := y) hu rfl (opd_rel R h1) (opd_rel R h2) hr
    exact ⟨rfl,v,fin hv,hrel⟩
   ·rename_i hu
    cases hc
    simp only [St.pure,Option.map_eq_some_iff,Prod.mk.injEq] at hp
    obtain ⟨r,hr,rfl,rfl⟩ := hp
    obtain ⟨v,hv,hrel⟩ := beq_sound (P := P) (w := w) (op := .neq) (OX := x) (OY := y) hu rfl (opd_rel R h1) (opd_rel R h2) hr
    exact ⟨rfl,v,fin hv,hrel⟩
   ·rename_i hu
    simp only [Option.map_eq_some_iff] at hc
    obtain ⟨ks,hks,rfl⟩ := hc
    simp only [St.pure,Option.map_eq_some_iff,Prod.mk.injEq] at hp
    obtain ⟨r,hr,rfl,rfl⟩ := hp
    obtain ⟨v,hv,hrel⟩ := geq_sound (P := P) (w := w) (op := .eql) (OX := x) (OY := y) hks rfl (opd_rel R h1) (opd_rel R h2) hr
    exact ⟨rfl,v,fin hv,hrel⟩
   ·rename_i hu
    simp only [Option.map_eq_some_iff] at hc
    obtain ⟨ks,hks,rfl⟩ := hc
    simp only [St.pure,Option.map_eq_some_iff,Prod.mk.injEq] at hp
    obtain ⟨r,hr,rfl,rfl⟩ := hp
    obtain ⟨v,hv,hrel⟩ := geq_sound (P := P) (w := w) (op := .neq) (OX := x) (OY := y) hks rfl (opd_rel R h1) (opd_rel R h2) hr
    exact ⟨rfl,v,fin hv,hrel⟩
   ·cases hc
    simp only [St.pure,Option.map_eq_some_iff,Prod.mk.injEq] at hp
    obtain ⟨r,hr,rfl,rfl⟩ := hp
    obtain ⟨v,hv,hrel⟩ := bin_sound (P := P) (w := w) (t := t) (OX := x) (OY := y) (opd_rel R h1) (opd_rel R h2) hr
    exact ⟨rfl,v,fin hv,hrel⟩
  ·cases hc
 case unOp op t x =>
  simp only [compAt,Option.map_eq_some_iff] at hc
  obtain ⟨y,hy,rfl⟩ := hc
  simp only [St.pure,Option.map_eq_some_iff,Prod.mk.injEq] at hp
  obtain ⟨r,hr,rfl,rfl⟩ := hp
  obtain ⟨v,hv,hrel⟩ := un_sound (P := P) (w := w) (opd_rel R hy) hr
  exact ⟨rfl,v,fin hv,hrel⟩
 case convert s t x =>
  simp only [compAt] at hc
  split at hc
  ·rename_i k y hs ht hy
   cases hc
   simp only [St.pure] at hp
   split at hp
   ·rename_i k' n hv
    simp only [Option.some.injEq,Prod.mk.injEq] at hp
    obtain ⟨rfl,rfl⟩ := hp
    have hx := opd_rel R hy
    rw [hv] at hx
    obtain ⟨e,_⟩ := hx.inv_int
    refine ⟨rfl,_,fin ?_,mk_wrap⟩
    simp only [convert,Sem.run_bind,run_underlying hs,run_underlying ht,Result.andThen_ok,e]
    rename_i ds _ _
    cases ds <;> rfl
   ·cases hp
  ·rename_i e y hs ht hy
   split at hc
   ·rename_i he
    cases hc
    simp only [St.pure,Option.map_eq_some_iff,Prod.mk.injEq] at hp
    obtain ⟨r,hr,rfl,rfl⟩ := hp
    obtain ⟨v,hv,hrel⟩ := sconv_sound (P := P) (w := w) hs he ht (opd_rel R hy) hr
    exact ⟨rfl,v,fin hv,hrel⟩
   ·cases hc
  ·cases hc
 case slice t x lo hi mx =>
  simp only [compAt] at hc
  split at hc
  ·rename_i y l q m h1 h2 h3 h4
   split at hc
   ·cases hc
   ·rename_i hnm
    split at hc
    ·rename_i hu
     split at hc
     ·rename_i hmx
      cases hc
      simp only [St.pure,Option.map_eq_some_iff,Prod.mk.injEq] at hp
      obtain ⟨r,hr,rfl,rfl⟩ := hp
      have hm0 : mx = none := by simpa using hmx
      subst hm0
      obtain ⟨v,hv,hrel⟩ := slc_str (P := P) (w := w) hu (opd_rel R h1) (opdO_rel R h2) (opdO_rel R h3) hr
      exact ⟨rfl,v,fin hv,hrel⟩
     ·cases hc
    ·rename_i e hu
     simp only [Option.map_eq_some_iff] at hc
     obtain ⟨inf,hi,rfl⟩ := hc
     simp only [St.pure,Option.map_eq_some_iff,Prod.mk.injEq] at hp
     obtain ⟨r,hr,rfl,rfl⟩ := hp
     obtain ⟨v,hv,hrel⟩ := slc_sl (P := P) (w := w) hu hi hnm (opd_rel R h1) (opdO_rel R h2) (opdO_rel R h3) (opdO_rel R h4) hr
     exact ⟨rfl,v,fin hv,hrel⟩
    ·cases hc
  ·cases hc
 case fieldAddr s x f =>
  simp only [compAt] at hc
  split at hc
  ·rename_i fs y hu hy
   split at hc
   ·rename_i fd hf
    split at hc
    ·rename_i i hi
     split at hc
     ·cases hc
     ·rename_i hz
      cases hc
      simp only [St.pure,Option.map_eq_some_iff,Prod.mk.injEq] at hp
      obtain ⟨r,hr,rfl,rfl⟩ := hp
      obtain ⟨v,hv,hrel⟩ := faddr_sound (P := P) hu hf hi hz (opd_rel R hy) hr
      exact ⟨rfl,v,fin hv,hrel⟩
    ·cases hc
   ·cases hc
  ·cases hc
 case field t x f =>
  simp only [compAt] at hc
  split at hc
  ·rename_i fs y hu hy
   split at hc
   ·rename_i fd hf
    split at hc
    ·rename_i g n hg
     split at hc
     ·cases hc
      simp only [St.pure,Option.map_eq_some_iff,Prod.mk.injEq] at hp
      obtain ⟨r,hr,rfl,rfl⟩ := hp
      obtain ⟨v,hv,hrel⟩ := field_sound (P := P) hu hf hg (opd_rel R hy) hr
      exact ⟨rfl,v,fin hv,hrel⟩
     ·cases hc
    ·cases hc
   ·cases hc
  ·cases hc
 case indexAddr t x i =>
  simp only [compAt] at hc
  split at hc
  ·rename_i inf y j h1 h2 h3
   cases hc
   simp only [St.pure,Option.map_eq_some_iff,Prod.mk.injEq] at hp
   obtain ⟨r,hr,rfl,rfl⟩ := hp
   obtain ⟨v,hv,hrel⟩ := iaddr_sound (P := P) h1 (opd_rel R h2) (opd_rel R h3) hr
   exact ⟨rfl,v,fin hv,hrel⟩
  ·cases hc
 case index t x i =>
  simp only [compAt] at hc
  split at hc
  ·rename_i y j h1 h2 h3
   cases hc
   simp only [St.pure,Option.map_eq_some_iff,Prod.mk.injEq] at hp
   obtain ⟨r,hr,rfl,rfl⟩ := hp
   obtain ⟨v,hv,hrel⟩ := idx_sound (P := P) h1 (opd_rel R h2) (opd_rel R h3) hr
   exact ⟨rfl,v,fin hv,hrel⟩
  ·cases hc
 case extract x i =>
  simp only [compAt,Option.map_eq_some_iff] at hc
  obtain ⟨y,hy,rfl⟩ := hc
  simp only [St.pure,Option.map_eq_some_iff,Prod.mk.injEq] at hp
  obtain ⟨r,hr,rfl,rfl⟩ := hp
  obtain ⟨v,hv,hrel⟩ := extr_sound (P := P) (w := w) (opd_rel R hy) hr
  exact ⟨rfl,v,fin hv,hrel⟩
 case makeInterface t x =>
  simp only [compAt] at hc
  split at hc
  ·cases hc
  ·rename_i u y hn hu hy
   cases hc
   simp only [St.pure,Option.map_eq_some_iff,Prod.mk.injEq] at hp
   obtain ⟨r,hr,rfl,rfl⟩ := hp
   obtain ⟨v,hv,hrel⟩ := mkif_sound (P := P) (w := w) hu (fun ms e => hn ms e) (opd_rel R hy) hr
   exact ⟨rfl,v,fin hv,hrel⟩
  ·cases hc
 case typeAssert x s t ok =>
  simp only [compAt] at hc
  split at hc
  ·cases hc
  ·rename_i u i z y hn hu hz hy
   split at hc
   ·rename_i h1
    obtain ⟨h1,rfl⟩ := h1
    cases hc
    simp only [St.pure,Option.map_eq_some_iff,Prod.mk.injEq] at hp
    obtain ⟨r,hr,rfl,rfl⟩ := hp
    obtain ⟨v,hv,hrel⟩ := tass_sound (P := P) (w := w) (s := s) hu (fun ms e => hn ms e) hz h1 (opd_rel R hy) hr
    exact ⟨rfl,v,fin hv,hrel⟩
   ·cases hc
  ·cases hc
 case makeFunc fn first caps =>
  cases fn with
  | func f =>
   simp only [compAt] at hc
   split at hc
   ·rename_i hf
    simp only [Option.map_eq_some_iff] at hc
    obtain ⟨ys,hy,rfl⟩ := hc
    simp only [St.pure,Option.map_eq_some_iff,Prod.mk.injEq] at hp
    obtain ⟨ids,hr,rfl,rfl⟩ := hp
    obtain ⟨hl,H⟩ := opds_rel R hy
    obtain ⟨bs,hbs,hvs⟩ := mkf_sound (by simp [hl]) H hr
    have hf0 : first = #[] := by simpa using hf
    subst hf0
    have e : caps.map a.eval = (bs.map fun b => Value.pointer (some ⟨b,0,none⟩)).toArray := by
     apply Array.ext'
     rw [Array.toList_map,hvs]
    refine ⟨rfl,.func (.func f) #[] (caps.map a.eval),by simp [execOp,Instr.makeFunc],?_⟩
    rw [e]
    exact mk_sc (.clo hbs)
   ·cases hc
  | _ => simp [compAt] at hc
 case call c =>
  obtain ⟨callee,args,argTypes⟩ := c
  cases callee with
  | value f =>
   exfalso
   cases f with
   | func f =>
    simp only [compAt] at hc
    split at hc
    ·split at hc
     ·simp only [Option.map_eq_some_iff] at hc
      obtain ⟨ys,_,rfl⟩ := hc
      simp [St.pure] at hp
     ·cases hc
    ·cases hc
   | tmp t =>
    simp only [compAt,Option.map_eq_some_iff] at hc
    obtain ⟨ys,_,rfl⟩ := hc
    simp [St.pure] at hp
   | _ => simp [compAt] at hc
  | invoke r m => simp [compAt] at hc
  | builtin bi =>
   have fin2 : ∀ {s : Sem Value} {v : Value},s.run P w = .ok v w → (do pure (Next.value (← s)) : Sem Next).run P w = .ok (.value v) w := fin
   cases bi <;> try (simp [compAt] at hc; done)
   case append =>
    exfalso
    simp only [compAt] at hc
    split at hc
    ·split at hc
     ·split at hc
      ·cases hc; simp [St.pure] at hp
      ·cases hc
     ·cases hc
    ·cases hc
   case len =>
    simp only [compAt] at hc
    split at hc
    ·rename_i x t hargs htys
     have e1 : args = #[x] := by apply Array.ext'; simpa using hargs
     have e2 : argTypes = #[t] := by apply Array.ext'; simpa using htys
     subst e1 e2
     split at hc
     ·rename_i y hu hy
      cases hc
      simp only [St.pure,Option.map_eq_some_iff,Prod.mk.injEq] at hp
      obtain ⟨r,hr,rfl,rfl⟩ := hp
      obtain ⟨v,hv,hrel⟩ := slen_sound (P := P) (ty := ty) hu (opd_rel R hy) hr
      refine ⟨rfl,v,?_,hrel⟩
      simp [execOp,resolve,invoke,builtin,hv]
     ·rename_i e y hu hy
      cases hc
      simp only [St.pure,Option.map_eq_some_iff,Prod.mk.injEq] at hp
      obtain ⟨r,hr,rfl,rfl⟩ := hp
      obtain ⟨v,hv,hrel⟩ := len_sound (P := P) (ty := ty) hu (opd_rel R hy) hr
      refine ⟨rfl,v,?_,hrel⟩
      simp [execOp,resolve,invoke,builtin,hv]
     ·cases hc
    ·cases hc
   case max =>
    simp only [compAt] at hc
    split at hc
    ·rename_i x y hargs
     have e1 : args = #[x,y] := by apply Array.ext'; simpa using hargs
     subst e1
     split at hc
     ·rename_i x' y' hx hy
      cases hc
      simp only [St.pure,Option.map_eq_some_iff,Prod.mk.injEq] at hp
      obtain ⟨r,hr,rfl,rfl⟩ := hp
      obtain ⟨v,hv,hrel⟩ := mm_sound (P := P) (opd_rel R hx) (opd_rel R hy) hr
      simp only [if_true] at hv
      refine ⟨rfl,v,?_,hrel⟩
      simp [execOp,resolve,invoke,builtin,Builtin.max_,hv]
     ·cases hc
    ·cases hc
   case min =>
    simp only [compAt] at hc
    split at hc
    ·rename_i x y hargs
     have e1 : args = #[x,y] := by apply Array.ext'; simpa using hargs
     subst e1
     split at hc
     ·rename_i x' y' hx hy
      cases hc
      simp only [St.pure,Option.map_eq_some_iff,Prod.mk.injEq] at hp
      obtain ⟨r,hr,rfl,rfl⟩ := hp
      obtain ⟨v,hv,hrel⟩ := mm_sound (P := P) (opd_rel R hx) (opd_rel R hy) hr
      simp only [Bool.false_eq_true,if_false] at hv
      refine ⟨rfl,v,?_,hrel⟩
      simp [execOp,resolve,invoke,builtin,Builtin.min_,hv]
     ·cases hc
    ·cases hc
 case alloc e =>
  exfalso
  simp only [compAt] at hc
  split at hc
  ·simp only [Option.map_eq_some_iff] at hc
   obtain ⟨_,_,rfl⟩ := hc
   simp [St.pure] at hp
  ·cases hc
 case box e x =>
  exfalso
  simp only [compAt,Option.map_eq_some_iff] at hc
  obtain ⟨_,_,rfl⟩ := hc
  simp [St.pure] at hp
 case buildSlice t l ps =>
  exfalso
  simp only [compAt] at hc
  split at hc
  ·split at hc
   ·split at hc
    ·cases hc; simp [St.pure] at hp
    ·cases hc
   ·cases hc
  ·cases hc
 case makeSlice t l c =>
  exfalso
  simp only [compAt] at hc
  split at hc
  ·split at hc
   ·split at hc
    ·cases hc; simp [St.pure] at hp
    ·cases hc
   ·cases hc
  ·cases hc
 all_goals (simp [compAt] at hc)
end
end Go.Vi
