/-
  A function whose deferred closure recovers from a panic and lays its two named results. No condition.
-/
import Derived.Test.YtahienmgcfgclaaGVi39
import Derived.Test.YtahienmgcfgclaaProg
import Derived.KernelRfl
import Derived.WalkKit
import Derived.Defers
import Derived.Recover
import Derived.Laws.Pointers
namespace Go.Vi
open Go.Proofs Go.RowKit
set_option linter.unusedSimpArgs false
set_option linter.unusedVariables false
def A5i (T : TypeId) (n m : Int) (b : Bool) : FrameMode := .panicking [{ v := .iface T (.agg #[.int .i64 n,.int .i64 m]),recovered := b }]
def C08 (P : Program) (g : FuncId) : Prop := ∀ (p q : Addr) (w : World),CallsD P g #[.pointer (some p),.pointer (some q)] .returning w fun e u' w' => (∃ v,e = .returned v) ∧ u' = .returning ∧ RowKit.Below w.heap.size w w'
def B7s (P : Program) (g : FuncId) (T : TypeId) : Prop := ∀ (p q : Addr) (n m : Int) (w : World) (x y : Value),w.cell? p = some x → w.cell? q = some y → w.frozen? p = false → w.frozen? q = false → p.block ≠ q.block →
 CallsD P g #[.pointer (some p),.pointer (some q)] (A5i T n m false) w fun e u' w' => (∃ v,e = .returned v) ∧ u' = A5i T n m true ∧ ∃ w1,RowKit.Below w.heap.size w w1 ∧ w' = (w1.setCell p (.int .i64 n)).setCell q (.int .i64 m)
abbrev pX : Nat := 1099511627776
abbrev pY : Nat := 1099511627777
theorem pXY : ¬ (2 * pY = 2 * pX) := by unfold pX pY; omega
def B6d (b1 b2 : Nat) (T : TypeId) (r : Int × Int) (e : AExit) (σ : St) : Prop :=
 σ.get b1 = .v (.sc (.pb pX 0)) ∧ σ.get b2 = .v (.sc (.pb pY 0)) ∧ ∃ u v,A2 σ.bx pX = some [.dat (.int .i64 u)] ∧ A2 σ.bx pY = some [.dat (.int .i64 v)] ∧ match e with
  | .normal | .ret => u = r.1 ∧ v = r.2
  | .pan d => d = .ifs T [.int .i64 r.1,.int .i64 r.2]
  | .exit _ => False
def D4e (o : Oper) (g t b1 b2 : Nat) : Bool := o.guard.isNone && (match o.dst with | some d => d == t | none => false) && match o.op with
 | .makeFunc (.func g') f c => g' == g && f.isEmpty && (match c.toList with | [.tmp x,.tmp y] => x == b1 && y == b2 | _ => false)
 | _ => false
def D4i (o : Oper) (t : Nat) : Bool := o.guard.isNone && o.dst.isNone && match o.op with
 | .defer { callee := .value (.tmp x),args,.. } => x == t && args.isEmpty
 | _ => false
def B1i (P : Program) (f g t b1 b2 : Nat) : Option (ACode × ACode × Nat) :=
 match P.funcs[f]? with
 | some fn => match fn.body,A29 P fn.results.toList with
  | some (.seq a (.seq (.region _ ops false) c)),some [.c x false 1,.c y false 1] => match ops.toList with
   | [o1,o2] => if (D4e o1 g t b1 b2 && D4i o2 t) && (x == b1 && y == b2) then (match D7 P fn.ntmps a,D7 P fn.ntmps c with
    | some x,some y => some (x,y,fn.ntmps)
    | _,_ => none) else none
   | _ => none
  | _,_ => none
 | none => none
section
variable {P : Program} {A : Ar} {B : Nat} {w0 : Base} {nm : Names} {σ : St} {tmps : Array Value} {w : World}
theorem A8b (R : Rel A B w0 nm σ tmps w) {id : Nat} {u : Int} (h : A2 σ.bx id = some [.dat (.int .i64 u)]) : ∃ b,nm (2 * id) = some b ∧ w.cell? ⟨b,0,none⟩ = some (.int .i64 u) ∧ w.frozen? ⟨b,0,none⟩ = false := by
 obtain ⟨b,C,t,h1,h2,h3⟩ := R.bxs id _ h
 have h2' : w.heap[b]? = some (.cells C t (0,0)) := h2
 have hlen : C.toList.length = 1 := by have := h3.length; simpa using this.symm
 obtain ⟨v0,hv0⟩ : ∃ v0,C = #[v0] := by
  obtain ⟨v0,h0⟩ := List.length_eq_one_iff.1 hlen
  exact ⟨v0,Array.toList_inj.1 (by simpa using h0)⟩
 subst hv0
 have hv : v0 = .int .i64 u := by
  cases h3 with | cons h4 _ =>
  cases h4 with | dat h4 =>
  cases h4
  rfl
 subst hv
 exact ⟨b,h1,by unfold World.cell?; simp [h2'],by unfold World.frozen?; simp [h2']⟩
theorem B88 (R : Rel A B w0 nm σ tmps w) {ti : TypeId} {inf : TypeInfo} (hi : P.info? ti = some inf) (hs : inf.size = 1) {id b : Nat} {u n : Int} (hn : IntKind.i64.min ≤ n ∧ n ≤ IntKind.i64.max) (h : A2 σ.bx id = some [.dat (.int .i64 u)]) (hb : nm (2 * id) = some b) :
  Rel A B w0 nm { σ with bx := put σ.bx id [.dat (.int .i64 n)] } tmps (w.setCell ⟨b,0,none⟩ (.int .i64 n)) := by
 obtain ⟨b',h1,h2,h3⟩ := A8b R h
 have e : b' = b := Option.some.inj (h1.symm.trans hb)
 subst e
 have hva : VRel (cx A nm σ w) (.v (.sc (.pb id 0))) (.pointer (some ⟨b',0,none⟩)) := .v (.sc (.pb h1))
 have hvx : VRel (cx A nm σ w) (.v (.sc (.dat (.int .i64 n)))) (.int .i64 n) := .v (.sc (.dat (.int hn.1 hn.2)))
 obtain ⟨w5,hrun,R5⟩ := B3o (P := P) (a := ⟨tmps,[]⟩) (t := ti) (inf := inf) R hi hs hva hvx h rfl (by simp)
 have hrun2 : (Instr.storeAt ti (.pointer (some ⟨b',0,none⟩)) (.int .i64 n)).run P w = .ok () (w.setCell ⟨b',0,none⟩ (.int .i64 n)) := by
  simp [Instr.storeAt,Instr.sureAddr,storeVar,Value.cells,storeCells,Addr.add,sizeOf,typeInfo,hi,hs]
  rw [run_store P w ⟨b',0,none⟩ _ _ (by rfl)]
  simp [h2,h3]
 have e5 : w5 = w.setCell ⟨b',0,none⟩ (.int .i64 n) := by
  rw [hrun] at hrun2
  cases hrun2
  rfl
 subst e5
 simpa [W2,V1.cells] using R5
end
def AC.pinB (x y : Nat) : AC → AC
 | .pb i o => bif i == x then .pb pX o else bif i == y then .pb pY o else .pb i o
 | .clo _ _ => .undef
 | .ipb _ _ => .undef
 | c => c
def St.pinB (x y : Nat) (cx cy : List AC) (σ : St) : St := ⟨σ.env.map fun p => (p.1,p.2.map (AC.pinB x y)),[(pX,cx),(pY,cy)],[]⟩
theorem C8j {x y : Nat} {c1 c2 : List AC} {σ : St} (k : Nat) : (σ.pinB x y c1 c2).get k = (σ.get k).map (AC.pinB x y) := by
 have : (σ.pinB x y c1 c2).get k = (σ.map (AC.pinB x y)).get k := rfl
 rw [this]
 exact St.get_map
theorem Rel.pinB {A : Reg} {B : Nat} {w0 : World} {nm : Names} {σ : St} {tmps : Array Value} {w : World} (R : Rel (.of A) B (.of w0 fun _ => none) nm σ tmps w) {x y p q : Nat} {u v : Int} (hx0 : x / 1099511627776 = 0) (hy0 : y / 1099511627776 = 0) (hxy : x ≠ y)
  (hx : A2 σ.bx x = some [.dat (.int .i64 u)]) (hy : A2 σ.bx y = some [.dat (.int .i64 v)]) (hp : nm (2 * x) = some p) (hq : nm (2 * y) = some q) :
  ∃ np nm',Rel (.of A) B (.of w np) nm' (σ.pinB x y [.dat (.int .i64 u)] [.dat (.int .i64 v)]) tmps w ∧ np (2 * pX) = some p ∧ np (2 * pY) = some q ∧ (∀ i b,np i = some b → B ≤ b) := by
 have nopin : ∀ i,H2 ≤ i → nm i = none := fun i h => R.pin i h
 have hge : ∀ i b,nm i = some b → B ≤ b := fun i b h => by
  rcases (R.names i b h).1 with h1 | hm
  ·exact h1
  ·obtain ⟨j,_,e⟩ := Base.of_M hm
   cases e
 let nm' : Names := fun i => if i = 2 * pX then some p else if i = 2 * pY then some q else if i = 2 * x ∨ i = 2 * y then none else nm i
 let np : Names := fun i => if i = 2 * pX then some p else if i = 2 * pY then some q else none
 have hpb := R.names _ _ hp
 have hqb := R.names _ _ hq
 have hpin : ∀ i,H2 ≤ i → nm' i = np i := fun i hi => by
  simp only [nm',np]
  split
  ·rfl
  ·split
   ·rfl
   ·split
    ·rfl
    ·exact nopin i hi
 have hnm : ∀ i b,nm' i = some b → ∃ j,nm j = some b ∧ ((i = 2 * pX ∧ j = 2 * x) ∨ (i = 2 * pY ∧ j = 2 * y) ∨ (i = j ∧ j ≠ 2 * x ∧ j ≠ 2 * y ∧ j < H2)) := fun i b h => by
  simp only [nm'] at h
  split at h
  ·rename_i e; cases h; exact ⟨_,hp,.inl ⟨e,rfl⟩⟩
  ·split at h
   ·rename_i e; cases h; exact ⟨_,hq,.inr (.inl ⟨e,rfl⟩)⟩
   ·split at h
    ·cases h
    ·rename_i h3
     refine ⟨i,h,.inr (.inr ⟨rfl,fun e => h3 (.inl e),fun e => h3 (.inr e),?_⟩)⟩
     refine Nat.lt_of_not_le fun hle => ?_
     rw [nopin i hle] at h
     cases h
 have hview : ∀ b C,B1 (Ar.of A).A nm w b C → B1 (Ar.of A).A nm' w b C := N5 (A := .of A) fun b _ hn => ⟨fun i e => by
  obtain ⟨j,hj,_⟩ := hnm i b e
  exact hn j hj,rfl⟩
 have hcell : ∀ c z,CRel (Go.Vi.cx (.of A) nm σ w) c z → CRel (Go.Vi.cx (.of A) nm' (σ.pinB x y [.dat (.int .i64 u)] [.dat (.int .i64 v)]) w) (AC.pinB x y c) z := fun c z hr => by
  have h1 := hr.one
  have keep : (∀ j,c.hasB j = true → j ≠ x ∧ j ≠ y) → CRel (Go.Vi.cx (.of A) nm' (σ.pinB x y [.dat (.int .i64 u)] [.dat (.int .i64 v)]) w) c z := fun hno => by
   refine hr.move hview (fun j hj => .inl rfl) (fun j hj b hb => ?_)
   have hb' : nm (2 * j) = some b := hb
   have hlt : 2 * j < H2 := Nat.lt_of_not_le fun hle => by rw [nopin _ hle] at hb'; cases hb'
   have := hno j hj
   show nm' (2 * j) = some b
   simp only [nm']
   unfold H2 at hlt
   rw [if_neg (by unfold pX; omega),if_neg (by unfold pY; omega),if_neg (by omega)]
   exact hb'
  cases c with
  | pb i o =>
   simp only [AC.pinB]
   by_cases hi : i = x
   ·subst hi
    simp only [beq_self_eq_true,cond_true]
    cases hr with | pb hb =>
    have hb' : nm (2 * i) = some _ := hb
    have e3 := Option.some.inj (hb'.symm.trans hp)
    subst e3
    exact .pb (by show nm' (2 * pX) = _; exact if_pos rfl)
   ·have e : (i == x) = false := by simpa using hi
    simp only [e,cond_false]
    by_cases hi2 : i = y
    ·subst hi2
     simp only [beq_self_eq_true,cond_true]
     cases hr with | pb hb =>
     have hb' : nm (2 * i) = some _ := hb
     have e3 := Option.some.inj (hb'.symm.trans hq)
     subst e3
     exact .pb (by show nm' (2 * pY) = _; exact (if_neg pXY).trans (if_pos rfl))
    ·have e2 : (i == y) = false := by simpa using hi2
     simp only [e2,cond_false]
     exact keep fun j hj => by simp only [AC.hasB,beq_iff_eq] at hj; subst hj; exact ⟨hi,hi2⟩
  | clo f ids => exact .undef h1
  | ipb t i => exact .undef h1
  | _ => exact keep fun j hj => by simp [AC.hasB] at hj
 obtain ⟨bp,Cp,tp,a1,a2,a3⟩ := R.bxs x _ hx
 obtain ⟨bq,Cq,tq,c1,c2,c3⟩ := R.bxs y _ hy
 have ebp : bp = p := Option.some.inj (a1.symm.trans hp)
 have ebq : bq = q := Option.some.inj (c1.symm.trans hq)
 subst ebp ebq
 have np_ge : ∀ i b,np i = some b → B ≤ b := fun i b h => by
  simp only [np] at h
  split at h
  ·cases h; exact hge _ _ hp
  ·split at h
   ·cases h; exact hge _ _ hq
   ·cases h
 refine ⟨np,nm',⟨BelowX.start _ _ (fun _ h => h.elim),R.size,Glob.mk1 (fun b hb => R.all.all b (.inl hb)),fun w2 hb2 => R.good w2 ?_,fun i b h => ?_,fun i j b hi hj => ?_,hpin,fun k => ?_,fun id cs h => ?_⟩,if_pos rfl,(if_neg pXY).trans (if_pos rfl),np_ge⟩
 ·refine ⟨hb2.os.trans R.below.os,hb2.tape.trans R.below.tape,hb2.output.trans R.below.output,Nat.le_trans R.below.size hb2.size,fun k hk hm hv => (hb2.block k hk ?_ fun h => h.elim).trans (R.below.block k hk hm hv),fun k hm => ?_,fun _ h => h.elim,fun _ h => h.elim⟩
  ·intro hm2
   obtain ⟨i,_,e⟩ := Base.of_M hm2
   have := np_ge i k e
   omega
  ·obtain ⟨i,_,e⟩ := Base.of_M hm
   cases e
 ·obtain ⟨j,hj,_⟩ := hnm i b h
  exact ⟨.inl (hge _ _ hj),(R.names _ _ hj).2⟩
 ·obtain ⟨i',hi',ci⟩ := hnm i b hi
  obtain ⟨j',hj',cj⟩ := hnm j b hj
  have := R.inj _ _ _ hi' hj'
  subst this
  unfold pX pY H2 at *
  omega
 ·rw [C8j]
  exact (R.env k).map fun c z _ hr => hcell c z hr
 ·have hcase : (id = pX ∧ cs = [.dat (.int .i64 u)]) ∨ (id = pY ∧ cs = [.dat (.int .i64 v)]) := by
   have h' : A2 [(pX,[AC.dat (.int .i64 u)]),(pY,[AC.dat (.int .i64 v)])] id = some cs := h
   simp only [A2] at h'
   by_cases h1 : pX = id
   ·subst h1; simp at h'; exact .inl ⟨rfl,h'.symm⟩
   ·have e1 : (pX == id) = false := by simpa using h1
    by_cases h2 : pY = id
    ·subst h2; simp [e1] at h'; exact .inr ⟨rfl,h'.symm⟩
    ·have e2 : (pY == id) = false := by simpa using h2
     simp [e1,e2] at h'
  rcases hcase with ⟨rfl,rfl⟩ | ⟨rfl,rfl⟩
  ·exact ⟨bp,Cp,tp,by show nm' (2 * pX) = _; exact if_pos rfl,a2,a3.to fun c z hc hr => by
    have := hcell c z hr
    simp at hc
    subst hc
    exact this⟩
  ·exact ⟨bq,Cq,tq,by show nm' (2 * pY) = _; exact (if_neg pXY).trans (if_pos rfl),c2,c3.to fun c z hc hr => by
    have := hcell c z hr
    simp at hc
    subst hc
    exact this⟩
theorem D7z {P : Program} (hm : P.follows .mixedOrders = true) {f g t b1 b2 nt : Nat} {T ti : TypeId} {inf : TypeInfo} {cA cR : ACode} {ds : List DV} {r : Int × Int} (hi : P.info? ti = some inf) (hs : inf.size = 1) (he : B1i P f g t b1 b2 = some (cA.strip,cR.strip,nt)) (hl : ds.length ≤ nt) (htn : t < nt) (hok : A19 P g = true)
  (hb12 : b1 ≠ b2) (hb1 : b1 / 1099511627776 = 0) (hb2 : b2 / 1099511627776 = 0) (hidle : C08 P g) (hcatch : B7s P g T)
  (h : AWP P cA (fun e σ => e = .normal ∧ σ.get t = .undef ∧ σ.get b1 = .v (.sc (.pb b1 0)) ∧ σ.get b2 = .v (.sc (.pb b2 0)) ∧ A2 σ.bx b1 = some [.dat (.int .i64 0)] ∧ A2 σ.bx b2 = some [.dat (.int .i64 0)] ∧ AWP P cR (B6d b1 b2 T r) (σ.pinB b1 b2 [.dat (.int .i64 0)] [.dat (.int .i64 0)])) (St.init ds)) : FC P f ds [.sc (.v (.int .i64 r.1)),.sc (.v (.int .i64 r.2))] := by
 unfold B1i at he
 split at he
 ·rename_i fn hf
  split at he
  ·rename_i CA rid ops CR x y hb hr
   split at he
   ·rename_i o1 o2 hops
    split at he
    ·rename_i hcond
     split at he
     ·rename_i xA xR hA hR
      cases he
      simp only [Bool.and_eq_true,beq_iff_eq] at hcond
      obtain ⟨⟨hk,hd⟩,rfl,rfl⟩ := hcond
      obtain ⟨hg1,hd1,cap,hop1,hcap⟩ : o1.guard = none ∧ o1.dst = some t ∧ ∃ cap : Array Operand,o1.op = .makeFunc (.func g) #[] cap ∧ cap.toList = [.tmp x,.tmp y] := by
       unfold D4e at hk
       simp only [Bool.and_eq_true,Option.isNone_iff_eq_none] at hk
       obtain ⟨⟨k1,k2⟩,k3⟩ := hk
       refine ⟨k1,?_,?_⟩
       ·split at k2
        ·rename_i d hd'
         simp only [beq_iff_eq] at k2
         rw [hd',k2]
        ·cases k2
       ·split at k3
        ·rename_i g' f' c' ho
         simp only [Bool.and_eq_true,beq_iff_eq] at k3
         obtain ⟨⟨rfl,k4⟩,k5⟩ := k3
         have e4 : f' = #[] := by simpa using k4
         subst e4
         refine ⟨c',ho,?_⟩
         split at k5
         ·rename_i x' y' hc'
          simp only [Bool.and_eq_true,beq_iff_eq] at k5
          obtain ⟨rfl,rfl⟩ := k5
          exact hc'
         ·cases k5
        ·cases k3
      obtain ⟨hg2,hd2,tys,hop2⟩ : o2.guard = none ∧ o2.dst = none ∧ ∃ tys,o2.op = .defer { callee := .value (.tmp t),args := #[],argTypes := tys } := by
       unfold D4i at hd
       simp only [Bool.and_eq_true,Option.isNone_iff_eq_none] at hd
       obtain ⟨⟨k1,k2⟩,k3⟩ := hd
       refine ⟨k1,k2,?_⟩
       split at k3
       ·rename_i x' args' tys' ho
        simp only [Bool.and_eq_true,beq_iff_eq] at k3
        obtain ⟨rfl,k4⟩ := k3
        have e4 : args' = #[] := by simpa using k4
        subst e4
        exact ⟨_,ho⟩
       ·cases k3
      have hcap2 : cap = #[.tmp x,.tmp y] := by apply Array.ext'; simpa using hcap
      subst hcap2
      intro w A0 vs hG hvs
      refine calls_of_wp_defers hf hb ?_
      have hlen := hvs.len
      refine wp_seq (wp_mono (Z0 (df := []) hm cA CA _ (fun _ => none) (St.init ds) _ w hA h (A6z fn.ntmps hG hvs) (by simp; omega) rfl) fun e a w1 hp => ?_)
      obtain ⟨e',nm1,σ1,he',⟨rfl,ht,g1,g2,f1,f2,h2⟩,R1,hnt1,hdf1⟩ := hp
      obtain rfl : e = .normal := he'
      have hx1 := R1.env x
      have hy1 := R1.env y
      rw [g1] at hx1
      rw [g2] at hy1
      have hxc := hx1.inv_sc
      have hyc := hy1.inv_sc
      obtain ⟨p,hpn,ep⟩ : ∃ p,nm1 (2 * x) = some p ∧ a.tmps.getD x undef = .pointer (some ⟨p,0,none⟩) := by
       revert hxc
       generalize a.tmps.getD x undef = z
       intro hxc
       cases hxc with | pb hb => exact ⟨_,hb,rfl⟩
      obtain ⟨q,hqn,eq⟩ : ∃ q,nm1 (2 * y) = some q ∧ a.tmps.getD y undef = .pointer (some ⟨q,0,none⟩) := by
       revert hyc
       generalize a.tmps.getD y undef = z
       intro hyc
       cases hyc with | pb hb => exact ⟨_,hb,rfl⟩
      let fv : Value := .func (.func g) #[] #[.pointer (some ⟨p,0,none⟩),.pointer (some ⟨q,0,none⟩)]
      let dd : Deferred := { target := .fn (.func g) #[.pointer (some ⟨p,0,none⟩),.pointer (some ⟨q,0,none⟩)],args := #[] }
      have hrun1 : (execOp a.eval o1).run P w1 = .ok (.value fv) w1 := by
       obtain ⟨dst,op,ty,pos,after,guard⟩ := o1
       simp only at hop1
       subst hop1
       have ex : a.eval (.tmp x) = .pointer (some ⟨p,0,none⟩) := ep
       have ey : a.eval (.tmp y) = .pointer (some ⟨q,0,none⟩) := eq
       simp [execOp,Instr.makeFunc,ex,ey,fv]
      have htd : (a.put (some t) fv).tmps.getD t undef = fv := by
       simp only [Act.put]
       rw [Array.getD_eq_getD_getElem?,Array.getElem?_setIfInBounds_self_of_lt (by rw [hnt1]; exact htn)]
       rfl
      have hrun2 : (execOp (a.put (some t) fv).eval o2).run P w1 = .ok (.defer dd) w1 := by
       obtain ⟨dst,op,ty,pos,after,guard⟩ := o2
       simp only at hop2
       subst hop2
       have ex : (a.put (some t) fv).eval (.tmp t) = fv := htd
       simp [execOp,resolve,Deferred.ofValue,ex,fv,dd]
      have R2 : Rel (.of fun b fr => A0 b fr ∨ (w.heap.size ≤ b ∧ fr = (0,0))) w.heap.size (.of w fun _ => none) nm1 σ1 (a.put (some t) fv).tmps w1 := by
       refine (R1.put (d := t) (av := .undef) (v := fv) (by rw [hnt1]; exact htn) .undef).same ⟨fun k => ?_,fun _ => rfl,fun _ => rfl⟩
       by_cases hk : k = t
       ·subst hk; rw [St.get_set_same,ht]
       ·rw [St.get_set_ne _ _ hk]
      obtain ⟨np,nm2,R3,np1,np2,npge⟩ := R2.pinB hb1 hb2 hb12 f1 f2 hpn hqn
      show Code.wp P (.seq (.region rid ops false) CR) _ a w1
      refine wp_seq (wp_region_list ?_)
      rw [hops]
      have w1' : Region.wanted o1 (yielded ops a.tmps) = true := by simp [Region.wanted,hg1]
      have w2' : Region.wanted o2 (yielded ops (a.put (some t) fv).tmps) = true := by simp [Region.wanted,hg2]
      unfold wpList
      rw [w1']
      refine .inl ?_
      unfold Oper.wp
      rw [hrun1,Oper.upon_value,hd1]
      unfold wpList
      rw [w2']
      refine .inl ?_
      unfold Oper.wp
      rw [hrun2,Oper.upon_defer,hd2]
      unfold wpList
      show Code.wp P CR (bodyPostD P fn _) { (a.put (some t) fv) with defers := dd :: (a.put (some t) fv).defers } w1
      refine wp_mono (Z0 (df := [dd]) hm cR CR _ nm2 _ _ w1 hR h2 R3 (by simp [Act.put,hnt1]) (by simp [Act.put,hdf1])) fun e a' w2 hp => ?_
      obtain ⟨e',nm,σ,he',⟨k1,k2,u,v,k3,k4,k5⟩,R,hnt,hdf⟩ := hp
      obtain ⟨p',hp1,hp2,hp3⟩ := A8b R k3
      obtain ⟨q',hq1,hq2,hq3⟩ := A8b R k4
      have hinv : (invoke dd.target dd.args).run P w2 = .ok (.enter g #[.pointer (some ⟨p,0,none⟩),.pointer (some ⟨q,0,none⟩)]) w2 := by
       have := A5w (w := w2) hok #[.pointer (some ⟨p,0,none⟩),.pointer (some ⟨q,0,none⟩)]
       simpa [dd,invoke] using this
      have ep2 : p' = p := by
       have : nm (2 * pX) = np (2 * pX) := R.pin (2 * pX) (by unfold H2 pX; omega)
       rw [hp1,np1] at this
       exact Option.some.inj this
      have eq2 : q' = q := by
       have : nm (2 * pY) = np (2 * pY) := R.pin (2 * pY) (by unfold H2 pY; omega)
       rw [hq1,np2] at this
       exact Option.some.inj this
      subst ep2 eq2
      have hpq : p' ≠ q' := fun e => by
       subst e
       have := R.inj _ _ _ hp1 hq1
       unfold pX pY at this
       omega
      have hbw : ∀ w3,RowKit.Below w.heap.size w1 w3 → RowKit.Below w.heap.size w w3 := fun w3 hb => (R1.below.plain (fun _ => rfl)).trans hb
      have hb12' : RowKit.Below w.heap.size w1 w2 := ⟨R.below.os,R.below.tape,R.below.output,R.below.size,fun k hk => R.below.block k hk (fun hm2 => by
       obtain ⟨i,_,e⟩ := Base.of_M hm2
       have := npge i k e
       omega) fun h => h.elim⟩
      have hpge : w.heap.size ≤ p' := npge _ _ np1
      have hqge : w.heap.size ≤ q' := npge _ _ np2
      have fin : ∀ (σ2 : St) (w3 : World),Rel (.of fun b fr => A0 b fr ∨ (w.heap.size ≤ b ∧ fr = (0,0))) w.heap.size (.of w1 np) nm σ2 a'.tmps w3 → RowKit.Below w.heap.size w w3 → σ2.get x = .v (.sc (.pb pX 0)) → σ2.get y = .v (.sc (.pb pY 0)) → A2 σ2.bx pX = some [.dat (.int .i64 r.1)] → A2 σ2.bx pY = some [.dat (.int .i64 r.2)] →
        ∃ v,(results fn a'.tmps).run P w3 = .ok v w3 ∧ ∃ (v' : Value) (bs : List (Option Nat)),Ending.returned v = .returned v' ∧ RowKit.Below w.heap.size w w3 ∧ RRel (C4 (fun b fr => some b ∉ bs ∧ ((w.heap.size ≤ b ∧ fr = (0,0)) ∨ A0 b fr)) w3) w3 [.sc (.v (.int .i64 r.1)),.sc (.v (.int .i64 r.2))] v' bs ∧
         (∀ b,some b ∈ bs → w.heap.size ≤ b ∧ b < w3.heap.size) ∧ (∀ (i j b : Nat),bs[i]? = some (some b) → bs[j]? = some (some b) → i = j) := by
       intro σ2 w3 R5 hb5 q1 q2 q3 q4
       obtain ⟨z1,s1,s2,_⟩ := A8b R5 q3
       obtain ⟨z2,s4,s5,_⟩ := A8b R5 q4
       have ho : OutVs σ2 [.c x false 1,.c y false 1] [.sc (.v (.int .i64 r.1)),.sc (.v (.int .i64 r.2))] := by
        have l1 : U5 σ2 false 1 (σ2.get x) = some (.v (.sc (.dat (.int .i64 r.1)))) := by rw [q1]; simp [U5,q3,T9]
        have l2 : U5 σ2 false 1 (σ2.get y) = some (.v (.sc (.dat (.int .i64 r.2)))) := by rw [q2]; simp [U5,q4,T9]
        exact ⟨by simp only [A35,l1,Option.getD_some]; rfl,by simp only [A35,l2,Option.getD_some]; rfl,trivial⟩
       obtain ⟨vs',hrun,hvl,hrel⟩ := A2z (P := P) (h' := D8 w3) (act := a') (f := fun | .tmp t => pure (a'.tmps.getD t undef) | .cell c t => do loadVar t (← asAddr (a'.tmps.getD c undef))) R5 (fun _ _ h => W3 h) (fun _ => rfl) (fun _ _ => rfl) hr ho
       have hvl2 : vs'.length = 2 := by rw [hvl]; rfl
       obtain ⟨v1,v2,rfl⟩ : ∃ v1 v2,vs' = [v1,v2] := by
        match vs',hvl2 with
        | [v1,v2],_ => exact ⟨v1,v2,rfl⟩
       have hv : v1 = .int .i64 r.1 ∧ v2 = .int .i64 r.2 ∧ (IntKind.i64.min ≤ r.1 ∧ r.1 ≤ IntKind.i64.max) ∧ (IntKind.i64.min ≤ r.2 ∧ r.2 ≤ IntKind.i64.max) := by
        generalize List.map (bOf nm) _ = bb at hrel
        cases hrel with | cons m1 m2 =>
        cases m2 with | cons m2 m3 =>
        cases m1 with | sc m1 =>
        cases m2 with | sc m2 =>
        cases m1 with | v m1 =>
        cases m2 with | v m2 =>
        cases m1 with | int i1 i2 =>
        cases m2 with | int i3 i4 =>
        exact ⟨rfl,rfl,⟨i1,i2⟩,⟨i3,i4⟩⟩
       obtain ⟨rfl,rfl,b1',b2'⟩ := hv
       refine ⟨.tuple #[.int .i64 r.1,.int .i64 r.2],?_,_,[none,none],rfl,hb5,?_,fun b hb => by simp at hb,fun i j b hi hj => ?_⟩
       ·unfold results
        rw [← Array.toArray_toList (xs := fn.results)]
        simp only [List.mapM_toArray,Sem.run_bind,map_eq_pure_bind]
        erw [hrun]
        simp only [Result.andThen_ok,Sem.run_pure]
        simp
       ·exact .many (bs := [none] ++ ([none] ++ [])) (by simp) (.cons (.sc (.v (.int b1'.1 b1'.2))) (.cons (.sc (.v (.int b2'.1 b2'.2))) .nil))
       ·rcases i with _ | _ | i <;> simp at hi
      have idle : u = r.1 → v = r.2 → Leaves P fn a'.tmps (fun e w' => ∃ (v : Value) (bs : List (Option Nat)),e = .returned v ∧ RowKit.Below w.heap.size w w' ∧ RRel (C4 (fun b fr => some b ∉ bs ∧ ((w.heap.size ≤ b ∧ fr = (0,0)) ∨ A0 b fr)) w') w' [.sc (.v (.int .i64 r.1)),.sc (.v (.int .i64 r.2))] v bs ∧
        (∀ b,some b ∈ bs → w.heap.size ≤ b ∧ b < w'.heap.size) ∧ (∀ (i j b : Nat),bs[i]? = some (some b) → bs[j]? = some (some b) → i = j)) a'.defers .returning w2 := by
       rintro rfl rfl
       rw [hdf]
       refine leaves_cons (by simp) hinv ((hidle ⟨p',0,none⟩ ⟨q',0,none⟩ w2).mono fun e u' w3 h3 => ?_)
       obtain ⟨⟨v3,rfl⟩,rfl,hb3⟩ := h3
       have R5 := R.later hb3
       have hb5 : RowKit.Below w.heap.size w w3 := hbw w3 (hb12'.trans (hb3.mono (Nat.le_trans (R1.below.plain (fun _ => rfl)).size hb12'.size)))
       exact fin σ w3 R5 hb5 k1 k2 k3 k4
      cases e' with
      | normal => obtain rfl : e = .normal := he'; exact idle k5.1 k5.2
      | ret => obtain rfl : e = .ret := he'; exact idle k5.1 k5.2
      | exit id => exact k5.elim
      | pan d =>
       obtain ⟨vp,rfl,hvp⟩ := he'
       have k5' : d = .ifs T [.int .i64 r.1,.int .i64 r.2] := k5
       subst k5'
       obtain ⟨rfl,hr1,hr2⟩ : vp = .iface T (.agg #[.int .i64 r.1,.int .i64 r.2]) ∧ (IntKind.i64.min ≤ r.1 ∧ r.1 ≤ IntKind.i64.max) ∧ (IntKind.i64.min ≤ r.2 ∧ r.2 ≤ IntKind.i64.max) := by
        cases hvp with | ifs m1 m2 =>
        rename_i zs
        cases m1 with | cons m3 m4 =>
        cases m4 with | cons m5 m6 =>
        cases m3 with | int i1 i2 =>
        cases m5 with | int i3 i4 =>
        rename_i rest
        have : rest = [] := by simpa using m2.symm
        subst this
        exact ⟨rfl,⟨i1,i2⟩,⟨i3,i4⟩⟩
       show Leaves P fn a'.tmps _ a'.defers (A5i T r.1 r.2 false) w2
       rw [hdf]
       refine leaves_cons (by unfold A5i; simp) hinv ((hcatch ⟨p',0,none⟩ ⟨q',0,none⟩ r.1 r.2 w2 _ _ hp2 hq2 hp3 hq3 hpq).mono fun e u' w3 h3 => ?_)
       obtain ⟨⟨v3,rfl⟩,rfl,w4,hb4,rfl⟩ := h3
       have R5 := R.later hb4
       have R6 := B88 R5 hi hs hr1 k3 hp1
       have R7 := B88 R6 hi hs hr2 (id := pY) (b := q') (u := v) (by
        show A2 (put σ.bx pX [.dat (.int .i64 r.1)]) pY = _
        rw [C9 _ _ (by unfold pX pY; omega)]
        exact k4) hq1
       have hb5 : RowKit.Below w.heap.size w ((w4.setCell ⟨p',0,none⟩ (.int .i64 r.1)).setCell ⟨q',0,none⟩ (.int .i64 r.2)) := by
        have h4 : RowKit.Below w.heap.size w w4 := hbw w4 (hb12'.trans (hb4.mono (Nat.le_trans (R1.below.plain (fun _ => rfl)).size hb12'.size)))
        exact (h4.setCell (p := ⟨p',0,none⟩) hpge _).setCell (p := ⟨q',0,none⟩) hqge _
       have hset : settle (A5i T r.1 r.2 true) = .returning := rfl
       show Leaves P fn a'.tmps _ [] (settle (A5i T r.1 r.2 true)) _
       rw [hset]
       refine fin _ _ R7 hb5 k1 k2 ?_ ?_
       ·show A2 (put (put σ.bx pX [.dat (.int .i64 r.1)]) pY [.dat (.int .i64 r.2)]) pX = _
        rw [C9 _ _ (by unfold pX pY; omega),B6]
       ·exact B6 _ _ _
     ·cases he
    ·cases he
   ·cases he
  ·cases he
 ·cases he
def D85 (P : Program) (t b1 b2 : Nat) (T : TypeId) (cR : ACode) (r : Int × Int) (e : AExit) (σ : St) : Prop :=
 e = .normal ∧ σ.get t = .undef ∧ σ.get b1 = .v (.sc (.pb b1 0)) ∧ σ.get b2 = .v (.sc (.pb b2 0)) ∧ A2 σ.bx b1 = some [.dat (.int .i64 0)] ∧ A2 σ.bx b2 = some [.dat (.int .i64 0)] ∧ go P [.code cR] (B6d b1 b2 T r) .normal (some (σ.pinB b1 b2 [.dat (.int .i64 0)] [.dat (.int .i64 0)]))
theorem E1a {P : Program} (hm : P.follows .mixedOrders = true) {f g t b1 b2 nt : Nat} {T ti : TypeId} {cA cR : ACode} {xs : List DV} {r : Int × Int} {σ : St} (hi : (P.info? ti).map (·.size) = some 1) (he : B1i P f g t b1 b2 = some (cA.strip,cR.strip,nt)) (hl : Nat.ble xs.length nt = true) (htn : Nat.blt t nt = true) (hok : A19 P g = true)
  (hb12 : b1 ≠ b2) (hb1 : b1 / 1099511627776 = 0) (hb2 : b2 / 1099511627776 = 0) (hidle : C08 P g) (hcatch : B7s P g T) (hσ : St.init xs = σ)
  (h : go P [.code cA] (D85 P t b1 b2 T cR r) .normal (some σ)) : FC P f xs [.sc (.v (.int .i64 r.1)),.sc (.v (.int .i64 r.2))] := by
 cases hx : P.info? ti with
 | none => rw [hx] at hi; cases hi
 | some inf =>
  rw [hx] at hi
  refine D7z hm hx (Option.some.inj hi) he (Nat.le_of_ble_eq_true hl) (by have := Nat.le_of_ble_eq_true htn; omega) hok hb12 hb1 hb2 hidle hcatch (A60 cA (fun e σ h => ?_) (hσ ▸ A01 h))
  obtain ⟨h1,h2,h3,h4,h5,h6,h7⟩ := h
  exact ⟨h1,h2,h3,h4,h5,h6,A01 h7⟩
end Go.Vi
