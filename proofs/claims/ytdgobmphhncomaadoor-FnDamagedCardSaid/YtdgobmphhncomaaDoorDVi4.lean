/-
  The value level: the other operations that change nothing. No condition.
-/
import Derived.Test.YtdgobmphhncomaaDoorDVi3
import Derived.Laws.Strings
import Derived.Laws.Unary
namespace Go.Vi

section
variable {P : Program} {σ : St} {a : Act} {w : World} {X : Cx} {h : View}

theorem str_sound {op : BinOp} {t : TypeId} {x y : List UInt8} {d : D} (hd : strV op x y = some d) :
    ∃ v, (binOp op t (.string ⟨x.toArray⟩) (.string ⟨y.toArray⟩)).run P w = .ok v w ∧ VRel X (.v (.sc (.dat d))) v := by
  cases op <;> simp only [strV] at hd
  case add =>
    split at hd
    · rename_i hl
      cases hd
      refine ⟨.string ⟨(x ++ y).toArray⟩, ?_, mk_sc (.dat (.str (by simp [maxLen]; omega)))⟩
      have h1 : ¬ (((x.length + y.length : Nat) : Int) > 9223372036854775807) := by omega
      have e : (⟨x.toArray⟩ ++ ⟨y.toArray⟩ : ByteArray) = ⟨(x ++ y).toArray⟩ := by
        apply ByteArray.ext
        simp
      have hs : ∀ z : List UInt8, (⟨z.toArray⟩ : ByteArray).size = z.length := fun z => by simp [ByteArray.size]
      simp only [binOp, Op.stringOp, hs]
      rw [if_neg (by simpa [IntKind.max, IntKind.bits, IntKind.signed] using h1), e]
      rfl
    · cases hd
  case eql => cases hd; exact ⟨_, by simp [binOp, Op.stringOp], mk_bool⟩
  case neq => cases hd; exact ⟨_, by simp [binOp, Op.stringOp], mk_bool⟩
  all_goals cases hd

theorem eqGuard_int {op : BinOp} {t : TypeId} {x y : Operand} {k k' : IntKind} {m n : Int} : (eqGuard op t x y (.int k m) (.int k' n)).run P w = .ok () w := by
  cases op <;> rfl
theorem eqGuard_str {op : BinOp} {t : TypeId} {x y : Operand} {m n : ByteArray} : (eqGuard op t x y (.string m) (.string n)).run P w = .ok () w := by
  cases op <;> rfl
theorem eqGuard_bool {op : BinOp} {t : TypeId} {x y : Operand} {m n : Bool} : (eqGuard op t x y (.bool m) (.bool n)).run P w = .ok () w := by
  cases op <;> rfl

theorem bin_sound {op : BinOp} {t : TypeId} {OX OY : Operand} {ax ay r : AV} {vx vy : Value} (hx : VRel X ax vx) (hy : VRel X ay vy) (hr : binV op ax ay = some r) :
    ∃ v, (do eqGuard op t OX OY vx vy; binOp op t vx vy : Sem Value).run P w = .ok v w ∧ VRel X r v := by
  unfold binV at hr
  split at hr
  · rename_i k x k' y
    obtain ⟨rfl, hb1, hb2⟩ := hx.inv_int
    obtain ⟨rfl, _⟩ := hy.inv_int
    split at hr
    · rename_i hk
      simp only [Option.map_eq_some_iff] at hr
      obtain ⟨d, hd, rfl⟩ := hr
      obtain ⟨v, hv, hrel⟩ := int_sound (P := P) (w := w) (X := X) (t := t) hk ⟨hb1, hb2⟩ hd
      refine ⟨v, ?_, hrel⟩
      rw [Sem.run_bind, eqGuard_int]
      exact hv
    · cases hr
  · rename_i x y
    obtain ⟨rfl, _⟩ := hx.inv_str
    obtain ⟨rfl, _⟩ := hy.inv_str
    simp only [Option.map_eq_some_iff] at hr
    obtain ⟨d, hd, rfl⟩ := hr
    obtain ⟨v, hv, hrel⟩ := str_sound (P := P) (w := w) (X := X) (t := t) hd
    refine ⟨v, ?_, hrel⟩
    rw [Sem.run_bind, eqGuard_str]
    exact hv
  · cases hr

theorem beq_sound {op : BinOp} {t : TypeId} {OX OY : Operand} {g : Bool} {ax ay r : AV} {vx vy : Value} (ht : P.underlying t = some .bool) (hop : op = if g then .neq else .eql)
    (hx : VRel X ax vx) (hy : VRel X ay vy) (hr : beqV g ax ay = some r) :
    ∃ v, (do eqGuard op t OX OY vx vy; binOp op t vx vy : Sem Value).run P w = .ok v w ∧ VRel X r v := by
  unfold beqV at hr
  split at hr
  · rename_i x y
    cases hr
    obtain rfl := hx.inv_bool
    obtain rfl := hy.inv_bool
    refine ⟨_, ?_, mk_bool⟩
    have he : (Op.equal t (.bool x) (.bool y)).run P w = .ok (x == y) w := by
      unfold Op.equal Op.maxDepth Op.equalIn
      rw [Sem.run_bind, run_underlying ht]
      rfl
    rw [Sem.run_bind, eqGuard_bool]
    subst hop
    cases g
    · simp [binOp, he]
    · simp [binOp, he]
  · cases hr

theorem un_sound {op : UnOp} {ax r : AV} {vx : Value} (hx : VRel X ax vx) (hr : unV op ax = some r) :
    ∃ v, (Op.unary op vx).run P w = .ok v w ∧ VRel X r v := by
  unfold unV at hr
  split at hr
  · obtain rfl := hx.inv_bool
    split at hr
    · cases hr; exact ⟨_, rfl, mk_bool⟩
    · cases hr
  · obtain ⟨rfl, _⟩ := hx.inv_int
    split at hr
    · cases hr; exact ⟨_, rfl, mk_wrap⟩
    · cases hr; exact ⟨_, rfl, mk_wrap⟩
    · cases hr
  · cases hr

/-! ### Cells of memory -/
inductive CPre (X : Cx) : List AC → List Value → Prop
  | nil {vs} : CPre X [] vs
  | cons {c v cs vs} : CRel X c v → CPre X cs vs → CPre X (c :: cs) (v :: vs)
theorem CRels.pre : ∀ {cs vs}, CRels X cs vs → CPre X cs vs
  | _, _, .nil => .nil
  | _, _, .cons a b => .cons a b.pre
theorem CRels.length : ∀ {cs vs}, CRels X cs vs → cs.length = vs.length
  | _, _, .nil => rfl
  | _, _, .cons _ b => by simp [b.length]
theorem Reps.pre : ∀ {ds vs}, Reps X.h ds vs → CPre X (ds.map .dat) vs
  | _, _, .nil => .nil
  | _, _, .cons a b => .cons (.dat a) b.pre
theorem CPre.le : ∀ {cs vs}, CPre X cs vs → cs.length ≤ vs.length
  | _, _, .nil => by simp
  | _, _, .cons _ b => by have := b.le; simp; omega
theorem CPre.drop : ∀ (n : Nat) {cs vs}, CPre X cs vs → CPre X (cs.drop n) (vs.drop n)
  | 0, _, _, H => by simpa using H
  | n + 1, _, _, .nil => by simpa using .nil
  | n + 1, _, _, .cons _ b => by simpa using b.drop n
theorem CPre.take : ∀ (n : Nat) {cs vs}, CPre X cs vs → n ≤ cs.length → CRels X (cs.take n) (vs.take n)
  | 0, _, _, _, _ => by simpa using .nil
  | n + 1, _, _, .nil, hn => by simp at hn
  | n + 1, _, _, .cons a b, hn => by simp at hn; simpa using .cons a (b.take n hn)
theorem CPre.get : ∀ {i : Nat} {cs vs c}, CPre X cs vs → cs[i]? = some c → ∃ v, vs[i]? = some v ∧ CRel X c v
  | _, _, _, _, .nil, hc => by simp at hc
  | 0, _, _, _, .cons a _, hc => by simp at hc; subst hc; exact ⟨_, by simp, a⟩
  | i + 1, _, _, _, .cons _ b, hc => by simp at hc; obtain ⟨v, hv, hr⟩ := b.get hc; exact ⟨v, by simpa using hv, hr⟩

/-- A value out of a row of cells. -/
def outV (vs : List Value) (off : Nat) (g : Bool) (n : Nat) : Option Value := bif g then (if off + n ≤ vs.length then some (.agg ((vs.drop off).take n).toArray) else none) else vs[off]?

theorem cells_sound {cs : List AC} {vs : List Value} {off n : Nat} {g : Bool} {r : AV} (H : CPre X cs vs) (hr : cellsV cs off g n = some r) : ∃ v, outV vs off g n = some v ∧ VRel X r v := by
  unfold cellsV at hr
  unfold outV
  cases g
  · simp only [cond_false, Option.map_eq_some_iff] at hr ⊢
    obtain ⟨c, hc, rfl⟩ := hr
    obtain ⟨v, hv, hrel⟩ := H.get hc
    exact ⟨v, hv, mk_sc hrel⟩
  · simp only [cond_true] at hr ⊢
    split at hr
    · rename_i hle
      cases hr
      have h2 := H.le
      refine ⟨_, by rw [if_pos (by omega)], .v (.ag ((H.drop off).take n (by simp; omega)))⟩
    · cases hr

theorem aggC_spec {t : TypeId} {g : Bool} {n : Nat} (ha : aggC P t = some (g, n)) :
    (isAgg t).run P w = .ok g w ∧ (sizeOf t).run P w = .ok n w ∧ ∃ i, P.info? t = some i ∧ i.size = n := by
  unfold aggC at ha
  split at ha <;> simp only [Option.some.injEq, Prod.mk.injEq, reduceCtorEq] at ha
  all_goals (obtain ⟨rfl, rfl⟩ := ha)
  · rename_i hu hi; exact ⟨by unfold isAgg; rw [Sem.run_bind, run_underlying hu]; rfl, by simp [sizeOf, typeInfo, hi], _, hi, rfl⟩
  · rename_i hu hi; exact ⟨by unfold isAgg; rw [Sem.run_bind, run_underlying hu]; rfl, by simp [sizeOf, typeInfo, hi], _, hi, rfl⟩
  · rename_i d i h1 h2 hu hi
    refine ⟨?_, by simp [sizeOf, typeInfo, hi], _, hi, rfl⟩
    unfold isAgg
    rw [Sem.run_bind, run_underlying hu]
    simp only [Result.andThen]
    cases d <;> first | rfl | (exfalso; first | exact h1 _ rfl | exact h2 _ _ rfl)

theorem loadCells_row {b off n : Nat} {C : Array Value} {t : TypeId} {fr : Nat × Nat} (hC : w.heap[b]? = some (.cells C t fr)) (hle : off + n ≤ C.size) :
    (loadCells ⟨b, off, none⟩ n).run P w = .ok ((C.toList.drop off).take n).toArray w := by
  have hl : ((C.toList.drop off).take n).length = n := by simp; omega
  have := run_loadCells_list (P := P) w ⟨b, off, none⟩ ((C.toList.drop off).take n) (fun j v hv => by
    rw [Addr.add_lit, cell_of_row w b _ C t fr hC]
    rw [List.getElem?_take] at hv
    split at hv
    · simpa using hv
    · cases hv)
  rwa [hl] at this

theorem loadVar_row {ty : TypeId} {g : Bool} {n b o off : Nat} {C : Array Value} {t : TypeId} {fr : Nat × Nat} {v : Value} (ha : aggC P ty = some (g, n)) (hC : w.heap[b]? = some (.cells C t fr))
    (hv : outV (C.toList.drop o) off g n = some v) : (loadVar ty ⟨b, o + off, none⟩).run P w = .ok v w := by
  obtain ⟨h1, h2, _⟩ := aggC_spec (w := w) ha
  unfold outV at hv
  cases g
  · simp only [cond_false] at hv
    have hc : w.cell? ⟨b, o + off, none⟩ = some v := by
      rw [cell_of_row w b _ C t fr hC]
      simpa using hv
    simp [loadVar, h1, hc]
  · simp only [cond_true] at hv
    split at hv
    · rename_i hle
      cases hv
      by_cases hn : n = 0
      · subst hn
        simp [loadVar, h1, h2, loadCells, loadCellsFrom]
      · have hle' : o + off + n ≤ C.size := by
          simp at hle
          omega
        have := loadCells_row (P := P) (w := w) (off := o + off) (n := n) hC hle'
        simp [loadVar, h1, h2, this, List.drop_drop]
    · cases hv
end
end Go.Vi
