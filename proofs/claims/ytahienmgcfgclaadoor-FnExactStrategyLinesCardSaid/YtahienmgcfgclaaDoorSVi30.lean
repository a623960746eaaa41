/-
  The value level: steps whose side conditions are told, one by one; plain data and the rows that stand for them. No condition.
-/
import Derived.Test.YtahienmgcfgclaaDoorSVi28
namespace Go.Vi
set_option linter.defProp false
set_option linter.unusedSimpArgs false
set_option linter.unusedVariables false
abbrev S (n : Nat) : Opd := .t n
abbrev K (n : Int) : Opd := .c (.v (.sc (.dat (.int .i64 n))))
abbrev K8 (n : Int) : Opd := .c (.v (.sc (.dat (.int .u8 n))))
abbrev KB (b : Bool) : Opd := .c (.v (.sc (.dat (.bool b))))
abbrev KS (s : List UInt8) : Opd := .c (.v (.sc (.dat (.str s))))
abbrev KN : Opd := .c (.v (.sc .nil))
abbrev aI (n : Int) : AC := .dat (.int .i64 n)
abbrev a8 (n : Int) : AC := .dat (.int .u8 n)
abbrev aB (b : Bool) : AC := .dat (.bool b)
abbrev aS (s : List UInt8) : AC := .dat (.str s)
abbrev aL (es : List (List D)) : AC := .dat (.sl es)
abbrev vc (c : AC) : AV := .v (.sc c)
abbrev va (cs : List AC) : AV := .v (.ag cs)
def rI (n : Int) : List D := [.int .i64 n]
def r8 (n : Int) : List D := [.int .u8 n]
def rB (b : Bool) : List D := [.bool b]
def rS (s : List UInt8) : List D := [.str s]
def rL {α : Type} (row : α → List D) (xs : List α) : List D := [.sl (xs.map row)]
theorem rI_len (n : Int) : (rI n).length = 1 := rfl
theorem r8_len (n : Int) : (r8 n).length = 1 := rfl
theorem rB_len (n : Bool) : (rB n).length = 1 := rfl
theorem rS_len (n : List UInt8) : (rS n).length = 1 := rfl
theorem rL_len {α : Type} (row : α → List D) (xs : List α) : (rL row xs).length = 1 := rfl
class Row {α : Type} (row : α → List D) (sz : Nat) : Prop where
 len : ∀ x,(row x).length = sz
 pos : 0 < sz
instance : Row rI 1 := ⟨fun _ => rfl,Nat.one_pos⟩
instance : Row r8 1 := ⟨fun _ => rfl,Nat.one_pos⟩
instance : Row rB 1 := ⟨fun _ => rfl,Nat.one_pos⟩
instance : Row rS 1 := ⟨fun _ => rfl,Nat.one_pos⟩
instance {α : Type} (row : α → List D) : Row (rL row) 1 := ⟨fun _ => rfl,Nat.one_pos⟩
theorem rI_eq (n : Int) : rI n = [.int .i64 n] := rfl
def toU8 (n : Int) : UInt8 := UInt8.ofNat n.toNat
theorem bytes_map : ∀ {xs : List Int},bytesOf (List.map r8 xs) = some (List.map toU8 xs)
 | [] => rfl
 | n :: xs => by
  show (bytesOf (List.map r8 xs)).map _ = _
  rw [bytes_map]
  rfl
theorem r8_eq (n : Int) : r8 n = [.int .u8 n] := rfl
theorem rB_eq (b : Bool) : rB b = [.bool b] := rfl
theorem rS_eq (s : List UInt8) : rS s = [.str s] := rfl
theorem rL_eq {α : Type} (row : α → List D) (xs : List α) : rL row xs = [.sl (xs.map row)] := rfl
theorem all_len {α : Type} {row : α → List D} {sz : Nat} (h : ∀ x,(row x).length = sz) (xs : List α) : (xs.map row).all (fun d => d.length == sz) = true := by
 simp [List.all_map,Function.comp_def,h]
@[irreducible] def bigN : Nat := 1208925819614629174706176
def bnd (m h l : Int) (n : Nat) : Option (Nat × Nat) := if 0 ≤ l ∧ l ≤ h ∧ h ≤ m ∧ m ≤ n then some (l.toNat,h.toNat) else none
def mkS (l c : Int) (bytes : Nat) : Option Nat := if 0 ≤ l ∧ l ≤ c ∧ c * bytes ≤ 140737488355328 ∧ c ≤ 4611686018427387904 then some l.toNat else none
def appB (n m bytes : Nat) : Bool := decide ((n + m) * bytes ≤ 140737488355328 ∧ n + m ≤ 4611686018427387904)
def catB (n m : Nat) : Bool := decide (n + m ≤ 4611686018427387904)
theorem ix_map {α β : Type} {f : α → β} {l : List α} {i : Int} : ix (l.map f) i = (ix l i).map f := by
 unfold ix
 split <;> simp
theorem ix_get {α : Type} {l : List α} {i : Int} {x : α} (h : ix l i = some x) : l[i.toNat]? = some x := by
 unfold ix at h
 split at h
 ·exact h
 ·cases h
theorem ob {α β : Type} {o : Option α} {f : α → Option β} {r : β} (h : o.bind f = some r) : ∃ a,o = some a ∧ f a = some r := Option.bind_eq_some_iff.1 h
class FlatRow {α : Type} (row : α → List D) : Prop where
 flat : ∀ x,∀ d ∈ row x,d.flat = true
instance : FlatRow rI := ⟨fun _ d h => by rw [List.mem_singleton.1 h]; rfl⟩
instance : FlatRow r8 := ⟨fun _ d h => by rw [List.mem_singleton.1 h]; rfl⟩
instance : FlatRow rB := ⟨fun _ d h => by rw [List.mem_singleton.1 h]; rfl⟩
instance : FlatRow rS := ⟨fun _ d h => by rw [List.mem_singleton.1 h]; rfl⟩
def FlatL : List RC → Prop
 | [] => True
 | c :: cs => c.flat ∧ FlatL cs
theorem flat_l {rs : List R1} {cs : List RC} (h : rs.flatMap R1.cells = cs) (hf : FlatL cs) : flatRs rs := by
 subst h
 unfold flatRs
 generalize rs.flatMap R1.cells = l at hf
 induction l with
 | nil => intro c hc; simp at hc
 | cons a l ih =>
  intro c hc
  rcases List.mem_cons.1 hc with rfl | hc
  ·exact hf.1
  ·exact ih hf.2 c hc
theorem flat_o {α : Type} {row : α → List D} [FlatRow row] {sz : Nat} {xs : List α} : RC.flat (.o sz (List.map row xs)) := by
 intro r hr
 obtain ⟨x,_,rfl⟩ := List.mem_map.1 hr
 exact FlatRow.flat x
theorem rep_map {α : Type} {row : α → List D} {z : α} {zs : List D} {n : Nat} (h : row z = zs) : List.replicate n zs = List.map row (List.replicate n z) := by rw [List.map_replicate,h]
theorem of_guard {α : Type} {b : Bool} {x : Option α} {r : α} (h : (if b = true then x else none) = some r) : b = true ∧ x = some r := by
 cases b
 ·rw [if_neg Bool.false_ne_true] at h; cases h
 ·exact ⟨rfl,by simpa using h⟩
theorem of_guardn {α : Type} {b : Bool} {x : Option α} {r : α} (h : (if b = true then none else x) = some r) : b = false ∧ x = some r := by
 cases b
 ·exact ⟨rfl,by simpa using h⟩
 ·rw [if_pos rfl] at h; cases h
theorem ite_t {α : Type} {b : Bool} {x y : α} (h : b = true) : (if b = true then x else y) = x := by rw [if_pos h]
theorem ite_f {α : Type} {b : Bool} {x y : α} (h : b = false) : (if b = true then x else y) = y := by rw [if_neg (by rw [h]; exact Bool.false_ne_true)]
section
variable {P : Program} {k : List Fr} {Q : AExit → St → Prop} {σ : St} {its : List AItem} {ds : List DItem} {o : AOp} {d : Nat}
theorem go_round {c : ACode} (h : go P (.code c :: .code (.loop c) :: k) Q .normal (some σ)) : go P (.code (.loop c) :: k) Q .normal (some σ) := by
 intro X hX
 refine hX σ (awp_mono c (fun e σ' h => ?_) h)
 cases e with
 | normal => exact h X hX
 | exit id => exact h
 | ret => exact h
 | pan d => exact h
theorem go_as {σ' : St} {e : AExit} (h : σ = σ') (H : go P k Q e (some σ')) : go P k Q e (some σ) := h ▸ H
theorem FC_go (hm : P.follows .mixedOrders = true) {f : FuncId} {c : ACode} {ts : List RV} {nt : Nat} {ds : List DV} {rs : List R1} {σ : St} (he : entry P f = some (c.strip,ts,nt)) (hl : Nat.ble ds.length nt = true) (hσ : St.init ds = σ)
  (h : go P [.code c] (Ret ts rs) .normal (some σ)) : FC P f ds rs := FC_ok hm he (Nat.le_of_ble_eq_true hl) fun _ => go_start (hσ ▸ h)
theorem make_row {sz : Nat} {es : List (List D)} (hf : σ.fresh d = true) : σ.make (.row d sz es) = some { (σ.set d (.v (.sc (.own (d * 64))))) with rows := put σ.rows (d * 64) (sz,es) } := by simp [St.make,hf]
theorem make_box {cs : List AC} (hf : σ.fresh d = true) (hu : cs.all (fun c => !c.uses d) = true) : σ.make (.box d cs) = some { (σ.set d (.v (.sc (.pb d 0)))) with bx := put σ.bx d cs } := by simp only [St.make,hf,hu,Bool.and_self,if_true]
theorem go_mk {m : Mk} (ho : o.isMade = true) (hm : σ.made o = some m) {σ' : St} (hs : σ.make m = some σ') (H : go P (.ops its :: k) Q .normal (some σ')) : go P (.ops ((none,o) :: its) :: k) Q .normal (some σ) := by
 have hc : o.isCall = false := by cases o <;> first | rfl | (simp [AOp.isMade] at ho; done)
 rw [go_op hc,step_mk ho,hm]
 show go P (.ops its :: k) Q .normal (σ.make m)
 rw [hs]
 exact H
theorem go_bx {X : Opd} {y : V1} (hX : σ.val X = .v y) (hf : σ.fresh d = true) (hu : y.cells.all (fun c => !c.uses d) = true) (H : go P (.ops its :: k) Q .normal (some { (σ.set d (.v (.sc (.pb d 0)))) with bx := put σ.bx d y.cells })) :
  go P (.ops ((none,.box d X) :: its) :: k) Q .normal (some σ) := go_mk rfl (by simp only [St.made,hX]) (make_box hf hu) H
theorem go_al {cs : List AC} (hf : σ.fresh d = true) (hu : cs.all (fun c => !c.uses d) = true) (H : go P (.ops its :: k) Q .normal (some { (σ.set d (.v (.sc (.pb d 0)))) with bx := put σ.bx d cs })) :
  go P (.ops ((none,.alloc d cs) :: its) :: k) Q .normal (some σ) := go_mk rfl rfl (make_box hf hu) H
theorem go_bsl {sz : Nat} {zs : List D} {len : Nat} {ps : List (Nat × Opd)} {es : List (List D)} (hm : σ.made (.bslice d sz zs len ps) = some (.row d sz es)) (hf : σ.fresh d = true)
  (H : go P (.ops its :: k) Q .normal (some { (σ.set d (.v (.sc (.own (d * 64))))) with rows := put σ.rows (d * 64) (sz,es) })) : go P (.ops ((none,.bslice d sz zs len ps) :: its) :: k) Q .normal (some σ) := go_mk rfl hm (make_row hf) H
theorem made_mks {L C : Opd} {l c : Int} {bytes n sz : Nat} {zs : List D} {es : List (List D)} (hl : asI (σ.val L) = some l) (hc : asI (σ.val C) = some c) (hb : mkS l c bytes = some n) (hz : zs.length = sz) (he : List.replicate n zs = es) :
  σ.made (.mksl d sz bytes zs L C) = some (.row d sz es) := by
 unfold mkS at hb
 split at hb
 ·rename_i h
  cases hb
  subst he
  simp only [St.made,hl,hc]
  rw [if_pos ⟨h.1,h.2.1,h.2.2.1,h.2.2.2,hz⟩]
 ·cases hb
theorem go_mks {L C : Opd} {l c : Int} {bytes n sz : Nat} {zs : List D} {es : List (List D)} (hl : asI (σ.val L) = some l) (hc : asI (σ.val C) = some c) (hb : mkS l c bytes = some n) (hz : zs.length = sz) (he : List.replicate n zs = es) (hf : σ.fresh d = true)
  (H : go P (.ops its :: k) Q .normal (some { (σ.set d (.v (.sc (.own (d * 64))))) with rows := put σ.rows (d * 64) (sz,es) })) : go P (.ops ((none,.mksl d sz bytes zs L C) :: its) :: k) Q .normal (some σ) :=
 go_mk rfl (made_mks hl hc hb hz he) (make_row hf) H
theorem go_mkN {n : Nat} {N : List Nat} {m : Mk} (hm : (σ.less (n :: N)).made o = some m) (hv : mkOk (n :: N) m = true) {σ' : St} (hs : σ.make m = some σ') (H : go P (.dops ds :: k) Q .normal (some σ')) :
  go P (.dops ((some (n :: N),none,o) :: ds) :: k) Q .normal (some σ) := go_dmade hm hv hs H
theorem go_stp {α : Type} {env bx rows} {id sz i off n : Nat} {xs : List α} {row : α → List D} {x y : α} {yv : V1} {dd : List D} (hd : yv.toDs = some dd) (hf : find rows id = some (sz,List.map row xs))
  (hx : xs[i]? = some x) (hn : dd.length = n) (ho : Nat.ble (off + n) (row x).length = true) (hy : setD (row x) off dd = row y) (H : go P k Q .normal (some ⟨env,bx,put rows id (sz,List.map row (xs.set i y))⟩)) :
  go P k Q .normal (St.storeV ⟨env,bx,rows⟩ n (.v (.sc (.pe id i off))) (.v yv)) := by
 have e : St.storeV ⟨env,bx,rows⟩ n (.v (.sc (.pe id i off))) (.v yv) = some ⟨env,bx,put rows id (sz,List.map row (xs.set i y))⟩ := by
  simp only [St.storeV,hf,List.getElem?_map,hx,Option.map_some,hd]
  rw [if_pos ⟨hn,Nat.le_of_ble_eq_true ho⟩,hy,List.map_set]
 rw [e]
 exact H
end
def dropA {α : Type} : Nat → List α → Option (List α)
 | 0,l => some l
 | _ + 1,[] => none
 | n + 1,_ :: l => dropA n l
def takeA {α : Type} : Nat → List α → Option (List α)
 | 0,_ => some []
 | _ + 1,[] => none
 | n + 1,c :: l => (takeA n l).map (c :: ·)
def lenIs {α : Type} : List α → Nat → Bool
 | [],0 => true
 | _ :: l,n + 1 => lenIs l n
 | _,_ => false
def lenGe {α : Type} : List α → Nat → Bool
 | _,0 => true
 | _ :: l,n + 1 => lenGe l n
 | [],_ + 1 => false
theorem dropA_eq {α : Type} : ∀ (n : Nat) (l : List α),dropA n l = if n ≤ l.length then some (l.drop n) else none
 | 0,l => by simp [dropA]
 | n + 1,[] => by simp [dropA]
 | n + 1,c :: l => by simp [dropA,dropA_eq n l]
theorem takeA_eq {α : Type} : ∀ (n : Nat) (l : List α),takeA n l = if n ≤ l.length then some (l.take n) else none
 | 0,l => by simp [takeA]
 | n + 1,[] => by simp [takeA]
 | n + 1,c :: l => by simp only [takeA,takeA_eq n l]; split <;> simp_all
theorem lenIs_eq {α : Type} : ∀ (l : List α) (n : Nat),lenIs l n = decide (l.length = n)
 | [],0 => by simp [lenIs]
 | [],n + 1 => by simp [lenIs]
 | _ :: l,0 => by simp [lenIs]
 | _ :: l,n + 1 => by simp [lenIs,lenIs_eq l n]
theorem lenGe_eq {α : Type} : ∀ (l : List α) (n : Nat),lenGe l n = decide (n ≤ l.length)
 | [],0 => by simp [lenGe]
 | [],n + 1 => by simp [lenGe]
 | _ :: l,0 => by simp [lenGe]
 | _ :: l,n + 1 => by simp [lenGe,lenGe_eq l n]
theorem dropA_0 {α : Type} {l : List α} : dropA 0 l = some l := by cases l <;> rfl
theorem dropA_s {α : Type} {n : Nat} {c : α} {l : List α} : dropA (n + 1) (c :: l) = dropA n l := rfl
theorem takeA_0 {α : Type} {l : List α} : takeA 0 l = some [] := by cases l <;> rfl
theorem takeA_s {α : Type} {n : Nat} {c : α} {l : List α} : takeA (n + 1) (c :: l) = (takeA n l).map (c :: ·) := rfl
theorem lenIs_0 {α : Type} : lenIs ([] : List α) 0 = true := rfl
theorem lenIs_s {α : Type} {n : Nat} {c : α} {l : List α} : lenIs (c :: l) (n + 1) = lenIs l n := rfl
theorem lenGe_0 {α : Type} {l : List α} : lenGe l 0 = true := by cases l <;> rfl
theorem lenGe_s {α : Type} {n : Nat} {c : α} {l : List α} : lenGe (c :: l) (n + 1) = lenGe l n := rfl
theorem cells_t {cs : List AC} {off n : Nat} : cellsV cs off true n = (dropA off cs).bind fun l => (takeA n l).map fun l => .v (.ag l) := by
 simp only [cellsV,cond_true,dropA_eq,takeA_eq]
 by_cases h : off ≤ cs.length
 ·rw [if_pos h]
  by_cases h2 : off + n ≤ cs.length
  ·rw [if_pos h2,Option.bind_some,if_pos (by simp; omega)]; rfl
  ·rw [if_neg h2,Option.bind_some,if_neg (by simp; omega)]; rfl
 ·rw [if_neg h,if_neg (by omega)]; rfl
theorem setA_nil {cs : List AC} : setA cs 0 [] = cs := by simp [setA]
theorem setA_succ {c : AC} {cs ds : List AC} {n : Nat} : setA (c :: cs) (n + 1) ds = c :: setA cs n ds := by
 simp only [setA,List.take_succ_cons,List.cons_append]
 rw [show n + 1 + ds.length = (n + ds.length) + 1 by omega,List.drop_succ_cons]
theorem setA_zero {c d : AC} {cs ds : List AC} : setA (c :: cs) 0 (d :: ds) = d :: setA cs 0 ds := by simp [setA]
theorem bind_some' {α β : Type} {a : α} {f : α → Option β} : (some a).bind f = f a := rfl
theorem bind_none' {α β : Type} {f : α → Option β} : (none : Option α).bind f = none := rfl
theorem get_map {α β : Type} {f : α → β} {l : List α} {i : Nat} : (List.map f l)[i]? = (l[i]?).map f := List.getElem?_map
theorem get_zero {α : Type} {a : α} {l : List α} : (a :: l)[0]? = some a := rfl
theorem get_succ {α : Type} {a : α} {l : List α} {n : Nat} : (a :: l)[n + 1]? = l[n]? := by simp
theorem dat_nil : List.map AC.dat [] = [] := rfl
theorem dat_cons {d : D} {l : List D} : List.map AC.dat (d :: l) = .dat d :: List.map AC.dat l := rfl
section
variable {P : Program} {k : List Fr} {Q : AExit → St → Prop} {σ : St} {its : List AItem} {env : List (Nat × AV)} {bx : List (Nat × List AC)} {rows : Rows}
theorem iaddr_sl {α : Type} {rs : Rows} {sz : Nat} {xs : List α} {row : α → List D} [Row row sz] {kd : IntKind} {i : Int} : iaddrV rs sz (.v (.sc (.dat (.sl (List.map row xs))))) (.v (.sc (.dat (.int kd i)))) = (ix xs i).map fun x => .v (.sc (.dat (.pd (row x)))) := by
 simp only [iaddrV,ix_map]
 cases ix xs i with
 | none => rfl
 | some x => simp [Row.len (row := row) (sz := sz),Row.pos row]
theorem iaddr_own {rs : Rows} {sz id : Nat} {kd : IntKind} {i : Int} : iaddrV rs sz (.v (.sc (.own id))) (.v (.sc (.dat (.int kd i)))) = (find rs id).bind fun p => (ix p.2 i).bind fun _ => bif p.1 == sz then some (.v (.sc (.pe id i.toNat 0))) else none := by
 simp only [iaddrV]
 cases find rs id with
 | none => rfl
 | some p =>
  obtain ⟨a,es⟩ := p
  simp only [bind_some']
  cases ix es i with
  | none => rfl
  | some x =>
   by_cases h : a = sz
   ·simp [h]
   ·have h' : (a == sz) = false := by simpa using h
    simp [h,h']
theorem load_pb {g : Bool} {n id off : Nat} : loadV ⟨env,bx,rows⟩ g n (.v (.sc (.pb id off))) = (find bx id).bind fun cs => cellsV cs off g n := by
 show (match find bx id with | some cs => _ | none => none) = _
 cases find bx id <;> rfl
theorem load_pe {g : Bool} {n id i off : Nat} : loadV ⟨env,bx,rows⟩ g n (.v (.sc (.pe id i off))) = (find rows id).bind fun p => (p.2[i]?).bind fun d => cellsV (List.map AC.dat d) off g n := by
 simp only [loadV]
 cases find rows id with
 | none => rfl
 | some p =>
  simp only [bind_some']
  cases p.2[i]? <;> rfl
theorem load_pd {g : Bool} {n : Nat} {cs : List D} : loadV σ g n (.v (.sc (.dat (.pd cs)))) = cellsV (List.map AC.dat cs) 0 g n := rfl
theorem fa_pe {rs : Rows} {off id i o : Nat} : faddrV rs off (.v (.sc (.pe id i o))) = (find rs id).map fun _ => .v (.sc (.pe id i (o + off))) := by
 simp only [faddrV]
 cases find rs id <;> rfl
theorem fa_pd {rs : Rows} {off : Nat} {cs : List D} : faddrV rs off (.v (.sc (.dat (.pd cs)))) = (dropA off cs).map fun cs => .v (.sc (.dat (.pd cs))) := by
 simp only [faddrV,dropA_eq]
 split <;> rfl
theorem extr_tup {l : List V1} {i : Nat} : extrV i (.tup l) = (l[i]?).map .v := rfl
theorem nilc_pb {id off : Nat} : nilcV (.v (.sc (.pb id off))) = some (.v (.sc (.pb id off))) := rfl
theorem nilc_pd {cs : List D} : nilcV (.v (.sc (.dat (.pd cs)))) = some (.v (.sc (.dat (.pd cs)))) := rfl
theorem vmap_nil : List.map (St.val σ) [] = [] := rfl
theorem vmap_cons {x : Opd} {l : List Opd} : List.map (St.val σ) (x :: l) = σ.val x :: List.map (St.val σ) l := rfl
theorem mkf_nil {f : FuncId} : mkfV f [] = some [] := rfl
theorem mkf_cons {f : FuncId} {id : Nat} {r : List AV} : mkfV f (.v (.sc (.pb id 0)) :: r) = (mkfV f r).map (id :: ·) := rfl
def bldC (K : List AC → Option (List AC)) (off n : Nat) (cs : List AC) : AV → Option (List AC)
 | .v x => bif lenIs x.cells n && lenGe cs (off + n) then K (setA cs off x.cells) else none
 | _ => none
def bldV (σ : St) : List (Nat × Nat × Opd) → List AC → Option (List AC)
 | [],cs => some cs
 | (off,n,x) :: r,cs => bldC (bldV σ r) off n cs (σ.val x)
theorem bldV_eq : ∀ (ps : List (Nat × Nat × Opd)) (cs : List AC),fillC cs (ps.map fun p => (p.1,p.2.1,σ.val p.2.2)) = bldV σ ps cs
 | [],cs => rfl
 | (off,n,x) :: r,cs => by
  simp only [List.map_cons,bldV]
  generalize σ.val x = v
  cases v with
  | v y =>
   simp only [fillC,bldC,lenIs_eq,lenGe_eq]
   by_cases h1 : y.cells.length = n
   ·by_cases h2 : off + n ≤ cs.length
    ·subst h1
     simp only [h2,and_self,if_true,decide_true,Bool.and_self,cond_true]
     exact bldV_eq r _
    ·simp [h1,h2]
   ·simp [h1]
  | _ => rfl
theorem bld_nil {cs : List AC} : bldV σ [] cs = some cs := rfl
theorem bld_cons {off n : Nat} {x : Opd} {r : List (Nat × Nat × Opd)} {cs : List AC} : bldV σ ((off,n,x) :: r) cs = bldC (bldV σ r) off n cs (σ.val x) := rfl
theorem bldC_v {K : List AC → Option (List AC)} {off n : Nat} {cs : List AC} {x : V1} : bldC K off n cs (.v x) = bif lenIs x.cells n && lenGe cs (off + n) then K (setA cs off x.cells) else none := rfl
theorem go_bld {d zs ps} : go P (.ops ((none,.build d zs ps) :: its) :: k) Q .normal (some σ) = go P (.ops its :: k) Q .normal (put1 σ d ((bldV σ ps zs).map fun cs => .v (.ag cs))) := by rw [go_build,bldV_eq]
theorem st_bld {d zs ps} : σ.step (.build d zs ps) = put1 σ d ((bldV σ ps zs).map fun cs => .v (.ag cs)) := by rw [step_build,bldV_eq]
theorem store_pb {n id off : Nat} {y : V1} : St.storeV ⟨env,bx,rows⟩ n (.v (.sc (.pb id off))) (.v y) = (find bx id).bind fun cs => bif lenIs y.cells n && lenGe cs (off + n) then some ⟨env,put bx id (setA cs off y.cells),rows⟩ else none := by
 simp only [St.storeV,lenIs_eq,lenGe_eq]
 cases find bx id with
 | none => rfl
 | some cs =>
  simp only [bind_some']
  by_cases h1 : y.cells.length = n
  ·by_cases h2 : off + n ≤ cs.length
   ·simp [h1,h2]
   ·simp [h1,h2]
  ·simp [h1]
def rowsOk (sz : Nat) (es : List (List D)) : Bool := es.all fun r => r.length == sz
theorem rowsOk_map {α : Type} {sz : Nat} {row : α → List D} [Row row sz] {xs : List α} : rowsOk sz (List.map row xs) = true := all_len (Row.len (row := row)) xs
theorem app_own {d sz bytes id : Nat} {y : AV} : St.appV ⟨env,bx,rows⟩ d sz bytes (.v (.sc (.own id))) y = bif id / 1099511627776 == 0 then ((find rows id).bind fun p => (appSrc rows y).bind fun es' =>
  bif (p.1 == sz) && (rowsOk sz es' && appB p.2.length es'.length bytes) then some ⟨put (env.map fun p => (p.1,p.2.map (AC.kill id))) d (.v (.sc (.own id))),bx.map fun p => (p.1,p.2.map (AC.kill id)),put rows id (sz,p.2 ++ es')⟩ else none) else none := by
 simp only [St.appV]
 by_cases h0 : id / 1099511627776 = 0
 rotate_left
 ·rw [if_neg h0,show (id / 1099511627776 == 0) = false by simpa using h0]
  rfl
 rw [if_pos h0,show (id / 1099511627776 == 0) = true by simpa using h0,cond_true]
 cases find rows id with
 | none => rfl
 | some p =>
  obtain ⟨a,es⟩ := p
  simp only [bind_some']
  cases appSrc rows y with
  | none => rfl
  | some es' =>
   simp only [bind_some']
   by_cases h1 : a = sz
   ·by_cases h2 : rowsOk sz es' = true
    ·by_cases h3 : appB es.length es'.length bytes = true
     ·have h3' := of_decide_eq_true h3
      rw [if_pos ⟨h1,h2,h3'.1,h3'.2⟩]
      simp only [h1,beq_self_eq_true,h2,h3,Bool.and_self,cond_true]
      rfl
     ·have h3' : appB es.length es'.length bytes = false := by simpa using h3
      rw [if_neg (fun h => h3 (decide_eq_true ⟨h.2.2.1,h.2.2.2⟩))]
      simp [h3']
    ·have h2' : rowsOk sz es' = false := by simpa using h2
     rw [if_neg (fun h => h2 h.2.1)]
     simp [h2']
   ·have h1' : (a == sz) = false := by simpa using h1
    rw [if_neg (fun h => h1 h.1)]
    simp [h1']
def srcC : Option D → Option (List (List D))
 | some (.sl es) => some es
 | _ => none
theorem src_dat {rs : Rows} {es : List (List D)} : appSrc rs (.v (.sc (.dat (.sl es)))) = some es := rfl
theorem src_nil {rs : Rows} : appSrc rs (.v (.sc .nil)) = some [] := rfl
theorem src_own {rs : Rows} {id : Nat} : appSrc rs (.v (.sc (.own id))) = (find rs id).map fun p => p.2 := by
 simp only [appSrc,toD0]
 cases find rs id <;> rfl
theorem map_app {α : Type} {f : α → List D} {a b : List α} : List.map f a ++ List.map f b = List.map f (a ++ b) := List.map_append.symm
def optV (σ : St) (n : Nat) : Option Opd → Option Int
 | none => some n
 | some x => asI (σ.val x)
def bnd3 (n : Nat) : Option Int → Option Int → Option Int → Option (Nat × Nat)
 | some m,some h,some l => bnd m h l n
 | _,_,_ => none
theorem bnd3_eq {lo hi mx : Option Opd} {n : Nat} : bndV σ lo hi mx n = bnd3 n (optV σ n mx) (optV σ n hi) (match lo with | none => some 0 | some x => asI (σ.val x)) := by
 cases mx <;> cases hi <;> cases lo <;> (simp only [bndV,bnd3,optV]; first | rfl | (split <;> simp_all [bnd3,bnd]))
def optL (σ : St) : Option Opd → Option Int
 | none => some 0
 | some x => asI (σ.val x)
theorem slcv_sl {α : Type} {sz : Nat} {lo hi mx : Option Opd} {xs : List α} {row : α → List D} [Row row sz] : slcV σ sz (.v (.sc (.dat (.sl (List.map row xs))))) lo hi mx = (bnd3 xs.length (optV σ xs.length mx) (optV σ xs.length hi) (optL σ lo)).map fun p => .v (.sc (.dat (.sl (List.map row ((xs.drop p.1).take (p.2 - p.1)))))) := by
 have h : (List.map row xs).all (fun d => d.length == sz) = true := all_len (Row.len (row := row)) xs
 simp only [slcV,h,Row.pos row (sz := sz),decide_true,Bool.and_self,if_true,List.length_map,bnd3_eq]
 cases lo <;> simp [optL,List.map_drop,List.map_take]
theorem ssl_str {lo hi : Option Opd} {s : List UInt8} : sslcV σ (.v (.sc (.dat (.str s)))) lo hi = (bnd3 s.length (optV σ s.length none) (optV σ s.length hi) (optL σ lo)).map fun p => .v (.sc (.dat (.str ((s.drop p.1).take (p.2 - p.1))))) := by
 simp only [sslcV,bnd3_eq]
 cases lo <;> rfl
theorem optV_n {n : Nat} : optV σ n none = some (n : Int) := rfl
theorem optV_s {n : Nat} {x : Opd} : optV σ n (some x) = asI (σ.val x) := rfl
theorem optL_n : optL σ none = some 0 := rfl
theorem optL_s {x : Opd} : optL σ (some x) = asI (σ.val x) := rfl
theorem asI_i {kd : IntKind} {i : Int} : asI (.v (.sc (.dat (.int kd i)))) = some i := rfl
theorem bnd3_s {n : Nat} {m h l : Int} : bnd3 n (some m) (some h) (some l) = bnd m h l n := rfl
theorem str_add {x y : List UInt8} : strV .add x y = bif catB x.length y.length then some (.str (x ++ y)) else none := by
 simp only [strV,catB]
 by_cases h : x.length + y.length ≤ 4611686018427387904
 ·simp [h]
 ·simp [h]
theorem int_and {k : IntKind} {x y : Int} : intV .and k x y = some (.int k (bitsV .and k x y)) := rfl
theorem int_or {k : IntKind} {x y : Int} : intV .or k x y = some (.int k (bitsV .or k x y)) := rfl
theorem int_xor {k : IntKind} {x y : Int} : intV .xor k x y = some (.int k (bitsV .xor k x y)) := rfl
theorem beq_tt : (true == true) = true := rfl
theorem beq_tf : (true == false) = false := rfl
theorem beq_ft : (false == true) = false := rfl
theorem beq_ff' : (false == false) = true := rfl
theorem and_ft {b : Bool} : (false && b) = false := rfl
end
def pickC {α : Type} (k : Nat) : Option α → List (Nat × α) → List (Nat × α)
 | some v,r => (k,v) :: r
 | none,r => r
theorem pickL_nil {α : Type} {l : List (Nat × α)} : pickL l [] = [] := rfl
theorem pickL_cons {α : Type} {l : List (Nat × α)} {k : Nat} {ks : List Nat} : pickL l (k :: ks) = pickC k (find l k) (pickL l ks) := by
 show (match find l k with | some v => _ | none => _) = _
 cases find l k <;> rfl
theorem pickC_some {α : Type} {k : Nat} {v : α} {r : List (Nat × α)} : pickC k (some v) r = (k,v) :: r := rfl
theorem kept_mk {env bx rows ks bs rs} : (St.mk env bx rows).kept ks bs rs = ⟨pickL env ks,pickL bx bs,pickL rows rs⟩ := rfl
theorem go_keep {P : Program} {k : List Fr} {Q : AExit → St → Prop} {σ : St} {its : List AItem} {ks bs rs : List Nat} : go P (.ops ((none,.keep ks bs rs) :: its) :: k) Q .normal (some σ) = go P (.ops its :: k) Q .normal (some (σ.kept ks bs rs)) := go_op rfl
theorem pick_b {b : Bool} {x y : AV} : pickV (.v (.sc (.dat (.bool b)))) x y = some (bif b then x else y) := rfl
theorem beq_b {g x y : Bool} : beqV g (.v (.sc (.dat (.bool x)))) (.v (.sc (.dat (.bool y)))) = some (.v (.sc (.dat (.bool (bif g then !(x == y) else x == y))))) := rfl
theorem mm_i {m : Bool} {k : IntKind} {x y : Int} : mmV m (.v (.sc (.dat (.int k x)))) (.v (.sc (.dat (.int k y)))) = some (.v (.sc (.dat (.int k (bif m then (if x < y then y else x) else (if y < x then y else x)))))) := by simp [mmV]
theorem un_neg {k : IntKind} {x : Int} : unV .neg (.v (.sc (.dat (.int k x)))) = some (.v (.sc (.dat (.int k (k.wrap (0 - x)))))) := rfl
theorem fa_pb {rs : Rows} {off id o : Nat} : faddrV rs off (.v (.sc (.pb id o))) = some (.v (.sc (.pb id (o + off)))) := rfl
theorem len_own {rs : Rows} {id : Nat} : lenV rs (.v (.sc (.own id))) = (find rs id).map fun p => .v (.sc (.dat (.int .i64 p.2.length))) := by
 show (match find rs id with | some (_,es) => _ | none => _) = _
 cases find rs id <;> rfl
theorem init_nil {k : Nat} : initEnv k [] = [] := rfl
theorem init_cons {k : Nat} {d : DV} {ds : List DV} : initEnv k (d :: ds) = (k,d.av) :: initEnv (k + 1) ds := rfl
theorem init_st {ds : List DV} : St.init ds = ⟨initEnv 0 ds,[],[]⟩ := rfl
theorem dv_sc {d : D} : DV.av (.sc d) = .v (.sc (.dat d)) := rfl
theorem dv_ag {ds : List D} : DV.av (.ag ds) = .v (.ag (ds.map .dat)) := rfl
theorem lm_nil {f : AC → AC} : List.map (V1.map f) [] = [] := rfl
theorem lm_cons {f : AC → AC} {x : V1} {l : List V1} : List.map (V1.map f) (x :: l) = x.map f :: List.map (V1.map f) l := rfl
theorem kmap_nil {f : AC → AC} : List.map (fun p : Nat × AV => (p.1,p.2.map f)) [] = [] := rfl
theorem kmap_cons {f : AC → AC} {k : Nat} {v : AV} {l : List (Nat × AV)} : List.map (fun p : Nat × AV => (p.1,p.2.map f)) ((k,v) :: l) = (k,v.map f) :: List.map (fun p : Nat × AV => (p.1,p.2.map f)) l := rfl
theorem bmap_nil {f : AC → AC} : List.map (fun p : Nat × List AC => (p.1,p.2.map f)) [] = [] := rfl
theorem bmap_cons {f : AC → AC} {k : Nat} {v : List AC} {l : List (Nat × List AC)} : List.map (fun p : Nat × List AC => (p.1,p.2.map f)) ((k,v) :: l) = (k,v.map f) :: List.map (fun p : Nat × List AC => (p.1,p.2.map f)) l := rfl
theorem cmap_nil {f : AC → AC} : List.map f ([] : List AC) = [] := rfl
theorem cmap_cons {f : AC → AC} {c : AC} {l : List AC} : List.map f (c :: l) = f c :: List.map f l := rfl
theorem llen_map {α β : Type} {f : α → β} {l : List α} : (List.map f l).length = l.length := List.length_map ..
theorem cells_sc1 {c : AC} : V1.cells (.sc c) = [c] := rfl
theorem cells_ag1 {cs : List AC} : V1.cells (.ag cs) = cs := rfl
theorem mapst {f : AC → AC} {env bx rows} : (St.mk env bx rows).map f = ⟨env.map fun p => (p.1,p.2.map f),bx.map fun p => (p.1,p.2.map f),rows⟩ := rfl
theorem avmap_sc {f : AC → AC} {c : AC} : AV.map f (.v (.sc c)) = .v (.sc (f c)) := rfl
theorem avmap_ag {f : AC → AC} {cs : List AC} : AV.map f (.v (.ag cs)) = .v (.ag (cs.map f)) := rfl
theorem avmap_u {f : AC → AC} : AV.map f .undef = .undef := rfl
theorem avmap_0 {f : AC → AC} : AV.map f .no = .no := rfl
theorem avmap_t {f : AC → AC} {l : List V1} : AV.map f (.tup l) = .tup (l.map (V1.map f)) := rfl
theorem v1map_sc {f : AC → AC} {c : AC} : V1.map f (.sc c) = .sc (f c) := rfl
theorem v1map_ag {f : AC → AC} {cs : List AC} : V1.map f (.ag cs) = .ag (cs.map f) := rfl
theorem kill_d {id : Nat} {d : D} : AC.kill id (.dat d) = .dat d := rfl
theorem kill_n {id : Nat} : AC.kill id .nil = .nil := rfl
theorem kill_u {id : Nat} : AC.kill id .undef = .undef := rfl
theorem kill_o {id i : Nat} : AC.kill id (.own i) = bif i == id then .undef else .own i := rfl
theorem kill_s {id i a b : Nat} : AC.kill id (.osub i a b) = bif i == id then .undef else .osub i a b := rfl
theorem kill_e {id i a b : Nat} : AC.kill id (.pe i a b) = bif i == id then .undef else .pe i a b := rfl
theorem kill_b {id i a : Nat} : AC.kill id (.pb i a) = .pb i a := rfl
theorem kill_c {id f : Nat} {is : List Nat} : AC.kill id (.clo f is) = .clo f is := rfl
theorem frz_d {id : Nat} {es : List (List D)} {d : D} : AC.frz id es (.dat d) = .dat d := rfl
theorem frz_n {id : Nat} {es : List (List D)} : AC.frz id es .nil = .nil := rfl
theorem frz_u {id : Nat} {es : List (List D)} : AC.frz id es .undef = .undef := rfl
theorem frz_o {id i : Nat} {es : List (List D)} : AC.frz id es (.own i) = bif i == id then .dat (.sl es) else .own i := rfl
theorem frz_s {id i a b : Nat} {es : List (List D)} : AC.frz id es (.osub i a b) = bif i == id then .undef else .osub i a b := rfl
theorem frz_e {id i a b : Nat} {es : List (List D)} : AC.frz id es (.pe i a b) = bif i == id then .undef else .pe i a b := rfl
theorem frz_b {id i a : Nat} {es : List (List D)} : AC.frz id es (.pb i a) = .pb i a := rfl
theorem frz_c {id f : Nat} {es : List (List D)} {is : List Nat} : AC.frz id es (.clo f is) = .clo f is := rfl
theorem go_frz' {P : Program} {k : List Fr} {Q : AExit → St → Prop} {σ : St} {its : List AItem} {id sz : Nat} {es : List (List D)} (hf : find σ.rows id = some (sz,es)) (H : go P (.ops its :: k) Q .normal (some { (σ.map (AC.frz id es)) with rows := erase σ.rows [id] })) (h0 : (id / 1099511627776 == 0) = true := by rfl) :
  go P (.ops ((none,.frz id) :: its) :: k) Q .normal (some σ) := by
 rw [go_frz]
 simp only [St.step,hf,h0,Bool.not_true,Bool.false_eq_true,if_false]
 exact H
theorem go_own' {P : Program} {k : List Fr} {Q : AExit → St → Prop} {σ : St} {its : List AItem} {d id sz : Nat} (h1 : σ.has id = false) (h2 : σ.get d = .v (.sc .nil)) (H : go P (.ops its :: k) Q .normal (some { (σ.set d (.v (.sc (.own id)))) with rows := put σ.rows id (sz,[]) })) (h0 : (id / 1099511627776 == 0) = true := by rfl) :
  go P (.ops ((none,.own d 0 id sz) :: its) :: k) Q .normal (some σ) := by
 rw [go_own]
 simp only [St.step,h1,h2,h0,Bool.not_true,Bool.or_self,Bool.false_eq_true,if_false]
 exact H
theorem go_ownb' {P : Program} {k : List Fr} {Q : AExit → St → Prop} {σ : St} {its : List AItem} {b j id sz : Nat} {cs cs' : List AC} (h1 : σ.has id = false) (h2 : find σ.bx b = some cs) (h3 : cs[j]? = some .nil) (h4 : cs.set j (.own id) = cs')
  (H : go P (.ops its :: k) Q .normal (some { σ with bx := put σ.bx b cs',rows := put σ.rows id (sz,[]) })) (h0 : (id / 1099511627776 == 0) = true := by rfl) : go P (.ops ((none,.ownb b j id sz) :: its) :: k) Q .normal (some σ) := by
 rw [go_ownb]
 subst h4
 simp only [St.step,h1,h2,h3,h0,Bool.not_true,Bool.or_self,Bool.false_eq_true,if_false]
 exact H
theorem erase_nil {α : Type} {ks : List Nat} : erase ([] : List (Nat × α)) ks = [] := rfl
theorem erase_one {α : Type} {k n : Nat} {v : α} {r : List (Nat × α)} : erase ((k,v) :: r) [n] = bif k == n then erase r [n] else (k,v) :: erase r [n] := by
 by_cases h : k = n
 ·simp [erase,h]
 ·have h' : (k == n) = false := by simpa using h
  simp [erase,h,h']
theorem ret_ret {ts : List RV} {rs : List R1} {σ : St} : Ret ts rs .ret σ = (OutVs σ ts rs ∧ nodupO (outIdVs σ ts rs) = true) := rfl
theorem ret_norm {ts : List RV} {rs : List R1} {σ : St} : Ret ts rs .normal σ = (OutVs σ ts rs ∧ nodupO (outIdVs σ ts rs) = true) := rfl
theorem outVs_cons {σ : St} {t : RV} {ts : List RV} {r : R1} {rs : List R1} : OutVs σ (t :: ts) (r :: rs) = (OutV σ.rows (outGet σ t) r ∧ OutVs σ ts rs) := rfl
theorem outIdVs_cons {σ : St} {t : RV} {ts : List RV} {r : R1} {rs : List R1} : outIdVs σ (t :: ts) (r :: rs) = outIdV (outGet σ t) r ++ outIdVs σ ts rs := rfl
theorem outGet_c {σ : St} {a n : Nat} {g : Bool} : outGet σ (.c a g n) = (loadV σ g n (σ.get a)).getD .undef := rfl
def rulesR := And.intro @ret_ret (And.intro @ret_norm (And.intro @outVs_cons (And.intro @outIdVs_cons @outGet_c)))
set_option maxRecDepth 4000 in
def rules2 := And.intro @go_none (And.intro @go_nil (And.intro @go_skip (And.intro @go_reg (And.intro @go_drw (And.intro @go_fr (And.intro @go_seq (And.intro @go_block (And.intro @go_exit (And.intro @go_ret (And.intro @go_cond (And.intro @go_pickT (And.intro @go_pickF (And.intro @go_pass_exit (And.intro @go_pass_ret (And.intro @go_blk (And.intro @go_blk_ret (And.intro @go_ops_nil (And.intro @go_dops_nil (And.intro @put1_some (And.intro @go_guardT (And.intro @go_guardF (And.intro @go_gd_yes (And.intro @go_gd_noT (And.intro @go_gd_noF (And.intro @find_nil (And.intro @find_cons (And.intro @put_nil (And.intro @put_cons (And.intro @val_t (And.intro @val_c (And.intro @get_mk (And.intro @set_mk (And.intro @getD_some (And.intro @getD_none (And.intro @map_some (And.intro @map_none (And.intro @slen_str (And.intro @len_sl (And.intro @sconv_sl (And.intro @sconv_own (And.intro @len_nil (And.intro @conv_int (And.intro @bin_int (And.intro @bin_str (And.intro @int_add (And.intro @int_sub (And.intro @int_mul (And.intro @int_quo (And.intro @int_rem (And.intro @int_eql (And.intro @int_neq (And.intro @int_lss (And.intro @int_leq (And.intro @int_gtr (And.intro @int_geq (And.intro @str_eql (And.intro @str_neq (And.intro @un_not (And.intro @idx_str (And.intro @ix_nat (And.intro @field_ag (And.intro @cells_f (And.intro @condT (And.intro @condF (And.intro @go_mv (And.intro @go_opick (And.intro @go_load (And.intro @go_nilc (And.intro @go_bin (And.intro @go_beq (And.intro @go_un (And.intro @go_conv (And.intro @go_slc (And.intro @go_sslc (And.intro @go_faddr (And.intro @go_field (And.intro @go_iaddr (And.intro @go_idx (And.intro @go_extr (And.intro @go_len (And.intro @go_sconv (And.intro @go_slen (And.intro @go_mm (And.intro @go_mkf (And.intro @go_store (And.intro @go_app (And.intro @go_blk_exit (And.intro @inst_mk (And.intro @instAll_one (And.intro @instAll_two (And.intro @instList_nil (And.intro @instList_cons (And.intro @width_sc (And.intro @width_ag (And.intro @inst_v (And.intro @inst_o (And.intro @inst_sc (And.intro @inst_ag (And.intro @instCells_nil (And.intro @instCells_cons (And.intro @rowsAll_nil (And.intro @rowsAll_one (And.intro @rowsAll_two (And.intro @cells_sc (And.intro @cells_ag (And.intro @rowsCells_nil (And.intro @rowsCells_v (And.intro @rowsCells_o (And.intro @putAll_nil (And.intro @putAll_cons (And.intro @app_nil (And.intro @app_cons (And.intro @bne_same (And.intro @beq_same (And.intro @d0_mv (And.intro @d0_pick (And.intro @d0_build (And.intro @d0_load (And.intro @d0_nilc (And.intro @d0_bin (And.intro @d0_beq (And.intro @d0_un (And.intro @d0_conv (And.intro @d0_slc (And.intro @d0_sslc (And.intro @d0_faddr (And.intro @d0_field (And.intro @d0_iaddr (And.intro @d0_idx (And.intro @d0_extr (And.intro @d0_len (And.intro @d0_sconv (And.intro @d0_slen (And.intro @d0_mm (And.intro @d0_mkf (And.intro @d0_box (And.intro @d0_alloc (And.intro @d0_bslice (And.intro @d0_mksl (And.intro @dN_mv (And.intro @dN_pick (And.intro @dN_build (And.intro @dN_load (And.intro @dN_nilc (And.intro @dN_bin (And.intro @dN_beq (And.intro @dN_un (And.intro @dN_conv (And.intro @dN_slc (And.intro @dN_sslc (And.intro @dN_faddr (And.intro @dN_field (And.intro @dN_iaddr (And.intro @dN_idx (And.intro @dN_extr (And.intro @dN_len (And.intro @dN_sconv (And.intro @dN_slen (And.intro @dN_mm (And.intro @dN_mkf (And.intro @d_guardT (And.intro @d_guardF (And.intro @d_yes (And.intro @d_noT (And.intro @d_noF (And.intro @less_mk (And.intro @memN_nil (And.intro @memN_cons (And.intro @keep_nil (And.intro @keep_id (And.intro @keep_64 (And.intro @take_some (And.intro @unw_some (And.intro @av_dat (And.intro @av_nil (And.intro @av_own (And.intro @av_pb (And.intro @av_pe (And.intro @av_ag0 (And.intro @av_ag (And.intro @not_false' (And.intro @not_true' (And.intro @and_tt (And.intro @go_frs (And.intro @go_bar (And.intro @dst_mv (And.intro @dst_pick (And.intro @dst_build (And.intro @dst_load (And.intro @dst_nilc (And.intro @dst_bin (And.intro @dst_beq (And.intro @dst_un (And.intro @dst_conv (And.intro @dst_slc (And.intro @dst_sslc (And.intro @dst_faddr (And.intro @dst_field (And.intro @dst_iaddr (And.intro @dst_idx (And.intro @dst_extr (And.intro @dst_len (And.intro @dst_sconv (And.intro @dst_slen (And.intro @dst_mm (And.intro @dst_mkf (And.intro @dst_box (And.intro @dst_alloc (And.intro @dst_bslice (And.intro @dst_mksl (And.intro @dst_call (And.intro @dst_callv (And.intro @step_mv (And.intro @step_pick (And.intro @step_load (And.intro @step_nilc (And.intro @step_bin (And.intro @step_beq (And.intro @step_un (And.intro @step_conv (And.intro @step_slc (And.intro @step_sslc (And.intro @step_faddr (And.intro @step_field (And.intro @step_iaddr (And.intro @step_idx (And.intro @step_extr (And.intro @step_len (And.intro @step_sconv (And.intro @step_slen (And.intro @step_mm (And.intro @step_mkf (And.intro @pickL_nil (And.intro @pickL_cons (And.intro @pickC_some (And.intro @kept_mk (And.intro @go_keep (And.intro @pick_b (And.intro @beq_b (And.intro @mm_i (And.intro @un_neg (And.intro @fa_pb (And.intro @len_own (And.intro @init_nil (And.intro @init_cons (And.intro @init_st (And.intro @dv_sc (And.intro @dv_ag (And.intro @llen_map (And.intro @cells_sc1 (And.intro @cells_ag1 (And.intro @mapst (And.intro @avmap_sc (And.intro @avmap_ag (And.intro @avmap_u (And.intro @avmap_t (And.intro @v1map_sc (And.intro @v1map_ag (And.intro @kill_d (And.intro @kill_n (And.intro @kill_u (And.intro @kill_o (And.intro @kill_s (And.intro @kill_e (And.intro @kill_b (And.intro @kill_c (And.intro @frz_d (And.intro @frz_n (And.intro @frz_u (And.intro @frz_o (And.intro @frz_s (And.intro @frz_e (And.intro @frz_b (And.intro @frz_c (And.intro @erase_nil (And.intro @erase_one (And.intro @dropA_0 (And.intro @dropA_s (And.intro @takeA_0 (And.intro @takeA_s (And.intro @lenIs_0 (And.intro @lenIs_s (And.intro @lenGe_0 (And.intro @lenGe_s (And.intro @cells_t (And.intro @setA_nil (And.intro @setA_succ (And.intro @setA_zero (And.intro @bind_some' (And.intro @bind_none' (And.intro @get_map (And.intro @get_zero (And.intro @get_succ (And.intro @dat_nil (And.intro @dat_cons (And.intro @iaddr_sl (And.intro @iaddr_own (And.intro @load_pb (And.intro @load_pe (And.intro @load_pd (And.intro @fa_pe (And.intro @fa_pd (And.intro @extr_tup (And.intro @nilc_pb (And.intro @nilc_pd (And.intro @vmap_nil (And.intro @vmap_cons (And.intro @mkf_nil (And.intro @mkf_cons (And.intro @bld_nil (And.intro @bld_cons (And.intro @bldC_v (And.intro @go_bld (And.intro @st_bld (And.intro @store_pb (And.intro @rowsOk_map (And.intro @app_own (And.intro @src_dat (And.intro @src_nil (And.intro @src_own (And.intro @map_app (And.intro @slcv_sl (And.intro @ssl_str (And.intro @optV_n (And.intro @optV_s (And.intro @optL_n (And.intro @optL_s (And.intro @asI_i (And.intro @bnd3_s (And.intro @str_add (And.intro @int_and (And.intro @int_or (And.intro @int_xor (And.intro @beq_tt (And.intro @beq_tf (And.intro @beq_ft (And.intro @beq_ff' (And.intro @and_ft (And.intro @ix_map (And.intro @rI_eq (And.intro @bytes_map (And.intro @r8_eq (And.intro @rB_eq (And.intro @rS_eq (And.intro @rL_eq (And.intro @lm_nil (And.intro @lm_cons (And.intro @kmap_nil (And.intro @kmap_cons (And.intro @bmap_nil (And.intro @bmap_cons (And.intro @cmap_nil (And.intro @cmap_cons (And.intro @d_no0 (And.intro @go_gd_no0 @avmap_0)))))))))))))))))))))))))))))))))))))))))))))))))))))))))))))))))))))))))))))))))))))))))))))))))))))))))))))))))))))))))))))))))))))))))))))))))))))))))))))))))))))))))))))))))))))))))))))))))))))))))))))))))))))))))))))))))))))))))))))))))))))))))))))))))))))))))))))))))))))))))))))))))))))))))))))))))))))))))))))))))))))))))))))))))))))))))))))))))))
theorem FCx_go {P : Program} (hm : P.follows .mixedOrders = true) {f : FuncId} {c : ACode} {ts : List RV} {nt : Nat} {xs : List XV} {R0 R1 : RowL} {r : D} {ps : List (Nat × Nat)} {σ : St} (he : entry P f = some (c.strip,ts,nt)) (hl : Nat.ble xs.length nt = true) (hlen : R1.length = R0.length) (hrf : r.flat = true) (hR1 : flatRow R1) (hσ : St.initX xs R0 = σ)
  (h : go P [.code c] (RetX ts r R1 ps) .normal (some σ)) : FCx P f xs R0 R1 r := FCx_at hm he (Nat.le_of_ble_eq_true hl) hlen hrf hR1 (go_start (hσ ▸ h))
theorem flatR_nil : flatRow [] := fun p hp => by simp at hp
theorem flatR_cons {α : Type} {row : α → List D} [FlatRow row] {sz : Nat} {xs : List α} {R : RowL} (h : flatRow R) : flatRow ((sz,List.map row xs) :: R) := fun p hp => by
 rcases List.mem_cons.1 hp with rfl | hp
 ·intro e he d hd
  obtain ⟨x,_,rfl⟩ := List.mem_map.1 he
  exact FlatRow.flat x d hd
 ·exact h p hp
theorem sameLen_nil : sameLen [] [] = true := rfl
theorem sameLen_cons {α β : Type} {row : α → List D} {row' : β → List D} {z : Nat} {xs : List α} {ys : List β} {R R' : RowL} (hl : ys.length = xs.length) (h : sameLen R R' = true) : sameLen ((z,List.map row xs) :: R) ((z,List.map row' ys) :: R') = true := by
 simp [sameLen,hl,h]
theorem instX_eq {env : List (Nat × AV)} {bx : List (Nat × List AC)} {rows : Rows} {d : Nat} {ids : List Nat} {R1 : RowL} {r : D} : St.instX ⟨env,bx,rows⟩ d ids R1 r = ⟨put env d (.v (.sc (.dat r))),bx,putX rows ids R1⟩ := rfl
theorem putX_cons {rs : Rows} {id : Nat} {ids : List Nat} {r : Nat × List (List D)} {R : RowL} : putX rs (id :: ids) (r :: R) = putX (put rs id r) ids R := rfl
theorem putX_nil {rs : Rows} : putX rs [] [] = rs := rfl
theorem av_z {N : List Nat} : AV.avoids N (.v (.sc .z)) = true := by simp [AV.avoids,AV.cells,V1.cells,AC.avoids,AC.uses]
theorem z_sl {P : Program} {k : List Fr} {Q : AExit → St → Prop} {σ : St} {N : List Nat} {d : Nat} {its : List DItem} : go P (.dops ((some N,none,.zsl d) :: its) :: k) Q .normal (some σ) = go P (.dops its :: k) Q .normal (some (σ.set d (.v (.sc .z)))) := by
 rw [go_dopN rfl]
 show go P _ Q .normal (bif (((σ.less N).set d (.v (.sc .z))).get d).avoids N then some (σ.set d (((σ.less N).set d (.v (.sc .z))).get d)) else none) = _
 rw [St.get_set_same,av_z]
 rfl
theorem go_zap {P : Program} {k : List Fr} {Q : AExit → St → Prop} {σ : St} {N : List Nat} {its : List DItem} {α : Type} {row : α → List D} {d sz b : Nat} [Row row sz] {x y : Opd} {xs : List α} (h1 : (σ.less N).val x = .v (.sc .z))
  (h2 : appSrc (σ.less N).rows ((σ.less N).val y) = some (List.map row xs)) (h3 : appB 0 xs.length b = true) (hf : σ.fresh d = true)
  (H : go P (.dops its :: k) Q .normal (some { (σ.set d (.v (.sc (.own (d * 64))))) with rows := put σ.rows (d * 64) (sz,List.map row xs) })) : go P (.dops ((some N,none,.zap d sz b x y) :: its) :: k) Q .normal (some σ) := by
 refine go_dmade (m := .row d sz (List.map row xs)) ?_ rfl (make_row hf) H
 have h3' := of_decide_eq_true h3
 rw [Nat.zero_add] at h3'
 have hz : zapV (σ.less N).rows d sz b (.v (.sc .z)) ((σ.less N).val y) = some (d,sz,List.map row xs) := by
  simp only [zapV,h2]
  rw [if_pos ⟨rowsOk_map,by simpa using h3'.1,by simpa using h3'.2⟩]
 simp only [St.made,h1,hz,Option.map_some]
theorem av_tup0 {N : List Nat} : AV.avoids N (.tup []) = true := rfl
theorem av_tup {N : List Nat} {x : V1} {l : List V1} : AV.avoids N (.tup (x :: l)) = ((AV.v x).avoids N && (AV.tup l).avoids N) := by simp [AV.avoids,AV.cells]
theorem mkif_d {t : TypeId} {d : D} : mkifV t (.v (.sc (.dat d))) = some (.v (.sc (.dat (.ifc t d)))) := rfl
theorem tass_i {t u : TypeId} {zc : AC} {d : D} : tassV t zc (.v (.sc (.dat (.ifc u d)))) = bif u == t then some (.tup [.sc (.dat d),.sc (.dat (.bool true))]) else some (.tup [.sc zc,.sc (.dat (.bool false))]) := rfl
theorem frzb_d {id : Nat} {ds : List D} {d : D} : AC.frzb id ds (.dat d) = .dat d := rfl
theorem frzb_n {id : Nat} {ds : List D} : AC.frzb id ds .nil = .nil := rfl
theorem frzb_u {id : Nat} {ds : List D} : AC.frzb id ds .undef = .undef := rfl
theorem frzb_o {id i : Nat} {ds : List D} : AC.frzb id ds (.own i) = .own i := rfl
theorem frzb_s {id i a b : Nat} {ds : List D} : AC.frzb id ds (.osub i a b) = .osub i a b := rfl
theorem frzb_e {id i a b : Nat} {ds : List D} : AC.frzb id ds (.pe i a b) = .pe i a b := rfl
theorem frzb_b {id i a : Nat} {ds : List D} : AC.frzb id ds (.pb i a) = bif i == id then .dat (.pd (ds.drop a)) else .pb i a := rfl
theorem ren_d {a b : Nat} {d : D} : AC.ren a b (.dat d) = .dat d := rfl
theorem ren_n {a b : Nat} : AC.ren a b .nil = .nil := rfl
theorem ren_u {a b : Nat} : AC.ren a b .undef = .undef := rfl
theorem ren_o {a b i : Nat} : AC.ren a b (.own i) = .own (bif i == a then b else i) := rfl
theorem ren_s {a b i x y : Nat} : AC.ren a b (.osub i x y) = .osub (bif i == a then b else i) x y := rfl
theorem ren_e {a b i x y : Nat} : AC.ren a b (.pe i x y) = .pe (bif i == a then b else i) x y := rfl
theorem ren_b {a b i x : Nat} : AC.ren a b (.pb i x) = .pb i x := rfl
theorem go_ren' {P : Program} {k : List Fr} {Q : AExit → St → Prop} {σ : St} {its : List AItem} {a b : Nat} {r : Nat × List (List D)} (h1 : σ.has b = false) (hf : find σ.rows a = some r) (H : go P (.ops its :: k) Q .normal (some { (σ.map (AC.ren a b)) with rows := put (erase σ.rows [a]) b r }))
  (h0 : (a / 1099511627776 == 0) = true := by rfl) (h2 : (b / 1099511627776 == 0) = true := by rfl) : go P (.ops ((none,.ren a b) :: its) :: k) Q .normal (some σ) := by
 rw [go_ren]
 simp only [St.step,h1,hf,h0,h2,Bool.and_self,Bool.not_true,Bool.or_self,Bool.false_eq_true,if_false]
 exact H
theorem mkif_a2 {t : TypeId} {a b : D} : mkifV t (.v (.ag [.dat a,.dat b])) = some (.v (.sc (.dat (.ifs t [a,b])))) := rfl
def FCq (P : Program) (f : FuncId) (ds : List DV) (rs : List R1) : Option D → Prop
 | none => FC P f ds rs
 | some d => FCp P f ds d
theorem FCq_go {P : Program} (hm : P.follows .mixedOrders = true) {f nt : Nat} {c : ACode} {ts : List RV} {xs : List DV} {rs : List R1} {pd : Option D} {σ : St} (he : entry P f = some (c.strip,ts,nt)) (hl : Nat.ble xs.length nt = true) (hσ : St.init xs = σ)
  (h : go P [.code c] (RetP ts rs pd) .normal (some σ)) : FCq P f xs rs pd := by
 cases pd with
 | none => exact FC_at hm he (Nat.le_of_ble_eq_true hl) (awp_mono c (fun e σ h => by cases e <;> first | exact h | exact h.elim) (hσ ▸ go_start h))
 | some d => exact FCp_at hm he (Nat.le_of_ble_eq_true hl) (hσ ▸ go_start h)
theorem FCq.none {P : Program} {f : FuncId} {ds : List DV} {rs : List R1} {pd : Option D} (h : FCq P f ds rs pd) (hp : pd = none) : FC P f ds rs := by subst hp; exact h
theorem FCq.some {P : Program} {f : FuncId} {ds : List DV} {rs : List R1} {pd : Option D} {d : D} (h : FCq P f ds rs pd) (hp : pd = some d) : FCp P f ds d := by subst hp; exact h
theorem mkif_p {t : TypeId} {id : Nat} : mkifV t (.v (.sc (.pb id 0))) = some (.v (.sc (.ipb t id))) := rfl
theorem kill_i {id i : Nat} {t : TypeId} : AC.kill id (.ipb t i) = .ipb t i := rfl
theorem frz_i {id i : Nat} {t : TypeId} {es : List (List D)} : AC.frz id es (.ipb t i) = .ipb t i := rfl
theorem go_frzb' {P : Program} {k : List Fr} {Q : AExit → St → Prop} {σ : St} {its : List AItem} {id : Nat} {cs : List AC} {ds : List D} (hf : find σ.bx id = some cs) (hd : toIs cs = some ds) (H : go P (.ops its :: k) Q .normal (some (({ σ with bx := erase σ.bx [id] } : St).map (AC.frzb id ds)))) (h0 : (id / 1099511627776 == 0) = true := by rfl) :
  go P (.ops ((none,.frzb id) :: its) :: k) Q .normal (some σ) := by
 rw [go_frzb]
 simp only [St.step,hf,hd,h0,Bool.not_true,Bool.false_eq_true,if_false]
 exact H
theorem geq_ag {g : Bool} {ks : List FK} {cs ds : List AC} : geqV g ks (.v (.ag cs)) (.v (.ag ds)) = (eqCs ks cs ds).map fun b => .v (.sc (.dat (.bool (bif g then !b else b)))) := rfl
theorem eqc_n : eqCs [] [] [] = some true := rfl
theorem eqc_i {k : IntKind} {x y : Int} {ks : List FK} {cs ds : List AC} : eqCs (.i :: ks) (.dat (.int k x) :: cs) (.dat (.int k y) :: ds) = (eqCs ks cs ds).map fun b => (x == y) && b := if_pos rfl
theorem eqc_b {x y : Bool} {ks : List FK} {cs ds : List AC} : eqCs (.b :: ks) (.dat (.bool x) :: cs) (.dat (.bool y) :: ds) = (eqCs ks cs ds).map fun b => (x == y) && b := rfl
theorem eqc_s {x y : List UInt8} {ks : List FK} {cs ds : List AC} : eqCs (.s :: ks) (.dat (.str x) :: cs) (.dat (.str y) :: ds) = (eqCs ks cs ds).map fun b => (x == y) && b := rfl
def rulesX := And.intro @av_z (And.intro @z_sl (And.intro @av_tup0 (And.intro @av_tup (And.intro @instX_eq (And.intro @putX_cons (And.intro @putX_nil (And.intro @go_mkif (And.intro @go_tass (And.intro @step_mkif (And.intro @step_tass (And.intro @d0_mkif (And.intro @dN_mkif (And.intro @dst_mkif (And.intro @d0_tass (And.intro @dN_tass (And.intro @dst_tass (And.intro @mkif_d (And.intro @tass_i (And.intro @frzb_d (And.intro @frzb_n (And.intro @frzb_u (And.intro @frzb_o (And.intro @frzb_s (And.intro @frzb_e (And.intro @frzb_b (And.intro @mkif_p (And.intro @kill_i (And.intro @frz_i (And.intro @ren_d (And.intro @ren_n (And.intro @ren_u (And.intro @ren_o (And.intro @ren_s (And.intro @ren_e (And.intro @ren_b (And.intro @go_pan (And.intro @go_cal (And.intro @go_pass_pan (And.intro @go_blk_pan (And.intro @mkif_a2 (And.intro @step_geq (And.intro @go_geq (And.intro @d0_geq (And.intro @dN_geq (And.intro @dst_geq (And.intro @geq_ag (And.intro @eqc_n (And.intro @eqc_i (And.intro @eqc_b @eqc_s)))))))))))))))))))))))))))))))))))))))))))))))))
end Go.Vi
