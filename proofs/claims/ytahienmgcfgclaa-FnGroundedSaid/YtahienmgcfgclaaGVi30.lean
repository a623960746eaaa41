/-
  The value level: steps whose side conditions are told, one by one; plain data and the rows that stand for them. No condition.
-/
import Derived.Test.YtahienmgcfgclaaGVi28
namespace Go.Vi
set_option linter.defProp false
set_option linter.unusedSimpArgs false
set_option linter.unusedVariables false
abbrev S (n : Nat) : Opd := .t n
abbrev K (n : Int) : Opd := .c (.v (.sc (.dat (.int .i64 n))))
abbrev K8 (n : Int) : Opd := .c (.v (.sc (.dat (.int .u8 n))))
abbrev KB (b : Bool) : Opd := .c (.v (.sc (.dat (.bool b))))
abbrev KS (s : List UInt8) : Opd := .c (.v (.sc (.dat (.str s))))
abbrev KN : Opd := .c (.v (.sc .nil))
abbrev aI (n : Int) : AC := .dat (.int .i64 n)
abbrev a8 (n : Int) : AC := .dat (.int .u8 n)
abbrev aB (b : Bool) : AC := .dat (.bool b)
abbrev aS (s : List UInt8) : AC := .dat (.str s)
abbrev aL (es : List (List D)) : AC := .dat (.sl es)
abbrev vc (c : AC) : AV := .v (.sc c)
abbrev va (cs : List AC) : AV := .v (.ag cs)
def rI (n : Int) : List D := [.int .i64 n]
def r8 (n : Int) : List D := [.int .u8 n]
def rB (b : Bool) : List D := [.bool b]
def rS (s : List UInt8) : List D := [.str s]
def rL {α : Type} (row : α → List D) (xs : List α) : List D := [.sl (xs.map row)]
class Row {α : Type} (row : α → List D) (sz : Nat) : Prop where
 len : ∀ x,(row x).length = sz
 pos : 0 < sz
instance : Row rI 1 := ⟨fun _ => rfl,Nat.one_pos⟩
instance : Row r8 1 := ⟨fun _ => rfl,Nat.one_pos⟩
instance : Row rB 1 := ⟨fun _ => rfl,Nat.one_pos⟩
instance : Row rS 1 := ⟨fun _ => rfl,Nat.one_pos⟩
instance {α : Type} (row : α → List D) : Row (rL row) 1 := ⟨fun _ => rfl,Nat.one_pos⟩
theorem C81 (n : Int) : rI n = [.int .i64 n] := rfl
def B7c (n : Int) : UInt8 := UInt8.ofNat n.toNat
theorem B3d : ∀ {xs : List Int},X0 (List.map r8 xs) = some (List.map B7c xs)
 | [] => rfl
 | n :: xs => by
  show (X0 (List.map r8 xs)).map _ = _
  rw [B3d]
  rfl
theorem E0o (n : Int) : r8 n = [.int .u8 n] := rfl
theorem D9x (b : Bool) : rB b = [.bool b] := rfl
theorem D8k (s : List UInt8) : rS s = [.str s] := rfl
theorem D81 {α : Type} (row : α → List D) (xs : List α) : rL row xs = [.sl (xs.map row)] := rfl
theorem B9a {α : Type} {row : α → List D} {sz : Nat} (h : ∀ x,(row x).length = sz) (xs : List α) : (xs.map row).all (fun d => d.length == sz) = true := by
 simp [List.all_map,Function.comp_def,h]
@[irreducible] def bigN : Nat := 1208925819614629174706176
def bnd (m h l : Int) (n : Nat) : Option (Nat × Nat) := if 0 ≤ l ∧ l ≤ h ∧ h ≤ m ∧ m ≤ n then some (l.toNat,h.toNat) else none
def mkS (l c : Int) (bytes : Nat) : Option Nat := if 0 ≤ l ∧ l ≤ c ∧ c * bytes ≤ 140737488355328 ∧ c ≤ 4611686018427387904 then some l.toNat else none
def E1 (n m bytes : Nat) : Bool := decide ((n + m) * bytes ≤ 140737488355328 ∧ n + m ≤ 4611686018427387904)
def A9y (n m : Nat) : Bool := decide (n + m ≤ 4611686018427387904)
theorem B12 {α β : Type} {f : α → β} {l : List α} {i : Int} : ix (l.map f) i = (ix l i).map f := by
 unfold ix
 split <;> simp
theorem Z7 {α : Type} {l : List α} {i : Int} {x : α} (h : ix l i = some x) : l[i.toNat]? = some x := by
 unfold ix at h
 split at h
 ·exact h
 ·cases h
theorem ob {α β : Type} {o : Option α} {f : α → Option β} {r : β} (h : o.bind f = some r) : ∃ a,o = some a ∧ f a = some r := Option.bind_eq_some_iff.1 h
class FlatRow {α : Type} (row : α → List D) : Prop where
 flat : ∀ x,∀ d ∈ row x,d.flat = true
instance : FlatRow rI := ⟨fun _ d h => by rw [List.mem_singleton.1 h]; rfl⟩
instance : FlatRow r8 := ⟨fun _ d h => by rw [List.mem_singleton.1 h]; rfl⟩
instance : FlatRow rB := ⟨fun _ d h => by rw [List.mem_singleton.1 h]; rfl⟩
instance : FlatRow rS := ⟨fun _ d h => by rw [List.mem_singleton.1 h]; rfl⟩
def C8p : List RC → Prop
 | [] => True
 | c :: cs => c.flat ∧ C8p cs
theorem B1t {rs : List R1} {cs : List RC} (h : rs.flatMap R1.cells = cs) (hf : C8p cs) : A0l rs := by
 subst h
 unfold A0l
 generalize rs.flatMap R1.cells = l at hf
 induction l with
 | nil => intro c hc; simp at hc
 | cons a l ih =>
  intro c hc
  rcases List.mem_cons.1 hc with rfl | hc
  ·exact hf.1
  ·exact ih hf.2 c hc
theorem B11 {α : Type} {row : α → List D} [FlatRow row] {sz : Nat} {xs : List α} : RC.flat (.o sz (List.map row xs)) := by
 intro r hr
 obtain ⟨x,_,rfl⟩ := List.mem_map.1 hr
 exact FlatRow.flat x
theorem B8u {α : Type} {row : α → List D} {z : α} {zs : List D} {n : Nat} (h : row z = zs) : List.replicate n zs = List.map row (List.replicate n z) := by rw [List.map_replicate,h]
theorem E3 {α : Type} {b : Bool} {x : Option α} {r : α} (h : (if b = true then x else none) = some r) : b = true ∧ x = some r := by
 cases b
 ·rw [if_neg Bool.false_ne_true] at h; cases h
 ·exact ⟨rfl,by simpa using h⟩
theorem A24 {α : Type} {b : Bool} {x : Option α} {r : α} (h : (if b = true then none else x) = some r) : b = false ∧ x = some r := by
 cases b
 ·exact ⟨rfl,by simpa using h⟩
 ·rw [if_pos rfl] at h; cases h
theorem A4 {α : Type} {b : Bool} {x y : α} (h : b = true) : (if b = true then x else y) = x := by rw [if_pos h]
theorem A3 {α : Type} {b : Bool} {x y : α} (h : b = false) : (if b = true then x else y) = y := by rw [if_neg (by rw [h]; exact Bool.false_ne_true)]
section
variable {P : Program} {k : List Fr} {Q : AExit → St → Prop} {σ : St} {its : List AItem} {ds : List DItem} {o : AOp} {d : Nat}
theorem B8 {c : ACode} (h : go P (.code c :: .code (.loop c) :: k) Q .normal (some σ)) : go P (.code (.loop c) :: k) Q .normal (some σ) := by
 intro X hX
 refine hX σ (A60 c (fun e σ' h => ?_) h)
 cases e with
 | normal => exact h X hX
 | exit id => exact h
 | ret => exact h
 | pan d => exact h
theorem B9 (hm : P.follows .mixedOrders = true) {f : FuncId} {c : ACode} {ts : List RV} {nt : Nat} {ds : List DV} {rs : List R1} {σ : St} (he : A9 P f = some (c.strip,ts,nt)) (hl : Nat.ble ds.length nt = true) (hσ : St.init ds = σ)
  (h : go P [.code c] (Ret ts rs) .normal (some σ)) : FC P f ds rs := D95 hm he (Nat.le_of_ble_eq_true hl) fun _ => A01 (hσ ▸ h)
theorem B0f {sz : Nat} {es : List (List D)} (hf : σ.fresh d = true) : σ.make (.row d sz es) = some { (σ.set d (.v (.sc (.own (d * 64))))) with rows := put σ.rows (d * 64) (sz,es) } := by simp [St.make,hf]
theorem B59 {cs : List AC} (hf : σ.fresh d = true) (hu : cs.all (fun c => !c.uses d) = true) : σ.make (.box d cs) = some { (σ.set d (.v (.sc (.pb d 0)))) with bx := put σ.bx d cs } := by simp only [St.make,hf,hu,Bool.and_self,if_true]
theorem B5d {m : Mk} (ho : o.isMade = true) (hm : σ.made o = some m) {σ' : St} (hs : σ.make m = some σ') (H : go P (.ops its :: k) Q .normal (some σ')) : go P (.ops ((none,o) :: its) :: k) Q .normal (some σ) := by
 have hc : o.isCall = false := by cases o <;> first | rfl | (simp [AOp.isMade] at ho; done)
 rw [I5 hc,D0x ho,hm]
 show go P (.ops its :: k) Q .normal (σ.make m)
 rw [hs]
 exact H
theorem B5 {X : Opd} {y : V1} (hX : σ.val X = .v y) (hf : σ.fresh d = true) (hu : y.cells.all (fun c => !c.uses d) = true) (H : go P (.ops its :: k) Q .normal (some { (σ.set d (.v (.sc (.pb d 0)))) with bx := put σ.bx d y.cells })) :
  go P (.ops ((none,.box d X) :: its) :: k) Q .normal (some σ) := B5d rfl (by simp only [St.made,hX]) (B59 hf hu) H
theorem D2 {cs : List AC} (hf : σ.fresh d = true) (hu : cs.all (fun c => !c.uses d) = true) (H : go P (.ops its :: k) Q .normal (some { (σ.set d (.v (.sc (.pb d 0)))) with bx := put σ.bx d cs })) :
  go P (.ops ((none,.alloc d cs) :: its) :: k) Q .normal (some σ) := B5d rfl rfl (B59 hf hu) H
theorem E8 {sz : Nat} {zs : List D} {len : Nat} {ps : List (Nat × Opd)} {es : List (List D)} (hm : σ.made (.bslice d sz zs len ps) = some (.row d sz es)) (hf : σ.fresh d = true)
  (H : go P (.ops its :: k) Q .normal (some { (σ.set d (.v (.sc (.own (d * 64))))) with rows := put σ.rows (d * 64) (sz,es) })) : go P (.ops ((none,.bslice d sz zs len ps) :: its) :: k) Q .normal (some σ) := B5d rfl hm (B0f hf) H
theorem C6y {L C : Opd} {l c : Int} {bytes n sz : Nat} {zs : List D} {es : List (List D)} (hl : asI (σ.val L) = some l) (hc : asI (σ.val C) = some c) (hb : mkS l c bytes = some n) (hz : zs.length = sz) (he : List.replicate n zs = es) :
  σ.made (.mksl d sz bytes zs L C) = some (.row d sz es) := by
 unfold mkS at hb
 split at hb
 ·rename_i h
  cases hb
  subst he
  simp only [St.made,hl,hc]
  rw [if_pos ⟨h.1,h.2.1,h.2.2.1,h.2.2.2,hz⟩]
 ·cases hb
theorem C29 {L C : Opd} {l c : Int} {bytes n sz : Nat} {zs : List D} {es : List (List D)} (hl : asI (σ.val L) = some l) (hc : asI (σ.val C) = some c) (hb : mkS l c bytes = some n) (hz : zs.length = sz) (he : List.replicate n zs = es) (hf : σ.fresh d = true)
  (H : go P (.ops its :: k) Q .normal (some { (σ.set d (.v (.sc (.own (d * 64))))) with rows := put σ.rows (d * 64) (sz,es) })) : go P (.ops ((none,.mksl d sz bytes zs L C) :: its) :: k) Q .normal (some σ) :=
 B5d rfl (C6y hl hc hb hz he) (B0f hf) H
theorem D5u {n : Nat} {N : List Nat} {m : Mk} (hm : (σ.less (n :: N)).made o = some m) (hv : D6g (n :: N) m = true) {σ' : St} (hs : σ.make m = some σ') (H : go P (.dops ds :: k) Q .normal (some σ')) :
  go P (.dops ((some (n :: N),none,o) :: ds) :: k) Q .normal (some σ) := C5k hm hv hs H
theorem A7q {α : Type} {env bx rows} {id sz i off n : Nat} {xs : List α} {row : α → List D} {x y : α} {yv : V1} {dd : List D} (hd : yv.toDs = some dd) (hf : A2 rows id = some (sz,List.map row xs))
  (hx : xs[i]? = some x) (hn : dd.length = n) (ho : Nat.ble (off + n) (row x).length = true) (hy : A6x (row x) off dd = row y) (H : go P k Q .normal (some ⟨env,bx,put rows id (sz,List.map row (xs.set i y))⟩)) :
  go P k Q .normal (St.storeV ⟨env,bx,rows⟩ n (.v (.sc (.pe id i off))) (.v yv)) := by
 have e : St.storeV ⟨env,bx,rows⟩ n (.v (.sc (.pe id i off))) (.v yv) = some ⟨env,bx,put rows id (sz,List.map row (xs.set i y))⟩ := by
  simp only [St.storeV,hf,List.getElem?_map,hx,Option.map_some,hd]
  rw [if_pos ⟨hn,Nat.le_of_ble_eq_true ho⟩,hy,List.map_set]
 rw [e]
 exact H
end
def A2m {α : Type} : Nat → List α → Option (List α)
 | 0,l => some l
 | _ + 1,[] => none
 | n + 1,_ :: l => A2m n l
def A4r {α : Type} : Nat → List α → Option (List α)
 | 0,_ => some []
 | _ + 1,[] => none
 | n + 1,c :: l => (A4r n l).map (c :: ·)
def A2o {α : Type} : List α → Nat → Bool
 | [],0 => true
 | _ :: l,n + 1 => A2o l n
 | _,_ => false
def U4 {α : Type} : List α → Nat → Bool
 | _,0 => true
 | _ :: l,n + 1 => U4 l n
 | [],_ + 1 => false
theorem A5k {α : Type} : ∀ (n : Nat) (l : List α),A2m n l = if n ≤ l.length then some (l.drop n) else none
 | 0,l => by simp [A2m]
 | n + 1,[] => by simp [A2m]
 | n + 1,c :: l => by simp [A2m,A5k n l]
theorem B6a {α : Type} : ∀ (n : Nat) (l : List α),A4r n l = if n ≤ l.length then some (l.take n) else none
 | 0,l => by simp [A4r]
 | n + 1,[] => by simp [A4r]
 | n + 1,c :: l => by simp only [A4r,B6a n l]; split <;> simp_all
theorem B0c {α : Type} : ∀ (l : List α) (n : Nat),A2o l n = decide (l.length = n)
 | [],0 => by simp [A2o]
 | [],n + 1 => by simp [A2o]
 | _ :: l,0 => by simp [A2o]
 | _ :: l,n + 1 => by simp [A2o,B0c l n]
theorem A5l {α : Type} : ∀ (l : List α) (n : Nat),U4 l n = decide (n ≤ l.length)
 | [],0 => by simp [U4]
 | [],n + 1 => by simp [U4]
 | _ :: l,0 => by simp [U4]
 | _ :: l,n + 1 => by simp [U4,A5l l n]
theorem D09 {α : Type} {l : List α} : A2m 0 l = some l := by cases l <;> rfl
theorem C9n {α : Type} {n : Nat} {c : α} {l : List α} : A2m (n + 1) (c :: l) = A2m n l := rfl
theorem C9b {α : Type} {l : List α} : A4r 0 l = some [] := by cases l <;> rfl
theorem D0o {α : Type} {n : Nat} {c : α} {l : List α} : A4r (n + 1) (c :: l) = (A4r n l).map (c :: ·) := rfl
theorem C9z {α : Type} : A2o ([] : List α) 0 = true := rfl
theorem C9v {α : Type} {n : Nat} {c : α} {l : List α} : A2o (c :: l) (n + 1) = A2o l n := rfl
theorem D01 {α : Type} {l : List α} : U4 l 0 = true := by cases l <;> rfl
theorem D14 {α : Type} {n : Nat} {c : α} {l : List α} : U4 (c :: l) (n + 1) = U4 l n := rfl
theorem D2q {cs : List AC} {off n : Nat} : T9 cs off true n = (A2m off cs).bind fun l => (A4r n l).map fun l => .v (.ag l) := by
 simp only [T9,cond_true,A5k,B6a]
 by_cases h : off ≤ cs.length
 ·rw [if_pos h]
  by_cases h2 : off + n ≤ cs.length
  ·rw [if_pos h2,Option.bind_some,if_pos (by simp; omega)]; rfl
  ·rw [if_neg h2,Option.bind_some,if_neg (by simp; omega)]; rfl
 ·rw [if_neg h,if_neg (by omega)]; rfl
theorem C7v {cs : List AC} : W2 cs 0 [] = cs := by simp [W2]
theorem C4n {c : AC} {cs ds : List AC} {n : Nat} : W2 (c :: cs) (n + 1) ds = c :: W2 cs n ds := by
 simp only [W2,List.take_succ_cons,List.cons_append]
 rw [show n + 1 + ds.length = (n + ds.length) + 1 by omega,List.drop_succ_cons]
theorem C3j {c d : AC} {cs ds : List AC} : W2 (c :: cs) 0 (d :: ds) = d :: W2 cs 0 ds := by simp [W2]
theorem A12 {α β : Type} {a : α} {f : α → Option β} : (some a).bind f = f a := rfl
theorem C04 {α β : Type} {f : α → Option β} : (none : Option α).bind f = none := rfl
theorem get_map {α β : Type} {f : α → β} {l : List α} {i : Nat} : (List.map f l)[i]? = (l[i]?).map f := List.getElem?_map
theorem C8n {α : Type} {a : α} {l : List α} : (a :: l)[0]? = some a := rfl
theorem C43 {α : Type} {a : α} {l : List α} {n : Nat} : (a :: l)[n + 1]? = l[n]? := by simp
theorem D0d : List.map AC.dat [] = [] := rfl
theorem C6l {d : D} {l : List D} : List.map AC.dat (d :: l) = .dat d :: List.map AC.dat l := rfl
section
variable {P : Program} {k : List Fr} {Q : AExit → St → Prop} {σ : St} {its : List AItem} {env : List (Nat × AV)} {bx : List (Nat × List AC)} {rows : Rows}
theorem C70 {α : Type} {rs : Rows} {sz : Nat} {xs : List α} {row : α → List D} [Row row sz] {kd : IntKind} {i : Int} : Z2 rs sz (.v (.sc (.dat (.sl (List.map row xs))))) (.v (.sc (.dat (.int kd i)))) = (ix xs i).map fun x => .v (.sc (.dat (.pd (row x)))) := by
 simp only [Z2,B12]
 cases ix xs i with
 | none => rfl
 | some x => simp [Row.len (row := row) (sz := sz),Row.pos row]
theorem C4h {rs : Rows} {sz id : Nat} {kd : IntKind} {i : Int} : Z2 rs sz (.v (.sc (.own id))) (.v (.sc (.dat (.int kd i)))) = (A2 rs id).bind fun p => (ix p.2 i).bind fun _ => bif p.1 == sz then some (.v (.sc (.pe id i.toNat 0))) else none := by
 simp only [Z2]
 cases A2 rs id with
 | none => rfl
 | some p =>
  obtain ⟨a,es⟩ := p
  simp only [A12]
  cases ix es i with
  | none => rfl
  | some x =>
   by_cases h : a = sz
   ·simp [h]
   ·have h' : (a == sz) = false := by simpa using h
    simp [h,h']
theorem C95 {g : Bool} {n id off : Nat} : U5 ⟨env,bx,rows⟩ g n (.v (.sc (.pb id off))) = (A2 bx id).bind fun cs => T9 cs off g n := by
 show (match A2 bx id with | some cs => _ | none => none) = _
 cases A2 bx id <;> rfl
theorem D1h {g : Bool} {n id i off : Nat} : U5 ⟨env,bx,rows⟩ g n (.v (.sc (.pe id i off))) = (A2 rows id).bind fun p => (p.2[i]?).bind fun d => T9 (List.map AC.dat d) off g n := by
 simp only [U5]
 cases A2 rows id with
 | none => rfl
 | some p =>
  simp only [A12]
  cases p.2[i]? <;> rfl
theorem C9u {g : Bool} {n : Nat} {cs : List D} : U5 σ g n (.v (.sc (.dat (.pd cs)))) = T9 (List.map AC.dat cs) 0 g n := rfl
theorem E0p {rs : Rows} {off id i o : Nat} : U1 rs off (.v (.sc (.pe id i o))) = (A2 rs id).map fun _ => .v (.sc (.pe id i (o + off))) := by
 simp only [U1]
 cases A2 rs id <;> rfl
theorem D6t {rs : Rows} {off : Nat} {cs : List D} : U1 rs off (.v (.sc (.dat (.pd cs)))) = (A2m off cs).map fun cs => .v (.sc (.dat (.pd cs))) := by
 simp only [U1,A5k]
 split <;> rfl
theorem C5y {l : List V1} {i : Nat} : A83 i (.tup l) = (l[i]?).map .v := rfl
theorem D2m {id off : Nat} : A4s (.v (.sc (.pb id off))) = some (.v (.sc (.pb id off))) := rfl
theorem D1o {cs : List D} : A4s (.v (.sc (.dat (.pd cs)))) = some (.v (.sc (.dat (.pd cs)))) := rfl
theorem C6q : List.map (St.val σ) [] = [] := rfl
theorem C38 {x : Opd} {l : List Opd} : List.map (St.val σ) (x :: l) = σ.val x :: List.map (St.val σ) l := rfl
theorem D0j {f : FuncId} : A5f f [] = some [] := rfl
theorem C7h {f : FuncId} {id : Nat} {r : List AV} : A5f f (.v (.sc (.pb id 0)) :: r) = (A5f f r).map (id :: ·) := rfl
def B9v (K : List AC → Option (List AC)) (off n : Nat) (cs : List AC) : AV → Option (List AC)
 | .v x => bif A2o x.cells n && U4 cs (off + n) then K (W2 cs off x.cells) else none
 | _ => none
def A7x (σ : St) : List (Nat × Nat × Opd) → List AC → Option (List AC)
 | [],cs => some cs
 | (off,n,x) :: r,cs => B9v (A7x σ r) off n cs (σ.val x)
theorem B21 : ∀ (ps : List (Nat × Nat × Opd)) (cs : List AC),A1y cs (ps.map fun p => (p.1,p.2.1,σ.val p.2.2)) = A7x σ ps cs
 | [],cs => rfl
 | (off,n,x) :: r,cs => by
  simp only [List.map_cons,A7x]
  generalize σ.val x = v
  cases v with
  | v y =>
   simp only [A1y,B9v,B0c,A5l]
   by_cases h1 : y.cells.length = n
   ·by_cases h2 : off + n ≤ cs.length
    ·subst h1
     simp only [h2,and_self,if_true,decide_true,Bool.and_self,cond_true]
     exact B21 r _
    ·simp [h1,h2]
   ·simp [h1]
  | _ => rfl
theorem D0f {cs : List AC} : A7x σ [] cs = some cs := rfl
theorem C54 {off n : Nat} {x : Opd} {r : List (Nat × Nat × Opd)} {cs : List AC} : A7x σ ((off,n,x) :: r) cs = B9v (A7x σ r) off n cs (σ.val x) := rfl
theorem D23 {K : List AC → Option (List AC)} {off n : Nat} {cs : List AC} {x : V1} : B9v K off n cs (.v x) = bif A2o x.cells n && U4 cs (off + n) then K (W2 cs off x.cells) else none := rfl
theorem D47 {d zs ps} : go P (.ops ((none,.build d zs ps) :: its) :: k) Q .normal (some σ) = go P (.ops its :: k) Q .normal (F1 σ d ((A7x σ ps zs).map fun cs => .v (.ag cs))) := by rw [C5p,B21]
theorem D5x {d zs ps} : σ.step (.build d zs ps) = F1 σ d ((A7x σ ps zs).map fun cs => .v (.ag cs)) := by rw [B1d,B21]
theorem C6o {n id off : Nat} {y : V1} : St.storeV ⟨env,bx,rows⟩ n (.v (.sc (.pb id off))) (.v y) = (A2 bx id).bind fun cs => bif A2o y.cells n && U4 cs (off + n) then some ⟨env,put bx id (W2 cs off y.cells),rows⟩ else none := by
 simp only [St.storeV,B0c,A5l]
 cases A2 bx id with
 | none => rfl
 | some cs =>
  simp only [A12]
  by_cases h1 : y.cells.length = n
  ·by_cases h2 : off + n ≤ cs.length
   ·simp [h1,h2]
   ·simp [h1,h2]
  ·simp [h1]
def B06 (sz : Nat) (es : List (List D)) : Bool := es.all fun r => r.length == sz
theorem C1q {α : Type} {sz : Nat} {row : α → List D} [Row row sz] {xs : List α} : B06 sz (List.map row xs) = true := B9a (Row.len (row := row)) xs
theorem D04 {d sz bytes id : Nat} {y : AV} : St.appV ⟨env,bx,rows⟩ d sz bytes (.v (.sc (.own id))) y = bif id / 1099511627776 == 0 then ((A2 rows id).bind fun p => (appSrc rows y).bind fun es' =>
  bif (p.1 == sz) && (B06 sz es' && E1 p.2.length es'.length bytes) then some ⟨put (env.map fun p => (p.1,p.2.map (AC.kill id))) d (.v (.sc (.own id))),bx.map fun p => (p.1,p.2.map (AC.kill id)),put rows id (sz,p.2 ++ es')⟩ else none) else none := by
 simp only [St.appV]
 by_cases h0 : id / 1099511627776 = 0
 rotate_left
 ·rw [if_neg h0,show (id / 1099511627776 == 0) = false by simpa using h0]
  rfl
 rw [if_pos h0,show (id / 1099511627776 == 0) = true by simpa using h0,cond_true]
 cases A2 rows id with
 | none => rfl
 | some p =>
  obtain ⟨a,es⟩ := p
  simp only [A12]
  cases appSrc rows y with
  | none => rfl
  | some es' =>
   simp only [A12]
   by_cases h1 : a = sz
   ·by_cases h2 : B06 sz es' = true
    ·by_cases h3 : E1 es.length es'.length bytes = true
     ·have h3' := of_decide_eq_true h3
      rw [if_pos ⟨h1,h2,h3'.1,h3'.2⟩]
      simp only [h1,beq_self_eq_true,h2,h3,Bool.and_self,cond_true]
      rfl
     ·have h3' : E1 es.length es'.length bytes = false := by simpa using h3
      rw [if_neg (fun h => h3 (decide_eq_true ⟨h.2.2.1,h.2.2.2⟩))]
      simp [h3']
    ·have h2' : B06 sz es' = false := by simpa using h2
     rw [if_neg (fun h => h2 h.2.1)]
     simp [h2']
   ·have h1' : (a == sz) = false := by simpa using h1
    rw [if_neg (fun h => h1 h.1)]
    simp [h1']
theorem D11 {rs : Rows} {es : List (List D)} : appSrc rs (.v (.sc (.dat (.sl es)))) = some es := rfl
theorem D1u {rs : Rows} : appSrc rs (.v (.sc .nil)) = some [] := rfl
theorem C9m {rs : Rows} {id : Nat} : appSrc rs (.v (.sc (.own id))) = (A2 rs id).map fun p => p.2 := by
 simp only [appSrc,toD0]
 cases A2 rs id <;> rfl
theorem D1w {α : Type} {f : α → List D} {a b : List α} : List.map f a ++ List.map f b = List.map f (a ++ b) := List.map_append.symm
def A61 (σ : St) (n : Nat) : Option Opd → Option Int
 | none => some n
 | some x => asI (σ.val x)
def B2h (n : Nat) : Option Int → Option Int → Option Int → Option (Nat × Nat)
 | some m,some h,some l => bnd m h l n
 | _,_,_ => none
theorem B9d {lo hi mx : Option Opd} {n : Nat} : A5c σ lo hi mx n = B2h n (A61 σ n mx) (A61 σ n hi) (match lo with | none => some 0 | some x => asI (σ.val x)) := by
 cases mx <;> cases hi <;> cases lo <;> (simp only [A5c,B2h,A61]; first | rfl | (split <;> simp_all [B2h,bnd]))
def B6q (σ : St) : Option Opd → Option Int
 | none => some 0
 | some x => asI (σ.val x)
theorem C9f {α : Type} {sz : Nat} {lo hi mx : Option Opd} {xs : List α} {row : α → List D} [Row row sz] : A8v σ sz (.v (.sc (.dat (.sl (List.map row xs))))) lo hi mx = (B2h xs.length (A61 σ xs.length mx) (A61 σ xs.length hi) (B6q σ lo)).map fun p => .v (.sc (.dat (.sl (List.map row ((xs.drop p.1).take (p.2 - p.1)))))) := by
 have h : (List.map row xs).all (fun d => d.length == sz) = true := B9a (Row.len (row := row)) xs
 simp only [A8v,h,Row.pos row (sz := sz),decide_true,Bool.and_self,if_true,List.length_map,B9d]
 cases lo <;> simp [B6q,List.map_drop,List.map_take]
theorem D0q {lo hi : Option Opd} {s : List UInt8} : A5t σ (.v (.sc (.dat (.str s)))) lo hi = (B2h s.length (A61 σ s.length none) (A61 σ s.length hi) (B6q σ lo)).map fun p => .v (.sc (.dat (.str ((s.drop p.1).take (p.2 - p.1))))) := by
 simp only [A5t,B9d]
 cases lo <;> rfl
theorem D3l {n : Nat} : A61 σ n none = some (n : Int) := rfl
theorem D5z {n : Nat} {x : Opd} : A61 σ n (some x) = asI (σ.val x) := rfl
theorem D25 : B6q σ none = some 0 := rfl
theorem D3t {x : Opd} : B6q σ (some x) = asI (σ.val x) := rfl
theorem D7j {kd : IntKind} {i : Int} : asI (.v (.sc (.dat (.int kd i)))) = some i := rfl
theorem D4r {n : Nat} {m h l : Int} : B2h n (some m) (some h) (some l) = bnd m h l n := rfl
theorem D05 {x y : List UInt8} : A8k .add x y = bif A9y x.length y.length then some (.str (x ++ y)) else none := by
 simp only [A8k,A9y]
 by_cases h : x.length + y.length ≤ 4611686018427387904
 ·simp [h]
 ·simp [h]
theorem D2k {k : IntKind} {x y : Int} : L3 .and k x y = some (.int k (A0k .and k x y)) := rfl
theorem D5c {k : IntKind} {x y : Int} : L3 .or k x y = some (.int k (A0k .or k x y)) := rfl
theorem D1q {k : IntKind} {x y : Int} : L3 .xor k x y = some (.int k (A0k .xor k x y)) := rfl
theorem D3n : (true == true) = true := rfl
theorem D4t : (true == false) = false := rfl
theorem D6d : (false == true) = false := rfl
theorem D1x : (false == false) = true := rfl
theorem D58 {b : Bool} : (false && b) = false := rfl
end
def C8u {α : Type} (k : Nat) : Option α → List (Nat × α) → List (Nat × α)
 | some v,r => (k,v) :: r
 | none,r => r
theorem C2z {α : Type} {l : List (Nat × α)} : Y4 l [] = [] := rfl
theorem C2i {α : Type} {l : List (Nat × α)} {k : Nat} {ks : List Nat} : Y4 l (k :: ks) = C8u k (A2 l k) (Y4 l ks) := by
 show (match A2 l k with | some v => _ | none => _) = _
 cases A2 l k <;> rfl
theorem B95 {α : Type} {k : Nat} {v : α} {r : List (Nat × α)} : C8u k (some v) r = (k,v) :: r := rfl
theorem D2i {env bx rows ks bs rs} : (St.mk env bx rows).kept ks bs rs = ⟨Y4 env ks,Y4 bx bs,Y4 rows rs⟩ := rfl
theorem C9h {P : Program} {k : List Fr} {Q : AExit → St → Prop} {σ : St} {its : List AItem} {ks bs rs : List Nat} : go P (.ops ((none,.keep ks bs rs) :: its) :: k) Q .normal (some σ) = go P (.ops its :: k) Q .normal (some (σ.kept ks bs rs)) := I5 rfl
theorem D4p {b : Bool} {x y : AV} : A9e (.v (.sc (.dat (.bool b)))) x y = some (bif b then x else y) := rfl
theorem D67 {g x y : Bool} : B2b g (.v (.sc (.dat (.bool x)))) (.v (.sc (.dat (.bool y)))) = some (.v (.sc (.dat (.bool (bif g then !(x == y) else x == y))))) := rfl
theorem E2l {m : Bool} {k : IntKind} {x y : Int} : mmV m (.v (.sc (.dat (.int k x)))) (.v (.sc (.dat (.int k y)))) = some (.v (.sc (.dat (.int k (bif m then (if x < y then y else x) else (if y < x then y else x)))))) := by simp [mmV]
theorem D5j {k : IntKind} {x : Int} : unV .neg (.v (.sc (.dat (.int k x)))) = some (.v (.sc (.dat (.int k (k.wrap (0 - x)))))) := rfl
theorem D70 {rs : Rows} {off id o : Nat} : U1 rs off (.v (.sc (.pb id o))) = some (.v (.sc (.pb id (o + off)))) := rfl
theorem D1e {rs : Rows} {id : Nat} : A5b rs (.v (.sc (.own id))) = (A2 rs id).map fun p => .v (.sc (.dat (.int .i64 p.2.length))) := by
 show (match A2 rs id with | some (_,es) => _ | none => _) = _
 cases A2 rs id <;> rfl
theorem C47 {k : Nat} : A1u k [] = [] := rfl
theorem C3h {k : Nat} {d : DV} {ds : List DV} : A1u k (d :: ds) = (k,d.av) :: A1u (k + 1) ds := rfl
theorem D2v {ds : List DV} : St.init ds = ⟨A1u 0 ds,[],[]⟩ := rfl
theorem E0b {d : D} : DV.av (.sc d) = .v (.sc (.dat d)) := rfl
theorem E0w {ds : List D} : DV.av (.ag ds) = .v (.ag (ds.map .dat)) := rfl
theorem D3y {f : AC → AC} : List.map (V1.map f) [] = [] := rfl
theorem D2x {f : AC → AC} {x : V1} {l : List V1} : List.map (V1.map f) (x :: l) = x.map f :: List.map (V1.map f) l := rfl
theorem C5h {f : AC → AC} : List.map (fun p : Nat × AV => (p.1,p.2.map f)) [] = [] := rfl
theorem C4j {f : AC → AC} {k : Nat} {v : AV} {l : List (Nat × AV)} : List.map (fun p : Nat × AV => (p.1,p.2.map f)) ((k,v) :: l) = (k,v.map f) :: List.map (fun p : Nat × AV => (p.1,p.2.map f)) l := rfl
theorem C5x {f : AC → AC} : List.map (fun p : Nat × List AC => (p.1,p.2.map f)) [] = [] := rfl
theorem C22 {f : AC → AC} {k : Nat} {v : List AC} {l : List (Nat × List AC)} : List.map (fun p : Nat × List AC => (p.1,p.2.map f)) ((k,v) :: l) = (k,v.map f) :: List.map (fun p : Nat × List AC => (p.1,p.2.map f)) l := rfl
theorem C75 {f : AC → AC} : List.map f ([] : List AC) = [] := rfl
theorem C4o {f : AC → AC} {c : AC} {l : List AC} : List.map f (c :: l) = f c :: List.map f l := rfl
theorem C51 {α β : Type} {f : α → β} {l : List α} : (List.map f l).length = l.length := List.length_map ..
theorem C4z {c : AC} : V1.cells (.sc c) = [c] := rfl
theorem C2y {cs : List AC} : V1.cells (.ag cs) = cs := rfl
theorem D9p {f : AC → AC} {env bx rows} : (St.mk env bx rows).map f = ⟨env.map fun p => (p.1,p.2.map f),bx.map fun p => (p.1,p.2.map f),rows⟩ := rfl
theorem C49 {f : AC → AC} {c : AC} : AV.map f (.v (.sc c)) = .v (.sc (f c)) := rfl
theorem C6n {f : AC → AC} {cs : List AC} : AV.map f (.v (.ag cs)) = .v (.ag (cs.map f)) := rfl
theorem D1a {f : AC → AC} : AV.map f .undef = .undef := rfl
theorem D12 {f : AC → AC} : AV.map f .no = .no := rfl
theorem D0w {f : AC → AC} {l : List V1} : AV.map f (.tup l) = .tup (l.map (V1.map f)) := rfl
theorem C60 {f : AC → AC} {c : AC} : V1.map f (.sc c) = .sc (f c) := rfl
theorem C6w {f : AC → AC} {cs : List AC} : V1.map f (.ag cs) = .ag (cs.map f) := rfl
theorem D44 {id : Nat} {d : D} : AC.kill id (.dat d) = .dat d := rfl
theorem D52 {id : Nat} : AC.kill id .nil = .nil := rfl
theorem D31 {id : Nat} : AC.kill id .undef = .undef := rfl
theorem D57 {id i : Nat} : AC.kill id (.own i) = bif i == id then .undef else .own i := rfl
theorem D4m {id i a b : Nat} : AC.kill id (.osub i a b) = bif i == id then .undef else .osub i a b := rfl
theorem D3x {id i a b : Nat} : AC.kill id (.pe i a b) = bif i == id then .undef else .pe i a b := rfl
theorem D6l {id i a : Nat} : AC.kill id (.pb i a) = .pb i a := rfl
theorem D3e {id f : Nat} {is : List Nat} : AC.kill id (.clo f is) = .clo f is := rfl
theorem E0y {id : Nat} {es : List (List D)} {d : D} : AC.frz id es (.dat d) = .dat d := rfl
theorem D9e {id : Nat} {es : List (List D)} : AC.frz id es .nil = .nil := rfl
theorem D6q {id : Nat} {es : List (List D)} : AC.frz id es .undef = .undef := rfl
theorem D7u {id i : Nat} {es : List (List D)} : AC.frz id es (.own i) = bif i == id then .dat (.sl es) else .own i := rfl
theorem D7n {id i a b : Nat} {es : List (List D)} : AC.frz id es (.osub i a b) = bif i == id then .undef else .osub i a b := rfl
theorem D72 {id i a b : Nat} {es : List (List D)} : AC.frz id es (.pe i a b) = bif i == id then .undef else .pe i a b := rfl
theorem D97 {id i a : Nat} {es : List (List D)} : AC.frz id es (.pb i a) = .pb i a := rfl
theorem D7d {id f : Nat} {es : List (List D)} {is : List Nat} : AC.frz id es (.clo f is) = .clo f is := rfl
theorem U3 {P : Program} {k : List Fr} {Q : AExit → St → Prop} {σ : St} {its : List AItem} {id sz : Nat} {es : List (List D)} (hf : A2 σ.rows id = some (sz,es)) (H : go P (.ops its :: k) Q .normal (some { (σ.map (AC.frz id es)) with rows := erase σ.rows [id] })) (h0 : (id / 1099511627776 == 0) = true := by rfl) :
  go P (.ops ((none,.frz id) :: its) :: k) Q .normal (some σ) := by
 rw [D36]
 simp only [St.step,hf,h0,Bool.not_true,Bool.false_eq_true,if_false]
 exact H
theorem A42 {P : Program} {k : List Fr} {Q : AExit → St → Prop} {σ : St} {its : List AItem} {b j id sz : Nat} {cs cs' : List AC} (h1 : σ.has id = false) (h2 : A2 σ.bx b = some cs) (h3 : cs[j]? = some .nil) (h4 : cs.set j (.own id) = cs')
  (H : go P (.ops its :: k) Q .normal (some { σ with bx := put σ.bx b cs',rows := put σ.rows id (sz,[]) })) (h0 : (id / 1099511627776 == 0) = true := by rfl) : go P (.ops ((none,.ownb b j id sz) :: its) :: k) Q .normal (some σ) := by
 rw [D18]
 subst h4
 simp only [St.step,h1,h2,h3,h0,Bool.not_true,Bool.or_self,Bool.false_eq_true,if_false]
 exact H
theorem C4v {α : Type} {ks : List Nat} : erase ([] : List (Nat × α)) ks = [] := rfl
theorem C3t {α : Type} {k n : Nat} {v : α} {r : List (Nat × α)} : erase ((k,v) :: r) [n] = bif k == n then erase r [n] else (k,v) :: erase r [n] := by
 by_cases h : k = n
 ·simp [erase,h]
 ·have h' : (k == n) = false := by simpa using h
  simp [erase,h,h']
theorem C9l {ts : List RV} {rs : List R1} {σ : St} : Ret ts rs .ret σ = (OutVs σ ts rs ∧ A2d (W7 σ ts rs) = true) := rfl
theorem C74 {ts : List RV} {rs : List R1} {σ : St} : Ret ts rs .normal σ = (OutVs σ ts rs ∧ A2d (W7 σ ts rs) = true) := rfl
theorem C12 {σ : St} {t : RV} {ts : List RV} {r : R1} {rs : List R1} : OutVs σ (t :: ts) (r :: rs) = (C2b σ.rows (A35 σ t) r ∧ OutVs σ ts rs) := rfl
theorem B6c {σ : St} {t : RV} {ts : List RV} {r : R1} {rs : List R1} : W7 σ (t :: ts) (r :: rs) = B6p (A35 σ t) r ++ W7 σ ts rs := rfl
theorem C7g {σ : St} {a n : Nat} {g : Bool} : A35 σ (.c a g n) = (U5 σ g n (σ.get a)).getD .undef := rfl
def T8 := And.intro @C9l (And.intro @C74 (And.intro @C12 (And.intro @B6c @C7g)))
set_option maxRecDepth 4000 in
def D5y := And.intro @C94 (And.intro @D4c (And.intro @D0n (And.intro @D4b (And.intro @D5r (And.intro @D86 (And.intro @D6a (And.intro @C8i (And.intro @D2f (And.intro @D5f (And.intro @D15 (And.intro @C7u (And.intro @C7s (And.intro @B6z (And.intro @B8l (And.intro @D3d (And.intro @C02 (And.intro @C0c (And.intro @B8f (And.intro @C24 (And.intro @C4g (And.intro @C31 (And.intro @C4x (And.intro @C4y (And.intro @C26 (And.intro @C8m (And.intro @C4c (And.intro @C9k (And.intro @C79 (And.intro @D9u (And.intro @D7p (And.intro @D5p (And.intro @D5n (And.intro @getD_some (And.intro @C2v (And.intro @map_some (And.intro @map_none (And.intro @C5b (And.intro @D4l (And.intro @C5n (And.intro @C3i (And.intro @D2w (And.intro @C7b (And.intro @C90 (And.intro @D0a (And.intro @D02 (And.intro @D0b (And.intro @D1j (And.intro @D0h (And.intro @D1v (And.intro @D0s (And.intro @C88 (And.intro @C9g (And.intro @C92 (And.intro @D2e (And.intro @D0r (And.intro @D2g (And.intro @D17 (And.intro @D3c (And.intro @D0m (And.intro @D3v (And.intro @C6u (And.intro @D1f (And.intro @D66 (And.intro @D9y (And.intro @E0s (And.intro @C6s (And.intro @C93 (And.intro @D2h (And.intro @D6e (And.intro @D3r (And.intro @D9q (And.intro @D1k (And.intro @D5s (And.intro @D0l (And.intro @C46 (And.intro @C72 (And.intro @C5z (And.intro @D6i (And.intro @C9s (And.intro @D6c (And.intro @C6e (And.intro @C9x (And.intro @D69 (And.intro @D5v (And.intro @C7y (And.intro @D4h (And.intro @B8i (And.intro @D1d (And.intro @B8k (And.intro @B74 (And.intro @B6u (And.intro @B4f (And.intro @C52 (And.intro @C77 (And.intro @D59 (And.intro @D54 (And.intro @D1r (And.intro @D1z (And.intro @B4o (And.intro @B2r (And.intro @B7x (And.intro @B78 (And.intro @B7y (And.intro @C7x (And.intro @C6c (And.intro @B4r (And.intro @B70 (And.intro @B72 (And.intro @C0l (And.intro @B7z (And.intro @D06 (And.intro @C7z (And.intro @C8c (And.intro @C63 (And.intro @D7k (And.intro @C9o (And.intro @C5j (And.intro @D2c (And.intro @C9i (And.intro @D4u (And.intro @D22 (And.intro @E1p (And.intro @C86 (And.intro @D27 (And.intro @D0e (And.intro @C7q (And.intro @C64 (And.intro @C7i (And.intro @C7w (And.intro @D48 (And.intro @C9p (And.intro @D4j (And.intro @C5a (And.intro @C9e (And.intro @D6r (And.intro @D3i (And.intro @D29 (And.intro @C5q (And.intro @C20 (And.intro @D0y (And.intro @D98 (And.intro @D2p (And.intro @C6p (And.intro @C9q (And.intro @D2u (And.intro @D5h (And.intro @D4g (And.intro @E0a (And.intro @C87 (And.intro @D32 (And.intro @D1i (And.intro @C6m (And.intro @C53 (And.intro @C7r (And.intro @C62 (And.intro @D5o (And.intro @C9a (And.intro @D4n (And.intro @C6z (And.intro @C9y (And.intro @D9r (And.intro @D3z (And.intro @C7j (And.intro @C66 (And.intro @D7c (And.intro @E1f (And.intro @E0x (And.intro @D19 (And.intro @C7d (And.intro @C4u (And.intro @C5e (And.intro @D07 (And.intro @D1m (And.intro @C4i (And.intro @C6i (And.intro @D3w (And.intro @D4d (And.intro @D4x (And.intro @E01 (And.intro @D7e (And.intro @D3j (And.intro @E0e (And.intro @C0e (And.intro @C4q (And.intro @D6f (And.intro @D5k (And.intro @D5w (And.intro @D4a (And.intro @C5v (And.intro @C3e (And.intro @C6v (And.intro @C61 (And.intro @D1l (And.intro @D2n (And.intro @D6h (And.intro @C6r (And.intro @D03 (And.intro @C5u (And.intro @C3y (And.intro @C23 (And.intro @C4d (And.intro @C2r (And.intro @D0t (And.intro @C6d (And.intro @D10 (And.intro @C41 (And.intro @C56 (And.intro @D3g (And.intro @C97 (And.intro @D0u (And.intro @C25 (And.intro @C0q (And.intro @C57 (And.intro @C5l (And.intro @C2u (And.intro @B85 (And.intro @B3k (And.intro @B29 (And.intro @B3w (And.intro @B54 (And.intro @B66 (And.intro @B8x (And.intro @B28 (And.intro @B7n (And.intro @B3a (And.intro @B0s (And.intro @B00 (And.intro @B08 (And.intro @B7t (And.intro @B4b (And.intro @B6f (And.intro @B1o (And.intro @B3l (And.intro @B8y (And.intro @B6y (And.intro @C2z (And.intro @C2i (And.intro @B95 (And.intro @D2i (And.intro @C9h (And.intro @D4p (And.intro @D67 (And.intro @E2l (And.intro @D5j (And.intro @D70 (And.intro @D1e (And.intro @C47 (And.intro @C3h (And.intro @D2v (And.intro @E0b (And.intro @E0w (And.intro @C51 (And.intro @C4z (And.intro @C2y (And.intro @D9p (And.intro @C49 (And.intro @C6n (And.intro @D1a (And.intro @D0w (And.intro @C60 (And.intro @C6w (And.intro @D44 (And.intro @D52 (And.intro @D31 (And.intro @D57 (And.intro @D4m (And.intro @D3x (And.intro @D6l (And.intro @D3e (And.intro @E0y (And.intro @D9e (And.intro @D6q (And.intro @D7u (And.intro @D7n (And.intro @D72 (And.intro @D97 (And.intro @D7d (And.intro @C4v (And.intro @C3t (And.intro @D09 (And.intro @C9n (And.intro @C9b (And.intro @D0o (And.intro @C9z (And.intro @C9v (And.intro @D01 (And.intro @D14 (And.intro @D2q (And.intro @C7v (And.intro @C4n (And.intro @C3j (And.intro @A12 (And.intro @C04 (And.intro @get_map (And.intro @C8n (And.intro @C43 (And.intro @D0d (And.intro @C6l (And.intro @C70 (And.intro @C4h (And.intro @C95 (And.intro @D1h (And.intro @C9u (And.intro @E0p (And.intro @D6t (And.intro @C5y (And.intro @D2m (And.intro @D1o (And.intro @C6q (And.intro @C38 (And.intro @D0j (And.intro @C7h (And.intro @D0f (And.intro @C54 (And.intro @D23 (And.intro @D47 (And.intro @D5x (And.intro @C6o (And.intro @C1q (And.intro @D04 (And.intro @D11 (And.intro @D1u (And.intro @C9m (And.intro @D1w (And.intro @C9f (And.intro @D0q (And.intro @D3l (And.intro @D5z (And.intro @D25 (And.intro @D3t (And.intro @D7j (And.intro @D4r (And.intro @D05 (And.intro @D2k (And.intro @D5c (And.intro @D1q (And.intro @D3n (And.intro @D4t (And.intro @D6d (And.intro @D1x (And.intro @D58 (And.intro @B12 (And.intro @C81 (And.intro @B3d (And.intro @E0o (And.intro @D9x (And.intro @D8k (And.intro @D81 (And.intro @D3y (And.intro @D2x (And.intro @C5h (And.intro @C4j (And.intro @C5x (And.intro @C22 (And.intro @C75 (And.intro @C4o (And.intro @D7r (And.intro @C3r @D12))))))))))))))))))))))))))))))))))))))))))))))))))))))))))))))))))))))))))))))))))))))))))))))))))))))))))))))))))))))))))))))))))))))))))))))))))))))))))))))))))))))))))))))))))))))))))))))))))))))))))))))))))))))))))))))))))))))))))))))))))))))))))))))))))))))))))))))))))))))))))))))))))))))))))))))))))))))))))))))))))))))))))))))))))))))))))))))))))))))
theorem C8f {env : List (Nat × AV)} {bx : List (Nat × List AC)} {rows : Rows} {d : Nat} {ids : List Nat} {R1 : RowL} {r : D} : St.instX ⟨env,bx,rows⟩ d ids R1 r = ⟨put env d (.v (.sc (.dat r))),bx,A18 rows ids R1⟩ := rfl
theorem C4m {rs : Rows} {id : Nat} {ids : List Nat} {r : Nat × List (List D)} {R : RowL} : A18 rs (id :: ids) (r :: R) = A18 (put rs id r) ids R := rfl
theorem C45 {rs : Rows} : A18 rs [] [] = rs := rfl
theorem D30 {N : List Nat} : AV.avoids N (.v (.sc .z)) = true := by simp [AV.avoids,AV.cells,V1.cells,AC.avoids,AC.uses]
theorem E1y {P : Program} {k : List Fr} {Q : AExit → St → Prop} {σ : St} {N : List Nat} {d : Nat} {its : List DItem} : go P (.dops ((some N,none,.zsl d) :: its) :: k) Q .normal (some σ) = go P (.dops its :: k) Q .normal (some (σ.set d (.v (.sc .z)))) := by
 rw [G6 rfl]
 show go P _ Q .normal (bif (((σ.less N).set d (.v (.sc .z))).get d).avoids N then some (σ.set d (((σ.less N).set d (.v (.sc .z))).get d)) else none) = _
 rw [St.get_set_same,D30]
 rfl
theorem D2j {N : List Nat} : AV.avoids N (.tup []) = true := rfl
theorem D4v {N : List Nat} {x : V1} {l : List V1} : AV.avoids N (.tup (x :: l)) = ((AV.v x).avoids N && (AV.tup l).avoids N) := by simp [AV.avoids,AV.cells]
theorem D5m {t : TypeId} {d : D} : A5q t (.v (.sc (.dat d))) = some (.v (.sc (.dat (.ifc t d)))) := rfl
theorem D5t {t u : TypeId} {zc : AC} {d : D} : A86 t zc (.v (.sc (.dat (.ifc u d)))) = bif u == t then some (.tup [.sc (.dat d),.sc (.dat (.bool true))]) else some (.tup [.sc zc,.sc (.dat (.bool false))]) := rfl
theorem D3o {id : Nat} {ds : List D} {d : D} : AC.frzb id ds (.dat d) = .dat d := rfl
theorem D4z {id : Nat} {ds : List D} : AC.frzb id ds .nil = .nil := rfl
theorem D45 {id : Nat} {ds : List D} : AC.frzb id ds .undef = .undef := rfl
theorem D5b {id i : Nat} {ds : List D} : AC.frzb id ds (.own i) = .own i := rfl
theorem D4y {id i a b : Nat} {ds : List D} : AC.frzb id ds (.osub i a b) = .osub i a b := rfl
theorem D6b {id i a b : Nat} {ds : List D} : AC.frzb id ds (.pe i a b) = .pe i a b := rfl
theorem D4k {id i a : Nat} {ds : List D} : AC.frzb id ds (.pb i a) = bif i == id then .dat (.pd (ds.drop a)) else .pb i a := rfl
theorem D8y {a b : Nat} {d : D} : AC.ren a b (.dat d) = .dat d := rfl
theorem D7a {a b : Nat} : AC.ren a b .nil = .nil := rfl
theorem D8t {a b : Nat} : AC.ren a b .undef = .undef := rfl
theorem E02 {a b i : Nat} : AC.ren a b (.own i) = .own (bif i == a then b else i) := rfl
theorem D9j {a b i x y : Nat} : AC.ren a b (.osub i x y) = .osub (bif i == a then b else i) x y := rfl
theorem D8j {a b i x y : Nat} : AC.ren a b (.pe i x y) = .pe (bif i == a then b else i) x y := rfl
theorem D6n {a b i x : Nat} : AC.ren a b (.pb i x) = .pb i x := rfl
theorem D0g {t : TypeId} {a b : D} : A5q t (.v (.ag [.dat a,.dat b])) = some (.v (.sc (.dat (.ifs t [a,b])))) := rfl
def FCq (P : Program) (f : FuncId) (ds : List DV) (rs : List R1) : Option D → Prop
 | none => FC P f ds rs
 | some d => FCp P f ds d
theorem D3m {P : Program} (hm : P.follows .mixedOrders = true) {f nt : Nat} {c : ACode} {ts : List RV} {xs : List DV} {rs : List R1} {pd : Option D} {σ : St} (he : A9 P f = some (c.strip,ts,nt)) (hl : Nat.ble xs.length nt = true) (hσ : St.init xs = σ)
  (h : go P [.code c] (C1j ts rs pd) .normal (some σ)) : FCq P f xs rs pd := by
 cases pd with
 | none => exact C8x hm he (Nat.le_of_ble_eq_true hl) (A60 c (fun e σ h => by cases e <;> first | exact h | exact h.elim) (hσ ▸ A01 h))
 | some d => exact D53 hm he (Nat.le_of_ble_eq_true hl) (hσ ▸ A01 h)
theorem FCq.none {P : Program} {f : FuncId} {ds : List DV} {rs : List R1} {pd : Option D} (h : FCq P f ds rs pd) (hp : pd = none) : FC P f ds rs := by subst hp; exact h
theorem FCq.some {P : Program} {f : FuncId} {ds : List DV} {rs : List R1} {pd : Option D} {d : D} (h : FCq P f ds rs pd) (hp : pd = some d) : FCp P f ds d := by subst hp; exact h
theorem D3h {t : TypeId} {id : Nat} : A5q t (.v (.sc (.pb id 0))) = some (.v (.sc (.ipb t id))) := rfl
theorem D50 {id i : Nat} {t : TypeId} : AC.kill id (.ipb t i) = .ipb t i := rfl
theorem D9m {id i : Nat} {t : TypeId} {es : List (List D)} : AC.frz id es (.ipb t i) = .ipb t i := rfl
theorem C8b {P : Program} {k : List Fr} {Q : AExit → St → Prop} {σ : St} {its : List AItem} {id : Nat} {cs : List AC} {ds : List D} (hf : A2 σ.bx id = some cs) (hd : A2s cs = some ds) (H : go P (.ops its :: k) Q .normal (some (({ σ with bx := erase σ.bx [id] } : St).map (AC.frzb id ds)))) (h0 : (id / 1099511627776 == 0) = true := by rfl) :
  go P (.ops ((none,.frzb id) :: its) :: k) Q .normal (some σ) := by
 rw [D2s]
 simp only [St.step,hf,hd,h0,Bool.not_true,Bool.false_eq_true,if_false]
 exact H
theorem D33 {g : Bool} {ks : List FK} {cs ds : List AC} : B2l g ks (.v (.ag cs)) (.v (.ag ds)) = (S3 ks cs ds).map fun b => .v (.sc (.dat (.bool (bif g then !b else b)))) := rfl
theorem D8r : S3 [] [] [] = some true := rfl
theorem E0h {k : IntKind} {x y : Int} {ks : List FK} {cs ds : List AC} : S3 (.i :: ks) (.dat (.int k x) :: cs) (.dat (.int k y) :: ds) = (S3 ks cs ds).map fun b => (x == y) && b := if_pos rfl
theorem E08 {x y : Bool} {ks : List FK} {cs ds : List AC} : S3 (.b :: ks) (.dat (.bool x) :: cs) (.dat (.bool y) :: ds) = (S3 ks cs ds).map fun b => (x == y) && b := rfl
theorem D9k {x y : List UInt8} {ks : List FK} {cs ds : List AC} : S3 (.s :: ks) (.dat (.str x) :: cs) (.dat (.str y) :: ds) = (S3 ks cs ds).map fun b => (x == y) && b := rfl
def D3k := And.intro @D30 (And.intro @E1y (And.intro @D2j (And.intro @D4v (And.intro @C8f (And.intro @C4m (And.intro @C45 (And.intro @D2y (And.intro @C9r (And.intro @B3u (And.intro @B3p (And.intro @D16 (And.intro @C9d (And.intro @C5w (And.intro @D1c (And.intro @C9c (And.intro @C5d (And.intro @D5m (And.intro @D5t (And.intro @D3o (And.intro @D4z (And.intro @D45 (And.intro @D5b (And.intro @D4y (And.intro @D6b (And.intro @D4k (And.intro @D3h (And.intro @D50 (And.intro @D9m (And.intro @D8y (And.intro @D7a (And.intro @D8t (And.intro @E02 (And.intro @D9j (And.intro @D8j (And.intro @D6n (And.intro @D46 (And.intro @D3b (And.intro @B8h (And.intro @B9x (And.intro @D0g (And.intro @B6h (And.intro @D5e (And.intro @D6j (And.intro @D42 (And.intro @C99 (And.intro @D33 (And.intro @D8r (And.intro @E0h (And.intro @E08 @D9k)))))))))))))))))))))))))))))))))))))))))))))))))
end Go.Vi
