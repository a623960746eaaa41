/-
  The value level: the rules of the evaluation, as one theorem. No condition.
-/
import Derived.Test.YtahienmgcfgclaaGVi26
namespace Go.Vi
set_option linter.unusedSimpArgs false
set_option linter.unusedVariables false
section
variable {P : Program}
end
theorem C8m {α : Type} {n : Nat} : A2 ([] : List (Nat × α)) n = none := rfl
theorem C4c {α : Type} {k n : Nat} {v : α} {r : List (Nat × α)} : A2 ((k,v) :: r) n = bif k == n then some v else A2 r n := rfl
theorem C9k {α : Type} {n : Nat} {v : α} : put ([] : List (Nat × α)) n v = [(n,v)] := rfl
theorem C79 {α : Type} {k n : Nat} {u v : α} {r : List (Nat × α)} : put ((k,u) :: r) n v = bif k == n then (k,v) :: r else (k,u) :: put r n v := rfl
theorem D9u {σ : St} {n : Nat} : σ.val (.t n) = σ.get n := rfl
theorem D7p {σ : St} {v : AV} : σ.val (.c v) = v := rfl
theorem D5p {env bx rows} {k : Nat} : (St.mk env bx rows).get k = (A2 env k).getD .undef := rfl
theorem D5n {env bx rows} {k : Nat} {v : AV} : (St.mk env bx rows).set k v = ⟨put env k v,bx,rows⟩ := rfl
theorem getD_some {α : Type} {a b : α} : (some a).getD b = a := rfl
theorem C2v {α : Type} {b : α} : (none : Option α).getD b = b := rfl
theorem map_some {α β : Type} {f : α → β} {a : α} : (some a).map f = some (f a) := rfl
theorem map_none {α β : Type} {f : α → β} : (none : Option α).map f = none := rfl
theorem D66 {α : Type} {a b : α} : cond true a b = a := rfl
theorem D9y {α : Type} {a b : α} : cond false a b = b := rfl
theorem C5b {s : List UInt8} : A88 (.v (.sc (.dat (.str s)))) = some (.v (.sc (.dat (.int .i64 s.length)))) := rfl
theorem D4l {rs : Rows} {es : List (List D)} : A5b rs (.v (.sc (.dat (.sl es)))) = some (.v (.sc (.dat (.int .i64 es.length)))) := rfl
theorem C5n {rs : Rows} {es : List (List D)} : A38 rs (.v (.sc (.dat (.sl es)))) = (X0 es).map fun b => .v (.sc (.dat (.str b))) := rfl
theorem C3i {rs : Rows} {id : Nat} : A38 rs (.v (.sc (.own id))) = match A2 rs id with | some (_,es) => (X0 es).map fun b => .v (.sc (.dat (.str b))) | none => none := rfl
theorem D2w {rs : Rows} : A5b rs (.v (.sc .nil)) = some (.v (.sc (.dat (.int .i64 0)))) := rfl
theorem C7b {k k' : IntKind} {n : Int} : B9p k (.v (.sc (.dat (.int k' n)))) = some (.v (.sc (.dat (.int k (k.wrap n))))) := rfl
theorem C90 {op : BinOp} {k : IntKind} {x y : Int} : A26 op (.v (.sc (.dat (.int k x)))) (.v (.sc (.dat (.int k y)))) = (L3 op k x y).map fun d => .v (.sc (.dat d)) := by simp [A26]
theorem D0a {op : BinOp} {x y : List UInt8} : A26 op (.v (.sc (.dat (.str x)))) (.v (.sc (.dat (.str y)))) = (A8k op x y).map fun d => .v (.sc (.dat d)) := rfl
theorem D02 {k : IntKind} {x y : Int} : L3 .add k x y = some (.int k (k.wrap (x + y))) := rfl
theorem D0b {k : IntKind} {x y : Int} : L3 .sub k x y = some (.int k (k.wrap (x - y))) := rfl
theorem D1j {k : IntKind} {x y : Int} : L3 .mul k x y = some (.int k (k.wrap (x * y))) := rfl
theorem D0h {k : IntKind} {x y : Int} : L3 .quo k x y = bif y == 0 then none else some (.int k (k.wrap (x.tdiv y))) := by
 by_cases h : y = 0
 ·simp [L3,h]
 ·have h' : (y == 0) = false := by simpa using h
  simp [L3,h,h']
theorem D1v {k : IntKind} {x y : Int} : L3 .rem k x y = bif y == 0 then none else some (.int k (k.wrap (x.tmod y))) := by
 by_cases h : y = 0
 ·simp [L3,h]
 ·have h' : (y == 0) = false := by simpa using h
  simp [L3,h,h']
theorem D0s {k : IntKind} {x y : Int} : L3 .eql k x y = some (.bool (x == y)) := rfl
theorem C88 {k : IntKind} {x y : Int} : L3 .neq k x y = some (.bool (x != y)) := rfl
theorem C9g {k : IntKind} {x y : Int} : L3 .lss k x y = some (.bool (decide (x < y))) := rfl
theorem C92 {k : IntKind} {x y : Int} : L3 .leq k x y = some (.bool (decide (x ≤ y))) := rfl
theorem D2e {k : IntKind} {x y : Int} : L3 .gtr k x y = some (.bool (decide (y < x))) := rfl
theorem D0r {k : IntKind} {x y : Int} : L3 .geq k x y = some (.bool (decide (y ≤ x))) := rfl
theorem D2g {x y : List UInt8} : A8k .eql x y = some (.bool (x == y)) := rfl
theorem D17 {x y : List UInt8} : A8k .neq x y = some (.bool (!(x == y))) := rfl
theorem D3c {b : Bool} : unV .not (.v (.sc (.dat (.bool b)))) = some (.v (.sc (.dat (.bool (!b))))) := rfl
theorem D0m {s : List UInt8} {k : IntKind} {i : Int} : B2u (.v (.sc (.dat (.str s)))) (.v (.sc (.dat (.int k i)))) = (ix s i).map fun b => .v (.sc (.dat (.int .u8 b.toNat))) := rfl
theorem D3v {α : Type} {l : List α} {i : Nat} (h : i < l.length) : ix l (i : Int) = some l[i] := by simp [ix,h]
theorem C6u {off : Nat} {g : Bool} {n : Nat} {cs : List AC} : A4d off g n (.v (.ag cs)) = T9 cs off g n := rfl
theorem D1f {cs : List AC} {off n : Nat} : T9 cs off false n = (cs[off]?).map fun c => .v (.sc c) := rfl
theorem D1d {env bx rows} {d : Nat} {rs : List R1} : (St.mk env bx rows).inst d rs = ⟨put env d (I4 d rs),bx,G9 rows (M6 d rs)⟩ := rfl
theorem B8k {g : Nat} {r : R1} : I4 g [r] = .v (r.inst g 0) := rfl
theorem B74 {g : Nat} {r r' : R1} {rs : List R1} : I4 g (r :: r' :: rs) = .tup (S6 g 0 (r :: r' :: rs)) := rfl
theorem B6u {g j : Nat} : S6 g j [] = [] := rfl
theorem B4f {g j : Nat} {r : R1} {rs : List R1} : S6 g j (r :: rs) = r.inst g j :: S6 g (j + r.width) rs := rfl
theorem C52 {c : RC} : R1.width (.sc c) = 1 := rfl
theorem C77 {cs : List RC} : R1.width (.ag cs) = cs.length := rfl
theorem D59 {g j : Nat} {d : D} : RC.inst g j (.v d) = .dat d := rfl
theorem D54 {g j sz : Nat} {es : List (List D)} : RC.inst g j (.o sz es) = .own (g * 64 + j) := rfl
theorem D1r {g j : Nat} {c : RC} : R1.inst g j (.sc c) = .sc (c.inst g j) := rfl
theorem D1z {g j : Nat} {cs : List RC} : R1.inst g j (.ag cs) = .ag (T4 g j cs) := rfl
theorem B4o {g j : Nat} : T4 g j [] = [] := rfl
theorem B2r {g j : Nat} {c : RC} {cs : List RC} : T4 g j (c :: cs) = c.inst g j :: T4 g (j + 1) cs := rfl
theorem B7x {g : Nat} : M6 g [] = [] := rfl
theorem B78 {g : Nat} {r : R1} : M6 g [r] = G1 g 0 r.cells := by simp [M6]
theorem B7y {g : Nat} {r r' : R1} : M6 g [r,r'] = G1 g 0 (r.cells ++ r'.cells) := by simp [M6]
theorem C7x {c : RC} : R1.cells (.sc c) = [c] := rfl
theorem C6c {cs : List RC} : R1.cells (.ag cs) = cs := rfl
theorem B4r {g j : Nat} : G1 g j [] = [] := rfl
theorem B70 {g j : Nat} {d : D} {cs : List RC} : G1 g j (.v d :: cs) = G1 g (j + 1) cs := rfl
theorem B72 {g j sz : Nat} {es : List (List D)} {cs : List RC} : G1 g j (.o sz es :: cs) = (g * 64 + j,sz,es) :: G1 g (j + 1) cs := rfl
theorem C0l {rows : Rows} : G9 rows [] = rows := rfl
theorem B7z {rows r : Rows} {k : Nat} {x : Nat × List (List D)} : G9 rows ((k,x) :: r) = put (G9 rows r) k x := rfl
theorem D06 {α : Type} {l : List α} : [] ++ l = l := rfl
theorem C7z {α : Type} {a : α} {l m : List α} : (a :: l) ++ m = a :: (l ++ m) := rfl
theorem C8c {x : Int} : (x != x) = false := by simp
theorem C63 {x : Int} : (x == x) = true := by simp
section
variable {P : Program} {k : List Fr} {Q : AExit → St → Prop} {σ : St} {its : List DItem} {n : Nat} {N : List Nat}
theorem D7k {d x} : go P (.dops ((some [],none,.mv d x) :: its) :: k) Q .normal (some σ) = go P (.ops [(none,.mv d x)] :: .dops its :: k) Q .normal (some σ) := F3 rfl rfl
theorem C9o {d c a b} : go P (.dops ((some [],none,.pick d c a b) :: its) :: k) Q .normal (some σ) = go P (.ops [(none,.pick d c a b)] :: .dops its :: k) Q .normal (some σ) := F3 rfl rfl
theorem C5j {d zs ps} : go P (.dops ((some [],none,.build d zs ps) :: its) :: k) Q .normal (some σ) = go P (.ops [(none,.build d zs ps)] :: .dops its :: k) Q .normal (some σ) := F3 rfl rfl
theorem D2c {d x g n} : go P (.dops ((some [],none,.load d x g n) :: its) :: k) Q .normal (some σ) = go P (.ops [(none,.load d x g n)] :: .dops its :: k) Q .normal (some σ) := F3 rfl rfl
theorem C9i {d x} : go P (.dops ((some [],none,.nilc d x) :: its) :: k) Q .normal (some σ) = go P (.ops [(none,.nilc d x)] :: .dops its :: k) Q .normal (some σ) := F3 rfl rfl
theorem D4u {d op x y} : go P (.dops ((some [],none,.bin d op x y) :: its) :: k) Q .normal (some σ) = go P (.ops [(none,.bin d op x y)] :: .dops its :: k) Q .normal (some σ) := F3 rfl rfl
theorem D6j {d g ks x y} : go P (.dops ((some [],none,.geq d g ks x y) :: its) :: k) Q .normal (some σ) = go P (.ops [(none,.geq d g ks x y)] :: .dops its :: k) Q .normal (some σ) := F3 rfl rfl
theorem D22 {d g x y} : go P (.dops ((some [],none,.beq d g x y) :: its) :: k) Q .normal (some σ) = go P (.ops [(none,.beq d g x y)] :: .dops its :: k) Q .normal (some σ) := F3 rfl rfl
theorem E1p {d op x} : go P (.dops ((some [],none,.un d op x) :: its) :: k) Q .normal (some σ) = go P (.ops [(none,.un d op x)] :: .dops its :: k) Q .normal (some σ) := F3 rfl rfl
theorem C86 {d kd x} : go P (.dops ((some [],none,.conv d kd x) :: its) :: k) Q .normal (some σ) = go P (.ops [(none,.conv d kd x)] :: .dops its :: k) Q .normal (some σ) := F3 rfl rfl
theorem D27 {d sz x lo hi mx} : go P (.dops ((some [],none,.slc d sz x lo hi mx) :: its) :: k) Q .normal (some σ) = go P (.ops [(none,.slc d sz x lo hi mx)] :: .dops its :: k) Q .normal (some σ) := F3 rfl rfl
theorem D0e {d x lo hi} : go P (.dops ((some [],none,.sslc d x lo hi) :: its) :: k) Q .normal (some σ) = go P (.ops [(none,.sslc d x lo hi)] :: .dops its :: k) Q .normal (some σ) := F3 rfl rfl
theorem C7q {d x off} : go P (.dops ((some [],none,.faddr d x off) :: its) :: k) Q .normal (some σ) = go P (.ops [(none,.faddr d x off)] :: .dops its :: k) Q .normal (some σ) := F3 rfl rfl
theorem C64 {d x off g n} : go P (.dops ((some [],none,.field d x off g n) :: its) :: k) Q .normal (some σ) = go P (.ops [(none,.field d x off g n)] :: .dops its :: k) Q .normal (some σ) := F3 rfl rfl
theorem C7i {d x i sz} : go P (.dops ((some [],none,.iaddr d x i sz) :: its) :: k) Q .normal (some σ) = go P (.ops [(none,.iaddr d x i sz)] :: .dops its :: k) Q .normal (some σ) := F3 rfl rfl
theorem C7w {d x i len sz} : go P (.dops ((some [],none,.aaddr d x i len sz) :: its) :: k) Q .normal (some σ) = go P (.ops [(none,.aaddr d x i len sz)] :: .dops its :: k) Q .normal (some σ) := F3 rfl rfl
theorem D48 {d x i} : go P (.dops ((some [],none,.idx d x i) :: its) :: k) Q .normal (some σ) = go P (.ops [(none,.idx d x i)] :: .dops its :: k) Q .normal (some σ) := F3 rfl rfl
theorem C9p {d x i} : go P (.dops ((some [],none,.extr d x i) :: its) :: k) Q .normal (some σ) = go P (.ops [(none,.extr d x i)] :: .dops its :: k) Q .normal (some σ) := F3 rfl rfl
theorem D16 {d t x} : go P (.dops ((some [],none,.mkif d t x) :: its) :: k) Q .normal (some σ) = go P (.ops [(none,.mkif d t x)] :: .dops its :: k) Q .normal (some σ) := F3 rfl rfl
theorem D1c {d x t zc} : go P (.dops ((some [],none,.tass d x t zc) :: its) :: k) Q .normal (some σ) = go P (.ops [(none,.tass d x t zc)] :: .dops its :: k) Q .normal (some σ) := F3 rfl rfl
theorem D4j {d x} : go P (.dops ((some [],none,.len d x) :: its) :: k) Q .normal (some σ) = go P (.ops [(none,.len d x)] :: .dops its :: k) Q .normal (some σ) := F3 rfl rfl
theorem C9e {d x} : go P (.dops ((some [],none,.slen d x) :: its) :: k) Q .normal (some σ) = go P (.ops [(none,.slen d x)] :: .dops its :: k) Q .normal (some σ) := F3 rfl rfl
theorem C5a {d x} : go P (.dops ((some [],none,.sconv d x) :: its) :: k) Q .normal (some σ) = go P (.ops [(none,.sconv d x)] :: .dops its :: k) Q .normal (some σ) := F3 rfl rfl
theorem D6r {d m x y} : go P (.dops ((some [],none,.mm d m x y) :: its) :: k) Q .normal (some σ) = go P (.ops [(none,.mm d m x y)] :: .dops its :: k) Q .normal (some σ) := F3 rfl rfl
theorem D3i {d f caps} : go P (.dops ((some [],none,.mkf d f caps) :: its) :: k) Q .normal (some σ) = go P (.ops [(none,.mkf d f caps)] :: .dops its :: k) Q .normal (some σ) := F3 rfl rfl
theorem D29 {d x} : go P (.dops ((some [],none,.box d x) :: its) :: k) Q .normal (some σ) = go P (.ops [(none,.box d x)] :: .dops its :: k) Q .normal (some σ) := F3 rfl rfl
theorem C5q {d cs} : go P (.dops ((some [],none,.alloc d cs) :: its) :: k) Q .normal (some σ) = go P (.ops [(none,.alloc d cs)] :: .dops its :: k) Q .normal (some σ) := F3 rfl rfl
theorem C20 {d sz zs len ps} : go P (.dops ((some [],none,.bslice d sz zs len ps) :: its) :: k) Q .normal (some σ) = go P (.ops [(none,.bslice d sz zs len ps)] :: .dops its :: k) Q .normal (some σ) := F3 rfl rfl
theorem D0y {d sz b zs x y} : go P (.dops ((some [],none,.mksl d sz b zs x y) :: its) :: k) Q .normal (some σ) = go P (.ops [(none,.mksl d sz b zs x y)] :: .dops its :: k) Q .normal (some σ) := F3 rfl rfl
theorem D98 {d x} : go P (.dops ((some (n :: N),none,.mv d x) :: its) :: k) Q .normal (some σ) = go P (.dops its :: k) Q .normal (M2 σ (n :: N) (some d) ((σ.less (n :: N)).step (.mv d x))) := G6 rfl
theorem D2p {d c a b} : go P (.dops ((some (n :: N),none,.pick d c a b) :: its) :: k) Q .normal (some σ) = go P (.dops its :: k) Q .normal (M2 σ (n :: N) (some d) ((σ.less (n :: N)).step (.pick d c a b))) := G6 rfl
theorem C6p {d zs ps} : go P (.dops ((some (n :: N),none,.build d zs ps) :: its) :: k) Q .normal (some σ) = go P (.dops its :: k) Q .normal (M2 σ (n :: N) (some d) ((σ.less (n :: N)).step (.build d zs ps))) := G6 rfl
theorem C9q {d x g m} : go P (.dops ((some (n :: N),none,.load d x g m) :: its) :: k) Q .normal (some σ) = go P (.dops its :: k) Q .normal (M2 σ (n :: N) (some d) ((σ.less (n :: N)).step (.load d x g m))) := G6 rfl
theorem D2u {d x} : go P (.dops ((some (n :: N),none,.nilc d x) :: its) :: k) Q .normal (some σ) = go P (.dops its :: k) Q .normal (M2 σ (n :: N) (some d) ((σ.less (n :: N)).step (.nilc d x))) := G6 rfl
theorem D5h {d op x y} : go P (.dops ((some (n :: N),none,.bin d op x y) :: its) :: k) Q .normal (some σ) = go P (.dops its :: k) Q .normal (M2 σ (n :: N) (some d) ((σ.less (n :: N)).step (.bin d op x y))) := G6 rfl
theorem D42 {d g ks x y} : go P (.dops ((some (n :: N),none,.geq d g ks x y) :: its) :: k) Q .normal (some σ) = go P (.dops its :: k) Q .normal (M2 σ (n :: N) (some d) ((σ.less (n :: N)).step (.geq d g ks x y))) := G6 rfl
theorem D4g {d g x y} : go P (.dops ((some (n :: N),none,.beq d g x y) :: its) :: k) Q .normal (some σ) = go P (.dops its :: k) Q .normal (M2 σ (n :: N) (some d) ((σ.less (n :: N)).step (.beq d g x y))) := G6 rfl
theorem E0a {d op x} : go P (.dops ((some (n :: N),none,.un d op x) :: its) :: k) Q .normal (some σ) = go P (.dops its :: k) Q .normal (M2 σ (n :: N) (some d) ((σ.less (n :: N)).step (.un d op x))) := G6 rfl
theorem C87 {d kd x} : go P (.dops ((some (n :: N),none,.conv d kd x) :: its) :: k) Q .normal (some σ) = go P (.dops its :: k) Q .normal (M2 σ (n :: N) (some d) ((σ.less (n :: N)).step (.conv d kd x))) := G6 rfl
theorem D32 {d sz x lo hi mx} : go P (.dops ((some (n :: N),none,.slc d sz x lo hi mx) :: its) :: k) Q .normal (some σ) = go P (.dops its :: k) Q .normal (M2 σ (n :: N) (some d) ((σ.less (n :: N)).step (.slc d sz x lo hi mx))) := G6 rfl
theorem D1i {d x lo hi} : go P (.dops ((some (n :: N),none,.sslc d x lo hi) :: its) :: k) Q .normal (some σ) = go P (.dops its :: k) Q .normal (M2 σ (n :: N) (some d) ((σ.less (n :: N)).step (.sslc d x lo hi))) := G6 rfl
theorem C6m {d x off} : go P (.dops ((some (n :: N),none,.faddr d x off) :: its) :: k) Q .normal (some σ) = go P (.dops its :: k) Q .normal (M2 σ (n :: N) (some d) ((σ.less (n :: N)).step (.faddr d x off))) := G6 rfl
theorem C53 {d x off g m} : go P (.dops ((some (n :: N),none,.field d x off g m) :: its) :: k) Q .normal (some σ) = go P (.dops its :: k) Q .normal (M2 σ (n :: N) (some d) ((σ.less (n :: N)).step (.field d x off g m))) := G6 rfl
theorem C7r {d x i sz} : go P (.dops ((some (n :: N),none,.iaddr d x i sz) :: its) :: k) Q .normal (some σ) = go P (.dops its :: k) Q .normal (M2 σ (n :: N) (some d) ((σ.less (n :: N)).step (.iaddr d x i sz))) := G6 rfl
theorem C62 {d x i len sz} : go P (.dops ((some (n :: N),none,.aaddr d x i len sz) :: its) :: k) Q .normal (some σ) = go P (.dops its :: k) Q .normal (M2 σ (n :: N) (some d) ((σ.less (n :: N)).step (.aaddr d x i len sz))) := G6 rfl
theorem D5o {d x i} : go P (.dops ((some (n :: N),none,.idx d x i) :: its) :: k) Q .normal (some σ) = go P (.dops its :: k) Q .normal (M2 σ (n :: N) (some d) ((σ.less (n :: N)).step (.idx d x i))) := G6 rfl
theorem C9a {d x i} : go P (.dops ((some (n :: N),none,.extr d x i) :: its) :: k) Q .normal (some σ) = go P (.dops its :: k) Q .normal (M2 σ (n :: N) (some d) ((σ.less (n :: N)).step (.extr d x i))) := G6 rfl
theorem C9d {d t x} : go P (.dops ((some (n :: N),none,.mkif d t x) :: its) :: k) Q .normal (some σ) = go P (.dops its :: k) Q .normal (M2 σ (n :: N) (some d) ((σ.less (n :: N)).step (.mkif d t x))) := G6 rfl
theorem C9c {d x t zc} : go P (.dops ((some (n :: N),none,.tass d x t zc) :: its) :: k) Q .normal (some σ) = go P (.dops its :: k) Q .normal (M2 σ (n :: N) (some d) ((σ.less (n :: N)).step (.tass d x t zc))) := G6 rfl
theorem D4n {d x} : go P (.dops ((some (n :: N),none,.len d x) :: its) :: k) Q .normal (some σ) = go P (.dops its :: k) Q .normal (M2 σ (n :: N) (some d) ((σ.less (n :: N)).step (.len d x))) := G6 rfl
theorem C9y {d x} : go P (.dops ((some (n :: N),none,.slen d x) :: its) :: k) Q .normal (some σ) = go P (.dops its :: k) Q .normal (M2 σ (n :: N) (some d) ((σ.less (n :: N)).step (.slen d x))) := G6 rfl
theorem C6z {d x} : go P (.dops ((some (n :: N),none,.sconv d x) :: its) :: k) Q .normal (some σ) = go P (.dops its :: k) Q .normal (M2 σ (n :: N) (some d) ((σ.less (n :: N)).step (.sconv d x))) := G6 rfl
theorem D9r {d m x y} : go P (.dops ((some (n :: N),none,.mm d m x y) :: its) :: k) Q .normal (some σ) = go P (.dops its :: k) Q .normal (M2 σ (n :: N) (some d) ((σ.less (n :: N)).step (.mm d m x y))) := G6 rfl
theorem D3z {d f caps} : go P (.dops ((some (n :: N),none,.mkf d f caps) :: its) :: k) Q .normal (some σ) = go P (.dops its :: k) Q .normal (M2 σ (n :: N) (some d) ((σ.less (n :: N)).step (.mkf d f caps))) := G6 rfl
theorem C7j {t : Nat} {o : AOp} {N : List Nat} : go P (.dops ((some N,some (t,true),o) :: its) :: k) Q .normal (some σ) = go P (.gdd (σ.get t) true (some N) o its :: k) Q .normal (some σ) := by
 show D6 (some (t,true)) σ _ _ = _
 rw [B8v]
 show _ = Q2 _ _ _ _
 simp only [cond_true]
 congr 1 <;> (cases o.dst <;> rfl)
theorem C66 {t : Nat} {o : AOp} {N : List Nat} : go P (.dops ((some N,some (t,false),o) :: its) :: k) Q .normal (some σ) = go P (.gdd (σ.get t) false (some N) o its :: k) Q .normal (some σ) := by
 show D6 (some (t,false)) σ _ _ = _
 rw [B8q]
 show _ = Q2 _ _ _ _
 simp only [cond_false]
 congr 1 <;> (cases o.dst <;> rfl)
theorem D7c {b : Bool} {o : AOp} {N : Option (List Nat)} : go P (.gdd (.v (.sc (.dat (.bool b)))) b N o its :: k) Q .normal (some σ) = go P (.dops ((N,none,o) :: its) :: k) Q .normal (some σ) := by
 cases b <;> simp [go,go0,Q2]
theorem E1f {o : AOp} {N : Option (List Nat)} : go P (.gdd (.v (.sc (.dat (.bool false)))) true N o its :: k) Q .normal (some σ) = go P (.dops its :: k) Q .normal (unw σ o.dst) := by
 simp only [go,go0,Q2,cond_true]
 cases o.dst <;> simp [P7,unw]
theorem E0x {o : AOp} {N : Option (List Nat)} : go P (.gdd (.v (.sc (.dat (.bool true)))) false N o its :: k) Q .normal (some σ) = go P (.dops its :: k) Q .normal (unw σ o.dst) := by
 simp only [go,go0,Q2,cond_false]
 cases o.dst <;> simp [P7,unw]
theorem D7r {w : Bool} {o : AOp} {N : Option (List Nat)} : go P (.gdd .no w N o its :: k) Q .normal (some σ) = go P (.dops its :: k) Q .normal (unw σ o.dst) := by
 simp only [go,go0,Q2]
 cases o.dst <;> simp [P7,unw]
theorem C3r {w : Bool} {o : AOp} {its : List AItem} : go P (.gd .no w o its :: k) Q .normal (some σ) = go P (.ops its :: k) Q .normal (unw σ o.dst) := by
 simp only [go,go0,Q2]
 cases o.dst <;> simp [P7,unw]
end
def A4i (k : Nat) : List Nat → Bool
 | [] => false
 | n :: r => bif k == n then true else A4i k r
def A1z {α : Type} (f : Nat → Nat) (N : List Nat) : List (Nat × α) → List (Nat × α)
 | [] => []
 | (k,v) :: r => bif A4i (f k) N then A1z f N r else (k,v) :: A1z f N r
theorem A6k (k : Nat) : ∀ N : List Nat,A4i k N = N.contains k
 | [] => rfl
 | n :: r => by
  simp only [A4i,List.contains_cons,A6k k r]
  cases k == n <;> rfl
theorem B0g {α : Type} (f : Nat → Nat) (N : List Nat) : ∀ l : List (Nat × α),A1z f N l = l.filter fun p => !N.contains (f p.1)
 | [] => rfl
 | (k,v) :: r => by
  simp only [A1z,A6k,List.filter_cons,B0g f N r]
  cases N.contains (f k) <;> rfl
theorem D19 {env bx rows} {n : Nat} {N : List Nat} : (St.mk env bx rows).less (n :: N) = ⟨env,A1z id (n :: N) bx,A1z (· / 64) (n :: N) rows⟩ := by
 rw [B0g,B0g]
 rfl
theorem C7d {k : Nat} : A4i k [] = false := rfl
theorem C4u {k n : Nat} {r : List Nat} : A4i k (n :: r) = bif k == n then true else A4i k r := rfl
theorem C5e {α : Type} {f : Nat → Nat} {N : List Nat} : A1z f N ([] : List (Nat × α)) = [] := rfl
theorem D07 {α : Type} {N : List Nat} {k : Nat} {v : α} {r : List (Nat × α)} : A1z id N ((k,v) :: r) = bif A4i k N then A1z id N r else (k,v) :: A1z id N r := rfl
theorem D1m {α : Type} {N : List Nat} {k : Nat} {v : α} {r : List (Nat × α)} : A1z (· / 64) N ((k,v) :: r) = bif A4i (k / 64) N then A1z (· / 64) N r else (k,v) :: A1z (· / 64) N r := rfl
theorem C4i {σ τ : St} {N : List Nat} {d : Nat} : M2 σ N (some d) (some τ) = bif (τ.get d).avoids N then some (σ.set d (τ.get d)) else none := rfl
theorem C6i {σ : St} {d : Nat} : unw σ (some d) = some (σ.set d .no) := rfl
theorem D3w {N : List Nat} {d : D} : AV.avoids N (.v (.sc (.dat d))) = true := by simp [AV.avoids,AV.cells,V1.cells,AC.avoids,AC.uses]
theorem D4d {N : List Nat} : AV.avoids N (.v (.sc .nil)) = true := by simp [AV.avoids,AV.cells,V1.cells,AC.avoids,AC.uses]
theorem D4x {N : List Nat} {i : Nat} : AV.avoids N (.v (.sc (.own i))) = !A4i (i / 64) N := by
 rw [A6k]
 induction N with
 | nil => rfl
 | cons n N ih =>
  simp only [AV.avoids,AV.cells,V1.cells,AC.avoids,AC.uses,List.all_cons,List.all_nil,Bool.and_true,List.contains_cons] at ih ⊢
  rw [ih]
  cases (i / 64 == n) <;> simp
theorem E01 {N : List Nat} {i o : Nat} : AV.avoids N (.v (.sc (.pb i o))) = !A4i i N := by
 rw [A6k]
 induction N with
 | nil => rfl
 | cons n N ih =>
  simp only [AV.avoids,AV.cells,V1.cells,AC.avoids,AC.uses,List.all_cons,List.all_nil,Bool.and_true,List.contains_cons] at ih ⊢
  rw [ih]
  cases (i == n) <;> simp
theorem D7e {N : List Nat} {i x o : Nat} : AV.avoids N (.v (.sc (.pe i x o))) = !A4i (i / 64) N := by
 rw [A6k]
 induction N with
 | nil => rfl
 | cons n N ih =>
  simp only [AV.avoids,AV.cells,V1.cells,AC.avoids,AC.uses,List.all_cons,List.all_nil,Bool.and_true,List.contains_cons] at ih ⊢
  rw [ih]
  cases (i / 64 == n) <;> simp
theorem D3j {N : List Nat} : AV.avoids N (.v (.ag [])) = true := rfl
theorem E0e {N : List Nat} {c : AC} {cs : List AC} : AV.avoids N (.v (.ag (c :: cs))) = ((AV.v (.sc c)).avoids N && (AV.v (.ag cs)).avoids N) := by simp [AV.avoids,AV.cells,V1.cells]
theorem C0e : (!false) = true := rfl
theorem C4q : (!true) = false := rfl
theorem D6f : (true && true) = true := rfl
theorem D4a {d x} : AOp.dst (.mv d x) = some d := rfl
theorem C5v {d c a b} : AOp.dst (.pick d c a b) = some d := rfl
theorem C3e {d zs ps} : AOp.dst (.build d zs ps) = some d := rfl
theorem C6v {d x g n} : AOp.dst (.load d x g n) = some d := rfl
theorem C61 {d x} : AOp.dst (.nilc d x) = some d := rfl
theorem D1l {d op x y} : AOp.dst (.bin d op x y) = some d := rfl
theorem C99 {d g ks x y} : AOp.dst (.geq d g ks x y) = some d := rfl
theorem D2n {d g x y} : AOp.dst (.beq d g x y) = some d := rfl
theorem D6h {d op x} : AOp.dst (.un d op x) = some d := rfl
theorem C6r {d kd x} : AOp.dst (.conv d kd x) = some d := rfl
theorem D03 {d sz x lo hi mx} : AOp.dst (.slc d sz x lo hi mx) = some d := rfl
theorem C5u {d x lo hi} : AOp.dst (.sslc d x lo hi) = some d := rfl
theorem C3y {d x off} : AOp.dst (.faddr d x off) = some d := rfl
theorem C23 {d x off g n} : AOp.dst (.field d x off g n) = some d := rfl
theorem C4d {d x i sz} : AOp.dst (.iaddr d x i sz) = some d := rfl
theorem C2r {d x i len sz} : AOp.dst (.aaddr d x i len sz) = some d := rfl
theorem D0t {d x i} : AOp.dst (.idx d x i) = some d := rfl
theorem C6d {d x i} : AOp.dst (.extr d x i) = some d := rfl
theorem C5w {d t x} : AOp.dst (.mkif d t x) = some d := rfl
theorem C5d {d x t zc} : AOp.dst (.tass d x t zc) = some d := rfl
theorem D10 {d x} : AOp.dst (.len d x) = some d := rfl
theorem C56 {d x} : AOp.dst (.slen d x) = some d := rfl
theorem C41 {d x} : AOp.dst (.sconv d x) = some d := rfl
theorem D3g {d m x y} : AOp.dst (.mm d m x y) = some d := rfl
theorem C97 {d f caps} : AOp.dst (.mkf d f caps) = some d := rfl
theorem D0u {d x} : AOp.dst (.box d x) = some d := rfl
theorem C25 {d cs} : AOp.dst (.alloc d cs) = some d := rfl
theorem C0q {d sz zs len ps} : AOp.dst (.bslice d sz zs len ps) = some d := rfl
theorem C57 {d sz b zs x y} : AOp.dst (.mksl d sz b zs x y) = some d := rfl
theorem C5l {d f args} : AOp.dst (.call d f args) = some d := rfl
theorem C2u {d x args} : AOp.dst (.callv d x args) = some d := rfl
def E1i (rs : List R1) : Bool := (rs.flatMap R1.cells).all fun | .v d => d.flat | .o _ _ => false
theorem A3m {rs : List R1} (h : E1i rs = true) : A0l rs := by
 intro c hc
 have := List.all_eq_true.1 h c hc
 cases c with
 | v d => exact this
 | o => cases this
end Go.Vi
